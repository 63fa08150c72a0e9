/- printed walks -/
import Derived.Test.YtagpkeehkcopaaaGreatT1
namespace Go.Proofs.YtagpkeehkcopaaaGreat
open Go.Sk Go
set_option maxHeartbeats 4000000
set_option maxRecDepth 4000
set_option linter.unusedSimpArgs false
set_option linter.unusedVariables false
theorem uS:Tryz.prog.underlying 88 = some (.int .u64):=Tryz.underlying88
theorem undi5:Tryz.prog.underlying 5 = some (.int .u8):=Tryz.underlying5
theorem und9:Tryz.prog.underlying 9 = some .string:=Tryz.underlying9
theorem q7:Tryz.prog.underlying 3 = some (.int .i64):=Tryz.underlying3
theorem goes95:bq Tryz.prog 95:=⟨Tryz.call95⟩
theorem goes114:bq Tryz.prog 114:=⟨Tryz.call114⟩
theorem fO:Tryz.prog.underlying 51 = some (.slice 3):=Tryz.underlying51
theorem qC:Tryz.prog.underlying 112 = some (.int .u64):=Tryz.underlying112
theorem goes69:bq Tryz.prog 69:=⟨Tryz.call69⟩
theorem goes97:bq Tryz.prog 97:=⟨Tryz.call97⟩
theorem dR:cf Tryz.prog 87 0 0 3:=⟨⟨_,_,Tryz.t3,Tryz.underlying87,rfl,rfl,rfl,by kernel_rfl,by decide⟩⟩
theorem aK:c7 Tryz.prog 3:=⟨⟨_,Tryz.underlying3,rfl⟩,⟨Tryz.t3,by kernel_rfl,by kernel_rfl⟩⟩
theorem goes48:bq Tryz.prog 48:=⟨Tryz.call48⟩
theorem eC:jM Tryz.prog 25 ((cW .i64) A3.zero ++ ((cW .i64) A3.zero)):=⟨⟨Tryz.t25,_,by kernel_rfl,rfl,rfl⟩⟩
theorem gw:cf Tryz.prog 87 1 1 25:=⟨⟨_,_,Tryz.t25,Tryz.underlying87,rfl,rfl,rfl,by kernel_rfl,by decide⟩⟩
theorem aB:eR Tryz.prog 25 6:=⟨⟨_,Tryz.underlying25,rfl⟩,⟨Tryz.t25,by kernel_rfl,by kernel_rfl⟩⟩
theorem goes49:bq Tryz.prog 49:=⟨Tryz.call49⟩
theorem qt:bq Tryz.prog 70:=⟨Tryz.call70⟩
theorem sK:bq Tryz.prog 44:=⟨Tryz.call44⟩
theorem bL:kz Tryz.prog 51 3 1 8 [.i 0]:=⟨Tryz.underlying51,⟨Tryz.t3,_,by kernel_rfl,rfl,rfl,rfl,rfl,by decide,rfl⟩⟩
theorem cO:cf Tryz.prog 25 0 0 23:=⟨⟨_,_,Tryz.t23,Tryz.underlying25,rfl,rfl,rfl,by kernel_rfl,by decide⟩⟩
theorem bJ:tx Tryz.prog 23 3 3 1:=⟨Tryz.underlying23,⟨Tryz.t3,by kernel_rfl,by kernel_rfl⟩⟩
theorem goes53:bq Tryz.prog 53:=⟨Tryz.call53⟩
theorem goes52:bq Tryz.prog 52:=⟨Tryz.call52⟩
theorem mixed:Tryz.prog.follows .mixedOrders = true:=by kernel_rfl
theorem goes50:bq Tryz.prog 50:=⟨Tryz.call50⟩
theorem goes51:bq Tryz.prog 51:=⟨Tryz.call51⟩
theorem cN:cf Tryz.prog 25 1 3 23:=⟨⟨_,_,Tryz.t23,Tryz.underlying25,rfl,rfl,rfl,by kernel_rfl,by decide⟩⟩
theorem nf:bq Tryz.prog 14:=⟨Tryz.call14⟩
theorem goes41:bq Tryz.prog 41:=⟨Tryz.call41⟩
theorem lU:Tryz.prog.underlying 42 = some (.pointer (Tryz.prog.pointee 42)):=(by rw [show Tryz.prog.pointee 42 = 117 from by unfold Go.Program.pointee; rw [Tryz.underlying42]]; exact Tryz.underlying42)
theorem goes123:bq Tryz.prog 123:=⟨Tryz.call123⟩
theorem nm:iY Tryz.prog 25 [(0,3),(3,3)] ((cW .i64) A3.zero ++ ((cW .i64) A3.zero)):=⟨⟨Tryz.t25,_,_,by kernel_rfl,rfl,rfl,Tryz.underlying25,by kernel_rfl⟩⟩
theorem sQ:bq Tryz.prog 13:=⟨Tryz.call13⟩
theorem p8:pd Tryz.prog 23 1 ((cW .i64) A3.zero):=⟨⟨Tryz.t23,_,_,_,Tryz.t3,by kernel_rfl,rfl,rfl,Tryz.underlying23,by kernel_rfl,by kernel_rfl⟩⟩
theorem und34:Tryz.prog.underlying 34 = some (.slice 25):=Tryz.underlying34
theorem lV:kz Tryz.prog 34 25 6 48 ((cW .i64) A3.zero ++ ((cW .i64) A3.zero)):=⟨Tryz.underlying34,⟨Tryz.t25,_,by kernel_rfl,rfl,rfl,rfl,rfl,by decide,rfl⟩⟩
theorem goes67:bq Tryz.prog 67:=⟨Tryz.call67⟩
theorem lf:c7 Tryz.prog 34:=⟨⟨_,Tryz.underlying34,rfl⟩,⟨Tryz.t34,by kernel_rfl,by kernel_rfl⟩⟩
theorem ve:bq Tryz.prog 46:=⟨Tryz.call46⟩
theorem goes71:bq Tryz.prog 71:=⟨Tryz.call71⟩
theorem goes72:bq Tryz.prog 72:=⟨Tryz.call72⟩
theorem goes40:bq Tryz.prog 40:=⟨Tryz.call40⟩
theorem goes42:bq Tryz.prog 42:=⟨Tryz.call42⟩
theorem tyZero3:jM Tryz.prog 3 [.i 0]:=⟨⟨Tryz.t3,_,by kernel_rfl,rfl,rfl⟩⟩
theorem goes45:bq Tryz.prog 45:=⟨Tryz.call45⟩
theorem nc:bq Tryz.prog 16:=⟨Tryz.call16⟩
theorem fh:pd Tryz.prog 40 1 ((ec .i64) A2.zero):=⟨⟨Tryz.t40,_,_,_,Tryz.t3,by kernel_rfl,rfl,rfl,Tryz.underlying40,by kernel_rfl,by kernel_rfl⟩⟩
theorem gV:kz Tryz.prog 35 40 2 16 ((ec .i64) A2.zero):=⟨Tryz.underlying35,⟨Tryz.t40,_,by kernel_rfl,rfl,rfl,rfl,rfl,by decide,rfl⟩⟩
theorem goes47:bq Tryz.prog 47:=⟨Tryz.call47⟩
theorem tp:Tryz.prog.underlying 35 = some (.slice 40):=Tryz.underlying35
theorem oo:eR Tryz.prog 40 2:=⟨⟨_,Tryz.underlying40,rfl⟩,⟨Tryz.t40,by kernel_rfl,by kernel_rfl⟩⟩
theorem wg (x y:A2) {d:Nat}:dx Tryz.prog (d + 2) 40 2 ((ec .i64) x) ((ec .i64) y) (decide (x = y)) :=
 (dx.arr (l:=x.l) (l':=y.l) oo Tryz.underlying40 aK Tryz.underlying3).cast (by rw [Bool.eq_iff_iff]; simp [A2.uN])
theorem eqAgg40 (x y:A2):lH Tryz.prog 40 ((ec .i64) x) ((ec .i64) y) (decide (x = y)):=lH.uY (by kernel_rfl) oo (wg x y (d:=9998)) rfl rfl
theorem dO:jM Tryz.prog 49 [.tr af (.leaf),.cZ 0,.cZ 0,.cZ 0,.tr af (.leaf),.cZ 0,.cZ 0,.cZ 0]:=⟨⟨Tryz.t49,_,by kernel_rfl,rfl,rfl⟩⟩
theorem p7:iY Tryz.prog 47 [(0,1),(1,1),(2,1),(3,1)] [.tr af (.leaf),.cZ 0,.cZ 0,.cZ 0]:=⟨⟨Tryz.t47,_,_,by kernel_rfl,rfl,rfl,Tryz.underlying47,by kernel_rfl⟩⟩
theorem fR:iY Tryz.prog 49 [(0,4),(4,4)] [.tr af (.leaf),.cZ 0,.cZ 0,.cZ 0,.tr af (.leaf),.cZ 0,.cZ 0,.cZ 0]:=⟨⟨Tryz.t49,_,_,by kernel_rfl,rfl,rfl,Tryz.underlying49,by kernel_rfl⟩⟩
theorem aI:eR Tryz.prog 49 8:=⟨⟨_,Tryz.underlying49,rfl⟩,⟨Tryz.t49,by kernel_rfl,by kernel_rfl⟩⟩
theorem gl:jM Tryz.prog 87 (.i 0 :: ((cW .i64) A3.zero ++ ((cW .i64) A3.zero))):=⟨⟨Tryz.t87,_,by kernel_rfl,rfl,rfl⟩⟩
theorem jw:cf Tryz.prog 49 0 0 47:=⟨⟨_,_,Tryz.t47,Tryz.underlying49,rfl,rfl,rfl,by kernel_rfl,by decide⟩⟩
theorem fQ:cf Tryz.prog 47 0 0 42:=⟨⟨_,_,Tryz.t42,Tryz.underlying47,rfl,rfl,rfl,by kernel_rfl,by decide⟩⟩
theorem bI:c7 Tryz.prog 42:=⟨⟨_,Tryz.underlying42,rfl⟩,⟨Tryz.t42,by kernel_rfl,by kernel_rfl⟩⟩
theorem eW:cf Tryz.prog 117 0 0 87:=⟨⟨_,_,Tryz.t87,Tryz.underlying117,rfl,rfl,rfl,by kernel_rfl,by decide⟩⟩
theorem bC:eR Tryz.prog 87 7:=⟨⟨_,Tryz.underlying87,rfl⟩,⟨Tryz.t87,by kernel_rfl,by kernel_rfl⟩⟩
theorem ep:cf Tryz.prog 117 3 14 42:=⟨⟨_,_,Tryz.t42,Tryz.underlying117,rfl,rfl,rfl,by kernel_rfl,by decide⟩⟩
theorem eo:cf Tryz.prog 117 4 15 42:=⟨⟨_,_,Tryz.t42,Tryz.underlying117,rfl,rfl,rfl,by kernel_rfl,by decide⟩⟩
theorem p6:iY Tryz.prog 87 [(0,1),(1,6)] (.i 0 :: ((cW .i64) A3.zero ++ ((cW .i64) A3.zero))):=⟨⟨Tryz.t87,_,_,by kernel_rfl,rfl,rfl,Tryz.underlying87,by kernel_rfl⟩⟩
theorem sq:Tryz.prog.underlying 144 = some (.slice 42):=Tryz.underlying144
theorem jO:kz Tryz.prog 144 42 1 8 [.tr af (.leaf)]:=⟨Tryz.underlying144,⟨Tryz.t42,_,by kernel_rfl,rfl,rfl,rfl,rfl,by decide,rfl⟩⟩
theorem goes131:bq Tryz.prog 131:=⟨Tryz.call131⟩
theorem goes122:bq Tryz.prog 122:=⟨Tryz.call122⟩
theorem l8:cf Tryz.prog 117 1 7 88:=⟨⟨_,_,Tryz.t88,Tryz.underlying117,rfl,rfl,rfl,by kernel_rfl,by decide⟩⟩
theorem qD:c7 Tryz.prog 88:=⟨⟨_,Tryz.underlying88,rfl⟩,⟨Tryz.t88,by kernel_rfl,by kernel_rfl⟩⟩
theorem ug:cf Tryz.prog 47 3 3 45:=⟨⟨_,_,Tryz.t45,Tryz.underlying47,rfl,rfl,rfl,by kernel_rfl,by decide⟩⟩
theorem tyOne45:c7 Tryz.prog 45:=⟨⟨_,Tryz.underlying45,rfl⟩,⟨Tryz.t45,by kernel_rfl,by kernel_rfl⟩⟩
theorem pg:iY Tryz.prog 117 [(0,7),(7,1),(8,6),(14,1),(15,1)] (.i 0 :: ((cW .i64) A3.zero ++ ((cW .i64) A3.zero ++ (.int .u64 0 :: ((cW .i64) A3.zero ++ ((cW .i64) A3.zero ++ ([.tr af (.leaf),.tr af (.leaf)]))))))):=⟨⟨Tryz.t117,_,_,by kernel_rfl,rfl,rfl,Tryz.underlying117,by kernel_rfl⟩⟩
theorem goes100:bq Tryz.prog 100:=⟨Tryz.call100⟩
theorem jU:cf Tryz.prog 117 2 8 25:=⟨⟨_,_,Tryz.t25,Tryz.underlying117,rfl,rfl,rfl,by kernel_rfl,by decide⟩⟩
theorem vi:bq Tryz.prog 18:=⟨Tryz.call18⟩
theorem p5:cf Tryz.prog 47 1 1 43:=⟨⟨_,_,Tryz.t43,Tryz.underlying47,rfl,rfl,rfl,by kernel_rfl,by decide⟩⟩
theorem tE:c7 Tryz.prog 43:=⟨⟨_,Tryz.underlying43,rfl⟩,⟨Tryz.t43,by kernel_rfl,by kernel_rfl⟩⟩
theorem bQ:eR Tryz.prog 47 4:=⟨⟨_,Tryz.underlying47,rfl⟩,⟨Tryz.t47,by kernel_rfl,by kernel_rfl⟩⟩
theorem sH:bq Tryz.prog 79:=⟨Tryz.call79⟩
theorem lZ:bq Tryz.prog 80:=⟨Tryz.call80⟩
theorem oL:bq Tryz.prog 82:=⟨Tryz.call82⟩
theorem ri:jM Tryz.prog 47 [.tr af (.leaf),.cZ 0,.cZ 0,.cZ 0]:=⟨⟨Tryz.t47,_,by kernel_rfl,rfl,rfl⟩⟩
theorem uh:cf Tryz.prog 47 2 2 44:=⟨⟨_,_,Tryz.t44,Tryz.underlying47,rfl,rfl,rfl,by kernel_rfl,by decide⟩⟩
theorem tyOne44:c7 Tryz.prog 44:=⟨⟨_,Tryz.underlying44,rfl⟩,⟨Tryz.t44,by kernel_rfl,by kernel_rfl⟩⟩
theorem goes81:bq Tryz.prog 81:=⟨Tryz.call81⟩
theorem qv:bq Tryz.prog 54:=⟨Tryz.call54⟩
theorem vc:bq Tryz.prog 59:=⟨Tryz.call59⟩
theorem nk:cf Tryz.prog 49 1 4 47:=⟨⟨_,_,Tryz.t47,Tryz.underlying49,rfl,rfl,rfl,by kernel_rfl,by decide⟩⟩
theorem rh:jM Tryz.prog 51 [.nil]:=⟨⟨Tryz.t51,_,by kernel_rfl,rfl,rfl⟩⟩
theorem sJ:bq Tryz.prog 57:=⟨Tryz.call57⟩
theorem fg:c7 Tryz.prog 51:=⟨⟨_,Tryz.underlying51,rfl⟩,⟨Tryz.t51,by kernel_rfl,by kernel_rfl⟩⟩
theorem sI:bq Tryz.prog 77:=⟨Tryz.call77⟩
theorem goes75:bq Tryz.prog 75:=⟨Tryz.call75⟩
theorem qu:bq Tryz.prog 55:=⟨Tryz.call55⟩
theorem sG:bq Tryz.prog 83:=⟨Tryz.call83⟩
theorem va:bq Tryz.prog 60:=⟨Tryz.call60⟩
theorem goes98:bq Tryz.prog 98:=⟨Tryz.call98⟩
theorem u6:bq Tryz.prog 99:=⟨Tryz.call99⟩
theorem goes76:bq Tryz.prog 76:=⟨Tryz.call76⟩
theorem sN:bq Tryz.prog 30:=⟨Tryz.call30⟩
theorem na:bq Tryz.prog 29:=⟨Tryz.call29⟩
theorem vd:bq Tryz.prog 56:=⟨Tryz.call56⟩
theorem vH:jM Tryz.prog 35 [.nil]:=⟨⟨Tryz.t35,_,by kernel_rfl,rfl,rfl⟩⟩
theorem qE:c7 Tryz.prog 35:=⟨⟨_,Tryz.underlying35,rfl⟩,⟨Tryz.t35,by kernel_rfl,by kernel_rfl⟩⟩
theorem oM:bq Tryz.prog 39:=⟨Tryz.call39⟩
theorem tyAgg23:eR Tryz.prog 23 3:=⟨⟨_,Tryz.underlying23,rfl⟩,⟨Tryz.t23,by kernel_rfl,by kernel_rfl⟩⟩
theorem rQ (x y:A3) {d:Nat}:dx Tryz.prog (d + 2) 23 3 ((cW .i64) x) ((cW .i64) y) (decide (x = y)) :=
 (dx.arr (l:=x.l) (l':=y.l) tyAgg23 Tryz.underlying23 aK Tryz.underlying3).cast (by rw [Bool.eq_iff_iff]; simp [A3.uN])
theorem wh (x y:b8) {d:Nat}:dx Tryz.prog (d + 3) 25 6 (ao x) (ao y) (decide (x = y)) :=
 (dx.struct (d:=d + 2) (rs:=[decide (x.Lo = y.Lo),decide (x.Hi = y.Hi)]) aB Tryz.stoodInHeld25 Tryz.underlying25 (⟨by decide,⟨_,((cW .i64) x.Lo),((cW .i64) y.Lo),rfl,rfl,rfl,rfl,rQ _ _⟩,⟨by decide,⟨_,((cW .i64) x.Hi),((cW .i64) y.Hi),rfl,rfl,rfl,rfl,rQ _ _⟩,trivial⟩⟩) rfl).cast
  (by cases x; cases y; rw [Bool.eq_iff_iff]; simp [b8.mk.injEq])
theorem qP (x y:b8):lH Tryz.prog 25 (ao x) (ao y) (decide (x = y)):=lH.uY (by kernel_rfl) aB (wh x y (d:=9997)) rfl rfl
theorem vm:bq Tryz.prog 11:=⟨Tryz.call11⟩
theorem vh:bq Tryz.prog 20:=⟨Tryz.call20⟩
theorem qx:bq Tryz.prog 22:=⟨Tryz.call22⟩
theorem sP:bq Tryz.prog 23:=⟨Tryz.call23⟩
theorem sM:bq Tryz.prog 31:=⟨Tryz.call31⟩
theorem vf:bq Tryz.prog 25:=⟨Tryz.call25⟩
theorem m':bq Tryz.prog 32:=⟨Tryz.call32⟩
theorem sO:bq Tryz.prog 26:=⟨Tryz.call26⟩
theorem und4:Tryz.prog.underlying 4 = some .bool:=Tryz.underlying4
theorem vj:bq Tryz.prog 15:=⟨Tryz.call15⟩
theorem qy:bq Tryz.prog 17:=⟨Tryz.call17⟩
theorem nj:cf Tryz.prog 55 0 0 3:=⟨⟨_,_,Tryz.t3,Tryz.underlying55,rfl,rfl,rfl,by kernel_rfl,by decide⟩⟩
theorem iu:cf Tryz.prog 55 1 1 3:=⟨⟨_,_,Tryz.t3,Tryz.underlying55,rfl,rfl,rfl,by kernel_rfl,by decide⟩⟩
theorem ln:cf Tryz.prog 55 2 2 25:=⟨⟨_,_,Tryz.t25,Tryz.underlying55,rfl,rfl,rfl,by kernel_rfl,by decide⟩⟩
theorem und41:Tryz.prog.underlying 41 = some (.slice 55):=Tryz.underlying41
theorem sr:kz Tryz.prog 41 55 8 64 (.i 0 :: .i 0 :: ((cW .i64) A3.zero ++ ((cW .i64) A3.zero))):=⟨Tryz.underlying41,⟨Tryz.t55,_,by kernel_rfl,rfl,rfl,rfl,rfl,by decide,rfl⟩⟩
theorem qF:eR Tryz.prog 55 8:=⟨⟨_,Tryz.underlying55,rfl⟩,⟨Tryz.t55,by kernel_rfl,by kernel_rfl⟩⟩
theorem vg:bq Tryz.prog 24:=⟨Tryz.call24⟩
theorem goes33:bq Tryz.prog 33:=⟨Tryz.call33⟩
theorem mv:Tryz.prog.underlying 68 = some (.slice 105):=Tryz.underlying68
theorem cR:kz Tryz.prog 68 105 7 56 (.i 0 :: ((cW .i64) A3.zero ++ ((cW .i64) A3.zero))):=⟨Tryz.underlying68,⟨Tryz.t105,_,by kernel_rfl,rfl,rfl,rfl,rfl,by decide,rfl⟩⟩
theorem di:cf Tryz.prog 105 0 0 3:=⟨⟨_,_,Tryz.t3,Tryz.underlying105,rfl,rfl,rfl,by kernel_rfl,by decide⟩⟩
theorem mG:eR Tryz.prog 105 7:=⟨⟨_,Tryz.underlying105,rfl⟩,⟨Tryz.t105,by kernel_rfl,by kernel_rfl⟩⟩
theorem qw:bq Tryz.prog 37:=⟨Tryz.call37⟩
theorem ph:iY Tryz.prog 105 [(0,1),(1,6)] (.i 0 :: ((cW .i64) A3.zero ++ ((cW .i64) A3.zero))):=⟨⟨Tryz.t105,_,_,by kernel_rfl,rfl,rfl,Tryz.underlying105,by kernel_rfl⟩⟩
theorem u9:bq Tryz.prog 84:=⟨Tryz.call84⟩
theorem u7:bq Tryz.prog 85:=⟨Tryz.call85⟩
theorem mF:jM Tryz.prog 70 [.nil,.nil,.nil,.i 0]:=⟨⟨Tryz.t70,_,by kernel_rfl,rfl,rfl⟩⟩
theorem jx:iY Tryz.prog 70 [(0,1),(1,1),(2,1),(3,1)] [.nil,.nil,.nil,.i 0]:=⟨⟨Tryz.t70,_,_,by kernel_rfl,rfl,rfl,Tryz.underlying70,by kernel_rfl⟩⟩
theorem ef:eR Tryz.prog 70 4:=⟨⟨_,Tryz.underlying70,rfl⟩,⟨Tryz.t70,by kernel_rfl,by kernel_rfl⟩⟩
theorem fG:cf Tryz.prog 105 1 1 25:=⟨⟨_,_,Tryz.t25,Tryz.underlying105,rfl,rfl,rfl,by kernel_rfl,by decide⟩⟩
theorem ni:cf Tryz.prog 70 1 1 51:=⟨⟨_,_,Tryz.t51,Tryz.underlying70,rfl,rfl,rfl,by kernel_rfl,by decide⟩⟩
theorem nh:cf Tryz.prog 70 2 2 51:=⟨⟨_,_,Tryz.t51,Tryz.underlying70,rfl,rfl,rfl,by kernel_rfl,by decide⟩⟩
theorem goes61:bq Tryz.prog 61:=⟨Tryz.call61⟩
theorem goes62:bq Tryz.prog 62:=⟨Tryz.call62⟩
theorem goes63:bq Tryz.prog 63:=⟨Tryz.call63⟩
theorem sL:bq Tryz.prog 36:=⟨Tryz.call36⟩
theorem goes64:bq Tryz.prog 64:=⟨Tryz.call64⟩
theorem goes65:bq Tryz.prog 65:=⟨Tryz.call65⟩
theorem goes66:bq Tryz.prog 66:=⟨Tryz.call66⟩
theorem goes34:bq Tryz.prog 34:=⟨Tryz.call34⟩
theorem ue:cf Tryz.prog 70 3 3 26:=⟨⟨_,_,Tryz.t26,Tryz.underlying70,rfl,rfl,rfl,by kernel_rfl,by decide⟩⟩
theorem tyOne26:c7 Tryz.prog 26:=⟨⟨_,Tryz.underlying26,rfl⟩,⟨Tryz.t26,by kernel_rfl,by kernel_rfl⟩⟩
theorem uf:cf Tryz.prog 70 0 0 68:=⟨⟨_,_,Tryz.t68,Tryz.underlying70,rfl,rfl,rfl,by kernel_rfl,by decide⟩⟩
theorem tyOne68:c7 Tryz.prog 68:=⟨⟨_,Tryz.underlying68,rfl⟩,⟨Tryz.t68,by kernel_rfl,by kernel_rfl⟩⟩
theorem goes35:bq Tryz.prog 35:=⟨Tryz.call35⟩
def j8 (F:Nat) (x0:Int):Option Int :=
 Option.bind (if (decide (4294967296 ≤ x0)) = true then (some (x0 / 4294967296,32)) else (some (x0,0))) (dg fun x_1 n_2=>Option.bind (if (decide (65536 ≤ x_1)) = true then (some (x_1 / 65536,IntKind.i64.wrap (n_2 + 16))) else (some (x_1,n_2))) (dg fun x_3 n_4=>Option.bind (if (decide (256 ≤ x_3)) = true then (some (x_3 / 256,IntKind.i64.wrap (n_4 + 8))) else (some (x_3,n_4))) (dg fun x_5 n_6=>(a8 ([0,1,2,2,3,3,3,3,4,4,4,4,4,4,4,4,5,5,5,5,5,5,5,5,5,5,5,5,5,5,5,5,6,6,6,6,6,6,6,6,6,6,6,6,6,6,6,6,6,6,6,6,6,6,6,6,6,6,6,6,6,6,6,6,7,7,7,7,7,7,7,7,7,7,7,7,7,7,7,7,7,7,7,7,7,7,7,7,7,7,7,7,7,7,7,7,7,7,7,7,7,7,7,7,7,7,7,7,7,7,7,7,7,7,7,7,7,7,7,7,7,7,7,7,7,7,7,7,8,8,8,8,8,8,8,8,8,8,8,8,8,8,8,8,8,8,8,8,8,8,8,8,8,8,8,8,8,8,8,8,8,8,8,8,8,8,8,8,8,8,8,8,8,8,8,8,8,8,8,8,8,8,8,8,8,8,8,8,8,8,8,8,8,8,8,8,8,8,8,8,8,8,8,8,8,8,8,8,8,8,8,8,8,8,8,8,8,8,8,8,8,8,8,8,8,8,8,8,8,8,8,8,8,8,8,8,8,8,8,8,8,8,8,8,8,8,8,8,8,8,8,8,8,8,8,8]:Str) (IntKind.u8.wrap x_5)).bind fun x_7=>fE (IntKind.i64.wrap (n_6 + (IntKind.i64.wrap (x_7.toNat:Int)))) fun x_8=>some x_8)))
theorem oe {F:Nat} {x0:Int} {r:Int} (h:j8 F x0 = some r):ar Tryz.prog [] 95 [] [.one (.int .u64 x0)] (Is [] (.b (.one (.i r)))):=by
 unfold j8 at h
 refine ar.intro 25 Tryz.func95 Tryz.ntmps95 rfl (by simp) fun E=>?_
 show ab _ E ⟨25,[],[],[]⟩ _ ⟨[(0,.b (.one (.int .u64 x0)))],[]⟩ _
 refine ab.seq (ab.aa ?_)
 refine Oc oa (ae.ai ⟨[(0,.b (.one (.int .u64 x0))),(2,I 0)],[]⟩ rfl ?_)
 obtain ⟨v1,h2,h⟩:=aN h
 refine ab.c6 (v:=v1) (dg fun (x_1:Int) (n_2:Int)=>⟨[(0,.b (.one (.int .u64 x_1))),(2,I n_2)],[]⟩) (fun z=>z) ?_ ?_
 ·refine ab.seq (ab.aa ?_)
  refine Oc om (Oc (lY rfl rfl) ?_)
  refine ae.ai ⟨[(0,_),(2,_),(4,B (decide (4294967296 ≤ x0)))],[]⟩ rfl (ab.ite h2 rfl (fun _ h2=>?_) (fun _ h2=>?_))
  ·refine ab.seq (ab.aa ?_)
   refine Oc om (Oc (jQ (m:=32) (by decide) rfl rfl rfl) (Oc oa ?_))
   refine ae.ai ⟨[(0,.b (.one (.int .u64 (x0 / 4294967296))))],[]⟩ rfl (ab.aa (Oc oa (ae.nil ?_)))
   exact Fin.join [0,2] [] (x0 / 4294967296,32) (Option.some.inj h2) rfl
  ·refine ab.skip ?_
   exact Fin.join [0,2] [] (x0,0) (Option.some.inj h2) rfl
 ·rintro ⟨x_1,n_2⟩ hv
  subst v1
  obtain ⟨v3,h4,h⟩:=aN h
  refine ab.c6 (v:=v3) (dg fun (x_3:Int) (n_4:Int)=>⟨[(0,.b (.one (.int .u64 x_3))),(2,I n_4)],[]⟩) (fun z=>z) ?_ ?_
  ·refine ab.seq (ab.aa ?_)
   refine Oc om (Oc (lY rfl rfl) ?_)
   refine ae.ai ⟨[(0,_),(2,_),(8,B (decide (65536 ≤ x_1)))],[]⟩ rfl (ab.ite h4 rfl (fun _ h4=>?_) (fun _ h4=>?_))
   ·refine ab.seq (ab.aa ?_)
    refine Oc om (Oc (jQ (m:=16) (by decide) rfl rfl rfl) (Oc oa ?_))
    refine ae.ai ⟨[(0,.b (.one (.int .u64 (x_1 / 65536)))),(2,_)],[]⟩ rfl (ab.aa (Oc om (Oc (bA rfl rfl) (Oc oa ?_))))
    refine ae.nil ?_
    exact Fin.join [0,2] [] (x_1 / 65536,IntKind.i64.wrap (n_2 + 16)) (Option.some.inj h4) rfl
   ·refine ab.skip ?_
    exact Fin.join [0,2] [] (x_1,n_2) (Option.some.inj h4) rfl
  ·rintro ⟨x_3,n_4⟩ hv
   subst v3
   obtain ⟨v5,h6,h⟩:=aN h
   refine ab.c6 (v:=v5) (dg fun (x_5:Int) (n_6:Int)=>⟨[(0,.b (.one (.int .u64 x_5))),(2,I n_6)],[]⟩) (fun z=>z) ?_ ?_
   ·refine ab.seq (ab.aa ?_)
    refine Oc om (Oc (lY rfl rfl) ?_)
    refine ae.ai ⟨[(0,_),(2,_),(14,B (decide (256 ≤ x_3)))],[]⟩ rfl (ab.ite h6 rfl (fun _ h6=>?_) (fun _ h6=>?_))
    ·refine ab.seq (ab.aa ?_)
     refine Oc om (Oc (jQ (m:=8) (by decide) rfl rfl rfl) (Oc oa ?_))
     refine ae.ai ⟨[(0,.b (.one (.int .u64 (x_3 / 256)))),(2,_)],[]⟩ rfl (ab.aa (Oc om (Oc (bA rfl rfl) (Oc oa ?_))))
     refine ae.nil ?_
     exact Fin.join [0,2] [] (x_3 / 256,IntKind.i64.wrap (n_4 + 8)) (Option.some.inj h6) rfl
    ·refine ab.skip ?_
     exact Fin.join [0,2] [] (x_3,n_4) (Option.some.inj h6) rfl
   ·rintro ⟨x_5,n_6⟩ hv
    subst v5
    refine ab.seq (ab.aa ?_)
    refine Oc om (Oc om (Oc (fl uS undi5 rfl) ?_))
    obtain ⟨x_7,e7,h⟩:=aN h
    refine Oc (qU und9 rfl rfl (aX e7) (sE e7)) (Oc (fl undi5 q7 rfl) ?_)
    refine ae.ra .i64 h rfl (bA rfl rfl) (fun x_8 h=>?_)
    refine Oc oa (ae.ai ⟨[(2,I x_8)],[]⟩ rfl (ab.ret ?_))
    obtain rfl:=Option.some.inj h
    refine Fin.ag ⟨[(2,_)],[]⟩ rfl (Fin.aw [.one (.i x_8)] (.inl rfl) rfl (.cons (.tmp rfl) .nil) ⟨rfl,rfl⟩)
def mc (F:Nat) (x0:Int):Option Int :=
 (j8 F x0).bind fun x_1=>some x_1
theorem pU {F:Nat} {x0:Int} {r:Int} (h:mc F x0 = some r):ar Tryz.prog [] 69 [] [.one (.int .u64 x0)] (Is [] (.b (.one (.i r)))):=by
 unfold mc at h
 refine ar.intro 8 Tryz.func69 Tryz.ntmps69 rfl (by simp) fun E=>?_
 show ab _ E ⟨8,[],[],[]⟩ _ ⟨[(0,.b (.one (.int .u64 x0)))],[]⟩ _
 refine ab.seq (ab.aa ?_)
 refine Oc oa (ae.ai ⟨[(0,.b (.one (.int .u64 x0)))],[]⟩ rfl (ab.seq (ab.condFc (ab.skip (Fin.ag ⟨[(0,_)],[]⟩ rfl ?_)))))
 refine Fin.then (ab.seq (ab.aa ?_))
 refine Oc om ?_
 obtain ⟨x_1,e1,h⟩:=aN h
 refine Oc (ak (oe e1) goes95 rfl rfl) (Oc oa ?_)
 refine ae.ai ⟨[(2,I x_1)],[]⟩ rfl (ab.ret ?_)
 obtain rfl:=Option.some.inj h
 refine Fin.ag ⟨[(2,_)],[]⟩ rfl (Fin.aw [.one (.i x_1)] (.inl rfl) rfl (.cons (.tmp rfl) .nil) ⟨rfl,rfl⟩)
def ey (F:Nat):Option Unit :=
 Option.bind (iter F (fun _=>some (.inr ())) ()) (fun _=>some ())
theorem iQ {F:Nat} {r:Unit} (h:ey F = some r):ar Tryz.prog [] 114 [] [.one (.nil),.one (.i 0),.one (.i 0)] (Is [] (.dL [])):=by
 unfold ey at h
 refine ar.intro 49 Tryz.func114 Tryz.ntmps114 rfl (by simp) fun E=>?_
 show ab _ E ⟨49,[],[],[]⟩ _ ⟨[(0,.b (.one (.nil))),(1,I 0),(2,I 0)],[]⟩ _
 refine ab.seq (ab.aa ?_)
 refine Oc om (Oc (bA rfl rfl) (Oc oa ?_))
 refine ae.ai ⟨[(0,.b (.one (.nil))),(1,I 0),(2,I 0),(6,I 1)],[]⟩ rfl (ab.block ?_)
 obtain ⟨v1,h2,h⟩:=aN h
 refine ab.c5 h2 (fun (_:Unit)=>⟨[(0,.b (.one (.nil))),(1,I 0),(2,I 0),(6,I 1)],[]⟩) [0,1,2,6] [] rfl ?_
 rintro _ o3 h4 hy5
 refine ab.seq (ab.seq (ab.aa ?_))
 refine Oc om (Oc om (Oc (bf rfl rfl) ?_))
 refine ae.ai ⟨[(0,_),(1,_),(2,_),(6,_),(12,B false)],[]⟩ rfl (ab.condF rfl (ab.exit (Fin.aC ?_)))
 obtain rfl:=hy5 _ (Option.some.inj h4).symm
 refine Fin.aC (Fin.aS ?_)
 obtain rfl:=Option.some.inj h
 refine Fin.ag ⟨[],[]⟩ rfl (Fin.aw [] (.inr rfl) rfl (.nil) ⟨rfl,rfl⟩)
def dG (F:Nat):Nat → Int → Option Unit
 | 0,_=>none
 | n + 1,limit0=>Option.bind (iter F (fun _=>(ey F).bind fun u_1=>some (.inr ())) ()) (fun y=>some y)
def gS (F:Nat) (limit0:Int):Option Unit:=dG F F limit0
theorem jk {F:Nat}:∀ (n:Nat) {limit0:Int} {r:Unit} (h:dG F n limit0 = some r),ar Tryz.prog [] 97 [] [.one (.nil),.one (.i 0),.one (.i 0),.one (.i limit0)] (Is [] (.dL [])):=by
 intro n
 induction n with
 | zero=>intro limit0 r h; simp [dG] at h
 | succ n ih=>
 intro limit0 r h
 unfold dG at h
 refine ar.intro 134 Tryz.func97 Tryz.ntmps97 rfl (by simp) fun E=>?_
 show ab _ E ⟨134,[],[],[]⟩ _ ⟨[(0,.b (.one (.nil))),(1,I 0),(2,I 0),(3,I limit0)],[]⟩ _
 refine ab.seq (ab.aa ?_)
 refine Oc oa (ae.ai ⟨[(0,.b (.one (.nil))),(1,I 0),(2,I 0),(3,I limit0),(8,B true)],[]⟩ rfl (ab.seq (ab.aa ?_)))
 refine Oc oa (ae.ai ⟨[(0,_),(1,_),(2,_),(3,_),(8,_),(9,B true)],[]⟩ rfl (ab.block ?_))
 obtain ⟨v1,h2,h⟩:=aN h
 refine ab.c5 h2 (fun (_:Unit)=>⟨[(0,.b (.one (.nil))),(1,I 0),(2,I 0),(3,I limit0),(8,B true),(9,B true)],[]⟩) [0,1,2,3,8,9] [] rfl ?_
 rintro _ o3 h4 hy5
 refine ab.block (ab.seq (ab.aa ?_))
 refine Oc om (Oc om (Oc (uV rfl rfl) (Oc oa ?_)))
 refine ae.ai ⟨[(0,_),(1,_),(2,_),(3,_),(8,_),(9,_),(10,I 0)],[]⟩ rfl (ab.seq (ab.seq (ab.aa ?_)))
 refine Oc om (Oc (op_leq rfl rfl) ?_)
 refine ae.ai ⟨[(0,_),(1,_),(2,_),(3,_),(8,_),(9,_),(10,_),(23,B true)],[]⟩ rfl (ab.condT rfl (ab.seq (ab.aa ?_)))
 refine Oc om (Oc om (Oc om ?_))
 obtain ⟨u_1,e6,h4⟩:=aN h4
 refine Oc (ak (iQ e6) goes114 rfl rfl) (ae.ai ⟨[],[]⟩ rfl (ab.ret (Fin.au (Fin.aP ?_))))
 obtain rfl:=hy5 _ (Option.some.inj h4).symm
 refine Fin.au (Fin.aP ?_)
 obtain rfl:=Option.some.inj h
 refine Fin.ag ⟨[],[]⟩ rfl (Fin.aw [] (.inl rfl) rfl (.nil) ⟨rfl,rfl⟩)
theorem jE {F:Nat} {limit0:Int} {r:Unit} (h:gS F limit0 = some r):ar Tryz.prog [] 97 [] [.one (.nil),.one (.i 0),.one (.i 0),.one (.i limit0)] (Is [] (.dL [])):=jk F h
def jc (F:Nat):Option Unit :=
 (mc F (IntKind.u64.wrap 0)).bind fun x_1=>(gS F x_1).bind fun u_2=>some ()
theorem k7 {F:Nat} {r:Unit} (h:jc F = some r):ar Tryz.prog [] 75 [] [.one (.nil)] (Is [] (.dL [])):=by
 unfold jc at h
 refine ar.intro 11 Tryz.func75 Tryz.ntmps75 rfl (by simp) fun E=>?_
 show ab _ E ⟨11,[],[],[]⟩ _ ⟨[(0,.b (.one (.nil)))],[]⟩ _
 refine ab.seq (ab.aa ?_)
 refine Oc om (Oc (tc fO rfl) (Oc oa ?_))
 refine ae.ai ⟨[(0,.b (.one (.nil))),(2,I 0)],[]⟩ rfl (ab.aa (Oc om (Oc om (Oc om (Oc (fl q7 qC rfl) ?_)))))
 obtain ⟨x_1,e1,h⟩:=aN h
 refine Oc (ak (pU e1) goes69 rfl rfl) ?_
 obtain ⟨u_2,e2,h⟩:=aN h
 refine Oc (ak (jE e2) goes97 rfl rfl) (ae.nil ?_)
 obtain rfl:=Option.some.inj h
 refine Fin.ag ⟨[],[]⟩ rfl (Fin.aw [] (.inr rfl) rfl (.nil) ⟨rfl,rfl⟩)
theorem nK:ar Tryz.prog [] 75 [] [.one .nil] (Is [] (.dL [])):=k7 (F:=3) (r:=()) (by rfl)
def fA (F:Nat) (zs:List Int):Option (List Int):=oJ zs
theorem nJ {F:Nat} {zs r:List Int} (h:fA F zs = some r):ar Tryz.prog [] 75 [(1,.ed 3 1 (zs.map eI))] [.row 1] (Is [(1,.ed 3 1 (r.map eI))] (.dL [])):=r6 Tryz.lays189 nK h
def jj (F:Nat) (x0:entry):Option Int :=
 some (IntKind.u64.wrap x0.id)
theorem nP {F:Nat} {x0:entry} {r:Int} (h:jj F x0 = some r):ar Tryz.prog [] 48 [] [.agg (ax x0)] (Is [] (.b (.one (.int .u64 r)))):=by
 unfold jj at h
 refine ar.intro 6 Tryz.func48 Tryz.ntmps48 rfl (by simp) fun E=>?_
 show ab _ E ⟨6,[],[],[]⟩ _ ⟨[(0,.b (.agg (ax x0)))],[]⟩ _
 refine ab.seq (ab.aa ?_)
 refine Oc (bo (k:=101) rfl rfl) (Oc oa ?_)
 refine ae.ai ⟨[(1,Pt 101 0)],[(101,.box 87 (ax x0))]⟩ rfl (ab.seq (ab.aa ?_))
 refine Oc (an dR rfl rfl) (Oc (aF aK rfl rfl rfl) (Oc (fl q7 uS rfl) (Oc oa ?_)))
 refine ae.ai ⟨[(2,.b (.one (.int .u64 (IntKind.u64.wrap x0.id))))],[]⟩ rfl (ab.ret ?_)
 obtain rfl:=Option.some.inj h
 refine Fin.ag ⟨[(2,_)],[]⟩ rfl (Fin.aw [.one (.int .u64 (IntKind.u64.wrap x0.id))] (.inl rfl) rfl (.cons (.tmp rfl) .nil) ⟨rfl,rfl⟩)
def hZ (F:Nat) (fn0:Nat) (x0:entry):Option Int :=
 if fn0 = 48 then jj F x0 else none
theorem te {F:Nat} {fn0:Nat} {x0:entry} {r:Int} (h:hZ F fn0 x0 = some r):ar Tryz.prog [] fn0 [] [.agg (ax x0)] (Is [] (.b (.one (.int .u64 r)))):=by
 unfold hZ at h
 split at h
 ·next e=>subst e; exact nP h
 ·next=>
  simp at h
theorem tf {F:Nat} {fn0:Nat} {x0:entry} {r:Int} (h:hZ F fn0 x0 = some r):bq Tryz.prog fn0:=by
 unfold hZ at h
 split at h
 ·next e=>subst e; exact goes48
 ·next=>
  simp at h
theorem wb {F:Nat} {fn0:Nat} {x0:entry} {r:Int} (h:hZ F fn0 x0 = some r):fn0 ≠ 0:=by
 rintro rfl
 exact absurd h (by simp [hZ])
def gH (F:Nat) (x0:entry):Option b8 :=
 some x0.b
theorem nO {F:Nat} {x0:entry} {r:b8} (h:gH F x0 = some r):ar Tryz.prog [] 49 [] [.agg (ax x0)] (Is [] (.b (.agg (ao r)))):=by
 unfold gH at h
 refine ar.intro 5 Tryz.func49 Tryz.ntmps49 rfl (by simp) fun E=>?_
 show ab _ E ⟨5,[],[],[]⟩ _ ⟨[(0,.b (.agg (ax x0)))],[]⟩ _
 refine ab.seq (ab.aa ?_)
 refine Oc (bo (k:=101) rfl rfl) (Oc (aT (k:=102) eC rfl) ?_)
 refine ae.ai ⟨[(1,Pt 101 0),(2,Pt 102 0)],[(101,.box 87 (ax x0)),(102,.box 25 ((cW .i64) A3.zero ++ ((cW .i64) A3.zero)))]⟩ rfl (ab.seq (ab.aa ?_))
 refine Oc (an gw rfl rfl) (Oc (lp aB) (Oc (aA aB rfl rfl rfl rfl (Nat.le_of_ble_eq_true rfl) rfl) ?_))
 refine ae.ai ⟨[(2,_)],[(102,.box 25 (ao x0.b))]⟩ rfl (ab.ret ?_)
 obtain rfl:=Option.some.inj h
 refine Fin.ag ⟨[(2,_)],[(102,_)]⟩ rfl (Fin.aw [.agg (ao x0.b)] (.inl rfl) rfl (.cons (.agg aB rfl rfl rfl rfl) .nil) ⟨rfl,rfl⟩)
def iW (F:Nat) (fn0:Nat) (x0:entry):Option b8 :=
 if fn0 = 49 then gH F x0 else none
theorem tk {F:Nat} {fn0:Nat} {x0:entry} {r:b8} (h:iW F fn0 x0 = some r):ar Tryz.prog [] fn0 [] [.agg (ax x0)] (Is [] (.b (.agg (ao r)))):=by
 unfold iW at h
 split at h
 ·next e=>subst e; exact nO h
 ·next=>
  simp at h
theorem tm {F:Nat} {fn0:Nat} {x0:entry} {r:b8} (h:iW F fn0 x0 = some r):bq Tryz.prog fn0:=by
 unfold iW at h
 split at h
 ·next e=>subst e; exact goes49
 ·next=>
  simp at h
theorem wj {F:Nat} {fn0:Nat} {x0:entry} {r:b8} (h:iW F fn0 x0 = some r):fn0 ≠ 0:=by
 rintro rfl
 exact absurd h (by simp [iW])
def eb (F:Nat) (x0:Int):Option Bool :=
 some (decide (x0 ≠ x0))
theorem gq {F:Nat} {x0:Int} {r:Bool} (h:eb F x0 = some r):ar Tryz.prog [] 70 [] [.one (.i x0)] (Is [] (.b (.one (.bool r)))):=by
 unfold eb at h
 refine ar.intro 6 Tryz.func70 Tryz.ntmps70 rfl (by simp) fun E=>?_
 show ab _ E ⟨6,[],[],[]⟩ _ ⟨[(0,I x0)],[]⟩ _
 refine ab.seq (ab.aa ?_)
 refine Oc oa (ae.ai ⟨[(0,I x0)],[]⟩ rfl (ab.seq (ab.aa ?_)))
 refine Oc om (Oc om (Oc (jf rfl rfl) (Oc oa ?_)))
 refine ae.ai ⟨[(2,B (decide (x0 ≠ x0)))],[]⟩ rfl (ab.ret ?_)
 obtain rfl:=Option.some.inj h
 refine Fin.ag ⟨[(2,_)],[]⟩ rfl (Fin.aw [.one (.bool (decide (x0 ≠ x0)))] (.inl rfl) rfl (.cons (.tmp rfl) .nil) ⟨rfl,rfl⟩)
def dJ (F:Nat) (x0:Int) (y0:Int):Option Int :=
 (eb F x0).bind fun x_1=>(eb F y0).bind fun x_2=>if x_1 = true then (if x_2 = true then (some 0) else (some (-1))) else (if x_2 = true then (some 1) else (if (decide (x0 < y0)) = true then (some (-1)) else (if (decide (y0 < x0)) = true then (some 1) else (some 0))))
theorem gA {F:Nat} {x0:Int} {y0:Int} {r:Int} (h:dJ F x0 y0 = some r):ar Tryz.prog [] 44 [] [.one (.i x0),.one (.i y0)] (Is [] (.b (.one (.i r)))):=by
 unfold dJ at h
 refine ar.intro 20 Tryz.func44 Tryz.ntmps44 rfl (by simp) fun E=>?_
 show ab _ E ⟨20,[],[],[]⟩ _ ⟨[(0,I x0),(1,I y0)],[]⟩ _
 refine ab.seq (ab.aa ?_)
 refine Oc oa (ae.ai ⟨[(0,I x0),(1,I y0)],[]⟩ rfl (ab.seq (ab.aa ?_)))
 refine Oc om ?_
 obtain ⟨x_1,e1,h⟩:=aN h
 refine Oc (ak (gq e1) qt rfl rfl) (Oc oa ?_)
 refine ae.ai ⟨[(0,_),(1,_),(5,B x_1)],[]⟩ rfl (ab.seq (ab.aa ?_))
 refine Oc om ?_
 obtain ⟨x_2,e2,h⟩:=aN h
 refine Oc (ak (gq e2) qt rfl rfl) (Oc oa ?_)
 refine ae.ai ⟨[(0,_),(1,_),(5,_),(6,B x_2)],[]⟩ rfl (ab.seq (ab.seq (ab.aa ?_)))
 refine Oc om (ae.ai ⟨[(0,_),(1,_),(6,_),(11,B x_1)],[]⟩ rfl (ab.ite h rfl (fun _ h=>?_) (fun _ h=>?_)))
 ·refine ab.seq (ab.seq (ab.aa ?_))
  refine Oc om (ae.ai ⟨[(12,B x_2)],[]⟩ rfl (ab.ite h rfl (fun _ h=>?_) (fun _ h=>?_)))
  ·refine ab.seq (ab.aa ?_)
   refine Oc oa (ae.ai ⟨[(4,I 0)],[]⟩ rfl (ab.ret (Fin.au (Fin.au ?_))))
   obtain rfl:=Option.some.inj h
   refine Fin.ag ⟨[(4,_)],[]⟩ rfl (Fin.aw [.one (.i 0)] (.inl rfl) rfl (.cons (.tmp rfl) .nil) ⟨rfl,rfl⟩)
  ·refine ab.skip (Fin.ag ⟨[],[]⟩ rfl (Fin.then (ab.seq (ab.aa ?_))))
   refine Oc oa (ae.ai ⟨[(4,I (-1))],[]⟩ rfl (ab.ret (Fin.au ?_)))
   obtain rfl:=Option.some.inj h
   refine Fin.ag ⟨[(4,_)],[]⟩ rfl (Fin.aw [.one (.i (-1))] (.inl rfl) rfl (.cons (.tmp rfl) .nil) ⟨rfl,rfl⟩)
 ·refine ab.skip (Fin.ag ⟨[(0,_),(1,_),(6,_)],[]⟩ rfl (Fin.then (ab.seq (ab.seq (ab.aa ?_)))))
  refine Oc om (ae.ai ⟨[(0,_),(1,_),(13,B x_2)],[]⟩ rfl (ab.ite h rfl (fun _ h=>?_) (fun _ h=>?_)))
  ·refine ab.seq (ab.aa ?_)
   refine Oc oa (ae.ai ⟨[(4,I 1)],[]⟩ rfl (ab.ret (Fin.au ?_)))
   obtain rfl:=Option.some.inj h
   refine Fin.ag ⟨[(4,_)],[]⟩ rfl (Fin.aw [.one (.i 1)] (.inl rfl) rfl (.cons (.tmp rfl) .nil) ⟨rfl,rfl⟩)
  ·refine ab.skip (Fin.ag ⟨[(0,_),(1,_)],[]⟩ rfl (Fin.then (ab.seq (ab.seq (ab.aa ?_)))))
   refine Oc om (Oc om (Oc (bf rfl rfl) ?_))
   refine ae.ai ⟨[(0,_),(1,_),(16,B (decide (x0 < y0)))],[]⟩ rfl (ab.ite h rfl (fun _ h=>?_) (fun _ h=>?_))
   ·refine ab.seq (ab.aa ?_)
    refine Oc oa (ae.ai ⟨[(4,I (-1))],[]⟩ rfl (ab.ret (Fin.au ?_)))
    obtain rfl:=Option.some.inj h
    refine Fin.ag ⟨[(4,_)],[]⟩ rfl (Fin.aw [.one (.i (-1))] (.inl rfl) rfl (.cons (.tmp rfl) .nil) ⟨rfl,rfl⟩)
   ·refine ab.skip (Fin.ag ⟨[(0,_),(1,_)],[]⟩ rfl (Fin.then (ab.seq (ab.seq (ab.aa ?_)))))
    refine Oc om (Oc om (Oc (iD rfl rfl) ?_))
    refine ae.ai ⟨[(19,B (decide (y0 < x0)))],[]⟩ rfl (ab.ite h rfl (fun _ h=>?_) (fun _ h=>?_))
    ·refine ab.seq (ab.aa ?_)
     refine Oc oa (ae.ai ⟨[(4,I 1)],[]⟩ rfl (ab.ret (Fin.au ?_)))
     obtain rfl:=Option.some.inj h
     refine Fin.ag ⟨[(4,_)],[]⟩ rfl (Fin.aw [.one (.i 1)] (.inl rfl) rfl (.cons (.tmp rfl) .nil) ⟨rfl,rfl⟩)
    ·refine ab.skip (Fin.ag ⟨[],[]⟩ rfl (Fin.then (ab.seq (ab.aa ?_))))
     refine Oc oa (ae.ai ⟨[(4,I 0)],[]⟩ rfl (ab.ret ?_))
     obtain rfl:=Option.some.inj h
     refine Fin.ag ⟨[(4,_)],[]⟩ rfl (Fin.aw [.one (.i 0)] (.inl rfl) rfl (.cons (.tmp rfl) .nil) ⟨rfl,rfl⟩)
def gG (F:Nat) (a0:entry) (b0:entry):Option Int :=
 (dJ F a0.id b0.id).bind fun x_1=>some x_1
theorem nN {F:Nat} {a0:entry} {b0:entry} {r:Int} (h:gG F a0 b0 = some r):ar Tryz.prog [] 50 [] [.agg (ax a0),.agg (ax b0)] (Is [] (.b (.one (.i r)))):=by
 unfold gG at h
 refine ar.intro 10 Tryz.func50 Tryz.ntmps50 rfl (by simp) fun E=>?_
 show ab _ E ⟨10,[],[],[]⟩ _ ⟨[(0,.b (.agg (ax a0))),(1,.b (.agg (ax b0)))],[]⟩ _
 refine ab.seq (ab.aa ?_)
 refine Oc (bo (k:=101) rfl rfl) (Oc (bo (k:=102) rfl rfl) (Oc oa ?_))
 refine ae.ai ⟨[(2,Pt 101 0),(3,Pt 102 0)],[(101,.box 87 (ax a0)),(102,.box 87 (ax b0))]⟩ rfl (ab.seq (ab.aa ?_))
 refine Oc (an dR rfl rfl) (Oc (aF aK rfl rfl rfl) (Oc (an dR rfl rfl) (Oc (aF aK rfl rfl rfl) ?_)))
 obtain ⟨x_1,e1,h⟩:=aN h
 refine Oc (ak (gA e1) sK rfl rfl) (Oc oa ?_)
 refine ae.ai ⟨[(4,I x_1)],[]⟩ rfl (ab.ret ?_)
 obtain rfl:=Option.some.inj h
 refine Fin.ag ⟨[(4,_)],[]⟩ rfl (Fin.aw [.one (.i x_1)] (.inl rfl) rfl (.cons (.tmp rfl) .nil) ⟨rfl,rfl⟩)
def dW (F:Nat) (s10:List Int) (s20:List Int):Option Int :=
 Option.bind (iter F (fun x_1=>if (decide (x_1 < (s10.length:Int))) = true then ((a8 s10 x_1).bind fun x_2=>if (decide ((s20.length:Int) ≤ x_1)) = true then (some (.inr (.inr 1))) else ((a8 s20 x_1).bind fun x_3=>(dJ F x_2 x_3).bind fun x_4=>if (decide (x_4 ≠ 0)) = true then (some (.inr (.inr x_4))) else (some (.inl (IntKind.i64.wrap (x_1 + 1)))))) else (some (.inr (.inl ())))) 0) (cy (fun _=>if (decide ((s10.length:Int) < (s20.length:Int))) = true then (some (-1)) else (some 0)) (fun y=>some y))
theorem ly {F:Nat} {s10:List Int} {s20:List Int} {r:Int} (h:dW F s10 s20 = some r):ar Tryz.prog [] 53 [] [.one (.sl 1 (s10.map eI)),.one (.sl 1 (s20.map eI))] (Is [] (.b (.one (.i r)))):=by
 unfold dW at h
 refine ar.intro 36 Tryz.func53 Tryz.ntmps53 rfl (by simp) fun E=>?_
 show ab _ E ⟨36,[],[],[]⟩ _ ⟨[(0,.b (.one (.sl 1 (s10.map eI)))),(1,.b (.one (.sl 1 (s20.map eI))))],[]⟩ _
 refine ab.seq (ab.aa ?_)
 refine Oc oa (ae.ai ⟨[(0,.b (.one (.sl 1 (s10.map eI)))),(1,.b (.one (.sl 1 (s20.map eI))))],[]⟩ rfl ?_)
 obtain ⟨v1,h2,h⟩:=aN h
 refine ab.c6 (v:=v1) (fun (_:Unit)=>⟨[(0,.b (.one (.sl 1 (s10.map eI)))),(1,.b (.one (.sl 1 (s20.map eI))))],[]⟩) (fun z=>.inl z) ?_ ?_
 ·refine ab.seq (ab.aa ?_)
  refine Oc om (Oc (ba fO rfl (List.length_map _)) (Oc om ?_))
  refine ae.ai ⟨[(0,_),(1,_),(9,.b (.one (.sl 1 (s10.map eI)))),(10,I (s10.length:Int)),(11,I 0)],[]⟩ rfl (ab.block (ab.c5 h2 (fun (x_1:Int)=>⟨[(0,.b (.one (.sl 1 (s10.map eI)))),(1,.b (.one (.sl 1 (s20.map eI)))),(9,.b (.one (.sl 1 (s10.map eI)))),(10,I (s10.length:Int)),(11,I x_1)],[]⟩) [0,1,9,10,11] [] rfl ?_))
  rintro x_1 o3 h4 hy5
  refine ab.seq (ab.aa ?_)
  refine Oc (bf rfl rfl) (ae.ai ⟨[(0,_),(1,_),(9,_),(10,_),(11,_),(12,B (decide (x_1 < (s10.length:Int))))],[]⟩ rfl (ab.seq (ab.ite h4 rfl (fun _ h4=>?_) (fun _ h4=>?_))))
  ·refine ab.skip (Fin.ag ⟨[(0,_),(1,_),(9,_),(10,_),(11,_)],[]⟩ rfl (Fin.then (ab.seq (ab.block (ab.seq (ab.aa ?_))))))
   refine Oc om ?_
   obtain ⟨x_2,e6,h4⟩:=aN h4
   refine Oc (aM bL (aX e6) (bn (e:=eI) e6) rfl rfl) (Oc (ay aK rfl rfl) (Oc oa (Oc oa ?_)))
   refine ae.ai ⟨[(0,_),(1,_),(5,I x_1),(6,I x_2),(9,_),(10,_),(11,_)],[]⟩ rfl (ab.seq (ab.seq (ab.aa ?_)))
   refine Oc om (Oc om (Oc (ba fO rfl (List.length_map _)) (Oc (lY rfl rfl) ?_)))
   refine ae.ai ⟨[(0,_),(1,_),(5,_),(6,_),(9,_),(10,_),(11,_),(19,B (decide ((s20.length:Int) ≤ x_1)))],[]⟩ rfl (ab.ite h4 rfl (fun _ h4=>?_) (fun _ h4=>?_))
   ·refine ab.seq (ab.aa ?_)
    refine Oc oa (ae.ai ⟨[(4,I 1)],[]⟩ rfl (ab.ret (Fin.au (Fin.aP (Fin.au ?_)))))
    obtain rfl:=hy5 _ (Option.some.inj h4).symm
    refine Fin.au (Fin.aP (Fin.au ?_))
    obtain rfl:=Option.some.inj h
    refine Fin.ag ⟨[(4,_)],[]⟩ rfl (Fin.aw [.one (.i 1)] (.inl rfl) rfl (.cons (.tmp rfl) .nil) ⟨rfl,rfl⟩)
   ·refine ab.skip (Fin.ag ⟨[(0,_),(1,_),(5,_),(6,_),(9,_),(10,_),(11,_)],[]⟩ rfl (Fin.then (ab.seq (ab.aa ?_))))
    refine Oc om (Oc om ?_)
    obtain ⟨x_3,e7,h4⟩:=aN h4
    refine Oc (aM bL (aX e7) (bn (e:=eI) e7) rfl rfl) (Oc (ay aK rfl rfl) (Oc oa ?_))
    refine ae.ai ⟨[(0,_),(1,_),(6,_),(7,I x_3),(9,_),(10,_),(11,_)],[]⟩ rfl (ab.seq (ab.aa ?_))
    refine Oc om (Oc om ?_)
    obtain ⟨x_4,e8,h4⟩:=aN h4
    refine Oc (ak (gA e8) sK rfl rfl) (Oc oa ?_)
    refine ae.ai ⟨[(0,_),(1,_),(8,I x_4),(9,_),(10,_),(11,_)],[]⟩ rfl (ab.seq (ab.aa ?_))
    refine Oc om (Oc (jf rfl rfl) ?_)
    refine ae.ai ⟨[(0,_),(1,_),(8,_),(9,_),(10,_),(11,_),(28,B (decide (x_4 ≠ 0)))],[]⟩ rfl (ab.ite h4 rfl (fun _ h4=>?_) (fun _ h4=>?_))
    ·refine ab.seq (ab.aa ?_)
     refine Oc om (Oc oa ?_)
     refine ae.ai ⟨[(4,I x_4)],[]⟩ rfl (ab.ret (Fin.aP (Fin.au ?_)))
     obtain rfl:=hy5 _ (Option.some.inj h4).symm
     refine Fin.au (Fin.aP (Fin.au ?_))
     obtain rfl:=Option.some.inj h
     refine Fin.ag ⟨[(4,_)],[]⟩ rfl (Fin.aw [.one (.i x_4)] (.inl rfl) rfl (.cons (.tmp rfl) .nil) ⟨rfl,rfl⟩)
    ·refine ab.skip (Fin.av (Fin.ag ⟨[(0,_),(1,_),(9,_),(10,_),(11,_)],[]⟩ rfl (Fin.then (ab.aa ?_))))
     refine Oc (bA rfl rfl) (Oc om ?_)
     refine ae.nil ?_
     exact Fin.bZ [0,1,9,10,11] [] (IntKind.i64.wrap (x_1 + 1)) (Option.some.inj h4) rfl
  ·refine ab.exit (Fin.aC ?_)
   obtain rfl:=hy5 _ (Option.some.inj h4).symm
   refine Fin.aC (Fin.aS ?_)
   exact Fin.join [0,1] [] () rfl rfl
 ·rintro _ hv
  subst v1
  refine ab.seq (ab.seq (ab.aa ?_))
  refine Oc om (Oc (ba fO rfl (List.length_map _)) (Oc om (Oc (ba fO rfl (List.length_map _)) (Oc (bf rfl rfl) ?_))))
  refine ae.ai ⟨[(35,B (decide ((s10.length:Int) < (s20.length:Int))))],[]⟩ rfl (ab.ite h rfl (fun _ h=>?_) (fun _ h=>?_))
  ·refine ab.seq (ab.aa ?_)
   refine Oc oa (ae.ai ⟨[(4,I (-1))],[]⟩ rfl (ab.ret (Fin.au ?_)))
   obtain rfl:=Option.some.inj h
   refine Fin.ag ⟨[(4,_)],[]⟩ rfl (Fin.aw [.one (.i (-1))] (.inl rfl) rfl (.cons (.tmp rfl) .nil) ⟨rfl,rfl⟩)
  ·refine ab.skip (Fin.ag ⟨[],[]⟩ rfl (Fin.then (ab.seq (ab.aa ?_))))
   refine Oc oa (ae.ai ⟨[(4,I 0)],[]⟩ rfl (ab.ret ?_))
   obtain rfl:=Option.some.inj h
   refine Fin.ag ⟨[(4,_)],[]⟩ rfl (Fin.aw [.one (.i 0)] (.inl rfl) rfl (.cons (.tmp rfl) .nil) ⟨rfl,rfl⟩)
def kV (F:Nat) (vals0:List Int):Option Int :=
 Option.bind (iter F (fun x_1=>if (decide (x_1 < (vals0.length:Int))) = true then ((a8 vals0 x_1).bind fun x_2=>if (decide (x_2 ≠ 0)) = true then (some (.inr (.inr x_2))) else (some (.inl (IntKind.i64.wrap (x_1 + 1))))) else (some (.inr (.inl ())))) 0) (cy (fun _=>some 0) (fun y=>some y))
theorem sa {F:Nat} {vals0:List Int} {r:Int} (h:kV F vals0 = some r):ar Tryz.prog [] 52 [] [.one (.sl 1 (vals0.map eI))] (Is [] (.b (.one (.i r)))):=by
 unfold kV at h
 refine ar.intro 18 Tryz.func52 Tryz.ntmps52 rfl (by simp) fun E=>?_
 show ab _ E ⟨18,[],[],[]⟩ _ ⟨[(0,.b (.one (.sl 1 (vals0.map eI))))],[]⟩ _
 refine ab.seq (ab.aa ?_)
 refine Oc oa (ae.ai ⟨[(0,.b (.one (.sl 1 (vals0.map eI))))],[]⟩ rfl (ab.seq (ab.aa ?_)))
 refine Oc oa (ae.ai ⟨[(0,_),(3,I 0)],[]⟩ rfl ?_)
 obtain ⟨v1,h2,h⟩:=aN h
 refine ab.c6 (v:=v1) (fun (_:Unit)=>⟨[(3,I 0)],[]⟩) (fun z=>.inl z) ?_ ?_
 ·refine ab.seq (ab.aa ?_)
  refine Oc om (Oc (ba fO rfl (List.length_map _)) (Oc om ?_))
  refine ae.ai ⟨[(3,_),(6,.b (.one (.sl 1 (vals0.map eI)))),(7,I (vals0.length:Int)),(8,I 0)],[]⟩ rfl (ab.block (ab.c5 h2 (fun (x_1:Int)=>⟨[(3,I 0),(6,.b (.one (.sl 1 (vals0.map eI)))),(7,I (vals0.length:Int)),(8,I x_1)],[]⟩) [3,6,7,8] [] rfl ?_))
  rintro x_1 o3 h4 hy5
  refine ab.seq (ab.aa ?_)
  refine Oc (bf rfl rfl) (ae.ai ⟨[(3,_),(6,_),(7,_),(8,_),(9,B (decide (x_1 < (vals0.length:Int))))],[]⟩ rfl (ab.seq (ab.ite h4 rfl (fun _ h4=>?_) (fun _ h4=>?_))))
  ·refine ab.skip (Fin.ag ⟨[(3,_),(6,_),(7,_),(8,_)],[]⟩ rfl (Fin.then (ab.seq (ab.block (ab.seq (ab.aa ?_))))))
   obtain ⟨x_2,e6,h4⟩:=aN h4
   refine Oc (aM bL (aX e6) (bn (e:=eI) e6) rfl rfl) (Oc (ay aK rfl rfl) (Oc oa ?_))
   refine ae.ai ⟨[(3,_),(5,I x_2),(6,_),(7,_),(8,_)],[]⟩ rfl (ab.seq (ab.aa ?_))
   refine Oc om (Oc om (Oc (jf rfl rfl) ?_))
   refine ae.ai ⟨[(3,_),(5,_),(6,_),(7,_),(8,_),(14,B (decide (x_2 ≠ 0)))],[]⟩ rfl (ab.ite h4 rfl (fun _ h4=>?_) (fun _ h4=>?_))
   ·refine ab.seq (ab.aa ?_)
    refine Oc om (Oc oa ?_)
    refine ae.ai ⟨[(2,I x_2)],[]⟩ rfl (ab.ret (Fin.aP (Fin.au ?_)))
    obtain rfl:=hy5 _ (Option.some.inj h4).symm
    refine Fin.au (Fin.aP (Fin.au ?_))
    obtain rfl:=Option.some.inj h
    refine Fin.ag ⟨[(2,_)],[]⟩ rfl (Fin.aw [.one (.i x_2)] (.inl rfl) rfl (.cons (.tmp rfl) .nil) ⟨rfl,rfl⟩)
   ·refine ab.skip (Fin.av (Fin.ag ⟨[(3,_),(6,_),(7,_),(8,_)],[]⟩ rfl (Fin.then (ab.aa ?_))))
    refine Oc (bA rfl rfl) (Oc om ?_)
    refine ae.nil ?_
    exact Fin.bZ [3,6,7,8] [] (IntKind.i64.wrap (x_1 + 1)) (Option.some.inj h4) rfl
  ·refine ab.exit (Fin.aC ?_)
   obtain rfl:=hy5 _ (Option.some.inj h4).symm
   refine Fin.aC (Fin.aS ?_)
   exact Fin.join [3] [] () rfl rfl
 ·rintro _ hv
  subst v1
  refine ab.seq (ab.aa ?_)
  refine Oc om (Oc oa ?_)
  refine ae.ai ⟨[(2,I 0)],[]⟩ rfl (ab.ret ?_)
  obtain rfl:=Option.some.inj h
  refine Fin.ag ⟨[(2,_)],[]⟩ rfl (Fin.aw [.one (.i 0)] (.inl rfl) rfl (.cons (.tmp rfl) .nil) ⟨rfl,rfl⟩)
def gF (F:Nat) (a0:entry) (b0:entry):Option Int :=
 (dW F a0.b.Lo.l b0.b.Lo.l).bind fun x_1=>(dJ F a0.id b0.id).bind fun x_2=>(kV F [x_1,x_2]).bind fun x_3=>some x_3
theorem nM {F:Nat} {a0:entry} {b0:entry} {r:Int} (h:gF F a0 b0 = some r):ar Tryz.prog [] 51 [] [.agg (ax a0),.agg (ax b0)] (Is [] (.b (.one (.i r)))):=by
 unfold gF at h
 refine ar.intro 19 Tryz.func51 Tryz.ntmps51 rfl (by simp) fun E=>?_
 show ab _ E ⟨19,[],[],[]⟩ _ ⟨[(0,.b (.agg (ax a0))),(1,.b (.agg (ax b0)))],[]⟩ _
 refine ab.seq (ab.aa ?_)
 refine Oc (mH rfl) (Oc (mH rfl) (Oc oa ?_))
 refine ae.ai ⟨[(2,.b (.aO (ax a0))),(3,.b (.aO (ax b0)))],[]⟩ rfl (ab.seq ?_)
 obtain ⟨x_1,e1,h⟩:=aN h
 obtain ⟨x_2,e2,h⟩:=aN h
 obtain ⟨x_3,e3,h⟩:=aN h
 refine ab.bD mixed 15 [.b (.aO (ao a0.b)),.b (.aO (ao a0.b)),.b (.one (.sl 1 (a0.b.Lo.l.map eI))),.b (.aO (ao b0.b)),.b (.aO (ao b0.b)),.b (.one (.sl 1 (b0.b.Lo.l.map eI))),I x_1,.b (.aO (ax a0)),I a0.id,.b (.aO (ax b0)),I b0.id,I x_2,.b (.one (.sl 1 ([x_1,x_2].map eI))),I x_3,I x_3] [4] [] (s':=⟨[(4,I x_3)],[]⟩) rfl ⟨fun _=>by exact .p (az gw rfl rfl),fun _=>by exact .p (az cO rfl rfl),fun _=>.p (nZ (xs:=a0.b.Lo.l) (enc:=eI) bJ rfl rfl rfl (fun _=>rfl) (by rw [fj]; decide)),fun _=>by exact .p (az gw rfl rfl),fun _=>by exact .p (az cO rfl rfl),fun _=>.p (nZ (xs:=b0.b.Lo.l) (enc:=eI) bJ rfl rfl rfl (fun _=>rfl) (by rw [fj]; decide)),fun _=>.p (ak (ly e1) goes53 rfl rfl),fun _=>by exact .p (az dR rfl rfl),fun _=>.p (ay aK rfl rfl),fun _=>by exact .p (az dR rfl rfl),fun _=>.p (ay aK rfl rfl),fun _=>.p (ak (gA e2) sK rfl rfl),fun _=>.p (cK (es:=[x_1,x_2].map eI) bL rfl rfl (bM fun _=>rfl) rfl (by decide) (by decide)),fun _=>.p (ak (sa e3) goes52 rfl rfl),fun _=>.p oa,trivial⟩ rfl rfl (ab.ret ?_)
 obtain rfl:=Option.some.inj h
 refine Fin.ag ⟨[(4,_)],[]⟩ rfl (Fin.aw [.one (.i x_3)] (.inl rfl) rfl (.cons (.tmp rfl) .nil) ⟨rfl,rfl⟩)
def gj (F:Nat) (fn0:Nat) (a0:entry) (b0:entry):Option Int :=
 if fn0 = 50 then gG F a0 b0 else if fn0 = 51 then gF F a0 b0 else none
theorem pB {F:Nat} {fn0:Nat} {a0:entry} {b0:entry} {r:Int} (h:gj F fn0 a0 b0 = some r):ar Tryz.prog [] fn0 [] [.agg (ax a0),.agg (ax b0)] (Is [] (.b (.one (.i r)))):=by
 unfold gj at h
 split at h
 ·next e=>subst e; exact nN h
 ·next=>
  split at h
  ·next e=>subst e; exact nM h
  ·next=>
   simp at h
theorem pC {F:Nat} {fn0:Nat} {a0:entry} {b0:entry} {r:Int} (h:gj F fn0 a0 b0 = some r):bq Tryz.prog fn0:=by
 unfold gj at h
 split at h
 ·next e=>subst e; exact goes50
 ·next=>
  split at h
  ·next e=>subst e; exact goes51
  ·next=>
   simp at h
theorem rT {F:Nat} {fn0:Nat} {a0:entry} {b0:entry} {r:Int} (h:gj F fn0 a0 b0 = some r):fn0 ≠ 0:=by
 rintro rfl
 exact absurd h (by simp [gj])
def cx (F:Nat) (b0:b8):Option Bool :=
 Option.bind (iter F (fun x_1=>if (decide (x_1 < 3)) = true then ((a8 b0.Lo.l x_1).bind fun x_2=>(a8 b0.Hi.l x_1).bind fun x_3=>(br (!(decide (x_3 < x_2))) (a8 b0.Lo.l x_1)).bind fun x_4=>(br (!((decide (x_3 < x_2)) || (decide (x_4 < (-1125899906842624))))) (a8 b0.Hi.l x_1)).bind fun x_5=>if (((decide (x_3 < x_2)) || (decide (x_4 < (-1125899906842624)))) || (decide (1125899906842624 < x_5))) = true then (some (.inr (.inr false))) else (some (.inl (IntKind.i64.wrap (x_1 + 1))))) else (some (.inr (.inl ())))) 0) (cy (fun _=>some true) (fun y=>some y))
theorem dv {F:Nat} {b0:b8} {r:Bool} (h:cx F b0 = some r):ar Tryz.prog [] 14 [] [.agg (ao b0)] (Is [] (.b (.one (.bool r)))):=by
 unfold cx at h
 refine ar.intro 31 Tryz.func14 Tryz.ntmps14 rfl (by simp) fun E=>?_
 show ab _ E ⟨31,[],[],[]⟩ _ ⟨[(0,.b (.agg (ao b0)))],[]⟩ _
 refine ab.seq (ab.aa ?_)
 refine Oc (bo (k:=101) rfl rfl) (Oc oa ?_)
 refine ae.ai ⟨[(1,Pt 101 0)],[(101,.box 25 (ao b0))]⟩ rfl ?_
 obtain ⟨v1,h2,h⟩:=aN h
 refine ab.c6 (v:=v1) (fun (_:Unit)=>⟨[],[]⟩) (fun z=>.inl z) ?_ ?_
 ·refine ab.seq (ab.aa ?_)
  refine Oc om (ae.ai ⟨[(1,_),(4,I 0)],[(101,_)]⟩ rfl (ab.block (ab.c5 h2 (fun (x_1:Int)=>⟨[(1,Pt 101 0),(4,I x_1)],[(101,.box 25 (ao b0))]⟩) [1,4] [101] rfl ?_)))
  rintro x_1 o3 h4 hy5
  refine ab.seq (ab.aa ?_)
  refine Oc (bf rfl rfl) (ae.ai ⟨[(1,_),(4,_),(5,B (decide (x_1 < 3)))],[(101,_)]⟩ rfl (ab.seq (ab.ite h4 rfl (fun _ h4=>?_) (fun _ h4=>?_))))
  ·refine ab.skip (Fin.ag ⟨[(1,_),(4,_)],[(101,_)]⟩ rfl (Fin.then (ab.seq (ab.block (ab.seq (ab.aa ?_))))))
   refine Oc om (Oc oa ?_)
   refine ae.ai ⟨[(1,_),(3,I x_1),(4,_)],[(101,_)]⟩ rfl (ab.seq ?_)
   obtain ⟨x_2,e6,h4⟩:=aN h4
   obtain ⟨x_3,e7,h4⟩:=aN h4
   obtain ⟨x_4,e11,h4⟩:=aN h4
   obtain ⟨x_5,e17,h4⟩:=aN h4
   refine ab.bD mixed 23 [I x_1,Pt 101 0,.b (.ptr 101 (0 + (x_1:Int).toNat * 1)),I x_2,I x_1,Pt 101 3,.b (.ptr 101 (3 + (x_1:Int).toNat * 1)),I x_3,B (decide (x_3 < x_2)),B (decide (x_3 < x_2)),.opt (!(decide (x_3 < x_2))) (.one (.i x_1)),.opt (!(decide (x_3 < x_2))) (.ptr 101 0),.opt (!(decide (x_3 < x_2))) (.ptr 101 (0 + (x_1:Int).toNat * 1)),.opt (!(decide (x_3 < x_2))) (.one (.i x_4)),.opt (!(decide (x_3 < x_2))) (.one (.bool (decide (x_4 < (-1125899906842624))))),B ((decide (x_3 < x_2)) || (decide (x_4 < (-1125899906842624)))),B ((decide (x_3 < x_2)) || (decide (x_4 < (-1125899906842624)))),.opt (!((decide (x_3 < x_2)) || (decide (x_4 < (-1125899906842624))))) (.one (.i x_1)),.opt (!((decide (x_3 < x_2)) || (decide (x_4 < (-1125899906842624))))) (.ptr 101 3),.opt (!((decide (x_3 < x_2)) || (decide (x_4 < (-1125899906842624))))) (.ptr 101 (3 + (x_1:Int).toNat * 1)),.opt (!((decide (x_3 < x_2)) || (decide (x_4 < (-1125899906842624))))) (.one (.i x_5)),.opt (!((decide (x_3 < x_2)) || (decide (x_4 < (-1125899906842624))))) (.one (.bool (decide (1125899906842624 < x_5)))),B (((decide (x_3 < x_2)) || (decide (x_4 < (-1125899906842624)))) || (decide (1125899906842624 < x_5)))] [1,4,29] [101] (s':=⟨[(1,_),(4,_),(29,B (((decide (x_3 < x_2)) || (decide (x_4 < (-1125899906842624)))) || (decide (1125899906842624 < x_5))))],[(101,_)]⟩) rfl ⟨fun _=>.p om,fun _=>.p (an cO rfl rfl),fun _=>.p (a7 bJ (aX e6) (dn e6) rfl rfl rfl),fun _=>.p (aF aK rfl rfl (cI (post:=((cW .i64) b0.Hi)) (k:=.i64) [] e6 rfl rfl rfl)),fun _=>.p om,fun _=>.p (an cN rfl rfl),fun _=>.p (a7 bJ (aX e7) (dn e7) rfl rfl rfl),fun _=>.p (aF aK rfl rfl (cI (post:=[]) (k:=.i64) ((cW .i64) b0.Lo) e7 rfl rfl rfl)),fun _=>.p (iD rfl rfl),fun _=>.p om,fun _=>by exact .guard (!(decide (x_3 < x_2))) 1 [] (.plain rfl) (dB _) rfl rfl (fun g8=>trivial) (fun g8=>om),fun _=>by exact .guard (!(decide (x_3 < x_2))) 1 [] (.plain rfl) (dB _) rfl rfl (fun g9=>trivial) (fun g9=>an cO rfl rfl),fun _=>by exact .guard (!(decide (x_3 < x_2))) 3 [17,18] (.plain rfl) (dB _) rfl rfl (fun g10=>⟨g10,g10,trivial⟩) (fun g10=>a7 bJ (aX (gc e11 g10)) (dn (gc e11 g10)) rfl rfl rfl),fun _=>by exact .guard (!(decide (x_3 < x_2))) 2 [19] (.plain rfl) (dB _) rfl rfl (fun g12=>⟨g12,trivial⟩) (fun g12=>aF aK rfl rfl (cI (post:=((cW .i64) b0.Hi)) (k:=.i64) [] (gc e11 g12) rfl rfl rfl)),fun _=>by exact .guard (!(decide (x_3 < x_2))) 2 [20] (.plain rfl) (dB _) rfl rfl (fun g13=>⟨g13,trivial⟩) (fun g13=>bf rfl rfl),fun _=>.p (cn (fun e=>by first | (rw [e]; rfl) | (simp only at e; rw [e]; rfl)) rfl rfl rfl rfl),fun _=>.p om,fun _=>by exact .guard (!((decide (x_3 < x_2)) || (decide (x_4 < (-1125899906842624))))) 1 [] (.plain rfl) (dB _) rfl rfl (fun g14=>trivial) (fun g14=>om),fun _=>by exact .guard (!((decide (x_3 < x_2)) || (decide (x_4 < (-1125899906842624))))) 1 [] (.plain rfl) (dB _) rfl rfl (fun g15=>trivial) (fun g15=>an cN rfl rfl),fun _=>by exact .guard (!((decide (x_3 < x_2)) || (decide (x_4 < (-1125899906842624))))) 3 [24,25] (.plain rfl) (dB _) rfl rfl (fun g16=>⟨g16,g16,trivial⟩) (fun g16=>a7 bJ (aX (gc e17 g16)) (dn (gc e17 g16)) rfl rfl rfl),fun _=>by exact .guard (!((decide (x_3 < x_2)) || (decide (x_4 < (-1125899906842624))))) 2 [26] (.plain rfl) (dB _) rfl rfl (fun g18=>⟨g18,trivial⟩) (fun g18=>aF aK rfl rfl (cI (post:=[]) (k:=.i64) ((cW .i64) b0.Lo) (gc e17 g18) rfl rfl rfl)),fun _=>by exact .guard (!((decide (x_3 < x_2)) || (decide (x_4 < (-1125899906842624))))) 2 [27] (.plain rfl) (dB _) rfl rfl (fun g19=>⟨g19,trivial⟩) (fun g19=>iD rfl rfl),fun _=>.p (cn (fun e=>by first | (rw [e]; rfl) | (simp only at e; rw [e]; rfl)) rfl rfl rfl rfl),trivial⟩ rfl rfl ?_
   refine ab.ite h4 rfl (fun _ h4=>?_) (fun _ h4=>?_)
   ·refine ab.seq (ab.aa ?_)
    refine Oc oa (ae.ai ⟨[(2,B false)],[]⟩ rfl (ab.ret (Fin.aP (Fin.au ?_))))
    obtain rfl:=hy5 _ (Option.some.inj h4).symm
    refine Fin.au (Fin.aP (Fin.au ?_))
    obtain rfl:=Option.some.inj h
    refine Fin.ag ⟨[(2,_)],[]⟩ rfl (Fin.aw [.one (.bool false)] (.inl rfl) rfl (.cons (.tmp rfl) .nil) ⟨rfl,rfl⟩)
   ·refine ab.skip (Fin.av (Fin.ag ⟨[(1,_),(4,_)],[(101,_)]⟩ rfl (Fin.then (ab.aa ?_))))
    refine Oc (bA rfl rfl) (Oc om ?_)
    refine ae.nil ?_
    exact Fin.bZ [1,4] [101] (IntKind.i64.wrap (x_1 + 1)) (Option.some.inj h4) rfl
  ·refine ab.exit (Fin.aC ?_)
   obtain rfl:=hy5 _ (Option.some.inj h4).symm
   refine Fin.aC (Fin.aS ?_)
   exact Fin.join [] [] () rfl rfl
 ·rintro _ hv
  subst v1
  refine ab.seq (ab.aa ?_)
  refine Oc oa (ae.ai ⟨[(2,B true)],[]⟩ rfl (ab.ret ?_))
  obtain rfl:=Option.some.inj h
  refine Fin.ag ⟨[(2,_)],[]⟩ rfl (Fin.aw [.one (.bool true)] (.inl rfl) rfl (.cons (.tmp rfl) .nil) ⟨rfl,rfl⟩)
def gY (F:Nat) (b0:b8):Option Bool :=
 (cx F b0).bind fun x_1=>some (!x_1)
theorem mh {F:Nat} {b0:b8} {r:Bool} (h:gY F b0 = some r):ar Tryz.prog [] 41 [] [.agg (ao b0)] (Is [] (.b (.one (.bool r)))):=by
 unfold gY at h
 refine ar.intro 6 Tryz.func41 Tryz.ntmps41 rfl (by simp) fun E=>?_
 show ab _ E ⟨6,[],[],[]⟩ _ ⟨[(0,.b (.agg (ao b0)))],[]⟩ _
 refine ab.seq (ab.aa ?_)
 refine Oc (bo (k:=101) rfl rfl) (Oc oa ?_)
 refine ae.ai ⟨[(1,Pt 101 0)],[(101,.box 25 (ao b0))]⟩ rfl (ab.seq (ab.aa ?_))
 refine Oc (lp aB) ?_
 obtain ⟨x_1,e1,h⟩:=aN h
 refine Oc (ak (dv e1) nf rfl rfl) (Oc (cS rfl) (Oc oa ?_))
 refine ae.ai ⟨[(2,B (!x_1))],[]⟩ rfl (ab.ret ?_)
 obtain rfl:=Option.some.inj h
 refine Fin.ag ⟨[(2,_)],[]⟩ rfl (Fin.aw [.one (.bool (!x_1))] (.inl rfl) rfl (.cons (.tmp rfl) .nil) ⟨rfl,rfl⟩)
def kW (F:Nat) (fn0:Nat) (b0:b8):Option Bool :=
 if fn0 = 41 then gY F b0 else none
theorem sb {F:Nat} {fn0:Nat} {b0:b8} {r:Bool} (h:kW F fn0 b0 = some r):ar Tryz.prog [] fn0 [] [.agg (ao b0)] (Is [] (.b (.one (.bool r)))):=by
 unfold kW at h
 split at h
 ·next e=>subst e; exact mh h
 ·next=>
  simp at h
theorem sc {F:Nat} {fn0:Nat} {b0:b8} {r:Bool} (h:kW F fn0 b0 = some r):bq Tryz.prog fn0:=by
 unfold kW at h
 split at h
 ·next e=>subst e; exact goes41
 ·next=>
  simp at h
def gX (F:Nat) (n0:dh bu):Option Bool :=
 some n0.dC
theorem mf {F:Nat} {n0:dh bu} {r:Bool} (h:gX F n0 = some r):ar Tryz.prog [] 123 [] [.one (.tr af n0)] (Is [] (.b (.one (.bool r)))):=by
 unfold gX at h
 refine ar.intro 5 Tryz.func123 Tryz.ntmps123 rfl (by simp) fun E=>?_
 show ab _ E ⟨5,[],[],[]⟩ _ ⟨[(0,.b (.one (.tr af n0)))],[]⟩ _
 refine ab.seq (ab.aa ?_)
 refine Oc oa (ae.ai ⟨[(0,.b (.one (.tr af n0)))],[]⟩ rfl (ab.seq (ab.aa ?_)))
 refine Oc om (Oc (fT lU rfl) (Oc oa ?_))
 refine ae.ai ⟨[(2,B n0.dC)],[]⟩ rfl (ab.ret ?_)
 obtain rfl:=Option.some.inj h
 refine Fin.ag ⟨[(2,_)],[]⟩ rfl (Fin.aw [.one (.bool n0.dC)] (.inl rfl) rfl (.cons (.tmp rfl) .nil) ⟨rfl,rfl⟩)
def iv (F:Nat) (fn0:Nat) (n0:dh bu):Option Bool :=
 if fn0 = 123 then gX F n0 else none
theorem mM {F:Nat} {fn0:Nat} {n0:dh bu} {r:Bool} (h:iv F fn0 n0 = some r):ar Tryz.prog [] fn0 [] [.one (.tr af n0)] (Is [] (.b (.one (.bool r)))):=by
 unfold iv at h
 split at h
 ·next e=>subst e; exact mf h
 ·next=>
  simp at h
theorem mN {F:Nat} {fn0:Nat} {n0:dh bu} {r:Bool} (h:iv F fn0 n0 = some r):bq Tryz.prog fn0:=by
 unfold iv at h
 split at h
 ·next e=>subst e; exact goes123
 ·next=>
  simp at h
def ir (F:Nat) (b0:b8) (n0:Int):Option (b8 × Int) :=
 (cx F b0).bind fun x_1=>fE (((!x_1) || (decide (n0 < 0))) || (decide (2251799813685248 < n0))) fun x_2=>if x_2 = true then (some ((⟨A3.zero,A3.zero⟩:b8),1)) else (Option.bind (iter F (dg fun b_4 x_5=>if (decide (x_5 < 3)) = true then ((a8 b_4.Lo.l x_5).bind fun x_7=>(a8 b_4.Lo.l x_5).bind fun x_8=>(a8 b_4.Hi.l x_5).bind fun x_9=>(a8 b_4.Hi.l x_5).bind fun x_10=>some (.inl ((⟨b_4.Lo.set x_5 (IntKind.i64.wrap (x_7 - n0)),b_4.Hi.set x_5 (IntKind.i64.wrap (x_9 + n0))⟩:b8),IntKind.i64.wrap (x_5 + 1)))) else (some (.inr b_4))) (b0,0)) (fun b_3=>(cx F b_3).bind fun x_11=>if (!x_11) = true then (some ((⟨A3.zero,A3.zero⟩:b8),1)) else (some (b_3,0))))
theorem kr {F:Nat} {b0:b8} {n0:Int} {r:b8 × Int} (h:ir F b0 n0 = some r):ar Tryz.prog [] 11 [] [.agg (ao b0),.one (.i n0)] (Is [] (.dL [.agg (ao r.1),.one (.i r.2)])):=by
 unfold ir at h
 refine ar.intro 44 Tryz.func11 Tryz.ntmps11 rfl (by simp) fun E=>?_
 show ab _ E ⟨44,[],[],[]⟩ _ ⟨[(0,.b (.agg (ao b0))),(1,I n0)],[]⟩ _
 refine ab.seq (ab.aa ?_)
 refine Oc (bo (k:=101) rfl rfl) (Oc (aT (k:=102) eC rfl) (Oc oa ?_))
 refine ae.ai ⟨[(1,I n0),(2,Pt 101 0),(4,Pt 102 0)],[(101,.box 25 (ao b0)),(102,.box 25 ((cW .i64) A3.zero ++ ((cW .i64) A3.zero)))]⟩ rfl (ab.seq (ab.seq (ab.aa ?_)))
 refine Oc (lp aB) ?_
 obtain ⟨x_1,e1,h⟩:=aN h
 refine Oc (ak (dv e1) nf rfl rfl) (Oc (cS rfl) (Oc om ?_))
 refine oC (!(!x_1)) [] (fun g2=>trivial) (fun g2=>om) (ae.ag ⟨[(1,_),(2,_),(4,_),(10,B (!x_1)),(11,.opt (!(!x_1)) (.one (.i n0)))],[(101,_),(102,_)]⟩ rfl (oC (!(!x_1)) [11] (fun g3=>by exact ⟨g3,trivial⟩) (fun g3=>bf rfl rfl) (Oc (cn (fun e=>by first | (rw [e]; rfl) | (simp only at e; rw [e]; rfl)) rfl rfl rfl rfl) (Oc om ?_))))
 refine oC (!((!x_1) || (decide (n0 < 0)))) [] (fun g4=>trivial) (fun g4=>om) (oC (!((!x_1) || (decide (n0 < 0)))) [15] (fun g5=>by exact ⟨g5,trivial⟩) (fun g5=>iD rfl rfl) (ae.pX h rfl (cn (fun e=>by first | (rw [e]; rfl) | (simp only at e; rw [e]; rfl)) rfl rfl rfl rfl) (fun x_2 h=>?_)))
 refine ae.ai ⟨[(1,_),(2,_),(4,_),(17,B x_2)],[(101,_),(102,_)]⟩ rfl (ab.ite h rfl (fun _ h=>?_) (fun _ h=>?_))
 ·refine ab.seq (ab.aa ?_)
  refine Oc (bR nm rfl rfl) (Oc (aA aB rfl rfl rfl rfl (Nat.le_of_ble_eq_true rfl) rfl) (Oc oa ?_))
  refine ae.ai ⟨[(4,_),(5,I 1)],[(102,_)]⟩ rfl (ab.ret (Fin.au ?_))
  obtain rfl:=Option.some.inj h
  refine Fin.ag ⟨[(4,_),(5,_)],[(102,_)]⟩ rfl (Fin.aw [.agg ((cW .i64) A3.zero ++ ((cW .i64) A3.zero)),.one (.i 1)] (.inl rfl) rfl (.cons (.agg aB rfl rfl rfl rfl) (.cons (.tmp rfl) .nil)) ⟨rfl,rfl⟩)
 ·refine ab.skip (Fin.ag ⟨[(1,_),(2,_),(4,_)],[(101,_),(102,_)]⟩ rfl (Fin.then ?_))
  obtain ⟨v6,h7,h⟩:=aN h
  refine ab.c6 (v:=v6) (fun (b_3:b8)=>⟨[(2,Pt 101 0),(4,Pt 102 0)],[(101,.box 25 (ao b_3)),(102,.box 25 ((cW .i64) A3.zero ++ ((cW .i64) A3.zero)))]⟩) (fun z=>z) ?_ ?_
  ·refine ab.seq (ab.aa ?_)
   refine Oc om (ae.ai ⟨[(1,_),(2,_),(4,_),(19,I 0)],[(101,_),(102,_)]⟩ rfl (ab.block (ab.c5 h7 (dg fun (b_4:b8) (x_5:Int)=>⟨[(1,I n0),(2,Pt 101 0),(4,Pt 102 0),(19,I x_5)],[(101,.box 25 (ao b_4)),(102,.box 25 ((cW .i64) A3.zero ++ ((cW .i64) A3.zero)))]⟩) [1,2,4,19] [101,102] rfl ?_)))
   rintro ⟨b_4,x_5⟩ o8 h9 hy10
   refine ab.seq (ab.aa ?_)
   refine Oc (bf rfl rfl) (ae.ai ⟨[(1,_),(2,_),(4,_),(19,_),(20,B (decide (x_5 < 3)))],[(101,_),(102,_)]⟩ rfl (ab.seq (ab.ite h9 rfl (fun _ h9=>?_) (fun _ h9=>?_))))
   ·refine ab.skip (Fin.ag ⟨[(1,_),(2,_),(4,_),(19,_)],[(101,_),(102,_)]⟩ rfl (Fin.then (ab.seq (ab.block (ab.seq (ab.aa ?_))))))
    refine Oc om (Oc oa ?_)
    refine ae.ai ⟨[(1,_),(2,_),(4,_),(6,I x_5),(19,_)],[(101,_),(102,_)]⟩ rfl (ab.seq (ab.aa ?_))
    refine Oc om (Oc (an cO rfl rfl) ?_)
    obtain ⟨x_7,e11,h9⟩:=aN h9
    refine Oc (a7 bJ (aX e11) (dn e11) rfl rfl rfl) (Oc (aF aK rfl rfl (cI (post:=((cW .i64) b_4.Hi)) (k:=.i64) [] e11 rfl rfl rfl)) (Oc om (Oc (uV rfl rfl) (Oc (an cO rfl rfl) ?_))))
    obtain ⟨x_8,e12,h9⟩:=aN h9
    refine Oc (a7 bJ (aX e12) (dn e12) rfl rfl rfl) (Oc (eX aK rfl rfl rfl (qB (post:=((cW .i64) b_4.Hi)) (k:=.i64) [] e12 rfl rfl rfl) (oA (post:=((cW .i64) b_4.Hi)) (k:=.i64) [] e12 rfl rfl (A3.q8 b_4.Lo x_5 (IntKind.i64.wrap (x_7 - n0))) rfl rfl)) ?_)
    refine ae.ai ⟨[(1,_),(2,_),(4,_),(6,_),(19,_)],[(101,.box 25 ((cW .i64) (b_4.Lo.set x_5 (IntKind.i64.wrap (x_7 - n0))) ++ ((cW .i64) b_4.Hi))),(102,_)]⟩ rfl (ab.aa (Oc om (Oc (an cN rfl rfl) ?_)))
    obtain ⟨x_9,e13,h9⟩:=aN h9
    refine Oc (a7 bJ (aX e13) (dn e13) rfl rfl rfl) (Oc (aF aK rfl rfl (cI (post:=[]) (k:=.i64) ((cW .i64) (b_4.Lo.set x_5 (IntKind.i64.wrap (x_7 - n0)))) e13 rfl rfl rfl)) (Oc om (Oc (bA rfl rfl) (Oc (an cN rfl rfl) ?_))))
    obtain ⟨x_10,e14,h9⟩:=aN h9
    refine Oc (a7 bJ (aX e14) (dn e14) rfl rfl rfl) (Oc (eX aK rfl rfl rfl (qB (post:=[]) (k:=.i64) ((cW .i64) (b_4.Lo.set x_5 (IntKind.i64.wrap (x_7 - n0)))) e14 rfl rfl rfl) (oA (post:=[]) (k:=.i64) ((cW .i64) (b_4.Lo.set x_5 (IntKind.i64.wrap (x_7 - n0)))) e14 rfl rfl (A3.q8 b_4.Hi x_5 (IntKind.i64.wrap (x_9 + n0))) rfl rfl)) ?_)
    refine ae.nil (Fin.av (Fin.ag ⟨[(1,_),(2,_),(4,_),(19,_)],[(101,.box 25 ((cW .i64) (b_4.Lo.set x_5 (IntKind.i64.wrap (x_7 - n0))) ++ ((cW .i64) (b_4.Hi.set x_5 (IntKind.i64.wrap (x_9 + n0)))))),(102,_)]⟩ rfl (Fin.then (ab.aa ?_))))
    refine Oc (bA rfl rfl) (Oc om ?_)
    refine ae.nil ?_
    exact Fin.bZ [1,2,4,19] [101,102] ((⟨b_4.Lo.set x_5 (IntKind.i64.wrap (x_7 - n0)),b_4.Hi.set x_5 (IntKind.i64.wrap (x_9 + n0))⟩:b8),IntKind.i64.wrap (x_5 + 1)) (Option.some.inj h9) rfl
   ·refine ab.exit (Fin.aC ?_)
    obtain rfl:=hy10 _ (Option.some.inj h9).symm
    refine Fin.aC (Fin.aS ?_)
    exact Fin.join [2,4] [101,102] b_4 rfl rfl
  ·rintro b_3 hv
   subst v6
   refine ab.seq (ab.seq (ab.aa ?_))
   refine Oc (lp aB) ?_
   obtain ⟨x_11,e15,h⟩:=aN h
   refine Oc (ak (dv e15) nf rfl rfl) (Oc (cS rfl) ?_)
   refine ae.ai ⟨[(2,_),(4,_),(41,B (!x_11))],[(101,_),(102,_)]⟩ rfl (ab.ite h rfl (fun _ h=>?_) (fun _ h=>?_))
   ·refine ab.seq (ab.aa ?_)
    refine Oc (bR nm rfl rfl) (Oc (aA aB rfl rfl rfl rfl (Nat.le_of_ble_eq_true rfl) rfl) (Oc oa ?_))
    refine ae.ai ⟨[(4,_),(5,I 1)],[(102,_)]⟩ rfl (ab.ret (Fin.au ?_))
    obtain rfl:=Option.some.inj h
    refine Fin.ag ⟨[(4,_),(5,_)],[(102,_)]⟩ rfl (Fin.aw [.agg ((cW .i64) A3.zero ++ ((cW .i64) A3.zero)),.one (.i 1)] (.inl rfl) rfl (.cons (.agg aB rfl rfl rfl rfl) (.cons (.tmp rfl) .nil)) ⟨rfl,rfl⟩)
   ·refine ab.skip (Fin.ag ⟨[(2,_),(4,_)],[(101,_),(102,_)]⟩ rfl (Fin.then (ab.seq (ab.aa ?_))))
    refine Oc (lp aB) (Oc (aA aB rfl rfl rfl rfl (Nat.le_of_ble_eq_true rfl) rfl) (Oc oa ?_))
    refine ae.ai ⟨[(4,_),(5,I 0)],[(102,.box 25 (ao b_3))]⟩ rfl (ab.ret ?_)
    obtain rfl:=Option.some.inj h
    refine Fin.ag ⟨[(4,_),(5,_)],[(102,_)]⟩ rfl (Fin.aw [.agg (ao b_3),.one (.i 0)] (.inl rfl) rfl (.cons (.agg aB rfl rfl rfl rfl) (.cons (.tmp rfl) .nil)) ⟨rfl,rfl⟩)
def bO (F:Nat) (b0:b8):Option Bool :=
 Option.bind (iter F (fun i_1=>if (decide (i_1 < 3)) = true then ((a8 b0.Lo.l i_1).bind fun x_2=>(a8 b0.Hi.l i_1).bind fun x_3=>(br (!(decide (x_3 < x_2))) (a8 b0.Lo.l i_1)).bind fun x_4=>(br (!((decide (x_3 < x_2)) || (decide (x_4 < (-1125899906842624))))) (a8 b0.Hi.l i_1)).bind fun x_5=>if (((decide (x_3 < x_2)) || (decide (x_4 < (-1125899906842624)))) || (decide (1125899906842624 < x_5))) = true then (some (.inr (.inr false))) else (some (.inl (IntKind.i64.wrap (i_1 + 1))))) else (some (.inr (.inl ())))) 0) (cy (fun _=>some true) (fun y=>some y))
theorem dK {F:Nat} {b0:b8} {r:Bool} (h:bO F b0 = some r):ar Tryz.prog [] 13 [] [.agg (ao b0)] (Is [] (.b (.one (.bool r)))):=by
 unfold bO at h
 refine ar.intro 31 Tryz.func13 Tryz.ntmps13 rfl (by simp) fun E=>?_
 show ab _ E ⟨31,[],[],[]⟩ _ ⟨[(0,.b (.agg (ao b0)))],[]⟩ _
 refine ab.seq (ab.aa ?_)
 refine Oc (bo (k:=101) rfl rfl) (Oc oa ?_)
 refine ae.ai ⟨[(1,Pt 101 0)],[(101,.box 25 (ao b0))]⟩ rfl ?_
 obtain ⟨v1,h2,h⟩:=aN h
 refine ab.c6 (v:=v1) (fun (_:Unit)=>⟨[],[]⟩) (fun z=>.inl z) ?_ ?_
 ·refine ab.seq (ab.aa ?_)
  refine Oc oa (ae.ai ⟨[(1,_),(3,I 0)],[(101,_)]⟩ rfl (ab.block (ab.c5 h2 (fun (i_1:Int)=>⟨[(1,Pt 101 0),(3,I i_1)],[(101,.box 25 (ao b0))]⟩) [1,3] [101] rfl ?_)))
  rintro i_1 o3 h4 hy5
  refine ab.seq (ab.seq (ab.aa ?_))
  refine Oc om (Oc (bf rfl rfl) ?_)
  refine ae.ai ⟨[(1,_),(3,_),(5,B (decide (i_1 < 3)))],[(101,_)]⟩ rfl (ab.ite h4 rfl (fun _ h4=>?_) (fun _ h4=>?_))
  ·refine ab.skip (Fin.ag ⟨[(1,_),(3,_)],[(101,_)]⟩ rfl (Fin.then (ab.seq (ab.block (ab.seq ?_)))))
   refine ab.ag ⟨[(1,_),(3,_)],[(101,_)]⟩ rfl ?_
   obtain ⟨x_2,e6,h4⟩:=aN h4
   obtain ⟨x_3,e7,h4⟩:=aN h4
   obtain ⟨x_4,e11,h4⟩:=aN h4
   obtain ⟨x_5,e17,h4⟩:=aN h4
   refine ab.bD mixed 23 [I i_1,Pt 101 0,.b (.ptr 101 (0 + (i_1:Int).toNat * 1)),I x_2,I i_1,Pt 101 3,.b (.ptr 101 (3 + (i_1:Int).toNat * 1)),I x_3,B (decide (x_3 < x_2)),B (decide (x_3 < x_2)),.opt (!(decide (x_3 < x_2))) (.one (.i i_1)),.opt (!(decide (x_3 < x_2))) (.ptr 101 0),.opt (!(decide (x_3 < x_2))) (.ptr 101 (0 + (i_1:Int).toNat * 1)),.opt (!(decide (x_3 < x_2))) (.one (.i x_4)),.opt (!(decide (x_3 < x_2))) (.one (.bool (decide (x_4 < (-1125899906842624))))),B ((decide (x_3 < x_2)) || (decide (x_4 < (-1125899906842624)))),B ((decide (x_3 < x_2)) || (decide (x_4 < (-1125899906842624)))),.opt (!((decide (x_3 < x_2)) || (decide (x_4 < (-1125899906842624))))) (.one (.i i_1)),.opt (!((decide (x_3 < x_2)) || (decide (x_4 < (-1125899906842624))))) (.ptr 101 3),.opt (!((decide (x_3 < x_2)) || (decide (x_4 < (-1125899906842624))))) (.ptr 101 (3 + (i_1:Int).toNat * 1)),.opt (!((decide (x_3 < x_2)) || (decide (x_4 < (-1125899906842624))))) (.one (.i x_5)),.opt (!((decide (x_3 < x_2)) || (decide (x_4 < (-1125899906842624))))) (.one (.bool (decide (1125899906842624 < x_5)))),B (((decide (x_3 < x_2)) || (decide (x_4 < (-1125899906842624)))) || (decide (1125899906842624 < x_5)))] [1,3,30] [101] (s':=⟨[(1,_),(3,_),(30,B (((decide (x_3 < x_2)) || (decide (x_4 < (-1125899906842624)))) || (decide (1125899906842624 < x_5))))],[(101,_)]⟩) rfl ⟨fun _=>.p om,fun _=>.p (an cO rfl rfl),fun _=>.p (a7 bJ (aX e6) (dn e6) rfl rfl rfl),fun _=>.p (aF aK rfl rfl (cI (post:=((cW .i64) b0.Hi)) (k:=.i64) [] e6 rfl rfl rfl)),fun _=>.p om,fun _=>.p (an cN rfl rfl),fun _=>.p (a7 bJ (aX e7) (dn e7) rfl rfl rfl),fun _=>.p (aF aK rfl rfl (cI (post:=[]) (k:=.i64) ((cW .i64) b0.Lo) e7 rfl rfl rfl)),fun _=>.p (iD rfl rfl),fun _=>.p om,fun _=>by exact .guard (!(decide (x_3 < x_2))) 1 [] (.plain rfl) (dB _) rfl rfl (fun g8=>trivial) (fun g8=>om),fun _=>by exact .guard (!(decide (x_3 < x_2))) 1 [] (.plain rfl) (dB _) rfl rfl (fun g9=>trivial) (fun g9=>an cO rfl rfl),fun _=>by exact .guard (!(decide (x_3 < x_2))) 3 [18,19] (.plain rfl) (dB _) rfl rfl (fun g10=>⟨g10,g10,trivial⟩) (fun g10=>a7 bJ (aX (gc e11 g10)) (dn (gc e11 g10)) rfl rfl rfl),fun _=>by exact .guard (!(decide (x_3 < x_2))) 2 [20] (.plain rfl) (dB _) rfl rfl (fun g12=>⟨g12,trivial⟩) (fun g12=>aF aK rfl rfl (cI (post:=((cW .i64) b0.Hi)) (k:=.i64) [] (gc e11 g12) rfl rfl rfl)),fun _=>by exact .guard (!(decide (x_3 < x_2))) 2 [21] (.plain rfl) (dB _) rfl rfl (fun g13=>⟨g13,trivial⟩) (fun g13=>bf rfl rfl),fun _=>.p (cn (fun e=>by first | (rw [e]; rfl) | (simp only at e; rw [e]; rfl)) rfl rfl rfl rfl),fun _=>.p om,fun _=>by exact .guard (!((decide (x_3 < x_2)) || (decide (x_4 < (-1125899906842624))))) 1 [] (.plain rfl) (dB _) rfl rfl (fun g14=>trivial) (fun g14=>om),fun _=>by exact .guard (!((decide (x_3 < x_2)) || (decide (x_4 < (-1125899906842624))))) 1 [] (.plain rfl) (dB _) rfl rfl (fun g15=>trivial) (fun g15=>an cN rfl rfl),fun _=>by exact .guard (!((decide (x_3 < x_2)) || (decide (x_4 < (-1125899906842624))))) 3 [25,26] (.plain rfl) (dB _) rfl rfl (fun g16=>⟨g16,g16,trivial⟩) (fun g16=>a7 bJ (aX (gc e17 g16)) (dn (gc e17 g16)) rfl rfl rfl),fun _=>by exact .guard (!((decide (x_3 < x_2)) || (decide (x_4 < (-1125899906842624))))) 2 [27] (.plain rfl) (dB _) rfl rfl (fun g18=>⟨g18,trivial⟩) (fun g18=>aF aK rfl rfl (cI (post:=[]) (k:=.i64) ((cW .i64) b0.Lo) (gc e17 g18) rfl rfl rfl)),fun _=>by exact .guard (!((decide (x_3 < x_2)) || (decide (x_4 < (-1125899906842624))))) 2 [28] (.plain rfl) (dB _) rfl rfl (fun g19=>⟨g19,trivial⟩) (fun g19=>iD rfl rfl),fun _=>.p (cn (fun e=>by first | (rw [e]; rfl) | (simp only at e; rw [e]; rfl)) rfl rfl rfl rfl),trivial⟩ rfl rfl ?_
   refine ab.ite h4 rfl (fun _ h4=>?_) (fun _ h4=>?_)
   ·refine ab.seq (ab.aa ?_)
    refine Oc oa (ae.ai ⟨[(2,B false)],[]⟩ rfl (ab.ret (Fin.aP (Fin.au ?_))))
    obtain rfl:=hy5 _ (Option.some.inj h4).symm
    refine Fin.au (Fin.aP (Fin.au ?_))
    obtain rfl:=Option.some.inj h
    refine Fin.ag ⟨[(2,_)],[]⟩ rfl (Fin.aw [.one (.bool false)] (.inl rfl) rfl (.cons (.tmp rfl) .nil) ⟨rfl,rfl⟩)
   ·refine ab.skip (Fin.av (Fin.ag ⟨[(1,_),(3,_)],[(101,_)]⟩ rfl (Fin.then (ab.aa ?_))))
    refine Oc om (Oc (bA rfl rfl) (Oc oa ?_))
    refine ae.nil ?_
    exact Fin.bZ [1,3] [101] (IntKind.i64.wrap (i_1 + 1)) (Option.some.inj h4) rfl
  ·refine ab.exit (Fin.aC ?_)
   obtain rfl:=hy5 _ (Option.some.inj h4).symm
   refine Fin.aC (Fin.aS ?_)
   exact Fin.join [] [] () rfl rfl
 ·rintro _ hv
  subst v1
  refine ab.seq (ab.aa ?_)
  refine Oc oa (ae.ai ⟨[(2,B true)],[]⟩ rfl (ab.ret ?_))
  obtain rfl:=Option.some.inj h
  refine Fin.ag ⟨[(2,_)],[]⟩ rfl (Fin.aw [.one (.bool true)] (.inl rfl) rfl (.cons (.tmp rfl) .nil) ⟨rfl,rfl⟩)
def cp (F:Nat) (a0:Int) (b0:Int) (c0:Int) (d0:Int) (e0:Int) (f0:Int):Option b8 :=
 fE (⟨(⟨a0,b0,c0⟩:A3),(⟨d0,e0,f0⟩:A3)⟩:b8) fun x_1=>some x_1
theorem cM {F:Nat} {a0:Int} {b0:Int} {c0:Int} {d0:Int} {e0:Int} {f0:Int} {r:b8} (h:cp F a0 b0 c0 d0 e0 f0 = some r):ar Tryz.prog [] 39 [] [.one (.i a0),.one (.i b0),.one (.i c0),.one (.i d0),.one (.i e0),.one (.i f0)] (Is [] (.b (.agg (ao r)))):=by
 unfold cp at h
 refine ar.intro 22 Tryz.func39 Tryz.ntmps39 rfl (by simp) fun E=>?_
 show ab _ E ⟨22,[],[],[]⟩ _ ⟨[(0,I a0),(1,I b0),(2,I c0),(3,I d0),(4,I e0),(5,I f0)],[]⟩ _
 refine ab.seq (ab.aa ?_)
 refine Oc (aT (k:=101) eC rfl) (ae.ai ⟨[(0,I a0),(1,I b0),(2,I c0),(3,I d0),(4,I e0),(5,I f0),(12,Pt 101 0)],[(101,.box 25 ((cW .i64) A3.zero ++ ((cW .i64) A3.zero)))]⟩ rfl (ab.seq (ab.aa ?_)))
 refine Oc om (Oc om (Oc om (Oc (dS p8 rfl rfl) (Oc om (Oc om ?_)))))
 refine Oc om (ae.ag ⟨[(12,_),(16,.b (.agg [.i a0,.i b0,.i c0])),(17,I d0),(18,I e0),(19,I f0)],[(101,_)]⟩ rfl (Oc (dS p8 rfl rfl) (ae.mx ao h rfl (bR nm rfl rfl) (fun x_1 h=>?_))))
 refine Oc (aA aB rfl rfl rfl rfl (Nat.le_of_ble_eq_true rfl) rfl) (ae.ai ⟨[(12,_)],[(101,.box 25 (ao x_1))]⟩ rfl (ab.ret ?_))
 obtain rfl:=Option.some.inj h
 refine Fin.ag ⟨[(12,_)],[(101,_)]⟩ rfl (Fin.aw [.agg (ao x_1)] (.inl rfl) rfl (.cons (.agg aB rfl rfl rfl rfl) .nil) ⟨rfl,rfl⟩)
def cJ (F:Nat) (a0:b8) (b0:b8):Option Bool :=
 Option.bind (iter F (fun x_1=>if (decide (x_1 < 3)) = true then ((a8 a0.Hi.l x_1).bind fun x_2=>(a8 b0.Lo.l x_1).bind fun x_3=>(br (!(decide (x_2 < x_3))) (a8 b0.Hi.l x_1)).bind fun x_4=>(br (!(decide (x_2 < x_3))) (a8 a0.Lo.l x_1)).bind fun x_5=>if ((decide (x_2 < x_3)) || (decide (x_4 < x_5))) = true then (some (.inr (.inr false))) else (some (.inl (IntKind.i64.wrap (x_1 + 1))))) else (some (.inr (.inl ())))) 0) (cy (fun _=>some true) (fun y=>some y))
theorem dE {F:Nat} {a0:b8} {b0:b8} {r:Bool} (h:cJ F a0 b0 = some r):ar Tryz.prog [] 16 [] [.agg (ao a0),.agg (ao b0)] (Is [] (.b (.one (.bool r)))):=by
 unfold cJ at h
 refine ar.intro 30 Tryz.func16 Tryz.ntmps16 rfl (by simp) fun E=>?_
 show ab _ E ⟨30,[],[],[]⟩ _ ⟨[(0,.b (.agg (ao a0))),(1,.b (.agg (ao b0)))],[]⟩ _
 refine ab.seq (ab.aa ?_)
 refine Oc (bo (k:=101) rfl rfl) (Oc (bo (k:=102) rfl rfl) (Oc oa ?_))
 refine ae.ai ⟨[(2,Pt 101 0),(3,Pt 102 0)],[(101,.box 25 (ao a0)),(102,.box 25 (ao b0))]⟩ rfl ?_
 obtain ⟨v1,h2,h⟩:=aN h
 refine ab.c6 (v:=v1) (fun (_:Unit)=>⟨[],[]⟩) (fun z=>.inl z) ?_ ?_
 ·refine ab.seq (ab.aa ?_)
  refine Oc om (ae.ai ⟨[(2,_),(3,_),(6,I 0)],[(101,_),(102,_)]⟩ rfl (ab.block (ab.c5 h2 (fun (x_1:Int)=>⟨[(2,Pt 101 0),(3,Pt 102 0),(6,I x_1)],[(101,.box 25 (ao a0)),(102,.box 25 (ao b0))]⟩) [2,3,6] [101,102] rfl ?_)))
  rintro x_1 o3 h4 hy5
  refine ab.seq (ab.aa ?_)
  refine Oc (bf rfl rfl) (ae.ai ⟨[(2,_),(3,_),(6,_),(7,B (decide (x_1 < 3)))],[(101,_),(102,_)]⟩ rfl (ab.seq (ab.ite h4 rfl (fun _ h4=>?_) (fun _ h4=>?_))))
  ·refine ab.skip (Fin.ag ⟨[(2,_),(3,_),(6,_)],[(101,_),(102,_)]⟩ rfl (Fin.then (ab.seq (ab.block (ab.seq (ab.aa ?_))))))
   refine Oc om (Oc oa ?_)
   refine ae.ai ⟨[(2,_),(3,_),(5,I x_1),(6,_)],[(101,_),(102,_)]⟩ rfl (ab.seq ?_)
   obtain ⟨x_2,e6,h4⟩:=aN h4
   obtain ⟨x_3,e7,h4⟩:=aN h4
   obtain ⟨x_4,e11,h4⟩:=aN h4
   obtain ⟨x_5,e16,h4⟩:=aN h4
   refine ab.bD mixed 20 [I x_1,Pt 101 3,.b (.ptr 101 (3 + (x_1:Int).toNat * 1)),I x_2,I x_1,Pt 102 0,.b (.ptr 102 (0 + (x_1:Int).toNat * 1)),I x_3,B (decide (x_2 < x_3)),B (decide (x_2 < x_3)),.opt (!(decide (x_2 < x_3))) (.one (.i x_1)),.opt (!(decide (x_2 < x_3))) (.ptr 102 3),.opt (!(decide (x_2 < x_3))) (.ptr 102 (3 + (x_1:Int).toNat * 1)),.opt (!(decide (x_2 < x_3))) (.one (.i x_4)),.opt (!(decide (x_2 < x_3))) (.one (.i x_1)),.opt (!(decide (x_2 < x_3))) (.ptr 101 0),.opt (!(decide (x_2 < x_3))) (.ptr 101 (0 + (x_1:Int).toNat * 1)),.opt (!(decide (x_2 < x_3))) (.one (.i x_5)),.opt (!(decide (x_2 < x_3))) (.one (.bool (decide (x_4 < x_5)))),B ((decide (x_2 < x_3)) || (decide (x_4 < x_5)))] [2,3,6,28] [101,102] (s':=⟨[(2,_),(3,_),(6,_),(28,B ((decide (x_2 < x_3)) || (decide (x_4 < x_5))))],[(101,_),(102,_)]⟩) rfl ⟨fun _=>.p om,fun _=>.p (an cN rfl rfl),fun _=>.p (a7 bJ (aX e6) (dn e6) rfl rfl rfl),fun _=>.p (aF aK rfl rfl (cI (post:=[]) (k:=.i64) ((cW .i64) a0.Lo) e6 rfl rfl rfl)),fun _=>.p om,fun _=>.p (an cO rfl rfl),fun _=>.p (a7 bJ (aX e7) (dn e7) rfl rfl rfl),fun _=>.p (aF aK rfl rfl (cI (post:=((cW .i64) b0.Hi)) (k:=.i64) [] e7 rfl rfl rfl)),fun _=>.p (bf rfl rfl),fun _=>.p om,fun _=>by exact .guard (!(decide (x_2 < x_3))) 1 [] (.plain rfl) (dB _) rfl rfl (fun g8=>trivial) (fun g8=>om),fun _=>by exact .guard (!(decide (x_2 < x_3))) 1 [] (.plain rfl) (dB _) rfl rfl (fun g9=>trivial) (fun g9=>an cN rfl rfl),fun _=>by exact .guard (!(decide (x_2 < x_3))) 3 [19,20] (.plain rfl) (dB _) rfl rfl (fun g10=>⟨g10,g10,trivial⟩) (fun g10=>a7 bJ (aX (gc e11 g10)) (dn (gc e11 g10)) rfl rfl rfl),fun _=>by exact .guard (!(decide (x_2 < x_3))) 2 [21] (.plain rfl) (dB _) rfl rfl (fun g12=>⟨g12,trivial⟩) (fun g12=>aF aK rfl rfl (cI (post:=[]) (k:=.i64) ((cW .i64) b0.Lo) (gc e11 g12) rfl rfl rfl)),fun _=>by exact .guard (!(decide (x_2 < x_3))) 1 [] (.plain rfl) (dB _) rfl rfl (fun g13=>trivial) (fun g13=>om),fun _=>by exact .guard (!(decide (x_2 < x_3))) 1 [] (.plain rfl) (dB _) rfl rfl (fun g14=>trivial) (fun g14=>an cO rfl rfl),fun _=>by exact .guard (!(decide (x_2 < x_3))) 3 [23,24] (.plain rfl) (dB _) rfl rfl (fun g15=>⟨g15,g15,trivial⟩) (fun g15=>a7 bJ (aX (gc e16 g15)) (dn (gc e16 g15)) rfl rfl rfl),fun _=>by exact .guard (!(decide (x_2 < x_3))) 2 [25] (.plain rfl) (dB _) rfl rfl (fun g17=>⟨g17,trivial⟩) (fun g17=>aF aK rfl rfl (cI (post:=((cW .i64) a0.Hi)) (k:=.i64) [] (gc e16 g17) rfl rfl rfl)),fun _=>by exact .guard (!(decide (x_2 < x_3))) 3 [22,26] (.plain rfl) (dB _) rfl rfl (fun g18=>⟨g18,g18,trivial⟩) (fun g18=>bf rfl rfl),fun _=>.p (cn (fun e=>by first | (rw [e]; rfl) | (simp only at e; rw [e]; rfl)) rfl rfl rfl rfl),trivial⟩ rfl rfl ?_
   refine ab.ite h4 rfl (fun _ h4=>?_) (fun _ h4=>?_)
   ·refine ab.seq (ab.aa ?_)
    refine Oc oa (ae.ai ⟨[(4,B false)],[]⟩ rfl (ab.ret (Fin.aP (Fin.au ?_))))
    obtain rfl:=hy5 _ (Option.some.inj h4).symm
    refine Fin.au (Fin.aP (Fin.au ?_))
    obtain rfl:=Option.some.inj h
    refine Fin.ag ⟨[(4,_)],[]⟩ rfl (Fin.aw [.one (.bool false)] (.inl rfl) rfl (.cons (.tmp rfl) .nil) ⟨rfl,rfl⟩)
   ·refine ab.skip (Fin.av (Fin.ag ⟨[(2,_),(3,_),(6,_)],[(101,_),(102,_)]⟩ rfl (Fin.then (ab.aa ?_))))
    refine Oc (bA rfl rfl) (Oc om ?_)
    refine ae.nil ?_
    exact Fin.bZ [2,3,6] [101,102] (IntKind.i64.wrap (x_1 + 1)) (Option.some.inj h4) rfl
  ·refine ab.exit (Fin.aC ?_)
   obtain rfl:=hy5 _ (Option.some.inj h4).symm
   refine Fin.aC (Fin.aS ?_)
   exact Fin.join [] [] () rfl rfl
 ·rintro _ hv
  subst v1
  refine ab.seq (ab.aa ?_)
  refine Oc oa (ae.ai ⟨[(4,B true)],[]⟩ rfl (ab.ret ?_))
  obtain rfl:=Option.some.inj h
  refine Fin.ag ⟨[(4,_)],[]⟩ rfl (Fin.aw [.one (.bool true)] (.inl rfl) rfl (.cons (.tmp rfl) .nil) ⟨rfl,rfl⟩)
def cD (F:Nat) (n0:dh bu) (v0c:b8):Option Bool :=
 Option.bind (jq n0) (fun nd_1=>(cJ F nd_1.1.cover v0c).bind fun x_2=>some x_2)
theorem kG {F:Nat} {n0:dh bu} {v0c:b8} {r:Bool} (h:cD F n0 v0c = some r):ar Tryz.prog [] 74 [] [.one (.tr af n0),.aO (ao v0c)] (Is [] (.b (.one (.bool r)))):=by
 unfold cD at h
 refine ar.intro 10 Tryz.func74 Tryz.ntmps74 rfl (by simp) fun E=>?_
 show ab _ E ⟨10,[],[],[]⟩ _ ⟨[(0,.b (.one (.tr af n0))),(1,.b (.aO (ao v0c)))],[]⟩ _
 refine ab.seq (ab.aa ?_)
 refine Oc oa (ae.ai ⟨[(0,.b (.one (.tr af n0))),(1,.b (.aO (ao v0c)))],[]⟩ rfl (ab.seq ?_))
 obtain ⟨nd_1,e1,h⟩:=aN h
 obtain ⟨x_2,e2,h⟩:=aN h
 refine ab.bD mixed 7 [.b (.one (.tr af n0)),.b (.aO (ax nd_1.1.x ++ (.int .u64 nd_1.1.priority :: (ao nd_1.1.cover ++ ([.tr af nd_1.2.1,.tr af nd_1.2.2]))))),.b (.aO (ao nd_1.1.cover ++ ([.tr af nd_1.2.1,.tr af nd_1.2.2]))),.b (.agg (ao nd_1.1.cover)),.b (.agg (ao v0c)),B x_2,B x_2] [3] [] (s':=⟨[(3,B x_2)],[]⟩) rfl ⟨fun _=>.p om,fun _=>.p (aJ e1 rfl rfl),fun _=>by exact .p (az jU rfl rfl),fun _=>.p (bm aB rfl rfl rfl),fun _=>.p (bm aB rfl rfl rfl),fun _=>.p (ak (dE e2) nc rfl rfl),fun _=>.p oa,trivial⟩ rfl rfl (ab.ret ?_)
 obtain rfl:=Option.some.inj h
 refine Fin.ag ⟨[(3,_)],[]⟩ rfl (Fin.aw [.one (.bool x_2)] (.inl rfl) rfl (.cons (.tmp rfl) .nil) ⟨rfl,rfl⟩)
def k6 (F:Nat) (a00:dh bu):Option Bool :=
 some true
theorem mS {F:Nat} {a00:dh bu} {r:Bool} (h:k6 F a00 = some r):ar Tryz.prog [] 58 [] [.one (.tr af a00)] (Is [] (.b (.one (.bool r)))):=by
 unfold k6 at h
 refine ar.intro 3 Tryz.func58 Tryz.ntmps58 rfl (by simp) fun E=>?_
 show ab _ E ⟨3,[],[],[]⟩ _ ⟨[(0,.b (.one (.tr af a00)))],[]⟩ _
 refine ab.seq (ab.aa ?_)
 refine Oc oa (ae.ai ⟨[],[]⟩ rfl (ab.seq (ab.aa ?_)))
 refine Oc oa (ae.ai ⟨[(2,B true)],[]⟩ rfl (ab.ret ?_))
 obtain rfl:=Option.some.inj h
 refine Fin.ag ⟨[(2,_)],[]⟩ rfl (Fin.aw [.one (.bool true)] (.inl rfl) rfl (.cons (.tmp rfl) .nil) ⟨rfl,rfl⟩)
section
variable {P:Program} {TB:aZ} {m:Nat} {s:St} {ops:Array Oper} {l:List Oper} {Q:bT} {o:Oper}
theorem lu {E:Env TB} {d:Nat} (K:Bool → PH → World → Prop) (hK:∀ b h w,K b h w → kn h w ∧ cT TB h w) (hown:s.own = []) (hdm:d < m)
    (hop:∀ a w h ρ,WR E ⟨m,[],[],[]⟩ [] h ρ w → aW h ρ s.slots a.tmps → ∀ (K':Act → World → Prop),(∀ b h' w',h.le h' → K b h' w' → K' (a.put (some d) (.bool b)) w') → o.wpIn Fence.wide 0 P a w K' Q)
    (hnext:∀ b h' ρ w' (tb:cT TB h' w'),K b h' w' → bb P (⟨w',h',ρ,tb⟩:Env TB) ⟨m,[],[],[]⟩ Fence.wide ops l ⟨(d,B b) :: del d s.slots,[]⟩ Q) :
    ∀ a w,R E ⟨m,[],[],[]⟩ s a w → o.wpIn Fence.wide 0 P a w (ml P Fence.wide ops Q l) Q:=by
  rintro a w ⟨hd,hn,h,ρ,hw,hs⟩
  rw [hown] at hw
  refine hop a w h ρ hw hs _ fun b h' w' hle hk=>?_
  obtain ⟨hag,htb⟩:=hK b h' w' hk
  refine hnext b h' ρ w' htb hk _ w' (R.fresh htb hag hd (by simpa [Act.put] using hn) ?_)
  exact aW.set (hs.mono hle) hn hdm rfl
theorem bb.stepU {E:Env TB} {n:Sh} {F:Fence} (hg:o.guard = none) (h:∀ a w,R E n s a w → o.wpIn F 0 P a w (ml P F ops Q l) Q):bb P E n F ops (o :: l) s Q:=by
  intro a w hr
  unfold ml
  have:Region.wanted o (yielded ops a.tmps) = true:=by simp [Region.wanted,hg]
  simp only [this,if_true]
  exact h a w hr
end
theorem vI:c7 Tryz.prog 98:=⟨⟨_,Tryz.underlying98,rfl⟩,⟨Tryz.t98,by kernel_rfl,by kernel_rfl⟩⟩
theorem goes58':bq Tryz.prog 58:=⟨Tryz.call58⟩
theorem goes74':bq Tryz.prog 74:=⟨Tryz.call74⟩
theorem qN:bq Tryz.prog 78:=⟨Tryz.call78⟩
def tB (c:CP) (p:dh bu → Option Bool):Prop :=
  ∀ {E:Env []} {m:Nat} {sl:List (Nat × SV)} {dst:Option Nat} {ats:Array TypeId} {ty:TypeId} {pos:String} {after:Array Edge} {g:Option (Nat × Bool)} {x y:Operand} {t:dh bu} {z:Bool},
    p t = some z → (⟨sl,[]⟩:St).ev x = some (.b (.one c)) → (⟨sl,[]⟩:St).ev y = some (.b (.one (CP.tr af t))) → bB Tryz.prog E ⟨m,[],[],[]⟩ ⟨dst,.call ⟨.value x,#[y],ats⟩,ty,pos,after,g⟩ ⟨sl,[]⟩ ((⟨sl,[]⟩:St).put ⟨m,[],[],[]⟩ dst (B z))
theorem mR:tB (.raw (.func (.func 58) #[] #[])) (fun _=>some true):=by
  intro E n sl dst ats ty pos after g x y t z hz hx hy
  exact jz (args:=[.one (CP.tr af t)]) (mS (F:=0) hz) goes58' hx (by simp [gg,evB,hy]) rfl
theorem r9 {F:Nat} {b:b8}:tB (.fq 74 [CP.rp (ao b)]) (fun t=>cD F t b):=by
  intro E n sl dst ats ty pos after g x y t z hz hx hy
  have h:=oY (E:=E) (n:=⟨n,[],[],[]⟩) (s:=⟨sl,[]⟩) (dst:=dst) (ty:=ty) (pos:=pos) (after:=after) (g:=g) (ats:=ats) (x:=x) (xs:=#[y]) (zs:=[.one (CP.tr af t)]) (pss:=[ao b]) (own_a:=[]) (own':=[]) (kG hz) goes74' hx (by simp [gg,evB,hy]) rfl trivial rfl rfl rfl
  have e:(⟨sl,[]⟩:St).aft ⟨n,[],[],[]⟩ [] [] dst (B z) = (⟨sl,[]⟩:St).put ⟨n,[],[],[]⟩ dst (B z):=by
    rfl
  rw [← e]
  exact h
theorem pb {t:dh bu} {c:CP}:ar Tryz.prog [] 57 [] [.one (CP.tr af t),.one c] (Is [] (.b (.one (.fq 77 [CP.rp [CP.tr af t],CP.rp [c]])))):=by
  refine ar.intro 6 Tryz.func57 Tryz.ntmps57 rfl (by simp) fun E=>?_
  show ab _ E ⟨6,[],[],[]⟩ _ ⟨[(0,.b (.one (CP.tr af t))),(1,.b (.one c))],[]⟩ _
  refine ab.seq ?_
  refine ab.aa ?_
  refine ae.cons rfl (qI rfl) ?_
  refine ae.cons rfl (qI rfl) ?_
  refine ae.cons rfl (bH rfl) ?_
  refine ae.nilK [2,3] [] (s':=⟨[(2,.b (.aO [CP.tr af t])),(3,.b (.aO [c]))],[]⟩) rfl ?_
  refine ab.seq ?_
  refine ab.aa ?_
  refine ae.cons rfl (il rfl) ?_
  refine ae.cons rfl (bH rfl) ?_
  refine ae.nilK [4] [] (s':=⟨[(4,.b (.one (.fq 77 [CP.rp [CP.tr af t],CP.rp [c]])))],[]⟩) rfl ?_
  refine ab.ret ?_
  exact Fin.aw [.one (.fq 77 [CP.rp [CP.tr af t],CP.rp [c]])] (.inl rfl) rfl (.cons (.tmp rfl) .nil) ⟨rfl,rfl⟩
section
variable {J:Nat → PH → World → Prop} {Jx:PH → World → Prop} {L:Nat} {c:CP} {p:dh bu → Option Bool} {all:List entry}
def Kv (J:Nat → PH → World → Prop) (Jx:PH → World → Prop) (h0:PH) (k:Nat) (b:Bool) (h:PH) (w:World):Prop:=h0.le h ∧ (if b = true then J k h w else Jx h w)
theorem Kv.ok (hJ:∀ k,lE [] (J k)) (hJx:lE [] Jx) {h0:PH} {k:Nat} {b:Bool} {h:PH} {w:World} (hk:Kv J Jx h0 k b h w):kn h w ∧ cT [] h w:=by
  cases b with
  | true=>exact (hJ k).1 h w hk.2
  | false=>exact hJx.1 h w (by simpa [Kv] using hk.2)
theorem Kv.go (hJ:∀ k,lE [] (J k)) (hJx:lE [] Jx) {h0:PH} {k:Nat} {b:Bool} {h h':PH} {w w':World} {tb:cT [] h w} {ρ ρ':RM} {own':List (Nat × OC)} {m:Nat} (hk:Kv J Jx h0 k b h w) (hw:WR (⟨w,h,ρ,tb⟩:Env []) ⟨m,[],[],[]⟩ own' h' ρ' w'):Kv J Jx h0 k b h' w':=by
  refine ⟨PH.le_trans hk.1 hw.le,?_⟩
  cases b with
  | true=>exact (hJ k).2 h w hk.2 tb ρ h' ρ' w' own' m hw
  | false=>exact hJx.2 h w (by simpa [Kv] using hk.2) tb ρ h' ρ' w' own' m hw
def VisEnd (J:Nat → PH → World → Prop) (Jx:PH → World → Prop) (h0:PH) (k:Nat) (e:Ending) (w:World):Prop:=∃ b h,e = .returned (.bool b) ∧ Kv J Jx h0 k b h w
theorem rW (hJ:∀ k,lE [] (J k)) (hJx:lE [] Jx) (hp:tB c p)
    (hround:∀ k x h W vals,all[k]? = some x → J k h W → aU (fun (x:BV) v=>∀ ρ,x.rel h ρ v) (uc x) vals →
      YieldAt Fence.wide 0 Tryz.prog L vals.toArray W fun e W'=>(e = .returned (.bool true) ∧ ∃ h',h.le h' ∧ J (k + 1) h' W') ∨ (e = .returned (.bool false) ∧ ∃ h',h.le h' ∧ Jx h' W')) :
    ∀ (t:dh bu) (ys:List entry) (k:Nat),oD p t = some ys → (∀ i x,ys[i]? = some x → all[k + i]? = some x) → ∀ h W v1 v2,J k h W → (CP.tr af t).rel h v1 → c.rel h v2 →
      Calls Tryz.prog 78 #[v1,v2,.func (.yield L) #[] #[]] W (VisEnd J Jx h (k + ys.length)):=by
  intro t
  induction t with
  | leaf=>
    intro ys k hv hall h W v1 v2 hj h1 h2
    cases hv
    refine callsIn_wide.1 (callsIn_of_wp (n:=0) (F:=Fence.wide) Tryz.func78 rfl trivial ?_)
    obtain ⟨hs0,hn0⟩:=me (m:=39) (h:=h) (ρ:=fun _=>.bool false) (args:=[.one (CP.tr af .leaf),.one c,.one (.raw (.func (.yield L) #[] #[]))]) (vals:=[v1,v2,.func (.yield L) #[] #[]])
      (.cons h1 (.cons h2 (.cons ⟨rfl,rfl⟩ .nil))) (Nat.le_of_ble_eq_true rfl)
    obtain ⟨hag0,htb0⟩:=(hJ k).1 h W hj
    have hk0:Kv J Jx h k true h W:=⟨PH.le_refl h,by simpa using hj⟩
    generalize hQo:bodyPost Tryz.prog _ _ = Qo
    have hlo:¬ LetsOut Qo:=by
      rw [← hQo]
      rintro ⟨a,w,b,h',he,_⟩
      cases he
    have hend:∀ (b:Bool) (w0:World) (h0:PH) (ρ0:RM) (tb:cT [] h0 w0),Kv J Jx h (k + 0) b h0 w0 → Fin (⟨w0,h0,ρ0,tb⟩:Env []) ⟨39,[],[],[]⟩ .ret ⟨[(6,B b)],[]⟩ Qo:=by
      rintro b w0 h0 ρ0 tb hK a w ⟨hd,hn,h',ρ',hw,hs⟩
      rw [← hQo]
      obtain ⟨v,hv,hrel⟩:=gP (P:=Tryz.prog) (fn:=Tryz.f78) (s:=⟨[(6,B b)],[]⟩) (zs:=[.one (.bool b)]) (.cons (.tmp rfl) .nil) hw hs
      have hv':v = .bool b:=hrel
      exact ⟨hd,v,hv w (cA.refl w),b,h',by rw [hv'],hK.go hJ hJx hw⟩
    refine (show a6 Tryz.prog (⟨W,h,fun _=>.bool false,htb0⟩:Env []) ⟨39,[],[],[]⟩ Fence.wide _ ⟨_,[]⟩ Qo from ?_) hlo _ _ (R.fresh htb0 hag0 rfl hn0 hs0)
    clear hs0 hn0
    refine a6.seq ?_
    refine a6.aa (.inl rfl) ?_
    refine ae.cons rfl (bH rfl) ?_
    refine ae.nil ?_
    refine Fin.keep [0,1,2] [] (s':=⟨[(0,.b (.one (CP.tr af .leaf))),(1,.b (.one c)),(2,.b (.one (.raw (.func (.yield L) #[] #[]))))],[]⟩) rfl ?_
    refine Fin.gZ ?_ hlo
    refine a6.seq ?_
    refine a6.seq ?_
    refine a6.ou (.inl rfl) ?_
    refine bb.cons (.inl rfl) rfl (aR rfl) ?_
    refine bb.cons (.inl rfl) rfl (fT lU rfl) ?_
    refine bb.cons (.inl rfl) rfl (aR rfl) ?_
    refine bb.eQ (.plain (t:=9) rfl) rfl rfl rfl (.one .any) ?_
    refine bb.eQ (.plain (t:=9) rfl) rfl rfl rfl (.one .any) ?_
    refine bb.eQ (.plain (t:=9) rfl) rfl rfl rfl (.one .any) ?_
    refine bb.eQ (.plain (t:=9) rfl) rfl rfl rfl (.one (.bool true)) ?_
    refine bb.cons (.inl rfl) rfl (cn (fun e=>Bool.noConfusion e) rfl rfl rfl) ?_
    refine bb.nil ?_
    refine Fin.keep [14] [] (s':=⟨[(14,B true)],[]⟩) rfl ?_
    refine Fin.gZ ?_ (iH hlo)
    refine a6.cond rfl (fun he=>?_) (fun he=>absurd he (by decide))
    refine a6.seq ?_
    refine a6.aa (.inl rfl) ?_
    refine ae.cons rfl (bH rfl) ?_
    refine ae.nil ?_
    refine Fin.keep [6] [] (s':=⟨[(6,B true)],[]⟩) rfl ?_
    refine Fin.gZ ?_ (iH hlo)
    refine a6.ret ?_
    exact Fin.au (hend true W h _ htb0 (by simpa using hk0))
  | node a l r ihl ihr=>
    intro ys k hv hall h W v1 v2 hj h1 h2
    refine callsIn_wide.1 (callsIn_of_wp (n:=0) (F:=Fence.wide) Tryz.func78 rfl trivial ?_)
    obtain ⟨hs0,hn0⟩:=me (m:=39) (h:=h) (ρ:=fun _=>.bool false) (args:=[.one (CP.tr af (.node a l r)),.one c,.one (.raw (.func (.yield L) #[] #[]))]) (vals:=[v1,v2,.func (.yield L) #[] #[]])
      (.cons h1 (.cons h2 (.cons ⟨rfl,rfl⟩ .nil))) (Nat.le_of_ble_eq_true rfl)
    obtain ⟨hag0,htb0⟩:=(hJ k).1 h W hj
    have hk0:Kv J Jx h k true h W:=⟨PH.le_refl h,by simpa using hj⟩
    generalize hQo:bodyPost Tryz.prog _ _ = Qo
    have hlo:¬ LetsOut Qo:=by
      rw [← hQo]
      rintro ⟨a,w,b,h',he,_⟩
      cases he
    have hend:∀ (b:Bool) (w0:World) (h0:PH) (ρ0:RM) (tb:cT [] h0 w0),Kv J Jx h (k + ys.length) b h0 w0 → Fin (⟨w0,h0,ρ0,tb⟩:Env []) ⟨39,[],[],[]⟩ .ret ⟨[(6,B b)],[]⟩ Qo:=by
      rintro b w0 h0 ρ0 tb hK a w ⟨hd,hn,h',ρ',hw,hs⟩
      rw [← hQo]
      obtain ⟨v,hv,hrel⟩:=gP (P:=Tryz.prog) (fn:=Tryz.f78) (s:=⟨[(6,B b)],[]⟩) (zs:=[.one (.bool b)]) (.cons (.tmp rfl) .nil) hw hs
      have hv':v = .bool b:=hrel
      exact ⟨hd,v,hv w (cA.refl w),b,h',by rw [hv'],hK.go hJ hJx hw⟩
    refine (show a6 Tryz.prog (⟨W,h,fun _=>.bool false,htb0⟩:Env []) ⟨39,[],[],[]⟩ Fence.wide _ ⟨_,[]⟩ Qo from ?_) hlo _ _ (R.fresh htb0 hag0 rfl hn0 hs0)
    clear hs0 hn0
    refine a6.seq ?_
    refine a6.aa (.inl rfl) ?_
    refine ae.cons rfl (bH rfl) ?_
    refine ae.nil ?_
    refine Fin.keep [0,1,2] [] (s':=⟨[(0,.b (.one (CP.tr af (.node a l r)))),(1,.b (.one c)),(2,.b (.one (.raw (.func (.yield L) #[] #[]))))],[]⟩) rfl ?_
    refine Fin.gZ ?_ hlo
    refine a6.seq ?_
    refine a6.seq ?_
    refine a6.ou (.inl rfl) ?_
    refine bb.cons (.inl rfl) rfl (aR rfl) ?_
    refine bb.cons (.inl rfl) rfl (fT lU rfl) ?_
    refine bb.cons (.inl rfl) rfl (aR rfl) ?_
    obtain ⟨cb,hcb,hv⟩:=Option.bind_eq_some_iff.1 hv
    refine bb.iA (.inl rfl) (.plain (t:=9) rfl) rfl rfl rfl (aR rfl) ?_
    refine bb.iA (.inl rfl) (.plain (t:=9) rfl) rfl rfl rfl (aR rfl) ?_
    refine bb.iA (.inl rfl) (.plain (t:=9) rfl) rfl rfl rfl (hp hcb rfl rfl) ?_
    refine bb.iA (.inl rfl) (.plain (t:=9) rfl) rfl rfl rfl (cS rfl) ?_
    refine bb.opt 13 rfl ?_
    refine bb.cons (.inl rfl) rfl (cn (fun _=>rfl) rfl rfl rfl) ?_
    refine bb.nil ?_
    refine Fin.keep [0,1,2,14] [] (s':=⟨[(0,.b (.one (CP.tr af (.node a l r)))),(1,.b (.one c)),(2,.b (.one (.raw (.func (.yield L) #[] #[])))),(14,B (false || !cb))],[]⟩) rfl ?_
    refine Fin.gZ ?_ (iH hlo)
    refine a6.cond rfl (fun he=>?_) (fun he=>?_)
    · have hcb':cb = false:=by simpa using he
      subst hcb'
      have hys:ys = []:=by simpa using hv.symm
      subst hys
      refine a6.seq ?_
      refine a6.aa (.inl rfl) ?_
      refine ae.cons rfl (bH rfl) ?_
      refine ae.nil ?_
      refine Fin.keep [6] [] (s':=⟨[(6,B true)],[]⟩) rfl ?_
      refine Fin.gZ ?_ (iH hlo)
      refine a6.ret ?_
      exact Fin.au (hend true W h _ htb0 (by simpa using hk0))
    have hcb':cb = true:=by simpa using he
    subst hcb'
    rw [if_pos rfl] at hv
    obtain ⟨xs,hxs,hv⟩:=Option.bind_eq_some_iff.1 hv
    obtain ⟨zs,hzs,hv⟩:=Option.bind_eq_some_iff.1 hv
    have hys:ys = xs ++ a.x :: zs:=(Option.some.inj hv).symm
    subst hys
    have hlen:k + (xs ++ a.x :: zs).length = k + xs.length + 1 + zs.length:=by simp; omega
    refine a6.skip ?_
    refine Fin.keep [0,1,2] [] (s':=⟨[(0,.b (.one (CP.tr af (.node a l r)))),(1,.b (.one c)),(2,.b (.one (.raw (.func (.yield L) #[] #[]))))],[]⟩) rfl ?_
    refine Fin.gZ ?_ hlo
    refine a6.seq ?_
    refine a6.ou (.inl rfl) ?_
    refine bb.cons (.inl rfl) rfl (aR rfl) ?_
    refine bb.cons (.inl rfl) rfl (aJ (z:=(a,l,r)) (qs:=af a ++ [CP.tr af l,CP.tr af r]) rfl rfl rfl) ?_
    refine bb.cons (.inl rfl) rfl (az (qs:=[CP.tr af l,CP.tr af r]) ep rfl rfl) ?_
    refine bb.cons (.inl rfl) rfl (ay (p:=CP.tr af l) bI rfl rfl) ?_
    refine bb.cons (.inl rfl) rfl (aR rfl) ?_
    refine bb.cons (.inl rfl) rfl (aR rfl) ?_
    refine bb.stepU rfl (lu (d:=21) (Kv J Jx h (k + xs.length)) (fun b h w hk=>hk.ok hJ hJx) rfl (by decide) ?_ ?_)
    · intro a1 w1 h1' ρ1 hw1 hs1 K' hK'
      have hj1:=hk0.go hJ hJx hw1
      have e20:a1.eval (.tmp 20) = .func (.yield L) #[] #[]:=(aQ hs1 (o:=.tmp 20) rfl:(CP.raw _).rel h1' _).1
      refine lg (.inl rfl) rfl (fun a w h=>h) ?_
      unfold Oper.wp
      rw [jv qN a1 w1]
      show Calls Tryz.prog 78 [a1.eval (.tmp 18),a1.eval (.tmp 19),a1.eval (.tmp 20)].toArray w1 _
      rw [e20]
      refine (ihl xs k hxs (fun i x hi=>hall i x (by rw [List.getElem?_append_left (List.getElem?_eq_some_iff.1 hi).1]; exact hi)) h1' w1 _ _ hj1.2 (aQ hs1 (o:=.tmp 18) rfl) (aQ hs1 (o:=.tmp 19) rfl)).mono ?_
      rintro e w' ⟨b,h',rfl,hk⟩
      exact hK' b h' w' hk.1 ⟨PH.le_trans hj1.1 hk.1,hk.2⟩
    intro b1 h2 ρ2 w2 tb2 hk1
    refine bb.keep [0,1,2,21] [] (s':=⟨[(0,.b (.one (CP.tr af (.node a l r)))),(1,.b (.one c)),(2,.b (.one (.raw (.func (.yield L) #[] #[])))),(21,B b1)],[]⟩) rfl ?_
    refine bb.cons (.inl rfl) rfl (aR rfl) ?_
    cases b1 with
    | false=>
      refine bb.eQ (.plain (t:=22) rfl) rfl rfl rfl (.one .any) ?_
      refine bb.eQ (.plain (t:=22) rfl) rfl rfl rfl (.one .any) ?_
      refine bb.eQ (.plain (t:=22) rfl) rfl rfl rfl (.one .any) ?_
      refine bb.eQ (.plain (t:=22) rfl) rfl rfl rfl (.one .any) ?_
      refine bb.eQ (.plain (t:=22) rfl) rfl rfl rfl (.one .any) ?_
      refine bb.eQ (.plain (t:=22) rfl) rfl rfl rfl (.one (.bool true)) ?_
      refine bb.cons (.inl rfl) rfl (aL (fun e=>Bool.noConfusion e) rfl rfl rfl) ?_
      refine bb.cons (.inl rfl) rfl (aR rfl) ?_
      refine bb.eQ (.plain (t:=30) rfl) rfl rfl rfl (.one .any) ?_
      refine bb.eQ (.plain (t:=30) rfl) rfl rfl rfl (.one .any) ?_
      refine bb.eQ (.plain (t:=30) rfl) rfl rfl rfl (.one .any) ?_
      refine bb.eQ (.plain (t:=30) rfl) rfl rfl rfl (.one .any) ?_
      refine bb.eQ (.plain (t:=30) rfl) rfl rfl rfl (.one .any) ?_
      refine bb.eQ (.plain (t:=30) rfl) rfl rfl rfl (.one .any) ?_
      refine bb.eQ (.plain (t:=30) rfl) rfl rfl rfl (.one (.bool true)) ?_
      refine bb.cons (.inl rfl) rfl (aL (fun e=>Bool.noConfusion e) rfl rfl rfl) ?_
      refine bb.cons (.inl rfl) rfl (bH rfl) ?_
      refine bb.nil ?_
      refine Fin.keep [6] [] (s':=⟨[(6,B false)],[]⟩) rfl ?_
      refine Fin.gZ ?_ hlo
      refine a6.ret ?_
      exact hend false w2 h2 ρ2 tb2 ⟨hk1.1,hk1.2⟩
    | true=>
    refine bb.iA (.inl rfl) (.plain (t:=22) rfl) rfl rfl rfl (aR rfl) ?_
    refine bb.iA (.inl rfl) (.plain (t:=22) rfl) rfl rfl rfl (aR rfl) ?_
    refine bb.iA (.inl rfl) (.plain (t:=22) rfl) rfl rfl rfl (aJ (z:=(a,l,r)) (qs:=af a ++ [CP.tr af l,CP.tr af r]) rfl rfl rfl) ?_
    refine bb.iA (.inl rfl) (.plain (t:=22) rfl) rfl rfl rfl (az (qs:=af a ++ [CP.tr af l,CP.tr af r]) eW rfl rfl) ?_
    refine bb.iA (.inl rfl) (.plain (t:=22) rfl) rfl rfl rfl (bm (qs:=ax a.x) bC rfl rfl rfl) ?_
    refine bb.stepT (.plain (t:=22) rfl) rfl rfl rfl (lu (d:=28) (Kv J Jx h (k + xs.length + 1)) (fun b h w hk=>hk.ok hJ hJx) rfl (by decide) ?_ ?_)
    · intro a1 w1 h1' ρ1 hw1 hs1 K' hK'
      have hj1:=hk1.go hJ hJx hw1
      have hx23:a1.eval (.tmp 23) = .func (.yield L) #[] #[]:=(aQ hs1 (o:=.tmp 23) rfl:(CP.raw _).rel h1' _).1
      have hx27:=(aQ hs1 (o:=.tmp 27) (x:=.b (.agg (ax a.x))) rfl:BV.rel h1' ρ1 (.agg (ax a.x)) _)
      refine s7 (vals:=[a1.eval (.tmp 27)].toArray) rfl ((ud hx23).trans (by simp)) (hround (k + xs.length) a.x h1' w1 _ (hall xs.length a.x (by simp)) (by simpa using hj1.2) (.cons (fun _=>hx27) .nil)) ?_
      rintro e w3 (⟨rfl,h3,g1,g2⟩ | ⟨rfl,h3,g1,g2⟩)
      · exact ⟨_,rfl,hK' true h3 w3 g1 ⟨PH.le_trans hj1.1 g1,by simpa using g2⟩⟩
      · exact ⟨_,rfl,hK' false h3 w3 g1 ⟨PH.le_trans hj1.1 g1,by simpa using g2⟩⟩
    intro b2 h3 ρ3 w3 tb3 hk2
    refine bb.keep [0,1,2,22,28] [] (s':=⟨[(0,.b (.one (CP.tr af (.node a l r)))),(1,.b (.one c)),(2,.b (.one (.raw (.func (.yield L) #[] #[])))),(22,B true),(28,B b2)],[]⟩) rfl ?_
    refine bb.opt 28 rfl ?_
    refine bb.cons (.inl rfl) rfl (aL (fun _=>rfl) rfl rfl rfl) ?_
    refine bb.cons (.inl rfl) rfl (aR rfl) ?_
    cases b2 with
    | false=>
      refine bb.eQ (.plain (t:=30) rfl) rfl rfl rfl (.one .any) ?_
      refine bb.eQ (.plain (t:=30) rfl) rfl rfl rfl (.one .any) ?_
      refine bb.eQ (.plain (t:=30) rfl) rfl rfl rfl (.one .any) ?_
      refine bb.eQ (.plain (t:=30) rfl) rfl rfl rfl (.one .any) ?_
      refine bb.eQ (.plain (t:=30) rfl) rfl rfl rfl (.one .any) ?_
      refine bb.eQ (.plain (t:=30) rfl) rfl rfl rfl (.one .any) ?_
      refine bb.eQ (.plain (t:=30) rfl) rfl rfl rfl (.one (.bool true)) ?_
      refine bb.cons (.inl rfl) rfl (aL (fun e=>Bool.noConfusion e) rfl rfl rfl) ?_
      refine bb.cons (.inl rfl) rfl (bH rfl) ?_
      refine bb.nil ?_
      refine Fin.keep [6] [] (s':=⟨[(6,B false)],[]⟩) rfl ?_
      refine Fin.gZ ?_ hlo
      refine a6.ret ?_
      exact hend false w3 h3 ρ3 tb3 ⟨hk2.1,hk2.2⟩
    | true=>
    refine bb.iA (.inl rfl) (.plain (t:=30) rfl) rfl rfl rfl (aR rfl) ?_
    refine bb.iA (.inl rfl) (.plain (t:=30) rfl) rfl rfl rfl (aJ (z:=(a,l,r)) (qs:=af a ++ [CP.tr af l,CP.tr af r]) rfl rfl rfl) ?_
    refine bb.iA (.inl rfl) (.plain (t:=30) rfl) rfl rfl rfl (az (qs:=[CP.tr af r]) eo rfl rfl) ?_
    refine bb.iA (.inl rfl) (.plain (t:=30) rfl) rfl rfl rfl (ay (p:=CP.tr af r) bI rfl rfl) ?_
    refine bb.iA (.inl rfl) (.plain (t:=30) rfl) rfl rfl rfl (aR rfl) ?_
    refine bb.iA (.inl rfl) (.plain (t:=30) rfl) rfl rfl rfl (aR rfl) ?_
    refine bb.stepT (.plain (t:=30) rfl) rfl rfl rfl (lu (d:=37) (Kv J Jx h (k + xs.length + 1 + zs.length)) (fun b h w hk=>hk.ok hJ hJx) rfl (by decide) ?_ ?_)
    · intro a1 w1 h1' ρ1 hw1 hs1 K' hK'
      have hj1:=hk2.go hJ hJx hw1
      have e20:a1.eval (.tmp 36) = .func (.yield L) #[] #[]:=(aQ hs1 (o:=.tmp 36) rfl:(CP.raw _).rel h1' _).1
      refine lg (.inl rfl) rfl (fun a w h=>h) ?_
      unfold Oper.wp
      rw [jv qN a1 w1]
      show Calls Tryz.prog 78 [a1.eval (.tmp 34),a1.eval (.tmp 35),a1.eval (.tmp 36)].toArray w1 _
      rw [e20]
      refine (ihr zs (k + xs.length + 1) hzs (fun i x hi=>by rw [show k + xs.length + 1 + i = k + (xs.length + (i + 1)) by omega]; exact hall _ x (by simp [List.getElem?_append_right,hi])) h1' w1 _ _ hj1.2 (aQ hs1 (o:=.tmp 34) rfl) (aQ hs1 (o:=.tmp 35) rfl)).mono ?_
      rintro e w' ⟨b,h',rfl,hk⟩
      exact hK' b h' w' hk.1 ⟨PH.le_trans hj1.1 hk.1,hk.2⟩
    intro b3 h4 ρ4 w4 tb4 hk3
    refine bb.keep [30,37] [] (s':=⟨[(30,B true),(37,B b3)],[]⟩) rfl ?_
    refine bb.opt 37 rfl ?_
    refine bb.cons (.inl rfl) rfl (aL (fun _=>rfl) rfl rfl rfl) ?_
    refine bb.cons (.inl rfl) rfl (bH rfl) ?_
    refine bb.nil ?_
    refine Fin.keep [6] [] (s':=⟨[(6,B b3)],[]⟩) rfl ?_
    refine Fin.gZ ?_ hlo
    refine a6.ret ?_
    exact hend b3 w4 h4 ρ4 tb4 (by rw [hlen]; exact hk3)
end
theorem pc {c:CP} {p:dh bu → Option Bool} (hp:tB c p) {t:dh bu} {xs:List entry} (h:oD p t = some xs):Iter Tryz.prog [] 77 [CP.rp [CP.tr af t],CP.rp [c]] (xs.map uc):=by
  intro J Jx L hJ hJx hround h0 W caps hJ0 hcaps
  cases hcaps with
  | @cons _ c1 _ _ g1 hc=>
  cases hc with
  | @cons _ c2 _ _ g2 hc2=>
  cases hc2
  refine callsIn_wide.1 (callsIn_of_wp (n:=0) (F:=Fence.wide) Tryz.func77 rfl trivial ?_)
  obtain ⟨hs0,hn0⟩:=me (m:=8) (h:=h0) (ρ:=fun _=>.bool false) (args:=[.one (.raw (.func (.yield L) #[] #[])),.aO [CP.tr af t],.aO [c]]) (vals:=[.func (.yield L) #[] #[],c1,c2])
    (.cons ⟨rfl,rfl⟩ (.cons g1 (.cons g2 .nil))) (Nat.le_of_ble_eq_true rfl)
  obtain ⟨hag0,htb0⟩:=(hJ 0).1 h0 W hJ0
  have hk0:Kv J Jx h0 0 true h0 W:=⟨PH.le_refl h0,by simpa using hJ0⟩
  generalize hQo:bodyPost Tryz.prog _ _ = Qo
  have hlo:¬ LetsOut Qo:=by
    rw [← hQo]
    rintro ⟨a,w,⟨v,he⟩,_⟩
    cases he
  refine (show a6 Tryz.prog (⟨W,h0,fun _=>.bool false,htb0⟩:Env []) ⟨8,[],[],[]⟩ Fence.wide _ ⟨_,[]⟩ Qo from ?_) hlo _ _ (R.fresh htb0 hag0 rfl hn0 hs0)
  clear hs0 hn0
  refine a6.ou (.inl rfl) ?_
  refine bb.cons (.inl rfl) rfl (ay (p:=CP.tr af t) bI rfl rfl) ?_
  refine bb.cons (.inl rfl) rfl (ay (p:=c) vI rfl rfl) ?_
  refine bb.cons (.inl rfl) rfl (aR rfl) ?_
  refine bb.stepU rfl (lu (d:=7) (Kv J Jx h0 xs.length) (fun b h w hk=>hk.ok hJ hJx) rfl (by decide) ?_ ?_)
  · intro a1 w1 h1' ρ1 hw1 hs1 K' hK'
    have hj1:=hk0.go hJ hJx hw1
    have e20:a1.eval (.tmp 6) = .func (.yield L) #[] #[]:=(aQ hs1 (o:=.tmp 6) rfl:(CP.raw _).rel h1' _).1
    refine lg (.inl rfl) rfl (fun a w h=>h) ?_
    unfold Oper.wp
    rw [jv qN a1 w1]
    show Calls Tryz.prog 78 [a1.eval (.tmp 4),a1.eval (.tmp 5),a1.eval (.tmp 6)].toArray w1 _
    rw [e20]
    refine (rW hJ hJx hp (all:=xs) (fun k x h W vals hx=>hround k (uc x) h W vals (by rw [List.getElem?_map,hx]; rfl)) t xs 0 h (fun i x hi=>by rw [Nat.zero_add]; exact hi) h1' w1 _ _ hj1.2 (aQ hs1 (o:=.tmp 4) rfl) (aQ hs1 (o:=.tmp 5) rfl)).mono ?_
    rintro e w' ⟨b,h',rfl,hk⟩
    rw [Nat.zero_add] at hk
    exact hK' b h' w' hk.1 ⟨PH.le_trans hj1.1 hk.1,hk.2⟩
  intro b h2 ρ2 w2 tb2 hk1
  refine bb.nil ?_
  rintro a w ⟨hd,hn,h',ρ',hw,hs⟩
  have hk2:=hk1.go hJ hJx hw
  rw [← hQo]
  refine ⟨hd,.tuple #[],?_,⟨_,rfl⟩,?_⟩
  · rw [jV,show (Tryz.f77:Func).results = #[] from rfl]
    simp
  · cases b with
    | true=>exact .inl ⟨h',by rw [List.length_map]; exact hk2.2⟩
    | false=>exact .inr ⟨h',hk2.2⟩
def iq (F:Nat) (a0:b8) (b0:b8):Option b8 :=
 Option.bind (iter F (dg fun a_2 x_3=>if (decide (x_3 < 3)) = true then ((a8 a_2.Lo.l x_3).bind fun x_5=>(a8 b0.Lo.l x_3).bind fun x_6=>(a8 a_2.Hi.l x_3).bind fun x_7=>(a8 b0.Hi.l x_3).bind fun x_8=>(a8 a_2.Lo.l x_3).bind fun x_9=>(a8 a_2.Hi.l x_3).bind fun x_10=>some (.inl ((⟨a_2.Lo.set x_3 (min x_5 x_6),a_2.Hi.set x_3 (max x_7 x_8)⟩:b8),IntKind.i64.wrap (x_3 + 1)))) else (some (.inr a_2))) (a0,0)) (fun a_1=>some a_1)
theorem kq {F:Nat} {a0:b8} {b0:b8} {r:b8} (h:iq F a0 b0 = some r):ar Tryz.prog [] 18 [] [.agg (ao a0),.agg (ao b0)] (Is [] (.b (.agg (ao r)))):=by
 unfold iq at h
 refine ar.intro 35 Tryz.func18 Tryz.ntmps18 rfl (by simp) fun E=>?_
 show ab _ E ⟨35,[],[],[]⟩ _ ⟨[(0,.b (.agg (ao a0))),(1,.b (.agg (ao b0)))],[]⟩ _
 refine ab.seq (ab.aa ?_)
 refine Oc (bo (k:=101) rfl rfl) (Oc (bo (k:=102) rfl rfl) (Oc (aT (k:=103) eC rfl) ?_))
 refine ae.ai ⟨[(2,Pt 101 0),(3,Pt 102 0),(4,Pt 103 0)],[(101,.box 25 (ao a0)),(102,.box 25 (ao b0)),(103,.box 25 ((cW .i64) A3.zero ++ ((cW .i64) A3.zero)))]⟩ rfl ?_
 obtain ⟨v1,h2,h⟩:=aN h
 refine ab.c6 (v:=v1) (fun (a_1:b8)=>⟨[(2,Pt 101 0),(4,Pt 103 0)],[(101,.box 25 (ao a_1)),(103,.box 25 ((cW .i64) A3.zero ++ ((cW .i64) A3.zero)))]⟩) (fun z=>z) ?_ ?_
 ·refine ab.seq (ab.aa ?_)
  refine Oc om (ae.ai ⟨[(2,_),(3,_),(4,_),(6,I 0)],[(101,_),(102,_),(103,_)]⟩ rfl (ab.block (ab.c5 h2 (dg fun (a_2:b8) (x_3:Int)=>⟨[(2,Pt 101 0),(3,Pt 102 0),(4,Pt 103 0),(6,I x_3)],[(101,.box 25 (ao a_2)),(102,.box 25 (ao b0)),(103,.box 25 ((cW .i64) A3.zero ++ ((cW .i64) A3.zero)))]⟩) [2,3,4,6] [101,102,103] rfl ?_)))
  rintro ⟨a_2,x_3⟩ o3 h4 hy5
  refine ab.seq (ab.aa ?_)
  refine Oc (bf rfl rfl) (ae.ai ⟨[(2,_),(3,_),(4,_),(6,_),(7,B (decide (x_3 < 3)))],[(101,_),(102,_),(103,_)]⟩ rfl (ab.seq (ab.ite h4 rfl (fun _ h4=>?_) (fun _ h4=>?_))))
  ·refine ab.skip (Fin.ag ⟨[(2,_),(3,_),(4,_),(6,_)],[(101,_),(102,_),(103,_)]⟩ rfl (Fin.then (ab.seq (ab.block (ab.seq (ab.aa ?_))))))
   refine Oc om (Oc oa ?_)
   refine ae.ai ⟨[(2,_),(3,_),(4,_),(5,I x_3),(6,_)],[(101,_),(102,_),(103,_)]⟩ rfl ?_
   obtain ⟨x_5,e6,h4⟩:=aN h4
   obtain ⟨x_6,e7,h4⟩:=aN h4
   obtain ⟨x_7,e8,h4⟩:=aN h4
   obtain ⟨x_8,e9,h4⟩:=aN h4
   obtain ⟨x_9,e10,h4⟩:=aN h4
   obtain ⟨x_10,e11,h4⟩:=aN h4
   refine ab.oX mixed [false,false,false,false,false,false,false,false,false,false,false,false,false,false,false,false,false,false,false,false,false,false,true,false,false,true] [I x_3,I x_3,I x_3,Pt 101 0,.b (.ptr 101 (0 + (x_3:Int).toNat * 1)),I x_5,I x_3,Pt 102 0,.b (.ptr 102 (0 + (x_3:Int).toNat * 1)),I x_6,I (min x_5 x_6),I x_3,Pt 101 3,.b (.ptr 101 (3 + (x_3:Int).toNat * 1)),I x_7,I x_3,Pt 102 3,.b (.ptr 102 (3 + (x_3:Int).toNat * 1)),I x_8,I (max x_7 x_8),Pt 101 0,.b (.ptr 101 (0 + (x_3:Int).toNat * 1)),B true,Pt 101 3,.b (.ptr 101 (3 + (x_3:Int).toNat * 1)),B true] [⟨[false,false,false,false,false,false,false,false,false,false,false,false,false,false,false,false,false,false,false,false,false,false,false,false,false,false],[(2,Pt 101 0),(3,Pt 102 0),(4,Pt 103 0),(5,I x_3),(6,I x_3)],[(101,.box 25 (ao a_2)),(102,.box 25 (ao b0)),(103,.box 25 ((cW .i64) A3.zero ++ ((cW .i64) A3.zero)))],[true,true,true,true,true,true,true,true,true,true,true,true,true,true,true,true,true,true,true,true,true,true,true,true,true,true],[],[24,25]⟩,⟨[false,false,false,false,false,false,false,false,false,false,false,false,false,false,false,false,false,false,false,false,false,false,true,false,false,false],[(2,Pt 101 0),(3,Pt 102 0),(4,Pt 103 0),(5,I x_3),(6,I x_3)],[(101,.box 25 ((cW .i64) (a_2.Lo.set x_3 (min x_5 x_6)) ++ ((cW .i64) a_2.Hi))),(102,.box 25 (ao b0)),(103,.box 25 ((cW .i64) A3.zero ++ ((cW .i64) A3.zero)))],[true,true,true,true,true,true,true,true,true,true,true,true,true,true,true,true,true,true,true,true,true,true,true,true,true,true],[0,2,3,4,5,6,7,8,9,10,11,12,13,14,20,21,22],[]⟩,⟨[false,false,false,false,false,false,false,false,false,false,false,false,false,false,false,false,false,false,false,false,false,false,true,false,false,true],[(2,Pt 101 0),(3,Pt 102 0),(4,Pt 103 0),(5,I x_3),(6,I x_3)],[(101,.box 25 ((cW .i64) (a_2.Lo.set x_3 (min x_5 x_6)) ++ ((cW .i64) (a_2.Hi.set x_3 (max x_7 x_8))))),(102,.box 25 (ao b0)),(103,.box 25 ((cW .i64) A3.zero ++ ((cW .i64) A3.zero)))],[true,true,true,true,true,true,true,true,true,true,true,true,true,true,true,true,true,true,true,true,true,true,true,true,true,true],[0,1,2,3,4,5,6,7,8,9,10,11,12,13,14,15,16,17,18,19,20,21,22,23,24,25],[]⟩] rfl (⟨by kernel_rfl,⟨⟨I x_3,fun _=>rfl,fun _=>.p (by exact aR rfl)⟩,⟨I x_3,fun _=>rfl,fun _=>.p (by exact aR rfl)⟩,⟨I x_3,fun _=>rfl,fun _=>.p (by exact aR rfl)⟩,⟨Pt 101 0,fun _=>rfl,fun _=>.p (by exact an cO rfl rfl)⟩,⟨.b (.ptr 101 (0 + (x_3:Int).toNat * 1)),fun _=>rfl,fun _=>.p (by exact a7 bJ (aX e6) (dn e6) rfl rfl rfl)⟩,⟨I x_5,fun _=>rfl,fun _=>.p (by exact aF aK rfl rfl (cI (post:=((cW .i64) a_2.Hi)) (k:=.i64) [] e6 rfl rfl rfl))⟩,⟨I x_3,fun _=>rfl,fun _=>.p (by exact aR rfl)⟩,⟨Pt 102 0,fun _=>rfl,fun _=>.p (by exact an cO rfl rfl)⟩,⟨.b (.ptr 102 (0 + (x_3:Int).toNat * 1)),fun _=>rfl,fun _=>.p (by exact a7 bJ (aX e7) (dn e7) rfl rfl rfl)⟩,⟨I x_6,fun _=>rfl,fun _=>.p (by exact aF aK rfl rfl (cI (post:=((cW .i64) b0.Hi)) (k:=.i64) [] e7 rfl rfl rfl))⟩,⟨I (min x_5 x_6),fun _=>rfl,fun _=>.p (by exact uX rfl rfl)⟩,⟨I x_3,fun _=>rfl,fun _=>.p (by exact aR rfl)⟩,⟨Pt 101 3,fun _=>rfl,fun _=>.p (by exact an cN rfl rfl)⟩,⟨.b (.ptr 101 (3 + (x_3:Int).toNat * 1)),fun _=>rfl,fun _=>.p (by exact a7 bJ (aX e8) (dn e8) rfl rfl rfl)⟩,⟨I x_7,fun _=>rfl,fun _=>.p (by exact aF aK rfl rfl (cI (post:=[]) (k:=.i64) ((cW .i64) a_2.Lo) e8 rfl rfl rfl))⟩,⟨I x_3,fun _=>rfl,fun _=>.p (by exact aR rfl)⟩,⟨Pt 102 3,fun _=>rfl,fun _=>.p (by exact an cN rfl rfl)⟩,⟨.b (.ptr 102 (3 + (x_3:Int).toNat * 1)),fun _=>rfl,fun _=>.p (by exact a7 bJ (aX e9) (dn e9) rfl rfl rfl)⟩,⟨I x_8,fun _=>rfl,fun _=>.p (by exact aF aK rfl rfl (cI (post:=[]) (k:=.i64) ((cW .i64) b0.Lo) e9 rfl rfl rfl))⟩,⟨I (max x_7 x_8),fun _=>rfl,fun _=>.p (by exact sA rfl rfl)⟩,⟨Pt 101 0,fun _=>rfl,fun _=>.p (by exact an cO rfl rfl)⟩,⟨.b (.ptr 101 (0 + (x_3:Int).toNat * 1)),fun _=>rfl,fun _=>.p (by exact a7 bJ (aX e10) (dn e10) rfl rfl rfl)⟩,⟨_,[],.b (.one .any),rfl,(fun e=>by simp at e),rfl,rfl,fun _=>.sf [101,102,103] (by exact .p (by exact eX aK rfl rfl rfl (qB (post:=((cW .i64) a_2.Hi)) (k:=.i64) [] e10 rfl rfl rfl) (oA (post:=((cW .i64) a_2.Hi)) (k:=.i64) [] e10 rfl rfl (A3.q8 a_2.Lo x_3 (min x_5 x_6)) rfl rfl))) (by exact rfl)⟩,⟨Pt 101 3,fun _=>rfl,fun _=>.p (by exact an cN rfl rfl)⟩,trivial,trivial,trivial⟩,⟨by kernel_rfl,⟨trivial,⟨I x_3,fun _=>rfl,fun _=>.p (by exact aR rfl)⟩,trivial,trivial,trivial,trivial,trivial,trivial,trivial,trivial,trivial,trivial,trivial,trivial,trivial,⟨I x_3,fun _=>rfl,fun _=>.p (by exact aR rfl)⟩,⟨Pt 102 3,fun _=>rfl,fun _=>.p (by exact an cN rfl rfl)⟩,⟨.b (.ptr 102 (3 + (x_3:Int).toNat * 1)),fun _=>rfl,fun _=>.p (by exact a7 bJ (aX e9) (dn e9) rfl rfl rfl)⟩,⟨I x_8,fun _=>rfl,fun _=>.p (by exact aF aK rfl rfl (cI (post:=[]) (k:=.i64) ((cW .i64) b0.Lo) e9 rfl rfl rfl))⟩,⟨I (max x_7 x_8),fun _=>rfl,fun _=>.p (by exact sA rfl rfl)⟩,trivial,trivial,trivial,⟨Pt 101 3,fun _=>rfl,fun _=>.p (by exact an cN rfl rfl)⟩,⟨.b (.ptr 101 (3 + (x_3:Int).toNat * 1)),fun _=>rfl,fun _=>.p (by exact a7 bJ (aX e11) (dn e11) rfl rfl rfl)⟩,⟨_,[],.b (.one .any),rfl,(fun e=>by simp at e),rfl,rfl,fun _=>.sf [101,102,103] (by exact .p (by exact eX aK rfl rfl rfl (qB (post:=[]) (k:=.i64) ((cW .i64) (a_2.Lo.set x_3 (min x_5 x_6))) e11 rfl rfl rfl) (oA (post:=[]) (k:=.i64) ((cW .i64) (a_2.Lo.set x_3 (min x_5 x_6))) e11 rfl rfl (A3.q8 a_2.Hi x_3 (max x_7 x_8)) rfl rfl))) (by exact rfl)⟩,trivial⟩,⟨by kernel_rfl,⟨trivial,trivial,trivial,trivial,trivial,trivial,trivial,trivial,trivial,trivial,trivial,trivial,trivial,trivial,trivial,trivial,trivial,trivial,trivial,trivial,trivial,trivial,trivial,trivial,trivial,trivial,trivial⟩,trivial⟩⟩⟩) rfl rfl rfl [2,3,4,6] [101,102,103] (s':=⟨[(2,_),(3,_),(4,_),(6,_)],[(101,.box 25 ((cW .i64) (a_2.Lo.set x_3 (min x_5 x_6)) ++ ((cW .i64) (a_2.Hi.set x_3 (max x_7 x_8))))),(102,_),(103,_)]⟩) rfl ?_
   refine Fin.av (Fin.ag ⟨[(2,_),(3,_),(4,_),(6,_)],[(101,_),(102,_),(103,_)]⟩ rfl (Fin.then (ab.aa ?_)))
   refine Oc (bA rfl rfl) (Oc om ?_)
   refine ae.nil ?_
   exact Fin.bZ [2,3,4,6] [101,102,103] ((⟨a_2.Lo.set x_3 (min x_5 x_6),a_2.Hi.set x_3 (max x_7 x_8)⟩:b8),IntKind.i64.wrap (x_3 + 1)) (Option.some.inj h4) rfl
  ·refine ab.exit (Fin.aC ?_)
   obtain rfl:=hy5 _ (Option.some.inj h4).symm
   refine Fin.aC (Fin.aS ?_)
   exact Fin.join [2,4] [101,103] a_2 rfl rfl
 ·rintro a_1 hv
  subst v1
  refine ab.seq (ab.aa ?_)
  refine Oc (lp aB) (Oc (aA aB rfl rfl rfl rfl (Nat.le_of_ble_eq_true rfl) rfl) ?_)
  refine ae.ai ⟨[(4,_)],[(103,.box 25 (ao a_1))]⟩ rfl (ab.ret ?_)
  obtain rfl:=Option.some.inj h
  refine Fin.ag ⟨[(4,_)],[(103,_)]⟩ rfl (Fin.aw [.agg (ao a_1)] (.inl rfl) rfl (.cons (.agg aB rfl rfl rfl rfl) .nil) ⟨rfl,rfl⟩)
def fK (F:Nat) (s0:List b8) (f0:Nat):Option Int :=
 Option.bind (iter F (fun x_1=>if (decide (x_1 < (s0.length:Int))) = true then ((a8 s0 x_1).bind fun x_2=>(kW F f0 x_2).bind fun x_3=>if x_3 = true then (some (.inr (.inr x_1))) else (some (.inl (IntKind.i64.wrap (x_1 + 1))))) else (some (.inr (.inl ())))) 0) (cy (fun _=>some (-1)) (fun y=>some y))
theorem kB {F:Nat} {s0:List b8} {f0:Nat} {r:Int} (h:fK F s0 f0 = some r):ar Tryz.prog [] 67 [] [.one (.sl 6 (s0.map ao)),.one (.raw (.func (.func f0) #[] #[]))] (Is [] (.b (.one (.i r)))):=by
 unfold fK at h
 refine ar.intro 19 Tryz.func67 Tryz.ntmps67 rfl (by simp) fun E=>?_
 show ab _ E ⟨19,[],[],[]⟩ _ ⟨[(0,.b (.one (.sl 6 (s0.map ao)))),(1,.b (.one (.raw (.func (.func f0) #[] #[]))))],[]⟩ _
 refine ab.seq (ab.aa ?_)
 refine Oc oa (ae.ai ⟨[(0,.b (.one (.sl 6 (s0.map ao)))),(1,.b (.one (.raw (.func (.func f0) #[] #[]))))],[]⟩ rfl ?_)
 obtain ⟨v1,h2,h⟩:=aN h
 refine ab.c6 (v:=v1) (fun (_:Unit)=>⟨[],[]⟩) (fun z=>.inl z) ?_ ?_
 ·refine ab.seq (ab.aa ?_)
  refine Oc om (Oc (ba und34 rfl (List.length_map _)) (Oc om ?_))
  refine ae.ai ⟨[(0,_),(1,_),(7,I (s0.length:Int)),(8,I 0)],[]⟩ rfl (ab.block (ab.c5 h2 (fun (x_1:Int)=>⟨[(0,.b (.one (.sl 6 (s0.map ao)))),(1,.b (.one (.raw (.func (.func f0) #[] #[])))),(7,I (s0.length:Int)),(8,I x_1)],[]⟩) [0,1,7,8] [] rfl ?_))
  rintro x_1 o3 h4 hy5
  refine ab.seq (ab.aa ?_)
  refine Oc (bf rfl rfl) (ae.ai ⟨[(0,_),(1,_),(7,_),(8,_),(9,B (decide (x_1 < (s0.length:Int))))],[]⟩ rfl (ab.seq (ab.ite h4 rfl (fun _ h4=>?_) (fun _ h4=>?_))))
  ·refine ab.skip (Fin.ag ⟨[(0,_),(1,_),(7,_),(8,_)],[]⟩ rfl (Fin.then (ab.seq (ab.block (ab.seq (ab.aa ?_))))))
   refine Oc om (Oc oa ?_)
   refine ae.ai ⟨[(0,_),(1,_),(5,I x_1),(7,_),(8,_)],[]⟩ rfl (ab.seq (ab.aa ?_))
   refine Oc om (Oc om (Oc om ?_))
   obtain ⟨x_2,e6,h4⟩:=aN h4
   refine Oc (aM lV (aX e6) (bn (e:=ao) e6) rfl rfl) (Oc (bm aB rfl rfl rfl) ?_)
   obtain ⟨x_3,e7,h4⟩:=aN h4
   refine Oc (jz (sb e7) (sc e7) rfl rfl rfl) (ae.ai ⟨[(0,_),(1,_),(5,_),(7,_),(8,_),(16,B x_3)],[]⟩ rfl (ab.ite h4 rfl (fun _ h4=>?_) (fun _ h4=>?_)))
   ·refine ab.seq (ab.aa ?_)
    refine Oc om (Oc oa ?_)
    refine ae.ai ⟨[(4,I x_1)],[]⟩ rfl (ab.ret (Fin.aP (Fin.au ?_)))
    obtain rfl:=hy5 _ (Option.some.inj h4).symm
    refine Fin.au (Fin.aP (Fin.au ?_))
    obtain rfl:=Option.some.inj h
    refine Fin.ag ⟨[(4,_)],[]⟩ rfl (Fin.aw [.one (.i x_1)] (.inl rfl) rfl (.cons (.tmp rfl) .nil) ⟨rfl,rfl⟩)
   ·refine ab.skip (Fin.av (Fin.ag ⟨[(0,_),(1,_),(7,_),(8,_)],[]⟩ rfl (Fin.then (ab.aa ?_))))
    refine Oc (bA rfl rfl) (Oc om ?_)
    refine ae.nil ?_
    exact Fin.bZ [0,1,7,8] [] (IntKind.i64.wrap (x_1 + 1)) (Option.some.inj h4) rfl
  ·refine ab.exit (Fin.aC ?_)
   obtain rfl:=hy5 _ (Option.some.inj h4).symm
   refine Fin.aC (Fin.aS ?_)
   exact Fin.join [] [] () rfl rfl
 ·rintro _ hv
  subst v1
  refine ab.seq (ab.aa ?_)
  refine Oc oa (ae.ai ⟨[(4,I (-1))],[]⟩ rfl (ab.ret ?_))
  obtain rfl:=Option.some.inj h
  refine Fin.ag ⟨[(4,_)],[]⟩ rfl (Fin.aw [.one (.i (-1))] (.inl rfl) rfl (.cons (.tmp rfl) .nil) ⟨rfl,rfl⟩)
def eK (F:Nat) (s0:List b8) (f0:Nat):Option Bool :=
 (fK F s0 f0).bind fun x_1=>some (decide (0 ≤ x_1))
theorem jm {F:Nat} {s0:List b8} {f0:Nat} {r:Bool} (h:eK F s0 f0 = some r):ar Tryz.prog [] 40 [] [.one (.sl 6 (s0.map ao)),.one (.raw (.func (.func f0) #[] #[]))] (Is [] (.b (.one (.bool r)))):=by
 unfold eK at h
 refine ar.intro 9 Tryz.func40 Tryz.ntmps40 rfl (by simp) fun E=>?_
 show ab _ E ⟨9,[],[],[]⟩ _ ⟨[(0,.b (.one (.sl 6 (s0.map ao)))),(1,.b (.one (.raw (.func (.func f0) #[] #[]))))],[]⟩ _
 refine ab.seq (ab.aa ?_)
 refine Oc oa (ae.ai ⟨[(0,.b (.one (.sl 6 (s0.map ao)))),(1,.b (.one (.raw (.func (.func f0) #[] #[]))))],[]⟩ rfl (ab.seq (ab.aa ?_)))
 refine Oc om (Oc om ?_)
 obtain ⟨x_1,e1,h⟩:=aN h
 refine Oc (ak (kB e1) goes67 rfl rfl) (Oc (lY rfl rfl) (Oc oa ?_))
 refine ae.ai ⟨[(4,B (decide (0 ≤ x_1)))],[]⟩ rfl (ab.ret ?_)
 obtain rfl:=Option.some.inj h
 refine Fin.ag ⟨[(4,_)],[]⟩ rfl (Fin.aw [.one (.bool (decide (0 ≤ x_1)))] (.inl rfl) rfl (.cons (.tmp rfl) .nil) ⟨rfl,rfl⟩)
def fD (F:Nat) (k0:Int) (v0c:List b8) (v1c:Int):Option Bool :=
 (a8 v0c k0).bind fun x_1=>(a8 v0c v1c).bind fun x_2=>some (decide (x_1.Hi.a0 < x_2.Lo.a0))
theorem iP {F:Nat} {k0:Int} {v0c:List b8} {v1c:Int} {r:Bool} (h:fD F k0 v0c v1c = some r):ar Tryz.prog [] 46 [] [.one (.i k0),.aO [.sl 6 (v0c.map ao)],.aO [.i v1c]] (Is [] (.b (.one (.bool r)))):=by
 unfold fD at h
 refine ar.intro 18 Tryz.func46 Tryz.ntmps46 rfl (by simp) fun E=>?_
 show ab _ E ⟨18,[],[],[]⟩ _ ⟨[(0,I k0),(1,.b (.aO [.sl 6 (v0c.map ao)])),(2,.b (.aO [.i v1c]))],[]⟩ _
 refine ab.seq (ab.aa ?_)
 refine Oc oa (ae.ai ⟨[(0,I k0),(1,.b (.aO [.sl 6 (v0c.map ao)])),(2,.b (.aO [.i v1c]))],[]⟩ rfl (ab.seq ?_))
 obtain ⟨x_1,e1,h⟩:=aN h
 obtain ⟨x_2,e2,h⟩:=aN h
 refine ab.bD mixed 14 [.b (.one (.sl 6 (v0c.map ao))),I k0,.b (.aO (ao x_1)),.b (.aO ((cW .i64) x_1.Hi)),.b (.aO [.i x_1.Hi.a0]),I x_1.Hi.a0,.b (.one (.sl 6 (v0c.map ao))),I v1c,.b (.aO (ao x_2)),.b (.aO (ao x_2)),.b (.aO [.i x_2.Lo.a0]),I x_2.Lo.a0,B (decide (x_1.Hi.a0 < x_2.Lo.a0)),B (decide (x_1.Hi.a0 < x_2.Lo.a0))] [4] [] (s':=⟨[(4,B (decide (x_1.Hi.a0 < x_2.Lo.a0)))],[]⟩) rfl ⟨fun _=>.p (ay lf rfl rfl),fun _=>.p om,fun _=>.p (aM lV (aX e1) (bn (e:=ao) e1) rfl rfl),fun _=>by exact .p (az cN rfl rfl),fun _=>.p (n1 bJ (by decide) (by decide) rfl rfl rfl),fun _=>.p (ay aK rfl rfl),fun _=>.p (ay lf rfl rfl),fun _=>.p (ay aK rfl rfl),fun _=>.p (aM lV (aX e2) (bn (e:=ao) e2) rfl rfl),fun _=>by exact .p (az cO rfl rfl),fun _=>.p (n1 bJ (by decide) (by decide) rfl rfl rfl),fun _=>.p (ay aK rfl rfl),fun _=>.p (bf rfl rfl),fun _=>.p oa,trivial⟩ rfl rfl (ab.ret ?_)
 obtain rfl:=Option.some.inj h
 refine Fin.ag ⟨[(4,_)],[]⟩ rfl (Fin.aw [.one (.bool (decide (x_1.Hi.a0 < x_2.Lo.a0)))] (.inl rfl) rfl (.cons (.tmp rfl) .nil) ⟨rfl,rfl⟩)
def fa (F:Nat) (s0:List Int) (f0:(List b8) × Int):Option Int :=
 Option.bind (iter F (fun x_1=>if (decide (x_1 < (s0.length:Int))) = true then ((a8 s0 x_1).bind fun x_2=>(fD F x_2 f0.1 f0.2).bind fun x_3=>if x_3 = true then (some (.inr (.inr x_1))) else (some (.inl (IntKind.i64.wrap (x_1 + 1))))) else (some (.inr (.inl ())))) 0) (cy (fun _=>some (-1)) (fun y=>some y))
theorem jF {F:Nat} {s0:List Int} {f0:(List b8) × Int} {r:Int} (h:fa F s0 f0 = some r):ar Tryz.prog [] 71 [] [.one (.sl 1 (s0.map eI)),.one (.fq 46 [CP.rp [.sl 6 (f0.1.map ao)],CP.rp [.i f0.2]])] (Is [] (.b (.one (.i r)))):=by
 unfold fa at h
 refine ar.intro 19 Tryz.func71 Tryz.ntmps71 rfl (by simp) fun E=>?_
 show ab _ E ⟨19,[],[],[]⟩ _ ⟨[(0,.b (.one (.sl 1 (s0.map eI)))),(1,.b (.one (.fq 46 [CP.rp [.sl 6 (f0.1.map ao)],CP.rp [.i f0.2]])))],[]⟩ _
 refine ab.seq (ab.aa ?_)
 refine Oc oa (ae.ai ⟨[(0,.b (.one (.sl 1 (s0.map eI)))),(1,.b (.one (.fq 46 [CP.rp [.sl 6 (f0.1.map ao)],CP.rp [.i f0.2]])))],[]⟩ rfl ?_)
 obtain ⟨v1,h2,h⟩:=aN h
 refine ab.c6 (v:=v1) (fun (_:Unit)=>⟨[],[]⟩) (fun z=>.inl z) ?_ ?_
 ·refine ab.seq (ab.aa ?_)
  refine Oc om (Oc (ba fO rfl (List.length_map _)) (Oc om ?_))
  refine ae.ai ⟨[(0,_),(1,_),(7,I (s0.length:Int)),(8,I 0)],[]⟩ rfl (ab.block (ab.c5 h2 (fun (x_1:Int)=>⟨[(0,.b (.one (.sl 1 (s0.map eI)))),(1,.b (.one (.fq 46 [CP.rp [.sl 6 (f0.1.map ao)],CP.rp [.i f0.2]]))),(7,I (s0.length:Int)),(8,I x_1)],[]⟩) [0,1,7,8] [] rfl ?_))
  rintro x_1 o3 h4 hy5
  refine ab.seq (ab.aa ?_)
  refine Oc (bf rfl rfl) (ae.ai ⟨[(0,_),(1,_),(7,_),(8,_),(9,B (decide (x_1 < (s0.length:Int))))],[]⟩ rfl (ab.seq (ab.ite h4 rfl (fun _ h4=>?_) (fun _ h4=>?_))))
  ·refine ab.skip (Fin.ag ⟨[(0,_),(1,_),(7,_),(8,_)],[]⟩ rfl (Fin.then (ab.seq (ab.block (ab.seq (ab.aa ?_))))))
   refine Oc om (Oc oa ?_)
   refine ae.ai ⟨[(0,_),(1,_),(5,I x_1),(7,_),(8,_)],[]⟩ rfl (ab.seq (ab.aa ?_))
   refine Oc om (Oc om (Oc om ?_))
   obtain ⟨x_2,e6,h4⟩:=aN h4
   refine Oc (aM bL (aX e6) (bn (e:=eI) e6) rfl rfl) (Oc (ay aK rfl rfl) ?_)
   obtain ⟨x_3,e7,h4⟩:=aN h4
   refine Oc (oY (pss:=[[.sl 6 (f0.1.map ao)],[.i f0.2]]) (iP e7) ve rfl rfl rfl trivial rfl rfl) (ae.ai ⟨[(0,_),(1,_),(5,_),(7,_),(8,_),(16,B x_3)],[]⟩ rfl (ab.ite h4 rfl (fun _ h4=>?_) (fun _ h4=>?_)))
   ·refine ab.seq (ab.aa ?_)
    refine Oc om (Oc oa ?_)
    refine ae.ai ⟨[(4,I x_1)],[]⟩ rfl (ab.ret (Fin.aP (Fin.au ?_)))
    obtain rfl:=hy5 _ (Option.some.inj h4).symm
    refine Fin.au (Fin.aP (Fin.au ?_))
    obtain rfl:=Option.some.inj h
    refine Fin.ag ⟨[(4,_)],[]⟩ rfl (Fin.aw [.one (.i x_1)] (.inl rfl) rfl (.cons (.tmp rfl) .nil) ⟨rfl,rfl⟩)
   ·refine ab.skip (Fin.av (Fin.ag ⟨[(0,_),(1,_),(7,_),(8,_)],[]⟩ rfl (Fin.then (ab.aa ?_))))
    refine Oc (bA rfl rfl) (Oc om ?_)
    refine ae.nil ?_
    exact Fin.bZ [0,1,7,8] [] (IntKind.i64.wrap (x_1 + 1)) (Option.some.inj h4) rfl
  ·refine ab.exit (Fin.aC ?_)
   obtain rfl:=hy5 _ (Option.some.inj h4).symm
   refine Fin.aC (Fin.aS ?_)
   exact Fin.join [] [] () rfl rfl
 ·rintro _ hv
  subst v1
  refine ab.seq (ab.aa ?_)
  refine Oc oa (ae.ai ⟨[(4,I (-1))],[]⟩ rfl (ab.ret ?_))
  obtain rfl:=Option.some.inj h
  refine Fin.ag ⟨[(4,_)],[]⟩ rfl (Fin.aw [.one (.i (-1))] (.inl rfl) rfl (.cons (.tmp rfl) .nil) ⟨rfl,rfl⟩)
def fu (F:Nat) (del0:(List b8) × Int) (s0:List Int):Option (List Int) :=
 (fa F s0 (del0.1,del0.2)).bind fun x_1=>if (decide (x_1 = (-1))) = true then (some s0) else (Option.bind (iter F (qZ fun s_4 i_5 j_6=>if (decide (j_6 < (s_4.length:Int))) = true then (Option.bind ((a8 s_4 j_6).bind fun x_11=>(fD F x_11 del0.1 del0.2).bind fun x_12=>if (!x_12) = true then ((a8 s_4 i_5).bind fun x_13=>some (s_4.set (i_5:Int).toNat x_11,IntKind.i64.wrap (i_5 + 1))) else (some (s_4,i_5))) (dg fun s_9 i_10=>some (.inl (s_9,i_10,IntKind.i64.wrap (j_6 + 1))))) else (some (.inr (s_4,i_5)))) (s0,x_1,IntKind.i64.wrap (x_1 + 1))) (dg fun s_2 i_3=>Option.bind (clr? (0:Int) s_2 i_3) (fun z_14=>(oG z_14 i_3).bind fun x_15=>some x_15)))
theorem j9 {F:Nat} {del0:(List b8) × Int} {s0:List Int} {r:(List Int)} (h:fu F del0 s0 = some r):ar Tryz.prog [] 45 [(1,.row 3 1 (s0.map eI))] [.row 1,.one (.fq 46 [CP.rp [.sl 6 (del0.1.map ao)],CP.rp [.i del0.2]])] (Is [(1,.row 3 1 (r.map eI))] (.b (.row 1))):=by
 unfold fu at h
 refine ar.intro 42 Tryz.func45 Tryz.ntmps45 rfl (by simp) fun E=>?_
 show ab _ E ⟨42,[],[1],[]⟩ _ ⟨[(0,.b (.row 1)),(1,.b (.one (.fq 46 [CP.rp [.sl 6 (del0.1.map ao)],CP.rp [.i del0.2]])))],[(1,.row 3 1 (s0.map eI))]⟩ _
 refine ab.seq (ab.aa ?_)
 refine Oc oa (ae.ai ⟨[(0,.b (.row 1)),(1,.b (.one (.fq 46 [CP.rp [.sl 6 (del0.1.map ao)],CP.rp [.i del0.2]])))],[(1,.row 3 1 (s0.map eI))]⟩ rfl (ab.seq (ab.aa ?_)))
 refine Oc om (Oc om ?_)
 obtain ⟨x_1,e1,h⟩:=aN h
 refine Oc (iG (jF e1) goes71 rfl CP.rK) (Oc oa ?_)
 refine ae.ai ⟨[(0,_),(1,_),(5,I x_1)],[(1,_)]⟩ rfl (ab.seq (ab.seq (ab.aa ?_)))
 refine Oc om (Oc (c3 rfl rfl) ?_)
 refine ae.ai ⟨[(0,_),(1,_),(5,_),(12,B (decide (x_1 = (-1))))],[(1,_)]⟩ rfl (ab.ite h rfl (fun _ h=>?_) (fun _ h=>?_))
 ·refine ab.seq (ab.aa ?_)
  refine Oc om (Oc oa ?_)
  refine ae.ai ⟨[(4,.b (.row 1))],[(1,_)]⟩ rfl (ab.ret (Fin.au ?_))
  obtain rfl:=Option.some.inj h
  refine Fin.ag ⟨[(4,_)],[(1,_)]⟩ rfl ?_
  exact Fin.result [.row 1] (.inl rfl) rfl (.cons (.tmp rfl) .nil) ⟨rfl,rfl⟩
 ·refine ab.skip (Fin.ag ⟨[(0,_),(1,_),(5,_)],[(1,_)]⟩ rfl (Fin.then ?_))
  obtain ⟨v2,h3,h⟩:=aN h
  refine ab.c6 (v:=v2) (dg fun (s_2:List Int) (i_3:Int)=>⟨[(0,.b (.row 1)),(5,I i_3)],[(1,.row 3 1 (s_2.map eI))]⟩) (fun z=>z) ?_ ?_
  ·refine ab.seq (ab.aa ?_)
   refine Oc om (Oc (bA rfl rfl) (Oc oa ?_))
   refine ae.ai ⟨[(0,_),(1,_),(5,_),(6,I (IntKind.i64.wrap (x_1 + 1)))],[(1,_)]⟩ rfl (ab.block (ab.c5 h3 (qZ fun (s_4:List Int) (i_5:Int) (j_6:Int)=>⟨[(0,.b (.row 1)),(1,.b (.one (.fq 46 [CP.rp [.sl 6 (del0.1.map ao)],CP.rp [.i del0.2]]))),(5,I i_5),(6,I j_6)],[(1,.row 3 1 (s_4.map eI))]⟩) [0,1,5,6] [1] rfl ?_))
   rintro ⟨s_4,i_5,j_6⟩ o4 h5 hy6
   refine ab.seq (ab.seq (ab.aa ?_))
   refine Oc om (Oc om (Oc (fi fO rfl rfl (List.length_map _)) (Oc (bf rfl rfl) ?_)))
   refine ae.ai ⟨[(0,_),(1,_),(5,_),(6,_),(19,B (decide (j_6 < (s_4.length:Int))))],[(1,_)]⟩ rfl (ab.ite h5 rfl (fun _ h5=>?_) (fun _ h5=>?_))
   ·refine ab.skip (Fin.ag ⟨[(0,_),(1,_),(5,_),(6,_)],[(1,_)]⟩ rfl (Fin.then ?_))
    obtain ⟨v7,h8,h5⟩:=aN h5
    refine ab.c6 (v:=v7) (dg fun (s_9:List Int) (i_10:Int)=>⟨[(0,.b (.row 1)),(1,.b (.one (.fq 46 [CP.rp [.sl 6 (del0.1.map ao)],CP.rp [.i del0.2]]))),(5,I i_10),(6,I j_6)],[(1,.row 3 1 (s_9.map eI))]⟩) (fun z=>z) ?_ ?_
    ·refine ab.block (ab.seq (ab.aa ?_))
     refine Oc om (Oc om ?_)
     obtain ⟨x_11,e9,h8⟩:=aN h8
     refine Oc (eu bL (aX e9) (jL e9) rfl rfl rfl rfl) (Oc (gy (i:=(j_6:Int).toNat) (f:=0) aK rfl rfl rfl (bn (e:=eI) e9) rfl) (Oc oa ?_))
     refine ae.ai ⟨[(0,_),(1,_),(5,_),(6,_),(7,I x_11)],[(1,_)]⟩ rfl (ab.seq (ab.aa ?_))
     refine Oc om (Oc om ?_)
     obtain ⟨x_12,e10,h8⟩:=aN h8
     refine Oc (oY (pss:=[[.sl 6 (del0.1.map ao)],[.i del0.2]]) (iP e10) ve rfl rfl rfl trivial rfl rfl) (Oc (cS rfl) ?_)
     refine ae.ai ⟨[(0,_),(1,_),(5,_),(6,_),(7,_),(29,B (!x_12))],[(1,_)]⟩ rfl (ab.ite h8 rfl (fun _ h8=>?_) (fun _ h8=>?_))
     ·refine ab.seq (ab.aa ?_)
      refine Oc om (Oc om (Oc om ?_))
      obtain ⟨x_13,e11,h8⟩:=aN h8
      refine Oc (eu bL (aX e11) (jL e11) rfl rfl rfl rfl) (Oc (kY (i:=(i_5:Int).toNat) aK rfl rfl rfl rfl (uO e11) (map_set _ _ _ _)) ?_)
      refine ae.ai ⟨[(0,_),(1,_),(5,_),(6,_)],[(1,.row 3 1 ((s_4.set (i_5:Int).toNat x_11).map eI))]⟩ rfl (ab.aa (Oc om (Oc (bA rfl rfl) (Oc oa ?_))))
      refine ae.nil (Fin.av ?_)
      exact Fin.join [0,1,5,6] [1] (s_4.set (i_5:Int).toNat x_11,IntKind.i64.wrap (i_5 + 1)) (Option.some.inj h8) rfl
     ·refine ab.skip (Fin.av ?_)
      exact Fin.join [0,1,5,6] [1] (s_4,i_5) (Option.some.inj h8) rfl
    ·rintro ⟨s_9,i_10⟩ hv
     subst v7
     refine ab.aa (Oc om (Oc (bA rfl rfl) (Oc oa ?_)))
     refine ae.nil ?_
     exact Fin.bZ [0,1,5,6] [1] (s_9,i_10,IntKind.i64.wrap (j_6 + 1)) (Option.some.inj h5) rfl
   ·refine ab.exit (Fin.aC ?_)
    obtain rfl:=hy6 _ (Option.some.inj h5).symm
    refine Fin.aC (Fin.aS ?_)
    exact Fin.join [0,5] [1] (s_4,i_5) rfl rfl
  ·rintro ⟨s_2,i_3⟩ hv
   subst v2
   refine ab.seq (ab.aa ?_)
   refine Oc om (Oc om ?_)
   obtain ⟨z_14,e12,h⟩:=aN h
   refine ae.clr (enc:=eI) bL rfl e12 rfl rfl rfl (by decide) rfl (ae.ai ⟨[(0,_),(5,_)],[(1,.row 3 1 (z_14.map eI))]⟩ rfl (ab.seq (ab.aa ?_)))
   refine Oc om (Oc om ?_)
   obtain ⟨x_15,e13,h⟩:=aN h
   refine Oc (lL bL e13 rfl rfl rfl rfl) (Oc oa ?_)
   refine ae.ai ⟨[(4,.b (.row 1))],[(1,.row 3 1 (x_15.map eI))]⟩ rfl (ab.ret ?_)
   obtain rfl:=Option.some.inj h
   refine Fin.ag ⟨[(4,_)],[(1,_)]⟩ rfl ?_
   exact Fin.result [.row 1] (.inl rfl) rfl (.cons (.tmp rfl) .nil) ⟨rfl,rfl⟩
def eT (F:Nat) (l0:List A2):Option (List A2) :=
 (dz F l0).bind fun x_1=>some x_1
theorem la {F:Nat} {l0:List A2} {r:(List A2)} (h:eT F l0 = some r):ar Tryz.prog [] 47 [(1,.ed 40 2 (l0.map (ec .i64)))] [.row 1] (Is [(1,.ed 40 2 (r.map (ec .i64)))] (.dL [])):=by
 unfold eT at h
 refine ar.intro 4 Tryz.func47 Tryz.ntmps47 rfl (by simp) fun E=>?_
 show ab _ E ⟨4,[1],[1],[]⟩ _ ⟨[(0,.b (.row 1))],[(1,.ed 40 2 (l0.map (ec .i64)))]⟩ _
 refine ab.tY 1 rfl (ab.aa (Oc om (ae.tZ 1 rfl ?_)))
 obtain ⟨x_1,e1,h⟩:=aN h
 refine Oc (cz (own_a:=[(1,_)]) (kA e1) goes72 rfl ⟨rfl,trivial⟩ rfl rfl) (ae.tY 1 rfl (ae.nil ?_))
 obtain rfl:=Option.some.inj h
 refine Fin.ag ⟨[],[(1,.row 40 2 (x_1.map (ec .i64)))]⟩ rfl (Fin.tZ 1 rfl (Fin.ag ⟨[],[(1,.ed 40 2 (x_1.map (ec .i64)))]⟩ rfl ?_))
 exact Fin.result [] (.inr rfl) rfl (.nil) ⟨rfl,rfl⟩
def fC (F:Nat) (l0:List b8):Option ((List A2) × Int) :=
 (eK F l0 41).bind fun x_1=>if x_1 = true then (some ([],1)) else (Option.bind (mk? (0:Int) (l0.length:Int) (l0.length:Int)) (fun x_2=>Option.bind (iter F (dg fun order_4 x_5=>if (decide (x_5 < (x_2.length:Int))) = true then ((a8 order_4 x_5).bind fun x_7=>some (.inl (order_4.set (x_5:Int).toNat x_5,IntKind.i64.wrap (x_5 + 1)))) else (some (.inr order_4))) (x_2,0)) (fun order_3=>(gr F l0 order_3).bind fun x_8=>Option.bind (iter F (qZ fun active_10 out_11 x_12=>if (decide (x_12 < (x_8.length:Int))) = true then (Option.bind ((a8 x_8 x_12).bind fun x_16=>(fu F (l0,x_16) active_10).bind fun x_17=>Option.bind (iter F (dg fun out_19 x_20=>if (decide (x_20 < (x_17.length:Int))) = true then (Option.bind ((a8 x_17 x_20).bind fun x_23=>(a8 l0 x_16).bind fun x_24=>(a8 l0 x_23).bind fun x_25=>(cJ F x_24 x_25).bind fun x_26=>if x_26 = true then ((ee out_19 [(⟨min x_16 x_23,max x_16 x_23⟩:A2)]).bind fun x_27=>some x_27) else (some out_19)) (fun out_22=>some (.inl (out_22,IntKind.i64.wrap (x_20 + 1))))) else (some (.inr out_19))) (out_11,0)) (fun out_18=>(ee x_17 [x_16]).bind fun x_28=>some (x_28,out_18))) (dg fun active_14 out_15=>some (.inl (active_14,out_15,IntKind.i64.wrap (x_12 + 1))))) else (some (.inr out_11))) ([],[],0)) (fun out_9=>(eT F out_9).bind fun x_29=>some (x_29,0)))))
theorem jD (kr0:Nat) {F:Nat} {l0:List b8} {r:(List A2) × Int} (h:fC F l0 = some r):ar Tryz.prog [] 20 [] [.one (.sl 6 (l0.map ao))] (Is [(kr0,.row 40 2 (r.1.map (ec .i64)))] (.dL [.row kr0,.one (.i r.2)])):=by
 unfold fC at h
 refine ar.intro 73 Tryz.func20 Tryz.ntmps20 rfl (by simp) fun E=>?_
 show ab _ E ⟨73,[],[],[]⟩ _ ⟨[(0,.b (.one (.sl 6 (l0.map ao))))],[]⟩ _
 refine ab.seq (ab.aa ?_)
 refine Oc (qI rfl) (Oc oa (Oc oa ?_))
 refine ae.ai ⟨[(1,.b (.aO [.sl 6 (l0.map ao)]))],[]⟩ rfl (ab.seq (ab.seq (ab.aa ?_)))
 refine Oc (ay lf rfl rfl) ?_
 obtain ⟨x_1,e1,h⟩:=aN h
 refine Oc (ak (jm e1) goes40 rfl rfl) (ae.ai ⟨[(1,_),(13,B x_1)],[]⟩ rfl (ab.ite h rfl (fun _ h=>?_) (fun _ h=>?_)))
 ·refine ab.seq (ab.aa ?_)
  refine Oc oa (Oc oa ?_)
  refine ae.ai ⟨[(2,.b (.one (.nil))),(3,I 1)],[]⟩ rfl (ab.ret (Fin.au ?_))
  obtain rfl:=Option.some.inj h
  refine Fin.ag ⟨[(2,_),(3,_)],[]⟩ rfl (Fin.dI 2 101 2 40 rfl (by decide) rfl (Fin.eh 101 kr0 [.row 101,.one (.i 1)] (.inl rfl) rfl (.cons (.tmp rfl) (.cons (.tmp rfl) .nil)) rfl rfl rfl rfl ⟨rfl,rfl⟩))
 ·refine ab.skip (Fin.ag ⟨[(1,_)],[]⟩ rfl (Fin.then (ab.seq (ab.aa ?_))))
  refine Oc (ay lf rfl rfl) (Oc (ba und34 rfl (List.length_map _)) ?_)
  obtain ⟨x_2,e2,h⟩:=aN h
  refine Oc (qT (k:=102) (enc:=eI) bL e2 (by decide) (.cons .refl .nil) rfl rfl rfl) (Oc oa ?_)
  refine ae.ai ⟨[(1,_),(4,.b (.row 102))],[(102,.row 3 1 (x_2.map eI))]⟩ rfl ?_
  obtain ⟨v3,h4,h⟩:=aN h
  refine ab.c6 (v:=v3) (fun (order_3:List Int)=>⟨[(1,.b (.aO [.sl 6 (l0.map ao)])),(4,.b (.row 102))],[(102,.row 3 1 (order_3.map eI))]⟩) (fun z=>z) ?_ ?_
  ·refine ab.seq (ab.aa ?_)
   refine Oc om (Oc (fi fO rfl rfl (List.length_map _)) (Oc om ?_))
   refine ae.ai ⟨[(1,_),(4,_),(18,I (x_2.length:Int)),(19,I 0)],[(102,_)]⟩ rfl (ab.block (ab.c5 h4 (dg fun (order_4:List Int) (x_5:Int)=>⟨[(1,.b (.aO [.sl 6 (l0.map ao)])),(4,.b (.row 102)),(18,I (x_2.length:Int)),(19,I x_5)],[(102,.row 3 1 (order_4.map eI))]⟩) [1,4,18,19] [102] rfl ?_))
   rintro ⟨order_4,x_5⟩ o5 h6 hy7
   refine ab.seq (ab.aa ?_)
   refine Oc (bf rfl rfl) (ae.ai ⟨[(1,_),(4,_),(18,_),(19,_),(20,B (decide (x_5 < (x_2.length:Int))))],[(102,_)]⟩ rfl (ab.seq (ab.ite h6 rfl (fun _ h6=>?_) (fun _ h6=>?_))))
   ·refine ab.skip (Fin.ag ⟨[(1,_),(4,_),(18,_),(19,_)],[(102,_)]⟩ rfl (Fin.then (ab.seq (ab.block (ab.seq (ab.aa ?_))))))
    refine Oc om (Oc oa ?_)
    refine ae.ai ⟨[(1,_),(4,_),(5,I x_5),(18,_),(19,_)],[(102,_)]⟩ rfl (ab.aa (Oc om (Oc om (Oc om ?_))))
    obtain ⟨x_7,e8,h6⟩:=aN h6
    refine Oc (eu bL (aX e8) (jL e8) rfl rfl rfl rfl) (Oc (kY (i:=(x_5:Int).toNat) aK rfl rfl rfl rfl (uO e8) (map_set _ _ _ _)) ?_)
    refine ae.nil (Fin.av (Fin.ag ⟨[(1,_),(4,_),(18,_),(19,_)],[(102,.row 3 1 ((order_4.set (x_5:Int).toNat x_5).map eI))]⟩ rfl (Fin.then (ab.aa ?_))))
    refine Oc (bA rfl rfl) (Oc om ?_)
    refine ae.nil ?_
    exact Fin.bZ [1,4,18,19] [102] (order_4.set (x_5:Int).toNat x_5,IntKind.i64.wrap (x_5 + 1)) (Option.some.inj h6) rfl
   ·refine ab.exit (Fin.aC ?_)
    obtain rfl:=hy7 _ (Option.some.inj h6).symm
    refine Fin.aC (Fin.aS ?_)
    exact Fin.join [1,4] [102] order_4 rfl rfl
  ·rintro order_3 hv
   subst v3
   refine ab.seq (ab.aa ?_)
   refine Oc om (Oc (il rfl) ?_)
   refine ae.tZ 102 rfl ?_
   obtain ⟨x_8,e9,h⟩:=aN h
   refine Oc (cz (own_a:=[(102,_)]) ((k8 e9).sw 1 102) goes42 rfl ⟨rfl,trivial⟩ rfl rfl) (ae.tY 102 rfl (ae.ai ⟨[(1,_),(4,_)],[(102,.row 3 1 (x_8.map eI))]⟩ rfl (ab.seq (ab.aa ?_))))
   refine Oc oa (ae.ai ⟨[(1,_),(4,_),(6,.b (.one (.nil)))],[(102,_)]⟩ rfl (ab.seq (ab.aa ?_)))
   refine Oc oa (ae.ai ⟨[(1,_),(4,_),(6,_),(7,.b (.one (.nil)))],[(102,_)]⟩ rfl ?_)
   obtain ⟨v10,h11,h⟩:=aN h
   refine ab.c6 (v:=v10) (fun (out_9:List A2)=>⟨[(7,.b (.row 106))],[(106,.row 40 2 (out_9.map (ec .i64)))]⟩) (fun z=>z) ?_ ?_
   ·refine ab.seq (ab.aa ?_)
    refine Oc om (Oc (fi fO rfl rfl (List.length_map _)) (Oc om ?_))
    refine ae.ai ⟨[(1,_),(6,_),(7,_),(30,.b (.row 102)),(31,I (x_8.length:Int)),(32,I 0)],[(102,_)]⟩ rfl (ab.block (ab.dI 6 104 1 3 rfl (by decide) rfl (ab.dI 7 106 2 40 rfl (by decide) rfl (ab.c5 h11 (qZ fun (active_10:List Int) (out_11:List A2) (x_12:Int)=>⟨[(1,.b (.aO [.sl 6 (l0.map ao)])),(6,.b (.row 104)),(7,.b (.row 106)),(30,.b (.row 102)),(31,I (x_8.length:Int)),(32,I x_12)],[(102,.row 3 1 (x_8.map eI)),(104,.row 3 1 (active_10.map eI)),(106,.row 40 2 (out_11.map (ec .i64)))]⟩) [1,6,7,30,31,32] [102,104,106] rfl ?_))))
    rintro ⟨active_10,out_11,x_12⟩ o12 h13 hy14
    refine ab.seq (ab.aa ?_)
    refine Oc (bf rfl rfl) (ae.ai ⟨[(1,_),(6,_),(7,_),(30,_),(31,_),(32,_),(33,B (decide (x_12 < (x_8.length:Int))))],[(102,_),(104,_),(106,_)]⟩ rfl (ab.seq (ab.ite h13 rfl (fun _ h13=>?_) (fun _ h13=>?_))))
    ·refine ab.skip (Fin.ag ⟨[(1,_),(6,_),(7,_),(30,_),(31,_),(32,_)],[(102,_),(104,_),(106,_)]⟩ rfl (Fin.then ?_))
     obtain ⟨v15,h16,h13⟩:=aN h13
     refine ab.c6 (v:=v15) (dg fun (active_14:List Int) (out_15:List A2)=>⟨[(1,.b (.aO [.sl 6 (l0.map ao)])),(6,.b (.row 104)),(7,.b (.row 106)),(30,.b (.row 102)),(31,I (x_8.length:Int)),(32,I x_12)],[(102,.row 3 1 (x_8.map eI)),(104,.row 3 1 (active_14.map eI)),(106,.row 40 2 (out_15.map (ec .i64)))]⟩) (fun z=>z) ?_ ?_
     ·refine ab.block (ab.seq (ab.aa ?_))
      obtain ⟨x_16,e17,h16⟩:=aN h16
      refine Oc (eu bL (aX e17) (jL e17) rfl rfl rfl rfl) (Oc (gy (i:=(x_12:Int).toNat) (f:=0) aK rfl rfl rfl (bn (e:=eI) e17) rfl) (Oc (aT (k:=107) tyZero3 rfl) (Oc (eX aK rfl rfl rfl (Nat.le_of_ble_eq_true rfl) rfl) ?_)))
      refine ae.gK 107 rfl (ae.ai ⟨[(1,_),(6,_),(7,_),(9,.b (.aO [.i x_16])),(30,_),(31,_),(32,_)],[(102,_),(104,_),(106,_)]⟩ rfl (ab.seq (ab.aa ?_)))
      refine Oc om (Oc (il rfl) ?_)
      obtain ⟨x_17,e18,h16⟩:=aN h16
      refine Oc (cz (own_a:=[(104,_)]) ((j9 e18).sw 1 104) goes45 rfl ⟨rfl,trivial⟩ rfl rfl) (Oc oa ?_)
      refine ae.ai ⟨[(1,_),(6,_),(7,_),(9,_),(30,_),(31,_),(32,_)],[(102,_),(104,.row 3 1 (x_17.map eI)),(106,_)]⟩ rfl ?_
      obtain ⟨v19,h20,h16⟩:=aN h16
      refine ab.c6 (v:=v19) (fun (out_18:List A2)=>⟨[(1,.b (.aO [.sl 6 (l0.map ao)])),(6,.b (.row 104)),(7,.b (.row 106)),(9,.b (.aO [.i x_16])),(30,.b (.row 102)),(31,I (x_8.length:Int)),(32,I x_12)],[(102,.row 3 1 (x_8.map eI)),(104,.row 3 1 (x_17.map eI)),(106,.row 40 2 (out_18.map (ec .i64)))]⟩) (fun z=>z) ?_ ?_
      ·refine ab.seq (ab.aa ?_)
       refine Oc om (Oc (fi fO rfl rfl (List.length_map _)) (Oc om ?_))
       refine ae.ai ⟨[(1,_),(6,_),(7,_),(9,_),(30,_),(31,_),(32,_),(39,.b (.row 104)),(40,I (x_17.length:Int)),(41,I 0)],[(102,_),(104,_),(106,_)]⟩ rfl (ab.block (ab.c5 h20 (dg fun (out_19:List A2) (x_20:Int)=>⟨[(1,.b (.aO [.sl 6 (l0.map ao)])),(6,.b (.row 104)),(7,.b (.row 106)),(9,.b (.aO [.i x_16])),(30,.b (.row 102)),(31,I (x_8.length:Int)),(32,I x_12),(39,.b (.row 104)),(40,I (x_17.length:Int)),(41,I x_20)],[(102,.row 3 1 (x_8.map eI)),(104,.row 3 1 (x_17.map eI)),(106,.row 40 2 (out_19.map (ec .i64)))]⟩) [1,6,7,9,30,31,32,39,40,41] [102,104,106] rfl ?_))
       rintro ⟨out_19,x_20⟩ o21 h22 hy23
       refine ab.seq (ab.aa ?_)
       refine Oc (bf rfl rfl) (ae.ai ⟨[(1,_),(6,_),(7,_),(9,_),(30,_),(31,_),(32,_),(39,_),(40,_),(41,_),(42,B (decide (x_20 < (x_17.length:Int))))],[(102,_),(104,_),(106,_)]⟩ rfl (ab.seq (ab.ite h22 rfl (fun _ h22=>?_) (fun _ h22=>?_))))
       ·refine ab.skip (Fin.ag ⟨[(1,_),(6,_),(7,_),(9,_),(30,_),(31,_),(32,_),(39,_),(40,_),(41,_)],[(102,_),(104,_),(106,_)]⟩ rfl (Fin.then ?_))
        obtain ⟨v24,h25,h22⟩:=aN h22
        refine ab.c6 (v:=v24) (fun (out_22:List A2)=>⟨[(1,.b (.aO [.sl 6 (l0.map ao)])),(6,.b (.row 104)),(7,.b (.row 106)),(9,.b (.aO [.i x_16])),(30,.b (.row 102)),(31,I (x_8.length:Int)),(32,I x_12),(39,.b (.row 104)),(40,I (x_17.length:Int)),(41,I x_20)],[(102,.row 3 1 (x_8.map eI)),(104,.row 3 1 (x_17.map eI)),(106,.row 40 2 (out_22.map (ec .i64)))]⟩) (fun z=>z) ?_ ?_
        ·refine ab.block (ab.seq (ab.aa ?_))
         obtain ⟨x_23,e26,h25⟩:=aN h25
         refine Oc (eu bL (aX e26) (jL e26) rfl rfl rfl rfl) (Oc (gy (i:=(x_20:Int).toNat) (f:=0) aK rfl rfl rfl (bn (e:=eI) e26) rfl) (Oc oa ?_))
         refine ae.ai ⟨[(1,_),(6,_),(7,_),(9,_),(11,I x_23),(30,_),(31,_),(32,_),(39,_),(40,_),(41,_)],[(102,_),(104,_),(106,_)]⟩ rfl (ab.seq ?_)
         obtain ⟨x_24,e27,h25⟩:=aN h25
         obtain ⟨x_25,e28,h25⟩:=aN h25
         obtain ⟨x_26,e29,h25⟩:=aN h25
         refine ab.bD mixed 9 [.b (.one (.sl 6 (l0.map ao))),I x_16,.b (.aO (ao x_24)),.b (.agg (ao x_24)),.b (.one (.sl 6 (l0.map ao))),I x_23,.b (.aO (ao x_25)),.b (.agg (ao x_25)),B x_26] [1,6,7,9,11,30,31,32,39,40,41,53] [102,104,106] (s':=⟨[(1,_),(6,_),(7,_),(9,_),(11,_),(30,_),(31,_),(32,_),(39,_),(40,_),(41,_),(53,B x_26)],[(102,_),(104,_),(106,_)]⟩) rfl ⟨fun _=>.p (ay lf rfl rfl),fun _=>.p (ay aK rfl rfl),fun _=>.p (aM lV (aX e27) (bn (e:=ao) e27) rfl rfl),fun _=>.p (bm aB rfl rfl rfl),fun _=>.p (ay lf rfl rfl),fun _=>.p om,fun _=>.p (aM lV (aX e28) (bn (e:=ao) e28) rfl rfl),fun _=>.p (bm aB rfl rfl rfl),fun _=>.p (ak (dE e29) nc rfl rfl),trivial⟩ rfl rfl (ab.ite h25 rfl (fun _ h25=>?_) (fun _ h25=>?_))
         ·refine ab.aa (Oc om (Oc (ay aK rfl rfl) (Oc om (Oc (uX rfl rfl) (Oc (ay aK rfl rfl) (Oc om ?_))))))
          refine ae.ag ⟨[(1,_),(6,_),(7,_),(9,_),(30,_),(31,_),(32,_),(39,_),(40,_),(41,_),(54,.b (.row 106)),(57,I (min x_16 x_23)),(58,I x_16),(59,I x_23)],[(102,_),(104,_),(106,_)]⟩ rfl (Oc (sA rfl rfl) (Oc (dS fh rfl rfl) (Oc (bp (k:=108) (es:=[(⟨min x_16 x_23,max x_16 x_23⟩:A2)].map (ec .i64)) gV rfl rfl (bM fun _=>rfl) rfl (by decide) (by decide) rfl) ?_)))
          obtain ⟨x_27,e30,h25⟩:=aN h25
          refine Oc (cP gV (iC e30) (iB e30) rfl rfl rfl rfl (ek e30) rfl) (Oc oa ?_)
          refine ae.nil (Fin.av ?_)
          exact Fin.join [1,6,7,9,30,31,32,39,40,41] [102,104,106] x_27 (Option.some.inj h25) rfl
         ·refine ab.skip (Fin.av ?_)
          exact Fin.join [1,6,7,9,30,31,32,39,40,41] [102,104,106] out_19 (Option.some.inj h25) rfl
        ·rintro out_22 hv
         subst v24
         refine ab.aa (Oc (bA rfl rfl) (Oc om ?_))
         refine ae.nil ?_
         exact Fin.bZ [1,6,7,9,30,31,32,39,40,41] [102,104,106] (out_22,IntKind.i64.wrap (x_20 + 1)) (Option.some.inj h22) rfl
       ·refine ab.exit (Fin.aC ?_)
        obtain rfl:=hy23 _ (Option.some.inj h22).symm
        refine Fin.aC (Fin.aS ?_)
        exact Fin.join [1,6,7,9,30,31,32] [102,104,106] out_19 rfl rfl
      ·rintro out_18 hv
       subst v19
       refine ab.aa (Oc om (Oc (ay aK rfl rfl) (Oc (bp (k:=109) (es:=[x_16].map eI) bL rfl rfl (bM fun _=>rfl) rfl (by decide) (by decide) rfl) ?_)))
       obtain ⟨x_28,e31,h16⟩:=aN h16
       refine Oc (cP bL (iC e31) (iB e31) rfl rfl rfl rfl (ek e31) rfl) (Oc oa ?_)
       refine ae.nil (Fin.av ?_)
       exact Fin.join [1,6,7,30,31,32] [102,104,106] (x_28,out_18) (Option.some.inj h16) rfl
     ·rintro ⟨active_14,out_15⟩ hv
      subst v15
      refine ab.aa (Oc (bA rfl rfl) (Oc om ?_))
      refine ae.nil ?_
      exact Fin.bZ [1,6,7,30,31,32] [102,104,106] (active_14,out_15,IntKind.i64.wrap (x_12 + 1)) (Option.some.inj h13) rfl
    ·refine ab.exit (Fin.aC ?_)
     obtain rfl:=hy14 _ (Option.some.inj h13).symm
     refine Fin.aC (Fin.aS ?_)
     exact Fin.join [7] [106] out_11 rfl rfl
   ·rintro out_9 hv
    subst v10
    refine ab.seq (ab.aa ?_)
    refine Oc om (ae.tZ 106 rfl ?_)
    obtain ⟨x_29,e32,h⟩:=aN h
    refine Oc (cz (own_a:=[(106,_)]) ((la e32).sw 1 106) goes47 rfl ⟨rfl,trivial⟩ rfl rfl) (ae.tY 106 rfl (ae.ai ⟨[(7,_)],[(106,.row 40 2 (x_29.map (ec .i64)))]⟩ rfl (ab.seq (ab.aa ?_))))
    refine Oc om (Oc oa (Oc oa ?_))
    refine ae.ai ⟨[(2,.b (.row 106)),(3,I 0)],[(106,_)]⟩ rfl (ab.ret ?_)
    obtain rfl:=Option.some.inj h
    refine Fin.ag ⟨[(2,_),(3,_)],[(106,_)]⟩ rfl (Fin.eh 106 kr0 [.row 106,.one (.i 0)] (.inl rfl) rfl (.cons (.tmp rfl) (.cons (.tmp rfl) .nil)) rfl rfl rfl rfl ⟨rfl,rfl⟩)
def bd (F:Nat) (a0:List A2) (b0:List A2):Option Bool :=
 if (decide ((a0.length:Int) ≠ (b0.length:Int))) = true then (some false) else (Option.bind (iter F (fun i_1=>if (decide (i_1 < (a0.length:Int))) = true then ((a8 a0 i_1).bind fun x_2=>(a8 b0 i_1).bind fun x_3=>if (decide (x_2 ≠ x_3)) = true then (some (.inr (.inr false))) else (some (.inl (IntKind.i64.wrap (i_1 + 1))))) else (some (.inr (.inl ())))) 0) (cy (fun _=>some true) (fun y=>some y)))
theorem cC {F:Nat} {a0:List A2} {b0:List A2} {r:Bool} (h:bd F a0 b0 = some r):ar Tryz.prog [] 22 [] [.one (.sl 2 (a0.map (ec .i64))),.one (.sl 2 (b0.map (ec .i64)))] (Is [] (.b (.one (.bool r)))):=by
 unfold bd at h
 refine ar.intro 26 Tryz.func22 Tryz.ntmps22 rfl (by simp) fun E=>?_
 show ab _ E ⟨26,[],[],[]⟩ _ ⟨[(0,.b (.one (.sl 2 (a0.map (ec .i64))))),(1,.b (.one (.sl 2 (b0.map (ec .i64)))))],[]⟩ _
 refine ab.seq (ab.aa ?_)
 refine Oc oa (ae.ai ⟨[(0,.b (.one (.sl 2 (a0.map (ec .i64))))),(1,.b (.one (.sl 2 (b0.map (ec .i64)))))],[]⟩ rfl (ab.seq (ab.seq (ab.aa ?_))))
 refine Oc om (Oc (ba tp rfl (List.length_map _)) (Oc om (Oc (ba tp rfl (List.length_map _)) (Oc (jf rfl rfl) ?_))))
 refine ae.ai ⟨[(0,_),(1,_),(10,B (decide ((a0.length:Int) ≠ (b0.length:Int))))],[]⟩ rfl (ab.ite h rfl (fun _ h=>?_) (fun _ h=>?_))
 ·refine ab.seq (ab.aa ?_)
  refine Oc oa (ae.ai ⟨[(4,B false)],[]⟩ rfl (ab.ret (Fin.au ?_)))
  obtain rfl:=Option.some.inj h
  refine Fin.ag ⟨[(4,_)],[]⟩ rfl (Fin.aw [.one (.bool false)] (.inl rfl) rfl (.cons (.tmp rfl) .nil) ⟨rfl,rfl⟩)
 ·refine ab.skip (Fin.ag ⟨[(0,_),(1,_)],[]⟩ rfl (Fin.then ?_))
  obtain ⟨v1,h2,h⟩:=aN h
  refine ab.c6 (v:=v1) (fun (_:Unit)=>⟨[],[]⟩) (fun z=>.inl z) ?_ ?_
  ·refine ab.seq (ab.aa ?_)
   refine Oc oa (ae.ai ⟨[(0,_),(1,_),(5,I 0)],[]⟩ rfl (ab.block (ab.c5 h2 (fun (i_1:Int)=>⟨[(0,.b (.one (.sl 2 (a0.map (ec .i64))))),(1,.b (.one (.sl 2 (b0.map (ec .i64))))),(5,I i_1)],[]⟩) [0,1,5] [] rfl ?_)))
   rintro i_1 o3 h4 hy5
   refine ab.seq (ab.seq (ab.aa ?_))
   refine Oc om (Oc om (Oc (ba tp rfl (List.length_map _)) (Oc (bf rfl rfl) ?_)))
   refine ae.ai ⟨[(0,_),(1,_),(5,_),(14,B (decide (i_1 < (a0.length:Int))))],[]⟩ rfl (ab.ite h4 rfl (fun _ h4=>?_) (fun _ h4=>?_))
   ·refine ab.skip (Fin.ag ⟨[(0,_),(1,_),(5,_)],[]⟩ rfl (Fin.then (ab.seq (ab.block (ab.seq ?_)))))
    refine ab.ag ⟨[(0,_),(1,_),(5,_)],[]⟩ rfl ?_
    obtain ⟨x_2,e6,h4⟩:=aN h4
    obtain ⟨x_3,e7,h4⟩:=aN h4
    refine ab.bD mixed 9 [.b (.one (.sl 2 (a0.map (ec .i64)))),I i_1,.b (.aO ((ec .i64) x_2)),.b (.agg ((ec .i64) x_2)),.b (.one (.sl 2 (b0.map (ec .i64)))),I i_1,.b (.aO ((ec .i64) x_3)),.b (.agg ((ec .i64) x_3)),B (decide (x_2 ≠ x_3))] [0,1,5,25] [] (s':=⟨[(0,_),(1,_),(5,_),(25,B (decide (x_2 ≠ x_3)))],[]⟩) rfl ⟨fun _=>.p om,fun _=>.p om,fun _=>.p (aM gV (aX e6) (bn (e:=(ec .i64)) e6) rfl rfl),fun _=>.p (bm oo rfl rfl rfl),fun _=>.p om,fun _=>.p om,fun _=>.p (aM gV (aX e7) (bn (e:=(ec .i64)) e7) rfl rfl),fun _=>.p (bm oo rfl rfl rfl),fun _=>.p (pn (eqAgg40 x_2 x_3) rfl rfl tK),trivial⟩ rfl rfl (ab.ite h4 rfl (fun _ h4=>?_) (fun _ h4=>?_))
    ·refine ab.seq (ab.aa ?_)
     refine Oc oa (ae.ai ⟨[(4,B false)],[]⟩ rfl (ab.ret (Fin.aP (Fin.au ?_))))
     obtain rfl:=hy5 _ (Option.some.inj h4).symm
     refine Fin.au (Fin.aP (Fin.au ?_))
     obtain rfl:=Option.some.inj h
     refine Fin.ag ⟨[(4,_)],[]⟩ rfl (Fin.aw [.one (.bool false)] (.inl rfl) rfl (.cons (.tmp rfl) .nil) ⟨rfl,rfl⟩)
    ·refine ab.skip (Fin.av (Fin.ag ⟨[(0,_),(1,_),(5,_)],[]⟩ rfl (Fin.then (ab.aa ?_))))
     refine Oc om (Oc (bA rfl rfl) (Oc oa ?_))
     refine ae.nil ?_
     exact Fin.bZ [0,1,5] [] (IntKind.i64.wrap (i_1 + 1)) (Option.some.inj h4) rfl
   ·refine ab.exit (Fin.aC ?_)
    obtain rfl:=hy5 _ (Option.some.inj h4).symm
    refine Fin.aC (Fin.aS ?_)
    exact Fin.join [] [] () rfl rfl
  ·rintro _ hv
   subst v1
   refine ab.seq (ab.aa ?_)
   refine Oc oa (ae.ai ⟨[(4,B true)],[]⟩ rfl (ab.ret ?_))
   obtain rfl:=Option.some.inj h
   refine Fin.ag ⟨[(4,_)],[]⟩ rfl (Fin.aw [.one (.bool true)] (.inl rfl) rfl (.cons (.tmp rfl) .nil) ⟨rfl,rfl⟩)
def gR (F:Nat):Option b9 :=
 some (⟨(⟨.leaf,50,48,49⟩:jr),(⟨.leaf,51,48,49⟩:jr)⟩:b9)
theorem iN {F:Nat} {r:b9} (h:gR F = some r):ar Tryz.prog [] 23 [] [] (Is [] (.b (.agg (aD r)))):=by
 unfold gR at h
 refine ar.intro 14 Tryz.func23 Tryz.ntmps23 rfl (by simp) fun E=>?_
 show ab _ E ⟨14,[],[],[]⟩ _ ⟨[],[]⟩ _
 refine ab.seq (ab.aa ?_)
 refine Oc (aT (k:=101) dO rfl) (ae.ai ⟨[(0,Pt 101 0)],[(101,.box 49 [.tr af (.leaf),.cZ 0,.cZ 0,.cZ 0,.tr af (.leaf),.cZ 0,.cZ 0,.cZ 0])]⟩ rfl (ab.seq (ab.aa ?_)))
 refine Oc oa (ae.ai ⟨[(0,_),(1,.b (.one (.raw (.func (.func 48) #[] #[]))))],[(101,_)]⟩ rfl (ab.seq (ab.aa ?_)))
 refine Oc oa (ae.ai ⟨[(0,_),(1,_),(2,.b (.one (.raw (.func (.func 49) #[] #[]))))],[(101,_)]⟩ rfl (ab.seq (ab.aa ?_)))
 refine Oc oa (ae.ai ⟨[(0,_),(1,_),(2,_),(3,.b (.one (.raw (.func (.func 50) #[] #[]))))],[(101,_)]⟩ rfl (ab.seq (ab.aa ?_)))
 refine Oc oa (ae.ai ⟨[(0,_),(1,_),(2,_),(3,_),(4,.b (.one (.raw (.func (.func 51) #[] #[]))))],[(101,_)]⟩ rfl (ab.seq (ab.aa ?_)))
 refine Oc om (Oc om (Oc om (Oc (bR p7 rfl rfl) (Oc om (Oc om ?_)))))
 refine Oc om (ae.ag ⟨[(0,_),(8,.b (.agg [.tr af (.leaf),.raw (.func (.func 50) #[] #[]),.raw (.func (.func 48) #[] #[]),.raw (.func (.func 49) #[] #[])])),(9,.b (.one (.raw (.func (.func 51) #[] #[])))),(10,.b (.one (.raw (.func (.func 48) #[] #[])))),(11,.b (.one (.raw (.func (.func 49) #[] #[]))))],[(101,_)]⟩ rfl (Oc (bR p7 rfl rfl) (Oc (bR fR rfl rfl) (Oc (aA aI rfl rfl rfl rfl (Nat.le_of_ble_eq_true rfl) rfl) ?_))))
 refine ae.ai ⟨[(0,_)],[(101,.box 49 [.tr af (.leaf),.raw (.func (.func 50) #[] #[]),.raw (.func (.func 48) #[] #[]),.raw (.func (.func 49) #[] #[]),.tr af (.leaf),.raw (.func (.func 51) #[] #[]),.raw (.func (.func 48) #[] #[]),.raw (.func (.func 49) #[] #[])])]⟩ rfl (ab.ret ?_)
 obtain rfl:=Option.some.inj h
 refine Fin.ag ⟨[(0,_)],[(101,_)]⟩ rfl (Fin.aw [.agg [.tr af (.leaf),.raw (.func (.func 50) #[] #[]),.raw (.func (.func 48) #[] #[]),.raw (.func (.func 49) #[] #[]),.tr af (.leaf),.raw (.func (.func 51) #[] #[]),.raw (.func (.func 48) #[] #[]),.raw (.func (.func 49) #[] #[])]] (.inl rfl) rfl (.cons (.agg aI rfl rfl rfl rfl) .nil) ⟨rfl,rfl⟩)
def cB (F:Nat) (s0:b9) (id0:Int):Option (entry × Bool) :=
 Option.bind (iter F (fun n_1=>if (!n_1.dC) = true then (Option.bind (jq n_1) (fun nd_2=>if (decide (id0 = nd_2.1.x.id)) = true then (Option.bind (jq n_1) (fun nd_3=>some (.inr (.inr (nd_3.1.x,true))))) else (Option.bind (jq n_1) (fun nd_4=>if (decide (id0 < nd_4.1.x.id)) = true then (Option.bind (jq n_1) (fun nd_5=>some (.inl nd_5.2.1))) else (Option.bind (jq n_1) (fun nd_6=>some (.inl nd_6.2.2))))))) else (some (.inr (.inl ())))) s0.ids.root) (cy (fun _=>fE (⟨0,(⟨A3.zero,A3.zero⟩:b8)⟩:entry) fun x_7=>some (x_7,false)) (fun y=>some y))
theorem ew {F:Nat} {s0:b9} {id0:Int} {r:entry × Bool} (h:cB F s0 id0 = some r):ar Tryz.prog [] 54 [] [.agg (aD s0),.one (.i id0)] (Is [] (.dL [.agg (ax r.1),.one (.bool r.2)])):=by
 unfold cB at h
 refine ar.intro 41 Tryz.func54 Tryz.ntmps54 rfl (by simp) fun E=>?_
 show ab _ E ⟨41,[],[],[]⟩ _ ⟨[(0,.b (.agg (aD s0))),(1,I id0)],[]⟩ _
 refine ab.seq (ab.aa ?_)
 refine Oc (bo (k:=101) rfl rfl) (Oc (aT (k:=102) gl rfl) (Oc oa ?_))
 refine ae.ai ⟨[(1,I id0),(2,Pt 101 0),(4,Pt 102 0)],[(101,.box 49 (aD s0)),(102,.box 87 (.i 0 :: ((cW .i64) A3.zero ++ ((cW .i64) A3.zero))))]⟩ rfl ?_
 obtain ⟨v1,h2,h⟩:=aN h
 refine ab.c6 (v:=v1) (fun (_:Unit)=>⟨[(4,Pt 102 0)],[(102,.box 87 (.i 0 :: ((cW .i64) A3.zero ++ ((cW .i64) A3.zero))))]⟩) (fun z=>.inl z) ?_ ?_
 ·refine ab.seq (ab.aa ?_)
  refine Oc (an jw rfl rfl) (Oc (an fQ rfl rfl) (Oc (aF bI rfl rfl rfl) (Oc oa ?_)))
  refine ae.ai ⟨[(1,_),(4,_),(6,.b (.one (.tr af s0.ids.root)))],[(102,_)]⟩ rfl (ab.block (ab.c5 h2 (fun (n_1:dh bu)=>⟨[(1,I id0),(4,Pt 102 0),(6,.b (.one (.tr af n_1)))],[(102,.box 87 (.i 0 :: ((cW .i64) A3.zero ++ ((cW .i64) A3.zero))))]⟩) [1,4,6] [102] rfl ?_))
  rintro n_1 o3 h4 hy5
  refine ab.seq (ab.seq (ab.aa ?_))
  refine Oc om (Oc (rZ lU rfl) ?_)
  refine ae.ai ⟨[(1,_),(4,_),(6,_),(11,B (!n_1.dC))],[(102,_)]⟩ rfl (ab.ite h4 rfl (fun _ h4=>?_) (fun _ h4=>?_))
  ·refine ab.skip (Fin.ag ⟨[(1,_),(4,_),(6,_)],[(102,_)]⟩ rfl (Fin.then (ab.block (ab.block (ab.seq (ab.aa ?_))))))
   refine Oc om (Oc om ?_)
   obtain ⟨nd_2,e6,h4⟩:=aN h4
   refine Oc (aJ e6 rfl rfl) (Oc (az eW rfl rfl) (Oc (az dR rfl rfl) (Oc (ay aK rfl rfl) (Oc (c3 rfl rfl) (Oc oa ?_)))))
   refine ae.ai ⟨[(1,_),(4,_),(6,_),(16,B (decide (id0 = nd_2.1.x.id)))],[(102,_)]⟩ rfl (ab.ite h4 rfl (fun _ h4=>?_) (fun _ h4=>?_))
   ·refine ab.seq (ab.aa ?_)
    refine Oc om ?_
    obtain ⟨nd_3,e7,h4⟩:=aN h4
    refine Oc (aJ e7 rfl rfl) (Oc (az eW rfl rfl) (Oc (bm bC rfl rfl rfl) (Oc (aA bC rfl rfl rfl rfl (Nat.le_of_ble_eq_true rfl) rfl) (Oc oa ?_))))
    refine ae.ai ⟨[(4,_),(5,B true)],[(102,.box 87 (ax nd_3.1.x))]⟩ rfl (ab.ret (Fin.aP (Fin.aP ?_)))
    obtain rfl:=hy5 _ (Option.some.inj h4).symm
    refine Fin.au (Fin.aP (Fin.au ?_))
    obtain rfl:=Option.some.inj h
    refine Fin.ag ⟨[(4,_),(5,_)],[(102,_)]⟩ rfl (Fin.aw [.agg (ax nd_3.1.x),.one (.bool true)] (.inl rfl) rfl (.cons (.agg bC rfl rfl rfl rfl) (.cons (.tmp rfl) .nil)) ⟨rfl,rfl⟩)
   ·refine ab.seq (ab.aa ?_)
    refine Oc om (Oc om ?_)
    obtain ⟨nd_4,e8,h4⟩:=aN h4
    refine Oc (aJ e8 rfl rfl) (Oc (az eW rfl rfl) (Oc (az dR rfl rfl) (Oc (ay aK rfl rfl) (Oc (bf rfl rfl) (Oc oa ?_)))))
    refine ae.ai ⟨[(1,_),(4,_),(6,_),(28,B (decide (id0 < nd_4.1.x.id)))],[(102,_)]⟩ rfl (ab.ite h4 rfl (fun _ h4=>?_) (fun _ h4=>?_))
    ·refine ab.aa (Oc om ?_)
     obtain ⟨nd_5,e9,h4⟩:=aN h4
     refine Oc (aJ e9 rfl rfl) (Oc (az ep rfl rfl) (Oc (ay bI rfl rfl) (Oc oa ?_)))
     refine ae.nil (Fin.av (Fin.av ?_))
     exact Fin.bZ [1,4,6] [102] nd_5.2.1 (Option.some.inj h4) rfl
    ·refine ab.aa (Oc om ?_)
     obtain ⟨nd_6,e10,h4⟩:=aN h4
     refine Oc (aJ e10 rfl rfl) (Oc (az eo rfl rfl) (Oc (ay bI rfl rfl) (Oc oa ?_)))
     refine ae.nil (Fin.av (Fin.av ?_))
     exact Fin.bZ [1,4,6] [102] nd_6.2.2 (Option.some.inj h4) rfl
  ·refine ab.exit (Fin.aC ?_)
   obtain rfl:=hy5 _ (Option.some.inj h4).symm
   refine Fin.aC (Fin.aS ?_)
   exact Fin.join [4] [102] () rfl rfl
 ·rintro _ hv
  subst v1
  refine ab.seq (ab.aa ?_)
  refine ae.mx ax h rfl (bR p6 rfl rfl) (fun x_7 h=>?_)
  refine Oc (aA bC rfl rfl rfl rfl (Nat.le_of_ble_eq_true rfl) rfl) (Oc oa ?_)
  refine ae.ai ⟨[(4,_),(5,B false)],[(102,.box 87 (ax x_7))]⟩ rfl (ab.ret ?_)
  obtain rfl:=Option.some.inj h
  refine Fin.ag ⟨[(4,_),(5,_)],[(102,_)]⟩ rfl (Fin.aw [.agg (ax x_7),.one (.bool false)] (.inl rfl) rfl (.cons (.agg bC rfl rfl rfl rfl) (.cons (.tmp rfl) .nil)) ⟨rfl,rfl⟩)
def eJ (F:Nat) (s0:List (dh bu)) (f0:Nat):Option Int :=
 Option.bind (iter F (fun x_1=>if (decide (x_1 < (s0.length:Int))) = true then ((a8 s0 x_1).bind fun x_2=>(iv F f0 x_2).bind fun x_3=>if x_3 = true then (some (.inr (.inr x_1))) else (some (.inl (IntKind.i64.wrap (x_1 + 1))))) else (some (.inr (.inl ())))) 0) (cy (fun _=>some (-1)) (fun y=>some y))
theorem jl {F:Nat} {s0:List (dh bu)} {f0:Nat} {r:Int} (h:eJ F s0 f0 = some r):ar Tryz.prog [] 131 [] [.one (.sl 1 (s0.map (nQ af))),.one (.raw (.func (.func f0) #[] #[]))] (Is [] (.b (.one (.i r)))):=by
 unfold eJ at h
 refine ar.intro 19 Tryz.func131 Tryz.ntmps131 rfl (by simp) fun E=>?_
 show ab _ E ⟨19,[],[],[]⟩ _ ⟨[(0,.b (.one (.sl 1 (s0.map (nQ af))))),(1,.b (.one (.raw (.func (.func f0) #[] #[]))))],[]⟩ _
 refine ab.seq (ab.aa ?_)
 refine Oc oa (ae.ai ⟨[(0,.b (.one (.sl 1 (s0.map (nQ af))))),(1,.b (.one (.raw (.func (.func f0) #[] #[]))))],[]⟩ rfl ?_)
 obtain ⟨v1,h2,h⟩:=aN h
 refine ab.c6 (v:=v1) (fun (_:Unit)=>⟨[],[]⟩) (fun z=>.inl z) ?_ ?_
 ·refine ab.seq (ab.aa ?_)
  refine Oc om (Oc (ba sq rfl (List.length_map _)) (Oc om ?_))
  refine ae.ai ⟨[(0,_),(1,_),(7,I (s0.length:Int)),(8,I 0)],[]⟩ rfl (ab.block (ab.c5 h2 (fun (x_1:Int)=>⟨[(0,.b (.one (.sl 1 (s0.map (nQ af))))),(1,.b (.one (.raw (.func (.func f0) #[] #[])))),(7,I (s0.length:Int)),(8,I x_1)],[]⟩) [0,1,7,8] [] rfl ?_))
  rintro x_1 o3 h4 hy5
  refine ab.seq (ab.aa ?_)
  refine Oc (bf rfl rfl) (ae.ai ⟨[(0,_),(1,_),(7,_),(8,_),(9,B (decide (x_1 < (s0.length:Int))))],[]⟩ rfl (ab.seq (ab.ite h4 rfl (fun _ h4=>?_) (fun _ h4=>?_))))
  ·refine ab.skip (Fin.ag ⟨[(0,_),(1,_),(7,_),(8,_)],[]⟩ rfl (Fin.then (ab.seq (ab.block (ab.seq (ab.aa ?_))))))
   refine Oc om (Oc oa ?_)
   refine ae.ai ⟨[(0,_),(1,_),(5,I x_1),(7,_),(8,_)],[]⟩ rfl (ab.seq (ab.aa ?_))
   refine Oc om (Oc om (Oc om ?_))
   obtain ⟨x_2,e6,h4⟩:=aN h4
   refine Oc (aM jO (aX e6) (bn (e:=(nQ af)) e6) rfl rfl) (Oc (ay bI rfl rfl) ?_)
   obtain ⟨x_3,e7,h4⟩:=aN h4
   refine Oc (jz (mM e7) (mN e7) rfl rfl rfl) (ae.ai ⟨[(0,_),(1,_),(5,_),(7,_),(8,_),(16,B x_3)],[]⟩ rfl (ab.ite h4 rfl (fun _ h4=>?_) (fun _ h4=>?_)))
   ·refine ab.seq (ab.aa ?_)
    refine Oc om (Oc oa ?_)
    refine ae.ai ⟨[(4,I x_1)],[]⟩ rfl (ab.ret (Fin.aP (Fin.au ?_)))
    obtain rfl:=hy5 _ (Option.some.inj h4).symm
    refine Fin.au (Fin.aP (Fin.au ?_))
    obtain rfl:=Option.some.inj h
    refine Fin.ag ⟨[(4,_)],[]⟩ rfl (Fin.aw [.one (.i x_1)] (.inl rfl) rfl (.cons (.tmp rfl) .nil) ⟨rfl,rfl⟩)
   ·refine ab.skip (Fin.av (Fin.ag ⟨[(0,_),(1,_),(7,_),(8,_)],[]⟩ rfl (Fin.then (ab.aa ?_))))
    refine Oc (bA rfl rfl) (Oc om ?_)
    refine ae.nil ?_
    exact Fin.bZ [0,1,7,8] [] (IntKind.i64.wrap (x_1 + 1)) (Option.some.inj h4) rfl
  ·refine ab.exit (Fin.aC ?_)
   obtain rfl:=hy5 _ (Option.some.inj h4).symm
   refine Fin.aC (Fin.aS ?_)
   exact Fin.join [] [] () rfl rfl
 ·rintro _ hv
  subst v1
  refine ab.seq (ab.aa ?_)
  refine Oc oa (ae.ai ⟨[(4,I (-1))],[]⟩ rfl (ab.ret ?_))
  obtain rfl:=Option.some.inj h
  refine Fin.ag ⟨[(4,_)],[]⟩ rfl (Fin.aw [.one (.i (-1))] (.inl rfl) rfl (.cons (.tmp rfl) .nil) ⟨rfl,rfl⟩)
def ez (F:Nat) (del0:Nat) (s0:List (dh bu)):Option (List (dh bu)) :=
 (eJ F s0 del0).bind fun x_1=>if (decide (x_1 = (-1))) = true then (some s0) else (Option.bind (iter F (qZ fun s_4 i_5 j_6=>if (decide (j_6 < (s_4.length:Int))) = true then (Option.bind ((a8 s_4 j_6).bind fun x_11=>(iv F del0 x_11).bind fun x_12=>if (!x_12) = true then ((a8 s_4 i_5).bind fun x_13=>some (s_4.set (i_5:Int).toNat x_11,IntKind.i64.wrap (i_5 + 1))) else (some (s_4,i_5))) (dg fun s_9 i_10=>some (.inl (s_9,i_10,IntKind.i64.wrap (j_6 + 1))))) else (some (.inr (s_4,i_5)))) (s0,x_1,IntKind.i64.wrap (x_1 + 1))) (dg fun s_2 i_3=>Option.bind (clr? (.leaf:dh bu) s_2 i_3) (fun z_14=>(oG z_14 i_3).bind fun x_15=>some x_15)))
theorem iR {F:Nat} {del0:Nat} {s0:List (dh bu)} {r:(List (dh bu))} (h:ez F del0 s0 = some r):ar Tryz.prog [] 122 [(1,.row 42 1 (s0.map (nQ af)))] [.row 1,.one (.raw (.func (.func del0) #[] #[]))] (Is [(1,.row 42 1 (r.map (nQ af)))] (.b (.row 1))):=by
 unfold ez at h
 refine ar.intro 42 Tryz.func122 Tryz.ntmps122 rfl (by simp) fun E=>?_
 show ab _ E ⟨42,[],[1],[]⟩ _ ⟨[(0,.b (.row 1)),(1,.b (.one (.raw (.func (.func del0) #[] #[]))))],[(1,.row 42 1 (s0.map (nQ af)))]⟩ _
 refine ab.seq (ab.aa ?_)
 refine Oc oa (ae.ai ⟨[(0,.b (.row 1)),(1,.b (.one (.raw (.func (.func del0) #[] #[]))))],[(1,.row 42 1 (s0.map (nQ af)))]⟩ rfl (ab.seq (ab.aa ?_)))
 refine Oc om (Oc om ?_)
 obtain ⟨x_1,e1,h⟩:=aN h
 refine Oc (iG (jl e1) goes131 rfl CP.rK) (Oc oa ?_)
 refine ae.ai ⟨[(0,_),(1,_),(5,I x_1)],[(1,_)]⟩ rfl (ab.seq (ab.seq (ab.aa ?_)))
 refine Oc om (Oc (c3 rfl rfl) ?_)
 refine ae.ai ⟨[(0,_),(1,_),(5,_),(12,B (decide (x_1 = (-1))))],[(1,_)]⟩ rfl (ab.ite h rfl (fun _ h=>?_) (fun _ h=>?_))
 ·refine ab.seq (ab.aa ?_)
  refine Oc om (Oc oa ?_)
  refine ae.ai ⟨[(4,.b (.row 1))],[(1,_)]⟩ rfl (ab.ret (Fin.au ?_))
  obtain rfl:=Option.some.inj h
  refine Fin.ag ⟨[(4,_)],[(1,_)]⟩ rfl ?_
  exact Fin.result [.row 1] (.inl rfl) rfl (.cons (.tmp rfl) .nil) ⟨rfl,rfl⟩
 ·refine ab.skip (Fin.ag ⟨[(0,_),(1,_),(5,_)],[(1,_)]⟩ rfl (Fin.then ?_))
  obtain ⟨v2,h3,h⟩:=aN h
  refine ab.c6 (v:=v2) (dg fun (s_2:List (dh bu)) (i_3:Int)=>⟨[(0,.b (.row 1)),(5,I i_3)],[(1,.row 42 1 (s_2.map (nQ af)))]⟩) (fun z=>z) ?_ ?_
  ·refine ab.seq (ab.aa ?_)
   refine Oc om (Oc (bA rfl rfl) (Oc oa ?_))
   refine ae.ai ⟨[(0,_),(1,_),(5,_),(6,I (IntKind.i64.wrap (x_1 + 1)))],[(1,_)]⟩ rfl (ab.block (ab.c5 h3 (qZ fun (s_4:List (dh bu)) (i_5:Int) (j_6:Int)=>⟨[(0,.b (.row 1)),(1,.b (.one (.raw (.func (.func del0) #[] #[])))),(5,I i_5),(6,I j_6)],[(1,.row 42 1 (s_4.map (nQ af)))]⟩) [0,1,5,6] [1] rfl ?_))
   rintro ⟨s_4,i_5,j_6⟩ o4 h5 hy6
   refine ab.seq (ab.seq (ab.aa ?_))
   refine Oc om (Oc om (Oc (fi sq rfl rfl (List.length_map _)) (Oc (bf rfl rfl) ?_)))
   refine ae.ai ⟨[(0,_),(1,_),(5,_),(6,_),(19,B (decide (j_6 < (s_4.length:Int))))],[(1,_)]⟩ rfl (ab.ite h5 rfl (fun _ h5=>?_) (fun _ h5=>?_))
   ·refine ab.skip (Fin.ag ⟨[(0,_),(1,_),(5,_),(6,_)],[(1,_)]⟩ rfl (Fin.then ?_))
    obtain ⟨v7,h8,h5⟩:=aN h5
    refine ab.c6 (v:=v7) (dg fun (s_9:List (dh bu)) (i_10:Int)=>⟨[(0,.b (.row 1)),(1,.b (.one (.raw (.func (.func del0) #[] #[])))),(5,I i_10),(6,I j_6)],[(1,.row 42 1 (s_9.map (nQ af)))]⟩) (fun z=>z) ?_ ?_
    ·refine ab.block (ab.seq (ab.aa ?_))
     refine Oc om (Oc om ?_)
     obtain ⟨x_11,e9,h8⟩:=aN h8
     refine Oc (eu jO (aX e9) (jL e9) rfl rfl rfl rfl) (Oc (gy (i:=(j_6:Int).toNat) (f:=0) bI rfl rfl rfl (bn (e:=(nQ af)) e9) rfl) (Oc oa ?_))
     refine ae.ai ⟨[(0,_),(1,_),(5,_),(6,_),(7,.b (.one (.tr af x_11)))],[(1,_)]⟩ rfl (ab.seq (ab.aa ?_))
     refine Oc om (Oc om ?_)
     obtain ⟨x_12,e10,h8⟩:=aN h8
     refine Oc (jz (mM e10) (mN e10) rfl rfl rfl) (Oc (cS rfl) ?_)
     refine ae.ai ⟨[(0,_),(1,_),(5,_),(6,_),(7,_),(29,B (!x_12))],[(1,_)]⟩ rfl (ab.ite h8 rfl (fun _ h8=>?_) (fun _ h8=>?_))
     ·refine ab.seq (ab.aa ?_)
      refine Oc om (Oc om (Oc om ?_))
      obtain ⟨x_13,e11,h8⟩:=aN h8
      refine Oc (eu jO (aX e11) (jL e11) rfl rfl rfl rfl) (Oc (kY (i:=(i_5:Int).toNat) bI rfl rfl rfl rfl (uO e11) (map_set _ _ _ _)) ?_)
      refine ae.ai ⟨[(0,_),(1,_),(5,_),(6,_)],[(1,.row 42 1 ((s_4.set (i_5:Int).toNat x_11).map (nQ af)))]⟩ rfl (ab.aa (Oc om (Oc (bA rfl rfl) (Oc oa ?_))))
      refine ae.nil (Fin.av ?_)
      exact Fin.join [0,1,5,6] [1] (s_4.set (i_5:Int).toNat x_11,IntKind.i64.wrap (i_5 + 1)) (Option.some.inj h8) rfl
     ·refine ab.skip (Fin.av ?_)
      exact Fin.join [0,1,5,6] [1] (s_4,i_5) (Option.some.inj h8) rfl
    ·rintro ⟨s_9,i_10⟩ hv
     subst v7
     refine ab.aa (Oc om (Oc (bA rfl rfl) (Oc oa ?_)))
     refine ae.nil ?_
     exact Fin.bZ [0,1,5,6] [1] (s_9,i_10,IntKind.i64.wrap (j_6 + 1)) (Option.some.inj h5) rfl
   ·refine ab.exit (Fin.aC ?_)
    obtain rfl:=hy6 _ (Option.some.inj h5).symm
    refine Fin.aC (Fin.aS ?_)
    exact Fin.join [0,5] [1] (s_4,i_5) rfl rfl
  ·rintro ⟨s_2,i_3⟩ hv
   subst v2
   refine ab.seq (ab.aa ?_)
   refine Oc om (Oc om ?_)
   obtain ⟨z_14,e12,h⟩:=aN h
   refine ae.clr (enc:=(nQ af)) jO rfl e12 rfl rfl rfl (by decide) rfl (ae.ai ⟨[(0,_),(5,_)],[(1,.row 42 1 (z_14.map (nQ af)))]⟩ rfl (ab.seq (ab.aa ?_)))
   refine Oc om (Oc om ?_)
   obtain ⟨x_15,e13,h⟩:=aN h
   refine Oc (lL jO e13 rfl rfl rfl rfl) (Oc oa ?_)
   refine ae.ai ⟨[(4,.b (.row 1))],[(1,.row 42 1 (x_15.map (nQ af)))]⟩ rfl (ab.ret ?_)
   obtain rfl:=Option.some.inj h
   refine Fin.ag ⟨[(4,_)],[(1,_)]⟩ rfl ?_
   exact Fin.result [.row 1] (.inl rfl) rfl (.cons (.tmp rfl) .nil) ⟨rfl,rfl⟩
def gE (F:Nat) (l0:List (dh bu)):Option (List (dh bu)) :=
 (ez F 123 l0).bind fun x_1=>some x_1
theorem nL {F:Nat} {l0:List (dh bu)} {r:(List (dh bu))} (h:gE F l0 = some r):ar Tryz.prog [] 100 [(1,.row 42 1 (l0.map (nQ af)))] [.row 1] (Is [(1,.row 42 1 (r.map (nQ af)))] (.b (.row 1))):=by
 unfold gE at h
 refine ar.intro 5 Tryz.func100 Tryz.ntmps100 rfl (by simp) fun E=>?_
 show ab _ E ⟨5,[],[1],[]⟩ _ ⟨[(0,.b (.row 1))],[(1,.row 42 1 (l0.map (nQ af)))]⟩ _
 refine ab.seq (ab.aa ?_)
 refine Oc oa (ae.ai ⟨[(0,.b (.row 1))],[(1,.row 42 1 (l0.map (nQ af)))]⟩ rfl (ab.seq (ab.aa ?_)))
 refine Oc om ?_
 obtain ⟨x_1,e1,h⟩:=aN h
 refine Oc (cz (own_a:=[(1,_)]) (iR e1) goes122 rfl ⟨rfl,trivial⟩ rfl rfl) (Oc oa ?_)
 refine ae.ai ⟨[(2,.b (.row 1))],[(1,.row 42 1 (x_1.map (nQ af)))]⟩ rfl (ab.ret ?_)
 obtain rfl:=Option.some.inj h
 refine Fin.ag ⟨[(2,_)],[(1,_)]⟩ rfl ?_
 exact Fin.result [.row 1] (.inl rfl) rfl (.cons (.tmp rfl) .nil) ⟨rfl,rfl⟩
def bc (F:Nat) (t0:jr) (n0:dh bu) (left0:dh bu) (right0:dh bu):Option (dh bu) :=
 Option.bind (jq n0) (fun nd_1=>Option.bind (jq n0) (fun nd_2=>Option.bind (jq n0) (fun nd_3=>(iW F t0.box nd_3.1.x).bind fun x_4=>Option.bind ((gE F [left0,right0]).bind fun x_6=>iter F (dg fun out_7 x_8=>if (decide (x_8 < (x_6.length:Int))) = true then ((a8 x_6 x_8).bind fun x_10=>Option.bind (jq x_10) (fun nd_11=>(iq F out_7.cover nd_11.1.cover).bind fun x_12=>some (.inl ((⟨out_7.x,out_7.priority,x_12,out_7.left,out_7.right⟩:Nod),IntKind.i64.wrap (x_8 + 1))))) else (some (.inr out_7))) ((⟨nd_1.1.x,nd_2.1.priority,x_4,left0,right0⟩:Nod),0)) (fun out_5=>some (.node (⟨out_5.x,out_5.priority,out_5.cover⟩:bu) out_5.left out_5.right)))))
theorem b6 {F:Nat} {t0:jr} {n0:dh bu} {left0:dh bu} {right0:dh bu} {r:(dh bu)} (h:bc F t0 n0 left0 right0 = some r):ar Tryz.prog [] 80 [] [.agg (bX t0),.one (.tr af n0),.one (.tr af left0),.one (.tr af right0)] (Is [] (.b (.one (.tr af r)))):=by
 unfold bc at h
 refine ar.intro 54 Tryz.func80 Tryz.ntmps80 rfl (by simp) fun E=>?_
 show ab _ E ⟨54,[],[],[]⟩ _ ⟨[(0,.b (.agg (bX t0))),(1,.b (.one (.tr af n0))),(2,.b (.one (.tr af left0))),(3,.b (.one (.tr af right0)))],[]⟩ _
 refine ab.seq (ab.aa ?_)
 refine Oc (bo (k:=101) rfl rfl) (Oc oa ?_)
 refine ae.ai ⟨[(1,.b (.one (.tr af n0))),(2,.b (.one (.tr af left0))),(3,.b (.one (.tr af right0))),(4,Pt 101 0)],[(101,.box 47 (bX t0))]⟩ rfl (ab.seq ?_)
 obtain ⟨nd_1,e1,h⟩:=aN h
 obtain ⟨nd_2,e2,h⟩:=aN h
 obtain ⟨nd_3,e3,h⟩:=aN h
 obtain ⟨x_4,e4,h⟩:=aN h
 refine ab.bD mixed 18 [.b (.one (.tr af n0)),.b (.aO (ax nd_1.1.x ++ (.int .u64 nd_1.1.priority :: (ao nd_1.1.cover ++ ([.tr af nd_1.2.1,.tr af nd_1.2.2]))))),.b (.aO (ax nd_1.1.x ++ (.int .u64 nd_1.1.priority :: (ao nd_1.1.cover ++ ([.tr af nd_1.2.1,.tr af nd_1.2.2]))))),.b (.agg (ax nd_1.1.x)),.b (.one (.tr af n0)),.b (.aO (ax nd_2.1.x ++ (.int .u64 nd_2.1.priority :: (ao nd_2.1.cover ++ ([.tr af nd_2.2.1,.tr af nd_2.2.2]))))),.b (.aO (.int .u64 nd_2.1.priority :: (ao nd_2.1.cover ++ ([.tr af nd_2.2.1,.tr af nd_2.2.2])))),.b (.one (.int .u64 nd_2.1.priority)),Pt 101 3,.b (.one (.cZ t0.box)),.b (.one (.tr af n0)),.b (.aO (ax nd_3.1.x ++ (.int .u64 nd_3.1.priority :: (ao nd_3.1.cover ++ ([.tr af nd_3.2.1,.tr af nd_3.2.2]))))),.b (.aO (ax nd_3.1.x ++ (.int .u64 nd_3.1.priority :: (ao nd_3.1.cover ++ ([.tr af nd_3.2.1,.tr af nd_3.2.2]))))),.b (.agg (ax nd_3.1.x)),.b (.agg (ao x_4)),.b (.one (.tr af left0)),.b (.one (.tr af right0)),.b (.agg (ax nd_1.1.x ++ (.int .u64 nd_2.1.priority :: (ao x_4 ++ ([.tr af left0,.tr af right0])))))] [2,3,9] [102] (s':=⟨[(2,_),(3,_),(9,Pt 102 0)],[(102,.box 117 (ax nd_1.1.x ++ (.int .u64 nd_2.1.priority :: (ao x_4 ++ ([.tr af left0,.tr af right0])))))]⟩) rfl ⟨fun _=>.p om,fun _=>.p (aJ e1 rfl rfl),fun _=>by exact .p (az eW rfl rfl),fun _=>.p (bm bC rfl rfl rfl),fun _=>.p om,fun _=>.p (aJ e2 rfl rfl),fun _=>by exact .p (az l8 rfl rfl),fun _=>.p (ay qD rfl rfl),fun _=>.p (an ug rfl rfl),fun _=>.p (aF tyOne45 rfl rfl rfl),fun _=>.p om,fun _=>.p (aJ e3 rfl rfl),fun _=>by exact .p (az eW rfl rfl),fun _=>.p (bm bC rfl rfl rfl),fun _=>.p (lq (tk e4) (tm e4) (wj e4) rfl rfl rfl),fun _=>.p om,fun _=>.p om,fun _=>.p (bR pg rfl rfl),trivial⟩ ⟨_,by exact .p (bo (k:=102) rfl rfl),⟨_,by exact .p oa,rfl⟩⟩ rfl ?_
 obtain ⟨v5,h6,h⟩:=aN h
 refine ab.c6 (v:=v5) (fun (out_5:Nod)=>⟨[(9,Pt 102 0)],[(102,.box 117 (eNod out_5))]⟩) (fun z=>z) ?_ ?_
 ·refine ab.seq (ab.aa ?_)
  refine Oc om (Oc om (Oc (bp (k:=103) (es:=[left0,right0].map (nQ af)) jO rfl rfl (bM fun _=>rfl) rfl (by decide) (by decide) rfl) ?_))
  obtain ⟨x_6,e7,h6⟩:=aN h6
  refine Oc (cz (own_a:=[(103,_)]) ((nL e7).sw 1 103) goes100 rfl ⟨rfl,trivial⟩ rfl rfl) (Oc (fi sq rfl rfl (List.length_map _)) (Oc om ?_))
  refine ae.ai ⟨[(9,_),(34,.b (.row 103)),(35,I (x_6.length:Int)),(36,I 0)],[(102,_),(103,.row 42 1 (x_6.map (nQ af)))]⟩ rfl (ab.block (ab.c5 h6 (dg fun (out_7:Nod) (x_8:Int)=>⟨[(9,Pt 102 0),(34,.b (.row 103)),(35,I (x_6.length:Int)),(36,I x_8)],[(102,.box 117 (eNod out_7)),(103,.row 42 1 (x_6.map (nQ af)))]⟩) [9,34,35,36] [102,103] rfl ?_))
  rintro ⟨out_7,x_8⟩ o8 h9 hy10
  refine ab.seq (ab.aa ?_)
  refine Oc (bf rfl rfl) (ae.ai ⟨[(9,_),(34,_),(35,_),(36,_),(37,B (decide (x_8 < (x_6.length:Int))))],[(102,_),(103,_)]⟩ rfl (ab.seq (ab.ite h9 rfl (fun _ h9=>?_) (fun _ h9=>?_))))
  ·refine ab.skip (Fin.ag ⟨[(9,_),(34,_),(35,_),(36,_)],[(102,_),(103,_)]⟩ rfl (Fin.then (ab.seq (ab.block (ab.seq (ab.aa ?_))))))
   obtain ⟨x_10,e11,h9⟩:=aN h9
   refine Oc (eu jO (aX e11) (jL e11) rfl rfl rfl rfl) (Oc (gy (i:=(x_8:Int).toNat) (f:=0) bI rfl rfl rfl (bn (e:=(nQ af)) e11) rfl) (Oc oa ?_))
   refine ae.ai ⟨[(9,_),(11,.b (.one (.tr af x_10))),(34,_),(35,_),(36,_)],[(102,_),(103,_)]⟩ rfl ?_
   obtain ⟨nd_11,e12,h9⟩:=aN h9
   obtain ⟨x_12,e13,h9⟩:=aN h9
   refine ab.jt mixed 12 [Pt 102 0,Pt 102 0,Pt 102 0,Pt 102 8,.b (.agg (ao out_7.cover)),.b (.one (.tr af x_10)),.b (.aO (ax nd_11.1.x ++ (.int .u64 nd_11.1.priority :: (ao nd_11.1.cover ++ ([.tr af nd_11.2.1,.tr af nd_11.2.2]))))),.b (.aO (ao nd_11.1.cover ++ ([.tr af nd_11.2.1,.tr af nd_11.2.2]))),.b (.agg (ao nd_11.1.cover)),.b (.agg (ao x_12)),Pt 102 0,Pt 102 8] [9,34,35,36] [102,103] (s':=⟨[(9,_),(34,_),(35,_),(36,_)],[(102,.box 117 (ax out_7.x ++ (.int .u64 out_7.priority :: (ao x_12 ++ ([.tr af out_7.left,.tr af out_7.right]))))),(103,_)]⟩) rfl ⟨fun _=>.p om,fun _=>.p om,fun _=>.p (lM rfl),fun _=>.p (an jU rfl rfl),fun _=>.p (lp aB),fun _=>.p om,fun _=>.p (aJ e12 rfl rfl),fun _=>by exact .p (az jU rfl rfl),fun _=>.p (bm aB rfl rfl rfl),fun _=>.p (ak (kq e13) vi rfl rfl),fun _=>.p (lM rfl),fun _=>.p (an jU rfl rfl),trivial⟩ ⟨_,by exact .p (aA aB rfl rfl rfl rfl (Nat.le_of_ble_eq_true rfl) rfl),rfl⟩ rfl (Fin.av (Fin.ag ⟨[(9,_),(34,_),(35,_),(36,_)],[(102,_),(103,_)]⟩ rfl (Fin.then (ab.aa ?_))))
   refine Oc (bA rfl rfl) (Oc om ?_)
   refine ae.nil ?_
   exact Fin.bZ [9,34,35,36] [102,103] ((⟨out_7.x,out_7.priority,x_12,out_7.left,out_7.right⟩:Nod),IntKind.i64.wrap (x_8 + 1)) (Option.some.inj h9) rfl
  ·refine ab.exit (Fin.aC ?_)
   obtain rfl:=hy10 _ (Option.some.inj h9).symm
   refine Fin.aC (Fin.aS ?_)
   exact Fin.join [9] [102] out_7 rfl rfl
 ·rintro out_5 hv
  subst v5
  refine ab.seq (ab.aa ?_)
  refine Oc om (Oc oa ?_)
  refine ae.ai ⟨[(8,Pt 102 0)],[(102,_)]⟩ rfl (ab.ret ?_)
  obtain rfl:=Option.some.inj h
  refine Fin.ag ⟨[(8,_)],[(102,_)]⟩ rfl (Fin.gK 102 rfl (Fin.toTr (enc:=af) 8 (⟨out_5.x,out_5.priority,out_5.cover⟩:bu) out_5.left out_5.right rfl rfl (Fin.aw [.one (.tr af (.node (⟨out_5.x,out_5.priority,out_5.cover⟩:bu) out_5.left out_5.right))] (.inl rfl) rfl (.cons (.tmp rfl) .nil) ⟨rfl,rfl⟩)))
def b4 (F:Nat):Nat → jr → (dh bu) → entry → Option ((dh bu) × (dh bu))
 | 0,_,_,_=>none
 | n + 1,t0,n0,x0=>if n0.dC = true then (some (.leaf,.leaf)) else (Option.bind (jq n0) (fun nd_1=>(gj F t0.compare nd_1.1.x x0).bind fun x_2=>if (decide (x_2 < 0)) = true then (Option.bind (jq n0) (fun nd_3=>Option.bind (b4 F n t0 nd_3.2.2 x0) (dg fun x_4 x_5=>Option.bind (jq n0) (fun nd_6=>(bc F t0 n0 nd_6.2.1 x_4).bind fun x_7=>some (x_7,x_5))))) else (Option.bind (jq n0) (fun nd_8=>Option.bind (b4 F n t0 nd_8.2.1 x0) (dg fun x_9 x_10=>Option.bind (jq n0) (fun nd_11=>(bc F t0 n0 x_10 nd_11.2.2).bind fun x_12=>some (x_9,x_12)))))))
def fL (F:Nat) (t0:jr) (n0:dh bu) (x0:entry):Option ((dh bu) × (dh bu)):=b4 F F t0 n0 x0
theorem kj {F:Nat}:∀ (n:Nat) {t0:jr} {n0:dh bu} {x0:entry} {r:(dh bu) × (dh bu)} (h:b4 F n t0 n0 x0 = some r),ar Tryz.prog [] 79 [] [.agg (bX t0),.one (.tr af n0),.agg (ax x0)] (Is [] (.dL [.one (.tr af r.1),.one (.tr af r.2)])):=by
 intro n
 induction n with
 | zero=>intro t0 n0 x0 r h; simp [b4] at h
 | succ n ih=>
 intro t0 n0 x0 r h
 unfold b4 at h
 refine ar.intro 61 Tryz.func79 Tryz.ntmps79 rfl (by simp) fun E=>?_
 show ab _ E ⟨61,[],[],[]⟩ _ ⟨[(0,.b (.agg (bX t0))),(1,.b (.one (.tr af n0))),(2,.b (.agg (ax x0)))],[]⟩ _
 refine ab.seq (ab.aa ?_)
 refine Oc (bo (k:=101) rfl rfl) (Oc (bo (k:=102) rfl rfl) (Oc oa (Oc oa ?_)))
 refine ae.ai ⟨[(1,.b (.one (.tr af n0))),(3,Pt 101 0),(5,Pt 102 0)],[(101,.box 47 (bX t0)),(102,.box 87 (ax x0))]⟩ rfl (ab.seq (ab.seq (ab.aa ?_)))
 refine Oc om (Oc (fT lU rfl) ?_)
 refine ae.ai ⟨[(1,_),(3,_),(5,_),(13,B n0.dC)],[(101,_),(102,_)]⟩ rfl (ab.ite h rfl (fun _ h=>?_) (fun _ h=>?_))
 ·refine ab.seq (ab.aa ?_)
  refine Oc oa (Oc oa ?_)
  refine ae.ai ⟨[(6,.b (.one (.tr af (.leaf)))),(7,.b (.one (.tr af (.leaf))))],[]⟩ rfl (ab.ret (Fin.au ?_))
  obtain rfl:=Option.some.inj h
  refine Fin.ag ⟨[(6,_),(7,_)],[]⟩ rfl (Fin.aw [.one (.tr af (.leaf)),.one (.tr af (.leaf))] (.inl rfl) rfl (.cons (.tmp rfl) (.cons (.tmp rfl) .nil)) ⟨rfl,rfl⟩)
 ·refine ab.skip (Fin.ag ⟨[(1,_),(3,_),(5,_)],[(101,_),(102,_)]⟩ rfl (Fin.then (ab.seq (ab.seq ?_))))
  refine ab.ag ⟨[(1,_),(3,_),(5,_)],[(101,_),(102,_)]⟩ rfl ?_
  obtain ⟨nd_1,e1,h⟩:=aN h
  obtain ⟨x_2,e2,h⟩:=aN h
  refine ab.bD mixed 9 [Pt 101 1,.b (.one (.cZ t0.compare)),.b (.one (.tr af n0)),.b (.aO (ax nd_1.1.x ++ (.int .u64 nd_1.1.priority :: (ao nd_1.1.cover ++ ([.tr af nd_1.2.1,.tr af nd_1.2.2]))))),.b (.aO (ax nd_1.1.x ++ (.int .u64 nd_1.1.priority :: (ao nd_1.1.cover ++ ([.tr af nd_1.2.1,.tr af nd_1.2.2]))))),.b (.agg (ax nd_1.1.x)),.b (.agg (ax x0)),I x_2,B (decide (x_2 < 0))] [1,3,5,22] [101,102] (s':=⟨[(1,_),(3,_),(5,_),(22,B (decide (x_2 < 0)))],[(101,_),(102,_)]⟩) rfl ⟨fun _=>.p (an p5 rfl rfl),fun _=>.p (aF tE rfl rfl rfl),fun _=>.p om,fun _=>.p (aJ e1 rfl rfl),fun _=>by exact .p (az eW rfl rfl),fun _=>.p (bm bC rfl rfl rfl),fun _=>.p (lp bC),fun _=>.p (lq (pB e2) (pC e2) (rT e2) rfl rfl rfl),fun _=>.p (bf rfl rfl),trivial⟩ rfl rfl (ab.ite h rfl (fun _ h=>?_) (fun _ h=>?_))
  ·refine ab.seq (ab.ag ⟨[(1,_),(3,_),(5,_)],[(101,_),(102,_)]⟩ rfl ?_)
   obtain ⟨nd_3,e3,h⟩:=aN h
   obtain ⟨⟨x_4,x_5⟩,e4,h⟩:=aN h
   refine ab.bD mixed 12 [.b (.agg (bX t0)),.b (.one (.tr af n0)),.b (.aO (ax nd_3.1.x ++ (.int .u64 nd_3.1.priority :: (ao nd_3.1.cover ++ ([.tr af nd_3.2.1,.tr af nd_3.2.2]))))),.b (.aO [.tr af nd_3.2.2]),.b (.one (.tr af nd_3.2.2)),.b (.agg (ax x0)),.dL [.one (.tr af x_4),.one (.tr af x_5)],.dL [.one (.tr af x_4),.one (.tr af x_5)],.b (.one (.tr af x_4)),.b (.one (.tr af x_5)),.b (.one (.tr af x_4)),.b (.one (.tr af x_5))] [1,3,8,9] [101] (s':=⟨[(1,_),(3,_),(8,.b (.one (.tr af x_4))),(9,.b (.one (.tr af x_5)))],[(101,_)]⟩) rfl ⟨fun _=>.p (lp bQ),fun _=>.p om,fun _=>.p (aJ e3 rfl rfl),fun _=>by exact .p (az eo rfl rfl),fun _=>.p (ay bI rfl rfl),fun _=>.p (lp bC),fun _=>.p (ak (ih e4) sH rfl rfl),fun _=>.p om,fun _=>.p (aq rfl rfl),fun _=>.p (aq rfl rfl),fun _=>.p oa,fun _=>.p oa,trivial⟩ rfl rfl (ab.seq (ab.ag ⟨[(1,_),(3,_),(8,_),(9,_)],[(101,_)]⟩ rfl ?_))
   obtain ⟨nd_6,e5,h⟩:=aN h
   obtain ⟨x_7,e6,h⟩:=aN h
   refine ab.bD mixed 11 [.b (.agg (bX t0)),.b (.one (.tr af n0)),.b (.one (.tr af n0)),.b (.aO (ax nd_6.1.x ++ (.int .u64 nd_6.1.priority :: (ao nd_6.1.cover ++ ([.tr af nd_6.2.1,.tr af nd_6.2.2]))))),.b (.aO [.tr af nd_6.2.1,.tr af nd_6.2.2]),.b (.one (.tr af nd_6.2.1)),.b (.one (.tr af x_4)),.b (.one (.tr af x_7)),.b (.one (.tr af x_5)),.b (.one (.tr af x_7)),.b (.one (.tr af x_5))] [6,7] [] (s':=⟨[(6,.b (.one (.tr af x_7))),(7,.b (.one (.tr af x_5)))],[]⟩) rfl ⟨fun _=>.p (lp bQ),fun _=>.p om,fun _=>.p om,fun _=>.p (aJ e5 rfl rfl),fun _=>by exact .p (az ep rfl rfl),fun _=>.p (ay bI rfl rfl),fun _=>.p om,fun _=>.p (ak (b6 e6) lZ rfl rfl),fun _=>.p om,fun _=>.p oa,fun _=>.p oa,trivial⟩ rfl rfl (ab.ret (Fin.au ?_))
   obtain rfl:=Option.some.inj h
   refine Fin.ag ⟨[(6,_),(7,_)],[]⟩ rfl (Fin.aw [.one (.tr af x_7),.one (.tr af x_5)] (.inl rfl) rfl (.cons (.tmp rfl) (.cons (.tmp rfl) .nil)) ⟨rfl,rfl⟩)
  ·refine ab.skip (Fin.ag ⟨[(1,_),(3,_),(5,_)],[(101,_),(102,_)]⟩ rfl (Fin.then (ab.seq ?_)))
   refine ab.ag ⟨[(1,_),(3,_),(5,_)],[(101,_),(102,_)]⟩ rfl ?_
   obtain ⟨nd_8,e7,h⟩:=aN h
   obtain ⟨⟨x_9,x_10⟩,e8,h⟩:=aN h
   refine ab.bD mixed 12 [.b (.agg (bX t0)),.b (.one (.tr af n0)),.b (.aO (ax nd_8.1.x ++ (.int .u64 nd_8.1.priority :: (ao nd_8.1.cover ++ ([.tr af nd_8.2.1,.tr af nd_8.2.2]))))),.b (.aO [.tr af nd_8.2.1,.tr af nd_8.2.2]),.b (.one (.tr af nd_8.2.1)),.b (.agg (ax x0)),.dL [.one (.tr af x_9),.one (.tr af x_10)],.dL [.one (.tr af x_9),.one (.tr af x_10)],.b (.one (.tr af x_9)),.b (.one (.tr af x_10)),.b (.one (.tr af x_9)),.b (.one (.tr af x_10))] [1,3,10,11] [101] (s':=⟨[(1,_),(3,_),(10,.b (.one (.tr af x_9))),(11,.b (.one (.tr af x_10)))],[(101,_)]⟩) rfl ⟨fun _=>.p (lp bQ),fun _=>.p om,fun _=>.p (aJ e7 rfl rfl),fun _=>by exact .p (az ep rfl rfl),fun _=>.p (ay bI rfl rfl),fun _=>.p (lp bC),fun _=>.p (ak (ih e8) sH rfl rfl),fun _=>.p om,fun _=>.p (aq rfl rfl),fun _=>.p (aq rfl rfl),fun _=>.p oa,fun _=>.p oa,trivial⟩ rfl rfl (ab.seq (ab.ag ⟨[(1,_),(3,_),(10,_),(11,_)],[(101,_)]⟩ rfl ?_))
   obtain ⟨nd_11,e9,h⟩:=aN h
   obtain ⟨x_12,e10,h⟩:=aN h
   refine ab.bD mixed 11 [.b (.one (.tr af x_9)),.b (.agg (bX t0)),.b (.one (.tr af n0)),.b (.one (.tr af x_10)),.b (.one (.tr af n0)),.b (.aO (ax nd_11.1.x ++ (.int .u64 nd_11.1.priority :: (ao nd_11.1.cover ++ ([.tr af nd_11.2.1,.tr af nd_11.2.2]))))),.b (.aO [.tr af nd_11.2.2]),.b (.one (.tr af nd_11.2.2)),.b (.one (.tr af x_12)),.b (.one (.tr af x_9)),.b (.one (.tr af x_12))] [6,7] [] (s':=⟨[(6,.b (.one (.tr af x_9))),(7,.b (.one (.tr af x_12)))],[]⟩) rfl ⟨fun _=>.p om,fun _=>.p (lp bQ),fun _=>.p om,fun _=>.p om,fun _=>.p om,fun _=>.p (aJ e9 rfl rfl),fun _=>by exact .p (az eo rfl rfl),fun _=>.p (ay bI rfl rfl),fun _=>.p (ak (b6 e10) lZ rfl rfl),fun _=>.p oa,fun _=>.p oa,trivial⟩ rfl rfl (ab.ret ?_)
   obtain rfl:=Option.some.inj h
   refine Fin.ag ⟨[(6,_),(7,_)],[]⟩ rfl (Fin.aw [.one (.tr af x_9),.one (.tr af x_12)] (.inl rfl) rfl (.cons (.tmp rfl) (.cons (.tmp rfl) .nil)) ⟨rfl,rfl⟩)
theorem kD {F:Nat} {t0:jr} {n0:dh bu} {x0:entry} {r:(dh bu) × (dh bu)} (h:fL F t0 n0 x0 = some r):ar Tryz.prog [] 79 [] [.agg (bX t0),.one (.tr af n0),.agg (ax x0)] (Is [] (.dL [.one (.tr af r.1),.one (.tr af r.2)])):=kj F h
def fU (F:Nat) (x0:Int):Option Int :=
 fE (IntKind.u64.wrap ((pM .u64 x0 (x0 / 1073741824)) * 13787848793156543929)) fun x_1=>fE (IntKind.u64.wrap ((pM .u64 x_1 (x_1 / 134217728)) * 10723151780598845931)) fun x_2=>some (pM .u64 x_2 (x_2 / 2147483648))
theorem pH {F:Nat} {x0:Int} {r:Int} (h:fU F x0 = some r):ar Tryz.prog [] 81 [] [.one (.int .u64 x0)] (Is [] (.b (.one (.int .u64 r)))):=by
 unfold fU at h
 refine ar.intro 19 Tryz.func81 Tryz.ntmps81 rfl (by simp) fun E=>?_
 show ab _ E ⟨19,[],[],[]⟩ _ ⟨[(0,.b (.one (.int .u64 x0)))],[]⟩ _
 refine ab.seq (ab.aa ?_)
 refine Oc oa (ae.ai ⟨[(0,.b (.one (.int .u64 x0)))],[]⟩ rfl (ab.seq (ab.aa ?_)))
 refine Oc om (Oc om (Oc (jQ (m:=30) (by decide) rfl rfl rfl) (Oc (sy rfl rfl) (Oc oa ?_))))
 refine ae.ai ⟨[(0,.b (.one (.int .u64 (pM .u64 x0 (x0 / 1073741824)))))],[]⟩ rfl (ab.seq (ab.aa ?_))
 refine Oc om (ae.ra .u64 h rfl (uW rfl rfl) (fun x_1 h=>?_))
 refine Oc oa (ae.ai ⟨[(0,.b (.one (.int .u64 x_1)))],[]⟩ rfl (ab.seq (ab.aa ?_)))
 refine Oc om (Oc om (Oc (jQ (m:=27) (by decide) rfl rfl rfl) (Oc (sy rfl rfl) (Oc oa ?_))))
 refine ae.ai ⟨[(0,.b (.one (.int .u64 (pM .u64 x_1 (x_1 / 134217728)))))],[]⟩ rfl (ab.seq (ab.aa ?_))
 refine Oc om (ae.ra .u64 h rfl (uW rfl rfl) (fun x_2 h=>?_))
 refine Oc oa (ae.ai ⟨[(0,.b (.one (.int .u64 x_2)))],[]⟩ rfl (ab.seq (ab.aa ?_)))
 refine Oc om (Oc om (Oc (jQ (m:=31) (by decide) rfl rfl rfl) (Oc (sy rfl rfl) (Oc oa ?_))))
 refine ae.ai ⟨[(2,.b (.one (.int .u64 (pM .u64 x_2 (x_2 / 2147483648)))))],[]⟩ rfl (ab.ret ?_)
 obtain rfl:=Option.some.inj h
 refine Fin.ag ⟨[(2,_)],[]⟩ rfl (Fin.aw [.one (.int .u64 (pM .u64 x_2 (x_2 / 2147483648)))] (.inl rfl) rfl (.cons (.tmp rfl) .nil) ⟨rfl,rfl⟩)
def cr (F:Nat):Nat → jr → (dh bu) → (dh bu) → Option (dh bu)
 | 0,_,_,_=>none
 | n + 1,t0,a0,b0=>if a0.dC = true then (some b0) else (if b0.dC = true then (some a0) else (Option.bind (jq a0) (fun nd_1=>Option.bind (jq b0) (fun nd_2=>if (decide (nd_2.1.priority < nd_1.1.priority)) = true then (Option.bind (jq a0) (fun nd_3=>Option.bind (jq a0) (fun nd_4=>(cr F n t0 nd_4.2.2 b0).bind fun x_5=>(bc F t0 a0 nd_3.2.1 x_5).bind fun x_6=>some x_6))) else (Option.bind (jq b0) (fun nd_7=>(cr F n t0 a0 nd_7.2.1).bind fun x_8=>Option.bind (jq b0) (fun nd_9=>(bc F t0 b0 x_8 nd_9.2.2).bind fun x_10=>some x_10)))))))
def cL (F:Nat) (t0:jr) (a0:dh bu) (b0:dh bu):Option (dh bu):=cr F F t0 a0 b0
theorem kE {F:Nat}:∀ (n:Nat) {t0:jr} {a0:dh bu} {b0:dh bu} {r:(dh bu)} (h:cr F n t0 a0 b0 = some r),ar Tryz.prog [] 82 [] [.agg (bX t0),.one (.tr af a0),.one (.tr af b0)] (Is [] (.b (.one (.tr af r)))):=by
 intro n
 induction n with
 | zero=>intro t0 a0 b0 r h; simp [cr] at h
 | succ n ih=>
 intro t0 a0 b0 r h
 unfold cr at h
 refine ar.intro 53 Tryz.func82 Tryz.ntmps82 rfl (by simp) fun E=>?_
 show ab _ E ⟨53,[],[],[]⟩ _ ⟨[(0,.b (.agg (bX t0))),(1,.b (.one (.tr af a0))),(2,.b (.one (.tr af b0)))],[]⟩ _
 refine ab.seq (ab.aa ?_)
 refine Oc (bo (k:=101) rfl rfl) (Oc oa ?_)
 refine ae.ai ⟨[(1,.b (.one (.tr af a0))),(2,.b (.one (.tr af b0))),(3,Pt 101 0)],[(101,.box 47 (bX t0))]⟩ rfl (ab.seq (ab.block (ab.seq (ab.aa ?_))))
 refine Oc om (Oc (fT lU rfl) (Oc oa ?_))
 refine ae.ai ⟨[(1,_),(2,_),(3,_),(7,B a0.dC)],[(101,_)]⟩ rfl (ab.ite h rfl (fun _ h=>?_) (fun _ h=>?_))
 ·refine ab.seq (ab.aa ?_)
  refine Oc om (Oc oa ?_)
  refine ae.ai ⟨[(6,.b (.one (.tr af b0)))],[]⟩ rfl (ab.ret (Fin.aP (Fin.au ?_)))
  obtain rfl:=Option.some.inj h
  refine Fin.ag ⟨[(6,_)],[]⟩ rfl (Fin.aw [.one (.tr af b0)] (.inl rfl) rfl (.cons (.tmp rfl) .nil) ⟨rfl,rfl⟩)
 ·refine ab.seq (ab.aa ?_)
  refine Oc om (Oc (fT lU rfl) (Oc oa ?_))
  refine ae.ai ⟨[(1,_),(2,_),(3,_),(11,B b0.dC)],[(101,_)]⟩ rfl (ab.ite h rfl (fun _ h=>?_) (fun _ h=>?_))
  ·refine ab.seq (ab.aa ?_)
   refine Oc om (Oc oa ?_)
   refine ae.ai ⟨[(6,.b (.one (.tr af a0)))],[]⟩ rfl (ab.ret (Fin.aP (Fin.au ?_)))
   obtain rfl:=Option.some.inj h
   refine Fin.ag ⟨[(6,_)],[]⟩ rfl (Fin.aw [.one (.tr af a0)] (.inl rfl) rfl (.cons (.tmp rfl) .nil) ⟨rfl,rfl⟩)
  ·refine ab.seq (ab.ag ⟨[(1,_),(2,_),(3,_)],[(101,_)]⟩ rfl ?_)
   obtain ⟨nd_1,e1,h⟩:=aN h
   obtain ⟨nd_2,e2,h⟩:=aN h
   refine ab.bD mixed 10 [.b (.one (.tr af a0)),.b (.aO (ax nd_1.1.x ++ (.int .u64 nd_1.1.priority :: (ao nd_1.1.cover ++ ([.tr af nd_1.2.1,.tr af nd_1.2.2]))))),.b (.aO (.int .u64 nd_1.1.priority :: (ao nd_1.1.cover ++ ([.tr af nd_1.2.1,.tr af nd_1.2.2])))),.b (.one (.int .u64 nd_1.1.priority)),.b (.one (.tr af b0)),.b (.aO (ax nd_2.1.x ++ (.int .u64 nd_2.1.priority :: (ao nd_2.1.cover ++ ([.tr af nd_2.2.1,.tr af nd_2.2.2]))))),.b (.aO (.int .u64 nd_2.1.priority :: (ao nd_2.1.cover ++ ([.tr af nd_2.2.1,.tr af nd_2.2.2])))),.b (.one (.int .u64 nd_2.1.priority)),B (decide (nd_2.1.priority < nd_1.1.priority)),B (decide (nd_2.1.priority < nd_1.1.priority))] [1,2,3,15] [101] (s':=⟨[(1,_),(2,_),(3,_),(15,B (decide (nd_2.1.priority < nd_1.1.priority)))],[(101,_)]⟩) rfl ⟨fun _=>.p om,fun _=>.p (aJ e1 rfl rfl),fun _=>by exact .p (az l8 rfl rfl),fun _=>.p (ay qD rfl rfl),fun _=>.p om,fun _=>.p (aJ e2 rfl rfl),fun _=>by exact .p (az l8 rfl rfl),fun _=>.p (ay qD rfl rfl),fun _=>.p (iD rfl rfl),fun _=>.p oa,trivial⟩ rfl rfl (ab.ite h rfl (fun _ h=>?_) (fun _ h=>?_))
   ·refine ab.seq (ab.ag ⟨[(1,_),(2,_),(3,_)],[(101,_)]⟩ rfl ?_)
    obtain ⟨nd_3,e3,h⟩:=aN h
    obtain ⟨nd_4,e4,h⟩:=aN h
    obtain ⟨x_5,e5,h⟩:=aN h
    obtain ⟨x_6,e6,h⟩:=aN h
    refine ab.bD mixed 15 [.b (.agg (bX t0)),.b (.one (.tr af a0)),.b (.one (.tr af a0)),.b (.aO (ax nd_3.1.x ++ (.int .u64 nd_3.1.priority :: (ao nd_3.1.cover ++ ([.tr af nd_3.2.1,.tr af nd_3.2.2]))))),.b (.aO [.tr af nd_3.2.1,.tr af nd_3.2.2]),.b (.one (.tr af nd_3.2.1)),.b (.agg (bX t0)),.b (.one (.tr af a0)),.b (.aO (ax nd_4.1.x ++ (.int .u64 nd_4.1.priority :: (ao nd_4.1.cover ++ ([.tr af nd_4.2.1,.tr af nd_4.2.2]))))),.b (.aO [.tr af nd_4.2.2]),.b (.one (.tr af nd_4.2.2)),.b (.one (.tr af b0)),.b (.one (.tr af x_5)),.b (.one (.tr af x_6)),.b (.one (.tr af x_6))] [6] [] (s':=⟨[(6,.b (.one (.tr af x_6)))],[]⟩) rfl ⟨fun _=>.p (lp bQ),fun _=>.p om,fun _=>.p om,fun _=>.p (aJ e3 rfl rfl),fun _=>by exact .p (az ep rfl rfl),fun _=>.p (ay bI rfl rfl),fun _=>.p (lp bQ),fun _=>.p om,fun _=>.p (aJ e4 rfl rfl),fun _=>by exact .p (az eo rfl rfl),fun _=>.p (ay bI rfl rfl),fun _=>.p om,fun _=>.p (ak (ih e5) oL rfl rfl),fun _=>.p (ak (b6 e6) lZ rfl rfl),fun _=>.p oa,trivial⟩ rfl rfl (ab.ret (Fin.aP (Fin.au ?_)))
    obtain rfl:=Option.some.inj h
    refine Fin.ag ⟨[(6,_)],[]⟩ rfl (Fin.aw [.one (.tr af x_6)] (.inl rfl) rfl (.cons (.tmp rfl) .nil) ⟨rfl,rfl⟩)
   ·refine ab.skip (Fin.av (Fin.ag ⟨[(1,_),(2,_),(3,_)],[(101,_)]⟩ rfl (Fin.then (ab.seq ?_))))
    refine ab.ag ⟨[(1,_),(2,_),(3,_)],[(101,_)]⟩ rfl ?_
    obtain ⟨nd_7,e7,h⟩:=aN h
    obtain ⟨x_8,e8,h⟩:=aN h
    obtain ⟨nd_9,e9,h⟩:=aN h
    obtain ⟨x_10,e10,h⟩:=aN h
    refine ab.bD mixed 15 [.b (.agg (bX t0)),.b (.one (.tr af b0)),.b (.agg (bX t0)),.b (.one (.tr af a0)),.b (.one (.tr af b0)),.b (.aO (ax nd_7.1.x ++ (.int .u64 nd_7.1.priority :: (ao nd_7.1.cover ++ ([.tr af nd_7.2.1,.tr af nd_7.2.2]))))),.b (.aO [.tr af nd_7.2.1,.tr af nd_7.2.2]),.b (.one (.tr af nd_7.2.1)),.b (.one (.tr af x_8)),.b (.one (.tr af b0)),.b (.aO (ax nd_9.1.x ++ (.int .u64 nd_9.1.priority :: (ao nd_9.1.cover ++ ([.tr af nd_9.2.1,.tr af nd_9.2.2]))))),.b (.aO [.tr af nd_9.2.2]),.b (.one (.tr af nd_9.2.2)),.b (.one (.tr af x_10)),.b (.one (.tr af x_10))] [6] [] (s':=⟨[(6,.b (.one (.tr af x_10)))],[]⟩) rfl ⟨fun _=>.p (lp bQ),fun _=>.p om,fun _=>.p (lp bQ),fun _=>.p om,fun _=>.p om,fun _=>.p (aJ e7 rfl rfl),fun _=>by exact .p (az ep rfl rfl),fun _=>.p (ay bI rfl rfl),fun _=>.p (ak (ih e8) oL rfl rfl),fun _=>.p om,fun _=>.p (aJ e9 rfl rfl),fun _=>by exact .p (az eo rfl rfl),fun _=>.p (ay bI rfl rfl),fun _=>.p (ak (b6 e10) lZ rfl rfl),fun _=>.p oa,trivial⟩ rfl rfl (ab.ret ?_)
    obtain rfl:=Option.some.inj h
    refine Fin.ag ⟨[(6,_)],[]⟩ rfl (Fin.aw [.one (.tr af x_10)] (.inl rfl) rfl (.cons (.tmp rfl) .nil) ⟨rfl,rfl⟩)
theorem fb {F:Nat} {t0:jr} {a0:dh bu} {b0:dh bu} {r:(dh bu)} (h:cL F t0 a0 b0 = some r):ar Tryz.prog [] 82 [] [.agg (bX t0),.one (.tr af a0),.one (.tr af b0)] (Is [] (.b (.one (.tr af r)))):=kE F h
def bS (F:Nat) (t0:jr) (x0:entry):Option jr :=
 Option.bind (fL F t0 t0.root x0) (dg fun x_1 x_2=>(hZ F t0.key x0).bind fun x_3=>(fU F x_3).bind fun x_4=>(bc F t0 (.node (⟨x0,x_4,(⟨A3.zero,A3.zero⟩:b8)⟩:bu) (.leaf) (.leaf)) (.leaf) (.leaf)).bind fun x_5=>(cL F t0 x_1 x_5).bind fun x_6=>(cL F t0 x_6 x_2).bind fun x_7=>fE (⟨x_7,t0.compare,t0.key,t0.box⟩:jr) fun x_8=>some x_8)
theorem gT {F:Nat} {t0:jr} {x0:entry} {r:jr} (h:bS F t0 x0 = some r):ar Tryz.prog [] 59 [] [.agg (bX t0),.agg (ax x0)] (Is [] (.b (.agg (bX r)))):=by
 unfold bS at h
 refine ar.intro 35 Tryz.func59 Tryz.ntmps59 rfl (by simp) fun E=>?_
 show ab _ E ⟨35,[],[],[]⟩ _ ⟨[(0,.b (.agg (bX t0))),(1,.b (.agg (ax x0)))],[]⟩ _
 refine ab.seq (ab.aa ?_)
 refine Oc (bo (k:=101) rfl rfl) (Oc (bo (k:=102) rfl rfl) (Oc (aT (k:=103) ri rfl) ?_))
 refine ae.ai ⟨[(2,Pt 101 0),(3,Pt 102 0),(4,Pt 103 0)],[(101,.box 47 (bX t0)),(102,.box 87 (ax x0)),(103,.box 47 [.tr af (.leaf),.cZ 0,.cZ 0,.cZ 0])]⟩ rfl (ab.seq (ab.aa ?_))
 refine Oc (lp bQ) (Oc (an fQ rfl rfl) (Oc (aF bI rfl rfl rfl) (Oc (lp bC) ?_)))
 obtain ⟨⟨x_1,x_2⟩,e1,h⟩:=aN h
 refine Oc (ak (kD e1) sH rfl rfl) (ae.ag ⟨[(2,_),(3,_),(4,_),(13,.dL [.one (.tr af x_1),.one (.tr af x_2)])],[(101,_),(102,_),(103,_)]⟩ rfl (Oc om (Oc (aq rfl rfl) (Oc (aq rfl rfl) (Oc oa (Oc oa ?_))))))
 refine ae.ai ⟨[(2,_),(3,_),(4,_),(5,.b (.one (.tr af x_1))),(6,.b (.one (.tr af x_2)))],[(101,_),(102,_),(103,_)]⟩ rfl (ab.seq ?_)
 obtain ⟨x_3,e2,h⟩:=aN h
 obtain ⟨x_4,e3,h⟩:=aN h
 obtain ⟨x_5,e4,h⟩:=aN h
 refine ab.jP mixed [false,false,false,false,false,false,false,false,true,false,false] [.b (.agg (bX t0)),.b (.agg (ax x0)),Pt 101 2,.b (.one (.cZ t0.key)),.b (.agg (ax x0)),.b (.one (.int .u64 x_3)),.b (.one (.int .u64 x_4)),.b (.agg (ax x0 ++ (.int .u64 x_4 :: ((cW .i64) A3.zero ++ ((cW .i64) A3.zero ++ ([.tr af (.leaf),.tr af (.leaf)])))))),.b (.one (.tr af (.node (⟨x0,x_4,(⟨A3.zero,A3.zero⟩:b8)⟩:bu) (.leaf) (.leaf)))),.b (.one (.tr af x_5)),.b (.one (.tr af x_5))] [⟨[false,false,false,false,false,false,false,false,false,false,false],[(2,Pt 101 0),(3,Pt 102 0),(4,Pt 103 0),(5,.b (.one (.tr af x_1))),(6,.b (.one (.tr af x_2)))],[(101,.box 47 (bX t0)),(102,.box 87 (ax x0)),(103,.box 47 [.tr af (.leaf),.cZ 0,.cZ 0,.cZ 0])],[true,true,true,true,true,true,true,true,true,true,true],[],[9,10]⟩,⟨[false,false,false,false,false,false,false,false,true,false,false],[(2,Pt 101 0),(3,Pt 102 0),(4,Pt 103 0),(5,.b (.one (.tr af x_1))),(6,.b (.one (.tr af x_2)))],[(101,.box 47 (bX t0)),(102,.box 87 (ax x0)),(103,.box 47 [.tr af (.leaf),.cZ 0,.cZ 0,.cZ 0])],[true,true,true,true,true,true,true,true,true,true,true],[1,2,3,4,5,6,7,8],[]⟩] rfl (⟨by kernel_rfl,⟨⟨.b (.agg (bX t0)),fun _=>rfl,fun _=>.p (by exact cu bQ rfl rfl rfl rfl)⟩,⟨.b (.agg (ax x0)),fun _=>rfl,fun _=>.p (by exact cu bC rfl rfl rfl rfl)⟩,⟨Pt 101 2,fun _=>rfl,fun _=>.p (by exact an uh rfl rfl)⟩,⟨.b (.one (.cZ t0.key)),fun _=>rfl,fun _=>.p (by exact aF tyOne44 rfl rfl rfl)⟩,⟨.b (.agg (ax x0)),fun _=>rfl,fun _=>.p (by exact cu bC rfl rfl rfl rfl)⟩,⟨.b (.one (.int .u64 x_3)),fun _=>rfl,fun _=>.p (by exact lq (te e2) (tf e2) (wb e2) rfl rfl rfl)⟩,⟨.b (.one (.int .u64 x_4)),fun _=>rfl,fun _=>.p (by exact ak (pH e3) goes81 rfl rfl)⟩,⟨.b (.agg (ax x0 ++ (.int .u64 x_4 :: ((cW .i64) A3.zero ++ ((cW .i64) A3.zero ++ ([.tr af (.leaf),.tr af (.leaf)])))))),fun _=>rfl,fun _=>.p (by exact bR pg rfl rfl)⟩,⟨_,[],.b (.one (.tr af (.node (⟨x0,x_4,(⟨A3.zero,A3.zero⟩:b8)⟩:bu) (.leaf) (.leaf)))),rfl,fun _=>rfl,rfl,rfl,fun _=>.sf [101,102,103] (by exact .p (by exact op_boxT (enc:=af) (⟨x0,x_4,(⟨A3.zero,A3.zero⟩:b8)⟩:bu) (.leaf) (.leaf) rfl rfl)) (by exact rfl)⟩,trivial,trivial,trivial⟩,⟨by kernel_rfl,⟨⟨.b (.agg (bX t0)),fun _=>rfl,fun _=>.p (by exact cu bQ rfl rfl rfl rfl)⟩,trivial,trivial,trivial,trivial,trivial,trivial,trivial,trivial,⟨.b (.one (.tr af x_5)),fun _=>rfl,fun _=>.p (by exact ak (b6 e4) lZ rfl rfl)⟩,⟨.b (.one (.tr af x_5)),fun _=>rfl,fun _=>.p (by exact bH rfl)⟩,trivial⟩,trivial⟩⟩) rfl rfl rfl [2,4,5,6,7] [101,103] (s':=⟨[(2,_),(4,_),(5,_),(6,_),(7,.b (.one (.tr af x_5)))],[(101,_),(103,_)]⟩) rfl ?_
 refine ab.seq (ab.ag ⟨[(2,_),(4,_),(5,_),(6,_),(7,_)],[(101,_),(103,_)]⟩ rfl ?_)
 obtain ⟨x_6,e5,h⟩:=aN h
 obtain ⟨x_7,e6,h⟩:=aN h
 refine ab.bD mixed 8 [.b (.agg (bX t0)),.b (.agg (bX t0)),.b (.one (.tr af x_1)),.b (.one (.tr af x_5)),.b (.one (.tr af x_6)),.b (.one (.tr af x_2)),.b (.one (.tr af x_7)),Pt 101 0] [2,4] [101,103] (s':=⟨[(2,_),(4,_)],[(101,.box 47 [.tr af x_7,.cZ t0.compare,.cZ t0.key,.cZ t0.box]),(103,_)]⟩) rfl ⟨fun _=>.p (lp bQ),fun _=>.p (lp bQ),fun _=>.p om,fun _=>.p om,fun _=>.p (ak (fb e5) oL rfl rfl),fun _=>.p om,fun _=>.p (ak (fb e6) oL rfl rfl),fun _=>.p (an fQ rfl rfl),trivial⟩ ⟨_,by exact .p (eX bI rfl rfl rfl (Nat.le_of_ble_eq_true rfl) rfl),rfl⟩ rfl (ab.seq (ab.aa ?_))
 refine ae.mx bX h rfl (lp bQ) (fun x_8 h=>?_)
 refine Oc (aA bQ rfl rfl rfl rfl (Nat.le_of_ble_eq_true rfl) rfl) (ae.ai ⟨[(4,_)],[(103,.box 47 (bX x_8))]⟩ rfl (ab.ret ?_))
 obtain rfl:=Option.some.inj h
 refine Fin.ag ⟨[(4,_)],[(103,_)]⟩ rfl (Fin.aw [.agg (bX x_8)] (.inl rfl) rfl (.cons (.agg bQ rfl rfl rfl rfl) .nil) ⟨rfl,rfl⟩)
def b7 (F:Nat) (s0:b9) (id0:Int) (b0:b8):Option (b9 × Int) :=
 (cx F b0).bind fun x_1=>if (!x_1) = true then (fE (⟨(⟨.leaf,0,0,0⟩:jr),(⟨.leaf,0,0,0⟩:jr)⟩:b9) fun x_2=>some (x_2,1)) else (Option.bind (cB F s0 id0) (dg fun x_3 x_4=>if x_4 = true then (fE (⟨(⟨.leaf,0,0,0⟩:jr),(⟨.leaf,0,0,0⟩:jr)⟩:b9) fun x_5=>some (x_5,6)) else ((bS F s0.ids (⟨id0,b0⟩:entry)).bind fun x_6=>(bS F s0.boxes (⟨id0,b0⟩:entry)).bind fun x_7=>some ((⟨x_6,x_7⟩:b9),0))))
theorem c4 {F:Nat} {s0:b9} {id0:Int} {b0:b8} {r:b9 × Int} (h:b7 F s0 id0 b0 = some r):ar Tryz.prog [] 29 [] [.agg (aD s0),.one (.i id0),.agg (ao b0)] (Is [] (.dL [.agg (aD r.1),.one (.i r.2)])):=by
 unfold b7 at h
 refine ar.intro 35 Tryz.func29 Tryz.ntmps29 rfl (by simp) fun E=>?_
 show ab _ E ⟨35,[],[],[]⟩ _ ⟨[(0,.b (.agg (aD s0))),(1,I id0),(2,.b (.agg (ao b0)))],[]⟩ _
 refine ab.seq (ab.aa ?_)
 refine Oc (bo (k:=101) rfl rfl) (Oc (bo (k:=102) rfl rfl) (Oc (aT (k:=103) dO rfl) (Oc oa ?_)))
 refine ae.ai ⟨[(1,I id0),(3,Pt 101 0),(5,Pt 102 0),(6,Pt 103 0)],[(101,.box 49 (aD s0)),(102,.box 25 (ao b0)),(103,.box 49 [.tr af (.leaf),.cZ 0,.cZ 0,.cZ 0,.tr af (.leaf),.cZ 0,.cZ 0,.cZ 0])]⟩ rfl (ab.seq (ab.seq (ab.aa ?_)))
 refine Oc (lp aB) ?_
 obtain ⟨x_1,e1,h⟩:=aN h
 refine Oc (ak (dv e1) nf rfl rfl) (Oc (cS rfl) ?_)
 refine ae.ai ⟨[(1,_),(3,_),(5,_),(6,_),(13,B (!x_1))],[(101,_),(102,_),(103,_)]⟩ rfl (ab.ite h rfl (fun _ h=>?_) (fun _ h=>?_))
 ·refine ab.seq (ab.aa ?_)
  refine ae.mx aD h rfl (bR fR rfl rfl) (fun x_2 h=>?_)
  refine Oc (aA aI rfl rfl rfl rfl (Nat.le_of_ble_eq_true rfl) rfl) (Oc oa ?_)
  refine ae.ai ⟨[(6,_),(7,I 1)],[(103,.box 49 (aD x_2))]⟩ rfl (ab.ret (Fin.au ?_))
  obtain rfl:=Option.some.inj h
  refine Fin.ag ⟨[(6,_),(7,_)],[(103,_)]⟩ rfl (Fin.aw [.agg (aD x_2),.one (.i 1)] (.inl rfl) rfl (.cons (.agg aI rfl rfl rfl rfl) (.cons (.tmp rfl) .nil)) ⟨rfl,rfl⟩)
 ·refine ab.skip (Fin.ag ⟨[(1,_),(3,_),(5,_),(6,_)],[(101,_),(102,_),(103,_)]⟩ rfl (Fin.then (ab.seq (ab.seq (ab.aa ?_)))))
  refine Oc (lp aI) (Oc om ?_)
  obtain ⟨⟨x_3,x_4⟩,e2,h⟩:=aN h
  refine Oc (ak (ew e2) qv rfl rfl) (Oc om (Oc (aq rfl rfl) ?_))
  refine ae.ag ⟨[(1,_),(3,_),(5,_),(6,_),(15,.dL [.agg (ax x_3),.one (.bool x_4)]),(19,.b (.agg (ax x_3)))],[(101,_),(102,_),(103,_)]⟩ rfl (Oc (aq rfl rfl) (Oc (aT (k:=104) gl rfl) (Oc (aA bC rfl rfl rfl rfl (Nat.le_of_ble_eq_true rfl) rfl) (Oc oa ?_))))
  refine ae.ai ⟨[(1,_),(3,_),(5,_),(6,_),(9,B x_4)],[(101,_),(102,_),(103,_)]⟩ rfl (ab.seq (ab.aa ?_))
  refine Oc om (ae.ai ⟨[(1,_),(3,_),(5,_),(6,_),(21,B x_4)],[(101,_),(102,_),(103,_)]⟩ rfl (ab.ite h rfl (fun _ h=>?_) (fun _ h=>?_)))
  ·refine ab.seq (ab.aa ?_)
   refine ae.mx aD h rfl (bR fR rfl rfl) (fun x_5 h=>?_)
   refine Oc (aA aI rfl rfl rfl rfl (Nat.le_of_ble_eq_true rfl) rfl) (Oc oa ?_)
   refine ae.ai ⟨[(6,_),(7,I 6)],[(103,.box 49 (aD x_5))]⟩ rfl (ab.ret (Fin.au ?_))
   obtain rfl:=Option.some.inj h
   refine Fin.ag ⟨[(6,_),(7,_)],[(103,_)]⟩ rfl (Fin.aw [.agg (aD x_5),.one (.i 6)] (.inl rfl) rfl (.cons (.agg aI rfl rfl rfl rfl) (.cons (.tmp rfl) .nil)) ⟨rfl,rfl⟩)
  ·refine ab.skip (Fin.ag ⟨[(1,_),(3,_),(5,_),(6,_)],[(101,_),(102,_),(103,_)]⟩ rfl (Fin.then (ab.seq (ab.aa ?_))))
   refine Oc om (Oc (lp aB) (Oc (bR p6 rfl rfl) (Oc (aT (k:=105) gl rfl) (Oc (aA bC rfl rfl rfl rfl (Nat.le_of_ble_eq_true rfl) rfl) ?_))))
   refine ae.ai ⟨[(3,_),(6,_),(10,Pt 105 0)],[(101,_),(103,_),(105,.box 87 (.i id0 :: (ao b0)))]⟩ rfl (ab.seq ?_)
   obtain ⟨x_6,e3,h⟩:=aN h
   obtain ⟨x_7,e4,h⟩:=aN h
   refine ab.bD mixed 9 [Pt 101 0,.b (.agg (bX s0.ids)),.b (.agg (.i id0 :: (ao b0))),.b (.agg (bX x_6)),Pt 101 4,.b (.agg (bX s0.boxes)),.b (.agg (.i id0 :: (ao b0))),.b (.agg (bX x_7)),.b (.agg (bX x_6 ++ (bX x_7)))] [6,7] [103] (s':=⟨[(6,_),(7,I 0)],[(103,.box 49 (bX x_6 ++ (bX x_7)))]⟩) rfl ⟨fun _=>.p (an jw rfl rfl),fun _=>.p (lp bQ),fun _=>.p (lp bC),fun _=>.p (ak (gT e3) vc rfl rfl),fun _=>.p (an nk rfl rfl),fun _=>.p (lp bQ),fun _=>.p (lp bC),fun _=>.p (ak (gT e4) vc rfl rfl),fun _=>.p (bR fR rfl rfl),trivial⟩ ⟨_,by exact .p (aA aI rfl rfl rfl rfl (Nat.le_of_ble_eq_true rfl) rfl),⟨_,by exact .p oa,rfl⟩⟩ rfl (ab.ret ?_)
   obtain rfl:=Option.some.inj h
   refine Fin.ag ⟨[(6,_),(7,_)],[(103,_)]⟩ rfl (Fin.aw [.agg (bX x_6 ++ (bX x_7)),.one (.i 0)] (.inl rfl) rfl (.cons (.agg aI rfl rfl rfl rfl) (.cons (.tmp rfl) .nil)) ⟨rfl,rfl⟩)
def cg (F:Nat) (s0:b9) (b0:b8):Option (List Int) :=
 Option.bind (oD (fun t=>cD F t b0) s0.boxes.root) (fun xs_1=>Option.bind (each (fun outf0_3=>fun x_2=>(cJ F x_2.b b0).bind fun x_4=>if x_4 = true then ((ee outf0_3 [x_2.id]).bind fun x_5=>some (.inl x_5)) else (some (.inl outf0_3))) (xs_1) []) (cy (fun outf0_3=>(fA F outf0_3).bind fun x_6=>some x_6) (fun (_:Unit)=>none)))
theorem dN {F:Nat} {s0:b9} {b0:b8} {r:(List Int)} (h:cg F s0 b0 = some r):ar Tryz.prog [] 55 [] [.agg (aD s0),.agg (ao b0)] (Is [(51,.row 3 1 (r.map eI))] (.b (.row 51))):=by
 unfold cg at h
 refine ar.sF 25 Tryz.func55 Tryz.ntmps55 rfl (by simp) fun E=>?_
 show ab _ E ⟨25,[],[],[]⟩ _ ⟨[(0,.b (.agg (aD s0))),(1,.b (.agg (ao b0)))],[]⟩ _
 refine ab.seq (ab.aa ?_)
 refine Oc (mH rfl) (Oc (mH rfl) (Oc oa ?_))
 refine ae.ai ⟨[(2,.b (.aO (aD s0))),(3,.b (.aO (ao b0)))],[]⟩ rfl (ab.seq (ab.aa ?_))
 refine Oc (aT (k:=101) rh rfl) (ae.ai ⟨[(2,_),(3,_),(5,Pt 101 0)],[(101,.box 51 [.nil])]⟩ rfl (ab.seq (ab.seq (ab.aa ?_))))
 refine Oc (az nk rfl rfl) (Oc (az fQ rfl rfl) (Oc (ay bI rfl rfl) (Oc (il rfl) (Oc (ak pb sJ rfl rfl) ?_))))
 refine ae.ai ⟨[(3,_),(5,_),(11,.b (.one (.fq 77 [CP.rp [.tr af s0.boxes.root],CP.rp [.fq 74 [CP.rp (ao b0)]]])))],[(101,_)]⟩ rfl ?_
 obtain ⟨xs_1,e1,h⟩:=aN h
 refine ab.ag ⟨[(3,.b (.aO (ao b0))),(5,Pt 101 0),(11,.b (.one (.fq 77 [CP.rp [.tr af s0.boxes.root],CP.rp [.fq 74 [CP.rp (ao b0)]]])))],[(101,.box 51 [.nil])]⟩ rfl (ab.uD 101 rfl (ab.gi 101 0 104 1 3 rfl rfl (by decide) (by decide) rfl (ab.ag ⟨[(3,_),(5,_),(11,_)],[(101,.bK 51 [.row 104]),(104,.row 3 1 ([].map eI))]⟩ rfl (ab.sv _ uc _ _ (fun (outf0_3:List Int)=>[(101,.bK 51 [.row 104]),(104,.row 3 1 (outf0_3.map eI))]) (fun (_:Unit)=>([]:List (Nat × OC))) (fun (outf0_3:List Int)=>fun x_2=>⟨[(3,.b (.aO (ao b0))),(5,Pt 101 0),(6,Pt 106 0)],[(101,.bK 51 [.row 104]),(104,.row 3 1 (outf0_3.map eI)),(106,.box 87 (ax x_2))]⟩) h (pc r9 e1) sI rfl rfl rfl (fun _=>rfl) (fun _=>rfl) (fun _=>rfl) (fun _ _=>rfl) (fun _ _=>rfl) rfl (fun _=>rfl) ?_ ?_ ?_ ?_))))
 ·rintro E l outf0_3 x_2 z _ h2
  refine a6.keep [3,5,11,12] [101,104] (s':=⟨[(3,.b (.aO (ao b0))),(5,Pt 101 0),(11,.b (.one (.fq 77 [CP.rp [.tr af s0.boxes.root],CP.rp [.fq 74 [CP.rp (ao b0)]]]))),(12,.b (.agg (ax x_2)))],[(101,.bK 51 [.row 104]),(104,.row 3 1 (outf0_3.map eI))]⟩) rfl (a6.aa (.inr ⟨_,rfl⟩) (Oc (aT (k:=106) gl rfl) (Oc (aA bC rfl rfl rfl rfl (Nat.le_of_ble_eq_true rfl) rfl) ?_)))
  refine ae.nil ?_
  exact Fin.ag ⟨[(3,_),(5,_),(6,Pt 106 0)],[(101,_),(104,_),(106,.box 87 (ax x_2))]⟩ rfl (fun a w hr=>hr)
 ·rintro E l outf0_3 x_2 z _ h2
  refine a6.block (a6.seq (a6.aa (.inr ⟨_,rfl⟩) (Oc (an gw rfl rfl) (Oc (lp aB) (Oc (bm aB rfl rfl rfl) ?_)))))
  obtain ⟨x_4,e3,h2⟩:=aN h2
  refine Oc (ak (dE e3) nc rfl rfl) (ae.nil (Fin.ag ⟨[(3,.b (.aO (ao b0))),(5,Pt 101 0),(6,Pt 106 0),(16,B x_4)],[(101,.bK 51 [.row 104]),(104,.row 3 1 (outf0_3.map eI)),(106,.box 87 (ax x_2))]⟩ rfl (Fin.gZ ?_ (fun ⟨_,_,hl⟩=>hl))))
  refine a6.ite h2 rfl (fun _ h2=>?_) (fun _ h2=>?_)
  ·refine a6.aa (.inr ⟨_,rfl⟩) (Oc (er fg rfl rfl rfl) (Oc (an dR rfl rfl) (Oc (aF aK rfl rfl rfl) (Oc (bp (k:=107) (es:=[x_2.id].map eI) bL rfl rfl (bM fun _=>rfl) rfl (by decide) (by decide) rfl) ?_))))
   refine ae.forget 101 0 rfl ?_
   obtain ⟨x_5,e4,h2⟩:=aN h2
   refine Oc (cP bL (iC e4) (iB e4) rfl rfl rfl rfl (ek e4) rfl) (Oc (gQ fg rfl rfl rfl rfl (Nat.le_of_ble_eq_true rfl) rfl) ?_)
   refine ae.nil (Fin.av ?_)
   obtain rfl:=Option.some.inj h2
   exact Fin.ag ⟨[],[(101,.bK 51 [.row 104]),(104,.row 3 1 (x_5.map eI))]⟩ rfl (fun a w hr=>⟨_,rfl,hr⟩)
  ·refine a6.skip (Fin.av ?_)
   obtain rfl:=Option.some.inj h2
   exact Fin.ag ⟨[],[(101,_),(104,_)]⟩ rfl (fun a w hr=>⟨_,rfl,hr⟩)
 ·rintro E D outf0_3 h5
  refine ab.seq (ab.aa ?_)
  refine Oc (er fg rfl rfl rfl) (ae.tZ 104 rfl ?_)
  obtain ⟨x_6,e6,h5⟩:=aN h5
  refine Oc (cz (own_a:=[(104,_)]) ((nJ e6).sw 1 104) goes75 rfl ⟨rfl,trivial⟩ rfl rfl) (ae.tY 104 rfl (ae.ai ⟨[(5,Pt 101 0)],[(101,.bK 51 [.row 104]),(104,.row 3 1 (x_6.map eI))]⟩ rfl (ab.seq (ab.aa ?_))))
  refine Oc (er fg rfl rfl rfl) (Oc oa ?_)
  refine ae.ai ⟨[(4,.b (.row 104))],[(104,_)]⟩ rfl (ab.ret ?_)
  obtain rfl:=Option.some.inj h5
  refine Fin.ag ⟨[(4,.b (.row 104))],[(104,.row 3 1 (x_6.map eI))]⟩ rfl (Fin.rename 104 51 rfl (by decide) rfl (Fin.ag ⟨[(4,.b (.row 51))],[(51,.row 3 1 (x_6.map eI))]⟩ rfl ?_))
  exact Fin.result [.row 51] (.inl rfl) rfl (.cons (.tmp rfl) .nil) ⟨rfl,rfl⟩
 ·rintro E D ⟨⟩ h5
  cases h5
def cF (F:Nat) (s0:b9) (b0:b8):Option ((List Int) × Int) :=
 (cx F b0).bind fun x_1=>if (!x_1) = true then (some ([],1)) else ((cg F s0 b0).bind fun x_2=>some (x_2,0))
theorem fv (kr0:Nat) {F:Nat} {s0:b9} {b0:b8} {r:(List Int) × Int} (h:cF F s0 b0 = some r):ar Tryz.prog [] 31 [] [.agg (aD s0),.agg (ao b0)] (Is [(kr0,.row 3 1 (r.1.map eI))] (.dL [.row kr0,.one (.i r.2)])):=by
 unfold cF at h
 refine ar.intro 12 Tryz.func31 Tryz.ntmps31 rfl (by simp) fun E=>?_
 show ab _ E ⟨12,[],[],[]⟩ _ ⟨[(0,.b (.agg (aD s0))),(1,.b (.agg (ao b0)))],[]⟩ _
 refine ab.seq (ab.aa ?_)
 refine Oc (bo (k:=101) rfl rfl) (Oc (bo (k:=102) rfl rfl) (Oc oa (Oc oa ?_)))
 refine ae.ai ⟨[(2,Pt 101 0),(3,Pt 102 0)],[(101,.box 49 (aD s0)),(102,.box 25 (ao b0))]⟩ rfl (ab.seq (ab.seq (ab.aa ?_)))
 refine Oc (lp aB) ?_
 obtain ⟨x_1,e1,h⟩:=aN h
 refine Oc (ak (dv e1) nf rfl rfl) (Oc (cS rfl) ?_)
 refine ae.ai ⟨[(2,_),(3,_),(8,B (!x_1))],[(101,_),(102,_)]⟩ rfl (ab.ite h rfl (fun _ h=>?_) (fun _ h=>?_))
 ·refine ab.seq (ab.aa ?_)
  refine Oc oa (Oc oa ?_)
  refine ae.ai ⟨[(4,.b (.one (.nil))),(5,I 1)],[]⟩ rfl (ab.ret (Fin.au ?_))
  obtain rfl:=Option.some.inj h
  refine Fin.ag ⟨[(4,_),(5,_)],[]⟩ rfl (Fin.dI 4 103 1 3 rfl (by decide) rfl (Fin.eh 103 kr0 [.row 103,.one (.i 1)] (.inl rfl) rfl (.cons (.tmp rfl) (.cons (.tmp rfl) .nil)) rfl rfl rfl rfl ⟨rfl,rfl⟩))
 ·refine ab.skip (Fin.ag ⟨[(2,_),(3,_)],[(101,_),(102,_)]⟩ rfl (Fin.then (ab.seq (ab.aa ?_))))
  refine Oc (lp aI) (Oc (lp aB) ?_)
  obtain ⟨x_2,e2,h⟩:=aN h
  refine Oc (cz (own_a:=[]) ((dN e2).sw 51 104) qu rfl trivial rfl rfl) (Oc oa (Oc oa ?_))
  refine ae.ai ⟨[(4,.b (.row 104)),(5,I 0)],[(104,.row 3 1 (x_2.map eI))]⟩ rfl (ab.ret ?_)
  obtain rfl:=Option.some.inj h
  refine Fin.ag ⟨[(4,_),(5,_)],[(104,_)]⟩ rfl (Fin.eh 104 kr0 [.row 104,.one (.i 0)] (.inl rfl) rfl (.cons (.tmp rfl) (.cons (.tmp rfl) .nil)) rfl rfl rfl rfl ⟨rfl,rfl⟩)
def ct (F:Nat):Nat → jr → (dh bu) → entry → Option (dh bu)
 | 0,_,_,_=>none
 | n + 1,t0,n0,x0=>Option.bind (jq n0) (fun nd_1=>(gj F t0.compare x0 nd_1.1.x).bind fun x_2=>if (decide (x_2 < 0)) = true then (Option.bind (jq n0) (fun nd_3=>(ct F n t0 nd_3.2.1 x0).bind fun x_4=>Option.bind (jq n0) (fun nd_5=>(bc F t0 n0 x_4 nd_5.2.2).bind fun x_6=>some x_6))) else (if (decide (0 < x_2)) = true then (Option.bind (jq n0) (fun nd_7=>Option.bind (jq n0) (fun nd_8=>(ct F n t0 nd_8.2.2 x0).bind fun x_9=>(bc F t0 n0 nd_7.2.1 x_9).bind fun x_10=>some x_10))) else (Option.bind (jq n0) (fun nd_11=>Option.bind (jq n0) (fun nd_12=>(cL F t0 nd_11.2.1 nd_12.2.2).bind fun x_13=>some x_13)))))
def gu (F:Nat) (t0:jr) (n0:dh bu) (x0:entry):Option (dh bu):=ct F F t0 n0 x0
theorem kF {F:Nat}:∀ (n:Nat) {t0:jr} {n0:dh bu} {x0:entry} {r:(dh bu)} (h:ct F n t0 n0 x0 = some r),ar Tryz.prog [] 83 [] [.agg (bX t0),.one (.tr af n0),.agg (ax x0)] (Is [] (.b (.one (.tr af r)))):=by
 intro n
 induction n with
 | zero=>intro t0 n0 x0 r h; simp [ct] at h
 | succ n ih=>
 intro t0 n0 x0 r h
 unfold ct at h
 refine ar.intro 60 Tryz.func83 Tryz.ntmps83 rfl (by simp) fun E=>?_
 show ab _ E ⟨60,[],[],[]⟩ _ ⟨[(0,.b (.agg (bX t0))),(1,.b (.one (.tr af n0))),(2,.b (.agg (ax x0)))],[]⟩ _
 refine ab.seq (ab.aa ?_)
 refine Oc (bo (k:=101) rfl rfl) (Oc (bo (k:=102) rfl rfl) (Oc oa ?_))
 refine ae.ai ⟨[(1,.b (.one (.tr af n0))),(3,Pt 101 0),(5,Pt 102 0)],[(101,.box 47 (bX t0)),(102,.box 87 (ax x0))]⟩ rfl (ab.seq (ab.seq ?_))
 refine ab.ag ⟨[(1,_),(3,_),(5,_)],[(101,_),(102,_)]⟩ rfl ?_
 obtain ⟨nd_1,e1,h⟩:=aN h
 obtain ⟨x_2,e2,h⟩:=aN h
 refine ab.bD mixed 9 [Pt 101 1,.b (.one (.cZ t0.compare)),.b (.agg (ax x0)),.b (.one (.tr af n0)),.b (.aO (ax nd_1.1.x ++ (.int .u64 nd_1.1.priority :: (ao nd_1.1.cover ++ ([.tr af nd_1.2.1,.tr af nd_1.2.2]))))),.b (.aO (ax nd_1.1.x ++ (.int .u64 nd_1.1.priority :: (ao nd_1.1.cover ++ ([.tr af nd_1.2.1,.tr af nd_1.2.2]))))),.b (.agg (ax nd_1.1.x)),I x_2,I x_2] [1,3,5,7] [101,102] (s':=⟨[(1,_),(3,_),(5,_),(7,I x_2)],[(101,_),(102,_)]⟩) rfl ⟨fun _=>.p (an p5 rfl rfl),fun _=>.p (aF tE rfl rfl rfl),fun _=>.p (lp bC),fun _=>.p om,fun _=>.p (aJ e1 rfl rfl),fun _=>by exact .p (az eW rfl rfl),fun _=>.p (bm bC rfl rfl rfl),fun _=>.p (lq (pB e2) (pC e2) (rT e2) rfl rfl rfl),fun _=>.p oa,trivial⟩ rfl rfl (ab.block (ab.seq (ab.aa ?_)))
 refine Oc om (Oc (bf rfl rfl) (Oc oa ?_))
 refine ae.ai ⟨[(1,_),(3,_),(5,_),(7,_),(16,B (decide (x_2 < 0)))],[(101,_),(102,_)]⟩ rfl (ab.ite h rfl (fun _ h=>?_) (fun _ h=>?_))
 ·refine ab.seq (ab.ag ⟨[(1,_),(3,_),(5,_)],[(101,_),(102,_)]⟩ rfl ?_)
  obtain ⟨nd_3,e3,h⟩:=aN h
  obtain ⟨x_4,e4,h⟩:=aN h
  obtain ⟨nd_5,e5,h⟩:=aN h
  obtain ⟨x_6,e6,h⟩:=aN h
  refine ab.bD mixed 15 [.b (.agg (bX t0)),.b (.one (.tr af n0)),.b (.agg (bX t0)),.b (.one (.tr af n0)),.b (.aO (ax nd_3.1.x ++ (.int .u64 nd_3.1.priority :: (ao nd_3.1.cover ++ ([.tr af nd_3.2.1,.tr af nd_3.2.2]))))),.b (.aO [.tr af nd_3.2.1,.tr af nd_3.2.2]),.b (.one (.tr af nd_3.2.1)),.b (.agg (ax x0)),.b (.one (.tr af x_4)),.b (.one (.tr af n0)),.b (.aO (ax nd_5.1.x ++ (.int .u64 nd_5.1.priority :: (ao nd_5.1.cover ++ ([.tr af nd_5.2.1,.tr af nd_5.2.2]))))),.b (.aO [.tr af nd_5.2.2]),.b (.one (.tr af nd_5.2.2)),.b (.one (.tr af x_6)),.b (.one (.tr af x_6))] [6] [] (s':=⟨[(6,.b (.one (.tr af x_6)))],[]⟩) rfl ⟨fun _=>.p (lp bQ),fun _=>.p om,fun _=>.p (lp bQ),fun _=>.p om,fun _=>.p (aJ e3 rfl rfl),fun _=>by exact .p (az ep rfl rfl),fun _=>.p (ay bI rfl rfl),fun _=>.p (lp bC),fun _=>.p (ak (ih e4) sG rfl rfl),fun _=>.p om,fun _=>.p (aJ e5 rfl rfl),fun _=>by exact .p (az eo rfl rfl),fun _=>.p (ay bI rfl rfl),fun _=>.p (ak (b6 e6) lZ rfl rfl),fun _=>.p oa,trivial⟩ rfl rfl (ab.ret (Fin.aP (Fin.au ?_)))
  obtain rfl:=Option.some.inj h
  refine Fin.ag ⟨[(6,_)],[]⟩ rfl (Fin.aw [.one (.tr af x_6)] (.inl rfl) rfl (.cons (.tmp rfl) .nil) ⟨rfl,rfl⟩)
 ·refine ab.seq (ab.aa ?_)
  refine Oc om (Oc (iD rfl rfl) (Oc oa ?_))
  refine ae.ai ⟨[(1,_),(3,_),(5,_),(33,B (decide (0 < x_2)))],[(101,_),(102,_)]⟩ rfl (ab.ite h rfl (fun _ h=>?_) (fun _ h=>?_))
  ·refine ab.seq (ab.ag ⟨[(1,_),(3,_),(5,_)],[(101,_),(102,_)]⟩ rfl ?_)
   obtain ⟨nd_7,e7,h⟩:=aN h
   obtain ⟨nd_8,e8,h⟩:=aN h
   obtain ⟨x_9,e9,h⟩:=aN h
   obtain ⟨x_10,e10,h⟩:=aN h
   refine ab.bD mixed 15 [.b (.agg (bX t0)),.b (.one (.tr af n0)),.b (.one (.tr af n0)),.b (.aO (ax nd_7.1.x ++ (.int .u64 nd_7.1.priority :: (ao nd_7.1.cover ++ ([.tr af nd_7.2.1,.tr af nd_7.2.2]))))),.b (.aO [.tr af nd_7.2.1,.tr af nd_7.2.2]),.b (.one (.tr af nd_7.2.1)),.b (.agg (bX t0)),.b (.one (.tr af n0)),.b (.aO (ax nd_8.1.x ++ (.int .u64 nd_8.1.priority :: (ao nd_8.1.cover ++ ([.tr af nd_8.2.1,.tr af nd_8.2.2]))))),.b (.aO [.tr af nd_8.2.2]),.b (.one (.tr af nd_8.2.2)),.b (.agg (ax x0)),.b (.one (.tr af x_9)),.b (.one (.tr af x_10)),.b (.one (.tr af x_10))] [6] [] (s':=⟨[(6,.b (.one (.tr af x_10)))],[]⟩) rfl ⟨fun _=>.p (lp bQ),fun _=>.p om,fun _=>.p om,fun _=>.p (aJ e7 rfl rfl),fun _=>by exact .p (az ep rfl rfl),fun _=>.p (ay bI rfl rfl),fun _=>.p (lp bQ),fun _=>.p om,fun _=>.p (aJ e8 rfl rfl),fun _=>by exact .p (az eo rfl rfl),fun _=>.p (ay bI rfl rfl),fun _=>.p (lp bC),fun _=>.p (ak (ih e9) sG rfl rfl),fun _=>.p (ak (b6 e10) lZ rfl rfl),fun _=>.p oa,trivial⟩ rfl rfl (ab.ret (Fin.aP (Fin.au ?_)))
   obtain rfl:=Option.some.inj h
   refine Fin.ag ⟨[(6,_)],[]⟩ rfl (Fin.aw [.one (.tr af x_10)] (.inl rfl) rfl (.cons (.tmp rfl) .nil) ⟨rfl,rfl⟩)
  ·refine ab.skip (Fin.av (Fin.ag ⟨[(1,_),(3,_)],[(101,_)]⟩ rfl (Fin.then (ab.seq ?_))))
   refine ab.ag ⟨[(1,_),(3,_)],[(101,_)]⟩ rfl ?_
   obtain ⟨nd_11,e11,h⟩:=aN h
   obtain ⟨nd_12,e12,h⟩:=aN h
   obtain ⟨x_13,e13,h⟩:=aN h
   refine ab.bD mixed 11 [.b (.agg (bX t0)),.b (.one (.tr af n0)),.b (.aO (ax nd_11.1.x ++ (.int .u64 nd_11.1.priority :: (ao nd_11.1.cover ++ ([.tr af nd_11.2.1,.tr af nd_11.2.2]))))),.b (.aO [.tr af nd_11.2.1,.tr af nd_11.2.2]),.b (.one (.tr af nd_11.2.1)),.b (.one (.tr af n0)),.b (.aO (ax nd_12.1.x ++ (.int .u64 nd_12.1.priority :: (ao nd_12.1.cover ++ ([.tr af nd_12.2.1,.tr af nd_12.2.2]))))),.b (.aO [.tr af nd_12.2.2]),.b (.one (.tr af nd_12.2.2)),.b (.one (.tr af x_13)),.b (.one (.tr af x_13))] [6] [] (s':=⟨[(6,.b (.one (.tr af x_13)))],[]⟩) rfl ⟨fun _=>.p (lp bQ),fun _=>.p om,fun _=>.p (aJ e11 rfl rfl),fun _=>by exact .p (az ep rfl rfl),fun _=>.p (ay bI rfl rfl),fun _=>.p om,fun _=>.p (aJ e12 rfl rfl),fun _=>by exact .p (az eo rfl rfl),fun _=>.p (ay bI rfl rfl),fun _=>.p (ak (fb e13) oL rfl rfl),fun _=>.p oa,trivial⟩ rfl rfl (ab.ret ?_)
   obtain rfl:=Option.some.inj h
   refine Fin.ag ⟨[(6,_)],[]⟩ rfl (Fin.aw [.one (.tr af x_13)] (.inl rfl) rfl (.cons (.tmp rfl) .nil) ⟨rfl,rfl⟩)
theorem k9 {F:Nat} {t0:jr} {n0:dh bu} {x0:entry} {r:(dh bu)} (h:gu F t0 n0 x0 = some r):ar Tryz.prog [] 83 [] [.agg (bX t0),.one (.tr af n0),.agg (ax x0)] (Is [] (.b (.one (.tr af r)))):=kF F h
def bG (F:Nat) (t0:jr) (x0:entry):Option jr :=
 (gu F t0 t0.root x0).bind fun x_1=>fE (⟨x_1,t0.compare,t0.key,t0.box⟩:jr) fun x_2=>some x_2
theorem fX {F:Nat} {t0:jr} {x0:entry} {r:jr} (h:bG F t0 x0 = some r):ar Tryz.prog [] 60 [] [.agg (bX t0),.agg (ax x0)] (Is [] (.b (.agg (bX r)))):=by
 unfold bG at h
 refine ar.intro 12 Tryz.func60 Tryz.ntmps60 rfl (by simp) fun E=>?_
 show ab _ E ⟨12,[],[],[]⟩ _ ⟨[(0,.b (.agg (bX t0))),(1,.b (.agg (ax x0)))],[]⟩ _
 refine ab.seq (ab.aa ?_)
 refine Oc (bo (k:=101) rfl rfl) (Oc (bo (k:=102) rfl rfl) (Oc (aT (k:=103) ri rfl) ?_))
 refine ae.ai ⟨[(2,Pt 101 0),(3,Pt 102 0),(4,Pt 103 0)],[(101,.box 47 (bX t0)),(102,.box 87 (ax x0)),(103,.box 47 [.tr af (.leaf),.cZ 0,.cZ 0,.cZ 0])]⟩ rfl (ab.seq (ab.aa ?_))
 refine Oc (lp bQ) (Oc (an fQ rfl rfl) (Oc (aF bI rfl rfl rfl) (Oc (lp bC) ?_)))
 obtain ⟨x_1,e1,h⟩:=aN h
 refine Oc (ak (k9 e1) sG rfl rfl) (Oc (an fQ rfl rfl) (Oc (eX bI rfl rfl rfl (Nat.le_of_ble_eq_true rfl) rfl) ?_))
 refine ae.ai ⟨[(2,_),(4,_)],[(101,.box 47 [.tr af x_1,.cZ t0.compare,.cZ t0.key,.cZ t0.box]),(103,_)]⟩ rfl (ab.seq (ab.aa ?_))
 refine ae.mx bX h rfl (lp bQ) (fun x_2 h=>?_)
 refine Oc (aA bQ rfl rfl rfl rfl (Nat.le_of_ble_eq_true rfl) rfl) (ae.ai ⟨[(4,_)],[(103,.box 47 (bX x_2))]⟩ rfl (ab.ret ?_))
 obtain rfl:=Option.some.inj h
 refine Fin.ag ⟨[(4,_)],[(103,_)]⟩ rfl (Fin.aw [.agg (bX x_2)] (.inl rfl) rfl (.cons (.agg bQ rfl rfl rfl rfl) .nil) ⟨rfl,rfl⟩)
def b5 (F:Nat) (s0:b9) (id0:Int):Option (b9 × Int) :=
 Option.bind (cB F s0 id0) (dg fun x_1 x_2=>if (!x_2) = true then (fE (⟨(⟨.leaf,0,0,0⟩:jr),(⟨.leaf,0,0,0⟩:jr)⟩:b9) fun x_3=>some (x_3,5)) else ((bG F s0.ids x_1).bind fun x_4=>(bG F s0.boxes x_1).bind fun x_5=>some ((⟨x_4,x_5⟩:b9),0)))
theorem eO {F:Nat} {s0:b9} {id0:Int} {r:b9 × Int} (h:b5 F s0 id0 = some r):ar Tryz.prog [] 30 [] [.agg (aD s0),.one (.i id0)] (Is [] (.dL [.agg (aD r.1),.one (.i r.2)])):=by
 unfold b5 at h
 refine ar.intro 26 Tryz.func30 Tryz.ntmps30 rfl (by simp) fun E=>?_
 show ab _ E ⟨26,[],[],[]⟩ _ ⟨[(0,.b (.agg (aD s0))),(1,I id0)],[]⟩ _
 refine ab.seq (ab.aa ?_)
 refine Oc (bo (k:=101) rfl rfl) (Oc (aT (k:=102) dO rfl) (Oc oa ?_))
 refine ae.ai ⟨[(1,I id0),(2,Pt 101 0),(4,Pt 102 0)],[(101,.box 49 (aD s0)),(102,.box 49 [.tr af (.leaf),.cZ 0,.cZ 0,.cZ 0,.tr af (.leaf),.cZ 0,.cZ 0,.cZ 0])]⟩ rfl (ab.seq (ab.aa ?_))
 refine Oc (lp aI) (Oc om ?_)
 obtain ⟨⟨x_1,x_2⟩,e1,h⟩:=aN h
 refine Oc (ak (ew e1) qv rfl rfl) (Oc om (Oc (aq rfl rfl) ?_))
 refine ae.ag ⟨[(2,_),(4,_),(8,.dL [.agg (ax x_1),.one (.bool x_2)]),(12,.b (.agg (ax x_1)))],[(101,_),(102,_)]⟩ rfl (Oc (aq rfl rfl) (Oc (aT (k:=103) gl rfl) (Oc (aA bC rfl rfl rfl rfl (Nat.le_of_ble_eq_true rfl) rfl) (Oc oa ?_))))
 refine ae.ai ⟨[(2,_),(4,_),(6,Pt 103 0),(7,B x_2)],[(101,_),(102,_),(103,.box 87 (ax x_1))]⟩ rfl (ab.seq (ab.seq (ab.aa ?_)))
 refine Oc om (Oc (cS rfl) ?_)
 refine ae.ai ⟨[(2,_),(4,_),(6,_),(15,B (!x_2))],[(101,_),(102,_),(103,_)]⟩ rfl (ab.ite h rfl (fun _ h=>?_) (fun _ h=>?_))
 ·refine ab.seq (ab.aa ?_)
  refine ae.mx aD h rfl (bR fR rfl rfl) (fun x_3 h=>?_)
  refine Oc (aA aI rfl rfl rfl rfl (Nat.le_of_ble_eq_true rfl) rfl) (Oc oa ?_)
  refine ae.ai ⟨[(4,_),(5,I 5)],[(102,.box 49 (aD x_3))]⟩ rfl (ab.ret (Fin.au ?_))
  obtain rfl:=Option.some.inj h
  refine Fin.ag ⟨[(4,_),(5,_)],[(102,_)]⟩ rfl (Fin.aw [.agg (aD x_3),.one (.i 5)] (.inl rfl) rfl (.cons (.agg aI rfl rfl rfl rfl) (.cons (.tmp rfl) .nil)) ⟨rfl,rfl⟩)
 ·refine ab.skip (Fin.ag ⟨[(2,_),(4,_),(6,_)],[(101,_),(102,_),(103,_)]⟩ rfl (Fin.then (ab.seq ?_)))
  refine ab.ag ⟨[(2,_),(4,_),(6,_)],[(101,_),(102,_),(103,_)]⟩ rfl ?_
  obtain ⟨x_4,e2,h⟩:=aN h
  obtain ⟨x_5,e3,h⟩:=aN h
  refine ab.bD mixed 9 [Pt 101 0,.b (.agg (bX s0.ids)),.b (.agg (ax x_1)),.b (.agg (bX x_4)),Pt 101 4,.b (.agg (bX s0.boxes)),.b (.agg (ax x_1)),.b (.agg (bX x_5)),.b (.agg (bX x_4 ++ (bX x_5)))] [4,5] [102] (s':=⟨[(4,_),(5,I 0)],[(102,.box 49 (bX x_4 ++ (bX x_5)))]⟩) rfl ⟨fun _=>.p (an jw rfl rfl),fun _=>.p (lp bQ),fun _=>.p (lp bC),fun _=>.p (ak (fX e2) va rfl rfl),fun _=>.p (an nk rfl rfl),fun _=>.p (lp bQ),fun _=>.p (lp bC),fun _=>.p (ak (fX e3) va rfl rfl),fun _=>.p (bR fR rfl rfl),trivial⟩ ⟨_,by exact .p (aA aI rfl rfl rfl rfl (Nat.le_of_ble_eq_true rfl) rfl),⟨_,by exact .p oa,rfl⟩⟩ rfl (ab.ret ?_)
  obtain rfl:=Option.some.inj h
  refine Fin.ag ⟨[(4,_),(5,_)],[(102,_)]⟩ rfl (Fin.aw [.agg (bX x_4 ++ (bX x_5)),.one (.i 0)] (.inl rfl) rfl (.cons (.agg aI rfl rfl rfl rfl) (.cons (.tmp rfl) .nil)) ⟨rfl,rfl⟩)
def iM (F:Nat) (x0:Int) (y0:Int):Option Bool :=
 (eb F x0).bind fun x_1=>(br x_1 (eb F y0)).bind fun x_2=>some ((x_1 && (!x_2)) || (decide (x0 < y0)))
theorem pT {F:Nat} {x0:Int} {y0:Int} {r:Bool} (h:iM F x0 y0 = some r):ar Tryz.prog [] 98 [] [.one (.i x0),.one (.i y0)] (Is [] (.b (.one (.bool r)))):=by
 unfold iM at h
 refine ar.intro 17 Tryz.func98 Tryz.ntmps98 rfl (by simp) fun E=>?_
 show ab _ E ⟨17,[],[],[]⟩ _ ⟨[(0,I x0),(1,I y0)],[]⟩ _
 refine ab.seq (ab.aa ?_)
 refine Oc oa (ae.ai ⟨[(0,I x0),(1,I y0)],[]⟩ rfl (ab.seq (ab.aa ?_)))
 refine Oc om ?_
 obtain ⟨x_1,e1,h⟩:=aN h
 refine Oc (ak (gq e1) qt rfl rfl) (Oc om ?_)
 refine eU x_1 [] (fun g2=>trivial) (fun g2=>om) (ae.ag ⟨[(0,_),(1,_),(7,B x_1),(8,.opt x_1 (.one (.i y0)))],[]⟩ rfl ?_)
 obtain ⟨x_2,e4,h⟩:=aN h
 refine eU x_1 [8] (fun g3=>⟨g3,trivial⟩) (fun g3=>ak (gq (gc e4 g3)) qt rfl rfl) (eU x_1 [9] (fun g5=>⟨g5,trivial⟩) (fun g5=>cS rfl) (Oc (aL (fun e=>e) rfl rfl rfl rfl) (Oc om ?_)))
 refine oC (!(x_1 && (!x_2))) [] (fun g6=>trivial) (fun g6=>om) (oC (!(x_1 && (!x_2))) [] (fun g7=>by exact trivial) (fun g7=>om) (oC (!(x_1 && (!x_2))) [13,14] (fun g8=>by exact ⟨g8,g8,trivial⟩) (fun g8=>bf rfl rfl) (Oc (cn (fun e=>by first | (rw [e]; rfl) | (simp only at e; rw [e]; rfl)) rfl rfl rfl rfl) (Oc oa ?_))))
 refine ae.ai ⟨[(4,B ((x_1 && (!x_2)) || (decide (x0 < y0))))],[]⟩ rfl (ab.ret ?_)
 obtain rfl:=Option.some.inj h
 refine Fin.ag ⟨[(4,_)],[]⟩ rfl (Fin.aw [.one (.bool ((x_1 && (!x_2)) || (decide (x0 < y0))))] (.inl rfl) rfl (.cons (.tmp rfl) .nil) ⟨rfl,rfl⟩)
def dV (F:Nat) (x0:Int):Option Bool :=
 some (decide (x0 ≠ x0))
theorem jb {F:Nat} {x0:Int} {r:Bool} (h:dV F x0 = some r):ar Tryz.prog [] 99 [] [.one (.i x0)] (Is [] (.b (.one (.bool r)))):=by
 unfold dV at h
 refine ar.intro 6 Tryz.func99 Tryz.ntmps99 rfl (by simp) fun E=>?_
 show ab _ E ⟨6,[],[],[]⟩ _ ⟨[(0,I x0)],[]⟩ _
 refine ab.seq (ab.aa ?_)
 refine Oc oa (ae.ai ⟨[(0,I x0)],[]⟩ rfl (ab.seq (ab.aa ?_)))
 refine Oc om (Oc om (Oc (jf rfl rfl) (Oc oa ?_)))
 refine ae.ai ⟨[(2,B (decide (x0 ≠ x0)))],[]⟩ rfl (ab.ret ?_)
 obtain rfl:=Option.some.inj h
 refine Fin.ag ⟨[(2,_)],[]⟩ rfl (Fin.aw [.one (.bool (decide (x0 ≠ x0)))] (.inl rfl) rfl (.cons (.tmp rfl) .nil) ⟨rfl,rfl⟩)
def cY (F:Nat) (x0:List Int) (target0:Int):Option (Int × Bool) :=
 Option.bind (iter F (dg fun i_2 j_3=>if (decide (i_2 < j_3)) = true then (fE (IntKind.u64.wrap (IntKind.i64.wrap (i_2 + j_3))) fun x_5=>(a8 x0 (IntKind.i64.wrap (x_5 / 2))).bind fun x_6=>(iM F x_6 target0).bind fun x_7=>if x_7 = true then (fE (IntKind.i64.wrap ((IntKind.i64.wrap (x_5 / 2)) + 1)) fun x_8=>some (.inl (x_8,j_3))) else (some (.inl (i_2,IntKind.i64.wrap (x_5 / 2))))) else (some (.inr i_2))) (0,(x0.length:Int))) (fun i_1=>(br (decide (i_1 < (x0.length:Int))) (a8 x0 i_1)).bind fun x_9=>(br ((decide (i_1 < (x0.length:Int))) && !(decide (x_9 = target0))) (a8 x0 i_1)).bind fun x_10=>(br ((decide (i_1 < (x0.length:Int))) && !(decide (x_9 = target0))) (dV F x_10)).bind fun x_11=>(br (((decide (i_1 < (x0.length:Int))) && !(decide (x_9 = target0))) && x_11) (dV F target0)).bind fun x_12=>fE ((decide (i_1 < (x0.length:Int))) && ((decide (x_9 = target0)) || (x_11 && x_12))) fun x_13=>some (i_1,x_13))
theorem jo {F:Nat} {x0:List Int} {target0:Int} {r:Int × Bool} (h:cY F x0 target0 = some r):ar Tryz.prog [] 76 [] [.one (.sl 1 (x0.map eI)),.one (.i target0)] (Is [] (.dL [.one (.i r.1),.one (.bool r.2)])):=by
 unfold cY at h
 refine ar.intro 54 Tryz.func76 Tryz.ntmps76 rfl (by simp) fun E=>?_
 show ab _ E ⟨54,[],[],[]⟩ _ ⟨[(0,.b (.one (.sl 1 (x0.map eI)))),(1,I target0)],[]⟩ _
 refine ab.seq (ab.aa ?_)
 refine Oc oa (Oc oa ?_)
 refine ae.ai ⟨[(0,.b (.one (.sl 1 (x0.map eI)))),(1,I target0)],[]⟩ rfl (ab.seq (ab.aa ?_))
 refine Oc om (Oc (ba fO rfl (List.length_map _)) (Oc oa ?_))
 refine ae.ai ⟨[(0,_),(1,_),(6,I (x0.length:Int))],[]⟩ rfl (ab.seq (ab.aa ?_))
 refine Oc om (Oc oa (Oc oa ?_))
 refine ae.ai ⟨[(0,_),(1,_),(6,_),(7,I 0),(8,I (x0.length:Int))],[]⟩ rfl ?_
 obtain ⟨v1,h2,h⟩:=aN h
 refine ab.c6 (v:=v1) (fun (i_1:Int)=>⟨[(0,.b (.one (.sl 1 (x0.map eI)))),(1,I target0),(6,I (x0.length:Int)),(7,I i_1)],[]⟩) (fun z=>z) ?_ ?_
 ·refine ab.block (ab.c5 h2 (dg fun (i_2:Int) (j_3:Int)=>⟨[(0,.b (.one (.sl 1 (x0.map eI)))),(1,I target0),(6,I (x0.length:Int)),(7,I i_2),(8,I j_3)],[]⟩) [0,1,6,7,8] [] rfl ?_)
  rintro ⟨i_2,j_3⟩ o3 h4 hy5
  refine ab.seq (ab.seq (ab.aa ?_))
  refine Oc om (Oc om (Oc (bf rfl rfl) ?_))
  refine ae.ai ⟨[(0,_),(1,_),(6,_),(7,_),(8,_),(15,B (decide (i_2 < j_3)))],[]⟩ rfl (ab.ite h4 rfl (fun _ h4=>?_) (fun _ h4=>?_))
  ·refine ab.skip (Fin.ag ⟨[(0,_),(1,_),(6,_),(7,_),(8,_)],[]⟩ rfl (Fin.then (ab.block (ab.seq (ab.aa ?_)))))
   refine Oc om (Oc om (Oc (bA rfl rfl) ?_))
   refine ae.ra .u64 h4 rfl (fl q7 qC rfl) (fun x_5 h4=>?_)
   refine Oc (jQ (m:=1) (by decide) rfl rfl rfl) (Oc (fl qC q7 rfl) (Oc oa ?_))
   refine ae.ai ⟨[(0,_),(1,_),(6,_),(7,_),(8,_),(9,I (IntKind.i64.wrap (x_5 / 2)))],[]⟩ rfl (ab.seq (ab.aa ?_))
   refine Oc om (Oc om ?_)
   obtain ⟨x_6,e6,h4⟩:=aN h4
   refine Oc (aM bL (aX e6) (bn (e:=eI) e6) rfl rfl) (Oc (ay aK rfl rfl) (Oc om ?_))
   obtain ⟨x_7,e7,h4⟩:=aN h4
   refine Oc (ak (pT e7) goes98 rfl rfl) (ae.ai ⟨[(0,_),(1,_),(6,_),(7,_),(8,_),(9,_),(27,B x_7)],[]⟩ rfl (ab.ite h4 rfl (fun _ h4=>?_) (fun _ h4=>?_)))
   ·refine ab.aa (Oc om (ae.ra .i64 h4 rfl (bA rfl rfl) (fun x_8 h4=>?_)))
    refine Oc oa (ae.nil (Fin.av ?_))
    exact Fin.bZ [0,1,6,7,8] [] (x_8,j_3) (Option.some.inj h4) rfl
   ·refine ab.aa (Oc om (Oc oa ?_))
    refine ae.nil (Fin.av ?_)
    exact Fin.bZ [0,1,6,7,8] [] (i_2,IntKind.i64.wrap (x_5 / 2)) (Option.some.inj h4) rfl
  ·refine ab.exit (Fin.aC ?_)
   obtain rfl:=hy5 _ (Option.some.inj h4).symm
   refine Fin.aC (Fin.aS ?_)
   exact Fin.join [0,1,6,7] [] i_2 rfl rfl
 ·rintro i_1 hv
  subst v1
  refine ab.seq (ab.aa ?_)
  refine Oc om (Oc om (Oc om (Oc (bf rfl rfl) (Oc om ?_))))
  refine eU (decide (i_1 < (x0.length:Int))) [] (fun g8=>trivial) (fun g8=>om) (eU (decide (i_1 < (x0.length:Int))) [] (fun g9=>by exact trivial) (fun g9=>om) (ae.ag ⟨[(0,_),(1,_),(7,_),(31,I i_1),(35,B (decide (i_1 < (x0.length:Int)))),(36,.opt (decide (i_1 < (x0.length:Int))) (.one (.sl 1 (x0.map eI)))),(37,.opt (decide (i_1 < (x0.length:Int))) (.one (.i i_1)))],[]⟩ rfl ?_))
  obtain ⟨x_9,e11,h⟩:=aN h
  refine eU (decide (i_1 < (x0.length:Int))) [36,37] (fun g10=>⟨g10,g10,trivial⟩) (fun g10=>aM bL (aX (gc e11 g10)) (bn (e:=eI) (gc e11 g10)) rfl rfl) (eU (decide (i_1 < (x0.length:Int))) [38] (fun g12=>⟨g12,trivial⟩) (fun g12=>ay aK rfl rfl) (eU (decide (i_1 < (x0.length:Int))) [] (fun g13=>trivial) (fun g13=>om) (eU (decide (i_1 < (x0.length:Int))) [39,40] (fun g14=>by exact ⟨g14,g14,trivial⟩) (fun g14=>c3 rfl rfl) (eU (decide (i_1 < (x0.length:Int))) [41] (fun g15=>by exact ⟨g15,trivial⟩) (fun g15=>om) (ae.kO ((decide (i_1 < (x0.length:Int))) && !(decide (x_9 = target0))) 99 [] (.under rfl) (oI _ _) rfl rfl (fun g16=>by exact trivial) (fun g16=>om) ?_)))))
  refine ae.kO ((decide (i_1 < (x0.length:Int))) && !(decide (x_9 = target0))) 99 [] (.under rfl) (oI _ _) rfl rfl (fun g17=>trivial) (fun g17=>om) ?_
  obtain ⟨x_10,e19,h⟩:=aN h
  refine ae.kO ((decide (i_1 < (x0.length:Int))) && !(decide (x_9 = target0))) 99 [43,44] (.under rfl) (oI _ _) rfl rfl (fun g18=>⟨g18,g18,trivial⟩) (fun g18=>aM bL (aX (gc e19 g18)) (bn (e:=eI) (gc e19 g18)) rfl rfl) (ae.ag ⟨[(1,_),(31,_),(35,_),(42,.opt (decide (i_1 < (x0.length:Int))) (.one (.bool (decide (x_9 = target0))))),(45,.opt ((decide (i_1 < (x0.length:Int))) && !(decide (x_9 = target0))) (.aO [.i x_10]))],[]⟩ rfl (ae.kO ((decide (i_1 < (x0.length:Int))) && !(decide (x_9 = target0))) 99 [45] (.under rfl) (oI _ _) rfl rfl (fun g20=>⟨g20,trivial⟩) (fun g20=>ay aK rfl rfl) ?_))
  obtain ⟨x_11,e22,h⟩:=aN h
  refine ae.kO ((decide (i_1 < (x0.length:Int))) && !(decide (x_9 = target0))) 99 [46] (.under rfl) (oI _ _) rfl rfl (fun g21=>⟨g21,trivial⟩) (fun g21=>ak (jb (gc e22 g21)) u6 rfl rfl) (ae.kO ((decide (i_1 < (x0.length:Int))) && !(decide (x_9 = target0))) 99 [47] (.under rfl) (oI _ _) rfl rfl (fun g23=>⟨g23,trivial⟩) (fun g23=>om) (ae.kO (((decide (i_1 < (x0.length:Int))) && !(decide (x_9 = target0))) && x_11) 99 [] (.under rfl) (and_t _ _) rfl rfl (fun g24=>trivial) (fun g24=>om) (ae.ag ⟨[(31,_),(35,_),(42,_),(48,.opt ((decide (i_1 < (x0.length:Int))) && !(decide (x_9 = target0))) (.one (.bool x_11))),(49,.opt (((decide (i_1 < (x0.length:Int))) && !(decide (x_9 = target0))) && x_11) (.one (.i target0)))],[]⟩ rfl ?_)))
  obtain ⟨x_12,e26,h⟩:=aN h
  refine ae.kO (((decide (i_1 < (x0.length:Int))) && !(decide (x_9 = target0))) && x_11) 99 [49] (.under rfl) (and_t _ _) rfl rfl (fun g25=>⟨g25,trivial⟩) (fun g25=>ak (jb (gc e26 g25)) u6 rfl rfl) (ae.kO ((decide (i_1 < (x0.length:Int))) && !(decide (x_9 = target0))) 99 [48] (.under rfl) (oI _ _) rfl rfl (fun g27=>⟨g27,trivial⟩) (fun g27=>aL (fun e=>by rw [g27,e]; rfl) rfl rfl rfl rfl) (eU (decide (i_1 < (x0.length:Int))) [42] (fun g28=>⟨g28,trivial⟩) (fun g28=>cn (fun e=>by rw [g28,e]; rfl) rfl rfl rfl rfl) (ae.pX h rfl (aL (fun e=>e) rfl rfl rfl rfl) (fun x_13 h=>?_))))
  refine Oc oa (Oc oa ?_)
  refine ae.ai ⟨[(4,I i_1),(5,B x_13)],[]⟩ rfl (ab.ret ?_)
  obtain rfl:=Option.some.inj h
  refine Fin.ag ⟨[(4,_),(5,_)],[]⟩ rfl (Fin.aw [.one (.i i_1),.one (.bool x_13)] (.inl rfl) rfl (.cons (.tmp rfl) (.cons (.tmp rfl) .nil)) ⟨rfl,rfl⟩)
def eH (F:Nat) (a0:List Int) (b0:List Int):Option (List Int) :=
 Option.bind (iter F (dg fun out_2 x_3=>if (decide (x_3 < (a0.length:Int))) = true then (Option.bind ((a8 a0 x_3).bind fun x_6=>Option.bind (cY F b0 x_6) (dg fun x_7 x_8=>if (!x_8) = true then ((ee out_2 [x_6]).bind fun x_9=>some x_9) else (some out_2))) (fun out_5=>some (.inl (out_5,IntKind.i64.wrap (x_3 + 1))))) else (some (.inr out_2))) ([],0)) (fun out_1=>some out_1)
theorem jC (kr0:Nat) {F:Nat} {a0:List Int} {b0:List Int} {r:(List Int)} (h:eH F a0 b0 = some r):ar Tryz.prog [] 56 [] [.one (.sl 1 (a0.map eI)),.one (.sl 1 (b0.map eI))] (Is [(kr0,.row 3 1 (r.map eI))] (.b (.row kr0))):=by
 unfold eH at h
 refine ar.intro 30 Tryz.func56 Tryz.ntmps56 rfl (by simp) fun E=>?_
 show ab _ E ⟨30,[],[],[]⟩ _ ⟨[(0,.b (.one (.sl 1 (a0.map eI)))),(1,.b (.one (.sl 1 (b0.map eI))))],[]⟩ _
 refine ab.seq (ab.aa ?_)
 refine Oc oa (ae.ai ⟨[(0,.b (.one (.sl 1 (a0.map eI)))),(1,.b (.one (.sl 1 (b0.map eI))))],[]⟩ rfl (ab.seq (ab.aa ?_)))
 refine Oc oa (ae.ai ⟨[(0,_),(1,_),(5,.b (.one (.nil)))],[]⟩ rfl ?_)
 obtain ⟨v1,h2,h⟩:=aN h
 refine ab.c6 (v:=v1) (fun (out_1:List Int)=>⟨[(5,.b (.row 102))],[(102,.row 3 1 (out_1.map eI))]⟩) (fun z=>z) ?_ ?_
 ·refine ab.seq (ab.aa ?_)
  refine Oc om (Oc (ba fO rfl (List.length_map _)) (Oc om ?_))
  refine ae.ai ⟨[(1,_),(5,_),(10,.b (.one (.sl 1 (a0.map eI)))),(11,I (a0.length:Int)),(12,I 0)],[]⟩ rfl (ab.block (ab.dI 5 102 1 3 rfl (by decide) rfl (ab.c5 h2 (dg fun (out_2:List Int) (x_3:Int)=>⟨[(1,.b (.one (.sl 1 (b0.map eI)))),(5,.b (.row 102)),(10,.b (.one (.sl 1 (a0.map eI)))),(11,I (a0.length:Int)),(12,I x_3)],[(102,.row 3 1 (out_2.map eI))]⟩) [1,5,10,11,12] [102] rfl ?_)))
  rintro ⟨out_2,x_3⟩ o3 h4 hy5
  refine ab.seq (ab.aa ?_)
  refine Oc (bf rfl rfl) (ae.ai ⟨[(1,_),(5,_),(10,_),(11,_),(12,_),(13,B (decide (x_3 < (a0.length:Int))))],[(102,_)]⟩ rfl (ab.seq (ab.ite h4 rfl (fun _ h4=>?_) (fun _ h4=>?_))))
  ·refine ab.skip (Fin.ag ⟨[(1,_),(5,_),(10,_),(11,_),(12,_)],[(102,_)]⟩ rfl (Fin.then ?_))
   obtain ⟨v6,h7,h4⟩:=aN h4
   refine ab.c6 (v:=v6) (fun (out_5:List Int)=>⟨[(1,.b (.one (.sl 1 (b0.map eI)))),(5,.b (.row 102)),(10,.b (.one (.sl 1 (a0.map eI)))),(11,I (a0.length:Int)),(12,I x_3)],[(102,.row 3 1 (out_5.map eI))]⟩) (fun z=>z) ?_ ?_
   ·refine ab.block (ab.seq (ab.aa ?_))
    obtain ⟨x_6,e8,h7⟩:=aN h7
    refine Oc (aM bL (aX e8) (bn (e:=eI) e8) rfl rfl) (Oc (ay aK rfl rfl) (Oc oa ?_))
    refine ae.ai ⟨[(1,_),(5,_),(7,I x_6),(10,_),(11,_),(12,_)],[(102,_)]⟩ rfl (ab.seq (ab.aa ?_))
    refine Oc om (Oc om ?_)
    obtain ⟨⟨x_7,x_8⟩,e9,h7⟩:=aN h7
    refine Oc (ak (jo e9) goes76 rfl rfl) (Oc om (Oc (aq rfl rfl) ?_))
    refine ae.ag ⟨[(1,_),(5,_),(7,_),(10,_),(11,_),(12,_),(16,.dL [.one (.i x_7),.one (.bool x_8)]),(20,I x_7)],[(102,_)]⟩ rfl (Oc (aq rfl rfl) (Oc oa (Oc oa ?_)))
    refine ae.ai ⟨[(1,_),(5,_),(7,_),(9,B x_8),(10,_),(11,_),(12,_)],[(102,_)]⟩ rfl (ab.seq (ab.aa ?_))
    refine Oc om (Oc (cS rfl) ?_)
    refine ae.ai ⟨[(1,_),(5,_),(7,_),(10,_),(11,_),(12,_),(23,B (!x_8))],[(102,_)]⟩ rfl (ab.ite h7 rfl (fun _ h7=>?_) (fun _ h7=>?_))
    ·refine ab.aa (Oc om (Oc om (Oc (bp (k:=103) (es:=[x_6].map eI) bL rfl rfl (bM fun _=>rfl) rfl (by decide) (by decide) rfl) ?_)))
     obtain ⟨x_9,e10,h7⟩:=aN h7
     refine Oc (cP bL (iC e10) (iB e10) rfl rfl rfl rfl (ek e10) rfl) (Oc oa ?_)
     refine ae.nil (Fin.av ?_)
     exact Fin.join [1,5,10,11,12] [102] x_9 (Option.some.inj h7) rfl
    ·refine ab.skip (Fin.av ?_)
     exact Fin.join [1,5,10,11,12] [102] out_2 (Option.some.inj h7) rfl
   ·rintro out_5 hv
    subst v6
    refine ab.aa (Oc (bA rfl rfl) (Oc om ?_))
    refine ae.nil ?_
    exact Fin.bZ [1,5,10,11,12] [102] (out_5,IntKind.i64.wrap (x_3 + 1)) (Option.some.inj h4) rfl
  ·refine ab.exit (Fin.aC ?_)
   obtain rfl:=hy5 _ (Option.some.inj h4).symm
   refine Fin.aC (Fin.aS ?_)
   exact Fin.join [5] [102] out_2 rfl rfl
 ·rintro out_1 hv
  subst v1
  refine ab.seq (ab.aa ?_)
  refine Oc om (Oc oa ?_)
  refine ae.ai ⟨[(4,.b (.row 102))],[(102,_)]⟩ rfl (ab.ret ?_)
  obtain rfl:=Option.some.inj h
  refine Fin.ag ⟨[(4,_)],[(102,_)]⟩ rfl (Fin.eh 102 kr0 [.row 102] (.inl rfl) rfl (.cons (.tmp rfl) .nil) rfl rfl rfl rfl ⟨rfl,rfl⟩)
end Go.Proofs.YtagpkeehkcopaaaGreat

