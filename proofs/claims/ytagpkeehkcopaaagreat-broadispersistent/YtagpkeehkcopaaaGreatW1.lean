/- printed walks -/
import Derived.Test.YtagpkeehkcopaaaGreatT1
namespace Go.Proofs.YtagpkeehkcopaaaGreat
open Go.Sk Go
set_option maxHeartbeats 4000000
set_option maxRecDepth 4000
set_option linter.unusedSimpArgs false
set_option linter.unusedVariables false
theorem vj:Tryz.prog.underlying 88 = some (.int .u64):=Tryz.underlying88
theorem undi5:Tryz.prog.underlying 5 = some (.int .u8):=Tryz.underlying5
theorem und9:Tryz.prog.underlying 9 = some .string:=Tryz.underlying9
theorem rz:Tryz.prog.underlying 3 = some (.int .i64):=Tryz.underlying3
theorem goes95:bp Tryz.prog 95:=⟨Tryz.call95⟩
theorem goes114:bp Tryz.prog 114:=⟨Tryz.call114⟩
theorem fR:Tryz.prog.underlying 51 = some (.slice 3):=Tryz.underlying51
theorem qS:Tryz.prog.underlying 112 = some (.int .u64):=Tryz.underlying112
theorem goes69:bp Tryz.prog 69:=⟨Tryz.call69⟩
theorem goes97:bp Tryz.prog 97:=⟨Tryz.call97⟩
theorem dW:cn Tryz.prog 87 0 0 3:=⟨⟨_,_,Tryz.t3,Tryz.underlying87,rfl,rfl,rfl,by kernel_rfl,by decide⟩⟩
theorem aM:c9 Tryz.prog 3:=⟨⟨_,Tryz.underlying3,rfl⟩,⟨Tryz.t3,by kernel_rfl,by kernel_rfl⟩⟩
theorem goes48:bp Tryz.prog 48:=⟨Tryz.call48⟩
theorem fa:j7 Tryz.prog 25 ((c3 .i64) A3.zero ++ ((c3 .i64) A3.zero)):=⟨⟨Tryz.t25,_,by kernel_rfl,rfl,rfl⟩⟩
theorem gB:cn Tryz.prog 87 1 1 25:=⟨⟨_,_,Tryz.t25,Tryz.underlying87,rfl,rfl,rfl,by kernel_rfl,by decide⟩⟩
theorem aC:eX Tryz.prog 25 6:=⟨⟨_,Tryz.underlying25,rfl⟩,⟨Tryz.t25,by kernel_rfl,by kernel_rfl⟩⟩
theorem goes49:bp Tryz.prog 49:=⟨Tryz.call49⟩
theorem qJ:bp Tryz.prog 70:=⟨Tryz.call70⟩
theorem sZ:bp Tryz.prog 44:=⟨Tryz.call44⟩
theorem bN:jX Tryz.prog 51 3 1 8 [.i 0]:=⟨Tryz.underlying51,⟨Tryz.t3,_,by kernel_rfl,rfl,rfl,rfl,rfl,by decide,rfl⟩⟩
theorem cV:cn Tryz.prog 25 0 0 23:=⟨⟨_,_,Tryz.t23,Tryz.underlying25,rfl,rfl,rfl,by kernel_rfl,by decide⟩⟩
theorem bL:tR Tryz.prog 23 3 3 1:=⟨Tryz.underlying23,⟨Tryz.t3,by kernel_rfl,by kernel_rfl⟩⟩
theorem goes53:bp Tryz.prog 53:=⟨Tryz.call53⟩
theorem goes52:bp Tryz.prog 52:=⟨Tryz.call52⟩
theorem mixed:Tryz.prog.follows .mixedOrders = true:=by kernel_rfl
theorem goes50:bp Tryz.prog 50:=⟨Tryz.call50⟩
theorem goes51:bp Tryz.prog 51:=⟨Tryz.call51⟩
theorem cU:cn Tryz.prog 25 1 3 23:=⟨⟨_,_,Tryz.t23,Tryz.underlying25,rfl,rfl,rfl,by kernel_rfl,by decide⟩⟩
theorem nw:bp Tryz.prog 14:=⟨Tryz.call14⟩
theorem goes41:bp Tryz.prog 41:=⟨Tryz.call41⟩
theorem me:Tryz.prog.underlying 42 = some (.pointer (Tryz.prog.pointee 42)):=(by rw [show Tryz.prog.pointee 42 = 117 from by unfold Go.Program.pointee; rw [Tryz.underlying42]]; exact Tryz.underlying42)
theorem goes123:bp Tryz.prog 123:=⟨Tryz.call123⟩
theorem nB:jg Tryz.prog 25 [(0,3),(3,3)] ((c3 .i64) A3.zero ++ ((c3 .i64) A3.zero)):=⟨⟨Tryz.t25,_,_,by kernel_rfl,rfl,rfl,Tryz.underlying25,by kernel_rfl⟩⟩
theorem tf:bp Tryz.prog 13:=⟨Tryz.call13⟩
theorem ql:px Tryz.prog 23 1 ((c3 .i64) A3.zero):=⟨⟨Tryz.t23,_,_,_,Tryz.t3,by kernel_rfl,rfl,rfl,Tryz.underlying23,by kernel_rfl,by kernel_rfl⟩⟩
theorem und34:Tryz.prog.underlying 34 = some (.slice 25):=Tryz.underlying34
theorem mf:jX Tryz.prog 34 25 6 48 ((c3 .i64) A3.zero ++ ((c3 .i64) A3.zero)):=⟨Tryz.underlying34,⟨Tryz.t25,_,by kernel_rfl,rfl,rfl,rfl,rfl,by decide,rfl⟩⟩
theorem goes67:bp Tryz.prog 67:=⟨Tryz.call67⟩
theorem lA:c9 Tryz.prog 34:=⟨⟨_,Tryz.underlying34,rfl⟩,⟨Tryz.t34,by kernel_rfl,by kernel_rfl⟩⟩
theorem vD:bp Tryz.prog 46:=⟨Tryz.call46⟩
theorem goes71:bp Tryz.prog 71:=⟨Tryz.call71⟩
theorem goes72:bp Tryz.prog 72:=⟨Tryz.call72⟩
theorem goes40:bp Tryz.prog 40:=⟨Tryz.call40⟩
theorem goes42:bp Tryz.prog 42:=⟨Tryz.call42⟩
theorem tyZero3:j7 Tryz.prog 3 [.i 0]:=⟨⟨Tryz.t3,_,by kernel_rfl,rfl,rfl⟩⟩
theorem goes45:bp Tryz.prog 45:=⟨Tryz.call45⟩
theorem nv:bp Tryz.prog 16:=⟨Tryz.call16⟩
theorem fk:px Tryz.prog 40 1 ((eu .i64) A2.zero):=⟨⟨Tryz.t40,_,_,_,Tryz.t3,by kernel_rfl,rfl,rfl,Tryz.underlying40,by kernel_rfl,by kernel_rfl⟩⟩
theorem hU:jX Tryz.prog 35 40 2 16 ((eu .i64) A2.zero):=⟨Tryz.underlying35,⟨Tryz.t40,_,by kernel_rfl,rfl,rfl,rfl,rfl,by decide,rfl⟩⟩
theorem goes47:bp Tryz.prog 47:=⟨Tryz.call47⟩
theorem tL:Tryz.prog.underlying 35 = some (.slice 40):=Tryz.underlying35
theorem oC:eX Tryz.prog 40 2:=⟨⟨_,Tryz.underlying40,rfl⟩,⟨Tryz.t40,by kernel_rfl,by kernel_rfl⟩⟩
theorem wG (x y:A2) {d:Nat}:dy Tryz.prog (d + 2) 40 2 ((eu .i64) x) ((eu .i64) y) (decide (x = y)) :=
 (dy.arr (l:=x.l) (l':=y.l) oC Tryz.underlying40 aM Tryz.underlying3).cast (by rw [Bool.eq_iff_iff]; simp [A2.vf])
theorem eqAgg40 (x y:A2):lU Tryz.prog 40 ((eu .i64) x) ((eu .i64) y) (decide (x = y)):=lU.vr (by kernel_rfl) oC (wG x y (d:=9998)) rfl rfl
theorem dK:j7 Tryz.prog 49 [.tr af (.leaf),.de 0,.de 0,.de 0,.tr af (.leaf),.de 0,.de 0,.de 0]:=⟨⟨Tryz.t49,_,by kernel_rfl,rfl,rfl⟩⟩
theorem qk:jg Tryz.prog 47 [(0,1),(1,1),(2,1),(3,1)] [.tr af (.leaf),.de 0,.de 0,.de 0]:=⟨⟨Tryz.t47,_,_,by kernel_rfl,rfl,rfl,Tryz.underlying47,by kernel_rfl⟩⟩
theorem fU:jg Tryz.prog 49 [(0,4),(4,4)] [.tr af (.leaf),.de 0,.de 0,.de 0,.tr af (.leaf),.de 0,.de 0,.de 0]:=⟨⟨Tryz.t49,_,_,by kernel_rfl,rfl,rfl,Tryz.underlying49,by kernel_rfl⟩⟩
theorem aH:eX Tryz.prog 49 8:=⟨⟨_,Tryz.underlying49,rfl⟩,⟨Tryz.t49,by kernel_rfl,by kernel_rfl⟩⟩
theorem gq:j7 Tryz.prog 87 (.i 0 :: ((c3 .i64) A3.zero ++ ((c3 .i64) A3.zero))):=⟨⟨Tryz.t87,_,by kernel_rfl,rfl,rfl⟩⟩
theorem jH:cn Tryz.prog 49 0 0 47:=⟨⟨_,_,Tryz.t47,Tryz.underlying49,rfl,rfl,rfl,by kernel_rfl,by decide⟩⟩
theorem fT:cn Tryz.prog 47 0 0 42:=⟨⟨_,_,Tryz.t42,Tryz.underlying47,rfl,rfl,rfl,by kernel_rfl,by decide⟩⟩
theorem bK:c9 Tryz.prog 42:=⟨⟨_,Tryz.underlying42,rfl⟩,⟨Tryz.t42,by kernel_rfl,by kernel_rfl⟩⟩
theorem fc:cn Tryz.prog 117 0 0 87:=⟨⟨_,_,Tryz.t87,Tryz.underlying117,rfl,rfl,rfl,by kernel_rfl,by decide⟩⟩
theorem bF:eX Tryz.prog 87 7:=⟨⟨_,Tryz.underlying87,rfl⟩,⟨Tryz.t87,by kernel_rfl,by kernel_rfl⟩⟩
theorem eD:cn Tryz.prog 117 3 14 42:=⟨⟨_,_,Tryz.t42,Tryz.underlying117,rfl,rfl,rfl,by kernel_rfl,by decide⟩⟩
theorem eC:cn Tryz.prog 117 4 15 42:=⟨⟨_,_,Tryz.t42,Tryz.underlying117,rfl,rfl,rfl,by kernel_rfl,by decide⟩⟩
theorem qj:jg Tryz.prog 87 [(0,1),(1,6)] (.i 0 :: ((c3 .i64) A3.zero ++ ((c3 .i64) A3.zero))):=⟨⟨Tryz.t87,_,_,by kernel_rfl,rfl,rfl,Tryz.underlying87,by kernel_rfl⟩⟩
theorem sJ:Tryz.prog.underlying 144 = some (.slice 42):=Tryz.underlying144
theorem j9:jX Tryz.prog 144 42 1 8 [.tr af (.leaf)]:=⟨Tryz.underlying144,⟨Tryz.t42,_,by kernel_rfl,rfl,rfl,rfl,rfl,by decide,rfl⟩⟩
theorem goes131:bp Tryz.prog 131:=⟨Tryz.call131⟩
theorem goes122:bp Tryz.prog 122:=⟨Tryz.call122⟩
theorem mr:cn Tryz.prog 117 1 7 88:=⟨⟨_,_,Tryz.t88,Tryz.underlying117,rfl,rfl,rfl,by kernel_rfl,by decide⟩⟩
theorem qT:c9 Tryz.prog 88:=⟨⟨_,Tryz.underlying88,rfl⟩,⟨Tryz.t88,by kernel_rfl,by kernel_rfl⟩⟩
theorem uE:cn Tryz.prog 47 3 3 45:=⟨⟨_,_,Tryz.t45,Tryz.underlying47,rfl,rfl,rfl,by kernel_rfl,by decide⟩⟩
theorem tyOne45:c9 Tryz.prog 45:=⟨⟨_,Tryz.underlying45,rfl⟩,⟨Tryz.t45,by kernel_rfl,by kernel_rfl⟩⟩
theorem pz:jg Tryz.prog 117 [(0,7),(7,1),(8,6),(14,1),(15,1)] (.i 0 :: ((c3 .i64) A3.zero ++ ((c3 .i64) A3.zero ++ (.int .u64 0 :: ((c3 .i64) A3.zero ++ ((c3 .i64) A3.zero ++ ([.tr af (.leaf),.tr af (.leaf)]))))))):=⟨⟨Tryz.t117,_,_,by kernel_rfl,rfl,rfl,Tryz.underlying117,by kernel_rfl⟩⟩
theorem goes100:bp Tryz.prog 100:=⟨Tryz.call100⟩
theorem kj:cn Tryz.prog 117 2 8 25:=⟨⟨_,_,Tryz.t25,Tryz.underlying117,rfl,rfl,rfl,by kernel_rfl,by decide⟩⟩
theorem vH:bp Tryz.prog 18:=⟨Tryz.call18⟩
theorem qi:cn Tryz.prog 47 1 1 43:=⟨⟨_,_,Tryz.t43,Tryz.underlying47,rfl,rfl,rfl,by kernel_rfl,by decide⟩⟩
theorem tX:c9 Tryz.prog 43:=⟨⟨_,Tryz.underlying43,rfl⟩,⟨Tryz.t43,by kernel_rfl,by kernel_rfl⟩⟩
theorem bU:eX Tryz.prog 47 4:=⟨⟨_,Tryz.underlying47,rfl⟩,⟨Tryz.t47,by kernel_rfl,by kernel_rfl⟩⟩
theorem sW:bp Tryz.prog 79:=⟨Tryz.call79⟩
theorem mj:bp Tryz.prog 80:=⟨Tryz.call80⟩
theorem oW:bp Tryz.prog 82:=⟨Tryz.call82⟩
theorem rH:j7 Tryz.prog 47 [.tr af (.leaf),.de 0,.de 0,.de 0]:=⟨⟨Tryz.t47,_,by kernel_rfl,rfl,rfl⟩⟩
theorem uF:cn Tryz.prog 47 2 2 44:=⟨⟨_,_,Tryz.t44,Tryz.underlying47,rfl,rfl,rfl,by kernel_rfl,by decide⟩⟩
theorem tyOne44:c9 Tryz.prog 44:=⟨⟨_,Tryz.underlying44,rfl⟩,⟨Tryz.t44,by kernel_rfl,by kernel_rfl⟩⟩
theorem goes81:bp Tryz.prog 81:=⟨Tryz.call81⟩
theorem qL:bp Tryz.prog 54:=⟨Tryz.call54⟩
theorem vA:bp Tryz.prog 59:=⟨Tryz.call59⟩
theorem nA:cn Tryz.prog 49 1 4 47:=⟨⟨_,_,Tryz.t47,Tryz.underlying49,rfl,rfl,rfl,by kernel_rfl,by decide⟩⟩
theorem rG:j7 Tryz.prog 51 [.nil]:=⟨⟨Tryz.t51,_,by kernel_rfl,rfl,rfl⟩⟩
theorem sY:bp Tryz.prog 57:=⟨Tryz.call57⟩
theorem gk:c9 Tryz.prog 51:=⟨⟨_,Tryz.underlying51,rfl⟩,⟨Tryz.t51,by kernel_rfl,by kernel_rfl⟩⟩
theorem sX:bp Tryz.prog 77:=⟨Tryz.call77⟩
theorem goes75:bp Tryz.prog 75:=⟨Tryz.call75⟩
theorem qK:bp Tryz.prog 55:=⟨Tryz.call55⟩
theorem sV:bp Tryz.prog 83:=⟨Tryz.call83⟩
theorem vz:bp Tryz.prog 60:=⟨Tryz.call60⟩
theorem goes98:bp Tryz.prog 98:=⟨Tryz.call98⟩
theorem vw:bp Tryz.prog 99:=⟨Tryz.call99⟩
theorem goes76:bp Tryz.prog 76:=⟨Tryz.call76⟩
theorem s9:bp Tryz.prog 30:=⟨Tryz.call30⟩
theorem nu:bp Tryz.prog 29:=⟨Tryz.call29⟩
theorem vC:bp Tryz.prog 56:=⟨Tryz.call56⟩
theorem wa:j7 Tryz.prog 35 [.nil]:=⟨⟨Tryz.t35,_,by kernel_rfl,rfl,rfl⟩⟩
theorem qU:c9 Tryz.prog 35:=⟨⟨_,Tryz.underlying35,rfl⟩,⟨Tryz.t35,by kernel_rfl,by kernel_rfl⟩⟩
theorem oX:bp Tryz.prog 39:=⟨Tryz.call39⟩
theorem tyAgg23:eX Tryz.prog 23 3:=⟨⟨_,Tryz.underlying23,rfl⟩,⟨Tryz.t23,by kernel_rfl,by kernel_rfl⟩⟩
theorem sc (x y:A3) {d:Nat}:dy Tryz.prog (d + 2) 23 3 ((c3 .i64) x) ((c3 .i64) y) (decide (x = y)) :=
 (dy.arr (l:=x.l) (l':=y.l) tyAgg23 Tryz.underlying23 aM Tryz.underlying3).cast (by rw [Bool.eq_iff_iff]; simp [A3.vf])
theorem wH (x y:cg) {d:Nat}:dy Tryz.prog (d + 3) 25 6 (ao x) (ao y) (decide (x = y)) :=
 (dy.struct (d:=d + 2) (rs:=[decide (x.Lo = y.Lo),decide (x.Hi = y.Hi)]) aC Tryz.stoodInHeld25 Tryz.underlying25 (⟨by decide,⟨_,((c3 .i64) x.Lo),((c3 .i64) y.Lo),rfl,rfl,rfl,rfl,sc _ _⟩,⟨by decide,⟨_,((c3 .i64) x.Hi),((c3 .i64) y.Hi),rfl,rfl,rfl,rfl,sc _ _⟩,trivial⟩⟩) rfl).cast
  (by cases x; cases y; rw [Bool.eq_iff_iff]; simp [cg.mk.injEq])
theorem q9 (x y:cg):lU Tryz.prog 25 (ao x) (ao y) (decide (x = y)):=lU.vr (by kernel_rfl) aC (wH x y (d:=9997)) rfl rfl
theorem vJ:bp Tryz.prog 11:=⟨Tryz.call11⟩
theorem vG:bp Tryz.prog 20:=⟨Tryz.call20⟩
theorem qN:bp Tryz.prog 22:=⟨Tryz.call22⟩
theorem te:bp Tryz.prog 23:=⟨Tryz.call23⟩
theorem s8:bp Tryz.prog 31:=⟨Tryz.call31⟩
theorem vF:bp Tryz.prog 25:=⟨Tryz.call25⟩
theorem qM:bp Tryz.prog 32:=⟨Tryz.call32⟩
theorem tc:bp Tryz.prog 26:=⟨Tryz.call26⟩
theorem vI:bp Tryz.prog 15:=⟨Tryz.call15⟩
theorem qO:bp Tryz.prog 17:=⟨Tryz.call17⟩
theorem nz:cn Tryz.prog 55 0 0 3:=⟨⟨_,_,Tryz.t3,Tryz.underlying55,rfl,rfl,rfl,by kernel_rfl,by decide⟩⟩
theorem iB:cn Tryz.prog 55 1 1 3:=⟨⟨_,_,Tryz.t3,Tryz.underlying55,rfl,rfl,rfl,by kernel_rfl,by decide⟩⟩
theorem lF:cn Tryz.prog 55 2 2 25:=⟨⟨_,_,Tryz.t25,Tryz.underlying55,rfl,rfl,rfl,by kernel_rfl,by decide⟩⟩
theorem oP:Tryz.prog.underlying 41 = some (.slice 55):=Tryz.underlying41
theorem jo:jX Tryz.prog 41 55 8 64 (.i 0 :: .i 0 :: ((c3 .i64) A3.zero ++ ((c3 .i64) A3.zero))):=⟨Tryz.underlying41,⟨Tryz.t55,_,by kernel_rfl,rfl,rfl,rfl,rfl,by decide,rfl⟩⟩
theorem oB:eX Tryz.prog 55 8:=⟨⟨_,Tryz.underlying55,rfl⟩,⟨Tryz.t55,by kernel_rfl,by kernel_rfl⟩⟩
theorem td:bp Tryz.prog 24:=⟨Tryz.call24⟩
theorem goes33:bp Tryz.prog 33:=⟨Tryz.call33⟩
theorem mL:Tryz.prog.underlying 68 = some (.slice 105):=Tryz.underlying68
theorem cY:jX Tryz.prog 68 105 7 56 (.i 0 :: ((c3 .i64) A3.zero ++ ((c3 .i64) A3.zero))):=⟨Tryz.underlying68,⟨Tryz.t105,_,by kernel_rfl,rfl,rfl,rfl,rfl,by decide,rfl⟩⟩
theorem dm:cn Tryz.prog 105 0 0 3:=⟨⟨_,_,Tryz.t3,Tryz.underlying105,rfl,rfl,rfl,by kernel_rfl,by decide⟩⟩
theorem mW:eX Tryz.prog 105 7:=⟨⟨_,Tryz.underlying105,rfl⟩,⟨Tryz.t105,by kernel_rfl,by kernel_rfl⟩⟩
theorem s6:bp Tryz.prog 37:=⟨Tryz.call37⟩
theorem pA:jg Tryz.prog 105 [(0,1),(1,6)] (.i 0 :: ((c3 .i64) A3.zero ++ ((c3 .i64) A3.zero))):=⟨⟨Tryz.t105,_,_,by kernel_rfl,rfl,rfl,Tryz.underlying105,by kernel_rfl⟩⟩
theorem vy:bp Tryz.prog 84:=⟨Tryz.call84⟩
theorem vx:bp Tryz.prog 85:=⟨Tryz.call85⟩
theorem mV:j7 Tryz.prog 70 [.nil,.nil,.nil,.i 0]:=⟨⟨Tryz.t70,_,by kernel_rfl,rfl,rfl⟩⟩
theorem jI:jg Tryz.prog 70 [(0,1),(1,1),(2,1),(3,1)] [.nil,.nil,.nil,.i 0]:=⟨⟨Tryz.t70,_,_,by kernel_rfl,rfl,rfl,Tryz.underlying70,by kernel_rfl⟩⟩
theorem ey:eX Tryz.prog 70 4:=⟨⟨_,Tryz.underlying70,rfl⟩,⟨Tryz.t70,by kernel_rfl,by kernel_rfl⟩⟩
theorem fK:cn Tryz.prog 105 1 1 25:=⟨⟨_,_,Tryz.t25,Tryz.underlying105,rfl,rfl,rfl,by kernel_rfl,by decide⟩⟩
theorem qh:cn Tryz.prog 70 1 1 51:=⟨⟨_,_,Tryz.t51,Tryz.underlying70,rfl,rfl,rfl,by kernel_rfl,by decide⟩⟩
theorem qg:cn Tryz.prog 70 2 2 51:=⟨⟨_,_,Tryz.t51,Tryz.underlying70,rfl,rfl,rfl,by kernel_rfl,by decide⟩⟩
theorem goes61:bp Tryz.prog 61:=⟨Tryz.call61⟩
theorem goes62:bp Tryz.prog 62:=⟨Tryz.call62⟩
theorem goes63:bp Tryz.prog 63:=⟨Tryz.call63⟩
theorem vE:bp Tryz.prog 36:=⟨Tryz.call36⟩
theorem goes64:bp Tryz.prog 64:=⟨Tryz.call64⟩
theorem goes65:bp Tryz.prog 65:=⟨Tryz.call65⟩
theorem goes66:bp Tryz.prog 66:=⟨Tryz.call66⟩
theorem goes34:bp Tryz.prog 34:=⟨Tryz.call34⟩
theorem uC:cn Tryz.prog 70 3 3 26:=⟨⟨_,_,Tryz.t26,Tryz.underlying70,rfl,rfl,rfl,by kernel_rfl,by decide⟩⟩
theorem tyOne26:c9 Tryz.prog 26:=⟨⟨_,Tryz.underlying26,rfl⟩,⟨Tryz.t26,by kernel_rfl,by kernel_rfl⟩⟩
theorem uD:cn Tryz.prog 70 0 0 68:=⟨⟨_,_,Tryz.t68,Tryz.underlying70,rfl,rfl,rfl,by kernel_rfl,by decide⟩⟩
theorem tyOne68:c9 Tryz.prog 68:=⟨⟨_,Tryz.underlying68,rfl⟩,⟨Tryz.t68,by kernel_rfl,by kernel_rfl⟩⟩
theorem s7:bp Tryz.prog 35:=⟨Tryz.call35⟩
theorem s5:bp Tryz.prog 38:=⟨Tryz.call38⟩
def kx (F:Nat) (x0:Int):Option Int :=
 Option.bind (if (decide (4294967296 ≤ x0)) = true then (some (x0 / 4294967296,32)) else (some (x0,0))) (dd fun x_1 n_2=>Option.bind (if (decide (65536 ≤ x_1)) = true then (some (x_1 / 65536,IntKind.i64.wrap (n_2 + 16))) else (some (x_1,n_2))) (dd fun x_3 n_4=>Option.bind (if (decide (256 ≤ x_3)) = true then (some (x_3 / 256,IntKind.i64.wrap (n_4 + 8))) else (some (x_3,n_4))) (dd fun x_5 n_6=>(a8 ([0,1,2,2,3,3,3,3,4,4,4,4,4,4,4,4,5,5,5,5,5,5,5,5,5,5,5,5,5,5,5,5,6,6,6,6,6,6,6,6,6,6,6,6,6,6,6,6,6,6,6,6,6,6,6,6,6,6,6,6,6,6,6,6,7,7,7,7,7,7,7,7,7,7,7,7,7,7,7,7,7,7,7,7,7,7,7,7,7,7,7,7,7,7,7,7,7,7,7,7,7,7,7,7,7,7,7,7,7,7,7,7,7,7,7,7,7,7,7,7,7,7,7,7,7,7,7,7,8,8,8,8,8,8,8,8,8,8,8,8,8,8,8,8,8,8,8,8,8,8,8,8,8,8,8,8,8,8,8,8,8,8,8,8,8,8,8,8,8,8,8,8,8,8,8,8,8,8,8,8,8,8,8,8,8,8,8,8,8,8,8,8,8,8,8,8,8,8,8,8,8,8,8,8,8,8,8,8,8,8,8,8,8,8,8,8,8,8,8,8,8,8,8,8,8,8,8,8,8,8,8,8,8,8,8,8,8,8,8,8,8,8,8,8,8,8,8,8,8,8,8,8,8,8,8,8]:Str) (IntKind.u8.wrap x_5)).bind fun x_7=>fv (IntKind.i64.wrap (n_6 + (IntKind.i64.wrap (x_7.toNat:Int)))) fun x_8=>some x_8)))
theorem oy {F:Nat} {x0:Int} {r:Int} (h:kx F x0 = some r):av Tryz.prog [] 95 [] [.one (.int .u64 x0)] (Is [] (.b (.one (.i r)))):=by
 unfold kx at h
 refine av.intro 25 Tryz.func95 Tryz.ntmps95 rfl (by simp) fun E=>?_
 show ab _ E ⟨25,[],[],[]⟩ _ ⟨[(0,.b (.one (.int .u64 x0)))],[]⟩ _
 refine ab.seq (ab.aa ?_)
 refine Oc oa (ae.ai ⟨[(0,.b (.one (.int .u64 x0))),(2,I 0)],[]⟩ rfl ?_)
 obtain ⟨v1,h2,h⟩:=aL h
 refine ab.c6 (v:=v1) (dd fun (x_1:Int) (n_2:Int)=>⟨[(0,.b (.one (.int .u64 x_1))),(2,I n_2)],[]⟩) (fun z=>z) ?_ ?_
 ·refine ab.seq (ab.aa ?_)
  refine Oc om (Oc (nm rfl rfl) ?_)
  refine ae.ai ⟨[(0,_),(2,_),(4,B (decide (4294967296 ≤ x0)))],[]⟩ rfl (ab.ite h2 rfl (fun _ h2=>?_) (fun _ h2=>?_))
  ·refine ab.seq (ab.aa ?_)
   refine Oc om (Oc (ka (m:=32) (by decide) rfl rfl rfl) (Oc oa ?_))
   refine ae.ai ⟨[(0,.b (.one (.int .u64 (x0 / 4294967296))))],[]⟩ rfl (ab.aa (Oc oa (ae.nil ?_)))
   exact Fin.join [0,2] [] (x0 / 4294967296,32) (Option.some.inj h2) rfl
  ·refine ab.skip ?_
   exact Fin.join [0,2] [] (x0,0) (Option.some.inj h2) rfl
 ·rintro ⟨x_1,n_2⟩ hv
  subst v1
  obtain ⟨v3,h4,h⟩:=aL h
  refine ab.c6 (v:=v3) (dd fun (x_3:Int) (n_4:Int)=>⟨[(0,.b (.one (.int .u64 x_3))),(2,I n_4)],[]⟩) (fun z=>z) ?_ ?_
  ·refine ab.seq (ab.aa ?_)
   refine Oc om (Oc (nm rfl rfl) ?_)
   refine ae.ai ⟨[(0,_),(2,_),(8,B (decide (65536 ≤ x_1)))],[]⟩ rfl (ab.ite h4 rfl (fun _ h4=>?_) (fun _ h4=>?_))
   ·refine ab.seq (ab.aa ?_)
    refine Oc om (Oc (ka (m:=16) (by decide) rfl rfl rfl) (Oc oa ?_))
    refine ae.ai ⟨[(0,.b (.one (.int .u64 (x_1 / 65536)))),(2,_)],[]⟩ rfl (ab.aa (Oc om (Oc (br rfl rfl) (Oc oa ?_))))
    refine ae.nil ?_
    exact Fin.join [0,2] [] (x_1 / 65536,IntKind.i64.wrap (n_2 + 16)) (Option.some.inj h4) rfl
   ·refine ab.skip ?_
    exact Fin.join [0,2] [] (x_1,n_2) (Option.some.inj h4) rfl
  ·rintro ⟨x_3,n_4⟩ hv
   subst v3
   obtain ⟨v5,h6,h⟩:=aL h
   refine ab.c6 (v:=v5) (dd fun (x_5:Int) (n_6:Int)=>⟨[(0,.b (.one (.int .u64 x_5))),(2,I n_6)],[]⟩) (fun z=>z) ?_ ?_
   ·refine ab.seq (ab.aa ?_)
    refine Oc om (Oc (nm rfl rfl) ?_)
    refine ae.ai ⟨[(0,_),(2,_),(14,B (decide (256 ≤ x_3)))],[]⟩ rfl (ab.ite h6 rfl (fun _ h6=>?_) (fun _ h6=>?_))
    ·refine ab.seq (ab.aa ?_)
     refine Oc om (Oc (ka (m:=8) (by decide) rfl rfl rfl) (Oc oa ?_))
     refine ae.ai ⟨[(0,.b (.one (.int .u64 (x_3 / 256)))),(2,_)],[]⟩ rfl (ab.aa (Oc om (Oc (br rfl rfl) (Oc oa ?_))))
     refine ae.nil ?_
     exact Fin.join [0,2] [] (x_3 / 256,IntKind.i64.wrap (n_4 + 8)) (Option.some.inj h6) rfl
    ·refine ab.skip ?_
     exact Fin.join [0,2] [] (x_3,n_4) (Option.some.inj h6) rfl
   ·rintro ⟨x_5,n_6⟩ hv
    subst v5
    refine ab.seq (ab.aa ?_)
    refine Oc om (Oc om (Oc (fp vj undi5 rfl) ?_))
    obtain ⟨x_7,e7,h⟩:=aL h
    refine Oc (rh und9 rfl rfl (aX e7) (sT e7)) (Oc (fp undi5 rz rfl) ?_)
    refine ae.rC .i64 h rfl (br rfl rfl) (fun x_8 h=>?_)
    refine Oc oa (ae.ai ⟨[(2,I x_8)],[]⟩ rfl (ab.ret ?_))
    obtain rfl:=Option.some.inj h
    refine Fin.ag ⟨[(2,_)],[]⟩ rfl (Fin.aA [.one (.i x_8)] (.inl rfl) rfl (.cons (.tmp rfl) .nil) ⟨rfl,rfl⟩)
def my (F:Nat) (x0:Int):Option Int :=
 (kx F x0).bind fun x_1=>some x_1
theorem qa {F:Nat} {x0:Int} {r:Int} (h:my F x0 = some r):av Tryz.prog [] 69 [] [.one (.int .u64 x0)] (Is [] (.b (.one (.i r)))):=by
 unfold my at h
 refine av.intro 8 Tryz.func69 Tryz.ntmps69 rfl (by simp) fun E=>?_
 show ab _ E ⟨8,[],[],[]⟩ _ ⟨[(0,.b (.one (.int .u64 x0)))],[]⟩ _
 refine ab.seq (ab.aa ?_)
 refine Oc oa (ae.ai ⟨[(0,.b (.one (.int .u64 x0)))],[]⟩ rfl (ab.seq (ab.condFc (ab.skip (Fin.ag ⟨[(0,_)],[]⟩ rfl ?_)))))
 refine Fin.then (ab.seq (ab.aa ?_))
 refine Oc om ?_
 obtain ⟨x_1,e1,h⟩:=aL h
 refine Oc (ak (oy e1) goes95 rfl rfl) (Oc oa ?_)
 refine ae.ai ⟨[(2,I x_1)],[]⟩ rfl (ab.ret ?_)
 obtain rfl:=Option.some.inj h
 refine Fin.ag ⟨[(2,_)],[]⟩ rfl (Fin.aA [.one (.i x_1)] (.inl rfl) rfl (.cons (.tmp rfl) .nil) ⟨rfl,rfl⟩)
def eH (F:Nat):Option Unit :=
 Option.bind (iter F (fun _=>some (.inr ())) ()) (fun _=>some ())
theorem iW {F:Nat} {r:Unit} (h:eH F = some r):av Tryz.prog [] 114 [] [.one (.nil),.one (.i 0),.one (.i 0)] (Is [] (.dF [])):=by
 unfold eH at h
 refine av.intro 49 Tryz.func114 Tryz.ntmps114 rfl (by simp) fun E=>?_
 show ab _ E ⟨49,[],[],[]⟩ _ ⟨[(0,.b (.one (.nil))),(1,I 0),(2,I 0)],[]⟩ _
 refine ab.seq (ab.aa ?_)
 refine Oc om (Oc (br rfl rfl) (Oc oa ?_))
 refine ae.ai ⟨[(0,.b (.one (.nil))),(1,I 0),(2,I 0),(6,I 1)],[]⟩ rfl (ab.block ?_)
 obtain ⟨v1,h2,h⟩:=aL h
 refine ab.cN h2 (fun (_:Unit)=>⟨[(0,.b (.one (.nil))),(1,I 0),(2,I 0),(6,I 1)],[]⟩) [0,1,2,6] [] rfl ?_
 rintro _ o3 h4 hy5
 refine ab.seq (ab.seq (ab.aa ?_))
 refine Oc om (Oc om (Oc (bb rfl rfl) ?_))
 refine ae.ai ⟨[(0,_),(1,_),(2,_),(6,_),(12,B false)],[]⟩ rfl (ab.condF rfl (ab.exit (Fin.ax ?_)))
 obtain rfl:=hy5 _ (Option.some.inj h4).symm
 refine Fin.ax (Fin.aQ ?_)
 obtain rfl:=Option.some.inj h
 refine Fin.ag ⟨[],[]⟩ rfl (Fin.aA [] (.inr rfl) rfl (.nil) ⟨rfl,rfl⟩)
def dM (F:Nat):Nat → Int → Option Unit
 | 0,_=>none
 | n + 1,limit0=>Option.bind (iter F (fun _=>(eH F).bind fun u_1=>some (.inr ())) ()) (fun y=>some y)
def gZ (F:Nat) (limit0:Int):Option Unit:=dM F F limit0
theorem ju {F:Nat}:∀ (n:Nat) {limit0:Int} {r:Unit} (h:dM F n limit0 = some r),av Tryz.prog [] 97 [] [.one (.nil),.one (.i 0),.one (.i 0),.one (.i limit0)] (Is [] (.dF [])):=by
 intro n
 induction n with
 | zero=>intro limit0 r h; simp [dM] at h
 | succ n ih=>
 intro limit0 r h
 unfold dM at h
 refine av.intro 134 Tryz.func97 Tryz.ntmps97 rfl (by simp) fun E=>?_
 show ab _ E ⟨134,[],[],[]⟩ _ ⟨[(0,.b (.one (.nil))),(1,I 0),(2,I 0),(3,I limit0)],[]⟩ _
 refine ab.seq (ab.aa ?_)
 refine Oc oa (ae.ai ⟨[(0,.b (.one (.nil))),(1,I 0),(2,I 0),(3,I limit0),(8,B true)],[]⟩ rfl (ab.seq (ab.aa ?_)))
 refine Oc oa (ae.ai ⟨[(0,_),(1,_),(2,_),(3,_),(8,_),(9,B true)],[]⟩ rfl (ab.block ?_))
 obtain ⟨v1,h2,h⟩:=aL h
 refine ab.cN h2 (fun (_:Unit)=>⟨[(0,.b (.one (.nil))),(1,I 0),(2,I 0),(3,I limit0),(8,B true),(9,B true)],[]⟩) [0,1,2,3,8,9] [] rfl ?_
 rintro _ o3 h4 hy5
 refine ab.block (ab.seq (ab.aa ?_))
 refine Oc om (Oc om (Oc (vo rfl rfl) (Oc oa ?_)))
 refine ae.ai ⟨[(0,_),(1,_),(2,_),(3,_),(8,_),(9,_),(10,I 0)],[]⟩ rfl (ab.seq (ab.seq (ab.aa ?_)))
 refine Oc om (Oc (op_leq rfl rfl) ?_)
 refine ae.ai ⟨[(0,_),(1,_),(2,_),(3,_),(8,_),(9,_),(10,_),(23,B true)],[]⟩ rfl (ab.condT rfl (ab.seq (ab.aa ?_)))
 refine Oc om (Oc om (Oc om ?_))
 obtain ⟨u_1,e6,h4⟩:=aL h4
 refine Oc (ak (iW e6) goes114 rfl rfl) (ae.ai ⟨[],[]⟩ rfl (ab.ret (Fin.aw (Fin.aS ?_))))
 obtain rfl:=hy5 _ (Option.some.inj h4).symm
 refine Fin.aw (Fin.aS ?_)
 obtain rfl:=Option.some.inj h
 refine Fin.ag ⟨[],[]⟩ rfl (Fin.aA [] (.inl rfl) rfl (.nil) ⟨rfl,rfl⟩)
theorem jR {F:Nat} {limit0:Int} {r:Unit} (h:gZ F limit0 = some r):av Tryz.prog [] 97 [] [.one (.nil),.one (.i 0),.one (.i 0),.one (.i limit0)] (Is [] (.dF [])):=ju F h
def jk (F:Nat):Option Unit :=
 (my F (IntKind.u64.wrap 0)).bind fun x_1=>(gZ F x_1).bind fun u_2=>some ()
theorem lv {F:Nat} {r:Unit} (h:jk F = some r):av Tryz.prog [] 75 [] [.one (.nil)] (Is [] (.dF [])):=by
 unfold jk at h
 refine av.intro 11 Tryz.func75 Tryz.ntmps75 rfl (by simp) fun E=>?_
 show ab _ E ⟨11,[],[],[]⟩ _ ⟨[(0,.b (.one (.nil)))],[]⟩ _
 refine ab.seq (ab.aa ?_)
 refine Oc om (Oc (tz fR rfl) (Oc oa ?_))
 refine ae.ai ⟨[(0,.b (.one (.nil))),(2,I 0)],[]⟩ rfl (ab.aa (Oc om (Oc om (Oc om (Oc (fp rz qS rfl) ?_)))))
 obtain ⟨x_1,e1,h⟩:=aL h
 refine Oc (ak (qa e1) goes69 rfl rfl) ?_
 obtain ⟨u_2,e2,h⟩:=aL h
 refine Oc (ak (jR e2) goes97 rfl rfl) (ae.nil ?_)
 obtain rfl:=Option.some.inj h
 refine Fin.ag ⟨[],[]⟩ rfl (Fin.aA [] (.inr rfl) rfl (.nil) ⟨rfl,rfl⟩)
theorem nU:av Tryz.prog [] 75 [] [.one .nil] (Is [] (.dF [])):=lv (F:=3) (r:=()) (by rfl)
def fF (F:Nat) (zs:List Int):Option (List Int):=oU zs
theorem nT {F:Nat} {zs r:List Int} (h:fF F zs = some r):av Tryz.prog [] 75 [(1,.ew 3 1 (zs.map eI))] [.row 1] (Is [(1,.ew 3 1 (r.map eI))] (.dF [])):=ss Tryz.lays189 nU h
def jt (F:Nat) (x0:entry):Option Int :=
 some (IntKind.u64.wrap x0.id)
theorem nZ {F:Nat} {x0:entry} {r:Int} (h:jt F x0 = some r):av Tryz.prog [] 48 [] [.agg (ay x0)] (Is [] (.b (.one (.int .u64 r)))):=by
 unfold jt at h
 refine av.intro 6 Tryz.func48 Tryz.ntmps48 rfl (by simp) fun E=>?_
 show ab _ E ⟨6,[],[],[]⟩ _ ⟨[(0,.b (.agg (ay x0)))],[]⟩ _
 refine ab.seq (ab.aa ?_)
 refine Oc (bq (k:=101) rfl rfl) (Oc oa ?_)
 refine ae.ai ⟨[(1,Pt 101 0)],[(101,.box 87 (ay x0))]⟩ rfl (ab.seq (ab.aa ?_))
 refine Oc (aq dW rfl rfl) (Oc (aF aM rfl rfl rfl) (Oc (fp rz vj rfl) (Oc oa ?_)))
 refine ae.ai ⟨[(2,.b (.one (.int .u64 (IntKind.u64.wrap x0.id))))],[]⟩ rfl (ab.ret ?_)
 obtain rfl:=Option.some.inj h
 refine Fin.ag ⟨[(2,_)],[]⟩ rfl (Fin.aA [.one (.int .u64 (IntKind.u64.wrap x0.id))] (.inl rfl) rfl (.cons (.tmp rfl) .nil) ⟨rfl,rfl⟩)
def im (F:Nat) (fn0:Nat) (x0:entry):Option Int :=
 if fn0 = 48 then jt F x0 else none
theorem tB {F:Nat} {fn0:Nat} {x0:entry} {r:Int} (h:im F fn0 x0 = some r):av Tryz.prog [] fn0 [] [.agg (ay x0)] (Is [] (.b (.one (.int .u64 r)))):=by
 unfold im at h
 split at h
 ·next e=>subst e; exact nZ h
 ·next=>
  simp at h
theorem tC {F:Nat} {fn0:Nat} {x0:entry} {r:Int} (h:im F fn0 x0 = some r):bp Tryz.prog fn0:=by
 unfold im at h
 split at h
 ·next e=>subst e; exact goes48
 ·next=>
  simp at h
theorem wD {F:Nat} {fn0:Nat} {x0:entry} {r:Int} (h:im F fn0 x0 = some r):fn0 ≠ 0:=by
 rintro rfl
 exact absurd h (by simp [im])
def gQ (F:Nat) (x0:entry):Option cg :=
 some x0.b
theorem nY {F:Nat} {x0:entry} {r:cg} (h:gQ F x0 = some r):av Tryz.prog [] 49 [] [.agg (ay x0)] (Is [] (.b (.agg (ao r)))):=by
 unfold gQ at h
 refine av.intro 5 Tryz.func49 Tryz.ntmps49 rfl (by simp) fun E=>?_
 show ab _ E ⟨5,[],[],[]⟩ _ ⟨[(0,.b (.agg (ay x0)))],[]⟩ _
 refine ab.seq (ab.aa ?_)
 refine Oc (bq (k:=101) rfl rfl) (Oc (aT (k:=102) fa rfl) ?_)
 refine ae.ai ⟨[(1,Pt 101 0),(2,Pt 102 0)],[(101,.box 87 (ay x0)),(102,.box 25 ((c3 .i64) A3.zero ++ ((c3 .i64) A3.zero)))]⟩ rfl (ab.seq (ab.aa ?_))
 refine Oc (aq gB rfl rfl) (Oc (lp aC) (Oc (aB aC rfl rfl rfl rfl (Nat.le_of_ble_eq_true rfl) rfl) ?_))
 refine ae.ai ⟨[(2,_)],[(102,.box 25 (ao x0.b))]⟩ rfl (ab.ret ?_)
 obtain rfl:=Option.some.inj h
 refine Fin.ag ⟨[(2,_)],[(102,_)]⟩ rfl (Fin.aA [.agg (ao x0.b)] (.inl rfl) rfl (.cons (.agg aC rfl rfl rfl rfl) .nil) ⟨rfl,rfl⟩)
def je (F:Nat) (fn0:Nat) (x0:entry):Option cg :=
 if fn0 = 49 then gQ F x0 else none
theorem tH {F:Nat} {fn0:Nat} {x0:entry} {r:cg} (h:je F fn0 x0 = some r):av Tryz.prog [] fn0 [] [.agg (ay x0)] (Is [] (.b (.agg (ao r)))):=by
 unfold je at h
 split at h
 ·next e=>subst e; exact nY h
 ·next=>
  simp at h
theorem tJ {F:Nat} {fn0:Nat} {x0:entry} {r:cg} (h:je F fn0 x0 = some r):bp Tryz.prog fn0:=by
 unfold je at h
 split at h
 ·next e=>subst e; exact goes49
 ·next=>
  simp at h
theorem wJ {F:Nat} {fn0:Nat} {x0:entry} {r:cg} (h:je F fn0 x0 = some r):fn0 ≠ 0:=by
 rintro rfl
 exact absurd h (by simp [je])
def er (F:Nat) (x0:Int):Option Bool :=
 some (decide (x0 ≠ x0))
theorem gw {F:Nat} {x0:Int} {r:Bool} (h:er F x0 = some r):av Tryz.prog [] 70 [] [.one (.i x0)] (Is [] (.b (.one (.bool r)))):=by
 unfold er at h
 refine av.intro 6 Tryz.func70 Tryz.ntmps70 rfl (by simp) fun E=>?_
 show ab _ E ⟨6,[],[],[]⟩ _ ⟨[(0,I x0)],[]⟩ _
 refine ab.seq (ab.aa ?_)
 refine Oc oa (ae.ai ⟨[(0,I x0)],[]⟩ rfl (ab.seq (ab.aa ?_)))
 refine Oc om (Oc om (Oc (jY rfl rfl) (Oc oa ?_)))
 refine ae.ai ⟨[(2,B (decide (x0 ≠ x0)))],[]⟩ rfl (ab.ret ?_)
 obtain rfl:=Option.some.inj h
 refine Fin.ag ⟨[(2,_)],[]⟩ rfl (Fin.aA [.one (.bool (decide (x0 ≠ x0)))] (.inl rfl) rfl (.cons (.tmp rfl) .nil) ⟨rfl,rfl⟩)
def dP (F:Nat) (x0:Int) (y0:Int):Option Int :=
 (er F x0).bind fun x_1=>(er F y0).bind fun x_2=>if x_1 = true then (if x_2 = true then (some 0) else (some (-1))) else (if x_2 = true then (some 1) else (if (decide (x0 < y0)) = true then (some (-1)) else (if (decide (y0 < x0)) = true then (some 1) else (some 0))))
theorem gG {F:Nat} {x0:Int} {y0:Int} {r:Int} (h:dP F x0 y0 = some r):av Tryz.prog [] 44 [] [.one (.i x0),.one (.i y0)] (Is [] (.b (.one (.i r)))):=by
 unfold dP at h
 refine av.intro 20 Tryz.func44 Tryz.ntmps44 rfl (by simp) fun E=>?_
 show ab _ E ⟨20,[],[],[]⟩ _ ⟨[(0,I x0),(1,I y0)],[]⟩ _
 refine ab.seq (ab.aa ?_)
 refine Oc oa (ae.ai ⟨[(0,I x0),(1,I y0)],[]⟩ rfl (ab.seq (ab.aa ?_)))
 refine Oc om ?_
 obtain ⟨x_1,e1,h⟩:=aL h
 refine Oc (ak (gw e1) qJ rfl rfl) (Oc oa ?_)
 refine ae.ai ⟨[(0,_),(1,_),(5,B x_1)],[]⟩ rfl (ab.seq (ab.aa ?_))
 refine Oc om ?_
 obtain ⟨x_2,e2,h⟩:=aL h
 refine Oc (ak (gw e2) qJ rfl rfl) (Oc oa ?_)
 refine ae.ai ⟨[(0,_),(1,_),(5,_),(6,B x_2)],[]⟩ rfl (ab.seq (ab.seq (ab.aa ?_)))
 refine Oc om (ae.ai ⟨[(0,_),(1,_),(6,_),(11,B x_1)],[]⟩ rfl (ab.ite h rfl (fun _ h=>?_) (fun _ h=>?_)))
 ·refine ab.seq (ab.seq (ab.aa ?_))
  refine Oc om (ae.ai ⟨[(12,B x_2)],[]⟩ rfl (ab.ite h rfl (fun _ h=>?_) (fun _ h=>?_)))
  ·refine ab.seq (ab.aa ?_)
   refine Oc oa (ae.ai ⟨[(4,I 0)],[]⟩ rfl (ab.ret (Fin.aw (Fin.aw ?_))))
   obtain rfl:=Option.some.inj h
   refine Fin.ag ⟨[(4,_)],[]⟩ rfl (Fin.aA [.one (.i 0)] (.inl rfl) rfl (.cons (.tmp rfl) .nil) ⟨rfl,rfl⟩)
  ·refine ab.skip (Fin.ag ⟨[],[]⟩ rfl (Fin.then (ab.seq (ab.aa ?_))))
   refine Oc oa (ae.ai ⟨[(4,I (-1))],[]⟩ rfl (ab.ret (Fin.aw ?_)))
   obtain rfl:=Option.some.inj h
   refine Fin.ag ⟨[(4,_)],[]⟩ rfl (Fin.aA [.one (.i (-1))] (.inl rfl) rfl (.cons (.tmp rfl) .nil) ⟨rfl,rfl⟩)
 ·refine ab.skip (Fin.ag ⟨[(0,_),(1,_),(6,_)],[]⟩ rfl (Fin.then (ab.seq (ab.seq (ab.aa ?_)))))
  refine Oc om (ae.ai ⟨[(0,_),(1,_),(13,B x_2)],[]⟩ rfl (ab.ite h rfl (fun _ h=>?_) (fun _ h=>?_)))
  ·refine ab.seq (ab.aa ?_)
   refine Oc oa (ae.ai ⟨[(4,I 1)],[]⟩ rfl (ab.ret (Fin.aw ?_)))
   obtain rfl:=Option.some.inj h
   refine Fin.ag ⟨[(4,_)],[]⟩ rfl (Fin.aA [.one (.i 1)] (.inl rfl) rfl (.cons (.tmp rfl) .nil) ⟨rfl,rfl⟩)
  ·refine ab.skip (Fin.ag ⟨[(0,_),(1,_)],[]⟩ rfl (Fin.then (ab.seq (ab.seq (ab.aa ?_)))))
   refine Oc om (Oc om (Oc (bb rfl rfl) ?_))
   refine ae.ai ⟨[(0,_),(1,_),(16,B (decide (x0 < y0)))],[]⟩ rfl (ab.ite h rfl (fun _ h=>?_) (fun _ h=>?_))
   ·refine ab.seq (ab.aa ?_)
    refine Oc oa (ae.ai ⟨[(4,I (-1))],[]⟩ rfl (ab.ret (Fin.aw ?_)))
    obtain rfl:=Option.some.inj h
    refine Fin.ag ⟨[(4,_)],[]⟩ rfl (Fin.aA [.one (.i (-1))] (.inl rfl) rfl (.cons (.tmp rfl) .nil) ⟨rfl,rfl⟩)
   ·refine ab.skip (Fin.ag ⟨[(0,_),(1,_)],[]⟩ rfl (Fin.then (ab.seq (ab.seq (ab.aa ?_)))))
    refine Oc om (Oc om (Oc (gA rfl rfl) ?_))
    refine ae.ai ⟨[(19,B (decide (y0 < x0)))],[]⟩ rfl (ab.ite h rfl (fun _ h=>?_) (fun _ h=>?_))
    ·refine ab.seq (ab.aa ?_)
     refine Oc oa (ae.ai ⟨[(4,I 1)],[]⟩ rfl (ab.ret (Fin.aw ?_)))
     obtain rfl:=Option.some.inj h
     refine Fin.ag ⟨[(4,_)],[]⟩ rfl (Fin.aA [.one (.i 1)] (.inl rfl) rfl (.cons (.tmp rfl) .nil) ⟨rfl,rfl⟩)
    ·refine ab.skip (Fin.ag ⟨[],[]⟩ rfl (Fin.then (ab.seq (ab.aa ?_))))
     refine Oc oa (ae.ai ⟨[(4,I 0)],[]⟩ rfl (ab.ret ?_))
     obtain rfl:=Option.some.inj h
     refine Fin.ag ⟨[(4,_)],[]⟩ rfl (Fin.aA [.one (.i 0)] (.inl rfl) rfl (.cons (.tmp rfl) .nil) ⟨rfl,rfl⟩)
def gP (F:Nat) (a0:entry) (b0:entry):Option Int :=
 (dP F a0.id b0.id).bind fun x_1=>some x_1
theorem nX {F:Nat} {a0:entry} {b0:entry} {r:Int} (h:gP F a0 b0 = some r):av Tryz.prog [] 50 [] [.agg (ay a0),.agg (ay b0)] (Is [] (.b (.one (.i r)))):=by
 unfold gP at h
 refine av.intro 10 Tryz.func50 Tryz.ntmps50 rfl (by simp) fun E=>?_
 show ab _ E ⟨10,[],[],[]⟩ _ ⟨[(0,.b (.agg (ay a0))),(1,.b (.agg (ay b0)))],[]⟩ _
 refine ab.seq (ab.aa ?_)
 refine Oc (bq (k:=101) rfl rfl) (Oc (bq (k:=102) rfl rfl) (Oc oa ?_))
 refine ae.ai ⟨[(2,Pt 101 0),(3,Pt 102 0)],[(101,.box 87 (ay a0)),(102,.box 87 (ay b0))]⟩ rfl (ab.seq (ab.aa ?_))
 refine Oc (aq dW rfl rfl) (Oc (aF aM rfl rfl rfl) (Oc (aq dW rfl rfl) (Oc (aF aM rfl rfl rfl) ?_)))
 obtain ⟨x_1,e1,h⟩:=aL h
 refine Oc (ak (gG e1) sZ rfl rfl) (Oc oa ?_)
 refine ae.ai ⟨[(4,I x_1)],[]⟩ rfl (ab.ret ?_)
 obtain rfl:=Option.some.inj h
 refine Fin.ag ⟨[(4,_)],[]⟩ rfl (Fin.aA [.one (.i x_1)] (.inl rfl) rfl (.cons (.tmp rfl) .nil) ⟨rfl,rfl⟩)
def ed (F:Nat) (s10:List Int) (s20:List Int):Option Int :=
 Option.bind (iter F (fun x_1=>if (decide (x_1 < (s10.length:Int))) = true then ((a8 s10 x_1).bind fun x_2=>if (decide ((s20.length:Int) ≤ x_1)) = true then (some (.inr (.inr 1))) else ((a8 s20 x_1).bind fun x_3=>(dP F x_2 x_3).bind fun x_4=>if (decide (x_4 ≠ 0)) = true then (some (.inr (.inr x_4))) else (some (.inl (IntKind.i64.wrap (x_1 + 1)))))) else (some (.inr (.inl ())))) 0) (cL (fun _=>if (decide ((s10.length:Int) < (s20.length:Int))) = true then (some (-1)) else (some 0)) (fun y=>some y))
theorem lL {F:Nat} {s10:List Int} {s20:List Int} {r:Int} (h:ed F s10 s20 = some r):av Tryz.prog [] 53 [] [.one (.sl 1 (s10.map eI)),.one (.sl 1 (s20.map eI))] (Is [] (.b (.one (.i r)))):=by
 unfold ed at h
 refine av.intro 36 Tryz.func53 Tryz.ntmps53 rfl (by simp) fun E=>?_
 show ab _ E ⟨36,[],[],[]⟩ _ ⟨[(0,.b (.one (.sl 1 (s10.map eI)))),(1,.b (.one (.sl 1 (s20.map eI))))],[]⟩ _
 refine ab.seq (ab.aa ?_)
 refine Oc oa (ae.ai ⟨[(0,.b (.one (.sl 1 (s10.map eI)))),(1,.b (.one (.sl 1 (s20.map eI))))],[]⟩ rfl ?_)
 obtain ⟨v1,h2,h⟩:=aL h
 refine ab.c6 (v:=v1) (fun (_:Unit)=>⟨[(0,.b (.one (.sl 1 (s10.map eI)))),(1,.b (.one (.sl 1 (s20.map eI))))],[]⟩) (fun z=>.inl z) ?_ ?_
 ·refine ab.seq (ab.aa ?_)
  refine Oc om (Oc (aY fR rfl (List.length_map _)) (Oc om ?_))
  refine ae.ai ⟨[(0,_),(1,_),(9,.b (.one (.sl 1 (s10.map eI)))),(10,I (s10.length:Int)),(11,I 0)],[]⟩ rfl (ab.block (ab.cN h2 (fun (x_1:Int)=>⟨[(0,.b (.one (.sl 1 (s10.map eI)))),(1,.b (.one (.sl 1 (s20.map eI)))),(9,.b (.one (.sl 1 (s10.map eI)))),(10,I (s10.length:Int)),(11,I x_1)],[]⟩) [0,1,9,10,11] [] rfl ?_))
  rintro x_1 o3 h4 hy5
  refine ab.seq (ab.aa ?_)
  refine Oc (bb rfl rfl) (ae.ai ⟨[(0,_),(1,_),(9,_),(10,_),(11,_),(12,B (decide (x_1 < (s10.length:Int))))],[]⟩ rfl (ab.seq (ab.ite h4 rfl (fun _ h4=>?_) (fun _ h4=>?_))))
  ·refine ab.skip (Fin.ag ⟨[(0,_),(1,_),(9,_),(10,_),(11,_)],[]⟩ rfl (Fin.then (ab.seq (ab.block (ab.seq (ab.aa ?_))))))
   refine Oc om ?_
   obtain ⟨x_2,e6,h4⟩:=aL h4
   refine Oc (aN bN (aX e6) (bn (e:=eI) e6) rfl rfl) (Oc (az aM rfl rfl) (Oc oa (Oc oa ?_)))
   refine ae.ai ⟨[(0,_),(1,_),(5,I x_1),(6,I x_2),(9,_),(10,_),(11,_)],[]⟩ rfl (ab.seq (ab.seq (ab.aa ?_)))
   refine Oc om (Oc om (Oc (aY fR rfl (List.length_map _)) (Oc (nm rfl rfl) ?_)))
   refine ae.ai ⟨[(0,_),(1,_),(5,_),(6,_),(9,_),(10,_),(11,_),(19,B (decide ((s20.length:Int) ≤ x_1)))],[]⟩ rfl (ab.ite h4 rfl (fun _ h4=>?_) (fun _ h4=>?_))
   ·refine ab.seq (ab.aa ?_)
    refine Oc oa (ae.ai ⟨[(4,I 1)],[]⟩ rfl (ab.ret (Fin.aw (Fin.aS (Fin.aw ?_)))))
    obtain rfl:=hy5 _ (Option.some.inj h4).symm
    refine Fin.aw (Fin.aS (Fin.aw ?_))
    obtain rfl:=Option.some.inj h
    refine Fin.ag ⟨[(4,_)],[]⟩ rfl (Fin.aA [.one (.i 1)] (.inl rfl) rfl (.cons (.tmp rfl) .nil) ⟨rfl,rfl⟩)
   ·refine ab.skip (Fin.ag ⟨[(0,_),(1,_),(5,_),(6,_),(9,_),(10,_),(11,_)],[]⟩ rfl (Fin.then (ab.seq (ab.aa ?_))))
    refine Oc om (Oc om ?_)
    obtain ⟨x_3,e7,h4⟩:=aL h4
    refine Oc (aN bN (aX e7) (bn (e:=eI) e7) rfl rfl) (Oc (az aM rfl rfl) (Oc oa ?_))
    refine ae.ai ⟨[(0,_),(1,_),(6,_),(7,I x_3),(9,_),(10,_),(11,_)],[]⟩ rfl (ab.seq (ab.aa ?_))
    refine Oc om (Oc om ?_)
    obtain ⟨x_4,e8,h4⟩:=aL h4
    refine Oc (ak (gG e8) sZ rfl rfl) (Oc oa ?_)
    refine ae.ai ⟨[(0,_),(1,_),(8,I x_4),(9,_),(10,_),(11,_)],[]⟩ rfl (ab.seq (ab.aa ?_))
    refine Oc om (Oc (jY rfl rfl) ?_)
    refine ae.ai ⟨[(0,_),(1,_),(8,_),(9,_),(10,_),(11,_),(28,B (decide (x_4 ≠ 0)))],[]⟩ rfl (ab.ite h4 rfl (fun _ h4=>?_) (fun _ h4=>?_))
    ·refine ab.seq (ab.aa ?_)
     refine Oc om (Oc oa ?_)
     refine ae.ai ⟨[(4,I x_4)],[]⟩ rfl (ab.ret (Fin.aS (Fin.aw ?_)))
     obtain rfl:=hy5 _ (Option.some.inj h4).symm
     refine Fin.aw (Fin.aS (Fin.aw ?_))
     obtain rfl:=Option.some.inj h
     refine Fin.ag ⟨[(4,_)],[]⟩ rfl (Fin.aA [.one (.i x_4)] (.inl rfl) rfl (.cons (.tmp rfl) .nil) ⟨rfl,rfl⟩)
    ·refine ab.skip (Fin.au (Fin.ag ⟨[(0,_),(1,_),(9,_),(10,_),(11,_)],[]⟩ rfl (Fin.then (ab.aa ?_))))
     refine Oc (br rfl rfl) (Oc om ?_)
     refine ae.nil ?_
     exact Fin.bO [0,1,9,10,11] [] (IntKind.i64.wrap (x_1 + 1)) (Option.some.inj h4) rfl
  ·refine ab.exit (Fin.ax ?_)
   obtain rfl:=hy5 _ (Option.some.inj h4).symm
   refine Fin.ax (Fin.aQ ?_)
   exact Fin.join [0,1] [] () rfl rfl
 ·rintro _ hv
  subst v1
  refine ab.seq (ab.seq (ab.aa ?_))
  refine Oc om (Oc (aY fR rfl (List.length_map _)) (Oc om (Oc (aY fR rfl (List.length_map _)) (Oc (bb rfl rfl) ?_))))
  refine ae.ai ⟨[(35,B (decide ((s10.length:Int) < (s20.length:Int))))],[]⟩ rfl (ab.ite h rfl (fun _ h=>?_) (fun _ h=>?_))
  ·refine ab.seq (ab.aa ?_)
   refine Oc oa (ae.ai ⟨[(4,I (-1))],[]⟩ rfl (ab.ret (Fin.aw ?_)))
   obtain rfl:=Option.some.inj h
   refine Fin.ag ⟨[(4,_)],[]⟩ rfl (Fin.aA [.one (.i (-1))] (.inl rfl) rfl (.cons (.tmp rfl) .nil) ⟨rfl,rfl⟩)
  ·refine ab.skip (Fin.ag ⟨[],[]⟩ rfl (Fin.then (ab.seq (ab.aa ?_))))
   refine Oc oa (ae.ai ⟨[(4,I 0)],[]⟩ rfl (ab.ret ?_))
   obtain rfl:=Option.some.inj h
   refine Fin.ag ⟨[(4,_)],[]⟩ rfl (Fin.aA [.one (.i 0)] (.inl rfl) rfl (.cons (.tmp rfl) .nil) ⟨rfl,rfl⟩)
def lf (F:Nat) (vals0:List Int):Option Int :=
 Option.bind (iter F (fun x_1=>if (decide (x_1 < (vals0.length:Int))) = true then ((a8 vals0 x_1).bind fun x_2=>if (decide (x_2 ≠ 0)) = true then (some (.inr (.inr x_2))) else (some (.inl (IntKind.i64.wrap (x_1 + 1))))) else (some (.inr (.inl ())))) 0) (cL (fun _=>some 0) (fun y=>some y))
theorem sy {F:Nat} {vals0:List Int} {r:Int} (h:lf F vals0 = some r):av Tryz.prog [] 52 [] [.one (.sl 1 (vals0.map eI))] (Is [] (.b (.one (.i r)))):=by
 unfold lf at h
 refine av.intro 18 Tryz.func52 Tryz.ntmps52 rfl (by simp) fun E=>?_
 show ab _ E ⟨18,[],[],[]⟩ _ ⟨[(0,.b (.one (.sl 1 (vals0.map eI))))],[]⟩ _
 refine ab.seq (ab.aa ?_)
 refine Oc oa (ae.ai ⟨[(0,.b (.one (.sl 1 (vals0.map eI))))],[]⟩ rfl (ab.seq (ab.aa ?_)))
 refine Oc oa (ae.ai ⟨[(0,_),(3,I 0)],[]⟩ rfl ?_)
 obtain ⟨v1,h2,h⟩:=aL h
 refine ab.c6 (v:=v1) (fun (_:Unit)=>⟨[(3,I 0)],[]⟩) (fun z=>.inl z) ?_ ?_
 ·refine ab.seq (ab.aa ?_)
  refine Oc om (Oc (aY fR rfl (List.length_map _)) (Oc om ?_))
  refine ae.ai ⟨[(3,_),(6,.b (.one (.sl 1 (vals0.map eI)))),(7,I (vals0.length:Int)),(8,I 0)],[]⟩ rfl (ab.block (ab.cN h2 (fun (x_1:Int)=>⟨[(3,I 0),(6,.b (.one (.sl 1 (vals0.map eI)))),(7,I (vals0.length:Int)),(8,I x_1)],[]⟩) [3,6,7,8] [] rfl ?_))
  rintro x_1 o3 h4 hy5
  refine ab.seq (ab.aa ?_)
  refine Oc (bb rfl rfl) (ae.ai ⟨[(3,_),(6,_),(7,_),(8,_),(9,B (decide (x_1 < (vals0.length:Int))))],[]⟩ rfl (ab.seq (ab.ite h4 rfl (fun _ h4=>?_) (fun _ h4=>?_))))
  ·refine ab.skip (Fin.ag ⟨[(3,_),(6,_),(7,_),(8,_)],[]⟩ rfl (Fin.then (ab.seq (ab.block (ab.seq (ab.aa ?_))))))
   obtain ⟨x_2,e6,h4⟩:=aL h4
   refine Oc (aN bN (aX e6) (bn (e:=eI) e6) rfl rfl) (Oc (az aM rfl rfl) (Oc oa ?_))
   refine ae.ai ⟨[(3,_),(5,I x_2),(6,_),(7,_),(8,_)],[]⟩ rfl (ab.seq (ab.aa ?_))
   refine Oc om (Oc om (Oc (jY rfl rfl) ?_))
   refine ae.ai ⟨[(3,_),(5,_),(6,_),(7,_),(8,_),(14,B (decide (x_2 ≠ 0)))],[]⟩ rfl (ab.ite h4 rfl (fun _ h4=>?_) (fun _ h4=>?_))
   ·refine ab.seq (ab.aa ?_)
    refine Oc om (Oc oa ?_)
    refine ae.ai ⟨[(2,I x_2)],[]⟩ rfl (ab.ret (Fin.aS (Fin.aw ?_)))
    obtain rfl:=hy5 _ (Option.some.inj h4).symm
    refine Fin.aw (Fin.aS (Fin.aw ?_))
    obtain rfl:=Option.some.inj h
    refine Fin.ag ⟨[(2,_)],[]⟩ rfl (Fin.aA [.one (.i x_2)] (.inl rfl) rfl (.cons (.tmp rfl) .nil) ⟨rfl,rfl⟩)
   ·refine ab.skip (Fin.au (Fin.ag ⟨[(3,_),(6,_),(7,_),(8,_)],[]⟩ rfl (Fin.then (ab.aa ?_))))
    refine Oc (br rfl rfl) (Oc om ?_)
    refine ae.nil ?_
    exact Fin.bO [3,6,7,8] [] (IntKind.i64.wrap (x_1 + 1)) (Option.some.inj h4) rfl
  ·refine ab.exit (Fin.ax ?_)
   obtain rfl:=hy5 _ (Option.some.inj h4).symm
   refine Fin.ax (Fin.aQ ?_)
   exact Fin.join [3] [] () rfl rfl
 ·rintro _ hv
  subst v1
  refine ab.seq (ab.aa ?_)
  refine Oc om (Oc oa ?_)
  refine ae.ai ⟨[(2,I 0)],[]⟩ rfl (ab.ret ?_)
  obtain rfl:=Option.some.inj h
  refine Fin.ag ⟨[(2,_)],[]⟩ rfl (Fin.aA [.one (.i 0)] (.inl rfl) rfl (.cons (.tmp rfl) .nil) ⟨rfl,rfl⟩)
def gO (F:Nat) (a0:entry) (b0:entry):Option Int :=
 (ed F a0.b.Lo.l b0.b.Lo.l).bind fun x_1=>(dP F a0.id b0.id).bind fun x_2=>(lf F [x_1,x_2]).bind fun x_3=>some x_3
theorem nW {F:Nat} {a0:entry} {b0:entry} {r:Int} (h:gO F a0 b0 = some r):av Tryz.prog [] 51 [] [.agg (ay a0),.agg (ay b0)] (Is [] (.b (.one (.i r)))):=by
 unfold gO at h
 refine av.intro 19 Tryz.func51 Tryz.ntmps51 rfl (by simp) fun E=>?_
 show ab _ E ⟨19,[],[],[]⟩ _ ⟨[(0,.b (.agg (ay a0))),(1,.b (.agg (ay b0)))],[]⟩ _
 refine ab.seq (ab.aa ?_)
 refine Oc (mX rfl) (Oc (mX rfl) (Oc oa ?_))
 refine ae.ai ⟨[(2,.b (.aO (ay a0))),(3,.b (.aO (ay b0)))],[]⟩ rfl (ab.seq ?_)
 obtain ⟨x_1,e1,h⟩:=aL h
 obtain ⟨x_2,e2,h⟩:=aL h
 obtain ⟨x_3,e3,h⟩:=aL h
 refine ab.bE mixed 15 [.b (.aO (ao a0.b)),.b (.aO (ao a0.b)),.b (.one (.sl 1 (a0.b.Lo.l.map eI))),.b (.aO (ao b0.b)),.b (.aO (ao b0.b)),.b (.one (.sl 1 (b0.b.Lo.l.map eI))),I x_1,.b (.aO (ay a0)),I a0.id,.b (.aO (ay b0)),I b0.id,I x_2,.b (.one (.sl 1 ([x_1,x_2].map eI))),I x_3,I x_3] [4] [] (s':=⟨[(4,I x_3)],[]⟩) rfl ⟨fun _=>by exact .p (aD gB rfl rfl),fun _=>by exact .p (aD cV rfl rfl),fun _=>.p (oh (xs:=a0.b.Lo.l) (enc:=eI) bL rfl rfl rfl (fun _=>rfl) (by rw [fm]; decide)),fun _=>by exact .p (aD gB rfl rfl),fun _=>by exact .p (aD cV rfl rfl),fun _=>.p (oh (xs:=b0.b.Lo.l) (enc:=eI) bL rfl rfl rfl (fun _=>rfl) (by rw [fm]; decide)),fun _=>.p (ak (lL e1) goes53 rfl rfl),fun _=>by exact .p (aD dW rfl rfl),fun _=>.p (az aM rfl rfl),fun _=>by exact .p (aD dW rfl rfl),fun _=>.p (az aM rfl rfl),fun _=>.p (ak (gG e2) sZ rfl rfl),fun _=>.p (cR (es:=[x_1,x_2].map eI) bN rfl rfl (bP fun _=>rfl) rfl (by decide) (by decide)),fun _=>.p (ak (sy e3) goes52 rfl rfl),fun _=>.p oa,trivial⟩ rfl rfl (ab.ret ?_)
 obtain rfl:=Option.some.inj h
 refine Fin.ag ⟨[(4,_)],[]⟩ rfl (Fin.aA [.one (.i x_3)] (.inl rfl) rfl (.cons (.tmp rfl) .nil) ⟨rfl,rfl⟩)
def gn (F:Nat) (fn0:Nat) (a0:entry) (b0:entry):Option Int :=
 if fn0 = 50 then gP F a0 b0 else if fn0 = 51 then gO F a0 b0 else none
theorem pN {F:Nat} {fn0:Nat} {a0:entry} {b0:entry} {r:Int} (h:gn F fn0 a0 b0 = some r):av Tryz.prog [] fn0 [] [.agg (ay a0),.agg (ay b0)] (Is [] (.b (.one (.i r)))):=by
 unfold gn at h
 split at h
 ·next e=>subst e; exact nX h
 ·next=>
  split at h
  ·next e=>subst e; exact nW h
  ·next=>
   simp at h
theorem pO {F:Nat} {fn0:Nat} {a0:entry} {b0:entry} {r:Int} (h:gn F fn0 a0 b0 = some r):bp Tryz.prog fn0:=by
 unfold gn at h
 split at h
 ·next e=>subst e; exact goes50
 ·next=>
  split at h
  ·next e=>subst e; exact goes51
  ·next=>
   simp at h
theorem sf {F:Nat} {fn0:Nat} {a0:entry} {b0:entry} {r:Int} (h:gn F fn0 a0 b0 = some r):fn0 ≠ 0:=by
 rintro rfl
 exact absurd h (by simp [gn])
def cB (F:Nat) (b0:cg):Option Bool :=
 Option.bind (iter F (fun x_1=>if (decide (x_1 < 3)) = true then ((a8 b0.Lo.l x_1).bind fun x_2=>(a8 b0.Hi.l x_1).bind fun x_3=>(bD (!(decide (x_3 < x_2))) (a8 b0.Lo.l x_1)).bind fun x_4=>(bD (!((decide (x_3 < x_2)) || (decide (x_4 < (-1125899906842624))))) (a8 b0.Hi.l x_1)).bind fun x_5=>if (((decide (x_3 < x_2)) || (decide (x_4 < (-1125899906842624)))) || (decide (1125899906842624 < x_5))) = true then (some (.inr (.inr false))) else (some (.inl (IntKind.i64.wrap (x_1 + 1))))) else (some (.inr (.inl ())))) 0) (cL (fun _=>some true) (fun y=>some y))
theorem dw {F:Nat} {b0:cg} {r:Bool} (h:cB F b0 = some r):av Tryz.prog [] 14 [] [.agg (ao b0)] (Is [] (.b (.one (.bool r)))):=by
 unfold cB at h
 refine av.intro 31 Tryz.func14 Tryz.ntmps14 rfl (by simp) fun E=>?_
 show ab _ E ⟨31,[],[],[]⟩ _ ⟨[(0,.b (.agg (ao b0)))],[]⟩ _
 refine ab.seq (ab.aa ?_)
 refine Oc (bq (k:=101) rfl rfl) (Oc oa ?_)
 refine ae.ai ⟨[(1,Pt 101 0)],[(101,.box 25 (ao b0))]⟩ rfl ?_
 obtain ⟨v1,h2,h⟩:=aL h
 refine ab.c6 (v:=v1) (fun (_:Unit)=>⟨[],[]⟩) (fun z=>.inl z) ?_ ?_
 ·refine ab.seq (ab.aa ?_)
  refine Oc om (ae.ai ⟨[(1,_),(4,I 0)],[(101,_)]⟩ rfl (ab.block (ab.cN h2 (fun (x_1:Int)=>⟨[(1,Pt 101 0),(4,I x_1)],[(101,.box 25 (ao b0))]⟩) [1,4] [101] rfl ?_)))
  rintro x_1 o3 h4 hy5
  refine ab.seq (ab.aa ?_)
  refine Oc (bb rfl rfl) (ae.ai ⟨[(1,_),(4,_),(5,B (decide (x_1 < 3)))],[(101,_)]⟩ rfl (ab.seq (ab.ite h4 rfl (fun _ h4=>?_) (fun _ h4=>?_))))
  ·refine ab.skip (Fin.ag ⟨[(1,_),(4,_)],[(101,_)]⟩ rfl (Fin.then (ab.seq (ab.block (ab.seq (ab.aa ?_))))))
   refine Oc om (Oc oa ?_)
   refine ae.ai ⟨[(1,_),(3,I x_1),(4,_)],[(101,_)]⟩ rfl (ab.seq ?_)
   obtain ⟨x_2,e6,h4⟩:=aL h4
   obtain ⟨x_3,e7,h4⟩:=aL h4
   obtain ⟨x_4,e11,h4⟩:=aL h4
   obtain ⟨x_5,e17,h4⟩:=aL h4
   refine ab.bE mixed 23 [I x_1,Pt 101 0,.b (.ptr 101 (0 + (x_1:Int).toNat * 1)),I x_2,I x_1,Pt 101 3,.b (.ptr 101 (3 + (x_1:Int).toNat * 1)),I x_3,B (decide (x_3 < x_2)),B (decide (x_3 < x_2)),.opt (!(decide (x_3 < x_2))) (.one (.i x_1)),.opt (!(decide (x_3 < x_2))) (.ptr 101 0),.opt (!(decide (x_3 < x_2))) (.ptr 101 (0 + (x_1:Int).toNat * 1)),.opt (!(decide (x_3 < x_2))) (.one (.i x_4)),.opt (!(decide (x_3 < x_2))) (.one (.bool (decide (x_4 < (-1125899906842624))))),B ((decide (x_3 < x_2)) || (decide (x_4 < (-1125899906842624)))),B ((decide (x_3 < x_2)) || (decide (x_4 < (-1125899906842624)))),.opt (!((decide (x_3 < x_2)) || (decide (x_4 < (-1125899906842624))))) (.one (.i x_1)),.opt (!((decide (x_3 < x_2)) || (decide (x_4 < (-1125899906842624))))) (.ptr 101 3),.opt (!((decide (x_3 < x_2)) || (decide (x_4 < (-1125899906842624))))) (.ptr 101 (3 + (x_1:Int).toNat * 1)),.opt (!((decide (x_3 < x_2)) || (decide (x_4 < (-1125899906842624))))) (.one (.i x_5)),.opt (!((decide (x_3 < x_2)) || (decide (x_4 < (-1125899906842624))))) (.one (.bool (decide (1125899906842624 < x_5)))),B (((decide (x_3 < x_2)) || (decide (x_4 < (-1125899906842624)))) || (decide (1125899906842624 < x_5)))] [1,4,29] [101] (s':=⟨[(1,_),(4,_),(29,B (((decide (x_3 < x_2)) || (decide (x_4 < (-1125899906842624)))) || (decide (1125899906842624 < x_5))))],[(101,_)]⟩) rfl ⟨fun _=>.p om,fun _=>.p (aq cV rfl rfl),fun _=>.p (ba bL (aX e6) (dn e6) rfl rfl rfl),fun _=>.p (aF aM rfl rfl (cP (post:=((c3 .i64) b0.Hi)) (k:=.i64) [] e6 rfl rfl rfl)),fun _=>.p om,fun _=>.p (aq cU rfl rfl),fun _=>.p (ba bL (aX e7) (dn e7) rfl rfl rfl),fun _=>.p (aF aM rfl rfl (cP (post:=[]) (k:=.i64) ((c3 .i64) b0.Lo) e7 rfl rfl rfl)),fun _=>.p (gA rfl rfl),fun _=>.p om,fun _=>by exact .guard (!(decide (x_3 < x_2))) 1 [] (.plain rfl) (dD _) rfl rfl (fun g8=>trivial) (fun g8=>om),fun _=>by exact .guard (!(decide (x_3 < x_2))) 1 [] (.plain rfl) (dD _) rfl rfl (fun g9=>trivial) (fun g9=>aq cV rfl rfl),fun _=>by exact .guard (!(decide (x_3 < x_2))) 3 [17,18] (.plain rfl) (dD _) rfl rfl (fun g10=>⟨g10,g10,trivial⟩) (fun g10=>ba bL (aX (gc e11 g10)) (dn (gc e11 g10)) rfl rfl rfl),fun _=>by exact .guard (!(decide (x_3 < x_2))) 2 [19] (.plain rfl) (dD _) rfl rfl (fun g12=>⟨g12,trivial⟩) (fun g12=>aF aM rfl rfl (cP (post:=((c3 .i64) b0.Hi)) (k:=.i64) [] (gc e11 g12) rfl rfl rfl)),fun _=>by exact .guard (!(decide (x_3 < x_2))) 2 [20] (.plain rfl) (dD _) rfl rfl (fun g13=>⟨g13,trivial⟩) (fun g13=>bb rfl rfl),fun _=>.p (ct (fun e=>by first | (rw [e]; rfl) | (simp only at e; rw [e]; rfl)) rfl rfl rfl rfl),fun _=>.p om,fun _=>by exact .guard (!((decide (x_3 < x_2)) || (decide (x_4 < (-1125899906842624))))) 1 [] (.plain rfl) (dD _) rfl rfl (fun g14=>trivial) (fun g14=>om),fun _=>by exact .guard (!((decide (x_3 < x_2)) || (decide (x_4 < (-1125899906842624))))) 1 [] (.plain rfl) (dD _) rfl rfl (fun g15=>trivial) (fun g15=>aq cU rfl rfl),fun _=>by exact .guard (!((decide (x_3 < x_2)) || (decide (x_4 < (-1125899906842624))))) 3 [24,25] (.plain rfl) (dD _) rfl rfl (fun g16=>⟨g16,g16,trivial⟩) (fun g16=>ba bL (aX (gc e17 g16)) (dn (gc e17 g16)) rfl rfl rfl),fun _=>by exact .guard (!((decide (x_3 < x_2)) || (decide (x_4 < (-1125899906842624))))) 2 [26] (.plain rfl) (dD _) rfl rfl (fun g18=>⟨g18,trivial⟩) (fun g18=>aF aM rfl rfl (cP (post:=[]) (k:=.i64) ((c3 .i64) b0.Lo) (gc e17 g18) rfl rfl rfl)),fun _=>by exact .guard (!((decide (x_3 < x_2)) || (decide (x_4 < (-1125899906842624))))) 2 [27] (.plain rfl) (dD _) rfl rfl (fun g19=>⟨g19,trivial⟩) (fun g19=>gA rfl rfl),fun _=>.p (ct (fun e=>by first | (rw [e]; rfl) | (simp only at e; rw [e]; rfl)) rfl rfl rfl rfl),trivial⟩ rfl rfl ?_
   refine ab.ite h4 rfl (fun _ h4=>?_) (fun _ h4=>?_)
   ·refine ab.seq (ab.aa ?_)
    refine Oc oa (ae.ai ⟨[(2,B false)],[]⟩ rfl (ab.ret (Fin.aS (Fin.aw ?_))))
    obtain rfl:=hy5 _ (Option.some.inj h4).symm
    refine Fin.aw (Fin.aS (Fin.aw ?_))
    obtain rfl:=Option.some.inj h
    refine Fin.ag ⟨[(2,_)],[]⟩ rfl (Fin.aA [.one (.bool false)] (.inl rfl) rfl (.cons (.tmp rfl) .nil) ⟨rfl,rfl⟩)
   ·refine ab.skip (Fin.au (Fin.ag ⟨[(1,_),(4,_)],[(101,_)]⟩ rfl (Fin.then (ab.aa ?_))))
    refine Oc (br rfl rfl) (Oc om ?_)
    refine ae.nil ?_
    exact Fin.bO [1,4] [101] (IntKind.i64.wrap (x_1 + 1)) (Option.some.inj h4) rfl
  ·refine ab.exit (Fin.ax ?_)
   obtain rfl:=hy5 _ (Option.some.inj h4).symm
   refine Fin.ax (Fin.aQ ?_)
   exact Fin.join [] [] () rfl rfl
 ·rintro _ hv
  subst v1
  refine ab.seq (ab.aa ?_)
  refine Oc oa (ae.ai ⟨[(2,B true)],[]⟩ rfl (ab.ret ?_))
  obtain rfl:=Option.some.inj h
  refine Fin.ag ⟨[(2,_)],[]⟩ rfl (Fin.aA [.one (.bool true)] (.inl rfl) rfl (.cons (.tmp rfl) .nil) ⟨rfl,rfl⟩)
def hZ (F:Nat) (b0:cg):Option Bool :=
 (cB F b0).bind fun x_1=>some (!x_1)
theorem mD {F:Nat} {b0:cg} {r:Bool} (h:hZ F b0 = some r):av Tryz.prog [] 41 [] [.agg (ao b0)] (Is [] (.b (.one (.bool r)))):=by
 unfold hZ at h
 refine av.intro 6 Tryz.func41 Tryz.ntmps41 rfl (by simp) fun E=>?_
 show ab _ E ⟨6,[],[],[]⟩ _ ⟨[(0,.b (.agg (ao b0)))],[]⟩ _
 refine ab.seq (ab.aa ?_)
 refine Oc (bq (k:=101) rfl rfl) (Oc oa ?_)
 refine ae.ai ⟨[(1,Pt 101 0)],[(101,.box 25 (ao b0))]⟩ rfl (ab.seq (ab.aa ?_))
 refine Oc (lp aC) ?_
 obtain ⟨x_1,e1,h⟩:=aL h
 refine Oc (ak (dw e1) nw rfl rfl) (Oc (di rfl) (Oc oa ?_))
 refine ae.ai ⟨[(2,B (!x_1))],[]⟩ rfl (ab.ret ?_)
 obtain rfl:=Option.some.inj h
 refine Fin.ag ⟨[(2,_)],[]⟩ rfl (Fin.aA [.one (.bool (!x_1))] (.inl rfl) rfl (.cons (.tmp rfl) .nil) ⟨rfl,rfl⟩)
def lg (F:Nat) (fn0:Nat) (b0:cg):Option Bool :=
 if fn0 = 41 then hZ F b0 else none
theorem sA {F:Nat} {fn0:Nat} {b0:cg} {r:Bool} (h:lg F fn0 b0 = some r):av Tryz.prog [] fn0 [] [.agg (ao b0)] (Is [] (.b (.one (.bool r)))):=by
 unfold lg at h
 split at h
 ·next e=>subst e; exact mD h
 ·next=>
  simp at h
theorem sB {F:Nat} {fn0:Nat} {b0:cg} {r:Bool} (h:lg F fn0 b0 = some r):bp Tryz.prog fn0:=by
 unfold lg at h
 split at h
 ·next e=>subst e; exact goes41
 ·next=>
  simp at h
def hY (F:Nat) (n0:dh bu):Option Bool :=
 some n0.dG
theorem mA {F:Nat} {n0:dh bu} {r:Bool} (h:hY F n0 = some r):av Tryz.prog [] 123 [] [.one (.tr af n0)] (Is [] (.b (.one (.bool r)))):=by
 unfold hY at h
 refine av.intro 5 Tryz.func123 Tryz.ntmps123 rfl (by simp) fun E=>?_
 show ab _ E ⟨5,[],[],[]⟩ _ ⟨[(0,.b (.one (.tr af n0)))],[]⟩ _
 refine ab.seq (ab.aa ?_)
 refine Oc oa (ae.ai ⟨[(0,.b (.one (.tr af n0)))],[]⟩ rfl (ab.seq (ab.aa ?_)))
 refine Oc om (Oc (fW me rfl) (Oc oa ?_))
 refine ae.ai ⟨[(2,B n0.dG)],[]⟩ rfl (ab.ret ?_)
 obtain rfl:=Option.some.inj h
 refine Fin.ag ⟨[(2,_)],[]⟩ rfl (Fin.aA [.one (.bool n0.dG)] (.inl rfl) rfl (.cons (.tmp rfl) .nil) ⟨rfl,rfl⟩)
def iC (F:Nat) (fn0:Nat) (n0:dh bu):Option Bool :=
 if fn0 = 123 then hY F n0 else none
theorem na {F:Nat} {fn0:Nat} {n0:dh bu} {r:Bool} (h:iC F fn0 n0 = some r):av Tryz.prog [] fn0 [] [.one (.tr af n0)] (Is [] (.b (.one (.bool r)))):=by
 unfold iC at h
 split at h
 ·next e=>subst e; exact mA h
 ·next=>
  simp at h
theorem nc {F:Nat} {fn0:Nat} {n0:dh bu} {r:Bool} (h:iC F fn0 n0 = some r):bp Tryz.prog fn0:=by
 unfold iC at h
 split at h
 ·next e=>subst e; exact goes123
 ·next=>
  simp at h
def iA (F:Nat) (b0:cg) (n0:Int):Option (cg × Int) :=
 (cB F b0).bind fun x_1=>fv (((!x_1) || (decide (n0 < 0))) || (decide (2251799813685248 < n0))) fun x_2=>if x_2 = true then (some ((⟨A3.zero,A3.zero⟩:cg),1)) else (Option.bind (iter F (dd fun b_4 x_5=>if (decide (x_5 < 3)) = true then ((a8 b_4.Lo.l x_5).bind fun x_7=>(a8 b_4.Lo.l x_5).bind fun x_8=>(a8 b_4.Hi.l x_5).bind fun x_9=>(a8 b_4.Hi.l x_5).bind fun x_10=>some (.inl ((⟨b_4.Lo.set x_5 (IntKind.i64.wrap (x_7 - n0)),b_4.Hi.set x_5 (IntKind.i64.wrap (x_9 + n0))⟩:cg),IntKind.i64.wrap (x_5 + 1)))) else (some (.inr b_4))) (b0,0)) (fun b_3=>(cB F b_3).bind fun x_11=>if (!x_11) = true then (some ((⟨A3.zero,A3.zero⟩:cg),1)) else (some (b_3,0))))
theorem kJ {F:Nat} {b0:cg} {n0:Int} {r:cg × Int} (h:iA F b0 n0 = some r):av Tryz.prog [] 11 [] [.agg (ao b0),.one (.i n0)] (Is [] (.dF [.agg (ao r.1),.one (.i r.2)])):=by
 unfold iA at h
 refine av.intro 44 Tryz.func11 Tryz.ntmps11 rfl (by simp) fun E=>?_
 show ab _ E ⟨44,[],[],[]⟩ _ ⟨[(0,.b (.agg (ao b0))),(1,I n0)],[]⟩ _
 refine ab.seq (ab.aa ?_)
 refine Oc (bq (k:=101) rfl rfl) (Oc (aT (k:=102) fa rfl) (Oc oa ?_))
 refine ae.ai ⟨[(1,I n0),(2,Pt 101 0),(4,Pt 102 0)],[(101,.box 25 (ao b0)),(102,.box 25 ((c3 .i64) A3.zero ++ ((c3 .i64) A3.zero)))]⟩ rfl (ab.seq (ab.seq (ab.aa ?_)))
 refine Oc (lp aC) ?_
 obtain ⟨x_1,e1,h⟩:=aL h
 refine Oc (ak (dw e1) nw rfl rfl) (Oc (di rfl) (Oc om ?_))
 refine qF (!(!x_1)) [] (fun g2=>trivial) (fun g2=>om) (ae.ag ⟨[(1,_),(2,_),(4,_),(10,B (!x_1)),(11,.opt (!(!x_1)) (.one (.i n0)))],[(101,_),(102,_)]⟩ rfl (qF (!(!x_1)) [11] (fun g3=>by exact ⟨g3,trivial⟩) (fun g3=>bb rfl rfl) (Oc (ct (fun e=>by first | (rw [e]; rfl) | (simp only at e; rw [e]; rfl)) rfl rfl rfl rfl) (Oc om ?_))))
 refine qF (!((!x_1) || (decide (n0 < 0)))) [] (fun g4=>trivial) (fun g4=>om) (qF (!((!x_1) || (decide (n0 < 0)))) [15] (fun g5=>by exact ⟨g5,trivial⟩) (fun g5=>gA rfl rfl) (ae.oS h rfl (ct (fun e=>by first | (rw [e]; rfl) | (simp only at e; rw [e]; rfl)) rfl rfl rfl rfl) (fun x_2 h=>?_)))
 refine ae.ai ⟨[(1,_),(2,_),(4,_),(17,B x_2)],[(101,_),(102,_)]⟩ rfl (ab.ite h rfl (fun _ h=>?_) (fun _ h=>?_))
 ·refine ab.seq (ab.aa ?_)
  refine Oc (bV nB rfl rfl) (Oc (aB aC rfl rfl rfl rfl (Nat.le_of_ble_eq_true rfl) rfl) (Oc oa ?_))
  refine ae.ai ⟨[(4,_),(5,I 1)],[(102,_)]⟩ rfl (ab.ret (Fin.aw ?_))
  obtain rfl:=Option.some.inj h
  refine Fin.ag ⟨[(4,_),(5,_)],[(102,_)]⟩ rfl (Fin.aA [.agg ((c3 .i64) A3.zero ++ ((c3 .i64) A3.zero)),.one (.i 1)] (.inl rfl) rfl (.cons (.agg aC rfl rfl rfl rfl) (.cons (.tmp rfl) .nil)) ⟨rfl,rfl⟩)
 ·refine ab.skip (Fin.ag ⟨[(1,_),(2,_),(4,_)],[(101,_),(102,_)]⟩ rfl (Fin.then ?_))
  obtain ⟨v6,h7,h⟩:=aL h
  refine ab.c6 (v:=v6) (fun (b_3:cg)=>⟨[(2,Pt 101 0),(4,Pt 102 0)],[(101,.box 25 (ao b_3)),(102,.box 25 ((c3 .i64) A3.zero ++ ((c3 .i64) A3.zero)))]⟩) (fun z=>z) ?_ ?_
  ·refine ab.seq (ab.aa ?_)
   refine Oc om (ae.ai ⟨[(1,_),(2,_),(4,_),(19,I 0)],[(101,_),(102,_)]⟩ rfl (ab.block (ab.cN h7 (dd fun (b_4:cg) (x_5:Int)=>⟨[(1,I n0),(2,Pt 101 0),(4,Pt 102 0),(19,I x_5)],[(101,.box 25 (ao b_4)),(102,.box 25 ((c3 .i64) A3.zero ++ ((c3 .i64) A3.zero)))]⟩) [1,2,4,19] [101,102] rfl ?_)))
   rintro ⟨b_4,x_5⟩ o8 h9 hy10
   refine ab.seq (ab.aa ?_)
   refine Oc (bb rfl rfl) (ae.ai ⟨[(1,_),(2,_),(4,_),(19,_),(20,B (decide (x_5 < 3)))],[(101,_),(102,_)]⟩ rfl (ab.seq (ab.ite h9 rfl (fun _ h9=>?_) (fun _ h9=>?_))))
   ·refine ab.skip (Fin.ag ⟨[(1,_),(2,_),(4,_),(19,_)],[(101,_),(102,_)]⟩ rfl (Fin.then (ab.seq (ab.block (ab.seq (ab.aa ?_))))))
    refine Oc om (Oc oa ?_)
    refine ae.ai ⟨[(1,_),(2,_),(4,_),(6,I x_5),(19,_)],[(101,_),(102,_)]⟩ rfl (ab.seq (ab.aa ?_))
    refine Oc om (Oc (aq cV rfl rfl) ?_)
    obtain ⟨x_7,e11,h9⟩:=aL h9
    refine Oc (ba bL (aX e11) (dn e11) rfl rfl rfl) (Oc (aF aM rfl rfl (cP (post:=((c3 .i64) b_4.Hi)) (k:=.i64) [] e11 rfl rfl rfl)) (Oc om (Oc (vo rfl rfl) (Oc (aq cV rfl rfl) ?_))))
    obtain ⟨x_8,e12,h9⟩:=aL h9
    refine Oc (ba bL (aX e12) (dn e12) rfl rfl rfl) (Oc (fe aM rfl rfl rfl (qR (post:=((c3 .i64) b_4.Hi)) (k:=.i64) [] e12 rfl rfl rfl) (oK (post:=((c3 .i64) b_4.Hi)) (k:=.i64) [] e12 rfl rfl (A3.rA b_4.Lo x_5 (IntKind.i64.wrap (x_7 - n0))) rfl rfl)) ?_)
    refine ae.ai ⟨[(1,_),(2,_),(4,_),(6,_),(19,_)],[(101,.box 25 ((c3 .i64) (b_4.Lo.set x_5 (IntKind.i64.wrap (x_7 - n0))) ++ ((c3 .i64) b_4.Hi))),(102,_)]⟩ rfl (ab.aa (Oc om (Oc (aq cU rfl rfl) ?_)))
    obtain ⟨x_9,e13,h9⟩:=aL h9
    refine Oc (ba bL (aX e13) (dn e13) rfl rfl rfl) (Oc (aF aM rfl rfl (cP (post:=[]) (k:=.i64) ((c3 .i64) (b_4.Lo.set x_5 (IntKind.i64.wrap (x_7 - n0)))) e13 rfl rfl rfl)) (Oc om (Oc (br rfl rfl) (Oc (aq cU rfl rfl) ?_))))
    obtain ⟨x_10,e14,h9⟩:=aL h9
    refine Oc (ba bL (aX e14) (dn e14) rfl rfl rfl) (Oc (fe aM rfl rfl rfl (qR (post:=[]) (k:=.i64) ((c3 .i64) (b_4.Lo.set x_5 (IntKind.i64.wrap (x_7 - n0)))) e14 rfl rfl rfl) (oK (post:=[]) (k:=.i64) ((c3 .i64) (b_4.Lo.set x_5 (IntKind.i64.wrap (x_7 - n0)))) e14 rfl rfl (A3.rA b_4.Hi x_5 (IntKind.i64.wrap (x_9 + n0))) rfl rfl)) ?_)
    refine ae.nil (Fin.au (Fin.ag ⟨[(1,_),(2,_),(4,_),(19,_)],[(101,.box 25 ((c3 .i64) (b_4.Lo.set x_5 (IntKind.i64.wrap (x_7 - n0))) ++ ((c3 .i64) (b_4.Hi.set x_5 (IntKind.i64.wrap (x_9 + n0)))))),(102,_)]⟩ rfl (Fin.then (ab.aa ?_))))
    refine Oc (br rfl rfl) (Oc om ?_)
    refine ae.nil ?_
    exact Fin.bO [1,2,4,19] [101,102] ((⟨b_4.Lo.set x_5 (IntKind.i64.wrap (x_7 - n0)),b_4.Hi.set x_5 (IntKind.i64.wrap (x_9 + n0))⟩:cg),IntKind.i64.wrap (x_5 + 1)) (Option.some.inj h9) rfl
   ·refine ab.exit (Fin.ax ?_)
    obtain rfl:=hy10 _ (Option.some.inj h9).symm
    refine Fin.ax (Fin.aQ ?_)
    exact Fin.join [2,4] [101,102] b_4 rfl rfl
  ·rintro b_3 hv
   subst v6
   refine ab.seq (ab.seq (ab.aa ?_))
   refine Oc (lp aC) ?_
   obtain ⟨x_11,e15,h⟩:=aL h
   refine Oc (ak (dw e15) nw rfl rfl) (Oc (di rfl) ?_)
   refine ae.ai ⟨[(2,_),(4,_),(41,B (!x_11))],[(101,_),(102,_)]⟩ rfl (ab.ite h rfl (fun _ h=>?_) (fun _ h=>?_))
   ·refine ab.seq (ab.aa ?_)
    refine Oc (bV nB rfl rfl) (Oc (aB aC rfl rfl rfl rfl (Nat.le_of_ble_eq_true rfl) rfl) (Oc oa ?_))
    refine ae.ai ⟨[(4,_),(5,I 1)],[(102,_)]⟩ rfl (ab.ret (Fin.aw ?_))
    obtain rfl:=Option.some.inj h
    refine Fin.ag ⟨[(4,_),(5,_)],[(102,_)]⟩ rfl (Fin.aA [.agg ((c3 .i64) A3.zero ++ ((c3 .i64) A3.zero)),.one (.i 1)] (.inl rfl) rfl (.cons (.agg aC rfl rfl rfl rfl) (.cons (.tmp rfl) .nil)) ⟨rfl,rfl⟩)
   ·refine ab.skip (Fin.ag ⟨[(2,_),(4,_)],[(101,_),(102,_)]⟩ rfl (Fin.then (ab.seq (ab.aa ?_))))
    refine Oc (lp aC) (Oc (aB aC rfl rfl rfl rfl (Nat.le_of_ble_eq_true rfl) rfl) (Oc oa ?_))
    refine ae.ai ⟨[(4,_),(5,I 0)],[(102,.box 25 (ao b_3))]⟩ rfl (ab.ret ?_)
    obtain rfl:=Option.some.inj h
    refine Fin.ag ⟨[(4,_),(5,_)],[(102,_)]⟩ rfl (Fin.aA [.agg (ao b_3),.one (.i 0)] (.inl rfl) rfl (.cons (.agg aC rfl rfl rfl rfl) (.cons (.tmp rfl) .nil)) ⟨rfl,rfl⟩)
def bT (F:Nat) (b0:cg):Option Bool :=
 Option.bind (iter F (fun i_1=>if (decide (i_1 < 3)) = true then ((a8 b0.Lo.l i_1).bind fun x_2=>(a8 b0.Hi.l i_1).bind fun x_3=>(bD (!(decide (x_3 < x_2))) (a8 b0.Lo.l i_1)).bind fun x_4=>(bD (!((decide (x_3 < x_2)) || (decide (x_4 < (-1125899906842624))))) (a8 b0.Hi.l i_1)).bind fun x_5=>if (((decide (x_3 < x_2)) || (decide (x_4 < (-1125899906842624)))) || (decide (1125899906842624 < x_5))) = true then (some (.inr (.inr false))) else (some (.inl (IntKind.i64.wrap (i_1 + 1))))) else (some (.inr (.inl ())))) 0) (cL (fun _=>some true) (fun y=>some y))
theorem dQ {F:Nat} {b0:cg} {r:Bool} (h:bT F b0 = some r):av Tryz.prog [] 13 [] [.agg (ao b0)] (Is [] (.b (.one (.bool r)))):=by
 unfold bT at h
 refine av.intro 31 Tryz.func13 Tryz.ntmps13 rfl (by simp) fun E=>?_
 show ab _ E ⟨31,[],[],[]⟩ _ ⟨[(0,.b (.agg (ao b0)))],[]⟩ _
 refine ab.seq (ab.aa ?_)
 refine Oc (bq (k:=101) rfl rfl) (Oc oa ?_)
 refine ae.ai ⟨[(1,Pt 101 0)],[(101,.box 25 (ao b0))]⟩ rfl ?_
 obtain ⟨v1,h2,h⟩:=aL h
 refine ab.c6 (v:=v1) (fun (_:Unit)=>⟨[],[]⟩) (fun z=>.inl z) ?_ ?_
 ·refine ab.seq (ab.aa ?_)
  refine Oc oa (ae.ai ⟨[(1,_),(3,I 0)],[(101,_)]⟩ rfl (ab.block (ab.cN h2 (fun (i_1:Int)=>⟨[(1,Pt 101 0),(3,I i_1)],[(101,.box 25 (ao b0))]⟩) [1,3] [101] rfl ?_)))
  rintro i_1 o3 h4 hy5
  refine ab.seq (ab.seq (ab.aa ?_))
  refine Oc om (Oc (bb rfl rfl) ?_)
  refine ae.ai ⟨[(1,_),(3,_),(5,B (decide (i_1 < 3)))],[(101,_)]⟩ rfl (ab.ite h4 rfl (fun _ h4=>?_) (fun _ h4=>?_))
  ·refine ab.skip (Fin.ag ⟨[(1,_),(3,_)],[(101,_)]⟩ rfl (Fin.then (ab.seq (ab.block (ab.seq ?_)))))
   refine ab.ag ⟨[(1,_),(3,_)],[(101,_)]⟩ rfl ?_
   obtain ⟨x_2,e6,h4⟩:=aL h4
   obtain ⟨x_3,e7,h4⟩:=aL h4
   obtain ⟨x_4,e11,h4⟩:=aL h4
   obtain ⟨x_5,e17,h4⟩:=aL h4
   refine ab.bE mixed 23 [I i_1,Pt 101 0,.b (.ptr 101 (0 + (i_1:Int).toNat * 1)),I x_2,I i_1,Pt 101 3,.b (.ptr 101 (3 + (i_1:Int).toNat * 1)),I x_3,B (decide (x_3 < x_2)),B (decide (x_3 < x_2)),.opt (!(decide (x_3 < x_2))) (.one (.i i_1)),.opt (!(decide (x_3 < x_2))) (.ptr 101 0),.opt (!(decide (x_3 < x_2))) (.ptr 101 (0 + (i_1:Int).toNat * 1)),.opt (!(decide (x_3 < x_2))) (.one (.i x_4)),.opt (!(decide (x_3 < x_2))) (.one (.bool (decide (x_4 < (-1125899906842624))))),B ((decide (x_3 < x_2)) || (decide (x_4 < (-1125899906842624)))),B ((decide (x_3 < x_2)) || (decide (x_4 < (-1125899906842624)))),.opt (!((decide (x_3 < x_2)) || (decide (x_4 < (-1125899906842624))))) (.one (.i i_1)),.opt (!((decide (x_3 < x_2)) || (decide (x_4 < (-1125899906842624))))) (.ptr 101 3),.opt (!((decide (x_3 < x_2)) || (decide (x_4 < (-1125899906842624))))) (.ptr 101 (3 + (i_1:Int).toNat * 1)),.opt (!((decide (x_3 < x_2)) || (decide (x_4 < (-1125899906842624))))) (.one (.i x_5)),.opt (!((decide (x_3 < x_2)) || (decide (x_4 < (-1125899906842624))))) (.one (.bool (decide (1125899906842624 < x_5)))),B (((decide (x_3 < x_2)) || (decide (x_4 < (-1125899906842624)))) || (decide (1125899906842624 < x_5)))] [1,3,30] [101] (s':=⟨[(1,_),(3,_),(30,B (((decide (x_3 < x_2)) || (decide (x_4 < (-1125899906842624)))) || (decide (1125899906842624 < x_5))))],[(101,_)]⟩) rfl ⟨fun _=>.p om,fun _=>.p (aq cV rfl rfl),fun _=>.p (ba bL (aX e6) (dn e6) rfl rfl rfl),fun _=>.p (aF aM rfl rfl (cP (post:=((c3 .i64) b0.Hi)) (k:=.i64) [] e6 rfl rfl rfl)),fun _=>.p om,fun _=>.p (aq cU rfl rfl),fun _=>.p (ba bL (aX e7) (dn e7) rfl rfl rfl),fun _=>.p (aF aM rfl rfl (cP (post:=[]) (k:=.i64) ((c3 .i64) b0.Lo) e7 rfl rfl rfl)),fun _=>.p (gA rfl rfl),fun _=>.p om,fun _=>by exact .guard (!(decide (x_3 < x_2))) 1 [] (.plain rfl) (dD _) rfl rfl (fun g8=>trivial) (fun g8=>om),fun _=>by exact .guard (!(decide (x_3 < x_2))) 1 [] (.plain rfl) (dD _) rfl rfl (fun g9=>trivial) (fun g9=>aq cV rfl rfl),fun _=>by exact .guard (!(decide (x_3 < x_2))) 3 [18,19] (.plain rfl) (dD _) rfl rfl (fun g10=>⟨g10,g10,trivial⟩) (fun g10=>ba bL (aX (gc e11 g10)) (dn (gc e11 g10)) rfl rfl rfl),fun _=>by exact .guard (!(decide (x_3 < x_2))) 2 [20] (.plain rfl) (dD _) rfl rfl (fun g12=>⟨g12,trivial⟩) (fun g12=>aF aM rfl rfl (cP (post:=((c3 .i64) b0.Hi)) (k:=.i64) [] (gc e11 g12) rfl rfl rfl)),fun _=>by exact .guard (!(decide (x_3 < x_2))) 2 [21] (.plain rfl) (dD _) rfl rfl (fun g13=>⟨g13,trivial⟩) (fun g13=>bb rfl rfl),fun _=>.p (ct (fun e=>by first | (rw [e]; rfl) | (simp only at e; rw [e]; rfl)) rfl rfl rfl rfl),fun _=>.p om,fun _=>by exact .guard (!((decide (x_3 < x_2)) || (decide (x_4 < (-1125899906842624))))) 1 [] (.plain rfl) (dD _) rfl rfl (fun g14=>trivial) (fun g14=>om),fun _=>by exact .guard (!((decide (x_3 < x_2)) || (decide (x_4 < (-1125899906842624))))) 1 [] (.plain rfl) (dD _) rfl rfl (fun g15=>trivial) (fun g15=>aq cU rfl rfl),fun _=>by exact .guard (!((decide (x_3 < x_2)) || (decide (x_4 < (-1125899906842624))))) 3 [25,26] (.plain rfl) (dD _) rfl rfl (fun g16=>⟨g16,g16,trivial⟩) (fun g16=>ba bL (aX (gc e17 g16)) (dn (gc e17 g16)) rfl rfl rfl),fun _=>by exact .guard (!((decide (x_3 < x_2)) || (decide (x_4 < (-1125899906842624))))) 2 [27] (.plain rfl) (dD _) rfl rfl (fun g18=>⟨g18,trivial⟩) (fun g18=>aF aM rfl rfl (cP (post:=[]) (k:=.i64) ((c3 .i64) b0.Lo) (gc e17 g18) rfl rfl rfl)),fun _=>by exact .guard (!((decide (x_3 < x_2)) || (decide (x_4 < (-1125899906842624))))) 2 [28] (.plain rfl) (dD _) rfl rfl (fun g19=>⟨g19,trivial⟩) (fun g19=>gA rfl rfl),fun _=>.p (ct (fun e=>by first | (rw [e]; rfl) | (simp only at e; rw [e]; rfl)) rfl rfl rfl rfl),trivial⟩ rfl rfl ?_
   refine ab.ite h4 rfl (fun _ h4=>?_) (fun _ h4=>?_)
   ·refine ab.seq (ab.aa ?_)
    refine Oc oa (ae.ai ⟨[(2,B false)],[]⟩ rfl (ab.ret (Fin.aS (Fin.aw ?_))))
    obtain rfl:=hy5 _ (Option.some.inj h4).symm
    refine Fin.aw (Fin.aS (Fin.aw ?_))
    obtain rfl:=Option.some.inj h
    refine Fin.ag ⟨[(2,_)],[]⟩ rfl (Fin.aA [.one (.bool false)] (.inl rfl) rfl (.cons (.tmp rfl) .nil) ⟨rfl,rfl⟩)
   ·refine ab.skip (Fin.au (Fin.ag ⟨[(1,_),(3,_)],[(101,_)]⟩ rfl (Fin.then (ab.aa ?_))))
    refine Oc om (Oc (br rfl rfl) (Oc oa ?_))
    refine ae.nil ?_
    exact Fin.bO [1,3] [101] (IntKind.i64.wrap (i_1 + 1)) (Option.some.inj h4) rfl
  ·refine ab.exit (Fin.ax ?_)
   obtain rfl:=hy5 _ (Option.some.inj h4).symm
   refine Fin.ax (Fin.aQ ?_)
   exact Fin.join [] [] () rfl rfl
 ·rintro _ hv
  subst v1
  refine ab.seq (ab.aa ?_)
  refine Oc oa (ae.ai ⟨[(2,B true)],[]⟩ rfl (ab.ret ?_))
  obtain rfl:=Option.some.inj h
  refine Fin.ag ⟨[(2,_)],[]⟩ rfl (Fin.aA [.one (.bool true)] (.inl rfl) rfl (.cons (.tmp rfl) .nil) ⟨rfl,rfl⟩)
def cu (F:Nat) (a0:Int) (b0:Int) (c0:Int) (d0:Int) (e0:Int) (f0:Int):Option cg :=
 fv (⟨(⟨a0,b0,c0⟩:A3),(⟨d0,e0,f0⟩:A3)⟩:cg) fun x_1=>some x_1
theorem cT {F:Nat} {a0:Int} {b0:Int} {c0:Int} {d0:Int} {e0:Int} {f0:Int} {r:cg} (h:cu F a0 b0 c0 d0 e0 f0 = some r):av Tryz.prog [] 39 [] [.one (.i a0),.one (.i b0),.one (.i c0),.one (.i d0),.one (.i e0),.one (.i f0)] (Is [] (.b (.agg (ao r)))):=by
 unfold cu at h
 refine av.intro 22 Tryz.func39 Tryz.ntmps39 rfl (by simp) fun E=>?_
 show ab _ E ⟨22,[],[],[]⟩ _ ⟨[(0,I a0),(1,I b0),(2,I c0),(3,I d0),(4,I e0),(5,I f0)],[]⟩ _
 refine ab.seq (ab.aa ?_)
 refine Oc (aT (k:=101) fa rfl) (ae.ai ⟨[(0,I a0),(1,I b0),(2,I c0),(3,I d0),(4,I e0),(5,I f0),(12,Pt 101 0)],[(101,.box 25 ((c3 .i64) A3.zero ++ ((c3 .i64) A3.zero)))]⟩ rfl (ab.seq (ab.aa ?_)))
 refine Oc om (Oc om (Oc om (Oc (dX ql rfl rfl) (Oc om (Oc om ?_)))))
 refine Oc om (ae.ag ⟨[(12,_),(16,.b (.agg [.i a0,.i b0,.i c0])),(17,I d0),(18,I e0),(19,I f0)],[(101,_)]⟩ rfl (Oc (dX ql rfl rfl) (ae.mN ao h rfl (bV nB rfl rfl) (fun x_1 h=>?_))))
 refine Oc (aB aC rfl rfl rfl rfl (Nat.le_of_ble_eq_true rfl) rfl) (ae.ai ⟨[(12,_)],[(101,.box 25 (ao x_1))]⟩ rfl (ab.ret ?_))
 obtain rfl:=Option.some.inj h
 refine Fin.ag ⟨[(12,_)],[(101,_)]⟩ rfl (Fin.aA [.agg (ao x_1)] (.inl rfl) rfl (.cons (.agg aC rfl rfl rfl rfl) .nil) ⟨rfl,rfl⟩)
def cQ (F:Nat) (a0:cg) (b0:cg):Option Bool :=
 Option.bind (iter F (fun x_1=>if (decide (x_1 < 3)) = true then ((a8 a0.Hi.l x_1).bind fun x_2=>(a8 b0.Lo.l x_1).bind fun x_3=>(bD (!(decide (x_2 < x_3))) (a8 b0.Hi.l x_1)).bind fun x_4=>(bD (!(decide (x_2 < x_3))) (a8 a0.Lo.l x_1)).bind fun x_5=>if ((decide (x_2 < x_3)) || (decide (x_4 < x_5))) = true then (some (.inr (.inr false))) else (some (.inl (IntKind.i64.wrap (x_1 + 1))))) else (some (.inr (.inl ())))) 0) (cL (fun _=>some true) (fun y=>some y))
theorem dJ {F:Nat} {a0:cg} {b0:cg} {r:Bool} (h:cQ F a0 b0 = some r):av Tryz.prog [] 16 [] [.agg (ao a0),.agg (ao b0)] (Is [] (.b (.one (.bool r)))):=by
 unfold cQ at h
 refine av.intro 30 Tryz.func16 Tryz.ntmps16 rfl (by simp) fun E=>?_
 show ab _ E ⟨30,[],[],[]⟩ _ ⟨[(0,.b (.agg (ao a0))),(1,.b (.agg (ao b0)))],[]⟩ _
 refine ab.seq (ab.aa ?_)
 refine Oc (bq (k:=101) rfl rfl) (Oc (bq (k:=102) rfl rfl) (Oc oa ?_))
 refine ae.ai ⟨[(2,Pt 101 0),(3,Pt 102 0)],[(101,.box 25 (ao a0)),(102,.box 25 (ao b0))]⟩ rfl ?_
 obtain ⟨v1,h2,h⟩:=aL h
 refine ab.c6 (v:=v1) (fun (_:Unit)=>⟨[],[]⟩) (fun z=>.inl z) ?_ ?_
 ·refine ab.seq (ab.aa ?_)
  refine Oc om (ae.ai ⟨[(2,_),(3,_),(6,I 0)],[(101,_),(102,_)]⟩ rfl (ab.block (ab.cN h2 (fun (x_1:Int)=>⟨[(2,Pt 101 0),(3,Pt 102 0),(6,I x_1)],[(101,.box 25 (ao a0)),(102,.box 25 (ao b0))]⟩) [2,3,6] [101,102] rfl ?_)))
  rintro x_1 o3 h4 hy5
  refine ab.seq (ab.aa ?_)
  refine Oc (bb rfl rfl) (ae.ai ⟨[(2,_),(3,_),(6,_),(7,B (decide (x_1 < 3)))],[(101,_),(102,_)]⟩ rfl (ab.seq (ab.ite h4 rfl (fun _ h4=>?_) (fun _ h4=>?_))))
  ·refine ab.skip (Fin.ag ⟨[(2,_),(3,_),(6,_)],[(101,_),(102,_)]⟩ rfl (Fin.then (ab.seq (ab.block (ab.seq (ab.aa ?_))))))
   refine Oc om (Oc oa ?_)
   refine ae.ai ⟨[(2,_),(3,_),(5,I x_1),(6,_)],[(101,_),(102,_)]⟩ rfl (ab.seq ?_)
   obtain ⟨x_2,e6,h4⟩:=aL h4
   obtain ⟨x_3,e7,h4⟩:=aL h4
   obtain ⟨x_4,e11,h4⟩:=aL h4
   obtain ⟨x_5,e16,h4⟩:=aL h4
   refine ab.bE mixed 20 [I x_1,Pt 101 3,.b (.ptr 101 (3 + (x_1:Int).toNat * 1)),I x_2,I x_1,Pt 102 0,.b (.ptr 102 (0 + (x_1:Int).toNat * 1)),I x_3,B (decide (x_2 < x_3)),B (decide (x_2 < x_3)),.opt (!(decide (x_2 < x_3))) (.one (.i x_1)),.opt (!(decide (x_2 < x_3))) (.ptr 102 3),.opt (!(decide (x_2 < x_3))) (.ptr 102 (3 + (x_1:Int).toNat * 1)),.opt (!(decide (x_2 < x_3))) (.one (.i x_4)),.opt (!(decide (x_2 < x_3))) (.one (.i x_1)),.opt (!(decide (x_2 < x_3))) (.ptr 101 0),.opt (!(decide (x_2 < x_3))) (.ptr 101 (0 + (x_1:Int).toNat * 1)),.opt (!(decide (x_2 < x_3))) (.one (.i x_5)),.opt (!(decide (x_2 < x_3))) (.one (.bool (decide (x_4 < x_5)))),B ((decide (x_2 < x_3)) || (decide (x_4 < x_5)))] [2,3,6,28] [101,102] (s':=⟨[(2,_),(3,_),(6,_),(28,B ((decide (x_2 < x_3)) || (decide (x_4 < x_5))))],[(101,_),(102,_)]⟩) rfl ⟨fun _=>.p om,fun _=>.p (aq cU rfl rfl),fun _=>.p (ba bL (aX e6) (dn e6) rfl rfl rfl),fun _=>.p (aF aM rfl rfl (cP (post:=[]) (k:=.i64) ((c3 .i64) a0.Lo) e6 rfl rfl rfl)),fun _=>.p om,fun _=>.p (aq cV rfl rfl),fun _=>.p (ba bL (aX e7) (dn e7) rfl rfl rfl),fun _=>.p (aF aM rfl rfl (cP (post:=((c3 .i64) b0.Hi)) (k:=.i64) [] e7 rfl rfl rfl)),fun _=>.p (bb rfl rfl),fun _=>.p om,fun _=>by exact .guard (!(decide (x_2 < x_3))) 1 [] (.plain rfl) (dD _) rfl rfl (fun g8=>trivial) (fun g8=>om),fun _=>by exact .guard (!(decide (x_2 < x_3))) 1 [] (.plain rfl) (dD _) rfl rfl (fun g9=>trivial) (fun g9=>aq cU rfl rfl),fun _=>by exact .guard (!(decide (x_2 < x_3))) 3 [19,20] (.plain rfl) (dD _) rfl rfl (fun g10=>⟨g10,g10,trivial⟩) (fun g10=>ba bL (aX (gc e11 g10)) (dn (gc e11 g10)) rfl rfl rfl),fun _=>by exact .guard (!(decide (x_2 < x_3))) 2 [21] (.plain rfl) (dD _) rfl rfl (fun g12=>⟨g12,trivial⟩) (fun g12=>aF aM rfl rfl (cP (post:=[]) (k:=.i64) ((c3 .i64) b0.Lo) (gc e11 g12) rfl rfl rfl)),fun _=>by exact .guard (!(decide (x_2 < x_3))) 1 [] (.plain rfl) (dD _) rfl rfl (fun g13=>trivial) (fun g13=>om),fun _=>by exact .guard (!(decide (x_2 < x_3))) 1 [] (.plain rfl) (dD _) rfl rfl (fun g14=>trivial) (fun g14=>aq cV rfl rfl),fun _=>by exact .guard (!(decide (x_2 < x_3))) 3 [23,24] (.plain rfl) (dD _) rfl rfl (fun g15=>⟨g15,g15,trivial⟩) (fun g15=>ba bL (aX (gc e16 g15)) (dn (gc e16 g15)) rfl rfl rfl),fun _=>by exact .guard (!(decide (x_2 < x_3))) 2 [25] (.plain rfl) (dD _) rfl rfl (fun g17=>⟨g17,trivial⟩) (fun g17=>aF aM rfl rfl (cP (post:=((c3 .i64) a0.Hi)) (k:=.i64) [] (gc e16 g17) rfl rfl rfl)),fun _=>by exact .guard (!(decide (x_2 < x_3))) 3 [22,26] (.plain rfl) (dD _) rfl rfl (fun g18=>⟨g18,g18,trivial⟩) (fun g18=>bb rfl rfl),fun _=>.p (ct (fun e=>by first | (rw [e]; rfl) | (simp only at e; rw [e]; rfl)) rfl rfl rfl rfl),trivial⟩ rfl rfl ?_
   refine ab.ite h4 rfl (fun _ h4=>?_) (fun _ h4=>?_)
   ·refine ab.seq (ab.aa ?_)
    refine Oc oa (ae.ai ⟨[(4,B false)],[]⟩ rfl (ab.ret (Fin.aS (Fin.aw ?_))))
    obtain rfl:=hy5 _ (Option.some.inj h4).symm
    refine Fin.aw (Fin.aS (Fin.aw ?_))
    obtain rfl:=Option.some.inj h
    refine Fin.ag ⟨[(4,_)],[]⟩ rfl (Fin.aA [.one (.bool false)] (.inl rfl) rfl (.cons (.tmp rfl) .nil) ⟨rfl,rfl⟩)
   ·refine ab.skip (Fin.au (Fin.ag ⟨[(2,_),(3,_),(6,_)],[(101,_),(102,_)]⟩ rfl (Fin.then (ab.aa ?_))))
    refine Oc (br rfl rfl) (Oc om ?_)
    refine ae.nil ?_
    exact Fin.bO [2,3,6] [101,102] (IntKind.i64.wrap (x_1 + 1)) (Option.some.inj h4) rfl
  ·refine ab.exit (Fin.ax ?_)
   obtain rfl:=hy5 _ (Option.some.inj h4).symm
   refine Fin.ax (Fin.aQ ?_)
   exact Fin.join [] [] () rfl rfl
 ·rintro _ hv
  subst v1
  refine ab.seq (ab.aa ?_)
  refine Oc oa (ae.ai ⟨[(4,B true)],[]⟩ rfl (ab.ret ?_))
  obtain rfl:=Option.some.inj h
  refine Fin.ag ⟨[(4,_)],[]⟩ rfl (Fin.aA [.one (.bool true)] (.inl rfl) rfl (.cons (.tmp rfl) .nil) ⟨rfl,rfl⟩)
def cG (F:Nat) (n0:dh bu) (v0c:cg):Option Bool :=
 Option.bind (jz n0) (fun nd_1=>(cQ F nd_1.1.cover v0c).bind fun x_2=>some x_2)
theorem kR {F:Nat} {n0:dh bu} {v0c:cg} {r:Bool} (h:cG F n0 v0c = some r):av Tryz.prog [] 74 [] [.one (.tr af n0),.aO (ao v0c)] (Is [] (.b (.one (.bool r)))):=by
 unfold cG at h
 refine av.intro 10 Tryz.func74 Tryz.ntmps74 rfl (by simp) fun E=>?_
 show ab _ E ⟨10,[],[],[]⟩ _ ⟨[(0,.b (.one (.tr af n0))),(1,.b (.aO (ao v0c)))],[]⟩ _
 refine ab.seq (ab.aa ?_)
 refine Oc oa (ae.ai ⟨[(0,.b (.one (.tr af n0))),(1,.b (.aO (ao v0c)))],[]⟩ rfl (ab.seq ?_))
 obtain ⟨nd_1,e1,h⟩:=aL h
 obtain ⟨x_2,e2,h⟩:=aL h
 refine ab.bE mixed 7 [.b (.one (.tr af n0)),.b (.aO (ay nd_1.1.x ++ (.int .u64 nd_1.1.priority :: (ao nd_1.1.cover ++ ([.tr af nd_1.2.1,.tr af nd_1.2.2]))))),.b (.aO (ao nd_1.1.cover ++ ([.tr af nd_1.2.1,.tr af nd_1.2.2]))),.b (.agg (ao nd_1.1.cover)),.b (.agg (ao v0c)),B x_2,B x_2] [3] [] (s':=⟨[(3,B x_2)],[]⟩) rfl ⟨fun _=>.p om,fun _=>.p (aK e1 rfl rfl),fun _=>by exact .p (aD kj rfl rfl),fun _=>.p (bj aC rfl rfl rfl),fun _=>.p (bj aC rfl rfl rfl),fun _=>.p (ak (dJ e2) nv rfl rfl),fun _=>.p oa,trivial⟩ rfl rfl (ab.ret ?_)
 obtain rfl:=Option.some.inj h
 refine Fin.ag ⟨[(3,_)],[]⟩ rfl (Fin.aA [.one (.bool x_2)] (.inl rfl) rfl (.cons (.tmp rfl) .nil) ⟨rfl,rfl⟩)
def lu (F:Nat) (a00:dh bu):Option Bool :=
 some true
theorem nj {F:Nat} {a00:dh bu} {r:Bool} (h:lu F a00 = some r):av Tryz.prog [] 58 [] [.one (.tr af a00)] (Is [] (.b (.one (.bool r)))):=by
 unfold lu at h
 refine av.intro 3 Tryz.func58 Tryz.ntmps58 rfl (by simp) fun E=>?_
 show ab _ E ⟨3,[],[],[]⟩ _ ⟨[(0,.b (.one (.tr af a00)))],[]⟩ _
 refine ab.seq (ab.aa ?_)
 refine Oc oa (ae.ai ⟨[],[]⟩ rfl (ab.seq (ab.aa ?_)))
 refine Oc oa (ae.ai ⟨[(2,B true)],[]⟩ rfl (ab.ret ?_))
 obtain rfl:=Option.some.inj h
 refine Fin.ag ⟨[(2,_)],[]⟩ rfl (Fin.aA [.one (.bool true)] (.inl rfl) rfl (.cons (.tmp rfl) .nil) ⟨rfl,rfl⟩)
section
variable {P:Program} {TB:a6} {m:Nat} {s:St} {ops:Array Oper} {l:List Oper} {Q:bX} {o:Oper}
theorem lI {E:Env TB} {d:Nat} (K:Bool → PH → World → Prop) (hK:∀ b h w,K b h w → kG h w ∧ cZ TB h w) (hown:s.own = []) (hdm:d < m)
    (hop:∀ a w h ρ,WR E ⟨m,[],[],[]⟩ [] h ρ w → aW h ρ s.slots a.tmps → ∀ (K':Act → World → Prop),(∀ b h' w',h.le h' → K b h' w' → K' (a.put (some d) (.bool b)) w') → o.wpIn Fence.wide 0 P a w K' Q)
    (hnext:∀ b h' ρ w' (tb:cZ TB h' w'),K b h' w' → bc P (⟨w',h',ρ,tb⟩:Env TB) ⟨m,[],[],[]⟩ Fence.wide ops l ⟨(d,B b) :: del d s.slots,[]⟩ Q) :
    ∀ a w,R E ⟨m,[],[],[]⟩ s a w → o.wpIn Fence.wide 0 P a w (mG P Fence.wide ops Q l) Q:=by
  rintro a w ⟨hd,hn,h,ρ,hw,hs⟩
  rw [hown] at hw
  refine hop a w h ρ hw hs _ fun b h' w' hle hk=>?_
  obtain ⟨hag,htb⟩:=hK b h' w' hk
  refine hnext b h' ρ w' htb hk _ w' (R.fresh htb hag hd (by simpa [Act.put] using hn) ?_)
  exact aW.set (hs.mono hle) hn hdm rfl
theorem bc.stepU {E:Env TB} {n:Sh} {F:Fence} (hg:o.guard = none) (h:∀ a w,R E n s a w → o.wpIn F 0 P a w (mG P F ops Q l) Q):bc P E n F ops (o :: l) s Q:=by
  intro a w hr
  unfold mG
  have:Region.wanted o (yielded ops a.tmps) = true:=by simp [Region.wanted,hg]
  simp only [this,if_true]
  exact h a w hr
end
theorem wb:c9 Tryz.prog 98:=⟨⟨_,Tryz.underlying98,rfl⟩,⟨Tryz.t98,by kernel_rfl,by kernel_rfl⟩⟩
theorem goes58':bp Tryz.prog 58:=⟨Tryz.call58⟩
theorem goes74':bp Tryz.prog 74:=⟨Tryz.call74⟩
theorem q7:bp Tryz.prog 78:=⟨Tryz.call78⟩
def tU (c:CP) (p:dh bu → Option Bool):Prop :=
  ∀ {E:Env []} {m:Nat} {sl:List (Nat × SV)} {dst:Option Nat} {ats:Array TypeId} {ty:TypeId} {pos:String} {after:Array Edge} {g:Option (Nat × Bool)} {x y:Operand} {t:dh bu} {z:Bool},
    p t = some z → (⟨sl,[]⟩:St).ev x = some (.b (.one c)) → (⟨sl,[]⟩:St).ev y = some (.b (.one (CP.tr af t))) → bA Tryz.prog E ⟨m,[],[],[]⟩ ⟨dst,.call ⟨.value x,#[y],ats⟩,ty,pos,after,g⟩ ⟨sl,[]⟩ ((⟨sl,[]⟩:St).put ⟨m,[],[],[]⟩ dst (B z))
theorem ni:tU (.raw (.func (.func 58) #[] #[])) (fun _=>some true):=by
  intro E n sl dst ats ty pos after g x y t z hz hx hy
  exact jM (args:=[.one (CP.tr af t)]) (nj (F:=0) hz) goes58' hx (by simp [gj,evB,hy]) rfl
theorem sx {F:Nat} {b:cg}:tU (.fw 74 [CP.rp (ao b)]) (fun t=>cG F t b):=by
  intro E n sl dst ats ty pos after g x y t z hz hx hy
  have h:=ph (E:=E) (n:=⟨n,[],[],[]⟩) (s:=⟨sl,[]⟩) (dst:=dst) (ty:=ty) (pos:=pos) (after:=after) (g:=g) (ats:=ats) (x:=x) (xs:=#[y]) (zs:=[.one (CP.tr af t)]) (pss:=[ao b]) (own_a:=[]) (own':=[]) (kR hz) goes74' hx (by simp [gj,evB,hy]) rfl trivial rfl rfl rfl
  have e:(⟨sl,[]⟩:St).aft ⟨n,[],[],[]⟩ [] [] dst (B z) = (⟨sl,[]⟩:St).put ⟨n,[],[],[]⟩ dst (B z):=by
    rfl
  rw [← e]
  exact h
theorem pv {t:dh bu} {c:CP}:av Tryz.prog [] 57 [] [.one (CP.tr af t),.one c] (Is [] (.b (.one (.fw 77 [CP.rp [CP.tr af t],CP.rp [c]])))):=by
  refine av.intro 6 Tryz.func57 Tryz.ntmps57 rfl (by simp) fun E=>?_
  show ab _ E ⟨6,[],[],[]⟩ _ ⟨[(0,.b (.one (CP.tr af t))),(1,.b (.one c))],[]⟩ _
  refine ab.seq ?_
  refine ab.aa ?_
  refine ae.cons rfl (qY rfl) ?_
  refine ae.cons rfl (qY rfl) ?_
  refine ae.cons rfl (bR rfl) ?_
  refine ae.nilK [2,3] [] (s':=⟨[(2,.b (.aO [CP.tr af t])),(3,.b (.aO [c]))],[]⟩) rfl ?_
  refine ab.seq ?_
  refine ab.aa ?_
  refine ae.cons rfl (iw rfl) ?_
  refine ae.cons rfl (bR rfl) ?_
  refine ae.nilK [4] [] (s':=⟨[(4,.b (.one (.fw 77 [CP.rp [CP.tr af t],CP.rp [c]])))],[]⟩) rfl ?_
  refine ab.ret ?_
  exact Fin.aA [.one (.fw 77 [CP.rp [CP.tr af t],CP.rp [c]])] (.inl rfl) rfl (.cons (.tmp rfl) .nil) ⟨rfl,rfl⟩
section
variable {J:Nat → PH → World → Prop} {Jx:PH → World → Prop} {L:Nat} {c:CP} {p:dh bu → Option Bool} {all:List entry}
def Kv (J:Nat → PH → World → Prop) (Jx:PH → World → Prop) (h0:PH) (k:Nat) (b:Bool) (h:PH) (w:World):Prop:=h0.le h ∧ (if b = true then J k h w else Jx h w)
theorem Kv.ok (hJ:∀ k,lR [] (J k)) (hJx:lR [] Jx) {h0:PH} {k:Nat} {b:Bool} {h:PH} {w:World} (hk:Kv J Jx h0 k b h w):kG h w ∧ cZ [] h w:=by
  cases b with
  | true=>exact (hJ k).1 h w hk.2
  | false=>exact hJx.1 h w (by simpa [Kv] using hk.2)
theorem Kv.go (hJ:∀ k,lR [] (J k)) (hJx:lR [] Jx) {h0:PH} {k:Nat} {b:Bool} {h h':PH} {w w':World} {tb:cZ [] h w} {ρ ρ':RM} {own':List (Nat × OC)} {m:Nat} (hk:Kv J Jx h0 k b h w) (hw:WR (⟨w,h,ρ,tb⟩:Env []) ⟨m,[],[],[]⟩ own' h' ρ' w'):Kv J Jx h0 k b h' w':=by
  refine ⟨PH.le_trans hk.1 hw.le,?_⟩
  cases b with
  | true=>exact (hJ k).2 h w hk.2 tb ρ h' ρ' w' own' m hw
  | false=>exact hJx.2 h w (by simpa [Kv] using hk.2) tb ρ h' ρ' w' own' m hw
def VisEnd (J:Nat → PH → World → Prop) (Jx:PH → World → Prop) (h0:PH) (k:Nat) (e:Ending) (w:World):Prop:=∃ b h,e = .returned (.bool b) ∧ Kv J Jx h0 k b h w
theorem si (hJ:∀ k,lR [] (J k)) (hJx:lR [] Jx) (hp:tU c p)
    (hround:∀ k x h W vals,all[k]? = some x → J k h W → aU (fun (x:BV) v=>∀ ρ,x.rel h ρ v) (uA x) vals →
      YieldAt Fence.wide 0 Tryz.prog L vals.toArray W fun e W'=>(e = .returned (.bool true) ∧ ∃ h',h.le h' ∧ J (k + 1) h' W') ∨ (e = .returned (.bool false) ∧ ∃ h',h.le h' ∧ Jx h' W')) :
    ∀ (t:dh bu) (ys:List entry) (k:Nat),oM p t = some ys → (∀ i x,ys[i]? = some x → all[k + i]? = some x) → ∀ h W v1 v2,J k h W → (CP.tr af t).rel h v1 → c.rel h v2 →
      Calls Tryz.prog 78 #[v1,v2,.func (.yield L) #[] #[]] W (VisEnd J Jx h (k + ys.length)):=by
  intro t
  induction t with
  | leaf=>
    intro ys k hv hall h W v1 v2 hj h1 h2
    cases hv
    refine callsIn_wide.1 (callsIn_of_wp (n:=0) (F:=Fence.wide) Tryz.func78 rfl trivial ?_)
    obtain ⟨hs0,hn0⟩:=mz (m:=39) (h:=h) (ρ:=fun _=>.bool false) (args:=[.one (CP.tr af .leaf),.one c,.one (.raw (.func (.yield L) #[] #[]))]) (vals:=[v1,v2,.func (.yield L) #[] #[]])
      (.cons h1 (.cons h2 (.cons ⟨rfl,rfl⟩ .nil))) (Nat.le_of_ble_eq_true rfl)
    obtain ⟨hag0,htb0⟩:=(hJ k).1 h W hj
    have hk0:Kv J Jx h k true h W:=⟨PH.le_refl h,by simpa using hj⟩
    generalize hQo:bodyPost Tryz.prog _ _ = Qo
    have hlo:¬ LetsOut Qo:=by
      rw [← hQo]
      rintro ⟨a,w,b,h',he,_⟩
      cases he
    have hend:∀ (b:Bool) (w0:World) (h0:PH) (ρ0:RM) (tb:cZ [] h0 w0),Kv J Jx h (k + 0) b h0 w0 → Fin (⟨w0,h0,ρ0,tb⟩:Env []) ⟨39,[],[],[]⟩ .ret ⟨[(6,B b)],[]⟩ Qo:=by
      rintro b w0 h0 ρ0 tb hK a w ⟨hd,hn,h',ρ',hw,hs⟩
      rw [← hQo]
      obtain ⟨v,hv,hrel⟩:=gW (P:=Tryz.prog) (fn:=Tryz.f78) (s:=⟨[(6,B b)],[]⟩) (zs:=[.one (.bool b)]) (.cons (.tmp rfl) .nil) hw hs
      have hv':v = .bool b:=hrel
      exact ⟨hd,v,hv w (cD.refl w),b,h',by rw [hv'],hK.go hJ hJx hw⟩
    refine (show a7 Tryz.prog (⟨W,h,fun _=>.bool false,htb0⟩:Env []) ⟨39,[],[],[]⟩ Fence.wide _ ⟨_,[]⟩ Qo from ?_) hlo _ _ (R.fresh htb0 hag0 rfl hn0 hs0)
    clear hs0 hn0
    refine a7.seq ?_
    refine a7.aa (.inl rfl) ?_
    refine ae.cons rfl (bR rfl) ?_
    refine ae.nil ?_
    refine Fin.keep [0,1,2] [] (s':=⟨[(0,.b (.one (CP.tr af .leaf))),(1,.b (.one c)),(2,.b (.one (.raw (.func (.yield L) #[] #[]))))],[]⟩) rfl ?_
    refine Fin.ic ?_ hlo
    refine a7.seq ?_
    refine a7.seq ?_
    refine a7.oE (.inl rfl) ?_
    refine bc.cons (.inl rfl) rfl (aP rfl) ?_
    refine bc.cons (.inl rfl) rfl (fW me rfl) ?_
    refine bc.cons (.inl rfl) rfl (aP rfl) ?_
    refine bc.eW (.plain (t:=9) rfl) rfl rfl rfl (.one .any) ?_
    refine bc.eW (.plain (t:=9) rfl) rfl rfl rfl (.one .any) ?_
    refine bc.eW (.plain (t:=9) rfl) rfl rfl rfl (.one .any) ?_
    refine bc.eW (.plain (t:=9) rfl) rfl rfl rfl (.one (.bool true)) ?_
    refine bc.cons (.inl rfl) rfl (ct (fun e=>Bool.noConfusion e) rfl rfl rfl) ?_
    refine bc.nil ?_
    refine Fin.keep [14] [] (s':=⟨[(14,B true)],[]⟩) rfl ?_
    refine Fin.ic ?_ (iM hlo)
    refine a7.cond rfl (fun he=>?_) (fun he=>absurd he (by decide))
    refine a7.seq ?_
    refine a7.aa (.inl rfl) ?_
    refine ae.cons rfl (bR rfl) ?_
    refine ae.nil ?_
    refine Fin.keep [6] [] (s':=⟨[(6,B true)],[]⟩) rfl ?_
    refine Fin.ic ?_ (iM hlo)
    refine a7.ret ?_
    exact Fin.aw (hend true W h _ htb0 (by simpa using hk0))
  | node a l r ihl ihr=>
    intro ys k hv hall h W v1 v2 hj h1 h2
    refine callsIn_wide.1 (callsIn_of_wp (n:=0) (F:=Fence.wide) Tryz.func78 rfl trivial ?_)
    obtain ⟨hs0,hn0⟩:=mz (m:=39) (h:=h) (ρ:=fun _=>.bool false) (args:=[.one (CP.tr af (.node a l r)),.one c,.one (.raw (.func (.yield L) #[] #[]))]) (vals:=[v1,v2,.func (.yield L) #[] #[]])
      (.cons h1 (.cons h2 (.cons ⟨rfl,rfl⟩ .nil))) (Nat.le_of_ble_eq_true rfl)
    obtain ⟨hag0,htb0⟩:=(hJ k).1 h W hj
    have hk0:Kv J Jx h k true h W:=⟨PH.le_refl h,by simpa using hj⟩
    generalize hQo:bodyPost Tryz.prog _ _ = Qo
    have hlo:¬ LetsOut Qo:=by
      rw [← hQo]
      rintro ⟨a,w,b,h',he,_⟩
      cases he
    have hend:∀ (b:Bool) (w0:World) (h0:PH) (ρ0:RM) (tb:cZ [] h0 w0),Kv J Jx h (k + ys.length) b h0 w0 → Fin (⟨w0,h0,ρ0,tb⟩:Env []) ⟨39,[],[],[]⟩ .ret ⟨[(6,B b)],[]⟩ Qo:=by
      rintro b w0 h0 ρ0 tb hK a w ⟨hd,hn,h',ρ',hw,hs⟩
      rw [← hQo]
      obtain ⟨v,hv,hrel⟩:=gW (P:=Tryz.prog) (fn:=Tryz.f78) (s:=⟨[(6,B b)],[]⟩) (zs:=[.one (.bool b)]) (.cons (.tmp rfl) .nil) hw hs
      have hv':v = .bool b:=hrel
      exact ⟨hd,v,hv w (cD.refl w),b,h',by rw [hv'],hK.go hJ hJx hw⟩
    refine (show a7 Tryz.prog (⟨W,h,fun _=>.bool false,htb0⟩:Env []) ⟨39,[],[],[]⟩ Fence.wide _ ⟨_,[]⟩ Qo from ?_) hlo _ _ (R.fresh htb0 hag0 rfl hn0 hs0)
    clear hs0 hn0
    refine a7.seq ?_
    refine a7.aa (.inl rfl) ?_
    refine ae.cons rfl (bR rfl) ?_
    refine ae.nil ?_
    refine Fin.keep [0,1,2] [] (s':=⟨[(0,.b (.one (CP.tr af (.node a l r)))),(1,.b (.one c)),(2,.b (.one (.raw (.func (.yield L) #[] #[]))))],[]⟩) rfl ?_
    refine Fin.ic ?_ hlo
    refine a7.seq ?_
    refine a7.seq ?_
    refine a7.oE (.inl rfl) ?_
    refine bc.cons (.inl rfl) rfl (aP rfl) ?_
    refine bc.cons (.inl rfl) rfl (fW me rfl) ?_
    refine bc.cons (.inl rfl) rfl (aP rfl) ?_
    obtain ⟨cb,hcb,hv⟩:=Option.bind_eq_some_iff.1 hv
    refine bc.iI (.inl rfl) (.plain (t:=9) rfl) rfl rfl rfl (aP rfl) ?_
    refine bc.iI (.inl rfl) (.plain (t:=9) rfl) rfl rfl rfl (aP rfl) ?_
    refine bc.iI (.inl rfl) (.plain (t:=9) rfl) rfl rfl rfl (hp hcb rfl rfl) ?_
    refine bc.iI (.inl rfl) (.plain (t:=9) rfl) rfl rfl rfl (di rfl) ?_
    refine bc.opt 13 rfl ?_
    refine bc.cons (.inl rfl) rfl (ct (fun _=>rfl) rfl rfl rfl) ?_
    refine bc.nil ?_
    refine Fin.keep [0,1,2,14] [] (s':=⟨[(0,.b (.one (CP.tr af (.node a l r)))),(1,.b (.one c)),(2,.b (.one (.raw (.func (.yield L) #[] #[])))),(14,B (false || !cb))],[]⟩) rfl ?_
    refine Fin.ic ?_ (iM hlo)
    refine a7.cond rfl (fun he=>?_) (fun he=>?_)
    · have hcb':cb = false:=by simpa using he
      subst hcb'
      have hys:ys = []:=by simpa using hv.symm
      subst hys
      refine a7.seq ?_
      refine a7.aa (.inl rfl) ?_
      refine ae.cons rfl (bR rfl) ?_
      refine ae.nil ?_
      refine Fin.keep [6] [] (s':=⟨[(6,B true)],[]⟩) rfl ?_
      refine Fin.ic ?_ (iM hlo)
      refine a7.ret ?_
      exact Fin.aw (hend true W h _ htb0 (by simpa using hk0))
    have hcb':cb = true:=by simpa using he
    subst hcb'
    rw [if_pos rfl] at hv
    obtain ⟨xs,hxs,hv⟩:=Option.bind_eq_some_iff.1 hv
    obtain ⟨zs,hzs,hv⟩:=Option.bind_eq_some_iff.1 hv
    have hys:ys = xs ++ a.x :: zs:=(Option.some.inj hv).symm
    subst hys
    have hlen:k + (xs ++ a.x :: zs).length = k + xs.length + 1 + zs.length:=by simp; omega
    refine a7.skip ?_
    refine Fin.keep [0,1,2] [] (s':=⟨[(0,.b (.one (CP.tr af (.node a l r)))),(1,.b (.one c)),(2,.b (.one (.raw (.func (.yield L) #[] #[]))))],[]⟩) rfl ?_
    refine Fin.ic ?_ hlo
    refine a7.seq ?_
    refine a7.oE (.inl rfl) ?_
    refine bc.cons (.inl rfl) rfl (aP rfl) ?_
    refine bc.cons (.inl rfl) rfl (aK (z:=(a,l,r)) (qs:=af a ++ [CP.tr af l,CP.tr af r]) rfl rfl rfl) ?_
    refine bc.cons (.inl rfl) rfl (aD (qs:=[CP.tr af l,CP.tr af r]) eD rfl rfl) ?_
    refine bc.cons (.inl rfl) rfl (az (p:=CP.tr af l) bK rfl rfl) ?_
    refine bc.cons (.inl rfl) rfl (aP rfl) ?_
    refine bc.cons (.inl rfl) rfl (aP rfl) ?_
    refine bc.stepU rfl (lI (d:=21) (Kv J Jx h (k + xs.length)) (fun b h w hk=>hk.ok hJ hJx) rfl (by decide) ?_ ?_)
    · intro a1 w1 h1' ρ1 hw1 hs1 K' hK'
      have hj1:=hk0.go hJ hJx hw1
      have e20:a1.eval (.tmp 20) = .func (.yield L) #[] #[]:=(aR hs1 (o:=.tmp 20) rfl:(CP.raw _).rel h1' _).1
      refine lB (.inl rfl) rfl (fun a w h=>h) ?_
      unfold Oper.wp
      rw [jG q7 a1 w1]
      show Calls Tryz.prog 78 [a1.eval (.tmp 18),a1.eval (.tmp 19),a1.eval (.tmp 20)].toArray w1 _
      rw [e20]
      refine (ihl xs k hxs (fun i x hi=>hall i x (by rw [List.getElem?_append_left (List.getElem?_eq_some_iff.1 hi).1]; exact hi)) h1' w1 _ _ hj1.2 (aR hs1 (o:=.tmp 18) rfl) (aR hs1 (o:=.tmp 19) rfl)).mono ?_
      rintro e w' ⟨b,h',rfl,hk⟩
      exact hK' b h' w' hk.1 ⟨PH.le_trans hj1.1 hk.1,hk.2⟩
    intro b1 h2 ρ2 w2 tb2 hk1
    refine bc.keep [0,1,2,21] [] (s':=⟨[(0,.b (.one (CP.tr af (.node a l r)))),(1,.b (.one c)),(2,.b (.one (.raw (.func (.yield L) #[] #[])))),(21,B b1)],[]⟩) rfl ?_
    refine bc.cons (.inl rfl) rfl (aP rfl) ?_
    cases b1 with
    | false=>
      refine bc.eW (.plain (t:=22) rfl) rfl rfl rfl (.one .any) ?_
      refine bc.eW (.plain (t:=22) rfl) rfl rfl rfl (.one .any) ?_
      refine bc.eW (.plain (t:=22) rfl) rfl rfl rfl (.one .any) ?_
      refine bc.eW (.plain (t:=22) rfl) rfl rfl rfl (.one .any) ?_
      refine bc.eW (.plain (t:=22) rfl) rfl rfl rfl (.one .any) ?_
      refine bc.eW (.plain (t:=22) rfl) rfl rfl rfl (.one (.bool true)) ?_
      refine bc.cons (.inl rfl) rfl (aJ (fun e=>Bool.noConfusion e) rfl rfl rfl) ?_
      refine bc.cons (.inl rfl) rfl (aP rfl) ?_
      refine bc.eW (.plain (t:=30) rfl) rfl rfl rfl (.one .any) ?_
      refine bc.eW (.plain (t:=30) rfl) rfl rfl rfl (.one .any) ?_
      refine bc.eW (.plain (t:=30) rfl) rfl rfl rfl (.one .any) ?_
      refine bc.eW (.plain (t:=30) rfl) rfl rfl rfl (.one .any) ?_
      refine bc.eW (.plain (t:=30) rfl) rfl rfl rfl (.one .any) ?_
      refine bc.eW (.plain (t:=30) rfl) rfl rfl rfl (.one .any) ?_
      refine bc.eW (.plain (t:=30) rfl) rfl rfl rfl (.one (.bool true)) ?_
      refine bc.cons (.inl rfl) rfl (aJ (fun e=>Bool.noConfusion e) rfl rfl rfl) ?_
      refine bc.cons (.inl rfl) rfl (bR rfl) ?_
      refine bc.nil ?_
      refine Fin.keep [6] [] (s':=⟨[(6,B false)],[]⟩) rfl ?_
      refine Fin.ic ?_ hlo
      refine a7.ret ?_
      exact hend false w2 h2 ρ2 tb2 ⟨hk1.1,hk1.2⟩
    | true=>
    refine bc.iI (.inl rfl) (.plain (t:=22) rfl) rfl rfl rfl (aP rfl) ?_
    refine bc.iI (.inl rfl) (.plain (t:=22) rfl) rfl rfl rfl (aP rfl) ?_
    refine bc.iI (.inl rfl) (.plain (t:=22) rfl) rfl rfl rfl (aK (z:=(a,l,r)) (qs:=af a ++ [CP.tr af l,CP.tr af r]) rfl rfl rfl) ?_
    refine bc.iI (.inl rfl) (.plain (t:=22) rfl) rfl rfl rfl (aD (qs:=af a ++ [CP.tr af l,CP.tr af r]) fc rfl rfl) ?_
    refine bc.iI (.inl rfl) (.plain (t:=22) rfl) rfl rfl rfl (bj (qs:=ay a.x) bF rfl rfl rfl) ?_
    refine bc.stepT (.plain (t:=22) rfl) rfl rfl rfl (lI (d:=28) (Kv J Jx h (k + xs.length + 1)) (fun b h w hk=>hk.ok hJ hJx) rfl (by decide) ?_ ?_)
    · intro a1 w1 h1' ρ1 hw1 hs1 K' hK'
      have hj1:=hk1.go hJ hJx hw1
      have hx23:a1.eval (.tmp 23) = .func (.yield L) #[] #[]:=(aR hs1 (o:=.tmp 23) rfl:(CP.raw _).rel h1' _).1
      have hx27:=(aR hs1 (o:=.tmp 27) (x:=.b (.agg (ay a.x))) rfl:BV.rel h1' ρ1 (.agg (ay a.x)) _)
      refine tv (vals:=[a1.eval (.tmp 27)].toArray) rfl ((uB hx23).trans (by simp)) (hround (k + xs.length) a.x h1' w1 _ (hall xs.length a.x (by simp)) (by simpa using hj1.2) (.cons (fun _=>hx27) .nil)) ?_
      rintro e w3 (⟨rfl,h3,g1,g2⟩ | ⟨rfl,h3,g1,g2⟩)
      · exact ⟨_,rfl,hK' true h3 w3 g1 ⟨PH.le_trans hj1.1 g1,by simpa using g2⟩⟩
      · exact ⟨_,rfl,hK' false h3 w3 g1 ⟨PH.le_trans hj1.1 g1,by simpa using g2⟩⟩
    intro b2 h3 ρ3 w3 tb3 hk2
    refine bc.keep [0,1,2,22,28] [] (s':=⟨[(0,.b (.one (CP.tr af (.node a l r)))),(1,.b (.one c)),(2,.b (.one (.raw (.func (.yield L) #[] #[])))),(22,B true),(28,B b2)],[]⟩) rfl ?_
    refine bc.opt 28 rfl ?_
    refine bc.cons (.inl rfl) rfl (aJ (fun _=>rfl) rfl rfl rfl) ?_
    refine bc.cons (.inl rfl) rfl (aP rfl) ?_
    cases b2 with
    | false=>
      refine bc.eW (.plain (t:=30) rfl) rfl rfl rfl (.one .any) ?_
      refine bc.eW (.plain (t:=30) rfl) rfl rfl rfl (.one .any) ?_
      refine bc.eW (.plain (t:=30) rfl) rfl rfl rfl (.one .any) ?_
      refine bc.eW (.plain (t:=30) rfl) rfl rfl rfl (.one .any) ?_
      refine bc.eW (.plain (t:=30) rfl) rfl rfl rfl (.one .any) ?_
      refine bc.eW (.plain (t:=30) rfl) rfl rfl rfl (.one .any) ?_
      refine bc.eW (.plain (t:=30) rfl) rfl rfl rfl (.one (.bool true)) ?_
      refine bc.cons (.inl rfl) rfl (aJ (fun e=>Bool.noConfusion e) rfl rfl rfl) ?_
      refine bc.cons (.inl rfl) rfl (bR rfl) ?_
      refine bc.nil ?_
      refine Fin.keep [6] [] (s':=⟨[(6,B false)],[]⟩) rfl ?_
      refine Fin.ic ?_ hlo
      refine a7.ret ?_
      exact hend false w3 h3 ρ3 tb3 ⟨hk2.1,hk2.2⟩
    | true=>
    refine bc.iI (.inl rfl) (.plain (t:=30) rfl) rfl rfl rfl (aP rfl) ?_
    refine bc.iI (.inl rfl) (.plain (t:=30) rfl) rfl rfl rfl (aK (z:=(a,l,r)) (qs:=af a ++ [CP.tr af l,CP.tr af r]) rfl rfl rfl) ?_
    refine bc.iI (.inl rfl) (.plain (t:=30) rfl) rfl rfl rfl (aD (qs:=[CP.tr af r]) eC rfl rfl) ?_
    refine bc.iI (.inl rfl) (.plain (t:=30) rfl) rfl rfl rfl (az (p:=CP.tr af r) bK rfl rfl) ?_
    refine bc.iI (.inl rfl) (.plain (t:=30) rfl) rfl rfl rfl (aP rfl) ?_
    refine bc.iI (.inl rfl) (.plain (t:=30) rfl) rfl rfl rfl (aP rfl) ?_
    refine bc.stepT (.plain (t:=30) rfl) rfl rfl rfl (lI (d:=37) (Kv J Jx h (k + xs.length + 1 + zs.length)) (fun b h w hk=>hk.ok hJ hJx) rfl (by decide) ?_ ?_)
    · intro a1 w1 h1' ρ1 hw1 hs1 K' hK'
      have hj1:=hk2.go hJ hJx hw1
      have e20:a1.eval (.tmp 36) = .func (.yield L) #[] #[]:=(aR hs1 (o:=.tmp 36) rfl:(CP.raw _).rel h1' _).1
      refine lB (.inl rfl) rfl (fun a w h=>h) ?_
      unfold Oper.wp
      rw [jG q7 a1 w1]
      show Calls Tryz.prog 78 [a1.eval (.tmp 34),a1.eval (.tmp 35),a1.eval (.tmp 36)].toArray w1 _
      rw [e20]
      refine (ihr zs (k + xs.length + 1) hzs (fun i x hi=>by rw [show k + xs.length + 1 + i = k + (xs.length + (i + 1)) by omega]; exact hall _ x (by simp [List.getElem?_append_right,hi])) h1' w1 _ _ hj1.2 (aR hs1 (o:=.tmp 34) rfl) (aR hs1 (o:=.tmp 35) rfl)).mono ?_
      rintro e w' ⟨b,h',rfl,hk⟩
      exact hK' b h' w' hk.1 ⟨PH.le_trans hj1.1 hk.1,hk.2⟩
    intro b3 h4 ρ4 w4 tb4 hk3
    refine bc.keep [30,37] [] (s':=⟨[(30,B true),(37,B b3)],[]⟩) rfl ?_
    refine bc.opt 37 rfl ?_
    refine bc.cons (.inl rfl) rfl (aJ (fun _=>rfl) rfl rfl rfl) ?_
    refine bc.cons (.inl rfl) rfl (bR rfl) ?_
    refine bc.nil ?_
    refine Fin.keep [6] [] (s':=⟨[(6,B b3)],[]⟩) rfl ?_
    refine Fin.ic ?_ hlo
    refine a7.ret ?_
    exact hend b3 w4 h4 ρ4 tb4 (by rw [hlen]; exact hk3)
end
theorem pw {c:CP} {p:dh bu → Option Bool} (hp:tU c p) {t:dh bu} {xs:List entry} (h:oM p t = some xs):Iter Tryz.prog [] 77 [CP.rp [CP.tr af t],CP.rp [c]] (xs.map uA):=by
  intro J Jx L hJ hJx hround h0 W caps hJ0 hcaps
  cases hcaps with
  | @cons _ c1 _ _ g1 hc=>
  cases hc with
  | @cons _ c2 _ _ g2 hc2=>
  cases hc2
  refine callsIn_wide.1 (callsIn_of_wp (n:=0) (F:=Fence.wide) Tryz.func77 rfl trivial ?_)
  obtain ⟨hs0,hn0⟩:=mz (m:=8) (h:=h0) (ρ:=fun _=>.bool false) (args:=[.one (.raw (.func (.yield L) #[] #[])),.aO [CP.tr af t],.aO [c]]) (vals:=[.func (.yield L) #[] #[],c1,c2])
    (.cons ⟨rfl,rfl⟩ (.cons g1 (.cons g2 .nil))) (Nat.le_of_ble_eq_true rfl)
  obtain ⟨hag0,htb0⟩:=(hJ 0).1 h0 W hJ0
  have hk0:Kv J Jx h0 0 true h0 W:=⟨PH.le_refl h0,by simpa using hJ0⟩
  generalize hQo:bodyPost Tryz.prog _ _ = Qo
  have hlo:¬ LetsOut Qo:=by
    rw [← hQo]
    rintro ⟨a,w,⟨v,he⟩,_⟩
    cases he
  refine (show a7 Tryz.prog (⟨W,h0,fun _=>.bool false,htb0⟩:Env []) ⟨8,[],[],[]⟩ Fence.wide _ ⟨_,[]⟩ Qo from ?_) hlo _ _ (R.fresh htb0 hag0 rfl hn0 hs0)
  clear hs0 hn0
  refine a7.oE (.inl rfl) ?_
  refine bc.cons (.inl rfl) rfl (az (p:=CP.tr af t) bK rfl rfl) ?_
  refine bc.cons (.inl rfl) rfl (az (p:=c) wb rfl rfl) ?_
  refine bc.cons (.inl rfl) rfl (aP rfl) ?_
  refine bc.stepU rfl (lI (d:=7) (Kv J Jx h0 xs.length) (fun b h w hk=>hk.ok hJ hJx) rfl (by decide) ?_ ?_)
  · intro a1 w1 h1' ρ1 hw1 hs1 K' hK'
    have hj1:=hk0.go hJ hJx hw1
    have e20:a1.eval (.tmp 6) = .func (.yield L) #[] #[]:=(aR hs1 (o:=.tmp 6) rfl:(CP.raw _).rel h1' _).1
    refine lB (.inl rfl) rfl (fun a w h=>h) ?_
    unfold Oper.wp
    rw [jG q7 a1 w1]
    show Calls Tryz.prog 78 [a1.eval (.tmp 4),a1.eval (.tmp 5),a1.eval (.tmp 6)].toArray w1 _
    rw [e20]
    refine (si hJ hJx hp (all:=xs) (fun k x h W vals hx=>hround k (uA x) h W vals (by rw [List.getElem?_map,hx]; rfl)) t xs 0 h (fun i x hi=>by rw [Nat.zero_add]; exact hi) h1' w1 _ _ hj1.2 (aR hs1 (o:=.tmp 4) rfl) (aR hs1 (o:=.tmp 5) rfl)).mono ?_
    rintro e w' ⟨b,h',rfl,hk⟩
    rw [Nat.zero_add] at hk
    exact hK' b h' w' hk.1 ⟨PH.le_trans hj1.1 hk.1,hk.2⟩
  intro b h2 ρ2 w2 tb2 hk1
  refine bc.nil ?_
  rintro a w ⟨hd,hn,h',ρ',hw,hs⟩
  have hk2:=hk1.go hJ hJx hw
  rw [← hQo]
  refine ⟨hd,.tuple #[],?_,⟨_,rfl⟩,?_⟩
  · rw [km,show (Tryz.f77:Func).results = #[] from rfl]
    simp
  · cases b with
    | true=>exact .inl ⟨h',by rw [List.length_map]; exact hk2.2⟩
    | false=>exact .inr ⟨h',hk2.2⟩
def iz (F:Nat) (a0:cg) (b0:cg):Option cg :=
 Option.bind (iter F (dd fun a_2 x_3=>if (decide (x_3 < 3)) = true then ((a8 a_2.Lo.l x_3).bind fun x_5=>(a8 b0.Lo.l x_3).bind fun x_6=>(a8 a_2.Hi.l x_3).bind fun x_7=>(a8 b0.Hi.l x_3).bind fun x_8=>(a8 a_2.Lo.l x_3).bind fun x_9=>(a8 a_2.Hi.l x_3).bind fun x_10=>some (.inl ((⟨a_2.Lo.set x_3 (min x_5 x_6),a_2.Hi.set x_3 (max x_7 x_8)⟩:cg),IntKind.i64.wrap (x_3 + 1)))) else (some (.inr a_2))) (a0,0)) (fun a_1=>some a_1)
theorem kI {F:Nat} {a0:cg} {b0:cg} {r:cg} (h:iz F a0 b0 = some r):av Tryz.prog [] 18 [] [.agg (ao a0),.agg (ao b0)] (Is [] (.b (.agg (ao r)))):=by
 unfold iz at h
 refine av.intro 35 Tryz.func18 Tryz.ntmps18 rfl (by simp) fun E=>?_
 show ab _ E ⟨35,[],[],[]⟩ _ ⟨[(0,.b (.agg (ao a0))),(1,.b (.agg (ao b0)))],[]⟩ _
 refine ab.seq (ab.aa ?_)
 refine Oc (bq (k:=101) rfl rfl) (Oc (bq (k:=102) rfl rfl) (Oc (aT (k:=103) fa rfl) ?_))
 refine ae.ai ⟨[(2,Pt 101 0),(3,Pt 102 0),(4,Pt 103 0)],[(101,.box 25 (ao a0)),(102,.box 25 (ao b0)),(103,.box 25 ((c3 .i64) A3.zero ++ ((c3 .i64) A3.zero)))]⟩ rfl ?_
 obtain ⟨v1,h2,h⟩:=aL h
 refine ab.c6 (v:=v1) (fun (a_1:cg)=>⟨[(2,Pt 101 0),(4,Pt 103 0)],[(101,.box 25 (ao a_1)),(103,.box 25 ((c3 .i64) A3.zero ++ ((c3 .i64) A3.zero)))]⟩) (fun z=>z) ?_ ?_
 ·refine ab.seq (ab.aa ?_)
  refine Oc om (ae.ai ⟨[(2,_),(3,_),(4,_),(6,I 0)],[(101,_),(102,_),(103,_)]⟩ rfl (ab.block (ab.cN h2 (dd fun (a_2:cg) (x_3:Int)=>⟨[(2,Pt 101 0),(3,Pt 102 0),(4,Pt 103 0),(6,I x_3)],[(101,.box 25 (ao a_2)),(102,.box 25 (ao b0)),(103,.box 25 ((c3 .i64) A3.zero ++ ((c3 .i64) A3.zero)))]⟩) [2,3,4,6] [101,102,103] rfl ?_)))
  rintro ⟨a_2,x_3⟩ o3 h4 hy5
  refine ab.seq (ab.aa ?_)
  refine Oc (bb rfl rfl) (ae.ai ⟨[(2,_),(3,_),(4,_),(6,_),(7,B (decide (x_3 < 3)))],[(101,_),(102,_),(103,_)]⟩ rfl (ab.seq (ab.ite h4 rfl (fun _ h4=>?_) (fun _ h4=>?_))))
  ·refine ab.skip (Fin.ag ⟨[(2,_),(3,_),(4,_),(6,_)],[(101,_),(102,_),(103,_)]⟩ rfl (Fin.then (ab.seq (ab.block (ab.seq (ab.aa ?_))))))
   refine Oc om (Oc oa ?_)
   refine ae.ai ⟨[(2,_),(3,_),(4,_),(5,I x_3),(6,_)],[(101,_),(102,_),(103,_)]⟩ rfl ?_
   obtain ⟨x_5,e6,h4⟩:=aL h4
   obtain ⟨x_6,e7,h4⟩:=aL h4
   obtain ⟨x_7,e8,h4⟩:=aL h4
   obtain ⟨x_8,e9,h4⟩:=aL h4
   obtain ⟨x_9,e10,h4⟩:=aL h4
   obtain ⟨x_10,e11,h4⟩:=aL h4
   refine ab.jE mixed [false,false,false,false,false,false,false,false,false,false,false,false,false,false,false,false,false,false,false,false,false,false,true,false,false,true] [I x_3,I x_3,I x_3,Pt 101 0,.b (.ptr 101 (0 + (x_3:Int).toNat * 1)),I x_5,I x_3,Pt 102 0,.b (.ptr 102 (0 + (x_3:Int).toNat * 1)),I x_6,I (min x_5 x_6),I x_3,Pt 101 3,.b (.ptr 101 (3 + (x_3:Int).toNat * 1)),I x_7,I x_3,Pt 102 3,.b (.ptr 102 (3 + (x_3:Int).toNat * 1)),I x_8,I (max x_7 x_8),Pt 101 0,.b (.ptr 101 (0 + (x_3:Int).toNat * 1)),B true,Pt 101 3,.b (.ptr 101 (3 + (x_3:Int).toNat * 1)),B true] [⟨[false,false,false,false,false,false,false,false,false,false,false,false,false,false,false,false,false,false,false,false,false,false,false,false,false,false],[(2,Pt 101 0),(3,Pt 102 0),(4,Pt 103 0),(5,I x_3),(6,I x_3)],[(101,.box 25 (ao a_2)),(102,.box 25 (ao b0)),(103,.box 25 ((c3 .i64) A3.zero ++ ((c3 .i64) A3.zero)))],[true,true,true,true,true,true,true,true,true,true,true,true,true,true,true,true,true,true,true,true,true,true,true,true,true,true],[],[24,25]⟩,⟨[false,false,false,false,false,false,false,false,false,false,false,false,false,false,false,false,false,false,false,false,false,false,true,false,false,false],[(2,Pt 101 0),(3,Pt 102 0),(4,Pt 103 0),(5,I x_3),(6,I x_3)],[(101,.box 25 ((c3 .i64) (a_2.Lo.set x_3 (min x_5 x_6)) ++ ((c3 .i64) a_2.Hi))),(102,.box 25 (ao b0)),(103,.box 25 ((c3 .i64) A3.zero ++ ((c3 .i64) A3.zero)))],[true,true,true,true,true,true,true,true,true,true,true,true,true,true,true,true,true,true,true,true,true,true,true,true,true,true],[0,2,3,4,5,6,7,8,9,10,11,12,13,14,20,21,22],[]⟩,⟨[false,false,false,false,false,false,false,false,false,false,false,false,false,false,false,false,false,false,false,false,false,false,true,false,false,true],[(2,Pt 101 0),(3,Pt 102 0),(4,Pt 103 0),(5,I x_3),(6,I x_3)],[(101,.box 25 ((c3 .i64) (a_2.Lo.set x_3 (min x_5 x_6)) ++ ((c3 .i64) (a_2.Hi.set x_3 (max x_7 x_8))))),(102,.box 25 (ao b0)),(103,.box 25 ((c3 .i64) A3.zero ++ ((c3 .i64) A3.zero)))],[true,true,true,true,true,true,true,true,true,true,true,true,true,true,true,true,true,true,true,true,true,true,true,true,true,true],[0,1,2,3,4,5,6,7,8,9,10,11,12,13,14,15,16,17,18,19,20,21,22,23,24,25],[]⟩] rfl (⟨by kernel_rfl,⟨⟨I x_3,fun _=>rfl,fun _=>.p (by exact aP rfl)⟩,⟨I x_3,fun _=>rfl,fun _=>.p (by exact aP rfl)⟩,⟨I x_3,fun _=>rfl,fun _=>.p (by exact aP rfl)⟩,⟨Pt 101 0,fun _=>rfl,fun _=>.p (by exact aq cV rfl rfl)⟩,⟨.b (.ptr 101 (0 + (x_3:Int).toNat * 1)),fun _=>rfl,fun _=>.p (by exact ba bL (aX e6) (dn e6) rfl rfl rfl)⟩,⟨I x_5,fun _=>rfl,fun _=>.p (by exact aF aM rfl rfl (cP (post:=((c3 .i64) a_2.Hi)) (k:=.i64) [] e6 rfl rfl rfl))⟩,⟨I x_3,fun _=>rfl,fun _=>.p (by exact aP rfl)⟩,⟨Pt 102 0,fun _=>rfl,fun _=>.p (by exact aq cV rfl rfl)⟩,⟨.b (.ptr 102 (0 + (x_3:Int).toNat * 1)),fun _=>rfl,fun _=>.p (by exact ba bL (aX e7) (dn e7) rfl rfl rfl)⟩,⟨I x_6,fun _=>rfl,fun _=>.p (by exact aF aM rfl rfl (cP (post:=((c3 .i64) b0.Hi)) (k:=.i64) [] e7 rfl rfl rfl))⟩,⟨I (min x_5 x_6),fun _=>rfl,fun _=>.p (by exact vq rfl rfl)⟩,⟨I x_3,fun _=>rfl,fun _=>.p (by exact aP rfl)⟩,⟨Pt 101 3,fun _=>rfl,fun _=>.p (by exact aq cU rfl rfl)⟩,⟨.b (.ptr 101 (3 + (x_3:Int).toNat * 1)),fun _=>rfl,fun _=>.p (by exact ba bL (aX e8) (dn e8) rfl rfl rfl)⟩,⟨I x_7,fun _=>rfl,fun _=>.p (by exact aF aM rfl rfl (cP (post:=[]) (k:=.i64) ((c3 .i64) a_2.Lo) e8 rfl rfl rfl))⟩,⟨I x_3,fun _=>rfl,fun _=>.p (by exact aP rfl)⟩,⟨Pt 102 3,fun _=>rfl,fun _=>.p (by exact aq cU rfl rfl)⟩,⟨.b (.ptr 102 (3 + (x_3:Int).toNat * 1)),fun _=>rfl,fun _=>.p (by exact ba bL (aX e9) (dn e9) rfl rfl rfl)⟩,⟨I x_8,fun _=>rfl,fun _=>.p (by exact aF aM rfl rfl (cP (post:=[]) (k:=.i64) ((c3 .i64) b0.Lo) e9 rfl rfl rfl))⟩,⟨I (max x_7 x_8),fun _=>rfl,fun _=>.p (by exact sP rfl rfl)⟩,⟨Pt 101 0,fun _=>rfl,fun _=>.p (by exact aq cV rfl rfl)⟩,⟨.b (.ptr 101 (0 + (x_3:Int).toNat * 1)),fun _=>rfl,fun _=>.p (by exact ba bL (aX e10) (dn e10) rfl rfl rfl)⟩,⟨_,[],.b (.one .any),rfl,(fun e=>by simp at e),rfl,rfl,fun _=>.qE [101,102,103] (by exact .p (by exact fe aM rfl rfl rfl (qR (post:=((c3 .i64) a_2.Hi)) (k:=.i64) [] e10 rfl rfl rfl) (oK (post:=((c3 .i64) a_2.Hi)) (k:=.i64) [] e10 rfl rfl (A3.rA a_2.Lo x_3 (min x_5 x_6)) rfl rfl))) (by exact rfl)⟩,⟨Pt 101 3,fun _=>rfl,fun _=>.p (by exact aq cU rfl rfl)⟩,trivial,trivial,trivial⟩,⟨by kernel_rfl,⟨trivial,⟨I x_3,fun _=>rfl,fun _=>.p (by exact aP rfl)⟩,trivial,trivial,trivial,trivial,trivial,trivial,trivial,trivial,trivial,trivial,trivial,trivial,trivial,⟨I x_3,fun _=>rfl,fun _=>.p (by exact aP rfl)⟩,⟨Pt 102 3,fun _=>rfl,fun _=>.p (by exact aq cU rfl rfl)⟩,⟨.b (.ptr 102 (3 + (x_3:Int).toNat * 1)),fun _=>rfl,fun _=>.p (by exact ba bL (aX e9) (dn e9) rfl rfl rfl)⟩,⟨I x_8,fun _=>rfl,fun _=>.p (by exact aF aM rfl rfl (cP (post:=[]) (k:=.i64) ((c3 .i64) b0.Lo) e9 rfl rfl rfl))⟩,⟨I (max x_7 x_8),fun _=>rfl,fun _=>.p (by exact sP rfl rfl)⟩,trivial,trivial,trivial,⟨Pt 101 3,fun _=>rfl,fun _=>.p (by exact aq cU rfl rfl)⟩,⟨.b (.ptr 101 (3 + (x_3:Int).toNat * 1)),fun _=>rfl,fun _=>.p (by exact ba bL (aX e11) (dn e11) rfl rfl rfl)⟩,⟨_,[],.b (.one .any),rfl,(fun e=>by simp at e),rfl,rfl,fun _=>.qE [101,102,103] (by exact .p (by exact fe aM rfl rfl rfl (qR (post:=[]) (k:=.i64) ((c3 .i64) (a_2.Lo.set x_3 (min x_5 x_6))) e11 rfl rfl rfl) (oK (post:=[]) (k:=.i64) ((c3 .i64) (a_2.Lo.set x_3 (min x_5 x_6))) e11 rfl rfl (A3.rA a_2.Hi x_3 (max x_7 x_8)) rfl rfl))) (by exact rfl)⟩,trivial⟩,⟨by kernel_rfl,⟨trivial,trivial,trivial,trivial,trivial,trivial,trivial,trivial,trivial,trivial,trivial,trivial,trivial,trivial,trivial,trivial,trivial,trivial,trivial,trivial,trivial,trivial,trivial,trivial,trivial,trivial,trivial⟩,trivial⟩⟩⟩) rfl rfl rfl [2,3,4,6] [101,102,103] (s':=⟨[(2,_),(3,_),(4,_),(6,_)],[(101,.box 25 ((c3 .i64) (a_2.Lo.set x_3 (min x_5 x_6)) ++ ((c3 .i64) (a_2.Hi.set x_3 (max x_7 x_8))))),(102,_),(103,_)]⟩) rfl ?_
   refine Fin.au (Fin.ag ⟨[(2,_),(3,_),(4,_),(6,_)],[(101,_),(102,_),(103,_)]⟩ rfl (Fin.then (ab.aa ?_)))
   refine Oc (br rfl rfl) (Oc om ?_)
   refine ae.nil ?_
   exact Fin.bO [2,3,4,6] [101,102,103] ((⟨a_2.Lo.set x_3 (min x_5 x_6),a_2.Hi.set x_3 (max x_7 x_8)⟩:cg),IntKind.i64.wrap (x_3 + 1)) (Option.some.inj h4) rfl
  ·refine ab.exit (Fin.ax ?_)
   obtain rfl:=hy5 _ (Option.some.inj h4).symm
   refine Fin.ax (Fin.aQ ?_)
   exact Fin.join [2,4] [101,103] a_2 rfl rfl
 ·rintro a_1 hv
  subst v1
  refine ab.seq (ab.aa ?_)
  refine Oc (lp aC) (Oc (aB aC rfl rfl rfl rfl (Nat.le_of_ble_eq_true rfl) rfl) ?_)
  refine ae.ai ⟨[(4,_)],[(103,.box 25 (ao a_1))]⟩ rfl (ab.ret ?_)
  obtain rfl:=Option.some.inj h
  refine Fin.ag ⟨[(4,_)],[(103,_)]⟩ rfl (Fin.aA [.agg (ao a_1)] (.inl rfl) rfl (.cons (.agg aC rfl rfl rfl rfl) .nil) ⟨rfl,rfl⟩)
def fO (F:Nat) (s0:List cg) (f0:Nat):Option Int :=
 Option.bind (iter F (fun x_1=>if (decide (x_1 < (s0.length:Int))) = true then ((a8 s0 x_1).bind fun x_2=>(lg F f0 x_2).bind fun x_3=>if x_3 = true then (some (.inr (.inr x_1))) else (some (.inl (IntKind.i64.wrap (x_1 + 1))))) else (some (.inr (.inl ())))) 0) (cL (fun _=>some (-1)) (fun y=>some y))
theorem kM {F:Nat} {s0:List cg} {f0:Nat} {r:Int} (h:fO F s0 f0 = some r):av Tryz.prog [] 67 [] [.one (.sl 6 (s0.map ao)),.one (.raw (.func (.func f0) #[] #[]))] (Is [] (.b (.one (.i r)))):=by
 unfold fO at h
 refine av.intro 19 Tryz.func67 Tryz.ntmps67 rfl (by simp) fun E=>?_
 show ab _ E ⟨19,[],[],[]⟩ _ ⟨[(0,.b (.one (.sl 6 (s0.map ao)))),(1,.b (.one (.raw (.func (.func f0) #[] #[]))))],[]⟩ _
 refine ab.seq (ab.aa ?_)
 refine Oc oa (ae.ai ⟨[(0,.b (.one (.sl 6 (s0.map ao)))),(1,.b (.one (.raw (.func (.func f0) #[] #[]))))],[]⟩ rfl ?_)
 obtain ⟨v1,h2,h⟩:=aL h
 refine ab.c6 (v:=v1) (fun (_:Unit)=>⟨[],[]⟩) (fun z=>.inl z) ?_ ?_
 ·refine ab.seq (ab.aa ?_)
  refine Oc om (Oc (aY und34 rfl (List.length_map _)) (Oc om ?_))
  refine ae.ai ⟨[(0,_),(1,_),(7,I (s0.length:Int)),(8,I 0)],[]⟩ rfl (ab.block (ab.cN h2 (fun (x_1:Int)=>⟨[(0,.b (.one (.sl 6 (s0.map ao)))),(1,.b (.one (.raw (.func (.func f0) #[] #[])))),(7,I (s0.length:Int)),(8,I x_1)],[]⟩) [0,1,7,8] [] rfl ?_))
  rintro x_1 o3 h4 hy5
  refine ab.seq (ab.aa ?_)
  refine Oc (bb rfl rfl) (ae.ai ⟨[(0,_),(1,_),(7,_),(8,_),(9,B (decide (x_1 < (s0.length:Int))))],[]⟩ rfl (ab.seq (ab.ite h4 rfl (fun _ h4=>?_) (fun _ h4=>?_))))
  ·refine ab.skip (Fin.ag ⟨[(0,_),(1,_),(7,_),(8,_)],[]⟩ rfl (Fin.then (ab.seq (ab.block (ab.seq (ab.aa ?_))))))
   refine Oc om (Oc oa ?_)
   refine ae.ai ⟨[(0,_),(1,_),(5,I x_1),(7,_),(8,_)],[]⟩ rfl (ab.seq (ab.aa ?_))
   refine Oc om (Oc om (Oc om ?_))
   obtain ⟨x_2,e6,h4⟩:=aL h4
   refine Oc (aN mf (aX e6) (bn (e:=ao) e6) rfl rfl) (Oc (bj aC rfl rfl rfl) ?_)
   obtain ⟨x_3,e7,h4⟩:=aL h4
   refine Oc (jM (sA e7) (sB e7) rfl rfl rfl) (ae.ai ⟨[(0,_),(1,_),(5,_),(7,_),(8,_),(16,B x_3)],[]⟩ rfl (ab.ite h4 rfl (fun _ h4=>?_) (fun _ h4=>?_)))
   ·refine ab.seq (ab.aa ?_)
    refine Oc om (Oc oa ?_)
    refine ae.ai ⟨[(4,I x_1)],[]⟩ rfl (ab.ret (Fin.aS (Fin.aw ?_)))
    obtain rfl:=hy5 _ (Option.some.inj h4).symm
    refine Fin.aw (Fin.aS (Fin.aw ?_))
    obtain rfl:=Option.some.inj h
    refine Fin.ag ⟨[(4,_)],[]⟩ rfl (Fin.aA [.one (.i x_1)] (.inl rfl) rfl (.cons (.tmp rfl) .nil) ⟨rfl,rfl⟩)
   ·refine ab.skip (Fin.au (Fin.ag ⟨[(0,_),(1,_),(7,_),(8,_)],[]⟩ rfl (Fin.then (ab.aa ?_))))
    refine Oc (br rfl rfl) (Oc om ?_)
    refine ae.nil ?_
    exact Fin.bO [0,1,7,8] [] (IntKind.i64.wrap (x_1 + 1)) (Option.some.inj h4) rfl
  ·refine ab.exit (Fin.ax ?_)
   obtain rfl:=hy5 _ (Option.some.inj h4).symm
   refine Fin.ax (Fin.aQ ?_)
   exact Fin.join [] [] () rfl rfl
 ·rintro _ hv
  subst v1
  refine ab.seq (ab.aa ?_)
  refine Oc oa (ae.ai ⟨[(4,I (-1))],[]⟩ rfl (ab.ret ?_))
  obtain rfl:=Option.some.inj h
  refine Fin.ag ⟨[(4,_)],[]⟩ rfl (Fin.aA [.one (.i (-1))] (.inl rfl) rfl (.cons (.tmp rfl) .nil) ⟨rfl,rfl⟩)
def eU (F:Nat) (s0:List cg) (f0:Nat):Option Bool :=
 (fO F s0 f0).bind fun x_1=>some (decide (0 ≤ x_1))
theorem jw {F:Nat} {s0:List cg} {f0:Nat} {r:Bool} (h:eU F s0 f0 = some r):av Tryz.prog [] 40 [] [.one (.sl 6 (s0.map ao)),.one (.raw (.func (.func f0) #[] #[]))] (Is [] (.b (.one (.bool r)))):=by
 unfold eU at h
 refine av.intro 9 Tryz.func40 Tryz.ntmps40 rfl (by simp) fun E=>?_
 show ab _ E ⟨9,[],[],[]⟩ _ ⟨[(0,.b (.one (.sl 6 (s0.map ao)))),(1,.b (.one (.raw (.func (.func f0) #[] #[]))))],[]⟩ _
 refine ab.seq (ab.aa ?_)
 refine Oc oa (ae.ai ⟨[(0,.b (.one (.sl 6 (s0.map ao)))),(1,.b (.one (.raw (.func (.func f0) #[] #[]))))],[]⟩ rfl (ab.seq (ab.aa ?_)))
 refine Oc om (Oc om ?_)
 obtain ⟨x_1,e1,h⟩:=aL h
 refine Oc (ak (kM e1) goes67 rfl rfl) (Oc (nm rfl rfl) (Oc oa ?_))
 refine ae.ai ⟨[(4,B (decide (0 ≤ x_1)))],[]⟩ rfl (ab.ret ?_)
 obtain rfl:=Option.some.inj h
 refine Fin.ag ⟨[(4,_)],[]⟩ rfl (Fin.aA [.one (.bool (decide (0 ≤ x_1)))] (.inl rfl) rfl (.cons (.tmp rfl) .nil) ⟨rfl,rfl⟩)
def fI (F:Nat) (k0:Int) (v0c:List cg) (v1c:Int):Option Bool :=
 (a8 v0c k0).bind fun x_1=>(a8 v0c v1c).bind fun x_2=>some (decide (x_1.Hi.a0 < x_2.Lo.a0))
theorem iV {F:Nat} {k0:Int} {v0c:List cg} {v1c:Int} {r:Bool} (h:fI F k0 v0c v1c = some r):av Tryz.prog [] 46 [] [.one (.i k0),.aO [.sl 6 (v0c.map ao)],.aO [.i v1c]] (Is [] (.b (.one (.bool r)))):=by
 unfold fI at h
 refine av.intro 18 Tryz.func46 Tryz.ntmps46 rfl (by simp) fun E=>?_
 show ab _ E ⟨18,[],[],[]⟩ _ ⟨[(0,I k0),(1,.b (.aO [.sl 6 (v0c.map ao)])),(2,.b (.aO [.i v1c]))],[]⟩ _
 refine ab.seq (ab.aa ?_)
 refine Oc oa (ae.ai ⟨[(0,I k0),(1,.b (.aO [.sl 6 (v0c.map ao)])),(2,.b (.aO [.i v1c]))],[]⟩ rfl (ab.seq ?_))
 obtain ⟨x_1,e1,h⟩:=aL h
 obtain ⟨x_2,e2,h⟩:=aL h
 refine ab.bE mixed 14 [.b (.one (.sl 6 (v0c.map ao))),I k0,.b (.aO (ao x_1)),.b (.aO ((c3 .i64) x_1.Hi)),.b (.aO [.i x_1.Hi.a0]),I x_1.Hi.a0,.b (.one (.sl 6 (v0c.map ao))),I v1c,.b (.aO (ao x_2)),.b (.aO (ao x_2)),.b (.aO [.i x_2.Lo.a0]),I x_2.Lo.a0,B (decide (x_1.Hi.a0 < x_2.Lo.a0)),B (decide (x_1.Hi.a0 < x_2.Lo.a0))] [4] [] (s':=⟨[(4,B (decide (x_1.Hi.a0 < x_2.Lo.a0)))],[]⟩) rfl ⟨fun _=>.p (az lA rfl rfl),fun _=>.p om,fun _=>.p (aN mf (aX e1) (bn (e:=ao) e1) rfl rfl),fun _=>by exact .p (aD cU rfl rfl),fun _=>.p (oi bL (by decide) (by decide) rfl rfl rfl),fun _=>.p (az aM rfl rfl),fun _=>.p (az lA rfl rfl),fun _=>.p (az aM rfl rfl),fun _=>.p (aN mf (aX e2) (bn (e:=ao) e2) rfl rfl),fun _=>by exact .p (aD cV rfl rfl),fun _=>.p (oi bL (by decide) (by decide) rfl rfl rfl),fun _=>.p (az aM rfl rfl),fun _=>.p (bb rfl rfl),fun _=>.p oa,trivial⟩ rfl rfl (ab.ret ?_)
 obtain rfl:=Option.some.inj h
 refine Fin.ag ⟨[(4,_)],[]⟩ rfl (Fin.aA [.one (.bool (decide (x_1.Hi.a0 < x_2.Lo.a0)))] (.inl rfl) rfl (.cons (.tmp rfl) .nil) ⟨rfl,rfl⟩)
def fh (F:Nat) (s0:List Int) (f0:(List cg) × Int):Option Int :=
 Option.bind (iter F (fun x_1=>if (decide (x_1 < (s0.length:Int))) = true then ((a8 s0 x_1).bind fun x_2=>(fI F x_2 f0.1 f0.2).bind fun x_3=>if x_3 = true then (some (.inr (.inr x_1))) else (some (.inl (IntKind.i64.wrap (x_1 + 1))))) else (some (.inr (.inl ())))) 0) (cL (fun _=>some (-1)) (fun y=>some y))
theorem jS {F:Nat} {s0:List Int} {f0:(List cg) × Int} {r:Int} (h:fh F s0 f0 = some r):av Tryz.prog [] 71 [] [.one (.sl 1 (s0.map eI)),.one (.fw 46 [CP.rp [.sl 6 (f0.1.map ao)],CP.rp [.i f0.2]])] (Is [] (.b (.one (.i r)))):=by
 unfold fh at h
 refine av.intro 19 Tryz.func71 Tryz.ntmps71 rfl (by simp) fun E=>?_
 show ab _ E ⟨19,[],[],[]⟩ _ ⟨[(0,.b (.one (.sl 1 (s0.map eI)))),(1,.b (.one (.fw 46 [CP.rp [.sl 6 (f0.1.map ao)],CP.rp [.i f0.2]])))],[]⟩ _
 refine ab.seq (ab.aa ?_)
 refine Oc oa (ae.ai ⟨[(0,.b (.one (.sl 1 (s0.map eI)))),(1,.b (.one (.fw 46 [CP.rp [.sl 6 (f0.1.map ao)],CP.rp [.i f0.2]])))],[]⟩ rfl ?_)
 obtain ⟨v1,h2,h⟩:=aL h
 refine ab.c6 (v:=v1) (fun (_:Unit)=>⟨[],[]⟩) (fun z=>.inl z) ?_ ?_
 ·refine ab.seq (ab.aa ?_)
  refine Oc om (Oc (aY fR rfl (List.length_map _)) (Oc om ?_))
  refine ae.ai ⟨[(0,_),(1,_),(7,I (s0.length:Int)),(8,I 0)],[]⟩ rfl (ab.block (ab.cN h2 (fun (x_1:Int)=>⟨[(0,.b (.one (.sl 1 (s0.map eI)))),(1,.b (.one (.fw 46 [CP.rp [.sl 6 (f0.1.map ao)],CP.rp [.i f0.2]]))),(7,I (s0.length:Int)),(8,I x_1)],[]⟩) [0,1,7,8] [] rfl ?_))
  rintro x_1 o3 h4 hy5
  refine ab.seq (ab.aa ?_)
  refine Oc (bb rfl rfl) (ae.ai ⟨[(0,_),(1,_),(7,_),(8,_),(9,B (decide (x_1 < (s0.length:Int))))],[]⟩ rfl (ab.seq (ab.ite h4 rfl (fun _ h4=>?_) (fun _ h4=>?_))))
  ·refine ab.skip (Fin.ag ⟨[(0,_),(1,_),(7,_),(8,_)],[]⟩ rfl (Fin.then (ab.seq (ab.block (ab.seq (ab.aa ?_))))))
   refine Oc om (Oc oa ?_)
   refine ae.ai ⟨[(0,_),(1,_),(5,I x_1),(7,_),(8,_)],[]⟩ rfl (ab.seq (ab.aa ?_))
   refine Oc om (Oc om (Oc om ?_))
   obtain ⟨x_2,e6,h4⟩:=aL h4
   refine Oc (aN bN (aX e6) (bn (e:=eI) e6) rfl rfl) (Oc (az aM rfl rfl) ?_)
   obtain ⟨x_3,e7,h4⟩:=aL h4
   refine Oc (ph (pss:=[[.sl 6 (f0.1.map ao)],[.i f0.2]]) (iV e7) vD rfl rfl rfl trivial rfl rfl) (ae.ai ⟨[(0,_),(1,_),(5,_),(7,_),(8,_),(16,B x_3)],[]⟩ rfl (ab.ite h4 rfl (fun _ h4=>?_) (fun _ h4=>?_)))
   ·refine ab.seq (ab.aa ?_)
    refine Oc om (Oc oa ?_)
    refine ae.ai ⟨[(4,I x_1)],[]⟩ rfl (ab.ret (Fin.aS (Fin.aw ?_)))
    obtain rfl:=hy5 _ (Option.some.inj h4).symm
    refine Fin.aw (Fin.aS (Fin.aw ?_))
    obtain rfl:=Option.some.inj h
    refine Fin.ag ⟨[(4,_)],[]⟩ rfl (Fin.aA [.one (.i x_1)] (.inl rfl) rfl (.cons (.tmp rfl) .nil) ⟨rfl,rfl⟩)
   ·refine ab.skip (Fin.au (Fin.ag ⟨[(0,_),(1,_),(7,_),(8,_)],[]⟩ rfl (Fin.then (ab.aa ?_))))
    refine Oc (br rfl rfl) (Oc om ?_)
    refine ae.nil ?_
    exact Fin.bO [0,1,7,8] [] (IntKind.i64.wrap (x_1 + 1)) (Option.some.inj h4) rfl
  ·refine ab.exit (Fin.ax ?_)
   obtain rfl:=hy5 _ (Option.some.inj h4).symm
   refine Fin.ax (Fin.aQ ?_)
   exact Fin.join [] [] () rfl rfl
 ·rintro _ hv
  subst v1
  refine ab.seq (ab.aa ?_)
  refine Oc oa (ae.ai ⟨[(4,I (-1))],[]⟩ rfl (ab.ret ?_))
  obtain rfl:=Option.some.inj h
  refine Fin.ag ⟨[(4,_)],[]⟩ rfl (Fin.aA [.one (.i (-1))] (.inl rfl) rfl (.cons (.tmp rfl) .nil) ⟨rfl,rfl⟩)
def fy (F:Nat) (del0:(List cg) × Int) (s0:List Int):Option (List Int) :=
 (fh F s0 (del0.1,del0.2)).bind fun x_1=>if (decide (x_1 = (-1))) = true then (some s0) else (Option.bind (iter F (sF fun s_4 i_5 j_6=>if (decide (j_6 < (s_4.length:Int))) = true then (Option.bind ((a8 s_4 j_6).bind fun x_11=>(fI F x_11 del0.1 del0.2).bind fun x_12=>if (!x_12) = true then ((a8 s_4 i_5).bind fun x_13=>some (s_4.set (i_5:Int).toNat x_11,IntKind.i64.wrap (i_5 + 1))) else (some (s_4,i_5))) (dd fun s_9 i_10=>some (.inl (s_9,i_10,IntKind.i64.wrap (j_6 + 1))))) else (some (.inr (s_4,i_5)))) (s0,x_1,IntKind.i64.wrap (x_1 + 1))) (dd fun s_2 i_3=>Option.bind (clr? (0:Int) s_2 i_3) (fun z_14=>(oQ z_14 i_3).bind fun x_15=>some x_15)))
theorem kz {F:Nat} {del0:(List cg) × Int} {s0:List Int} {r:(List Int)} (h:fy F del0 s0 = some r):av Tryz.prog [] 45 [(1,.row 3 1 (s0.map eI))] [.row 1,.one (.fw 46 [CP.rp [.sl 6 (del0.1.map ao)],CP.rp [.i del0.2]])] (Is [(1,.row 3 1 (r.map eI))] (.b (.row 1))):=by
 unfold fy at h
 refine av.intro 42 Tryz.func45 Tryz.ntmps45 rfl (by simp) fun E=>?_
 show ab _ E ⟨42,[],[1],[]⟩ _ ⟨[(0,.b (.row 1)),(1,.b (.one (.fw 46 [CP.rp [.sl 6 (del0.1.map ao)],CP.rp [.i del0.2]])))],[(1,.row 3 1 (s0.map eI))]⟩ _
 refine ab.seq (ab.aa ?_)
 refine Oc oa (ae.ai ⟨[(0,.b (.row 1)),(1,.b (.one (.fw 46 [CP.rp [.sl 6 (del0.1.map ao)],CP.rp [.i del0.2]])))],[(1,.row 3 1 (s0.map eI))]⟩ rfl (ab.seq (ab.aa ?_)))
 refine Oc om (Oc om ?_)
 obtain ⟨x_1,e1,h⟩:=aL h
 refine Oc (iL (jS e1) goes71 rfl CP.r8) (Oc oa ?_)
 refine ae.ai ⟨[(0,_),(1,_),(5,I x_1)],[(1,_)]⟩ rfl (ab.seq (ab.seq (ab.aa ?_)))
 refine Oc om (Oc (c7 rfl rfl) ?_)
 refine ae.ai ⟨[(0,_),(1,_),(5,_),(12,B (decide (x_1 = (-1))))],[(1,_)]⟩ rfl (ab.ite h rfl (fun _ h=>?_) (fun _ h=>?_))
 ·refine ab.seq (ab.aa ?_)
  refine Oc om (Oc oa ?_)
  refine ae.ai ⟨[(4,.b (.row 1))],[(1,_)]⟩ rfl (ab.ret (Fin.aw ?_))
  obtain rfl:=Option.some.inj h
  refine Fin.ag ⟨[(4,_)],[(1,_)]⟩ rfl ?_
  exact Fin.result [.row 1] (.inl rfl) rfl (.cons (.tmp rfl) .nil) ⟨rfl,rfl⟩
 ·refine ab.skip (Fin.ag ⟨[(0,_),(1,_),(5,_)],[(1,_)]⟩ rfl (Fin.then ?_))
  obtain ⟨v2,h3,h⟩:=aL h
  refine ab.c6 (v:=v2) (dd fun (s_2:List Int) (i_3:Int)=>⟨[(0,.b (.row 1)),(5,I i_3)],[(1,.row 3 1 (s_2.map eI))]⟩) (fun z=>z) ?_ ?_
  ·refine ab.seq (ab.aa ?_)
   refine Oc om (Oc (br rfl rfl) (Oc oa ?_))
   refine ae.ai ⟨[(0,_),(1,_),(5,_),(6,I (IntKind.i64.wrap (x_1 + 1)))],[(1,_)]⟩ rfl (ab.block (ab.cN h3 (sF fun (s_4:List Int) (i_5:Int) (j_6:Int)=>⟨[(0,.b (.row 1)),(1,.b (.one (.fw 46 [CP.rp [.sl 6 (del0.1.map ao)],CP.rp [.i del0.2]]))),(5,I i_5),(6,I j_6)],[(1,.row 3 1 (s_4.map eI))]⟩) [0,1,5,6] [1] rfl ?_))
   rintro ⟨s_4,i_5,j_6⟩ o4 h5 hy6
   refine ab.seq (ab.seq (ab.aa ?_))
   refine Oc om (Oc om (Oc (fl fR rfl rfl (List.length_map _)) (Oc (bb rfl rfl) ?_)))
   refine ae.ai ⟨[(0,_),(1,_),(5,_),(6,_),(19,B (decide (j_6 < (s_4.length:Int))))],[(1,_)]⟩ rfl (ab.ite h5 rfl (fun _ h5=>?_) (fun _ h5=>?_))
   ·refine ab.skip (Fin.ag ⟨[(0,_),(1,_),(5,_),(6,_)],[(1,_)]⟩ rfl (Fin.then ?_))
    obtain ⟨v7,h8,h5⟩:=aL h5
    refine ab.c6 (v:=v7) (dd fun (s_9:List Int) (i_10:Int)=>⟨[(0,.b (.row 1)),(1,.b (.one (.fw 46 [CP.rp [.sl 6 (del0.1.map ao)],CP.rp [.i del0.2]]))),(5,I i_10),(6,I j_6)],[(1,.row 3 1 (s_9.map eI))]⟩) (fun z=>z) ?_ ?_
    ·refine ab.block (ab.seq (ab.aa ?_))
     refine Oc om (Oc om ?_)
     obtain ⟨x_11,e9,h8⟩:=aL h8
     refine Oc (eF bN (aX e9) (j6 e9) rfl rfl rfl rfl) (Oc (gE (i:=(j_6:Int).toNat) (f:=0) aM rfl rfl rfl (bn (e:=eI) e9) rfl) (Oc oa ?_))
     refine ae.ai ⟨[(0,_),(1,_),(5,_),(6,_),(7,I x_11)],[(1,_)]⟩ rfl (ab.seq (ab.aa ?_))
     refine Oc om (Oc om ?_)
     obtain ⟨x_12,e10,h8⟩:=aL h8
     refine Oc (ph (pss:=[[.sl 6 (del0.1.map ao)],[.i del0.2]]) (iV e10) vD rfl rfl rfl trivial rfl rfl) (Oc (di rfl) ?_)
     refine ae.ai ⟨[(0,_),(1,_),(5,_),(6,_),(7,_),(29,B (!x_12))],[(1,_)]⟩ rfl (ab.ite h8 rfl (fun _ h8=>?_) (fun _ h8=>?_))
     ·refine ab.seq (ab.aa ?_)
      refine Oc om (Oc om (Oc om ?_))
      obtain ⟨x_13,e11,h8⟩:=aL h8
      refine Oc (eF bN (aX e11) (j6 e11) rfl rfl rfl rfl) (Oc (lj (i:=(i_5:Int).toNat) aM rfl rfl rfl rfl (vg e11) (map_set _ _ _ _)) ?_)
      refine ae.ai ⟨[(0,_),(1,_),(5,_),(6,_)],[(1,.row 3 1 ((s_4.set (i_5:Int).toNat x_11).map eI))]⟩ rfl (ab.aa (Oc om (Oc (br rfl rfl) (Oc oa ?_))))
      refine ae.nil (Fin.au ?_)
      exact Fin.join [0,1,5,6] [1] (s_4.set (i_5:Int).toNat x_11,IntKind.i64.wrap (i_5 + 1)) (Option.some.inj h8) rfl
     ·refine ab.skip (Fin.au ?_)
      exact Fin.join [0,1,5,6] [1] (s_4,i_5) (Option.some.inj h8) rfl
    ·rintro ⟨s_9,i_10⟩ hv
     subst v7
     refine ab.aa (Oc om (Oc (br rfl rfl) (Oc oa ?_)))
     refine ae.nil ?_
     exact Fin.bO [0,1,5,6] [1] (s_9,i_10,IntKind.i64.wrap (j_6 + 1)) (Option.some.inj h5) rfl
   ·refine ab.exit (Fin.ax ?_)
    obtain rfl:=hy6 _ (Option.some.inj h5).symm
    refine Fin.ax (Fin.aQ ?_)
    exact Fin.join [0,5] [1] (s_4,i_5) rfl rfl
  ·rintro ⟨s_2,i_3⟩ hv
   subst v2
   refine ab.seq (ab.aa ?_)
   refine Oc om (Oc om ?_)
   obtain ⟨z_14,e12,h⟩:=aL h
   refine ae.clr (enc:=eI) bN rfl e12 rfl rfl rfl (by decide) rfl (ae.ai ⟨[(0,_),(5,_)],[(1,.row 3 1 (z_14.map eI))]⟩ rfl (ab.seq (ab.aa ?_)))
   refine Oc om (Oc om ?_)
   obtain ⟨x_15,e13,h⟩:=aL h
   refine Oc (lY bN e13 rfl rfl rfl rfl) (Oc oa ?_)
   refine ae.ai ⟨[(4,.b (.row 1))],[(1,.row 3 1 (x_15.map eI))]⟩ rfl (ab.ret ?_)
   obtain rfl:=Option.some.inj h
   refine Fin.ag ⟨[(4,_)],[(1,_)]⟩ rfl ?_
   exact Fin.result [.row 1] (.inl rfl) rfl (.cons (.tmp rfl) .nil) ⟨rfl,rfl⟩
def eY (F:Nat) (l0:List A2):Option (List A2) :=
 (dA F l0).bind fun x_1=>some x_1
theorem lz {F:Nat} {l0:List A2} {r:(List A2)} (h:eY F l0 = some r):av Tryz.prog [] 47 [(1,.ew 40 2 (l0.map (eu .i64)))] [.row 1] (Is [(1,.ew 40 2 (r.map (eu .i64)))] (.dF [])):=by
 unfold eY at h
 refine av.intro 4 Tryz.func47 Tryz.ntmps47 rfl (by simp) fun E=>?_
 show ab _ E ⟨4,[1],[1],[]⟩ _ ⟨[(0,.b (.row 1))],[(1,.ew 40 2 (l0.map (eu .i64)))]⟩ _
 refine ab.uw 1 rfl (ab.aa (Oc om (ae.ux 1 rfl ?_)))
 obtain ⟨x_1,e1,h⟩:=aL h
 refine Oc (cC (own_a:=[(1,_)]) (kL e1) goes72 rfl ⟨rfl,trivial⟩ rfl rfl) (ae.uw 1 rfl (ae.nil ?_))
 obtain rfl:=Option.some.inj h
 refine Fin.ag ⟨[],[(1,.row 40 2 (x_1.map (eu .i64)))]⟩ rfl (Fin.ux 1 rfl (Fin.ag ⟨[],[(1,.ew 40 2 (x_1.map (eu .i64)))]⟩ rfl ?_))
 exact Fin.result [] (.inr rfl) rfl (.nil) ⟨rfl,rfl⟩
def fH (F:Nat) (l0:List cg):Option ((List A2) × Int) :=
 (eU F l0 41).bind fun x_1=>if x_1 = true then (some ([],1)) else (Option.bind (mk? (0:Int) (l0.length:Int) (l0.length:Int)) (fun x_2=>Option.bind (iter F (dd fun order_4 x_5=>if (decide (x_5 < (x_2.length:Int))) = true then ((a8 order_4 x_5).bind fun x_7=>some (.inl (order_4.set (x_5:Int).toNat x_5,IntKind.i64.wrap (x_5 + 1)))) else (some (.inr order_4))) (x_2,0)) (fun order_3=>(gx F l0 order_3).bind fun x_8=>Option.bind (iter F (sF fun active_10 out_11 x_12=>if (decide (x_12 < (x_8.length:Int))) = true then (Option.bind ((a8 x_8 x_12).bind fun x_16=>(fy F (l0,x_16) active_10).bind fun x_17=>Option.bind (iter F (dd fun out_19 x_20=>if (decide (x_20 < (x_17.length:Int))) = true then (Option.bind ((a8 x_17 x_20).bind fun x_23=>(a8 l0 x_16).bind fun x_24=>(a8 l0 x_23).bind fun x_25=>(cQ F x_24 x_25).bind fun x_26=>if x_26 = true then ((dE out_19 [(⟨min x_16 x_23,max x_16 x_23⟩:A2)]).bind fun x_27=>some x_27) else (some out_19)) (fun out_22=>some (.inl (out_22,IntKind.i64.wrap (x_20 + 1))))) else (some (.inr out_19))) (out_11,0)) (fun out_18=>(dE x_17 [x_16]).bind fun x_28=>some (x_28,out_18))) (dd fun active_14 out_15=>some (.inl (active_14,out_15,IntKind.i64.wrap (x_12 + 1))))) else (some (.inr out_11))) ([],[],0)) (fun out_9=>(eY F out_9).bind fun x_29=>some (x_29,0)))))
theorem jQ (kr0:Nat) {F:Nat} {l0:List cg} {r:(List A2) × Int} (h:fH F l0 = some r):av Tryz.prog [] 20 [] [.one (.sl 6 (l0.map ao))] (Is [(kr0,.row 40 2 (r.1.map (eu .i64)))] (.dF [.row kr0,.one (.i r.2)])):=by
 unfold fH at h
 refine av.intro 73 Tryz.func20 Tryz.ntmps20 rfl (by simp) fun E=>?_
 show ab _ E ⟨73,[],[],[]⟩ _ ⟨[(0,.b (.one (.sl 6 (l0.map ao))))],[]⟩ _
 refine ab.seq (ab.aa ?_)
 refine Oc (qY rfl) (Oc oa (Oc oa ?_))
 refine ae.ai ⟨[(1,.b (.aO [.sl 6 (l0.map ao)]))],[]⟩ rfl (ab.seq (ab.seq (ab.aa ?_)))
 refine Oc (az lA rfl rfl) ?_
 obtain ⟨x_1,e1,h⟩:=aL h
 refine Oc (ak (jw e1) goes40 rfl rfl) (ae.ai ⟨[(1,_),(13,B x_1)],[]⟩ rfl (ab.ite h rfl (fun _ h=>?_) (fun _ h=>?_)))
 ·refine ab.seq (ab.aa ?_)
  refine Oc oa (Oc oa ?_)
  refine ae.ai ⟨[(2,.b (.one (.nil))),(3,I 1)],[]⟩ rfl (ab.ret (Fin.aw ?_))
  obtain rfl:=Option.some.inj h
  refine Fin.ag ⟨[(2,_),(3,_)],[]⟩ rfl (Fin.dO 2 101 2 40 rfl (by decide) rfl (Fin.ez 101 kr0 [.row 101,.one (.i 1)] (.inl rfl) rfl (.cons (.tmp rfl) (.cons (.tmp rfl) .nil)) rfl rfl rfl rfl ⟨rfl,rfl⟩))
 ·refine ab.skip (Fin.ag ⟨[(1,_)],[]⟩ rfl (Fin.then (ab.seq (ab.aa ?_))))
  refine Oc (az lA rfl rfl) (Oc (aY und34 rfl (List.length_map _)) ?_)
  obtain ⟨x_2,e2,h⟩:=aL h
  refine Oc (rf (k:=102) (enc:=eI) bN e2 (by decide) (.cons .refl .nil) rfl rfl rfl) (Oc oa ?_)
  refine ae.ai ⟨[(1,_),(4,.b (.row 102))],[(102,.row 3 1 (x_2.map eI))]⟩ rfl ?_
  obtain ⟨v3,h4,h⟩:=aL h
  refine ab.c6 (v:=v3) (fun (order_3:List Int)=>⟨[(1,.b (.aO [.sl 6 (l0.map ao)])),(4,.b (.row 102))],[(102,.row 3 1 (order_3.map eI))]⟩) (fun z=>z) ?_ ?_
  ·refine ab.seq (ab.aa ?_)
   refine Oc om (Oc (fl fR rfl rfl (List.length_map _)) (Oc om ?_))
   refine ae.ai ⟨[(1,_),(4,_),(18,I (x_2.length:Int)),(19,I 0)],[(102,_)]⟩ rfl (ab.block (ab.cN h4 (dd fun (order_4:List Int) (x_5:Int)=>⟨[(1,.b (.aO [.sl 6 (l0.map ao)])),(4,.b (.row 102)),(18,I (x_2.length:Int)),(19,I x_5)],[(102,.row 3 1 (order_4.map eI))]⟩) [1,4,18,19] [102] rfl ?_))
   rintro ⟨order_4,x_5⟩ o5 h6 hy7
   refine ab.seq (ab.aa ?_)
   refine Oc (bb rfl rfl) (ae.ai ⟨[(1,_),(4,_),(18,_),(19,_),(20,B (decide (x_5 < (x_2.length:Int))))],[(102,_)]⟩ rfl (ab.seq (ab.ite h6 rfl (fun _ h6=>?_) (fun _ h6=>?_))))
   ·refine ab.skip (Fin.ag ⟨[(1,_),(4,_),(18,_),(19,_)],[(102,_)]⟩ rfl (Fin.then (ab.seq (ab.block (ab.seq (ab.aa ?_))))))
    refine Oc om (Oc oa ?_)
    refine ae.ai ⟨[(1,_),(4,_),(5,I x_5),(18,_),(19,_)],[(102,_)]⟩ rfl (ab.aa (Oc om (Oc om (Oc om ?_))))
    obtain ⟨x_7,e8,h6⟩:=aL h6
    refine Oc (eF bN (aX e8) (j6 e8) rfl rfl rfl rfl) (Oc (lj (i:=(x_5:Int).toNat) aM rfl rfl rfl rfl (vg e8) (map_set _ _ _ _)) ?_)
    refine ae.nil (Fin.au (Fin.ag ⟨[(1,_),(4,_),(18,_),(19,_)],[(102,.row 3 1 ((order_4.set (x_5:Int).toNat x_5).map eI))]⟩ rfl (Fin.then (ab.aa ?_))))
    refine Oc (br rfl rfl) (Oc om ?_)
    refine ae.nil ?_
    exact Fin.bO [1,4,18,19] [102] (order_4.set (x_5:Int).toNat x_5,IntKind.i64.wrap (x_5 + 1)) (Option.some.inj h6) rfl
   ·refine ab.exit (Fin.ax ?_)
    obtain rfl:=hy7 _ (Option.some.inj h6).symm
    refine Fin.ax (Fin.aQ ?_)
    exact Fin.join [1,4] [102] order_4 rfl rfl
  ·rintro order_3 hv
   subst v3
   refine ab.seq (ab.aa ?_)
   refine Oc om (Oc (iw rfl) ?_)
   refine ae.ux 102 rfl ?_
   obtain ⟨x_8,e9,h⟩:=aL h
   refine Oc (cC (own_a:=[(102,_)]) ((lx e9).sw 1 102) goes42 rfl ⟨rfl,trivial⟩ rfl rfl) (ae.uw 102 rfl (ae.ai ⟨[(1,_),(4,_)],[(102,.row 3 1 (x_8.map eI))]⟩ rfl (ab.seq (ab.aa ?_))))
   refine Oc oa (ae.ai ⟨[(1,_),(4,_),(6,.b (.one (.nil)))],[(102,_)]⟩ rfl (ab.seq (ab.aa ?_)))
   refine Oc oa (ae.ai ⟨[(1,_),(4,_),(6,_),(7,.b (.one (.nil)))],[(102,_)]⟩ rfl ?_)
   obtain ⟨v10,h11,h⟩:=aL h
   refine ab.c6 (v:=v10) (fun (out_9:List A2)=>⟨[(7,.b (.row 106))],[(106,.row 40 2 (out_9.map (eu .i64)))]⟩) (fun z=>z) ?_ ?_
   ·refine ab.seq (ab.aa ?_)
    refine Oc om (Oc (fl fR rfl rfl (List.length_map _)) (Oc om ?_))
    refine ae.ai ⟨[(1,_),(6,_),(7,_),(30,.b (.row 102)),(31,I (x_8.length:Int)),(32,I 0)],[(102,_)]⟩ rfl (ab.block (ab.dO 6 104 1 3 rfl (by decide) rfl (ab.dO 7 106 2 40 rfl (by decide) rfl (ab.cN h11 (sF fun (active_10:List Int) (out_11:List A2) (x_12:Int)=>⟨[(1,.b (.aO [.sl 6 (l0.map ao)])),(6,.b (.row 104)),(7,.b (.row 106)),(30,.b (.row 102)),(31,I (x_8.length:Int)),(32,I x_12)],[(102,.row 3 1 (x_8.map eI)),(104,.row 3 1 (active_10.map eI)),(106,.row 40 2 (out_11.map (eu .i64)))]⟩) [1,6,7,30,31,32] [102,104,106] rfl ?_))))
    rintro ⟨active_10,out_11,x_12⟩ o12 h13 hy14
    refine ab.seq (ab.aa ?_)
    refine Oc (bb rfl rfl) (ae.ai ⟨[(1,_),(6,_),(7,_),(30,_),(31,_),(32,_),(33,B (decide (x_12 < (x_8.length:Int))))],[(102,_),(104,_),(106,_)]⟩ rfl (ab.seq (ab.ite h13 rfl (fun _ h13=>?_) (fun _ h13=>?_))))
    ·refine ab.skip (Fin.ag ⟨[(1,_),(6,_),(7,_),(30,_),(31,_),(32,_)],[(102,_),(104,_),(106,_)]⟩ rfl (Fin.then ?_))
     obtain ⟨v15,h16,h13⟩:=aL h13
     refine ab.c6 (v:=v15) (dd fun (active_14:List Int) (out_15:List A2)=>⟨[(1,.b (.aO [.sl 6 (l0.map ao)])),(6,.b (.row 104)),(7,.b (.row 106)),(30,.b (.row 102)),(31,I (x_8.length:Int)),(32,I x_12)],[(102,.row 3 1 (x_8.map eI)),(104,.row 3 1 (active_14.map eI)),(106,.row 40 2 (out_15.map (eu .i64)))]⟩) (fun z=>z) ?_ ?_
     ·refine ab.block (ab.seq (ab.aa ?_))
      obtain ⟨x_16,e17,h16⟩:=aL h16
      refine Oc (eF bN (aX e17) (j6 e17) rfl rfl rfl rfl) (Oc (gE (i:=(x_12:Int).toNat) (f:=0) aM rfl rfl rfl (bn (e:=eI) e17) rfl) (Oc (aT (k:=107) tyZero3 rfl) (Oc (fe aM rfl rfl rfl (Nat.le_of_ble_eq_true rfl) rfl) ?_)))
      refine ae.gT 107 rfl (ae.ai ⟨[(1,_),(6,_),(7,_),(9,.b (.aO [.i x_16])),(30,_),(31,_),(32,_)],[(102,_),(104,_),(106,_)]⟩ rfl (ab.seq (ab.aa ?_)))
      refine Oc om (Oc (iw rfl) ?_)
      obtain ⟨x_17,e18,h16⟩:=aL h16
      refine Oc (cC (own_a:=[(104,_)]) ((kz e18).sw 1 104) goes45 rfl ⟨rfl,trivial⟩ rfl rfl) (Oc oa ?_)
      refine ae.ai ⟨[(1,_),(6,_),(7,_),(9,_),(30,_),(31,_),(32,_)],[(102,_),(104,.row 3 1 (x_17.map eI)),(106,_)]⟩ rfl ?_
      obtain ⟨v19,h20,h16⟩:=aL h16
      refine ab.c6 (v:=v19) (fun (out_18:List A2)=>⟨[(1,.b (.aO [.sl 6 (l0.map ao)])),(6,.b (.row 104)),(7,.b (.row 106)),(9,.b (.aO [.i x_16])),(30,.b (.row 102)),(31,I (x_8.length:Int)),(32,I x_12)],[(102,.row 3 1 (x_8.map eI)),(104,.row 3 1 (x_17.map eI)),(106,.row 40 2 (out_18.map (eu .i64)))]⟩) (fun z=>z) ?_ ?_
      ·refine ab.seq (ab.aa ?_)
       refine Oc om (Oc (fl fR rfl rfl (List.length_map _)) (Oc om ?_))
       refine ae.ai ⟨[(1,_),(6,_),(7,_),(9,_),(30,_),(31,_),(32,_),(39,.b (.row 104)),(40,I (x_17.length:Int)),(41,I 0)],[(102,_),(104,_),(106,_)]⟩ rfl (ab.block (ab.cN h20 (dd fun (out_19:List A2) (x_20:Int)=>⟨[(1,.b (.aO [.sl 6 (l0.map ao)])),(6,.b (.row 104)),(7,.b (.row 106)),(9,.b (.aO [.i x_16])),(30,.b (.row 102)),(31,I (x_8.length:Int)),(32,I x_12),(39,.b (.row 104)),(40,I (x_17.length:Int)),(41,I x_20)],[(102,.row 3 1 (x_8.map eI)),(104,.row 3 1 (x_17.map eI)),(106,.row 40 2 (out_19.map (eu .i64)))]⟩) [1,6,7,9,30,31,32,39,40,41] [102,104,106] rfl ?_))
       rintro ⟨out_19,x_20⟩ o21 h22 hy23
       refine ab.seq (ab.aa ?_)
       refine Oc (bb rfl rfl) (ae.ai ⟨[(1,_),(6,_),(7,_),(9,_),(30,_),(31,_),(32,_),(39,_),(40,_),(41,_),(42,B (decide (x_20 < (x_17.length:Int))))],[(102,_),(104,_),(106,_)]⟩ rfl (ab.seq (ab.ite h22 rfl (fun _ h22=>?_) (fun _ h22=>?_))))
       ·refine ab.skip (Fin.ag ⟨[(1,_),(6,_),(7,_),(9,_),(30,_),(31,_),(32,_),(39,_),(40,_),(41,_)],[(102,_),(104,_),(106,_)]⟩ rfl (Fin.then ?_))
        obtain ⟨v24,h25,h22⟩:=aL h22
        refine ab.c6 (v:=v24) (fun (out_22:List A2)=>⟨[(1,.b (.aO [.sl 6 (l0.map ao)])),(6,.b (.row 104)),(7,.b (.row 106)),(9,.b (.aO [.i x_16])),(30,.b (.row 102)),(31,I (x_8.length:Int)),(32,I x_12),(39,.b (.row 104)),(40,I (x_17.length:Int)),(41,I x_20)],[(102,.row 3 1 (x_8.map eI)),(104,.row 3 1 (x_17.map eI)),(106,.row 40 2 (out_22.map (eu .i64)))]⟩) (fun z=>z) ?_ ?_
        ·refine ab.block (ab.seq (ab.aa ?_))
         obtain ⟨x_23,e26,h25⟩:=aL h25
         refine Oc (eF bN (aX e26) (j6 e26) rfl rfl rfl rfl) (Oc (gE (i:=(x_20:Int).toNat) (f:=0) aM rfl rfl rfl (bn (e:=eI) e26) rfl) (Oc oa ?_))
         refine ae.ai ⟨[(1,_),(6,_),(7,_),(9,_),(11,I x_23),(30,_),(31,_),(32,_),(39,_),(40,_),(41,_)],[(102,_),(104,_),(106,_)]⟩ rfl (ab.seq ?_)
         obtain ⟨x_24,e27,h25⟩:=aL h25
         obtain ⟨x_25,e28,h25⟩:=aL h25
         obtain ⟨x_26,e29,h25⟩:=aL h25
         refine ab.bE mixed 9 [.b (.one (.sl 6 (l0.map ao))),I x_16,.b (.aO (ao x_24)),.b (.agg (ao x_24)),.b (.one (.sl 6 (l0.map ao))),I x_23,.b (.aO (ao x_25)),.b (.agg (ao x_25)),B x_26] [1,6,7,9,11,30,31,32,39,40,41,53] [102,104,106] (s':=⟨[(1,_),(6,_),(7,_),(9,_),(11,_),(30,_),(31,_),(32,_),(39,_),(40,_),(41,_),(53,B x_26)],[(102,_),(104,_),(106,_)]⟩) rfl ⟨fun _=>.p (az lA rfl rfl),fun _=>.p (az aM rfl rfl),fun _=>.p (aN mf (aX e27) (bn (e:=ao) e27) rfl rfl),fun _=>.p (bj aC rfl rfl rfl),fun _=>.p (az lA rfl rfl),fun _=>.p om,fun _=>.p (aN mf (aX e28) (bn (e:=ao) e28) rfl rfl),fun _=>.p (bj aC rfl rfl rfl),fun _=>.p (ak (dJ e29) nv rfl rfl),trivial⟩ rfl rfl (ab.ite h25 rfl (fun _ h25=>?_) (fun _ h25=>?_))
         ·refine ab.aa (Oc om (Oc (az aM rfl rfl) (Oc om (Oc (vq rfl rfl) (Oc (az aM rfl rfl) (Oc om ?_))))))
          refine ae.ag ⟨[(1,_),(6,_),(7,_),(9,_),(30,_),(31,_),(32,_),(39,_),(40,_),(41,_),(54,.b (.row 106)),(57,I (min x_16 x_23)),(58,I x_16),(59,I x_23)],[(102,_),(104,_),(106,_)]⟩ rfl (Oc (sP rfl rfl) (Oc (dX fk rfl rfl) (Oc (bt (k:=108) (es:=[(⟨min x_16 x_23,max x_16 x_23⟩:A2)].map (eu .i64)) hU rfl rfl (bP fun _=>rfl) rfl (by decide) (by decide) rfl) ?_)))
          obtain ⟨x_27,e30,h25⟩:=aL h25
          refine Oc (cW hU (gh e30) (gg e30) rfl rfl rfl rfl (du e30) rfl) (Oc oa ?_)
          refine ae.nil (Fin.au ?_)
          exact Fin.join [1,6,7,9,30,31,32,39,40,41] [102,104,106] x_27 (Option.some.inj h25) rfl
         ·refine ab.skip (Fin.au ?_)
          exact Fin.join [1,6,7,9,30,31,32,39,40,41] [102,104,106] out_19 (Option.some.inj h25) rfl
        ·rintro out_22 hv
         subst v24
         refine ab.aa (Oc (br rfl rfl) (Oc om ?_))
         refine ae.nil ?_
         exact Fin.bO [1,6,7,9,30,31,32,39,40,41] [102,104,106] (out_22,IntKind.i64.wrap (x_20 + 1)) (Option.some.inj h22) rfl
       ·refine ab.exit (Fin.ax ?_)
        obtain rfl:=hy23 _ (Option.some.inj h22).symm
        refine Fin.ax (Fin.aQ ?_)
        exact Fin.join [1,6,7,9,30,31,32] [102,104,106] out_19 rfl rfl
      ·rintro out_18 hv
       subst v19
       refine ab.aa (Oc om (Oc (az aM rfl rfl) (Oc (bt (k:=109) (es:=[x_16].map eI) bN rfl rfl (bP fun _=>rfl) rfl (by decide) (by decide) rfl) ?_)))
       obtain ⟨x_28,e31,h16⟩:=aL h16
       refine Oc (cW bN (gh e31) (gg e31) rfl rfl rfl rfl (du e31) rfl) (Oc oa ?_)
       refine ae.nil (Fin.au ?_)
       exact Fin.join [1,6,7,30,31,32] [102,104,106] (x_28,out_18) (Option.some.inj h16) rfl
     ·rintro ⟨active_14,out_15⟩ hv
      subst v15
      refine ab.aa (Oc (br rfl rfl) (Oc om ?_))
      refine ae.nil ?_
      exact Fin.bO [1,6,7,30,31,32] [102,104,106] (active_14,out_15,IntKind.i64.wrap (x_12 + 1)) (Option.some.inj h13) rfl
    ·refine ab.exit (Fin.ax ?_)
     obtain rfl:=hy14 _ (Option.some.inj h13).symm
     refine Fin.ax (Fin.aQ ?_)
     exact Fin.join [7] [106] out_11 rfl rfl
   ·rintro out_9 hv
    subst v10
    refine ab.seq (ab.aa ?_)
    refine Oc om (ae.ux 106 rfl ?_)
    obtain ⟨x_29,e32,h⟩:=aL h
    refine Oc (cC (own_a:=[(106,_)]) ((lz e32).sw 1 106) goes47 rfl ⟨rfl,trivial⟩ rfl rfl) (ae.uw 106 rfl (ae.ai ⟨[(7,_)],[(106,.row 40 2 (x_29.map (eu .i64)))]⟩ rfl (ab.seq (ab.aa ?_))))
    refine Oc om (Oc oa (Oc oa ?_))
    refine ae.ai ⟨[(2,.b (.row 106)),(3,I 0)],[(106,_)]⟩ rfl (ab.ret ?_)
    obtain rfl:=Option.some.inj h
    refine Fin.ag ⟨[(2,_),(3,_)],[(106,_)]⟩ rfl (Fin.ez 106 kr0 [.row 106,.one (.i 0)] (.inl rfl) rfl (.cons (.tmp rfl) (.cons (.tmp rfl) .nil)) rfl rfl rfl rfl ⟨rfl,rfl⟩)
def bg (F:Nat) (a0:List A2) (b0:List A2):Option Bool :=
 if (decide ((a0.length:Int) ≠ (b0.length:Int))) = true then (some false) else (Option.bind (iter F (fun i_1=>if (decide (i_1 < (a0.length:Int))) = true then ((a8 a0 i_1).bind fun x_2=>(a8 b0 i_1).bind fun x_3=>if (decide (x_2 ≠ x_3)) = true then (some (.inr (.inr false))) else (some (.inl (IntKind.i64.wrap (i_1 + 1))))) else (some (.inr (.inl ())))) 0) (cL (fun _=>some true) (fun y=>some y)))
theorem cF {F:Nat} {a0:List A2} {b0:List A2} {r:Bool} (h:bg F a0 b0 = some r):av Tryz.prog [] 22 [] [.one (.sl 2 (a0.map (eu .i64))),.one (.sl 2 (b0.map (eu .i64)))] (Is [] (.b (.one (.bool r)))):=by
 unfold bg at h
 refine av.intro 26 Tryz.func22 Tryz.ntmps22 rfl (by simp) fun E=>?_
 show ab _ E ⟨26,[],[],[]⟩ _ ⟨[(0,.b (.one (.sl 2 (a0.map (eu .i64))))),(1,.b (.one (.sl 2 (b0.map (eu .i64)))))],[]⟩ _
 refine ab.seq (ab.aa ?_)
 refine Oc oa (ae.ai ⟨[(0,.b (.one (.sl 2 (a0.map (eu .i64))))),(1,.b (.one (.sl 2 (b0.map (eu .i64)))))],[]⟩ rfl (ab.seq (ab.seq (ab.aa ?_))))
 refine Oc om (Oc (aY tL rfl (List.length_map _)) (Oc om (Oc (aY tL rfl (List.length_map _)) (Oc (jY rfl rfl) ?_))))
 refine ae.ai ⟨[(0,_),(1,_),(10,B (decide ((a0.length:Int) ≠ (b0.length:Int))))],[]⟩ rfl (ab.ite h rfl (fun _ h=>?_) (fun _ h=>?_))
 ·refine ab.seq (ab.aa ?_)
  refine Oc oa (ae.ai ⟨[(4,B false)],[]⟩ rfl (ab.ret (Fin.aw ?_)))
  obtain rfl:=Option.some.inj h
  refine Fin.ag ⟨[(4,_)],[]⟩ rfl (Fin.aA [.one (.bool false)] (.inl rfl) rfl (.cons (.tmp rfl) .nil) ⟨rfl,rfl⟩)
 ·refine ab.skip (Fin.ag ⟨[(0,_),(1,_)],[]⟩ rfl (Fin.then ?_))
  obtain ⟨v1,h2,h⟩:=aL h
  refine ab.c6 (v:=v1) (fun (_:Unit)=>⟨[],[]⟩) (fun z=>.inl z) ?_ ?_
  ·refine ab.seq (ab.aa ?_)
   refine Oc oa (ae.ai ⟨[(0,_),(1,_),(5,I 0)],[]⟩ rfl (ab.block (ab.cN h2 (fun (i_1:Int)=>⟨[(0,.b (.one (.sl 2 (a0.map (eu .i64))))),(1,.b (.one (.sl 2 (b0.map (eu .i64))))),(5,I i_1)],[]⟩) [0,1,5] [] rfl ?_)))
   rintro i_1 o3 h4 hy5
   refine ab.seq (ab.seq (ab.aa ?_))
   refine Oc om (Oc om (Oc (aY tL rfl (List.length_map _)) (Oc (bb rfl rfl) ?_)))
   refine ae.ai ⟨[(0,_),(1,_),(5,_),(14,B (decide (i_1 < (a0.length:Int))))],[]⟩ rfl (ab.ite h4 rfl (fun _ h4=>?_) (fun _ h4=>?_))
   ·refine ab.skip (Fin.ag ⟨[(0,_),(1,_),(5,_)],[]⟩ rfl (Fin.then (ab.seq (ab.block (ab.seq ?_)))))
    refine ab.ag ⟨[(0,_),(1,_),(5,_)],[]⟩ rfl ?_
    obtain ⟨x_2,e6,h4⟩:=aL h4
    obtain ⟨x_3,e7,h4⟩:=aL h4
    refine ab.bE mixed 9 [.b (.one (.sl 2 (a0.map (eu .i64)))),I i_1,.b (.aO ((eu .i64) x_2)),.b (.agg ((eu .i64) x_2)),.b (.one (.sl 2 (b0.map (eu .i64)))),I i_1,.b (.aO ((eu .i64) x_3)),.b (.agg ((eu .i64) x_3)),B (decide (x_2 ≠ x_3))] [0,1,5,25] [] (s':=⟨[(0,_),(1,_),(5,_),(25,B (decide (x_2 ≠ x_3)))],[]⟩) rfl ⟨fun _=>.p om,fun _=>.p om,fun _=>.p (aN hU (aX e6) (bn (e:=(eu .i64)) e6) rfl rfl),fun _=>.p (bj oC rfl rfl rfl),fun _=>.p om,fun _=>.p om,fun _=>.p (aN hU (aX e7) (bn (e:=(eu .i64)) e7) rfl rfl),fun _=>.p (bj oC rfl rfl rfl),fun _=>.p (pD (eqAgg40 x_2 x_3) rfl rfl ud),trivial⟩ rfl rfl (ab.ite h4 rfl (fun _ h4=>?_) (fun _ h4=>?_))
    ·refine ab.seq (ab.aa ?_)
     refine Oc oa (ae.ai ⟨[(4,B false)],[]⟩ rfl (ab.ret (Fin.aS (Fin.aw ?_))))
     obtain rfl:=hy5 _ (Option.some.inj h4).symm
     refine Fin.aw (Fin.aS (Fin.aw ?_))
     obtain rfl:=Option.some.inj h
     refine Fin.ag ⟨[(4,_)],[]⟩ rfl (Fin.aA [.one (.bool false)] (.inl rfl) rfl (.cons (.tmp rfl) .nil) ⟨rfl,rfl⟩)
    ·refine ab.skip (Fin.au (Fin.ag ⟨[(0,_),(1,_),(5,_)],[]⟩ rfl (Fin.then (ab.aa ?_))))
     refine Oc om (Oc (br rfl rfl) (Oc oa ?_))
     refine ae.nil ?_
     exact Fin.bO [0,1,5] [] (IntKind.i64.wrap (i_1 + 1)) (Option.some.inj h4) rfl
   ·refine ab.exit (Fin.ax ?_)
    obtain rfl:=hy5 _ (Option.some.inj h4).symm
    refine Fin.ax (Fin.aQ ?_)
    exact Fin.join [] [] () rfl rfl
  ·rintro _ hv
   subst v1
   refine ab.seq (ab.aa ?_)
   refine Oc oa (ae.ai ⟨[(4,B true)],[]⟩ rfl (ab.ret ?_))
   obtain rfl:=Option.some.inj h
   refine Fin.ag ⟨[(4,_)],[]⟩ rfl (Fin.aA [.one (.bool true)] (.inl rfl) rfl (.cons (.tmp rfl) .nil) ⟨rfl,rfl⟩)
def gY (F:Nat):Option b4 :=
 some (⟨(⟨.leaf,50,48,49⟩:jA),(⟨.leaf,51,48,49⟩:jA)⟩:b4)
theorem iS {F:Nat} {r:b4} (h:gY F = some r):av Tryz.prog [] 23 [] [] (Is [] (.b (.agg (ar r)))):=by
 unfold gY at h
 refine av.intro 14 Tryz.func23 Tryz.ntmps23 rfl (by simp) fun E=>?_
 show ab _ E ⟨14,[],[],[]⟩ _ ⟨[],[]⟩ _
 refine ab.seq (ab.aa ?_)
 refine Oc (aT (k:=101) dK rfl) (ae.ai ⟨[(0,Pt 101 0)],[(101,.box 49 [.tr af (.leaf),.de 0,.de 0,.de 0,.tr af (.leaf),.de 0,.de 0,.de 0])]⟩ rfl (ab.seq (ab.aa ?_)))
 refine Oc oa (ae.ai ⟨[(0,_),(1,.b (.one (.raw (.func (.func 48) #[] #[]))))],[(101,_)]⟩ rfl (ab.seq (ab.aa ?_)))
 refine Oc oa (ae.ai ⟨[(0,_),(1,_),(2,.b (.one (.raw (.func (.func 49) #[] #[]))))],[(101,_)]⟩ rfl (ab.seq (ab.aa ?_)))
 refine Oc oa (ae.ai ⟨[(0,_),(1,_),(2,_),(3,.b (.one (.raw (.func (.func 50) #[] #[]))))],[(101,_)]⟩ rfl (ab.seq (ab.aa ?_)))
 refine Oc oa (ae.ai ⟨[(0,_),(1,_),(2,_),(3,_),(4,.b (.one (.raw (.func (.func 51) #[] #[]))))],[(101,_)]⟩ rfl (ab.seq (ab.aa ?_)))
 refine Oc om (Oc om (Oc om (Oc (bV qk rfl rfl) (Oc om (Oc om ?_)))))
 refine Oc om (ae.ag ⟨[(0,_),(8,.b (.agg [.tr af (.leaf),.raw (.func (.func 50) #[] #[]),.raw (.func (.func 48) #[] #[]),.raw (.func (.func 49) #[] #[])])),(9,.b (.one (.raw (.func (.func 51) #[] #[])))),(10,.b (.one (.raw (.func (.func 48) #[] #[])))),(11,.b (.one (.raw (.func (.func 49) #[] #[]))))],[(101,_)]⟩ rfl (Oc (bV qk rfl rfl) (Oc (bV fU rfl rfl) (Oc (aB aH rfl rfl rfl rfl (Nat.le_of_ble_eq_true rfl) rfl) ?_))))
 refine ae.ai ⟨[(0,_)],[(101,.box 49 [.tr af (.leaf),.raw (.func (.func 50) #[] #[]),.raw (.func (.func 48) #[] #[]),.raw (.func (.func 49) #[] #[]),.tr af (.leaf),.raw (.func (.func 51) #[] #[]),.raw (.func (.func 48) #[] #[]),.raw (.func (.func 49) #[] #[])])]⟩ rfl (ab.ret ?_)
 obtain rfl:=Option.some.inj h
 refine Fin.ag ⟨[(0,_)],[(101,_)]⟩ rfl (Fin.aA [.agg [.tr af (.leaf),.raw (.func (.func 50) #[] #[]),.raw (.func (.func 48) #[] #[]),.raw (.func (.func 49) #[] #[]),.tr af (.leaf),.raw (.func (.func 51) #[] #[]),.raw (.func (.func 48) #[] #[]),.raw (.func (.func 49) #[] #[])]] (.inl rfl) rfl (.cons (.agg aH rfl rfl rfl rfl) .nil) ⟨rfl,rfl⟩)
def cE (F:Nat) (s0:b4) (id0:Int):Option (entry × Bool) :=
 Option.bind (iter F (fun n_1=>if (!n_1.dG) = true then (Option.bind (jz n_1) (fun nd_2=>if (decide (id0 = nd_2.1.x.id)) = true then (Option.bind (jz n_1) (fun nd_3=>some (.inr (.inr (nd_3.1.x,true))))) else (Option.bind (jz n_1) (fun nd_4=>if (decide (id0 < nd_4.1.x.id)) = true then (Option.bind (jz n_1) (fun nd_5=>some (.inl nd_5.2.1))) else (Option.bind (jz n_1) (fun nd_6=>some (.inl nd_6.2.2))))))) else (some (.inr (.inl ())))) s0.ids.root) (cL (fun _=>fv (⟨0,(⟨A3.zero,A3.zero⟩:cg)⟩:entry) fun x_7=>some (x_7,false)) (fun y=>some y))
theorem eG {F:Nat} {s0:b4} {id0:Int} {r:entry × Bool} (h:cE F s0 id0 = some r):av Tryz.prog [] 54 [] [.agg (ar s0),.one (.i id0)] (Is [] (.dF [.agg (ay r.1),.one (.bool r.2)])):=by
 unfold cE at h
 refine av.intro 41 Tryz.func54 Tryz.ntmps54 rfl (by simp) fun E=>?_
 show ab _ E ⟨41,[],[],[]⟩ _ ⟨[(0,.b (.agg (ar s0))),(1,I id0)],[]⟩ _
 refine ab.seq (ab.aa ?_)
 refine Oc (bq (k:=101) rfl rfl) (Oc (aT (k:=102) gq rfl) (Oc oa ?_))
 refine ae.ai ⟨[(1,I id0),(2,Pt 101 0),(4,Pt 102 0)],[(101,.box 49 (ar s0)),(102,.box 87 (.i 0 :: ((c3 .i64) A3.zero ++ ((c3 .i64) A3.zero))))]⟩ rfl ?_
 obtain ⟨v1,h2,h⟩:=aL h
 refine ab.c6 (v:=v1) (fun (_:Unit)=>⟨[(4,Pt 102 0)],[(102,.box 87 (.i 0 :: ((c3 .i64) A3.zero ++ ((c3 .i64) A3.zero))))]⟩) (fun z=>.inl z) ?_ ?_
 ·refine ab.seq (ab.aa ?_)
  refine Oc (aq jH rfl rfl) (Oc (aq fT rfl rfl) (Oc (aF bK rfl rfl rfl) (Oc oa ?_)))
  refine ae.ai ⟨[(1,_),(4,_),(6,.b (.one (.tr af s0.ids.root)))],[(102,_)]⟩ rfl (ab.block (ab.cN h2 (fun (n_1:dh bu)=>⟨[(1,I id0),(4,Pt 102 0),(6,.b (.one (.tr af n_1)))],[(102,.box 87 (.i 0 :: ((c3 .i64) A3.zero ++ ((c3 .i64) A3.zero))))]⟩) [1,4,6] [102] rfl ?_))
  rintro n_1 o3 h4 hy5
  refine ab.seq (ab.seq (ab.aa ?_))
  refine Oc om (Oc (sq me rfl) ?_)
  refine ae.ai ⟨[(1,_),(4,_),(6,_),(11,B (!n_1.dG))],[(102,_)]⟩ rfl (ab.ite h4 rfl (fun _ h4=>?_) (fun _ h4=>?_))
  ·refine ab.skip (Fin.ag ⟨[(1,_),(4,_),(6,_)],[(102,_)]⟩ rfl (Fin.then (ab.block (ab.block (ab.seq (ab.aa ?_))))))
   refine Oc om (Oc om ?_)
   obtain ⟨nd_2,e6,h4⟩:=aL h4
   refine Oc (aK e6 rfl rfl) (Oc (aD fc rfl rfl) (Oc (aD dW rfl rfl) (Oc (az aM rfl rfl) (Oc (c7 rfl rfl) (Oc oa ?_)))))
   refine ae.ai ⟨[(1,_),(4,_),(6,_),(16,B (decide (id0 = nd_2.1.x.id)))],[(102,_)]⟩ rfl (ab.ite h4 rfl (fun _ h4=>?_) (fun _ h4=>?_))
   ·refine ab.seq (ab.aa ?_)
    refine Oc om ?_
    obtain ⟨nd_3,e7,h4⟩:=aL h4
    refine Oc (aK e7 rfl rfl) (Oc (aD fc rfl rfl) (Oc (bj bF rfl rfl rfl) (Oc (aB bF rfl rfl rfl rfl (Nat.le_of_ble_eq_true rfl) rfl) (Oc oa ?_))))
    refine ae.ai ⟨[(4,_),(5,B true)],[(102,.box 87 (ay nd_3.1.x))]⟩ rfl (ab.ret (Fin.aS (Fin.aS ?_)))
    obtain rfl:=hy5 _ (Option.some.inj h4).symm
    refine Fin.aw (Fin.aS (Fin.aw ?_))
    obtain rfl:=Option.some.inj h
    refine Fin.ag ⟨[(4,_),(5,_)],[(102,_)]⟩ rfl (Fin.aA [.agg (ay nd_3.1.x),.one (.bool true)] (.inl rfl) rfl (.cons (.agg bF rfl rfl rfl rfl) (.cons (.tmp rfl) .nil)) ⟨rfl,rfl⟩)
   ·refine ab.seq (ab.aa ?_)
    refine Oc om (Oc om ?_)
    obtain ⟨nd_4,e8,h4⟩:=aL h4
    refine Oc (aK e8 rfl rfl) (Oc (aD fc rfl rfl) (Oc (aD dW rfl rfl) (Oc (az aM rfl rfl) (Oc (bb rfl rfl) (Oc oa ?_)))))
    refine ae.ai ⟨[(1,_),(4,_),(6,_),(28,B (decide (id0 < nd_4.1.x.id)))],[(102,_)]⟩ rfl (ab.ite h4 rfl (fun _ h4=>?_) (fun _ h4=>?_))
    ·refine ab.aa (Oc om ?_)
     obtain ⟨nd_5,e9,h4⟩:=aL h4
     refine Oc (aK e9 rfl rfl) (Oc (aD eD rfl rfl) (Oc (az bK rfl rfl) (Oc oa ?_)))
     refine ae.nil (Fin.au (Fin.au ?_))
     exact Fin.bO [1,4,6] [102] nd_5.2.1 (Option.some.inj h4) rfl
    ·refine ab.aa (Oc om ?_)
     obtain ⟨nd_6,e10,h4⟩:=aL h4
     refine Oc (aK e10 rfl rfl) (Oc (aD eC rfl rfl) (Oc (az bK rfl rfl) (Oc oa ?_)))
     refine ae.nil (Fin.au (Fin.au ?_))
     exact Fin.bO [1,4,6] [102] nd_6.2.2 (Option.some.inj h4) rfl
  ·refine ab.exit (Fin.ax ?_)
   obtain rfl:=hy5 _ (Option.some.inj h4).symm
   refine Fin.ax (Fin.aQ ?_)
   exact Fin.join [4] [102] () rfl rfl
 ·rintro _ hv
  subst v1
  refine ab.seq (ab.aa ?_)
  refine ae.mN ay h rfl (bV qj rfl rfl) (fun x_7 h=>?_)
  refine Oc (aB bF rfl rfl rfl rfl (Nat.le_of_ble_eq_true rfl) rfl) (Oc oa ?_)
  refine ae.ai ⟨[(4,_),(5,B false)],[(102,.box 87 (ay x_7))]⟩ rfl (ab.ret ?_)
  obtain rfl:=Option.some.inj h
  refine Fin.ag ⟨[(4,_),(5,_)],[(102,_)]⟩ rfl (Fin.aA [.agg (ay x_7),.one (.bool false)] (.inl rfl) rfl (.cons (.agg bF rfl rfl rfl rfl) (.cons (.tmp rfl) .nil)) ⟨rfl,rfl⟩)
def eT (F:Nat) (s0:List (dh bu)) (f0:Nat):Option Int :=
 Option.bind (iter F (fun x_1=>if (decide (x_1 < (s0.length:Int))) = true then ((a8 s0 x_1).bind fun x_2=>(iC F f0 x_2).bind fun x_3=>if x_3 = true then (some (.inr (.inr x_1))) else (some (.inl (IntKind.i64.wrap (x_1 + 1))))) else (some (.inr (.inl ())))) 0) (cL (fun _=>some (-1)) (fun y=>some y))
theorem jv {F:Nat} {s0:List (dh bu)} {f0:Nat} {r:Int} (h:eT F s0 f0 = some r):av Tryz.prog [] 131 [] [.one (.sl 1 (s0.map (n1 af))),.one (.raw (.func (.func f0) #[] #[]))] (Is [] (.b (.one (.i r)))):=by
 unfold eT at h
 refine av.intro 19 Tryz.func131 Tryz.ntmps131 rfl (by simp) fun E=>?_
 show ab _ E ⟨19,[],[],[]⟩ _ ⟨[(0,.b (.one (.sl 1 (s0.map (n1 af))))),(1,.b (.one (.raw (.func (.func f0) #[] #[]))))],[]⟩ _
 refine ab.seq (ab.aa ?_)
 refine Oc oa (ae.ai ⟨[(0,.b (.one (.sl 1 (s0.map (n1 af))))),(1,.b (.one (.raw (.func (.func f0) #[] #[]))))],[]⟩ rfl ?_)
 obtain ⟨v1,h2,h⟩:=aL h
 refine ab.c6 (v:=v1) (fun (_:Unit)=>⟨[],[]⟩) (fun z=>.inl z) ?_ ?_
 ·refine ab.seq (ab.aa ?_)
  refine Oc om (Oc (aY sJ rfl (List.length_map _)) (Oc om ?_))
  refine ae.ai ⟨[(0,_),(1,_),(7,I (s0.length:Int)),(8,I 0)],[]⟩ rfl (ab.block (ab.cN h2 (fun (x_1:Int)=>⟨[(0,.b (.one (.sl 1 (s0.map (n1 af))))),(1,.b (.one (.raw (.func (.func f0) #[] #[])))),(7,I (s0.length:Int)),(8,I x_1)],[]⟩) [0,1,7,8] [] rfl ?_))
  rintro x_1 o3 h4 hy5
  refine ab.seq (ab.aa ?_)
  refine Oc (bb rfl rfl) (ae.ai ⟨[(0,_),(1,_),(7,_),(8,_),(9,B (decide (x_1 < (s0.length:Int))))],[]⟩ rfl (ab.seq (ab.ite h4 rfl (fun _ h4=>?_) (fun _ h4=>?_))))
  ·refine ab.skip (Fin.ag ⟨[(0,_),(1,_),(7,_),(8,_)],[]⟩ rfl (Fin.then (ab.seq (ab.block (ab.seq (ab.aa ?_))))))
   refine Oc om (Oc oa ?_)
   refine ae.ai ⟨[(0,_),(1,_),(5,I x_1),(7,_),(8,_)],[]⟩ rfl (ab.seq (ab.aa ?_))
   refine Oc om (Oc om (Oc om ?_))
   obtain ⟨x_2,e6,h4⟩:=aL h4
   refine Oc (aN j9 (aX e6) (bn (e:=(n1 af)) e6) rfl rfl) (Oc (az bK rfl rfl) ?_)
   obtain ⟨x_3,e7,h4⟩:=aL h4
   refine Oc (jM (na e7) (nc e7) rfl rfl rfl) (ae.ai ⟨[(0,_),(1,_),(5,_),(7,_),(8,_),(16,B x_3)],[]⟩ rfl (ab.ite h4 rfl (fun _ h4=>?_) (fun _ h4=>?_)))
   ·refine ab.seq (ab.aa ?_)
    refine Oc om (Oc oa ?_)
    refine ae.ai ⟨[(4,I x_1)],[]⟩ rfl (ab.ret (Fin.aS (Fin.aw ?_)))
    obtain rfl:=hy5 _ (Option.some.inj h4).symm
    refine Fin.aw (Fin.aS (Fin.aw ?_))
    obtain rfl:=Option.some.inj h
    refine Fin.ag ⟨[(4,_)],[]⟩ rfl (Fin.aA [.one (.i x_1)] (.inl rfl) rfl (.cons (.tmp rfl) .nil) ⟨rfl,rfl⟩)
   ·refine ab.skip (Fin.au (Fin.ag ⟨[(0,_),(1,_),(7,_),(8,_)],[]⟩ rfl (Fin.then (ab.aa ?_))))
    refine Oc (br rfl rfl) (Oc om ?_)
    refine ae.nil ?_
    exact Fin.bO [0,1,7,8] [] (IntKind.i64.wrap (x_1 + 1)) (Option.some.inj h4) rfl
  ·refine ab.exit (Fin.ax ?_)
   obtain rfl:=hy5 _ (Option.some.inj h4).symm
   refine Fin.ax (Fin.aQ ?_)
   exact Fin.join [] [] () rfl rfl
 ·rintro _ hv
  subst v1
  refine ab.seq (ab.aa ?_)
  refine Oc oa (ae.ai ⟨[(4,I (-1))],[]⟩ rfl (ab.ret ?_))
  obtain rfl:=Option.some.inj h
  refine Fin.ag ⟨[(4,_)],[]⟩ rfl (Fin.aA [.one (.i (-1))] (.inl rfl) rfl (.cons (.tmp rfl) .nil) ⟨rfl,rfl⟩)
def eJ (F:Nat) (del0:Nat) (s0:List (dh bu)):Option (List (dh bu)) :=
 (eT F s0 del0).bind fun x_1=>if (decide (x_1 = (-1))) = true then (some s0) else (Option.bind (iter F (sF fun s_4 i_5 j_6=>if (decide (j_6 < (s_4.length:Int))) = true then (Option.bind ((a8 s_4 j_6).bind fun x_11=>(iC F del0 x_11).bind fun x_12=>if (!x_12) = true then ((a8 s_4 i_5).bind fun x_13=>some (s_4.set (i_5:Int).toNat x_11,IntKind.i64.wrap (i_5 + 1))) else (some (s_4,i_5))) (dd fun s_9 i_10=>some (.inl (s_9,i_10,IntKind.i64.wrap (j_6 + 1))))) else (some (.inr (s_4,i_5)))) (s0,x_1,IntKind.i64.wrap (x_1 + 1))) (dd fun s_2 i_3=>Option.bind (clr? (.leaf:dh bu) s_2 i_3) (fun z_14=>(oQ z_14 i_3).bind fun x_15=>some x_15)))
theorem iX {F:Nat} {del0:Nat} {s0:List (dh bu)} {r:(List (dh bu))} (h:eJ F del0 s0 = some r):av Tryz.prog [] 122 [(1,.row 42 1 (s0.map (n1 af)))] [.row 1,.one (.raw (.func (.func del0) #[] #[]))] (Is [(1,.row 42 1 (r.map (n1 af)))] (.b (.row 1))):=by
 unfold eJ at h
 refine av.intro 42 Tryz.func122 Tryz.ntmps122 rfl (by simp) fun E=>?_
 show ab _ E ⟨42,[],[1],[]⟩ _ ⟨[(0,.b (.row 1)),(1,.b (.one (.raw (.func (.func del0) #[] #[]))))],[(1,.row 42 1 (s0.map (n1 af)))]⟩ _
 refine ab.seq (ab.aa ?_)
 refine Oc oa (ae.ai ⟨[(0,.b (.row 1)),(1,.b (.one (.raw (.func (.func del0) #[] #[]))))],[(1,.row 42 1 (s0.map (n1 af)))]⟩ rfl (ab.seq (ab.aa ?_)))
 refine Oc om (Oc om ?_)
 obtain ⟨x_1,e1,h⟩:=aL h
 refine Oc (iL (jv e1) goes131 rfl CP.r8) (Oc oa ?_)
 refine ae.ai ⟨[(0,_),(1,_),(5,I x_1)],[(1,_)]⟩ rfl (ab.seq (ab.seq (ab.aa ?_)))
 refine Oc om (Oc (c7 rfl rfl) ?_)
 refine ae.ai ⟨[(0,_),(1,_),(5,_),(12,B (decide (x_1 = (-1))))],[(1,_)]⟩ rfl (ab.ite h rfl (fun _ h=>?_) (fun _ h=>?_))
 ·refine ab.seq (ab.aa ?_)
  refine Oc om (Oc oa ?_)
  refine ae.ai ⟨[(4,.b (.row 1))],[(1,_)]⟩ rfl (ab.ret (Fin.aw ?_))
  obtain rfl:=Option.some.inj h
  refine Fin.ag ⟨[(4,_)],[(1,_)]⟩ rfl ?_
  exact Fin.result [.row 1] (.inl rfl) rfl (.cons (.tmp rfl) .nil) ⟨rfl,rfl⟩
 ·refine ab.skip (Fin.ag ⟨[(0,_),(1,_),(5,_)],[(1,_)]⟩ rfl (Fin.then ?_))
  obtain ⟨v2,h3,h⟩:=aL h
  refine ab.c6 (v:=v2) (dd fun (s_2:List (dh bu)) (i_3:Int)=>⟨[(0,.b (.row 1)),(5,I i_3)],[(1,.row 42 1 (s_2.map (n1 af)))]⟩) (fun z=>z) ?_ ?_
  ·refine ab.seq (ab.aa ?_)
   refine Oc om (Oc (br rfl rfl) (Oc oa ?_))
   refine ae.ai ⟨[(0,_),(1,_),(5,_),(6,I (IntKind.i64.wrap (x_1 + 1)))],[(1,_)]⟩ rfl (ab.block (ab.cN h3 (sF fun (s_4:List (dh bu)) (i_5:Int) (j_6:Int)=>⟨[(0,.b (.row 1)),(1,.b (.one (.raw (.func (.func del0) #[] #[])))),(5,I i_5),(6,I j_6)],[(1,.row 42 1 (s_4.map (n1 af)))]⟩) [0,1,5,6] [1] rfl ?_))
   rintro ⟨s_4,i_5,j_6⟩ o4 h5 hy6
   refine ab.seq (ab.seq (ab.aa ?_))
   refine Oc om (Oc om (Oc (fl sJ rfl rfl (List.length_map _)) (Oc (bb rfl rfl) ?_)))
   refine ae.ai ⟨[(0,_),(1,_),(5,_),(6,_),(19,B (decide (j_6 < (s_4.length:Int))))],[(1,_)]⟩ rfl (ab.ite h5 rfl (fun _ h5=>?_) (fun _ h5=>?_))
   ·refine ab.skip (Fin.ag ⟨[(0,_),(1,_),(5,_),(6,_)],[(1,_)]⟩ rfl (Fin.then ?_))
    obtain ⟨v7,h8,h5⟩:=aL h5
    refine ab.c6 (v:=v7) (dd fun (s_9:List (dh bu)) (i_10:Int)=>⟨[(0,.b (.row 1)),(1,.b (.one (.raw (.func (.func del0) #[] #[])))),(5,I i_10),(6,I j_6)],[(1,.row 42 1 (s_9.map (n1 af)))]⟩) (fun z=>z) ?_ ?_
    ·refine ab.block (ab.seq (ab.aa ?_))
     refine Oc om (Oc om ?_)
     obtain ⟨x_11,e9,h8⟩:=aL h8
     refine Oc (eF j9 (aX e9) (j6 e9) rfl rfl rfl rfl) (Oc (gE (i:=(j_6:Int).toNat) (f:=0) bK rfl rfl rfl (bn (e:=(n1 af)) e9) rfl) (Oc oa ?_))
     refine ae.ai ⟨[(0,_),(1,_),(5,_),(6,_),(7,.b (.one (.tr af x_11)))],[(1,_)]⟩ rfl (ab.seq (ab.aa ?_))
     refine Oc om (Oc om ?_)
     obtain ⟨x_12,e10,h8⟩:=aL h8
     refine Oc (jM (na e10) (nc e10) rfl rfl rfl) (Oc (di rfl) ?_)
     refine ae.ai ⟨[(0,_),(1,_),(5,_),(6,_),(7,_),(29,B (!x_12))],[(1,_)]⟩ rfl (ab.ite h8 rfl (fun _ h8=>?_) (fun _ h8=>?_))
     ·refine ab.seq (ab.aa ?_)
      refine Oc om (Oc om (Oc om ?_))
      obtain ⟨x_13,e11,h8⟩:=aL h8
      refine Oc (eF j9 (aX e11) (j6 e11) rfl rfl rfl rfl) (Oc (lj (i:=(i_5:Int).toNat) bK rfl rfl rfl rfl (vg e11) (map_set _ _ _ _)) ?_)
      refine ae.ai ⟨[(0,_),(1,_),(5,_),(6,_)],[(1,.row 42 1 ((s_4.set (i_5:Int).toNat x_11).map (n1 af)))]⟩ rfl (ab.aa (Oc om (Oc (br rfl rfl) (Oc oa ?_))))
      refine ae.nil (Fin.au ?_)
      exact Fin.join [0,1,5,6] [1] (s_4.set (i_5:Int).toNat x_11,IntKind.i64.wrap (i_5 + 1)) (Option.some.inj h8) rfl
     ·refine ab.skip (Fin.au ?_)
      exact Fin.join [0,1,5,6] [1] (s_4,i_5) (Option.some.inj h8) rfl
    ·rintro ⟨s_9,i_10⟩ hv
     subst v7
     refine ab.aa (Oc om (Oc (br rfl rfl) (Oc oa ?_)))
     refine ae.nil ?_
     exact Fin.bO [0,1,5,6] [1] (s_9,i_10,IntKind.i64.wrap (j_6 + 1)) (Option.some.inj h5) rfl
   ·refine ab.exit (Fin.ax ?_)
    obtain rfl:=hy6 _ (Option.some.inj h5).symm
    refine Fin.ax (Fin.aQ ?_)
    exact Fin.join [0,5] [1] (s_4,i_5) rfl rfl
  ·rintro ⟨s_2,i_3⟩ hv
   subst v2
   refine ab.seq (ab.aa ?_)
   refine Oc om (Oc om ?_)
   obtain ⟨z_14,e12,h⟩:=aL h
   refine ae.clr (enc:=(n1 af)) j9 rfl e12 rfl rfl rfl (by decide) rfl (ae.ai ⟨[(0,_),(5,_)],[(1,.row 42 1 (z_14.map (n1 af)))]⟩ rfl (ab.seq (ab.aa ?_)))
   refine Oc om (Oc om ?_)
   obtain ⟨x_15,e13,h⟩:=aL h
   refine Oc (lY j9 e13 rfl rfl rfl rfl) (Oc oa ?_)
   refine ae.ai ⟨[(4,.b (.row 1))],[(1,.row 42 1 (x_15.map (n1 af)))]⟩ rfl (ab.ret ?_)
   obtain rfl:=Option.some.inj h
   refine Fin.ag ⟨[(4,_)],[(1,_)]⟩ rfl ?_
   exact Fin.result [.row 1] (.inl rfl) rfl (.cons (.tmp rfl) .nil) ⟨rfl,rfl⟩
def gL (F:Nat) (l0:List (dh bu)):Option (List (dh bu)) :=
 (eJ F 123 l0).bind fun x_1=>some x_1
theorem nV {F:Nat} {l0:List (dh bu)} {r:(List (dh bu))} (h:gL F l0 = some r):av Tryz.prog [] 100 [(1,.row 42 1 (l0.map (n1 af)))] [.row 1] (Is [(1,.row 42 1 (r.map (n1 af)))] (.b (.row 1))):=by
 unfold gL at h
 refine av.intro 5 Tryz.func100 Tryz.ntmps100 rfl (by simp) fun E=>?_
 show ab _ E ⟨5,[],[1],[]⟩ _ ⟨[(0,.b (.row 1))],[(1,.row 42 1 (l0.map (n1 af)))]⟩ _
 refine ab.seq (ab.aa ?_)
 refine Oc oa (ae.ai ⟨[(0,.b (.row 1))],[(1,.row 42 1 (l0.map (n1 af)))]⟩ rfl (ab.seq (ab.aa ?_)))
 refine Oc om ?_
 obtain ⟨x_1,e1,h⟩:=aL h
 refine Oc (cC (own_a:=[(1,_)]) (iX e1) goes122 rfl ⟨rfl,trivial⟩ rfl rfl) (Oc oa ?_)
 refine ae.ai ⟨[(2,.b (.row 1))],[(1,.row 42 1 (x_1.map (n1 af)))]⟩ rfl (ab.ret ?_)
 obtain rfl:=Option.some.inj h
 refine Fin.ag ⟨[(2,_)],[(1,_)]⟩ rfl ?_
 exact Fin.result [.row 1] (.inl rfl) rfl (.cons (.tmp rfl) .nil) ⟨rfl,rfl⟩
def bf (F:Nat) (t0:jA) (n0:dh bu) (left0:dh bu) (right0:dh bu):Option (dh bu) :=
 Option.bind (jz n0) (fun nd_1=>Option.bind (jz n0) (fun nd_2=>Option.bind (jz n0) (fun nd_3=>(je F t0.box nd_3.1.x).bind fun x_4=>Option.bind ((gL F [left0,right0]).bind fun x_6=>iter F (dd fun out_7 x_8=>if (decide (x_8 < (x_6.length:Int))) = true then ((a8 x_6 x_8).bind fun x_10=>Option.bind (jz x_10) (fun nd_11=>(iz F out_7.cover nd_11.1.cover).bind fun x_12=>some (.inl ((⟨out_7.x,out_7.priority,x_12,out_7.left,out_7.right⟩:Nod),IntKind.i64.wrap (x_8 + 1))))) else (some (.inr out_7))) ((⟨nd_1.1.x,nd_2.1.priority,x_4,left0,right0⟩:Nod),0)) (fun out_5=>some (.node (⟨out_5.x,out_5.priority,out_5.cover⟩:bu) out_5.left out_5.right)))))
theorem cc {F:Nat} {t0:jA} {n0:dh bu} {left0:dh bu} {right0:dh bu} {r:(dh bu)} (h:bf F t0 n0 left0 right0 = some r):av Tryz.prog [] 80 [] [.agg (b5 t0),.one (.tr af n0),.one (.tr af left0),.one (.tr af right0)] (Is [] (.b (.one (.tr af r)))):=by
 unfold bf at h
 refine av.intro 54 Tryz.func80 Tryz.ntmps80 rfl (by simp) fun E=>?_
 show ab _ E ⟨54,[],[],[]⟩ _ ⟨[(0,.b (.agg (b5 t0))),(1,.b (.one (.tr af n0))),(2,.b (.one (.tr af left0))),(3,.b (.one (.tr af right0)))],[]⟩ _
 refine ab.seq (ab.aa ?_)
 refine Oc (bq (k:=101) rfl rfl) (Oc oa ?_)
 refine ae.ai ⟨[(1,.b (.one (.tr af n0))),(2,.b (.one (.tr af left0))),(3,.b (.one (.tr af right0))),(4,Pt 101 0)],[(101,.box 47 (b5 t0))]⟩ rfl (ab.seq ?_)
 obtain ⟨nd_1,e1,h⟩:=aL h
 obtain ⟨nd_2,e2,h⟩:=aL h
 obtain ⟨nd_3,e3,h⟩:=aL h
 obtain ⟨x_4,e4,h⟩:=aL h
 refine ab.bE mixed 18 [.b (.one (.tr af n0)),.b (.aO (ay nd_1.1.x ++ (.int .u64 nd_1.1.priority :: (ao nd_1.1.cover ++ ([.tr af nd_1.2.1,.tr af nd_1.2.2]))))),.b (.aO (ay nd_1.1.x ++ (.int .u64 nd_1.1.priority :: (ao nd_1.1.cover ++ ([.tr af nd_1.2.1,.tr af nd_1.2.2]))))),.b (.agg (ay nd_1.1.x)),.b (.one (.tr af n0)),.b (.aO (ay nd_2.1.x ++ (.int .u64 nd_2.1.priority :: (ao nd_2.1.cover ++ ([.tr af nd_2.2.1,.tr af nd_2.2.2]))))),.b (.aO (.int .u64 nd_2.1.priority :: (ao nd_2.1.cover ++ ([.tr af nd_2.2.1,.tr af nd_2.2.2])))),.b (.one (.int .u64 nd_2.1.priority)),Pt 101 3,.b (.one (.de t0.box)),.b (.one (.tr af n0)),.b (.aO (ay nd_3.1.x ++ (.int .u64 nd_3.1.priority :: (ao nd_3.1.cover ++ ([.tr af nd_3.2.1,.tr af nd_3.2.2]))))),.b (.aO (ay nd_3.1.x ++ (.int .u64 nd_3.1.priority :: (ao nd_3.1.cover ++ ([.tr af nd_3.2.1,.tr af nd_3.2.2]))))),.b (.agg (ay nd_3.1.x)),.b (.agg (ao x_4)),.b (.one (.tr af left0)),.b (.one (.tr af right0)),.b (.agg (ay nd_1.1.x ++ (.int .u64 nd_2.1.priority :: (ao x_4 ++ ([.tr af left0,.tr af right0])))))] [2,3,9] [102] (s':=⟨[(2,_),(3,_),(9,Pt 102 0)],[(102,.box 117 (ay nd_1.1.x ++ (.int .u64 nd_2.1.priority :: (ao x_4 ++ ([.tr af left0,.tr af right0])))))]⟩) rfl ⟨fun _=>.p om,fun _=>.p (aK e1 rfl rfl),fun _=>by exact .p (aD fc rfl rfl),fun _=>.p (bj bF rfl rfl rfl),fun _=>.p om,fun _=>.p (aK e2 rfl rfl),fun _=>by exact .p (aD mr rfl rfl),fun _=>.p (az qT rfl rfl),fun _=>.p (aq uE rfl rfl),fun _=>.p (aF tyOne45 rfl rfl rfl),fun _=>.p om,fun _=>.p (aK e3 rfl rfl),fun _=>by exact .p (aD fc rfl rfl),fun _=>.p (bj bF rfl rfl rfl),fun _=>.p (lG (tH e4) (tJ e4) (wJ e4) rfl rfl rfl),fun _=>.p om,fun _=>.p om,fun _=>.p (bV pz rfl rfl),trivial⟩ ⟨_,by exact .p (bq (k:=102) rfl rfl),⟨_,by exact .p oa,rfl⟩⟩ rfl ?_
 obtain ⟨v5,h6,h⟩:=aL h
 refine ab.c6 (v:=v5) (fun (out_5:Nod)=>⟨[(9,Pt 102 0)],[(102,.box 117 (eNod out_5))]⟩) (fun z=>z) ?_ ?_
 ·refine ab.seq (ab.aa ?_)
  refine Oc om (Oc om (Oc (bt (k:=103) (es:=[left0,right0].map (n1 af)) j9 rfl rfl (bP fun _=>rfl) rfl (by decide) (by decide) rfl) ?_))
  obtain ⟨x_6,e7,h6⟩:=aL h6
  refine Oc (cC (own_a:=[(103,_)]) ((nV e7).sw 1 103) goes100 rfl ⟨rfl,trivial⟩ rfl rfl) (Oc (fl sJ rfl rfl (List.length_map _)) (Oc om ?_))
  refine ae.ai ⟨[(9,_),(34,.b (.row 103)),(35,I (x_6.length:Int)),(36,I 0)],[(102,_),(103,.row 42 1 (x_6.map (n1 af)))]⟩ rfl (ab.block (ab.cN h6 (dd fun (out_7:Nod) (x_8:Int)=>⟨[(9,Pt 102 0),(34,.b (.row 103)),(35,I (x_6.length:Int)),(36,I x_8)],[(102,.box 117 (eNod out_7)),(103,.row 42 1 (x_6.map (n1 af)))]⟩) [9,34,35,36] [102,103] rfl ?_))
  rintro ⟨out_7,x_8⟩ o8 h9 hy10
  refine ab.seq (ab.aa ?_)
  refine Oc (bb rfl rfl) (ae.ai ⟨[(9,_),(34,_),(35,_),(36,_),(37,B (decide (x_8 < (x_6.length:Int))))],[(102,_),(103,_)]⟩ rfl (ab.seq (ab.ite h9 rfl (fun _ h9=>?_) (fun _ h9=>?_))))
  ·refine ab.skip (Fin.ag ⟨[(9,_),(34,_),(35,_),(36,_)],[(102,_),(103,_)]⟩ rfl (Fin.then (ab.seq (ab.block (ab.seq (ab.aa ?_))))))
   obtain ⟨x_10,e11,h9⟩:=aL h9
   refine Oc (eF j9 (aX e11) (j6 e11) rfl rfl rfl rfl) (Oc (gE (i:=(x_8:Int).toNat) (f:=0) bK rfl rfl rfl (bn (e:=(n1 af)) e11) rfl) (Oc oa ?_))
   refine ae.ai ⟨[(9,_),(11,.b (.one (.tr af x_10))),(34,_),(35,_),(36,_)],[(102,_),(103,_)]⟩ rfl ?_
   obtain ⟨nd_11,e12,h9⟩:=aL h9
   obtain ⟨x_12,e13,h9⟩:=aL h9
   refine ab.jD mixed 12 [Pt 102 0,Pt 102 0,Pt 102 0,Pt 102 8,.b (.agg (ao out_7.cover)),.b (.one (.tr af x_10)),.b (.aO (ay nd_11.1.x ++ (.int .u64 nd_11.1.priority :: (ao nd_11.1.cover ++ ([.tr af nd_11.2.1,.tr af nd_11.2.2]))))),.b (.aO (ao nd_11.1.cover ++ ([.tr af nd_11.2.1,.tr af nd_11.2.2]))),.b (.agg (ao nd_11.1.cover)),.b (.agg (ao x_12)),Pt 102 0,Pt 102 8] [9,34,35,36] [102,103] (s':=⟨[(9,_),(34,_),(35,_),(36,_)],[(102,.box 117 (ay out_7.x ++ (.int .u64 out_7.priority :: (ao x_12 ++ ([.tr af out_7.left,.tr af out_7.right]))))),(103,_)]⟩) rfl ⟨fun _=>.p om,fun _=>.p om,fun _=>.p (lZ rfl),fun _=>.p (aq kj rfl rfl),fun _=>.p (lp aC),fun _=>.p om,fun _=>.p (aK e12 rfl rfl),fun _=>by exact .p (aD kj rfl rfl),fun _=>.p (bj aC rfl rfl rfl),fun _=>.p (ak (kI e13) vH rfl rfl),fun _=>.p (lZ rfl),fun _=>.p (aq kj rfl rfl),trivial⟩ ⟨_,by exact .p (aB aC rfl rfl rfl rfl (Nat.le_of_ble_eq_true rfl) rfl),rfl⟩ rfl (Fin.au (Fin.ag ⟨[(9,_),(34,_),(35,_),(36,_)],[(102,_),(103,_)]⟩ rfl (Fin.then (ab.aa ?_))))
   refine Oc (br rfl rfl) (Oc om ?_)
   refine ae.nil ?_
   exact Fin.bO [9,34,35,36] [102,103] ((⟨out_7.x,out_7.priority,x_12,out_7.left,out_7.right⟩:Nod),IntKind.i64.wrap (x_8 + 1)) (Option.some.inj h9) rfl
  ·refine ab.exit (Fin.ax ?_)
   obtain rfl:=hy10 _ (Option.some.inj h9).symm
   refine Fin.ax (Fin.aQ ?_)
   exact Fin.join [9] [102] out_7 rfl rfl
 ·rintro out_5 hv
  subst v5
  refine ab.seq (ab.aa ?_)
  refine Oc om (Oc oa ?_)
  refine ae.ai ⟨[(8,Pt 102 0)],[(102,_)]⟩ rfl (ab.ret ?_)
  obtain rfl:=Option.some.inj h
  refine Fin.ag ⟨[(8,_)],[(102,_)]⟩ rfl (Fin.gT 102 rfl (Fin.toTr (enc:=af) 8 (⟨out_5.x,out_5.priority,out_5.cover⟩:bu) out_5.left out_5.right rfl rfl (Fin.aA [.one (.tr af (.node (⟨out_5.x,out_5.priority,out_5.cover⟩:bu) out_5.left out_5.right))] (.inl rfl) rfl (.cons (.tmp rfl) .nil) ⟨rfl,rfl⟩)))
def b7 (F:Nat):Nat → jA → (dh bu) → entry → Option ((dh bu) × (dh bu))
 | 0,_,_,_=>none
 | n + 1,t0,n0,x0=>if n0.dG = true then (some (.leaf,.leaf)) else (Option.bind (jz n0) (fun nd_1=>(gn F t0.compare nd_1.1.x x0).bind fun x_2=>if (decide (x_2 < 0)) = true then (Option.bind (jz n0) (fun nd_3=>Option.bind (b7 F n t0 nd_3.2.2 x0) (dd fun x_4 x_5=>Option.bind (jz n0) (fun nd_6=>(bf F t0 n0 nd_6.2.1 x_4).bind fun x_7=>some (x_7,x_5))))) else (Option.bind (jz n0) (fun nd_8=>Option.bind (b7 F n t0 nd_8.2.1 x0) (dd fun x_9 x_10=>Option.bind (jz n0) (fun nd_11=>(bf F t0 n0 x_10 nd_11.2.2).bind fun x_12=>some (x_9,x_12)))))))
def fP (F:Nat) (t0:jA) (n0:dh bu) (x0:entry):Option ((dh bu) × (dh bu)):=b7 F F t0 n0 x0
theorem kD {F:Nat}:∀ (n:Nat) {t0:jA} {n0:dh bu} {x0:entry} {r:(dh bu) × (dh bu)} (h:b7 F n t0 n0 x0 = some r),av Tryz.prog [] 79 [] [.agg (b5 t0),.one (.tr af n0),.agg (ay x0)] (Is [] (.dF [.one (.tr af r.1),.one (.tr af r.2)])):=by
 intro n
 induction n with
 | zero=>intro t0 n0 x0 r h; simp [b7] at h
 | succ n ih=>
 intro t0 n0 x0 r h
 unfold b7 at h
 refine av.intro 61 Tryz.func79 Tryz.ntmps79 rfl (by simp) fun E=>?_
 show ab _ E ⟨61,[],[],[]⟩ _ ⟨[(0,.b (.agg (b5 t0))),(1,.b (.one (.tr af n0))),(2,.b (.agg (ay x0)))],[]⟩ _
 refine ab.seq (ab.aa ?_)
 refine Oc (bq (k:=101) rfl rfl) (Oc (bq (k:=102) rfl rfl) (Oc oa (Oc oa ?_)))
 refine ae.ai ⟨[(1,.b (.one (.tr af n0))),(3,Pt 101 0),(5,Pt 102 0)],[(101,.box 47 (b5 t0)),(102,.box 87 (ay x0))]⟩ rfl (ab.seq (ab.seq (ab.aa ?_)))
 refine Oc om (Oc (fW me rfl) ?_)
 refine ae.ai ⟨[(1,_),(3,_),(5,_),(13,B n0.dG)],[(101,_),(102,_)]⟩ rfl (ab.ite h rfl (fun _ h=>?_) (fun _ h=>?_))
 ·refine ab.seq (ab.aa ?_)
  refine Oc oa (Oc oa ?_)
  refine ae.ai ⟨[(6,.b (.one (.tr af (.leaf)))),(7,.b (.one (.tr af (.leaf))))],[]⟩ rfl (ab.ret (Fin.aw ?_))
  obtain rfl:=Option.some.inj h
  refine Fin.ag ⟨[(6,_),(7,_)],[]⟩ rfl (Fin.aA [.one (.tr af (.leaf)),.one (.tr af (.leaf))] (.inl rfl) rfl (.cons (.tmp rfl) (.cons (.tmp rfl) .nil)) ⟨rfl,rfl⟩)
 ·refine ab.skip (Fin.ag ⟨[(1,_),(3,_),(5,_)],[(101,_),(102,_)]⟩ rfl (Fin.then (ab.seq (ab.seq ?_))))
  refine ab.ag ⟨[(1,_),(3,_),(5,_)],[(101,_),(102,_)]⟩ rfl ?_
  obtain ⟨nd_1,e1,h⟩:=aL h
  obtain ⟨x_2,e2,h⟩:=aL h
  refine ab.bE mixed 9 [Pt 101 1,.b (.one (.de t0.compare)),.b (.one (.tr af n0)),.b (.aO (ay nd_1.1.x ++ (.int .u64 nd_1.1.priority :: (ao nd_1.1.cover ++ ([.tr af nd_1.2.1,.tr af nd_1.2.2]))))),.b (.aO (ay nd_1.1.x ++ (.int .u64 nd_1.1.priority :: (ao nd_1.1.cover ++ ([.tr af nd_1.2.1,.tr af nd_1.2.2]))))),.b (.agg (ay nd_1.1.x)),.b (.agg (ay x0)),I x_2,B (decide (x_2 < 0))] [1,3,5,22] [101,102] (s':=⟨[(1,_),(3,_),(5,_),(22,B (decide (x_2 < 0)))],[(101,_),(102,_)]⟩) rfl ⟨fun _=>.p (aq qi rfl rfl),fun _=>.p (aF tX rfl rfl rfl),fun _=>.p om,fun _=>.p (aK e1 rfl rfl),fun _=>by exact .p (aD fc rfl rfl),fun _=>.p (bj bF rfl rfl rfl),fun _=>.p (lp bF),fun _=>.p (lG (pN e2) (pO e2) (sf e2) rfl rfl rfl),fun _=>.p (bb rfl rfl),trivial⟩ rfl rfl (ab.ite h rfl (fun _ h=>?_) (fun _ h=>?_))
  ·refine ab.seq (ab.ag ⟨[(1,_),(3,_),(5,_)],[(101,_),(102,_)]⟩ rfl ?_)
   obtain ⟨nd_3,e3,h⟩:=aL h
   obtain ⟨⟨x_4,x_5⟩,e4,h⟩:=aL h
   refine ab.bE mixed 12 [.b (.agg (b5 t0)),.b (.one (.tr af n0)),.b (.aO (ay nd_3.1.x ++ (.int .u64 nd_3.1.priority :: (ao nd_3.1.cover ++ ([.tr af nd_3.2.1,.tr af nd_3.2.2]))))),.b (.aO [.tr af nd_3.2.2]),.b (.one (.tr af nd_3.2.2)),.b (.agg (ay x0)),.dF [.one (.tr af x_4),.one (.tr af x_5)],.dF [.one (.tr af x_4),.one (.tr af x_5)],.b (.one (.tr af x_4)),.b (.one (.tr af x_5)),.b (.one (.tr af x_4)),.b (.one (.tr af x_5))] [1,3,8,9] [101] (s':=⟨[(1,_),(3,_),(8,.b (.one (.tr af x_4))),(9,.b (.one (.tr af x_5)))],[(101,_)]⟩) rfl ⟨fun _=>.p (lp bU),fun _=>.p om,fun _=>.p (aK e3 rfl rfl),fun _=>by exact .p (aD eC rfl rfl),fun _=>.p (az bK rfl rfl),fun _=>.p (lp bF),fun _=>.p (ak (ih e4) sW rfl rfl),fun _=>.p om,fun _=>.p (an rfl rfl),fun _=>.p (an rfl rfl),fun _=>.p oa,fun _=>.p oa,trivial⟩ rfl rfl (ab.seq (ab.ag ⟨[(1,_),(3,_),(8,_),(9,_)],[(101,_)]⟩ rfl ?_))
   obtain ⟨nd_6,e5,h⟩:=aL h
   obtain ⟨x_7,e6,h⟩:=aL h
   refine ab.bE mixed 11 [.b (.agg (b5 t0)),.b (.one (.tr af n0)),.b (.one (.tr af n0)),.b (.aO (ay nd_6.1.x ++ (.int .u64 nd_6.1.priority :: (ao nd_6.1.cover ++ ([.tr af nd_6.2.1,.tr af nd_6.2.2]))))),.b (.aO [.tr af nd_6.2.1,.tr af nd_6.2.2]),.b (.one (.tr af nd_6.2.1)),.b (.one (.tr af x_4)),.b (.one (.tr af x_7)),.b (.one (.tr af x_5)),.b (.one (.tr af x_7)),.b (.one (.tr af x_5))] [6,7] [] (s':=⟨[(6,.b (.one (.tr af x_7))),(7,.b (.one (.tr af x_5)))],[]⟩) rfl ⟨fun _=>.p (lp bU),fun _=>.p om,fun _=>.p om,fun _=>.p (aK e5 rfl rfl),fun _=>by exact .p (aD eD rfl rfl),fun _=>.p (az bK rfl rfl),fun _=>.p om,fun _=>.p (ak (cc e6) mj rfl rfl),fun _=>.p om,fun _=>.p oa,fun _=>.p oa,trivial⟩ rfl rfl (ab.ret (Fin.aw ?_))
   obtain rfl:=Option.some.inj h
   refine Fin.ag ⟨[(6,_),(7,_)],[]⟩ rfl (Fin.aA [.one (.tr af x_7),.one (.tr af x_5)] (.inl rfl) rfl (.cons (.tmp rfl) (.cons (.tmp rfl) .nil)) ⟨rfl,rfl⟩)
  ·refine ab.skip (Fin.ag ⟨[(1,_),(3,_),(5,_)],[(101,_),(102,_)]⟩ rfl (Fin.then (ab.seq ?_)))
   refine ab.ag ⟨[(1,_),(3,_),(5,_)],[(101,_),(102,_)]⟩ rfl ?_
   obtain ⟨nd_8,e7,h⟩:=aL h
   obtain ⟨⟨x_9,x_10⟩,e8,h⟩:=aL h
   refine ab.bE mixed 12 [.b (.agg (b5 t0)),.b (.one (.tr af n0)),.b (.aO (ay nd_8.1.x ++ (.int .u64 nd_8.1.priority :: (ao nd_8.1.cover ++ ([.tr af nd_8.2.1,.tr af nd_8.2.2]))))),.b (.aO [.tr af nd_8.2.1,.tr af nd_8.2.2]),.b (.one (.tr af nd_8.2.1)),.b (.agg (ay x0)),.dF [.one (.tr af x_9),.one (.tr af x_10)],.dF [.one (.tr af x_9),.one (.tr af x_10)],.b (.one (.tr af x_9)),.b (.one (.tr af x_10)),.b (.one (.tr af x_9)),.b (.one (.tr af x_10))] [1,3,10,11] [101] (s':=⟨[(1,_),(3,_),(10,.b (.one (.tr af x_9))),(11,.b (.one (.tr af x_10)))],[(101,_)]⟩) rfl ⟨fun _=>.p (lp bU),fun _=>.p om,fun _=>.p (aK e7 rfl rfl),fun _=>by exact .p (aD eD rfl rfl),fun _=>.p (az bK rfl rfl),fun _=>.p (lp bF),fun _=>.p (ak (ih e8) sW rfl rfl),fun _=>.p om,fun _=>.p (an rfl rfl),fun _=>.p (an rfl rfl),fun _=>.p oa,fun _=>.p oa,trivial⟩ rfl rfl (ab.seq (ab.ag ⟨[(1,_),(3,_),(10,_),(11,_)],[(101,_)]⟩ rfl ?_))
   obtain ⟨nd_11,e9,h⟩:=aL h
   obtain ⟨x_12,e10,h⟩:=aL h
   refine ab.bE mixed 11 [.b (.one (.tr af x_9)),.b (.agg (b5 t0)),.b (.one (.tr af n0)),.b (.one (.tr af x_10)),.b (.one (.tr af n0)),.b (.aO (ay nd_11.1.x ++ (.int .u64 nd_11.1.priority :: (ao nd_11.1.cover ++ ([.tr af nd_11.2.1,.tr af nd_11.2.2]))))),.b (.aO [.tr af nd_11.2.2]),.b (.one (.tr af nd_11.2.2)),.b (.one (.tr af x_12)),.b (.one (.tr af x_9)),.b (.one (.tr af x_12))] [6,7] [] (s':=⟨[(6,.b (.one (.tr af x_9))),(7,.b (.one (.tr af x_12)))],[]⟩) rfl ⟨fun _=>.p om,fun _=>.p (lp bU),fun _=>.p om,fun _=>.p om,fun _=>.p om,fun _=>.p (aK e9 rfl rfl),fun _=>by exact .p (aD eC rfl rfl),fun _=>.p (az bK rfl rfl),fun _=>.p (ak (cc e10) mj rfl rfl),fun _=>.p oa,fun _=>.p oa,trivial⟩ rfl rfl (ab.ret ?_)
   obtain rfl:=Option.some.inj h
   refine Fin.ag ⟨[(6,_),(7,_)],[]⟩ rfl (Fin.aA [.one (.tr af x_9),.one (.tr af x_12)] (.inl rfl) rfl (.cons (.tmp rfl) (.cons (.tmp rfl) .nil)) ⟨rfl,rfl⟩)
theorem kO {F:Nat} {t0:jA} {n0:dh bu} {x0:entry} {r:(dh bu) × (dh bu)} (h:fP F t0 n0 x0 = some r):av Tryz.prog [] 79 [] [.agg (b5 t0),.one (.tr af n0),.agg (ay x0)] (Is [] (.dF [.one (.tr af r.1),.one (.tr af r.2)])):=kD F h
def fX (F:Nat) (x0:Int):Option Int :=
 fv (IntKind.u64.wrap ((pY .u64 x0 (x0 / 1073741824)) * 13787848793156543929)) fun x_1=>fv (IntKind.u64.wrap ((pY .u64 x_1 (x_1 / 134217728)) * 10723151780598845931)) fun x_2=>some (pY .u64 x_2 (x_2 / 2147483648))
theorem pT {F:Nat} {x0:Int} {r:Int} (h:fX F x0 = some r):av Tryz.prog [] 81 [] [.one (.int .u64 x0)] (Is [] (.b (.one (.int .u64 r)))):=by
 unfold fX at h
 refine av.intro 19 Tryz.func81 Tryz.ntmps81 rfl (by simp) fun E=>?_
 show ab _ E ⟨19,[],[],[]⟩ _ ⟨[(0,.b (.one (.int .u64 x0)))],[]⟩ _
 refine ab.seq (ab.aa ?_)
 refine Oc oa (ae.ai ⟨[(0,.b (.one (.int .u64 x0)))],[]⟩ rfl (ab.seq (ab.aa ?_)))
 refine Oc om (Oc om (Oc (ka (m:=30) (by decide) rfl rfl rfl) (Oc (sO rfl rfl) (Oc oa ?_))))
 refine ae.ai ⟨[(0,.b (.one (.int .u64 (pY .u64 x0 (x0 / 1073741824)))))],[]⟩ rfl (ab.seq (ab.aa ?_))
 refine Oc om (ae.rC .u64 h rfl (vp rfl rfl) (fun x_1 h=>?_))
 refine Oc oa (ae.ai ⟨[(0,.b (.one (.int .u64 x_1)))],[]⟩ rfl (ab.seq (ab.aa ?_)))
 refine Oc om (Oc om (Oc (ka (m:=27) (by decide) rfl rfl rfl) (Oc (sO rfl rfl) (Oc oa ?_))))
 refine ae.ai ⟨[(0,.b (.one (.int .u64 (pY .u64 x_1 (x_1 / 134217728)))))],[]⟩ rfl (ab.seq (ab.aa ?_))
 refine Oc om (ae.rC .u64 h rfl (vp rfl rfl) (fun x_2 h=>?_))
 refine Oc oa (ae.ai ⟨[(0,.b (.one (.int .u64 x_2)))],[]⟩ rfl (ab.seq (ab.aa ?_)))
 refine Oc om (Oc om (Oc (ka (m:=31) (by decide) rfl rfl rfl) (Oc (sO rfl rfl) (Oc oa ?_))))
 refine ae.ai ⟨[(2,.b (.one (.int .u64 (pY .u64 x_2 (x_2 / 2147483648)))))],[]⟩ rfl (ab.ret ?_)
 obtain rfl:=Option.some.inj h
 refine Fin.ag ⟨[(2,_)],[]⟩ rfl (Fin.aA [.one (.int .u64 (pY .u64 x_2 (x_2 / 2147483648)))] (.inl rfl) rfl (.cons (.tmp rfl) .nil) ⟨rfl,rfl⟩)
def cy (F:Nat):Nat → jA → (dh bu) → (dh bu) → Option (dh bu)
 | 0,_,_,_=>none
 | n + 1,t0,a0,b0=>if a0.dG = true then (some b0) else (if b0.dG = true then (some a0) else (Option.bind (jz a0) (fun nd_1=>Option.bind (jz b0) (fun nd_2=>if (decide (nd_2.1.priority < nd_1.1.priority)) = true then (Option.bind (jz a0) (fun nd_3=>Option.bind (jz a0) (fun nd_4=>(cy F n t0 nd_4.2.2 b0).bind fun x_5=>(bf F t0 a0 nd_3.2.1 x_5).bind fun x_6=>some x_6))) else (Option.bind (jz b0) (fun nd_7=>(cy F n t0 a0 nd_7.2.1).bind fun x_8=>Option.bind (jz b0) (fun nd_9=>(bf F t0 b0 x_8 nd_9.2.2).bind fun x_10=>some x_10)))))))
def cS (F:Nat) (t0:jA) (a0:dh bu) (b0:dh bu):Option (dh bu):=cy F F t0 a0 b0
theorem kP {F:Nat}:∀ (n:Nat) {t0:jA} {a0:dh bu} {b0:dh bu} {r:(dh bu)} (h:cy F n t0 a0 b0 = some r),av Tryz.prog [] 82 [] [.agg (b5 t0),.one (.tr af a0),.one (.tr af b0)] (Is [] (.b (.one (.tr af r)))):=by
 intro n
 induction n with
 | zero=>intro t0 a0 b0 r h; simp [cy] at h
 | succ n ih=>
 intro t0 a0 b0 r h
 unfold cy at h
 refine av.intro 53 Tryz.func82 Tryz.ntmps82 rfl (by simp) fun E=>?_
 show ab _ E ⟨53,[],[],[]⟩ _ ⟨[(0,.b (.agg (b5 t0))),(1,.b (.one (.tr af a0))),(2,.b (.one (.tr af b0)))],[]⟩ _
 refine ab.seq (ab.aa ?_)
 refine Oc (bq (k:=101) rfl rfl) (Oc oa ?_)
 refine ae.ai ⟨[(1,.b (.one (.tr af a0))),(2,.b (.one (.tr af b0))),(3,Pt 101 0)],[(101,.box 47 (b5 t0))]⟩ rfl (ab.seq (ab.block (ab.seq (ab.aa ?_))))
 refine Oc om (Oc (fW me rfl) (Oc oa ?_))
 refine ae.ai ⟨[(1,_),(2,_),(3,_),(7,B a0.dG)],[(101,_)]⟩ rfl (ab.ite h rfl (fun _ h=>?_) (fun _ h=>?_))
 ·refine ab.seq (ab.aa ?_)
  refine Oc om (Oc oa ?_)
  refine ae.ai ⟨[(6,.b (.one (.tr af b0)))],[]⟩ rfl (ab.ret (Fin.aS (Fin.aw ?_)))
  obtain rfl:=Option.some.inj h
  refine Fin.ag ⟨[(6,_)],[]⟩ rfl (Fin.aA [.one (.tr af b0)] (.inl rfl) rfl (.cons (.tmp rfl) .nil) ⟨rfl,rfl⟩)
 ·refine ab.seq (ab.aa ?_)
  refine Oc om (Oc (fW me rfl) (Oc oa ?_))
  refine ae.ai ⟨[(1,_),(2,_),(3,_),(11,B b0.dG)],[(101,_)]⟩ rfl (ab.ite h rfl (fun _ h=>?_) (fun _ h=>?_))
  ·refine ab.seq (ab.aa ?_)
   refine Oc om (Oc oa ?_)
   refine ae.ai ⟨[(6,.b (.one (.tr af a0)))],[]⟩ rfl (ab.ret (Fin.aS (Fin.aw ?_)))
   obtain rfl:=Option.some.inj h
   refine Fin.ag ⟨[(6,_)],[]⟩ rfl (Fin.aA [.one (.tr af a0)] (.inl rfl) rfl (.cons (.tmp rfl) .nil) ⟨rfl,rfl⟩)
  ·refine ab.seq (ab.ag ⟨[(1,_),(2,_),(3,_)],[(101,_)]⟩ rfl ?_)
   obtain ⟨nd_1,e1,h⟩:=aL h
   obtain ⟨nd_2,e2,h⟩:=aL h
   refine ab.bE mixed 10 [.b (.one (.tr af a0)),.b (.aO (ay nd_1.1.x ++ (.int .u64 nd_1.1.priority :: (ao nd_1.1.cover ++ ([.tr af nd_1.2.1,.tr af nd_1.2.2]))))),.b (.aO (.int .u64 nd_1.1.priority :: (ao nd_1.1.cover ++ ([.tr af nd_1.2.1,.tr af nd_1.2.2])))),.b (.one (.int .u64 nd_1.1.priority)),.b (.one (.tr af b0)),.b (.aO (ay nd_2.1.x ++ (.int .u64 nd_2.1.priority :: (ao nd_2.1.cover ++ ([.tr af nd_2.2.1,.tr af nd_2.2.2]))))),.b (.aO (.int .u64 nd_2.1.priority :: (ao nd_2.1.cover ++ ([.tr af nd_2.2.1,.tr af nd_2.2.2])))),.b (.one (.int .u64 nd_2.1.priority)),B (decide (nd_2.1.priority < nd_1.1.priority)),B (decide (nd_2.1.priority < nd_1.1.priority))] [1,2,3,15] [101] (s':=⟨[(1,_),(2,_),(3,_),(15,B (decide (nd_2.1.priority < nd_1.1.priority)))],[(101,_)]⟩) rfl ⟨fun _=>.p om,fun _=>.p (aK e1 rfl rfl),fun _=>by exact .p (aD mr rfl rfl),fun _=>.p (az qT rfl rfl),fun _=>.p om,fun _=>.p (aK e2 rfl rfl),fun _=>by exact .p (aD mr rfl rfl),fun _=>.p (az qT rfl rfl),fun _=>.p (gA rfl rfl),fun _=>.p oa,trivial⟩ rfl rfl (ab.ite h rfl (fun _ h=>?_) (fun _ h=>?_))
   ·refine ab.seq (ab.ag ⟨[(1,_),(2,_),(3,_)],[(101,_)]⟩ rfl ?_)
    obtain ⟨nd_3,e3,h⟩:=aL h
    obtain ⟨nd_4,e4,h⟩:=aL h
    obtain ⟨x_5,e5,h⟩:=aL h
    obtain ⟨x_6,e6,h⟩:=aL h
    refine ab.bE mixed 15 [.b (.agg (b5 t0)),.b (.one (.tr af a0)),.b (.one (.tr af a0)),.b (.aO (ay nd_3.1.x ++ (.int .u64 nd_3.1.priority :: (ao nd_3.1.cover ++ ([.tr af nd_3.2.1,.tr af nd_3.2.2]))))),.b (.aO [.tr af nd_3.2.1,.tr af nd_3.2.2]),.b (.one (.tr af nd_3.2.1)),.b (.agg (b5 t0)),.b (.one (.tr af a0)),.b (.aO (ay nd_4.1.x ++ (.int .u64 nd_4.1.priority :: (ao nd_4.1.cover ++ ([.tr af nd_4.2.1,.tr af nd_4.2.2]))))),.b (.aO [.tr af nd_4.2.2]),.b (.one (.tr af nd_4.2.2)),.b (.one (.tr af b0)),.b (.one (.tr af x_5)),.b (.one (.tr af x_6)),.b (.one (.tr af x_6))] [6] [] (s':=⟨[(6,.b (.one (.tr af x_6)))],[]⟩) rfl ⟨fun _=>.p (lp bU),fun _=>.p om,fun _=>.p om,fun _=>.p (aK e3 rfl rfl),fun _=>by exact .p (aD eD rfl rfl),fun _=>.p (az bK rfl rfl),fun _=>.p (lp bU),fun _=>.p om,fun _=>.p (aK e4 rfl rfl),fun _=>by exact .p (aD eC rfl rfl),fun _=>.p (az bK rfl rfl),fun _=>.p om,fun _=>.p (ak (ih e5) oW rfl rfl),fun _=>.p (ak (cc e6) mj rfl rfl),fun _=>.p oa,trivial⟩ rfl rfl (ab.ret (Fin.aS (Fin.aw ?_)))
    obtain rfl:=Option.some.inj h
    refine Fin.ag ⟨[(6,_)],[]⟩ rfl (Fin.aA [.one (.tr af x_6)] (.inl rfl) rfl (.cons (.tmp rfl) .nil) ⟨rfl,rfl⟩)
   ·refine ab.skip (Fin.au (Fin.ag ⟨[(1,_),(2,_),(3,_)],[(101,_)]⟩ rfl (Fin.then (ab.seq ?_))))
    refine ab.ag ⟨[(1,_),(2,_),(3,_)],[(101,_)]⟩ rfl ?_
    obtain ⟨nd_7,e7,h⟩:=aL h
    obtain ⟨x_8,e8,h⟩:=aL h
    obtain ⟨nd_9,e9,h⟩:=aL h
    obtain ⟨x_10,e10,h⟩:=aL h
    refine ab.bE mixed 15 [.b (.agg (b5 t0)),.b (.one (.tr af b0)),.b (.agg (b5 t0)),.b (.one (.tr af a0)),.b (.one (.tr af b0)),.b (.aO (ay nd_7.1.x ++ (.int .u64 nd_7.1.priority :: (ao nd_7.1.cover ++ ([.tr af nd_7.2.1,.tr af nd_7.2.2]))))),.b (.aO [.tr af nd_7.2.1,.tr af nd_7.2.2]),.b (.one (.tr af nd_7.2.1)),.b (.one (.tr af x_8)),.b (.one (.tr af b0)),.b (.aO (ay nd_9.1.x ++ (.int .u64 nd_9.1.priority :: (ao nd_9.1.cover ++ ([.tr af nd_9.2.1,.tr af nd_9.2.2]))))),.b (.aO [.tr af nd_9.2.2]),.b (.one (.tr af nd_9.2.2)),.b (.one (.tr af x_10)),.b (.one (.tr af x_10))] [6] [] (s':=⟨[(6,.b (.one (.tr af x_10)))],[]⟩) rfl ⟨fun _=>.p (lp bU),fun _=>.p om,fun _=>.p (lp bU),fun _=>.p om,fun _=>.p om,fun _=>.p (aK e7 rfl rfl),fun _=>by exact .p (aD eD rfl rfl),fun _=>.p (az bK rfl rfl),fun _=>.p (ak (ih e8) oW rfl rfl),fun _=>.p om,fun _=>.p (aK e9 rfl rfl),fun _=>by exact .p (aD eC rfl rfl),fun _=>.p (az bK rfl rfl),fun _=>.p (ak (cc e10) mj rfl rfl),fun _=>.p oa,trivial⟩ rfl rfl (ab.ret ?_)
    obtain rfl:=Option.some.inj h
    refine Fin.ag ⟨[(6,_)],[]⟩ rfl (Fin.aA [.one (.tr af x_10)] (.inl rfl) rfl (.cons (.tmp rfl) .nil) ⟨rfl,rfl⟩)
theorem fi {F:Nat} {t0:jA} {a0:dh bu} {b0:dh bu} {r:(dh bu)} (h:cS F t0 a0 b0 = some r):av Tryz.prog [] 82 [] [.agg (b5 t0),.one (.tr af a0),.one (.tr af b0)] (Is [] (.b (.one (.tr af r)))):=kP F h
def bW (F:Nat) (t0:jA) (x0:entry):Option jA :=
 Option.bind (fP F t0 t0.root x0) (dd fun x_1 x_2=>(im F t0.key x0).bind fun x_3=>(fX F x_3).bind fun x_4=>(bf F t0 (.node (⟨x0,x_4,(⟨A3.zero,A3.zero⟩:cg)⟩:bu) (.leaf) (.leaf)) (.leaf) (.leaf)).bind fun x_5=>(cS F t0 x_1 x_5).bind fun x_6=>(cS F t0 x_6 x_2).bind fun x_7=>fv (⟨x_7,t0.compare,t0.key,t0.box⟩:jA) fun x_8=>some x_8)
theorem hC {F:Nat} {t0:jA} {x0:entry} {r:jA} (h:bW F t0 x0 = some r):av Tryz.prog [] 59 [] [.agg (b5 t0),.agg (ay x0)] (Is [] (.b (.agg (b5 r)))):=by
 unfold bW at h
 refine av.intro 35 Tryz.func59 Tryz.ntmps59 rfl (by simp) fun E=>?_
 show ab _ E ⟨35,[],[],[]⟩ _ ⟨[(0,.b (.agg (b5 t0))),(1,.b (.agg (ay x0)))],[]⟩ _
 refine ab.seq (ab.aa ?_)
 refine Oc (bq (k:=101) rfl rfl) (Oc (bq (k:=102) rfl rfl) (Oc (aT (k:=103) rH rfl) ?_))
 refine ae.ai ⟨[(2,Pt 101 0),(3,Pt 102 0),(4,Pt 103 0)],[(101,.box 47 (b5 t0)),(102,.box 87 (ay x0)),(103,.box 47 [.tr af (.leaf),.de 0,.de 0,.de 0])]⟩ rfl (ab.seq (ab.aa ?_))
 refine Oc (lp bU) (Oc (aq fT rfl rfl) (Oc (aF bK rfl rfl rfl) (Oc (lp bF) ?_)))
 obtain ⟨⟨x_1,x_2⟩,e1,h⟩:=aL h
 refine Oc (ak (kO e1) sW rfl rfl) (ae.ag ⟨[(2,_),(3,_),(4,_),(13,.dF [.one (.tr af x_1),.one (.tr af x_2)])],[(101,_),(102,_),(103,_)]⟩ rfl (Oc om (Oc (an rfl rfl) (Oc (an rfl rfl) (Oc oa (Oc oa ?_))))))
 refine ae.ai ⟨[(2,_),(3,_),(4,_),(5,.b (.one (.tr af x_1))),(6,.b (.one (.tr af x_2)))],[(101,_),(102,_),(103,_)]⟩ rfl (ab.seq ?_)
 obtain ⟨x_3,e2,h⟩:=aL h
 obtain ⟨x_4,e3,h⟩:=aL h
 obtain ⟨x_5,e4,h⟩:=aL h
 refine ab.jb mixed [false,false,false,false,false,false,false,false,true,false,false] [.b (.agg (b5 t0)),.b (.agg (ay x0)),Pt 101 2,.b (.one (.de t0.key)),.b (.agg (ay x0)),.b (.one (.int .u64 x_3)),.b (.one (.int .u64 x_4)),.b (.agg (ay x0 ++ (.int .u64 x_4 :: ((c3 .i64) A3.zero ++ ((c3 .i64) A3.zero ++ ([.tr af (.leaf),.tr af (.leaf)])))))),.b (.one (.tr af (.node (⟨x0,x_4,(⟨A3.zero,A3.zero⟩:cg)⟩:bu) (.leaf) (.leaf)))),.b (.one (.tr af x_5)),.b (.one (.tr af x_5))] [⟨[false,false,false,false,false,false,false,false,false,false,false],[(2,Pt 101 0),(3,Pt 102 0),(4,Pt 103 0),(5,.b (.one (.tr af x_1))),(6,.b (.one (.tr af x_2)))],[(101,.box 47 (b5 t0)),(102,.box 87 (ay x0)),(103,.box 47 [.tr af (.leaf),.de 0,.de 0,.de 0])],[true,true,true,true,true,true,true,true,true,true,true],[],[9,10]⟩,⟨[false,false,false,false,false,false,false,false,true,false,false],[(2,Pt 101 0),(3,Pt 102 0),(4,Pt 103 0),(5,.b (.one (.tr af x_1))),(6,.b (.one (.tr af x_2)))],[(101,.box 47 (b5 t0)),(102,.box 87 (ay x0)),(103,.box 47 [.tr af (.leaf),.de 0,.de 0,.de 0])],[true,true,true,true,true,true,true,true,true,true,true],[1,2,3,4,5,6,7,8],[]⟩] rfl (⟨by kernel_rfl,⟨⟨.b (.agg (b5 t0)),fun _=>rfl,fun _=>.p (by exact bo bU rfl rfl rfl rfl)⟩,⟨.b (.agg (ay x0)),fun _=>rfl,fun _=>.p (by exact bo bF rfl rfl rfl rfl)⟩,⟨Pt 101 2,fun _=>rfl,fun _=>.p (by exact aq uF rfl rfl)⟩,⟨.b (.one (.de t0.key)),fun _=>rfl,fun _=>.p (by exact aF tyOne44 rfl rfl rfl)⟩,⟨.b (.agg (ay x0)),fun _=>rfl,fun _=>.p (by exact bo bF rfl rfl rfl rfl)⟩,⟨.b (.one (.int .u64 x_3)),fun _=>rfl,fun _=>.p (by exact lG (tB e2) (tC e2) (wD e2) rfl rfl rfl)⟩,⟨.b (.one (.int .u64 x_4)),fun _=>rfl,fun _=>.p (by exact ak (pT e3) goes81 rfl rfl)⟩,⟨.b (.agg (ay x0 ++ (.int .u64 x_4 :: ((c3 .i64) A3.zero ++ ((c3 .i64) A3.zero ++ ([.tr af (.leaf),.tr af (.leaf)])))))),fun _=>rfl,fun _=>.p (by exact bV pz rfl rfl)⟩,⟨_,[],.b (.one (.tr af (.node (⟨x0,x_4,(⟨A3.zero,A3.zero⟩:cg)⟩:bu) (.leaf) (.leaf)))),rfl,fun _=>rfl,rfl,rfl,fun _=>.qE [101,102,103] (by exact .p (by exact op_boxT (enc:=af) (⟨x0,x_4,(⟨A3.zero,A3.zero⟩:cg)⟩:bu) (.leaf) (.leaf) rfl rfl)) (by exact rfl)⟩,trivial,trivial,trivial⟩,⟨by kernel_rfl,⟨⟨.b (.agg (b5 t0)),fun _=>rfl,fun _=>.p (by exact bo bU rfl rfl rfl rfl)⟩,trivial,trivial,trivial,trivial,trivial,trivial,trivial,trivial,⟨.b (.one (.tr af x_5)),fun _=>rfl,fun _=>.p (by exact ak (cc e4) mj rfl rfl)⟩,⟨.b (.one (.tr af x_5)),fun _=>rfl,fun _=>.p (by exact bR rfl)⟩,trivial⟩,trivial⟩⟩) rfl rfl rfl [2,4,5,6,7] [101,103] (s':=⟨[(2,_),(4,_),(5,_),(6,_),(7,.b (.one (.tr af x_5)))],[(101,_),(103,_)]⟩) rfl ?_
 refine ab.seq (ab.ag ⟨[(2,_),(4,_),(5,_),(6,_),(7,_)],[(101,_),(103,_)]⟩ rfl ?_)
 obtain ⟨x_6,e5,h⟩:=aL h
 obtain ⟨x_7,e6,h⟩:=aL h
 refine ab.bE mixed 8 [.b (.agg (b5 t0)),.b (.agg (b5 t0)),.b (.one (.tr af x_1)),.b (.one (.tr af x_5)),.b (.one (.tr af x_6)),.b (.one (.tr af x_2)),.b (.one (.tr af x_7)),Pt 101 0] [2,4] [101,103] (s':=⟨[(2,_),(4,_)],[(101,.box 47 [.tr af x_7,.de t0.compare,.de t0.key,.de t0.box]),(103,_)]⟩) rfl ⟨fun _=>.p (lp bU),fun _=>.p (lp bU),fun _=>.p om,fun _=>.p om,fun _=>.p (ak (fi e5) oW rfl rfl),fun _=>.p om,fun _=>.p (ak (fi e6) oW rfl rfl),fun _=>.p (aq fT rfl rfl),trivial⟩ ⟨_,by exact .p (fe bK rfl rfl rfl (Nat.le_of_ble_eq_true rfl) rfl),rfl⟩ rfl (ab.seq (ab.aa ?_))
 refine ae.mN b5 h rfl (lp bU) (fun x_8 h=>?_)
 refine Oc (aB bU rfl rfl rfl rfl (Nat.le_of_ble_eq_true rfl) rfl) (ae.ai ⟨[(4,_)],[(103,.box 47 (b5 x_8))]⟩ rfl (ab.ret ?_))
 obtain rfl:=Option.some.inj h
 refine Fin.ag ⟨[(4,_)],[(103,_)]⟩ rfl (Fin.aA [.agg (b5 x_8)] (.inl rfl) rfl (.cons (.agg bU rfl rfl rfl rfl) .nil) ⟨rfl,rfl⟩)
def cf (F:Nat) (s0:b4) (id0:Int) (b0:cg):Option (b4 × Int) :=
 (cB F b0).bind fun x_1=>if (!x_1) = true then (fv (⟨(⟨.leaf,0,0,0⟩:jA),(⟨.leaf,0,0,0⟩:jA)⟩:b4) fun x_2=>some (x_2,1)) else (Option.bind (cE F s0 id0) (dd fun x_3 x_4=>if x_4 = true then (fv (⟨(⟨.leaf,0,0,0⟩:jA),(⟨.leaf,0,0,0⟩:jA)⟩:b4) fun x_5=>some (x_5,6)) else ((bW F s0.ids (⟨id0,b0⟩:entry)).bind fun x_6=>(bW F s0.boxes (⟨id0,b0⟩:entry)).bind fun x_7=>some ((⟨x_6,x_7⟩:b4),0))))
theorem c8 {F:Nat} {s0:b4} {id0:Int} {b0:cg} {r:b4 × Int} (h:cf F s0 id0 b0 = some r):av Tryz.prog [] 29 [] [.agg (ar s0),.one (.i id0),.agg (ao b0)] (Is [] (.dF [.agg (ar r.1),.one (.i r.2)])):=by
 unfold cf at h
 refine av.intro 35 Tryz.func29 Tryz.ntmps29 rfl (by simp) fun E=>?_
 show ab _ E ⟨35,[],[],[]⟩ _ ⟨[(0,.b (.agg (ar s0))),(1,I id0),(2,.b (.agg (ao b0)))],[]⟩ _
 refine ab.seq (ab.aa ?_)
 refine Oc (bq (k:=101) rfl rfl) (Oc (bq (k:=102) rfl rfl) (Oc (aT (k:=103) dK rfl) (Oc oa ?_)))
 refine ae.ai ⟨[(1,I id0),(3,Pt 101 0),(5,Pt 102 0),(6,Pt 103 0)],[(101,.box 49 (ar s0)),(102,.box 25 (ao b0)),(103,.box 49 [.tr af (.leaf),.de 0,.de 0,.de 0,.tr af (.leaf),.de 0,.de 0,.de 0])]⟩ rfl (ab.seq (ab.seq (ab.aa ?_)))
 refine Oc (lp aC) ?_
 obtain ⟨x_1,e1,h⟩:=aL h
 refine Oc (ak (dw e1) nw rfl rfl) (Oc (di rfl) ?_)
 refine ae.ai ⟨[(1,_),(3,_),(5,_),(6,_),(13,B (!x_1))],[(101,_),(102,_),(103,_)]⟩ rfl (ab.ite h rfl (fun _ h=>?_) (fun _ h=>?_))
 ·refine ab.seq (ab.aa ?_)
  refine ae.mN ar h rfl (bV fU rfl rfl) (fun x_2 h=>?_)
  refine Oc (aB aH rfl rfl rfl rfl (Nat.le_of_ble_eq_true rfl) rfl) (Oc oa ?_)
  refine ae.ai ⟨[(6,_),(7,I 1)],[(103,.box 49 (ar x_2))]⟩ rfl (ab.ret (Fin.aw ?_))
  obtain rfl:=Option.some.inj h
  refine Fin.ag ⟨[(6,_),(7,_)],[(103,_)]⟩ rfl (Fin.aA [.agg (ar x_2),.one (.i 1)] (.inl rfl) rfl (.cons (.agg aH rfl rfl rfl rfl) (.cons (.tmp rfl) .nil)) ⟨rfl,rfl⟩)
 ·refine ab.skip (Fin.ag ⟨[(1,_),(3,_),(5,_),(6,_)],[(101,_),(102,_),(103,_)]⟩ rfl (Fin.then (ab.seq (ab.seq (ab.aa ?_)))))
  refine Oc (lp aH) (Oc om ?_)
  obtain ⟨⟨x_3,x_4⟩,e2,h⟩:=aL h
  refine Oc (ak (eG e2) qL rfl rfl) (Oc om (Oc (an rfl rfl) ?_))
  refine ae.ag ⟨[(1,_),(3,_),(5,_),(6,_),(15,.dF [.agg (ay x_3),.one (.bool x_4)]),(19,.b (.agg (ay x_3)))],[(101,_),(102,_),(103,_)]⟩ rfl (Oc (an rfl rfl) (Oc (aT (k:=104) gq rfl) (Oc (aB bF rfl rfl rfl rfl (Nat.le_of_ble_eq_true rfl) rfl) (Oc oa ?_))))
  refine ae.ai ⟨[(1,_),(3,_),(5,_),(6,_),(9,B x_4)],[(101,_),(102,_),(103,_)]⟩ rfl (ab.seq (ab.aa ?_))
  refine Oc om (ae.ai ⟨[(1,_),(3,_),(5,_),(6,_),(21,B x_4)],[(101,_),(102,_),(103,_)]⟩ rfl (ab.ite h rfl (fun _ h=>?_) (fun _ h=>?_)))
  ·refine ab.seq (ab.aa ?_)
   refine ae.mN ar h rfl (bV fU rfl rfl) (fun x_5 h=>?_)
   refine Oc (aB aH rfl rfl rfl rfl (Nat.le_of_ble_eq_true rfl) rfl) (Oc oa ?_)
   refine ae.ai ⟨[(6,_),(7,I 6)],[(103,.box 49 (ar x_5))]⟩ rfl (ab.ret (Fin.aw ?_))
   obtain rfl:=Option.some.inj h
   refine Fin.ag ⟨[(6,_),(7,_)],[(103,_)]⟩ rfl (Fin.aA [.agg (ar x_5),.one (.i 6)] (.inl rfl) rfl (.cons (.agg aH rfl rfl rfl rfl) (.cons (.tmp rfl) .nil)) ⟨rfl,rfl⟩)
  ·refine ab.skip (Fin.ag ⟨[(1,_),(3,_),(5,_),(6,_)],[(101,_),(102,_),(103,_)]⟩ rfl (Fin.then (ab.seq (ab.aa ?_))))
   refine Oc om (Oc (lp aC) (Oc (bV qj rfl rfl) (Oc (aT (k:=105) gq rfl) (Oc (aB bF rfl rfl rfl rfl (Nat.le_of_ble_eq_true rfl) rfl) ?_))))
   refine ae.ai ⟨[(3,_),(6,_),(10,Pt 105 0)],[(101,_),(103,_),(105,.box 87 (.i id0 :: (ao b0)))]⟩ rfl (ab.seq ?_)
   obtain ⟨x_6,e3,h⟩:=aL h
   obtain ⟨x_7,e4,h⟩:=aL h
   refine ab.bE mixed 9 [Pt 101 0,.b (.agg (b5 s0.ids)),.b (.agg (.i id0 :: (ao b0))),.b (.agg (b5 x_6)),Pt 101 4,.b (.agg (b5 s0.boxes)),.b (.agg (.i id0 :: (ao b0))),.b (.agg (b5 x_7)),.b (.agg (b5 x_6 ++ (b5 x_7)))] [6,7] [103] (s':=⟨[(6,_),(7,I 0)],[(103,.box 49 (b5 x_6 ++ (b5 x_7)))]⟩) rfl ⟨fun _=>.p (aq jH rfl rfl),fun _=>.p (lp bU),fun _=>.p (lp bF),fun _=>.p (ak (hC e3) vA rfl rfl),fun _=>.p (aq nA rfl rfl),fun _=>.p (lp bU),fun _=>.p (lp bF),fun _=>.p (ak (hC e4) vA rfl rfl),fun _=>.p (bV fU rfl rfl),trivial⟩ ⟨_,by exact .p (aB aH rfl rfl rfl rfl (Nat.le_of_ble_eq_true rfl) rfl),⟨_,by exact .p oa,rfl⟩⟩ rfl (ab.ret ?_)
   obtain rfl:=Option.some.inj h
   refine Fin.ag ⟨[(6,_),(7,_)],[(103,_)]⟩ rfl (Fin.aA [.agg (b5 x_6 ++ (b5 x_7)),.one (.i 0)] (.inl rfl) rfl (.cons (.agg aH rfl rfl rfl rfl) (.cons (.tmp rfl) .nil)) ⟨rfl,rfl⟩)
def cp (F:Nat) (s0:b4) (b0:cg):Option (List Int) :=
 Option.bind (oM (fun t=>cG F t b0) s0.boxes.root) (fun xs_1=>Option.bind (each (fun outf0_3=>fun x_2=>(cQ F x_2.b b0).bind fun x_4=>if x_4 = true then ((dE outf0_3 [x_2.id]).bind fun x_5=>some (.inl x_5)) else (some (.inl outf0_3))) (xs_1) []) (cL (fun outf0_3=>(fF F outf0_3).bind fun x_6=>some x_6) (fun (_:Unit)=>none)))
theorem dS {F:Nat} {s0:b4} {b0:cg} {r:(List Int)} (h:cp F s0 b0 = some r):av Tryz.prog [] 55 [] [.agg (ar s0),.agg (ao b0)] (Is [(51,.row 3 1 (r.map eI))] (.b (.row 51))):=by
 unfold cp at h
 refine av.sU 25 Tryz.func55 Tryz.ntmps55 rfl (by simp) fun E=>?_
 show ab _ E ⟨25,[],[],[]⟩ _ ⟨[(0,.b (.agg (ar s0))),(1,.b (.agg (ao b0)))],[]⟩ _
 refine ab.seq (ab.aa ?_)
 refine Oc (mX rfl) (Oc (mX rfl) (Oc oa ?_))
 refine ae.ai ⟨[(2,.b (.aO (ar s0))),(3,.b (.aO (ao b0)))],[]⟩ rfl (ab.seq (ab.aa ?_))
 refine Oc (aT (k:=101) rG rfl) (ae.ai ⟨[(2,_),(3,_),(5,Pt 101 0)],[(101,.box 51 [.nil])]⟩ rfl (ab.seq (ab.seq (ab.aa ?_))))
 refine Oc (aD nA rfl rfl) (Oc (aD fT rfl rfl) (Oc (az bK rfl rfl) (Oc (iw rfl) (Oc (ak pv sY rfl rfl) ?_))))
 refine ae.ai ⟨[(3,_),(5,_),(11,.b (.one (.fw 77 [CP.rp [.tr af s0.boxes.root],CP.rp [.fw 74 [CP.rp (ao b0)]]])))],[(101,_)]⟩ rfl ?_
 obtain ⟨xs_1,e1,h⟩:=aL h
 refine ab.ag ⟨[(3,.b (.aO (ao b0))),(5,Pt 101 0),(11,.b (.one (.fw 77 [CP.rp [.tr af s0.boxes.root],CP.rp [.fw 74 [CP.rp (ao b0)]]])))],[(101,.box 51 [.nil])]⟩ rfl (ab.uY 101 rfl (ab.gm 101 0 104 1 3 rfl rfl (by decide) (by decide) rfl (ab.ag ⟨[(3,_),(5,_),(11,_)],[(101,.bM 51 [.row 104]),(104,.row 3 1 ([].map eI))]⟩ rfl (ab.sM _ uA _ _ (fun (outf0_3:List Int)=>[(101,.bM 51 [.row 104]),(104,.row 3 1 (outf0_3.map eI))]) (fun (_:Unit)=>([]:List (Nat × OC))) (fun (outf0_3:List Int)=>fun x_2=>⟨[(3,.b (.aO (ao b0))),(5,Pt 101 0),(6,Pt 106 0)],[(101,.bM 51 [.row 104]),(104,.row 3 1 (outf0_3.map eI)),(106,.box 87 (ay x_2))]⟩) h (pw sx e1) sX rfl rfl rfl (fun _=>rfl) (fun _=>rfl) (fun _=>rfl) (fun _ _=>rfl) (fun _ _=>rfl) rfl (fun _=>rfl) ?_ ?_ ?_ ?_))))
 ·rintro E l outf0_3 x_2 z _ h2
  refine a7.keep [3,5,11,12] [101,104] (s':=⟨[(3,.b (.aO (ao b0))),(5,Pt 101 0),(11,.b (.one (.fw 77 [CP.rp [.tr af s0.boxes.root],CP.rp [.fw 74 [CP.rp (ao b0)]]]))),(12,.b (.agg (ay x_2)))],[(101,.bM 51 [.row 104]),(104,.row 3 1 (outf0_3.map eI))]⟩) rfl (a7.aa (.inr ⟨_,rfl⟩) (Oc (aT (k:=106) gq rfl) (Oc (aB bF rfl rfl rfl rfl (Nat.le_of_ble_eq_true rfl) rfl) ?_)))
  refine ae.nil ?_
  exact Fin.ag ⟨[(3,_),(5,_),(6,Pt 106 0)],[(101,_),(104,_),(106,.box 87 (ay x_2))]⟩ rfl (fun a w hr=>hr)
 ·rintro E l outf0_3 x_2 z _ h2
  refine a7.block (a7.seq (a7.aa (.inr ⟨_,rfl⟩) (Oc (aq gB rfl rfl) (Oc (lp aC) (Oc (bj aC rfl rfl rfl) ?_)))))
  obtain ⟨x_4,e3,h2⟩:=aL h2
  refine Oc (ak (dJ e3) nv rfl rfl) (ae.nil (Fin.ag ⟨[(3,.b (.aO (ao b0))),(5,Pt 101 0),(6,Pt 106 0),(16,B x_4)],[(101,.bM 51 [.row 104]),(104,.row 3 1 (outf0_3.map eI)),(106,.box 87 (ay x_2))]⟩ rfl (Fin.ic ?_ (fun ⟨_,_,hl⟩=>hl))))
  refine a7.ite h2 rfl (fun _ h2=>?_) (fun _ h2=>?_)
  ·refine a7.aa (.inr ⟨_,rfl⟩) (Oc (eE gk rfl rfl rfl) (Oc (aq dW rfl rfl) (Oc (aF aM rfl rfl rfl) (Oc (bt (k:=107) (es:=[x_2.id].map eI) bN rfl rfl (bP fun _=>rfl) rfl (by decide) (by decide) rfl) ?_))))
   refine ae.forget 101 0 rfl ?_
   obtain ⟨x_5,e4,h2⟩:=aL h2
   refine Oc (cW bN (gh e4) (gg e4) rfl rfl rfl rfl (du e4) rfl) (Oc (gX gk rfl rfl rfl rfl (Nat.le_of_ble_eq_true rfl) rfl) ?_)
   refine ae.nil (Fin.au ?_)
   obtain rfl:=Option.some.inj h2
   exact Fin.ag ⟨[],[(101,.bM 51 [.row 104]),(104,.row 3 1 (x_5.map eI))]⟩ rfl (fun a w hr=>⟨_,rfl,hr⟩)
  ·refine a7.skip (Fin.au ?_)
   obtain rfl:=Option.some.inj h2
   exact Fin.ag ⟨[],[(101,_),(104,_)]⟩ rfl (fun a w hr=>⟨_,rfl,hr⟩)
 ·rintro E D outf0_3 h5
  refine ab.seq (ab.aa ?_)
  refine Oc (eE gk rfl rfl rfl) (ae.ux 104 rfl ?_)
  obtain ⟨x_6,e6,h5⟩:=aL h5
  refine Oc (cC (own_a:=[(104,_)]) ((nT e6).sw 1 104) goes75 rfl ⟨rfl,trivial⟩ rfl rfl) (ae.uw 104 rfl (ae.ai ⟨[(5,Pt 101 0)],[(101,.bM 51 [.row 104]),(104,.row 3 1 (x_6.map eI))]⟩ rfl (ab.seq (ab.aa ?_))))
  refine Oc (eE gk rfl rfl rfl) (Oc oa ?_)
  refine ae.ai ⟨[(4,.b (.row 104))],[(104,_)]⟩ rfl (ab.ret ?_)
  obtain rfl:=Option.some.inj h5
  refine Fin.ag ⟨[(4,.b (.row 104))],[(104,.row 3 1 (x_6.map eI))]⟩ rfl (Fin.rename 104 51 rfl (by decide) rfl (Fin.ag ⟨[(4,.b (.row 51))],[(51,.row 3 1 (x_6.map eI))]⟩ rfl ?_))
  exact Fin.result [.row 51] (.inl rfl) rfl (.cons (.tmp rfl) .nil) ⟨rfl,rfl⟩
 ·rintro E D ⟨⟩ h5
  cases h5
def cI (F:Nat) (s0:b4) (b0:cg):Option ((List Int) × Int) :=
 (cB F b0).bind fun x_1=>if (!x_1) = true then (some ([],1)) else ((cp F s0 b0).bind fun x_2=>some (x_2,0))
theorem fA (kr0:Nat) {F:Nat} {s0:b4} {b0:cg} {r:(List Int) × Int} (h:cI F s0 b0 = some r):av Tryz.prog [] 31 [] [.agg (ar s0),.agg (ao b0)] (Is [(kr0,.row 3 1 (r.1.map eI))] (.dF [.row kr0,.one (.i r.2)])):=by
 unfold cI at h
 refine av.intro 12 Tryz.func31 Tryz.ntmps31 rfl (by simp) fun E=>?_
 show ab _ E ⟨12,[],[],[]⟩ _ ⟨[(0,.b (.agg (ar s0))),(1,.b (.agg (ao b0)))],[]⟩ _
 refine ab.seq (ab.aa ?_)
 refine Oc (bq (k:=101) rfl rfl) (Oc (bq (k:=102) rfl rfl) (Oc oa (Oc oa ?_)))
 refine ae.ai ⟨[(2,Pt 101 0),(3,Pt 102 0)],[(101,.box 49 (ar s0)),(102,.box 25 (ao b0))]⟩ rfl (ab.seq (ab.seq (ab.aa ?_)))
 refine Oc (lp aC) ?_
 obtain ⟨x_1,e1,h⟩:=aL h
 refine Oc (ak (dw e1) nw rfl rfl) (Oc (di rfl) ?_)
 refine ae.ai ⟨[(2,_),(3,_),(8,B (!x_1))],[(101,_),(102,_)]⟩ rfl (ab.ite h rfl (fun _ h=>?_) (fun _ h=>?_))
 ·refine ab.seq (ab.aa ?_)
  refine Oc oa (Oc oa ?_)
  refine ae.ai ⟨[(4,.b (.one (.nil))),(5,I 1)],[]⟩ rfl (ab.ret (Fin.aw ?_))
  obtain rfl:=Option.some.inj h
  refine Fin.ag ⟨[(4,_),(5,_)],[]⟩ rfl (Fin.dO 4 103 1 3 rfl (by decide) rfl (Fin.ez 103 kr0 [.row 103,.one (.i 1)] (.inl rfl) rfl (.cons (.tmp rfl) (.cons (.tmp rfl) .nil)) rfl rfl rfl rfl ⟨rfl,rfl⟩))
 ·refine ab.skip (Fin.ag ⟨[(2,_),(3,_)],[(101,_),(102,_)]⟩ rfl (Fin.then (ab.seq (ab.aa ?_))))
  refine Oc (lp aH) (Oc (lp aC) ?_)
  obtain ⟨x_2,e2,h⟩:=aL h
  refine Oc (cC (own_a:=[]) ((dS e2).sw 51 104) qK rfl trivial rfl rfl) (Oc oa (Oc oa ?_))
  refine ae.ai ⟨[(4,.b (.row 104)),(5,I 0)],[(104,.row 3 1 (x_2.map eI))]⟩ rfl (ab.ret ?_)
  obtain rfl:=Option.some.inj h
  refine Fin.ag ⟨[(4,_),(5,_)],[(104,_)]⟩ rfl (Fin.ez 104 kr0 [.row 104,.one (.i 0)] (.inl rfl) rfl (.cons (.tmp rfl) (.cons (.tmp rfl) .nil)) rfl rfl rfl rfl ⟨rfl,rfl⟩)
def cz (F:Nat):Nat → jA → (dh bu) → entry → Option (dh bu)
 | 0,_,_,_=>none
 | n + 1,t0,n0,x0=>Option.bind (jz n0) (fun nd_1=>(gn F t0.compare x0 nd_1.1.x).bind fun x_2=>if (decide (x_2 < 0)) = true then (Option.bind (jz n0) (fun nd_3=>(cz F n t0 nd_3.2.1 x0).bind fun x_4=>Option.bind (jz n0) (fun nd_5=>(bf F t0 n0 x_4 nd_5.2.2).bind fun x_6=>some x_6))) else (if (decide (0 < x_2)) = true then (Option.bind (jz n0) (fun nd_7=>Option.bind (jz n0) (fun nd_8=>(cz F n t0 nd_8.2.2 x0).bind fun x_9=>(bf F t0 n0 nd_7.2.1 x_9).bind fun x_10=>some x_10))) else (Option.bind (jz n0) (fun nd_11=>Option.bind (jz n0) (fun nd_12=>(cS F t0 nd_11.2.1 nd_12.2.2).bind fun x_13=>some x_13)))))
def gy (F:Nat) (t0:jA) (n0:dh bu) (x0:entry):Option (dh bu):=cz F F t0 n0 x0
theorem kQ {F:Nat}:∀ (n:Nat) {t0:jA} {n0:dh bu} {x0:entry} {r:(dh bu)} (h:cz F n t0 n0 x0 = some r),av Tryz.prog [] 83 [] [.agg (b5 t0),.one (.tr af n0),.agg (ay x0)] (Is [] (.b (.one (.tr af r)))):=by
 intro n
 induction n with
 | zero=>intro t0 n0 x0 r h; simp [cz] at h
 | succ n ih=>
 intro t0 n0 x0 r h
 unfold cz at h
 refine av.intro 60 Tryz.func83 Tryz.ntmps83 rfl (by simp) fun E=>?_
 show ab _ E ⟨60,[],[],[]⟩ _ ⟨[(0,.b (.agg (b5 t0))),(1,.b (.one (.tr af n0))),(2,.b (.agg (ay x0)))],[]⟩ _
 refine ab.seq (ab.aa ?_)
 refine Oc (bq (k:=101) rfl rfl) (Oc (bq (k:=102) rfl rfl) (Oc oa ?_))
 refine ae.ai ⟨[(1,.b (.one (.tr af n0))),(3,Pt 101 0),(5,Pt 102 0)],[(101,.box 47 (b5 t0)),(102,.box 87 (ay x0))]⟩ rfl (ab.seq (ab.seq ?_))
 refine ab.ag ⟨[(1,_),(3,_),(5,_)],[(101,_),(102,_)]⟩ rfl ?_
 obtain ⟨nd_1,e1,h⟩:=aL h
 obtain ⟨x_2,e2,h⟩:=aL h
 refine ab.bE mixed 9 [Pt 101 1,.b (.one (.de t0.compare)),.b (.agg (ay x0)),.b (.one (.tr af n0)),.b (.aO (ay nd_1.1.x ++ (.int .u64 nd_1.1.priority :: (ao nd_1.1.cover ++ ([.tr af nd_1.2.1,.tr af nd_1.2.2]))))),.b (.aO (ay nd_1.1.x ++ (.int .u64 nd_1.1.priority :: (ao nd_1.1.cover ++ ([.tr af nd_1.2.1,.tr af nd_1.2.2]))))),.b (.agg (ay nd_1.1.x)),I x_2,I x_2] [1,3,5,7] [101,102] (s':=⟨[(1,_),(3,_),(5,_),(7,I x_2)],[(101,_),(102,_)]⟩) rfl ⟨fun _=>.p (aq qi rfl rfl),fun _=>.p (aF tX rfl rfl rfl),fun _=>.p (lp bF),fun _=>.p om,fun _=>.p (aK e1 rfl rfl),fun _=>by exact .p (aD fc rfl rfl),fun _=>.p (bj bF rfl rfl rfl),fun _=>.p (lG (pN e2) (pO e2) (sf e2) rfl rfl rfl),fun _=>.p oa,trivial⟩ rfl rfl (ab.block (ab.seq (ab.aa ?_)))
 refine Oc om (Oc (bb rfl rfl) (Oc oa ?_))
 refine ae.ai ⟨[(1,_),(3,_),(5,_),(7,_),(16,B (decide (x_2 < 0)))],[(101,_),(102,_)]⟩ rfl (ab.ite h rfl (fun _ h=>?_) (fun _ h=>?_))
 ·refine ab.seq (ab.ag ⟨[(1,_),(3,_),(5,_)],[(101,_),(102,_)]⟩ rfl ?_)
  obtain ⟨nd_3,e3,h⟩:=aL h
  obtain ⟨x_4,e4,h⟩:=aL h
  obtain ⟨nd_5,e5,h⟩:=aL h
  obtain ⟨x_6,e6,h⟩:=aL h
  refine ab.bE mixed 15 [.b (.agg (b5 t0)),.b (.one (.tr af n0)),.b (.agg (b5 t0)),.b (.one (.tr af n0)),.b (.aO (ay nd_3.1.x ++ (.int .u64 nd_3.1.priority :: (ao nd_3.1.cover ++ ([.tr af nd_3.2.1,.tr af nd_3.2.2]))))),.b (.aO [.tr af nd_3.2.1,.tr af nd_3.2.2]),.b (.one (.tr af nd_3.2.1)),.b (.agg (ay x0)),.b (.one (.tr af x_4)),.b (.one (.tr af n0)),.b (.aO (ay nd_5.1.x ++ (.int .u64 nd_5.1.priority :: (ao nd_5.1.cover ++ ([.tr af nd_5.2.1,.tr af nd_5.2.2]))))),.b (.aO [.tr af nd_5.2.2]),.b (.one (.tr af nd_5.2.2)),.b (.one (.tr af x_6)),.b (.one (.tr af x_6))] [6] [] (s':=⟨[(6,.b (.one (.tr af x_6)))],[]⟩) rfl ⟨fun _=>.p (lp bU),fun _=>.p om,fun _=>.p (lp bU),fun _=>.p om,fun _=>.p (aK e3 rfl rfl),fun _=>by exact .p (aD eD rfl rfl),fun _=>.p (az bK rfl rfl),fun _=>.p (lp bF),fun _=>.p (ak (ih e4) sV rfl rfl),fun _=>.p om,fun _=>.p (aK e5 rfl rfl),fun _=>by exact .p (aD eC rfl rfl),fun _=>.p (az bK rfl rfl),fun _=>.p (ak (cc e6) mj rfl rfl),fun _=>.p oa,trivial⟩ rfl rfl (ab.ret (Fin.aS (Fin.aw ?_)))
  obtain rfl:=Option.some.inj h
  refine Fin.ag ⟨[(6,_)],[]⟩ rfl (Fin.aA [.one (.tr af x_6)] (.inl rfl) rfl (.cons (.tmp rfl) .nil) ⟨rfl,rfl⟩)
 ·refine ab.seq (ab.aa ?_)
  refine Oc om (Oc (gA rfl rfl) (Oc oa ?_))
  refine ae.ai ⟨[(1,_),(3,_),(5,_),(33,B (decide (0 < x_2)))],[(101,_),(102,_)]⟩ rfl (ab.ite h rfl (fun _ h=>?_) (fun _ h=>?_))
  ·refine ab.seq (ab.ag ⟨[(1,_),(3,_),(5,_)],[(101,_),(102,_)]⟩ rfl ?_)
   obtain ⟨nd_7,e7,h⟩:=aL h
   obtain ⟨nd_8,e8,h⟩:=aL h
   obtain ⟨x_9,e9,h⟩:=aL h
   obtain ⟨x_10,e10,h⟩:=aL h
   refine ab.bE mixed 15 [.b (.agg (b5 t0)),.b (.one (.tr af n0)),.b (.one (.tr af n0)),.b (.aO (ay nd_7.1.x ++ (.int .u64 nd_7.1.priority :: (ao nd_7.1.cover ++ ([.tr af nd_7.2.1,.tr af nd_7.2.2]))))),.b (.aO [.tr af nd_7.2.1,.tr af nd_7.2.2]),.b (.one (.tr af nd_7.2.1)),.b (.agg (b5 t0)),.b (.one (.tr af n0)),.b (.aO (ay nd_8.1.x ++ (.int .u64 nd_8.1.priority :: (ao nd_8.1.cover ++ ([.tr af nd_8.2.1,.tr af nd_8.2.2]))))),.b (.aO [.tr af nd_8.2.2]),.b (.one (.tr af nd_8.2.2)),.b (.agg (ay x0)),.b (.one (.tr af x_9)),.b (.one (.tr af x_10)),.b (.one (.tr af x_10))] [6] [] (s':=⟨[(6,.b (.one (.tr af x_10)))],[]⟩) rfl ⟨fun _=>.p (lp bU),fun _=>.p om,fun _=>.p om,fun _=>.p (aK e7 rfl rfl),fun _=>by exact .p (aD eD rfl rfl),fun _=>.p (az bK rfl rfl),fun _=>.p (lp bU),fun _=>.p om,fun _=>.p (aK e8 rfl rfl),fun _=>by exact .p (aD eC rfl rfl),fun _=>.p (az bK rfl rfl),fun _=>.p (lp bF),fun _=>.p (ak (ih e9) sV rfl rfl),fun _=>.p (ak (cc e10) mj rfl rfl),fun _=>.p oa,trivial⟩ rfl rfl (ab.ret (Fin.aS (Fin.aw ?_)))
   obtain rfl:=Option.some.inj h
   refine Fin.ag ⟨[(6,_)],[]⟩ rfl (Fin.aA [.one (.tr af x_10)] (.inl rfl) rfl (.cons (.tmp rfl) .nil) ⟨rfl,rfl⟩)
  ·refine ab.skip (Fin.au (Fin.ag ⟨[(1,_),(3,_)],[(101,_)]⟩ rfl (Fin.then (ab.seq ?_))))
   refine ab.ag ⟨[(1,_),(3,_)],[(101,_)]⟩ rfl ?_
   obtain ⟨nd_11,e11,h⟩:=aL h
   obtain ⟨nd_12,e12,h⟩:=aL h
   obtain ⟨x_13,e13,h⟩:=aL h
   refine ab.bE mixed 11 [.b (.agg (b5 t0)),.b (.one (.tr af n0)),.b (.aO (ay nd_11.1.x ++ (.int .u64 nd_11.1.priority :: (ao nd_11.1.cover ++ ([.tr af nd_11.2.1,.tr af nd_11.2.2]))))),.b (.aO [.tr af nd_11.2.1,.tr af nd_11.2.2]),.b (.one (.tr af nd_11.2.1)),.b (.one (.tr af n0)),.b (.aO (ay nd_12.1.x ++ (.int .u64 nd_12.1.priority :: (ao nd_12.1.cover ++ ([.tr af nd_12.2.1,.tr af nd_12.2.2]))))),.b (.aO [.tr af nd_12.2.2]),.b (.one (.tr af nd_12.2.2)),.b (.one (.tr af x_13)),.b (.one (.tr af x_13))] [6] [] (s':=⟨[(6,.b (.one (.tr af x_13)))],[]⟩) rfl ⟨fun _=>.p (lp bU),fun _=>.p om,fun _=>.p (aK e11 rfl rfl),fun _=>by exact .p (aD eD rfl rfl),fun _=>.p (az bK rfl rfl),fun _=>.p om,fun _=>.p (aK e12 rfl rfl),fun _=>by exact .p (aD eC rfl rfl),fun _=>.p (az bK rfl rfl),fun _=>.p (ak (fi e13) oW rfl rfl),fun _=>.p oa,trivial⟩ rfl rfl (ab.ret ?_)
   obtain rfl:=Option.some.inj h
   refine Fin.ag ⟨[(6,_)],[]⟩ rfl (Fin.aA [.one (.tr af x_13)] (.inl rfl) rfl (.cons (.tmp rfl) .nil) ⟨rfl,rfl⟩)
theorem ly {F:Nat} {t0:jA} {n0:dh bu} {x0:entry} {r:(dh bu)} (h:gy F t0 n0 x0 = some r):av Tryz.prog [] 83 [] [.agg (b5 t0),.one (.tr af n0),.agg (ay x0)] (Is [] (.b (.one (.tr af r)))):=kQ F h
def bJ (F:Nat) (t0:jA) (x0:entry):Option jA :=
 (gy F t0 t0.root x0).bind fun x_1=>fv (⟨x_1,t0.compare,t0.key,t0.box⟩:jA) fun x_2=>some x_2
theorem fZ {F:Nat} {t0:jA} {x0:entry} {r:jA} (h:bJ F t0 x0 = some r):av Tryz.prog [] 60 [] [.agg (b5 t0),.agg (ay x0)] (Is [] (.b (.agg (b5 r)))):=by
 unfold bJ at h
 refine av.intro 12 Tryz.func60 Tryz.ntmps60 rfl (by simp) fun E=>?_
 show ab _ E ⟨12,[],[],[]⟩ _ ⟨[(0,.b (.agg (b5 t0))),(1,.b (.agg (ay x0)))],[]⟩ _
 refine ab.seq (ab.aa ?_)
 refine Oc (bq (k:=101) rfl rfl) (Oc (bq (k:=102) rfl rfl) (Oc (aT (k:=103) rH rfl) ?_))
 refine ae.ai ⟨[(2,Pt 101 0),(3,Pt 102 0),(4,Pt 103 0)],[(101,.box 47 (b5 t0)),(102,.box 87 (ay x0)),(103,.box 47 [.tr af (.leaf),.de 0,.de 0,.de 0])]⟩ rfl (ab.seq (ab.aa ?_))
 refine Oc (lp bU) (Oc (aq fT rfl rfl) (Oc (aF bK rfl rfl rfl) (Oc (lp bF) ?_)))
 obtain ⟨x_1,e1,h⟩:=aL h
 refine Oc (ak (ly e1) sV rfl rfl) (Oc (aq fT rfl rfl) (Oc (fe bK rfl rfl rfl (Nat.le_of_ble_eq_true rfl) rfl) ?_))
 refine ae.ai ⟨[(2,_),(4,_)],[(101,.box 47 [.tr af x_1,.de t0.compare,.de t0.key,.de t0.box]),(103,_)]⟩ rfl (ab.seq (ab.aa ?_))
 refine ae.mN b5 h rfl (lp bU) (fun x_2 h=>?_)
 refine Oc (aB bU rfl rfl rfl rfl (Nat.le_of_ble_eq_true rfl) rfl) (ae.ai ⟨[(4,_)],[(103,.box 47 (b5 x_2))]⟩ rfl (ab.ret ?_))
 obtain rfl:=Option.some.inj h
 refine Fin.ag ⟨[(4,_)],[(103,_)]⟩ rfl (Fin.aA [.agg (b5 x_2)] (.inl rfl) rfl (.cons (.agg bU rfl rfl rfl rfl) .nil) ⟨rfl,rfl⟩)
def b8 (F:Nat) (s0:b4) (id0:Int):Option (b4 × Int) :=
 Option.bind (cE F s0 id0) (dd fun x_1 x_2=>if (!x_2) = true then (fv (⟨(⟨.leaf,0,0,0⟩:jA),(⟨.leaf,0,0,0⟩:jA)⟩:b4) fun x_3=>some (x_3,5)) else ((bJ F s0.ids x_1).bind fun x_4=>(bJ F s0.boxes x_1).bind fun x_5=>some ((⟨x_4,x_5⟩:b4),0)))
theorem eV {F:Nat} {s0:b4} {id0:Int} {r:b4 × Int} (h:b8 F s0 id0 = some r):av Tryz.prog [] 30 [] [.agg (ar s0),.one (.i id0)] (Is [] (.dF [.agg (ar r.1),.one (.i r.2)])):=by
 unfold b8 at h
 refine av.intro 26 Tryz.func30 Tryz.ntmps30 rfl (by simp) fun E=>?_
 show ab _ E ⟨26,[],[],[]⟩ _ ⟨[(0,.b (.agg (ar s0))),(1,I id0)],[]⟩ _
 refine ab.seq (ab.aa ?_)
 refine Oc (bq (k:=101) rfl rfl) (Oc (aT (k:=102) dK rfl) (Oc oa ?_))
 refine ae.ai ⟨[(1,I id0),(2,Pt 101 0),(4,Pt 102 0)],[(101,.box 49 (ar s0)),(102,.box 49 [.tr af (.leaf),.de 0,.de 0,.de 0,.tr af (.leaf),.de 0,.de 0,.de 0])]⟩ rfl (ab.seq (ab.aa ?_))
 refine Oc (lp aH) (Oc om ?_)
 obtain ⟨⟨x_1,x_2⟩,e1,h⟩:=aL h
 refine Oc (ak (eG e1) qL rfl rfl) (Oc om (Oc (an rfl rfl) ?_))
 refine ae.ag ⟨[(2,_),(4,_),(8,.dF [.agg (ay x_1),.one (.bool x_2)]),(12,.b (.agg (ay x_1)))],[(101,_),(102,_)]⟩ rfl (Oc (an rfl rfl) (Oc (aT (k:=103) gq rfl) (Oc (aB bF rfl rfl rfl rfl (Nat.le_of_ble_eq_true rfl) rfl) (Oc oa ?_))))
 refine ae.ai ⟨[(2,_),(4,_),(6,Pt 103 0),(7,B x_2)],[(101,_),(102,_),(103,.box 87 (ay x_1))]⟩ rfl (ab.seq (ab.seq (ab.aa ?_)))
 refine Oc om (Oc (di rfl) ?_)
 refine ae.ai ⟨[(2,_),(4,_),(6,_),(15,B (!x_2))],[(101,_),(102,_),(103,_)]⟩ rfl (ab.ite h rfl (fun _ h=>?_) (fun _ h=>?_))
 ·refine ab.seq (ab.aa ?_)
  refine ae.mN ar h rfl (bV fU rfl rfl) (fun x_3 h=>?_)
  refine Oc (aB aH rfl rfl rfl rfl (Nat.le_of_ble_eq_true rfl) rfl) (Oc oa ?_)
  refine ae.ai ⟨[(4,_),(5,I 5)],[(102,.box 49 (ar x_3))]⟩ rfl (ab.ret (Fin.aw ?_))
  obtain rfl:=Option.some.inj h
  refine Fin.ag ⟨[(4,_),(5,_)],[(102,_)]⟩ rfl (Fin.aA [.agg (ar x_3),.one (.i 5)] (.inl rfl) rfl (.cons (.agg aH rfl rfl rfl rfl) (.cons (.tmp rfl) .nil)) ⟨rfl,rfl⟩)
 ·refine ab.skip (Fin.ag ⟨[(2,_),(4,_),(6,_)],[(101,_),(102,_),(103,_)]⟩ rfl (Fin.then (ab.seq ?_)))
  refine ab.ag ⟨[(2,_),(4,_),(6,_)],[(101,_),(102,_),(103,_)]⟩ rfl ?_
  obtain ⟨x_4,e2,h⟩:=aL h
  obtain ⟨x_5,e3,h⟩:=aL h
  refine ab.bE mixed 9 [Pt 101 0,.b (.agg (b5 s0.ids)),.b (.agg (ay x_1)),.b (.agg (b5 x_4)),Pt 101 4,.b (.agg (b5 s0.boxes)),.b (.agg (ay x_1)),.b (.agg (b5 x_5)),.b (.agg (b5 x_4 ++ (b5 x_5)))] [4,5] [102] (s':=⟨[(4,_),(5,I 0)],[(102,.box 49 (b5 x_4 ++ (b5 x_5)))]⟩) rfl ⟨fun _=>.p (aq jH rfl rfl),fun _=>.p (lp bU),fun _=>.p (lp bF),fun _=>.p (ak (fZ e2) vz rfl rfl),fun _=>.p (aq nA rfl rfl),fun _=>.p (lp bU),fun _=>.p (lp bF),fun _=>.p (ak (fZ e3) vz rfl rfl),fun _=>.p (bV fU rfl rfl),trivial⟩ ⟨_,by exact .p (aB aH rfl rfl rfl rfl (Nat.le_of_ble_eq_true rfl) rfl),⟨_,by exact .p oa,rfl⟩⟩ rfl (ab.ret ?_)
  obtain rfl:=Option.some.inj h
  refine Fin.ag ⟨[(4,_),(5,_)],[(102,_)]⟩ rfl (Fin.aA [.agg (b5 x_4 ++ (b5 x_5)),.one (.i 0)] (.inl rfl) rfl (.cons (.agg aH rfl rfl rfl rfl) (.cons (.tmp rfl) .nil)) ⟨rfl,rfl⟩)
def iR (F:Nat) (x0:Int) (y0:Int):Option Bool :=
 (er F x0).bind fun x_1=>(bD x_1 (er F y0)).bind fun x_2=>some ((x_1 && (!x_2)) || (decide (x0 < y0)))
theorem p9 {F:Nat} {x0:Int} {y0:Int} {r:Bool} (h:iR F x0 y0 = some r):av Tryz.prog [] 98 [] [.one (.i x0),.one (.i y0)] (Is [] (.b (.one (.bool r)))):=by
 unfold iR at h
 refine av.intro 17 Tryz.func98 Tryz.ntmps98 rfl (by simp) fun E=>?_
 show ab _ E ⟨17,[],[],[]⟩ _ ⟨[(0,I x0),(1,I y0)],[]⟩ _
 refine ab.seq (ab.aa ?_)
 refine Oc oa (ae.ai ⟨[(0,I x0),(1,I y0)],[]⟩ rfl (ab.seq (ab.aa ?_)))
 refine Oc om ?_
 obtain ⟨x_1,e1,h⟩:=aL h
 refine Oc (ak (gw e1) qJ rfl rfl) (Oc om ?_)
 refine eZ x_1 [] (fun g2=>trivial) (fun g2=>om) (ae.ag ⟨[(0,_),(1,_),(7,B x_1),(8,.opt x_1 (.one (.i y0)))],[]⟩ rfl ?_)
 obtain ⟨x_2,e4,h⟩:=aL h
 refine eZ x_1 [8] (fun g3=>⟨g3,trivial⟩) (fun g3=>ak (gw (gc e4 g3)) qJ rfl rfl) (eZ x_1 [9] (fun g5=>⟨g5,trivial⟩) (fun g5=>di rfl) (Oc (aJ (fun e=>e) rfl rfl rfl rfl) (Oc om ?_)))
 refine qF (!(x_1 && (!x_2))) [] (fun g6=>trivial) (fun g6=>om) (qF (!(x_1 && (!x_2))) [] (fun g7=>by exact trivial) (fun g7=>om) (qF (!(x_1 && (!x_2))) [13,14] (fun g8=>by exact ⟨g8,g8,trivial⟩) (fun g8=>bb rfl rfl) (Oc (ct (fun e=>by first | (rw [e]; rfl) | (simp only at e; rw [e]; rfl)) rfl rfl rfl rfl) (Oc oa ?_))))
 refine ae.ai ⟨[(4,B ((x_1 && (!x_2)) || (decide (x0 < y0))))],[]⟩ rfl (ab.ret ?_)
 obtain rfl:=Option.some.inj h
 refine Fin.ag ⟨[(4,_)],[]⟩ rfl (Fin.aA [.one (.bool ((x_1 && (!x_2)) || (decide (x0 < y0))))] (.inl rfl) rfl (.cons (.tmp rfl) .nil) ⟨rfl,rfl⟩)
def ec (F:Nat) (x0:Int):Option Bool :=
 some (decide (x0 ≠ x0))
theorem jj {F:Nat} {x0:Int} {r:Bool} (h:ec F x0 = some r):av Tryz.prog [] 99 [] [.one (.i x0)] (Is [] (.b (.one (.bool r)))):=by
 unfold ec at h
 refine av.intro 6 Tryz.func99 Tryz.ntmps99 rfl (by simp) fun E=>?_
 show ab _ E ⟨6,[],[],[]⟩ _ ⟨[(0,I x0)],[]⟩ _
 refine ab.seq (ab.aa ?_)
 refine Oc oa (ae.ai ⟨[(0,I x0)],[]⟩ rfl (ab.seq (ab.aa ?_)))
 refine Oc om (Oc om (Oc (jY rfl rfl) (Oc oa ?_)))
 refine ae.ai ⟨[(2,B (decide (x0 ≠ x0)))],[]⟩ rfl (ab.ret ?_)
 obtain rfl:=Option.some.inj h
 refine Fin.ag ⟨[(2,_)],[]⟩ rfl (Fin.aA [.one (.bool (decide (x0 ≠ x0)))] (.inl rfl) rfl (.cons (.tmp rfl) .nil) ⟨rfl,rfl⟩)
def c5 (F:Nat) (x0:List Int) (target0:Int):Option (Int × Bool) :=
 Option.bind (iter F (dd fun i_2 j_3=>if (decide (i_2 < j_3)) = true then (fv (IntKind.u64.wrap (IntKind.i64.wrap (i_2 + j_3))) fun x_5=>(a8 x0 (IntKind.i64.wrap (x_5 / 2))).bind fun x_6=>(iR F x_6 target0).bind fun x_7=>if x_7 = true then (fv (IntKind.i64.wrap ((IntKind.i64.wrap (x_5 / 2)) + 1)) fun x_8=>some (.inl (x_8,j_3))) else (some (.inl (i_2,IntKind.i64.wrap (x_5 / 2))))) else (some (.inr i_2))) (0,(x0.length:Int))) (fun i_1=>(bD (decide (i_1 < (x0.length:Int))) (a8 x0 i_1)).bind fun x_9=>(bD ((decide (i_1 < (x0.length:Int))) && !(decide (x_9 = target0))) (a8 x0 i_1)).bind fun x_10=>(bD ((decide (i_1 < (x0.length:Int))) && !(decide (x_9 = target0))) (ec F x_10)).bind fun x_11=>(bD (((decide (i_1 < (x0.length:Int))) && !(decide (x_9 = target0))) && x_11) (ec F target0)).bind fun x_12=>fv ((decide (i_1 < (x0.length:Int))) && ((decide (x_9 = target0)) || (x_11 && x_12))) fun x_13=>some (i_1,x_13))
theorem jx {F:Nat} {x0:List Int} {target0:Int} {r:Int × Bool} (h:c5 F x0 target0 = some r):av Tryz.prog [] 76 [] [.one (.sl 1 (x0.map eI)),.one (.i target0)] (Is [] (.dF [.one (.i r.1),.one (.bool r.2)])):=by
 unfold c5 at h
 refine av.intro 54 Tryz.func76 Tryz.ntmps76 rfl (by simp) fun E=>?_
 show ab _ E ⟨54,[],[],[]⟩ _ ⟨[(0,.b (.one (.sl 1 (x0.map eI)))),(1,I target0)],[]⟩ _
 refine ab.seq (ab.aa ?_)
 refine Oc oa (Oc oa ?_)
 refine ae.ai ⟨[(0,.b (.one (.sl 1 (x0.map eI)))),(1,I target0)],[]⟩ rfl (ab.seq (ab.aa ?_))
 refine Oc om (Oc (aY fR rfl (List.length_map _)) (Oc oa ?_))
 refine ae.ai ⟨[(0,_),(1,_),(6,I (x0.length:Int))],[]⟩ rfl (ab.seq (ab.aa ?_))
 refine Oc om (Oc oa (Oc oa ?_))
 refine ae.ai ⟨[(0,_),(1,_),(6,_),(7,I 0),(8,I (x0.length:Int))],[]⟩ rfl ?_
 obtain ⟨v1,h2,h⟩:=aL h
 refine ab.c6 (v:=v1) (fun (i_1:Int)=>⟨[(0,.b (.one (.sl 1 (x0.map eI)))),(1,I target0),(6,I (x0.length:Int)),(7,I i_1)],[]⟩) (fun z=>z) ?_ ?_
 ·refine ab.block (ab.cN h2 (dd fun (i_2:Int) (j_3:Int)=>⟨[(0,.b (.one (.sl 1 (x0.map eI)))),(1,I target0),(6,I (x0.length:Int)),(7,I i_2),(8,I j_3)],[]⟩) [0,1,6,7,8] [] rfl ?_)
  rintro ⟨i_2,j_3⟩ o3 h4 hy5
  refine ab.seq (ab.seq (ab.aa ?_))
  refine Oc om (Oc om (Oc (bb rfl rfl) ?_))
  refine ae.ai ⟨[(0,_),(1,_),(6,_),(7,_),(8,_),(15,B (decide (i_2 < j_3)))],[]⟩ rfl (ab.ite h4 rfl (fun _ h4=>?_) (fun _ h4=>?_))
  ·refine ab.skip (Fin.ag ⟨[(0,_),(1,_),(6,_),(7,_),(8,_)],[]⟩ rfl (Fin.then (ab.block (ab.seq (ab.aa ?_)))))
   refine Oc om (Oc om (Oc (br rfl rfl) ?_))
   refine ae.rC .u64 h4 rfl (fp rz qS rfl) (fun x_5 h4=>?_)
   refine Oc (ka (m:=1) (by decide) rfl rfl rfl) (Oc (fp qS rz rfl) (Oc oa ?_))
   refine ae.ai ⟨[(0,_),(1,_),(6,_),(7,_),(8,_),(9,I (IntKind.i64.wrap (x_5 / 2)))],[]⟩ rfl (ab.seq (ab.aa ?_))
   refine Oc om (Oc om ?_)
   obtain ⟨x_6,e6,h4⟩:=aL h4
   refine Oc (aN bN (aX e6) (bn (e:=eI) e6) rfl rfl) (Oc (az aM rfl rfl) (Oc om ?_))
   obtain ⟨x_7,e7,h4⟩:=aL h4
   refine Oc (ak (p9 e7) goes98 rfl rfl) (ae.ai ⟨[(0,_),(1,_),(6,_),(7,_),(8,_),(9,_),(27,B x_7)],[]⟩ rfl (ab.ite h4 rfl (fun _ h4=>?_) (fun _ h4=>?_)))
   ·refine ab.aa (Oc om (ae.rC .i64 h4 rfl (br rfl rfl) (fun x_8 h4=>?_)))
    refine Oc oa (ae.nil (Fin.au ?_))
    exact Fin.bO [0,1,6,7,8] [] (x_8,j_3) (Option.some.inj h4) rfl
   ·refine ab.aa (Oc om (Oc oa ?_))
    refine ae.nil (Fin.au ?_)
    exact Fin.bO [0,1,6,7,8] [] (i_2,IntKind.i64.wrap (x_5 / 2)) (Option.some.inj h4) rfl
  ·refine ab.exit (Fin.ax ?_)
   obtain rfl:=hy5 _ (Option.some.inj h4).symm
   refine Fin.ax (Fin.aQ ?_)
   exact Fin.join [0,1,6,7] [] i_2 rfl rfl
 ·rintro i_1 hv
  subst v1
  refine ab.seq (ab.aa ?_)
  refine Oc om (Oc om (Oc om (Oc (bb rfl rfl) (Oc om ?_))))
  refine eZ (decide (i_1 < (x0.length:Int))) [] (fun g8=>trivial) (fun g8=>om) (eZ (decide (i_1 < (x0.length:Int))) [] (fun g9=>by exact trivial) (fun g9=>om) (ae.ag ⟨[(0,_),(1,_),(7,_),(31,I i_1),(35,B (decide (i_1 < (x0.length:Int)))),(36,.opt (decide (i_1 < (x0.length:Int))) (.one (.sl 1 (x0.map eI)))),(37,.opt (decide (i_1 < (x0.length:Int))) (.one (.i i_1)))],[]⟩ rfl ?_))
  obtain ⟨x_9,e11,h⟩:=aL h
  refine eZ (decide (i_1 < (x0.length:Int))) [36,37] (fun g10=>⟨g10,g10,trivial⟩) (fun g10=>aN bN (aX (gc e11 g10)) (bn (e:=eI) (gc e11 g10)) rfl rfl) (eZ (decide (i_1 < (x0.length:Int))) [38] (fun g12=>⟨g12,trivial⟩) (fun g12=>az aM rfl rfl) (eZ (decide (i_1 < (x0.length:Int))) [] (fun g13=>trivial) (fun g13=>om) (eZ (decide (i_1 < (x0.length:Int))) [39,40] (fun g14=>by exact ⟨g14,g14,trivial⟩) (fun g14=>c7 rfl rfl) (eZ (decide (i_1 < (x0.length:Int))) [41] (fun g15=>by exact ⟨g15,trivial⟩) (fun g15=>om) (ae.kY ((decide (i_1 < (x0.length:Int))) && !(decide (x_9 = target0))) 99 [] (.under rfl) (oT _ _) rfl rfl (fun g16=>by exact trivial) (fun g16=>om) ?_)))))
  refine ae.kY ((decide (i_1 < (x0.length:Int))) && !(decide (x_9 = target0))) 99 [] (.under rfl) (oT _ _) rfl rfl (fun g17=>trivial) (fun g17=>om) ?_
  obtain ⟨x_10,e19,h⟩:=aL h
  refine ae.kY ((decide (i_1 < (x0.length:Int))) && !(decide (x_9 = target0))) 99 [43,44] (.under rfl) (oT _ _) rfl rfl (fun g18=>⟨g18,g18,trivial⟩) (fun g18=>aN bN (aX (gc e19 g18)) (bn (e:=eI) (gc e19 g18)) rfl rfl) (ae.ag ⟨[(1,_),(31,_),(35,_),(42,.opt (decide (i_1 < (x0.length:Int))) (.one (.bool (decide (x_9 = target0))))),(45,.opt ((decide (i_1 < (x0.length:Int))) && !(decide (x_9 = target0))) (.aO [.i x_10]))],[]⟩ rfl (ae.kY ((decide (i_1 < (x0.length:Int))) && !(decide (x_9 = target0))) 99 [45] (.under rfl) (oT _ _) rfl rfl (fun g20=>⟨g20,trivial⟩) (fun g20=>az aM rfl rfl) ?_))
  obtain ⟨x_11,e22,h⟩:=aL h
  refine ae.kY ((decide (i_1 < (x0.length:Int))) && !(decide (x_9 = target0))) 99 [46] (.under rfl) (oT _ _) rfl rfl (fun g21=>⟨g21,trivial⟩) (fun g21=>ak (jj (gc e22 g21)) vw rfl rfl) (ae.kY ((decide (i_1 < (x0.length:Int))) && !(decide (x_9 = target0))) 99 [47] (.under rfl) (oT _ _) rfl rfl (fun g23=>⟨g23,trivial⟩) (fun g23=>om) (ae.kY (((decide (i_1 < (x0.length:Int))) && !(decide (x_9 = target0))) && x_11) 99 [] (.under rfl) (and_t _ _) rfl rfl (fun g24=>trivial) (fun g24=>om) (ae.ag ⟨[(31,_),(35,_),(42,_),(48,.opt ((decide (i_1 < (x0.length:Int))) && !(decide (x_9 = target0))) (.one (.bool x_11))),(49,.opt (((decide (i_1 < (x0.length:Int))) && !(decide (x_9 = target0))) && x_11) (.one (.i target0)))],[]⟩ rfl ?_)))
  obtain ⟨x_12,e26,h⟩:=aL h
  refine ae.kY (((decide (i_1 < (x0.length:Int))) && !(decide (x_9 = target0))) && x_11) 99 [49] (.under rfl) (and_t _ _) rfl rfl (fun g25=>⟨g25,trivial⟩) (fun g25=>ak (jj (gc e26 g25)) vw rfl rfl) (ae.kY ((decide (i_1 < (x0.length:Int))) && !(decide (x_9 = target0))) 99 [48] (.under rfl) (oT _ _) rfl rfl (fun g27=>⟨g27,trivial⟩) (fun g27=>aJ (fun e=>by rw [g27,e]; rfl) rfl rfl rfl rfl) (eZ (decide (i_1 < (x0.length:Int))) [42] (fun g28=>⟨g28,trivial⟩) (fun g28=>ct (fun e=>by rw [g28,e]; rfl) rfl rfl rfl rfl) (ae.oS h rfl (aJ (fun e=>e) rfl rfl rfl rfl) (fun x_13 h=>?_))))
  refine Oc oa (Oc oa ?_)
  refine ae.ai ⟨[(4,I i_1),(5,B x_13)],[]⟩ rfl (ab.ret ?_)
  obtain rfl:=Option.some.inj h
  refine Fin.ag ⟨[(4,_),(5,_)],[]⟩ rfl (Fin.aA [.one (.i i_1),.one (.bool x_13)] (.inl rfl) rfl (.cons (.tmp rfl) (.cons (.tmp rfl) .nil)) ⟨rfl,rfl⟩)
def eR (F:Nat) (a0:List Int) (b0:List Int):Option (List Int) :=
 Option.bind (iter F (dd fun out_2 x_3=>if (decide (x_3 < (a0.length:Int))) = true then (Option.bind ((a8 a0 x_3).bind fun x_6=>Option.bind (c5 F b0 x_6) (dd fun x_7 x_8=>if (!x_8) = true then ((dE out_2 [x_6]).bind fun x_9=>some x_9) else (some out_2))) (fun out_5=>some (.inl (out_5,IntKind.i64.wrap (x_3 + 1))))) else (some (.inr out_2))) ([],0)) (fun out_1=>some out_1)
theorem jP (kr0:Nat) {F:Nat} {a0:List Int} {b0:List Int} {r:(List Int)} (h:eR F a0 b0 = some r):av Tryz.prog [] 56 [] [.one (.sl 1 (a0.map eI)),.one (.sl 1 (b0.map eI))] (Is [(kr0,.row 3 1 (r.map eI))] (.b (.row kr0))):=by
 unfold eR at h
 refine av.intro 30 Tryz.func56 Tryz.ntmps56 rfl (by simp) fun E=>?_
 show ab _ E ⟨30,[],[],[]⟩ _ ⟨[(0,.b (.one (.sl 1 (a0.map eI)))),(1,.b (.one (.sl 1 (b0.map eI))))],[]⟩ _
 refine ab.seq (ab.aa ?_)
 refine Oc oa (ae.ai ⟨[(0,.b (.one (.sl 1 (a0.map eI)))),(1,.b (.one (.sl 1 (b0.map eI))))],[]⟩ rfl (ab.seq (ab.aa ?_)))
 refine Oc oa (ae.ai ⟨[(0,_),(1,_),(5,.b (.one (.nil)))],[]⟩ rfl ?_)
 obtain ⟨v1,h2,h⟩:=aL h
 refine ab.c6 (v:=v1) (fun (out_1:List Int)=>⟨[(5,.b (.row 102))],[(102,.row 3 1 (out_1.map eI))]⟩) (fun z=>z) ?_ ?_
 ·refine ab.seq (ab.aa ?_)
  refine Oc om (Oc (aY fR rfl (List.length_map _)) (Oc om ?_))
  refine ae.ai ⟨[(1,_),(5,_),(10,.b (.one (.sl 1 (a0.map eI)))),(11,I (a0.length:Int)),(12,I 0)],[]⟩ rfl (ab.block (ab.dO 5 102 1 3 rfl (by decide) rfl (ab.cN h2 (dd fun (out_2:List Int) (x_3:Int)=>⟨[(1,.b (.one (.sl 1 (b0.map eI)))),(5,.b (.row 102)),(10,.b (.one (.sl 1 (a0.map eI)))),(11,I (a0.length:Int)),(12,I x_3)],[(102,.row 3 1 (out_2.map eI))]⟩) [1,5,10,11,12] [102] rfl ?_)))
  rintro ⟨out_2,x_3⟩ o3 h4 hy5
  refine ab.seq (ab.aa ?_)
  refine Oc (bb rfl rfl) (ae.ai ⟨[(1,_),(5,_),(10,_),(11,_),(12,_),(13,B (decide (x_3 < (a0.length:Int))))],[(102,_)]⟩ rfl (ab.seq (ab.ite h4 rfl (fun _ h4=>?_) (fun _ h4=>?_))))
  ·refine ab.skip (Fin.ag ⟨[(1,_),(5,_),(10,_),(11,_),(12,_)],[(102,_)]⟩ rfl (Fin.then ?_))
   obtain ⟨v6,h7,h4⟩:=aL h4
   refine ab.c6 (v:=v6) (fun (out_5:List Int)=>⟨[(1,.b (.one (.sl 1 (b0.map eI)))),(5,.b (.row 102)),(10,.b (.one (.sl 1 (a0.map eI)))),(11,I (a0.length:Int)),(12,I x_3)],[(102,.row 3 1 (out_5.map eI))]⟩) (fun z=>z) ?_ ?_
   ·refine ab.block (ab.seq (ab.aa ?_))
    obtain ⟨x_6,e8,h7⟩:=aL h7
    refine Oc (aN bN (aX e8) (bn (e:=eI) e8) rfl rfl) (Oc (az aM rfl rfl) (Oc oa ?_))
    refine ae.ai ⟨[(1,_),(5,_),(7,I x_6),(10,_),(11,_),(12,_)],[(102,_)]⟩ rfl (ab.seq (ab.aa ?_))
    refine Oc om (Oc om ?_)
    obtain ⟨⟨x_7,x_8⟩,e9,h7⟩:=aL h7
    refine Oc (ak (jx e9) goes76 rfl rfl) (Oc om (Oc (an rfl rfl) ?_))
    refine ae.ag ⟨[(1,_),(5,_),(7,_),(10,_),(11,_),(12,_),(16,.dF [.one (.i x_7),.one (.bool x_8)]),(20,I x_7)],[(102,_)]⟩ rfl (Oc (an rfl rfl) (Oc oa (Oc oa ?_)))
    refine ae.ai ⟨[(1,_),(5,_),(7,_),(9,B x_8),(10,_),(11,_),(12,_)],[(102,_)]⟩ rfl (ab.seq (ab.aa ?_))
    refine Oc om (Oc (di rfl) ?_)
    refine ae.ai ⟨[(1,_),(5,_),(7,_),(10,_),(11,_),(12,_),(23,B (!x_8))],[(102,_)]⟩ rfl (ab.ite h7 rfl (fun _ h7=>?_) (fun _ h7=>?_))
    ·refine ab.aa (Oc om (Oc om (Oc (bt (k:=103) (es:=[x_6].map eI) bN rfl rfl (bP fun _=>rfl) rfl (by decide) (by decide) rfl) ?_)))
     obtain ⟨x_9,e10,h7⟩:=aL h7
     refine Oc (cW bN (gh e10) (gg e10) rfl rfl rfl rfl (du e10) rfl) (Oc oa ?_)
     refine ae.nil (Fin.au ?_)
     exact Fin.join [1,5,10,11,12] [102] x_9 (Option.some.inj h7) rfl
    ·refine ab.skip (Fin.au ?_)
     exact Fin.join [1,5,10,11,12] [102] out_2 (Option.some.inj h7) rfl
   ·rintro out_5 hv
    subst v6
    refine ab.aa (Oc (br rfl rfl) (Oc om ?_))
    refine ae.nil ?_
    exact Fin.bO [1,5,10,11,12] [102] (out_5,IntKind.i64.wrap (x_3 + 1)) (Option.some.inj h4) rfl
  ·refine ab.exit (Fin.ax ?_)
   obtain rfl:=hy5 _ (Option.some.inj h4).symm
   refine Fin.ax (Fin.aQ ?_)
   exact Fin.join [5] [102] out_2 rfl rfl
 ·rintro out_1 hv
  subst v1
  refine ab.seq (ab.aa ?_)
  refine Oc om (Oc oa ?_)
  refine ae.ai ⟨[(4,.b (.row 102))],[(102,_)]⟩ rfl (ab.ret ?_)
  obtain rfl:=Option.some.inj h
  refine Fin.ag ⟨[(4,_)],[(102,_)]⟩ rfl (Fin.ez 102 kr0 [.row 102] (.inl rfl) rfl (.cons (.tmp rfl) .nil) rfl rfl rfl rfl ⟨rfl,rfl⟩)
end Go.Proofs.YtagpkeehkcopaaaGreat

