/- printed walks -/
import Derived.Test.YtagpkeehkcopaaaGreatT1
namespace Go.Proofs.YtagpkeehkcopaaaGreat
open Go.Sk Go
set_option maxHeartbeats 4000000
set_option maxRecDepth 4000
set_option linter.unusedSimpArgs false
set_option linter.unusedVariables false
theorem tc:Tryz.prog.underlying 88 = some (.int .u64):=Tryz.underlying88
theorem undi5:Tryz.prog.underlying 5 = some (.int .u8):=Tryz.underlying5
theorem und9:Tryz.prog.underlying 9 = some .string:=Tryz.underlying9
theorem pF:Tryz.prog.underlying 3 = some (.int .i64):=Tryz.underlying3
theorem goes95:br Tryz.prog 95:=⟨Tryz.call95⟩
theorem goes114:br Tryz.prog 114:=⟨Tryz.call114⟩
theorem fa:Tryz.prog.underlying 51 = some (.slice 3):=Tryz.underlying51
theorem o1:Tryz.prog.underlying 112 = some (.int .u64):=Tryz.underlying112
theorem goes69:br Tryz.prog 69:=⟨Tryz.call69⟩
theorem goes97:br Tryz.prog 97:=⟨Tryz.call97⟩
theorem dI:cQ Tryz.prog 87 0 0 3:=⟨⟨_,_,Tryz.t3,Tryz.underlying87,rfl,rfl,rfl,by kernel_rfl,by decide⟩⟩
theorem aQ:cE Tryz.prog 3:=⟨⟨_,Tryz.underlying3,rfl⟩,⟨Tryz.t3,by kernel_rfl,by kernel_rfl⟩⟩
theorem goes48:br Tryz.prog 48:=⟨Tryz.call48⟩
theorem fi:jD Tryz.prog 25 ((cJ .i64) A3.zero ++ ((cJ .i64) A3.zero)):=⟨⟨Tryz.t25,_,by kernel_rfl,rfl,rfl⟩⟩
theorem gv:cQ Tryz.prog 87 1 1 25:=⟨⟨_,_,Tryz.t25,Tryz.underlying87,rfl,rfl,rfl,by kernel_rfl,by decide⟩⟩
theorem aE:eO Tryz.prog 25 6:=⟨⟨_,Tryz.underlying25,rfl⟩,⟨Tryz.t25,by kernel_rfl,by kernel_rfl⟩⟩
theorem goes49:br Tryz.prog 49:=⟨Tryz.call49⟩
theorem oW:br Tryz.prog 70:=⟨Tryz.call70⟩
theorem qV:br Tryz.prog 44:=⟨Tryz.call44⟩
theorem cf:kN Tryz.prog 51 3 1 8 [.i 0]:=⟨Tryz.underlying51,⟨Tryz.t3,_,by kernel_rfl,rfl,rfl,rfl,rfl,by decide,rfl⟩⟩
theorem cz:cQ Tryz.prog 25 0 0 23:=⟨⟨_,_,Tryz.t23,Tryz.underlying25,rfl,rfl,rfl,by kernel_rfl,by decide⟩⟩
theorem bI:rI Tryz.prog 23 3 3 1:=⟨Tryz.underlying23,⟨Tryz.t3,by kernel_rfl,by kernel_rfl⟩⟩
theorem goes53:br Tryz.prog 53:=⟨Tryz.call53⟩
theorem goes52:br Tryz.prog 52:=⟨Tryz.call52⟩
theorem mixed:Tryz.prog.follows .mixedOrders = true:=by kernel_rfl
theorem goes50:br Tryz.prog 50:=⟨Tryz.call50⟩
theorem goes51:br Tryz.prog 51:=⟨Tryz.call51⟩
theorem cy:cQ Tryz.prog 25 1 3 23:=⟨⟨_,_,Tryz.t23,Tryz.underlying25,rfl,rfl,rfl,by kernel_rfl,by decide⟩⟩
theorem l3:br Tryz.prog 14:=⟨Tryz.call14⟩
theorem goes41:br Tryz.prog 41:=⟨Tryz.call41⟩
theorem kQ:Tryz.prog.underlying 42 = some (.pointer (Tryz.prog.pointee 42)):=(by rw [show Tryz.prog.pointee 42 = 117 from by unfold Go.Program.pointee; rw [Tryz.underlying42]]; exact Tryz.underlying42)
theorem goes123:br Tryz.prog 123:=⟨Tryz.call123⟩
theorem l8:j9 Tryz.prog 25 [(0,3),(3,3)] ((cJ .i64) A3.zero ++ ((cJ .i64) A3.zero)):=⟨⟨Tryz.t25,_,_,by kernel_rfl,rfl,rfl,Tryz.underlying25,by kernel_rfl⟩⟩
theorem oy:nG Tryz.prog 23 1 ((cJ .i64) A3.zero):=⟨⟨Tryz.t23,_,_,_,Tryz.t3,by kernel_rfl,rfl,rfl,Tryz.underlying23,by kernel_rfl,by kernel_rfl⟩⟩
theorem pG:Tryz.prog.underlying 34 = some (.slice 25):=Tryz.underlying34
theorem gC:kN Tryz.prog 34 25 6 48 ((cJ .i64) A3.zero ++ ((cJ .i64) A3.zero)):=⟨Tryz.underlying34,⟨Tryz.t25,_,by kernel_rfl,rfl,rfl,rfl,rfl,by decide,rfl⟩⟩
theorem goes67:br Tryz.prog 67:=⟨Tryz.call67⟩
theorem jX:cE Tryz.prog 34:=⟨⟨_,Tryz.underlying34,rfl⟩,⟨Tryz.t34,by kernel_rfl,by kernel_rfl⟩⟩
theorem tv:br Tryz.prog 46:=⟨Tryz.call46⟩
theorem goes71:br Tryz.prog 71:=⟨Tryz.call71⟩
theorem goes72:br Tryz.prog 72:=⟨Tryz.call72⟩
theorem goes40:br Tryz.prog 40:=⟨Tryz.call40⟩
theorem goes42:br Tryz.prog 42:=⟨Tryz.call42⟩
theorem tyZero3:jD Tryz.prog 3 [.i 0]:=⟨⟨Tryz.t3,_,by kernel_rfl,rfl,rfl⟩⟩
theorem goes45:br Tryz.prog 45:=⟨Tryz.call45⟩
theorem lZ:br Tryz.prog 16:=⟨Tryz.call16⟩
theorem ed:nG Tryz.prog 40 1 ((dw .i64) A2.zero):=⟨⟨Tryz.t40,_,_,_,Tryz.t3,by kernel_rfl,rfl,rfl,Tryz.underlying40,by kernel_rfl,by kernel_rfl⟩⟩
theorem gB:kN Tryz.prog 35 40 2 16 ((dw .i64) A2.zero):=⟨Tryz.underlying35,⟨Tryz.t40,_,by kernel_rfl,rfl,rfl,rfl,rfl,by decide,rfl⟩⟩
theorem goes47:br Tryz.prog 47:=⟨Tryz.call47⟩
theorem ni:Tryz.prog.underlying 35 = some (.slice 40):=Tryz.underlying35
theorem ly:eO Tryz.prog 40 2:=⟨⟨_,Tryz.underlying40,rfl⟩,⟨Tryz.t40,by kernel_rfl,by kernel_rfl⟩⟩
theorem uj (x y:A2) {d:Nat}:cM Tryz.prog (d + 2) 40 2 ((dw .i64) x) ((dw .i64) y) (decide (x = y)) :=
 (cM.arr (l:=x.l) (l':=y.l) ly Tryz.underlying40 aQ Tryz.underlying3).cast (by rw [Bool.eq_iff_iff]; simp [A2.sY])
theorem r5 (x y:A2):kB Tryz.prog 40 ((dw .i64) x) ((dw .i64) y) (decide (x = y)):=kB.ti (by kernel_rfl) ly (uj x y (d:=9998)) rfl rfl
theorem fh:jD Tryz.prog 49 [.tr ae (.leaf),.cR 0,.cR 0,.cR 0,.tr ae (.leaf),.cR 0,.cR 0,.cR 0]:=⟨⟨Tryz.t49,_,by kernel_rfl,rfl,rfl⟩⟩
theorem ox:j9 Tryz.prog 47 [(0,1),(1,1),(2,1),(3,1)] [.tr ae (.leaf),.cR 0,.cR 0,.cR 0]:=⟨⟨Tryz.t47,_,_,by kernel_rfl,rfl,rfl,Tryz.underlying47,by kernel_rfl⟩⟩
theorem eP:j9 Tryz.prog 49 [(0,4),(4,4)] [.tr ae (.leaf),.cR 0,.cR 0,.cR 0,.tr ae (.leaf),.cR 0,.cR 0,.cR 0]:=⟨⟨Tryz.t49,_,_,by kernel_rfl,rfl,rfl,Tryz.underlying49,by kernel_rfl⟩⟩
theorem aT:eO Tryz.prog 49 8:=⟨⟨_,Tryz.underlying49,rfl⟩,⟨Tryz.t49,by kernel_rfl,by kernel_rfl⟩⟩
theorem gE:jD Tryz.prog 87 (.i 0 :: ((cJ .i64) A3.zero ++ ((cJ .i64) A3.zero))):=⟨⟨Tryz.t87,_,by kernel_rfl,rfl,rfl⟩⟩
theorem ka:cQ Tryz.prog 49 0 0 47:=⟨⟨_,_,Tryz.t47,Tryz.underlying49,rfl,rfl,rfl,by kernel_rfl,by decide⟩⟩
theorem fw:cQ Tryz.prog 47 0 0 42:=⟨⟨_,_,Tryz.t42,Tryz.underlying47,rfl,rfl,rfl,by kernel_rfl,by decide⟩⟩
theorem bp:cE Tryz.prog 42:=⟨⟨_,Tryz.underlying42,rfl⟩,⟨Tryz.t42,by kernel_rfl,by kernel_rfl⟩⟩
theorem dU:cQ Tryz.prog 117 0 0 87:=⟨⟨_,_,Tryz.t87,Tryz.underlying117,rfl,rfl,rfl,by kernel_rfl,by decide⟩⟩
theorem bq:eO Tryz.prog 87 7:=⟨⟨_,Tryz.underlying87,rfl⟩,⟨Tryz.t87,by kernel_rfl,by kernel_rfl⟩⟩
theorem dB:cQ Tryz.prog 117 3 14 42:=⟨⟨_,_,Tryz.t42,Tryz.underlying117,rfl,rfl,rfl,by kernel_rfl,by decide⟩⟩
theorem dA:cQ Tryz.prog 117 4 15 42:=⟨⟨_,_,Tryz.t42,Tryz.underlying117,rfl,rfl,rfl,by kernel_rfl,by decide⟩⟩
theorem ov:j9 Tryz.prog 87 [(0,1),(1,6)] (.i 0 :: ((cJ .i64) A3.zero ++ ((cJ .i64) A3.zero))):=⟨⟨Tryz.t87,_,_,by kernel_rfl,rfl,rfl,Tryz.underlying87,by kernel_rfl⟩⟩
theorem qL:Tryz.prog.underlying 144 = some (.slice 42):=Tryz.underlying144
theorem iM:kN Tryz.prog 144 42 1 8 [.tr ae (.leaf)]:=⟨Tryz.underlying144,⟨Tryz.t42,_,by kernel_rfl,rfl,rfl,rfl,rfl,by decide,rfl⟩⟩
theorem goes131:br Tryz.prog 131:=⟨Tryz.call131⟩
theorem goes122:br Tryz.prog 122:=⟨Tryz.call122⟩
theorem kW:cQ Tryz.prog 117 1 7 88:=⟨⟨_,_,Tryz.t88,Tryz.underlying117,rfl,rfl,rfl,by kernel_rfl,by decide⟩⟩
theorem o2:cE Tryz.prog 88:=⟨⟨_,Tryz.underlying88,rfl⟩,⟨Tryz.t88,by kernel_rfl,by kernel_rfl⟩⟩
theorem sj:cQ Tryz.prog 47 3 3 45:=⟨⟨_,_,Tryz.t45,Tryz.underlying47,rfl,rfl,rfl,by kernel_rfl,by decide⟩⟩
theorem tyOne45:cE Tryz.prog 45:=⟨⟨_,Tryz.underlying45,rfl⟩,⟨Tryz.t45,by kernel_rfl,by kernel_rfl⟩⟩
theorem nI:j9 Tryz.prog 117 [(0,7),(7,1),(8,6),(14,1),(15,1)] (.i 0 :: ((cJ .i64) A3.zero ++ ((cJ .i64) A3.zero ++ (.int .u64 0 :: ((cJ .i64) A3.zero ++ ((cJ .i64) A3.zero ++ ([.tr ae (.leaf),.tr ae (.leaf)]))))))):=⟨⟨Tryz.t117,_,_,by kernel_rfl,rfl,rfl,Tryz.underlying117,by kernel_rfl⟩⟩
theorem goes100:br Tryz.prog 100:=⟨Tryz.call100⟩
theorem iS:cQ Tryz.prog 117 2 8 25:=⟨⟨_,_,Tryz.t25,Tryz.underlying117,rfl,rfl,rfl,by kernel_rfl,by decide⟩⟩
theorem tC:br Tryz.prog 18:=⟨Tryz.call18⟩
theorem ou:cQ Tryz.prog 47 1 1 43:=⟨⟨_,_,Tryz.t43,Tryz.underlying47,rfl,rfl,rfl,by kernel_rfl,by decide⟩⟩
theorem rQ:cE Tryz.prog 43:=⟨⟨_,Tryz.underlying43,rfl⟩,⟨Tryz.t43,by kernel_rfl,by kernel_rfl⟩⟩
theorem bw:eO Tryz.prog 47 4:=⟨⟨_,Tryz.underlying47,rfl⟩,⟨Tryz.t47,by kernel_rfl,by kernel_rfl⟩⟩
theorem qT:br Tryz.prog 79:=⟨Tryz.call79⟩
theorem kS:br Tryz.prog 80:=⟨Tryz.call80⟩
theorem ns:br Tryz.prog 82:=⟨Tryz.call82⟩
theorem pQ:jD Tryz.prog 47 [.tr ae (.leaf),.cR 0,.cR 0,.cR 0]:=⟨⟨Tryz.t47,_,by kernel_rfl,rfl,rfl⟩⟩
theorem sm:cQ Tryz.prog 47 2 2 44:=⟨⟨_,_,Tryz.t44,Tryz.underlying47,rfl,rfl,rfl,by kernel_rfl,by decide⟩⟩
theorem tyOne44:cE Tryz.prog 44:=⟨⟨_,Tryz.underlying44,rfl⟩,⟨Tryz.t44,by kernel_rfl,by kernel_rfl⟩⟩
theorem goes81:br Tryz.prog 81:=⟨Tryz.call81⟩
theorem qU:br Tryz.prog 54:=⟨Tryz.call54⟩
theorem tq:br Tryz.prog 59:=⟨Tryz.call59⟩
theorem l7:cQ Tryz.prog 49 1 4 47:=⟨⟨_,_,Tryz.t47,Tryz.underlying49,rfl,rfl,rfl,by kernel_rfl,by decide⟩⟩
theorem tO:jD Tryz.prog 51 [.nil]:=⟨⟨Tryz.t51,_,by kernel_rfl,rfl,rfl⟩⟩
theorem tt:br Tryz.prog 57:=⟨Tryz.call57⟩
theorem mX:cE Tryz.prog 51:=⟨⟨_,Tryz.underlying51,rfl⟩,⟨Tryz.t51,by kernel_rfl,by kernel_rfl⟩⟩
theorem tn:br Tryz.prog 77:=⟨Tryz.call77⟩
theorem goes75:br Tryz.prog 75:=⟨Tryz.call75⟩
theorem oX:br Tryz.prog 55:=⟨Tryz.call55⟩
theorem qS:br Tryz.prog 83:=⟨Tryz.call83⟩
theorem tp:br Tryz.prog 60:=⟨Tryz.call60⟩
theorem goes98:br Tryz.prog 98:=⟨Tryz.call98⟩
theorem tm:br Tryz.prog 99:=⟨Tryz.call99⟩
theorem goes76:br Tryz.prog 76:=⟨Tryz.call76⟩
theorem tz:br Tryz.prog 30:=⟨Tryz.call30⟩
theorem nu:br Tryz.prog 29:=⟨Tryz.call29⟩
theorem tu:br Tryz.prog 56:=⟨Tryz.call56⟩
theorem tP:jD Tryz.prog 35 [.nil]:=⟨⟨Tryz.t35,_,by kernel_rfl,rfl,rfl⟩⟩
theorem o7:cE Tryz.prog 35:=⟨⟨_,Tryz.underlying35,rfl⟩,⟨Tryz.t35,by kernel_rfl,by kernel_rfl⟩⟩
theorem nt:br Tryz.prog 39:=⟨Tryz.call39⟩
theorem tyAgg23:eO Tryz.prog 23 3:=⟨⟨_,Tryz.underlying23,rfl⟩,⟨Tryz.t23,by kernel_rfl,by kernel_rfl⟩⟩
theorem qg (x y:A3) {d:Nat}:cM Tryz.prog (d + 2) 23 3 ((cJ .i64) x) ((cJ .i64) y) (decide (x = y)) :=
 (cM.arr (l:=x.l) (l':=y.l) tyAgg23 Tryz.underlying23 aQ Tryz.underlying3).cast (by rw [Bool.eq_iff_iff]; simp [A3.sY])
theorem uk (x y:bQ) {d:Nat}:cM Tryz.prog (d + 3) 25 6 (ak x) (ak y) (decide (x = y)) :=
 (cM.struct (d:=d + 2) (rs:=[decide (x.Lo = y.Lo),decide (x.Hi = y.Hi)]) aE Tryz.stoodInHeld25 Tryz.underlying25 (⟨by decide,⟨_,((cJ .i64) x.Lo),((cJ .i64) y.Lo),rfl,rfl,rfl,rfl,qg _ _⟩,⟨by decide,⟨_,((cJ .i64) x.Hi),((cJ .i64) y.Hi),rfl,rfl,rfl,rfl,qg _ _⟩,trivial⟩⟩) rfl).cast
  (by cases x; cases y; rw [Bool.eq_iff_iff]; simp [bQ.mk.injEq])
theorem r6 (x y:bQ):kB Tryz.prog 25 (ak x) (ak y) (decide (x = y)):=kB.ti (by kernel_rfl) aE (uk x y (d:=9997)) rfl rfl
theorem tD:br Tryz.prog 11:=⟨Tryz.call11⟩
theorem qX:br Tryz.prog 20:=⟨Tryz.call20⟩
theorem qW:br Tryz.prog 22:=⟨Tryz.call22⟩
theorem tB:br Tryz.prog 23:=⟨Tryz.call23⟩
theorem tx:br Tryz.prog 31:=⟨Tryz.call31⟩
theorem goes25:br Tryz.prog 25:=⟨Tryz.call25⟩
theorem tw:br Tryz.prog 32:=⟨Tryz.call32⟩
theorem tA:br Tryz.prog 26:=⟨Tryz.call26⟩
theorem und4:Tryz.prog.underlying 4 = some .bool:=Tryz.underlying4
theorem qY:br Tryz.prog 15:=⟨Tryz.call15⟩
def ja (F:Nat) (x0:Int):Option Int :=
 Option.bind (if (decide (4294967296 ≤ x0)) = true then (some (x0 / 4294967296,32)) else (some (x0,0))) (dQ fun x_1 n_2=>Option.bind (if (decide (65536 ≤ x_1)) = true then (some (x_1 / 65536,IntKind.i64.wrap (n_2 + 16))) else (some (x_1,n_2))) (dQ fun x_3 n_4=>Option.bind (if (decide (256 ≤ x_3)) = true then (some (x_3 / 256,IntKind.i64.wrap (n_4 + 8))) else (some (x_3,n_4))) (dQ fun x_5 n_6=>(aX ([0,1,2,2,3,3,3,3,4,4,4,4,4,4,4,4,5,5,5,5,5,5,5,5,5,5,5,5,5,5,5,5,6,6,6,6,6,6,6,6,6,6,6,6,6,6,6,6,6,6,6,6,6,6,6,6,6,6,6,6,6,6,6,6,7,7,7,7,7,7,7,7,7,7,7,7,7,7,7,7,7,7,7,7,7,7,7,7,7,7,7,7,7,7,7,7,7,7,7,7,7,7,7,7,7,7,7,7,7,7,7,7,7,7,7,7,7,7,7,7,7,7,7,7,7,7,7,7,8,8,8,8,8,8,8,8,8,8,8,8,8,8,8,8,8,8,8,8,8,8,8,8,8,8,8,8,8,8,8,8,8,8,8,8,8,8,8,8,8,8,8,8,8,8,8,8,8,8,8,8,8,8,8,8,8,8,8,8,8,8,8,8,8,8,8,8,8,8,8,8,8,8,8,8,8,8,8,8,8,8,8,8,8,8,8,8,8,8,8,8,8,8,8,8,8,8,8,8,8,8,8,8,8,8,8,8,8,8,8,8,8,8,8,8,8,8,8,8,8,8,8,8,8,8,8,8]:Str) (IntKind.u8.wrap x_5)).bind fun x_7=>eC (IntKind.i64.wrap (n_6 + (IntKind.i64.wrap (x_7.toNat:Int)))) fun x_8=>some x_8)))
theorem mV {F:Nat} {x0:Int} {r:Int} (h:ja F x0 = some r):ao Tryz.prog [] 95 [] [.one (.int .u64 x0)] (Is [] (.b (.one (.i r)))):=by
 unfold ja at h
 refine ao.intro 25 Tryz.func95 Tryz.ntmps95 rfl (by simp) fun E=>?_
 show ab _ E ⟨25,[],[],[]⟩ _ ⟨[(0,.b (.one (.int .u64 x0)))],[]⟩ _
 refine ab.seq (ab.aa ?_)
 refine Oc oa (af.ai ⟨[(0,.b (.one (.int .u64 x0))),(2,I 0)],[]⟩ rfl ?_)
 obtain ⟨v1,h2,h⟩:=aO h
 refine ab.eb (v:=v1) (dQ fun (x_1:Int) (n_2:Int)=>⟨[(0,.b (.one (.int .u64 x_1))),(2,I n_2)],[]⟩) (fun z=>z) ?_ ?_
 ·refine ab.seq (ab.aa ?_)
  refine Oc om (Oc (nm rfl rfl) ?_)
  refine af.ai ⟨[(0,_),(2,_),(4,B (decide (4294967296 ≤ x0)))],[]⟩ rfl (ab.ite h2 rfl (fun _ h2=>?_) (fun _ h2=>?_))
  ·refine ab.seq (ab.aa ?_)
   refine Oc om (Oc (iN (m:=32) (by decide) rfl rfl rfl) (Oc oa ?_))
   refine af.ai ⟨[(0,.b (.one (.int .u64 (x0 / 4294967296))))],[]⟩ rfl (ab.aa (Oc oa (af.nil ?_)))
   exact Fin.join [0,2] [] (x0 / 4294967296,32) (Option.some.inj h2) rfl
  ·refine ab.skip ?_
   exact Fin.join [0,2] [] (x0,0) (Option.some.inj h2) rfl
 ·rintro ⟨x_1,n_2⟩ hv
  subst v1
  obtain ⟨v3,h4,h⟩:=aO h
  refine ab.eb (v:=v3) (dQ fun (x_3:Int) (n_4:Int)=>⟨[(0,.b (.one (.int .u64 x_3))),(2,I n_4)],[]⟩) (fun z=>z) ?_ ?_
  ·refine ab.seq (ab.aa ?_)
   refine Oc om (Oc (nm rfl rfl) ?_)
   refine af.ai ⟨[(0,_),(2,_),(8,B (decide (65536 ≤ x_1)))],[]⟩ rfl (ab.ite h4 rfl (fun _ h4=>?_) (fun _ h4=>?_))
   ·refine ab.seq (ab.aa ?_)
    refine Oc om (Oc (iN (m:=16) (by decide) rfl rfl rfl) (Oc oa ?_))
    refine af.ai ⟨[(0,.b (.one (.int .u64 (x_1 / 65536)))),(2,_)],[]⟩ rfl (ab.aa (Oc om (Oc (bD rfl rfl) (Oc oa ?_))))
    refine af.nil ?_
    exact Fin.join [0,2] [] (x_1 / 65536,IntKind.i64.wrap (n_2 + 16)) (Option.some.inj h4) rfl
   ·refine ab.skip ?_
    exact Fin.join [0,2] [] (x_1,n_2) (Option.some.inj h4) rfl
  ·rintro ⟨x_3,n_4⟩ hv
   subst v3
   obtain ⟨v5,h6,h⟩:=aO h
   refine ab.eb (v:=v5) (dQ fun (x_5:Int) (n_6:Int)=>⟨[(0,.b (.one (.int .u64 x_5))),(2,I n_6)],[]⟩) (fun z=>z) ?_ ?_
   ·refine ab.seq (ab.aa ?_)
    refine Oc om (Oc (nm rfl rfl) ?_)
    refine af.ai ⟨[(0,_),(2,_),(14,B (decide (256 ≤ x_3)))],[]⟩ rfl (ab.ite h6 rfl (fun _ h6=>?_) (fun _ h6=>?_))
    ·refine ab.seq (ab.aa ?_)
     refine Oc om (Oc (iN (m:=8) (by decide) rfl rfl rfl) (Oc oa ?_))
     refine af.ai ⟨[(0,.b (.one (.int .u64 (x_3 / 256)))),(2,_)],[]⟩ rfl (ab.aa (Oc om (Oc (bD rfl rfl) (Oc oa ?_))))
     refine af.nil ?_
     exact Fin.join [0,2] [] (x_3 / 256,IntKind.i64.wrap (n_4 + 8)) (Option.some.inj h6) rfl
    ·refine ab.skip ?_
     exact Fin.join [0,2] [] (x_3,n_4) (Option.some.inj h6) rfl
   ·rintro ⟨x_5,n_6⟩ hv
    subst v5
    refine ab.seq (ab.aa ?_)
    refine Oc om (Oc om (Oc (ef tc undi5 rfl) ?_))
    obtain ⟨x_7,e7,h⟩:=aO h
    refine Oc (pr und9 rfl rfl (a7 e7) (oU e7)) (Oc (ef undi5 pF rfl) ?_)
    refine af.pJ .i64 h rfl (bD rfl rfl) (fun x_8 h=>?_)
    refine Oc oa (af.ai ⟨[(2,I x_8)],[]⟩ rfl (ab.ret ?_))
    obtain rfl:=Option.some.inj h
    refine Fin.ag ⟨[(2,_)],[]⟩ rfl (Fin.av [.one (.i x_8)] (.inl rfl) rfl (.cons (.tmp rfl) .nil) ⟨rfl,rfl⟩)
def k7 (F:Nat) (x0:Int):Option Int :=
 (ja F x0).bind fun x_1=>some x_1
theorem oh {F:Nat} {x0:Int} {r:Int} (h:k7 F x0 = some r):ao Tryz.prog [] 69 [] [.one (.int .u64 x0)] (Is [] (.b (.one (.i r)))):=by
 unfold k7 at h
 refine ao.intro 8 Tryz.func69 Tryz.ntmps69 rfl (by simp) fun E=>?_
 show ab _ E ⟨8,[],[],[]⟩ _ ⟨[(0,.b (.one (.int .u64 x0)))],[]⟩ _
 refine ab.seq (ab.aa ?_)
 refine Oc oa (af.ai ⟨[(0,.b (.one (.int .u64 x0)))],[]⟩ rfl (ab.seq (ab.condFc (ab.skip (Fin.ag ⟨[(0,_)],[]⟩ rfl ?_)))))
 refine Fin.then (ab.seq (ab.aa ?_))
 refine Oc om ?_
 obtain ⟨x_1,e1,h⟩:=aO h
 refine Oc (aj (mV e1) goes95 rfl rfl) (Oc oa ?_)
 refine af.ai ⟨[(2,I x_1)],[]⟩ rfl (ab.ret ?_)
 obtain rfl:=Option.some.inj h
 refine Fin.ag ⟨[(2,_)],[]⟩ rfl (Fin.av [.one (.i x_1)] (.inl rfl) rfl (.cons (.tmp rfl) .nil) ⟨rfl,rfl⟩)
def dE (F:Nat):Option Unit :=
 Option.bind (iter F (fun _=>some (.inr ())) ()) (fun _=>some ())
theorem gS {F:Nat} {r:Unit} (h:dE F = some r):ao Tryz.prog [] 114 [] [.one (.nil),.one (.i 0),.one (.i 0)] (Is [] (.ew [])):=by
 unfold dE at h
 refine ao.intro 49 Tryz.func114 Tryz.ntmps114 rfl (by simp) fun E=>?_
 show ab _ E ⟨49,[],[],[]⟩ _ ⟨[(0,.b (.one (.nil))),(1,I 0),(2,I 0)],[]⟩ _
 refine ab.seq (ab.aa ?_)
 refine Oc om (Oc (bD rfl rfl) (Oc oa ?_))
 refine af.ai ⟨[(0,.b (.one (.nil))),(1,I 0),(2,I 0),(6,I 1)],[]⟩ rfl (ab.block ?_)
 obtain ⟨v1,h2,h⟩:=aO h
 refine ab.de h2 (fun (_:Unit)=>⟨[(0,.b (.one (.nil))),(1,I 0),(2,I 0),(6,I 1)],[]⟩) [0,1,2,6] [] rfl ?_
 rintro _ o3 h4 hy5
 refine ab.seq (ab.seq (ab.aa ?_))
 refine Oc om (Oc om (Oc (bu rfl rfl) ?_))
 refine af.ai ⟨[(0,_),(1,_),(2,_),(6,_),(12,B false)],[]⟩ rfl (ab.condF rfl (ab.exit (Fin.aC ?_)))
 obtain rfl:=hy5 _ (Option.some.inj h4).symm
 refine Fin.aC (Fin.aZ ?_)
 obtain rfl:=Option.some.inj h
 refine Fin.ag ⟨[],[]⟩ rfl (Fin.av [] (.inr rfl) rfl (.nil) ⟨rfl,rfl⟩)
def c4 (F:Nat):Nat → Int → Option Unit
 | 0,_=>none
 | n + 1,limit0=>Option.bind (iter F (fun _=>(dE F).bind fun u_1=>some (.inr ())) ()) (fun y=>some y)
def fU (F:Nat) (limit0:Int):Option Unit:=c4 F F limit0
theorem ik {F:Nat}:∀ (n:Nat) {limit0:Int} {r:Unit} (h:c4 F n limit0 = some r),ao Tryz.prog [] 97 [] [.one (.nil),.one (.i 0),.one (.i 0),.one (.i limit0)] (Is [] (.ew [])):=by
 intro n
 induction n with
 | zero=>intro limit0 r h; simp [c4] at h
 | succ n ih=>
 intro limit0 r h
 unfold c4 at h
 refine ao.intro 134 Tryz.func97 Tryz.ntmps97 rfl (by simp) fun E=>?_
 show ab _ E ⟨134,[],[],[]⟩ _ ⟨[(0,.b (.one (.nil))),(1,I 0),(2,I 0),(3,I limit0)],[]⟩ _
 refine ab.seq (ab.aa ?_)
 refine Oc oa (af.ai ⟨[(0,.b (.one (.nil))),(1,I 0),(2,I 0),(3,I limit0),(8,B true)],[]⟩ rfl (ab.seq (ab.aa ?_)))
 refine Oc oa (af.ai ⟨[(0,_),(1,_),(2,_),(3,_),(8,_),(9,B true)],[]⟩ rfl (ab.block ?_))
 obtain ⟨v1,h2,h⟩:=aO h
 refine ab.de h2 (fun (_:Unit)=>⟨[(0,.b (.one (.nil))),(1,I 0),(2,I 0),(3,I limit0),(8,B true),(9,B true)],[]⟩) [0,1,2,3,8,9] [] rfl ?_
 rintro _ o3 h4 hy5
 refine ab.block (ab.seq (ab.aa ?_))
 refine Oc om (Oc om (Oc (tg rfl rfl) (Oc oa ?_)))
 refine af.ai ⟨[(0,_),(1,_),(2,_),(3,_),(8,_),(9,_),(10,I 0)],[]⟩ rfl (ab.seq (ab.seq (ab.aa ?_)))
 refine Oc om (Oc (op_leq rfl rfl) ?_)
 refine af.ai ⟨[(0,_),(1,_),(2,_),(3,_),(8,_),(9,_),(10,_),(23,B true)],[]⟩ rfl (ab.condT rfl (ab.seq (ab.aa ?_)))
 refine Oc om (Oc om (Oc om ?_))
 obtain ⟨u_1,e6,h4⟩:=aO h4
 refine Oc (aj (gS e6) goes114 rfl rfl) (af.ai ⟨[],[]⟩ rfl (ab.ret (Fin.ar (Fin.aP ?_))))
 obtain rfl:=hy5 _ (Option.some.inj h4).symm
 refine Fin.ar (Fin.aP ?_)
 obtain rfl:=Option.some.inj h
 refine Fin.ag ⟨[],[]⟩ rfl (Fin.av [] (.inl rfl) rfl (.nil) ⟨rfl,rfl⟩)
theorem iG {F:Nat} {limit0:Int} {r:Unit} (h:fU F limit0 = some r):ao Tryz.prog [] 97 [] [.one (.nil),.one (.i 0),.one (.i 0),.one (.i limit0)] (Is [] (.ew [])):=ik F h
def hU (F:Nat):Option Unit :=
 (k7 F (IntKind.u64.wrap 0)).bind fun x_1=>(fU F x_1).bind fun u_2=>some ()
theorem jT {F:Nat} {r:Unit} (h:hU F = some r):ao Tryz.prog [] 75 [] [.one (.nil)] (Is [] (.ew [])):=by
 unfold hU at h
 refine ao.intro 11 Tryz.func75 Tryz.ntmps75 rfl (by simp) fun E=>?_
 show ab _ E ⟨11,[],[],[]⟩ _ ⟨[(0,.b (.one (.nil)))],[]⟩ _
 refine ab.seq (ab.aa ?_)
 refine Oc om (Oc (rh fa rfl) (Oc oa ?_))
 refine af.ai ⟨[(0,.b (.one (.nil))),(2,I 0)],[]⟩ rfl (ab.aa (Oc om (Oc om (Oc om (Oc (ef pF o1 rfl) ?_)))))
 obtain ⟨x_1,e1,h⟩:=aO h
 refine Oc (aj (oh e1) goes69 rfl rfl) ?_
 obtain ⟨u_2,e2,h⟩:=aO h
 refine Oc (aj (iG e2) goes97 rfl rfl) (af.nil ?_)
 obtain rfl:=Option.some.inj h
 refine Fin.ag ⟨[],[]⟩ rfl (Fin.av [] (.inr rfl) rfl (.nil) ⟨rfl,rfl⟩)
theorem mz:ao Tryz.prog [] 75 [] [.one .nil] (Is [] (.ew [])):=jT (F:=3) (r:=()) (by rfl)
def fI (F:Nat) (zs:List Int):Option (List Int):=oS zs
theorem my {F:Nat} {zs r:List Int} (h:fI F zs = some r):ao Tryz.prog [] 75 [(1,.dx 3 1 (zs.map eI))] [.row 1] (Is [(1,.dx 3 1 (r.map eI))] (.ew [])):=qv Tryz.lays189 mz h
def ij (F:Nat) (x0:entry):Option Int :=
 some (IntKind.u64.wrap x0.id)
theorem mF {F:Nat} {x0:entry} {r:Int} (h:ij F x0 = some r):ao Tryz.prog [] 48 [] [.agg (an x0)] (Is [] (.b (.one (.int .u64 r)))):=by
 unfold ij at h
 refine ao.intro 6 Tryz.func48 Tryz.ntmps48 rfl (by simp) fun E=>?_
 show ab _ E ⟨6,[],[],[]⟩ _ ⟨[(0,.b (.agg (an x0)))],[]⟩ _
 refine ab.seq (ab.aa ?_)
 refine Oc (bW (k:=101) rfl rfl) (Oc oa ?_)
 refine af.ai ⟨[(1,Pt 101 0)],[(101,.box 87 (an x0))]⟩ rfl (ab.seq (ab.aa ?_))
 refine Oc (ay dI rfl rfl) (Oc (aR aQ rfl rfl rfl) (Oc (ef pF tc rfl) (Oc oa ?_)))
 refine af.ai ⟨[(2,.b (.one (.int .u64 (IntKind.u64.wrap x0.id))))],[]⟩ rfl (ab.ret ?_)
 obtain rfl:=Option.some.inj h
 refine Fin.ag ⟨[(2,_)],[]⟩ rfl (Fin.av [.one (.int .u64 (IntKind.u64.wrap x0.id))] (.inl rfl) rfl (.cons (.tmp rfl) .nil) ⟨rfl,rfl⟩)
def gj (F:Nat) (fn0:Nat) (x0:entry):Option Int :=
 if fn0 = 48 then ij F x0 else none
theorem rj {F:Nat} {fn0:Nat} {x0:entry} {r:Int} (h:gj F fn0 x0 = some r):ao Tryz.prog [] fn0 [] [.agg (an x0)] (Is [] (.b (.one (.int .u64 r)))):=by
 unfold gj at h
 split at h
 ·next e=>subst e; exact mF h
 ·next=>
  simp at h
theorem rk {F:Nat} {fn0:Nat} {x0:entry} {r:Int} (h:gj F fn0 x0 = some r):br Tryz.prog fn0:=by
 unfold gj at h
 split at h
 ·next e=>subst e; exact goes48
 ·next=>
  simp at h
theorem uf {F:Nat} {fn0:Nat} {x0:entry} {r:Int} (h:gj F fn0 x0 = some r):fn0 ≠ 0:=by
 rintro rfl
 exact absurd h (by simp [gj])
def fN (F:Nat) (x0:entry):Option bQ :=
 some x0.b
theorem mE {F:Nat} {x0:entry} {r:bQ} (h:fN F x0 = some r):ao Tryz.prog [] 49 [] [.agg (an x0)] (Is [] (.b (.agg (ak r)))):=by
 unfold fN at h
 refine ao.intro 5 Tryz.func49 Tryz.ntmps49 rfl (by simp) fun E=>?_
 show ab _ E ⟨5,[],[],[]⟩ _ ⟨[(0,.b (.agg (an x0)))],[]⟩ _
 refine ab.seq (ab.aa ?_)
 refine Oc (bW (k:=101) rfl rfl) (Oc (a8 (k:=102) fi rfl) ?_)
 refine af.ai ⟨[(1,Pt 101 0),(2,Pt 102 0)],[(101,.box 87 (an x0)),(102,.box 25 ((cJ .i64) A3.zero ++ ((cJ .i64) A3.zero)))]⟩ rfl (ab.seq (ab.aa ?_))
 refine Oc (ay gv rfl rfl) (Oc (lp aE) (Oc (aG aE rfl rfl rfl rfl (Nat.le_of_ble_eq_true rfl) rfl) ?_))
 refine af.ai ⟨[(2,_)],[(102,.box 25 (ak x0.b))]⟩ rfl (ab.ret ?_)
 obtain rfl:=Option.some.inj h
 refine Fin.ag ⟨[(2,_)],[(102,_)]⟩ rfl (Fin.av [.agg (ak x0.b)] (.inl rfl) rfl (.cons (.agg aE rfl rfl rfl rfl) .nil) ⟨rfl,rfl⟩)
def gX (F:Nat) (fn0:Nat) (x0:entry):Option bQ :=
 if fn0 = 49 then fN F x0 else none
theorem ru {F:Nat} {fn0:Nat} {x0:entry} {r:bQ} (h:gX F fn0 x0 = some r):ao Tryz.prog [] fn0 [] [.agg (an x0)] (Is [] (.b (.agg (ak r)))):=by
 unfold gX at h
 split at h
 ·next e=>subst e; exact mE h
 ·next=>
  simp at h
theorem ry {F:Nat} {fn0:Nat} {x0:entry} {r:bQ} (h:gX F fn0 x0 = some r):br Tryz.prog fn0:=by
 unfold gX at h
 split at h
 ·next e=>subst e; exact goes49
 ·next=>
  simp at h
theorem uq {F:Nat} {fn0:Nat} {x0:entry} {r:bQ} (h:gX F fn0 x0 = some r):fn0 ≠ 0:=by
 rintro rfl
 exact absurd h (by simp [gX])
def dX (F:Nat) (x0:Int):Option Bool :=
 some (decide (x0 ≠ x0))
theorem fo {F:Nat} {x0:Int} {r:Bool} (h:dX F x0 = some r):ao Tryz.prog [] 70 [] [.one (.i x0)] (Is [] (.b (.one (.bool r)))):=by
 unfold dX at h
 refine ao.intro 6 Tryz.func70 Tryz.ntmps70 rfl (by simp) fun E=>?_
 show ab _ E ⟨6,[],[],[]⟩ _ ⟨[(0,I x0)],[]⟩ _
 refine ab.seq (ab.aa ?_)
 refine Oc oa (af.ai ⟨[(0,I x0)],[]⟩ rfl (ab.seq (ab.aa ?_)))
 refine Oc om (Oc om (Oc (jC rfl rfl) (Oc oa ?_)))
 refine af.ai ⟨[(2,B (decide (x0 ≠ x0)))],[]⟩ rfl (ab.ret ?_)
 obtain rfl:=Option.some.inj h
 refine Fin.ag ⟨[(2,_)],[]⟩ rfl (Fin.av [.one (.bool (decide (x0 ≠ x0)))] (.inl rfl) rfl (.cons (.tmp rfl) .nil) ⟨rfl,rfl⟩)
def c9 (F:Nat) (x0:Int) (y0:Int):Option Int :=
 (dX F x0).bind fun x_1=>(dX F y0).bind fun x_2=>if x_1 = true then (if x_2 = true then (some 0) else (some (-1))) else (if x_2 = true then (some 1) else (if (decide (x0 < y0)) = true then (some (-1)) else (if (decide (y0 < x0)) = true then (some 1) else (some 0))))
theorem fD {F:Nat} {x0:Int} {y0:Int} {r:Int} (h:c9 F x0 y0 = some r):ao Tryz.prog [] 44 [] [.one (.i x0),.one (.i y0)] (Is [] (.b (.one (.i r)))):=by
 unfold c9 at h
 refine ao.intro 20 Tryz.func44 Tryz.ntmps44 rfl (by simp) fun E=>?_
 show ab _ E ⟨20,[],[],[]⟩ _ ⟨[(0,I x0),(1,I y0)],[]⟩ _
 refine ab.seq (ab.aa ?_)
 refine Oc oa (af.ai ⟨[(0,I x0),(1,I y0)],[]⟩ rfl (ab.seq (ab.aa ?_)))
 refine Oc om ?_
 obtain ⟨x_1,e1,h⟩:=aO h
 refine Oc (aj (fo e1) oW rfl rfl) (Oc oa ?_)
 refine af.ai ⟨[(0,_),(1,_),(5,B x_1)],[]⟩ rfl (ab.seq (ab.aa ?_))
 refine Oc om ?_
 obtain ⟨x_2,e2,h⟩:=aO h
 refine Oc (aj (fo e2) oW rfl rfl) (Oc oa ?_)
 refine af.ai ⟨[(0,_),(1,_),(5,_),(6,B x_2)],[]⟩ rfl (ab.seq (ab.seq (ab.aa ?_)))
 refine Oc om (af.ai ⟨[(0,_),(1,_),(6,_),(11,B x_1)],[]⟩ rfl (ab.ite h rfl (fun _ h=>?_) (fun _ h=>?_)))
 ·refine ab.seq (ab.seq (ab.aa ?_))
  refine Oc om (af.ai ⟨[(12,B x_2)],[]⟩ rfl (ab.ite h rfl (fun _ h=>?_) (fun _ h=>?_)))
  ·refine ab.seq (ab.aa ?_)
   refine Oc oa (af.ai ⟨[(4,I 0)],[]⟩ rfl (ab.ret (Fin.ar (Fin.ar ?_))))
   obtain rfl:=Option.some.inj h
   refine Fin.ag ⟨[(4,_)],[]⟩ rfl (Fin.av [.one (.i 0)] (.inl rfl) rfl (.cons (.tmp rfl) .nil) ⟨rfl,rfl⟩)
  ·refine ab.skip (Fin.ag ⟨[],[]⟩ rfl (Fin.then (ab.seq (ab.aa ?_))))
   refine Oc oa (af.ai ⟨[(4,I (-1))],[]⟩ rfl (ab.ret (Fin.ar ?_)))
   obtain rfl:=Option.some.inj h
   refine Fin.ag ⟨[(4,_)],[]⟩ rfl (Fin.av [.one (.i (-1))] (.inl rfl) rfl (.cons (.tmp rfl) .nil) ⟨rfl,rfl⟩)
 ·refine ab.skip (Fin.ag ⟨[(0,_),(1,_),(6,_)],[]⟩ rfl (Fin.then (ab.seq (ab.seq (ab.aa ?_)))))
  refine Oc om (af.ai ⟨[(0,_),(1,_),(13,B x_2)],[]⟩ rfl (ab.ite h rfl (fun _ h=>?_) (fun _ h=>?_)))
  ·refine ab.seq (ab.aa ?_)
   refine Oc oa (af.ai ⟨[(4,I 1)],[]⟩ rfl (ab.ret (Fin.ar ?_)))
   obtain rfl:=Option.some.inj h
   refine Fin.ag ⟨[(4,_)],[]⟩ rfl (Fin.av [.one (.i 1)] (.inl rfl) rfl (.cons (.tmp rfl) .nil) ⟨rfl,rfl⟩)
  ·refine ab.skip (Fin.ag ⟨[(0,_),(1,_)],[]⟩ rfl (Fin.then (ab.seq (ab.seq (ab.aa ?_)))))
   refine Oc om (Oc om (Oc (bu rfl rfl) ?_))
   refine af.ai ⟨[(0,_),(1,_),(16,B (decide (x0 < y0)))],[]⟩ rfl (ab.ite h rfl (fun _ h=>?_) (fun _ h=>?_))
   ·refine ab.seq (ab.aa ?_)
    refine Oc oa (af.ai ⟨[(4,I (-1))],[]⟩ rfl (ab.ret (Fin.ar ?_)))
    obtain rfl:=Option.some.inj h
    refine Fin.ag ⟨[(4,_)],[]⟩ rfl (Fin.av [.one (.i (-1))] (.inl rfl) rfl (.cons (.tmp rfl) .nil) ⟨rfl,rfl⟩)
   ·refine ab.skip (Fin.ag ⟨[(0,_),(1,_)],[]⟩ rfl (Fin.then (ab.seq (ab.seq (ab.aa ?_)))))
    refine Oc om (Oc om (Oc (iJ rfl rfl) ?_))
    refine af.ai ⟨[(19,B (decide (y0 < x0)))],[]⟩ rfl (ab.ite h rfl (fun _ h=>?_) (fun _ h=>?_))
    ·refine ab.seq (ab.aa ?_)
     refine Oc oa (af.ai ⟨[(4,I 1)],[]⟩ rfl (ab.ret (Fin.ar ?_)))
     obtain rfl:=Option.some.inj h
     refine Fin.ag ⟨[(4,_)],[]⟩ rfl (Fin.av [.one (.i 1)] (.inl rfl) rfl (.cons (.tmp rfl) .nil) ⟨rfl,rfl⟩)
    ·refine ab.skip (Fin.ag ⟨[],[]⟩ rfl (Fin.then (ab.seq (ab.aa ?_))))
     refine Oc oa (af.ai ⟨[(4,I 0)],[]⟩ rfl (ab.ret ?_))
     obtain rfl:=Option.some.inj h
     refine Fin.ag ⟨[(4,_)],[]⟩ rfl (Fin.av [.one (.i 0)] (.inl rfl) rfl (.cons (.tmp rfl) .nil) ⟨rfl,rfl⟩)
def fM (F:Nat) (a0:entry) (b0:entry):Option Int :=
 (c9 F a0.id b0.id).bind fun x_1=>some x_1
theorem mD {F:Nat} {a0:entry} {b0:entry} {r:Int} (h:fM F a0 b0 = some r):ao Tryz.prog [] 50 [] [.agg (an a0),.agg (an b0)] (Is [] (.b (.one (.i r)))):=by
 unfold fM at h
 refine ao.intro 10 Tryz.func50 Tryz.ntmps50 rfl (by simp) fun E=>?_
 show ab _ E ⟨10,[],[],[]⟩ _ ⟨[(0,.b (.agg (an a0))),(1,.b (.agg (an b0)))],[]⟩ _
 refine ab.seq (ab.aa ?_)
 refine Oc (bW (k:=101) rfl rfl) (Oc (bW (k:=102) rfl rfl) (Oc oa ?_))
 refine af.ai ⟨[(2,Pt 101 0),(3,Pt 102 0)],[(101,.box 87 (an a0)),(102,.box 87 (an b0))]⟩ rfl (ab.seq (ab.aa ?_))
 refine Oc (ay dI rfl rfl) (Oc (aR aQ rfl rfl rfl) (Oc (ay dI rfl rfl) (Oc (aR aQ rfl rfl rfl) ?_)))
 obtain ⟨x_1,e1,h⟩:=aO h
 refine Oc (aj (fD e1) qV rfl rfl) (Oc oa ?_)
 refine af.ai ⟨[(4,I x_1)],[]⟩ rfl (ab.ret ?_)
 obtain rfl:=Option.some.inj h
 refine Fin.ag ⟨[(4,_)],[]⟩ rfl (Fin.av [.one (.i x_1)] (.inl rfl) rfl (.cons (.tmp rfl) .nil) ⟨rfl,rfl⟩)
def dr (F:Nat) (s10:List Int) (s20:List Int):Option Int :=
 Option.bind (iter F (fun x_1=>if (decide (x_1 < (s10.length:Int))) = true then ((aX s10 x_1).bind fun x_2=>if (decide ((s20.length:Int) ≤ x_1)) = true then (some (.inr (.inr 1))) else ((aX s20 x_1).bind fun x_3=>(c9 F x_2 x_3).bind fun x_4=>if (decide (x_4 ≠ 0)) = true then (some (.inr (.inr x_4))) else (some (.inl (IntKind.i64.wrap (x_1 + 1)))))) else (some (.inr (.inl ())))) 0) (b5 (fun _=>if (decide ((s10.length:Int) < (s20.length:Int))) = true then (some (-1)) else (some 0)) (fun y=>some y))
theorem kq {F:Nat} {s10:List Int} {s20:List Int} {r:Int} (h:dr F s10 s20 = some r):ao Tryz.prog [] 53 [] [.one (.sl 1 (s10.map eI)),.one (.sl 1 (s20.map eI))] (Is [] (.b (.one (.i r)))):=by
 unfold dr at h
 refine ao.intro 36 Tryz.func53 Tryz.ntmps53 rfl (by simp) fun E=>?_
 show ab _ E ⟨36,[],[],[]⟩ _ ⟨[(0,.b (.one (.sl 1 (s10.map eI)))),(1,.b (.one (.sl 1 (s20.map eI))))],[]⟩ _
 refine ab.seq (ab.aa ?_)
 refine Oc oa (af.ai ⟨[(0,.b (.one (.sl 1 (s10.map eI)))),(1,.b (.one (.sl 1 (s20.map eI))))],[]⟩ rfl ?_)
 obtain ⟨v1,h2,h⟩:=aO h
 refine ab.eb (v:=v1) (fun (_:Unit)=>⟨[(0,.b (.one (.sl 1 (s10.map eI)))),(1,.b (.one (.sl 1 (s20.map eI))))],[]⟩) (fun z=>.inl z) ?_ ?_
 ·refine ab.seq (ab.aa ?_)
  refine Oc om (Oc (bm fa rfl (List.length_map _)) (Oc om ?_))
  refine af.ai ⟨[(0,_),(1,_),(9,.b (.one (.sl 1 (s10.map eI)))),(10,I (s10.length:Int)),(11,I 0)],[]⟩ rfl (ab.block (ab.de h2 (fun (x_1:Int)=>⟨[(0,.b (.one (.sl 1 (s10.map eI)))),(1,.b (.one (.sl 1 (s20.map eI)))),(9,.b (.one (.sl 1 (s10.map eI)))),(10,I (s10.length:Int)),(11,I x_1)],[]⟩) [0,1,9,10,11] [] rfl ?_))
  rintro x_1 o3 h4 hy5
  refine ab.seq (ab.aa ?_)
  refine Oc (bu rfl rfl) (af.ai ⟨[(0,_),(1,_),(9,_),(10,_),(11,_),(12,B (decide (x_1 < (s10.length:Int))))],[]⟩ rfl (ab.seq (ab.ite h4 rfl (fun _ h4=>?_) (fun _ h4=>?_))))
  ·refine ab.skip (Fin.ag ⟨[(0,_),(1,_),(9,_),(10,_),(11,_)],[]⟩ rfl (Fin.then (ab.seq (ab.block (ab.seq (ab.aa ?_))))))
   refine Oc om ?_
   obtain ⟨x_2,e6,h4⟩:=aO h4
   refine Oc (bb cf (a7 e6) (b7 (e:=eI) e6) rfl rfl) (Oc (aq aQ rfl rfl) (Oc oa (Oc oa ?_)))
   refine af.ai ⟨[(0,_),(1,_),(5,I x_1),(6,I x_2),(9,_),(10,_),(11,_)],[]⟩ rfl (ab.seq (ab.seq (ab.aa ?_)))
   refine Oc om (Oc om (Oc (bm fa rfl (List.length_map _)) (Oc (nm rfl rfl) ?_)))
   refine af.ai ⟨[(0,_),(1,_),(5,_),(6,_),(9,_),(10,_),(11,_),(19,B (decide ((s20.length:Int) ≤ x_1)))],[]⟩ rfl (ab.ite h4 rfl (fun _ h4=>?_) (fun _ h4=>?_))
   ·refine ab.seq (ab.aa ?_)
    refine Oc oa (af.ai ⟨[(4,I 1)],[]⟩ rfl (ab.ret (Fin.ar (Fin.aP (Fin.ar ?_)))))
    obtain rfl:=hy5 _ (Option.some.inj h4).symm
    refine Fin.ar (Fin.aP (Fin.ar ?_))
    obtain rfl:=Option.some.inj h
    refine Fin.ag ⟨[(4,_)],[]⟩ rfl (Fin.av [.one (.i 1)] (.inl rfl) rfl (.cons (.tmp rfl) .nil) ⟨rfl,rfl⟩)
   ·refine ab.skip (Fin.ag ⟨[(0,_),(1,_),(5,_),(6,_),(9,_),(10,_),(11,_)],[]⟩ rfl (Fin.then (ab.seq (ab.aa ?_))))
    refine Oc om (Oc om ?_)
    obtain ⟨x_3,e7,h4⟩:=aO h4
    refine Oc (bb cf (a7 e7) (b7 (e:=eI) e7) rfl rfl) (Oc (aq aQ rfl rfl) (Oc oa ?_))
    refine af.ai ⟨[(0,_),(1,_),(6,_),(7,I x_3),(9,_),(10,_),(11,_)],[]⟩ rfl (ab.seq (ab.aa ?_))
    refine Oc om (Oc om ?_)
    obtain ⟨x_4,e8,h4⟩:=aO h4
    refine Oc (aj (fD e8) qV rfl rfl) (Oc oa ?_)
    refine af.ai ⟨[(0,_),(1,_),(8,I x_4),(9,_),(10,_),(11,_)],[]⟩ rfl (ab.seq (ab.aa ?_))
    refine Oc om (Oc (jC rfl rfl) ?_)
    refine af.ai ⟨[(0,_),(1,_),(8,_),(9,_),(10,_),(11,_),(28,B (decide (x_4 ≠ 0)))],[]⟩ rfl (ab.ite h4 rfl (fun _ h4=>?_) (fun _ h4=>?_))
    ·refine ab.seq (ab.aa ?_)
     refine Oc om (Oc oa ?_)
     refine af.ai ⟨[(4,I x_4)],[]⟩ rfl (ab.ret (Fin.aP (Fin.ar ?_)))
     obtain rfl:=hy5 _ (Option.some.inj h4).symm
     refine Fin.ar (Fin.aP (Fin.ar ?_))
     obtain rfl:=Option.some.inj h
     refine Fin.ag ⟨[(4,_)],[]⟩ rfl (Fin.av [.one (.i x_4)] (.inl rfl) rfl (.cons (.tmp rfl) .nil) ⟨rfl,rfl⟩)
    ·refine ab.skip (Fin.aw (Fin.ag ⟨[(0,_),(1,_),(9,_),(10,_),(11,_)],[]⟩ rfl (Fin.then (ab.aa ?_))))
     refine Oc (bD rfl rfl) (Oc om ?_)
     refine af.nil ?_
     exact Fin.ct [0,1,9,10,11] [] (IntKind.i64.wrap (x_1 + 1)) (Option.some.inj h4) rfl
  ·refine ab.exit (Fin.aC ?_)
   obtain rfl:=hy5 _ (Option.some.inj h4).symm
   refine Fin.aC (Fin.aZ ?_)
   exact Fin.join [0,1] [] () rfl rfl
 ·rintro _ hv
  subst v1
  refine ab.seq (ab.seq (ab.aa ?_))
  refine Oc om (Oc (bm fa rfl (List.length_map _)) (Oc om (Oc (bm fa rfl (List.length_map _)) (Oc (bu rfl rfl) ?_))))
  refine af.ai ⟨[(35,B (decide ((s10.length:Int) < (s20.length:Int))))],[]⟩ rfl (ab.ite h rfl (fun _ h=>?_) (fun _ h=>?_))
  ·refine ab.seq (ab.aa ?_)
   refine Oc oa (af.ai ⟨[(4,I (-1))],[]⟩ rfl (ab.ret (Fin.ar ?_)))
   obtain rfl:=Option.some.inj h
   refine Fin.ag ⟨[(4,_)],[]⟩ rfl (Fin.av [.one (.i (-1))] (.inl rfl) rfl (.cons (.tmp rfl) .nil) ⟨rfl,rfl⟩)
  ·refine ab.skip (Fin.ag ⟨[],[]⟩ rfl (Fin.then (ab.seq (ab.aa ?_))))
   refine Oc oa (af.ai ⟨[(4,I 0)],[]⟩ rfl (ab.ret ?_))
   obtain rfl:=Option.some.inj h
   refine Fin.ag ⟨[(4,_)],[]⟩ rfl (Fin.av [.one (.i 0)] (.inl rfl) rfl (.cons (.tmp rfl) .nil) ⟨rfl,rfl⟩)
def jJ (F:Nat) (vals0:List Int):Option Int :=
 Option.bind (iter F (fun x_1=>if (decide (x_1 < (vals0.length:Int))) = true then ((aX vals0 x_1).bind fun x_2=>if (decide (x_2 ≠ 0)) = true then (some (.inr (.inr x_2))) else (some (.inl (IntKind.i64.wrap (x_1 + 1))))) else (some (.inr (.inl ())))) 0) (b5 (fun _=>some 0) (fun y=>some y))
theorem qA {F:Nat} {vals0:List Int} {r:Int} (h:jJ F vals0 = some r):ao Tryz.prog [] 52 [] [.one (.sl 1 (vals0.map eI))] (Is [] (.b (.one (.i r)))):=by
 unfold jJ at h
 refine ao.intro 18 Tryz.func52 Tryz.ntmps52 rfl (by simp) fun E=>?_
 show ab _ E ⟨18,[],[],[]⟩ _ ⟨[(0,.b (.one (.sl 1 (vals0.map eI))))],[]⟩ _
 refine ab.seq (ab.aa ?_)
 refine Oc oa (af.ai ⟨[(0,.b (.one (.sl 1 (vals0.map eI))))],[]⟩ rfl (ab.seq (ab.aa ?_)))
 refine Oc oa (af.ai ⟨[(0,_),(3,I 0)],[]⟩ rfl ?_)
 obtain ⟨v1,h2,h⟩:=aO h
 refine ab.eb (v:=v1) (fun (_:Unit)=>⟨[(3,I 0)],[]⟩) (fun z=>.inl z) ?_ ?_
 ·refine ab.seq (ab.aa ?_)
  refine Oc om (Oc (bm fa rfl (List.length_map _)) (Oc om ?_))
  refine af.ai ⟨[(3,_),(6,.b (.one (.sl 1 (vals0.map eI)))),(7,I (vals0.length:Int)),(8,I 0)],[]⟩ rfl (ab.block (ab.de h2 (fun (x_1:Int)=>⟨[(3,I 0),(6,.b (.one (.sl 1 (vals0.map eI)))),(7,I (vals0.length:Int)),(8,I x_1)],[]⟩) [3,6,7,8] [] rfl ?_))
  rintro x_1 o3 h4 hy5
  refine ab.seq (ab.aa ?_)
  refine Oc (bu rfl rfl) (af.ai ⟨[(3,_),(6,_),(7,_),(8,_),(9,B (decide (x_1 < (vals0.length:Int))))],[]⟩ rfl (ab.seq (ab.ite h4 rfl (fun _ h4=>?_) (fun _ h4=>?_))))
  ·refine ab.skip (Fin.ag ⟨[(3,_),(6,_),(7,_),(8,_)],[]⟩ rfl (Fin.then (ab.seq (ab.block (ab.seq (ab.aa ?_))))))
   obtain ⟨x_2,e6,h4⟩:=aO h4
   refine Oc (bb cf (a7 e6) (b7 (e:=eI) e6) rfl rfl) (Oc (aq aQ rfl rfl) (Oc oa ?_))
   refine af.ai ⟨[(3,_),(5,I x_2),(6,_),(7,_),(8,_)],[]⟩ rfl (ab.seq (ab.aa ?_))
   refine Oc om (Oc om (Oc (jC rfl rfl) ?_))
   refine af.ai ⟨[(3,_),(5,_),(6,_),(7,_),(8,_),(14,B (decide (x_2 ≠ 0)))],[]⟩ rfl (ab.ite h4 rfl (fun _ h4=>?_) (fun _ h4=>?_))
   ·refine ab.seq (ab.aa ?_)
    refine Oc om (Oc oa ?_)
    refine af.ai ⟨[(2,I x_2)],[]⟩ rfl (ab.ret (Fin.aP (Fin.ar ?_)))
    obtain rfl:=hy5 _ (Option.some.inj h4).symm
    refine Fin.ar (Fin.aP (Fin.ar ?_))
    obtain rfl:=Option.some.inj h
    refine Fin.ag ⟨[(2,_)],[]⟩ rfl (Fin.av [.one (.i x_2)] (.inl rfl) rfl (.cons (.tmp rfl) .nil) ⟨rfl,rfl⟩)
   ·refine ab.skip (Fin.aw (Fin.ag ⟨[(3,_),(6,_),(7,_),(8,_)],[]⟩ rfl (Fin.then (ab.aa ?_))))
    refine Oc (bD rfl rfl) (Oc om ?_)
    refine af.nil ?_
    exact Fin.ct [3,6,7,8] [] (IntKind.i64.wrap (x_1 + 1)) (Option.some.inj h4) rfl
  ·refine ab.exit (Fin.aC ?_)
   obtain rfl:=hy5 _ (Option.some.inj h4).symm
   refine Fin.aC (Fin.aZ ?_)
   exact Fin.join [3] [] () rfl rfl
 ·rintro _ hv
  subst v1
  refine ab.seq (ab.aa ?_)
  refine Oc om (Oc oa ?_)
  refine af.ai ⟨[(2,I 0)],[]⟩ rfl (ab.ret ?_)
  obtain rfl:=Option.some.inj h
  refine Fin.ag ⟨[(2,_)],[]⟩ rfl (Fin.av [.one (.i 0)] (.inl rfl) rfl (.cons (.tmp rfl) .nil) ⟨rfl,rfl⟩)
def fL (F:Nat) (a0:entry) (b0:entry):Option Int :=
 (dr F a0.b.Lo.l b0.b.Lo.l).bind fun x_1=>(c9 F a0.id b0.id).bind fun x_2=>(jJ F [x_1,x_2]).bind fun x_3=>some x_3
theorem mC {F:Nat} {a0:entry} {b0:entry} {r:Int} (h:fL F a0 b0 = some r):ao Tryz.prog [] 51 [] [.agg (an a0),.agg (an b0)] (Is [] (.b (.one (.i r)))):=by
 unfold fL at h
 refine ao.intro 19 Tryz.func51 Tryz.ntmps51 rfl (by simp) fun E=>?_
 show ab _ E ⟨19,[],[],[]⟩ _ ⟨[(0,.b (.agg (an a0))),(1,.b (.agg (an b0)))],[]⟩ _
 refine ab.seq (ab.aa ?_)
 refine Oc (lH rfl) (Oc (lH rfl) (Oc oa ?_))
 refine af.ai ⟨[(2,.b (.aJ (an a0))),(3,.b (.aJ (an b0)))],[]⟩ rfl (ab.seq ?_)
 obtain ⟨x_1,e1,h⟩:=aO h
 obtain ⟨x_2,e2,h⟩:=aO h
 obtain ⟨x_3,e3,h⟩:=aO h
 refine ab.bZ mixed 15 [.b (.aJ (ak a0.b)),.b (.aJ (ak a0.b)),.b (.one (.sl 1 (a0.b.Lo.l.map eI))),.b (.aJ (ak b0.b)),.b (.aJ (ak b0.b)),.b (.one (.sl 1 (b0.b.Lo.l.map eI))),I x_1,.b (.aJ (an a0)),I a0.id,.b (.aJ (an b0)),I b0.id,I x_2,.b (.one (.sl 1 ([x_1,x_2].map eI))),I x_3,I x_3] [4] [] (s':=⟨[(4,I x_3)],[]⟩) rfl ⟨fun _=>by exact .p (aA gv rfl rfl),fun _=>by exact .p (aA cz rfl rfl),fun _=>.p (mQ (xs:=a0.b.Lo.l) (enc:=eI) bI rfl rfl rfl (fun _=>rfl) (by rw [eQ]; decide)),fun _=>by exact .p (aA gv rfl rfl),fun _=>by exact .p (aA cz rfl rfl),fun _=>.p (mQ (xs:=b0.b.Lo.l) (enc:=eI) bI rfl rfl rfl (fun _=>rfl) (by rw [eQ]; decide)),fun _=>.p (aj (kq e1) goes53 rfl rfl),fun _=>by exact .p (aA dI rfl rfl),fun _=>.p (aq aQ rfl rfl),fun _=>by exact .p (aA dI rfl rfl),fun _=>.p (aq aQ rfl rfl),fun _=>.p (aj (fD e2) qV rfl rfl),fun _=>.p (dq (es:=[x_1,x_2].map eI) cf rfl rfl (cx fun _=>rfl) rfl (by decide) (by decide)),fun _=>.p (aj (qA e3) goes52 rfl rfl),fun _=>.p oa,trivial⟩ rfl rfl (ab.ret ?_)
 obtain rfl:=Option.some.inj h
 refine Fin.ag ⟨[(4,_)],[]⟩ rfl (Fin.av [.one (.i x_3)] (.inl rfl) rfl (.cons (.tmp rfl) .nil) ⟨rfl,rfl⟩)
def ff (F:Nat) (fn0:Nat) (a0:entry) (b0:entry):Option Int :=
 if fn0 = 50 then fM F a0 b0 else if fn0 = 51 then fL F a0 b0 else none
theorem nT {F:Nat} {fn0:Nat} {a0:entry} {b0:entry} {r:Int} (h:ff F fn0 a0 b0 = some r):ao Tryz.prog [] fn0 [] [.agg (an a0),.agg (an b0)] (Is [] (.b (.one (.i r)))):=by
 unfold ff at h
 split at h
 ·next e=>subst e; exact mD h
 ·next=>
  split at h
  ·next e=>subst e; exact mC h
  ·next=>
   simp at h
theorem nU {F:Nat} {fn0:Nat} {a0:entry} {b0:entry} {r:Int} (h:ff F fn0 a0 b0 = some r):br Tryz.prog fn0:=by
 unfold ff at h
 split at h
 ·next e=>subst e; exact goes50
 ·next=>
  split at h
  ·next e=>subst e; exact goes51
  ·next=>
   simp at h
theorem qj {F:Nat} {fn0:Nat} {a0:entry} {b0:entry} {r:Int} (h:ff F fn0 a0 b0 = some r):fn0 ≠ 0:=by
 rintro rfl
 exact absurd h (by simp [ff])
def b6 (F:Nat) (b0:bQ):Option Bool :=
 Option.bind (iter F (fun x_1=>if (decide (x_1 < 3)) = true then ((aX b0.Lo.l x_1).bind fun x_2=>(aX b0.Hi.l x_1).bind fun x_3=>(a6 (!(decide (x_3 < x_2))) (aX b0.Lo.l x_1)).bind fun x_4=>(a6 (!((decide (x_3 < x_2)) || (decide (x_4 < (-1125899906842624))))) (aX b0.Hi.l x_1)).bind fun x_5=>if (((decide (x_3 < x_2)) || (decide (x_4 < (-1125899906842624)))) || (decide (1125899906842624 < x_5))) = true then (some (.inr (.inr false))) else (some (.inl (IntKind.i64.wrap (x_1 + 1))))) else (some (.inr (.inl ())))) 0) (b5 (fun _=>some true) (fun y=>some y))
theorem cK {F:Nat} {b0:bQ} {r:Bool} (h:b6 F b0 = some r):ao Tryz.prog [] 14 [] [.agg (ak b0)] (Is [] (.b (.one (.bool r)))):=by
 unfold b6 at h
 refine ao.intro 31 Tryz.func14 Tryz.ntmps14 rfl (by simp) fun E=>?_
 show ab _ E ⟨31,[],[],[]⟩ _ ⟨[(0,.b (.agg (ak b0)))],[]⟩ _
 refine ab.seq (ab.aa ?_)
 refine Oc (bW (k:=101) rfl rfl) (Oc oa ?_)
 refine af.ai ⟨[(1,Pt 101 0)],[(101,.box 25 (ak b0))]⟩ rfl ?_
 obtain ⟨v1,h2,h⟩:=aO h
 refine ab.eb (v:=v1) (fun (_:Unit)=>⟨[],[]⟩) (fun z=>.inl z) ?_ ?_
 ·refine ab.seq (ab.aa ?_)
  refine Oc om (af.ai ⟨[(1,_),(4,I 0)],[(101,_)]⟩ rfl (ab.block (ab.de h2 (fun (x_1:Int)=>⟨[(1,Pt 101 0),(4,I x_1)],[(101,.box 25 (ak b0))]⟩) [1,4] [101] rfl ?_)))
  rintro x_1 o3 h4 hy5
  refine ab.seq (ab.aa ?_)
  refine Oc (bu rfl rfl) (af.ai ⟨[(1,_),(4,_),(5,B (decide (x_1 < 3)))],[(101,_)]⟩ rfl (ab.seq (ab.ite h4 rfl (fun _ h4=>?_) (fun _ h4=>?_))))
  ·refine ab.skip (Fin.ag ⟨[(1,_),(4,_)],[(101,_)]⟩ rfl (Fin.then (ab.seq (ab.block (ab.seq (ab.aa ?_))))))
   refine Oc om (Oc oa ?_)
   refine af.ai ⟨[(1,_),(3,I x_1),(4,_)],[(101,_)]⟩ rfl (ab.seq ?_)
   obtain ⟨x_2,e6,h4⟩:=aO h4
   obtain ⟨x_3,e7,h4⟩:=aO h4
   obtain ⟨x_4,e11,h4⟩:=aO h4
   obtain ⟨x_5,e17,h4⟩:=aO h4
   refine ab.bZ mixed 23 [I x_1,Pt 101 0,.b (.ptr 101 (0 + (x_1:Int).toNat * 1)),I x_2,I x_1,Pt 101 3,.b (.ptr 101 (3 + (x_1:Int).toNat * 1)),I x_3,B (decide (x_3 < x_2)),B (decide (x_3 < x_2)),.opt (!(decide (x_3 < x_2))) (.one (.i x_1)),.opt (!(decide (x_3 < x_2))) (.ptr 101 0),.opt (!(decide (x_3 < x_2))) (.ptr 101 (0 + (x_1:Int).toNat * 1)),.opt (!(decide (x_3 < x_2))) (.one (.i x_4)),.opt (!(decide (x_3 < x_2))) (.one (.bool (decide (x_4 < (-1125899906842624))))),B ((decide (x_3 < x_2)) || (decide (x_4 < (-1125899906842624)))),B ((decide (x_3 < x_2)) || (decide (x_4 < (-1125899906842624)))),.opt (!((decide (x_3 < x_2)) || (decide (x_4 < (-1125899906842624))))) (.one (.i x_1)),.opt (!((decide (x_3 < x_2)) || (decide (x_4 < (-1125899906842624))))) (.ptr 101 3),.opt (!((decide (x_3 < x_2)) || (decide (x_4 < (-1125899906842624))))) (.ptr 101 (3 + (x_1:Int).toNat * 1)),.opt (!((decide (x_3 < x_2)) || (decide (x_4 < (-1125899906842624))))) (.one (.i x_5)),.opt (!((decide (x_3 < x_2)) || (decide (x_4 < (-1125899906842624))))) (.one (.bool (decide (1125899906842624 < x_5)))),B (((decide (x_3 < x_2)) || (decide (x_4 < (-1125899906842624)))) || (decide (1125899906842624 < x_5)))] [1,4,29] [101] (s':=⟨[(1,_),(4,_),(29,B (((decide (x_3 < x_2)) || (decide (x_4 < (-1125899906842624)))) || (decide (1125899906842624 < x_5))))],[(101,_)]⟩) rfl ⟨fun _=>.p om,fun _=>.p (ay cz rfl rfl),fun _=>.p (bn bI (a7 e6) (cX e6) rfl rfl rfl),fun _=>.p (aR aQ rfl rfl (dz (post:=((cJ .i64) b0.Hi)) (k:=.i64) [] e6 rfl rfl rfl)),fun _=>.p om,fun _=>.p (ay cy rfl rfl),fun _=>.p (bn bI (a7 e7) (cX e7) rfl rfl rfl),fun _=>.p (aR aQ rfl rfl (dz (post:=[]) (k:=.i64) ((cJ .i64) b0.Lo) e7 rfl rfl rfl)),fun _=>.p (iJ rfl rfl),fun _=>.p om,fun _=>by exact .guard (!(decide (x_3 < x_2))) 1 [] (.plain rfl) (cC _) rfl rfl (fun g8=>trivial) (fun g8=>om),fun _=>by exact .guard (!(decide (x_3 < x_2))) 1 [] (.plain rfl) (cC _) rfl rfl (fun g9=>trivial) (fun g9=>ay cz rfl rfl),fun _=>by exact .guard (!(decide (x_3 < x_2))) 3 [17,18] (.plain rfl) (cC _) rfl rfl (fun g10=>⟨g10,g10,trivial⟩) (fun g10=>bn bI (a7 (gc e11 g10)) (cX (gc e11 g10)) rfl rfl rfl),fun _=>by exact .guard (!(decide (x_3 < x_2))) 2 [19] (.plain rfl) (cC _) rfl rfl (fun g12=>⟨g12,trivial⟩) (fun g12=>aR aQ rfl rfl (dz (post:=((cJ .i64) b0.Hi)) (k:=.i64) [] (gc e11 g12) rfl rfl rfl)),fun _=>by exact .guard (!(decide (x_3 < x_2))) 2 [20] (.plain rfl) (cC _) rfl rfl (fun g13=>⟨g13,trivial⟩) (fun g13=>bu rfl rfl),fun _=>.p (c7 (fun e=>by first | (rw [e]; rfl) | (simp only at e; rw [e]; rfl)) rfl rfl rfl rfl),fun _=>.p om,fun _=>by exact .guard (!((decide (x_3 < x_2)) || (decide (x_4 < (-1125899906842624))))) 1 [] (.plain rfl) (cC _) rfl rfl (fun g14=>trivial) (fun g14=>om),fun _=>by exact .guard (!((decide (x_3 < x_2)) || (decide (x_4 < (-1125899906842624))))) 1 [] (.plain rfl) (cC _) rfl rfl (fun g15=>trivial) (fun g15=>ay cy rfl rfl),fun _=>by exact .guard (!((decide (x_3 < x_2)) || (decide (x_4 < (-1125899906842624))))) 3 [24,25] (.plain rfl) (cC _) rfl rfl (fun g16=>⟨g16,g16,trivial⟩) (fun g16=>bn bI (a7 (gc e17 g16)) (cX (gc e17 g16)) rfl rfl rfl),fun _=>by exact .guard (!((decide (x_3 < x_2)) || (decide (x_4 < (-1125899906842624))))) 2 [26] (.plain rfl) (cC _) rfl rfl (fun g18=>⟨g18,trivial⟩) (fun g18=>aR aQ rfl rfl (dz (post:=[]) (k:=.i64) ((cJ .i64) b0.Lo) (gc e17 g18) rfl rfl rfl)),fun _=>by exact .guard (!((decide (x_3 < x_2)) || (decide (x_4 < (-1125899906842624))))) 2 [27] (.plain rfl) (cC _) rfl rfl (fun g19=>⟨g19,trivial⟩) (fun g19=>iJ rfl rfl),fun _=>.p (c7 (fun e=>by first | (rw [e]; rfl) | (simp only at e; rw [e]; rfl)) rfl rfl rfl rfl),trivial⟩ rfl rfl ?_
   refine ab.ite h4 rfl (fun _ h4=>?_) (fun _ h4=>?_)
   ·refine ab.seq (ab.aa ?_)
    refine Oc oa (af.ai ⟨[(2,B false)],[]⟩ rfl (ab.ret (Fin.aP (Fin.ar ?_))))
    obtain rfl:=hy5 _ (Option.some.inj h4).symm
    refine Fin.ar (Fin.aP (Fin.ar ?_))
    obtain rfl:=Option.some.inj h
    refine Fin.ag ⟨[(2,_)],[]⟩ rfl (Fin.av [.one (.bool false)] (.inl rfl) rfl (.cons (.tmp rfl) .nil) ⟨rfl,rfl⟩)
   ·refine ab.skip (Fin.aw (Fin.ag ⟨[(1,_),(4,_)],[(101,_)]⟩ rfl (Fin.then (ab.aa ?_))))
    refine Oc (bD rfl rfl) (Oc om ?_)
    refine af.nil ?_
    exact Fin.ct [1,4] [101] (IntKind.i64.wrap (x_1 + 1)) (Option.some.inj h4) rfl
  ·refine ab.exit (Fin.aC ?_)
   obtain rfl:=hy5 _ (Option.some.inj h4).symm
   refine Fin.aC (Fin.aZ ?_)
   exact Fin.join [] [] () rfl rfl
 ·rintro _ hv
  subst v1
  refine ab.seq (ab.aa ?_)
  refine Oc oa (af.ai ⟨[(2,B true)],[]⟩ rfl (ab.ret ?_))
  obtain rfl:=Option.some.inj h
  refine Fin.ag ⟨[(2,_)],[]⟩ rfl (Fin.av [.one (.bool true)] (.inl rfl) rfl (.cons (.tmp rfl) .nil) ⟨rfl,rfl⟩)
def ez (F:Nat) (b0:bQ):Option Bool :=
 (b6 F b0).bind fun x_1=>some (!x_1)
theorem la {F:Nat} {b0:bQ} {r:Bool} (h:ez F b0 = some r):ao Tryz.prog [] 41 [] [.agg (ak b0)] (Is [] (.b (.one (.bool r)))):=by
 unfold ez at h
 refine ao.intro 6 Tryz.func41 Tryz.ntmps41 rfl (by simp) fun E=>?_
 show ab _ E ⟨6,[],[],[]⟩ _ ⟨[(0,.b (.agg (ak b0)))],[]⟩ _
 refine ab.seq (ab.aa ?_)
 refine Oc (bW (k:=101) rfl rfl) (Oc oa ?_)
 refine af.ai ⟨[(1,Pt 101 0)],[(101,.box 25 (ak b0))]⟩ rfl (ab.seq (ab.aa ?_))
 refine Oc (lp aE) ?_
 obtain ⟨x_1,e1,h⟩:=aO h
 refine Oc (aj (cK e1) l3 rfl rfl) (Oc (eD rfl) (Oc oa ?_))
 refine af.ai ⟨[(2,B (!x_1))],[]⟩ rfl (ab.ret ?_)
 obtain rfl:=Option.some.inj h
 refine Fin.ag ⟨[(2,_)],[]⟩ rfl (Fin.av [.one (.bool (!x_1))] (.inl rfl) rfl (.cons (.tmp rfl) .nil) ⟨rfl,rfl⟩)
def iz (F:Nat) (fn0:Nat) (b0:bQ):Option Bool :=
 if fn0 = 41 then ez F b0 else none
theorem qB {F:Nat} {fn0:Nat} {b0:bQ} {r:Bool} (h:iz F fn0 b0 = some r):ao Tryz.prog [] fn0 [] [.agg (ak b0)] (Is [] (.b (.one (.bool r)))):=by
 unfold iz at h
 split at h
 ·next e=>subst e; exact la h
 ·next=>
  simp at h
theorem qC {F:Nat} {fn0:Nat} {b0:bQ} {r:Bool} (h:iz F fn0 b0 = some r):br Tryz.prog fn0:=by
 unfold iz at h
 split at h
 ·next e=>subst e; exact goes41
 ·next=>
  simp at h
def fZ (F:Nat) (n0:cB bc):Option Bool :=
 some n0.cS
theorem k9 {F:Nat} {n0:cB bc} {r:Bool} (h:fZ F n0 = some r):ao Tryz.prog [] 123 [] [.one (.tr ae n0)] (Is [] (.b (.one (.bool r)))):=by
 unfold fZ at h
 refine ao.intro 5 Tryz.func123 Tryz.ntmps123 rfl (by simp) fun E=>?_
 show ab _ E ⟨5,[],[],[]⟩ _ ⟨[(0,.b (.one (.tr ae n0)))],[]⟩ _
 refine ab.seq (ab.aa ?_)
 refine Oc oa (af.ai ⟨[(0,.b (.one (.tr ae n0)))],[]⟩ rfl (ab.seq (ab.aa ?_)))
 refine Oc om (Oc (eU kQ rfl) (Oc oa ?_))
 refine af.ai ⟨[(2,B n0.cS)],[]⟩ rfl (ab.ret ?_)
 obtain rfl:=Option.some.inj h
 refine Fin.ag ⟨[(2,_)],[]⟩ rfl (Fin.av [.one (.bool n0.cS)] (.inl rfl) rfl (.cons (.tmp rfl) .nil) ⟨rfl,rfl⟩)
def gw (F:Nat) (fn0:Nat) (n0:cB bc):Option Bool :=
 if fn0 = 123 then fZ F n0 else none
theorem lP {F:Nat} {fn0:Nat} {n0:cB bc} {r:Bool} (h:gw F fn0 n0 = some r):ao Tryz.prog [] fn0 [] [.one (.tr ae n0)] (Is [] (.b (.one (.bool r)))):=by
 unfold gw at h
 split at h
 ·next e=>subst e; exact k9 h
 ·next=>
  simp at h
theorem lQ {F:Nat} {fn0:Nat} {n0:cB bc} {r:Bool} (h:gw F fn0 n0 = some r):br Tryz.prog fn0:=by
 unfold gw at h
 split at h
 ·next e=>subst e; exact goes123
 ·next=>
  simp at h
def gu (F:Nat) (b0:bQ) (n0:Int):Option (bQ × Int) :=
 (b6 F b0).bind fun x_1=>eC (((!x_1) || (decide (n0 < 0))) || (decide (2251799813685248 < n0))) fun x_2=>if x_2 = true then (some ((⟨A3.zero,A3.zero⟩:bQ),1)) else (Option.bind (iter F (dQ fun b_4 x_5=>if (decide (x_5 < 3)) = true then ((aX b_4.Lo.l x_5).bind fun x_7=>(aX b_4.Lo.l x_5).bind fun x_8=>(aX b_4.Hi.l x_5).bind fun x_9=>(aX b_4.Hi.l x_5).bind fun x_10=>some (.inl ((⟨b_4.Lo.set x_5 (IntKind.i64.wrap (x_7 - n0)),b_4.Hi.set x_5 (IntKind.i64.wrap (x_9 + n0))⟩:bQ),IntKind.i64.wrap (x_5 + 1)))) else (some (.inr b_4))) (b0,0)) (fun b_3=>(b6 F b_3).bind fun x_11=>if (!x_11) = true then (some ((⟨A3.zero,A3.zero⟩:bQ),1)) else (some (b_3,0))))
theorem jh {F:Nat} {b0:bQ} {n0:Int} {r:bQ × Int} (h:gu F b0 n0 = some r):ao Tryz.prog [] 11 [] [.agg (ak b0),.one (.i n0)] (Is [] (.ew [.agg (ak r.1),.one (.i r.2)])):=by
 unfold gu at h
 refine ao.intro 44 Tryz.func11 Tryz.ntmps11 rfl (by simp) fun E=>?_
 show ab _ E ⟨44,[],[],[]⟩ _ ⟨[(0,.b (.agg (ak b0))),(1,I n0)],[]⟩ _
 refine ab.seq (ab.aa ?_)
 refine Oc (bW (k:=101) rfl rfl) (Oc (a8 (k:=102) fi rfl) (Oc oa ?_))
 refine af.ai ⟨[(1,I n0),(2,Pt 101 0),(4,Pt 102 0)],[(101,.box 25 (ak b0)),(102,.box 25 ((cJ .i64) A3.zero ++ ((cJ .i64) A3.zero)))]⟩ rfl (ab.seq (ab.seq (ab.aa ?_)))
 refine Oc (lp aE) ?_
 obtain ⟨x_1,e1,h⟩:=aO h
 refine Oc (aj (cK e1) l3 rfl rfl) (Oc (eD rfl) (Oc om ?_))
 refine CgF (!(!x_1)) [] (fun g2=>trivial) (fun g2=>om) (af.ag ⟨[(1,_),(2,_),(4,_),(10,B (!x_1)),(11,.opt (!(!x_1)) (.one (.i n0)))],[(101,_),(102,_)]⟩ rfl (CgF (!(!x_1)) [11] (fun g3=>by exact ⟨g3,trivial⟩) (fun g3=>bu rfl rfl) (Oc (c7 (fun e=>by first | (rw [e]; rfl) | (simp only at e; rw [e]; rfl)) rfl rfl rfl rfl) (Oc om ?_))))
 refine CgF (!((!x_1) || (decide (n0 < 0)))) [] (fun g4=>trivial) (fun g4=>om) (CgF (!((!x_1) || (decide (n0 < 0)))) [15] (fun g5=>by exact ⟨g5,trivial⟩) (fun g5=>iJ rfl rfl) (af.nj h rfl (c7 (fun e=>by first | (rw [e]; rfl) | (simp only at e; rw [e]; rfl)) rfl rfl rfl rfl) (fun x_2 h=>?_)))
 refine af.ai ⟨[(1,_),(2,_),(4,_),(17,B x_2)],[(101,_),(102,_)]⟩ rfl (ab.ite h rfl (fun _ h=>?_) (fun _ h=>?_))
 ·refine ab.seq (ab.aa ?_)
  refine Oc (cu l8 rfl rfl) (Oc (aG aE rfl rfl rfl rfl (Nat.le_of_ble_eq_true rfl) rfl) (Oc oa ?_))
  refine af.ai ⟨[(4,_),(5,I 1)],[(102,_)]⟩ rfl (ab.ret (Fin.ar ?_))
  obtain rfl:=Option.some.inj h
  refine Fin.ag ⟨[(4,_),(5,_)],[(102,_)]⟩ rfl (Fin.av [.agg ((cJ .i64) A3.zero ++ ((cJ .i64) A3.zero)),.one (.i 1)] (.inl rfl) rfl (.cons (.agg aE rfl rfl rfl rfl) (.cons (.tmp rfl) .nil)) ⟨rfl,rfl⟩)
 ·refine ab.skip (Fin.ag ⟨[(1,_),(2,_),(4,_)],[(101,_),(102,_)]⟩ rfl (Fin.then ?_))
  obtain ⟨v6,h7,h⟩:=aO h
  refine ab.eb (v:=v6) (fun (b_3:bQ)=>⟨[(2,Pt 101 0),(4,Pt 102 0)],[(101,.box 25 (ak b_3)),(102,.box 25 ((cJ .i64) A3.zero ++ ((cJ .i64) A3.zero)))]⟩) (fun z=>z) ?_ ?_
  ·refine ab.seq (ab.aa ?_)
   refine Oc om (af.ai ⟨[(1,_),(2,_),(4,_),(19,I 0)],[(101,_),(102,_)]⟩ rfl (ab.block (ab.de h7 (dQ fun (b_4:bQ) (x_5:Int)=>⟨[(1,I n0),(2,Pt 101 0),(4,Pt 102 0),(19,I x_5)],[(101,.box 25 (ak b_4)),(102,.box 25 ((cJ .i64) A3.zero ++ ((cJ .i64) A3.zero)))]⟩) [1,2,4,19] [101,102] rfl ?_)))
   rintro ⟨b_4,x_5⟩ o8 h9 hy10
   refine ab.seq (ab.aa ?_)
   refine Oc (bu rfl rfl) (af.ai ⟨[(1,_),(2,_),(4,_),(19,_),(20,B (decide (x_5 < 3)))],[(101,_),(102,_)]⟩ rfl (ab.seq (ab.ite h9 rfl (fun _ h9=>?_) (fun _ h9=>?_))))
   ·refine ab.skip (Fin.ag ⟨[(1,_),(2,_),(4,_),(19,_)],[(101,_),(102,_)]⟩ rfl (Fin.then (ab.seq (ab.block (ab.seq (ab.aa ?_))))))
    refine Oc om (Oc oa ?_)
    refine af.ai ⟨[(1,_),(2,_),(4,_),(6,I x_5),(19,_)],[(101,_),(102,_)]⟩ rfl (ab.seq (ab.aa ?_))
    refine Oc om (Oc (ay cz rfl rfl) ?_)
    obtain ⟨x_7,e11,h9⟩:=aO h9
    refine Oc (bn bI (a7 e11) (cX e11) rfl rfl rfl) (Oc (aR aQ rfl rfl (dz (post:=((cJ .i64) b_4.Hi)) (k:=.i64) [] e11 rfl rfl rfl)) (Oc om (Oc (tg rfl rfl) (Oc (ay cz rfl rfl) ?_))))
    obtain ⟨x_8,e12,h9⟩:=aO h9
    refine Oc (bn bI (a7 e12) (cX e12) rfl rfl rfl) (Oc (dV aQ rfl rfl rfl (oZ (post:=((cJ .i64) b_4.Hi)) (k:=.i64) [] e12 rfl rfl rfl) (nf (post:=((cJ .i64) b_4.Hi)) (k:=.i64) [] e12 rfl rfl (A3.pH b_4.Lo x_5 (IntKind.i64.wrap (x_7 - n0))) rfl rfl)) ?_)
    refine af.ai ⟨[(1,_),(2,_),(4,_),(6,_),(19,_)],[(101,.box 25 ((cJ .i64) (b_4.Lo.set x_5 (IntKind.i64.wrap (x_7 - n0))) ++ ((cJ .i64) b_4.Hi))),(102,_)]⟩ rfl (ab.aa (Oc om (Oc (ay cy rfl rfl) ?_)))
    obtain ⟨x_9,e13,h9⟩:=aO h9
    refine Oc (bn bI (a7 e13) (cX e13) rfl rfl rfl) (Oc (aR aQ rfl rfl (dz (post:=[]) (k:=.i64) ((cJ .i64) (b_4.Lo.set x_5 (IntKind.i64.wrap (x_7 - n0)))) e13 rfl rfl rfl)) (Oc om (Oc (bD rfl rfl) (Oc (ay cy rfl rfl) ?_))))
    obtain ⟨x_10,e14,h9⟩:=aO h9
    refine Oc (bn bI (a7 e14) (cX e14) rfl rfl rfl) (Oc (dV aQ rfl rfl rfl (oZ (post:=[]) (k:=.i64) ((cJ .i64) (b_4.Lo.set x_5 (IntKind.i64.wrap (x_7 - n0)))) e14 rfl rfl rfl) (nf (post:=[]) (k:=.i64) ((cJ .i64) (b_4.Lo.set x_5 (IntKind.i64.wrap (x_7 - n0)))) e14 rfl rfl (A3.pH b_4.Hi x_5 (IntKind.i64.wrap (x_9 + n0))) rfl rfl)) ?_)
    refine af.nil (Fin.aw (Fin.ag ⟨[(1,_),(2,_),(4,_),(19,_)],[(101,.box 25 ((cJ .i64) (b_4.Lo.set x_5 (IntKind.i64.wrap (x_7 - n0))) ++ ((cJ .i64) (b_4.Hi.set x_5 (IntKind.i64.wrap (x_9 + n0)))))),(102,_)]⟩ rfl (Fin.then (ab.aa ?_))))
    refine Oc (bD rfl rfl) (Oc om ?_)
    refine af.nil ?_
    exact Fin.ct [1,2,4,19] [101,102] ((⟨b_4.Lo.set x_5 (IntKind.i64.wrap (x_7 - n0)),b_4.Hi.set x_5 (IntKind.i64.wrap (x_9 + n0))⟩:bQ),IntKind.i64.wrap (x_5 + 1)) (Option.some.inj h9) rfl
   ·refine ab.exit (Fin.aC ?_)
    obtain rfl:=hy10 _ (Option.some.inj h9).symm
    refine Fin.aC (Fin.aZ ?_)
    exact Fin.join [2,4] [101,102] b_4 rfl rfl
  ·rintro b_3 hv
   subst v6
   refine ab.seq (ab.seq (ab.aa ?_))
   refine Oc (lp aE) ?_
   obtain ⟨x_11,e15,h⟩:=aO h
   refine Oc (aj (cK e15) l3 rfl rfl) (Oc (eD rfl) ?_)
   refine af.ai ⟨[(2,_),(4,_),(41,B (!x_11))],[(101,_),(102,_)]⟩ rfl (ab.ite h rfl (fun _ h=>?_) (fun _ h=>?_))
   ·refine ab.seq (ab.aa ?_)
    refine Oc (cu l8 rfl rfl) (Oc (aG aE rfl rfl rfl rfl (Nat.le_of_ble_eq_true rfl) rfl) (Oc oa ?_))
    refine af.ai ⟨[(4,_),(5,I 1)],[(102,_)]⟩ rfl (ab.ret (Fin.ar ?_))
    obtain rfl:=Option.some.inj h
    refine Fin.ag ⟨[(4,_),(5,_)],[(102,_)]⟩ rfl (Fin.av [.agg ((cJ .i64) A3.zero ++ ((cJ .i64) A3.zero)),.one (.i 1)] (.inl rfl) rfl (.cons (.agg aE rfl rfl rfl rfl) (.cons (.tmp rfl) .nil)) ⟨rfl,rfl⟩)
   ·refine ab.skip (Fin.ag ⟨[(2,_),(4,_)],[(101,_),(102,_)]⟩ rfl (Fin.then (ab.seq (ab.aa ?_))))
    refine Oc (lp aE) (Oc (aG aE rfl rfl rfl rfl (Nat.le_of_ble_eq_true rfl) rfl) (Oc oa ?_))
    refine af.ai ⟨[(4,_),(5,I 0)],[(102,.box 25 (ak b_3))]⟩ rfl (ab.ret ?_)
    obtain rfl:=Option.some.inj h
    refine Fin.ag ⟨[(4,_),(5,_)],[(102,_)]⟩ rfl (Fin.av [.agg (ak b_3),.one (.i 0)] (.inl rfl) rfl (.cons (.agg aE rfl rfl rfl rfl) (.cons (.tmp rfl) .nil)) ⟨rfl,rfl⟩)
def bL (F:Nat) (a0:Int) (b0:Int) (c0:Int) (d0:Int) (e0:Int) (f0:Int):Option bQ :=
 eC (⟨(⟨a0,b0,c0⟩:A3),(⟨d0,e0,f0⟩:A3)⟩:bQ) fun x_1=>some x_1
theorem ca {F:Nat} {a0:Int} {b0:Int} {c0:Int} {d0:Int} {e0:Int} {f0:Int} {r:bQ} (h:bL F a0 b0 c0 d0 e0 f0 = some r):ao Tryz.prog [] 39 [] [.one (.i a0),.one (.i b0),.one (.i c0),.one (.i d0),.one (.i e0),.one (.i f0)] (Is [] (.b (.agg (ak r)))):=by
 unfold bL at h
 refine ao.intro 22 Tryz.func39 Tryz.ntmps39 rfl (by simp) fun E=>?_
 show ab _ E ⟨22,[],[],[]⟩ _ ⟨[(0,I a0),(1,I b0),(2,I c0),(3,I d0),(4,I e0),(5,I f0)],[]⟩ _
 refine ab.seq (ab.aa ?_)
 refine Oc (a8 (k:=101) fi rfl) (af.ai ⟨[(0,I a0),(1,I b0),(2,I c0),(3,I d0),(4,I e0),(5,I f0),(12,Pt 101 0)],[(101,.box 25 ((cJ .i64) A3.zero ++ ((cJ .i64) A3.zero)))]⟩ rfl (ab.seq (ab.aa ?_)))
 refine Oc om (Oc om (Oc om (Oc (dm oy rfl rfl) (Oc om (Oc om ?_)))))
 refine Oc om (af.ag ⟨[(12,_),(16,.b (.agg [.i a0,.i b0,.i c0])),(17,I d0),(18,I e0),(19,I f0)],[(101,_)]⟩ rfl (Oc (dm oy rfl rfl) (af.lv ak h rfl (cu l8 rfl rfl) (fun x_1 h=>?_))))
 refine Oc (aG aE rfl rfl rfl rfl (Nat.le_of_ble_eq_true rfl) rfl) (af.ai ⟨[(12,_)],[(101,.box 25 (ak x_1))]⟩ rfl (ab.ret ?_))
 obtain rfl:=Option.some.inj h
 refine Fin.ag ⟨[(12,_)],[(101,_)]⟩ rfl (Fin.av [.agg (ak x_1)] (.inl rfl) rfl (.cons (.agg aE rfl rfl rfl rfl) .nil) ⟨rfl,rfl⟩)
def b8 (F:Nat) (a0:bQ) (b0:bQ):Option Bool :=
 Option.bind (iter F (fun x_1=>if (decide (x_1 < 3)) = true then ((aX a0.Hi.l x_1).bind fun x_2=>(aX b0.Lo.l x_1).bind fun x_3=>(a6 (!(decide (x_2 < x_3))) (aX b0.Hi.l x_1)).bind fun x_4=>(a6 (!(decide (x_2 < x_3))) (aX a0.Lo.l x_1)).bind fun x_5=>if ((decide (x_2 < x_3)) || (decide (x_4 < x_5))) = true then (some (.inr (.inr false))) else (some (.inl (IntKind.i64.wrap (x_1 + 1))))) else (some (.inr (.inl ())))) 0) (b5 (fun _=>some true) (fun y=>some y))
theorem cW {F:Nat} {a0:bQ} {b0:bQ} {r:Bool} (h:b8 F a0 b0 = some r):ao Tryz.prog [] 16 [] [.agg (ak a0),.agg (ak b0)] (Is [] (.b (.one (.bool r)))):=by
 unfold b8 at h
 refine ao.intro 30 Tryz.func16 Tryz.ntmps16 rfl (by simp) fun E=>?_
 show ab _ E ⟨30,[],[],[]⟩ _ ⟨[(0,.b (.agg (ak a0))),(1,.b (.agg (ak b0)))],[]⟩ _
 refine ab.seq (ab.aa ?_)
 refine Oc (bW (k:=101) rfl rfl) (Oc (bW (k:=102) rfl rfl) (Oc oa ?_))
 refine af.ai ⟨[(2,Pt 101 0),(3,Pt 102 0)],[(101,.box 25 (ak a0)),(102,.box 25 (ak b0))]⟩ rfl ?_
 obtain ⟨v1,h2,h⟩:=aO h
 refine ab.eb (v:=v1) (fun (_:Unit)=>⟨[],[]⟩) (fun z=>.inl z) ?_ ?_
 ·refine ab.seq (ab.aa ?_)
  refine Oc om (af.ai ⟨[(2,_),(3,_),(6,I 0)],[(101,_),(102,_)]⟩ rfl (ab.block (ab.de h2 (fun (x_1:Int)=>⟨[(2,Pt 101 0),(3,Pt 102 0),(6,I x_1)],[(101,.box 25 (ak a0)),(102,.box 25 (ak b0))]⟩) [2,3,6] [101,102] rfl ?_)))
  rintro x_1 o3 h4 hy5
  refine ab.seq (ab.aa ?_)
  refine Oc (bu rfl rfl) (af.ai ⟨[(2,_),(3,_),(6,_),(7,B (decide (x_1 < 3)))],[(101,_),(102,_)]⟩ rfl (ab.seq (ab.ite h4 rfl (fun _ h4=>?_) (fun _ h4=>?_))))
  ·refine ab.skip (Fin.ag ⟨[(2,_),(3,_),(6,_)],[(101,_),(102,_)]⟩ rfl (Fin.then (ab.seq (ab.block (ab.seq (ab.aa ?_))))))
   refine Oc om (Oc oa ?_)
   refine af.ai ⟨[(2,_),(3,_),(5,I x_1),(6,_)],[(101,_),(102,_)]⟩ rfl (ab.seq ?_)
   obtain ⟨x_2,e6,h4⟩:=aO h4
   obtain ⟨x_3,e7,h4⟩:=aO h4
   obtain ⟨x_4,e11,h4⟩:=aO h4
   obtain ⟨x_5,e16,h4⟩:=aO h4
   refine ab.bZ mixed 20 [I x_1,Pt 101 3,.b (.ptr 101 (3 + (x_1:Int).toNat * 1)),I x_2,I x_1,Pt 102 0,.b (.ptr 102 (0 + (x_1:Int).toNat * 1)),I x_3,B (decide (x_2 < x_3)),B (decide (x_2 < x_3)),.opt (!(decide (x_2 < x_3))) (.one (.i x_1)),.opt (!(decide (x_2 < x_3))) (.ptr 102 3),.opt (!(decide (x_2 < x_3))) (.ptr 102 (3 + (x_1:Int).toNat * 1)),.opt (!(decide (x_2 < x_3))) (.one (.i x_4)),.opt (!(decide (x_2 < x_3))) (.one (.i x_1)),.opt (!(decide (x_2 < x_3))) (.ptr 101 0),.opt (!(decide (x_2 < x_3))) (.ptr 101 (0 + (x_1:Int).toNat * 1)),.opt (!(decide (x_2 < x_3))) (.one (.i x_5)),.opt (!(decide (x_2 < x_3))) (.one (.bool (decide (x_4 < x_5)))),B ((decide (x_2 < x_3)) || (decide (x_4 < x_5)))] [2,3,6,28] [101,102] (s':=⟨[(2,_),(3,_),(6,_),(28,B ((decide (x_2 < x_3)) || (decide (x_4 < x_5))))],[(101,_),(102,_)]⟩) rfl ⟨fun _=>.p om,fun _=>.p (ay cy rfl rfl),fun _=>.p (bn bI (a7 e6) (cX e6) rfl rfl rfl),fun _=>.p (aR aQ rfl rfl (dz (post:=[]) (k:=.i64) ((cJ .i64) a0.Lo) e6 rfl rfl rfl)),fun _=>.p om,fun _=>.p (ay cz rfl rfl),fun _=>.p (bn bI (a7 e7) (cX e7) rfl rfl rfl),fun _=>.p (aR aQ rfl rfl (dz (post:=((cJ .i64) b0.Hi)) (k:=.i64) [] e7 rfl rfl rfl)),fun _=>.p (bu rfl rfl),fun _=>.p om,fun _=>by exact .guard (!(decide (x_2 < x_3))) 1 [] (.plain rfl) (cC _) rfl rfl (fun g8=>trivial) (fun g8=>om),fun _=>by exact .guard (!(decide (x_2 < x_3))) 1 [] (.plain rfl) (cC _) rfl rfl (fun g9=>trivial) (fun g9=>ay cy rfl rfl),fun _=>by exact .guard (!(decide (x_2 < x_3))) 3 [19,20] (.plain rfl) (cC _) rfl rfl (fun g10=>⟨g10,g10,trivial⟩) (fun g10=>bn bI (a7 (gc e11 g10)) (cX (gc e11 g10)) rfl rfl rfl),fun _=>by exact .guard (!(decide (x_2 < x_3))) 2 [21] (.plain rfl) (cC _) rfl rfl (fun g12=>⟨g12,trivial⟩) (fun g12=>aR aQ rfl rfl (dz (post:=[]) (k:=.i64) ((cJ .i64) b0.Lo) (gc e11 g12) rfl rfl rfl)),fun _=>by exact .guard (!(decide (x_2 < x_3))) 1 [] (.plain rfl) (cC _) rfl rfl (fun g13=>trivial) (fun g13=>om),fun _=>by exact .guard (!(decide (x_2 < x_3))) 1 [] (.plain rfl) (cC _) rfl rfl (fun g14=>trivial) (fun g14=>ay cz rfl rfl),fun _=>by exact .guard (!(decide (x_2 < x_3))) 3 [23,24] (.plain rfl) (cC _) rfl rfl (fun g15=>⟨g15,g15,trivial⟩) (fun g15=>bn bI (a7 (gc e16 g15)) (cX (gc e16 g15)) rfl rfl rfl),fun _=>by exact .guard (!(decide (x_2 < x_3))) 2 [25] (.plain rfl) (cC _) rfl rfl (fun g17=>⟨g17,trivial⟩) (fun g17=>aR aQ rfl rfl (dz (post:=((cJ .i64) a0.Hi)) (k:=.i64) [] (gc e16 g17) rfl rfl rfl)),fun _=>by exact .guard (!(decide (x_2 < x_3))) 3 [22,26] (.plain rfl) (cC _) rfl rfl (fun g18=>⟨g18,g18,trivial⟩) (fun g18=>bu rfl rfl),fun _=>.p (c7 (fun e=>by first | (rw [e]; rfl) | (simp only at e; rw [e]; rfl)) rfl rfl rfl rfl),trivial⟩ rfl rfl ?_
   refine ab.ite h4 rfl (fun _ h4=>?_) (fun _ h4=>?_)
   ·refine ab.seq (ab.aa ?_)
    refine Oc oa (af.ai ⟨[(4,B false)],[]⟩ rfl (ab.ret (Fin.aP (Fin.ar ?_))))
    obtain rfl:=hy5 _ (Option.some.inj h4).symm
    refine Fin.ar (Fin.aP (Fin.ar ?_))
    obtain rfl:=Option.some.inj h
    refine Fin.ag ⟨[(4,_)],[]⟩ rfl (Fin.av [.one (.bool false)] (.inl rfl) rfl (.cons (.tmp rfl) .nil) ⟨rfl,rfl⟩)
   ·refine ab.skip (Fin.aw (Fin.ag ⟨[(2,_),(3,_),(6,_)],[(101,_),(102,_)]⟩ rfl (Fin.then (ab.aa ?_))))
    refine Oc (bD rfl rfl) (Oc om ?_)
    refine af.nil ?_
    exact Fin.ct [2,3,6] [101,102] (IntKind.i64.wrap (x_1 + 1)) (Option.some.inj h4) rfl
  ·refine ab.exit (Fin.aC ?_)
   obtain rfl:=hy5 _ (Option.some.inj h4).symm
   refine Fin.aC (Fin.aZ ?_)
   exact Fin.join [] [] () rfl rfl
 ·rintro _ hv
  subst v1
  refine ab.seq (ab.aa ?_)
  refine Oc oa (af.ai ⟨[(4,B true)],[]⟩ rfl (ab.ret ?_))
  obtain rfl:=Option.some.inj h
  refine Fin.ag ⟨[(4,_)],[]⟩ rfl (Fin.av [.one (.bool true)] (.inl rfl) rfl (.cons (.tmp rfl) .nil) ⟨rfl,rfl⟩)
def dD (F:Nat) (n0:cB bc) (v0c:bQ):Option Bool :=
 Option.bind (iI n0) (fun nd_1=>(b8 F nd_1.1.cover v0c).bind fun x_2=>some x_2)
theorem js {F:Nat} {n0:cB bc} {v0c:bQ} {r:Bool} (h:dD F n0 v0c = some r):ao Tryz.prog [] 74 [] [.one (.tr ae n0),.aJ (ak v0c)] (Is [] (.b (.one (.bool r)))):=by
 unfold dD at h
 refine ao.intro 10 Tryz.func74 Tryz.ntmps74 rfl (by simp) fun E=>?_
 show ab _ E ⟨10,[],[],[]⟩ _ ⟨[(0,.b (.one (.tr ae n0))),(1,.b (.aJ (ak v0c)))],[]⟩ _
 refine ab.seq (ab.aa ?_)
 refine Oc oa (af.ai ⟨[(0,.b (.one (.tr ae n0))),(1,.b (.aJ (ak v0c)))],[]⟩ rfl (ab.seq ?_))
 obtain ⟨nd_1,e1,h⟩:=aO h
 obtain ⟨x_2,e2,h⟩:=aO h
 refine ab.bZ mixed 7 [.b (.one (.tr ae n0)),.b (.aJ (an nd_1.1.x ++ (.int .u64 nd_1.1.priority :: (ak nd_1.1.cover ++ ([.tr ae nd_1.2.1,.tr ae nd_1.2.2]))))),.b (.aJ (ak nd_1.1.cover ++ ([.tr ae nd_1.2.1,.tr ae nd_1.2.2]))),.b (.agg (ak nd_1.1.cover)),.b (.agg (ak v0c)),B x_2,B x_2] [3] [] (s':=⟨[(3,B x_2)],[]⟩) rfl ⟨fun _=>.p om,fun _=>.p (aD e1 rfl rfl),fun _=>by exact .p (aA iS rfl rfl),fun _=>.p (cn aE rfl rfl rfl),fun _=>.p (cn aE rfl rfl rfl),fun _=>.p (aj (cW e2) lZ rfl rfl),fun _=>.p oa,trivial⟩ rfl rfl (ab.ret ?_)
 obtain rfl:=Option.some.inj h
 refine Fin.ag ⟨[(3,_)],[]⟩ rfl (Fin.av [.one (.bool x_2)] (.inl rfl) rfl (.cons (.tmp rfl) .nil) ⟨rfl,rfl⟩)
def jR (F:Nat) (a00:cB bc):Option Bool :=
 some true
theorem lU {F:Nat} {a00:cB bc} {r:Bool} (h:jR F a00 = some r):ao Tryz.prog [] 58 [] [.one (.tr ae a00)] (Is [] (.b (.one (.bool r)))):=by
 unfold jR at h
 refine ao.intro 3 Tryz.func58 Tryz.ntmps58 rfl (by simp) fun E=>?_
 show ab _ E ⟨3,[],[],[]⟩ _ ⟨[(0,.b (.one (.tr ae a00)))],[]⟩ _
 refine ab.seq (ab.aa ?_)
 refine Oc oa (af.ai ⟨[],[]⟩ rfl (ab.seq (ab.aa ?_)))
 refine Oc oa (af.ai ⟨[(2,B true)],[]⟩ rfl (ab.ret ?_))
 obtain rfl:=Option.some.inj h
 refine Fin.ag ⟨[(2,_)],[]⟩ rfl (Fin.av [.one (.bool true)] (.inl rfl) rfl (.cons (.tmp rfl) .nil) ⟨rfl,rfl⟩)
section
variable {P:Program} {TB:aS} {m:Nat} {s:St} {ops:Array Oper} {l:List Oper} {Q:bA} {o:Oper}
theorem km {E:Env TB} {d:Nat} (K:Bool → PH → World → Prop) (hK:∀ b h w,K b h w → je h w ∧ cg TB h w) (hown:s.own = []) (hdm:d < m)
    (hop:∀ a w h ρ,WR E ⟨m,[],[],[]⟩ [] h ρ w → aM h ρ s.slots a.tmps → ∀ (K':Act → World → Prop),(∀ b h' w',h.le h' → K b h' w' → K' (a.put (some d) (.bool b)) w') → o.wpIn Fence.wide 0 P a w K' Q)
    (hnext:∀ b h' ρ w' (tb:cg TB h' w'),K b h' w' → aW P (⟨w',h',ρ,tb⟩:Env TB) ⟨m,[],[],[]⟩ Fence.wide ops l ⟨(d,B b) :: del d s.slots,[]⟩ Q) :
    ∀ a w,R E ⟨m,[],[],[]⟩ s a w → o.wpIn Fence.wide 0 P a w (lh P Fence.wide ops Q l) Q:=by
  rintro a w ⟨hd,hn,h,ρ,hw,hs⟩
  rw [hown] at hw
  refine hop a w h ρ hw hs _ fun b h' w' hle hk=>?_
  obtain ⟨hag,htb⟩:=hK b h' w' hk
  refine hnext b h' ρ w' htb hk _ w' (R.fresh htb hag hd (by simpa [Act.put] using hn) ?_)
  exact aM.set (hs.mono hle) hn hdm rfl
theorem aW.stepU {E:Env TB} {n:Sh} {F:Fence} (hg:o.guard = none) (h:∀ a w,R E n s a w → o.wpIn F 0 P a w (lh P F ops Q l) Q):aW P E n F ops (o :: l) s Q:=by
  intro a w hr
  unfold lh
  have:Region.wanted o (yielded ops a.tmps) = true:=by simp [Region.wanted,hg]
  simp only [this,if_true]
  exact h a w hr
end
theorem tQ:cE Tryz.prog 98:=⟨⟨_,Tryz.underlying98,rfl⟩,⟨Tryz.t98,by kernel_rfl,by kernel_rfl⟩⟩
theorem goes58':br Tryz.prog 58:=⟨Tryz.call58⟩
theorem goes74':br Tryz.prog 74:=⟨Tryz.call74⟩
theorem ph:br Tryz.prog 78:=⟨Tryz.call78⟩
def rL (c:CP) (p:cB bc → Option Bool):Prop :=
  ∀ {E:Env []} {m:Nat} {sl:List (Nat × SV)} {dst:Option Nat} {ats:Array TypeId} {ty:TypeId} {pos:String} {after:Array Edge} {g:Option (Nat × Bool)} {x y:Operand} {t:cB bc} {z:Bool},
    p t = some z → (⟨sl,[]⟩:St).ev x = some (.b (.one c)) → (⟨sl,[]⟩:St).ev y = some (.b (.one (CP.tr ae t))) → bj Tryz.prog E ⟨m,[],[],[]⟩ ⟨dst,.call ⟨.value x,#[y],ats⟩,ty,pos,after,g⟩ ⟨sl,[]⟩ ((⟨sl,[]⟩:St).put ⟨m,[],[],[]⟩ dst (B z))
theorem pA:rL (.raw (.func (.func 58) #[] #[])) (fun _=>some true):=by
  intro E n sl dst ats ty pos after g x y t z hz hx hy
  exact iB (args:=[.one (CP.tr ae t)]) (lU (F:=0) hz) goes58' hx (by simp [fc,evB,hy]) rfl
theorem qy {F:Nat} {b:bQ}:rL (.eY 74 [CP.rp (ak b)]) (fun t=>dD F t b):=by
  intro E n sl dst ats ty pos after g x y t z hz hx hy
  have h:=nB (E:=E) (n:=⟨n,[],[],[]⟩) (s:=⟨sl,[]⟩) (dst:=dst) (ty:=ty) (pos:=pos) (after:=after) (g:=g) (ats:=ats) (x:=x) (xs:=#[y]) (zs:=[.one (CP.tr ae t)]) (pss:=[ak b]) (own_a:=[]) (own':=[]) (js hz) goes74' hx (by simp [fc,evB,hy]) rfl trivial rfl rfl rfl
  have e:(⟨sl,[]⟩:St).aft ⟨n,[],[],[]⟩ [] [] dst (B z) = (⟨sl,[]⟩:St).put ⟨n,[],[],[]⟩ dst (B z):=by
    rfl
  rw [← e]
  exact h
theorem ql {t:cB bc} {c:CP}:ao Tryz.prog [] 57 [] [.one (CP.tr ae t),.one c] (Is [] (.b (.one (.eY 77 [CP.rp [CP.tr ae t],CP.rp [c]])))):=by
  refine ao.intro 6 Tryz.func57 Tryz.ntmps57 rfl (by simp) fun E=>?_
  show ab _ E ⟨6,[],[],[]⟩ _ ⟨[(0,.b (.one (CP.tr ae t))),(1,.b (.one c))],[]⟩ _
  refine ab.seq ?_
  refine ab.aa ?_
  refine af.cons rfl (pc rfl) ?_
  refine af.cons rfl (pc rfl) ?_
  refine af.cons rfl (bR rfl) ?_
  refine af.nilK [2,3] [] (s':=⟨[(2,.b (.aJ [CP.tr ae t])),(3,.b (.aJ [c]))],[]⟩) rfl ?_
  refine ab.seq ?_
  refine ab.aa ?_
  refine af.cons rfl (gp rfl) ?_
  refine af.cons rfl (bR rfl) ?_
  refine af.nilK [4] [] (s':=⟨[(4,.b (.one (.eY 77 [CP.rp [CP.tr ae t],CP.rp [c]])))],[]⟩) rfl ?_
  refine ab.ret ?_
  exact Fin.av [.one (.eY 77 [CP.rp [CP.tr ae t],CP.rp [c]])] (.inl rfl) rfl (.cons (.tmp rfl) .nil) ⟨rfl,rfl⟩
section
variable {J:Nat → PH → World → Prop} {Jx:PH → World → Prop} {L:Nat} {c:CP} {p:cB bc → Option Bool} {all:List entry}
def Kv (J:Nat → PH → World → Prop) (Jx:PH → World → Prop) (h0:PH) (k:Nat) (b:Bool) (h:PH) (w:World):Prop:=h0.le h ∧ (if b = true then J k h w else Jx h w)
theorem Kv.ok (hJ:∀ k,kA [] (J k)) (hJx:kA [] Jx) {h0:PH} {k:Nat} {b:Bool} {h:PH} {w:World} (hk:Kv J Jx h0 k b h w):je h w ∧ cg [] h w:=by
  cases b with
  | true=>exact (hJ k).1 h w hk.2
  | false=>exact hJx.1 h w (by simpa [Kv] using hk.2)
theorem Kv.go (hJ:∀ k,kA [] (J k)) (hJx:kA [] Jx) {h0:PH} {k:Nat} {b:Bool} {h h':PH} {w w':World} {tb:cg [] h w} {ρ ρ':RM} {own':List (Nat × OC)} {m:Nat} (hk:Kv J Jx h0 k b h w) (hw:WR (⟨w,h,ρ,tb⟩:Env []) ⟨m,[],[],[]⟩ own' h' ρ' w'):Kv J Jx h0 k b h' w':=by
  refine ⟨PH.le_trans hk.1 hw.le,?_⟩
  cases b with
  | true=>exact (hJ k).2 h w hk.2 tb ρ h' ρ' w' own' m hw
  | false=>exact hJx.2 h w (by simpa [Kv] using hk.2) tb ρ h' ρ' w' own' m hw
def VisEnd (J:Nat → PH → World → Prop) (Jx:PH → World → Prop) (h0:PH) (k:Nat) (e:Ending) (w:World):Prop:=∃ b h,e = .returned (.bool b) ∧ Kv J Jx h0 k b h w
theorem qn (hJ:∀ k,kA [] (J k)) (hJx:kA [] Jx) (hp:rL c p)
    (hround:∀ k x h W vals,all[k]? = some x → J k h W → aK (fun (x:BV) v=>∀ ρ,x.rel h ρ v) (sS x) vals →
      YieldAt Fence.wide 0 Tryz.prog L vals.toArray W fun e W'=>(e = .returned (.bool true) ∧ ∃ h',h.le h' ∧ J (k + 1) h' W') ∨ (e = .returned (.bool false) ∧ ∃ h',h.le h' ∧ Jx h' W')) :
    ∀ (t:cB bc) (ys:List entry) (k:Nat),sg p t = some ys → (∀ i x,ys[i]? = some x → all[k + i]? = some x) → ∀ h W v1 v2,J k h W → (CP.tr ae t).rel h v1 → c.rel h v2 →
      Calls Tryz.prog 78 #[v1,v2,.func (.yield L) #[] #[]] W (VisEnd J Jx h (k + ys.length)):=by
  intro t
  induction t with
  | leaf=>
    intro ys k hv hall h W v1 v2 hj h1 h2
    cases hv
    refine callsIn_wide.1 (callsIn_of_wp (n:=0) (F:=Fence.wide) Tryz.func78 rfl trivial ?_)
    obtain ⟨hs0,hn0⟩:=k8 (m:=39) (h:=h) (ρ:=fun _=>.bool false) (args:=[.one (CP.tr ae .leaf),.one c,.one (.raw (.func (.yield L) #[] #[]))]) (vals:=[v1,v2,.func (.yield L) #[] #[]])
      (.cons h1 (.cons h2 (.cons ⟨rfl,rfl⟩ .nil))) (Nat.le_of_ble_eq_true rfl)
    obtain ⟨hag0,htb0⟩:=(hJ k).1 h W hj
    have hk0:Kv J Jx h k true h W:=⟨PH.le_refl h,by simpa using hj⟩
    generalize hQo:bodyPost Tryz.prog _ _ = Qo
    have hlo:¬ LetsOut Qo:=by
      rw [← hQo]
      rintro ⟨a,w,b,h',he,_⟩
      cases he
    have hend:∀ (b:Bool) (w0:World) (h0:PH) (ρ0:RM) (tb:cg [] h0 w0),Kv J Jx h (k + 0) b h0 w0 → Fin (⟨w0,h0,ρ0,tb⟩:Env []) ⟨39,[],[],[]⟩ .ret ⟨[(6,B b)],[]⟩ Qo:=by
      rintro b w0 h0 ρ0 tb hK a w ⟨hd,hn,h',ρ',hw,hs⟩
      rw [← hQo]
      obtain ⟨v,hv,hrel⟩:=fS (P:=Tryz.prog) (fn:=Tryz.f78) (s:=⟨[(6,B b)],[]⟩) (zs:=[.one (.bool b)]) (.cons (.tmp rfl) .nil) hw hs
      have hv':v = .bool b:=hrel
      exact ⟨hd,v,hv w (bU.refl w),b,h',by rw [hv'],hK.go hJ hJx hw⟩
    refine (show aV Tryz.prog (⟨W,h,fun _=>.bool false,htb0⟩:Env []) ⟨39,[],[],[]⟩ Fence.wide _ ⟨_,[]⟩ Qo from ?_) hlo _ _ (R.fresh htb0 hag0 rfl hn0 hs0)
    clear hs0 hn0
    refine aV.seq ?_
    refine aV.aa (.inl rfl) ?_
    refine af.cons rfl (bR rfl) ?_
    refine af.nil ?_
    refine Fin.keep [0,1,2] [] (s':=⟨[(0,.b (.one (CP.tr ae .leaf))),(1,.b (.one c)),(2,.b (.one (.raw (.func (.yield L) #[] #[]))))],[]⟩) rfl ?_
    refine Fin.ga ?_ hlo
    refine aV.seq ?_
    refine aV.seq ?_
    refine aV.mZ (.inl rfl) ?_
    refine aW.cons (.inl rfl) rfl (aU rfl) ?_
    refine aW.cons (.inl rfl) rfl (eU kQ rfl) ?_
    refine aW.cons (.inl rfl) rfl (aU rfl) ?_
    refine aW.dO (.plain (t:=9) rfl) rfl rfl rfl (.one .any) ?_
    refine aW.dO (.plain (t:=9) rfl) rfl rfl rfl (.one .any) ?_
    refine aW.dO (.plain (t:=9) rfl) rfl rfl rfl (.one .any) ?_
    refine aW.dO (.plain (t:=9) rfl) rfl rfl rfl (.one (.bool true)) ?_
    refine aW.cons (.inl rfl) rfl (c7 (fun e=>Bool.noConfusion e) rfl rfl rfl) ?_
    refine aW.nil ?_
    refine Fin.keep [14] [] (s':=⟨[(14,B true)],[]⟩) rfl ?_
    refine Fin.ga ?_ (gG hlo)
    refine aV.cond rfl (fun he=>?_) (fun he=>absurd he (by decide))
    refine aV.seq ?_
    refine aV.aa (.inl rfl) ?_
    refine af.cons rfl (bR rfl) ?_
    refine af.nil ?_
    refine Fin.keep [6] [] (s':=⟨[(6,B true)],[]⟩) rfl ?_
    refine Fin.ga ?_ (gG hlo)
    refine aV.ret ?_
    exact Fin.ar (hend true W h _ htb0 (by simpa using hk0))
  | node a l r ihl ihr=>
    intro ys k hv hall h W v1 v2 hj h1 h2
    refine callsIn_wide.1 (callsIn_of_wp (n:=0) (F:=Fence.wide) Tryz.func78 rfl trivial ?_)
    obtain ⟨hs0,hn0⟩:=k8 (m:=39) (h:=h) (ρ:=fun _=>.bool false) (args:=[.one (CP.tr ae (.node a l r)),.one c,.one (.raw (.func (.yield L) #[] #[]))]) (vals:=[v1,v2,.func (.yield L) #[] #[]])
      (.cons h1 (.cons h2 (.cons ⟨rfl,rfl⟩ .nil))) (Nat.le_of_ble_eq_true rfl)
    obtain ⟨hag0,htb0⟩:=(hJ k).1 h W hj
    have hk0:Kv J Jx h k true h W:=⟨PH.le_refl h,by simpa using hj⟩
    generalize hQo:bodyPost Tryz.prog _ _ = Qo
    have hlo:¬ LetsOut Qo:=by
      rw [← hQo]
      rintro ⟨a,w,b,h',he,_⟩
      cases he
    have hend:∀ (b:Bool) (w0:World) (h0:PH) (ρ0:RM) (tb:cg [] h0 w0),Kv J Jx h (k + ys.length) b h0 w0 → Fin (⟨w0,h0,ρ0,tb⟩:Env []) ⟨39,[],[],[]⟩ .ret ⟨[(6,B b)],[]⟩ Qo:=by
      rintro b w0 h0 ρ0 tb hK a w ⟨hd,hn,h',ρ',hw,hs⟩
      rw [← hQo]
      obtain ⟨v,hv,hrel⟩:=fS (P:=Tryz.prog) (fn:=Tryz.f78) (s:=⟨[(6,B b)],[]⟩) (zs:=[.one (.bool b)]) (.cons (.tmp rfl) .nil) hw hs
      have hv':v = .bool b:=hrel
      exact ⟨hd,v,hv w (bU.refl w),b,h',by rw [hv'],hK.go hJ hJx hw⟩
    refine (show aV Tryz.prog (⟨W,h,fun _=>.bool false,htb0⟩:Env []) ⟨39,[],[],[]⟩ Fence.wide _ ⟨_,[]⟩ Qo from ?_) hlo _ _ (R.fresh htb0 hag0 rfl hn0 hs0)
    clear hs0 hn0
    refine aV.seq ?_
    refine aV.aa (.inl rfl) ?_
    refine af.cons rfl (bR rfl) ?_
    refine af.nil ?_
    refine Fin.keep [0,1,2] [] (s':=⟨[(0,.b (.one (CP.tr ae (.node a l r)))),(1,.b (.one c)),(2,.b (.one (.raw (.func (.yield L) #[] #[]))))],[]⟩) rfl ?_
    refine Fin.ga ?_ hlo
    refine aV.seq ?_
    refine aV.seq ?_
    refine aV.mZ (.inl rfl) ?_
    refine aW.cons (.inl rfl) rfl (aU rfl) ?_
    refine aW.cons (.inl rfl) rfl (eU kQ rfl) ?_
    refine aW.cons (.inl rfl) rfl (aU rfl) ?_
    obtain ⟨cb,hcb,hv⟩:=Option.bind_eq_some_iff.1 hv
    refine aW.gA (.inl rfl) (.plain (t:=9) rfl) rfl rfl rfl (aU rfl) ?_
    refine aW.gA (.inl rfl) (.plain (t:=9) rfl) rfl rfl rfl (aU rfl) ?_
    refine aW.gA (.inl rfl) (.plain (t:=9) rfl) rfl rfl rfl (hp hcb rfl rfl) ?_
    refine aW.gA (.inl rfl) (.plain (t:=9) rfl) rfl rfl rfl (eD rfl) ?_
    refine aW.opt 13 rfl ?_
    refine aW.cons (.inl rfl) rfl (c7 (fun _=>rfl) rfl rfl rfl) ?_
    refine aW.nil ?_
    refine Fin.keep [0,1,2,14] [] (s':=⟨[(0,.b (.one (CP.tr ae (.node a l r)))),(1,.b (.one c)),(2,.b (.one (.raw (.func (.yield L) #[] #[])))),(14,B (false || !cb))],[]⟩) rfl ?_
    refine Fin.ga ?_ (gG hlo)
    refine aV.cond rfl (fun he=>?_) (fun he=>?_)
    · have hcb':cb = false:=by simpa using he
      subst hcb'
      have hys:ys = []:=by simpa using hv.symm
      subst hys
      refine aV.seq ?_
      refine aV.aa (.inl rfl) ?_
      refine af.cons rfl (bR rfl) ?_
      refine af.nil ?_
      refine Fin.keep [6] [] (s':=⟨[(6,B true)],[]⟩) rfl ?_
      refine Fin.ga ?_ (gG hlo)
      refine aV.ret ?_
      exact Fin.ar (hend true W h _ htb0 (by simpa using hk0))
    have hcb':cb = true:=by simpa using he
    subst hcb'
    rw [if_pos rfl] at hv
    obtain ⟨xs,hxs,hv⟩:=Option.bind_eq_some_iff.1 hv
    obtain ⟨zs,hzs,hv⟩:=Option.bind_eq_some_iff.1 hv
    have hys:ys = xs ++ a.x :: zs:=(Option.some.inj hv).symm
    subst hys
    have hlen:k + (xs ++ a.x :: zs).length = k + xs.length + 1 + zs.length:=by simp; omega
    refine aV.skip ?_
    refine Fin.keep [0,1,2] [] (s':=⟨[(0,.b (.one (CP.tr ae (.node a l r)))),(1,.b (.one c)),(2,.b (.one (.raw (.func (.yield L) #[] #[]))))],[]⟩) rfl ?_
    refine Fin.ga ?_ hlo
    refine aV.seq ?_
    refine aV.mZ (.inl rfl) ?_
    refine aW.cons (.inl rfl) rfl (aU rfl) ?_
    refine aW.cons (.inl rfl) rfl (aD (z:=(a,l,r)) (qs:=ae a ++ [CP.tr ae l,CP.tr ae r]) rfl rfl rfl) ?_
    refine aW.cons (.inl rfl) rfl (aA (qs:=[CP.tr ae l,CP.tr ae r]) dB rfl rfl) ?_
    refine aW.cons (.inl rfl) rfl (aq (p:=CP.tr ae l) bp rfl rfl) ?_
    refine aW.cons (.inl rfl) rfl (aU rfl) ?_
    refine aW.cons (.inl rfl) rfl (aU rfl) ?_
    refine aW.stepU rfl (km (d:=21) (Kv J Jx h (k + xs.length)) (fun b h w hk=>hk.ok hJ hJx) rfl (by decide) ?_ ?_)
    · intro a1 w1 h1' ρ1 hw1 hs1 K' hK'
      have hj1:=hk0.go hJ hJx hw1
      have e20:a1.eval (.tmp 20) = .func (.yield L) #[] #[]:=(aI hs1 (o:=.tmp 20) rfl:(CP.raw _).rel h1' _).1
      refine jY (.inl rfl) rfl (fun a w h=>h) ?_
      unfold Oper.wp
      rw [iy ph a1 w1]
      show Calls Tryz.prog 78 [a1.eval (.tmp 18),a1.eval (.tmp 19),a1.eval (.tmp 20)].toArray w1 _
      rw [e20]
      refine (ihl xs k hxs (fun i x hi=>hall i x (by rw [List.getElem?_append_left (List.getElem?_eq_some_iff.1 hi).1]; exact hi)) h1' w1 _ _ hj1.2 (aI hs1 (o:=.tmp 18) rfl) (aI hs1 (o:=.tmp 19) rfl)).mono ?_
      rintro e w' ⟨b,h',rfl,hk⟩
      exact hK' b h' w' hk.1 ⟨PH.le_trans hj1.1 hk.1,hk.2⟩
    intro b1 h2 ρ2 w2 tb2 hk1
    refine aW.keep [0,1,2,21] [] (s':=⟨[(0,.b (.one (CP.tr ae (.node a l r)))),(1,.b (.one c)),(2,.b (.one (.raw (.func (.yield L) #[] #[])))),(21,B b1)],[]⟩) rfl ?_
    refine aW.cons (.inl rfl) rfl (aU rfl) ?_
    cases b1 with
    | false=>
      refine aW.dO (.plain (t:=22) rfl) rfl rfl rfl (.one .any) ?_
      refine aW.dO (.plain (t:=22) rfl) rfl rfl rfl (.one .any) ?_
      refine aW.dO (.plain (t:=22) rfl) rfl rfl rfl (.one .any) ?_
      refine aW.dO (.plain (t:=22) rfl) rfl rfl rfl (.one .any) ?_
      refine aW.dO (.plain (t:=22) rfl) rfl rfl rfl (.one .any) ?_
      refine aW.dO (.plain (t:=22) rfl) rfl rfl rfl (.one (.bool true)) ?_
      refine aW.cons (.inl rfl) rfl (aF (fun e=>Bool.noConfusion e) rfl rfl rfl) ?_
      refine aW.cons (.inl rfl) rfl (aU rfl) ?_
      refine aW.dO (.plain (t:=30) rfl) rfl rfl rfl (.one .any) ?_
      refine aW.dO (.plain (t:=30) rfl) rfl rfl rfl (.one .any) ?_
      refine aW.dO (.plain (t:=30) rfl) rfl rfl rfl (.one .any) ?_
      refine aW.dO (.plain (t:=30) rfl) rfl rfl rfl (.one .any) ?_
      refine aW.dO (.plain (t:=30) rfl) rfl rfl rfl (.one .any) ?_
      refine aW.dO (.plain (t:=30) rfl) rfl rfl rfl (.one .any) ?_
      refine aW.dO (.plain (t:=30) rfl) rfl rfl rfl (.one (.bool true)) ?_
      refine aW.cons (.inl rfl) rfl (aF (fun e=>Bool.noConfusion e) rfl rfl rfl) ?_
      refine aW.cons (.inl rfl) rfl (bR rfl) ?_
      refine aW.nil ?_
      refine Fin.keep [6] [] (s':=⟨[(6,B false)],[]⟩) rfl ?_
      refine Fin.ga ?_ hlo
      refine aV.ret ?_
      exact hend false w2 h2 ρ2 tb2 ⟨hk1.1,hk1.2⟩
    | true=>
    refine aW.gA (.inl rfl) (.plain (t:=22) rfl) rfl rfl rfl (aU rfl) ?_
    refine aW.gA (.inl rfl) (.plain (t:=22) rfl) rfl rfl rfl (aU rfl) ?_
    refine aW.gA (.inl rfl) (.plain (t:=22) rfl) rfl rfl rfl (aD (z:=(a,l,r)) (qs:=ae a ++ [CP.tr ae l,CP.tr ae r]) rfl rfl rfl) ?_
    refine aW.gA (.inl rfl) (.plain (t:=22) rfl) rfl rfl rfl (aA (qs:=ae a ++ [CP.tr ae l,CP.tr ae r]) dU rfl rfl) ?_
    refine aW.gA (.inl rfl) (.plain (t:=22) rfl) rfl rfl rfl (cn (qs:=an a.x) bq rfl rfl rfl) ?_
    refine aW.stepT (.plain (t:=22) rfl) rfl rfl rfl (km (d:=28) (Kv J Jx h (k + xs.length + 1)) (fun b h w hk=>hk.ok hJ hJx) rfl (by decide) ?_ ?_)
    · intro a1 w1 h1' ρ1 hw1 hs1 K' hK'
      have hj1:=hk1.go hJ hJx hw1
      have hx23:a1.eval (.tmp 23) = .func (.yield L) #[] #[]:=(aI hs1 (o:=.tmp 23) rfl:(CP.raw _).rel h1' _).1
      have hx27:=(aI hs1 (o:=.tmp 27) (x:=.b (.agg (an a.x))) rfl:BV.rel h1' ρ1 (.agg (an a.x)) _)
      refine re (vals:=[a1.eval (.tmp 27)].toArray) rfl ((si hx23).trans (by simp)) (hround (k + xs.length) a.x h1' w1 _ (hall xs.length a.x (by simp)) (by simpa using hj1.2) (.cons (fun _=>hx27) .nil)) ?_
      rintro e w3 (⟨rfl,h3,g1,g2⟩ | ⟨rfl,h3,g1,g2⟩)
      · exact ⟨_,rfl,hK' true h3 w3 g1 ⟨PH.le_trans hj1.1 g1,by simpa using g2⟩⟩
      · exact ⟨_,rfl,hK' false h3 w3 g1 ⟨PH.le_trans hj1.1 g1,by simpa using g2⟩⟩
    intro b2 h3 ρ3 w3 tb3 hk2
    refine aW.keep [0,1,2,22,28] [] (s':=⟨[(0,.b (.one (CP.tr ae (.node a l r)))),(1,.b (.one c)),(2,.b (.one (.raw (.func (.yield L) #[] #[])))),(22,B true),(28,B b2)],[]⟩) rfl ?_
    refine aW.opt 28 rfl ?_
    refine aW.cons (.inl rfl) rfl (aF (fun _=>rfl) rfl rfl rfl) ?_
    refine aW.cons (.inl rfl) rfl (aU rfl) ?_
    cases b2 with
    | false=>
      refine aW.dO (.plain (t:=30) rfl) rfl rfl rfl (.one .any) ?_
      refine aW.dO (.plain (t:=30) rfl) rfl rfl rfl (.one .any) ?_
      refine aW.dO (.plain (t:=30) rfl) rfl rfl rfl (.one .any) ?_
      refine aW.dO (.plain (t:=30) rfl) rfl rfl rfl (.one .any) ?_
      refine aW.dO (.plain (t:=30) rfl) rfl rfl rfl (.one .any) ?_
      refine aW.dO (.plain (t:=30) rfl) rfl rfl rfl (.one .any) ?_
      refine aW.dO (.plain (t:=30) rfl) rfl rfl rfl (.one (.bool true)) ?_
      refine aW.cons (.inl rfl) rfl (aF (fun e=>Bool.noConfusion e) rfl rfl rfl) ?_
      refine aW.cons (.inl rfl) rfl (bR rfl) ?_
      refine aW.nil ?_
      refine Fin.keep [6] [] (s':=⟨[(6,B false)],[]⟩) rfl ?_
      refine Fin.ga ?_ hlo
      refine aV.ret ?_
      exact hend false w3 h3 ρ3 tb3 ⟨hk2.1,hk2.2⟩
    | true=>
    refine aW.gA (.inl rfl) (.plain (t:=30) rfl) rfl rfl rfl (aU rfl) ?_
    refine aW.gA (.inl rfl) (.plain (t:=30) rfl) rfl rfl rfl (aD (z:=(a,l,r)) (qs:=ae a ++ [CP.tr ae l,CP.tr ae r]) rfl rfl rfl) ?_
    refine aW.gA (.inl rfl) (.plain (t:=30) rfl) rfl rfl rfl (aA (qs:=[CP.tr ae r]) dA rfl rfl) ?_
    refine aW.gA (.inl rfl) (.plain (t:=30) rfl) rfl rfl rfl (aq (p:=CP.tr ae r) bp rfl rfl) ?_
    refine aW.gA (.inl rfl) (.plain (t:=30) rfl) rfl rfl rfl (aU rfl) ?_
    refine aW.gA (.inl rfl) (.plain (t:=30) rfl) rfl rfl rfl (aU rfl) ?_
    refine aW.stepT (.plain (t:=30) rfl) rfl rfl rfl (km (d:=37) (Kv J Jx h (k + xs.length + 1 + zs.length)) (fun b h w hk=>hk.ok hJ hJx) rfl (by decide) ?_ ?_)
    · intro a1 w1 h1' ρ1 hw1 hs1 K' hK'
      have hj1:=hk2.go hJ hJx hw1
      have e20:a1.eval (.tmp 36) = .func (.yield L) #[] #[]:=(aI hs1 (o:=.tmp 36) rfl:(CP.raw _).rel h1' _).1
      refine jY (.inl rfl) rfl (fun a w h=>h) ?_
      unfold Oper.wp
      rw [iy ph a1 w1]
      show Calls Tryz.prog 78 [a1.eval (.tmp 34),a1.eval (.tmp 35),a1.eval (.tmp 36)].toArray w1 _
      rw [e20]
      refine (ihr zs (k + xs.length + 1) hzs (fun i x hi=>by rw [show k + xs.length + 1 + i = k + (xs.length + (i + 1)) by omega]; exact hall _ x (by simp [List.getElem?_append_right,hi])) h1' w1 _ _ hj1.2 (aI hs1 (o:=.tmp 34) rfl) (aI hs1 (o:=.tmp 35) rfl)).mono ?_
      rintro e w' ⟨b,h',rfl,hk⟩
      exact hK' b h' w' hk.1 ⟨PH.le_trans hj1.1 hk.1,hk.2⟩
    intro b3 h4 ρ4 w4 tb4 hk3
    refine aW.keep [30,37] [] (s':=⟨[(30,B true),(37,B b3)],[]⟩) rfl ?_
    refine aW.opt 37 rfl ?_
    refine aW.cons (.inl rfl) rfl (aF (fun _=>rfl) rfl rfl rfl) ?_
    refine aW.cons (.inl rfl) rfl (bR rfl) ?_
    refine aW.nil ?_
    refine Fin.keep [6] [] (s':=⟨[(6,B b3)],[]⟩) rfl ?_
    refine Fin.ga ?_ hlo
    refine aV.ret ?_
    exact hend b3 w4 h4 ρ4 tb4 (by rw [hlen]; exact hk3)
end
theorem qm {c:CP} {p:cB bc → Option Bool} (hp:rL c p) {t:cB bc} {xs:List entry} (h:sg p t = some xs):Iter Tryz.prog [] 77 [CP.rp [CP.tr ae t],CP.rp [c]] (xs.map sS):=by
  intro J Jx L hJ hJx hround h0 W caps hJ0 hcaps
  cases hcaps with
  | @cons _ c1 _ _ g1 hc=>
  cases hc with
  | @cons _ c2 _ _ g2 hc2=>
  cases hc2
  refine callsIn_wide.1 (callsIn_of_wp (n:=0) (F:=Fence.wide) Tryz.func77 rfl trivial ?_)
  obtain ⟨hs0,hn0⟩:=k8 (m:=8) (h:=h0) (ρ:=fun _=>.bool false) (args:=[.one (.raw (.func (.yield L) #[] #[])),.aJ [CP.tr ae t],.aJ [c]]) (vals:=[.func (.yield L) #[] #[],c1,c2])
    (.cons ⟨rfl,rfl⟩ (.cons g1 (.cons g2 .nil))) (Nat.le_of_ble_eq_true rfl)
  obtain ⟨hag0,htb0⟩:=(hJ 0).1 h0 W hJ0
  have hk0:Kv J Jx h0 0 true h0 W:=⟨PH.le_refl h0,by simpa using hJ0⟩
  generalize hQo:bodyPost Tryz.prog _ _ = Qo
  have hlo:¬ LetsOut Qo:=by
    rw [← hQo]
    rintro ⟨a,w,⟨v,he⟩,_⟩
    cases he
  refine (show aV Tryz.prog (⟨W,h0,fun _=>.bool false,htb0⟩:Env []) ⟨8,[],[],[]⟩ Fence.wide _ ⟨_,[]⟩ Qo from ?_) hlo _ _ (R.fresh htb0 hag0 rfl hn0 hs0)
  clear hs0 hn0
  refine aV.mZ (.inl rfl) ?_
  refine aW.cons (.inl rfl) rfl (aq (p:=CP.tr ae t) bp rfl rfl) ?_
  refine aW.cons (.inl rfl) rfl (aq (p:=c) tQ rfl rfl) ?_
  refine aW.cons (.inl rfl) rfl (aU rfl) ?_
  refine aW.stepU rfl (km (d:=7) (Kv J Jx h0 xs.length) (fun b h w hk=>hk.ok hJ hJx) rfl (by decide) ?_ ?_)
  · intro a1 w1 h1' ρ1 hw1 hs1 K' hK'
    have hj1:=hk0.go hJ hJx hw1
    have e20:a1.eval (.tmp 6) = .func (.yield L) #[] #[]:=(aI hs1 (o:=.tmp 6) rfl:(CP.raw _).rel h1' _).1
    refine jY (.inl rfl) rfl (fun a w h=>h) ?_
    unfold Oper.wp
    rw [iy ph a1 w1]
    show Calls Tryz.prog 78 [a1.eval (.tmp 4),a1.eval (.tmp 5),a1.eval (.tmp 6)].toArray w1 _
    rw [e20]
    refine (qn hJ hJx hp (all:=xs) (fun k x h W vals hx=>hround k (sS x) h W vals (by rw [List.getElem?_map,hx]; rfl)) t xs 0 h (fun i x hi=>by rw [Nat.zero_add]; exact hi) h1' w1 _ _ hj1.2 (aI hs1 (o:=.tmp 4) rfl) (aI hs1 (o:=.tmp 5) rfl)).mono ?_
    rintro e w' ⟨b,h',rfl,hk⟩
    rw [Nat.zero_add] at hk
    exact hK' b h' w' hk.1 ⟨PH.le_trans hj1.1 hk.1,hk.2⟩
  intro b h2 ρ2 w2 tb2 hk1
  refine aW.nil ?_
  rintro a w ⟨hd,hn,h',ρ',hw,hs⟩
  have hk2:=hk1.go hJ hJx hw
  rw [← hQo]
  refine ⟨hd,.tuple #[],?_,⟨_,rfl⟩,?_⟩
  · rw [iT,show (Tryz.f77:Func).results = #[] from rfl]
    simp
  · cases b with
    | true=>exact .inl ⟨h',by rw [List.length_map]; exact hk2.2⟩
    | false=>exact .inr ⟨h',hk2.2⟩
def gr (F:Nat) (a0:bQ) (b0:bQ):Option bQ :=
 Option.bind (iter F (dQ fun a_2 x_3=>if (decide (x_3 < 3)) = true then ((aX a_2.Lo.l x_3).bind fun x_5=>(aX b0.Lo.l x_3).bind fun x_6=>(aX a_2.Hi.l x_3).bind fun x_7=>(aX b0.Hi.l x_3).bind fun x_8=>(aX a_2.Lo.l x_3).bind fun x_9=>(aX a_2.Hi.l x_3).bind fun x_10=>some (.inl ((⟨a_2.Lo.set x_3 (min x_5 x_6),a_2.Hi.set x_3 (max x_7 x_8)⟩:bQ),IntKind.i64.wrap (x_3 + 1)))) else (some (.inr a_2))) (a0,0)) (fun a_1=>some a_1)
theorem jg {F:Nat} {a0:bQ} {b0:bQ} {r:bQ} (h:gr F a0 b0 = some r):ao Tryz.prog [] 18 [] [.agg (ak a0),.agg (ak b0)] (Is [] (.b (.agg (ak r)))):=by
 unfold gr at h
 refine ao.intro 35 Tryz.func18 Tryz.ntmps18 rfl (by simp) fun E=>?_
 show ab _ E ⟨35,[],[],[]⟩ _ ⟨[(0,.b (.agg (ak a0))),(1,.b (.agg (ak b0)))],[]⟩ _
 refine ab.seq (ab.aa ?_)
 refine Oc (bW (k:=101) rfl rfl) (Oc (bW (k:=102) rfl rfl) (Oc (a8 (k:=103) fi rfl) ?_))
 refine af.ai ⟨[(2,Pt 101 0),(3,Pt 102 0),(4,Pt 103 0)],[(101,.box 25 (ak a0)),(102,.box 25 (ak b0)),(103,.box 25 ((cJ .i64) A3.zero ++ ((cJ .i64) A3.zero)))]⟩ rfl ?_
 obtain ⟨v1,h2,h⟩:=aO h
 refine ab.eb (v:=v1) (fun (a_1:bQ)=>⟨[(2,Pt 101 0),(4,Pt 103 0)],[(101,.box 25 (ak a_1)),(103,.box 25 ((cJ .i64) A3.zero ++ ((cJ .i64) A3.zero)))]⟩) (fun z=>z) ?_ ?_
 ·refine ab.seq (ab.aa ?_)
  refine Oc om (af.ai ⟨[(2,_),(3,_),(4,_),(6,I 0)],[(101,_),(102,_),(103,_)]⟩ rfl (ab.block (ab.de h2 (dQ fun (a_2:bQ) (x_3:Int)=>⟨[(2,Pt 101 0),(3,Pt 102 0),(4,Pt 103 0),(6,I x_3)],[(101,.box 25 (ak a_2)),(102,.box 25 (ak b0)),(103,.box 25 ((cJ .i64) A3.zero ++ ((cJ .i64) A3.zero)))]⟩) [2,3,4,6] [101,102,103] rfl ?_)))
  rintro ⟨a_2,x_3⟩ o3 h4 hy5
  refine ab.seq (ab.aa ?_)
  refine Oc (bu rfl rfl) (af.ai ⟨[(2,_),(3,_),(4,_),(6,_),(7,B (decide (x_3 < 3)))],[(101,_),(102,_),(103,_)]⟩ rfl (ab.seq (ab.ite h4 rfl (fun _ h4=>?_) (fun _ h4=>?_))))
  ·refine ab.skip (Fin.ag ⟨[(2,_),(3,_),(4,_),(6,_)],[(101,_),(102,_),(103,_)]⟩ rfl (Fin.then (ab.seq (ab.block (ab.seq (ab.aa ?_))))))
   refine Oc om (Oc oa ?_)
   refine af.ai ⟨[(2,_),(3,_),(4,_),(5,I x_3),(6,_)],[(101,_),(102,_),(103,_)]⟩ rfl ?_
   obtain ⟨x_5,e6,h4⟩:=aO h4
   obtain ⟨x_6,e7,h4⟩:=aO h4
   obtain ⟨x_7,e8,h4⟩:=aO h4
   obtain ⟨x_8,e9,h4⟩:=aO h4
   obtain ⟨x_9,e10,h4⟩:=aO h4
   obtain ⟨x_10,e11,h4⟩:=aO h4
   refine ab.nA mixed [false,false,false,false,false,false,false,false,false,false,false,false,false,false,false,false,false,false,false,false,false,false,true,false,false,true] [I x_3,I x_3,I x_3,Pt 101 0,.b (.ptr 101 (0 + (x_3:Int).toNat * 1)),I x_5,I x_3,Pt 102 0,.b (.ptr 102 (0 + (x_3:Int).toNat * 1)),I x_6,I (min x_5 x_6),I x_3,Pt 101 3,.b (.ptr 101 (3 + (x_3:Int).toNat * 1)),I x_7,I x_3,Pt 102 3,.b (.ptr 102 (3 + (x_3:Int).toNat * 1)),I x_8,I (max x_7 x_8),Pt 101 0,.b (.ptr 101 (0 + (x_3:Int).toNat * 1)),B true,Pt 101 3,.b (.ptr 101 (3 + (x_3:Int).toNat * 1)),B true] [⟨[false,false,false,false,false,false,false,false,false,false,false,false,false,false,false,false,false,false,false,false,false,false,false,false,false,false],[(2,Pt 101 0),(3,Pt 102 0),(4,Pt 103 0),(5,I x_3),(6,I x_3)],[(101,.box 25 (ak a_2)),(102,.box 25 (ak b0)),(103,.box 25 ((cJ .i64) A3.zero ++ ((cJ .i64) A3.zero)))],[true,true,true,true,true,true,true,true,true,true,true,true,true,true,true,true,true,true,true,true,true,true,true,true,true,true],[],[24,25]⟩,⟨[false,false,false,false,false,false,false,false,false,false,false,false,false,false,false,false,false,false,false,false,false,false,true,false,false,false],[(2,Pt 101 0),(3,Pt 102 0),(4,Pt 103 0),(5,I x_3),(6,I x_3)],[(101,.box 25 ((cJ .i64) (a_2.Lo.set x_3 (min x_5 x_6)) ++ ((cJ .i64) a_2.Hi))),(102,.box 25 (ak b0)),(103,.box 25 ((cJ .i64) A3.zero ++ ((cJ .i64) A3.zero)))],[true,true,true,true,true,true,true,true,true,true,true,true,true,true,true,true,true,true,true,true,true,true,true,true,true,true],[0,2,3,4,5,6,7,8,9,10,11,12,13,14,20,21,22],[]⟩,⟨[false,false,false,false,false,false,false,false,false,false,false,false,false,false,false,false,false,false,false,false,false,false,true,false,false,true],[(2,Pt 101 0),(3,Pt 102 0),(4,Pt 103 0),(5,I x_3),(6,I x_3)],[(101,.box 25 ((cJ .i64) (a_2.Lo.set x_3 (min x_5 x_6)) ++ ((cJ .i64) (a_2.Hi.set x_3 (max x_7 x_8))))),(102,.box 25 (ak b0)),(103,.box 25 ((cJ .i64) A3.zero ++ ((cJ .i64) A3.zero)))],[true,true,true,true,true,true,true,true,true,true,true,true,true,true,true,true,true,true,true,true,true,true,true,true,true,true],[0,1,2,3,4,5,6,7,8,9,10,11,12,13,14,15,16,17,18,19,20,21,22,23,24,25],[]⟩] rfl (⟨by kernel_rfl,⟨⟨I x_3,fun _=>rfl,fun _=>.p (by exact aU rfl)⟩,⟨I x_3,fun _=>rfl,fun _=>.p (by exact aU rfl)⟩,⟨I x_3,fun _=>rfl,fun _=>.p (by exact aU rfl)⟩,⟨Pt 101 0,fun _=>rfl,fun _=>.p (by exact ay cz rfl rfl)⟩,⟨.b (.ptr 101 (0 + (x_3:Int).toNat * 1)),fun _=>rfl,fun _=>.p (by exact bn bI (a7 e6) (cX e6) rfl rfl rfl)⟩,⟨I x_5,fun _=>rfl,fun _=>.p (by exact aR aQ rfl rfl (dz (post:=((cJ .i64) a_2.Hi)) (k:=.i64) [] e6 rfl rfl rfl))⟩,⟨I x_3,fun _=>rfl,fun _=>.p (by exact aU rfl)⟩,⟨Pt 102 0,fun _=>rfl,fun _=>.p (by exact ay cz rfl rfl)⟩,⟨.b (.ptr 102 (0 + (x_3:Int).toNat * 1)),fun _=>rfl,fun _=>.p (by exact bn bI (a7 e7) (cX e7) rfl rfl rfl)⟩,⟨I x_6,fun _=>rfl,fun _=>.p (by exact aR aQ rfl rfl (dz (post:=((cJ .i64) b0.Hi)) (k:=.i64) [] e7 rfl rfl rfl))⟩,⟨I (min x_5 x_6),fun _=>rfl,fun _=>.p (by exact qP rfl rfl)⟩,⟨I x_3,fun _=>rfl,fun _=>.p (by exact aU rfl)⟩,⟨Pt 101 3,fun _=>rfl,fun _=>.p (by exact ay cy rfl rfl)⟩,⟨.b (.ptr 101 (3 + (x_3:Int).toNat * 1)),fun _=>rfl,fun _=>.p (by exact bn bI (a7 e8) (cX e8) rfl rfl rfl)⟩,⟨I x_7,fun _=>rfl,fun _=>.p (by exact aR aQ rfl rfl (dz (post:=[]) (k:=.i64) ((cJ .i64) a_2.Lo) e8 rfl rfl rfl))⟩,⟨I x_3,fun _=>rfl,fun _=>.p (by exact aU rfl)⟩,⟨Pt 102 3,fun _=>rfl,fun _=>.p (by exact ay cy rfl rfl)⟩,⟨.b (.ptr 102 (3 + (x_3:Int).toNat * 1)),fun _=>rfl,fun _=>.p (by exact bn bI (a7 e9) (cX e9) rfl rfl rfl)⟩,⟨I x_8,fun _=>rfl,fun _=>.p (by exact aR aQ rfl rfl (dz (post:=[]) (k:=.i64) ((cJ .i64) b0.Lo) e9 rfl rfl rfl))⟩,⟨I (max x_7 x_8),fun _=>rfl,fun _=>.p (by exact oT rfl rfl)⟩,⟨Pt 101 0,fun _=>rfl,fun _=>.p (by exact ay cz rfl rfl)⟩,⟨.b (.ptr 101 (0 + (x_3:Int).toNat * 1)),fun _=>rfl,fun _=>.p (by exact bn bI (a7 e10) (cX e10) rfl rfl rfl)⟩,⟨_,[],.b (.one .any),rfl,(fun e=>by simp at e),rfl,rfl,fun _=>.sL [101,102,103] (by exact .p (by exact dV aQ rfl rfl rfl (oZ (post:=((cJ .i64) a_2.Hi)) (k:=.i64) [] e10 rfl rfl rfl) (nf (post:=((cJ .i64) a_2.Hi)) (k:=.i64) [] e10 rfl rfl (A3.pH a_2.Lo x_3 (min x_5 x_6)) rfl rfl))) (by exact rfl)⟩,⟨Pt 101 3,fun _=>rfl,fun _=>.p (by exact ay cy rfl rfl)⟩,trivial,trivial,trivial⟩,⟨by kernel_rfl,⟨trivial,⟨I x_3,fun _=>rfl,fun _=>.p (by exact aU rfl)⟩,trivial,trivial,trivial,trivial,trivial,trivial,trivial,trivial,trivial,trivial,trivial,trivial,trivial,⟨I x_3,fun _=>rfl,fun _=>.p (by exact aU rfl)⟩,⟨Pt 102 3,fun _=>rfl,fun _=>.p (by exact ay cy rfl rfl)⟩,⟨.b (.ptr 102 (3 + (x_3:Int).toNat * 1)),fun _=>rfl,fun _=>.p (by exact bn bI (a7 e9) (cX e9) rfl rfl rfl)⟩,⟨I x_8,fun _=>rfl,fun _=>.p (by exact aR aQ rfl rfl (dz (post:=[]) (k:=.i64) ((cJ .i64) b0.Lo) e9 rfl rfl rfl))⟩,⟨I (max x_7 x_8),fun _=>rfl,fun _=>.p (by exact oT rfl rfl)⟩,trivial,trivial,trivial,⟨Pt 101 3,fun _=>rfl,fun _=>.p (by exact ay cy rfl rfl)⟩,⟨.b (.ptr 101 (3 + (x_3:Int).toNat * 1)),fun _=>rfl,fun _=>.p (by exact bn bI (a7 e11) (cX e11) rfl rfl rfl)⟩,⟨_,[],.b (.one .any),rfl,(fun e=>by simp at e),rfl,rfl,fun _=>.sL [101,102,103] (by exact .p (by exact dV aQ rfl rfl rfl (oZ (post:=[]) (k:=.i64) ((cJ .i64) (a_2.Lo.set x_3 (min x_5 x_6))) e11 rfl rfl rfl) (nf (post:=[]) (k:=.i64) ((cJ .i64) (a_2.Lo.set x_3 (min x_5 x_6))) e11 rfl rfl (A3.pH a_2.Hi x_3 (max x_7 x_8)) rfl rfl))) (by exact rfl)⟩,trivial⟩,⟨by kernel_rfl,⟨trivial,trivial,trivial,trivial,trivial,trivial,trivial,trivial,trivial,trivial,trivial,trivial,trivial,trivial,trivial,trivial,trivial,trivial,trivial,trivial,trivial,trivial,trivial,trivial,trivial,trivial,trivial⟩,trivial⟩⟩⟩) rfl rfl rfl [2,3,4,6] [101,102,103] (s':=⟨[(2,_),(3,_),(4,_),(6,_)],[(101,.box 25 ((cJ .i64) (a_2.Lo.set x_3 (min x_5 x_6)) ++ ((cJ .i64) (a_2.Hi.set x_3 (max x_7 x_8))))),(102,_),(103,_)]⟩) rfl ?_
   refine Fin.aw (Fin.ag ⟨[(2,_),(3,_),(4,_),(6,_)],[(101,_),(102,_),(103,_)]⟩ rfl (Fin.then (ab.aa ?_)))
   refine Oc (bD rfl rfl) (Oc om ?_)
   refine af.nil ?_
   exact Fin.ct [2,3,4,6] [101,102,103] ((⟨a_2.Lo.set x_3 (min x_5 x_6),a_2.Hi.set x_3 (max x_7 x_8)⟩:bQ),IntKind.i64.wrap (x_3 + 1)) (Option.some.inj h4) rfl
  ·refine ab.exit (Fin.aC ?_)
   obtain rfl:=hy5 _ (Option.some.inj h4).symm
   refine Fin.aC (Fin.aZ ?_)
   exact Fin.join [2,4] [101,103] a_2 rfl rfl
 ·rintro a_1 hv
  subst v1
  refine ab.seq (ab.aa ?_)
  refine Oc (lp aE) (Oc (aG aE rfl rfl rfl rfl (Nat.le_of_ble_eq_true rfl) rfl) ?_)
  refine af.ai ⟨[(4,_)],[(103,.box 25 (ak a_1))]⟩ rfl (ab.ret ?_)
  obtain rfl:=Option.some.inj h
  refine Fin.ag ⟨[(4,_)],[(103,_)]⟩ rfl (Fin.av [.agg (ak a_1)] (.inl rfl) rfl (.cons (.agg aE rfl rfl rfl rfl) .nil) ⟨rfl,rfl⟩)
def dC (F:Nat) (s0:List bQ) (f0:Nat):Option Int :=
 Option.bind (iter F (fun x_1=>if (decide (x_1 < (s0.length:Int))) = true then ((aX s0 x_1).bind fun x_2=>(iz F f0 x_2).bind fun x_3=>if x_3 = true then (some (.inr (.inr x_1))) else (some (.inl (IntKind.i64.wrap (x_1 + 1))))) else (some (.inr (.inl ())))) 0) (b5 (fun _=>some (-1)) (fun y=>some y))
theorem jm {F:Nat} {s0:List bQ} {f0:Nat} {r:Int} (h:dC F s0 f0 = some r):ao Tryz.prog [] 67 [] [.one (.sl 6 (s0.map ak)),.one (.raw (.func (.func f0) #[] #[]))] (Is [] (.b (.one (.i r)))):=by
 unfold dC at h
 refine ao.intro 19 Tryz.func67 Tryz.ntmps67 rfl (by simp) fun E=>?_
 show ab _ E ⟨19,[],[],[]⟩ _ ⟨[(0,.b (.one (.sl 6 (s0.map ak)))),(1,.b (.one (.raw (.func (.func f0) #[] #[]))))],[]⟩ _
 refine ab.seq (ab.aa ?_)
 refine Oc oa (af.ai ⟨[(0,.b (.one (.sl 6 (s0.map ak)))),(1,.b (.one (.raw (.func (.func f0) #[] #[]))))],[]⟩ rfl ?_)
 obtain ⟨v1,h2,h⟩:=aO h
 refine ab.eb (v:=v1) (fun (_:Unit)=>⟨[],[]⟩) (fun z=>.inl z) ?_ ?_
 ·refine ab.seq (ab.aa ?_)
  refine Oc om (Oc (bm pG rfl (List.length_map _)) (Oc om ?_))
  refine af.ai ⟨[(0,_),(1,_),(7,I (s0.length:Int)),(8,I 0)],[]⟩ rfl (ab.block (ab.de h2 (fun (x_1:Int)=>⟨[(0,.b (.one (.sl 6 (s0.map ak)))),(1,.b (.one (.raw (.func (.func f0) #[] #[])))),(7,I (s0.length:Int)),(8,I x_1)],[]⟩) [0,1,7,8] [] rfl ?_))
  rintro x_1 o3 h4 hy5
  refine ab.seq (ab.aa ?_)
  refine Oc (bu rfl rfl) (af.ai ⟨[(0,_),(1,_),(7,_),(8,_),(9,B (decide (x_1 < (s0.length:Int))))],[]⟩ rfl (ab.seq (ab.ite h4 rfl (fun _ h4=>?_) (fun _ h4=>?_))))
  ·refine ab.skip (Fin.ag ⟨[(0,_),(1,_),(7,_),(8,_)],[]⟩ rfl (Fin.then (ab.seq (ab.block (ab.seq (ab.aa ?_))))))
   refine Oc om (Oc oa ?_)
   refine af.ai ⟨[(0,_),(1,_),(5,I x_1),(7,_),(8,_)],[]⟩ rfl (ab.seq (ab.aa ?_))
   refine Oc om (Oc om (Oc om ?_))
   obtain ⟨x_2,e6,h4⟩:=aO h4
   refine Oc (bb gC (a7 e6) (b7 (e:=ak) e6) rfl rfl) (Oc (cn aE rfl rfl rfl) ?_)
   obtain ⟨x_3,e7,h4⟩:=aO h4
   refine Oc (iB (qB e7) (qC e7) rfl rfl rfl) (af.ai ⟨[(0,_),(1,_),(5,_),(7,_),(8,_),(16,B x_3)],[]⟩ rfl (ab.ite h4 rfl (fun _ h4=>?_) (fun _ h4=>?_)))
   ·refine ab.seq (ab.aa ?_)
    refine Oc om (Oc oa ?_)
    refine af.ai ⟨[(4,I x_1)],[]⟩ rfl (ab.ret (Fin.aP (Fin.ar ?_)))
    obtain rfl:=hy5 _ (Option.some.inj h4).symm
    refine Fin.ar (Fin.aP (Fin.ar ?_))
    obtain rfl:=Option.some.inj h
    refine Fin.ag ⟨[(4,_)],[]⟩ rfl (Fin.av [.one (.i x_1)] (.inl rfl) rfl (.cons (.tmp rfl) .nil) ⟨rfl,rfl⟩)
   ·refine ab.skip (Fin.aw (Fin.ag ⟨[(0,_),(1,_),(7,_),(8,_)],[]⟩ rfl (Fin.then (ab.aa ?_))))
    refine Oc (bD rfl rfl) (Oc om ?_)
    refine af.nil ?_
    exact Fin.ct [0,1,7,8] [] (IntKind.i64.wrap (x_1 + 1)) (Option.some.inj h4) rfl
  ·refine ab.exit (Fin.aC ?_)
   obtain rfl:=hy5 _ (Option.some.inj h4).symm
   refine Fin.aC (Fin.aZ ?_)
   exact Fin.join [] [] () rfl rfl
 ·rintro _ hv
  subst v1
  refine ab.seq (ab.aa ?_)
  refine Oc oa (af.ai ⟨[(4,I (-1))],[]⟩ rfl (ab.ret ?_))
  obtain rfl:=Option.some.inj h
  refine Fin.ag ⟨[(4,_)],[]⟩ rfl (Fin.av [.one (.i (-1))] (.inl rfl) rfl (.cons (.tmp rfl) .nil) ⟨rfl,rfl⟩)
def cm (F:Nat) (s0:List bQ) (f0:Nat):Option Bool :=
 (dC F s0 f0).bind fun x_1=>some (decide (0 ≤ x_1))
theorem im {F:Nat} {s0:List bQ} {f0:Nat} {r:Bool} (h:cm F s0 f0 = some r):ao Tryz.prog [] 40 [] [.one (.sl 6 (s0.map ak)),.one (.raw (.func (.func f0) #[] #[]))] (Is [] (.b (.one (.bool r)))):=by
 unfold cm at h
 refine ao.intro 9 Tryz.func40 Tryz.ntmps40 rfl (by simp) fun E=>?_
 show ab _ E ⟨9,[],[],[]⟩ _ ⟨[(0,.b (.one (.sl 6 (s0.map ak)))),(1,.b (.one (.raw (.func (.func f0) #[] #[]))))],[]⟩ _
 refine ab.seq (ab.aa ?_)
 refine Oc oa (af.ai ⟨[(0,.b (.one (.sl 6 (s0.map ak)))),(1,.b (.one (.raw (.func (.func f0) #[] #[]))))],[]⟩ rfl (ab.seq (ab.aa ?_)))
 refine Oc om (Oc om ?_)
 obtain ⟨x_1,e1,h⟩:=aO h
 refine Oc (aj (jm e1) goes67 rfl rfl) (Oc (nm rfl rfl) (Oc oa ?_))
 refine af.ai ⟨[(4,B (decide (0 ≤ x_1)))],[]⟩ rfl (ab.ret ?_)
 obtain rfl:=Option.some.inj h
 refine Fin.ag ⟨[(4,_)],[]⟩ rfl (Fin.av [.one (.bool (decide (0 ≤ x_1)))] (.inl rfl) rfl (.cons (.tmp rfl) .nil) ⟨rfl,rfl⟩)
def cV (F:Nat) (k0:Int) (v0c:List bQ) (v1c:Int):Option Bool :=
 (aX v0c k0).bind fun x_1=>(aX v0c v1c).bind fun x_2=>some (decide (x_1.Hi.a0 < x_2.Lo.a0))
theorem gQ {F:Nat} {k0:Int} {v0c:List bQ} {v1c:Int} {r:Bool} (h:cV F k0 v0c v1c = some r):ao Tryz.prog [] 46 [] [.one (.i k0),.aJ [.sl 6 (v0c.map ak)],.aJ [.i v1c]] (Is [] (.b (.one (.bool r)))):=by
 unfold cV at h
 refine ao.intro 18 Tryz.func46 Tryz.ntmps46 rfl (by simp) fun E=>?_
 show ab _ E ⟨18,[],[],[]⟩ _ ⟨[(0,I k0),(1,.b (.aJ [.sl 6 (v0c.map ak)])),(2,.b (.aJ [.i v1c]))],[]⟩ _
 refine ab.seq (ab.aa ?_)
 refine Oc oa (af.ai ⟨[(0,I k0),(1,.b (.aJ [.sl 6 (v0c.map ak)])),(2,.b (.aJ [.i v1c]))],[]⟩ rfl (ab.seq ?_))
 obtain ⟨x_1,e1,h⟩:=aO h
 obtain ⟨x_2,e2,h⟩:=aO h
 refine ab.bZ mixed 14 [.b (.one (.sl 6 (v0c.map ak))),I k0,.b (.aJ (ak x_1)),.b (.aJ ((cJ .i64) x_1.Hi)),.b (.aJ [.i x_1.Hi.a0]),I x_1.Hi.a0,.b (.one (.sl 6 (v0c.map ak))),I v1c,.b (.aJ (ak x_2)),.b (.aJ (ak x_2)),.b (.aJ [.i x_2.Lo.a0]),I x_2.Lo.a0,B (decide (x_1.Hi.a0 < x_2.Lo.a0)),B (decide (x_1.Hi.a0 < x_2.Lo.a0))] [4] [] (s':=⟨[(4,B (decide (x_1.Hi.a0 < x_2.Lo.a0)))],[]⟩) rfl ⟨fun _=>.p (aq jX rfl rfl),fun _=>.p om,fun _=>.p (bb gC (a7 e1) (b7 (e:=ak) e1) rfl rfl),fun _=>by exact .p (aA cy rfl rfl),fun _=>.p (eT bI (by decide) (by decide) rfl rfl rfl),fun _=>.p (aq aQ rfl rfl),fun _=>.p (aq jX rfl rfl),fun _=>.p (aq aQ rfl rfl),fun _=>.p (bb gC (a7 e2) (b7 (e:=ak) e2) rfl rfl),fun _=>by exact .p (aA cz rfl rfl),fun _=>.p (eT bI (by decide) (by decide) rfl rfl rfl),fun _=>.p (aq aQ rfl rfl),fun _=>.p (bu rfl rfl),fun _=>.p oa,trivial⟩ rfl rfl (ab.ret ?_)
 obtain rfl:=Option.some.inj h
 refine Fin.ag ⟨[(4,_)],[]⟩ rfl (Fin.av [.one (.bool (decide (x_1.Hi.a0 < x_2.Lo.a0)))] (.inl rfl) rfl (.cons (.tmp rfl) .nil) ⟨rfl,rfl⟩)
def cw (F:Nat) (s0:List Int) (f0:(List bQ) × Int):Option Int :=
 Option.bind (iter F (fun x_1=>if (decide (x_1 < (s0.length:Int))) = true then ((aX s0 x_1).bind fun x_2=>(cV F x_2 f0.1 f0.2).bind fun x_3=>if x_3 = true then (some (.inr (.inr x_1))) else (some (.inl (IntKind.i64.wrap (x_1 + 1))))) else (some (.inr (.inl ())))) 0) (b5 (fun _=>some (-1)) (fun y=>some y))
theorem iH {F:Nat} {s0:List Int} {f0:(List bQ) × Int} {r:Int} (h:cw F s0 f0 = some r):ao Tryz.prog [] 71 [] [.one (.sl 1 (s0.map eI)),.one (.eY 46 [CP.rp [.sl 6 (f0.1.map ak)],CP.rp [.i f0.2]])] (Is [] (.b (.one (.i r)))):=by
 unfold cw at h
 refine ao.intro 19 Tryz.func71 Tryz.ntmps71 rfl (by simp) fun E=>?_
 show ab _ E ⟨19,[],[],[]⟩ _ ⟨[(0,.b (.one (.sl 1 (s0.map eI)))),(1,.b (.one (.eY 46 [CP.rp [.sl 6 (f0.1.map ak)],CP.rp [.i f0.2]])))],[]⟩ _
 refine ab.seq (ab.aa ?_)
 refine Oc oa (af.ai ⟨[(0,.b (.one (.sl 1 (s0.map eI)))),(1,.b (.one (.eY 46 [CP.rp [.sl 6 (f0.1.map ak)],CP.rp [.i f0.2]])))],[]⟩ rfl ?_)
 obtain ⟨v1,h2,h⟩:=aO h
 refine ab.eb (v:=v1) (fun (_:Unit)=>⟨[],[]⟩) (fun z=>.inl z) ?_ ?_
 ·refine ab.seq (ab.aa ?_)
  refine Oc om (Oc (bm fa rfl (List.length_map _)) (Oc om ?_))
  refine af.ai ⟨[(0,_),(1,_),(7,I (s0.length:Int)),(8,I 0)],[]⟩ rfl (ab.block (ab.de h2 (fun (x_1:Int)=>⟨[(0,.b (.one (.sl 1 (s0.map eI)))),(1,.b (.one (.eY 46 [CP.rp [.sl 6 (f0.1.map ak)],CP.rp [.i f0.2]]))),(7,I (s0.length:Int)),(8,I x_1)],[]⟩) [0,1,7,8] [] rfl ?_))
  rintro x_1 o3 h4 hy5
  refine ab.seq (ab.aa ?_)
  refine Oc (bu rfl rfl) (af.ai ⟨[(0,_),(1,_),(7,_),(8,_),(9,B (decide (x_1 < (s0.length:Int))))],[]⟩ rfl (ab.seq (ab.ite h4 rfl (fun _ h4=>?_) (fun _ h4=>?_))))
  ·refine ab.skip (Fin.ag ⟨[(0,_),(1,_),(7,_),(8,_)],[]⟩ rfl (Fin.then (ab.seq (ab.block (ab.seq (ab.aa ?_))))))
   refine Oc om (Oc oa ?_)
   refine af.ai ⟨[(0,_),(1,_),(5,I x_1),(7,_),(8,_)],[]⟩ rfl (ab.seq (ab.aa ?_))
   refine Oc om (Oc om (Oc om ?_))
   obtain ⟨x_2,e6,h4⟩:=aO h4
   refine Oc (bb cf (a7 e6) (b7 (e:=eI) e6) rfl rfl) (Oc (aq aQ rfl rfl) ?_)
   obtain ⟨x_3,e7,h4⟩:=aO h4
   refine Oc (nB (pss:=[[.sl 6 (f0.1.map ak)],[.i f0.2]]) (gQ e7) tv rfl rfl rfl trivial rfl rfl) (af.ai ⟨[(0,_),(1,_),(5,_),(7,_),(8,_),(16,B x_3)],[]⟩ rfl (ab.ite h4 rfl (fun _ h4=>?_) (fun _ h4=>?_)))
   ·refine ab.seq (ab.aa ?_)
    refine Oc om (Oc oa ?_)
    refine af.ai ⟨[(4,I x_1)],[]⟩ rfl (ab.ret (Fin.aP (Fin.ar ?_)))
    obtain rfl:=hy5 _ (Option.some.inj h4).symm
    refine Fin.ar (Fin.aP (Fin.ar ?_))
    obtain rfl:=Option.some.inj h
    refine Fin.ag ⟨[(4,_)],[]⟩ rfl (Fin.av [.one (.i x_1)] (.inl rfl) rfl (.cons (.tmp rfl) .nil) ⟨rfl,rfl⟩)
   ·refine ab.skip (Fin.aw (Fin.ag ⟨[(0,_),(1,_),(7,_),(8,_)],[]⟩ rfl (Fin.then (ab.aa ?_))))
    refine Oc (bD rfl rfl) (Oc om ?_)
    refine af.nil ?_
    exact Fin.ct [0,1,7,8] [] (IntKind.i64.wrap (x_1 + 1)) (Option.some.inj h4) rfl
  ·refine ab.exit (Fin.aC ?_)
   obtain rfl:=hy5 _ (Option.some.inj h4).symm
   refine Fin.aC (Fin.aZ ?_)
   exact Fin.join [] [] () rfl rfl
 ·rintro _ hv
  subst v1
  refine ab.seq (ab.aa ?_)
  refine Oc oa (af.ai ⟨[(4,I (-1))],[]⟩ rfl (ab.ret ?_))
  obtain rfl:=Option.some.inj h
  refine Fin.ag ⟨[(4,_)],[]⟩ rfl (Fin.av [.one (.i (-1))] (.inl rfl) rfl (.cons (.tmp rfl) .nil) ⟨rfl,rfl⟩)
def cH (F:Nat) (del0:(List bQ) × Int) (s0:List Int):Option (List Int) :=
 (cw F s0 (del0.1,del0.2)).bind fun x_1=>if (decide (x_1 = (-1))) = true then (some s0) else (Option.bind (iter F (sK fun s_4 i_5 j_6=>if (decide (j_6 < (s_4.length:Int))) = true then (Option.bind ((aX s_4 j_6).bind fun x_11=>(cV F x_11 del0.1 del0.2).bind fun x_12=>if (!x_12) = true then ((aX s_4 i_5).bind fun x_13=>some (s_4.set (i_5:Int).toNat x_11,IntKind.i64.wrap (i_5 + 1))) else (some (s_4,i_5))) (dQ fun s_9 i_10=>some (.inl (s_9,i_10,IntKind.i64.wrap (j_6 + 1))))) else (some (.inr (s_4,i_5)))) (s0,x_1,IntKind.i64.wrap (x_1 + 1))) (dQ fun s_2 i_3=>Option.bind (sU (0:Int) s_2 i_3) (fun z_14=>(mH z_14 i_3).bind fun x_15=>some x_15)))
theorem jb {F:Nat} {del0:(List bQ) × Int} {s0:List Int} {r:(List Int)} (h:cH F del0 s0 = some r):ao Tryz.prog [] 45 [(1,.row 3 1 (s0.map eI))] [.row 1,.one (.eY 46 [CP.rp [.sl 6 (del0.1.map ak)],CP.rp [.i del0.2]])] (Is [(1,.row 3 1 (r.map eI))] (.b (.row 1))):=by
 unfold cH at h
 refine ao.intro 42 Tryz.func45 Tryz.ntmps45 rfl (by simp) fun E=>?_
 show ab _ E ⟨42,[],[1],[]⟩ _ ⟨[(0,.b (.row 1)),(1,.b (.one (.eY 46 [CP.rp [.sl 6 (del0.1.map ak)],CP.rp [.i del0.2]])))],[(1,.row 3 1 (s0.map eI))]⟩ _
 refine ab.seq (ab.aa ?_)
 refine Oc oa (af.ai ⟨[(0,.b (.row 1)),(1,.b (.one (.eY 46 [CP.rp [.sl 6 (del0.1.map ak)],CP.rp [.i del0.2]])))],[(1,.row 3 1 (s0.map eI))]⟩ rfl (ab.seq (ab.aa ?_)))
 refine Oc om (Oc om ?_)
 obtain ⟨x_1,e1,h⟩:=aO h
 refine Oc (jG (iH e1) goes71 rfl CP.qc) (Oc oa ?_)
 refine af.ai ⟨[(0,_),(1,_),(5,I x_1)],[(1,_)]⟩ rfl (ab.seq (ab.seq (ab.aa ?_)))
 refine Oc om (Oc (df rfl rfl) ?_)
 refine af.ai ⟨[(0,_),(1,_),(5,_),(12,B (decide (x_1 = (-1))))],[(1,_)]⟩ rfl (ab.ite h rfl (fun _ h=>?_) (fun _ h=>?_))
 ·refine ab.seq (ab.aa ?_)
  refine Oc om (Oc oa ?_)
  refine af.ai ⟨[(4,.b (.row 1))],[(1,_)]⟩ rfl (ab.ret (Fin.ar ?_))
  obtain rfl:=Option.some.inj h
  refine Fin.ag ⟨[(4,_)],[(1,_)]⟩ rfl ?_
  exact Fin.result [.row 1] (.inl rfl) rfl (.cons (.tmp rfl) .nil) ⟨rfl,rfl⟩
 ·refine ab.skip (Fin.ag ⟨[(0,_),(1,_),(5,_)],[(1,_)]⟩ rfl (Fin.then ?_))
  obtain ⟨v2,h3,h⟩:=aO h
  refine ab.eb (v:=v2) (dQ fun (s_2:List Int) (i_3:Int)=>⟨[(0,.b (.row 1)),(5,I i_3)],[(1,.row 3 1 (s_2.map eI))]⟩) (fun z=>z) ?_ ?_
  ·refine ab.seq (ab.aa ?_)
   refine Oc om (Oc (bD rfl rfl) (Oc oa ?_))
   refine af.ai ⟨[(0,_),(1,_),(5,_),(6,I (IntKind.i64.wrap (x_1 + 1)))],[(1,_)]⟩ rfl (ab.block (ab.de h3 (sK fun (s_4:List Int) (i_5:Int) (j_6:Int)=>⟨[(0,.b (.row 1)),(1,.b (.one (.eY 46 [CP.rp [.sl 6 (del0.1.map ak)],CP.rp [.i del0.2]]))),(5,I i_5),(6,I j_6)],[(1,.row 3 1 (s_4.map eI))]⟩) [0,1,5,6] [1] rfl ?_))
   rintro ⟨s_4,i_5,j_6⟩ o4 h5 hy6
   refine ab.seq (ab.seq (ab.aa ?_))
   refine Oc om (Oc om (Oc (di fa rfl rfl (List.length_map _)) (Oc (bu rfl rfl) ?_)))
   refine af.ai ⟨[(0,_),(1,_),(5,_),(6,_),(19,B (decide (j_6 < (s_4.length:Int))))],[(1,_)]⟩ rfl (ab.ite h5 rfl (fun _ h5=>?_) (fun _ h5=>?_))
   ·refine ab.skip (Fin.ag ⟨[(0,_),(1,_),(5,_),(6,_)],[(1,_)]⟩ rfl (Fin.then ?_))
    obtain ⟨v7,h8,h5⟩:=aO h5
    refine ab.eb (v:=v7) (dQ fun (s_9:List Int) (i_10:Int)=>⟨[(0,.b (.row 1)),(1,.b (.one (.eY 46 [CP.rp [.sl 6 (del0.1.map ak)],CP.rp [.i del0.2]]))),(5,I i_10),(6,I j_6)],[(1,.row 3 1 (s_9.map eI))]⟩) (fun z=>z) ?_ ?_
    ·refine ab.block (ab.seq (ab.aa ?_))
     refine Oc om (Oc om ?_)
     obtain ⟨x_11,e9,h8⟩:=aO h8
     refine Oc (c8 cf (a7 e9) (hY e9) rfl rfl rfl rfl) (Oc (fB (i:=(j_6:Int).toNat) (f:=0) aQ rfl rfl rfl (b7 (e:=eI) e9) rfl) (Oc oa ?_))
     refine af.ai ⟨[(0,_),(1,_),(5,_),(6,_),(7,I x_11)],[(1,_)]⟩ rfl (ab.seq (ab.aa ?_))
     refine Oc om (Oc om ?_)
     obtain ⟨x_12,e10,h8⟩:=aO h8
     refine Oc (nB (pss:=[[.sl 6 (del0.1.map ak)],[.i del0.2]]) (gQ e10) tv rfl rfl rfl trivial rfl rfl) (Oc (eD rfl) ?_)
     refine af.ai ⟨[(0,_),(1,_),(5,_),(6,_),(7,_),(29,B (!x_12))],[(1,_)]⟩ rfl (ab.ite h8 rfl (fun _ h8=>?_) (fun _ h8=>?_))
     ·refine ab.seq (ab.aa ?_)
      refine Oc om (Oc om (Oc om ?_))
      obtain ⟨x_13,e11,h8⟩:=aO h8
      refine Oc (c8 cf (a7 e11) (hY e11) rfl rfl rfl rfl) (Oc (jL (i:=(i_5:Int).toNat) aQ rfl rfl rfl rfl (sZ e11) (map_set _ _ _ _)) ?_)
      refine af.ai ⟨[(0,_),(1,_),(5,_),(6,_)],[(1,.row 3 1 ((s_4.set (i_5:Int).toNat x_11).map eI))]⟩ rfl (ab.aa (Oc om (Oc (bD rfl rfl) (Oc oa ?_))))
      refine af.nil (Fin.aw ?_)
      exact Fin.join [0,1,5,6] [1] (s_4.set (i_5:Int).toNat x_11,IntKind.i64.wrap (i_5 + 1)) (Option.some.inj h8) rfl
     ·refine ab.skip (Fin.aw ?_)
      exact Fin.join [0,1,5,6] [1] (s_4,i_5) (Option.some.inj h8) rfl
    ·rintro ⟨s_9,i_10⟩ hv
     subst v7
     refine ab.aa (Oc om (Oc (bD rfl rfl) (Oc oa ?_)))
     refine af.nil ?_
     exact Fin.ct [0,1,5,6] [1] (s_9,i_10,IntKind.i64.wrap (j_6 + 1)) (Option.some.inj h5) rfl
   ·refine ab.exit (Fin.aC ?_)
    obtain rfl:=hy6 _ (Option.some.inj h5).symm
    refine Fin.aC (Fin.aZ ?_)
    exact Fin.join [0,5] [1] (s_4,i_5) rfl rfl
  ·rintro ⟨s_2,i_3⟩ hv
   subst v2
   refine ab.seq (ab.aa ?_)
   refine Oc om (Oc om ?_)
   obtain ⟨z_14,e12,h⟩:=aO h
   refine af.clr (enc:=eI) cf rfl e12 rfl rfl rfl (by decide) rfl (af.ai ⟨[(0,_),(5,_)],[(1,.row 3 1 (z_14.map eI))]⟩ rfl (ab.seq (ab.aa ?_)))
   refine Oc om (Oc om ?_)
   obtain ⟨x_15,e13,h⟩:=aO h
   refine Oc (kF cf e13 rfl rfl rfl rfl) (Oc oa ?_)
   refine af.ai ⟨[(4,.b (.row 1))],[(1,.row 3 1 (x_15.map eI))]⟩ rfl (ab.ret ?_)
   obtain rfl:=Option.some.inj h
   refine Fin.ag ⟨[(4,_)],[(1,_)]⟩ rfl ?_
   exact Fin.result [.row 1] (.inl rfl) rfl (.cons (.tmp rfl) .nil) ⟨rfl,rfl⟩
def c3 (F:Nat) (l0:List A2):Option (List A2) :=
 (cO F l0).bind fun x_1=>some x_1
theorem jW {F:Nat} {l0:List A2} {r:(List A2)} (h:c3 F l0 = some r):ao Tryz.prog [] 47 [(1,.dx 40 2 (l0.map (dw .i64)))] [.row 1] (Is [(1,.dx 40 2 (r.map (dw .i64)))] (.ew [])):=by
 unfold c3 at h
 refine ao.intro 4 Tryz.func47 Tryz.ntmps47 rfl (by simp) fun E=>?_
 show ab _ E ⟨4,[1],[1],[]⟩ _ ⟨[(0,.b (.row 1))],[(1,.dx 40 2 (l0.map (dw .i64)))]⟩ _
 refine ab.se 1 rfl (ab.aa (Oc om (af.sf 1 rfl ?_)))
 obtain ⟨x_1,e1,h⟩:=aO h
 refine Oc (cY (own_a:=[(1,_)]) (jl e1) goes72 rfl ⟨rfl,trivial⟩ rfl rfl) (af.se 1 rfl (af.nil ?_))
 obtain rfl:=Option.some.inj h
 refine Fin.ag ⟨[],[(1,.row 40 2 (x_1.map (dw .i64)))]⟩ rfl (Fin.sf 1 rfl (Fin.ag ⟨[],[(1,.dx 40 2 (x_1.map (dw .i64)))]⟩ rfl ?_))
 exact Fin.result [] (.inr rfl) rfl (.nil) ⟨rfl,rfl⟩
def cI (F:Nat) (l0:List bQ):Option ((List A2) × Int) :=
 (cm F l0 41).bind fun x_1=>if x_1 = true then (some ([],1)) else (Option.bind (mk? (0:Int) (l0.length:Int) (l0.length:Int)) (fun x_2=>Option.bind (iter F (dQ fun order_4 x_5=>if (decide (x_5 < (x_2.length:Int))) = true then ((aX order_4 x_5).bind fun x_7=>some (.inl (order_4.set (x_5:Int).toNat x_5,IntKind.i64.wrap (x_5 + 1)))) else (some (.inr order_4))) (x_2,0)) (fun order_3=>(dP F l0 order_3).bind fun x_8=>Option.bind (iter F (sK fun active_10 out_11 x_12=>if (decide (x_12 < (x_8.length:Int))) = true then (Option.bind ((aX x_8 x_12).bind fun x_16=>(cH F (l0,x_16) active_10).bind fun x_17=>Option.bind (iter F (dQ fun out_19 x_20=>if (decide (x_20 < (x_17.length:Int))) = true then (Option.bind ((aX x_17 x_20).bind fun x_23=>(aX l0 x_16).bind fun x_24=>(aX l0 x_23).bind fun x_25=>(b8 F x_24 x_25).bind fun x_26=>if x_26 = true then ((kM out_19 [(⟨min x_16 x_23,max x_16 x_23⟩:A2)]).bind fun x_27=>some x_27) else (some out_19)) (fun out_22=>some (.inl (out_22,IntKind.i64.wrap (x_20 + 1))))) else (some (.inr out_19))) (out_11,0)) (fun out_18=>(kM x_17 [x_16]).bind fun x_28=>some (x_28,out_18))) (dQ fun active_14 out_15=>some (.inl (active_14,out_15,IntKind.i64.wrap (x_12 + 1))))) else (some (.inr out_11))) ([],[],0)) (fun out_9=>(c3 F out_9).bind fun x_29=>some (x_29,0)))))
theorem fE (kr0:Nat) {F:Nat} {l0:List bQ} {r:(List A2) × Int} (h:cI F l0 = some r):ao Tryz.prog [] 20 [] [.one (.sl 6 (l0.map ak))] (Is [(kr0,.row 40 2 (r.1.map (dw .i64)))] (.ew [.row kr0,.one (.i r.2)])):=by
 unfold cI at h
 refine ao.intro 73 Tryz.func20 Tryz.ntmps20 rfl (by simp) fun E=>?_
 show ab _ E ⟨73,[],[],[]⟩ _ ⟨[(0,.b (.one (.sl 6 (l0.map ak))))],[]⟩ _
 refine ab.seq (ab.aa ?_)
 refine Oc (pc rfl) (Oc oa (Oc oa ?_))
 refine af.ai ⟨[(1,.b (.aJ [.sl 6 (l0.map ak)]))],[]⟩ rfl (ab.seq (ab.seq (ab.aa ?_)))
 refine Oc (aq jX rfl rfl) ?_
 obtain ⟨x_1,e1,h⟩:=aO h
 refine Oc (aj (im e1) goes40 rfl rfl) (af.ai ⟨[(1,_),(13,B x_1)],[]⟩ rfl (ab.ite h rfl (fun _ h=>?_) (fun _ h=>?_)))
 ·refine ab.seq (ab.aa ?_)
  refine Oc oa (Oc oa ?_)
  refine af.ai ⟨[(2,.b (.one (.nil))),(3,I 1)],[]⟩ rfl (ab.ret (Fin.ar ?_))
  obtain rfl:=Option.some.inj h
  refine Fin.ag ⟨[(2,_),(3,_)],[]⟩ rfl (Fin.fv 2 101 2 40 rfl (by decide) rfl (Fin.lz 101 kr0 [.row 101,.one (.i 1)] (.inl rfl) rfl (.cons (.tmp rfl) (.cons (.tmp rfl) .nil)) rfl rfl rfl rfl ⟨rfl,rfl⟩))
 ·refine ab.skip (Fin.ag ⟨[(1,_)],[]⟩ rfl (Fin.then (ab.seq (ab.aa ?_))))
  refine Oc (aq jX rfl rfl) (Oc (bm pG rfl (List.length_map _)) ?_)
  obtain ⟨x_2,e2,h⟩:=aO h
  refine Oc (pq (k:=102) (enc:=eI) cf e2 (by decide) (.cons .refl .nil) rfl rfl rfl) (Oc oa ?_)
  refine af.ai ⟨[(1,_),(4,.b (.row 102))],[(102,.row 3 1 (x_2.map eI))]⟩ rfl ?_
  obtain ⟨v3,h4,h⟩:=aO h
  refine ab.eb (v:=v3) (fun (order_3:List Int)=>⟨[(1,.b (.aJ [.sl 6 (l0.map ak)])),(4,.b (.row 102))],[(102,.row 3 1 (order_3.map eI))]⟩) (fun z=>z) ?_ ?_
  ·refine ab.seq (ab.aa ?_)
   refine Oc om (Oc (di fa rfl rfl (List.length_map _)) (Oc om ?_))
   refine af.ai ⟨[(1,_),(4,_),(18,I (x_2.length:Int)),(19,I 0)],[(102,_)]⟩ rfl (ab.block (ab.de h4 (dQ fun (order_4:List Int) (x_5:Int)=>⟨[(1,.b (.aJ [.sl 6 (l0.map ak)])),(4,.b (.row 102)),(18,I (x_2.length:Int)),(19,I x_5)],[(102,.row 3 1 (order_4.map eI))]⟩) [1,4,18,19] [102] rfl ?_))
   rintro ⟨order_4,x_5⟩ o5 h6 hy7
   refine ab.seq (ab.aa ?_)
   refine Oc (bu rfl rfl) (af.ai ⟨[(1,_),(4,_),(18,_),(19,_),(20,B (decide (x_5 < (x_2.length:Int))))],[(102,_)]⟩ rfl (ab.seq (ab.ite h6 rfl (fun _ h6=>?_) (fun _ h6=>?_))))
   ·refine ab.skip (Fin.ag ⟨[(1,_),(4,_),(18,_),(19,_)],[(102,_)]⟩ rfl (Fin.then (ab.seq (ab.block (ab.seq (ab.aa ?_))))))
    refine Oc om (Oc oa ?_)
    refine af.ai ⟨[(1,_),(4,_),(5,I x_5),(18,_),(19,_)],[(102,_)]⟩ rfl (ab.aa (Oc om (Oc om (Oc om ?_))))
    obtain ⟨x_7,e8,h6⟩:=aO h6
    refine Oc (c8 cf (a7 e8) (hY e8) rfl rfl rfl rfl) (Oc (jL (i:=(x_5:Int).toNat) aQ rfl rfl rfl rfl (sZ e8) (map_set _ _ _ _)) ?_)
    refine af.nil (Fin.aw (Fin.ag ⟨[(1,_),(4,_),(18,_),(19,_)],[(102,.row 3 1 ((order_4.set (x_5:Int).toNat x_5).map eI))]⟩ rfl (Fin.then (ab.aa ?_))))
    refine Oc (bD rfl rfl) (Oc om ?_)
    refine af.nil ?_
    exact Fin.ct [1,4,18,19] [102] (order_4.set (x_5:Int).toNat x_5,IntKind.i64.wrap (x_5 + 1)) (Option.some.inj h6) rfl
   ·refine ab.exit (Fin.aC ?_)
    obtain rfl:=hy7 _ (Option.some.inj h6).symm
    refine Fin.aC (Fin.aZ ?_)
    exact Fin.join [1,4] [102] order_4 rfl rfl
  ·rintro order_3 hv
   subst v3
   refine ab.seq (ab.aa ?_)
   refine Oc om (Oc (gp rfl) ?_)
   refine af.sf 102 rfl ?_
   obtain ⟨x_8,e9,h⟩:=aO h
   refine Oc (cY (own_a:=[(102,_)]) ((jU e9).sw 1 102) goes42 rfl ⟨rfl,trivial⟩ rfl rfl) (af.se 102 rfl (af.ai ⟨[(1,_),(4,_)],[(102,.row 3 1 (x_8.map eI))]⟩ rfl (ab.seq (ab.aa ?_))))
   refine Oc oa (af.ai ⟨[(1,_),(4,_),(6,.b (.one (.nil)))],[(102,_)]⟩ rfl (ab.seq (ab.aa ?_)))
   refine Oc oa (af.ai ⟨[(1,_),(4,_),(6,_),(7,.b (.one (.nil)))],[(102,_)]⟩ rfl ?_)
   obtain ⟨v10,h11,h⟩:=aO h
   refine ab.eb (v:=v10) (fun (out_9:List A2)=>⟨[(7,.b (.row 106))],[(106,.row 40 2 (out_9.map (dw .i64)))]⟩) (fun z=>z) ?_ ?_
   ·refine ab.seq (ab.aa ?_)
    refine Oc om (Oc (di fa rfl rfl (List.length_map _)) (Oc om ?_))
    refine af.ai ⟨[(1,_),(6,_),(7,_),(30,.b (.row 102)),(31,I (x_8.length:Int)),(32,I 0)],[(102,_)]⟩ rfl (ab.block (ab.fv 6 104 1 3 rfl (by decide) rfl (ab.fv 7 106 2 40 rfl (by decide) rfl (ab.de h11 (sK fun (active_10:List Int) (out_11:List A2) (x_12:Int)=>⟨[(1,.b (.aJ [.sl 6 (l0.map ak)])),(6,.b (.row 104)),(7,.b (.row 106)),(30,.b (.row 102)),(31,I (x_8.length:Int)),(32,I x_12)],[(102,.row 3 1 (x_8.map eI)),(104,.row 3 1 (active_10.map eI)),(106,.row 40 2 (out_11.map (dw .i64)))]⟩) [1,6,7,30,31,32] [102,104,106] rfl ?_))))
    rintro ⟨active_10,out_11,x_12⟩ o12 h13 hy14
    refine ab.seq (ab.aa ?_)
    refine Oc (bu rfl rfl) (af.ai ⟨[(1,_),(6,_),(7,_),(30,_),(31,_),(32,_),(33,B (decide (x_12 < (x_8.length:Int))))],[(102,_),(104,_),(106,_)]⟩ rfl (ab.seq (ab.ite h13 rfl (fun _ h13=>?_) (fun _ h13=>?_))))
    ·refine ab.skip (Fin.ag ⟨[(1,_),(6,_),(7,_),(30,_),(31,_),(32,_)],[(102,_),(104,_),(106,_)]⟩ rfl (Fin.then ?_))
     obtain ⟨v15,h16,h13⟩:=aO h13
     refine ab.eb (v:=v15) (dQ fun (active_14:List Int) (out_15:List A2)=>⟨[(1,.b (.aJ [.sl 6 (l0.map ak)])),(6,.b (.row 104)),(7,.b (.row 106)),(30,.b (.row 102)),(31,I (x_8.length:Int)),(32,I x_12)],[(102,.row 3 1 (x_8.map eI)),(104,.row 3 1 (active_14.map eI)),(106,.row 40 2 (out_15.map (dw .i64)))]⟩) (fun z=>z) ?_ ?_
     ·refine ab.block (ab.seq (ab.aa ?_))
      obtain ⟨x_16,e17,h16⟩:=aO h16
      refine Oc (c8 cf (a7 e17) (hY e17) rfl rfl rfl rfl) (Oc (fB (i:=(x_12:Int).toNat) (f:=0) aQ rfl rfl rfl (b7 (e:=eI) e17) rfl) (Oc (a8 (k:=107) tyZero3 rfl) (Oc (dV aQ rfl rfl rfl (Nat.le_of_ble_eq_true rfl) rfl) ?_)))
      refine af.fP 107 rfl (af.ai ⟨[(1,_),(6,_),(7,_),(9,.b (.aJ [.i x_16])),(30,_),(31,_),(32,_)],[(102,_),(104,_),(106,_)]⟩ rfl (ab.seq (ab.aa ?_)))
      refine Oc om (Oc (gp rfl) ?_)
      obtain ⟨x_17,e18,h16⟩:=aO h16
      refine Oc (cY (own_a:=[(104,_)]) ((jb e18).sw 1 104) goes45 rfl ⟨rfl,trivial⟩ rfl rfl) (Oc oa ?_)
      refine af.ai ⟨[(1,_),(6,_),(7,_),(9,_),(30,_),(31,_),(32,_)],[(102,_),(104,.row 3 1 (x_17.map eI)),(106,_)]⟩ rfl ?_
      obtain ⟨v19,h20,h16⟩:=aO h16
      refine ab.eb (v:=v19) (fun (out_18:List A2)=>⟨[(1,.b (.aJ [.sl 6 (l0.map ak)])),(6,.b (.row 104)),(7,.b (.row 106)),(9,.b (.aJ [.i x_16])),(30,.b (.row 102)),(31,I (x_8.length:Int)),(32,I x_12)],[(102,.row 3 1 (x_8.map eI)),(104,.row 3 1 (x_17.map eI)),(106,.row 40 2 (out_18.map (dw .i64)))]⟩) (fun z=>z) ?_ ?_
      ·refine ab.seq (ab.aa ?_)
       refine Oc om (Oc (di fa rfl rfl (List.length_map _)) (Oc om ?_))
       refine af.ai ⟨[(1,_),(6,_),(7,_),(9,_),(30,_),(31,_),(32,_),(39,.b (.row 104)),(40,I (x_17.length:Int)),(41,I 0)],[(102,_),(104,_),(106,_)]⟩ rfl (ab.block (ab.de h20 (dQ fun (out_19:List A2) (x_20:Int)=>⟨[(1,.b (.aJ [.sl 6 (l0.map ak)])),(6,.b (.row 104)),(7,.b (.row 106)),(9,.b (.aJ [.i x_16])),(30,.b (.row 102)),(31,I (x_8.length:Int)),(32,I x_12),(39,.b (.row 104)),(40,I (x_17.length:Int)),(41,I x_20)],[(102,.row 3 1 (x_8.map eI)),(104,.row 3 1 (x_17.map eI)),(106,.row 40 2 (out_19.map (dw .i64)))]⟩) [1,6,7,9,30,31,32,39,40,41] [102,104,106] rfl ?_))
       rintro ⟨out_19,x_20⟩ o21 h22 hy23
       refine ab.seq (ab.aa ?_)
       refine Oc (bu rfl rfl) (af.ai ⟨[(1,_),(6,_),(7,_),(9,_),(30,_),(31,_),(32,_),(39,_),(40,_),(41,_),(42,B (decide (x_20 < (x_17.length:Int))))],[(102,_),(104,_),(106,_)]⟩ rfl (ab.seq (ab.ite h22 rfl (fun _ h22=>?_) (fun _ h22=>?_))))
       ·refine ab.skip (Fin.ag ⟨[(1,_),(6,_),(7,_),(9,_),(30,_),(31,_),(32,_),(39,_),(40,_),(41,_)],[(102,_),(104,_),(106,_)]⟩ rfl (Fin.then ?_))
        obtain ⟨v24,h25,h22⟩:=aO h22
        refine ab.eb (v:=v24) (fun (out_22:List A2)=>⟨[(1,.b (.aJ [.sl 6 (l0.map ak)])),(6,.b (.row 104)),(7,.b (.row 106)),(9,.b (.aJ [.i x_16])),(30,.b (.row 102)),(31,I (x_8.length:Int)),(32,I x_12),(39,.b (.row 104)),(40,I (x_17.length:Int)),(41,I x_20)],[(102,.row 3 1 (x_8.map eI)),(104,.row 3 1 (x_17.map eI)),(106,.row 40 2 (out_22.map (dw .i64)))]⟩) (fun z=>z) ?_ ?_
        ·refine ab.block (ab.seq (ab.aa ?_))
         obtain ⟨x_23,e26,h25⟩:=aO h25
         refine Oc (c8 cf (a7 e26) (hY e26) rfl rfl rfl rfl) (Oc (fB (i:=(x_20:Int).toNat) (f:=0) aQ rfl rfl rfl (b7 (e:=eI) e26) rfl) (Oc oa ?_))
         refine af.ai ⟨[(1,_),(6,_),(7,_),(9,_),(11,I x_23),(30,_),(31,_),(32,_),(39,_),(40,_),(41,_)],[(102,_),(104,_),(106,_)]⟩ rfl (ab.seq ?_)
         obtain ⟨x_24,e27,h25⟩:=aO h25
         obtain ⟨x_25,e28,h25⟩:=aO h25
         obtain ⟨x_26,e29,h25⟩:=aO h25
         refine ab.bZ mixed 9 [.b (.one (.sl 6 (l0.map ak))),I x_16,.b (.aJ (ak x_24)),.b (.agg (ak x_24)),.b (.one (.sl 6 (l0.map ak))),I x_23,.b (.aJ (ak x_25)),.b (.agg (ak x_25)),B x_26] [1,6,7,9,11,30,31,32,39,40,41,53] [102,104,106] (s':=⟨[(1,_),(6,_),(7,_),(9,_),(11,_),(30,_),(31,_),(32,_),(39,_),(40,_),(41,_),(53,B x_26)],[(102,_),(104,_),(106,_)]⟩) rfl ⟨fun _=>.p (aq jX rfl rfl),fun _=>.p (aq aQ rfl rfl),fun _=>.p (bb gC (a7 e27) (b7 (e:=ak) e27) rfl rfl),fun _=>.p (cn aE rfl rfl rfl),fun _=>.p (aq jX rfl rfl),fun _=>.p om,fun _=>.p (bb gC (a7 e28) (b7 (e:=ak) e28) rfl rfl),fun _=>.p (cn aE rfl rfl rfl),fun _=>.p (aj (cW e29) lZ rfl rfl),trivial⟩ rfl rfl (ab.ite h25 rfl (fun _ h25=>?_) (fun _ h25=>?_))
         ·refine ab.aa (Oc om (Oc (aq aQ rfl rfl) (Oc om (Oc (qP rfl rfl) (Oc (aq aQ rfl rfl) (Oc om ?_))))))
          refine af.ag ⟨[(1,_),(6,_),(7,_),(9,_),(30,_),(31,_),(32,_),(39,_),(40,_),(41,_),(54,.b (.row 106)),(57,I (min x_16 x_23)),(58,I x_16),(59,I x_23)],[(102,_),(104,_),(106,_)]⟩ rfl (Oc (oT rfl rfl) (Oc (dm ed rfl rfl) (Oc (cr (k:=108) (es:=[(⟨min x_16 x_23,max x_16 x_23⟩:A2)].map (dw .i64)) gB rfl rfl (cx fun _=>rfl) rfl (by decide) (by decide) rfl) ?_)))
          obtain ⟨x_27,e30,h25⟩:=aO h25
          refine Oc (fT gB (pO e30) (pN e30) rfl rfl rfl rfl (lF e30) rfl) (Oc oa ?_)
          refine af.nil (Fin.aw ?_)
          exact Fin.join [1,6,7,9,30,31,32,39,40,41] [102,104,106] x_27 (Option.some.inj h25) rfl
         ·refine ab.skip (Fin.aw ?_)
          exact Fin.join [1,6,7,9,30,31,32,39,40,41] [102,104,106] out_19 (Option.some.inj h25) rfl
        ·rintro out_22 hv
         subst v24
         refine ab.aa (Oc (bD rfl rfl) (Oc om ?_))
         refine af.nil ?_
         exact Fin.ct [1,6,7,9,30,31,32,39,40,41] [102,104,106] (out_22,IntKind.i64.wrap (x_20 + 1)) (Option.some.inj h22) rfl
       ·refine ab.exit (Fin.aC ?_)
        obtain rfl:=hy23 _ (Option.some.inj h22).symm
        refine Fin.aC (Fin.aZ ?_)
        exact Fin.join [1,6,7,9,30,31,32] [102,104,106] out_19 rfl rfl
      ·rintro out_18 hv
       subst v19
       refine ab.aa (Oc om (Oc (aq aQ rfl rfl) (Oc (cr (k:=109) (es:=[x_16].map eI) cf rfl rfl (cx fun _=>rfl) rfl (by decide) (by decide) rfl) ?_)))
       obtain ⟨x_28,e31,h16⟩:=aO h16
       refine Oc (fT cf (pO e31) (pN e31) rfl rfl rfl rfl (lF e31) rfl) (Oc oa ?_)
       refine af.nil (Fin.aw ?_)
       exact Fin.join [1,6,7,30,31,32] [102,104,106] (x_28,out_18) (Option.some.inj h16) rfl
     ·rintro ⟨active_14,out_15⟩ hv
      subst v15
      refine ab.aa (Oc (bD rfl rfl) (Oc om ?_))
      refine af.nil ?_
      exact Fin.ct [1,6,7,30,31,32] [102,104,106] (active_14,out_15,IntKind.i64.wrap (x_12 + 1)) (Option.some.inj h13) rfl
    ·refine ab.exit (Fin.aC ?_)
     obtain rfl:=hy14 _ (Option.some.inj h13).symm
     refine Fin.aC (Fin.aZ ?_)
     exact Fin.join [7] [106] out_11 rfl rfl
   ·rintro out_9 hv
    subst v10
    refine ab.seq (ab.aa ?_)
    refine Oc om (af.sf 106 rfl ?_)
    obtain ⟨x_29,e32,h⟩:=aO h
    refine Oc (cY (own_a:=[(106,_)]) ((jW e32).sw 1 106) goes47 rfl ⟨rfl,trivial⟩ rfl rfl) (af.se 106 rfl (af.ai ⟨[(7,_)],[(106,.row 40 2 (x_29.map (dw .i64)))]⟩ rfl (ab.seq (ab.aa ?_))))
    refine Oc om (Oc oa (Oc oa ?_))
    refine af.ai ⟨[(2,.b (.row 106)),(3,I 0)],[(106,_)]⟩ rfl (ab.ret ?_)
    obtain rfl:=Option.some.inj h
    refine Fin.ag ⟨[(2,_),(3,_)],[(106,_)]⟩ rfl (Fin.lz 106 kr0 [.row 106,.one (.i 0)] (.inl rfl) rfl (.cons (.tmp rfl) (.cons (.tmp rfl) .nil)) rfl rfl rfl rfl ⟨rfl,rfl⟩)
def bK (F:Nat) (a0:List A2) (b0:List A2):Option Bool :=
 if (decide ((a0.length:Int) ≠ (b0.length:Int))) = true then (some false) else (Option.bind (iter F (fun i_1=>if (decide (i_1 < (a0.length:Int))) = true then ((aX a0 i_1).bind fun x_2=>(aX b0 i_1).bind fun x_3=>if (decide (x_2 ≠ x_3)) = true then (some (.inr (.inr false))) else (some (.inl (IntKind.i64.wrap (i_1 + 1))))) else (some (.inr (.inl ())))) 0) (b5 (fun _=>some true) (fun y=>some y)))
theorem cD {F:Nat} {a0:List A2} {b0:List A2} {r:Bool} (h:bK F a0 b0 = some r):ao Tryz.prog [] 22 [] [.one (.sl 2 (a0.map (dw .i64))),.one (.sl 2 (b0.map (dw .i64)))] (Is [] (.b (.one (.bool r)))):=by
 unfold bK at h
 refine ao.intro 26 Tryz.func22 Tryz.ntmps22 rfl (by simp) fun E=>?_
 show ab _ E ⟨26,[],[],[]⟩ _ ⟨[(0,.b (.one (.sl 2 (a0.map (dw .i64))))),(1,.b (.one (.sl 2 (b0.map (dw .i64)))))],[]⟩ _
 refine ab.seq (ab.aa ?_)
 refine Oc oa (af.ai ⟨[(0,.b (.one (.sl 2 (a0.map (dw .i64))))),(1,.b (.one (.sl 2 (b0.map (dw .i64)))))],[]⟩ rfl (ab.seq (ab.seq (ab.aa ?_))))
 refine Oc om (Oc (bm ni rfl (List.length_map _)) (Oc om (Oc (bm ni rfl (List.length_map _)) (Oc (jC rfl rfl) ?_))))
 refine af.ai ⟨[(0,_),(1,_),(10,B (decide ((a0.length:Int) ≠ (b0.length:Int))))],[]⟩ rfl (ab.ite h rfl (fun _ h=>?_) (fun _ h=>?_))
 ·refine ab.seq (ab.aa ?_)
  refine Oc oa (af.ai ⟨[(4,B false)],[]⟩ rfl (ab.ret (Fin.ar ?_)))
  obtain rfl:=Option.some.inj h
  refine Fin.ag ⟨[(4,_)],[]⟩ rfl (Fin.av [.one (.bool false)] (.inl rfl) rfl (.cons (.tmp rfl) .nil) ⟨rfl,rfl⟩)
 ·refine ab.skip (Fin.ag ⟨[(0,_),(1,_)],[]⟩ rfl (Fin.then ?_))
  obtain ⟨v1,h2,h⟩:=aO h
  refine ab.eb (v:=v1) (fun (_:Unit)=>⟨[],[]⟩) (fun z=>.inl z) ?_ ?_
  ·refine ab.seq (ab.aa ?_)
   refine Oc oa (af.ai ⟨[(0,_),(1,_),(5,I 0)],[]⟩ rfl (ab.block (ab.de h2 (fun (i_1:Int)=>⟨[(0,.b (.one (.sl 2 (a0.map (dw .i64))))),(1,.b (.one (.sl 2 (b0.map (dw .i64))))),(5,I i_1)],[]⟩) [0,1,5] [] rfl ?_)))
   rintro i_1 o3 h4 hy5
   refine ab.seq (ab.seq (ab.aa ?_))
   refine Oc om (Oc om (Oc (bm ni rfl (List.length_map _)) (Oc (bu rfl rfl) ?_)))
   refine af.ai ⟨[(0,_),(1,_),(5,_),(14,B (decide (i_1 < (a0.length:Int))))],[]⟩ rfl (ab.ite h4 rfl (fun _ h4=>?_) (fun _ h4=>?_))
   ·refine ab.skip (Fin.ag ⟨[(0,_),(1,_),(5,_)],[]⟩ rfl (Fin.then (ab.seq (ab.block (ab.seq ?_)))))
    refine ab.ag ⟨[(0,_),(1,_),(5,_)],[]⟩ rfl ?_
    obtain ⟨x_2,e6,h4⟩:=aO h4
    obtain ⟨x_3,e7,h4⟩:=aO h4
    refine ab.bZ mixed 9 [.b (.one (.sl 2 (a0.map (dw .i64)))),I i_1,.b (.aJ ((dw .i64) x_2)),.b (.agg ((dw .i64) x_2)),.b (.one (.sl 2 (b0.map (dw .i64)))),I i_1,.b (.aJ ((dw .i64) x_3)),.b (.agg ((dw .i64) x_3)),B (decide (x_2 ≠ x_3))] [0,1,5,25] [] (s':=⟨[(0,_),(1,_),(5,_),(25,B (decide (x_2 ≠ x_3)))],[]⟩) rfl ⟨fun _=>.p om,fun _=>.p om,fun _=>.p (bb gB (a7 e6) (b7 (e:=(dw .i64)) e6) rfl rfl),fun _=>.p (cn ly rfl rfl rfl),fun _=>.p om,fun _=>.p om,fun _=>.p (bb gB (a7 e7) (b7 (e:=(dw .i64)) e7) rfl rfl),fun _=>.p (cn ly rfl rfl rfl),fun _=>.p (rf (r5 x_2 x_3) rfl rfl neg_dec),trivial⟩ rfl rfl (ab.ite h4 rfl (fun _ h4=>?_) (fun _ h4=>?_))
    ·refine ab.seq (ab.aa ?_)
     refine Oc oa (af.ai ⟨[(4,B false)],[]⟩ rfl (ab.ret (Fin.aP (Fin.ar ?_))))
     obtain rfl:=hy5 _ (Option.some.inj h4).symm
     refine Fin.ar (Fin.aP (Fin.ar ?_))
     obtain rfl:=Option.some.inj h
     refine Fin.ag ⟨[(4,_)],[]⟩ rfl (Fin.av [.one (.bool false)] (.inl rfl) rfl (.cons (.tmp rfl) .nil) ⟨rfl,rfl⟩)
    ·refine ab.skip (Fin.aw (Fin.ag ⟨[(0,_),(1,_),(5,_)],[]⟩ rfl (Fin.then (ab.aa ?_))))
     refine Oc om (Oc (bD rfl rfl) (Oc oa ?_))
     refine af.nil ?_
     exact Fin.ct [0,1,5] [] (IntKind.i64.wrap (i_1 + 1)) (Option.some.inj h4) rfl
   ·refine ab.exit (Fin.aC ?_)
    obtain rfl:=hy5 _ (Option.some.inj h4).symm
    refine Fin.aC (Fin.aZ ?_)
    exact Fin.join [] [] () rfl rfl
  ·rintro _ hv
   subst v1
   refine ab.seq (ab.aa ?_)
   refine Oc oa (af.ai ⟨[(4,B true)],[]⟩ rfl (ab.ret ?_))
   obtain rfl:=Option.some.inj h
   refine Fin.ag ⟨[(4,_)],[]⟩ rfl (Fin.av [.one (.bool true)] (.inl rfl) rfl (.cons (.tmp rfl) .nil) ⟨rfl,rfl⟩)
def jO (F:Nat):Option c6 :=
 some (⟨(⟨.leaf,50,48,49⟩:ir),(⟨.leaf,51,48,49⟩:ir)⟩:c6)
theorem jS {F:Nat} {r:c6} (h:jO F = some r):ao Tryz.prog [] 23 [] [] (Is [] (.b (.agg (aH r)))):=by
 unfold jO at h
 refine ao.intro 14 Tryz.func23 Tryz.ntmps23 rfl (by simp) fun E=>?_
 show ab _ E ⟨14,[],[],[]⟩ _ ⟨[],[]⟩ _
 refine ab.seq (ab.aa ?_)
 refine Oc (a8 (k:=101) fh rfl) (af.ai ⟨[(0,Pt 101 0)],[(101,.box 49 [.tr ae (.leaf),.cR 0,.cR 0,.cR 0,.tr ae (.leaf),.cR 0,.cR 0,.cR 0])]⟩ rfl (ab.seq (ab.aa ?_)))
 refine Oc oa (af.ai ⟨[(0,_),(1,.b (.one (.raw (.func (.func 48) #[] #[]))))],[(101,_)]⟩ rfl (ab.seq (ab.aa ?_)))
 refine Oc oa (af.ai ⟨[(0,_),(1,_),(2,.b (.one (.raw (.func (.func 49) #[] #[]))))],[(101,_)]⟩ rfl (ab.seq (ab.aa ?_)))
 refine Oc oa (af.ai ⟨[(0,_),(1,_),(2,_),(3,.b (.one (.raw (.func (.func 50) #[] #[]))))],[(101,_)]⟩ rfl (ab.seq (ab.aa ?_)))
 refine Oc oa (af.ai ⟨[(0,_),(1,_),(2,_),(3,_),(4,.b (.one (.raw (.func (.func 51) #[] #[]))))],[(101,_)]⟩ rfl (ab.seq (ab.aa ?_)))
 refine Oc om (Oc om (Oc om (Oc (cu ox rfl rfl) (Oc om (Oc om ?_)))))
 refine Oc om (af.ag ⟨[(0,_),(8,.b (.agg [.tr ae (.leaf),.raw (.func (.func 50) #[] #[]),.raw (.func (.func 48) #[] #[]),.raw (.func (.func 49) #[] #[])])),(9,.b (.one (.raw (.func (.func 51) #[] #[])))),(10,.b (.one (.raw (.func (.func 48) #[] #[])))),(11,.b (.one (.raw (.func (.func 49) #[] #[]))))],[(101,_)]⟩ rfl (Oc (cu ox rfl rfl) (Oc (cu eP rfl rfl) (Oc (aG aT rfl rfl rfl rfl (Nat.le_of_ble_eq_true rfl) rfl) ?_))))
 refine af.ai ⟨[(0,_)],[(101,.box 49 [.tr ae (.leaf),.raw (.func (.func 50) #[] #[]),.raw (.func (.func 48) #[] #[]),.raw (.func (.func 49) #[] #[]),.tr ae (.leaf),.raw (.func (.func 51) #[] #[]),.raw (.func (.func 48) #[] #[]),.raw (.func (.func 49) #[] #[])])]⟩ rfl (ab.ret ?_)
 obtain rfl:=Option.some.inj h
 refine Fin.ag ⟨[(0,_)],[(101,_)]⟩ rfl (Fin.av [.agg [.tr ae (.leaf),.raw (.func (.func 50) #[] #[]),.raw (.func (.func 48) #[] #[]),.raw (.func (.func 49) #[] #[]),.tr ae (.leaf),.raw (.func (.func 51) #[] #[]),.raw (.func (.func 48) #[] #[]),.raw (.func (.func 49) #[] #[])]] (.inl rfl) rfl (.cons (.agg aT rfl rfl rfl rfl) .nil) ⟨rfl,rfl⟩)
def cc (F:Nat) (s0:c6) (id0:Int):Option (entry × Bool) :=
 Option.bind (iter F (fun n_1=>if (!n_1.cS) = true then (Option.bind (iI n_1) (fun nd_2=>if (decide (id0 = nd_2.1.x.id)) = true then (Option.bind (iI n_1) (fun nd_3=>some (.inr (.inr (nd_3.1.x,true))))) else (Option.bind (iI n_1) (fun nd_4=>if (decide (id0 < nd_4.1.x.id)) = true then (Option.bind (iI n_1) (fun nd_5=>some (.inl nd_5.2.1))) else (Option.bind (iI n_1) (fun nd_6=>some (.inl nd_6.2.2))))))) else (some (.inr (.inl ())))) s0.ids.root) (b5 (fun _=>eC (⟨0,(⟨A3.zero,A3.zero⟩:bQ)⟩:entry) fun x_7=>some (x_7,false)) (fun y=>some y))
theorem eJ {F:Nat} {s0:c6} {id0:Int} {r:entry × Bool} (h:cc F s0 id0 = some r):ao Tryz.prog [] 54 [] [.agg (aH s0),.one (.i id0)] (Is [] (.ew [.agg (an r.1),.one (.bool r.2)])):=by
 unfold cc at h
 refine ao.intro 41 Tryz.func54 Tryz.ntmps54 rfl (by simp) fun E=>?_
 show ab _ E ⟨41,[],[],[]⟩ _ ⟨[(0,.b (.agg (aH s0))),(1,I id0)],[]⟩ _
 refine ab.seq (ab.aa ?_)
 refine Oc (bW (k:=101) rfl rfl) (Oc (a8 (k:=102) gE rfl) (Oc oa ?_))
 refine af.ai ⟨[(1,I id0),(2,Pt 101 0),(4,Pt 102 0)],[(101,.box 49 (aH s0)),(102,.box 87 (.i 0 :: ((cJ .i64) A3.zero ++ ((cJ .i64) A3.zero))))]⟩ rfl ?_
 obtain ⟨v1,h2,h⟩:=aO h
 refine ab.eb (v:=v1) (fun (_:Unit)=>⟨[(4,Pt 102 0)],[(102,.box 87 (.i 0 :: ((cJ .i64) A3.zero ++ ((cJ .i64) A3.zero))))]⟩) (fun z=>.inl z) ?_ ?_
 ·refine ab.seq (ab.aa ?_)
  refine Oc (ay ka rfl rfl) (Oc (ay fw rfl rfl) (Oc (aR bp rfl rfl rfl) (Oc oa ?_)))
  refine af.ai ⟨[(1,_),(4,_),(6,.b (.one (.tr ae s0.ids.root)))],[(102,_)]⟩ rfl (ab.block (ab.de h2 (fun (n_1:cB bc)=>⟨[(1,I id0),(4,Pt 102 0),(6,.b (.one (.tr ae n_1)))],[(102,.box 87 (.i 0 :: ((cJ .i64) A3.zero ++ ((cJ .i64) A3.zero))))]⟩) [1,4,6] [102] rfl ?_))
  rintro n_1 o3 h4 hy5
  refine ab.seq (ab.seq (ab.aa ?_))
  refine Oc om (Oc (qq kQ rfl) ?_)
  refine af.ai ⟨[(1,_),(4,_),(6,_),(11,B (!n_1.cS))],[(102,_)]⟩ rfl (ab.ite h4 rfl (fun _ h4=>?_) (fun _ h4=>?_))
  ·refine ab.skip (Fin.ag ⟨[(1,_),(4,_),(6,_)],[(102,_)]⟩ rfl (Fin.then (ab.block (ab.block (ab.seq (ab.aa ?_))))))
   refine Oc om (Oc om ?_)
   obtain ⟨nd_2,e6,h4⟩:=aO h4
   refine Oc (aD e6 rfl rfl) (Oc (aA dU rfl rfl) (Oc (aA dI rfl rfl) (Oc (aq aQ rfl rfl) (Oc (df rfl rfl) (Oc oa ?_)))))
   refine af.ai ⟨[(1,_),(4,_),(6,_),(16,B (decide (id0 = nd_2.1.x.id)))],[(102,_)]⟩ rfl (ab.ite h4 rfl (fun _ h4=>?_) (fun _ h4=>?_))
   ·refine ab.seq (ab.aa ?_)
    refine Oc om ?_
    obtain ⟨nd_3,e7,h4⟩:=aO h4
    refine Oc (aD e7 rfl rfl) (Oc (aA dU rfl rfl) (Oc (cn bq rfl rfl rfl) (Oc (aG bq rfl rfl rfl rfl (Nat.le_of_ble_eq_true rfl) rfl) (Oc oa ?_))))
    refine af.ai ⟨[(4,_),(5,B true)],[(102,.box 87 (an nd_3.1.x))]⟩ rfl (ab.ret (Fin.aP (Fin.aP ?_)))
    obtain rfl:=hy5 _ (Option.some.inj h4).symm
    refine Fin.ar (Fin.aP (Fin.ar ?_))
    obtain rfl:=Option.some.inj h
    refine Fin.ag ⟨[(4,_),(5,_)],[(102,_)]⟩ rfl (Fin.av [.agg (an nd_3.1.x),.one (.bool true)] (.inl rfl) rfl (.cons (.agg bq rfl rfl rfl rfl) (.cons (.tmp rfl) .nil)) ⟨rfl,rfl⟩)
   ·refine ab.seq (ab.aa ?_)
    refine Oc om (Oc om ?_)
    obtain ⟨nd_4,e8,h4⟩:=aO h4
    refine Oc (aD e8 rfl rfl) (Oc (aA dU rfl rfl) (Oc (aA dI rfl rfl) (Oc (aq aQ rfl rfl) (Oc (bu rfl rfl) (Oc oa ?_)))))
    refine af.ai ⟨[(1,_),(4,_),(6,_),(28,B (decide (id0 < nd_4.1.x.id)))],[(102,_)]⟩ rfl (ab.ite h4 rfl (fun _ h4=>?_) (fun _ h4=>?_))
    ·refine ab.aa (Oc om ?_)
     obtain ⟨nd_5,e9,h4⟩:=aO h4
     refine Oc (aD e9 rfl rfl) (Oc (aA dB rfl rfl) (Oc (aq bp rfl rfl) (Oc oa ?_)))
     refine af.nil (Fin.aw (Fin.aw ?_))
     exact Fin.ct [1,4,6] [102] nd_5.2.1 (Option.some.inj h4) rfl
    ·refine ab.aa (Oc om ?_)
     obtain ⟨nd_6,e10,h4⟩:=aO h4
     refine Oc (aD e10 rfl rfl) (Oc (aA dA rfl rfl) (Oc (aq bp rfl rfl) (Oc oa ?_)))
     refine af.nil (Fin.aw (Fin.aw ?_))
     exact Fin.ct [1,4,6] [102] nd_6.2.2 (Option.some.inj h4) rfl
  ·refine ab.exit (Fin.aC ?_)
   obtain rfl:=hy5 _ (Option.some.inj h4).symm
   refine Fin.aC (Fin.aZ ?_)
   exact Fin.join [4] [102] () rfl rfl
 ·rintro _ hv
  subst v1
  refine ab.seq (ab.aa ?_)
  refine af.lv an h rfl (cu ov rfl rfl) (fun x_7 h=>?_)
  refine Oc (aG bq rfl rfl rfl rfl (Nat.le_of_ble_eq_true rfl) rfl) (Oc oa ?_)
  refine af.ai ⟨[(4,_),(5,B false)],[(102,.box 87 (an x_7))]⟩ rfl (ab.ret ?_)
  obtain rfl:=Option.some.inj h
  refine Fin.ag ⟨[(4,_),(5,_)],[(102,_)]⟩ rfl (Fin.av [.agg (an x_7),.one (.bool false)] (.inl rfl) rfl (.cons (.agg bq rfl rfl rfl rfl) (.cons (.tmp rfl) .nil)) ⟨rfl,rfl⟩)
def dL (F:Nat) (s0:List (cB bc)) (f0:Nat):Option Int :=
 Option.bind (iter F (fun x_1=>if (decide (x_1 < (s0.length:Int))) = true then ((aX s0 x_1).bind fun x_2=>(gw F f0 x_2).bind fun x_3=>if x_3 = true then (some (.inr (.inr x_1))) else (some (.inl (IntKind.i64.wrap (x_1 + 1))))) else (some (.inr (.inl ())))) 0) (b5 (fun _=>some (-1)) (fun y=>some y))
theorem il {F:Nat} {s0:List (cB bc)} {f0:Nat} {r:Int} (h:dL F s0 f0 = some r):ao Tryz.prog [] 131 [] [.one (.sl 1 (s0.map (mG ae))),.one (.raw (.func (.func f0) #[] #[]))] (Is [] (.b (.one (.i r)))):=by
 unfold dL at h
 refine ao.intro 19 Tryz.func131 Tryz.ntmps131 rfl (by simp) fun E=>?_
 show ab _ E ⟨19,[],[],[]⟩ _ ⟨[(0,.b (.one (.sl 1 (s0.map (mG ae))))),(1,.b (.one (.raw (.func (.func f0) #[] #[]))))],[]⟩ _
 refine ab.seq (ab.aa ?_)
 refine Oc oa (af.ai ⟨[(0,.b (.one (.sl 1 (s0.map (mG ae))))),(1,.b (.one (.raw (.func (.func f0) #[] #[]))))],[]⟩ rfl ?_)
 obtain ⟨v1,h2,h⟩:=aO h
 refine ab.eb (v:=v1) (fun (_:Unit)=>⟨[],[]⟩) (fun z=>.inl z) ?_ ?_
 ·refine ab.seq (ab.aa ?_)
  refine Oc om (Oc (bm qL rfl (List.length_map _)) (Oc om ?_))
  refine af.ai ⟨[(0,_),(1,_),(7,I (s0.length:Int)),(8,I 0)],[]⟩ rfl (ab.block (ab.de h2 (fun (x_1:Int)=>⟨[(0,.b (.one (.sl 1 (s0.map (mG ae))))),(1,.b (.one (.raw (.func (.func f0) #[] #[])))),(7,I (s0.length:Int)),(8,I x_1)],[]⟩) [0,1,7,8] [] rfl ?_))
  rintro x_1 o3 h4 hy5
  refine ab.seq (ab.aa ?_)
  refine Oc (bu rfl rfl) (af.ai ⟨[(0,_),(1,_),(7,_),(8,_),(9,B (decide (x_1 < (s0.length:Int))))],[]⟩ rfl (ab.seq (ab.ite h4 rfl (fun _ h4=>?_) (fun _ h4=>?_))))
  ·refine ab.skip (Fin.ag ⟨[(0,_),(1,_),(7,_),(8,_)],[]⟩ rfl (Fin.then (ab.seq (ab.block (ab.seq (ab.aa ?_))))))
   refine Oc om (Oc oa ?_)
   refine af.ai ⟨[(0,_),(1,_),(5,I x_1),(7,_),(8,_)],[]⟩ rfl (ab.seq (ab.aa ?_))
   refine Oc om (Oc om (Oc om ?_))
   obtain ⟨x_2,e6,h4⟩:=aO h4
   refine Oc (bb iM (a7 e6) (b7 (e:=(mG ae)) e6) rfl rfl) (Oc (aq bp rfl rfl) ?_)
   obtain ⟨x_3,e7,h4⟩:=aO h4
   refine Oc (iB (lP e7) (lQ e7) rfl rfl rfl) (af.ai ⟨[(0,_),(1,_),(5,_),(7,_),(8,_),(16,B x_3)],[]⟩ rfl (ab.ite h4 rfl (fun _ h4=>?_) (fun _ h4=>?_)))
   ·refine ab.seq (ab.aa ?_)
    refine Oc om (Oc oa ?_)
    refine af.ai ⟨[(4,I x_1)],[]⟩ rfl (ab.ret (Fin.aP (Fin.ar ?_)))
    obtain rfl:=hy5 _ (Option.some.inj h4).symm
    refine Fin.ar (Fin.aP (Fin.ar ?_))
    obtain rfl:=Option.some.inj h
    refine Fin.ag ⟨[(4,_)],[]⟩ rfl (Fin.av [.one (.i x_1)] (.inl rfl) rfl (.cons (.tmp rfl) .nil) ⟨rfl,rfl⟩)
   ·refine ab.skip (Fin.aw (Fin.ag ⟨[(0,_),(1,_),(7,_),(8,_)],[]⟩ rfl (Fin.then (ab.aa ?_))))
    refine Oc (bD rfl rfl) (Oc om ?_)
    refine af.nil ?_
    exact Fin.ct [0,1,7,8] [] (IntKind.i64.wrap (x_1 + 1)) (Option.some.inj h4) rfl
  ·refine ab.exit (Fin.aC ?_)
   obtain rfl:=hy5 _ (Option.some.inj h4).symm
   refine Fin.aC (Fin.aZ ?_)
   exact Fin.join [] [] () rfl rfl
 ·rintro _ hv
  subst v1
  refine ab.seq (ab.aa ?_)
  refine Oc oa (af.ai ⟨[(4,I (-1))],[]⟩ rfl (ab.ret ?_))
  obtain rfl:=Option.some.inj h
  refine Fin.ag ⟨[(4,_)],[]⟩ rfl (Fin.av [.one (.i (-1))] (.inl rfl) rfl (.cons (.tmp rfl) .nil) ⟨rfl,rfl⟩)
def dF (F:Nat) (del0:Nat) (s0:List (cB bc)):Option (List (cB bc)) :=
 (dL F s0 del0).bind fun x_1=>if (decide (x_1 = (-1))) = true then (some s0) else (Option.bind (iter F (sK fun s_4 i_5 j_6=>if (decide (j_6 < (s_4.length:Int))) = true then (Option.bind ((aX s_4 j_6).bind fun x_11=>(gw F del0 x_11).bind fun x_12=>if (!x_12) = true then ((aX s_4 i_5).bind fun x_13=>some (s_4.set (i_5:Int).toNat x_11,IntKind.i64.wrap (i_5 + 1))) else (some (s_4,i_5))) (dQ fun s_9 i_10=>some (.inl (s_9,i_10,IntKind.i64.wrap (j_6 + 1))))) else (some (.inr (s_4,i_5)))) (s0,x_1,IntKind.i64.wrap (x_1 + 1))) (dQ fun s_2 i_3=>Option.bind (sU (.leaf:cB bc) s_2 i_3) (fun z_14=>(mH z_14 i_3).bind fun x_15=>some x_15)))
theorem gT {F:Nat} {del0:Nat} {s0:List (cB bc)} {r:(List (cB bc))} (h:dF F del0 s0 = some r):ao Tryz.prog [] 122 [(1,.row 42 1 (s0.map (mG ae)))] [.row 1,.one (.raw (.func (.func del0) #[] #[]))] (Is [(1,.row 42 1 (r.map (mG ae)))] (.b (.row 1))):=by
 unfold dF at h
 refine ao.intro 42 Tryz.func122 Tryz.ntmps122 rfl (by simp) fun E=>?_
 show ab _ E ⟨42,[],[1],[]⟩ _ ⟨[(0,.b (.row 1)),(1,.b (.one (.raw (.func (.func del0) #[] #[]))))],[(1,.row 42 1 (s0.map (mG ae)))]⟩ _
 refine ab.seq (ab.aa ?_)
 refine Oc oa (af.ai ⟨[(0,.b (.row 1)),(1,.b (.one (.raw (.func (.func del0) #[] #[]))))],[(1,.row 42 1 (s0.map (mG ae)))]⟩ rfl (ab.seq (ab.aa ?_)))
 refine Oc om (Oc om ?_)
 obtain ⟨x_1,e1,h⟩:=aO h
 refine Oc (jG (il e1) goes131 rfl CP.qc) (Oc oa ?_)
 refine af.ai ⟨[(0,_),(1,_),(5,I x_1)],[(1,_)]⟩ rfl (ab.seq (ab.seq (ab.aa ?_)))
 refine Oc om (Oc (df rfl rfl) ?_)
 refine af.ai ⟨[(0,_),(1,_),(5,_),(12,B (decide (x_1 = (-1))))],[(1,_)]⟩ rfl (ab.ite h rfl (fun _ h=>?_) (fun _ h=>?_))
 ·refine ab.seq (ab.aa ?_)
  refine Oc om (Oc oa ?_)
  refine af.ai ⟨[(4,.b (.row 1))],[(1,_)]⟩ rfl (ab.ret (Fin.ar ?_))
  obtain rfl:=Option.some.inj h
  refine Fin.ag ⟨[(4,_)],[(1,_)]⟩ rfl ?_
  exact Fin.result [.row 1] (.inl rfl) rfl (.cons (.tmp rfl) .nil) ⟨rfl,rfl⟩
 ·refine ab.skip (Fin.ag ⟨[(0,_),(1,_),(5,_)],[(1,_)]⟩ rfl (Fin.then ?_))
  obtain ⟨v2,h3,h⟩:=aO h
  refine ab.eb (v:=v2) (dQ fun (s_2:List (cB bc)) (i_3:Int)=>⟨[(0,.b (.row 1)),(5,I i_3)],[(1,.row 42 1 (s_2.map (mG ae)))]⟩) (fun z=>z) ?_ ?_
  ·refine ab.seq (ab.aa ?_)
   refine Oc om (Oc (bD rfl rfl) (Oc oa ?_))
   refine af.ai ⟨[(0,_),(1,_),(5,_),(6,I (IntKind.i64.wrap (x_1 + 1)))],[(1,_)]⟩ rfl (ab.block (ab.de h3 (sK fun (s_4:List (cB bc)) (i_5:Int) (j_6:Int)=>⟨[(0,.b (.row 1)),(1,.b (.one (.raw (.func (.func del0) #[] #[])))),(5,I i_5),(6,I j_6)],[(1,.row 42 1 (s_4.map (mG ae)))]⟩) [0,1,5,6] [1] rfl ?_))
   rintro ⟨s_4,i_5,j_6⟩ o4 h5 hy6
   refine ab.seq (ab.seq (ab.aa ?_))
   refine Oc om (Oc om (Oc (di qL rfl rfl (List.length_map _)) (Oc (bu rfl rfl) ?_)))
   refine af.ai ⟨[(0,_),(1,_),(5,_),(6,_),(19,B (decide (j_6 < (s_4.length:Int))))],[(1,_)]⟩ rfl (ab.ite h5 rfl (fun _ h5=>?_) (fun _ h5=>?_))
   ·refine ab.skip (Fin.ag ⟨[(0,_),(1,_),(5,_),(6,_)],[(1,_)]⟩ rfl (Fin.then ?_))
    obtain ⟨v7,h8,h5⟩:=aO h5
    refine ab.eb (v:=v7) (dQ fun (s_9:List (cB bc)) (i_10:Int)=>⟨[(0,.b (.row 1)),(1,.b (.one (.raw (.func (.func del0) #[] #[])))),(5,I i_10),(6,I j_6)],[(1,.row 42 1 (s_9.map (mG ae)))]⟩) (fun z=>z) ?_ ?_
    ·refine ab.block (ab.seq (ab.aa ?_))
     refine Oc om (Oc om ?_)
     obtain ⟨x_11,e9,h8⟩:=aO h8
     refine Oc (c8 iM (a7 e9) (hY e9) rfl rfl rfl rfl) (Oc (fB (i:=(j_6:Int).toNat) (f:=0) bp rfl rfl rfl (b7 (e:=(mG ae)) e9) rfl) (Oc oa ?_))
     refine af.ai ⟨[(0,_),(1,_),(5,_),(6,_),(7,.b (.one (.tr ae x_11)))],[(1,_)]⟩ rfl (ab.seq (ab.aa ?_))
     refine Oc om (Oc om ?_)
     obtain ⟨x_12,e10,h8⟩:=aO h8
     refine Oc (iB (lP e10) (lQ e10) rfl rfl rfl) (Oc (eD rfl) ?_)
     refine af.ai ⟨[(0,_),(1,_),(5,_),(6,_),(7,_),(29,B (!x_12))],[(1,_)]⟩ rfl (ab.ite h8 rfl (fun _ h8=>?_) (fun _ h8=>?_))
     ·refine ab.seq (ab.aa ?_)
      refine Oc om (Oc om (Oc om ?_))
      obtain ⟨x_13,e11,h8⟩:=aO h8
      refine Oc (c8 iM (a7 e11) (hY e11) rfl rfl rfl rfl) (Oc (jL (i:=(i_5:Int).toNat) bp rfl rfl rfl rfl (sZ e11) (map_set _ _ _ _)) ?_)
      refine af.ai ⟨[(0,_),(1,_),(5,_),(6,_)],[(1,.row 42 1 ((s_4.set (i_5:Int).toNat x_11).map (mG ae)))]⟩ rfl (ab.aa (Oc om (Oc (bD rfl rfl) (Oc oa ?_))))
      refine af.nil (Fin.aw ?_)
      exact Fin.join [0,1,5,6] [1] (s_4.set (i_5:Int).toNat x_11,IntKind.i64.wrap (i_5 + 1)) (Option.some.inj h8) rfl
     ·refine ab.skip (Fin.aw ?_)
      exact Fin.join [0,1,5,6] [1] (s_4,i_5) (Option.some.inj h8) rfl
    ·rintro ⟨s_9,i_10⟩ hv
     subst v7
     refine ab.aa (Oc om (Oc (bD rfl rfl) (Oc oa ?_)))
     refine af.nil ?_
     exact Fin.ct [0,1,5,6] [1] (s_9,i_10,IntKind.i64.wrap (j_6 + 1)) (Option.some.inj h5) rfl
   ·refine ab.exit (Fin.aC ?_)
    obtain rfl:=hy6 _ (Option.some.inj h5).symm
    refine Fin.aC (Fin.aZ ?_)
    exact Fin.join [0,5] [1] (s_4,i_5) rfl rfl
  ·rintro ⟨s_2,i_3⟩ hv
   subst v2
   refine ab.seq (ab.aa ?_)
   refine Oc om (Oc om ?_)
   obtain ⟨z_14,e12,h⟩:=aO h
   refine af.clr (enc:=(mG ae)) iM rfl e12 rfl rfl rfl (by decide) rfl (af.ai ⟨[(0,_),(5,_)],[(1,.row 42 1 (z_14.map (mG ae)))]⟩ rfl (ab.seq (ab.aa ?_)))
   refine Oc om (Oc om ?_)
   obtain ⟨x_15,e13,h⟩:=aO h
   refine Oc (kF iM e13 rfl rfl rfl rfl) (Oc oa ?_)
   refine af.ai ⟨[(4,.b (.row 1))],[(1,.row 42 1 (x_15.map (mG ae)))]⟩ rfl (ab.ret ?_)
   obtain rfl:=Option.some.inj h
   refine Fin.ag ⟨[(4,_)],[(1,_)]⟩ rfl ?_
   exact Fin.result [.row 1] (.inl rfl) rfl (.cons (.tmp rfl) .nil) ⟨rfl,rfl⟩
def fJ (F:Nat) (l0:List (cB bc)):Option (List (cB bc)) :=
 (dF F 123 l0).bind fun x_1=>some x_1
theorem mA {F:Nat} {l0:List (cB bc)} {r:(List (cB bc))} (h:fJ F l0 = some r):ao Tryz.prog [] 100 [(1,.row 42 1 (l0.map (mG ae)))] [.row 1] (Is [(1,.row 42 1 (r.map (mG ae)))] (.b (.row 1))):=by
 unfold fJ at h
 refine ao.intro 5 Tryz.func100 Tryz.ntmps100 rfl (by simp) fun E=>?_
 show ab _ E ⟨5,[],[1],[]⟩ _ ⟨[(0,.b (.row 1))],[(1,.row 42 1 (l0.map (mG ae)))]⟩ _
 refine ab.seq (ab.aa ?_)
 refine Oc oa (af.ai ⟨[(0,.b (.row 1))],[(1,.row 42 1 (l0.map (mG ae)))]⟩ rfl (ab.seq (ab.aa ?_)))
 refine Oc om ?_
 obtain ⟨x_1,e1,h⟩:=aO h
 refine Oc (cY (own_a:=[(1,_)]) (gT e1) goes122 rfl ⟨rfl,trivial⟩ rfl rfl) (Oc oa ?_)
 refine af.ai ⟨[(2,.b (.row 1))],[(1,.row 42 1 (x_1.map (mG ae)))]⟩ rfl (ab.ret ?_)
 obtain rfl:=Option.some.inj h
 refine Fin.ag ⟨[(2,_)],[(1,_)]⟩ rfl ?_
 exact Fin.result [.row 1] (.inl rfl) rfl (.cons (.tmp rfl) .nil) ⟨rfl,rfl⟩
def aY (F:Nat) (t0:ir) (n0:cB bc) (left0:cB bc) (right0:cB bc):Option (cB bc) :=
 Option.bind (iI n0) (fun nd_1=>Option.bind (iI n0) (fun nd_2=>Option.bind (iI n0) (fun nd_3=>(gX F t0.box nd_3.1.x).bind fun x_4=>Option.bind ((fJ F [left0,right0]).bind fun x_6=>iter F (dQ fun out_7 x_8=>if (decide (x_8 < (x_6.length:Int))) = true then ((aX x_6 x_8).bind fun x_10=>Option.bind (iI x_10) (fun nd_11=>(gr F out_7.cover nd_11.1.cover).bind fun x_12=>some (.inl ((⟨out_7.x,out_7.priority,x_12,out_7.left,out_7.right⟩:Nod),IntKind.i64.wrap (x_8 + 1))))) else (some (.inr out_7))) ((⟨nd_1.1.x,nd_2.1.priority,x_4,left0,right0⟩:Nod),0)) (fun out_5=>some (.node (⟨out_5.x,out_5.priority,out_5.cover⟩:bc) out_5.left out_5.right)))))
theorem bG {F:Nat} {t0:ir} {n0:cB bc} {left0:cB bc} {right0:cB bc} {r:(cB bc)} (h:aY F t0 n0 left0 right0 = some r):ao Tryz.prog [] 80 [] [.agg (bC t0),.one (.tr ae n0),.one (.tr ae left0),.one (.tr ae right0)] (Is [] (.b (.one (.tr ae r)))):=by
 unfold aY at h
 refine ao.intro 54 Tryz.func80 Tryz.ntmps80 rfl (by simp) fun E=>?_
 show ab _ E ⟨54,[],[],[]⟩ _ ⟨[(0,.b (.agg (bC t0))),(1,.b (.one (.tr ae n0))),(2,.b (.one (.tr ae left0))),(3,.b (.one (.tr ae right0)))],[]⟩ _
 refine ab.seq (ab.aa ?_)
 refine Oc (bW (k:=101) rfl rfl) (Oc oa ?_)
 refine af.ai ⟨[(1,.b (.one (.tr ae n0))),(2,.b (.one (.tr ae left0))),(3,.b (.one (.tr ae right0))),(4,Pt 101 0)],[(101,.box 47 (bC t0))]⟩ rfl (ab.seq ?_)
 obtain ⟨nd_1,e1,h⟩:=aO h
 obtain ⟨nd_2,e2,h⟩:=aO h
 obtain ⟨nd_3,e3,h⟩:=aO h
 obtain ⟨x_4,e4,h⟩:=aO h
 refine ab.bZ mixed 18 [.b (.one (.tr ae n0)),.b (.aJ (an nd_1.1.x ++ (.int .u64 nd_1.1.priority :: (ak nd_1.1.cover ++ ([.tr ae nd_1.2.1,.tr ae nd_1.2.2]))))),.b (.aJ (an nd_1.1.x ++ (.int .u64 nd_1.1.priority :: (ak nd_1.1.cover ++ ([.tr ae nd_1.2.1,.tr ae nd_1.2.2]))))),.b (.agg (an nd_1.1.x)),.b (.one (.tr ae n0)),.b (.aJ (an nd_2.1.x ++ (.int .u64 nd_2.1.priority :: (ak nd_2.1.cover ++ ([.tr ae nd_2.2.1,.tr ae nd_2.2.2]))))),.b (.aJ (.int .u64 nd_2.1.priority :: (ak nd_2.1.cover ++ ([.tr ae nd_2.2.1,.tr ae nd_2.2.2])))),.b (.one (.int .u64 nd_2.1.priority)),Pt 101 3,.b (.one (.cR t0.box)),.b (.one (.tr ae n0)),.b (.aJ (an nd_3.1.x ++ (.int .u64 nd_3.1.priority :: (ak nd_3.1.cover ++ ([.tr ae nd_3.2.1,.tr ae nd_3.2.2]))))),.b (.aJ (an nd_3.1.x ++ (.int .u64 nd_3.1.priority :: (ak nd_3.1.cover ++ ([.tr ae nd_3.2.1,.tr ae nd_3.2.2]))))),.b (.agg (an nd_3.1.x)),.b (.agg (ak x_4)),.b (.one (.tr ae left0)),.b (.one (.tr ae right0)),.b (.agg (an nd_1.1.x ++ (.int .u64 nd_2.1.priority :: (ak x_4 ++ ([.tr ae left0,.tr ae right0])))))] [2,3,9] [102] (s':=⟨[(2,_),(3,_),(9,Pt 102 0)],[(102,.box 117 (an nd_1.1.x ++ (.int .u64 nd_2.1.priority :: (ak x_4 ++ ([.tr ae left0,.tr ae right0])))))]⟩) rfl ⟨fun _=>.p om,fun _=>.p (aD e1 rfl rfl),fun _=>by exact .p (aA dU rfl rfl),fun _=>.p (cn bq rfl rfl rfl),fun _=>.p om,fun _=>.p (aD e2 rfl rfl),fun _=>by exact .p (aA kW rfl rfl),fun _=>.p (aq o2 rfl rfl),fun _=>.p (ay sj rfl rfl),fun _=>.p (aR tyOne45 rfl rfl rfl),fun _=>.p om,fun _=>.p (aD e3 rfl rfl),fun _=>by exact .p (aA dU rfl rfl),fun _=>.p (cn bq rfl rfl rfl),fun _=>.p (kg (ru e4) (ry e4) (uq e4) rfl rfl rfl),fun _=>.p om,fun _=>.p om,fun _=>.p (cu nI rfl rfl),trivial⟩ ⟨_,by exact .p (bW (k:=102) rfl rfl),⟨_,by exact .p oa,rfl⟩⟩ rfl ?_
 obtain ⟨v5,h6,h⟩:=aO h
 refine ab.eb (v:=v5) (fun (out_5:Nod)=>⟨[(9,Pt 102 0)],[(102,.box 117 (eNod out_5))]⟩) (fun z=>z) ?_ ?_
 ·refine ab.seq (ab.aa ?_)
  refine Oc om (Oc om (Oc (cr (k:=103) (es:=[left0,right0].map (mG ae)) iM rfl rfl (cx fun _=>rfl) rfl (by decide) (by decide) rfl) ?_))
  obtain ⟨x_6,e7,h6⟩:=aO h6
  refine Oc (cY (own_a:=[(103,_)]) ((mA e7).sw 1 103) goes100 rfl ⟨rfl,trivial⟩ rfl rfl) (Oc (di qL rfl rfl (List.length_map _)) (Oc om ?_))
  refine af.ai ⟨[(9,_),(34,.b (.row 103)),(35,I (x_6.length:Int)),(36,I 0)],[(102,_),(103,.row 42 1 (x_6.map (mG ae)))]⟩ rfl (ab.block (ab.de h6 (dQ fun (out_7:Nod) (x_8:Int)=>⟨[(9,Pt 102 0),(34,.b (.row 103)),(35,I (x_6.length:Int)),(36,I x_8)],[(102,.box 117 (eNod out_7)),(103,.row 42 1 (x_6.map (mG ae)))]⟩) [9,34,35,36] [102,103] rfl ?_))
  rintro ⟨out_7,x_8⟩ o8 h9 hy10
  refine ab.seq (ab.aa ?_)
  refine Oc (bu rfl rfl) (af.ai ⟨[(9,_),(34,_),(35,_),(36,_),(37,B (decide (x_8 < (x_6.length:Int))))],[(102,_),(103,_)]⟩ rfl (ab.seq (ab.ite h9 rfl (fun _ h9=>?_) (fun _ h9=>?_))))
  ·refine ab.skip (Fin.ag ⟨[(9,_),(34,_),(35,_),(36,_)],[(102,_),(103,_)]⟩ rfl (Fin.then (ab.seq (ab.block (ab.seq (ab.aa ?_))))))
   obtain ⟨x_10,e11,h9⟩:=aO h9
   refine Oc (c8 iM (a7 e11) (hY e11) rfl rfl rfl rfl) (Oc (fB (i:=(x_8:Int).toNat) (f:=0) bp rfl rfl rfl (b7 (e:=(mG ae)) e11) rfl) (Oc oa ?_))
   refine af.ai ⟨[(9,_),(11,.b (.one (.tr ae x_10))),(34,_),(35,_),(36,_)],[(102,_),(103,_)]⟩ rfl ?_
   obtain ⟨nd_11,e12,h9⟩:=aO h9
   obtain ⟨x_12,e13,h9⟩:=aO h9
   refine ab.lG mixed 12 [Pt 102 0,Pt 102 0,Pt 102 0,Pt 102 8,.b (.agg (ak out_7.cover)),.b (.one (.tr ae x_10)),.b (.aJ (an nd_11.1.x ++ (.int .u64 nd_11.1.priority :: (ak nd_11.1.cover ++ ([.tr ae nd_11.2.1,.tr ae nd_11.2.2]))))),.b (.aJ (ak nd_11.1.cover ++ ([.tr ae nd_11.2.1,.tr ae nd_11.2.2]))),.b (.agg (ak nd_11.1.cover)),.b (.agg (ak x_12)),Pt 102 0,Pt 102 8] [9,34,35,36] [102,103] (s':=⟨[(9,_),(34,_),(35,_),(36,_)],[(102,.box 117 (an out_7.x ++ (.int .u64 out_7.priority :: (ak x_12 ++ ([.tr ae out_7.left,.tr ae out_7.right]))))),(103,_)]⟩) rfl ⟨fun _=>.p om,fun _=>.p om,fun _=>.p (kG rfl),fun _=>.p (ay iS rfl rfl),fun _=>.p (lp aE),fun _=>.p om,fun _=>.p (aD e12 rfl rfl),fun _=>by exact .p (aA iS rfl rfl),fun _=>.p (cn aE rfl rfl rfl),fun _=>.p (aj (jg e13) tC rfl rfl),fun _=>.p (kG rfl),fun _=>.p (ay iS rfl rfl),trivial⟩ ⟨_,by exact .p (aG aE rfl rfl rfl rfl (Nat.le_of_ble_eq_true rfl) rfl),rfl⟩ rfl (Fin.aw (Fin.ag ⟨[(9,_),(34,_),(35,_),(36,_)],[(102,_),(103,_)]⟩ rfl (Fin.then (ab.aa ?_))))
   refine Oc (bD rfl rfl) (Oc om ?_)
   refine af.nil ?_
   exact Fin.ct [9,34,35,36] [102,103] ((⟨out_7.x,out_7.priority,x_12,out_7.left,out_7.right⟩:Nod),IntKind.i64.wrap (x_8 + 1)) (Option.some.inj h9) rfl
  ·refine ab.exit (Fin.aC ?_)
   obtain rfl:=hy10 _ (Option.some.inj h9).symm
   refine Fin.aC (Fin.aZ ?_)
   exact Fin.join [9] [102] out_7 rfl rfl
 ·rintro out_5 hv
  subst v5
  refine ab.seq (ab.aa ?_)
  refine Oc om (Oc oa ?_)
  refine af.ai ⟨[(8,Pt 102 0)],[(102,_)]⟩ rfl (ab.ret ?_)
  obtain rfl:=Option.some.inj h
  refine Fin.ag ⟨[(8,_)],[(102,_)]⟩ rfl (Fin.fP 102 rfl (Fin.toTr (enc:=ae) 8 (⟨out_5.x,out_5.priority,out_5.cover⟩:bc) out_5.left out_5.right rfl rfl (Fin.av [.one (.tr ae (.node (⟨out_5.x,out_5.priority,out_5.cover⟩:bc) out_5.left out_5.right))] (.inl rfl) rfl (.cons (.tmp rfl) .nil) ⟨rfl,rfl⟩)))
def bF (F:Nat):Nat → ir → (cB bc) → entry → Option ((cB bc) × (cB bc))
 | 0,_,_,_=>none
 | n + 1,t0,n0,x0=>if n0.cS = true then (some (.leaf,.leaf)) else (Option.bind (iI n0) (fun nd_1=>(ff F t0.compare nd_1.1.x x0).bind fun x_2=>if (decide (x_2 < 0)) = true then (Option.bind (iI n0) (fun nd_3=>Option.bind (bF F n t0 nd_3.2.2 x0) (dQ fun x_4 x_5=>Option.bind (iI n0) (fun nd_6=>(aY F t0 n0 nd_6.2.1 x_4).bind fun x_7=>some (x_7,x_5))))) else (Option.bind (iI n0) (fun nd_8=>Option.bind (bF F n t0 nd_8.2.1 x0) (dQ fun x_9 x_10=>Option.bind (iI n0) (fun nd_11=>(aY F t0 n0 x_10 nd_11.2.2).bind fun x_12=>some (x_9,x_12)))))))
def eH (F:Nat) (t0:ir) (n0:cB bc) (x0:entry):Option ((cB bc) × (cB bc)):=bF F F t0 n0 x0
theorem jc {F:Nat}:∀ (n:Nat) {t0:ir} {n0:cB bc} {x0:entry} {r:(cB bc) × (cB bc)} (h:bF F n t0 n0 x0 = some r),ao Tryz.prog [] 79 [] [.agg (bC t0),.one (.tr ae n0),.agg (an x0)] (Is [] (.ew [.one (.tr ae r.1),.one (.tr ae r.2)])):=by
 intro n
 induction n with
 | zero=>intro t0 n0 x0 r h; simp [bF] at h
 | succ n ih=>
 intro t0 n0 x0 r h
 unfold bF at h
 refine ao.intro 61 Tryz.func79 Tryz.ntmps79 rfl (by simp) fun E=>?_
 show ab _ E ⟨61,[],[],[]⟩ _ ⟨[(0,.b (.agg (bC t0))),(1,.b (.one (.tr ae n0))),(2,.b (.agg (an x0)))],[]⟩ _
 refine ab.seq (ab.aa ?_)
 refine Oc (bW (k:=101) rfl rfl) (Oc (bW (k:=102) rfl rfl) (Oc oa (Oc oa ?_)))
 refine af.ai ⟨[(1,.b (.one (.tr ae n0))),(3,Pt 101 0),(5,Pt 102 0)],[(101,.box 47 (bC t0)),(102,.box 87 (an x0))]⟩ rfl (ab.seq (ab.seq (ab.aa ?_)))
 refine Oc om (Oc (eU kQ rfl) ?_)
 refine af.ai ⟨[(1,_),(3,_),(5,_),(13,B n0.cS)],[(101,_),(102,_)]⟩ rfl (ab.ite h rfl (fun _ h=>?_) (fun _ h=>?_))
 ·refine ab.seq (ab.aa ?_)
  refine Oc oa (Oc oa ?_)
  refine af.ai ⟨[(6,.b (.one (.tr ae (.leaf)))),(7,.b (.one (.tr ae (.leaf))))],[]⟩ rfl (ab.ret (Fin.ar ?_))
  obtain rfl:=Option.some.inj h
  refine Fin.ag ⟨[(6,_),(7,_)],[]⟩ rfl (Fin.av [.one (.tr ae (.leaf)),.one (.tr ae (.leaf))] (.inl rfl) rfl (.cons (.tmp rfl) (.cons (.tmp rfl) .nil)) ⟨rfl,rfl⟩)
 ·refine ab.skip (Fin.ag ⟨[(1,_),(3,_),(5,_)],[(101,_),(102,_)]⟩ rfl (Fin.then (ab.seq (ab.seq ?_))))
  refine ab.ag ⟨[(1,_),(3,_),(5,_)],[(101,_),(102,_)]⟩ rfl ?_
  obtain ⟨nd_1,e1,h⟩:=aO h
  obtain ⟨x_2,e2,h⟩:=aO h
  refine ab.bZ mixed 9 [Pt 101 1,.b (.one (.cR t0.compare)),.b (.one (.tr ae n0)),.b (.aJ (an nd_1.1.x ++ (.int .u64 nd_1.1.priority :: (ak nd_1.1.cover ++ ([.tr ae nd_1.2.1,.tr ae nd_1.2.2]))))),.b (.aJ (an nd_1.1.x ++ (.int .u64 nd_1.1.priority :: (ak nd_1.1.cover ++ ([.tr ae nd_1.2.1,.tr ae nd_1.2.2]))))),.b (.agg (an nd_1.1.x)),.b (.agg (an x0)),I x_2,B (decide (x_2 < 0))] [1,3,5,22] [101,102] (s':=⟨[(1,_),(3,_),(5,_),(22,B (decide (x_2 < 0)))],[(101,_),(102,_)]⟩) rfl ⟨fun _=>.p (ay ou rfl rfl),fun _=>.p (aR rQ rfl rfl rfl),fun _=>.p om,fun _=>.p (aD e1 rfl rfl),fun _=>by exact .p (aA dU rfl rfl),fun _=>.p (cn bq rfl rfl rfl),fun _=>.p (lp bq),fun _=>.p (kg (nT e2) (nU e2) (qj e2) rfl rfl rfl),fun _=>.p (bu rfl rfl),trivial⟩ rfl rfl (ab.ite h rfl (fun _ h=>?_) (fun _ h=>?_))
  ·refine ab.seq (ab.ag ⟨[(1,_),(3,_),(5,_)],[(101,_),(102,_)]⟩ rfl ?_)
   obtain ⟨nd_3,e3,h⟩:=aO h
   obtain ⟨⟨x_4,x_5⟩,e4,h⟩:=aO h
   refine ab.bZ mixed 12 [.b (.agg (bC t0)),.b (.one (.tr ae n0)),.b (.aJ (an nd_3.1.x ++ (.int .u64 nd_3.1.priority :: (ak nd_3.1.cover ++ ([.tr ae nd_3.2.1,.tr ae nd_3.2.2]))))),.b (.aJ [.tr ae nd_3.2.2]),.b (.one (.tr ae nd_3.2.2)),.b (.agg (an x0)),.ew [.one (.tr ae x_4),.one (.tr ae x_5)],.ew [.one (.tr ae x_4),.one (.tr ae x_5)],.b (.one (.tr ae x_4)),.b (.one (.tr ae x_5)),.b (.one (.tr ae x_4)),.b (.one (.tr ae x_5))] [1,3,8,9] [101] (s':=⟨[(1,_),(3,_),(8,.b (.one (.tr ae x_4))),(9,.b (.one (.tr ae x_5)))],[(101,_)]⟩) rfl ⟨fun _=>.p (lp bw),fun _=>.p om,fun _=>.p (aD e3 rfl rfl),fun _=>by exact .p (aA dA rfl rfl),fun _=>.p (aq bp rfl rfl),fun _=>.p (lp bq),fun _=>.p (aj (ih e4) qT rfl rfl),fun _=>.p om,fun _=>.p (aB rfl rfl),fun _=>.p (aB rfl rfl),fun _=>.p oa,fun _=>.p oa,trivial⟩ rfl rfl (ab.seq (ab.ag ⟨[(1,_),(3,_),(8,_),(9,_)],[(101,_)]⟩ rfl ?_))
   obtain ⟨nd_6,e5,h⟩:=aO h
   obtain ⟨x_7,e6,h⟩:=aO h
   refine ab.bZ mixed 11 [.b (.agg (bC t0)),.b (.one (.tr ae n0)),.b (.one (.tr ae n0)),.b (.aJ (an nd_6.1.x ++ (.int .u64 nd_6.1.priority :: (ak nd_6.1.cover ++ ([.tr ae nd_6.2.1,.tr ae nd_6.2.2]))))),.b (.aJ [.tr ae nd_6.2.1,.tr ae nd_6.2.2]),.b (.one (.tr ae nd_6.2.1)),.b (.one (.tr ae x_4)),.b (.one (.tr ae x_7)),.b (.one (.tr ae x_5)),.b (.one (.tr ae x_7)),.b (.one (.tr ae x_5))] [6,7] [] (s':=⟨[(6,.b (.one (.tr ae x_7))),(7,.b (.one (.tr ae x_5)))],[]⟩) rfl ⟨fun _=>.p (lp bw),fun _=>.p om,fun _=>.p om,fun _=>.p (aD e5 rfl rfl),fun _=>by exact .p (aA dB rfl rfl),fun _=>.p (aq bp rfl rfl),fun _=>.p om,fun _=>.p (aj (bG e6) kS rfl rfl),fun _=>.p om,fun _=>.p oa,fun _=>.p oa,trivial⟩ rfl rfl (ab.ret (Fin.ar ?_))
   obtain rfl:=Option.some.inj h
   refine Fin.ag ⟨[(6,_),(7,_)],[]⟩ rfl (Fin.av [.one (.tr ae x_7),.one (.tr ae x_5)] (.inl rfl) rfl (.cons (.tmp rfl) (.cons (.tmp rfl) .nil)) ⟨rfl,rfl⟩)
  ·refine ab.skip (Fin.ag ⟨[(1,_),(3,_),(5,_)],[(101,_),(102,_)]⟩ rfl (Fin.then (ab.seq ?_)))
   refine ab.ag ⟨[(1,_),(3,_),(5,_)],[(101,_),(102,_)]⟩ rfl ?_
   obtain ⟨nd_8,e7,h⟩:=aO h
   obtain ⟨⟨x_9,x_10⟩,e8,h⟩:=aO h
   refine ab.bZ mixed 12 [.b (.agg (bC t0)),.b (.one (.tr ae n0)),.b (.aJ (an nd_8.1.x ++ (.int .u64 nd_8.1.priority :: (ak nd_8.1.cover ++ ([.tr ae nd_8.2.1,.tr ae nd_8.2.2]))))),.b (.aJ [.tr ae nd_8.2.1,.tr ae nd_8.2.2]),.b (.one (.tr ae nd_8.2.1)),.b (.agg (an x0)),.ew [.one (.tr ae x_9),.one (.tr ae x_10)],.ew [.one (.tr ae x_9),.one (.tr ae x_10)],.b (.one (.tr ae x_9)),.b (.one (.tr ae x_10)),.b (.one (.tr ae x_9)),.b (.one (.tr ae x_10))] [1,3,10,11] [101] (s':=⟨[(1,_),(3,_),(10,.b (.one (.tr ae x_9))),(11,.b (.one (.tr ae x_10)))],[(101,_)]⟩) rfl ⟨fun _=>.p (lp bw),fun _=>.p om,fun _=>.p (aD e7 rfl rfl),fun _=>by exact .p (aA dB rfl rfl),fun _=>.p (aq bp rfl rfl),fun _=>.p (lp bq),fun _=>.p (aj (ih e8) qT rfl rfl),fun _=>.p om,fun _=>.p (aB rfl rfl),fun _=>.p (aB rfl rfl),fun _=>.p oa,fun _=>.p oa,trivial⟩ rfl rfl (ab.seq (ab.ag ⟨[(1,_),(3,_),(10,_),(11,_)],[(101,_)]⟩ rfl ?_))
   obtain ⟨nd_11,e9,h⟩:=aO h
   obtain ⟨x_12,e10,h⟩:=aO h
   refine ab.bZ mixed 11 [.b (.one (.tr ae x_9)),.b (.agg (bC t0)),.b (.one (.tr ae n0)),.b (.one (.tr ae x_10)),.b (.one (.tr ae n0)),.b (.aJ (an nd_11.1.x ++ (.int .u64 nd_11.1.priority :: (ak nd_11.1.cover ++ ([.tr ae nd_11.2.1,.tr ae nd_11.2.2]))))),.b (.aJ [.tr ae nd_11.2.2]),.b (.one (.tr ae nd_11.2.2)),.b (.one (.tr ae x_12)),.b (.one (.tr ae x_9)),.b (.one (.tr ae x_12))] [6,7] [] (s':=⟨[(6,.b (.one (.tr ae x_9))),(7,.b (.one (.tr ae x_12)))],[]⟩) rfl ⟨fun _=>.p om,fun _=>.p (lp bw),fun _=>.p om,fun _=>.p om,fun _=>.p om,fun _=>.p (aD e9 rfl rfl),fun _=>by exact .p (aA dA rfl rfl),fun _=>.p (aq bp rfl rfl),fun _=>.p (aj (bG e10) kS rfl rfl),fun _=>.p oa,fun _=>.p oa,trivial⟩ rfl rfl (ab.ret ?_)
   obtain rfl:=Option.some.inj h
   refine Fin.ag ⟨[(6,_),(7,_)],[]⟩ rfl (Fin.av [.one (.tr ae x_9),.one (.tr ae x_12)] (.inl rfl) rfl (.cons (.tmp rfl) (.cons (.tmp rfl) .nil)) ⟨rfl,rfl⟩)
theorem jo {F:Nat} {t0:ir} {n0:cB bc} {x0:entry} {r:(cB bc) × (cB bc)} (h:eH F t0 n0 x0 = some r):ao Tryz.prog [] 79 [] [.agg (bC t0),.one (.tr ae n0),.agg (an x0)] (Is [] (.ew [.one (.tr ae r.1),.one (.tr ae r.2)])):=jc F h
def eV (F:Nat) (x0:Int):Option Int :=
 eC (IntKind.u64.wrap ((n3 .u64 x0 (x0 / 1073741824)) * 13787848793156543929)) fun x_1=>eC (IntKind.u64.wrap ((n3 .u64 x_1 (x_1 / 134217728)) * 10723151780598845931)) fun x_2=>some (n3 .u64 x_2 (x_2 / 2147483648))
theorem nX {F:Nat} {x0:Int} {r:Int} (h:eV F x0 = some r):ao Tryz.prog [] 81 [] [.one (.int .u64 x0)] (Is [] (.b (.one (.int .u64 r)))):=by
 unfold eV at h
 refine ao.intro 19 Tryz.func81 Tryz.ntmps81 rfl (by simp) fun E=>?_
 show ab _ E ⟨19,[],[],[]⟩ _ ⟨[(0,.b (.one (.int .u64 x0)))],[]⟩ _
 refine ab.seq (ab.aa ?_)
 refine Oc oa (af.ai ⟨[(0,.b (.one (.int .u64 x0)))],[]⟩ rfl (ab.seq (ab.aa ?_)))
 refine Oc om (Oc om (Oc (iN (m:=30) (by decide) rfl rfl rfl) (Oc (qO rfl rfl) (Oc oa ?_))))
 refine af.ai ⟨[(0,.b (.one (.int .u64 (n3 .u64 x0 (x0 / 1073741824)))))],[]⟩ rfl (ab.seq (ab.aa ?_))
 refine Oc om (af.pJ .u64 h rfl (th rfl rfl) (fun x_1 h=>?_))
 refine Oc oa (af.ai ⟨[(0,.b (.one (.int .u64 x_1)))],[]⟩ rfl (ab.seq (ab.aa ?_)))
 refine Oc om (Oc om (Oc (iN (m:=27) (by decide) rfl rfl rfl) (Oc (qO rfl rfl) (Oc oa ?_))))
 refine af.ai ⟨[(0,.b (.one (.int .u64 (n3 .u64 x_1 (x_1 / 134217728)))))],[]⟩ rfl (ab.seq (ab.aa ?_))
 refine Oc om (af.pJ .u64 h rfl (th rfl rfl) (fun x_2 h=>?_))
 refine Oc oa (af.ai ⟨[(0,.b (.one (.int .u64 x_2)))],[]⟩ rfl (ab.seq (ab.aa ?_)))
 refine Oc om (Oc om (Oc (iN (m:=31) (by decide) rfl rfl rfl) (Oc (qO rfl rfl) (Oc oa ?_))))
 refine af.ai ⟨[(2,.b (.one (.int .u64 (n3 .u64 x_2 (x_2 / 2147483648)))))],[]⟩ rfl (ab.ret ?_)
 obtain rfl:=Option.some.inj h
 refine Fin.ag ⟨[(2,_)],[]⟩ rfl (Fin.av [.one (.int .u64 (n3 .u64 x_2 (x_2 / 2147483648)))] (.inl rfl) rfl (.cons (.tmp rfl) .nil) ⟨rfl,rfl⟩)
def bN (F:Nat):Nat → ir → (cB bc) → (cB bc) → Option (cB bc)
 | 0,_,_,_=>none
 | n + 1,t0,a0,b0=>if a0.cS = true then (some b0) else (if b0.cS = true then (some a0) else (Option.bind (iI a0) (fun nd_1=>Option.bind (iI b0) (fun nd_2=>if (decide (nd_2.1.priority < nd_1.1.priority)) = true then (Option.bind (iI a0) (fun nd_3=>Option.bind (iI a0) (fun nd_4=>(bN F n t0 nd_4.2.2 b0).bind fun x_5=>(aY F t0 a0 nd_3.2.1 x_5).bind fun x_6=>some x_6))) else (Option.bind (iI b0) (fun nd_7=>(bN F n t0 a0 nd_7.2.1).bind fun x_8=>Option.bind (iI b0) (fun nd_9=>(aY F t0 b0 x_8 nd_9.2.2).bind fun x_10=>some x_10)))))))
def b9 (F:Nat) (t0:ir) (a0:cB bc) (b0:cB bc):Option (cB bc):=bN F F t0 a0 b0
theorem jq {F:Nat}:∀ (n:Nat) {t0:ir} {a0:cB bc} {b0:cB bc} {r:(cB bc)} (h:bN F n t0 a0 b0 = some r),ao Tryz.prog [] 82 [] [.agg (bC t0),.one (.tr ae a0),.one (.tr ae b0)] (Is [] (.b (.one (.tr ae r)))):=by
 intro n
 induction n with
 | zero=>intro t0 a0 b0 r h; simp [bN] at h
 | succ n ih=>
 intro t0 a0 b0 r h
 unfold bN at h
 refine ao.intro 53 Tryz.func82 Tryz.ntmps82 rfl (by simp) fun E=>?_
 show ab _ E ⟨53,[],[],[]⟩ _ ⟨[(0,.b (.agg (bC t0))),(1,.b (.one (.tr ae a0))),(2,.b (.one (.tr ae b0)))],[]⟩ _
 refine ab.seq (ab.aa ?_)
 refine Oc (bW (k:=101) rfl rfl) (Oc oa ?_)
 refine af.ai ⟨[(1,.b (.one (.tr ae a0))),(2,.b (.one (.tr ae b0))),(3,Pt 101 0)],[(101,.box 47 (bC t0))]⟩ rfl (ab.seq (ab.block (ab.seq (ab.aa ?_))))
 refine Oc om (Oc (eU kQ rfl) (Oc oa ?_))
 refine af.ai ⟨[(1,_),(2,_),(3,_),(7,B a0.cS)],[(101,_)]⟩ rfl (ab.ite h rfl (fun _ h=>?_) (fun _ h=>?_))
 ·refine ab.seq (ab.aa ?_)
  refine Oc om (Oc oa ?_)
  refine af.ai ⟨[(6,.b (.one (.tr ae b0)))],[]⟩ rfl (ab.ret (Fin.aP (Fin.ar ?_)))
  obtain rfl:=Option.some.inj h
  refine Fin.ag ⟨[(6,_)],[]⟩ rfl (Fin.av [.one (.tr ae b0)] (.inl rfl) rfl (.cons (.tmp rfl) .nil) ⟨rfl,rfl⟩)
 ·refine ab.seq (ab.aa ?_)
  refine Oc om (Oc (eU kQ rfl) (Oc oa ?_))
  refine af.ai ⟨[(1,_),(2,_),(3,_),(11,B b0.cS)],[(101,_)]⟩ rfl (ab.ite h rfl (fun _ h=>?_) (fun _ h=>?_))
  ·refine ab.seq (ab.aa ?_)
   refine Oc om (Oc oa ?_)
   refine af.ai ⟨[(6,.b (.one (.tr ae a0)))],[]⟩ rfl (ab.ret (Fin.aP (Fin.ar ?_)))
   obtain rfl:=Option.some.inj h
   refine Fin.ag ⟨[(6,_)],[]⟩ rfl (Fin.av [.one (.tr ae a0)] (.inl rfl) rfl (.cons (.tmp rfl) .nil) ⟨rfl,rfl⟩)
  ·refine ab.seq (ab.ag ⟨[(1,_),(2,_),(3,_)],[(101,_)]⟩ rfl ?_)
   obtain ⟨nd_1,e1,h⟩:=aO h
   obtain ⟨nd_2,e2,h⟩:=aO h
   refine ab.bZ mixed 10 [.b (.one (.tr ae a0)),.b (.aJ (an nd_1.1.x ++ (.int .u64 nd_1.1.priority :: (ak nd_1.1.cover ++ ([.tr ae nd_1.2.1,.tr ae nd_1.2.2]))))),.b (.aJ (.int .u64 nd_1.1.priority :: (ak nd_1.1.cover ++ ([.tr ae nd_1.2.1,.tr ae nd_1.2.2])))),.b (.one (.int .u64 nd_1.1.priority)),.b (.one (.tr ae b0)),.b (.aJ (an nd_2.1.x ++ (.int .u64 nd_2.1.priority :: (ak nd_2.1.cover ++ ([.tr ae nd_2.2.1,.tr ae nd_2.2.2]))))),.b (.aJ (.int .u64 nd_2.1.priority :: (ak nd_2.1.cover ++ ([.tr ae nd_2.2.1,.tr ae nd_2.2.2])))),.b (.one (.int .u64 nd_2.1.priority)),B (decide (nd_2.1.priority < nd_1.1.priority)),B (decide (nd_2.1.priority < nd_1.1.priority))] [1,2,3,15] [101] (s':=⟨[(1,_),(2,_),(3,_),(15,B (decide (nd_2.1.priority < nd_1.1.priority)))],[(101,_)]⟩) rfl ⟨fun _=>.p om,fun _=>.p (aD e1 rfl rfl),fun _=>by exact .p (aA kW rfl rfl),fun _=>.p (aq o2 rfl rfl),fun _=>.p om,fun _=>.p (aD e2 rfl rfl),fun _=>by exact .p (aA kW rfl rfl),fun _=>.p (aq o2 rfl rfl),fun _=>.p (iJ rfl rfl),fun _=>.p oa,trivial⟩ rfl rfl (ab.ite h rfl (fun _ h=>?_) (fun _ h=>?_))
   ·refine ab.seq (ab.ag ⟨[(1,_),(2,_),(3,_)],[(101,_)]⟩ rfl ?_)
    obtain ⟨nd_3,e3,h⟩:=aO h
    obtain ⟨nd_4,e4,h⟩:=aO h
    obtain ⟨x_5,e5,h⟩:=aO h
    obtain ⟨x_6,e6,h⟩:=aO h
    refine ab.bZ mixed 15 [.b (.agg (bC t0)),.b (.one (.tr ae a0)),.b (.one (.tr ae a0)),.b (.aJ (an nd_3.1.x ++ (.int .u64 nd_3.1.priority :: (ak nd_3.1.cover ++ ([.tr ae nd_3.2.1,.tr ae nd_3.2.2]))))),.b (.aJ [.tr ae nd_3.2.1,.tr ae nd_3.2.2]),.b (.one (.tr ae nd_3.2.1)),.b (.agg (bC t0)),.b (.one (.tr ae a0)),.b (.aJ (an nd_4.1.x ++ (.int .u64 nd_4.1.priority :: (ak nd_4.1.cover ++ ([.tr ae nd_4.2.1,.tr ae nd_4.2.2]))))),.b (.aJ [.tr ae nd_4.2.2]),.b (.one (.tr ae nd_4.2.2)),.b (.one (.tr ae b0)),.b (.one (.tr ae x_5)),.b (.one (.tr ae x_6)),.b (.one (.tr ae x_6))] [6] [] (s':=⟨[(6,.b (.one (.tr ae x_6)))],[]⟩) rfl ⟨fun _=>.p (lp bw),fun _=>.p om,fun _=>.p om,fun _=>.p (aD e3 rfl rfl),fun _=>by exact .p (aA dB rfl rfl),fun _=>.p (aq bp rfl rfl),fun _=>.p (lp bw),fun _=>.p om,fun _=>.p (aD e4 rfl rfl),fun _=>by exact .p (aA dA rfl rfl),fun _=>.p (aq bp rfl rfl),fun _=>.p om,fun _=>.p (aj (ih e5) ns rfl rfl),fun _=>.p (aj (bG e6) kS rfl rfl),fun _=>.p oa,trivial⟩ rfl rfl (ab.ret (Fin.aP (Fin.ar ?_)))
    obtain rfl:=Option.some.inj h
    refine Fin.ag ⟨[(6,_)],[]⟩ rfl (Fin.av [.one (.tr ae x_6)] (.inl rfl) rfl (.cons (.tmp rfl) .nil) ⟨rfl,rfl⟩)
   ·refine ab.skip (Fin.aw (Fin.ag ⟨[(1,_),(2,_),(3,_)],[(101,_)]⟩ rfl (Fin.then (ab.seq ?_))))
    refine ab.ag ⟨[(1,_),(2,_),(3,_)],[(101,_)]⟩ rfl ?_
    obtain ⟨nd_7,e7,h⟩:=aO h
    obtain ⟨x_8,e8,h⟩:=aO h
    obtain ⟨nd_9,e9,h⟩:=aO h
    obtain ⟨x_10,e10,h⟩:=aO h
    refine ab.bZ mixed 15 [.b (.agg (bC t0)),.b (.one (.tr ae b0)),.b (.agg (bC t0)),.b (.one (.tr ae a0)),.b (.one (.tr ae b0)),.b (.aJ (an nd_7.1.x ++ (.int .u64 nd_7.1.priority :: (ak nd_7.1.cover ++ ([.tr ae nd_7.2.1,.tr ae nd_7.2.2]))))),.b (.aJ [.tr ae nd_7.2.1,.tr ae nd_7.2.2]),.b (.one (.tr ae nd_7.2.1)),.b (.one (.tr ae x_8)),.b (.one (.tr ae b0)),.b (.aJ (an nd_9.1.x ++ (.int .u64 nd_9.1.priority :: (ak nd_9.1.cover ++ ([.tr ae nd_9.2.1,.tr ae nd_9.2.2]))))),.b (.aJ [.tr ae nd_9.2.2]),.b (.one (.tr ae nd_9.2.2)),.b (.one (.tr ae x_10)),.b (.one (.tr ae x_10))] [6] [] (s':=⟨[(6,.b (.one (.tr ae x_10)))],[]⟩) rfl ⟨fun _=>.p (lp bw),fun _=>.p om,fun _=>.p (lp bw),fun _=>.p om,fun _=>.p om,fun _=>.p (aD e7 rfl rfl),fun _=>by exact .p (aA dB rfl rfl),fun _=>.p (aq bp rfl rfl),fun _=>.p (aj (ih e8) ns rfl rfl),fun _=>.p om,fun _=>.p (aD e9 rfl rfl),fun _=>by exact .p (aA dA rfl rfl),fun _=>.p (aq bp rfl rfl),fun _=>.p (aj (bG e10) kS rfl rfl),fun _=>.p oa,trivial⟩ rfl rfl (ab.ret ?_)
    obtain rfl:=Option.some.inj h
    refine Fin.ag ⟨[(6,_)],[]⟩ rfl (Fin.av [.one (.tr ae x_10)] (.inl rfl) rfl (.cons (.tmp rfl) .nil) ⟨rfl,rfl⟩)
theorem dZ {F:Nat} {t0:ir} {a0:cB bc} {b0:cB bc} {r:(cB bc)} (h:b9 F t0 a0 b0 = some r):ao Tryz.prog [] 82 [] [.agg (bC t0),.one (.tr ae a0),.one (.tr ae b0)] (Is [] (.b (.one (.tr ae r)))):=jq F h
def bz (F:Nat) (t0:ir) (x0:entry):Option ir :=
 Option.bind (eH F t0 t0.root x0) (dQ fun x_1 x_2=>(gj F t0.key x0).bind fun x_3=>(eV F x_3).bind fun x_4=>(aY F t0 (.node (⟨x0,x_4,(⟨A3.zero,A3.zero⟩:bQ)⟩:bc) (.leaf) (.leaf)) (.leaf) (.leaf)).bind fun x_5=>(b9 F t0 x_1 x_5).bind fun x_6=>(b9 F t0 x_6 x_2).bind fun x_7=>eC (⟨x_7,t0.compare,t0.key,t0.box⟩:ir) fun x_8=>some x_8)
theorem fV {F:Nat} {t0:ir} {x0:entry} {r:ir} (h:bz F t0 x0 = some r):ao Tryz.prog [] 59 [] [.agg (bC t0),.agg (an x0)] (Is [] (.b (.agg (bC r)))):=by
 unfold bz at h
 refine ao.intro 35 Tryz.func59 Tryz.ntmps59 rfl (by simp) fun E=>?_
 show ab _ E ⟨35,[],[],[]⟩ _ ⟨[(0,.b (.agg (bC t0))),(1,.b (.agg (an x0)))],[]⟩ _
 refine ab.seq (ab.aa ?_)
 refine Oc (bW (k:=101) rfl rfl) (Oc (bW (k:=102) rfl rfl) (Oc (a8 (k:=103) pQ rfl) ?_))
 refine af.ai ⟨[(2,Pt 101 0),(3,Pt 102 0),(4,Pt 103 0)],[(101,.box 47 (bC t0)),(102,.box 87 (an x0)),(103,.box 47 [.tr ae (.leaf),.cR 0,.cR 0,.cR 0])]⟩ rfl (ab.seq (ab.aa ?_))
 refine Oc (lp bw) (Oc (ay fw rfl rfl) (Oc (aR bp rfl rfl rfl) (Oc (lp bq) ?_)))
 obtain ⟨⟨x_1,x_2⟩,e1,h⟩:=aO h
 refine Oc (aj (jo e1) qT rfl rfl) (af.ag ⟨[(2,_),(3,_),(4,_),(13,.ew [.one (.tr ae x_1),.one (.tr ae x_2)])],[(101,_),(102,_),(103,_)]⟩ rfl (Oc om (Oc (aB rfl rfl) (Oc (aB rfl rfl) (Oc oa (Oc oa ?_))))))
 refine af.ai ⟨[(2,_),(3,_),(4,_),(5,.b (.one (.tr ae x_1))),(6,.b (.one (.tr ae x_2)))],[(101,_),(102,_),(103,_)]⟩ rfl (ab.seq ?_)
 obtain ⟨x_3,e2,h⟩:=aO h
 obtain ⟨x_4,e3,h⟩:=aO h
 obtain ⟨x_5,e4,h⟩:=aO h
 refine ab.lA mixed [false,false,false,false,false,false,false,false,true,false,false] [.b (.agg (bC t0)),.b (.agg (an x0)),Pt 101 2,.b (.one (.cR t0.key)),.b (.agg (an x0)),.b (.one (.int .u64 x_3)),.b (.one (.int .u64 x_4)),.b (.agg (an x0 ++ (.int .u64 x_4 :: ((cJ .i64) A3.zero ++ ((cJ .i64) A3.zero ++ ([.tr ae (.leaf),.tr ae (.leaf)])))))),.b (.one (.tr ae (.node (⟨x0,x_4,(⟨A3.zero,A3.zero⟩:bQ)⟩:bc) (.leaf) (.leaf)))),.b (.one (.tr ae x_5)),.b (.one (.tr ae x_5))] [⟨[false,false,false,false,false,false,false,false,false,false,false],[(2,Pt 101 0),(3,Pt 102 0),(4,Pt 103 0),(5,.b (.one (.tr ae x_1))),(6,.b (.one (.tr ae x_2)))],[(101,.box 47 (bC t0)),(102,.box 87 (an x0)),(103,.box 47 [.tr ae (.leaf),.cR 0,.cR 0,.cR 0])],[true,true,true,true,true,true,true,true,true,true,true],[],[9,10]⟩,⟨[false,false,false,false,false,false,false,false,true,false,false],[(2,Pt 101 0),(3,Pt 102 0),(4,Pt 103 0),(5,.b (.one (.tr ae x_1))),(6,.b (.one (.tr ae x_2)))],[(101,.box 47 (bC t0)),(102,.box 87 (an x0)),(103,.box 47 [.tr ae (.leaf),.cR 0,.cR 0,.cR 0])],[true,true,true,true,true,true,true,true,true,true,true],[1,2,3,4,5,6,7,8],[]⟩] rfl (⟨by kernel_rfl,⟨⟨.b (.agg (bC t0)),fun _=>rfl,fun _=>.p (by exact cA bw rfl rfl rfl rfl)⟩,⟨.b (.agg (an x0)),fun _=>rfl,fun _=>.p (by exact cA bq rfl rfl rfl rfl)⟩,⟨Pt 101 2,fun _=>rfl,fun _=>.p (by exact ay sm rfl rfl)⟩,⟨.b (.one (.cR t0.key)),fun _=>rfl,fun _=>.p (by exact aR tyOne44 rfl rfl rfl)⟩,⟨.b (.agg (an x0)),fun _=>rfl,fun _=>.p (by exact cA bq rfl rfl rfl rfl)⟩,⟨.b (.one (.int .u64 x_3)),fun _=>rfl,fun _=>.p (by exact kg (rj e2) (rk e2) (uf e2) rfl rfl rfl)⟩,⟨.b (.one (.int .u64 x_4)),fun _=>rfl,fun _=>.p (by exact aj (nX e3) goes81 rfl rfl)⟩,⟨.b (.agg (an x0 ++ (.int .u64 x_4 :: ((cJ .i64) A3.zero ++ ((cJ .i64) A3.zero ++ ([.tr ae (.leaf),.tr ae (.leaf)])))))),fun _=>rfl,fun _=>.p (by exact cu nI rfl rfl)⟩,⟨_,[],.b (.one (.tr ae (.node (⟨x0,x_4,(⟨A3.zero,A3.zero⟩:bQ)⟩:bc) (.leaf) (.leaf)))),rfl,fun _=>rfl,rfl,rfl,fun _=>.sL [101,102,103] (by exact .p (by exact op_boxT (enc:=ae) (⟨x0,x_4,(⟨A3.zero,A3.zero⟩:bQ)⟩:bc) (.leaf) (.leaf) rfl rfl)) (by exact rfl)⟩,trivial,trivial,trivial⟩,⟨by kernel_rfl,⟨⟨.b (.agg (bC t0)),fun _=>rfl,fun _=>.p (by exact cA bw rfl rfl rfl rfl)⟩,trivial,trivial,trivial,trivial,trivial,trivial,trivial,trivial,⟨.b (.one (.tr ae x_5)),fun _=>rfl,fun _=>.p (by exact aj (bG e4) kS rfl rfl)⟩,⟨.b (.one (.tr ae x_5)),fun _=>rfl,fun _=>.p (by exact bR rfl)⟩,trivial⟩,trivial⟩⟩) rfl rfl rfl [2,4,5,6,7] [101,103] (s':=⟨[(2,_),(4,_),(5,_),(6,_),(7,.b (.one (.tr ae x_5)))],[(101,_),(103,_)]⟩) rfl ?_
 refine ab.seq (ab.ag ⟨[(2,_),(4,_),(5,_),(6,_),(7,_)],[(101,_),(103,_)]⟩ rfl ?_)
 obtain ⟨x_6,e5,h⟩:=aO h
 obtain ⟨x_7,e6,h⟩:=aO h
 refine ab.bZ mixed 8 [.b (.agg (bC t0)),.b (.agg (bC t0)),.b (.one (.tr ae x_1)),.b (.one (.tr ae x_5)),.b (.one (.tr ae x_6)),.b (.one (.tr ae x_2)),.b (.one (.tr ae x_7)),Pt 101 0] [2,4] [101,103] (s':=⟨[(2,_),(4,_)],[(101,.box 47 [.tr ae x_7,.cR t0.compare,.cR t0.key,.cR t0.box]),(103,_)]⟩) rfl ⟨fun _=>.p (lp bw),fun _=>.p (lp bw),fun _=>.p om,fun _=>.p om,fun _=>.p (aj (dZ e5) ns rfl rfl),fun _=>.p om,fun _=>.p (aj (dZ e6) ns rfl rfl),fun _=>.p (ay fw rfl rfl),trivial⟩ ⟨_,by exact .p (dV bp rfl rfl rfl (Nat.le_of_ble_eq_true rfl) rfl),rfl⟩ rfl (ab.seq (ab.aa ?_))
 refine af.lv bC h rfl (lp bw) (fun x_8 h=>?_)
 refine Oc (aG bw rfl rfl rfl rfl (Nat.le_of_ble_eq_true rfl) rfl) (af.ai ⟨[(4,_)],[(103,.box 47 (bC x_8))]⟩ rfl (ab.ret ?_))
 obtain rfl:=Option.some.inj h
 refine Fin.ag ⟨[(4,_)],[(103,_)]⟩ rfl (Fin.av [.agg (bC x_8)] (.inl rfl) rfl (.cons (.agg bw rfl rfl rfl rfl) .nil) ⟨rfl,rfl⟩)
def bV (F:Nat) (s0:c6) (id0:Int) (b0:bQ):Option (c6 × Int) :=
 (b6 F b0).bind fun x_1=>if (!x_1) = true then (eC (⟨(⟨.leaf,0,0,0⟩:ir),(⟨.leaf,0,0,0⟩:ir)⟩:c6) fun x_2=>some (x_2,1)) else (Option.bind (cc F s0 id0) (dQ fun x_3 x_4=>if x_4 = true then (eC (⟨(⟨.leaf,0,0,0⟩:ir),(⟨.leaf,0,0,0⟩:ir)⟩:c6) fun x_5=>some (x_5,6)) else ((bz F s0.ids (⟨id0,b0⟩:entry)).bind fun x_6=>(bz F s0.boxes (⟨id0,b0⟩:entry)).bind fun x_7=>some ((⟨x_6,x_7⟩:c6),0))))
theorem cP {F:Nat} {s0:c6} {id0:Int} {b0:bQ} {r:c6 × Int} (h:bV F s0 id0 b0 = some r):ao Tryz.prog [] 29 [] [.agg (aH s0),.one (.i id0),.agg (ak b0)] (Is [] (.ew [.agg (aH r.1),.one (.i r.2)])):=by
 unfold bV at h
 refine ao.intro 35 Tryz.func29 Tryz.ntmps29 rfl (by simp) fun E=>?_
 show ab _ E ⟨35,[],[],[]⟩ _ ⟨[(0,.b (.agg (aH s0))),(1,I id0),(2,.b (.agg (ak b0)))],[]⟩ _
 refine ab.seq (ab.aa ?_)
 refine Oc (bW (k:=101) rfl rfl) (Oc (bW (k:=102) rfl rfl) (Oc (a8 (k:=103) fh rfl) (Oc oa ?_)))
 refine af.ai ⟨[(1,I id0),(3,Pt 101 0),(5,Pt 102 0),(6,Pt 103 0)],[(101,.box 49 (aH s0)),(102,.box 25 (ak b0)),(103,.box 49 [.tr ae (.leaf),.cR 0,.cR 0,.cR 0,.tr ae (.leaf),.cR 0,.cR 0,.cR 0])]⟩ rfl (ab.seq (ab.seq (ab.aa ?_)))
 refine Oc (lp aE) ?_
 obtain ⟨x_1,e1,h⟩:=aO h
 refine Oc (aj (cK e1) l3 rfl rfl) (Oc (eD rfl) ?_)
 refine af.ai ⟨[(1,_),(3,_),(5,_),(6,_),(13,B (!x_1))],[(101,_),(102,_),(103,_)]⟩ rfl (ab.ite h rfl (fun _ h=>?_) (fun _ h=>?_))
 ·refine ab.seq (ab.aa ?_)
  refine af.lv aH h rfl (cu eP rfl rfl) (fun x_2 h=>?_)
  refine Oc (aG aT rfl rfl rfl rfl (Nat.le_of_ble_eq_true rfl) rfl) (Oc oa ?_)
  refine af.ai ⟨[(6,_),(7,I 1)],[(103,.box 49 (aH x_2))]⟩ rfl (ab.ret (Fin.ar ?_))
  obtain rfl:=Option.some.inj h
  refine Fin.ag ⟨[(6,_),(7,_)],[(103,_)]⟩ rfl (Fin.av [.agg (aH x_2),.one (.i 1)] (.inl rfl) rfl (.cons (.agg aT rfl rfl rfl rfl) (.cons (.tmp rfl) .nil)) ⟨rfl,rfl⟩)
 ·refine ab.skip (Fin.ag ⟨[(1,_),(3,_),(5,_),(6,_)],[(101,_),(102,_),(103,_)]⟩ rfl (Fin.then (ab.seq (ab.seq (ab.aa ?_)))))
  refine Oc (lp aT) (Oc om ?_)
  obtain ⟨⟨x_3,x_4⟩,e2,h⟩:=aO h
  refine Oc (aj (eJ e2) qU rfl rfl) (Oc om (Oc (aB rfl rfl) ?_))
  refine af.ag ⟨[(1,_),(3,_),(5,_),(6,_),(15,.ew [.agg (an x_3),.one (.bool x_4)]),(19,.b (.agg (an x_3)))],[(101,_),(102,_),(103,_)]⟩ rfl (Oc (aB rfl rfl) (Oc (a8 (k:=104) gE rfl) (Oc (aG bq rfl rfl rfl rfl (Nat.le_of_ble_eq_true rfl) rfl) (Oc oa ?_))))
  refine af.ai ⟨[(1,_),(3,_),(5,_),(6,_),(9,B x_4)],[(101,_),(102,_),(103,_)]⟩ rfl (ab.seq (ab.aa ?_))
  refine Oc om (af.ai ⟨[(1,_),(3,_),(5,_),(6,_),(21,B x_4)],[(101,_),(102,_),(103,_)]⟩ rfl (ab.ite h rfl (fun _ h=>?_) (fun _ h=>?_)))
  ·refine ab.seq (ab.aa ?_)
   refine af.lv aH h rfl (cu eP rfl rfl) (fun x_5 h=>?_)
   refine Oc (aG aT rfl rfl rfl rfl (Nat.le_of_ble_eq_true rfl) rfl) (Oc oa ?_)
   refine af.ai ⟨[(6,_),(7,I 6)],[(103,.box 49 (aH x_5))]⟩ rfl (ab.ret (Fin.ar ?_))
   obtain rfl:=Option.some.inj h
   refine Fin.ag ⟨[(6,_),(7,_)],[(103,_)]⟩ rfl (Fin.av [.agg (aH x_5),.one (.i 6)] (.inl rfl) rfl (.cons (.agg aT rfl rfl rfl rfl) (.cons (.tmp rfl) .nil)) ⟨rfl,rfl⟩)
  ·refine ab.skip (Fin.ag ⟨[(1,_),(3,_),(5,_),(6,_)],[(101,_),(102,_),(103,_)]⟩ rfl (Fin.then (ab.seq (ab.aa ?_))))
   refine Oc om (Oc (lp aE) (Oc (cu ov rfl rfl) (Oc (a8 (k:=105) gE rfl) (Oc (aG bq rfl rfl rfl rfl (Nat.le_of_ble_eq_true rfl) rfl) ?_))))
   refine af.ai ⟨[(3,_),(6,_),(10,Pt 105 0)],[(101,_),(103,_),(105,.box 87 (.i id0 :: (ak b0)))]⟩ rfl (ab.seq ?_)
   obtain ⟨x_6,e3,h⟩:=aO h
   obtain ⟨x_7,e4,h⟩:=aO h
   refine ab.bZ mixed 9 [Pt 101 0,.b (.agg (bC s0.ids)),.b (.agg (.i id0 :: (ak b0))),.b (.agg (bC x_6)),Pt 101 4,.b (.agg (bC s0.boxes)),.b (.agg (.i id0 :: (ak b0))),.b (.agg (bC x_7)),.b (.agg (bC x_6 ++ (bC x_7)))] [6,7] [103] (s':=⟨[(6,_),(7,I 0)],[(103,.box 49 (bC x_6 ++ (bC x_7)))]⟩) rfl ⟨fun _=>.p (ay ka rfl rfl),fun _=>.p (lp bw),fun _=>.p (lp bq),fun _=>.p (aj (fV e3) tq rfl rfl),fun _=>.p (ay l7 rfl rfl),fun _=>.p (lp bw),fun _=>.p (lp bq),fun _=>.p (aj (fV e4) tq rfl rfl),fun _=>.p (cu eP rfl rfl),trivial⟩ ⟨_,by exact .p (aG aT rfl rfl rfl rfl (Nat.le_of_ble_eq_true rfl) rfl),⟨_,by exact .p oa,rfl⟩⟩ rfl (ab.ret ?_)
   obtain rfl:=Option.some.inj h
   refine Fin.ag ⟨[(6,_),(7,_)],[(103,_)]⟩ rfl (Fin.av [.agg (bC x_6 ++ (bC x_7)),.one (.i 0)] (.inl rfl) rfl (.cons (.agg aT rfl rfl rfl rfl) (.cons (.tmp rfl) .nil)) ⟨rfl,rfl⟩)
def cp (F:Nat) (s0:c6) (b0:bQ):Option (List Int) :=
 Option.bind (sg (fun t=>dD F t b0) s0.boxes.root) (fun xs_1=>Option.bind (each (fun outf0_3=>fun x_2=>(b8 F x_2.b b0).bind fun x_4=>if x_4 = true then ((kM outf0_3 [x_2.id]).bind fun x_5=>some (.inl x_5)) else (some (.inl outf0_3))) (xs_1) []) (b5 (fun outf0_3=>(fI F outf0_3).bind fun x_6=>some x_6) (fun (_:Unit)=>none)))
theorem dd {F:Nat} {s0:c6} {b0:bQ} {r:(List Int)} (h:cp F s0 b0 = some r):ao Tryz.prog [] 55 [] [.agg (aH s0),.agg (ak b0)] (Is [(51,.row 3 1 (r.map eI))] (.b (.row 51))):=by
 unfold cp at h
 refine ao.tk 25 Tryz.func55 Tryz.ntmps55 rfl (by simp) fun E=>?_
 show ab _ E ⟨25,[],[],[]⟩ _ ⟨[(0,.b (.agg (aH s0))),(1,.b (.agg (ak b0)))],[]⟩ _
 refine ab.seq (ab.aa ?_)
 refine Oc (lH rfl) (Oc (lH rfl) (Oc oa ?_))
 refine af.ai ⟨[(2,.b (.aJ (aH s0))),(3,.b (.aJ (ak b0)))],[]⟩ rfl (ab.seq (ab.aa ?_))
 refine Oc (a8 (k:=101) tO rfl) (af.ai ⟨[(2,_),(3,_),(5,Pt 101 0)],[(101,.box 51 [.nil])]⟩ rfl (ab.seq (ab.seq (ab.aa ?_))))
 refine Oc (aA l7 rfl rfl) (Oc (aA fw rfl rfl) (Oc (aq bp rfl rfl) (Oc (gp rfl) (Oc (aj ql tt rfl rfl) ?_))))
 refine af.ai ⟨[(3,_),(5,_),(11,.b (.one (.eY 77 [CP.rp [.tr ae s0.boxes.root],CP.rp [.eY 74 [CP.rp (ak b0)]]])))],[(101,_)]⟩ rfl ?_
 obtain ⟨xs_1,e1,h⟩:=aO h
 refine ab.ag ⟨[(3,.b (.aJ (ak b0))),(5,Pt 101 0),(11,.b (.one (.eY 77 [CP.rp [.tr ae s0.boxes.root],CP.rp [.eY 74 [CP.rp (ak b0)]]])))],[(101,.box 51 [.nil])]⟩ rfl (ab.toX 101 rfl (ab.gV 101 0 104 1 3 rfl rfl (by decide) (by decide) rfl (ab.ag ⟨[(3,_),(5,_),(11,_)],[(101,.bS 51 [.row 104]),(104,.row 3 1 ([].map eI))]⟩ rfl (ab.tf _ sS _ _ (fun (outf0_3:List Int)=>[(101,.bS 51 [.row 104]),(104,.row 3 1 (outf0_3.map eI))]) (fun (_:Unit)=>([]:List (Nat × OC))) (fun (outf0_3:List Int)=>fun x_2=>⟨[(3,.b (.aJ (ak b0))),(5,Pt 101 0),(6,Pt 106 0)],[(101,.bS 51 [.row 104]),(104,.row 3 1 (outf0_3.map eI)),(106,.box 87 (an x_2))]⟩) h (qm qy e1) tn rfl rfl rfl (fun _=>rfl) (fun _=>rfl) (fun _=>rfl) (fun _ _=>rfl) (fun _ _=>rfl) rfl (fun _=>rfl) ?_ ?_ ?_ ?_))))
 ·rintro E l outf0_3 x_2 z _ h2
  refine aV.keep [3,5,11,12] [101,104] (s':=⟨[(3,.b (.aJ (ak b0))),(5,Pt 101 0),(11,.b (.one (.eY 77 [CP.rp [.tr ae s0.boxes.root],CP.rp [.eY 74 [CP.rp (ak b0)]]]))),(12,.b (.agg (an x_2)))],[(101,.bS 51 [.row 104]),(104,.row 3 1 (outf0_3.map eI))]⟩) rfl (aV.aa (.inr ⟨_,rfl⟩) (Oc (a8 (k:=106) gE rfl) (Oc (aG bq rfl rfl rfl rfl (Nat.le_of_ble_eq_true rfl) rfl) ?_)))
  refine af.nil ?_
  exact Fin.ag ⟨[(3,_),(5,_),(6,Pt 106 0)],[(101,_),(104,_),(106,.box 87 (an x_2))]⟩ rfl (fun a w hr=>hr)
 ·rintro E l outf0_3 x_2 z _ h2
  refine aV.block (aV.seq (aV.aa (.inr ⟨_,rfl⟩) (Oc (ay gv rfl rfl) (Oc (lp aE) (Oc (cn aE rfl rfl rfl) ?_)))))
  obtain ⟨x_4,e3,h2⟩:=aO h2
  refine Oc (aj (cW e3) lZ rfl rfl) (af.nil (Fin.ag ⟨[(3,.b (.aJ (ak b0))),(5,Pt 101 0),(6,Pt 106 0),(16,B x_4)],[(101,.bS 51 [.row 104]),(104,.row 3 1 (outf0_3.map eI)),(106,.box 87 (an x_2))]⟩ rfl (Fin.ga ?_ (fun ⟨_,_,hl⟩=>hl))))
  refine aV.ite h2 rfl (fun _ h2=>?_) (fun _ h2=>?_)
  ·refine aV.aa (.inr ⟨_,rfl⟩) (Oc (gK mX rfl rfl rfl) (Oc (ay dI rfl rfl) (Oc (aR aQ rfl rfl rfl) (Oc (cr (k:=107) (es:=[x_2.id].map eI) cf rfl rfl (cx fun _=>rfl) rfl (by decide) (by decide) rfl) ?_))))
   refine af.forget 101 0 rfl ?_
   obtain ⟨x_5,e4,h2⟩:=aO h2
   refine Oc (fT cf (pO e4) (pN e4) rfl rfl rfl rfl (lF e4) rfl) (Oc (mP mX rfl rfl rfl rfl (Nat.le_of_ble_eq_true rfl) rfl) ?_)
   refine af.nil (Fin.aw ?_)
   obtain rfl:=Option.some.inj h2
   exact Fin.ag ⟨[],[(101,.bS 51 [.row 104]),(104,.row 3 1 (x_5.map eI))]⟩ rfl (fun a w hr=>⟨_,rfl,hr⟩)
  ·refine aV.skip (Fin.aw ?_)
   obtain rfl:=Option.some.inj h2
   exact Fin.ag ⟨[],[(101,_),(104,_)]⟩ rfl (fun a w hr=>⟨_,rfl,hr⟩)
 ·rintro E D outf0_3 h5
  refine ab.seq (ab.aa ?_)
  refine Oc (gK mX rfl rfl rfl) (af.sf 104 rfl ?_)
  obtain ⟨x_6,e6,h5⟩:=aO h5
  refine Oc (cY (own_a:=[(104,_)]) ((my e6).sw 1 104) goes75 rfl ⟨rfl,trivial⟩ rfl rfl) (af.se 104 rfl (af.ai ⟨[(5,Pt 101 0)],[(101,.bS 51 [.row 104]),(104,.row 3 1 (x_6.map eI))]⟩ rfl (ab.seq (ab.aa ?_))))
  refine Oc (gK mX rfl rfl rfl) (Oc oa ?_)
  refine af.ai ⟨[(4,.b (.row 104))],[(104,_)]⟩ rfl (ab.ret ?_)
  obtain rfl:=Option.some.inj h5
  refine Fin.ag ⟨[(4,.b (.row 104))],[(104,.row 3 1 (x_6.map eI))]⟩ rfl (Fin.rename 104 51 rfl (by decide) rfl (Fin.ag ⟨[(4,.b (.row 51))],[(51,.row 3 1 (x_6.map eI))]⟩ rfl ?_))
  exact Fin.result [.row 51] (.inl rfl) rfl (.cons (.tmp rfl) .nil) ⟨rfl,rfl⟩
 ·rintro E D ⟨⟩ h5
  cases h5
def dt (F:Nat) (s0:c6) (b0:bQ):Option ((List Int) × Int) :=
 (b6 F b0).bind fun x_1=>if (!x_1) = true then (some ([],1)) else ((cp F s0 b0).bind fun x_2=>some (x_2,0))
theorem gh (kr0:Nat) {F:Nat} {s0:c6} {b0:bQ} {r:(List Int) × Int} (h:dt F s0 b0 = some r):ao Tryz.prog [] 31 [] [.agg (aH s0),.agg (ak b0)] (Is [(kr0,.row 3 1 (r.1.map eI))] (.ew [.row kr0,.one (.i r.2)])):=by
 unfold dt at h
 refine ao.intro 12 Tryz.func31 Tryz.ntmps31 rfl (by simp) fun E=>?_
 show ab _ E ⟨12,[],[],[]⟩ _ ⟨[(0,.b (.agg (aH s0))),(1,.b (.agg (ak b0)))],[]⟩ _
 refine ab.seq (ab.aa ?_)
 refine Oc (bW (k:=101) rfl rfl) (Oc (bW (k:=102) rfl rfl) (Oc oa (Oc oa ?_)))
 refine af.ai ⟨[(2,Pt 101 0),(3,Pt 102 0)],[(101,.box 49 (aH s0)),(102,.box 25 (ak b0))]⟩ rfl (ab.seq (ab.seq (ab.aa ?_)))
 refine Oc (lp aE) ?_
 obtain ⟨x_1,e1,h⟩:=aO h
 refine Oc (aj (cK e1) l3 rfl rfl) (Oc (eD rfl) ?_)
 refine af.ai ⟨[(2,_),(3,_),(8,B (!x_1))],[(101,_),(102,_)]⟩ rfl (ab.ite h rfl (fun _ h=>?_) (fun _ h=>?_))
 ·refine ab.seq (ab.aa ?_)
  refine Oc oa (Oc oa ?_)
  refine af.ai ⟨[(4,.b (.one (.nil))),(5,I 1)],[]⟩ rfl (ab.ret (Fin.ar ?_))
  obtain rfl:=Option.some.inj h
  refine Fin.ag ⟨[(4,_),(5,_)],[]⟩ rfl (Fin.fv 4 103 1 3 rfl (by decide) rfl (Fin.lz 103 kr0 [.row 103,.one (.i 1)] (.inl rfl) rfl (.cons (.tmp rfl) (.cons (.tmp rfl) .nil)) rfl rfl rfl rfl ⟨rfl,rfl⟩))
 ·refine ab.skip (Fin.ag ⟨[(2,_),(3,_)],[(101,_),(102,_)]⟩ rfl (Fin.then (ab.seq (ab.aa ?_))))
  refine Oc (lp aT) (Oc (lp aE) ?_)
  obtain ⟨x_2,e2,h⟩:=aO h
  refine Oc (cY (own_a:=[]) ((dd e2).sw 51 104) oX rfl trivial rfl rfl) (Oc oa (Oc oa ?_))
  refine af.ai ⟨[(4,.b (.row 104)),(5,I 0)],[(104,.row 3 1 (x_2.map eI))]⟩ rfl (ab.ret ?_)
  obtain rfl:=Option.some.inj h
  refine Fin.ag ⟨[(4,_),(5,_)],[(104,_)]⟩ rfl (Fin.lz 104 kr0 [.row 104,.one (.i 0)] (.inl rfl) rfl (.cons (.tmp rfl) (.cons (.tmp rfl) .nil)) rfl rfl rfl rfl ⟨rfl,rfl⟩)
def bO (F:Nat):Nat → ir → (cB bc) → entry → Option (cB bc)
 | 0,_,_,_=>none
 | n + 1,t0,n0,x0=>Option.bind (iI n0) (fun nd_1=>(ff F t0.compare x0 nd_1.1.x).bind fun x_2=>if (decide (x_2 < 0)) = true then (Option.bind (iI n0) (fun nd_3=>(bO F n t0 nd_3.2.1 x0).bind fun x_4=>Option.bind (iI n0) (fun nd_5=>(aY F t0 n0 x_4 nd_5.2.2).bind fun x_6=>some x_6))) else (if (decide (0 < x_2)) = true then (Option.bind (iI n0) (fun nd_7=>Option.bind (iI n0) (fun nd_8=>(bO F n t0 nd_8.2.2 x0).bind fun x_9=>(aY F t0 n0 nd_7.2.1 x_9).bind fun x_10=>some x_10))) else (Option.bind (iI n0) (fun nd_11=>Option.bind (iI n0) (fun nd_12=>(b9 F t0 nd_11.2.1 nd_12.2.2).bind fun x_13=>some x_13)))))
def fp (F:Nat) (t0:ir) (n0:cB bc) (x0:entry):Option (cB bc):=bO F F t0 n0 x0
theorem jr {F:Nat}:∀ (n:Nat) {t0:ir} {n0:cB bc} {x0:entry} {r:(cB bc)} (h:bO F n t0 n0 x0 = some r),ao Tryz.prog [] 83 [] [.agg (bC t0),.one (.tr ae n0),.agg (an x0)] (Is [] (.b (.one (.tr ae r)))):=by
 intro n
 induction n with
 | zero=>intro t0 n0 x0 r h; simp [bO] at h
 | succ n ih=>
 intro t0 n0 x0 r h
 unfold bO at h
 refine ao.intro 60 Tryz.func83 Tryz.ntmps83 rfl (by simp) fun E=>?_
 show ab _ E ⟨60,[],[],[]⟩ _ ⟨[(0,.b (.agg (bC t0))),(1,.b (.one (.tr ae n0))),(2,.b (.agg (an x0)))],[]⟩ _
 refine ab.seq (ab.aa ?_)
 refine Oc (bW (k:=101) rfl rfl) (Oc (bW (k:=102) rfl rfl) (Oc oa ?_))
 refine af.ai ⟨[(1,.b (.one (.tr ae n0))),(3,Pt 101 0),(5,Pt 102 0)],[(101,.box 47 (bC t0)),(102,.box 87 (an x0))]⟩ rfl (ab.seq (ab.seq ?_))
 refine ab.ag ⟨[(1,_),(3,_),(5,_)],[(101,_),(102,_)]⟩ rfl ?_
 obtain ⟨nd_1,e1,h⟩:=aO h
 obtain ⟨x_2,e2,h⟩:=aO h
 refine ab.bZ mixed 9 [Pt 101 1,.b (.one (.cR t0.compare)),.b (.agg (an x0)),.b (.one (.tr ae n0)),.b (.aJ (an nd_1.1.x ++ (.int .u64 nd_1.1.priority :: (ak nd_1.1.cover ++ ([.tr ae nd_1.2.1,.tr ae nd_1.2.2]))))),.b (.aJ (an nd_1.1.x ++ (.int .u64 nd_1.1.priority :: (ak nd_1.1.cover ++ ([.tr ae nd_1.2.1,.tr ae nd_1.2.2]))))),.b (.agg (an nd_1.1.x)),I x_2,I x_2] [1,3,5,7] [101,102] (s':=⟨[(1,_),(3,_),(5,_),(7,I x_2)],[(101,_),(102,_)]⟩) rfl ⟨fun _=>.p (ay ou rfl rfl),fun _=>.p (aR rQ rfl rfl rfl),fun _=>.p (lp bq),fun _=>.p om,fun _=>.p (aD e1 rfl rfl),fun _=>by exact .p (aA dU rfl rfl),fun _=>.p (cn bq rfl rfl rfl),fun _=>.p (kg (nT e2) (nU e2) (qj e2) rfl rfl rfl),fun _=>.p oa,trivial⟩ rfl rfl (ab.block (ab.seq (ab.aa ?_)))
 refine Oc om (Oc (bu rfl rfl) (Oc oa ?_))
 refine af.ai ⟨[(1,_),(3,_),(5,_),(7,_),(16,B (decide (x_2 < 0)))],[(101,_),(102,_)]⟩ rfl (ab.ite h rfl (fun _ h=>?_) (fun _ h=>?_))
 ·refine ab.seq (ab.ag ⟨[(1,_),(3,_),(5,_)],[(101,_),(102,_)]⟩ rfl ?_)
  obtain ⟨nd_3,e3,h⟩:=aO h
  obtain ⟨x_4,e4,h⟩:=aO h
  obtain ⟨nd_5,e5,h⟩:=aO h
  obtain ⟨x_6,e6,h⟩:=aO h
  refine ab.bZ mixed 15 [.b (.agg (bC t0)),.b (.one (.tr ae n0)),.b (.agg (bC t0)),.b (.one (.tr ae n0)),.b (.aJ (an nd_3.1.x ++ (.int .u64 nd_3.1.priority :: (ak nd_3.1.cover ++ ([.tr ae nd_3.2.1,.tr ae nd_3.2.2]))))),.b (.aJ [.tr ae nd_3.2.1,.tr ae nd_3.2.2]),.b (.one (.tr ae nd_3.2.1)),.b (.agg (an x0)),.b (.one (.tr ae x_4)),.b (.one (.tr ae n0)),.b (.aJ (an nd_5.1.x ++ (.int .u64 nd_5.1.priority :: (ak nd_5.1.cover ++ ([.tr ae nd_5.2.1,.tr ae nd_5.2.2]))))),.b (.aJ [.tr ae nd_5.2.2]),.b (.one (.tr ae nd_5.2.2)),.b (.one (.tr ae x_6)),.b (.one (.tr ae x_6))] [6] [] (s':=⟨[(6,.b (.one (.tr ae x_6)))],[]⟩) rfl ⟨fun _=>.p (lp bw),fun _=>.p om,fun _=>.p (lp bw),fun _=>.p om,fun _=>.p (aD e3 rfl rfl),fun _=>by exact .p (aA dB rfl rfl),fun _=>.p (aq bp rfl rfl),fun _=>.p (lp bq),fun _=>.p (aj (ih e4) qS rfl rfl),fun _=>.p om,fun _=>.p (aD e5 rfl rfl),fun _=>by exact .p (aA dA rfl rfl),fun _=>.p (aq bp rfl rfl),fun _=>.p (aj (bG e6) kS rfl rfl),fun _=>.p oa,trivial⟩ rfl rfl (ab.ret (Fin.aP (Fin.ar ?_)))
  obtain rfl:=Option.some.inj h
  refine Fin.ag ⟨[(6,_)],[]⟩ rfl (Fin.av [.one (.tr ae x_6)] (.inl rfl) rfl (.cons (.tmp rfl) .nil) ⟨rfl,rfl⟩)
 ·refine ab.seq (ab.aa ?_)
  refine Oc om (Oc (iJ rfl rfl) (Oc oa ?_))
  refine af.ai ⟨[(1,_),(3,_),(5,_),(33,B (decide (0 < x_2)))],[(101,_),(102,_)]⟩ rfl (ab.ite h rfl (fun _ h=>?_) (fun _ h=>?_))
  ·refine ab.seq (ab.ag ⟨[(1,_),(3,_),(5,_)],[(101,_),(102,_)]⟩ rfl ?_)
   obtain ⟨nd_7,e7,h⟩:=aO h
   obtain ⟨nd_8,e8,h⟩:=aO h
   obtain ⟨x_9,e9,h⟩:=aO h
   obtain ⟨x_10,e10,h⟩:=aO h
   refine ab.bZ mixed 15 [.b (.agg (bC t0)),.b (.one (.tr ae n0)),.b (.one (.tr ae n0)),.b (.aJ (an nd_7.1.x ++ (.int .u64 nd_7.1.priority :: (ak nd_7.1.cover ++ ([.tr ae nd_7.2.1,.tr ae nd_7.2.2]))))),.b (.aJ [.tr ae nd_7.2.1,.tr ae nd_7.2.2]),.b (.one (.tr ae nd_7.2.1)),.b (.agg (bC t0)),.b (.one (.tr ae n0)),.b (.aJ (an nd_8.1.x ++ (.int .u64 nd_8.1.priority :: (ak nd_8.1.cover ++ ([.tr ae nd_8.2.1,.tr ae nd_8.2.2]))))),.b (.aJ [.tr ae nd_8.2.2]),.b (.one (.tr ae nd_8.2.2)),.b (.agg (an x0)),.b (.one (.tr ae x_9)),.b (.one (.tr ae x_10)),.b (.one (.tr ae x_10))] [6] [] (s':=⟨[(6,.b (.one (.tr ae x_10)))],[]⟩) rfl ⟨fun _=>.p (lp bw),fun _=>.p om,fun _=>.p om,fun _=>.p (aD e7 rfl rfl),fun _=>by exact .p (aA dB rfl rfl),fun _=>.p (aq bp rfl rfl),fun _=>.p (lp bw),fun _=>.p om,fun _=>.p (aD e8 rfl rfl),fun _=>by exact .p (aA dA rfl rfl),fun _=>.p (aq bp rfl rfl),fun _=>.p (lp bq),fun _=>.p (aj (ih e9) qS rfl rfl),fun _=>.p (aj (bG e10) kS rfl rfl),fun _=>.p oa,trivial⟩ rfl rfl (ab.ret (Fin.aP (Fin.ar ?_)))
   obtain rfl:=Option.some.inj h
   refine Fin.ag ⟨[(6,_)],[]⟩ rfl (Fin.av [.one (.tr ae x_10)] (.inl rfl) rfl (.cons (.tmp rfl) .nil) ⟨rfl,rfl⟩)
  ·refine ab.skip (Fin.aw (Fin.ag ⟨[(1,_),(3,_)],[(101,_)]⟩ rfl (Fin.then (ab.seq ?_))))
   refine ab.ag ⟨[(1,_),(3,_)],[(101,_)]⟩ rfl ?_
   obtain ⟨nd_11,e11,h⟩:=aO h
   obtain ⟨nd_12,e12,h⟩:=aO h
   obtain ⟨x_13,e13,h⟩:=aO h
   refine ab.bZ mixed 11 [.b (.agg (bC t0)),.b (.one (.tr ae n0)),.b (.aJ (an nd_11.1.x ++ (.int .u64 nd_11.1.priority :: (ak nd_11.1.cover ++ ([.tr ae nd_11.2.1,.tr ae nd_11.2.2]))))),.b (.aJ [.tr ae nd_11.2.1,.tr ae nd_11.2.2]),.b (.one (.tr ae nd_11.2.1)),.b (.one (.tr ae n0)),.b (.aJ (an nd_12.1.x ++ (.int .u64 nd_12.1.priority :: (ak nd_12.1.cover ++ ([.tr ae nd_12.2.1,.tr ae nd_12.2.2]))))),.b (.aJ [.tr ae nd_12.2.2]),.b (.one (.tr ae nd_12.2.2)),.b (.one (.tr ae x_13)),.b (.one (.tr ae x_13))] [6] [] (s':=⟨[(6,.b (.one (.tr ae x_13)))],[]⟩) rfl ⟨fun _=>.p (lp bw),fun _=>.p om,fun _=>.p (aD e11 rfl rfl),fun _=>by exact .p (aA dB rfl rfl),fun _=>.p (aq bp rfl rfl),fun _=>.p om,fun _=>.p (aD e12 rfl rfl),fun _=>by exact .p (aA dA rfl rfl),fun _=>.p (aq bp rfl rfl),fun _=>.p (aj (dZ e13) ns rfl rfl),fun _=>.p oa,trivial⟩ rfl rfl (ab.ret ?_)
   obtain rfl:=Option.some.inj h
   refine Fin.ag ⟨[(6,_)],[]⟩ rfl (Fin.av [.one (.tr ae x_13)] (.inl rfl) rfl (.cons (.tmp rfl) .nil) ⟨rfl,rfl⟩)
theorem jV {F:Nat} {t0:ir} {n0:cB bc} {x0:entry} {r:(cB bc)} (h:fp F t0 n0 x0 = some r):ao Tryz.prog [] 83 [] [.agg (bC t0),.one (.tr ae n0),.agg (an x0)] (Is [] (.b (.one (.tr ae r)))):=jr F h
def bg (F:Nat) (t0:ir) (x0:entry):Option ir :=
 (fp F t0 t0.root x0).bind fun x_1=>eC (⟨x_1,t0.compare,t0.key,t0.box⟩:ir) fun x_2=>some x_2
theorem eX {F:Nat} {t0:ir} {x0:entry} {r:ir} (h:bg F t0 x0 = some r):ao Tryz.prog [] 60 [] [.agg (bC t0),.agg (an x0)] (Is [] (.b (.agg (bC r)))):=by
 unfold bg at h
 refine ao.intro 12 Tryz.func60 Tryz.ntmps60 rfl (by simp) fun E=>?_
 show ab _ E ⟨12,[],[],[]⟩ _ ⟨[(0,.b (.agg (bC t0))),(1,.b (.agg (an x0)))],[]⟩ _
 refine ab.seq (ab.aa ?_)
 refine Oc (bW (k:=101) rfl rfl) (Oc (bW (k:=102) rfl rfl) (Oc (a8 (k:=103) pQ rfl) ?_))
 refine af.ai ⟨[(2,Pt 101 0),(3,Pt 102 0),(4,Pt 103 0)],[(101,.box 47 (bC t0)),(102,.box 87 (an x0)),(103,.box 47 [.tr ae (.leaf),.cR 0,.cR 0,.cR 0])]⟩ rfl (ab.seq (ab.aa ?_))
 refine Oc (lp bw) (Oc (ay fw rfl rfl) (Oc (aR bp rfl rfl rfl) (Oc (lp bq) ?_)))
 obtain ⟨x_1,e1,h⟩:=aO h
 refine Oc (aj (jV e1) qS rfl rfl) (Oc (ay fw rfl rfl) (Oc (dV bp rfl rfl rfl (Nat.le_of_ble_eq_true rfl) rfl) ?_))
 refine af.ai ⟨[(2,_),(4,_)],[(101,.box 47 [.tr ae x_1,.cR t0.compare,.cR t0.key,.cR t0.box]),(103,_)]⟩ rfl (ab.seq (ab.aa ?_))
 refine af.lv bC h rfl (lp bw) (fun x_2 h=>?_)
 refine Oc (aG bw rfl rfl rfl rfl (Nat.le_of_ble_eq_true rfl) rfl) (af.ai ⟨[(4,_)],[(103,.box 47 (bC x_2))]⟩ rfl (ab.ret ?_))
 obtain rfl:=Option.some.inj h
 refine Fin.ag ⟨[(4,_)],[(103,_)]⟩ rfl (Fin.av [.agg (bC x_2)] (.inl rfl) rfl (.cons (.agg bw rfl rfl rfl rfl) .nil) ⟨rfl,rfl⟩)
def bX (F:Nat) (s0:c6) (id0:Int):Option (c6 × Int) :=
 Option.bind (cc F s0 id0) (dQ fun x_1 x_2=>if (!x_2) = true then (eC (⟨(⟨.leaf,0,0,0⟩:ir),(⟨.leaf,0,0,0⟩:ir)⟩:c6) fun x_3=>some (x_3,5)) else ((bg F s0.ids x_1).bind fun x_4=>(bg F s0.boxes x_1).bind fun x_5=>some ((⟨x_4,x_5⟩:c6),0)))
theorem fq {F:Nat} {s0:c6} {id0:Int} {r:c6 × Int} (h:bX F s0 id0 = some r):ao Tryz.prog [] 30 [] [.agg (aH s0),.one (.i id0)] (Is [] (.ew [.agg (aH r.1),.one (.i r.2)])):=by
 unfold bX at h
 refine ao.intro 26 Tryz.func30 Tryz.ntmps30 rfl (by simp) fun E=>?_
 show ab _ E ⟨26,[],[],[]⟩ _ ⟨[(0,.b (.agg (aH s0))),(1,I id0)],[]⟩ _
 refine ab.seq (ab.aa ?_)
 refine Oc (bW (k:=101) rfl rfl) (Oc (a8 (k:=102) fh rfl) (Oc oa ?_))
 refine af.ai ⟨[(1,I id0),(2,Pt 101 0),(4,Pt 102 0)],[(101,.box 49 (aH s0)),(102,.box 49 [.tr ae (.leaf),.cR 0,.cR 0,.cR 0,.tr ae (.leaf),.cR 0,.cR 0,.cR 0])]⟩ rfl (ab.seq (ab.aa ?_))
 refine Oc (lp aT) (Oc om ?_)
 obtain ⟨⟨x_1,x_2⟩,e1,h⟩:=aO h
 refine Oc (aj (eJ e1) qU rfl rfl) (Oc om (Oc (aB rfl rfl) ?_))
 refine af.ag ⟨[(2,_),(4,_),(8,.ew [.agg (an x_1),.one (.bool x_2)]),(12,.b (.agg (an x_1)))],[(101,_),(102,_)]⟩ rfl (Oc (aB rfl rfl) (Oc (a8 (k:=103) gE rfl) (Oc (aG bq rfl rfl rfl rfl (Nat.le_of_ble_eq_true rfl) rfl) (Oc oa ?_))))
 refine af.ai ⟨[(2,_),(4,_),(6,Pt 103 0),(7,B x_2)],[(101,_),(102,_),(103,.box 87 (an x_1))]⟩ rfl (ab.seq (ab.seq (ab.aa ?_)))
 refine Oc om (Oc (eD rfl) ?_)
 refine af.ai ⟨[(2,_),(4,_),(6,_),(15,B (!x_2))],[(101,_),(102,_),(103,_)]⟩ rfl (ab.ite h rfl (fun _ h=>?_) (fun _ h=>?_))
 ·refine ab.seq (ab.aa ?_)
  refine af.lv aH h rfl (cu eP rfl rfl) (fun x_3 h=>?_)
  refine Oc (aG aT rfl rfl rfl rfl (Nat.le_of_ble_eq_true rfl) rfl) (Oc oa ?_)
  refine af.ai ⟨[(4,_),(5,I 5)],[(102,.box 49 (aH x_3))]⟩ rfl (ab.ret (Fin.ar ?_))
  obtain rfl:=Option.some.inj h
  refine Fin.ag ⟨[(4,_),(5,_)],[(102,_)]⟩ rfl (Fin.av [.agg (aH x_3),.one (.i 5)] (.inl rfl) rfl (.cons (.agg aT rfl rfl rfl rfl) (.cons (.tmp rfl) .nil)) ⟨rfl,rfl⟩)
 ·refine ab.skip (Fin.ag ⟨[(2,_),(4,_),(6,_)],[(101,_),(102,_),(103,_)]⟩ rfl (Fin.then (ab.seq ?_)))
  refine ab.ag ⟨[(2,_),(4,_),(6,_)],[(101,_),(102,_),(103,_)]⟩ rfl ?_
  obtain ⟨x_4,e2,h⟩:=aO h
  obtain ⟨x_5,e3,h⟩:=aO h
  refine ab.bZ mixed 9 [Pt 101 0,.b (.agg (bC s0.ids)),.b (.agg (an x_1)),.b (.agg (bC x_4)),Pt 101 4,.b (.agg (bC s0.boxes)),.b (.agg (an x_1)),.b (.agg (bC x_5)),.b (.agg (bC x_4 ++ (bC x_5)))] [4,5] [102] (s':=⟨[(4,_),(5,I 0)],[(102,.box 49 (bC x_4 ++ (bC x_5)))]⟩) rfl ⟨fun _=>.p (ay ka rfl rfl),fun _=>.p (lp bw),fun _=>.p (lp bq),fun _=>.p (aj (eX e2) tp rfl rfl),fun _=>.p (ay l7 rfl rfl),fun _=>.p (lp bw),fun _=>.p (lp bq),fun _=>.p (aj (eX e3) tp rfl rfl),fun _=>.p (cu eP rfl rfl),trivial⟩ ⟨_,by exact .p (aG aT rfl rfl rfl rfl (Nat.le_of_ble_eq_true rfl) rfl),⟨_,by exact .p oa,rfl⟩⟩ rfl (ab.ret ?_)
  obtain rfl:=Option.some.inj h
  refine Fin.ag ⟨[(4,_),(5,_)],[(102,_)]⟩ rfl (Fin.av [.agg (bC x_4 ++ (bC x_5)),.one (.i 0)] (.inl rfl) rfl (.cons (.agg aT rfl rfl rfl rfl) (.cons (.tmp rfl) .nil)) ⟨rfl,rfl⟩)
def k5 (F:Nat) (x0:Int) (y0:Int):Option Bool :=
 (dX F x0).bind fun x_1=>(a6 x_1 (dX F y0)).bind fun x_2=>some ((x_1 && (!x_2)) || (decide (x0 < y0)))
theorem og {F:Nat} {x0:Int} {y0:Int} {r:Bool} (h:k5 F x0 y0 = some r):ao Tryz.prog [] 98 [] [.one (.i x0),.one (.i y0)] (Is [] (.b (.one (.bool r)))):=by
 unfold k5 at h
 refine ao.intro 17 Tryz.func98 Tryz.ntmps98 rfl (by simp) fun E=>?_
 show ab _ E ⟨17,[],[],[]⟩ _ ⟨[(0,I x0),(1,I y0)],[]⟩ _
 refine ab.seq (ab.aa ?_)
 refine Oc oa (af.ai ⟨[(0,I x0),(1,I y0)],[]⟩ rfl (ab.seq (ab.aa ?_)))
 refine Oc om ?_
 obtain ⟨x_1,e1,h⟩:=aO h
 refine Oc (aj (fo e1) oW rfl rfl) (Oc om ?_)
 refine dR x_1 [] (fun g2=>trivial) (fun g2=>om) (af.ag ⟨[(0,_),(1,_),(7,B x_1),(8,.opt x_1 (.one (.i y0)))],[]⟩ rfl ?_)
 obtain ⟨x_2,e4,h⟩:=aO h
 refine dR x_1 [8] (fun g3=>⟨g3,trivial⟩) (fun g3=>aj (fo (gc e4 g3)) oW rfl rfl) (dR x_1 [9] (fun g5=>⟨g5,trivial⟩) (fun g5=>eD rfl) (Oc (aF (fun e=>e) rfl rfl rfl rfl) (Oc om ?_)))
 refine CgF (!(x_1 && (!x_2))) [] (fun g6=>trivial) (fun g6=>om) (CgF (!(x_1 && (!x_2))) [] (fun g7=>by exact trivial) (fun g7=>om) (CgF (!(x_1 && (!x_2))) [13,14] (fun g8=>by exact ⟨g8,g8,trivial⟩) (fun g8=>bu rfl rfl) (Oc (c7 (fun e=>by first | (rw [e]; rfl) | (simp only at e; rw [e]; rfl)) rfl rfl rfl rfl) (Oc oa ?_))))
 refine af.ai ⟨[(4,B ((x_1 && (!x_2)) || (decide (x0 < y0))))],[]⟩ rfl (ab.ret ?_)
 obtain rfl:=Option.some.inj h
 refine Fin.ag ⟨[(4,_)],[]⟩ rfl (Fin.av [.one (.bool ((x_1 && (!x_2)) || (decide (x0 < y0))))] (.inl rfl) rfl (.cons (.tmp rfl) .nil) ⟨rfl,rfl⟩)
def fm (F:Nat) (x0:Int):Option Bool :=
 some (decide (x0 ≠ x0))
theorem hS {F:Nat} {x0:Int} {r:Bool} (h:fm F x0 = some r):ao Tryz.prog [] 99 [] [.one (.i x0)] (Is [] (.b (.one (.bool r)))):=by
 unfold fm at h
 refine ao.intro 6 Tryz.func99 Tryz.ntmps99 rfl (by simp) fun E=>?_
 show ab _ E ⟨6,[],[],[]⟩ _ ⟨[(0,I x0)],[]⟩ _
 refine ab.seq (ab.aa ?_)
 refine Oc oa (af.ai ⟨[(0,I x0)],[]⟩ rfl (ab.seq (ab.aa ?_)))
 refine Oc om (Oc om (Oc (jC rfl rfl) (Oc oa ?_)))
 refine af.ai ⟨[(2,B (decide (x0 ≠ x0)))],[]⟩ rfl (ab.ret ?_)
 obtain rfl:=Option.some.inj h
 refine Fin.ag ⟨[(2,_)],[]⟩ rfl (Fin.av [.one (.bool (decide (x0 ≠ x0)))] (.inl rfl) rfl (.cons (.tmp rfl) .nil) ⟨rfl,rfl⟩)
def dM (F:Nat) (x0:List Int) (target0:Int):Option (Int × Bool) :=
 Option.bind (iter F (dQ fun i_2 j_3=>if (decide (i_2 < j_3)) = true then (eC (IntKind.u64.wrap (IntKind.i64.wrap (i_2 + j_3))) fun x_5=>(aX x0 (IntKind.i64.wrap (x_5 / 2))).bind fun x_6=>(k5 F x_6 target0).bind fun x_7=>if x_7 = true then (eC (IntKind.i64.wrap ((IntKind.i64.wrap (x_5 / 2)) + 1)) fun x_8=>some (.inl (x_8,j_3))) else (some (.inl (i_2,IntKind.i64.wrap (x_5 / 2))))) else (some (.inr i_2))) (0,(x0.length:Int))) (fun i_1=>(a6 (decide (i_1 < (x0.length:Int))) (aX x0 i_1)).bind fun x_9=>(a6 ((decide (i_1 < (x0.length:Int))) && !(decide (x_9 = target0))) (aX x0 i_1)).bind fun x_10=>(a6 ((decide (i_1 < (x0.length:Int))) && !(decide (x_9 = target0))) (fm F x_10)).bind fun x_11=>(a6 (((decide (i_1 < (x0.length:Int))) && !(decide (x_9 = target0))) && x_11) (fm F target0)).bind fun x_12=>eC ((decide (i_1 < (x0.length:Int))) && ((decide (x_9 = target0)) || (x_11 && x_12))) fun x_13=>some (i_1,x_13))
theorem iq {F:Nat} {x0:List Int} {target0:Int} {r:Int × Bool} (h:dM F x0 target0 = some r):ao Tryz.prog [] 76 [] [.one (.sl 1 (x0.map eI)),.one (.i target0)] (Is [] (.ew [.one (.i r.1),.one (.bool r.2)])):=by
 unfold dM at h
 refine ao.intro 54 Tryz.func76 Tryz.ntmps76 rfl (by simp) fun E=>?_
 show ab _ E ⟨54,[],[],[]⟩ _ ⟨[(0,.b (.one (.sl 1 (x0.map eI)))),(1,I target0)],[]⟩ _
 refine ab.seq (ab.aa ?_)
 refine Oc oa (Oc oa ?_)
 refine af.ai ⟨[(0,.b (.one (.sl 1 (x0.map eI)))),(1,I target0)],[]⟩ rfl (ab.seq (ab.aa ?_))
 refine Oc om (Oc (bm fa rfl (List.length_map _)) (Oc oa ?_))
 refine af.ai ⟨[(0,_),(1,_),(6,I (x0.length:Int))],[]⟩ rfl (ab.seq (ab.aa ?_))
 refine Oc om (Oc oa (Oc oa ?_))
 refine af.ai ⟨[(0,_),(1,_),(6,_),(7,I 0),(8,I (x0.length:Int))],[]⟩ rfl ?_
 obtain ⟨v1,h2,h⟩:=aO h
 refine ab.eb (v:=v1) (fun (i_1:Int)=>⟨[(0,.b (.one (.sl 1 (x0.map eI)))),(1,I target0),(6,I (x0.length:Int)),(7,I i_1)],[]⟩) (fun z=>z) ?_ ?_
 ·refine ab.block (ab.de h2 (dQ fun (i_2:Int) (j_3:Int)=>⟨[(0,.b (.one (.sl 1 (x0.map eI)))),(1,I target0),(6,I (x0.length:Int)),(7,I i_2),(8,I j_3)],[]⟩) [0,1,6,7,8] [] rfl ?_)
  rintro ⟨i_2,j_3⟩ o3 h4 hy5
  refine ab.seq (ab.seq (ab.aa ?_))
  refine Oc om (Oc om (Oc (bu rfl rfl) ?_))
  refine af.ai ⟨[(0,_),(1,_),(6,_),(7,_),(8,_),(15,B (decide (i_2 < j_3)))],[]⟩ rfl (ab.ite h4 rfl (fun _ h4=>?_) (fun _ h4=>?_))
  ·refine ab.skip (Fin.ag ⟨[(0,_),(1,_),(6,_),(7,_),(8,_)],[]⟩ rfl (Fin.then (ab.block (ab.seq (ab.aa ?_)))))
   refine Oc om (Oc om (Oc (bD rfl rfl) ?_))
   refine af.pJ .u64 h4 rfl (ef pF o1 rfl) (fun x_5 h4=>?_)
   refine Oc (iN (m:=1) (by decide) rfl rfl rfl) (Oc (ef o1 pF rfl) (Oc oa ?_))
   refine af.ai ⟨[(0,_),(1,_),(6,_),(7,_),(8,_),(9,I (IntKind.i64.wrap (x_5 / 2)))],[]⟩ rfl (ab.seq (ab.aa ?_))
   refine Oc om (Oc om ?_)
   obtain ⟨x_6,e6,h4⟩:=aO h4
   refine Oc (bb cf (a7 e6) (b7 (e:=eI) e6) rfl rfl) (Oc (aq aQ rfl rfl) (Oc om ?_))
   obtain ⟨x_7,e7,h4⟩:=aO h4
   refine Oc (aj (og e7) goes98 rfl rfl) (af.ai ⟨[(0,_),(1,_),(6,_),(7,_),(8,_),(9,_),(27,B x_7)],[]⟩ rfl (ab.ite h4 rfl (fun _ h4=>?_) (fun _ h4=>?_)))
   ·refine ab.aa (Oc om (af.pJ .i64 h4 rfl (bD rfl rfl) (fun x_8 h4=>?_)))
    refine Oc oa (af.nil (Fin.aw ?_))
    exact Fin.ct [0,1,6,7,8] [] (x_8,j_3) (Option.some.inj h4) rfl
   ·refine ab.aa (Oc om (Oc oa ?_))
    refine af.nil (Fin.aw ?_)
    exact Fin.ct [0,1,6,7,8] [] (i_2,IntKind.i64.wrap (x_5 / 2)) (Option.some.inj h4) rfl
  ·refine ab.exit (Fin.aC ?_)
   obtain rfl:=hy5 _ (Option.some.inj h4).symm
   refine Fin.aC (Fin.aZ ?_)
   exact Fin.join [0,1,6,7] [] i_2 rfl rfl
 ·rintro i_1 hv
  subst v1
  refine ab.seq (ab.aa ?_)
  refine Oc om (Oc om (Oc om (Oc (bu rfl rfl) (Oc om ?_))))
  refine dR (decide (i_1 < (x0.length:Int))) [] (fun g8=>trivial) (fun g8=>om) (dR (decide (i_1 < (x0.length:Int))) [] (fun g9=>by exact trivial) (fun g9=>om) (af.ag ⟨[(0,_),(1,_),(7,_),(31,I i_1),(35,B (decide (i_1 < (x0.length:Int)))),(36,.opt (decide (i_1 < (x0.length:Int))) (.one (.sl 1 (x0.map eI)))),(37,.opt (decide (i_1 < (x0.length:Int))) (.one (.i i_1)))],[]⟩ rfl ?_))
  obtain ⟨x_9,e11,h⟩:=aO h
  refine dR (decide (i_1 < (x0.length:Int))) [36,37] (fun g10=>⟨g10,g10,trivial⟩) (fun g10=>bb cf (a7 (gc e11 g10)) (b7 (e:=eI) (gc e11 g10)) rfl rfl) (dR (decide (i_1 < (x0.length:Int))) [38] (fun g12=>⟨g12,trivial⟩) (fun g12=>aq aQ rfl rfl) (dR (decide (i_1 < (x0.length:Int))) [] (fun g13=>trivial) (fun g13=>om) (dR (decide (i_1 < (x0.length:Int))) [39,40] (fun g14=>by exact ⟨g14,g14,trivial⟩) (fun g14=>df rfl rfl) (dR (decide (i_1 < (x0.length:Int))) [41] (fun g15=>by exact ⟨g15,trivial⟩) (fun g15=>om) (af.jz ((decide (i_1 < (x0.length:Int))) && !(decide (x_9 = target0))) 99 [] (.under rfl) (nk _ _) rfl rfl (fun g16=>by exact trivial) (fun g16=>om) ?_)))))
  refine af.jz ((decide (i_1 < (x0.length:Int))) && !(decide (x_9 = target0))) 99 [] (.under rfl) (nk _ _) rfl rfl (fun g17=>trivial) (fun g17=>om) ?_
  obtain ⟨x_10,e19,h⟩:=aO h
  refine af.jz ((decide (i_1 < (x0.length:Int))) && !(decide (x_9 = target0))) 99 [43,44] (.under rfl) (nk _ _) rfl rfl (fun g18=>⟨g18,g18,trivial⟩) (fun g18=>bb cf (a7 (gc e19 g18)) (b7 (e:=eI) (gc e19 g18)) rfl rfl) (af.ag ⟨[(1,_),(31,_),(35,_),(42,.opt (decide (i_1 < (x0.length:Int))) (.one (.bool (decide (x_9 = target0))))),(45,.opt ((decide (i_1 < (x0.length:Int))) && !(decide (x_9 = target0))) (.aJ [.i x_10]))],[]⟩ rfl (af.jz ((decide (i_1 < (x0.length:Int))) && !(decide (x_9 = target0))) 99 [45] (.under rfl) (nk _ _) rfl rfl (fun g20=>⟨g20,trivial⟩) (fun g20=>aq aQ rfl rfl) ?_))
  obtain ⟨x_11,e22,h⟩:=aO h
  refine af.jz ((decide (i_1 < (x0.length:Int))) && !(decide (x_9 = target0))) 99 [46] (.under rfl) (nk _ _) rfl rfl (fun g21=>⟨g21,trivial⟩) (fun g21=>aj (hS (gc e22 g21)) tm rfl rfl) (af.jz ((decide (i_1 < (x0.length:Int))) && !(decide (x_9 = target0))) 99 [47] (.under rfl) (nk _ _) rfl rfl (fun g23=>⟨g23,trivial⟩) (fun g23=>om) (af.jz (((decide (i_1 < (x0.length:Int))) && !(decide (x_9 = target0))) && x_11) 99 [] (.under rfl) (and_t _ _) rfl rfl (fun g24=>trivial) (fun g24=>om) (af.ag ⟨[(31,_),(35,_),(42,_),(48,.opt ((decide (i_1 < (x0.length:Int))) && !(decide (x_9 = target0))) (.one (.bool x_11))),(49,.opt (((decide (i_1 < (x0.length:Int))) && !(decide (x_9 = target0))) && x_11) (.one (.i target0)))],[]⟩ rfl ?_)))
  obtain ⟨x_12,e26,h⟩:=aO h
  refine af.jz (((decide (i_1 < (x0.length:Int))) && !(decide (x_9 = target0))) && x_11) 99 [49] (.under rfl) (and_t _ _) rfl rfl (fun g25=>⟨g25,trivial⟩) (fun g25=>aj (hS (gc e26 g25)) tm rfl rfl) (af.jz ((decide (i_1 < (x0.length:Int))) && !(decide (x_9 = target0))) 99 [48] (.under rfl) (nk _ _) rfl rfl (fun g27=>⟨g27,trivial⟩) (fun g27=>aF (fun e=>by rw [g27,e]; rfl) rfl rfl rfl rfl) (dR (decide (i_1 < (x0.length:Int))) [42] (fun g28=>⟨g28,trivial⟩) (fun g28=>c7 (fun e=>by rw [g28,e]; rfl) rfl rfl rfl rfl) (af.nj h rfl (aF (fun e=>e) rfl rfl rfl rfl) (fun x_13 h=>?_))))
  refine Oc oa (Oc oa ?_)
  refine af.ai ⟨[(4,I i_1),(5,B x_13)],[]⟩ rfl (ab.ret ?_)
  obtain rfl:=Option.some.inj h
  refine Fin.ag ⟨[(4,_),(5,_)],[]⟩ rfl (Fin.av [.one (.i i_1),.one (.bool x_13)] (.inl rfl) rfl (.cons (.tmp rfl) (.cons (.tmp rfl) .nil)) ⟨rfl,rfl⟩)
def fK (F:Nat) (a0:List Int) (b0:List Int):Option (List Int) :=
 Option.bind (iter F (dQ fun out_2 x_3=>if (decide (x_3 < (a0.length:Int))) = true then (Option.bind ((aX a0 x_3).bind fun x_6=>Option.bind (dM F b0 x_6) (dQ fun x_7 x_8=>if (!x_8) = true then ((kM out_2 [x_6]).bind fun x_9=>some x_9) else (some out_2))) (fun out_5=>some (.inl (out_5,IntKind.i64.wrap (x_3 + 1))))) else (some (.inr out_2))) ([],0)) (fun out_1=>some out_1)
theorem iF (kr0:Nat) {F:Nat} {a0:List Int} {b0:List Int} {r:(List Int)} (h:fK F a0 b0 = some r):ao Tryz.prog [] 56 [] [.one (.sl 1 (a0.map eI)),.one (.sl 1 (b0.map eI))] (Is [(kr0,.row 3 1 (r.map eI))] (.b (.row kr0))):=by
 unfold fK at h
 refine ao.intro 30 Tryz.func56 Tryz.ntmps56 rfl (by simp) fun E=>?_
 show ab _ E ⟨30,[],[],[]⟩ _ ⟨[(0,.b (.one (.sl 1 (a0.map eI)))),(1,.b (.one (.sl 1 (b0.map eI))))],[]⟩ _
 refine ab.seq (ab.aa ?_)
 refine Oc oa (af.ai ⟨[(0,.b (.one (.sl 1 (a0.map eI)))),(1,.b (.one (.sl 1 (b0.map eI))))],[]⟩ rfl (ab.seq (ab.aa ?_)))
 refine Oc oa (af.ai ⟨[(0,_),(1,_),(5,.b (.one (.nil)))],[]⟩ rfl ?_)
 obtain ⟨v1,h2,h⟩:=aO h
 refine ab.eb (v:=v1) (fun (out_1:List Int)=>⟨[(5,.b (.row 102))],[(102,.row 3 1 (out_1.map eI))]⟩) (fun z=>z) ?_ ?_
 ·refine ab.seq (ab.aa ?_)
  refine Oc om (Oc (bm fa rfl (List.length_map _)) (Oc om ?_))
  refine af.ai ⟨[(1,_),(5,_),(10,.b (.one (.sl 1 (a0.map eI)))),(11,I (a0.length:Int)),(12,I 0)],[]⟩ rfl (ab.block (ab.fv 5 102 1 3 rfl (by decide) rfl (ab.de h2 (dQ fun (out_2:List Int) (x_3:Int)=>⟨[(1,.b (.one (.sl 1 (b0.map eI)))),(5,.b (.row 102)),(10,.b (.one (.sl 1 (a0.map eI)))),(11,I (a0.length:Int)),(12,I x_3)],[(102,.row 3 1 (out_2.map eI))]⟩) [1,5,10,11,12] [102] rfl ?_)))
  rintro ⟨out_2,x_3⟩ o3 h4 hy5
  refine ab.seq (ab.aa ?_)
  refine Oc (bu rfl rfl) (af.ai ⟨[(1,_),(5,_),(10,_),(11,_),(12,_),(13,B (decide (x_3 < (a0.length:Int))))],[(102,_)]⟩ rfl (ab.seq (ab.ite h4 rfl (fun _ h4=>?_) (fun _ h4=>?_))))
  ·refine ab.skip (Fin.ag ⟨[(1,_),(5,_),(10,_),(11,_),(12,_)],[(102,_)]⟩ rfl (Fin.then ?_))
   obtain ⟨v6,h7,h4⟩:=aO h4
   refine ab.eb (v:=v6) (fun (out_5:List Int)=>⟨[(1,.b (.one (.sl 1 (b0.map eI)))),(5,.b (.row 102)),(10,.b (.one (.sl 1 (a0.map eI)))),(11,I (a0.length:Int)),(12,I x_3)],[(102,.row 3 1 (out_5.map eI))]⟩) (fun z=>z) ?_ ?_
   ·refine ab.block (ab.seq (ab.aa ?_))
    obtain ⟨x_6,e8,h7⟩:=aO h7
    refine Oc (bb cf (a7 e8) (b7 (e:=eI) e8) rfl rfl) (Oc (aq aQ rfl rfl) (Oc oa ?_))
    refine af.ai ⟨[(1,_),(5,_),(7,I x_6),(10,_),(11,_),(12,_)],[(102,_)]⟩ rfl (ab.seq (ab.aa ?_))
    refine Oc om (Oc om ?_)
    obtain ⟨⟨x_7,x_8⟩,e9,h7⟩:=aO h7
    refine Oc (aj (iq e9) goes76 rfl rfl) (Oc om (Oc (aB rfl rfl) ?_))
    refine af.ag ⟨[(1,_),(5,_),(7,_),(10,_),(11,_),(12,_),(16,.ew [.one (.i x_7),.one (.bool x_8)]),(20,I x_7)],[(102,_)]⟩ rfl (Oc (aB rfl rfl) (Oc oa (Oc oa ?_)))
    refine af.ai ⟨[(1,_),(5,_),(7,_),(9,B x_8),(10,_),(11,_),(12,_)],[(102,_)]⟩ rfl (ab.seq (ab.aa ?_))
    refine Oc om (Oc (eD rfl) ?_)
    refine af.ai ⟨[(1,_),(5,_),(7,_),(10,_),(11,_),(12,_),(23,B (!x_8))],[(102,_)]⟩ rfl (ab.ite h7 rfl (fun _ h7=>?_) (fun _ h7=>?_))
    ·refine ab.aa (Oc om (Oc om (Oc (cr (k:=103) (es:=[x_6].map eI) cf rfl rfl (cx fun _=>rfl) rfl (by decide) (by decide) rfl) ?_)))
     obtain ⟨x_9,e10,h7⟩:=aO h7
     refine Oc (fT cf (pO e10) (pN e10) rfl rfl rfl rfl (lF e10) rfl) (Oc oa ?_)
     refine af.nil (Fin.aw ?_)
     exact Fin.join [1,5,10,11,12] [102] x_9 (Option.some.inj h7) rfl
    ·refine ab.skip (Fin.aw ?_)
     exact Fin.join [1,5,10,11,12] [102] out_2 (Option.some.inj h7) rfl
   ·rintro out_5 hv
    subst v6
    refine ab.aa (Oc (bD rfl rfl) (Oc om ?_))
    refine af.nil ?_
    exact Fin.ct [1,5,10,11,12] [102] (out_5,IntKind.i64.wrap (x_3 + 1)) (Option.some.inj h4) rfl
  ·refine ab.exit (Fin.aC ?_)
   obtain rfl:=hy5 _ (Option.some.inj h4).symm
   refine Fin.aC (Fin.aZ ?_)
   exact Fin.join [5] [102] out_2 rfl rfl
 ·rintro out_1 hv
  subst v1
  refine ab.seq (ab.aa ?_)
  refine Oc om (Oc oa ?_)
  refine af.ai ⟨[(4,.b (.row 102))],[(102,_)]⟩ rfl (ab.ret ?_)
  obtain rfl:=Option.some.inj h
  refine Fin.ag ⟨[(4,_)],[(102,_)]⟩ rfl (Fin.lz 102 kr0 [.row 102] (.inl rfl) rfl (.cons (.tmp rfl) .nil) rfl rfl rfl rfl ⟨rfl,rfl⟩)
def ek (F:Nat) (s0:c6) (id0:Int) (b0:bQ):Option (c6 × (List Int) × (List Int) × Int) :=
 (b6 F b0).bind fun x_1=>if (!x_1) = true then (eC (⟨(⟨.leaf,0,0,0⟩:ir),(⟨.leaf,0,0,0⟩:ir)⟩:c6) fun x_2=>some (x_2,[],[],1)) else (Option.bind (cc F s0 id0) (dQ fun x_3 x_4=>if (!x_4) = true then (eC (⟨(⟨.leaf,0,0,0⟩:ir),(⟨.leaf,0,0,0⟩:ir)⟩:c6) fun x_5=>some (x_5,[],[],5)) else (Option.bind (bX F s0 id0) (dQ fun x_6 x_7=>(cp F x_6 x_3.b).bind fun x_8=>(cp F x_6 b0).bind fun x_9=>Option.bind (bV F x_6 id0 b0) (dQ fun x_10 x_11=>(fK F x_9 x_8).bind fun x_12=>(fK F x_8 x_9).bind fun x_13=>some (x_10,x_12,x_13,x_11))))))
theorem kr {F:Nat} {s0:c6} {id0:Int} {b0:bQ} {r:c6 × (List Int) × (List Int) × Int} (h:ek F s0 id0 b0 = some r):ao Tryz.prog [] 25 [] [.agg (aH s0),.one (.i id0),.agg (ak b0)] (Is [] (.ew [.agg (aH r.1),.one (.sl 1 (r.2.1.map eI)),.one (.sl 1 (r.2.2.1.map eI)),.one (.i r.2.2.2)])):=by
 unfold ek at h
 refine ao.intro 57 Tryz.func25 Tryz.ntmps25 rfl (by simp) fun E=>?_
 show ab _ E ⟨57,[],[],[]⟩ _ ⟨[(0,.b (.agg (aH s0))),(1,I id0),(2,.b (.agg (ak b0)))],[]⟩ _
 refine ab.seq (ab.aa ?_)
 refine Oc (bW (k:=101) rfl rfl) (Oc (bW (k:=102) rfl rfl) (Oc (a8 (k:=103) fh rfl) (Oc oa (Oc oa (Oc oa ?_)))))
 refine af.ai ⟨[(1,I id0),(3,Pt 101 0),(5,Pt 102 0),(6,Pt 103 0)],[(101,.box 49 (aH s0)),(102,.box 25 (ak b0)),(103,.box 49 [.tr ae (.leaf),.cR 0,.cR 0,.cR 0,.tr ae (.leaf),.cR 0,.cR 0,.cR 0])]⟩ rfl (ab.seq (ab.seq (ab.aa ?_)))
 refine Oc (lp aE) ?_
 obtain ⟨x_1,e1,h⟩:=aO h
 refine Oc (aj (cK e1) l3 rfl rfl) (Oc (eD rfl) ?_)
 refine af.ai ⟨[(1,_),(3,_),(5,_),(6,_),(18,B (!x_1))],[(101,_),(102,_),(103,_)]⟩ rfl (ab.ite h rfl (fun _ h=>?_) (fun _ h=>?_))
 ·refine ab.seq (ab.aa ?_)
  refine af.lv aH h rfl (cu eP rfl rfl) (fun x_2 h=>?_)
  refine Oc (aG aT rfl rfl rfl rfl (Nat.le_of_ble_eq_true rfl) rfl) (Oc oa (Oc oa (Oc oa ?_)))
  refine af.ai ⟨[(6,_),(7,.b (.one (.nil))),(8,.b (.one (.nil))),(9,I 1)],[(103,.box 49 (aH x_2))]⟩ rfl (ab.ret (Fin.ar ?_))
  obtain rfl:=Option.some.inj h
  refine Fin.ag ⟨[(6,_),(7,_),(8,_),(9,_)],[(103,_)]⟩ rfl (Fin.iv 7 1 rfl (by decide) (Fin.iv 8 1 rfl (by decide) (Fin.av [.agg (aH x_2),.one (.sl 1 ([].map eI)),.one (.sl 1 ([].map eI)),.one (.i 1)] (.inl rfl) rfl (.cons (.agg aT rfl rfl rfl rfl) (.cons (.tmp rfl) (.cons (.tmp rfl) (.cons (.tmp rfl) .nil)))) ⟨rfl,rfl⟩)))
 ·refine ab.skip (Fin.ag ⟨[(1,_),(3,_),(5,_),(6,_)],[(101,_),(102,_),(103,_)]⟩ rfl (Fin.then (ab.seq (ab.aa ?_))))
  refine Oc (lp aT) (Oc om ?_)
  obtain ⟨⟨x_3,x_4⟩,e2,h⟩:=aO h
  refine Oc (aj (eJ e2) qU rfl rfl) (Oc om (Oc (aB rfl rfl) ?_))
  refine af.ag ⟨[(1,_),(3,_),(5,_),(6,_),(20,.ew [.agg (an x_3),.one (.bool x_4)]),(24,.b (.agg (an x_3)))],[(101,_),(102,_),(103,_)]⟩ rfl (Oc (aB rfl rfl) (Oc (a8 (k:=104) gE rfl) (Oc (aG bq rfl rfl rfl rfl (Nat.le_of_ble_eq_true rfl) rfl) (Oc oa ?_))))
  refine af.ai ⟨[(1,_),(3,_),(5,_),(6,_),(10,Pt 104 0),(11,B x_4)],[(101,_),(102,_),(103,_),(104,.box 87 (an x_3))]⟩ rfl (ab.seq (ab.seq (ab.aa ?_)))
  refine Oc om (Oc (eD rfl) ?_)
  refine af.ai ⟨[(1,_),(3,_),(5,_),(6,_),(10,_),(27,B (!x_4))],[(101,_),(102,_),(103,_),(104,_)]⟩ rfl (ab.ite h rfl (fun _ h=>?_) (fun _ h=>?_))
  ·refine ab.seq (ab.aa ?_)
   refine af.lv aH h rfl (cu eP rfl rfl) (fun x_5 h=>?_)
   refine Oc (aG aT rfl rfl rfl rfl (Nat.le_of_ble_eq_true rfl) rfl) (Oc oa (Oc oa (Oc oa ?_)))
   refine af.ai ⟨[(6,_),(7,.b (.one (.nil))),(8,.b (.one (.nil))),(9,I 5)],[(103,.box 49 (aH x_5))]⟩ rfl (ab.ret (Fin.ar ?_))
   obtain rfl:=Option.some.inj h
   refine Fin.ag ⟨[(6,_),(7,_),(8,_),(9,_)],[(103,_)]⟩ rfl (Fin.iv 7 1 rfl (by decide) (Fin.iv 8 1 rfl (by decide) (Fin.av [.agg (aH x_5),.one (.sl 1 ([].map eI)),.one (.sl 1 ([].map eI)),.one (.i 5)] (.inl rfl) rfl (.cons (.agg aT rfl rfl rfl rfl) (.cons (.tmp rfl) (.cons (.tmp rfl) (.cons (.tmp rfl) .nil)))) ⟨rfl,rfl⟩)))
  ·refine ab.skip (Fin.ag ⟨[(1,_),(3,_),(5,_),(6,_),(10,_)],[(101,_),(102,_),(103,_),(104,_)]⟩ rfl (Fin.then (ab.seq (ab.aa ?_))))
   refine Oc (lp aT) (Oc om ?_)
   obtain ⟨⟨x_6,x_7⟩,e3,h⟩:=aO h
   refine Oc (aj (fq e3) tz rfl rfl) (Oc om (Oc (aB rfl rfl) ?_))
   refine af.ag ⟨[(1,_),(5,_),(6,_),(10,_),(29,.ew [.agg (aH x_6),.one (.i x_7)]),(33,.b (.agg (aH x_6)))],[(102,_),(103,_),(104,_)]⟩ rfl (Oc (aB rfl rfl) (Oc (a8 (k:=105) fh rfl) (Oc (aG aT rfl rfl rfl rfl (Nat.le_of_ble_eq_true rfl) rfl) (Oc oa ?_))))
   refine af.ai ⟨[(1,_),(5,_),(6,_),(10,_),(12,Pt 105 0)],[(102,_),(103,_),(104,_),(105,.box 49 (aH x_6))]⟩ rfl (ab.seq ?_)
   obtain ⟨x_8,e4,h⟩:=aO h
   obtain ⟨x_9,e5,h⟩:=aO h
   refine ab.lA mixed [false,false,false,true,false,false,true,false,false] [.b (.agg (aH x_6)),Pt 104 1,.b (.agg (ak x_3.b)),.b (.row 106),.b (.agg (aH x_6)),.b (.agg (ak b0)),.b (.row 107),.b (.row 106),.b (.row 107)] [⟨[false,false,false,false,false,false,false,false,false],[(1,I id0),(5,Pt 102 0),(6,Pt 103 0),(10,Pt 104 0),(12,Pt 105 0)],[(102,.box 25 (ak b0)),(103,.box 49 [.tr ae (.leaf),.cR 0,.cR 0,.cR 0,.tr ae (.leaf),.cR 0,.cR 0,.cR 0]),(104,.box 87 (an x_3)),(105,.box 49 (aH x_6))],[true,true,true,true,true,true,true,true,true],[],[6,7,8]⟩,⟨[false,false,false,true,false,false,false,false,false],[(1,I id0),(5,Pt 102 0),(6,Pt 103 0),(10,Pt 104 0),(12,Pt 105 0)],[(102,.box 25 (ak b0)),(103,.box 49 [.tr ae (.leaf),.cR 0,.cR 0,.cR 0,.tr ae (.leaf),.cR 0,.cR 0,.cR 0]),(104,.box 87 (an x_3)),(105,.box 49 (aH x_6)),(106,.row 3 1 (x_8.map eI))],[true,true,true,true,true,true,true,true,true],[0,1,2,3],[7,8]⟩,⟨[false,false,false,true,false,false,true,false,false],[(1,I id0),(5,Pt 102 0),(6,Pt 103 0),(10,Pt 104 0),(12,Pt 105 0)],[(102,.box 25 (ak b0)),(103,.box 49 [.tr ae (.leaf),.cR 0,.cR 0,.cR 0,.tr ae (.leaf),.cR 0,.cR 0,.cR 0]),(104,.box 87 (an x_3)),(105,.box 49 (aH x_6)),(106,.row 3 1 (x_8.map eI)),(107,.row 3 1 (x_9.map eI))],[true,true,true,true,true,true,true,true,true],[0,1,2,3,4,5,6],[]⟩] rfl (⟨by kernel_rfl,⟨⟨.b (.agg (aH x_6)),fun _=>rfl,fun _=>.p (by exact cA aT rfl rfl rfl rfl)⟩,⟨Pt 104 1,fun _=>rfl,fun _=>.p (by exact ay gv rfl rfl)⟩,⟨.b (.agg (ak x_3.b)),fun _=>rfl,fun _=>.p (by exact cA aE rfl rfl rfl rfl)⟩,⟨_,[106],.b (.row 106),rfl,fun _=>rfl,rfl,rfl,fun _=>.sL [102,103,104,105,106] (by exact .p (by exact cY (own_a:=[]) ((dd e4).sw 51 106) oX rfl trivial rfl rfl)) (by exact rfl)⟩,⟨.b (.agg (aH x_6)),fun _=>rfl,fun _=>.p (by exact cA aT rfl rfl rfl rfl)⟩,⟨.b (.agg (ak b0)),fun _=>rfl,fun _=>.p (by exact cA aE rfl rfl rfl rfl)⟩,trivial,trivial,trivial,trivial⟩,⟨by kernel_rfl,⟨trivial,trivial,trivial,trivial,⟨.b (.agg (aH x_6)),fun _=>rfl,fun _=>.p (by exact cA aT rfl rfl rfl rfl)⟩,⟨.b (.agg (ak b0)),fun _=>rfl,fun _=>.p (by exact cA aE rfl rfl rfl rfl)⟩,⟨_,[107],.b (.row 107),rfl,fun _=>rfl,rfl,rfl,fun _=>.sL [102,103,104,105,106,107] (by exact .p (by exact cY (own_a:=[]) ((dd e5).sw 51 107) oX rfl trivial rfl rfl)) (by exact rfl)⟩,trivial,trivial,trivial⟩,⟨by kernel_rfl,⟨trivial,trivial,trivial,trivial,trivial,trivial,trivial,⟨.b (.row 106),fun _=>rfl,fun _=>.p (by exact bR rfl)⟩,⟨.b (.row 107),fun _=>rfl,fun _=>.p (by exact bR rfl)⟩,trivial⟩,trivial⟩⟩⟩) rfl rfl rfl [1,5,6,12,14,15] [102,103,105,106,107] (s':=⟨[(1,_),(5,_),(6,_),(12,_),(14,.b (.row 106)),(15,.b (.row 107))],[(102,_),(103,_),(105,_),(106,.row 3 1 (x_8.map eI)),(107,.row 3 1 (x_9.map eI))]⟩) rfl ?_
   refine ab.seq (ab.aa ?_)
   refine Oc (lp aT) (Oc om (Oc (lp aE) ?_))
   obtain ⟨⟨x_10,x_11⟩,e6,h⟩:=aO h
   refine Oc (aj (cP e6) nu rfl rfl) (Oc om ?_)
   refine af.ag ⟨[(6,_),(14,_),(15,_),(42,.ew [.agg (aH x_10),.one (.i x_11)])],[(103,_),(106,_),(107,_)]⟩ rfl (Oc (aB rfl rfl) (Oc (aB rfl rfl) (Oc (aG aT rfl rfl rfl rfl (Nat.le_of_ble_eq_true rfl) rfl) (Oc oa ?_))))
   refine af.ai ⟨[(6,Pt 103 0),(9,I x_11),(14,.b (.row 106)),(15,.b (.row 107))],[(103,.box 49 (aH x_10)),(106,.row 3 1 (x_8.map eI)),(107,.row 3 1 (x_9.map eI))]⟩ rfl (ab.seq (ab.dc 107 rfl (ab.dc 106 rfl (ab.ag ⟨[(6,_),(9,_),(14,.b (.one (.sl 1 (x_8.map eI)))),(15,.b (.one (.sl 1 (x_9.map eI))))],[(103,_)]⟩ rfl ?_))))
   obtain ⟨x_12,e7,h⟩:=aO h
   obtain ⟨x_13,e8,h⟩:=aO h
   refine ab.lA mixed [false,false,false,false,false,false,false,false,true,false,false,true] [.b (.agg (aH x_10)),.b (.one (.sl 1 (x_9.map eI))),.b (.one (.sl 1 (x_8.map eI))),.b (.one (.sl 1 (x_12.map eI))),.b (.one (.sl 1 (x_8.map eI))),.b (.one (.sl 1 (x_9.map eI))),.b (.one (.sl 1 (x_13.map eI))),I x_11,B true,.b (.one (.sl 1 (x_12.map eI))),.b (.one (.sl 1 (x_13.map eI))),I x_11] [⟨[false,false,false,false,false,false,false,false,false,false,false,false],[(6,Pt 103 0),(9,I x_11),(14,.b (.one (.sl 1 (x_8.map eI)))),(15,.b (.one (.sl 1 (x_9.map eI))))],[(103,.box 49 (aH x_10))],[true,true,true,true,true,true,true,true,true,true,true,true],[],[9,10,11]⟩,⟨[false,false,false,false,false,false,false,false,true,false,false,false],[(6,Pt 103 0),(9,I x_11),(14,.b (.one (.sl 1 (x_8.map eI)))),(15,.b (.one (.sl 1 (x_9.map eI))))],[(103,.box 49 (aH x_10))],[true,true,true,true,true,true,true,true,true,true,true,true],[0,1,2,3,4,5,6,8],[]⟩,⟨[false,false,false,false,false,false,false,false,true,false,false,true],[(6,Pt 103 0),(14,.b (.one (.sl 1 (x_8.map eI)))),(15,.b (.one (.sl 1 (x_9.map eI))))],[(103,.box 49 (aH x_10))],[true,true,true,true,true,true,true,true,true,true,true,true],[0,1,2,3,4,5,6,7,8,9,10,11],[]⟩] rfl (⟨by kernel_rfl,⟨⟨.b (.agg (aH x_10)),fun _=>rfl,fun _=>.p (by exact cA aT rfl rfl rfl rfl)⟩,⟨.b (.one (.sl 1 (x_9.map eI))),fun _=>rfl,fun _=>.p (by exact aU rfl)⟩,⟨.b (.one (.sl 1 (x_8.map eI))),fun _=>rfl,fun _=>.p (by exact aU rfl)⟩,⟨.b (.one (.sl 1 (x_12.map eI))),fun _=>rfl,fun _=>.p (by exact aj (iF 0 e7).rD tu rfl rfl)⟩,⟨.b (.one (.sl 1 (x_8.map eI))),fun _=>rfl,fun _=>.p (by exact aU rfl)⟩,⟨.b (.one (.sl 1 (x_9.map eI))),fun _=>rfl,fun _=>.p (by exact aU rfl)⟩,⟨.b (.one (.sl 1 (x_13.map eI))),fun _=>rfl,fun _=>.p (by exact aj (iF 0 e8).rD tu rfl rfl)⟩,⟨I x_11,fun _=>rfl,fun _=>.p (by exact aU rfl)⟩,⟨_,[],.b (.one .any),rfl,(fun e=>by simp at e),rfl,rfl,fun _=>.sL [103] (by exact .p (by exact aG aT rfl rfl rfl rfl (Nat.le_of_ble_eq_true rfl) rfl)) (by exact rfl)⟩,trivial,trivial,trivial,trivial⟩,⟨by kernel_rfl,⟨trivial,trivial,trivial,trivial,trivial,trivial,trivial,⟨I x_11,fun _=>rfl,fun _=>.p (by exact aU rfl)⟩,trivial,⟨.b (.one (.sl 1 (x_12.map eI))),fun _=>rfl,fun _=>.p (by exact bR rfl)⟩,⟨.b (.one (.sl 1 (x_13.map eI))),fun _=>rfl,fun _=>.p (by exact bR rfl)⟩,⟨_,[],I x_11,rfl,fun _=>rfl,rfl,rfl,fun _=>.sL [103] (by exact .p (by exact bR rfl)) (by exact rfl)⟩,trivial⟩,⟨by kernel_rfl,⟨trivial,trivial,trivial,trivial,trivial,trivial,trivial,trivial,trivial,trivial,trivial,trivial,trivial⟩,trivial⟩⟩⟩) rfl rfl rfl [6,7,8,9] [103] (s':=⟨[(6,_),(7,.b (.one (.sl 1 (x_12.map eI)))),(8,.b (.one (.sl 1 (x_13.map eI)))),(9,_)],[(103,_)]⟩) rfl ?_
   refine ab.ret ?_
   obtain rfl:=Option.some.inj h
   refine Fin.ag ⟨[(6,_),(7,_),(8,_),(9,_)],[(103,_)]⟩ rfl (Fin.av [.agg (aH x_10),.one (.sl 1 (x_12.map eI)),.one (.sl 1 (x_13.map eI)),.one (.i x_11)] (.inl rfl) rfl (.cons (.agg aT rfl rfl rfl rfl) (.cons (.tmp rfl) (.cons (.tmp rfl) (.cons (.tmp rfl) .nil)))) ⟨rfl,rfl⟩)
def c5 (F:Nat) (a0:List Int) (b0:List Int):Option Bool :=
 if (decide ((a0.length:Int) ≠ (b0.length:Int))) = true then (some false) else (Option.bind (iter F (fun i_1=>if (decide (i_1 < (a0.length:Int))) = true then ((aX a0 i_1).bind fun x_2=>(aX b0 i_1).bind fun x_3=>if (decide (x_2 ≠ x_3)) = true then (some (.inr (.inr false))) else (some (.inl (IntKind.i64.wrap (i_1 + 1))))) else (some (.inr (.inl ())))) 0) (b5 (fun _=>some true) (fun y=>some y)))
theorem eW {F:Nat} {a0:List Int} {b0:List Int} {r:Bool} (h:c5 F a0 b0 = some r):ao Tryz.prog [] 32 [] [.one (.sl 1 (a0.map eI)),.one (.sl 1 (b0.map eI))] (Is [] (.b (.one (.bool r)))):=by
 unfold c5 at h
 refine ao.intro 26 Tryz.func32 Tryz.ntmps32 rfl (by simp) fun E=>?_
 show ab _ E ⟨26,[],[],[]⟩ _ ⟨[(0,.b (.one (.sl 1 (a0.map eI)))),(1,.b (.one (.sl 1 (b0.map eI))))],[]⟩ _
 refine ab.seq (ab.aa ?_)
 refine Oc oa (af.ai ⟨[(0,.b (.one (.sl 1 (a0.map eI)))),(1,.b (.one (.sl 1 (b0.map eI))))],[]⟩ rfl (ab.seq (ab.seq (ab.aa ?_))))
 refine Oc om (Oc (bm fa rfl (List.length_map _)) (Oc om (Oc (bm fa rfl (List.length_map _)) (Oc (jC rfl rfl) ?_))))
 refine af.ai ⟨[(0,_),(1,_),(10,B (decide ((a0.length:Int) ≠ (b0.length:Int))))],[]⟩ rfl (ab.ite h rfl (fun _ h=>?_) (fun _ h=>?_))
 ·refine ab.seq (ab.aa ?_)
  refine Oc oa (af.ai ⟨[(4,B false)],[]⟩ rfl (ab.ret (Fin.ar ?_)))
  obtain rfl:=Option.some.inj h
  refine Fin.ag ⟨[(4,_)],[]⟩ rfl (Fin.av [.one (.bool false)] (.inl rfl) rfl (.cons (.tmp rfl) .nil) ⟨rfl,rfl⟩)
 ·refine ab.skip (Fin.ag ⟨[(0,_),(1,_)],[]⟩ rfl (Fin.then ?_))
  obtain ⟨v1,h2,h⟩:=aO h
  refine ab.eb (v:=v1) (fun (_:Unit)=>⟨[],[]⟩) (fun z=>.inl z) ?_ ?_
  ·refine ab.seq (ab.aa ?_)
   refine Oc oa (af.ai ⟨[(0,_),(1,_),(5,I 0)],[]⟩ rfl (ab.block (ab.de h2 (fun (i_1:Int)=>⟨[(0,.b (.one (.sl 1 (a0.map eI)))),(1,.b (.one (.sl 1 (b0.map eI)))),(5,I i_1)],[]⟩) [0,1,5] [] rfl ?_)))
   rintro i_1 o3 h4 hy5
   refine ab.seq (ab.seq (ab.aa ?_))
   refine Oc om (Oc om (Oc (bm fa rfl (List.length_map _)) (Oc (bu rfl rfl) ?_)))
   refine af.ai ⟨[(0,_),(1,_),(5,_),(14,B (decide (i_1 < (a0.length:Int))))],[]⟩ rfl (ab.ite h4 rfl (fun _ h4=>?_) (fun _ h4=>?_))
   ·refine ab.skip (Fin.ag ⟨[(0,_),(1,_),(5,_)],[]⟩ rfl (Fin.then (ab.seq (ab.block (ab.seq ?_)))))
    refine ab.ag ⟨[(0,_),(1,_),(5,_)],[]⟩ rfl ?_
    obtain ⟨x_2,e6,h4⟩:=aO h4
    obtain ⟨x_3,e7,h4⟩:=aO h4
    refine ab.bZ mixed 9 [.b (.one (.sl 1 (a0.map eI))),I i_1,.b (.aJ [.i x_2]),I x_2,.b (.one (.sl 1 (b0.map eI))),I i_1,.b (.aJ [.i x_3]),I x_3,B (decide (x_2 ≠ x_3))] [0,1,5,25] [] (s':=⟨[(0,_),(1,_),(5,_),(25,B (decide (x_2 ≠ x_3)))],[]⟩) rfl ⟨fun _=>.p om,fun _=>.p om,fun _=>.p (bb cf (a7 e6) (b7 (e:=eI) e6) rfl rfl),fun _=>.p (aq aQ rfl rfl),fun _=>.p om,fun _=>.p om,fun _=>.p (bb cf (a7 e7) (b7 (e:=eI) e7) rfl rfl),fun _=>.p (aq aQ rfl rfl),fun _=>.p (jC rfl rfl),trivial⟩ rfl rfl (ab.ite h4 rfl (fun _ h4=>?_) (fun _ h4=>?_))
    ·refine ab.seq (ab.aa ?_)
     refine Oc oa (af.ai ⟨[(4,B false)],[]⟩ rfl (ab.ret (Fin.aP (Fin.ar ?_))))
     obtain rfl:=hy5 _ (Option.some.inj h4).symm
     refine Fin.ar (Fin.aP (Fin.ar ?_))
     obtain rfl:=Option.some.inj h
     refine Fin.ag ⟨[(4,_)],[]⟩ rfl (Fin.av [.one (.bool false)] (.inl rfl) rfl (.cons (.tmp rfl) .nil) ⟨rfl,rfl⟩)
    ·refine ab.skip (Fin.aw (Fin.ag ⟨[(0,_),(1,_),(5,_)],[]⟩ rfl (Fin.then (ab.aa ?_))))
     refine Oc om (Oc (bD rfl rfl) (Oc oa ?_))
     refine af.nil ?_
     exact Fin.ct [0,1,5] [] (IntKind.i64.wrap (i_1 + 1)) (Option.some.inj h4) rfl
   ·refine ab.exit (Fin.aC ?_)
    obtain rfl:=hy5 _ (Option.some.inj h4).symm
    refine Fin.aC (Fin.aZ ?_)
    exact Fin.join [] [] () rfl rfl
  ·rintro _ hv
   subst v1
   refine ab.seq (ab.aa ?_)
   refine Oc oa (af.ai ⟨[(4,B true)],[]⟩ rfl (ab.ret ?_))
   obtain rfl:=Option.some.inj h
   refine Fin.ag ⟨[(4,_)],[]⟩ rfl (Fin.av [.one (.bool true)] (.inl rfl) rfl (.cons (.tmp rfl) .nil) ⟨rfl,rfl⟩)
end Go.Proofs.YtagpkeehkcopaaaGreat

