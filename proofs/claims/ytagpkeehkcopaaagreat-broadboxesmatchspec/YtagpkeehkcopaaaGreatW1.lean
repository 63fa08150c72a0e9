/- printed walks -/
import Derived.Test.YtagpkeehkcopaaaGreatT1
namespace Go.Proofs.YtagpkeehkcopaaaGreat
open Go.Sk Go
set_option maxHeartbeats 4000000
set_option maxRecDepth 4000
set_option linter.unusedSimpArgs false
set_option linter.unusedVariables false
theorem sF:Tryz.prog.underlying 88 = some (.int .u64):=Tryz.underlying88
theorem undi5:Tryz.prog.underlying 5 = some (.int .u8):=Tryz.underlying5
theorem und9:Tryz.prog.underlying 9 = some .string:=Tryz.underlying9
theorem pr:Tryz.prog.underlying 3 = some (.int .i64):=Tryz.underlying3
theorem goes95:bm Tryz.prog 95:=⟨Tryz.call95⟩
theorem goes114:bm Tryz.prog 114:=⟨Tryz.call114⟩
theorem eZ:Tryz.prog.underlying 51 = some (.slice 3):=Tryz.underlying51
theorem oR:Tryz.prog.underlying 112 = some (.int .u64):=Tryz.underlying112
theorem goes69:bm Tryz.prog 69:=⟨Tryz.call69⟩
theorem goes97:bm Tryz.prog 97:=⟨Tryz.call97⟩
theorem dC:cU Tryz.prog 87 0 0 3:=⟨⟨_,_,Tryz.t3,Tryz.underlying87,rfl,rfl,rfl,by kernel_rfl,by decide⟩⟩
theorem aK:cJ Tryz.prog 3:=⟨⟨_,Tryz.underlying3,rfl⟩,⟨Tryz.t3,by kernel_rfl,by kernel_rfl⟩⟩
theorem goes48:bm Tryz.prog 48:=⟨Tryz.call48⟩
theorem cQ:jB Tryz.prog 25 ((bI .i64) A3.zero ++ ((bI .i64) A3.zero)):=⟨⟨Tryz.t25,_,by kernel_rfl,rfl,rfl⟩⟩
theorem gy:cU Tryz.prog 87 1 1 25:=⟨⟨_,_,Tryz.t25,Tryz.underlying87,rfl,rfl,rfl,by kernel_rfl,by decide⟩⟩
theorem ao:fa Tryz.prog 25 6:=⟨⟨_,Tryz.underlying25,rfl⟩,⟨Tryz.t25,by kernel_rfl,by kernel_rfl⟩⟩
theorem goes49:bm Tryz.prog 49:=⟨Tryz.call49⟩
theorem oN:bm Tryz.prog 70:=⟨Tryz.call70⟩
theorem qC:bm Tryz.prog 44:=⟨Tryz.call44⟩
theorem cp:kN Tryz.prog 51 3 1 8 [.i 0]:=⟨Tryz.underlying51,⟨Tryz.t3,_,by kernel_rfl,rfl,rfl,rfl,rfl,by decide,rfl⟩⟩
theorem bu:cU Tryz.prog 25 0 0 23:=⟨⟨_,_,Tryz.t23,Tryz.underlying25,rfl,rfl,rfl,by kernel_rfl,by decide⟩⟩
theorem a7:rf Tryz.prog 23 3 3 1:=⟨Tryz.underlying23,⟨Tryz.t3,by kernel_rfl,by kernel_rfl⟩⟩
theorem goes53:bm Tryz.prog 53:=⟨Tryz.call53⟩
theorem goes52:bm Tryz.prog 52:=⟨Tryz.call52⟩
theorem mixed:Tryz.prog.follows .mixedOrders = true:=by kernel_rfl
theorem goes50:bm Tryz.prog 50:=⟨Tryz.call50⟩
theorem goes51:bm Tryz.prog 51:=⟨Tryz.call51⟩
theorem bt:cU Tryz.prog 25 1 3 23:=⟨⟨_,_,Tryz.t23,Tryz.underlying25,rfl,rfl,rfl,by kernel_rfl,by decide⟩⟩
theorem kW:bm Tryz.prog 14:=⟨Tryz.call14⟩
theorem goes41:bm Tryz.prog 41:=⟨Tryz.call41⟩
theorem kQ:Tryz.prog.underlying 42 = some (.pointer (Tryz.prog.pointee 42)):=(by rw [show Tryz.prog.pointee 42 = 117 from by unfold Go.Program.pointee; rw [Tryz.underlying42]]; exact Tryz.underlying42)
theorem goes123:bm Tryz.prog 123:=⟨Tryz.call123⟩
theorem iy:j9 Tryz.prog 25 [(0,3),(3,3)] ((bI .i64) A3.zero ++ ((bI .i64) A3.zero)):=⟨⟨Tryz.t25,_,_,by kernel_rfl,rfl,rfl,Tryz.underlying25,by kernel_rfl⟩⟩
theorem oP:bm Tryz.prog 13:=⟨Tryz.call13⟩
theorem oi:nw Tryz.prog 23 1 ((bI .i64) A3.zero):=⟨⟨Tryz.t23,_,_,_,Tryz.t3,by kernel_rfl,rfl,rfl,Tryz.underlying23,by kernel_rfl,by kernel_rfl⟩⟩
theorem und34:Tryz.prog.underlying 34 = some (.slice 25):=Tryz.underlying34
theorem kR:kN Tryz.prog 34 25 6 48 ((bI .i64) A3.zero ++ ((bI .i64) A3.zero)):=⟨Tryz.underlying34,⟨Tryz.t25,_,by kernel_rfl,rfl,rfl,rfl,rfl,by decide,rfl⟩⟩
theorem goes67:bm Tryz.prog 67:=⟨Tryz.call67⟩
theorem jX:cJ Tryz.prog 34:=⟨⟨_,Tryz.underlying34,rfl⟩,⟨Tryz.t34,by kernel_rfl,by kernel_rfl⟩⟩
theorem sV:bm Tryz.prog 46:=⟨Tryz.call46⟩
theorem goes71:bm Tryz.prog 71:=⟨Tryz.call71⟩
theorem goes72:bm Tryz.prog 72:=⟨Tryz.call72⟩
theorem goes40:bm Tryz.prog 40:=⟨Tryz.call40⟩
theorem goes42:bm Tryz.prog 42:=⟨Tryz.call42⟩
theorem tyZero3:jB Tryz.prog 3 [.i 0]:=⟨⟨Tryz.t3,_,by kernel_rfl,rfl,rfl⟩⟩
theorem goes45:bm Tryz.prog 45:=⟨Tryz.call45⟩
theorem kV:bm Tryz.prog 16:=⟨Tryz.call16⟩
theorem eJ:nw Tryz.prog 40 1 ((dW .i64) A2.zero):=⟨⟨Tryz.t40,_,_,_,Tryz.t3,by kernel_rfl,rfl,rfl,Tryz.underlying40,by kernel_rfl,by kernel_rfl⟩⟩
theorem hX:kN Tryz.prog 35 40 2 16 ((dW .i64) A2.zero):=⟨Tryz.underlying35,⟨Tryz.t40,_,by kernel_rfl,rfl,rfl,rfl,rfl,by decide,rfl⟩⟩
theorem goes47:bm Tryz.prog 47:=⟨Tryz.call47⟩
theorem q6:Tryz.prog.underlying 35 = some (.slice 40):=Tryz.underlying35
theorem mT:fa Tryz.prog 40 2:=⟨⟨_,Tryz.underlying40,rfl⟩,⟨Tryz.t40,by kernel_rfl,by kernel_rfl⟩⟩
theorem tK (x y:A2) {d:Nat}:cP Tryz.prog (d + 2) 40 2 ((dW .i64) x) ((dW .i64) y) (decide (x = y)) :=
 (cP.arr (l:=x.l) (l':=y.l) mT Tryz.underlying40 aK Tryz.underlying3).cast (by rw [Bool.eq_iff_iff]; simp [A2.sB])
theorem eqAgg40 (x y:A2):kC Tryz.prog 40 ((dW .i64) x) ((dW .i64) y) (decide (x = y)):=kC.sL (by kernel_rfl) mT (tK x y (d:=9998)) rfl rfl
theorem fh:jB Tryz.prog 49 [.tr ae (.leaf),.cV 0,.cV 0,.cV 0,.tr ae (.leaf),.cV 0,.cV 0,.cV 0]:=⟨⟨Tryz.t49,_,by kernel_rfl,rfl,rfl⟩⟩
theorem oh:j9 Tryz.prog 47 [(0,1),(1,1),(2,1),(3,1)] [.tr ae (.leaf),.cV 0,.cV 0,.cV 0]:=⟨⟨Tryz.t47,_,_,by kernel_rfl,rfl,rfl,Tryz.underlying47,by kernel_rfl⟩⟩
theorem eH:j9 Tryz.prog 49 [(0,4),(4,4)] [.tr ae (.leaf),.cV 0,.cV 0,.cV 0,.tr ae (.leaf),.cV 0,.cV 0,.cV 0]:=⟨⟨Tryz.t49,_,_,by kernel_rfl,rfl,rfl,Tryz.underlying49,by kernel_rfl⟩⟩
theorem aU:fa Tryz.prog 49 8:=⟨⟨_,Tryz.underlying49,rfl⟩,⟨Tryz.t49,by kernel_rfl,by kernel_rfl⟩⟩
theorem gF:jB Tryz.prog 87 (.i 0 :: ((bI .i64) A3.zero ++ ((bI .i64) A3.zero))):=⟨⟨Tryz.t87,_,by kernel_rfl,rfl,rfl⟩⟩
theorem ka:cU Tryz.prog 49 0 0 47:=⟨⟨_,_,Tryz.t47,Tryz.underlying49,rfl,rfl,rfl,by kernel_rfl,by decide⟩⟩
theorem fu:cU Tryz.prog 47 0 0 42:=⟨⟨_,_,Tryz.t42,Tryz.underlying47,rfl,rfl,rfl,by kernel_rfl,by decide⟩⟩
theorem bq:cJ Tryz.prog 42:=⟨⟨_,Tryz.underlying42,rfl⟩,⟨Tryz.t42,by kernel_rfl,by kernel_rfl⟩⟩
theorem dP:cU Tryz.prog 117 0 0 87:=⟨⟨_,_,Tryz.t87,Tryz.underlying117,rfl,rfl,rfl,by kernel_rfl,by decide⟩⟩
theorem br:fa Tryz.prog 87 7:=⟨⟨_,Tryz.underlying87,rfl⟩,⟨Tryz.t87,by kernel_rfl,by kernel_rfl⟩⟩
theorem dt:cU Tryz.prog 117 3 14 42:=⟨⟨_,_,Tryz.t42,Tryz.underlying117,rfl,rfl,rfl,by kernel_rfl,by decide⟩⟩
theorem dr:cU Tryz.prog 117 4 15 42:=⟨⟨_,_,Tryz.t42,Tryz.underlying117,rfl,rfl,rfl,by kernel_rfl,by decide⟩⟩
theorem og:j9 Tryz.prog 87 [(0,1),(1,6)] (.i 0 :: ((bI .i64) A3.zero ++ ((bI .i64) A3.zero))):=⟨⟨Tryz.t87,_,_,by kernel_rfl,rfl,rfl,Tryz.underlying87,by kernel_rfl⟩⟩
theorem qq:Tryz.prog.underlying 144 = some (.slice 42):=Tryz.underlying144
theorem iO:kN Tryz.prog 144 42 1 8 [.tr ae (.leaf)]:=⟨Tryz.underlying144,⟨Tryz.t42,_,by kernel_rfl,rfl,rfl,rfl,rfl,by decide,rfl⟩⟩
theorem goes131:bm Tryz.prog 131:=⟨Tryz.call131⟩
theorem goes122:bm Tryz.prog 122:=⟨Tryz.call122⟩
theorem k3:cU Tryz.prog 117 1 7 88:=⟨⟨_,_,Tryz.t88,Tryz.underlying117,rfl,rfl,rfl,by kernel_rfl,by decide⟩⟩
theorem oS:cJ Tryz.prog 88:=⟨⟨_,Tryz.underlying88,rfl⟩,⟨Tryz.t88,by kernel_rfl,by kernel_rfl⟩⟩
theorem rS:cU Tryz.prog 47 3 3 45:=⟨⟨_,_,Tryz.t45,Tryz.underlying47,rfl,rfl,rfl,by kernel_rfl,by decide⟩⟩
theorem tyOne45:cJ Tryz.prog 45:=⟨⟨_,Tryz.underlying45,rfl⟩,⟨Tryz.t45,by kernel_rfl,by kernel_rfl⟩⟩
theorem nz:j9 Tryz.prog 117 [(0,7),(7,1),(8,6),(14,1),(15,1)] (.i 0 :: ((bI .i64) A3.zero ++ ((bI .i64) A3.zero ++ (.int .u64 0 :: ((bI .i64) A3.zero ++ ((bI .i64) A3.zero ++ ([.tr ae (.leaf),.tr ae (.leaf)]))))))):=⟨⟨Tryz.t117,_,_,by kernel_rfl,rfl,rfl,Tryz.underlying117,by kernel_rfl⟩⟩
theorem goes100:bm Tryz.prog 100:=⟨Tryz.call100⟩
theorem iS:cU Tryz.prog 117 2 8 25:=⟨⟨_,_,Tryz.t25,Tryz.underlying117,rfl,rfl,rfl,by kernel_rfl,by decide⟩⟩
theorem qE:bm Tryz.prog 18:=⟨Tryz.call18⟩
theorem oe:cU Tryz.prog 47 1 1 43:=⟨⟨_,_,Tryz.t43,Tryz.underlying47,rfl,rfl,rfl,by kernel_rfl,by decide⟩⟩
theorem rm:cJ Tryz.prog 43:=⟨⟨_,Tryz.underlying43,rfl⟩,⟨Tryz.t43,by kernel_rfl,by kernel_rfl⟩⟩
theorem bB:fa Tryz.prog 47 4:=⟨⟨_,Tryz.underlying47,rfl⟩,⟨Tryz.t47,by kernel_rfl,by kernel_rfl⟩⟩
theorem qA:bm Tryz.prog 79:=⟨Tryz.call79⟩
theorem kU:bm Tryz.prog 80:=⟨Tryz.call80⟩
theorem nh:bm Tryz.prog 82:=⟨Tryz.call82⟩
theorem pA:jB Tryz.prog 47 [.tr ae (.leaf),.cV 0,.cV 0,.cV 0]:=⟨⟨Tryz.t47,_,by kernel_rfl,rfl,rfl⟩⟩
theorem rT:cU Tryz.prog 47 2 2 44:=⟨⟨_,_,Tryz.t44,Tryz.underlying47,rfl,rfl,rfl,by kernel_rfl,by decide⟩⟩
theorem tyOne44:cJ Tryz.prog 44:=⟨⟨_,Tryz.underlying44,rfl⟩,⟨Tryz.t44,by kernel_rfl,by kernel_rfl⟩⟩
theorem goes81:bm Tryz.prog 81:=⟨Tryz.call81⟩
theorem qB:bm Tryz.prog 54:=⟨Tryz.call54⟩
theorem sS:bm Tryz.prog 59:=⟨Tryz.call59⟩
theorem lY:cU Tryz.prog 49 1 4 47:=⟨⟨_,_,Tryz.t47,Tryz.underlying49,rfl,rfl,rfl,by kernel_rfl,by decide⟩⟩
theorem ti:jB Tryz.prog 51 [.nil]:=⟨⟨Tryz.t51,_,by kernel_rfl,rfl,rfl⟩⟩
theorem sT:bm Tryz.prog 57:=⟨Tryz.call57⟩
theorem mS:cJ Tryz.prog 51:=⟨⟨_,Tryz.underlying51,rfl⟩,⟨Tryz.t51,by kernel_rfl,by kernel_rfl⟩⟩
theorem sQ:bm Tryz.prog 77:=⟨Tryz.call77⟩
theorem goes75:bm Tryz.prog 75:=⟨Tryz.call75⟩
theorem oO:bm Tryz.prog 55:=⟨Tryz.call55⟩
theorem qz:bm Tryz.prog 83:=⟨Tryz.call83⟩
theorem sR:bm Tryz.prog 60:=⟨Tryz.call60⟩
theorem goes98:bm Tryz.prog 98:=⟨Tryz.call98⟩
theorem sP:bm Tryz.prog 99:=⟨Tryz.call99⟩
theorem goes76:bm Tryz.prog 76:=⟨Tryz.call76⟩
theorem sY:bm Tryz.prog 30:=⟨Tryz.call30⟩
theorem nj:bm Tryz.prog 29:=⟨Tryz.call29⟩
theorem sU:bm Tryz.prog 56:=⟨Tryz.call56⟩
theorem tj:jB Tryz.prog 35 [.nil]:=⟨⟨Tryz.t35,_,by kernel_rfl,rfl,rfl⟩⟩
theorem oT:cJ Tryz.prog 35:=⟨⟨_,Tryz.underlying35,rfl⟩,⟨Tryz.t35,by kernel_rfl,by kernel_rfl⟩⟩
theorem ni:bm Tryz.prog 39:=⟨Tryz.call39⟩
theorem tyAgg23:fa Tryz.prog 23 3:=⟨⟨_,Tryz.underlying23,rfl⟩,⟨Tryz.t23,by kernel_rfl,by kernel_rfl⟩⟩
theorem pU (x y:A3) {d:Nat}:cP Tryz.prog (d + 2) 23 3 ((bI .i64) x) ((bI .i64) y) (decide (x = y)) :=
 (cP.arr (l:=x.l) (l':=y.l) tyAgg23 Tryz.underlying23 aK Tryz.underlying3).cast (by rw [Bool.eq_iff_iff]; simp [A3.sB])
theorem tL (x y:bz) {d:Nat}:cP Tryz.prog (d + 3) 25 6 (ak x) (ak y) (decide (x = y)) :=
 (cP.struct (d:=d + 2) (rs:=[decide (x.Lo = y.Lo),decide (x.Hi = y.Hi)]) ao Tryz.stoodInHeld25 Tryz.underlying25 (⟨by decide,⟨_,((bI .i64) x.Lo),((bI .i64) y.Lo),rfl,rfl,rfl,rfl,pU _ _⟩,⟨by decide,⟨_,((bI .i64) x.Hi),((bI .i64) y.Hi),rfl,rfl,rfl,rfl,pU _ _⟩,trivial⟩⟩) rfl).cast
  (by cases x; cases y; rw [Bool.eq_iff_iff]; simp [bz.mk.injEq])
theorem mX (x y:bz):kC Tryz.prog 25 (ak x) (ak y) (decide (x = y)):=kC.sL (by kernel_rfl) ao (tL x y (d:=9997)) rfl rfl
theorem qF:bm Tryz.prog 11:=⟨Tryz.call11⟩
theorem s6:bm Tryz.prog 20:=⟨Tryz.call20⟩
theorem qD:bm Tryz.prog 22:=⟨Tryz.call22⟩
theorem s5:bm Tryz.prog 23:=⟨Tryz.call23⟩
theorem sX:bm Tryz.prog 31:=⟨Tryz.call31⟩
theorem goes25:bm Tryz.prog 25:=⟨Tryz.call25⟩
theorem sW:bm Tryz.prog 32:=⟨Tryz.call32⟩
theorem sZ:bm Tryz.prog 26:=⟨Tryz.call26⟩
theorem goes12:bm Tryz.prog 12:=⟨Tryz.call12⟩
theorem und4:Tryz.prog.underlying 4 = some .bool:=Tryz.underlying4
theorem s7:bm Tryz.prog 15:=⟨Tryz.call15⟩
theorem goes17:bm Tryz.prog 17:=⟨Tryz.call17⟩
theorem goes19:bm Tryz.prog 19:=⟨Tryz.call19⟩
def ja (F:Nat) (x0:Int):Option Int :=
 Option.bind (if (decide (4294967296 ≤ x0)) = true then (some (x0 / 4294967296,32)) else (some (x0,0))) (eW fun x_1 n_2=>Option.bind (if (decide (65536 ≤ x_1)) = true then (some (x_1 / 65536,IntKind.i64.wrap (n_2 + 16))) else (some (x_1,n_2))) (eW fun x_3 n_4=>Option.bind (if (decide (256 ≤ x_3)) = true then (some (x_3 / 256,IntKind.i64.wrap (n_4 + 8))) else (some (x_3,n_4))) (eW fun x_5 n_6=>(bb ([0,1,2,2,3,3,3,3,4,4,4,4,4,4,4,4,5,5,5,5,5,5,5,5,5,5,5,5,5,5,5,5,6,6,6,6,6,6,6,6,6,6,6,6,6,6,6,6,6,6,6,6,6,6,6,6,6,6,6,6,6,6,6,6,7,7,7,7,7,7,7,7,7,7,7,7,7,7,7,7,7,7,7,7,7,7,7,7,7,7,7,7,7,7,7,7,7,7,7,7,7,7,7,7,7,7,7,7,7,7,7,7,7,7,7,7,7,7,7,7,7,7,7,7,7,7,7,7,8,8,8,8,8,8,8,8,8,8,8,8,8,8,8,8,8,8,8,8,8,8,8,8,8,8,8,8,8,8,8,8,8,8,8,8,8,8,8,8,8,8,8,8,8,8,8,8,8,8,8,8,8,8,8,8,8,8,8,8,8,8,8,8,8,8,8,8,8,8,8,8,8,8,8,8,8,8,8,8,8,8,8,8,8,8,8,8,8,8,8,8,8,8,8,8,8,8,8,8,8,8,8,8,8,8,8,8,8,8,8,8,8,8,8,8,8,8,8,8,8,8,8,8,8,8,8,8]:Str) (IntKind.u8.wrap x_5)).bind fun x_7=>er (IntKind.i64.wrap (n_6 + (IntKind.i64.wrap (x_7.toNat:Int)))) fun x_8=>some x_8)))
theorem mQ {F:Nat} {x0:Int} {r:Int} (h:ja F x0 = some r):aq Tryz.prog [] 95 [] [.one (.int .u64 x0)] (Is [] (.b (.one (.i r)))):=by
 unfold ja at h
 refine aq.intro 25 Tryz.func95 Tryz.ntmps95 rfl (by simp) fun E=>?_
 show ab _ E ⟨25,[],[],[]⟩ _ ⟨[(0,.b (.one (.int .u64 x0)))],[]⟩ _
 refine ab.seq (ab.aa ?_)
 refine Oc oa (af.ai ⟨[(0,.b (.one (.int .u64 x0))),(2,I 0)],[]⟩ rfl ?_)
 obtain ⟨v1,h2,h⟩:=aM h
 refine ab.dX (v:=v1) (eW fun (x_1:Int) (n_2:Int)=>⟨[(0,.b (.one (.int .u64 x_1))),(2,I n_2)],[]⟩) (fun z=>z) ?_ ?_
 ·refine ab.seq (ab.aa ?_)
  refine Oc om (Oc (nf rfl rfl) ?_)
  refine af.ai ⟨[(0,_),(2,_),(4,B (decide (4294967296 ≤ x0)))],[]⟩ rfl (ab.ite h2 rfl (fun _ h2=>?_) (fun _ h2=>?_))
  ·refine ab.seq (ab.aa ?_)
   refine Oc om (Oc (iP (m:=32) (by decide) rfl rfl rfl) (Oc oa ?_))
   refine af.ai ⟨[(0,.b (.one (.int .u64 (x0 / 4294967296))))],[]⟩ rfl (ab.aa (Oc oa (af.nil ?_)))
   exact Fin.join [0,2] [] (x0 / 4294967296,32) (Option.some.inj h2) rfl
  ·refine ab.skip ?_
   exact Fin.join [0,2] [] (x0,0) (Option.some.inj h2) rfl
 ·rintro ⟨x_1,n_2⟩ hv
  subst v1
  obtain ⟨v3,h4,h⟩:=aM h
  refine ab.dX (v:=v3) (eW fun (x_3:Int) (n_4:Int)=>⟨[(0,.b (.one (.int .u64 x_3))),(2,I n_4)],[]⟩) (fun z=>z) ?_ ?_
  ·refine ab.seq (ab.aa ?_)
   refine Oc om (Oc (nf rfl rfl) ?_)
   refine af.ai ⟨[(0,_),(2,_),(8,B (decide (65536 ≤ x_1)))],[]⟩ rfl (ab.ite h4 rfl (fun _ h4=>?_) (fun _ h4=>?_))
   ·refine ab.seq (ab.aa ?_)
    refine Oc om (Oc (iP (m:=16) (by decide) rfl rfl rfl) (Oc oa ?_))
    refine af.ai ⟨[(0,.b (.one (.int .u64 (x_1 / 65536)))),(2,_)],[]⟩ rfl (ab.aa (Oc om (Oc (bK rfl rfl) (Oc oa ?_))))
    refine af.nil ?_
    exact Fin.join [0,2] [] (x_1 / 65536,IntKind.i64.wrap (n_2 + 16)) (Option.some.inj h4) rfl
   ·refine ab.skip ?_
    exact Fin.join [0,2] [] (x_1,n_2) (Option.some.inj h4) rfl
  ·rintro ⟨x_3,n_4⟩ hv
   subst v3
   obtain ⟨v5,h6,h⟩:=aM h
   refine ab.dX (v:=v5) (eW fun (x_5:Int) (n_6:Int)=>⟨[(0,.b (.one (.int .u64 x_5))),(2,I n_6)],[]⟩) (fun z=>z) ?_ ?_
   ·refine ab.seq (ab.aa ?_)
    refine Oc om (Oc (nf rfl rfl) ?_)
    refine af.ai ⟨[(0,_),(2,_),(14,B (decide (256 ≤ x_3)))],[]⟩ rfl (ab.ite h6 rfl (fun _ h6=>?_) (fun _ h6=>?_))
    ·refine ab.seq (ab.aa ?_)
     refine Oc om (Oc (iP (m:=8) (by decide) rfl rfl rfl) (Oc oa ?_))
     refine af.ai ⟨[(0,.b (.one (.int .u64 (x_3 / 256)))),(2,_)],[]⟩ rfl (ab.aa (Oc om (Oc (bK rfl rfl) (Oc oa ?_))))
     refine af.nil ?_
     exact Fin.join [0,2] [] (x_3 / 256,IntKind.i64.wrap (n_4 + 8)) (Option.some.inj h6) rfl
    ·refine ab.skip ?_
     exact Fin.join [0,2] [] (x_3,n_4) (Option.some.inj h6) rfl
   ·rintro ⟨x_5,n_6⟩ hv
    subst v5
    refine ab.seq (ab.aa ?_)
    refine Oc om (Oc om (Oc (ec sF undi5 rfl) ?_))
    obtain ⟨x_7,e7,h⟩:=aM h
    refine Oc (pc und9 rfl rfl (a6 e7) (qy e7)) (Oc (ec undi5 pr rfl) ?_)
    refine af.pv .i64 h rfl (bK rfl rfl) (fun x_8 h=>?_)
    refine Oc oa (af.ai ⟨[(2,I x_8)],[]⟩ rfl (ab.ret ?_))
    obtain rfl:=Option.some.inj h
    refine Fin.ag ⟨[(2,_)],[]⟩ rfl (Fin.au [.one (.i x_8)] (.inl rfl) rfl (.cons (.tmp rfl) .nil) ⟨rfl,rfl⟩)
def k9 (F:Nat) (x0:Int):Option Int :=
 (ja F x0).bind fun x_1=>some x_1
theorem n2 {F:Nat} {x0:Int} {r:Int} (h:k9 F x0 = some r):aq Tryz.prog [] 69 [] [.one (.int .u64 x0)] (Is [] (.b (.one (.i r)))):=by
 unfold k9 at h
 refine aq.intro 8 Tryz.func69 Tryz.ntmps69 rfl (by simp) fun E=>?_
 show ab _ E ⟨8,[],[],[]⟩ _ ⟨[(0,.b (.one (.int .u64 x0)))],[]⟩ _
 refine ab.seq (ab.aa ?_)
 refine Oc oa (af.ai ⟨[(0,.b (.one (.int .u64 x0)))],[]⟩ rfl (ab.seq (ab.condFc (ab.skip (Fin.ag ⟨[(0,_)],[]⟩ rfl ?_)))))
 refine Fin.then (ab.seq (ab.aa ?_))
 refine Oc om ?_
 obtain ⟨x_1,e1,h⟩:=aM h
 refine Oc (aj (mQ e1) goes95 rfl rfl) (Oc oa ?_)
 refine af.ai ⟨[(2,I x_1)],[]⟩ rfl (ab.ret ?_)
 obtain rfl:=Option.some.inj h
 refine Fin.ag ⟨[(2,_)],[]⟩ rfl (Fin.au [.one (.i x_1)] (.inl rfl) rfl (.cons (.tmp rfl) .nil) ⟨rfl,rfl⟩)
def dx (F:Nat):Option Unit :=
 Option.bind (iter F (fun _=>some (.inr ())) ()) (fun _=>some ())
theorem gQ {F:Nat} {r:Unit} (h:dx F = some r):aq Tryz.prog [] 114 [] [.one (.nil),.one (.i 0),.one (.i 0)] (Is [] (.ek [])):=by
 unfold dx at h
 refine aq.intro 49 Tryz.func114 Tryz.ntmps114 rfl (by simp) fun E=>?_
 show ab _ E ⟨49,[],[],[]⟩ _ ⟨[(0,.b (.one (.nil))),(1,I 0),(2,I 0)],[]⟩ _
 refine ab.seq (ab.aa ?_)
 refine Oc om (Oc (bK rfl rfl) (Oc oa ?_))
 refine af.ai ⟨[(0,.b (.one (.nil))),(1,I 0),(2,I 0),(6,I 1)],[]⟩ rfl (ab.block ?_)
 obtain ⟨v1,h2,h⟩:=aM h
 refine ab.c6 h2 (fun (_:Unit)=>⟨[(0,.b (.one (.nil))),(1,I 0),(2,I 0),(6,I 1)],[]⟩) [0,1,2,6] [] rfl ?_
 rintro _ o3 h4 hy5
 refine ab.seq (ab.seq (ab.aa ?_))
 refine Oc om (Oc om (Oc (bf rfl rfl) ?_))
 refine af.ai ⟨[(0,_),(1,_),(2,_),(6,_),(12,B false)],[]⟩ rfl (ab.condF rfl (ab.exit (Fin.aC ?_)))
 obtain rfl:=hy5 _ (Option.some.inj h4).symm
 refine Fin.aC (Fin.aY ?_)
 obtain rfl:=Option.some.inj h
 refine Fin.ag ⟨[],[]⟩ rfl (Fin.au [] (.inr rfl) rfl (.nil) ⟨rfl,rfl⟩)
def cZ (F:Nat):Nat → Int → Option Unit
 | 0,_=>none
 | n + 1,limit0=>Option.bind (iter F (fun _=>(dx F).bind fun u_1=>some (.inr ())) ()) (fun y=>some y)
def fT (F:Nat) (limit0:Int):Option Unit:=cZ F F limit0
theorem ik {F:Nat}:∀ (n:Nat) {limit0:Int} {r:Unit} (h:cZ F n limit0 = some r),aq Tryz.prog [] 97 [] [.one (.nil),.one (.i 0),.one (.i 0),.one (.i limit0)] (Is [] (.ek [])):=by
 intro n
 induction n with
 | zero=>intro limit0 r h; simp [cZ] at h
 | succ n ih=>
 intro limit0 r h
 unfold cZ at h
 refine aq.intro 134 Tryz.func97 Tryz.ntmps97 rfl (by simp) fun E=>?_
 show ab _ E ⟨134,[],[],[]⟩ _ ⟨[(0,.b (.one (.nil))),(1,I 0),(2,I 0),(3,I limit0)],[]⟩ _
 refine ab.seq (ab.aa ?_)
 refine Oc oa (af.ai ⟨[(0,.b (.one (.nil))),(1,I 0),(2,I 0),(3,I limit0),(8,B true)],[]⟩ rfl (ab.seq (ab.aa ?_)))
 refine Oc oa (af.ai ⟨[(0,_),(1,_),(2,_),(3,_),(8,_),(9,B true)],[]⟩ rfl (ab.block ?_))
 obtain ⟨v1,h2,h⟩:=aM h
 refine ab.c6 h2 (fun (_:Unit)=>⟨[(0,.b (.one (.nil))),(1,I 0),(2,I 0),(3,I limit0),(8,B true),(9,B true)],[]⟩) [0,1,2,3,8,9] [] rfl ?_
 rintro _ o3 h4 hy5
 refine ab.block (ab.seq (ab.aa ?_))
 refine Oc om (Oc om (Oc (qv rfl rfl) (Oc oa ?_)))
 refine af.ai ⟨[(0,_),(1,_),(2,_),(3,_),(8,_),(9,_),(10,I 0)],[]⟩ rfl (ab.seq (ab.seq (ab.aa ?_)))
 refine Oc om (Oc (op_leq rfl rfl) ?_)
 refine af.ai ⟨[(0,_),(1,_),(2,_),(3,_),(8,_),(9,_),(10,_),(23,B true)],[]⟩ rfl (ab.condT rfl (ab.seq (ab.aa ?_)))
 refine Oc om (Oc om (Oc om ?_))
 obtain ⟨u_1,e6,h4⟩:=aM h4
 refine Oc (aj (gQ e6) goes114 rfl rfl) (af.ai ⟨[],[]⟩ rfl (ab.ret (Fin.av (Fin.aS ?_))))
 obtain rfl:=hy5 _ (Option.some.inj h4).symm
 refine Fin.av (Fin.aS ?_)
 obtain rfl:=Option.some.inj h
 refine Fin.ag ⟨[],[]⟩ rfl (Fin.au [] (.inl rfl) rfl (.nil) ⟨rfl,rfl⟩)
theorem iF {F:Nat} {limit0:Int} {r:Unit} (h:fT F limit0 = some r):aq Tryz.prog [] 97 [] [.one (.nil),.one (.i 0),.one (.i 0),.one (.i limit0)] (Is [] (.ek [])):=ik F h
def hS (F:Nat):Option Unit :=
 (k9 F (IntKind.u64.wrap 0)).bind fun x_1=>(fT F x_1).bind fun u_2=>some ()
theorem jT {F:Nat} {r:Unit} (h:hS F = some r):aq Tryz.prog [] 75 [] [.one (.nil)] (Is [] (.ek [])):=by
 unfold hS at h
 refine aq.intro 11 Tryz.func75 Tryz.ntmps75 rfl (by simp) fun E=>?_
 show ab _ E ⟨11,[],[],[]⟩ _ ⟨[(0,.b (.one (.nil)))],[]⟩ _
 refine ab.seq (ab.aa ?_)
 refine Oc om (Oc (qR eZ rfl) (Oc oa ?_))
 refine af.ai ⟨[(0,.b (.one (.nil))),(2,I 0)],[]⟩ rfl (ab.aa (Oc om (Oc om (Oc om (Oc (ec pr oR rfl) ?_)))))
 obtain ⟨x_1,e1,h⟩:=aM h
 refine Oc (aj (n2 e1) goes69 rfl rfl) ?_
 obtain ⟨u_2,e2,h⟩:=aM h
 refine Oc (aj (iF e2) goes97 rfl rfl) (af.nil ?_)
 obtain rfl:=Option.some.inj h
 refine Fin.ag ⟨[],[]⟩ rfl (Fin.au [] (.inr rfl) rfl (.nil) ⟨rfl,rfl⟩)
theorem mn:aq Tryz.prog [] 75 [] [.one .nil] (Is [] (.ek [])):=jT (F:=3) (r:=()) (by rfl)
def fF (F:Nat) (zs:List Int):Option (List Int):=oK zs
theorem ml {F:Nat} {zs r:List Int} (h:fF F zs = some r):aq Tryz.prog [] 75 [(1,.dm 3 1 (zs.map eI))] [.row 1] (Is [(1,.dm 3 1 (r.map eI))] (.ek [])):=qc Tryz.lays189 mn h
def ij (F:Nat) (x0:entry):Option Int :=
 some (IntKind.u64.wrap x0.id)
theorem mw {F:Nat} {x0:entry} {r:Int} (h:ij F x0 = some r):aq Tryz.prog [] 48 [] [.agg (ar x0)] (Is [] (.b (.one (.int .u64 r)))):=by
 unfold ij at h
 refine aq.intro 6 Tryz.func48 Tryz.ntmps48 rfl (by simp) fun E=>?_
 show ab _ E ⟨6,[],[],[]⟩ _ ⟨[(0,.b (.agg (ar x0)))],[]⟩ _
 refine ab.seq (ab.aa ?_)
 refine Oc (bp (k:=101) rfl rfl) (Oc oa ?_)
 refine af.ai ⟨[(1,Pt 101 0)],[(101,.box 87 (ar x0))]⟩ rfl (ab.seq (ab.aa ?_))
 refine Oc (an dC rfl rfl) (Oc (aE aK rfl rfl rfl) (Oc (ec pr sF rfl) (Oc oa ?_)))
 refine af.ai ⟨[(2,.b (.one (.int .u64 (IntKind.u64.wrap x0.id))))],[]⟩ rfl (ab.ret ?_)
 obtain rfl:=Option.some.inj h
 refine Fin.ag ⟨[(2,_)],[]⟩ rfl (Fin.au [.one (.int .u64 (IntKind.u64.wrap x0.id))] (.inl rfl) rfl (.cons (.tmp rfl) .nil) ⟨rfl,rfl⟩)
def gk (F:Nat) (fn0:Nat) (x0:entry):Option Int :=
 if fn0 = 48 then ij F x0 else none
theorem qT {F:Nat} {fn0:Nat} {x0:entry} {r:Int} (h:gk F fn0 x0 = some r):aq Tryz.prog [] fn0 [] [.agg (ar x0)] (Is [] (.b (.one (.int .u64 r)))):=by
 unfold gk at h
 split at h
 ·next e=>subst e; exact mw h
 ·next=>
  simp at h
theorem qU {F:Nat} {fn0:Nat} {x0:entry} {r:Int} (h:gk F fn0 x0 = some r):bm Tryz.prog fn0:=by
 unfold gk at h
 split at h
 ·next e=>subst e; exact goes48
 ·next=>
  simp at h
theorem tI {F:Nat} {fn0:Nat} {x0:entry} {r:Int} (h:gk F fn0 x0 = some r):fn0 ≠ 0:=by
 rintro rfl
 exact absurd h (by simp [gk])
def fL (F:Nat) (x0:entry):Option bz :=
 some x0.b
theorem mv {F:Nat} {x0:entry} {r:bz} (h:fL F x0 = some r):aq Tryz.prog [] 49 [] [.agg (ar x0)] (Is [] (.b (.agg (ak r)))):=by
 unfold fL at h
 refine aq.intro 5 Tryz.func49 Tryz.ntmps49 rfl (by simp) fun E=>?_
 show ab _ E ⟨5,[],[],[]⟩ _ ⟨[(0,.b (.agg (ar x0)))],[]⟩ _
 refine ab.seq (ab.aa ?_)
 refine Oc (bp (k:=101) rfl rfl) (Oc (aW (k:=102) cQ rfl) ?_)
 refine af.ai ⟨[(1,Pt 101 0),(2,Pt 102 0)],[(101,.box 87 (ar x0)),(102,.box 25 ((bI .i64) A3.zero ++ ((bI .i64) A3.zero)))]⟩ rfl (ab.seq (ab.aa ?_))
 refine Oc (an gy rfl rfl) (Oc (lp ao) (Oc (aD ao rfl rfl rfl rfl (Nat.le_of_ble_eq_true rfl) rfl) ?_))
 refine af.ai ⟨[(2,_)],[(102,.box 25 (ak x0.b))]⟩ rfl (ab.ret ?_)
 obtain rfl:=Option.some.inj h
 refine Fin.ag ⟨[(2,_)],[(102,_)]⟩ rfl (Fin.au [.agg (ak x0.b)] (.inl rfl) rfl (.cons (.agg ao rfl rfl rfl rfl) .nil) ⟨rfl,rfl⟩)
def gV (F:Nat) (fn0:Nat) (x0:entry):Option bz :=
 if fn0 = 49 then fL F x0 else none
theorem qZ {F:Nat} {fn0:Nat} {x0:entry} {r:bz} (h:gV F fn0 x0 = some r):aq Tryz.prog [] fn0 [] [.agg (ar x0)] (Is [] (.b (.agg (ak r)))):=by
 unfold gV at h
 split at h
 ·next e=>subst e; exact mv h
 ·next=>
  simp at h
theorem q3 {F:Nat} {fn0:Nat} {x0:entry} {r:bz} (h:gV F fn0 x0 = some r):bm Tryz.prog fn0:=by
 unfold gV at h
 split at h
 ·next e=>subst e; exact goes49
 ·next=>
  simp at h
theorem tO {F:Nat} {fn0:Nat} {x0:entry} {r:bz} (h:gV F fn0 x0 = some r):fn0 ≠ 0:=by
 rintro rfl
 exact absurd h (by simp [gV])
def dR (F:Nat) (x0:Int):Option Bool :=
 some (decide (x0 ≠ x0))
theorem fk {F:Nat} {x0:Int} {r:Bool} (h:dR F x0 = some r):aq Tryz.prog [] 70 [] [.one (.i x0)] (Is [] (.b (.one (.bool r)))):=by
 unfold dR at h
 refine aq.intro 6 Tryz.func70 Tryz.ntmps70 rfl (by simp) fun E=>?_
 show ab _ E ⟨6,[],[],[]⟩ _ ⟨[(0,I x0)],[]⟩ _
 refine ab.seq (ab.aa ?_)
 refine Oc oa (af.ai ⟨[(0,I x0)],[]⟩ rfl (ab.seq (ab.aa ?_)))
 refine Oc om (Oc om (Oc (jz rfl rfl) (Oc oa ?_)))
 refine af.ai ⟨[(2,B (decide (x0 ≠ x0)))],[]⟩ rfl (ab.ret ?_)
 obtain rfl:=Option.some.inj h
 refine Fin.ag ⟨[(2,_)],[]⟩ rfl (Fin.au [.one (.bool (decide (x0 ≠ x0)))] (.inl rfl) rfl (.cons (.tmp rfl) .nil) ⟨rfl,rfl⟩)
def c5 (F:Nat) (x0:Int) (y0:Int):Option Int :=
 (dR F x0).bind fun x_1=>(dR F y0).bind fun x_2=>if x_1 = true then (if x_2 = true then (some 0) else (some (-1))) else (if x_2 = true then (some 1) else (if (decide (x0 < y0)) = true then (some (-1)) else (if (decide (y0 < x0)) = true then (some 1) else (some 0))))
theorem fB {F:Nat} {x0:Int} {y0:Int} {r:Int} (h:c5 F x0 y0 = some r):aq Tryz.prog [] 44 [] [.one (.i x0),.one (.i y0)] (Is [] (.b (.one (.i r)))):=by
 unfold c5 at h
 refine aq.intro 20 Tryz.func44 Tryz.ntmps44 rfl (by simp) fun E=>?_
 show ab _ E ⟨20,[],[],[]⟩ _ ⟨[(0,I x0),(1,I y0)],[]⟩ _
 refine ab.seq (ab.aa ?_)
 refine Oc oa (af.ai ⟨[(0,I x0),(1,I y0)],[]⟩ rfl (ab.seq (ab.aa ?_)))
 refine Oc om ?_
 obtain ⟨x_1,e1,h⟩:=aM h
 refine Oc (aj (fk e1) oN rfl rfl) (Oc oa ?_)
 refine af.ai ⟨[(0,_),(1,_),(5,B x_1)],[]⟩ rfl (ab.seq (ab.aa ?_))
 refine Oc om ?_
 obtain ⟨x_2,e2,h⟩:=aM h
 refine Oc (aj (fk e2) oN rfl rfl) (Oc oa ?_)
 refine af.ai ⟨[(0,_),(1,_),(5,_),(6,B x_2)],[]⟩ rfl (ab.seq (ab.seq (ab.aa ?_)))
 refine Oc om (af.ai ⟨[(0,_),(1,_),(6,_),(11,B x_1)],[]⟩ rfl (ab.ite h rfl (fun _ h=>?_) (fun _ h=>?_)))
 ·refine ab.seq (ab.seq (ab.aa ?_))
  refine Oc om (af.ai ⟨[(12,B x_2)],[]⟩ rfl (ab.ite h rfl (fun _ h=>?_) (fun _ h=>?_)))
  ·refine ab.seq (ab.aa ?_)
   refine Oc oa (af.ai ⟨[(4,I 0)],[]⟩ rfl (ab.ret (Fin.av (Fin.av ?_))))
   obtain rfl:=Option.some.inj h
   refine Fin.ag ⟨[(4,_)],[]⟩ rfl (Fin.au [.one (.i 0)] (.inl rfl) rfl (.cons (.tmp rfl) .nil) ⟨rfl,rfl⟩)
  ·refine ab.skip (Fin.ag ⟨[],[]⟩ rfl (Fin.then (ab.seq (ab.aa ?_))))
   refine Oc oa (af.ai ⟨[(4,I (-1))],[]⟩ rfl (ab.ret (Fin.av ?_)))
   obtain rfl:=Option.some.inj h
   refine Fin.ag ⟨[(4,_)],[]⟩ rfl (Fin.au [.one (.i (-1))] (.inl rfl) rfl (.cons (.tmp rfl) .nil) ⟨rfl,rfl⟩)
 ·refine ab.skip (Fin.ag ⟨[(0,_),(1,_),(6,_)],[]⟩ rfl (Fin.then (ab.seq (ab.seq (ab.aa ?_)))))
  refine Oc om (af.ai ⟨[(0,_),(1,_),(13,B x_2)],[]⟩ rfl (ab.ite h rfl (fun _ h=>?_) (fun _ h=>?_)))
  ·refine ab.seq (ab.aa ?_)
   refine Oc oa (af.ai ⟨[(4,I 1)],[]⟩ rfl (ab.ret (Fin.av ?_)))
   obtain rfl:=Option.some.inj h
   refine Fin.ag ⟨[(4,_)],[]⟩ rfl (Fin.au [.one (.i 1)] (.inl rfl) rfl (.cons (.tmp rfl) .nil) ⟨rfl,rfl⟩)
  ·refine ab.skip (Fin.ag ⟨[(0,_),(1,_)],[]⟩ rfl (Fin.then (ab.seq (ab.seq (ab.aa ?_)))))
   refine Oc om (Oc om (Oc (bf rfl rfl) ?_))
   refine af.ai ⟨[(0,_),(1,_),(16,B (decide (x0 < y0)))],[]⟩ rfl (ab.ite h rfl (fun _ h=>?_) (fun _ h=>?_))
   ·refine ab.seq (ab.aa ?_)
    refine Oc oa (af.ai ⟨[(4,I (-1))],[]⟩ rfl (ab.ret (Fin.av ?_)))
    obtain rfl:=Option.some.inj h
    refine Fin.ag ⟨[(4,_)],[]⟩ rfl (Fin.au [.one (.i (-1))] (.inl rfl) rfl (.cons (.tmp rfl) .nil) ⟨rfl,rfl⟩)
   ·refine ab.skip (Fin.ag ⟨[(0,_),(1,_)],[]⟩ rfl (Fin.then (ab.seq (ab.seq (ab.aa ?_)))))
    refine Oc om (Oc om (Oc (hY rfl rfl) ?_))
    refine af.ai ⟨[(19,B (decide (y0 < x0)))],[]⟩ rfl (ab.ite h rfl (fun _ h=>?_) (fun _ h=>?_))
    ·refine ab.seq (ab.aa ?_)
     refine Oc oa (af.ai ⟨[(4,I 1)],[]⟩ rfl (ab.ret (Fin.av ?_)))
     obtain rfl:=Option.some.inj h
     refine Fin.ag ⟨[(4,_)],[]⟩ rfl (Fin.au [.one (.i 1)] (.inl rfl) rfl (.cons (.tmp rfl) .nil) ⟨rfl,rfl⟩)
    ·refine ab.skip (Fin.ag ⟨[],[]⟩ rfl (Fin.then (ab.seq (ab.aa ?_))))
     refine Oc oa (af.ai ⟨[(4,I 0)],[]⟩ rfl (ab.ret ?_))
     obtain rfl:=Option.some.inj h
     refine Fin.ag ⟨[(4,_)],[]⟩ rfl (Fin.au [.one (.i 0)] (.inl rfl) rfl (.cons (.tmp rfl) .nil) ⟨rfl,rfl⟩)
def fK (F:Nat) (a0:entry) (b0:entry):Option Int :=
 (c5 F a0.id b0.id).bind fun x_1=>some x_1
theorem mu {F:Nat} {a0:entry} {b0:entry} {r:Int} (h:fK F a0 b0 = some r):aq Tryz.prog [] 50 [] [.agg (ar a0),.agg (ar b0)] (Is [] (.b (.one (.i r)))):=by
 unfold fK at h
 refine aq.intro 10 Tryz.func50 Tryz.ntmps50 rfl (by simp) fun E=>?_
 show ab _ E ⟨10,[],[],[]⟩ _ ⟨[(0,.b (.agg (ar a0))),(1,.b (.agg (ar b0)))],[]⟩ _
 refine ab.seq (ab.aa ?_)
 refine Oc (bp (k:=101) rfl rfl) (Oc (bp (k:=102) rfl rfl) (Oc oa ?_))
 refine af.ai ⟨[(2,Pt 101 0),(3,Pt 102 0)],[(101,.box 87 (ar a0)),(102,.box 87 (ar b0))]⟩ rfl (ab.seq (ab.aa ?_))
 refine Oc (an dC rfl rfl) (Oc (aE aK rfl rfl rfl) (Oc (an dC rfl rfl) (Oc (aE aK rfl rfl rfl) ?_)))
 obtain ⟨x_1,e1,h⟩:=aM h
 refine Oc (aj (fB e1) qC rfl rfl) (Oc oa ?_)
 refine af.ai ⟨[(4,I x_1)],[]⟩ rfl (ab.ret ?_)
 obtain rfl:=Option.some.inj h
 refine Fin.ag ⟨[(4,_)],[]⟩ rfl (Fin.au [.one (.i x_1)] (.inl rfl) rfl (.cons (.tmp rfl) .nil) ⟨rfl,rfl⟩)
def dg (F:Nat) (s10:List Int) (s20:List Int):Option Int :=
 Option.bind (iter F (fun x_1=>if (decide (x_1 < (s10.length:Int))) = true then ((bb s10 x_1).bind fun x_2=>if (decide ((s20.length:Int) ≤ x_1)) = true then (some (.inr (.inr 1))) else ((bb s20 x_1).bind fun x_3=>(c5 F x_2 x_3).bind fun x_4=>if (decide (x_4 ≠ 0)) = true then (some (.inr (.inr x_4))) else (some (.inl (IntKind.i64.wrap (x_1 + 1)))))) else (some (.inr (.inl ())))) 0) (ct (fun _=>if (decide ((s10.length:Int) < (s20.length:Int))) = true then (some (-1)) else (some 0)) (fun y=>some y))
theorem ko {F:Nat} {s10:List Int} {s20:List Int} {r:Int} (h:dg F s10 s20 = some r):aq Tryz.prog [] 53 [] [.one (.sl 1 (s10.map eI)),.one (.sl 1 (s20.map eI))] (Is [] (.b (.one (.i r)))):=by
 unfold dg at h
 refine aq.intro 36 Tryz.func53 Tryz.ntmps53 rfl (by simp) fun E=>?_
 show ab _ E ⟨36,[],[],[]⟩ _ ⟨[(0,.b (.one (.sl 1 (s10.map eI)))),(1,.b (.one (.sl 1 (s20.map eI))))],[]⟩ _
 refine ab.seq (ab.aa ?_)
 refine Oc oa (af.ai ⟨[(0,.b (.one (.sl 1 (s10.map eI)))),(1,.b (.one (.sl 1 (s20.map eI))))],[]⟩ rfl ?_)
 obtain ⟨v1,h2,h⟩:=aM h
 refine ab.dX (v:=v1) (fun (_:Unit)=>⟨[(0,.b (.one (.sl 1 (s10.map eI)))),(1,.b (.one (.sl 1 (s20.map eI))))],[]⟩) (fun z=>.inl z) ?_ ?_
 ·refine ab.seq (ab.aa ?_)
  refine Oc om (Oc (bR eZ rfl (List.length_map _)) (Oc om ?_))
  refine af.ai ⟨[(0,_),(1,_),(9,.b (.one (.sl 1 (s10.map eI)))),(10,I (s10.length:Int)),(11,I 0)],[]⟩ rfl (ab.block (ab.c6 h2 (fun (x_1:Int)=>⟨[(0,.b (.one (.sl 1 (s10.map eI)))),(1,.b (.one (.sl 1 (s20.map eI)))),(9,.b (.one (.sl 1 (s10.map eI)))),(10,I (s10.length:Int)),(11,I x_1)],[]⟩) [0,1,9,10,11] [] rfl ?_))
  rintro x_1 o3 h4 hy5
  refine ab.seq (ab.aa ?_)
  refine Oc (bf rfl rfl) (af.ai ⟨[(0,_),(1,_),(9,_),(10,_),(11,_),(12,B (decide (x_1 < (s10.length:Int))))],[]⟩ rfl (ab.seq (ab.ite h4 rfl (fun _ h4=>?_) (fun _ h4=>?_))))
  ·refine ab.skip (Fin.ag ⟨[(0,_),(1,_),(9,_),(10,_),(11,_)],[]⟩ rfl (Fin.then (ab.seq (ab.block (ab.seq (ab.aa ?_))))))
   refine Oc om ?_
   obtain ⟨x_2,e6,h4⟩:=aM h4
   refine Oc (bA cp (a6 e6) (cM (e:=eI) e6) rfl rfl) (Oc (ax aK rfl rfl) (Oc oa (Oc oa ?_)))
   refine af.ai ⟨[(0,_),(1,_),(5,I x_1),(6,I x_2),(9,_),(10,_),(11,_)],[]⟩ rfl (ab.seq (ab.seq (ab.aa ?_)))
   refine Oc om (Oc om (Oc (bR eZ rfl (List.length_map _)) (Oc (nf rfl rfl) ?_)))
   refine af.ai ⟨[(0,_),(1,_),(5,_),(6,_),(9,_),(10,_),(11,_),(19,B (decide ((s20.length:Int) ≤ x_1)))],[]⟩ rfl (ab.ite h4 rfl (fun _ h4=>?_) (fun _ h4=>?_))
   ·refine ab.seq (ab.aa ?_)
    refine Oc oa (af.ai ⟨[(4,I 1)],[]⟩ rfl (ab.ret (Fin.av (Fin.aS (Fin.av ?_)))))
    obtain rfl:=hy5 _ (Option.some.inj h4).symm
    refine Fin.av (Fin.aS (Fin.av ?_))
    obtain rfl:=Option.some.inj h
    refine Fin.ag ⟨[(4,_)],[]⟩ rfl (Fin.au [.one (.i 1)] (.inl rfl) rfl (.cons (.tmp rfl) .nil) ⟨rfl,rfl⟩)
   ·refine ab.skip (Fin.ag ⟨[(0,_),(1,_),(5,_),(6,_),(9,_),(10,_),(11,_)],[]⟩ rfl (Fin.then (ab.seq (ab.aa ?_))))
    refine Oc om (Oc om ?_)
    obtain ⟨x_3,e7,h4⟩:=aM h4
    refine Oc (bA cp (a6 e7) (cM (e:=eI) e7) rfl rfl) (Oc (ax aK rfl rfl) (Oc oa ?_))
    refine af.ai ⟨[(0,_),(1,_),(6,_),(7,I x_3),(9,_),(10,_),(11,_)],[]⟩ rfl (ab.seq (ab.aa ?_))
    refine Oc om (Oc om ?_)
    obtain ⟨x_4,e8,h4⟩:=aM h4
    refine Oc (aj (fB e8) qC rfl rfl) (Oc oa ?_)
    refine af.ai ⟨[(0,_),(1,_),(8,I x_4),(9,_),(10,_),(11,_)],[]⟩ rfl (ab.seq (ab.aa ?_))
    refine Oc om (Oc (jz rfl rfl) ?_)
    refine af.ai ⟨[(0,_),(1,_),(8,_),(9,_),(10,_),(11,_),(28,B (decide (x_4 ≠ 0)))],[]⟩ rfl (ab.ite h4 rfl (fun _ h4=>?_) (fun _ h4=>?_))
    ·refine ab.seq (ab.aa ?_)
     refine Oc om (Oc oa ?_)
     refine af.ai ⟨[(4,I x_4)],[]⟩ rfl (ab.ret (Fin.aS (Fin.av ?_)))
     obtain rfl:=hy5 _ (Option.some.inj h4).symm
     refine Fin.av (Fin.aS (Fin.av ?_))
     obtain rfl:=Option.some.inj h
     refine Fin.ag ⟨[(4,_)],[]⟩ rfl (Fin.au [.one (.i x_4)] (.inl rfl) rfl (.cons (.tmp rfl) .nil) ⟨rfl,rfl⟩)
    ·refine ab.skip (Fin.az (Fin.ag ⟨[(0,_),(1,_),(9,_),(10,_),(11,_)],[]⟩ rfl (Fin.then (ab.aa ?_))))
     refine Oc (bK rfl rfl) (Oc om ?_)
     refine af.nil ?_
     exact Fin.cu [0,1,9,10,11] [] (IntKind.i64.wrap (x_1 + 1)) (Option.some.inj h4) rfl
  ·refine ab.exit (Fin.aC ?_)
   obtain rfl:=hy5 _ (Option.some.inj h4).symm
   refine Fin.aC (Fin.aY ?_)
   exact Fin.join [0,1] [] () rfl rfl
 ·rintro _ hv
  subst v1
  refine ab.seq (ab.seq (ab.aa ?_))
  refine Oc om (Oc (bR eZ rfl (List.length_map _)) (Oc om (Oc (bR eZ rfl (List.length_map _)) (Oc (bf rfl rfl) ?_))))
  refine af.ai ⟨[(35,B (decide ((s10.length:Int) < (s20.length:Int))))],[]⟩ rfl (ab.ite h rfl (fun _ h=>?_) (fun _ h=>?_))
  ·refine ab.seq (ab.aa ?_)
   refine Oc oa (af.ai ⟨[(4,I (-1))],[]⟩ rfl (ab.ret (Fin.av ?_)))
   obtain rfl:=Option.some.inj h
   refine Fin.ag ⟨[(4,_)],[]⟩ rfl (Fin.au [.one (.i (-1))] (.inl rfl) rfl (.cons (.tmp rfl) .nil) ⟨rfl,rfl⟩)
  ·refine ab.skip (Fin.ag ⟨[],[]⟩ rfl (Fin.then (ab.seq (ab.aa ?_))))
   refine Oc oa (af.ai ⟨[(4,I 0)],[]⟩ rfl (ab.ret ?_))
   obtain rfl:=Option.some.inj h
   refine Fin.ag ⟨[(4,_)],[]⟩ rfl (Fin.au [.one (.i 0)] (.inl rfl) rfl (.cons (.tmp rfl) .nil) ⟨rfl,rfl⟩)
def jH (F:Nat) (vals0:List Int):Option Int :=
 Option.bind (iter F (fun x_1=>if (decide (x_1 < (vals0.length:Int))) = true then ((bb vals0 x_1).bind fun x_2=>if (decide (x_2 ≠ 0)) = true then (some (.inr (.inr x_2))) else (some (.inl (IntKind.i64.wrap (x_1 + 1))))) else (some (.inr (.inl ())))) 0) (ct (fun _=>some 0) (fun y=>some y))
theorem qg {F:Nat} {vals0:List Int} {r:Int} (h:jH F vals0 = some r):aq Tryz.prog [] 52 [] [.one (.sl 1 (vals0.map eI))] (Is [] (.b (.one (.i r)))):=by
 unfold jH at h
 refine aq.intro 18 Tryz.func52 Tryz.ntmps52 rfl (by simp) fun E=>?_
 show ab _ E ⟨18,[],[],[]⟩ _ ⟨[(0,.b (.one (.sl 1 (vals0.map eI))))],[]⟩ _
 refine ab.seq (ab.aa ?_)
 refine Oc oa (af.ai ⟨[(0,.b (.one (.sl 1 (vals0.map eI))))],[]⟩ rfl (ab.seq (ab.aa ?_)))
 refine Oc oa (af.ai ⟨[(0,_),(3,I 0)],[]⟩ rfl ?_)
 obtain ⟨v1,h2,h⟩:=aM h
 refine ab.dX (v:=v1) (fun (_:Unit)=>⟨[(3,I 0)],[]⟩) (fun z=>.inl z) ?_ ?_
 ·refine ab.seq (ab.aa ?_)
  refine Oc om (Oc (bR eZ rfl (List.length_map _)) (Oc om ?_))
  refine af.ai ⟨[(3,_),(6,.b (.one (.sl 1 (vals0.map eI)))),(7,I (vals0.length:Int)),(8,I 0)],[]⟩ rfl (ab.block (ab.c6 h2 (fun (x_1:Int)=>⟨[(3,I 0),(6,.b (.one (.sl 1 (vals0.map eI)))),(7,I (vals0.length:Int)),(8,I x_1)],[]⟩) [3,6,7,8] [] rfl ?_))
  rintro x_1 o3 h4 hy5
  refine ab.seq (ab.aa ?_)
  refine Oc (bf rfl rfl) (af.ai ⟨[(3,_),(6,_),(7,_),(8,_),(9,B (decide (x_1 < (vals0.length:Int))))],[]⟩ rfl (ab.seq (ab.ite h4 rfl (fun _ h4=>?_) (fun _ h4=>?_))))
  ·refine ab.skip (Fin.ag ⟨[(3,_),(6,_),(7,_),(8,_)],[]⟩ rfl (Fin.then (ab.seq (ab.block (ab.seq (ab.aa ?_))))))
   obtain ⟨x_2,e6,h4⟩:=aM h4
   refine Oc (bA cp (a6 e6) (cM (e:=eI) e6) rfl rfl) (Oc (ax aK rfl rfl) (Oc oa ?_))
   refine af.ai ⟨[(3,_),(5,I x_2),(6,_),(7,_),(8,_)],[]⟩ rfl (ab.seq (ab.aa ?_))
   refine Oc om (Oc om (Oc (jz rfl rfl) ?_))
   refine af.ai ⟨[(3,_),(5,_),(6,_),(7,_),(8,_),(14,B (decide (x_2 ≠ 0)))],[]⟩ rfl (ab.ite h4 rfl (fun _ h4=>?_) (fun _ h4=>?_))
   ·refine ab.seq (ab.aa ?_)
    refine Oc om (Oc oa ?_)
    refine af.ai ⟨[(2,I x_2)],[]⟩ rfl (ab.ret (Fin.aS (Fin.av ?_)))
    obtain rfl:=hy5 _ (Option.some.inj h4).symm
    refine Fin.av (Fin.aS (Fin.av ?_))
    obtain rfl:=Option.some.inj h
    refine Fin.ag ⟨[(2,_)],[]⟩ rfl (Fin.au [.one (.i x_2)] (.inl rfl) rfl (.cons (.tmp rfl) .nil) ⟨rfl,rfl⟩)
   ·refine ab.skip (Fin.az (Fin.ag ⟨[(3,_),(6,_),(7,_),(8,_)],[]⟩ rfl (Fin.then (ab.aa ?_))))
    refine Oc (bK rfl rfl) (Oc om ?_)
    refine af.nil ?_
    exact Fin.cu [3,6,7,8] [] (IntKind.i64.wrap (x_1 + 1)) (Option.some.inj h4) rfl
  ·refine ab.exit (Fin.aC ?_)
   obtain rfl:=hy5 _ (Option.some.inj h4).symm
   refine Fin.aC (Fin.aY ?_)
   exact Fin.join [3] [] () rfl rfl
 ·rintro _ hv
  subst v1
  refine ab.seq (ab.aa ?_)
  refine Oc om (Oc oa ?_)
  refine af.ai ⟨[(2,I 0)],[]⟩ rfl (ab.ret ?_)
  obtain rfl:=Option.some.inj h
  refine Fin.ag ⟨[(2,_)],[]⟩ rfl (Fin.au [.one (.i 0)] (.inl rfl) rfl (.cons (.tmp rfl) .nil) ⟨rfl,rfl⟩)
def fJ (F:Nat) (a0:entry) (b0:entry):Option Int :=
 (dg F a0.b.Lo.l b0.b.Lo.l).bind fun x_1=>(c5 F a0.id b0.id).bind fun x_2=>(jH F [x_1,x_2]).bind fun x_3=>some x_3
theorem mr {F:Nat} {a0:entry} {b0:entry} {r:Int} (h:fJ F a0 b0 = some r):aq Tryz.prog [] 51 [] [.agg (ar a0),.agg (ar b0)] (Is [] (.b (.one (.i r)))):=by
 unfold fJ at h
 refine aq.intro 19 Tryz.func51 Tryz.ntmps51 rfl (by simp) fun E=>?_
 show ab _ E ⟨19,[],[],[]⟩ _ ⟨[(0,.b (.agg (ar a0))),(1,.b (.agg (ar b0)))],[]⟩ _
 refine ab.seq (ab.aa ?_)
 refine Oc (lI rfl) (Oc (lI rfl) (Oc oa ?_))
 refine af.ai ⟨[(2,.b (.aN (ar a0))),(3,.b (.aN (ar b0)))],[]⟩ rfl (ab.seq ?_)
 obtain ⟨x_1,e1,h⟩:=aM h
 obtain ⟨x_2,e2,h⟩:=aM h
 obtain ⟨x_3,e3,h⟩:=aM h
 refine ab.bH mixed 15 [.b (.aN (ak a0.b)),.b (.aN (ak a0.b)),.b (.one (.sl 1 (a0.b.Lo.l.map eI))),.b (.aN (ak b0.b)),.b (.aN (ak b0.b)),.b (.one (.sl 1 (b0.b.Lo.l.map eI))),I x_1,.b (.aN (ar a0)),I a0.id,.b (.aN (ar b0)),I b0.id,I x_2,.b (.one (.sl 1 ([x_1,x_2].map eI))),I x_3,I x_3] [4] [] (s':=⟨[(4,I x_3)],[]⟩) rfl ⟨fun _=>by exact .p (aF gy rfl rfl),fun _=>by exact .p (aF bu rfl rfl),fun _=>.p (mJ (xs:=a0.b.Lo.l) (enc:=eI) a7 rfl rfl rfl (fun _=>rfl) (by rw [eO]; decide)),fun _=>by exact .p (aF gy rfl rfl),fun _=>by exact .p (aF bu rfl rfl),fun _=>.p (mJ (xs:=b0.b.Lo.l) (enc:=eI) a7 rfl rfl rfl (fun _=>rfl) (by rw [eO]; decide)),fun _=>.p (aj (ko e1) goes53 rfl rfl),fun _=>by exact .p (aF dC rfl rfl),fun _=>.p (ax aK rfl rfl),fun _=>by exact .p (aF dC rfl rfl),fun _=>.p (ax aK rfl rfl),fun _=>.p (aj (fB e2) qC rfl rfl),fun _=>.p (df (es:=[x_1,x_2].map eI) cp rfl rfl (cN fun _=>rfl) rfl (by decide) (by decide)),fun _=>.p (aj (qg e3) goes52 rfl rfl),fun _=>.p oa,trivial⟩ rfl rfl (ab.ret ?_)
 obtain rfl:=Option.some.inj h
 refine Fin.ag ⟨[(4,_)],[]⟩ rfl (Fin.au [.one (.i x_3)] (.inl rfl) rfl (.cons (.tmp rfl) .nil) ⟨rfl,rfl⟩)
def ff (F:Nat) (fn0:Nat) (a0:entry) (b0:entry):Option Int :=
 if fn0 = 50 then fK F a0 b0 else if fn0 = 51 then fJ F a0 b0 else none
theorem nL {F:Nat} {fn0:Nat} {a0:entry} {b0:entry} {r:Int} (h:ff F fn0 a0 b0 = some r):aq Tryz.prog [] fn0 [] [.agg (ar a0),.agg (ar b0)] (Is [] (.b (.one (.i r)))):=by
 unfold ff at h
 split at h
 ·next e=>subst e; exact mu h
 ·next=>
  split at h
  ·next e=>subst e; exact mr h
  ·next=>
   simp at h
theorem nM {F:Nat} {fn0:Nat} {a0:entry} {b0:entry} {r:Int} (h:ff F fn0 a0 b0 = some r):bm Tryz.prog fn0:=by
 unfold ff at h
 split at h
 ·next e=>subst e; exact goes50
 ·next=>
  split at h
  ·next e=>subst e; exact goes51
  ·next=>
   simp at h
theorem pX {F:Nat} {fn0:Nat} {a0:entry} {b0:entry} {r:Int} (h:ff F fn0 a0 b0 = some r):fn0 ≠ 0:=by
 rintro rfl
 exact absurd h (by simp [ff])
def bP (F:Nat) (b0:bz):Option Bool :=
 Option.bind (iter F (fun x_1=>if (decide (x_1 < 3)) = true then ((bb b0.Lo.l x_1).bind fun x_2=>(bb b0.Hi.l x_1).bind fun x_3=>(bF (!(decide (x_3 < x_2))) (bb b0.Lo.l x_1)).bind fun x_4=>(bF (!((decide (x_3 < x_2)) || (decide (x_4 < (-1125899906842624))))) (bb b0.Hi.l x_1)).bind fun x_5=>if (((decide (x_3 < x_2)) || (decide (x_4 < (-1125899906842624)))) || (decide (1125899906842624 < x_5))) = true then (some (.inr (.inr false))) else (some (.inl (IntKind.i64.wrap (x_1 + 1))))) else (some (.inr (.inl ())))) 0) (ct (fun _=>some true) (fun y=>some y))
theorem cx {F:Nat} {b0:bz} {r:Bool} (h:bP F b0 = some r):aq Tryz.prog [] 14 [] [.agg (ak b0)] (Is [] (.b (.one (.bool r)))):=by
 unfold bP at h
 refine aq.intro 31 Tryz.func14 Tryz.ntmps14 rfl (by simp) fun E=>?_
 show ab _ E ⟨31,[],[],[]⟩ _ ⟨[(0,.b (.agg (ak b0)))],[]⟩ _
 refine ab.seq (ab.aa ?_)
 refine Oc (bp (k:=101) rfl rfl) (Oc oa ?_)
 refine af.ai ⟨[(1,Pt 101 0)],[(101,.box 25 (ak b0))]⟩ rfl ?_
 obtain ⟨v1,h2,h⟩:=aM h
 refine ab.dX (v:=v1) (fun (_:Unit)=>⟨[],[]⟩) (fun z=>.inl z) ?_ ?_
 ·refine ab.seq (ab.aa ?_)
  refine Oc om (af.ai ⟨[(1,_),(4,I 0)],[(101,_)]⟩ rfl (ab.block (ab.c6 h2 (fun (x_1:Int)=>⟨[(1,Pt 101 0),(4,I x_1)],[(101,.box 25 (ak b0))]⟩) [1,4] [101] rfl ?_)))
  rintro x_1 o3 h4 hy5
  refine ab.seq (ab.aa ?_)
  refine Oc (bf rfl rfl) (af.ai ⟨[(1,_),(4,_),(5,B (decide (x_1 < 3)))],[(101,_)]⟩ rfl (ab.seq (ab.ite h4 rfl (fun _ h4=>?_) (fun _ h4=>?_))))
  ·refine ab.skip (Fin.ag ⟨[(1,_),(4,_)],[(101,_)]⟩ rfl (Fin.then (ab.seq (ab.block (ab.seq (ab.aa ?_))))))
   refine Oc om (Oc oa ?_)
   refine af.ai ⟨[(1,_),(3,I x_1),(4,_)],[(101,_)]⟩ rfl (ab.seq ?_)
   obtain ⟨x_2,e6,h4⟩:=aM h4
   obtain ⟨x_3,e7,h4⟩:=aM h4
   obtain ⟨x_4,e11,h4⟩:=aM h4
   obtain ⟨x_5,e17,h4⟩:=aM h4
   refine ab.bH mixed 23 [I x_1,Pt 101 0,.b (.ptr 101 (0 + (x_1:Int).toNat * 1)),I x_2,I x_1,Pt 101 3,.b (.ptr 101 (3 + (x_1:Int).toNat * 1)),I x_3,B (decide (x_3 < x_2)),B (decide (x_3 < x_2)),.opt (!(decide (x_3 < x_2))) (.one (.i x_1)),.opt (!(decide (x_3 < x_2))) (.ptr 101 0),.opt (!(decide (x_3 < x_2))) (.ptr 101 (0 + (x_1:Int).toNat * 1)),.opt (!(decide (x_3 < x_2))) (.one (.i x_4)),.opt (!(decide (x_3 < x_2))) (.one (.bool (decide (x_4 < (-1125899906842624))))),B ((decide (x_3 < x_2)) || (decide (x_4 < (-1125899906842624)))),B ((decide (x_3 < x_2)) || (decide (x_4 < (-1125899906842624)))),.opt (!((decide (x_3 < x_2)) || (decide (x_4 < (-1125899906842624))))) (.one (.i x_1)),.opt (!((decide (x_3 < x_2)) || (decide (x_4 < (-1125899906842624))))) (.ptr 101 3),.opt (!((decide (x_3 < x_2)) || (decide (x_4 < (-1125899906842624))))) (.ptr 101 (3 + (x_1:Int).toNat * 1)),.opt (!((decide (x_3 < x_2)) || (decide (x_4 < (-1125899906842624))))) (.one (.i x_5)),.opt (!((decide (x_3 < x_2)) || (decide (x_4 < (-1125899906842624))))) (.one (.bool (decide (1125899906842624 < x_5)))),B (((decide (x_3 < x_2)) || (decide (x_4 < (-1125899906842624)))) || (decide (1125899906842624 < x_5)))] [1,4,29] [101] (s':=⟨[(1,_),(4,_),(29,B (((decide (x_3 < x_2)) || (decide (x_4 < (-1125899906842624)))) || (decide (1125899906842624 < x_5))))],[(101,_)]⟩) rfl ⟨fun _=>.p om,fun _=>.p (an bu rfl rfl),fun _=>.p (aI a7 (a6 e6) (b6 e6) rfl rfl rfl),fun _=>.p (aE aK rfl rfl (bC (post:=((bI .i64) b0.Hi)) (k:=.i64) [] e6 rfl rfl rfl)),fun _=>.p om,fun _=>.p (an bt rfl rfl),fun _=>.p (aI a7 (a6 e7) (b6 e7) rfl rfl rfl),fun _=>.p (aE aK rfl rfl (bC (post:=[]) (k:=.i64) ((bI .i64) b0.Lo) e7 rfl rfl rfl)),fun _=>.p (hY rfl rfl),fun _=>.p om,fun _=>by exact .guard (!(decide (x_3 < x_2))) 1 [] (.plain rfl) (dn _) rfl rfl (fun g8=>trivial) (fun g8=>om),fun _=>by exact .guard (!(decide (x_3 < x_2))) 1 [] (.plain rfl) (dn _) rfl rfl (fun g9=>trivial) (fun g9=>an bu rfl rfl),fun _=>by exact .guard (!(decide (x_3 < x_2))) 3 [17,18] (.plain rfl) (dn _) rfl rfl (fun g10=>⟨g10,g10,trivial⟩) (fun g10=>aI a7 (a6 (gc e11 g10)) (b6 (gc e11 g10)) rfl rfl rfl),fun _=>by exact .guard (!(decide (x_3 < x_2))) 2 [19] (.plain rfl) (dn _) rfl rfl (fun g12=>⟨g12,trivial⟩) (fun g12=>aE aK rfl rfl (bC (post:=((bI .i64) b0.Hi)) (k:=.i64) [] (gc e11 g12) rfl rfl rfl)),fun _=>by exact .guard (!(decide (x_3 < x_2))) 2 [20] (.plain rfl) (dn _) rfl rfl (fun g13=>⟨g13,trivial⟩) (fun g13=>bf rfl rfl),fun _=>.p (bM (fun e=>by first | (rw [e]; rfl) | (simp only at e; rw [e]; rfl)) rfl rfl rfl rfl),fun _=>.p om,fun _=>by exact .guard (!((decide (x_3 < x_2)) || (decide (x_4 < (-1125899906842624))))) 1 [] (.plain rfl) (dn _) rfl rfl (fun g14=>trivial) (fun g14=>om),fun _=>by exact .guard (!((decide (x_3 < x_2)) || (decide (x_4 < (-1125899906842624))))) 1 [] (.plain rfl) (dn _) rfl rfl (fun g15=>trivial) (fun g15=>an bt rfl rfl),fun _=>by exact .guard (!((decide (x_3 < x_2)) || (decide (x_4 < (-1125899906842624))))) 3 [24,25] (.plain rfl) (dn _) rfl rfl (fun g16=>⟨g16,g16,trivial⟩) (fun g16=>aI a7 (a6 (gc e17 g16)) (b6 (gc e17 g16)) rfl rfl rfl),fun _=>by exact .guard (!((decide (x_3 < x_2)) || (decide (x_4 < (-1125899906842624))))) 2 [26] (.plain rfl) (dn _) rfl rfl (fun g18=>⟨g18,trivial⟩) (fun g18=>aE aK rfl rfl (bC (post:=[]) (k:=.i64) ((bI .i64) b0.Lo) (gc e17 g18) rfl rfl rfl)),fun _=>by exact .guard (!((decide (x_3 < x_2)) || (decide (x_4 < (-1125899906842624))))) 2 [27] (.plain rfl) (dn _) rfl rfl (fun g19=>⟨g19,trivial⟩) (fun g19=>hY rfl rfl),fun _=>.p (bM (fun e=>by first | (rw [e]; rfl) | (simp only at e; rw [e]; rfl)) rfl rfl rfl rfl),trivial⟩ rfl rfl ?_
   refine ab.ite h4 rfl (fun _ h4=>?_) (fun _ h4=>?_)
   ·refine ab.seq (ab.aa ?_)
    refine Oc oa (af.ai ⟨[(2,B false)],[]⟩ rfl (ab.ret (Fin.aS (Fin.av ?_))))
    obtain rfl:=hy5 _ (Option.some.inj h4).symm
    refine Fin.av (Fin.aS (Fin.av ?_))
    obtain rfl:=Option.some.inj h
    refine Fin.ag ⟨[(2,_)],[]⟩ rfl (Fin.au [.one (.bool false)] (.inl rfl) rfl (.cons (.tmp rfl) .nil) ⟨rfl,rfl⟩)
   ·refine ab.skip (Fin.az (Fin.ag ⟨[(1,_),(4,_)],[(101,_)]⟩ rfl (Fin.then (ab.aa ?_))))
    refine Oc (bK rfl rfl) (Oc om ?_)
    refine af.nil ?_
    exact Fin.cu [1,4] [101] (IntKind.i64.wrap (x_1 + 1)) (Option.some.inj h4) rfl
  ·refine ab.exit (Fin.aC ?_)
   obtain rfl:=hy5 _ (Option.some.inj h4).symm
   refine Fin.aC (Fin.aY ?_)
   exact Fin.join [] [] () rfl rfl
 ·rintro _ hv
  subst v1
  refine ab.seq (ab.aa ?_)
  refine Oc oa (af.ai ⟨[(2,B true)],[]⟩ rfl (ab.ret ?_))
  obtain rfl:=Option.some.inj h
  refine Fin.ag ⟨[(2,_)],[]⟩ rfl (Fin.au [.one (.bool true)] (.inl rfl) rfl (.cons (.tmp rfl) .nil) ⟨rfl,rfl⟩)
def fY (F:Nat) (b0:bz):Option Bool :=
 (bP F b0).bind fun x_1=>some (!x_1)
theorem lg {F:Nat} {b0:bz} {r:Bool} (h:fY F b0 = some r):aq Tryz.prog [] 41 [] [.agg (ak b0)] (Is [] (.b (.one (.bool r)))):=by
 unfold fY at h
 refine aq.intro 6 Tryz.func41 Tryz.ntmps41 rfl (by simp) fun E=>?_
 show ab _ E ⟨6,[],[],[]⟩ _ ⟨[(0,.b (.agg (ak b0)))],[]⟩ _
 refine ab.seq (ab.aa ?_)
 refine Oc (bp (k:=101) rfl rfl) (Oc oa ?_)
 refine af.ai ⟨[(1,Pt 101 0)],[(101,.box 25 (ak b0))]⟩ rfl (ab.seq (ab.aa ?_))
 refine Oc (lp ao) ?_
 obtain ⟨x_1,e1,h⟩:=aM h
 refine Oc (aj (cx e1) kW rfl rfl) (Oc (dp rfl) (Oc oa ?_))
 refine af.ai ⟨[(2,B (!x_1))],[]⟩ rfl (ab.ret ?_)
 obtain rfl:=Option.some.inj h
 refine Fin.ag ⟨[(2,_)],[]⟩ rfl (Fin.au [.one (.bool (!x_1))] (.inl rfl) rfl (.cons (.tmp rfl) .nil) ⟨rfl,rfl⟩)
def jI (F:Nat) (fn0:Nat) (b0:bz):Option Bool :=
 if fn0 = 41 then fY F b0 else none
theorem qh {F:Nat} {fn0:Nat} {b0:bz} {r:Bool} (h:jI F fn0 b0 = some r):aq Tryz.prog [] fn0 [] [.agg (ak b0)] (Is [] (.b (.one (.bool r)))):=by
 unfold jI at h
 split at h
 ·next e=>subst e; exact lg h
 ·next=>
  simp at h
theorem qi {F:Nat} {fn0:Nat} {b0:bz} {r:Bool} (h:jI F fn0 b0 = some r):bm Tryz.prog fn0:=by
 unfold jI at h
 split at h
 ·next e=>subst e; exact goes41
 ·next=>
  simp at h
def fX (F:Nat) (n0:cG bc):Option Bool :=
 some n0.cW
theorem lf {F:Nat} {n0:cG bc} {r:Bool} (h:fX F n0 = some r):aq Tryz.prog [] 123 [] [.one (.tr ae n0)] (Is [] (.b (.one (.bool r)))):=by
 unfold fX at h
 refine aq.intro 5 Tryz.func123 Tryz.ntmps123 rfl (by simp) fun E=>?_
 show ab _ E ⟨5,[],[],[]⟩ _ ⟨[(0,.b (.one (.tr ae n0)))],[]⟩ _
 refine ab.seq (ab.aa ?_)
 refine Oc oa (af.ai ⟨[(0,.b (.one (.tr ae n0)))],[]⟩ rfl (ab.seq (ab.aa ?_)))
 refine Oc om (Oc (eQ kQ rfl) (Oc oa ?_))
 refine af.ai ⟨[(2,B n0.cW)],[]⟩ rfl (ab.ret ?_)
 obtain rfl:=Option.some.inj h
 refine Fin.ag ⟨[(2,_)],[]⟩ rfl (Fin.au [.one (.bool n0.cW)] (.inl rfl) rfl (.cons (.tmp rfl) .nil) ⟨rfl,rfl⟩)
def gz (F:Nat) (fn0:Nat) (n0:cG bc):Option Bool :=
 if fn0 = 123 then fX F n0 else none
theorem lM {F:Nat} {fn0:Nat} {n0:cG bc} {r:Bool} (h:gz F fn0 n0 = some r):aq Tryz.prog [] fn0 [] [.one (.tr ae n0)] (Is [] (.b (.one (.bool r)))):=by
 unfold gz at h
 split at h
 ·next e=>subst e; exact lf h
 ·next=>
  simp at h
theorem lN {F:Nat} {fn0:Nat} {n0:cG bc} {r:Bool} (h:gz F fn0 n0 = some r):bm Tryz.prog fn0:=by
 unfold gz at h
 split at h
 ·next e=>subst e; exact goes123
 ·next=>
  simp at h
def dv (F:Nat) (b0:bz) (n0:Int):Option (bz × Int) :=
 (bP F b0).bind fun x_1=>er (((!x_1) || (decide (n0 < 0))) || (decide (2251799813685248 < n0))) fun x_2=>if x_2 = true then (some ((⟨A3.zero,A3.zero⟩:bz),1)) else (Option.bind (iter F (eW fun b_4 x_5=>if (decide (x_5 < 3)) = true then ((bb b_4.Lo.l x_5).bind fun x_7=>(bb b_4.Lo.l x_5).bind fun x_8=>(bb b_4.Hi.l x_5).bind fun x_9=>(bb b_4.Hi.l x_5).bind fun x_10=>some (.inl ((⟨b_4.Lo.set x_5 (IntKind.i64.wrap (x_7 - n0)),b_4.Hi.set x_5 (IntKind.i64.wrap (x_9 + n0))⟩:bz),IntKind.i64.wrap (x_5 + 1)))) else (some (.inr b_4))) (b0,0)) (fun b_3=>(bP F b_3).bind fun x_11=>if (!x_11) = true then (some ((⟨A3.zero,A3.zero⟩:bz),1)) else (some (b_3,0))))
theorem ga {F:Nat} {b0:bz} {n0:Int} {r:bz × Int} (h:dv F b0 n0 = some r):aq Tryz.prog [] 11 [] [.agg (ak b0),.one (.i n0)] (Is [] (.ek [.agg (ak r.1),.one (.i r.2)])):=by
 unfold dv at h
 refine aq.intro 44 Tryz.func11 Tryz.ntmps11 rfl (by simp) fun E=>?_
 show ab _ E ⟨44,[],[],[]⟩ _ ⟨[(0,.b (.agg (ak b0))),(1,I n0)],[]⟩ _
 refine ab.seq (ab.aa ?_)
 refine Oc (bp (k:=101) rfl rfl) (Oc (aW (k:=102) cQ rfl) (Oc oa ?_))
 refine af.ai ⟨[(1,I n0),(2,Pt 101 0),(4,Pt 102 0)],[(101,.box 25 (ak b0)),(102,.box 25 ((bI .i64) A3.zero ++ ((bI .i64) A3.zero)))]⟩ rfl (ab.seq (ab.seq (ab.aa ?_)))
 refine Oc (lp ao) ?_
 obtain ⟨x_1,e1,h⟩:=aM h
 refine Oc (aj (cx e1) kW rfl rfl) (Oc (dp rfl) (Oc om ?_))
 refine n3 (!(!x_1)) [] (fun g2=>trivial) (fun g2=>om) (af.ag ⟨[(1,_),(2,_),(4,_),(10,B (!x_1)),(11,.opt (!(!x_1)) (.one (.i n0)))],[(101,_),(102,_)]⟩ rfl (n3 (!(!x_1)) [11] (fun g3=>by exact ⟨g3,trivial⟩) (fun g3=>bf rfl rfl) (Oc (bM (fun e=>by first | (rw [e]; rfl) | (simp only at e; rw [e]; rfl)) rfl rfl rfl rfl) (Oc om ?_))))
 refine n3 (!((!x_1) || (decide (n0 < 0)))) [] (fun g4=>trivial) (fun g4=>om) (n3 (!((!x_1) || (decide (n0 < 0)))) [15] (fun g5=>by exact ⟨g5,trivial⟩) (fun g5=>hY rfl rfl) (af.mz h rfl (bM (fun e=>by first | (rw [e]; rfl) | (simp only at e; rw [e]; rfl)) rfl rfl rfl rfl) (fun x_2 h=>?_)))
 refine af.ai ⟨[(1,_),(2,_),(4,_),(17,B x_2)],[(101,_),(102,_)]⟩ rfl (ab.ite h rfl (fun _ h=>?_) (fun _ h=>?_))
 ·refine ab.seq (ab.aa ?_)
  refine Oc (cg iy rfl rfl) (Oc (aD ao rfl rfl rfl rfl (Nat.le_of_ble_eq_true rfl) rfl) (Oc oa ?_))
  refine af.ai ⟨[(4,_),(5,I 1)],[(102,_)]⟩ rfl (ab.ret (Fin.av ?_))
  obtain rfl:=Option.some.inj h
  refine Fin.ag ⟨[(4,_),(5,_)],[(102,_)]⟩ rfl (Fin.au [.agg ((bI .i64) A3.zero ++ ((bI .i64) A3.zero)),.one (.i 1)] (.inl rfl) rfl (.cons (.agg ao rfl rfl rfl rfl) (.cons (.tmp rfl) .nil)) ⟨rfl,rfl⟩)
 ·refine ab.skip (Fin.ag ⟨[(1,_),(2,_),(4,_)],[(101,_),(102,_)]⟩ rfl (Fin.then ?_))
  obtain ⟨v6,h7,h⟩:=aM h
  refine ab.dX (v:=v6) (fun (b_3:bz)=>⟨[(2,Pt 101 0),(4,Pt 102 0)],[(101,.box 25 (ak b_3)),(102,.box 25 ((bI .i64) A3.zero ++ ((bI .i64) A3.zero)))]⟩) (fun z=>z) ?_ ?_
  ·refine ab.seq (ab.aa ?_)
   refine Oc om (af.ai ⟨[(1,_),(2,_),(4,_),(19,I 0)],[(101,_),(102,_)]⟩ rfl (ab.block (ab.c6 h7 (eW fun (b_4:bz) (x_5:Int)=>⟨[(1,I n0),(2,Pt 101 0),(4,Pt 102 0),(19,I x_5)],[(101,.box 25 (ak b_4)),(102,.box 25 ((bI .i64) A3.zero ++ ((bI .i64) A3.zero)))]⟩) [1,2,4,19] [101,102] rfl ?_)))
   rintro ⟨b_4,x_5⟩ o8 h9 hy10
   refine ab.seq (ab.aa ?_)
   refine Oc (bf rfl rfl) (af.ai ⟨[(1,_),(2,_),(4,_),(19,_),(20,B (decide (x_5 < 3)))],[(101,_),(102,_)]⟩ rfl (ab.seq (ab.ite h9 rfl (fun _ h9=>?_) (fun _ h9=>?_))))
   ·refine ab.skip (Fin.ag ⟨[(1,_),(2,_),(4,_),(19,_)],[(101,_),(102,_)]⟩ rfl (Fin.then (ab.seq (ab.block (ab.seq (ab.aa ?_))))))
    refine Oc om (Oc oa ?_)
    refine af.ai ⟨[(1,_),(2,_),(4,_),(6,I x_5),(19,_)],[(101,_),(102,_)]⟩ rfl (ab.seq (ab.aa ?_))
    refine Oc om (Oc (an bu rfl rfl) ?_)
    obtain ⟨x_7,e11,h9⟩:=aM h9
    refine Oc (aI a7 (a6 e11) (b6 e11) rfl rfl rfl) (Oc (aE aK rfl rfl (bC (post:=((bI .i64) b_4.Hi)) (k:=.i64) [] e11 rfl rfl rfl)) (Oc om (Oc (qv rfl rfl) (Oc (an bu rfl rfl) ?_))))
    obtain ⟨x_8,e12,h9⟩:=aM h9
    refine Oc (aI a7 (a6 e12) (b6 e12) rfl rfl rfl) (Oc (cC aK rfl rfl rfl (jA (post:=((bI .i64) b_4.Hi)) (k:=.i64) [] e12 rfl rfl rfl) (gX (post:=((bI .i64) b_4.Hi)) (k:=.i64) [] e12 rfl rfl (A3.lv b_4.Lo x_5 (IntKind.i64.wrap (x_7 - n0))) rfl rfl)) ?_)
    refine af.ai ⟨[(1,_),(2,_),(4,_),(6,_),(19,_)],[(101,.box 25 ((bI .i64) (b_4.Lo.set x_5 (IntKind.i64.wrap (x_7 - n0))) ++ ((bI .i64) b_4.Hi))),(102,_)]⟩ rfl (ab.aa (Oc om (Oc (an bt rfl rfl) ?_)))
    obtain ⟨x_9,e13,h9⟩:=aM h9
    refine Oc (aI a7 (a6 e13) (b6 e13) rfl rfl rfl) (Oc (aE aK rfl rfl (bC (post:=[]) (k:=.i64) ((bI .i64) (b_4.Lo.set x_5 (IntKind.i64.wrap (x_7 - n0)))) e13 rfl rfl rfl)) (Oc om (Oc (bK rfl rfl) (Oc (an bt rfl rfl) ?_))))
    obtain ⟨x_10,e14,h9⟩:=aM h9
    refine Oc (aI a7 (a6 e14) (b6 e14) rfl rfl rfl) (Oc (cC aK rfl rfl rfl (jA (post:=[]) (k:=.i64) ((bI .i64) (b_4.Lo.set x_5 (IntKind.i64.wrap (x_7 - n0)))) e14 rfl rfl rfl) (gX (post:=[]) (k:=.i64) ((bI .i64) (b_4.Lo.set x_5 (IntKind.i64.wrap (x_7 - n0)))) e14 rfl rfl (A3.lv b_4.Hi x_5 (IntKind.i64.wrap (x_9 + n0))) rfl rfl)) ?_)
    refine af.nil (Fin.az (Fin.ag ⟨[(1,_),(2,_),(4,_),(19,_)],[(101,.box 25 ((bI .i64) (b_4.Lo.set x_5 (IntKind.i64.wrap (x_7 - n0))) ++ ((bI .i64) (b_4.Hi.set x_5 (IntKind.i64.wrap (x_9 + n0)))))),(102,_)]⟩ rfl (Fin.then (ab.aa ?_))))
    refine Oc (bK rfl rfl) (Oc om ?_)
    refine af.nil ?_
    exact Fin.cu [1,2,4,19] [101,102] ((⟨b_4.Lo.set x_5 (IntKind.i64.wrap (x_7 - n0)),b_4.Hi.set x_5 (IntKind.i64.wrap (x_9 + n0))⟩:bz),IntKind.i64.wrap (x_5 + 1)) (Option.some.inj h9) rfl
   ·refine ab.exit (Fin.aC ?_)
    obtain rfl:=hy10 _ (Option.some.inj h9).symm
    refine Fin.aC (Fin.aY ?_)
    exact Fin.join [2,4] [101,102] b_4 rfl rfl
  ·rintro b_3 hv
   subst v6
   refine ab.seq (ab.seq (ab.aa ?_))
   refine Oc (lp ao) ?_
   obtain ⟨x_11,e15,h⟩:=aM h
   refine Oc (aj (cx e15) kW rfl rfl) (Oc (dp rfl) ?_)
   refine af.ai ⟨[(2,_),(4,_),(41,B (!x_11))],[(101,_),(102,_)]⟩ rfl (ab.ite h rfl (fun _ h=>?_) (fun _ h=>?_))
   ·refine ab.seq (ab.aa ?_)
    refine Oc (cg iy rfl rfl) (Oc (aD ao rfl rfl rfl rfl (Nat.le_of_ble_eq_true rfl) rfl) (Oc oa ?_))
    refine af.ai ⟨[(4,_),(5,I 1)],[(102,_)]⟩ rfl (ab.ret (Fin.av ?_))
    obtain rfl:=Option.some.inj h
    refine Fin.ag ⟨[(4,_),(5,_)],[(102,_)]⟩ rfl (Fin.au [.agg ((bI .i64) A3.zero ++ ((bI .i64) A3.zero)),.one (.i 1)] (.inl rfl) rfl (.cons (.agg ao rfl rfl rfl rfl) (.cons (.tmp rfl) .nil)) ⟨rfl,rfl⟩)
   ·refine ab.skip (Fin.ag ⟨[(2,_),(4,_)],[(101,_),(102,_)]⟩ rfl (Fin.then (ab.seq (ab.aa ?_))))
    refine Oc (lp ao) (Oc (aD ao rfl rfl rfl rfl (Nat.le_of_ble_eq_true rfl) rfl) (Oc oa ?_))
    refine af.ai ⟨[(4,_),(5,I 0)],[(102,.box 25 (ak b_3))]⟩ rfl (ab.ret ?_)
    obtain rfl:=Option.some.inj h
    refine Fin.ag ⟨[(4,_),(5,_)],[(102,_)]⟩ rfl (Fin.au [.agg (ak b_3),.one (.i 0)] (.inl rfl) rfl (.cons (.agg ao rfl rfl rfl rfl) (.cons (.tmp rfl) .nil)) ⟨rfl,rfl⟩)
def bd (F:Nat) (b0:bz):Option Bool :=
 Option.bind (iter F (fun i_1=>if (decide (i_1 < 3)) = true then ((bb b0.Lo.l i_1).bind fun x_2=>(bb b0.Hi.l i_1).bind fun x_3=>(bF (!(decide (x_3 < x_2))) (bb b0.Lo.l i_1)).bind fun x_4=>(bF (!((decide (x_3 < x_2)) || (decide (x_4 < (-1125899906842624))))) (bb b0.Hi.l i_1)).bind fun x_5=>if (((decide (x_3 < x_2)) || (decide (x_4 < (-1125899906842624)))) || (decide (1125899906842624 < x_5))) = true then (some (.inr (.inr false))) else (some (.inl (IntKind.i64.wrap (i_1 + 1))))) else (some (.inr (.inl ())))) 0) (ct (fun _=>some true) (fun y=>some y))
theorem cB {F:Nat} {b0:bz} {r:Bool} (h:bd F b0 = some r):aq Tryz.prog [] 13 [] [.agg (ak b0)] (Is [] (.b (.one (.bool r)))):=by
 unfold bd at h
 refine aq.intro 31 Tryz.func13 Tryz.ntmps13 rfl (by simp) fun E=>?_
 show ab _ E ⟨31,[],[],[]⟩ _ ⟨[(0,.b (.agg (ak b0)))],[]⟩ _
 refine ab.seq (ab.aa ?_)
 refine Oc (bp (k:=101) rfl rfl) (Oc oa ?_)
 refine af.ai ⟨[(1,Pt 101 0)],[(101,.box 25 (ak b0))]⟩ rfl ?_
 obtain ⟨v1,h2,h⟩:=aM h
 refine ab.dX (v:=v1) (fun (_:Unit)=>⟨[],[]⟩) (fun z=>.inl z) ?_ ?_
 ·refine ab.seq (ab.aa ?_)
  refine Oc oa (af.ai ⟨[(1,_),(3,I 0)],[(101,_)]⟩ rfl (ab.block (ab.c6 h2 (fun (i_1:Int)=>⟨[(1,Pt 101 0),(3,I i_1)],[(101,.box 25 (ak b0))]⟩) [1,3] [101] rfl ?_)))
  rintro i_1 o3 h4 hy5
  refine ab.seq (ab.seq (ab.aa ?_))
  refine Oc om (Oc (bf rfl rfl) ?_)
  refine af.ai ⟨[(1,_),(3,_),(5,B (decide (i_1 < 3)))],[(101,_)]⟩ rfl (ab.ite h4 rfl (fun _ h4=>?_) (fun _ h4=>?_))
  ·refine ab.skip (Fin.ag ⟨[(1,_),(3,_)],[(101,_)]⟩ rfl (Fin.then (ab.seq (ab.block (ab.seq ?_)))))
   refine ab.ag ⟨[(1,_),(3,_)],[(101,_)]⟩ rfl ?_
   obtain ⟨x_2,e6,h4⟩:=aM h4
   obtain ⟨x_3,e7,h4⟩:=aM h4
   obtain ⟨x_4,e11,h4⟩:=aM h4
   obtain ⟨x_5,e17,h4⟩:=aM h4
   refine ab.bH mixed 23 [I i_1,Pt 101 0,.b (.ptr 101 (0 + (i_1:Int).toNat * 1)),I x_2,I i_1,Pt 101 3,.b (.ptr 101 (3 + (i_1:Int).toNat * 1)),I x_3,B (decide (x_3 < x_2)),B (decide (x_3 < x_2)),.opt (!(decide (x_3 < x_2))) (.one (.i i_1)),.opt (!(decide (x_3 < x_2))) (.ptr 101 0),.opt (!(decide (x_3 < x_2))) (.ptr 101 (0 + (i_1:Int).toNat * 1)),.opt (!(decide (x_3 < x_2))) (.one (.i x_4)),.opt (!(decide (x_3 < x_2))) (.one (.bool (decide (x_4 < (-1125899906842624))))),B ((decide (x_3 < x_2)) || (decide (x_4 < (-1125899906842624)))),B ((decide (x_3 < x_2)) || (decide (x_4 < (-1125899906842624)))),.opt (!((decide (x_3 < x_2)) || (decide (x_4 < (-1125899906842624))))) (.one (.i i_1)),.opt (!((decide (x_3 < x_2)) || (decide (x_4 < (-1125899906842624))))) (.ptr 101 3),.opt (!((decide (x_3 < x_2)) || (decide (x_4 < (-1125899906842624))))) (.ptr 101 (3 + (i_1:Int).toNat * 1)),.opt (!((decide (x_3 < x_2)) || (decide (x_4 < (-1125899906842624))))) (.one (.i x_5)),.opt (!((decide (x_3 < x_2)) || (decide (x_4 < (-1125899906842624))))) (.one (.bool (decide (1125899906842624 < x_5)))),B (((decide (x_3 < x_2)) || (decide (x_4 < (-1125899906842624)))) || (decide (1125899906842624 < x_5)))] [1,3,30] [101] (s':=⟨[(1,_),(3,_),(30,B (((decide (x_3 < x_2)) || (decide (x_4 < (-1125899906842624)))) || (decide (1125899906842624 < x_5))))],[(101,_)]⟩) rfl ⟨fun _=>.p om,fun _=>.p (an bu rfl rfl),fun _=>.p (aI a7 (a6 e6) (b6 e6) rfl rfl rfl),fun _=>.p (aE aK rfl rfl (bC (post:=((bI .i64) b0.Hi)) (k:=.i64) [] e6 rfl rfl rfl)),fun _=>.p om,fun _=>.p (an bt rfl rfl),fun _=>.p (aI a7 (a6 e7) (b6 e7) rfl rfl rfl),fun _=>.p (aE aK rfl rfl (bC (post:=[]) (k:=.i64) ((bI .i64) b0.Lo) e7 rfl rfl rfl)),fun _=>.p (hY rfl rfl),fun _=>.p om,fun _=>by exact .guard (!(decide (x_3 < x_2))) 1 [] (.plain rfl) (dn _) rfl rfl (fun g8=>trivial) (fun g8=>om),fun _=>by exact .guard (!(decide (x_3 < x_2))) 1 [] (.plain rfl) (dn _) rfl rfl (fun g9=>trivial) (fun g9=>an bu rfl rfl),fun _=>by exact .guard (!(decide (x_3 < x_2))) 3 [18,19] (.plain rfl) (dn _) rfl rfl (fun g10=>⟨g10,g10,trivial⟩) (fun g10=>aI a7 (a6 (gc e11 g10)) (b6 (gc e11 g10)) rfl rfl rfl),fun _=>by exact .guard (!(decide (x_3 < x_2))) 2 [20] (.plain rfl) (dn _) rfl rfl (fun g12=>⟨g12,trivial⟩) (fun g12=>aE aK rfl rfl (bC (post:=((bI .i64) b0.Hi)) (k:=.i64) [] (gc e11 g12) rfl rfl rfl)),fun _=>by exact .guard (!(decide (x_3 < x_2))) 2 [21] (.plain rfl) (dn _) rfl rfl (fun g13=>⟨g13,trivial⟩) (fun g13=>bf rfl rfl),fun _=>.p (bM (fun e=>by first | (rw [e]; rfl) | (simp only at e; rw [e]; rfl)) rfl rfl rfl rfl),fun _=>.p om,fun _=>by exact .guard (!((decide (x_3 < x_2)) || (decide (x_4 < (-1125899906842624))))) 1 [] (.plain rfl) (dn _) rfl rfl (fun g14=>trivial) (fun g14=>om),fun _=>by exact .guard (!((decide (x_3 < x_2)) || (decide (x_4 < (-1125899906842624))))) 1 [] (.plain rfl) (dn _) rfl rfl (fun g15=>trivial) (fun g15=>an bt rfl rfl),fun _=>by exact .guard (!((decide (x_3 < x_2)) || (decide (x_4 < (-1125899906842624))))) 3 [25,26] (.plain rfl) (dn _) rfl rfl (fun g16=>⟨g16,g16,trivial⟩) (fun g16=>aI a7 (a6 (gc e17 g16)) (b6 (gc e17 g16)) rfl rfl rfl),fun _=>by exact .guard (!((decide (x_3 < x_2)) || (decide (x_4 < (-1125899906842624))))) 2 [27] (.plain rfl) (dn _) rfl rfl (fun g18=>⟨g18,trivial⟩) (fun g18=>aE aK rfl rfl (bC (post:=[]) (k:=.i64) ((bI .i64) b0.Lo) (gc e17 g18) rfl rfl rfl)),fun _=>by exact .guard (!((decide (x_3 < x_2)) || (decide (x_4 < (-1125899906842624))))) 2 [28] (.plain rfl) (dn _) rfl rfl (fun g19=>⟨g19,trivial⟩) (fun g19=>hY rfl rfl),fun _=>.p (bM (fun e=>by first | (rw [e]; rfl) | (simp only at e; rw [e]; rfl)) rfl rfl rfl rfl),trivial⟩ rfl rfl ?_
   refine ab.ite h4 rfl (fun _ h4=>?_) (fun _ h4=>?_)
   ·refine ab.seq (ab.aa ?_)
    refine Oc oa (af.ai ⟨[(2,B false)],[]⟩ rfl (ab.ret (Fin.aS (Fin.av ?_))))
    obtain rfl:=hy5 _ (Option.some.inj h4).symm
    refine Fin.av (Fin.aS (Fin.av ?_))
    obtain rfl:=Option.some.inj h
    refine Fin.ag ⟨[(2,_)],[]⟩ rfl (Fin.au [.one (.bool false)] (.inl rfl) rfl (.cons (.tmp rfl) .nil) ⟨rfl,rfl⟩)
   ·refine ab.skip (Fin.az (Fin.ag ⟨[(1,_),(3,_)],[(101,_)]⟩ rfl (Fin.then (ab.aa ?_))))
    refine Oc om (Oc (bK rfl rfl) (Oc oa ?_))
    refine af.nil ?_
    exact Fin.cu [1,3] [101] (IntKind.i64.wrap (i_1 + 1)) (Option.some.inj h4) rfl
  ·refine ab.exit (Fin.aC ?_)
   obtain rfl:=hy5 _ (Option.some.inj h4).symm
   refine Fin.aC (Fin.aY ?_)
   exact Fin.join [] [] () rfl rfl
 ·rintro _ hv
  subst v1
  refine ab.seq (ab.aa ?_)
  refine Oc oa (af.ai ⟨[(2,B true)],[]⟩ rfl (ab.ret ?_))
  obtain rfl:=Option.some.inj h
  refine Fin.ag ⟨[(2,_)],[]⟩ rfl (Fin.au [.one (.bool true)] (.inl rfl) rfl (.cons (.tmp rfl) .nil) ⟨rfl,rfl⟩)
def cE (F:Nat) (b0:bz) (n0:Int):Option (bz × Int) :=
 (bd F b0).bind fun x_1=>er (((!x_1) || (decide (n0 < 0))) || (decide (2251799813685248 < n0))) fun x_2=>if x_2 = true then (some ((⟨A3.zero,A3.zero⟩:bz),1)) else (Option.bind (iter F (eW fun out_4 i_5=>if (decide (i_5 < 3)) = true then ((bb b0.Lo.l i_5).bind fun x_7=>(bb out_4.Lo.l i_5).bind fun x_8=>(bb b0.Hi.l i_5).bind fun x_9=>(bb out_4.Hi.l i_5).bind fun x_10=>some (.inl ((⟨out_4.Lo.set i_5 (IntKind.i64.wrap (x_7 - n0)),out_4.Hi.set i_5 (IntKind.i64.wrap (x_9 + n0))⟩:bz),IntKind.i64.wrap (i_5 + 1)))) else (some (.inr out_4))) (b0,0)) (fun out_3=>(bd F out_3).bind fun x_11=>if (!x_11) = true then (some ((⟨A3.zero,A3.zero⟩:bz),1)) else (some (out_3,0))))
theorem iJ {F:Nat} {b0:bz} {n0:Int} {r:bz × Int} (h:cE F b0 n0 = some r):aq Tryz.prog [] 12 [] [.agg (ak b0),.one (.i n0)] (Is [] (.ek [.agg (ak r.1),.one (.i r.2)])):=by
 unfold cE at h
 refine aq.intro 52 Tryz.func12 Tryz.ntmps12 rfl (by simp) fun E=>?_
 show ab _ E ⟨52,[],[],[]⟩ _ ⟨[(0,.b (.agg (ak b0))),(1,I n0)],[]⟩ _
 refine ab.seq (ab.aa ?_)
 refine Oc (bp (k:=101) rfl rfl) (Oc (aW (k:=102) cQ rfl) (Oc oa ?_))
 refine af.ai ⟨[(1,I n0),(2,Pt 101 0),(4,Pt 102 0)],[(101,.box 25 (ak b0)),(102,.box 25 ((bI .i64) A3.zero ++ ((bI .i64) A3.zero)))]⟩ rfl (ab.seq (ab.aa ?_))
 refine Oc (lp ao) ?_
 obtain ⟨x_1,e1,h⟩:=aM h
 refine Oc (aj (cB e1) oP rfl rfl) (Oc oa ?_)
 refine af.ai ⟨[(1,_),(2,_),(4,_),(6,B x_1)],[(101,_),(102,_)]⟩ rfl (ab.seq (ab.seq (ab.aa ?_)))
 refine Oc om (Oc (dp rfl) (Oc om ?_))
 refine n3 (!(!x_1)) [] (fun g2=>trivial) (fun g2=>om) (n3 (!(!x_1)) [15] (fun g3=>by exact ⟨g3,trivial⟩) (fun g3=>bf rfl rfl) (Oc (bM (fun e=>by first | (rw [e]; rfl) | (simp only at e; rw [e]; rfl)) rfl rfl rfl rfl) (Oc om ?_)))
 refine af.ag ⟨[(1,_),(2,_),(4,_),(18,B ((!x_1) || (decide (n0 < 0))))],[(101,_),(102,_)]⟩ rfl (n3 (!((!x_1) || (decide (n0 < 0)))) [] (fun g4=>trivial) (fun g4=>om) (n3 (!((!x_1) || (decide (n0 < 0)))) [19] (fun g5=>by exact ⟨g5,trivial⟩) (fun g5=>hY rfl rfl) (af.mz h rfl (bM (fun e=>by first | (rw [e]; rfl) | (simp only at e; rw [e]; rfl)) rfl rfl rfl rfl) (fun x_2 h=>?_))))
 refine af.ai ⟨[(1,_),(2,_),(4,_),(21,B x_2)],[(101,_),(102,_)]⟩ rfl (ab.ite h rfl (fun _ h=>?_) (fun _ h=>?_))
 ·refine ab.seq (ab.aa ?_)
  refine Oc (cg iy rfl rfl) (Oc (aD ao rfl rfl rfl rfl (Nat.le_of_ble_eq_true rfl) rfl) (Oc oa ?_))
  refine af.ai ⟨[(4,_),(5,I 1)],[(102,_)]⟩ rfl (ab.ret (Fin.av ?_))
  obtain rfl:=Option.some.inj h
  refine Fin.ag ⟨[(4,_),(5,_)],[(102,_)]⟩ rfl (Fin.au [.agg ((bI .i64) A3.zero ++ ((bI .i64) A3.zero)),.one (.i 1)] (.inl rfl) rfl (.cons (.agg ao rfl rfl rfl rfl) (.cons (.tmp rfl) .nil)) ⟨rfl,rfl⟩)
 ·refine ab.skip (Fin.ag ⟨[(1,_),(2,_),(4,_)],[(101,_),(102,_)]⟩ rfl (Fin.then (ab.seq (ab.aa ?_))))
  refine Oc (lp ao) (Oc (aW (k:=103) cQ rfl) (Oc (aD ao rfl rfl rfl rfl (Nat.le_of_ble_eq_true rfl) rfl) ?_))
  refine af.ai ⟨[(1,_),(2,_),(4,_),(7,Pt 103 0)],[(101,_),(102,_),(103,.box 25 (ak b0))]⟩ rfl ?_
  obtain ⟨v6,h7,h⟩:=aM h
  refine ab.dX (v:=v6) (fun (out_3:bz)=>⟨[(4,Pt 102 0),(7,Pt 103 0)],[(102,.box 25 ((bI .i64) A3.zero ++ ((bI .i64) A3.zero))),(103,.box 25 (ak out_3))]⟩) (fun z=>z) ?_ ?_
  ·refine ab.seq (ab.aa ?_)
   refine Oc oa (af.ai ⟨[(1,_),(2,_),(4,_),(7,_),(8,I 0)],[(101,_),(102,_),(103,_)]⟩ rfl (ab.block (ab.c6 h7 (eW fun (out_4:bz) (i_5:Int)=>⟨[(1,I n0),(2,Pt 101 0),(4,Pt 102 0),(7,Pt 103 0),(8,I i_5)],[(101,.box 25 (ak b0)),(102,.box 25 ((bI .i64) A3.zero ++ ((bI .i64) A3.zero))),(103,.box 25 (ak out_4))]⟩) [1,2,4,7,8] [101,102,103] rfl ?_)))
   rintro ⟨out_4,i_5⟩ o8 h9 hy10
   refine ab.seq (ab.seq (ab.aa ?_))
   refine Oc om (Oc (bf rfl rfl) ?_)
   refine af.ai ⟨[(1,_),(2,_),(4,_),(7,_),(8,_),(25,B (decide (i_5 < 3)))],[(101,_),(102,_),(103,_)]⟩ rfl (ab.ite h9 rfl (fun _ h9=>?_) (fun _ h9=>?_))
   ·refine ab.skip (Fin.ag ⟨[(1,_),(2,_),(4,_),(7,_),(8,_)],[(101,_),(102,_),(103,_)]⟩ rfl (Fin.then (ab.seq (ab.block (ab.seq (ab.aa ?_))))))
    refine Oc om (Oc om (Oc (an bu rfl rfl) ?_))
    obtain ⟨x_7,e11,h9⟩:=aM h9
    refine Oc (aI a7 (a6 e11) (b6 e11) rfl rfl rfl) (Oc (aE aK rfl rfl (bC (post:=((bI .i64) b0.Hi)) (k:=.i64) [] e11 rfl rfl rfl)) (Oc om (Oc (qv rfl rfl) ?_)))
    refine af.ag ⟨[(1,_),(2,_),(4,_),(7,_),(8,_),(28,I i_5),(34,I (IntKind.i64.wrap (x_7 - n0)))],[(101,_),(102,_),(103,_)]⟩ rfl (Oc (an bu rfl rfl) ?_)
    obtain ⟨x_8,e12,h9⟩:=aM h9
    refine Oc (aI a7 (a6 e12) (b6 e12) rfl rfl rfl) (Oc (cC aK rfl rfl rfl (jA (post:=((bI .i64) out_4.Hi)) (k:=.i64) [] e12 rfl rfl rfl) (gX (post:=((bI .i64) out_4.Hi)) (k:=.i64) [] e12 rfl rfl (A3.lv out_4.Lo i_5 (IntKind.i64.wrap (x_7 - n0))) rfl rfl)) ?_)
    refine af.ai ⟨[(1,_),(2,_),(4,_),(7,_),(8,_)],[(101,_),(102,_),(103,.box 25 ((bI .i64) (out_4.Lo.set i_5 (IntKind.i64.wrap (x_7 - n0))) ++ ((bI .i64) out_4.Hi)))]⟩ rfl (ab.aa (Oc om (Oc om (Oc (an bt rfl rfl) ?_))))
    obtain ⟨x_9,e13,h9⟩:=aM h9
    refine Oc (aI a7 (a6 e13) (b6 e13) rfl rfl rfl) (Oc (aE aK rfl rfl (bC (post:=[]) (k:=.i64) ((bI .i64) b0.Lo) e13 rfl rfl rfl)) (Oc om (Oc (bK rfl rfl) ?_)))
    refine af.ag ⟨[(1,_),(2,_),(4,_),(7,_),(8,_),(37,I i_5),(43,I (IntKind.i64.wrap (x_9 + n0)))],[(101,_),(102,_),(103,_)]⟩ rfl (Oc (an bt rfl rfl) ?_)
    obtain ⟨x_10,e14,h9⟩:=aM h9
    refine Oc (aI a7 (a6 e14) (b6 e14) rfl rfl rfl) (Oc (cC aK rfl rfl rfl (jA (post:=[]) (k:=.i64) ((bI .i64) (out_4.Lo.set i_5 (IntKind.i64.wrap (x_7 - n0)))) e14 rfl rfl rfl) (gX (post:=[]) (k:=.i64) ((bI .i64) (out_4.Lo.set i_5 (IntKind.i64.wrap (x_7 - n0)))) e14 rfl rfl (A3.lv out_4.Hi i_5 (IntKind.i64.wrap (x_9 + n0))) rfl rfl)) ?_)
    refine af.nil (Fin.az (Fin.ag ⟨[(1,_),(2,_),(4,_),(7,_),(8,_)],[(101,_),(102,_),(103,.box 25 ((bI .i64) (out_4.Lo.set i_5 (IntKind.i64.wrap (x_7 - n0))) ++ ((bI .i64) (out_4.Hi.set i_5 (IntKind.i64.wrap (x_9 + n0))))))]⟩ rfl (Fin.then (ab.aa ?_))))
    refine Oc om (Oc (bK rfl rfl) (Oc oa ?_))
    refine af.nil ?_
    exact Fin.cu [1,2,4,7,8] [101,102,103] ((⟨out_4.Lo.set i_5 (IntKind.i64.wrap (x_7 - n0)),out_4.Hi.set i_5 (IntKind.i64.wrap (x_9 + n0))⟩:bz),IntKind.i64.wrap (i_5 + 1)) (Option.some.inj h9) rfl
   ·refine ab.exit (Fin.aC ?_)
    obtain rfl:=hy10 _ (Option.some.inj h9).symm
    refine Fin.aC (Fin.aY ?_)
    exact Fin.join [4,7] [102,103] out_4 rfl rfl
  ·rintro out_3 hv
   subst v6
   refine ab.seq (ab.aa ?_)
   refine Oc (lp ao) ?_
   obtain ⟨x_11,e15,h⟩:=aM h
   refine Oc (aj (cB e15) oP rfl rfl) (Oc oa ?_)
   refine af.ai ⟨[(4,_),(7,_),(9,B x_11)],[(102,_),(103,_)]⟩ rfl (ab.seq (ab.seq (ab.aa ?_)))
   refine Oc om (Oc (dp rfl) ?_)
   refine af.ai ⟨[(4,_),(7,_),(49,B (!x_11))],[(102,_),(103,_)]⟩ rfl (ab.ite h rfl (fun _ h=>?_) (fun _ h=>?_))
   ·refine ab.seq (ab.aa ?_)
    refine Oc (cg iy rfl rfl) (Oc (aD ao rfl rfl rfl rfl (Nat.le_of_ble_eq_true rfl) rfl) (Oc oa ?_))
    refine af.ai ⟨[(4,_),(5,I 1)],[(102,_)]⟩ rfl (ab.ret (Fin.av ?_))
    obtain rfl:=Option.some.inj h
    refine Fin.ag ⟨[(4,_),(5,_)],[(102,_)]⟩ rfl (Fin.au [.agg ((bI .i64) A3.zero ++ ((bI .i64) A3.zero)),.one (.i 1)] (.inl rfl) rfl (.cons (.agg ao rfl rfl rfl rfl) (.cons (.tmp rfl) .nil)) ⟨rfl,rfl⟩)
   ·refine ab.skip (Fin.ag ⟨[(4,_),(7,_)],[(102,_),(103,_)]⟩ rfl (Fin.then (ab.seq (ab.aa ?_))))
    refine Oc (lp ao) (Oc (aD ao rfl rfl rfl rfl (Nat.le_of_ble_eq_true rfl) rfl) (Oc oa ?_))
    refine af.ai ⟨[(4,_),(5,I 0)],[(102,.box 25 (ak out_3))]⟩ rfl (ab.ret ?_)
    obtain rfl:=Option.some.inj h
    refine Fin.ag ⟨[(4,_),(5,_)],[(102,_)]⟩ rfl (Fin.au [.agg (ak out_3),.one (.i 0)] (.inl rfl) rfl (.cons (.agg ao rfl rfl rfl rfl) (.cons (.tmp rfl) .nil)) ⟨rfl,rfl⟩)
def bU (F:Nat) (a0:Int) (b0:Int) (c0:Int) (d0:Int) (e0:Int) (f0:Int):Option bz :=
 er (⟨(⟨a0,b0,c0⟩:A3),(⟨d0,e0,f0⟩:A3)⟩:bz) fun x_1=>some x_1
theorem cm {F:Nat} {a0:Int} {b0:Int} {c0:Int} {d0:Int} {e0:Int} {f0:Int} {r:bz} (h:bU F a0 b0 c0 d0 e0 f0 = some r):aq Tryz.prog [] 39 [] [.one (.i a0),.one (.i b0),.one (.i c0),.one (.i d0),.one (.i e0),.one (.i f0)] (Is [] (.b (.agg (ak r)))):=by
 unfold bU at h
 refine aq.intro 22 Tryz.func39 Tryz.ntmps39 rfl (by simp) fun E=>?_
 show ab _ E ⟨22,[],[],[]⟩ _ ⟨[(0,I a0),(1,I b0),(2,I c0),(3,I d0),(4,I e0),(5,I f0)],[]⟩ _
 refine ab.seq (ab.aa ?_)
 refine Oc (aW (k:=101) cQ rfl) (af.ai ⟨[(0,I a0),(1,I b0),(2,I c0),(3,I d0),(4,I e0),(5,I f0),(12,Pt 101 0)],[(101,.box 25 ((bI .i64) A3.zero ++ ((bI .i64) A3.zero)))]⟩ rfl (ab.seq (ab.aa ?_)))
 refine Oc om (Oc om (Oc om (Oc (dD oi rfl rfl) (Oc om (Oc om ?_)))))
 refine Oc om (af.ag ⟨[(12,_),(16,.b (.agg [.i a0,.i b0,.i c0])),(17,I d0),(18,I e0),(19,I f0)],[(101,_)]⟩ rfl (Oc (dD oi rfl rfl) (af.ly ak h rfl (cg iy rfl rfl) (fun x_1 h=>?_))))
 refine Oc (aD ao rfl rfl rfl rfl (Nat.le_of_ble_eq_true rfl) rfl) (af.ai ⟨[(12,_)],[(101,.box 25 (ak x_1))]⟩ rfl (ab.ret ?_))
 obtain rfl:=Option.some.inj h
 refine Fin.ag ⟨[(12,_)],[(101,_)]⟩ rfl (Fin.au [.agg (ak x_1)] (.inl rfl) rfl (.cons (.agg ao rfl rfl rfl rfl) .nil) ⟨rfl,rfl⟩)
def b9 (F:Nat) (a0:bz) (b0:bz):Option Bool :=
 Option.bind (iter F (fun x_1=>if (decide (x_1 < 3)) = true then ((bb a0.Hi.l x_1).bind fun x_2=>(bb b0.Lo.l x_1).bind fun x_3=>(bF (!(decide (x_2 < x_3))) (bb b0.Hi.l x_1)).bind fun x_4=>(bF (!(decide (x_2 < x_3))) (bb a0.Lo.l x_1)).bind fun x_5=>if ((decide (x_2 < x_3)) || (decide (x_4 < x_5))) = true then (some (.inr (.inr false))) else (some (.inl (IntKind.i64.wrap (x_1 + 1))))) else (some (.inr (.inl ())))) 0) (ct (fun _=>some true) (fun y=>some y))
theorem cH {F:Nat} {a0:bz} {b0:bz} {r:Bool} (h:b9 F a0 b0 = some r):aq Tryz.prog [] 16 [] [.agg (ak a0),.agg (ak b0)] (Is [] (.b (.one (.bool r)))):=by
 unfold b9 at h
 refine aq.intro 30 Tryz.func16 Tryz.ntmps16 rfl (by simp) fun E=>?_
 show ab _ E ⟨30,[],[],[]⟩ _ ⟨[(0,.b (.agg (ak a0))),(1,.b (.agg (ak b0)))],[]⟩ _
 refine ab.seq (ab.aa ?_)
 refine Oc (bp (k:=101) rfl rfl) (Oc (bp (k:=102) rfl rfl) (Oc oa ?_))
 refine af.ai ⟨[(2,Pt 101 0),(3,Pt 102 0)],[(101,.box 25 (ak a0)),(102,.box 25 (ak b0))]⟩ rfl ?_
 obtain ⟨v1,h2,h⟩:=aM h
 refine ab.dX (v:=v1) (fun (_:Unit)=>⟨[],[]⟩) (fun z=>.inl z) ?_ ?_
 ·refine ab.seq (ab.aa ?_)
  refine Oc om (af.ai ⟨[(2,_),(3,_),(6,I 0)],[(101,_),(102,_)]⟩ rfl (ab.block (ab.c6 h2 (fun (x_1:Int)=>⟨[(2,Pt 101 0),(3,Pt 102 0),(6,I x_1)],[(101,.box 25 (ak a0)),(102,.box 25 (ak b0))]⟩) [2,3,6] [101,102] rfl ?_)))
  rintro x_1 o3 h4 hy5
  refine ab.seq (ab.aa ?_)
  refine Oc (bf rfl rfl) (af.ai ⟨[(2,_),(3,_),(6,_),(7,B (decide (x_1 < 3)))],[(101,_),(102,_)]⟩ rfl (ab.seq (ab.ite h4 rfl (fun _ h4=>?_) (fun _ h4=>?_))))
  ·refine ab.skip (Fin.ag ⟨[(2,_),(3,_),(6,_)],[(101,_),(102,_)]⟩ rfl (Fin.then (ab.seq (ab.block (ab.seq (ab.aa ?_))))))
   refine Oc om (Oc oa ?_)
   refine af.ai ⟨[(2,_),(3,_),(5,I x_1),(6,_)],[(101,_),(102,_)]⟩ rfl (ab.seq ?_)
   obtain ⟨x_2,e6,h4⟩:=aM h4
   obtain ⟨x_3,e7,h4⟩:=aM h4
   obtain ⟨x_4,e11,h4⟩:=aM h4
   obtain ⟨x_5,e16,h4⟩:=aM h4
   refine ab.bH mixed 20 [I x_1,Pt 101 3,.b (.ptr 101 (3 + (x_1:Int).toNat * 1)),I x_2,I x_1,Pt 102 0,.b (.ptr 102 (0 + (x_1:Int).toNat * 1)),I x_3,B (decide (x_2 < x_3)),B (decide (x_2 < x_3)),.opt (!(decide (x_2 < x_3))) (.one (.i x_1)),.opt (!(decide (x_2 < x_3))) (.ptr 102 3),.opt (!(decide (x_2 < x_3))) (.ptr 102 (3 + (x_1:Int).toNat * 1)),.opt (!(decide (x_2 < x_3))) (.one (.i x_4)),.opt (!(decide (x_2 < x_3))) (.one (.i x_1)),.opt (!(decide (x_2 < x_3))) (.ptr 101 0),.opt (!(decide (x_2 < x_3))) (.ptr 101 (0 + (x_1:Int).toNat * 1)),.opt (!(decide (x_2 < x_3))) (.one (.i x_5)),.opt (!(decide (x_2 < x_3))) (.one (.bool (decide (x_4 < x_5)))),B ((decide (x_2 < x_3)) || (decide (x_4 < x_5)))] [2,3,6,28] [101,102] (s':=⟨[(2,_),(3,_),(6,_),(28,B ((decide (x_2 < x_3)) || (decide (x_4 < x_5))))],[(101,_),(102,_)]⟩) rfl ⟨fun _=>.p om,fun _=>.p (an bt rfl rfl),fun _=>.p (aI a7 (a6 e6) (b6 e6) rfl rfl rfl),fun _=>.p (aE aK rfl rfl (bC (post:=[]) (k:=.i64) ((bI .i64) a0.Lo) e6 rfl rfl rfl)),fun _=>.p om,fun _=>.p (an bu rfl rfl),fun _=>.p (aI a7 (a6 e7) (b6 e7) rfl rfl rfl),fun _=>.p (aE aK rfl rfl (bC (post:=((bI .i64) b0.Hi)) (k:=.i64) [] e7 rfl rfl rfl)),fun _=>.p (bf rfl rfl),fun _=>.p om,fun _=>by exact .guard (!(decide (x_2 < x_3))) 1 [] (.plain rfl) (dn _) rfl rfl (fun g8=>trivial) (fun g8=>om),fun _=>by exact .guard (!(decide (x_2 < x_3))) 1 [] (.plain rfl) (dn _) rfl rfl (fun g9=>trivial) (fun g9=>an bt rfl rfl),fun _=>by exact .guard (!(decide (x_2 < x_3))) 3 [19,20] (.plain rfl) (dn _) rfl rfl (fun g10=>⟨g10,g10,trivial⟩) (fun g10=>aI a7 (a6 (gc e11 g10)) (b6 (gc e11 g10)) rfl rfl rfl),fun _=>by exact .guard (!(decide (x_2 < x_3))) 2 [21] (.plain rfl) (dn _) rfl rfl (fun g12=>⟨g12,trivial⟩) (fun g12=>aE aK rfl rfl (bC (post:=[]) (k:=.i64) ((bI .i64) b0.Lo) (gc e11 g12) rfl rfl rfl)),fun _=>by exact .guard (!(decide (x_2 < x_3))) 1 [] (.plain rfl) (dn _) rfl rfl (fun g13=>trivial) (fun g13=>om),fun _=>by exact .guard (!(decide (x_2 < x_3))) 1 [] (.plain rfl) (dn _) rfl rfl (fun g14=>trivial) (fun g14=>an bu rfl rfl),fun _=>by exact .guard (!(decide (x_2 < x_3))) 3 [23,24] (.plain rfl) (dn _) rfl rfl (fun g15=>⟨g15,g15,trivial⟩) (fun g15=>aI a7 (a6 (gc e16 g15)) (b6 (gc e16 g15)) rfl rfl rfl),fun _=>by exact .guard (!(decide (x_2 < x_3))) 2 [25] (.plain rfl) (dn _) rfl rfl (fun g17=>⟨g17,trivial⟩) (fun g17=>aE aK rfl rfl (bC (post:=((bI .i64) a0.Hi)) (k:=.i64) [] (gc e16 g17) rfl rfl rfl)),fun _=>by exact .guard (!(decide (x_2 < x_3))) 3 [22,26] (.plain rfl) (dn _) rfl rfl (fun g18=>⟨g18,g18,trivial⟩) (fun g18=>bf rfl rfl),fun _=>.p (bM (fun e=>by first | (rw [e]; rfl) | (simp only at e; rw [e]; rfl)) rfl rfl rfl rfl),trivial⟩ rfl rfl ?_
   refine ab.ite h4 rfl (fun _ h4=>?_) (fun _ h4=>?_)
   ·refine ab.seq (ab.aa ?_)
    refine Oc oa (af.ai ⟨[(4,B false)],[]⟩ rfl (ab.ret (Fin.aS (Fin.av ?_))))
    obtain rfl:=hy5 _ (Option.some.inj h4).symm
    refine Fin.av (Fin.aS (Fin.av ?_))
    obtain rfl:=Option.some.inj h
    refine Fin.ag ⟨[(4,_)],[]⟩ rfl (Fin.au [.one (.bool false)] (.inl rfl) rfl (.cons (.tmp rfl) .nil) ⟨rfl,rfl⟩)
   ·refine ab.skip (Fin.az (Fin.ag ⟨[(2,_),(3,_),(6,_)],[(101,_),(102,_)]⟩ rfl (Fin.then (ab.aa ?_))))
    refine Oc (bK rfl rfl) (Oc om ?_)
    refine af.nil ?_
    exact Fin.cu [2,3,6] [101,102] (IntKind.i64.wrap (x_1 + 1)) (Option.some.inj h4) rfl
  ·refine ab.exit (Fin.aC ?_)
   obtain rfl:=hy5 _ (Option.some.inj h4).symm
   refine Fin.aC (Fin.aY ?_)
   exact Fin.join [] [] () rfl rfl
 ·rintro _ hv
  subst v1
  refine ab.seq (ab.aa ?_)
  refine Oc oa (af.ai ⟨[(4,B true)],[]⟩ rfl (ab.ret ?_))
  obtain rfl:=Option.some.inj h
  refine Fin.ag ⟨[(4,_)],[]⟩ rfl (Fin.au [.one (.bool true)] (.inl rfl) rfl (.cons (.tmp rfl) .nil) ⟨rfl,rfl⟩)
def dw (F:Nat) (n0:cG bc) (v0c:bz):Option Bool :=
 Option.bind (iK n0) (fun nd_1=>(b9 F nd_1.1.cover v0c).bind fun x_2=>some x_2)
theorem jo {F:Nat} {n0:cG bc} {v0c:bz} {r:Bool} (h:dw F n0 v0c = some r):aq Tryz.prog [] 74 [] [.one (.tr ae n0),.aN (ak v0c)] (Is [] (.b (.one (.bool r)))):=by
 unfold dw at h
 refine aq.intro 10 Tryz.func74 Tryz.ntmps74 rfl (by simp) fun E=>?_
 show ab _ E ⟨10,[],[],[]⟩ _ ⟨[(0,.b (.one (.tr ae n0))),(1,.b (.aN (ak v0c)))],[]⟩ _
 refine ab.seq (ab.aa ?_)
 refine Oc oa (af.ai ⟨[(0,.b (.one (.tr ae n0))),(1,.b (.aN (ak v0c)))],[]⟩ rfl (ab.seq ?_))
 obtain ⟨nd_1,e1,h⟩:=aM h
 obtain ⟨x_2,e2,h⟩:=aM h
 refine ab.bH mixed 7 [.b (.one (.tr ae n0)),.b (.aN (ar nd_1.1.x ++ (.int .u64 nd_1.1.priority :: (ak nd_1.1.cover ++ ([.tr ae nd_1.2.1,.tr ae nd_1.2.2]))))),.b (.aN (ak nd_1.1.cover ++ ([.tr ae nd_1.2.1,.tr ae nd_1.2.2]))),.b (.agg (ak nd_1.1.cover)),.b (.agg (ak v0c)),B x_2,B x_2] [3] [] (s':=⟨[(3,B x_2)],[]⟩) rfl ⟨fun _=>.p om,fun _=>.p (aG e1 rfl rfl),fun _=>by exact .p (aF iS rfl rfl),fun _=>.p (cw ao rfl rfl rfl),fun _=>.p (cw ao rfl rfl rfl),fun _=>.p (aj (cH e2) kV rfl rfl),fun _=>.p oa,trivial⟩ rfl rfl (ab.ret ?_)
 obtain rfl:=Option.some.inj h
 refine Fin.ag ⟨[(3,_)],[]⟩ rfl (Fin.au [.one (.bool x_2)] (.inl rfl) rfl (.cons (.tmp rfl) .nil) ⟨rfl,rfl⟩)
def jR (F:Nat) (a00:cG bc):Option Bool :=
 some true
theorem lR {F:Nat} {a00:cG bc} {r:Bool} (h:jR F a00 = some r):aq Tryz.prog [] 58 [] [.one (.tr ae a00)] (Is [] (.b (.one (.bool r)))):=by
 unfold jR at h
 refine aq.intro 3 Tryz.func58 Tryz.ntmps58 rfl (by simp) fun E=>?_
 show ab _ E ⟨3,[],[],[]⟩ _ ⟨[(0,.b (.one (.tr ae a00)))],[]⟩ _
 refine ab.seq (ab.aa ?_)
 refine Oc oa (af.ai ⟨[],[]⟩ rfl (ab.seq (ab.aa ?_)))
 refine Oc oa (af.ai ⟨[(2,B true)],[]⟩ rfl (ab.ret ?_))
 obtain rfl:=Option.some.inj h
 refine Fin.ag ⟨[(2,_)],[]⟩ rfl (Fin.au [.one (.bool true)] (.inl rfl) rfl (.cons (.tmp rfl) .nil) ⟨rfl,rfl⟩)
section
variable {P:Program} {TB:aT} {m:Nat} {s:St} {ops:Array Oper} {l:List Oper} {Q:bE} {o:Oper}
theorem kj {E:Env TB} {d:Nat} (K:Bool → PH → World → Prop) (hK:∀ b h w,K b h w → je h w ∧ cq TB h w) (hown:s.own = []) (hdm:d < m)
    (hop:∀ a w h ρ,WR E ⟨m,[],[],[]⟩ [] h ρ w → aP h ρ s.slots a.tmps → ∀ (K':Act → World → Prop),(∀ b h' w',h.le h' → K b h' w' → K' (a.put (some d) (.bool b)) w') → o.wpIn Fence.wide 0 P a w K' Q)
    (hnext:∀ b h' ρ w' (tb:cq TB h' w'),K b h' w' → aZ P (⟨w',h',ρ,tb⟩:Env TB) ⟨m,[],[],[]⟩ Fence.wide ops l ⟨(d,B b) :: del d s.slots,[]⟩ Q) :
    ∀ a w,R E ⟨m,[],[],[]⟩ s a w → o.wpIn Fence.wide 0 P a w (ll P Fence.wide ops Q l) Q:=by
  rintro a w ⟨hd,hn,h,ρ,hw,hs⟩
  rw [hown] at hw
  refine hop a w h ρ hw hs _ fun b h' w' hle hk=>?_
  obtain ⟨hag,htb⟩:=hK b h' w' hk
  refine hnext b h' ρ w' htb hk _ w' (R.fresh htb hag hd (by simpa [Act.put] using hn) ?_)
  exact aP.set (hs.mono hle) hn hdm rfl
theorem aZ.stepU {E:Env TB} {n:Sh} {F:Fence} (hg:o.guard = none) (h:∀ a w,R E n s a w → o.wpIn F 0 P a w (ll P F ops Q l) Q):aZ P E n F ops (o :: l) s Q:=by
  intro a w hr
  unfold ll
  have:Region.wanted o (yielded ops a.tmps) = true:=by simp [Region.wanted,hg]
  simp only [this,if_true]
  exact h a w hr
end
theorem tk:cJ Tryz.prog 98:=⟨⟨_,Tryz.underlying98,rfl⟩,⟨Tryz.t98,by kernel_rfl,by kernel_rfl⟩⟩
theorem goes58':bm Tryz.prog 58:=⟨Tryz.call58⟩
theorem goes74':bm Tryz.prog 74:=⟨Tryz.call74⟩
theorem o2:bm Tryz.prog 78:=⟨Tryz.call78⟩
def rj (c:CP) (p:cG bc → Option Bool):Prop :=
  ∀ {E:Env []} {m:Nat} {sl:List (Nat × SV)} {dst:Option Nat} {ats:Array TypeId} {ty:TypeId} {pos:String} {after:Array Edge} {g:Option (Nat × Bool)} {x y:Operand} {t:cG bc} {z:Bool},
    p t = some z → (⟨sl,[]⟩:St).ev x = some (.b (.one c)) → (⟨sl,[]⟩:St).ev y = some (.b (.one (CP.tr ae t))) → bo Tryz.prog E ⟨m,[],[],[]⟩ ⟨dst,.call ⟨.value x,#[y],ats⟩,ty,pos,after,g⟩ ⟨sl,[]⟩ ((⟨sl,[]⟩:St).put ⟨m,[],[],[]⟩ dst (B z))
theorem pj:rj (.raw (.func (.func 58) #[] #[])) (fun _=>some true):=by
  intro E n sl dst ats ty pos after g x y t z hz hx hy
  exact iA (args:=[.one (CP.tr ae t)]) (lR (F:=0) hz) goes58' hx (by simp [fc,evB,hy]) rfl
theorem qf {F:Nat} {b:bz}:rj (.eX 74 [CP.rp (ak b)]) (fun t=>dw F t b):=by
  intro E n sl dst ats ty pos after g x y t z hz hx hy
  have h:=ns (E:=E) (n:=⟨n,[],[],[]⟩) (s:=⟨sl,[]⟩) (dst:=dst) (ty:=ty) (pos:=pos) (after:=after) (g:=g) (ats:=ats) (x:=x) (xs:=#[y]) (zs:=[.one (CP.tr ae t)]) (pss:=[ak b]) (own_a:=[]) (own':=[]) (jo hz) goes74' hx (by simp [fc,evB,hy]) rfl trivial rfl rfl rfl
  have e:(⟨sl,[]⟩:St).aft ⟨n,[],[],[]⟩ [] [] dst (B z) = (⟨sl,[]⟩:St).put ⟨n,[],[],[]⟩ dst (B z):=by
    rfl
  rw [← e]
  exact h
theorem pZ {t:cG bc} {c:CP}:aq Tryz.prog [] 57 [] [.one (CP.tr ae t),.one c] (Is [] (.b (.one (.eX 77 [CP.rp [CP.tr ae t],CP.rp [c]])))):=by
  refine aq.intro 6 Tryz.func57 Tryz.ntmps57 rfl (by simp) fun E=>?_
  show ab _ E ⟨6,[],[],[]⟩ _ ⟨[(0,.b (.one (CP.tr ae t))),(1,.b (.one c))],[]⟩ _
  refine ab.seq ?_
  refine ab.aa ?_
  refine af.cons rfl (oW rfl) ?_
  refine af.cons rfl (oW rfl) ?_
  refine af.cons rfl (b4 rfl) ?_
  refine af.nilK [2,3] [] (s':=⟨[(2,.b (.aN [CP.tr ae t])),(3,.b (.aN [c]))],[]⟩) rfl ?_
  refine ab.seq ?_
  refine ab.aa ?_
  refine af.cons rfl (gv rfl) ?_
  refine af.cons rfl (b4 rfl) ?_
  refine af.nilK [4] [] (s':=⟨[(4,.b (.one (.eX 77 [CP.rp [CP.tr ae t],CP.rp [c]])))],[]⟩) rfl ?_
  refine ab.ret ?_
  exact Fin.au [.one (.eX 77 [CP.rp [CP.tr ae t],CP.rp [c]])] (.inl rfl) rfl (.cons (.tmp rfl) .nil) ⟨rfl,rfl⟩
section
variable {J:Nat → PH → World → Prop} {Jx:PH → World → Prop} {L:Nat} {c:CP} {p:cG bc → Option Bool} {all:List entry}
def Kv (J:Nat → PH → World → Prop) (Jx:PH → World → Prop) (h0:PH) (k:Nat) (b:Bool) (h:PH) (w:World):Prop:=h0.le h ∧ (if b = true then J k h w else Jx h w)
theorem Kv.ok (hJ:∀ k,kA [] (J k)) (hJx:kA [] Jx) {h0:PH} {k:Nat} {b:Bool} {h:PH} {w:World} (hk:Kv J Jx h0 k b h w):je h w ∧ cq [] h w:=by
  cases b with
  | true=>exact (hJ k).1 h w hk.2
  | false=>exact hJx.1 h w (by simpa [Kv] using hk.2)
theorem Kv.go (hJ:∀ k,kA [] (J k)) (hJx:kA [] Jx) {h0:PH} {k:Nat} {b:Bool} {h h':PH} {w w':World} {tb:cq [] h w} {ρ ρ':RM} {own':List (Nat × OC)} {m:Nat} (hk:Kv J Jx h0 k b h w) (hw:WR (⟨w,h,ρ,tb⟩:Env []) ⟨m,[],[],[]⟩ own' h' ρ' w'):Kv J Jx h0 k b h' w':=by
  refine ⟨PH.le_trans hk.1 hw.le,?_⟩
  cases b with
  | true=>exact (hJ k).2 h w hk.2 tb ρ h' ρ' w' own' m hw
  | false=>exact hJx.2 h w (by simpa [Kv] using hk.2) tb ρ h' ρ' w' own' m hw
def VisEnd (J:Nat → PH → World → Prop) (Jx:PH → World → Prop) (h0:PH) (k:Nat) (e:Ending) (w:World):Prop:=∃ b h,e = .returned (.bool b) ∧ Kv J Jx h0 k b h w
theorem p5 (hJ:∀ k,kA [] (J k)) (hJx:kA [] Jx) (hp:rj c p)
    (hround:∀ k x h W vals,all[k]? = some x → J k h W → aQ (fun (x:BV) v=>∀ ρ,x.rel h ρ v) (sv x) vals →
      YieldAt Fence.wide 0 Tryz.prog L vals.toArray W fun e W'=>(e = .returned (.bool true) ∧ ∃ h',h.le h' ∧ J (k + 1) h' W') ∨ (e = .returned (.bool false) ∧ ∃ h',h.le h' ∧ Jx h' W')) :
    ∀ (t:cG bc) (ys:List entry) (k:Nat),rP p t = some ys → (∀ i x,ys[i]? = some x → all[k + i]? = some x) → ∀ h W v1 v2,J k h W → (CP.tr ae t).rel h v1 → c.rel h v2 →
      Calls Tryz.prog 78 #[v1,v2,.func (.yield L) #[] #[]] W (VisEnd J Jx h (k + ys.length)):=by
  intro t
  induction t with
  | leaf=>
    intro ys k hv hall h W v1 v2 hj h1 h2
    cases hv
    refine callsIn_wide.1 (callsIn_of_wp (n:=0) (F:=Fence.wide) Tryz.func78 rfl trivial ?_)
    obtain ⟨hs0,hn0⟩:=la (m:=39) (h:=h) (ρ:=fun _=>.bool false) (args:=[.one (CP.tr ae .leaf),.one c,.one (.raw (.func (.yield L) #[] #[]))]) (vals:=[v1,v2,.func (.yield L) #[] #[]])
      (.cons h1 (.cons h2 (.cons ⟨rfl,rfl⟩ .nil))) (Nat.le_of_ble_eq_true rfl)
    obtain ⟨hag0,htb0⟩:=(hJ k).1 h W hj
    have hk0:Kv J Jx h k true h W:=⟨PH.le_refl h,by simpa using hj⟩
    generalize hQo:bodyPost Tryz.prog _ _ = Qo
    have hlo:¬ LetsOut Qo:=by
      rw [← hQo]
      rintro ⟨a,w,b,h',he,_⟩
      cases he
    have hend:∀ (b:Bool) (w0:World) (h0:PH) (ρ0:RM) (tb:cq [] h0 w0),Kv J Jx h (k + 0) b h0 w0 → Fin (⟨w0,h0,ρ0,tb⟩:Env []) ⟨39,[],[],[]⟩ .ret ⟨[(6,B b)],[]⟩ Qo:=by
      rintro b w0 h0 ρ0 tb hK a w ⟨hd,hn,h',ρ',hw,hs⟩
      rw [← hQo]
      obtain ⟨v,hv,hrel⟩:=fR (P:=Tryz.prog) (fn:=Tryz.f78) (s:=⟨[(6,B b)],[]⟩) (zs:=[.one (.bool b)]) (.cons (.tmp rfl) .nil) hw hs
      have hv':v = .bool b:=hrel
      exact ⟨hd,v,hv w (b8.refl w),b,h',by rw [hv'],hK.go hJ hJx hw⟩
    refine (show aX Tryz.prog (⟨W,h,fun _=>.bool false,htb0⟩:Env []) ⟨39,[],[],[]⟩ Fence.wide _ ⟨_,[]⟩ Qo from ?_) hlo _ _ (R.fresh htb0 hag0 rfl hn0 hs0)
    clear hs0 hn0
    refine aX.seq ?_
    refine aX.aa (.inl rfl) ?_
    refine af.cons rfl (b4 rfl) ?_
    refine af.nil ?_
    refine Fin.keep [0,1,2] [] (s':=⟨[(0,.b (.one (CP.tr ae .leaf))),(1,.b (.one c)),(2,.b (.one (.raw (.func (.yield L) #[] #[]))))],[]⟩) rfl ?_
    refine Fin.gb ?_ hlo
    refine aX.seq ?_
    refine aX.seq ?_
    refine aX.mV (.inl rfl) ?_
    refine aZ.cons (.inl rfl) rfl (aV rfl) ?_
    refine aZ.cons (.inl rfl) rfl (eQ kQ rfl) ?_
    refine aZ.cons (.inl rfl) rfl (aV rfl) ?_
    refine aZ.dK (.plain (t:=9) rfl) rfl rfl rfl (.one .any) ?_
    refine aZ.dK (.plain (t:=9) rfl) rfl rfl rfl (.one .any) ?_
    refine aZ.dK (.plain (t:=9) rfl) rfl rfl rfl (.one .any) ?_
    refine aZ.dK (.plain (t:=9) rfl) rfl rfl rfl (.one (.bool true)) ?_
    refine aZ.cons (.inl rfl) rfl (bM (fun e=>Bool.noConfusion e) rfl rfl rfl) ?_
    refine aZ.nil ?_
    refine Fin.keep [14] [] (s':=⟨[(14,B true)],[]⟩) rfl ?_
    refine Fin.gb ?_ (gH hlo)
    refine aX.cond rfl (fun he=>?_) (fun he=>absurd he (by decide))
    refine aX.seq ?_
    refine aX.aa (.inl rfl) ?_
    refine af.cons rfl (b4 rfl) ?_
    refine af.nil ?_
    refine Fin.keep [6] [] (s':=⟨[(6,B true)],[]⟩) rfl ?_
    refine Fin.gb ?_ (gH hlo)
    refine aX.ret ?_
    exact Fin.av (hend true W h _ htb0 (by simpa using hk0))
  | node a l r ihl ihr=>
    intro ys k hv hall h W v1 v2 hj h1 h2
    refine callsIn_wide.1 (callsIn_of_wp (n:=0) (F:=Fence.wide) Tryz.func78 rfl trivial ?_)
    obtain ⟨hs0,hn0⟩:=la (m:=39) (h:=h) (ρ:=fun _=>.bool false) (args:=[.one (CP.tr ae (.node a l r)),.one c,.one (.raw (.func (.yield L) #[] #[]))]) (vals:=[v1,v2,.func (.yield L) #[] #[]])
      (.cons h1 (.cons h2 (.cons ⟨rfl,rfl⟩ .nil))) (Nat.le_of_ble_eq_true rfl)
    obtain ⟨hag0,htb0⟩:=(hJ k).1 h W hj
    have hk0:Kv J Jx h k true h W:=⟨PH.le_refl h,by simpa using hj⟩
    generalize hQo:bodyPost Tryz.prog _ _ = Qo
    have hlo:¬ LetsOut Qo:=by
      rw [← hQo]
      rintro ⟨a,w,b,h',he,_⟩
      cases he
    have hend:∀ (b:Bool) (w0:World) (h0:PH) (ρ0:RM) (tb:cq [] h0 w0),Kv J Jx h (k + ys.length) b h0 w0 → Fin (⟨w0,h0,ρ0,tb⟩:Env []) ⟨39,[],[],[]⟩ .ret ⟨[(6,B b)],[]⟩ Qo:=by
      rintro b w0 h0 ρ0 tb hK a w ⟨hd,hn,h',ρ',hw,hs⟩
      rw [← hQo]
      obtain ⟨v,hv,hrel⟩:=fR (P:=Tryz.prog) (fn:=Tryz.f78) (s:=⟨[(6,B b)],[]⟩) (zs:=[.one (.bool b)]) (.cons (.tmp rfl) .nil) hw hs
      have hv':v = .bool b:=hrel
      exact ⟨hd,v,hv w (b8.refl w),b,h',by rw [hv'],hK.go hJ hJx hw⟩
    refine (show aX Tryz.prog (⟨W,h,fun _=>.bool false,htb0⟩:Env []) ⟨39,[],[],[]⟩ Fence.wide _ ⟨_,[]⟩ Qo from ?_) hlo _ _ (R.fresh htb0 hag0 rfl hn0 hs0)
    clear hs0 hn0
    refine aX.seq ?_
    refine aX.aa (.inl rfl) ?_
    refine af.cons rfl (b4 rfl) ?_
    refine af.nil ?_
    refine Fin.keep [0,1,2] [] (s':=⟨[(0,.b (.one (CP.tr ae (.node a l r)))),(1,.b (.one c)),(2,.b (.one (.raw (.func (.yield L) #[] #[]))))],[]⟩) rfl ?_
    refine Fin.gb ?_ hlo
    refine aX.seq ?_
    refine aX.seq ?_
    refine aX.mV (.inl rfl) ?_
    refine aZ.cons (.inl rfl) rfl (aV rfl) ?_
    refine aZ.cons (.inl rfl) rfl (eQ kQ rfl) ?_
    refine aZ.cons (.inl rfl) rfl (aV rfl) ?_
    obtain ⟨cb,hcb,hv⟩:=Option.bind_eq_some_iff.1 hv
    refine aZ.gD (.inl rfl) (.plain (t:=9) rfl) rfl rfl rfl (aV rfl) ?_
    refine aZ.gD (.inl rfl) (.plain (t:=9) rfl) rfl rfl rfl (aV rfl) ?_
    refine aZ.gD (.inl rfl) (.plain (t:=9) rfl) rfl rfl rfl (hp hcb rfl rfl) ?_
    refine aZ.gD (.inl rfl) (.plain (t:=9) rfl) rfl rfl rfl (dp rfl) ?_
    refine aZ.opt 13 rfl ?_
    refine aZ.cons (.inl rfl) rfl (bM (fun _=>rfl) rfl rfl rfl) ?_
    refine aZ.nil ?_
    refine Fin.keep [0,1,2,14] [] (s':=⟨[(0,.b (.one (CP.tr ae (.node a l r)))),(1,.b (.one c)),(2,.b (.one (.raw (.func (.yield L) #[] #[])))),(14,B (false || !cb))],[]⟩) rfl ?_
    refine Fin.gb ?_ (gH hlo)
    refine aX.cond rfl (fun he=>?_) (fun he=>?_)
    · have hcb':cb = false:=by simpa using he
      subst hcb'
      have hys:ys = []:=by simpa using hv.symm
      subst hys
      refine aX.seq ?_
      refine aX.aa (.inl rfl) ?_
      refine af.cons rfl (b4 rfl) ?_
      refine af.nil ?_
      refine Fin.keep [6] [] (s':=⟨[(6,B true)],[]⟩) rfl ?_
      refine Fin.gb ?_ (gH hlo)
      refine aX.ret ?_
      exact Fin.av (hend true W h _ htb0 (by simpa using hk0))
    have hcb':cb = true:=by simpa using he
    subst hcb'
    rw [if_pos rfl] at hv
    obtain ⟨xs,hxs,hv⟩:=Option.bind_eq_some_iff.1 hv
    obtain ⟨zs,hzs,hv⟩:=Option.bind_eq_some_iff.1 hv
    have hys:ys = xs ++ a.x :: zs:=(Option.some.inj hv).symm
    subst hys
    have hlen:k + (xs ++ a.x :: zs).length = k + xs.length + 1 + zs.length:=by simp; omega
    refine aX.skip ?_
    refine Fin.keep [0,1,2] [] (s':=⟨[(0,.b (.one (CP.tr ae (.node a l r)))),(1,.b (.one c)),(2,.b (.one (.raw (.func (.yield L) #[] #[]))))],[]⟩) rfl ?_
    refine Fin.gb ?_ hlo
    refine aX.seq ?_
    refine aX.mV (.inl rfl) ?_
    refine aZ.cons (.inl rfl) rfl (aV rfl) ?_
    refine aZ.cons (.inl rfl) rfl (aG (z:=(a,l,r)) (qs:=ae a ++ [CP.tr ae l,CP.tr ae r]) rfl rfl rfl) ?_
    refine aZ.cons (.inl rfl) rfl (aF (qs:=[CP.tr ae l,CP.tr ae r]) dt rfl rfl) ?_
    refine aZ.cons (.inl rfl) rfl (ax (p:=CP.tr ae l) bq rfl rfl) ?_
    refine aZ.cons (.inl rfl) rfl (aV rfl) ?_
    refine aZ.cons (.inl rfl) rfl (aV rfl) ?_
    refine aZ.stepU rfl (kj (d:=21) (Kv J Jx h (k + xs.length)) (fun b h w hk=>hk.ok hJ hJx) rfl (by decide) ?_ ?_)
    · intro a1 w1 h1' ρ1 hw1 hs1 K' hK'
      have hj1:=hk0.go hJ hJx hw1
      have e20:a1.eval (.tmp 20) = .func (.yield L) #[] #[]:=(aL hs1 (o:=.tmp 20) rfl:(CP.raw _).rel h1' _).1
      refine jY (.inl rfl) rfl (fun a w h=>h) ?_
      unfold Oper.wp
      rw [ix o2 a1 w1]
      show Calls Tryz.prog 78 [a1.eval (.tmp 18),a1.eval (.tmp 19),a1.eval (.tmp 20)].toArray w1 _
      rw [e20]
      refine (ihl xs k hxs (fun i x hi=>hall i x (by rw [List.getElem?_append_left (List.getElem?_eq_some_iff.1 hi).1]; exact hi)) h1' w1 _ _ hj1.2 (aL hs1 (o:=.tmp 18) rfl) (aL hs1 (o:=.tmp 19) rfl)).mono ?_
      rintro e w' ⟨b,h',rfl,hk⟩
      exact hK' b h' w' hk.1 ⟨PH.le_trans hj1.1 hk.1,hk.2⟩
    intro b1 h2 ρ2 w2 tb2 hk1
    refine aZ.keep [0,1,2,21] [] (s':=⟨[(0,.b (.one (CP.tr ae (.node a l r)))),(1,.b (.one c)),(2,.b (.one (.raw (.func (.yield L) #[] #[])))),(21,B b1)],[]⟩) rfl ?_
    refine aZ.cons (.inl rfl) rfl (aV rfl) ?_
    cases b1 with
    | false=>
      refine aZ.dK (.plain (t:=22) rfl) rfl rfl rfl (.one .any) ?_
      refine aZ.dK (.plain (t:=22) rfl) rfl rfl rfl (.one .any) ?_
      refine aZ.dK (.plain (t:=22) rfl) rfl rfl rfl (.one .any) ?_
      refine aZ.dK (.plain (t:=22) rfl) rfl rfl rfl (.one .any) ?_
      refine aZ.dK (.plain (t:=22) rfl) rfl rfl rfl (.one .any) ?_
      refine aZ.dK (.plain (t:=22) rfl) rfl rfl rfl (.one (.bool true)) ?_
      refine aZ.cons (.inl rfl) rfl (aH (fun e=>Bool.noConfusion e) rfl rfl rfl) ?_
      refine aZ.cons (.inl rfl) rfl (aV rfl) ?_
      refine aZ.dK (.plain (t:=30) rfl) rfl rfl rfl (.one .any) ?_
      refine aZ.dK (.plain (t:=30) rfl) rfl rfl rfl (.one .any) ?_
      refine aZ.dK (.plain (t:=30) rfl) rfl rfl rfl (.one .any) ?_
      refine aZ.dK (.plain (t:=30) rfl) rfl rfl rfl (.one .any) ?_
      refine aZ.dK (.plain (t:=30) rfl) rfl rfl rfl (.one .any) ?_
      refine aZ.dK (.plain (t:=30) rfl) rfl rfl rfl (.one .any) ?_
      refine aZ.dK (.plain (t:=30) rfl) rfl rfl rfl (.one (.bool true)) ?_
      refine aZ.cons (.inl rfl) rfl (aH (fun e=>Bool.noConfusion e) rfl rfl rfl) ?_
      refine aZ.cons (.inl rfl) rfl (b4 rfl) ?_
      refine aZ.nil ?_
      refine Fin.keep [6] [] (s':=⟨[(6,B false)],[]⟩) rfl ?_
      refine Fin.gb ?_ hlo
      refine aX.ret ?_
      exact hend false w2 h2 ρ2 tb2 ⟨hk1.1,hk1.2⟩
    | true=>
    refine aZ.gD (.inl rfl) (.plain (t:=22) rfl) rfl rfl rfl (aV rfl) ?_
    refine aZ.gD (.inl rfl) (.plain (t:=22) rfl) rfl rfl rfl (aV rfl) ?_
    refine aZ.gD (.inl rfl) (.plain (t:=22) rfl) rfl rfl rfl (aG (z:=(a,l,r)) (qs:=ae a ++ [CP.tr ae l,CP.tr ae r]) rfl rfl rfl) ?_
    refine aZ.gD (.inl rfl) (.plain (t:=22) rfl) rfl rfl rfl (aF (qs:=ae a ++ [CP.tr ae l,CP.tr ae r]) dP rfl rfl) ?_
    refine aZ.gD (.inl rfl) (.plain (t:=22) rfl) rfl rfl rfl (cw (qs:=ar a.x) br rfl rfl rfl) ?_
    refine aZ.stepT (.plain (t:=22) rfl) rfl rfl rfl (kj (d:=28) (Kv J Jx h (k + xs.length + 1)) (fun b h w hk=>hk.ok hJ hJx) rfl (by decide) ?_ ?_)
    · intro a1 w1 h1' ρ1 hw1 hs1 K' hK'
      have hj1:=hk1.go hJ hJx hw1
      have hx23:a1.eval (.tmp 23) = .func (.yield L) #[] #[]:=(aL hs1 (o:=.tmp 23) rfl:(CP.raw _).rel h1' _).1
      have hx27:=(aL hs1 (o:=.tmp 27) (x:=.b (.agg (ar a.x))) rfl:BV.rel h1' ρ1 (.agg (ar a.x)) _)
      refine qQ (vals:=[a1.eval (.tmp 27)].toArray) rfl ((rR hx23).trans (by simp)) (hround (k + xs.length) a.x h1' w1 _ (hall xs.length a.x (by simp)) (by simpa using hj1.2) (.cons (fun _=>hx27) .nil)) ?_
      rintro e w3 (⟨rfl,h3,g1,g2⟩ | ⟨rfl,h3,g1,g2⟩)
      · exact ⟨_,rfl,hK' true h3 w3 g1 ⟨PH.le_trans hj1.1 g1,by simpa using g2⟩⟩
      · exact ⟨_,rfl,hK' false h3 w3 g1 ⟨PH.le_trans hj1.1 g1,by simpa using g2⟩⟩
    intro b2 h3 ρ3 w3 tb3 hk2
    refine aZ.keep [0,1,2,22,28] [] (s':=⟨[(0,.b (.one (CP.tr ae (.node a l r)))),(1,.b (.one c)),(2,.b (.one (.raw (.func (.yield L) #[] #[])))),(22,B true),(28,B b2)],[]⟩) rfl ?_
    refine aZ.opt 28 rfl ?_
    refine aZ.cons (.inl rfl) rfl (aH (fun _=>rfl) rfl rfl rfl) ?_
    refine aZ.cons (.inl rfl) rfl (aV rfl) ?_
    cases b2 with
    | false=>
      refine aZ.dK (.plain (t:=30) rfl) rfl rfl rfl (.one .any) ?_
      refine aZ.dK (.plain (t:=30) rfl) rfl rfl rfl (.one .any) ?_
      refine aZ.dK (.plain (t:=30) rfl) rfl rfl rfl (.one .any) ?_
      refine aZ.dK (.plain (t:=30) rfl) rfl rfl rfl (.one .any) ?_
      refine aZ.dK (.plain (t:=30) rfl) rfl rfl rfl (.one .any) ?_
      refine aZ.dK (.plain (t:=30) rfl) rfl rfl rfl (.one .any) ?_
      refine aZ.dK (.plain (t:=30) rfl) rfl rfl rfl (.one (.bool true)) ?_
      refine aZ.cons (.inl rfl) rfl (aH (fun e=>Bool.noConfusion e) rfl rfl rfl) ?_
      refine aZ.cons (.inl rfl) rfl (b4 rfl) ?_
      refine aZ.nil ?_
      refine Fin.keep [6] [] (s':=⟨[(6,B false)],[]⟩) rfl ?_
      refine Fin.gb ?_ hlo
      refine aX.ret ?_
      exact hend false w3 h3 ρ3 tb3 ⟨hk2.1,hk2.2⟩
    | true=>
    refine aZ.gD (.inl rfl) (.plain (t:=30) rfl) rfl rfl rfl (aV rfl) ?_
    refine aZ.gD (.inl rfl) (.plain (t:=30) rfl) rfl rfl rfl (aG (z:=(a,l,r)) (qs:=ae a ++ [CP.tr ae l,CP.tr ae r]) rfl rfl rfl) ?_
    refine aZ.gD (.inl rfl) (.plain (t:=30) rfl) rfl rfl rfl (aF (qs:=[CP.tr ae r]) dr rfl rfl) ?_
    refine aZ.gD (.inl rfl) (.plain (t:=30) rfl) rfl rfl rfl (ax (p:=CP.tr ae r) bq rfl rfl) ?_
    refine aZ.gD (.inl rfl) (.plain (t:=30) rfl) rfl rfl rfl (aV rfl) ?_
    refine aZ.gD (.inl rfl) (.plain (t:=30) rfl) rfl rfl rfl (aV rfl) ?_
    refine aZ.stepT (.plain (t:=30) rfl) rfl rfl rfl (kj (d:=37) (Kv J Jx h (k + xs.length + 1 + zs.length)) (fun b h w hk=>hk.ok hJ hJx) rfl (by decide) ?_ ?_)
    · intro a1 w1 h1' ρ1 hw1 hs1 K' hK'
      have hj1:=hk2.go hJ hJx hw1
      have e20:a1.eval (.tmp 36) = .func (.yield L) #[] #[]:=(aL hs1 (o:=.tmp 36) rfl:(CP.raw _).rel h1' _).1
      refine jY (.inl rfl) rfl (fun a w h=>h) ?_
      unfold Oper.wp
      rw [ix o2 a1 w1]
      show Calls Tryz.prog 78 [a1.eval (.tmp 34),a1.eval (.tmp 35),a1.eval (.tmp 36)].toArray w1 _
      rw [e20]
      refine (ihr zs (k + xs.length + 1) hzs (fun i x hi=>by rw [show k + xs.length + 1 + i = k + (xs.length + (i + 1)) by omega]; exact hall _ x (by simp [List.getElem?_append_right,hi])) h1' w1 _ _ hj1.2 (aL hs1 (o:=.tmp 34) rfl) (aL hs1 (o:=.tmp 35) rfl)).mono ?_
      rintro e w' ⟨b,h',rfl,hk⟩
      exact hK' b h' w' hk.1 ⟨PH.le_trans hj1.1 hk.1,hk.2⟩
    intro b3 h4 ρ4 w4 tb4 hk3
    refine aZ.keep [30,37] [] (s':=⟨[(30,B true),(37,B b3)],[]⟩) rfl ?_
    refine aZ.opt 37 rfl ?_
    refine aZ.cons (.inl rfl) rfl (aH (fun _=>rfl) rfl rfl rfl) ?_
    refine aZ.cons (.inl rfl) rfl (b4 rfl) ?_
    refine aZ.nil ?_
    refine Fin.keep [6] [] (s':=⟨[(6,B b3)],[]⟩) rfl ?_
    refine Fin.gb ?_ hlo
    refine aX.ret ?_
    exact hend b3 w4 h4 ρ4 tb4 (by rw [hlen]; exact hk3)
end
theorem p4 {c:CP} {p:cG bc → Option Bool} (hp:rj c p) {t:cG bc} {xs:List entry} (h:rP p t = some xs):Iter Tryz.prog [] 77 [CP.rp [CP.tr ae t],CP.rp [c]] (xs.map sv):=by
  intro J Jx L hJ hJx hround h0 W caps hJ0 hcaps
  cases hcaps with
  | @cons _ c1 _ _ g1 hc=>
  cases hc with
  | @cons _ c2 _ _ g2 hc2=>
  cases hc2
  refine callsIn_wide.1 (callsIn_of_wp (n:=0) (F:=Fence.wide) Tryz.func77 rfl trivial ?_)
  obtain ⟨hs0,hn0⟩:=la (m:=8) (h:=h0) (ρ:=fun _=>.bool false) (args:=[.one (.raw (.func (.yield L) #[] #[])),.aN [CP.tr ae t],.aN [c]]) (vals:=[.func (.yield L) #[] #[],c1,c2])
    (.cons ⟨rfl,rfl⟩ (.cons g1 (.cons g2 .nil))) (Nat.le_of_ble_eq_true rfl)
  obtain ⟨hag0,htb0⟩:=(hJ 0).1 h0 W hJ0
  have hk0:Kv J Jx h0 0 true h0 W:=⟨PH.le_refl h0,by simpa using hJ0⟩
  generalize hQo:bodyPost Tryz.prog _ _ = Qo
  have hlo:¬ LetsOut Qo:=by
    rw [← hQo]
    rintro ⟨a,w,⟨v,he⟩,_⟩
    cases he
  refine (show aX Tryz.prog (⟨W,h0,fun _=>.bool false,htb0⟩:Env []) ⟨8,[],[],[]⟩ Fence.wide _ ⟨_,[]⟩ Qo from ?_) hlo _ _ (R.fresh htb0 hag0 rfl hn0 hs0)
  clear hs0 hn0
  refine aX.mV (.inl rfl) ?_
  refine aZ.cons (.inl rfl) rfl (ax (p:=CP.tr ae t) bq rfl rfl) ?_
  refine aZ.cons (.inl rfl) rfl (ax (p:=c) tk rfl rfl) ?_
  refine aZ.cons (.inl rfl) rfl (aV rfl) ?_
  refine aZ.stepU rfl (kj (d:=7) (Kv J Jx h0 xs.length) (fun b h w hk=>hk.ok hJ hJx) rfl (by decide) ?_ ?_)
  · intro a1 w1 h1' ρ1 hw1 hs1 K' hK'
    have hj1:=hk0.go hJ hJx hw1
    have e20:a1.eval (.tmp 6) = .func (.yield L) #[] #[]:=(aL hs1 (o:=.tmp 6) rfl:(CP.raw _).rel h1' _).1
    refine jY (.inl rfl) rfl (fun a w h=>h) ?_
    unfold Oper.wp
    rw [ix o2 a1 w1]
    show Calls Tryz.prog 78 [a1.eval (.tmp 4),a1.eval (.tmp 5),a1.eval (.tmp 6)].toArray w1 _
    rw [e20]
    refine (p5 hJ hJx hp (all:=xs) (fun k x h W vals hx=>hround k (sv x) h W vals (by rw [List.getElem?_map,hx]; rfl)) t xs 0 h (fun i x hi=>by rw [Nat.zero_add]; exact hi) h1' w1 _ _ hj1.2 (aL hs1 (o:=.tmp 4) rfl) (aL hs1 (o:=.tmp 5) rfl)).mono ?_
    rintro e w' ⟨b,h',rfl,hk⟩
    rw [Nat.zero_add] at hk
    exact hK' b h' w' hk.1 ⟨PH.le_trans hj1.1 hk.1,hk.2⟩
  intro b h2 ρ2 w2 tb2 hk1
  refine aZ.nil ?_
  rintro a w ⟨hd,hn,h',ρ',hw,hs⟩
  have hk2:=hk1.go hJ hJx hw
  rw [← hQo]
  refine ⟨hd,.tuple #[],?_,⟨_,rfl⟩,?_⟩
  · rw [iT,show (Tryz.f77:Func).results = #[] from rfl]
    simp
  · cases b with
    | true=>exact .inl ⟨h',by rw [List.length_map]; exact hk2.2⟩
    | false=>exact .inr ⟨h',hk2.2⟩
def ee (F:Nat) (a0:bz) (b0:bz):Option bz :=
 Option.bind (iter F (eW fun a_2 x_3=>if (decide (x_3 < 3)) = true then ((bb a_2.Lo.l x_3).bind fun x_5=>(bb b0.Lo.l x_3).bind fun x_6=>(bb a_2.Hi.l x_3).bind fun x_7=>(bb b0.Hi.l x_3).bind fun x_8=>(bb a_2.Lo.l x_3).bind fun x_9=>(bb a_2.Hi.l x_3).bind fun x_10=>some (.inl ((⟨a_2.Lo.set x_3 (min x_5 x_6),a_2.Hi.set x_3 (max x_7 x_8)⟩:bz),IntKind.i64.wrap (x_3 + 1)))) else (some (.inr a_2))) (a0,0)) (fun a_1=>some a_1)
theorem fZ {F:Nat} {a0:bz} {b0:bz} {r:bz} (h:ee F a0 b0 = some r):aq Tryz.prog [] 18 [] [.agg (ak a0),.agg (ak b0)] (Is [] (.b (.agg (ak r)))):=by
 unfold ee at h
 refine aq.intro 35 Tryz.func18 Tryz.ntmps18 rfl (by simp) fun E=>?_
 show ab _ E ⟨35,[],[],[]⟩ _ ⟨[(0,.b (.agg (ak a0))),(1,.b (.agg (ak b0)))],[]⟩ _
 refine ab.seq (ab.aa ?_)
 refine Oc (bp (k:=101) rfl rfl) (Oc (bp (k:=102) rfl rfl) (Oc (aW (k:=103) cQ rfl) ?_))
 refine af.ai ⟨[(2,Pt 101 0),(3,Pt 102 0),(4,Pt 103 0)],[(101,.box 25 (ak a0)),(102,.box 25 (ak b0)),(103,.box 25 ((bI .i64) A3.zero ++ ((bI .i64) A3.zero)))]⟩ rfl ?_
 obtain ⟨v1,h2,h⟩:=aM h
 refine ab.dX (v:=v1) (fun (a_1:bz)=>⟨[(2,Pt 101 0),(4,Pt 103 0)],[(101,.box 25 (ak a_1)),(103,.box 25 ((bI .i64) A3.zero ++ ((bI .i64) A3.zero)))]⟩) (fun z=>z) ?_ ?_
 ·refine ab.seq (ab.aa ?_)
  refine Oc om (af.ai ⟨[(2,_),(3,_),(4,_),(6,I 0)],[(101,_),(102,_),(103,_)]⟩ rfl (ab.block (ab.c6 h2 (eW fun (a_2:bz) (x_3:Int)=>⟨[(2,Pt 101 0),(3,Pt 102 0),(4,Pt 103 0),(6,I x_3)],[(101,.box 25 (ak a_2)),(102,.box 25 (ak b0)),(103,.box 25 ((bI .i64) A3.zero ++ ((bI .i64) A3.zero)))]⟩) [2,3,4,6] [101,102,103] rfl ?_)))
  rintro ⟨a_2,x_3⟩ o3 h4 hy5
  refine ab.seq (ab.aa ?_)
  refine Oc (bf rfl rfl) (af.ai ⟨[(2,_),(3,_),(4,_),(6,_),(7,B (decide (x_3 < 3)))],[(101,_),(102,_),(103,_)]⟩ rfl (ab.seq (ab.ite h4 rfl (fun _ h4=>?_) (fun _ h4=>?_))))
  ·refine ab.skip (Fin.ag ⟨[(2,_),(3,_),(4,_),(6,_)],[(101,_),(102,_),(103,_)]⟩ rfl (Fin.then (ab.seq (ab.block (ab.seq (ab.aa ?_))))))
   refine Oc om (Oc oa ?_)
   refine af.ai ⟨[(2,_),(3,_),(4,_),(5,I x_3),(6,_)],[(101,_),(102,_),(103,_)]⟩ rfl ?_
   obtain ⟨x_5,e6,h4⟩:=aM h4
   obtain ⟨x_6,e7,h4⟩:=aM h4
   obtain ⟨x_7,e8,h4⟩:=aM h4
   obtain ⟨x_8,e9,h4⟩:=aM h4
   obtain ⟨x_9,e10,h4⟩:=aM h4
   obtain ⟨x_10,e11,h4⟩:=aM h4
   refine ab.np mixed [false,false,false,false,false,false,false,false,false,false,false,false,false,false,false,false,false,false,false,false,false,false,true,false,false,true] [I x_3,I x_3,I x_3,Pt 101 0,.b (.ptr 101 (0 + (x_3:Int).toNat * 1)),I x_5,I x_3,Pt 102 0,.b (.ptr 102 (0 + (x_3:Int).toNat * 1)),I x_6,I (min x_5 x_6),I x_3,Pt 101 3,.b (.ptr 101 (3 + (x_3:Int).toNat * 1)),I x_7,I x_3,Pt 102 3,.b (.ptr 102 (3 + (x_3:Int).toNat * 1)),I x_8,I (max x_7 x_8),Pt 101 0,.b (.ptr 101 (0 + (x_3:Int).toNat * 1)),B true,Pt 101 3,.b (.ptr 101 (3 + (x_3:Int).toNat * 1)),B true] [⟨[false,false,false,false,false,false,false,false,false,false,false,false,false,false,false,false,false,false,false,false,false,false,false,false,false,false],[(2,Pt 101 0),(3,Pt 102 0),(4,Pt 103 0),(5,I x_3),(6,I x_3)],[(101,.box 25 (ak a_2)),(102,.box 25 (ak b0)),(103,.box 25 ((bI .i64) A3.zero ++ ((bI .i64) A3.zero)))],[true,true,true,true,true,true,true,true,true,true,true,true,true,true,true,true,true,true,true,true,true,true,true,true,true,true],[],[24,25]⟩,⟨[false,false,false,false,false,false,false,false,false,false,false,false,false,false,false,false,false,false,false,false,false,false,true,false,false,false],[(2,Pt 101 0),(3,Pt 102 0),(4,Pt 103 0),(5,I x_3),(6,I x_3)],[(101,.box 25 ((bI .i64) (a_2.Lo.set x_3 (min x_5 x_6)) ++ ((bI .i64) a_2.Hi))),(102,.box 25 (ak b0)),(103,.box 25 ((bI .i64) A3.zero ++ ((bI .i64) A3.zero)))],[true,true,true,true,true,true,true,true,true,true,true,true,true,true,true,true,true,true,true,true,true,true,true,true,true,true],[0,2,3,4,5,6,7,8,9,10,11,12,13,14,20,21,22],[]⟩,⟨[false,false,false,false,false,false,false,false,false,false,false,false,false,false,false,false,false,false,false,false,false,false,true,false,false,true],[(2,Pt 101 0),(3,Pt 102 0),(4,Pt 103 0),(5,I x_3),(6,I x_3)],[(101,.box 25 ((bI .i64) (a_2.Lo.set x_3 (min x_5 x_6)) ++ ((bI .i64) (a_2.Hi.set x_3 (max x_7 x_8))))),(102,.box 25 (ak b0)),(103,.box 25 ((bI .i64) A3.zero ++ ((bI .i64) A3.zero)))],[true,true,true,true,true,true,true,true,true,true,true,true,true,true,true,true,true,true,true,true,true,true,true,true,true,true],[0,1,2,3,4,5,6,7,8,9,10,11,12,13,14,15,16,17,18,19,20,21,22,23,24,25],[]⟩] rfl (⟨by kernel_rfl,⟨⟨I x_3,fun _=>rfl,fun _=>.p (by exact aV rfl)⟩,⟨I x_3,fun _=>rfl,fun _=>.p (by exact aV rfl)⟩,⟨I x_3,fun _=>rfl,fun _=>.p (by exact aV rfl)⟩,⟨Pt 101 0,fun _=>rfl,fun _=>.p (by exact an bu rfl rfl)⟩,⟨.b (.ptr 101 (0 + (x_3:Int).toNat * 1)),fun _=>rfl,fun _=>.p (by exact aI a7 (a6 e6) (b6 e6) rfl rfl rfl)⟩,⟨I x_5,fun _=>rfl,fun _=>.p (by exact aE aK rfl rfl (bC (post:=((bI .i64) a_2.Hi)) (k:=.i64) [] e6 rfl rfl rfl))⟩,⟨I x_3,fun _=>rfl,fun _=>.p (by exact aV rfl)⟩,⟨Pt 102 0,fun _=>rfl,fun _=>.p (by exact an bu rfl rfl)⟩,⟨.b (.ptr 102 (0 + (x_3:Int).toNat * 1)),fun _=>rfl,fun _=>.p (by exact aI a7 (a6 e7) (b6 e7) rfl rfl rfl)⟩,⟨I x_6,fun _=>rfl,fun _=>.p (by exact aE aK rfl rfl (bC (post:=((bI .i64) b0.Hi)) (k:=.i64) [] e7 rfl rfl rfl))⟩,⟨I (min x_5 x_6),fun _=>rfl,fun _=>.p (by exact qw rfl rfl)⟩,⟨I x_3,fun _=>rfl,fun _=>.p (by exact aV rfl)⟩,⟨Pt 101 3,fun _=>rfl,fun _=>.p (by exact an bt rfl rfl)⟩,⟨.b (.ptr 101 (3 + (x_3:Int).toNat * 1)),fun _=>rfl,fun _=>.p (by exact aI a7 (a6 e8) (b6 e8) rfl rfl rfl)⟩,⟨I x_7,fun _=>rfl,fun _=>.p (by exact aE aK rfl rfl (bC (post:=[]) (k:=.i64) ((bI .i64) a_2.Lo) e8 rfl rfl rfl))⟩,⟨I x_3,fun _=>rfl,fun _=>.p (by exact aV rfl)⟩,⟨Pt 102 3,fun _=>rfl,fun _=>.p (by exact an bt rfl rfl)⟩,⟨.b (.ptr 102 (3 + (x_3:Int).toNat * 1)),fun _=>rfl,fun _=>.p (by exact aI a7 (a6 e9) (b6 e9) rfl rfl rfl)⟩,⟨I x_8,fun _=>rfl,fun _=>.p (by exact aE aK rfl rfl (bC (post:=[]) (k:=.i64) ((bI .i64) b0.Lo) e9 rfl rfl rfl))⟩,⟨I (max x_7 x_8),fun _=>rfl,fun _=>.p (by exact oL rfl rfl)⟩,⟨Pt 101 0,fun _=>rfl,fun _=>.p (by exact an bu rfl rfl)⟩,⟨.b (.ptr 101 (0 + (x_3:Int).toNat * 1)),fun _=>rfl,fun _=>.p (by exact aI a7 (a6 e10) (b6 e10) rfl rfl rfl)⟩,⟨_,[],.b (.one .any),rfl,(fun e=>by simp at e),rfl,rfl,fun _=>.sm [101,102,103] (by exact .p (by exact cC aK rfl rfl rfl (jA (post:=((bI .i64) a_2.Hi)) (k:=.i64) [] e10 rfl rfl rfl) (gX (post:=((bI .i64) a_2.Hi)) (k:=.i64) [] e10 rfl rfl (A3.lv a_2.Lo x_3 (min x_5 x_6)) rfl rfl))) (by exact rfl)⟩,⟨Pt 101 3,fun _=>rfl,fun _=>.p (by exact an bt rfl rfl)⟩,trivial,trivial,trivial⟩,⟨by kernel_rfl,⟨trivial,⟨I x_3,fun _=>rfl,fun _=>.p (by exact aV rfl)⟩,trivial,trivial,trivial,trivial,trivial,trivial,trivial,trivial,trivial,trivial,trivial,trivial,trivial,⟨I x_3,fun _=>rfl,fun _=>.p (by exact aV rfl)⟩,⟨Pt 102 3,fun _=>rfl,fun _=>.p (by exact an bt rfl rfl)⟩,⟨.b (.ptr 102 (3 + (x_3:Int).toNat * 1)),fun _=>rfl,fun _=>.p (by exact aI a7 (a6 e9) (b6 e9) rfl rfl rfl)⟩,⟨I x_8,fun _=>rfl,fun _=>.p (by exact aE aK rfl rfl (bC (post:=[]) (k:=.i64) ((bI .i64) b0.Lo) e9 rfl rfl rfl))⟩,⟨I (max x_7 x_8),fun _=>rfl,fun _=>.p (by exact oL rfl rfl)⟩,trivial,trivial,trivial,⟨Pt 101 3,fun _=>rfl,fun _=>.p (by exact an bt rfl rfl)⟩,⟨.b (.ptr 101 (3 + (x_3:Int).toNat * 1)),fun _=>rfl,fun _=>.p (by exact aI a7 (a6 e11) (b6 e11) rfl rfl rfl)⟩,⟨_,[],.b (.one .any),rfl,(fun e=>by simp at e),rfl,rfl,fun _=>.sm [101,102,103] (by exact .p (by exact cC aK rfl rfl rfl (jA (post:=[]) (k:=.i64) ((bI .i64) (a_2.Lo.set x_3 (min x_5 x_6))) e11 rfl rfl rfl) (gX (post:=[]) (k:=.i64) ((bI .i64) (a_2.Lo.set x_3 (min x_5 x_6))) e11 rfl rfl (A3.lv a_2.Hi x_3 (max x_7 x_8)) rfl rfl))) (by exact rfl)⟩,trivial⟩,⟨by kernel_rfl,⟨trivial,trivial,trivial,trivial,trivial,trivial,trivial,trivial,trivial,trivial,trivial,trivial,trivial,trivial,trivial,trivial,trivial,trivial,trivial,trivial,trivial,trivial,trivial,trivial,trivial,trivial,trivial⟩,trivial⟩⟩⟩) rfl rfl rfl [2,3,4,6] [101,102,103] (s':=⟨[(2,_),(3,_),(4,_),(6,_)],[(101,.box 25 ((bI .i64) (a_2.Lo.set x_3 (min x_5 x_6)) ++ ((bI .i64) (a_2.Hi.set x_3 (max x_7 x_8))))),(102,_),(103,_)]⟩) rfl ?_
   refine Fin.az (Fin.ag ⟨[(2,_),(3,_),(4,_),(6,_)],[(101,_),(102,_),(103,_)]⟩ rfl (Fin.then (ab.aa ?_)))
   refine Oc (bK rfl rfl) (Oc om ?_)
   refine af.nil ?_
   exact Fin.cu [2,3,4,6] [101,102,103] ((⟨a_2.Lo.set x_3 (min x_5 x_6),a_2.Hi.set x_3 (max x_7 x_8)⟩:bz),IntKind.i64.wrap (x_3 + 1)) (Option.some.inj h4) rfl
  ·refine ab.exit (Fin.aC ?_)
   obtain rfl:=hy5 _ (Option.some.inj h4).symm
   refine Fin.aC (Fin.aY ?_)
   exact Fin.join [2,4] [101,103] a_2 rfl rfl
 ·rintro a_1 hv
  subst v1
  refine ab.seq (ab.aa ?_)
  refine Oc (lp ao) (Oc (aD ao rfl rfl rfl rfl (Nat.le_of_ble_eq_true rfl) rfl) ?_)
  refine af.ai ⟨[(4,_)],[(103,.box 25 (ak a_1))]⟩ rfl (ab.ret ?_)
  obtain rfl:=Option.some.inj h
  refine Fin.ag ⟨[(4,_)],[(103,_)]⟩ rfl (Fin.au [.agg (ak a_1)] (.inl rfl) rfl (.cons (.agg ao rfl rfl rfl rfl) .nil) ⟨rfl,rfl⟩)
def eE (F:Nat) (s0:List bz) (f0:Nat):Option Int :=
 Option.bind (iter F (fun x_1=>if (decide (x_1 < (s0.length:Int))) = true then ((bb s0 x_1).bind fun x_2=>(jI F f0 x_2).bind fun x_3=>if x_3 = true then (some (.inr (.inr x_1))) else (some (.inl (IntKind.i64.wrap (x_1 + 1))))) else (some (.inr (.inl ())))) 0) (ct (fun _=>some (-1)) (fun y=>some y))
theorem jj {F:Nat} {s0:List bz} {f0:Nat} {r:Int} (h:eE F s0 f0 = some r):aq Tryz.prog [] 67 [] [.one (.sl 6 (s0.map ak)),.one (.raw (.func (.func f0) #[] #[]))] (Is [] (.b (.one (.i r)))):=by
 unfold eE at h
 refine aq.intro 19 Tryz.func67 Tryz.ntmps67 rfl (by simp) fun E=>?_
 show ab _ E ⟨19,[],[],[]⟩ _ ⟨[(0,.b (.one (.sl 6 (s0.map ak)))),(1,.b (.one (.raw (.func (.func f0) #[] #[]))))],[]⟩ _
 refine ab.seq (ab.aa ?_)
 refine Oc oa (af.ai ⟨[(0,.b (.one (.sl 6 (s0.map ak)))),(1,.b (.one (.raw (.func (.func f0) #[] #[]))))],[]⟩ rfl ?_)
 obtain ⟨v1,h2,h⟩:=aM h
 refine ab.dX (v:=v1) (fun (_:Unit)=>⟨[],[]⟩) (fun z=>.inl z) ?_ ?_
 ·refine ab.seq (ab.aa ?_)
  refine Oc om (Oc (bR und34 rfl (List.length_map _)) (Oc om ?_))
  refine af.ai ⟨[(0,_),(1,_),(7,I (s0.length:Int)),(8,I 0)],[]⟩ rfl (ab.block (ab.c6 h2 (fun (x_1:Int)=>⟨[(0,.b (.one (.sl 6 (s0.map ak)))),(1,.b (.one (.raw (.func (.func f0) #[] #[])))),(7,I (s0.length:Int)),(8,I x_1)],[]⟩) [0,1,7,8] [] rfl ?_))
  rintro x_1 o3 h4 hy5
  refine ab.seq (ab.aa ?_)
  refine Oc (bf rfl rfl) (af.ai ⟨[(0,_),(1,_),(7,_),(8,_),(9,B (decide (x_1 < (s0.length:Int))))],[]⟩ rfl (ab.seq (ab.ite h4 rfl (fun _ h4=>?_) (fun _ h4=>?_))))
  ·refine ab.skip (Fin.ag ⟨[(0,_),(1,_),(7,_),(8,_)],[]⟩ rfl (Fin.then (ab.seq (ab.block (ab.seq (ab.aa ?_))))))
   refine Oc om (Oc oa ?_)
   refine af.ai ⟨[(0,_),(1,_),(5,I x_1),(7,_),(8,_)],[]⟩ rfl (ab.seq (ab.aa ?_))
   refine Oc om (Oc om (Oc om ?_))
   obtain ⟨x_2,e6,h4⟩:=aM h4
   refine Oc (bA kR (a6 e6) (cM (e:=ak) e6) rfl rfl) (Oc (cw ao rfl rfl rfl) ?_)
   obtain ⟨x_3,e7,h4⟩:=aM h4
   refine Oc (iA (qh e7) (qi e7) rfl rfl rfl) (af.ai ⟨[(0,_),(1,_),(5,_),(7,_),(8,_),(16,B x_3)],[]⟩ rfl (ab.ite h4 rfl (fun _ h4=>?_) (fun _ h4=>?_)))
   ·refine ab.seq (ab.aa ?_)
    refine Oc om (Oc oa ?_)
    refine af.ai ⟨[(4,I x_1)],[]⟩ rfl (ab.ret (Fin.aS (Fin.av ?_)))
    obtain rfl:=hy5 _ (Option.some.inj h4).symm
    refine Fin.av (Fin.aS (Fin.av ?_))
    obtain rfl:=Option.some.inj h
    refine Fin.ag ⟨[(4,_)],[]⟩ rfl (Fin.au [.one (.i x_1)] (.inl rfl) rfl (.cons (.tmp rfl) .nil) ⟨rfl,rfl⟩)
   ·refine ab.skip (Fin.az (Fin.ag ⟨[(0,_),(1,_),(7,_),(8,_)],[]⟩ rfl (Fin.then (ab.aa ?_))))
    refine Oc (bK rfl rfl) (Oc om ?_)
    refine af.nil ?_
    exact Fin.cu [0,1,7,8] [] (IntKind.i64.wrap (x_1 + 1)) (Option.some.inj h4) rfl
  ·refine ab.exit (Fin.aC ?_)
   obtain rfl:=hy5 _ (Option.some.inj h4).symm
   refine Fin.aC (Fin.aY ?_)
   exact Fin.join [] [] () rfl rfl
 ·rintro _ hv
  subst v1
  refine ab.seq (ab.aa ?_)
  refine Oc oa (af.ai ⟨[(4,I (-1))],[]⟩ rfl (ab.ret ?_))
  obtain rfl:=Option.some.inj h
  refine Fin.ag ⟨[(4,_)],[]⟩ rfl (Fin.au [.one (.i (-1))] (.inl rfl) rfl (.cons (.tmp rfl) .nil) ⟨rfl,rfl⟩)
def dI (F:Nat) (s0:List bz) (f0:Nat):Option Bool :=
 (eE F s0 f0).bind fun x_1=>some (decide (0 ≤ x_1))
theorem im {F:Nat} {s0:List bz} {f0:Nat} {r:Bool} (h:dI F s0 f0 = some r):aq Tryz.prog [] 40 [] [.one (.sl 6 (s0.map ak)),.one (.raw (.func (.func f0) #[] #[]))] (Is [] (.b (.one (.bool r)))):=by
 unfold dI at h
 refine aq.intro 9 Tryz.func40 Tryz.ntmps40 rfl (by simp) fun E=>?_
 show ab _ E ⟨9,[],[],[]⟩ _ ⟨[(0,.b (.one (.sl 6 (s0.map ak)))),(1,.b (.one (.raw (.func (.func f0) #[] #[]))))],[]⟩ _
 refine ab.seq (ab.aa ?_)
 refine Oc oa (af.ai ⟨[(0,.b (.one (.sl 6 (s0.map ak)))),(1,.b (.one (.raw (.func (.func f0) #[] #[]))))],[]⟩ rfl (ab.seq (ab.aa ?_)))
 refine Oc om (Oc om ?_)
 obtain ⟨x_1,e1,h⟩:=aM h
 refine Oc (aj (jj e1) goes67 rfl rfl) (Oc (nf rfl rfl) (Oc oa ?_))
 refine af.ai ⟨[(4,B (decide (0 ≤ x_1)))],[]⟩ rfl (ab.ret ?_)
 obtain rfl:=Option.some.inj h
 refine Fin.ag ⟨[(4,_)],[]⟩ rfl (Fin.au [.one (.bool (decide (0 ≤ x_1)))] (.inl rfl) rfl (.cons (.tmp rfl) .nil) ⟨rfl,rfl⟩)
def ey (F:Nat) (k0:Int) (v0c:List bz) (v1c:Int):Option Bool :=
 (bb v0c k0).bind fun x_1=>(bb v0c v1c).bind fun x_2=>some (decide (x_1.Hi.a0 < x_2.Lo.a0))
theorem gP {F:Nat} {k0:Int} {v0c:List bz} {v1c:Int} {r:Bool} (h:ey F k0 v0c v1c = some r):aq Tryz.prog [] 46 [] [.one (.i k0),.aN [.sl 6 (v0c.map ak)],.aN [.i v1c]] (Is [] (.b (.one (.bool r)))):=by
 unfold ey at h
 refine aq.intro 18 Tryz.func46 Tryz.ntmps46 rfl (by simp) fun E=>?_
 show ab _ E ⟨18,[],[],[]⟩ _ ⟨[(0,I k0),(1,.b (.aN [.sl 6 (v0c.map ak)])),(2,.b (.aN [.i v1c]))],[]⟩ _
 refine ab.seq (ab.aa ?_)
 refine Oc oa (af.ai ⟨[(0,I k0),(1,.b (.aN [.sl 6 (v0c.map ak)])),(2,.b (.aN [.i v1c]))],[]⟩ rfl (ab.seq ?_))
 obtain ⟨x_1,e1,h⟩:=aM h
 obtain ⟨x_2,e2,h⟩:=aM h
 refine ab.bH mixed 14 [.b (.one (.sl 6 (v0c.map ak))),I k0,.b (.aN (ak x_1)),.b (.aN ((bI .i64) x_1.Hi)),.b (.aN [.i x_1.Hi.a0]),I x_1.Hi.a0,.b (.one (.sl 6 (v0c.map ak))),I v1c,.b (.aN (ak x_2)),.b (.aN (ak x_2)),.b (.aN [.i x_2.Lo.a0]),I x_2.Lo.a0,B (decide (x_1.Hi.a0 < x_2.Lo.a0)),B (decide (x_1.Hi.a0 < x_2.Lo.a0))] [4] [] (s':=⟨[(4,B (decide (x_1.Hi.a0 < x_2.Lo.a0)))],[]⟩) rfl ⟨fun _=>.p (ax jX rfl rfl),fun _=>.p om,fun _=>.p (bA kR (a6 e1) (cM (e:=ak) e1) rfl rfl),fun _=>by exact .p (aF bt rfl rfl),fun _=>.p (mK a7 (by decide) (by decide) rfl rfl rfl),fun _=>.p (ax aK rfl rfl),fun _=>.p (ax jX rfl rfl),fun _=>.p (ax aK rfl rfl),fun _=>.p (bA kR (a6 e2) (cM (e:=ak) e2) rfl rfl),fun _=>by exact .p (aF bu rfl rfl),fun _=>.p (mK a7 (by decide) (by decide) rfl rfl rfl),fun _=>.p (ax aK rfl rfl),fun _=>.p (bf rfl rfl),fun _=>.p oa,trivial⟩ rfl rfl (ab.ret ?_)
 obtain rfl:=Option.some.inj h
 refine Fin.ag ⟨[(4,_)],[]⟩ rfl (Fin.au [.one (.bool (decide (x_1.Hi.a0 < x_2.Lo.a0)))] (.inl rfl) rfl (.cons (.tmp rfl) .nil) ⟨rfl,rfl⟩)
def dT (F:Nat) (s0:List Int) (f0:(List bz) × Int):Option Int :=
 Option.bind (iter F (fun x_1=>if (decide (x_1 < (s0.length:Int))) = true then ((bb s0 x_1).bind fun x_2=>(ey F x_2 f0.1 f0.2).bind fun x_3=>if x_3 = true then (some (.inr (.inr x_1))) else (some (.inl (IntKind.i64.wrap (x_1 + 1))))) else (some (.inr (.inl ())))) 0) (ct (fun _=>some (-1)) (fun y=>some y))
theorem iG {F:Nat} {s0:List Int} {f0:(List bz) × Int} {r:Int} (h:dT F s0 f0 = some r):aq Tryz.prog [] 71 [] [.one (.sl 1 (s0.map eI)),.one (.eX 46 [CP.rp [.sl 6 (f0.1.map ak)],CP.rp [.i f0.2]])] (Is [] (.b (.one (.i r)))):=by
 unfold dT at h
 refine aq.intro 19 Tryz.func71 Tryz.ntmps71 rfl (by simp) fun E=>?_
 show ab _ E ⟨19,[],[],[]⟩ _ ⟨[(0,.b (.one (.sl 1 (s0.map eI)))),(1,.b (.one (.eX 46 [CP.rp [.sl 6 (f0.1.map ak)],CP.rp [.i f0.2]])))],[]⟩ _
 refine ab.seq (ab.aa ?_)
 refine Oc oa (af.ai ⟨[(0,.b (.one (.sl 1 (s0.map eI)))),(1,.b (.one (.eX 46 [CP.rp [.sl 6 (f0.1.map ak)],CP.rp [.i f0.2]])))],[]⟩ rfl ?_)
 obtain ⟨v1,h2,h⟩:=aM h
 refine ab.dX (v:=v1) (fun (_:Unit)=>⟨[],[]⟩) (fun z=>.inl z) ?_ ?_
 ·refine ab.seq (ab.aa ?_)
  refine Oc om (Oc (bR eZ rfl (List.length_map _)) (Oc om ?_))
  refine af.ai ⟨[(0,_),(1,_),(7,I (s0.length:Int)),(8,I 0)],[]⟩ rfl (ab.block (ab.c6 h2 (fun (x_1:Int)=>⟨[(0,.b (.one (.sl 1 (s0.map eI)))),(1,.b (.one (.eX 46 [CP.rp [.sl 6 (f0.1.map ak)],CP.rp [.i f0.2]]))),(7,I (s0.length:Int)),(8,I x_1)],[]⟩) [0,1,7,8] [] rfl ?_))
  rintro x_1 o3 h4 hy5
  refine ab.seq (ab.aa ?_)
  refine Oc (bf rfl rfl) (af.ai ⟨[(0,_),(1,_),(7,_),(8,_),(9,B (decide (x_1 < (s0.length:Int))))],[]⟩ rfl (ab.seq (ab.ite h4 rfl (fun _ h4=>?_) (fun _ h4=>?_))))
  ·refine ab.skip (Fin.ag ⟨[(0,_),(1,_),(7,_),(8,_)],[]⟩ rfl (Fin.then (ab.seq (ab.block (ab.seq (ab.aa ?_))))))
   refine Oc om (Oc oa ?_)
   refine af.ai ⟨[(0,_),(1,_),(5,I x_1),(7,_),(8,_)],[]⟩ rfl (ab.seq (ab.aa ?_))
   refine Oc om (Oc om (Oc om ?_))
   obtain ⟨x_2,e6,h4⟩:=aM h4
   refine Oc (bA cp (a6 e6) (cM (e:=eI) e6) rfl rfl) (Oc (ax aK rfl rfl) ?_)
   obtain ⟨x_3,e7,h4⟩:=aM h4
   refine Oc (ns (pss:=[[.sl 6 (f0.1.map ak)],[.i f0.2]]) (gP e7) sV rfl rfl rfl trivial rfl rfl) (af.ai ⟨[(0,_),(1,_),(5,_),(7,_),(8,_),(16,B x_3)],[]⟩ rfl (ab.ite h4 rfl (fun _ h4=>?_) (fun _ h4=>?_)))
   ·refine ab.seq (ab.aa ?_)
    refine Oc om (Oc oa ?_)
    refine af.ai ⟨[(4,I x_1)],[]⟩ rfl (ab.ret (Fin.aS (Fin.av ?_)))
    obtain rfl:=hy5 _ (Option.some.inj h4).symm
    refine Fin.av (Fin.aS (Fin.av ?_))
    obtain rfl:=Option.some.inj h
    refine Fin.ag ⟨[(4,_)],[]⟩ rfl (Fin.au [.one (.i x_1)] (.inl rfl) rfl (.cons (.tmp rfl) .nil) ⟨rfl,rfl⟩)
   ·refine ab.skip (Fin.az (Fin.ag ⟨[(0,_),(1,_),(7,_),(8,_)],[]⟩ rfl (Fin.then (ab.aa ?_))))
    refine Oc (bK rfl rfl) (Oc om ?_)
    refine af.nil ?_
    exact Fin.cu [0,1,7,8] [] (IntKind.i64.wrap (x_1 + 1)) (Option.some.inj h4) rfl
  ·refine ab.exit (Fin.aC ?_)
   obtain rfl:=hy5 _ (Option.some.inj h4).symm
   refine Fin.aC (Fin.aY ?_)
   exact Fin.join [] [] () rfl rfl
 ·rintro _ hv
  subst v1
  refine ab.seq (ab.aa ?_)
  refine Oc oa (af.ai ⟨[(4,I (-1))],[]⟩ rfl (ab.ret ?_))
  obtain rfl:=Option.some.inj h
  refine Fin.ag ⟨[(4,_)],[]⟩ rfl (Fin.au [.one (.i (-1))] (.inl rfl) rfl (.cons (.tmp rfl) .nil) ⟨rfl,rfl⟩)
def eo (F:Nat) (del0:(List bz) × Int) (s0:List Int):Option (List Int) :=
 (dT F s0 (del0.1,del0.2)).bind fun x_1=>if (decide (x_1 = (-1))) = true then (some s0) else (Option.bind (iter F (un3 fun s_4 i_5 j_6=>if (decide (j_6 < (s_4.length:Int))) = true then (Option.bind ((bb s_4 j_6).bind fun x_11=>(ey F x_11 del0.1 del0.2).bind fun x_12=>if (!x_12) = true then ((bb s_4 i_5).bind fun x_13=>some (s_4.set (i_5:Int).toNat x_11,IntKind.i64.wrap (i_5 + 1))) else (some (s_4,i_5))) (eW fun s_9 i_10=>some (.inl (s_9,i_10,IntKind.i64.wrap (j_6 + 1))))) else (some (.inr (s_4,i_5)))) (s0,x_1,IntKind.i64.wrap (x_1 + 1))) (eW fun s_2 i_3=>Option.bind (clr? (0:Int) s_2 i_3) (fun z_14=>(na z_14 i_3).bind fun x_15=>some x_15)))
theorem jb {F:Nat} {del0:(List bz) × Int} {s0:List Int} {r:(List Int)} (h:eo F del0 s0 = some r):aq Tryz.prog [] 45 [(1,.row 3 1 (s0.map eI))] [.row 1,.one (.eX 46 [CP.rp [.sl 6 (del0.1.map ak)],CP.rp [.i del0.2]])] (Is [(1,.row 3 1 (r.map eI))] (.b (.row 1))):=by
 unfold eo at h
 refine aq.intro 42 Tryz.func45 Tryz.ntmps45 rfl (by simp) fun E=>?_
 show ab _ E ⟨42,[],[1],[]⟩ _ ⟨[(0,.b (.row 1)),(1,.b (.one (.eX 46 [CP.rp [.sl 6 (del0.1.map ak)],CP.rp [.i del0.2]])))],[(1,.row 3 1 (s0.map eI))]⟩ _
 refine ab.seq (ab.aa ?_)
 refine Oc oa (af.ai ⟨[(0,.b (.row 1)),(1,.b (.one (.eX 46 [CP.rp [.sl 6 (del0.1.map ak)],CP.rp [.i del0.2]])))],[(1,.row 3 1 (s0.map eI))]⟩ rfl (ab.seq (ab.aa ?_)))
 refine Oc om (Oc om ?_)
 obtain ⟨x_1,e1,h⟩:=aM h
 refine Oc (jE (iG e1) goes71 rfl CP.pQ) (Oc oa ?_)
 refine af.ai ⟨[(0,_),(1,_),(5,I x_1)],[(1,_)]⟩ rfl (ab.seq (ab.seq (ab.aa ?_)))
 refine Oc om (Oc (dG rfl rfl) ?_)
 refine af.ai ⟨[(0,_),(1,_),(5,_),(12,B (decide (x_1 = (-1))))],[(1,_)]⟩ rfl (ab.ite h rfl (fun _ h=>?_) (fun _ h=>?_))
 ·refine ab.seq (ab.aa ?_)
  refine Oc om (Oc oa ?_)
  refine af.ai ⟨[(4,.b (.row 1))],[(1,_)]⟩ rfl (ab.ret (Fin.av ?_))
  obtain rfl:=Option.some.inj h
  refine Fin.ag ⟨[(4,_)],[(1,_)]⟩ rfl ?_
  exact Fin.result [.row 1] (.inl rfl) rfl (.cons (.tmp rfl) .nil) ⟨rfl,rfl⟩
 ·refine ab.skip (Fin.ag ⟨[(0,_),(1,_),(5,_)],[(1,_)]⟩ rfl (Fin.then ?_))
  obtain ⟨v2,h3,h⟩:=aM h
  refine ab.dX (v:=v2) (eW fun (s_2:List Int) (i_3:Int)=>⟨[(0,.b (.row 1)),(5,I i_3)],[(1,.row 3 1 (s_2.map eI))]⟩) (fun z=>z) ?_ ?_
  ·refine ab.seq (ab.aa ?_)
   refine Oc om (Oc (bK rfl rfl) (Oc oa ?_))
   refine af.ai ⟨[(0,_),(1,_),(5,_),(6,I (IntKind.i64.wrap (x_1 + 1)))],[(1,_)]⟩ rfl (ab.block (ab.c6 h3 (un3 fun (s_4:List Int) (i_5:Int) (j_6:Int)=>⟨[(0,.b (.row 1)),(1,.b (.one (.eX 46 [CP.rp [.sl 6 (del0.1.map ak)],CP.rp [.i del0.2]]))),(5,I i_5),(6,I j_6)],[(1,.row 3 1 (s_4.map eI))]⟩) [0,1,5,6] [1] rfl ?_))
   rintro ⟨s_4,i_5,j_6⟩ o4 h5 hy6
   refine ab.seq (ab.seq (ab.aa ?_))
   refine Oc om (Oc om (Oc (eK eZ rfl rfl (List.length_map _)) (Oc (bf rfl rfl) ?_)))
   refine af.ai ⟨[(0,_),(1,_),(5,_),(6,_),(19,B (decide (j_6 < (s_4.length:Int))))],[(1,_)]⟩ rfl (ab.ite h5 rfl (fun _ h5=>?_) (fun _ h5=>?_))
   ·refine ab.skip (Fin.ag ⟨[(0,_),(1,_),(5,_),(6,_)],[(1,_)]⟩ rfl (Fin.then ?_))
    obtain ⟨v7,h8,h5⟩:=aM h5
    refine ab.dX (v:=v7) (eW fun (s_9:List Int) (i_10:Int)=>⟨[(0,.b (.row 1)),(1,.b (.one (.eX 46 [CP.rp [.sl 6 (del0.1.map ak)],CP.rp [.i del0.2]]))),(5,I i_10),(6,I j_6)],[(1,.row 3 1 (s_9.map eI))]⟩) (fun z=>z) ?_ ?_
    ·refine ab.block (ab.seq (ab.aa ?_))
     refine Oc om (Oc om ?_)
     obtain ⟨x_11,e9,h8⟩:=aM h8
     refine Oc (du cp (a6 e9) (iM e9) rfl rfl rfl rfl) (Oc (fy (i:=(j_6:Int).toNat) (f:=0) aK rfl rfl rfl (cM (e:=eI) e9) rfl) (Oc oa ?_))
     refine af.ai ⟨[(0,_),(1,_),(5,_),(6,_),(7,I x_11)],[(1,_)]⟩ rfl (ab.seq (ab.aa ?_))
     refine Oc om (Oc om ?_)
     obtain ⟨x_12,e10,h8⟩:=aM h8
     refine Oc (ns (pss:=[[.sl 6 (del0.1.map ak)],[.i del0.2]]) (gP e10) sV rfl rfl rfl trivial rfl rfl) (Oc (dp rfl) ?_)
     refine af.ai ⟨[(0,_),(1,_),(5,_),(6,_),(7,_),(29,B (!x_12))],[(1,_)]⟩ rfl (ab.ite h8 rfl (fun _ h8=>?_) (fun _ h8=>?_))
     ·refine ab.seq (ab.aa ?_)
      refine Oc om (Oc om (Oc om ?_))
      obtain ⟨x_13,e11,h8⟩:=aM h8
      refine Oc (du cp (a6 e11) (iM e11) rfl rfl rfl rfl) (Oc (jL (i:=(i_5:Int).toNat) aK rfl rfl rfl rfl (sC e11) (map_set _ _ _ _)) ?_)
      refine af.ai ⟨[(0,_),(1,_),(5,_),(6,_)],[(1,.row 3 1 ((s_4.set (i_5:Int).toNat x_11).map eI))]⟩ rfl (ab.aa (Oc om (Oc (bK rfl rfl) (Oc oa ?_))))
      refine af.nil (Fin.az ?_)
      exact Fin.join [0,1,5,6] [1] (s_4.set (i_5:Int).toNat x_11,IntKind.i64.wrap (i_5 + 1)) (Option.some.inj h8) rfl
     ·refine ab.skip (Fin.az ?_)
      exact Fin.join [0,1,5,6] [1] (s_4,i_5) (Option.some.inj h8) rfl
    ·rintro ⟨s_9,i_10⟩ hv
     subst v7
     refine ab.aa (Oc om (Oc (bK rfl rfl) (Oc oa ?_)))
     refine af.nil ?_
     exact Fin.cu [0,1,5,6] [1] (s_9,i_10,IntKind.i64.wrap (j_6 + 1)) (Option.some.inj h5) rfl
   ·refine ab.exit (Fin.aC ?_)
    obtain rfl:=hy6 _ (Option.some.inj h5).symm
    refine Fin.aC (Fin.aY ?_)
    exact Fin.join [0,5] [1] (s_4,i_5) rfl rfl
  ·rintro ⟨s_2,i_3⟩ hv
   subst v2
   refine ab.seq (ab.aa ?_)
   refine Oc om (Oc om ?_)
   obtain ⟨z_14,e12,h⟩:=aM h
   refine af.clr (enc:=eI) cp rfl e12 rfl rfl rfl (by decide) rfl (af.ai ⟨[(0,_),(5,_)],[(1,.row 3 1 (z_14.map eI))]⟩ rfl (ab.seq (ab.aa ?_)))
   refine Oc om (Oc om ?_)
   obtain ⟨x_15,e13,h⟩:=aM h
   refine Oc (kG cp e13 rfl rfl rfl rfl) (Oc oa ?_)
   refine af.ai ⟨[(4,.b (.row 1))],[(1,.row 3 1 (x_15.map eI))]⟩ rfl (ab.ret ?_)
   obtain rfl:=Option.some.inj h
   refine Fin.ag ⟨[(4,_)],[(1,_)]⟩ rfl ?_
   exact Fin.result [.row 1] (.inl rfl) rfl (.cons (.tmp rfl) .nil) ⟨rfl,rfl⟩
def dL (F:Nat) (l0:List A2):Option (List A2) :=
 (cS F l0).bind fun x_1=>some x_1
theorem jW {F:Nat} {l0:List A2} {r:(List A2)} (h:dL F l0 = some r):aq Tryz.prog [] 47 [(1,.dm 40 2 (l0.map (dW .i64)))] [.row 1] (Is [(1,.dm 40 2 (r.map (dW .i64)))] (.ek [])):=by
 unfold dL at h
 refine aq.intro 4 Tryz.func47 Tryz.ntmps47 rfl (by simp) fun E=>?_
 show ab _ E ⟨4,[1],[1],[]⟩ _ ⟨[(0,.b (.row 1))],[(1,.dm 40 2 (l0.map (dW .i64)))]⟩ _
 refine ab.rL 1 rfl (ab.aa (Oc om (af.rO 1 rfl ?_)))
 obtain ⟨x_1,e1,h⟩:=aM h
 refine Oc (c9 (own_a:=[(1,_)]) (ji e1) goes72 rfl ⟨rfl,trivial⟩ rfl rfl) (af.rL 1 rfl (af.nil ?_))
 obtain rfl:=Option.some.inj h
 refine Fin.ag ⟨[],[(1,.row 40 2 (x_1.map (dW .i64)))]⟩ rfl (Fin.rO 1 rfl (Fin.ag ⟨[],[(1,.dm 40 2 (x_1.map (dW .i64)))]⟩ rfl ?_))
 exact Fin.result [] (.inr rfl) rfl (.nil) ⟨rfl,rfl⟩
def ew (F:Nat) (l0:List bz):Option ((List A2) × Int) :=
 (dI F l0 41).bind fun x_1=>if x_1 = true then (some ([],1)) else (Option.bind (mk? (0:Int) (l0.length:Int) (l0.length:Int)) (fun x_2=>Option.bind (iter F (eW fun order_4 x_5=>if (decide (x_5 < (x_2.length:Int))) = true then ((bb order_4 x_5).bind fun x_7=>some (.inl (order_4.set (x_5:Int).toNat x_5,IntKind.i64.wrap (x_5 + 1)))) else (some (.inr order_4))) (x_2,0)) (fun order_3=>(fl F l0 order_3).bind fun x_8=>Option.bind (iter F (un3 fun active_10 out_11 x_12=>if (decide (x_12 < (x_8.length:Int))) = true then (Option.bind ((bb x_8 x_12).bind fun x_16=>(eo F (l0,x_16) active_10).bind fun x_17=>Option.bind (iter F (eW fun out_19 x_20=>if (decide (x_20 < (x_17.length:Int))) = true then (Option.bind ((bb x_17 x_20).bind fun x_23=>(bb l0 x_16).bind fun x_24=>(bb l0 x_23).bind fun x_25=>(b9 F x_24 x_25).bind fun x_26=>if x_26 = true then ((mP out_19 [(⟨min x_16 x_23,max x_16 x_23⟩:A2)]).bind fun x_27=>some x_27) else (some out_19)) (fun out_22=>some (.inl (out_22,IntKind.i64.wrap (x_20 + 1))))) else (some (.inr out_19))) (out_11,0)) (fun out_18=>(mP x_17 [x_16]).bind fun x_28=>some (x_28,out_18))) (eW fun active_14 out_15=>some (.inl (active_14,out_15,IntKind.i64.wrap (x_12 + 1))))) else (some (.inr out_11))) ([],[],0)) (fun out_9=>(dL F out_9).bind fun x_29=>some (x_29,0)))))
theorem iE (kr0:Nat) {F:Nat} {l0:List bz} {r:(List A2) × Int} (h:ew F l0 = some r):aq Tryz.prog [] 20 [] [.one (.sl 6 (l0.map ak))] (Is [(kr0,.row 40 2 (r.1.map (dW .i64)))] (.ek [.row kr0,.one (.i r.2)])):=by
 unfold ew at h
 refine aq.intro 73 Tryz.func20 Tryz.ntmps20 rfl (by simp) fun E=>?_
 show ab _ E ⟨73,[],[],[]⟩ _ ⟨[(0,.b (.one (.sl 6 (l0.map ak))))],[]⟩ _
 refine ab.seq (ab.aa ?_)
 refine Oc (oW rfl) (Oc oa (Oc oa ?_))
 refine af.ai ⟨[(1,.b (.aN [.sl 6 (l0.map ak)]))],[]⟩ rfl (ab.seq (ab.seq (ab.aa ?_)))
 refine Oc (ax jX rfl rfl) ?_
 obtain ⟨x_1,e1,h⟩:=aM h
 refine Oc (aj (im e1) goes40 rfl rfl) (af.ai ⟨[(1,_),(13,B x_1)],[]⟩ rfl (ab.ite h rfl (fun _ h=>?_) (fun _ h=>?_)))
 ·refine ab.seq (ab.aa ?_)
  refine Oc oa (Oc oa ?_)
  refine af.ai ⟨[(2,.b (.one (.nil))),(3,I 1)],[]⟩ rfl (ab.ret (Fin.av ?_))
  obtain rfl:=Option.some.inj h
  refine Fin.ag ⟨[(2,_),(3,_)],[]⟩ rfl (Fin.fq 2 101 2 40 rfl (by decide) rfl (Fin.lA 101 kr0 [.row 101,.one (.i 1)] (.inl rfl) rfl (.cons (.tmp rfl) (.cons (.tmp rfl) .nil)) rfl rfl rfl rfl ⟨rfl,rfl⟩))
 ·refine ab.skip (Fin.ag ⟨[(1,_)],[]⟩ rfl (Fin.then (ab.seq (ab.aa ?_))))
  refine Oc (ax jX rfl rfl) (Oc (bR und34 rfl (List.length_map _)) ?_)
  obtain ⟨x_2,e2,h⟩:=aM h
  refine Oc (pb (k:=102) (enc:=eI) cp e2 (by decide) (.cons .refl .nil) rfl rfl rfl) (Oc oa ?_)
  refine af.ai ⟨[(1,_),(4,.b (.row 102))],[(102,.row 3 1 (x_2.map eI))]⟩ rfl ?_
  obtain ⟨v3,h4,h⟩:=aM h
  refine ab.dX (v:=v3) (fun (order_3:List Int)=>⟨[(1,.b (.aN [.sl 6 (l0.map ak)])),(4,.b (.row 102))],[(102,.row 3 1 (order_3.map eI))]⟩) (fun z=>z) ?_ ?_
  ·refine ab.seq (ab.aa ?_)
   refine Oc om (Oc (eK eZ rfl rfl (List.length_map _)) (Oc om ?_))
   refine af.ai ⟨[(1,_),(4,_),(18,I (x_2.length:Int)),(19,I 0)],[(102,_)]⟩ rfl (ab.block (ab.c6 h4 (eW fun (order_4:List Int) (x_5:Int)=>⟨[(1,.b (.aN [.sl 6 (l0.map ak)])),(4,.b (.row 102)),(18,I (x_2.length:Int)),(19,I x_5)],[(102,.row 3 1 (order_4.map eI))]⟩) [1,4,18,19] [102] rfl ?_))
   rintro ⟨order_4,x_5⟩ o5 h6 hy7
   refine ab.seq (ab.aa ?_)
   refine Oc (bf rfl rfl) (af.ai ⟨[(1,_),(4,_),(18,_),(19,_),(20,B (decide (x_5 < (x_2.length:Int))))],[(102,_)]⟩ rfl (ab.seq (ab.ite h6 rfl (fun _ h6=>?_) (fun _ h6=>?_))))
   ·refine ab.skip (Fin.ag ⟨[(1,_),(4,_),(18,_),(19,_)],[(102,_)]⟩ rfl (Fin.then (ab.seq (ab.block (ab.seq (ab.aa ?_))))))
    refine Oc om (Oc oa ?_)
    refine af.ai ⟨[(1,_),(4,_),(5,I x_5),(18,_),(19,_)],[(102,_)]⟩ rfl (ab.aa (Oc om (Oc om (Oc om ?_))))
    obtain ⟨x_7,e8,h6⟩:=aM h6
    refine Oc (du cp (a6 e8) (iM e8) rfl rfl rfl rfl) (Oc (jL (i:=(x_5:Int).toNat) aK rfl rfl rfl rfl (sC e8) (map_set _ _ _ _)) ?_)
    refine af.nil (Fin.az (Fin.ag ⟨[(1,_),(4,_),(18,_),(19,_)],[(102,.row 3 1 ((order_4.set (x_5:Int).toNat x_5).map eI))]⟩ rfl (Fin.then (ab.aa ?_))))
    refine Oc (bK rfl rfl) (Oc om ?_)
    refine af.nil ?_
    exact Fin.cu [1,4,18,19] [102] (order_4.set (x_5:Int).toNat x_5,IntKind.i64.wrap (x_5 + 1)) (Option.some.inj h6) rfl
   ·refine ab.exit (Fin.aC ?_)
    obtain rfl:=hy7 _ (Option.some.inj h6).symm
    refine Fin.aC (Fin.aY ?_)
    exact Fin.join [1,4] [102] order_4 rfl rfl
  ·rintro order_3 hv
   subst v3
   refine ab.seq (ab.aa ?_)
   refine Oc om (Oc (gv rfl) ?_)
   refine af.rO 102 rfl ?_
   obtain ⟨x_8,e9,h⟩:=aM h
   refine Oc (c9 (own_a:=[(102,_)]) ((jU e9).sw 1 102) goes42 rfl ⟨rfl,trivial⟩ rfl rfl) (af.rL 102 rfl (af.ai ⟨[(1,_),(4,_)],[(102,.row 3 1 (x_8.map eI))]⟩ rfl (ab.seq (ab.aa ?_))))
   refine Oc oa (af.ai ⟨[(1,_),(4,_),(6,.b (.one (.nil)))],[(102,_)]⟩ rfl (ab.seq (ab.aa ?_)))
   refine Oc oa (af.ai ⟨[(1,_),(4,_),(6,_),(7,.b (.one (.nil)))],[(102,_)]⟩ rfl ?_)
   obtain ⟨v10,h11,h⟩:=aM h
   refine ab.dX (v:=v10) (fun (out_9:List A2)=>⟨[(7,.b (.row 106))],[(106,.row 40 2 (out_9.map (dW .i64)))]⟩) (fun z=>z) ?_ ?_
   ·refine ab.seq (ab.aa ?_)
    refine Oc om (Oc (eK eZ rfl rfl (List.length_map _)) (Oc om ?_))
    refine af.ai ⟨[(1,_),(6,_),(7,_),(30,.b (.row 102)),(31,I (x_8.length:Int)),(32,I 0)],[(102,_)]⟩ rfl (ab.block (ab.fq 6 104 1 3 rfl (by decide) rfl (ab.fq 7 106 2 40 rfl (by decide) rfl (ab.c6 h11 (un3 fun (active_10:List Int) (out_11:List A2) (x_12:Int)=>⟨[(1,.b (.aN [.sl 6 (l0.map ak)])),(6,.b (.row 104)),(7,.b (.row 106)),(30,.b (.row 102)),(31,I (x_8.length:Int)),(32,I x_12)],[(102,.row 3 1 (x_8.map eI)),(104,.row 3 1 (active_10.map eI)),(106,.row 40 2 (out_11.map (dW .i64)))]⟩) [1,6,7,30,31,32] [102,104,106] rfl ?_))))
    rintro ⟨active_10,out_11,x_12⟩ o12 h13 hy14
    refine ab.seq (ab.aa ?_)
    refine Oc (bf rfl rfl) (af.ai ⟨[(1,_),(6,_),(7,_),(30,_),(31,_),(32,_),(33,B (decide (x_12 < (x_8.length:Int))))],[(102,_),(104,_),(106,_)]⟩ rfl (ab.seq (ab.ite h13 rfl (fun _ h13=>?_) (fun _ h13=>?_))))
    ·refine ab.skip (Fin.ag ⟨[(1,_),(6,_),(7,_),(30,_),(31,_),(32,_)],[(102,_),(104,_),(106,_)]⟩ rfl (Fin.then ?_))
     obtain ⟨v15,h16,h13⟩:=aM h13
     refine ab.dX (v:=v15) (eW fun (active_14:List Int) (out_15:List A2)=>⟨[(1,.b (.aN [.sl 6 (l0.map ak)])),(6,.b (.row 104)),(7,.b (.row 106)),(30,.b (.row 102)),(31,I (x_8.length:Int)),(32,I x_12)],[(102,.row 3 1 (x_8.map eI)),(104,.row 3 1 (active_14.map eI)),(106,.row 40 2 (out_15.map (dW .i64)))]⟩) (fun z=>z) ?_ ?_
     ·refine ab.block (ab.seq (ab.aa ?_))
      obtain ⟨x_16,e17,h16⟩:=aM h16
      refine Oc (du cp (a6 e17) (iM e17) rfl rfl rfl rfl) (Oc (fy (i:=(x_12:Int).toNat) (f:=0) aK rfl rfl rfl (cM (e:=eI) e17) rfl) (Oc (aW (k:=107) tyZero3 rfl) (Oc (cC aK rfl rfl rfl (Nat.le_of_ble_eq_true rfl) rfl) ?_)))
      refine af.fO 107 rfl (af.ai ⟨[(1,_),(6,_),(7,_),(9,.b (.aN [.i x_16])),(30,_),(31,_),(32,_)],[(102,_),(104,_),(106,_)]⟩ rfl (ab.seq (ab.aa ?_)))
      refine Oc om (Oc (gv rfl) ?_)
      obtain ⟨x_17,e18,h16⟩:=aM h16
      refine Oc (c9 (own_a:=[(104,_)]) ((jb e18).sw 1 104) goes45 rfl ⟨rfl,trivial⟩ rfl rfl) (Oc oa ?_)
      refine af.ai ⟨[(1,_),(6,_),(7,_),(9,_),(30,_),(31,_),(32,_)],[(102,_),(104,.row 3 1 (x_17.map eI)),(106,_)]⟩ rfl ?_
      obtain ⟨v19,h20,h16⟩:=aM h16
      refine ab.dX (v:=v19) (fun (out_18:List A2)=>⟨[(1,.b (.aN [.sl 6 (l0.map ak)])),(6,.b (.row 104)),(7,.b (.row 106)),(9,.b (.aN [.i x_16])),(30,.b (.row 102)),(31,I (x_8.length:Int)),(32,I x_12)],[(102,.row 3 1 (x_8.map eI)),(104,.row 3 1 (x_17.map eI)),(106,.row 40 2 (out_18.map (dW .i64)))]⟩) (fun z=>z) ?_ ?_
      ·refine ab.seq (ab.aa ?_)
       refine Oc om (Oc (eK eZ rfl rfl (List.length_map _)) (Oc om ?_))
       refine af.ai ⟨[(1,_),(6,_),(7,_),(9,_),(30,_),(31,_),(32,_),(39,.b (.row 104)),(40,I (x_17.length:Int)),(41,I 0)],[(102,_),(104,_),(106,_)]⟩ rfl (ab.block (ab.c6 h20 (eW fun (out_19:List A2) (x_20:Int)=>⟨[(1,.b (.aN [.sl 6 (l0.map ak)])),(6,.b (.row 104)),(7,.b (.row 106)),(9,.b (.aN [.i x_16])),(30,.b (.row 102)),(31,I (x_8.length:Int)),(32,I x_12),(39,.b (.row 104)),(40,I (x_17.length:Int)),(41,I x_20)],[(102,.row 3 1 (x_8.map eI)),(104,.row 3 1 (x_17.map eI)),(106,.row 40 2 (out_19.map (dW .i64)))]⟩) [1,6,7,9,30,31,32,39,40,41] [102,104,106] rfl ?_))
       rintro ⟨out_19,x_20⟩ o21 h22 hy23
       refine ab.seq (ab.aa ?_)
       refine Oc (bf rfl rfl) (af.ai ⟨[(1,_),(6,_),(7,_),(9,_),(30,_),(31,_),(32,_),(39,_),(40,_),(41,_),(42,B (decide (x_20 < (x_17.length:Int))))],[(102,_),(104,_),(106,_)]⟩ rfl (ab.seq (ab.ite h22 rfl (fun _ h22=>?_) (fun _ h22=>?_))))
       ·refine ab.skip (Fin.ag ⟨[(1,_),(6,_),(7,_),(9,_),(30,_),(31,_),(32,_),(39,_),(40,_),(41,_)],[(102,_),(104,_),(106,_)]⟩ rfl (Fin.then ?_))
        obtain ⟨v24,h25,h22⟩:=aM h22
        refine ab.dX (v:=v24) (fun (out_22:List A2)=>⟨[(1,.b (.aN [.sl 6 (l0.map ak)])),(6,.b (.row 104)),(7,.b (.row 106)),(9,.b (.aN [.i x_16])),(30,.b (.row 102)),(31,I (x_8.length:Int)),(32,I x_12),(39,.b (.row 104)),(40,I (x_17.length:Int)),(41,I x_20)],[(102,.row 3 1 (x_8.map eI)),(104,.row 3 1 (x_17.map eI)),(106,.row 40 2 (out_22.map (dW .i64)))]⟩) (fun z=>z) ?_ ?_
        ·refine ab.block (ab.seq (ab.aa ?_))
         obtain ⟨x_23,e26,h25⟩:=aM h25
         refine Oc (du cp (a6 e26) (iM e26) rfl rfl rfl rfl) (Oc (fy (i:=(x_20:Int).toNat) (f:=0) aK rfl rfl rfl (cM (e:=eI) e26) rfl) (Oc oa ?_))
         refine af.ai ⟨[(1,_),(6,_),(7,_),(9,_),(11,I x_23),(30,_),(31,_),(32,_),(39,_),(40,_),(41,_)],[(102,_),(104,_),(106,_)]⟩ rfl (ab.seq ?_)
         obtain ⟨x_24,e27,h25⟩:=aM h25
         obtain ⟨x_25,e28,h25⟩:=aM h25
         obtain ⟨x_26,e29,h25⟩:=aM h25
         refine ab.bH mixed 9 [.b (.one (.sl 6 (l0.map ak))),I x_16,.b (.aN (ak x_24)),.b (.agg (ak x_24)),.b (.one (.sl 6 (l0.map ak))),I x_23,.b (.aN (ak x_25)),.b (.agg (ak x_25)),B x_26] [1,6,7,9,11,30,31,32,39,40,41,53] [102,104,106] (s':=⟨[(1,_),(6,_),(7,_),(9,_),(11,_),(30,_),(31,_),(32,_),(39,_),(40,_),(41,_),(53,B x_26)],[(102,_),(104,_),(106,_)]⟩) rfl ⟨fun _=>.p (ax jX rfl rfl),fun _=>.p (ax aK rfl rfl),fun _=>.p (bA kR (a6 e27) (cM (e:=ak) e27) rfl rfl),fun _=>.p (cw ao rfl rfl rfl),fun _=>.p (ax jX rfl rfl),fun _=>.p om,fun _=>.p (bA kR (a6 e28) (cM (e:=ak) e28) rfl rfl),fun _=>.p (cw ao rfl rfl rfl),fun _=>.p (aj (cH e29) kV rfl rfl),trivial⟩ rfl rfl (ab.ite h25 rfl (fun _ h25=>?_) (fun _ h25=>?_))
         ·refine ab.aa (Oc om (Oc (ax aK rfl rfl) (Oc om (Oc (qw rfl rfl) (Oc (ax aK rfl rfl) (Oc om ?_))))))
          refine af.ag ⟨[(1,_),(6,_),(7,_),(9,_),(30,_),(31,_),(32,_),(39,_),(40,_),(41,_),(54,.b (.row 106)),(57,I (min x_16 x_23)),(58,I x_16),(59,I x_23)],[(102,_),(104,_),(106,_)]⟩ rfl (Oc (oL rfl rfl) (Oc (dD eJ rfl rfl) (Oc (cA (k:=108) (es:=[(⟨min x_16 x_23,max x_16 x_23⟩:A2)].map (dW .i64)) hX rfl rfl (cN fun _=>rfl) rfl (by decide) (by decide) rfl) ?_)))
          obtain ⟨x_27,e30,h25⟩:=aM h25
          refine Oc (fS hX (pz e30) (py e30) rfl rfl rfl rfl (lF e30) rfl) (Oc oa ?_)
          refine af.nil (Fin.az ?_)
          exact Fin.join [1,6,7,9,30,31,32,39,40,41] [102,104,106] x_27 (Option.some.inj h25) rfl
         ·refine ab.skip (Fin.az ?_)
          exact Fin.join [1,6,7,9,30,31,32,39,40,41] [102,104,106] out_19 (Option.some.inj h25) rfl
        ·rintro out_22 hv
         subst v24
         refine ab.aa (Oc (bK rfl rfl) (Oc om ?_))
         refine af.nil ?_
         exact Fin.cu [1,6,7,9,30,31,32,39,40,41] [102,104,106] (out_22,IntKind.i64.wrap (x_20 + 1)) (Option.some.inj h22) rfl
       ·refine ab.exit (Fin.aC ?_)
        obtain rfl:=hy23 _ (Option.some.inj h22).symm
        refine Fin.aC (Fin.aY ?_)
        exact Fin.join [1,6,7,9,30,31,32] [102,104,106] out_19 rfl rfl
      ·rintro out_18 hv
       subst v19
       refine ab.aa (Oc om (Oc (ax aK rfl rfl) (Oc (cA (k:=109) (es:=[x_16].map eI) cp rfl rfl (cN fun _=>rfl) rfl (by decide) (by decide) rfl) ?_)))
       obtain ⟨x_28,e31,h16⟩:=aM h16
       refine Oc (fS cp (pz e31) (py e31) rfl rfl rfl rfl (lF e31) rfl) (Oc oa ?_)
       refine af.nil (Fin.az ?_)
       exact Fin.join [1,6,7,30,31,32] [102,104,106] (x_28,out_18) (Option.some.inj h16) rfl
     ·rintro ⟨active_14,out_15⟩ hv
      subst v15
      refine ab.aa (Oc (bK rfl rfl) (Oc om ?_))
      refine af.nil ?_
      exact Fin.cu [1,6,7,30,31,32] [102,104,106] (active_14,out_15,IntKind.i64.wrap (x_12 + 1)) (Option.some.inj h13) rfl
    ·refine ab.exit (Fin.aC ?_)
     obtain rfl:=hy14 _ (Option.some.inj h13).symm
     refine Fin.aC (Fin.aY ?_)
     exact Fin.join [7] [106] out_11 rfl rfl
   ·rintro out_9 hv
    subst v10
    refine ab.seq (ab.aa ?_)
    refine Oc om (af.rO 106 rfl ?_)
    obtain ⟨x_29,e32,h⟩:=aM h
    refine Oc (c9 (own_a:=[(106,_)]) ((jW e32).sw 1 106) goes47 rfl ⟨rfl,trivial⟩ rfl rfl) (af.rL 106 rfl (af.ai ⟨[(7,_)],[(106,.row 40 2 (x_29.map (dW .i64)))]⟩ rfl (ab.seq (ab.aa ?_))))
    refine Oc om (Oc oa (Oc oa ?_))
    refine af.ai ⟨[(2,.b (.row 106)),(3,I 0)],[(106,_)]⟩ rfl (ab.ret ?_)
    obtain rfl:=Option.some.inj h
    refine Fin.ag ⟨[(2,_),(3,_)],[(106,_)]⟩ rfl (Fin.lA 106 kr0 [.row 106,.one (.i 0)] (.inl rfl) rfl (.cons (.tmp rfl) (.cons (.tmp rfl) .nil)) rfl rfl rfl rfl ⟨rfl,rfl⟩)
def bT (F:Nat) (a0:List A2) (b0:List A2):Option Bool :=
 if (decide ((a0.length:Int) ≠ (b0.length:Int))) = true then (some false) else (Option.bind (iter F (fun i_1=>if (decide (i_1 < (a0.length:Int))) = true then ((bb a0 i_1).bind fun x_2=>(bb b0 i_1).bind fun x_3=>if (decide (x_2 ≠ x_3)) = true then (some (.inr (.inr false))) else (some (.inl (IntKind.i64.wrap (i_1 + 1))))) else (some (.inr (.inl ())))) 0) (ct (fun _=>some true) (fun y=>some y)))
theorem cI {F:Nat} {a0:List A2} {b0:List A2} {r:Bool} (h:bT F a0 b0 = some r):aq Tryz.prog [] 22 [] [.one (.sl 2 (a0.map (dW .i64))),.one (.sl 2 (b0.map (dW .i64)))] (Is [] (.b (.one (.bool r)))):=by
 unfold bT at h
 refine aq.intro 26 Tryz.func22 Tryz.ntmps22 rfl (by simp) fun E=>?_
 show ab _ E ⟨26,[],[],[]⟩ _ ⟨[(0,.b (.one (.sl 2 (a0.map (dW .i64))))),(1,.b (.one (.sl 2 (b0.map (dW .i64)))))],[]⟩ _
 refine ab.seq (ab.aa ?_)
 refine Oc oa (af.ai ⟨[(0,.b (.one (.sl 2 (a0.map (dW .i64))))),(1,.b (.one (.sl 2 (b0.map (dW .i64)))))],[]⟩ rfl (ab.seq (ab.seq (ab.aa ?_))))
 refine Oc om (Oc (bR q6 rfl (List.length_map _)) (Oc om (Oc (bR q6 rfl (List.length_map _)) (Oc (jz rfl rfl) ?_))))
 refine af.ai ⟨[(0,_),(1,_),(10,B (decide ((a0.length:Int) ≠ (b0.length:Int))))],[]⟩ rfl (ab.ite h rfl (fun _ h=>?_) (fun _ h=>?_))
 ·refine ab.seq (ab.aa ?_)
  refine Oc oa (af.ai ⟨[(4,B false)],[]⟩ rfl (ab.ret (Fin.av ?_)))
  obtain rfl:=Option.some.inj h
  refine Fin.ag ⟨[(4,_)],[]⟩ rfl (Fin.au [.one (.bool false)] (.inl rfl) rfl (.cons (.tmp rfl) .nil) ⟨rfl,rfl⟩)
 ·refine ab.skip (Fin.ag ⟨[(0,_),(1,_)],[]⟩ rfl (Fin.then ?_))
  obtain ⟨v1,h2,h⟩:=aM h
  refine ab.dX (v:=v1) (fun (_:Unit)=>⟨[],[]⟩) (fun z=>.inl z) ?_ ?_
  ·refine ab.seq (ab.aa ?_)
   refine Oc oa (af.ai ⟨[(0,_),(1,_),(5,I 0)],[]⟩ rfl (ab.block (ab.c6 h2 (fun (i_1:Int)=>⟨[(0,.b (.one (.sl 2 (a0.map (dW .i64))))),(1,.b (.one (.sl 2 (b0.map (dW .i64))))),(5,I i_1)],[]⟩) [0,1,5] [] rfl ?_)))
   rintro i_1 o3 h4 hy5
   refine ab.seq (ab.seq (ab.aa ?_))
   refine Oc om (Oc om (Oc (bR q6 rfl (List.length_map _)) (Oc (bf rfl rfl) ?_)))
   refine af.ai ⟨[(0,_),(1,_),(5,_),(14,B (decide (i_1 < (a0.length:Int))))],[]⟩ rfl (ab.ite h4 rfl (fun _ h4=>?_) (fun _ h4=>?_))
   ·refine ab.skip (Fin.ag ⟨[(0,_),(1,_),(5,_)],[]⟩ rfl (Fin.then (ab.seq (ab.block (ab.seq ?_)))))
    refine ab.ag ⟨[(0,_),(1,_),(5,_)],[]⟩ rfl ?_
    obtain ⟨x_2,e6,h4⟩:=aM h4
    obtain ⟨x_3,e7,h4⟩:=aM h4
    refine ab.bH mixed 9 [.b (.one (.sl 2 (a0.map (dW .i64)))),I i_1,.b (.aN ((dW .i64) x_2)),.b (.agg ((dW .i64) x_2)),.b (.one (.sl 2 (b0.map (dW .i64)))),I i_1,.b (.aN ((dW .i64) x_3)),.b (.agg ((dW .i64) x_3)),B (decide (x_2 ≠ x_3))] [0,1,5,25] [] (s':=⟨[(0,_),(1,_),(5,_),(25,B (decide (x_2 ≠ x_3)))],[]⟩) rfl ⟨fun _=>.p om,fun _=>.p om,fun _=>.p (bA hX (a6 e6) (cM (e:=(dW .i64)) e6) rfl rfl),fun _=>.p (cw mT rfl rfl rfl),fun _=>.p om,fun _=>.p om,fun _=>.p (bA hX (a6 e7) (cM (e:=(dW .i64)) e7) rfl rfl),fun _=>.p (cw mT rfl rfl rfl),fun _=>.p (nC (eqAgg40 x_2 x_3) rfl rfl ry),trivial⟩ rfl rfl (ab.ite h4 rfl (fun _ h4=>?_) (fun _ h4=>?_))
    ·refine ab.seq (ab.aa ?_)
     refine Oc oa (af.ai ⟨[(4,B false)],[]⟩ rfl (ab.ret (Fin.aS (Fin.av ?_))))
     obtain rfl:=hy5 _ (Option.some.inj h4).symm
     refine Fin.av (Fin.aS (Fin.av ?_))
     obtain rfl:=Option.some.inj h
     refine Fin.ag ⟨[(4,_)],[]⟩ rfl (Fin.au [.one (.bool false)] (.inl rfl) rfl (.cons (.tmp rfl) .nil) ⟨rfl,rfl⟩)
    ·refine ab.skip (Fin.az (Fin.ag ⟨[(0,_),(1,_),(5,_)],[]⟩ rfl (Fin.then (ab.aa ?_))))
     refine Oc om (Oc (bK rfl rfl) (Oc oa ?_))
     refine af.nil ?_
     exact Fin.cu [0,1,5] [] (IntKind.i64.wrap (i_1 + 1)) (Option.some.inj h4) rfl
   ·refine ab.exit (Fin.aC ?_)
    obtain rfl:=hy5 _ (Option.some.inj h4).symm
    refine Fin.aC (Fin.aY ?_)
    exact Fin.join [] [] () rfl rfl
  ·rintro _ hv
   subst v1
   refine ab.seq (ab.aa ?_)
   refine Oc oa (af.ai ⟨[(4,B true)],[]⟩ rfl (ab.ret ?_))
   obtain rfl:=Option.some.inj h
   refine Fin.ag ⟨[(4,_)],[]⟩ rfl (Fin.au [.one (.bool true)] (.inl rfl) rfl (.cons (.tmp rfl) .nil) ⟨rfl,rfl⟩)
def jO (F:Nat):Option c7 :=
 some (⟨(⟨.leaf,50,48,49⟩:ir),(⟨.leaf,51,48,49⟩:ir)⟩:c7)
theorem jS {F:Nat} {r:c7} (h:jO F = some r):aq Tryz.prog [] 23 [] [] (Is [] (.b (.agg (aJ r)))):=by
 unfold jO at h
 refine aq.intro 14 Tryz.func23 Tryz.ntmps23 rfl (by simp) fun E=>?_
 show ab _ E ⟨14,[],[],[]⟩ _ ⟨[],[]⟩ _
 refine ab.seq (ab.aa ?_)
 refine Oc (aW (k:=101) fh rfl) (af.ai ⟨[(0,Pt 101 0)],[(101,.box 49 [.tr ae (.leaf),.cV 0,.cV 0,.cV 0,.tr ae (.leaf),.cV 0,.cV 0,.cV 0])]⟩ rfl (ab.seq (ab.aa ?_)))
 refine Oc oa (af.ai ⟨[(0,_),(1,.b (.one (.raw (.func (.func 48) #[] #[]))))],[(101,_)]⟩ rfl (ab.seq (ab.aa ?_)))
 refine Oc oa (af.ai ⟨[(0,_),(1,_),(2,.b (.one (.raw (.func (.func 49) #[] #[]))))],[(101,_)]⟩ rfl (ab.seq (ab.aa ?_)))
 refine Oc oa (af.ai ⟨[(0,_),(1,_),(2,_),(3,.b (.one (.raw (.func (.func 50) #[] #[]))))],[(101,_)]⟩ rfl (ab.seq (ab.aa ?_)))
 refine Oc oa (af.ai ⟨[(0,_),(1,_),(2,_),(3,_),(4,.b (.one (.raw (.func (.func 51) #[] #[]))))],[(101,_)]⟩ rfl (ab.seq (ab.aa ?_)))
 refine Oc om (Oc om (Oc om (Oc (cg oh rfl rfl) (Oc om (Oc om ?_)))))
 refine Oc om (af.ag ⟨[(0,_),(8,.b (.agg [.tr ae (.leaf),.raw (.func (.func 50) #[] #[]),.raw (.func (.func 48) #[] #[]),.raw (.func (.func 49) #[] #[])])),(9,.b (.one (.raw (.func (.func 51) #[] #[])))),(10,.b (.one (.raw (.func (.func 48) #[] #[])))),(11,.b (.one (.raw (.func (.func 49) #[] #[]))))],[(101,_)]⟩ rfl (Oc (cg oh rfl rfl) (Oc (cg eH rfl rfl) (Oc (aD aU rfl rfl rfl rfl (Nat.le_of_ble_eq_true rfl) rfl) ?_))))
 refine af.ai ⟨[(0,_)],[(101,.box 49 [.tr ae (.leaf),.raw (.func (.func 50) #[] #[]),.raw (.func (.func 48) #[] #[]),.raw (.func (.func 49) #[] #[]),.tr ae (.leaf),.raw (.func (.func 51) #[] #[]),.raw (.func (.func 48) #[] #[]),.raw (.func (.func 49) #[] #[])])]⟩ rfl (ab.ret ?_)
 obtain rfl:=Option.some.inj h
 refine Fin.ag ⟨[(0,_)],[(101,_)]⟩ rfl (Fin.au [.agg [.tr ae (.leaf),.raw (.func (.func 50) #[] #[]),.raw (.func (.func 48) #[] #[]),.raw (.func (.func 49) #[] #[]),.tr ae (.leaf),.raw (.func (.func 51) #[] #[]),.raw (.func (.func 48) #[] #[]),.raw (.func (.func 49) #[] #[])]] (.inl rfl) rfl (.cons (.agg aU rfl rfl rfl rfl) .nil) ⟨rfl,rfl⟩)
def cn (F:Nat) (s0:c7) (id0:Int):Option (entry × Bool) :=
 Option.bind (iter F (fun n_1=>if (!n_1.cW) = true then (Option.bind (iK n_1) (fun nd_2=>if (decide (id0 = nd_2.1.x.id)) = true then (Option.bind (iK n_1) (fun nd_3=>some (.inr (.inr (nd_3.1.x,true))))) else (Option.bind (iK n_1) (fun nd_4=>if (decide (id0 < nd_4.1.x.id)) = true then (Option.bind (iK n_1) (fun nd_5=>some (.inl nd_5.2.1))) else (Option.bind (iK n_1) (fun nd_6=>some (.inl nd_6.2.2))))))) else (some (.inr (.inl ())))) s0.ids.root) (ct (fun _=>er (⟨0,(⟨A3.zero,A3.zero⟩:bz)⟩:entry) fun x_7=>some (x_7,false)) (fun y=>some y))
theorem eG {F:Nat} {s0:c7} {id0:Int} {r:entry × Bool} (h:cn F s0 id0 = some r):aq Tryz.prog [] 54 [] [.agg (aJ s0),.one (.i id0)] (Is [] (.ek [.agg (ar r.1),.one (.bool r.2)])):=by
 unfold cn at h
 refine aq.intro 41 Tryz.func54 Tryz.ntmps54 rfl (by simp) fun E=>?_
 show ab _ E ⟨41,[],[],[]⟩ _ ⟨[(0,.b (.agg (aJ s0))),(1,I id0)],[]⟩ _
 refine ab.seq (ab.aa ?_)
 refine Oc (bp (k:=101) rfl rfl) (Oc (aW (k:=102) gF rfl) (Oc oa ?_))
 refine af.ai ⟨[(1,I id0),(2,Pt 101 0),(4,Pt 102 0)],[(101,.box 49 (aJ s0)),(102,.box 87 (.i 0 :: ((bI .i64) A3.zero ++ ((bI .i64) A3.zero))))]⟩ rfl ?_
 obtain ⟨v1,h2,h⟩:=aM h
 refine ab.dX (v:=v1) (fun (_:Unit)=>⟨[(4,Pt 102 0)],[(102,.box 87 (.i 0 :: ((bI .i64) A3.zero ++ ((bI .i64) A3.zero))))]⟩) (fun z=>.inl z) ?_ ?_
 ·refine ab.seq (ab.aa ?_)
  refine Oc (an ka rfl rfl) (Oc (an fu rfl rfl) (Oc (aE bq rfl rfl rfl) (Oc oa ?_)))
  refine af.ai ⟨[(1,_),(4,_),(6,.b (.one (.tr ae s0.ids.root)))],[(102,_)]⟩ rfl (ab.block (ab.c6 h2 (fun (n_1:cG bc)=>⟨[(1,I id0),(4,Pt 102 0),(6,.b (.one (.tr ae n_1)))],[(102,.box 87 (.i 0 :: ((bI .i64) A3.zero ++ ((bI .i64) A3.zero))))]⟩) [1,4,6] [102] rfl ?_))
  rintro n_1 o3 h4 hy5
  refine ab.seq (ab.seq (ab.aa ?_))
  refine Oc om (Oc (p8 kQ rfl) ?_)
  refine af.ai ⟨[(1,_),(4,_),(6,_),(11,B (!n_1.cW))],[(102,_)]⟩ rfl (ab.ite h4 rfl (fun _ h4=>?_) (fun _ h4=>?_))
  ·refine ab.skip (Fin.ag ⟨[(1,_),(4,_),(6,_)],[(102,_)]⟩ rfl (Fin.then (ab.block (ab.block (ab.seq (ab.aa ?_))))))
   refine Oc om (Oc om ?_)
   obtain ⟨nd_2,e6,h4⟩:=aM h4
   refine Oc (aG e6 rfl rfl) (Oc (aF dP rfl rfl) (Oc (aF dC rfl rfl) (Oc (ax aK rfl rfl) (Oc (dG rfl rfl) (Oc oa ?_)))))
   refine af.ai ⟨[(1,_),(4,_),(6,_),(16,B (decide (id0 = nd_2.1.x.id)))],[(102,_)]⟩ rfl (ab.ite h4 rfl (fun _ h4=>?_) (fun _ h4=>?_))
   ·refine ab.seq (ab.aa ?_)
    refine Oc om ?_
    obtain ⟨nd_3,e7,h4⟩:=aM h4
    refine Oc (aG e7 rfl rfl) (Oc (aF dP rfl rfl) (Oc (cw br rfl rfl rfl) (Oc (aD br rfl rfl rfl rfl (Nat.le_of_ble_eq_true rfl) rfl) (Oc oa ?_))))
    refine af.ai ⟨[(4,_),(5,B true)],[(102,.box 87 (ar nd_3.1.x))]⟩ rfl (ab.ret (Fin.aS (Fin.aS ?_)))
    obtain rfl:=hy5 _ (Option.some.inj h4).symm
    refine Fin.av (Fin.aS (Fin.av ?_))
    obtain rfl:=Option.some.inj h
    refine Fin.ag ⟨[(4,_),(5,_)],[(102,_)]⟩ rfl (Fin.au [.agg (ar nd_3.1.x),.one (.bool true)] (.inl rfl) rfl (.cons (.agg br rfl rfl rfl rfl) (.cons (.tmp rfl) .nil)) ⟨rfl,rfl⟩)
   ·refine ab.seq (ab.aa ?_)
    refine Oc om (Oc om ?_)
    obtain ⟨nd_4,e8,h4⟩:=aM h4
    refine Oc (aG e8 rfl rfl) (Oc (aF dP rfl rfl) (Oc (aF dC rfl rfl) (Oc (ax aK rfl rfl) (Oc (bf rfl rfl) (Oc oa ?_)))))
    refine af.ai ⟨[(1,_),(4,_),(6,_),(28,B (decide (id0 < nd_4.1.x.id)))],[(102,_)]⟩ rfl (ab.ite h4 rfl (fun _ h4=>?_) (fun _ h4=>?_))
    ·refine ab.aa (Oc om ?_)
     obtain ⟨nd_5,e9,h4⟩:=aM h4
     refine Oc (aG e9 rfl rfl) (Oc (aF dt rfl rfl) (Oc (ax bq rfl rfl) (Oc oa ?_)))
     refine af.nil (Fin.az (Fin.az ?_))
     exact Fin.cu [1,4,6] [102] nd_5.2.1 (Option.some.inj h4) rfl
    ·refine ab.aa (Oc om ?_)
     obtain ⟨nd_6,e10,h4⟩:=aM h4
     refine Oc (aG e10 rfl rfl) (Oc (aF dr rfl rfl) (Oc (ax bq rfl rfl) (Oc oa ?_)))
     refine af.nil (Fin.az (Fin.az ?_))
     exact Fin.cu [1,4,6] [102] nd_6.2.2 (Option.some.inj h4) rfl
  ·refine ab.exit (Fin.aC ?_)
   obtain rfl:=hy5 _ (Option.some.inj h4).symm
   refine Fin.aC (Fin.aY ?_)
   exact Fin.join [4] [102] () rfl rfl
 ·rintro _ hv
  subst v1
  refine ab.seq (ab.aa ?_)
  refine af.ly ar h rfl (cg og rfl rfl) (fun x_7 h=>?_)
  refine Oc (aD br rfl rfl rfl rfl (Nat.le_of_ble_eq_true rfl) rfl) (Oc oa ?_)
  refine af.ai ⟨[(4,_),(5,B false)],[(102,.box 87 (ar x_7))]⟩ rfl (ab.ret ?_)
  obtain rfl:=Option.some.inj h
  refine Fin.ag ⟨[(4,_),(5,_)],[(102,_)]⟩ rfl (Fin.au [.agg (ar x_7),.one (.bool false)] (.inl rfl) rfl (.cons (.agg br rfl rfl rfl rfl) (.cons (.tmp rfl) .nil)) ⟨rfl,rfl⟩)
def dH (F:Nat) (s0:List (cG bc)) (f0:Nat):Option Int :=
 Option.bind (iter F (fun x_1=>if (decide (x_1 < (s0.length:Int))) = true then ((bb s0 x_1).bind fun x_2=>(gz F f0 x_2).bind fun x_3=>if x_3 = true then (some (.inr (.inr x_1))) else (some (.inl (IntKind.i64.wrap (x_1 + 1))))) else (some (.inr (.inl ())))) 0) (ct (fun _=>some (-1)) (fun y=>some y))
theorem il {F:Nat} {s0:List (cG bc)} {f0:Nat} {r:Int} (h:dH F s0 f0 = some r):aq Tryz.prog [] 131 [] [.one (.sl 1 (s0.map (mx ae))),.one (.raw (.func (.func f0) #[] #[]))] (Is [] (.b (.one (.i r)))):=by
 unfold dH at h
 refine aq.intro 19 Tryz.func131 Tryz.ntmps131 rfl (by simp) fun E=>?_
 show ab _ E ⟨19,[],[],[]⟩ _ ⟨[(0,.b (.one (.sl 1 (s0.map (mx ae))))),(1,.b (.one (.raw (.func (.func f0) #[] #[]))))],[]⟩ _
 refine ab.seq (ab.aa ?_)
 refine Oc oa (af.ai ⟨[(0,.b (.one (.sl 1 (s0.map (mx ae))))),(1,.b (.one (.raw (.func (.func f0) #[] #[]))))],[]⟩ rfl ?_)
 obtain ⟨v1,h2,h⟩:=aM h
 refine ab.dX (v:=v1) (fun (_:Unit)=>⟨[],[]⟩) (fun z=>.inl z) ?_ ?_
 ·refine ab.seq (ab.aa ?_)
  refine Oc om (Oc (bR qq rfl (List.length_map _)) (Oc om ?_))
  refine af.ai ⟨[(0,_),(1,_),(7,I (s0.length:Int)),(8,I 0)],[]⟩ rfl (ab.block (ab.c6 h2 (fun (x_1:Int)=>⟨[(0,.b (.one (.sl 1 (s0.map (mx ae))))),(1,.b (.one (.raw (.func (.func f0) #[] #[])))),(7,I (s0.length:Int)),(8,I x_1)],[]⟩) [0,1,7,8] [] rfl ?_))
  rintro x_1 o3 h4 hy5
  refine ab.seq (ab.aa ?_)
  refine Oc (bf rfl rfl) (af.ai ⟨[(0,_),(1,_),(7,_),(8,_),(9,B (decide (x_1 < (s0.length:Int))))],[]⟩ rfl (ab.seq (ab.ite h4 rfl (fun _ h4=>?_) (fun _ h4=>?_))))
  ·refine ab.skip (Fin.ag ⟨[(0,_),(1,_),(7,_),(8,_)],[]⟩ rfl (Fin.then (ab.seq (ab.block (ab.seq (ab.aa ?_))))))
   refine Oc om (Oc oa ?_)
   refine af.ai ⟨[(0,_),(1,_),(5,I x_1),(7,_),(8,_)],[]⟩ rfl (ab.seq (ab.aa ?_))
   refine Oc om (Oc om (Oc om ?_))
   obtain ⟨x_2,e6,h4⟩:=aM h4
   refine Oc (bA iO (a6 e6) (cM (e:=(mx ae)) e6) rfl rfl) (Oc (ax bq rfl rfl) ?_)
   obtain ⟨x_3,e7,h4⟩:=aM h4
   refine Oc (iA (lM e7) (lN e7) rfl rfl rfl) (af.ai ⟨[(0,_),(1,_),(5,_),(7,_),(8,_),(16,B x_3)],[]⟩ rfl (ab.ite h4 rfl (fun _ h4=>?_) (fun _ h4=>?_)))
   ·refine ab.seq (ab.aa ?_)
    refine Oc om (Oc oa ?_)
    refine af.ai ⟨[(4,I x_1)],[]⟩ rfl (ab.ret (Fin.aS (Fin.av ?_)))
    obtain rfl:=hy5 _ (Option.some.inj h4).symm
    refine Fin.av (Fin.aS (Fin.av ?_))
    obtain rfl:=Option.some.inj h
    refine Fin.ag ⟨[(4,_)],[]⟩ rfl (Fin.au [.one (.i x_1)] (.inl rfl) rfl (.cons (.tmp rfl) .nil) ⟨rfl,rfl⟩)
   ·refine ab.skip (Fin.az (Fin.ag ⟨[(0,_),(1,_),(7,_),(8,_)],[]⟩ rfl (Fin.then (ab.aa ?_))))
    refine Oc (bK rfl rfl) (Oc om ?_)
    refine af.nil ?_
    exact Fin.cu [0,1,7,8] [] (IntKind.i64.wrap (x_1 + 1)) (Option.some.inj h4) rfl
  ·refine ab.exit (Fin.aC ?_)
   obtain rfl:=hy5 _ (Option.some.inj h4).symm
   refine Fin.aC (Fin.aY ?_)
   exact Fin.join [] [] () rfl rfl
 ·rintro _ hv
  subst v1
  refine ab.seq (ab.aa ?_)
  refine Oc oa (af.ai ⟨[(4,I (-1))],[]⟩ rfl (ab.ret ?_))
  obtain rfl:=Option.some.inj h
  refine Fin.ag ⟨[(4,_)],[]⟩ rfl (Fin.au [.one (.i (-1))] (.inl rfl) rfl (.cons (.tmp rfl) .nil) ⟨rfl,rfl⟩)
def dy (F:Nat) (del0:Nat) (s0:List (cG bc)):Option (List (cG bc)) :=
 (dH F s0 del0).bind fun x_1=>if (decide (x_1 = (-1))) = true then (some s0) else (Option.bind (iter F (un3 fun s_4 i_5 j_6=>if (decide (j_6 < (s_4.length:Int))) = true then (Option.bind ((bb s_4 j_6).bind fun x_11=>(gz F del0 x_11).bind fun x_12=>if (!x_12) = true then ((bb s_4 i_5).bind fun x_13=>some (s_4.set (i_5:Int).toNat x_11,IntKind.i64.wrap (i_5 + 1))) else (some (s_4,i_5))) (eW fun s_9 i_10=>some (.inl (s_9,i_10,IntKind.i64.wrap (j_6 + 1))))) else (some (.inr (s_4,i_5)))) (s0,x_1,IntKind.i64.wrap (x_1 + 1))) (eW fun s_2 i_3=>Option.bind (clr? (.leaf:cG bc) s_2 i_3) (fun z_14=>(na z_14 i_3).bind fun x_15=>some x_15)))
theorem gR {F:Nat} {del0:Nat} {s0:List (cG bc)} {r:(List (cG bc))} (h:dy F del0 s0 = some r):aq Tryz.prog [] 122 [(1,.row 42 1 (s0.map (mx ae)))] [.row 1,.one (.raw (.func (.func del0) #[] #[]))] (Is [(1,.row 42 1 (r.map (mx ae)))] (.b (.row 1))):=by
 unfold dy at h
 refine aq.intro 42 Tryz.func122 Tryz.ntmps122 rfl (by simp) fun E=>?_
 show ab _ E ⟨42,[],[1],[]⟩ _ ⟨[(0,.b (.row 1)),(1,.b (.one (.raw (.func (.func del0) #[] #[]))))],[(1,.row 42 1 (s0.map (mx ae)))]⟩ _
 refine ab.seq (ab.aa ?_)
 refine Oc oa (af.ai ⟨[(0,.b (.row 1)),(1,.b (.one (.raw (.func (.func del0) #[] #[]))))],[(1,.row 42 1 (s0.map (mx ae)))]⟩ rfl (ab.seq (ab.aa ?_)))
 refine Oc om (Oc om ?_)
 obtain ⟨x_1,e1,h⟩:=aM h
 refine Oc (jE (il e1) goes131 rfl CP.pQ) (Oc oa ?_)
 refine af.ai ⟨[(0,_),(1,_),(5,I x_1)],[(1,_)]⟩ rfl (ab.seq (ab.seq (ab.aa ?_)))
 refine Oc om (Oc (dG rfl rfl) ?_)
 refine af.ai ⟨[(0,_),(1,_),(5,_),(12,B (decide (x_1 = (-1))))],[(1,_)]⟩ rfl (ab.ite h rfl (fun _ h=>?_) (fun _ h=>?_))
 ·refine ab.seq (ab.aa ?_)
  refine Oc om (Oc oa ?_)
  refine af.ai ⟨[(4,.b (.row 1))],[(1,_)]⟩ rfl (ab.ret (Fin.av ?_))
  obtain rfl:=Option.some.inj h
  refine Fin.ag ⟨[(4,_)],[(1,_)]⟩ rfl ?_
  exact Fin.result [.row 1] (.inl rfl) rfl (.cons (.tmp rfl) .nil) ⟨rfl,rfl⟩
 ·refine ab.skip (Fin.ag ⟨[(0,_),(1,_),(5,_)],[(1,_)]⟩ rfl (Fin.then ?_))
  obtain ⟨v2,h3,h⟩:=aM h
  refine ab.dX (v:=v2) (eW fun (s_2:List (cG bc)) (i_3:Int)=>⟨[(0,.b (.row 1)),(5,I i_3)],[(1,.row 42 1 (s_2.map (mx ae)))]⟩) (fun z=>z) ?_ ?_
  ·refine ab.seq (ab.aa ?_)
   refine Oc om (Oc (bK rfl rfl) (Oc oa ?_))
   refine af.ai ⟨[(0,_),(1,_),(5,_),(6,I (IntKind.i64.wrap (x_1 + 1)))],[(1,_)]⟩ rfl (ab.block (ab.c6 h3 (un3 fun (s_4:List (cG bc)) (i_5:Int) (j_6:Int)=>⟨[(0,.b (.row 1)),(1,.b (.one (.raw (.func (.func del0) #[] #[])))),(5,I i_5),(6,I j_6)],[(1,.row 42 1 (s_4.map (mx ae)))]⟩) [0,1,5,6] [1] rfl ?_))
   rintro ⟨s_4,i_5,j_6⟩ o4 h5 hy6
   refine ab.seq (ab.seq (ab.aa ?_))
   refine Oc om (Oc om (Oc (eK qq rfl rfl (List.length_map _)) (Oc (bf rfl rfl) ?_)))
   refine af.ai ⟨[(0,_),(1,_),(5,_),(6,_),(19,B (decide (j_6 < (s_4.length:Int))))],[(1,_)]⟩ rfl (ab.ite h5 rfl (fun _ h5=>?_) (fun _ h5=>?_))
   ·refine ab.skip (Fin.ag ⟨[(0,_),(1,_),(5,_),(6,_)],[(1,_)]⟩ rfl (Fin.then ?_))
    obtain ⟨v7,h8,h5⟩:=aM h5
    refine ab.dX (v:=v7) (eW fun (s_9:List (cG bc)) (i_10:Int)=>⟨[(0,.b (.row 1)),(1,.b (.one (.raw (.func (.func del0) #[] #[])))),(5,I i_10),(6,I j_6)],[(1,.row 42 1 (s_9.map (mx ae)))]⟩) (fun z=>z) ?_ ?_
    ·refine ab.block (ab.seq (ab.aa ?_))
     refine Oc om (Oc om ?_)
     obtain ⟨x_11,e9,h8⟩:=aM h8
     refine Oc (du iO (a6 e9) (iM e9) rfl rfl rfl rfl) (Oc (fy (i:=(j_6:Int).toNat) (f:=0) bq rfl rfl rfl (cM (e:=(mx ae)) e9) rfl) (Oc oa ?_))
     refine af.ai ⟨[(0,_),(1,_),(5,_),(6,_),(7,.b (.one (.tr ae x_11)))],[(1,_)]⟩ rfl (ab.seq (ab.aa ?_))
     refine Oc om (Oc om ?_)
     obtain ⟨x_12,e10,h8⟩:=aM h8
     refine Oc (iA (lM e10) (lN e10) rfl rfl rfl) (Oc (dp rfl) ?_)
     refine af.ai ⟨[(0,_),(1,_),(5,_),(6,_),(7,_),(29,B (!x_12))],[(1,_)]⟩ rfl (ab.ite h8 rfl (fun _ h8=>?_) (fun _ h8=>?_))
     ·refine ab.seq (ab.aa ?_)
      refine Oc om (Oc om (Oc om ?_))
      obtain ⟨x_13,e11,h8⟩:=aM h8
      refine Oc (du iO (a6 e11) (iM e11) rfl rfl rfl rfl) (Oc (jL (i:=(i_5:Int).toNat) bq rfl rfl rfl rfl (sC e11) (map_set _ _ _ _)) ?_)
      refine af.ai ⟨[(0,_),(1,_),(5,_),(6,_)],[(1,.row 42 1 ((s_4.set (i_5:Int).toNat x_11).map (mx ae)))]⟩ rfl (ab.aa (Oc om (Oc (bK rfl rfl) (Oc oa ?_))))
      refine af.nil (Fin.az ?_)
      exact Fin.join [0,1,5,6] [1] (s_4.set (i_5:Int).toNat x_11,IntKind.i64.wrap (i_5 + 1)) (Option.some.inj h8) rfl
     ·refine ab.skip (Fin.az ?_)
      exact Fin.join [0,1,5,6] [1] (s_4,i_5) (Option.some.inj h8) rfl
    ·rintro ⟨s_9,i_10⟩ hv
     subst v7
     refine ab.aa (Oc om (Oc (bK rfl rfl) (Oc oa ?_)))
     refine af.nil ?_
     exact Fin.cu [0,1,5,6] [1] (s_9,i_10,IntKind.i64.wrap (j_6 + 1)) (Option.some.inj h5) rfl
   ·refine ab.exit (Fin.aC ?_)
    obtain rfl:=hy6 _ (Option.some.inj h5).symm
    refine Fin.aC (Fin.aY ?_)
    exact Fin.join [0,5] [1] (s_4,i_5) rfl rfl
  ·rintro ⟨s_2,i_3⟩ hv
   subst v2
   refine ab.seq (ab.aa ?_)
   refine Oc om (Oc om ?_)
   obtain ⟨z_14,e12,h⟩:=aM h
   refine af.clr (enc:=(mx ae)) iO rfl e12 rfl rfl rfl (by decide) rfl (af.ai ⟨[(0,_),(5,_)],[(1,.row 42 1 (z_14.map (mx ae)))]⟩ rfl (ab.seq (ab.aa ?_)))
   refine Oc om (Oc om ?_)
   obtain ⟨x_15,e13,h⟩:=aM h
   refine Oc (kG iO e13 rfl rfl rfl rfl) (Oc oa ?_)
   refine af.ai ⟨[(4,.b (.row 1))],[(1,.row 42 1 (x_15.map (mx ae)))]⟩ rfl (ab.ret ?_)
   obtain rfl:=Option.some.inj h
   refine Fin.ag ⟨[(4,_)],[(1,_)]⟩ rfl ?_
   exact Fin.result [.row 1] (.inl rfl) rfl (.cons (.tmp rfl) .nil) ⟨rfl,rfl⟩
def fH (F:Nat) (l0:List (cG bc)):Option (List (cG bc)) :=
 (dy F 123 l0).bind fun x_1=>some x_1
theorem mo {F:Nat} {l0:List (cG bc)} {r:(List (cG bc))} (h:fH F l0 = some r):aq Tryz.prog [] 100 [(1,.row 42 1 (l0.map (mx ae)))] [.row 1] (Is [(1,.row 42 1 (r.map (mx ae)))] (.b (.row 1))):=by
 unfold fH at h
 refine aq.intro 5 Tryz.func100 Tryz.ntmps100 rfl (by simp) fun E=>?_
 show ab _ E ⟨5,[],[1],[]⟩ _ ⟨[(0,.b (.row 1))],[(1,.row 42 1 (l0.map (mx ae)))]⟩ _
 refine ab.seq (ab.aa ?_)
 refine Oc oa (af.ai ⟨[(0,.b (.row 1))],[(1,.row 42 1 (l0.map (mx ae)))]⟩ rfl (ab.seq (ab.aa ?_)))
 refine Oc om ?_
 obtain ⟨x_1,e1,h⟩:=aM h
 refine Oc (c9 (own_a:=[(1,_)]) (gR e1) goes122 rfl ⟨rfl,trivial⟩ rfl rfl) (Oc oa ?_)
 refine af.ai ⟨[(2,.b (.row 1))],[(1,.row 42 1 (x_1.map (mx ae)))]⟩ rfl (ab.ret ?_)
 obtain rfl:=Option.some.inj h
 refine Fin.ag ⟨[(2,_)],[(1,_)]⟩ rfl ?_
 exact Fin.result [.row 1] (.inl rfl) rfl (.cons (.tmp rfl) .nil) ⟨rfl,rfl⟩
def a8 (F:Nat) (t0:ir) (n0:cG bc) (left0:cG bc) (right0:cG bc):Option (cG bc) :=
 Option.bind (iK n0) (fun nd_1=>Option.bind (iK n0) (fun nd_2=>Option.bind (iK n0) (fun nd_3=>(gV F t0.box nd_3.1.x).bind fun x_4=>Option.bind ((fH F [left0,right0]).bind fun x_6=>iter F (eW fun out_7 x_8=>if (decide (x_8 < (x_6.length:Int))) = true then ((bb x_6 x_8).bind fun x_10=>Option.bind (iK x_10) (fun nd_11=>(ee F out_7.cover nd_11.1.cover).bind fun x_12=>some (.inl ((⟨out_7.x,out_7.priority,x_12,out_7.left,out_7.right⟩:Nod),IntKind.i64.wrap (x_8 + 1))))) else (some (.inr out_7))) ((⟨nd_1.1.x,nd_2.1.priority,x_4,left0,right0⟩:Nod),0)) (fun out_5=>some (.node (⟨out_5.x,out_5.priority,out_5.cover⟩:bc) out_5.left out_5.right)))))
theorem bO {F:Nat} {t0:ir} {n0:cG bc} {left0:cG bc} {right0:cG bc} {r:(cG bc)} (h:a8 F t0 n0 left0 right0 = some r):aq Tryz.prog [] 80 [] [.agg (bJ t0),.one (.tr ae n0),.one (.tr ae left0),.one (.tr ae right0)] (Is [] (.b (.one (.tr ae r)))):=by
 unfold a8 at h
 refine aq.intro 54 Tryz.func80 Tryz.ntmps80 rfl (by simp) fun E=>?_
 show ab _ E ⟨54,[],[],[]⟩ _ ⟨[(0,.b (.agg (bJ t0))),(1,.b (.one (.tr ae n0))),(2,.b (.one (.tr ae left0))),(3,.b (.one (.tr ae right0)))],[]⟩ _
 refine ab.seq (ab.aa ?_)
 refine Oc (bp (k:=101) rfl rfl) (Oc oa ?_)
 refine af.ai ⟨[(1,.b (.one (.tr ae n0))),(2,.b (.one (.tr ae left0))),(3,.b (.one (.tr ae right0))),(4,Pt 101 0)],[(101,.box 47 (bJ t0))]⟩ rfl (ab.seq ?_)
 obtain ⟨nd_1,e1,h⟩:=aM h
 obtain ⟨nd_2,e2,h⟩:=aM h
 obtain ⟨nd_3,e3,h⟩:=aM h
 obtain ⟨x_4,e4,h⟩:=aM h
 refine ab.bH mixed 18 [.b (.one (.tr ae n0)),.b (.aN (ar nd_1.1.x ++ (.int .u64 nd_1.1.priority :: (ak nd_1.1.cover ++ ([.tr ae nd_1.2.1,.tr ae nd_1.2.2]))))),.b (.aN (ar nd_1.1.x ++ (.int .u64 nd_1.1.priority :: (ak nd_1.1.cover ++ ([.tr ae nd_1.2.1,.tr ae nd_1.2.2]))))),.b (.agg (ar nd_1.1.x)),.b (.one (.tr ae n0)),.b (.aN (ar nd_2.1.x ++ (.int .u64 nd_2.1.priority :: (ak nd_2.1.cover ++ ([.tr ae nd_2.2.1,.tr ae nd_2.2.2]))))),.b (.aN (.int .u64 nd_2.1.priority :: (ak nd_2.1.cover ++ ([.tr ae nd_2.2.1,.tr ae nd_2.2.2])))),.b (.one (.int .u64 nd_2.1.priority)),Pt 101 3,.b (.one (.cV t0.box)),.b (.one (.tr ae n0)),.b (.aN (ar nd_3.1.x ++ (.int .u64 nd_3.1.priority :: (ak nd_3.1.cover ++ ([.tr ae nd_3.2.1,.tr ae nd_3.2.2]))))),.b (.aN (ar nd_3.1.x ++ (.int .u64 nd_3.1.priority :: (ak nd_3.1.cover ++ ([.tr ae nd_3.2.1,.tr ae nd_3.2.2]))))),.b (.agg (ar nd_3.1.x)),.b (.agg (ak x_4)),.b (.one (.tr ae left0)),.b (.one (.tr ae right0)),.b (.agg (ar nd_1.1.x ++ (.int .u64 nd_2.1.priority :: (ak x_4 ++ ([.tr ae left0,.tr ae right0])))))] [2,3,9] [102] (s':=⟨[(2,_),(3,_),(9,Pt 102 0)],[(102,.box 117 (ar nd_1.1.x ++ (.int .u64 nd_2.1.priority :: (ak x_4 ++ ([.tr ae left0,.tr ae right0])))))]⟩) rfl ⟨fun _=>.p om,fun _=>.p (aG e1 rfl rfl),fun _=>by exact .p (aF dP rfl rfl),fun _=>.p (cw br rfl rfl rfl),fun _=>.p om,fun _=>.p (aG e2 rfl rfl),fun _=>by exact .p (aF k3 rfl rfl),fun _=>.p (ax oS rfl rfl),fun _=>.p (an rS rfl rfl),fun _=>.p (aE tyOne45 rfl rfl rfl),fun _=>.p om,fun _=>.p (aG e3 rfl rfl),fun _=>by exact .p (aF dP rfl rfl),fun _=>.p (cw br rfl rfl rfl),fun _=>.p (kg (qZ e4) (q3 e4) (tO e4) rfl rfl rfl),fun _=>.p om,fun _=>.p om,fun _=>.p (cg nz rfl rfl),trivial⟩ ⟨_,by exact .p (bp (k:=102) rfl rfl),⟨_,by exact .p oa,rfl⟩⟩ rfl ?_
 obtain ⟨v5,h6,h⟩:=aM h
 refine ab.dX (v:=v5) (fun (out_5:Nod)=>⟨[(9,Pt 102 0)],[(102,.box 117 (eNod out_5))]⟩) (fun z=>z) ?_ ?_
 ·refine ab.seq (ab.aa ?_)
  refine Oc om (Oc om (Oc (cA (k:=103) (es:=[left0,right0].map (mx ae)) iO rfl rfl (cN fun _=>rfl) rfl (by decide) (by decide) rfl) ?_))
  obtain ⟨x_6,e7,h6⟩:=aM h6
  refine Oc (c9 (own_a:=[(103,_)]) ((mo e7).sw 1 103) goes100 rfl ⟨rfl,trivial⟩ rfl rfl) (Oc (eK qq rfl rfl (List.length_map _)) (Oc om ?_))
  refine af.ai ⟨[(9,_),(34,.b (.row 103)),(35,I (x_6.length:Int)),(36,I 0)],[(102,_),(103,.row 42 1 (x_6.map (mx ae)))]⟩ rfl (ab.block (ab.c6 h6 (eW fun (out_7:Nod) (x_8:Int)=>⟨[(9,Pt 102 0),(34,.b (.row 103)),(35,I (x_6.length:Int)),(36,I x_8)],[(102,.box 117 (eNod out_7)),(103,.row 42 1 (x_6.map (mx ae)))]⟩) [9,34,35,36] [102,103] rfl ?_))
  rintro ⟨out_7,x_8⟩ o8 h9 hy10
  refine ab.seq (ab.aa ?_)
  refine Oc (bf rfl rfl) (af.ai ⟨[(9,_),(34,_),(35,_),(36,_),(37,B (decide (x_8 < (x_6.length:Int))))],[(102,_),(103,_)]⟩ rfl (ab.seq (ab.ite h9 rfl (fun _ h9=>?_) (fun _ h9=>?_))))
  ·refine ab.skip (Fin.ag ⟨[(9,_),(34,_),(35,_),(36,_)],[(102,_),(103,_)]⟩ rfl (Fin.then (ab.seq (ab.block (ab.seq (ab.aa ?_))))))
   obtain ⟨x_10,e11,h9⟩:=aM h9
   refine Oc (du iO (a6 e11) (iM e11) rfl rfl rfl rfl) (Oc (fy (i:=(x_8:Int).toNat) (f:=0) bq rfl rfl rfl (cM (e:=(mx ae)) e11) rfl) (Oc oa ?_))
   refine af.ai ⟨[(9,_),(11,.b (.one (.tr ae x_10))),(34,_),(35,_),(36,_)],[(102,_),(103,_)]⟩ rfl ?_
   obtain ⟨nd_11,e12,h9⟩:=aM h9
   obtain ⟨x_12,e13,h9⟩:=aM h9
   refine ab.lH mixed 12 [Pt 102 0,Pt 102 0,Pt 102 0,Pt 102 8,.b (.agg (ak out_7.cover)),.b (.one (.tr ae x_10)),.b (.aN (ar nd_11.1.x ++ (.int .u64 nd_11.1.priority :: (ak nd_11.1.cover ++ ([.tr ae nd_11.2.1,.tr ae nd_11.2.2]))))),.b (.aN (ak nd_11.1.cover ++ ([.tr ae nd_11.2.1,.tr ae nd_11.2.2]))),.b (.agg (ak nd_11.1.cover)),.b (.agg (ak x_12)),Pt 102 0,Pt 102 8] [9,34,35,36] [102,103] (s':=⟨[(9,_),(34,_),(35,_),(36,_)],[(102,.box 117 (ar out_7.x ++ (.int .u64 out_7.priority :: (ak x_12 ++ ([.tr ae out_7.left,.tr ae out_7.right]))))),(103,_)]⟩) rfl ⟨fun _=>.p om,fun _=>.p om,fun _=>.p (kH rfl),fun _=>.p (an iS rfl rfl),fun _=>.p (lp ao),fun _=>.p om,fun _=>.p (aG e12 rfl rfl),fun _=>by exact .p (aF iS rfl rfl),fun _=>.p (cw ao rfl rfl rfl),fun _=>.p (aj (fZ e13) qE rfl rfl),fun _=>.p (kH rfl),fun _=>.p (an iS rfl rfl),trivial⟩ ⟨_,by exact .p (aD ao rfl rfl rfl rfl (Nat.le_of_ble_eq_true rfl) rfl),rfl⟩ rfl (Fin.az (Fin.ag ⟨[(9,_),(34,_),(35,_),(36,_)],[(102,_),(103,_)]⟩ rfl (Fin.then (ab.aa ?_))))
   refine Oc (bK rfl rfl) (Oc om ?_)
   refine af.nil ?_
   exact Fin.cu [9,34,35,36] [102,103] ((⟨out_7.x,out_7.priority,x_12,out_7.left,out_7.right⟩:Nod),IntKind.i64.wrap (x_8 + 1)) (Option.some.inj h9) rfl
  ·refine ab.exit (Fin.aC ?_)
   obtain rfl:=hy10 _ (Option.some.inj h9).symm
   refine Fin.aC (Fin.aY ?_)
   exact Fin.join [9] [102] out_7 rfl rfl
 ·rintro out_5 hv
  subst v5
  refine ab.seq (ab.aa ?_)
  refine Oc om (Oc oa ?_)
  refine af.ai ⟨[(8,Pt 102 0)],[(102,_)]⟩ rfl (ab.ret ?_)
  obtain rfl:=Option.some.inj h
  refine Fin.ag ⟨[(8,_)],[(102,_)]⟩ rfl (Fin.fO 102 rfl (Fin.toTr (enc:=ae) 8 (⟨out_5.x,out_5.priority,out_5.cover⟩:bc) out_5.left out_5.right rfl rfl (Fin.au [.one (.tr ae (.node (⟨out_5.x,out_5.priority,out_5.cover⟩:bc) out_5.left out_5.right))] (.inl rfl) rfl (.cons (.tmp rfl) .nil) ⟨rfl,rfl⟩)))
def bN (F:Nat):Nat → ir → (cG bc) → entry → Option ((cG bc) × (cG bc))
 | 0,_,_,_=>none
 | n + 1,t0,n0,x0=>if n0.cW = true then (some (.leaf,.leaf)) else (Option.bind (iK n0) (fun nd_1=>(ff F t0.compare nd_1.1.x x0).bind fun x_2=>if (decide (x_2 < 0)) = true then (Option.bind (iK n0) (fun nd_3=>Option.bind (bN F n t0 nd_3.2.2 x0) (eW fun x_4 x_5=>Option.bind (iK n0) (fun nd_6=>(a8 F t0 n0 nd_6.2.1 x_4).bind fun x_7=>some (x_7,x_5))))) else (Option.bind (iK n0) (fun nd_8=>Option.bind (bN F n t0 nd_8.2.1 x0) (eW fun x_9 x_10=>Option.bind (iK n0) (fun nd_11=>(a8 F t0 n0 x_10 nd_11.2.2).bind fun x_12=>some (x_9,x_12)))))))
def eF (F:Nat) (t0:ir) (n0:cG bc) (x0:entry):Option ((cG bc) × (cG bc)):=bN F F t0 n0 x0
theorem jc {F:Nat}:∀ (n:Nat) {t0:ir} {n0:cG bc} {x0:entry} {r:(cG bc) × (cG bc)} (h:bN F n t0 n0 x0 = some r),aq Tryz.prog [] 79 [] [.agg (bJ t0),.one (.tr ae n0),.agg (ar x0)] (Is [] (.ek [.one (.tr ae r.1),.one (.tr ae r.2)])):=by
 intro n
 induction n with
 | zero=>intro t0 n0 x0 r h; simp [bN] at h
 | succ n ih=>
 intro t0 n0 x0 r h
 unfold bN at h
 refine aq.intro 61 Tryz.func79 Tryz.ntmps79 rfl (by simp) fun E=>?_
 show ab _ E ⟨61,[],[],[]⟩ _ ⟨[(0,.b (.agg (bJ t0))),(1,.b (.one (.tr ae n0))),(2,.b (.agg (ar x0)))],[]⟩ _
 refine ab.seq (ab.aa ?_)
 refine Oc (bp (k:=101) rfl rfl) (Oc (bp (k:=102) rfl rfl) (Oc oa (Oc oa ?_)))
 refine af.ai ⟨[(1,.b (.one (.tr ae n0))),(3,Pt 101 0),(5,Pt 102 0)],[(101,.box 47 (bJ t0)),(102,.box 87 (ar x0))]⟩ rfl (ab.seq (ab.seq (ab.aa ?_)))
 refine Oc om (Oc (eQ kQ rfl) ?_)
 refine af.ai ⟨[(1,_),(3,_),(5,_),(13,B n0.cW)],[(101,_),(102,_)]⟩ rfl (ab.ite h rfl (fun _ h=>?_) (fun _ h=>?_))
 ·refine ab.seq (ab.aa ?_)
  refine Oc oa (Oc oa ?_)
  refine af.ai ⟨[(6,.b (.one (.tr ae (.leaf)))),(7,.b (.one (.tr ae (.leaf))))],[]⟩ rfl (ab.ret (Fin.av ?_))
  obtain rfl:=Option.some.inj h
  refine Fin.ag ⟨[(6,_),(7,_)],[]⟩ rfl (Fin.au [.one (.tr ae (.leaf)),.one (.tr ae (.leaf))] (.inl rfl) rfl (.cons (.tmp rfl) (.cons (.tmp rfl) .nil)) ⟨rfl,rfl⟩)
 ·refine ab.skip (Fin.ag ⟨[(1,_),(3,_),(5,_)],[(101,_),(102,_)]⟩ rfl (Fin.then (ab.seq (ab.seq ?_))))
  refine ab.ag ⟨[(1,_),(3,_),(5,_)],[(101,_),(102,_)]⟩ rfl ?_
  obtain ⟨nd_1,e1,h⟩:=aM h
  obtain ⟨x_2,e2,h⟩:=aM h
  refine ab.bH mixed 9 [Pt 101 1,.b (.one (.cV t0.compare)),.b (.one (.tr ae n0)),.b (.aN (ar nd_1.1.x ++ (.int .u64 nd_1.1.priority :: (ak nd_1.1.cover ++ ([.tr ae nd_1.2.1,.tr ae nd_1.2.2]))))),.b (.aN (ar nd_1.1.x ++ (.int .u64 nd_1.1.priority :: (ak nd_1.1.cover ++ ([.tr ae nd_1.2.1,.tr ae nd_1.2.2]))))),.b (.agg (ar nd_1.1.x)),.b (.agg (ar x0)),I x_2,B (decide (x_2 < 0))] [1,3,5,22] [101,102] (s':=⟨[(1,_),(3,_),(5,_),(22,B (decide (x_2 < 0)))],[(101,_),(102,_)]⟩) rfl ⟨fun _=>.p (an oe rfl rfl),fun _=>.p (aE rm rfl rfl rfl),fun _=>.p om,fun _=>.p (aG e1 rfl rfl),fun _=>by exact .p (aF dP rfl rfl),fun _=>.p (cw br rfl rfl rfl),fun _=>.p (lp br),fun _=>.p (kg (nL e2) (nM e2) (pX e2) rfl rfl rfl),fun _=>.p (bf rfl rfl),trivial⟩ rfl rfl (ab.ite h rfl (fun _ h=>?_) (fun _ h=>?_))
  ·refine ab.seq (ab.ag ⟨[(1,_),(3,_),(5,_)],[(101,_),(102,_)]⟩ rfl ?_)
   obtain ⟨nd_3,e3,h⟩:=aM h
   obtain ⟨⟨x_4,x_5⟩,e4,h⟩:=aM h
   refine ab.bH mixed 12 [.b (.agg (bJ t0)),.b (.one (.tr ae n0)),.b (.aN (ar nd_3.1.x ++ (.int .u64 nd_3.1.priority :: (ak nd_3.1.cover ++ ([.tr ae nd_3.2.1,.tr ae nd_3.2.2]))))),.b (.aN [.tr ae nd_3.2.2]),.b (.one (.tr ae nd_3.2.2)),.b (.agg (ar x0)),.ek [.one (.tr ae x_4),.one (.tr ae x_5)],.ek [.one (.tr ae x_4),.one (.tr ae x_5)],.b (.one (.tr ae x_4)),.b (.one (.tr ae x_5)),.b (.one (.tr ae x_4)),.b (.one (.tr ae x_5))] [1,3,8,9] [101] (s':=⟨[(1,_),(3,_),(8,.b (.one (.tr ae x_4))),(9,.b (.one (.tr ae x_5)))],[(101,_)]⟩) rfl ⟨fun _=>.p (lp bB),fun _=>.p om,fun _=>.p (aG e3 rfl rfl),fun _=>by exact .p (aF dr rfl rfl),fun _=>.p (ax bq rfl rfl),fun _=>.p (lp br),fun _=>.p (aj (ih e4) qA rfl rfl),fun _=>.p om,fun _=>.p (ay rfl rfl),fun _=>.p (ay rfl rfl),fun _=>.p oa,fun _=>.p oa,trivial⟩ rfl rfl (ab.seq (ab.ag ⟨[(1,_),(3,_),(8,_),(9,_)],[(101,_)]⟩ rfl ?_))
   obtain ⟨nd_6,e5,h⟩:=aM h
   obtain ⟨x_7,e6,h⟩:=aM h
   refine ab.bH mixed 11 [.b (.agg (bJ t0)),.b (.one (.tr ae n0)),.b (.one (.tr ae n0)),.b (.aN (ar nd_6.1.x ++ (.int .u64 nd_6.1.priority :: (ak nd_6.1.cover ++ ([.tr ae nd_6.2.1,.tr ae nd_6.2.2]))))),.b (.aN [.tr ae nd_6.2.1,.tr ae nd_6.2.2]),.b (.one (.tr ae nd_6.2.1)),.b (.one (.tr ae x_4)),.b (.one (.tr ae x_7)),.b (.one (.tr ae x_5)),.b (.one (.tr ae x_7)),.b (.one (.tr ae x_5))] [6,7] [] (s':=⟨[(6,.b (.one (.tr ae x_7))),(7,.b (.one (.tr ae x_5)))],[]⟩) rfl ⟨fun _=>.p (lp bB),fun _=>.p om,fun _=>.p om,fun _=>.p (aG e5 rfl rfl),fun _=>by exact .p (aF dt rfl rfl),fun _=>.p (ax bq rfl rfl),fun _=>.p om,fun _=>.p (aj (bO e6) kU rfl rfl),fun _=>.p om,fun _=>.p oa,fun _=>.p oa,trivial⟩ rfl rfl (ab.ret (Fin.av ?_))
   obtain rfl:=Option.some.inj h
   refine Fin.ag ⟨[(6,_),(7,_)],[]⟩ rfl (Fin.au [.one (.tr ae x_7),.one (.tr ae x_5)] (.inl rfl) rfl (.cons (.tmp rfl) (.cons (.tmp rfl) .nil)) ⟨rfl,rfl⟩)
  ·refine ab.skip (Fin.ag ⟨[(1,_),(3,_),(5,_)],[(101,_),(102,_)]⟩ rfl (Fin.then (ab.seq ?_)))
   refine ab.ag ⟨[(1,_),(3,_),(5,_)],[(101,_),(102,_)]⟩ rfl ?_
   obtain ⟨nd_8,e7,h⟩:=aM h
   obtain ⟨⟨x_9,x_10⟩,e8,h⟩:=aM h
   refine ab.bH mixed 12 [.b (.agg (bJ t0)),.b (.one (.tr ae n0)),.b (.aN (ar nd_8.1.x ++ (.int .u64 nd_8.1.priority :: (ak nd_8.1.cover ++ ([.tr ae nd_8.2.1,.tr ae nd_8.2.2]))))),.b (.aN [.tr ae nd_8.2.1,.tr ae nd_8.2.2]),.b (.one (.tr ae nd_8.2.1)),.b (.agg (ar x0)),.ek [.one (.tr ae x_9),.one (.tr ae x_10)],.ek [.one (.tr ae x_9),.one (.tr ae x_10)],.b (.one (.tr ae x_9)),.b (.one (.tr ae x_10)),.b (.one (.tr ae x_9)),.b (.one (.tr ae x_10))] [1,3,10,11] [101] (s':=⟨[(1,_),(3,_),(10,.b (.one (.tr ae x_9))),(11,.b (.one (.tr ae x_10)))],[(101,_)]⟩) rfl ⟨fun _=>.p (lp bB),fun _=>.p om,fun _=>.p (aG e7 rfl rfl),fun _=>by exact .p (aF dt rfl rfl),fun _=>.p (ax bq rfl rfl),fun _=>.p (lp br),fun _=>.p (aj (ih e8) qA rfl rfl),fun _=>.p om,fun _=>.p (ay rfl rfl),fun _=>.p (ay rfl rfl),fun _=>.p oa,fun _=>.p oa,trivial⟩ rfl rfl (ab.seq (ab.ag ⟨[(1,_),(3,_),(10,_),(11,_)],[(101,_)]⟩ rfl ?_))
   obtain ⟨nd_11,e9,h⟩:=aM h
   obtain ⟨x_12,e10,h⟩:=aM h
   refine ab.bH mixed 11 [.b (.one (.tr ae x_9)),.b (.agg (bJ t0)),.b (.one (.tr ae n0)),.b (.one (.tr ae x_10)),.b (.one (.tr ae n0)),.b (.aN (ar nd_11.1.x ++ (.int .u64 nd_11.1.priority :: (ak nd_11.1.cover ++ ([.tr ae nd_11.2.1,.tr ae nd_11.2.2]))))),.b (.aN [.tr ae nd_11.2.2]),.b (.one (.tr ae nd_11.2.2)),.b (.one (.tr ae x_12)),.b (.one (.tr ae x_9)),.b (.one (.tr ae x_12))] [6,7] [] (s':=⟨[(6,.b (.one (.tr ae x_9))),(7,.b (.one (.tr ae x_12)))],[]⟩) rfl ⟨fun _=>.p om,fun _=>.p (lp bB),fun _=>.p om,fun _=>.p om,fun _=>.p om,fun _=>.p (aG e9 rfl rfl),fun _=>by exact .p (aF dr rfl rfl),fun _=>.p (ax bq rfl rfl),fun _=>.p (aj (bO e10) kU rfl rfl),fun _=>.p oa,fun _=>.p oa,trivial⟩ rfl rfl (ab.ret ?_)
   obtain rfl:=Option.some.inj h
   refine Fin.ag ⟨[(6,_),(7,_)],[]⟩ rfl (Fin.au [.one (.tr ae x_9),.one (.tr ae x_12)] (.inl rfl) rfl (.cons (.tmp rfl) (.cons (.tmp rfl) .nil)) ⟨rfl,rfl⟩)
theorem jk {F:Nat} {t0:ir} {n0:cG bc} {x0:entry} {r:(cG bc) × (cG bc)} (h:eF F t0 n0 x0 = some r):aq Tryz.prog [] 79 [] [.agg (bJ t0),.one (.tr ae n0),.agg (ar x0)] (Is [] (.ek [.one (.tr ae r.1),.one (.tr ae r.2)])):=jc F h
def eT (F:Nat) (x0:Int):Option Int :=
 er (IntKind.u64.wrap ((nU .u64 x0 (x0 / 1073741824)) * 13787848793156543929)) fun x_1=>er (IntKind.u64.wrap ((nU .u64 x_1 (x_1 / 134217728)) * 10723151780598845931)) fun x_2=>some (nU .u64 x_2 (x_2 / 2147483648))
theorem nP {F:Nat} {x0:Int} {r:Int} (h:eT F x0 = some r):aq Tryz.prog [] 81 [] [.one (.int .u64 x0)] (Is [] (.b (.one (.int .u64 r)))):=by
 unfold eT at h
 refine aq.intro 19 Tryz.func81 Tryz.ntmps81 rfl (by simp) fun E=>?_
 show ab _ E ⟨19,[],[],[]⟩ _ ⟨[(0,.b (.one (.int .u64 x0)))],[]⟩ _
 refine ab.seq (ab.aa ?_)
 refine Oc oa (af.ai ⟨[(0,.b (.one (.int .u64 x0)))],[]⟩ rfl (ab.seq (ab.aa ?_)))
 refine Oc om (Oc om (Oc (iP (m:=30) (by decide) rfl rfl rfl) (Oc (qu rfl rfl) (Oc oa ?_))))
 refine af.ai ⟨[(0,.b (.one (.int .u64 (nU .u64 x0 (x0 / 1073741824)))))],[]⟩ rfl (ab.seq (ab.aa ?_))
 refine Oc om (af.pv .u64 h rfl (sK rfl rfl) (fun x_1 h=>?_))
 refine Oc oa (af.ai ⟨[(0,.b (.one (.int .u64 x_1)))],[]⟩ rfl (ab.seq (ab.aa ?_)))
 refine Oc om (Oc om (Oc (iP (m:=27) (by decide) rfl rfl rfl) (Oc (qu rfl rfl) (Oc oa ?_))))
 refine af.ai ⟨[(0,.b (.one (.int .u64 (nU .u64 x_1 (x_1 / 134217728)))))],[]⟩ rfl (ab.seq (ab.aa ?_))
 refine Oc om (af.pv .u64 h rfl (sK rfl rfl) (fun x_2 h=>?_))
 refine Oc oa (af.ai ⟨[(0,.b (.one (.int .u64 x_2)))],[]⟩ rfl (ab.seq (ab.aa ?_)))
 refine Oc om (Oc om (Oc (iP (m:=31) (by decide) rfl rfl rfl) (Oc (qu rfl rfl) (Oc oa ?_))))
 refine af.ai ⟨[(2,.b (.one (.int .u64 (nU .u64 x_2 (x_2 / 2147483648)))))],[]⟩ rfl (ab.ret ?_)
 obtain rfl:=Option.some.inj h
 refine Fin.ag ⟨[(2,_)],[]⟩ rfl (Fin.au [.one (.int .u64 (nU .u64 x_2 (x_2 / 2147483648)))] (.inl rfl) rfl (.cons (.tmp rfl) .nil) ⟨rfl,rfl⟩)
def bX (F:Nat):Nat → ir → (cG bc) → (cG bc) → Option (cG bc)
 | 0,_,_,_=>none
 | n + 1,t0,a0,b0=>if a0.cW = true then (some b0) else (if b0.cW = true then (some a0) else (Option.bind (iK a0) (fun nd_1=>Option.bind (iK b0) (fun nd_2=>if (decide (nd_2.1.priority < nd_1.1.priority)) = true then (Option.bind (iK a0) (fun nd_3=>Option.bind (iK a0) (fun nd_4=>(bX F n t0 nd_4.2.2 b0).bind fun x_5=>(a8 F t0 a0 nd_3.2.1 x_5).bind fun x_6=>some x_6))) else (Option.bind (iK b0) (fun nd_7=>(bX F n t0 a0 nd_7.2.1).bind fun x_8=>Option.bind (iK b0) (fun nd_9=>(a8 F t0 b0 x_8 nd_9.2.2).bind fun x_10=>some x_10)))))))
def ck (F:Nat) (t0:ir) (a0:cG bc) (b0:cG bc):Option (cG bc):=bX F F t0 a0 b0
theorem jl {F:Nat}:∀ (n:Nat) {t0:ir} {a0:cG bc} {b0:cG bc} {r:(cG bc)} (h:bX F n t0 a0 b0 = some r),aq Tryz.prog [] 82 [] [.agg (bJ t0),.one (.tr ae a0),.one (.tr ae b0)] (Is [] (.b (.one (.tr ae r)))):=by
 intro n
 induction n with
 | zero=>intro t0 a0 b0 r h; simp [bX] at h
 | succ n ih=>
 intro t0 a0 b0 r h
 unfold bX at h
 refine aq.intro 53 Tryz.func82 Tryz.ntmps82 rfl (by simp) fun E=>?_
 show ab _ E ⟨53,[],[],[]⟩ _ ⟨[(0,.b (.agg (bJ t0))),(1,.b (.one (.tr ae a0))),(2,.b (.one (.tr ae b0)))],[]⟩ _
 refine ab.seq (ab.aa ?_)
 refine Oc (bp (k:=101) rfl rfl) (Oc oa ?_)
 refine af.ai ⟨[(1,.b (.one (.tr ae a0))),(2,.b (.one (.tr ae b0))),(3,Pt 101 0)],[(101,.box 47 (bJ t0))]⟩ rfl (ab.seq (ab.block (ab.seq (ab.aa ?_))))
 refine Oc om (Oc (eQ kQ rfl) (Oc oa ?_))
 refine af.ai ⟨[(1,_),(2,_),(3,_),(7,B a0.cW)],[(101,_)]⟩ rfl (ab.ite h rfl (fun _ h=>?_) (fun _ h=>?_))
 ·refine ab.seq (ab.aa ?_)
  refine Oc om (Oc oa ?_)
  refine af.ai ⟨[(6,.b (.one (.tr ae b0)))],[]⟩ rfl (ab.ret (Fin.aS (Fin.av ?_)))
  obtain rfl:=Option.some.inj h
  refine Fin.ag ⟨[(6,_)],[]⟩ rfl (Fin.au [.one (.tr ae b0)] (.inl rfl) rfl (.cons (.tmp rfl) .nil) ⟨rfl,rfl⟩)
 ·refine ab.seq (ab.aa ?_)
  refine Oc om (Oc (eQ kQ rfl) (Oc oa ?_))
  refine af.ai ⟨[(1,_),(2,_),(3,_),(11,B b0.cW)],[(101,_)]⟩ rfl (ab.ite h rfl (fun _ h=>?_) (fun _ h=>?_))
  ·refine ab.seq (ab.aa ?_)
   refine Oc om (Oc oa ?_)
   refine af.ai ⟨[(6,.b (.one (.tr ae a0)))],[]⟩ rfl (ab.ret (Fin.aS (Fin.av ?_)))
   obtain rfl:=Option.some.inj h
   refine Fin.ag ⟨[(6,_)],[]⟩ rfl (Fin.au [.one (.tr ae a0)] (.inl rfl) rfl (.cons (.tmp rfl) .nil) ⟨rfl,rfl⟩)
  ·refine ab.seq (ab.ag ⟨[(1,_),(2,_),(3,_)],[(101,_)]⟩ rfl ?_)
   obtain ⟨nd_1,e1,h⟩:=aM h
   obtain ⟨nd_2,e2,h⟩:=aM h
   refine ab.bH mixed 10 [.b (.one (.tr ae a0)),.b (.aN (ar nd_1.1.x ++ (.int .u64 nd_1.1.priority :: (ak nd_1.1.cover ++ ([.tr ae nd_1.2.1,.tr ae nd_1.2.2]))))),.b (.aN (.int .u64 nd_1.1.priority :: (ak nd_1.1.cover ++ ([.tr ae nd_1.2.1,.tr ae nd_1.2.2])))),.b (.one (.int .u64 nd_1.1.priority)),.b (.one (.tr ae b0)),.b (.aN (ar nd_2.1.x ++ (.int .u64 nd_2.1.priority :: (ak nd_2.1.cover ++ ([.tr ae nd_2.2.1,.tr ae nd_2.2.2]))))),.b (.aN (.int .u64 nd_2.1.priority :: (ak nd_2.1.cover ++ ([.tr ae nd_2.2.1,.tr ae nd_2.2.2])))),.b (.one (.int .u64 nd_2.1.priority)),B (decide (nd_2.1.priority < nd_1.1.priority)),B (decide (nd_2.1.priority < nd_1.1.priority))] [1,2,3,15] [101] (s':=⟨[(1,_),(2,_),(3,_),(15,B (decide (nd_2.1.priority < nd_1.1.priority)))],[(101,_)]⟩) rfl ⟨fun _=>.p om,fun _=>.p (aG e1 rfl rfl),fun _=>by exact .p (aF k3 rfl rfl),fun _=>.p (ax oS rfl rfl),fun _=>.p om,fun _=>.p (aG e2 rfl rfl),fun _=>by exact .p (aF k3 rfl rfl),fun _=>.p (ax oS rfl rfl),fun _=>.p (hY rfl rfl),fun _=>.p oa,trivial⟩ rfl rfl (ab.ite h rfl (fun _ h=>?_) (fun _ h=>?_))
   ·refine ab.seq (ab.ag ⟨[(1,_),(2,_),(3,_)],[(101,_)]⟩ rfl ?_)
    obtain ⟨nd_3,e3,h⟩:=aM h
    obtain ⟨nd_4,e4,h⟩:=aM h
    obtain ⟨x_5,e5,h⟩:=aM h
    obtain ⟨x_6,e6,h⟩:=aM h
    refine ab.bH mixed 15 [.b (.agg (bJ t0)),.b (.one (.tr ae a0)),.b (.one (.tr ae a0)),.b (.aN (ar nd_3.1.x ++ (.int .u64 nd_3.1.priority :: (ak nd_3.1.cover ++ ([.tr ae nd_3.2.1,.tr ae nd_3.2.2]))))),.b (.aN [.tr ae nd_3.2.1,.tr ae nd_3.2.2]),.b (.one (.tr ae nd_3.2.1)),.b (.agg (bJ t0)),.b (.one (.tr ae a0)),.b (.aN (ar nd_4.1.x ++ (.int .u64 nd_4.1.priority :: (ak nd_4.1.cover ++ ([.tr ae nd_4.2.1,.tr ae nd_4.2.2]))))),.b (.aN [.tr ae nd_4.2.2]),.b (.one (.tr ae nd_4.2.2)),.b (.one (.tr ae b0)),.b (.one (.tr ae x_5)),.b (.one (.tr ae x_6)),.b (.one (.tr ae x_6))] [6] [] (s':=⟨[(6,.b (.one (.tr ae x_6)))],[]⟩) rfl ⟨fun _=>.p (lp bB),fun _=>.p om,fun _=>.p om,fun _=>.p (aG e3 rfl rfl),fun _=>by exact .p (aF dt rfl rfl),fun _=>.p (ax bq rfl rfl),fun _=>.p (lp bB),fun _=>.p om,fun _=>.p (aG e4 rfl rfl),fun _=>by exact .p (aF dr rfl rfl),fun _=>.p (ax bq rfl rfl),fun _=>.p om,fun _=>.p (aj (ih e5) nh rfl rfl),fun _=>.p (aj (bO e6) kU rfl rfl),fun _=>.p oa,trivial⟩ rfl rfl (ab.ret (Fin.aS (Fin.av ?_)))
    obtain rfl:=Option.some.inj h
    refine Fin.ag ⟨[(6,_)],[]⟩ rfl (Fin.au [.one (.tr ae x_6)] (.inl rfl) rfl (.cons (.tmp rfl) .nil) ⟨rfl,rfl⟩)
   ·refine ab.skip (Fin.az (Fin.ag ⟨[(1,_),(2,_),(3,_)],[(101,_)]⟩ rfl (Fin.then (ab.seq ?_))))
    refine ab.ag ⟨[(1,_),(2,_),(3,_)],[(101,_)]⟩ rfl ?_
    obtain ⟨nd_7,e7,h⟩:=aM h
    obtain ⟨x_8,e8,h⟩:=aM h
    obtain ⟨nd_9,e9,h⟩:=aM h
    obtain ⟨x_10,e10,h⟩:=aM h
    refine ab.bH mixed 15 [.b (.agg (bJ t0)),.b (.one (.tr ae b0)),.b (.agg (bJ t0)),.b (.one (.tr ae a0)),.b (.one (.tr ae b0)),.b (.aN (ar nd_7.1.x ++ (.int .u64 nd_7.1.priority :: (ak nd_7.1.cover ++ ([.tr ae nd_7.2.1,.tr ae nd_7.2.2]))))),.b (.aN [.tr ae nd_7.2.1,.tr ae nd_7.2.2]),.b (.one (.tr ae nd_7.2.1)),.b (.one (.tr ae x_8)),.b (.one (.tr ae b0)),.b (.aN (ar nd_9.1.x ++ (.int .u64 nd_9.1.priority :: (ak nd_9.1.cover ++ ([.tr ae nd_9.2.1,.tr ae nd_9.2.2]))))),.b (.aN [.tr ae nd_9.2.2]),.b (.one (.tr ae nd_9.2.2)),.b (.one (.tr ae x_10)),.b (.one (.tr ae x_10))] [6] [] (s':=⟨[(6,.b (.one (.tr ae x_10)))],[]⟩) rfl ⟨fun _=>.p (lp bB),fun _=>.p om,fun _=>.p (lp bB),fun _=>.p om,fun _=>.p om,fun _=>.p (aG e7 rfl rfl),fun _=>by exact .p (aF dt rfl rfl),fun _=>.p (ax bq rfl rfl),fun _=>.p (aj (ih e8) nh rfl rfl),fun _=>.p om,fun _=>.p (aG e9 rfl rfl),fun _=>by exact .p (aF dr rfl rfl),fun _=>.p (ax bq rfl rfl),fun _=>.p (aj (bO e10) kU rfl rfl),fun _=>.p oa,trivial⟩ rfl rfl (ab.ret ?_)
    obtain rfl:=Option.some.inj h
    refine Fin.ag ⟨[(6,_)],[]⟩ rfl (Fin.au [.one (.tr ae x_10)] (.inl rfl) rfl (.cons (.tmp rfl) .nil) ⟨rfl,rfl⟩)
theorem dU {F:Nat} {t0:ir} {a0:cG bc} {b0:cG bc} {r:(cG bc)} (h:ck F t0 a0 b0 = some r):aq Tryz.prog [] 82 [] [.agg (bJ t0),.one (.tr ae a0),.one (.tr ae b0)] (Is [] (.b (.one (.tr ae r)))):=jl F h
def bD (F:Nat) (t0:ir) (x0:entry):Option ir :=
 Option.bind (eF F t0 t0.root x0) (eW fun x_1 x_2=>(gk F t0.key x0).bind fun x_3=>(eT F x_3).bind fun x_4=>(a8 F t0 (.node (⟨x0,x_4,(⟨A3.zero,A3.zero⟩:bz)⟩:bc) (.leaf) (.leaf)) (.leaf) (.leaf)).bind fun x_5=>(ck F t0 x_1 x_5).bind fun x_6=>(ck F t0 x_6 x_2).bind fun x_7=>er (⟨x_7,t0.compare,t0.key,t0.box⟩:ir) fun x_8=>some x_8)
theorem fU {F:Nat} {t0:ir} {x0:entry} {r:ir} (h:bD F t0 x0 = some r):aq Tryz.prog [] 59 [] [.agg (bJ t0),.agg (ar x0)] (Is [] (.b (.agg (bJ r)))):=by
 unfold bD at h
 refine aq.intro 35 Tryz.func59 Tryz.ntmps59 rfl (by simp) fun E=>?_
 show ab _ E ⟨35,[],[],[]⟩ _ ⟨[(0,.b (.agg (bJ t0))),(1,.b (.agg (ar x0)))],[]⟩ _
 refine ab.seq (ab.aa ?_)
 refine Oc (bp (k:=101) rfl rfl) (Oc (bp (k:=102) rfl rfl) (Oc (aW (k:=103) pA rfl) ?_))
 refine af.ai ⟨[(2,Pt 101 0),(3,Pt 102 0),(4,Pt 103 0)],[(101,.box 47 (bJ t0)),(102,.box 87 (ar x0)),(103,.box 47 [.tr ae (.leaf),.cV 0,.cV 0,.cV 0])]⟩ rfl (ab.seq (ab.aa ?_))
 refine Oc (lp bB) (Oc (an fu rfl rfl) (Oc (aE bq rfl rfl rfl) (Oc (lp br) ?_)))
 obtain ⟨⟨x_1,x_2⟩,e1,h⟩:=aM h
 refine Oc (aj (jk e1) qA rfl rfl) (af.ag ⟨[(2,_),(3,_),(4,_),(13,.ek [.one (.tr ae x_1),.one (.tr ae x_2)])],[(101,_),(102,_),(103,_)]⟩ rfl (Oc om (Oc (ay rfl rfl) (Oc (ay rfl rfl) (Oc oa (Oc oa ?_))))))
 refine af.ai ⟨[(2,_),(3,_),(4,_),(5,.b (.one (.tr ae x_1))),(6,.b (.one (.tr ae x_2)))],[(101,_),(102,_),(103,_)]⟩ rfl (ab.seq ?_)
 obtain ⟨x_3,e2,h⟩:=aM h
 obtain ⟨x_4,e3,h⟩:=aM h
 obtain ⟨x_5,e4,h⟩:=aM h
 refine ab.lB mixed [false,false,false,false,false,false,false,false,true,false,false] [.b (.agg (bJ t0)),.b (.agg (ar x0)),Pt 101 2,.b (.one (.cV t0.key)),.b (.agg (ar x0)),.b (.one (.int .u64 x_3)),.b (.one (.int .u64 x_4)),.b (.agg (ar x0 ++ (.int .u64 x_4 :: ((bI .i64) A3.zero ++ ((bI .i64) A3.zero ++ ([.tr ae (.leaf),.tr ae (.leaf)])))))),.b (.one (.tr ae (.node (⟨x0,x_4,(⟨A3.zero,A3.zero⟩:bz)⟩:bc) (.leaf) (.leaf)))),.b (.one (.tr ae x_5)),.b (.one (.tr ae x_5))] [⟨[false,false,false,false,false,false,false,false,false,false,false],[(2,Pt 101 0),(3,Pt 102 0),(4,Pt 103 0),(5,.b (.one (.tr ae x_1))),(6,.b (.one (.tr ae x_2)))],[(101,.box 47 (bJ t0)),(102,.box 87 (ar x0)),(103,.box 47 [.tr ae (.leaf),.cV 0,.cV 0,.cV 0])],[true,true,true,true,true,true,true,true,true,true,true],[],[9,10]⟩,⟨[false,false,false,false,false,false,false,false,true,false,false],[(2,Pt 101 0),(3,Pt 102 0),(4,Pt 103 0),(5,.b (.one (.tr ae x_1))),(6,.b (.one (.tr ae x_2)))],[(101,.box 47 (bJ t0)),(102,.box 87 (ar x0)),(103,.box 47 [.tr ae (.leaf),.cV 0,.cV 0,.cV 0])],[true,true,true,true,true,true,true,true,true,true,true],[1,2,3,4,5,6,7,8],[]⟩] rfl (⟨by kernel_rfl,⟨⟨.b (.agg (bJ t0)),fun _=>rfl,fun _=>.p (by exact cF bB rfl rfl rfl rfl)⟩,⟨.b (.agg (ar x0)),fun _=>rfl,fun _=>.p (by exact cF br rfl rfl rfl rfl)⟩,⟨Pt 101 2,fun _=>rfl,fun _=>.p (by exact an rT rfl rfl)⟩,⟨.b (.one (.cV t0.key)),fun _=>rfl,fun _=>.p (by exact aE tyOne44 rfl rfl rfl)⟩,⟨.b (.agg (ar x0)),fun _=>rfl,fun _=>.p (by exact cF br rfl rfl rfl rfl)⟩,⟨.b (.one (.int .u64 x_3)),fun _=>rfl,fun _=>.p (by exact kg (qT e2) (qU e2) (tI e2) rfl rfl rfl)⟩,⟨.b (.one (.int .u64 x_4)),fun _=>rfl,fun _=>.p (by exact aj (nP e3) goes81 rfl rfl)⟩,⟨.b (.agg (ar x0 ++ (.int .u64 x_4 :: ((bI .i64) A3.zero ++ ((bI .i64) A3.zero ++ ([.tr ae (.leaf),.tr ae (.leaf)])))))),fun _=>rfl,fun _=>.p (by exact cg nz rfl rfl)⟩,⟨_,[],.b (.one (.tr ae (.node (⟨x0,x_4,(⟨A3.zero,A3.zero⟩:bz)⟩:bc) (.leaf) (.leaf)))),rfl,fun _=>rfl,rfl,rfl,fun _=>.sm [101,102,103] (by exact .p (by exact op_boxT (enc:=ae) (⟨x0,x_4,(⟨A3.zero,A3.zero⟩:bz)⟩:bc) (.leaf) (.leaf) rfl rfl)) (by exact rfl)⟩,trivial,trivial,trivial⟩,⟨by kernel_rfl,⟨⟨.b (.agg (bJ t0)),fun _=>rfl,fun _=>.p (by exact cF bB rfl rfl rfl rfl)⟩,trivial,trivial,trivial,trivial,trivial,trivial,trivial,trivial,⟨.b (.one (.tr ae x_5)),fun _=>rfl,fun _=>.p (by exact aj (bO e4) kU rfl rfl)⟩,⟨.b (.one (.tr ae x_5)),fun _=>rfl,fun _=>.p (by exact b4 rfl)⟩,trivial⟩,trivial⟩⟩) rfl rfl rfl [2,4,5,6,7] [101,103] (s':=⟨[(2,_),(4,_),(5,_),(6,_),(7,.b (.one (.tr ae x_5)))],[(101,_),(103,_)]⟩) rfl ?_
 refine ab.seq (ab.ag ⟨[(2,_),(4,_),(5,_),(6,_),(7,_)],[(101,_),(103,_)]⟩ rfl ?_)
 obtain ⟨x_6,e5,h⟩:=aM h
 obtain ⟨x_7,e6,h⟩:=aM h
 refine ab.bH mixed 8 [.b (.agg (bJ t0)),.b (.agg (bJ t0)),.b (.one (.tr ae x_1)),.b (.one (.tr ae x_5)),.b (.one (.tr ae x_6)),.b (.one (.tr ae x_2)),.b (.one (.tr ae x_7)),Pt 101 0] [2,4] [101,103] (s':=⟨[(2,_),(4,_)],[(101,.box 47 [.tr ae x_7,.cV t0.compare,.cV t0.key,.cV t0.box]),(103,_)]⟩) rfl ⟨fun _=>.p (lp bB),fun _=>.p (lp bB),fun _=>.p om,fun _=>.p om,fun _=>.p (aj (dU e5) nh rfl rfl),fun _=>.p om,fun _=>.p (aj (dU e6) nh rfl rfl),fun _=>.p (an fu rfl rfl),trivial⟩ ⟨_,by exact .p (cC bq rfl rfl rfl (Nat.le_of_ble_eq_true rfl) rfl),rfl⟩ rfl (ab.seq (ab.aa ?_))
 refine af.ly bJ h rfl (lp bB) (fun x_8 h=>?_)
 refine Oc (aD bB rfl rfl rfl rfl (Nat.le_of_ble_eq_true rfl) rfl) (af.ai ⟨[(4,_)],[(103,.box 47 (bJ x_8))]⟩ rfl (ab.ret ?_))
 obtain rfl:=Option.some.inj h
 refine Fin.ag ⟨[(4,_)],[(103,_)]⟩ rfl (Fin.au [.agg (bJ x_8)] (.inl rfl) rfl (.cons (.agg bB rfl rfl rfl rfl) .nil) ⟨rfl,rfl⟩)
def ca (F:Nat) (s0:c7) (id0:Int) (b0:bz):Option (c7 × Int) :=
 (bP F b0).bind fun x_1=>if (!x_1) = true then (er (⟨(⟨.leaf,0,0,0⟩:ir),(⟨.leaf,0,0,0⟩:ir)⟩:c7) fun x_2=>some (x_2,1)) else (Option.bind (cn F s0 id0) (eW fun x_3 x_4=>if x_4 = true then (er (⟨(⟨.leaf,0,0,0⟩:ir),(⟨.leaf,0,0,0⟩:ir)⟩:c7) fun x_5=>some (x_5,6)) else ((bD F s0.ids (⟨id0,b0⟩:entry)).bind fun x_6=>(bD F s0.boxes (⟨id0,b0⟩:entry)).bind fun x_7=>some ((⟨x_6,x_7⟩:c7),0))))
theorem cT {F:Nat} {s0:c7} {id0:Int} {b0:bz} {r:c7 × Int} (h:ca F s0 id0 b0 = some r):aq Tryz.prog [] 29 [] [.agg (aJ s0),.one (.i id0),.agg (ak b0)] (Is [] (.ek [.agg (aJ r.1),.one (.i r.2)])):=by
 unfold ca at h
 refine aq.intro 35 Tryz.func29 Tryz.ntmps29 rfl (by simp) fun E=>?_
 show ab _ E ⟨35,[],[],[]⟩ _ ⟨[(0,.b (.agg (aJ s0))),(1,I id0),(2,.b (.agg (ak b0)))],[]⟩ _
 refine ab.seq (ab.aa ?_)
 refine Oc (bp (k:=101) rfl rfl) (Oc (bp (k:=102) rfl rfl) (Oc (aW (k:=103) fh rfl) (Oc oa ?_)))
 refine af.ai ⟨[(1,I id0),(3,Pt 101 0),(5,Pt 102 0),(6,Pt 103 0)],[(101,.box 49 (aJ s0)),(102,.box 25 (ak b0)),(103,.box 49 [.tr ae (.leaf),.cV 0,.cV 0,.cV 0,.tr ae (.leaf),.cV 0,.cV 0,.cV 0])]⟩ rfl (ab.seq (ab.seq (ab.aa ?_)))
 refine Oc (lp ao) ?_
 obtain ⟨x_1,e1,h⟩:=aM h
 refine Oc (aj (cx e1) kW rfl rfl) (Oc (dp rfl) ?_)
 refine af.ai ⟨[(1,_),(3,_),(5,_),(6,_),(13,B (!x_1))],[(101,_),(102,_),(103,_)]⟩ rfl (ab.ite h rfl (fun _ h=>?_) (fun _ h=>?_))
 ·refine ab.seq (ab.aa ?_)
  refine af.ly aJ h rfl (cg eH rfl rfl) (fun x_2 h=>?_)
  refine Oc (aD aU rfl rfl rfl rfl (Nat.le_of_ble_eq_true rfl) rfl) (Oc oa ?_)
  refine af.ai ⟨[(6,_),(7,I 1)],[(103,.box 49 (aJ x_2))]⟩ rfl (ab.ret (Fin.av ?_))
  obtain rfl:=Option.some.inj h
  refine Fin.ag ⟨[(6,_),(7,_)],[(103,_)]⟩ rfl (Fin.au [.agg (aJ x_2),.one (.i 1)] (.inl rfl) rfl (.cons (.agg aU rfl rfl rfl rfl) (.cons (.tmp rfl) .nil)) ⟨rfl,rfl⟩)
 ·refine ab.skip (Fin.ag ⟨[(1,_),(3,_),(5,_),(6,_)],[(101,_),(102,_),(103,_)]⟩ rfl (Fin.then (ab.seq (ab.seq (ab.aa ?_)))))
  refine Oc (lp aU) (Oc om ?_)
  obtain ⟨⟨x_3,x_4⟩,e2,h⟩:=aM h
  refine Oc (aj (eG e2) qB rfl rfl) (Oc om (Oc (ay rfl rfl) ?_))
  refine af.ag ⟨[(1,_),(3,_),(5,_),(6,_),(15,.ek [.agg (ar x_3),.one (.bool x_4)]),(19,.b (.agg (ar x_3)))],[(101,_),(102,_),(103,_)]⟩ rfl (Oc (ay rfl rfl) (Oc (aW (k:=104) gF rfl) (Oc (aD br rfl rfl rfl rfl (Nat.le_of_ble_eq_true rfl) rfl) (Oc oa ?_))))
  refine af.ai ⟨[(1,_),(3,_),(5,_),(6,_),(9,B x_4)],[(101,_),(102,_),(103,_)]⟩ rfl (ab.seq (ab.aa ?_))
  refine Oc om (af.ai ⟨[(1,_),(3,_),(5,_),(6,_),(21,B x_4)],[(101,_),(102,_),(103,_)]⟩ rfl (ab.ite h rfl (fun _ h=>?_) (fun _ h=>?_)))
  ·refine ab.seq (ab.aa ?_)
   refine af.ly aJ h rfl (cg eH rfl rfl) (fun x_5 h=>?_)
   refine Oc (aD aU rfl rfl rfl rfl (Nat.le_of_ble_eq_true rfl) rfl) (Oc oa ?_)
   refine af.ai ⟨[(6,_),(7,I 6)],[(103,.box 49 (aJ x_5))]⟩ rfl (ab.ret (Fin.av ?_))
   obtain rfl:=Option.some.inj h
   refine Fin.ag ⟨[(6,_),(7,_)],[(103,_)]⟩ rfl (Fin.au [.agg (aJ x_5),.one (.i 6)] (.inl rfl) rfl (.cons (.agg aU rfl rfl rfl rfl) (.cons (.tmp rfl) .nil)) ⟨rfl,rfl⟩)
  ·refine ab.skip (Fin.ag ⟨[(1,_),(3,_),(5,_),(6,_)],[(101,_),(102,_),(103,_)]⟩ rfl (Fin.then (ab.seq (ab.aa ?_))))
   refine Oc om (Oc (lp ao) (Oc (cg og rfl rfl) (Oc (aW (k:=105) gF rfl) (Oc (aD br rfl rfl rfl rfl (Nat.le_of_ble_eq_true rfl) rfl) ?_))))
   refine af.ai ⟨[(3,_),(6,_),(10,Pt 105 0)],[(101,_),(103,_),(105,.box 87 (.i id0 :: (ak b0)))]⟩ rfl (ab.seq ?_)
   obtain ⟨x_6,e3,h⟩:=aM h
   obtain ⟨x_7,e4,h⟩:=aM h
   refine ab.bH mixed 9 [Pt 101 0,.b (.agg (bJ s0.ids)),.b (.agg (.i id0 :: (ak b0))),.b (.agg (bJ x_6)),Pt 101 4,.b (.agg (bJ s0.boxes)),.b (.agg (.i id0 :: (ak b0))),.b (.agg (bJ x_7)),.b (.agg (bJ x_6 ++ (bJ x_7)))] [6,7] [103] (s':=⟨[(6,_),(7,I 0)],[(103,.box 49 (bJ x_6 ++ (bJ x_7)))]⟩) rfl ⟨fun _=>.p (an ka rfl rfl),fun _=>.p (lp bB),fun _=>.p (lp br),fun _=>.p (aj (fU e3) sS rfl rfl),fun _=>.p (an lY rfl rfl),fun _=>.p (lp bB),fun _=>.p (lp br),fun _=>.p (aj (fU e4) sS rfl rfl),fun _=>.p (cg eH rfl rfl),trivial⟩ ⟨_,by exact .p (aD aU rfl rfl rfl rfl (Nat.le_of_ble_eq_true rfl) rfl),⟨_,by exact .p oa,rfl⟩⟩ rfl (ab.ret ?_)
   obtain rfl:=Option.some.inj h
   refine Fin.ag ⟨[(6,_),(7,_)],[(103,_)]⟩ rfl (Fin.au [.agg (bJ x_6 ++ (bJ x_7)),.one (.i 0)] (.inl rfl) rfl (.cons (.agg aU rfl rfl rfl rfl) (.cons (.tmp rfl) .nil)) ⟨rfl,rfl⟩)
def cy (F:Nat) (s0:c7) (b0:bz):Option (List Int) :=
 Option.bind (rP (fun t=>dw F t b0) s0.boxes.root) (fun xs_1=>Option.bind (each (fun outf0_3=>fun x_2=>(b9 F x_2.b b0).bind fun x_4=>if x_4 = true then ((mP outf0_3 [x_2.id]).bind fun x_5=>some (.inl x_5)) else (some (.inl outf0_3))) (xs_1) []) (ct (fun outf0_3=>(fF F outf0_3).bind fun x_6=>some x_6) (fun (_:Unit)=>none)))
theorem dc {F:Nat} {s0:c7} {b0:bz} {r:(List Int)} (h:cy F s0 b0 = some r):aq Tryz.prog [] 55 [] [.agg (aJ s0),.agg (ak b0)] (Is [(51,.row 3 1 (r.map eI))] (.b (.row 51))):=by
 unfold cy at h
 refine aq.sO 25 Tryz.func55 Tryz.ntmps55 rfl (by simp) fun E=>?_
 show ab _ E ⟨25,[],[],[]⟩ _ ⟨[(0,.b (.agg (aJ s0))),(1,.b (.agg (ak b0)))],[]⟩ _
 refine ab.seq (ab.aa ?_)
 refine Oc (lI rfl) (Oc (lI rfl) (Oc oa ?_))
 refine af.ai ⟨[(2,.b (.aN (aJ s0))),(3,.b (.aN (ak b0)))],[]⟩ rfl (ab.seq (ab.aa ?_))
 refine Oc (aW (k:=101) ti rfl) (af.ai ⟨[(2,_),(3,_),(5,Pt 101 0)],[(101,.box 51 [.nil])]⟩ rfl (ab.seq (ab.seq (ab.aa ?_))))
 refine Oc (aF lY rfl rfl) (Oc (aF fu rfl rfl) (Oc (ax bq rfl rfl) (Oc (gv rfl) (Oc (aj pZ sT rfl rfl) ?_))))
 refine af.ai ⟨[(3,_),(5,_),(11,.b (.one (.eX 77 [CP.rp [.tr ae s0.boxes.root],CP.rp [.eX 74 [CP.rp (ak b0)]]])))],[(101,_)]⟩ rfl ?_
 obtain ⟨xs_1,e1,h⟩:=aM h
 refine ab.ag ⟨[(3,.b (.aN (ak b0))),(5,Pt 101 0),(11,.b (.one (.eX 77 [CP.rp [.tr ae s0.boxes.root],CP.rp [.eX 74 [CP.rp (ak b0)]]])))],[(101,.box 51 [.nil])]⟩ rfl (ab.toX 101 rfl (ab.gT 101 0 104 1 3 rfl rfl (by decide) (by decide) rfl (ab.ag ⟨[(3,_),(5,_),(11,_)],[(101,.b5 51 [.row 104]),(104,.row 3 1 ([].map eI))]⟩ rfl (ab.sJ _ sv _ _ (fun (outf0_3:List Int)=>[(101,.b5 51 [.row 104]),(104,.row 3 1 (outf0_3.map eI))]) (fun (_:Unit)=>([]:List (Nat × OC))) (fun (outf0_3:List Int)=>fun x_2=>⟨[(3,.b (.aN (ak b0))),(5,Pt 101 0),(6,Pt 106 0)],[(101,.b5 51 [.row 104]),(104,.row 3 1 (outf0_3.map eI)),(106,.box 87 (ar x_2))]⟩) h (p4 qf e1) sQ rfl rfl rfl (fun _=>rfl) (fun _=>rfl) (fun _=>rfl) (fun _ _=>rfl) (fun _ _=>rfl) rfl (fun _=>rfl) ?_ ?_ ?_ ?_))))
 ·rintro E l outf0_3 x_2 z _ h2
  refine aX.keep [3,5,11,12] [101,104] (s':=⟨[(3,.b (.aN (ak b0))),(5,Pt 101 0),(11,.b (.one (.eX 77 [CP.rp [.tr ae s0.boxes.root],CP.rp [.eX 74 [CP.rp (ak b0)]]]))),(12,.b (.agg (ar x_2)))],[(101,.b5 51 [.row 104]),(104,.row 3 1 (outf0_3.map eI))]⟩) rfl (aX.aa (.inr ⟨_,rfl⟩) (Oc (aW (k:=106) gF rfl) (Oc (aD br rfl rfl rfl rfl (Nat.le_of_ble_eq_true rfl) rfl) ?_)))
  refine af.nil ?_
  exact Fin.ag ⟨[(3,_),(5,_),(6,Pt 106 0)],[(101,_),(104,_),(106,.box 87 (ar x_2))]⟩ rfl (fun a w hr=>hr)
 ·rintro E l outf0_3 x_2 z _ h2
  refine aX.block (aX.seq (aX.aa (.inr ⟨_,rfl⟩) (Oc (an gy rfl rfl) (Oc (lp ao) (Oc (cw ao rfl rfl rfl) ?_)))))
  obtain ⟨x_4,e3,h2⟩:=aM h2
  refine Oc (aj (cH e3) kV rfl rfl) (af.nil (Fin.ag ⟨[(3,.b (.aN (ak b0))),(5,Pt 101 0),(6,Pt 106 0),(16,B x_4)],[(101,.b5 51 [.row 104]),(104,.row 3 1 (outf0_3.map eI)),(106,.box 87 (ar x_2))]⟩ rfl (Fin.gb ?_ (fun ⟨_,_,hl⟩=>hl))))
  refine aX.ite h2 rfl (fun _ h2=>?_) (fun _ h2=>?_)
  ·refine aX.aa (.inr ⟨_,rfl⟩) (Oc (gK mS rfl rfl rfl) (Oc (an dC rfl rfl) (Oc (aE aK rfl rfl rfl) (Oc (cA (k:=107) (es:=[x_2.id].map eI) cp rfl rfl (cN fun _=>rfl) rfl (by decide) (by decide) rfl) ?_))))
   refine af.forget 101 0 rfl ?_
   obtain ⟨x_5,e4,h2⟩:=aM h2
   refine Oc (fS cp (pz e4) (py e4) rfl rfl rfl rfl (lF e4) rfl) (Oc (mI mS rfl rfl rfl rfl (Nat.le_of_ble_eq_true rfl) rfl) ?_)
   refine af.nil (Fin.az ?_)
   obtain rfl:=Option.some.inj h2
   exact Fin.ag ⟨[],[(101,.b5 51 [.row 104]),(104,.row 3 1 (x_5.map eI))]⟩ rfl (fun a w hr=>⟨_,rfl,hr⟩)
  ·refine aX.skip (Fin.az ?_)
   obtain rfl:=Option.some.inj h2
   exact Fin.ag ⟨[],[(101,_),(104,_)]⟩ rfl (fun a w hr=>⟨_,rfl,hr⟩)
 ·rintro E D outf0_3 h5
  refine ab.seq (ab.aa ?_)
  refine Oc (gK mS rfl rfl rfl) (af.rO 104 rfl ?_)
  obtain ⟨x_6,e6,h5⟩:=aM h5
  refine Oc (c9 (own_a:=[(104,_)]) ((ml e6).sw 1 104) goes75 rfl ⟨rfl,trivial⟩ rfl rfl) (af.rL 104 rfl (af.ai ⟨[(5,Pt 101 0)],[(101,.b5 51 [.row 104]),(104,.row 3 1 (x_6.map eI))]⟩ rfl (ab.seq (ab.aa ?_))))
  refine Oc (gK mS rfl rfl rfl) (Oc oa ?_)
  refine af.ai ⟨[(4,.b (.row 104))],[(104,_)]⟩ rfl (ab.ret ?_)
  obtain rfl:=Option.some.inj h5
  refine Fin.ag ⟨[(4,.b (.row 104))],[(104,.row 3 1 (x_6.map eI))]⟩ rfl (Fin.rename 104 51 rfl (by decide) rfl (Fin.ag ⟨[(4,.b (.row 51))],[(51,.row 3 1 (x_6.map eI))]⟩ rfl ?_))
  exact Fin.result [.row 51] (.inl rfl) rfl (.cons (.tmp rfl) .nil) ⟨rfl,rfl⟩
 ·rintro E D ⟨⟩ h5
  cases h5
def dh (F:Nat) (s0:c7) (b0:bz):Option ((List Int) × Int) :=
 (bP F b0).bind fun x_1=>if (!x_1) = true then (some ([],1)) else ((cy F s0 b0).bind fun x_2=>some (x_2,0))
theorem gi (kr0:Nat) {F:Nat} {s0:c7} {b0:bz} {r:(List Int) × Int} (h:dh F s0 b0 = some r):aq Tryz.prog [] 31 [] [.agg (aJ s0),.agg (ak b0)] (Is [(kr0,.row 3 1 (r.1.map eI))] (.ek [.row kr0,.one (.i r.2)])):=by
 unfold dh at h
 refine aq.intro 12 Tryz.func31 Tryz.ntmps31 rfl (by simp) fun E=>?_
 show ab _ E ⟨12,[],[],[]⟩ _ ⟨[(0,.b (.agg (aJ s0))),(1,.b (.agg (ak b0)))],[]⟩ _
 refine ab.seq (ab.aa ?_)
 refine Oc (bp (k:=101) rfl rfl) (Oc (bp (k:=102) rfl rfl) (Oc oa (Oc oa ?_)))
 refine af.ai ⟨[(2,Pt 101 0),(3,Pt 102 0)],[(101,.box 49 (aJ s0)),(102,.box 25 (ak b0))]⟩ rfl (ab.seq (ab.seq (ab.aa ?_)))
 refine Oc (lp ao) ?_
 obtain ⟨x_1,e1,h⟩:=aM h
 refine Oc (aj (cx e1) kW rfl rfl) (Oc (dp rfl) ?_)
 refine af.ai ⟨[(2,_),(3,_),(8,B (!x_1))],[(101,_),(102,_)]⟩ rfl (ab.ite h rfl (fun _ h=>?_) (fun _ h=>?_))
 ·refine ab.seq (ab.aa ?_)
  refine Oc oa (Oc oa ?_)
  refine af.ai ⟨[(4,.b (.one (.nil))),(5,I 1)],[]⟩ rfl (ab.ret (Fin.av ?_))
  obtain rfl:=Option.some.inj h
  refine Fin.ag ⟨[(4,_),(5,_)],[]⟩ rfl (Fin.fq 4 103 1 3 rfl (by decide) rfl (Fin.lA 103 kr0 [.row 103,.one (.i 1)] (.inl rfl) rfl (.cons (.tmp rfl) (.cons (.tmp rfl) .nil)) rfl rfl rfl rfl ⟨rfl,rfl⟩))
 ·refine ab.skip (Fin.ag ⟨[(2,_),(3,_)],[(101,_),(102,_)]⟩ rfl (Fin.then (ab.seq (ab.aa ?_))))
  refine Oc (lp aU) (Oc (lp ao) ?_)
  obtain ⟨x_2,e2,h⟩:=aM h
  refine Oc (c9 (own_a:=[]) ((dc e2).sw 51 104) oO rfl trivial rfl rfl) (Oc oa (Oc oa ?_))
  refine af.ai ⟨[(4,.b (.row 104)),(5,I 0)],[(104,.row 3 1 (x_2.map eI))]⟩ rfl (ab.ret ?_)
  obtain rfl:=Option.some.inj h
  refine Fin.ag ⟨[(4,_),(5,_)],[(104,_)]⟩ rfl (Fin.lA 104 kr0 [.row 104,.one (.i 0)] (.inl rfl) rfl (.cons (.tmp rfl) (.cons (.tmp rfl) .nil)) rfl rfl rfl rfl ⟨rfl,rfl⟩)
def bY (F:Nat):Nat → ir → (cG bc) → entry → Option (cG bc)
 | 0,_,_,_=>none
 | n + 1,t0,n0,x0=>Option.bind (iK n0) (fun nd_1=>(ff F t0.compare x0 nd_1.1.x).bind fun x_2=>if (decide (x_2 < 0)) = true then (Option.bind (iK n0) (fun nd_3=>(bY F n t0 nd_3.2.1 x0).bind fun x_4=>Option.bind (iK n0) (fun nd_5=>(a8 F t0 n0 x_4 nd_5.2.2).bind fun x_6=>some x_6))) else (if (decide (0 < x_2)) = true then (Option.bind (iK n0) (fun nd_7=>Option.bind (iK n0) (fun nd_8=>(bY F n t0 nd_8.2.2 x0).bind fun x_9=>(a8 F t0 n0 nd_7.2.1 x_9).bind fun x_10=>some x_10))) else (Option.bind (iK n0) (fun nd_11=>Option.bind (iK n0) (fun nd_12=>(ck F t0 nd_11.2.1 nd_12.2.2).bind fun x_13=>some x_13)))))
def fm (F:Nat) (t0:ir) (n0:cG bc) (x0:entry):Option (cG bc):=bY F F t0 n0 x0
theorem jm {F:Nat}:∀ (n:Nat) {t0:ir} {n0:cG bc} {x0:entry} {r:(cG bc)} (h:bY F n t0 n0 x0 = some r),aq Tryz.prog [] 83 [] [.agg (bJ t0),.one (.tr ae n0),.agg (ar x0)] (Is [] (.b (.one (.tr ae r)))):=by
 intro n
 induction n with
 | zero=>intro t0 n0 x0 r h; simp [bY] at h
 | succ n ih=>
 intro t0 n0 x0 r h
 unfold bY at h
 refine aq.intro 60 Tryz.func83 Tryz.ntmps83 rfl (by simp) fun E=>?_
 show ab _ E ⟨60,[],[],[]⟩ _ ⟨[(0,.b (.agg (bJ t0))),(1,.b (.one (.tr ae n0))),(2,.b (.agg (ar x0)))],[]⟩ _
 refine ab.seq (ab.aa ?_)
 refine Oc (bp (k:=101) rfl rfl) (Oc (bp (k:=102) rfl rfl) (Oc oa ?_))
 refine af.ai ⟨[(1,.b (.one (.tr ae n0))),(3,Pt 101 0),(5,Pt 102 0)],[(101,.box 47 (bJ t0)),(102,.box 87 (ar x0))]⟩ rfl (ab.seq (ab.seq ?_))
 refine ab.ag ⟨[(1,_),(3,_),(5,_)],[(101,_),(102,_)]⟩ rfl ?_
 obtain ⟨nd_1,e1,h⟩:=aM h
 obtain ⟨x_2,e2,h⟩:=aM h
 refine ab.bH mixed 9 [Pt 101 1,.b (.one (.cV t0.compare)),.b (.agg (ar x0)),.b (.one (.tr ae n0)),.b (.aN (ar nd_1.1.x ++ (.int .u64 nd_1.1.priority :: (ak nd_1.1.cover ++ ([.tr ae nd_1.2.1,.tr ae nd_1.2.2]))))),.b (.aN (ar nd_1.1.x ++ (.int .u64 nd_1.1.priority :: (ak nd_1.1.cover ++ ([.tr ae nd_1.2.1,.tr ae nd_1.2.2]))))),.b (.agg (ar nd_1.1.x)),I x_2,I x_2] [1,3,5,7] [101,102] (s':=⟨[(1,_),(3,_),(5,_),(7,I x_2)],[(101,_),(102,_)]⟩) rfl ⟨fun _=>.p (an oe rfl rfl),fun _=>.p (aE rm rfl rfl rfl),fun _=>.p (lp br),fun _=>.p om,fun _=>.p (aG e1 rfl rfl),fun _=>by exact .p (aF dP rfl rfl),fun _=>.p (cw br rfl rfl rfl),fun _=>.p (kg (nL e2) (nM e2) (pX e2) rfl rfl rfl),fun _=>.p oa,trivial⟩ rfl rfl (ab.block (ab.seq (ab.aa ?_)))
 refine Oc om (Oc (bf rfl rfl) (Oc oa ?_))
 refine af.ai ⟨[(1,_),(3,_),(5,_),(7,_),(16,B (decide (x_2 < 0)))],[(101,_),(102,_)]⟩ rfl (ab.ite h rfl (fun _ h=>?_) (fun _ h=>?_))
 ·refine ab.seq (ab.ag ⟨[(1,_),(3,_),(5,_)],[(101,_),(102,_)]⟩ rfl ?_)
  obtain ⟨nd_3,e3,h⟩:=aM h
  obtain ⟨x_4,e4,h⟩:=aM h
  obtain ⟨nd_5,e5,h⟩:=aM h
  obtain ⟨x_6,e6,h⟩:=aM h
  refine ab.bH mixed 15 [.b (.agg (bJ t0)),.b (.one (.tr ae n0)),.b (.agg (bJ t0)),.b (.one (.tr ae n0)),.b (.aN (ar nd_3.1.x ++ (.int .u64 nd_3.1.priority :: (ak nd_3.1.cover ++ ([.tr ae nd_3.2.1,.tr ae nd_3.2.2]))))),.b (.aN [.tr ae nd_3.2.1,.tr ae nd_3.2.2]),.b (.one (.tr ae nd_3.2.1)),.b (.agg (ar x0)),.b (.one (.tr ae x_4)),.b (.one (.tr ae n0)),.b (.aN (ar nd_5.1.x ++ (.int .u64 nd_5.1.priority :: (ak nd_5.1.cover ++ ([.tr ae nd_5.2.1,.tr ae nd_5.2.2]))))),.b (.aN [.tr ae nd_5.2.2]),.b (.one (.tr ae nd_5.2.2)),.b (.one (.tr ae x_6)),.b (.one (.tr ae x_6))] [6] [] (s':=⟨[(6,.b (.one (.tr ae x_6)))],[]⟩) rfl ⟨fun _=>.p (lp bB),fun _=>.p om,fun _=>.p (lp bB),fun _=>.p om,fun _=>.p (aG e3 rfl rfl),fun _=>by exact .p (aF dt rfl rfl),fun _=>.p (ax bq rfl rfl),fun _=>.p (lp br),fun _=>.p (aj (ih e4) qz rfl rfl),fun _=>.p om,fun _=>.p (aG e5 rfl rfl),fun _=>by exact .p (aF dr rfl rfl),fun _=>.p (ax bq rfl rfl),fun _=>.p (aj (bO e6) kU rfl rfl),fun _=>.p oa,trivial⟩ rfl rfl (ab.ret (Fin.aS (Fin.av ?_)))
  obtain rfl:=Option.some.inj h
  refine Fin.ag ⟨[(6,_)],[]⟩ rfl (Fin.au [.one (.tr ae x_6)] (.inl rfl) rfl (.cons (.tmp rfl) .nil) ⟨rfl,rfl⟩)
 ·refine ab.seq (ab.aa ?_)
  refine Oc om (Oc (hY rfl rfl) (Oc oa ?_))
  refine af.ai ⟨[(1,_),(3,_),(5,_),(33,B (decide (0 < x_2)))],[(101,_),(102,_)]⟩ rfl (ab.ite h rfl (fun _ h=>?_) (fun _ h=>?_))
  ·refine ab.seq (ab.ag ⟨[(1,_),(3,_),(5,_)],[(101,_),(102,_)]⟩ rfl ?_)
   obtain ⟨nd_7,e7,h⟩:=aM h
   obtain ⟨nd_8,e8,h⟩:=aM h
   obtain ⟨x_9,e9,h⟩:=aM h
   obtain ⟨x_10,e10,h⟩:=aM h
   refine ab.bH mixed 15 [.b (.agg (bJ t0)),.b (.one (.tr ae n0)),.b (.one (.tr ae n0)),.b (.aN (ar nd_7.1.x ++ (.int .u64 nd_7.1.priority :: (ak nd_7.1.cover ++ ([.tr ae nd_7.2.1,.tr ae nd_7.2.2]))))),.b (.aN [.tr ae nd_7.2.1,.tr ae nd_7.2.2]),.b (.one (.tr ae nd_7.2.1)),.b (.agg (bJ t0)),.b (.one (.tr ae n0)),.b (.aN (ar nd_8.1.x ++ (.int .u64 nd_8.1.priority :: (ak nd_8.1.cover ++ ([.tr ae nd_8.2.1,.tr ae nd_8.2.2]))))),.b (.aN [.tr ae nd_8.2.2]),.b (.one (.tr ae nd_8.2.2)),.b (.agg (ar x0)),.b (.one (.tr ae x_9)),.b (.one (.tr ae x_10)),.b (.one (.tr ae x_10))] [6] [] (s':=⟨[(6,.b (.one (.tr ae x_10)))],[]⟩) rfl ⟨fun _=>.p (lp bB),fun _=>.p om,fun _=>.p om,fun _=>.p (aG e7 rfl rfl),fun _=>by exact .p (aF dt rfl rfl),fun _=>.p (ax bq rfl rfl),fun _=>.p (lp bB),fun _=>.p om,fun _=>.p (aG e8 rfl rfl),fun _=>by exact .p (aF dr rfl rfl),fun _=>.p (ax bq rfl rfl),fun _=>.p (lp br),fun _=>.p (aj (ih e9) qz rfl rfl),fun _=>.p (aj (bO e10) kU rfl rfl),fun _=>.p oa,trivial⟩ rfl rfl (ab.ret (Fin.aS (Fin.av ?_)))
   obtain rfl:=Option.some.inj h
   refine Fin.ag ⟨[(6,_)],[]⟩ rfl (Fin.au [.one (.tr ae x_10)] (.inl rfl) rfl (.cons (.tmp rfl) .nil) ⟨rfl,rfl⟩)
  ·refine ab.skip (Fin.az (Fin.ag ⟨[(1,_),(3,_)],[(101,_)]⟩ rfl (Fin.then (ab.seq ?_))))
   refine ab.ag ⟨[(1,_),(3,_)],[(101,_)]⟩ rfl ?_
   obtain ⟨nd_11,e11,h⟩:=aM h
   obtain ⟨nd_12,e12,h⟩:=aM h
   obtain ⟨x_13,e13,h⟩:=aM h
   refine ab.bH mixed 11 [.b (.agg (bJ t0)),.b (.one (.tr ae n0)),.b (.aN (ar nd_11.1.x ++ (.int .u64 nd_11.1.priority :: (ak nd_11.1.cover ++ ([.tr ae nd_11.2.1,.tr ae nd_11.2.2]))))),.b (.aN [.tr ae nd_11.2.1,.tr ae nd_11.2.2]),.b (.one (.tr ae nd_11.2.1)),.b (.one (.tr ae n0)),.b (.aN (ar nd_12.1.x ++ (.int .u64 nd_12.1.priority :: (ak nd_12.1.cover ++ ([.tr ae nd_12.2.1,.tr ae nd_12.2.2]))))),.b (.aN [.tr ae nd_12.2.2]),.b (.one (.tr ae nd_12.2.2)),.b (.one (.tr ae x_13)),.b (.one (.tr ae x_13))] [6] [] (s':=⟨[(6,.b (.one (.tr ae x_13)))],[]⟩) rfl ⟨fun _=>.p (lp bB),fun _=>.p om,fun _=>.p (aG e11 rfl rfl),fun _=>by exact .p (aF dt rfl rfl),fun _=>.p (ax bq rfl rfl),fun _=>.p om,fun _=>.p (aG e12 rfl rfl),fun _=>by exact .p (aF dr rfl rfl),fun _=>.p (ax bq rfl rfl),fun _=>.p (aj (dU e13) nh rfl rfl),fun _=>.p oa,trivial⟩ rfl rfl (ab.ret ?_)
   obtain rfl:=Option.some.inj h
   refine Fin.ag ⟨[(6,_)],[]⟩ rfl (Fin.au [.one (.tr ae x_13)] (.inl rfl) rfl (.cons (.tmp rfl) .nil) ⟨rfl,rfl⟩)
theorem jV {F:Nat} {t0:ir} {n0:cG bc} {x0:entry} {r:(cG bc)} (h:fm F t0 n0 x0 = some r):aq Tryz.prog [] 83 [] [.agg (bJ t0),.one (.tr ae n0),.agg (ar x0)] (Is [] (.b (.one (.tr ae r)))):=jm F h
def bn (F:Nat) (t0:ir) (x0:entry):Option ir :=
 (fm F t0 t0.root x0).bind fun x_1=>er (⟨x_1,t0.compare,t0.key,t0.box⟩:ir) fun x_2=>some x_2
theorem eV {F:Nat} {t0:ir} {x0:entry} {r:ir} (h:bn F t0 x0 = some r):aq Tryz.prog [] 60 [] [.agg (bJ t0),.agg (ar x0)] (Is [] (.b (.agg (bJ r)))):=by
 unfold bn at h
 refine aq.intro 12 Tryz.func60 Tryz.ntmps60 rfl (by simp) fun E=>?_
 show ab _ E ⟨12,[],[],[]⟩ _ ⟨[(0,.b (.agg (bJ t0))),(1,.b (.agg (ar x0)))],[]⟩ _
 refine ab.seq (ab.aa ?_)
 refine Oc (bp (k:=101) rfl rfl) (Oc (bp (k:=102) rfl rfl) (Oc (aW (k:=103) pA rfl) ?_))
 refine af.ai ⟨[(2,Pt 101 0),(3,Pt 102 0),(4,Pt 103 0)],[(101,.box 47 (bJ t0)),(102,.box 87 (ar x0)),(103,.box 47 [.tr ae (.leaf),.cV 0,.cV 0,.cV 0])]⟩ rfl (ab.seq (ab.aa ?_))
 refine Oc (lp bB) (Oc (an fu rfl rfl) (Oc (aE bq rfl rfl rfl) (Oc (lp br) ?_)))
 obtain ⟨x_1,e1,h⟩:=aM h
 refine Oc (aj (jV e1) qz rfl rfl) (Oc (an fu rfl rfl) (Oc (cC bq rfl rfl rfl (Nat.le_of_ble_eq_true rfl) rfl) ?_))
 refine af.ai ⟨[(2,_),(4,_)],[(101,.box 47 [.tr ae x_1,.cV t0.compare,.cV t0.key,.cV t0.box]),(103,_)]⟩ rfl (ab.seq (ab.aa ?_))
 refine af.ly bJ h rfl (lp bB) (fun x_2 h=>?_)
 refine Oc (aD bB rfl rfl rfl rfl (Nat.le_of_ble_eq_true rfl) rfl) (af.ai ⟨[(4,_)],[(103,.box 47 (bJ x_2))]⟩ rfl (ab.ret ?_))
 obtain rfl:=Option.some.inj h
 refine Fin.ag ⟨[(4,_)],[(103,_)]⟩ rfl (Fin.au [.agg (bJ x_2)] (.inl rfl) rfl (.cons (.agg bB rfl rfl rfl rfl) .nil) ⟨rfl,rfl⟩)
def cc (F:Nat) (s0:c7) (id0:Int):Option (c7 × Int) :=
 Option.bind (cn F s0 id0) (eW fun x_1 x_2=>if (!x_2) = true then (er (⟨(⟨.leaf,0,0,0⟩:ir),(⟨.leaf,0,0,0⟩:ir)⟩:c7) fun x_3=>some (x_3,5)) else ((bn F s0.ids x_1).bind fun x_4=>(bn F s0.boxes x_1).bind fun x_5=>some ((⟨x_4,x_5⟩:c7),0)))
theorem fp {F:Nat} {s0:c7} {id0:Int} {r:c7 × Int} (h:cc F s0 id0 = some r):aq Tryz.prog [] 30 [] [.agg (aJ s0),.one (.i id0)] (Is [] (.ek [.agg (aJ r.1),.one (.i r.2)])):=by
 unfold cc at h
 refine aq.intro 26 Tryz.func30 Tryz.ntmps30 rfl (by simp) fun E=>?_
 show ab _ E ⟨26,[],[],[]⟩ _ ⟨[(0,.b (.agg (aJ s0))),(1,I id0)],[]⟩ _
 refine ab.seq (ab.aa ?_)
 refine Oc (bp (k:=101) rfl rfl) (Oc (aW (k:=102) fh rfl) (Oc oa ?_))
 refine af.ai ⟨[(1,I id0),(2,Pt 101 0),(4,Pt 102 0)],[(101,.box 49 (aJ s0)),(102,.box 49 [.tr ae (.leaf),.cV 0,.cV 0,.cV 0,.tr ae (.leaf),.cV 0,.cV 0,.cV 0])]⟩ rfl (ab.seq (ab.aa ?_))
 refine Oc (lp aU) (Oc om ?_)
 obtain ⟨⟨x_1,x_2⟩,e1,h⟩:=aM h
 refine Oc (aj (eG e1) qB rfl rfl) (Oc om (Oc (ay rfl rfl) ?_))
 refine af.ag ⟨[(2,_),(4,_),(8,.ek [.agg (ar x_1),.one (.bool x_2)]),(12,.b (.agg (ar x_1)))],[(101,_),(102,_)]⟩ rfl (Oc (ay rfl rfl) (Oc (aW (k:=103) gF rfl) (Oc (aD br rfl rfl rfl rfl (Nat.le_of_ble_eq_true rfl) rfl) (Oc oa ?_))))
 refine af.ai ⟨[(2,_),(4,_),(6,Pt 103 0),(7,B x_2)],[(101,_),(102,_),(103,.box 87 (ar x_1))]⟩ rfl (ab.seq (ab.seq (ab.aa ?_)))
 refine Oc om (Oc (dp rfl) ?_)
 refine af.ai ⟨[(2,_),(4,_),(6,_),(15,B (!x_2))],[(101,_),(102,_),(103,_)]⟩ rfl (ab.ite h rfl (fun _ h=>?_) (fun _ h=>?_))
 ·refine ab.seq (ab.aa ?_)
  refine af.ly aJ h rfl (cg eH rfl rfl) (fun x_3 h=>?_)
  refine Oc (aD aU rfl rfl rfl rfl (Nat.le_of_ble_eq_true rfl) rfl) (Oc oa ?_)
  refine af.ai ⟨[(4,_),(5,I 5)],[(102,.box 49 (aJ x_3))]⟩ rfl (ab.ret (Fin.av ?_))
  obtain rfl:=Option.some.inj h
  refine Fin.ag ⟨[(4,_),(5,_)],[(102,_)]⟩ rfl (Fin.au [.agg (aJ x_3),.one (.i 5)] (.inl rfl) rfl (.cons (.agg aU rfl rfl rfl rfl) (.cons (.tmp rfl) .nil)) ⟨rfl,rfl⟩)
 ·refine ab.skip (Fin.ag ⟨[(2,_),(4,_),(6,_)],[(101,_),(102,_),(103,_)]⟩ rfl (Fin.then (ab.seq ?_)))
  refine ab.ag ⟨[(2,_),(4,_),(6,_)],[(101,_),(102,_),(103,_)]⟩ rfl ?_
  obtain ⟨x_4,e2,h⟩:=aM h
  obtain ⟨x_5,e3,h⟩:=aM h
  refine ab.bH mixed 9 [Pt 101 0,.b (.agg (bJ s0.ids)),.b (.agg (ar x_1)),.b (.agg (bJ x_4)),Pt 101 4,.b (.agg (bJ s0.boxes)),.b (.agg (ar x_1)),.b (.agg (bJ x_5)),.b (.agg (bJ x_4 ++ (bJ x_5)))] [4,5] [102] (s':=⟨[(4,_),(5,I 0)],[(102,.box 49 (bJ x_4 ++ (bJ x_5)))]⟩) rfl ⟨fun _=>.p (an ka rfl rfl),fun _=>.p (lp bB),fun _=>.p (lp br),fun _=>.p (aj (eV e2) sR rfl rfl),fun _=>.p (an lY rfl rfl),fun _=>.p (lp bB),fun _=>.p (lp br),fun _=>.p (aj (eV e3) sR rfl rfl),fun _=>.p (cg eH rfl rfl),trivial⟩ ⟨_,by exact .p (aD aU rfl rfl rfl rfl (Nat.le_of_ble_eq_true rfl) rfl),⟨_,by exact .p oa,rfl⟩⟩ rfl (ab.ret ?_)
  obtain rfl:=Option.some.inj h
  refine Fin.ag ⟨[(4,_),(5,_)],[(102,_)]⟩ rfl (Fin.au [.agg (bJ x_4 ++ (bJ x_5)),.one (.i 0)] (.inl rfl) rfl (.cons (.agg aU rfl rfl rfl rfl) (.cons (.tmp rfl) .nil)) ⟨rfl,rfl⟩)
def k8 (F:Nat) (x0:Int) (y0:Int):Option Bool :=
 (dR F x0).bind fun x_1=>(bF x_1 (dR F y0)).bind fun x_2=>some ((x_1 && (!x_2)) || (decide (x0 < y0)))
theorem n1 {F:Nat} {x0:Int} {y0:Int} {r:Bool} (h:k8 F x0 y0 = some r):aq Tryz.prog [] 98 [] [.one (.i x0),.one (.i y0)] (Is [] (.b (.one (.bool r)))):=by
 unfold k8 at h
 refine aq.intro 17 Tryz.func98 Tryz.ntmps98 rfl (by simp) fun E=>?_
 show ab _ E ⟨17,[],[],[]⟩ _ ⟨[(0,I x0),(1,I y0)],[]⟩ _
 refine ab.seq (ab.aa ?_)
 refine Oc oa (af.ai ⟨[(0,I x0),(1,I y0)],[]⟩ rfl (ab.seq (ab.aa ?_)))
 refine Oc om ?_
 obtain ⟨x_1,e1,h⟩:=aM h
 refine Oc (aj (fk e1) oN rfl rfl) (Oc om ?_)
 refine fo x_1 [] (fun g2=>trivial) (fun g2=>om) (af.ag ⟨[(0,_),(1,_),(7,B x_1),(8,.opt x_1 (.one (.i y0)))],[]⟩ rfl ?_)
 obtain ⟨x_2,e4,h⟩:=aM h
 refine fo x_1 [8] (fun g3=>⟨g3,trivial⟩) (fun g3=>aj (fk (gc e4 g3)) oN rfl rfl) (fo x_1 [9] (fun g5=>⟨g5,trivial⟩) (fun g5=>dp rfl) (Oc (aH (fun e=>e) rfl rfl rfl rfl) (Oc om ?_)))
 refine n3 (!(x_1 && (!x_2))) [] (fun g6=>trivial) (fun g6=>om) (n3 (!(x_1 && (!x_2))) [] (fun g7=>by exact trivial) (fun g7=>om) (n3 (!(x_1 && (!x_2))) [13,14] (fun g8=>by exact ⟨g8,g8,trivial⟩) (fun g8=>bf rfl rfl) (Oc (bM (fun e=>by first | (rw [e]; rfl) | (simp only at e; rw [e]; rfl)) rfl rfl rfl rfl) (Oc oa ?_))))
 refine af.ai ⟨[(4,B ((x_1 && (!x_2)) || (decide (x0 < y0))))],[]⟩ rfl (ab.ret ?_)
 obtain rfl:=Option.some.inj h
 refine Fin.ag ⟨[(4,_)],[]⟩ rfl (Fin.au [.one (.bool ((x_1 && (!x_2)) || (decide (x0 < y0))))] (.inl rfl) rfl (.cons (.tmp rfl) .nil) ⟨rfl,rfl⟩)
def fj (F:Nat) (x0:Int):Option Bool :=
 some (decide (x0 ≠ x0))
theorem hC {F:Nat} {x0:Int} {r:Bool} (h:fj F x0 = some r):aq Tryz.prog [] 99 [] [.one (.i x0)] (Is [] (.b (.one (.bool r)))):=by
 unfold fj at h
 refine aq.intro 6 Tryz.func99 Tryz.ntmps99 rfl (by simp) fun E=>?_
 show ab _ E ⟨6,[],[],[]⟩ _ ⟨[(0,I x0)],[]⟩ _
 refine ab.seq (ab.aa ?_)
 refine Oc oa (af.ai ⟨[(0,I x0)],[]⟩ rfl (ab.seq (ab.aa ?_)))
 refine Oc om (Oc om (Oc (jz rfl rfl) (Oc oa ?_)))
 refine af.ai ⟨[(2,B (decide (x0 ≠ x0)))],[]⟩ rfl (ab.ret ?_)
 obtain rfl:=Option.some.inj h
 refine Fin.ag ⟨[(2,_)],[]⟩ rfl (Fin.au [.one (.bool (decide (x0 ≠ x0)))] (.inl rfl) rfl (.cons (.tmp rfl) .nil) ⟨rfl,rfl⟩)
def dJ (F:Nat) (x0:List Int) (target0:Int):Option (Int × Bool) :=
 Option.bind (iter F (eW fun i_2 j_3=>if (decide (i_2 < j_3)) = true then (er (IntKind.u64.wrap (IntKind.i64.wrap (i_2 + j_3))) fun x_5=>(bb x0 (IntKind.i64.wrap (x_5 / 2))).bind fun x_6=>(k8 F x_6 target0).bind fun x_7=>if x_7 = true then (er (IntKind.i64.wrap ((IntKind.i64.wrap (x_5 / 2)) + 1)) fun x_8=>some (.inl (x_8,j_3))) else (some (.inl (i_2,IntKind.i64.wrap (x_5 / 2))))) else (some (.inr i_2))) (0,(x0.length:Int))) (fun i_1=>(bF (decide (i_1 < (x0.length:Int))) (bb x0 i_1)).bind fun x_9=>(bF ((decide (i_1 < (x0.length:Int))) && !(decide (x_9 = target0))) (bb x0 i_1)).bind fun x_10=>(bF ((decide (i_1 < (x0.length:Int))) && !(decide (x_9 = target0))) (fj F x_10)).bind fun x_11=>(bF (((decide (i_1 < (x0.length:Int))) && !(decide (x_9 = target0))) && x_11) (fj F target0)).bind fun x_12=>er ((decide (i_1 < (x0.length:Int))) && ((decide (x_9 = target0)) || (x_11 && x_12))) fun x_13=>some (i_1,x_13))
theorem iq {F:Nat} {x0:List Int} {target0:Int} {r:Int × Bool} (h:dJ F x0 target0 = some r):aq Tryz.prog [] 76 [] [.one (.sl 1 (x0.map eI)),.one (.i target0)] (Is [] (.ek [.one (.i r.1),.one (.bool r.2)])):=by
 unfold dJ at h
 refine aq.intro 54 Tryz.func76 Tryz.ntmps76 rfl (by simp) fun E=>?_
 show ab _ E ⟨54,[],[],[]⟩ _ ⟨[(0,.b (.one (.sl 1 (x0.map eI)))),(1,I target0)],[]⟩ _
 refine ab.seq (ab.aa ?_)
 refine Oc oa (Oc oa ?_)
 refine af.ai ⟨[(0,.b (.one (.sl 1 (x0.map eI)))),(1,I target0)],[]⟩ rfl (ab.seq (ab.aa ?_))
 refine Oc om (Oc (bR eZ rfl (List.length_map _)) (Oc oa ?_))
 refine af.ai ⟨[(0,_),(1,_),(6,I (x0.length:Int))],[]⟩ rfl (ab.seq (ab.aa ?_))
 refine Oc om (Oc oa (Oc oa ?_))
 refine af.ai ⟨[(0,_),(1,_),(6,_),(7,I 0),(8,I (x0.length:Int))],[]⟩ rfl ?_
 obtain ⟨v1,h2,h⟩:=aM h
 refine ab.dX (v:=v1) (fun (i_1:Int)=>⟨[(0,.b (.one (.sl 1 (x0.map eI)))),(1,I target0),(6,I (x0.length:Int)),(7,I i_1)],[]⟩) (fun z=>z) ?_ ?_
 ·refine ab.block (ab.c6 h2 (eW fun (i_2:Int) (j_3:Int)=>⟨[(0,.b (.one (.sl 1 (x0.map eI)))),(1,I target0),(6,I (x0.length:Int)),(7,I i_2),(8,I j_3)],[]⟩) [0,1,6,7,8] [] rfl ?_)
  rintro ⟨i_2,j_3⟩ o3 h4 hy5
  refine ab.seq (ab.seq (ab.aa ?_))
  refine Oc om (Oc om (Oc (bf rfl rfl) ?_))
  refine af.ai ⟨[(0,_),(1,_),(6,_),(7,_),(8,_),(15,B (decide (i_2 < j_3)))],[]⟩ rfl (ab.ite h4 rfl (fun _ h4=>?_) (fun _ h4=>?_))
  ·refine ab.skip (Fin.ag ⟨[(0,_),(1,_),(6,_),(7,_),(8,_)],[]⟩ rfl (Fin.then (ab.block (ab.seq (ab.aa ?_)))))
   refine Oc om (Oc om (Oc (bK rfl rfl) ?_))
   refine af.pv .u64 h4 rfl (ec pr oR rfl) (fun x_5 h4=>?_)
   refine Oc (iP (m:=1) (by decide) rfl rfl rfl) (Oc (ec oR pr rfl) (Oc oa ?_))
   refine af.ai ⟨[(0,_),(1,_),(6,_),(7,_),(8,_),(9,I (IntKind.i64.wrap (x_5 / 2)))],[]⟩ rfl (ab.seq (ab.aa ?_))
   refine Oc om (Oc om ?_)
   obtain ⟨x_6,e6,h4⟩:=aM h4
   refine Oc (bA cp (a6 e6) (cM (e:=eI) e6) rfl rfl) (Oc (ax aK rfl rfl) (Oc om ?_))
   obtain ⟨x_7,e7,h4⟩:=aM h4
   refine Oc (aj (n1 e7) goes98 rfl rfl) (af.ai ⟨[(0,_),(1,_),(6,_),(7,_),(8,_),(9,_),(27,B x_7)],[]⟩ rfl (ab.ite h4 rfl (fun _ h4=>?_) (fun _ h4=>?_)))
   ·refine ab.aa (Oc om (af.pv .i64 h4 rfl (bK rfl rfl) (fun x_8 h4=>?_)))
    refine Oc oa (af.nil (Fin.az ?_))
    exact Fin.cu [0,1,6,7,8] [] (x_8,j_3) (Option.some.inj h4) rfl
   ·refine ab.aa (Oc om (Oc oa ?_))
    refine af.nil (Fin.az ?_)
    exact Fin.cu [0,1,6,7,8] [] (i_2,IntKind.i64.wrap (x_5 / 2)) (Option.some.inj h4) rfl
  ·refine ab.exit (Fin.aC ?_)
   obtain rfl:=hy5 _ (Option.some.inj h4).symm
   refine Fin.aC (Fin.aY ?_)
   exact Fin.join [0,1,6,7] [] i_2 rfl rfl
 ·rintro i_1 hv
  subst v1
  refine ab.seq (ab.aa ?_)
  refine Oc om (Oc om (Oc om (Oc (bf rfl rfl) (Oc om ?_))))
  refine fo (decide (i_1 < (x0.length:Int))) [] (fun g8=>trivial) (fun g8=>om) (fo (decide (i_1 < (x0.length:Int))) [] (fun g9=>by exact trivial) (fun g9=>om) (af.ag ⟨[(0,_),(1,_),(7,_),(31,I i_1),(35,B (decide (i_1 < (x0.length:Int)))),(36,.opt (decide (i_1 < (x0.length:Int))) (.one (.sl 1 (x0.map eI)))),(37,.opt (decide (i_1 < (x0.length:Int))) (.one (.i i_1)))],[]⟩ rfl ?_))
  obtain ⟨x_9,e11,h⟩:=aM h
  refine fo (decide (i_1 < (x0.length:Int))) [36,37] (fun g10=>⟨g10,g10,trivial⟩) (fun g10=>bA cp (a6 (gc e11 g10)) (cM (e:=eI) (gc e11 g10)) rfl rfl) (fo (decide (i_1 < (x0.length:Int))) [38] (fun g12=>⟨g12,trivial⟩) (fun g12=>ax aK rfl rfl) (fo (decide (i_1 < (x0.length:Int))) [] (fun g13=>trivial) (fun g13=>om) (fo (decide (i_1 < (x0.length:Int))) [39,40] (fun g14=>by exact ⟨g14,g14,trivial⟩) (fun g14=>dG rfl rfl) (fo (decide (i_1 < (x0.length:Int))) [41] (fun g15=>by exact ⟨g15,trivial⟩) (fun g15=>om) (af.jx ((decide (i_1 < (x0.length:Int))) && !(decide (x_9 = target0))) 99 [] (.under rfl) (nc _ _) rfl rfl (fun g16=>by exact trivial) (fun g16=>om) ?_)))))
  refine af.jx ((decide (i_1 < (x0.length:Int))) && !(decide (x_9 = target0))) 99 [] (.under rfl) (nc _ _) rfl rfl (fun g17=>trivial) (fun g17=>om) ?_
  obtain ⟨x_10,e19,h⟩:=aM h
  refine af.jx ((decide (i_1 < (x0.length:Int))) && !(decide (x_9 = target0))) 99 [43,44] (.under rfl) (nc _ _) rfl rfl (fun g18=>⟨g18,g18,trivial⟩) (fun g18=>bA cp (a6 (gc e19 g18)) (cM (e:=eI) (gc e19 g18)) rfl rfl) (af.ag ⟨[(1,_),(31,_),(35,_),(42,.opt (decide (i_1 < (x0.length:Int))) (.one (.bool (decide (x_9 = target0))))),(45,.opt ((decide (i_1 < (x0.length:Int))) && !(decide (x_9 = target0))) (.aN [.i x_10]))],[]⟩ rfl (af.jx ((decide (i_1 < (x0.length:Int))) && !(decide (x_9 = target0))) 99 [45] (.under rfl) (nc _ _) rfl rfl (fun g20=>⟨g20,trivial⟩) (fun g20=>ax aK rfl rfl) ?_))
  obtain ⟨x_11,e22,h⟩:=aM h
  refine af.jx ((decide (i_1 < (x0.length:Int))) && !(decide (x_9 = target0))) 99 [46] (.under rfl) (nc _ _) rfl rfl (fun g21=>⟨g21,trivial⟩) (fun g21=>aj (hC (gc e22 g21)) sP rfl rfl) (af.jx ((decide (i_1 < (x0.length:Int))) && !(decide (x_9 = target0))) 99 [47] (.under rfl) (nc _ _) rfl rfl (fun g23=>⟨g23,trivial⟩) (fun g23=>om) (af.jx (((decide (i_1 < (x0.length:Int))) && !(decide (x_9 = target0))) && x_11) 99 [] (.under rfl) (and_t _ _) rfl rfl (fun g24=>trivial) (fun g24=>om) (af.ag ⟨[(31,_),(35,_),(42,_),(48,.opt ((decide (i_1 < (x0.length:Int))) && !(decide (x_9 = target0))) (.one (.bool x_11))),(49,.opt (((decide (i_1 < (x0.length:Int))) && !(decide (x_9 = target0))) && x_11) (.one (.i target0)))],[]⟩ rfl ?_)))
  obtain ⟨x_12,e26,h⟩:=aM h
  refine af.jx (((decide (i_1 < (x0.length:Int))) && !(decide (x_9 = target0))) && x_11) 99 [49] (.under rfl) (and_t _ _) rfl rfl (fun g25=>⟨g25,trivial⟩) (fun g25=>aj (hC (gc e26 g25)) sP rfl rfl) (af.jx ((decide (i_1 < (x0.length:Int))) && !(decide (x_9 = target0))) 99 [48] (.under rfl) (nc _ _) rfl rfl (fun g27=>⟨g27,trivial⟩) (fun g27=>aH (fun e=>by rw [g27,e]; rfl) rfl rfl rfl rfl) (fo (decide (i_1 < (x0.length:Int))) [42] (fun g28=>⟨g28,trivial⟩) (fun g28=>bM (fun e=>by rw [g28,e]; rfl) rfl rfl rfl rfl) (af.mz h rfl (aH (fun e=>e) rfl rfl rfl rfl) (fun x_13 h=>?_))))
  refine Oc oa (Oc oa ?_)
  refine af.ai ⟨[(4,I i_1),(5,B x_13)],[]⟩ rfl (ab.ret ?_)
  obtain rfl:=Option.some.inj h
  refine Fin.ag ⟨[(4,_),(5,_)],[]⟩ rfl (Fin.au [.one (.i i_1),.one (.bool x_13)] (.inl rfl) rfl (.cons (.tmp rfl) (.cons (.tmp rfl) .nil)) ⟨rfl,rfl⟩)
def fI (F:Nat) (a0:List Int) (b0:List Int):Option (List Int) :=
 Option.bind (iter F (eW fun out_2 x_3=>if (decide (x_3 < (a0.length:Int))) = true then (Option.bind ((bb a0 x_3).bind fun x_6=>Option.bind (dJ F b0 x_6) (eW fun x_7 x_8=>if (!x_8) = true then ((mP out_2 [x_6]).bind fun x_9=>some x_9) else (some out_2))) (fun out_5=>some (.inl (out_5,IntKind.i64.wrap (x_3 + 1))))) else (some (.inr out_2))) ([],0)) (fun out_1=>some out_1)
theorem iD (kr0:Nat) {F:Nat} {a0:List Int} {b0:List Int} {r:(List Int)} (h:fI F a0 b0 = some r):aq Tryz.prog [] 56 [] [.one (.sl 1 (a0.map eI)),.one (.sl 1 (b0.map eI))] (Is [(kr0,.row 3 1 (r.map eI))] (.b (.row kr0))):=by
 unfold fI at h
 refine aq.intro 30 Tryz.func56 Tryz.ntmps56 rfl (by simp) fun E=>?_
 show ab _ E ⟨30,[],[],[]⟩ _ ⟨[(0,.b (.one (.sl 1 (a0.map eI)))),(1,.b (.one (.sl 1 (b0.map eI))))],[]⟩ _
 refine ab.seq (ab.aa ?_)
 refine Oc oa (af.ai ⟨[(0,.b (.one (.sl 1 (a0.map eI)))),(1,.b (.one (.sl 1 (b0.map eI))))],[]⟩ rfl (ab.seq (ab.aa ?_)))
 refine Oc oa (af.ai ⟨[(0,_),(1,_),(5,.b (.one (.nil)))],[]⟩ rfl ?_)
 obtain ⟨v1,h2,h⟩:=aM h
 refine ab.dX (v:=v1) (fun (out_1:List Int)=>⟨[(5,.b (.row 102))],[(102,.row 3 1 (out_1.map eI))]⟩) (fun z=>z) ?_ ?_
 ·refine ab.seq (ab.aa ?_)
  refine Oc om (Oc (bR eZ rfl (List.length_map _)) (Oc om ?_))
  refine af.ai ⟨[(1,_),(5,_),(10,.b (.one (.sl 1 (a0.map eI)))),(11,I (a0.length:Int)),(12,I 0)],[]⟩ rfl (ab.block (ab.fq 5 102 1 3 rfl (by decide) rfl (ab.c6 h2 (eW fun (out_2:List Int) (x_3:Int)=>⟨[(1,.b (.one (.sl 1 (b0.map eI)))),(5,.b (.row 102)),(10,.b (.one (.sl 1 (a0.map eI)))),(11,I (a0.length:Int)),(12,I x_3)],[(102,.row 3 1 (out_2.map eI))]⟩) [1,5,10,11,12] [102] rfl ?_)))
  rintro ⟨out_2,x_3⟩ o3 h4 hy5
  refine ab.seq (ab.aa ?_)
  refine Oc (bf rfl rfl) (af.ai ⟨[(1,_),(5,_),(10,_),(11,_),(12,_),(13,B (decide (x_3 < (a0.length:Int))))],[(102,_)]⟩ rfl (ab.seq (ab.ite h4 rfl (fun _ h4=>?_) (fun _ h4=>?_))))
  ·refine ab.skip (Fin.ag ⟨[(1,_),(5,_),(10,_),(11,_),(12,_)],[(102,_)]⟩ rfl (Fin.then ?_))
   obtain ⟨v6,h7,h4⟩:=aM h4
   refine ab.dX (v:=v6) (fun (out_5:List Int)=>⟨[(1,.b (.one (.sl 1 (b0.map eI)))),(5,.b (.row 102)),(10,.b (.one (.sl 1 (a0.map eI)))),(11,I (a0.length:Int)),(12,I x_3)],[(102,.row 3 1 (out_5.map eI))]⟩) (fun z=>z) ?_ ?_
   ·refine ab.block (ab.seq (ab.aa ?_))
    obtain ⟨x_6,e8,h7⟩:=aM h7
    refine Oc (bA cp (a6 e8) (cM (e:=eI) e8) rfl rfl) (Oc (ax aK rfl rfl) (Oc oa ?_))
    refine af.ai ⟨[(1,_),(5,_),(7,I x_6),(10,_),(11,_),(12,_)],[(102,_)]⟩ rfl (ab.seq (ab.aa ?_))
    refine Oc om (Oc om ?_)
    obtain ⟨⟨x_7,x_8⟩,e9,h7⟩:=aM h7
    refine Oc (aj (iq e9) goes76 rfl rfl) (Oc om (Oc (ay rfl rfl) ?_))
    refine af.ag ⟨[(1,_),(5,_),(7,_),(10,_),(11,_),(12,_),(16,.ek [.one (.i x_7),.one (.bool x_8)]),(20,I x_7)],[(102,_)]⟩ rfl (Oc (ay rfl rfl) (Oc oa (Oc oa ?_)))
    refine af.ai ⟨[(1,_),(5,_),(7,_),(9,B x_8),(10,_),(11,_),(12,_)],[(102,_)]⟩ rfl (ab.seq (ab.aa ?_))
    refine Oc om (Oc (dp rfl) ?_)
    refine af.ai ⟨[(1,_),(5,_),(7,_),(10,_),(11,_),(12,_),(23,B (!x_8))],[(102,_)]⟩ rfl (ab.ite h7 rfl (fun _ h7=>?_) (fun _ h7=>?_))
    ·refine ab.aa (Oc om (Oc om (Oc (cA (k:=103) (es:=[x_6].map eI) cp rfl rfl (cN fun _=>rfl) rfl (by decide) (by decide) rfl) ?_)))
     obtain ⟨x_9,e10,h7⟩:=aM h7
     refine Oc (fS cp (pz e10) (py e10) rfl rfl rfl rfl (lF e10) rfl) (Oc oa ?_)
     refine af.nil (Fin.az ?_)
     exact Fin.join [1,5,10,11,12] [102] x_9 (Option.some.inj h7) rfl
    ·refine ab.skip (Fin.az ?_)
     exact Fin.join [1,5,10,11,12] [102] out_2 (Option.some.inj h7) rfl
   ·rintro out_5 hv
    subst v6
    refine ab.aa (Oc (bK rfl rfl) (Oc om ?_))
    refine af.nil ?_
    exact Fin.cu [1,5,10,11,12] [102] (out_5,IntKind.i64.wrap (x_3 + 1)) (Option.some.inj h4) rfl
  ·refine ab.exit (Fin.aC ?_)
   obtain rfl:=hy5 _ (Option.some.inj h4).symm
   refine Fin.aC (Fin.aY ?_)
   exact Fin.join [5] [102] out_2 rfl rfl
 ·rintro out_1 hv
  subst v1
  refine ab.seq (ab.aa ?_)
  refine Oc om (Oc oa ?_)
  refine af.ai ⟨[(4,.b (.row 102))],[(102,_)]⟩ rfl (ab.ret ?_)
  obtain rfl:=Option.some.inj h
  refine Fin.ag ⟨[(4,_)],[(102,_)]⟩ rfl (Fin.lA 102 kr0 [.row 102] (.inl rfl) rfl (.cons (.tmp rfl) .nil) rfl rfl rfl rfl ⟨rfl,rfl⟩)
end Go.Proofs.YtagpkeehkcopaaaGreat

