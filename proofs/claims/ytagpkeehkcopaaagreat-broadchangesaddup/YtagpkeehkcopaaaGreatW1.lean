/- printed walks -/
import Derived.Test.YtagpkeehkcopaaaGreatT1
namespace Go.Proofs.YtagpkeehkcopaaaGreat
open Go.Sk Go
set_option maxHeartbeats 4000000
set_option maxRecDepth 4000
set_option linter.unusedSimpArgs false
set_option linter.unusedVariables false
theorem tC:Tryz.prog.underlying 88 = some (.int .u64):=Tryz.underlying88
theorem undi5:Tryz.prog.underlying 5 = some (.int .u8):=Tryz.underlying5
theorem und9:Tryz.prog.underlying 9 = some .string:=Tryz.underlying9
theorem pV:Tryz.prog.underlying 3 = some (.int .i64):=Tryz.underlying3
theorem goes95:bn Tryz.prog 95:=⟨Tryz.call95⟩
theorem goes114:bn Tryz.prog 114:=⟨Tryz.call114⟩
theorem dU:Tryz.prog.underlying 51 = some (.slice 3):=Tryz.underlying51
theorem pt:Tryz.prog.underlying 112 = some (.int .u64):=Tryz.underlying112
theorem goes69:bn Tryz.prog 69:=⟨Tryz.call69⟩
theorem goes97:bn Tryz.prog 97:=⟨Tryz.call97⟩
theorem dL:cB Tryz.prog 87 0 0 3:=⟨⟨_,_,Tryz.t3,Tryz.underlying87,rfl,rfl,rfl,by kernel_rfl,by decide⟩⟩
theorem aN:cK Tryz.prog 3:=⟨⟨_,Tryz.underlying3,rfl⟩,⟨Tryz.t3,by kernel_rfl,by kernel_rfl⟩⟩
theorem goes48:bn Tryz.prog 48:=⟨Tryz.call48⟩
theorem fy:iX Tryz.prog 25 ((cO .i64) A3.zero ++ ((cO .i64) A3.zero)):=⟨⟨Tryz.t25,_,by kernel_rfl,rfl,rfl⟩⟩
theorem gF:cB Tryz.prog 87 1 1 25:=⟨⟨_,_,Tryz.t25,Tryz.underlying87,rfl,rfl,rfl,by kernel_rfl,by decide⟩⟩
theorem aE:eP Tryz.prog 25 6:=⟨⟨_,Tryz.underlying25,rfl⟩,⟨Tryz.t25,by kernel_rfl,by kernel_rfl⟩⟩
theorem goes49:bn Tryz.prog 49:=⟨Tryz.call49⟩
theorem ph:bn Tryz.prog 70:=⟨Tryz.call70⟩
theorem rl:bn Tryz.prog 44:=⟨Tryz.call44⟩
theorem bK:kF Tryz.prog 51 3 1 8 [.i 0]:=⟨Tryz.underlying51,⟨Tryz.t3,_,by kernel_rfl,rfl,rfl,rfl,rfl,by decide,rfl⟩⟩
theorem c7:cB Tryz.prog 25 0 0 23:=⟨⟨_,_,Tryz.t23,Tryz.underlying25,rfl,rfl,rfl,by kernel_rfl,by decide⟩⟩
theorem cg:sc Tryz.prog 23 3 3 1:=⟨Tryz.underlying23,⟨Tryz.t3,by kernel_rfl,by kernel_rfl⟩⟩
theorem goes53:bn Tryz.prog 53:=⟨Tryz.call53⟩
theorem goes52:bn Tryz.prog 52:=⟨Tryz.call52⟩
theorem mixed:Tryz.prog.follows .mixedOrders = true:=by kernel_rfl
theorem goes50:bn Tryz.prog 50:=⟨Tryz.call50⟩
theorem goes51:bn Tryz.prog 51:=⟨Tryz.call51⟩
theorem c6:cB Tryz.prog 25 1 3 23:=⟨⟨_,_,Tryz.t23,Tryz.underlying25,rfl,rfl,rfl,by kernel_rfl,by decide⟩⟩
theorem me:bn Tryz.prog 14:=⟨Tryz.call14⟩
theorem goes41:bn Tryz.prog 41:=⟨Tryz.call41⟩
theorem k5:Tryz.prog.underlying 42 = some (.pointer (Tryz.prog.pointee 42)):=(by rw [show Tryz.prog.pointee 42 = 117 from by unfold Go.Program.pointee; rw [Tryz.underlying42]]; exact Tryz.underlying42)
theorem goes123:bn Tryz.prog 123:=⟨Tryz.call123⟩
theorem mi:kx Tryz.prog 25 [(0,3),(3,3)] ((cO .i64) A3.zero ++ ((cO .i64) A3.zero)):=⟨⟨Tryz.t25,_,_,by kernel_rfl,rfl,rfl,Tryz.underlying25,by kernel_rfl⟩⟩
theorem oQ:nU Tryz.prog 23 1 ((cO .i64) A3.zero):=⟨⟨Tryz.t23,_,_,_,Tryz.t3,by kernel_rfl,rfl,rfl,Tryz.underlying23,by kernel_rfl,by kernel_rfl⟩⟩
theorem und34:Tryz.prog.underlying 34 = some (.slice 25):=Tryz.underlying34
theorem k6:kF Tryz.prog 34 25 6 48 ((cO .i64) A3.zero ++ ((cO .i64) A3.zero)):=⟨Tryz.underlying34,⟨Tryz.t25,_,by kernel_rfl,rfl,rfl,rfl,rfl,by decide,rfl⟩⟩
theorem goes67:bn Tryz.prog 67:=⟨Tryz.call67⟩
theorem km:cK Tryz.prog 34:=⟨⟨_,Tryz.underlying34,rfl⟩,⟨Tryz.t34,by kernel_rfl,by kernel_rfl⟩⟩
theorem tS:bn Tryz.prog 46:=⟨Tryz.call46⟩
theorem goes71:bn Tryz.prog 71:=⟨Tryz.call71⟩
theorem goes72:bn Tryz.prog 72:=⟨Tryz.call72⟩
theorem goes40:bn Tryz.prog 40:=⟨Tryz.call40⟩
theorem goes42:bn Tryz.prog 42:=⟨Tryz.call42⟩
theorem tyZero3:iX Tryz.prog 3 [.i 0]:=⟨⟨Tryz.t3,_,by kernel_rfl,rfl,rfl⟩⟩
theorem goes45:bn Tryz.prog 45:=⟨Tryz.call45⟩
theorem mc:bn Tryz.prog 16:=⟨Tryz.call16⟩
theorem dr:nU Tryz.prog 40 1 ((cx .i64) A2.zero):=⟨⟨Tryz.t40,_,_,_,Tryz.t3,by kernel_rfl,rfl,rfl,Tryz.underlying40,by kernel_rfl,by kernel_rfl⟩⟩
theorem gl:kF Tryz.prog 35 40 2 16 ((cx .i64) A2.zero):=⟨Tryz.underlying35,⟨Tryz.t40,_,by kernel_rfl,rfl,rfl,rfl,rfl,by decide,rfl⟩⟩
theorem goes47:bn Tryz.prog 47:=⟨Tryz.call47⟩
theorem nz:Tryz.prog.underlying 35 = some (.slice 40):=Tryz.underlying35
theorem eC:eP Tryz.prog 40 2:=⟨⟨_,Tryz.underlying40,rfl⟩,⟨Tryz.t40,by kernel_rfl,by kernel_rfl⟩⟩
theorem uH (x y:A2) {d:Nat}:cT Tryz.prog (d + 2) 40 2 ((cx .i64) x) ((cx .i64) y) (decide (x = y)) :=
 (cT.arr (l:=x.l) (l':=y.l) eC Tryz.underlying40 aN Tryz.underlying3).cast (by rw [Bool.eq_iff_iff]; simp [A2.tx])
theorem pG (x y:A2):kO Tryz.prog 40 ((cx .i64) x) ((cx .i64) y) (decide (x = y)):=kO.tI (by kernel_rfl) eC (uH x y (d:=9998)) rfl rfl
theorem dn:iX Tryz.prog 49 [.tr ae (.leaf),.cF 0,.cF 0,.cF 0,.tr ae (.leaf),.cF 0,.cF 0,.cF 0]:=⟨⟨Tryz.t49,_,by kernel_rfl,rfl,rfl⟩⟩
theorem oP:kx Tryz.prog 47 [(0,1),(1,1),(2,1),(3,1)] [.tr ae (.leaf),.cF 0,.cF 0,.cF 0]:=⟨⟨Tryz.t47,_,_,by kernel_rfl,rfl,rfl,Tryz.underlying47,by kernel_rfl⟩⟩
theorem fe:kx Tryz.prog 49 [(0,4),(4,4)] [.tr ae (.leaf),.cF 0,.cF 0,.cF 0,.tr ae (.leaf),.cF 0,.cF 0,.cF 0]:=⟨⟨Tryz.t49,_,_,by kernel_rfl,rfl,rfl,Tryz.underlying49,by kernel_rfl⟩⟩
theorem aH:eP Tryz.prog 49 8:=⟨⟨_,Tryz.underlying49,rfl⟩,⟨Tryz.t49,by kernel_rfl,by kernel_rfl⟩⟩
theorem gP:iX Tryz.prog 87 (.i 0 :: ((cO .i64) A3.zero ++ ((cO .i64) A3.zero))):=⟨⟨Tryz.t87,_,by kernel_rfl,rfl,rfl⟩⟩
theorem kz:cB Tryz.prog 49 0 0 47:=⟨⟨_,_,Tryz.t47,Tryz.underlying49,rfl,rfl,rfl,by kernel_rfl,by decide⟩⟩
theorem fH:cB Tryz.prog 47 0 0 42:=⟨⟨_,_,Tryz.t42,Tryz.underlying47,rfl,rfl,rfl,by kernel_rfl,by decide⟩⟩
theorem bp:cK Tryz.prog 42:=⟨⟨_,Tryz.underlying42,rfl⟩,⟨Tryz.t42,by kernel_rfl,by kernel_rfl⟩⟩
theorem eh:cB Tryz.prog 117 0 0 87:=⟨⟨_,_,Tryz.t87,Tryz.underlying117,rfl,rfl,rfl,by kernel_rfl,by decide⟩⟩
theorem bq:eP Tryz.prog 87 7:=⟨⟨_,Tryz.underlying87,rfl⟩,⟨Tryz.t87,by kernel_rfl,by kernel_rfl⟩⟩
theorem dE:cB Tryz.prog 117 3 14 42:=⟨⟨_,_,Tryz.t42,Tryz.underlying117,rfl,rfl,rfl,by kernel_rfl,by decide⟩⟩
theorem dD:cB Tryz.prog 117 4 15 42:=⟨⟨_,_,Tryz.t42,Tryz.underlying117,rfl,rfl,rfl,by kernel_rfl,by decide⟩⟩
theorem oO:kx Tryz.prog 87 [(0,1),(1,6)] (.i 0 :: ((cO .i64) A3.zero ++ ((cO .i64) A3.zero))):=⟨⟨Tryz.t87,_,_,by kernel_rfl,rfl,rfl,Tryz.underlying87,by kernel_rfl⟩⟩
theorem q5:Tryz.prog.underlying 144 = some (.slice 42):=Tryz.underlying144
theorem iZ:kF Tryz.prog 144 42 1 8 [.tr ae (.leaf)]:=⟨Tryz.underlying144,⟨Tryz.t42,_,by kernel_rfl,rfl,rfl,rfl,rfl,by decide,rfl⟩⟩
theorem goes131:bn Tryz.prog 131:=⟨Tryz.call131⟩
theorem goes122:bn Tryz.prog 122:=⟨Tryz.call122⟩
theorem lh:cB Tryz.prog 117 1 7 88:=⟨⟨_,_,Tryz.t88,Tryz.underlying117,rfl,rfl,rfl,by kernel_rfl,by decide⟩⟩
theorem pv:cK Tryz.prog 88:=⟨⟨_,Tryz.underlying88,rfl⟩,⟨Tryz.t88,by kernel_rfl,by kernel_rfl⟩⟩
theorem sP:cB Tryz.prog 47 3 3 45:=⟨⟨_,_,Tryz.t45,Tryz.underlying47,rfl,rfl,rfl,by kernel_rfl,by decide⟩⟩
theorem tyOne45:cK Tryz.prog 45:=⟨⟨_,Tryz.underlying45,rfl⟩,⟨Tryz.t45,by kernel_rfl,by kernel_rfl⟩⟩
theorem nW:kx Tryz.prog 117 [(0,7),(7,1),(8,6),(14,1),(15,1)] (.i 0 :: ((cO .i64) A3.zero ++ ((cO .i64) A3.zero ++ (.int .u64 0 :: ((cO .i64) A3.zero ++ ((cO .i64) A3.zero ++ ([.tr ae (.leaf),.tr ae (.leaf)]))))))):=⟨⟨Tryz.t117,_,_,by kernel_rfl,rfl,rfl,Tryz.underlying117,by kernel_rfl⟩⟩
theorem goes100:bn Tryz.prog 100:=⟨Tryz.call100⟩
theorem je:cB Tryz.prog 117 2 8 25:=⟨⟨_,_,Tryz.t25,Tryz.underlying117,rfl,rfl,rfl,by kernel_rfl,by decide⟩⟩
theorem tW:bn Tryz.prog 18:=⟨Tryz.call18⟩
theorem oN:cB Tryz.prog 47 1 1 43:=⟨⟨_,_,Tryz.t43,Tryz.underlying47,rfl,rfl,rfl,by kernel_rfl,by decide⟩⟩
theorem sm:cK Tryz.prog 43:=⟨⟨_,Tryz.underlying43,rfl⟩,⟨Tryz.t43,by kernel_rfl,by kernel_rfl⟩⟩
theorem bw:eP Tryz.prog 47 4:=⟨⟨_,Tryz.underlying47,rfl⟩,⟨Tryz.t47,by kernel_rfl,by kernel_rfl⟩⟩
theorem rj:bn Tryz.prog 79:=⟨Tryz.call79⟩
theorem k9:bn Tryz.prog 80:=⟨Tryz.call80⟩
theorem nH:bn Tryz.prog 82:=⟨Tryz.call82⟩
theorem p8:iX Tryz.prog 47 [.tr ae (.leaf),.cF 0,.cF 0,.cF 0]:=⟨⟨Tryz.t47,_,by kernel_rfl,rfl,rfl⟩⟩
theorem sQ:cB Tryz.prog 47 2 2 44:=⟨⟨_,_,Tryz.t44,Tryz.underlying47,rfl,rfl,rfl,by kernel_rfl,by decide⟩⟩
theorem tyOne44:cK Tryz.prog 44:=⟨⟨_,Tryz.underlying44,rfl⟩,⟨Tryz.t44,by kernel_rfl,by kernel_rfl⟩⟩
theorem goes81:bn Tryz.prog 81:=⟨Tryz.call81⟩
theorem rk:bn Tryz.prog 54:=⟨Tryz.call54⟩
theorem tP:bn Tryz.prog 59:=⟨Tryz.call59⟩
theorem mh:cB Tryz.prog 49 1 4 47:=⟨⟨_,_,Tryz.t47,Tryz.underlying49,rfl,rfl,rfl,by kernel_rfl,by decide⟩⟩
theorem ug:iX Tryz.prog 51 [.nil]:=⟨⟨Tryz.t51,_,by kernel_rfl,rfl,rfl⟩⟩
theorem tQ:bn Tryz.prog 57:=⟨Tryz.call57⟩
theorem nj:cK Tryz.prog 51:=⟨⟨_,Tryz.underlying51,rfl⟩,⟨Tryz.t51,by kernel_rfl,by kernel_rfl⟩⟩
theorem tN:bn Tryz.prog 77:=⟨Tryz.call77⟩
theorem goes75:bn Tryz.prog 75:=⟨Tryz.call75⟩
theorem pj:bn Tryz.prog 55:=⟨Tryz.call55⟩
theorem ri:bn Tryz.prog 83:=⟨Tryz.call83⟩
theorem tO:bn Tryz.prog 60:=⟨Tryz.call60⟩
theorem goes98:bn Tryz.prog 98:=⟨Tryz.call98⟩
theorem tM:bn Tryz.prog 99:=⟨Tryz.call99⟩
theorem goes76:bn Tryz.prog 76:=⟨Tryz.call76⟩
theorem rm:bn Tryz.prog 30:=⟨Tryz.call30⟩
theorem mb:bn Tryz.prog 29:=⟨Tryz.call29⟩
theorem tR:bn Tryz.prog 56:=⟨Tryz.call56⟩
theorem uh:iX Tryz.prog 35 [.nil]:=⟨⟨Tryz.t35,_,by kernel_rfl,rfl,rfl⟩⟩
theorem pw:cK Tryz.prog 35:=⟨⟨_,Tryz.underlying35,rfl⟩,⟨Tryz.t35,by kernel_rfl,by kernel_rfl⟩⟩
theorem nI:bn Tryz.prog 39:=⟨Tryz.call39⟩
theorem tyAgg23:eP Tryz.prog 23 3:=⟨⟨_,Tryz.underlying23,rfl⟩,⟨Tryz.t23,by kernel_rfl,by kernel_rfl⟩⟩
theorem qw (x y:A3) {d:Nat}:cT Tryz.prog (d + 2) 23 3 ((cO .i64) x) ((cO .i64) y) (decide (x = y)) :=
 (cT.arr (l:=x.l) (l':=y.l) tyAgg23 Tryz.underlying23 aN Tryz.underlying3).cast (by rw [Bool.eq_iff_iff]; simp [A3.tx])
theorem uI (x y:cn) {d:Nat}:cT Tryz.prog (d + 3) 25 6 (ao x) (ao y) (decide (x = y)) :=
 (cT.struct (d:=d + 2) (rs:=[decide (x.Lo = y.Lo),decide (x.Hi = y.Hi)]) aE Tryz.stoodInHeld25 Tryz.underlying25 (⟨by decide,⟨_,((cO .i64) x.Lo),((cO .i64) y.Lo),rfl,rfl,rfl,rfl,qw _ _⟩,⟨by decide,⟨_,((cO .i64) x.Hi),((cO .i64) y.Hi),rfl,rfl,rfl,rfl,qw _ _⟩,trivial⟩⟩) rfl).cast
  (by cases x; cases y; rw [Bool.eq_iff_iff]; simp [cn.mk.injEq])
theorem sC (x y:cn):kO Tryz.prog 25 (ao x) (ao y) (decide (x = y)):=kO.tI (by kernel_rfl) aE (uI x y (d:=9997)) rfl rfl
theorem tX:bn Tryz.prog 11:=⟨Tryz.call11⟩
theorem tV:bn Tryz.prog 20:=⟨Tryz.call20⟩
theorem ry:bn Tryz.prog 22:=⟨Tryz.call22⟩
theorem ru:bn Tryz.prog 23:=⟨Tryz.call23⟩
theorem tU:bn Tryz.prog 31:=⟨Tryz.call31⟩
theorem rq:bn Tryz.prog 25:=⟨Tryz.call25⟩
theorem tT:bn Tryz.prog 32:=⟨Tryz.call32⟩
theorem pk:bn Tryz.prog 26:=⟨Tryz.call26⟩
theorem und4:Tryz.prog.underlying 4 = some .bool:=Tryz.underlying4
theorem rz:bn Tryz.prog 15:=⟨Tryz.call15⟩
theorem sO:cB Tryz.prog 55 0 0 3:=⟨⟨_,_,Tryz.t3,Tryz.underlying55,rfl,rfl,rfl,by kernel_rfl,by decide⟩⟩
theorem mg:cB Tryz.prog 55 1 1 3:=⟨⟨_,_,Tryz.t3,Tryz.underlying55,rfl,rfl,rfl,by kernel_rfl,by decide⟩⟩
theorem oM:cB Tryz.prog 55 2 2 25:=⟨⟨_,_,Tryz.t25,Tryz.underlying55,rfl,rfl,rfl,by kernel_rfl,by decide⟩⟩
theorem und41:Tryz.prog.underlying 41 = some (.slice 55):=Tryz.underlying41
theorem tySl41:kF Tryz.prog 41 55 8 64 (.i 0 :: .i 0 :: ((cO .i64) A3.zero ++ ((cO .i64) A3.zero))):=⟨Tryz.underlying41,⟨Tryz.t55,_,by kernel_rfl,rfl,rfl,rfl,rfl,by decide,rfl⟩⟩
theorem tyAgg55:eP Tryz.prog 55 8:=⟨⟨_,Tryz.underlying55,rfl⟩,⟨Tryz.t55,by kernel_rfl,by kernel_rfl⟩⟩
theorem goes24:bn Tryz.prog 24:=⟨Tryz.call24⟩
theorem p9:iX Tryz.prog 40 ((cx .i64) A2.zero):=⟨⟨Tryz.t40,_,by kernel_rfl,rfl,rfl⟩⟩
theorem rn:bn Tryz.prog 27:=⟨Tryz.call27⟩
def jo (F:Nat) (x0:Int):Option Int :=
 Option.bind (if (decide (4294967296 ≤ x0)) = true then (some (x0 / 4294967296,32)) else (some (x0,0))) (dX fun x_1 n_2=>Option.bind (if (decide (65536 ≤ x_1)) = true then (some (x_1 / 65536,IntKind.i64.wrap (n_2 + 16))) else (some (x_1,n_2))) (dX fun x_3 n_4=>Option.bind (if (decide (256 ≤ x_3)) = true then (some (x_3 / 256,IntKind.i64.wrap (n_4 + 8))) else (some (x_3,n_4))) (dX fun x_5 n_6=>(bd ([0,1,2,2,3,3,3,3,4,4,4,4,4,4,4,4,5,5,5,5,5,5,5,5,5,5,5,5,5,5,5,5,6,6,6,6,6,6,6,6,6,6,6,6,6,6,6,6,6,6,6,6,6,6,6,6,6,6,6,6,6,6,6,6,7,7,7,7,7,7,7,7,7,7,7,7,7,7,7,7,7,7,7,7,7,7,7,7,7,7,7,7,7,7,7,7,7,7,7,7,7,7,7,7,7,7,7,7,7,7,7,7,7,7,7,7,7,7,7,7,7,7,7,7,7,7,7,7,8,8,8,8,8,8,8,8,8,8,8,8,8,8,8,8,8,8,8,8,8,8,8,8,8,8,8,8,8,8,8,8,8,8,8,8,8,8,8,8,8,8,8,8,8,8,8,8,8,8,8,8,8,8,8,8,8,8,8,8,8,8,8,8,8,8,8,8,8,8,8,8,8,8,8,8,8,8,8,8,8,8,8,8,8,8,8,8,8,8,8,8,8,8,8,8,8,8,8,8,8,8,8,8,8,8,8,8,8,8,8,8,8,8,8,8,8,8,8,8,8,8,8,8,8,8,8,8]:Str) (IntKind.u8.wrap x_5)).bind fun x_7=>ez (IntKind.i64.wrap (n_6 + (IntKind.i64.wrap (x_7.toNat:Int)))) fun x_8=>some x_8)))
theorem ng {F:Nat} {x0:Int} {r:Int} (h:jo F x0 = some r):an Tryz.prog [] 95 [] [.one (.int .u64 x0)] (Is [] (.b (.one (.i r)))):=by
 unfold jo at h
 refine an.intro 25 Tryz.func95 Tryz.ntmps95 rfl (by simp) fun E=>?_
 show ab _ E ⟨25,[],[],[]⟩ _ ⟨[(0,.b (.one (.int .u64 x0)))],[]⟩ _
 refine ab.seq (ab.aa ?_)
 refine Oc oa (af.ai ⟨[(0,.b (.one (.int .u64 x0))),(2,I 0)],[]⟩ rfl ?_)
 obtain ⟨v1,h2,h⟩:=aP h
 refine ab.dQ (v:=v1) (dX fun (x_1:Int) (n_2:Int)=>⟨[(0,.b (.one (.int .u64 x_1))),(2,I n_2)],[]⟩) (fun z=>z) ?_ ?_
 ·refine ab.seq (ab.aa ?_)
  refine Oc om (Oc (nE rfl rfl) ?_)
  refine af.ai ⟨[(0,_),(2,_),(4,B (decide (4294967296 ≤ x0)))],[]⟩ rfl (ab.ite h2 rfl (fun _ h2=>?_) (fun _ h2=>?_))
  ·refine ab.seq (ab.aa ?_)
   refine Oc om (Oc (ja (m:=32) (by decide) rfl rfl rfl) (Oc oa ?_))
   refine af.ai ⟨[(0,.b (.one (.int .u64 (x0 / 4294967296))))],[]⟩ rfl (ab.aa (Oc oa (af.nil ?_)))
   exact Fin.join [0,2] [] (x0 / 4294967296,32) (Option.some.inj h2) rfl
  ·refine ab.skip ?_
   exact Fin.join [0,2] [] (x0,0) (Option.some.inj h2) rfl
 ·rintro ⟨x_1,n_2⟩ hv
  subst v1
  obtain ⟨v3,h4,h⟩:=aP h
  refine ab.dQ (v:=v3) (dX fun (x_3:Int) (n_4:Int)=>⟨[(0,.b (.one (.int .u64 x_3))),(2,I n_4)],[]⟩) (fun z=>z) ?_ ?_
  ·refine ab.seq (ab.aa ?_)
   refine Oc om (Oc (nE rfl rfl) ?_)
   refine af.ai ⟨[(0,_),(2,_),(8,B (decide (65536 ≤ x_1)))],[]⟩ rfl (ab.ite h4 rfl (fun _ h4=>?_) (fun _ h4=>?_))
   ·refine ab.seq (ab.aa ?_)
    refine Oc om (Oc (ja (m:=16) (by decide) rfl rfl rfl) (Oc oa ?_))
    refine af.ai ⟨[(0,.b (.one (.int .u64 (x_1 / 65536)))),(2,_)],[]⟩ rfl (ab.aa (Oc om (Oc (bu rfl rfl) (Oc oa ?_))))
    refine af.nil ?_
    exact Fin.join [0,2] [] (x_1 / 65536,IntKind.i64.wrap (n_2 + 16)) (Option.some.inj h4) rfl
   ·refine ab.skip ?_
    exact Fin.join [0,2] [] (x_1,n_2) (Option.some.inj h4) rfl
  ·rintro ⟨x_3,n_4⟩ hv
   subst v3
   obtain ⟨v5,h6,h⟩:=aP h
   refine ab.dQ (v:=v5) (dX fun (x_5:Int) (n_6:Int)=>⟨[(0,.b (.one (.int .u64 x_5))),(2,I n_6)],[]⟩) (fun z=>z) ?_ ?_
   ·refine ab.seq (ab.aa ?_)
    refine Oc om (Oc (nE rfl rfl) ?_)
    refine af.ai ⟨[(0,_),(2,_),(14,B (decide (256 ≤ x_3)))],[]⟩ rfl (ab.ite h6 rfl (fun _ h6=>?_) (fun _ h6=>?_))
    ·refine ab.seq (ab.aa ?_)
     refine Oc om (Oc (ja (m:=8) (by decide) rfl rfl rfl) (Oc oa ?_))
     refine af.ai ⟨[(0,.b (.one (.int .u64 (x_3 / 256)))),(2,_)],[]⟩ rfl (ab.aa (Oc om (Oc (bu rfl rfl) (Oc oa ?_))))
     refine af.nil ?_
     exact Fin.join [0,2] [] (x_3 / 256,IntKind.i64.wrap (n_4 + 8)) (Option.some.inj h6) rfl
    ·refine ab.skip ?_
     exact Fin.join [0,2] [] (x_3,n_4) (Option.some.inj h6) rfl
   ·rintro ⟨x_5,n_6⟩ hv
    subst v5
    refine ab.seq (ab.aa ?_)
    refine Oc om (Oc om (Oc (eF tC undi5 rfl) ?_))
    obtain ⟨x_7,e7,h⟩:=aP h
    refine Oc (pM und9 rfl rfl (a8 e7) (rb e7)) (Oc (eF undi5 pV rfl) ?_)
    refine af.pY .i64 h rfl (bu rfl rfl) (fun x_8 h=>?_)
    refine Oc oa (af.ai ⟨[(2,I x_8)],[]⟩ rfl (ab.ret ?_))
    obtain rfl:=Option.some.inj h
    refine Fin.ag ⟨[(2,_)],[]⟩ rfl (Fin.aw [.one (.i x_8)] (.inl rfl) rfl (.cons (.tmp rfl) .nil) ⟨rfl,rfl⟩)
def lr (F:Nat) (x0:Int):Option Int :=
 (jo F x0).bind fun x_1=>some x_1
theorem oH {F:Nat} {x0:Int} {r:Int} (h:lr F x0 = some r):an Tryz.prog [] 69 [] [.one (.int .u64 x0)] (Is [] (.b (.one (.i r)))):=by
 unfold lr at h
 refine an.intro 8 Tryz.func69 Tryz.ntmps69 rfl (by simp) fun E=>?_
 show ab _ E ⟨8,[],[],[]⟩ _ ⟨[(0,.b (.one (.int .u64 x0)))],[]⟩ _
 refine ab.seq (ab.aa ?_)
 refine Oc oa (af.ai ⟨[(0,.b (.one (.int .u64 x0)))],[]⟩ rfl (ab.seq (ab.condFc (ab.skip (Fin.ag ⟨[(0,_)],[]⟩ rfl ?_)))))
 refine Fin.then (ab.seq (ab.aa ?_))
 refine Oc om ?_
 obtain ⟨x_1,e1,h⟩:=aP h
 refine Oc (aj (ng e1) goes95 rfl rfl) (Oc oa ?_)
 refine af.ai ⟨[(2,I x_1)],[]⟩ rfl (ab.ret ?_)
 obtain rfl:=Option.some.inj h
 refine Fin.ag ⟨[(2,_)],[]⟩ rfl (Fin.aw [.one (.i x_1)] (.inl rfl) rfl (.cons (.tmp rfl) .nil) ⟨rfl,rfl⟩)
def dG (F:Nat):Option Unit :=
 Option.bind (iter F (fun _=>some (.inr ())) ()) (fun _=>some ())
theorem hX {F:Nat} {r:Unit} (h:dG F = some r):an Tryz.prog [] 114 [] [.one (.nil),.one (.i 0),.one (.i 0)] (Is [] (.dY [])):=by
 unfold dG at h
 refine an.intro 49 Tryz.func114 Tryz.ntmps114 rfl (by simp) fun E=>?_
 show ab _ E ⟨49,[],[],[]⟩ _ ⟨[(0,.b (.one (.nil))),(1,I 0),(2,I 0)],[]⟩ _
 refine ab.seq (ab.aa ?_)
 refine Oc om (Oc (bu rfl rfl) (Oc oa ?_))
 refine af.ai ⟨[(0,.b (.one (.nil))),(1,I 0),(2,I 0),(6,I 1)],[]⟩ rfl (ab.block ?_)
 obtain ⟨v1,h2,h⟩:=aP h
 refine ab.c9 h2 (fun (_:Unit)=>⟨[(0,.b (.one (.nil))),(1,I 0),(2,I 0),(6,I 1)],[]⟩) [0,1,2,6] [] rfl ?_
 rintro _ o3 h4 hy5
 refine ab.seq (ab.seq (ab.aa ?_))
 refine Oc om (Oc om (Oc (bo rfl rfl) ?_))
 refine af.ai ⟨[(0,_),(1,_),(2,_),(6,_),(12,B false)],[]⟩ rfl (ab.condF rfl (ab.exit (Fin.aD ?_)))
 obtain rfl:=hy5 _ (Option.some.inj h4).symm
 refine Fin.aD (Fin.aV ?_)
 obtain rfl:=Option.some.inj h
 refine Fin.ag ⟨[],[]⟩ rfl (Fin.aw [] (.inr rfl) rfl (.nil) ⟨rfl,rfl⟩)
def dd (F:Nat):Nat → Int → Option Unit
 | 0,_=>none
 | n + 1,limit0=>Option.bind (iter F (fun _=>(dG F).bind fun u_1=>some (.inr ())) ()) (fun y=>some y)
def gi (F:Nat) (limit0:Int):Option Unit:=dd F F limit0
theorem iB {F:Nat}:∀ (n:Nat) {limit0:Int} {r:Unit} (h:dd F n limit0 = some r),an Tryz.prog [] 97 [] [.one (.nil),.one (.i 0),.one (.i 0),.one (.i limit0)] (Is [] (.dY [])):=by
 intro n
 induction n with
 | zero=>intro limit0 r h; simp [dd] at h
 | succ n ih=>
 intro limit0 r h
 unfold dd at h
 refine an.intro 134 Tryz.func97 Tryz.ntmps97 rfl (by simp) fun E=>?_
 show ab _ E ⟨134,[],[],[]⟩ _ ⟨[(0,.b (.one (.nil))),(1,I 0),(2,I 0),(3,I limit0)],[]⟩ _
 refine ab.seq (ab.aa ?_)
 refine Oc oa (af.ai ⟨[(0,.b (.one (.nil))),(1,I 0),(2,I 0),(3,I limit0),(8,B true)],[]⟩ rfl (ab.seq (ab.aa ?_)))
 refine Oc oa (af.ai ⟨[(0,_),(1,_),(2,_),(3,_),(8,_),(9,B true)],[]⟩ rfl (ab.block ?_))
 obtain ⟨v1,h2,h⟩:=aP h
 refine ab.c9 h2 (fun (_:Unit)=>⟨[(0,.b (.one (.nil))),(1,I 0),(2,I 0),(3,I limit0),(8,B true),(9,B true)],[]⟩) [0,1,2,3,8,9] [] rfl ?_
 rintro _ o3 h4 hy5
 refine ab.block (ab.seq (ab.aa ?_))
 refine Oc om (Oc om (Oc (tG rfl rfl) (Oc oa ?_)))
 refine af.ai ⟨[(0,_),(1,_),(2,_),(3,_),(8,_),(9,_),(10,I 0)],[]⟩ rfl (ab.seq (ab.seq (ab.aa ?_)))
 refine Oc om (Oc (op_leq rfl rfl) ?_)
 refine af.ai ⟨[(0,_),(1,_),(2,_),(3,_),(8,_),(9,_),(10,_),(23,B true)],[]⟩ rfl (ab.condT rfl (ab.seq (ab.aa ?_)))
 refine Oc om (Oc om (Oc om ?_))
 obtain ⟨u_1,e6,h4⟩:=aP h4
 refine Oc (aj (hX e6) goes114 rfl rfl) (af.ai ⟨[],[]⟩ rfl (ab.ret (Fin.au (Fin.aO ?_))))
 obtain rfl:=hy5 _ (Option.some.inj h4).symm
 refine Fin.au (Fin.aO ?_)
 obtain rfl:=Option.some.inj h
 refine Fin.ag ⟨[],[]⟩ rfl (Fin.aw [] (.inl rfl) rfl (.nil) ⟨rfl,rfl⟩)
theorem iQ {F:Nat} {limit0:Int} {r:Unit} (h:gi F limit0 = some r):an Tryz.prog [] 97 [] [.one (.nil),.one (.i 0),.one (.i 0),.one (.i limit0)] (Is [] (.dY [])):=iB F h
def ir (F:Nat):Option Unit :=
 (lr F (IntKind.u64.wrap 0)).bind fun x_1=>(gi F x_1).bind fun u_2=>some ()
theorem ka {F:Nat} {r:Unit} (h:ir F = some r):an Tryz.prog [] 75 [] [.one (.nil)] (Is [] (.dY [])):=by
 unfold ir at h
 refine an.intro 11 Tryz.func75 Tryz.ntmps75 rfl (by simp) fun E=>?_
 show ab _ E ⟨11,[],[],[]⟩ _ ⟨[(0,.b (.one (.nil)))],[]⟩ _
 refine ab.seq (ab.aa ?_)
 refine Oc om (Oc (rQ dU rfl) (Oc oa ?_))
 refine af.ai ⟨[(0,.b (.one (.nil))),(2,I 0)],[]⟩ rfl (ab.aa (Oc om (Oc om (Oc om (Oc (eF pV pt rfl) ?_)))))
 obtain ⟨x_1,e1,h⟩:=aP h
 refine Oc (aj (oH e1) goes69 rfl rfl) ?_
 obtain ⟨u_2,e2,h⟩:=aP h
 refine Oc (aj (iQ e2) goes97 rfl rfl) (af.nil ?_)
 obtain rfl:=Option.some.inj h
 refine Fin.ag ⟨[],[]⟩ rfl (Fin.aw [] (.inr rfl) rfl (.nil) ⟨rfl,rfl⟩)
theorem mH:an Tryz.prog [] 75 [] [.one .nil] (Is [] (.dY [])):=ka (F:=3) (r:=()) (by rfl)
def eT (F:Nat) (zs:List Int):Option (List Int):=nC zs
theorem mG {F:Nat} {zs r:List Int} (h:eT F zs = some r):an Tryz.prog [] 75 [(1,.dB 3 1 (zs.map eI))] [.row 1] (Is [(1,.dB 3 1 (r.map eI))] (.dY [])):=qJ Tryz.lays189 mH h
def iA (F:Nat) (x0:entry):Option Int :=
 some (IntKind.u64.wrap x0.id)
theorem mM {F:Nat} {x0:entry} {r:Int} (h:iA F x0 = some r):an Tryz.prog [] 48 [] [.agg (aq x0)] (Is [] (.b (.one (.int .u64 r)))):=by
 unfold iA at h
 refine an.intro 6 Tryz.func48 Tryz.ntmps48 rfl (by simp) fun E=>?_
 show ab _ E ⟨6,[],[],[]⟩ _ ⟨[(0,.b (.agg (aq x0)))],[]⟩ _
 refine ab.seq (ab.aa ?_)
 refine Oc (bD (k:=101) rfl rfl) (Oc oa ?_)
 refine af.ai ⟨[(1,Pt 101 0)],[(101,.box 87 (aq x0))]⟩ rfl (ab.seq (ab.aa ?_))
 refine Oc (ax dL rfl rfl) (Oc (aM aN rfl rfl rfl) (Oc (eF pV tC rfl) (Oc oa ?_)))
 refine af.ai ⟨[(2,.b (.one (.int .u64 (IntKind.u64.wrap x0.id))))],[]⟩ rfl (ab.ret ?_)
 obtain rfl:=Option.some.inj h
 refine Fin.ag ⟨[(2,_)],[]⟩ rfl (Fin.aw [.one (.int .u64 (IntKind.u64.wrap x0.id))] (.inl rfl) rfl (.cons (.tmp rfl) .nil) ⟨rfl,rfl⟩)
def gw (F:Nat) (fn0:Nat) (x0:entry):Option Int :=
 if fn0 = 48 then iA F x0 else none
theorem rS {F:Nat} {fn0:Nat} {x0:entry} {r:Int} (h:gw F fn0 x0 = some r):an Tryz.prog [] fn0 [] [.agg (aq x0)] (Is [] (.b (.one (.int .u64 r)))):=by
 unfold gw at h
 split at h
 ·next e=>subst e; exact mM h
 ·next=>
  simp at h
theorem rT {F:Nat} {fn0:Nat} {x0:entry} {r:Int} (h:gw F fn0 x0 = some r):bn Tryz.prog fn0:=by
 unfold gw at h
 split at h
 ·next e=>subst e; exact goes48
 ·next=>
  simp at h
theorem uE {F:Nat} {fn0:Nat} {x0:entry} {r:Int} (h:gw F fn0 x0 = some r):fn0 ≠ 0:=by
 rintro rfl
 exact absurd h (by simp [gw])
def fU (F:Nat) (x0:entry):Option cn :=
 some x0.b
theorem mL {F:Nat} {x0:entry} {r:cn} (h:fU F x0 = some r):an Tryz.prog [] 49 [] [.agg (aq x0)] (Is [] (.b (.agg (ao r)))):=by
 unfold fU at h
 refine an.intro 5 Tryz.func49 Tryz.ntmps49 rfl (by simp) fun E=>?_
 show ab _ E ⟨5,[],[],[]⟩ _ ⟨[(0,.b (.agg (aq x0)))],[]⟩ _
 refine ab.seq (ab.aa ?_)
 refine Oc (bD (k:=101) rfl rfl) (Oc (aW (k:=102) fy rfl) ?_)
 refine af.ai ⟨[(1,Pt 101 0),(2,Pt 102 0)],[(101,.box 87 (aq x0)),(102,.box 25 ((cO .i64) A3.zero ++ ((cO .i64) A3.zero)))]⟩ rfl (ab.seq (ab.aa ?_))
 refine Oc (ax gF rfl rfl) (Oc (lp aE) (Oc (az aE rfl rfl rfl rfl (Nat.le_of_ble_eq_true rfl) rfl) ?_))
 refine af.ai ⟨[(2,_)],[(102,.box 25 (ao x0.b))]⟩ rfl (ab.ret ?_)
 obtain rfl:=Option.some.inj h
 refine Fin.ag ⟨[(2,_)],[(102,_)]⟩ rfl (Fin.aw [.agg (ao x0.b)] (.inl rfl) rfl (.cons (.agg aE rfl rfl rfl rfl) .nil) ⟨rfl,rfl⟩)
def ij (F:Nat) (fn0:Nat) (x0:entry):Option cn :=
 if fn0 = 49 then fU F x0 else none
theorem rZ {F:Nat} {fn0:Nat} {x0:entry} {r:cn} (h:ij F fn0 x0 = some r):an Tryz.prog [] fn0 [] [.agg (aq x0)] (Is [] (.b (.agg (ao r)))):=by
 unfold ij at h
 split at h
 ·next e=>subst e; exact mL h
 ·next=>
  simp at h
theorem r4 {F:Nat} {fn0:Nat} {x0:entry} {r:cn} (h:ij F fn0 x0 = some r):bn Tryz.prog fn0:=by
 unfold ij at h
 split at h
 ·next e=>subst e; exact goes49
 ·next=>
  simp at h
theorem uK {F:Nat} {fn0:Nat} {x0:entry} {r:cn} (h:ij F fn0 x0 = some r):fn0 ≠ 0:=by
 rintro rfl
 exact absurd h (by simp [ij])
def dA (F:Nat) (x0:Int):Option Bool :=
 some (decide (x0 ≠ x0))
theorem fD {F:Nat} {x0:Int} {r:Bool} (h:dA F x0 = some r):an Tryz.prog [] 70 [] [.one (.i x0)] (Is [] (.b (.one (.bool r)))):=by
 unfold dA at h
 refine an.intro 6 Tryz.func70 Tryz.ntmps70 rfl (by simp) fun E=>?_
 show ab _ E ⟨6,[],[],[]⟩ _ ⟨[(0,I x0)],[]⟩ _
 refine ab.seq (ab.aa ?_)
 refine Oc oa (af.ai ⟨[(0,I x0)],[]⟩ rfl (ab.seq (ab.aa ?_)))
 refine Oc om (Oc om (Oc (iV rfl rfl) (Oc oa ?_)))
 refine af.ai ⟨[(2,B (decide (x0 ≠ x0)))],[]⟩ rfl (ab.ret ?_)
 obtain rfl:=Option.some.inj h
 refine Fin.ag ⟨[(2,_)],[]⟩ rfl (Fin.aw [.one (.bool (decide (x0 ≠ x0)))] (.inl rfl) rfl (.cons (.tmp rfl) .nil) ⟨rfl,rfl⟩)
def dg (F:Nat) (x0:Int) (y0:Int):Option Int :=
 (dA F x0).bind fun x_1=>(dA F y0).bind fun x_2=>if x_1 = true then (if x_2 = true then (some 0) else (some (-1))) else (if x_2 = true then (some 1) else (if (decide (x0 < y0)) = true then (some (-1)) else (if (decide (y0 < x0)) = true then (some 1) else (some 0))))
theorem fN {F:Nat} {x0:Int} {y0:Int} {r:Int} (h:dg F x0 y0 = some r):an Tryz.prog [] 44 [] [.one (.i x0),.one (.i y0)] (Is [] (.b (.one (.i r)))):=by
 unfold dg at h
 refine an.intro 20 Tryz.func44 Tryz.ntmps44 rfl (by simp) fun E=>?_
 show ab _ E ⟨20,[],[],[]⟩ _ ⟨[(0,I x0),(1,I y0)],[]⟩ _
 refine ab.seq (ab.aa ?_)
 refine Oc oa (af.ai ⟨[(0,I x0),(1,I y0)],[]⟩ rfl (ab.seq (ab.aa ?_)))
 refine Oc om ?_
 obtain ⟨x_1,e1,h⟩:=aP h
 refine Oc (aj (fD e1) ph rfl rfl) (Oc oa ?_)
 refine af.ai ⟨[(0,_),(1,_),(5,B x_1)],[]⟩ rfl (ab.seq (ab.aa ?_))
 refine Oc om ?_
 obtain ⟨x_2,e2,h⟩:=aP h
 refine Oc (aj (fD e2) ph rfl rfl) (Oc oa ?_)
 refine af.ai ⟨[(0,_),(1,_),(5,_),(6,B x_2)],[]⟩ rfl (ab.seq (ab.seq (ab.aa ?_)))
 refine Oc om (af.ai ⟨[(0,_),(1,_),(6,_),(11,B x_1)],[]⟩ rfl (ab.ite h rfl (fun _ h=>?_) (fun _ h=>?_)))
 ·refine ab.seq (ab.seq (ab.aa ?_))
  refine Oc om (af.ai ⟨[(12,B x_2)],[]⟩ rfl (ab.ite h rfl (fun _ h=>?_) (fun _ h=>?_)))
  ·refine ab.seq (ab.aa ?_)
   refine Oc oa (af.ai ⟨[(4,I 0)],[]⟩ rfl (ab.ret (Fin.au (Fin.au ?_))))
   obtain rfl:=Option.some.inj h
   refine Fin.ag ⟨[(4,_)],[]⟩ rfl (Fin.aw [.one (.i 0)] (.inl rfl) rfl (.cons (.tmp rfl) .nil) ⟨rfl,rfl⟩)
  ·refine ab.skip (Fin.ag ⟨[],[]⟩ rfl (Fin.then (ab.seq (ab.aa ?_))))
   refine Oc oa (af.ai ⟨[(4,I (-1))],[]⟩ rfl (ab.ret (Fin.au ?_)))
   obtain rfl:=Option.some.inj h
   refine Fin.ag ⟨[(4,_)],[]⟩ rfl (Fin.aw [.one (.i (-1))] (.inl rfl) rfl (.cons (.tmp rfl) .nil) ⟨rfl,rfl⟩)
 ·refine ab.skip (Fin.ag ⟨[(0,_),(1,_),(6,_)],[]⟩ rfl (Fin.then (ab.seq (ab.seq (ab.aa ?_)))))
  refine Oc om (af.ai ⟨[(0,_),(1,_),(13,B x_2)],[]⟩ rfl (ab.ite h rfl (fun _ h=>?_) (fun _ h=>?_)))
  ·refine ab.seq (ab.aa ?_)
   refine Oc oa (af.ai ⟨[(4,I 1)],[]⟩ rfl (ab.ret (Fin.au ?_)))
   obtain rfl:=Option.some.inj h
   refine Fin.ag ⟨[(4,_)],[]⟩ rfl (Fin.aw [.one (.i 1)] (.inl rfl) rfl (.cons (.tmp rfl) .nil) ⟨rfl,rfl⟩)
  ·refine ab.skip (Fin.ag ⟨[(0,_),(1,_)],[]⟩ rfl (Fin.then (ab.seq (ab.seq (ab.aa ?_)))))
   refine Oc om (Oc om (Oc (bo rfl rfl) ?_))
   refine af.ai ⟨[(0,_),(1,_),(16,B (decide (x0 < y0)))],[]⟩ rfl (ab.ite h rfl (fun _ h=>?_) (fun _ h=>?_))
   ·refine ab.seq (ab.aa ?_)
    refine Oc oa (af.ai ⟨[(4,I (-1))],[]⟩ rfl (ab.ret (Fin.au ?_)))
    obtain rfl:=Option.some.inj h
    refine Fin.ag ⟨[(4,_)],[]⟩ rfl (Fin.aw [.one (.i (-1))] (.inl rfl) rfl (.cons (.tmp rfl) .nil) ⟨rfl,rfl⟩)
   ·refine ab.skip (Fin.ag ⟨[(0,_),(1,_)],[]⟩ rfl (Fin.then (ab.seq (ab.seq (ab.aa ?_)))))
    refine Oc om (Oc om (Oc (jQ rfl rfl) ?_))
    refine af.ai ⟨[(19,B (decide (y0 < x0)))],[]⟩ rfl (ab.ite h rfl (fun _ h=>?_) (fun _ h=>?_))
    ·refine ab.seq (ab.aa ?_)
     refine Oc oa (af.ai ⟨[(4,I 1)],[]⟩ rfl (ab.ret (Fin.au ?_)))
     obtain rfl:=Option.some.inj h
     refine Fin.ag ⟨[(4,_)],[]⟩ rfl (Fin.aw [.one (.i 1)] (.inl rfl) rfl (.cons (.tmp rfl) .nil) ⟨rfl,rfl⟩)
    ·refine ab.skip (Fin.ag ⟨[],[]⟩ rfl (Fin.then (ab.seq (ab.aa ?_))))
     refine Oc oa (af.ai ⟨[(4,I 0)],[]⟩ rfl (ab.ret ?_))
     obtain rfl:=Option.some.inj h
     refine Fin.ag ⟨[(4,_)],[]⟩ rfl (Fin.aw [.one (.i 0)] (.inl rfl) rfl (.cons (.tmp rfl) .nil) ⟨rfl,rfl⟩)
def fT (F:Nat) (a0:entry) (b0:entry):Option Int :=
 (dg F a0.id b0.id).bind fun x_1=>some x_1
theorem mK {F:Nat} {a0:entry} {b0:entry} {r:Int} (h:fT F a0 b0 = some r):an Tryz.prog [] 50 [] [.agg (aq a0),.agg (aq b0)] (Is [] (.b (.one (.i r)))):=by
 unfold fT at h
 refine an.intro 10 Tryz.func50 Tryz.ntmps50 rfl (by simp) fun E=>?_
 show ab _ E ⟨10,[],[],[]⟩ _ ⟨[(0,.b (.agg (aq a0))),(1,.b (.agg (aq b0)))],[]⟩ _
 refine ab.seq (ab.aa ?_)
 refine Oc (bD (k:=101) rfl rfl) (Oc (bD (k:=102) rfl rfl) (Oc oa ?_))
 refine af.ai ⟨[(2,Pt 101 0),(3,Pt 102 0)],[(101,.box 87 (aq a0)),(102,.box 87 (aq b0))]⟩ rfl (ab.seq (ab.aa ?_))
 refine Oc (ax dL rfl rfl) (Oc (aM aN rfl rfl rfl) (Oc (ax dL rfl rfl) (Oc (aM aN rfl rfl rfl) ?_)))
 obtain ⟨x_1,e1,h⟩:=aP h
 refine Oc (aj (fN e1) rl rfl rfl) (Oc oa ?_)
 refine af.ai ⟨[(4,I x_1)],[]⟩ rfl (ab.ret ?_)
 obtain rfl:=Option.some.inj h
 refine Fin.ag ⟨[(4,_)],[]⟩ rfl (Fin.aw [.one (.i x_1)] (.inl rfl) rfl (.cons (.tmp rfl) .nil) ⟨rfl,rfl⟩)
def dw (F:Nat) (s10:List Int) (s20:List Int):Option Int :=
 Option.bind (iter F (fun x_1=>if (decide (x_1 < (s10.length:Int))) = true then ((bd s10 x_1).bind fun x_2=>if (decide ((s20.length:Int) ≤ x_1)) = true then (some (.inr (.inr 1))) else ((bd s20 x_1).bind fun x_3=>(dg F x_2 x_3).bind fun x_4=>if (decide (x_4 ≠ 0)) = true then (some (.inr (.inr x_4))) else (some (.inl (IntKind.i64.wrap (x_1 + 1)))))) else (some (.inr (.inl ())))) 0) (cc (fun _=>if (decide ((s10.length:Int) < (s20.length:Int))) = true then (some (-1)) else (some 0)) (fun y=>some y))
theorem kH {F:Nat} {s10:List Int} {s20:List Int} {r:Int} (h:dw F s10 s20 = some r):an Tryz.prog [] 53 [] [.one (.sl 1 (s10.map eI)),.one (.sl 1 (s20.map eI))] (Is [] (.b (.one (.i r)))):=by
 unfold dw at h
 refine an.intro 36 Tryz.func53 Tryz.ntmps53 rfl (by simp) fun E=>?_
 show ab _ E ⟨36,[],[],[]⟩ _ ⟨[(0,.b (.one (.sl 1 (s10.map eI)))),(1,.b (.one (.sl 1 (s20.map eI))))],[]⟩ _
 refine ab.seq (ab.aa ?_)
 refine Oc oa (af.ai ⟨[(0,.b (.one (.sl 1 (s10.map eI)))),(1,.b (.one (.sl 1 (s20.map eI))))],[]⟩ rfl ?_)
 obtain ⟨v1,h2,h⟩:=aP h
 refine ab.dQ (v:=v1) (fun (_:Unit)=>⟨[(0,.b (.one (.sl 1 (s10.map eI)))),(1,.b (.one (.sl 1 (s20.map eI))))],[]⟩) (fun z=>.inl z) ?_ ?_
 ·refine ab.seq (ab.aa ?_)
  refine Oc om (Oc (a7 dU rfl (List.length_map _)) (Oc om ?_))
  refine af.ai ⟨[(0,_),(1,_),(9,.b (.one (.sl 1 (s10.map eI)))),(10,I (s10.length:Int)),(11,I 0)],[]⟩ rfl (ab.block (ab.c9 h2 (fun (x_1:Int)=>⟨[(0,.b (.one (.sl 1 (s10.map eI)))),(1,.b (.one (.sl 1 (s20.map eI)))),(9,.b (.one (.sl 1 (s10.map eI)))),(10,I (s10.length:Int)),(11,I x_1)],[]⟩) [0,1,9,10,11] [] rfl ?_))
  rintro x_1 o3 h4 hy5
  refine ab.seq (ab.aa ?_)
  refine Oc (bo rfl rfl) (af.ai ⟨[(0,_),(1,_),(9,_),(10,_),(11,_),(12,B (decide (x_1 < (s10.length:Int))))],[]⟩ rfl (ab.seq (ab.ite h4 rfl (fun _ h4=>?_) (fun _ h4=>?_))))
  ·refine ab.skip (Fin.ag ⟨[(0,_),(1,_),(9,_),(10,_),(11,_)],[]⟩ rfl (Fin.then (ab.seq (ab.block (ab.seq (ab.aa ?_))))))
   refine Oc om ?_
   obtain ⟨x_2,e6,h4⟩:=aP h4
   refine Oc (aY bK (a8 e6) (bQ (e:=eI) e6) rfl rfl) (Oc (ar aN rfl rfl) (Oc oa (Oc oa ?_)))
   refine af.ai ⟨[(0,_),(1,_),(5,I x_1),(6,I x_2),(9,_),(10,_),(11,_)],[]⟩ rfl (ab.seq (ab.seq (ab.aa ?_)))
   refine Oc om (Oc om (Oc (a7 dU rfl (List.length_map _)) (Oc (nE rfl rfl) ?_)))
   refine af.ai ⟨[(0,_),(1,_),(5,_),(6,_),(9,_),(10,_),(11,_),(19,B (decide ((s20.length:Int) ≤ x_1)))],[]⟩ rfl (ab.ite h4 rfl (fun _ h4=>?_) (fun _ h4=>?_))
   ·refine ab.seq (ab.aa ?_)
    refine Oc oa (af.ai ⟨[(4,I 1)],[]⟩ rfl (ab.ret (Fin.au (Fin.aO (Fin.au ?_)))))
    obtain rfl:=hy5 _ (Option.some.inj h4).symm
    refine Fin.au (Fin.aO (Fin.au ?_))
    obtain rfl:=Option.some.inj h
    refine Fin.ag ⟨[(4,_)],[]⟩ rfl (Fin.aw [.one (.i 1)] (.inl rfl) rfl (.cons (.tmp rfl) .nil) ⟨rfl,rfl⟩)
   ·refine ab.skip (Fin.ag ⟨[(0,_),(1,_),(5,_),(6,_),(9,_),(10,_),(11,_)],[]⟩ rfl (Fin.then (ab.seq (ab.aa ?_))))
    refine Oc om (Oc om ?_)
    obtain ⟨x_3,e7,h4⟩:=aP h4
    refine Oc (aY bK (a8 e7) (bQ (e:=eI) e7) rfl rfl) (Oc (ar aN rfl rfl) (Oc oa ?_))
    refine af.ai ⟨[(0,_),(1,_),(6,_),(7,I x_3),(9,_),(10,_),(11,_)],[]⟩ rfl (ab.seq (ab.aa ?_))
    refine Oc om (Oc om ?_)
    obtain ⟨x_4,e8,h4⟩:=aP h4
    refine Oc (aj (fN e8) rl rfl rfl) (Oc oa ?_)
    refine af.ai ⟨[(0,_),(1,_),(8,I x_4),(9,_),(10,_),(11,_)],[]⟩ rfl (ab.seq (ab.aa ?_))
    refine Oc om (Oc (iV rfl rfl) ?_)
    refine af.ai ⟨[(0,_),(1,_),(8,_),(9,_),(10,_),(11,_),(28,B (decide (x_4 ≠ 0)))],[]⟩ rfl (ab.ite h4 rfl (fun _ h4=>?_) (fun _ h4=>?_))
    ·refine ab.seq (ab.aa ?_)
     refine Oc om (Oc oa ?_)
     refine af.ai ⟨[(4,I x_4)],[]⟩ rfl (ab.ret (Fin.aO (Fin.au ?_)))
     obtain rfl:=hy5 _ (Option.some.inj h4).symm
     refine Fin.au (Fin.aO (Fin.au ?_))
     obtain rfl:=Option.some.inj h
     refine Fin.ag ⟨[(4,_)],[]⟩ rfl (Fin.aw [.one (.i x_4)] (.inl rfl) rfl (.cons (.tmp rfl) .nil) ⟨rfl,rfl⟩)
    ·refine ab.skip (Fin.av (Fin.ag ⟨[(0,_),(1,_),(9,_),(10,_),(11,_)],[]⟩ rfl (Fin.then (ab.aa ?_))))
     refine Oc (bu rfl rfl) (Oc om ?_)
     refine af.nil ?_
     exact Fin.cr [0,1,9,10,11] [] (IntKind.i64.wrap (x_1 + 1)) (Option.some.inj h4) rfl
  ·refine ab.exit (Fin.aD ?_)
   obtain rfl:=hy5 _ (Option.some.inj h4).symm
   refine Fin.aD (Fin.aV ?_)
   exact Fin.join [0,1] [] () rfl rfl
 ·rintro _ hv
  subst v1
  refine ab.seq (ab.seq (ab.aa ?_))
  refine Oc om (Oc (a7 dU rfl (List.length_map _)) (Oc om (Oc (a7 dU rfl (List.length_map _)) (Oc (bo rfl rfl) ?_))))
  refine af.ai ⟨[(35,B (decide ((s10.length:Int) < (s20.length:Int))))],[]⟩ rfl (ab.ite h rfl (fun _ h=>?_) (fun _ h=>?_))
  ·refine ab.seq (ab.aa ?_)
   refine Oc oa (af.ai ⟨[(4,I (-1))],[]⟩ rfl (ab.ret (Fin.au ?_)))
   obtain rfl:=Option.some.inj h
   refine Fin.ag ⟨[(4,_)],[]⟩ rfl (Fin.aw [.one (.i (-1))] (.inl rfl) rfl (.cons (.tmp rfl) .nil) ⟨rfl,rfl⟩)
  ·refine ab.skip (Fin.ag ⟨[],[]⟩ rfl (Fin.then (ab.seq (ab.aa ?_))))
   refine Oc oa (af.ai ⟨[(4,I 0)],[]⟩ rfl (ab.ret ?_))
   obtain rfl:=Option.some.inj h
   refine Fin.ag ⟨[(4,_)],[]⟩ rfl (Fin.aw [.one (.i 0)] (.inl rfl) rfl (.cons (.tmp rfl) .nil) ⟨rfl,rfl⟩)
def jV (F:Nat) (vals0:List Int):Option Int :=
 Option.bind (iter F (fun x_1=>if (decide (x_1 < (vals0.length:Int))) = true then ((bd vals0 x_1).bind fun x_2=>if (decide (x_2 ≠ 0)) = true then (some (.inr (.inr x_2))) else (some (.inl (IntKind.i64.wrap (x_1 + 1))))) else (some (.inr (.inl ())))) 0) (cc (fun _=>some 0) (fun y=>some y))
theorem qN {F:Nat} {vals0:List Int} {r:Int} (h:jV F vals0 = some r):an Tryz.prog [] 52 [] [.one (.sl 1 (vals0.map eI))] (Is [] (.b (.one (.i r)))):=by
 unfold jV at h
 refine an.intro 18 Tryz.func52 Tryz.ntmps52 rfl (by simp) fun E=>?_
 show ab _ E ⟨18,[],[],[]⟩ _ ⟨[(0,.b (.one (.sl 1 (vals0.map eI))))],[]⟩ _
 refine ab.seq (ab.aa ?_)
 refine Oc oa (af.ai ⟨[(0,.b (.one (.sl 1 (vals0.map eI))))],[]⟩ rfl (ab.seq (ab.aa ?_)))
 refine Oc oa (af.ai ⟨[(0,_),(3,I 0)],[]⟩ rfl ?_)
 obtain ⟨v1,h2,h⟩:=aP h
 refine ab.dQ (v:=v1) (fun (_:Unit)=>⟨[(3,I 0)],[]⟩) (fun z=>.inl z) ?_ ?_
 ·refine ab.seq (ab.aa ?_)
  refine Oc om (Oc (a7 dU rfl (List.length_map _)) (Oc om ?_))
  refine af.ai ⟨[(3,_),(6,.b (.one (.sl 1 (vals0.map eI)))),(7,I (vals0.length:Int)),(8,I 0)],[]⟩ rfl (ab.block (ab.c9 h2 (fun (x_1:Int)=>⟨[(3,I 0),(6,.b (.one (.sl 1 (vals0.map eI)))),(7,I (vals0.length:Int)),(8,I x_1)],[]⟩) [3,6,7,8] [] rfl ?_))
  rintro x_1 o3 h4 hy5
  refine ab.seq (ab.aa ?_)
  refine Oc (bo rfl rfl) (af.ai ⟨[(3,_),(6,_),(7,_),(8,_),(9,B (decide (x_1 < (vals0.length:Int))))],[]⟩ rfl (ab.seq (ab.ite h4 rfl (fun _ h4=>?_) (fun _ h4=>?_))))
  ·refine ab.skip (Fin.ag ⟨[(3,_),(6,_),(7,_),(8,_)],[]⟩ rfl (Fin.then (ab.seq (ab.block (ab.seq (ab.aa ?_))))))
   obtain ⟨x_2,e6,h4⟩:=aP h4
   refine Oc (aY bK (a8 e6) (bQ (e:=eI) e6) rfl rfl) (Oc (ar aN rfl rfl) (Oc oa ?_))
   refine af.ai ⟨[(3,_),(5,I x_2),(6,_),(7,_),(8,_)],[]⟩ rfl (ab.seq (ab.aa ?_))
   refine Oc om (Oc om (Oc (iV rfl rfl) ?_))
   refine af.ai ⟨[(3,_),(5,_),(6,_),(7,_),(8,_),(14,B (decide (x_2 ≠ 0)))],[]⟩ rfl (ab.ite h4 rfl (fun _ h4=>?_) (fun _ h4=>?_))
   ·refine ab.seq (ab.aa ?_)
    refine Oc om (Oc oa ?_)
    refine af.ai ⟨[(2,I x_2)],[]⟩ rfl (ab.ret (Fin.aO (Fin.au ?_)))
    obtain rfl:=hy5 _ (Option.some.inj h4).symm
    refine Fin.au (Fin.aO (Fin.au ?_))
    obtain rfl:=Option.some.inj h
    refine Fin.ag ⟨[(2,_)],[]⟩ rfl (Fin.aw [.one (.i x_2)] (.inl rfl) rfl (.cons (.tmp rfl) .nil) ⟨rfl,rfl⟩)
   ·refine ab.skip (Fin.av (Fin.ag ⟨[(3,_),(6,_),(7,_),(8,_)],[]⟩ rfl (Fin.then (ab.aa ?_))))
    refine Oc (bu rfl rfl) (Oc om ?_)
    refine af.nil ?_
    exact Fin.cr [3,6,7,8] [] (IntKind.i64.wrap (x_1 + 1)) (Option.some.inj h4) rfl
  ·refine ab.exit (Fin.aD ?_)
   obtain rfl:=hy5 _ (Option.some.inj h4).symm
   refine Fin.aD (Fin.aV ?_)
   exact Fin.join [3] [] () rfl rfl
 ·rintro _ hv
  subst v1
  refine ab.seq (ab.aa ?_)
  refine Oc om (Oc oa ?_)
  refine af.ai ⟨[(2,I 0)],[]⟩ rfl (ab.ret ?_)
  obtain rfl:=Option.some.inj h
  refine Fin.ag ⟨[(2,_)],[]⟩ rfl (Fin.aw [.one (.i 0)] (.inl rfl) rfl (.cons (.tmp rfl) .nil) ⟨rfl,rfl⟩)
def fS (F:Nat) (a0:entry) (b0:entry):Option Int :=
 (dw F a0.b.Lo.l b0.b.Lo.l).bind fun x_1=>(dg F a0.id b0.id).bind fun x_2=>(jV F [x_1,x_2]).bind fun x_3=>some x_3
theorem mJ {F:Nat} {a0:entry} {b0:entry} {r:Int} (h:fS F a0 b0 = some r):an Tryz.prog [] 51 [] [.agg (aq a0),.agg (aq b0)] (Is [] (.b (.one (.i r)))):=by
 unfold fS at h
 refine an.intro 19 Tryz.func51 Tryz.ntmps51 rfl (by simp) fun E=>?_
 show ab _ E ⟨19,[],[],[]⟩ _ ⟨[(0,.b (.agg (aq a0))),(1,.b (.agg (aq b0)))],[]⟩ _
 refine ab.seq (ab.aa ?_)
 refine Oc (lQ rfl) (Oc (lQ rfl) (Oc oa ?_))
 refine af.ai ⟨[(2,.b (.aL (aq a0))),(3,.b (.aL (aq b0)))],[]⟩ rfl (ab.seq ?_)
 obtain ⟨x_1,e1,h⟩:=aP h
 obtain ⟨x_2,e2,h⟩:=aP h
 obtain ⟨x_3,e3,h⟩:=aP h
 refine ab.b4 mixed 15 [.b (.aL (ao a0.b)),.b (.aL (ao a0.b)),.b (.one (.sl 1 (a0.b.Lo.l.map eI))),.b (.aL (ao b0.b)),.b (.aL (ao b0.b)),.b (.one (.sl 1 (b0.b.Lo.l.map eI))),I x_1,.b (.aL (aq a0)),I a0.id,.b (.aL (aq b0)),I b0.id,I x_2,.b (.one (.sl 1 ([x_1,x_2].map eI))),I x_3,I x_3] [4] [] (s':=⟨[(4,I x_3)],[]⟩) rfl ⟨fun _=>by exact .p (aF gF rfl rfl),fun _=>by exact .p (aF c7 rfl rfl),fun _=>.p (mX (xs:=a0.b.Lo.l) (enc:=eI) cg rfl rfl rfl (fun _=>rfl) (by rw [ff]; decide)),fun _=>by exact .p (aF gF rfl rfl),fun _=>by exact .p (aF c7 rfl rfl),fun _=>.p (mX (xs:=b0.b.Lo.l) (enc:=eI) cg rfl rfl rfl (fun _=>rfl) (by rw [ff]; decide)),fun _=>.p (aj (kH e1) goes53 rfl rfl),fun _=>by exact .p (aF dL rfl rfl),fun _=>.p (ar aN rfl rfl),fun _=>by exact .p (aF dL rfl rfl),fun _=>.p (ar aN rfl rfl),fun _=>.p (aj (fN e2) rl rfl rfl),fun _=>.p (dv (es:=[x_1,x_2].map eI) bK rfl rfl (cG fun _=>rfl) rfl (by decide) (by decide)),fun _=>.p (aj (qN e3) goes52 rfl rfl),fun _=>.p oa,trivial⟩ rfl rfl (ab.ret ?_)
 obtain rfl:=Option.some.inj h
 refine Fin.ag ⟨[(4,_)],[]⟩ rfl (Fin.aw [.one (.i x_3)] (.inl rfl) rfl (.cons (.tmp rfl) .nil) ⟨rfl,rfl⟩)
def fv (F:Nat) (fn0:Nat) (a0:entry) (b0:entry):Option Int :=
 if fn0 = 50 then fT F a0 b0 else if fn0 = 51 then fS F a0 b0 else none
theorem oe {F:Nat} {fn0:Nat} {a0:entry} {b0:entry} {r:Int} (h:fv F fn0 a0 b0 = some r):an Tryz.prog [] fn0 [] [.agg (aq a0),.agg (aq b0)] (Is [] (.b (.one (.i r)))):=by
 unfold fv at h
 split at h
 ·next e=>subst e; exact mK h
 ·next=>
  split at h
  ·next e=>subst e; exact mJ h
  ·next=>
   simp at h
theorem og {F:Nat} {fn0:Nat} {a0:entry} {b0:entry} {r:Int} (h:fv F fn0 a0 b0 = some r):bn Tryz.prog fn0:=by
 unfold fv at h
 split at h
 ·next e=>subst e; exact goes50
 ·next=>
  split at h
  ·next e=>subst e; exact goes51
  ·next=>
   simp at h
theorem qy {F:Nat} {fn0:Nat} {a0:entry} {b0:entry} {r:Int} (h:fv F fn0 a0 b0 = some r):fn0 ≠ 0:=by
 rintro rfl
 exact absurd h (by simp [fv])
def cf (F:Nat) (b0:cn):Option Bool :=
 Option.bind (iter F (fun x_1=>if (decide (x_1 < 3)) = true then ((bd b0.Lo.l x_1).bind fun x_2=>(bd b0.Hi.l x_1).bind fun x_3=>(bJ (!(decide (x_3 < x_2))) (bd b0.Lo.l x_1)).bind fun x_4=>(bJ (!((decide (x_3 < x_2)) || (decide (x_4 < (-1125899906842624))))) (bd b0.Hi.l x_1)).bind fun x_5=>if (((decide (x_3 < x_2)) || (decide (x_4 < (-1125899906842624)))) || (decide (1125899906842624 < x_5))) = true then (some (.inr (.inr false))) else (some (.inl (IntKind.i64.wrap (x_1 + 1))))) else (some (.inr (.inl ())))) 0) (cc (fun _=>some true) (fun y=>some y))
theorem cQ {F:Nat} {b0:cn} {r:Bool} (h:cf F b0 = some r):an Tryz.prog [] 14 [] [.agg (ao b0)] (Is [] (.b (.one (.bool r)))):=by
 unfold cf at h
 refine an.intro 31 Tryz.func14 Tryz.ntmps14 rfl (by simp) fun E=>?_
 show ab _ E ⟨31,[],[],[]⟩ _ ⟨[(0,.b (.agg (ao b0)))],[]⟩ _
 refine ab.seq (ab.aa ?_)
 refine Oc (bD (k:=101) rfl rfl) (Oc oa ?_)
 refine af.ai ⟨[(1,Pt 101 0)],[(101,.box 25 (ao b0))]⟩ rfl ?_
 obtain ⟨v1,h2,h⟩:=aP h
 refine ab.dQ (v:=v1) (fun (_:Unit)=>⟨[],[]⟩) (fun z=>.inl z) ?_ ?_
 ·refine ab.seq (ab.aa ?_)
  refine Oc om (af.ai ⟨[(1,_),(4,I 0)],[(101,_)]⟩ rfl (ab.block (ab.c9 h2 (fun (x_1:Int)=>⟨[(1,Pt 101 0),(4,I x_1)],[(101,.box 25 (ao b0))]⟩) [1,4] [101] rfl ?_)))
  rintro x_1 o3 h4 hy5
  refine ab.seq (ab.aa ?_)
  refine Oc (bo rfl rfl) (af.ai ⟨[(1,_),(4,_),(5,B (decide (x_1 < 3)))],[(101,_)]⟩ rfl (ab.seq (ab.ite h4 rfl (fun _ h4=>?_) (fun _ h4=>?_))))
  ·refine ab.skip (Fin.ag ⟨[(1,_),(4,_)],[(101,_)]⟩ rfl (Fin.then (ab.seq (ab.block (ab.seq (ab.aa ?_))))))
   refine Oc om (Oc oa ?_)
   refine af.ai ⟨[(1,_),(3,I x_1),(4,_)],[(101,_)]⟩ rfl (ab.seq ?_)
   obtain ⟨x_2,e6,h4⟩:=aP h4
   obtain ⟨x_3,e7,h4⟩:=aP h4
   obtain ⟨x_4,e11,h4⟩:=aP h4
   obtain ⟨x_5,e17,h4⟩:=aP h4
   refine ab.b4 mixed 23 [I x_1,Pt 101 0,.b (.ptr 101 (0 + (x_1:Int).toNat * 1)),I x_2,I x_1,Pt 101 3,.b (.ptr 101 (3 + (x_1:Int).toNat * 1)),I x_3,B (decide (x_3 < x_2)),B (decide (x_3 < x_2)),.opt (!(decide (x_3 < x_2))) (.one (.i x_1)),.opt (!(decide (x_3 < x_2))) (.ptr 101 0),.opt (!(decide (x_3 < x_2))) (.ptr 101 (0 + (x_1:Int).toNat * 1)),.opt (!(decide (x_3 < x_2))) (.one (.i x_4)),.opt (!(decide (x_3 < x_2))) (.one (.bool (decide (x_4 < (-1125899906842624))))),B ((decide (x_3 < x_2)) || (decide (x_4 < (-1125899906842624)))),B ((decide (x_3 < x_2)) || (decide (x_4 < (-1125899906842624)))),.opt (!((decide (x_3 < x_2)) || (decide (x_4 < (-1125899906842624))))) (.one (.i x_1)),.opt (!((decide (x_3 < x_2)) || (decide (x_4 < (-1125899906842624))))) (.ptr 101 3),.opt (!((decide (x_3 < x_2)) || (decide (x_4 < (-1125899906842624))))) (.ptr 101 (3 + (x_1:Int).toNat * 1)),.opt (!((decide (x_3 < x_2)) || (decide (x_4 < (-1125899906842624))))) (.one (.i x_5)),.opt (!((decide (x_3 < x_2)) || (decide (x_4 < (-1125899906842624))))) (.one (.bool (decide (1125899906842624 < x_5)))),B (((decide (x_3 < x_2)) || (decide (x_4 < (-1125899906842624)))) || (decide (1125899906842624 < x_5)))] [1,4,29] [101] (s':=⟨[(1,_),(4,_),(29,B (((decide (x_3 < x_2)) || (decide (x_4 < (-1125899906842624)))) || (decide (1125899906842624 < x_5))))],[(101,_)]⟩) rfl ⟨fun _=>.p om,fun _=>.p (ax c7 rfl rfl),fun _=>.p (bj cg (a8 e6) (dJ e6) rfl rfl rfl),fun _=>.p (aM aN rfl rfl (dC (post:=((cO .i64) b0.Hi)) (k:=.i64) [] e6 rfl rfl rfl)),fun _=>.p om,fun _=>.p (ax c6 rfl rfl),fun _=>.p (bj cg (a8 e7) (dJ e7) rfl rfl rfl),fun _=>.p (aM aN rfl rfl (dC (post:=[]) (k:=.i64) ((cO .i64) b0.Lo) e7 rfl rfl rfl)),fun _=>.p (jQ rfl rfl),fun _=>.p om,fun _=>by exact .guard (!(decide (x_3 < x_2))) 1 [] (.plain rfl) (dZ _) rfl rfl (fun g8=>trivial) (fun g8=>om),fun _=>by exact .guard (!(decide (x_3 < x_2))) 1 [] (.plain rfl) (dZ _) rfl rfl (fun g9=>trivial) (fun g9=>ax c7 rfl rfl),fun _=>by exact .guard (!(decide (x_3 < x_2))) 3 [17,18] (.plain rfl) (dZ _) rfl rfl (fun g10=>⟨g10,g10,trivial⟩) (fun g10=>bj cg (a8 (gc e11 g10)) (dJ (gc e11 g10)) rfl rfl rfl),fun _=>by exact .guard (!(decide (x_3 < x_2))) 2 [19] (.plain rfl) (dZ _) rfl rfl (fun g12=>⟨g12,trivial⟩) (fun g12=>aM aN rfl rfl (dC (post:=((cO .i64) b0.Hi)) (k:=.i64) [] (gc e11 g12) rfl rfl rfl)),fun _=>by exact .guard (!(decide (x_3 < x_2))) 2 [20] (.plain rfl) (dZ _) rfl rfl (fun g13=>⟨g13,trivial⟩) (fun g13=>bo rfl rfl),fun _=>.p (cU (fun e=>by first | (rw [e]; rfl) | (simp only at e; rw [e]; rfl)) rfl rfl rfl rfl),fun _=>.p om,fun _=>by exact .guard (!((decide (x_3 < x_2)) || (decide (x_4 < (-1125899906842624))))) 1 [] (.plain rfl) (dZ _) rfl rfl (fun g14=>trivial) (fun g14=>om),fun _=>by exact .guard (!((decide (x_3 < x_2)) || (decide (x_4 < (-1125899906842624))))) 1 [] (.plain rfl) (dZ _) rfl rfl (fun g15=>trivial) (fun g15=>ax c6 rfl rfl),fun _=>by exact .guard (!((decide (x_3 < x_2)) || (decide (x_4 < (-1125899906842624))))) 3 [24,25] (.plain rfl) (dZ _) rfl rfl (fun g16=>⟨g16,g16,trivial⟩) (fun g16=>bj cg (a8 (gc e17 g16)) (dJ (gc e17 g16)) rfl rfl rfl),fun _=>by exact .guard (!((decide (x_3 < x_2)) || (decide (x_4 < (-1125899906842624))))) 2 [26] (.plain rfl) (dZ _) rfl rfl (fun g18=>⟨g18,trivial⟩) (fun g18=>aM aN rfl rfl (dC (post:=[]) (k:=.i64) ((cO .i64) b0.Lo) (gc e17 g18) rfl rfl rfl)),fun _=>by exact .guard (!((decide (x_3 < x_2)) || (decide (x_4 < (-1125899906842624))))) 2 [27] (.plain rfl) (dZ _) rfl rfl (fun g19=>⟨g19,trivial⟩) (fun g19=>jQ rfl rfl),fun _=>.p (cU (fun e=>by first | (rw [e]; rfl) | (simp only at e; rw [e]; rfl)) rfl rfl rfl rfl),trivial⟩ rfl rfl ?_
   refine ab.ite h4 rfl (fun _ h4=>?_) (fun _ h4=>?_)
   ·refine ab.seq (ab.aa ?_)
    refine Oc oa (af.ai ⟨[(2,B false)],[]⟩ rfl (ab.ret (Fin.aO (Fin.au ?_))))
    obtain rfl:=hy5 _ (Option.some.inj h4).symm
    refine Fin.au (Fin.aO (Fin.au ?_))
    obtain rfl:=Option.some.inj h
    refine Fin.ag ⟨[(2,_)],[]⟩ rfl (Fin.aw [.one (.bool false)] (.inl rfl) rfl (.cons (.tmp rfl) .nil) ⟨rfl,rfl⟩)
   ·refine ab.skip (Fin.av (Fin.ag ⟨[(1,_),(4,_)],[(101,_)]⟩ rfl (Fin.then (ab.aa ?_))))
    refine Oc (bu rfl rfl) (Oc om ?_)
    refine af.nil ?_
    exact Fin.cr [1,4] [101] (IntKind.i64.wrap (x_1 + 1)) (Option.some.inj h4) rfl
  ·refine ab.exit (Fin.aD ?_)
   obtain rfl:=hy5 _ (Option.some.inj h4).symm
   refine Fin.aD (Fin.aV ?_)
   exact Fin.join [] [] () rfl rfl
 ·rintro _ hv
  subst v1
  refine ab.seq (ab.aa ?_)
  refine Oc oa (af.ai ⟨[(2,B true)],[]⟩ rfl (ab.ret ?_))
  obtain rfl:=Option.some.inj h
  refine Fin.ag ⟨[(2,_)],[]⟩ rfl (Fin.aw [.one (.bool true)] (.inl rfl) rfl (.cons (.tmp rfl) .nil) ⟨rfl,rfl⟩)
def gp (F:Nat) (b0:cn):Option Bool :=
 (cf F b0).bind fun x_1=>some (!x_1)
theorem lx {F:Nat} {b0:cn} {r:Bool} (h:gp F b0 = some r):an Tryz.prog [] 41 [] [.agg (ao b0)] (Is [] (.b (.one (.bool r)))):=by
 unfold gp at h
 refine an.intro 6 Tryz.func41 Tryz.ntmps41 rfl (by simp) fun E=>?_
 show ab _ E ⟨6,[],[],[]⟩ _ ⟨[(0,.b (.agg (ao b0)))],[]⟩ _
 refine ab.seq (ab.aa ?_)
 refine Oc (bD (k:=101) rfl rfl) (Oc oa ?_)
 refine af.ai ⟨[(1,Pt 101 0)],[(101,.box 25 (ao b0))]⟩ rfl (ab.seq (ab.aa ?_))
 refine Oc (lp aE) ?_
 obtain ⟨x_1,e1,h⟩:=aP h
 refine Oc (aj (cQ e1) me rfl rfl) (Oc (ee rfl) (Oc oa ?_))
 refine af.ai ⟨[(2,B (!x_1))],[]⟩ rfl (ab.ret ?_)
 obtain rfl:=Option.some.inj h
 refine Fin.ag ⟨[(2,_)],[]⟩ rfl (Fin.aw [.one (.bool (!x_1))] (.inl rfl) rfl (.cons (.tmp rfl) .nil) ⟨rfl,rfl⟩)
def jW (F:Nat) (fn0:Nat) (b0:cn):Option Bool :=
 if fn0 = 41 then gp F b0 else none
theorem qQ {F:Nat} {fn0:Nat} {b0:cn} {r:Bool} (h:jW F fn0 b0 = some r):an Tryz.prog [] fn0 [] [.agg (ao b0)] (Is [] (.b (.one (.bool r)))):=by
 unfold jW at h
 split at h
 ·next e=>subst e; exact lx h
 ·next=>
  simp at h
theorem qR {F:Nat} {fn0:Nat} {b0:cn} {r:Bool} (h:jW F fn0 b0 = some r):bn Tryz.prog fn0:=by
 unfold jW at h
 split at h
 ·next e=>subst e; exact goes41
 ·next=>
  simp at h
def gn (F:Nat) (n0:cH bb):Option Bool :=
 some n0.cY
theorem lv {F:Nat} {n0:cH bb} {r:Bool} (h:gn F n0 = some r):an Tryz.prog [] 123 [] [.one (.tr ae n0)] (Is [] (.b (.one (.bool r)))):=by
 unfold gn at h
 refine an.intro 5 Tryz.func123 Tryz.ntmps123 rfl (by simp) fun E=>?_
 show ab _ E ⟨5,[],[],[]⟩ _ ⟨[(0,.b (.one (.tr ae n0)))],[]⟩ _
 refine ab.seq (ab.aa ?_)
 refine Oc oa (af.ai ⟨[(0,.b (.one (.tr ae n0)))],[]⟩ rfl (ab.seq (ab.aa ?_)))
 refine Oc om (Oc (fh k5 rfl) (Oc oa ?_))
 refine af.ai ⟨[(2,B n0.cY)],[]⟩ rfl (ab.ret ?_)
 obtain rfl:=Option.some.inj h
 refine Fin.ag ⟨[(2,_)],[]⟩ rfl (Fin.aw [.one (.bool n0.cY)] (.inl rfl) rfl (.cons (.tmp rfl) .nil) ⟨rfl,rfl⟩)
def gG (F:Nat) (fn0:Nat) (n0:cH bb):Option Bool :=
 if fn0 = 123 then gn F n0 else none
theorem lU {F:Nat} {fn0:Nat} {n0:cH bb} {r:Bool} (h:gG F fn0 n0 = some r):an Tryz.prog [] fn0 [] [.one (.tr ae n0)] (Is [] (.b (.one (.bool r)))):=by
 unfold gG at h
 split at h
 ·next e=>subst e; exact lv h
 ·next=>
  simp at h
theorem lV {F:Nat} {fn0:Nat} {n0:cH bb} {r:Bool} (h:gG F fn0 n0 = some r):bn Tryz.prog fn0:=by
 unfold gG at h
 split at h
 ·next e=>subst e; exact goes123
 ·next=>
  simp at h
def gE (F:Nat) (b0:cn) (n0:Int):Option (cn × Int) :=
 (cf F b0).bind fun x_1=>ez (((!x_1) || (decide (n0 < 0))) || (decide (2251799813685248 < n0))) fun x_2=>if x_2 = true then (some ((⟨A3.zero,A3.zero⟩:cn),1)) else (Option.bind (iter F (dX fun b_4 x_5=>if (decide (x_5 < 3)) = true then ((bd b_4.Lo.l x_5).bind fun x_7=>(bd b_4.Lo.l x_5).bind fun x_8=>(bd b_4.Hi.l x_5).bind fun x_9=>(bd b_4.Hi.l x_5).bind fun x_10=>some (.inl ((⟨b_4.Lo.set x_5 (IntKind.i64.wrap (x_7 - n0)),b_4.Hi.set x_5 (IntKind.i64.wrap (x_9 + n0))⟩:cn),IntKind.i64.wrap (x_5 + 1)))) else (some (.inr b_4))) (b0,0)) (fun b_3=>(cf F b_3).bind fun x_11=>if (!x_11) = true then (some ((⟨A3.zero,A3.zero⟩:cn),1)) else (some (b_3,0))))
theorem jw {F:Nat} {b0:cn} {n0:Int} {r:cn × Int} (h:gE F b0 n0 = some r):an Tryz.prog [] 11 [] [.agg (ao b0),.one (.i n0)] (Is [] (.dY [.agg (ao r.1),.one (.i r.2)])):=by
 unfold gE at h
 refine an.intro 44 Tryz.func11 Tryz.ntmps11 rfl (by simp) fun E=>?_
 show ab _ E ⟨44,[],[],[]⟩ _ ⟨[(0,.b (.agg (ao b0))),(1,I n0)],[]⟩ _
 refine ab.seq (ab.aa ?_)
 refine Oc (bD (k:=101) rfl rfl) (Oc (aW (k:=102) fy rfl) (Oc oa ?_))
 refine af.ai ⟨[(1,I n0),(2,Pt 101 0),(4,Pt 102 0)],[(101,.box 25 (ao b0)),(102,.box 25 ((cO .i64) A3.zero ++ ((cO .i64) A3.zero)))]⟩ rfl (ab.seq (ab.seq (ab.aa ?_)))
 refine Oc (lp aE) ?_
 obtain ⟨x_1,e1,h⟩:=aP h
 refine Oc (aj (cQ e1) me rfl rfl) (Oc (ee rfl) (Oc om ?_))
 refine tm (!(!x_1)) [] (fun g2=>trivial) (fun g2=>om) (af.ag ⟨[(1,_),(2,_),(4,_),(10,B (!x_1)),(11,.opt (!(!x_1)) (.one (.i n0)))],[(101,_),(102,_)]⟩ rfl (tm (!(!x_1)) [11] (fun g3=>by exact ⟨g3,trivial⟩) (fun g3=>bo rfl rfl) (Oc (cU (fun e=>by first | (rw [e]; rfl) | (simp only at e; rw [e]; rfl)) rfl rfl rfl rfl) (Oc om ?_))))
 refine tm (!((!x_1) || (decide (n0 < 0)))) [] (fun g4=>trivial) (fun g4=>om) (tm (!((!x_1) || (decide (n0 < 0)))) [15] (fun g5=>by exact ⟨g5,trivial⟩) (fun g5=>jQ rfl rfl) (af.mO h rfl (cU (fun e=>by first | (rw [e]; rfl) | (simp only at e; rw [e]; rfl)) rfl rfl rfl rfl) (fun x_2 h=>?_)))
 refine af.ai ⟨[(1,_),(2,_),(4,_),(17,B x_2)],[(101,_),(102,_)]⟩ rfl (ab.ite h rfl (fun _ h=>?_) (fun _ h=>?_))
 ·refine ab.seq (ab.aa ?_)
  refine Oc (cE mi rfl rfl) (Oc (az aE rfl rfl rfl rfl (Nat.le_of_ble_eq_true rfl) rfl) (Oc oa ?_))
  refine af.ai ⟨[(4,_),(5,I 1)],[(102,_)]⟩ rfl (ab.ret (Fin.au ?_))
  obtain rfl:=Option.some.inj h
  refine Fin.ag ⟨[(4,_),(5,_)],[(102,_)]⟩ rfl (Fin.aw [.agg ((cO .i64) A3.zero ++ ((cO .i64) A3.zero)),.one (.i 1)] (.inl rfl) rfl (.cons (.agg aE rfl rfl rfl rfl) (.cons (.tmp rfl) .nil)) ⟨rfl,rfl⟩)
 ·refine ab.skip (Fin.ag ⟨[(1,_),(2,_),(4,_)],[(101,_),(102,_)]⟩ rfl (Fin.then ?_))
  obtain ⟨v6,h7,h⟩:=aP h
  refine ab.dQ (v:=v6) (fun (b_3:cn)=>⟨[(2,Pt 101 0),(4,Pt 102 0)],[(101,.box 25 (ao b_3)),(102,.box 25 ((cO .i64) A3.zero ++ ((cO .i64) A3.zero)))]⟩) (fun z=>z) ?_ ?_
  ·refine ab.seq (ab.aa ?_)
   refine Oc om (af.ai ⟨[(1,_),(2,_),(4,_),(19,I 0)],[(101,_),(102,_)]⟩ rfl (ab.block (ab.c9 h7 (dX fun (b_4:cn) (x_5:Int)=>⟨[(1,I n0),(2,Pt 101 0),(4,Pt 102 0),(19,I x_5)],[(101,.box 25 (ao b_4)),(102,.box 25 ((cO .i64) A3.zero ++ ((cO .i64) A3.zero)))]⟩) [1,2,4,19] [101,102] rfl ?_)))
   rintro ⟨b_4,x_5⟩ o8 h9 hy10
   refine ab.seq (ab.aa ?_)
   refine Oc (bo rfl rfl) (af.ai ⟨[(1,_),(2,_),(4,_),(19,_),(20,B (decide (x_5 < 3)))],[(101,_),(102,_)]⟩ rfl (ab.seq (ab.ite h9 rfl (fun _ h9=>?_) (fun _ h9=>?_))))
   ·refine ab.skip (Fin.ag ⟨[(1,_),(2,_),(4,_),(19,_)],[(101,_),(102,_)]⟩ rfl (Fin.then (ab.seq (ab.block (ab.seq (ab.aa ?_))))))
    refine Oc om (Oc oa ?_)
    refine af.ai ⟨[(1,_),(2,_),(4,_),(6,I x_5),(19,_)],[(101,_),(102,_)]⟩ rfl (ab.seq (ab.aa ?_))
    refine Oc om (Oc (ax c7 rfl rfl) ?_)
    obtain ⟨x_7,e11,h9⟩:=aP h9
    refine Oc (bj cg (a8 e11) (dJ e11) rfl rfl rfl) (Oc (aM aN rfl rfl (dC (post:=((cO .i64) b_4.Hi)) (k:=.i64) [] e11 rfl rfl rfl)) (Oc om (Oc (tG rfl rfl) (Oc (ax c7 rfl rfl) ?_))))
    obtain ⟨x_8,e12,h9⟩:=aP h9
    refine Oc (bj cg (a8 e12) (dJ e12) rfl rfl rfl) (Oc (ek aN rfl rfl rfl (pq (post:=((cO .i64) b_4.Hi)) (k:=.i64) [] e12 rfl rfl rfl) (nu (post:=((cO .i64) b_4.Hi)) (k:=.i64) [] e12 rfl rfl (A3.pW b_4.Lo x_5 (IntKind.i64.wrap (x_7 - n0))) rfl rfl)) ?_)
    refine af.ai ⟨[(1,_),(2,_),(4,_),(6,_),(19,_)],[(101,.box 25 ((cO .i64) (b_4.Lo.set x_5 (IntKind.i64.wrap (x_7 - n0))) ++ ((cO .i64) b_4.Hi))),(102,_)]⟩ rfl (ab.aa (Oc om (Oc (ax c6 rfl rfl) ?_)))
    obtain ⟨x_9,e13,h9⟩:=aP h9
    refine Oc (bj cg (a8 e13) (dJ e13) rfl rfl rfl) (Oc (aM aN rfl rfl (dC (post:=[]) (k:=.i64) ((cO .i64) (b_4.Lo.set x_5 (IntKind.i64.wrap (x_7 - n0)))) e13 rfl rfl rfl)) (Oc om (Oc (bu rfl rfl) (Oc (ax c6 rfl rfl) ?_))))
    obtain ⟨x_10,e14,h9⟩:=aP h9
    refine Oc (bj cg (a8 e14) (dJ e14) rfl rfl rfl) (Oc (ek aN rfl rfl rfl (pq (post:=[]) (k:=.i64) ((cO .i64) (b_4.Lo.set x_5 (IntKind.i64.wrap (x_7 - n0)))) e14 rfl rfl rfl) (nu (post:=[]) (k:=.i64) ((cO .i64) (b_4.Lo.set x_5 (IntKind.i64.wrap (x_7 - n0)))) e14 rfl rfl (A3.pW b_4.Hi x_5 (IntKind.i64.wrap (x_9 + n0))) rfl rfl)) ?_)
    refine af.nil (Fin.av (Fin.ag ⟨[(1,_),(2,_),(4,_),(19,_)],[(101,.box 25 ((cO .i64) (b_4.Lo.set x_5 (IntKind.i64.wrap (x_7 - n0))) ++ ((cO .i64) (b_4.Hi.set x_5 (IntKind.i64.wrap (x_9 + n0)))))),(102,_)]⟩ rfl (Fin.then (ab.aa ?_))))
    refine Oc (bu rfl rfl) (Oc om ?_)
    refine af.nil ?_
    exact Fin.cr [1,2,4,19] [101,102] ((⟨b_4.Lo.set x_5 (IntKind.i64.wrap (x_7 - n0)),b_4.Hi.set x_5 (IntKind.i64.wrap (x_9 + n0))⟩:cn),IntKind.i64.wrap (x_5 + 1)) (Option.some.inj h9) rfl
   ·refine ab.exit (Fin.aD ?_)
    obtain rfl:=hy10 _ (Option.some.inj h9).symm
    refine Fin.aD (Fin.aV ?_)
    exact Fin.join [2,4] [101,102] b_4 rfl rfl
  ·rintro b_3 hv
   subst v6
   refine ab.seq (ab.seq (ab.aa ?_))
   refine Oc (lp aE) ?_
   obtain ⟨x_11,e15,h⟩:=aP h
   refine Oc (aj (cQ e15) me rfl rfl) (Oc (ee rfl) ?_)
   refine af.ai ⟨[(2,_),(4,_),(41,B (!x_11))],[(101,_),(102,_)]⟩ rfl (ab.ite h rfl (fun _ h=>?_) (fun _ h=>?_))
   ·refine ab.seq (ab.aa ?_)
    refine Oc (cE mi rfl rfl) (Oc (az aE rfl rfl rfl rfl (Nat.le_of_ble_eq_true rfl) rfl) (Oc oa ?_))
    refine af.ai ⟨[(4,_),(5,I 1)],[(102,_)]⟩ rfl (ab.ret (Fin.au ?_))
    obtain rfl:=Option.some.inj h
    refine Fin.ag ⟨[(4,_),(5,_)],[(102,_)]⟩ rfl (Fin.aw [.agg ((cO .i64) A3.zero ++ ((cO .i64) A3.zero)),.one (.i 1)] (.inl rfl) rfl (.cons (.agg aE rfl rfl rfl rfl) (.cons (.tmp rfl) .nil)) ⟨rfl,rfl⟩)
   ·refine ab.skip (Fin.ag ⟨[(2,_),(4,_)],[(101,_),(102,_)]⟩ rfl (Fin.then (ab.seq (ab.aa ?_))))
    refine Oc (lp aE) (Oc (az aE rfl rfl rfl rfl (Nat.le_of_ble_eq_true rfl) rfl) (Oc oa ?_))
    refine af.ai ⟨[(4,_),(5,I 0)],[(102,.box 25 (ao b_3))]⟩ rfl (ab.ret ?_)
    obtain rfl:=Option.some.inj h
    refine Fin.ag ⟨[(4,_),(5,_)],[(102,_)]⟩ rfl (Fin.aw [.agg (ao b_3),.one (.i 0)] (.inl rfl) rfl (.cons (.agg aE rfl rfl rfl rfl) (.cons (.tmp rfl) .nil)) ⟨rfl,rfl⟩)
def bS (F:Nat) (a0:Int) (b0:Int) (c0:Int) (d0:Int) (e0:Int) (f0:Int):Option cn :=
 ez (⟨(⟨a0,b0,c0⟩:A3),(⟨d0,e0,f0⟩:A3)⟩:cn) fun x_1=>some x_1
theorem cm {F:Nat} {a0:Int} {b0:Int} {c0:Int} {d0:Int} {e0:Int} {f0:Int} {r:cn} (h:bS F a0 b0 c0 d0 e0 f0 = some r):an Tryz.prog [] 39 [] [.one (.i a0),.one (.i b0),.one (.i c0),.one (.i d0),.one (.i e0),.one (.i f0)] (Is [] (.b (.agg (ao r)))):=by
 unfold bS at h
 refine an.intro 22 Tryz.func39 Tryz.ntmps39 rfl (by simp) fun E=>?_
 show ab _ E ⟨22,[],[],[]⟩ _ ⟨[(0,I a0),(1,I b0),(2,I c0),(3,I d0),(4,I e0),(5,I f0)],[]⟩ _
 refine ab.seq (ab.aa ?_)
 refine Oc (aW (k:=101) fy rfl) (af.ai ⟨[(0,I a0),(1,I b0),(2,I c0),(3,I d0),(4,I e0),(5,I f0),(12,Pt 101 0)],[(101,.box 25 ((cO .i64) A3.zero ++ ((cO .i64) A3.zero)))]⟩ rfl (ab.seq (ab.aa ?_)))
 refine Oc om (Oc om (Oc om (Oc (cP oQ rfl rfl) (Oc om (Oc om ?_)))))
 refine Oc om (af.ag ⟨[(12,_),(16,.b (.agg [.i a0,.i b0,.i c0])),(17,I d0),(18,I e0),(19,I f0)],[(101,_)]⟩ rfl (Oc (cP oQ rfl rfl) (af.lG ao h rfl (cE mi rfl rfl) (fun x_1 h=>?_))))
 refine Oc (az aE rfl rfl rfl rfl (Nat.le_of_ble_eq_true rfl) rfl) (af.ai ⟨[(12,_)],[(101,.box 25 (ao x_1))]⟩ rfl (ab.ret ?_))
 obtain rfl:=Option.some.inj h
 refine Fin.ag ⟨[(12,_)],[(101,_)]⟩ rfl (Fin.aw [.agg (ao x_1)] (.inl rfl) rfl (.cons (.agg aE rfl rfl rfl rfl) .nil) ⟨rfl,rfl⟩)
def cC (F:Nat) (a0:cn) (b0:cn):Option Bool :=
 Option.bind (iter F (fun x_1=>if (decide (x_1 < 3)) = true then ((bd a0.Hi.l x_1).bind fun x_2=>(bd b0.Lo.l x_1).bind fun x_3=>(bJ (!(decide (x_2 < x_3))) (bd b0.Hi.l x_1)).bind fun x_4=>(bJ (!(decide (x_2 < x_3))) (bd a0.Lo.l x_1)).bind fun x_5=>if ((decide (x_2 < x_3)) || (decide (x_4 < x_5))) = true then (some (.inr (.inr false))) else (some (.inl (IntKind.i64.wrap (x_1 + 1))))) else (some (.inr (.inl ())))) 0) (cc (fun _=>some true) (fun y=>some y))
theorem c8 {F:Nat} {a0:cn} {b0:cn} {r:Bool} (h:cC F a0 b0 = some r):an Tryz.prog [] 16 [] [.agg (ao a0),.agg (ao b0)] (Is [] (.b (.one (.bool r)))):=by
 unfold cC at h
 refine an.intro 30 Tryz.func16 Tryz.ntmps16 rfl (by simp) fun E=>?_
 show ab _ E ⟨30,[],[],[]⟩ _ ⟨[(0,.b (.agg (ao a0))),(1,.b (.agg (ao b0)))],[]⟩ _
 refine ab.seq (ab.aa ?_)
 refine Oc (bD (k:=101) rfl rfl) (Oc (bD (k:=102) rfl rfl) (Oc oa ?_))
 refine af.ai ⟨[(2,Pt 101 0),(3,Pt 102 0)],[(101,.box 25 (ao a0)),(102,.box 25 (ao b0))]⟩ rfl ?_
 obtain ⟨v1,h2,h⟩:=aP h
 refine ab.dQ (v:=v1) (fun (_:Unit)=>⟨[],[]⟩) (fun z=>.inl z) ?_ ?_
 ·refine ab.seq (ab.aa ?_)
  refine Oc om (af.ai ⟨[(2,_),(3,_),(6,I 0)],[(101,_),(102,_)]⟩ rfl (ab.block (ab.c9 h2 (fun (x_1:Int)=>⟨[(2,Pt 101 0),(3,Pt 102 0),(6,I x_1)],[(101,.box 25 (ao a0)),(102,.box 25 (ao b0))]⟩) [2,3,6] [101,102] rfl ?_)))
  rintro x_1 o3 h4 hy5
  refine ab.seq (ab.aa ?_)
  refine Oc (bo rfl rfl) (af.ai ⟨[(2,_),(3,_),(6,_),(7,B (decide (x_1 < 3)))],[(101,_),(102,_)]⟩ rfl (ab.seq (ab.ite h4 rfl (fun _ h4=>?_) (fun _ h4=>?_))))
  ·refine ab.skip (Fin.ag ⟨[(2,_),(3,_),(6,_)],[(101,_),(102,_)]⟩ rfl (Fin.then (ab.seq (ab.block (ab.seq (ab.aa ?_))))))
   refine Oc om (Oc oa ?_)
   refine af.ai ⟨[(2,_),(3,_),(5,I x_1),(6,_)],[(101,_),(102,_)]⟩ rfl (ab.seq ?_)
   obtain ⟨x_2,e6,h4⟩:=aP h4
   obtain ⟨x_3,e7,h4⟩:=aP h4
   obtain ⟨x_4,e11,h4⟩:=aP h4
   obtain ⟨x_5,e16,h4⟩:=aP h4
   refine ab.b4 mixed 20 [I x_1,Pt 101 3,.b (.ptr 101 (3 + (x_1:Int).toNat * 1)),I x_2,I x_1,Pt 102 0,.b (.ptr 102 (0 + (x_1:Int).toNat * 1)),I x_3,B (decide (x_2 < x_3)),B (decide (x_2 < x_3)),.opt (!(decide (x_2 < x_3))) (.one (.i x_1)),.opt (!(decide (x_2 < x_3))) (.ptr 102 3),.opt (!(decide (x_2 < x_3))) (.ptr 102 (3 + (x_1:Int).toNat * 1)),.opt (!(decide (x_2 < x_3))) (.one (.i x_4)),.opt (!(decide (x_2 < x_3))) (.one (.i x_1)),.opt (!(decide (x_2 < x_3))) (.ptr 101 0),.opt (!(decide (x_2 < x_3))) (.ptr 101 (0 + (x_1:Int).toNat * 1)),.opt (!(decide (x_2 < x_3))) (.one (.i x_5)),.opt (!(decide (x_2 < x_3))) (.one (.bool (decide (x_4 < x_5)))),B ((decide (x_2 < x_3)) || (decide (x_4 < x_5)))] [2,3,6,28] [101,102] (s':=⟨[(2,_),(3,_),(6,_),(28,B ((decide (x_2 < x_3)) || (decide (x_4 < x_5))))],[(101,_),(102,_)]⟩) rfl ⟨fun _=>.p om,fun _=>.p (ax c6 rfl rfl),fun _=>.p (bj cg (a8 e6) (dJ e6) rfl rfl rfl),fun _=>.p (aM aN rfl rfl (dC (post:=[]) (k:=.i64) ((cO .i64) a0.Lo) e6 rfl rfl rfl)),fun _=>.p om,fun _=>.p (ax c7 rfl rfl),fun _=>.p (bj cg (a8 e7) (dJ e7) rfl rfl rfl),fun _=>.p (aM aN rfl rfl (dC (post:=((cO .i64) b0.Hi)) (k:=.i64) [] e7 rfl rfl rfl)),fun _=>.p (bo rfl rfl),fun _=>.p om,fun _=>by exact .guard (!(decide (x_2 < x_3))) 1 [] (.plain rfl) (dZ _) rfl rfl (fun g8=>trivial) (fun g8=>om),fun _=>by exact .guard (!(decide (x_2 < x_3))) 1 [] (.plain rfl) (dZ _) rfl rfl (fun g9=>trivial) (fun g9=>ax c6 rfl rfl),fun _=>by exact .guard (!(decide (x_2 < x_3))) 3 [19,20] (.plain rfl) (dZ _) rfl rfl (fun g10=>⟨g10,g10,trivial⟩) (fun g10=>bj cg (a8 (gc e11 g10)) (dJ (gc e11 g10)) rfl rfl rfl),fun _=>by exact .guard (!(decide (x_2 < x_3))) 2 [21] (.plain rfl) (dZ _) rfl rfl (fun g12=>⟨g12,trivial⟩) (fun g12=>aM aN rfl rfl (dC (post:=[]) (k:=.i64) ((cO .i64) b0.Lo) (gc e11 g12) rfl rfl rfl)),fun _=>by exact .guard (!(decide (x_2 < x_3))) 1 [] (.plain rfl) (dZ _) rfl rfl (fun g13=>trivial) (fun g13=>om),fun _=>by exact .guard (!(decide (x_2 < x_3))) 1 [] (.plain rfl) (dZ _) rfl rfl (fun g14=>trivial) (fun g14=>ax c7 rfl rfl),fun _=>by exact .guard (!(decide (x_2 < x_3))) 3 [23,24] (.plain rfl) (dZ _) rfl rfl (fun g15=>⟨g15,g15,trivial⟩) (fun g15=>bj cg (a8 (gc e16 g15)) (dJ (gc e16 g15)) rfl rfl rfl),fun _=>by exact .guard (!(decide (x_2 < x_3))) 2 [25] (.plain rfl) (dZ _) rfl rfl (fun g17=>⟨g17,trivial⟩) (fun g17=>aM aN rfl rfl (dC (post:=((cO .i64) a0.Hi)) (k:=.i64) [] (gc e16 g17) rfl rfl rfl)),fun _=>by exact .guard (!(decide (x_2 < x_3))) 3 [22,26] (.plain rfl) (dZ _) rfl rfl (fun g18=>⟨g18,g18,trivial⟩) (fun g18=>bo rfl rfl),fun _=>.p (cU (fun e=>by first | (rw [e]; rfl) | (simp only at e; rw [e]; rfl)) rfl rfl rfl rfl),trivial⟩ rfl rfl ?_
   refine ab.ite h4 rfl (fun _ h4=>?_) (fun _ h4=>?_)
   ·refine ab.seq (ab.aa ?_)
    refine Oc oa (af.ai ⟨[(4,B false)],[]⟩ rfl (ab.ret (Fin.aO (Fin.au ?_))))
    obtain rfl:=hy5 _ (Option.some.inj h4).symm
    refine Fin.au (Fin.aO (Fin.au ?_))
    obtain rfl:=Option.some.inj h
    refine Fin.ag ⟨[(4,_)],[]⟩ rfl (Fin.aw [.one (.bool false)] (.inl rfl) rfl (.cons (.tmp rfl) .nil) ⟨rfl,rfl⟩)
   ·refine ab.skip (Fin.av (Fin.ag ⟨[(2,_),(3,_),(6,_)],[(101,_),(102,_)]⟩ rfl (Fin.then (ab.aa ?_))))
    refine Oc (bu rfl rfl) (Oc om ?_)
    refine af.nil ?_
    exact Fin.cr [2,3,6] [101,102] (IntKind.i64.wrap (x_1 + 1)) (Option.some.inj h4) rfl
  ·refine ab.exit (Fin.aD ?_)
   obtain rfl:=hy5 _ (Option.some.inj h4).symm
   refine Fin.aD (Fin.aV ?_)
   exact Fin.join [] [] () rfl rfl
 ·rintro _ hv
  subst v1
  refine ab.seq (ab.aa ?_)
  refine Oc oa (af.ai ⟨[(4,B true)],[]⟩ rfl (ab.ret ?_))
  obtain rfl:=Option.some.inj h
  refine Fin.ag ⟨[(4,_)],[]⟩ rfl (Fin.aw [.one (.bool true)] (.inl rfl) rfl (.cons (.tmp rfl) .nil) ⟨rfl,rfl⟩)
def b7 (F:Nat) (n0:cH bb) (v0c:cn):Option Bool :=
 Option.bind (iF n0) (fun nd_1=>(cC F nd_1.1.cover v0c).bind fun x_2=>some x_2)
theorem jG {F:Nat} {n0:cH bb} {v0c:cn} {r:Bool} (h:b7 F n0 v0c = some r):an Tryz.prog [] 74 [] [.one (.tr ae n0),.aL (ao v0c)] (Is [] (.b (.one (.bool r)))):=by
 unfold b7 at h
 refine an.intro 10 Tryz.func74 Tryz.ntmps74 rfl (by simp) fun E=>?_
 show ab _ E ⟨10,[],[],[]⟩ _ ⟨[(0,.b (.one (.tr ae n0))),(1,.b (.aL (ao v0c)))],[]⟩ _
 refine ab.seq (ab.aa ?_)
 refine Oc oa (af.ai ⟨[(0,.b (.one (.tr ae n0))),(1,.b (.aL (ao v0c)))],[]⟩ rfl (ab.seq ?_))
 obtain ⟨nd_1,e1,h⟩:=aP h
 obtain ⟨x_2,e2,h⟩:=aP h
 refine ab.b4 mixed 7 [.b (.one (.tr ae n0)),.b (.aL (aq nd_1.1.x ++ (.int .u64 nd_1.1.priority :: (ao nd_1.1.cover ++ ([.tr ae nd_1.2.1,.tr ae nd_1.2.2]))))),.b (.aL (ao nd_1.1.cover ++ ([.tr ae nd_1.2.1,.tr ae nd_1.2.2]))),.b (.agg (ao nd_1.1.cover)),.b (.agg (ao v0c)),B x_2,B x_2] [3] [] (s':=⟨[(3,B x_2)],[]⟩) rfl ⟨fun _=>.p om,fun _=>.p (aG e1 rfl rfl),fun _=>by exact .p (aF je rfl rfl),fun _=>.p (b8 aE rfl rfl rfl),fun _=>.p (b8 aE rfl rfl rfl),fun _=>.p (aj (c8 e2) mc rfl rfl),fun _=>.p oa,trivial⟩ rfl rfl (ab.ret ?_)
 obtain rfl:=Option.some.inj h
 refine Fin.ag ⟨[(3,_)],[]⟩ rfl (Fin.aw [.one (.bool x_2)] (.inl rfl) rfl (.cons (.tmp rfl) .nil) ⟨rfl,rfl⟩)
def j9 (F:Nat) (a00:cH bb):Option Bool :=
 some true
theorem lZ {F:Nat} {a00:cH bb} {r:Bool} (h:j9 F a00 = some r):an Tryz.prog [] 58 [] [.one (.tr ae a00)] (Is [] (.b (.one (.bool r)))):=by
 unfold j9 at h
 refine an.intro 3 Tryz.func58 Tryz.ntmps58 rfl (by simp) fun E=>?_
 show ab _ E ⟨3,[],[],[]⟩ _ ⟨[(0,.b (.one (.tr ae a00)))],[]⟩ _
 refine ab.seq (ab.aa ?_)
 refine Oc oa (af.ai ⟨[],[]⟩ rfl (ab.seq (ab.aa ?_)))
 refine Oc oa (af.ai ⟨[(2,B true)],[]⟩ rfl (ab.ret ?_))
 obtain rfl:=Option.some.inj h
 refine Fin.ag ⟨[(2,_)],[]⟩ rfl (Fin.aw [.one (.bool true)] (.inl rfl) rfl (.cons (.tmp rfl) .nil) ⟨rfl,rfl⟩)
section
variable {P:Program} {TB:aU} {m:Nat} {s:St} {ops:Array Oper} {l:List Oper} {Q:bA} {o:Oper}
theorem kD {E:Env TB} {d:Nat} (K:Bool → PH → World → Prop) (hK:∀ b h w,K b h w → jt h w ∧ ct TB h w) (hown:s.own = []) (hdm:d < m)
    (hop:∀ a w h ρ,WR E ⟨m,[],[],[]⟩ [] h ρ w → aS h ρ s.slots a.tmps → ∀ (K':Act → World → Prop),(∀ b h' w',h.le h' → K b h' w' → K' (a.put (some d) (.bool b)) w') → o.wpIn Fence.wide 0 P a w K' Q)
    (hnext:∀ b h' ρ w' (tb:ct TB h' w'),K b h' w' → aZ P (⟨w',h',ρ,tb⟩:Env TB) ⟨m,[],[],[]⟩ Fence.wide ops l ⟨(d,B b) :: del d s.slots,[]⟩ Q) :
    ∀ a w,R E ⟨m,[],[],[]⟩ s a w → o.wpIn Fence.wide 0 P a w (lA P Fence.wide ops Q l) Q:=by
  rintro a w ⟨hd,hn,h,ρ,hw,hs⟩
  rw [hown] at hw
  refine hop a w h ρ hw hs _ fun b h' w' hle hk=>?_
  obtain ⟨hag,htb⟩:=hK b h' w' hk
  refine hnext b h' ρ w' htb hk _ w' (R.fresh htb hag hd (by simpa [Act.put] using hn) ?_)
  exact aS.set (hs.mono hle) hn hdm rfl
theorem aZ.stepU {E:Env TB} {n:Sh} {F:Fence} (hg:o.guard = none) (h:∀ a w,R E n s a w → o.wpIn F 0 P a w (lA P F ops Q l) Q):aZ P E n F ops (o :: l) s Q:=by
  intro a w hr
  unfold lA
  have:Region.wanted o (yielded ops a.tmps) = true:=by simp [Region.wanted,hg]
  simp only [this,if_true]
  exact h a w hr
end
theorem ui:cK Tryz.prog 98:=⟨⟨_,Tryz.underlying98,rfl⟩,⟨Tryz.t98,by kernel_rfl,by kernel_rfl⟩⟩
theorem goes58':bn Tryz.prog 58:=⟨Tryz.call58⟩
theorem goes74':bn Tryz.prog 74:=⟨Tryz.call74⟩
theorem pF:bn Tryz.prog 78:=⟨Tryz.call78⟩
def sg (c:CP) (p:cH bb → Option Bool):Prop :=
  ∀ {E:Env []} {m:Nat} {sl:List (Nat × SV)} {dst:Option Nat} {ats:Array TypeId} {ty:TypeId} {pos:String} {after:Array Edge} {g:Option (Nat × Bool)} {x y:Operand} {t:cH bb} {z:Bool},
    p t = some z → (⟨sl,[]⟩:St).ev x = some (.b (.one c)) → (⟨sl,[]⟩:St).ev y = some (.b (.one (CP.tr ae t))) → bg Tryz.prog E ⟨m,[],[],[]⟩ ⟨dst,.call ⟨.value x,#[y],ats⟩,ty,pos,after,g⟩ ⟨sl,[]⟩ ((⟨sl,[]⟩:St).put ⟨m,[],[],[]⟩ dst (B z))
theorem pR:sg (.raw (.func (.func 58) #[] #[])) (fun _=>some true):=by
  intro E n sl dst ats ty pos after g x y t z hz hx hy
  exact iM (args:=[.one (CP.tr ae t)]) (lZ (F:=0) hz) goes58' hx (by simp [fq,evB,hy]) rfl
theorem qM {F:Nat} {b:cn}:sg (.fl 74 [CP.rp (ao b)]) (fun t=>b7 F t b):=by
  intro E n sl dst ats ty pos after g x y t z hz hx hy
  have h:=nO (E:=E) (n:=⟨n,[],[],[]⟩) (s:=⟨sl,[]⟩) (dst:=dst) (ty:=ty) (pos:=pos) (after:=after) (g:=g) (ats:=ats) (x:=x) (xs:=#[y]) (zs:=[.one (CP.tr ae t)]) (pss:=[ao b]) (own_a:=[]) (own':=[]) (jG hz) goes74' hx (by simp [fq,evB,hy]) rfl trivial rfl rfl rfl
  have e:(⟨sl,[]⟩:St).aft ⟨n,[],[],[]⟩ [] [] dst (B z) = (⟨sl,[]⟩:St).put ⟨n,[],[],[]⟩ dst (B z):=by
    rfl
  rw [← e]
  exact h
theorem qB {t:cH bb} {c:CP}:an Tryz.prog [] 57 [] [.one (CP.tr ae t),.one c] (Is [] (.b (.one (.fl 77 [CP.rp [CP.tr ae t],CP.rp [c]])))):=by
  refine an.intro 6 Tryz.func57 Tryz.ntmps57 rfl (by simp) fun E=>?_
  show ab _ E ⟨6,[],[],[]⟩ _ ⟨[(0,.b (.one (CP.tr ae t))),(1,.b (.one c))],[]⟩ _
  refine ab.seq ?_
  refine ab.aa ?_
  refine af.cons rfl (pz rfl) ?_
  refine af.cons rfl (pz rfl) ?_
  refine af.cons rfl (bX rfl) ?_
  refine af.nilK [2,3] [] (s':=⟨[(2,.b (.aL [CP.tr ae t])),(3,.b (.aL [c]))],[]⟩) rfl ?_
  refine ab.seq ?_
  refine ab.aa ?_
  refine af.cons rfl (gB rfl) ?_
  refine af.cons rfl (bX rfl) ?_
  refine af.nilK [4] [] (s':=⟨[(4,.b (.one (.fl 77 [CP.rp [CP.tr ae t],CP.rp [c]])))],[]⟩) rfl ?_
  refine ab.ret ?_
  exact Fin.aw [.one (.fl 77 [CP.rp [CP.tr ae t],CP.rp [c]])] (.inl rfl) rfl (.cons (.tmp rfl) .nil) ⟨rfl,rfl⟩
section
variable {J:Nat → PH → World → Prop} {Jx:PH → World → Prop} {L:Nat} {c:CP} {p:cH bb → Option Bool} {all:List entry}
def Kv (J:Nat → PH → World → Prop) (Jx:PH → World → Prop) (h0:PH) (k:Nat) (b:Bool) (h:PH) (w:World):Prop:=h0.le h ∧ (if b = true then J k h w else Jx h w)
theorem Kv.ok (hJ:∀ k,kN [] (J k)) (hJx:kN [] Jx) {h0:PH} {k:Nat} {b:Bool} {h:PH} {w:World} (hk:Kv J Jx h0 k b h w):jt h w ∧ ct [] h w:=by
  cases b with
  | true=>exact (hJ k).1 h w hk.2
  | false=>exact hJx.1 h w (by simpa [Kv] using hk.2)
theorem Kv.go (hJ:∀ k,kN [] (J k)) (hJx:kN [] Jx) {h0:PH} {k:Nat} {b:Bool} {h h':PH} {w w':World} {tb:ct [] h w} {ρ ρ':RM} {own':List (Nat × OC)} {m:Nat} (hk:Kv J Jx h0 k b h w) (hw:WR (⟨w,h,ρ,tb⟩:Env []) ⟨m,[],[],[]⟩ own' h' ρ' w'):Kv J Jx h0 k b h' w':=by
  refine ⟨PH.le_trans hk.1 hw.le,?_⟩
  cases b with
  | true=>exact (hJ k).2 h w hk.2 tb ρ h' ρ' w' own' m hw
  | false=>exact hJx.2 h w (by simpa [Kv] using hk.2) tb ρ h' ρ' w' own' m hw
def VisEnd (J:Nat → PH → World → Prop) (Jx:PH → World → Prop) (h0:PH) (k:Nat) (e:Ending) (w:World):Prop:=∃ b h,e = .returned (.bool b) ∧ Kv J Jx h0 k b h w
theorem qD (hJ:∀ k,kN [] (J k)) (hJx:kN [] Jx) (hp:sg c p)
    (hround:∀ k x h W vals,all[k]? = some x → J k h W → aQ (fun (x:BV) v=>∀ ρ,x.rel h ρ v) (tt x) vals →
      YieldAt Fence.wide 0 Tryz.prog L vals.toArray W fun e W'=>(e = .returned (.bool true) ∧ ∃ h',h.le h' ∧ J (k + 1) h' W') ∨ (e = .returned (.bool false) ∧ ∃ h',h.le h' ∧ Jx h' W')) :
    ∀ (t:cH bb) (ys:List entry) (k:Nat),ov p t = some ys → (∀ i x,ys[i]? = some x → all[k + i]? = some x) → ∀ h W v1 v2,J k h W → (CP.tr ae t).rel h v1 → c.rel h v2 →
      Calls Tryz.prog 78 #[v1,v2,.func (.yield L) #[] #[]] W (VisEnd J Jx h (k + ys.length)):=by
  intro t
  induction t with
  | leaf=>
    intro ys k hv hall h W v1 v2 hj h1 h2
    cases hv
    refine callsIn_wide.1 (callsIn_of_wp (n:=0) (F:=Fence.wide) Tryz.func78 rfl trivial ?_)
    obtain ⟨hs0,hn0⟩:=lu (m:=39) (h:=h) (ρ:=fun _=>.bool false) (args:=[.one (CP.tr ae .leaf),.one c,.one (.raw (.func (.yield L) #[] #[]))]) (vals:=[v1,v2,.func (.yield L) #[] #[]])
      (.cons h1 (.cons h2 (.cons ⟨rfl,rfl⟩ .nil))) (Nat.le_of_ble_eq_true rfl)
    obtain ⟨hag0,htb0⟩:=(hJ k).1 h W hj
    have hk0:Kv J Jx h k true h W:=⟨PH.le_refl h,by simpa using hj⟩
    generalize hQo:bodyPost Tryz.prog _ _ = Qo
    have hlo:¬ LetsOut Qo:=by
      rw [← hQo]
      rintro ⟨a,w,b,h',he,_⟩
      cases he
    have hend:∀ (b:Bool) (w0:World) (h0:PH) (ρ0:RM) (tb:ct [] h0 w0),Kv J Jx h (k + 0) b h0 w0 → Fin (⟨w0,h0,ρ0,tb⟩:Env []) ⟨39,[],[],[]⟩ .ret ⟨[(6,B b)],[]⟩ Qo:=by
      rintro b w0 h0 ρ0 tb hK a w ⟨hd,hn,h',ρ',hw,hs⟩
      rw [← hQo]
      obtain ⟨v,hv,hrel⟩:=gb (P:=Tryz.prog) (fn:=Tryz.f78) (s:=⟨[(6,B b)],[]⟩) (zs:=[.one (.bool b)]) (.cons (.tmp rfl) .nil) hw hs
      have hv':v = .bool b:=hrel
      exact ⟨hd,v,hv w (b5.refl w),b,h',by rw [hv'],hK.go hJ hJx hw⟩
    refine (show aX Tryz.prog (⟨W,h,fun _=>.bool false,htb0⟩:Env []) ⟨39,[],[],[]⟩ Fence.wide _ ⟨_,[]⟩ Qo from ?_) hlo _ _ (R.fresh htb0 hag0 rfl hn0 hs0)
    clear hs0 hn0
    refine aX.seq ?_
    refine aX.aa (.inl rfl) ?_
    refine af.cons rfl (bX rfl) ?_
    refine af.nil ?_
    refine Fin.keep [0,1,2] [] (s':=⟨[(0,.b (.one (CP.tr ae .leaf))),(1,.b (.one c)),(2,.b (.one (.raw (.func (.yield L) #[] #[]))))],[]⟩) rfl ?_
    refine Fin.gq ?_ hlo
    refine aX.seq ?_
    refine aX.seq ?_
    refine aX.nm (.inl rfl) ?_
    refine aZ.cons (.inl rfl) rfl (aJ rfl) ?_
    refine aZ.cons (.inl rfl) rfl (fh k5 rfl) ?_
    refine aZ.cons (.inl rfl) rfl (aJ rfl) ?_
    refine aZ.dV (.plain (t:=9) rfl) rfl rfl rfl (.one .any) ?_
    refine aZ.dV (.plain (t:=9) rfl) rfl rfl rfl (.one .any) ?_
    refine aZ.dV (.plain (t:=9) rfl) rfl rfl rfl (.one .any) ?_
    refine aZ.dV (.plain (t:=9) rfl) rfl rfl rfl (.one (.bool true)) ?_
    refine aZ.cons (.inl rfl) rfl (cU (fun e=>Bool.noConfusion e) rfl rfl rfl) ?_
    refine aZ.nil ?_
    refine Fin.keep [14] [] (s':=⟨[(14,B true)],[]⟩) rfl ?_
    refine Fin.gq ?_ (gR hlo)
    refine aX.cond rfl (fun he=>?_) (fun he=>absurd he (by decide))
    refine aX.seq ?_
    refine aX.aa (.inl rfl) ?_
    refine af.cons rfl (bX rfl) ?_
    refine af.nil ?_
    refine Fin.keep [6] [] (s':=⟨[(6,B true)],[]⟩) rfl ?_
    refine Fin.gq ?_ (gR hlo)
    refine aX.ret ?_
    exact Fin.au (hend true W h _ htb0 (by simpa using hk0))
  | node a l r ihl ihr=>
    intro ys k hv hall h W v1 v2 hj h1 h2
    refine callsIn_wide.1 (callsIn_of_wp (n:=0) (F:=Fence.wide) Tryz.func78 rfl trivial ?_)
    obtain ⟨hs0,hn0⟩:=lu (m:=39) (h:=h) (ρ:=fun _=>.bool false) (args:=[.one (CP.tr ae (.node a l r)),.one c,.one (.raw (.func (.yield L) #[] #[]))]) (vals:=[v1,v2,.func (.yield L) #[] #[]])
      (.cons h1 (.cons h2 (.cons ⟨rfl,rfl⟩ .nil))) (Nat.le_of_ble_eq_true rfl)
    obtain ⟨hag0,htb0⟩:=(hJ k).1 h W hj
    have hk0:Kv J Jx h k true h W:=⟨PH.le_refl h,by simpa using hj⟩
    generalize hQo:bodyPost Tryz.prog _ _ = Qo
    have hlo:¬ LetsOut Qo:=by
      rw [← hQo]
      rintro ⟨a,w,b,h',he,_⟩
      cases he
    have hend:∀ (b:Bool) (w0:World) (h0:PH) (ρ0:RM) (tb:ct [] h0 w0),Kv J Jx h (k + ys.length) b h0 w0 → Fin (⟨w0,h0,ρ0,tb⟩:Env []) ⟨39,[],[],[]⟩ .ret ⟨[(6,B b)],[]⟩ Qo:=by
      rintro b w0 h0 ρ0 tb hK a w ⟨hd,hn,h',ρ',hw,hs⟩
      rw [← hQo]
      obtain ⟨v,hv,hrel⟩:=gb (P:=Tryz.prog) (fn:=Tryz.f78) (s:=⟨[(6,B b)],[]⟩) (zs:=[.one (.bool b)]) (.cons (.tmp rfl) .nil) hw hs
      have hv':v = .bool b:=hrel
      exact ⟨hd,v,hv w (b5.refl w),b,h',by rw [hv'],hK.go hJ hJx hw⟩
    refine (show aX Tryz.prog (⟨W,h,fun _=>.bool false,htb0⟩:Env []) ⟨39,[],[],[]⟩ Fence.wide _ ⟨_,[]⟩ Qo from ?_) hlo _ _ (R.fresh htb0 hag0 rfl hn0 hs0)
    clear hs0 hn0
    refine aX.seq ?_
    refine aX.aa (.inl rfl) ?_
    refine af.cons rfl (bX rfl) ?_
    refine af.nil ?_
    refine Fin.keep [0,1,2] [] (s':=⟨[(0,.b (.one (CP.tr ae (.node a l r)))),(1,.b (.one c)),(2,.b (.one (.raw (.func (.yield L) #[] #[]))))],[]⟩) rfl ?_
    refine Fin.gq ?_ hlo
    refine aX.seq ?_
    refine aX.seq ?_
    refine aX.nm (.inl rfl) ?_
    refine aZ.cons (.inl rfl) rfl (aJ rfl) ?_
    refine aZ.cons (.inl rfl) rfl (fh k5 rfl) ?_
    refine aZ.cons (.inl rfl) rfl (aJ rfl) ?_
    obtain ⟨cb,hcb,hv⟩:=Option.bind_eq_some_iff.1 hv
    refine aZ.gL (.inl rfl) (.plain (t:=9) rfl) rfl rfl rfl (aJ rfl) ?_
    refine aZ.gL (.inl rfl) (.plain (t:=9) rfl) rfl rfl rfl (aJ rfl) ?_
    refine aZ.gL (.inl rfl) (.plain (t:=9) rfl) rfl rfl rfl (hp hcb rfl rfl) ?_
    refine aZ.gL (.inl rfl) (.plain (t:=9) rfl) rfl rfl rfl (ee rfl) ?_
    refine aZ.opt 13 rfl ?_
    refine aZ.cons (.inl rfl) rfl (cU (fun _=>rfl) rfl rfl rfl) ?_
    refine aZ.nil ?_
    refine Fin.keep [0,1,2,14] [] (s':=⟨[(0,.b (.one (CP.tr ae (.node a l r)))),(1,.b (.one c)),(2,.b (.one (.raw (.func (.yield L) #[] #[])))),(14,B (false || !cb))],[]⟩) rfl ?_
    refine Fin.gq ?_ (gR hlo)
    refine aX.cond rfl (fun he=>?_) (fun he=>?_)
    · have hcb':cb = false:=by simpa using he
      subst hcb'
      have hys:ys = []:=by simpa using hv.symm
      subst hys
      refine aX.seq ?_
      refine aX.aa (.inl rfl) ?_
      refine af.cons rfl (bX rfl) ?_
      refine af.nil ?_
      refine Fin.keep [6] [] (s':=⟨[(6,B true)],[]⟩) rfl ?_
      refine Fin.gq ?_ (gR hlo)
      refine aX.ret ?_
      exact Fin.au (hend true W h _ htb0 (by simpa using hk0))
    have hcb':cb = true:=by simpa using he
    subst hcb'
    rw [if_pos rfl] at hv
    obtain ⟨xs,hxs,hv⟩:=Option.bind_eq_some_iff.1 hv
    obtain ⟨zs,hzs,hv⟩:=Option.bind_eq_some_iff.1 hv
    have hys:ys = xs ++ a.x :: zs:=(Option.some.inj hv).symm
    subst hys
    have hlen:k + (xs ++ a.x :: zs).length = k + xs.length + 1 + zs.length:=by simp; omega
    refine aX.skip ?_
    refine Fin.keep [0,1,2] [] (s':=⟨[(0,.b (.one (CP.tr ae (.node a l r)))),(1,.b (.one c)),(2,.b (.one (.raw (.func (.yield L) #[] #[]))))],[]⟩) rfl ?_
    refine Fin.gq ?_ hlo
    refine aX.seq ?_
    refine aX.nm (.inl rfl) ?_
    refine aZ.cons (.inl rfl) rfl (aJ rfl) ?_
    refine aZ.cons (.inl rfl) rfl (aG (z:=(a,l,r)) (qs:=ae a ++ [CP.tr ae l,CP.tr ae r]) rfl rfl rfl) ?_
    refine aZ.cons (.inl rfl) rfl (aF (qs:=[CP.tr ae l,CP.tr ae r]) dE rfl rfl) ?_
    refine aZ.cons (.inl rfl) rfl (ar (p:=CP.tr ae l) bp rfl rfl) ?_
    refine aZ.cons (.inl rfl) rfl (aJ rfl) ?_
    refine aZ.cons (.inl rfl) rfl (aJ rfl) ?_
    refine aZ.stepU rfl (kD (d:=21) (Kv J Jx h (k + xs.length)) (fun b h w hk=>hk.ok hJ hJx) rfl (by decide) ?_ ?_)
    · intro a1 w1 h1' ρ1 hw1 hs1 K' hK'
      have hj1:=hk0.go hJ hJx hw1
      have e20:a1.eval (.tmp 20) = .func (.yield L) #[] #[]:=(aK hs1 (o:=.tmp 20) rfl:(CP.raw _).rel h1' _).1
      refine ko (.inl rfl) rfl (fun a w h=>h) ?_
      unfold Oper.wp
      rw [iK pF a1 w1]
      show Calls Tryz.prog 78 [a1.eval (.tmp 18),a1.eval (.tmp 19),a1.eval (.tmp 20)].toArray w1 _
      rw [e20]
      refine (ihl xs k hxs (fun i x hi=>hall i x (by rw [List.getElem?_append_left (List.getElem?_eq_some_iff.1 hi).1]; exact hi)) h1' w1 _ _ hj1.2 (aK hs1 (o:=.tmp 18) rfl) (aK hs1 (o:=.tmp 19) rfl)).mono ?_
      rintro e w' ⟨b,h',rfl,hk⟩
      exact hK' b h' w' hk.1 ⟨PH.le_trans hj1.1 hk.1,hk.2⟩
    intro b1 h2 ρ2 w2 tb2 hk1
    refine aZ.keep [0,1,2,21] [] (s':=⟨[(0,.b (.one (CP.tr ae (.node a l r)))),(1,.b (.one c)),(2,.b (.one (.raw (.func (.yield L) #[] #[])))),(21,B b1)],[]⟩) rfl ?_
    refine aZ.cons (.inl rfl) rfl (aJ rfl) ?_
    cases b1 with
    | false=>
      refine aZ.dV (.plain (t:=22) rfl) rfl rfl rfl (.one .any) ?_
      refine aZ.dV (.plain (t:=22) rfl) rfl rfl rfl (.one .any) ?_
      refine aZ.dV (.plain (t:=22) rfl) rfl rfl rfl (.one .any) ?_
      refine aZ.dV (.plain (t:=22) rfl) rfl rfl rfl (.one .any) ?_
      refine aZ.dV (.plain (t:=22) rfl) rfl rfl rfl (.one .any) ?_
      refine aZ.dV (.plain (t:=22) rfl) rfl rfl rfl (.one (.bool true)) ?_
      refine aZ.cons (.inl rfl) rfl (aI (fun e=>Bool.noConfusion e) rfl rfl rfl) ?_
      refine aZ.cons (.inl rfl) rfl (aJ rfl) ?_
      refine aZ.dV (.plain (t:=30) rfl) rfl rfl rfl (.one .any) ?_
      refine aZ.dV (.plain (t:=30) rfl) rfl rfl rfl (.one .any) ?_
      refine aZ.dV (.plain (t:=30) rfl) rfl rfl rfl (.one .any) ?_
      refine aZ.dV (.plain (t:=30) rfl) rfl rfl rfl (.one .any) ?_
      refine aZ.dV (.plain (t:=30) rfl) rfl rfl rfl (.one .any) ?_
      refine aZ.dV (.plain (t:=30) rfl) rfl rfl rfl (.one .any) ?_
      refine aZ.dV (.plain (t:=30) rfl) rfl rfl rfl (.one (.bool true)) ?_
      refine aZ.cons (.inl rfl) rfl (aI (fun e=>Bool.noConfusion e) rfl rfl rfl) ?_
      refine aZ.cons (.inl rfl) rfl (bX rfl) ?_
      refine aZ.nil ?_
      refine Fin.keep [6] [] (s':=⟨[(6,B false)],[]⟩) rfl ?_
      refine Fin.gq ?_ hlo
      refine aX.ret ?_
      exact hend false w2 h2 ρ2 tb2 ⟨hk1.1,hk1.2⟩
    | true=>
    refine aZ.gL (.inl rfl) (.plain (t:=22) rfl) rfl rfl rfl (aJ rfl) ?_
    refine aZ.gL (.inl rfl) (.plain (t:=22) rfl) rfl rfl rfl (aJ rfl) ?_
    refine aZ.gL (.inl rfl) (.plain (t:=22) rfl) rfl rfl rfl (aG (z:=(a,l,r)) (qs:=ae a ++ [CP.tr ae l,CP.tr ae r]) rfl rfl rfl) ?_
    refine aZ.gL (.inl rfl) (.plain (t:=22) rfl) rfl rfl rfl (aF (qs:=ae a ++ [CP.tr ae l,CP.tr ae r]) eh rfl rfl) ?_
    refine aZ.gL (.inl rfl) (.plain (t:=22) rfl) rfl rfl rfl (b8 (qs:=aq a.x) bq rfl rfl rfl) ?_
    refine aZ.stepT (.plain (t:=22) rfl) rfl rfl rfl (kD (d:=28) (Kv J Jx h (k + xs.length + 1)) (fun b h w hk=>hk.ok hJ hJx) rfl (by decide) ?_ ?_)
    · intro a1 w1 h1' ρ1 hw1 hs1 K' hK'
      have hj1:=hk1.go hJ hJx hw1
      have hx23:a1.eval (.tmp 23) = .func (.yield L) #[] #[]:=(aK hs1 (o:=.tmp 23) rfl:(CP.raw _).rel h1' _).1
      have hx27:=(aK hs1 (o:=.tmp 27) (x:=.b (.agg (aq a.x))) rfl:BV.rel h1' ρ1 (.agg (aq a.x)) _)
      refine rO (vals:=[a1.eval (.tmp 27)].toArray) rfl ((sN hx23).trans (by simp)) (hround (k + xs.length) a.x h1' w1 _ (hall xs.length a.x (by simp)) (by simpa using hj1.2) (.cons (fun _=>hx27) .nil)) ?_
      rintro e w3 (⟨rfl,h3,g1,g2⟩ | ⟨rfl,h3,g1,g2⟩)
      · exact ⟨_,rfl,hK' true h3 w3 g1 ⟨PH.le_trans hj1.1 g1,by simpa using g2⟩⟩
      · exact ⟨_,rfl,hK' false h3 w3 g1 ⟨PH.le_trans hj1.1 g1,by simpa using g2⟩⟩
    intro b2 h3 ρ3 w3 tb3 hk2
    refine aZ.keep [0,1,2,22,28] [] (s':=⟨[(0,.b (.one (CP.tr ae (.node a l r)))),(1,.b (.one c)),(2,.b (.one (.raw (.func (.yield L) #[] #[])))),(22,B true),(28,B b2)],[]⟩) rfl ?_
    refine aZ.opt 28 rfl ?_
    refine aZ.cons (.inl rfl) rfl (aI (fun _=>rfl) rfl rfl rfl) ?_
    refine aZ.cons (.inl rfl) rfl (aJ rfl) ?_
    cases b2 with
    | false=>
      refine aZ.dV (.plain (t:=30) rfl) rfl rfl rfl (.one .any) ?_
      refine aZ.dV (.plain (t:=30) rfl) rfl rfl rfl (.one .any) ?_
      refine aZ.dV (.plain (t:=30) rfl) rfl rfl rfl (.one .any) ?_
      refine aZ.dV (.plain (t:=30) rfl) rfl rfl rfl (.one .any) ?_
      refine aZ.dV (.plain (t:=30) rfl) rfl rfl rfl (.one .any) ?_
      refine aZ.dV (.plain (t:=30) rfl) rfl rfl rfl (.one .any) ?_
      refine aZ.dV (.plain (t:=30) rfl) rfl rfl rfl (.one (.bool true)) ?_
      refine aZ.cons (.inl rfl) rfl (aI (fun e=>Bool.noConfusion e) rfl rfl rfl) ?_
      refine aZ.cons (.inl rfl) rfl (bX rfl) ?_
      refine aZ.nil ?_
      refine Fin.keep [6] [] (s':=⟨[(6,B false)],[]⟩) rfl ?_
      refine Fin.gq ?_ hlo
      refine aX.ret ?_
      exact hend false w3 h3 ρ3 tb3 ⟨hk2.1,hk2.2⟩
    | true=>
    refine aZ.gL (.inl rfl) (.plain (t:=30) rfl) rfl rfl rfl (aJ rfl) ?_
    refine aZ.gL (.inl rfl) (.plain (t:=30) rfl) rfl rfl rfl (aG (z:=(a,l,r)) (qs:=ae a ++ [CP.tr ae l,CP.tr ae r]) rfl rfl rfl) ?_
    refine aZ.gL (.inl rfl) (.plain (t:=30) rfl) rfl rfl rfl (aF (qs:=[CP.tr ae r]) dD rfl rfl) ?_
    refine aZ.gL (.inl rfl) (.plain (t:=30) rfl) rfl rfl rfl (ar (p:=CP.tr ae r) bp rfl rfl) ?_
    refine aZ.gL (.inl rfl) (.plain (t:=30) rfl) rfl rfl rfl (aJ rfl) ?_
    refine aZ.gL (.inl rfl) (.plain (t:=30) rfl) rfl rfl rfl (aJ rfl) ?_
    refine aZ.stepT (.plain (t:=30) rfl) rfl rfl rfl (kD (d:=37) (Kv J Jx h (k + xs.length + 1 + zs.length)) (fun b h w hk=>hk.ok hJ hJx) rfl (by decide) ?_ ?_)
    · intro a1 w1 h1' ρ1 hw1 hs1 K' hK'
      have hj1:=hk2.go hJ hJx hw1
      have e20:a1.eval (.tmp 36) = .func (.yield L) #[] #[]:=(aK hs1 (o:=.tmp 36) rfl:(CP.raw _).rel h1' _).1
      refine ko (.inl rfl) rfl (fun a w h=>h) ?_
      unfold Oper.wp
      rw [iK pF a1 w1]
      show Calls Tryz.prog 78 [a1.eval (.tmp 34),a1.eval (.tmp 35),a1.eval (.tmp 36)].toArray w1 _
      rw [e20]
      refine (ihr zs (k + xs.length + 1) hzs (fun i x hi=>by rw [show k + xs.length + 1 + i = k + (xs.length + (i + 1)) by omega]; exact hall _ x (by simp [List.getElem?_append_right,hi])) h1' w1 _ _ hj1.2 (aK hs1 (o:=.tmp 34) rfl) (aK hs1 (o:=.tmp 35) rfl)).mono ?_
      rintro e w' ⟨b,h',rfl,hk⟩
      exact hK' b h' w' hk.1 ⟨PH.le_trans hj1.1 hk.1,hk.2⟩
    intro b3 h4 ρ4 w4 tb4 hk3
    refine aZ.keep [30,37] [] (s':=⟨[(30,B true),(37,B b3)],[]⟩) rfl ?_
    refine aZ.opt 37 rfl ?_
    refine aZ.cons (.inl rfl) rfl (aI (fun _=>rfl) rfl rfl rfl) ?_
    refine aZ.cons (.inl rfl) rfl (bX rfl) ?_
    refine aZ.nil ?_
    refine Fin.keep [6] [] (s':=⟨[(6,B b3)],[]⟩) rfl ?_
    refine Fin.gq ?_ hlo
    refine aX.ret ?_
    exact hend b3 w4 h4 ρ4 tb4 (by rw [hlen]; exact hk3)
end
theorem qC {c:CP} {p:cH bb → Option Bool} (hp:sg c p) {t:cH bb} {xs:List entry} (h:ov p t = some xs):Iter Tryz.prog [] 77 [CP.rp [CP.tr ae t],CP.rp [c]] (xs.map tt):=by
  intro J Jx L hJ hJx hround h0 W caps hJ0 hcaps
  cases hcaps with
  | @cons _ c1 _ _ g1 hc=>
  cases hc with
  | @cons _ c2 _ _ g2 hc2=>
  cases hc2
  refine callsIn_wide.1 (callsIn_of_wp (n:=0) (F:=Fence.wide) Tryz.func77 rfl trivial ?_)
  obtain ⟨hs0,hn0⟩:=lu (m:=8) (h:=h0) (ρ:=fun _=>.bool false) (args:=[.one (.raw (.func (.yield L) #[] #[])),.aL [CP.tr ae t],.aL [c]]) (vals:=[.func (.yield L) #[] #[],c1,c2])
    (.cons ⟨rfl,rfl⟩ (.cons g1 (.cons g2 .nil))) (Nat.le_of_ble_eq_true rfl)
  obtain ⟨hag0,htb0⟩:=(hJ 0).1 h0 W hJ0
  have hk0:Kv J Jx h0 0 true h0 W:=⟨PH.le_refl h0,by simpa using hJ0⟩
  generalize hQo:bodyPost Tryz.prog _ _ = Qo
  have hlo:¬ LetsOut Qo:=by
    rw [← hQo]
    rintro ⟨a,w,⟨v,he⟩,_⟩
    cases he
  refine (show aX Tryz.prog (⟨W,h0,fun _=>.bool false,htb0⟩:Env []) ⟨8,[],[],[]⟩ Fence.wide _ ⟨_,[]⟩ Qo from ?_) hlo _ _ (R.fresh htb0 hag0 rfl hn0 hs0)
  clear hs0 hn0
  refine aX.nm (.inl rfl) ?_
  refine aZ.cons (.inl rfl) rfl (ar (p:=CP.tr ae t) bp rfl rfl) ?_
  refine aZ.cons (.inl rfl) rfl (ar (p:=c) ui rfl rfl) ?_
  refine aZ.cons (.inl rfl) rfl (aJ rfl) ?_
  refine aZ.stepU rfl (kD (d:=7) (Kv J Jx h0 xs.length) (fun b h w hk=>hk.ok hJ hJx) rfl (by decide) ?_ ?_)
  · intro a1 w1 h1' ρ1 hw1 hs1 K' hK'
    have hj1:=hk0.go hJ hJx hw1
    have e20:a1.eval (.tmp 6) = .func (.yield L) #[] #[]:=(aK hs1 (o:=.tmp 6) rfl:(CP.raw _).rel h1' _).1
    refine ko (.inl rfl) rfl (fun a w h=>h) ?_
    unfold Oper.wp
    rw [iK pF a1 w1]
    show Calls Tryz.prog 78 [a1.eval (.tmp 4),a1.eval (.tmp 5),a1.eval (.tmp 6)].toArray w1 _
    rw [e20]
    refine (qD hJ hJx hp (all:=xs) (fun k x h W vals hx=>hround k (tt x) h W vals (by rw [List.getElem?_map,hx]; rfl)) t xs 0 h (fun i x hi=>by rw [Nat.zero_add]; exact hi) h1' w1 _ _ hj1.2 (aK hs1 (o:=.tmp 4) rfl) (aK hs1 (o:=.tmp 5) rfl)).mono ?_
    rintro e w' ⟨b,h',rfl,hk⟩
    rw [Nat.zero_add] at hk
    exact hK' b h' w' hk.1 ⟨PH.le_trans hj1.1 hk.1,hk.2⟩
  intro b h2 ρ2 w2 tb2 hk1
  refine aZ.nil ?_
  rintro a w ⟨hd,hn,h',ρ',hw,hs⟩
  have hk2:=hk1.go hJ hJx hw
  rw [← hQo]
  refine ⟨hd,.tuple #[],?_,⟨_,rfl⟩,?_⟩
  · rw [jf,show (Tryz.f77:Func).results = #[] from rfl]
    simp
  · cases b with
    | true=>exact .inl ⟨h',by rw [List.length_map]; exact hk2.2⟩
    | false=>exact .inr ⟨h',hk2.2⟩
def gD (F:Nat) (a0:cn) (b0:cn):Option cn :=
 Option.bind (iter F (dX fun a_2 x_3=>if (decide (x_3 < 3)) = true then ((bd a_2.Lo.l x_3).bind fun x_5=>(bd b0.Lo.l x_3).bind fun x_6=>(bd a_2.Hi.l x_3).bind fun x_7=>(bd b0.Hi.l x_3).bind fun x_8=>(bd a_2.Lo.l x_3).bind fun x_9=>(bd a_2.Hi.l x_3).bind fun x_10=>some (.inl ((⟨a_2.Lo.set x_3 (min x_5 x_6),a_2.Hi.set x_3 (max x_7 x_8)⟩:cn),IntKind.i64.wrap (x_3 + 1)))) else (some (.inr a_2))) (a0,0)) (fun a_1=>some a_1)
theorem jv {F:Nat} {a0:cn} {b0:cn} {r:cn} (h:gD F a0 b0 = some r):an Tryz.prog [] 18 [] [.agg (ao a0),.agg (ao b0)] (Is [] (.b (.agg (ao r)))):=by
 unfold gD at h
 refine an.intro 35 Tryz.func18 Tryz.ntmps18 rfl (by simp) fun E=>?_
 show ab _ E ⟨35,[],[],[]⟩ _ ⟨[(0,.b (.agg (ao a0))),(1,.b (.agg (ao b0)))],[]⟩ _
 refine ab.seq (ab.aa ?_)
 refine Oc (bD (k:=101) rfl rfl) (Oc (bD (k:=102) rfl rfl) (Oc (aW (k:=103) fy rfl) ?_))
 refine af.ai ⟨[(2,Pt 101 0),(3,Pt 102 0),(4,Pt 103 0)],[(101,.box 25 (ao a0)),(102,.box 25 (ao b0)),(103,.box 25 ((cO .i64) A3.zero ++ ((cO .i64) A3.zero)))]⟩ rfl ?_
 obtain ⟨v1,h2,h⟩:=aP h
 refine ab.dQ (v:=v1) (fun (a_1:cn)=>⟨[(2,Pt 101 0),(4,Pt 103 0)],[(101,.box 25 (ao a_1)),(103,.box 25 ((cO .i64) A3.zero ++ ((cO .i64) A3.zero)))]⟩) (fun z=>z) ?_ ?_
 ·refine ab.seq (ab.aa ?_)
  refine Oc om (af.ai ⟨[(2,_),(3,_),(4,_),(6,I 0)],[(101,_),(102,_),(103,_)]⟩ rfl (ab.block (ab.c9 h2 (dX fun (a_2:cn) (x_3:Int)=>⟨[(2,Pt 101 0),(3,Pt 102 0),(4,Pt 103 0),(6,I x_3)],[(101,.box 25 (ao a_2)),(102,.box 25 (ao b0)),(103,.box 25 ((cO .i64) A3.zero ++ ((cO .i64) A3.zero)))]⟩) [2,3,4,6] [101,102,103] rfl ?_)))
  rintro ⟨a_2,x_3⟩ o3 h4 hy5
  refine ab.seq (ab.aa ?_)
  refine Oc (bo rfl rfl) (af.ai ⟨[(2,_),(3,_),(4,_),(6,_),(7,B (decide (x_3 < 3)))],[(101,_),(102,_),(103,_)]⟩ rfl (ab.seq (ab.ite h4 rfl (fun _ h4=>?_) (fun _ h4=>?_))))
  ·refine ab.skip (Fin.ag ⟨[(2,_),(3,_),(4,_),(6,_)],[(101,_),(102,_),(103,_)]⟩ rfl (Fin.then (ab.seq (ab.block (ab.seq (ab.aa ?_))))))
   refine Oc om (Oc oa ?_)
   refine af.ai ⟨[(2,_),(3,_),(4,_),(5,I x_3),(6,_)],[(101,_),(102,_),(103,_)]⟩ rfl ?_
   obtain ⟨x_5,e6,h4⟩:=aP h4
   obtain ⟨x_6,e7,h4⟩:=aP h4
   obtain ⟨x_7,e8,h4⟩:=aP h4
   obtain ⟨x_8,e9,h4⟩:=aP h4
   obtain ⟨x_9,e10,h4⟩:=aP h4
   obtain ⟨x_10,e11,h4⟩:=aP h4
   refine ab.lP mixed [false,false,false,false,false,false,false,false,false,false,false,false,false,false,false,false,false,false,false,false,false,false,true,false,false,true] [I x_3,I x_3,I x_3,Pt 101 0,.b (.ptr 101 (0 + (x_3:Int).toNat * 1)),I x_5,I x_3,Pt 102 0,.b (.ptr 102 (0 + (x_3:Int).toNat * 1)),I x_6,I (min x_5 x_6),I x_3,Pt 101 3,.b (.ptr 101 (3 + (x_3:Int).toNat * 1)),I x_7,I x_3,Pt 102 3,.b (.ptr 102 (3 + (x_3:Int).toNat * 1)),I x_8,I (max x_7 x_8),Pt 101 0,.b (.ptr 101 (0 + (x_3:Int).toNat * 1)),B true,Pt 101 3,.b (.ptr 101 (3 + (x_3:Int).toNat * 1)),B true] [⟨[false,false,false,false,false,false,false,false,false,false,false,false,false,false,false,false,false,false,false,false,false,false,false,false,false,false],[(2,Pt 101 0),(3,Pt 102 0),(4,Pt 103 0),(5,I x_3),(6,I x_3)],[(101,.box 25 (ao a_2)),(102,.box 25 (ao b0)),(103,.box 25 ((cO .i64) A3.zero ++ ((cO .i64) A3.zero)))],[true,true,true,true,true,true,true,true,true,true,true,true,true,true,true,true,true,true,true,true,true,true,true,true,true,true],[],[24,25]⟩,⟨[false,false,false,false,false,false,false,false,false,false,false,false,false,false,false,false,false,false,false,false,false,false,true,false,false,false],[(2,Pt 101 0),(3,Pt 102 0),(4,Pt 103 0),(5,I x_3),(6,I x_3)],[(101,.box 25 ((cO .i64) (a_2.Lo.set x_3 (min x_5 x_6)) ++ ((cO .i64) a_2.Hi))),(102,.box 25 (ao b0)),(103,.box 25 ((cO .i64) A3.zero ++ ((cO .i64) A3.zero)))],[true,true,true,true,true,true,true,true,true,true,true,true,true,true,true,true,true,true,true,true,true,true,true,true,true,true],[0,2,3,4,5,6,7,8,9,10,11,12,13,14,20,21,22],[]⟩,⟨[false,false,false,false,false,false,false,false,false,false,false,false,false,false,false,false,false,false,false,false,false,false,true,false,false,true],[(2,Pt 101 0),(3,Pt 102 0),(4,Pt 103 0),(5,I x_3),(6,I x_3)],[(101,.box 25 ((cO .i64) (a_2.Lo.set x_3 (min x_5 x_6)) ++ ((cO .i64) (a_2.Hi.set x_3 (max x_7 x_8))))),(102,.box 25 (ao b0)),(103,.box 25 ((cO .i64) A3.zero ++ ((cO .i64) A3.zero)))],[true,true,true,true,true,true,true,true,true,true,true,true,true,true,true,true,true,true,true,true,true,true,true,true,true,true],[0,1,2,3,4,5,6,7,8,9,10,11,12,13,14,15,16,17,18,19,20,21,22,23,24,25],[]⟩] rfl (⟨by kernel_rfl,⟨⟨I x_3,fun _=>rfl,fun _=>.p (by exact aJ rfl)⟩,⟨I x_3,fun _=>rfl,fun _=>.p (by exact aJ rfl)⟩,⟨I x_3,fun _=>rfl,fun _=>.p (by exact aJ rfl)⟩,⟨Pt 101 0,fun _=>rfl,fun _=>.p (by exact ax c7 rfl rfl)⟩,⟨.b (.ptr 101 (0 + (x_3:Int).toNat * 1)),fun _=>rfl,fun _=>.p (by exact bj cg (a8 e6) (dJ e6) rfl rfl rfl)⟩,⟨I x_5,fun _=>rfl,fun _=>.p (by exact aM aN rfl rfl (dC (post:=((cO .i64) a_2.Hi)) (k:=.i64) [] e6 rfl rfl rfl))⟩,⟨I x_3,fun _=>rfl,fun _=>.p (by exact aJ rfl)⟩,⟨Pt 102 0,fun _=>rfl,fun _=>.p (by exact ax c7 rfl rfl)⟩,⟨.b (.ptr 102 (0 + (x_3:Int).toNat * 1)),fun _=>rfl,fun _=>.p (by exact bj cg (a8 e7) (dJ e7) rfl rfl rfl)⟩,⟨I x_6,fun _=>rfl,fun _=>.p (by exact aM aN rfl rfl (dC (post:=((cO .i64) b0.Hi)) (k:=.i64) [] e7 rfl rfl rfl))⟩,⟨I (min x_5 x_6),fun _=>rfl,fun _=>.p (by exact nD rfl rfl)⟩,⟨I x_3,fun _=>rfl,fun _=>.p (by exact aJ rfl)⟩,⟨Pt 101 3,fun _=>rfl,fun _=>.p (by exact ax c6 rfl rfl)⟩,⟨.b (.ptr 101 (3 + (x_3:Int).toNat * 1)),fun _=>rfl,fun _=>.p (by exact bj cg (a8 e8) (dJ e8) rfl rfl rfl)⟩,⟨I x_7,fun _=>rfl,fun _=>.p (by exact aM aN rfl rfl (dC (post:=[]) (k:=.i64) ((cO .i64) a_2.Lo) e8 rfl rfl rfl))⟩,⟨I x_3,fun _=>rfl,fun _=>.p (by exact aJ rfl)⟩,⟨Pt 102 3,fun _=>rfl,fun _=>.p (by exact ax c6 rfl rfl)⟩,⟨.b (.ptr 102 (3 + (x_3:Int).toNat * 1)),fun _=>rfl,fun _=>.p (by exact bj cg (a8 e9) (dJ e9) rfl rfl rfl)⟩,⟨I x_8,fun _=>rfl,fun _=>.p (by exact aM aN rfl rfl (dC (post:=[]) (k:=.i64) ((cO .i64) b0.Lo) e9 rfl rfl rfl))⟩,⟨I (max x_7 x_8),fun _=>rfl,fun _=>.p (by exact l7 rfl rfl)⟩,⟨Pt 101 0,fun _=>rfl,fun _=>.p (by exact ax c7 rfl rfl)⟩,⟨.b (.ptr 101 (0 + (x_3:Int).toNat * 1)),fun _=>rfl,fun _=>.p (by exact bj cg (a8 e10) (dJ e10) rfl rfl rfl)⟩,⟨_,[],.b (.one .any),rfl,(fun e=>by simp at e),rfl,rfl,fun _=>.qX [101,102,103] (by exact .p (by exact ek aN rfl rfl rfl (pq (post:=((cO .i64) a_2.Hi)) (k:=.i64) [] e10 rfl rfl rfl) (nu (post:=((cO .i64) a_2.Hi)) (k:=.i64) [] e10 rfl rfl (A3.pW a_2.Lo x_3 (min x_5 x_6)) rfl rfl))) (by exact rfl)⟩,⟨Pt 101 3,fun _=>rfl,fun _=>.p (by exact ax c6 rfl rfl)⟩,trivial,trivial,trivial⟩,⟨by kernel_rfl,⟨trivial,⟨I x_3,fun _=>rfl,fun _=>.p (by exact aJ rfl)⟩,trivial,trivial,trivial,trivial,trivial,trivial,trivial,trivial,trivial,trivial,trivial,trivial,trivial,⟨I x_3,fun _=>rfl,fun _=>.p (by exact aJ rfl)⟩,⟨Pt 102 3,fun _=>rfl,fun _=>.p (by exact ax c6 rfl rfl)⟩,⟨.b (.ptr 102 (3 + (x_3:Int).toNat * 1)),fun _=>rfl,fun _=>.p (by exact bj cg (a8 e9) (dJ e9) rfl rfl rfl)⟩,⟨I x_8,fun _=>rfl,fun _=>.p (by exact aM aN rfl rfl (dC (post:=[]) (k:=.i64) ((cO .i64) b0.Lo) e9 rfl rfl rfl))⟩,⟨I (max x_7 x_8),fun _=>rfl,fun _=>.p (by exact l7 rfl rfl)⟩,trivial,trivial,trivial,⟨Pt 101 3,fun _=>rfl,fun _=>.p (by exact ax c6 rfl rfl)⟩,⟨.b (.ptr 101 (3 + (x_3:Int).toNat * 1)),fun _=>rfl,fun _=>.p (by exact bj cg (a8 e11) (dJ e11) rfl rfl rfl)⟩,⟨_,[],.b (.one .any),rfl,(fun e=>by simp at e),rfl,rfl,fun _=>.qX [101,102,103] (by exact .p (by exact ek aN rfl rfl rfl (pq (post:=[]) (k:=.i64) ((cO .i64) (a_2.Lo.set x_3 (min x_5 x_6))) e11 rfl rfl rfl) (nu (post:=[]) (k:=.i64) ((cO .i64) (a_2.Lo.set x_3 (min x_5 x_6))) e11 rfl rfl (A3.pW a_2.Hi x_3 (max x_7 x_8)) rfl rfl))) (by exact rfl)⟩,trivial⟩,⟨by kernel_rfl,⟨trivial,trivial,trivial,trivial,trivial,trivial,trivial,trivial,trivial,trivial,trivial,trivial,trivial,trivial,trivial,trivial,trivial,trivial,trivial,trivial,trivial,trivial,trivial,trivial,trivial,trivial,trivial⟩,trivial⟩⟩⟩) rfl rfl rfl [2,3,4,6] [101,102,103] (s':=⟨[(2,_),(3,_),(4,_),(6,_)],[(101,.box 25 ((cO .i64) (a_2.Lo.set x_3 (min x_5 x_6)) ++ ((cO .i64) (a_2.Hi.set x_3 (max x_7 x_8))))),(102,_),(103,_)]⟩) rfl ?_
   refine Fin.av (Fin.ag ⟨[(2,_),(3,_),(4,_),(6,_)],[(101,_),(102,_),(103,_)]⟩ rfl (Fin.then (ab.aa ?_)))
   refine Oc (bu rfl rfl) (Oc om ?_)
   refine af.nil ?_
   exact Fin.cr [2,3,4,6] [101,102,103] ((⟨a_2.Lo.set x_3 (min x_5 x_6),a_2.Hi.set x_3 (max x_7 x_8)⟩:cn),IntKind.i64.wrap (x_3 + 1)) (Option.some.inj h4) rfl
  ·refine ab.exit (Fin.aD ?_)
   obtain rfl:=hy5 _ (Option.some.inj h4).symm
   refine Fin.aD (Fin.aV ?_)
   exact Fin.join [2,4] [101,103] a_2 rfl rfl
 ·rintro a_1 hv
  subst v1
  refine ab.seq (ab.aa ?_)
  refine Oc (lp aE) (Oc (az aE rfl rfl rfl rfl (Nat.le_of_ble_eq_true rfl) rfl) ?_)
  refine af.ai ⟨[(4,_)],[(103,.box 25 (ao a_1))]⟩ rfl (ab.ret ?_)
  obtain rfl:=Option.some.inj h
  refine Fin.ag ⟨[(4,_)],[(103,_)]⟩ rfl (Fin.aw [.agg (ao a_1)] (.inl rfl) rfl (.cons (.agg aE rfl rfl rfl rfl) .nil) ⟨rfl,rfl⟩)
def fa (F:Nat) (s0:List cn) (f0:Nat):Option Int :=
 Option.bind (iter F (fun x_1=>if (decide (x_1 < (s0.length:Int))) = true then ((bd s0 x_1).bind fun x_2=>(jW F f0 x_2).bind fun x_3=>if x_3 = true then (some (.inr (.inr x_1))) else (some (.inl (IntKind.i64.wrap (x_1 + 1))))) else (some (.inr (.inl ())))) 0) (cc (fun _=>some (-1)) (fun y=>some y))
theorem jC {F:Nat} {s0:List cn} {f0:Nat} {r:Int} (h:fa F s0 f0 = some r):an Tryz.prog [] 67 [] [.one (.sl 6 (s0.map ao)),.one (.raw (.func (.func f0) #[] #[]))] (Is [] (.b (.one (.i r)))):=by
 unfold fa at h
 refine an.intro 19 Tryz.func67 Tryz.ntmps67 rfl (by simp) fun E=>?_
 show ab _ E ⟨19,[],[],[]⟩ _ ⟨[(0,.b (.one (.sl 6 (s0.map ao)))),(1,.b (.one (.raw (.func (.func f0) #[] #[]))))],[]⟩ _
 refine ab.seq (ab.aa ?_)
 refine Oc oa (af.ai ⟨[(0,.b (.one (.sl 6 (s0.map ao)))),(1,.b (.one (.raw (.func (.func f0) #[] #[]))))],[]⟩ rfl ?_)
 obtain ⟨v1,h2,h⟩:=aP h
 refine ab.dQ (v:=v1) (fun (_:Unit)=>⟨[],[]⟩) (fun z=>.inl z) ?_ ?_
 ·refine ab.seq (ab.aa ?_)
  refine Oc om (Oc (a7 und34 rfl (List.length_map _)) (Oc om ?_))
  refine af.ai ⟨[(0,_),(1,_),(7,I (s0.length:Int)),(8,I 0)],[]⟩ rfl (ab.block (ab.c9 h2 (fun (x_1:Int)=>⟨[(0,.b (.one (.sl 6 (s0.map ao)))),(1,.b (.one (.raw (.func (.func f0) #[] #[])))),(7,I (s0.length:Int)),(8,I x_1)],[]⟩) [0,1,7,8] [] rfl ?_))
  rintro x_1 o3 h4 hy5
  refine ab.seq (ab.aa ?_)
  refine Oc (bo rfl rfl) (af.ai ⟨[(0,_),(1,_),(7,_),(8,_),(9,B (decide (x_1 < (s0.length:Int))))],[]⟩ rfl (ab.seq (ab.ite h4 rfl (fun _ h4=>?_) (fun _ h4=>?_))))
  ·refine ab.skip (Fin.ag ⟨[(0,_),(1,_),(7,_),(8,_)],[]⟩ rfl (Fin.then (ab.seq (ab.block (ab.seq (ab.aa ?_))))))
   refine Oc om (Oc oa ?_)
   refine af.ai ⟨[(0,_),(1,_),(5,I x_1),(7,_),(8,_)],[]⟩ rfl (ab.seq (ab.aa ?_))
   refine Oc om (Oc om (Oc om ?_))
   obtain ⟨x_2,e6,h4⟩:=aP h4
   refine Oc (aY k6 (a8 e6) (bQ (e:=ao) e6) rfl rfl) (Oc (b8 aE rfl rfl rfl) ?_)
   obtain ⟨x_3,e7,h4⟩:=aP h4
   refine Oc (iM (qQ e7) (qR e7) rfl rfl rfl) (af.ai ⟨[(0,_),(1,_),(5,_),(7,_),(8,_),(16,B x_3)],[]⟩ rfl (ab.ite h4 rfl (fun _ h4=>?_) (fun _ h4=>?_)))
   ·refine ab.seq (ab.aa ?_)
    refine Oc om (Oc oa ?_)
    refine af.ai ⟨[(4,I x_1)],[]⟩ rfl (ab.ret (Fin.aO (Fin.au ?_)))
    obtain rfl:=hy5 _ (Option.some.inj h4).symm
    refine Fin.au (Fin.aO (Fin.au ?_))
    obtain rfl:=Option.some.inj h
    refine Fin.ag ⟨[(4,_)],[]⟩ rfl (Fin.aw [.one (.i x_1)] (.inl rfl) rfl (.cons (.tmp rfl) .nil) ⟨rfl,rfl⟩)
   ·refine ab.skip (Fin.av (Fin.ag ⟨[(0,_),(1,_),(7,_),(8,_)],[]⟩ rfl (Fin.then (ab.aa ?_))))
    refine Oc (bu rfl rfl) (Oc om ?_)
    refine af.nil ?_
    exact Fin.cr [0,1,7,8] [] (IntKind.i64.wrap (x_1 + 1)) (Option.some.inj h4) rfl
  ·refine ab.exit (Fin.aD ?_)
   obtain rfl:=hy5 _ (Option.some.inj h4).symm
   refine Fin.aD (Fin.aV ?_)
   exact Fin.join [] [] () rfl rfl
 ·rintro _ hv
  subst v1
  refine ab.seq (ab.aa ?_)
  refine Oc oa (af.ai ⟨[(4,I (-1))],[]⟩ rfl (ab.ret ?_))
  obtain rfl:=Option.some.inj h
  refine Fin.ag ⟨[(4,_)],[]⟩ rfl (Fin.aw [.one (.i (-1))] (.inl rfl) rfl (.cons (.tmp rfl) .nil) ⟨rfl,rfl⟩)
def dS (F:Nat) (s0:List cn) (f0:Nat):Option Bool :=
 (fa F s0 f0).bind fun x_1=>some (decide (0 ≤ x_1))
theorem iD {F:Nat} {s0:List cn} {f0:Nat} {r:Bool} (h:dS F s0 f0 = some r):an Tryz.prog [] 40 [] [.one (.sl 6 (s0.map ao)),.one (.raw (.func (.func f0) #[] #[]))] (Is [] (.b (.one (.bool r)))):=by
 unfold dS at h
 refine an.intro 9 Tryz.func40 Tryz.ntmps40 rfl (by simp) fun E=>?_
 show ab _ E ⟨9,[],[],[]⟩ _ ⟨[(0,.b (.one (.sl 6 (s0.map ao)))),(1,.b (.one (.raw (.func (.func f0) #[] #[]))))],[]⟩ _
 refine ab.seq (ab.aa ?_)
 refine Oc oa (af.ai ⟨[(0,.b (.one (.sl 6 (s0.map ao)))),(1,.b (.one (.raw (.func (.func f0) #[] #[]))))],[]⟩ rfl (ab.seq (ab.aa ?_)))
 refine Oc om (Oc om ?_)
 obtain ⟨x_1,e1,h⟩:=aP h
 refine Oc (aj (jC e1) goes67 rfl rfl) (Oc (nE rfl rfl) (Oc oa ?_))
 refine af.ai ⟨[(4,B (decide (0 ≤ x_1)))],[]⟩ rfl (ab.ret ?_)
 obtain rfl:=Option.some.inj h
 refine Fin.ag ⟨[(4,_)],[]⟩ rfl (Fin.aw [.one (.bool (decide (0 ≤ x_1)))] (.inl rfl) rfl (.cons (.tmp rfl) .nil) ⟨rfl,rfl⟩)
def eW (F:Nat) (k0:Int) (v0c:List cn) (v1c:Int):Option Bool :=
 (bd v0c k0).bind fun x_1=>(bd v0c v1c).bind fun x_2=>some (decide (x_1.Hi.a0 < x_2.Lo.a0))
theorem hS {F:Nat} {k0:Int} {v0c:List cn} {v1c:Int} {r:Bool} (h:eW F k0 v0c v1c = some r):an Tryz.prog [] 46 [] [.one (.i k0),.aL [.sl 6 (v0c.map ao)],.aL [.i v1c]] (Is [] (.b (.one (.bool r)))):=by
 unfold eW at h
 refine an.intro 18 Tryz.func46 Tryz.ntmps46 rfl (by simp) fun E=>?_
 show ab _ E ⟨18,[],[],[]⟩ _ ⟨[(0,I k0),(1,.b (.aL [.sl 6 (v0c.map ao)])),(2,.b (.aL [.i v1c]))],[]⟩ _
 refine ab.seq (ab.aa ?_)
 refine Oc oa (af.ai ⟨[(0,I k0),(1,.b (.aL [.sl 6 (v0c.map ao)])),(2,.b (.aL [.i v1c]))],[]⟩ rfl (ab.seq ?_))
 obtain ⟨x_1,e1,h⟩:=aP h
 obtain ⟨x_2,e2,h⟩:=aP h
 refine ab.b4 mixed 14 [.b (.one (.sl 6 (v0c.map ao))),I k0,.b (.aL (ao x_1)),.b (.aL ((cO .i64) x_1.Hi)),.b (.aL [.i x_1.Hi.a0]),I x_1.Hi.a0,.b (.one (.sl 6 (v0c.map ao))),I v1c,.b (.aL (ao x_2)),.b (.aL (ao x_2)),.b (.aL [.i x_2.Lo.a0]),I x_2.Lo.a0,B (decide (x_1.Hi.a0 < x_2.Lo.a0)),B (decide (x_1.Hi.a0 < x_2.Lo.a0))] [4] [] (s':=⟨[(4,B (decide (x_1.Hi.a0 < x_2.Lo.a0)))],[]⟩) rfl ⟨fun _=>.p (ar km rfl rfl),fun _=>.p om,fun _=>.p (aY k6 (a8 e1) (bQ (e:=ao) e1) rfl rfl),fun _=>by exact .p (aF c6 rfl rfl),fun _=>.p (mY cg (by decide) (by decide) rfl rfl rfl),fun _=>.p (ar aN rfl rfl),fun _=>.p (ar km rfl rfl),fun _=>.p (ar aN rfl rfl),fun _=>.p (aY k6 (a8 e2) (bQ (e:=ao) e2) rfl rfl),fun _=>by exact .p (aF c7 rfl rfl),fun _=>.p (mY cg (by decide) (by decide) rfl rfl rfl),fun _=>.p (ar aN rfl rfl),fun _=>.p (bo rfl rfl),fun _=>.p oa,trivial⟩ rfl rfl (ab.ret ?_)
 obtain rfl:=Option.some.inj h
 refine Fin.ag ⟨[(4,_)],[]⟩ rfl (Fin.aw [.one (.bool (decide (x_1.Hi.a0 < x_2.Lo.a0)))] (.inl rfl) rfl (.cons (.tmp rfl) .nil) ⟨rfl,rfl⟩)
def er (F:Nat) (s0:List Int) (f0:(List cn) × Int):Option Int :=
 Option.bind (iter F (fun x_1=>if (decide (x_1 < (s0.length:Int))) = true then ((bd s0 x_1).bind fun x_2=>(eW F x_2 f0.1 f0.2).bind fun x_3=>if x_3 = true then (some (.inr (.inr x_1))) else (some (.inl (IntKind.i64.wrap (x_1 + 1))))) else (some (.inr (.inl ())))) 0) (cc (fun _=>some (-1)) (fun y=>some y))
theorem iR {F:Nat} {s0:List Int} {f0:(List cn) × Int} {r:Int} (h:er F s0 f0 = some r):an Tryz.prog [] 71 [] [.one (.sl 1 (s0.map eI)),.one (.fl 46 [CP.rp [.sl 6 (f0.1.map ao)],CP.rp [.i f0.2]])] (Is [] (.b (.one (.i r)))):=by
 unfold er at h
 refine an.intro 19 Tryz.func71 Tryz.ntmps71 rfl (by simp) fun E=>?_
 show ab _ E ⟨19,[],[],[]⟩ _ ⟨[(0,.b (.one (.sl 1 (s0.map eI)))),(1,.b (.one (.fl 46 [CP.rp [.sl 6 (f0.1.map ao)],CP.rp [.i f0.2]])))],[]⟩ _
 refine ab.seq (ab.aa ?_)
 refine Oc oa (af.ai ⟨[(0,.b (.one (.sl 1 (s0.map eI)))),(1,.b (.one (.fl 46 [CP.rp [.sl 6 (f0.1.map ao)],CP.rp [.i f0.2]])))],[]⟩ rfl ?_)
 obtain ⟨v1,h2,h⟩:=aP h
 refine ab.dQ (v:=v1) (fun (_:Unit)=>⟨[],[]⟩) (fun z=>.inl z) ?_ ?_
 ·refine ab.seq (ab.aa ?_)
  refine Oc om (Oc (a7 dU rfl (List.length_map _)) (Oc om ?_))
  refine af.ai ⟨[(0,_),(1,_),(7,I (s0.length:Int)),(8,I 0)],[]⟩ rfl (ab.block (ab.c9 h2 (fun (x_1:Int)=>⟨[(0,.b (.one (.sl 1 (s0.map eI)))),(1,.b (.one (.fl 46 [CP.rp [.sl 6 (f0.1.map ao)],CP.rp [.i f0.2]]))),(7,I (s0.length:Int)),(8,I x_1)],[]⟩) [0,1,7,8] [] rfl ?_))
  rintro x_1 o3 h4 hy5
  refine ab.seq (ab.aa ?_)
  refine Oc (bo rfl rfl) (af.ai ⟨[(0,_),(1,_),(7,_),(8,_),(9,B (decide (x_1 < (s0.length:Int))))],[]⟩ rfl (ab.seq (ab.ite h4 rfl (fun _ h4=>?_) (fun _ h4=>?_))))
  ·refine ab.skip (Fin.ag ⟨[(0,_),(1,_),(7,_),(8,_)],[]⟩ rfl (Fin.then (ab.seq (ab.block (ab.seq (ab.aa ?_))))))
   refine Oc om (Oc oa ?_)
   refine af.ai ⟨[(0,_),(1,_),(5,I x_1),(7,_),(8,_)],[]⟩ rfl (ab.seq (ab.aa ?_))
   refine Oc om (Oc om (Oc om ?_))
   obtain ⟨x_2,e6,h4⟩:=aP h4
   refine Oc (aY bK (a8 e6) (bQ (e:=eI) e6) rfl rfl) (Oc (ar aN rfl rfl) ?_)
   obtain ⟨x_3,e7,h4⟩:=aP h4
   refine Oc (nO (pss:=[[.sl 6 (f0.1.map ao)],[.i f0.2]]) (hS e7) tS rfl rfl rfl trivial rfl rfl) (af.ai ⟨[(0,_),(1,_),(5,_),(7,_),(8,_),(16,B x_3)],[]⟩ rfl (ab.ite h4 rfl (fun _ h4=>?_) (fun _ h4=>?_)))
   ·refine ab.seq (ab.aa ?_)
    refine Oc om (Oc oa ?_)
    refine af.ai ⟨[(4,I x_1)],[]⟩ rfl (ab.ret (Fin.aO (Fin.au ?_)))
    obtain rfl:=hy5 _ (Option.some.inj h4).symm
    refine Fin.au (Fin.aO (Fin.au ?_))
    obtain rfl:=Option.some.inj h
    refine Fin.ag ⟨[(4,_)],[]⟩ rfl (Fin.aw [.one (.i x_1)] (.inl rfl) rfl (.cons (.tmp rfl) .nil) ⟨rfl,rfl⟩)
   ·refine ab.skip (Fin.av (Fin.ag ⟨[(0,_),(1,_),(7,_),(8,_)],[]⟩ rfl (Fin.then (ab.aa ?_))))
    refine Oc (bu rfl rfl) (Oc om ?_)
    refine af.nil ?_
    exact Fin.cr [0,1,7,8] [] (IntKind.i64.wrap (x_1 + 1)) (Option.some.inj h4) rfl
  ·refine ab.exit (Fin.aD ?_)
   obtain rfl:=hy5 _ (Option.some.inj h4).symm
   refine Fin.aD (Fin.aV ?_)
   exact Fin.join [] [] () rfl rfl
 ·rintro _ hv
  subst v1
  refine ab.seq (ab.aa ?_)
  refine Oc oa (af.ai ⟨[(4,I (-1))],[]⟩ rfl (ab.ret ?_))
  obtain rfl:=Option.some.inj h
  refine Fin.ag ⟨[(4,_)],[]⟩ rfl (Fin.aw [.one (.i (-1))] (.inl rfl) rfl (.cons (.tmp rfl) .nil) ⟨rfl,rfl⟩)
def eH (F:Nat) (del0:(List cn) × Int) (s0:List Int):Option (List Int) :=
 (er F s0 (del0.1,del0.2)).bind fun x_1=>if (decide (x_1 = (-1))) = true then (some s0) else (Option.bind (iter F (un3 fun s_4 i_5 j_6=>if (decide (j_6 < (s_4.length:Int))) = true then (Option.bind ((bd s_4 j_6).bind fun x_11=>(eW F x_11 del0.1 del0.2).bind fun x_12=>if (!x_12) = true then ((bd s_4 i_5).bind fun x_13=>some (s_4.set (i_5:Int).toNat x_11,IntKind.i64.wrap (i_5 + 1))) else (some (s_4,i_5))) (dX fun s_9 i_10=>some (.inl (s_9,i_10,IntKind.i64.wrap (j_6 + 1))))) else (some (.inr (s_4,i_5)))) (s0,x_1,IntKind.i64.wrap (x_1 + 1))) (dX fun s_2 i_3=>Option.bind (clr? (0:Int) s_2 i_3) (fun z_14=>(nA z_14 i_3).bind fun x_15=>some x_15)))
theorem jq {F:Nat} {del0:(List cn) × Int} {s0:List Int} {r:(List Int)} (h:eH F del0 s0 = some r):an Tryz.prog [] 45 [(1,.row 3 1 (s0.map eI))] [.row 1,.one (.fl 46 [CP.rp [.sl 6 (del0.1.map ao)],CP.rp [.i del0.2]])] (Is [(1,.row 3 1 (r.map eI))] (.b (.row 1))):=by
 unfold eH at h
 refine an.intro 42 Tryz.func45 Tryz.ntmps45 rfl (by simp) fun E=>?_
 show ab _ E ⟨42,[],[1],[]⟩ _ ⟨[(0,.b (.row 1)),(1,.b (.one (.fl 46 [CP.rp [.sl 6 (del0.1.map ao)],CP.rp [.i del0.2]])))],[(1,.row 3 1 (s0.map eI))]⟩ _
 refine ab.seq (ab.aa ?_)
 refine Oc oa (af.ai ⟨[(0,.b (.row 1)),(1,.b (.one (.fl 46 [CP.rp [.sl 6 (del0.1.map ao)],CP.rp [.i del0.2]])))],[(1,.row 3 1 (s0.map eI))]⟩ rfl (ab.seq (ab.aa ?_)))
 refine Oc om (Oc om ?_)
 obtain ⟨x_1,e1,h⟩:=aP h
 refine Oc (fY (iR e1) goes71 rfl CP.qq) (Oc oa ?_)
 refine af.ai ⟨[(0,_),(1,_),(5,I x_1)],[(1,_)]⟩ rfl (ab.seq (ab.seq (ab.aa ?_)))
 refine Oc om (Oc (cR rfl rfl) ?_)
 refine af.ai ⟨[(0,_),(1,_),(5,_),(12,B (decide (x_1 = (-1))))],[(1,_)]⟩ rfl (ab.ite h rfl (fun _ h=>?_) (fun _ h=>?_))
 ·refine ab.seq (ab.aa ?_)
  refine Oc om (Oc oa ?_)
  refine af.ai ⟨[(4,.b (.row 1))],[(1,_)]⟩ rfl (ab.ret (Fin.au ?_))
  obtain rfl:=Option.some.inj h
  refine Fin.ag ⟨[(4,_)],[(1,_)]⟩ rfl ?_
  exact Fin.result [.row 1] (.inl rfl) rfl (.cons (.tmp rfl) .nil) ⟨rfl,rfl⟩
 ·refine ab.skip (Fin.ag ⟨[(0,_),(1,_),(5,_)],[(1,_)]⟩ rfl (Fin.then ?_))
  obtain ⟨v2,h3,h⟩:=aP h
  refine ab.dQ (v:=v2) (dX fun (s_2:List Int) (i_3:Int)=>⟨[(0,.b (.row 1)),(5,I i_3)],[(1,.row 3 1 (s_2.map eI))]⟩) (fun z=>z) ?_ ?_
  ·refine ab.seq (ab.aa ?_)
   refine Oc om (Oc (bu rfl rfl) (Oc oa ?_))
   refine af.ai ⟨[(0,_),(1,_),(5,_),(6,I (IntKind.i64.wrap (x_1 + 1)))],[(1,_)]⟩ rfl (ab.block (ab.c9 h3 (un3 fun (s_4:List Int) (i_5:Int) (j_6:Int)=>⟨[(0,.b (.row 1)),(1,.b (.one (.fl 46 [CP.rp [.sl 6 (del0.1.map ao)],CP.rp [.i del0.2]]))),(5,I i_5),(6,I j_6)],[(1,.row 3 1 (s_4.map eI))]⟩) [0,1,5,6] [1] rfl ?_))
   rintro ⟨s_4,i_5,j_6⟩ o4 h5 hy6
   refine ab.seq (ab.seq (ab.aa ?_))
   refine Oc om (Oc om (Oc (dM dU rfl rfl (List.length_map _)) (Oc (bo rfl rfl) ?_)))
   refine af.ai ⟨[(0,_),(1,_),(5,_),(6,_),(19,B (decide (j_6 < (s_4.length:Int))))],[(1,_)]⟩ rfl (ab.ite h5 rfl (fun _ h5=>?_) (fun _ h5=>?_))
   ·refine ab.skip (Fin.ag ⟨[(0,_),(1,_),(5,_),(6,_)],[(1,_)]⟩ rfl (Fin.then ?_))
    obtain ⟨v7,h8,h5⟩:=aP h5
    refine ab.dQ (v:=v7) (dX fun (s_9:List Int) (i_10:Int)=>⟨[(0,.b (.row 1)),(1,.b (.one (.fl 46 [CP.rp [.sl 6 (del0.1.map ao)],CP.rp [.i del0.2]]))),(5,I i_10),(6,I j_6)],[(1,.row 3 1 (s_9.map eI))]⟩) (fun z=>z) ?_ ?_
    ·refine ab.block (ab.seq (ab.aa ?_))
     refine Oc om (Oc om ?_)
     obtain ⟨x_11,e9,h8⟩:=aP h8
     refine Oc (df bK (a8 e9) (iw e9) rfl rfl rfl rfl) (Oc (fL (i:=(j_6:Int).toNat) (f:=0) aN rfl rfl rfl (bQ (e:=eI) e9) rfl) (Oc oa ?_))
     refine af.ai ⟨[(0,_),(1,_),(5,_),(6,_),(7,I x_11)],[(1,_)]⟩ rfl (ab.seq (ab.aa ?_))
     refine Oc om (Oc om ?_)
     obtain ⟨x_12,e10,h8⟩:=aP h8
     refine Oc (nO (pss:=[[.sl 6 (del0.1.map ao)],[.i del0.2]]) (hS e10) tS rfl rfl rfl trivial rfl rfl) (Oc (ee rfl) ?_)
     refine af.ai ⟨[(0,_),(1,_),(5,_),(6,_),(7,_),(29,B (!x_12))],[(1,_)]⟩ rfl (ab.ite h8 rfl (fun _ h8=>?_) (fun _ h8=>?_))
     ·refine ab.seq (ab.aa ?_)
      refine Oc om (Oc om (Oc om ?_))
      obtain ⟨x_13,e11,h8⟩:=aP h8
      refine Oc (df bK (a8 e11) (iw e11) rfl rfl rfl rfl) (Oc (jY (i:=(i_5:Int).toNat) aN rfl rfl rfl rfl (tz e11) (map_set _ _ _ _)) ?_)
      refine af.ai ⟨[(0,_),(1,_),(5,_),(6,_)],[(1,.row 3 1 ((s_4.set (i_5:Int).toNat x_11).map eI))]⟩ rfl (ab.aa (Oc om (Oc (bu rfl rfl) (Oc oa ?_))))
      refine af.nil (Fin.av ?_)
      exact Fin.join [0,1,5,6] [1] (s_4.set (i_5:Int).toNat x_11,IntKind.i64.wrap (i_5 + 1)) (Option.some.inj h8) rfl
     ·refine ab.skip (Fin.av ?_)
      exact Fin.join [0,1,5,6] [1] (s_4,i_5) (Option.some.inj h8) rfl
    ·rintro ⟨s_9,i_10⟩ hv
     subst v7
     refine ab.aa (Oc om (Oc (bu rfl rfl) (Oc oa ?_)))
     refine af.nil ?_
     exact Fin.cr [0,1,5,6] [1] (s_9,i_10,IntKind.i64.wrap (j_6 + 1)) (Option.some.inj h5) rfl
   ·refine ab.exit (Fin.aD ?_)
    obtain rfl:=hy6 _ (Option.some.inj h5).symm
    refine Fin.aD (Fin.aV ?_)
    exact Fin.join [0,5] [1] (s_4,i_5) rfl rfl
  ·rintro ⟨s_2,i_3⟩ hv
   subst v2
   refine ab.seq (ab.aa ?_)
   refine Oc om (Oc om ?_)
   obtain ⟨z_14,e12,h⟩:=aP h
   refine af.clr (enc:=eI) bK rfl e12 rfl rfl rfl (by decide) rfl (af.ai ⟨[(0,_),(5,_)],[(1,.row 3 1 (z_14.map eI))]⟩ rfl (ab.seq (ab.aa ?_)))
   refine Oc om (Oc om ?_)
   obtain ⟨x_15,e13,h⟩:=aP h
   refine Oc (kS bK e13 rfl rfl rfl rfl) (Oc oa ?_)
   refine af.ai ⟨[(4,.b (.row 1))],[(1,.row 3 1 (x_15.map eI))]⟩ rfl (ab.ret ?_)
   obtain rfl:=Option.some.inj h
   refine Fin.ag ⟨[(4,_)],[(1,_)]⟩ rfl ?_
   exact Fin.result [.row 1] (.inl rfl) rfl (.cons (.tmp rfl) .nil) ⟨rfl,rfl⟩
def dW (F:Nat) (l0:List A2):Option (List A2) :=
 (cW F l0).bind fun x_1=>some x_1
theorem kj {F:Nat} {l0:List A2} {r:(List A2)} (h:dW F l0 = some r):an Tryz.prog [] 47 [(1,.dB 40 2 (l0.map (cx .i64)))] [.row 1] (Is [(1,.dB 40 2 (r.map (cx .i64)))] (.dY [])):=by
 unfold dW at h
 refine an.intro 4 Tryz.func47 Tryz.ntmps47 rfl (by simp) fun E=>?_
 show ab _ E ⟨4,[1],[1],[]⟩ _ ⟨[(0,.b (.row 1))],[(1,.dB 40 2 (l0.map (cx .i64)))]⟩ _
 refine ab.sK 1 rfl (ab.aa (Oc om (af.sL 1 rfl ?_)))
 obtain ⟨x_1,e1,h⟩:=aP h
 refine Oc (cX (own_a:=[(1,_)]) (jB e1) goes72 rfl ⟨rfl,trivial⟩ rfl rfl) (af.sK 1 rfl (af.nil ?_))
 obtain rfl:=Option.some.inj h
 refine Fin.ag ⟨[],[(1,.row 40 2 (x_1.map (cx .i64)))]⟩ rfl (Fin.sL 1 rfl (Fin.ag ⟨[],[(1,.dB 40 2 (x_1.map (cx .i64)))]⟩ rfl ?_))
 exact Fin.result [] (.inr rfl) rfl (.nil) ⟨rfl,rfl⟩
def eV (F:Nat) (l0:List cn):Option ((List A2) × Int) :=
 (dS F l0 41).bind fun x_1=>if x_1 = true then (some ([],1)) else (Option.bind (mk? (0:Int) (l0.length:Int) (l0.length:Int)) (fun x_2=>Option.bind (iter F (dX fun order_4 x_5=>if (decide (x_5 < (x_2.length:Int))) = true then ((bd order_4 x_5).bind fun x_7=>some (.inl (order_4.set (x_5:Int).toNat x_5,IntKind.i64.wrap (x_5 + 1)))) else (some (.inr order_4))) (x_2,0)) (fun order_3=>(fE F l0 order_3).bind fun x_8=>Option.bind (iter F (un3 fun active_10 out_11 x_12=>if (decide (x_12 < (x_8.length:Int))) = true then (Option.bind ((bd x_8 x_12).bind fun x_16=>(eH F (l0,x_16) active_10).bind fun x_17=>Option.bind (iter F (dX fun out_19 x_20=>if (decide (x_20 < (x_17.length:Int))) = true then (Option.bind ((bd x_17 x_20).bind fun x_23=>(bd l0 x_16).bind fun x_24=>(bd l0 x_23).bind fun x_25=>(cC F x_24 x_25).bind fun x_26=>if x_26 = true then ((kZ out_19 [(⟨min x_16 x_23,max x_16 x_23⟩:A2)]).bind fun x_27=>some x_27) else (some out_19)) (fun out_22=>some (.inl (out_22,IntKind.i64.wrap (x_20 + 1))))) else (some (.inr out_19))) (out_11,0)) (fun out_18=>(kZ x_17 [x_16]).bind fun x_28=>some (x_28,out_18))) (dX fun active_14 out_15=>some (.inl (active_14,out_15,IntKind.i64.wrap (x_12 + 1))))) else (some (.inr out_11))) ([],[],0)) (fun out_9=>(dW F out_9).bind fun x_29=>some (x_29,0)))))
theorem iP (kr0:Nat) {F:Nat} {l0:List cn} {r:(List A2) × Int} (h:eV F l0 = some r):an Tryz.prog [] 20 [] [.one (.sl 6 (l0.map ao))] (Is [(kr0,.row 40 2 (r.1.map (cx .i64)))] (.dY [.row kr0,.one (.i r.2)])):=by
 unfold eV at h
 refine an.intro 73 Tryz.func20 Tryz.ntmps20 rfl (by simp) fun E=>?_
 show ab _ E ⟨73,[],[],[]⟩ _ ⟨[(0,.b (.one (.sl 6 (l0.map ao))))],[]⟩ _
 refine ab.seq (ab.aa ?_)
 refine Oc (pz rfl) (Oc oa (Oc oa ?_))
 refine af.ai ⟨[(1,.b (.aL [.sl 6 (l0.map ao)]))],[]⟩ rfl (ab.seq (ab.seq (ab.aa ?_)))
 refine Oc (ar km rfl rfl) ?_
 obtain ⟨x_1,e1,h⟩:=aP h
 refine Oc (aj (iD e1) goes40 rfl rfl) (af.ai ⟨[(1,_),(13,B x_1)],[]⟩ rfl (ab.ite h rfl (fun _ h=>?_) (fun _ h=>?_)))
 ·refine ab.seq (ab.aa ?_)
  refine Oc oa (Oc oa ?_)
  refine af.ai ⟨[(2,.b (.one (.nil))),(3,I 1)],[]⟩ rfl (ab.ret (Fin.au ?_))
  obtain rfl:=Option.some.inj h
  refine Fin.ag ⟨[(2,_),(3,_)],[]⟩ rfl (Fin.fG 2 101 2 40 rfl (by decide) rfl (Fin.lI 101 kr0 [.row 101,.one (.i 1)] (.inl rfl) rfl (.cons (.tmp rfl) (.cons (.tmp rfl) .nil)) rfl rfl rfl rfl ⟨rfl,rfl⟩))
 ·refine ab.skip (Fin.ag ⟨[(1,_)],[]⟩ rfl (Fin.then (ab.seq (ab.aa ?_))))
  refine Oc (ar km rfl rfl) (Oc (a7 und34 rfl (List.length_map _)) ?_)
  obtain ⟨x_2,e2,h⟩:=aP h
  refine Oc (pL (k:=102) (enc:=eI) bK e2 (by decide) (.cons .refl .nil) rfl rfl rfl) (Oc oa ?_)
  refine af.ai ⟨[(1,_),(4,.b (.row 102))],[(102,.row 3 1 (x_2.map eI))]⟩ rfl ?_
  obtain ⟨v3,h4,h⟩:=aP h
  refine ab.dQ (v:=v3) (fun (order_3:List Int)=>⟨[(1,.b (.aL [.sl 6 (l0.map ao)])),(4,.b (.row 102))],[(102,.row 3 1 (order_3.map eI))]⟩) (fun z=>z) ?_ ?_
  ·refine ab.seq (ab.aa ?_)
   refine Oc om (Oc (dM dU rfl rfl (List.length_map _)) (Oc om ?_))
   refine af.ai ⟨[(1,_),(4,_),(18,I (x_2.length:Int)),(19,I 0)],[(102,_)]⟩ rfl (ab.block (ab.c9 h4 (dX fun (order_4:List Int) (x_5:Int)=>⟨[(1,.b (.aL [.sl 6 (l0.map ao)])),(4,.b (.row 102)),(18,I (x_2.length:Int)),(19,I x_5)],[(102,.row 3 1 (order_4.map eI))]⟩) [1,4,18,19] [102] rfl ?_))
   rintro ⟨order_4,x_5⟩ o5 h6 hy7
   refine ab.seq (ab.aa ?_)
   refine Oc (bo rfl rfl) (af.ai ⟨[(1,_),(4,_),(18,_),(19,_),(20,B (decide (x_5 < (x_2.length:Int))))],[(102,_)]⟩ rfl (ab.seq (ab.ite h6 rfl (fun _ h6=>?_) (fun _ h6=>?_))))
   ·refine ab.skip (Fin.ag ⟨[(1,_),(4,_),(18,_),(19,_)],[(102,_)]⟩ rfl (Fin.then (ab.seq (ab.block (ab.seq (ab.aa ?_))))))
    refine Oc om (Oc oa ?_)
    refine af.ai ⟨[(1,_),(4,_),(5,I x_5),(18,_),(19,_)],[(102,_)]⟩ rfl (ab.aa (Oc om (Oc om (Oc om ?_))))
    obtain ⟨x_7,e8,h6⟩:=aP h6
    refine Oc (df bK (a8 e8) (iw e8) rfl rfl rfl rfl) (Oc (jY (i:=(x_5:Int).toNat) aN rfl rfl rfl rfl (tz e8) (map_set _ _ _ _)) ?_)
    refine af.nil (Fin.av (Fin.ag ⟨[(1,_),(4,_),(18,_),(19,_)],[(102,.row 3 1 ((order_4.set (x_5:Int).toNat x_5).map eI))]⟩ rfl (Fin.then (ab.aa ?_))))
    refine Oc (bu rfl rfl) (Oc om ?_)
    refine af.nil ?_
    exact Fin.cr [1,4,18,19] [102] (order_4.set (x_5:Int).toNat x_5,IntKind.i64.wrap (x_5 + 1)) (Option.some.inj h6) rfl
   ·refine ab.exit (Fin.aD ?_)
    obtain rfl:=hy7 _ (Option.some.inj h6).symm
    refine Fin.aD (Fin.aV ?_)
    exact Fin.join [1,4] [102] order_4 rfl rfl
  ·rintro order_3 hv
   subst v3
   refine ab.seq (ab.aa ?_)
   refine Oc om (Oc (gB rfl) ?_)
   refine af.sL 102 rfl ?_
   obtain ⟨x_8,e9,h⟩:=aP h
   refine Oc (cX (own_a:=[(102,_)]) ((kg e9).sw 1 102) goes42 rfl ⟨rfl,trivial⟩ rfl rfl) (af.sK 102 rfl (af.ai ⟨[(1,_),(4,_)],[(102,.row 3 1 (x_8.map eI))]⟩ rfl (ab.seq (ab.aa ?_))))
   refine Oc oa (af.ai ⟨[(1,_),(4,_),(6,.b (.one (.nil)))],[(102,_)]⟩ rfl (ab.seq (ab.aa ?_)))
   refine Oc oa (af.ai ⟨[(1,_),(4,_),(6,_),(7,.b (.one (.nil)))],[(102,_)]⟩ rfl ?_)
   obtain ⟨v10,h11,h⟩:=aP h
   refine ab.dQ (v:=v10) (fun (out_9:List A2)=>⟨[(7,.b (.row 106))],[(106,.row 40 2 (out_9.map (cx .i64)))]⟩) (fun z=>z) ?_ ?_
   ·refine ab.seq (ab.aa ?_)
    refine Oc om (Oc (dM dU rfl rfl (List.length_map _)) (Oc om ?_))
    refine af.ai ⟨[(1,_),(6,_),(7,_),(30,.b (.row 102)),(31,I (x_8.length:Int)),(32,I 0)],[(102,_)]⟩ rfl (ab.block (ab.fG 6 104 1 3 rfl (by decide) rfl (ab.fG 7 106 2 40 rfl (by decide) rfl (ab.c9 h11 (un3 fun (active_10:List Int) (out_11:List A2) (x_12:Int)=>⟨[(1,.b (.aL [.sl 6 (l0.map ao)])),(6,.b (.row 104)),(7,.b (.row 106)),(30,.b (.row 102)),(31,I (x_8.length:Int)),(32,I x_12)],[(102,.row 3 1 (x_8.map eI)),(104,.row 3 1 (active_10.map eI)),(106,.row 40 2 (out_11.map (cx .i64)))]⟩) [1,6,7,30,31,32] [102,104,106] rfl ?_))))
    rintro ⟨active_10,out_11,x_12⟩ o12 h13 hy14
    refine ab.seq (ab.aa ?_)
    refine Oc (bo rfl rfl) (af.ai ⟨[(1,_),(6,_),(7,_),(30,_),(31,_),(32,_),(33,B (decide (x_12 < (x_8.length:Int))))],[(102,_),(104,_),(106,_)]⟩ rfl (ab.seq (ab.ite h13 rfl (fun _ h13=>?_) (fun _ h13=>?_))))
    ·refine ab.skip (Fin.ag ⟨[(1,_),(6,_),(7,_),(30,_),(31,_),(32,_)],[(102,_),(104,_),(106,_)]⟩ rfl (Fin.then ?_))
     obtain ⟨v15,h16,h13⟩:=aP h13
     refine ab.dQ (v:=v15) (dX fun (active_14:List Int) (out_15:List A2)=>⟨[(1,.b (.aL [.sl 6 (l0.map ao)])),(6,.b (.row 104)),(7,.b (.row 106)),(30,.b (.row 102)),(31,I (x_8.length:Int)),(32,I x_12)],[(102,.row 3 1 (x_8.map eI)),(104,.row 3 1 (active_14.map eI)),(106,.row 40 2 (out_15.map (cx .i64)))]⟩) (fun z=>z) ?_ ?_
     ·refine ab.block (ab.seq (ab.aa ?_))
      obtain ⟨x_16,e17,h16⟩:=aP h16
      refine Oc (df bK (a8 e17) (iw e17) rfl rfl rfl rfl) (Oc (fL (i:=(x_12:Int).toNat) (f:=0) aN rfl rfl rfl (bQ (e:=eI) e17) rfl) (Oc (aW (k:=107) tyZero3 rfl) (Oc (ek aN rfl rfl rfl (Nat.le_of_ble_eq_true rfl) rfl) ?_)))
      refine af.fX 107 rfl (af.ai ⟨[(1,_),(6,_),(7,_),(9,.b (.aL [.i x_16])),(30,_),(31,_),(32,_)],[(102,_),(104,_),(106,_)]⟩ rfl (ab.seq (ab.aa ?_)))
      refine Oc om (Oc (gB rfl) ?_)
      obtain ⟨x_17,e18,h16⟩:=aP h16
      refine Oc (cX (own_a:=[(104,_)]) ((jq e18).sw 1 104) goes45 rfl ⟨rfl,trivial⟩ rfl rfl) (Oc oa ?_)
      refine af.ai ⟨[(1,_),(6,_),(7,_),(9,_),(30,_),(31,_),(32,_)],[(102,_),(104,.row 3 1 (x_17.map eI)),(106,_)]⟩ rfl ?_
      obtain ⟨v19,h20,h16⟩:=aP h16
      refine ab.dQ (v:=v19) (fun (out_18:List A2)=>⟨[(1,.b (.aL [.sl 6 (l0.map ao)])),(6,.b (.row 104)),(7,.b (.row 106)),(9,.b (.aL [.i x_16])),(30,.b (.row 102)),(31,I (x_8.length:Int)),(32,I x_12)],[(102,.row 3 1 (x_8.map eI)),(104,.row 3 1 (x_17.map eI)),(106,.row 40 2 (out_18.map (cx .i64)))]⟩) (fun z=>z) ?_ ?_
      ·refine ab.seq (ab.aa ?_)
       refine Oc om (Oc (dM dU rfl rfl (List.length_map _)) (Oc om ?_))
       refine af.ai ⟨[(1,_),(6,_),(7,_),(9,_),(30,_),(31,_),(32,_),(39,.b (.row 104)),(40,I (x_17.length:Int)),(41,I 0)],[(102,_),(104,_),(106,_)]⟩ rfl (ab.block (ab.c9 h20 (dX fun (out_19:List A2) (x_20:Int)=>⟨[(1,.b (.aL [.sl 6 (l0.map ao)])),(6,.b (.row 104)),(7,.b (.row 106)),(9,.b (.aL [.i x_16])),(30,.b (.row 102)),(31,I (x_8.length:Int)),(32,I x_12),(39,.b (.row 104)),(40,I (x_17.length:Int)),(41,I x_20)],[(102,.row 3 1 (x_8.map eI)),(104,.row 3 1 (x_17.map eI)),(106,.row 40 2 (out_19.map (cx .i64)))]⟩) [1,6,7,9,30,31,32,39,40,41] [102,104,106] rfl ?_))
       rintro ⟨out_19,x_20⟩ o21 h22 hy23
       refine ab.seq (ab.aa ?_)
       refine Oc (bo rfl rfl) (af.ai ⟨[(1,_),(6,_),(7,_),(9,_),(30,_),(31,_),(32,_),(39,_),(40,_),(41,_),(42,B (decide (x_20 < (x_17.length:Int))))],[(102,_),(104,_),(106,_)]⟩ rfl (ab.seq (ab.ite h22 rfl (fun _ h22=>?_) (fun _ h22=>?_))))
       ·refine ab.skip (Fin.ag ⟨[(1,_),(6,_),(7,_),(9,_),(30,_),(31,_),(32,_),(39,_),(40,_),(41,_)],[(102,_),(104,_),(106,_)]⟩ rfl (Fin.then ?_))
        obtain ⟨v24,h25,h22⟩:=aP h22
        refine ab.dQ (v:=v24) (fun (out_22:List A2)=>⟨[(1,.b (.aL [.sl 6 (l0.map ao)])),(6,.b (.row 104)),(7,.b (.row 106)),(9,.b (.aL [.i x_16])),(30,.b (.row 102)),(31,I (x_8.length:Int)),(32,I x_12),(39,.b (.row 104)),(40,I (x_17.length:Int)),(41,I x_20)],[(102,.row 3 1 (x_8.map eI)),(104,.row 3 1 (x_17.map eI)),(106,.row 40 2 (out_22.map (cx .i64)))]⟩) (fun z=>z) ?_ ?_
        ·refine ab.block (ab.seq (ab.aa ?_))
         obtain ⟨x_23,e26,h25⟩:=aP h25
         refine Oc (df bK (a8 e26) (iw e26) rfl rfl rfl rfl) (Oc (fL (i:=(x_20:Int).toNat) (f:=0) aN rfl rfl rfl (bQ (e:=eI) e26) rfl) (Oc oa ?_))
         refine af.ai ⟨[(1,_),(6,_),(7,_),(9,_),(11,I x_23),(30,_),(31,_),(32,_),(39,_),(40,_),(41,_)],[(102,_),(104,_),(106,_)]⟩ rfl (ab.seq ?_)
         obtain ⟨x_24,e27,h25⟩:=aP h25
         obtain ⟨x_25,e28,h25⟩:=aP h25
         obtain ⟨x_26,e29,h25⟩:=aP h25
         refine ab.b4 mixed 9 [.b (.one (.sl 6 (l0.map ao))),I x_16,.b (.aL (ao x_24)),.b (.agg (ao x_24)),.b (.one (.sl 6 (l0.map ao))),I x_23,.b (.aL (ao x_25)),.b (.agg (ao x_25)),B x_26] [1,6,7,9,11,30,31,32,39,40,41,53] [102,104,106] (s':=⟨[(1,_),(6,_),(7,_),(9,_),(11,_),(30,_),(31,_),(32,_),(39,_),(40,_),(41,_),(53,B x_26)],[(102,_),(104,_),(106,_)]⟩) rfl ⟨fun _=>.p (ar km rfl rfl),fun _=>.p (ar aN rfl rfl),fun _=>.p (aY k6 (a8 e27) (bQ (e:=ao) e27) rfl rfl),fun _=>.p (b8 aE rfl rfl rfl),fun _=>.p (ar km rfl rfl),fun _=>.p om,fun _=>.p (aY k6 (a8 e28) (bQ (e:=ao) e28) rfl rfl),fun _=>.p (b8 aE rfl rfl rfl),fun _=>.p (aj (c8 e29) mc rfl rfl),trivial⟩ rfl rfl (ab.ite h25 rfl (fun _ h25=>?_) (fun _ h25=>?_))
         ·refine ab.aa (Oc om (Oc (ar aN rfl rfl) (Oc om (Oc (nD rfl rfl) (Oc (ar aN rfl rfl) (Oc om ?_))))))
          refine af.ag ⟨[(1,_),(6,_),(7,_),(9,_),(30,_),(31,_),(32,_),(39,_),(40,_),(41,_),(54,.b (.row 106)),(57,I (min x_16 x_23)),(58,I x_16),(59,I x_23)],[(102,_),(104,_),(106,_)]⟩ rfl (Oc (l7 rfl rfl) (Oc (cP dr rfl rfl) (Oc (cD (k:=108) (es:=[(⟨min x_16 x_23,max x_16 x_23⟩:A2)].map (cx .i64)) gl rfl rfl (cG fun _=>rfl) rfl (by decide) (by decide) rfl) ?_)))
          obtain ⟨x_27,e30,h25⟩:=aP h25
          refine Oc (gg gl (p6 e30) (p5 e30) rfl rfl rfl rfl (lN e30) rfl) (Oc oa ?_)
          refine af.nil (Fin.av ?_)
          exact Fin.join [1,6,7,9,30,31,32,39,40,41] [102,104,106] x_27 (Option.some.inj h25) rfl
         ·refine ab.skip (Fin.av ?_)
          exact Fin.join [1,6,7,9,30,31,32,39,40,41] [102,104,106] out_19 (Option.some.inj h25) rfl
        ·rintro out_22 hv
         subst v24
         refine ab.aa (Oc (bu rfl rfl) (Oc om ?_))
         refine af.nil ?_
         exact Fin.cr [1,6,7,9,30,31,32,39,40,41] [102,104,106] (out_22,IntKind.i64.wrap (x_20 + 1)) (Option.some.inj h22) rfl
       ·refine ab.exit (Fin.aD ?_)
        obtain rfl:=hy23 _ (Option.some.inj h22).symm
        refine Fin.aD (Fin.aV ?_)
        exact Fin.join [1,6,7,9,30,31,32] [102,104,106] out_19 rfl rfl
      ·rintro out_18 hv
       subst v19
       refine ab.aa (Oc om (Oc (ar aN rfl rfl) (Oc (cD (k:=109) (es:=[x_16].map eI) bK rfl rfl (cG fun _=>rfl) rfl (by decide) (by decide) rfl) ?_)))
       obtain ⟨x_28,e31,h16⟩:=aP h16
       refine Oc (gg bK (p6 e31) (p5 e31) rfl rfl rfl rfl (lN e31) rfl) (Oc oa ?_)
       refine af.nil (Fin.av ?_)
       exact Fin.join [1,6,7,30,31,32] [102,104,106] (x_28,out_18) (Option.some.inj h16) rfl
     ·rintro ⟨active_14,out_15⟩ hv
      subst v15
      refine ab.aa (Oc (bu rfl rfl) (Oc om ?_))
      refine af.nil ?_
      exact Fin.cr [1,6,7,30,31,32] [102,104,106] (active_14,out_15,IntKind.i64.wrap (x_12 + 1)) (Option.some.inj h13) rfl
    ·refine ab.exit (Fin.aD ?_)
     obtain rfl:=hy14 _ (Option.some.inj h13).symm
     refine Fin.aD (Fin.aV ?_)
     exact Fin.join [7] [106] out_11 rfl rfl
   ·rintro out_9 hv
    subst v10
    refine ab.seq (ab.aa ?_)
    refine Oc om (af.sL 106 rfl ?_)
    obtain ⟨x_29,e32,h⟩:=aP h
    refine Oc (cX (own_a:=[(106,_)]) ((kj e32).sw 1 106) goes47 rfl ⟨rfl,trivial⟩ rfl rfl) (af.sK 106 rfl (af.ai ⟨[(7,_)],[(106,.row 40 2 (x_29.map (cx .i64)))]⟩ rfl (ab.seq (ab.aa ?_))))
    refine Oc om (Oc oa (Oc oa ?_))
    refine af.ai ⟨[(2,.b (.row 106)),(3,I 0)],[(106,_)]⟩ rfl (ab.ret ?_)
    obtain rfl:=Option.some.inj h
    refine Fin.ag ⟨[(2,_),(3,_)],[(106,_)]⟩ rfl (Fin.lI 106 kr0 [.row 106,.one (.i 0)] (.inl rfl) rfl (.cons (.tmp rfl) (.cons (.tmp rfl) .nil)) rfl rfl rfl rfl ⟨rfl,rfl⟩)
def bP (F:Nat) (a0:List A2) (b0:List A2):Option Bool :=
 if (decide ((a0.length:Int) ≠ (b0.length:Int))) = true then (some false) else (Option.bind (iter F (fun i_1=>if (decide (i_1 < (a0.length:Int))) = true then ((bd a0 i_1).bind fun x_2=>(bd b0 i_1).bind fun x_3=>if (decide (x_2 ≠ x_3)) = true then (some (.inr (.inr false))) else (some (.inl (IntKind.i64.wrap (i_1 + 1))))) else (some (.inr (.inl ())))) 0) (cc (fun _=>some true) (fun y=>some y)))
theorem cI {F:Nat} {a0:List A2} {b0:List A2} {r:Bool} (h:bP F a0 b0 = some r):an Tryz.prog [] 22 [] [.one (.sl 2 (a0.map (cx .i64))),.one (.sl 2 (b0.map (cx .i64)))] (Is [] (.b (.one (.bool r)))):=by
 unfold bP at h
 refine an.intro 26 Tryz.func22 Tryz.ntmps22 rfl (by simp) fun E=>?_
 show ab _ E ⟨26,[],[],[]⟩ _ ⟨[(0,.b (.one (.sl 2 (a0.map (cx .i64))))),(1,.b (.one (.sl 2 (b0.map (cx .i64)))))],[]⟩ _
 refine ab.seq (ab.aa ?_)
 refine Oc oa (af.ai ⟨[(0,.b (.one (.sl 2 (a0.map (cx .i64))))),(1,.b (.one (.sl 2 (b0.map (cx .i64)))))],[]⟩ rfl (ab.seq (ab.seq (ab.aa ?_))))
 refine Oc om (Oc (a7 nz rfl (List.length_map _)) (Oc om (Oc (a7 nz rfl (List.length_map _)) (Oc (iV rfl rfl) ?_))))
 refine af.ai ⟨[(0,_),(1,_),(10,B (decide ((a0.length:Int) ≠ (b0.length:Int))))],[]⟩ rfl (ab.ite h rfl (fun _ h=>?_) (fun _ h=>?_))
 ·refine ab.seq (ab.aa ?_)
  refine Oc oa (af.ai ⟨[(4,B false)],[]⟩ rfl (ab.ret (Fin.au ?_)))
  obtain rfl:=Option.some.inj h
  refine Fin.ag ⟨[(4,_)],[]⟩ rfl (Fin.aw [.one (.bool false)] (.inl rfl) rfl (.cons (.tmp rfl) .nil) ⟨rfl,rfl⟩)
 ·refine ab.skip (Fin.ag ⟨[(0,_),(1,_)],[]⟩ rfl (Fin.then ?_))
  obtain ⟨v1,h2,h⟩:=aP h
  refine ab.dQ (v:=v1) (fun (_:Unit)=>⟨[],[]⟩) (fun z=>.inl z) ?_ ?_
  ·refine ab.seq (ab.aa ?_)
   refine Oc oa (af.ai ⟨[(0,_),(1,_),(5,I 0)],[]⟩ rfl (ab.block (ab.c9 h2 (fun (i_1:Int)=>⟨[(0,.b (.one (.sl 2 (a0.map (cx .i64))))),(1,.b (.one (.sl 2 (b0.map (cx .i64))))),(5,I i_1)],[]⟩) [0,1,5] [] rfl ?_)))
   rintro i_1 o3 h4 hy5
   refine ab.seq (ab.seq (ab.aa ?_))
   refine Oc om (Oc om (Oc (a7 nz rfl (List.length_map _)) (Oc (bo rfl rfl) ?_)))
   refine af.ai ⟨[(0,_),(1,_),(5,_),(14,B (decide (i_1 < (a0.length:Int))))],[]⟩ rfl (ab.ite h4 rfl (fun _ h4=>?_) (fun _ h4=>?_))
   ·refine ab.skip (Fin.ag ⟨[(0,_),(1,_),(5,_)],[]⟩ rfl (Fin.then (ab.seq (ab.block (ab.seq ?_)))))
    refine ab.ag ⟨[(0,_),(1,_),(5,_)],[]⟩ rfl ?_
    obtain ⟨x_2,e6,h4⟩:=aP h4
    obtain ⟨x_3,e7,h4⟩:=aP h4
    refine ab.b4 mixed 9 [.b (.one (.sl 2 (a0.map (cx .i64)))),I i_1,.b (.aL ((cx .i64) x_2)),.b (.agg ((cx .i64) x_2)),.b (.one (.sl 2 (b0.map (cx .i64)))),I i_1,.b (.aL ((cx .i64) x_3)),.b (.agg ((cx .i64) x_3)),B (decide (x_2 ≠ x_3))] [0,1,5,25] [] (s':=⟨[(0,_),(1,_),(5,_),(25,B (decide (x_2 ≠ x_3)))],[]⟩) rfl ⟨fun _=>.p om,fun _=>.p om,fun _=>.p (aY gl (a8 e6) (bQ (e:=(cx .i64)) e6) rfl rfl),fun _=>.p (b8 eC rfl rfl rfl),fun _=>.p om,fun _=>.p om,fun _=>.p (aY gl (a8 e7) (bQ (e:=(cx .i64)) e7) rfl rfl),fun _=>.p (b8 eC rfl rfl rfl),fun _=>.p (rP (pG x_2 x_3) rfl rfl neg_dec),trivial⟩ rfl rfl (ab.ite h4 rfl (fun _ h4=>?_) (fun _ h4=>?_))
    ·refine ab.seq (ab.aa ?_)
     refine Oc oa (af.ai ⟨[(4,B false)],[]⟩ rfl (ab.ret (Fin.aO (Fin.au ?_))))
     obtain rfl:=hy5 _ (Option.some.inj h4).symm
     refine Fin.au (Fin.aO (Fin.au ?_))
     obtain rfl:=Option.some.inj h
     refine Fin.ag ⟨[(4,_)],[]⟩ rfl (Fin.aw [.one (.bool false)] (.inl rfl) rfl (.cons (.tmp rfl) .nil) ⟨rfl,rfl⟩)
    ·refine ab.skip (Fin.av (Fin.ag ⟨[(0,_),(1,_),(5,_)],[]⟩ rfl (Fin.then (ab.aa ?_))))
     refine Oc om (Oc (bu rfl rfl) (Oc oa ?_))
     refine af.nil ?_
     exact Fin.cr [0,1,5] [] (IntKind.i64.wrap (i_1 + 1)) (Option.some.inj h4) rfl
   ·refine ab.exit (Fin.aD ?_)
    obtain rfl:=hy5 _ (Option.some.inj h4).symm
    refine Fin.aD (Fin.aV ?_)
    exact Fin.join [] [] () rfl rfl
  ·rintro _ hv
   subst v1
   refine ab.seq (ab.aa ?_)
   refine Oc oa (af.ai ⟨[(4,B true)],[]⟩ rfl (ab.ret ?_))
   obtain rfl:=Option.some.inj h
   refine Fin.ag ⟨[(4,_)],[]⟩ rfl (Fin.aw [.one (.bool true)] (.inl rfl) rfl (.cons (.tmp rfl) .nil) ⟨rfl,rfl⟩)
def gh (F:Nat):Option cp :=
 some (⟨(⟨.leaf,50,48,49⟩:iG),(⟨.leaf,51,48,49⟩:iG)⟩:cp)
theorem gY {F:Nat} {r:cp} (h:gh F = some r):an Tryz.prog [] 23 [] [] (Is [] (.b (.agg (aA r)))):=by
 unfold gh at h
 refine an.intro 14 Tryz.func23 Tryz.ntmps23 rfl (by simp) fun E=>?_
 show ab _ E ⟨14,[],[],[]⟩ _ ⟨[],[]⟩ _
 refine ab.seq (ab.aa ?_)
 refine Oc (aW (k:=101) dn rfl) (af.ai ⟨[(0,Pt 101 0)],[(101,.box 49 [.tr ae (.leaf),.cF 0,.cF 0,.cF 0,.tr ae (.leaf),.cF 0,.cF 0,.cF 0])]⟩ rfl (ab.seq (ab.aa ?_)))
 refine Oc oa (af.ai ⟨[(0,_),(1,.b (.one (.raw (.func (.func 48) #[] #[]))))],[(101,_)]⟩ rfl (ab.seq (ab.aa ?_)))
 refine Oc oa (af.ai ⟨[(0,_),(1,_),(2,.b (.one (.raw (.func (.func 49) #[] #[]))))],[(101,_)]⟩ rfl (ab.seq (ab.aa ?_)))
 refine Oc oa (af.ai ⟨[(0,_),(1,_),(2,_),(3,.b (.one (.raw (.func (.func 50) #[] #[]))))],[(101,_)]⟩ rfl (ab.seq (ab.aa ?_)))
 refine Oc oa (af.ai ⟨[(0,_),(1,_),(2,_),(3,_),(4,.b (.one (.raw (.func (.func 51) #[] #[]))))],[(101,_)]⟩ rfl (ab.seq (ab.aa ?_)))
 refine Oc om (Oc om (Oc om (Oc (cE oP rfl rfl) (Oc om (Oc om ?_)))))
 refine Oc om (af.ag ⟨[(0,_),(8,.b (.agg [.tr ae (.leaf),.raw (.func (.func 50) #[] #[]),.raw (.func (.func 48) #[] #[]),.raw (.func (.func 49) #[] #[])])),(9,.b (.one (.raw (.func (.func 51) #[] #[])))),(10,.b (.one (.raw (.func (.func 48) #[] #[])))),(11,.b (.one (.raw (.func (.func 49) #[] #[]))))],[(101,_)]⟩ rfl (Oc (cE oP rfl rfl) (Oc (cE fe rfl rfl) (Oc (az aH rfl rfl rfl rfl (Nat.le_of_ble_eq_true rfl) rfl) ?_))))
 refine af.ai ⟨[(0,_)],[(101,.box 49 [.tr ae (.leaf),.raw (.func (.func 50) #[] #[]),.raw (.func (.func 48) #[] #[]),.raw (.func (.func 49) #[] #[]),.tr ae (.leaf),.raw (.func (.func 51) #[] #[]),.raw (.func (.func 48) #[] #[]),.raw (.func (.func 49) #[] #[])])]⟩ rfl (ab.ret ?_)
 obtain rfl:=Option.some.inj h
 refine Fin.ag ⟨[(0,_)],[(101,_)]⟩ rfl (Fin.aw [.agg [.tr ae (.leaf),.raw (.func (.func 50) #[] #[]),.raw (.func (.func 48) #[] #[]),.raw (.func (.func 49) #[] #[]),.tr ae (.leaf),.raw (.func (.func 51) #[] #[]),.raw (.func (.func 48) #[] #[]),.raw (.func (.func 49) #[] #[])]] (.inl rfl) rfl (.cons (.agg aH rfl rfl rfl rfl) .nil) ⟨rfl,rfl⟩)
def cq (F:Nat) (s0:cp) (id0:Int):Option (entry × Bool) :=
 Option.bind (iter F (fun n_1=>if (!n_1.cY) = true then (Option.bind (iF n_1) (fun nd_2=>if (decide (id0 = nd_2.1.x.id)) = true then (Option.bind (iF n_1) (fun nd_3=>some (.inr (.inr (nd_3.1.x,true))))) else (Option.bind (iF n_1) (fun nd_4=>if (decide (id0 < nd_4.1.x.id)) = true then (Option.bind (iF n_1) (fun nd_5=>some (.inl nd_5.2.1))) else (Option.bind (iF n_1) (fun nd_6=>some (.inl nd_6.2.2))))))) else (some (.inr (.inl ())))) s0.ids.root) (cc (fun _=>ez (⟨0,(⟨A3.zero,A3.zero⟩:cn)⟩:entry) fun x_7=>some (x_7,false)) (fun y=>some y))
theorem fc {F:Nat} {s0:cp} {id0:Int} {r:entry × Bool} (h:cq F s0 id0 = some r):an Tryz.prog [] 54 [] [.agg (aA s0),.one (.i id0)] (Is [] (.dY [.agg (aq r.1),.one (.bool r.2)])):=by
 unfold cq at h
 refine an.intro 41 Tryz.func54 Tryz.ntmps54 rfl (by simp) fun E=>?_
 show ab _ E ⟨41,[],[],[]⟩ _ ⟨[(0,.b (.agg (aA s0))),(1,I id0)],[]⟩ _
 refine ab.seq (ab.aa ?_)
 refine Oc (bD (k:=101) rfl rfl) (Oc (aW (k:=102) gP rfl) (Oc oa ?_))
 refine af.ai ⟨[(1,I id0),(2,Pt 101 0),(4,Pt 102 0)],[(101,.box 49 (aA s0)),(102,.box 87 (.i 0 :: ((cO .i64) A3.zero ++ ((cO .i64) A3.zero))))]⟩ rfl ?_
 obtain ⟨v1,h2,h⟩:=aP h
 refine ab.dQ (v:=v1) (fun (_:Unit)=>⟨[(4,Pt 102 0)],[(102,.box 87 (.i 0 :: ((cO .i64) A3.zero ++ ((cO .i64) A3.zero))))]⟩) (fun z=>.inl z) ?_ ?_
 ·refine ab.seq (ab.aa ?_)
  refine Oc (ax kz rfl rfl) (Oc (ax fH rfl rfl) (Oc (aM bp rfl rfl rfl) (Oc oa ?_)))
  refine af.ai ⟨[(1,_),(4,_),(6,.b (.one (.tr ae s0.ids.root)))],[(102,_)]⟩ rfl (ab.block (ab.c9 h2 (fun (n_1:cH bb)=>⟨[(1,I id0),(4,Pt 102 0),(6,.b (.one (.tr ae n_1)))],[(102,.box 87 (.i 0 :: ((cO .i64) A3.zero ++ ((cO .i64) A3.zero))))]⟩) [1,4,6] [102] rfl ?_))
  rintro n_1 o3 h4 hy5
  refine ab.seq (ab.seq (ab.aa ?_))
  refine Oc om (Oc (qG k5 rfl) ?_)
  refine af.ai ⟨[(1,_),(4,_),(6,_),(11,B (!n_1.cY))],[(102,_)]⟩ rfl (ab.ite h4 rfl (fun _ h4=>?_) (fun _ h4=>?_))
  ·refine ab.skip (Fin.ag ⟨[(1,_),(4,_),(6,_)],[(102,_)]⟩ rfl (Fin.then (ab.block (ab.block (ab.seq (ab.aa ?_))))))
   refine Oc om (Oc om ?_)
   obtain ⟨nd_2,e6,h4⟩:=aP h4
   refine Oc (aG e6 rfl rfl) (Oc (aF eh rfl rfl) (Oc (aF dL rfl rfl) (Oc (ar aN rfl rfl) (Oc (cR rfl rfl) (Oc oa ?_)))))
   refine af.ai ⟨[(1,_),(4,_),(6,_),(16,B (decide (id0 = nd_2.1.x.id)))],[(102,_)]⟩ rfl (ab.ite h4 rfl (fun _ h4=>?_) (fun _ h4=>?_))
   ·refine ab.seq (ab.aa ?_)
    refine Oc om ?_
    obtain ⟨nd_3,e7,h4⟩:=aP h4
    refine Oc (aG e7 rfl rfl) (Oc (aF eh rfl rfl) (Oc (b8 bq rfl rfl rfl) (Oc (az bq rfl rfl rfl rfl (Nat.le_of_ble_eq_true rfl) rfl) (Oc oa ?_))))
    refine af.ai ⟨[(4,_),(5,B true)],[(102,.box 87 (aq nd_3.1.x))]⟩ rfl (ab.ret (Fin.aO (Fin.aO ?_)))
    obtain rfl:=hy5 _ (Option.some.inj h4).symm
    refine Fin.au (Fin.aO (Fin.au ?_))
    obtain rfl:=Option.some.inj h
    refine Fin.ag ⟨[(4,_),(5,_)],[(102,_)]⟩ rfl (Fin.aw [.agg (aq nd_3.1.x),.one (.bool true)] (.inl rfl) rfl (.cons (.agg bq rfl rfl rfl rfl) (.cons (.tmp rfl) .nil)) ⟨rfl,rfl⟩)
   ·refine ab.seq (ab.aa ?_)
    refine Oc om (Oc om ?_)
    obtain ⟨nd_4,e8,h4⟩:=aP h4
    refine Oc (aG e8 rfl rfl) (Oc (aF eh rfl rfl) (Oc (aF dL rfl rfl) (Oc (ar aN rfl rfl) (Oc (bo rfl rfl) (Oc oa ?_)))))
    refine af.ai ⟨[(1,_),(4,_),(6,_),(28,B (decide (id0 < nd_4.1.x.id)))],[(102,_)]⟩ rfl (ab.ite h4 rfl (fun _ h4=>?_) (fun _ h4=>?_))
    ·refine ab.aa (Oc om ?_)
     obtain ⟨nd_5,e9,h4⟩:=aP h4
     refine Oc (aG e9 rfl rfl) (Oc (aF dE rfl rfl) (Oc (ar bp rfl rfl) (Oc oa ?_)))
     refine af.nil (Fin.av (Fin.av ?_))
     exact Fin.cr [1,4,6] [102] nd_5.2.1 (Option.some.inj h4) rfl
    ·refine ab.aa (Oc om ?_)
     obtain ⟨nd_6,e10,h4⟩:=aP h4
     refine Oc (aG e10 rfl rfl) (Oc (aF dD rfl rfl) (Oc (ar bp rfl rfl) (Oc oa ?_)))
     refine af.nil (Fin.av (Fin.av ?_))
     exact Fin.cr [1,4,6] [102] nd_6.2.2 (Option.some.inj h4) rfl
  ·refine ab.exit (Fin.aD ?_)
   obtain rfl:=hy5 _ (Option.some.inj h4).symm
   refine Fin.aD (Fin.aV ?_)
   exact Fin.join [4] [102] () rfl rfl
 ·rintro _ hv
  subst v1
  refine ab.seq (ab.aa ?_)
  refine af.lG aq h rfl (cE oO rfl rfl) (fun x_7 h=>?_)
  refine Oc (az bq rfl rfl rfl rfl (Nat.le_of_ble_eq_true rfl) rfl) (Oc oa ?_)
  refine af.ai ⟨[(4,_),(5,B false)],[(102,.box 87 (aq x_7))]⟩ rfl (ab.ret ?_)
  obtain rfl:=Option.some.inj h
  refine Fin.ag ⟨[(4,_),(5,_)],[(102,_)]⟩ rfl (Fin.aw [.agg (aq x_7),.one (.bool false)] (.inl rfl) rfl (.cons (.agg bq rfl rfl rfl rfl) (.cons (.tmp rfl) .nil)) ⟨rfl,rfl⟩)
def dR (F:Nat) (s0:List (cH bb)) (f0:Nat):Option Int :=
 Option.bind (iter F (fun x_1=>if (decide (x_1 < (s0.length:Int))) = true then ((bd s0 x_1).bind fun x_2=>(gG F f0 x_2).bind fun x_3=>if x_3 = true then (some (.inr (.inr x_1))) else (some (.inl (IntKind.i64.wrap (x_1 + 1))))) else (some (.inr (.inl ())))) 0) (cc (fun _=>some (-1)) (fun y=>some y))
theorem iC {F:Nat} {s0:List (cH bb)} {f0:Nat} {r:Int} (h:dR F s0 f0 = some r):an Tryz.prog [] 131 [] [.one (.sl 1 (s0.map (mN ae))),.one (.raw (.func (.func f0) #[] #[]))] (Is [] (.b (.one (.i r)))):=by
 unfold dR at h
 refine an.intro 19 Tryz.func131 Tryz.ntmps131 rfl (by simp) fun E=>?_
 show ab _ E ⟨19,[],[],[]⟩ _ ⟨[(0,.b (.one (.sl 1 (s0.map (mN ae))))),(1,.b (.one (.raw (.func (.func f0) #[] #[]))))],[]⟩ _
 refine ab.seq (ab.aa ?_)
 refine Oc oa (af.ai ⟨[(0,.b (.one (.sl 1 (s0.map (mN ae))))),(1,.b (.one (.raw (.func (.func f0) #[] #[]))))],[]⟩ rfl ?_)
 obtain ⟨v1,h2,h⟩:=aP h
 refine ab.dQ (v:=v1) (fun (_:Unit)=>⟨[],[]⟩) (fun z=>.inl z) ?_ ?_
 ·refine ab.seq (ab.aa ?_)
  refine Oc om (Oc (a7 q5 rfl (List.length_map _)) (Oc om ?_))
  refine af.ai ⟨[(0,_),(1,_),(7,I (s0.length:Int)),(8,I 0)],[]⟩ rfl (ab.block (ab.c9 h2 (fun (x_1:Int)=>⟨[(0,.b (.one (.sl 1 (s0.map (mN ae))))),(1,.b (.one (.raw (.func (.func f0) #[] #[])))),(7,I (s0.length:Int)),(8,I x_1)],[]⟩) [0,1,7,8] [] rfl ?_))
  rintro x_1 o3 h4 hy5
  refine ab.seq (ab.aa ?_)
  refine Oc (bo rfl rfl) (af.ai ⟨[(0,_),(1,_),(7,_),(8,_),(9,B (decide (x_1 < (s0.length:Int))))],[]⟩ rfl (ab.seq (ab.ite h4 rfl (fun _ h4=>?_) (fun _ h4=>?_))))
  ·refine ab.skip (Fin.ag ⟨[(0,_),(1,_),(7,_),(8,_)],[]⟩ rfl (Fin.then (ab.seq (ab.block (ab.seq (ab.aa ?_))))))
   refine Oc om (Oc oa ?_)
   refine af.ai ⟨[(0,_),(1,_),(5,I x_1),(7,_),(8,_)],[]⟩ rfl (ab.seq (ab.aa ?_))
   refine Oc om (Oc om (Oc om ?_))
   obtain ⟨x_2,e6,h4⟩:=aP h4
   refine Oc (aY iZ (a8 e6) (bQ (e:=(mN ae)) e6) rfl rfl) (Oc (ar bp rfl rfl) ?_)
   obtain ⟨x_3,e7,h4⟩:=aP h4
   refine Oc (iM (lU e7) (lV e7) rfl rfl rfl) (af.ai ⟨[(0,_),(1,_),(5,_),(7,_),(8,_),(16,B x_3)],[]⟩ rfl (ab.ite h4 rfl (fun _ h4=>?_) (fun _ h4=>?_)))
   ·refine ab.seq (ab.aa ?_)
    refine Oc om (Oc oa ?_)
    refine af.ai ⟨[(4,I x_1)],[]⟩ rfl (ab.ret (Fin.aO (Fin.au ?_)))
    obtain rfl:=hy5 _ (Option.some.inj h4).symm
    refine Fin.au (Fin.aO (Fin.au ?_))
    obtain rfl:=Option.some.inj h
    refine Fin.ag ⟨[(4,_)],[]⟩ rfl (Fin.aw [.one (.i x_1)] (.inl rfl) rfl (.cons (.tmp rfl) .nil) ⟨rfl,rfl⟩)
   ·refine ab.skip (Fin.av (Fin.ag ⟨[(0,_),(1,_),(7,_),(8,_)],[]⟩ rfl (Fin.then (ab.aa ?_))))
    refine Oc (bu rfl rfl) (Oc om ?_)
    refine af.nil ?_
    exact Fin.cr [0,1,7,8] [] (IntKind.i64.wrap (x_1 + 1)) (Option.some.inj h4) rfl
  ·refine ab.exit (Fin.aD ?_)
   obtain rfl:=hy5 _ (Option.some.inj h4).symm
   refine Fin.aD (Fin.aV ?_)
   exact Fin.join [] [] () rfl rfl
 ·rintro _ hv
  subst v1
  refine ab.seq (ab.aa ?_)
  refine Oc oa (af.ai ⟨[(4,I (-1))],[]⟩ rfl (ab.ret ?_))
  obtain rfl:=Option.some.inj h
  refine Fin.ag ⟨[(4,_)],[]⟩ rfl (Fin.aw [.one (.i (-1))] (.inl rfl) rfl (.cons (.tmp rfl) .nil) ⟨rfl,rfl⟩)
def dH (F:Nat) (del0:Nat) (s0:List (cH bb)):Option (List (cH bb)) :=
 (dR F s0 del0).bind fun x_1=>if (decide (x_1 = (-1))) = true then (some s0) else (Option.bind (iter F (un3 fun s_4 i_5 j_6=>if (decide (j_6 < (s_4.length:Int))) = true then (Option.bind ((bd s_4 j_6).bind fun x_11=>(gG F del0 x_11).bind fun x_12=>if (!x_12) = true then ((bd s_4 i_5).bind fun x_13=>some (s_4.set (i_5:Int).toNat x_11,IntKind.i64.wrap (i_5 + 1))) else (some (s_4,i_5))) (dX fun s_9 i_10=>some (.inl (s_9,i_10,IntKind.i64.wrap (j_6 + 1))))) else (some (.inr (s_4,i_5)))) (s0,x_1,IntKind.i64.wrap (x_1 + 1))) (dX fun s_2 i_3=>Option.bind (clr? (.leaf:cH bb) s_2 i_3) (fun z_14=>(nA z_14 i_3).bind fun x_15=>some x_15)))
theorem hY {F:Nat} {del0:Nat} {s0:List (cH bb)} {r:(List (cH bb))} (h:dH F del0 s0 = some r):an Tryz.prog [] 122 [(1,.row 42 1 (s0.map (mN ae)))] [.row 1,.one (.raw (.func (.func del0) #[] #[]))] (Is [(1,.row 42 1 (r.map (mN ae)))] (.b (.row 1))):=by
 unfold dH at h
 refine an.intro 42 Tryz.func122 Tryz.ntmps122 rfl (by simp) fun E=>?_
 show ab _ E ⟨42,[],[1],[]⟩ _ ⟨[(0,.b (.row 1)),(1,.b (.one (.raw (.func (.func del0) #[] #[]))))],[(1,.row 42 1 (s0.map (mN ae)))]⟩ _
 refine ab.seq (ab.aa ?_)
 refine Oc oa (af.ai ⟨[(0,.b (.row 1)),(1,.b (.one (.raw (.func (.func del0) #[] #[]))))],[(1,.row 42 1 (s0.map (mN ae)))]⟩ rfl (ab.seq (ab.aa ?_)))
 refine Oc om (Oc om ?_)
 obtain ⟨x_1,e1,h⟩:=aP h
 refine Oc (fY (iC e1) goes131 rfl CP.qq) (Oc oa ?_)
 refine af.ai ⟨[(0,_),(1,_),(5,I x_1)],[(1,_)]⟩ rfl (ab.seq (ab.seq (ab.aa ?_)))
 refine Oc om (Oc (cR rfl rfl) ?_)
 refine af.ai ⟨[(0,_),(1,_),(5,_),(12,B (decide (x_1 = (-1))))],[(1,_)]⟩ rfl (ab.ite h rfl (fun _ h=>?_) (fun _ h=>?_))
 ·refine ab.seq (ab.aa ?_)
  refine Oc om (Oc oa ?_)
  refine af.ai ⟨[(4,.b (.row 1))],[(1,_)]⟩ rfl (ab.ret (Fin.au ?_))
  obtain rfl:=Option.some.inj h
  refine Fin.ag ⟨[(4,_)],[(1,_)]⟩ rfl ?_
  exact Fin.result [.row 1] (.inl rfl) rfl (.cons (.tmp rfl) .nil) ⟨rfl,rfl⟩
 ·refine ab.skip (Fin.ag ⟨[(0,_),(1,_),(5,_)],[(1,_)]⟩ rfl (Fin.then ?_))
  obtain ⟨v2,h3,h⟩:=aP h
  refine ab.dQ (v:=v2) (dX fun (s_2:List (cH bb)) (i_3:Int)=>⟨[(0,.b (.row 1)),(5,I i_3)],[(1,.row 42 1 (s_2.map (mN ae)))]⟩) (fun z=>z) ?_ ?_
  ·refine ab.seq (ab.aa ?_)
   refine Oc om (Oc (bu rfl rfl) (Oc oa ?_))
   refine af.ai ⟨[(0,_),(1,_),(5,_),(6,I (IntKind.i64.wrap (x_1 + 1)))],[(1,_)]⟩ rfl (ab.block (ab.c9 h3 (un3 fun (s_4:List (cH bb)) (i_5:Int) (j_6:Int)=>⟨[(0,.b (.row 1)),(1,.b (.one (.raw (.func (.func del0) #[] #[])))),(5,I i_5),(6,I j_6)],[(1,.row 42 1 (s_4.map (mN ae)))]⟩) [0,1,5,6] [1] rfl ?_))
   rintro ⟨s_4,i_5,j_6⟩ o4 h5 hy6
   refine ab.seq (ab.seq (ab.aa ?_))
   refine Oc om (Oc om (Oc (dM q5 rfl rfl (List.length_map _)) (Oc (bo rfl rfl) ?_)))
   refine af.ai ⟨[(0,_),(1,_),(5,_),(6,_),(19,B (decide (j_6 < (s_4.length:Int))))],[(1,_)]⟩ rfl (ab.ite h5 rfl (fun _ h5=>?_) (fun _ h5=>?_))
   ·refine ab.skip (Fin.ag ⟨[(0,_),(1,_),(5,_),(6,_)],[(1,_)]⟩ rfl (Fin.then ?_))
    obtain ⟨v7,h8,h5⟩:=aP h5
    refine ab.dQ (v:=v7) (dX fun (s_9:List (cH bb)) (i_10:Int)=>⟨[(0,.b (.row 1)),(1,.b (.one (.raw (.func (.func del0) #[] #[])))),(5,I i_10),(6,I j_6)],[(1,.row 42 1 (s_9.map (mN ae)))]⟩) (fun z=>z) ?_ ?_
    ·refine ab.block (ab.seq (ab.aa ?_))
     refine Oc om (Oc om ?_)
     obtain ⟨x_11,e9,h8⟩:=aP h8
     refine Oc (df iZ (a8 e9) (iw e9) rfl rfl rfl rfl) (Oc (fL (i:=(j_6:Int).toNat) (f:=0) bp rfl rfl rfl (bQ (e:=(mN ae)) e9) rfl) (Oc oa ?_))
     refine af.ai ⟨[(0,_),(1,_),(5,_),(6,_),(7,.b (.one (.tr ae x_11)))],[(1,_)]⟩ rfl (ab.seq (ab.aa ?_))
     refine Oc om (Oc om ?_)
     obtain ⟨x_12,e10,h8⟩:=aP h8
     refine Oc (iM (lU e10) (lV e10) rfl rfl rfl) (Oc (ee rfl) ?_)
     refine af.ai ⟨[(0,_),(1,_),(5,_),(6,_),(7,_),(29,B (!x_12))],[(1,_)]⟩ rfl (ab.ite h8 rfl (fun _ h8=>?_) (fun _ h8=>?_))
     ·refine ab.seq (ab.aa ?_)
      refine Oc om (Oc om (Oc om ?_))
      obtain ⟨x_13,e11,h8⟩:=aP h8
      refine Oc (df iZ (a8 e11) (iw e11) rfl rfl rfl rfl) (Oc (jY (i:=(i_5:Int).toNat) bp rfl rfl rfl rfl (tz e11) (map_set _ _ _ _)) ?_)
      refine af.ai ⟨[(0,_),(1,_),(5,_),(6,_)],[(1,.row 42 1 ((s_4.set (i_5:Int).toNat x_11).map (mN ae)))]⟩ rfl (ab.aa (Oc om (Oc (bu rfl rfl) (Oc oa ?_))))
      refine af.nil (Fin.av ?_)
      exact Fin.join [0,1,5,6] [1] (s_4.set (i_5:Int).toNat x_11,IntKind.i64.wrap (i_5 + 1)) (Option.some.inj h8) rfl
     ·refine ab.skip (Fin.av ?_)
      exact Fin.join [0,1,5,6] [1] (s_4,i_5) (Option.some.inj h8) rfl
    ·rintro ⟨s_9,i_10⟩ hv
     subst v7
     refine ab.aa (Oc om (Oc (bu rfl rfl) (Oc oa ?_)))
     refine af.nil ?_
     exact Fin.cr [0,1,5,6] [1] (s_9,i_10,IntKind.i64.wrap (j_6 + 1)) (Option.some.inj h5) rfl
   ·refine ab.exit (Fin.aD ?_)
    obtain rfl:=hy6 _ (Option.some.inj h5).symm
    refine Fin.aD (Fin.aV ?_)
    exact Fin.join [0,5] [1] (s_4,i_5) rfl rfl
  ·rintro ⟨s_2,i_3⟩ hv
   subst v2
   refine ab.seq (ab.aa ?_)
   refine Oc om (Oc om ?_)
   obtain ⟨z_14,e12,h⟩:=aP h
   refine af.clr (enc:=(mN ae)) iZ rfl e12 rfl rfl rfl (by decide) rfl (af.ai ⟨[(0,_),(5,_)],[(1,.row 42 1 (z_14.map (mN ae)))]⟩ rfl (ab.seq (ab.aa ?_)))
   refine Oc om (Oc om ?_)
   obtain ⟨x_15,e13,h⟩:=aP h
   refine Oc (kS iZ e13 rfl rfl rfl rfl) (Oc oa ?_)
   refine af.ai ⟨[(4,.b (.row 1))],[(1,.row 42 1 (x_15.map (mN ae)))]⟩ rfl (ab.ret ?_)
   obtain rfl:=Option.some.inj h
   refine Fin.ag ⟨[(4,_)],[(1,_)]⟩ rfl ?_
   exact Fin.result [.row 1] (.inl rfl) rfl (.cons (.tmp rfl) .nil) ⟨rfl,rfl⟩
def fR (F:Nat) (l0:List (cH bb)):Option (List (cH bb)) :=
 (dH F 123 l0).bind fun x_1=>some x_1
theorem mI {F:Nat} {l0:List (cH bb)} {r:(List (cH bb))} (h:fR F l0 = some r):an Tryz.prog [] 100 [(1,.row 42 1 (l0.map (mN ae)))] [.row 1] (Is [(1,.row 42 1 (r.map (mN ae)))] (.b (.row 1))):=by
 unfold fR at h
 refine an.intro 5 Tryz.func100 Tryz.ntmps100 rfl (by simp) fun E=>?_
 show ab _ E ⟨5,[],[1],[]⟩ _ ⟨[(0,.b (.row 1))],[(1,.row 42 1 (l0.map (mN ae)))]⟩ _
 refine ab.seq (ab.aa ?_)
 refine Oc oa (af.ai ⟨[(0,.b (.row 1))],[(1,.row 42 1 (l0.map (mN ae)))]⟩ rfl (ab.seq (ab.aa ?_)))
 refine Oc om ?_
 obtain ⟨x_1,e1,h⟩:=aP h
 refine Oc (cX (own_a:=[(1,_)]) (hY e1) goes122 rfl ⟨rfl,trivial⟩ rfl rfl) (Oc oa ?_)
 refine af.ai ⟨[(2,.b (.row 1))],[(1,.row 42 1 (x_1.map (mN ae)))]⟩ rfl (ab.ret ?_)
 obtain rfl:=Option.some.inj h
 refine Fin.ag ⟨[(2,_)],[(1,_)]⟩ rfl ?_
 exact Fin.result [.row 1] (.inl rfl) rfl (.cons (.tmp rfl) .nil) ⟨rfl,rfl⟩
def a6 (F:Nat) (t0:iG) (n0:cH bb) (left0:cH bb) (right0:cH bb):Option (cH bb) :=
 Option.bind (iF n0) (fun nd_1=>Option.bind (iF n0) (fun nd_2=>Option.bind (iF n0) (fun nd_3=>(ij F t0.box nd_3.1.x).bind fun x_4=>Option.bind ((fR F [left0,right0]).bind fun x_6=>iter F (dX fun out_7 x_8=>if (decide (x_8 < (x_6.length:Int))) = true then ((bd x_6 x_8).bind fun x_10=>Option.bind (iF x_10) (fun nd_11=>(gD F out_7.cover nd_11.1.cover).bind fun x_12=>some (.inl ((⟨out_7.x,out_7.priority,x_12,out_7.left,out_7.right⟩:Nod),IntKind.i64.wrap (x_8 + 1))))) else (some (.inr out_7))) ((⟨nd_1.1.x,nd_2.1.priority,x_4,left0,right0⟩:Nod),0)) (fun out_5=>some (.node (⟨out_5.x,out_5.priority,out_5.cover⟩:bb) out_5.left out_5.right)))))
theorem bH {F:Nat} {t0:iG} {n0:cH bb} {left0:cH bb} {right0:cH bb} {r:(cH bb)} (h:a6 F t0 n0 left0 right0 = some r):an Tryz.prog [] 80 [] [.agg (bC t0),.one (.tr ae n0),.one (.tr ae left0),.one (.tr ae right0)] (Is [] (.b (.one (.tr ae r)))):=by
 unfold a6 at h
 refine an.intro 54 Tryz.func80 Tryz.ntmps80 rfl (by simp) fun E=>?_
 show ab _ E ⟨54,[],[],[]⟩ _ ⟨[(0,.b (.agg (bC t0))),(1,.b (.one (.tr ae n0))),(2,.b (.one (.tr ae left0))),(3,.b (.one (.tr ae right0)))],[]⟩ _
 refine ab.seq (ab.aa ?_)
 refine Oc (bD (k:=101) rfl rfl) (Oc oa ?_)
 refine af.ai ⟨[(1,.b (.one (.tr ae n0))),(2,.b (.one (.tr ae left0))),(3,.b (.one (.tr ae right0))),(4,Pt 101 0)],[(101,.box 47 (bC t0))]⟩ rfl (ab.seq ?_)
 obtain ⟨nd_1,e1,h⟩:=aP h
 obtain ⟨nd_2,e2,h⟩:=aP h
 obtain ⟨nd_3,e3,h⟩:=aP h
 obtain ⟨x_4,e4,h⟩:=aP h
 refine ab.b4 mixed 18 [.b (.one (.tr ae n0)),.b (.aL (aq nd_1.1.x ++ (.int .u64 nd_1.1.priority :: (ao nd_1.1.cover ++ ([.tr ae nd_1.2.1,.tr ae nd_1.2.2]))))),.b (.aL (aq nd_1.1.x ++ (.int .u64 nd_1.1.priority :: (ao nd_1.1.cover ++ ([.tr ae nd_1.2.1,.tr ae nd_1.2.2]))))),.b (.agg (aq nd_1.1.x)),.b (.one (.tr ae n0)),.b (.aL (aq nd_2.1.x ++ (.int .u64 nd_2.1.priority :: (ao nd_2.1.cover ++ ([.tr ae nd_2.2.1,.tr ae nd_2.2.2]))))),.b (.aL (.int .u64 nd_2.1.priority :: (ao nd_2.1.cover ++ ([.tr ae nd_2.2.1,.tr ae nd_2.2.2])))),.b (.one (.int .u64 nd_2.1.priority)),Pt 101 3,.b (.one (.cF t0.box)),.b (.one (.tr ae n0)),.b (.aL (aq nd_3.1.x ++ (.int .u64 nd_3.1.priority :: (ao nd_3.1.cover ++ ([.tr ae nd_3.2.1,.tr ae nd_3.2.2]))))),.b (.aL (aq nd_3.1.x ++ (.int .u64 nd_3.1.priority :: (ao nd_3.1.cover ++ ([.tr ae nd_3.2.1,.tr ae nd_3.2.2]))))),.b (.agg (aq nd_3.1.x)),.b (.agg (ao x_4)),.b (.one (.tr ae left0)),.b (.one (.tr ae right0)),.b (.agg (aq nd_1.1.x ++ (.int .u64 nd_2.1.priority :: (ao x_4 ++ ([.tr ae left0,.tr ae right0])))))] [2,3,9] [102] (s':=⟨[(2,_),(3,_),(9,Pt 102 0)],[(102,.box 117 (aq nd_1.1.x ++ (.int .u64 nd_2.1.priority :: (ao x_4 ++ ([.tr ae left0,.tr ae right0])))))]⟩) rfl ⟨fun _=>.p om,fun _=>.p (aG e1 rfl rfl),fun _=>by exact .p (aF eh rfl rfl),fun _=>.p (b8 bq rfl rfl rfl),fun _=>.p om,fun _=>.p (aG e2 rfl rfl),fun _=>by exact .p (aF lh rfl rfl),fun _=>.p (ar pv rfl rfl),fun _=>.p (ax sP rfl rfl),fun _=>.p (aM tyOne45 rfl rfl rfl),fun _=>.p om,fun _=>.p (aG e3 rfl rfl),fun _=>by exact .p (aF eh rfl rfl),fun _=>.p (b8 bq rfl rfl rfl),fun _=>.p (kB (rZ e4) (r4 e4) (uK e4) rfl rfl rfl),fun _=>.p om,fun _=>.p om,fun _=>.p (cE nW rfl rfl),trivial⟩ ⟨_,by exact .p (bD (k:=102) rfl rfl),⟨_,by exact .p oa,rfl⟩⟩ rfl ?_
 obtain ⟨v5,h6,h⟩:=aP h
 refine ab.dQ (v:=v5) (fun (out_5:Nod)=>⟨[(9,Pt 102 0)],[(102,.box 117 (eNod out_5))]⟩) (fun z=>z) ?_ ?_
 ·refine ab.seq (ab.aa ?_)
  refine Oc om (Oc om (Oc (cD (k:=103) (es:=[left0,right0].map (mN ae)) iZ rfl rfl (cG fun _=>rfl) rfl (by decide) (by decide) rfl) ?_))
  obtain ⟨x_6,e7,h6⟩:=aP h6
  refine Oc (cX (own_a:=[(103,_)]) ((mI e7).sw 1 103) goes100 rfl ⟨rfl,trivial⟩ rfl rfl) (Oc (dM q5 rfl rfl (List.length_map _)) (Oc om ?_))
  refine af.ai ⟨[(9,_),(34,.b (.row 103)),(35,I (x_6.length:Int)),(36,I 0)],[(102,_),(103,.row 42 1 (x_6.map (mN ae)))]⟩ rfl (ab.block (ab.c9 h6 (dX fun (out_7:Nod) (x_8:Int)=>⟨[(9,Pt 102 0),(34,.b (.row 103)),(35,I (x_6.length:Int)),(36,I x_8)],[(102,.box 117 (eNod out_7)),(103,.row 42 1 (x_6.map (mN ae)))]⟩) [9,34,35,36] [102,103] rfl ?_))
  rintro ⟨out_7,x_8⟩ o8 h9 hy10
  refine ab.seq (ab.aa ?_)
  refine Oc (bo rfl rfl) (af.ai ⟨[(9,_),(34,_),(35,_),(36,_),(37,B (decide (x_8 < (x_6.length:Int))))],[(102,_),(103,_)]⟩ rfl (ab.seq (ab.ite h9 rfl (fun _ h9=>?_) (fun _ h9=>?_))))
  ·refine ab.skip (Fin.ag ⟨[(9,_),(34,_),(35,_),(36,_)],[(102,_),(103,_)]⟩ rfl (Fin.then (ab.seq (ab.block (ab.seq (ab.aa ?_))))))
   obtain ⟨x_10,e11,h9⟩:=aP h9
   refine Oc (df iZ (a8 e11) (iw e11) rfl rfl rfl rfl) (Oc (fL (i:=(x_8:Int).toNat) (f:=0) bp rfl rfl rfl (bQ (e:=(mN ae)) e11) rfl) (Oc oa ?_))
   refine af.ai ⟨[(9,_),(11,.b (.one (.tr ae x_10))),(34,_),(35,_),(36,_)],[(102,_),(103,_)]⟩ rfl ?_
   obtain ⟨nd_11,e12,h9⟩:=aP h9
   obtain ⟨x_12,e13,h9⟩:=aP h9
   refine ab.lO mixed 12 [Pt 102 0,Pt 102 0,Pt 102 0,Pt 102 8,.b (.agg (ao out_7.cover)),.b (.one (.tr ae x_10)),.b (.aL (aq nd_11.1.x ++ (.int .u64 nd_11.1.priority :: (ao nd_11.1.cover ++ ([.tr ae nd_11.2.1,.tr ae nd_11.2.2]))))),.b (.aL (ao nd_11.1.cover ++ ([.tr ae nd_11.2.1,.tr ae nd_11.2.2]))),.b (.agg (ao nd_11.1.cover)),.b (.agg (ao x_12)),Pt 102 0,Pt 102 8] [9,34,35,36] [102,103] (s':=⟨[(9,_),(34,_),(35,_),(36,_)],[(102,.box 117 (aq out_7.x ++ (.int .u64 out_7.priority :: (ao x_12 ++ ([.tr ae out_7.left,.tr ae out_7.right]))))),(103,_)]⟩) rfl ⟨fun _=>.p om,fun _=>.p om,fun _=>.p (kT rfl),fun _=>.p (ax je rfl rfl),fun _=>.p (lp aE),fun _=>.p om,fun _=>.p (aG e12 rfl rfl),fun _=>by exact .p (aF je rfl rfl),fun _=>.p (b8 aE rfl rfl rfl),fun _=>.p (aj (jv e13) tW rfl rfl),fun _=>.p (kT rfl),fun _=>.p (ax je rfl rfl),trivial⟩ ⟨_,by exact .p (az aE rfl rfl rfl rfl (Nat.le_of_ble_eq_true rfl) rfl),rfl⟩ rfl (Fin.av (Fin.ag ⟨[(9,_),(34,_),(35,_),(36,_)],[(102,_),(103,_)]⟩ rfl (Fin.then (ab.aa ?_))))
   refine Oc (bu rfl rfl) (Oc om ?_)
   refine af.nil ?_
   exact Fin.cr [9,34,35,36] [102,103] ((⟨out_7.x,out_7.priority,x_12,out_7.left,out_7.right⟩:Nod),IntKind.i64.wrap (x_8 + 1)) (Option.some.inj h9) rfl
  ·refine ab.exit (Fin.aD ?_)
   obtain rfl:=hy10 _ (Option.some.inj h9).symm
   refine Fin.aD (Fin.aV ?_)
   exact Fin.join [9] [102] out_7 rfl rfl
 ·rintro out_5 hv
  subst v5
  refine ab.seq (ab.aa ?_)
  refine Oc om (Oc oa ?_)
  refine af.ai ⟨[(8,Pt 102 0)],[(102,_)]⟩ rfl (ab.ret ?_)
  obtain rfl:=Option.some.inj h
  refine Fin.ag ⟨[(8,_)],[(102,_)]⟩ rfl (Fin.fX 102 rfl (Fin.toTr (enc:=ae) 8 (⟨out_5.x,out_5.priority,out_5.cover⟩:bb) out_5.left out_5.right rfl rfl (Fin.aw [.one (.tr ae (.node (⟨out_5.x,out_5.priority,out_5.cover⟩:bb) out_5.left out_5.right))] (.inl rfl) rfl (.cons (.tmp rfl) .nil) ⟨rfl,rfl⟩)))
def bF (F:Nat):Nat → iG → (cH bb) → entry → Option ((cH bb) × (cH bb))
 | 0,_,_,_=>none
 | n + 1,t0,n0,x0=>if n0.cY = true then (some (.leaf,.leaf)) else (Option.bind (iF n0) (fun nd_1=>(fv F t0.compare nd_1.1.x x0).bind fun x_2=>if (decide (x_2 < 0)) = true then (Option.bind (iF n0) (fun nd_3=>Option.bind (bF F n t0 nd_3.2.2 x0) (dX fun x_4 x_5=>Option.bind (iF n0) (fun nd_6=>(a6 F t0 n0 nd_6.2.1 x_4).bind fun x_7=>some (x_7,x_5))))) else (Option.bind (iF n0) (fun nd_8=>Option.bind (bF F n t0 nd_8.2.1 x0) (dX fun x_9 x_10=>Option.bind (iF n0) (fun nd_11=>(a6 F t0 n0 x_10 nd_11.2.2).bind fun x_12=>some (x_9,x_12)))))))
def fb (F:Nat) (t0:iG) (n0:cH bb) (x0:entry):Option ((cH bb) × (cH bb)):=bF F F t0 n0 x0
theorem jr {F:Nat}:∀ (n:Nat) {t0:iG} {n0:cH bb} {x0:entry} {r:(cH bb) × (cH bb)} (h:bF F n t0 n0 x0 = some r),an Tryz.prog [] 79 [] [.agg (bC t0),.one (.tr ae n0),.agg (aq x0)] (Is [] (.dY [.one (.tr ae r.1),.one (.tr ae r.2)])):=by
 intro n
 induction n with
 | zero=>intro t0 n0 x0 r h; simp [bF] at h
 | succ n ih=>
 intro t0 n0 x0 r h
 unfold bF at h
 refine an.intro 61 Tryz.func79 Tryz.ntmps79 rfl (by simp) fun E=>?_
 show ab _ E ⟨61,[],[],[]⟩ _ ⟨[(0,.b (.agg (bC t0))),(1,.b (.one (.tr ae n0))),(2,.b (.agg (aq x0)))],[]⟩ _
 refine ab.seq (ab.aa ?_)
 refine Oc (bD (k:=101) rfl rfl) (Oc (bD (k:=102) rfl rfl) (Oc oa (Oc oa ?_)))
 refine af.ai ⟨[(1,.b (.one (.tr ae n0))),(3,Pt 101 0),(5,Pt 102 0)],[(101,.box 47 (bC t0)),(102,.box 87 (aq x0))]⟩ rfl (ab.seq (ab.seq (ab.aa ?_)))
 refine Oc om (Oc (fh k5 rfl) ?_)
 refine af.ai ⟨[(1,_),(3,_),(5,_),(13,B n0.cY)],[(101,_),(102,_)]⟩ rfl (ab.ite h rfl (fun _ h=>?_) (fun _ h=>?_))
 ·refine ab.seq (ab.aa ?_)
  refine Oc oa (Oc oa ?_)
  refine af.ai ⟨[(6,.b (.one (.tr ae (.leaf)))),(7,.b (.one (.tr ae (.leaf))))],[]⟩ rfl (ab.ret (Fin.au ?_))
  obtain rfl:=Option.some.inj h
  refine Fin.ag ⟨[(6,_),(7,_)],[]⟩ rfl (Fin.aw [.one (.tr ae (.leaf)),.one (.tr ae (.leaf))] (.inl rfl) rfl (.cons (.tmp rfl) (.cons (.tmp rfl) .nil)) ⟨rfl,rfl⟩)
 ·refine ab.skip (Fin.ag ⟨[(1,_),(3,_),(5,_)],[(101,_),(102,_)]⟩ rfl (Fin.then (ab.seq (ab.seq ?_))))
  refine ab.ag ⟨[(1,_),(3,_),(5,_)],[(101,_),(102,_)]⟩ rfl ?_
  obtain ⟨nd_1,e1,h⟩:=aP h
  obtain ⟨x_2,e2,h⟩:=aP h
  refine ab.b4 mixed 9 [Pt 101 1,.b (.one (.cF t0.compare)),.b (.one (.tr ae n0)),.b (.aL (aq nd_1.1.x ++ (.int .u64 nd_1.1.priority :: (ao nd_1.1.cover ++ ([.tr ae nd_1.2.1,.tr ae nd_1.2.2]))))),.b (.aL (aq nd_1.1.x ++ (.int .u64 nd_1.1.priority :: (ao nd_1.1.cover ++ ([.tr ae nd_1.2.1,.tr ae nd_1.2.2]))))),.b (.agg (aq nd_1.1.x)),.b (.agg (aq x0)),I x_2,B (decide (x_2 < 0))] [1,3,5,22] [101,102] (s':=⟨[(1,_),(3,_),(5,_),(22,B (decide (x_2 < 0)))],[(101,_),(102,_)]⟩) rfl ⟨fun _=>.p (ax oN rfl rfl),fun _=>.p (aM sm rfl rfl rfl),fun _=>.p om,fun _=>.p (aG e1 rfl rfl),fun _=>by exact .p (aF eh rfl rfl),fun _=>.p (b8 bq rfl rfl rfl),fun _=>.p (lp bq),fun _=>.p (kB (oe e2) (og e2) (qy e2) rfl rfl rfl),fun _=>.p (bo rfl rfl),trivial⟩ rfl rfl (ab.ite h rfl (fun _ h=>?_) (fun _ h=>?_))
  ·refine ab.seq (ab.ag ⟨[(1,_),(3,_),(5,_)],[(101,_),(102,_)]⟩ rfl ?_)
   obtain ⟨nd_3,e3,h⟩:=aP h
   obtain ⟨⟨x_4,x_5⟩,e4,h⟩:=aP h
   refine ab.b4 mixed 12 [.b (.agg (bC t0)),.b (.one (.tr ae n0)),.b (.aL (aq nd_3.1.x ++ (.int .u64 nd_3.1.priority :: (ao nd_3.1.cover ++ ([.tr ae nd_3.2.1,.tr ae nd_3.2.2]))))),.b (.aL [.tr ae nd_3.2.2]),.b (.one (.tr ae nd_3.2.2)),.b (.agg (aq x0)),.dY [.one (.tr ae x_4),.one (.tr ae x_5)],.dY [.one (.tr ae x_4),.one (.tr ae x_5)],.b (.one (.tr ae x_4)),.b (.one (.tr ae x_5)),.b (.one (.tr ae x_4)),.b (.one (.tr ae x_5))] [1,3,8,9] [101] (s':=⟨[(1,_),(3,_),(8,.b (.one (.tr ae x_4))),(9,.b (.one (.tr ae x_5)))],[(101,_)]⟩) rfl ⟨fun _=>.p (lp bw),fun _=>.p om,fun _=>.p (aG e3 rfl rfl),fun _=>by exact .p (aF dD rfl rfl),fun _=>.p (ar bp rfl rfl),fun _=>.p (lp bq),fun _=>.p (aj (ih e4) rj rfl rfl),fun _=>.p om,fun _=>.p (ak rfl rfl),fun _=>.p (ak rfl rfl),fun _=>.p oa,fun _=>.p oa,trivial⟩ rfl rfl (ab.seq (ab.ag ⟨[(1,_),(3,_),(8,_),(9,_)],[(101,_)]⟩ rfl ?_))
   obtain ⟨nd_6,e5,h⟩:=aP h
   obtain ⟨x_7,e6,h⟩:=aP h
   refine ab.b4 mixed 11 [.b (.agg (bC t0)),.b (.one (.tr ae n0)),.b (.one (.tr ae n0)),.b (.aL (aq nd_6.1.x ++ (.int .u64 nd_6.1.priority :: (ao nd_6.1.cover ++ ([.tr ae nd_6.2.1,.tr ae nd_6.2.2]))))),.b (.aL [.tr ae nd_6.2.1,.tr ae nd_6.2.2]),.b (.one (.tr ae nd_6.2.1)),.b (.one (.tr ae x_4)),.b (.one (.tr ae x_7)),.b (.one (.tr ae x_5)),.b (.one (.tr ae x_7)),.b (.one (.tr ae x_5))] [6,7] [] (s':=⟨[(6,.b (.one (.tr ae x_7))),(7,.b (.one (.tr ae x_5)))],[]⟩) rfl ⟨fun _=>.p (lp bw),fun _=>.p om,fun _=>.p om,fun _=>.p (aG e5 rfl rfl),fun _=>by exact .p (aF dE rfl rfl),fun _=>.p (ar bp rfl rfl),fun _=>.p om,fun _=>.p (aj (bH e6) k9 rfl rfl),fun _=>.p om,fun _=>.p oa,fun _=>.p oa,trivial⟩ rfl rfl (ab.ret (Fin.au ?_))
   obtain rfl:=Option.some.inj h
   refine Fin.ag ⟨[(6,_),(7,_)],[]⟩ rfl (Fin.aw [.one (.tr ae x_7),.one (.tr ae x_5)] (.inl rfl) rfl (.cons (.tmp rfl) (.cons (.tmp rfl) .nil)) ⟨rfl,rfl⟩)
  ·refine ab.skip (Fin.ag ⟨[(1,_),(3,_),(5,_)],[(101,_),(102,_)]⟩ rfl (Fin.then (ab.seq ?_)))
   refine ab.ag ⟨[(1,_),(3,_),(5,_)],[(101,_),(102,_)]⟩ rfl ?_
   obtain ⟨nd_8,e7,h⟩:=aP h
   obtain ⟨⟨x_9,x_10⟩,e8,h⟩:=aP h
   refine ab.b4 mixed 12 [.b (.agg (bC t0)),.b (.one (.tr ae n0)),.b (.aL (aq nd_8.1.x ++ (.int .u64 nd_8.1.priority :: (ao nd_8.1.cover ++ ([.tr ae nd_8.2.1,.tr ae nd_8.2.2]))))),.b (.aL [.tr ae nd_8.2.1,.tr ae nd_8.2.2]),.b (.one (.tr ae nd_8.2.1)),.b (.agg (aq x0)),.dY [.one (.tr ae x_9),.one (.tr ae x_10)],.dY [.one (.tr ae x_9),.one (.tr ae x_10)],.b (.one (.tr ae x_9)),.b (.one (.tr ae x_10)),.b (.one (.tr ae x_9)),.b (.one (.tr ae x_10))] [1,3,10,11] [101] (s':=⟨[(1,_),(3,_),(10,.b (.one (.tr ae x_9))),(11,.b (.one (.tr ae x_10)))],[(101,_)]⟩) rfl ⟨fun _=>.p (lp bw),fun _=>.p om,fun _=>.p (aG e7 rfl rfl),fun _=>by exact .p (aF dE rfl rfl),fun _=>.p (ar bp rfl rfl),fun _=>.p (lp bq),fun _=>.p (aj (ih e8) rj rfl rfl),fun _=>.p om,fun _=>.p (ak rfl rfl),fun _=>.p (ak rfl rfl),fun _=>.p oa,fun _=>.p oa,trivial⟩ rfl rfl (ab.seq (ab.ag ⟨[(1,_),(3,_),(10,_),(11,_)],[(101,_)]⟩ rfl ?_))
   obtain ⟨nd_11,e9,h⟩:=aP h
   obtain ⟨x_12,e10,h⟩:=aP h
   refine ab.b4 mixed 11 [.b (.one (.tr ae x_9)),.b (.agg (bC t0)),.b (.one (.tr ae n0)),.b (.one (.tr ae x_10)),.b (.one (.tr ae n0)),.b (.aL (aq nd_11.1.x ++ (.int .u64 nd_11.1.priority :: (ao nd_11.1.cover ++ ([.tr ae nd_11.2.1,.tr ae nd_11.2.2]))))),.b (.aL [.tr ae nd_11.2.2]),.b (.one (.tr ae nd_11.2.2)),.b (.one (.tr ae x_12)),.b (.one (.tr ae x_9)),.b (.one (.tr ae x_12))] [6,7] [] (s':=⟨[(6,.b (.one (.tr ae x_9))),(7,.b (.one (.tr ae x_12)))],[]⟩) rfl ⟨fun _=>.p om,fun _=>.p (lp bw),fun _=>.p om,fun _=>.p om,fun _=>.p om,fun _=>.p (aG e9 rfl rfl),fun _=>by exact .p (aF dD rfl rfl),fun _=>.p (ar bp rfl rfl),fun _=>.p (aj (bH e10) k9 rfl rfl),fun _=>.p oa,fun _=>.p oa,trivial⟩ rfl rfl (ab.ret ?_)
   obtain rfl:=Option.some.inj h
   refine Fin.ag ⟨[(6,_),(7,_)],[]⟩ rfl (Fin.aw [.one (.tr ae x_9),.one (.tr ae x_12)] (.inl rfl) rfl (.cons (.tmp rfl) (.cons (.tmp rfl) .nil)) ⟨rfl,rfl⟩)
theorem jD {F:Nat} {t0:iG} {n0:cH bb} {x0:entry} {r:(cH bb) × (cH bb)} (h:fb F t0 n0 x0 = some r):an Tryz.prog [] 79 [] [.agg (bC t0),.one (.tr ae n0),.agg (aq x0)] (Is [] (.dY [.one (.tr ae r.1),.one (.tr ae r.2)])):=jr F h
def fi (F:Nat) (x0:Int):Option Int :=
 ez (IntKind.u64.wrap ((oz .u64 x0 (x0 / 1073741824)) * 13787848793156543929)) fun x_1=>ez (IntKind.u64.wrap ((oz .u64 x_1 (x_1 / 134217728)) * 10723151780598845931)) fun x_2=>some (oz .u64 x_2 (x_2 / 2147483648))
theorem oo {F:Nat} {x0:Int} {r:Int} (h:fi F x0 = some r):an Tryz.prog [] 81 [] [.one (.int .u64 x0)] (Is [] (.b (.one (.int .u64 r)))):=by
 unfold fi at h
 refine an.intro 19 Tryz.func81 Tryz.ntmps81 rfl (by simp) fun E=>?_
 show ab _ E ⟨19,[],[],[]⟩ _ ⟨[(0,.b (.one (.int .u64 x0)))],[]⟩ _
 refine ab.seq (ab.aa ?_)
 refine Oc oa (af.ai ⟨[(0,.b (.one (.int .u64 x0)))],[]⟩ rfl (ab.seq (ab.aa ?_)))
 refine Oc om (Oc om (Oc (ja (m:=30) (by decide) rfl rfl rfl) (Oc (q8 rfl rfl) (Oc oa ?_))))
 refine af.ai ⟨[(0,.b (.one (.int .u64 (oz .u64 x0 (x0 / 1073741824)))))],[]⟩ rfl (ab.seq (ab.aa ?_))
 refine Oc om (af.pY .u64 h rfl (tH rfl rfl) (fun x_1 h=>?_))
 refine Oc oa (af.ai ⟨[(0,.b (.one (.int .u64 x_1)))],[]⟩ rfl (ab.seq (ab.aa ?_)))
 refine Oc om (Oc om (Oc (ja (m:=27) (by decide) rfl rfl rfl) (Oc (q8 rfl rfl) (Oc oa ?_))))
 refine af.ai ⟨[(0,.b (.one (.int .u64 (oz .u64 x_1 (x_1 / 134217728)))))],[]⟩ rfl (ab.seq (ab.aa ?_))
 refine Oc om (af.pY .u64 h rfl (tH rfl rfl) (fun x_2 h=>?_))
 refine Oc oa (af.ai ⟨[(0,.b (.one (.int .u64 x_2)))],[]⟩ rfl (ab.seq (ab.aa ?_)))
 refine Oc om (Oc om (Oc (ja (m:=31) (by decide) rfl rfl rfl) (Oc (q8 rfl rfl) (Oc oa ?_))))
 refine af.ai ⟨[(2,.b (.one (.int .u64 (oz .u64 x_2 (x_2 / 2147483648)))))],[]⟩ rfl (ab.ret ?_)
 obtain rfl:=Option.some.inj h
 refine Fin.ag ⟨[(2,_)],[]⟩ rfl (Fin.aw [.one (.int .u64 (oz .u64 x_2 (x_2 / 2147483648)))] (.inl rfl) rfl (.cons (.tmp rfl) .nil) ⟨rfl,rfl⟩)
def bU (F:Nat):Nat → iG → (cH bb) → (cH bb) → Option (cH bb)
 | 0,_,_,_=>none
 | n + 1,t0,a0,b0=>if a0.cY = true then (some b0) else (if b0.cY = true then (some a0) else (Option.bind (iF a0) (fun nd_1=>Option.bind (iF b0) (fun nd_2=>if (decide (nd_2.1.priority < nd_1.1.priority)) = true then (Option.bind (iF a0) (fun nd_3=>Option.bind (iF a0) (fun nd_4=>(bU F n t0 nd_4.2.2 b0).bind fun x_5=>(a6 F t0 a0 nd_3.2.1 x_5).bind fun x_6=>some x_6))) else (Option.bind (iF b0) (fun nd_7=>(bU F n t0 a0 nd_7.2.1).bind fun x_8=>Option.bind (iF b0) (fun nd_9=>(a6 F t0 b0 x_8 nd_9.2.2).bind fun x_10=>some x_10)))))))
def ck (F:Nat) (t0:iG) (a0:cH bb) (b0:cH bb):Option (cH bb):=bU F F t0 a0 b0
theorem jE {F:Nat}:∀ (n:Nat) {t0:iG} {a0:cH bb} {b0:cH bb} {r:(cH bb)} (h:bU F n t0 a0 b0 = some r),an Tryz.prog [] 82 [] [.agg (bC t0),.one (.tr ae a0),.one (.tr ae b0)] (Is [] (.b (.one (.tr ae r)))):=by
 intro n
 induction n with
 | zero=>intro t0 a0 b0 r h; simp [bU] at h
 | succ n ih=>
 intro t0 a0 b0 r h
 unfold bU at h
 refine an.intro 53 Tryz.func82 Tryz.ntmps82 rfl (by simp) fun E=>?_
 show ab _ E ⟨53,[],[],[]⟩ _ ⟨[(0,.b (.agg (bC t0))),(1,.b (.one (.tr ae a0))),(2,.b (.one (.tr ae b0)))],[]⟩ _
 refine ab.seq (ab.aa ?_)
 refine Oc (bD (k:=101) rfl rfl) (Oc oa ?_)
 refine af.ai ⟨[(1,.b (.one (.tr ae a0))),(2,.b (.one (.tr ae b0))),(3,Pt 101 0)],[(101,.box 47 (bC t0))]⟩ rfl (ab.seq (ab.block (ab.seq (ab.aa ?_))))
 refine Oc om (Oc (fh k5 rfl) (Oc oa ?_))
 refine af.ai ⟨[(1,_),(2,_),(3,_),(7,B a0.cY)],[(101,_)]⟩ rfl (ab.ite h rfl (fun _ h=>?_) (fun _ h=>?_))
 ·refine ab.seq (ab.aa ?_)
  refine Oc om (Oc oa ?_)
  refine af.ai ⟨[(6,.b (.one (.tr ae b0)))],[]⟩ rfl (ab.ret (Fin.aO (Fin.au ?_)))
  obtain rfl:=Option.some.inj h
  refine Fin.ag ⟨[(6,_)],[]⟩ rfl (Fin.aw [.one (.tr ae b0)] (.inl rfl) rfl (.cons (.tmp rfl) .nil) ⟨rfl,rfl⟩)
 ·refine ab.seq (ab.aa ?_)
  refine Oc om (Oc (fh k5 rfl) (Oc oa ?_))
  refine af.ai ⟨[(1,_),(2,_),(3,_),(11,B b0.cY)],[(101,_)]⟩ rfl (ab.ite h rfl (fun _ h=>?_) (fun _ h=>?_))
  ·refine ab.seq (ab.aa ?_)
   refine Oc om (Oc oa ?_)
   refine af.ai ⟨[(6,.b (.one (.tr ae a0)))],[]⟩ rfl (ab.ret (Fin.aO (Fin.au ?_)))
   obtain rfl:=Option.some.inj h
   refine Fin.ag ⟨[(6,_)],[]⟩ rfl (Fin.aw [.one (.tr ae a0)] (.inl rfl) rfl (.cons (.tmp rfl) .nil) ⟨rfl,rfl⟩)
  ·refine ab.seq (ab.ag ⟨[(1,_),(2,_),(3,_)],[(101,_)]⟩ rfl ?_)
   obtain ⟨nd_1,e1,h⟩:=aP h
   obtain ⟨nd_2,e2,h⟩:=aP h
   refine ab.b4 mixed 10 [.b (.one (.tr ae a0)),.b (.aL (aq nd_1.1.x ++ (.int .u64 nd_1.1.priority :: (ao nd_1.1.cover ++ ([.tr ae nd_1.2.1,.tr ae nd_1.2.2]))))),.b (.aL (.int .u64 nd_1.1.priority :: (ao nd_1.1.cover ++ ([.tr ae nd_1.2.1,.tr ae nd_1.2.2])))),.b (.one (.int .u64 nd_1.1.priority)),.b (.one (.tr ae b0)),.b (.aL (aq nd_2.1.x ++ (.int .u64 nd_2.1.priority :: (ao nd_2.1.cover ++ ([.tr ae nd_2.2.1,.tr ae nd_2.2.2]))))),.b (.aL (.int .u64 nd_2.1.priority :: (ao nd_2.1.cover ++ ([.tr ae nd_2.2.1,.tr ae nd_2.2.2])))),.b (.one (.int .u64 nd_2.1.priority)),B (decide (nd_2.1.priority < nd_1.1.priority)),B (decide (nd_2.1.priority < nd_1.1.priority))] [1,2,3,15] [101] (s':=⟨[(1,_),(2,_),(3,_),(15,B (decide (nd_2.1.priority < nd_1.1.priority)))],[(101,_)]⟩) rfl ⟨fun _=>.p om,fun _=>.p (aG e1 rfl rfl),fun _=>by exact .p (aF lh rfl rfl),fun _=>.p (ar pv rfl rfl),fun _=>.p om,fun _=>.p (aG e2 rfl rfl),fun _=>by exact .p (aF lh rfl rfl),fun _=>.p (ar pv rfl rfl),fun _=>.p (jQ rfl rfl),fun _=>.p oa,trivial⟩ rfl rfl (ab.ite h rfl (fun _ h=>?_) (fun _ h=>?_))
   ·refine ab.seq (ab.ag ⟨[(1,_),(2,_),(3,_)],[(101,_)]⟩ rfl ?_)
    obtain ⟨nd_3,e3,h⟩:=aP h
    obtain ⟨nd_4,e4,h⟩:=aP h
    obtain ⟨x_5,e5,h⟩:=aP h
    obtain ⟨x_6,e6,h⟩:=aP h
    refine ab.b4 mixed 15 [.b (.agg (bC t0)),.b (.one (.tr ae a0)),.b (.one (.tr ae a0)),.b (.aL (aq nd_3.1.x ++ (.int .u64 nd_3.1.priority :: (ao nd_3.1.cover ++ ([.tr ae nd_3.2.1,.tr ae nd_3.2.2]))))),.b (.aL [.tr ae nd_3.2.1,.tr ae nd_3.2.2]),.b (.one (.tr ae nd_3.2.1)),.b (.agg (bC t0)),.b (.one (.tr ae a0)),.b (.aL (aq nd_4.1.x ++ (.int .u64 nd_4.1.priority :: (ao nd_4.1.cover ++ ([.tr ae nd_4.2.1,.tr ae nd_4.2.2]))))),.b (.aL [.tr ae nd_4.2.2]),.b (.one (.tr ae nd_4.2.2)),.b (.one (.tr ae b0)),.b (.one (.tr ae x_5)),.b (.one (.tr ae x_6)),.b (.one (.tr ae x_6))] [6] [] (s':=⟨[(6,.b (.one (.tr ae x_6)))],[]⟩) rfl ⟨fun _=>.p (lp bw),fun _=>.p om,fun _=>.p om,fun _=>.p (aG e3 rfl rfl),fun _=>by exact .p (aF dE rfl rfl),fun _=>.p (ar bp rfl rfl),fun _=>.p (lp bw),fun _=>.p om,fun _=>.p (aG e4 rfl rfl),fun _=>by exact .p (aF dD rfl rfl),fun _=>.p (ar bp rfl rfl),fun _=>.p om,fun _=>.p (aj (ih e5) nH rfl rfl),fun _=>.p (aj (bH e6) k9 rfl rfl),fun _=>.p oa,trivial⟩ rfl rfl (ab.ret (Fin.aO (Fin.au ?_)))
    obtain rfl:=Option.some.inj h
    refine Fin.ag ⟨[(6,_)],[]⟩ rfl (Fin.aw [.one (.tr ae x_6)] (.inl rfl) rfl (.cons (.tmp rfl) .nil) ⟨rfl,rfl⟩)
   ·refine ab.skip (Fin.av (Fin.ag ⟨[(1,_),(2,_),(3,_)],[(101,_)]⟩ rfl (Fin.then (ab.seq ?_))))
    refine ab.ag ⟨[(1,_),(2,_),(3,_)],[(101,_)]⟩ rfl ?_
    obtain ⟨nd_7,e7,h⟩:=aP h
    obtain ⟨x_8,e8,h⟩:=aP h
    obtain ⟨nd_9,e9,h⟩:=aP h
    obtain ⟨x_10,e10,h⟩:=aP h
    refine ab.b4 mixed 15 [.b (.agg (bC t0)),.b (.one (.tr ae b0)),.b (.agg (bC t0)),.b (.one (.tr ae a0)),.b (.one (.tr ae b0)),.b (.aL (aq nd_7.1.x ++ (.int .u64 nd_7.1.priority :: (ao nd_7.1.cover ++ ([.tr ae nd_7.2.1,.tr ae nd_7.2.2]))))),.b (.aL [.tr ae nd_7.2.1,.tr ae nd_7.2.2]),.b (.one (.tr ae nd_7.2.1)),.b (.one (.tr ae x_8)),.b (.one (.tr ae b0)),.b (.aL (aq nd_9.1.x ++ (.int .u64 nd_9.1.priority :: (ao nd_9.1.cover ++ ([.tr ae nd_9.2.1,.tr ae nd_9.2.2]))))),.b (.aL [.tr ae nd_9.2.2]),.b (.one (.tr ae nd_9.2.2)),.b (.one (.tr ae x_10)),.b (.one (.tr ae x_10))] [6] [] (s':=⟨[(6,.b (.one (.tr ae x_10)))],[]⟩) rfl ⟨fun _=>.p (lp bw),fun _=>.p om,fun _=>.p (lp bw),fun _=>.p om,fun _=>.p om,fun _=>.p (aG e7 rfl rfl),fun _=>by exact .p (aF dE rfl rfl),fun _=>.p (ar bp rfl rfl),fun _=>.p (aj (ih e8) nH rfl rfl),fun _=>.p om,fun _=>.p (aG e9 rfl rfl),fun _=>by exact .p (aF dD rfl rfl),fun _=>.p (ar bp rfl rfl),fun _=>.p (aj (bH e10) k9 rfl rfl),fun _=>.p oa,trivial⟩ rfl rfl (ab.ret ?_)
    obtain rfl:=Option.some.inj h
    refine Fin.ag ⟨[(6,_)],[]⟩ rfl (Fin.aw [.one (.tr ae x_10)] (.inl rfl) rfl (.cons (.tmp rfl) .nil) ⟨rfl,rfl⟩)
theorem eu {F:Nat} {t0:iG} {a0:cH bb} {b0:cH bb} {r:(cH bb)} (h:ck F t0 a0 b0 = some r):an Tryz.prog [] 82 [] [.agg (bC t0),.one (.tr ae a0),.one (.tr ae b0)] (Is [] (.b (.one (.tr ae r)))):=jE F h
def bz (F:Nat) (t0:iG) (x0:entry):Option iG :=
 Option.bind (fb F t0 t0.root x0) (dX fun x_1 x_2=>(gw F t0.key x0).bind fun x_3=>(fi F x_3).bind fun x_4=>(a6 F t0 (.node (⟨x0,x_4,(⟨A3.zero,A3.zero⟩:cn)⟩:bb) (.leaf) (.leaf)) (.leaf) (.leaf)).bind fun x_5=>(ck F t0 x_1 x_5).bind fun x_6=>(ck F t0 x_6 x_2).bind fun x_7=>ez (⟨x_7,t0.compare,t0.key,t0.box⟩:iG) fun x_8=>some x_8)
theorem gj {F:Nat} {t0:iG} {x0:entry} {r:iG} (h:bz F t0 x0 = some r):an Tryz.prog [] 59 [] [.agg (bC t0),.agg (aq x0)] (Is [] (.b (.agg (bC r)))):=by
 unfold bz at h
 refine an.intro 35 Tryz.func59 Tryz.ntmps59 rfl (by simp) fun E=>?_
 show ab _ E ⟨35,[],[],[]⟩ _ ⟨[(0,.b (.agg (bC t0))),(1,.b (.agg (aq x0)))],[]⟩ _
 refine ab.seq (ab.aa ?_)
 refine Oc (bD (k:=101) rfl rfl) (Oc (bD (k:=102) rfl rfl) (Oc (aW (k:=103) p8 rfl) ?_))
 refine af.ai ⟨[(2,Pt 101 0),(3,Pt 102 0),(4,Pt 103 0)],[(101,.box 47 (bC t0)),(102,.box 87 (aq x0)),(103,.box 47 [.tr ae (.leaf),.cF 0,.cF 0,.cF 0])]⟩ rfl (ab.seq (ab.aa ?_))
 refine Oc (lp bw) (Oc (ax fH rfl rfl) (Oc (aM bp rfl rfl rfl) (Oc (lp bq) ?_)))
 obtain ⟨⟨x_1,x_2⟩,e1,h⟩:=aP h
 refine Oc (aj (jD e1) rj rfl rfl) (af.ag ⟨[(2,_),(3,_),(4,_),(13,.dY [.one (.tr ae x_1),.one (.tr ae x_2)])],[(101,_),(102,_),(103,_)]⟩ rfl (Oc om (Oc (ak rfl rfl) (Oc (ak rfl rfl) (Oc oa (Oc oa ?_))))))
 refine af.ai ⟨[(2,_),(3,_),(4,_),(5,.b (.one (.tr ae x_1))),(6,.b (.one (.tr ae x_2)))],[(101,_),(102,_),(103,_)]⟩ rfl (ab.seq ?_)
 obtain ⟨x_3,e2,h⟩:=aP h
 obtain ⟨x_4,e3,h⟩:=aP h
 obtain ⟨x_5,e4,h⟩:=aP h
 refine ab.kn mixed [false,false,false,false,false,false,false,false,true,false,false] [.b (.agg (bC t0)),.b (.agg (aq x0)),Pt 101 2,.b (.one (.cF t0.key)),.b (.agg (aq x0)),.b (.one (.int .u64 x_3)),.b (.one (.int .u64 x_4)),.b (.agg (aq x0 ++ (.int .u64 x_4 :: ((cO .i64) A3.zero ++ ((cO .i64) A3.zero ++ ([.tr ae (.leaf),.tr ae (.leaf)])))))),.b (.one (.tr ae (.node (⟨x0,x_4,(⟨A3.zero,A3.zero⟩:cn)⟩:bb) (.leaf) (.leaf)))),.b (.one (.tr ae x_5)),.b (.one (.tr ae x_5))] [⟨[false,false,false,false,false,false,false,false,false,false,false],[(2,Pt 101 0),(3,Pt 102 0),(4,Pt 103 0),(5,.b (.one (.tr ae x_1))),(6,.b (.one (.tr ae x_2)))],[(101,.box 47 (bC t0)),(102,.box 87 (aq x0)),(103,.box 47 [.tr ae (.leaf),.cF 0,.cF 0,.cF 0])],[true,true,true,true,true,true,true,true,true,true,true],[],[9,10]⟩,⟨[false,false,false,false,false,false,false,false,true,false,false],[(2,Pt 101 0),(3,Pt 102 0),(4,Pt 103 0),(5,.b (.one (.tr ae x_1))),(6,.b (.one (.tr ae x_2)))],[(101,.box 47 (bC t0)),(102,.box 87 (aq x0)),(103,.box 47 [.tr ae (.leaf),.cF 0,.cF 0,.cF 0])],[true,true,true,true,true,true,true,true,true,true,true],[1,2,3,4,5,6,7,8],[]⟩] rfl (⟨by kernel_rfl,⟨⟨.b (.agg (bC t0)),fun _=>rfl,fun _=>.p (by exact cy bw rfl rfl rfl rfl)⟩,⟨.b (.agg (aq x0)),fun _=>rfl,fun _=>.p (by exact cy bq rfl rfl rfl rfl)⟩,⟨Pt 101 2,fun _=>rfl,fun _=>.p (by exact ax sQ rfl rfl)⟩,⟨.b (.one (.cF t0.key)),fun _=>rfl,fun _=>.p (by exact aM tyOne44 rfl rfl rfl)⟩,⟨.b (.agg (aq x0)),fun _=>rfl,fun _=>.p (by exact cy bq rfl rfl rfl rfl)⟩,⟨.b (.one (.int .u64 x_3)),fun _=>rfl,fun _=>.p (by exact kB (rS e2) (rT e2) (uE e2) rfl rfl rfl)⟩,⟨.b (.one (.int .u64 x_4)),fun _=>rfl,fun _=>.p (by exact aj (oo e3) goes81 rfl rfl)⟩,⟨.b (.agg (aq x0 ++ (.int .u64 x_4 :: ((cO .i64) A3.zero ++ ((cO .i64) A3.zero ++ ([.tr ae (.leaf),.tr ae (.leaf)])))))),fun _=>rfl,fun _=>.p (by exact cE nW rfl rfl)⟩,⟨_,[],.b (.one (.tr ae (.node (⟨x0,x_4,(⟨A3.zero,A3.zero⟩:cn)⟩:bb) (.leaf) (.leaf)))),rfl,fun _=>rfl,rfl,rfl,fun _=>.qX [101,102,103] (by exact .p (by exact op_boxT (enc:=ae) (⟨x0,x_4,(⟨A3.zero,A3.zero⟩:cn)⟩:bb) (.leaf) (.leaf) rfl rfl)) (by exact rfl)⟩,trivial,trivial,trivial⟩,⟨by kernel_rfl,⟨⟨.b (.agg (bC t0)),fun _=>rfl,fun _=>.p (by exact cy bw rfl rfl rfl rfl)⟩,trivial,trivial,trivial,trivial,trivial,trivial,trivial,trivial,⟨.b (.one (.tr ae x_5)),fun _=>rfl,fun _=>.p (by exact aj (bH e4) k9 rfl rfl)⟩,⟨.b (.one (.tr ae x_5)),fun _=>rfl,fun _=>.p (by exact bX rfl)⟩,trivial⟩,trivial⟩⟩) rfl rfl rfl [2,4,5,6,7] [101,103] (s':=⟨[(2,_),(4,_),(5,_),(6,_),(7,.b (.one (.tr ae x_5)))],[(101,_),(103,_)]⟩) rfl ?_
 refine ab.seq (ab.ag ⟨[(2,_),(4,_),(5,_),(6,_),(7,_)],[(101,_),(103,_)]⟩ rfl ?_)
 obtain ⟨x_6,e5,h⟩:=aP h
 obtain ⟨x_7,e6,h⟩:=aP h
 refine ab.b4 mixed 8 [.b (.agg (bC t0)),.b (.agg (bC t0)),.b (.one (.tr ae x_1)),.b (.one (.tr ae x_5)),.b (.one (.tr ae x_6)),.b (.one (.tr ae x_2)),.b (.one (.tr ae x_7)),Pt 101 0] [2,4] [101,103] (s':=⟨[(2,_),(4,_)],[(101,.box 47 [.tr ae x_7,.cF t0.compare,.cF t0.key,.cF t0.box]),(103,_)]⟩) rfl ⟨fun _=>.p (lp bw),fun _=>.p (lp bw),fun _=>.p om,fun _=>.p om,fun _=>.p (aj (eu e5) nH rfl rfl),fun _=>.p om,fun _=>.p (aj (eu e6) nH rfl rfl),fun _=>.p (ax fH rfl rfl),trivial⟩ ⟨_,by exact .p (ek bp rfl rfl rfl (Nat.le_of_ble_eq_true rfl) rfl),rfl⟩ rfl (ab.seq (ab.aa ?_))
 refine af.lG bC h rfl (lp bw) (fun x_8 h=>?_)
 refine Oc (az bw rfl rfl rfl rfl (Nat.le_of_ble_eq_true rfl) rfl) (af.ai ⟨[(4,_)],[(103,.box 47 (bC x_8))]⟩ rfl (ab.ret ?_))
 obtain rfl:=Option.some.inj h
 refine Fin.ag ⟨[(4,_)],[(103,_)]⟩ rfl (Fin.aw [.agg (bC x_8)] (.inl rfl) rfl (.cons (.agg bw rfl rfl rfl rfl) .nil) ⟨rfl,rfl⟩)
def bI (F:Nat) (s0:cp) (id0:Int) (b0:cn):Option (cp × Int) :=
 (cf F b0).bind fun x_1=>if (!x_1) = true then (ez (⟨(⟨.leaf,0,0,0⟩:iG),(⟨.leaf,0,0,0⟩:iG)⟩:cp) fun x_2=>some (x_2,1)) else (Option.bind (cq F s0 id0) (dX fun x_3 x_4=>if x_4 = true then (ez (⟨(⟨.leaf,0,0,0⟩:iG),(⟨.leaf,0,0,0⟩:iG)⟩:cp) fun x_5=>some (x_5,6)) else ((bz F s0.ids (⟨id0,b0⟩:entry)).bind fun x_6=>(bz F s0.boxes (⟨id0,b0⟩:entry)).bind fun x_7=>some ((⟨x_6,x_7⟩:cp),0))))
theorem cz {F:Nat} {s0:cp} {id0:Int} {b0:cn} {r:cp × Int} (h:bI F s0 id0 b0 = some r):an Tryz.prog [] 29 [] [.agg (aA s0),.one (.i id0),.agg (ao b0)] (Is [] (.dY [.agg (aA r.1),.one (.i r.2)])):=by
 unfold bI at h
 refine an.intro 35 Tryz.func29 Tryz.ntmps29 rfl (by simp) fun E=>?_
 show ab _ E ⟨35,[],[],[]⟩ _ ⟨[(0,.b (.agg (aA s0))),(1,I id0),(2,.b (.agg (ao b0)))],[]⟩ _
 refine ab.seq (ab.aa ?_)
 refine Oc (bD (k:=101) rfl rfl) (Oc (bD (k:=102) rfl rfl) (Oc (aW (k:=103) dn rfl) (Oc oa ?_)))
 refine af.ai ⟨[(1,I id0),(3,Pt 101 0),(5,Pt 102 0),(6,Pt 103 0)],[(101,.box 49 (aA s0)),(102,.box 25 (ao b0)),(103,.box 49 [.tr ae (.leaf),.cF 0,.cF 0,.cF 0,.tr ae (.leaf),.cF 0,.cF 0,.cF 0])]⟩ rfl (ab.seq (ab.seq (ab.aa ?_)))
 refine Oc (lp aE) ?_
 obtain ⟨x_1,e1,h⟩:=aP h
 refine Oc (aj (cQ e1) me rfl rfl) (Oc (ee rfl) ?_)
 refine af.ai ⟨[(1,_),(3,_),(5,_),(6,_),(13,B (!x_1))],[(101,_),(102,_),(103,_)]⟩ rfl (ab.ite h rfl (fun _ h=>?_) (fun _ h=>?_))
 ·refine ab.seq (ab.aa ?_)
  refine af.lG aA h rfl (cE fe rfl rfl) (fun x_2 h=>?_)
  refine Oc (az aH rfl rfl rfl rfl (Nat.le_of_ble_eq_true rfl) rfl) (Oc oa ?_)
  refine af.ai ⟨[(6,_),(7,I 1)],[(103,.box 49 (aA x_2))]⟩ rfl (ab.ret (Fin.au ?_))
  obtain rfl:=Option.some.inj h
  refine Fin.ag ⟨[(6,_),(7,_)],[(103,_)]⟩ rfl (Fin.aw [.agg (aA x_2),.one (.i 1)] (.inl rfl) rfl (.cons (.agg aH rfl rfl rfl rfl) (.cons (.tmp rfl) .nil)) ⟨rfl,rfl⟩)
 ·refine ab.skip (Fin.ag ⟨[(1,_),(3,_),(5,_),(6,_)],[(101,_),(102,_),(103,_)]⟩ rfl (Fin.then (ab.seq (ab.seq (ab.aa ?_)))))
  refine Oc (lp aH) (Oc om ?_)
  obtain ⟨⟨x_3,x_4⟩,e2,h⟩:=aP h
  refine Oc (aj (fc e2) rk rfl rfl) (Oc om (Oc (ak rfl rfl) ?_))
  refine af.ag ⟨[(1,_),(3,_),(5,_),(6,_),(15,.dY [.agg (aq x_3),.one (.bool x_4)]),(19,.b (.agg (aq x_3)))],[(101,_),(102,_),(103,_)]⟩ rfl (Oc (ak rfl rfl) (Oc (aW (k:=104) gP rfl) (Oc (az bq rfl rfl rfl rfl (Nat.le_of_ble_eq_true rfl) rfl) (Oc oa ?_))))
  refine af.ai ⟨[(1,_),(3,_),(5,_),(6,_),(9,B x_4)],[(101,_),(102,_),(103,_)]⟩ rfl (ab.seq (ab.aa ?_))
  refine Oc om (af.ai ⟨[(1,_),(3,_),(5,_),(6,_),(21,B x_4)],[(101,_),(102,_),(103,_)]⟩ rfl (ab.ite h rfl (fun _ h=>?_) (fun _ h=>?_)))
  ·refine ab.seq (ab.aa ?_)
   refine af.lG aA h rfl (cE fe rfl rfl) (fun x_5 h=>?_)
   refine Oc (az aH rfl rfl rfl rfl (Nat.le_of_ble_eq_true rfl) rfl) (Oc oa ?_)
   refine af.ai ⟨[(6,_),(7,I 6)],[(103,.box 49 (aA x_5))]⟩ rfl (ab.ret (Fin.au ?_))
   obtain rfl:=Option.some.inj h
   refine Fin.ag ⟨[(6,_),(7,_)],[(103,_)]⟩ rfl (Fin.aw [.agg (aA x_5),.one (.i 6)] (.inl rfl) rfl (.cons (.agg aH rfl rfl rfl rfl) (.cons (.tmp rfl) .nil)) ⟨rfl,rfl⟩)
  ·refine ab.skip (Fin.ag ⟨[(1,_),(3,_),(5,_),(6,_)],[(101,_),(102,_),(103,_)]⟩ rfl (Fin.then (ab.seq (ab.aa ?_))))
   refine Oc om (Oc (lp aE) (Oc (cE oO rfl rfl) (Oc (aW (k:=105) gP rfl) (Oc (az bq rfl rfl rfl rfl (Nat.le_of_ble_eq_true rfl) rfl) ?_))))
   refine af.ai ⟨[(3,_),(6,_),(10,Pt 105 0)],[(101,_),(103,_),(105,.box 87 (.i id0 :: (ao b0)))]⟩ rfl (ab.seq ?_)
   obtain ⟨x_6,e3,h⟩:=aP h
   obtain ⟨x_7,e4,h⟩:=aP h
   refine ab.b4 mixed 9 [Pt 101 0,.b (.agg (bC s0.ids)),.b (.agg (.i id0 :: (ao b0))),.b (.agg (bC x_6)),Pt 101 4,.b (.agg (bC s0.boxes)),.b (.agg (.i id0 :: (ao b0))),.b (.agg (bC x_7)),.b (.agg (bC x_6 ++ (bC x_7)))] [6,7] [103] (s':=⟨[(6,_),(7,I 0)],[(103,.box 49 (bC x_6 ++ (bC x_7)))]⟩) rfl ⟨fun _=>.p (ax kz rfl rfl),fun _=>.p (lp bw),fun _=>.p (lp bq),fun _=>.p (aj (gj e3) tP rfl rfl),fun _=>.p (ax mh rfl rfl),fun _=>.p (lp bw),fun _=>.p (lp bq),fun _=>.p (aj (gj e4) tP rfl rfl),fun _=>.p (cE fe rfl rfl),trivial⟩ ⟨_,by exact .p (az aH rfl rfl rfl rfl (Nat.le_of_ble_eq_true rfl) rfl),⟨_,by exact .p oa,rfl⟩⟩ rfl (ab.ret ?_)
   obtain rfl:=Option.some.inj h
   refine Fin.ag ⟨[(6,_),(7,_)],[(103,_)]⟩ rfl (Fin.aw [.agg (bC x_6 ++ (bC x_7)),.one (.i 0)] (.inl rfl) rfl (.cons (.agg aH rfl rfl rfl rfl) (.cons (.tmp rfl) .nil)) ⟨rfl,rfl⟩)
def bN (F:Nat) (s0:cp) (b0:cn):Option (List Int) :=
 Option.bind (ov (fun t=>b7 F t b0) s0.boxes.root) (fun xs_1=>Option.bind (each (fun outf0_3=>fun x_2=>(cC F x_2.b b0).bind fun x_4=>if x_4 = true then ((kZ outf0_3 [x_2.id]).bind fun x_5=>some (.inl x_5)) else (some (.inl outf0_3))) (xs_1) []) (cc (fun outf0_3=>(eT F outf0_3).bind fun x_6=>some x_6) (fun (_:Unit)=>none)))
theorem dm {F:Nat} {s0:cp} {b0:cn} {r:(List Int)} (h:bN F s0 b0 = some r):an Tryz.prog [] 55 [] [.agg (aA s0),.agg (ao b0)] (Is [(51,.row 3 1 (r.map eI))] (.b (.row 51))):=by
 unfold bN at h
 refine an.tL 25 Tryz.func55 Tryz.ntmps55 rfl (by simp) fun E=>?_
 show ab _ E ⟨25,[],[],[]⟩ _ ⟨[(0,.b (.agg (aA s0))),(1,.b (.agg (ao b0)))],[]⟩ _
 refine ab.seq (ab.aa ?_)
 refine Oc (lQ rfl) (Oc (lQ rfl) (Oc oa ?_))
 refine af.ai ⟨[(2,.b (.aL (aA s0))),(3,.b (.aL (ao b0)))],[]⟩ rfl (ab.seq (ab.aa ?_))
 refine Oc (aW (k:=101) ug rfl) (af.ai ⟨[(2,_),(3,_),(5,Pt 101 0)],[(101,.box 51 [.nil])]⟩ rfl (ab.seq (ab.seq (ab.aa ?_))))
 refine Oc (aF mh rfl rfl) (Oc (aF fH rfl rfl) (Oc (ar bp rfl rfl) (Oc (gB rfl) (Oc (aj qB tQ rfl rfl) ?_))))
 refine af.ai ⟨[(3,_),(5,_),(11,.b (.one (.fl 77 [CP.rp [.tr ae s0.boxes.root],CP.rp [.fl 74 [CP.rp (ao b0)]]])))],[(101,_)]⟩ rfl ?_
 obtain ⟨xs_1,e1,h⟩:=aP h
 refine ab.ag ⟨[(3,.b (.aL (ao b0))),(5,Pt 101 0),(11,.b (.one (.fl 77 [CP.rp [.tr ae s0.boxes.root],CP.rp [.fl 74 [CP.rp (ao b0)]]])))],[(101,.box 51 [.nil])]⟩ rfl (ab.toX 101 rfl (ab.ic 101 0 104 1 3 rfl rfl (by decide) (by decide) rfl (ab.ag ⟨[(3,_),(5,_),(11,_)],[(101,.bY 51 [.row 104]),(104,.row 3 1 ([].map eI))]⟩ rfl (ab.tF _ tt _ _ (fun (outf0_3:List Int)=>[(101,.bY 51 [.row 104]),(104,.row 3 1 (outf0_3.map eI))]) (fun (_:Unit)=>([]:List (Nat × OC))) (fun (outf0_3:List Int)=>fun x_2=>⟨[(3,.b (.aL (ao b0))),(5,Pt 101 0),(6,Pt 106 0)],[(101,.bY 51 [.row 104]),(104,.row 3 1 (outf0_3.map eI)),(106,.box 87 (aq x_2))]⟩) h (qC qM e1) tN rfl rfl rfl (fun _=>rfl) (fun _=>rfl) (fun _=>rfl) (fun _ _=>rfl) (fun _ _=>rfl) rfl (fun _=>rfl) ?_ ?_ ?_ ?_))))
 ·rintro E l outf0_3 x_2 z _ h2
  refine aX.keep [3,5,11,12] [101,104] (s':=⟨[(3,.b (.aL (ao b0))),(5,Pt 101 0),(11,.b (.one (.fl 77 [CP.rp [.tr ae s0.boxes.root],CP.rp [.fl 74 [CP.rp (ao b0)]]]))),(12,.b (.agg (aq x_2)))],[(101,.bY 51 [.row 104]),(104,.row 3 1 (outf0_3.map eI))]⟩) rfl (aX.aa (.inr ⟨_,rfl⟩) (Oc (aW (k:=106) gP rfl) (Oc (az bq rfl rfl rfl rfl (Nat.le_of_ble_eq_true rfl) rfl) ?_)))
  refine af.nil ?_
  exact Fin.ag ⟨[(3,_),(5,_),(6,Pt 106 0)],[(101,_),(104,_),(106,.box 87 (aq x_2))]⟩ rfl (fun a w hr=>hr)
 ·rintro E l outf0_3 x_2 z _ h2
  refine aX.block (aX.seq (aX.aa (.inr ⟨_,rfl⟩) (Oc (ax gF rfl rfl) (Oc (lp aE) (Oc (b8 aE rfl rfl rfl) ?_)))))
  obtain ⟨x_4,e3,h2⟩:=aP h2
  refine Oc (aj (c8 e3) mc rfl rfl) (af.nil (Fin.ag ⟨[(3,.b (.aL (ao b0))),(5,Pt 101 0),(6,Pt 106 0),(16,B x_4)],[(101,.bY 51 [.row 104]),(104,.row 3 1 (outf0_3.map eI)),(106,.box 87 (aq x_2))]⟩ rfl (Fin.gq ?_ (fun ⟨_,_,hl⟩=>hl))))
  refine aX.ite h2 rfl (fun _ h2=>?_) (fun _ h2=>?_)
  ·refine aX.aa (.inr ⟨_,rfl⟩) (Oc (gV nj rfl rfl rfl) (Oc (ax dL rfl rfl) (Oc (aM aN rfl rfl rfl) (Oc (cD (k:=107) (es:=[x_2.id].map eI) bK rfl rfl (cG fun _=>rfl) rfl (by decide) (by decide) rfl) ?_))))
   refine af.forget 101 0 rfl ?_
   obtain ⟨x_5,e4,h2⟩:=aP h2
   refine Oc (gg bK (p6 e4) (p5 e4) rfl rfl rfl rfl (lN e4) rfl) (Oc (mW nj rfl rfl rfl rfl (Nat.le_of_ble_eq_true rfl) rfl) ?_)
   refine af.nil (Fin.av ?_)
   obtain rfl:=Option.some.inj h2
   exact Fin.ag ⟨[],[(101,.bY 51 [.row 104]),(104,.row 3 1 (x_5.map eI))]⟩ rfl (fun a w hr=>⟨_,rfl,hr⟩)
  ·refine aX.skip (Fin.av ?_)
   obtain rfl:=Option.some.inj h2
   exact Fin.ag ⟨[],[(101,_),(104,_)]⟩ rfl (fun a w hr=>⟨_,rfl,hr⟩)
 ·rintro E D outf0_3 h5
  refine ab.seq (ab.aa ?_)
  refine Oc (gV nj rfl rfl rfl) (af.sL 104 rfl ?_)
  obtain ⟨x_6,e6,h5⟩:=aP h5
  refine Oc (cX (own_a:=[(104,_)]) ((mG e6).sw 1 104) goes75 rfl ⟨rfl,trivial⟩ rfl rfl) (af.sK 104 rfl (af.ai ⟨[(5,Pt 101 0)],[(101,.bY 51 [.row 104]),(104,.row 3 1 (x_6.map eI))]⟩ rfl (ab.seq (ab.aa ?_))))
  refine Oc (gV nj rfl rfl rfl) (Oc oa ?_)
  refine af.ai ⟨[(4,.b (.row 104))],[(104,_)]⟩ rfl (ab.ret ?_)
  obtain rfl:=Option.some.inj h5
  refine Fin.ag ⟨[(4,.b (.row 104))],[(104,.row 3 1 (x_6.map eI))]⟩ rfl (Fin.rename 104 51 rfl (by decide) rfl (Fin.ag ⟨[(4,.b (.row 51))],[(51,.row 3 1 (x_6.map eI))]⟩ rfl ?_))
  exact Fin.result [.row 51] (.inl rfl) rfl (.cons (.tmp rfl) .nil) ⟨rfl,rfl⟩
 ·rintro E D ⟨⟩ h5
  cases h5
def dx (F:Nat) (s0:cp) (b0:cn):Option ((List Int) × Int) :=
 (cf F b0).bind fun x_1=>if (!x_1) = true then (some ([],1)) else ((bN F s0 b0).bind fun x_2=>some (x_2,0))
theorem gv (kr0:Nat) {F:Nat} {s0:cp} {b0:cn} {r:(List Int) × Int} (h:dx F s0 b0 = some r):an Tryz.prog [] 31 [] [.agg (aA s0),.agg (ao b0)] (Is [(kr0,.row 3 1 (r.1.map eI))] (.dY [.row kr0,.one (.i r.2)])):=by
 unfold dx at h
 refine an.intro 12 Tryz.func31 Tryz.ntmps31 rfl (by simp) fun E=>?_
 show ab _ E ⟨12,[],[],[]⟩ _ ⟨[(0,.b (.agg (aA s0))),(1,.b (.agg (ao b0)))],[]⟩ _
 refine ab.seq (ab.aa ?_)
 refine Oc (bD (k:=101) rfl rfl) (Oc (bD (k:=102) rfl rfl) (Oc oa (Oc oa ?_)))
 refine af.ai ⟨[(2,Pt 101 0),(3,Pt 102 0)],[(101,.box 49 (aA s0)),(102,.box 25 (ao b0))]⟩ rfl (ab.seq (ab.seq (ab.aa ?_)))
 refine Oc (lp aE) ?_
 obtain ⟨x_1,e1,h⟩:=aP h
 refine Oc (aj (cQ e1) me rfl rfl) (Oc (ee rfl) ?_)
 refine af.ai ⟨[(2,_),(3,_),(8,B (!x_1))],[(101,_),(102,_)]⟩ rfl (ab.ite h rfl (fun _ h=>?_) (fun _ h=>?_))
 ·refine ab.seq (ab.aa ?_)
  refine Oc oa (Oc oa ?_)
  refine af.ai ⟨[(4,.b (.one (.nil))),(5,I 1)],[]⟩ rfl (ab.ret (Fin.au ?_))
  obtain rfl:=Option.some.inj h
  refine Fin.ag ⟨[(4,_),(5,_)],[]⟩ rfl (Fin.fG 4 103 1 3 rfl (by decide) rfl (Fin.lI 103 kr0 [.row 103,.one (.i 1)] (.inl rfl) rfl (.cons (.tmp rfl) (.cons (.tmp rfl) .nil)) rfl rfl rfl rfl ⟨rfl,rfl⟩))
 ·refine ab.skip (Fin.ag ⟨[(2,_),(3,_)],[(101,_),(102,_)]⟩ rfl (Fin.then (ab.seq (ab.aa ?_))))
  refine Oc (lp aH) (Oc (lp aE) ?_)
  obtain ⟨x_2,e2,h⟩:=aP h
  refine Oc (cX (own_a:=[]) ((dm e2).sw 51 104) pj rfl trivial rfl rfl) (Oc oa (Oc oa ?_))
  refine af.ai ⟨[(4,.b (.row 104)),(5,I 0)],[(104,.row 3 1 (x_2.map eI))]⟩ rfl (ab.ret ?_)
  obtain rfl:=Option.some.inj h
  refine Fin.ag ⟨[(4,_),(5,_)],[(104,_)]⟩ rfl (Fin.lI 104 kr0 [.row 104,.one (.i 0)] (.inl rfl) rfl (.cons (.tmp rfl) (.cons (.tmp rfl) .nil)) rfl rfl rfl rfl ⟨rfl,rfl⟩)
def bV (F:Nat):Nat → iG → (cH bb) → entry → Option (cH bb)
 | 0,_,_,_=>none
 | n + 1,t0,n0,x0=>Option.bind (iF n0) (fun nd_1=>(fv F t0.compare x0 nd_1.1.x).bind fun x_2=>if (decide (x_2 < 0)) = true then (Option.bind (iF n0) (fun nd_3=>(bV F n t0 nd_3.2.1 x0).bind fun x_4=>Option.bind (iF n0) (fun nd_5=>(a6 F t0 n0 x_4 nd_5.2.2).bind fun x_6=>some x_6))) else (if (decide (0 < x_2)) = true then (Option.bind (iF n0) (fun nd_7=>Option.bind (iF n0) (fun nd_8=>(bV F n t0 nd_8.2.2 x0).bind fun x_9=>(a6 F t0 n0 nd_7.2.1 x_9).bind fun x_10=>some x_10))) else (Option.bind (iF n0) (fun nd_11=>Option.bind (iF n0) (fun nd_12=>(ck F t0 nd_11.2.1 nd_12.2.2).bind fun x_13=>some x_13)))))
def fF (F:Nat) (t0:iG) (n0:cH bb) (x0:entry):Option (cH bb):=bV F F t0 n0 x0
theorem jF {F:Nat}:∀ (n:Nat) {t0:iG} {n0:cH bb} {x0:entry} {r:(cH bb)} (h:bV F n t0 n0 x0 = some r),an Tryz.prog [] 83 [] [.agg (bC t0),.one (.tr ae n0),.agg (aq x0)] (Is [] (.b (.one (.tr ae r)))):=by
 intro n
 induction n with
 | zero=>intro t0 n0 x0 r h; simp [bV] at h
 | succ n ih=>
 intro t0 n0 x0 r h
 unfold bV at h
 refine an.intro 60 Tryz.func83 Tryz.ntmps83 rfl (by simp) fun E=>?_
 show ab _ E ⟨60,[],[],[]⟩ _ ⟨[(0,.b (.agg (bC t0))),(1,.b (.one (.tr ae n0))),(2,.b (.agg (aq x0)))],[]⟩ _
 refine ab.seq (ab.aa ?_)
 refine Oc (bD (k:=101) rfl rfl) (Oc (bD (k:=102) rfl rfl) (Oc oa ?_))
 refine af.ai ⟨[(1,.b (.one (.tr ae n0))),(3,Pt 101 0),(5,Pt 102 0)],[(101,.box 47 (bC t0)),(102,.box 87 (aq x0))]⟩ rfl (ab.seq (ab.seq ?_))
 refine ab.ag ⟨[(1,_),(3,_),(5,_)],[(101,_),(102,_)]⟩ rfl ?_
 obtain ⟨nd_1,e1,h⟩:=aP h
 obtain ⟨x_2,e2,h⟩:=aP h
 refine ab.b4 mixed 9 [Pt 101 1,.b (.one (.cF t0.compare)),.b (.agg (aq x0)),.b (.one (.tr ae n0)),.b (.aL (aq nd_1.1.x ++ (.int .u64 nd_1.1.priority :: (ao nd_1.1.cover ++ ([.tr ae nd_1.2.1,.tr ae nd_1.2.2]))))),.b (.aL (aq nd_1.1.x ++ (.int .u64 nd_1.1.priority :: (ao nd_1.1.cover ++ ([.tr ae nd_1.2.1,.tr ae nd_1.2.2]))))),.b (.agg (aq nd_1.1.x)),I x_2,I x_2] [1,3,5,7] [101,102] (s':=⟨[(1,_),(3,_),(5,_),(7,I x_2)],[(101,_),(102,_)]⟩) rfl ⟨fun _=>.p (ax oN rfl rfl),fun _=>.p (aM sm rfl rfl rfl),fun _=>.p (lp bq),fun _=>.p om,fun _=>.p (aG e1 rfl rfl),fun _=>by exact .p (aF eh rfl rfl),fun _=>.p (b8 bq rfl rfl rfl),fun _=>.p (kB (oe e2) (og e2) (qy e2) rfl rfl rfl),fun _=>.p oa,trivial⟩ rfl rfl (ab.block (ab.seq (ab.aa ?_)))
 refine Oc om (Oc (bo rfl rfl) (Oc oa ?_))
 refine af.ai ⟨[(1,_),(3,_),(5,_),(7,_),(16,B (decide (x_2 < 0)))],[(101,_),(102,_)]⟩ rfl (ab.ite h rfl (fun _ h=>?_) (fun _ h=>?_))
 ·refine ab.seq (ab.ag ⟨[(1,_),(3,_),(5,_)],[(101,_),(102,_)]⟩ rfl ?_)
  obtain ⟨nd_3,e3,h⟩:=aP h
  obtain ⟨x_4,e4,h⟩:=aP h
  obtain ⟨nd_5,e5,h⟩:=aP h
  obtain ⟨x_6,e6,h⟩:=aP h
  refine ab.b4 mixed 15 [.b (.agg (bC t0)),.b (.one (.tr ae n0)),.b (.agg (bC t0)),.b (.one (.tr ae n0)),.b (.aL (aq nd_3.1.x ++ (.int .u64 nd_3.1.priority :: (ao nd_3.1.cover ++ ([.tr ae nd_3.2.1,.tr ae nd_3.2.2]))))),.b (.aL [.tr ae nd_3.2.1,.tr ae nd_3.2.2]),.b (.one (.tr ae nd_3.2.1)),.b (.agg (aq x0)),.b (.one (.tr ae x_4)),.b (.one (.tr ae n0)),.b (.aL (aq nd_5.1.x ++ (.int .u64 nd_5.1.priority :: (ao nd_5.1.cover ++ ([.tr ae nd_5.2.1,.tr ae nd_5.2.2]))))),.b (.aL [.tr ae nd_5.2.2]),.b (.one (.tr ae nd_5.2.2)),.b (.one (.tr ae x_6)),.b (.one (.tr ae x_6))] [6] [] (s':=⟨[(6,.b (.one (.tr ae x_6)))],[]⟩) rfl ⟨fun _=>.p (lp bw),fun _=>.p om,fun _=>.p (lp bw),fun _=>.p om,fun _=>.p (aG e3 rfl rfl),fun _=>by exact .p (aF dE rfl rfl),fun _=>.p (ar bp rfl rfl),fun _=>.p (lp bq),fun _=>.p (aj (ih e4) ri rfl rfl),fun _=>.p om,fun _=>.p (aG e5 rfl rfl),fun _=>by exact .p (aF dD rfl rfl),fun _=>.p (ar bp rfl rfl),fun _=>.p (aj (bH e6) k9 rfl rfl),fun _=>.p oa,trivial⟩ rfl rfl (ab.ret (Fin.aO (Fin.au ?_)))
  obtain rfl:=Option.some.inj h
  refine Fin.ag ⟨[(6,_)],[]⟩ rfl (Fin.aw [.one (.tr ae x_6)] (.inl rfl) rfl (.cons (.tmp rfl) .nil) ⟨rfl,rfl⟩)
 ·refine ab.seq (ab.aa ?_)
  refine Oc om (Oc (jQ rfl rfl) (Oc oa ?_))
  refine af.ai ⟨[(1,_),(3,_),(5,_),(33,B (decide (0 < x_2)))],[(101,_),(102,_)]⟩ rfl (ab.ite h rfl (fun _ h=>?_) (fun _ h=>?_))
  ·refine ab.seq (ab.ag ⟨[(1,_),(3,_),(5,_)],[(101,_),(102,_)]⟩ rfl ?_)
   obtain ⟨nd_7,e7,h⟩:=aP h
   obtain ⟨nd_8,e8,h⟩:=aP h
   obtain ⟨x_9,e9,h⟩:=aP h
   obtain ⟨x_10,e10,h⟩:=aP h
   refine ab.b4 mixed 15 [.b (.agg (bC t0)),.b (.one (.tr ae n0)),.b (.one (.tr ae n0)),.b (.aL (aq nd_7.1.x ++ (.int .u64 nd_7.1.priority :: (ao nd_7.1.cover ++ ([.tr ae nd_7.2.1,.tr ae nd_7.2.2]))))),.b (.aL [.tr ae nd_7.2.1,.tr ae nd_7.2.2]),.b (.one (.tr ae nd_7.2.1)),.b (.agg (bC t0)),.b (.one (.tr ae n0)),.b (.aL (aq nd_8.1.x ++ (.int .u64 nd_8.1.priority :: (ao nd_8.1.cover ++ ([.tr ae nd_8.2.1,.tr ae nd_8.2.2]))))),.b (.aL [.tr ae nd_8.2.2]),.b (.one (.tr ae nd_8.2.2)),.b (.agg (aq x0)),.b (.one (.tr ae x_9)),.b (.one (.tr ae x_10)),.b (.one (.tr ae x_10))] [6] [] (s':=⟨[(6,.b (.one (.tr ae x_10)))],[]⟩) rfl ⟨fun _=>.p (lp bw),fun _=>.p om,fun _=>.p om,fun _=>.p (aG e7 rfl rfl),fun _=>by exact .p (aF dE rfl rfl),fun _=>.p (ar bp rfl rfl),fun _=>.p (lp bw),fun _=>.p om,fun _=>.p (aG e8 rfl rfl),fun _=>by exact .p (aF dD rfl rfl),fun _=>.p (ar bp rfl rfl),fun _=>.p (lp bq),fun _=>.p (aj (ih e9) ri rfl rfl),fun _=>.p (aj (bH e10) k9 rfl rfl),fun _=>.p oa,trivial⟩ rfl rfl (ab.ret (Fin.aO (Fin.au ?_)))
   obtain rfl:=Option.some.inj h
   refine Fin.ag ⟨[(6,_)],[]⟩ rfl (Fin.aw [.one (.tr ae x_10)] (.inl rfl) rfl (.cons (.tmp rfl) .nil) ⟨rfl,rfl⟩)
  ·refine ab.skip (Fin.av (Fin.ag ⟨[(1,_),(3,_)],[(101,_)]⟩ rfl (Fin.then (ab.seq ?_))))
   refine ab.ag ⟨[(1,_),(3,_)],[(101,_)]⟩ rfl ?_
   obtain ⟨nd_11,e11,h⟩:=aP h
   obtain ⟨nd_12,e12,h⟩:=aP h
   obtain ⟨x_13,e13,h⟩:=aP h
   refine ab.b4 mixed 11 [.b (.agg (bC t0)),.b (.one (.tr ae n0)),.b (.aL (aq nd_11.1.x ++ (.int .u64 nd_11.1.priority :: (ao nd_11.1.cover ++ ([.tr ae nd_11.2.1,.tr ae nd_11.2.2]))))),.b (.aL [.tr ae nd_11.2.1,.tr ae nd_11.2.2]),.b (.one (.tr ae nd_11.2.1)),.b (.one (.tr ae n0)),.b (.aL (aq nd_12.1.x ++ (.int .u64 nd_12.1.priority :: (ao nd_12.1.cover ++ ([.tr ae nd_12.2.1,.tr ae nd_12.2.2]))))),.b (.aL [.tr ae nd_12.2.2]),.b (.one (.tr ae nd_12.2.2)),.b (.one (.tr ae x_13)),.b (.one (.tr ae x_13))] [6] [] (s':=⟨[(6,.b (.one (.tr ae x_13)))],[]⟩) rfl ⟨fun _=>.p (lp bw),fun _=>.p om,fun _=>.p (aG e11 rfl rfl),fun _=>by exact .p (aF dE rfl rfl),fun _=>.p (ar bp rfl rfl),fun _=>.p om,fun _=>.p (aG e12 rfl rfl),fun _=>by exact .p (aF dD rfl rfl),fun _=>.p (ar bp rfl rfl),fun _=>.p (aj (eu e13) nH rfl rfl),fun _=>.p oa,trivial⟩ rfl rfl (ab.ret ?_)
   obtain rfl:=Option.some.inj h
   refine Fin.ag ⟨[(6,_)],[]⟩ rfl (Fin.aw [.one (.tr ae x_13)] (.inl rfl) rfl (.cons (.tmp rfl) .nil) ⟨rfl,rfl⟩)
theorem kh {F:Nat} {t0:iG} {n0:cH bb} {x0:entry} {r:(cH bb)} (h:fF F t0 n0 x0 = some r):an Tryz.prog [] 83 [] [.agg (bC t0),.one (.tr ae n0),.agg (aq x0)] (Is [] (.b (.one (.tr ae r)))):=jF F h
def bf (F:Nat) (t0:iG) (x0:entry):Option iG :=
 (fF F t0 t0.root x0).bind fun x_1=>ez (⟨x_1,t0.compare,t0.key,t0.box⟩:iG) fun x_2=>some x_2
theorem fk {F:Nat} {t0:iG} {x0:entry} {r:iG} (h:bf F t0 x0 = some r):an Tryz.prog [] 60 [] [.agg (bC t0),.agg (aq x0)] (Is [] (.b (.agg (bC r)))):=by
 unfold bf at h
 refine an.intro 12 Tryz.func60 Tryz.ntmps60 rfl (by simp) fun E=>?_
 show ab _ E ⟨12,[],[],[]⟩ _ ⟨[(0,.b (.agg (bC t0))),(1,.b (.agg (aq x0)))],[]⟩ _
 refine ab.seq (ab.aa ?_)
 refine Oc (bD (k:=101) rfl rfl) (Oc (bD (k:=102) rfl rfl) (Oc (aW (k:=103) p8 rfl) ?_))
 refine af.ai ⟨[(2,Pt 101 0),(3,Pt 102 0),(4,Pt 103 0)],[(101,.box 47 (bC t0)),(102,.box 87 (aq x0)),(103,.box 47 [.tr ae (.leaf),.cF 0,.cF 0,.cF 0])]⟩ rfl (ab.seq (ab.aa ?_))
 refine Oc (lp bw) (Oc (ax fH rfl rfl) (Oc (aM bp rfl rfl rfl) (Oc (lp bq) ?_)))
 obtain ⟨x_1,e1,h⟩:=aP h
 refine Oc (aj (kh e1) ri rfl rfl) (Oc (ax fH rfl rfl) (Oc (ek bp rfl rfl rfl (Nat.le_of_ble_eq_true rfl) rfl) ?_))
 refine af.ai ⟨[(2,_),(4,_)],[(101,.box 47 [.tr ae x_1,.cF t0.compare,.cF t0.key,.cF t0.box]),(103,_)]⟩ rfl (ab.seq (ab.aa ?_))
 refine af.lG bC h rfl (lp bw) (fun x_2 h=>?_)
 refine Oc (az bw rfl rfl rfl rfl (Nat.le_of_ble_eq_true rfl) rfl) (af.ai ⟨[(4,_)],[(103,.box 47 (bC x_2))]⟩ rfl (ab.ret ?_))
 obtain rfl:=Option.some.inj h
 refine Fin.ag ⟨[(4,_)],[(103,_)]⟩ rfl (Fin.aw [.agg (bC x_2)] (.inl rfl) rfl (.cons (.agg bw rfl rfl rfl rfl) .nil) ⟨rfl,rfl⟩)
def bG (F:Nat) (s0:cp) (id0:Int):Option (cp × Int) :=
 Option.bind (cq F s0 id0) (dX fun x_1 x_2=>if (!x_2) = true then (ez (⟨(⟨.leaf,0,0,0⟩:iG),(⟨.leaf,0,0,0⟩:iG)⟩:cp) fun x_3=>some (x_3,5)) else ((bf F s0.ids x_1).bind fun x_4=>(bf F s0.boxes x_1).bind fun x_5=>some ((⟨x_4,x_5⟩:cp),0)))
theorem dT {F:Nat} {s0:cp} {id0:Int} {r:cp × Int} (h:bG F s0 id0 = some r):an Tryz.prog [] 30 [] [.agg (aA s0),.one (.i id0)] (Is [] (.dY [.agg (aA r.1),.one (.i r.2)])):=by
 unfold bG at h
 refine an.intro 26 Tryz.func30 Tryz.ntmps30 rfl (by simp) fun E=>?_
 show ab _ E ⟨26,[],[],[]⟩ _ ⟨[(0,.b (.agg (aA s0))),(1,I id0)],[]⟩ _
 refine ab.seq (ab.aa ?_)
 refine Oc (bD (k:=101) rfl rfl) (Oc (aW (k:=102) dn rfl) (Oc oa ?_))
 refine af.ai ⟨[(1,I id0),(2,Pt 101 0),(4,Pt 102 0)],[(101,.box 49 (aA s0)),(102,.box 49 [.tr ae (.leaf),.cF 0,.cF 0,.cF 0,.tr ae (.leaf),.cF 0,.cF 0,.cF 0])]⟩ rfl (ab.seq (ab.aa ?_))
 refine Oc (lp aH) (Oc om ?_)
 obtain ⟨⟨x_1,x_2⟩,e1,h⟩:=aP h
 refine Oc (aj (fc e1) rk rfl rfl) (Oc om (Oc (ak rfl rfl) ?_))
 refine af.ag ⟨[(2,_),(4,_),(8,.dY [.agg (aq x_1),.one (.bool x_2)]),(12,.b (.agg (aq x_1)))],[(101,_),(102,_)]⟩ rfl (Oc (ak rfl rfl) (Oc (aW (k:=103) gP rfl) (Oc (az bq rfl rfl rfl rfl (Nat.le_of_ble_eq_true rfl) rfl) (Oc oa ?_))))
 refine af.ai ⟨[(2,_),(4,_),(6,Pt 103 0),(7,B x_2)],[(101,_),(102,_),(103,.box 87 (aq x_1))]⟩ rfl (ab.seq (ab.seq (ab.aa ?_)))
 refine Oc om (Oc (ee rfl) ?_)
 refine af.ai ⟨[(2,_),(4,_),(6,_),(15,B (!x_2))],[(101,_),(102,_),(103,_)]⟩ rfl (ab.ite h rfl (fun _ h=>?_) (fun _ h=>?_))
 ·refine ab.seq (ab.aa ?_)
  refine af.lG aA h rfl (cE fe rfl rfl) (fun x_3 h=>?_)
  refine Oc (az aH rfl rfl rfl rfl (Nat.le_of_ble_eq_true rfl) rfl) (Oc oa ?_)
  refine af.ai ⟨[(4,_),(5,I 5)],[(102,.box 49 (aA x_3))]⟩ rfl (ab.ret (Fin.au ?_))
  obtain rfl:=Option.some.inj h
  refine Fin.ag ⟨[(4,_),(5,_)],[(102,_)]⟩ rfl (Fin.aw [.agg (aA x_3),.one (.i 5)] (.inl rfl) rfl (.cons (.agg aH rfl rfl rfl rfl) (.cons (.tmp rfl) .nil)) ⟨rfl,rfl⟩)
 ·refine ab.skip (Fin.ag ⟨[(2,_),(4,_),(6,_)],[(101,_),(102,_),(103,_)]⟩ rfl (Fin.then (ab.seq ?_)))
  refine ab.ag ⟨[(2,_),(4,_),(6,_)],[(101,_),(102,_),(103,_)]⟩ rfl ?_
  obtain ⟨x_4,e2,h⟩:=aP h
  obtain ⟨x_5,e3,h⟩:=aP h
  refine ab.b4 mixed 9 [Pt 101 0,.b (.agg (bC s0.ids)),.b (.agg (aq x_1)),.b (.agg (bC x_4)),Pt 101 4,.b (.agg (bC s0.boxes)),.b (.agg (aq x_1)),.b (.agg (bC x_5)),.b (.agg (bC x_4 ++ (bC x_5)))] [4,5] [102] (s':=⟨[(4,_),(5,I 0)],[(102,.box 49 (bC x_4 ++ (bC x_5)))]⟩) rfl ⟨fun _=>.p (ax kz rfl rfl),fun _=>.p (lp bw),fun _=>.p (lp bq),fun _=>.p (aj (fk e2) tO rfl rfl),fun _=>.p (ax mh rfl rfl),fun _=>.p (lp bw),fun _=>.p (lp bq),fun _=>.p (aj (fk e3) tO rfl rfl),fun _=>.p (cE fe rfl rfl),trivial⟩ ⟨_,by exact .p (az aH rfl rfl rfl rfl (Nat.le_of_ble_eq_true rfl) rfl),⟨_,by exact .p oa,rfl⟩⟩ rfl (ab.ret ?_)
  obtain rfl:=Option.some.inj h
  refine Fin.ag ⟨[(4,_),(5,_)],[(102,_)]⟩ rfl (Fin.aw [.agg (bC x_4 ++ (bC x_5)),.one (.i 0)] (.inl rfl) rfl (.cons (.agg aH rfl rfl rfl rfl) (.cons (.tmp rfl) .nil)) ⟨rfl,rfl⟩)
def gX (F:Nat) (x0:Int) (y0:Int):Option Bool :=
 (dA F x0).bind fun x_1=>(bJ x_1 (dA F y0)).bind fun x_2=>some ((x_1 && (!x_2)) || (decide (x0 < y0)))
theorem oG {F:Nat} {x0:Int} {y0:Int} {r:Bool} (h:gX F x0 y0 = some r):an Tryz.prog [] 98 [] [.one (.i x0),.one (.i y0)] (Is [] (.b (.one (.bool r)))):=by
 unfold gX at h
 refine an.intro 17 Tryz.func98 Tryz.ntmps98 rfl (by simp) fun E=>?_
 show ab _ E ⟨17,[],[],[]⟩ _ ⟨[(0,I x0),(1,I y0)],[]⟩ _
 refine ab.seq (ab.aa ?_)
 refine Oc oa (af.ai ⟨[(0,I x0),(1,I y0)],[]⟩ rfl (ab.seq (ab.aa ?_)))
 refine Oc om ?_
 obtain ⟨x_1,e1,h⟩:=aP h
 refine Oc (aj (fD e1) ph rfl rfl) (Oc om ?_)
 refine ew x_1 [] (fun g2=>trivial) (fun g2=>om) (af.ag ⟨[(0,_),(1,_),(7,B x_1),(8,.opt x_1 (.one (.i y0)))],[]⟩ rfl ?_)
 obtain ⟨x_2,e4,h⟩:=aP h
 refine ew x_1 [8] (fun g3=>⟨g3,trivial⟩) (fun g3=>aj (fD (gc e4 g3)) ph rfl rfl) (ew x_1 [9] (fun g5=>⟨g5,trivial⟩) (fun g5=>ee rfl) (Oc (aI (fun e=>e) rfl rfl rfl rfl) (Oc om ?_)))
 refine tm (!(x_1 && (!x_2))) [] (fun g6=>trivial) (fun g6=>om) (tm (!(x_1 && (!x_2))) [] (fun g7=>by exact trivial) (fun g7=>om) (tm (!(x_1 && (!x_2))) [13,14] (fun g8=>by exact ⟨g8,g8,trivial⟩) (fun g8=>bo rfl rfl) (Oc (cU (fun e=>by first | (rw [e]; rfl) | (simp only at e; rw [e]; rfl)) rfl rfl rfl rfl) (Oc oa ?_))))
 refine af.ai ⟨[(4,B ((x_1 && (!x_2)) || (decide (x0 < y0))))],[]⟩ rfl (ab.ret ?_)
 obtain rfl:=Option.some.inj h
 refine Fin.ag ⟨[(4,_)],[]⟩ rfl (Fin.aw [.one (.bool ((x_1 && (!x_2)) || (decide (x0 < y0))))] (.inl rfl) rfl (.cons (.tmp rfl) .nil) ⟨rfl,rfl⟩)
def du (F:Nat) (x0:Int):Option Bool :=
 some (decide (x0 ≠ x0))
theorem iq {F:Nat} {x0:Int} {r:Bool} (h:du F x0 = some r):an Tryz.prog [] 99 [] [.one (.i x0)] (Is [] (.b (.one (.bool r)))):=by
 unfold du at h
 refine an.intro 6 Tryz.func99 Tryz.ntmps99 rfl (by simp) fun E=>?_
 show ab _ E ⟨6,[],[],[]⟩ _ ⟨[(0,I x0)],[]⟩ _
 refine ab.seq (ab.aa ?_)
 refine Oc oa (af.ai ⟨[(0,I x0)],[]⟩ rfl (ab.seq (ab.aa ?_)))
 refine Oc om (Oc om (Oc (iV rfl rfl) (Oc oa ?_)))
 refine af.ai ⟨[(2,B (decide (x0 ≠ x0)))],[]⟩ rfl (ab.ret ?_)
 obtain rfl:=Option.some.inj h
 refine Fin.ag ⟨[(2,_)],[]⟩ rfl (Fin.aw [.one (.bool (decide (x0 ≠ x0)))] (.inl rfl) rfl (.cons (.tmp rfl) .nil) ⟨rfl,rfl⟩)
def cw (F:Nat) (x0:List Int) (target0:Int):Option (Int × Bool) :=
 Option.bind (iter F (dX fun i_2 j_3=>if (decide (i_2 < j_3)) = true then (ez (IntKind.u64.wrap (IntKind.i64.wrap (i_2 + j_3))) fun x_5=>(bd x0 (IntKind.i64.wrap (x_5 / 2))).bind fun x_6=>(gX F x_6 target0).bind fun x_7=>if x_7 = true then (ez (IntKind.i64.wrap ((IntKind.i64.wrap (x_5 / 2)) + 1)) fun x_8=>some (.inl (x_8,j_3))) else (some (.inl (i_2,IntKind.i64.wrap (x_5 / 2))))) else (some (.inr i_2))) (0,(x0.length:Int))) (fun i_1=>(bJ (decide (i_1 < (x0.length:Int))) (bd x0 i_1)).bind fun x_9=>(bJ ((decide (i_1 < (x0.length:Int))) && !(decide (x_9 = target0))) (bd x0 i_1)).bind fun x_10=>(bJ ((decide (i_1 < (x0.length:Int))) && !(decide (x_9 = target0))) (du F x_10)).bind fun x_11=>(bJ (((decide (i_1 < (x0.length:Int))) && !(decide (x_9 = target0))) && x_11) (du F target0)).bind fun x_12=>ez ((decide (i_1 < (x0.length:Int))) && ((decide (x_9 = target0)) || (x_11 && x_12))) fun x_13=>some (i_1,x_13))
theorem iE {F:Nat} {x0:List Int} {target0:Int} {r:Int × Bool} (h:cw F x0 target0 = some r):an Tryz.prog [] 76 [] [.one (.sl 1 (x0.map eI)),.one (.i target0)] (Is [] (.dY [.one (.i r.1),.one (.bool r.2)])):=by
 unfold cw at h
 refine an.intro 54 Tryz.func76 Tryz.ntmps76 rfl (by simp) fun E=>?_
 show ab _ E ⟨54,[],[],[]⟩ _ ⟨[(0,.b (.one (.sl 1 (x0.map eI)))),(1,I target0)],[]⟩ _
 refine ab.seq (ab.aa ?_)
 refine Oc oa (Oc oa ?_)
 refine af.ai ⟨[(0,.b (.one (.sl 1 (x0.map eI)))),(1,I target0)],[]⟩ rfl (ab.seq (ab.aa ?_))
 refine Oc om (Oc (a7 dU rfl (List.length_map _)) (Oc oa ?_))
 refine af.ai ⟨[(0,_),(1,_),(6,I (x0.length:Int))],[]⟩ rfl (ab.seq (ab.aa ?_))
 refine Oc om (Oc oa (Oc oa ?_))
 refine af.ai ⟨[(0,_),(1,_),(6,_),(7,I 0),(8,I (x0.length:Int))],[]⟩ rfl ?_
 obtain ⟨v1,h2,h⟩:=aP h
 refine ab.dQ (v:=v1) (fun (i_1:Int)=>⟨[(0,.b (.one (.sl 1 (x0.map eI)))),(1,I target0),(6,I (x0.length:Int)),(7,I i_1)],[]⟩) (fun z=>z) ?_ ?_
 ·refine ab.block (ab.c9 h2 (dX fun (i_2:Int) (j_3:Int)=>⟨[(0,.b (.one (.sl 1 (x0.map eI)))),(1,I target0),(6,I (x0.length:Int)),(7,I i_2),(8,I j_3)],[]⟩) [0,1,6,7,8] [] rfl ?_)
  rintro ⟨i_2,j_3⟩ o3 h4 hy5
  refine ab.seq (ab.seq (ab.aa ?_))
  refine Oc om (Oc om (Oc (bo rfl rfl) ?_))
  refine af.ai ⟨[(0,_),(1,_),(6,_),(7,_),(8,_),(15,B (decide (i_2 < j_3)))],[]⟩ rfl (ab.ite h4 rfl (fun _ h4=>?_) (fun _ h4=>?_))
  ·refine ab.skip (Fin.ag ⟨[(0,_),(1,_),(6,_),(7,_),(8,_)],[]⟩ rfl (Fin.then (ab.block (ab.seq (ab.aa ?_)))))
   refine Oc om (Oc om (Oc (bu rfl rfl) ?_))
   refine af.pY .u64 h4 rfl (eF pV pt rfl) (fun x_5 h4=>?_)
   refine Oc (ja (m:=1) (by decide) rfl rfl rfl) (Oc (eF pt pV rfl) (Oc oa ?_))
   refine af.ai ⟨[(0,_),(1,_),(6,_),(7,_),(8,_),(9,I (IntKind.i64.wrap (x_5 / 2)))],[]⟩ rfl (ab.seq (ab.aa ?_))
   refine Oc om (Oc om ?_)
   obtain ⟨x_6,e6,h4⟩:=aP h4
   refine Oc (aY bK (a8 e6) (bQ (e:=eI) e6) rfl rfl) (Oc (ar aN rfl rfl) (Oc om ?_))
   obtain ⟨x_7,e7,h4⟩:=aP h4
   refine Oc (aj (oG e7) goes98 rfl rfl) (af.ai ⟨[(0,_),(1,_),(6,_),(7,_),(8,_),(9,_),(27,B x_7)],[]⟩ rfl (ab.ite h4 rfl (fun _ h4=>?_) (fun _ h4=>?_)))
   ·refine ab.aa (Oc om (af.pY .i64 h4 rfl (bu rfl rfl) (fun x_8 h4=>?_)))
    refine Oc oa (af.nil (Fin.av ?_))
    exact Fin.cr [0,1,6,7,8] [] (x_8,j_3) (Option.some.inj h4) rfl
   ·refine ab.aa (Oc om (Oc oa ?_))
    refine af.nil (Fin.av ?_)
    exact Fin.cr [0,1,6,7,8] [] (i_2,IntKind.i64.wrap (x_5 / 2)) (Option.some.inj h4) rfl
  ·refine ab.exit (Fin.aD ?_)
   obtain rfl:=hy5 _ (Option.some.inj h4).symm
   refine Fin.aD (Fin.aV ?_)
   exact Fin.join [0,1,6,7] [] i_2 rfl rfl
 ·rintro i_1 hv
  subst v1
  refine ab.seq (ab.aa ?_)
  refine Oc om (Oc om (Oc om (Oc (bo rfl rfl) (Oc om ?_))))
  refine ew (decide (i_1 < (x0.length:Int))) [] (fun g8=>trivial) (fun g8=>om) (ew (decide (i_1 < (x0.length:Int))) [] (fun g9=>by exact trivial) (fun g9=>om) (af.ag ⟨[(0,_),(1,_),(7,_),(31,I i_1),(35,B (decide (i_1 < (x0.length:Int)))),(36,.opt (decide (i_1 < (x0.length:Int))) (.one (.sl 1 (x0.map eI)))),(37,.opt (decide (i_1 < (x0.length:Int))) (.one (.i i_1)))],[]⟩ rfl ?_))
  obtain ⟨x_9,e11,h⟩:=aP h
  refine ew (decide (i_1 < (x0.length:Int))) [36,37] (fun g10=>⟨g10,g10,trivial⟩) (fun g10=>aY bK (a8 (gc e11 g10)) (bQ (e:=eI) (gc e11 g10)) rfl rfl) (ew (decide (i_1 < (x0.length:Int))) [38] (fun g12=>⟨g12,trivial⟩) (fun g12=>ar aN rfl rfl) (ew (decide (i_1 < (x0.length:Int))) [] (fun g13=>trivial) (fun g13=>om) (ew (decide (i_1 < (x0.length:Int))) [39,40] (fun g14=>by exact ⟨g14,g14,trivial⟩) (fun g14=>cR rfl rfl) (ew (decide (i_1 < (x0.length:Int))) [41] (fun g15=>by exact ⟨g15,trivial⟩) (fun g15=>om) (af.jO ((decide (i_1 < (x0.length:Int))) && !(decide (x_9 = target0))) 99 [] (.under rfl) (nB _ _) rfl rfl (fun g16=>by exact trivial) (fun g16=>om) ?_)))))
  refine af.jO ((decide (i_1 < (x0.length:Int))) && !(decide (x_9 = target0))) 99 [] (.under rfl) (nB _ _) rfl rfl (fun g17=>trivial) (fun g17=>om) ?_
  obtain ⟨x_10,e19,h⟩:=aP h
  refine af.jO ((decide (i_1 < (x0.length:Int))) && !(decide (x_9 = target0))) 99 [43,44] (.under rfl) (nB _ _) rfl rfl (fun g18=>⟨g18,g18,trivial⟩) (fun g18=>aY bK (a8 (gc e19 g18)) (bQ (e:=eI) (gc e19 g18)) rfl rfl) (af.ag ⟨[(1,_),(31,_),(35,_),(42,.opt (decide (i_1 < (x0.length:Int))) (.one (.bool (decide (x_9 = target0))))),(45,.opt ((decide (i_1 < (x0.length:Int))) && !(decide (x_9 = target0))) (.aL [.i x_10]))],[]⟩ rfl (af.jO ((decide (i_1 < (x0.length:Int))) && !(decide (x_9 = target0))) 99 [45] (.under rfl) (nB _ _) rfl rfl (fun g20=>⟨g20,trivial⟩) (fun g20=>ar aN rfl rfl) ?_))
  obtain ⟨x_11,e22,h⟩:=aP h
  refine af.jO ((decide (i_1 < (x0.length:Int))) && !(decide (x_9 = target0))) 99 [46] (.under rfl) (nB _ _) rfl rfl (fun g21=>⟨g21,trivial⟩) (fun g21=>aj (iq (gc e22 g21)) tM rfl rfl) (af.jO ((decide (i_1 < (x0.length:Int))) && !(decide (x_9 = target0))) 99 [47] (.under rfl) (nB _ _) rfl rfl (fun g23=>⟨g23,trivial⟩) (fun g23=>om) (af.jO (((decide (i_1 < (x0.length:Int))) && !(decide (x_9 = target0))) && x_11) 99 [] (.under rfl) (and_t _ _) rfl rfl (fun g24=>trivial) (fun g24=>om) (af.ag ⟨[(31,_),(35,_),(42,_),(48,.opt ((decide (i_1 < (x0.length:Int))) && !(decide (x_9 = target0))) (.one (.bool x_11))),(49,.opt (((decide (i_1 < (x0.length:Int))) && !(decide (x_9 = target0))) && x_11) (.one (.i target0)))],[]⟩ rfl ?_)))
  obtain ⟨x_12,e26,h⟩:=aP h
  refine af.jO (((decide (i_1 < (x0.length:Int))) && !(decide (x_9 = target0))) && x_11) 99 [49] (.under rfl) (and_t _ _) rfl rfl (fun g25=>⟨g25,trivial⟩) (fun g25=>aj (iq (gc e26 g25)) tM rfl rfl) (af.jO ((decide (i_1 < (x0.length:Int))) && !(decide (x_9 = target0))) 99 [48] (.under rfl) (nB _ _) rfl rfl (fun g27=>⟨g27,trivial⟩) (fun g27=>aI (fun e=>by rw [g27,e]; rfl) rfl rfl rfl rfl) (ew (decide (i_1 < (x0.length:Int))) [42] (fun g28=>⟨g28,trivial⟩) (fun g28=>cU (fun e=>by rw [g28,e]; rfl) rfl rfl rfl rfl) (af.mO h rfl (aI (fun e=>e) rfl rfl rfl rfl) (fun x_13 h=>?_))))
  refine Oc oa (Oc oa ?_)
  refine af.ai ⟨[(4,I i_1),(5,B x_13)],[]⟩ rfl (ab.ret ?_)
  obtain rfl:=Option.some.inj h
  refine Fin.ag ⟨[(4,_),(5,_)],[]⟩ rfl (Fin.aw [.one (.i i_1),.one (.bool x_13)] (.inl rfl) rfl (.cons (.tmp rfl) (.cons (.tmp rfl) .nil)) ⟨rfl,rfl⟩)
def dP (F:Nat) (a0:List Int) (b0:List Int):Option (List Int) :=
 Option.bind (iter F (dX fun out_2 x_3=>if (decide (x_3 < (a0.length:Int))) = true then (Option.bind ((bd a0 x_3).bind fun x_6=>Option.bind (cw F b0 x_6) (dX fun x_7 x_8=>if (!x_8) = true then ((kZ out_2 [x_6]).bind fun x_9=>some x_9) else (some out_2))) (fun out_5=>some (.inl (out_5,IntKind.i64.wrap (x_3 + 1))))) else (some (.inr out_2))) ([],0)) (fun out_1=>some out_1)
theorem iO (kr0:Nat) {F:Nat} {a0:List Int} {b0:List Int} {r:(List Int)} (h:dP F a0 b0 = some r):an Tryz.prog [] 56 [] [.one (.sl 1 (a0.map eI)),.one (.sl 1 (b0.map eI))] (Is [(kr0,.row 3 1 (r.map eI))] (.b (.row kr0))):=by
 unfold dP at h
 refine an.intro 30 Tryz.func56 Tryz.ntmps56 rfl (by simp) fun E=>?_
 show ab _ E ⟨30,[],[],[]⟩ _ ⟨[(0,.b (.one (.sl 1 (a0.map eI)))),(1,.b (.one (.sl 1 (b0.map eI))))],[]⟩ _
 refine ab.seq (ab.aa ?_)
 refine Oc oa (af.ai ⟨[(0,.b (.one (.sl 1 (a0.map eI)))),(1,.b (.one (.sl 1 (b0.map eI))))],[]⟩ rfl (ab.seq (ab.aa ?_)))
 refine Oc oa (af.ai ⟨[(0,_),(1,_),(5,.b (.one (.nil)))],[]⟩ rfl ?_)
 obtain ⟨v1,h2,h⟩:=aP h
 refine ab.dQ (v:=v1) (fun (out_1:List Int)=>⟨[(5,.b (.row 102))],[(102,.row 3 1 (out_1.map eI))]⟩) (fun z=>z) ?_ ?_
 ·refine ab.seq (ab.aa ?_)
  refine Oc om (Oc (a7 dU rfl (List.length_map _)) (Oc om ?_))
  refine af.ai ⟨[(1,_),(5,_),(10,.b (.one (.sl 1 (a0.map eI)))),(11,I (a0.length:Int)),(12,I 0)],[]⟩ rfl (ab.block (ab.fG 5 102 1 3 rfl (by decide) rfl (ab.c9 h2 (dX fun (out_2:List Int) (x_3:Int)=>⟨[(1,.b (.one (.sl 1 (b0.map eI)))),(5,.b (.row 102)),(10,.b (.one (.sl 1 (a0.map eI)))),(11,I (a0.length:Int)),(12,I x_3)],[(102,.row 3 1 (out_2.map eI))]⟩) [1,5,10,11,12] [102] rfl ?_)))
  rintro ⟨out_2,x_3⟩ o3 h4 hy5
  refine ab.seq (ab.aa ?_)
  refine Oc (bo rfl rfl) (af.ai ⟨[(1,_),(5,_),(10,_),(11,_),(12,_),(13,B (decide (x_3 < (a0.length:Int))))],[(102,_)]⟩ rfl (ab.seq (ab.ite h4 rfl (fun _ h4=>?_) (fun _ h4=>?_))))
  ·refine ab.skip (Fin.ag ⟨[(1,_),(5,_),(10,_),(11,_),(12,_)],[(102,_)]⟩ rfl (Fin.then ?_))
   obtain ⟨v6,h7,h4⟩:=aP h4
   refine ab.dQ (v:=v6) (fun (out_5:List Int)=>⟨[(1,.b (.one (.sl 1 (b0.map eI)))),(5,.b (.row 102)),(10,.b (.one (.sl 1 (a0.map eI)))),(11,I (a0.length:Int)),(12,I x_3)],[(102,.row 3 1 (out_5.map eI))]⟩) (fun z=>z) ?_ ?_
   ·refine ab.block (ab.seq (ab.aa ?_))
    obtain ⟨x_6,e8,h7⟩:=aP h7
    refine Oc (aY bK (a8 e8) (bQ (e:=eI) e8) rfl rfl) (Oc (ar aN rfl rfl) (Oc oa ?_))
    refine af.ai ⟨[(1,_),(5,_),(7,I x_6),(10,_),(11,_),(12,_)],[(102,_)]⟩ rfl (ab.seq (ab.aa ?_))
    refine Oc om (Oc om ?_)
    obtain ⟨⟨x_7,x_8⟩,e9,h7⟩:=aP h7
    refine Oc (aj (iE e9) goes76 rfl rfl) (Oc om (Oc (ak rfl rfl) ?_))
    refine af.ag ⟨[(1,_),(5,_),(7,_),(10,_),(11,_),(12,_),(16,.dY [.one (.i x_7),.one (.bool x_8)]),(20,I x_7)],[(102,_)]⟩ rfl (Oc (ak rfl rfl) (Oc oa (Oc oa ?_)))
    refine af.ai ⟨[(1,_),(5,_),(7,_),(9,B x_8),(10,_),(11,_),(12,_)],[(102,_)]⟩ rfl (ab.seq (ab.aa ?_))
    refine Oc om (Oc (ee rfl) ?_)
    refine af.ai ⟨[(1,_),(5,_),(7,_),(10,_),(11,_),(12,_),(23,B (!x_8))],[(102,_)]⟩ rfl (ab.ite h7 rfl (fun _ h7=>?_) (fun _ h7=>?_))
    ·refine ab.aa (Oc om (Oc om (Oc (cD (k:=103) (es:=[x_6].map eI) bK rfl rfl (cG fun _=>rfl) rfl (by decide) (by decide) rfl) ?_)))
     obtain ⟨x_9,e10,h7⟩:=aP h7
     refine Oc (gg bK (p6 e10) (p5 e10) rfl rfl rfl rfl (lN e10) rfl) (Oc oa ?_)
     refine af.nil (Fin.av ?_)
     exact Fin.join [1,5,10,11,12] [102] x_9 (Option.some.inj h7) rfl
    ·refine ab.skip (Fin.av ?_)
     exact Fin.join [1,5,10,11,12] [102] out_2 (Option.some.inj h7) rfl
   ·rintro out_5 hv
    subst v6
    refine ab.aa (Oc (bu rfl rfl) (Oc om ?_))
    refine af.nil ?_
    exact Fin.cr [1,5,10,11,12] [102] (out_5,IntKind.i64.wrap (x_3 + 1)) (Option.some.inj h4) rfl
  ·refine ab.exit (Fin.aD ?_)
   obtain rfl:=hy5 _ (Option.some.inj h4).symm
   refine Fin.aD (Fin.aV ?_)
   exact Fin.join [5] [102] out_2 rfl rfl
 ·rintro out_1 hv
  subst v1
  refine ab.seq (ab.aa ?_)
  refine Oc om (Oc oa ?_)
  refine af.ai ⟨[(4,.b (.row 102))],[(102,_)]⟩ rfl (ab.ret ?_)
  obtain rfl:=Option.some.inj h
  refine Fin.ag ⟨[(4,_)],[(102,_)]⟩ rfl (Fin.lI 102 kr0 [.row 102] (.inl rfl) rfl (.cons (.tmp rfl) .nil) rfl rfl rfl rfl ⟨rfl,rfl⟩)
def bO (F:Nat) (s0:cp) (id0:Int) (b0:cn):Option (cp × (List Int) × (List Int) × Int) :=
 (cf F b0).bind fun x_1=>if (!x_1) = true then (ez (⟨(⟨.leaf,0,0,0⟩:iG),(⟨.leaf,0,0,0⟩:iG)⟩:cp) fun x_2=>some (x_2,[],[],1)) else (Option.bind (cq F s0 id0) (dX fun x_3 x_4=>if (!x_4) = true then (ez (⟨(⟨.leaf,0,0,0⟩:iG),(⟨.leaf,0,0,0⟩:iG)⟩:cp) fun x_5=>some (x_5,[],[],5)) else (Option.bind (bG F s0 id0) (dX fun x_6 x_7=>(bN F x_6 x_3.b).bind fun x_8=>(bN F x_6 b0).bind fun x_9=>Option.bind (bI F x_6 id0 b0) (dX fun x_10 x_11=>(dP F x_9 x_8).bind fun x_12=>(dP F x_8 x_9).bind fun x_13=>some (x_10,x_12,x_13,x_11))))))
theorem eJ {F:Nat} {s0:cp} {id0:Int} {b0:cn} {r:cp × (List Int) × (List Int) × Int} (h:bO F s0 id0 b0 = some r):an Tryz.prog [] 25 [] [.agg (aA s0),.one (.i id0),.agg (ao b0)] (Is [] (.dY [.agg (aA r.1),.one (.sl 1 (r.2.1.map eI)),.one (.sl 1 (r.2.2.1.map eI)),.one (.i r.2.2.2)])):=by
 unfold bO at h
 refine an.intro 57 Tryz.func25 Tryz.ntmps25 rfl (by simp) fun E=>?_
 show ab _ E ⟨57,[],[],[]⟩ _ ⟨[(0,.b (.agg (aA s0))),(1,I id0),(2,.b (.agg (ao b0)))],[]⟩ _
 refine ab.seq (ab.aa ?_)
 refine Oc (bD (k:=101) rfl rfl) (Oc (bD (k:=102) rfl rfl) (Oc (aW (k:=103) dn rfl) (Oc oa (Oc oa (Oc oa ?_)))))
 refine af.ai ⟨[(1,I id0),(3,Pt 101 0),(5,Pt 102 0),(6,Pt 103 0)],[(101,.box 49 (aA s0)),(102,.box 25 (ao b0)),(103,.box 49 [.tr ae (.leaf),.cF 0,.cF 0,.cF 0,.tr ae (.leaf),.cF 0,.cF 0,.cF 0])]⟩ rfl (ab.seq (ab.seq (ab.aa ?_)))
 refine Oc (lp aE) ?_
 obtain ⟨x_1,e1,h⟩:=aP h
 refine Oc (aj (cQ e1) me rfl rfl) (Oc (ee rfl) ?_)
 refine af.ai ⟨[(1,_),(3,_),(5,_),(6,_),(18,B (!x_1))],[(101,_),(102,_),(103,_)]⟩ rfl (ab.ite h rfl (fun _ h=>?_) (fun _ h=>?_))
 ·refine ab.seq (ab.aa ?_)
  refine af.lG aA h rfl (cE fe rfl rfl) (fun x_2 h=>?_)
  refine Oc (az aH rfl rfl rfl rfl (Nat.le_of_ble_eq_true rfl) rfl) (Oc oa (Oc oa (Oc oa ?_)))
  refine af.ai ⟨[(6,_),(7,.b (.one (.nil))),(8,.b (.one (.nil))),(9,I 1)],[(103,.box 49 (aA x_2))]⟩ rfl (ab.ret (Fin.au ?_))
  obtain rfl:=Option.some.inj h
  refine Fin.ag ⟨[(6,_),(7,_),(8,_),(9,_)],[(103,_)]⟩ rfl (Fin.fV 7 1 rfl (by decide) (Fin.fV 8 1 rfl (by decide) (Fin.aw [.agg (aA x_2),.one (.sl 1 ([].map eI)),.one (.sl 1 ([].map eI)),.one (.i 1)] (.inl rfl) rfl (.cons (.agg aH rfl rfl rfl rfl) (.cons (.tmp rfl) (.cons (.tmp rfl) (.cons (.tmp rfl) .nil)))) ⟨rfl,rfl⟩)))
 ·refine ab.skip (Fin.ag ⟨[(1,_),(3,_),(5,_),(6,_)],[(101,_),(102,_),(103,_)]⟩ rfl (Fin.then (ab.seq (ab.aa ?_))))
  refine Oc (lp aH) (Oc om ?_)
  obtain ⟨⟨x_3,x_4⟩,e2,h⟩:=aP h
  refine Oc (aj (fc e2) rk rfl rfl) (Oc om (Oc (ak rfl rfl) ?_))
  refine af.ag ⟨[(1,_),(3,_),(5,_),(6,_),(20,.dY [.agg (aq x_3),.one (.bool x_4)]),(24,.b (.agg (aq x_3)))],[(101,_),(102,_),(103,_)]⟩ rfl (Oc (ak rfl rfl) (Oc (aW (k:=104) gP rfl) (Oc (az bq rfl rfl rfl rfl (Nat.le_of_ble_eq_true rfl) rfl) (Oc oa ?_))))
  refine af.ai ⟨[(1,_),(3,_),(5,_),(6,_),(10,Pt 104 0),(11,B x_4)],[(101,_),(102,_),(103,_),(104,.box 87 (aq x_3))]⟩ rfl (ab.seq (ab.seq (ab.aa ?_)))
  refine Oc om (Oc (ee rfl) ?_)
  refine af.ai ⟨[(1,_),(3,_),(5,_),(6,_),(10,_),(27,B (!x_4))],[(101,_),(102,_),(103,_),(104,_)]⟩ rfl (ab.ite h rfl (fun _ h=>?_) (fun _ h=>?_))
  ·refine ab.seq (ab.aa ?_)
   refine af.lG aA h rfl (cE fe rfl rfl) (fun x_5 h=>?_)
   refine Oc (az aH rfl rfl rfl rfl (Nat.le_of_ble_eq_true rfl) rfl) (Oc oa (Oc oa (Oc oa ?_)))
   refine af.ai ⟨[(6,_),(7,.b (.one (.nil))),(8,.b (.one (.nil))),(9,I 5)],[(103,.box 49 (aA x_5))]⟩ rfl (ab.ret (Fin.au ?_))
   obtain rfl:=Option.some.inj h
   refine Fin.ag ⟨[(6,_),(7,_),(8,_),(9,_)],[(103,_)]⟩ rfl (Fin.fV 7 1 rfl (by decide) (Fin.fV 8 1 rfl (by decide) (Fin.aw [.agg (aA x_5),.one (.sl 1 ([].map eI)),.one (.sl 1 ([].map eI)),.one (.i 5)] (.inl rfl) rfl (.cons (.agg aH rfl rfl rfl rfl) (.cons (.tmp rfl) (.cons (.tmp rfl) (.cons (.tmp rfl) .nil)))) ⟨rfl,rfl⟩)))
  ·refine ab.skip (Fin.ag ⟨[(1,_),(3,_),(5,_),(6,_),(10,_)],[(101,_),(102,_),(103,_),(104,_)]⟩ rfl (Fin.then (ab.seq (ab.aa ?_))))
   refine Oc (lp aH) (Oc om ?_)
   obtain ⟨⟨x_6,x_7⟩,e3,h⟩:=aP h
   refine Oc (aj (dT e3) rm rfl rfl) (Oc om (Oc (ak rfl rfl) ?_))
   refine af.ag ⟨[(1,_),(5,_),(6,_),(10,_),(29,.dY [.agg (aA x_6),.one (.i x_7)]),(33,.b (.agg (aA x_6)))],[(102,_),(103,_),(104,_)]⟩ rfl (Oc (ak rfl rfl) (Oc (aW (k:=105) dn rfl) (Oc (az aH rfl rfl rfl rfl (Nat.le_of_ble_eq_true rfl) rfl) (Oc oa ?_))))
   refine af.ai ⟨[(1,_),(5,_),(6,_),(10,_),(12,Pt 105 0)],[(102,_),(103,_),(104,_),(105,.box 49 (aA x_6))]⟩ rfl (ab.seq ?_)
   obtain ⟨x_8,e4,h⟩:=aP h
   obtain ⟨x_9,e5,h⟩:=aP h
   refine ab.kn mixed [false,false,false,true,false,false,true,false,false] [.b (.agg (aA x_6)),Pt 104 1,.b (.agg (ao x_3.b)),.b (.row 106),.b (.agg (aA x_6)),.b (.agg (ao b0)),.b (.row 107),.b (.row 106),.b (.row 107)] [⟨[false,false,false,false,false,false,false,false,false],[(1,I id0),(5,Pt 102 0),(6,Pt 103 0),(10,Pt 104 0),(12,Pt 105 0)],[(102,.box 25 (ao b0)),(103,.box 49 [.tr ae (.leaf),.cF 0,.cF 0,.cF 0,.tr ae (.leaf),.cF 0,.cF 0,.cF 0]),(104,.box 87 (aq x_3)),(105,.box 49 (aA x_6))],[true,true,true,true,true,true,true,true,true],[],[6,7,8]⟩,⟨[false,false,false,true,false,false,false,false,false],[(1,I id0),(5,Pt 102 0),(6,Pt 103 0),(10,Pt 104 0),(12,Pt 105 0)],[(102,.box 25 (ao b0)),(103,.box 49 [.tr ae (.leaf),.cF 0,.cF 0,.cF 0,.tr ae (.leaf),.cF 0,.cF 0,.cF 0]),(104,.box 87 (aq x_3)),(105,.box 49 (aA x_6)),(106,.row 3 1 (x_8.map eI))],[true,true,true,true,true,true,true,true,true],[0,1,2,3],[7,8]⟩,⟨[false,false,false,true,false,false,true,false,false],[(1,I id0),(5,Pt 102 0),(6,Pt 103 0),(10,Pt 104 0),(12,Pt 105 0)],[(102,.box 25 (ao b0)),(103,.box 49 [.tr ae (.leaf),.cF 0,.cF 0,.cF 0,.tr ae (.leaf),.cF 0,.cF 0,.cF 0]),(104,.box 87 (aq x_3)),(105,.box 49 (aA x_6)),(106,.row 3 1 (x_8.map eI)),(107,.row 3 1 (x_9.map eI))],[true,true,true,true,true,true,true,true,true],[0,1,2,3,4,5,6],[]⟩] rfl (⟨by kernel_rfl,⟨⟨.b (.agg (aA x_6)),fun _=>rfl,fun _=>.p (by exact cy aH rfl rfl rfl rfl)⟩,⟨Pt 104 1,fun _=>rfl,fun _=>.p (by exact ax gF rfl rfl)⟩,⟨.b (.agg (ao x_3.b)),fun _=>rfl,fun _=>.p (by exact cy aE rfl rfl rfl rfl)⟩,⟨_,[106],.b (.row 106),rfl,fun _=>rfl,rfl,rfl,fun _=>.qX [102,103,104,105,106] (by exact .p (by exact cX (own_a:=[]) ((dm e4).sw 51 106) pj rfl trivial rfl rfl)) (by exact rfl)⟩,⟨.b (.agg (aA x_6)),fun _=>rfl,fun _=>.p (by exact cy aH rfl rfl rfl rfl)⟩,⟨.b (.agg (ao b0)),fun _=>rfl,fun _=>.p (by exact cy aE rfl rfl rfl rfl)⟩,trivial,trivial,trivial,trivial⟩,⟨by kernel_rfl,⟨trivial,trivial,trivial,trivial,⟨.b (.agg (aA x_6)),fun _=>rfl,fun _=>.p (by exact cy aH rfl rfl rfl rfl)⟩,⟨.b (.agg (ao b0)),fun _=>rfl,fun _=>.p (by exact cy aE rfl rfl rfl rfl)⟩,⟨_,[107],.b (.row 107),rfl,fun _=>rfl,rfl,rfl,fun _=>.qX [102,103,104,105,106,107] (by exact .p (by exact cX (own_a:=[]) ((dm e5).sw 51 107) pj rfl trivial rfl rfl)) (by exact rfl)⟩,trivial,trivial,trivial⟩,⟨by kernel_rfl,⟨trivial,trivial,trivial,trivial,trivial,trivial,trivial,⟨.b (.row 106),fun _=>rfl,fun _=>.p (by exact bX rfl)⟩,⟨.b (.row 107),fun _=>rfl,fun _=>.p (by exact bX rfl)⟩,trivial⟩,trivial⟩⟩⟩) rfl rfl rfl [1,5,6,12,14,15] [102,103,105,106,107] (s':=⟨[(1,_),(5,_),(6,_),(12,_),(14,.b (.row 106)),(15,.b (.row 107))],[(102,_),(103,_),(105,_),(106,.row 3 1 (x_8.map eI)),(107,.row 3 1 (x_9.map eI))]⟩) rfl ?_
   refine ab.seq (ab.aa ?_)
   refine Oc (lp aH) (Oc om (Oc (lp aE) ?_))
   obtain ⟨⟨x_10,x_11⟩,e6,h⟩:=aP h
   refine Oc (aj (cz e6) mb rfl rfl) (Oc om ?_)
   refine af.ag ⟨[(6,_),(14,_),(15,_),(42,.dY [.agg (aA x_10),.one (.i x_11)])],[(103,_),(106,_),(107,_)]⟩ rfl (Oc (ak rfl rfl) (Oc (ak rfl rfl) (Oc (az aH rfl rfl rfl rfl (Nat.le_of_ble_eq_true rfl) rfl) (Oc oa ?_))))
   refine af.ai ⟨[(6,Pt 103 0),(9,I x_11),(14,.b (.row 106)),(15,.b (.row 107))],[(103,.box 49 (aA x_10)),(106,.row 3 1 (x_8.map eI)),(107,.row 3 1 (x_9.map eI))]⟩ rfl (ab.seq (ab.di 107 rfl (ab.di 106 rfl (ab.ag ⟨[(6,_),(9,_),(14,.b (.one (.sl 1 (x_8.map eI)))),(15,.b (.one (.sl 1 (x_9.map eI))))],[(103,_)]⟩ rfl ?_))))
   obtain ⟨x_12,e7,h⟩:=aP h
   obtain ⟨x_13,e8,h⟩:=aP h
   refine ab.kn mixed [false,false,false,false,false,false,false,false,true,false,false,true] [.b (.agg (aA x_10)),.b (.one (.sl 1 (x_9.map eI))),.b (.one (.sl 1 (x_8.map eI))),.b (.one (.sl 1 (x_12.map eI))),.b (.one (.sl 1 (x_8.map eI))),.b (.one (.sl 1 (x_9.map eI))),.b (.one (.sl 1 (x_13.map eI))),I x_11,B true,.b (.one (.sl 1 (x_12.map eI))),.b (.one (.sl 1 (x_13.map eI))),I x_11] [⟨[false,false,false,false,false,false,false,false,false,false,false,false],[(6,Pt 103 0),(9,I x_11),(14,.b (.one (.sl 1 (x_8.map eI)))),(15,.b (.one (.sl 1 (x_9.map eI))))],[(103,.box 49 (aA x_10))],[true,true,true,true,true,true,true,true,true,true,true,true],[],[9,10,11]⟩,⟨[false,false,false,false,false,false,false,false,true,false,false,false],[(6,Pt 103 0),(9,I x_11),(14,.b (.one (.sl 1 (x_8.map eI)))),(15,.b (.one (.sl 1 (x_9.map eI))))],[(103,.box 49 (aA x_10))],[true,true,true,true,true,true,true,true,true,true,true,true],[0,1,2,3,4,5,6,8],[]⟩,⟨[false,false,false,false,false,false,false,false,true,false,false,true],[(6,Pt 103 0),(14,.b (.one (.sl 1 (x_8.map eI)))),(15,.b (.one (.sl 1 (x_9.map eI))))],[(103,.box 49 (aA x_10))],[true,true,true,true,true,true,true,true,true,true,true,true],[0,1,2,3,4,5,6,7,8,9,10,11],[]⟩] rfl (⟨by kernel_rfl,⟨⟨.b (.agg (aA x_10)),fun _=>rfl,fun _=>.p (by exact cy aH rfl rfl rfl rfl)⟩,⟨.b (.one (.sl 1 (x_9.map eI))),fun _=>rfl,fun _=>.p (by exact aJ rfl)⟩,⟨.b (.one (.sl 1 (x_8.map eI))),fun _=>rfl,fun _=>.p (by exact aJ rfl)⟩,⟨.b (.one (.sl 1 (x_12.map eI))),fun _=>rfl,fun _=>.p (by exact aj (iO 0 e7).r7 tR rfl rfl)⟩,⟨.b (.one (.sl 1 (x_8.map eI))),fun _=>rfl,fun _=>.p (by exact aJ rfl)⟩,⟨.b (.one (.sl 1 (x_9.map eI))),fun _=>rfl,fun _=>.p (by exact aJ rfl)⟩,⟨.b (.one (.sl 1 (x_13.map eI))),fun _=>rfl,fun _=>.p (by exact aj (iO 0 e8).r7 tR rfl rfl)⟩,⟨I x_11,fun _=>rfl,fun _=>.p (by exact aJ rfl)⟩,⟨_,[],.b (.one .any),rfl,(fun e=>by simp at e),rfl,rfl,fun _=>.qX [103] (by exact .p (by exact az aH rfl rfl rfl rfl (Nat.le_of_ble_eq_true rfl) rfl)) (by exact rfl)⟩,trivial,trivial,trivial,trivial⟩,⟨by kernel_rfl,⟨trivial,trivial,trivial,trivial,trivial,trivial,trivial,⟨I x_11,fun _=>rfl,fun _=>.p (by exact aJ rfl)⟩,trivial,⟨.b (.one (.sl 1 (x_12.map eI))),fun _=>rfl,fun _=>.p (by exact bX rfl)⟩,⟨.b (.one (.sl 1 (x_13.map eI))),fun _=>rfl,fun _=>.p (by exact bX rfl)⟩,⟨_,[],I x_11,rfl,fun _=>rfl,rfl,rfl,fun _=>.qX [103] (by exact .p (by exact bX rfl)) (by exact rfl)⟩,trivial⟩,⟨by kernel_rfl,⟨trivial,trivial,trivial,trivial,trivial,trivial,trivial,trivial,trivial,trivial,trivial,trivial,trivial⟩,trivial⟩⟩⟩) rfl rfl rfl [6,7,8,9] [103] (s':=⟨[(6,_),(7,.b (.one (.sl 1 (x_12.map eI)))),(8,.b (.one (.sl 1 (x_13.map eI)))),(9,_)],[(103,_)]⟩) rfl ?_
   refine ab.ret ?_
   obtain rfl:=Option.some.inj h
   refine Fin.ag ⟨[(6,_),(7,_),(8,_),(9,_)],[(103,_)]⟩ rfl (Fin.aw [.agg (aA x_10),.one (.sl 1 (x_12.map eI)),.one (.sl 1 (x_13.map eI)),.one (.i x_11)] (.inl rfl) rfl (.cons (.agg aH rfl rfl rfl rfl) (.cons (.tmp rfl) (.cons (.tmp rfl) (.cons (.tmp rfl) .nil)))) ⟨rfl,rfl⟩)
def de (F:Nat) (a0:List Int) (b0:List Int):Option Bool :=
 if (decide ((a0.length:Int) ≠ (b0.length:Int))) = true then (some false) else (Option.bind (iter F (fun i_1=>if (decide (i_1 < (a0.length:Int))) = true then ((bd a0 i_1).bind fun x_2=>(bd b0 i_1).bind fun x_3=>if (decide (x_2 ≠ x_3)) = true then (some (.inr (.inr false))) else (some (.inl (IntKind.i64.wrap (i_1 + 1))))) else (some (.inr (.inl ())))) 0) (cc (fun _=>some true) (fun y=>some y)))
theorem fj {F:Nat} {a0:List Int} {b0:List Int} {r:Bool} (h:de F a0 b0 = some r):an Tryz.prog [] 32 [] [.one (.sl 1 (a0.map eI)),.one (.sl 1 (b0.map eI))] (Is [] (.b (.one (.bool r)))):=by
 unfold de at h
 refine an.intro 26 Tryz.func32 Tryz.ntmps32 rfl (by simp) fun E=>?_
 show ab _ E ⟨26,[],[],[]⟩ _ ⟨[(0,.b (.one (.sl 1 (a0.map eI)))),(1,.b (.one (.sl 1 (b0.map eI))))],[]⟩ _
 refine ab.seq (ab.aa ?_)
 refine Oc oa (af.ai ⟨[(0,.b (.one (.sl 1 (a0.map eI)))),(1,.b (.one (.sl 1 (b0.map eI))))],[]⟩ rfl (ab.seq (ab.seq (ab.aa ?_))))
 refine Oc om (Oc (a7 dU rfl (List.length_map _)) (Oc om (Oc (a7 dU rfl (List.length_map _)) (Oc (iV rfl rfl) ?_))))
 refine af.ai ⟨[(0,_),(1,_),(10,B (decide ((a0.length:Int) ≠ (b0.length:Int))))],[]⟩ rfl (ab.ite h rfl (fun _ h=>?_) (fun _ h=>?_))
 ·refine ab.seq (ab.aa ?_)
  refine Oc oa (af.ai ⟨[(4,B false)],[]⟩ rfl (ab.ret (Fin.au ?_)))
  obtain rfl:=Option.some.inj h
  refine Fin.ag ⟨[(4,_)],[]⟩ rfl (Fin.aw [.one (.bool false)] (.inl rfl) rfl (.cons (.tmp rfl) .nil) ⟨rfl,rfl⟩)
 ·refine ab.skip (Fin.ag ⟨[(0,_),(1,_)],[]⟩ rfl (Fin.then ?_))
  obtain ⟨v1,h2,h⟩:=aP h
  refine ab.dQ (v:=v1) (fun (_:Unit)=>⟨[],[]⟩) (fun z=>.inl z) ?_ ?_
  ·refine ab.seq (ab.aa ?_)
   refine Oc oa (af.ai ⟨[(0,_),(1,_),(5,I 0)],[]⟩ rfl (ab.block (ab.c9 h2 (fun (i_1:Int)=>⟨[(0,.b (.one (.sl 1 (a0.map eI)))),(1,.b (.one (.sl 1 (b0.map eI)))),(5,I i_1)],[]⟩) [0,1,5] [] rfl ?_)))
   rintro i_1 o3 h4 hy5
   refine ab.seq (ab.seq (ab.aa ?_))
   refine Oc om (Oc om (Oc (a7 dU rfl (List.length_map _)) (Oc (bo rfl rfl) ?_)))
   refine af.ai ⟨[(0,_),(1,_),(5,_),(14,B (decide (i_1 < (a0.length:Int))))],[]⟩ rfl (ab.ite h4 rfl (fun _ h4=>?_) (fun _ h4=>?_))
   ·refine ab.skip (Fin.ag ⟨[(0,_),(1,_),(5,_)],[]⟩ rfl (Fin.then (ab.seq (ab.block (ab.seq ?_)))))
    refine ab.ag ⟨[(0,_),(1,_),(5,_)],[]⟩ rfl ?_
    obtain ⟨x_2,e6,h4⟩:=aP h4
    obtain ⟨x_3,e7,h4⟩:=aP h4
    refine ab.b4 mixed 9 [.b (.one (.sl 1 (a0.map eI))),I i_1,.b (.aL [.i x_2]),I x_2,.b (.one (.sl 1 (b0.map eI))),I i_1,.b (.aL [.i x_3]),I x_3,B (decide (x_2 ≠ x_3))] [0,1,5,25] [] (s':=⟨[(0,_),(1,_),(5,_),(25,B (decide (x_2 ≠ x_3)))],[]⟩) rfl ⟨fun _=>.p om,fun _=>.p om,fun _=>.p (aY bK (a8 e6) (bQ (e:=eI) e6) rfl rfl),fun _=>.p (ar aN rfl rfl),fun _=>.p om,fun _=>.p om,fun _=>.p (aY bK (a8 e7) (bQ (e:=eI) e7) rfl rfl),fun _=>.p (ar aN rfl rfl),fun _=>.p (iV rfl rfl),trivial⟩ rfl rfl (ab.ite h4 rfl (fun _ h4=>?_) (fun _ h4=>?_))
    ·refine ab.seq (ab.aa ?_)
     refine Oc oa (af.ai ⟨[(4,B false)],[]⟩ rfl (ab.ret (Fin.aO (Fin.au ?_))))
     obtain rfl:=hy5 _ (Option.some.inj h4).symm
     refine Fin.au (Fin.aO (Fin.au ?_))
     obtain rfl:=Option.some.inj h
     refine Fin.ag ⟨[(4,_)],[]⟩ rfl (Fin.aw [.one (.bool false)] (.inl rfl) rfl (.cons (.tmp rfl) .nil) ⟨rfl,rfl⟩)
    ·refine ab.skip (Fin.av (Fin.ag ⟨[(0,_),(1,_),(5,_)],[]⟩ rfl (Fin.then (ab.aa ?_))))
     refine Oc om (Oc (bu rfl rfl) (Oc oa ?_))
     refine af.nil ?_
     exact Fin.cr [0,1,5] [] (IntKind.i64.wrap (i_1 + 1)) (Option.some.inj h4) rfl
   ·refine ab.exit (Fin.aD ?_)
    obtain rfl:=hy5 _ (Option.some.inj h4).symm
    refine Fin.aD (Fin.aV ?_)
    exact Fin.join [] [] () rfl rfl
  ·rintro _ hv
   subst v1
   refine ab.seq (ab.aa ?_)
   refine Oc oa (af.ai ⟨[(4,B true)],[]⟩ rfl (ab.ret ?_))
   obtain rfl:=Option.some.inj h
   refine Fin.ag ⟨[(4,_)],[]⟩ rfl (Fin.aw [.one (.bool true)] (.inl rfl) rfl (.cons (.tmp rfl) .nil) ⟨rfl,rfl⟩)
end Go.Proofs.YtagpkeehkcopaaaGreat

