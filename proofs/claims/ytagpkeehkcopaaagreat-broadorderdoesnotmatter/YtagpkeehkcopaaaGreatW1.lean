/- printed walks -/
import Derived.Test.YtagpkeehkcopaaaGreatT1
namespace Go.Proofs.YtagpkeehkcopaaaGreat
open Go.Sk Go
set_option maxHeartbeats 4000000
set_option maxRecDepth 4000
set_option linter.unusedSimpArgs false
set_option linter.unusedVariables false
theorem tH:Tryz.prog.underlying 88 = some (.int .u64):=Tryz.underlying88
theorem undi5:Tryz.prog.underlying 5 = some (.int .u8):=Tryz.underlying5
theorem und9:Tryz.prog.underlying 9 = some .string:=Tryz.underlying9
theorem qa:Tryz.prog.underlying 3 = some (.int .i64):=Tryz.underlying3
theorem goes95:bt Tryz.prog 95:=⟨Tryz.call95⟩
theorem goes114:bt Tryz.prog 114:=⟨Tryz.call114⟩
theorem fm:Tryz.prog.underlying 51 = some (.slice 3):=Tryz.underlying51
theorem pH:Tryz.prog.underlying 112 = some (.int .u64):=Tryz.underlying112
theorem goes69:bt Tryz.prog 69:=⟨Tryz.call69⟩
theorem goes97:bt Tryz.prog 97:=⟨Tryz.call97⟩
theorem dv:c4 Tryz.prog 87 0 0 3:=⟨⟨_,_,Tryz.t3,Tryz.underlying87,rfl,rfl,rfl,by kernel_rfl,by decide⟩⟩
theorem aT:cO Tryz.prog 3:=⟨⟨_,Tryz.underlying3,rfl⟩,⟨Tryz.t3,by kernel_rfl,by kernel_rfl⟩⟩
theorem goes48:bt Tryz.prog 48:=⟨Tryz.call48⟩
theorem fA:jT Tryz.prog 25 ((cS .i64) A3.zero ++ ((cS .i64) A3.zero)):=⟨⟨Tryz.t25,_,by kernel_rfl,rfl,rfl⟩⟩
theorem gO:c4 Tryz.prog 87 1 1 25:=⟨⟨_,_,Tryz.t25,Tryz.underlying87,rfl,rfl,rfl,by kernel_rfl,by decide⟩⟩
theorem aC:fo Tryz.prog 25 6:=⟨⟨_,Tryz.underlying25,rfl⟩,⟨Tryz.t25,by kernel_rfl,by kernel_rfl⟩⟩
theorem goes49:bt Tryz.prog 49:=⟨Tryz.call49⟩
theorem pz:bt Tryz.prog 70:=⟨Tryz.call70⟩
theorem ry:bt Tryz.prog 44:=⟨Tryz.call44⟩
theorem cp:k7 Tryz.prog 51 3 1 8 [.i 0]:=⟨Tryz.underlying51,⟨Tryz.t3,_,by kernel_rfl,rfl,rfl,rfl,rfl,by decide,rfl⟩⟩
theorem cL:c4 Tryz.prog 25 0 0 23:=⟨⟨_,_,Tryz.t23,Tryz.underlying25,rfl,rfl,rfl,by kernel_rfl,by decide⟩⟩
theorem bT:sc Tryz.prog 23 3 3 1:=⟨Tryz.underlying23,⟨Tryz.t3,by kernel_rfl,by kernel_rfl⟩⟩
theorem goes53:bt Tryz.prog 53:=⟨Tryz.call53⟩
theorem goes52:bt Tryz.prog 52:=⟨Tryz.call52⟩
theorem mixed:Tryz.prog.follows .mixedOrders = true:=by kernel_rfl
theorem goes50:bt Tryz.prog 50:=⟨Tryz.call50⟩
theorem goes51:bt Tryz.prog 51:=⟨Tryz.call51⟩
theorem cK:c4 Tryz.prog 25 1 3 23:=⟨⟨_,_,Tryz.t23,Tryz.underlying25,rfl,rfl,rfl,by kernel_rfl,by decide⟩⟩
theorem lh:bt Tryz.prog 14:=⟨Tryz.call14⟩
theorem goes41:bt Tryz.prog 41:=⟨Tryz.call41⟩
theorem la:Tryz.prog.underlying 42 = some (.pointer (Tryz.prog.pointee 42)):=(by rw [show Tryz.prog.pointee 42 = 117 from by unfold Go.Program.pointee; rw [Tryz.underlying42]]; exact Tryz.underlying42)
theorem goes123:bt Tryz.prog 123:=⟨Tryz.call123⟩
theorem ml:kD Tryz.prog 25 [(0,3),(3,3)] ((cS .i64) A3.zero ++ ((cS .i64) A3.zero)):=⟨⟨Tryz.t25,_,_,by kernel_rfl,rfl,rfl,Tryz.underlying25,by kernel_rfl⟩⟩
theorem goes13:bt Tryz.prog 13:=⟨Tryz.call13⟩
theorem oU:nW Tryz.prog 23 1 ((cS .i64) A3.zero):=⟨⟨Tryz.t23,_,_,_,Tryz.t3,by kernel_rfl,rfl,rfl,Tryz.underlying23,by kernel_rfl,by kernel_rfl⟩⟩
theorem lK:Tryz.prog.underlying 34 = some (.slice 25):=Tryz.underlying34
theorem gU:k7 Tryz.prog 34 25 6 48 ((cS .i64) A3.zero ++ ((cS .i64) A3.zero)):=⟨Tryz.underlying34,⟨Tryz.t25,_,by kernel_rfl,rfl,rfl,rfl,rfl,by decide,rfl⟩⟩
theorem goes67:bt Tryz.prog 67:=⟨Tryz.call67⟩
theorem kr:cO Tryz.prog 34:=⟨⟨_,Tryz.underlying34,rfl⟩,⟨Tryz.t34,by kernel_rfl,by kernel_rfl⟩⟩
theorem tT:bt Tryz.prog 46:=⟨Tryz.call46⟩
theorem goes71:bt Tryz.prog 71:=⟨Tryz.call71⟩
theorem goes72:bt Tryz.prog 72:=⟨Tryz.call72⟩
theorem goes40:bt Tryz.prog 40:=⟨Tryz.call40⟩
theorem goes42:bt Tryz.prog 42:=⟨Tryz.call42⟩
theorem tyZero3:jT Tryz.prog 3 [.i 0]:=⟨⟨Tryz.t3,_,by kernel_rfl,rfl,rfl⟩⟩
theorem goes45:bt Tryz.prog 45:=⟨Tryz.call45⟩
theorem mh:bt Tryz.prog 16:=⟨Tryz.call16⟩
theorem eY:nW Tryz.prog 40 1 ((dB .i64) A2.zero):=⟨⟨Tryz.t40,_,_,_,Tryz.t3,by kernel_rfl,rfl,rfl,Tryz.underlying40,by kernel_rfl,by kernel_rfl⟩⟩
theorem iy:k7 Tryz.prog 35 40 2 16 ((dB .i64) A2.zero):=⟨Tryz.underlying35,⟨Tryz.t40,_,by kernel_rfl,rfl,rfl,rfl,rfl,by decide,rfl⟩⟩
theorem goes47:bt Tryz.prog 47:=⟨Tryz.call47⟩
theorem r6:Tryz.prog.underlying 35 = some (.slice 40):=Tryz.underlying35
theorem nk:fo Tryz.prog 40 2:=⟨⟨_,Tryz.underlying40,rfl⟩,⟨Tryz.t40,by kernel_rfl,by kernel_rfl⟩⟩
theorem uL (x y:A2) {d:Nat}:cY Tryz.prog (d + 2) 40 2 ((dB .i64) x) ((dB .i64) y) (decide (x = y)) :=
 (cY.arr (l:=x.l) (l':=y.l) nk Tryz.underlying40 aT Tryz.underlying3).cast (by rw [Bool.eq_iff_iff]; simp [A2.tB])
theorem eqAgg40 (x y:A2):kT Tryz.prog 40 ((dB .i64) x) ((dB .i64) y) (decide (x = y)):=kT.tM (by kernel_rfl) nk (uL x y (d:=9998)) rfl rfl
theorem eb:jT Tryz.prog 49 [.tr ae (.leaf),.c5 0,.c5 0,.c5 0,.tr ae (.leaf),.c5 0,.c5 0,.c5 0]:=⟨⟨Tryz.t49,_,by kernel_rfl,rfl,rfl⟩⟩
theorem oT:kD Tryz.prog 47 [(0,1),(1,1),(2,1),(3,1)] [.tr ae (.leaf),.c5 0,.c5 0,.c5 0]:=⟨⟨Tryz.t47,_,_,by kernel_rfl,rfl,rfl,Tryz.underlying47,by kernel_rfl⟩⟩
theorem eX:kD Tryz.prog 49 [(0,4),(4,4)] [.tr ae (.leaf),.c5 0,.c5 0,.c5 0,.tr ae (.leaf),.c5 0,.c5 0,.c5 0]:=⟨⟨Tryz.t49,_,_,by kernel_rfl,rfl,rfl,Tryz.underlying49,by kernel_rfl⟩⟩
theorem aJ:fo Tryz.prog 49 8:=⟨⟨_,Tryz.underlying49,rfl⟩,⟨Tryz.t49,by kernel_rfl,by kernel_rfl⟩⟩
theorem ga:jT Tryz.prog 87 (.i 0 :: ((cS .i64) A3.zero ++ ((cS .i64) A3.zero))):=⟨⟨Tryz.t87,_,by kernel_rfl,rfl,rfl⟩⟩
theorem iQ:c4 Tryz.prog 49 0 0 47:=⟨⟨_,_,Tryz.t47,Tryz.underlying49,rfl,rfl,rfl,by kernel_rfl,by decide⟩⟩
theorem eW:c4 Tryz.prog 47 0 0 42:=⟨⟨_,_,Tryz.t42,Tryz.underlying47,rfl,rfl,rfl,by kernel_rfl,by decide⟩⟩
theorem bw:cO Tryz.prog 42:=⟨⟨_,Tryz.underlying42,rfl⟩,⟨Tryz.t42,by kernel_rfl,by kernel_rfl⟩⟩
theorem ed:c4 Tryz.prog 117 0 0 87:=⟨⟨_,_,Tryz.t87,Tryz.underlying117,rfl,rfl,rfl,by kernel_rfl,by decide⟩⟩
theorem bz:fo Tryz.prog 87 7:=⟨⟨_,Tryz.underlying87,rfl⟩,⟨Tryz.t87,by kernel_rfl,by kernel_rfl⟩⟩
theorem dH:c4 Tryz.prog 117 3 14 42:=⟨⟨_,_,Tryz.t42,Tryz.underlying117,rfl,rfl,rfl,by kernel_rfl,by decide⟩⟩
theorem dG:c4 Tryz.prog 117 4 15 42:=⟨⟨_,_,Tryz.t42,Tryz.underlying117,rfl,rfl,rfl,by kernel_rfl,by decide⟩⟩
theorem oS:kD Tryz.prog 87 [(0,1),(1,6)] (.i 0 :: ((cS .i64) A3.zero ++ ((cS .i64) A3.zero))):=⟨⟨Tryz.t87,_,_,by kernel_rfl,rfl,rfl,Tryz.underlying87,by kernel_rfl⟩⟩
theorem q8:Tryz.prog.underlying 144 = some (.slice 42):=Tryz.underlying144
theorem je:k7 Tryz.prog 144 42 1 8 [.tr ae (.leaf)]:=⟨Tryz.underlying144,⟨Tryz.t42,_,by kernel_rfl,rfl,rfl,rfl,rfl,by decide,rfl⟩⟩
theorem goes131:bt Tryz.prog 131:=⟨Tryz.call131⟩
theorem goes122:bt Tryz.prog 122:=⟨Tryz.call122⟩
theorem lq:c4 Tryz.prog 117 1 7 88:=⟨⟨_,_,Tryz.t88,Tryz.underlying117,rfl,rfl,rfl,by kernel_rfl,by decide⟩⟩
theorem pI:cO Tryz.prog 88:=⟨⟨_,Tryz.underlying88,rfl⟩,⟨Tryz.t88,by kernel_rfl,by kernel_rfl⟩⟩
theorem sP:c4 Tryz.prog 47 3 3 45:=⟨⟨_,_,Tryz.t45,Tryz.underlying47,rfl,rfl,rfl,by kernel_rfl,by decide⟩⟩
theorem tyOne45:cO Tryz.prog 45:=⟨⟨_,Tryz.underlying45,rfl⟩,⟨Tryz.t45,by kernel_rfl,by kernel_rfl⟩⟩
theorem nY:kD Tryz.prog 117 [(0,7),(7,1),(8,6),(14,1),(15,1)] (.i 0 :: ((cS .i64) A3.zero ++ ((cS .i64) A3.zero ++ (.int .u64 0 :: ((cS .i64) A3.zero ++ ((cS .i64) A3.zero ++ ([.tr ae (.leaf),.tr ae (.leaf)]))))))):=⟨⟨Tryz.t117,_,_,by kernel_rfl,rfl,rfl,Tryz.underlying117,by kernel_rfl⟩⟩
theorem goes100:bt Tryz.prog 100:=⟨Tryz.call100⟩
theorem jj:c4 Tryz.prog 117 2 8 25:=⟨⟨_,_,Tryz.t25,Tryz.underlying117,rfl,rfl,rfl,by kernel_rfl,by decide⟩⟩
theorem tW:bt Tryz.prog 18:=⟨Tryz.call18⟩
theorem oR:c4 Tryz.prog 47 1 1 43:=⟨⟨_,_,Tryz.t43,Tryz.underlying47,rfl,rfl,rfl,by kernel_rfl,by decide⟩⟩
theorem sm:cO Tryz.prog 43:=⟨⟨_,Tryz.underlying43,rfl⟩,⟨Tryz.t43,by kernel_rfl,by kernel_rfl⟩⟩
theorem bE:fo Tryz.prog 47 4:=⟨⟨_,Tryz.underlying47,rfl⟩,⟨Tryz.t47,by kernel_rfl,by kernel_rfl⟩⟩
theorem rm:bt Tryz.prog 79:=⟨Tryz.call79⟩
theorem lg:bt Tryz.prog 80:=⟨Tryz.call80⟩
theorem nE:bt Tryz.prog 82:=⟨Tryz.call82⟩
theorem qg:jT Tryz.prog 47 [.tr ae (.leaf),.c5 0,.c5 0,.c5 0]:=⟨⟨Tryz.t47,_,by kernel_rfl,rfl,rfl⟩⟩
theorem sQ:c4 Tryz.prog 47 2 2 44:=⟨⟨_,_,Tryz.t44,Tryz.underlying47,rfl,rfl,rfl,by kernel_rfl,by decide⟩⟩
theorem tyOne44:cO Tryz.prog 44:=⟨⟨_,Tryz.underlying44,rfl⟩,⟨Tryz.t44,by kernel_rfl,by kernel_rfl⟩⟩
theorem goes81:bt Tryz.prog 81:=⟨Tryz.call81⟩
theorem ru:bt Tryz.prog 54:=⟨Tryz.call54⟩
theorem tR:bt Tryz.prog 59:=⟨Tryz.call59⟩
theorem mj:c4 Tryz.prog 49 1 4 47:=⟨⟨_,_,Tryz.t47,Tryz.underlying49,rfl,rfl,rfl,by kernel_rfl,by decide⟩⟩
theorem qf:jT Tryz.prog 51 [.nil]:=⟨⟨Tryz.t51,_,by kernel_rfl,rfl,rfl⟩⟩
theorem rq:bt Tryz.prog 57:=⟨Tryz.call57⟩
theorem jf:cO Tryz.prog 51:=⟨⟨_,Tryz.underlying51,rfl⟩,⟨Tryz.t51,by kernel_rfl,by kernel_rfl⟩⟩
theorem rn:bt Tryz.prog 77:=⟨Tryz.call77⟩
theorem goes75:bt Tryz.prog 75:=⟨Tryz.call75⟩
theorem pA:bt Tryz.prog 55:=⟨Tryz.call55⟩
theorem rl:bt Tryz.prog 83:=⟨Tryz.call83⟩
theorem tQ:bt Tryz.prog 60:=⟨Tryz.call60⟩
theorem goes98:bt Tryz.prog 98:=⟨Tryz.call98⟩
theorem tP:bt Tryz.prog 99:=⟨Tryz.call99⟩
theorem goes76:bt Tryz.prog 76:=⟨Tryz.call76⟩
theorem rz:bt Tryz.prog 30:=⟨Tryz.call30⟩
theorem jS:bt Tryz.prog 29:=⟨Tryz.call29⟩
theorem tS:bt Tryz.prog 56:=⟨Tryz.call56⟩
theorem uk:jT Tryz.prog 35 [.nil]:=⟨⟨Tryz.t35,_,by kernel_rfl,rfl,rfl⟩⟩
theorem pJ:cO Tryz.prog 35:=⟨⟨_,Tryz.underlying35,rfl⟩,⟨Tryz.t35,by kernel_rfl,by kernel_rfl⟩⟩
theorem nF:bt Tryz.prog 39:=⟨Tryz.call39⟩
theorem tyAgg23:fo Tryz.prog 23 3:=⟨⟨_,Tryz.underlying23,rfl⟩,⟨Tryz.t23,by kernel_rfl,by kernel_rfl⟩⟩
theorem qD (x y:A3) {d:Nat}:cY Tryz.prog (d + 2) 23 3 ((cS .i64) x) ((cS .i64) y) (decide (x = y)) :=
 (cY.arr (l:=x.l) (l':=y.l) tyAgg23 Tryz.underlying23 aT Tryz.underlying3).cast (by rw [Bool.eq_iff_iff]; simp [A3.tB])
theorem uM (x y:bC) {d:Nat}:cY Tryz.prog (d + 3) 25 6 (aj x) (aj y) (decide (x = y)) :=
 (cY.struct (d:=d + 2) (rs:=[decide (x.Lo = y.Lo),decide (x.Hi = y.Hi)]) aC Tryz.stoodInHeld25 Tryz.underlying25 (⟨by decide,⟨_,((cS .i64) x.Lo),((cS .i64) y.Lo),rfl,rfl,rfl,rfl,qD _ _⟩,⟨by decide,⟨_,((cS .i64) x.Hi),((cS .i64) y.Hi),rfl,rfl,rfl,rfl,qD _ _⟩,trivial⟩⟩) rfl).cast
  (by cases x; cases y; rw [Bool.eq_iff_iff]; simp [bC.mk.injEq])
theorem sD (x y:bC):kT Tryz.prog 25 (aj x) (aj y) (decide (x = y)):=kT.tM (by kernel_rfl) aC (uM x y (d:=9997)) rfl rfl
theorem tY:bt Tryz.prog 11:=⟨Tryz.call11⟩
theorem rA:bt Tryz.prog 20:=⟨Tryz.call20⟩
theorem nG:bt Tryz.prog 22:=⟨Tryz.call22⟩
theorem pE:bt Tryz.prog 23:=⟨Tryz.call23⟩
theorem pC:bt Tryz.prog 31:=⟨Tryz.call31⟩
theorem goes25:bt Tryz.prog 25:=⟨Tryz.call25⟩
theorem pB:bt Tryz.prog 32:=⟨Tryz.call32⟩
theorem pD:bt Tryz.prog 26:=⟨Tryz.call26⟩
theorem tX:bt Tryz.prog 15:=⟨Tryz.call15⟩
theorem tV:bt Tryz.prog 28:=⟨Tryz.call28⟩
theorem tU:bt Tryz.prog 33:=⟨Tryz.call33⟩
def jt (F:Nat) (x0:Int):Option Int :=
 Option.bind (if (decide (4294967296 ≤ x0)) = true then (some (x0 / 4294967296,32)) else (some (x0,0))) (dn fun x_1 n_2=>Option.bind (if (decide (65536 ≤ x_1)) = true then (some (x_1 / 65536,IntKind.i64.wrap (n_2 + 16))) else (some (x_1,n_2))) (dn fun x_3 n_4=>Option.bind (if (decide (256 ≤ x_3)) = true then (some (x_3 / 256,IntKind.i64.wrap (n_4 + 8))) else (some (x_3,n_4))) (dn fun x_5 n_6=>(bg ([0,1,2,2,3,3,3,3,4,4,4,4,4,4,4,4,5,5,5,5,5,5,5,5,5,5,5,5,5,5,5,5,6,6,6,6,6,6,6,6,6,6,6,6,6,6,6,6,6,6,6,6,6,6,6,6,6,6,6,6,6,6,6,6,7,7,7,7,7,7,7,7,7,7,7,7,7,7,7,7,7,7,7,7,7,7,7,7,7,7,7,7,7,7,7,7,7,7,7,7,7,7,7,7,7,7,7,7,7,7,7,7,7,7,7,7,7,7,7,7,7,7,7,7,7,7,7,7,8,8,8,8,8,8,8,8,8,8,8,8,8,8,8,8,8,8,8,8,8,8,8,8,8,8,8,8,8,8,8,8,8,8,8,8,8,8,8,8,8,8,8,8,8,8,8,8,8,8,8,8,8,8,8,8,8,8,8,8,8,8,8,8,8,8,8,8,8,8,8,8,8,8,8,8,8,8,8,8,8,8,8,8,8,8,8,8,8,8,8,8,8,8,8,8,8,8,8,8,8,8,8,8,8,8,8,8,8,8,8,8,8,8,8,8,8,8,8,8,8,8,8,8,8,8,8,8]:Str) (IntKind.u8.wrap x_5)).bind fun x_7=>fj (IntKind.i64.wrap (n_6 + (IntKind.i64.wrap (x_7.toNat:Int)))) fun x_8=>some x_8)))
theorem nh {F:Nat} {x0:Int} {r:Int} (h:jt F x0 = some r):au Tryz.prog [] 95 [] [.one (.int .u64 x0)] (Is [] (.b (.one (.i r)))):=by
 unfold jt at h
 refine au.intro 25 Tryz.func95 Tryz.ntmps95 rfl (by simp) fun E=>?_
 show ab _ E ⟨25,[],[],[]⟩ _ ⟨[(0,.b (.one (.int .u64 x0)))],[]⟩ _
 refine ab.seq (ab.aa ?_)
 refine Oc oa (af.ai ⟨[(0,.b (.one (.int .u64 x0))),(2,I 0)],[]⟩ rfl ?_)
 obtain ⟨v1,h2,h⟩:=aO h
 refine ab.dY (v:=v1) (dn fun (x_1:Int) (n_2:Int)=>⟨[(0,.b (.one (.int .u64 x_1))),(2,I n_2)],[]⟩) (fun z=>z) ?_ ?_
 ·refine ab.seq (ab.aa ?_)
  refine Oc om (Oc (mc rfl rfl) ?_)
  refine af.ai ⟨[(0,_),(2,_),(4,B (decide (4294967296 ≤ x0)))],[]⟩ rfl (ab.ite h2 rfl (fun _ h2=>?_) (fun _ h2=>?_))
  ·refine ab.seq (ab.aa ?_)
   refine Oc om (Oc (jg (m:=32) (by decide) rfl rfl rfl) (Oc oa ?_))
   refine af.ai ⟨[(0,.b (.one (.int .u64 (x0 / 4294967296))))],[]⟩ rfl (ab.aa (Oc oa (af.nil ?_)))
   exact Fin.join [0,2] [] (x0 / 4294967296,32) (Option.some.inj h2) rfl
  ·refine ab.skip ?_
   exact Fin.join [0,2] [] (x0,0) (Option.some.inj h2) rfl
 ·rintro ⟨x_1,n_2⟩ hv
  subst v1
  obtain ⟨v3,h4,h⟩:=aO h
  refine ab.dY (v:=v3) (dn fun (x_3:Int) (n_4:Int)=>⟨[(0,.b (.one (.int .u64 x_3))),(2,I n_4)],[]⟩) (fun z=>z) ?_ ?_
  ·refine ab.seq (ab.aa ?_)
   refine Oc om (Oc (mc rfl rfl) ?_)
   refine af.ai ⟨[(0,_),(2,_),(8,B (decide (65536 ≤ x_1)))],[]⟩ rfl (ab.ite h4 rfl (fun _ h4=>?_) (fun _ h4=>?_))
   ·refine ab.seq (ab.aa ?_)
    refine Oc om (Oc (jg (m:=16) (by decide) rfl rfl rfl) (Oc oa ?_))
    refine af.ai ⟨[(0,.b (.one (.int .u64 (x_1 / 65536)))),(2,_)],[]⟩ rfl (ab.aa (Oc om (Oc (bJ rfl rfl) (Oc oa ?_))))
    refine af.nil ?_
    exact Fin.join [0,2] [] (x_1 / 65536,IntKind.i64.wrap (n_2 + 16)) (Option.some.inj h4) rfl
   ·refine ab.skip ?_
    exact Fin.join [0,2] [] (x_1,n_2) (Option.some.inj h4) rfl
  ·rintro ⟨x_3,n_4⟩ hv
   subst v3
   obtain ⟨v5,h6,h⟩:=aO h
   refine ab.dY (v:=v5) (dn fun (x_5:Int) (n_6:Int)=>⟨[(0,.b (.one (.int .u64 x_5))),(2,I n_6)],[]⟩) (fun z=>z) ?_ ?_
   ·refine ab.seq (ab.aa ?_)
    refine Oc om (Oc (mc rfl rfl) ?_)
    refine af.ai ⟨[(0,_),(2,_),(14,B (decide (256 ≤ x_3)))],[]⟩ rfl (ab.ite h6 rfl (fun _ h6=>?_) (fun _ h6=>?_))
    ·refine ab.seq (ab.aa ?_)
     refine Oc om (Oc (jg (m:=8) (by decide) rfl rfl rfl) (Oc oa ?_))
     refine af.ai ⟨[(0,.b (.one (.int .u64 (x_3 / 256)))),(2,_)],[]⟩ rfl (ab.aa (Oc om (Oc (bJ rfl rfl) (Oc oa ?_))))
     refine af.nil ?_
     exact Fin.join [0,2] [] (x_3 / 256,IntKind.i64.wrap (n_4 + 8)) (Option.some.inj h6) rfl
    ·refine ab.skip ?_
     exact Fin.join [0,2] [] (x_3,n_4) (Option.some.inj h6) rfl
   ·rintro ⟨x_5,n_6⟩ hv
    subst v5
    refine ab.seq (ab.aa ?_)
    refine Oc om (Oc om (Oc (eu tH undi5 rfl) ?_))
    obtain ⟨x_7,e7,h⟩:=aO h
    refine Oc (pW und9 rfl rfl (bd e7) (ri e7)) (Oc (eu undi5 qa rfl) ?_)
    refine af.oM .i64 h rfl (bJ rfl rfl) (fun x_8 h=>?_)
    refine Oc oa (af.ai ⟨[(2,I x_8)],[]⟩ rfl (ab.ret ?_))
    obtain rfl:=Option.some.inj h
    refine Fin.ag ⟨[(2,_)],[]⟩ rfl (Fin.av [.one (.i x_8)] (.inl rfl) rfl (.cons (.tmp rfl) .nil) ⟨rfl,rfl⟩)
def lz (F:Nat) (x0:Int):Option Int :=
 (jt F x0).bind fun x_1=>some x_1
theorem oJ {F:Nat} {x0:Int} {r:Int} (h:lz F x0 = some r):au Tryz.prog [] 69 [] [.one (.int .u64 x0)] (Is [] (.b (.one (.i r)))):=by
 unfold lz at h
 refine au.intro 8 Tryz.func69 Tryz.ntmps69 rfl (by simp) fun E=>?_
 show ab _ E ⟨8,[],[],[]⟩ _ ⟨[(0,.b (.one (.int .u64 x0)))],[]⟩ _
 refine ab.seq (ab.aa ?_)
 refine Oc oa (af.ai ⟨[(0,.b (.one (.int .u64 x0)))],[]⟩ rfl (ab.seq (ab.condFc (ab.skip (Fin.ag ⟨[(0,_)],[]⟩ rfl ?_)))))
 refine Fin.then (ab.seq (ab.aa ?_))
 refine Oc om ?_
 obtain ⟨x_1,e1,h⟩:=aO h
 refine Oc (ak (nh e1) goes95 rfl rfl) (Oc oa ?_)
 refine af.ai ⟨[(2,I x_1)],[]⟩ rfl (ab.ret ?_)
 obtain rfl:=Option.some.inj h
 refine Fin.ag ⟨[(2,_)],[]⟩ rfl (Fin.av [.one (.i x_1)] (.inl rfl) rfl (.cons (.tmp rfl) .nil) ⟨rfl,rfl⟩)
def dL (F:Nat):Option Unit :=
 Option.bind (iter F (fun _=>some (.inr ())) ()) (fun _=>some ())
theorem ig {F:Nat} {r:Unit} (h:dL F = some r):au Tryz.prog [] 114 [] [.one (.nil),.one (.i 0),.one (.i 0)] (Is [] (.dD [])):=by
 unfold dL at h
 refine au.intro 49 Tryz.func114 Tryz.ntmps114 rfl (by simp) fun E=>?_
 show ab _ E ⟨49,[],[],[]⟩ _ ⟨[(0,.b (.one (.nil))),(1,I 0),(2,I 0)],[]⟩ _
 refine ab.seq (ab.aa ?_)
 refine Oc om (Oc (bJ rfl rfl) (Oc oa ?_))
 refine af.ai ⟨[(0,.b (.one (.nil))),(1,I 0),(2,I 0),(6,I 1)],[]⟩ rfl (ab.block ?_)
 obtain ⟨v1,h2,h⟩:=aO h
 refine ab.c6 h2 (fun (_:Unit)=>⟨[(0,.b (.one (.nil))),(1,I 0),(2,I 0),(6,I 1)],[]⟩) [0,1,2,6] [] rfl ?_
 rintro _ o3 h4 hy5
 refine ab.seq (ab.seq (ab.aa ?_))
 refine Oc om (Oc om (Oc (bu rfl rfl) ?_))
 refine af.ai ⟨[(0,_),(1,_),(2,_),(6,_),(12,B false)],[]⟩ rfl (ab.condF rfl (ab.exit (Fin.aA ?_)))
 obtain rfl:=hy5 _ (Option.some.inj h4).symm
 refine Fin.aA (Fin.aV ?_)
 obtain rfl:=Option.some.inj h
 refine Fin.ag ⟨[],[]⟩ rfl (Fin.av [] (.inr rfl) rfl (.nil) ⟨rfl,rfl⟩)
def dh (F:Nat):Nat → Int → Option Unit
 | 0,_=>none
 | n + 1,limit0=>Option.bind (iter F (fun _=>(dL F).bind fun u_1=>some (.inr ())) ()) (fun y=>some y)
def gl (F:Nat) (limit0:Int):Option Unit:=dh F F limit0
theorem iD {F:Nat}:∀ (n:Nat) {limit0:Int} {r:Unit} (h:dh F n limit0 = some r),au Tryz.prog [] 97 [] [.one (.nil),.one (.i 0),.one (.i 0),.one (.i limit0)] (Is [] (.dD [])):=by
 intro n
 induction n with
 | zero=>intro limit0 r h; simp [dh] at h
 | succ n ih=>
 intro limit0 r h
 unfold dh at h
 refine au.intro 134 Tryz.func97 Tryz.ntmps97 rfl (by simp) fun E=>?_
 show ab _ E ⟨134,[],[],[]⟩ _ ⟨[(0,.b (.one (.nil))),(1,I 0),(2,I 0),(3,I limit0)],[]⟩ _
 refine ab.seq (ab.aa ?_)
 refine Oc oa (af.ai ⟨[(0,.b (.one (.nil))),(1,I 0),(2,I 0),(3,I limit0),(8,B true)],[]⟩ rfl (ab.seq (ab.aa ?_)))
 refine Oc oa (af.ai ⟨[(0,_),(1,_),(2,_),(3,_),(8,_),(9,B true)],[]⟩ rfl (ab.block ?_))
 obtain ⟨v1,h2,h⟩:=aO h
 refine ab.c6 h2 (fun (_:Unit)=>⟨[(0,.b (.one (.nil))),(1,I 0),(2,I 0),(3,I limit0),(8,B true),(9,B true)],[]⟩) [0,1,2,3,8,9] [] rfl ?_
 rintro _ o3 h4 hy5
 refine ab.block (ab.seq (ab.aa ?_))
 refine Oc om (Oc om (Oc (mb rfl rfl) (Oc oa ?_)))
 refine af.ai ⟨[(0,_),(1,_),(2,_),(3,_),(8,_),(9,_),(10,I 0)],[]⟩ rfl (ab.seq (ab.seq (ab.aa ?_)))
 refine Oc om (Oc (op_leq rfl rfl) ?_)
 refine af.ai ⟨[(0,_),(1,_),(2,_),(3,_),(8,_),(9,_),(10,_),(23,B true)],[]⟩ rfl (ab.condT rfl (ab.seq (ab.aa ?_)))
 refine Oc om (Oc om (Oc om ?_))
 obtain ⟨u_1,e6,h4⟩:=aO h4
 refine Oc (ak (ig e6) goes114 rfl rfl) (af.ai ⟨[],[]⟩ rfl (ab.ret (Fin.ao (Fin.aK ?_))))
 obtain rfl:=hy5 _ (Option.some.inj h4).symm
 refine Fin.ao (Fin.aK ?_)
 obtain rfl:=Option.some.inj h
 refine Fin.ag ⟨[],[]⟩ rfl (Fin.av [] (.inl rfl) rfl (.nil) ⟨rfl,rfl⟩)
theorem iY {F:Nat} {limit0:Int} {r:Unit} (h:gl F limit0 = some r):au Tryz.prog [] 97 [] [.one (.nil),.one (.i 0),.one (.i 0),.one (.i limit0)] (Is [] (.dD [])):=iD F h
def iw (F:Nat):Option Unit :=
 (lz F (IntKind.u64.wrap 0)).bind fun x_1=>(gl F x_1).bind fun u_2=>some ()
theorem km {F:Nat} {r:Unit} (h:iw F = some r):au Tryz.prog [] 75 [] [.one (.nil)] (Is [] (.dD [])):=by
 unfold iw at h
 refine au.intro 11 Tryz.func75 Tryz.ntmps75 rfl (by simp) fun E=>?_
 show ab _ E ⟨11,[],[],[]⟩ _ ⟨[(0,.b (.one (.nil)))],[]⟩ _
 refine ab.seq (ab.aa ?_)
 refine Oc om (Oc (rP fm rfl) (Oc oa ?_))
 refine af.ai ⟨[(0,.b (.one (.nil))),(2,I 0)],[]⟩ rfl (ab.aa (Oc om (Oc om (Oc om (Oc (eu qa pH rfl) ?_)))))
 obtain ⟨x_1,e1,h⟩:=aO h
 refine Oc (ak (oJ e1) goes69 rfl rfl) ?_
 obtain ⟨u_2,e2,h⟩:=aO h
 refine Oc (ak (iY e2) goes97 rfl rfl) (af.nil ?_)
 obtain rfl:=Option.some.inj h
 refine Fin.ag ⟨[],[]⟩ rfl (Fin.av [] (.inr rfl) rfl (.nil) ⟨rfl,rfl⟩)
theorem mI:au Tryz.prog [] 75 [] [.one .nil] (Is [] (.dD [])):=km (F:=3) (r:=()) (by rfl)
def eG (F:Nat) (zs:List Int):Option (List Int):=nC zs
theorem mH {F:Nat} {zs r:List Int} (h:eG F zs = some r):au Tryz.prog [] 75 [(1,.dE 3 1 (zs.map eI))] [.row 1] (Is [(1,.dE 3 1 (r.map eI))] (.dD [])):=qO Tryz.lays189 mI h
def iC (F:Nat) (x0:entry):Option Int :=
 some (IntKind.u64.wrap x0.id)
theorem mN {F:Nat} {x0:entry} {r:Int} (h:iC F x0 = some r):au Tryz.prog [] 48 [] [.agg (ar x0)] (Is [] (.b (.one (.int .u64 r)))):=by
 unfold iC at h
 refine au.intro 6 Tryz.func48 Tryz.ntmps48 rfl (by simp) fun E=>?_
 show ab _ E ⟨6,[],[],[]⟩ _ ⟨[(0,.b (.agg (ar x0)))],[]⟩ _
 refine ab.seq (ab.aa ?_)
 refine Oc (bR (k:=101) rfl rfl) (Oc oa ?_)
 refine af.ai ⟨[(1,Pt 101 0)],[(101,.box 87 (ar x0))]⟩ rfl (ab.seq (ab.aa ?_))
 refine Oc (aw dv rfl rfl) (Oc (aM aT rfl rfl rfl) (Oc (eu qa tH rfl) (Oc oa ?_)))
 refine af.ai ⟨[(2,.b (.one (.int .u64 (IntKind.u64.wrap x0.id))))],[]⟩ rfl (ab.ret ?_)
 obtain rfl:=Option.some.inj h
 refine Fin.ag ⟨[(2,_)],[]⟩ rfl (Fin.av [.one (.int .u64 (IntKind.u64.wrap x0.id))] (.inl rfl) rfl (.cons (.tmp rfl) .nil) ⟨rfl,rfl⟩)
def gC (F:Nat) (fn0:Nat) (x0:entry):Option Int :=
 if fn0 = 48 then iC F x0 else none
theorem rR {F:Nat} {fn0:Nat} {x0:entry} {r:Int} (h:gC F fn0 x0 = some r):au Tryz.prog [] fn0 [] [.agg (ar x0)] (Is [] (.b (.one (.int .u64 r)))):=by
 unfold gC at h
 split at h
 ·next e=>subst e; exact mN h
 ·next=>
  simp at h
theorem rS {F:Nat} {fn0:Nat} {x0:entry} {r:Int} (h:gC F fn0 x0 = some r):bt Tryz.prog fn0:=by
 unfold gC at h
 split at h
 ·next e=>subst e; exact goes48
 ·next=>
  simp at h
theorem uG {F:Nat} {fn0:Nat} {x0:entry} {r:Int} (h:gC F fn0 x0 = some r):fn0 ≠ 0:=by
 rintro rfl
 exact absurd h (by simp [gC])
def fZ (F:Nat) (x0:entry):Option bC :=
 some x0.b
theorem mM {F:Nat} {x0:entry} {r:bC} (h:fZ F x0 = some r):au Tryz.prog [] 49 [] [.agg (ar x0)] (Is [] (.b (.agg (aj r)))):=by
 unfold fZ at h
 refine au.intro 5 Tryz.func49 Tryz.ntmps49 rfl (by simp) fun E=>?_
 show ab _ E ⟨5,[],[],[]⟩ _ ⟨[(0,.b (.agg (ar x0)))],[]⟩ _
 refine ab.seq (ab.aa ?_)
 refine Oc (bR (k:=101) rfl rfl) (Oc (aZ (k:=102) fA rfl) ?_)
 refine af.ai ⟨[(1,Pt 101 0),(2,Pt 102 0)],[(101,.box 87 (ar x0)),(102,.box 25 ((cS .i64) A3.zero ++ ((cS .i64) A3.zero)))]⟩ rfl (ab.seq (ab.aa ?_))
 refine Oc (aw gO rfl rfl) (Oc (lp aC) (Oc (aE aC rfl rfl rfl rfl (Nat.le_of_ble_eq_true rfl) rfl) ?_))
 refine af.ai ⟨[(2,_)],[(102,.box 25 (aj x0.b))]⟩ rfl (ab.ret ?_)
 obtain rfl:=Option.some.inj h
 refine Fin.ag ⟨[(2,_)],[(102,_)]⟩ rfl (Fin.av [.agg (aj x0.b)] (.inl rfl) rfl (.cons (.agg aC rfl rfl rfl rfl) .nil) ⟨rfl,rfl⟩)
def im (F:Nat) (fn0:Nat) (x0:entry):Option bC :=
 if fn0 = 49 then fZ F x0 else none
theorem rY {F:Nat} {fn0:Nat} {x0:entry} {r:bC} (h:im F fn0 x0 = some r):au Tryz.prog [] fn0 [] [.agg (ar x0)] (Is [] (.b (.agg (aj r)))):=by
 unfold im at h
 split at h
 ·next e=>subst e; exact mM h
 ·next=>
  simp at h
theorem rZ {F:Nat} {fn0:Nat} {x0:entry} {r:bC} (h:im F fn0 x0 = some r):bt Tryz.prog fn0:=by
 unfold im at h
 split at h
 ·next e=>subst e; exact goes49
 ·next=>
  simp at h
theorem uP {F:Nat} {fn0:Nat} {x0:entry} {r:bC} (h:im F fn0 x0 = some r):fn0 ≠ 0:=by
 rintro rfl
 exact absurd h (by simp [im])
def eh (F:Nat) (x0:Int):Option Bool :=
 some (decide (x0 ≠ x0))
theorem fE {F:Nat} {x0:Int} {r:Bool} (h:eh F x0 = some r):au Tryz.prog [] 70 [] [.one (.i x0)] (Is [] (.b (.one (.bool r)))):=by
 unfold eh at h
 refine au.intro 6 Tryz.func70 Tryz.ntmps70 rfl (by simp) fun E=>?_
 show ab _ E ⟨6,[],[],[]⟩ _ ⟨[(0,I x0)],[]⟩ _
 refine ab.seq (ab.aa ?_)
 refine Oc oa (af.ai ⟨[(0,I x0)],[]⟩ rfl (ab.seq (ab.aa ?_)))
 refine Oc om (Oc om (Oc (gV rfl rfl) (Oc oa ?_)))
 refine af.ai ⟨[(2,B (decide (x0 ≠ x0)))],[]⟩ rfl (ab.ret ?_)
 obtain rfl:=Option.some.inj h
 refine Fin.ag ⟨[(2,_)],[]⟩ rfl (Fin.av [.one (.bool (decide (x0 ≠ x0)))] (.inl rfl) rfl (.cons (.tmp rfl) .nil) ⟨rfl,rfl⟩)
def dm (F:Nat) (x0:Int) (y0:Int):Option Int :=
 (eh F x0).bind fun x_1=>(eh F y0).bind fun x_2=>if x_1 = true then (if x_2 = true then (some 0) else (some (-1))) else (if x_2 = true then (some 1) else (if (decide (x0 < y0)) = true then (some (-1)) else (if (decide (y0 < x0)) = true then (some 1) else (some 0))))
theorem fQ {F:Nat} {x0:Int} {y0:Int} {r:Int} (h:dm F x0 y0 = some r):au Tryz.prog [] 44 [] [.one (.i x0),.one (.i y0)] (Is [] (.b (.one (.i r)))):=by
 unfold dm at h
 refine au.intro 20 Tryz.func44 Tryz.ntmps44 rfl (by simp) fun E=>?_
 show ab _ E ⟨20,[],[],[]⟩ _ ⟨[(0,I x0),(1,I y0)],[]⟩ _
 refine ab.seq (ab.aa ?_)
 refine Oc oa (af.ai ⟨[(0,I x0),(1,I y0)],[]⟩ rfl (ab.seq (ab.aa ?_)))
 refine Oc om ?_
 obtain ⟨x_1,e1,h⟩:=aO h
 refine Oc (ak (fE e1) pz rfl rfl) (Oc oa ?_)
 refine af.ai ⟨[(0,_),(1,_),(5,B x_1)],[]⟩ rfl (ab.seq (ab.aa ?_))
 refine Oc om ?_
 obtain ⟨x_2,e2,h⟩:=aO h
 refine Oc (ak (fE e2) pz rfl rfl) (Oc oa ?_)
 refine af.ai ⟨[(0,_),(1,_),(5,_),(6,B x_2)],[]⟩ rfl (ab.seq (ab.seq (ab.aa ?_)))
 refine Oc om (af.ai ⟨[(0,_),(1,_),(6,_),(11,B x_1)],[]⟩ rfl (ab.ite h rfl (fun _ h=>?_) (fun _ h=>?_)))
 ·refine ab.seq (ab.seq (ab.aa ?_))
  refine Oc om (af.ai ⟨[(12,B x_2)],[]⟩ rfl (ab.ite h rfl (fun _ h=>?_) (fun _ h=>?_)))
  ·refine ab.seq (ab.aa ?_)
   refine Oc oa (af.ai ⟨[(4,I 0)],[]⟩ rfl (ab.ret (Fin.ao (Fin.ao ?_))))
   obtain rfl:=Option.some.inj h
   refine Fin.ag ⟨[(4,_)],[]⟩ rfl (Fin.av [.one (.i 0)] (.inl rfl) rfl (.cons (.tmp rfl) .nil) ⟨rfl,rfl⟩)
  ·refine ab.skip (Fin.ag ⟨[],[]⟩ rfl (Fin.then (ab.seq (ab.aa ?_))))
   refine Oc oa (af.ai ⟨[(4,I (-1))],[]⟩ rfl (ab.ret (Fin.ao ?_)))
   obtain rfl:=Option.some.inj h
   refine Fin.ag ⟨[(4,_)],[]⟩ rfl (Fin.av [.one (.i (-1))] (.inl rfl) rfl (.cons (.tmp rfl) .nil) ⟨rfl,rfl⟩)
 ·refine ab.skip (Fin.ag ⟨[(0,_),(1,_),(6,_)],[]⟩ rfl (Fin.then (ab.seq (ab.seq (ab.aa ?_)))))
  refine Oc om (af.ai ⟨[(0,_),(1,_),(13,B x_2)],[]⟩ rfl (ab.ite h rfl (fun _ h=>?_) (fun _ h=>?_)))
  ·refine ab.seq (ab.aa ?_)
   refine Oc oa (af.ai ⟨[(4,I 1)],[]⟩ rfl (ab.ret (Fin.ao ?_)))
   obtain rfl:=Option.some.inj h
   refine Fin.ag ⟨[(4,_)],[]⟩ rfl (Fin.av [.one (.i 1)] (.inl rfl) rfl (.cons (.tmp rfl) .nil) ⟨rfl,rfl⟩)
  ·refine ab.skip (Fin.ag ⟨[(0,_),(1,_)],[]⟩ rfl (Fin.then (ab.seq (ab.seq (ab.aa ?_)))))
   refine Oc om (Oc om (Oc (bu rfl rfl) ?_))
   refine af.ai ⟨[(0,_),(1,_),(16,B (decide (x0 < y0)))],[]⟩ rfl (ab.ite h rfl (fun _ h=>?_) (fun _ h=>?_))
   ·refine ab.seq (ab.aa ?_)
    refine Oc oa (af.ai ⟨[(4,I (-1))],[]⟩ rfl (ab.ret (Fin.ao ?_)))
    obtain rfl:=Option.some.inj h
    refine Fin.ag ⟨[(4,_)],[]⟩ rfl (Fin.av [.one (.i (-1))] (.inl rfl) rfl (.cons (.tmp rfl) .nil) ⟨rfl,rfl⟩)
   ·refine ab.skip (Fin.ag ⟨[(0,_),(1,_)],[]⟩ rfl (Fin.then (ab.seq (ab.seq (ab.aa ?_)))))
    refine Oc om (Oc om (Oc (gW rfl rfl) ?_))
    refine af.ai ⟨[(19,B (decide (y0 < x0)))],[]⟩ rfl (ab.ite h rfl (fun _ h=>?_) (fun _ h=>?_))
    ·refine ab.seq (ab.aa ?_)
     refine Oc oa (af.ai ⟨[(4,I 1)],[]⟩ rfl (ab.ret (Fin.ao ?_)))
     obtain rfl:=Option.some.inj h
     refine Fin.ag ⟨[(4,_)],[]⟩ rfl (Fin.av [.one (.i 1)] (.inl rfl) rfl (.cons (.tmp rfl) .nil) ⟨rfl,rfl⟩)
    ·refine ab.skip (Fin.ag ⟨[],[]⟩ rfl (Fin.then (ab.seq (ab.aa ?_))))
     refine Oc oa (af.ai ⟨[(4,I 0)],[]⟩ rfl (ab.ret ?_))
     obtain rfl:=Option.some.inj h
     refine Fin.ag ⟨[(4,_)],[]⟩ rfl (Fin.av [.one (.i 0)] (.inl rfl) rfl (.cons (.tmp rfl) .nil) ⟨rfl,rfl⟩)
def fY (F:Nat) (a0:entry) (b0:entry):Option Int :=
 (dm F a0.id b0.id).bind fun x_1=>some x_1
theorem mL {F:Nat} {a0:entry} {b0:entry} {r:Int} (h:fY F a0 b0 = some r):au Tryz.prog [] 50 [] [.agg (ar a0),.agg (ar b0)] (Is [] (.b (.one (.i r)))):=by
 unfold fY at h
 refine au.intro 10 Tryz.func50 Tryz.ntmps50 rfl (by simp) fun E=>?_
 show ab _ E ⟨10,[],[],[]⟩ _ ⟨[(0,.b (.agg (ar a0))),(1,.b (.agg (ar b0)))],[]⟩ _
 refine ab.seq (ab.aa ?_)
 refine Oc (bR (k:=101) rfl rfl) (Oc (bR (k:=102) rfl rfl) (Oc oa ?_))
 refine af.ai ⟨[(2,Pt 101 0),(3,Pt 102 0)],[(101,.box 87 (ar a0)),(102,.box 87 (ar b0))]⟩ rfl (ab.seq (ab.aa ?_))
 refine Oc (aw dv rfl rfl) (Oc (aM aT rfl rfl rfl) (Oc (aw dv rfl rfl) (Oc (aM aT rfl rfl rfl) ?_)))
 obtain ⟨x_1,e1,h⟩:=aO h
 refine Oc (ak (fQ e1) ry rfl rfl) (Oc oa ?_)
 refine af.ai ⟨[(4,I x_1)],[]⟩ rfl (ab.ret ?_)
 obtain rfl:=Option.some.inj h
 refine Fin.ag ⟨[(4,_)],[]⟩ rfl (Fin.av [.one (.i x_1)] (.inl rfl) rfl (.cons (.tmp rfl) .nil) ⟨rfl,rfl⟩)
def dz (F:Nat) (s10:List Int) (s20:List Int):Option Int :=
 Option.bind (iter F (fun x_1=>if (decide (x_1 < (s10.length:Int))) = true then ((bg s10 x_1).bind fun x_2=>if (decide ((s20.length:Int) ≤ x_1)) = true then (some (.inr (.inr 1))) else ((bg s20 x_1).bind fun x_3=>(dm F x_2 x_3).bind fun x_4=>if (decide (x_4 ≠ 0)) = true then (some (.inr (.inr x_4))) else (some (.inl (IntKind.i64.wrap (x_1 + 1)))))) else (some (.inr (.inl ())))) 0) (bZ (fun _=>if (decide ((s10.length:Int) < (s20.length:Int))) = true then (some (-1)) else (some 0)) (fun y=>some y))
theorem kL {F:Nat} {s10:List Int} {s20:List Int} {r:Int} (h:dz F s10 s20 = some r):au Tryz.prog [] 53 [] [.one (.sl 1 (s10.map eI)),.one (.sl 1 (s20.map eI))] (Is [] (.b (.one (.i r)))):=by
 unfold dz at h
 refine au.intro 36 Tryz.func53 Tryz.ntmps53 rfl (by simp) fun E=>?_
 show ab _ E ⟨36,[],[],[]⟩ _ ⟨[(0,.b (.one (.sl 1 (s10.map eI)))),(1,.b (.one (.sl 1 (s20.map eI))))],[]⟩ _
 refine ab.seq (ab.aa ?_)
 refine Oc oa (af.ai ⟨[(0,.b (.one (.sl 1 (s10.map eI)))),(1,.b (.one (.sl 1 (s20.map eI))))],[]⟩ rfl ?_)
 obtain ⟨v1,h2,h⟩:=aO h
 refine ab.dY (v:=v1) (fun (_:Unit)=>⟨[(0,.b (.one (.sl 1 (s10.map eI)))),(1,.b (.one (.sl 1 (s20.map eI))))],[]⟩) (fun z=>.inl z) ?_ ?_
 ·refine ab.seq (ab.aa ?_)
  refine Oc om (Oc (a8 fm rfl (List.length_map _)) (Oc om ?_))
  refine af.ai ⟨[(0,_),(1,_),(9,.b (.one (.sl 1 (s10.map eI)))),(10,I (s10.length:Int)),(11,I 0)],[]⟩ rfl (ab.block (ab.c6 h2 (fun (x_1:Int)=>⟨[(0,.b (.one (.sl 1 (s10.map eI)))),(1,.b (.one (.sl 1 (s20.map eI)))),(9,.b (.one (.sl 1 (s10.map eI)))),(10,I (s10.length:Int)),(11,I x_1)],[]⟩) [0,1,9,10,11] [] rfl ?_))
  rintro x_1 o3 h4 hy5
  refine ab.seq (ab.aa ?_)
  refine Oc (bu rfl rfl) (af.ai ⟨[(0,_),(1,_),(9,_),(10,_),(11,_),(12,B (decide (x_1 < (s10.length:Int))))],[]⟩ rfl (ab.seq (ab.ite h4 rfl (fun _ h4=>?_) (fun _ h4=>?_))))
  ·refine ab.skip (Fin.ag ⟨[(0,_),(1,_),(9,_),(10,_),(11,_)],[]⟩ rfl (Fin.then (ab.seq (ab.block (ab.seq (ab.aa ?_))))))
   refine Oc om ?_
   obtain ⟨x_2,e6,h4⟩:=aO h4
   refine Oc (bc cp (bd e6) (cA (e:=eI) e6) rfl rfl) (Oc (az aT rfl rfl) (Oc oa (Oc oa ?_)))
   refine af.ai ⟨[(0,_),(1,_),(5,I x_1),(6,I x_2),(9,_),(10,_),(11,_)],[]⟩ rfl (ab.seq (ab.seq (ab.aa ?_)))
   refine Oc om (Oc om (Oc (a8 fm rfl (List.length_map _)) (Oc (mc rfl rfl) ?_)))
   refine af.ai ⟨[(0,_),(1,_),(5,_),(6,_),(9,_),(10,_),(11,_),(19,B (decide ((s20.length:Int) ≤ x_1)))],[]⟩ rfl (ab.ite h4 rfl (fun _ h4=>?_) (fun _ h4=>?_))
   ·refine ab.seq (ab.aa ?_)
    refine Oc oa (af.ai ⟨[(4,I 1)],[]⟩ rfl (ab.ret (Fin.ao (Fin.aK (Fin.ao ?_)))))
    obtain rfl:=hy5 _ (Option.some.inj h4).symm
    refine Fin.ao (Fin.aK (Fin.ao ?_))
    obtain rfl:=Option.some.inj h
    refine Fin.ag ⟨[(4,_)],[]⟩ rfl (Fin.av [.one (.i 1)] (.inl rfl) rfl (.cons (.tmp rfl) .nil) ⟨rfl,rfl⟩)
   ·refine ab.skip (Fin.ag ⟨[(0,_),(1,_),(5,_),(6,_),(9,_),(10,_),(11,_)],[]⟩ rfl (Fin.then (ab.seq (ab.aa ?_))))
    refine Oc om (Oc om ?_)
    obtain ⟨x_3,e7,h4⟩:=aO h4
    refine Oc (bc cp (bd e7) (cA (e:=eI) e7) rfl rfl) (Oc (az aT rfl rfl) (Oc oa ?_))
    refine af.ai ⟨[(0,_),(1,_),(6,_),(7,I x_3),(9,_),(10,_),(11,_)],[]⟩ rfl (ab.seq (ab.aa ?_))
    refine Oc om (Oc om ?_)
    obtain ⟨x_4,e8,h4⟩:=aO h4
    refine Oc (ak (fQ e8) ry rfl rfl) (Oc oa ?_)
    refine af.ai ⟨[(0,_),(1,_),(8,I x_4),(9,_),(10,_),(11,_)],[]⟩ rfl (ab.seq (ab.aa ?_))
    refine Oc om (Oc (gV rfl rfl) ?_)
    refine af.ai ⟨[(0,_),(1,_),(8,_),(9,_),(10,_),(11,_),(28,B (decide (x_4 ≠ 0)))],[]⟩ rfl (ab.ite h4 rfl (fun _ h4=>?_) (fun _ h4=>?_))
    ·refine ab.seq (ab.aa ?_)
     refine Oc om (Oc oa ?_)
     refine af.ai ⟨[(4,I x_4)],[]⟩ rfl (ab.ret (Fin.aK (Fin.ao ?_)))
     obtain rfl:=hy5 _ (Option.some.inj h4).symm
     refine Fin.ao (Fin.aK (Fin.ao ?_))
     obtain rfl:=Option.some.inj h
     refine Fin.ag ⟨[(4,_)],[]⟩ rfl (Fin.av [.one (.i x_4)] (.inl rfl) rfl (.cons (.tmp rfl) .nil) ⟨rfl,rfl⟩)
    ·refine ab.skip (Fin.ay (Fin.ag ⟨[(0,_),(1,_),(9,_),(10,_),(11,_)],[]⟩ rfl (Fin.then (ab.aa ?_))))
     refine Oc (bJ rfl rfl) (Oc om ?_)
     refine af.nil ?_
     exact Fin.ct [0,1,9,10,11] [] (IntKind.i64.wrap (x_1 + 1)) (Option.some.inj h4) rfl
  ·refine ab.exit (Fin.aA ?_)
   obtain rfl:=hy5 _ (Option.some.inj h4).symm
   refine Fin.aA (Fin.aV ?_)
   exact Fin.join [0,1] [] () rfl rfl
 ·rintro _ hv
  subst v1
  refine ab.seq (ab.seq (ab.aa ?_))
  refine Oc om (Oc (a8 fm rfl (List.length_map _)) (Oc om (Oc (a8 fm rfl (List.length_map _)) (Oc (bu rfl rfl) ?_))))
  refine af.ai ⟨[(35,B (decide ((s10.length:Int) < (s20.length:Int))))],[]⟩ rfl (ab.ite h rfl (fun _ h=>?_) (fun _ h=>?_))
  ·refine ab.seq (ab.aa ?_)
   refine Oc oa (af.ai ⟨[(4,I (-1))],[]⟩ rfl (ab.ret (Fin.ao ?_)))
   obtain rfl:=Option.some.inj h
   refine Fin.ag ⟨[(4,_)],[]⟩ rfl (Fin.av [.one (.i (-1))] (.inl rfl) rfl (.cons (.tmp rfl) .nil) ⟨rfl,rfl⟩)
  ·refine ab.skip (Fin.ag ⟨[],[]⟩ rfl (Fin.then (ab.seq (ab.aa ?_))))
   refine Oc oa (af.ai ⟨[(4,I 0)],[]⟩ rfl (ab.ret ?_))
   obtain rfl:=Option.some.inj h
   refine Fin.ag ⟨[(4,_)],[]⟩ rfl (Fin.av [.one (.i 0)] (.inl rfl) rfl (.cons (.tmp rfl) .nil) ⟨rfl,rfl⟩)
def jZ (F:Nat) (vals0:List Int):Option Int :=
 Option.bind (iter F (fun x_1=>if (decide (x_1 < (vals0.length:Int))) = true then ((bg vals0 x_1).bind fun x_2=>if (decide (x_2 ≠ 0)) = true then (some (.inr (.inr x_2))) else (some (.inl (IntKind.i64.wrap (x_1 + 1))))) else (some (.inr (.inl ())))) 0) (bZ (fun _=>some 0) (fun y=>some y))
theorem qT {F:Nat} {vals0:List Int} {r:Int} (h:jZ F vals0 = some r):au Tryz.prog [] 52 [] [.one (.sl 1 (vals0.map eI))] (Is [] (.b (.one (.i r)))):=by
 unfold jZ at h
 refine au.intro 18 Tryz.func52 Tryz.ntmps52 rfl (by simp) fun E=>?_
 show ab _ E ⟨18,[],[],[]⟩ _ ⟨[(0,.b (.one (.sl 1 (vals0.map eI))))],[]⟩ _
 refine ab.seq (ab.aa ?_)
 refine Oc oa (af.ai ⟨[(0,.b (.one (.sl 1 (vals0.map eI))))],[]⟩ rfl (ab.seq (ab.aa ?_)))
 refine Oc oa (af.ai ⟨[(0,_),(3,I 0)],[]⟩ rfl ?_)
 obtain ⟨v1,h2,h⟩:=aO h
 refine ab.dY (v:=v1) (fun (_:Unit)=>⟨[(3,I 0)],[]⟩) (fun z=>.inl z) ?_ ?_
 ·refine ab.seq (ab.aa ?_)
  refine Oc om (Oc (a8 fm rfl (List.length_map _)) (Oc om ?_))
  refine af.ai ⟨[(3,_),(6,.b (.one (.sl 1 (vals0.map eI)))),(7,I (vals0.length:Int)),(8,I 0)],[]⟩ rfl (ab.block (ab.c6 h2 (fun (x_1:Int)=>⟨[(3,I 0),(6,.b (.one (.sl 1 (vals0.map eI)))),(7,I (vals0.length:Int)),(8,I x_1)],[]⟩) [3,6,7,8] [] rfl ?_))
  rintro x_1 o3 h4 hy5
  refine ab.seq (ab.aa ?_)
  refine Oc (bu rfl rfl) (af.ai ⟨[(3,_),(6,_),(7,_),(8,_),(9,B (decide (x_1 < (vals0.length:Int))))],[]⟩ rfl (ab.seq (ab.ite h4 rfl (fun _ h4=>?_) (fun _ h4=>?_))))
  ·refine ab.skip (Fin.ag ⟨[(3,_),(6,_),(7,_),(8,_)],[]⟩ rfl (Fin.then (ab.seq (ab.block (ab.seq (ab.aa ?_))))))
   obtain ⟨x_2,e6,h4⟩:=aO h4
   refine Oc (bc cp (bd e6) (cA (e:=eI) e6) rfl rfl) (Oc (az aT rfl rfl) (Oc oa ?_))
   refine af.ai ⟨[(3,_),(5,I x_2),(6,_),(7,_),(8,_)],[]⟩ rfl (ab.seq (ab.aa ?_))
   refine Oc om (Oc om (Oc (gV rfl rfl) ?_))
   refine af.ai ⟨[(3,_),(5,_),(6,_),(7,_),(8,_),(14,B (decide (x_2 ≠ 0)))],[]⟩ rfl (ab.ite h4 rfl (fun _ h4=>?_) (fun _ h4=>?_))
   ·refine ab.seq (ab.aa ?_)
    refine Oc om (Oc oa ?_)
    refine af.ai ⟨[(2,I x_2)],[]⟩ rfl (ab.ret (Fin.aK (Fin.ao ?_)))
    obtain rfl:=hy5 _ (Option.some.inj h4).symm
    refine Fin.ao (Fin.aK (Fin.ao ?_))
    obtain rfl:=Option.some.inj h
    refine Fin.ag ⟨[(2,_)],[]⟩ rfl (Fin.av [.one (.i x_2)] (.inl rfl) rfl (.cons (.tmp rfl) .nil) ⟨rfl,rfl⟩)
   ·refine ab.skip (Fin.ay (Fin.ag ⟨[(3,_),(6,_),(7,_),(8,_)],[]⟩ rfl (Fin.then (ab.aa ?_))))
    refine Oc (bJ rfl rfl) (Oc om ?_)
    refine af.nil ?_
    exact Fin.ct [3,6,7,8] [] (IntKind.i64.wrap (x_1 + 1)) (Option.some.inj h4) rfl
  ·refine ab.exit (Fin.aA ?_)
   obtain rfl:=hy5 _ (Option.some.inj h4).symm
   refine Fin.aA (Fin.aV ?_)
   exact Fin.join [3] [] () rfl rfl
 ·rintro _ hv
  subst v1
  refine ab.seq (ab.aa ?_)
  refine Oc om (Oc oa ?_)
  refine af.ai ⟨[(2,I 0)],[]⟩ rfl (ab.ret ?_)
  obtain rfl:=Option.some.inj h
  refine Fin.ag ⟨[(2,_)],[]⟩ rfl (Fin.av [.one (.i 0)] (.inl rfl) rfl (.cons (.tmp rfl) .nil) ⟨rfl,rfl⟩)
def fX (F:Nat) (a0:entry) (b0:entry):Option Int :=
 (dz F a0.b.Lo.l b0.b.Lo.l).bind fun x_1=>(dm F a0.id b0.id).bind fun x_2=>(jZ F [x_1,x_2]).bind fun x_3=>some x_3
theorem mK {F:Nat} {a0:entry} {b0:entry} {r:Int} (h:fX F a0 b0 = some r):au Tryz.prog [] 51 [] [.agg (ar a0),.agg (ar b0)] (Is [] (.b (.one (.i r)))):=by
 unfold fX at h
 refine au.intro 19 Tryz.func51 Tryz.ntmps51 rfl (by simp) fun E=>?_
 show ab _ E ⟨19,[],[],[]⟩ _ ⟨[(0,.b (.agg (ar a0))),(1,.b (.agg (ar b0)))],[]⟩ _
 refine ab.seq (ab.aa ?_)
 refine Oc (lT rfl) (Oc (lT rfl) (Oc oa ?_))
 refine af.ai ⟨[(2,.b (.aN (ar a0))),(3,.b (.aN (ar b0)))],[]⟩ rfl (ab.seq ?_)
 obtain ⟨x_1,e1,h⟩:=aO h
 obtain ⟨x_2,e2,h⟩:=aO h
 obtain ⟨x_3,e3,h⟩:=aO h
 refine ab.cc mixed 15 [.b (.aN (aj a0.b)),.b (.aN (aj a0.b)),.b (.one (.sl 1 (a0.b.Lo.l.map eI))),.b (.aN (aj b0.b)),.b (.aN (aj b0.b)),.b (.one (.sl 1 (b0.b.Lo.l.map eI))),I x_1,.b (.aN (ar a0)),I a0.id,.b (.aN (ar b0)),I b0.id,I x_2,.b (.one (.sl 1 ([x_1,x_2].map eI))),I x_3,I x_3] [4] [] (s':=⟨[(4,I x_3)],[]⟩) rfl ⟨fun _=>by exact .p (aF gO rfl rfl),fun _=>by exact .p (aF cL rfl rfl),fun _=>.p (mY (xs:=a0.b.Lo.l) (enc:=eI) bT rfl rfl rfl (fun _=>rfl) (by rw [fa]; decide)),fun _=>by exact .p (aF gO rfl rfl),fun _=>by exact .p (aF cL rfl rfl),fun _=>.p (mY (xs:=b0.b.Lo.l) (enc:=eI) bT rfl rfl rfl (fun _=>rfl) (by rw [fa]; decide)),fun _=>.p (ak (kL e1) goes53 rfl rfl),fun _=>by exact .p (aF dv rfl rfl),fun _=>.p (az aT rfl rfl),fun _=>by exact .p (aF dv rfl rfl),fun _=>.p (az aT rfl rfl),fun _=>.p (ak (fQ e2) ry rfl rfl),fun _=>.p (dy (es:=[x_1,x_2].map eI) cp rfl rfl (cH fun _=>rfl) rfl (by decide) (by decide)),fun _=>.p (ak (qT e3) goes52 rfl rfl),fun _=>.p oa,trivial⟩ rfl rfl (ab.ret ?_)
 obtain rfl:=Option.some.inj h
 refine Fin.ag ⟨[(4,_)],[]⟩ rfl (Fin.av [.one (.i x_3)] (.inl rfl) rfl (.cons (.tmp rfl) .nil) ⟨rfl,rfl⟩)
def fw (F:Nat) (fn0:Nat) (a0:entry) (b0:entry):Option Int :=
 if fn0 = 50 then fY F a0 b0 else if fn0 = 51 then fX F a0 b0 else none
theorem oo {F:Nat} {fn0:Nat} {a0:entry} {b0:entry} {r:Int} (h:fw F fn0 a0 b0 = some r):au Tryz.prog [] fn0 [] [.agg (ar a0),.agg (ar b0)] (Is [] (.b (.one (.i r)))):=by
 unfold fw at h
 split at h
 ·next e=>subst e; exact mL h
 ·next=>
  split at h
  ·next e=>subst e; exact mK h
  ·next=>
   simp at h
theorem oq {F:Nat} {fn0:Nat} {a0:entry} {b0:entry} {r:Int} (h:fw F fn0 a0 b0 = some r):bt Tryz.prog fn0:=by
 unfold fw at h
 split at h
 ·next e=>subst e; exact goes50
 ·next=>
  split at h
  ·next e=>subst e; exact goes51
  ·next=>
   simp at h
theorem qH {F:Nat} {fn0:Nat} {a0:entry} {b0:entry} {r:Int} (h:fw F fn0 a0 b0 = some r):fn0 ≠ 0:=by
 rintro rfl
 exact absurd h (by simp [fw])
def bP (F:Nat) (b0:bC):Option Bool :=
 Option.bind (iter F (fun x_1=>if (decide (x_1 < 3)) = true then ((bg b0.Lo.l x_1).bind fun x_2=>(bg b0.Hi.l x_1).bind fun x_3=>(bo (!(decide (x_3 < x_2))) (bg b0.Lo.l x_1)).bind fun x_4=>(bo (!((decide (x_3 < x_2)) || (decide (x_4 < (-1125899906842624))))) (bg b0.Hi.l x_1)).bind fun x_5=>if (((decide (x_3 < x_2)) || (decide (x_4 < (-1125899906842624)))) || (decide (1125899906842624 < x_5))) = true then (some (.inr (.inr false))) else (some (.inl (IntKind.i64.wrap (x_1 + 1))))) else (some (.inr (.inl ())))) 0) (bZ (fun _=>some true) (fun y=>some y))
theorem cF {F:Nat} {b0:bC} {r:Bool} (h:bP F b0 = some r):au Tryz.prog [] 14 [] [.agg (aj b0)] (Is [] (.b (.one (.bool r)))):=by
 unfold bP at h
 refine au.intro 31 Tryz.func14 Tryz.ntmps14 rfl (by simp) fun E=>?_
 show ab _ E ⟨31,[],[],[]⟩ _ ⟨[(0,.b (.agg (aj b0)))],[]⟩ _
 refine ab.seq (ab.aa ?_)
 refine Oc (bR (k:=101) rfl rfl) (Oc oa ?_)
 refine af.ai ⟨[(1,Pt 101 0)],[(101,.box 25 (aj b0))]⟩ rfl ?_
 obtain ⟨v1,h2,h⟩:=aO h
 refine ab.dY (v:=v1) (fun (_:Unit)=>⟨[],[]⟩) (fun z=>.inl z) ?_ ?_
 ·refine ab.seq (ab.aa ?_)
  refine Oc om (af.ai ⟨[(1,_),(4,I 0)],[(101,_)]⟩ rfl (ab.block (ab.c6 h2 (fun (x_1:Int)=>⟨[(1,Pt 101 0),(4,I x_1)],[(101,.box 25 (aj b0))]⟩) [1,4] [101] rfl ?_)))
  rintro x_1 o3 h4 hy5
  refine ab.seq (ab.aa ?_)
  refine Oc (bu rfl rfl) (af.ai ⟨[(1,_),(4,_),(5,B (decide (x_1 < 3)))],[(101,_)]⟩ rfl (ab.seq (ab.ite h4 rfl (fun _ h4=>?_) (fun _ h4=>?_))))
  ·refine ab.skip (Fin.ag ⟨[(1,_),(4,_)],[(101,_)]⟩ rfl (Fin.then (ab.seq (ab.block (ab.seq (ab.aa ?_))))))
   refine Oc om (Oc oa ?_)
   refine af.ai ⟨[(1,_),(3,I x_1),(4,_)],[(101,_)]⟩ rfl (ab.seq ?_)
   obtain ⟨x_2,e6,h4⟩:=aO h4
   obtain ⟨x_3,e7,h4⟩:=aO h4
   obtain ⟨x_4,e11,h4⟩:=aO h4
   obtain ⟨x_5,e17,h4⟩:=aO h4
   refine ab.cc mixed 23 [I x_1,Pt 101 0,.b (.ptr 101 (0 + (x_1:Int).toNat * 1)),I x_2,I x_1,Pt 101 3,.b (.ptr 101 (3 + (x_1:Int).toNat * 1)),I x_3,B (decide (x_3 < x_2)),B (decide (x_3 < x_2)),.opt (!(decide (x_3 < x_2))) (.one (.i x_1)),.opt (!(decide (x_3 < x_2))) (.ptr 101 0),.opt (!(decide (x_3 < x_2))) (.ptr 101 (0 + (x_1:Int).toNat * 1)),.opt (!(decide (x_3 < x_2))) (.one (.i x_4)),.opt (!(decide (x_3 < x_2))) (.one (.bool (decide (x_4 < (-1125899906842624))))),B ((decide (x_3 < x_2)) || (decide (x_4 < (-1125899906842624)))),B ((decide (x_3 < x_2)) || (decide (x_4 < (-1125899906842624)))),.opt (!((decide (x_3 < x_2)) || (decide (x_4 < (-1125899906842624))))) (.one (.i x_1)),.opt (!((decide (x_3 < x_2)) || (decide (x_4 < (-1125899906842624))))) (.ptr 101 3),.opt (!((decide (x_3 < x_2)) || (decide (x_4 < (-1125899906842624))))) (.ptr 101 (3 + (x_1:Int).toNat * 1)),.opt (!((decide (x_3 < x_2)) || (decide (x_4 < (-1125899906842624))))) (.one (.i x_5)),.opt (!((decide (x_3 < x_2)) || (decide (x_4 < (-1125899906842624))))) (.one (.bool (decide (1125899906842624 < x_5)))),B (((decide (x_3 < x_2)) || (decide (x_4 < (-1125899906842624)))) || (decide (1125899906842624 < x_5)))] [1,4,29] [101] (s':=⟨[(1,_),(4,_),(29,B (((decide (x_3 < x_2)) || (decide (x_4 < (-1125899906842624)))) || (decide (1125899906842624 < x_5))))],[(101,_)]⟩) rfl ⟨fun _=>.p om,fun _=>.p (aw cL rfl rfl),fun _=>.p (a7 bT (bd e6) (de e6) rfl rfl rfl),fun _=>.p (aM aT rfl rfl (cU (post:=((cS .i64) b0.Hi)) (k:=.i64) [] e6 rfl rfl rfl)),fun _=>.p om,fun _=>.p (aw cK rfl rfl),fun _=>.p (a7 bT (bd e7) (de e7) rfl rfl rfl),fun _=>.p (aM aT rfl rfl (cU (post:=[]) (k:=.i64) ((cS .i64) b0.Lo) e7 rfl rfl rfl)),fun _=>.p (gW rfl rfl),fun _=>.p om,fun _=>by exact .guard (!(decide (x_3 < x_2))) 1 [] (.plain rfl) (fk _) rfl rfl (fun g8=>trivial) (fun g8=>om),fun _=>by exact .guard (!(decide (x_3 < x_2))) 1 [] (.plain rfl) (fk _) rfl rfl (fun g9=>trivial) (fun g9=>aw cL rfl rfl),fun _=>by exact .guard (!(decide (x_3 < x_2))) 3 [17,18] (.plain rfl) (fk _) rfl rfl (fun g10=>⟨g10,g10,trivial⟩) (fun g10=>a7 bT (bd (gc e11 g10)) (de (gc e11 g10)) rfl rfl rfl),fun _=>by exact .guard (!(decide (x_3 < x_2))) 2 [19] (.plain rfl) (fk _) rfl rfl (fun g12=>⟨g12,trivial⟩) (fun g12=>aM aT rfl rfl (cU (post:=((cS .i64) b0.Hi)) (k:=.i64) [] (gc e11 g12) rfl rfl rfl)),fun _=>by exact .guard (!(decide (x_3 < x_2))) 2 [20] (.plain rfl) (fk _) rfl rfl (fun g13=>⟨g13,trivial⟩) (fun g13=>bu rfl rfl),fun _=>.p (ck (fun e=>by first | (rw [e]; rfl) | (simp only at e; rw [e]; rfl)) rfl rfl rfl rfl),fun _=>.p om,fun _=>by exact .guard (!((decide (x_3 < x_2)) || (decide (x_4 < (-1125899906842624))))) 1 [] (.plain rfl) (fk _) rfl rfl (fun g14=>trivial) (fun g14=>om),fun _=>by exact .guard (!((decide (x_3 < x_2)) || (decide (x_4 < (-1125899906842624))))) 1 [] (.plain rfl) (fk _) rfl rfl (fun g15=>trivial) (fun g15=>aw cK rfl rfl),fun _=>by exact .guard (!((decide (x_3 < x_2)) || (decide (x_4 < (-1125899906842624))))) 3 [24,25] (.plain rfl) (fk _) rfl rfl (fun g16=>⟨g16,g16,trivial⟩) (fun g16=>a7 bT (bd (gc e17 g16)) (de (gc e17 g16)) rfl rfl rfl),fun _=>by exact .guard (!((decide (x_3 < x_2)) || (decide (x_4 < (-1125899906842624))))) 2 [26] (.plain rfl) (fk _) rfl rfl (fun g18=>⟨g18,trivial⟩) (fun g18=>aM aT rfl rfl (cU (post:=[]) (k:=.i64) ((cS .i64) b0.Lo) (gc e17 g18) rfl rfl rfl)),fun _=>by exact .guard (!((decide (x_3 < x_2)) || (decide (x_4 < (-1125899906842624))))) 2 [27] (.plain rfl) (fk _) rfl rfl (fun g19=>⟨g19,trivial⟩) (fun g19=>gW rfl rfl),fun _=>.p (ck (fun e=>by first | (rw [e]; rfl) | (simp only at e; rw [e]; rfl)) rfl rfl rfl rfl),trivial⟩ rfl rfl ?_
   refine ab.ite h4 rfl (fun _ h4=>?_) (fun _ h4=>?_)
   ·refine ab.seq (ab.aa ?_)
    refine Oc oa (af.ai ⟨[(2,B false)],[]⟩ rfl (ab.ret (Fin.aK (Fin.ao ?_))))
    obtain rfl:=hy5 _ (Option.some.inj h4).symm
    refine Fin.ao (Fin.aK (Fin.ao ?_))
    obtain rfl:=Option.some.inj h
    refine Fin.ag ⟨[(2,_)],[]⟩ rfl (Fin.av [.one (.bool false)] (.inl rfl) rfl (.cons (.tmp rfl) .nil) ⟨rfl,rfl⟩)
   ·refine ab.skip (Fin.ay (Fin.ag ⟨[(1,_),(4,_)],[(101,_)]⟩ rfl (Fin.then (ab.aa ?_))))
    refine Oc (bJ rfl rfl) (Oc om ?_)
    refine af.nil ?_
    exact Fin.ct [1,4] [101] (IntKind.i64.wrap (x_1 + 1)) (Option.some.inj h4) rfl
  ·refine ab.exit (Fin.aA ?_)
   obtain rfl:=hy5 _ (Option.some.inj h4).symm
   refine Fin.aA (Fin.aV ?_)
   exact Fin.join [] [] () rfl rfl
 ·rintro _ hv
  subst v1
  refine ab.seq (ab.aa ?_)
  refine Oc oa (af.ai ⟨[(2,B true)],[]⟩ rfl (ab.ret ?_))
  obtain rfl:=Option.some.inj h
  refine Fin.ag ⟨[(2,_)],[]⟩ rfl (Fin.av [.one (.bool true)] (.inl rfl) rfl (.cons (.tmp rfl) .nil) ⟨rfl,rfl⟩)
def eJ (F:Nat) (b0:bC):Option Bool :=
 (bP F b0).bind fun x_1=>some (!x_1)
theorem lC {F:Nat} {b0:bC} {r:Bool} (h:eJ F b0 = some r):au Tryz.prog [] 41 [] [.agg (aj b0)] (Is [] (.b (.one (.bool r)))):=by
 unfold eJ at h
 refine au.intro 6 Tryz.func41 Tryz.ntmps41 rfl (by simp) fun E=>?_
 show ab _ E ⟨6,[],[],[]⟩ _ ⟨[(0,.b (.agg (aj b0)))],[]⟩ _
 refine ab.seq (ab.aa ?_)
 refine Oc (bR (k:=101) rfl rfl) (Oc oa ?_)
 refine af.ai ⟨[(1,Pt 101 0)],[(101,.box 25 (aj b0))]⟩ rfl (ab.seq (ab.aa ?_))
 refine Oc (lp aC) ?_
 obtain ⟨x_1,e1,h⟩:=aO h
 refine Oc (ak (cF e1) lh rfl rfl) (Oc (dF rfl) (Oc oa ?_))
 refine af.ai ⟨[(2,B (!x_1))],[]⟩ rfl (ab.ret ?_)
 obtain rfl:=Option.some.inj h
 refine Fin.ag ⟨[(2,_)],[]⟩ rfl (Fin.av [.one (.bool (!x_1))] (.inl rfl) rfl (.cons (.tmp rfl) .nil) ⟨rfl,rfl⟩)
def iP (F:Nat) (fn0:Nat) (b0:bC):Option Bool :=
 if fn0 = 41 then eJ F b0 else none
theorem qU {F:Nat} {fn0:Nat} {b0:bC} {r:Bool} (h:iP F fn0 b0 = some r):au Tryz.prog [] fn0 [] [.agg (aj b0)] (Is [] (.b (.one (.bool r)))):=by
 unfold iP at h
 split at h
 ·next e=>subst e; exact lC h
 ·next=>
  simp at h
theorem qV {F:Nat} {fn0:Nat} {b0:bC} {r:Bool} (h:iP F fn0 b0 = some r):bt Tryz.prog fn0:=by
 unfold iP at h
 split at h
 ·next e=>subst e; exact goes41
 ·next=>
  simp at h
def gr (F:Nat) (n0:cN bf):Option Bool :=
 some n0.c7
theorem lB {F:Nat} {n0:cN bf} {r:Bool} (h:gr F n0 = some r):au Tryz.prog [] 123 [] [.one (.tr ae n0)] (Is [] (.b (.one (.bool r)))):=by
 unfold gr at h
 refine au.intro 5 Tryz.func123 Tryz.ntmps123 rfl (by simp) fun E=>?_
 show ab _ E ⟨5,[],[],[]⟩ _ ⟨[(0,.b (.one (.tr ae n0)))],[]⟩ _
 refine ab.seq (ab.aa ?_)
 refine Oc oa (af.ai ⟨[(0,.b (.one (.tr ae n0)))],[]⟩ rfl (ab.seq (ab.aa ?_)))
 refine Oc om (Oc (fc la rfl) (Oc oa ?_))
 refine af.ai ⟨[(2,B n0.c7)],[]⟩ rfl (ab.ret ?_)
 obtain rfl:=Option.some.inj h
 refine Fin.ag ⟨[(2,_)],[]⟩ rfl (Fin.av [.one (.bool n0.c7)] (.inl rfl) rfl (.cons (.tmp rfl) .nil) ⟨rfl,rfl⟩)
def gP (F:Nat) (fn0:Nat) (n0:cN bf):Option Bool :=
 if fn0 = 123 then gr F n0 else none
theorem lY {F:Nat} {fn0:Nat} {n0:cN bf} {r:Bool} (h:gP F fn0 n0 = some r):au Tryz.prog [] fn0 [] [.one (.tr ae n0)] (Is [] (.b (.one (.bool r)))):=by
 unfold gP at h
 split at h
 ·next e=>subst e; exact lB h
 ·next=>
  simp at h
theorem lZ {F:Nat} {fn0:Nat} {n0:cN bf} {r:Bool} (h:gP F fn0 n0 = some r):bt Tryz.prog fn0:=by
 unfold gP at h
 split at h
 ·next e=>subst e; exact goes123
 ·next=>
  simp at h
def gL (F:Nat) (b0:bC) (n0:Int):Option (bC × Int) :=
 (bP F b0).bind fun x_1=>fj (((!x_1) || (decide (n0 < 0))) || (decide (2251799813685248 < n0))) fun x_2=>if x_2 = true then (some ((⟨A3.zero,A3.zero⟩:bC),1)) else (Option.bind (iter F (dn fun b_4 x_5=>if (decide (x_5 < 3)) = true then ((bg b_4.Lo.l x_5).bind fun x_7=>(bg b_4.Lo.l x_5).bind fun x_8=>(bg b_4.Hi.l x_5).bind fun x_9=>(bg b_4.Hi.l x_5).bind fun x_10=>some (.inl ((⟨b_4.Lo.set x_5 (IntKind.i64.wrap (x_7 - n0)),b_4.Hi.set x_5 (IntKind.i64.wrap (x_9 + n0))⟩:bC),IntKind.i64.wrap (x_5 + 1)))) else (some (.inr b_4))) (b0,0)) (fun b_3=>(bP F b_3).bind fun x_11=>if (!x_11) = true then (some ((⟨A3.zero,A3.zero⟩:bC),1)) else (some (b_3,0))))
theorem jA {F:Nat} {b0:bC} {n0:Int} {r:bC × Int} (h:gL F b0 n0 = some r):au Tryz.prog [] 11 [] [.agg (aj b0),.one (.i n0)] (Is [] (.dD [.agg (aj r.1),.one (.i r.2)])):=by
 unfold gL at h
 refine au.intro 44 Tryz.func11 Tryz.ntmps11 rfl (by simp) fun E=>?_
 show ab _ E ⟨44,[],[],[]⟩ _ ⟨[(0,.b (.agg (aj b0))),(1,I n0)],[]⟩ _
 refine ab.seq (ab.aa ?_)
 refine Oc (bR (k:=101) rfl rfl) (Oc (aZ (k:=102) fA rfl) (Oc oa ?_))
 refine af.ai ⟨[(1,I n0),(2,Pt 101 0),(4,Pt 102 0)],[(101,.box 25 (aj b0)),(102,.box 25 ((cS .i64) A3.zero ++ ((cS .i64) A3.zero)))]⟩ rfl (ab.seq (ab.seq (ab.aa ?_)))
 refine Oc (lp aC) ?_
 obtain ⟨x_1,e1,h⟩:=aO h
 refine Oc (ak (cF e1) lh rfl rfl) (Oc (dF rfl) (Oc om ?_))
 refine pr (!(!x_1)) [] (fun g2=>trivial) (fun g2=>om) (af.ag ⟨[(1,_),(2,_),(4,_),(10,B (!x_1)),(11,.opt (!(!x_1)) (.one (.i n0)))],[(101,_),(102,_)]⟩ rfl (pr (!(!x_1)) [11] (fun g3=>by exact ⟨g3,trivial⟩) (fun g3=>bu rfl rfl) (Oc (ck (fun e=>by first | (rw [e]; rfl) | (simp only at e; rw [e]; rfl)) rfl rfl rfl rfl) (Oc om ?_))))
 refine pr (!((!x_1) || (decide (n0 < 0)))) [] (fun g4=>trivial) (fun g4=>om) (pr (!((!x_1) || (decide (n0 < 0)))) [15] (fun g5=>by exact ⟨g5,trivial⟩) (fun g5=>gW rfl rfl) (af.nA h rfl (ck (fun e=>by first | (rw [e]; rfl) | (simp only at e; rw [e]; rfl)) rfl rfl rfl rfl) (fun x_2 h=>?_)))
 refine af.ai ⟨[(1,_),(2,_),(4,_),(17,B x_2)],[(101,_),(102,_)]⟩ rfl (ab.ite h rfl (fun _ h=>?_) (fun _ h=>?_))
 ·refine ab.seq (ab.aa ?_)
  refine Oc (cI ml rfl rfl) (Oc (aE aC rfl rfl rfl rfl (Nat.le_of_ble_eq_true rfl) rfl) (Oc oa ?_))
  refine af.ai ⟨[(4,_),(5,I 1)],[(102,_)]⟩ rfl (ab.ret (Fin.ao ?_))
  obtain rfl:=Option.some.inj h
  refine Fin.ag ⟨[(4,_),(5,_)],[(102,_)]⟩ rfl (Fin.av [.agg ((cS .i64) A3.zero ++ ((cS .i64) A3.zero)),.one (.i 1)] (.inl rfl) rfl (.cons (.agg aC rfl rfl rfl rfl) (.cons (.tmp rfl) .nil)) ⟨rfl,rfl⟩)
 ·refine ab.skip (Fin.ag ⟨[(1,_),(2,_),(4,_)],[(101,_),(102,_)]⟩ rfl (Fin.then ?_))
  obtain ⟨v6,h7,h⟩:=aO h
  refine ab.dY (v:=v6) (fun (b_3:bC)=>⟨[(2,Pt 101 0),(4,Pt 102 0)],[(101,.box 25 (aj b_3)),(102,.box 25 ((cS .i64) A3.zero ++ ((cS .i64) A3.zero)))]⟩) (fun z=>z) ?_ ?_
  ·refine ab.seq (ab.aa ?_)
   refine Oc om (af.ai ⟨[(1,_),(2,_),(4,_),(19,I 0)],[(101,_),(102,_)]⟩ rfl (ab.block (ab.c6 h7 (dn fun (b_4:bC) (x_5:Int)=>⟨[(1,I n0),(2,Pt 101 0),(4,Pt 102 0),(19,I x_5)],[(101,.box 25 (aj b_4)),(102,.box 25 ((cS .i64) A3.zero ++ ((cS .i64) A3.zero)))]⟩) [1,2,4,19] [101,102] rfl ?_)))
   rintro ⟨b_4,x_5⟩ o8 h9 hy10
   refine ab.seq (ab.aa ?_)
   refine Oc (bu rfl rfl) (af.ai ⟨[(1,_),(2,_),(4,_),(19,_),(20,B (decide (x_5 < 3)))],[(101,_),(102,_)]⟩ rfl (ab.seq (ab.ite h9 rfl (fun _ h9=>?_) (fun _ h9=>?_))))
   ·refine ab.skip (Fin.ag ⟨[(1,_),(2,_),(4,_),(19,_)],[(101,_),(102,_)]⟩ rfl (Fin.then (ab.seq (ab.block (ab.seq (ab.aa ?_))))))
    refine Oc om (Oc oa ?_)
    refine af.ai ⟨[(1,_),(2,_),(4,_),(6,I x_5),(19,_)],[(101,_),(102,_)]⟩ rfl (ab.seq (ab.aa ?_))
    refine Oc om (Oc (aw cL rfl rfl) ?_)
    obtain ⟨x_7,e11,h9⟩:=aO h9
    refine Oc (a7 bT (bd e11) (de e11) rfl rfl rfl) (Oc (aM aT rfl rfl (cU (post:=((cS .i64) b_4.Hi)) (k:=.i64) [] e11 rfl rfl rfl)) (Oc om (Oc (mb rfl rfl) (Oc (aw cL rfl rfl) ?_))))
    obtain ⟨x_8,e12,h9⟩:=aO h9
    refine Oc (a7 bT (bd e12) (de e12) rfl rfl rfl) (Oc (ee aT rfl rfl rfl (pG (post:=((cS .i64) b_4.Hi)) (k:=.i64) [] e12 rfl rfl rfl) (nw (post:=((cS .i64) b_4.Hi)) (k:=.i64) [] e12 rfl rfl (A3.qb b_4.Lo x_5 (IntKind.i64.wrap (x_7 - n0))) rfl rfl)) ?_)
    refine af.ai ⟨[(1,_),(2,_),(4,_),(6,_),(19,_)],[(101,.box 25 ((cS .i64) (b_4.Lo.set x_5 (IntKind.i64.wrap (x_7 - n0))) ++ ((cS .i64) b_4.Hi))),(102,_)]⟩ rfl (ab.aa (Oc om (Oc (aw cK rfl rfl) ?_)))
    obtain ⟨x_9,e13,h9⟩:=aO h9
    refine Oc (a7 bT (bd e13) (de e13) rfl rfl rfl) (Oc (aM aT rfl rfl (cU (post:=[]) (k:=.i64) ((cS .i64) (b_4.Lo.set x_5 (IntKind.i64.wrap (x_7 - n0)))) e13 rfl rfl rfl)) (Oc om (Oc (bJ rfl rfl) (Oc (aw cK rfl rfl) ?_))))
    obtain ⟨x_10,e14,h9⟩:=aO h9
    refine Oc (a7 bT (bd e14) (de e14) rfl rfl rfl) (Oc (ee aT rfl rfl rfl (pG (post:=[]) (k:=.i64) ((cS .i64) (b_4.Lo.set x_5 (IntKind.i64.wrap (x_7 - n0)))) e14 rfl rfl rfl) (nw (post:=[]) (k:=.i64) ((cS .i64) (b_4.Lo.set x_5 (IntKind.i64.wrap (x_7 - n0)))) e14 rfl rfl (A3.qb b_4.Hi x_5 (IntKind.i64.wrap (x_9 + n0))) rfl rfl)) ?_)
    refine af.nil (Fin.ay (Fin.ag ⟨[(1,_),(2,_),(4,_),(19,_)],[(101,.box 25 ((cS .i64) (b_4.Lo.set x_5 (IntKind.i64.wrap (x_7 - n0))) ++ ((cS .i64) (b_4.Hi.set x_5 (IntKind.i64.wrap (x_9 + n0)))))),(102,_)]⟩ rfl (Fin.then (ab.aa ?_))))
    refine Oc (bJ rfl rfl) (Oc om ?_)
    refine af.nil ?_
    exact Fin.ct [1,2,4,19] [101,102] ((⟨b_4.Lo.set x_5 (IntKind.i64.wrap (x_7 - n0)),b_4.Hi.set x_5 (IntKind.i64.wrap (x_9 + n0))⟩:bC),IntKind.i64.wrap (x_5 + 1)) (Option.some.inj h9) rfl
   ·refine ab.exit (Fin.aA ?_)
    obtain rfl:=hy10 _ (Option.some.inj h9).symm
    refine Fin.aA (Fin.aV ?_)
    exact Fin.join [2,4] [101,102] b_4 rfl rfl
  ·rintro b_3 hv
   subst v6
   refine ab.seq (ab.seq (ab.aa ?_))
   refine Oc (lp aC) ?_
   obtain ⟨x_11,e15,h⟩:=aO h
   refine Oc (ak (cF e15) lh rfl rfl) (Oc (dF rfl) ?_)
   refine af.ai ⟨[(2,_),(4,_),(41,B (!x_11))],[(101,_),(102,_)]⟩ rfl (ab.ite h rfl (fun _ h=>?_) (fun _ h=>?_))
   ·refine ab.seq (ab.aa ?_)
    refine Oc (cI ml rfl rfl) (Oc (aE aC rfl rfl rfl rfl (Nat.le_of_ble_eq_true rfl) rfl) (Oc oa ?_))
    refine af.ai ⟨[(4,_),(5,I 1)],[(102,_)]⟩ rfl (ab.ret (Fin.ao ?_))
    obtain rfl:=Option.some.inj h
    refine Fin.ag ⟨[(4,_),(5,_)],[(102,_)]⟩ rfl (Fin.av [.agg ((cS .i64) A3.zero ++ ((cS .i64) A3.zero)),.one (.i 1)] (.inl rfl) rfl (.cons (.agg aC rfl rfl rfl rfl) (.cons (.tmp rfl) .nil)) ⟨rfl,rfl⟩)
   ·refine ab.skip (Fin.ag ⟨[(2,_),(4,_)],[(101,_),(102,_)]⟩ rfl (Fin.then (ab.seq (ab.aa ?_))))
    refine Oc (lp aC) (Oc (aE aC rfl rfl rfl rfl (Nat.le_of_ble_eq_true rfl) rfl) (Oc oa ?_))
    refine af.ai ⟨[(4,_),(5,I 0)],[(102,.box 25 (aj b_3))]⟩ rfl (ab.ret ?_)
    obtain rfl:=Option.some.inj h
    refine Fin.ag ⟨[(4,_),(5,_)],[(102,_)]⟩ rfl (Fin.av [.agg (aj b_3),.one (.i 0)] (.inl rfl) rfl (.cons (.agg aC rfl rfl rfl rfl) (.cons (.tmp rfl) .nil)) ⟨rfl,rfl⟩)
def cE (F:Nat) (b0:bC):Option Bool :=
 Option.bind (iter F (fun i_1=>if (decide (i_1 < 3)) = true then ((bg b0.Lo.l i_1).bind fun x_2=>(bg b0.Hi.l i_1).bind fun x_3=>(bo (!(decide (x_3 < x_2))) (bg b0.Lo.l i_1)).bind fun x_4=>(bo (!((decide (x_3 < x_2)) || (decide (x_4 < (-1125899906842624))))) (bg b0.Hi.l i_1)).bind fun x_5=>if (((decide (x_3 < x_2)) || (decide (x_4 < (-1125899906842624)))) || (decide (1125899906842624 < x_5))) = true then (some (.inr (.inr false))) else (some (.inl (IntKind.i64.wrap (i_1 + 1))))) else (some (.inr (.inl ())))) 0) (bZ (fun _=>some true) (fun y=>some y))
theorem iH {F:Nat} {b0:bC} {r:Bool} (h:cE F b0 = some r):au Tryz.prog [] 13 [] [.agg (aj b0)] (Is [] (.b (.one (.bool r)))):=by
 unfold cE at h
 refine au.intro 31 Tryz.func13 Tryz.ntmps13 rfl (by simp) fun E=>?_
 show ab _ E ⟨31,[],[],[]⟩ _ ⟨[(0,.b (.agg (aj b0)))],[]⟩ _
 refine ab.seq (ab.aa ?_)
 refine Oc (bR (k:=101) rfl rfl) (Oc oa ?_)
 refine af.ai ⟨[(1,Pt 101 0)],[(101,.box 25 (aj b0))]⟩ rfl ?_
 obtain ⟨v1,h2,h⟩:=aO h
 refine ab.dY (v:=v1) (fun (_:Unit)=>⟨[],[]⟩) (fun z=>.inl z) ?_ ?_
 ·refine ab.seq (ab.aa ?_)
  refine Oc oa (af.ai ⟨[(1,_),(3,I 0)],[(101,_)]⟩ rfl (ab.block (ab.c6 h2 (fun (i_1:Int)=>⟨[(1,Pt 101 0),(3,I i_1)],[(101,.box 25 (aj b0))]⟩) [1,3] [101] rfl ?_)))
  rintro i_1 o3 h4 hy5
  refine ab.seq (ab.seq (ab.aa ?_))
  refine Oc om (Oc (bu rfl rfl) ?_)
  refine af.ai ⟨[(1,_),(3,_),(5,B (decide (i_1 < 3)))],[(101,_)]⟩ rfl (ab.ite h4 rfl (fun _ h4=>?_) (fun _ h4=>?_))
  ·refine ab.skip (Fin.ag ⟨[(1,_),(3,_)],[(101,_)]⟩ rfl (Fin.then (ab.seq (ab.block (ab.seq ?_)))))
   refine ab.ag ⟨[(1,_),(3,_)],[(101,_)]⟩ rfl ?_
   obtain ⟨x_2,e6,h4⟩:=aO h4
   obtain ⟨x_3,e7,h4⟩:=aO h4
   obtain ⟨x_4,e11,h4⟩:=aO h4
   obtain ⟨x_5,e17,h4⟩:=aO h4
   refine ab.cc mixed 23 [I i_1,Pt 101 0,.b (.ptr 101 (0 + (i_1:Int).toNat * 1)),I x_2,I i_1,Pt 101 3,.b (.ptr 101 (3 + (i_1:Int).toNat * 1)),I x_3,B (decide (x_3 < x_2)),B (decide (x_3 < x_2)),.opt (!(decide (x_3 < x_2))) (.one (.i i_1)),.opt (!(decide (x_3 < x_2))) (.ptr 101 0),.opt (!(decide (x_3 < x_2))) (.ptr 101 (0 + (i_1:Int).toNat * 1)),.opt (!(decide (x_3 < x_2))) (.one (.i x_4)),.opt (!(decide (x_3 < x_2))) (.one (.bool (decide (x_4 < (-1125899906842624))))),B ((decide (x_3 < x_2)) || (decide (x_4 < (-1125899906842624)))),B ((decide (x_3 < x_2)) || (decide (x_4 < (-1125899906842624)))),.opt (!((decide (x_3 < x_2)) || (decide (x_4 < (-1125899906842624))))) (.one (.i i_1)),.opt (!((decide (x_3 < x_2)) || (decide (x_4 < (-1125899906842624))))) (.ptr 101 3),.opt (!((decide (x_3 < x_2)) || (decide (x_4 < (-1125899906842624))))) (.ptr 101 (3 + (i_1:Int).toNat * 1)),.opt (!((decide (x_3 < x_2)) || (decide (x_4 < (-1125899906842624))))) (.one (.i x_5)),.opt (!((decide (x_3 < x_2)) || (decide (x_4 < (-1125899906842624))))) (.one (.bool (decide (1125899906842624 < x_5)))),B (((decide (x_3 < x_2)) || (decide (x_4 < (-1125899906842624)))) || (decide (1125899906842624 < x_5)))] [1,3,30] [101] (s':=⟨[(1,_),(3,_),(30,B (((decide (x_3 < x_2)) || (decide (x_4 < (-1125899906842624)))) || (decide (1125899906842624 < x_5))))],[(101,_)]⟩) rfl ⟨fun _=>.p om,fun _=>.p (aw cL rfl rfl),fun _=>.p (a7 bT (bd e6) (de e6) rfl rfl rfl),fun _=>.p (aM aT rfl rfl (cU (post:=((cS .i64) b0.Hi)) (k:=.i64) [] e6 rfl rfl rfl)),fun _=>.p om,fun _=>.p (aw cK rfl rfl),fun _=>.p (a7 bT (bd e7) (de e7) rfl rfl rfl),fun _=>.p (aM aT rfl rfl (cU (post:=[]) (k:=.i64) ((cS .i64) b0.Lo) e7 rfl rfl rfl)),fun _=>.p (gW rfl rfl),fun _=>.p om,fun _=>by exact .guard (!(decide (x_3 < x_2))) 1 [] (.plain rfl) (fk _) rfl rfl (fun g8=>trivial) (fun g8=>om),fun _=>by exact .guard (!(decide (x_3 < x_2))) 1 [] (.plain rfl) (fk _) rfl rfl (fun g9=>trivial) (fun g9=>aw cL rfl rfl),fun _=>by exact .guard (!(decide (x_3 < x_2))) 3 [18,19] (.plain rfl) (fk _) rfl rfl (fun g10=>⟨g10,g10,trivial⟩) (fun g10=>a7 bT (bd (gc e11 g10)) (de (gc e11 g10)) rfl rfl rfl),fun _=>by exact .guard (!(decide (x_3 < x_2))) 2 [20] (.plain rfl) (fk _) rfl rfl (fun g12=>⟨g12,trivial⟩) (fun g12=>aM aT rfl rfl (cU (post:=((cS .i64) b0.Hi)) (k:=.i64) [] (gc e11 g12) rfl rfl rfl)),fun _=>by exact .guard (!(decide (x_3 < x_2))) 2 [21] (.plain rfl) (fk _) rfl rfl (fun g13=>⟨g13,trivial⟩) (fun g13=>bu rfl rfl),fun _=>.p (ck (fun e=>by first | (rw [e]; rfl) | (simp only at e; rw [e]; rfl)) rfl rfl rfl rfl),fun _=>.p om,fun _=>by exact .guard (!((decide (x_3 < x_2)) || (decide (x_4 < (-1125899906842624))))) 1 [] (.plain rfl) (fk _) rfl rfl (fun g14=>trivial) (fun g14=>om),fun _=>by exact .guard (!((decide (x_3 < x_2)) || (decide (x_4 < (-1125899906842624))))) 1 [] (.plain rfl) (fk _) rfl rfl (fun g15=>trivial) (fun g15=>aw cK rfl rfl),fun _=>by exact .guard (!((decide (x_3 < x_2)) || (decide (x_4 < (-1125899906842624))))) 3 [25,26] (.plain rfl) (fk _) rfl rfl (fun g16=>⟨g16,g16,trivial⟩) (fun g16=>a7 bT (bd (gc e17 g16)) (de (gc e17 g16)) rfl rfl rfl),fun _=>by exact .guard (!((decide (x_3 < x_2)) || (decide (x_4 < (-1125899906842624))))) 2 [27] (.plain rfl) (fk _) rfl rfl (fun g18=>⟨g18,trivial⟩) (fun g18=>aM aT rfl rfl (cU (post:=[]) (k:=.i64) ((cS .i64) b0.Lo) (gc e17 g18) rfl rfl rfl)),fun _=>by exact .guard (!((decide (x_3 < x_2)) || (decide (x_4 < (-1125899906842624))))) 2 [28] (.plain rfl) (fk _) rfl rfl (fun g19=>⟨g19,trivial⟩) (fun g19=>gW rfl rfl),fun _=>.p (ck (fun e=>by first | (rw [e]; rfl) | (simp only at e; rw [e]; rfl)) rfl rfl rfl rfl),trivial⟩ rfl rfl ?_
   refine ab.ite h4 rfl (fun _ h4=>?_) (fun _ h4=>?_)
   ·refine ab.seq (ab.aa ?_)
    refine Oc oa (af.ai ⟨[(2,B false)],[]⟩ rfl (ab.ret (Fin.aK (Fin.ao ?_))))
    obtain rfl:=hy5 _ (Option.some.inj h4).symm
    refine Fin.ao (Fin.aK (Fin.ao ?_))
    obtain rfl:=Option.some.inj h
    refine Fin.ag ⟨[(2,_)],[]⟩ rfl (Fin.av [.one (.bool false)] (.inl rfl) rfl (.cons (.tmp rfl) .nil) ⟨rfl,rfl⟩)
   ·refine ab.skip (Fin.ay (Fin.ag ⟨[(1,_),(3,_)],[(101,_)]⟩ rfl (Fin.then (ab.aa ?_))))
    refine Oc om (Oc (bJ rfl rfl) (Oc oa ?_))
    refine af.nil ?_
    exact Fin.ct [1,3] [101] (IntKind.i64.wrap (i_1 + 1)) (Option.some.inj h4) rfl
  ·refine ab.exit (Fin.aA ?_)
   obtain rfl:=hy5 _ (Option.some.inj h4).symm
   refine Fin.aA (Fin.aV ?_)
   exact Fin.join [] [] () rfl rfl
 ·rintro _ hv
  subst v1
  refine ab.seq (ab.aa ?_)
  refine Oc oa (af.ai ⟨[(2,B true)],[]⟩ rfl (ab.ret ?_))
  obtain rfl:=Option.some.inj h
  refine Fin.ag ⟨[(2,_)],[]⟩ rfl (Fin.av [.one (.bool true)] (.inl rfl) rfl (.cons (.tmp rfl) .nil) ⟨rfl,rfl⟩)
def b4 (F:Nat) (a0:Int) (b0:Int) (c0:Int) (d0:Int) (e0:Int) (f0:Int):Option bC :=
 fj (⟨(⟨a0,b0,c0⟩:A3),(⟨d0,e0,f0⟩:A3)⟩:bC) fun x_1=>some x_1
theorem cx {F:Nat} {a0:Int} {b0:Int} {c0:Int} {d0:Int} {e0:Int} {f0:Int} {r:bC} (h:b4 F a0 b0 c0 d0 e0 f0 = some r):au Tryz.prog [] 39 [] [.one (.i a0),.one (.i b0),.one (.i c0),.one (.i d0),.one (.i e0),.one (.i f0)] (Is [] (.b (.agg (aj r)))):=by
 unfold b4 at h
 refine au.intro 22 Tryz.func39 Tryz.ntmps39 rfl (by simp) fun E=>?_
 show ab _ E ⟨22,[],[],[]⟩ _ ⟨[(0,I a0),(1,I b0),(2,I c0),(3,I d0),(4,I e0),(5,I f0)],[]⟩ _
 refine ab.seq (ab.aa ?_)
 refine Oc (aZ (k:=101) fA rfl) (af.ai ⟨[(0,I a0),(1,I b0),(2,I c0),(3,I d0),(4,I e0),(5,I f0),(12,Pt 101 0)],[(101,.box 25 ((cS .i64) A3.zero ++ ((cS .i64) A3.zero)))]⟩ rfl (ab.seq (ab.aa ?_)))
 refine Oc om (Oc om (Oc om (Oc (dQ oU rfl rfl) (Oc om (Oc om ?_)))))
 refine Oc om (af.ag ⟨[(12,_),(16,.b (.agg [.i a0,.i b0,.i c0])),(17,I d0),(18,I e0),(19,I f0)],[(101,_)]⟩ rfl (Oc (dQ oU rfl rfl) (af.lM aj h rfl (cI ml rfl rfl) (fun x_1 h=>?_))))
 refine Oc (aE aC rfl rfl rfl rfl (Nat.le_of_ble_eq_true rfl) rfl) (af.ai ⟨[(12,_)],[(101,.box 25 (aj x_1))]⟩ rfl (ab.ret ?_))
 obtain rfl:=Option.some.inj h
 refine Fin.ag ⟨[(12,_)],[(101,_)]⟩ rfl (Fin.av [.agg (aj x_1)] (.inl rfl) rfl (.cons (.agg aC rfl rfl rfl rfl) .nil) ⟨rfl,rfl⟩)
def cu (F:Nat) (a0:bC) (b0:bC):Option Bool :=
 Option.bind (iter F (fun x_1=>if (decide (x_1 < 3)) = true then ((bg a0.Hi.l x_1).bind fun x_2=>(bg b0.Lo.l x_1).bind fun x_3=>(bo (!(decide (x_2 < x_3))) (bg b0.Hi.l x_1)).bind fun x_4=>(bo (!(decide (x_2 < x_3))) (bg a0.Lo.l x_1)).bind fun x_5=>if ((decide (x_2 < x_3)) || (decide (x_4 < x_5))) = true then (some (.inr (.inr false))) else (some (.inl (IntKind.i64.wrap (x_1 + 1))))) else (some (.inr (.inl ())))) 0) (bZ (fun _=>some true) (fun y=>some y))
theorem dd {F:Nat} {a0:bC} {b0:bC} {r:Bool} (h:cu F a0 b0 = some r):au Tryz.prog [] 16 [] [.agg (aj a0),.agg (aj b0)] (Is [] (.b (.one (.bool r)))):=by
 unfold cu at h
 refine au.intro 30 Tryz.func16 Tryz.ntmps16 rfl (by simp) fun E=>?_
 show ab _ E ⟨30,[],[],[]⟩ _ ⟨[(0,.b (.agg (aj a0))),(1,.b (.agg (aj b0)))],[]⟩ _
 refine ab.seq (ab.aa ?_)
 refine Oc (bR (k:=101) rfl rfl) (Oc (bR (k:=102) rfl rfl) (Oc oa ?_))
 refine af.ai ⟨[(2,Pt 101 0),(3,Pt 102 0)],[(101,.box 25 (aj a0)),(102,.box 25 (aj b0))]⟩ rfl ?_
 obtain ⟨v1,h2,h⟩:=aO h
 refine ab.dY (v:=v1) (fun (_:Unit)=>⟨[],[]⟩) (fun z=>.inl z) ?_ ?_
 ·refine ab.seq (ab.aa ?_)
  refine Oc om (af.ai ⟨[(2,_),(3,_),(6,I 0)],[(101,_),(102,_)]⟩ rfl (ab.block (ab.c6 h2 (fun (x_1:Int)=>⟨[(2,Pt 101 0),(3,Pt 102 0),(6,I x_1)],[(101,.box 25 (aj a0)),(102,.box 25 (aj b0))]⟩) [2,3,6] [101,102] rfl ?_)))
  rintro x_1 o3 h4 hy5
  refine ab.seq (ab.aa ?_)
  refine Oc (bu rfl rfl) (af.ai ⟨[(2,_),(3,_),(6,_),(7,B (decide (x_1 < 3)))],[(101,_),(102,_)]⟩ rfl (ab.seq (ab.ite h4 rfl (fun _ h4=>?_) (fun _ h4=>?_))))
  ·refine ab.skip (Fin.ag ⟨[(2,_),(3,_),(6,_)],[(101,_),(102,_)]⟩ rfl (Fin.then (ab.seq (ab.block (ab.seq (ab.aa ?_))))))
   refine Oc om (Oc oa ?_)
   refine af.ai ⟨[(2,_),(3,_),(5,I x_1),(6,_)],[(101,_),(102,_)]⟩ rfl (ab.seq ?_)
   obtain ⟨x_2,e6,h4⟩:=aO h4
   obtain ⟨x_3,e7,h4⟩:=aO h4
   obtain ⟨x_4,e11,h4⟩:=aO h4
   obtain ⟨x_5,e16,h4⟩:=aO h4
   refine ab.cc mixed 20 [I x_1,Pt 101 3,.b (.ptr 101 (3 + (x_1:Int).toNat * 1)),I x_2,I x_1,Pt 102 0,.b (.ptr 102 (0 + (x_1:Int).toNat * 1)),I x_3,B (decide (x_2 < x_3)),B (decide (x_2 < x_3)),.opt (!(decide (x_2 < x_3))) (.one (.i x_1)),.opt (!(decide (x_2 < x_3))) (.ptr 102 3),.opt (!(decide (x_2 < x_3))) (.ptr 102 (3 + (x_1:Int).toNat * 1)),.opt (!(decide (x_2 < x_3))) (.one (.i x_4)),.opt (!(decide (x_2 < x_3))) (.one (.i x_1)),.opt (!(decide (x_2 < x_3))) (.ptr 101 0),.opt (!(decide (x_2 < x_3))) (.ptr 101 (0 + (x_1:Int).toNat * 1)),.opt (!(decide (x_2 < x_3))) (.one (.i x_5)),.opt (!(decide (x_2 < x_3))) (.one (.bool (decide (x_4 < x_5)))),B ((decide (x_2 < x_3)) || (decide (x_4 < x_5)))] [2,3,6,28] [101,102] (s':=⟨[(2,_),(3,_),(6,_),(28,B ((decide (x_2 < x_3)) || (decide (x_4 < x_5))))],[(101,_),(102,_)]⟩) rfl ⟨fun _=>.p om,fun _=>.p (aw cK rfl rfl),fun _=>.p (a7 bT (bd e6) (de e6) rfl rfl rfl),fun _=>.p (aM aT rfl rfl (cU (post:=[]) (k:=.i64) ((cS .i64) a0.Lo) e6 rfl rfl rfl)),fun _=>.p om,fun _=>.p (aw cL rfl rfl),fun _=>.p (a7 bT (bd e7) (de e7) rfl rfl rfl),fun _=>.p (aM aT rfl rfl (cU (post:=((cS .i64) b0.Hi)) (k:=.i64) [] e7 rfl rfl rfl)),fun _=>.p (bu rfl rfl),fun _=>.p om,fun _=>by exact .guard (!(decide (x_2 < x_3))) 1 [] (.plain rfl) (fk _) rfl rfl (fun g8=>trivial) (fun g8=>om),fun _=>by exact .guard (!(decide (x_2 < x_3))) 1 [] (.plain rfl) (fk _) rfl rfl (fun g9=>trivial) (fun g9=>aw cK rfl rfl),fun _=>by exact .guard (!(decide (x_2 < x_3))) 3 [19,20] (.plain rfl) (fk _) rfl rfl (fun g10=>⟨g10,g10,trivial⟩) (fun g10=>a7 bT (bd (gc e11 g10)) (de (gc e11 g10)) rfl rfl rfl),fun _=>by exact .guard (!(decide (x_2 < x_3))) 2 [21] (.plain rfl) (fk _) rfl rfl (fun g12=>⟨g12,trivial⟩) (fun g12=>aM aT rfl rfl (cU (post:=[]) (k:=.i64) ((cS .i64) b0.Lo) (gc e11 g12) rfl rfl rfl)),fun _=>by exact .guard (!(decide (x_2 < x_3))) 1 [] (.plain rfl) (fk _) rfl rfl (fun g13=>trivial) (fun g13=>om),fun _=>by exact .guard (!(decide (x_2 < x_3))) 1 [] (.plain rfl) (fk _) rfl rfl (fun g14=>trivial) (fun g14=>aw cL rfl rfl),fun _=>by exact .guard (!(decide (x_2 < x_3))) 3 [23,24] (.plain rfl) (fk _) rfl rfl (fun g15=>⟨g15,g15,trivial⟩) (fun g15=>a7 bT (bd (gc e16 g15)) (de (gc e16 g15)) rfl rfl rfl),fun _=>by exact .guard (!(decide (x_2 < x_3))) 2 [25] (.plain rfl) (fk _) rfl rfl (fun g17=>⟨g17,trivial⟩) (fun g17=>aM aT rfl rfl (cU (post:=((cS .i64) a0.Hi)) (k:=.i64) [] (gc e16 g17) rfl rfl rfl)),fun _=>by exact .guard (!(decide (x_2 < x_3))) 3 [22,26] (.plain rfl) (fk _) rfl rfl (fun g18=>⟨g18,g18,trivial⟩) (fun g18=>bu rfl rfl),fun _=>.p (ck (fun e=>by first | (rw [e]; rfl) | (simp only at e; rw [e]; rfl)) rfl rfl rfl rfl),trivial⟩ rfl rfl ?_
   refine ab.ite h4 rfl (fun _ h4=>?_) (fun _ h4=>?_)
   ·refine ab.seq (ab.aa ?_)
    refine Oc oa (af.ai ⟨[(4,B false)],[]⟩ rfl (ab.ret (Fin.aK (Fin.ao ?_))))
    obtain rfl:=hy5 _ (Option.some.inj h4).symm
    refine Fin.ao (Fin.aK (Fin.ao ?_))
    obtain rfl:=Option.some.inj h
    refine Fin.ag ⟨[(4,_)],[]⟩ rfl (Fin.av [.one (.bool false)] (.inl rfl) rfl (.cons (.tmp rfl) .nil) ⟨rfl,rfl⟩)
   ·refine ab.skip (Fin.ay (Fin.ag ⟨[(2,_),(3,_),(6,_)],[(101,_),(102,_)]⟩ rfl (Fin.then (ab.aa ?_))))
    refine Oc (bJ rfl rfl) (Oc om ?_)
    refine af.nil ?_
    exact Fin.ct [2,3,6] [101,102] (IntKind.i64.wrap (x_1 + 1)) (Option.some.inj h4) rfl
  ·refine ab.exit (Fin.aA ?_)
   obtain rfl:=hy5 _ (Option.some.inj h4).symm
   refine Fin.aA (Fin.aV ?_)
   exact Fin.join [] [] () rfl rfl
 ·rintro _ hv
  subst v1
  refine ab.seq (ab.aa ?_)
  refine Oc oa (af.ai ⟨[(4,B true)],[]⟩ rfl (ab.ret ?_))
  obtain rfl:=Option.some.inj h
  refine Fin.ag ⟨[(4,_)],[]⟩ rfl (Fin.av [.one (.bool true)] (.inl rfl) rfl (.cons (.tmp rfl) .nil) ⟨rfl,rfl⟩)
def cm (F:Nat) (n0:cN bf) (v0c:bC):Option Bool :=
 Option.bind (iI n0) (fun nd_1=>(cu F nd_1.1.cover v0c).bind fun x_2=>some x_2)
theorem jJ {F:Nat} {n0:cN bf} {v0c:bC} {r:Bool} (h:cm F n0 v0c = some r):au Tryz.prog [] 74 [] [.one (.tr ae n0),.aN (aj v0c)] (Is [] (.b (.one (.bool r)))):=by
 unfold cm at h
 refine au.intro 10 Tryz.func74 Tryz.ntmps74 rfl (by simp) fun E=>?_
 show ab _ E ⟨10,[],[],[]⟩ _ ⟨[(0,.b (.one (.tr ae n0))),(1,.b (.aN (aj v0c)))],[]⟩ _
 refine ab.seq (ab.aa ?_)
 refine Oc oa (af.ai ⟨[(0,.b (.one (.tr ae n0))),(1,.b (.aN (aj v0c)))],[]⟩ rfl (ab.seq ?_))
 obtain ⟨nd_1,e1,h⟩:=aO h
 obtain ⟨x_2,e2,h⟩:=aO h
 refine ab.cc mixed 7 [.b (.one (.tr ae n0)),.b (.aN (ar nd_1.1.x ++ (.int .u64 nd_1.1.priority :: (aj nd_1.1.cover ++ ([.tr ae nd_1.2.1,.tr ae nd_1.2.2]))))),.b (.aN (aj nd_1.1.cover ++ ([.tr ae nd_1.2.1,.tr ae nd_1.2.2]))),.b (.agg (aj nd_1.1.cover)),.b (.agg (aj v0c)),B x_2,B x_2] [3] [] (s':=⟨[(3,B x_2)],[]⟩) rfl ⟨fun _=>.p om,fun _=>.p (aG e1 rfl rfl),fun _=>by exact .p (aF jj rfl rfl),fun _=>.p (bV aC rfl rfl rfl),fun _=>.p (bV aC rfl rfl rfl),fun _=>.p (ak (dd e2) mh rfl rfl),fun _=>.p oa,trivial⟩ rfl rfl (ab.ret ?_)
 obtain rfl:=Option.some.inj h
 refine Fin.ag ⟨[(3,_)],[]⟩ rfl (Fin.av [.one (.bool x_2)] (.inl rfl) rfl (.cons (.tmp rfl) .nil) ⟨rfl,rfl⟩)
def kj (F:Nat) (a00:cN bf):Option Bool :=
 some true
theorem l9 {F:Nat} {a00:cN bf} {r:Bool} (h:kj F a00 = some r):au Tryz.prog [] 58 [] [.one (.tr ae a00)] (Is [] (.b (.one (.bool r)))):=by
 unfold kj at h
 refine au.intro 3 Tryz.func58 Tryz.ntmps58 rfl (by simp) fun E=>?_
 show ab _ E ⟨3,[],[],[]⟩ _ ⟨[(0,.b (.one (.tr ae a00)))],[]⟩ _
 refine ab.seq (ab.aa ?_)
 refine Oc oa (af.ai ⟨[],[]⟩ rfl (ab.seq (ab.aa ?_)))
 refine Oc oa (af.ai ⟨[(2,B true)],[]⟩ rfl (ab.ret ?_))
 obtain rfl:=Option.some.inj h
 refine Fin.ag ⟨[(2,_)],[]⟩ rfl (Fin.av [.one (.bool true)] (.inl rfl) rfl (.cons (.tmp rfl) .nil) ⟨rfl,rfl⟩)
section
variable {P:Program} {TB:aU} {m:Nat} {s:St} {ops:Array Oper} {l:List Oper} {Q:bG} {o:Oper}
theorem kI {E:Env TB} {d:Nat} (K:Bool → PH → World → Prop) (hK:∀ b h w,K b h w → jx h w ∧ cB TB h w) (hown:s.own = []) (hdm:d < m)
    (hop:∀ a w h ρ,WR E ⟨m,[],[],[]⟩ [] h ρ w → aQ h ρ s.slots a.tmps → ∀ (K':Act → World → Prop),(∀ b h' w',h.le h' → K b h' w' → K' (a.put (some d) (.bool b)) w') → o.wpIn Fence.wide 0 P a w K' Q)
    (hnext:∀ b h' ρ w' (tb:cB TB h' w'),K b h' w' → aY P (⟨w',h',ρ,tb⟩:Env TB) ⟨m,[],[],[]⟩ Fence.wide ops l ⟨(d,B b) :: del d s.slots,[]⟩ Q) :
    ∀ a w,R E ⟨m,[],[],[]⟩ s a w → o.wpIn Fence.wide 0 P a w (lF P Fence.wide ops Q l) Q:=by
  rintro a w ⟨hd,hn,h,ρ,hw,hs⟩
  rw [hown] at hw
  refine hop a w h ρ hw hs _ fun b h' w' hle hk=>?_
  obtain ⟨hag,htb⟩:=hK b h' w' hk
  refine hnext b h' ρ w' htb hk _ w' (R.fresh htb hag hd (by simpa [Act.put] using hn) ?_)
  exact aQ.set (hs.mono hle) hn hdm rfl
theorem aY.stepU {E:Env TB} {n:Sh} {F:Fence} (hg:o.guard = none) (h:∀ a w,R E n s a w → o.wpIn F 0 P a w (lF P F ops Q l) Q):aY P E n F ops (o :: l) s Q:=by
  intro a w hr
  unfold lF
  have:Region.wanted o (yielded ops a.tmps) = true:=by simp [Region.wanted,hg]
  simp only [this,if_true]
  exact h a w hr
end
theorem um:cO Tryz.prog 98:=⟨⟨_,Tryz.underlying98,rfl⟩,⟨Tryz.t98,by kernel_rfl,by kernel_rfl⟩⟩
theorem goes58':bt Tryz.prog 58:=⟨Tryz.call58⟩
theorem goes74':bt Tryz.prog 74:=⟨Tryz.call74⟩
theorem pR:bt Tryz.prog 78:=⟨Tryz.call78⟩
def sg (c:CP) (p:cN bf → Option Bool):Prop :=
  ∀ {E:Env []} {m:Nat} {sl:List (Nat × SV)} {dst:Option Nat} {ats:Array TypeId} {ty:TypeId} {pos:String} {after:Array Edge} {g:Option (Nat × Bool)} {x y:Operand} {t:cN bf} {z:Bool},
    p t = some z → (⟨sl,[]⟩:St).ev x = some (.b (.one c)) → (⟨sl,[]⟩:St).ev y = some (.b (.one (CP.tr ae t))) → bA Tryz.prog E ⟨m,[],[],[]⟩ ⟨dst,.call ⟨.value x,#[y],ats⟩,ty,pos,after,g⟩ ⟨sl,[]⟩ ((⟨sl,[]⟩:St).put ⟨m,[],[],[]⟩ dst (B z))
theorem l8:sg (.raw (.func (.func 58) #[] #[])) (fun _=>some true):=by
  intro E n sl dst ats ty pos after g x y t z hz hx hy
  exact iT (args:=[.one (CP.tr ae t)]) (l9 (F:=0) hz) goes58' hx (by simp [fq,evB,hy]) rfl
theorem qR {F:Nat} {b:bC}:sg (.eC 74 [CP.rp (aj b)]) (fun t=>cm F t b):=by
  intro E n sl dst ats ty pos after g x y t z hz hx hy
  have h:=nN (E:=E) (n:=⟨n,[],[],[]⟩) (s:=⟨sl,[]⟩) (dst:=dst) (ty:=ty) (pos:=pos) (after:=after) (g:=g) (ats:=ats) (x:=x) (xs:=#[y]) (zs:=[.one (CP.tr ae t)]) (pss:=[aj b]) (own_a:=[]) (own':=[]) (jJ hz) goes74' hx (by simp [fq,evB,hy]) rfl trivial rfl rfl rfl
  have e:(⟨sl,[]⟩:St).aft ⟨n,[],[],[]⟩ [] [] dst (B z) = (⟨sl,[]⟩:St).put ⟨n,[],[],[]⟩ dst (B z):=by
    rfl
  rw [← e]
  exact h
theorem nU {t:cN bf} {c:CP}:au Tryz.prog [] 57 [] [.one (CP.tr ae t),.one c] (Is [] (.b (.one (.eC 77 [CP.rp [CP.tr ae t],CP.rp [c]])))):=by
  refine au.intro 6 Tryz.func57 Tryz.ntmps57 rfl (by simp) fun E=>?_
  show ab _ E ⟨6,[],[],[]⟩ _ ⟨[(0,.b (.one (CP.tr ae t))),(1,.b (.one c))],[]⟩ _
  refine ab.seq ?_
  refine ab.aa ?_
  refine af.cons rfl (pM rfl) ?_
  refine af.cons rfl (pM rfl) ?_
  refine af.cons rfl (br rfl) ?_
  refine af.nilK [2,3] [] (s':=⟨[(2,.b (.aN [CP.tr ae t])),(3,.b (.aN [c]))],[]⟩) rfl ?_
  refine ab.seq ?_
  refine ab.aa ?_
  refine af.cons rfl (gI rfl) ?_
  refine af.cons rfl (br rfl) ?_
  refine af.nilK [4] [] (s':=⟨[(4,.b (.one (.eC 77 [CP.rp [CP.tr ae t],CP.rp [c]])))],[]⟩) rfl ?_
  refine ab.ret ?_
  exact Fin.av [.one (.eC 77 [CP.rp [CP.tr ae t],CP.rp [c]])] (.inl rfl) rfl (.cons (.tmp rfl) .nil) ⟨rfl,rfl⟩
section
variable {J:Nat → PH → World → Prop} {Jx:PH → World → Prop} {L:Nat} {c:CP} {p:cN bf → Option Bool} {all:List entry}
def Kv (J:Nat → PH → World → Prop) (Jx:PH → World → Prop) (h0:PH) (k:Nat) (b:Bool) (h:PH) (w:World):Prop:=h0.le h ∧ (if b = true then J k h w else Jx h w)
theorem Kv.ok (hJ:∀ k,kS [] (J k)) (hJx:kS [] Jx) {h0:PH} {k:Nat} {b:Bool} {h:PH} {w:World} (hk:Kv J Jx h0 k b h w):jx h w ∧ cB [] h w:=by
  cases b with
  | true=>exact (hJ k).1 h w hk.2
  | false=>exact hJx.1 h w (by simpa [Kv] using hk.2)
theorem Kv.go (hJ:∀ k,kS [] (J k)) (hJx:kS [] Jx) {h0:PH} {k:Nat} {b:Bool} {h h':PH} {w w':World} {tb:cB [] h w} {ρ ρ':RM} {own':List (Nat × OC)} {m:Nat} (hk:Kv J Jx h0 k b h w) (hw:WR (⟨w,h,ρ,tb⟩:Env []) ⟨m,[],[],[]⟩ own' h' ρ' w'):Kv J Jx h0 k b h' w':=by
  refine ⟨PH.le_trans hk.1 hw.le,?_⟩
  cases b with
  | true=>exact (hJ k).2 h w hk.2 tb ρ h' ρ' w' own' m hw
  | false=>exact hJx.2 h w (by simpa [Kv] using hk.2) tb ρ h' ρ' w' own' m hw
def VisEnd (J:Nat → PH → World → Prop) (Jx:PH → World → Prop) (h0:PH) (k:Nat) (e:Ending) (w:World):Prop:=∃ b h,e = .returned (.bool b) ∧ Kv J Jx h0 k b h w
theorem qJ (hJ:∀ k,kS [] (J k)) (hJx:kS [] Jx) (hp:sg c p)
    (hround:∀ k x h W vals,all[k]? = some x → J k h W → aR (fun (x:BV) v=>∀ ρ,x.rel h ρ v) (sN x) vals →
      YieldAt Fence.wide 0 Tryz.prog L vals.toArray W fun e W'=>(e = .returned (.bool true) ∧ ∃ h',h.le h' ∧ J (k + 1) h' W') ∨ (e = .returned (.bool false) ∧ ∃ h',h.le h' ∧ Jx h' W')) :
    ∀ (t:cN bf) (ys:List entry) (k:Nat),ny p t = some ys → (∀ i x,ys[i]? = some x → all[k + i]? = some x) → ∀ h W v1 v2,J k h W → (CP.tr ae t).rel h v1 → c.rel h v2 →
      Calls Tryz.prog 78 #[v1,v2,.func (.yield L) #[] #[]] W (VisEnd J Jx h (k + ys.length)):=by
  intro t
  induction t with
  | leaf=>
    intro ys k hv hall h W v1 v2 hj h1 h2
    cases hv
    refine callsIn_wide.1 (callsIn_of_wp (n:=0) (F:=Fence.wide) Tryz.func78 rfl trivial ?_)
    obtain ⟨hs0,hn0⟩:=lA (m:=39) (h:=h) (ρ:=fun _=>.bool false) (args:=[.one (CP.tr ae .leaf),.one c,.one (.raw (.func (.yield L) #[] #[]))]) (vals:=[v1,v2,.func (.yield L) #[] #[]])
      (.cons h1 (.cons h2 (.cons ⟨rfl,rfl⟩ .nil))) (Nat.le_of_ble_eq_true rfl)
    obtain ⟨hag0,htb0⟩:=(hJ k).1 h W hj
    have hk0:Kv J Jx h k true h W:=⟨PH.le_refl h,by simpa using hj⟩
    generalize hQo:bodyPost Tryz.prog _ _ = Qo
    have hlo:¬ LetsOut Qo:=by
      rw [← hQo]
      rintro ⟨a,w,b,h',he,_⟩
      cases he
    have hend:∀ (b:Bool) (w0:World) (h0:PH) (ρ0:RM) (tb:cB [] h0 w0),Kv J Jx h (k + 0) b h0 w0 → Fin (⟨w0,h0,ρ0,tb⟩:Env []) ⟨39,[],[],[]⟩ .ret ⟨[(6,B b)],[]⟩ Qo:=by
      rintro b w0 h0 ρ0 tb hK a w ⟨hd,hn,h',ρ',hw,hs⟩
      rw [← hQo]
      obtain ⟨v,hv,hrel⟩:=gk (P:=Tryz.prog) (fn:=Tryz.f78) (s:=⟨[(6,B b)],[]⟩) (zs:=[.one (.bool b)]) (.cons (.tmp rfl) .nil) hw hs
      have hv':v = .bool b:=hrel
      exact ⟨hd,v,hv w (cf.refl w),b,h',by rw [hv'],hK.go hJ hJx hw⟩
    refine (show aX Tryz.prog (⟨W,h,fun _=>.bool false,htb0⟩:Env []) ⟨39,[],[],[]⟩ Fence.wide _ ⟨_,[]⟩ Qo from ?_) hlo _ _ (R.fresh htb0 hag0 rfl hn0 hs0)
    clear hs0 hn0
    refine aX.seq ?_
    refine aX.aa (.inl rfl) ?_
    refine af.cons rfl (br rfl) ?_
    refine af.nil ?_
    refine Fin.keep [0,1,2] [] (s':=⟨[(0,.b (.one (CP.tr ae .leaf))),(1,.b (.one c)),(2,.b (.one (.raw (.func (.yield L) #[] #[]))))],[]⟩) rfl ?_
    refine Fin.gu ?_ hlo
    refine aX.seq ?_
    refine aX.seq ?_
    refine aX.nn (.inl rfl) ?_
    refine aY.cons (.inl rfl) rfl (aI rfl) ?_
    refine aY.cons (.inl rfl) rfl (fc la rfl) ?_
    refine aY.cons (.inl rfl) rfl (aI rfl) ?_
    refine aY.dW (.plain (t:=9) rfl) rfl rfl rfl (.one .any) ?_
    refine aY.dW (.plain (t:=9) rfl) rfl rfl rfl (.one .any) ?_
    refine aY.dW (.plain (t:=9) rfl) rfl rfl rfl (.one .any) ?_
    refine aY.dW (.plain (t:=9) rfl) rfl rfl rfl (.one (.bool true)) ?_
    refine aY.cons (.inl rfl) rfl (ck (fun e=>Bool.noConfusion e) rfl rfl rfl) ?_
    refine aY.nil ?_
    refine Fin.keep [14] [] (s':=⟨[(14,B true)],[]⟩) rfl ?_
    refine Fin.gu ?_ (gZ hlo)
    refine aX.cond rfl (fun he=>?_) (fun he=>absurd he (by decide))
    refine aX.seq ?_
    refine aX.aa (.inl rfl) ?_
    refine af.cons rfl (br rfl) ?_
    refine af.nil ?_
    refine Fin.keep [6] [] (s':=⟨[(6,B true)],[]⟩) rfl ?_
    refine Fin.gu ?_ (gZ hlo)
    refine aX.ret ?_
    exact Fin.ao (hend true W h _ htb0 (by simpa using hk0))
  | node a l r ihl ihr=>
    intro ys k hv hall h W v1 v2 hj h1 h2
    refine callsIn_wide.1 (callsIn_of_wp (n:=0) (F:=Fence.wide) Tryz.func78 rfl trivial ?_)
    obtain ⟨hs0,hn0⟩:=lA (m:=39) (h:=h) (ρ:=fun _=>.bool false) (args:=[.one (CP.tr ae (.node a l r)),.one c,.one (.raw (.func (.yield L) #[] #[]))]) (vals:=[v1,v2,.func (.yield L) #[] #[]])
      (.cons h1 (.cons h2 (.cons ⟨rfl,rfl⟩ .nil))) (Nat.le_of_ble_eq_true rfl)
    obtain ⟨hag0,htb0⟩:=(hJ k).1 h W hj
    have hk0:Kv J Jx h k true h W:=⟨PH.le_refl h,by simpa using hj⟩
    generalize hQo:bodyPost Tryz.prog _ _ = Qo
    have hlo:¬ LetsOut Qo:=by
      rw [← hQo]
      rintro ⟨a,w,b,h',he,_⟩
      cases he
    have hend:∀ (b:Bool) (w0:World) (h0:PH) (ρ0:RM) (tb:cB [] h0 w0),Kv J Jx h (k + ys.length) b h0 w0 → Fin (⟨w0,h0,ρ0,tb⟩:Env []) ⟨39,[],[],[]⟩ .ret ⟨[(6,B b)],[]⟩ Qo:=by
      rintro b w0 h0 ρ0 tb hK a w ⟨hd,hn,h',ρ',hw,hs⟩
      rw [← hQo]
      obtain ⟨v,hv,hrel⟩:=gk (P:=Tryz.prog) (fn:=Tryz.f78) (s:=⟨[(6,B b)],[]⟩) (zs:=[.one (.bool b)]) (.cons (.tmp rfl) .nil) hw hs
      have hv':v = .bool b:=hrel
      exact ⟨hd,v,hv w (cf.refl w),b,h',by rw [hv'],hK.go hJ hJx hw⟩
    refine (show aX Tryz.prog (⟨W,h,fun _=>.bool false,htb0⟩:Env []) ⟨39,[],[],[]⟩ Fence.wide _ ⟨_,[]⟩ Qo from ?_) hlo _ _ (R.fresh htb0 hag0 rfl hn0 hs0)
    clear hs0 hn0
    refine aX.seq ?_
    refine aX.aa (.inl rfl) ?_
    refine af.cons rfl (br rfl) ?_
    refine af.nil ?_
    refine Fin.keep [0,1,2] [] (s':=⟨[(0,.b (.one (CP.tr ae (.node a l r)))),(1,.b (.one c)),(2,.b (.one (.raw (.func (.yield L) #[] #[]))))],[]⟩) rfl ?_
    refine Fin.gu ?_ hlo
    refine aX.seq ?_
    refine aX.seq ?_
    refine aX.nn (.inl rfl) ?_
    refine aY.cons (.inl rfl) rfl (aI rfl) ?_
    refine aY.cons (.inl rfl) rfl (fc la rfl) ?_
    refine aY.cons (.inl rfl) rfl (aI rfl) ?_
    obtain ⟨cb,hcb,hv⟩:=Option.bind_eq_some_iff.1 hv
    refine aY.gT (.inl rfl) (.plain (t:=9) rfl) rfl rfl rfl (aI rfl) ?_
    refine aY.gT (.inl rfl) (.plain (t:=9) rfl) rfl rfl rfl (aI rfl) ?_
    refine aY.gT (.inl rfl) (.plain (t:=9) rfl) rfl rfl rfl (hp hcb rfl rfl) ?_
    refine aY.gT (.inl rfl) (.plain (t:=9) rfl) rfl rfl rfl (dF rfl) ?_
    refine aY.opt 13 rfl ?_
    refine aY.cons (.inl rfl) rfl (ck (fun _=>rfl) rfl rfl rfl) ?_
    refine aY.nil ?_
    refine Fin.keep [0,1,2,14] [] (s':=⟨[(0,.b (.one (CP.tr ae (.node a l r)))),(1,.b (.one c)),(2,.b (.one (.raw (.func (.yield L) #[] #[])))),(14,B (false || !cb))],[]⟩) rfl ?_
    refine Fin.gu ?_ (gZ hlo)
    refine aX.cond rfl (fun he=>?_) (fun he=>?_)
    · have hcb':cb = false:=by simpa using he
      subst hcb'
      have hys:ys = []:=by simpa using hv.symm
      subst hys
      refine aX.seq ?_
      refine aX.aa (.inl rfl) ?_
      refine af.cons rfl (br rfl) ?_
      refine af.nil ?_
      refine Fin.keep [6] [] (s':=⟨[(6,B true)],[]⟩) rfl ?_
      refine Fin.gu ?_ (gZ hlo)
      refine aX.ret ?_
      exact Fin.ao (hend true W h _ htb0 (by simpa using hk0))
    have hcb':cb = true:=by simpa using he
    subst hcb'
    rw [if_pos rfl] at hv
    obtain ⟨xs,hxs,hv⟩:=Option.bind_eq_some_iff.1 hv
    obtain ⟨zs,hzs,hv⟩:=Option.bind_eq_some_iff.1 hv
    have hys:ys = xs ++ a.x :: zs:=(Option.some.inj hv).symm
    subst hys
    have hlen:k + (xs ++ a.x :: zs).length = k + xs.length + 1 + zs.length:=by simp; omega
    refine aX.skip ?_
    refine Fin.keep [0,1,2] [] (s':=⟨[(0,.b (.one (CP.tr ae (.node a l r)))),(1,.b (.one c)),(2,.b (.one (.raw (.func (.yield L) #[] #[]))))],[]⟩) rfl ?_
    refine Fin.gu ?_ hlo
    refine aX.seq ?_
    refine aX.nn (.inl rfl) ?_
    refine aY.cons (.inl rfl) rfl (aI rfl) ?_
    refine aY.cons (.inl rfl) rfl (aG (z:=(a,l,r)) (qs:=ae a ++ [CP.tr ae l,CP.tr ae r]) rfl rfl rfl) ?_
    refine aY.cons (.inl rfl) rfl (aF (qs:=[CP.tr ae l,CP.tr ae r]) dH rfl rfl) ?_
    refine aY.cons (.inl rfl) rfl (az (p:=CP.tr ae l) bw rfl rfl) ?_
    refine aY.cons (.inl rfl) rfl (aI rfl) ?_
    refine aY.cons (.inl rfl) rfl (aI rfl) ?_
    refine aY.stepU rfl (kI (d:=21) (Kv J Jx h (k + xs.length)) (fun b h w hk=>hk.ok hJ hJx) rfl (by decide) ?_ ?_)
    · intro a1 w1 h1' ρ1 hw1 hs1 K' hK'
      have hj1:=hk0.go hJ hJx hw1
      have e20:a1.eval (.tmp 20) = .func (.yield L) #[] #[]:=(aL hs1 (o:=.tmp 20) rfl:(CP.raw _).rel h1' _).1
      refine ku (.inl rfl) rfl (fun a w h=>h) ?_
      unfold Oper.wp
      rw [iO pR a1 w1]
      show Calls Tryz.prog 78 [a1.eval (.tmp 18),a1.eval (.tmp 19),a1.eval (.tmp 20)].toArray w1 _
      rw [e20]
      refine (ihl xs k hxs (fun i x hi=>hall i x (by rw [List.getElem?_append_left (List.getElem?_eq_some_iff.1 hi).1]; exact hi)) h1' w1 _ _ hj1.2 (aL hs1 (o:=.tmp 18) rfl) (aL hs1 (o:=.tmp 19) rfl)).mono ?_
      rintro e w' ⟨b,h',rfl,hk⟩
      exact hK' b h' w' hk.1 ⟨PH.le_trans hj1.1 hk.1,hk.2⟩
    intro b1 h2 ρ2 w2 tb2 hk1
    refine aY.keep [0,1,2,21] [] (s':=⟨[(0,.b (.one (CP.tr ae (.node a l r)))),(1,.b (.one c)),(2,.b (.one (.raw (.func (.yield L) #[] #[])))),(21,B b1)],[]⟩) rfl ?_
    refine aY.cons (.inl rfl) rfl (aI rfl) ?_
    cases b1 with
    | false=>
      refine aY.dW (.plain (t:=22) rfl) rfl rfl rfl (.one .any) ?_
      refine aY.dW (.plain (t:=22) rfl) rfl rfl rfl (.one .any) ?_
      refine aY.dW (.plain (t:=22) rfl) rfl rfl rfl (.one .any) ?_
      refine aY.dW (.plain (t:=22) rfl) rfl rfl rfl (.one .any) ?_
      refine aY.dW (.plain (t:=22) rfl) rfl rfl rfl (.one .any) ?_
      refine aY.dW (.plain (t:=22) rfl) rfl rfl rfl (.one (.bool true)) ?_
      refine aY.cons (.inl rfl) rfl (aH (fun e=>Bool.noConfusion e) rfl rfl rfl) ?_
      refine aY.cons (.inl rfl) rfl (aI rfl) ?_
      refine aY.dW (.plain (t:=30) rfl) rfl rfl rfl (.one .any) ?_
      refine aY.dW (.plain (t:=30) rfl) rfl rfl rfl (.one .any) ?_
      refine aY.dW (.plain (t:=30) rfl) rfl rfl rfl (.one .any) ?_
      refine aY.dW (.plain (t:=30) rfl) rfl rfl rfl (.one .any) ?_
      refine aY.dW (.plain (t:=30) rfl) rfl rfl rfl (.one .any) ?_
      refine aY.dW (.plain (t:=30) rfl) rfl rfl rfl (.one .any) ?_
      refine aY.dW (.plain (t:=30) rfl) rfl rfl rfl (.one (.bool true)) ?_
      refine aY.cons (.inl rfl) rfl (aH (fun e=>Bool.noConfusion e) rfl rfl rfl) ?_
      refine aY.cons (.inl rfl) rfl (br rfl) ?_
      refine aY.nil ?_
      refine Fin.keep [6] [] (s':=⟨[(6,B false)],[]⟩) rfl ?_
      refine Fin.gu ?_ hlo
      refine aX.ret ?_
      exact hend false w2 h2 ρ2 tb2 ⟨hk1.1,hk1.2⟩
    | true=>
    refine aY.gT (.inl rfl) (.plain (t:=22) rfl) rfl rfl rfl (aI rfl) ?_
    refine aY.gT (.inl rfl) (.plain (t:=22) rfl) rfl rfl rfl (aI rfl) ?_
    refine aY.gT (.inl rfl) (.plain (t:=22) rfl) rfl rfl rfl (aG (z:=(a,l,r)) (qs:=ae a ++ [CP.tr ae l,CP.tr ae r]) rfl rfl rfl) ?_
    refine aY.gT (.inl rfl) (.plain (t:=22) rfl) rfl rfl rfl (aF (qs:=ae a ++ [CP.tr ae l,CP.tr ae r]) ed rfl rfl) ?_
    refine aY.gT (.inl rfl) (.plain (t:=22) rfl) rfl rfl rfl (bV (qs:=ar a.x) bz rfl rfl rfl) ?_
    refine aY.stepT (.plain (t:=22) rfl) rfl rfl rfl (kI (d:=28) (Kv J Jx h (k + xs.length + 1)) (fun b h w hk=>hk.ok hJ hJx) rfl (by decide) ?_ ?_)
    · intro a1 w1 h1' ρ1 hw1 hs1 K' hK'
      have hj1:=hk1.go hJ hJx hw1
      have hx23:a1.eval (.tmp 23) = .func (.yield L) #[] #[]:=(aL hs1 (o:=.tmp 23) rfl:(CP.raw _).rel h1' _).1
      have hx27:=(aL hs1 (o:=.tmp 27) (x:=.b (.agg (ar a.x))) rfl:BV.rel h1' ρ1 (.agg (ar a.x)) _)
      refine rL (vals:=[a1.eval (.tmp 27)].toArray) rfl ((sO hx23).trans (by simp)) (hround (k + xs.length) a.x h1' w1 _ (hall xs.length a.x (by simp)) (by simpa using hj1.2) (.cons (fun _=>hx27) .nil)) ?_
      rintro e w3 (⟨rfl,h3,g1,g2⟩ | ⟨rfl,h3,g1,g2⟩)
      · exact ⟨_,rfl,hK' true h3 w3 g1 ⟨PH.le_trans hj1.1 g1,by simpa using g2⟩⟩
      · exact ⟨_,rfl,hK' false h3 w3 g1 ⟨PH.le_trans hj1.1 g1,by simpa using g2⟩⟩
    intro b2 h3 ρ3 w3 tb3 hk2
    refine aY.keep [0,1,2,22,28] [] (s':=⟨[(0,.b (.one (CP.tr ae (.node a l r)))),(1,.b (.one c)),(2,.b (.one (.raw (.func (.yield L) #[] #[])))),(22,B true),(28,B b2)],[]⟩) rfl ?_
    refine aY.opt 28 rfl ?_
    refine aY.cons (.inl rfl) rfl (aH (fun _=>rfl) rfl rfl rfl) ?_
    refine aY.cons (.inl rfl) rfl (aI rfl) ?_
    cases b2 with
    | false=>
      refine aY.dW (.plain (t:=30) rfl) rfl rfl rfl (.one .any) ?_
      refine aY.dW (.plain (t:=30) rfl) rfl rfl rfl (.one .any) ?_
      refine aY.dW (.plain (t:=30) rfl) rfl rfl rfl (.one .any) ?_
      refine aY.dW (.plain (t:=30) rfl) rfl rfl rfl (.one .any) ?_
      refine aY.dW (.plain (t:=30) rfl) rfl rfl rfl (.one .any) ?_
      refine aY.dW (.plain (t:=30) rfl) rfl rfl rfl (.one .any) ?_
      refine aY.dW (.plain (t:=30) rfl) rfl rfl rfl (.one (.bool true)) ?_
      refine aY.cons (.inl rfl) rfl (aH (fun e=>Bool.noConfusion e) rfl rfl rfl) ?_
      refine aY.cons (.inl rfl) rfl (br rfl) ?_
      refine aY.nil ?_
      refine Fin.keep [6] [] (s':=⟨[(6,B false)],[]⟩) rfl ?_
      refine Fin.gu ?_ hlo
      refine aX.ret ?_
      exact hend false w3 h3 ρ3 tb3 ⟨hk2.1,hk2.2⟩
    | true=>
    refine aY.gT (.inl rfl) (.plain (t:=30) rfl) rfl rfl rfl (aI rfl) ?_
    refine aY.gT (.inl rfl) (.plain (t:=30) rfl) rfl rfl rfl (aG (z:=(a,l,r)) (qs:=ae a ++ [CP.tr ae l,CP.tr ae r]) rfl rfl rfl) ?_
    refine aY.gT (.inl rfl) (.plain (t:=30) rfl) rfl rfl rfl (aF (qs:=[CP.tr ae r]) dG rfl rfl) ?_
    refine aY.gT (.inl rfl) (.plain (t:=30) rfl) rfl rfl rfl (az (p:=CP.tr ae r) bw rfl rfl) ?_
    refine aY.gT (.inl rfl) (.plain (t:=30) rfl) rfl rfl rfl (aI rfl) ?_
    refine aY.gT (.inl rfl) (.plain (t:=30) rfl) rfl rfl rfl (aI rfl) ?_
    refine aY.stepT (.plain (t:=30) rfl) rfl rfl rfl (kI (d:=37) (Kv J Jx h (k + xs.length + 1 + zs.length)) (fun b h w hk=>hk.ok hJ hJx) rfl (by decide) ?_ ?_)
    · intro a1 w1 h1' ρ1 hw1 hs1 K' hK'
      have hj1:=hk2.go hJ hJx hw1
      have e20:a1.eval (.tmp 36) = .func (.yield L) #[] #[]:=(aL hs1 (o:=.tmp 36) rfl:(CP.raw _).rel h1' _).1
      refine ku (.inl rfl) rfl (fun a w h=>h) ?_
      unfold Oper.wp
      rw [iO pR a1 w1]
      show Calls Tryz.prog 78 [a1.eval (.tmp 34),a1.eval (.tmp 35),a1.eval (.tmp 36)].toArray w1 _
      rw [e20]
      refine (ihr zs (k + xs.length + 1) hzs (fun i x hi=>by rw [show k + xs.length + 1 + i = k + (xs.length + (i + 1)) by omega]; exact hall _ x (by simp [List.getElem?_append_right,hi])) h1' w1 _ _ hj1.2 (aL hs1 (o:=.tmp 34) rfl) (aL hs1 (o:=.tmp 35) rfl)).mono ?_
      rintro e w' ⟨b,h',rfl,hk⟩
      exact hK' b h' w' hk.1 ⟨PH.le_trans hj1.1 hk.1,hk.2⟩
    intro b3 h4 ρ4 w4 tb4 hk3
    refine aY.keep [30,37] [] (s':=⟨[(30,B true),(37,B b3)],[]⟩) rfl ?_
    refine aY.opt 37 rfl ?_
    refine aY.cons (.inl rfl) rfl (aH (fun _=>rfl) rfl rfl rfl) ?_
    refine aY.cons (.inl rfl) rfl (br rfl) ?_
    refine aY.nil ?_
    refine Fin.keep [6] [] (s':=⟨[(6,B b3)],[]⟩) rfl ?_
    refine Fin.gu ?_ hlo
    refine aX.ret ?_
    exact hend b3 w4 h4 ρ4 tb4 (by rw [hlen]; exact hk3)
end
theorem nV {c:CP} {p:cN bf → Option Bool} (hp:sg c p) {t:cN bf} {xs:List entry} (h:ny p t = some xs):Iter Tryz.prog [] 77 [CP.rp [CP.tr ae t],CP.rp [c]] (xs.map sN):=by
  intro J Jx L hJ hJx hround h0 W caps hJ0 hcaps
  cases hcaps with
  | @cons _ c1 _ _ g1 hc=>
  cases hc with
  | @cons _ c2 _ _ g2 hc2=>
  cases hc2
  refine callsIn_wide.1 (callsIn_of_wp (n:=0) (F:=Fence.wide) Tryz.func77 rfl trivial ?_)
  obtain ⟨hs0,hn0⟩:=lA (m:=8) (h:=h0) (ρ:=fun _=>.bool false) (args:=[.one (.raw (.func (.yield L) #[] #[])),.aN [CP.tr ae t],.aN [c]]) (vals:=[.func (.yield L) #[] #[],c1,c2])
    (.cons ⟨rfl,rfl⟩ (.cons g1 (.cons g2 .nil))) (Nat.le_of_ble_eq_true rfl)
  obtain ⟨hag0,htb0⟩:=(hJ 0).1 h0 W hJ0
  have hk0:Kv J Jx h0 0 true h0 W:=⟨PH.le_refl h0,by simpa using hJ0⟩
  generalize hQo:bodyPost Tryz.prog _ _ = Qo
  have hlo:¬ LetsOut Qo:=by
    rw [← hQo]
    rintro ⟨a,w,⟨v,he⟩,_⟩
    cases he
  refine (show aX Tryz.prog (⟨W,h0,fun _=>.bool false,htb0⟩:Env []) ⟨8,[],[],[]⟩ Fence.wide _ ⟨_,[]⟩ Qo from ?_) hlo _ _ (R.fresh htb0 hag0 rfl hn0 hs0)
  clear hs0 hn0
  refine aX.nn (.inl rfl) ?_
  refine aY.cons (.inl rfl) rfl (az (p:=CP.tr ae t) bw rfl rfl) ?_
  refine aY.cons (.inl rfl) rfl (az (p:=c) um rfl rfl) ?_
  refine aY.cons (.inl rfl) rfl (aI rfl) ?_
  refine aY.stepU rfl (kI (d:=7) (Kv J Jx h0 xs.length) (fun b h w hk=>hk.ok hJ hJx) rfl (by decide) ?_ ?_)
  · intro a1 w1 h1' ρ1 hw1 hs1 K' hK'
    have hj1:=hk0.go hJ hJx hw1
    have e20:a1.eval (.tmp 6) = .func (.yield L) #[] #[]:=(aL hs1 (o:=.tmp 6) rfl:(CP.raw _).rel h1' _).1
    refine ku (.inl rfl) rfl (fun a w h=>h) ?_
    unfold Oper.wp
    rw [iO pR a1 w1]
    show Calls Tryz.prog 78 [a1.eval (.tmp 4),a1.eval (.tmp 5),a1.eval (.tmp 6)].toArray w1 _
    rw [e20]
    refine (qJ hJ hJx hp (all:=xs) (fun k x h W vals hx=>hround k (sN x) h W vals (by rw [List.getElem?_map,hx]; rfl)) t xs 0 h (fun i x hi=>by rw [Nat.zero_add]; exact hi) h1' w1 _ _ hj1.2 (aL hs1 (o:=.tmp 4) rfl) (aL hs1 (o:=.tmp 5) rfl)).mono ?_
    rintro e w' ⟨b,h',rfl,hk⟩
    rw [Nat.zero_add] at hk
    exact hK' b h' w' hk.1 ⟨PH.le_trans hj1.1 hk.1,hk.2⟩
  intro b h2 ρ2 w2 tb2 hk1
  refine aY.nil ?_
  rintro a w ⟨hd,hn,h',ρ',hw,hs⟩
  have hk2:=hk1.go hJ hJx hw
  rw [← hQo]
  refine ⟨hd,.tuple #[],?_,⟨_,rfl⟩,?_⟩
  · rw [jk,show (Tryz.f77:Func).results = #[] from rfl]
    simp
  · cases b with
    | true=>exact .inl ⟨h',by rw [List.length_map]; exact hk2.2⟩
    | false=>exact .inr ⟨h',hk2.2⟩
def gK (F:Nat) (a0:bC) (b0:bC):Option bC :=
 Option.bind (iter F (dn fun a_2 x_3=>if (decide (x_3 < 3)) = true then ((bg a_2.Lo.l x_3).bind fun x_5=>(bg b0.Lo.l x_3).bind fun x_6=>(bg a_2.Hi.l x_3).bind fun x_7=>(bg b0.Hi.l x_3).bind fun x_8=>(bg a_2.Lo.l x_3).bind fun x_9=>(bg a_2.Hi.l x_3).bind fun x_10=>some (.inl ((⟨a_2.Lo.set x_3 (min x_5 x_6),a_2.Hi.set x_3 (max x_7 x_8)⟩:bC),IntKind.i64.wrap (x_3 + 1)))) else (some (.inr a_2))) (a0,0)) (fun a_1=>some a_1)
theorem jz {F:Nat} {a0:bC} {b0:bC} {r:bC} (h:gK F a0 b0 = some r):au Tryz.prog [] 18 [] [.agg (aj a0),.agg (aj b0)] (Is [] (.b (.agg (aj r)))):=by
 unfold gK at h
 refine au.intro 35 Tryz.func18 Tryz.ntmps18 rfl (by simp) fun E=>?_
 show ab _ E ⟨35,[],[],[]⟩ _ ⟨[(0,.b (.agg (aj a0))),(1,.b (.agg (aj b0)))],[]⟩ _
 refine ab.seq (ab.aa ?_)
 refine Oc (bR (k:=101) rfl rfl) (Oc (bR (k:=102) rfl rfl) (Oc (aZ (k:=103) fA rfl) ?_))
 refine af.ai ⟨[(2,Pt 101 0),(3,Pt 102 0),(4,Pt 103 0)],[(101,.box 25 (aj a0)),(102,.box 25 (aj b0)),(103,.box 25 ((cS .i64) A3.zero ++ ((cS .i64) A3.zero)))]⟩ rfl ?_
 obtain ⟨v1,h2,h⟩:=aO h
 refine ab.dY (v:=v1) (fun (a_1:bC)=>⟨[(2,Pt 101 0),(4,Pt 103 0)],[(101,.box 25 (aj a_1)),(103,.box 25 ((cS .i64) A3.zero ++ ((cS .i64) A3.zero)))]⟩) (fun z=>z) ?_ ?_
 ·refine ab.seq (ab.aa ?_)
  refine Oc om (af.ai ⟨[(2,_),(3,_),(4,_),(6,I 0)],[(101,_),(102,_),(103,_)]⟩ rfl (ab.block (ab.c6 h2 (dn fun (a_2:bC) (x_3:Int)=>⟨[(2,Pt 101 0),(3,Pt 102 0),(4,Pt 103 0),(6,I x_3)],[(101,.box 25 (aj a_2)),(102,.box 25 (aj b0)),(103,.box 25 ((cS .i64) A3.zero ++ ((cS .i64) A3.zero)))]⟩) [2,3,4,6] [101,102,103] rfl ?_)))
  rintro ⟨a_2,x_3⟩ o3 h4 hy5
  refine ab.seq (ab.aa ?_)
  refine Oc (bu rfl rfl) (af.ai ⟨[(2,_),(3,_),(4,_),(6,_),(7,B (decide (x_3 < 3)))],[(101,_),(102,_),(103,_)]⟩ rfl (ab.seq (ab.ite h4 rfl (fun _ h4=>?_) (fun _ h4=>?_))))
  ·refine ab.skip (Fin.ag ⟨[(2,_),(3,_),(4,_),(6,_)],[(101,_),(102,_),(103,_)]⟩ rfl (Fin.then (ab.seq (ab.block (ab.seq (ab.aa ?_))))))
   refine Oc om (Oc oa ?_)
   refine af.ai ⟨[(2,_),(3,_),(4,_),(5,I x_3),(6,_)],[(101,_),(102,_),(103,_)]⟩ rfl ?_
   obtain ⟨x_5,e6,h4⟩:=aO h4
   obtain ⟨x_6,e7,h4⟩:=aO h4
   obtain ⟨x_7,e8,h4⟩:=aO h4
   obtain ⟨x_8,e9,h4⟩:=aO h4
   obtain ⟨x_9,e10,h4⟩:=aO h4
   obtain ⟨x_10,e11,h4⟩:=aO h4
   refine ab.nM mixed [false,false,false,false,false,false,false,false,false,false,false,false,false,false,false,false,false,false,false,false,false,false,true,false,false,true] [I x_3,I x_3,I x_3,Pt 101 0,.b (.ptr 101 (0 + (x_3:Int).toNat * 1)),I x_5,I x_3,Pt 102 0,.b (.ptr 102 (0 + (x_3:Int).toNat * 1)),I x_6,I (min x_5 x_6),I x_3,Pt 101 3,.b (.ptr 101 (3 + (x_3:Int).toNat * 1)),I x_7,I x_3,Pt 102 3,.b (.ptr 102 (3 + (x_3:Int).toNat * 1)),I x_8,I (max x_7 x_8),Pt 101 0,.b (.ptr 101 (0 + (x_3:Int).toNat * 1)),B true,Pt 101 3,.b (.ptr 101 (3 + (x_3:Int).toNat * 1)),B true] [⟨[false,false,false,false,false,false,false,false,false,false,false,false,false,false,false,false,false,false,false,false,false,false,false,false,false,false],[(2,Pt 101 0),(3,Pt 102 0),(4,Pt 103 0),(5,I x_3),(6,I x_3)],[(101,.box 25 (aj a_2)),(102,.box 25 (aj b0)),(103,.box 25 ((cS .i64) A3.zero ++ ((cS .i64) A3.zero)))],[true,true,true,true,true,true,true,true,true,true,true,true,true,true,true,true,true,true,true,true,true,true,true,true,true,true],[],[24,25]⟩,⟨[false,false,false,false,false,false,false,false,false,false,false,false,false,false,false,false,false,false,false,false,false,false,true,false,false,false],[(2,Pt 101 0),(3,Pt 102 0),(4,Pt 103 0),(5,I x_3),(6,I x_3)],[(101,.box 25 ((cS .i64) (a_2.Lo.set x_3 (min x_5 x_6)) ++ ((cS .i64) a_2.Hi))),(102,.box 25 (aj b0)),(103,.box 25 ((cS .i64) A3.zero ++ ((cS .i64) A3.zero)))],[true,true,true,true,true,true,true,true,true,true,true,true,true,true,true,true,true,true,true,true,true,true,true,true,true,true],[0,2,3,4,5,6,7,8,9,10,11,12,13,14,20,21,22],[]⟩,⟨[false,false,false,false,false,false,false,false,false,false,false,false,false,false,false,false,false,false,false,false,false,false,true,false,false,true],[(2,Pt 101 0),(3,Pt 102 0),(4,Pt 103 0),(5,I x_3),(6,I x_3)],[(101,.box 25 ((cS .i64) (a_2.Lo.set x_3 (min x_5 x_6)) ++ ((cS .i64) (a_2.Hi.set x_3 (max x_7 x_8))))),(102,.box 25 (aj b0)),(103,.box 25 ((cS .i64) A3.zero ++ ((cS .i64) A3.zero)))],[true,true,true,true,true,true,true,true,true,true,true,true,true,true,true,true,true,true,true,true,true,true,true,true,true,true],[0,1,2,3,4,5,6,7,8,9,10,11,12,13,14,15,16,17,18,19,20,21,22,23,24,25],[]⟩] rfl (⟨by kernel_rfl,⟨⟨I x_3,fun _=>rfl,fun _=>.p (by exact aI rfl)⟩,⟨I x_3,fun _=>rfl,fun _=>.p (by exact aI rfl)⟩,⟨I x_3,fun _=>rfl,fun _=>.p (by exact aI rfl)⟩,⟨Pt 101 0,fun _=>rfl,fun _=>.p (by exact aw cL rfl rfl)⟩,⟨.b (.ptr 101 (0 + (x_3:Int).toNat * 1)),fun _=>rfl,fun _=>.p (by exact a7 bT (bd e6) (de e6) rfl rfl rfl)⟩,⟨I x_5,fun _=>rfl,fun _=>.p (by exact aM aT rfl rfl (cU (post:=((cS .i64) a_2.Hi)) (k:=.i64) [] e6 rfl rfl rfl))⟩,⟨I x_3,fun _=>rfl,fun _=>.p (by exact aI rfl)⟩,⟨Pt 102 0,fun _=>rfl,fun _=>.p (by exact aw cL rfl rfl)⟩,⟨.b (.ptr 102 (0 + (x_3:Int).toNat * 1)),fun _=>rfl,fun _=>.p (by exact a7 bT (bd e7) (de e7) rfl rfl rfl)⟩,⟨I x_6,fun _=>rfl,fun _=>.p (by exact aM aT rfl rfl (cU (post:=((cS .i64) b0.Hi)) (k:=.i64) [] e7 rfl rfl rfl))⟩,⟨I (min x_5 x_6),fun _=>rfl,fun _=>.p (by exact tL rfl rfl)⟩,⟨I x_3,fun _=>rfl,fun _=>.p (by exact aI rfl)⟩,⟨Pt 101 3,fun _=>rfl,fun _=>.p (by exact aw cK rfl rfl)⟩,⟨.b (.ptr 101 (3 + (x_3:Int).toNat * 1)),fun _=>rfl,fun _=>.p (by exact a7 bT (bd e8) (de e8) rfl rfl rfl)⟩,⟨I x_7,fun _=>rfl,fun _=>.p (by exact aM aT rfl rfl (cU (post:=[]) (k:=.i64) ((cS .i64) a_2.Lo) e8 rfl rfl rfl))⟩,⟨I x_3,fun _=>rfl,fun _=>.p (by exact aI rfl)⟩,⟨Pt 102 3,fun _=>rfl,fun _=>.p (by exact aw cK rfl rfl)⟩,⟨.b (.ptr 102 (3 + (x_3:Int).toNat * 1)),fun _=>rfl,fun _=>.p (by exact a7 bT (bd e9) (de e9) rfl rfl rfl)⟩,⟨I x_8,fun _=>rfl,fun _=>.p (by exact aM aT rfl rfl (cU (post:=[]) (k:=.i64) ((cS .i64) b0.Lo) e9 rfl rfl rfl))⟩,⟨I (max x_7 x_8),fun _=>rfl,fun _=>.p (by exact rf rfl rfl)⟩,⟨Pt 101 0,fun _=>rfl,fun _=>.p (by exact aw cL rfl rfl)⟩,⟨.b (.ptr 101 (0 + (x_3:Int).toNat * 1)),fun _=>rfl,fun _=>.p (by exact a7 bT (bd e10) (de e10) rfl rfl rfl)⟩,⟨_,[],.b (.one .any),rfl,(fun e=>by simp at e),rfl,rfl,fun _=>.pq [101,102,103] (by exact .p (by exact ee aT rfl rfl rfl (pG (post:=((cS .i64) a_2.Hi)) (k:=.i64) [] e10 rfl rfl rfl) (nw (post:=((cS .i64) a_2.Hi)) (k:=.i64) [] e10 rfl rfl (A3.qb a_2.Lo x_3 (min x_5 x_6)) rfl rfl))) (by exact rfl)⟩,⟨Pt 101 3,fun _=>rfl,fun _=>.p (by exact aw cK rfl rfl)⟩,trivial,trivial,trivial⟩,⟨by kernel_rfl,⟨trivial,⟨I x_3,fun _=>rfl,fun _=>.p (by exact aI rfl)⟩,trivial,trivial,trivial,trivial,trivial,trivial,trivial,trivial,trivial,trivial,trivial,trivial,trivial,⟨I x_3,fun _=>rfl,fun _=>.p (by exact aI rfl)⟩,⟨Pt 102 3,fun _=>rfl,fun _=>.p (by exact aw cK rfl rfl)⟩,⟨.b (.ptr 102 (3 + (x_3:Int).toNat * 1)),fun _=>rfl,fun _=>.p (by exact a7 bT (bd e9) (de e9) rfl rfl rfl)⟩,⟨I x_8,fun _=>rfl,fun _=>.p (by exact aM aT rfl rfl (cU (post:=[]) (k:=.i64) ((cS .i64) b0.Lo) e9 rfl rfl rfl))⟩,⟨I (max x_7 x_8),fun _=>rfl,fun _=>.p (by exact rf rfl rfl)⟩,trivial,trivial,trivial,⟨Pt 101 3,fun _=>rfl,fun _=>.p (by exact aw cK rfl rfl)⟩,⟨.b (.ptr 101 (3 + (x_3:Int).toNat * 1)),fun _=>rfl,fun _=>.p (by exact a7 bT (bd e11) (de e11) rfl rfl rfl)⟩,⟨_,[],.b (.one .any),rfl,(fun e=>by simp at e),rfl,rfl,fun _=>.pq [101,102,103] (by exact .p (by exact ee aT rfl rfl rfl (pG (post:=[]) (k:=.i64) ((cS .i64) (a_2.Lo.set x_3 (min x_5 x_6))) e11 rfl rfl rfl) (nw (post:=[]) (k:=.i64) ((cS .i64) (a_2.Lo.set x_3 (min x_5 x_6))) e11 rfl rfl (A3.qb a_2.Hi x_3 (max x_7 x_8)) rfl rfl))) (by exact rfl)⟩,trivial⟩,⟨by kernel_rfl,⟨trivial,trivial,trivial,trivial,trivial,trivial,trivial,trivial,trivial,trivial,trivial,trivial,trivial,trivial,trivial,trivial,trivial,trivial,trivial,trivial,trivial,trivial,trivial,trivial,trivial,trivial,trivial⟩,trivial⟩⟩⟩) rfl rfl rfl [2,3,4,6] [101,102,103] (s':=⟨[(2,_),(3,_),(4,_),(6,_)],[(101,.box 25 ((cS .i64) (a_2.Lo.set x_3 (min x_5 x_6)) ++ ((cS .i64) (a_2.Hi.set x_3 (max x_7 x_8))))),(102,_),(103,_)]⟩) rfl ?_
   refine Fin.ay (Fin.ag ⟨[(2,_),(3,_),(4,_),(6,_)],[(101,_),(102,_),(103,_)]⟩ rfl (Fin.then (ab.aa ?_)))
   refine Oc (bJ rfl rfl) (Oc om ?_)
   refine af.nil ?_
   exact Fin.ct [2,3,4,6] [101,102,103] ((⟨a_2.Lo.set x_3 (min x_5 x_6),a_2.Hi.set x_3 (max x_7 x_8)⟩:bC),IntKind.i64.wrap (x_3 + 1)) (Option.some.inj h4) rfl
  ·refine ab.exit (Fin.aA ?_)
   obtain rfl:=hy5 _ (Option.some.inj h4).symm
   refine Fin.aA (Fin.aV ?_)
   exact Fin.join [2,4] [101,103] a_2 rfl rfl
 ·rintro a_1 hv
  subst v1
  refine ab.seq (ab.aa ?_)
  refine Oc (lp aC) (Oc (aE aC rfl rfl rfl rfl (Nat.le_of_ble_eq_true rfl) rfl) ?_)
  refine af.ai ⟨[(4,_)],[(103,.box 25 (aj a_1))]⟩ rfl (ab.ret ?_)
  obtain rfl:=Option.some.inj h
  refine Fin.ag ⟨[(4,_)],[(103,_)]⟩ rfl (Fin.av [.agg (aj a_1)] (.inl rfl) rfl (.cons (.agg aC rfl rfl rfl rfl) .nil) ⟨rfl,rfl⟩)
def dJ (F:Nat) (s0:List bC) (f0:Nat):Option Int :=
 Option.bind (iter F (fun x_1=>if (decide (x_1 < (s0.length:Int))) = true then ((bg s0 x_1).bind fun x_2=>(iP F f0 x_2).bind fun x_3=>if x_3 = true then (some (.inr (.inr x_1))) else (some (.inl (IntKind.i64.wrap (x_1 + 1))))) else (some (.inr (.inl ())))) 0) (bZ (fun _=>some (-1)) (fun y=>some y))
theorem jF {F:Nat} {s0:List bC} {f0:Nat} {r:Int} (h:dJ F s0 f0 = some r):au Tryz.prog [] 67 [] [.one (.sl 6 (s0.map aj)),.one (.raw (.func (.func f0) #[] #[]))] (Is [] (.b (.one (.i r)))):=by
 unfold dJ at h
 refine au.intro 19 Tryz.func67 Tryz.ntmps67 rfl (by simp) fun E=>?_
 show ab _ E ⟨19,[],[],[]⟩ _ ⟨[(0,.b (.one (.sl 6 (s0.map aj)))),(1,.b (.one (.raw (.func (.func f0) #[] #[]))))],[]⟩ _
 refine ab.seq (ab.aa ?_)
 refine Oc oa (af.ai ⟨[(0,.b (.one (.sl 6 (s0.map aj)))),(1,.b (.one (.raw (.func (.func f0) #[] #[]))))],[]⟩ rfl ?_)
 obtain ⟨v1,h2,h⟩:=aO h
 refine ab.dY (v:=v1) (fun (_:Unit)=>⟨[],[]⟩) (fun z=>.inl z) ?_ ?_
 ·refine ab.seq (ab.aa ?_)
  refine Oc om (Oc (a8 lK rfl (List.length_map _)) (Oc om ?_))
  refine af.ai ⟨[(0,_),(1,_),(7,I (s0.length:Int)),(8,I 0)],[]⟩ rfl (ab.block (ab.c6 h2 (fun (x_1:Int)=>⟨[(0,.b (.one (.sl 6 (s0.map aj)))),(1,.b (.one (.raw (.func (.func f0) #[] #[])))),(7,I (s0.length:Int)),(8,I x_1)],[]⟩) [0,1,7,8] [] rfl ?_))
  rintro x_1 o3 h4 hy5
  refine ab.seq (ab.aa ?_)
  refine Oc (bu rfl rfl) (af.ai ⟨[(0,_),(1,_),(7,_),(8,_),(9,B (decide (x_1 < (s0.length:Int))))],[]⟩ rfl (ab.seq (ab.ite h4 rfl (fun _ h4=>?_) (fun _ h4=>?_))))
  ·refine ab.skip (Fin.ag ⟨[(0,_),(1,_),(7,_),(8,_)],[]⟩ rfl (Fin.then (ab.seq (ab.block (ab.seq (ab.aa ?_))))))
   refine Oc om (Oc oa ?_)
   refine af.ai ⟨[(0,_),(1,_),(5,I x_1),(7,_),(8,_)],[]⟩ rfl (ab.seq (ab.aa ?_))
   refine Oc om (Oc om (Oc om ?_))
   obtain ⟨x_2,e6,h4⟩:=aO h4
   refine Oc (bc gU (bd e6) (cA (e:=aj) e6) rfl rfl) (Oc (bV aC rfl rfl rfl) ?_)
   obtain ⟨x_3,e7,h4⟩:=aO h4
   refine Oc (iT (qU e7) (qV e7) rfl rfl rfl) (af.ai ⟨[(0,_),(1,_),(5,_),(7,_),(8,_),(16,B x_3)],[]⟩ rfl (ab.ite h4 rfl (fun _ h4=>?_) (fun _ h4=>?_)))
   ·refine ab.seq (ab.aa ?_)
    refine Oc om (Oc oa ?_)
    refine af.ai ⟨[(4,I x_1)],[]⟩ rfl (ab.ret (Fin.aK (Fin.ao ?_)))
    obtain rfl:=hy5 _ (Option.some.inj h4).symm
    refine Fin.ao (Fin.aK (Fin.ao ?_))
    obtain rfl:=Option.some.inj h
    refine Fin.ag ⟨[(4,_)],[]⟩ rfl (Fin.av [.one (.i x_1)] (.inl rfl) rfl (.cons (.tmp rfl) .nil) ⟨rfl,rfl⟩)
   ·refine ab.skip (Fin.ay (Fin.ag ⟨[(0,_),(1,_),(7,_),(8,_)],[]⟩ rfl (Fin.then (ab.aa ?_))))
    refine Oc (bJ rfl rfl) (Oc om ?_)
    refine af.nil ?_
    exact Fin.ct [0,1,7,8] [] (IntKind.i64.wrap (x_1 + 1)) (Option.some.inj h4) rfl
  ·refine ab.exit (Fin.aA ?_)
   obtain rfl:=hy5 _ (Option.some.inj h4).symm
   refine Fin.aA (Fin.aV ?_)
   exact Fin.join [] [] () rfl rfl
 ·rintro _ hv
  subst v1
  refine ab.seq (ab.aa ?_)
  refine Oc oa (af.ai ⟨[(4,I (-1))],[]⟩ rfl (ab.ret ?_))
  obtain rfl:=Option.some.inj h
  refine Fin.ag ⟨[(4,_)],[]⟩ rfl (Fin.av [.one (.i (-1))] (.inl rfl) rfl (.cons (.tmp rfl) .nil) ⟨rfl,rfl⟩)
def cD (F:Nat) (s0:List bC) (f0:Nat):Option Bool :=
 (dJ F s0 f0).bind fun x_1=>some (decide (0 ≤ x_1))
theorem iF {F:Nat} {s0:List bC} {f0:Nat} {r:Bool} (h:cD F s0 f0 = some r):au Tryz.prog [] 40 [] [.one (.sl 6 (s0.map aj)),.one (.raw (.func (.func f0) #[] #[]))] (Is [] (.b (.one (.bool r)))):=by
 unfold cD at h
 refine au.intro 9 Tryz.func40 Tryz.ntmps40 rfl (by simp) fun E=>?_
 show ab _ E ⟨9,[],[],[]⟩ _ ⟨[(0,.b (.one (.sl 6 (s0.map aj)))),(1,.b (.one (.raw (.func (.func f0) #[] #[]))))],[]⟩ _
 refine ab.seq (ab.aa ?_)
 refine Oc oa (af.ai ⟨[(0,.b (.one (.sl 6 (s0.map aj)))),(1,.b (.one (.raw (.func (.func f0) #[] #[]))))],[]⟩ rfl (ab.seq (ab.aa ?_)))
 refine Oc om (Oc om ?_)
 obtain ⟨x_1,e1,h⟩:=aO h
 refine Oc (ak (jF e1) goes67 rfl rfl) (Oc (mc rfl rfl) (Oc oa ?_))
 refine af.ai ⟨[(4,B (decide (0 ≤ x_1)))],[]⟩ rfl (ab.ret ?_)
 obtain rfl:=Option.some.inj h
 refine Fin.ag ⟨[(4,_)],[]⟩ rfl (Fin.av [.one (.bool (decide (0 ≤ x_1)))] (.inl rfl) rfl (.cons (.tmp rfl) .nil) ⟨rfl,rfl⟩)
def dc (F:Nat) (k0:Int) (v0c:List bC) (v1c:Int):Option Bool :=
 (bg v0c k0).bind fun x_1=>(bg v0c v1c).bind fun x_2=>some (decide (x_1.Hi.a0 < x_2.Lo.a0))
theorem ic {F:Nat} {k0:Int} {v0c:List bC} {v1c:Int} {r:Bool} (h:dc F k0 v0c v1c = some r):au Tryz.prog [] 46 [] [.one (.i k0),.aN [.sl 6 (v0c.map aj)],.aN [.i v1c]] (Is [] (.b (.one (.bool r)))):=by
 unfold dc at h
 refine au.intro 18 Tryz.func46 Tryz.ntmps46 rfl (by simp) fun E=>?_
 show ab _ E ⟨18,[],[],[]⟩ _ ⟨[(0,I k0),(1,.b (.aN [.sl 6 (v0c.map aj)])),(2,.b (.aN [.i v1c]))],[]⟩ _
 refine ab.seq (ab.aa ?_)
 refine Oc oa (af.ai ⟨[(0,I k0),(1,.b (.aN [.sl 6 (v0c.map aj)])),(2,.b (.aN [.i v1c]))],[]⟩ rfl (ab.seq ?_))
 obtain ⟨x_1,e1,h⟩:=aO h
 obtain ⟨x_2,e2,h⟩:=aO h
 refine ab.cc mixed 14 [.b (.one (.sl 6 (v0c.map aj))),I k0,.b (.aN (aj x_1)),.b (.aN ((cS .i64) x_1.Hi)),.b (.aN [.i x_1.Hi.a0]),I x_1.Hi.a0,.b (.one (.sl 6 (v0c.map aj))),I v1c,.b (.aN (aj x_2)),.b (.aN (aj x_2)),.b (.aN [.i x_2.Lo.a0]),I x_2.Lo.a0,B (decide (x_1.Hi.a0 < x_2.Lo.a0)),B (decide (x_1.Hi.a0 < x_2.Lo.a0))] [4] [] (s':=⟨[(4,B (decide (x_1.Hi.a0 < x_2.Lo.a0)))],[]⟩) rfl ⟨fun _=>.p (az kr rfl rfl),fun _=>.p om,fun _=>.p (bc gU (bd e1) (cA (e:=aj) e1) rfl rfl),fun _=>by exact .p (aF cK rfl rfl),fun _=>.p (mZ bT (by decide) (by decide) rfl rfl rfl),fun _=>.p (az aT rfl rfl),fun _=>.p (az kr rfl rfl),fun _=>.p (az aT rfl rfl),fun _=>.p (bc gU (bd e2) (cA (e:=aj) e2) rfl rfl),fun _=>by exact .p (aF cL rfl rfl),fun _=>.p (mZ bT (by decide) (by decide) rfl rfl rfl),fun _=>.p (az aT rfl rfl),fun _=>.p (bu rfl rfl),fun _=>.p oa,trivial⟩ rfl rfl (ab.ret ?_)
 obtain rfl:=Option.some.inj h
 refine Fin.ag ⟨[(4,_)],[]⟩ rfl (Fin.av [.one (.bool (decide (x_1.Hi.a0 < x_2.Lo.a0)))] (.inl rfl) rfl (.cons (.tmp rfl) .nil) ⟨rfl,rfl⟩)
def cJ (F:Nat) (s0:List Int) (f0:(List bC) × Int):Option Int :=
 Option.bind (iter F (fun x_1=>if (decide (x_1 < (s0.length:Int))) = true then ((bg s0 x_1).bind fun x_2=>(dc F x_2 f0.1 f0.2).bind fun x_3=>if x_3 = true then (some (.inr (.inr x_1))) else (some (.inl (IntKind.i64.wrap (x_1 + 1))))) else (some (.inr (.inl ())))) 0) (bZ (fun _=>some (-1)) (fun y=>some y))
theorem iZ {F:Nat} {s0:List Int} {f0:(List bC) × Int} {r:Int} (h:cJ F s0 f0 = some r):au Tryz.prog [] 71 [] [.one (.sl 1 (s0.map eI)),.one (.eC 46 [CP.rp [.sl 6 (f0.1.map aj)],CP.rp [.i f0.2]])] (Is [] (.b (.one (.i r)))):=by
 unfold cJ at h
 refine au.intro 19 Tryz.func71 Tryz.ntmps71 rfl (by simp) fun E=>?_
 show ab _ E ⟨19,[],[],[]⟩ _ ⟨[(0,.b (.one (.sl 1 (s0.map eI)))),(1,.b (.one (.eC 46 [CP.rp [.sl 6 (f0.1.map aj)],CP.rp [.i f0.2]])))],[]⟩ _
 refine ab.seq (ab.aa ?_)
 refine Oc oa (af.ai ⟨[(0,.b (.one (.sl 1 (s0.map eI)))),(1,.b (.one (.eC 46 [CP.rp [.sl 6 (f0.1.map aj)],CP.rp [.i f0.2]])))],[]⟩ rfl ?_)
 obtain ⟨v1,h2,h⟩:=aO h
 refine ab.dY (v:=v1) (fun (_:Unit)=>⟨[],[]⟩) (fun z=>.inl z) ?_ ?_
 ·refine ab.seq (ab.aa ?_)
  refine Oc om (Oc (a8 fm rfl (List.length_map _)) (Oc om ?_))
  refine af.ai ⟨[(0,_),(1,_),(7,I (s0.length:Int)),(8,I 0)],[]⟩ rfl (ab.block (ab.c6 h2 (fun (x_1:Int)=>⟨[(0,.b (.one (.sl 1 (s0.map eI)))),(1,.b (.one (.eC 46 [CP.rp [.sl 6 (f0.1.map aj)],CP.rp [.i f0.2]]))),(7,I (s0.length:Int)),(8,I x_1)],[]⟩) [0,1,7,8] [] rfl ?_))
  rintro x_1 o3 h4 hy5
  refine ab.seq (ab.aa ?_)
  refine Oc (bu rfl rfl) (af.ai ⟨[(0,_),(1,_),(7,_),(8,_),(9,B (decide (x_1 < (s0.length:Int))))],[]⟩ rfl (ab.seq (ab.ite h4 rfl (fun _ h4=>?_) (fun _ h4=>?_))))
  ·refine ab.skip (Fin.ag ⟨[(0,_),(1,_),(7,_),(8,_)],[]⟩ rfl (Fin.then (ab.seq (ab.block (ab.seq (ab.aa ?_))))))
   refine Oc om (Oc oa ?_)
   refine af.ai ⟨[(0,_),(1,_),(5,I x_1),(7,_),(8,_)],[]⟩ rfl (ab.seq (ab.aa ?_))
   refine Oc om (Oc om (Oc om ?_))
   obtain ⟨x_2,e6,h4⟩:=aO h4
   refine Oc (bc cp (bd e6) (cA (e:=eI) e6) rfl rfl) (Oc (az aT rfl rfl) ?_)
   obtain ⟨x_3,e7,h4⟩:=aO h4
   refine Oc (nN (pss:=[[.sl 6 (f0.1.map aj)],[.i f0.2]]) (ic e7) tT rfl rfl rfl trivial rfl rfl) (af.ai ⟨[(0,_),(1,_),(5,_),(7,_),(8,_),(16,B x_3)],[]⟩ rfl (ab.ite h4 rfl (fun _ h4=>?_) (fun _ h4=>?_)))
   ·refine ab.seq (ab.aa ?_)
    refine Oc om (Oc oa ?_)
    refine af.ai ⟨[(4,I x_1)],[]⟩ rfl (ab.ret (Fin.aK (Fin.ao ?_)))
    obtain rfl:=hy5 _ (Option.some.inj h4).symm
    refine Fin.ao (Fin.aK (Fin.ao ?_))
    obtain rfl:=Option.some.inj h
    refine Fin.ag ⟨[(4,_)],[]⟩ rfl (Fin.av [.one (.i x_1)] (.inl rfl) rfl (.cons (.tmp rfl) .nil) ⟨rfl,rfl⟩)
   ·refine ab.skip (Fin.ay (Fin.ag ⟨[(0,_),(1,_),(7,_),(8,_)],[]⟩ rfl (Fin.then (ab.aa ?_))))
    refine Oc (bJ rfl rfl) (Oc om ?_)
    refine af.nil ?_
    exact Fin.ct [0,1,7,8] [] (IntKind.i64.wrap (x_1 + 1)) (Option.some.inj h4) rfl
  ·refine ab.exit (Fin.aA ?_)
   obtain rfl:=hy5 _ (Option.some.inj h4).symm
   refine Fin.aA (Fin.aV ?_)
   exact Fin.join [] [] () rfl rfl
 ·rintro _ hv
  subst v1
  refine ab.seq (ab.aa ?_)
  refine Oc oa (af.ai ⟨[(4,I (-1))],[]⟩ rfl (ab.ret ?_))
  obtain rfl:=Option.some.inj h
  refine Fin.ag ⟨[(4,_)],[]⟩ rfl (Fin.av [.one (.i (-1))] (.inl rfl) rfl (.cons (.tmp rfl) .nil) ⟨rfl,rfl⟩)
def cR (F:Nat) (del0:(List bC) × Int) (s0:List Int):Option (List Int) :=
 (cJ F s0 (del0.1,del0.2)).bind fun x_1=>if (decide (x_1 = (-1))) = true then (some s0) else (Option.bind (iter F (tj fun s_4 i_5 j_6=>if (decide (j_6 < (s_4.length:Int))) = true then (Option.bind ((bg s_4 j_6).bind fun x_11=>(dc F x_11 del0.1 del0.2).bind fun x_12=>if (!x_12) = true then ((bg s_4 i_5).bind fun x_13=>some (s_4.set (i_5:Int).toNat x_11,IntKind.i64.wrap (i_5 + 1))) else (some (s_4,i_5))) (dn fun s_9 i_10=>some (.inl (s_9,i_10,IntKind.i64.wrap (j_6 + 1))))) else (some (.inr (s_4,i_5)))) (s0,x_1,IntKind.i64.wrap (x_1 + 1))) (dn fun s_2 i_3=>Option.bind (tw (0:Int) s_2 i_3) (fun z_14=>(mP z_14 i_3).bind fun x_15=>some x_15)))
theorem ju {F:Nat} {del0:(List bC) × Int} {s0:List Int} {r:(List Int)} (h:cR F del0 s0 = some r):au Tryz.prog [] 45 [(1,.row 3 1 (s0.map eI))] [.row 1,.one (.eC 46 [CP.rp [.sl 6 (del0.1.map aj)],CP.rp [.i del0.2]])] (Is [(1,.row 3 1 (r.map eI))] (.b (.row 1))):=by
 unfold cR at h
 refine au.intro 42 Tryz.func45 Tryz.ntmps45 rfl (by simp) fun E=>?_
 show ab _ E ⟨42,[],[1],[]⟩ _ ⟨[(0,.b (.row 1)),(1,.b (.one (.eC 46 [CP.rp [.sl 6 (del0.1.map aj)],CP.rp [.i del0.2]])))],[(1,.row 3 1 (s0.map eI))]⟩ _
 refine ab.seq (ab.aa ?_)
 refine Oc oa (af.ai ⟨[(0,.b (.row 1)),(1,.b (.one (.eC 46 [CP.rp [.sl 6 (del0.1.map aj)],CP.rp [.i del0.2]])))],[(1,.row 3 1 (s0.map eI))]⟩ rfl (ab.seq (ab.aa ?_)))
 refine Oc om (Oc om ?_)
 obtain ⟨x_1,e1,h⟩:=aO h
 refine Oc (gh (iZ e1) goes71 rfl CP.qz) (Oc oa ?_)
 refine af.ai ⟨[(0,_),(1,_),(5,I x_1)],[(1,_)]⟩ rfl (ab.seq (ab.seq (ab.aa ?_)))
 refine Oc om (Oc (di rfl rfl) ?_)
 refine af.ai ⟨[(0,_),(1,_),(5,_),(12,B (decide (x_1 = (-1))))],[(1,_)]⟩ rfl (ab.ite h rfl (fun _ h=>?_) (fun _ h=>?_))
 ·refine ab.seq (ab.aa ?_)
  refine Oc om (Oc oa ?_)
  refine af.ai ⟨[(4,.b (.row 1))],[(1,_)]⟩ rfl (ab.ret (Fin.ao ?_))
  obtain rfl:=Option.some.inj h
  refine Fin.ag ⟨[(4,_)],[(1,_)]⟩ rfl ?_
  exact Fin.result [.row 1] (.inl rfl) rfl (.cons (.tmp rfl) .nil) ⟨rfl,rfl⟩
 ·refine ab.skip (Fin.ag ⟨[(0,_),(1,_),(5,_)],[(1,_)]⟩ rfl (Fin.then ?_))
  obtain ⟨v2,h3,h⟩:=aO h
  refine ab.dY (v:=v2) (dn fun (s_2:List Int) (i_3:Int)=>⟨[(0,.b (.row 1)),(5,I i_3)],[(1,.row 3 1 (s_2.map eI))]⟩) (fun z=>z) ?_ ?_
  ·refine ab.seq (ab.aa ?_)
   refine Oc om (Oc (bJ rfl rfl) (Oc oa ?_))
   refine af.ai ⟨[(0,_),(1,_),(5,_),(6,I (IntKind.i64.wrap (x_1 + 1)))],[(1,_)]⟩ rfl (ab.block (ab.c6 h3 (tj fun (s_4:List Int) (i_5:Int) (j_6:Int)=>⟨[(0,.b (.row 1)),(1,.b (.one (.eC 46 [CP.rp [.sl 6 (del0.1.map aj)],CP.rp [.i del0.2]]))),(5,I i_5),(6,I j_6)],[(1,.row 3 1 (s_4.map eI))]⟩) [0,1,5,6] [1] rfl ?_))
   rintro ⟨s_4,i_5,j_6⟩ o4 h5 hy6
   refine ab.seq (ab.seq (ab.aa ?_))
   refine Oc om (Oc om (Oc (eZ fm rfl rfl (List.length_map _)) (Oc (bu rfl rfl) ?_)))
   refine af.ai ⟨[(0,_),(1,_),(5,_),(6,_),(19,B (decide (j_6 < (s_4.length:Int))))],[(1,_)]⟩ rfl (ab.ite h5 rfl (fun _ h5=>?_) (fun _ h5=>?_))
   ·refine ab.skip (Fin.ag ⟨[(0,_),(1,_),(5,_),(6,_)],[(1,_)]⟩ rfl (Fin.then ?_))
    obtain ⟨v7,h8,h5⟩:=aO h5
    refine ab.dY (v:=v7) (dn fun (s_9:List Int) (i_10:Int)=>⟨[(0,.b (.row 1)),(1,.b (.one (.eC 46 [CP.rp [.sl 6 (del0.1.map aj)],CP.rp [.i del0.2]]))),(5,I i_10),(6,I j_6)],[(1,.row 3 1 (s_9.map eI))]⟩) (fun z=>z) ?_ ?_
    ·refine ab.block (ab.seq (ab.aa ?_))
     refine Oc om (Oc om ?_)
     obtain ⟨x_11,e9,h8⟩:=aO h8
     refine Oc (dI cp (bd e9) (jc e9) rfl rfl rfl rfl) (Oc (fO (i:=(j_6:Int).toNat) (f:=0) aT rfl rfl rfl (cA (e:=eI) e9) rfl) (Oc oa ?_))
     refine af.ai ⟨[(0,_),(1,_),(5,_),(6,_),(7,I x_11)],[(1,_)]⟩ rfl (ab.seq (ab.aa ?_))
     refine Oc om (Oc om ?_)
     obtain ⟨x_12,e10,h8⟩:=aO h8
     refine Oc (nN (pss:=[[.sl 6 (del0.1.map aj)],[.i del0.2]]) (ic e10) tT rfl rfl rfl trivial rfl rfl) (Oc (dF rfl) ?_)
     refine af.ai ⟨[(0,_),(1,_),(5,_),(6,_),(7,_),(29,B (!x_12))],[(1,_)]⟩ rfl (ab.ite h8 rfl (fun _ h8=>?_) (fun _ h8=>?_))
     ·refine ab.seq (ab.aa ?_)
      refine Oc om (Oc om (Oc om ?_))
      obtain ⟨x_13,e11,h8⟩:=aO h8
      refine Oc (dI cp (bd e11) (jc e11) rfl rfl rfl rfl) (Oc (j8 (i:=(i_5:Int).toNat) aT rfl rfl rfl rfl (tC e11) (map_set _ _ _ _)) ?_)
      refine af.ai ⟨[(0,_),(1,_),(5,_),(6,_)],[(1,.row 3 1 ((s_4.set (i_5:Int).toNat x_11).map eI))]⟩ rfl (ab.aa (Oc om (Oc (bJ rfl rfl) (Oc oa ?_))))
      refine af.nil (Fin.ay ?_)
      exact Fin.join [0,1,5,6] [1] (s_4.set (i_5:Int).toNat x_11,IntKind.i64.wrap (i_5 + 1)) (Option.some.inj h8) rfl
     ·refine ab.skip (Fin.ay ?_)
      exact Fin.join [0,1,5,6] [1] (s_4,i_5) (Option.some.inj h8) rfl
    ·rintro ⟨s_9,i_10⟩ hv
     subst v7
     refine ab.aa (Oc om (Oc (bJ rfl rfl) (Oc oa ?_)))
     refine af.nil ?_
     exact Fin.ct [0,1,5,6] [1] (s_9,i_10,IntKind.i64.wrap (j_6 + 1)) (Option.some.inj h5) rfl
   ·refine ab.exit (Fin.aA ?_)
    obtain rfl:=hy6 _ (Option.some.inj h5).symm
    refine Fin.aA (Fin.aV ?_)
    exact Fin.join [0,5] [1] (s_4,i_5) rfl rfl
  ·rintro ⟨s_2,i_3⟩ hv
   subst v2
   refine ab.seq (ab.aa ?_)
   refine Oc om (Oc om ?_)
   obtain ⟨z_14,e12,h⟩:=aO h
   refine af.clr (enc:=eI) cp rfl e12 rfl rfl rfl (by decide) rfl (af.ai ⟨[(0,_),(5,_)],[(1,.row 3 1 (z_14.map eI))]⟩ rfl (ab.seq (ab.aa ?_)))
   refine Oc om (Oc om ?_)
   obtain ⟨x_15,e13,h⟩:=aO h
   refine Oc (kX cp e13 rfl rfl rfl rfl) (Oc oa ?_)
   refine af.ai ⟨[(4,.b (.row 1))],[(1,.row 3 1 (x_15.map eI))]⟩ rfl (ab.ret ?_)
   obtain rfl:=Option.some.inj h
   refine Fin.ag ⟨[(4,_)],[(1,_)]⟩ rfl ?_
   exact Fin.result [.row 1] (.inl rfl) rfl (.cons (.tmp rfl) .nil) ⟨rfl,rfl⟩
def dg (F:Nat) (l0:List A2):Option (List A2) :=
 (c3 F l0).bind fun x_1=>some x_1
theorem kq {F:Nat} {l0:List A2} {r:(List A2)} (h:dg F l0 = some r):au Tryz.prog [] 47 [(1,.dE 40 2 (l0.map (dB .i64)))] [.row 1] (Is [(1,.dE 40 2 (r.map (dB .i64)))] (.dD [])):=by
 unfold dg at h
 refine au.intro 4 Tryz.func47 Tryz.ntmps47 rfl (by simp) fun E=>?_
 show ab _ E ⟨4,[1],[1],[]⟩ _ ⟨[(0,.b (.row 1))],[(1,.dE 40 2 (l0.map (dB .i64)))]⟩ _
 refine ab.sL 1 rfl (ab.aa (Oc om (af.sM 1 rfl ?_)))
 obtain ⟨x_1,e1,h⟩:=aO h
 refine Oc (cT (own_a:=[(1,_)]) (jE e1) goes72 rfl ⟨rfl,trivial⟩ rfl rfl) (af.sL 1 rfl (af.nil ?_))
 obtain rfl:=Option.some.inj h
 refine Fin.ag ⟨[],[(1,.row 40 2 (x_1.map (dB .i64)))]⟩ rfl (Fin.sM 1 rfl (Fin.ag ⟨[],[(1,.dE 40 2 (x_1.map (dB .i64)))]⟩ rfl ?_))
 exact Fin.result [] (.inr rfl) rfl (.nil) ⟨rfl,rfl⟩
def cV (F:Nat) (l0:List bC):Option ((List A2) × Int) :=
 (cD F l0 41).bind fun x_1=>if x_1 = true then (some ([],1)) else (Option.bind (mk? (0:Int) (l0.length:Int) (l0.length:Int)) (fun x_2=>Option.bind (iter F (dn fun order_4 x_5=>if (decide (x_5 < (x_2.length:Int))) = true then ((bg order_4 x_5).bind fun x_7=>some (.inl (order_4.set (x_5:Int).toNat x_5,IntKind.i64.wrap (x_5 + 1)))) else (some (.inr order_4))) (x_2,0)) (fun order_3=>(dX F l0 order_3).bind fun x_8=>Option.bind (iter F (tj fun active_10 out_11 x_12=>if (decide (x_12 < (x_8.length:Int))) = true then (Option.bind ((bg x_8 x_12).bind fun x_16=>(cR F (l0,x_16) active_10).bind fun x_17=>Option.bind (iter F (dn fun out_19 x_20=>if (decide (x_20 < (x_17.length:Int))) = true then (Option.bind ((bg x_17 x_20).bind fun x_23=>(bg l0 x_16).bind fun x_24=>(bg l0 x_23).bind fun x_25=>(cu F x_24 x_25).bind fun x_26=>if x_26 = true then ((ja out_19 [(⟨min x_16 x_23,max x_16 x_23⟩:A2)]).bind fun x_27=>some x_27) else (some out_19)) (fun out_22=>some (.inl (out_22,IntKind.i64.wrap (x_20 + 1))))) else (some (.inr out_19))) (out_11,0)) (fun out_18=>(ja x_17 [x_16]).bind fun x_28=>some (x_28,out_18))) (dn fun active_14 out_15=>some (.inl (active_14,out_15,IntKind.i64.wrap (x_12 + 1))))) else (some (.inr out_11))) ([],[],0)) (fun out_9=>(dg F out_9).bind fun x_29=>some (x_29,0)))))
theorem fR (kr0:Nat) {F:Nat} {l0:List bC} {r:(List A2) × Int} (h:cV F l0 = some r):au Tryz.prog [] 20 [] [.one (.sl 6 (l0.map aj))] (Is [(kr0,.row 40 2 (r.1.map (dB .i64)))] (.dD [.row kr0,.one (.i r.2)])):=by
 unfold cV at h
 refine au.intro 73 Tryz.func20 Tryz.ntmps20 rfl (by simp) fun E=>?_
 show ab _ E ⟨73,[],[],[]⟩ _ ⟨[(0,.b (.one (.sl 6 (l0.map aj))))],[]⟩ _
 refine ab.seq (ab.aa ?_)
 refine Oc (pM rfl) (Oc oa (Oc oa ?_))
 refine af.ai ⟨[(1,.b (.aN [.sl 6 (l0.map aj)]))],[]⟩ rfl (ab.seq (ab.seq (ab.aa ?_)))
 refine Oc (az kr rfl rfl) ?_
 obtain ⟨x_1,e1,h⟩:=aO h
 refine Oc (ak (iF e1) goes40 rfl rfl) (af.ai ⟨[(1,_),(13,B x_1)],[]⟩ rfl (ab.ite h rfl (fun _ h=>?_) (fun _ h=>?_)))
 ·refine ab.seq (ab.aa ?_)
  refine Oc oa (Oc oa ?_)
  refine af.ai ⟨[(2,.b (.one (.nil))),(3,I 1)],[]⟩ rfl (ab.ret (Fin.ao ?_))
  obtain rfl:=Option.some.inj h
  refine Fin.ag ⟨[(2,_),(3,_)],[]⟩ rfl (Fin.fL 2 101 2 40 rfl (by decide) rfl (Fin.lO 101 kr0 [.row 101,.one (.i 1)] (.inl rfl) rfl (.cons (.tmp rfl) (.cons (.tmp rfl) .nil)) rfl rfl rfl rfl ⟨rfl,rfl⟩))
 ·refine ab.skip (Fin.ag ⟨[(1,_)],[]⟩ rfl (Fin.then (ab.seq (ab.aa ?_))))
  refine Oc (az kr rfl rfl) (Oc (a8 lK rfl (List.length_map _)) ?_)
  obtain ⟨x_2,e2,h⟩:=aO h
  refine Oc (pV (k:=102) (enc:=eI) cp e2 (by decide) (.cons .refl .nil) rfl rfl rfl) (Oc oa ?_)
  refine af.ai ⟨[(1,_),(4,.b (.row 102))],[(102,.row 3 1 (x_2.map eI))]⟩ rfl ?_
  obtain ⟨v3,h4,h⟩:=aO h
  refine ab.dY (v:=v3) (fun (order_3:List Int)=>⟨[(1,.b (.aN [.sl 6 (l0.map aj)])),(4,.b (.row 102))],[(102,.row 3 1 (order_3.map eI))]⟩) (fun z=>z) ?_ ?_
  ·refine ab.seq (ab.aa ?_)
   refine Oc om (Oc (eZ fm rfl rfl (List.length_map _)) (Oc om ?_))
   refine af.ai ⟨[(1,_),(4,_),(18,I (x_2.length:Int)),(19,I 0)],[(102,_)]⟩ rfl (ab.block (ab.c6 h4 (dn fun (order_4:List Int) (x_5:Int)=>⟨[(1,.b (.aN [.sl 6 (l0.map aj)])),(4,.b (.row 102)),(18,I (x_2.length:Int)),(19,I x_5)],[(102,.row 3 1 (order_4.map eI))]⟩) [1,4,18,19] [102] rfl ?_))
   rintro ⟨order_4,x_5⟩ o5 h6 hy7
   refine ab.seq (ab.aa ?_)
   refine Oc (bu rfl rfl) (af.ai ⟨[(1,_),(4,_),(18,_),(19,_),(20,B (decide (x_5 < (x_2.length:Int))))],[(102,_)]⟩ rfl (ab.seq (ab.ite h6 rfl (fun _ h6=>?_) (fun _ h6=>?_))))
   ·refine ab.skip (Fin.ag ⟨[(1,_),(4,_),(18,_),(19,_)],[(102,_)]⟩ rfl (Fin.then (ab.seq (ab.block (ab.seq (ab.aa ?_))))))
    refine Oc om (Oc oa ?_)
    refine af.ai ⟨[(1,_),(4,_),(5,I x_5),(18,_),(19,_)],[(102,_)]⟩ rfl (ab.aa (Oc om (Oc om (Oc om ?_))))
    obtain ⟨x_7,e8,h6⟩:=aO h6
    refine Oc (dI cp (bd e8) (jc e8) rfl rfl rfl rfl) (Oc (j8 (i:=(x_5:Int).toNat) aT rfl rfl rfl rfl (tC e8) (map_set _ _ _ _)) ?_)
    refine af.nil (Fin.ay (Fin.ag ⟨[(1,_),(4,_),(18,_),(19,_)],[(102,.row 3 1 ((order_4.set (x_5:Int).toNat x_5).map eI))]⟩ rfl (Fin.then (ab.aa ?_))))
    refine Oc (bJ rfl rfl) (Oc om ?_)
    refine af.nil ?_
    exact Fin.ct [1,4,18,19] [102] (order_4.set (x_5:Int).toNat x_5,IntKind.i64.wrap (x_5 + 1)) (Option.some.inj h6) rfl
   ·refine ab.exit (Fin.aA ?_)
    obtain rfl:=hy7 _ (Option.some.inj h6).symm
    refine Fin.aA (Fin.aV ?_)
    exact Fin.join [1,4] [102] order_4 rfl rfl
  ·rintro order_3 hv
   subst v3
   refine ab.seq (ab.aa ?_)
   refine Oc om (Oc (gI rfl) ?_)
   refine af.sM 102 rfl ?_
   obtain ⟨x_8,e9,h⟩:=aO h
   refine Oc (cT (own_a:=[(102,_)]) ((kn e9).sw 1 102) goes42 rfl ⟨rfl,trivial⟩ rfl rfl) (af.sL 102 rfl (af.ai ⟨[(1,_),(4,_)],[(102,.row 3 1 (x_8.map eI))]⟩ rfl (ab.seq (ab.aa ?_))))
   refine Oc oa (af.ai ⟨[(1,_),(4,_),(6,.b (.one (.nil)))],[(102,_)]⟩ rfl (ab.seq (ab.aa ?_)))
   refine Oc oa (af.ai ⟨[(1,_),(4,_),(6,_),(7,.b (.one (.nil)))],[(102,_)]⟩ rfl ?_)
   obtain ⟨v10,h11,h⟩:=aO h
   refine ab.dY (v:=v10) (fun (out_9:List A2)=>⟨[(7,.b (.row 106))],[(106,.row 40 2 (out_9.map (dB .i64)))]⟩) (fun z=>z) ?_ ?_
   ·refine ab.seq (ab.aa ?_)
    refine Oc om (Oc (eZ fm rfl rfl (List.length_map _)) (Oc om ?_))
    refine af.ai ⟨[(1,_),(6,_),(7,_),(30,.b (.row 102)),(31,I (x_8.length:Int)),(32,I 0)],[(102,_)]⟩ rfl (ab.block (ab.fL 6 104 1 3 rfl (by decide) rfl (ab.fL 7 106 2 40 rfl (by decide) rfl (ab.c6 h11 (tj fun (active_10:List Int) (out_11:List A2) (x_12:Int)=>⟨[(1,.b (.aN [.sl 6 (l0.map aj)])),(6,.b (.row 104)),(7,.b (.row 106)),(30,.b (.row 102)),(31,I (x_8.length:Int)),(32,I x_12)],[(102,.row 3 1 (x_8.map eI)),(104,.row 3 1 (active_10.map eI)),(106,.row 40 2 (out_11.map (dB .i64)))]⟩) [1,6,7,30,31,32] [102,104,106] rfl ?_))))
    rintro ⟨active_10,out_11,x_12⟩ o12 h13 hy14
    refine ab.seq (ab.aa ?_)
    refine Oc (bu rfl rfl) (af.ai ⟨[(1,_),(6,_),(7,_),(30,_),(31,_),(32,_),(33,B (decide (x_12 < (x_8.length:Int))))],[(102,_),(104,_),(106,_)]⟩ rfl (ab.seq (ab.ite h13 rfl (fun _ h13=>?_) (fun _ h13=>?_))))
    ·refine ab.skip (Fin.ag ⟨[(1,_),(6,_),(7,_),(30,_),(31,_),(32,_)],[(102,_),(104,_),(106,_)]⟩ rfl (Fin.then ?_))
     obtain ⟨v15,h16,h13⟩:=aO h13
     refine ab.dY (v:=v15) (dn fun (active_14:List Int) (out_15:List A2)=>⟨[(1,.b (.aN [.sl 6 (l0.map aj)])),(6,.b (.row 104)),(7,.b (.row 106)),(30,.b (.row 102)),(31,I (x_8.length:Int)),(32,I x_12)],[(102,.row 3 1 (x_8.map eI)),(104,.row 3 1 (active_14.map eI)),(106,.row 40 2 (out_15.map (dB .i64)))]⟩) (fun z=>z) ?_ ?_
     ·refine ab.block (ab.seq (ab.aa ?_))
      obtain ⟨x_16,e17,h16⟩:=aO h16
      refine Oc (dI cp (bd e17) (jc e17) rfl rfl rfl rfl) (Oc (fO (i:=(x_12:Int).toNat) (f:=0) aT rfl rfl rfl (cA (e:=eI) e17) rfl) (Oc (aZ (k:=107) tyZero3 rfl) (Oc (ee aT rfl rfl rfl (Nat.le_of_ble_eq_true rfl) rfl) ?_)))
      refine af.gg 107 rfl (af.ai ⟨[(1,_),(6,_),(7,_),(9,.b (.aN [.i x_16])),(30,_),(31,_),(32,_)],[(102,_),(104,_),(106,_)]⟩ rfl (ab.seq (ab.aa ?_)))
      refine Oc om (Oc (gI rfl) ?_)
      obtain ⟨x_17,e18,h16⟩:=aO h16
      refine Oc (cT (own_a:=[(104,_)]) ((ju e18).sw 1 104) goes45 rfl ⟨rfl,trivial⟩ rfl rfl) (Oc oa ?_)
      refine af.ai ⟨[(1,_),(6,_),(7,_),(9,_),(30,_),(31,_),(32,_)],[(102,_),(104,.row 3 1 (x_17.map eI)),(106,_)]⟩ rfl ?_
      obtain ⟨v19,h20,h16⟩:=aO h16
      refine ab.dY (v:=v19) (fun (out_18:List A2)=>⟨[(1,.b (.aN [.sl 6 (l0.map aj)])),(6,.b (.row 104)),(7,.b (.row 106)),(9,.b (.aN [.i x_16])),(30,.b (.row 102)),(31,I (x_8.length:Int)),(32,I x_12)],[(102,.row 3 1 (x_8.map eI)),(104,.row 3 1 (x_17.map eI)),(106,.row 40 2 (out_18.map (dB .i64)))]⟩) (fun z=>z) ?_ ?_
      ·refine ab.seq (ab.aa ?_)
       refine Oc om (Oc (eZ fm rfl rfl (List.length_map _)) (Oc om ?_))
       refine af.ai ⟨[(1,_),(6,_),(7,_),(9,_),(30,_),(31,_),(32,_),(39,.b (.row 104)),(40,I (x_17.length:Int)),(41,I 0)],[(102,_),(104,_),(106,_)]⟩ rfl (ab.block (ab.c6 h20 (dn fun (out_19:List A2) (x_20:Int)=>⟨[(1,.b (.aN [.sl 6 (l0.map aj)])),(6,.b (.row 104)),(7,.b (.row 106)),(9,.b (.aN [.i x_16])),(30,.b (.row 102)),(31,I (x_8.length:Int)),(32,I x_12),(39,.b (.row 104)),(40,I (x_17.length:Int)),(41,I x_20)],[(102,.row 3 1 (x_8.map eI)),(104,.row 3 1 (x_17.map eI)),(106,.row 40 2 (out_19.map (dB .i64)))]⟩) [1,6,7,9,30,31,32,39,40,41] [102,104,106] rfl ?_))
       rintro ⟨out_19,x_20⟩ o21 h22 hy23
       refine ab.seq (ab.aa ?_)
       refine Oc (bu rfl rfl) (af.ai ⟨[(1,_),(6,_),(7,_),(9,_),(30,_),(31,_),(32,_),(39,_),(40,_),(41,_),(42,B (decide (x_20 < (x_17.length:Int))))],[(102,_),(104,_),(106,_)]⟩ rfl (ab.seq (ab.ite h22 rfl (fun _ h22=>?_) (fun _ h22=>?_))))
       ·refine ab.skip (Fin.ag ⟨[(1,_),(6,_),(7,_),(9,_),(30,_),(31,_),(32,_),(39,_),(40,_),(41,_)],[(102,_),(104,_),(106,_)]⟩ rfl (Fin.then ?_))
        obtain ⟨v24,h25,h22⟩:=aO h22
        refine ab.dY (v:=v24) (fun (out_22:List A2)=>⟨[(1,.b (.aN [.sl 6 (l0.map aj)])),(6,.b (.row 104)),(7,.b (.row 106)),(9,.b (.aN [.i x_16])),(30,.b (.row 102)),(31,I (x_8.length:Int)),(32,I x_12),(39,.b (.row 104)),(40,I (x_17.length:Int)),(41,I x_20)],[(102,.row 3 1 (x_8.map eI)),(104,.row 3 1 (x_17.map eI)),(106,.row 40 2 (out_22.map (dB .i64)))]⟩) (fun z=>z) ?_ ?_
        ·refine ab.block (ab.seq (ab.aa ?_))
         obtain ⟨x_23,e26,h25⟩:=aO h25
         refine Oc (dI cp (bd e26) (jc e26) rfl rfl rfl rfl) (Oc (fO (i:=(x_20:Int).toNat) (f:=0) aT rfl rfl rfl (cA (e:=eI) e26) rfl) (Oc oa ?_))
         refine af.ai ⟨[(1,_),(6,_),(7,_),(9,_),(11,I x_23),(30,_),(31,_),(32,_),(39,_),(40,_),(41,_)],[(102,_),(104,_),(106,_)]⟩ rfl (ab.seq ?_)
         obtain ⟨x_24,e27,h25⟩:=aO h25
         obtain ⟨x_25,e28,h25⟩:=aO h25
         obtain ⟨x_26,e29,h25⟩:=aO h25
         refine ab.cc mixed 9 [.b (.one (.sl 6 (l0.map aj))),I x_16,.b (.aN (aj x_24)),.b (.agg (aj x_24)),.b (.one (.sl 6 (l0.map aj))),I x_23,.b (.aN (aj x_25)),.b (.agg (aj x_25)),B x_26] [1,6,7,9,11,30,31,32,39,40,41,53] [102,104,106] (s':=⟨[(1,_),(6,_),(7,_),(9,_),(11,_),(30,_),(31,_),(32,_),(39,_),(40,_),(41,_),(53,B x_26)],[(102,_),(104,_),(106,_)]⟩) rfl ⟨fun _=>.p (az kr rfl rfl),fun _=>.p (az aT rfl rfl),fun _=>.p (bc gU (bd e27) (cA (e:=aj) e27) rfl rfl),fun _=>.p (bV aC rfl rfl rfl),fun _=>.p (az kr rfl rfl),fun _=>.p om,fun _=>.p (bc gU (bd e28) (cA (e:=aj) e28) rfl rfl),fun _=>.p (bV aC rfl rfl rfl),fun _=>.p (ak (dd e29) mh rfl rfl),trivial⟩ rfl rfl (ab.ite h25 rfl (fun _ h25=>?_) (fun _ h25=>?_))
         ·refine ab.aa (Oc om (Oc (az aT rfl rfl) (Oc om (Oc (tL rfl rfl) (Oc (az aT rfl rfl) (Oc om ?_))))))
          refine af.ag ⟨[(1,_),(6,_),(7,_),(9,_),(30,_),(31,_),(32,_),(39,_),(40,_),(41,_),(54,.b (.row 106)),(57,I (min x_16 x_23)),(58,I x_16),(59,I x_23)],[(102,_),(104,_),(106,_)]⟩ rfl (Oc (rf rfl rfl) (Oc (dQ eY rfl rfl) (Oc (cr (k:=108) (es:=[(⟨min x_16 x_23,max x_16 x_23⟩:A2)].map (dB .i64)) iy rfl rfl (cH fun _=>rfl) rfl (by decide) (by decide) rfl) ?_)))
          obtain ⟨x_27,e30,h25⟩:=aO h25
          refine Oc (fe iy (oP e30) (oO e30) rfl rfl rfl rfl (kA e30) rfl) (Oc oa ?_)
          refine af.nil (Fin.ay ?_)
          exact Fin.join [1,6,7,9,30,31,32,39,40,41] [102,104,106] x_27 (Option.some.inj h25) rfl
         ·refine ab.skip (Fin.ay ?_)
          exact Fin.join [1,6,7,9,30,31,32,39,40,41] [102,104,106] out_19 (Option.some.inj h25) rfl
        ·rintro out_22 hv
         subst v24
         refine ab.aa (Oc (bJ rfl rfl) (Oc om ?_))
         refine af.nil ?_
         exact Fin.ct [1,6,7,9,30,31,32,39,40,41] [102,104,106] (out_22,IntKind.i64.wrap (x_20 + 1)) (Option.some.inj h22) rfl
       ·refine ab.exit (Fin.aA ?_)
        obtain rfl:=hy23 _ (Option.some.inj h22).symm
        refine Fin.aA (Fin.aV ?_)
        exact Fin.join [1,6,7,9,30,31,32] [102,104,106] out_19 rfl rfl
      ·rintro out_18 hv
       subst v19
       refine ab.aa (Oc om (Oc (az aT rfl rfl) (Oc (cr (k:=109) (es:=[x_16].map eI) cp rfl rfl (cH fun _=>rfl) rfl (by decide) (by decide) rfl) ?_)))
       obtain ⟨x_28,e31,h16⟩:=aO h16
       refine Oc (fe cp (oP e31) (oO e31) rfl rfl rfl rfl (kA e31) rfl) (Oc oa ?_)
       refine af.nil (Fin.ay ?_)
       exact Fin.join [1,6,7,30,31,32] [102,104,106] (x_28,out_18) (Option.some.inj h16) rfl
     ·rintro ⟨active_14,out_15⟩ hv
      subst v15
      refine ab.aa (Oc (bJ rfl rfl) (Oc om ?_))
      refine af.nil ?_
      exact Fin.ct [1,6,7,30,31,32] [102,104,106] (active_14,out_15,IntKind.i64.wrap (x_12 + 1)) (Option.some.inj h13) rfl
    ·refine ab.exit (Fin.aA ?_)
     obtain rfl:=hy14 _ (Option.some.inj h13).symm
     refine Fin.aA (Fin.aV ?_)
     exact Fin.join [7] [106] out_11 rfl rfl
   ·rintro out_9 hv
    subst v10
    refine ab.seq (ab.aa ?_)
    refine Oc om (af.sM 106 rfl ?_)
    obtain ⟨x_29,e32,h⟩:=aO h
    refine Oc (cT (own_a:=[(106,_)]) ((kq e32).sw 1 106) goes47 rfl ⟨rfl,trivial⟩ rfl rfl) (af.sL 106 rfl (af.ai ⟨[(7,_)],[(106,.row 40 2 (x_29.map (dB .i64)))]⟩ rfl (ab.seq (ab.aa ?_))))
    refine Oc om (Oc oa (Oc oa ?_))
    refine af.ai ⟨[(2,.b (.row 106)),(3,I 0)],[(106,_)]⟩ rfl (ab.ret ?_)
    obtain rfl:=Option.some.inj h
    refine Fin.ag ⟨[(2,_),(3,_)],[(106,_)]⟩ rfl (Fin.lO 106 kr0 [.row 106,.one (.i 0)] (.inl rfl) rfl (.cons (.tmp rfl) (.cons (.tmp rfl) .nil)) rfl rfl rfl rfl ⟨rfl,rfl⟩)
def aW (F:Nat) (a0:List A2) (b0:List A2):Option Bool :=
 if (decide ((a0.length:Int) ≠ (b0.length:Int))) = true then (some false) else (Option.bind (iter F (fun i_1=>if (decide (i_1 < (a0.length:Int))) = true then ((bg a0 i_1).bind fun x_2=>(bg b0 i_1).bind fun x_3=>if (decide (x_2 ≠ x_3)) = true then (some (.inr (.inr false))) else (some (.inl (IntKind.i64.wrap (i_1 + 1))))) else (some (.inr (.inl ())))) 0) (bZ (fun _=>some true) (fun y=>some y)))
theorem bB {F:Nat} {a0:List A2} {b0:List A2} {r:Bool} (h:aW F a0 b0 = some r):au Tryz.prog [] 22 [] [.one (.sl 2 (a0.map (dB .i64))),.one (.sl 2 (b0.map (dB .i64)))] (Is [] (.b (.one (.bool r)))):=by
 unfold aW at h
 refine au.intro 26 Tryz.func22 Tryz.ntmps22 rfl (by simp) fun E=>?_
 show ab _ E ⟨26,[],[],[]⟩ _ ⟨[(0,.b (.one (.sl 2 (a0.map (dB .i64))))),(1,.b (.one (.sl 2 (b0.map (dB .i64)))))],[]⟩ _
 refine ab.seq (ab.aa ?_)
 refine Oc oa (af.ai ⟨[(0,.b (.one (.sl 2 (a0.map (dB .i64))))),(1,.b (.one (.sl 2 (b0.map (dB .i64)))))],[]⟩ rfl (ab.seq (ab.seq (ab.aa ?_))))
 refine Oc om (Oc (a8 r6 rfl (List.length_map _)) (Oc om (Oc (a8 r6 rfl (List.length_map _)) (Oc (gV rfl rfl) ?_))))
 refine af.ai ⟨[(0,_),(1,_),(10,B (decide ((a0.length:Int) ≠ (b0.length:Int))))],[]⟩ rfl (ab.ite h rfl (fun _ h=>?_) (fun _ h=>?_))
 ·refine ab.seq (ab.aa ?_)
  refine Oc oa (af.ai ⟨[(4,B false)],[]⟩ rfl (ab.ret (Fin.ao ?_)))
  obtain rfl:=Option.some.inj h
  refine Fin.ag ⟨[(4,_)],[]⟩ rfl (Fin.av [.one (.bool false)] (.inl rfl) rfl (.cons (.tmp rfl) .nil) ⟨rfl,rfl⟩)
 ·refine ab.skip (Fin.ag ⟨[(0,_),(1,_)],[]⟩ rfl (Fin.then ?_))
  obtain ⟨v1,h2,h⟩:=aO h
  refine ab.dY (v:=v1) (fun (_:Unit)=>⟨[],[]⟩) (fun z=>.inl z) ?_ ?_
  ·refine ab.seq (ab.aa ?_)
   refine Oc oa (af.ai ⟨[(0,_),(1,_),(5,I 0)],[]⟩ rfl (ab.block (ab.c6 h2 (fun (i_1:Int)=>⟨[(0,.b (.one (.sl 2 (a0.map (dB .i64))))),(1,.b (.one (.sl 2 (b0.map (dB .i64))))),(5,I i_1)],[]⟩) [0,1,5] [] rfl ?_)))
   rintro i_1 o3 h4 hy5
   refine ab.seq (ab.seq (ab.aa ?_))
   refine Oc om (Oc om (Oc (a8 r6 rfl (List.length_map _)) (Oc (bu rfl rfl) ?_)))
   refine af.ai ⟨[(0,_),(1,_),(5,_),(14,B (decide (i_1 < (a0.length:Int))))],[]⟩ rfl (ab.ite h4 rfl (fun _ h4=>?_) (fun _ h4=>?_))
   ·refine ab.skip (Fin.ag ⟨[(0,_),(1,_),(5,_)],[]⟩ rfl (Fin.then (ab.seq (ab.block (ab.seq ?_)))))
    refine ab.ag ⟨[(0,_),(1,_),(5,_)],[]⟩ rfl ?_
    obtain ⟨x_2,e6,h4⟩:=aO h4
    obtain ⟨x_3,e7,h4⟩:=aO h4
    refine ab.cc mixed 9 [.b (.one (.sl 2 (a0.map (dB .i64)))),I i_1,.b (.aN ((dB .i64) x_2)),.b (.agg ((dB .i64) x_2)),.b (.one (.sl 2 (b0.map (dB .i64)))),I i_1,.b (.aN ((dB .i64) x_3)),.b (.agg ((dB .i64) x_3)),B (decide (x_2 ≠ x_3))] [0,1,5,25] [] (s':=⟨[(0,_),(1,_),(5,_),(25,B (decide (x_2 ≠ x_3)))],[]⟩) rfl ⟨fun _=>.p om,fun _=>.p om,fun _=>.p (bc iy (bd e6) (cA (e:=(dB .i64)) e6) rfl rfl),fun _=>.p (bV nk rfl rfl rfl),fun _=>.p om,fun _=>.p om,fun _=>.p (bc iy (bd e7) (cA (e:=(dB .i64)) e7) rfl rfl),fun _=>.p (bV nk rfl rfl rfl),fun _=>.p (rO (eqAgg40 x_2 x_3) rfl rfl neg_dec),trivial⟩ rfl rfl (ab.ite h4 rfl (fun _ h4=>?_) (fun _ h4=>?_))
    ·refine ab.seq (ab.aa ?_)
     refine Oc oa (af.ai ⟨[(4,B false)],[]⟩ rfl (ab.ret (Fin.aK (Fin.ao ?_))))
     obtain rfl:=hy5 _ (Option.some.inj h4).symm
     refine Fin.ao (Fin.aK (Fin.ao ?_))
     obtain rfl:=Option.some.inj h
     refine Fin.ag ⟨[(4,_)],[]⟩ rfl (Fin.av [.one (.bool false)] (.inl rfl) rfl (.cons (.tmp rfl) .nil) ⟨rfl,rfl⟩)
    ·refine ab.skip (Fin.ay (Fin.ag ⟨[(0,_),(1,_),(5,_)],[]⟩ rfl (Fin.then (ab.aa ?_))))
     refine Oc om (Oc (bJ rfl rfl) (Oc oa ?_))
     refine af.nil ?_
     exact Fin.ct [0,1,5] [] (IntKind.i64.wrap (i_1 + 1)) (Option.some.inj h4) rfl
   ·refine ab.exit (Fin.aA ?_)
    obtain rfl:=hy5 _ (Option.some.inj h4).symm
    refine Fin.aA (Fin.aV ?_)
    exact Fin.join [] [] () rfl rfl
  ·rintro _ hv
   subst v1
   refine ab.seq (ab.aa ?_)
   refine Oc oa (af.ai ⟨[(4,B true)],[]⟩ rfl (ab.ret ?_))
   obtain rfl:=Option.some.inj h
   refine Fin.ag ⟨[(4,_)],[]⟩ rfl (Fin.av [.one (.bool true)] (.inl rfl) rfl (.cons (.tmp rfl) .nil) ⟨rfl,rfl⟩)
def fg (F:Nat):Option ca :=
 some (⟨(⟨.leaf,50,48,49⟩:iJ),(⟨.leaf,51,48,49⟩:iJ)⟩:ca)
theorem fF {F:Nat} {r:ca} (h:fg F = some r):au Tryz.prog [] 23 [] [] (Is [] (.b (.agg (an r)))):=by
 unfold fg at h
 refine au.intro 14 Tryz.func23 Tryz.ntmps23 rfl (by simp) fun E=>?_
 show ab _ E ⟨14,[],[],[]⟩ _ ⟨[],[]⟩ _
 refine ab.seq (ab.aa ?_)
 refine Oc (aZ (k:=101) eb rfl) (af.ai ⟨[(0,Pt 101 0)],[(101,.box 49 [.tr ae (.leaf),.c5 0,.c5 0,.c5 0,.tr ae (.leaf),.c5 0,.c5 0,.c5 0])]⟩ rfl (ab.seq (ab.aa ?_)))
 refine Oc oa (af.ai ⟨[(0,_),(1,.b (.one (.raw (.func (.func 48) #[] #[]))))],[(101,_)]⟩ rfl (ab.seq (ab.aa ?_)))
 refine Oc oa (af.ai ⟨[(0,_),(1,_),(2,.b (.one (.raw (.func (.func 49) #[] #[]))))],[(101,_)]⟩ rfl (ab.seq (ab.aa ?_)))
 refine Oc oa (af.ai ⟨[(0,_),(1,_),(2,_),(3,.b (.one (.raw (.func (.func 50) #[] #[]))))],[(101,_)]⟩ rfl (ab.seq (ab.aa ?_)))
 refine Oc oa (af.ai ⟨[(0,_),(1,_),(2,_),(3,_),(4,.b (.one (.raw (.func (.func 51) #[] #[]))))],[(101,_)]⟩ rfl (ab.seq (ab.aa ?_)))
 refine Oc om (Oc om (Oc om (Oc (cI oT rfl rfl) (Oc om (Oc om ?_)))))
 refine Oc om (af.ag ⟨[(0,_),(8,.b (.agg [.tr ae (.leaf),.raw (.func (.func 50) #[] #[]),.raw (.func (.func 48) #[] #[]),.raw (.func (.func 49) #[] #[])])),(9,.b (.one (.raw (.func (.func 51) #[] #[])))),(10,.b (.one (.raw (.func (.func 48) #[] #[])))),(11,.b (.one (.raw (.func (.func 49) #[] #[]))))],[(101,_)]⟩ rfl (Oc (cI oT rfl rfl) (Oc (cI eX rfl rfl) (Oc (aE aJ rfl rfl rfl rfl (Nat.le_of_ble_eq_true rfl) rfl) ?_))))
 refine af.ai ⟨[(0,_)],[(101,.box 49 [.tr ae (.leaf),.raw (.func (.func 50) #[] #[]),.raw (.func (.func 48) #[] #[]),.raw (.func (.func 49) #[] #[]),.tr ae (.leaf),.raw (.func (.func 51) #[] #[]),.raw (.func (.func 48) #[] #[]),.raw (.func (.func 49) #[] #[])])]⟩ rfl (ab.ret ?_)
 obtain rfl:=Option.some.inj h
 refine Fin.ag ⟨[(0,_)],[(101,_)]⟩ rfl (Fin.av [.agg [.tr ae (.leaf),.raw (.func (.func 50) #[] #[]),.raw (.func (.func 48) #[] #[]),.raw (.func (.func 49) #[] #[]),.tr ae (.leaf),.raw (.func (.func 51) #[] #[]),.raw (.func (.func 48) #[] #[]),.raw (.func (.func 49) #[] #[])]] (.inl rfl) rfl (.cons (.agg aJ rfl rfl rfl rfl) .nil) ⟨rfl,rfl⟩)
def cz (F:Nat) (s0:ca) (id0:Int):Option (entry × Bool) :=
 Option.bind (iter F (fun n_1=>if (!n_1.c7) = true then (Option.bind (iI n_1) (fun nd_2=>if (decide (id0 = nd_2.1.x.id)) = true then (Option.bind (iI n_1) (fun nd_3=>some (.inr (.inr (nd_3.1.x,true))))) else (Option.bind (iI n_1) (fun nd_4=>if (decide (id0 < nd_4.1.x.id)) = true then (Option.bind (iI n_1) (fun nd_5=>some (.inl nd_5.2.1))) else (Option.bind (iI n_1) (fun nd_6=>some (.inl nd_6.2.2))))))) else (some (.inr (.inl ())))) s0.ids.root) (bZ (fun _=>fj (⟨0,(⟨A3.zero,A3.zero⟩:bC)⟩:entry) fun x_7=>some (x_7,false)) (fun y=>some y))
theorem eT {F:Nat} {s0:ca} {id0:Int} {r:entry × Bool} (h:cz F s0 id0 = some r):au Tryz.prog [] 54 [] [.agg (an s0),.one (.i id0)] (Is [] (.dD [.agg (ar r.1),.one (.bool r.2)])):=by
 unfold cz at h
 refine au.intro 41 Tryz.func54 Tryz.ntmps54 rfl (by simp) fun E=>?_
 show ab _ E ⟨41,[],[],[]⟩ _ ⟨[(0,.b (.agg (an s0))),(1,I id0)],[]⟩ _
 refine ab.seq (ab.aa ?_)
 refine Oc (bR (k:=101) rfl rfl) (Oc (aZ (k:=102) ga rfl) (Oc oa ?_))
 refine af.ai ⟨[(1,I id0),(2,Pt 101 0),(4,Pt 102 0)],[(101,.box 49 (an s0)),(102,.box 87 (.i 0 :: ((cS .i64) A3.zero ++ ((cS .i64) A3.zero))))]⟩ rfl ?_
 obtain ⟨v1,h2,h⟩:=aO h
 refine ab.dY (v:=v1) (fun (_:Unit)=>⟨[(4,Pt 102 0)],[(102,.box 87 (.i 0 :: ((cS .i64) A3.zero ++ ((cS .i64) A3.zero))))]⟩) (fun z=>.inl z) ?_ ?_
 ·refine ab.seq (ab.aa ?_)
  refine Oc (aw iQ rfl rfl) (Oc (aw eW rfl rfl) (Oc (aM bw rfl rfl rfl) (Oc oa ?_)))
  refine af.ai ⟨[(1,_),(4,_),(6,.b (.one (.tr ae s0.ids.root)))],[(102,_)]⟩ rfl (ab.block (ab.c6 h2 (fun (n_1:cN bf)=>⟨[(1,I id0),(4,Pt 102 0),(6,.b (.one (.tr ae n_1)))],[(102,.box 87 (.i 0 :: ((cS .i64) A3.zero ++ ((cS .i64) A3.zero))))]⟩) [1,4,6] [102] rfl ?_))
  rintro n_1 o3 h4 hy5
  refine ab.seq (ab.seq (ab.aa ?_))
  refine Oc om (Oc (qM la rfl) ?_)
  refine af.ai ⟨[(1,_),(4,_),(6,_),(11,B (!n_1.c7))],[(102,_)]⟩ rfl (ab.ite h4 rfl (fun _ h4=>?_) (fun _ h4=>?_))
  ·refine ab.skip (Fin.ag ⟨[(1,_),(4,_),(6,_)],[(102,_)]⟩ rfl (Fin.then (ab.block (ab.block (ab.seq (ab.aa ?_))))))
   refine Oc om (Oc om ?_)
   obtain ⟨nd_2,e6,h4⟩:=aO h4
   refine Oc (aG e6 rfl rfl) (Oc (aF ed rfl rfl) (Oc (aF dv rfl rfl) (Oc (az aT rfl rfl) (Oc (di rfl rfl) (Oc oa ?_)))))
   refine af.ai ⟨[(1,_),(4,_),(6,_),(16,B (decide (id0 = nd_2.1.x.id)))],[(102,_)]⟩ rfl (ab.ite h4 rfl (fun _ h4=>?_) (fun _ h4=>?_))
   ·refine ab.seq (ab.aa ?_)
    refine Oc om ?_
    obtain ⟨nd_3,e7,h4⟩:=aO h4
    refine Oc (aG e7 rfl rfl) (Oc (aF ed rfl rfl) (Oc (bV bz rfl rfl rfl) (Oc (aE bz rfl rfl rfl rfl (Nat.le_of_ble_eq_true rfl) rfl) (Oc oa ?_))))
    refine af.ai ⟨[(4,_),(5,B true)],[(102,.box 87 (ar nd_3.1.x))]⟩ rfl (ab.ret (Fin.aK (Fin.aK ?_)))
    obtain rfl:=hy5 _ (Option.some.inj h4).symm
    refine Fin.ao (Fin.aK (Fin.ao ?_))
    obtain rfl:=Option.some.inj h
    refine Fin.ag ⟨[(4,_),(5,_)],[(102,_)]⟩ rfl (Fin.av [.agg (ar nd_3.1.x),.one (.bool true)] (.inl rfl) rfl (.cons (.agg bz rfl rfl rfl rfl) (.cons (.tmp rfl) .nil)) ⟨rfl,rfl⟩)
   ·refine ab.seq (ab.aa ?_)
    refine Oc om (Oc om ?_)
    obtain ⟨nd_4,e8,h4⟩:=aO h4
    refine Oc (aG e8 rfl rfl) (Oc (aF ed rfl rfl) (Oc (aF dv rfl rfl) (Oc (az aT rfl rfl) (Oc (bu rfl rfl) (Oc oa ?_)))))
    refine af.ai ⟨[(1,_),(4,_),(6,_),(28,B (decide (id0 < nd_4.1.x.id)))],[(102,_)]⟩ rfl (ab.ite h4 rfl (fun _ h4=>?_) (fun _ h4=>?_))
    ·refine ab.aa (Oc om ?_)
     obtain ⟨nd_5,e9,h4⟩:=aO h4
     refine Oc (aG e9 rfl rfl) (Oc (aF dH rfl rfl) (Oc (az bw rfl rfl) (Oc oa ?_)))
     refine af.nil (Fin.ay (Fin.ay ?_))
     exact Fin.ct [1,4,6] [102] nd_5.2.1 (Option.some.inj h4) rfl
    ·refine ab.aa (Oc om ?_)
     obtain ⟨nd_6,e10,h4⟩:=aO h4
     refine Oc (aG e10 rfl rfl) (Oc (aF dG rfl rfl) (Oc (az bw rfl rfl) (Oc oa ?_)))
     refine af.nil (Fin.ay (Fin.ay ?_))
     exact Fin.ct [1,4,6] [102] nd_6.2.2 (Option.some.inj h4) rfl
  ·refine ab.exit (Fin.aA ?_)
   obtain rfl:=hy5 _ (Option.some.inj h4).symm
   refine Fin.aA (Fin.aV ?_)
   exact Fin.join [4] [102] () rfl rfl
 ·rintro _ hv
  subst v1
  refine ab.seq (ab.aa ?_)
  refine af.lM ar h rfl (cI oS rfl rfl) (fun x_7 h=>?_)
  refine Oc (aE bz rfl rfl rfl rfl (Nat.le_of_ble_eq_true rfl) rfl) (Oc oa ?_)
  refine af.ai ⟨[(4,_),(5,B false)],[(102,.box 87 (ar x_7))]⟩ rfl (ab.ret ?_)
  obtain rfl:=Option.some.inj h
  refine Fin.ag ⟨[(4,_),(5,_)],[(102,_)]⟩ rfl (Fin.av [.agg (ar x_7),.one (.bool false)] (.inl rfl) rfl (.cons (.agg bz rfl rfl rfl rfl) (.cons (.tmp rfl) .nil)) ⟨rfl,rfl⟩)
def dT (F:Nat) (s0:List (cN bf)) (f0:Nat):Option Int :=
 Option.bind (iter F (fun x_1=>if (decide (x_1 < (s0.length:Int))) = true then ((bg s0 x_1).bind fun x_2=>(gP F f0 x_2).bind fun x_3=>if x_3 = true then (some (.inr (.inr x_1))) else (some (.inl (IntKind.i64.wrap (x_1 + 1))))) else (some (.inr (.inl ())))) 0) (bZ (fun _=>some (-1)) (fun y=>some y))
theorem iE {F:Nat} {s0:List (cN bf)} {f0:Nat} {r:Int} (h:dT F s0 f0 = some r):au Tryz.prog [] 131 [] [.one (.sl 1 (s0.map (mO ae))),.one (.raw (.func (.func f0) #[] #[]))] (Is [] (.b (.one (.i r)))):=by
 unfold dT at h
 refine au.intro 19 Tryz.func131 Tryz.ntmps131 rfl (by simp) fun E=>?_
 show ab _ E ⟨19,[],[],[]⟩ _ ⟨[(0,.b (.one (.sl 1 (s0.map (mO ae))))),(1,.b (.one (.raw (.func (.func f0) #[] #[]))))],[]⟩ _
 refine ab.seq (ab.aa ?_)
 refine Oc oa (af.ai ⟨[(0,.b (.one (.sl 1 (s0.map (mO ae))))),(1,.b (.one (.raw (.func (.func f0) #[] #[]))))],[]⟩ rfl ?_)
 obtain ⟨v1,h2,h⟩:=aO h
 refine ab.dY (v:=v1) (fun (_:Unit)=>⟨[],[]⟩) (fun z=>.inl z) ?_ ?_
 ·refine ab.seq (ab.aa ?_)
  refine Oc om (Oc (a8 q8 rfl (List.length_map _)) (Oc om ?_))
  refine af.ai ⟨[(0,_),(1,_),(7,I (s0.length:Int)),(8,I 0)],[]⟩ rfl (ab.block (ab.c6 h2 (fun (x_1:Int)=>⟨[(0,.b (.one (.sl 1 (s0.map (mO ae))))),(1,.b (.one (.raw (.func (.func f0) #[] #[])))),(7,I (s0.length:Int)),(8,I x_1)],[]⟩) [0,1,7,8] [] rfl ?_))
  rintro x_1 o3 h4 hy5
  refine ab.seq (ab.aa ?_)
  refine Oc (bu rfl rfl) (af.ai ⟨[(0,_),(1,_),(7,_),(8,_),(9,B (decide (x_1 < (s0.length:Int))))],[]⟩ rfl (ab.seq (ab.ite h4 rfl (fun _ h4=>?_) (fun _ h4=>?_))))
  ·refine ab.skip (Fin.ag ⟨[(0,_),(1,_),(7,_),(8,_)],[]⟩ rfl (Fin.then (ab.seq (ab.block (ab.seq (ab.aa ?_))))))
   refine Oc om (Oc oa ?_)
   refine af.ai ⟨[(0,_),(1,_),(5,I x_1),(7,_),(8,_)],[]⟩ rfl (ab.seq (ab.aa ?_))
   refine Oc om (Oc om (Oc om ?_))
   obtain ⟨x_2,e6,h4⟩:=aO h4
   refine Oc (bc je (bd e6) (cA (e:=(mO ae)) e6) rfl rfl) (Oc (az bw rfl rfl) ?_)
   obtain ⟨x_3,e7,h4⟩:=aO h4
   refine Oc (iT (lY e7) (lZ e7) rfl rfl rfl) (af.ai ⟨[(0,_),(1,_),(5,_),(7,_),(8,_),(16,B x_3)],[]⟩ rfl (ab.ite h4 rfl (fun _ h4=>?_) (fun _ h4=>?_)))
   ·refine ab.seq (ab.aa ?_)
    refine Oc om (Oc oa ?_)
    refine af.ai ⟨[(4,I x_1)],[]⟩ rfl (ab.ret (Fin.aK (Fin.ao ?_)))
    obtain rfl:=hy5 _ (Option.some.inj h4).symm
    refine Fin.ao (Fin.aK (Fin.ao ?_))
    obtain rfl:=Option.some.inj h
    refine Fin.ag ⟨[(4,_)],[]⟩ rfl (Fin.av [.one (.i x_1)] (.inl rfl) rfl (.cons (.tmp rfl) .nil) ⟨rfl,rfl⟩)
   ·refine ab.skip (Fin.ay (Fin.ag ⟨[(0,_),(1,_),(7,_),(8,_)],[]⟩ rfl (Fin.then (ab.aa ?_))))
    refine Oc (bJ rfl rfl) (Oc om ?_)
    refine af.nil ?_
    exact Fin.ct [0,1,7,8] [] (IntKind.i64.wrap (x_1 + 1)) (Option.some.inj h4) rfl
  ·refine ab.exit (Fin.aA ?_)
   obtain rfl:=hy5 _ (Option.some.inj h4).symm
   refine Fin.aA (Fin.aV ?_)
   exact Fin.join [] [] () rfl rfl
 ·rintro _ hv
  subst v1
  refine ab.seq (ab.aa ?_)
  refine Oc oa (af.ai ⟨[(4,I (-1))],[]⟩ rfl (ab.ret ?_))
  obtain rfl:=Option.some.inj h
  refine Fin.ag ⟨[(4,_)],[]⟩ rfl (Fin.av [.one (.i (-1))] (.inl rfl) rfl (.cons (.tmp rfl) .nil) ⟨rfl,rfl⟩)
def dM (F:Nat) (del0:Nat) (s0:List (cN bf)):Option (List (cN bf)) :=
 (dT F s0 del0).bind fun x_1=>if (decide (x_1 = (-1))) = true then (some s0) else (Option.bind (iter F (tj fun s_4 i_5 j_6=>if (decide (j_6 < (s_4.length:Int))) = true then (Option.bind ((bg s_4 j_6).bind fun x_11=>(gP F del0 x_11).bind fun x_12=>if (!x_12) = true then ((bg s_4 i_5).bind fun x_13=>some (s_4.set (i_5:Int).toNat x_11,IntKind.i64.wrap (i_5 + 1))) else (some (s_4,i_5))) (dn fun s_9 i_10=>some (.inl (s_9,i_10,IntKind.i64.wrap (j_6 + 1))))) else (some (.inr (s_4,i_5)))) (s0,x_1,IntKind.i64.wrap (x_1 + 1))) (dn fun s_2 i_3=>Option.bind (tw (.leaf:cN bf) s_2 i_3) (fun z_14=>(mP z_14 i_3).bind fun x_15=>some x_15)))
theorem ij {F:Nat} {del0:Nat} {s0:List (cN bf)} {r:(List (cN bf))} (h:dM F del0 s0 = some r):au Tryz.prog [] 122 [(1,.row 42 1 (s0.map (mO ae)))] [.row 1,.one (.raw (.func (.func del0) #[] #[]))] (Is [(1,.row 42 1 (r.map (mO ae)))] (.b (.row 1))):=by
 unfold dM at h
 refine au.intro 42 Tryz.func122 Tryz.ntmps122 rfl (by simp) fun E=>?_
 show ab _ E ⟨42,[],[1],[]⟩ _ ⟨[(0,.b (.row 1)),(1,.b (.one (.raw (.func (.func del0) #[] #[]))))],[(1,.row 42 1 (s0.map (mO ae)))]⟩ _
 refine ab.seq (ab.aa ?_)
 refine Oc oa (af.ai ⟨[(0,.b (.row 1)),(1,.b (.one (.raw (.func (.func del0) #[] #[]))))],[(1,.row 42 1 (s0.map (mO ae)))]⟩ rfl (ab.seq (ab.aa ?_)))
 refine Oc om (Oc om ?_)
 obtain ⟨x_1,e1,h⟩:=aO h
 refine Oc (gh (iE e1) goes131 rfl CP.qz) (Oc oa ?_)
 refine af.ai ⟨[(0,_),(1,_),(5,I x_1)],[(1,_)]⟩ rfl (ab.seq (ab.seq (ab.aa ?_)))
 refine Oc om (Oc (di rfl rfl) ?_)
 refine af.ai ⟨[(0,_),(1,_),(5,_),(12,B (decide (x_1 = (-1))))],[(1,_)]⟩ rfl (ab.ite h rfl (fun _ h=>?_) (fun _ h=>?_))
 ·refine ab.seq (ab.aa ?_)
  refine Oc om (Oc oa ?_)
  refine af.ai ⟨[(4,.b (.row 1))],[(1,_)]⟩ rfl (ab.ret (Fin.ao ?_))
  obtain rfl:=Option.some.inj h
  refine Fin.ag ⟨[(4,_)],[(1,_)]⟩ rfl ?_
  exact Fin.result [.row 1] (.inl rfl) rfl (.cons (.tmp rfl) .nil) ⟨rfl,rfl⟩
 ·refine ab.skip (Fin.ag ⟨[(0,_),(1,_),(5,_)],[(1,_)]⟩ rfl (Fin.then ?_))
  obtain ⟨v2,h3,h⟩:=aO h
  refine ab.dY (v:=v2) (dn fun (s_2:List (cN bf)) (i_3:Int)=>⟨[(0,.b (.row 1)),(5,I i_3)],[(1,.row 42 1 (s_2.map (mO ae)))]⟩) (fun z=>z) ?_ ?_
  ·refine ab.seq (ab.aa ?_)
   refine Oc om (Oc (bJ rfl rfl) (Oc oa ?_))
   refine af.ai ⟨[(0,_),(1,_),(5,_),(6,I (IntKind.i64.wrap (x_1 + 1)))],[(1,_)]⟩ rfl (ab.block (ab.c6 h3 (tj fun (s_4:List (cN bf)) (i_5:Int) (j_6:Int)=>⟨[(0,.b (.row 1)),(1,.b (.one (.raw (.func (.func del0) #[] #[])))),(5,I i_5),(6,I j_6)],[(1,.row 42 1 (s_4.map (mO ae)))]⟩) [0,1,5,6] [1] rfl ?_))
   rintro ⟨s_4,i_5,j_6⟩ o4 h5 hy6
   refine ab.seq (ab.seq (ab.aa ?_))
   refine Oc om (Oc om (Oc (eZ q8 rfl rfl (List.length_map _)) (Oc (bu rfl rfl) ?_)))
   refine af.ai ⟨[(0,_),(1,_),(5,_),(6,_),(19,B (decide (j_6 < (s_4.length:Int))))],[(1,_)]⟩ rfl (ab.ite h5 rfl (fun _ h5=>?_) (fun _ h5=>?_))
   ·refine ab.skip (Fin.ag ⟨[(0,_),(1,_),(5,_),(6,_)],[(1,_)]⟩ rfl (Fin.then ?_))
    obtain ⟨v7,h8,h5⟩:=aO h5
    refine ab.dY (v:=v7) (dn fun (s_9:List (cN bf)) (i_10:Int)=>⟨[(0,.b (.row 1)),(1,.b (.one (.raw (.func (.func del0) #[] #[])))),(5,I i_10),(6,I j_6)],[(1,.row 42 1 (s_9.map (mO ae)))]⟩) (fun z=>z) ?_ ?_
    ·refine ab.block (ab.seq (ab.aa ?_))
     refine Oc om (Oc om ?_)
     obtain ⟨x_11,e9,h8⟩:=aO h8
     refine Oc (dI je (bd e9) (jc e9) rfl rfl rfl rfl) (Oc (fO (i:=(j_6:Int).toNat) (f:=0) bw rfl rfl rfl (cA (e:=(mO ae)) e9) rfl) (Oc oa ?_))
     refine af.ai ⟨[(0,_),(1,_),(5,_),(6,_),(7,.b (.one (.tr ae x_11)))],[(1,_)]⟩ rfl (ab.seq (ab.aa ?_))
     refine Oc om (Oc om ?_)
     obtain ⟨x_12,e10,h8⟩:=aO h8
     refine Oc (iT (lY e10) (lZ e10) rfl rfl rfl) (Oc (dF rfl) ?_)
     refine af.ai ⟨[(0,_),(1,_),(5,_),(6,_),(7,_),(29,B (!x_12))],[(1,_)]⟩ rfl (ab.ite h8 rfl (fun _ h8=>?_) (fun _ h8=>?_))
     ·refine ab.seq (ab.aa ?_)
      refine Oc om (Oc om (Oc om ?_))
      obtain ⟨x_13,e11,h8⟩:=aO h8
      refine Oc (dI je (bd e11) (jc e11) rfl rfl rfl rfl) (Oc (j8 (i:=(i_5:Int).toNat) bw rfl rfl rfl rfl (tC e11) (map_set _ _ _ _)) ?_)
      refine af.ai ⟨[(0,_),(1,_),(5,_),(6,_)],[(1,.row 42 1 ((s_4.set (i_5:Int).toNat x_11).map (mO ae)))]⟩ rfl (ab.aa (Oc om (Oc (bJ rfl rfl) (Oc oa ?_))))
      refine af.nil (Fin.ay ?_)
      exact Fin.join [0,1,5,6] [1] (s_4.set (i_5:Int).toNat x_11,IntKind.i64.wrap (i_5 + 1)) (Option.some.inj h8) rfl
     ·refine ab.skip (Fin.ay ?_)
      exact Fin.join [0,1,5,6] [1] (s_4,i_5) (Option.some.inj h8) rfl
    ·rintro ⟨s_9,i_10⟩ hv
     subst v7
     refine ab.aa (Oc om (Oc (bJ rfl rfl) (Oc oa ?_)))
     refine af.nil ?_
     exact Fin.ct [0,1,5,6] [1] (s_9,i_10,IntKind.i64.wrap (j_6 + 1)) (Option.some.inj h5) rfl
   ·refine ab.exit (Fin.aA ?_)
    obtain rfl:=hy6 _ (Option.some.inj h5).symm
    refine Fin.aA (Fin.aV ?_)
    exact Fin.join [0,5] [1] (s_4,i_5) rfl rfl
  ·rintro ⟨s_2,i_3⟩ hv
   subst v2
   refine ab.seq (ab.aa ?_)
   refine Oc om (Oc om ?_)
   obtain ⟨z_14,e12,h⟩:=aO h
   refine af.clr (enc:=(mO ae)) je rfl e12 rfl rfl rfl (by decide) rfl (af.ai ⟨[(0,_),(5,_)],[(1,.row 42 1 (z_14.map (mO ae)))]⟩ rfl (ab.seq (ab.aa ?_)))
   refine Oc om (Oc om ?_)
   obtain ⟨x_15,e13,h⟩:=aO h
   refine Oc (kX je e13 rfl rfl rfl rfl) (Oc oa ?_)
   refine af.ai ⟨[(4,.b (.row 1))],[(1,.row 42 1 (x_15.map (mO ae)))]⟩ rfl (ab.ret ?_)
   obtain rfl:=Option.some.inj h
   refine Fin.ag ⟨[(4,_)],[(1,_)]⟩ rfl ?_
   exact Fin.result [.row 1] (.inl rfl) rfl (.cons (.tmp rfl) .nil) ⟨rfl,rfl⟩
def fV (F:Nat) (l0:List (cN bf)):Option (List (cN bf)) :=
 (dM F 123 l0).bind fun x_1=>some x_1
theorem mJ {F:Nat} {l0:List (cN bf)} {r:(List (cN bf))} (h:fV F l0 = some r):au Tryz.prog [] 100 [(1,.row 42 1 (l0.map (mO ae)))] [.row 1] (Is [(1,.row 42 1 (r.map (mO ae)))] (.b (.row 1))):=by
 unfold fV at h
 refine au.intro 5 Tryz.func100 Tryz.ntmps100 rfl (by simp) fun E=>?_
 show ab _ E ⟨5,[],[1],[]⟩ _ ⟨[(0,.b (.row 1))],[(1,.row 42 1 (l0.map (mO ae)))]⟩ _
 refine ab.seq (ab.aa ?_)
 refine Oc oa (af.ai ⟨[(0,.b (.row 1))],[(1,.row 42 1 (l0.map (mO ae)))]⟩ rfl (ab.seq (ab.aa ?_)))
 refine Oc om ?_
 obtain ⟨x_1,e1,h⟩:=aO h
 refine Oc (cT (own_a:=[(1,_)]) (ij e1) goes122 rfl ⟨rfl,trivial⟩ rfl rfl) (Oc oa ?_)
 refine af.ai ⟨[(2,.b (.row 1))],[(1,.row 42 1 (x_1.map (mO ae)))]⟩ rfl (ab.ret ?_)
 obtain rfl:=Option.some.inj h
 refine Fin.ag ⟨[(2,_)],[(1,_)]⟩ rfl ?_
 exact Fin.result [.row 1] (.inl rfl) rfl (.cons (.tmp rfl) .nil) ⟨rfl,rfl⟩
def a6 (F:Nat) (t0:iJ) (n0:cN bf) (left0:cN bf) (right0:cN bf):Option (cN bf) :=
 Option.bind (iI n0) (fun nd_1=>Option.bind (iI n0) (fun nd_2=>Option.bind (iI n0) (fun nd_3=>(im F t0.box nd_3.1.x).bind fun x_4=>Option.bind ((fV F [left0,right0]).bind fun x_6=>iter F (dn fun out_7 x_8=>if (decide (x_8 < (x_6.length:Int))) = true then ((bg x_6 x_8).bind fun x_10=>Option.bind (iI x_10) (fun nd_11=>(gK F out_7.cover nd_11.1.cover).bind fun x_12=>some (.inl ((⟨out_7.x,out_7.priority,x_12,out_7.left,out_7.right⟩:Nod),IntKind.i64.wrap (x_8 + 1))))) else (some (.inr out_7))) ((⟨nd_1.1.x,nd_2.1.priority,x_4,left0,right0⟩:Nod),0)) (fun out_5=>some (.node (⟨out_5.x,out_5.priority,out_5.cover⟩:bf) out_5.left out_5.right)))))
theorem bO {F:Nat} {t0:iJ} {n0:cN bf} {left0:cN bf} {right0:cN bf} {r:(cN bf)} (h:a6 F t0 n0 left0 right0 = some r):au Tryz.prog [] 80 [] [.agg (bI t0),.one (.tr ae n0),.one (.tr ae left0),.one (.tr ae right0)] (Is [] (.b (.one (.tr ae r)))):=by
 unfold a6 at h
 refine au.intro 54 Tryz.func80 Tryz.ntmps80 rfl (by simp) fun E=>?_
 show ab _ E ⟨54,[],[],[]⟩ _ ⟨[(0,.b (.agg (bI t0))),(1,.b (.one (.tr ae n0))),(2,.b (.one (.tr ae left0))),(3,.b (.one (.tr ae right0)))],[]⟩ _
 refine ab.seq (ab.aa ?_)
 refine Oc (bR (k:=101) rfl rfl) (Oc oa ?_)
 refine af.ai ⟨[(1,.b (.one (.tr ae n0))),(2,.b (.one (.tr ae left0))),(3,.b (.one (.tr ae right0))),(4,Pt 101 0)],[(101,.box 47 (bI t0))]⟩ rfl (ab.seq ?_)
 obtain ⟨nd_1,e1,h⟩:=aO h
 obtain ⟨nd_2,e2,h⟩:=aO h
 obtain ⟨nd_3,e3,h⟩:=aO h
 obtain ⟨x_4,e4,h⟩:=aO h
 refine ab.cc mixed 18 [.b (.one (.tr ae n0)),.b (.aN (ar nd_1.1.x ++ (.int .u64 nd_1.1.priority :: (aj nd_1.1.cover ++ ([.tr ae nd_1.2.1,.tr ae nd_1.2.2]))))),.b (.aN (ar nd_1.1.x ++ (.int .u64 nd_1.1.priority :: (aj nd_1.1.cover ++ ([.tr ae nd_1.2.1,.tr ae nd_1.2.2]))))),.b (.agg (ar nd_1.1.x)),.b (.one (.tr ae n0)),.b (.aN (ar nd_2.1.x ++ (.int .u64 nd_2.1.priority :: (aj nd_2.1.cover ++ ([.tr ae nd_2.2.1,.tr ae nd_2.2.2]))))),.b (.aN (.int .u64 nd_2.1.priority :: (aj nd_2.1.cover ++ ([.tr ae nd_2.2.1,.tr ae nd_2.2.2])))),.b (.one (.int .u64 nd_2.1.priority)),Pt 101 3,.b (.one (.c5 t0.box)),.b (.one (.tr ae n0)),.b (.aN (ar nd_3.1.x ++ (.int .u64 nd_3.1.priority :: (aj nd_3.1.cover ++ ([.tr ae nd_3.2.1,.tr ae nd_3.2.2]))))),.b (.aN (ar nd_3.1.x ++ (.int .u64 nd_3.1.priority :: (aj nd_3.1.cover ++ ([.tr ae nd_3.2.1,.tr ae nd_3.2.2]))))),.b (.agg (ar nd_3.1.x)),.b (.agg (aj x_4)),.b (.one (.tr ae left0)),.b (.one (.tr ae right0)),.b (.agg (ar nd_1.1.x ++ (.int .u64 nd_2.1.priority :: (aj x_4 ++ ([.tr ae left0,.tr ae right0])))))] [2,3,9] [102] (s':=⟨[(2,_),(3,_),(9,Pt 102 0)],[(102,.box 117 (ar nd_1.1.x ++ (.int .u64 nd_2.1.priority :: (aj x_4 ++ ([.tr ae left0,.tr ae right0])))))]⟩) rfl ⟨fun _=>.p om,fun _=>.p (aG e1 rfl rfl),fun _=>by exact .p (aF ed rfl rfl),fun _=>.p (bV bz rfl rfl rfl),fun _=>.p om,fun _=>.p (aG e2 rfl rfl),fun _=>by exact .p (aF lq rfl rfl),fun _=>.p (az pI rfl rfl),fun _=>.p (aw sP rfl rfl),fun _=>.p (aM tyOne45 rfl rfl rfl),fun _=>.p om,fun _=>.p (aG e3 rfl rfl),fun _=>by exact .p (aF ed rfl rfl),fun _=>.p (bV bz rfl rfl rfl),fun _=>.p (kE (rY e4) (rZ e4) (uP e4) rfl rfl rfl),fun _=>.p om,fun _=>.p om,fun _=>.p (cI nY rfl rfl),trivial⟩ ⟨_,by exact .p (bR (k:=102) rfl rfl),⟨_,by exact .p oa,rfl⟩⟩ rfl ?_
 obtain ⟨v5,h6,h⟩:=aO h
 refine ab.dY (v:=v5) (fun (out_5:Nod)=>⟨[(9,Pt 102 0)],[(102,.box 117 (eNod out_5))]⟩) (fun z=>z) ?_ ?_
 ·refine ab.seq (ab.aa ?_)
  refine Oc om (Oc om (Oc (cr (k:=103) (es:=[left0,right0].map (mO ae)) je rfl rfl (cH fun _=>rfl) rfl (by decide) (by decide) rfl) ?_))
  obtain ⟨x_6,e7,h6⟩:=aO h6
  refine Oc (cT (own_a:=[(103,_)]) ((mJ e7).sw 1 103) goes100 rfl ⟨rfl,trivial⟩ rfl rfl) (Oc (eZ q8 rfl rfl (List.length_map _)) (Oc om ?_))
  refine af.ai ⟨[(9,_),(34,.b (.row 103)),(35,I (x_6.length:Int)),(36,I 0)],[(102,_),(103,.row 42 1 (x_6.map (mO ae)))]⟩ rfl (ab.block (ab.c6 h6 (dn fun (out_7:Nod) (x_8:Int)=>⟨[(9,Pt 102 0),(34,.b (.row 103)),(35,I (x_6.length:Int)),(36,I x_8)],[(102,.box 117 (eNod out_7)),(103,.row 42 1 (x_6.map (mO ae)))]⟩) [9,34,35,36] [102,103] rfl ?_))
  rintro ⟨out_7,x_8⟩ o8 h9 hy10
  refine ab.seq (ab.aa ?_)
  refine Oc (bu rfl rfl) (af.ai ⟨[(9,_),(34,_),(35,_),(36,_),(37,B (decide (x_8 < (x_6.length:Int))))],[(102,_),(103,_)]⟩ rfl (ab.seq (ab.ite h9 rfl (fun _ h9=>?_) (fun _ h9=>?_))))
  ·refine ab.skip (Fin.ag ⟨[(9,_),(34,_),(35,_),(36,_)],[(102,_),(103,_)]⟩ rfl (Fin.then (ab.seq (ab.block (ab.seq (ab.aa ?_))))))
   obtain ⟨x_10,e11,h9⟩:=aO h9
   refine Oc (dI je (bd e11) (jc e11) rfl rfl rfl rfl) (Oc (fO (i:=(x_8:Int).toNat) (f:=0) bw rfl rfl rfl (cA (e:=(mO ae)) e11) rfl) (Oc oa ?_))
   refine af.ai ⟨[(9,_),(11,.b (.one (.tr ae x_10))),(34,_),(35,_),(36,_)],[(102,_),(103,_)]⟩ rfl ?_
   obtain ⟨nd_11,e12,h9⟩:=aO h9
   obtain ⟨x_12,e13,h9⟩:=aO h9
   refine ab.nL mixed 12 [Pt 102 0,Pt 102 0,Pt 102 0,Pt 102 8,.b (.agg (aj out_7.cover)),.b (.one (.tr ae x_10)),.b (.aN (ar nd_11.1.x ++ (.int .u64 nd_11.1.priority :: (aj nd_11.1.cover ++ ([.tr ae nd_11.2.1,.tr ae nd_11.2.2]))))),.b (.aN (aj nd_11.1.cover ++ ([.tr ae nd_11.2.1,.tr ae nd_11.2.2]))),.b (.agg (aj nd_11.1.cover)),.b (.agg (aj x_12)),Pt 102 0,Pt 102 8] [9,34,35,36] [102,103] (s':=⟨[(9,_),(34,_),(35,_),(36,_)],[(102,.box 117 (ar out_7.x ++ (.int .u64 out_7.priority :: (aj x_12 ++ ([.tr ae out_7.left,.tr ae out_7.right]))))),(103,_)]⟩) rfl ⟨fun _=>.p om,fun _=>.p om,fun _=>.p (kY rfl),fun _=>.p (aw jj rfl rfl),fun _=>.p (lp aC),fun _=>.p om,fun _=>.p (aG e12 rfl rfl),fun _=>by exact .p (aF jj rfl rfl),fun _=>.p (bV aC rfl rfl rfl),fun _=>.p (ak (jz e13) tW rfl rfl),fun _=>.p (kY rfl),fun _=>.p (aw jj rfl rfl),trivial⟩ ⟨_,by exact .p (aE aC rfl rfl rfl rfl (Nat.le_of_ble_eq_true rfl) rfl),rfl⟩ rfl (Fin.ay (Fin.ag ⟨[(9,_),(34,_),(35,_),(36,_)],[(102,_),(103,_)]⟩ rfl (Fin.then (ab.aa ?_))))
   refine Oc (bJ rfl rfl) (Oc om ?_)
   refine af.nil ?_
   exact Fin.ct [9,34,35,36] [102,103] ((⟨out_7.x,out_7.priority,x_12,out_7.left,out_7.right⟩:Nod),IntKind.i64.wrap (x_8 + 1)) (Option.some.inj h9) rfl
  ·refine ab.exit (Fin.aA ?_)
   obtain rfl:=hy10 _ (Option.some.inj h9).symm
   refine Fin.aA (Fin.aV ?_)
   exact Fin.join [9] [102] out_7 rfl rfl
 ·rintro out_5 hv
  subst v5
  refine ab.seq (ab.aa ?_)
  refine Oc om (Oc oa ?_)
  refine af.ai ⟨[(8,Pt 102 0)],[(102,_)]⟩ rfl (ab.ret ?_)
  obtain rfl:=Option.some.inj h
  refine Fin.ag ⟨[(8,_)],[(102,_)]⟩ rfl (Fin.gg 102 rfl (Fin.toTr (enc:=ae) 8 (⟨out_5.x,out_5.priority,out_5.cover⟩:bf) out_5.left out_5.right rfl rfl (Fin.av [.one (.tr ae (.node (⟨out_5.x,out_5.priority,out_5.cover⟩:bf) out_5.left out_5.right))] (.inl rfl) rfl (.cons (.tmp rfl) .nil) ⟨rfl,rfl⟩)))
def bL (F:Nat):Nat → iJ → (cN bf) → entry → Option ((cN bf) × (cN bf))
 | 0,_,_,_=>none
 | n + 1,t0,n0,x0=>if n0.c7 = true then (some (.leaf,.leaf)) else (Option.bind (iI n0) (fun nd_1=>(fw F t0.compare nd_1.1.x x0).bind fun x_2=>if (decide (x_2 < 0)) = true then (Option.bind (iI n0) (fun nd_3=>Option.bind (bL F n t0 nd_3.2.2 x0) (dn fun x_4 x_5=>Option.bind (iI n0) (fun nd_6=>(a6 F t0 n0 nd_6.2.1 x_4).bind fun x_7=>some (x_7,x_5))))) else (Option.bind (iI n0) (fun nd_8=>Option.bind (bL F n t0 nd_8.2.1 x0) (dn fun x_9 x_10=>Option.bind (iI n0) (fun nd_11=>(a6 F t0 n0 x_10 nd_11.2.2).bind fun x_12=>some (x_9,x_12)))))))
def eR (F:Nat) (t0:iJ) (n0:cN bf) (x0:entry):Option ((cN bf) × (cN bf)):=bL F F t0 n0 x0
theorem jv {F:Nat}:∀ (n:Nat) {t0:iJ} {n0:cN bf} {x0:entry} {r:(cN bf) × (cN bf)} (h:bL F n t0 n0 x0 = some r),au Tryz.prog [] 79 [] [.agg (bI t0),.one (.tr ae n0),.agg (ar x0)] (Is [] (.dD [.one (.tr ae r.1),.one (.tr ae r.2)])):=by
 intro n
 induction n with
 | zero=>intro t0 n0 x0 r h; simp [bL] at h
 | succ n ih=>
 intro t0 n0 x0 r h
 unfold bL at h
 refine au.intro 61 Tryz.func79 Tryz.ntmps79 rfl (by simp) fun E=>?_
 show ab _ E ⟨61,[],[],[]⟩ _ ⟨[(0,.b (.agg (bI t0))),(1,.b (.one (.tr ae n0))),(2,.b (.agg (ar x0)))],[]⟩ _
 refine ab.seq (ab.aa ?_)
 refine Oc (bR (k:=101) rfl rfl) (Oc (bR (k:=102) rfl rfl) (Oc oa (Oc oa ?_)))
 refine af.ai ⟨[(1,.b (.one (.tr ae n0))),(3,Pt 101 0),(5,Pt 102 0)],[(101,.box 47 (bI t0)),(102,.box 87 (ar x0))]⟩ rfl (ab.seq (ab.seq (ab.aa ?_)))
 refine Oc om (Oc (fc la rfl) ?_)
 refine af.ai ⟨[(1,_),(3,_),(5,_),(13,B n0.c7)],[(101,_),(102,_)]⟩ rfl (ab.ite h rfl (fun _ h=>?_) (fun _ h=>?_))
 ·refine ab.seq (ab.aa ?_)
  refine Oc oa (Oc oa ?_)
  refine af.ai ⟨[(6,.b (.one (.tr ae (.leaf)))),(7,.b (.one (.tr ae (.leaf))))],[]⟩ rfl (ab.ret (Fin.ao ?_))
  obtain rfl:=Option.some.inj h
  refine Fin.ag ⟨[(6,_),(7,_)],[]⟩ rfl (Fin.av [.one (.tr ae (.leaf)),.one (.tr ae (.leaf))] (.inl rfl) rfl (.cons (.tmp rfl) (.cons (.tmp rfl) .nil)) ⟨rfl,rfl⟩)
 ·refine ab.skip (Fin.ag ⟨[(1,_),(3,_),(5,_)],[(101,_),(102,_)]⟩ rfl (Fin.then (ab.seq (ab.seq ?_))))
  refine ab.ag ⟨[(1,_),(3,_),(5,_)],[(101,_),(102,_)]⟩ rfl ?_
  obtain ⟨nd_1,e1,h⟩:=aO h
  obtain ⟨x_2,e2,h⟩:=aO h
  refine ab.cc mixed 9 [Pt 101 1,.b (.one (.c5 t0.compare)),.b (.one (.tr ae n0)),.b (.aN (ar nd_1.1.x ++ (.int .u64 nd_1.1.priority :: (aj nd_1.1.cover ++ ([.tr ae nd_1.2.1,.tr ae nd_1.2.2]))))),.b (.aN (ar nd_1.1.x ++ (.int .u64 nd_1.1.priority :: (aj nd_1.1.cover ++ ([.tr ae nd_1.2.1,.tr ae nd_1.2.2]))))),.b (.agg (ar nd_1.1.x)),.b (.agg (ar x0)),I x_2,B (decide (x_2 < 0))] [1,3,5,22] [101,102] (s':=⟨[(1,_),(3,_),(5,_),(22,B (decide (x_2 < 0)))],[(101,_),(102,_)]⟩) rfl ⟨fun _=>.p (aw oR rfl rfl),fun _=>.p (aM sm rfl rfl rfl),fun _=>.p om,fun _=>.p (aG e1 rfl rfl),fun _=>by exact .p (aF ed rfl rfl),fun _=>.p (bV bz rfl rfl rfl),fun _=>.p (lp bz),fun _=>.p (kE (oo e2) (oq e2) (qH e2) rfl rfl rfl),fun _=>.p (bu rfl rfl),trivial⟩ rfl rfl (ab.ite h rfl (fun _ h=>?_) (fun _ h=>?_))
  ·refine ab.seq (ab.ag ⟨[(1,_),(3,_),(5,_)],[(101,_),(102,_)]⟩ rfl ?_)
   obtain ⟨nd_3,e3,h⟩:=aO h
   obtain ⟨⟨x_4,x_5⟩,e4,h⟩:=aO h
   refine ab.cc mixed 12 [.b (.agg (bI t0)),.b (.one (.tr ae n0)),.b (.aN (ar nd_3.1.x ++ (.int .u64 nd_3.1.priority :: (aj nd_3.1.cover ++ ([.tr ae nd_3.2.1,.tr ae nd_3.2.2]))))),.b (.aN [.tr ae nd_3.2.2]),.b (.one (.tr ae nd_3.2.2)),.b (.agg (ar x0)),.dD [.one (.tr ae x_4),.one (.tr ae x_5)],.dD [.one (.tr ae x_4),.one (.tr ae x_5)],.b (.one (.tr ae x_4)),.b (.one (.tr ae x_5)),.b (.one (.tr ae x_4)),.b (.one (.tr ae x_5))] [1,3,8,9] [101] (s':=⟨[(1,_),(3,_),(8,.b (.one (.tr ae x_4))),(9,.b (.one (.tr ae x_5)))],[(101,_)]⟩) rfl ⟨fun _=>.p (lp bE),fun _=>.p om,fun _=>.p (aG e3 rfl rfl),fun _=>by exact .p (aF dG rfl rfl),fun _=>.p (az bw rfl rfl),fun _=>.p (lp bz),fun _=>.p (ak (ih e4) rm rfl rfl),fun _=>.p om,fun _=>.p (aq rfl rfl),fun _=>.p (aq rfl rfl),fun _=>.p oa,fun _=>.p oa,trivial⟩ rfl rfl (ab.seq (ab.ag ⟨[(1,_),(3,_),(8,_),(9,_)],[(101,_)]⟩ rfl ?_))
   obtain ⟨nd_6,e5,h⟩:=aO h
   obtain ⟨x_7,e6,h⟩:=aO h
   refine ab.cc mixed 11 [.b (.agg (bI t0)),.b (.one (.tr ae n0)),.b (.one (.tr ae n0)),.b (.aN (ar nd_6.1.x ++ (.int .u64 nd_6.1.priority :: (aj nd_6.1.cover ++ ([.tr ae nd_6.2.1,.tr ae nd_6.2.2]))))),.b (.aN [.tr ae nd_6.2.1,.tr ae nd_6.2.2]),.b (.one (.tr ae nd_6.2.1)),.b (.one (.tr ae x_4)),.b (.one (.tr ae x_7)),.b (.one (.tr ae x_5)),.b (.one (.tr ae x_7)),.b (.one (.tr ae x_5))] [6,7] [] (s':=⟨[(6,.b (.one (.tr ae x_7))),(7,.b (.one (.tr ae x_5)))],[]⟩) rfl ⟨fun _=>.p (lp bE),fun _=>.p om,fun _=>.p om,fun _=>.p (aG e5 rfl rfl),fun _=>by exact .p (aF dH rfl rfl),fun _=>.p (az bw rfl rfl),fun _=>.p om,fun _=>.p (ak (bO e6) lg rfl rfl),fun _=>.p om,fun _=>.p oa,fun _=>.p oa,trivial⟩ rfl rfl (ab.ret (Fin.ao ?_))
   obtain rfl:=Option.some.inj h
   refine Fin.ag ⟨[(6,_),(7,_)],[]⟩ rfl (Fin.av [.one (.tr ae x_7),.one (.tr ae x_5)] (.inl rfl) rfl (.cons (.tmp rfl) (.cons (.tmp rfl) .nil)) ⟨rfl,rfl⟩)
  ·refine ab.skip (Fin.ag ⟨[(1,_),(3,_),(5,_)],[(101,_),(102,_)]⟩ rfl (Fin.then (ab.seq ?_)))
   refine ab.ag ⟨[(1,_),(3,_),(5,_)],[(101,_),(102,_)]⟩ rfl ?_
   obtain ⟨nd_8,e7,h⟩:=aO h
   obtain ⟨⟨x_9,x_10⟩,e8,h⟩:=aO h
   refine ab.cc mixed 12 [.b (.agg (bI t0)),.b (.one (.tr ae n0)),.b (.aN (ar nd_8.1.x ++ (.int .u64 nd_8.1.priority :: (aj nd_8.1.cover ++ ([.tr ae nd_8.2.1,.tr ae nd_8.2.2]))))),.b (.aN [.tr ae nd_8.2.1,.tr ae nd_8.2.2]),.b (.one (.tr ae nd_8.2.1)),.b (.agg (ar x0)),.dD [.one (.tr ae x_9),.one (.tr ae x_10)],.dD [.one (.tr ae x_9),.one (.tr ae x_10)],.b (.one (.tr ae x_9)),.b (.one (.tr ae x_10)),.b (.one (.tr ae x_9)),.b (.one (.tr ae x_10))] [1,3,10,11] [101] (s':=⟨[(1,_),(3,_),(10,.b (.one (.tr ae x_9))),(11,.b (.one (.tr ae x_10)))],[(101,_)]⟩) rfl ⟨fun _=>.p (lp bE),fun _=>.p om,fun _=>.p (aG e7 rfl rfl),fun _=>by exact .p (aF dH rfl rfl),fun _=>.p (az bw rfl rfl),fun _=>.p (lp bz),fun _=>.p (ak (ih e8) rm rfl rfl),fun _=>.p om,fun _=>.p (aq rfl rfl),fun _=>.p (aq rfl rfl),fun _=>.p oa,fun _=>.p oa,trivial⟩ rfl rfl (ab.seq (ab.ag ⟨[(1,_),(3,_),(10,_),(11,_)],[(101,_)]⟩ rfl ?_))
   obtain ⟨nd_11,e9,h⟩:=aO h
   obtain ⟨x_12,e10,h⟩:=aO h
   refine ab.cc mixed 11 [.b (.one (.tr ae x_9)),.b (.agg (bI t0)),.b (.one (.tr ae n0)),.b (.one (.tr ae x_10)),.b (.one (.tr ae n0)),.b (.aN (ar nd_11.1.x ++ (.int .u64 nd_11.1.priority :: (aj nd_11.1.cover ++ ([.tr ae nd_11.2.1,.tr ae nd_11.2.2]))))),.b (.aN [.tr ae nd_11.2.2]),.b (.one (.tr ae nd_11.2.2)),.b (.one (.tr ae x_12)),.b (.one (.tr ae x_9)),.b (.one (.tr ae x_12))] [6,7] [] (s':=⟨[(6,.b (.one (.tr ae x_9))),(7,.b (.one (.tr ae x_12)))],[]⟩) rfl ⟨fun _=>.p om,fun _=>.p (lp bE),fun _=>.p om,fun _=>.p om,fun _=>.p om,fun _=>.p (aG e9 rfl rfl),fun _=>by exact .p (aF dG rfl rfl),fun _=>.p (az bw rfl rfl),fun _=>.p (ak (bO e10) lg rfl rfl),fun _=>.p oa,fun _=>.p oa,trivial⟩ rfl rfl (ab.ret ?_)
   obtain rfl:=Option.some.inj h
   refine Fin.ag ⟨[(6,_),(7,_)],[]⟩ rfl (Fin.av [.one (.tr ae x_9),.one (.tr ae x_12)] (.inl rfl) rfl (.cons (.tmp rfl) (.cons (.tmp rfl) .nil)) ⟨rfl,rfl⟩)
theorem jG {F:Nat} {t0:iJ} {n0:cN bf} {x0:entry} {r:(cN bf) × (cN bf)} (h:eR F t0 n0 x0 = some r):au Tryz.prog [] 79 [] [.agg (bI t0),.one (.tr ae n0),.agg (ar x0)] (Is [] (.dD [.one (.tr ae r.1),.one (.tr ae r.2)])):=jv F h
def ff (F:Nat) (x0:Int):Option Int :=
 fj (IntKind.u64.wrap ((oB .u64 x0 (x0 / 1073741824)) * 13787848793156543929)) fun x_1=>fj (IntKind.u64.wrap ((oB .u64 x_1 (x_1 / 134217728)) * 10723151780598845931)) fun x_2=>some (oB .u64 x_2 (x_2 / 2147483648))
theorem ov {F:Nat} {x0:Int} {r:Int} (h:ff F x0 = some r):au Tryz.prog [] 81 [] [.one (.int .u64 x0)] (Is [] (.b (.one (.int .u64 r)))):=by
 unfold ff at h
 refine au.intro 19 Tryz.func81 Tryz.ntmps81 rfl (by simp) fun E=>?_
 show ab _ E ⟨19,[],[],[]⟩ _ ⟨[(0,.b (.one (.int .u64 x0)))],[]⟩ _
 refine ab.seq (ab.aa ?_)
 refine Oc oa (af.ai ⟨[(0,.b (.one (.int .u64 x0)))],[]⟩ rfl (ab.seq (ab.aa ?_)))
 refine Oc om (Oc om (Oc (jg (m:=30) (by decide) rfl rfl rfl) (Oc (re rfl rfl) (Oc oa ?_))))
 refine af.ai ⟨[(0,.b (.one (.int .u64 (oB .u64 x0 (x0 / 1073741824)))))],[]⟩ rfl (ab.seq (ab.aa ?_))
 refine Oc om (af.oM .u64 h rfl (tK rfl rfl) (fun x_1 h=>?_))
 refine Oc oa (af.ai ⟨[(0,.b (.one (.int .u64 x_1)))],[]⟩ rfl (ab.seq (ab.aa ?_)))
 refine Oc om (Oc om (Oc (jg (m:=27) (by decide) rfl rfl rfl) (Oc (re rfl rfl) (Oc oa ?_))))
 refine af.ai ⟨[(0,.b (.one (.int .u64 (oB .u64 x_1 (x_1 / 134217728)))))],[]⟩ rfl (ab.seq (ab.aa ?_))
 refine Oc om (af.oM .u64 h rfl (tK rfl rfl) (fun x_2 h=>?_))
 refine Oc oa (af.ai ⟨[(0,.b (.one (.int .u64 x_2)))],[]⟩ rfl (ab.seq (ab.aa ?_)))
 refine Oc om (Oc om (Oc (jg (m:=31) (by decide) rfl rfl rfl) (Oc (re rfl rfl) (Oc oa ?_))))
 refine af.ai ⟨[(2,.b (.one (.int .u64 (oB .u64 x_2 (x_2 / 2147483648)))))],[]⟩ rfl (ab.ret ?_)
 obtain rfl:=Option.some.inj h
 refine Fin.ag ⟨[(2,_)],[]⟩ rfl (Fin.av [.one (.int .u64 (oB .u64 x_2 (x_2 / 2147483648)))] (.inl rfl) rfl (.cons (.tmp rfl) .nil) ⟨rfl,rfl⟩)
def b6 (F:Nat):Nat → iJ → (cN bf) → (cN bf) → Option (cN bf)
 | 0,_,_,_=>none
 | n + 1,t0,a0,b0=>if a0.c7 = true then (some b0) else (if b0.c7 = true then (some a0) else (Option.bind (iI a0) (fun nd_1=>Option.bind (iI b0) (fun nd_2=>if (decide (nd_2.1.priority < nd_1.1.priority)) = true then (Option.bind (iI a0) (fun nd_3=>Option.bind (iI a0) (fun nd_4=>(b6 F n t0 nd_4.2.2 b0).bind fun x_5=>(a6 F t0 a0 nd_3.2.1 x_5).bind fun x_6=>some x_6))) else (Option.bind (iI b0) (fun nd_7=>(b6 F n t0 a0 nd_7.2.1).bind fun x_8=>Option.bind (iI b0) (fun nd_9=>(a6 F t0 b0 x_8 nd_9.2.2).bind fun x_10=>some x_10)))))))
def cw (F:Nat) (t0:iJ) (a0:cN bf) (b0:cN bf):Option (cN bf):=b6 F F t0 a0 b0
theorem jH {F:Nat}:∀ (n:Nat) {t0:iJ} {a0:cN bf} {b0:cN bf} {r:(cN bf)} (h:b6 F n t0 a0 b0 = some r),au Tryz.prog [] 82 [] [.agg (bI t0),.one (.tr ae a0),.one (.tr ae b0)] (Is [] (.b (.one (.tr ae r)))):=by
 intro n
 induction n with
 | zero=>intro t0 a0 b0 r h; simp [b6] at h
 | succ n ih=>
 intro t0 a0 b0 r h
 unfold b6 at h
 refine au.intro 53 Tryz.func82 Tryz.ntmps82 rfl (by simp) fun E=>?_
 show ab _ E ⟨53,[],[],[]⟩ _ ⟨[(0,.b (.agg (bI t0))),(1,.b (.one (.tr ae a0))),(2,.b (.one (.tr ae b0)))],[]⟩ _
 refine ab.seq (ab.aa ?_)
 refine Oc (bR (k:=101) rfl rfl) (Oc oa ?_)
 refine af.ai ⟨[(1,.b (.one (.tr ae a0))),(2,.b (.one (.tr ae b0))),(3,Pt 101 0)],[(101,.box 47 (bI t0))]⟩ rfl (ab.seq (ab.block (ab.seq (ab.aa ?_))))
 refine Oc om (Oc (fc la rfl) (Oc oa ?_))
 refine af.ai ⟨[(1,_),(2,_),(3,_),(7,B a0.c7)],[(101,_)]⟩ rfl (ab.ite h rfl (fun _ h=>?_) (fun _ h=>?_))
 ·refine ab.seq (ab.aa ?_)
  refine Oc om (Oc oa ?_)
  refine af.ai ⟨[(6,.b (.one (.tr ae b0)))],[]⟩ rfl (ab.ret (Fin.aK (Fin.ao ?_)))
  obtain rfl:=Option.some.inj h
  refine Fin.ag ⟨[(6,_)],[]⟩ rfl (Fin.av [.one (.tr ae b0)] (.inl rfl) rfl (.cons (.tmp rfl) .nil) ⟨rfl,rfl⟩)
 ·refine ab.seq (ab.aa ?_)
  refine Oc om (Oc (fc la rfl) (Oc oa ?_))
  refine af.ai ⟨[(1,_),(2,_),(3,_),(11,B b0.c7)],[(101,_)]⟩ rfl (ab.ite h rfl (fun _ h=>?_) (fun _ h=>?_))
  ·refine ab.seq (ab.aa ?_)
   refine Oc om (Oc oa ?_)
   refine af.ai ⟨[(6,.b (.one (.tr ae a0)))],[]⟩ rfl (ab.ret (Fin.aK (Fin.ao ?_)))
   obtain rfl:=Option.some.inj h
   refine Fin.ag ⟨[(6,_)],[]⟩ rfl (Fin.av [.one (.tr ae a0)] (.inl rfl) rfl (.cons (.tmp rfl) .nil) ⟨rfl,rfl⟩)
  ·refine ab.seq (ab.ag ⟨[(1,_),(2,_),(3,_)],[(101,_)]⟩ rfl ?_)
   obtain ⟨nd_1,e1,h⟩:=aO h
   obtain ⟨nd_2,e2,h⟩:=aO h
   refine ab.cc mixed 10 [.b (.one (.tr ae a0)),.b (.aN (ar nd_1.1.x ++ (.int .u64 nd_1.1.priority :: (aj nd_1.1.cover ++ ([.tr ae nd_1.2.1,.tr ae nd_1.2.2]))))),.b (.aN (.int .u64 nd_1.1.priority :: (aj nd_1.1.cover ++ ([.tr ae nd_1.2.1,.tr ae nd_1.2.2])))),.b (.one (.int .u64 nd_1.1.priority)),.b (.one (.tr ae b0)),.b (.aN (ar nd_2.1.x ++ (.int .u64 nd_2.1.priority :: (aj nd_2.1.cover ++ ([.tr ae nd_2.2.1,.tr ae nd_2.2.2]))))),.b (.aN (.int .u64 nd_2.1.priority :: (aj nd_2.1.cover ++ ([.tr ae nd_2.2.1,.tr ae nd_2.2.2])))),.b (.one (.int .u64 nd_2.1.priority)),B (decide (nd_2.1.priority < nd_1.1.priority)),B (decide (nd_2.1.priority < nd_1.1.priority))] [1,2,3,15] [101] (s':=⟨[(1,_),(2,_),(3,_),(15,B (decide (nd_2.1.priority < nd_1.1.priority)))],[(101,_)]⟩) rfl ⟨fun _=>.p om,fun _=>.p (aG e1 rfl rfl),fun _=>by exact .p (aF lq rfl rfl),fun _=>.p (az pI rfl rfl),fun _=>.p om,fun _=>.p (aG e2 rfl rfl),fun _=>by exact .p (aF lq rfl rfl),fun _=>.p (az pI rfl rfl),fun _=>.p (gW rfl rfl),fun _=>.p oa,trivial⟩ rfl rfl (ab.ite h rfl (fun _ h=>?_) (fun _ h=>?_))
   ·refine ab.seq (ab.ag ⟨[(1,_),(2,_),(3,_)],[(101,_)]⟩ rfl ?_)
    obtain ⟨nd_3,e3,h⟩:=aO h
    obtain ⟨nd_4,e4,h⟩:=aO h
    obtain ⟨x_5,e5,h⟩:=aO h
    obtain ⟨x_6,e6,h⟩:=aO h
    refine ab.cc mixed 15 [.b (.agg (bI t0)),.b (.one (.tr ae a0)),.b (.one (.tr ae a0)),.b (.aN (ar nd_3.1.x ++ (.int .u64 nd_3.1.priority :: (aj nd_3.1.cover ++ ([.tr ae nd_3.2.1,.tr ae nd_3.2.2]))))),.b (.aN [.tr ae nd_3.2.1,.tr ae nd_3.2.2]),.b (.one (.tr ae nd_3.2.1)),.b (.agg (bI t0)),.b (.one (.tr ae a0)),.b (.aN (ar nd_4.1.x ++ (.int .u64 nd_4.1.priority :: (aj nd_4.1.cover ++ ([.tr ae nd_4.2.1,.tr ae nd_4.2.2]))))),.b (.aN [.tr ae nd_4.2.2]),.b (.one (.tr ae nd_4.2.2)),.b (.one (.tr ae b0)),.b (.one (.tr ae x_5)),.b (.one (.tr ae x_6)),.b (.one (.tr ae x_6))] [6] [] (s':=⟨[(6,.b (.one (.tr ae x_6)))],[]⟩) rfl ⟨fun _=>.p (lp bE),fun _=>.p om,fun _=>.p om,fun _=>.p (aG e3 rfl rfl),fun _=>by exact .p (aF dH rfl rfl),fun _=>.p (az bw rfl rfl),fun _=>.p (lp bE),fun _=>.p om,fun _=>.p (aG e4 rfl rfl),fun _=>by exact .p (aF dG rfl rfl),fun _=>.p (az bw rfl rfl),fun _=>.p om,fun _=>.p (ak (ih e5) nE rfl rfl),fun _=>.p (ak (bO e6) lg rfl rfl),fun _=>.p oa,trivial⟩ rfl rfl (ab.ret (Fin.aK (Fin.ao ?_)))
    obtain rfl:=Option.some.inj h
    refine Fin.ag ⟨[(6,_)],[]⟩ rfl (Fin.av [.one (.tr ae x_6)] (.inl rfl) rfl (.cons (.tmp rfl) .nil) ⟨rfl,rfl⟩)
   ·refine ab.skip (Fin.ay (Fin.ag ⟨[(1,_),(2,_),(3,_)],[(101,_)]⟩ rfl (Fin.then (ab.seq ?_))))
    refine ab.ag ⟨[(1,_),(2,_),(3,_)],[(101,_)]⟩ rfl ?_
    obtain ⟨nd_7,e7,h⟩:=aO h
    obtain ⟨x_8,e8,h⟩:=aO h
    obtain ⟨nd_9,e9,h⟩:=aO h
    obtain ⟨x_10,e10,h⟩:=aO h
    refine ab.cc mixed 15 [.b (.agg (bI t0)),.b (.one (.tr ae b0)),.b (.agg (bI t0)),.b (.one (.tr ae a0)),.b (.one (.tr ae b0)),.b (.aN (ar nd_7.1.x ++ (.int .u64 nd_7.1.priority :: (aj nd_7.1.cover ++ ([.tr ae nd_7.2.1,.tr ae nd_7.2.2]))))),.b (.aN [.tr ae nd_7.2.1,.tr ae nd_7.2.2]),.b (.one (.tr ae nd_7.2.1)),.b (.one (.tr ae x_8)),.b (.one (.tr ae b0)),.b (.aN (ar nd_9.1.x ++ (.int .u64 nd_9.1.priority :: (aj nd_9.1.cover ++ ([.tr ae nd_9.2.1,.tr ae nd_9.2.2]))))),.b (.aN [.tr ae nd_9.2.2]),.b (.one (.tr ae nd_9.2.2)),.b (.one (.tr ae x_10)),.b (.one (.tr ae x_10))] [6] [] (s':=⟨[(6,.b (.one (.tr ae x_10)))],[]⟩) rfl ⟨fun _=>.p (lp bE),fun _=>.p om,fun _=>.p (lp bE),fun _=>.p om,fun _=>.p om,fun _=>.p (aG e7 rfl rfl),fun _=>by exact .p (aF dH rfl rfl),fun _=>.p (az bw rfl rfl),fun _=>.p (ak (ih e8) nE rfl rfl),fun _=>.p om,fun _=>.p (aG e9 rfl rfl),fun _=>by exact .p (aF dG rfl rfl),fun _=>.p (az bw rfl rfl),fun _=>.p (ak (bO e10) lg rfl rfl),fun _=>.p oa,trivial⟩ rfl rfl (ab.ret ?_)
    obtain rfl:=Option.some.inj h
    refine Fin.ag ⟨[(6,_)],[]⟩ rfl (Fin.av [.one (.tr ae x_10)] (.inl rfl) rfl (.cons (.tmp rfl) .nil) ⟨rfl,rfl⟩)
theorem eo {F:Nat} {t0:iJ} {a0:cN bf} {b0:cN bf} {r:(cN bf)} (h:cw F t0 a0 b0 = some r):au Tryz.prog [] 82 [] [.agg (bI t0),.one (.tr ae a0),.one (.tr ae b0)] (Is [] (.b (.one (.tr ae r)))):=jH F h
def bF (F:Nat) (t0:iJ) (x0:entry):Option iJ :=
 Option.bind (eR F t0 t0.root x0) (dn fun x_1 x_2=>(gC F t0.key x0).bind fun x_3=>(ff F x_3).bind fun x_4=>(a6 F t0 (.node (⟨x0,x_4,(⟨A3.zero,A3.zero⟩:bC)⟩:bf) (.leaf) (.leaf)) (.leaf) (.leaf)).bind fun x_5=>(cw F t0 x_1 x_5).bind fun x_6=>(cw F t0 x_6 x_2).bind fun x_7=>fj (⟨x_7,t0.compare,t0.key,t0.box⟩:iJ) fun x_8=>some x_8)
theorem gm {F:Nat} {t0:iJ} {x0:entry} {r:iJ} (h:bF F t0 x0 = some r):au Tryz.prog [] 59 [] [.agg (bI t0),.agg (ar x0)] (Is [] (.b (.agg (bI r)))):=by
 unfold bF at h
 refine au.intro 35 Tryz.func59 Tryz.ntmps59 rfl (by simp) fun E=>?_
 show ab _ E ⟨35,[],[],[]⟩ _ ⟨[(0,.b (.agg (bI t0))),(1,.b (.agg (ar x0)))],[]⟩ _
 refine ab.seq (ab.aa ?_)
 refine Oc (bR (k:=101) rfl rfl) (Oc (bR (k:=102) rfl rfl) (Oc (aZ (k:=103) qg rfl) ?_))
 refine af.ai ⟨[(2,Pt 101 0),(3,Pt 102 0),(4,Pt 103 0)],[(101,.box 47 (bI t0)),(102,.box 87 (ar x0)),(103,.box 47 [.tr ae (.leaf),.c5 0,.c5 0,.c5 0])]⟩ rfl (ab.seq (ab.aa ?_))
 refine Oc (lp bE) (Oc (aw eW rfl rfl) (Oc (aM bw rfl rfl rfl) (Oc (lp bz) ?_)))
 obtain ⟨⟨x_1,x_2⟩,e1,h⟩:=aO h
 refine Oc (ak (jG e1) rm rfl rfl) (af.ag ⟨[(2,_),(3,_),(4,_),(13,.dD [.one (.tr ae x_1),.one (.tr ae x_2)])],[(101,_),(102,_),(103,_)]⟩ rfl (Oc om (Oc (aq rfl rfl) (Oc (aq rfl rfl) (Oc oa (Oc oa ?_))))))
 refine af.ai ⟨[(2,_),(3,_),(4,_),(5,.b (.one (.tr ae x_1))),(6,.b (.one (.tr ae x_2)))],[(101,_),(102,_),(103,_)]⟩ rfl (ab.seq ?_)
 obtain ⟨x_3,e2,h⟩:=aO h
 obtain ⟨x_4,e3,h⟩:=aO h
 obtain ⟨x_5,e4,h⟩:=aO h
 refine ab.gA mixed [false,false,false,false,false,false,false,false,true,false,false] [.b (.agg (bI t0)),.b (.agg (ar x0)),Pt 101 2,.b (.one (.c5 t0.key)),.b (.agg (ar x0)),.b (.one (.int .u64 x_3)),.b (.one (.int .u64 x_4)),.b (.agg (ar x0 ++ (.int .u64 x_4 :: ((cS .i64) A3.zero ++ ((cS .i64) A3.zero ++ ([.tr ae (.leaf),.tr ae (.leaf)])))))),.b (.one (.tr ae (.node (⟨x0,x_4,(⟨A3.zero,A3.zero⟩:bC)⟩:bf) (.leaf) (.leaf)))),.b (.one (.tr ae x_5)),.b (.one (.tr ae x_5))] [⟨[false,false,false,false,false,false,false,false,false,false,false],[(2,Pt 101 0),(3,Pt 102 0),(4,Pt 103 0),(5,.b (.one (.tr ae x_1))),(6,.b (.one (.tr ae x_2)))],[(101,.box 47 (bI t0)),(102,.box 87 (ar x0)),(103,.box 47 [.tr ae (.leaf),.c5 0,.c5 0,.c5 0])],[true,true,true,true,true,true,true,true,true,true,true],[],[9,10]⟩,⟨[false,false,false,false,false,false,false,false,true,false,false],[(2,Pt 101 0),(3,Pt 102 0),(4,Pt 103 0),(5,.b (.one (.tr ae x_1))),(6,.b (.one (.tr ae x_2)))],[(101,.box 47 (bI t0)),(102,.box 87 (ar x0)),(103,.box 47 [.tr ae (.leaf),.c5 0,.c5 0,.c5 0])],[true,true,true,true,true,true,true,true,true,true,true],[1,2,3,4,5,6,7,8],[]⟩] rfl (⟨by kernel_rfl,⟨⟨.b (.agg (bI t0)),fun _=>rfl,fun _=>.p (by exact cn bE rfl rfl rfl rfl)⟩,⟨.b (.agg (ar x0)),fun _=>rfl,fun _=>.p (by exact cn bz rfl rfl rfl rfl)⟩,⟨Pt 101 2,fun _=>rfl,fun _=>.p (by exact aw sQ rfl rfl)⟩,⟨.b (.one (.c5 t0.key)),fun _=>rfl,fun _=>.p (by exact aM tyOne44 rfl rfl rfl)⟩,⟨.b (.agg (ar x0)),fun _=>rfl,fun _=>.p (by exact cn bz rfl rfl rfl rfl)⟩,⟨.b (.one (.int .u64 x_3)),fun _=>rfl,fun _=>.p (by exact kE (rR e2) (rS e2) (uG e2) rfl rfl rfl)⟩,⟨.b (.one (.int .u64 x_4)),fun _=>rfl,fun _=>.p (by exact ak (ov e3) goes81 rfl rfl)⟩,⟨.b (.agg (ar x0 ++ (.int .u64 x_4 :: ((cS .i64) A3.zero ++ ((cS .i64) A3.zero ++ ([.tr ae (.leaf),.tr ae (.leaf)])))))),fun _=>rfl,fun _=>.p (by exact cI nY rfl rfl)⟩,⟨_,[],.b (.one (.tr ae (.node (⟨x0,x_4,(⟨A3.zero,A3.zero⟩:bC)⟩:bf) (.leaf) (.leaf)))),rfl,fun _=>rfl,rfl,rfl,fun _=>.pq [101,102,103] (by exact .p (by exact op_boxT (enc:=ae) (⟨x0,x_4,(⟨A3.zero,A3.zero⟩:bC)⟩:bf) (.leaf) (.leaf) rfl rfl)) (by exact rfl)⟩,trivial,trivial,trivial⟩,⟨by kernel_rfl,⟨⟨.b (.agg (bI t0)),fun _=>rfl,fun _=>.p (by exact cn bE rfl rfl rfl rfl)⟩,trivial,trivial,trivial,trivial,trivial,trivial,trivial,trivial,⟨.b (.one (.tr ae x_5)),fun _=>rfl,fun _=>.p (by exact ak (bO e4) lg rfl rfl)⟩,⟨.b (.one (.tr ae x_5)),fun _=>rfl,fun _=>.p (by exact br rfl)⟩,trivial⟩,trivial⟩⟩) rfl rfl rfl [2,4,5,6,7] [101,103] (s':=⟨[(2,_),(4,_),(5,_),(6,_),(7,.b (.one (.tr ae x_5)))],[(101,_),(103,_)]⟩) rfl ?_
 refine ab.seq (ab.ag ⟨[(2,_),(4,_),(5,_),(6,_),(7,_)],[(101,_),(103,_)]⟩ rfl ?_)
 obtain ⟨x_6,e5,h⟩:=aO h
 obtain ⟨x_7,e6,h⟩:=aO h
 refine ab.cc mixed 8 [.b (.agg (bI t0)),.b (.agg (bI t0)),.b (.one (.tr ae x_1)),.b (.one (.tr ae x_5)),.b (.one (.tr ae x_6)),.b (.one (.tr ae x_2)),.b (.one (.tr ae x_7)),Pt 101 0] [2,4] [101,103] (s':=⟨[(2,_),(4,_)],[(101,.box 47 [.tr ae x_7,.c5 t0.compare,.c5 t0.key,.c5 t0.box]),(103,_)]⟩) rfl ⟨fun _=>.p (lp bE),fun _=>.p (lp bE),fun _=>.p om,fun _=>.p om,fun _=>.p (ak (eo e5) nE rfl rfl),fun _=>.p om,fun _=>.p (ak (eo e6) nE rfl rfl),fun _=>.p (aw eW rfl rfl),trivial⟩ ⟨_,by exact .p (ee bw rfl rfl rfl (Nat.le_of_ble_eq_true rfl) rfl),rfl⟩ rfl (ab.seq (ab.aa ?_))
 refine af.lM bI h rfl (lp bE) (fun x_8 h=>?_)
 refine Oc (aE bE rfl rfl rfl rfl (Nat.le_of_ble_eq_true rfl) rfl) (af.ai ⟨[(4,_)],[(103,.box 47 (bI x_8))]⟩ rfl (ab.ret ?_))
 obtain rfl:=Option.some.inj h
 refine Fin.ag ⟨[(4,_)],[(103,_)]⟩ rfl (Fin.av [.agg (bI x_8)] (.inl rfl) rfl (.cons (.agg bE rfl rfl rfl rfl) .nil) ⟨rfl,rfl⟩)
def bj (F:Nat) (s0:ca) (id0:Int) (b0:bC):Option (ca × Int) :=
 (bP F b0).bind fun x_1=>if (!x_1) = true then (fj (⟨(⟨.leaf,0,0,0⟩:iJ),(⟨.leaf,0,0,0⟩:iJ)⟩:ca) fun x_2=>some (x_2,1)) else (Option.bind (cz F s0 id0) (dn fun x_3 x_4=>if x_4 = true then (fj (⟨(⟨.leaf,0,0,0⟩:iJ),(⟨.leaf,0,0,0⟩:iJ)⟩:ca) fun x_5=>some (x_5,6)) else ((bF F s0.ids (⟨id0,b0⟩:entry)).bind fun x_6=>(bF F s0.boxes (⟨id0,b0⟩:entry)).bind fun x_7=>some ((⟨x_6,x_7⟩:ca),0))))
theorem bM {F:Nat} {s0:ca} {id0:Int} {b0:bC} {r:ca × Int} (h:bj F s0 id0 b0 = some r):au Tryz.prog [] 29 [] [.agg (an s0),.one (.i id0),.agg (aj b0)] (Is [] (.dD [.agg (an r.1),.one (.i r.2)])):=by
 unfold bj at h
 refine au.intro 35 Tryz.func29 Tryz.ntmps29 rfl (by simp) fun E=>?_
 show ab _ E ⟨35,[],[],[]⟩ _ ⟨[(0,.b (.agg (an s0))),(1,I id0),(2,.b (.agg (aj b0)))],[]⟩ _
 refine ab.seq (ab.aa ?_)
 refine Oc (bR (k:=101) rfl rfl) (Oc (bR (k:=102) rfl rfl) (Oc (aZ (k:=103) eb rfl) (Oc oa ?_)))
 refine af.ai ⟨[(1,I id0),(3,Pt 101 0),(5,Pt 102 0),(6,Pt 103 0)],[(101,.box 49 (an s0)),(102,.box 25 (aj b0)),(103,.box 49 [.tr ae (.leaf),.c5 0,.c5 0,.c5 0,.tr ae (.leaf),.c5 0,.c5 0,.c5 0])]⟩ rfl (ab.seq (ab.seq (ab.aa ?_)))
 refine Oc (lp aC) ?_
 obtain ⟨x_1,e1,h⟩:=aO h
 refine Oc (ak (cF e1) lh rfl rfl) (Oc (dF rfl) ?_)
 refine af.ai ⟨[(1,_),(3,_),(5,_),(6,_),(13,B (!x_1))],[(101,_),(102,_),(103,_)]⟩ rfl (ab.ite h rfl (fun _ h=>?_) (fun _ h=>?_))
 ·refine ab.seq (ab.aa ?_)
  refine af.lM an h rfl (cI eX rfl rfl) (fun x_2 h=>?_)
  refine Oc (aE aJ rfl rfl rfl rfl (Nat.le_of_ble_eq_true rfl) rfl) (Oc oa ?_)
  refine af.ai ⟨[(6,_),(7,I 1)],[(103,.box 49 (an x_2))]⟩ rfl (ab.ret (Fin.ao ?_))
  obtain rfl:=Option.some.inj h
  refine Fin.ag ⟨[(6,_),(7,_)],[(103,_)]⟩ rfl (Fin.av [.agg (an x_2),.one (.i 1)] (.inl rfl) rfl (.cons (.agg aJ rfl rfl rfl rfl) (.cons (.tmp rfl) .nil)) ⟨rfl,rfl⟩)
 ·refine ab.skip (Fin.ag ⟨[(1,_),(3,_),(5,_),(6,_)],[(101,_),(102,_),(103,_)]⟩ rfl (Fin.then (ab.seq (ab.seq (ab.aa ?_)))))
  refine Oc (lp aJ) (Oc om ?_)
  obtain ⟨⟨x_3,x_4⟩,e2,h⟩:=aO h
  refine Oc (ak (eT e2) ru rfl rfl) (Oc om (Oc (aq rfl rfl) ?_))
  refine af.ag ⟨[(1,_),(3,_),(5,_),(6,_),(15,.dD [.agg (ar x_3),.one (.bool x_4)]),(19,.b (.agg (ar x_3)))],[(101,_),(102,_),(103,_)]⟩ rfl (Oc (aq rfl rfl) (Oc (aZ (k:=104) ga rfl) (Oc (aE bz rfl rfl rfl rfl (Nat.le_of_ble_eq_true rfl) rfl) (Oc oa ?_))))
  refine af.ai ⟨[(1,_),(3,_),(5,_),(6,_),(9,B x_4)],[(101,_),(102,_),(103,_)]⟩ rfl (ab.seq (ab.aa ?_))
  refine Oc om (af.ai ⟨[(1,_),(3,_),(5,_),(6,_),(21,B x_4)],[(101,_),(102,_),(103,_)]⟩ rfl (ab.ite h rfl (fun _ h=>?_) (fun _ h=>?_)))
  ·refine ab.seq (ab.aa ?_)
   refine af.lM an h rfl (cI eX rfl rfl) (fun x_5 h=>?_)
   refine Oc (aE aJ rfl rfl rfl rfl (Nat.le_of_ble_eq_true rfl) rfl) (Oc oa ?_)
   refine af.ai ⟨[(6,_),(7,I 6)],[(103,.box 49 (an x_5))]⟩ rfl (ab.ret (Fin.ao ?_))
   obtain rfl:=Option.some.inj h
   refine Fin.ag ⟨[(6,_),(7,_)],[(103,_)]⟩ rfl (Fin.av [.agg (an x_5),.one (.i 6)] (.inl rfl) rfl (.cons (.agg aJ rfl rfl rfl rfl) (.cons (.tmp rfl) .nil)) ⟨rfl,rfl⟩)
  ·refine ab.skip (Fin.ag ⟨[(1,_),(3,_),(5,_),(6,_)],[(101,_),(102,_),(103,_)]⟩ rfl (Fin.then (ab.seq (ab.aa ?_))))
   refine Oc om (Oc (lp aC) (Oc (cI oS rfl rfl) (Oc (aZ (k:=105) ga rfl) (Oc (aE bz rfl rfl rfl rfl (Nat.le_of_ble_eq_true rfl) rfl) ?_))))
   refine af.ai ⟨[(3,_),(6,_),(10,Pt 105 0)],[(101,_),(103,_),(105,.box 87 (.i id0 :: (aj b0)))]⟩ rfl (ab.seq ?_)
   obtain ⟨x_6,e3,h⟩:=aO h
   obtain ⟨x_7,e4,h⟩:=aO h
   refine ab.cc mixed 9 [Pt 101 0,.b (.agg (bI s0.ids)),.b (.agg (.i id0 :: (aj b0))),.b (.agg (bI x_6)),Pt 101 4,.b (.agg (bI s0.boxes)),.b (.agg (.i id0 :: (aj b0))),.b (.agg (bI x_7)),.b (.agg (bI x_6 ++ (bI x_7)))] [6,7] [103] (s':=⟨[(6,_),(7,I 0)],[(103,.box 49 (bI x_6 ++ (bI x_7)))]⟩) rfl ⟨fun _=>.p (aw iQ rfl rfl),fun _=>.p (lp bE),fun _=>.p (lp bz),fun _=>.p (ak (gm e3) tR rfl rfl),fun _=>.p (aw mj rfl rfl),fun _=>.p (lp bE),fun _=>.p (lp bz),fun _=>.p (ak (gm e4) tR rfl rfl),fun _=>.p (cI eX rfl rfl),trivial⟩ ⟨_,by exact .p (aE aJ rfl rfl rfl rfl (Nat.le_of_ble_eq_true rfl) rfl),⟨_,by exact .p oa,rfl⟩⟩ rfl (ab.ret ?_)
   obtain rfl:=Option.some.inj h
   refine Fin.ag ⟨[(6,_),(7,_)],[(103,_)]⟩ rfl (Fin.av [.agg (bI x_6 ++ (bI x_7)),.one (.i 0)] (.inl rfl) rfl (.cons (.agg aJ rfl rfl rfl rfl) (.cons (.tmp rfl) .nil)) ⟨rfl,rfl⟩)
def bW (F:Nat) (s0:ca) (b0:bC):Option (List Int) :=
 Option.bind (ny (fun t=>cm F t b0) s0.boxes.root) (fun xs_1=>Option.bind (each (fun outf0_3=>fun x_2=>(cu F x_2.b b0).bind fun x_4=>if x_4 = true then ((ja outf0_3 [x_2.id]).bind fun x_5=>some (.inl x_5)) else (some (.inl outf0_3))) (xs_1) []) (bZ (fun outf0_3=>(eG F outf0_3).bind fun x_6=>some x_6) (fun (_:Unit)=>none)))
theorem dq {F:Nat} {s0:ca} {b0:bC} {r:(List Int)} (h:bW F s0 b0 = some r):au Tryz.prog [] 55 [] [.agg (an s0),.agg (aj b0)] (Is [(51,.row 3 1 (r.map eI))] (.b (.row 51))):=by
 unfold bW at h
 refine au.rk 25 Tryz.func55 Tryz.ntmps55 rfl (by simp) fun E=>?_
 show ab _ E ⟨25,[],[],[]⟩ _ ⟨[(0,.b (.agg (an s0))),(1,.b (.agg (aj b0)))],[]⟩ _
 refine ab.seq (ab.aa ?_)
 refine Oc (lT rfl) (Oc (lT rfl) (Oc oa ?_))
 refine af.ai ⟨[(2,.b (.aN (an s0))),(3,.b (.aN (aj b0)))],[]⟩ rfl (ab.seq (ab.aa ?_))
 refine Oc (aZ (k:=101) qf rfl) (af.ai ⟨[(2,_),(3,_),(5,Pt 101 0)],[(101,.box 51 [.nil])]⟩ rfl (ab.seq (ab.seq (ab.aa ?_))))
 refine Oc (aF mj rfl rfl) (Oc (aF eW rfl rfl) (Oc (az bw rfl rfl) (Oc (gI rfl) (Oc (ak nU rq rfl rfl) ?_))))
 refine af.ai ⟨[(3,_),(5,_),(11,.b (.one (.eC 77 [CP.rp [.tr ae s0.boxes.root],CP.rp [.eC 74 [CP.rp (aj b0)]]])))],[(101,_)]⟩ rfl ?_
 obtain ⟨xs_1,e1,h⟩:=aO h
 refine ab.ag ⟨[(3,.b (.aN (aj b0))),(5,Pt 101 0),(11,.b (.one (.eC 77 [CP.rp [.tr ae s0.boxes.root],CP.rp [.eC 74 [CP.rp (aj b0)]]])))],[(101,.box 51 [.nil])]⟩ rfl (ab.tk 101 rfl (ab.gB 101 0 104 1 3 rfl rfl (by decide) (by decide) rfl (ab.ag ⟨[(3,_),(5,_),(11,_)],[(101,.bQ 51 [.row 104]),(104,.row 3 1 ([].map eI))]⟩ rfl (ab.rb _ sN _ _ (fun (outf0_3:List Int)=>[(101,.bQ 51 [.row 104]),(104,.row 3 1 (outf0_3.map eI))]) (fun (_:Unit)=>([]:List (Nat × OC))) (fun (outf0_3:List Int)=>fun x_2=>⟨[(3,.b (.aN (aj b0))),(5,Pt 101 0),(6,Pt 106 0)],[(101,.bQ 51 [.row 104]),(104,.row 3 1 (outf0_3.map eI)),(106,.box 87 (ar x_2))]⟩) h (nV qR e1) rn rfl rfl rfl (fun _=>rfl) (fun _=>rfl) (fun _=>rfl) (fun _ _=>rfl) (fun _ _=>rfl) rfl (fun _=>rfl) ?_ ?_ ?_ ?_))))
 ·rintro E l outf0_3 x_2 z _ h2
  refine aX.keep [3,5,11,12] [101,104] (s':=⟨[(3,.b (.aN (aj b0))),(5,Pt 101 0),(11,.b (.one (.eC 77 [CP.rp [.tr ae s0.boxes.root],CP.rp [.eC 74 [CP.rp (aj b0)]]]))),(12,.b (.agg (ar x_2)))],[(101,.bQ 51 [.row 104]),(104,.row 3 1 (outf0_3.map eI))]⟩) rfl (aX.aa (.inr ⟨_,rfl⟩) (Oc (aZ (k:=106) ga rfl) (Oc (aE bz rfl rfl rfl rfl (Nat.le_of_ble_eq_true rfl) rfl) ?_)))
  refine af.nil ?_
  exact Fin.ag ⟨[(3,_),(5,_),(6,Pt 106 0)],[(101,_),(104,_),(106,.box 87 (ar x_2))]⟩ rfl (fun a w hr=>hr)
 ·rintro E l outf0_3 x_2 z _ h2
  refine aX.block (aX.seq (aX.aa (.inr ⟨_,rfl⟩) (Oc (aw gO rfl rfl) (Oc (lp aC) (Oc (bV aC rfl rfl rfl) ?_)))))
  obtain ⟨x_4,e3,h2⟩:=aO h2
  refine Oc (ak (dd e3) mh rfl rfl) (af.nil (Fin.ag ⟨[(3,.b (.aN (aj b0))),(5,Pt 101 0),(6,Pt 106 0),(16,B x_4)],[(101,.bQ 51 [.row 104]),(104,.row 3 1 (outf0_3.map eI)),(106,.box 87 (ar x_2))]⟩ rfl (Fin.gu ?_ (fun ⟨_,_,hl⟩=>hl))))
  refine aX.ite h2 rfl (fun _ h2=>?_) (fun _ h2=>?_)
  ·refine aX.aa (.inr ⟨_,rfl⟩) (Oc (eO jf rfl rfl rfl) (Oc (aw dv rfl rfl) (Oc (aM aT rfl rfl rfl) (Oc (cr (k:=107) (es:=[x_2.id].map eI) cp rfl rfl (cH fun _=>rfl) rfl (by decide) (by decide) rfl) ?_))))
   refine af.forget 101 0 rfl ?_
   obtain ⟨x_5,e4,h2⟩:=aO h2
   refine Oc (fe cp (oP e4) (oO e4) rfl rfl rfl rfl (kA e4) rfl) (Oc (j7 jf rfl rfl rfl rfl (Nat.le_of_ble_eq_true rfl) rfl) ?_)
   refine af.nil (Fin.ay ?_)
   obtain rfl:=Option.some.inj h2
   exact Fin.ag ⟨[],[(101,.bQ 51 [.row 104]),(104,.row 3 1 (x_5.map eI))]⟩ rfl (fun a w hr=>⟨_,rfl,hr⟩)
  ·refine aX.skip (Fin.ay ?_)
   obtain rfl:=Option.some.inj h2
   exact Fin.ag ⟨[],[(101,_),(104,_)]⟩ rfl (fun a w hr=>⟨_,rfl,hr⟩)
 ·rintro E D outf0_3 h5
  refine ab.seq (ab.aa ?_)
  refine Oc (eO jf rfl rfl rfl) (af.sM 104 rfl ?_)
  obtain ⟨x_6,e6,h5⟩:=aO h5
  refine Oc (cT (own_a:=[(104,_)]) ((mH e6).sw 1 104) goes75 rfl ⟨rfl,trivial⟩ rfl rfl) (af.sL 104 rfl (af.ai ⟨[(5,Pt 101 0)],[(101,.bQ 51 [.row 104]),(104,.row 3 1 (x_6.map eI))]⟩ rfl (ab.seq (ab.aa ?_))))
  refine Oc (eO jf rfl rfl rfl) (Oc oa ?_)
  refine af.ai ⟨[(4,.b (.row 104))],[(104,_)]⟩ rfl (ab.ret ?_)
  obtain rfl:=Option.some.inj h5
  refine Fin.ag ⟨[(4,.b (.row 104))],[(104,.row 3 1 (x_6.map eI))]⟩ rfl (Fin.rename 104 51 rfl (by decide) rfl (Fin.ag ⟨[(4,.b (.row 51))],[(51,.row 3 1 (x_6.map eI))]⟩ rfl ?_))
  exact Fin.result [.row 51] (.inl rfl) rfl (.cons (.tmp rfl) .nil) ⟨rfl,rfl⟩
 ·rintro E D ⟨⟩ h5
  cases h5
def bX (F:Nat) (s0:ca) (b0:bC):Option ((List Int) × Int) :=
 (bP F b0).bind fun x_1=>if (!x_1) = true then (some ([],1)) else ((bW F s0 b0).bind fun x_2=>some (x_2,0))
theorem dr (kr0:Nat) {F:Nat} {s0:ca} {b0:bC} {r:(List Int) × Int} (h:bX F s0 b0 = some r):au Tryz.prog [] 31 [] [.agg (an s0),.agg (aj b0)] (Is [(kr0,.row 3 1 (r.1.map eI))] (.dD [.row kr0,.one (.i r.2)])):=by
 unfold bX at h
 refine au.intro 12 Tryz.func31 Tryz.ntmps31 rfl (by simp) fun E=>?_
 show ab _ E ⟨12,[],[],[]⟩ _ ⟨[(0,.b (.agg (an s0))),(1,.b (.agg (aj b0)))],[]⟩ _
 refine ab.seq (ab.aa ?_)
 refine Oc (bR (k:=101) rfl rfl) (Oc (bR (k:=102) rfl rfl) (Oc oa (Oc oa ?_)))
 refine af.ai ⟨[(2,Pt 101 0),(3,Pt 102 0)],[(101,.box 49 (an s0)),(102,.box 25 (aj b0))]⟩ rfl (ab.seq (ab.seq (ab.aa ?_)))
 refine Oc (lp aC) ?_
 obtain ⟨x_1,e1,h⟩:=aO h
 refine Oc (ak (cF e1) lh rfl rfl) (Oc (dF rfl) ?_)
 refine af.ai ⟨[(2,_),(3,_),(8,B (!x_1))],[(101,_),(102,_)]⟩ rfl (ab.ite h rfl (fun _ h=>?_) (fun _ h=>?_))
 ·refine ab.seq (ab.aa ?_)
  refine Oc oa (Oc oa ?_)
  refine af.ai ⟨[(4,.b (.one (.nil))),(5,I 1)],[]⟩ rfl (ab.ret (Fin.ao ?_))
  obtain rfl:=Option.some.inj h
  refine Fin.ag ⟨[(4,_),(5,_)],[]⟩ rfl (Fin.fL 4 103 1 3 rfl (by decide) rfl (Fin.lO 103 kr0 [.row 103,.one (.i 1)] (.inl rfl) rfl (.cons (.tmp rfl) (.cons (.tmp rfl) .nil)) rfl rfl rfl rfl ⟨rfl,rfl⟩))
 ·refine ab.skip (Fin.ag ⟨[(2,_),(3,_)],[(101,_),(102,_)]⟩ rfl (Fin.then (ab.seq (ab.aa ?_))))
  refine Oc (lp aJ) (Oc (lp aC) ?_)
  obtain ⟨x_2,e2,h⟩:=aO h
  refine Oc (cT (own_a:=[]) ((dq e2).sw 51 104) pA rfl trivial rfl rfl) (Oc oa (Oc oa ?_))
  refine af.ai ⟨[(4,.b (.row 104)),(5,I 0)],[(104,.row 3 1 (x_2.map eI))]⟩ rfl (ab.ret ?_)
  obtain rfl:=Option.some.inj h
  refine Fin.ag ⟨[(4,_),(5,_)],[(104,_)]⟩ rfl (Fin.lO 104 kr0 [.row 104,.one (.i 0)] (.inl rfl) rfl (.cons (.tmp rfl) (.cons (.tmp rfl) .nil)) rfl rfl rfl rfl ⟨rfl,rfl⟩)
def b7 (F:Nat):Nat → iJ → (cN bf) → entry → Option (cN bf)
 | 0,_,_,_=>none
 | n + 1,t0,n0,x0=>Option.bind (iI n0) (fun nd_1=>(fw F t0.compare x0 nd_1.1.x).bind fun x_2=>if (decide (x_2 < 0)) = true then (Option.bind (iI n0) (fun nd_3=>(b7 F n t0 nd_3.2.1 x0).bind fun x_4=>Option.bind (iI n0) (fun nd_5=>(a6 F t0 n0 x_4 nd_5.2.2).bind fun x_6=>some x_6))) else (if (decide (0 < x_2)) = true then (Option.bind (iI n0) (fun nd_7=>Option.bind (iI n0) (fun nd_8=>(b7 F n t0 nd_8.2.2 x0).bind fun x_9=>(a6 F t0 n0 nd_7.2.1 x_9).bind fun x_10=>some x_10))) else (Option.bind (iI n0) (fun nd_11=>Option.bind (iI n0) (fun nd_12=>(cw F t0 nd_11.2.1 nd_12.2.2).bind fun x_13=>some x_13)))))
def fG (F:Nat) (t0:iJ) (n0:cN bf) (x0:entry):Option (cN bf):=b7 F F t0 n0 x0
theorem jI {F:Nat}:∀ (n:Nat) {t0:iJ} {n0:cN bf} {x0:entry} {r:(cN bf)} (h:b7 F n t0 n0 x0 = some r),au Tryz.prog [] 83 [] [.agg (bI t0),.one (.tr ae n0),.agg (ar x0)] (Is [] (.b (.one (.tr ae r)))):=by
 intro n
 induction n with
 | zero=>intro t0 n0 x0 r h; simp [b7] at h
 | succ n ih=>
 intro t0 n0 x0 r h
 unfold b7 at h
 refine au.intro 60 Tryz.func83 Tryz.ntmps83 rfl (by simp) fun E=>?_
 show ab _ E ⟨60,[],[],[]⟩ _ ⟨[(0,.b (.agg (bI t0))),(1,.b (.one (.tr ae n0))),(2,.b (.agg (ar x0)))],[]⟩ _
 refine ab.seq (ab.aa ?_)
 refine Oc (bR (k:=101) rfl rfl) (Oc (bR (k:=102) rfl rfl) (Oc oa ?_))
 refine af.ai ⟨[(1,.b (.one (.tr ae n0))),(3,Pt 101 0),(5,Pt 102 0)],[(101,.box 47 (bI t0)),(102,.box 87 (ar x0))]⟩ rfl (ab.seq (ab.seq ?_))
 refine ab.ag ⟨[(1,_),(3,_),(5,_)],[(101,_),(102,_)]⟩ rfl ?_
 obtain ⟨nd_1,e1,h⟩:=aO h
 obtain ⟨x_2,e2,h⟩:=aO h
 refine ab.cc mixed 9 [Pt 101 1,.b (.one (.c5 t0.compare)),.b (.agg (ar x0)),.b (.one (.tr ae n0)),.b (.aN (ar nd_1.1.x ++ (.int .u64 nd_1.1.priority :: (aj nd_1.1.cover ++ ([.tr ae nd_1.2.1,.tr ae nd_1.2.2]))))),.b (.aN (ar nd_1.1.x ++ (.int .u64 nd_1.1.priority :: (aj nd_1.1.cover ++ ([.tr ae nd_1.2.1,.tr ae nd_1.2.2]))))),.b (.agg (ar nd_1.1.x)),I x_2,I x_2] [1,3,5,7] [101,102] (s':=⟨[(1,_),(3,_),(5,_),(7,I x_2)],[(101,_),(102,_)]⟩) rfl ⟨fun _=>.p (aw oR rfl rfl),fun _=>.p (aM sm rfl rfl rfl),fun _=>.p (lp bz),fun _=>.p om,fun _=>.p (aG e1 rfl rfl),fun _=>by exact .p (aF ed rfl rfl),fun _=>.p (bV bz rfl rfl rfl),fun _=>.p (kE (oo e2) (oq e2) (qH e2) rfl rfl rfl),fun _=>.p oa,trivial⟩ rfl rfl (ab.block (ab.seq (ab.aa ?_)))
 refine Oc om (Oc (bu rfl rfl) (Oc oa ?_))
 refine af.ai ⟨[(1,_),(3,_),(5,_),(7,_),(16,B (decide (x_2 < 0)))],[(101,_),(102,_)]⟩ rfl (ab.ite h rfl (fun _ h=>?_) (fun _ h=>?_))
 ·refine ab.seq (ab.ag ⟨[(1,_),(3,_),(5,_)],[(101,_),(102,_)]⟩ rfl ?_)
  obtain ⟨nd_3,e3,h⟩:=aO h
  obtain ⟨x_4,e4,h⟩:=aO h
  obtain ⟨nd_5,e5,h⟩:=aO h
  obtain ⟨x_6,e6,h⟩:=aO h
  refine ab.cc mixed 15 [.b (.agg (bI t0)),.b (.one (.tr ae n0)),.b (.agg (bI t0)),.b (.one (.tr ae n0)),.b (.aN (ar nd_3.1.x ++ (.int .u64 nd_3.1.priority :: (aj nd_3.1.cover ++ ([.tr ae nd_3.2.1,.tr ae nd_3.2.2]))))),.b (.aN [.tr ae nd_3.2.1,.tr ae nd_3.2.2]),.b (.one (.tr ae nd_3.2.1)),.b (.agg (ar x0)),.b (.one (.tr ae x_4)),.b (.one (.tr ae n0)),.b (.aN (ar nd_5.1.x ++ (.int .u64 nd_5.1.priority :: (aj nd_5.1.cover ++ ([.tr ae nd_5.2.1,.tr ae nd_5.2.2]))))),.b (.aN [.tr ae nd_5.2.2]),.b (.one (.tr ae nd_5.2.2)),.b (.one (.tr ae x_6)),.b (.one (.tr ae x_6))] [6] [] (s':=⟨[(6,.b (.one (.tr ae x_6)))],[]⟩) rfl ⟨fun _=>.p (lp bE),fun _=>.p om,fun _=>.p (lp bE),fun _=>.p om,fun _=>.p (aG e3 rfl rfl),fun _=>by exact .p (aF dH rfl rfl),fun _=>.p (az bw rfl rfl),fun _=>.p (lp bz),fun _=>.p (ak (ih e4) rl rfl rfl),fun _=>.p om,fun _=>.p (aG e5 rfl rfl),fun _=>by exact .p (aF dG rfl rfl),fun _=>.p (az bw rfl rfl),fun _=>.p (ak (bO e6) lg rfl rfl),fun _=>.p oa,trivial⟩ rfl rfl (ab.ret (Fin.aK (Fin.ao ?_)))
  obtain rfl:=Option.some.inj h
  refine Fin.ag ⟨[(6,_)],[]⟩ rfl (Fin.av [.one (.tr ae x_6)] (.inl rfl) rfl (.cons (.tmp rfl) .nil) ⟨rfl,rfl⟩)
 ·refine ab.seq (ab.aa ?_)
  refine Oc om (Oc (gW rfl rfl) (Oc oa ?_))
  refine af.ai ⟨[(1,_),(3,_),(5,_),(33,B (decide (0 < x_2)))],[(101,_),(102,_)]⟩ rfl (ab.ite h rfl (fun _ h=>?_) (fun _ h=>?_))
  ·refine ab.seq (ab.ag ⟨[(1,_),(3,_),(5,_)],[(101,_),(102,_)]⟩ rfl ?_)
   obtain ⟨nd_7,e7,h⟩:=aO h
   obtain ⟨nd_8,e8,h⟩:=aO h
   obtain ⟨x_9,e9,h⟩:=aO h
   obtain ⟨x_10,e10,h⟩:=aO h
   refine ab.cc mixed 15 [.b (.agg (bI t0)),.b (.one (.tr ae n0)),.b (.one (.tr ae n0)),.b (.aN (ar nd_7.1.x ++ (.int .u64 nd_7.1.priority :: (aj nd_7.1.cover ++ ([.tr ae nd_7.2.1,.tr ae nd_7.2.2]))))),.b (.aN [.tr ae nd_7.2.1,.tr ae nd_7.2.2]),.b (.one (.tr ae nd_7.2.1)),.b (.agg (bI t0)),.b (.one (.tr ae n0)),.b (.aN (ar nd_8.1.x ++ (.int .u64 nd_8.1.priority :: (aj nd_8.1.cover ++ ([.tr ae nd_8.2.1,.tr ae nd_8.2.2]))))),.b (.aN [.tr ae nd_8.2.2]),.b (.one (.tr ae nd_8.2.2)),.b (.agg (ar x0)),.b (.one (.tr ae x_9)),.b (.one (.tr ae x_10)),.b (.one (.tr ae x_10))] [6] [] (s':=⟨[(6,.b (.one (.tr ae x_10)))],[]⟩) rfl ⟨fun _=>.p (lp bE),fun _=>.p om,fun _=>.p om,fun _=>.p (aG e7 rfl rfl),fun _=>by exact .p (aF dH rfl rfl),fun _=>.p (az bw rfl rfl),fun _=>.p (lp bE),fun _=>.p om,fun _=>.p (aG e8 rfl rfl),fun _=>by exact .p (aF dG rfl rfl),fun _=>.p (az bw rfl rfl),fun _=>.p (lp bz),fun _=>.p (ak (ih e9) rl rfl rfl),fun _=>.p (ak (bO e10) lg rfl rfl),fun _=>.p oa,trivial⟩ rfl rfl (ab.ret (Fin.aK (Fin.ao ?_)))
   obtain rfl:=Option.some.inj h
   refine Fin.ag ⟨[(6,_)],[]⟩ rfl (Fin.av [.one (.tr ae x_10)] (.inl rfl) rfl (.cons (.tmp rfl) .nil) ⟨rfl,rfl⟩)
  ·refine ab.skip (Fin.ay (Fin.ag ⟨[(1,_),(3,_)],[(101,_)]⟩ rfl (Fin.then (ab.seq ?_))))
   refine ab.ag ⟨[(1,_),(3,_)],[(101,_)]⟩ rfl ?_
   obtain ⟨nd_11,e11,h⟩:=aO h
   obtain ⟨nd_12,e12,h⟩:=aO h
   obtain ⟨x_13,e13,h⟩:=aO h
   refine ab.cc mixed 11 [.b (.agg (bI t0)),.b (.one (.tr ae n0)),.b (.aN (ar nd_11.1.x ++ (.int .u64 nd_11.1.priority :: (aj nd_11.1.cover ++ ([.tr ae nd_11.2.1,.tr ae nd_11.2.2]))))),.b (.aN [.tr ae nd_11.2.1,.tr ae nd_11.2.2]),.b (.one (.tr ae nd_11.2.1)),.b (.one (.tr ae n0)),.b (.aN (ar nd_12.1.x ++ (.int .u64 nd_12.1.priority :: (aj nd_12.1.cover ++ ([.tr ae nd_12.2.1,.tr ae nd_12.2.2]))))),.b (.aN [.tr ae nd_12.2.2]),.b (.one (.tr ae nd_12.2.2)),.b (.one (.tr ae x_13)),.b (.one (.tr ae x_13))] [6] [] (s':=⟨[(6,.b (.one (.tr ae x_13)))],[]⟩) rfl ⟨fun _=>.p (lp bE),fun _=>.p om,fun _=>.p (aG e11 rfl rfl),fun _=>by exact .p (aF dH rfl rfl),fun _=>.p (az bw rfl rfl),fun _=>.p om,fun _=>.p (aG e12 rfl rfl),fun _=>by exact .p (aF dG rfl rfl),fun _=>.p (az bw rfl rfl),fun _=>.p (ak (eo e13) nE rfl rfl),fun _=>.p oa,trivial⟩ rfl rfl (ab.ret ?_)
   obtain rfl:=Option.some.inj h
   refine Fin.ag ⟨[(6,_)],[]⟩ rfl (Fin.av [.one (.tr ae x_13)] (.inl rfl) rfl (.cons (.tmp rfl) .nil) ⟨rfl,rfl⟩)
theorem ko {F:Nat} {t0:iJ} {n0:cN bf} {x0:entry} {r:(cN bf)} (h:fG F t0 n0 x0 = some r):au Tryz.prog [] 83 [] [.agg (bI t0),.one (.tr ae n0),.agg (ar x0)] (Is [] (.b (.one (.tr ae r)))):=jI F h
def bq (F:Nat) (t0:iJ) (x0:entry):Option iJ :=
 (fG F t0 t0.root x0).bind fun x_1=>fj (⟨x_1,t0.compare,t0.key,t0.box⟩:iJ) fun x_2=>some x_2
theorem fh {F:Nat} {t0:iJ} {x0:entry} {r:iJ} (h:bq F t0 x0 = some r):au Tryz.prog [] 60 [] [.agg (bI t0),.agg (ar x0)] (Is [] (.b (.agg (bI r)))):=by
 unfold bq at h
 refine au.intro 12 Tryz.func60 Tryz.ntmps60 rfl (by simp) fun E=>?_
 show ab _ E ⟨12,[],[],[]⟩ _ ⟨[(0,.b (.agg (bI t0))),(1,.b (.agg (ar x0)))],[]⟩ _
 refine ab.seq (ab.aa ?_)
 refine Oc (bR (k:=101) rfl rfl) (Oc (bR (k:=102) rfl rfl) (Oc (aZ (k:=103) qg rfl) ?_))
 refine af.ai ⟨[(2,Pt 101 0),(3,Pt 102 0),(4,Pt 103 0)],[(101,.box 47 (bI t0)),(102,.box 87 (ar x0)),(103,.box 47 [.tr ae (.leaf),.c5 0,.c5 0,.c5 0])]⟩ rfl (ab.seq (ab.aa ?_))
 refine Oc (lp bE) (Oc (aw eW rfl rfl) (Oc (aM bw rfl rfl rfl) (Oc (lp bz) ?_)))
 obtain ⟨x_1,e1,h⟩:=aO h
 refine Oc (ak (ko e1) rl rfl rfl) (Oc (aw eW rfl rfl) (Oc (ee bw rfl rfl rfl (Nat.le_of_ble_eq_true rfl) rfl) ?_))
 refine af.ai ⟨[(2,_),(4,_)],[(101,.box 47 [.tr ae x_1,.c5 t0.compare,.c5 t0.key,.c5 t0.box]),(103,_)]⟩ rfl (ab.seq (ab.aa ?_))
 refine af.lM bI h rfl (lp bE) (fun x_2 h=>?_)
 refine Oc (aE bE rfl rfl rfl rfl (Nat.le_of_ble_eq_true rfl) rfl) (af.ai ⟨[(4,_)],[(103,.box 47 (bI x_2))]⟩ rfl (ab.ret ?_))
 obtain rfl:=Option.some.inj h
 refine Fin.ag ⟨[(4,_)],[(103,_)]⟩ rfl (Fin.av [.agg (bI x_2)] (.inl rfl) rfl (.cons (.agg bE rfl rfl rfl rfl) .nil) ⟨rfl,rfl⟩)
def bN (F:Nat) (s0:ca) (id0:Int):Option (ca × Int) :=
 Option.bind (cz F s0 id0) (dn fun x_1 x_2=>if (!x_2) = true then (fj (⟨(⟨.leaf,0,0,0⟩:iJ),(⟨.leaf,0,0,0⟩:iJ)⟩:ca) fun x_3=>some (x_3,5)) else ((bq F s0.ids x_1).bind fun x_4=>(bq F s0.boxes x_1).bind fun x_5=>some ((⟨x_4,x_5⟩:ca),0)))
theorem dV {F:Nat} {s0:ca} {id0:Int} {r:ca × Int} (h:bN F s0 id0 = some r):au Tryz.prog [] 30 [] [.agg (an s0),.one (.i id0)] (Is [] (.dD [.agg (an r.1),.one (.i r.2)])):=by
 unfold bN at h
 refine au.intro 26 Tryz.func30 Tryz.ntmps30 rfl (by simp) fun E=>?_
 show ab _ E ⟨26,[],[],[]⟩ _ ⟨[(0,.b (.agg (an s0))),(1,I id0)],[]⟩ _
 refine ab.seq (ab.aa ?_)
 refine Oc (bR (k:=101) rfl rfl) (Oc (aZ (k:=102) eb rfl) (Oc oa ?_))
 refine af.ai ⟨[(1,I id0),(2,Pt 101 0),(4,Pt 102 0)],[(101,.box 49 (an s0)),(102,.box 49 [.tr ae (.leaf),.c5 0,.c5 0,.c5 0,.tr ae (.leaf),.c5 0,.c5 0,.c5 0])]⟩ rfl (ab.seq (ab.aa ?_))
 refine Oc (lp aJ) (Oc om ?_)
 obtain ⟨⟨x_1,x_2⟩,e1,h⟩:=aO h
 refine Oc (ak (eT e1) ru rfl rfl) (Oc om (Oc (aq rfl rfl) ?_))
 refine af.ag ⟨[(2,_),(4,_),(8,.dD [.agg (ar x_1),.one (.bool x_2)]),(12,.b (.agg (ar x_1)))],[(101,_),(102,_)]⟩ rfl (Oc (aq rfl rfl) (Oc (aZ (k:=103) ga rfl) (Oc (aE bz rfl rfl rfl rfl (Nat.le_of_ble_eq_true rfl) rfl) (Oc oa ?_))))
 refine af.ai ⟨[(2,_),(4,_),(6,Pt 103 0),(7,B x_2)],[(101,_),(102,_),(103,.box 87 (ar x_1))]⟩ rfl (ab.seq (ab.seq (ab.aa ?_)))
 refine Oc om (Oc (dF rfl) ?_)
 refine af.ai ⟨[(2,_),(4,_),(6,_),(15,B (!x_2))],[(101,_),(102,_),(103,_)]⟩ rfl (ab.ite h rfl (fun _ h=>?_) (fun _ h=>?_))
 ·refine ab.seq (ab.aa ?_)
  refine af.lM an h rfl (cI eX rfl rfl) (fun x_3 h=>?_)
  refine Oc (aE aJ rfl rfl rfl rfl (Nat.le_of_ble_eq_true rfl) rfl) (Oc oa ?_)
  refine af.ai ⟨[(4,_),(5,I 5)],[(102,.box 49 (an x_3))]⟩ rfl (ab.ret (Fin.ao ?_))
  obtain rfl:=Option.some.inj h
  refine Fin.ag ⟨[(4,_),(5,_)],[(102,_)]⟩ rfl (Fin.av [.agg (an x_3),.one (.i 5)] (.inl rfl) rfl (.cons (.agg aJ rfl rfl rfl rfl) (.cons (.tmp rfl) .nil)) ⟨rfl,rfl⟩)
 ·refine ab.skip (Fin.ag ⟨[(2,_),(4,_),(6,_)],[(101,_),(102,_),(103,_)]⟩ rfl (Fin.then (ab.seq ?_)))
  refine ab.ag ⟨[(2,_),(4,_),(6,_)],[(101,_),(102,_),(103,_)]⟩ rfl ?_
  obtain ⟨x_4,e2,h⟩:=aO h
  obtain ⟨x_5,e3,h⟩:=aO h
  refine ab.cc mixed 9 [Pt 101 0,.b (.agg (bI s0.ids)),.b (.agg (ar x_1)),.b (.agg (bI x_4)),Pt 101 4,.b (.agg (bI s0.boxes)),.b (.agg (ar x_1)),.b (.agg (bI x_5)),.b (.agg (bI x_4 ++ (bI x_5)))] [4,5] [102] (s':=⟨[(4,_),(5,I 0)],[(102,.box 49 (bI x_4 ++ (bI x_5)))]⟩) rfl ⟨fun _=>.p (aw iQ rfl rfl),fun _=>.p (lp bE),fun _=>.p (lp bz),fun _=>.p (ak (fh e2) tQ rfl rfl),fun _=>.p (aw mj rfl rfl),fun _=>.p (lp bE),fun _=>.p (lp bz),fun _=>.p (ak (fh e3) tQ rfl rfl),fun _=>.p (cI eX rfl rfl),trivial⟩ ⟨_,by exact .p (aE aJ rfl rfl rfl rfl (Nat.le_of_ble_eq_true rfl) rfl),⟨_,by exact .p oa,rfl⟩⟩ rfl (ab.ret ?_)
  obtain rfl:=Option.some.inj h
  refine Fin.ag ⟨[(4,_),(5,_)],[(102,_)]⟩ rfl (Fin.av [.agg (bI x_4 ++ (bI x_5)),.one (.i 0)] (.inl rfl) rfl (.cons (.agg aJ rfl rfl rfl rfl) (.cons (.tmp rfl) .nil)) ⟨rfl,rfl⟩)
def lx (F:Nat) (x0:Int) (y0:Int):Option Bool :=
 (eh F x0).bind fun x_1=>(bo x_1 (eh F y0)).bind fun x_2=>some ((x_1 && (!x_2)) || (decide (x0 < y0)))
theorem oI {F:Nat} {x0:Int} {y0:Int} {r:Bool} (h:lx F x0 y0 = some r):au Tryz.prog [] 98 [] [.one (.i x0),.one (.i y0)] (Is [] (.b (.one (.bool r)))):=by
 unfold lx at h
 refine au.intro 17 Tryz.func98 Tryz.ntmps98 rfl (by simp) fun E=>?_
 show ab _ E ⟨17,[],[],[]⟩ _ ⟨[(0,I x0),(1,I y0)],[]⟩ _
 refine ab.seq (ab.aa ?_)
 refine Oc oa (af.ai ⟨[(0,I x0),(1,I y0)],[]⟩ rfl (ab.seq (ab.aa ?_)))
 refine Oc om ?_
 obtain ⟨x_1,e1,h⟩:=aO h
 refine Oc (ak (fE e1) pz rfl rfl) (Oc om ?_)
 refine fI x_1 [] (fun g2=>trivial) (fun g2=>om) (af.ag ⟨[(0,_),(1,_),(7,B x_1),(8,.opt x_1 (.one (.i y0)))],[]⟩ rfl ?_)
 obtain ⟨x_2,e4,h⟩:=aO h
 refine fI x_1 [8] (fun g3=>⟨g3,trivial⟩) (fun g3=>ak (fE (gc e4 g3)) pz rfl rfl) (fI x_1 [9] (fun g5=>⟨g5,trivial⟩) (fun g5=>dF rfl) (Oc (aH (fun e=>e) rfl rfl rfl rfl) (Oc om ?_)))
 refine pr (!(x_1 && (!x_2))) [] (fun g6=>trivial) (fun g6=>om) (pr (!(x_1 && (!x_2))) [] (fun g7=>by exact trivial) (fun g7=>om) (pr (!(x_1 && (!x_2))) [13,14] (fun g8=>by exact ⟨g8,g8,trivial⟩) (fun g8=>bu rfl rfl) (Oc (ck (fun e=>by first | (rw [e]; rfl) | (simp only at e; rw [e]; rfl)) rfl rfl rfl rfl) (Oc oa ?_))))
 refine af.ai ⟨[(4,B ((x_1 && (!x_2)) || (decide (x0 < y0))))],[]⟩ rfl (ab.ret ?_)
 obtain rfl:=Option.some.inj h
 refine Fin.ag ⟨[(4,_)],[]⟩ rfl (Fin.av [.one (.bool ((x_1 && (!x_2)) || (decide (x0 < y0))))] (.inl rfl) rfl (.cons (.tmp rfl) .nil) ⟨rfl,rfl⟩)
def fD (F:Nat) (x0:Int):Option Bool :=
 some (decide (x0 ≠ x0))
theorem iv {F:Nat} {x0:Int} {r:Bool} (h:fD F x0 = some r):au Tryz.prog [] 99 [] [.one (.i x0)] (Is [] (.b (.one (.bool r)))):=by
 unfold fD at h
 refine au.intro 6 Tryz.func99 Tryz.ntmps99 rfl (by simp) fun E=>?_
 show ab _ E ⟨6,[],[],[]⟩ _ ⟨[(0,I x0)],[]⟩ _
 refine ab.seq (ab.aa ?_)
 refine Oc oa (af.ai ⟨[(0,I x0)],[]⟩ rfl (ab.seq (ab.aa ?_)))
 refine Oc om (Oc om (Oc (gV rfl rfl) (Oc oa ?_)))
 refine af.ai ⟨[(2,B (decide (x0 ≠ x0)))],[]⟩ rfl (ab.ret ?_)
 obtain rfl:=Option.some.inj h
 refine Fin.ag ⟨[(2,_)],[]⟩ rfl (Fin.av [.one (.bool (decide (x0 ≠ x0)))] (.inl rfl) rfl (.cons (.tmp rfl) .nil) ⟨rfl,rfl⟩)
def dU (F:Nat) (x0:List Int) (target0:Int):Option (Int × Bool) :=
 Option.bind (iter F (dn fun i_2 j_3=>if (decide (i_2 < j_3)) = true then (fj (IntKind.u64.wrap (IntKind.i64.wrap (i_2 + j_3))) fun x_5=>(bg x0 (IntKind.i64.wrap (x_5 / 2))).bind fun x_6=>(lx F x_6 target0).bind fun x_7=>if x_7 = true then (fj (IntKind.i64.wrap ((IntKind.i64.wrap (x_5 / 2)) + 1)) fun x_8=>some (.inl (x_8,j_3))) else (some (.inl (i_2,IntKind.i64.wrap (x_5 / 2))))) else (some (.inr i_2))) (0,(x0.length:Int))) (fun i_1=>(bo (decide (i_1 < (x0.length:Int))) (bg x0 i_1)).bind fun x_9=>(bo ((decide (i_1 < (x0.length:Int))) && !(decide (x_9 = target0))) (bg x0 i_1)).bind fun x_10=>(bo ((decide (i_1 < (x0.length:Int))) && !(decide (x_9 = target0))) (fD F x_10)).bind fun x_11=>(bo (((decide (i_1 < (x0.length:Int))) && !(decide (x_9 = target0))) && x_11) (fD F target0)).bind fun x_12=>fj ((decide (i_1 < (x0.length:Int))) && ((decide (x_9 = target0)) || (x_11 && x_12))) fun x_13=>some (i_1,x_13))
theorem iG {F:Nat} {x0:List Int} {target0:Int} {r:Int × Bool} (h:dU F x0 target0 = some r):au Tryz.prog [] 76 [] [.one (.sl 1 (x0.map eI)),.one (.i target0)] (Is [] (.dD [.one (.i r.1),.one (.bool r.2)])):=by
 unfold dU at h
 refine au.intro 54 Tryz.func76 Tryz.ntmps76 rfl (by simp) fun E=>?_
 show ab _ E ⟨54,[],[],[]⟩ _ ⟨[(0,.b (.one (.sl 1 (x0.map eI)))),(1,I target0)],[]⟩ _
 refine ab.seq (ab.aa ?_)
 refine Oc oa (Oc oa ?_)
 refine af.ai ⟨[(0,.b (.one (.sl 1 (x0.map eI)))),(1,I target0)],[]⟩ rfl (ab.seq (ab.aa ?_))
 refine Oc om (Oc (a8 fm rfl (List.length_map _)) (Oc oa ?_))
 refine af.ai ⟨[(0,_),(1,_),(6,I (x0.length:Int))],[]⟩ rfl (ab.seq (ab.aa ?_))
 refine Oc om (Oc oa (Oc oa ?_))
 refine af.ai ⟨[(0,_),(1,_),(6,_),(7,I 0),(8,I (x0.length:Int))],[]⟩ rfl ?_
 obtain ⟨v1,h2,h⟩:=aO h
 refine ab.dY (v:=v1) (fun (i_1:Int)=>⟨[(0,.b (.one (.sl 1 (x0.map eI)))),(1,I target0),(6,I (x0.length:Int)),(7,I i_1)],[]⟩) (fun z=>z) ?_ ?_
 ·refine ab.block (ab.c6 h2 (dn fun (i_2:Int) (j_3:Int)=>⟨[(0,.b (.one (.sl 1 (x0.map eI)))),(1,I target0),(6,I (x0.length:Int)),(7,I i_2),(8,I j_3)],[]⟩) [0,1,6,7,8] [] rfl ?_)
  rintro ⟨i_2,j_3⟩ o3 h4 hy5
  refine ab.seq (ab.seq (ab.aa ?_))
  refine Oc om (Oc om (Oc (bu rfl rfl) ?_))
  refine af.ai ⟨[(0,_),(1,_),(6,_),(7,_),(8,_),(15,B (decide (i_2 < j_3)))],[]⟩ rfl (ab.ite h4 rfl (fun _ h4=>?_) (fun _ h4=>?_))
  ·refine ab.skip (Fin.ag ⟨[(0,_),(1,_),(6,_),(7,_),(8,_)],[]⟩ rfl (Fin.then (ab.block (ab.seq (ab.aa ?_)))))
   refine Oc om (Oc om (Oc (bJ rfl rfl) ?_))
   refine af.oM .u64 h4 rfl (eu qa pH rfl) (fun x_5 h4=>?_)
   refine Oc (jg (m:=1) (by decide) rfl rfl rfl) (Oc (eu pH qa rfl) (Oc oa ?_))
   refine af.ai ⟨[(0,_),(1,_),(6,_),(7,_),(8,_),(9,I (IntKind.i64.wrap (x_5 / 2)))],[]⟩ rfl (ab.seq (ab.aa ?_))
   refine Oc om (Oc om ?_)
   obtain ⟨x_6,e6,h4⟩:=aO h4
   refine Oc (bc cp (bd e6) (cA (e:=eI) e6) rfl rfl) (Oc (az aT rfl rfl) (Oc om ?_))
   obtain ⟨x_7,e7,h4⟩:=aO h4
   refine Oc (ak (oI e7) goes98 rfl rfl) (af.ai ⟨[(0,_),(1,_),(6,_),(7,_),(8,_),(9,_),(27,B x_7)],[]⟩ rfl (ab.ite h4 rfl (fun _ h4=>?_) (fun _ h4=>?_)))
   ·refine ab.aa (Oc om (af.oM .i64 h4 rfl (bJ rfl rfl) (fun x_8 h4=>?_)))
    refine Oc oa (af.nil (Fin.ay ?_))
    exact Fin.ct [0,1,6,7,8] [] (x_8,j_3) (Option.some.inj h4) rfl
   ·refine ab.aa (Oc om (Oc oa ?_))
    refine af.nil (Fin.ay ?_)
    exact Fin.ct [0,1,6,7,8] [] (i_2,IntKind.i64.wrap (x_5 / 2)) (Option.some.inj h4) rfl
  ·refine ab.exit (Fin.aA ?_)
   obtain rfl:=hy5 _ (Option.some.inj h4).symm
   refine Fin.aA (Fin.aV ?_)
   exact Fin.join [0,1,6,7] [] i_2 rfl rfl
 ·rintro i_1 hv
  subst v1
  refine ab.seq (ab.aa ?_)
  refine Oc om (Oc om (Oc om (Oc (bu rfl rfl) (Oc om ?_))))
  refine fI (decide (i_1 < (x0.length:Int))) [] (fun g8=>trivial) (fun g8=>om) (fI (decide (i_1 < (x0.length:Int))) [] (fun g9=>by exact trivial) (fun g9=>om) (af.ag ⟨[(0,_),(1,_),(7,_),(31,I i_1),(35,B (decide (i_1 < (x0.length:Int)))),(36,.opt (decide (i_1 < (x0.length:Int))) (.one (.sl 1 (x0.map eI)))),(37,.opt (decide (i_1 < (x0.length:Int))) (.one (.i i_1)))],[]⟩ rfl ?_))
  obtain ⟨x_9,e11,h⟩:=aO h
  refine fI (decide (i_1 < (x0.length:Int))) [36,37] (fun g10=>⟨g10,g10,trivial⟩) (fun g10=>bc cp (bd (gc e11 g10)) (cA (e:=eI) (gc e11 g10)) rfl rfl) (fI (decide (i_1 < (x0.length:Int))) [38] (fun g12=>⟨g12,trivial⟩) (fun g12=>az aT rfl rfl) (fI (decide (i_1 < (x0.length:Int))) [] (fun g13=>trivial) (fun g13=>om) (fI (decide (i_1 < (x0.length:Int))) [39,40] (fun g14=>by exact ⟨g14,g14,trivial⟩) (fun g14=>di rfl rfl) (fI (decide (i_1 < (x0.length:Int))) [41] (fun g15=>by exact ⟨g15,trivial⟩) (fun g15=>om) (af.jQ ((decide (i_1 < (x0.length:Int))) && !(decide (x_9 = target0))) 99 [] (.under rfl) (nB _ _) rfl rfl (fun g16=>by exact trivial) (fun g16=>om) ?_)))))
  refine af.jQ ((decide (i_1 < (x0.length:Int))) && !(decide (x_9 = target0))) 99 [] (.under rfl) (nB _ _) rfl rfl (fun g17=>trivial) (fun g17=>om) ?_
  obtain ⟨x_10,e19,h⟩:=aO h
  refine af.jQ ((decide (i_1 < (x0.length:Int))) && !(decide (x_9 = target0))) 99 [43,44] (.under rfl) (nB _ _) rfl rfl (fun g18=>⟨g18,g18,trivial⟩) (fun g18=>bc cp (bd (gc e19 g18)) (cA (e:=eI) (gc e19 g18)) rfl rfl) (af.ag ⟨[(1,_),(31,_),(35,_),(42,.opt (decide (i_1 < (x0.length:Int))) (.one (.bool (decide (x_9 = target0))))),(45,.opt ((decide (i_1 < (x0.length:Int))) && !(decide (x_9 = target0))) (.aN [.i x_10]))],[]⟩ rfl (af.jQ ((decide (i_1 < (x0.length:Int))) && !(decide (x_9 = target0))) 99 [45] (.under rfl) (nB _ _) rfl rfl (fun g20=>⟨g20,trivial⟩) (fun g20=>az aT rfl rfl) ?_))
  obtain ⟨x_11,e22,h⟩:=aO h
  refine af.jQ ((decide (i_1 < (x0.length:Int))) && !(decide (x_9 = target0))) 99 [46] (.under rfl) (nB _ _) rfl rfl (fun g21=>⟨g21,trivial⟩) (fun g21=>ak (iv (gc e22 g21)) tP rfl rfl) (af.jQ ((decide (i_1 < (x0.length:Int))) && !(decide (x_9 = target0))) 99 [47] (.under rfl) (nB _ _) rfl rfl (fun g23=>⟨g23,trivial⟩) (fun g23=>om) (af.jQ (((decide (i_1 < (x0.length:Int))) && !(decide (x_9 = target0))) && x_11) 99 [] (.under rfl) (and_t _ _) rfl rfl (fun g24=>trivial) (fun g24=>om) (af.ag ⟨[(31,_),(35,_),(42,_),(48,.opt ((decide (i_1 < (x0.length:Int))) && !(decide (x_9 = target0))) (.one (.bool x_11))),(49,.opt (((decide (i_1 < (x0.length:Int))) && !(decide (x_9 = target0))) && x_11) (.one (.i target0)))],[]⟩ rfl ?_)))
  obtain ⟨x_12,e26,h⟩:=aO h
  refine af.jQ (((decide (i_1 < (x0.length:Int))) && !(decide (x_9 = target0))) && x_11) 99 [49] (.under rfl) (and_t _ _) rfl rfl (fun g25=>⟨g25,trivial⟩) (fun g25=>ak (iv (gc e26 g25)) tP rfl rfl) (af.jQ ((decide (i_1 < (x0.length:Int))) && !(decide (x_9 = target0))) 99 [48] (.under rfl) (nB _ _) rfl rfl (fun g27=>⟨g27,trivial⟩) (fun g27=>aH (fun e=>by rw [g27,e]; rfl) rfl rfl rfl rfl) (fI (decide (i_1 < (x0.length:Int))) [42] (fun g28=>⟨g28,trivial⟩) (fun g28=>ck (fun e=>by rw [g28,e]; rfl) rfl rfl rfl rfl) (af.nA h rfl (aH (fun e=>e) rfl rfl rfl rfl) (fun x_13 h=>?_))))
  refine Oc oa (Oc oa ?_)
  refine af.ai ⟨[(4,I i_1),(5,B x_13)],[]⟩ rfl (ab.ret ?_)
  obtain rfl:=Option.some.inj h
  refine Fin.ag ⟨[(4,_),(5,_)],[]⟩ rfl (Fin.av [.one (.i i_1),.one (.bool x_13)] (.inl rfl) rfl (.cons (.tmp rfl) (.cons (.tmp rfl) .nil)) ⟨rfl,rfl⟩)
def fW (F:Nat) (a0:List Int) (b0:List Int):Option (List Int) :=
 Option.bind (iter F (dn fun out_2 x_3=>if (decide (x_3 < (a0.length:Int))) = true then (Option.bind ((bg a0 x_3).bind fun x_6=>Option.bind (dU F b0 x_6) (dn fun x_7 x_8=>if (!x_8) = true then ((ja out_2 [x_6]).bind fun x_9=>some x_9) else (some out_2))) (fun out_5=>some (.inl (out_5,IntKind.i64.wrap (x_3 + 1))))) else (some (.inr out_2))) ([],0)) (fun out_1=>some out_1)
theorem iX (kr0:Nat) {F:Nat} {a0:List Int} {b0:List Int} {r:(List Int)} (h:fW F a0 b0 = some r):au Tryz.prog [] 56 [] [.one (.sl 1 (a0.map eI)),.one (.sl 1 (b0.map eI))] (Is [(kr0,.row 3 1 (r.map eI))] (.b (.row kr0))):=by
 unfold fW at h
 refine au.intro 30 Tryz.func56 Tryz.ntmps56 rfl (by simp) fun E=>?_
 show ab _ E ⟨30,[],[],[]⟩ _ ⟨[(0,.b (.one (.sl 1 (a0.map eI)))),(1,.b (.one (.sl 1 (b0.map eI))))],[]⟩ _
 refine ab.seq (ab.aa ?_)
 refine Oc oa (af.ai ⟨[(0,.b (.one (.sl 1 (a0.map eI)))),(1,.b (.one (.sl 1 (b0.map eI))))],[]⟩ rfl (ab.seq (ab.aa ?_)))
 refine Oc oa (af.ai ⟨[(0,_),(1,_),(5,.b (.one (.nil)))],[]⟩ rfl ?_)
 obtain ⟨v1,h2,h⟩:=aO h
 refine ab.dY (v:=v1) (fun (out_1:List Int)=>⟨[(5,.b (.row 102))],[(102,.row 3 1 (out_1.map eI))]⟩) (fun z=>z) ?_ ?_
 ·refine ab.seq (ab.aa ?_)
  refine Oc om (Oc (a8 fm rfl (List.length_map _)) (Oc om ?_))
  refine af.ai ⟨[(1,_),(5,_),(10,.b (.one (.sl 1 (a0.map eI)))),(11,I (a0.length:Int)),(12,I 0)],[]⟩ rfl (ab.block (ab.fL 5 102 1 3 rfl (by decide) rfl (ab.c6 h2 (dn fun (out_2:List Int) (x_3:Int)=>⟨[(1,.b (.one (.sl 1 (b0.map eI)))),(5,.b (.row 102)),(10,.b (.one (.sl 1 (a0.map eI)))),(11,I (a0.length:Int)),(12,I x_3)],[(102,.row 3 1 (out_2.map eI))]⟩) [1,5,10,11,12] [102] rfl ?_)))
  rintro ⟨out_2,x_3⟩ o3 h4 hy5
  refine ab.seq (ab.aa ?_)
  refine Oc (bu rfl rfl) (af.ai ⟨[(1,_),(5,_),(10,_),(11,_),(12,_),(13,B (decide (x_3 < (a0.length:Int))))],[(102,_)]⟩ rfl (ab.seq (ab.ite h4 rfl (fun _ h4=>?_) (fun _ h4=>?_))))
  ·refine ab.skip (Fin.ag ⟨[(1,_),(5,_),(10,_),(11,_),(12,_)],[(102,_)]⟩ rfl (Fin.then ?_))
   obtain ⟨v6,h7,h4⟩:=aO h4
   refine ab.dY (v:=v6) (fun (out_5:List Int)=>⟨[(1,.b (.one (.sl 1 (b0.map eI)))),(5,.b (.row 102)),(10,.b (.one (.sl 1 (a0.map eI)))),(11,I (a0.length:Int)),(12,I x_3)],[(102,.row 3 1 (out_5.map eI))]⟩) (fun z=>z) ?_ ?_
   ·refine ab.block (ab.seq (ab.aa ?_))
    obtain ⟨x_6,e8,h7⟩:=aO h7
    refine Oc (bc cp (bd e8) (cA (e:=eI) e8) rfl rfl) (Oc (az aT rfl rfl) (Oc oa ?_))
    refine af.ai ⟨[(1,_),(5,_),(7,I x_6),(10,_),(11,_),(12,_)],[(102,_)]⟩ rfl (ab.seq (ab.aa ?_))
    refine Oc om (Oc om ?_)
    obtain ⟨⟨x_7,x_8⟩,e9,h7⟩:=aO h7
    refine Oc (ak (iG e9) goes76 rfl rfl) (Oc om (Oc (aq rfl rfl) ?_))
    refine af.ag ⟨[(1,_),(5,_),(7,_),(10,_),(11,_),(12,_),(16,.dD [.one (.i x_7),.one (.bool x_8)]),(20,I x_7)],[(102,_)]⟩ rfl (Oc (aq rfl rfl) (Oc oa (Oc oa ?_)))
    refine af.ai ⟨[(1,_),(5,_),(7,_),(9,B x_8),(10,_),(11,_),(12,_)],[(102,_)]⟩ rfl (ab.seq (ab.aa ?_))
    refine Oc om (Oc (dF rfl) ?_)
    refine af.ai ⟨[(1,_),(5,_),(7,_),(10,_),(11,_),(12,_),(23,B (!x_8))],[(102,_)]⟩ rfl (ab.ite h7 rfl (fun _ h7=>?_) (fun _ h7=>?_))
    ·refine ab.aa (Oc om (Oc om (Oc (cr (k:=103) (es:=[x_6].map eI) cp rfl rfl (cH fun _=>rfl) rfl (by decide) (by decide) rfl) ?_)))
     obtain ⟨x_9,e10,h7⟩:=aO h7
     refine Oc (fe cp (oP e10) (oO e10) rfl rfl rfl rfl (kA e10) rfl) (Oc oa ?_)
     refine af.nil (Fin.ay ?_)
     exact Fin.join [1,5,10,11,12] [102] x_9 (Option.some.inj h7) rfl
    ·refine ab.skip (Fin.ay ?_)
     exact Fin.join [1,5,10,11,12] [102] out_2 (Option.some.inj h7) rfl
   ·rintro out_5 hv
    subst v6
    refine ab.aa (Oc (bJ rfl rfl) (Oc om ?_))
    refine af.nil ?_
    exact Fin.ct [1,5,10,11,12] [102] (out_5,IntKind.i64.wrap (x_3 + 1)) (Option.some.inj h4) rfl
  ·refine ab.exit (Fin.aA ?_)
   obtain rfl:=hy5 _ (Option.some.inj h4).symm
   refine Fin.aA (Fin.aV ?_)
   exact Fin.join [5] [102] out_2 rfl rfl
 ·rintro out_1 hv
  subst v1
  refine ab.seq (ab.aa ?_)
  refine Oc om (Oc oa ?_)
  refine af.ai ⟨[(4,.b (.row 102))],[(102,_)]⟩ rfl (ab.ret ?_)
  obtain rfl:=Option.some.inj h
  refine Fin.ag ⟨[(4,_)],[(102,_)]⟩ rfl (Fin.lO 102 kr0 [.row 102] (.inl rfl) rfl (.cons (.tmp rfl) .nil) rfl rfl rfl rfl ⟨rfl,rfl⟩)
def ey (F:Nat) (s0:ca) (id0:Int) (b0:bC):Option (ca × (List Int) × (List Int) × Int) :=
 (bP F b0).bind fun x_1=>if (!x_1) = true then (fj (⟨(⟨.leaf,0,0,0⟩:iJ),(⟨.leaf,0,0,0⟩:iJ)⟩:ca) fun x_2=>some (x_2,[],[],1)) else (Option.bind (cz F s0 id0) (dn fun x_3 x_4=>if (!x_4) = true then (fj (⟨(⟨.leaf,0,0,0⟩:iJ),(⟨.leaf,0,0,0⟩:iJ)⟩:ca) fun x_5=>some (x_5,[],[],5)) else (Option.bind (bN F s0 id0) (dn fun x_6 x_7=>(bW F x_6 x_3.b).bind fun x_8=>(bW F x_6 b0).bind fun x_9=>Option.bind (bj F x_6 id0 b0) (dn fun x_10 x_11=>(fW F x_9 x_8).bind fun x_12=>(fW F x_8 x_9).bind fun x_13=>some (x_10,x_12,x_13,x_11))))))
theorem kM {F:Nat} {s0:ca} {id0:Int} {b0:bC} {r:ca × (List Int) × (List Int) × Int} (h:ey F s0 id0 b0 = some r):au Tryz.prog [] 25 [] [.agg (an s0),.one (.i id0),.agg (aj b0)] (Is [] (.dD [.agg (an r.1),.one (.sl 1 (r.2.1.map eI)),.one (.sl 1 (r.2.2.1.map eI)),.one (.i r.2.2.2)])):=by
 unfold ey at h
 refine au.intro 57 Tryz.func25 Tryz.ntmps25 rfl (by simp) fun E=>?_
 show ab _ E ⟨57,[],[],[]⟩ _ ⟨[(0,.b (.agg (an s0))),(1,I id0),(2,.b (.agg (aj b0)))],[]⟩ _
 refine ab.seq (ab.aa ?_)
 refine Oc (bR (k:=101) rfl rfl) (Oc (bR (k:=102) rfl rfl) (Oc (aZ (k:=103) eb rfl) (Oc oa (Oc oa (Oc oa ?_)))))
 refine af.ai ⟨[(1,I id0),(3,Pt 101 0),(5,Pt 102 0),(6,Pt 103 0)],[(101,.box 49 (an s0)),(102,.box 25 (aj b0)),(103,.box 49 [.tr ae (.leaf),.c5 0,.c5 0,.c5 0,.tr ae (.leaf),.c5 0,.c5 0,.c5 0])]⟩ rfl (ab.seq (ab.seq (ab.aa ?_)))
 refine Oc (lp aC) ?_
 obtain ⟨x_1,e1,h⟩:=aO h
 refine Oc (ak (cF e1) lh rfl rfl) (Oc (dF rfl) ?_)
 refine af.ai ⟨[(1,_),(3,_),(5,_),(6,_),(18,B (!x_1))],[(101,_),(102,_),(103,_)]⟩ rfl (ab.ite h rfl (fun _ h=>?_) (fun _ h=>?_))
 ·refine ab.seq (ab.aa ?_)
  refine af.lM an h rfl (cI eX rfl rfl) (fun x_2 h=>?_)
  refine Oc (aE aJ rfl rfl rfl rfl (Nat.le_of_ble_eq_true rfl) rfl) (Oc oa (Oc oa (Oc oa ?_)))
  refine af.ai ⟨[(6,_),(7,.b (.one (.nil))),(8,.b (.one (.nil))),(9,I 1)],[(103,.box 49 (an x_2))]⟩ rfl (ab.ret (Fin.ao ?_))
  obtain rfl:=Option.some.inj h
  refine Fin.ag ⟨[(6,_),(7,_),(8,_),(9,_)],[(103,_)]⟩ rfl (Fin.iK 7 1 rfl (by decide) (Fin.iK 8 1 rfl (by decide) (Fin.av [.agg (an x_2),.one (.sl 1 ([].map eI)),.one (.sl 1 ([].map eI)),.one (.i 1)] (.inl rfl) rfl (.cons (.agg aJ rfl rfl rfl rfl) (.cons (.tmp rfl) (.cons (.tmp rfl) (.cons (.tmp rfl) .nil)))) ⟨rfl,rfl⟩)))
 ·refine ab.skip (Fin.ag ⟨[(1,_),(3,_),(5,_),(6,_)],[(101,_),(102,_),(103,_)]⟩ rfl (Fin.then (ab.seq (ab.aa ?_))))
  refine Oc (lp aJ) (Oc om ?_)
  obtain ⟨⟨x_3,x_4⟩,e2,h⟩:=aO h
  refine Oc (ak (eT e2) ru rfl rfl) (Oc om (Oc (aq rfl rfl) ?_))
  refine af.ag ⟨[(1,_),(3,_),(5,_),(6,_),(20,.dD [.agg (ar x_3),.one (.bool x_4)]),(24,.b (.agg (ar x_3)))],[(101,_),(102,_),(103,_)]⟩ rfl (Oc (aq rfl rfl) (Oc (aZ (k:=104) ga rfl) (Oc (aE bz rfl rfl rfl rfl (Nat.le_of_ble_eq_true rfl) rfl) (Oc oa ?_))))
  refine af.ai ⟨[(1,_),(3,_),(5,_),(6,_),(10,Pt 104 0),(11,B x_4)],[(101,_),(102,_),(103,_),(104,.box 87 (ar x_3))]⟩ rfl (ab.seq (ab.seq (ab.aa ?_)))
  refine Oc om (Oc (dF rfl) ?_)
  refine af.ai ⟨[(1,_),(3,_),(5,_),(6,_),(10,_),(27,B (!x_4))],[(101,_),(102,_),(103,_),(104,_)]⟩ rfl (ab.ite h rfl (fun _ h=>?_) (fun _ h=>?_))
  ·refine ab.seq (ab.aa ?_)
   refine af.lM an h rfl (cI eX rfl rfl) (fun x_5 h=>?_)
   refine Oc (aE aJ rfl rfl rfl rfl (Nat.le_of_ble_eq_true rfl) rfl) (Oc oa (Oc oa (Oc oa ?_)))
   refine af.ai ⟨[(6,_),(7,.b (.one (.nil))),(8,.b (.one (.nil))),(9,I 5)],[(103,.box 49 (an x_5))]⟩ rfl (ab.ret (Fin.ao ?_))
   obtain rfl:=Option.some.inj h
   refine Fin.ag ⟨[(6,_),(7,_),(8,_),(9,_)],[(103,_)]⟩ rfl (Fin.iK 7 1 rfl (by decide) (Fin.iK 8 1 rfl (by decide) (Fin.av [.agg (an x_5),.one (.sl 1 ([].map eI)),.one (.sl 1 ([].map eI)),.one (.i 5)] (.inl rfl) rfl (.cons (.agg aJ rfl rfl rfl rfl) (.cons (.tmp rfl) (.cons (.tmp rfl) (.cons (.tmp rfl) .nil)))) ⟨rfl,rfl⟩)))
  ·refine ab.skip (Fin.ag ⟨[(1,_),(3,_),(5,_),(6,_),(10,_)],[(101,_),(102,_),(103,_),(104,_)]⟩ rfl (Fin.then (ab.seq (ab.aa ?_))))
   refine Oc (lp aJ) (Oc om ?_)
   obtain ⟨⟨x_6,x_7⟩,e3,h⟩:=aO h
   refine Oc (ak (dV e3) rz rfl rfl) (Oc om (Oc (aq rfl rfl) ?_))
   refine af.ag ⟨[(1,_),(5,_),(6,_),(10,_),(29,.dD [.agg (an x_6),.one (.i x_7)]),(33,.b (.agg (an x_6)))],[(102,_),(103,_),(104,_)]⟩ rfl (Oc (aq rfl rfl) (Oc (aZ (k:=105) eb rfl) (Oc (aE aJ rfl rfl rfl rfl (Nat.le_of_ble_eq_true rfl) rfl) (Oc oa ?_))))
   refine af.ai ⟨[(1,_),(5,_),(6,_),(10,_),(12,Pt 105 0)],[(102,_),(103,_),(104,_),(105,.box 49 (an x_6))]⟩ rfl (ab.seq ?_)
   obtain ⟨x_8,e4,h⟩:=aO h
   obtain ⟨x_9,e5,h⟩:=aO h
   refine ab.gA mixed [false,false,false,true,false,false,true,false,false] [.b (.agg (an x_6)),Pt 104 1,.b (.agg (aj x_3.b)),.b (.row 106),.b (.agg (an x_6)),.b (.agg (aj b0)),.b (.row 107),.b (.row 106),.b (.row 107)] [⟨[false,false,false,false,false,false,false,false,false],[(1,I id0),(5,Pt 102 0),(6,Pt 103 0),(10,Pt 104 0),(12,Pt 105 0)],[(102,.box 25 (aj b0)),(103,.box 49 [.tr ae (.leaf),.c5 0,.c5 0,.c5 0,.tr ae (.leaf),.c5 0,.c5 0,.c5 0]),(104,.box 87 (ar x_3)),(105,.box 49 (an x_6))],[true,true,true,true,true,true,true,true,true],[],[6,7,8]⟩,⟨[false,false,false,true,false,false,false,false,false],[(1,I id0),(5,Pt 102 0),(6,Pt 103 0),(10,Pt 104 0),(12,Pt 105 0)],[(102,.box 25 (aj b0)),(103,.box 49 [.tr ae (.leaf),.c5 0,.c5 0,.c5 0,.tr ae (.leaf),.c5 0,.c5 0,.c5 0]),(104,.box 87 (ar x_3)),(105,.box 49 (an x_6)),(106,.row 3 1 (x_8.map eI))],[true,true,true,true,true,true,true,true,true],[0,1,2,3],[7,8]⟩,⟨[false,false,false,true,false,false,true,false,false],[(1,I id0),(5,Pt 102 0),(6,Pt 103 0),(10,Pt 104 0),(12,Pt 105 0)],[(102,.box 25 (aj b0)),(103,.box 49 [.tr ae (.leaf),.c5 0,.c5 0,.c5 0,.tr ae (.leaf),.c5 0,.c5 0,.c5 0]),(104,.box 87 (ar x_3)),(105,.box 49 (an x_6)),(106,.row 3 1 (x_8.map eI)),(107,.row 3 1 (x_9.map eI))],[true,true,true,true,true,true,true,true,true],[0,1,2,3,4,5,6],[]⟩] rfl (⟨by kernel_rfl,⟨⟨.b (.agg (an x_6)),fun _=>rfl,fun _=>.p (by exact cn aJ rfl rfl rfl rfl)⟩,⟨Pt 104 1,fun _=>rfl,fun _=>.p (by exact aw gO rfl rfl)⟩,⟨.b (.agg (aj x_3.b)),fun _=>rfl,fun _=>.p (by exact cn aC rfl rfl rfl rfl)⟩,⟨_,[106],.b (.row 106),rfl,fun _=>rfl,rfl,rfl,fun _=>.pq [102,103,104,105,106] (by exact .p (by exact cT (own_a:=[]) ((dq e4).sw 51 106) pA rfl trivial rfl rfl)) (by exact rfl)⟩,⟨.b (.agg (an x_6)),fun _=>rfl,fun _=>.p (by exact cn aJ rfl rfl rfl rfl)⟩,⟨.b (.agg (aj b0)),fun _=>rfl,fun _=>.p (by exact cn aC rfl rfl rfl rfl)⟩,trivial,trivial,trivial,trivial⟩,⟨by kernel_rfl,⟨trivial,trivial,trivial,trivial,⟨.b (.agg (an x_6)),fun _=>rfl,fun _=>.p (by exact cn aJ rfl rfl rfl rfl)⟩,⟨.b (.agg (aj b0)),fun _=>rfl,fun _=>.p (by exact cn aC rfl rfl rfl rfl)⟩,⟨_,[107],.b (.row 107),rfl,fun _=>rfl,rfl,rfl,fun _=>.pq [102,103,104,105,106,107] (by exact .p (by exact cT (own_a:=[]) ((dq e5).sw 51 107) pA rfl trivial rfl rfl)) (by exact rfl)⟩,trivial,trivial,trivial⟩,⟨by kernel_rfl,⟨trivial,trivial,trivial,trivial,trivial,trivial,trivial,⟨.b (.row 106),fun _=>rfl,fun _=>.p (by exact br rfl)⟩,⟨.b (.row 107),fun _=>rfl,fun _=>.p (by exact br rfl)⟩,trivial⟩,trivial⟩⟩⟩) rfl rfl rfl [1,5,6,12,14,15] [102,103,105,106,107] (s':=⟨[(1,_),(5,_),(6,_),(12,_),(14,.b (.row 106)),(15,.b (.row 107))],[(102,_),(103,_),(105,_),(106,.row 3 1 (x_8.map eI)),(107,.row 3 1 (x_9.map eI))]⟩) rfl ?_
   refine ab.seq (ab.aa ?_)
   refine Oc (lp aJ) (Oc om (Oc (lp aC) ?_))
   obtain ⟨⟨x_10,x_11⟩,e6,h⟩:=aO h
   refine Oc (ak (bM e6) jS rfl rfl) (Oc om ?_)
   refine af.ag ⟨[(6,_),(14,_),(15,_),(42,.dD [.agg (an x_10),.one (.i x_11)])],[(103,_),(106,_),(107,_)]⟩ rfl (Oc (aq rfl rfl) (Oc (aq rfl rfl) (Oc (aE aJ rfl rfl rfl rfl (Nat.le_of_ble_eq_true rfl) rfl) (Oc oa ?_))))
   refine af.ai ⟨[(6,Pt 103 0),(9,I x_11),(14,.b (.row 106)),(15,.b (.row 107))],[(103,.box 49 (an x_10)),(106,.row 3 1 (x_8.map eI)),(107,.row 3 1 (x_9.map eI))]⟩ rfl (ab.seq (ab.dp 107 rfl (ab.dp 106 rfl (ab.ag ⟨[(6,_),(9,_),(14,.b (.one (.sl 1 (x_8.map eI)))),(15,.b (.one (.sl 1 (x_9.map eI))))],[(103,_)]⟩ rfl ?_))))
   obtain ⟨x_12,e7,h⟩:=aO h
   obtain ⟨x_13,e8,h⟩:=aO h
   refine ab.gA mixed [false,false,false,false,false,false,false,false,true,false,false,true] [.b (.agg (an x_10)),.b (.one (.sl 1 (x_9.map eI))),.b (.one (.sl 1 (x_8.map eI))),.b (.one (.sl 1 (x_12.map eI))),.b (.one (.sl 1 (x_8.map eI))),.b (.one (.sl 1 (x_9.map eI))),.b (.one (.sl 1 (x_13.map eI))),I x_11,B true,.b (.one (.sl 1 (x_12.map eI))),.b (.one (.sl 1 (x_13.map eI))),I x_11] [⟨[false,false,false,false,false,false,false,false,false,false,false,false],[(6,Pt 103 0),(9,I x_11),(14,.b (.one (.sl 1 (x_8.map eI)))),(15,.b (.one (.sl 1 (x_9.map eI))))],[(103,.box 49 (an x_10))],[true,true,true,true,true,true,true,true,true,true,true,true],[],[9,10,11]⟩,⟨[false,false,false,false,false,false,false,false,true,false,false,false],[(6,Pt 103 0),(9,I x_11),(14,.b (.one (.sl 1 (x_8.map eI)))),(15,.b (.one (.sl 1 (x_9.map eI))))],[(103,.box 49 (an x_10))],[true,true,true,true,true,true,true,true,true,true,true,true],[0,1,2,3,4,5,6,8],[]⟩,⟨[false,false,false,false,false,false,false,false,true,false,false,true],[(6,Pt 103 0),(14,.b (.one (.sl 1 (x_8.map eI)))),(15,.b (.one (.sl 1 (x_9.map eI))))],[(103,.box 49 (an x_10))],[true,true,true,true,true,true,true,true,true,true,true,true],[0,1,2,3,4,5,6,7,8,9,10,11],[]⟩] rfl (⟨by kernel_rfl,⟨⟨.b (.agg (an x_10)),fun _=>rfl,fun _=>.p (by exact cn aJ rfl rfl rfl rfl)⟩,⟨.b (.one (.sl 1 (x_9.map eI))),fun _=>rfl,fun _=>.p (by exact aI rfl)⟩,⟨.b (.one (.sl 1 (x_8.map eI))),fun _=>rfl,fun _=>.p (by exact aI rfl)⟩,⟨.b (.one (.sl 1 (x_12.map eI))),fun _=>rfl,fun _=>.p (by exact ak (iX 0 e7).mQ tS rfl rfl)⟩,⟨.b (.one (.sl 1 (x_8.map eI))),fun _=>rfl,fun _=>.p (by exact aI rfl)⟩,⟨.b (.one (.sl 1 (x_9.map eI))),fun _=>rfl,fun _=>.p (by exact aI rfl)⟩,⟨.b (.one (.sl 1 (x_13.map eI))),fun _=>rfl,fun _=>.p (by exact ak (iX 0 e8).mQ tS rfl rfl)⟩,⟨I x_11,fun _=>rfl,fun _=>.p (by exact aI rfl)⟩,⟨_,[],.b (.one .any),rfl,(fun e=>by simp at e),rfl,rfl,fun _=>.pq [103] (by exact .p (by exact aE aJ rfl rfl rfl rfl (Nat.le_of_ble_eq_true rfl) rfl)) (by exact rfl)⟩,trivial,trivial,trivial,trivial⟩,⟨by kernel_rfl,⟨trivial,trivial,trivial,trivial,trivial,trivial,trivial,⟨I x_11,fun _=>rfl,fun _=>.p (by exact aI rfl)⟩,trivial,⟨.b (.one (.sl 1 (x_12.map eI))),fun _=>rfl,fun _=>.p (by exact br rfl)⟩,⟨.b (.one (.sl 1 (x_13.map eI))),fun _=>rfl,fun _=>.p (by exact br rfl)⟩,⟨_,[],I x_11,rfl,fun _=>rfl,rfl,rfl,fun _=>.pq [103] (by exact .p (by exact br rfl)) (by exact rfl)⟩,trivial⟩,⟨by kernel_rfl,⟨trivial,trivial,trivial,trivial,trivial,trivial,trivial,trivial,trivial,trivial,trivial,trivial,trivial⟩,trivial⟩⟩⟩) rfl rfl rfl [6,7,8,9] [103] (s':=⟨[(6,_),(7,.b (.one (.sl 1 (x_12.map eI)))),(8,.b (.one (.sl 1 (x_13.map eI)))),(9,_)],[(103,_)]⟩) rfl ?_
   refine ab.ret ?_
   obtain rfl:=Option.some.inj h
   refine Fin.ag ⟨[(6,_),(7,_),(8,_),(9,_)],[(103,_)]⟩ rfl (Fin.av [.agg (an x_10),.one (.sl 1 (x_12.map eI)),.one (.sl 1 (x_13.map eI)),.one (.i x_11)] (.inl rfl) rfl (.cons (.agg aJ rfl rfl rfl rfl) (.cons (.tmp rfl) (.cons (.tmp rfl) (.cons (.tmp rfl) .nil)))) ⟨rfl,rfl⟩)
end Go.Proofs.YtagpkeehkcopaaaGreat

