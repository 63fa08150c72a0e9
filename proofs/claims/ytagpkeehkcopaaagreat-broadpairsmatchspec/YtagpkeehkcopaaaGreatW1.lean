/- printed walks -/
import Derived.Test.YtagpkeehkcopaaaGreatT1
namespace Go.Proofs.YtagpkeehkcopaaaGreat
open Go.Sk Go
set_option maxHeartbeats 4000000
set_option maxRecDepth 4000
set_option linter.unusedSimpArgs false
set_option linter.unusedVariables false
theorem tc:Tryz.prog.underlying 88 = some (.int .u64):=Tryz.underlying88
theorem undi5:Tryz.prog.underlying 5 = some (.int .u8):=Tryz.underlying5
theorem und9:Tryz.prog.underlying 9 = some .string:=Tryz.underlying9
theorem pI:Tryz.prog.underlying 3 = some (.int .i64):=Tryz.underlying3
theorem goes95:bn Tryz.prog 95:=⟨Tryz.call95⟩
theorem goes114:bn Tryz.prog 114:=⟨Tryz.call114⟩
theorem fb:Tryz.prog.underlying 51 = some (.slice 3):=Tryz.underlying51
theorem pc:Tryz.prog.underlying 112 = some (.int .u64):=Tryz.underlying112
theorem goes69:bn Tryz.prog 69:=⟨Tryz.call69⟩
theorem goes97:bn Tryz.prog 97:=⟨Tryz.call97⟩
theorem dK:cX Tryz.prog 87 0 0 3:=⟨⟨_,_,Tryz.t3,Tryz.underlying87,rfl,rfl,rfl,by kernel_rfl,by decide⟩⟩
theorem aQ:cK Tryz.prog 3:=⟨⟨_,Tryz.underlying3,rfl⟩,⟨Tryz.t3,by kernel_rfl,by kernel_rfl⟩⟩
theorem goes48:bn Tryz.prog 48:=⟨Tryz.call48⟩
theorem fm:jI Tryz.prog 25 ((cG .i64) A3.zero ++ ((cG .i64) A3.zero)):=⟨⟨Tryz.t25,_,by kernel_rfl,rfl,rfl⟩⟩
theorem gA:cX Tryz.prog 87 1 1 25:=⟨⟨_,_,Tryz.t25,Tryz.underlying87,rfl,rfl,rfl,by kernel_rfl,by decide⟩⟩
theorem aC:fe Tryz.prog 25 6:=⟨⟨_,Tryz.underlying25,rfl⟩,⟨Tryz.t25,by kernel_rfl,by kernel_rfl⟩⟩
theorem goes49:bn Tryz.prog 49:=⟨Tryz.call49⟩
theorem o2:bn Tryz.prog 70:=⟨Tryz.call70⟩
theorem qV:bn Tryz.prog 44:=⟨Tryz.call44⟩
theorem cp:kT Tryz.prog 51 3 1 8 [.i 0]:=⟨Tryz.underlying51,⟨Tryz.t3,_,by kernel_rfl,rfl,rfl,rfl,rfl,by decide,rfl⟩⟩
theorem ck:cX Tryz.prog 25 0 0 23:=⟨⟨_,_,Tryz.t23,Tryz.underlying25,rfl,rfl,rfl,by kernel_rfl,by decide⟩⟩
theorem bp:rH Tryz.prog 23 3 3 1:=⟨Tryz.underlying23,⟨Tryz.t3,by kernel_rfl,by kernel_rfl⟩⟩
theorem goes53:bn Tryz.prog 53:=⟨Tryz.call53⟩
theorem goes52:bn Tryz.prog 52:=⟨Tryz.call52⟩
theorem mixed:Tryz.prog.follows .mixedOrders = true:=by kernel_rfl
theorem goes50:bn Tryz.prog 50:=⟨Tryz.call50⟩
theorem goes51:bn Tryz.prog 51:=⟨Tryz.call51⟩
theorem cg:cX Tryz.prog 25 1 3 23:=⟨⟨_,_,Tryz.t23,Tryz.underlying25,rfl,rfl,rfl,by kernel_rfl,by decide⟩⟩
theorem lY:bn Tryz.prog 14:=⟨Tryz.call14⟩
theorem goes41:bn Tryz.prog 41:=⟨Tryz.call41⟩
theorem kW:Tryz.prog.underlying 42 = some (.pointer (Tryz.prog.pointee 42)):=(by rw [show Tryz.prog.pointee 42 = 117 from by unfold Go.Program.pointee; rw [Tryz.underlying42]]; exact Tryz.underlying42)
theorem goes123:bn Tryz.prog 123:=⟨Tryz.call123⟩
theorem l6:kn Tryz.prog 25 [(0,3),(3,3)] ((cG .i64) A3.zero ++ ((cG .i64) A3.zero)):=⟨⟨Tryz.t25,_,_,by kernel_rfl,rfl,rfl,Tryz.underlying25,by kernel_rfl⟩⟩
theorem goes13:bn Tryz.prog 13:=⟨Tryz.call13⟩
theorem oF:nI Tryz.prog 23 1 ((cG .i64) A3.zero):=⟨⟨Tryz.t23,_,_,_,Tryz.t3,by kernel_rfl,rfl,rfl,Tryz.underlying23,by kernel_rfl,by kernel_rfl⟩⟩
theorem ot:Tryz.prog.underlying 34 = some (.slice 25):=Tryz.underlying34
theorem ig:kT Tryz.prog 34 25 6 48 ((cG .i64) A3.zero ++ ((cG .i64) A3.zero)):=⟨Tryz.underlying34,⟨Tryz.t25,_,by kernel_rfl,rfl,rfl,rfl,rfl,by decide,rfl⟩⟩
theorem goes67:bn Tryz.prog 67:=⟨Tryz.call67⟩
theorem j7:cK Tryz.prog 34:=⟨⟨_,Tryz.underlying34,rfl⟩,⟨Tryz.t34,by kernel_rfl,by kernel_rfl⟩⟩
theorem tw:bn Tryz.prog 46:=⟨Tryz.call46⟩
theorem goes71:bn Tryz.prog 71:=⟨Tryz.call71⟩
theorem goes72:bn Tryz.prog 72:=⟨Tryz.call72⟩
theorem goes40:bn Tryz.prog 40:=⟨Tryz.call40⟩
theorem goes42:bn Tryz.prog 42:=⟨Tryz.call42⟩
theorem tyZero3:jI Tryz.prog 3 [.i 0]:=⟨⟨Tryz.t3,_,by kernel_rfl,rfl,rfl⟩⟩
theorem goes45:bn Tryz.prog 45:=⟨Tryz.call45⟩
theorem lX:bn Tryz.prog 16:=⟨Tryz.call16⟩
theorem ef:nI Tryz.prog 40 1 ((dv .i64) A2.zero):=⟨⟨Tryz.t40,_,_,_,Tryz.t3,by kernel_rfl,rfl,rfl,Tryz.underlying40,by kernel_rfl,by kernel_rfl⟩⟩
theorem fY:kT Tryz.prog 35 40 2 16 ((dv .i64) A2.zero):=⟨Tryz.underlying35,⟨Tryz.t40,_,by kernel_rfl,rfl,rfl,rfl,rfl,by decide,rfl⟩⟩
theorem goes47:bn Tryz.prog 47:=⟨Tryz.call47⟩
theorem rA:Tryz.prog.underlying 35 = some (.slice 40):=Tryz.underlying35
theorem mZ:fe Tryz.prog 40 2:=⟨⟨_,Tryz.underlying40,rfl⟩,⟨Tryz.t40,by kernel_rfl,by kernel_rfl⟩⟩
theorem uo (x y:A2) {d:Nat}:cS Tryz.prog (d + 2) 40 2 ((dv .i64) x) ((dv .i64) y) (decide (x = y)) :=
 (cS.arr (l:=x.l) (l':=y.l) mZ Tryz.underlying40 aQ Tryz.underlying3).cast (by rw [Bool.eq_iff_iff]; simp [A2.sZ])
theorem eqAgg40 (x y:A2):kI Tryz.prog 40 ((dv .i64) x) ((dv .i64) y) (decide (x = y)):=kI.tj (by kernel_rfl) mZ (uo x y (d:=9998)) rfl rfl
theorem fl:jI Tryz.prog 49 [.tr ae (.leaf),.cY 0,.cY 0,.cY 0,.tr ae (.leaf),.cY 0,.cY 0,.cY 0]:=⟨⟨Tryz.t49,_,by kernel_rfl,rfl,rfl⟩⟩
theorem oE:kn Tryz.prog 47 [(0,1),(1,1),(2,1),(3,1)] [.tr ae (.leaf),.cY 0,.cY 0,.cY 0]:=⟨⟨Tryz.t47,_,_,by kernel_rfl,rfl,rfl,Tryz.underlying47,by kernel_rfl⟩⟩
theorem eP:kn Tryz.prog 49 [(0,4),(4,4)] [.tr ae (.leaf),.cY 0,.cY 0,.cY 0,.tr ae (.leaf),.cY 0,.cY 0,.cY 0]:=⟨⟨Tryz.t49,_,_,by kernel_rfl,rfl,rfl,Tryz.underlying49,by kernel_rfl⟩⟩
theorem aT:fe Tryz.prog 49 8:=⟨⟨_,Tryz.underlying49,rfl⟩,⟨Tryz.t49,by kernel_rfl,by kernel_rfl⟩⟩
theorem gH:jI Tryz.prog 87 (.i 0 :: ((cG .i64) A3.zero ++ ((cG .i64) A3.zero))):=⟨⟨Tryz.t87,_,by kernel_rfl,rfl,rfl⟩⟩
theorem ko:cX Tryz.prog 49 0 0 47:=⟨⟨_,_,Tryz.t47,Tryz.underlying49,rfl,rfl,rfl,by kernel_rfl,by decide⟩⟩
theorem fA:cX Tryz.prog 47 0 0 42:=⟨⟨_,_,Tryz.t42,Tryz.underlying47,rfl,rfl,rfl,by kernel_rfl,by decide⟩⟩
theorem br:cK Tryz.prog 42:=⟨⟨_,Tryz.underlying42,rfl⟩,⟨Tryz.t42,by kernel_rfl,by kernel_rfl⟩⟩
theorem dW:cX Tryz.prog 117 0 0 87:=⟨⟨_,_,Tryz.t87,Tryz.underlying117,rfl,rfl,rfl,by kernel_rfl,by decide⟩⟩
theorem bt:fe Tryz.prog 87 7:=⟨⟨_,Tryz.underlying87,rfl⟩,⟨Tryz.t87,by kernel_rfl,by kernel_rfl⟩⟩
theorem dB:cX Tryz.prog 117 3 14 42:=⟨⟨_,_,Tryz.t42,Tryz.underlying117,rfl,rfl,rfl,by kernel_rfl,by decide⟩⟩
theorem dA:cX Tryz.prog 117 4 15 42:=⟨⟨_,_,Tryz.t42,Tryz.underlying117,rfl,rfl,rfl,by kernel_rfl,by decide⟩⟩
theorem oD:kn Tryz.prog 87 [(0,1),(1,6)] (.i 0 :: ((cG .i64) A3.zero ++ ((cG .i64) A3.zero))):=⟨⟨Tryz.t87,_,_,by kernel_rfl,rfl,rfl,Tryz.underlying87,by kernel_rfl⟩⟩
theorem qJ:Tryz.prog.underlying 144 = some (.slice 42):=Tryz.underlying144
theorem iS:kT Tryz.prog 144 42 1 8 [.tr ae (.leaf)]:=⟨Tryz.underlying144,⟨Tryz.t42,_,by kernel_rfl,rfl,rfl,rfl,rfl,by decide,rfl⟩⟩
theorem goes131:bn Tryz.prog 131:=⟨Tryz.call131⟩
theorem goes122:bn Tryz.prog 122:=⟨Tryz.call122⟩
theorem k6:cX Tryz.prog 117 1 7 88:=⟨⟨_,_,Tryz.t88,Tryz.underlying117,rfl,rfl,rfl,by kernel_rfl,by decide⟩⟩
theorem pd:cK Tryz.prog 88:=⟨⟨_,Tryz.underlying88,rfl⟩,⟨Tryz.t88,by kernel_rfl,by kernel_rfl⟩⟩
theorem sg:cX Tryz.prog 47 3 3 45:=⟨⟨_,_,Tryz.t45,Tryz.underlying47,rfl,rfl,rfl,by kernel_rfl,by decide⟩⟩
theorem tyOne45:cK Tryz.prog 45:=⟨⟨_,Tryz.underlying45,rfl⟩,⟨Tryz.t45,by kernel_rfl,by kernel_rfl⟩⟩
theorem nK:kn Tryz.prog 117 [(0,7),(7,1),(8,6),(14,1),(15,1)] (.i 0 :: ((cG .i64) A3.zero ++ ((cG .i64) A3.zero ++ (.int .u64 0 :: ((cG .i64) A3.zero ++ ((cG .i64) A3.zero ++ ([.tr ae (.leaf),.tr ae (.leaf)]))))))):=⟨⟨Tryz.t117,_,_,by kernel_rfl,rfl,rfl,Tryz.underlying117,by kernel_rfl⟩⟩
theorem goes100:bn Tryz.prog 100:=⟨Tryz.call100⟩
theorem iX:cX Tryz.prog 117 2 8 25:=⟨⟨_,_,Tryz.t25,Tryz.underlying117,rfl,rfl,rfl,by kernel_rfl,by decide⟩⟩
theorem tD:bn Tryz.prog 18:=⟨Tryz.call18⟩
theorem oC:cX Tryz.prog 47 1 1 43:=⟨⟨_,_,Tryz.t43,Tryz.underlying47,rfl,rfl,rfl,by kernel_rfl,by decide⟩⟩
theorem rP:cK Tryz.prog 43:=⟨⟨_,Tryz.underlying43,rfl⟩,⟨Tryz.t43,by kernel_rfl,by kernel_rfl⟩⟩
theorem bw:fe Tryz.prog 47 4:=⟨⟨_,Tryz.underlying47,rfl⟩,⟨Tryz.t47,by kernel_rfl,by kernel_rfl⟩⟩
theorem qT:bn Tryz.prog 79:=⟨Tryz.call79⟩
theorem kZ:bn Tryz.prog 80:=⟨Tryz.call80⟩
theorem np:bn Tryz.prog 82:=⟨Tryz.call82⟩
theorem pP:jI Tryz.prog 47 [.tr ae (.leaf),.cY 0,.cY 0,.cY 0]:=⟨⟨Tryz.t47,_,by kernel_rfl,rfl,rfl⟩⟩
theorem si:cX Tryz.prog 47 2 2 44:=⟨⟨_,_,Tryz.t44,Tryz.underlying47,rfl,rfl,rfl,by kernel_rfl,by decide⟩⟩
theorem tyOne44:cK Tryz.prog 44:=⟨⟨_,Tryz.underlying44,rfl⟩,⟨Tryz.t44,by kernel_rfl,by kernel_rfl⟩⟩
theorem goes81:bn Tryz.prog 81:=⟨Tryz.call81⟩
theorem qU:bn Tryz.prog 54:=⟨Tryz.call54⟩
theorem tt:bn Tryz.prog 59:=⟨Tryz.call59⟩
theorem l3:cX Tryz.prog 49 1 4 47:=⟨⟨_,_,Tryz.t47,Tryz.underlying49,rfl,rfl,rfl,by kernel_rfl,by decide⟩⟩
theorem tQ:jI Tryz.prog 51 [.nil]:=⟨⟨Tryz.t51,_,by kernel_rfl,rfl,rfl⟩⟩
theorem tu:bn Tryz.prog 57:=⟨Tryz.call57⟩
theorem mY:cK Tryz.prog 51:=⟨⟨_,Tryz.underlying51,rfl⟩,⟨Tryz.t51,by kernel_rfl,by kernel_rfl⟩⟩
theorem tp:bn Tryz.prog 77:=⟨Tryz.call77⟩
theorem goes75:bn Tryz.prog 75:=⟨Tryz.call75⟩
theorem o7:bn Tryz.prog 55:=⟨Tryz.call55⟩
theorem qS:bn Tryz.prog 83:=⟨Tryz.call83⟩
theorem tq:bn Tryz.prog 60:=⟨Tryz.call60⟩
theorem goes98:bn Tryz.prog 98:=⟨Tryz.call98⟩
theorem tn:bn Tryz.prog 99:=⟨Tryz.call99⟩
theorem goes76:bn Tryz.prog 76:=⟨Tryz.call76⟩
theorem tA:bn Tryz.prog 30:=⟨Tryz.call30⟩
theorem nt:bn Tryz.prog 29:=⟨Tryz.call29⟩
theorem tv:bn Tryz.prog 56:=⟨Tryz.call56⟩
theorem tR:jI Tryz.prog 35 [.nil]:=⟨⟨Tryz.t35,_,by kernel_rfl,rfl,rfl⟩⟩
theorem pf:cK Tryz.prog 35:=⟨⟨_,Tryz.underlying35,rfl⟩,⟨Tryz.t35,by kernel_rfl,by kernel_rfl⟩⟩
theorem ns:bn Tryz.prog 39:=⟨Tryz.call39⟩
theorem tyAgg23:fe Tryz.prog 23 3:=⟨⟨_,Tryz.underlying23,rfl⟩,⟨Tryz.t23,by kernel_rfl,by kernel_rfl⟩⟩
theorem qf (x y:A3) {d:Nat}:cS Tryz.prog (d + 2) 23 3 ((cG .i64) x) ((cG .i64) y) (decide (x = y)) :=
 (cS.arr (l:=x.l) (l':=y.l) tyAgg23 Tryz.underlying23 aQ Tryz.underlying3).cast (by rw [Bool.eq_iff_iff]; simp [A3.sZ])
theorem uq (x y:bH) {d:Nat}:cS Tryz.prog (d + 3) 25 6 (aj x) (aj y) (decide (x = y)) :=
 (cS.struct (d:=d + 2) (rs:=[decide (x.Lo = y.Lo),decide (x.Hi = y.Hi)]) aC Tryz.stoodInHeld25 Tryz.underlying25 (⟨by decide,⟨_,((cG .i64) x.Lo),((cG .i64) y.Lo),rfl,rfl,rfl,rfl,qf _ _⟩,⟨by decide,⟨_,((cG .i64) x.Hi),((cG .i64) y.Hi),rfl,rfl,rfl,rfl,qf _ _⟩,trivial⟩⟩) rfl).cast
  (by cases x; cases y; rw [Bool.eq_iff_iff]; simp [bH.mk.injEq])
theorem r4 (x y:bH):kI Tryz.prog 25 (aj x) (aj y) (decide (x = y)):=kI.tj (by kernel_rfl) aC (uq x y (d:=9997)) rfl rfl
theorem tF:bn Tryz.prog 11:=⟨Tryz.call11⟩
theorem qW:bn Tryz.prog 20:=⟨Tryz.call20⟩
theorem o9:bn Tryz.prog 22:=⟨Tryz.call22⟩
theorem tC:bn Tryz.prog 23:=⟨Tryz.call23⟩
theorem tz:bn Tryz.prog 31:=⟨Tryz.call31⟩
theorem goes25:bn Tryz.prog 25:=⟨Tryz.call25⟩
theorem tx:bn Tryz.prog 32:=⟨Tryz.call32⟩
theorem tB:bn Tryz.prog 26:=⟨Tryz.call26⟩
theorem tE:bn Tryz.prog 15:=⟨Tryz.call15⟩
theorem goes17:bn Tryz.prog 17:=⟨Tryz.call17⟩
theorem goes28:bn Tryz.prog 28:=⟨Tryz.call28⟩
theorem goes21:bn Tryz.prog 21:=⟨Tryz.call21⟩
def jf (F:Nat) (x0:Int):Option Int :=
 Option.bind (if (decide (4294967296 ≤ x0)) = true then (some (x0 / 4294967296,32)) else (some (x0,0))) (dS fun x_1 n_2=>Option.bind (if (decide (65536 ≤ x_1)) = true then (some (x_1 / 65536,IntKind.i64.wrap (n_2 + 16))) else (some (x_1,n_2))) (dS fun x_3 n_4=>Option.bind (if (decide (256 ≤ x_3)) = true then (some (x_3 / 256,IntKind.i64.wrap (n_4 + 8))) else (some (x_3,n_4))) (dS fun x_5 n_6=>(a8 ([0,1,2,2,3,3,3,3,4,4,4,4,4,4,4,4,5,5,5,5,5,5,5,5,5,5,5,5,5,5,5,5,6,6,6,6,6,6,6,6,6,6,6,6,6,6,6,6,6,6,6,6,6,6,6,6,6,6,6,6,6,6,6,6,7,7,7,7,7,7,7,7,7,7,7,7,7,7,7,7,7,7,7,7,7,7,7,7,7,7,7,7,7,7,7,7,7,7,7,7,7,7,7,7,7,7,7,7,7,7,7,7,7,7,7,7,7,7,7,7,7,7,7,7,7,7,7,7,8,8,8,8,8,8,8,8,8,8,8,8,8,8,8,8,8,8,8,8,8,8,8,8,8,8,8,8,8,8,8,8,8,8,8,8,8,8,8,8,8,8,8,8,8,8,8,8,8,8,8,8,8,8,8,8,8,8,8,8,8,8,8,8,8,8,8,8,8,8,8,8,8,8,8,8,8,8,8,8,8,8,8,8,8,8,8,8,8,8,8,8,8,8,8,8,8,8,8,8,8,8,8,8,8,8,8,8,8,8,8,8,8,8,8,8,8,8,8,8,8,8,8,8,8,8,8,8]:Str) (IntKind.u8.wrap x_5)).bind fun x_7=>fy (IntKind.i64.wrap (n_6 + (IntKind.i64.wrap (x_7.toNat:Int)))) fun x_8=>some x_8)))
theorem mW {F:Nat} {x0:Int} {r:Int} (h:jf F x0 = some r):an Tryz.prog [] 95 [] [.one (.int .u64 x0)] (Is [] (.b (.one (.i r)))):=by
 unfold jf at h
 refine an.intro 25 Tryz.func95 Tryz.ntmps95 rfl (by simp) fun E=>?_
 show ab _ E ⟨25,[],[],[]⟩ _ ⟨[(0,.b (.one (.int .u64 x0)))],[]⟩ _
 refine ab.seq (ab.aa ?_)
 refine Oc oa (af.ai ⟨[(0,.b (.one (.int .u64 x0))),(2,I 0)],[]⟩ rfl ?_)
 obtain ⟨v1,h2,h⟩:=aO h
 refine ab.dR (v:=v1) (dS fun (x_1:Int) (n_2:Int)=>⟨[(0,.b (.one (.int .u64 x_1))),(2,I n_2)],[]⟩) (fun z=>z) ?_ ?_
 ·refine ab.seq (ab.aa ?_)
  refine Oc om (Oc (nm rfl rfl) ?_)
  refine af.ai ⟨[(0,_),(2,_),(4,B (decide (4294967296 ≤ x0)))],[]⟩ rfl (ab.ite h2 rfl (fun _ h2=>?_) (fun _ h2=>?_))
  ·refine ab.seq (ab.aa ?_)
   refine Oc om (Oc (iU (m:=32) (by decide) rfl rfl rfl) (Oc oa ?_))
   refine af.ai ⟨[(0,.b (.one (.int .u64 (x0 / 4294967296))))],[]⟩ rfl (ab.aa (Oc oa (af.nil ?_)))
   exact Fin.join [0,2] [] (x0 / 4294967296,32) (Option.some.inj h2) rfl
  ·refine ab.skip ?_
   exact Fin.join [0,2] [] (x0,0) (Option.some.inj h2) rfl
 ·rintro ⟨x_1,n_2⟩ hv
  subst v1
  obtain ⟨v3,h4,h⟩:=aO h
  refine ab.dR (v:=v3) (dS fun (x_3:Int) (n_4:Int)=>⟨[(0,.b (.one (.int .u64 x_3))),(2,I n_4)],[]⟩) (fun z=>z) ?_ ?_
  ·refine ab.seq (ab.aa ?_)
   refine Oc om (Oc (nm rfl rfl) ?_)
   refine af.ai ⟨[(0,_),(2,_),(8,B (decide (65536 ≤ x_1)))],[]⟩ rfl (ab.ite h4 rfl (fun _ h4=>?_) (fun _ h4=>?_))
   ·refine ab.seq (ab.aa ?_)
    refine Oc om (Oc (iU (m:=16) (by decide) rfl rfl rfl) (Oc oa ?_))
    refine af.ai ⟨[(0,.b (.one (.int .u64 (x_1 / 65536)))),(2,_)],[]⟩ rfl (ab.aa (Oc om (Oc (bB rfl rfl) (Oc oa ?_))))
    refine af.nil ?_
    exact Fin.join [0,2] [] (x_1 / 65536,IntKind.i64.wrap (n_2 + 16)) (Option.some.inj h4) rfl
   ·refine ab.skip ?_
    exact Fin.join [0,2] [] (x_1,n_2) (Option.some.inj h4) rfl
  ·rintro ⟨x_3,n_4⟩ hv
   subst v3
   obtain ⟨v5,h6,h⟩:=aO h
   refine ab.dR (v:=v5) (dS fun (x_5:Int) (n_6:Int)=>⟨[(0,.b (.one (.int .u64 x_5))),(2,I n_6)],[]⟩) (fun z=>z) ?_ ?_
   ·refine ab.seq (ab.aa ?_)
    refine Oc om (Oc (nm rfl rfl) ?_)
    refine af.ai ⟨[(0,_),(2,_),(14,B (decide (256 ≤ x_3)))],[]⟩ rfl (ab.ite h6 rfl (fun _ h6=>?_) (fun _ h6=>?_))
    ·refine ab.seq (ab.aa ?_)
     refine Oc om (Oc (iU (m:=8) (by decide) rfl rfl rfl) (Oc oa ?_))
     refine af.ai ⟨[(0,.b (.one (.int .u64 (x_3 / 256)))),(2,_)],[]⟩ rfl (ab.aa (Oc om (Oc (bB rfl rfl) (Oc oa ?_))))
     refine af.nil ?_
     exact Fin.join [0,2] [] (x_3 / 256,IntKind.i64.wrap (n_4 + 8)) (Option.some.inj h6) rfl
    ·refine ab.skip ?_
     exact Fin.join [0,2] [] (x_3,n_4) (Option.some.inj h6) rfl
   ·rintro ⟨x_5,n_6⟩ hv
    subst v5
    refine ab.seq (ab.aa ?_)
    refine Oc om (Oc om (Oc (ek tc undi5 rfl) ?_))
    obtain ⟨x_7,e7,h⟩:=aO h
    refine Oc (py und9 rfl rfl (a7 e7) (qQ e7)) (Oc (ek undi5 pI rfl) ?_)
    refine af.pL .i64 h rfl (bB rfl rfl) (fun x_8 h=>?_)
    refine Oc oa (af.ai ⟨[(2,I x_8)],[]⟩ rfl (ab.ret ?_))
    obtain rfl:=Option.some.inj h
    refine Fin.ag ⟨[(2,_)],[]⟩ rfl (Fin.au [.one (.i x_8)] (.inl rfl) rfl (.cons (.tmp rfl) .nil) ⟨rfl,rfl⟩)
def lh (F:Nat) (x0:Int):Option Int :=
 (jf F x0).bind fun x_1=>some x_1
theorem oq {F:Nat} {x0:Int} {r:Int} (h:lh F x0 = some r):an Tryz.prog [] 69 [] [.one (.int .u64 x0)] (Is [] (.b (.one (.i r)))):=by
 unfold lh at h
 refine an.intro 8 Tryz.func69 Tryz.ntmps69 rfl (by simp) fun E=>?_
 show ab _ E ⟨8,[],[],[]⟩ _ ⟨[(0,.b (.one (.int .u64 x0)))],[]⟩ _
 refine ab.seq (ab.aa ?_)
 refine Oc oa (af.ai ⟨[(0,.b (.one (.int .u64 x0)))],[]⟩ rfl (ab.seq (ab.condFc (ab.skip (Fin.ag ⟨[(0,_)],[]⟩ rfl ?_)))))
 refine Fin.then (ab.seq (ab.aa ?_))
 refine Oc om ?_
 obtain ⟨x_1,e1,h⟩:=aO h
 refine Oc (ak (mW e1) goes95 rfl rfl) (Oc oa ?_)
 refine af.ai ⟨[(2,I x_1)],[]⟩ rfl (ab.ret ?_)
 obtain rfl:=Option.some.inj h
 refine Fin.ag ⟨[(2,_)],[]⟩ rfl (Fin.au [.one (.i x_1)] (.inl rfl) rfl (.cons (.tmp rfl) .nil) ⟨rfl,rfl⟩)
def dF (F:Nat):Option Unit :=
 Option.bind (iter F (fun _=>some (.inr ())) ()) (fun _=>some ())
theorem gV {F:Nat} {r:Unit} (h:dF F = some r):an Tryz.prog [] 114 [] [.one (.nil),.one (.i 0),.one (.i 0)] (Is [] (.eu [])):=by
 unfold dF at h
 refine an.intro 49 Tryz.func114 Tryz.ntmps114 rfl (by simp) fun E=>?_
 show ab _ E ⟨49,[],[],[]⟩ _ ⟨[(0,.b (.one (.nil))),(1,I 0),(2,I 0)],[]⟩ _
 refine ab.seq (ab.aa ?_)
 refine Oc om (Oc (bB rfl rfl) (Oc oa ?_))
 refine af.ai ⟨[(0,.b (.one (.nil))),(1,I 0),(2,I 0),(6,I 1)],[]⟩ rfl (ab.block ?_)
 obtain ⟨v1,h2,h⟩:=aO h
 refine ab.c6 h2 (fun (_:Unit)=>⟨[(0,.b (.one (.nil))),(1,I 0),(2,I 0),(6,I 1)],[]⟩) [0,1,2,6] [] rfl ?_
 rintro _ o3 h4 hy5
 refine ab.seq (ab.seq (ab.aa ?_))
 refine Oc om (Oc om (Oc (bf rfl rfl) ?_))
 refine af.ai ⟨[(0,_),(1,_),(2,_),(6,_),(12,B false)],[]⟩ rfl (ab.condF rfl (ab.exit (Fin.aA ?_)))
 obtain rfl:=hy5 _ (Option.some.inj h4).symm
 refine Fin.aA (Fin.aW ?_)
 obtain rfl:=Option.some.inj h
 refine Fin.ag ⟨[],[]⟩ rfl (Fin.au [] (.inr rfl) rfl (.nil) ⟨rfl,rfl⟩)
def c9 (F:Nat):Nat → Int → Option Unit
 | 0,_=>none
 | n + 1,limit0=>Option.bind (iter F (fun _=>(dF F).bind fun u_1=>some (.inr ())) ()) (fun y=>some y)
def fV (F:Nat) (limit0:Int):Option Unit:=c9 F F limit0
theorem ir {F:Nat}:∀ (n:Nat) {limit0:Int} {r:Unit} (h:c9 F n limit0 = some r),an Tryz.prog [] 97 [] [.one (.nil),.one (.i 0),.one (.i 0),.one (.i limit0)] (Is [] (.eu [])):=by
 intro n
 induction n with
 | zero=>intro limit0 r h; simp [c9] at h
 | succ n ih=>
 intro limit0 r h
 unfold c9 at h
 refine an.intro 134 Tryz.func97 Tryz.ntmps97 rfl (by simp) fun E=>?_
 show ab _ E ⟨134,[],[],[]⟩ _ ⟨[(0,.b (.one (.nil))),(1,I 0),(2,I 0),(3,I limit0)],[]⟩ _
 refine ab.seq (ab.aa ?_)
 refine Oc oa (af.ai ⟨[(0,.b (.one (.nil))),(1,I 0),(2,I 0),(3,I limit0),(8,B true)],[]⟩ rfl (ab.seq (ab.aa ?_)))
 refine Oc oa (af.ai ⟨[(0,_),(1,_),(2,_),(3,_),(8,_),(9,B true)],[]⟩ rfl (ab.block ?_))
 obtain ⟨v1,h2,h⟩:=aO h
 refine ab.c6 h2 (fun (_:Unit)=>⟨[(0,.b (.one (.nil))),(1,I 0),(2,I 0),(3,I limit0),(8,B true),(9,B true)],[]⟩) [0,1,2,3,8,9] [] rfl ?_
 rintro _ o3 h4 hy5
 refine ab.block (ab.seq (ab.aa ?_))
 refine Oc om (Oc om (Oc (tg rfl rfl) (Oc oa ?_)))
 refine af.ai ⟨[(0,_),(1,_),(2,_),(3,_),(8,_),(9,_),(10,I 0)],[]⟩ rfl (ab.seq (ab.seq (ab.aa ?_)))
 refine Oc om (Oc (op_leq rfl rfl) ?_)
 refine af.ai ⟨[(0,_),(1,_),(2,_),(3,_),(8,_),(9,_),(10,_),(23,B true)],[]⟩ rfl (ab.condT rfl (ab.seq (ab.aa ?_)))
 refine Oc om (Oc om (Oc om ?_))
 obtain ⟨u_1,e6,h4⟩:=aO h4
 refine Oc (ak (gV e6) goes114 rfl rfl) (af.ai ⟨[],[]⟩ rfl (ab.ret (Fin.aq (Fin.aL ?_))))
 obtain rfl:=hy5 _ (Option.some.inj h4).symm
 refine Fin.aq (Fin.aL ?_)
 obtain rfl:=Option.some.inj h
 refine Fin.ag ⟨[],[]⟩ rfl (Fin.au [] (.inl rfl) rfl (.nil) ⟨rfl,rfl⟩)
theorem iL {F:Nat} {limit0:Int} {r:Unit} (h:fV F limit0 = some r):an Tryz.prog [] 97 [] [.one (.nil),.one (.i 0),.one (.i 0),.one (.i limit0)] (Is [] (.eu [])):=ir F h
def hZ (F:Nat):Option Unit :=
 (lh F (IntKind.u64.wrap 0)).bind fun x_1=>(fV F x_1).bind fun u_2=>some ()
theorem jX {F:Nat} {r:Unit} (h:hZ F = some r):an Tryz.prog [] 75 [] [.one (.nil)] (Is [] (.eu [])):=by
 unfold hZ at h
 refine an.intro 11 Tryz.func75 Tryz.ntmps75 rfl (by simp) fun E=>?_
 show ab _ E ⟨11,[],[],[]⟩ _ ⟨[(0,.b (.one (.nil)))],[]⟩ _
 refine ab.seq (ab.aa ?_)
 refine Oc om (Oc (re fb rfl) (Oc oa ?_))
 refine af.ai ⟨[(0,.b (.one (.nil))),(2,I 0)],[]⟩ rfl (ab.aa (Oc om (Oc om (Oc om (Oc (ek pI pc rfl) ?_)))))
 obtain ⟨x_1,e1,h⟩:=aO h
 refine Oc (ak (oq e1) goes69 rfl rfl) ?_
 obtain ⟨u_2,e2,h⟩:=aO h
 refine Oc (ak (iL e2) goes97 rfl rfl) (af.nil ?_)
 obtain rfl:=Option.some.inj h
 refine Fin.ag ⟨[],[]⟩ rfl (Fin.au [] (.inr rfl) rfl (.nil) ⟨rfl,rfl⟩)
theorem my:an Tryz.prog [] 75 [] [.one .nil] (Is [] (.eu [])):=jX (F:=3) (r:=()) (by rfl)
def fK (F:Nat) (zs:List Int):Option (List Int):=oZ zs
theorem mx {F:Nat} {zs r:List Int} (h:fK F zs = some r):an Tryz.prog [] 75 [(1,.dw 3 1 (zs.map eI))] [.row 1] (Is [(1,.dw 3 1 (r.map eI))] (.eu [])):=qt Tryz.lays189 my h
def iq (F:Nat) (x0:entry):Option Int :=
 some (IntKind.u64.wrap x0.id)
theorem mE {F:Nat} {x0:entry} {r:Int} (h:iq F x0 = some r):an Tryz.prog [] 48 [] [.agg (ao x0)] (Is [] (.b (.one (.int .u64 r)))):=by
 unfold iq at h
 refine an.intro 6 Tryz.func48 Tryz.ntmps48 rfl (by simp) fun E=>?_
 show ab _ E ⟨6,[],[],[]⟩ _ ⟨[(0,.b (.agg (ao x0)))],[]⟩ _
 refine ab.seq (ab.aa ?_)
 refine Oc (bI (k:=101) rfl rfl) (Oc oa ?_)
 refine af.ai ⟨[(1,Pt 101 0)],[(101,.box 87 (ao x0))]⟩ rfl (ab.seq (ab.aa ?_))
 refine Oc (ar dK rfl rfl) (Oc (aH aQ rfl rfl rfl) (Oc (ek pI tc rfl) (Oc oa ?_)))
 refine af.ai ⟨[(2,.b (.one (.int .u64 (IntKind.u64.wrap x0.id))))],[]⟩ rfl (ab.ret ?_)
 obtain rfl:=Option.some.inj h
 refine Fin.ag ⟨[(2,_)],[]⟩ rfl (Fin.au [.one (.int .u64 (IntKind.u64.wrap x0.id))] (.inl rfl) rfl (.cons (.tmp rfl) .nil) ⟨rfl,rfl⟩)
def gn (F:Nat) (fn0:Nat) (x0:entry):Option Int :=
 if fn0 = 48 then iq F x0 else none
theorem rh {F:Nat} {fn0:Nat} {x0:entry} {r:Int} (h:gn F fn0 x0 = some r):an Tryz.prog [] fn0 [] [.agg (ao x0)] (Is [] (.b (.one (.int .u64 r)))):=by
 unfold gn at h
 split at h
 ·next e=>subst e; exact mE h
 ·next=>
  simp at h
theorem ri {F:Nat} {fn0:Nat} {x0:entry} {r:Int} (h:gn F fn0 x0 = some r):bn Tryz.prog fn0:=by
 unfold gn at h
 split at h
 ·next e=>subst e; exact goes48
 ·next=>
  simp at h
theorem ui {F:Nat} {fn0:Nat} {x0:entry} {r:Int} (h:gn F fn0 x0 = some r):fn0 ≠ 0:=by
 rintro rfl
 exact absurd h (by simp [gn])
def fP (F:Nat) (x0:entry):Option bH :=
 some x0.b
theorem mD {F:Nat} {x0:entry} {r:bH} (h:fP F x0 = some r):an Tryz.prog [] 49 [] [.agg (ao x0)] (Is [] (.b (.agg (aj r)))):=by
 unfold fP at h
 refine an.intro 5 Tryz.func49 Tryz.ntmps49 rfl (by simp) fun E=>?_
 show ab _ E ⟨5,[],[],[]⟩ _ ⟨[(0,.b (.agg (ao x0)))],[]⟩ _
 refine ab.seq (ab.aa ?_)
 refine Oc (bI (k:=101) rfl rfl) (Oc (ba (k:=102) fm rfl) ?_)
 refine af.ai ⟨[(1,Pt 101 0),(2,Pt 102 0)],[(101,.box 87 (ao x0)),(102,.box 25 ((cG .i64) A3.zero ++ ((cG .i64) A3.zero)))]⟩ rfl (ab.seq (ab.aa ?_))
 refine Oc (ar gA rfl rfl) (Oc (lp aC) (Oc (aF aC rfl rfl rfl rfl (Nat.le_of_ble_eq_true rfl) rfl) ?_))
 refine af.ai ⟨[(2,_)],[(102,.box 25 (aj x0.b))]⟩ rfl (ab.ret ?_)
 obtain rfl:=Option.some.inj h
 refine Fin.ag ⟨[(2,_)],[(102,_)]⟩ rfl (Fin.au [.agg (aj x0.b)] (.inl rfl) rfl (.cons (.agg aC rfl rfl rfl rfl) .nil) ⟨rfl,rfl⟩)
def hC (F:Nat) (fn0:Nat) (x0:entry):Option bH :=
 if fn0 = 49 then fP F x0 else none
theorem rn {F:Nat} {fn0:Nat} {x0:entry} {r:bH} (h:hC F fn0 x0 = some r):an Tryz.prog [] fn0 [] [.agg (ao x0)] (Is [] (.b (.agg (aj r)))):=by
 unfold hC at h
 split at h
 ·next e=>subst e; exact mD h
 ·next=>
  simp at h
theorem rq {F:Nat} {fn0:Nat} {x0:entry} {r:bH} (h:hC F fn0 x0 = some r):bn Tryz.prog fn0:=by
 unfold hC at h
 split at h
 ·next e=>subst e; exact goes49
 ·next=>
  simp at h
theorem uv {F:Nat} {fn0:Nat} {x0:entry} {r:bH} (h:hC F fn0 x0 = some r):fn0 ≠ 0:=by
 rintro rfl
 exact absurd h (by simp [hC])
def dZ (F:Nat) (x0:Int):Option Bool :=
 some (decide (x0 ≠ x0))
theorem fu {F:Nat} {x0:Int} {r:Bool} (h:dZ F x0 = some r):an Tryz.prog [] 70 [] [.one (.i x0)] (Is [] (.b (.one (.bool r)))):=by
 unfold dZ at h
 refine an.intro 6 Tryz.func70 Tryz.ntmps70 rfl (by simp) fun E=>?_
 show ab _ E ⟨6,[],[],[]⟩ _ ⟨[(0,I x0)],[]⟩ _
 refine ab.seq (ab.aa ?_)
 refine Oc oa (af.ai ⟨[(0,I x0)],[]⟩ rfl (ab.seq (ab.aa ?_)))
 refine Oc om (Oc om (Oc (kY rfl rfl) (Oc oa ?_)))
 refine af.ai ⟨[(2,B (decide (x0 ≠ x0)))],[]⟩ rfl (ab.ret ?_)
 obtain rfl:=Option.some.inj h
 refine Fin.ag ⟨[(2,_)],[]⟩ rfl (Fin.au [.one (.bool (decide (x0 ≠ x0)))] (.inl rfl) rfl (.cons (.tmp rfl) .nil) ⟨rfl,rfl⟩)
def de (F:Nat) (x0:Int) (y0:Int):Option Int :=
 (dZ F x0).bind fun x_1=>(dZ F y0).bind fun x_2=>if x_1 = true then (if x_2 = true then (some 0) else (some (-1))) else (if x_2 = true then (some 1) else (if (decide (x0 < y0)) = true then (some (-1)) else (if (decide (y0 < x0)) = true then (some 1) else (some 0))))
theorem fF {F:Nat} {x0:Int} {y0:Int} {r:Int} (h:de F x0 y0 = some r):an Tryz.prog [] 44 [] [.one (.i x0),.one (.i y0)] (Is [] (.b (.one (.i r)))):=by
 unfold de at h
 refine an.intro 20 Tryz.func44 Tryz.ntmps44 rfl (by simp) fun E=>?_
 show ab _ E ⟨20,[],[],[]⟩ _ ⟨[(0,I x0),(1,I y0)],[]⟩ _
 refine ab.seq (ab.aa ?_)
 refine Oc oa (af.ai ⟨[(0,I x0),(1,I y0)],[]⟩ rfl (ab.seq (ab.aa ?_)))
 refine Oc om ?_
 obtain ⟨x_1,e1,h⟩:=aO h
 refine Oc (ak (fu e1) o2 rfl rfl) (Oc oa ?_)
 refine af.ai ⟨[(0,_),(1,_),(5,B x_1)],[]⟩ rfl (ab.seq (ab.aa ?_))
 refine Oc om ?_
 obtain ⟨x_2,e2,h⟩:=aO h
 refine Oc (ak (fu e2) o2 rfl rfl) (Oc oa ?_)
 refine af.ai ⟨[(0,_),(1,_),(5,_),(6,B x_2)],[]⟩ rfl (ab.seq (ab.seq (ab.aa ?_)))
 refine Oc om (af.ai ⟨[(0,_),(1,_),(6,_),(11,B x_1)],[]⟩ rfl (ab.ite h rfl (fun _ h=>?_) (fun _ h=>?_)))
 ·refine ab.seq (ab.seq (ab.aa ?_))
  refine Oc om (af.ai ⟨[(12,B x_2)],[]⟩ rfl (ab.ite h rfl (fun _ h=>?_) (fun _ h=>?_)))
  ·refine ab.seq (ab.aa ?_)
   refine Oc oa (af.ai ⟨[(4,I 0)],[]⟩ rfl (ab.ret (Fin.aq (Fin.aq ?_))))
   obtain rfl:=Option.some.inj h
   refine Fin.ag ⟨[(4,_)],[]⟩ rfl (Fin.au [.one (.i 0)] (.inl rfl) rfl (.cons (.tmp rfl) .nil) ⟨rfl,rfl⟩)
  ·refine ab.skip (Fin.ag ⟨[],[]⟩ rfl (Fin.then (ab.seq (ab.aa ?_))))
   refine Oc oa (af.ai ⟨[(4,I (-1))],[]⟩ rfl (ab.ret (Fin.aq ?_)))
   obtain rfl:=Option.some.inj h
   refine Fin.ag ⟨[(4,_)],[]⟩ rfl (Fin.au [.one (.i (-1))] (.inl rfl) rfl (.cons (.tmp rfl) .nil) ⟨rfl,rfl⟩)
 ·refine ab.skip (Fin.ag ⟨[(0,_),(1,_),(6,_)],[]⟩ rfl (Fin.then (ab.seq (ab.seq (ab.aa ?_)))))
  refine Oc om (af.ai ⟨[(0,_),(1,_),(13,B x_2)],[]⟩ rfl (ab.ite h rfl (fun _ h=>?_) (fun _ h=>?_)))
  ·refine ab.seq (ab.aa ?_)
   refine Oc oa (af.ai ⟨[(4,I 1)],[]⟩ rfl (ab.ret (Fin.aq ?_)))
   obtain rfl:=Option.some.inj h
   refine Fin.ag ⟨[(4,_)],[]⟩ rfl (Fin.au [.one (.i 1)] (.inl rfl) rfl (.cons (.tmp rfl) .nil) ⟨rfl,rfl⟩)
  ·refine ab.skip (Fin.ag ⟨[(0,_),(1,_)],[]⟩ rfl (Fin.then (ab.seq (ab.seq (ab.aa ?_)))))
   refine Oc om (Oc om (Oc (bf rfl rfl) ?_))
   refine af.ai ⟨[(0,_),(1,_),(16,B (decide (x0 < y0)))],[]⟩ rfl (ab.ite h rfl (fun _ h=>?_) (fun _ h=>?_))
   ·refine ab.seq (ab.aa ?_)
    refine Oc oa (af.ai ⟨[(4,I (-1))],[]⟩ rfl (ab.ret (Fin.aq ?_)))
    obtain rfl:=Option.some.inj h
    refine Fin.ag ⟨[(4,_)],[]⟩ rfl (Fin.au [.one (.i (-1))] (.inl rfl) rfl (.cons (.tmp rfl) .nil) ⟨rfl,rfl⟩)
   ·refine ab.skip (Fin.ag ⟨[(0,_),(1,_)],[]⟩ rfl (Fin.then (ab.seq (ab.seq (ab.aa ?_)))))
    refine Oc om (Oc om (Oc (ij rfl rfl) ?_))
    refine af.ai ⟨[(19,B (decide (y0 < x0)))],[]⟩ rfl (ab.ite h rfl (fun _ h=>?_) (fun _ h=>?_))
    ·refine ab.seq (ab.aa ?_)
     refine Oc oa (af.ai ⟨[(4,I 1)],[]⟩ rfl (ab.ret (Fin.aq ?_)))
     obtain rfl:=Option.some.inj h
     refine Fin.ag ⟨[(4,_)],[]⟩ rfl (Fin.au [.one (.i 1)] (.inl rfl) rfl (.cons (.tmp rfl) .nil) ⟨rfl,rfl⟩)
    ·refine ab.skip (Fin.ag ⟨[],[]⟩ rfl (Fin.then (ab.seq (ab.aa ?_))))
     refine Oc oa (af.ai ⟨[(4,I 0)],[]⟩ rfl (ab.ret ?_))
     obtain rfl:=Option.some.inj h
     refine Fin.ag ⟨[(4,_)],[]⟩ rfl (Fin.au [.one (.i 0)] (.inl rfl) rfl (.cons (.tmp rfl) .nil) ⟨rfl,rfl⟩)
def fO (F:Nat) (a0:entry) (b0:entry):Option Int :=
 (de F a0.id b0.id).bind fun x_1=>some x_1
theorem mC {F:Nat} {a0:entry} {b0:entry} {r:Int} (h:fO F a0 b0 = some r):an Tryz.prog [] 50 [] [.agg (ao a0),.agg (ao b0)] (Is [] (.b (.one (.i r)))):=by
 unfold fO at h
 refine an.intro 10 Tryz.func50 Tryz.ntmps50 rfl (by simp) fun E=>?_
 show ab _ E ⟨10,[],[],[]⟩ _ ⟨[(0,.b (.agg (ao a0))),(1,.b (.agg (ao b0)))],[]⟩ _
 refine ab.seq (ab.aa ?_)
 refine Oc (bI (k:=101) rfl rfl) (Oc (bI (k:=102) rfl rfl) (Oc oa ?_))
 refine af.ai ⟨[(2,Pt 101 0),(3,Pt 102 0)],[(101,.box 87 (ao a0)),(102,.box 87 (ao b0))]⟩ rfl (ab.seq (ab.aa ?_))
 refine Oc (ar dK rfl rfl) (Oc (aH aQ rfl rfl rfl) (Oc (ar dK rfl rfl) (Oc (aH aQ rfl rfl rfl) ?_)))
 obtain ⟨x_1,e1,h⟩:=aO h
 refine Oc (ak (fF e1) qV rfl rfl) (Oc oa ?_)
 refine af.ai ⟨[(4,I x_1)],[]⟩ rfl (ab.ret ?_)
 obtain rfl:=Option.some.inj h
 refine Fin.ag ⟨[(4,_)],[]⟩ rfl (Fin.au [.one (.i x_1)] (.inl rfl) rfl (.cons (.tmp rfl) .nil) ⟨rfl,rfl⟩)
def dq (F:Nat) (s10:List Int) (s20:List Int):Option Int :=
 Option.bind (iter F (fun x_1=>if (decide (x_1 < (s10.length:Int))) = true then ((a8 s10 x_1).bind fun x_2=>if (decide ((s20.length:Int) ≤ x_1)) = true then (some (.inr (.inr 1))) else ((a8 s20 x_1).bind fun x_3=>(de F x_2 x_3).bind fun x_4=>if (decide (x_4 ≠ 0)) = true then (some (.inr (.inr x_4))) else (some (.inl (IntKind.i64.wrap (x_1 + 1)))))) else (some (.inr (.inl ())))) 0) (cm (fun _=>if (decide ((s10.length:Int) < (s20.length:Int))) = true then (some (-1)) else (some 0)) (fun y=>some y))
theorem kB {F:Nat} {s10:List Int} {s20:List Int} {r:Int} (h:dq F s10 s20 = some r):an Tryz.prog [] 53 [] [.one (.sl 1 (s10.map eI)),.one (.sl 1 (s20.map eI))] (Is [] (.b (.one (.i r)))):=by
 unfold dq at h
 refine an.intro 36 Tryz.func53 Tryz.ntmps53 rfl (by simp) fun E=>?_
 show ab _ E ⟨36,[],[],[]⟩ _ ⟨[(0,.b (.one (.sl 1 (s10.map eI)))),(1,.b (.one (.sl 1 (s20.map eI))))],[]⟩ _
 refine ab.seq (ab.aa ?_)
 refine Oc oa (af.ai ⟨[(0,.b (.one (.sl 1 (s10.map eI)))),(1,.b (.one (.sl 1 (s20.map eI))))],[]⟩ rfl ?_)
 obtain ⟨v1,h2,h⟩:=aO h
 refine ab.dR (v:=v1) (fun (_:Unit)=>⟨[(0,.b (.one (.sl 1 (s10.map eI)))),(1,.b (.one (.sl 1 (s20.map eI))))],[]⟩) (fun z=>.inl z) ?_ ?_
 ·refine ab.seq (ab.aa ?_)
  refine Oc om (Oc (bj fb rfl (List.length_map _)) (Oc om ?_))
  refine af.ai ⟨[(0,_),(1,_),(9,.b (.one (.sl 1 (s10.map eI)))),(10,I (s10.length:Int)),(11,I 0)],[]⟩ rfl (ab.block (ab.c6 h2 (fun (x_1:Int)=>⟨[(0,.b (.one (.sl 1 (s10.map eI)))),(1,.b (.one (.sl 1 (s20.map eI)))),(9,.b (.one (.sl 1 (s10.map eI)))),(10,I (s10.length:Int)),(11,I x_1)],[]⟩) [0,1,9,10,11] [] rfl ?_))
  rintro x_1 o3 h4 hy5
  refine ab.seq (ab.aa ?_)
  refine Oc (bf rfl rfl) (af.ai ⟨[(0,_),(1,_),(9,_),(10,_),(11,_),(12,B (decide (x_1 < (s10.length:Int))))],[]⟩ rfl (ab.seq (ab.ite h4 rfl (fun _ h4=>?_) (fun _ h4=>?_))))
  ·refine ab.skip (Fin.ag ⟨[(0,_),(1,_),(9,_),(10,_),(11,_)],[]⟩ rfl (Fin.then (ab.seq (ab.block (ab.seq (ab.aa ?_))))))
   refine Oc om ?_
   obtain ⟨x_2,e6,h4⟩:=aO h4
   refine Oc (bd cp (a7 e6) (cy (e:=eI) e6) rfl rfl) (Oc (aw aQ rfl rfl) (Oc oa (Oc oa ?_)))
   refine af.ai ⟨[(0,_),(1,_),(5,I x_1),(6,I x_2),(9,_),(10,_),(11,_)],[]⟩ rfl (ab.seq (ab.seq (ab.aa ?_)))
   refine Oc om (Oc om (Oc (bj fb rfl (List.length_map _)) (Oc (nm rfl rfl) ?_)))
   refine af.ai ⟨[(0,_),(1,_),(5,_),(6,_),(9,_),(10,_),(11,_),(19,B (decide ((s20.length:Int) ≤ x_1)))],[]⟩ rfl (ab.ite h4 rfl (fun _ h4=>?_) (fun _ h4=>?_))
   ·refine ab.seq (ab.aa ?_)
    refine Oc oa (af.ai ⟨[(4,I 1)],[]⟩ rfl (ab.ret (Fin.aq (Fin.aL (Fin.aq ?_)))))
    obtain rfl:=hy5 _ (Option.some.inj h4).symm
    refine Fin.aq (Fin.aL (Fin.aq ?_))
    obtain rfl:=Option.some.inj h
    refine Fin.ag ⟨[(4,_)],[]⟩ rfl (Fin.au [.one (.i 1)] (.inl rfl) rfl (.cons (.tmp rfl) .nil) ⟨rfl,rfl⟩)
   ·refine ab.skip (Fin.ag ⟨[(0,_),(1,_),(5,_),(6,_),(9,_),(10,_),(11,_)],[]⟩ rfl (Fin.then (ab.seq (ab.aa ?_))))
    refine Oc om (Oc om ?_)
    obtain ⟨x_3,e7,h4⟩:=aO h4
    refine Oc (bd cp (a7 e7) (cy (e:=eI) e7) rfl rfl) (Oc (aw aQ rfl rfl) (Oc oa ?_))
    refine af.ai ⟨[(0,_),(1,_),(6,_),(7,I x_3),(9,_),(10,_),(11,_)],[]⟩ rfl (ab.seq (ab.aa ?_))
    refine Oc om (Oc om ?_)
    obtain ⟨x_4,e8,h4⟩:=aO h4
    refine Oc (ak (fF e8) qV rfl rfl) (Oc oa ?_)
    refine af.ai ⟨[(0,_),(1,_),(8,I x_4),(9,_),(10,_),(11,_)],[]⟩ rfl (ab.seq (ab.aa ?_))
    refine Oc om (Oc (kY rfl rfl) ?_)
    refine af.ai ⟨[(0,_),(1,_),(8,_),(9,_),(10,_),(11,_),(28,B (decide (x_4 ≠ 0)))],[]⟩ rfl (ab.ite h4 rfl (fun _ h4=>?_) (fun _ h4=>?_))
    ·refine ab.seq (ab.aa ?_)
     refine Oc om (Oc oa ?_)
     refine af.ai ⟨[(4,I x_4)],[]⟩ rfl (ab.ret (Fin.aL (Fin.aq ?_)))
     obtain rfl:=hy5 _ (Option.some.inj h4).symm
     refine Fin.aq (Fin.aL (Fin.aq ?_))
     obtain rfl:=Option.some.inj h
     refine Fin.ag ⟨[(4,_)],[]⟩ rfl (Fin.au [.one (.i x_4)] (.inl rfl) rfl (.cons (.tmp rfl) .nil) ⟨rfl,rfl⟩)
    ·refine ab.skip (Fin.ax (Fin.ag ⟨[(0,_),(1,_),(9,_),(10,_),(11,_)],[]⟩ rfl (Fin.then (ab.aa ?_))))
     refine Oc (bB rfl rfl) (Oc om ?_)
     refine af.nil ?_
     exact Fin.cq [0,1,9,10,11] [] (IntKind.i64.wrap (x_1 + 1)) (Option.some.inj h4) rfl
  ·refine ab.exit (Fin.aA ?_)
   obtain rfl:=hy5 _ (Option.some.inj h4).symm
   refine Fin.aA (Fin.aW ?_)
   exact Fin.join [0,1] [] () rfl rfl
 ·rintro _ hv
  subst v1
  refine ab.seq (ab.seq (ab.aa ?_))
  refine Oc om (Oc (bj fb rfl (List.length_map _)) (Oc om (Oc (bj fb rfl (List.length_map _)) (Oc (bf rfl rfl) ?_))))
  refine af.ai ⟨[(35,B (decide ((s10.length:Int) < (s20.length:Int))))],[]⟩ rfl (ab.ite h rfl (fun _ h=>?_) (fun _ h=>?_))
  ·refine ab.seq (ab.aa ?_)
   refine Oc oa (af.ai ⟨[(4,I (-1))],[]⟩ rfl (ab.ret (Fin.aq ?_)))
   obtain rfl:=Option.some.inj h
   refine Fin.ag ⟨[(4,_)],[]⟩ rfl (Fin.au [.one (.i (-1))] (.inl rfl) rfl (.cons (.tmp rfl) .nil) ⟨rfl,rfl⟩)
  ·refine ab.skip (Fin.ag ⟨[],[]⟩ rfl (Fin.then (ab.seq (ab.aa ?_))))
   refine Oc oa (af.ai ⟨[(4,I 0)],[]⟩ rfl (ab.ret ?_))
   obtain rfl:=Option.some.inj h
   refine Fin.ag ⟨[(4,_)],[]⟩ rfl (Fin.au [.one (.i 0)] (.inl rfl) rfl (.cons (.tmp rfl) .nil) ⟨rfl,rfl⟩)
def jN (F:Nat) (vals0:List Int):Option Int :=
 Option.bind (iter F (fun x_1=>if (decide (x_1 < (vals0.length:Int))) = true then ((a8 vals0 x_1).bind fun x_2=>if (decide (x_2 ≠ 0)) = true then (some (.inr (.inr x_2))) else (some (.inl (IntKind.i64.wrap (x_1 + 1))))) else (some (.inr (.inl ())))) 0) (cm (fun _=>some 0) (fun y=>some y))
theorem qy {F:Nat} {vals0:List Int} {r:Int} (h:jN F vals0 = some r):an Tryz.prog [] 52 [] [.one (.sl 1 (vals0.map eI))] (Is [] (.b (.one (.i r)))):=by
 unfold jN at h
 refine an.intro 18 Tryz.func52 Tryz.ntmps52 rfl (by simp) fun E=>?_
 show ab _ E ⟨18,[],[],[]⟩ _ ⟨[(0,.b (.one (.sl 1 (vals0.map eI))))],[]⟩ _
 refine ab.seq (ab.aa ?_)
 refine Oc oa (af.ai ⟨[(0,.b (.one (.sl 1 (vals0.map eI))))],[]⟩ rfl (ab.seq (ab.aa ?_)))
 refine Oc oa (af.ai ⟨[(0,_),(3,I 0)],[]⟩ rfl ?_)
 obtain ⟨v1,h2,h⟩:=aO h
 refine ab.dR (v:=v1) (fun (_:Unit)=>⟨[(3,I 0)],[]⟩) (fun z=>.inl z) ?_ ?_
 ·refine ab.seq (ab.aa ?_)
  refine Oc om (Oc (bj fb rfl (List.length_map _)) (Oc om ?_))
  refine af.ai ⟨[(3,_),(6,.b (.one (.sl 1 (vals0.map eI)))),(7,I (vals0.length:Int)),(8,I 0)],[]⟩ rfl (ab.block (ab.c6 h2 (fun (x_1:Int)=>⟨[(3,I 0),(6,.b (.one (.sl 1 (vals0.map eI)))),(7,I (vals0.length:Int)),(8,I x_1)],[]⟩) [3,6,7,8] [] rfl ?_))
  rintro x_1 o3 h4 hy5
  refine ab.seq (ab.aa ?_)
  refine Oc (bf rfl rfl) (af.ai ⟨[(3,_),(6,_),(7,_),(8,_),(9,B (decide (x_1 < (vals0.length:Int))))],[]⟩ rfl (ab.seq (ab.ite h4 rfl (fun _ h4=>?_) (fun _ h4=>?_))))
  ·refine ab.skip (Fin.ag ⟨[(3,_),(6,_),(7,_),(8,_)],[]⟩ rfl (Fin.then (ab.seq (ab.block (ab.seq (ab.aa ?_))))))
   obtain ⟨x_2,e6,h4⟩:=aO h4
   refine Oc (bd cp (a7 e6) (cy (e:=eI) e6) rfl rfl) (Oc (aw aQ rfl rfl) (Oc oa ?_))
   refine af.ai ⟨[(3,_),(5,I x_2),(6,_),(7,_),(8,_)],[]⟩ rfl (ab.seq (ab.aa ?_))
   refine Oc om (Oc om (Oc (kY rfl rfl) ?_))
   refine af.ai ⟨[(3,_),(5,_),(6,_),(7,_),(8,_),(14,B (decide (x_2 ≠ 0)))],[]⟩ rfl (ab.ite h4 rfl (fun _ h4=>?_) (fun _ h4=>?_))
   ·refine ab.seq (ab.aa ?_)
    refine Oc om (Oc oa ?_)
    refine af.ai ⟨[(2,I x_2)],[]⟩ rfl (ab.ret (Fin.aL (Fin.aq ?_)))
    obtain rfl:=hy5 _ (Option.some.inj h4).symm
    refine Fin.aq (Fin.aL (Fin.aq ?_))
    obtain rfl:=Option.some.inj h
    refine Fin.ag ⟨[(2,_)],[]⟩ rfl (Fin.au [.one (.i x_2)] (.inl rfl) rfl (.cons (.tmp rfl) .nil) ⟨rfl,rfl⟩)
   ·refine ab.skip (Fin.ax (Fin.ag ⟨[(3,_),(6,_),(7,_),(8,_)],[]⟩ rfl (Fin.then (ab.aa ?_))))
    refine Oc (bB rfl rfl) (Oc om ?_)
    refine af.nil ?_
    exact Fin.cq [3,6,7,8] [] (IntKind.i64.wrap (x_1 + 1)) (Option.some.inj h4) rfl
  ·refine ab.exit (Fin.aA ?_)
   obtain rfl:=hy5 _ (Option.some.inj h4).symm
   refine Fin.aA (Fin.aW ?_)
   exact Fin.join [3] [] () rfl rfl
 ·rintro _ hv
  subst v1
  refine ab.seq (ab.aa ?_)
  refine Oc om (Oc oa ?_)
  refine af.ai ⟨[(2,I 0)],[]⟩ rfl (ab.ret ?_)
  obtain rfl:=Option.some.inj h
  refine Fin.ag ⟨[(2,_)],[]⟩ rfl (Fin.au [.one (.i 0)] (.inl rfl) rfl (.cons (.tmp rfl) .nil) ⟨rfl,rfl⟩)
def fN (F:Nat) (a0:entry) (b0:entry):Option Int :=
 (dq F a0.b.Lo.l b0.b.Lo.l).bind fun x_1=>(de F a0.id b0.id).bind fun x_2=>(jN F [x_1,x_2]).bind fun x_3=>some x_3
theorem mA {F:Nat} {a0:entry} {b0:entry} {r:Int} (h:fN F a0 b0 = some r):an Tryz.prog [] 51 [] [.agg (ao a0),.agg (ao b0)] (Is [] (.b (.one (.i r)))):=by
 unfold fN at h
 refine an.intro 19 Tryz.func51 Tryz.ntmps51 rfl (by simp) fun E=>?_
 show ab _ E ⟨19,[],[],[]⟩ _ ⟨[(0,.b (.agg (ao a0))),(1,.b (.agg (ao b0)))],[]⟩ _
 refine ab.seq (ab.aa ?_)
 refine Oc (lI rfl) (Oc (lI rfl) (Oc oa ?_))
 refine af.ai ⟨[(2,.b (.aK (ao a0))),(3,.b (.aK (ao b0)))],[]⟩ rfl (ab.seq ?_)
 obtain ⟨x_1,e1,h⟩:=aO h
 obtain ⟨x_2,e2,h⟩:=aO h
 obtain ⟨x_3,e3,h⟩:=aO h
 refine ab.bK mixed 15 [.b (.aK (aj a0.b)),.b (.aK (aj a0.b)),.b (.one (.sl 1 (a0.b.Lo.l.map eI))),.b (.aK (aj b0.b)),.b (.aK (aj b0.b)),.b (.one (.sl 1 (b0.b.Lo.l.map eI))),I x_1,.b (.aK (ao a0)),I a0.id,.b (.aK (ao b0)),I b0.id,I x_2,.b (.one (.sl 1 ([x_1,x_2].map eI))),I x_3,I x_3] [4] [] (s':=⟨[(4,I x_3)],[]⟩) rfl ⟨fun _=>by exact .p (aD gA rfl rfl),fun _=>by exact .p (aD ck rfl rfl),fun _=>.p (mQ (xs:=a0.b.Lo.l) (enc:=eI) bp rfl rfl rfl (fun _=>rfl) (by rw [eR]; decide)),fun _=>by exact .p (aD gA rfl rfl),fun _=>by exact .p (aD ck rfl rfl),fun _=>.p (mQ (xs:=b0.b.Lo.l) (enc:=eI) bp rfl rfl rfl (fun _=>rfl) (by rw [eR]; decide)),fun _=>.p (ak (kB e1) goes53 rfl rfl),fun _=>by exact .p (aD dK rfl rfl),fun _=>.p (aw aQ rfl rfl),fun _=>by exact .p (aD dK rfl rfl),fun _=>.p (aw aQ rfl rfl),fun _=>.p (ak (fF e2) qV rfl rfl),fun _=>.p (dp (es:=[x_1,x_2].map eI) cp rfl rfl (cB fun _=>rfl) rfl (by decide) (by decide)),fun _=>.p (ak (qy e3) goes52 rfl rfl),fun _=>.p oa,trivial⟩ rfl rfl (ab.ret ?_)
 obtain rfl:=Option.some.inj h
 refine Fin.ag ⟨[(4,_)],[]⟩ rfl (Fin.au [.one (.i x_3)] (.inl rfl) rfl (.cons (.tmp rfl) .nil) ⟨rfl,rfl⟩)
def fj (F:Nat) (fn0:Nat) (a0:entry) (b0:entry):Option Int :=
 if fn0 = 50 then fO F a0 b0 else if fn0 = 51 then fN F a0 b0 else none
theorem nW {F:Nat} {fn0:Nat} {a0:entry} {b0:entry} {r:Int} (h:fj F fn0 a0 b0 = some r):an Tryz.prog [] fn0 [] [.agg (ao a0),.agg (ao b0)] (Is [] (.b (.one (.i r)))):=by
 unfold fj at h
 split at h
 ·next e=>subst e; exact mC h
 ·next=>
  split at h
  ·next e=>subst e; exact mA h
  ·next=>
   simp at h
theorem nX {F:Nat} {fn0:Nat} {a0:entry} {b0:entry} {r:Int} (h:fj F fn0 a0 b0 = some r):bn Tryz.prog fn0:=by
 unfold fj at h
 split at h
 ·next e=>subst e; exact goes50
 ·next=>
  split at h
  ·next e=>subst e; exact goes51
  ·next=>
   simp at h
theorem qi {F:Nat} {fn0:Nat} {a0:entry} {b0:entry} {r:Int} (h:fj F fn0 a0 b0 = some r):fn0 ≠ 0:=by
 rintro rfl
 exact absurd h (by simp [fj])
def bY (F:Nat) (b0:bH):Option Bool :=
 Option.bind (iter F (fun x_1=>if (decide (x_1 < 3)) = true then ((a8 b0.Lo.l x_1).bind fun x_2=>(a8 b0.Hi.l x_1).bind fun x_3=>(bN (!(decide (x_3 < x_2))) (a8 b0.Lo.l x_1)).bind fun x_4=>(bN (!((decide (x_3 < x_2)) || (decide (x_4 < (-1125899906842624))))) (a8 b0.Hi.l x_1)).bind fun x_5=>if (((decide (x_3 < x_2)) || (decide (x_4 < (-1125899906842624)))) || (decide (1125899906842624 < x_5))) = true then (some (.inr (.inr false))) else (some (.inl (IntKind.i64.wrap (x_1 + 1))))) else (some (.inr (.inl ())))) 0) (cm (fun _=>some true) (fun y=>some y))
theorem cQ {F:Nat} {b0:bH} {r:Bool} (h:bY F b0 = some r):an Tryz.prog [] 14 [] [.agg (aj b0)] (Is [] (.b (.one (.bool r)))):=by
 unfold bY at h
 refine an.intro 31 Tryz.func14 Tryz.ntmps14 rfl (by simp) fun E=>?_
 show ab _ E ⟨31,[],[],[]⟩ _ ⟨[(0,.b (.agg (aj b0)))],[]⟩ _
 refine ab.seq (ab.aa ?_)
 refine Oc (bI (k:=101) rfl rfl) (Oc oa ?_)
 refine af.ai ⟨[(1,Pt 101 0)],[(101,.box 25 (aj b0))]⟩ rfl ?_
 obtain ⟨v1,h2,h⟩:=aO h
 refine ab.dR (v:=v1) (fun (_:Unit)=>⟨[],[]⟩) (fun z=>.inl z) ?_ ?_
 ·refine ab.seq (ab.aa ?_)
  refine Oc om (af.ai ⟨[(1,_),(4,I 0)],[(101,_)]⟩ rfl (ab.block (ab.c6 h2 (fun (x_1:Int)=>⟨[(1,Pt 101 0),(4,I x_1)],[(101,.box 25 (aj b0))]⟩) [1,4] [101] rfl ?_)))
  rintro x_1 o3 h4 hy5
  refine ab.seq (ab.aa ?_)
  refine Oc (bf rfl rfl) (af.ai ⟨[(1,_),(4,_),(5,B (decide (x_1 < 3)))],[(101,_)]⟩ rfl (ab.seq (ab.ite h4 rfl (fun _ h4=>?_) (fun _ h4=>?_))))
  ·refine ab.skip (Fin.ag ⟨[(1,_),(4,_)],[(101,_)]⟩ rfl (Fin.then (ab.seq (ab.block (ab.seq (ab.aa ?_))))))
   refine Oc om (Oc oa ?_)
   refine af.ai ⟨[(1,_),(3,I x_1),(4,_)],[(101,_)]⟩ rfl (ab.seq ?_)
   obtain ⟨x_2,e6,h4⟩:=aO h4
   obtain ⟨x_3,e7,h4⟩:=aO h4
   obtain ⟨x_4,e11,h4⟩:=aO h4
   obtain ⟨x_5,e17,h4⟩:=aO h4
   refine ab.bK mixed 23 [I x_1,Pt 101 0,.b (.ptr 101 (0 + (x_1:Int).toNat * 1)),I x_2,I x_1,Pt 101 3,.b (.ptr 101 (3 + (x_1:Int).toNat * 1)),I x_3,B (decide (x_3 < x_2)),B (decide (x_3 < x_2)),.opt (!(decide (x_3 < x_2))) (.one (.i x_1)),.opt (!(decide (x_3 < x_2))) (.ptr 101 0),.opt (!(decide (x_3 < x_2))) (.ptr 101 (0 + (x_1:Int).toNat * 1)),.opt (!(decide (x_3 < x_2))) (.one (.i x_4)),.opt (!(decide (x_3 < x_2))) (.one (.bool (decide (x_4 < (-1125899906842624))))),B ((decide (x_3 < x_2)) || (decide (x_4 < (-1125899906842624)))),B ((decide (x_3 < x_2)) || (decide (x_4 < (-1125899906842624)))),.opt (!((decide (x_3 < x_2)) || (decide (x_4 < (-1125899906842624))))) (.one (.i x_1)),.opt (!((decide (x_3 < x_2)) || (decide (x_4 < (-1125899906842624))))) (.ptr 101 3),.opt (!((decide (x_3 < x_2)) || (decide (x_4 < (-1125899906842624))))) (.ptr 101 (3 + (x_1:Int).toNat * 1)),.opt (!((decide (x_3 < x_2)) || (decide (x_4 < (-1125899906842624))))) (.one (.i x_5)),.opt (!((decide (x_3 < x_2)) || (decide (x_4 < (-1125899906842624))))) (.one (.bool (decide (1125899906842624 < x_5)))),B (((decide (x_3 < x_2)) || (decide (x_4 < (-1125899906842624)))) || (decide (1125899906842624 < x_5)))] [1,4,29] [101] (s':=⟨[(1,_),(4,_),(29,B (((decide (x_3 < x_2)) || (decide (x_4 < (-1125899906842624)))) || (decide (1125899906842624 < x_5))))],[(101,_)]⟩) rfl ⟨fun _=>.p om,fun _=>.p (ar ck rfl rfl),fun _=>.p (aV bp (a7 e6) (cJ e6) rfl rfl rfl),fun _=>.p (aH aQ rfl rfl (ca (post:=((cG .i64) b0.Hi)) (k:=.i64) [] e6 rfl rfl rfl)),fun _=>.p om,fun _=>.p (ar cg rfl rfl),fun _=>.p (aV bp (a7 e7) (cJ e7) rfl rfl rfl),fun _=>.p (aH aQ rfl rfl (ca (post:=[]) (k:=.i64) ((cG .i64) b0.Lo) e7 rfl rfl rfl)),fun _=>.p (ij rfl rfl),fun _=>.p om,fun _=>by exact .guard (!(decide (x_3 < x_2))) 1 [] (.plain rfl) (dx _) rfl rfl (fun g8=>trivial) (fun g8=>om),fun _=>by exact .guard (!(decide (x_3 < x_2))) 1 [] (.plain rfl) (dx _) rfl rfl (fun g9=>trivial) (fun g9=>ar ck rfl rfl),fun _=>by exact .guard (!(decide (x_3 < x_2))) 3 [17,18] (.plain rfl) (dx _) rfl rfl (fun g10=>⟨g10,g10,trivial⟩) (fun g10=>aV bp (a7 (gc e11 g10)) (cJ (gc e11 g10)) rfl rfl rfl),fun _=>by exact .guard (!(decide (x_3 < x_2))) 2 [19] (.plain rfl) (dx _) rfl rfl (fun g12=>⟨g12,trivial⟩) (fun g12=>aH aQ rfl rfl (ca (post:=((cG .i64) b0.Hi)) (k:=.i64) [] (gc e11 g12) rfl rfl rfl)),fun _=>by exact .guard (!(decide (x_3 < x_2))) 2 [20] (.plain rfl) (dx _) rfl rfl (fun g13=>⟨g13,trivial⟩) (fun g13=>bf rfl rfl),fun _=>.p (cI (fun e=>by first | (rw [e]; rfl) | (simp only at e; rw [e]; rfl)) rfl rfl rfl rfl),fun _=>.p om,fun _=>by exact .guard (!((decide (x_3 < x_2)) || (decide (x_4 < (-1125899906842624))))) 1 [] (.plain rfl) (dx _) rfl rfl (fun g14=>trivial) (fun g14=>om),fun _=>by exact .guard (!((decide (x_3 < x_2)) || (decide (x_4 < (-1125899906842624))))) 1 [] (.plain rfl) (dx _) rfl rfl (fun g15=>trivial) (fun g15=>ar cg rfl rfl),fun _=>by exact .guard (!((decide (x_3 < x_2)) || (decide (x_4 < (-1125899906842624))))) 3 [24,25] (.plain rfl) (dx _) rfl rfl (fun g16=>⟨g16,g16,trivial⟩) (fun g16=>aV bp (a7 (gc e17 g16)) (cJ (gc e17 g16)) rfl rfl rfl),fun _=>by exact .guard (!((decide (x_3 < x_2)) || (decide (x_4 < (-1125899906842624))))) 2 [26] (.plain rfl) (dx _) rfl rfl (fun g18=>⟨g18,trivial⟩) (fun g18=>aH aQ rfl rfl (ca (post:=[]) (k:=.i64) ((cG .i64) b0.Lo) (gc e17 g18) rfl rfl rfl)),fun _=>by exact .guard (!((decide (x_3 < x_2)) || (decide (x_4 < (-1125899906842624))))) 2 [27] (.plain rfl) (dx _) rfl rfl (fun g19=>⟨g19,trivial⟩) (fun g19=>ij rfl rfl),fun _=>.p (cI (fun e=>by first | (rw [e]; rfl) | (simp only at e; rw [e]; rfl)) rfl rfl rfl rfl),trivial⟩ rfl rfl ?_
   refine ab.ite h4 rfl (fun _ h4=>?_) (fun _ h4=>?_)
   ·refine ab.seq (ab.aa ?_)
    refine Oc oa (af.ai ⟨[(2,B false)],[]⟩ rfl (ab.ret (Fin.aL (Fin.aq ?_))))
    obtain rfl:=hy5 _ (Option.some.inj h4).symm
    refine Fin.aq (Fin.aL (Fin.aq ?_))
    obtain rfl:=Option.some.inj h
    refine Fin.ag ⟨[(2,_)],[]⟩ rfl (Fin.au [.one (.bool false)] (.inl rfl) rfl (.cons (.tmp rfl) .nil) ⟨rfl,rfl⟩)
   ·refine ab.skip (Fin.ax (Fin.ag ⟨[(1,_),(4,_)],[(101,_)]⟩ rfl (Fin.then (ab.aa ?_))))
    refine Oc (bB rfl rfl) (Oc om ?_)
    refine af.nil ?_
    exact Fin.cq [1,4] [101] (IntKind.i64.wrap (x_1 + 1)) (Option.some.inj h4) rfl
  ·refine ab.exit (Fin.aA ?_)
   obtain rfl:=hy5 _ (Option.some.inj h4).symm
   refine Fin.aA (Fin.aW ?_)
   exact Fin.join [] [] () rfl rfl
 ·rintro _ hv
  subst v1
  refine ab.seq (ab.aa ?_)
  refine Oc oa (af.ai ⟨[(2,B true)],[]⟩ rfl (ab.ret ?_))
  obtain rfl:=Option.some.inj h
  refine Fin.ag ⟨[(2,_)],[]⟩ rfl (Fin.au [.one (.bool true)] (.inl rfl) rfl (.cons (.tmp rfl) .nil) ⟨rfl,rfl⟩)
def eD (F:Nat) (b0:bH):Option Bool :=
 (bY F b0).bind fun x_1=>some (!x_1)
theorem ln {F:Nat} {b0:bH} {r:Bool} (h:eD F b0 = some r):an Tryz.prog [] 41 [] [.agg (aj b0)] (Is [] (.b (.one (.bool r)))):=by
 unfold eD at h
 refine an.intro 6 Tryz.func41 Tryz.ntmps41 rfl (by simp) fun E=>?_
 show ab _ E ⟨6,[],[],[]⟩ _ ⟨[(0,.b (.agg (aj b0)))],[]⟩ _
 refine ab.seq (ab.aa ?_)
 refine Oc (bI (k:=101) rfl rfl) (Oc oa ?_)
 refine af.ai ⟨[(1,Pt 101 0)],[(101,.box 25 (aj b0))]⟩ rfl (ab.seq (ab.aa ?_))
 refine Oc (lp aC) ?_
 obtain ⟨x_1,e1,h⟩:=aO h
 refine Oc (ak (cQ e1) lY rfl rfl) (Oc (dU rfl) (Oc oa ?_))
 refine af.ai ⟨[(2,B (!x_1))],[]⟩ rfl (ab.ret ?_)
 obtain rfl:=Option.some.inj h
 refine Fin.ag ⟨[(2,_)],[]⟩ rfl (Fin.au [.one (.bool (!x_1))] (.inl rfl) rfl (.cons (.tmp rfl) .nil) ⟨rfl,rfl⟩)
def iF (F:Nat) (fn0:Nat) (b0:bH):Option Bool :=
 if fn0 = 41 then eD F b0 else none
theorem qz {F:Nat} {fn0:Nat} {b0:bH} {r:Bool} (h:iF F fn0 b0 = some r):an Tryz.prog [] fn0 [] [.agg (aj b0)] (Is [] (.b (.one (.bool r)))):=by
 unfold iF at h
 split at h
 ·next e=>subst e; exact ln h
 ·next=>
  simp at h
theorem qA {F:Nat} {fn0:Nat} {b0:bH} {r:Bool} (h:iF F fn0 b0 = some r):bn Tryz.prog fn0:=by
 unfold iF at h
 split at h
 ·next e=>subst e; exact goes41
 ·next=>
  simp at h
def gb (F:Nat) (n0:cH bc):Option Bool :=
 some n0.cZ
theorem ll {F:Nat} {n0:cH bc} {r:Bool} (h:gb F n0 = some r):an Tryz.prog [] 123 [] [.one (.tr ae n0)] (Is [] (.b (.one (.bool r)))):=by
 unfold gb at h
 refine an.intro 5 Tryz.func123 Tryz.ntmps123 rfl (by simp) fun E=>?_
 show ab _ E ⟨5,[],[],[]⟩ _ ⟨[(0,.b (.one (.tr ae n0)))],[]⟩ _
 refine ab.seq (ab.aa ?_)
 refine Oc oa (af.ai ⟨[(0,.b (.one (.tr ae n0)))],[]⟩ rfl (ab.seq (ab.aa ?_)))
 refine Oc om (Oc (eU kW rfl) (Oc oa ?_))
 refine af.ai ⟨[(2,B n0.cZ)],[]⟩ rfl (ab.ret ?_)
 obtain rfl:=Option.some.inj h
 refine Fin.ag ⟨[(2,_)],[]⟩ rfl (Fin.au [.one (.bool n0.cZ)] (.inl rfl) rfl (.cons (.tmp rfl) .nil) ⟨rfl,rfl⟩)
def gB (F:Nat) (fn0:Nat) (n0:cH bc):Option Bool :=
 if fn0 = 123 then gb F n0 else none
theorem lN {F:Nat} {fn0:Nat} {n0:cH bc} {r:Bool} (h:gB F fn0 n0 = some r):an Tryz.prog [] fn0 [] [.one (.tr ae n0)] (Is [] (.b (.one (.bool r)))):=by
 unfold gB at h
 split at h
 ·next e=>subst e; exact ll h
 ·next=>
  simp at h
theorem lO {F:Nat} {fn0:Nat} {n0:cH bc} {r:Bool} (h:gB F fn0 n0 = some r):bn Tryz.prog fn0:=by
 unfold gB at h
 split at h
 ·next e=>subst e; exact goes123
 ·next=>
  simp at h
def gz (F:Nat) (b0:bH) (n0:Int):Option (bH × Int) :=
 (bY F b0).bind fun x_1=>fy (((!x_1) || (decide (n0 < 0))) || (decide (2251799813685248 < n0))) fun x_2=>if x_2 = true then (some ((⟨A3.zero,A3.zero⟩:bH),1)) else (Option.bind (iter F (dS fun b_4 x_5=>if (decide (x_5 < 3)) = true then ((a8 b_4.Lo.l x_5).bind fun x_7=>(a8 b_4.Lo.l x_5).bind fun x_8=>(a8 b_4.Hi.l x_5).bind fun x_9=>(a8 b_4.Hi.l x_5).bind fun x_10=>some (.inl ((⟨b_4.Lo.set x_5 (IntKind.i64.wrap (x_7 - n0)),b_4.Hi.set x_5 (IntKind.i64.wrap (x_9 + n0))⟩:bH),IntKind.i64.wrap (x_5 + 1)))) else (some (.inr b_4))) (b0,0)) (fun b_3=>(bY F b_3).bind fun x_11=>if (!x_11) = true then (some ((⟨A3.zero,A3.zero⟩:bH),1)) else (some (b_3,0))))
theorem jo {F:Nat} {b0:bH} {n0:Int} {r:bH × Int} (h:gz F b0 n0 = some r):an Tryz.prog [] 11 [] [.agg (aj b0),.one (.i n0)] (Is [] (.eu [.agg (aj r.1),.one (.i r.2)])):=by
 unfold gz at h
 refine an.intro 44 Tryz.func11 Tryz.ntmps11 rfl (by simp) fun E=>?_
 show ab _ E ⟨44,[],[],[]⟩ _ ⟨[(0,.b (.agg (aj b0))),(1,I n0)],[]⟩ _
 refine ab.seq (ab.aa ?_)
 refine Oc (bI (k:=101) rfl rfl) (Oc (ba (k:=102) fm rfl) (Oc oa ?_))
 refine af.ai ⟨[(1,I n0),(2,Pt 101 0),(4,Pt 102 0)],[(101,.box 25 (aj b0)),(102,.box 25 ((cG .i64) A3.zero ++ ((cG .i64) A3.zero)))]⟩ rfl (ab.seq (ab.seq (ab.aa ?_)))
 refine Oc (lp aC) ?_
 obtain ⟨x_1,e1,h⟩:=aO h
 refine Oc (ak (cQ e1) lY rfl rfl) (Oc (dU rfl) (Oc om ?_))
 refine CgF (!(!x_1)) [] (fun g2=>trivial) (fun g2=>om) (af.ag ⟨[(1,_),(2,_),(4,_),(10,B (!x_1)),(11,.opt (!(!x_1)) (.one (.i n0)))],[(101,_),(102,_)]⟩ rfl (CgF (!(!x_1)) [11] (fun g3=>by exact ⟨g3,trivial⟩) (fun g3=>bf rfl rfl) (Oc (cI (fun e=>by first | (rw [e]; rfl) | (simp only at e; rw [e]; rfl)) rfl rfl rfl rfl) (Oc om ?_))))
 refine CgF (!((!x_1) || (decide (n0 < 0)))) [] (fun g4=>trivial) (fun g4=>om) (CgF (!((!x_1) || (decide (n0 < 0)))) [15] (fun g5=>by exact ⟨g5,trivial⟩) (fun g5=>ij rfl rfl) (af.ox h rfl (cI (fun e=>by first | (rw [e]; rfl) | (simp only at e; rw [e]; rfl)) rfl rfl rfl rfl) (fun x_2 h=>?_)))
 refine af.ai ⟨[(1,_),(2,_),(4,_),(17,B x_2)],[(101,_),(102,_)]⟩ rfl (ab.ite h rfl (fun _ h=>?_) (fun _ h=>?_))
 ·refine ab.seq (ab.aa ?_)
  refine Oc (cC l6 rfl rfl) (Oc (aF aC rfl rfl rfl rfl (Nat.le_of_ble_eq_true rfl) rfl) (Oc oa ?_))
  refine af.ai ⟨[(4,_),(5,I 1)],[(102,_)]⟩ rfl (ab.ret (Fin.aq ?_))
  obtain rfl:=Option.some.inj h
  refine Fin.ag ⟨[(4,_),(5,_)],[(102,_)]⟩ rfl (Fin.au [.agg ((cG .i64) A3.zero ++ ((cG .i64) A3.zero)),.one (.i 1)] (.inl rfl) rfl (.cons (.agg aC rfl rfl rfl rfl) (.cons (.tmp rfl) .nil)) ⟨rfl,rfl⟩)
 ·refine ab.skip (Fin.ag ⟨[(1,_),(2,_),(4,_)],[(101,_),(102,_)]⟩ rfl (Fin.then ?_))
  obtain ⟨v6,h7,h⟩:=aO h
  refine ab.dR (v:=v6) (fun (b_3:bH)=>⟨[(2,Pt 101 0),(4,Pt 102 0)],[(101,.box 25 (aj b_3)),(102,.box 25 ((cG .i64) A3.zero ++ ((cG .i64) A3.zero)))]⟩) (fun z=>z) ?_ ?_
  ·refine ab.seq (ab.aa ?_)
   refine Oc om (af.ai ⟨[(1,_),(2,_),(4,_),(19,I 0)],[(101,_),(102,_)]⟩ rfl (ab.block (ab.c6 h7 (dS fun (b_4:bH) (x_5:Int)=>⟨[(1,I n0),(2,Pt 101 0),(4,Pt 102 0),(19,I x_5)],[(101,.box 25 (aj b_4)),(102,.box 25 ((cG .i64) A3.zero ++ ((cG .i64) A3.zero)))]⟩) [1,2,4,19] [101,102] rfl ?_)))
   rintro ⟨b_4,x_5⟩ o8 h9 hy10
   refine ab.seq (ab.aa ?_)
   refine Oc (bf rfl rfl) (af.ai ⟨[(1,_),(2,_),(4,_),(19,_),(20,B (decide (x_5 < 3)))],[(101,_),(102,_)]⟩ rfl (ab.seq (ab.ite h9 rfl (fun _ h9=>?_) (fun _ h9=>?_))))
   ·refine ab.skip (Fin.ag ⟨[(1,_),(2,_),(4,_),(19,_)],[(101,_),(102,_)]⟩ rfl (Fin.then (ab.seq (ab.block (ab.seq (ab.aa ?_))))))
    refine Oc om (Oc oa ?_)
    refine af.ai ⟨[(1,_),(2,_),(4,_),(6,I x_5),(19,_)],[(101,_),(102,_)]⟩ rfl (ab.seq (ab.aa ?_))
    refine Oc om (Oc (ar ck rfl rfl) ?_)
    obtain ⟨x_7,e11,h9⟩:=aO h9
    refine Oc (aV bp (a7 e11) (cJ e11) rfl rfl rfl) (Oc (aH aQ rfl rfl (ca (post:=((cG .i64) b_4.Hi)) (k:=.i64) [] e11 rfl rfl rfl)) (Oc om (Oc (tg rfl rfl) (Oc (ar ck rfl rfl) ?_))))
    obtain ⟨x_8,e12,h9⟩:=aO h9
    refine Oc (aV bp (a7 e12) (cJ e12) rfl rfl rfl) (Oc (dX aQ rfl rfl rfl (pb (post:=((cG .i64) b_4.Hi)) (k:=.i64) [] e12 rfl rfl rfl) (nh (post:=((cG .i64) b_4.Hi)) (k:=.i64) [] e12 rfl rfl (A3.pJ b_4.Lo x_5 (IntKind.i64.wrap (x_7 - n0))) rfl rfl)) ?_)
    refine af.ai ⟨[(1,_),(2,_),(4,_),(6,_),(19,_)],[(101,.box 25 ((cG .i64) (b_4.Lo.set x_5 (IntKind.i64.wrap (x_7 - n0))) ++ ((cG .i64) b_4.Hi))),(102,_)]⟩ rfl (ab.aa (Oc om (Oc (ar cg rfl rfl) ?_)))
    obtain ⟨x_9,e13,h9⟩:=aO h9
    refine Oc (aV bp (a7 e13) (cJ e13) rfl rfl rfl) (Oc (aH aQ rfl rfl (ca (post:=[]) (k:=.i64) ((cG .i64) (b_4.Lo.set x_5 (IntKind.i64.wrap (x_7 - n0)))) e13 rfl rfl rfl)) (Oc om (Oc (bB rfl rfl) (Oc (ar cg rfl rfl) ?_))))
    obtain ⟨x_10,e14,h9⟩:=aO h9
    refine Oc (aV bp (a7 e14) (cJ e14) rfl rfl rfl) (Oc (dX aQ rfl rfl rfl (pb (post:=[]) (k:=.i64) ((cG .i64) (b_4.Lo.set x_5 (IntKind.i64.wrap (x_7 - n0)))) e14 rfl rfl rfl) (nh (post:=[]) (k:=.i64) ((cG .i64) (b_4.Lo.set x_5 (IntKind.i64.wrap (x_7 - n0)))) e14 rfl rfl (A3.pJ b_4.Hi x_5 (IntKind.i64.wrap (x_9 + n0))) rfl rfl)) ?_)
    refine af.nil (Fin.ax (Fin.ag ⟨[(1,_),(2,_),(4,_),(19,_)],[(101,.box 25 ((cG .i64) (b_4.Lo.set x_5 (IntKind.i64.wrap (x_7 - n0))) ++ ((cG .i64) (b_4.Hi.set x_5 (IntKind.i64.wrap (x_9 + n0)))))),(102,_)]⟩ rfl (Fin.then (ab.aa ?_))))
    refine Oc (bB rfl rfl) (Oc om ?_)
    refine af.nil ?_
    exact Fin.cq [1,2,4,19] [101,102] ((⟨b_4.Lo.set x_5 (IntKind.i64.wrap (x_7 - n0)),b_4.Hi.set x_5 (IntKind.i64.wrap (x_9 + n0))⟩:bH),IntKind.i64.wrap (x_5 + 1)) (Option.some.inj h9) rfl
   ·refine ab.exit (Fin.aA ?_)
    obtain rfl:=hy10 _ (Option.some.inj h9).symm
    refine Fin.aA (Fin.aW ?_)
    exact Fin.join [2,4] [101,102] b_4 rfl rfl
  ·rintro b_3 hv
   subst v6
   refine ab.seq (ab.seq (ab.aa ?_))
   refine Oc (lp aC) ?_
   obtain ⟨x_11,e15,h⟩:=aO h
   refine Oc (ak (cQ e15) lY rfl rfl) (Oc (dU rfl) ?_)
   refine af.ai ⟨[(2,_),(4,_),(41,B (!x_11))],[(101,_),(102,_)]⟩ rfl (ab.ite h rfl (fun _ h=>?_) (fun _ h=>?_))
   ·refine ab.seq (ab.aa ?_)
    refine Oc (cC l6 rfl rfl) (Oc (aF aC rfl rfl rfl rfl (Nat.le_of_ble_eq_true rfl) rfl) (Oc oa ?_))
    refine af.ai ⟨[(4,_),(5,I 1)],[(102,_)]⟩ rfl (ab.ret (Fin.aq ?_))
    obtain rfl:=Option.some.inj h
    refine Fin.ag ⟨[(4,_),(5,_)],[(102,_)]⟩ rfl (Fin.au [.agg ((cG .i64) A3.zero ++ ((cG .i64) A3.zero)),.one (.i 1)] (.inl rfl) rfl (.cons (.agg aC rfl rfl rfl rfl) (.cons (.tmp rfl) .nil)) ⟨rfl,rfl⟩)
   ·refine ab.skip (Fin.ag ⟨[(2,_),(4,_)],[(101,_),(102,_)]⟩ rfl (Fin.then (ab.seq (ab.aa ?_))))
    refine Oc (lp aC) (Oc (aF aC rfl rfl rfl rfl (Nat.le_of_ble_eq_true rfl) rfl) (Oc oa ?_))
    refine af.ai ⟨[(4,_),(5,I 0)],[(102,.box 25 (aj b_3))]⟩ rfl (ab.ret ?_)
    obtain rfl:=Option.some.inj h
    refine Fin.ag ⟨[(4,_),(5,_)],[(102,_)]⟩ rfl (Fin.au [.agg (aj b_3),.one (.i 0)] (.inl rfl) rfl (.cons (.agg aC rfl rfl rfl rfl) (.cons (.tmp rfl) .nil)) ⟨rfl,rfl⟩)
def cw (F:Nat) (b0:bH):Option Bool :=
 Option.bind (iter F (fun i_1=>if (decide (i_1 < 3)) = true then ((a8 b0.Lo.l i_1).bind fun x_2=>(a8 b0.Hi.l i_1).bind fun x_3=>(bN (!(decide (x_3 < x_2))) (a8 b0.Lo.l i_1)).bind fun x_4=>(bN (!((decide (x_3 < x_2)) || (decide (x_4 < (-1125899906842624))))) (a8 b0.Hi.l i_1)).bind fun x_5=>if (((decide (x_3 < x_2)) || (decide (x_4 < (-1125899906842624)))) || (decide (1125899906842624 < x_5))) = true then (some (.inr (.inr false))) else (some (.inl (IntKind.i64.wrap (i_1 + 1))))) else (some (.inr (.inl ())))) 0) (cm (fun _=>some true) (fun y=>some y))
theorem ix {F:Nat} {b0:bH} {r:Bool} (h:cw F b0 = some r):an Tryz.prog [] 13 [] [.agg (aj b0)] (Is [] (.b (.one (.bool r)))):=by
 unfold cw at h
 refine an.intro 31 Tryz.func13 Tryz.ntmps13 rfl (by simp) fun E=>?_
 show ab _ E ⟨31,[],[],[]⟩ _ ⟨[(0,.b (.agg (aj b0)))],[]⟩ _
 refine ab.seq (ab.aa ?_)
 refine Oc (bI (k:=101) rfl rfl) (Oc oa ?_)
 refine af.ai ⟨[(1,Pt 101 0)],[(101,.box 25 (aj b0))]⟩ rfl ?_
 obtain ⟨v1,h2,h⟩:=aO h
 refine ab.dR (v:=v1) (fun (_:Unit)=>⟨[],[]⟩) (fun z=>.inl z) ?_ ?_
 ·refine ab.seq (ab.aa ?_)
  refine Oc oa (af.ai ⟨[(1,_),(3,I 0)],[(101,_)]⟩ rfl (ab.block (ab.c6 h2 (fun (i_1:Int)=>⟨[(1,Pt 101 0),(3,I i_1)],[(101,.box 25 (aj b0))]⟩) [1,3] [101] rfl ?_)))
  rintro i_1 o3 h4 hy5
  refine ab.seq (ab.seq (ab.aa ?_))
  refine Oc om (Oc (bf rfl rfl) ?_)
  refine af.ai ⟨[(1,_),(3,_),(5,B (decide (i_1 < 3)))],[(101,_)]⟩ rfl (ab.ite h4 rfl (fun _ h4=>?_) (fun _ h4=>?_))
  ·refine ab.skip (Fin.ag ⟨[(1,_),(3,_)],[(101,_)]⟩ rfl (Fin.then (ab.seq (ab.block (ab.seq ?_)))))
   refine ab.ag ⟨[(1,_),(3,_)],[(101,_)]⟩ rfl ?_
   obtain ⟨x_2,e6,h4⟩:=aO h4
   obtain ⟨x_3,e7,h4⟩:=aO h4
   obtain ⟨x_4,e11,h4⟩:=aO h4
   obtain ⟨x_5,e17,h4⟩:=aO h4
   refine ab.bK mixed 23 [I i_1,Pt 101 0,.b (.ptr 101 (0 + (i_1:Int).toNat * 1)),I x_2,I i_1,Pt 101 3,.b (.ptr 101 (3 + (i_1:Int).toNat * 1)),I x_3,B (decide (x_3 < x_2)),B (decide (x_3 < x_2)),.opt (!(decide (x_3 < x_2))) (.one (.i i_1)),.opt (!(decide (x_3 < x_2))) (.ptr 101 0),.opt (!(decide (x_3 < x_2))) (.ptr 101 (0 + (i_1:Int).toNat * 1)),.opt (!(decide (x_3 < x_2))) (.one (.i x_4)),.opt (!(decide (x_3 < x_2))) (.one (.bool (decide (x_4 < (-1125899906842624))))),B ((decide (x_3 < x_2)) || (decide (x_4 < (-1125899906842624)))),B ((decide (x_3 < x_2)) || (decide (x_4 < (-1125899906842624)))),.opt (!((decide (x_3 < x_2)) || (decide (x_4 < (-1125899906842624))))) (.one (.i i_1)),.opt (!((decide (x_3 < x_2)) || (decide (x_4 < (-1125899906842624))))) (.ptr 101 3),.opt (!((decide (x_3 < x_2)) || (decide (x_4 < (-1125899906842624))))) (.ptr 101 (3 + (i_1:Int).toNat * 1)),.opt (!((decide (x_3 < x_2)) || (decide (x_4 < (-1125899906842624))))) (.one (.i x_5)),.opt (!((decide (x_3 < x_2)) || (decide (x_4 < (-1125899906842624))))) (.one (.bool (decide (1125899906842624 < x_5)))),B (((decide (x_3 < x_2)) || (decide (x_4 < (-1125899906842624)))) || (decide (1125899906842624 < x_5)))] [1,3,30] [101] (s':=⟨[(1,_),(3,_),(30,B (((decide (x_3 < x_2)) || (decide (x_4 < (-1125899906842624)))) || (decide (1125899906842624 < x_5))))],[(101,_)]⟩) rfl ⟨fun _=>.p om,fun _=>.p (ar ck rfl rfl),fun _=>.p (aV bp (a7 e6) (cJ e6) rfl rfl rfl),fun _=>.p (aH aQ rfl rfl (ca (post:=((cG .i64) b0.Hi)) (k:=.i64) [] e6 rfl rfl rfl)),fun _=>.p om,fun _=>.p (ar cg rfl rfl),fun _=>.p (aV bp (a7 e7) (cJ e7) rfl rfl rfl),fun _=>.p (aH aQ rfl rfl (ca (post:=[]) (k:=.i64) ((cG .i64) b0.Lo) e7 rfl rfl rfl)),fun _=>.p (ij rfl rfl),fun _=>.p om,fun _=>by exact .guard (!(decide (x_3 < x_2))) 1 [] (.plain rfl) (dx _) rfl rfl (fun g8=>trivial) (fun g8=>om),fun _=>by exact .guard (!(decide (x_3 < x_2))) 1 [] (.plain rfl) (dx _) rfl rfl (fun g9=>trivial) (fun g9=>ar ck rfl rfl),fun _=>by exact .guard (!(decide (x_3 < x_2))) 3 [18,19] (.plain rfl) (dx _) rfl rfl (fun g10=>⟨g10,g10,trivial⟩) (fun g10=>aV bp (a7 (gc e11 g10)) (cJ (gc e11 g10)) rfl rfl rfl),fun _=>by exact .guard (!(decide (x_3 < x_2))) 2 [20] (.plain rfl) (dx _) rfl rfl (fun g12=>⟨g12,trivial⟩) (fun g12=>aH aQ rfl rfl (ca (post:=((cG .i64) b0.Hi)) (k:=.i64) [] (gc e11 g12) rfl rfl rfl)),fun _=>by exact .guard (!(decide (x_3 < x_2))) 2 [21] (.plain rfl) (dx _) rfl rfl (fun g13=>⟨g13,trivial⟩) (fun g13=>bf rfl rfl),fun _=>.p (cI (fun e=>by first | (rw [e]; rfl) | (simp only at e; rw [e]; rfl)) rfl rfl rfl rfl),fun _=>.p om,fun _=>by exact .guard (!((decide (x_3 < x_2)) || (decide (x_4 < (-1125899906842624))))) 1 [] (.plain rfl) (dx _) rfl rfl (fun g14=>trivial) (fun g14=>om),fun _=>by exact .guard (!((decide (x_3 < x_2)) || (decide (x_4 < (-1125899906842624))))) 1 [] (.plain rfl) (dx _) rfl rfl (fun g15=>trivial) (fun g15=>ar cg rfl rfl),fun _=>by exact .guard (!((decide (x_3 < x_2)) || (decide (x_4 < (-1125899906842624))))) 3 [25,26] (.plain rfl) (dx _) rfl rfl (fun g16=>⟨g16,g16,trivial⟩) (fun g16=>aV bp (a7 (gc e17 g16)) (cJ (gc e17 g16)) rfl rfl rfl),fun _=>by exact .guard (!((decide (x_3 < x_2)) || (decide (x_4 < (-1125899906842624))))) 2 [27] (.plain rfl) (dx _) rfl rfl (fun g18=>⟨g18,trivial⟩) (fun g18=>aH aQ rfl rfl (ca (post:=[]) (k:=.i64) ((cG .i64) b0.Lo) (gc e17 g18) rfl rfl rfl)),fun _=>by exact .guard (!((decide (x_3 < x_2)) || (decide (x_4 < (-1125899906842624))))) 2 [28] (.plain rfl) (dx _) rfl rfl (fun g19=>⟨g19,trivial⟩) (fun g19=>ij rfl rfl),fun _=>.p (cI (fun e=>by first | (rw [e]; rfl) | (simp only at e; rw [e]; rfl)) rfl rfl rfl rfl),trivial⟩ rfl rfl ?_
   refine ab.ite h4 rfl (fun _ h4=>?_) (fun _ h4=>?_)
   ·refine ab.seq (ab.aa ?_)
    refine Oc oa (af.ai ⟨[(2,B false)],[]⟩ rfl (ab.ret (Fin.aL (Fin.aq ?_))))
    obtain rfl:=hy5 _ (Option.some.inj h4).symm
    refine Fin.aq (Fin.aL (Fin.aq ?_))
    obtain rfl:=Option.some.inj h
    refine Fin.ag ⟨[(2,_)],[]⟩ rfl (Fin.au [.one (.bool false)] (.inl rfl) rfl (.cons (.tmp rfl) .nil) ⟨rfl,rfl⟩)
   ·refine ab.skip (Fin.ax (Fin.ag ⟨[(1,_),(3,_)],[(101,_)]⟩ rfl (Fin.then (ab.aa ?_))))
    refine Oc om (Oc (bB rfl rfl) (Oc oa ?_))
    refine af.nil ?_
    exact Fin.cq [1,3] [101] (IntKind.i64.wrap (i_1 + 1)) (Option.some.inj h4) rfl
  ·refine ab.exit (Fin.aA ?_)
   obtain rfl:=hy5 _ (Option.some.inj h4).symm
   refine Fin.aA (Fin.aW ?_)
   exact Fin.join [] [] () rfl rfl
 ·rintro _ hv
  subst v1
  refine ab.seq (ab.aa ?_)
  refine Oc oa (af.ai ⟨[(2,B true)],[]⟩ rfl (ab.ret ?_))
  obtain rfl:=Option.some.inj h
  refine Fin.ag ⟨[(2,_)],[]⟩ rfl (Fin.au [.one (.bool true)] (.inl rfl) rfl (.cons (.tmp rfl) .nil) ⟨rfl,rfl⟩)
def bO (F:Nat) (a0:Int) (b0:Int) (c0:Int) (d0:Int) (e0:Int) (f0:Int):Option bH :=
 fy (⟨(⟨a0,b0,c0⟩:A3),(⟨d0,e0,f0⟩:A3)⟩:bH) fun x_1=>some x_1
theorem cf {F:Nat} {a0:Int} {b0:Int} {c0:Int} {d0:Int} {e0:Int} {f0:Int} {r:bH} (h:bO F a0 b0 c0 d0 e0 f0 = some r):an Tryz.prog [] 39 [] [.one (.i a0),.one (.i b0),.one (.i c0),.one (.i d0),.one (.i e0),.one (.i f0)] (Is [] (.b (.agg (aj r)))):=by
 unfold bO at h
 refine an.intro 22 Tryz.func39 Tryz.ntmps39 rfl (by simp) fun E=>?_
 show ab _ E ⟨22,[],[],[]⟩ _ ⟨[(0,I a0),(1,I b0),(2,I c0),(3,I d0),(4,I e0),(5,I f0)],[]⟩ _
 refine ab.seq (ab.aa ?_)
 refine Oc (ba (k:=101) fm rfl) (af.ai ⟨[(0,I a0),(1,I b0),(2,I c0),(3,I d0),(4,I e0),(5,I f0),(12,Pt 101 0)],[(101,.box 25 ((cG .i64) A3.zero ++ ((cG .i64) A3.zero)))]⟩ rfl (ab.seq (ab.aa ?_)))
 refine Oc om (Oc om (Oc om (Oc (di oF rfl rfl) (Oc om (Oc om ?_)))))
 refine Oc om (af.ag ⟨[(12,_),(16,.b (.agg [.i a0,.i b0,.i c0])),(17,I d0),(18,I e0),(19,I f0)],[(101,_)]⟩ rfl (Oc (di oF rfl rfl) (af.lB aj h rfl (cC l6 rfl rfl) (fun x_1 h=>?_))))
 refine Oc (aF aC rfl rfl rfl rfl (Nat.le_of_ble_eq_true rfl) rfl) (af.ai ⟨[(12,_)],[(101,.box 25 (aj x_1))]⟩ rfl (ab.ret ?_))
 obtain rfl:=Option.some.inj h
 refine Fin.ag ⟨[(12,_)],[(101,_)]⟩ rfl (Fin.au [.agg (aj x_1)] (.inl rfl) rfl (.cons (.agg aC rfl rfl rfl rfl) .nil) ⟨rfl,rfl⟩)
def b4 (F:Nat) (a0:bH) (b0:bH):Option Bool :=
 Option.bind (iter F (fun x_1=>if (decide (x_1 < 3)) = true then ((a8 a0.Hi.l x_1).bind fun x_2=>(a8 b0.Lo.l x_1).bind fun x_3=>(bN (!(decide (x_2 < x_3))) (a8 b0.Hi.l x_1)).bind fun x_4=>(bN (!(decide (x_2 < x_3))) (a8 a0.Lo.l x_1)).bind fun x_5=>if ((decide (x_2 < x_3)) || (decide (x_4 < x_5))) = true then (some (.inr (.inr false))) else (some (.inl (IntKind.i64.wrap (x_1 + 1))))) else (some (.inr (.inl ())))) 0) (cm (fun _=>some true) (fun y=>some y))
theorem c5 {F:Nat} {a0:bH} {b0:bH} {r:Bool} (h:b4 F a0 b0 = some r):an Tryz.prog [] 16 [] [.agg (aj a0),.agg (aj b0)] (Is [] (.b (.one (.bool r)))):=by
 unfold b4 at h
 refine an.intro 30 Tryz.func16 Tryz.ntmps16 rfl (by simp) fun E=>?_
 show ab _ E ⟨30,[],[],[]⟩ _ ⟨[(0,.b (.agg (aj a0))),(1,.b (.agg (aj b0)))],[]⟩ _
 refine ab.seq (ab.aa ?_)
 refine Oc (bI (k:=101) rfl rfl) (Oc (bI (k:=102) rfl rfl) (Oc oa ?_))
 refine af.ai ⟨[(2,Pt 101 0),(3,Pt 102 0)],[(101,.box 25 (aj a0)),(102,.box 25 (aj b0))]⟩ rfl ?_
 obtain ⟨v1,h2,h⟩:=aO h
 refine ab.dR (v:=v1) (fun (_:Unit)=>⟨[],[]⟩) (fun z=>.inl z) ?_ ?_
 ·refine ab.seq (ab.aa ?_)
  refine Oc om (af.ai ⟨[(2,_),(3,_),(6,I 0)],[(101,_),(102,_)]⟩ rfl (ab.block (ab.c6 h2 (fun (x_1:Int)=>⟨[(2,Pt 101 0),(3,Pt 102 0),(6,I x_1)],[(101,.box 25 (aj a0)),(102,.box 25 (aj b0))]⟩) [2,3,6] [101,102] rfl ?_)))
  rintro x_1 o3 h4 hy5
  refine ab.seq (ab.aa ?_)
  refine Oc (bf rfl rfl) (af.ai ⟨[(2,_),(3,_),(6,_),(7,B (decide (x_1 < 3)))],[(101,_),(102,_)]⟩ rfl (ab.seq (ab.ite h4 rfl (fun _ h4=>?_) (fun _ h4=>?_))))
  ·refine ab.skip (Fin.ag ⟨[(2,_),(3,_),(6,_)],[(101,_),(102,_)]⟩ rfl (Fin.then (ab.seq (ab.block (ab.seq (ab.aa ?_))))))
   refine Oc om (Oc oa ?_)
   refine af.ai ⟨[(2,_),(3,_),(5,I x_1),(6,_)],[(101,_),(102,_)]⟩ rfl (ab.seq ?_)
   obtain ⟨x_2,e6,h4⟩:=aO h4
   obtain ⟨x_3,e7,h4⟩:=aO h4
   obtain ⟨x_4,e11,h4⟩:=aO h4
   obtain ⟨x_5,e16,h4⟩:=aO h4
   refine ab.bK mixed 20 [I x_1,Pt 101 3,.b (.ptr 101 (3 + (x_1:Int).toNat * 1)),I x_2,I x_1,Pt 102 0,.b (.ptr 102 (0 + (x_1:Int).toNat * 1)),I x_3,B (decide (x_2 < x_3)),B (decide (x_2 < x_3)),.opt (!(decide (x_2 < x_3))) (.one (.i x_1)),.opt (!(decide (x_2 < x_3))) (.ptr 102 3),.opt (!(decide (x_2 < x_3))) (.ptr 102 (3 + (x_1:Int).toNat * 1)),.opt (!(decide (x_2 < x_3))) (.one (.i x_4)),.opt (!(decide (x_2 < x_3))) (.one (.i x_1)),.opt (!(decide (x_2 < x_3))) (.ptr 101 0),.opt (!(decide (x_2 < x_3))) (.ptr 101 (0 + (x_1:Int).toNat * 1)),.opt (!(decide (x_2 < x_3))) (.one (.i x_5)),.opt (!(decide (x_2 < x_3))) (.one (.bool (decide (x_4 < x_5)))),B ((decide (x_2 < x_3)) || (decide (x_4 < x_5)))] [2,3,6,28] [101,102] (s':=⟨[(2,_),(3,_),(6,_),(28,B ((decide (x_2 < x_3)) || (decide (x_4 < x_5))))],[(101,_),(102,_)]⟩) rfl ⟨fun _=>.p om,fun _=>.p (ar cg rfl rfl),fun _=>.p (aV bp (a7 e6) (cJ e6) rfl rfl rfl),fun _=>.p (aH aQ rfl rfl (ca (post:=[]) (k:=.i64) ((cG .i64) a0.Lo) e6 rfl rfl rfl)),fun _=>.p om,fun _=>.p (ar ck rfl rfl),fun _=>.p (aV bp (a7 e7) (cJ e7) rfl rfl rfl),fun _=>.p (aH aQ rfl rfl (ca (post:=((cG .i64) b0.Hi)) (k:=.i64) [] e7 rfl rfl rfl)),fun _=>.p (bf rfl rfl),fun _=>.p om,fun _=>by exact .guard (!(decide (x_2 < x_3))) 1 [] (.plain rfl) (dx _) rfl rfl (fun g8=>trivial) (fun g8=>om),fun _=>by exact .guard (!(decide (x_2 < x_3))) 1 [] (.plain rfl) (dx _) rfl rfl (fun g9=>trivial) (fun g9=>ar cg rfl rfl),fun _=>by exact .guard (!(decide (x_2 < x_3))) 3 [19,20] (.plain rfl) (dx _) rfl rfl (fun g10=>⟨g10,g10,trivial⟩) (fun g10=>aV bp (a7 (gc e11 g10)) (cJ (gc e11 g10)) rfl rfl rfl),fun _=>by exact .guard (!(decide (x_2 < x_3))) 2 [21] (.plain rfl) (dx _) rfl rfl (fun g12=>⟨g12,trivial⟩) (fun g12=>aH aQ rfl rfl (ca (post:=[]) (k:=.i64) ((cG .i64) b0.Lo) (gc e11 g12) rfl rfl rfl)),fun _=>by exact .guard (!(decide (x_2 < x_3))) 1 [] (.plain rfl) (dx _) rfl rfl (fun g13=>trivial) (fun g13=>om),fun _=>by exact .guard (!(decide (x_2 < x_3))) 1 [] (.plain rfl) (dx _) rfl rfl (fun g14=>trivial) (fun g14=>ar ck rfl rfl),fun _=>by exact .guard (!(decide (x_2 < x_3))) 3 [23,24] (.plain rfl) (dx _) rfl rfl (fun g15=>⟨g15,g15,trivial⟩) (fun g15=>aV bp (a7 (gc e16 g15)) (cJ (gc e16 g15)) rfl rfl rfl),fun _=>by exact .guard (!(decide (x_2 < x_3))) 2 [25] (.plain rfl) (dx _) rfl rfl (fun g17=>⟨g17,trivial⟩) (fun g17=>aH aQ rfl rfl (ca (post:=((cG .i64) a0.Hi)) (k:=.i64) [] (gc e16 g17) rfl rfl rfl)),fun _=>by exact .guard (!(decide (x_2 < x_3))) 3 [22,26] (.plain rfl) (dx _) rfl rfl (fun g18=>⟨g18,g18,trivial⟩) (fun g18=>bf rfl rfl),fun _=>.p (cI (fun e=>by first | (rw [e]; rfl) | (simp only at e; rw [e]; rfl)) rfl rfl rfl rfl),trivial⟩ rfl rfl ?_
   refine ab.ite h4 rfl (fun _ h4=>?_) (fun _ h4=>?_)
   ·refine ab.seq (ab.aa ?_)
    refine Oc oa (af.ai ⟨[(4,B false)],[]⟩ rfl (ab.ret (Fin.aL (Fin.aq ?_))))
    obtain rfl:=hy5 _ (Option.some.inj h4).symm
    refine Fin.aq (Fin.aL (Fin.aq ?_))
    obtain rfl:=Option.some.inj h
    refine Fin.ag ⟨[(4,_)],[]⟩ rfl (Fin.au [.one (.bool false)] (.inl rfl) rfl (.cons (.tmp rfl) .nil) ⟨rfl,rfl⟩)
   ·refine ab.skip (Fin.ax (Fin.ag ⟨[(2,_),(3,_),(6,_)],[(101,_),(102,_)]⟩ rfl (Fin.then (ab.aa ?_))))
    refine Oc (bB rfl rfl) (Oc om ?_)
    refine af.nil ?_
    exact Fin.cq [2,3,6] [101,102] (IntKind.i64.wrap (x_1 + 1)) (Option.some.inj h4) rfl
  ·refine ab.exit (Fin.aA ?_)
   obtain rfl:=hy5 _ (Option.some.inj h4).symm
   refine Fin.aA (Fin.aW ?_)
   exact Fin.join [] [] () rfl rfl
 ·rintro _ hv
  subst v1
  refine ab.seq (ab.aa ?_)
  refine Oc oa (af.ai ⟨[(4,B true)],[]⟩ rfl (ab.ret ?_))
  obtain rfl:=Option.some.inj h
  refine Fin.ag ⟨[(4,_)],[]⟩ rfl (Fin.au [.one (.bool true)] (.inl rfl) rfl (.cons (.tmp rfl) .nil) ⟨rfl,rfl⟩)
def dE (F:Nat) (n0:cH bc) (v0c:bH):Option Bool :=
 Option.bind (iO n0) (fun nd_1=>(b4 F nd_1.1.cover v0c).bind fun x_2=>some x_2)
theorem jx {F:Nat} {n0:cH bc} {v0c:bH} {r:Bool} (h:dE F n0 v0c = some r):an Tryz.prog [] 74 [] [.one (.tr ae n0),.aK (aj v0c)] (Is [] (.b (.one (.bool r)))):=by
 unfold dE at h
 refine an.intro 10 Tryz.func74 Tryz.ntmps74 rfl (by simp) fun E=>?_
 show ab _ E ⟨10,[],[],[]⟩ _ ⟨[(0,.b (.one (.tr ae n0))),(1,.b (.aK (aj v0c)))],[]⟩ _
 refine ab.seq (ab.aa ?_)
 refine Oc oa (af.ai ⟨[(0,.b (.one (.tr ae n0))),(1,.b (.aK (aj v0c)))],[]⟩ rfl (ab.seq ?_))
 obtain ⟨nd_1,e1,h⟩:=aO h
 obtain ⟨x_2,e2,h⟩:=aO h
 refine ab.bK mixed 7 [.b (.one (.tr ae n0)),.b (.aK (ao nd_1.1.x ++ (.int .u64 nd_1.1.priority :: (aj nd_1.1.cover ++ ([.tr ae nd_1.2.1,.tr ae nd_1.2.2]))))),.b (.aK (aj nd_1.1.cover ++ ([.tr ae nd_1.2.1,.tr ae nd_1.2.2]))),.b (.agg (aj nd_1.1.cover)),.b (.agg (aj v0c)),B x_2,B x_2] [3] [] (s':=⟨[(3,B x_2)],[]⟩) rfl ⟨fun _=>.p om,fun _=>.p (aE e1 rfl rfl),fun _=>by exact .p (aD iX rfl rfl),fun _=>.p (bU aC rfl rfl rfl),fun _=>.p (bU aC rfl rfl rfl),fun _=>.p (ak (c5 e2) lX rfl rfl),fun _=>.p oa,trivial⟩ rfl rfl (ab.ret ?_)
 obtain rfl:=Option.some.inj h
 refine Fin.ag ⟨[(3,_)],[]⟩ rfl (Fin.au [.one (.bool x_2)] (.inl rfl) rfl (.cons (.tmp rfl) .nil) ⟨rfl,rfl⟩)
def jV (F:Nat) (a00:cH bc):Option Bool :=
 some true
theorem lS {F:Nat} {a00:cH bc} {r:Bool} (h:jV F a00 = some r):an Tryz.prog [] 58 [] [.one (.tr ae a00)] (Is [] (.b (.one (.bool r)))):=by
 unfold jV at h
 refine an.intro 3 Tryz.func58 Tryz.ntmps58 rfl (by simp) fun E=>?_
 show ab _ E ⟨3,[],[],[]⟩ _ ⟨[(0,.b (.one (.tr ae a00)))],[]⟩ _
 refine ab.seq (ab.aa ?_)
 refine Oc oa (af.ai ⟨[],[]⟩ rfl (ab.seq (ab.aa ?_)))
 refine Oc oa (af.ai ⟨[(2,B true)],[]⟩ rfl (ab.ret ?_))
 obtain rfl:=Option.some.inj h
 refine Fin.ag ⟨[(2,_)],[]⟩ rfl (Fin.au [.one (.bool true)] (.inl rfl) rfl (.cons (.tmp rfl) .nil) ⟨rfl,rfl⟩)
section
variable {P:Program} {TB:aS} {m:Nat} {s:St} {ops:Array Oper} {l:List Oper} {Q:bA} {o:Oper}
theorem kv {E:Env TB} {d:Nat} (K:Bool → PH → World → Prop) (hK:∀ b h w,K b h w → jk h w ∧ cr TB h w) (hown:s.own = []) (hdm:d < m)
    (hop:∀ a w h ρ,WR E ⟨m,[],[],[]⟩ [] h ρ w → aN h ρ s.slots a.tmps → ∀ (K':Act → World → Prop),(∀ b h' w',h.le h' → K b h' w' → K' (a.put (some d) (.bool b)) w') → o.wpIn Fence.wide 0 P a w K' Q)
    (hnext:∀ b h' ρ w' (tb:cr TB h' w'),K b h' w' → aY P (⟨w',h',ρ,tb⟩:Env TB) ⟨m,[],[],[]⟩ Fence.wide ops l ⟨(d,B b) :: del d s.slots,[]⟩ Q) :
    ∀ a w,R E ⟨m,[],[],[]⟩ s a w → o.wpIn Fence.wide 0 P a w (lu P Fence.wide ops Q l) Q:=by
  rintro a w ⟨hd,hn,h,ρ,hw,hs⟩
  rw [hown] at hw
  refine hop a w h ρ hw hs _ fun b h' w' hle hk=>?_
  obtain ⟨hag,htb⟩:=hK b h' w' hk
  refine hnext b h' ρ w' htb hk _ w' (R.fresh htb hag hd (by simpa [Act.put] using hn) ?_)
  exact aN.set (hs.mono hle) hn hdm rfl
theorem aY.stepU {E:Env TB} {n:Sh} {F:Fence} (hg:o.guard = none) (h:∀ a w,R E n s a w → o.wpIn F 0 P a w (lu P F ops Q l) Q):aY P E n F ops (o :: l) s Q:=by
  intro a w hr
  unfold lu
  have:Region.wanted o (yielded ops a.tmps) = true:=by simp [Region.wanted,hg]
  simp only [this,if_true]
  exact h a w hr
end
theorem tS:cK Tryz.prog 98:=⟨⟨_,Tryz.underlying98,rfl⟩,⟨Tryz.t98,by kernel_rfl,by kernel_rfl⟩⟩
theorem goes58':bn Tryz.prog 58:=⟨Tryz.call58⟩
theorem goes74':bn Tryz.prog 74:=⟨Tryz.call74⟩
theorem pr:bn Tryz.prog 78:=⟨Tryz.call78⟩
def rK (c:CP) (p:cH bc → Option Bool):Prop :=
  ∀ {E:Env []} {m:Nat} {sl:List (Nat × SV)} {dst:Option Nat} {ats:Array TypeId} {ty:TypeId} {pos:String} {after:Array Edge} {g:Option (Nat × Bool)} {x y:Operand} {t:cH bc} {z:Bool},
    p t = some z → (⟨sl,[]⟩:St).ev x = some (.b (.one c)) → (⟨sl,[]⟩:St).ev y = some (.b (.one (CP.tr ae t))) → bq Tryz.prog E ⟨m,[],[],[]⟩ ⟨dst,.call ⟨.value x,#[y],ats⟩,ty,pos,after,g⟩ ⟨sl,[]⟩ ((⟨sl,[]⟩:St).put ⟨m,[],[],[]⟩ dst (B z))
theorem pD:rK (.raw (.func (.func 58) #[] #[])) (fun _=>some true):=by
  intro E n sl dst ats ty pos after g x y t z hz hx hy
  exact iH (args:=[.one (CP.tr ae t)]) (lS (F:=0) hz) goes58' hx (by simp [fg,evB,hy]) rfl
theorem qw {F:Nat} {b:bH}:rK (.eZ 74 [CP.rp (aj b)]) (fun t=>dE F t b):=by
  intro E n sl dst ats ty pos after g x y t z hz hx hy
  have h:=nB (E:=E) (n:=⟨n,[],[],[]⟩) (s:=⟨sl,[]⟩) (dst:=dst) (ty:=ty) (pos:=pos) (after:=after) (g:=g) (ats:=ats) (x:=x) (xs:=#[y]) (zs:=[.one (CP.tr ae t)]) (pss:=[aj b]) (own_a:=[]) (own':=[]) (jx hz) goes74' hx (by simp [fg,evB,hy]) rfl trivial rfl rfl rfl
  have e:(⟨sl,[]⟩:St).aft ⟨n,[],[],[]⟩ [] [] dst (B z) = (⟨sl,[]⟩:St).put ⟨n,[],[],[]⟩ dst (B z):=by
    rfl
  rw [← e]
  exact h
theorem qk {t:cH bc} {c:CP}:an Tryz.prog [] 57 [] [.one (CP.tr ae t),.one c] (Is [] (.b (.one (.eZ 77 [CP.rp [CP.tr ae t],CP.rp [c]])))):=by
  refine an.intro 6 Tryz.func57 Tryz.ntmps57 rfl (by simp) fun E=>?_
  show ab _ E ⟨6,[],[],[]⟩ _ ⟨[(0,.b (.one (CP.tr ae t))),(1,.b (.one c))],[]⟩ _
  refine ab.seq ?_
  refine ab.aa ?_
  refine af.cons rfl (pj rfl) ?_
  refine af.cons rfl (pj rfl) ?_
  refine af.cons rfl (bV rfl) ?_
  refine af.nilK [2,3] [] (s':=⟨[(2,.b (.aK [CP.tr ae t])),(3,.b (.aK [c]))],[]⟩) rfl ?_
  refine ab.seq ?_
  refine ab.aa ?_
  refine af.cons rfl (gw rfl) ?_
  refine af.cons rfl (bV rfl) ?_
  refine af.nilK [4] [] (s':=⟨[(4,.b (.one (.eZ 77 [CP.rp [CP.tr ae t],CP.rp [c]])))],[]⟩) rfl ?_
  refine ab.ret ?_
  exact Fin.au [.one (.eZ 77 [CP.rp [CP.tr ae t],CP.rp [c]])] (.inl rfl) rfl (.cons (.tmp rfl) .nil) ⟨rfl,rfl⟩
section
variable {J:Nat → PH → World → Prop} {Jx:PH → World → Prop} {L:Nat} {c:CP} {p:cH bc → Option Bool} {all:List entry}
def Kv (J:Nat → PH → World → Prop) (Jx:PH → World → Prop) (h0:PH) (k:Nat) (b:Bool) (h:PH) (w:World):Prop:=h0.le h ∧ (if b = true then J k h w else Jx h w)
theorem Kv.ok (hJ:∀ k,kH [] (J k)) (hJx:kH [] Jx) {h0:PH} {k:Nat} {b:Bool} {h:PH} {w:World} (hk:Kv J Jx h0 k b h w):jk h w ∧ cr [] h w:=by
  cases b with
  | true=>exact (hJ k).1 h w hk.2
  | false=>exact hJx.1 h w (by simpa [Kv] using hk.2)
theorem Kv.go (hJ:∀ k,kH [] (J k)) (hJx:kH [] Jx) {h0:PH} {k:Nat} {b:Bool} {h h':PH} {w w':World} {tb:cr [] h w} {ρ ρ':RM} {own':List (Nat × OC)} {m:Nat} (hk:Kv J Jx h0 k b h w) (hw:WR (⟨w,h,ρ,tb⟩:Env []) ⟨m,[],[],[]⟩ own' h' ρ' w'):Kv J Jx h0 k b h' w':=by
  refine ⟨PH.le_trans hk.1 hw.le,?_⟩
  cases b with
  | true=>exact (hJ k).2 h w hk.2 tb ρ h' ρ' w' own' m hw
  | false=>exact hJx.2 h w (by simpa [Kv] using hk.2) tb ρ h' ρ' w' own' m hw
def VisEnd (J:Nat → PH → World → Prop) (Jx:PH → World → Prop) (h0:PH) (k:Nat) (e:Ending) (w:World):Prop:=∃ b h,e = .returned (.bool b) ∧ Kv J Jx h0 k b h w
theorem qm (hJ:∀ k,kH [] (J k)) (hJx:kH [] Jx) (hp:rK c p)
    (hround:∀ k x h W vals,all[k]? = some x → J k h W → aP (fun (x:BV) v=>∀ ρ,x.rel h ρ v) (sT x) vals →
      YieldAt Fence.wide 0 Tryz.prog L vals.toArray W fun e W'=>(e = .returned (.bool true) ∧ ∃ h',h.le h' ∧ J (k + 1) h' W') ∨ (e = .returned (.bool false) ∧ ∃ h',h.le h' ∧ Jx h' W')) :
    ∀ (t:cH bc) (ys:List entry) (k:Nat),se p t = some ys → (∀ i x,ys[i]? = some x → all[k + i]? = some x) → ∀ h W v1 v2,J k h W → (CP.tr ae t).rel h v1 → c.rel h v2 →
      Calls Tryz.prog 78 #[v1,v2,.func (.yield L) #[] #[]] W (VisEnd J Jx h (k + ys.length)):=by
  intro t
  induction t with
  | leaf=>
    intro ys k hv hall h W v1 v2 hj h1 h2
    cases hv
    refine callsIn_wide.1 (callsIn_of_wp (n:=0) (F:=Fence.wide) Tryz.func78 rfl trivial ?_)
    obtain ⟨hs0,hn0⟩:=lj (m:=39) (h:=h) (ρ:=fun _=>.bool false) (args:=[.one (CP.tr ae .leaf),.one c,.one (.raw (.func (.yield L) #[] #[]))]) (vals:=[v1,v2,.func (.yield L) #[] #[]])
      (.cons h1 (.cons h2 (.cons ⟨rfl,rfl⟩ .nil))) (Nat.le_of_ble_eq_true rfl)
    obtain ⟨hag0,htb0⟩:=(hJ k).1 h W hj
    have hk0:Kv J Jx h k true h W:=⟨PH.le_refl h,by simpa using hj⟩
    generalize hQo:bodyPost Tryz.prog _ _ = Qo
    have hlo:¬ LetsOut Qo:=by
      rw [← hQo]
      rintro ⟨a,w,b,h',he,_⟩
      cases he
    have hend:∀ (b:Bool) (w0:World) (h0:PH) (ρ0:RM) (tb:cr [] h0 w0),Kv J Jx h (k + 0) b h0 w0 → Fin (⟨w0,h0,ρ0,tb⟩:Env []) ⟨39,[],[],[]⟩ .ret ⟨[(6,B b)],[]⟩ Qo:=by
      rintro b w0 h0 ρ0 tb hK a w ⟨hd,hn,h',ρ',hw,hs⟩
      rw [← hQo]
      obtain ⟨v,hv,hrel⟩:=fU (P:=Tryz.prog) (fn:=Tryz.f78) (s:=⟨[(6,B b)],[]⟩) (zs:=[.one (.bool b)]) (.cons (.tmp rfl) .nil) hw hs
      have hv':v = .bool b:=hrel
      exact ⟨hd,v,hv w (bZ.refl w),b,h',by rw [hv'],hK.go hJ hJx hw⟩
    refine (show aX Tryz.prog (⟨W,h,fun _=>.bool false,htb0⟩:Env []) ⟨39,[],[],[]⟩ Fence.wide _ ⟨_,[]⟩ Qo from ?_) hlo _ _ (R.fresh htb0 hag0 rfl hn0 hs0)
    clear hs0 hn0
    refine aX.seq ?_
    refine aX.aa (.inl rfl) ?_
    refine af.cons rfl (bV rfl) ?_
    refine af.nil ?_
    refine Fin.keep [0,1,2] [] (s':=⟨[(0,.b (.one (CP.tr ae .leaf))),(1,.b (.one c)),(2,.b (.one (.raw (.func (.yield L) #[] #[]))))],[]⟩) rfl ?_
    refine Fin.gg ?_ hlo
    refine aX.seq ?_
    refine aX.seq ?_
    refine aX.na (.inl rfl) ?_
    refine aY.cons (.inl rfl) rfl (aU rfl) ?_
    refine aY.cons (.inl rfl) rfl (eU kW rfl) ?_
    refine aY.cons (.inl rfl) rfl (aU rfl) ?_
    refine aY.dP (.plain (t:=9) rfl) rfl rfl rfl (.one .any) ?_
    refine aY.dP (.plain (t:=9) rfl) rfl rfl rfl (.one .any) ?_
    refine aY.dP (.plain (t:=9) rfl) rfl rfl rfl (.one .any) ?_
    refine aY.dP (.plain (t:=9) rfl) rfl rfl rfl (.one (.bool true)) ?_
    refine aY.cons (.inl rfl) rfl (cI (fun e=>Bool.noConfusion e) rfl rfl rfl) ?_
    refine aY.nil ?_
    refine Fin.keep [14] [] (s':=⟨[(14,B true)],[]⟩) rfl ?_
    refine Fin.gg ?_ (gJ hlo)
    refine aX.cond rfl (fun he=>?_) (fun he=>absurd he (by decide))
    refine aX.seq ?_
    refine aX.aa (.inl rfl) ?_
    refine af.cons rfl (bV rfl) ?_
    refine af.nil ?_
    refine Fin.keep [6] [] (s':=⟨[(6,B true)],[]⟩) rfl ?_
    refine Fin.gg ?_ (gJ hlo)
    refine aX.ret ?_
    exact Fin.aq (hend true W h _ htb0 (by simpa using hk0))
  | node a l r ihl ihr=>
    intro ys k hv hall h W v1 v2 hj h1 h2
    refine callsIn_wide.1 (callsIn_of_wp (n:=0) (F:=Fence.wide) Tryz.func78 rfl trivial ?_)
    obtain ⟨hs0,hn0⟩:=lj (m:=39) (h:=h) (ρ:=fun _=>.bool false) (args:=[.one (CP.tr ae (.node a l r)),.one c,.one (.raw (.func (.yield L) #[] #[]))]) (vals:=[v1,v2,.func (.yield L) #[] #[]])
      (.cons h1 (.cons h2 (.cons ⟨rfl,rfl⟩ .nil))) (Nat.le_of_ble_eq_true rfl)
    obtain ⟨hag0,htb0⟩:=(hJ k).1 h W hj
    have hk0:Kv J Jx h k true h W:=⟨PH.le_refl h,by simpa using hj⟩
    generalize hQo:bodyPost Tryz.prog _ _ = Qo
    have hlo:¬ LetsOut Qo:=by
      rw [← hQo]
      rintro ⟨a,w,b,h',he,_⟩
      cases he
    have hend:∀ (b:Bool) (w0:World) (h0:PH) (ρ0:RM) (tb:cr [] h0 w0),Kv J Jx h (k + ys.length) b h0 w0 → Fin (⟨w0,h0,ρ0,tb⟩:Env []) ⟨39,[],[],[]⟩ .ret ⟨[(6,B b)],[]⟩ Qo:=by
      rintro b w0 h0 ρ0 tb hK a w ⟨hd,hn,h',ρ',hw,hs⟩
      rw [← hQo]
      obtain ⟨v,hv,hrel⟩:=fU (P:=Tryz.prog) (fn:=Tryz.f78) (s:=⟨[(6,B b)],[]⟩) (zs:=[.one (.bool b)]) (.cons (.tmp rfl) .nil) hw hs
      have hv':v = .bool b:=hrel
      exact ⟨hd,v,hv w (bZ.refl w),b,h',by rw [hv'],hK.go hJ hJx hw⟩
    refine (show aX Tryz.prog (⟨W,h,fun _=>.bool false,htb0⟩:Env []) ⟨39,[],[],[]⟩ Fence.wide _ ⟨_,[]⟩ Qo from ?_) hlo _ _ (R.fresh htb0 hag0 rfl hn0 hs0)
    clear hs0 hn0
    refine aX.seq ?_
    refine aX.aa (.inl rfl) ?_
    refine af.cons rfl (bV rfl) ?_
    refine af.nil ?_
    refine Fin.keep [0,1,2] [] (s':=⟨[(0,.b (.one (CP.tr ae (.node a l r)))),(1,.b (.one c)),(2,.b (.one (.raw (.func (.yield L) #[] #[]))))],[]⟩) rfl ?_
    refine Fin.gg ?_ hlo
    refine aX.seq ?_
    refine aX.seq ?_
    refine aX.na (.inl rfl) ?_
    refine aY.cons (.inl rfl) rfl (aU rfl) ?_
    refine aY.cons (.inl rfl) rfl (eU kW rfl) ?_
    refine aY.cons (.inl rfl) rfl (aU rfl) ?_
    obtain ⟨cb,hcb,hv⟩:=Option.bind_eq_some_iff.1 hv
    refine aY.gF (.inl rfl) (.plain (t:=9) rfl) rfl rfl rfl (aU rfl) ?_
    refine aY.gF (.inl rfl) (.plain (t:=9) rfl) rfl rfl rfl (aU rfl) ?_
    refine aY.gF (.inl rfl) (.plain (t:=9) rfl) rfl rfl rfl (hp hcb rfl rfl) ?_
    refine aY.gF (.inl rfl) (.plain (t:=9) rfl) rfl rfl rfl (dU rfl) ?_
    refine aY.opt 13 rfl ?_
    refine aY.cons (.inl rfl) rfl (cI (fun _=>rfl) rfl rfl rfl) ?_
    refine aY.nil ?_
    refine Fin.keep [0,1,2,14] [] (s':=⟨[(0,.b (.one (CP.tr ae (.node a l r)))),(1,.b (.one c)),(2,.b (.one (.raw (.func (.yield L) #[] #[])))),(14,B (false || !cb))],[]⟩) rfl ?_
    refine Fin.gg ?_ (gJ hlo)
    refine aX.cond rfl (fun he=>?_) (fun he=>?_)
    · have hcb':cb = false:=by simpa using he
      subst hcb'
      have hys:ys = []:=by simpa using hv.symm
      subst hys
      refine aX.seq ?_
      refine aX.aa (.inl rfl) ?_
      refine af.cons rfl (bV rfl) ?_
      refine af.nil ?_
      refine Fin.keep [6] [] (s':=⟨[(6,B true)],[]⟩) rfl ?_
      refine Fin.gg ?_ (gJ hlo)
      refine aX.ret ?_
      exact Fin.aq (hend true W h _ htb0 (by simpa using hk0))
    have hcb':cb = true:=by simpa using he
    subst hcb'
    rw [if_pos rfl] at hv
    obtain ⟨xs,hxs,hv⟩:=Option.bind_eq_some_iff.1 hv
    obtain ⟨zs,hzs,hv⟩:=Option.bind_eq_some_iff.1 hv
    have hys:ys = xs ++ a.x :: zs:=(Option.some.inj hv).symm
    subst hys
    have hlen:k + (xs ++ a.x :: zs).length = k + xs.length + 1 + zs.length:=by simp; omega
    refine aX.skip ?_
    refine Fin.keep [0,1,2] [] (s':=⟨[(0,.b (.one (CP.tr ae (.node a l r)))),(1,.b (.one c)),(2,.b (.one (.raw (.func (.yield L) #[] #[]))))],[]⟩) rfl ?_
    refine Fin.gg ?_ hlo
    refine aX.seq ?_
    refine aX.na (.inl rfl) ?_
    refine aY.cons (.inl rfl) rfl (aU rfl) ?_
    refine aY.cons (.inl rfl) rfl (aE (z:=(a,l,r)) (qs:=ae a ++ [CP.tr ae l,CP.tr ae r]) rfl rfl rfl) ?_
    refine aY.cons (.inl rfl) rfl (aD (qs:=[CP.tr ae l,CP.tr ae r]) dB rfl rfl) ?_
    refine aY.cons (.inl rfl) rfl (aw (p:=CP.tr ae l) br rfl rfl) ?_
    refine aY.cons (.inl rfl) rfl (aU rfl) ?_
    refine aY.cons (.inl rfl) rfl (aU rfl) ?_
    refine aY.stepU rfl (kv (d:=21) (Kv J Jx h (k + xs.length)) (fun b h w hk=>hk.ok hJ hJx) rfl (by decide) ?_ ?_)
    · intro a1 w1 h1' ρ1 hw1 hs1 K' hK'
      have hj1:=hk0.go hJ hJx hw1
      have e20:a1.eval (.tmp 20) = .func (.yield L) #[] #[]:=(aJ hs1 (o:=.tmp 20) rfl:(CP.raw _).rel h1' _).1
      refine j8 (.inl rfl) rfl (fun a w h=>h) ?_
      unfold Oper.wp
      rw [iE pr a1 w1]
      show Calls Tryz.prog 78 [a1.eval (.tmp 18),a1.eval (.tmp 19),a1.eval (.tmp 20)].toArray w1 _
      rw [e20]
      refine (ihl xs k hxs (fun i x hi=>hall i x (by rw [List.getElem?_append_left (List.getElem?_eq_some_iff.1 hi).1]; exact hi)) h1' w1 _ _ hj1.2 (aJ hs1 (o:=.tmp 18) rfl) (aJ hs1 (o:=.tmp 19) rfl)).mono ?_
      rintro e w' ⟨b,h',rfl,hk⟩
      exact hK' b h' w' hk.1 ⟨PH.le_trans hj1.1 hk.1,hk.2⟩
    intro b1 h2 ρ2 w2 tb2 hk1
    refine aY.keep [0,1,2,21] [] (s':=⟨[(0,.b (.one (CP.tr ae (.node a l r)))),(1,.b (.one c)),(2,.b (.one (.raw (.func (.yield L) #[] #[])))),(21,B b1)],[]⟩) rfl ?_
    refine aY.cons (.inl rfl) rfl (aU rfl) ?_
    cases b1 with
    | false=>
      refine aY.dP (.plain (t:=22) rfl) rfl rfl rfl (.one .any) ?_
      refine aY.dP (.plain (t:=22) rfl) rfl rfl rfl (.one .any) ?_
      refine aY.dP (.plain (t:=22) rfl) rfl rfl rfl (.one .any) ?_
      refine aY.dP (.plain (t:=22) rfl) rfl rfl rfl (.one .any) ?_
      refine aY.dP (.plain (t:=22) rfl) rfl rfl rfl (.one .any) ?_
      refine aY.dP (.plain (t:=22) rfl) rfl rfl rfl (.one (.bool true)) ?_
      refine aY.cons (.inl rfl) rfl (aG (fun e=>Bool.noConfusion e) rfl rfl rfl) ?_
      refine aY.cons (.inl rfl) rfl (aU rfl) ?_
      refine aY.dP (.plain (t:=30) rfl) rfl rfl rfl (.one .any) ?_
      refine aY.dP (.plain (t:=30) rfl) rfl rfl rfl (.one .any) ?_
      refine aY.dP (.plain (t:=30) rfl) rfl rfl rfl (.one .any) ?_
      refine aY.dP (.plain (t:=30) rfl) rfl rfl rfl (.one .any) ?_
      refine aY.dP (.plain (t:=30) rfl) rfl rfl rfl (.one .any) ?_
      refine aY.dP (.plain (t:=30) rfl) rfl rfl rfl (.one .any) ?_
      refine aY.dP (.plain (t:=30) rfl) rfl rfl rfl (.one (.bool true)) ?_
      refine aY.cons (.inl rfl) rfl (aG (fun e=>Bool.noConfusion e) rfl rfl rfl) ?_
      refine aY.cons (.inl rfl) rfl (bV rfl) ?_
      refine aY.nil ?_
      refine Fin.keep [6] [] (s':=⟨[(6,B false)],[]⟩) rfl ?_
      refine Fin.gg ?_ hlo
      refine aX.ret ?_
      exact hend false w2 h2 ρ2 tb2 ⟨hk1.1,hk1.2⟩
    | true=>
    refine aY.gF (.inl rfl) (.plain (t:=22) rfl) rfl rfl rfl (aU rfl) ?_
    refine aY.gF (.inl rfl) (.plain (t:=22) rfl) rfl rfl rfl (aU rfl) ?_
    refine aY.gF (.inl rfl) (.plain (t:=22) rfl) rfl rfl rfl (aE (z:=(a,l,r)) (qs:=ae a ++ [CP.tr ae l,CP.tr ae r]) rfl rfl rfl) ?_
    refine aY.gF (.inl rfl) (.plain (t:=22) rfl) rfl rfl rfl (aD (qs:=ae a ++ [CP.tr ae l,CP.tr ae r]) dW rfl rfl) ?_
    refine aY.gF (.inl rfl) (.plain (t:=22) rfl) rfl rfl rfl (bU (qs:=ao a.x) bt rfl rfl rfl) ?_
    refine aY.stepT (.plain (t:=22) rfl) rfl rfl rfl (kv (d:=28) (Kv J Jx h (k + xs.length + 1)) (fun b h w hk=>hk.ok hJ hJx) rfl (by decide) ?_ ?_)
    · intro a1 w1 h1' ρ1 hw1 hs1 K' hK'
      have hj1:=hk1.go hJ hJx hw1
      have hx23:a1.eval (.tmp 23) = .func (.yield L) #[] #[]:=(aJ hs1 (o:=.tmp 23) rfl:(CP.raw _).rel h1' _).1
      have hx27:=(aJ hs1 (o:=.tmp 27) (x:=.b (.agg (ao a.x))) rfl:BV.rel h1' ρ1 (.agg (ao a.x)) _)
      refine ra (vals:=[a1.eval (.tmp 27)].toArray) rfl ((sf hx23).trans (by simp)) (hround (k + xs.length) a.x h1' w1 _ (hall xs.length a.x (by simp)) (by simpa using hj1.2) (.cons (fun _=>hx27) .nil)) ?_
      rintro e w3 (⟨rfl,h3,g1,g2⟩ | ⟨rfl,h3,g1,g2⟩)
      · exact ⟨_,rfl,hK' true h3 w3 g1 ⟨PH.le_trans hj1.1 g1,by simpa using g2⟩⟩
      · exact ⟨_,rfl,hK' false h3 w3 g1 ⟨PH.le_trans hj1.1 g1,by simpa using g2⟩⟩
    intro b2 h3 ρ3 w3 tb3 hk2
    refine aY.keep [0,1,2,22,28] [] (s':=⟨[(0,.b (.one (CP.tr ae (.node a l r)))),(1,.b (.one c)),(2,.b (.one (.raw (.func (.yield L) #[] #[])))),(22,B true),(28,B b2)],[]⟩) rfl ?_
    refine aY.opt 28 rfl ?_
    refine aY.cons (.inl rfl) rfl (aG (fun _=>rfl) rfl rfl rfl) ?_
    refine aY.cons (.inl rfl) rfl (aU rfl) ?_
    cases b2 with
    | false=>
      refine aY.dP (.plain (t:=30) rfl) rfl rfl rfl (.one .any) ?_
      refine aY.dP (.plain (t:=30) rfl) rfl rfl rfl (.one .any) ?_
      refine aY.dP (.plain (t:=30) rfl) rfl rfl rfl (.one .any) ?_
      refine aY.dP (.plain (t:=30) rfl) rfl rfl rfl (.one .any) ?_
      refine aY.dP (.plain (t:=30) rfl) rfl rfl rfl (.one .any) ?_
      refine aY.dP (.plain (t:=30) rfl) rfl rfl rfl (.one .any) ?_
      refine aY.dP (.plain (t:=30) rfl) rfl rfl rfl (.one (.bool true)) ?_
      refine aY.cons (.inl rfl) rfl (aG (fun e=>Bool.noConfusion e) rfl rfl rfl) ?_
      refine aY.cons (.inl rfl) rfl (bV rfl) ?_
      refine aY.nil ?_
      refine Fin.keep [6] [] (s':=⟨[(6,B false)],[]⟩) rfl ?_
      refine Fin.gg ?_ hlo
      refine aX.ret ?_
      exact hend false w3 h3 ρ3 tb3 ⟨hk2.1,hk2.2⟩
    | true=>
    refine aY.gF (.inl rfl) (.plain (t:=30) rfl) rfl rfl rfl (aU rfl) ?_
    refine aY.gF (.inl rfl) (.plain (t:=30) rfl) rfl rfl rfl (aE (z:=(a,l,r)) (qs:=ae a ++ [CP.tr ae l,CP.tr ae r]) rfl rfl rfl) ?_
    refine aY.gF (.inl rfl) (.plain (t:=30) rfl) rfl rfl rfl (aD (qs:=[CP.tr ae r]) dA rfl rfl) ?_
    refine aY.gF (.inl rfl) (.plain (t:=30) rfl) rfl rfl rfl (aw (p:=CP.tr ae r) br rfl rfl) ?_
    refine aY.gF (.inl rfl) (.plain (t:=30) rfl) rfl rfl rfl (aU rfl) ?_
    refine aY.gF (.inl rfl) (.plain (t:=30) rfl) rfl rfl rfl (aU rfl) ?_
    refine aY.stepT (.plain (t:=30) rfl) rfl rfl rfl (kv (d:=37) (Kv J Jx h (k + xs.length + 1 + zs.length)) (fun b h w hk=>hk.ok hJ hJx) rfl (by decide) ?_ ?_)
    · intro a1 w1 h1' ρ1 hw1 hs1 K' hK'
      have hj1:=hk2.go hJ hJx hw1
      have e20:a1.eval (.tmp 36) = .func (.yield L) #[] #[]:=(aJ hs1 (o:=.tmp 36) rfl:(CP.raw _).rel h1' _).1
      refine j8 (.inl rfl) rfl (fun a w h=>h) ?_
      unfold Oper.wp
      rw [iE pr a1 w1]
      show Calls Tryz.prog 78 [a1.eval (.tmp 34),a1.eval (.tmp 35),a1.eval (.tmp 36)].toArray w1 _
      rw [e20]
      refine (ihr zs (k + xs.length + 1) hzs (fun i x hi=>by rw [show k + xs.length + 1 + i = k + (xs.length + (i + 1)) by omega]; exact hall _ x (by simp [List.getElem?_append_right,hi])) h1' w1 _ _ hj1.2 (aJ hs1 (o:=.tmp 34) rfl) (aJ hs1 (o:=.tmp 35) rfl)).mono ?_
      rintro e w' ⟨b,h',rfl,hk⟩
      exact hK' b h' w' hk.1 ⟨PH.le_trans hj1.1 hk.1,hk.2⟩
    intro b3 h4 ρ4 w4 tb4 hk3
    refine aY.keep [30,37] [] (s':=⟨[(30,B true),(37,B b3)],[]⟩) rfl ?_
    refine aY.opt 37 rfl ?_
    refine aY.cons (.inl rfl) rfl (aG (fun _=>rfl) rfl rfl rfl) ?_
    refine aY.cons (.inl rfl) rfl (bV rfl) ?_
    refine aY.nil ?_
    refine Fin.keep [6] [] (s':=⟨[(6,B b3)],[]⟩) rfl ?_
    refine Fin.gg ?_ hlo
    refine aX.ret ?_
    exact hend b3 w4 h4 ρ4 tb4 (by rw [hlen]; exact hk3)
end
theorem ql {c:CP} {p:cH bc → Option Bool} (hp:rK c p) {t:cH bc} {xs:List entry} (h:se p t = some xs):Iter Tryz.prog [] 77 [CP.rp [CP.tr ae t],CP.rp [c]] (xs.map sT):=by
  intro J Jx L hJ hJx hround h0 W caps hJ0 hcaps
  cases hcaps with
  | @cons _ c1 _ _ g1 hc=>
  cases hc with
  | @cons _ c2 _ _ g2 hc2=>
  cases hc2
  refine callsIn_wide.1 (callsIn_of_wp (n:=0) (F:=Fence.wide) Tryz.func77 rfl trivial ?_)
  obtain ⟨hs0,hn0⟩:=lj (m:=8) (h:=h0) (ρ:=fun _=>.bool false) (args:=[.one (.raw (.func (.yield L) #[] #[])),.aK [CP.tr ae t],.aK [c]]) (vals:=[.func (.yield L) #[] #[],c1,c2])
    (.cons ⟨rfl,rfl⟩ (.cons g1 (.cons g2 .nil))) (Nat.le_of_ble_eq_true rfl)
  obtain ⟨hag0,htb0⟩:=(hJ 0).1 h0 W hJ0
  have hk0:Kv J Jx h0 0 true h0 W:=⟨PH.le_refl h0,by simpa using hJ0⟩
  generalize hQo:bodyPost Tryz.prog _ _ = Qo
  have hlo:¬ LetsOut Qo:=by
    rw [← hQo]
    rintro ⟨a,w,⟨v,he⟩,_⟩
    cases he
  refine (show aX Tryz.prog (⟨W,h0,fun _=>.bool false,htb0⟩:Env []) ⟨8,[],[],[]⟩ Fence.wide _ ⟨_,[]⟩ Qo from ?_) hlo _ _ (R.fresh htb0 hag0 rfl hn0 hs0)
  clear hs0 hn0
  refine aX.na (.inl rfl) ?_
  refine aY.cons (.inl rfl) rfl (aw (p:=CP.tr ae t) br rfl rfl) ?_
  refine aY.cons (.inl rfl) rfl (aw (p:=c) tS rfl rfl) ?_
  refine aY.cons (.inl rfl) rfl (aU rfl) ?_
  refine aY.stepU rfl (kv (d:=7) (Kv J Jx h0 xs.length) (fun b h w hk=>hk.ok hJ hJx) rfl (by decide) ?_ ?_)
  · intro a1 w1 h1' ρ1 hw1 hs1 K' hK'
    have hj1:=hk0.go hJ hJx hw1
    have e20:a1.eval (.tmp 6) = .func (.yield L) #[] #[]:=(aJ hs1 (o:=.tmp 6) rfl:(CP.raw _).rel h1' _).1
    refine j8 (.inl rfl) rfl (fun a w h=>h) ?_
    unfold Oper.wp
    rw [iE pr a1 w1]
    show Calls Tryz.prog 78 [a1.eval (.tmp 4),a1.eval (.tmp 5),a1.eval (.tmp 6)].toArray w1 _
    rw [e20]
    refine (qm hJ hJx hp (all:=xs) (fun k x h W vals hx=>hround k (sT x) h W vals (by rw [List.getElem?_map,hx]; rfl)) t xs 0 h (fun i x hi=>by rw [Nat.zero_add]; exact hi) h1' w1 _ _ hj1.2 (aJ hs1 (o:=.tmp 4) rfl) (aJ hs1 (o:=.tmp 5) rfl)).mono ?_
    rintro e w' ⟨b,h',rfl,hk⟩
    rw [Nat.zero_add] at hk
    exact hK' b h' w' hk.1 ⟨PH.le_trans hj1.1 hk.1,hk.2⟩
  intro b h2 ρ2 w2 tb2 hk1
  refine aY.nil ?_
  rintro a w ⟨hd,hn,h',ρ',hw,hs⟩
  have hk2:=hk1.go hJ hJx hw
  rw [← hQo]
  refine ⟨hd,.tuple #[],?_,⟨_,rfl⟩,?_⟩
  · rw [iY,show (Tryz.f77:Func).results = #[] from rfl]
    simp
  · cases b with
    | true=>exact .inl ⟨h',by rw [List.length_map]; exact hk2.2⟩
    | false=>exact .inr ⟨h',hk2.2⟩
def gy (F:Nat) (a0:bH) (b0:bH):Option bH :=
 Option.bind (iter F (dS fun a_2 x_3=>if (decide (x_3 < 3)) = true then ((a8 a_2.Lo.l x_3).bind fun x_5=>(a8 b0.Lo.l x_3).bind fun x_6=>(a8 a_2.Hi.l x_3).bind fun x_7=>(a8 b0.Hi.l x_3).bind fun x_8=>(a8 a_2.Lo.l x_3).bind fun x_9=>(a8 a_2.Hi.l x_3).bind fun x_10=>some (.inl ((⟨a_2.Lo.set x_3 (min x_5 x_6),a_2.Hi.set x_3 (max x_7 x_8)⟩:bH),IntKind.i64.wrap (x_3 + 1)))) else (some (.inr a_2))) (a0,0)) (fun a_1=>some a_1)
theorem jm {F:Nat} {a0:bH} {b0:bH} {r:bH} (h:gy F a0 b0 = some r):an Tryz.prog [] 18 [] [.agg (aj a0),.agg (aj b0)] (Is [] (.b (.agg (aj r)))):=by
 unfold gy at h
 refine an.intro 35 Tryz.func18 Tryz.ntmps18 rfl (by simp) fun E=>?_
 show ab _ E ⟨35,[],[],[]⟩ _ ⟨[(0,.b (.agg (aj a0))),(1,.b (.agg (aj b0)))],[]⟩ _
 refine ab.seq (ab.aa ?_)
 refine Oc (bI (k:=101) rfl rfl) (Oc (bI (k:=102) rfl rfl) (Oc (ba (k:=103) fm rfl) ?_))
 refine af.ai ⟨[(2,Pt 101 0),(3,Pt 102 0),(4,Pt 103 0)],[(101,.box 25 (aj a0)),(102,.box 25 (aj b0)),(103,.box 25 ((cG .i64) A3.zero ++ ((cG .i64) A3.zero)))]⟩ rfl ?_
 obtain ⟨v1,h2,h⟩:=aO h
 refine ab.dR (v:=v1) (fun (a_1:bH)=>⟨[(2,Pt 101 0),(4,Pt 103 0)],[(101,.box 25 (aj a_1)),(103,.box 25 ((cG .i64) A3.zero ++ ((cG .i64) A3.zero)))]⟩) (fun z=>z) ?_ ?_
 ·refine ab.seq (ab.aa ?_)
  refine Oc om (af.ai ⟨[(2,_),(3,_),(4,_),(6,I 0)],[(101,_),(102,_),(103,_)]⟩ rfl (ab.block (ab.c6 h2 (dS fun (a_2:bH) (x_3:Int)=>⟨[(2,Pt 101 0),(3,Pt 102 0),(4,Pt 103 0),(6,I x_3)],[(101,.box 25 (aj a_2)),(102,.box 25 (aj b0)),(103,.box 25 ((cG .i64) A3.zero ++ ((cG .i64) A3.zero)))]⟩) [2,3,4,6] [101,102,103] rfl ?_)))
  rintro ⟨a_2,x_3⟩ o3 h4 hy5
  refine ab.seq (ab.aa ?_)
  refine Oc (bf rfl rfl) (af.ai ⟨[(2,_),(3,_),(4,_),(6,_),(7,B (decide (x_3 < 3)))],[(101,_),(102,_),(103,_)]⟩ rfl (ab.seq (ab.ite h4 rfl (fun _ h4=>?_) (fun _ h4=>?_))))
  ·refine ab.skip (Fin.ag ⟨[(2,_),(3,_),(4,_),(6,_)],[(101,_),(102,_),(103,_)]⟩ rfl (Fin.then (ab.seq (ab.block (ab.seq (ab.aa ?_))))))
   refine Oc om (Oc oa ?_)
   refine af.ai ⟨[(2,_),(3,_),(4,_),(5,I x_3),(6,_)],[(101,_),(102,_),(103,_)]⟩ rfl ?_
   obtain ⟨x_5,e6,h4⟩:=aO h4
   obtain ⟨x_6,e7,h4⟩:=aO h4
   obtain ⟨x_7,e8,h4⟩:=aO h4
   obtain ⟨x_8,e9,h4⟩:=aO h4
   obtain ⟨x_9,e10,h4⟩:=aO h4
   obtain ⟨x_10,e11,h4⟩:=aO h4
   refine ab.nA mixed [false,false,false,false,false,false,false,false,false,false,false,false,false,false,false,false,false,false,false,false,false,false,true,false,false,true] [I x_3,I x_3,I x_3,Pt 101 0,.b (.ptr 101 (0 + (x_3:Int).toNat * 1)),I x_5,I x_3,Pt 102 0,.b (.ptr 102 (0 + (x_3:Int).toNat * 1)),I x_6,I (min x_5 x_6),I x_3,Pt 101 3,.b (.ptr 101 (3 + (x_3:Int).toNat * 1)),I x_7,I x_3,Pt 102 3,.b (.ptr 102 (3 + (x_3:Int).toNat * 1)),I x_8,I (max x_7 x_8),Pt 101 0,.b (.ptr 101 (0 + (x_3:Int).toNat * 1)),B true,Pt 101 3,.b (.ptr 101 (3 + (x_3:Int).toNat * 1)),B true] [⟨[false,false,false,false,false,false,false,false,false,false,false,false,false,false,false,false,false,false,false,false,false,false,false,false,false,false],[(2,Pt 101 0),(3,Pt 102 0),(4,Pt 103 0),(5,I x_3),(6,I x_3)],[(101,.box 25 (aj a_2)),(102,.box 25 (aj b0)),(103,.box 25 ((cG .i64) A3.zero ++ ((cG .i64) A3.zero)))],[true,true,true,true,true,true,true,true,true,true,true,true,true,true,true,true,true,true,true,true,true,true,true,true,true,true],[],[24,25]⟩,⟨[false,false,false,false,false,false,false,false,false,false,false,false,false,false,false,false,false,false,false,false,false,false,true,false,false,false],[(2,Pt 101 0),(3,Pt 102 0),(4,Pt 103 0),(5,I x_3),(6,I x_3)],[(101,.box 25 ((cG .i64) (a_2.Lo.set x_3 (min x_5 x_6)) ++ ((cG .i64) a_2.Hi))),(102,.box 25 (aj b0)),(103,.box 25 ((cG .i64) A3.zero ++ ((cG .i64) A3.zero)))],[true,true,true,true,true,true,true,true,true,true,true,true,true,true,true,true,true,true,true,true,true,true,true,true,true,true],[0,2,3,4,5,6,7,8,9,10,11,12,13,14,20,21,22],[]⟩,⟨[false,false,false,false,false,false,false,false,false,false,false,false,false,false,false,false,false,false,false,false,false,false,true,false,false,true],[(2,Pt 101 0),(3,Pt 102 0),(4,Pt 103 0),(5,I x_3),(6,I x_3)],[(101,.box 25 ((cG .i64) (a_2.Lo.set x_3 (min x_5 x_6)) ++ ((cG .i64) (a_2.Hi.set x_3 (max x_7 x_8))))),(102,.box 25 (aj b0)),(103,.box 25 ((cG .i64) A3.zero ++ ((cG .i64) A3.zero)))],[true,true,true,true,true,true,true,true,true,true,true,true,true,true,true,true,true,true,true,true,true,true,true,true,true,true],[0,1,2,3,4,5,6,7,8,9,10,11,12,13,14,15,16,17,18,19,20,21,22,23,24,25],[]⟩] rfl (⟨by kernel_rfl,⟨⟨I x_3,fun _=>rfl,fun _=>.p (by exact aU rfl)⟩,⟨I x_3,fun _=>rfl,fun _=>.p (by exact aU rfl)⟩,⟨I x_3,fun _=>rfl,fun _=>.p (by exact aU rfl)⟩,⟨Pt 101 0,fun _=>rfl,fun _=>.p (by exact ar ck rfl rfl)⟩,⟨.b (.ptr 101 (0 + (x_3:Int).toNat * 1)),fun _=>rfl,fun _=>.p (by exact aV bp (a7 e6) (cJ e6) rfl rfl rfl)⟩,⟨I x_5,fun _=>rfl,fun _=>.p (by exact aH aQ rfl rfl (ca (post:=((cG .i64) a_2.Hi)) (k:=.i64) [] e6 rfl rfl rfl))⟩,⟨I x_3,fun _=>rfl,fun _=>.p (by exact aU rfl)⟩,⟨Pt 102 0,fun _=>rfl,fun _=>.p (by exact ar ck rfl rfl)⟩,⟨.b (.ptr 102 (0 + (x_3:Int).toNat * 1)),fun _=>rfl,fun _=>.p (by exact aV bp (a7 e7) (cJ e7) rfl rfl rfl)⟩,⟨I x_6,fun _=>rfl,fun _=>.p (by exact aH aQ rfl rfl (ca (post:=((cG .i64) b0.Hi)) (k:=.i64) [] e7 rfl rfl rfl))⟩,⟨I (min x_5 x_6),fun _=>rfl,fun _=>.p (by exact ti rfl rfl)⟩,⟨I x_3,fun _=>rfl,fun _=>.p (by exact aU rfl)⟩,⟨Pt 101 3,fun _=>rfl,fun _=>.p (by exact ar cg rfl rfl)⟩,⟨.b (.ptr 101 (3 + (x_3:Int).toNat * 1)),fun _=>rfl,fun _=>.p (by exact aV bp (a7 e8) (cJ e8) rfl rfl rfl)⟩,⟨I x_7,fun _=>rfl,fun _=>.p (by exact aH aQ rfl rfl (ca (post:=[]) (k:=.i64) ((cG .i64) a_2.Lo) e8 rfl rfl rfl))⟩,⟨I x_3,fun _=>rfl,fun _=>.p (by exact aU rfl)⟩,⟨Pt 102 3,fun _=>rfl,fun _=>.p (by exact ar cg rfl rfl)⟩,⟨.b (.ptr 102 (3 + (x_3:Int).toNat * 1)),fun _=>rfl,fun _=>.p (by exact aV bp (a7 e9) (cJ e9) rfl rfl rfl)⟩,⟨I x_8,fun _=>rfl,fun _=>.p (by exact aH aQ rfl rfl (ca (post:=[]) (k:=.i64) ((cG .i64) b0.Lo) e9 rfl rfl rfl))⟩,⟨I (max x_7 x_8),fun _=>rfl,fun _=>.p (by exact qN rfl rfl)⟩,⟨Pt 101 0,fun _=>rfl,fun _=>.p (by exact ar ck rfl rfl)⟩,⟨.b (.ptr 101 (0 + (x_3:Int).toNat * 1)),fun _=>rfl,fun _=>.p (by exact aV bp (a7 e10) (cJ e10) rfl rfl rfl)⟩,⟨_,[],.b (.one .any),rfl,(fun e=>by simp at e),rfl,rfl,fun _=>.sM [101,102,103] (by exact .p (by exact dX aQ rfl rfl rfl (pb (post:=((cG .i64) a_2.Hi)) (k:=.i64) [] e10 rfl rfl rfl) (nh (post:=((cG .i64) a_2.Hi)) (k:=.i64) [] e10 rfl rfl (A3.pJ a_2.Lo x_3 (min x_5 x_6)) rfl rfl))) (by exact rfl)⟩,⟨Pt 101 3,fun _=>rfl,fun _=>.p (by exact ar cg rfl rfl)⟩,trivial,trivial,trivial⟩,⟨by kernel_rfl,⟨trivial,⟨I x_3,fun _=>rfl,fun _=>.p (by exact aU rfl)⟩,trivial,trivial,trivial,trivial,trivial,trivial,trivial,trivial,trivial,trivial,trivial,trivial,trivial,⟨I x_3,fun _=>rfl,fun _=>.p (by exact aU rfl)⟩,⟨Pt 102 3,fun _=>rfl,fun _=>.p (by exact ar cg rfl rfl)⟩,⟨.b (.ptr 102 (3 + (x_3:Int).toNat * 1)),fun _=>rfl,fun _=>.p (by exact aV bp (a7 e9) (cJ e9) rfl rfl rfl)⟩,⟨I x_8,fun _=>rfl,fun _=>.p (by exact aH aQ rfl rfl (ca (post:=[]) (k:=.i64) ((cG .i64) b0.Lo) e9 rfl rfl rfl))⟩,⟨I (max x_7 x_8),fun _=>rfl,fun _=>.p (by exact qN rfl rfl)⟩,trivial,trivial,trivial,⟨Pt 101 3,fun _=>rfl,fun _=>.p (by exact ar cg rfl rfl)⟩,⟨.b (.ptr 101 (3 + (x_3:Int).toNat * 1)),fun _=>rfl,fun _=>.p (by exact aV bp (a7 e11) (cJ e11) rfl rfl rfl)⟩,⟨_,[],.b (.one .any),rfl,(fun e=>by simp at e),rfl,rfl,fun _=>.sM [101,102,103] (by exact .p (by exact dX aQ rfl rfl rfl (pb (post:=[]) (k:=.i64) ((cG .i64) (a_2.Lo.set x_3 (min x_5 x_6))) e11 rfl rfl rfl) (nh (post:=[]) (k:=.i64) ((cG .i64) (a_2.Lo.set x_3 (min x_5 x_6))) e11 rfl rfl (A3.pJ a_2.Hi x_3 (max x_7 x_8)) rfl rfl))) (by exact rfl)⟩,trivial⟩,⟨by kernel_rfl,⟨trivial,trivial,trivial,trivial,trivial,trivial,trivial,trivial,trivial,trivial,trivial,trivial,trivial,trivial,trivial,trivial,trivial,trivial,trivial,trivial,trivial,trivial,trivial,trivial,trivial,trivial,trivial⟩,trivial⟩⟩⟩) rfl rfl rfl [2,3,4,6] [101,102,103] (s':=⟨[(2,_),(3,_),(4,_),(6,_)],[(101,.box 25 ((cG .i64) (a_2.Lo.set x_3 (min x_5 x_6)) ++ ((cG .i64) (a_2.Hi.set x_3 (max x_7 x_8))))),(102,_),(103,_)]⟩) rfl ?_
   refine Fin.ax (Fin.ag ⟨[(2,_),(3,_),(4,_),(6,_)],[(101,_),(102,_),(103,_)]⟩ rfl (Fin.then (ab.aa ?_)))
   refine Oc (bB rfl rfl) (Oc om ?_)
   refine af.nil ?_
   exact Fin.cq [2,3,4,6] [101,102,103] ((⟨a_2.Lo.set x_3 (min x_5 x_6),a_2.Hi.set x_3 (max x_7 x_8)⟩:bH),IntKind.i64.wrap (x_3 + 1)) (Option.some.inj h4) rfl
  ·refine ab.exit (Fin.aA ?_)
   obtain rfl:=hy5 _ (Option.some.inj h4).symm
   refine Fin.aA (Fin.aW ?_)
   exact Fin.join [2,4] [101,103] a_2 rfl rfl
 ·rintro a_1 hv
  subst v1
  refine ab.seq (ab.aa ?_)
  refine Oc (lp aC) (Oc (aF aC rfl rfl rfl rfl (Nat.le_of_ble_eq_true rfl) rfl) ?_)
  refine af.ai ⟨[(4,_)],[(103,.box 25 (aj a_1))]⟩ rfl (ab.ret ?_)
  obtain rfl:=Option.some.inj h
  refine Fin.ag ⟨[(4,_)],[(103,_)]⟩ rfl (Fin.au [.agg (aj a_1)] (.inl rfl) rfl (.cons (.agg aC rfl rfl rfl rfl) .nil) ⟨rfl,rfl⟩)
def dD (F:Nat) (s0:List bH) (f0:Nat):Option Int :=
 Option.bind (iter F (fun x_1=>if (decide (x_1 < (s0.length:Int))) = true then ((a8 s0 x_1).bind fun x_2=>(iF F f0 x_2).bind fun x_3=>if x_3 = true then (some (.inr (.inr x_1))) else (some (.inl (IntKind.i64.wrap (x_1 + 1))))) else (some (.inr (.inl ())))) 0) (cm (fun _=>some (-1)) (fun y=>some y))
theorem jt {F:Nat} {s0:List bH} {f0:Nat} {r:Int} (h:dD F s0 f0 = some r):an Tryz.prog [] 67 [] [.one (.sl 6 (s0.map aj)),.one (.raw (.func (.func f0) #[] #[]))] (Is [] (.b (.one (.i r)))):=by
 unfold dD at h
 refine an.intro 19 Tryz.func67 Tryz.ntmps67 rfl (by simp) fun E=>?_
 show ab _ E ⟨19,[],[],[]⟩ _ ⟨[(0,.b (.one (.sl 6 (s0.map aj)))),(1,.b (.one (.raw (.func (.func f0) #[] #[]))))],[]⟩ _
 refine ab.seq (ab.aa ?_)
 refine Oc oa (af.ai ⟨[(0,.b (.one (.sl 6 (s0.map aj)))),(1,.b (.one (.raw (.func (.func f0) #[] #[]))))],[]⟩ rfl ?_)
 obtain ⟨v1,h2,h⟩:=aO h
 refine ab.dR (v:=v1) (fun (_:Unit)=>⟨[],[]⟩) (fun z=>.inl z) ?_ ?_
 ·refine ab.seq (ab.aa ?_)
  refine Oc om (Oc (bj ot rfl (List.length_map _)) (Oc om ?_))
  refine af.ai ⟨[(0,_),(1,_),(7,I (s0.length:Int)),(8,I 0)],[]⟩ rfl (ab.block (ab.c6 h2 (fun (x_1:Int)=>⟨[(0,.b (.one (.sl 6 (s0.map aj)))),(1,.b (.one (.raw (.func (.func f0) #[] #[])))),(7,I (s0.length:Int)),(8,I x_1)],[]⟩) [0,1,7,8] [] rfl ?_))
  rintro x_1 o3 h4 hy5
  refine ab.seq (ab.aa ?_)
  refine Oc (bf rfl rfl) (af.ai ⟨[(0,_),(1,_),(7,_),(8,_),(9,B (decide (x_1 < (s0.length:Int))))],[]⟩ rfl (ab.seq (ab.ite h4 rfl (fun _ h4=>?_) (fun _ h4=>?_))))
  ·refine ab.skip (Fin.ag ⟨[(0,_),(1,_),(7,_),(8,_)],[]⟩ rfl (Fin.then (ab.seq (ab.block (ab.seq (ab.aa ?_))))))
   refine Oc om (Oc oa ?_)
   refine af.ai ⟨[(0,_),(1,_),(5,I x_1),(7,_),(8,_)],[]⟩ rfl (ab.seq (ab.aa ?_))
   refine Oc om (Oc om (Oc om ?_))
   obtain ⟨x_2,e6,h4⟩:=aO h4
   refine Oc (bd ig (a7 e6) (cy (e:=aj) e6) rfl rfl) (Oc (bU aC rfl rfl rfl) ?_)
   obtain ⟨x_3,e7,h4⟩:=aO h4
   refine Oc (iH (qz e7) (qA e7) rfl rfl rfl) (af.ai ⟨[(0,_),(1,_),(5,_),(7,_),(8,_),(16,B x_3)],[]⟩ rfl (ab.ite h4 rfl (fun _ h4=>?_) (fun _ h4=>?_)))
   ·refine ab.seq (ab.aa ?_)
    refine Oc om (Oc oa ?_)
    refine af.ai ⟨[(4,I x_1)],[]⟩ rfl (ab.ret (Fin.aL (Fin.aq ?_)))
    obtain rfl:=hy5 _ (Option.some.inj h4).symm
    refine Fin.aq (Fin.aL (Fin.aq ?_))
    obtain rfl:=Option.some.inj h
    refine Fin.ag ⟨[(4,_)],[]⟩ rfl (Fin.au [.one (.i x_1)] (.inl rfl) rfl (.cons (.tmp rfl) .nil) ⟨rfl,rfl⟩)
   ·refine ab.skip (Fin.ax (Fin.ag ⟨[(0,_),(1,_),(7,_),(8,_)],[]⟩ rfl (Fin.then (ab.aa ?_))))
    refine Oc (bB rfl rfl) (Oc om ?_)
    refine af.nil ?_
    exact Fin.cq [0,1,7,8] [] (IntKind.i64.wrap (x_1 + 1)) (Option.some.inj h4) rfl
  ·refine ab.exit (Fin.aA ?_)
   obtain rfl:=hy5 _ (Option.some.inj h4).symm
   refine Fin.aA (Fin.aW ?_)
   exact Fin.join [] [] () rfl rfl
 ·rintro _ hv
  subst v1
  refine ab.seq (ab.aa ?_)
  refine Oc oa (af.ai ⟨[(4,I (-1))],[]⟩ rfl (ab.ret ?_))
  obtain rfl:=Option.some.inj h
  refine Fin.ag ⟨[(4,_)],[]⟩ rfl (Fin.au [.one (.i (-1))] (.inl rfl) rfl (.cons (.tmp rfl) .nil) ⟨rfl,rfl⟩)
def cu (F:Nat) (s0:List bH) (f0:Nat):Option Bool :=
 (dD F s0 f0).bind fun x_1=>some (decide (0 ≤ x_1))
theorem iv {F:Nat} {s0:List bH} {f0:Nat} {r:Bool} (h:cu F s0 f0 = some r):an Tryz.prog [] 40 [] [.one (.sl 6 (s0.map aj)),.one (.raw (.func (.func f0) #[] #[]))] (Is [] (.b (.one (.bool r)))):=by
 unfold cu at h
 refine an.intro 9 Tryz.func40 Tryz.ntmps40 rfl (by simp) fun E=>?_
 show ab _ E ⟨9,[],[],[]⟩ _ ⟨[(0,.b (.one (.sl 6 (s0.map aj)))),(1,.b (.one (.raw (.func (.func f0) #[] #[]))))],[]⟩ _
 refine ab.seq (ab.aa ?_)
 refine Oc oa (af.ai ⟨[(0,.b (.one (.sl 6 (s0.map aj)))),(1,.b (.one (.raw (.func (.func f0) #[] #[]))))],[]⟩ rfl (ab.seq (ab.aa ?_)))
 refine Oc om (Oc om ?_)
 obtain ⟨x_1,e1,h⟩:=aO h
 refine Oc (ak (jt e1) goes67 rfl rfl) (Oc (nm rfl rfl) (Oc oa ?_))
 refine af.ai ⟨[(4,B (decide (0 ≤ x_1)))],[]⟩ rfl (ab.ret ?_)
 obtain rfl:=Option.some.inj h
 refine Fin.ag ⟨[(4,_)],[]⟩ rfl (Fin.au [.one (.bool (decide (0 ≤ x_1)))] (.inl rfl) rfl (.cons (.tmp rfl) .nil) ⟨rfl,rfl⟩)
def c4 (F:Nat) (k0:Int) (v0c:List bH) (v1c:Int):Option Bool :=
 (a8 v0c k0).bind fun x_1=>(a8 v0c v1c).bind fun x_2=>some (decide (x_1.Hi.a0 < x_2.Lo.a0))
theorem gT {F:Nat} {k0:Int} {v0c:List bH} {v1c:Int} {r:Bool} (h:c4 F k0 v0c v1c = some r):an Tryz.prog [] 46 [] [.one (.i k0),.aK [.sl 6 (v0c.map aj)],.aK [.i v1c]] (Is [] (.b (.one (.bool r)))):=by
 unfold c4 at h
 refine an.intro 18 Tryz.func46 Tryz.ntmps46 rfl (by simp) fun E=>?_
 show ab _ E ⟨18,[],[],[]⟩ _ ⟨[(0,I k0),(1,.b (.aK [.sl 6 (v0c.map aj)])),(2,.b (.aK [.i v1c]))],[]⟩ _
 refine ab.seq (ab.aa ?_)
 refine Oc oa (af.ai ⟨[(0,I k0),(1,.b (.aK [.sl 6 (v0c.map aj)])),(2,.b (.aK [.i v1c]))],[]⟩ rfl (ab.seq ?_))
 obtain ⟨x_1,e1,h⟩:=aO h
 obtain ⟨x_2,e2,h⟩:=aO h
 refine ab.bK mixed 14 [.b (.one (.sl 6 (v0c.map aj))),I k0,.b (.aK (aj x_1)),.b (.aK ((cG .i64) x_1.Hi)),.b (.aK [.i x_1.Hi.a0]),I x_1.Hi.a0,.b (.one (.sl 6 (v0c.map aj))),I v1c,.b (.aK (aj x_2)),.b (.aK (aj x_2)),.b (.aK [.i x_2.Lo.a0]),I x_2.Lo.a0,B (decide (x_1.Hi.a0 < x_2.Lo.a0)),B (decide (x_1.Hi.a0 < x_2.Lo.a0))] [4] [] (s':=⟨[(4,B (decide (x_1.Hi.a0 < x_2.Lo.a0)))],[]⟩) rfl ⟨fun _=>.p (aw j7 rfl rfl),fun _=>.p om,fun _=>.p (bd ig (a7 e1) (cy (e:=aj) e1) rfl rfl),fun _=>by exact .p (aD cg rfl rfl),fun _=>.p (mR bp (by decide) (by decide) rfl rfl rfl),fun _=>.p (aw aQ rfl rfl),fun _=>.p (aw j7 rfl rfl),fun _=>.p (aw aQ rfl rfl),fun _=>.p (bd ig (a7 e2) (cy (e:=aj) e2) rfl rfl),fun _=>by exact .p (aD ck rfl rfl),fun _=>.p (mR bp (by decide) (by decide) rfl rfl rfl),fun _=>.p (aw aQ rfl rfl),fun _=>.p (bf rfl rfl),fun _=>.p oa,trivial⟩ rfl rfl (ab.ret ?_)
 obtain rfl:=Option.some.inj h
 refine Fin.ag ⟨[(4,_)],[]⟩ rfl (Fin.au [.one (.bool (decide (x_1.Hi.a0 < x_2.Lo.a0)))] (.inl rfl) rfl (.cons (.tmp rfl) .nil) ⟨rfl,rfl⟩)
def cD (F:Nat) (s0:List Int) (f0:(List bH) × Int):Option Int :=
 Option.bind (iter F (fun x_1=>if (decide (x_1 < (s0.length:Int))) = true then ((a8 s0 x_1).bind fun x_2=>(c4 F x_2 f0.1 f0.2).bind fun x_3=>if x_3 = true then (some (.inr (.inr x_1))) else (some (.inl (IntKind.i64.wrap (x_1 + 1))))) else (some (.inr (.inl ())))) 0) (cm (fun _=>some (-1)) (fun y=>some y))
theorem iM {F:Nat} {s0:List Int} {f0:(List bH) × Int} {r:Int} (h:cD F s0 f0 = some r):an Tryz.prog [] 71 [] [.one (.sl 1 (s0.map eI)),.one (.eZ 46 [CP.rp [.sl 6 (f0.1.map aj)],CP.rp [.i f0.2]])] (Is [] (.b (.one (.i r)))):=by
 unfold cD at h
 refine an.intro 19 Tryz.func71 Tryz.ntmps71 rfl (by simp) fun E=>?_
 show ab _ E ⟨19,[],[],[]⟩ _ ⟨[(0,.b (.one (.sl 1 (s0.map eI)))),(1,.b (.one (.eZ 46 [CP.rp [.sl 6 (f0.1.map aj)],CP.rp [.i f0.2]])))],[]⟩ _
 refine ab.seq (ab.aa ?_)
 refine Oc oa (af.ai ⟨[(0,.b (.one (.sl 1 (s0.map eI)))),(1,.b (.one (.eZ 46 [CP.rp [.sl 6 (f0.1.map aj)],CP.rp [.i f0.2]])))],[]⟩ rfl ?_)
 obtain ⟨v1,h2,h⟩:=aO h
 refine ab.dR (v:=v1) (fun (_:Unit)=>⟨[],[]⟩) (fun z=>.inl z) ?_ ?_
 ·refine ab.seq (ab.aa ?_)
  refine Oc om (Oc (bj fb rfl (List.length_map _)) (Oc om ?_))
  refine af.ai ⟨[(0,_),(1,_),(7,I (s0.length:Int)),(8,I 0)],[]⟩ rfl (ab.block (ab.c6 h2 (fun (x_1:Int)=>⟨[(0,.b (.one (.sl 1 (s0.map eI)))),(1,.b (.one (.eZ 46 [CP.rp [.sl 6 (f0.1.map aj)],CP.rp [.i f0.2]]))),(7,I (s0.length:Int)),(8,I x_1)],[]⟩) [0,1,7,8] [] rfl ?_))
  rintro x_1 o3 h4 hy5
  refine ab.seq (ab.aa ?_)
  refine Oc (bf rfl rfl) (af.ai ⟨[(0,_),(1,_),(7,_),(8,_),(9,B (decide (x_1 < (s0.length:Int))))],[]⟩ rfl (ab.seq (ab.ite h4 rfl (fun _ h4=>?_) (fun _ h4=>?_))))
  ·refine ab.skip (Fin.ag ⟨[(0,_),(1,_),(7,_),(8,_)],[]⟩ rfl (Fin.then (ab.seq (ab.block (ab.seq (ab.aa ?_))))))
   refine Oc om (Oc oa ?_)
   refine af.ai ⟨[(0,_),(1,_),(5,I x_1),(7,_),(8,_)],[]⟩ rfl (ab.seq (ab.aa ?_))
   refine Oc om (Oc om (Oc om ?_))
   obtain ⟨x_2,e6,h4⟩:=aO h4
   refine Oc (bd cp (a7 e6) (cy (e:=eI) e6) rfl rfl) (Oc (aw aQ rfl rfl) ?_)
   obtain ⟨x_3,e7,h4⟩:=aO h4
   refine Oc (nB (pss:=[[.sl 6 (f0.1.map aj)],[.i f0.2]]) (gT e7) tw rfl rfl rfl trivial rfl rfl) (af.ai ⟨[(0,_),(1,_),(5,_),(7,_),(8,_),(16,B x_3)],[]⟩ rfl (ab.ite h4 rfl (fun _ h4=>?_) (fun _ h4=>?_)))
   ·refine ab.seq (ab.aa ?_)
    refine Oc om (Oc oa ?_)
    refine af.ai ⟨[(4,I x_1)],[]⟩ rfl (ab.ret (Fin.aL (Fin.aq ?_)))
    obtain rfl:=hy5 _ (Option.some.inj h4).symm
    refine Fin.aq (Fin.aL (Fin.aq ?_))
    obtain rfl:=Option.some.inj h
    refine Fin.ag ⟨[(4,_)],[]⟩ rfl (Fin.au [.one (.i x_1)] (.inl rfl) rfl (.cons (.tmp rfl) .nil) ⟨rfl,rfl⟩)
   ·refine ab.skip (Fin.ax (Fin.ag ⟨[(0,_),(1,_),(7,_),(8,_)],[]⟩ rfl (Fin.then (ab.aa ?_))))
    refine Oc (bB rfl rfl) (Oc om ?_)
    refine af.nil ?_
    exact Fin.cq [0,1,7,8] [] (IntKind.i64.wrap (x_1 + 1)) (Option.some.inj h4) rfl
  ·refine ab.exit (Fin.aA ?_)
   obtain rfl:=hy5 _ (Option.some.inj h4).symm
   refine Fin.aA (Fin.aW ?_)
   exact Fin.join [] [] () rfl rfl
 ·rintro _ hv
  subst v1
  refine ab.seq (ab.aa ?_)
  refine Oc oa (af.ai ⟨[(4,I (-1))],[]⟩ rfl (ab.ret ?_))
  obtain rfl:=Option.some.inj h
  refine Fin.ag ⟨[(4,_)],[]⟩ rfl (Fin.au [.one (.i (-1))] (.inl rfl) rfl (.cons (.tmp rfl) .nil) ⟨rfl,rfl⟩)
def cN (F:Nat) (del0:(List bH) × Int) (s0:List Int):Option (List Int) :=
 (cD F s0 (del0.1,del0.2)).bind fun x_1=>if (decide (x_1 = (-1))) = true then (some s0) else (Option.bind (iter F (sL fun s_4 i_5 j_6=>if (decide (j_6 < (s_4.length:Int))) = true then (Option.bind ((a8 s_4 j_6).bind fun x_11=>(c4 F x_11 del0.1 del0.2).bind fun x_12=>if (!x_12) = true then ((a8 s_4 i_5).bind fun x_13=>some (s_4.set (i_5:Int).toNat x_11,IntKind.i64.wrap (i_5 + 1))) else (some (s_4,i_5))) (dS fun s_9 i_10=>some (.inl (s_9,i_10,IntKind.i64.wrap (j_6 + 1))))) else (some (.inr (s_4,i_5)))) (s0,x_1,IntKind.i64.wrap (x_1 + 1))) (dS fun s_2 i_3=>Option.bind (sV (0:Int) s_2 i_3) (fun z_14=>(mH z_14 i_3).bind fun x_15=>some x_15)))
theorem jg {F:Nat} {del0:(List bH) × Int} {s0:List Int} {r:(List Int)} (h:cN F del0 s0 = some r):an Tryz.prog [] 45 [(1,.row 3 1 (s0.map eI))] [.row 1,.one (.eZ 46 [CP.rp [.sl 6 (del0.1.map aj)],CP.rp [.i del0.2]])] (Is [(1,.row 3 1 (r.map eI))] (.b (.row 1))):=by
 unfold cN at h
 refine an.intro 42 Tryz.func45 Tryz.ntmps45 rfl (by simp) fun E=>?_
 show ab _ E ⟨42,[],[1],[]⟩ _ ⟨[(0,.b (.row 1)),(1,.b (.one (.eZ 46 [CP.rp [.sl 6 (del0.1.map aj)],CP.rp [.i del0.2]])))],[(1,.row 3 1 (s0.map eI))]⟩ _
 refine ab.seq (ab.aa ?_)
 refine Oc oa (af.ai ⟨[(0,.b (.row 1)),(1,.b (.one (.eZ 46 [CP.rp [.sl 6 (del0.1.map aj)],CP.rp [.i del0.2]])))],[(1,.row 3 1 (s0.map eI))]⟩ rfl (ab.seq (ab.aa ?_)))
 refine Oc om (Oc om ?_)
 obtain ⟨x_1,e1,h⟩:=aO h
 refine Oc (iC (iM e1) goes71 rfl CP.qb) (Oc oa ?_)
 refine af.ai ⟨[(0,_),(1,_),(5,I x_1)],[(1,_)]⟩ rfl (ab.seq (ab.seq (ab.aa ?_)))
 refine Oc om (Oc (dy rfl rfl) ?_)
 refine af.ai ⟨[(0,_),(1,_),(5,_),(12,B (decide (x_1 = (-1))))],[(1,_)]⟩ rfl (ab.ite h rfl (fun _ h=>?_) (fun _ h=>?_))
 ·refine ab.seq (ab.aa ?_)
  refine Oc om (Oc oa ?_)
  refine af.ai ⟨[(4,.b (.row 1))],[(1,_)]⟩ rfl (ab.ret (Fin.aq ?_))
  obtain rfl:=Option.some.inj h
  refine Fin.ag ⟨[(4,_)],[(1,_)]⟩ rfl ?_
  exact Fin.result [.row 1] (.inl rfl) rfl (.cons (.tmp rfl) .nil) ⟨rfl,rfl⟩
 ·refine ab.skip (Fin.ag ⟨[(0,_),(1,_),(5,_)],[(1,_)]⟩ rfl (Fin.then ?_))
  obtain ⟨v2,h3,h⟩:=aO h
  refine ab.dR (v:=v2) (dS fun (s_2:List Int) (i_3:Int)=>⟨[(0,.b (.row 1)),(5,I i_3)],[(1,.row 3 1 (s_2.map eI))]⟩) (fun z=>z) ?_ ?_
  ·refine ab.seq (ab.aa ?_)
   refine Oc om (Oc (bB rfl rfl) (Oc oa ?_))
   refine af.ai ⟨[(0,_),(1,_),(5,_),(6,I (IntKind.i64.wrap (x_1 + 1)))],[(1,_)]⟩ rfl (ab.block (ab.c6 h3 (sL fun (s_4:List Int) (i_5:Int) (j_6:Int)=>⟨[(0,.b (.row 1)),(1,.b (.one (.eZ 46 [CP.rp [.sl 6 (del0.1.map aj)],CP.rp [.i del0.2]]))),(5,I i_5),(6,I j_6)],[(1,.row 3 1 (s_4.map eI))]⟩) [0,1,5,6] [1] rfl ?_))
   rintro ⟨s_4,i_5,j_6⟩ o4 h5 hy6
   refine ab.seq (ab.seq (ab.aa ?_))
   refine Oc om (Oc om (Oc (eQ fb rfl rfl (List.length_map _)) (Oc (bf rfl rfl) ?_)))
   refine af.ai ⟨[(0,_),(1,_),(5,_),(6,_),(19,B (decide (j_6 < (s_4.length:Int))))],[(1,_)]⟩ rfl (ab.ite h5 rfl (fun _ h5=>?_) (fun _ h5=>?_))
   ·refine ab.skip (Fin.ag ⟨[(0,_),(1,_),(5,_),(6,_)],[(1,_)]⟩ rfl (Fin.then ?_))
    obtain ⟨v7,h8,h5⟩:=aO h5
    refine ab.dR (v:=v7) (dS fun (s_9:List Int) (i_10:Int)=>⟨[(0,.b (.row 1)),(1,.b (.one (.eZ 46 [CP.rp [.sl 6 (del0.1.map aj)],CP.rp [.i del0.2]]))),(5,I i_10),(6,I j_6)],[(1,.row 3 1 (s_9.map eI))]⟩) (fun z=>z) ?_ ?_
    ·refine ab.block (ab.seq (ab.aa ?_))
     refine Oc om (Oc om ?_)
     obtain ⟨x_11,e9,h8⟩:=aO h8
     refine Oc (dC cp (a7 e9) (iQ e9) rfl rfl rfl rfl) (Oc (fD (i:=(j_6:Int).toNat) (f:=0) aQ rfl rfl rfl (cy (e:=eI) e9) rfl) (Oc oa ?_))
     refine af.ai ⟨[(0,_),(1,_),(5,_),(6,_),(7,I x_11)],[(1,_)]⟩ rfl (ab.seq (ab.aa ?_))
     refine Oc om (Oc om ?_)
     obtain ⟨x_12,e10,h8⟩:=aO h8
     refine Oc (nB (pss:=[[.sl 6 (del0.1.map aj)],[.i del0.2]]) (gT e10) tw rfl rfl rfl trivial rfl rfl) (Oc (dU rfl) ?_)
     refine af.ai ⟨[(0,_),(1,_),(5,_),(6,_),(7,_),(29,B (!x_12))],[(1,_)]⟩ rfl (ab.ite h8 rfl (fun _ h8=>?_) (fun _ h8=>?_))
     ·refine ab.seq (ab.aa ?_)
      refine Oc om (Oc om (Oc om ?_))
      obtain ⟨x_13,e11,h8⟩:=aO h8
      refine Oc (dC cp (a7 e11) (iQ e11) rfl rfl rfl rfl) (Oc (jP (i:=(i_5:Int).toNat) aQ rfl rfl rfl rfl (s5 e11) (map_set _ _ _ _)) ?_)
      refine af.ai ⟨[(0,_),(1,_),(5,_),(6,_)],[(1,.row 3 1 ((s_4.set (i_5:Int).toNat x_11).map eI))]⟩ rfl (ab.aa (Oc om (Oc (bB rfl rfl) (Oc oa ?_))))
      refine af.nil (Fin.ax ?_)
      exact Fin.join [0,1,5,6] [1] (s_4.set (i_5:Int).toNat x_11,IntKind.i64.wrap (i_5 + 1)) (Option.some.inj h8) rfl
     ·refine ab.skip (Fin.ax ?_)
      exact Fin.join [0,1,5,6] [1] (s_4,i_5) (Option.some.inj h8) rfl
    ·rintro ⟨s_9,i_10⟩ hv
     subst v7
     refine ab.aa (Oc om (Oc (bB rfl rfl) (Oc oa ?_)))
     refine af.nil ?_
     exact Fin.cq [0,1,5,6] [1] (s_9,i_10,IntKind.i64.wrap (j_6 + 1)) (Option.some.inj h5) rfl
   ·refine ab.exit (Fin.aA ?_)
    obtain rfl:=hy6 _ (Option.some.inj h5).symm
    refine Fin.aA (Fin.aW ?_)
    exact Fin.join [0,5] [1] (s_4,i_5) rfl rfl
  ·rintro ⟨s_2,i_3⟩ hv
   subst v2
   refine ab.seq (ab.aa ?_)
   refine Oc om (Oc om ?_)
   obtain ⟨z_14,e12,h⟩:=aO h
   refine af.clr (enc:=eI) cp rfl e12 rfl rfl rfl (by decide) rfl (af.ai ⟨[(0,_),(5,_)],[(1,.row 3 1 (z_14.map eI))]⟩ rfl (ab.seq (ab.aa ?_)))
   refine Oc om (Oc om ?_)
   obtain ⟨x_15,e13,h⟩:=aO h
   refine Oc (kM cp e13 rfl rfl rfl rfl) (Oc oa ?_)
   refine af.ai ⟨[(4,.b (.row 1))],[(1,.row 3 1 (x_15.map eI))]⟩ rfl (ab.ret ?_)
   obtain rfl:=Option.some.inj h
   refine Fin.ag ⟨[(4,_)],[(1,_)]⟩ rfl ?_
   exact Fin.result [.row 1] (.inl rfl) rfl (.cons (.tmp rfl) .nil) ⟨rfl,rfl⟩
def c8 (F:Nat) (l0:List A2):Option (List A2) :=
 (cU F l0).bind fun x_1=>some x_1
theorem j6 {F:Nat} {l0:List A2} {r:(List A2)} (h:c8 F l0 = some r):an Tryz.prog [] 47 [(1,.dw 40 2 (l0.map (dv .i64)))] [.row 1] (Is [(1,.dw 40 2 (r.map (dv .i64)))] (.eu [])):=by
 unfold c8 at h
 refine an.intro 4 Tryz.func47 Tryz.ntmps47 rfl (by simp) fun E=>?_
 show ab _ E ⟨4,[1],[1],[]⟩ _ ⟨[(0,.b (.row 1))],[(1,.dw 40 2 (l0.map (dv .i64)))]⟩ _
 refine ab.sb 1 rfl (ab.aa (Oc om (af.sc 1 rfl ?_)))
 obtain ⟨x_1,e1,h⟩:=aO h
 refine Oc (cW (own_a:=[(1,_)]) (js e1) goes72 rfl ⟨rfl,trivial⟩ rfl rfl) (af.sb 1 rfl (af.nil ?_))
 obtain rfl:=Option.some.inj h
 refine Fin.ag ⟨[],[(1,.row 40 2 (x_1.map (dv .i64)))]⟩ rfl (Fin.sc 1 rfl (Fin.ag ⟨[],[(1,.dw 40 2 (x_1.map (dv .i64)))]⟩ rfl ?_))
 exact Fin.result [] (.inr rfl) rfl (.nil) ⟨rfl,rfl⟩
def cP (F:Nat) (l0:List bH):Option ((List A2) × Int) :=
 (cu F l0 41).bind fun x_1=>if x_1 = true then (some ([],1)) else (Option.bind (mk? (0:Int) (l0.length:Int) (l0.length:Int)) (fun x_2=>Option.bind (iter F (dS fun order_4 x_5=>if (decide (x_5 < (x_2.length:Int))) = true then ((a8 order_4 x_5).bind fun x_7=>some (.inl (order_4.set (x_5:Int).toNat x_5,IntKind.i64.wrap (x_5 + 1)))) else (some (.inr order_4))) (x_2,0)) (fun order_3=>(dQ F l0 order_3).bind fun x_8=>Option.bind (iter F (sL fun active_10 out_11 x_12=>if (decide (x_12 < (x_8.length:Int))) = true then (Option.bind ((a8 x_8 x_12).bind fun x_16=>(cN F (l0,x_16) active_10).bind fun x_17=>Option.bind (iter F (dS fun out_19 x_20=>if (decide (x_20 < (x_17.length:Int))) = true then (Option.bind ((a8 x_17 x_20).bind fun x_23=>(a8 l0 x_16).bind fun x_24=>(a8 l0 x_23).bind fun x_25=>(b4 F x_24 x_25).bind fun x_26=>if x_26 = true then ((jy out_19 [(⟨min x_16 x_23,max x_16 x_23⟩:A2)]).bind fun x_27=>some x_27) else (some out_19)) (fun out_22=>some (.inl (out_22,IntKind.i64.wrap (x_20 + 1))))) else (some (.inr out_19))) (out_11,0)) (fun out_18=>(jy x_17 [x_16]).bind fun x_28=>some (x_28,out_18))) (dS fun active_14 out_15=>some (.inl (active_14,out_15,IntKind.i64.wrap (x_12 + 1))))) else (some (.inr out_11))) ([],[],0)) (fun out_9=>(c8 F out_9).bind fun x_29=>some (x_29,0)))))
theorem fG (kr0:Nat) {F:Nat} {l0:List bH} {r:(List A2) × Int} (h:cP F l0 = some r):an Tryz.prog [] 20 [] [.one (.sl 6 (l0.map aj))] (Is [(kr0,.row 40 2 (r.1.map (dv .i64)))] (.eu [.row kr0,.one (.i r.2)])):=by
 unfold cP at h
 refine an.intro 73 Tryz.func20 Tryz.ntmps20 rfl (by simp) fun E=>?_
 show ab _ E ⟨73,[],[],[]⟩ _ ⟨[(0,.b (.one (.sl 6 (l0.map aj))))],[]⟩ _
 refine ab.seq (ab.aa ?_)
 refine Oc (pj rfl) (Oc oa (Oc oa ?_))
 refine af.ai ⟨[(1,.b (.aK [.sl 6 (l0.map aj)]))],[]⟩ rfl (ab.seq (ab.seq (ab.aa ?_)))
 refine Oc (aw j7 rfl rfl) ?_
 obtain ⟨x_1,e1,h⟩:=aO h
 refine Oc (ak (iv e1) goes40 rfl rfl) (af.ai ⟨[(1,_),(13,B x_1)],[]⟩ rfl (ab.ite h rfl (fun _ h=>?_) (fun _ h=>?_)))
 ·refine ab.seq (ab.aa ?_)
  refine Oc oa (Oc oa ?_)
  refine af.ai ⟨[(2,.b (.one (.nil))),(3,I 1)],[]⟩ rfl (ab.ret (Fin.aq ?_))
  obtain rfl:=Option.some.inj h
  refine Fin.ag ⟨[(2,_),(3,_)],[]⟩ rfl (Fin.eE 2 101 2 40 rfl (by decide) rfl (Fin.iT 101 kr0 [.row 101,.one (.i 1)] (.inl rfl) rfl (.cons (.tmp rfl) (.cons (.tmp rfl) .nil)) rfl rfl rfl rfl ⟨rfl,rfl⟩))
 ·refine ab.skip (Fin.ag ⟨[(1,_)],[]⟩ rfl (Fin.then (ab.seq (ab.aa ?_))))
  refine Oc (aw j7 rfl rfl) (Oc (bj ot rfl (List.length_map _)) ?_)
  obtain ⟨x_2,e2,h⟩:=aO h
  refine Oc (px (k:=102) (enc:=eI) cp e2 (by decide) (.cons .refl .nil) rfl rfl rfl) (Oc oa ?_)
  refine af.ai ⟨[(1,_),(4,.b (.row 102))],[(102,.row 3 1 (x_2.map eI))]⟩ rfl ?_
  obtain ⟨v3,h4,h⟩:=aO h
  refine ab.dR (v:=v3) (fun (order_3:List Int)=>⟨[(1,.b (.aK [.sl 6 (l0.map aj)])),(4,.b (.row 102))],[(102,.row 3 1 (order_3.map eI))]⟩) (fun z=>z) ?_ ?_
  ·refine ab.seq (ab.aa ?_)
   refine Oc om (Oc (eQ fb rfl rfl (List.length_map _)) (Oc om ?_))
   refine af.ai ⟨[(1,_),(4,_),(18,I (x_2.length:Int)),(19,I 0)],[(102,_)]⟩ rfl (ab.block (ab.c6 h4 (dS fun (order_4:List Int) (x_5:Int)=>⟨[(1,.b (.aK [.sl 6 (l0.map aj)])),(4,.b (.row 102)),(18,I (x_2.length:Int)),(19,I x_5)],[(102,.row 3 1 (order_4.map eI))]⟩) [1,4,18,19] [102] rfl ?_))
   rintro ⟨order_4,x_5⟩ o5 h6 hy7
   refine ab.seq (ab.aa ?_)
   refine Oc (bf rfl rfl) (af.ai ⟨[(1,_),(4,_),(18,_),(19,_),(20,B (decide (x_5 < (x_2.length:Int))))],[(102,_)]⟩ rfl (ab.seq (ab.ite h6 rfl (fun _ h6=>?_) (fun _ h6=>?_))))
   ·refine ab.skip (Fin.ag ⟨[(1,_),(4,_),(18,_),(19,_)],[(102,_)]⟩ rfl (Fin.then (ab.seq (ab.block (ab.seq (ab.aa ?_))))))
    refine Oc om (Oc oa ?_)
    refine af.ai ⟨[(1,_),(4,_),(5,I x_5),(18,_),(19,_)],[(102,_)]⟩ rfl (ab.aa (Oc om (Oc om (Oc om ?_))))
    obtain ⟨x_7,e8,h6⟩:=aO h6
    refine Oc (dC cp (a7 e8) (iQ e8) rfl rfl rfl rfl) (Oc (jP (i:=(x_5:Int).toNat) aQ rfl rfl rfl rfl (s5 e8) (map_set _ _ _ _)) ?_)
    refine af.nil (Fin.ax (Fin.ag ⟨[(1,_),(4,_),(18,_),(19,_)],[(102,.row 3 1 ((order_4.set (x_5:Int).toNat x_5).map eI))]⟩ rfl (Fin.then (ab.aa ?_))))
    refine Oc (bB rfl rfl) (Oc om ?_)
    refine af.nil ?_
    exact Fin.cq [1,4,18,19] [102] (order_4.set (x_5:Int).toNat x_5,IntKind.i64.wrap (x_5 + 1)) (Option.some.inj h6) rfl
   ·refine ab.exit (Fin.aA ?_)
    obtain rfl:=hy7 _ (Option.some.inj h6).symm
    refine Fin.aA (Fin.aW ?_)
    exact Fin.join [1,4] [102] order_4 rfl rfl
  ·rintro order_3 hv
   subst v3
   refine ab.seq (ab.aa ?_)
   refine Oc om (Oc (gw rfl) ?_)
   refine af.sc 102 rfl ?_
   obtain ⟨x_8,e9,h⟩:=aO h
   refine Oc (cW (own_a:=[(102,_)]) ((jY e9).sw 1 102) goes42 rfl ⟨rfl,trivial⟩ rfl rfl) (af.sb 102 rfl (af.ai ⟨[(1,_),(4,_)],[(102,.row 3 1 (x_8.map eI))]⟩ rfl (ab.seq (ab.aa ?_))))
   refine Oc oa (af.ai ⟨[(1,_),(4,_),(6,.b (.one (.nil)))],[(102,_)]⟩ rfl (ab.seq (ab.aa ?_)))
   refine Oc oa (af.ai ⟨[(1,_),(4,_),(6,_),(7,.b (.one (.nil)))],[(102,_)]⟩ rfl ?_)
   obtain ⟨v10,h11,h⟩:=aO h
   refine ab.dR (v:=v10) (fun (out_9:List A2)=>⟨[(7,.b (.row 106))],[(106,.row 40 2 (out_9.map (dv .i64)))]⟩) (fun z=>z) ?_ ?_
   ·refine ab.seq (ab.aa ?_)
    refine Oc om (Oc (eQ fb rfl rfl (List.length_map _)) (Oc om ?_))
    refine af.ai ⟨[(1,_),(6,_),(7,_),(30,.b (.row 102)),(31,I (x_8.length:Int)),(32,I 0)],[(102,_)]⟩ rfl (ab.block (ab.eE 6 104 1 3 rfl (by decide) rfl (ab.eE 7 106 2 40 rfl (by decide) rfl (ab.c6 h11 (sL fun (active_10:List Int) (out_11:List A2) (x_12:Int)=>⟨[(1,.b (.aK [.sl 6 (l0.map aj)])),(6,.b (.row 104)),(7,.b (.row 106)),(30,.b (.row 102)),(31,I (x_8.length:Int)),(32,I x_12)],[(102,.row 3 1 (x_8.map eI)),(104,.row 3 1 (active_10.map eI)),(106,.row 40 2 (out_11.map (dv .i64)))]⟩) [1,6,7,30,31,32] [102,104,106] rfl ?_))))
    rintro ⟨active_10,out_11,x_12⟩ o12 h13 hy14
    refine ab.seq (ab.aa ?_)
    refine Oc (bf rfl rfl) (af.ai ⟨[(1,_),(6,_),(7,_),(30,_),(31,_),(32,_),(33,B (decide (x_12 < (x_8.length:Int))))],[(102,_),(104,_),(106,_)]⟩ rfl (ab.seq (ab.ite h13 rfl (fun _ h13=>?_) (fun _ h13=>?_))))
    ·refine ab.skip (Fin.ag ⟨[(1,_),(6,_),(7,_),(30,_),(31,_),(32,_)],[(102,_),(104,_),(106,_)]⟩ rfl (Fin.then ?_))
     obtain ⟨v15,h16,h13⟩:=aO h13
     refine ab.dR (v:=v15) (dS fun (active_14:List Int) (out_15:List A2)=>⟨[(1,.b (.aK [.sl 6 (l0.map aj)])),(6,.b (.row 104)),(7,.b (.row 106)),(30,.b (.row 102)),(31,I (x_8.length:Int)),(32,I x_12)],[(102,.row 3 1 (x_8.map eI)),(104,.row 3 1 (active_14.map eI)),(106,.row 40 2 (out_15.map (dv .i64)))]⟩) (fun z=>z) ?_ ?_
     ·refine ab.block (ab.seq (ab.aa ?_))
      obtain ⟨x_16,e17,h16⟩:=aO h16
      refine Oc (dC cp (a7 e17) (iQ e17) rfl rfl rfl rfl) (Oc (fD (i:=(x_12:Int).toNat) (f:=0) aQ rfl rfl rfl (cy (e:=eI) e17) rfl) (Oc (ba (k:=107) tyZero3 rfl) (Oc (dX aQ rfl rfl rfl (Nat.le_of_ble_eq_true rfl) rfl) ?_)))
      refine af.fR 107 rfl (af.ai ⟨[(1,_),(6,_),(7,_),(9,.b (.aK [.i x_16])),(30,_),(31,_),(32,_)],[(102,_),(104,_),(106,_)]⟩ rfl (ab.seq (ab.aa ?_)))
      refine Oc om (Oc (gw rfl) ?_)
      obtain ⟨x_17,e18,h16⟩:=aO h16
      refine Oc (cW (own_a:=[(104,_)]) ((jg e18).sw 1 104) goes45 rfl ⟨rfl,trivial⟩ rfl rfl) (Oc oa ?_)
      refine af.ai ⟨[(1,_),(6,_),(7,_),(9,_),(30,_),(31,_),(32,_)],[(102,_),(104,.row 3 1 (x_17.map eI)),(106,_)]⟩ rfl ?_
      obtain ⟨v19,h20,h16⟩:=aO h16
      refine ab.dR (v:=v19) (fun (out_18:List A2)=>⟨[(1,.b (.aK [.sl 6 (l0.map aj)])),(6,.b (.row 104)),(7,.b (.row 106)),(9,.b (.aK [.i x_16])),(30,.b (.row 102)),(31,I (x_8.length:Int)),(32,I x_12)],[(102,.row 3 1 (x_8.map eI)),(104,.row 3 1 (x_17.map eI)),(106,.row 40 2 (out_18.map (dv .i64)))]⟩) (fun z=>z) ?_ ?_
      ·refine ab.seq (ab.aa ?_)
       refine Oc om (Oc (eQ fb rfl rfl (List.length_map _)) (Oc om ?_))
       refine af.ai ⟨[(1,_),(6,_),(7,_),(9,_),(30,_),(31,_),(32,_),(39,.b (.row 104)),(40,I (x_17.length:Int)),(41,I 0)],[(102,_),(104,_),(106,_)]⟩ rfl (ab.block (ab.c6 h20 (dS fun (out_19:List A2) (x_20:Int)=>⟨[(1,.b (.aK [.sl 6 (l0.map aj)])),(6,.b (.row 104)),(7,.b (.row 106)),(9,.b (.aK [.i x_16])),(30,.b (.row 102)),(31,I (x_8.length:Int)),(32,I x_12),(39,.b (.row 104)),(40,I (x_17.length:Int)),(41,I x_20)],[(102,.row 3 1 (x_8.map eI)),(104,.row 3 1 (x_17.map eI)),(106,.row 40 2 (out_19.map (dv .i64)))]⟩) [1,6,7,9,30,31,32,39,40,41] [102,104,106] rfl ?_))
       rintro ⟨out_19,x_20⟩ o21 h22 hy23
       refine ab.seq (ab.aa ?_)
       refine Oc (bf rfl rfl) (af.ai ⟨[(1,_),(6,_),(7,_),(9,_),(30,_),(31,_),(32,_),(39,_),(40,_),(41,_),(42,B (decide (x_20 < (x_17.length:Int))))],[(102,_),(104,_),(106,_)]⟩ rfl (ab.seq (ab.ite h22 rfl (fun _ h22=>?_) (fun _ h22=>?_))))
       ·refine ab.skip (Fin.ag ⟨[(1,_),(6,_),(7,_),(9,_),(30,_),(31,_),(32,_),(39,_),(40,_),(41,_)],[(102,_),(104,_),(106,_)]⟩ rfl (Fin.then ?_))
        obtain ⟨v24,h25,h22⟩:=aO h22
        refine ab.dR (v:=v24) (fun (out_22:List A2)=>⟨[(1,.b (.aK [.sl 6 (l0.map aj)])),(6,.b (.row 104)),(7,.b (.row 106)),(9,.b (.aK [.i x_16])),(30,.b (.row 102)),(31,I (x_8.length:Int)),(32,I x_12),(39,.b (.row 104)),(40,I (x_17.length:Int)),(41,I x_20)],[(102,.row 3 1 (x_8.map eI)),(104,.row 3 1 (x_17.map eI)),(106,.row 40 2 (out_22.map (dv .i64)))]⟩) (fun z=>z) ?_ ?_
        ·refine ab.block (ab.seq (ab.aa ?_))
         obtain ⟨x_23,e26,h25⟩:=aO h25
         refine Oc (dC cp (a7 e26) (iQ e26) rfl rfl rfl rfl) (Oc (fD (i:=(x_20:Int).toNat) (f:=0) aQ rfl rfl rfl (cy (e:=eI) e26) rfl) (Oc oa ?_))
         refine af.ai ⟨[(1,_),(6,_),(7,_),(9,_),(11,I x_23),(30,_),(31,_),(32,_),(39,_),(40,_),(41,_)],[(102,_),(104,_),(106,_)]⟩ rfl (ab.seq ?_)
         obtain ⟨x_24,e27,h25⟩:=aO h25
         obtain ⟨x_25,e28,h25⟩:=aO h25
         obtain ⟨x_26,e29,h25⟩:=aO h25
         refine ab.bK mixed 9 [.b (.one (.sl 6 (l0.map aj))),I x_16,.b (.aK (aj x_24)),.b (.agg (aj x_24)),.b (.one (.sl 6 (l0.map aj))),I x_23,.b (.aK (aj x_25)),.b (.agg (aj x_25)),B x_26] [1,6,7,9,11,30,31,32,39,40,41,53] [102,104,106] (s':=⟨[(1,_),(6,_),(7,_),(9,_),(11,_),(30,_),(31,_),(32,_),(39,_),(40,_),(41,_),(53,B x_26)],[(102,_),(104,_),(106,_)]⟩) rfl ⟨fun _=>.p (aw j7 rfl rfl),fun _=>.p (aw aQ rfl rfl),fun _=>.p (bd ig (a7 e27) (cy (e:=aj) e27) rfl rfl),fun _=>.p (bU aC rfl rfl rfl),fun _=>.p (aw j7 rfl rfl),fun _=>.p om,fun _=>.p (bd ig (a7 e28) (cy (e:=aj) e28) rfl rfl),fun _=>.p (bU aC rfl rfl rfl),fun _=>.p (ak (c5 e29) lX rfl rfl),trivial⟩ rfl rfl (ab.ite h25 rfl (fun _ h25=>?_) (fun _ h25=>?_))
         ·refine ab.aa (Oc om (Oc (aw aQ rfl rfl) (Oc om (Oc (ti rfl rfl) (Oc (aw aQ rfl rfl) (Oc om ?_))))))
          refine af.ag ⟨[(1,_),(6,_),(7,_),(9,_),(30,_),(31,_),(32,_),(39,_),(40,_),(41,_),(54,.b (.row 106)),(57,I (min x_16 x_23)),(58,I x_16),(59,I x_23)],[(102,_),(104,_),(106,_)]⟩ rfl (Oc (qN rfl rfl) (Oc (di ef rfl rfl) (Oc (b9 (k:=108) (es:=[(⟨min x_16 x_23,max x_16 x_23⟩:A2)].map (dv .i64)) fY rfl rfl (cB fun _=>rfl) rfl (by decide) (by decide) rfl) ?_)))
          obtain ⟨x_27,e30,h25⟩:=aO h25
          refine Oc (eV fY (oA e30) (oz e30) rfl rfl rfl rfl (kh e30) rfl) (Oc oa ?_)
          refine af.nil (Fin.ax ?_)
          exact Fin.join [1,6,7,9,30,31,32,39,40,41] [102,104,106] x_27 (Option.some.inj h25) rfl
         ·refine ab.skip (Fin.ax ?_)
          exact Fin.join [1,6,7,9,30,31,32,39,40,41] [102,104,106] out_19 (Option.some.inj h25) rfl
        ·rintro out_22 hv
         subst v24
         refine ab.aa (Oc (bB rfl rfl) (Oc om ?_))
         refine af.nil ?_
         exact Fin.cq [1,6,7,9,30,31,32,39,40,41] [102,104,106] (out_22,IntKind.i64.wrap (x_20 + 1)) (Option.some.inj h22) rfl
       ·refine ab.exit (Fin.aA ?_)
        obtain rfl:=hy23 _ (Option.some.inj h22).symm
        refine Fin.aA (Fin.aW ?_)
        exact Fin.join [1,6,7,9,30,31,32] [102,104,106] out_19 rfl rfl
      ·rintro out_18 hv
       subst v19
       refine ab.aa (Oc om (Oc (aw aQ rfl rfl) (Oc (b9 (k:=109) (es:=[x_16].map eI) cp rfl rfl (cB fun _=>rfl) rfl (by decide) (by decide) rfl) ?_)))
       obtain ⟨x_28,e31,h16⟩:=aO h16
       refine Oc (eV cp (oA e31) (oz e31) rfl rfl rfl rfl (kh e31) rfl) (Oc oa ?_)
       refine af.nil (Fin.ax ?_)
       exact Fin.join [1,6,7,30,31,32] [102,104,106] (x_28,out_18) (Option.some.inj h16) rfl
     ·rintro ⟨active_14,out_15⟩ hv
      subst v15
      refine ab.aa (Oc (bB rfl rfl) (Oc om ?_))
      refine af.nil ?_
      exact Fin.cq [1,6,7,30,31,32] [102,104,106] (active_14,out_15,IntKind.i64.wrap (x_12 + 1)) (Option.some.inj h13) rfl
    ·refine ab.exit (Fin.aA ?_)
     obtain rfl:=hy14 _ (Option.some.inj h13).symm
     refine Fin.aA (Fin.aW ?_)
     exact Fin.join [7] [106] out_11 rfl rfl
   ·rintro out_9 hv
    subst v10
    refine ab.seq (ab.aa ?_)
    refine Oc om (af.sc 106 rfl ?_)
    obtain ⟨x_29,e32,h⟩:=aO h
    refine Oc (cW (own_a:=[(106,_)]) ((j6 e32).sw 1 106) goes47 rfl ⟨rfl,trivial⟩ rfl rfl) (af.sb 106 rfl (af.ai ⟨[(7,_)],[(106,.row 40 2 (x_29.map (dv .i64)))]⟩ rfl (ab.seq (ab.aa ?_))))
    refine Oc om (Oc oa (Oc oa ?_))
    refine af.ai ⟨[(2,.b (.row 106)),(3,I 0)],[(106,_)]⟩ rfl (ab.ret ?_)
    obtain rfl:=Option.some.inj h
    refine Fin.ag ⟨[(2,_),(3,_)],[(106,_)]⟩ rfl (Fin.iT 106 kr0 [.row 106,.one (.i 0)] (.inl rfl) rfl (.cons (.tmp rfl) (.cons (.tmp rfl) .nil)) rfl rfl rfl rfl ⟨rfl,rfl⟩)
def a6 (F:Nat) (a0:List A2) (b0:List A2):Option Bool :=
 if (decide ((a0.length:Int) ≠ (b0.length:Int))) = true then (some false) else (Option.bind (iter F (fun i_1=>if (decide (i_1 < (a0.length:Int))) = true then ((a8 a0 i_1).bind fun x_2=>(a8 b0 i_1).bind fun x_3=>if (decide (x_2 ≠ x_3)) = true then (some (.inr (.inr false))) else (some (.inl (IntKind.i64.wrap (i_1 + 1))))) else (some (.inr (.inl ())))) 0) (cm (fun _=>some true) (fun y=>some y)))
theorem b6 {F:Nat} {a0:List A2} {b0:List A2} {r:Bool} (h:a6 F a0 b0 = some r):an Tryz.prog [] 22 [] [.one (.sl 2 (a0.map (dv .i64))),.one (.sl 2 (b0.map (dv .i64)))] (Is [] (.b (.one (.bool r)))):=by
 unfold a6 at h
 refine an.intro 26 Tryz.func22 Tryz.ntmps22 rfl (by simp) fun E=>?_
 show ab _ E ⟨26,[],[],[]⟩ _ ⟨[(0,.b (.one (.sl 2 (a0.map (dv .i64))))),(1,.b (.one (.sl 2 (b0.map (dv .i64)))))],[]⟩ _
 refine ab.seq (ab.aa ?_)
 refine Oc oa (af.ai ⟨[(0,.b (.one (.sl 2 (a0.map (dv .i64))))),(1,.b (.one (.sl 2 (b0.map (dv .i64)))))],[]⟩ rfl (ab.seq (ab.seq (ab.aa ?_))))
 refine Oc om (Oc (bj rA rfl (List.length_map _)) (Oc om (Oc (bj rA rfl (List.length_map _)) (Oc (kY rfl rfl) ?_))))
 refine af.ai ⟨[(0,_),(1,_),(10,B (decide ((a0.length:Int) ≠ (b0.length:Int))))],[]⟩ rfl (ab.ite h rfl (fun _ h=>?_) (fun _ h=>?_))
 ·refine ab.seq (ab.aa ?_)
  refine Oc oa (af.ai ⟨[(4,B false)],[]⟩ rfl (ab.ret (Fin.aq ?_)))
  obtain rfl:=Option.some.inj h
  refine Fin.ag ⟨[(4,_)],[]⟩ rfl (Fin.au [.one (.bool false)] (.inl rfl) rfl (.cons (.tmp rfl) .nil) ⟨rfl,rfl⟩)
 ·refine ab.skip (Fin.ag ⟨[(0,_),(1,_)],[]⟩ rfl (Fin.then ?_))
  obtain ⟨v1,h2,h⟩:=aO h
  refine ab.dR (v:=v1) (fun (_:Unit)=>⟨[],[]⟩) (fun z=>.inl z) ?_ ?_
  ·refine ab.seq (ab.aa ?_)
   refine Oc oa (af.ai ⟨[(0,_),(1,_),(5,I 0)],[]⟩ rfl (ab.block (ab.c6 h2 (fun (i_1:Int)=>⟨[(0,.b (.one (.sl 2 (a0.map (dv .i64))))),(1,.b (.one (.sl 2 (b0.map (dv .i64))))),(5,I i_1)],[]⟩) [0,1,5] [] rfl ?_)))
   rintro i_1 o3 h4 hy5
   refine ab.seq (ab.seq (ab.aa ?_))
   refine Oc om (Oc om (Oc (bj rA rfl (List.length_map _)) (Oc (bf rfl rfl) ?_)))
   refine af.ai ⟨[(0,_),(1,_),(5,_),(14,B (decide (i_1 < (a0.length:Int))))],[]⟩ rfl (ab.ite h4 rfl (fun _ h4=>?_) (fun _ h4=>?_))
   ·refine ab.skip (Fin.ag ⟨[(0,_),(1,_),(5,_)],[]⟩ rfl (Fin.then (ab.seq (ab.block (ab.seq ?_)))))
    refine ab.ag ⟨[(0,_),(1,_),(5,_)],[]⟩ rfl ?_
    obtain ⟨x_2,e6,h4⟩:=aO h4
    obtain ⟨x_3,e7,h4⟩:=aO h4
    refine ab.bK mixed 9 [.b (.one (.sl 2 (a0.map (dv .i64)))),I i_1,.b (.aK ((dv .i64) x_2)),.b (.agg ((dv .i64) x_2)),.b (.one (.sl 2 (b0.map (dv .i64)))),I i_1,.b (.aK ((dv .i64) x_3)),.b (.agg ((dv .i64) x_3)),B (decide (x_2 ≠ x_3))] [0,1,5,25] [] (s':=⟨[(0,_),(1,_),(5,_),(25,B (decide (x_2 ≠ x_3)))],[]⟩) rfl ⟨fun _=>.p om,fun _=>.p om,fun _=>.p (bd fY (a7 e6) (cy (e:=(dv .i64)) e6) rfl rfl),fun _=>.p (bU mZ rfl rfl rfl),fun _=>.p om,fun _=>.p om,fun _=>.p (bd fY (a7 e7) (cy (e:=(dv .i64)) e7) rfl rfl),fun _=>.p (bU mZ rfl rfl rfl),fun _=>.p (rb (eqAgg40 x_2 x_3) rfl rfl neg_dec),trivial⟩ rfl rfl (ab.ite h4 rfl (fun _ h4=>?_) (fun _ h4=>?_))
    ·refine ab.seq (ab.aa ?_)
     refine Oc oa (af.ai ⟨[(4,B false)],[]⟩ rfl (ab.ret (Fin.aL (Fin.aq ?_))))
     obtain rfl:=hy5 _ (Option.some.inj h4).symm
     refine Fin.aq (Fin.aL (Fin.aq ?_))
     obtain rfl:=Option.some.inj h
     refine Fin.ag ⟨[(4,_)],[]⟩ rfl (Fin.au [.one (.bool false)] (.inl rfl) rfl (.cons (.tmp rfl) .nil) ⟨rfl,rfl⟩)
    ·refine ab.skip (Fin.ax (Fin.ag ⟨[(0,_),(1,_),(5,_)],[]⟩ rfl (Fin.then (ab.aa ?_))))
     refine Oc om (Oc (bB rfl rfl) (Oc oa ?_))
     refine af.nil ?_
     exact Fin.cq [0,1,5] [] (IntKind.i64.wrap (i_1 + 1)) (Option.some.inj h4) rfl
   ·refine ab.exit (Fin.aA ?_)
    obtain rfl:=hy5 _ (Option.some.inj h4).symm
    refine Fin.aA (Fin.aW ?_)
    exact Fin.join [] [] () rfl rfl
  ·rintro _ hv
   subst v1
   refine ab.seq (ab.aa ?_)
   refine Oc oa (af.ai ⟨[(4,B true)],[]⟩ rfl (ab.ret ?_))
   obtain rfl:=Option.some.inj h
   refine Fin.ag ⟨[(4,_)],[]⟩ rfl (Fin.au [.one (.bool true)] (.inl rfl) rfl (.cons (.tmp rfl) .nil) ⟨rfl,rfl⟩)
def jS (F:Nat):Option dd :=
 some (⟨(⟨.leaf,50,48,49⟩:iz),(⟨.leaf,51,48,49⟩:iz)⟩:dd)
theorem jW {F:Nat} {r:dd} (h:jS F = some r):an Tryz.prog [] 23 [] [] (Is [] (.b (.agg (aI r)))):=by
 unfold jS at h
 refine an.intro 14 Tryz.func23 Tryz.ntmps23 rfl (by simp) fun E=>?_
 show ab _ E ⟨14,[],[],[]⟩ _ ⟨[],[]⟩ _
 refine ab.seq (ab.aa ?_)
 refine Oc (ba (k:=101) fl rfl) (af.ai ⟨[(0,Pt 101 0)],[(101,.box 49 [.tr ae (.leaf),.cY 0,.cY 0,.cY 0,.tr ae (.leaf),.cY 0,.cY 0,.cY 0])]⟩ rfl (ab.seq (ab.aa ?_)))
 refine Oc oa (af.ai ⟨[(0,_),(1,.b (.one (.raw (.func (.func 48) #[] #[]))))],[(101,_)]⟩ rfl (ab.seq (ab.aa ?_)))
 refine Oc oa (af.ai ⟨[(0,_),(1,_),(2,.b (.one (.raw (.func (.func 49) #[] #[]))))],[(101,_)]⟩ rfl (ab.seq (ab.aa ?_)))
 refine Oc oa (af.ai ⟨[(0,_),(1,_),(2,_),(3,.b (.one (.raw (.func (.func 50) #[] #[]))))],[(101,_)]⟩ rfl (ab.seq (ab.aa ?_)))
 refine Oc oa (af.ai ⟨[(0,_),(1,_),(2,_),(3,_),(4,.b (.one (.raw (.func (.func 51) #[] #[]))))],[(101,_)]⟩ rfl (ab.seq (ab.aa ?_)))
 refine Oc om (Oc om (Oc om (Oc (cC oE rfl rfl) (Oc om (Oc om ?_)))))
 refine Oc om (af.ag ⟨[(0,_),(8,.b (.agg [.tr ae (.leaf),.raw (.func (.func 50) #[] #[]),.raw (.func (.func 48) #[] #[]),.raw (.func (.func 49) #[] #[])])),(9,.b (.one (.raw (.func (.func 51) #[] #[])))),(10,.b (.one (.raw (.func (.func 48) #[] #[])))),(11,.b (.one (.raw (.func (.func 49) #[] #[]))))],[(101,_)]⟩ rfl (Oc (cC oE rfl rfl) (Oc (cC eP rfl rfl) (Oc (aF aT rfl rfl rfl rfl (Nat.le_of_ble_eq_true rfl) rfl) ?_))))
 refine af.ai ⟨[(0,_)],[(101,.box 49 [.tr ae (.leaf),.raw (.func (.func 50) #[] #[]),.raw (.func (.func 48) #[] #[]),.raw (.func (.func 49) #[] #[]),.tr ae (.leaf),.raw (.func (.func 51) #[] #[]),.raw (.func (.func 48) #[] #[]),.raw (.func (.func 49) #[] #[])])]⟩ rfl (ab.ret ?_)
 obtain rfl:=Option.some.inj h
 refine Fin.ag ⟨[(0,_)],[(101,_)]⟩ rfl (Fin.au [.agg [.tr ae (.leaf),.raw (.func (.func 50) #[] #[]),.raw (.func (.func 48) #[] #[]),.raw (.func (.func 49) #[] #[]),.tr ae (.leaf),.raw (.func (.func 51) #[] #[]),.raw (.func (.func 48) #[] #[]),.raw (.func (.func 49) #[] #[])]] (.inl rfl) rfl (.cons (.agg aT rfl rfl rfl rfl) .nil) ⟨rfl,rfl⟩)
def cn (F:Nat) (s0:dd) (id0:Int):Option (entry × Bool) :=
 Option.bind (iter F (fun n_1=>if (!n_1.cZ) = true then (Option.bind (iO n_1) (fun nd_2=>if (decide (id0 = nd_2.1.x.id)) = true then (Option.bind (iO n_1) (fun nd_3=>some (.inr (.inr (nd_3.1.x,true))))) else (Option.bind (iO n_1) (fun nd_4=>if (decide (id0 < nd_4.1.x.id)) = true then (Option.bind (iO n_1) (fun nd_5=>some (.inl nd_5.2.1))) else (Option.bind (iO n_1) (fun nd_6=>some (.inl nd_6.2.2))))))) else (some (.inr (.inl ())))) s0.ids.root) (cm (fun _=>fy (⟨0,(⟨A3.zero,A3.zero⟩:bH)⟩:entry) fun x_7=>some (x_7,false)) (fun y=>some y))
theorem eK {F:Nat} {s0:dd} {id0:Int} {r:entry × Bool} (h:cn F s0 id0 = some r):an Tryz.prog [] 54 [] [.agg (aI s0),.one (.i id0)] (Is [] (.eu [.agg (ao r.1),.one (.bool r.2)])):=by
 unfold cn at h
 refine an.intro 41 Tryz.func54 Tryz.ntmps54 rfl (by simp) fun E=>?_
 show ab _ E ⟨41,[],[],[]⟩ _ ⟨[(0,.b (.agg (aI s0))),(1,I id0)],[]⟩ _
 refine ab.seq (ab.aa ?_)
 refine Oc (bI (k:=101) rfl rfl) (Oc (ba (k:=102) gH rfl) (Oc oa ?_))
 refine af.ai ⟨[(1,I id0),(2,Pt 101 0),(4,Pt 102 0)],[(101,.box 49 (aI s0)),(102,.box 87 (.i 0 :: ((cG .i64) A3.zero ++ ((cG .i64) A3.zero))))]⟩ rfl ?_
 obtain ⟨v1,h2,h⟩:=aO h
 refine ab.dR (v:=v1) (fun (_:Unit)=>⟨[(4,Pt 102 0)],[(102,.box 87 (.i 0 :: ((cG .i64) A3.zero ++ ((cG .i64) A3.zero))))]⟩) (fun z=>.inl z) ?_ ?_
 ·refine ab.seq (ab.aa ?_)
  refine Oc (ar ko rfl rfl) (Oc (ar fA rfl rfl) (Oc (aH br rfl rfl rfl) (Oc oa ?_)))
  refine af.ai ⟨[(1,_),(4,_),(6,.b (.one (.tr ae s0.ids.root)))],[(102,_)]⟩ rfl (ab.block (ab.c6 h2 (fun (n_1:cH bc)=>⟨[(1,I id0),(4,Pt 102 0),(6,.b (.one (.tr ae n_1)))],[(102,.box 87 (.i 0 :: ((cG .i64) A3.zero ++ ((cG .i64) A3.zero))))]⟩) [1,4,6] [102] rfl ?_))
  rintro n_1 o3 h4 hy5
  refine ab.seq (ab.seq (ab.aa ?_))
  refine Oc om (Oc (qp kW rfl) ?_)
  refine af.ai ⟨[(1,_),(4,_),(6,_),(11,B (!n_1.cZ))],[(102,_)]⟩ rfl (ab.ite h4 rfl (fun _ h4=>?_) (fun _ h4=>?_))
  ·refine ab.skip (Fin.ag ⟨[(1,_),(4,_),(6,_)],[(102,_)]⟩ rfl (Fin.then (ab.block (ab.block (ab.seq (ab.aa ?_))))))
   refine Oc om (Oc om ?_)
   obtain ⟨nd_2,e6,h4⟩:=aO h4
   refine Oc (aE e6 rfl rfl) (Oc (aD dW rfl rfl) (Oc (aD dK rfl rfl) (Oc (aw aQ rfl rfl) (Oc (dy rfl rfl) (Oc oa ?_)))))
   refine af.ai ⟨[(1,_),(4,_),(6,_),(16,B (decide (id0 = nd_2.1.x.id)))],[(102,_)]⟩ rfl (ab.ite h4 rfl (fun _ h4=>?_) (fun _ h4=>?_))
   ·refine ab.seq (ab.aa ?_)
    refine Oc om ?_
    obtain ⟨nd_3,e7,h4⟩:=aO h4
    refine Oc (aE e7 rfl rfl) (Oc (aD dW rfl rfl) (Oc (bU bt rfl rfl rfl) (Oc (aF bt rfl rfl rfl rfl (Nat.le_of_ble_eq_true rfl) rfl) (Oc oa ?_))))
    refine af.ai ⟨[(4,_),(5,B true)],[(102,.box 87 (ao nd_3.1.x))]⟩ rfl (ab.ret (Fin.aL (Fin.aL ?_)))
    obtain rfl:=hy5 _ (Option.some.inj h4).symm
    refine Fin.aq (Fin.aL (Fin.aq ?_))
    obtain rfl:=Option.some.inj h
    refine Fin.ag ⟨[(4,_),(5,_)],[(102,_)]⟩ rfl (Fin.au [.agg (ao nd_3.1.x),.one (.bool true)] (.inl rfl) rfl (.cons (.agg bt rfl rfl rfl rfl) (.cons (.tmp rfl) .nil)) ⟨rfl,rfl⟩)
   ·refine ab.seq (ab.aa ?_)
    refine Oc om (Oc om ?_)
    obtain ⟨nd_4,e8,h4⟩:=aO h4
    refine Oc (aE e8 rfl rfl) (Oc (aD dW rfl rfl) (Oc (aD dK rfl rfl) (Oc (aw aQ rfl rfl) (Oc (bf rfl rfl) (Oc oa ?_)))))
    refine af.ai ⟨[(1,_),(4,_),(6,_),(28,B (decide (id0 < nd_4.1.x.id)))],[(102,_)]⟩ rfl (ab.ite h4 rfl (fun _ h4=>?_) (fun _ h4=>?_))
    ·refine ab.aa (Oc om ?_)
     obtain ⟨nd_5,e9,h4⟩:=aO h4
     refine Oc (aE e9 rfl rfl) (Oc (aD dB rfl rfl) (Oc (aw br rfl rfl) (Oc oa ?_)))
     refine af.nil (Fin.ax (Fin.ax ?_))
     exact Fin.cq [1,4,6] [102] nd_5.2.1 (Option.some.inj h4) rfl
    ·refine ab.aa (Oc om ?_)
     obtain ⟨nd_6,e10,h4⟩:=aO h4
     refine Oc (aE e10 rfl rfl) (Oc (aD dA rfl rfl) (Oc (aw br rfl rfl) (Oc oa ?_)))
     refine af.nil (Fin.ax (Fin.ax ?_))
     exact Fin.cq [1,4,6] [102] nd_6.2.2 (Option.some.inj h4) rfl
  ·refine ab.exit (Fin.aA ?_)
   obtain rfl:=hy5 _ (Option.some.inj h4).symm
   refine Fin.aA (Fin.aW ?_)
   exact Fin.join [4] [102] () rfl rfl
 ·rintro _ hv
  subst v1
  refine ab.seq (ab.aa ?_)
  refine af.lB ao h rfl (cC oD rfl rfl) (fun x_7 h=>?_)
  refine Oc (aF bt rfl rfl rfl rfl (Nat.le_of_ble_eq_true rfl) rfl) (Oc oa ?_)
  refine af.ai ⟨[(4,_),(5,B false)],[(102,.box 87 (ao x_7))]⟩ rfl (ab.ret ?_)
  obtain rfl:=Option.some.inj h
  refine Fin.ag ⟨[(4,_),(5,_)],[(102,_)]⟩ rfl (Fin.au [.agg (ao x_7),.one (.bool false)] (.inl rfl) rfl (.cons (.agg bt rfl rfl rfl rfl) (.cons (.tmp rfl) .nil)) ⟨rfl,rfl⟩)
def dN (F:Nat) (s0:List (cH bc)) (f0:Nat):Option Int :=
 Option.bind (iter F (fun x_1=>if (decide (x_1 < (s0.length:Int))) = true then ((a8 s0 x_1).bind fun x_2=>(gB F f0 x_2).bind fun x_3=>if x_3 = true then (some (.inr (.inr x_1))) else (some (.inl (IntKind.i64.wrap (x_1 + 1))))) else (some (.inr (.inl ())))) 0) (cm (fun _=>some (-1)) (fun y=>some y))
theorem iu {F:Nat} {s0:List (cH bc)} {f0:Nat} {r:Int} (h:dN F s0 f0 = some r):an Tryz.prog [] 131 [] [.one (.sl 1 (s0.map (mF ae))),.one (.raw (.func (.func f0) #[] #[]))] (Is [] (.b (.one (.i r)))):=by
 unfold dN at h
 refine an.intro 19 Tryz.func131 Tryz.ntmps131 rfl (by simp) fun E=>?_
 show ab _ E ⟨19,[],[],[]⟩ _ ⟨[(0,.b (.one (.sl 1 (s0.map (mF ae))))),(1,.b (.one (.raw (.func (.func f0) #[] #[]))))],[]⟩ _
 refine ab.seq (ab.aa ?_)
 refine Oc oa (af.ai ⟨[(0,.b (.one (.sl 1 (s0.map (mF ae))))),(1,.b (.one (.raw (.func (.func f0) #[] #[]))))],[]⟩ rfl ?_)
 obtain ⟨v1,h2,h⟩:=aO h
 refine ab.dR (v:=v1) (fun (_:Unit)=>⟨[],[]⟩) (fun z=>.inl z) ?_ ?_
 ·refine ab.seq (ab.aa ?_)
  refine Oc om (Oc (bj qJ rfl (List.length_map _)) (Oc om ?_))
  refine af.ai ⟨[(0,_),(1,_),(7,I (s0.length:Int)),(8,I 0)],[]⟩ rfl (ab.block (ab.c6 h2 (fun (x_1:Int)=>⟨[(0,.b (.one (.sl 1 (s0.map (mF ae))))),(1,.b (.one (.raw (.func (.func f0) #[] #[])))),(7,I (s0.length:Int)),(8,I x_1)],[]⟩) [0,1,7,8] [] rfl ?_))
  rintro x_1 o3 h4 hy5
  refine ab.seq (ab.aa ?_)
  refine Oc (bf rfl rfl) (af.ai ⟨[(0,_),(1,_),(7,_),(8,_),(9,B (decide (x_1 < (s0.length:Int))))],[]⟩ rfl (ab.seq (ab.ite h4 rfl (fun _ h4=>?_) (fun _ h4=>?_))))
  ·refine ab.skip (Fin.ag ⟨[(0,_),(1,_),(7,_),(8,_)],[]⟩ rfl (Fin.then (ab.seq (ab.block (ab.seq (ab.aa ?_))))))
   refine Oc om (Oc oa ?_)
   refine af.ai ⟨[(0,_),(1,_),(5,I x_1),(7,_),(8,_)],[]⟩ rfl (ab.seq (ab.aa ?_))
   refine Oc om (Oc om (Oc om ?_))
   obtain ⟨x_2,e6,h4⟩:=aO h4
   refine Oc (bd iS (a7 e6) (cy (e:=(mF ae)) e6) rfl rfl) (Oc (aw br rfl rfl) ?_)
   obtain ⟨x_3,e7,h4⟩:=aO h4
   refine Oc (iH (lN e7) (lO e7) rfl rfl rfl) (af.ai ⟨[(0,_),(1,_),(5,_),(7,_),(8,_),(16,B x_3)],[]⟩ rfl (ab.ite h4 rfl (fun _ h4=>?_) (fun _ h4=>?_)))
   ·refine ab.seq (ab.aa ?_)
    refine Oc om (Oc oa ?_)
    refine af.ai ⟨[(4,I x_1)],[]⟩ rfl (ab.ret (Fin.aL (Fin.aq ?_)))
    obtain rfl:=hy5 _ (Option.some.inj h4).symm
    refine Fin.aq (Fin.aL (Fin.aq ?_))
    obtain rfl:=Option.some.inj h
    refine Fin.ag ⟨[(4,_)],[]⟩ rfl (Fin.au [.one (.i x_1)] (.inl rfl) rfl (.cons (.tmp rfl) .nil) ⟨rfl,rfl⟩)
   ·refine ab.skip (Fin.ax (Fin.ag ⟨[(0,_),(1,_),(7,_),(8,_)],[]⟩ rfl (Fin.then (ab.aa ?_))))
    refine Oc (bB rfl rfl) (Oc om ?_)
    refine af.nil ?_
    exact Fin.cq [0,1,7,8] [] (IntKind.i64.wrap (x_1 + 1)) (Option.some.inj h4) rfl
  ·refine ab.exit (Fin.aA ?_)
   obtain rfl:=hy5 _ (Option.some.inj h4).symm
   refine Fin.aA (Fin.aW ?_)
   exact Fin.join [] [] () rfl rfl
 ·rintro _ hv
  subst v1
  refine ab.seq (ab.aa ?_)
  refine Oc oa (af.ai ⟨[(4,I (-1))],[]⟩ rfl (ab.ret ?_))
  obtain rfl:=Option.some.inj h
  refine Fin.ag ⟨[(4,_)],[]⟩ rfl (Fin.au [.one (.i (-1))] (.inl rfl) rfl (.cons (.tmp rfl) .nil) ⟨rfl,rfl⟩)
def dG (F:Nat) (del0:Nat) (s0:List (cH bc)):Option (List (cH bc)) :=
 (dN F s0 del0).bind fun x_1=>if (decide (x_1 = (-1))) = true then (some s0) else (Option.bind (iter F (sL fun s_4 i_5 j_6=>if (decide (j_6 < (s_4.length:Int))) = true then (Option.bind ((a8 s_4 j_6).bind fun x_11=>(gB F del0 x_11).bind fun x_12=>if (!x_12) = true then ((a8 s_4 i_5).bind fun x_13=>some (s_4.set (i_5:Int).toNat x_11,IntKind.i64.wrap (i_5 + 1))) else (some (s_4,i_5))) (dS fun s_9 i_10=>some (.inl (s_9,i_10,IntKind.i64.wrap (j_6 + 1))))) else (some (.inr (s_4,i_5)))) (s0,x_1,IntKind.i64.wrap (x_1 + 1))) (dS fun s_2 i_3=>Option.bind (sV (.leaf:cH bc) s_2 i_3) (fun z_14=>(mH z_14 i_3).bind fun x_15=>some x_15)))
theorem gW {F:Nat} {del0:Nat} {s0:List (cH bc)} {r:(List (cH bc))} (h:dG F del0 s0 = some r):an Tryz.prog [] 122 [(1,.row 42 1 (s0.map (mF ae)))] [.row 1,.one (.raw (.func (.func del0) #[] #[]))] (Is [(1,.row 42 1 (r.map (mF ae)))] (.b (.row 1))):=by
 unfold dG at h
 refine an.intro 42 Tryz.func122 Tryz.ntmps122 rfl (by simp) fun E=>?_
 show ab _ E ⟨42,[],[1],[]⟩ _ ⟨[(0,.b (.row 1)),(1,.b (.one (.raw (.func (.func del0) #[] #[]))))],[(1,.row 42 1 (s0.map (mF ae)))]⟩ _
 refine ab.seq (ab.aa ?_)
 refine Oc oa (af.ai ⟨[(0,.b (.row 1)),(1,.b (.one (.raw (.func (.func del0) #[] #[]))))],[(1,.row 42 1 (s0.map (mF ae)))]⟩ rfl (ab.seq (ab.aa ?_)))
 refine Oc om (Oc om ?_)
 obtain ⟨x_1,e1,h⟩:=aO h
 refine Oc (iC (iu e1) goes131 rfl CP.qb) (Oc oa ?_)
 refine af.ai ⟨[(0,_),(1,_),(5,I x_1)],[(1,_)]⟩ rfl (ab.seq (ab.seq (ab.aa ?_)))
 refine Oc om (Oc (dy rfl rfl) ?_)
 refine af.ai ⟨[(0,_),(1,_),(5,_),(12,B (decide (x_1 = (-1))))],[(1,_)]⟩ rfl (ab.ite h rfl (fun _ h=>?_) (fun _ h=>?_))
 ·refine ab.seq (ab.aa ?_)
  refine Oc om (Oc oa ?_)
  refine af.ai ⟨[(4,.b (.row 1))],[(1,_)]⟩ rfl (ab.ret (Fin.aq ?_))
  obtain rfl:=Option.some.inj h
  refine Fin.ag ⟨[(4,_)],[(1,_)]⟩ rfl ?_
  exact Fin.result [.row 1] (.inl rfl) rfl (.cons (.tmp rfl) .nil) ⟨rfl,rfl⟩
 ·refine ab.skip (Fin.ag ⟨[(0,_),(1,_),(5,_)],[(1,_)]⟩ rfl (Fin.then ?_))
  obtain ⟨v2,h3,h⟩:=aO h
  refine ab.dR (v:=v2) (dS fun (s_2:List (cH bc)) (i_3:Int)=>⟨[(0,.b (.row 1)),(5,I i_3)],[(1,.row 42 1 (s_2.map (mF ae)))]⟩) (fun z=>z) ?_ ?_
  ·refine ab.seq (ab.aa ?_)
   refine Oc om (Oc (bB rfl rfl) (Oc oa ?_))
   refine af.ai ⟨[(0,_),(1,_),(5,_),(6,I (IntKind.i64.wrap (x_1 + 1)))],[(1,_)]⟩ rfl (ab.block (ab.c6 h3 (sL fun (s_4:List (cH bc)) (i_5:Int) (j_6:Int)=>⟨[(0,.b (.row 1)),(1,.b (.one (.raw (.func (.func del0) #[] #[])))),(5,I i_5),(6,I j_6)],[(1,.row 42 1 (s_4.map (mF ae)))]⟩) [0,1,5,6] [1] rfl ?_))
   rintro ⟨s_4,i_5,j_6⟩ o4 h5 hy6
   refine ab.seq (ab.seq (ab.aa ?_))
   refine Oc om (Oc om (Oc (eQ qJ rfl rfl (List.length_map _)) (Oc (bf rfl rfl) ?_)))
   refine af.ai ⟨[(0,_),(1,_),(5,_),(6,_),(19,B (decide (j_6 < (s_4.length:Int))))],[(1,_)]⟩ rfl (ab.ite h5 rfl (fun _ h5=>?_) (fun _ h5=>?_))
   ·refine ab.skip (Fin.ag ⟨[(0,_),(1,_),(5,_),(6,_)],[(1,_)]⟩ rfl (Fin.then ?_))
    obtain ⟨v7,h8,h5⟩:=aO h5
    refine ab.dR (v:=v7) (dS fun (s_9:List (cH bc)) (i_10:Int)=>⟨[(0,.b (.row 1)),(1,.b (.one (.raw (.func (.func del0) #[] #[])))),(5,I i_10),(6,I j_6)],[(1,.row 42 1 (s_9.map (mF ae)))]⟩) (fun z=>z) ?_ ?_
    ·refine ab.block (ab.seq (ab.aa ?_))
     refine Oc om (Oc om ?_)
     obtain ⟨x_11,e9,h8⟩:=aO h8
     refine Oc (dC iS (a7 e9) (iQ e9) rfl rfl rfl rfl) (Oc (fD (i:=(j_6:Int).toNat) (f:=0) br rfl rfl rfl (cy (e:=(mF ae)) e9) rfl) (Oc oa ?_))
     refine af.ai ⟨[(0,_),(1,_),(5,_),(6,_),(7,.b (.one (.tr ae x_11)))],[(1,_)]⟩ rfl (ab.seq (ab.aa ?_))
     refine Oc om (Oc om ?_)
     obtain ⟨x_12,e10,h8⟩:=aO h8
     refine Oc (iH (lN e10) (lO e10) rfl rfl rfl) (Oc (dU rfl) ?_)
     refine af.ai ⟨[(0,_),(1,_),(5,_),(6,_),(7,_),(29,B (!x_12))],[(1,_)]⟩ rfl (ab.ite h8 rfl (fun _ h8=>?_) (fun _ h8=>?_))
     ·refine ab.seq (ab.aa ?_)
      refine Oc om (Oc om (Oc om ?_))
      obtain ⟨x_13,e11,h8⟩:=aO h8
      refine Oc (dC iS (a7 e11) (iQ e11) rfl rfl rfl rfl) (Oc (jP (i:=(i_5:Int).toNat) br rfl rfl rfl rfl (s5 e11) (map_set _ _ _ _)) ?_)
      refine af.ai ⟨[(0,_),(1,_),(5,_),(6,_)],[(1,.row 42 1 ((s_4.set (i_5:Int).toNat x_11).map (mF ae)))]⟩ rfl (ab.aa (Oc om (Oc (bB rfl rfl) (Oc oa ?_))))
      refine af.nil (Fin.ax ?_)
      exact Fin.join [0,1,5,6] [1] (s_4.set (i_5:Int).toNat x_11,IntKind.i64.wrap (i_5 + 1)) (Option.some.inj h8) rfl
     ·refine ab.skip (Fin.ax ?_)
      exact Fin.join [0,1,5,6] [1] (s_4,i_5) (Option.some.inj h8) rfl
    ·rintro ⟨s_9,i_10⟩ hv
     subst v7
     refine ab.aa (Oc om (Oc (bB rfl rfl) (Oc oa ?_)))
     refine af.nil ?_
     exact Fin.cq [0,1,5,6] [1] (s_9,i_10,IntKind.i64.wrap (j_6 + 1)) (Option.some.inj h5) rfl
   ·refine ab.exit (Fin.aA ?_)
    obtain rfl:=hy6 _ (Option.some.inj h5).symm
    refine Fin.aA (Fin.aW ?_)
    exact Fin.join [0,5] [1] (s_4,i_5) rfl rfl
  ·rintro ⟨s_2,i_3⟩ hv
   subst v2
   refine ab.seq (ab.aa ?_)
   refine Oc om (Oc om ?_)
   obtain ⟨z_14,e12,h⟩:=aO h
   refine af.clr (enc:=(mF ae)) iS rfl e12 rfl rfl rfl (by decide) rfl (af.ai ⟨[(0,_),(5,_)],[(1,.row 42 1 (z_14.map (mF ae)))]⟩ rfl (ab.seq (ab.aa ?_)))
   refine Oc om (Oc om ?_)
   obtain ⟨x_15,e13,h⟩:=aO h
   refine Oc (kM iS e13 rfl rfl rfl rfl) (Oc oa ?_)
   refine af.ai ⟨[(4,.b (.row 1))],[(1,.row 42 1 (x_15.map (mF ae)))]⟩ rfl (ab.ret ?_)
   obtain rfl:=Option.some.inj h
   refine Fin.ag ⟨[(4,_)],[(1,_)]⟩ rfl ?_
   exact Fin.result [.row 1] (.inl rfl) rfl (.cons (.tmp rfl) .nil) ⟨rfl,rfl⟩
def fL (F:Nat) (l0:List (cH bc)):Option (List (cH bc)) :=
 (dG F 123 l0).bind fun x_1=>some x_1
theorem mz {F:Nat} {l0:List (cH bc)} {r:(List (cH bc))} (h:fL F l0 = some r):an Tryz.prog [] 100 [(1,.row 42 1 (l0.map (mF ae)))] [.row 1] (Is [(1,.row 42 1 (r.map (mF ae)))] (.b (.row 1))):=by
 unfold fL at h
 refine an.intro 5 Tryz.func100 Tryz.ntmps100 rfl (by simp) fun E=>?_
 show ab _ E ⟨5,[],[1],[]⟩ _ ⟨[(0,.b (.row 1))],[(1,.row 42 1 (l0.map (mF ae)))]⟩ _
 refine ab.seq (ab.aa ?_)
 refine Oc oa (af.ai ⟨[(0,.b (.row 1))],[(1,.row 42 1 (l0.map (mF ae)))]⟩ rfl (ab.seq (ab.aa ?_)))
 refine Oc om ?_
 obtain ⟨x_1,e1,h⟩:=aO h
 refine Oc (cW (own_a:=[(1,_)]) (gW e1) goes122 rfl ⟨rfl,trivial⟩ rfl rfl) (Oc oa ?_)
 refine af.ai ⟨[(2,.b (.row 1))],[(1,.row 42 1 (x_1.map (mF ae)))]⟩ rfl (ab.ret ?_)
 obtain rfl:=Option.some.inj h
 refine Fin.ag ⟨[(2,_)],[(1,_)]⟩ rfl ?_
 exact Fin.result [.row 1] (.inl rfl) rfl (.cons (.tmp rfl) .nil) ⟨rfl,rfl⟩
def aZ (F:Nat) (t0:iz) (n0:cH bc) (left0:cH bc) (right0:cH bc):Option (cH bc) :=
 Option.bind (iO n0) (fun nd_1=>Option.bind (iO n0) (fun nd_2=>Option.bind (iO n0) (fun nd_3=>(hC F t0.box nd_3.1.x).bind fun x_4=>Option.bind ((fL F [left0,right0]).bind fun x_6=>iter F (dS fun out_7 x_8=>if (decide (x_8 < (x_6.length:Int))) = true then ((a8 x_6 x_8).bind fun x_10=>Option.bind (iO x_10) (fun nd_11=>(gy F out_7.cover nd_11.1.cover).bind fun x_12=>some (.inl ((⟨out_7.x,out_7.priority,x_12,out_7.left,out_7.right⟩:Nod),IntKind.i64.wrap (x_8 + 1))))) else (some (.inr out_7))) ((⟨nd_1.1.x,nd_2.1.priority,x_4,left0,right0⟩:Nod),0)) (fun out_5=>some (.node (⟨out_5.x,out_5.priority,out_5.cover⟩:bc) out_5.left out_5.right)))))
theorem bG {F:Nat} {t0:iz} {n0:cH bc} {left0:cH bc} {right0:cH bc} {r:(cH bc)} (h:aZ F t0 n0 left0 right0 = some r):an Tryz.prog [] 80 [] [.agg (bD t0),.one (.tr ae n0),.one (.tr ae left0),.one (.tr ae right0)] (Is [] (.b (.one (.tr ae r)))):=by
 unfold aZ at h
 refine an.intro 54 Tryz.func80 Tryz.ntmps80 rfl (by simp) fun E=>?_
 show ab _ E ⟨54,[],[],[]⟩ _ ⟨[(0,.b (.agg (bD t0))),(1,.b (.one (.tr ae n0))),(2,.b (.one (.tr ae left0))),(3,.b (.one (.tr ae right0)))],[]⟩ _
 refine ab.seq (ab.aa ?_)
 refine Oc (bI (k:=101) rfl rfl) (Oc oa ?_)
 refine af.ai ⟨[(1,.b (.one (.tr ae n0))),(2,.b (.one (.tr ae left0))),(3,.b (.one (.tr ae right0))),(4,Pt 101 0)],[(101,.box 47 (bD t0))]⟩ rfl (ab.seq ?_)
 obtain ⟨nd_1,e1,h⟩:=aO h
 obtain ⟨nd_2,e2,h⟩:=aO h
 obtain ⟨nd_3,e3,h⟩:=aO h
 obtain ⟨x_4,e4,h⟩:=aO h
 refine ab.bK mixed 18 [.b (.one (.tr ae n0)),.b (.aK (ao nd_1.1.x ++ (.int .u64 nd_1.1.priority :: (aj nd_1.1.cover ++ ([.tr ae nd_1.2.1,.tr ae nd_1.2.2]))))),.b (.aK (ao nd_1.1.x ++ (.int .u64 nd_1.1.priority :: (aj nd_1.1.cover ++ ([.tr ae nd_1.2.1,.tr ae nd_1.2.2]))))),.b (.agg (ao nd_1.1.x)),.b (.one (.tr ae n0)),.b (.aK (ao nd_2.1.x ++ (.int .u64 nd_2.1.priority :: (aj nd_2.1.cover ++ ([.tr ae nd_2.2.1,.tr ae nd_2.2.2]))))),.b (.aK (.int .u64 nd_2.1.priority :: (aj nd_2.1.cover ++ ([.tr ae nd_2.2.1,.tr ae nd_2.2.2])))),.b (.one (.int .u64 nd_2.1.priority)),Pt 101 3,.b (.one (.cY t0.box)),.b (.one (.tr ae n0)),.b (.aK (ao nd_3.1.x ++ (.int .u64 nd_3.1.priority :: (aj nd_3.1.cover ++ ([.tr ae nd_3.2.1,.tr ae nd_3.2.2]))))),.b (.aK (ao nd_3.1.x ++ (.int .u64 nd_3.1.priority :: (aj nd_3.1.cover ++ ([.tr ae nd_3.2.1,.tr ae nd_3.2.2]))))),.b (.agg (ao nd_3.1.x)),.b (.agg (aj x_4)),.b (.one (.tr ae left0)),.b (.one (.tr ae right0)),.b (.agg (ao nd_1.1.x ++ (.int .u64 nd_2.1.priority :: (aj x_4 ++ ([.tr ae left0,.tr ae right0])))))] [2,3,9] [102] (s':=⟨[(2,_),(3,_),(9,Pt 102 0)],[(102,.box 117 (ao nd_1.1.x ++ (.int .u64 nd_2.1.priority :: (aj x_4 ++ ([.tr ae left0,.tr ae right0])))))]⟩) rfl ⟨fun _=>.p om,fun _=>.p (aE e1 rfl rfl),fun _=>by exact .p (aD dW rfl rfl),fun _=>.p (bU bt rfl rfl rfl),fun _=>.p om,fun _=>.p (aE e2 rfl rfl),fun _=>by exact .p (aD k6 rfl rfl),fun _=>.p (aw pd rfl rfl),fun _=>.p (ar sg rfl rfl),fun _=>.p (aH tyOne45 rfl rfl rfl),fun _=>.p om,fun _=>.p (aE e3 rfl rfl),fun _=>by exact .p (aD dW rfl rfl),fun _=>.p (bU bt rfl rfl rfl),fun _=>.p (kq (rn e4) (rq e4) (uv e4) rfl rfl rfl),fun _=>.p om,fun _=>.p om,fun _=>.p (cC nK rfl rfl),trivial⟩ ⟨_,by exact .p (bI (k:=102) rfl rfl),⟨_,by exact .p oa,rfl⟩⟩ rfl ?_
 obtain ⟨v5,h6,h⟩:=aO h
 refine ab.dR (v:=v5) (fun (out_5:Nod)=>⟨[(9,Pt 102 0)],[(102,.box 117 (eNod out_5))]⟩) (fun z=>z) ?_ ?_
 ·refine ab.seq (ab.aa ?_)
  refine Oc om (Oc om (Oc (b9 (k:=103) (es:=[left0,right0].map (mF ae)) iS rfl rfl (cB fun _=>rfl) rfl (by decide) (by decide) rfl) ?_))
  obtain ⟨x_6,e7,h6⟩:=aO h6
  refine Oc (cW (own_a:=[(103,_)]) ((mz e7).sw 1 103) goes100 rfl ⟨rfl,trivial⟩ rfl rfl) (Oc (eQ qJ rfl rfl (List.length_map _)) (Oc om ?_))
  refine af.ai ⟨[(9,_),(34,.b (.row 103)),(35,I (x_6.length:Int)),(36,I 0)],[(102,_),(103,.row 42 1 (x_6.map (mF ae)))]⟩ rfl (ab.block (ab.c6 h6 (dS fun (out_7:Nod) (x_8:Int)=>⟨[(9,Pt 102 0),(34,.b (.row 103)),(35,I (x_6.length:Int)),(36,I x_8)],[(102,.box 117 (eNod out_7)),(103,.row 42 1 (x_6.map (mF ae)))]⟩) [9,34,35,36] [102,103] rfl ?_))
  rintro ⟨out_7,x_8⟩ o8 h9 hy10
  refine ab.seq (ab.aa ?_)
  refine Oc (bf rfl rfl) (af.ai ⟨[(9,_),(34,_),(35,_),(36,_),(37,B (decide (x_8 < (x_6.length:Int))))],[(102,_),(103,_)]⟩ rfl (ab.seq (ab.ite h9 rfl (fun _ h9=>?_) (fun _ h9=>?_))))
  ·refine ab.skip (Fin.ag ⟨[(9,_),(34,_),(35,_),(36,_)],[(102,_),(103,_)]⟩ rfl (Fin.then (ab.seq (ab.block (ab.seq (ab.aa ?_))))))
   obtain ⟨x_10,e11,h9⟩:=aO h9
   refine Oc (dC iS (a7 e11) (iQ e11) rfl rfl rfl rfl) (Oc (fD (i:=(x_8:Int).toNat) (f:=0) br rfl rfl rfl (cy (e:=(mF ae)) e11) rfl) (Oc oa ?_))
   refine af.ai ⟨[(9,_),(11,.b (.one (.tr ae x_10))),(34,_),(35,_),(36,_)],[(102,_),(103,_)]⟩ rfl ?_
   obtain ⟨nd_11,e12,h9⟩:=aO h9
   obtain ⟨x_12,e13,h9⟩:=aO h9
   refine ab.nz mixed 12 [Pt 102 0,Pt 102 0,Pt 102 0,Pt 102 8,.b (.agg (aj out_7.cover)),.b (.one (.tr ae x_10)),.b (.aK (ao nd_11.1.x ++ (.int .u64 nd_11.1.priority :: (aj nd_11.1.cover ++ ([.tr ae nd_11.2.1,.tr ae nd_11.2.2]))))),.b (.aK (aj nd_11.1.cover ++ ([.tr ae nd_11.2.1,.tr ae nd_11.2.2]))),.b (.agg (aj nd_11.1.cover)),.b (.agg (aj x_12)),Pt 102 0,Pt 102 8] [9,34,35,36] [102,103] (s':=⟨[(9,_),(34,_),(35,_),(36,_)],[(102,.box 117 (ao out_7.x ++ (.int .u64 out_7.priority :: (aj x_12 ++ ([.tr ae out_7.left,.tr ae out_7.right]))))),(103,_)]⟩) rfl ⟨fun _=>.p om,fun _=>.p om,fun _=>.p (kN rfl),fun _=>.p (ar iX rfl rfl),fun _=>.p (lp aC),fun _=>.p om,fun _=>.p (aE e12 rfl rfl),fun _=>by exact .p (aD iX rfl rfl),fun _=>.p (bU aC rfl rfl rfl),fun _=>.p (ak (jm e13) tD rfl rfl),fun _=>.p (kN rfl),fun _=>.p (ar iX rfl rfl),trivial⟩ ⟨_,by exact .p (aF aC rfl rfl rfl rfl (Nat.le_of_ble_eq_true rfl) rfl),rfl⟩ rfl (Fin.ax (Fin.ag ⟨[(9,_),(34,_),(35,_),(36,_)],[(102,_),(103,_)]⟩ rfl (Fin.then (ab.aa ?_))))
   refine Oc (bB rfl rfl) (Oc om ?_)
   refine af.nil ?_
   exact Fin.cq [9,34,35,36] [102,103] ((⟨out_7.x,out_7.priority,x_12,out_7.left,out_7.right⟩:Nod),IntKind.i64.wrap (x_8 + 1)) (Option.some.inj h9) rfl
  ·refine ab.exit (Fin.aA ?_)
   obtain rfl:=hy10 _ (Option.some.inj h9).symm
   refine Fin.aA (Fin.aW ?_)
   exact Fin.join [9] [102] out_7 rfl rfl
 ·rintro out_5 hv
  subst v5
  refine ab.seq (ab.aa ?_)
  refine Oc om (Oc oa ?_)
  refine af.ai ⟨[(8,Pt 102 0)],[(102,_)]⟩ rfl (ab.ret ?_)
  obtain rfl:=Option.some.inj h
  refine Fin.ag ⟨[(8,_)],[(102,_)]⟩ rfl (Fin.fR 102 rfl (Fin.toTr (enc:=ae) 8 (⟨out_5.x,out_5.priority,out_5.cover⟩:bc) out_5.left out_5.right rfl rfl (Fin.au [.one (.tr ae (.node (⟨out_5.x,out_5.priority,out_5.cover⟩:bc) out_5.left out_5.right))] (.inl rfl) rfl (.cons (.tmp rfl) .nil) ⟨rfl,rfl⟩)))
def bF (F:Nat):Nat → iz → (cH bc) → entry → Option ((cH bc) × (cH bc))
 | 0,_,_,_=>none
 | n + 1,t0,n0,x0=>if n0.cZ = true then (some (.leaf,.leaf)) else (Option.bind (iO n0) (fun nd_1=>(fj F t0.compare nd_1.1.x x0).bind fun x_2=>if (decide (x_2 < 0)) = true then (Option.bind (iO n0) (fun nd_3=>Option.bind (bF F n t0 nd_3.2.2 x0) (dS fun x_4 x_5=>Option.bind (iO n0) (fun nd_6=>(aZ F t0 n0 nd_6.2.1 x_4).bind fun x_7=>some (x_7,x_5))))) else (Option.bind (iO n0) (fun nd_8=>Option.bind (bF F n t0 nd_8.2.1 x0) (dS fun x_9 x_10=>Option.bind (iO n0) (fun nd_11=>(aZ F t0 n0 x_10 nd_11.2.2).bind fun x_12=>some (x_9,x_12)))))))
def eJ (F:Nat) (t0:iz) (n0:cH bc) (x0:entry):Option ((cH bc) × (cH bc)):=bF F F t0 n0 x0
theorem ji {F:Nat}:∀ (n:Nat) {t0:iz} {n0:cH bc} {x0:entry} {r:(cH bc) × (cH bc)} (h:bF F n t0 n0 x0 = some r),an Tryz.prog [] 79 [] [.agg (bD t0),.one (.tr ae n0),.agg (ao x0)] (Is [] (.eu [.one (.tr ae r.1),.one (.tr ae r.2)])):=by
 intro n
 induction n with
 | zero=>intro t0 n0 x0 r h; simp [bF] at h
 | succ n ih=>
 intro t0 n0 x0 r h
 unfold bF at h
 refine an.intro 61 Tryz.func79 Tryz.ntmps79 rfl (by simp) fun E=>?_
 show ab _ E ⟨61,[],[],[]⟩ _ ⟨[(0,.b (.agg (bD t0))),(1,.b (.one (.tr ae n0))),(2,.b (.agg (ao x0)))],[]⟩ _
 refine ab.seq (ab.aa ?_)
 refine Oc (bI (k:=101) rfl rfl) (Oc (bI (k:=102) rfl rfl) (Oc oa (Oc oa ?_)))
 refine af.ai ⟨[(1,.b (.one (.tr ae n0))),(3,Pt 101 0),(5,Pt 102 0)],[(101,.box 47 (bD t0)),(102,.box 87 (ao x0))]⟩ rfl (ab.seq (ab.seq (ab.aa ?_)))
 refine Oc om (Oc (eU kW rfl) ?_)
 refine af.ai ⟨[(1,_),(3,_),(5,_),(13,B n0.cZ)],[(101,_),(102,_)]⟩ rfl (ab.ite h rfl (fun _ h=>?_) (fun _ h=>?_))
 ·refine ab.seq (ab.aa ?_)
  refine Oc oa (Oc oa ?_)
  refine af.ai ⟨[(6,.b (.one (.tr ae (.leaf)))),(7,.b (.one (.tr ae (.leaf))))],[]⟩ rfl (ab.ret (Fin.aq ?_))
  obtain rfl:=Option.some.inj h
  refine Fin.ag ⟨[(6,_),(7,_)],[]⟩ rfl (Fin.au [.one (.tr ae (.leaf)),.one (.tr ae (.leaf))] (.inl rfl) rfl (.cons (.tmp rfl) (.cons (.tmp rfl) .nil)) ⟨rfl,rfl⟩)
 ·refine ab.skip (Fin.ag ⟨[(1,_),(3,_),(5,_)],[(101,_),(102,_)]⟩ rfl (Fin.then (ab.seq (ab.seq ?_))))
  refine ab.ag ⟨[(1,_),(3,_),(5,_)],[(101,_),(102,_)]⟩ rfl ?_
  obtain ⟨nd_1,e1,h⟩:=aO h
  obtain ⟨x_2,e2,h⟩:=aO h
  refine ab.bK mixed 9 [Pt 101 1,.b (.one (.cY t0.compare)),.b (.one (.tr ae n0)),.b (.aK (ao nd_1.1.x ++ (.int .u64 nd_1.1.priority :: (aj nd_1.1.cover ++ ([.tr ae nd_1.2.1,.tr ae nd_1.2.2]))))),.b (.aK (ao nd_1.1.x ++ (.int .u64 nd_1.1.priority :: (aj nd_1.1.cover ++ ([.tr ae nd_1.2.1,.tr ae nd_1.2.2]))))),.b (.agg (ao nd_1.1.x)),.b (.agg (ao x0)),I x_2,B (decide (x_2 < 0))] [1,3,5,22] [101,102] (s':=⟨[(1,_),(3,_),(5,_),(22,B (decide (x_2 < 0)))],[(101,_),(102,_)]⟩) rfl ⟨fun _=>.p (ar oC rfl rfl),fun _=>.p (aH rP rfl rfl rfl),fun _=>.p om,fun _=>.p (aE e1 rfl rfl),fun _=>by exact .p (aD dW rfl rfl),fun _=>.p (bU bt rfl rfl rfl),fun _=>.p (lp bt),fun _=>.p (kq (nW e2) (nX e2) (qi e2) rfl rfl rfl),fun _=>.p (bf rfl rfl),trivial⟩ rfl rfl (ab.ite h rfl (fun _ h=>?_) (fun _ h=>?_))
  ·refine ab.seq (ab.ag ⟨[(1,_),(3,_),(5,_)],[(101,_),(102,_)]⟩ rfl ?_)
   obtain ⟨nd_3,e3,h⟩:=aO h
   obtain ⟨⟨x_4,x_5⟩,e4,h⟩:=aO h
   refine ab.bK mixed 12 [.b (.agg (bD t0)),.b (.one (.tr ae n0)),.b (.aK (ao nd_3.1.x ++ (.int .u64 nd_3.1.priority :: (aj nd_3.1.cover ++ ([.tr ae nd_3.2.1,.tr ae nd_3.2.2]))))),.b (.aK [.tr ae nd_3.2.2]),.b (.one (.tr ae nd_3.2.2)),.b (.agg (ao x0)),.eu [.one (.tr ae x_4),.one (.tr ae x_5)],.eu [.one (.tr ae x_4),.one (.tr ae x_5)],.b (.one (.tr ae x_4)),.b (.one (.tr ae x_5)),.b (.one (.tr ae x_4)),.b (.one (.tr ae x_5))] [1,3,8,9] [101] (s':=⟨[(1,_),(3,_),(8,.b (.one (.tr ae x_4))),(9,.b (.one (.tr ae x_5)))],[(101,_)]⟩) rfl ⟨fun _=>.p (lp bw),fun _=>.p om,fun _=>.p (aE e3 rfl rfl),fun _=>by exact .p (aD dA rfl rfl),fun _=>.p (aw br rfl rfl),fun _=>.p (lp bt),fun _=>.p (ak (ih e4) qT rfl rfl),fun _=>.p om,fun _=>.p (ay rfl rfl),fun _=>.p (ay rfl rfl),fun _=>.p oa,fun _=>.p oa,trivial⟩ rfl rfl (ab.seq (ab.ag ⟨[(1,_),(3,_),(8,_),(9,_)],[(101,_)]⟩ rfl ?_))
   obtain ⟨nd_6,e5,h⟩:=aO h
   obtain ⟨x_7,e6,h⟩:=aO h
   refine ab.bK mixed 11 [.b (.agg (bD t0)),.b (.one (.tr ae n0)),.b (.one (.tr ae n0)),.b (.aK (ao nd_6.1.x ++ (.int .u64 nd_6.1.priority :: (aj nd_6.1.cover ++ ([.tr ae nd_6.2.1,.tr ae nd_6.2.2]))))),.b (.aK [.tr ae nd_6.2.1,.tr ae nd_6.2.2]),.b (.one (.tr ae nd_6.2.1)),.b (.one (.tr ae x_4)),.b (.one (.tr ae x_7)),.b (.one (.tr ae x_5)),.b (.one (.tr ae x_7)),.b (.one (.tr ae x_5))] [6,7] [] (s':=⟨[(6,.b (.one (.tr ae x_7))),(7,.b (.one (.tr ae x_5)))],[]⟩) rfl ⟨fun _=>.p (lp bw),fun _=>.p om,fun _=>.p om,fun _=>.p (aE e5 rfl rfl),fun _=>by exact .p (aD dB rfl rfl),fun _=>.p (aw br rfl rfl),fun _=>.p om,fun _=>.p (ak (bG e6) kZ rfl rfl),fun _=>.p om,fun _=>.p oa,fun _=>.p oa,trivial⟩ rfl rfl (ab.ret (Fin.aq ?_))
   obtain rfl:=Option.some.inj h
   refine Fin.ag ⟨[(6,_),(7,_)],[]⟩ rfl (Fin.au [.one (.tr ae x_7),.one (.tr ae x_5)] (.inl rfl) rfl (.cons (.tmp rfl) (.cons (.tmp rfl) .nil)) ⟨rfl,rfl⟩)
  ·refine ab.skip (Fin.ag ⟨[(1,_),(3,_),(5,_)],[(101,_),(102,_)]⟩ rfl (Fin.then (ab.seq ?_)))
   refine ab.ag ⟨[(1,_),(3,_),(5,_)],[(101,_),(102,_)]⟩ rfl ?_
   obtain ⟨nd_8,e7,h⟩:=aO h
   obtain ⟨⟨x_9,x_10⟩,e8,h⟩:=aO h
   refine ab.bK mixed 12 [.b (.agg (bD t0)),.b (.one (.tr ae n0)),.b (.aK (ao nd_8.1.x ++ (.int .u64 nd_8.1.priority :: (aj nd_8.1.cover ++ ([.tr ae nd_8.2.1,.tr ae nd_8.2.2]))))),.b (.aK [.tr ae nd_8.2.1,.tr ae nd_8.2.2]),.b (.one (.tr ae nd_8.2.1)),.b (.agg (ao x0)),.eu [.one (.tr ae x_9),.one (.tr ae x_10)],.eu [.one (.tr ae x_9),.one (.tr ae x_10)],.b (.one (.tr ae x_9)),.b (.one (.tr ae x_10)),.b (.one (.tr ae x_9)),.b (.one (.tr ae x_10))] [1,3,10,11] [101] (s':=⟨[(1,_),(3,_),(10,.b (.one (.tr ae x_9))),(11,.b (.one (.tr ae x_10)))],[(101,_)]⟩) rfl ⟨fun _=>.p (lp bw),fun _=>.p om,fun _=>.p (aE e7 rfl rfl),fun _=>by exact .p (aD dB rfl rfl),fun _=>.p (aw br rfl rfl),fun _=>.p (lp bt),fun _=>.p (ak (ih e8) qT rfl rfl),fun _=>.p om,fun _=>.p (ay rfl rfl),fun _=>.p (ay rfl rfl),fun _=>.p oa,fun _=>.p oa,trivial⟩ rfl rfl (ab.seq (ab.ag ⟨[(1,_),(3,_),(10,_),(11,_)],[(101,_)]⟩ rfl ?_))
   obtain ⟨nd_11,e9,h⟩:=aO h
   obtain ⟨x_12,e10,h⟩:=aO h
   refine ab.bK mixed 11 [.b (.one (.tr ae x_9)),.b (.agg (bD t0)),.b (.one (.tr ae n0)),.b (.one (.tr ae x_10)),.b (.one (.tr ae n0)),.b (.aK (ao nd_11.1.x ++ (.int .u64 nd_11.1.priority :: (aj nd_11.1.cover ++ ([.tr ae nd_11.2.1,.tr ae nd_11.2.2]))))),.b (.aK [.tr ae nd_11.2.2]),.b (.one (.tr ae nd_11.2.2)),.b (.one (.tr ae x_12)),.b (.one (.tr ae x_9)),.b (.one (.tr ae x_12))] [6,7] [] (s':=⟨[(6,.b (.one (.tr ae x_9))),(7,.b (.one (.tr ae x_12)))],[]⟩) rfl ⟨fun _=>.p om,fun _=>.p (lp bw),fun _=>.p om,fun _=>.p om,fun _=>.p om,fun _=>.p (aE e9 rfl rfl),fun _=>by exact .p (aD dA rfl rfl),fun _=>.p (aw br rfl rfl),fun _=>.p (ak (bG e10) kZ rfl rfl),fun _=>.p oa,fun _=>.p oa,trivial⟩ rfl rfl (ab.ret ?_)
   obtain rfl:=Option.some.inj h
   refine Fin.ag ⟨[(6,_),(7,_)],[]⟩ rfl (Fin.au [.one (.tr ae x_9),.one (.tr ae x_12)] (.inl rfl) rfl (.cons (.tmp rfl) (.cons (.tmp rfl) .nil)) ⟨rfl,rfl⟩)
theorem ju {F:Nat} {t0:iz} {n0:cH bc} {x0:entry} {r:(cH bc) × (cH bc)} (h:eJ F t0 n0 x0 = some r):an Tryz.prog [] 79 [] [.agg (bD t0),.one (.tr ae n0),.agg (ao x0)] (Is [] (.eu [.one (.tr ae r.1),.one (.tr ae r.2)])):=ji F h
def eW (F:Nat) (x0:Int):Option Int :=
 fy (IntKind.u64.wrap ((oc .u64 x0 (x0 / 1073741824)) * 13787848793156543929)) fun x_1=>fy (IntKind.u64.wrap ((oc .u64 x_1 (x_1 / 134217728)) * 10723151780598845931)) fun x_2=>some (oc .u64 x_2 (x_2 / 2147483648))
theorem n1 {F:Nat} {x0:Int} {r:Int} (h:eW F x0 = some r):an Tryz.prog [] 81 [] [.one (.int .u64 x0)] (Is [] (.b (.one (.int .u64 r)))):=by
 unfold eW at h
 refine an.intro 19 Tryz.func81 Tryz.ntmps81 rfl (by simp) fun E=>?_
 show ab _ E ⟨19,[],[],[]⟩ _ ⟨[(0,.b (.one (.int .u64 x0)))],[]⟩ _
 refine ab.seq (ab.aa ?_)
 refine Oc oa (af.ai ⟨[(0,.b (.one (.int .u64 x0)))],[]⟩ rfl (ab.seq (ab.aa ?_)))
 refine Oc om (Oc om (Oc (iU (m:=30) (by decide) rfl rfl rfl) (Oc (qM rfl rfl) (Oc oa ?_))))
 refine af.ai ⟨[(0,.b (.one (.int .u64 (oc .u64 x0 (x0 / 1073741824)))))],[]⟩ rfl (ab.seq (ab.aa ?_))
 refine Oc om (af.pL .u64 h rfl (th rfl rfl) (fun x_1 h=>?_))
 refine Oc oa (af.ai ⟨[(0,.b (.one (.int .u64 x_1)))],[]⟩ rfl (ab.seq (ab.aa ?_)))
 refine Oc om (Oc om (Oc (iU (m:=27) (by decide) rfl rfl rfl) (Oc (qM rfl rfl) (Oc oa ?_))))
 refine af.ai ⟨[(0,.b (.one (.int .u64 (oc .u64 x_1 (x_1 / 134217728)))))],[]⟩ rfl (ab.seq (ab.aa ?_))
 refine Oc om (af.pL .u64 h rfl (th rfl rfl) (fun x_2 h=>?_))
 refine Oc oa (af.ai ⟨[(0,.b (.one (.int .u64 x_2)))],[]⟩ rfl (ab.seq (ab.aa ?_)))
 refine Oc om (Oc om (Oc (iU (m:=31) (by decide) rfl rfl rfl) (Oc (qM rfl rfl) (Oc oa ?_))))
 refine af.ai ⟨[(2,.b (.one (.int .u64 (oc .u64 x_2 (x_2 / 2147483648)))))],[]⟩ rfl (ab.ret ?_)
 obtain rfl:=Option.some.inj h
 refine Fin.ag ⟨[(2,_)],[]⟩ rfl (Fin.au [.one (.int .u64 (oc .u64 x_2 (x_2 / 2147483648)))] (.inl rfl) rfl (.cons (.tmp rfl) .nil) ⟨rfl,rfl⟩)
def bQ (F:Nat):Nat → iz → (cH bc) → (cH bc) → Option (cH bc)
 | 0,_,_,_=>none
 | n + 1,t0,a0,b0=>if a0.cZ = true then (some b0) else (if b0.cZ = true then (some a0) else (Option.bind (iO a0) (fun nd_1=>Option.bind (iO b0) (fun nd_2=>if (decide (nd_2.1.priority < nd_1.1.priority)) = true then (Option.bind (iO a0) (fun nd_3=>Option.bind (iO a0) (fun nd_4=>(bQ F n t0 nd_4.2.2 b0).bind fun x_5=>(aZ F t0 a0 nd_3.2.1 x_5).bind fun x_6=>some x_6))) else (Option.bind (iO b0) (fun nd_7=>(bQ F n t0 a0 nd_7.2.1).bind fun x_8=>Option.bind (iO b0) (fun nd_9=>(aZ F t0 b0 x_8 nd_9.2.2).bind fun x_10=>some x_10)))))))
def cc (F:Nat) (t0:iz) (a0:cH bc) (b0:cH bc):Option (cH bc):=bQ F F t0 a0 b0
theorem jv {F:Nat}:∀ (n:Nat) {t0:iz} {a0:cH bc} {b0:cH bc} {r:(cH bc)} (h:bQ F n t0 a0 b0 = some r),an Tryz.prog [] 82 [] [.agg (bD t0),.one (.tr ae a0),.one (.tr ae b0)] (Is [] (.b (.one (.tr ae r)))):=by
 intro n
 induction n with
 | zero=>intro t0 a0 b0 r h; simp [bQ] at h
 | succ n ih=>
 intro t0 a0 b0 r h
 unfold bQ at h
 refine an.intro 53 Tryz.func82 Tryz.ntmps82 rfl (by simp) fun E=>?_
 show ab _ E ⟨53,[],[],[]⟩ _ ⟨[(0,.b (.agg (bD t0))),(1,.b (.one (.tr ae a0))),(2,.b (.one (.tr ae b0)))],[]⟩ _
 refine ab.seq (ab.aa ?_)
 refine Oc (bI (k:=101) rfl rfl) (Oc oa ?_)
 refine af.ai ⟨[(1,.b (.one (.tr ae a0))),(2,.b (.one (.tr ae b0))),(3,Pt 101 0)],[(101,.box 47 (bD t0))]⟩ rfl (ab.seq (ab.block (ab.seq (ab.aa ?_))))
 refine Oc om (Oc (eU kW rfl) (Oc oa ?_))
 refine af.ai ⟨[(1,_),(2,_),(3,_),(7,B a0.cZ)],[(101,_)]⟩ rfl (ab.ite h rfl (fun _ h=>?_) (fun _ h=>?_))
 ·refine ab.seq (ab.aa ?_)
  refine Oc om (Oc oa ?_)
  refine af.ai ⟨[(6,.b (.one (.tr ae b0)))],[]⟩ rfl (ab.ret (Fin.aL (Fin.aq ?_)))
  obtain rfl:=Option.some.inj h
  refine Fin.ag ⟨[(6,_)],[]⟩ rfl (Fin.au [.one (.tr ae b0)] (.inl rfl) rfl (.cons (.tmp rfl) .nil) ⟨rfl,rfl⟩)
 ·refine ab.seq (ab.aa ?_)
  refine Oc om (Oc (eU kW rfl) (Oc oa ?_))
  refine af.ai ⟨[(1,_),(2,_),(3,_),(11,B b0.cZ)],[(101,_)]⟩ rfl (ab.ite h rfl (fun _ h=>?_) (fun _ h=>?_))
  ·refine ab.seq (ab.aa ?_)
   refine Oc om (Oc oa ?_)
   refine af.ai ⟨[(6,.b (.one (.tr ae a0)))],[]⟩ rfl (ab.ret (Fin.aL (Fin.aq ?_)))
   obtain rfl:=Option.some.inj h
   refine Fin.ag ⟨[(6,_)],[]⟩ rfl (Fin.au [.one (.tr ae a0)] (.inl rfl) rfl (.cons (.tmp rfl) .nil) ⟨rfl,rfl⟩)
  ·refine ab.seq (ab.ag ⟨[(1,_),(2,_),(3,_)],[(101,_)]⟩ rfl ?_)
   obtain ⟨nd_1,e1,h⟩:=aO h
   obtain ⟨nd_2,e2,h⟩:=aO h
   refine ab.bK mixed 10 [.b (.one (.tr ae a0)),.b (.aK (ao nd_1.1.x ++ (.int .u64 nd_1.1.priority :: (aj nd_1.1.cover ++ ([.tr ae nd_1.2.1,.tr ae nd_1.2.2]))))),.b (.aK (.int .u64 nd_1.1.priority :: (aj nd_1.1.cover ++ ([.tr ae nd_1.2.1,.tr ae nd_1.2.2])))),.b (.one (.int .u64 nd_1.1.priority)),.b (.one (.tr ae b0)),.b (.aK (ao nd_2.1.x ++ (.int .u64 nd_2.1.priority :: (aj nd_2.1.cover ++ ([.tr ae nd_2.2.1,.tr ae nd_2.2.2]))))),.b (.aK (.int .u64 nd_2.1.priority :: (aj nd_2.1.cover ++ ([.tr ae nd_2.2.1,.tr ae nd_2.2.2])))),.b (.one (.int .u64 nd_2.1.priority)),B (decide (nd_2.1.priority < nd_1.1.priority)),B (decide (nd_2.1.priority < nd_1.1.priority))] [1,2,3,15] [101] (s':=⟨[(1,_),(2,_),(3,_),(15,B (decide (nd_2.1.priority < nd_1.1.priority)))],[(101,_)]⟩) rfl ⟨fun _=>.p om,fun _=>.p (aE e1 rfl rfl),fun _=>by exact .p (aD k6 rfl rfl),fun _=>.p (aw pd rfl rfl),fun _=>.p om,fun _=>.p (aE e2 rfl rfl),fun _=>by exact .p (aD k6 rfl rfl),fun _=>.p (aw pd rfl rfl),fun _=>.p (ij rfl rfl),fun _=>.p oa,trivial⟩ rfl rfl (ab.ite h rfl (fun _ h=>?_) (fun _ h=>?_))
   ·refine ab.seq (ab.ag ⟨[(1,_),(2,_),(3,_)],[(101,_)]⟩ rfl ?_)
    obtain ⟨nd_3,e3,h⟩:=aO h
    obtain ⟨nd_4,e4,h⟩:=aO h
    obtain ⟨x_5,e5,h⟩:=aO h
    obtain ⟨x_6,e6,h⟩:=aO h
    refine ab.bK mixed 15 [.b (.agg (bD t0)),.b (.one (.tr ae a0)),.b (.one (.tr ae a0)),.b (.aK (ao nd_3.1.x ++ (.int .u64 nd_3.1.priority :: (aj nd_3.1.cover ++ ([.tr ae nd_3.2.1,.tr ae nd_3.2.2]))))),.b (.aK [.tr ae nd_3.2.1,.tr ae nd_3.2.2]),.b (.one (.tr ae nd_3.2.1)),.b (.agg (bD t0)),.b (.one (.tr ae a0)),.b (.aK (ao nd_4.1.x ++ (.int .u64 nd_4.1.priority :: (aj nd_4.1.cover ++ ([.tr ae nd_4.2.1,.tr ae nd_4.2.2]))))),.b (.aK [.tr ae nd_4.2.2]),.b (.one (.tr ae nd_4.2.2)),.b (.one (.tr ae b0)),.b (.one (.tr ae x_5)),.b (.one (.tr ae x_6)),.b (.one (.tr ae x_6))] [6] [] (s':=⟨[(6,.b (.one (.tr ae x_6)))],[]⟩) rfl ⟨fun _=>.p (lp bw),fun _=>.p om,fun _=>.p om,fun _=>.p (aE e3 rfl rfl),fun _=>by exact .p (aD dB rfl rfl),fun _=>.p (aw br rfl rfl),fun _=>.p (lp bw),fun _=>.p om,fun _=>.p (aE e4 rfl rfl),fun _=>by exact .p (aD dA rfl rfl),fun _=>.p (aw br rfl rfl),fun _=>.p om,fun _=>.p (ak (ih e5) np rfl rfl),fun _=>.p (ak (bG e6) kZ rfl rfl),fun _=>.p oa,trivial⟩ rfl rfl (ab.ret (Fin.aL (Fin.aq ?_)))
    obtain rfl:=Option.some.inj h
    refine Fin.ag ⟨[(6,_)],[]⟩ rfl (Fin.au [.one (.tr ae x_6)] (.inl rfl) rfl (.cons (.tmp rfl) .nil) ⟨rfl,rfl⟩)
   ·refine ab.skip (Fin.ax (Fin.ag ⟨[(1,_),(2,_),(3,_)],[(101,_)]⟩ rfl (Fin.then (ab.seq ?_))))
    refine ab.ag ⟨[(1,_),(2,_),(3,_)],[(101,_)]⟩ rfl ?_
    obtain ⟨nd_7,e7,h⟩:=aO h
    obtain ⟨x_8,e8,h⟩:=aO h
    obtain ⟨nd_9,e9,h⟩:=aO h
    obtain ⟨x_10,e10,h⟩:=aO h
    refine ab.bK mixed 15 [.b (.agg (bD t0)),.b (.one (.tr ae b0)),.b (.agg (bD t0)),.b (.one (.tr ae a0)),.b (.one (.tr ae b0)),.b (.aK (ao nd_7.1.x ++ (.int .u64 nd_7.1.priority :: (aj nd_7.1.cover ++ ([.tr ae nd_7.2.1,.tr ae nd_7.2.2]))))),.b (.aK [.tr ae nd_7.2.1,.tr ae nd_7.2.2]),.b (.one (.tr ae nd_7.2.1)),.b (.one (.tr ae x_8)),.b (.one (.tr ae b0)),.b (.aK (ao nd_9.1.x ++ (.int .u64 nd_9.1.priority :: (aj nd_9.1.cover ++ ([.tr ae nd_9.2.1,.tr ae nd_9.2.2]))))),.b (.aK [.tr ae nd_9.2.2]),.b (.one (.tr ae nd_9.2.2)),.b (.one (.tr ae x_10)),.b (.one (.tr ae x_10))] [6] [] (s':=⟨[(6,.b (.one (.tr ae x_10)))],[]⟩) rfl ⟨fun _=>.p (lp bw),fun _=>.p om,fun _=>.p (lp bw),fun _=>.p om,fun _=>.p om,fun _=>.p (aE e7 rfl rfl),fun _=>by exact .p (aD dB rfl rfl),fun _=>.p (aw br rfl rfl),fun _=>.p (ak (ih e8) np rfl rfl),fun _=>.p om,fun _=>.p (aE e9 rfl rfl),fun _=>by exact .p (aD dA rfl rfl),fun _=>.p (aw br rfl rfl),fun _=>.p (ak (bG e10) kZ rfl rfl),fun _=>.p oa,trivial⟩ rfl rfl (ab.ret ?_)
    obtain rfl:=Option.some.inj h
    refine Fin.ag ⟨[(6,_)],[]⟩ rfl (Fin.au [.one (.tr ae x_10)] (.inl rfl) rfl (.cons (.tmp rfl) .nil) ⟨rfl,rfl⟩)
theorem ec {F:Nat} {t0:iz} {a0:cH bc} {b0:cH bc} {r:(cH bc)} (h:cc F t0 a0 b0 = some r):an Tryz.prog [] 82 [] [.agg (bD t0),.one (.tr ae a0),.one (.tr ae b0)] (Is [] (.b (.one (.tr ae r)))):=jv F h
def bz (F:Nat) (t0:iz) (x0:entry):Option iz :=
 Option.bind (eJ F t0 t0.root x0) (dS fun x_1 x_2=>(gn F t0.key x0).bind fun x_3=>(eW F x_3).bind fun x_4=>(aZ F t0 (.node (⟨x0,x_4,(⟨A3.zero,A3.zero⟩:bH)⟩:bc) (.leaf) (.leaf)) (.leaf) (.leaf)).bind fun x_5=>(cc F t0 x_1 x_5).bind fun x_6=>(cc F t0 x_6 x_2).bind fun x_7=>fy (⟨x_7,t0.compare,t0.key,t0.box⟩:iz) fun x_8=>some x_8)
theorem fW {F:Nat} {t0:iz} {x0:entry} {r:iz} (h:bz F t0 x0 = some r):an Tryz.prog [] 59 [] [.agg (bD t0),.agg (ao x0)] (Is [] (.b (.agg (bD r)))):=by
 unfold bz at h
 refine an.intro 35 Tryz.func59 Tryz.ntmps59 rfl (by simp) fun E=>?_
 show ab _ E ⟨35,[],[],[]⟩ _ ⟨[(0,.b (.agg (bD t0))),(1,.b (.agg (ao x0)))],[]⟩ _
 refine ab.seq (ab.aa ?_)
 refine Oc (bI (k:=101) rfl rfl) (Oc (bI (k:=102) rfl rfl) (Oc (ba (k:=103) pP rfl) ?_))
 refine af.ai ⟨[(2,Pt 101 0),(3,Pt 102 0),(4,Pt 103 0)],[(101,.box 47 (bD t0)),(102,.box 87 (ao x0)),(103,.box 47 [.tr ae (.leaf),.cY 0,.cY 0,.cY 0])]⟩ rfl (ab.seq (ab.aa ?_))
 refine Oc (lp bw) (Oc (ar fA rfl rfl) (Oc (aH br rfl rfl rfl) (Oc (lp bt) ?_)))
 obtain ⟨⟨x_1,x_2⟩,e1,h⟩:=aO h
 refine Oc (ak (ju e1) qT rfl rfl) (af.ag ⟨[(2,_),(3,_),(4,_),(13,.eu [.one (.tr ae x_1),.one (.tr ae x_2)])],[(101,_),(102,_),(103,_)]⟩ rfl (Oc om (Oc (ay rfl rfl) (Oc (ay rfl rfl) (Oc oa (Oc oa ?_))))))
 refine af.ai ⟨[(2,_),(3,_),(4,_),(5,.b (.one (.tr ae x_1))),(6,.b (.one (.tr ae x_2)))],[(101,_),(102,_),(103,_)]⟩ rfl (ab.seq ?_)
 obtain ⟨x_3,e2,h⟩:=aO h
 obtain ⟨x_4,e3,h⟩:=aO h
 obtain ⟨x_5,e4,h⟩:=aO h
 refine ab.lD mixed [false,false,false,false,false,false,false,false,true,false,false] [.b (.agg (bD t0)),.b (.agg (ao x0)),Pt 101 2,.b (.one (.cY t0.key)),.b (.agg (ao x0)),.b (.one (.int .u64 x_3)),.b (.one (.int .u64 x_4)),.b (.agg (ao x0 ++ (.int .u64 x_4 :: ((cG .i64) A3.zero ++ ((cG .i64) A3.zero ++ ([.tr ae (.leaf),.tr ae (.leaf)])))))),.b (.one (.tr ae (.node (⟨x0,x_4,(⟨A3.zero,A3.zero⟩:bH)⟩:bc) (.leaf) (.leaf)))),.b (.one (.tr ae x_5)),.b (.one (.tr ae x_5))] [⟨[false,false,false,false,false,false,false,false,false,false,false],[(2,Pt 101 0),(3,Pt 102 0),(4,Pt 103 0),(5,.b (.one (.tr ae x_1))),(6,.b (.one (.tr ae x_2)))],[(101,.box 47 (bD t0)),(102,.box 87 (ao x0)),(103,.box 47 [.tr ae (.leaf),.cY 0,.cY 0,.cY 0])],[true,true,true,true,true,true,true,true,true,true,true],[],[9,10]⟩,⟨[false,false,false,false,false,false,false,false,true,false,false],[(2,Pt 101 0),(3,Pt 102 0),(4,Pt 103 0),(5,.b (.one (.tr ae x_1))),(6,.b (.one (.tr ae x_2)))],[(101,.box 47 (bD t0)),(102,.box 87 (ao x0)),(103,.box 47 [.tr ae (.leaf),.cY 0,.cY 0,.cY 0])],[true,true,true,true,true,true,true,true,true,true,true],[1,2,3,4,5,6,7,8],[]⟩] rfl (⟨by kernel_rfl,⟨⟨.b (.agg (bD t0)),fun _=>rfl,fun _=>.p (by exact cF bw rfl rfl rfl rfl)⟩,⟨.b (.agg (ao x0)),fun _=>rfl,fun _=>.p (by exact cF bt rfl rfl rfl rfl)⟩,⟨Pt 101 2,fun _=>rfl,fun _=>.p (by exact ar si rfl rfl)⟩,⟨.b (.one (.cY t0.key)),fun _=>rfl,fun _=>.p (by exact aH tyOne44 rfl rfl rfl)⟩,⟨.b (.agg (ao x0)),fun _=>rfl,fun _=>.p (by exact cF bt rfl rfl rfl rfl)⟩,⟨.b (.one (.int .u64 x_3)),fun _=>rfl,fun _=>.p (by exact kq (rh e2) (ri e2) (ui e2) rfl rfl rfl)⟩,⟨.b (.one (.int .u64 x_4)),fun _=>rfl,fun _=>.p (by exact ak (n1 e3) goes81 rfl rfl)⟩,⟨.b (.agg (ao x0 ++ (.int .u64 x_4 :: ((cG .i64) A3.zero ++ ((cG .i64) A3.zero ++ ([.tr ae (.leaf),.tr ae (.leaf)])))))),fun _=>rfl,fun _=>.p (by exact cC nK rfl rfl)⟩,⟨_,[],.b (.one (.tr ae (.node (⟨x0,x_4,(⟨A3.zero,A3.zero⟩:bH)⟩:bc) (.leaf) (.leaf)))),rfl,fun _=>rfl,rfl,rfl,fun _=>.sM [101,102,103] (by exact .p (by exact op_boxT (enc:=ae) (⟨x0,x_4,(⟨A3.zero,A3.zero⟩:bH)⟩:bc) (.leaf) (.leaf) rfl rfl)) (by exact rfl)⟩,trivial,trivial,trivial⟩,⟨by kernel_rfl,⟨⟨.b (.agg (bD t0)),fun _=>rfl,fun _=>.p (by exact cF bw rfl rfl rfl rfl)⟩,trivial,trivial,trivial,trivial,trivial,trivial,trivial,trivial,⟨.b (.one (.tr ae x_5)),fun _=>rfl,fun _=>.p (by exact ak (bG e4) kZ rfl rfl)⟩,⟨.b (.one (.tr ae x_5)),fun _=>rfl,fun _=>.p (by exact bV rfl)⟩,trivial⟩,trivial⟩⟩) rfl rfl rfl [2,4,5,6,7] [101,103] (s':=⟨[(2,_),(4,_),(5,_),(6,_),(7,.b (.one (.tr ae x_5)))],[(101,_),(103,_)]⟩) rfl ?_
 refine ab.seq (ab.ag ⟨[(2,_),(4,_),(5,_),(6,_),(7,_)],[(101,_),(103,_)]⟩ rfl ?_)
 obtain ⟨x_6,e5,h⟩:=aO h
 obtain ⟨x_7,e6,h⟩:=aO h
 refine ab.bK mixed 8 [.b (.agg (bD t0)),.b (.agg (bD t0)),.b (.one (.tr ae x_1)),.b (.one (.tr ae x_5)),.b (.one (.tr ae x_6)),.b (.one (.tr ae x_2)),.b (.one (.tr ae x_7)),Pt 101 0] [2,4] [101,103] (s':=⟨[(2,_),(4,_)],[(101,.box 47 [.tr ae x_7,.cY t0.compare,.cY t0.key,.cY t0.box]),(103,_)]⟩) rfl ⟨fun _=>.p (lp bw),fun _=>.p (lp bw),fun _=>.p om,fun _=>.p om,fun _=>.p (ak (ec e5) np rfl rfl),fun _=>.p om,fun _=>.p (ak (ec e6) np rfl rfl),fun _=>.p (ar fA rfl rfl),trivial⟩ ⟨_,by exact .p (dX br rfl rfl rfl (Nat.le_of_ble_eq_true rfl) rfl),rfl⟩ rfl (ab.seq (ab.aa ?_))
 refine af.lB bD h rfl (lp bw) (fun x_8 h=>?_)
 refine Oc (aF bw rfl rfl rfl rfl (Nat.le_of_ble_eq_true rfl) rfl) (af.ai ⟨[(4,_)],[(103,.box 47 (bD x_8))]⟩ rfl (ab.ret ?_))
 obtain rfl:=Option.some.inj h
 refine Fin.ag ⟨[(4,_)],[(103,_)]⟩ rfl (Fin.au [.agg (bD x_8)] (.inl rfl) rfl (.cons (.agg bw rfl rfl rfl rfl) .nil) ⟨rfl,rfl⟩)
def b5 (F:Nat) (s0:dd) (id0:Int) (b0:bH):Option (dd × Int) :=
 (bY F b0).bind fun x_1=>if (!x_1) = true then (fy (⟨(⟨.leaf,0,0,0⟩:iz),(⟨.leaf,0,0,0⟩:iz)⟩:dd) fun x_2=>some (x_2,1)) else (Option.bind (cn F s0 id0) (dS fun x_3 x_4=>if x_4 = true then (fy (⟨(⟨.leaf,0,0,0⟩:iz),(⟨.leaf,0,0,0⟩:iz)⟩:dd) fun x_5=>some (x_5,6)) else ((bz F s0.ids (⟨id0,b0⟩:entry)).bind fun x_6=>(bz F s0.boxes (⟨id0,b0⟩:entry)).bind fun x_7=>some ((⟨x_6,x_7⟩:dd),0))))
theorem cV {F:Nat} {s0:dd} {id0:Int} {b0:bH} {r:dd × Int} (h:b5 F s0 id0 b0 = some r):an Tryz.prog [] 29 [] [.agg (aI s0),.one (.i id0),.agg (aj b0)] (Is [] (.eu [.agg (aI r.1),.one (.i r.2)])):=by
 unfold b5 at h
 refine an.intro 35 Tryz.func29 Tryz.ntmps29 rfl (by simp) fun E=>?_
 show ab _ E ⟨35,[],[],[]⟩ _ ⟨[(0,.b (.agg (aI s0))),(1,I id0),(2,.b (.agg (aj b0)))],[]⟩ _
 refine ab.seq (ab.aa ?_)
 refine Oc (bI (k:=101) rfl rfl) (Oc (bI (k:=102) rfl rfl) (Oc (ba (k:=103) fl rfl) (Oc oa ?_)))
 refine af.ai ⟨[(1,I id0),(3,Pt 101 0),(5,Pt 102 0),(6,Pt 103 0)],[(101,.box 49 (aI s0)),(102,.box 25 (aj b0)),(103,.box 49 [.tr ae (.leaf),.cY 0,.cY 0,.cY 0,.tr ae (.leaf),.cY 0,.cY 0,.cY 0])]⟩ rfl (ab.seq (ab.seq (ab.aa ?_)))
 refine Oc (lp aC) ?_
 obtain ⟨x_1,e1,h⟩:=aO h
 refine Oc (ak (cQ e1) lY rfl rfl) (Oc (dU rfl) ?_)
 refine af.ai ⟨[(1,_),(3,_),(5,_),(6,_),(13,B (!x_1))],[(101,_),(102,_),(103,_)]⟩ rfl (ab.ite h rfl (fun _ h=>?_) (fun _ h=>?_))
 ·refine ab.seq (ab.aa ?_)
  refine af.lB aI h rfl (cC eP rfl rfl) (fun x_2 h=>?_)
  refine Oc (aF aT rfl rfl rfl rfl (Nat.le_of_ble_eq_true rfl) rfl) (Oc oa ?_)
  refine af.ai ⟨[(6,_),(7,I 1)],[(103,.box 49 (aI x_2))]⟩ rfl (ab.ret (Fin.aq ?_))
  obtain rfl:=Option.some.inj h
  refine Fin.ag ⟨[(6,_),(7,_)],[(103,_)]⟩ rfl (Fin.au [.agg (aI x_2),.one (.i 1)] (.inl rfl) rfl (.cons (.agg aT rfl rfl rfl rfl) (.cons (.tmp rfl) .nil)) ⟨rfl,rfl⟩)
 ·refine ab.skip (Fin.ag ⟨[(1,_),(3,_),(5,_),(6,_)],[(101,_),(102,_),(103,_)]⟩ rfl (Fin.then (ab.seq (ab.seq (ab.aa ?_)))))
  refine Oc (lp aT) (Oc om ?_)
  obtain ⟨⟨x_3,x_4⟩,e2,h⟩:=aO h
  refine Oc (ak (eK e2) qU rfl rfl) (Oc om (Oc (ay rfl rfl) ?_))
  refine af.ag ⟨[(1,_),(3,_),(5,_),(6,_),(15,.eu [.agg (ao x_3),.one (.bool x_4)]),(19,.b (.agg (ao x_3)))],[(101,_),(102,_),(103,_)]⟩ rfl (Oc (ay rfl rfl) (Oc (ba (k:=104) gH rfl) (Oc (aF bt rfl rfl rfl rfl (Nat.le_of_ble_eq_true rfl) rfl) (Oc oa ?_))))
  refine af.ai ⟨[(1,_),(3,_),(5,_),(6,_),(9,B x_4)],[(101,_),(102,_),(103,_)]⟩ rfl (ab.seq (ab.aa ?_))
  refine Oc om (af.ai ⟨[(1,_),(3,_),(5,_),(6,_),(21,B x_4)],[(101,_),(102,_),(103,_)]⟩ rfl (ab.ite h rfl (fun _ h=>?_) (fun _ h=>?_)))
  ·refine ab.seq (ab.aa ?_)
   refine af.lB aI h rfl (cC eP rfl rfl) (fun x_5 h=>?_)
   refine Oc (aF aT rfl rfl rfl rfl (Nat.le_of_ble_eq_true rfl) rfl) (Oc oa ?_)
   refine af.ai ⟨[(6,_),(7,I 6)],[(103,.box 49 (aI x_5))]⟩ rfl (ab.ret (Fin.aq ?_))
   obtain rfl:=Option.some.inj h
   refine Fin.ag ⟨[(6,_),(7,_)],[(103,_)]⟩ rfl (Fin.au [.agg (aI x_5),.one (.i 6)] (.inl rfl) rfl (.cons (.agg aT rfl rfl rfl rfl) (.cons (.tmp rfl) .nil)) ⟨rfl,rfl⟩)
  ·refine ab.skip (Fin.ag ⟨[(1,_),(3,_),(5,_),(6,_)],[(101,_),(102,_),(103,_)]⟩ rfl (Fin.then (ab.seq (ab.aa ?_))))
   refine Oc om (Oc (lp aC) (Oc (cC oD rfl rfl) (Oc (ba (k:=105) gH rfl) (Oc (aF bt rfl rfl rfl rfl (Nat.le_of_ble_eq_true rfl) rfl) ?_))))
   refine af.ai ⟨[(3,_),(6,_),(10,Pt 105 0)],[(101,_),(103,_),(105,.box 87 (.i id0 :: (aj b0)))]⟩ rfl (ab.seq ?_)
   obtain ⟨x_6,e3,h⟩:=aO h
   obtain ⟨x_7,e4,h⟩:=aO h
   refine ab.bK mixed 9 [Pt 101 0,.b (.agg (bD s0.ids)),.b (.agg (.i id0 :: (aj b0))),.b (.agg (bD x_6)),Pt 101 4,.b (.agg (bD s0.boxes)),.b (.agg (.i id0 :: (aj b0))),.b (.agg (bD x_7)),.b (.agg (bD x_6 ++ (bD x_7)))] [6,7] [103] (s':=⟨[(6,_),(7,I 0)],[(103,.box 49 (bD x_6 ++ (bD x_7)))]⟩) rfl ⟨fun _=>.p (ar ko rfl rfl),fun _=>.p (lp bw),fun _=>.p (lp bt),fun _=>.p (ak (fW e3) tt rfl rfl),fun _=>.p (ar l3 rfl rfl),fun _=>.p (lp bw),fun _=>.p (lp bt),fun _=>.p (ak (fW e4) tt rfl rfl),fun _=>.p (cC eP rfl rfl),trivial⟩ ⟨_,by exact .p (aF aT rfl rfl rfl rfl (Nat.le_of_ble_eq_true rfl) rfl),⟨_,by exact .p oa,rfl⟩⟩ rfl (ab.ret ?_)
   obtain rfl:=Option.some.inj h
   refine Fin.ag ⟨[(6,_),(7,_)],[(103,_)]⟩ rfl (Fin.au [.agg (bD x_6 ++ (bD x_7)),.one (.i 0)] (.inl rfl) rfl (.cons (.agg aT rfl rfl rfl rfl) (.cons (.tmp rfl) .nil)) ⟨rfl,rfl⟩)
def cz (F:Nat) (s0:dd) (b0:bH):Option (List Int) :=
 Option.bind (se (fun t=>dE F t b0) s0.boxes.root) (fun xs_1=>Option.bind (each (fun outf0_3=>fun x_2=>(b4 F x_2.b b0).bind fun x_4=>if x_4 = true then ((jy outf0_3 [x_2.id]).bind fun x_5=>some (.inl x_5)) else (some (.inl outf0_3))) (xs_1) []) (cm (fun outf0_3=>(fK F outf0_3).bind fun x_6=>some x_6) (fun (_:Unit)=>none)))
theorem dg {F:Nat} {s0:dd} {b0:bH} {r:(List Int)} (h:cz F s0 b0 = some r):an Tryz.prog [] 55 [] [.agg (aI s0),.agg (aj b0)] (Is [(51,.row 3 1 (r.map eI))] (.b (.row 51))):=by
 unfold cz at h
 refine an.tm 25 Tryz.func55 Tryz.ntmps55 rfl (by simp) fun E=>?_
 show ab _ E ⟨25,[],[],[]⟩ _ ⟨[(0,.b (.agg (aI s0))),(1,.b (.agg (aj b0)))],[]⟩ _
 refine ab.seq (ab.aa ?_)
 refine Oc (lI rfl) (Oc (lI rfl) (Oc oa ?_))
 refine af.ai ⟨[(2,.b (.aK (aI s0))),(3,.b (.aK (aj b0)))],[]⟩ rfl (ab.seq (ab.aa ?_))
 refine Oc (ba (k:=101) tQ rfl) (af.ai ⟨[(2,_),(3,_),(5,Pt 101 0)],[(101,.box 51 [.nil])]⟩ rfl (ab.seq (ab.seq (ab.aa ?_))))
 refine Oc (aD l3 rfl rfl) (Oc (aD fA rfl rfl) (Oc (aw br rfl rfl) (Oc (gw rfl) (Oc (ak qk tu rfl rfl) ?_))))
 refine af.ai ⟨[(3,_),(5,_),(11,.b (.one (.eZ 77 [CP.rp [.tr ae s0.boxes.root],CP.rp [.eZ 74 [CP.rp (aj b0)]]])))],[(101,_)]⟩ rfl ?_
 obtain ⟨xs_1,e1,h⟩:=aO h
 refine ab.ag ⟨[(3,.b (.aK (aj b0))),(5,Pt 101 0),(11,.b (.one (.eZ 77 [CP.rp [.tr ae s0.boxes.root],CP.rp [.eZ 74 [CP.rp (aj b0)]]])))],[(101,.box 51 [.nil])]⟩ rfl (ab.toX 101 rfl (ab.gY 101 0 104 1 3 rfl rfl (by decide) (by decide) rfl (ab.ag ⟨[(3,_),(5,_),(11,_)],[(101,.bW 51 [.row 104]),(104,.row 3 1 ([].map eI))]⟩ rfl (ab.tf _ sT _ _ (fun (outf0_3:List Int)=>[(101,.bW 51 [.row 104]),(104,.row 3 1 (outf0_3.map eI))]) (fun (_:Unit)=>([]:List (Nat × OC))) (fun (outf0_3:List Int)=>fun x_2=>⟨[(3,.b (.aK (aj b0))),(5,Pt 101 0),(6,Pt 106 0)],[(101,.bW 51 [.row 104]),(104,.row 3 1 (outf0_3.map eI)),(106,.box 87 (ao x_2))]⟩) h (ql qw e1) tp rfl rfl rfl (fun _=>rfl) (fun _=>rfl) (fun _=>rfl) (fun _ _=>rfl) (fun _ _=>rfl) rfl (fun _=>rfl) ?_ ?_ ?_ ?_))))
 ·rintro E l outf0_3 x_2 z _ h2
  refine aX.keep [3,5,11,12] [101,104] (s':=⟨[(3,.b (.aK (aj b0))),(5,Pt 101 0),(11,.b (.one (.eZ 77 [CP.rp [.tr ae s0.boxes.root],CP.rp [.eZ 74 [CP.rp (aj b0)]]]))),(12,.b (.agg (ao x_2)))],[(101,.bW 51 [.row 104]),(104,.row 3 1 (outf0_3.map eI))]⟩) rfl (aX.aa (.inr ⟨_,rfl⟩) (Oc (ba (k:=106) gH rfl) (Oc (aF bt rfl rfl rfl rfl (Nat.le_of_ble_eq_true rfl) rfl) ?_)))
  refine af.nil ?_
  exact Fin.ag ⟨[(3,_),(5,_),(6,Pt 106 0)],[(101,_),(104,_),(106,.box 87 (ao x_2))]⟩ rfl (fun a w hr=>hr)
 ·rintro E l outf0_3 x_2 z _ h2
  refine aX.block (aX.seq (aX.aa (.inr ⟨_,rfl⟩) (Oc (ar gA rfl rfl) (Oc (lp aC) (Oc (bU aC rfl rfl rfl) ?_)))))
  obtain ⟨x_4,e3,h2⟩:=aO h2
  refine Oc (ak (c5 e3) lX rfl rfl) (af.nil (Fin.ag ⟨[(3,.b (.aK (aj b0))),(5,Pt 101 0),(6,Pt 106 0),(16,B x_4)],[(101,.bW 51 [.row 104]),(104,.row 3 1 (outf0_3.map eI)),(106,.box 87 (ao x_2))]⟩ rfl (Fin.gg ?_ (fun ⟨_,_,hl⟩=>hl))))
  refine aX.ite h2 rfl (fun _ h2=>?_) (fun _ h2=>?_)
  ·refine aX.aa (.inr ⟨_,rfl⟩) (Oc (gP mY rfl rfl rfl) (Oc (ar dK rfl rfl) (Oc (aH aQ rfl rfl rfl) (Oc (b9 (k:=107) (es:=[x_2.id].map eI) cp rfl rfl (cB fun _=>rfl) rfl (by decide) (by decide) rfl) ?_))))
   refine af.forget 101 0 rfl ?_
   obtain ⟨x_5,e4,h2⟩:=aO h2
   refine Oc (eV cp (oA e4) (oz e4) rfl rfl rfl rfl (kh e4) rfl) (Oc (mP mY rfl rfl rfl rfl (Nat.le_of_ble_eq_true rfl) rfl) ?_)
   refine af.nil (Fin.ax ?_)
   obtain rfl:=Option.some.inj h2
   exact Fin.ag ⟨[],[(101,.bW 51 [.row 104]),(104,.row 3 1 (x_5.map eI))]⟩ rfl (fun a w hr=>⟨_,rfl,hr⟩)
  ·refine aX.skip (Fin.ax ?_)
   obtain rfl:=Option.some.inj h2
   exact Fin.ag ⟨[],[(101,_),(104,_)]⟩ rfl (fun a w hr=>⟨_,rfl,hr⟩)
 ·rintro E D outf0_3 h5
  refine ab.seq (ab.aa ?_)
  refine Oc (gP mY rfl rfl rfl) (af.sc 104 rfl ?_)
  obtain ⟨x_6,e6,h5⟩:=aO h5
  refine Oc (cW (own_a:=[(104,_)]) ((mx e6).sw 1 104) goes75 rfl ⟨rfl,trivial⟩ rfl rfl) (af.sb 104 rfl (af.ai ⟨[(5,Pt 101 0)],[(101,.bW 51 [.row 104]),(104,.row 3 1 (x_6.map eI))]⟩ rfl (ab.seq (ab.aa ?_))))
  refine Oc (gP mY rfl rfl rfl) (Oc oa ?_)
  refine af.ai ⟨[(4,.b (.row 104))],[(104,_)]⟩ rfl (ab.ret ?_)
  obtain rfl:=Option.some.inj h5
  refine Fin.ag ⟨[(4,.b (.row 104))],[(104,.row 3 1 (x_6.map eI))]⟩ rfl (Fin.rename 104 51 rfl (by decide) rfl (Fin.ag ⟨[(4,.b (.row 51))],[(51,.row 3 1 (x_6.map eI))]⟩ rfl ?_))
  exact Fin.result [.row 51] (.inl rfl) rfl (.cons (.tmp rfl) .nil) ⟨rfl,rfl⟩
 ·rintro E D ⟨⟩ h5
  cases h5
def dr (F:Nat) (s0:dd) (b0:bH):Option ((List Int) × Int) :=
 (bY F b0).bind fun x_1=>if (!x_1) = true then (some ([],1)) else ((cz F s0 b0).bind fun x_2=>some (x_2,0))
theorem gj (kr0:Nat) {F:Nat} {s0:dd} {b0:bH} {r:(List Int) × Int} (h:dr F s0 b0 = some r):an Tryz.prog [] 31 [] [.agg (aI s0),.agg (aj b0)] (Is [(kr0,.row 3 1 (r.1.map eI))] (.eu [.row kr0,.one (.i r.2)])):=by
 unfold dr at h
 refine an.intro 12 Tryz.func31 Tryz.ntmps31 rfl (by simp) fun E=>?_
 show ab _ E ⟨12,[],[],[]⟩ _ ⟨[(0,.b (.agg (aI s0))),(1,.b (.agg (aj b0)))],[]⟩ _
 refine ab.seq (ab.aa ?_)
 refine Oc (bI (k:=101) rfl rfl) (Oc (bI (k:=102) rfl rfl) (Oc oa (Oc oa ?_)))
 refine af.ai ⟨[(2,Pt 101 0),(3,Pt 102 0)],[(101,.box 49 (aI s0)),(102,.box 25 (aj b0))]⟩ rfl (ab.seq (ab.seq (ab.aa ?_)))
 refine Oc (lp aC) ?_
 obtain ⟨x_1,e1,h⟩:=aO h
 refine Oc (ak (cQ e1) lY rfl rfl) (Oc (dU rfl) ?_)
 refine af.ai ⟨[(2,_),(3,_),(8,B (!x_1))],[(101,_),(102,_)]⟩ rfl (ab.ite h rfl (fun _ h=>?_) (fun _ h=>?_))
 ·refine ab.seq (ab.aa ?_)
  refine Oc oa (Oc oa ?_)
  refine af.ai ⟨[(4,.b (.one (.nil))),(5,I 1)],[]⟩ rfl (ab.ret (Fin.aq ?_))
  obtain rfl:=Option.some.inj h
  refine Fin.ag ⟨[(4,_),(5,_)],[]⟩ rfl (Fin.eE 4 103 1 3 rfl (by decide) rfl (Fin.iT 103 kr0 [.row 103,.one (.i 1)] (.inl rfl) rfl (.cons (.tmp rfl) (.cons (.tmp rfl) .nil)) rfl rfl rfl rfl ⟨rfl,rfl⟩))
 ·refine ab.skip (Fin.ag ⟨[(2,_),(3,_)],[(101,_),(102,_)]⟩ rfl (Fin.then (ab.seq (ab.aa ?_))))
  refine Oc (lp aT) (Oc (lp aC) ?_)
  obtain ⟨x_2,e2,h⟩:=aO h
  refine Oc (cW (own_a:=[]) ((dg e2).sw 51 104) o7 rfl trivial rfl rfl) (Oc oa (Oc oa ?_))
  refine af.ai ⟨[(4,.b (.row 104)),(5,I 0)],[(104,.row 3 1 (x_2.map eI))]⟩ rfl (ab.ret ?_)
  obtain rfl:=Option.some.inj h
  refine Fin.ag ⟨[(4,_),(5,_)],[(104,_)]⟩ rfl (Fin.iT 104 kr0 [.row 104,.one (.i 0)] (.inl rfl) rfl (.cons (.tmp rfl) (.cons (.tmp rfl) .nil)) rfl rfl rfl rfl ⟨rfl,rfl⟩)
def bR (F:Nat):Nat → iz → (cH bc) → entry → Option (cH bc)
 | 0,_,_,_=>none
 | n + 1,t0,n0,x0=>Option.bind (iO n0) (fun nd_1=>(fj F t0.compare x0 nd_1.1.x).bind fun x_2=>if (decide (x_2 < 0)) = true then (Option.bind (iO n0) (fun nd_3=>(bR F n t0 nd_3.2.1 x0).bind fun x_4=>Option.bind (iO n0) (fun nd_5=>(aZ F t0 n0 x_4 nd_5.2.2).bind fun x_6=>some x_6))) else (if (decide (0 < x_2)) = true then (Option.bind (iO n0) (fun nd_7=>Option.bind (iO n0) (fun nd_8=>(bR F n t0 nd_8.2.2 x0).bind fun x_9=>(aZ F t0 n0 nd_7.2.1 x_9).bind fun x_10=>some x_10))) else (Option.bind (iO n0) (fun nd_11=>Option.bind (iO n0) (fun nd_12=>(cc F t0 nd_11.2.1 nd_12.2.2).bind fun x_13=>some x_13)))))
def fv (F:Nat) (t0:iz) (n0:cH bc) (x0:entry):Option (cH bc):=bR F F t0 n0 x0
theorem jw {F:Nat}:∀ (n:Nat) {t0:iz} {n0:cH bc} {x0:entry} {r:(cH bc)} (h:bR F n t0 n0 x0 = some r),an Tryz.prog [] 83 [] [.agg (bD t0),.one (.tr ae n0),.agg (ao x0)] (Is [] (.b (.one (.tr ae r)))):=by
 intro n
 induction n with
 | zero=>intro t0 n0 x0 r h; simp [bR] at h
 | succ n ih=>
 intro t0 n0 x0 r h
 unfold bR at h
 refine an.intro 60 Tryz.func83 Tryz.ntmps83 rfl (by simp) fun E=>?_
 show ab _ E ⟨60,[],[],[]⟩ _ ⟨[(0,.b (.agg (bD t0))),(1,.b (.one (.tr ae n0))),(2,.b (.agg (ao x0)))],[]⟩ _
 refine ab.seq (ab.aa ?_)
 refine Oc (bI (k:=101) rfl rfl) (Oc (bI (k:=102) rfl rfl) (Oc oa ?_))
 refine af.ai ⟨[(1,.b (.one (.tr ae n0))),(3,Pt 101 0),(5,Pt 102 0)],[(101,.box 47 (bD t0)),(102,.box 87 (ao x0))]⟩ rfl (ab.seq (ab.seq ?_))
 refine ab.ag ⟨[(1,_),(3,_),(5,_)],[(101,_),(102,_)]⟩ rfl ?_
 obtain ⟨nd_1,e1,h⟩:=aO h
 obtain ⟨x_2,e2,h⟩:=aO h
 refine ab.bK mixed 9 [Pt 101 1,.b (.one (.cY t0.compare)),.b (.agg (ao x0)),.b (.one (.tr ae n0)),.b (.aK (ao nd_1.1.x ++ (.int .u64 nd_1.1.priority :: (aj nd_1.1.cover ++ ([.tr ae nd_1.2.1,.tr ae nd_1.2.2]))))),.b (.aK (ao nd_1.1.x ++ (.int .u64 nd_1.1.priority :: (aj nd_1.1.cover ++ ([.tr ae nd_1.2.1,.tr ae nd_1.2.2]))))),.b (.agg (ao nd_1.1.x)),I x_2,I x_2] [1,3,5,7] [101,102] (s':=⟨[(1,_),(3,_),(5,_),(7,I x_2)],[(101,_),(102,_)]⟩) rfl ⟨fun _=>.p (ar oC rfl rfl),fun _=>.p (aH rP rfl rfl rfl),fun _=>.p (lp bt),fun _=>.p om,fun _=>.p (aE e1 rfl rfl),fun _=>by exact .p (aD dW rfl rfl),fun _=>.p (bU bt rfl rfl rfl),fun _=>.p (kq (nW e2) (nX e2) (qi e2) rfl rfl rfl),fun _=>.p oa,trivial⟩ rfl rfl (ab.block (ab.seq (ab.aa ?_)))
 refine Oc om (Oc (bf rfl rfl) (Oc oa ?_))
 refine af.ai ⟨[(1,_),(3,_),(5,_),(7,_),(16,B (decide (x_2 < 0)))],[(101,_),(102,_)]⟩ rfl (ab.ite h rfl (fun _ h=>?_) (fun _ h=>?_))
 ·refine ab.seq (ab.ag ⟨[(1,_),(3,_),(5,_)],[(101,_),(102,_)]⟩ rfl ?_)
  obtain ⟨nd_3,e3,h⟩:=aO h
  obtain ⟨x_4,e4,h⟩:=aO h
  obtain ⟨nd_5,e5,h⟩:=aO h
  obtain ⟨x_6,e6,h⟩:=aO h
  refine ab.bK mixed 15 [.b (.agg (bD t0)),.b (.one (.tr ae n0)),.b (.agg (bD t0)),.b (.one (.tr ae n0)),.b (.aK (ao nd_3.1.x ++ (.int .u64 nd_3.1.priority :: (aj nd_3.1.cover ++ ([.tr ae nd_3.2.1,.tr ae nd_3.2.2]))))),.b (.aK [.tr ae nd_3.2.1,.tr ae nd_3.2.2]),.b (.one (.tr ae nd_3.2.1)),.b (.agg (ao x0)),.b (.one (.tr ae x_4)),.b (.one (.tr ae n0)),.b (.aK (ao nd_5.1.x ++ (.int .u64 nd_5.1.priority :: (aj nd_5.1.cover ++ ([.tr ae nd_5.2.1,.tr ae nd_5.2.2]))))),.b (.aK [.tr ae nd_5.2.2]),.b (.one (.tr ae nd_5.2.2)),.b (.one (.tr ae x_6)),.b (.one (.tr ae x_6))] [6] [] (s':=⟨[(6,.b (.one (.tr ae x_6)))],[]⟩) rfl ⟨fun _=>.p (lp bw),fun _=>.p om,fun _=>.p (lp bw),fun _=>.p om,fun _=>.p (aE e3 rfl rfl),fun _=>by exact .p (aD dB rfl rfl),fun _=>.p (aw br rfl rfl),fun _=>.p (lp bt),fun _=>.p (ak (ih e4) qS rfl rfl),fun _=>.p om,fun _=>.p (aE e5 rfl rfl),fun _=>by exact .p (aD dA rfl rfl),fun _=>.p (aw br rfl rfl),fun _=>.p (ak (bG e6) kZ rfl rfl),fun _=>.p oa,trivial⟩ rfl rfl (ab.ret (Fin.aL (Fin.aq ?_)))
  obtain rfl:=Option.some.inj h
  refine Fin.ag ⟨[(6,_)],[]⟩ rfl (Fin.au [.one (.tr ae x_6)] (.inl rfl) rfl (.cons (.tmp rfl) .nil) ⟨rfl,rfl⟩)
 ·refine ab.seq (ab.aa ?_)
  refine Oc om (Oc (ij rfl rfl) (Oc oa ?_))
  refine af.ai ⟨[(1,_),(3,_),(5,_),(33,B (decide (0 < x_2)))],[(101,_),(102,_)]⟩ rfl (ab.ite h rfl (fun _ h=>?_) (fun _ h=>?_))
  ·refine ab.seq (ab.ag ⟨[(1,_),(3,_),(5,_)],[(101,_),(102,_)]⟩ rfl ?_)
   obtain ⟨nd_7,e7,h⟩:=aO h
   obtain ⟨nd_8,e8,h⟩:=aO h
   obtain ⟨x_9,e9,h⟩:=aO h
   obtain ⟨x_10,e10,h⟩:=aO h
   refine ab.bK mixed 15 [.b (.agg (bD t0)),.b (.one (.tr ae n0)),.b (.one (.tr ae n0)),.b (.aK (ao nd_7.1.x ++ (.int .u64 nd_7.1.priority :: (aj nd_7.1.cover ++ ([.tr ae nd_7.2.1,.tr ae nd_7.2.2]))))),.b (.aK [.tr ae nd_7.2.1,.tr ae nd_7.2.2]),.b (.one (.tr ae nd_7.2.1)),.b (.agg (bD t0)),.b (.one (.tr ae n0)),.b (.aK (ao nd_8.1.x ++ (.int .u64 nd_8.1.priority :: (aj nd_8.1.cover ++ ([.tr ae nd_8.2.1,.tr ae nd_8.2.2]))))),.b (.aK [.tr ae nd_8.2.2]),.b (.one (.tr ae nd_8.2.2)),.b (.agg (ao x0)),.b (.one (.tr ae x_9)),.b (.one (.tr ae x_10)),.b (.one (.tr ae x_10))] [6] [] (s':=⟨[(6,.b (.one (.tr ae x_10)))],[]⟩) rfl ⟨fun _=>.p (lp bw),fun _=>.p om,fun _=>.p om,fun _=>.p (aE e7 rfl rfl),fun _=>by exact .p (aD dB rfl rfl),fun _=>.p (aw br rfl rfl),fun _=>.p (lp bw),fun _=>.p om,fun _=>.p (aE e8 rfl rfl),fun _=>by exact .p (aD dA rfl rfl),fun _=>.p (aw br rfl rfl),fun _=>.p (lp bt),fun _=>.p (ak (ih e9) qS rfl rfl),fun _=>.p (ak (bG e10) kZ rfl rfl),fun _=>.p oa,trivial⟩ rfl rfl (ab.ret (Fin.aL (Fin.aq ?_)))
   obtain rfl:=Option.some.inj h
   refine Fin.ag ⟨[(6,_)],[]⟩ rfl (Fin.au [.one (.tr ae x_10)] (.inl rfl) rfl (.cons (.tmp rfl) .nil) ⟨rfl,rfl⟩)
  ·refine ab.skip (Fin.ax (Fin.ag ⟨[(1,_),(3,_)],[(101,_)]⟩ rfl (Fin.then (ab.seq ?_))))
   refine ab.ag ⟨[(1,_),(3,_)],[(101,_)]⟩ rfl ?_
   obtain ⟨nd_11,e11,h⟩:=aO h
   obtain ⟨nd_12,e12,h⟩:=aO h
   obtain ⟨x_13,e13,h⟩:=aO h
   refine ab.bK mixed 11 [.b (.agg (bD t0)),.b (.one (.tr ae n0)),.b (.aK (ao nd_11.1.x ++ (.int .u64 nd_11.1.priority :: (aj nd_11.1.cover ++ ([.tr ae nd_11.2.1,.tr ae nd_11.2.2]))))),.b (.aK [.tr ae nd_11.2.1,.tr ae nd_11.2.2]),.b (.one (.tr ae nd_11.2.1)),.b (.one (.tr ae n0)),.b (.aK (ao nd_12.1.x ++ (.int .u64 nd_12.1.priority :: (aj nd_12.1.cover ++ ([.tr ae nd_12.2.1,.tr ae nd_12.2.2]))))),.b (.aK [.tr ae nd_12.2.2]),.b (.one (.tr ae nd_12.2.2)),.b (.one (.tr ae x_13)),.b (.one (.tr ae x_13))] [6] [] (s':=⟨[(6,.b (.one (.tr ae x_13)))],[]⟩) rfl ⟨fun _=>.p (lp bw),fun _=>.p om,fun _=>.p (aE e11 rfl rfl),fun _=>by exact .p (aD dB rfl rfl),fun _=>.p (aw br rfl rfl),fun _=>.p om,fun _=>.p (aE e12 rfl rfl),fun _=>by exact .p (aD dA rfl rfl),fun _=>.p (aw br rfl rfl),fun _=>.p (ak (ec e13) np rfl rfl),fun _=>.p oa,trivial⟩ rfl rfl (ab.ret ?_)
   obtain rfl:=Option.some.inj h
   refine Fin.ag ⟨[(6,_)],[]⟩ rfl (Fin.au [.one (.tr ae x_13)] (.inl rfl) rfl (.cons (.tmp rfl) .nil) ⟨rfl,rfl⟩)
theorem jZ {F:Nat} {t0:iz} {n0:cH bc} {x0:entry} {r:(cH bc)} (h:fv F t0 n0 x0 = some r):an Tryz.prog [] 83 [] [.agg (bD t0),.one (.tr ae n0),.agg (ao x0)] (Is [] (.b (.one (.tr ae r)))):=jw F h
def bo (F:Nat) (t0:iz) (x0:entry):Option iz :=
 (fv F t0 t0.root x0).bind fun x_1=>fy (⟨x_1,t0.compare,t0.key,t0.box⟩:iz) fun x_2=>some x_2
theorem eY {F:Nat} {t0:iz} {x0:entry} {r:iz} (h:bo F t0 x0 = some r):an Tryz.prog [] 60 [] [.agg (bD t0),.agg (ao x0)] (Is [] (.b (.agg (bD r)))):=by
 unfold bo at h
 refine an.intro 12 Tryz.func60 Tryz.ntmps60 rfl (by simp) fun E=>?_
 show ab _ E ⟨12,[],[],[]⟩ _ ⟨[(0,.b (.agg (bD t0))),(1,.b (.agg (ao x0)))],[]⟩ _
 refine ab.seq (ab.aa ?_)
 refine Oc (bI (k:=101) rfl rfl) (Oc (bI (k:=102) rfl rfl) (Oc (ba (k:=103) pP rfl) ?_))
 refine af.ai ⟨[(2,Pt 101 0),(3,Pt 102 0),(4,Pt 103 0)],[(101,.box 47 (bD t0)),(102,.box 87 (ao x0)),(103,.box 47 [.tr ae (.leaf),.cY 0,.cY 0,.cY 0])]⟩ rfl (ab.seq (ab.aa ?_))
 refine Oc (lp bw) (Oc (ar fA rfl rfl) (Oc (aH br rfl rfl rfl) (Oc (lp bt) ?_)))
 obtain ⟨x_1,e1,h⟩:=aO h
 refine Oc (ak (jZ e1) qS rfl rfl) (Oc (ar fA rfl rfl) (Oc (dX br rfl rfl rfl (Nat.le_of_ble_eq_true rfl) rfl) ?_))
 refine af.ai ⟨[(2,_),(4,_)],[(101,.box 47 [.tr ae x_1,.cY t0.compare,.cY t0.key,.cY t0.box]),(103,_)]⟩ rfl (ab.seq (ab.aa ?_))
 refine af.lB bD h rfl (lp bw) (fun x_2 h=>?_)
 refine Oc (aF bw rfl rfl rfl rfl (Nat.le_of_ble_eq_true rfl) rfl) (af.ai ⟨[(4,_)],[(103,.box 47 (bD x_2))]⟩ rfl (ab.ret ?_))
 obtain rfl:=Option.some.inj h
 refine Fin.ag ⟨[(4,_)],[(103,_)]⟩ rfl (Fin.au [.agg (bD x_2)] (.inl rfl) rfl (.cons (.agg bw rfl rfl rfl rfl) .nil) ⟨rfl,rfl⟩)
def b7 (F:Nat) (s0:dd) (id0:Int):Option (dd × Int) :=
 Option.bind (cn F s0 id0) (dS fun x_1 x_2=>if (!x_2) = true then (fy (⟨(⟨.leaf,0,0,0⟩:iz),(⟨.leaf,0,0,0⟩:iz)⟩:dd) fun x_3=>some (x_3,5)) else ((bo F s0.ids x_1).bind fun x_4=>(bo F s0.boxes x_1).bind fun x_5=>some ((⟨x_4,x_5⟩:dd),0)))
theorem fw {F:Nat} {s0:dd} {id0:Int} {r:dd × Int} (h:b7 F s0 id0 = some r):an Tryz.prog [] 30 [] [.agg (aI s0),.one (.i id0)] (Is [] (.eu [.agg (aI r.1),.one (.i r.2)])):=by
 unfold b7 at h
 refine an.intro 26 Tryz.func30 Tryz.ntmps30 rfl (by simp) fun E=>?_
 show ab _ E ⟨26,[],[],[]⟩ _ ⟨[(0,.b (.agg (aI s0))),(1,I id0)],[]⟩ _
 refine ab.seq (ab.aa ?_)
 refine Oc (bI (k:=101) rfl rfl) (Oc (ba (k:=102) fl rfl) (Oc oa ?_))
 refine af.ai ⟨[(1,I id0),(2,Pt 101 0),(4,Pt 102 0)],[(101,.box 49 (aI s0)),(102,.box 49 [.tr ae (.leaf),.cY 0,.cY 0,.cY 0,.tr ae (.leaf),.cY 0,.cY 0,.cY 0])]⟩ rfl (ab.seq (ab.aa ?_))
 refine Oc (lp aT) (Oc om ?_)
 obtain ⟨⟨x_1,x_2⟩,e1,h⟩:=aO h
 refine Oc (ak (eK e1) qU rfl rfl) (Oc om (Oc (ay rfl rfl) ?_))
 refine af.ag ⟨[(2,_),(4,_),(8,.eu [.agg (ao x_1),.one (.bool x_2)]),(12,.b (.agg (ao x_1)))],[(101,_),(102,_)]⟩ rfl (Oc (ay rfl rfl) (Oc (ba (k:=103) gH rfl) (Oc (aF bt rfl rfl rfl rfl (Nat.le_of_ble_eq_true rfl) rfl) (Oc oa ?_))))
 refine af.ai ⟨[(2,_),(4,_),(6,Pt 103 0),(7,B x_2)],[(101,_),(102,_),(103,.box 87 (ao x_1))]⟩ rfl (ab.seq (ab.seq (ab.aa ?_)))
 refine Oc om (Oc (dU rfl) ?_)
 refine af.ai ⟨[(2,_),(4,_),(6,_),(15,B (!x_2))],[(101,_),(102,_),(103,_)]⟩ rfl (ab.ite h rfl (fun _ h=>?_) (fun _ h=>?_))
 ·refine ab.seq (ab.aa ?_)
  refine af.lB aI h rfl (cC eP rfl rfl) (fun x_3 h=>?_)
  refine Oc (aF aT rfl rfl rfl rfl (Nat.le_of_ble_eq_true rfl) rfl) (Oc oa ?_)
  refine af.ai ⟨[(4,_),(5,I 5)],[(102,.box 49 (aI x_3))]⟩ rfl (ab.ret (Fin.aq ?_))
  obtain rfl:=Option.some.inj h
  refine Fin.ag ⟨[(4,_),(5,_)],[(102,_)]⟩ rfl (Fin.au [.agg (aI x_3),.one (.i 5)] (.inl rfl) rfl (.cons (.agg aT rfl rfl rfl rfl) (.cons (.tmp rfl) .nil)) ⟨rfl,rfl⟩)
 ·refine ab.skip (Fin.ag ⟨[(2,_),(4,_),(6,_)],[(101,_),(102,_),(103,_)]⟩ rfl (Fin.then (ab.seq ?_)))
  refine ab.ag ⟨[(2,_),(4,_),(6,_)],[(101,_),(102,_),(103,_)]⟩ rfl ?_
  obtain ⟨x_4,e2,h⟩:=aO h
  obtain ⟨x_5,e3,h⟩:=aO h
  refine ab.bK mixed 9 [Pt 101 0,.b (.agg (bD s0.ids)),.b (.agg (ao x_1)),.b (.agg (bD x_4)),Pt 101 4,.b (.agg (bD s0.boxes)),.b (.agg (ao x_1)),.b (.agg (bD x_5)),.b (.agg (bD x_4 ++ (bD x_5)))] [4,5] [102] (s':=⟨[(4,_),(5,I 0)],[(102,.box 49 (bD x_4 ++ (bD x_5)))]⟩) rfl ⟨fun _=>.p (ar ko rfl rfl),fun _=>.p (lp bw),fun _=>.p (lp bt),fun _=>.p (ak (eY e2) tq rfl rfl),fun _=>.p (ar l3 rfl rfl),fun _=>.p (lp bw),fun _=>.p (lp bt),fun _=>.p (ak (eY e3) tq rfl rfl),fun _=>.p (cC eP rfl rfl),trivial⟩ ⟨_,by exact .p (aF aT rfl rfl rfl rfl (Nat.le_of_ble_eq_true rfl) rfl),⟨_,by exact .p oa,rfl⟩⟩ rfl (ab.ret ?_)
  obtain rfl:=Option.some.inj h
  refine Fin.ag ⟨[(4,_),(5,_)],[(102,_)]⟩ rfl (Fin.au [.agg (bD x_4 ++ (bD x_5)),.one (.i 0)] (.inl rfl) rfl (.cons (.agg aT rfl rfl rfl rfl) (.cons (.tmp rfl) .nil)) ⟨rfl,rfl⟩)
def lf (F:Nat) (x0:Int) (y0:Int):Option Bool :=
 (dZ F x0).bind fun x_1=>(bN x_1 (dZ F y0)).bind fun x_2=>some ((x_1 && (!x_2)) || (decide (x0 < y0)))
theorem oo {F:Nat} {x0:Int} {y0:Int} {r:Bool} (h:lf F x0 y0 = some r):an Tryz.prog [] 98 [] [.one (.i x0),.one (.i y0)] (Is [] (.b (.one (.bool r)))):=by
 unfold lf at h
 refine an.intro 17 Tryz.func98 Tryz.ntmps98 rfl (by simp) fun E=>?_
 show ab _ E ⟨17,[],[],[]⟩ _ ⟨[(0,I x0),(1,I y0)],[]⟩ _
 refine ab.seq (ab.aa ?_)
 refine Oc oa (af.ai ⟨[(0,I x0),(1,I y0)],[]⟩ rfl (ab.seq (ab.aa ?_)))
 refine Oc om ?_
 obtain ⟨x_1,e1,h⟩:=aO h
 refine Oc (ak (fu e1) o2 rfl rfl) (Oc om ?_)
 refine eO x_1 [] (fun g2=>trivial) (fun g2=>om) (af.ag ⟨[(0,_),(1,_),(7,B x_1),(8,.opt x_1 (.one (.i y0)))],[]⟩ rfl ?_)
 obtain ⟨x_2,e4,h⟩:=aO h
 refine eO x_1 [8] (fun g3=>⟨g3,trivial⟩) (fun g3=>ak (fu (gc e4 g3)) o2 rfl rfl) (eO x_1 [9] (fun g5=>⟨g5,trivial⟩) (fun g5=>dU rfl) (Oc (aG (fun e=>e) rfl rfl rfl rfl) (Oc om ?_)))
 refine CgF (!(x_1 && (!x_2))) [] (fun g6=>trivial) (fun g6=>om) (CgF (!(x_1 && (!x_2))) [] (fun g7=>by exact trivial) (fun g7=>om) (CgF (!(x_1 && (!x_2))) [13,14] (fun g8=>by exact ⟨g8,g8,trivial⟩) (fun g8=>bf rfl rfl) (Oc (cI (fun e=>by first | (rw [e]; rfl) | (simp only at e; rw [e]; rfl)) rfl rfl rfl rfl) (Oc oa ?_))))
 refine af.ai ⟨[(4,B ((x_1 && (!x_2)) || (decide (x0 < y0))))],[]⟩ rfl (ab.ret ?_)
 obtain rfl:=Option.some.inj h
 refine Fin.ag ⟨[(4,_)],[]⟩ rfl (Fin.au [.one (.bool ((x_1 && (!x_2)) || (decide (x0 < y0))))] (.inl rfl) rfl (.cons (.tmp rfl) .nil) ⟨rfl,rfl⟩)
def fq (F:Nat) (x0:Int):Option Bool :=
 some (decide (x0 ≠ x0))
theorem hY {F:Nat} {x0:Int} {r:Bool} (h:fq F x0 = some r):an Tryz.prog [] 99 [] [.one (.i x0)] (Is [] (.b (.one (.bool r)))):=by
 unfold fq at h
 refine an.intro 6 Tryz.func99 Tryz.ntmps99 rfl (by simp) fun E=>?_
 show ab _ E ⟨6,[],[],[]⟩ _ ⟨[(0,I x0)],[]⟩ _
 refine ab.seq (ab.aa ?_)
 refine Oc oa (af.ai ⟨[(0,I x0)],[]⟩ rfl (ab.seq (ab.aa ?_)))
 refine Oc om (Oc om (Oc (kY rfl rfl) (Oc oa ?_)))
 refine af.ai ⟨[(2,B (decide (x0 ≠ x0)))],[]⟩ rfl (ab.ret ?_)
 obtain rfl:=Option.some.inj h
 refine Fin.ag ⟨[(2,_)],[]⟩ rfl (Fin.au [.one (.bool (decide (x0 ≠ x0)))] (.inl rfl) rfl (.cons (.tmp rfl) .nil) ⟨rfl,rfl⟩)
def dO (F:Nat) (x0:List Int) (target0:Int):Option (Int × Bool) :=
 Option.bind (iter F (dS fun i_2 j_3=>if (decide (i_2 < j_3)) = true then (fy (IntKind.u64.wrap (IntKind.i64.wrap (i_2 + j_3))) fun x_5=>(a8 x0 (IntKind.i64.wrap (x_5 / 2))).bind fun x_6=>(lf F x_6 target0).bind fun x_7=>if x_7 = true then (fy (IntKind.i64.wrap ((IntKind.i64.wrap (x_5 / 2)) + 1)) fun x_8=>some (.inl (x_8,j_3))) else (some (.inl (i_2,IntKind.i64.wrap (x_5 / 2))))) else (some (.inr i_2))) (0,(x0.length:Int))) (fun i_1=>(bN (decide (i_1 < (x0.length:Int))) (a8 x0 i_1)).bind fun x_9=>(bN ((decide (i_1 < (x0.length:Int))) && !(decide (x_9 = target0))) (a8 x0 i_1)).bind fun x_10=>(bN ((decide (i_1 < (x0.length:Int))) && !(decide (x_9 = target0))) (fq F x_10)).bind fun x_11=>(bN (((decide (i_1 < (x0.length:Int))) && !(decide (x_9 = target0))) && x_11) (fq F target0)).bind fun x_12=>fy ((decide (i_1 < (x0.length:Int))) && ((decide (x_9 = target0)) || (x_11 && x_12))) fun x_13=>some (i_1,x_13))
theorem iw {F:Nat} {x0:List Int} {target0:Int} {r:Int × Bool} (h:dO F x0 target0 = some r):an Tryz.prog [] 76 [] [.one (.sl 1 (x0.map eI)),.one (.i target0)] (Is [] (.eu [.one (.i r.1),.one (.bool r.2)])):=by
 unfold dO at h
 refine an.intro 54 Tryz.func76 Tryz.ntmps76 rfl (by simp) fun E=>?_
 show ab _ E ⟨54,[],[],[]⟩ _ ⟨[(0,.b (.one (.sl 1 (x0.map eI)))),(1,I target0)],[]⟩ _
 refine ab.seq (ab.aa ?_)
 refine Oc oa (Oc oa ?_)
 refine af.ai ⟨[(0,.b (.one (.sl 1 (x0.map eI)))),(1,I target0)],[]⟩ rfl (ab.seq (ab.aa ?_))
 refine Oc om (Oc (bj fb rfl (List.length_map _)) (Oc oa ?_))
 refine af.ai ⟨[(0,_),(1,_),(6,I (x0.length:Int))],[]⟩ rfl (ab.seq (ab.aa ?_))
 refine Oc om (Oc oa (Oc oa ?_))
 refine af.ai ⟨[(0,_),(1,_),(6,_),(7,I 0),(8,I (x0.length:Int))],[]⟩ rfl ?_
 obtain ⟨v1,h2,h⟩:=aO h
 refine ab.dR (v:=v1) (fun (i_1:Int)=>⟨[(0,.b (.one (.sl 1 (x0.map eI)))),(1,I target0),(6,I (x0.length:Int)),(7,I i_1)],[]⟩) (fun z=>z) ?_ ?_
 ·refine ab.block (ab.c6 h2 (dS fun (i_2:Int) (j_3:Int)=>⟨[(0,.b (.one (.sl 1 (x0.map eI)))),(1,I target0),(6,I (x0.length:Int)),(7,I i_2),(8,I j_3)],[]⟩) [0,1,6,7,8] [] rfl ?_)
  rintro ⟨i_2,j_3⟩ o3 h4 hy5
  refine ab.seq (ab.seq (ab.aa ?_))
  refine Oc om (Oc om (Oc (bf rfl rfl) ?_))
  refine af.ai ⟨[(0,_),(1,_),(6,_),(7,_),(8,_),(15,B (decide (i_2 < j_3)))],[]⟩ rfl (ab.ite h4 rfl (fun _ h4=>?_) (fun _ h4=>?_))
  ·refine ab.skip (Fin.ag ⟨[(0,_),(1,_),(6,_),(7,_),(8,_)],[]⟩ rfl (Fin.then (ab.block (ab.seq (ab.aa ?_)))))
   refine Oc om (Oc om (Oc (bB rfl rfl) ?_))
   refine af.pL .u64 h4 rfl (ek pI pc rfl) (fun x_5 h4=>?_)
   refine Oc (iU (m:=1) (by decide) rfl rfl rfl) (Oc (ek pc pI rfl) (Oc oa ?_))
   refine af.ai ⟨[(0,_),(1,_),(6,_),(7,_),(8,_),(9,I (IntKind.i64.wrap (x_5 / 2)))],[]⟩ rfl (ab.seq (ab.aa ?_))
   refine Oc om (Oc om ?_)
   obtain ⟨x_6,e6,h4⟩:=aO h4
   refine Oc (bd cp (a7 e6) (cy (e:=eI) e6) rfl rfl) (Oc (aw aQ rfl rfl) (Oc om ?_))
   obtain ⟨x_7,e7,h4⟩:=aO h4
   refine Oc (ak (oo e7) goes98 rfl rfl) (af.ai ⟨[(0,_),(1,_),(6,_),(7,_),(8,_),(9,_),(27,B x_7)],[]⟩ rfl (ab.ite h4 rfl (fun _ h4=>?_) (fun _ h4=>?_)))
   ·refine ab.aa (Oc om (af.pL .i64 h4 rfl (bB rfl rfl) (fun x_8 h4=>?_)))
    refine Oc oa (af.nil (Fin.ax ?_))
    exact Fin.cq [0,1,6,7,8] [] (x_8,j_3) (Option.some.inj h4) rfl
   ·refine ab.aa (Oc om (Oc oa ?_))
    refine af.nil (Fin.ax ?_)
    exact Fin.cq [0,1,6,7,8] [] (i_2,IntKind.i64.wrap (x_5 / 2)) (Option.some.inj h4) rfl
  ·refine ab.exit (Fin.aA ?_)
   obtain rfl:=hy5 _ (Option.some.inj h4).symm
   refine Fin.aA (Fin.aW ?_)
   exact Fin.join [0,1,6,7] [] i_2 rfl rfl
 ·rintro i_1 hv
  subst v1
  refine ab.seq (ab.aa ?_)
  refine Oc om (Oc om (Oc om (Oc (bf rfl rfl) (Oc om ?_))))
  refine eO (decide (i_1 < (x0.length:Int))) [] (fun g8=>trivial) (fun g8=>om) (eO (decide (i_1 < (x0.length:Int))) [] (fun g9=>by exact trivial) (fun g9=>om) (af.ag ⟨[(0,_),(1,_),(7,_),(31,I i_1),(35,B (decide (i_1 < (x0.length:Int)))),(36,.opt (decide (i_1 < (x0.length:Int))) (.one (.sl 1 (x0.map eI)))),(37,.opt (decide (i_1 < (x0.length:Int))) (.one (.i i_1)))],[]⟩ rfl ?_))
  obtain ⟨x_9,e11,h⟩:=aO h
  refine eO (decide (i_1 < (x0.length:Int))) [36,37] (fun g10=>⟨g10,g10,trivial⟩) (fun g10=>bd cp (a7 (gc e11 g10)) (cy (e:=eI) (gc e11 g10)) rfl rfl) (eO (decide (i_1 < (x0.length:Int))) [38] (fun g12=>⟨g12,trivial⟩) (fun g12=>aw aQ rfl rfl) (eO (decide (i_1 < (x0.length:Int))) [] (fun g13=>trivial) (fun g13=>om) (eO (decide (i_1 < (x0.length:Int))) [39,40] (fun g14=>by exact ⟨g14,g14,trivial⟩) (fun g14=>dy rfl rfl) (eO (decide (i_1 < (x0.length:Int))) [41] (fun g15=>by exact ⟨g15,trivial⟩) (fun g15=>om) (af.jF ((decide (i_1 < (x0.length:Int))) && !(decide (x_9 = target0))) 99 [] (.under rfl) (nk _ _) rfl rfl (fun g16=>by exact trivial) (fun g16=>om) ?_)))))
  refine af.jF ((decide (i_1 < (x0.length:Int))) && !(decide (x_9 = target0))) 99 [] (.under rfl) (nk _ _) rfl rfl (fun g17=>trivial) (fun g17=>om) ?_
  obtain ⟨x_10,e19,h⟩:=aO h
  refine af.jF ((decide (i_1 < (x0.length:Int))) && !(decide (x_9 = target0))) 99 [43,44] (.under rfl) (nk _ _) rfl rfl (fun g18=>⟨g18,g18,trivial⟩) (fun g18=>bd cp (a7 (gc e19 g18)) (cy (e:=eI) (gc e19 g18)) rfl rfl) (af.ag ⟨[(1,_),(31,_),(35,_),(42,.opt (decide (i_1 < (x0.length:Int))) (.one (.bool (decide (x_9 = target0))))),(45,.opt ((decide (i_1 < (x0.length:Int))) && !(decide (x_9 = target0))) (.aK [.i x_10]))],[]⟩ rfl (af.jF ((decide (i_1 < (x0.length:Int))) && !(decide (x_9 = target0))) 99 [45] (.under rfl) (nk _ _) rfl rfl (fun g20=>⟨g20,trivial⟩) (fun g20=>aw aQ rfl rfl) ?_))
  obtain ⟨x_11,e22,h⟩:=aO h
  refine af.jF ((decide (i_1 < (x0.length:Int))) && !(decide (x_9 = target0))) 99 [46] (.under rfl) (nk _ _) rfl rfl (fun g21=>⟨g21,trivial⟩) (fun g21=>ak (hY (gc e22 g21)) tn rfl rfl) (af.jF ((decide (i_1 < (x0.length:Int))) && !(decide (x_9 = target0))) 99 [47] (.under rfl) (nk _ _) rfl rfl (fun g23=>⟨g23,trivial⟩) (fun g23=>om) (af.jF (((decide (i_1 < (x0.length:Int))) && !(decide (x_9 = target0))) && x_11) 99 [] (.under rfl) (and_t _ _) rfl rfl (fun g24=>trivial) (fun g24=>om) (af.ag ⟨[(31,_),(35,_),(42,_),(48,.opt ((decide (i_1 < (x0.length:Int))) && !(decide (x_9 = target0))) (.one (.bool x_11))),(49,.opt (((decide (i_1 < (x0.length:Int))) && !(decide (x_9 = target0))) && x_11) (.one (.i target0)))],[]⟩ rfl ?_)))
  obtain ⟨x_12,e26,h⟩:=aO h
  refine af.jF (((decide (i_1 < (x0.length:Int))) && !(decide (x_9 = target0))) && x_11) 99 [49] (.under rfl) (and_t _ _) rfl rfl (fun g25=>⟨g25,trivial⟩) (fun g25=>ak (hY (gc e26 g25)) tn rfl rfl) (af.jF ((decide (i_1 < (x0.length:Int))) && !(decide (x_9 = target0))) 99 [48] (.under rfl) (nk _ _) rfl rfl (fun g27=>⟨g27,trivial⟩) (fun g27=>aG (fun e=>by rw [g27,e]; rfl) rfl rfl rfl rfl) (eO (decide (i_1 < (x0.length:Int))) [42] (fun g28=>⟨g28,trivial⟩) (fun g28=>cI (fun e=>by rw [g28,e]; rfl) rfl rfl rfl rfl) (af.ox h rfl (aG (fun e=>e) rfl rfl rfl rfl) (fun x_13 h=>?_))))
  refine Oc oa (Oc oa ?_)
  refine af.ai ⟨[(4,I i_1),(5,B x_13)],[]⟩ rfl (ab.ret ?_)
  obtain rfl:=Option.some.inj h
  refine Fin.ag ⟨[(4,_),(5,_)],[]⟩ rfl (Fin.au [.one (.i i_1),.one (.bool x_13)] (.inl rfl) rfl (.cons (.tmp rfl) (.cons (.tmp rfl) .nil)) ⟨rfl,rfl⟩)
def fM (F:Nat) (a0:List Int) (b0:List Int):Option (List Int) :=
 Option.bind (iter F (dS fun out_2 x_3=>if (decide (x_3 < (a0.length:Int))) = true then (Option.bind ((a8 a0 x_3).bind fun x_6=>Option.bind (dO F b0 x_6) (dS fun x_7 x_8=>if (!x_8) = true then ((jy out_2 [x_6]).bind fun x_9=>some x_9) else (some out_2))) (fun out_5=>some (.inl (out_5,IntKind.i64.wrap (x_3 + 1))))) else (some (.inr out_2))) ([],0)) (fun out_1=>some out_1)
theorem iK (kr0:Nat) {F:Nat} {a0:List Int} {b0:List Int} {r:(List Int)} (h:fM F a0 b0 = some r):an Tryz.prog [] 56 [] [.one (.sl 1 (a0.map eI)),.one (.sl 1 (b0.map eI))] (Is [(kr0,.row 3 1 (r.map eI))] (.b (.row kr0))):=by
 unfold fM at h
 refine an.intro 30 Tryz.func56 Tryz.ntmps56 rfl (by simp) fun E=>?_
 show ab _ E ⟨30,[],[],[]⟩ _ ⟨[(0,.b (.one (.sl 1 (a0.map eI)))),(1,.b (.one (.sl 1 (b0.map eI))))],[]⟩ _
 refine ab.seq (ab.aa ?_)
 refine Oc oa (af.ai ⟨[(0,.b (.one (.sl 1 (a0.map eI)))),(1,.b (.one (.sl 1 (b0.map eI))))],[]⟩ rfl (ab.seq (ab.aa ?_)))
 refine Oc oa (af.ai ⟨[(0,_),(1,_),(5,.b (.one (.nil)))],[]⟩ rfl ?_)
 obtain ⟨v1,h2,h⟩:=aO h
 refine ab.dR (v:=v1) (fun (out_1:List Int)=>⟨[(5,.b (.row 102))],[(102,.row 3 1 (out_1.map eI))]⟩) (fun z=>z) ?_ ?_
 ·refine ab.seq (ab.aa ?_)
  refine Oc om (Oc (bj fb rfl (List.length_map _)) (Oc om ?_))
  refine af.ai ⟨[(1,_),(5,_),(10,.b (.one (.sl 1 (a0.map eI)))),(11,I (a0.length:Int)),(12,I 0)],[]⟩ rfl (ab.block (ab.eE 5 102 1 3 rfl (by decide) rfl (ab.c6 h2 (dS fun (out_2:List Int) (x_3:Int)=>⟨[(1,.b (.one (.sl 1 (b0.map eI)))),(5,.b (.row 102)),(10,.b (.one (.sl 1 (a0.map eI)))),(11,I (a0.length:Int)),(12,I x_3)],[(102,.row 3 1 (out_2.map eI))]⟩) [1,5,10,11,12] [102] rfl ?_)))
  rintro ⟨out_2,x_3⟩ o3 h4 hy5
  refine ab.seq (ab.aa ?_)
  refine Oc (bf rfl rfl) (af.ai ⟨[(1,_),(5,_),(10,_),(11,_),(12,_),(13,B (decide (x_3 < (a0.length:Int))))],[(102,_)]⟩ rfl (ab.seq (ab.ite h4 rfl (fun _ h4=>?_) (fun _ h4=>?_))))
  ·refine ab.skip (Fin.ag ⟨[(1,_),(5,_),(10,_),(11,_),(12,_)],[(102,_)]⟩ rfl (Fin.then ?_))
   obtain ⟨v6,h7,h4⟩:=aO h4
   refine ab.dR (v:=v6) (fun (out_5:List Int)=>⟨[(1,.b (.one (.sl 1 (b0.map eI)))),(5,.b (.row 102)),(10,.b (.one (.sl 1 (a0.map eI)))),(11,I (a0.length:Int)),(12,I x_3)],[(102,.row 3 1 (out_5.map eI))]⟩) (fun z=>z) ?_ ?_
   ·refine ab.block (ab.seq (ab.aa ?_))
    obtain ⟨x_6,e8,h7⟩:=aO h7
    refine Oc (bd cp (a7 e8) (cy (e:=eI) e8) rfl rfl) (Oc (aw aQ rfl rfl) (Oc oa ?_))
    refine af.ai ⟨[(1,_),(5,_),(7,I x_6),(10,_),(11,_),(12,_)],[(102,_)]⟩ rfl (ab.seq (ab.aa ?_))
    refine Oc om (Oc om ?_)
    obtain ⟨⟨x_7,x_8⟩,e9,h7⟩:=aO h7
    refine Oc (ak (iw e9) goes76 rfl rfl) (Oc om (Oc (ay rfl rfl) ?_))
    refine af.ag ⟨[(1,_),(5,_),(7,_),(10,_),(11,_),(12,_),(16,.eu [.one (.i x_7),.one (.bool x_8)]),(20,I x_7)],[(102,_)]⟩ rfl (Oc (ay rfl rfl) (Oc oa (Oc oa ?_)))
    refine af.ai ⟨[(1,_),(5,_),(7,_),(9,B x_8),(10,_),(11,_),(12,_)],[(102,_)]⟩ rfl (ab.seq (ab.aa ?_))
    refine Oc om (Oc (dU rfl) ?_)
    refine af.ai ⟨[(1,_),(5,_),(7,_),(10,_),(11,_),(12,_),(23,B (!x_8))],[(102,_)]⟩ rfl (ab.ite h7 rfl (fun _ h7=>?_) (fun _ h7=>?_))
    ·refine ab.aa (Oc om (Oc om (Oc (b9 (k:=103) (es:=[x_6].map eI) cp rfl rfl (cB fun _=>rfl) rfl (by decide) (by decide) rfl) ?_)))
     obtain ⟨x_9,e10,h7⟩:=aO h7
     refine Oc (eV cp (oA e10) (oz e10) rfl rfl rfl rfl (kh e10) rfl) (Oc oa ?_)
     refine af.nil (Fin.ax ?_)
     exact Fin.join [1,5,10,11,12] [102] x_9 (Option.some.inj h7) rfl
    ·refine ab.skip (Fin.ax ?_)
     exact Fin.join [1,5,10,11,12] [102] out_2 (Option.some.inj h7) rfl
   ·rintro out_5 hv
    subst v6
    refine ab.aa (Oc (bB rfl rfl) (Oc om ?_))
    refine af.nil ?_
    exact Fin.cq [1,5,10,11,12] [102] (out_5,IntKind.i64.wrap (x_3 + 1)) (Option.some.inj h4) rfl
  ·refine ab.exit (Fin.aA ?_)
   obtain rfl:=hy5 _ (Option.some.inj h4).symm
   refine Fin.aA (Fin.aW ?_)
   exact Fin.join [5] [102] out_2 rfl rfl
 ·rintro out_1 hv
  subst v1
  refine ab.seq (ab.aa ?_)
  refine Oc om (Oc oa ?_)
  refine af.ai ⟨[(4,.b (.row 102))],[(102,_)]⟩ rfl (ab.ret ?_)
  obtain rfl:=Option.some.inj h
  refine Fin.ag ⟨[(4,_)],[(102,_)]⟩ rfl (Fin.iT 102 kr0 [.row 102] (.inl rfl) rfl (.cons (.tmp rfl) .nil) rfl rfl rfl rfl ⟨rfl,rfl⟩)
def ep (F:Nat) (s0:dd) (id0:Int) (b0:bH):Option (dd × (List Int) × (List Int) × Int) :=
 (bY F b0).bind fun x_1=>if (!x_1) = true then (fy (⟨(⟨.leaf,0,0,0⟩:iz),(⟨.leaf,0,0,0⟩:iz)⟩:dd) fun x_2=>some (x_2,[],[],1)) else (Option.bind (cn F s0 id0) (dS fun x_3 x_4=>if (!x_4) = true then (fy (⟨(⟨.leaf,0,0,0⟩:iz),(⟨.leaf,0,0,0⟩:iz)⟩:dd) fun x_5=>some (x_5,[],[],5)) else (Option.bind (b7 F s0 id0) (dS fun x_6 x_7=>(cz F x_6 x_3.b).bind fun x_8=>(cz F x_6 b0).bind fun x_9=>Option.bind (b5 F x_6 id0 b0) (dS fun x_10 x_11=>(fM F x_9 x_8).bind fun x_12=>(fM F x_8 x_9).bind fun x_13=>some (x_10,x_12,x_13,x_11))))))
theorem kC {F:Nat} {s0:dd} {id0:Int} {b0:bH} {r:dd × (List Int) × (List Int) × Int} (h:ep F s0 id0 b0 = some r):an Tryz.prog [] 25 [] [.agg (aI s0),.one (.i id0),.agg (aj b0)] (Is [] (.eu [.agg (aI r.1),.one (.sl 1 (r.2.1.map eI)),.one (.sl 1 (r.2.2.1.map eI)),.one (.i r.2.2.2)])):=by
 unfold ep at h
 refine an.intro 57 Tryz.func25 Tryz.ntmps25 rfl (by simp) fun E=>?_
 show ab _ E ⟨57,[],[],[]⟩ _ ⟨[(0,.b (.agg (aI s0))),(1,I id0),(2,.b (.agg (aj b0)))],[]⟩ _
 refine ab.seq (ab.aa ?_)
 refine Oc (bI (k:=101) rfl rfl) (Oc (bI (k:=102) rfl rfl) (Oc (ba (k:=103) fl rfl) (Oc oa (Oc oa (Oc oa ?_)))))
 refine af.ai ⟨[(1,I id0),(3,Pt 101 0),(5,Pt 102 0),(6,Pt 103 0)],[(101,.box 49 (aI s0)),(102,.box 25 (aj b0)),(103,.box 49 [.tr ae (.leaf),.cY 0,.cY 0,.cY 0,.tr ae (.leaf),.cY 0,.cY 0,.cY 0])]⟩ rfl (ab.seq (ab.seq (ab.aa ?_)))
 refine Oc (lp aC) ?_
 obtain ⟨x_1,e1,h⟩:=aO h
 refine Oc (ak (cQ e1) lY rfl rfl) (Oc (dU rfl) ?_)
 refine af.ai ⟨[(1,_),(3,_),(5,_),(6,_),(18,B (!x_1))],[(101,_),(102,_),(103,_)]⟩ rfl (ab.ite h rfl (fun _ h=>?_) (fun _ h=>?_))
 ·refine ab.seq (ab.aa ?_)
  refine af.lB aI h rfl (cC eP rfl rfl) (fun x_2 h=>?_)
  refine Oc (aF aT rfl rfl rfl rfl (Nat.le_of_ble_eq_true rfl) rfl) (Oc oa (Oc oa (Oc oa ?_)))
  refine af.ai ⟨[(6,_),(7,.b (.one (.nil))),(8,.b (.one (.nil))),(9,I 1)],[(103,.box 49 (aI x_2))]⟩ rfl (ab.ret (Fin.aq ?_))
  obtain rfl:=Option.some.inj h
  refine Fin.ag ⟨[(6,_),(7,_),(8,_),(9,_)],[(103,_)]⟩ rfl (Fin.iA 7 1 rfl (by decide) (Fin.iA 8 1 rfl (by decide) (Fin.au [.agg (aI x_2),.one (.sl 1 ([].map eI)),.one (.sl 1 ([].map eI)),.one (.i 1)] (.inl rfl) rfl (.cons (.agg aT rfl rfl rfl rfl) (.cons (.tmp rfl) (.cons (.tmp rfl) (.cons (.tmp rfl) .nil)))) ⟨rfl,rfl⟩)))
 ·refine ab.skip (Fin.ag ⟨[(1,_),(3,_),(5,_),(6,_)],[(101,_),(102,_),(103,_)]⟩ rfl (Fin.then (ab.seq (ab.aa ?_))))
  refine Oc (lp aT) (Oc om ?_)
  obtain ⟨⟨x_3,x_4⟩,e2,h⟩:=aO h
  refine Oc (ak (eK e2) qU rfl rfl) (Oc om (Oc (ay rfl rfl) ?_))
  refine af.ag ⟨[(1,_),(3,_),(5,_),(6,_),(20,.eu [.agg (ao x_3),.one (.bool x_4)]),(24,.b (.agg (ao x_3)))],[(101,_),(102,_),(103,_)]⟩ rfl (Oc (ay rfl rfl) (Oc (ba (k:=104) gH rfl) (Oc (aF bt rfl rfl rfl rfl (Nat.le_of_ble_eq_true rfl) rfl) (Oc oa ?_))))
  refine af.ai ⟨[(1,_),(3,_),(5,_),(6,_),(10,Pt 104 0),(11,B x_4)],[(101,_),(102,_),(103,_),(104,.box 87 (ao x_3))]⟩ rfl (ab.seq (ab.seq (ab.aa ?_)))
  refine Oc om (Oc (dU rfl) ?_)
  refine af.ai ⟨[(1,_),(3,_),(5,_),(6,_),(10,_),(27,B (!x_4))],[(101,_),(102,_),(103,_),(104,_)]⟩ rfl (ab.ite h rfl (fun _ h=>?_) (fun _ h=>?_))
  ·refine ab.seq (ab.aa ?_)
   refine af.lB aI h rfl (cC eP rfl rfl) (fun x_5 h=>?_)
   refine Oc (aF aT rfl rfl rfl rfl (Nat.le_of_ble_eq_true rfl) rfl) (Oc oa (Oc oa (Oc oa ?_)))
   refine af.ai ⟨[(6,_),(7,.b (.one (.nil))),(8,.b (.one (.nil))),(9,I 5)],[(103,.box 49 (aI x_5))]⟩ rfl (ab.ret (Fin.aq ?_))
   obtain rfl:=Option.some.inj h
   refine Fin.ag ⟨[(6,_),(7,_),(8,_),(9,_)],[(103,_)]⟩ rfl (Fin.iA 7 1 rfl (by decide) (Fin.iA 8 1 rfl (by decide) (Fin.au [.agg (aI x_5),.one (.sl 1 ([].map eI)),.one (.sl 1 ([].map eI)),.one (.i 5)] (.inl rfl) rfl (.cons (.agg aT rfl rfl rfl rfl) (.cons (.tmp rfl) (.cons (.tmp rfl) (.cons (.tmp rfl) .nil)))) ⟨rfl,rfl⟩)))
  ·refine ab.skip (Fin.ag ⟨[(1,_),(3,_),(5,_),(6,_),(10,_)],[(101,_),(102,_),(103,_),(104,_)]⟩ rfl (Fin.then (ab.seq (ab.aa ?_))))
   refine Oc (lp aT) (Oc om ?_)
   obtain ⟨⟨x_6,x_7⟩,e3,h⟩:=aO h
   refine Oc (ak (fw e3) tA rfl rfl) (Oc om (Oc (ay rfl rfl) ?_))
   refine af.ag ⟨[(1,_),(5,_),(6,_),(10,_),(29,.eu [.agg (aI x_6),.one (.i x_7)]),(33,.b (.agg (aI x_6)))],[(102,_),(103,_),(104,_)]⟩ rfl (Oc (ay rfl rfl) (Oc (ba (k:=105) fl rfl) (Oc (aF aT rfl rfl rfl rfl (Nat.le_of_ble_eq_true rfl) rfl) (Oc oa ?_))))
   refine af.ai ⟨[(1,_),(5,_),(6,_),(10,_),(12,Pt 105 0)],[(102,_),(103,_),(104,_),(105,.box 49 (aI x_6))]⟩ rfl (ab.seq ?_)
   obtain ⟨x_8,e4,h⟩:=aO h
   obtain ⟨x_9,e5,h⟩:=aO h
   refine ab.lD mixed [false,false,false,true,false,false,true,false,false] [.b (.agg (aI x_6)),Pt 104 1,.b (.agg (aj x_3.b)),.b (.row 106),.b (.agg (aI x_6)),.b (.agg (aj b0)),.b (.row 107),.b (.row 106),.b (.row 107)] [⟨[false,false,false,false,false,false,false,false,false],[(1,I id0),(5,Pt 102 0),(6,Pt 103 0),(10,Pt 104 0),(12,Pt 105 0)],[(102,.box 25 (aj b0)),(103,.box 49 [.tr ae (.leaf),.cY 0,.cY 0,.cY 0,.tr ae (.leaf),.cY 0,.cY 0,.cY 0]),(104,.box 87 (ao x_3)),(105,.box 49 (aI x_6))],[true,true,true,true,true,true,true,true,true],[],[6,7,8]⟩,⟨[false,false,false,true,false,false,false,false,false],[(1,I id0),(5,Pt 102 0),(6,Pt 103 0),(10,Pt 104 0),(12,Pt 105 0)],[(102,.box 25 (aj b0)),(103,.box 49 [.tr ae (.leaf),.cY 0,.cY 0,.cY 0,.tr ae (.leaf),.cY 0,.cY 0,.cY 0]),(104,.box 87 (ao x_3)),(105,.box 49 (aI x_6)),(106,.row 3 1 (x_8.map eI))],[true,true,true,true,true,true,true,true,true],[0,1,2,3],[7,8]⟩,⟨[false,false,false,true,false,false,true,false,false],[(1,I id0),(5,Pt 102 0),(6,Pt 103 0),(10,Pt 104 0),(12,Pt 105 0)],[(102,.box 25 (aj b0)),(103,.box 49 [.tr ae (.leaf),.cY 0,.cY 0,.cY 0,.tr ae (.leaf),.cY 0,.cY 0,.cY 0]),(104,.box 87 (ao x_3)),(105,.box 49 (aI x_6)),(106,.row 3 1 (x_8.map eI)),(107,.row 3 1 (x_9.map eI))],[true,true,true,true,true,true,true,true,true],[0,1,2,3,4,5,6],[]⟩] rfl (⟨by kernel_rfl,⟨⟨.b (.agg (aI x_6)),fun _=>rfl,fun _=>.p (by exact cF aT rfl rfl rfl rfl)⟩,⟨Pt 104 1,fun _=>rfl,fun _=>.p (by exact ar gA rfl rfl)⟩,⟨.b (.agg (aj x_3.b)),fun _=>rfl,fun _=>.p (by exact cF aC rfl rfl rfl rfl)⟩,⟨_,[106],.b (.row 106),rfl,fun _=>rfl,rfl,rfl,fun _=>.sM [102,103,104,105,106] (by exact .p (by exact cW (own_a:=[]) ((dg e4).sw 51 106) o7 rfl trivial rfl rfl)) (by exact rfl)⟩,⟨.b (.agg (aI x_6)),fun _=>rfl,fun _=>.p (by exact cF aT rfl rfl rfl rfl)⟩,⟨.b (.agg (aj b0)),fun _=>rfl,fun _=>.p (by exact cF aC rfl rfl rfl rfl)⟩,trivial,trivial,trivial,trivial⟩,⟨by kernel_rfl,⟨trivial,trivial,trivial,trivial,⟨.b (.agg (aI x_6)),fun _=>rfl,fun _=>.p (by exact cF aT rfl rfl rfl rfl)⟩,⟨.b (.agg (aj b0)),fun _=>rfl,fun _=>.p (by exact cF aC rfl rfl rfl rfl)⟩,⟨_,[107],.b (.row 107),rfl,fun _=>rfl,rfl,rfl,fun _=>.sM [102,103,104,105,106,107] (by exact .p (by exact cW (own_a:=[]) ((dg e5).sw 51 107) o7 rfl trivial rfl rfl)) (by exact rfl)⟩,trivial,trivial,trivial⟩,⟨by kernel_rfl,⟨trivial,trivial,trivial,trivial,trivial,trivial,trivial,⟨.b (.row 106),fun _=>rfl,fun _=>.p (by exact bV rfl)⟩,⟨.b (.row 107),fun _=>rfl,fun _=>.p (by exact bV rfl)⟩,trivial⟩,trivial⟩⟩⟩) rfl rfl rfl [1,5,6,12,14,15] [102,103,105,106,107] (s':=⟨[(1,_),(5,_),(6,_),(12,_),(14,.b (.row 106)),(15,.b (.row 107))],[(102,_),(103,_),(105,_),(106,.row 3 1 (x_8.map eI)),(107,.row 3 1 (x_9.map eI))]⟩) rfl ?_
   refine ab.seq (ab.aa ?_)
   refine Oc (lp aT) (Oc om (Oc (lp aC) ?_))
   obtain ⟨⟨x_10,x_11⟩,e6,h⟩:=aO h
   refine Oc (ak (cV e6) nt rfl rfl) (Oc om ?_)
   refine af.ag ⟨[(6,_),(14,_),(15,_),(42,.eu [.agg (aI x_10),.one (.i x_11)])],[(103,_),(106,_),(107,_)]⟩ rfl (Oc (ay rfl rfl) (Oc (ay rfl rfl) (Oc (aF aT rfl rfl rfl rfl (Nat.le_of_ble_eq_true rfl) rfl) (Oc oa ?_))))
   refine af.ai ⟨[(6,Pt 103 0),(9,I x_11),(14,.b (.row 106)),(15,.b (.row 107))],[(103,.box 49 (aI x_10)),(106,.row 3 1 (x_8.map eI)),(107,.row 3 1 (x_9.map eI))]⟩ rfl (ab.seq (ab.df 107 rfl (ab.df 106 rfl (ab.ag ⟨[(6,_),(9,_),(14,.b (.one (.sl 1 (x_8.map eI)))),(15,.b (.one (.sl 1 (x_9.map eI))))],[(103,_)]⟩ rfl ?_))))
   obtain ⟨x_12,e7,h⟩:=aO h
   obtain ⟨x_13,e8,h⟩:=aO h
   refine ab.lD mixed [false,false,false,false,false,false,false,false,true,false,false,true] [.b (.agg (aI x_10)),.b (.one (.sl 1 (x_9.map eI))),.b (.one (.sl 1 (x_8.map eI))),.b (.one (.sl 1 (x_12.map eI))),.b (.one (.sl 1 (x_8.map eI))),.b (.one (.sl 1 (x_9.map eI))),.b (.one (.sl 1 (x_13.map eI))),I x_11,B true,.b (.one (.sl 1 (x_12.map eI))),.b (.one (.sl 1 (x_13.map eI))),I x_11] [⟨[false,false,false,false,false,false,false,false,false,false,false,false],[(6,Pt 103 0),(9,I x_11),(14,.b (.one (.sl 1 (x_8.map eI)))),(15,.b (.one (.sl 1 (x_9.map eI))))],[(103,.box 49 (aI x_10))],[true,true,true,true,true,true,true,true,true,true,true,true],[],[9,10,11]⟩,⟨[false,false,false,false,false,false,false,false,true,false,false,false],[(6,Pt 103 0),(9,I x_11),(14,.b (.one (.sl 1 (x_8.map eI)))),(15,.b (.one (.sl 1 (x_9.map eI))))],[(103,.box 49 (aI x_10))],[true,true,true,true,true,true,true,true,true,true,true,true],[0,1,2,3,4,5,6,8],[]⟩,⟨[false,false,false,false,false,false,false,false,true,false,false,true],[(6,Pt 103 0),(14,.b (.one (.sl 1 (x_8.map eI)))),(15,.b (.one (.sl 1 (x_9.map eI))))],[(103,.box 49 (aI x_10))],[true,true,true,true,true,true,true,true,true,true,true,true],[0,1,2,3,4,5,6,7,8,9,10,11],[]⟩] rfl (⟨by kernel_rfl,⟨⟨.b (.agg (aI x_10)),fun _=>rfl,fun _=>.p (by exact cF aT rfl rfl rfl rfl)⟩,⟨.b (.one (.sl 1 (x_9.map eI))),fun _=>rfl,fun _=>.p (by exact aU rfl)⟩,⟨.b (.one (.sl 1 (x_8.map eI))),fun _=>rfl,fun _=>.p (by exact aU rfl)⟩,⟨.b (.one (.sl 1 (x_12.map eI))),fun _=>rfl,fun _=>.p (by exact ak (iK 0 e7).rC tv rfl rfl)⟩,⟨.b (.one (.sl 1 (x_8.map eI))),fun _=>rfl,fun _=>.p (by exact aU rfl)⟩,⟨.b (.one (.sl 1 (x_9.map eI))),fun _=>rfl,fun _=>.p (by exact aU rfl)⟩,⟨.b (.one (.sl 1 (x_13.map eI))),fun _=>rfl,fun _=>.p (by exact ak (iK 0 e8).rC tv rfl rfl)⟩,⟨I x_11,fun _=>rfl,fun _=>.p (by exact aU rfl)⟩,⟨_,[],.b (.one .any),rfl,(fun e=>by simp at e),rfl,rfl,fun _=>.sM [103] (by exact .p (by exact aF aT rfl rfl rfl rfl (Nat.le_of_ble_eq_true rfl) rfl)) (by exact rfl)⟩,trivial,trivial,trivial,trivial⟩,⟨by kernel_rfl,⟨trivial,trivial,trivial,trivial,trivial,trivial,trivial,⟨I x_11,fun _=>rfl,fun _=>.p (by exact aU rfl)⟩,trivial,⟨.b (.one (.sl 1 (x_12.map eI))),fun _=>rfl,fun _=>.p (by exact bV rfl)⟩,⟨.b (.one (.sl 1 (x_13.map eI))),fun _=>rfl,fun _=>.p (by exact bV rfl)⟩,⟨_,[],I x_11,rfl,fun _=>rfl,rfl,rfl,fun _=>.sM [103] (by exact .p (by exact bV rfl)) (by exact rfl)⟩,trivial⟩,⟨by kernel_rfl,⟨trivial,trivial,trivial,trivial,trivial,trivial,trivial,trivial,trivial,trivial,trivial,trivial,trivial⟩,trivial⟩⟩⟩) rfl rfl rfl [6,7,8,9] [103] (s':=⟨[(6,_),(7,.b (.one (.sl 1 (x_12.map eI)))),(8,.b (.one (.sl 1 (x_13.map eI)))),(9,_)],[(103,_)]⟩) rfl ?_
   refine ab.ret ?_
   obtain rfl:=Option.some.inj h
   refine Fin.ag ⟨[(6,_),(7,_),(8,_),(9,_)],[(103,_)]⟩ rfl (Fin.au [.agg (aI x_10),.one (.sl 1 (x_12.map eI)),.one (.sl 1 (x_13.map eI)),.one (.i x_11)] (.inl rfl) rfl (.cons (.agg aT rfl rfl rfl rfl) (.cons (.tmp rfl) (.cons (.tmp rfl) (.cons (.tmp rfl) .nil)))) ⟨rfl,rfl⟩)
end Go.Proofs.YtagpkeehkcopaaaGreat

