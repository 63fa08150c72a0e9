/- printed walks -/
import Derived.Test.YtagpkeehkcopaaaGreatT1
namespace Go.Proofs.YtagpkeehkcopaaaGreat
open Go.Sk Go
set_option maxHeartbeats 4000000
set_option maxRecDepth 4000
set_option linter.unusedSimpArgs false
set_option linter.unusedVariables false
theorem sq:Tryz.prog.underlying 88 = some (.int .u64):=Tryz.underlying88
theorem undi5:Tryz.prog.underlying 5 = some (.int .u8):=Tryz.underlying5
theorem und9:Tryz.prog.underlying 9 = some .string:=Tryz.underlying9
theorem pa:Tryz.prog.underlying 3 = some (.int .i64):=Tryz.underlying3
theorem goes95:bm Tryz.prog 95:=⟨Tryz.call95⟩
theorem goes114:bm Tryz.prog 114:=⟨Tryz.call114⟩
theorem eT:Tryz.prog.underlying 51 = some (.slice 3):=Tryz.underlying51
theorem oE:Tryz.prog.underlying 112 = some (.int .u64):=Tryz.underlying112
theorem goes69:bm Tryz.prog 69:=⟨Tryz.call69⟩
theorem goes97:bm Tryz.prog 97:=⟨Tryz.call97⟩
theorem dv:cN Tryz.prog 87 0 0 3:=⟨⟨_,_,Tryz.t3,Tryz.underlying87,rfl,rfl,rfl,by kernel_rfl,by decide⟩⟩
theorem aQ:cz Tryz.prog 3:=⟨⟨_,Tryz.underlying3,rfl⟩,⟨Tryz.t3,by kernel_rfl,by kernel_rfl⟩⟩
theorem goes48:bm Tryz.prog 48:=⟨Tryz.call48⟩
theorem ec:jr Tryz.prog 25 ((cC .i64) A3.zero ++ ((cC .i64) A3.zero)):=⟨⟨Tryz.t25,_,by kernel_rfl,rfl,rfl⟩⟩
theorem gl:cN Tryz.prog 87 1 1 25:=⟨⟨_,_,Tryz.t25,Tryz.underlying87,rfl,rfl,rfl,by kernel_rfl,by decide⟩⟩
theorem ay:eU Tryz.prog 25 6:=⟨⟨_,Tryz.underlying25,rfl⟩,⟨Tryz.t25,by kernel_rfl,by kernel_rfl⟩⟩
theorem goes49:bm Tryz.prog 49:=⟨Tryz.call49⟩
theorem oA:bm Tryz.prog 70:=⟨Tryz.call70⟩
theorem qq:bm Tryz.prog 44:=⟨Tryz.call44⟩
theorem ca:kG Tryz.prog 51 3 1 8 [.i 0]:=⟨Tryz.underlying51,⟨Tryz.t3,_,by kernel_rfl,rfl,rfl,rfl,rfl,by decide,rfl⟩⟩
theorem ct:cN Tryz.prog 25 0 0 23:=⟨⟨_,_,Tryz.t23,Tryz.underlying25,rfl,rfl,rfl,by kernel_rfl,by decide⟩⟩
theorem bG:q3 Tryz.prog 23 3 3 1:=⟨Tryz.underlying23,⟨Tryz.t3,by kernel_rfl,by kernel_rfl⟩⟩
theorem goes53:bm Tryz.prog 53:=⟨Tryz.call53⟩
theorem goes52:bm Tryz.prog 52:=⟨Tryz.call52⟩
theorem mixed:Tryz.prog.follows .mixedOrders = true:=by kernel_rfl
theorem goes50:bm Tryz.prog 50:=⟨Tryz.call50⟩
theorem goes51:bm Tryz.prog 51:=⟨Tryz.call51⟩
theorem cr:cN Tryz.prog 25 1 3 23:=⟨⟨_,_,Tryz.t23,Tryz.underlying25,rfl,rfl,rfl,by kernel_rfl,by decide⟩⟩
theorem jq:bm Tryz.prog 14:=⟨Tryz.call14⟩
theorem goes41:bm Tryz.prog 41:=⟨Tryz.call41⟩
theorem kJ:Tryz.prog.underlying 42 = some (.pointer (Tryz.prog.pointee 42)):=(by rw [show Tryz.prog.pointee 42 = 117 from by unfold Go.Program.pointee; rw [Tryz.underlying42]]; exact Tryz.underlying42)
theorem goes123:bm Tryz.prog 123:=⟨Tryz.call123⟩
theorem jV:jT Tryz.prog 25 [(0,3),(3,3)] ((cC .i64) A3.zero ++ ((cC .i64) A3.zero)):=⟨⟨Tryz.t25,_,_,by kernel_rfl,rfl,rfl,Tryz.underlying25,by kernel_rfl⟩⟩
theorem nY:ni Tryz.prog 23 1 ((cC .i64) A3.zero):=⟨⟨Tryz.t23,_,_,_,Tryz.t3,by kernel_rfl,rfl,rfl,Tryz.underlying23,by kernel_rfl,by kernel_rfl⟩⟩
theorem und34:Tryz.prog.underlying 34 = some (.slice 25):=Tryz.underlying34
theorem kK:kG Tryz.prog 34 25 6 48 ((cC .i64) A3.zero ++ ((cC .i64) A3.zero)):=⟨Tryz.underlying34,⟨Tryz.t25,_,by kernel_rfl,rfl,rfl,rfl,rfl,by decide,rfl⟩⟩
theorem goes67:bm Tryz.prog 67:=⟨Tryz.call67⟩
theorem jN:cz Tryz.prog 34:=⟨⟨_,Tryz.underlying34,rfl⟩,⟨Tryz.t34,by kernel_rfl,by kernel_rfl⟩⟩
theorem sJ:bm Tryz.prog 46:=⟨Tryz.call46⟩
theorem goes71:bm Tryz.prog 71:=⟨Tryz.call71⟩
theorem goes72:bm Tryz.prog 72:=⟨Tryz.call72⟩
theorem goes40:bm Tryz.prog 40:=⟨Tryz.call40⟩
theorem goes42:bm Tryz.prog 42:=⟨Tryz.call42⟩
theorem tyZero3:jr Tryz.prog 3 [.i 0]:=⟨⟨Tryz.t3,_,by kernel_rfl,rfl,rfl⟩⟩
theorem goes45:bm Tryz.prog 45:=⟨Tryz.call45⟩
theorem kP:bm Tryz.prog 16:=⟨Tryz.call16⟩
theorem eC:ni Tryz.prog 40 1 ((dN .i64) A2.zero):=⟨⟨Tryz.t40,_,_,_,Tryz.t3,by kernel_rfl,rfl,rfl,Tryz.underlying40,by kernel_rfl,by kernel_rfl⟩⟩
theorem gU:kG Tryz.prog 35 40 2 16 ((dN .i64) A2.zero):=⟨Tryz.underlying35,⟨Tryz.t40,_,by kernel_rfl,rfl,rfl,rfl,rfl,by decide,rfl⟩⟩
theorem goes47:bm Tryz.prog 47:=⟨Tryz.call47⟩
theorem qT:Tryz.prog.underlying 35 = some (.slice 40):=Tryz.underlying35
theorem mJ:eU Tryz.prog 40 2:=⟨⟨_,Tryz.underlying40,rfl⟩,⟨Tryz.t40,by kernel_rfl,by kernel_rfl⟩⟩
theorem tv (x y:A2) {d:Nat}:cI Tryz.prog (d + 2) 40 2 ((dN .i64) x) ((dN .i64) y) (decide (x = y)) :=
 (cI.arr (l:=x.l) (l':=y.l) mJ Tryz.underlying40 aQ Tryz.underlying3).cast (by rw [Bool.eq_iff_iff]; simp [A2.sj])
theorem eqAgg40 (x y:A2):kr Tryz.prog 40 ((dN .i64) x) ((dN .i64) y) (decide (x = y)):=kr.sy (by kernel_rfl) mJ (tv x y (d:=9998)) rfl rfl
theorem fa:jr Tryz.prog 49 [.tr ae (.leaf),.cO 0,.cO 0,.cO 0,.tr ae (.leaf),.cO 0,.cO 0,.cO 0]:=⟨⟨Tryz.t49,_,by kernel_rfl,rfl,rfl⟩⟩
theorem nX:jT Tryz.prog 47 [(0,1),(1,1),(2,1),(3,1)] [.tr ae (.leaf),.cO 0,.cO 0,.cO 0]:=⟨⟨Tryz.t47,_,_,by kernel_rfl,rfl,rfl,Tryz.underlying47,by kernel_rfl⟩⟩
theorem ez:jT Tryz.prog 49 [(0,4),(4,4)] [.tr ae (.leaf),.cO 0,.cO 0,.cO 0,.tr ae (.leaf),.cO 0,.cO 0,.cO 0]:=⟨⟨Tryz.t49,_,_,by kernel_rfl,rfl,rfl,Tryz.underlying49,by kernel_rfl⟩⟩
theorem aS:eU Tryz.prog 49 8:=⟨⟨_,Tryz.underlying49,rfl⟩,⟨Tryz.t49,by kernel_rfl,by kernel_rfl⟩⟩
theorem gv:jr Tryz.prog 87 (.i 0 :: ((cC .i64) A3.zero ++ ((cC .i64) A3.zero))):=⟨⟨Tryz.t87,_,by kernel_rfl,rfl,rfl⟩⟩
theorem jU:cN Tryz.prog 49 0 0 47:=⟨⟨_,_,Tryz.t47,Tryz.underlying49,rfl,rfl,rfl,by kernel_rfl,by decide⟩⟩
theorem fk:cN Tryz.prog 47 0 0 42:=⟨⟨_,_,Tryz.t42,Tryz.underlying47,rfl,rfl,rfl,by kernel_rfl,by decide⟩⟩
theorem bf:cz Tryz.prog 42:=⟨⟨_,Tryz.underlying42,rfl⟩,⟨Tryz.t42,by kernel_rfl,by kernel_rfl⟩⟩
theorem dG:cN Tryz.prog 117 0 0 87:=⟨⟨_,_,Tryz.t87,Tryz.underlying117,rfl,rfl,rfl,by kernel_rfl,by decide⟩⟩
theorem bg:eU Tryz.prog 87 7:=⟨⟨_,Tryz.underlying87,rfl⟩,⟨Tryz.t87,by kernel_rfl,by kernel_rfl⟩⟩
theorem dg:cN Tryz.prog 117 3 14 42:=⟨⟨_,_,Tryz.t42,Tryz.underlying117,rfl,rfl,rfl,by kernel_rfl,by decide⟩⟩
theorem df:cN Tryz.prog 117 4 15 42:=⟨⟨_,_,Tryz.t42,Tryz.underlying117,rfl,rfl,rfl,by kernel_rfl,by decide⟩⟩
theorem nW:jT Tryz.prog 87 [(0,1),(1,6)] (.i 0 :: ((cC .i64) A3.zero ++ ((cC .i64) A3.zero))):=⟨⟨Tryz.t87,_,_,by kernel_rfl,rfl,rfl,Tryz.underlying87,by kernel_rfl⟩⟩
theorem qf:Tryz.prog.underlying 144 = some (.slice 42):=Tryz.underlying144
theorem iC:kG Tryz.prog 144 42 1 8 [.tr ae (.leaf)]:=⟨Tryz.underlying144,⟨Tryz.t42,_,by kernel_rfl,rfl,rfl,rfl,rfl,by decide,rfl⟩⟩
theorem goes131:bm Tryz.prog 131:=⟨Tryz.call131⟩
theorem goes122:bm Tryz.prog 122:=⟨Tryz.call122⟩
theorem kT:cN Tryz.prog 117 1 7 88:=⟨⟨_,_,Tryz.t88,Tryz.underlying117,rfl,rfl,rfl,by kernel_rfl,by decide⟩⟩
theorem oF:cz Tryz.prog 88:=⟨⟨_,Tryz.underlying88,rfl⟩,⟨Tryz.t88,by kernel_rfl,by kernel_rfl⟩⟩
theorem rE:cN Tryz.prog 47 3 3 45:=⟨⟨_,_,Tryz.t45,Tryz.underlying47,rfl,rfl,rfl,by kernel_rfl,by decide⟩⟩
theorem tyOne45:cz Tryz.prog 45:=⟨⟨_,Tryz.underlying45,rfl⟩,⟨Tryz.t45,by kernel_rfl,by kernel_rfl⟩⟩
theorem nk:jT Tryz.prog 117 [(0,7),(7,1),(8,6),(14,1),(15,1)] (.i 0 :: ((cC .i64) A3.zero ++ ((cC .i64) A3.zero ++ (.int .u64 0 :: ((cC .i64) A3.zero ++ ((cC .i64) A3.zero ++ ([.tr ae (.leaf),.tr ae (.leaf)]))))))):=⟨⟨Tryz.t117,_,_,by kernel_rfl,rfl,rfl,Tryz.underlying117,by kernel_rfl⟩⟩
theorem goes100:bm Tryz.prog 100:=⟨Tryz.call100⟩
theorem iH:cN Tryz.prog 117 2 8 25:=⟨⟨_,_,Tryz.t25,Tryz.underlying117,rfl,rfl,rfl,by kernel_rfl,by decide⟩⟩
theorem sQ:bm Tryz.prog 18:=⟨Tryz.call18⟩
theorem nV:cN Tryz.prog 47 1 1 43:=⟨⟨_,_,Tryz.t43,Tryz.underlying47,rfl,rfl,rfl,by kernel_rfl,by decide⟩⟩
theorem q9:cz Tryz.prog 43:=⟨⟨_,Tryz.underlying43,rfl⟩,⟨Tryz.t43,by kernel_rfl,by kernel_rfl⟩⟩
theorem bp:eU Tryz.prog 47 4:=⟨⟨_,Tryz.underlying47,rfl⟩,⟨Tryz.t47,by kernel_rfl,by kernel_rfl⟩⟩
theorem qo:bm Tryz.prog 79:=⟨Tryz.call79⟩
theorem kO:bm Tryz.prog 80:=⟨Tryz.call80⟩
theorem mV:bm Tryz.prog 82:=⟨Tryz.call82⟩
theorem pk:jr Tryz.prog 47 [.tr ae (.leaf),.cO 0,.cO 0,.cO 0]:=⟨⟨Tryz.t47,_,by kernel_rfl,rfl,rfl⟩⟩
theorem rF:cN Tryz.prog 47 2 2 44:=⟨⟨_,_,Tryz.t44,Tryz.underlying47,rfl,rfl,rfl,by kernel_rfl,by decide⟩⟩
theorem tyOne44:cz Tryz.prog 44:=⟨⟨_,Tryz.underlying44,rfl⟩,⟨Tryz.t44,by kernel_rfl,by kernel_rfl⟩⟩
theorem goes81:bm Tryz.prog 81:=⟨Tryz.call81⟩
theorem qp:bm Tryz.prog 54:=⟨Tryz.call54⟩
theorem sG:bm Tryz.prog 59:=⟨Tryz.call59⟩
theorem lQ:cN Tryz.prog 49 1 4 47:=⟨⟨_,_,Tryz.t47,Tryz.underlying49,rfl,rfl,rfl,by kernel_rfl,by decide⟩⟩
theorem s5:jr Tryz.prog 51 [.nil]:=⟨⟨Tryz.t51,_,by kernel_rfl,rfl,rfl⟩⟩
theorem sH:bm Tryz.prog 57:=⟨Tryz.call57⟩
theorem mI:cz Tryz.prog 51:=⟨⟨_,Tryz.underlying51,rfl⟩,⟨Tryz.t51,by kernel_rfl,by kernel_rfl⟩⟩
theorem sE:bm Tryz.prog 77:=⟨Tryz.call77⟩
theorem goes75:bm Tryz.prog 75:=⟨Tryz.call75⟩
theorem oB:bm Tryz.prog 55:=⟨Tryz.call55⟩
theorem qn:bm Tryz.prog 83:=⟨Tryz.call83⟩
theorem sF:bm Tryz.prog 60:=⟨Tryz.call60⟩
theorem goes98:bm Tryz.prog 98:=⟨Tryz.call98⟩
theorem sD:bm Tryz.prog 99:=⟨Tryz.call99⟩
theorem goes76:bm Tryz.prog 76:=⟨Tryz.call76⟩
theorem sM:bm Tryz.prog 30:=⟨Tryz.call30⟩
theorem mX:bm Tryz.prog 29:=⟨Tryz.call29⟩
theorem sI:bm Tryz.prog 56:=⟨Tryz.call56⟩
theorem s6:jr Tryz.prog 35 [.nil]:=⟨⟨Tryz.t35,_,by kernel_rfl,rfl,rfl⟩⟩
theorem oG:cz Tryz.prog 35:=⟨⟨_,Tryz.underlying35,rfl⟩,⟨Tryz.t35,by kernel_rfl,by kernel_rfl⟩⟩
theorem mW:bm Tryz.prog 39:=⟨Tryz.call39⟩
theorem tyAgg23:eU Tryz.prog 23 3:=⟨⟨_,Tryz.underlying23,rfl⟩,⟨Tryz.t23,by kernel_rfl,by kernel_rfl⟩⟩
theorem pJ (x y:A3) {d:Nat}:cI Tryz.prog (d + 2) 23 3 ((cC .i64) x) ((cC .i64) y) (decide (x = y)) :=
 (cI.arr (l:=x.l) (l':=y.l) tyAgg23 Tryz.underlying23 aQ Tryz.underlying3).cast (by rw [Bool.eq_iff_iff]; simp [A3.sj])
theorem tw (x y:b5) {d:Nat}:cI Tryz.prog (d + 3) 25 6 (ak x) (ak y) (decide (x = y)) :=
 (cI.struct (d:=d + 2) (rs:=[decide (x.Lo = y.Lo),decide (x.Hi = y.Hi)]) ay Tryz.stoodInHeld25 Tryz.underlying25 (⟨by decide,⟨_,((cC .i64) x.Lo),((cC .i64) y.Lo),rfl,rfl,rfl,rfl,pJ _ _⟩,⟨by decide,⟨_,((cC .i64) x.Hi),((cC .i64) y.Hi),rfl,rfl,rfl,rfl,pJ _ _⟩,trivial⟩⟩) rfl).cast
  (by cases x; cases y; rw [Bool.eq_iff_iff]; simp [b5.mk.injEq])
theorem oP (x y:b5):kr Tryz.prog 25 (ak x) (ak y) (decide (x = y)):=kr.sy (by kernel_rfl) ay (tw x y (d:=9997)) rfl rfl
theorem qu:bm Tryz.prog 11:=⟨Tryz.call11⟩
theorem sP:bm Tryz.prog 20:=⟨Tryz.call20⟩
theorem qt:bm Tryz.prog 22:=⟨Tryz.call22⟩
theorem sO:bm Tryz.prog 23:=⟨Tryz.call23⟩
theorem sL:bm Tryz.prog 31:=⟨Tryz.call31⟩
theorem goes25:bm Tryz.prog 25:=⟨Tryz.call25⟩
theorem sK:bm Tryz.prog 32:=⟨Tryz.call32⟩
theorem sN:bm Tryz.prog 26:=⟨Tryz.call26⟩
theorem und4:Tryz.prog.underlying 4 = some .bool:=Tryz.underlying4
theorem sR:bm Tryz.prog 15:=⟨Tryz.call15⟩
def iP (F:Nat) (x0:Int):Option Int :=
 Option.bind (if (decide (4294967296 ≤ x0)) = true then (some (x0 / 4294967296,32)) else (some (x0,0))) (fh fun x_1 n_2=>Option.bind (if (decide (65536 ≤ x_1)) = true then (some (x_1 / 65536,IntKind.i64.wrap (n_2 + 16))) else (some (x_1,n_2))) (fh fun x_3 n_4=>Option.bind (if (decide (256 ≤ x_3)) = true then (some (x_3 / 256,IntKind.i64.wrap (n_4 + 8))) else (some (x_3,n_4))) (fh fun x_5 n_6=>(bj ([0,1,2,2,3,3,3,3,4,4,4,4,4,4,4,4,5,5,5,5,5,5,5,5,5,5,5,5,5,5,5,5,6,6,6,6,6,6,6,6,6,6,6,6,6,6,6,6,6,6,6,6,6,6,6,6,6,6,6,6,6,6,6,6,7,7,7,7,7,7,7,7,7,7,7,7,7,7,7,7,7,7,7,7,7,7,7,7,7,7,7,7,7,7,7,7,7,7,7,7,7,7,7,7,7,7,7,7,7,7,7,7,7,7,7,7,7,7,7,7,7,7,7,7,7,7,7,7,8,8,8,8,8,8,8,8,8,8,8,8,8,8,8,8,8,8,8,8,8,8,8,8,8,8,8,8,8,8,8,8,8,8,8,8,8,8,8,8,8,8,8,8,8,8,8,8,8,8,8,8,8,8,8,8,8,8,8,8,8,8,8,8,8,8,8,8,8,8,8,8,8,8,8,8,8,8,8,8,8,8,8,8,8,8,8,8,8,8,8,8,8,8,8,8,8,8,8,8,8,8,8,8,8,8,8,8,8,8,8,8,8,8,8,8,8,8,8,8,8,8,8,8,8,8,8,8]:Str) (IntKind.u8.wrap x_5)).bind fun x_7=>eb (IntKind.i64.wrap (n_6 + (IntKind.i64.wrap (x_7.toNat:Int)))) fun x_8=>some x_8)))
theorem mG {F:Nat} {x0:Int} {r:Int} (h:iP F x0 = some r):ao Tryz.prog [] 95 [] [.one (.int .u64 x0)] (Is [] (.b (.one (.i r)))):=by
 unfold iP at h
 refine ao.intro 25 Tryz.func95 Tryz.ntmps95 rfl (by simp) fun E=>?_
 show ab _ E ⟨25,[],[],[]⟩ _ ⟨[(0,.b (.one (.int .u64 x0)))],[]⟩ _
 refine ab.seq (ab.aa ?_)
 refine Oc oa (af.ai ⟨[(0,.b (.one (.int .u64 x0))),(2,I 0)],[]⟩ rfl ?_)
 obtain ⟨v1,h2,h⟩:=aP h
 refine ab.ek (v:=v1) (fh fun (x_1:Int) (n_2:Int)=>⟨[(0,.b (.one (.int .u64 x_1))),(2,I n_2)],[]⟩) (fun z=>z) ?_ ?_
 ·refine ab.seq (ab.aa ?_)
  refine Oc om (Oc (mT rfl rfl) ?_)
  refine af.ai ⟨[(0,_),(2,_),(4,B (decide (4294967296 ≤ x0)))],[]⟩ rfl (ab.ite h2 rfl (fun _ h2=>?_) (fun _ h2=>?_))
  ·refine ab.seq (ab.aa ?_)
   refine Oc om (Oc (iD (m:=32) (by decide) rfl rfl rfl) (Oc oa ?_))
   refine af.ai ⟨[(0,.b (.one (.int .u64 (x0 / 4294967296))))],[]⟩ rfl (ab.aa (Oc oa (af.nil ?_)))
   exact Fin.join [0,2] [] (x0 / 4294967296,32) (Option.some.inj h2) rfl
  ·refine ab.skip ?_
   exact Fin.join [0,2] [] (x0,0) (Option.some.inj h2) rfl
 ·rintro ⟨x_1,n_2⟩ hv
  subst v1
  obtain ⟨v3,h4,h⟩:=aP h
  refine ab.ek (v:=v3) (fh fun (x_3:Int) (n_4:Int)=>⟨[(0,.b (.one (.int .u64 x_3))),(2,I n_4)],[]⟩) (fun z=>z) ?_ ?_
  ·refine ab.seq (ab.aa ?_)
   refine Oc om (Oc (mT rfl rfl) ?_)
   refine af.ai ⟨[(0,_),(2,_),(8,B (decide (65536 ≤ x_1)))],[]⟩ rfl (ab.ite h4 rfl (fun _ h4=>?_) (fun _ h4=>?_))
   ·refine ab.seq (ab.aa ?_)
    refine Oc om (Oc (iD (m:=16) (by decide) rfl rfl rfl) (Oc oa ?_))
    refine af.ai ⟨[(0,.b (.one (.int .u64 (x_1 / 65536)))),(2,_)],[]⟩ rfl (ab.aa (Oc om (Oc (bW rfl rfl) (Oc oa ?_))))
    refine af.nil ?_
    exact Fin.join [0,2] [] (x_1 / 65536,IntKind.i64.wrap (n_2 + 16)) (Option.some.inj h4) rfl
   ·refine ab.skip ?_
    exact Fin.join [0,2] [] (x_1,n_2) (Option.some.inj h4) rfl
  ·rintro ⟨x_3,n_4⟩ hv
   subst v3
   obtain ⟨v5,h6,h⟩:=aP h
   refine ab.ek (v:=v5) (fh fun (x_5:Int) (n_6:Int)=>⟨[(0,.b (.one (.int .u64 x_5))),(2,I n_6)],[]⟩) (fun z=>z) ?_ ?_
   ·refine ab.seq (ab.aa ?_)
    refine Oc om (Oc (mT rfl rfl) ?_)
    refine af.ai ⟨[(0,_),(2,_),(14,B (decide (256 ≤ x_3)))],[]⟩ rfl (ab.ite h6 rfl (fun _ h6=>?_) (fun _ h6=>?_))
    ·refine ab.seq (ab.aa ?_)
     refine Oc om (Oc (iD (m:=8) (by decide) rfl rfl rfl) (Oc oa ?_))
     refine af.ai ⟨[(0,.b (.one (.int .u64 (x_3 / 256)))),(2,_)],[]⟩ rfl (ab.aa (Oc om (Oc (bW rfl rfl) (Oc oa ?_))))
     refine af.nil ?_
     exact Fin.join [0,2] [] (x_3 / 256,IntKind.i64.wrap (n_4 + 8)) (Option.some.inj h6) rfl
    ·refine ab.skip ?_
     exact Fin.join [0,2] [] (x_3,n_4) (Option.some.inj h6) rfl
   ·rintro ⟨x_5,n_6⟩ hv
    subst v5
    refine ab.seq (ab.aa ?_)
    refine Oc om (Oc om (Oc (dR sq undi5 rfl) ?_))
    obtain ⟨x_7,e7,h⟩:=aP h
    refine Oc (oU und9 rfl rfl (ba e7) (qm e7)) (Oc (dR undi5 pa rfl) ?_)
    refine af.pd .i64 h rfl (bW rfl rfl) (fun x_8 h=>?_)
    refine Oc oa (af.ai ⟨[(2,I x_8)],[]⟩ rfl (ab.ret ?_))
    obtain rfl:=Option.some.inj h
    refine Fin.ag ⟨[(2,_)],[]⟩ rfl (Fin.av [.one (.i x_8)] (.inl rfl) rfl (.cons (.tmp rfl) .nil) ⟨rfl,rfl⟩)
def kZ (F:Nat) (x0:Int):Option Int :=
 (iP F x0).bind fun x_1=>some x_1
theorem nQ {F:Nat} {x0:Int} {r:Int} (h:kZ F x0 = some r):ao Tryz.prog [] 69 [] [.one (.int .u64 x0)] (Is [] (.b (.one (.i r)))):=by
 unfold kZ at h
 refine ao.intro 8 Tryz.func69 Tryz.ntmps69 rfl (by simp) fun E=>?_
 show ab _ E ⟨8,[],[],[]⟩ _ ⟨[(0,.b (.one (.int .u64 x0)))],[]⟩ _
 refine ab.seq (ab.aa ?_)
 refine Oc oa (af.ai ⟨[(0,.b (.one (.int .u64 x0)))],[]⟩ rfl (ab.seq (ab.condFc (ab.skip (Fin.ag ⟨[(0,_)],[]⟩ rfl ?_)))))
 refine Fin.then (ab.seq (ab.aa ?_))
 refine Oc om ?_
 obtain ⟨x_1,e1,h⟩:=aP h
 refine Oc (aj (mG e1) goes95 rfl rfl) (Oc oa ?_)
 refine af.ai ⟨[(2,I x_1)],[]⟩ rfl (ab.ret ?_)
 obtain rfl:=Option.some.inj h
 refine Fin.ag ⟨[(2,_)],[]⟩ rfl (Fin.av [.one (.i x_1)] (.inl rfl) rfl (.cons (.tmp rfl) .nil) ⟨rfl,rfl⟩)
def dn (F:Nat):Option Unit :=
 Option.bind (iter F (fun _=>some (.inr ())) ()) (fun _=>some ())
theorem gF {F:Nat} {r:Unit} (h:dn F = some r):ao Tryz.prog [] 114 [] [.one (.nil),.one (.i 0),.one (.i 0)] (Is [] (.dY [])):=by
 unfold dn at h
 refine ao.intro 49 Tryz.func114 Tryz.ntmps114 rfl (by simp) fun E=>?_
 show ab _ E ⟨49,[],[],[]⟩ _ ⟨[(0,.b (.one (.nil))),(1,I 0),(2,I 0)],[]⟩ _
 refine ab.seq (ab.aa ?_)
 refine Oc om (Oc (bW rfl rfl) (Oc oa ?_))
 refine af.ai ⟨[(0,.b (.one (.nil))),(1,I 0),(2,I 0),(6,I 1)],[]⟩ rfl (ab.block ?_)
 obtain ⟨v1,h2,h⟩:=aP h
 refine ab.dq h2 (fun (_:Unit)=>⟨[(0,.b (.one (.nil))),(1,I 0),(2,I 0),(6,I 1)],[]⟩) [0,1,2,6] [] rfl ?_
 rintro _ o3 h4 hy5
 refine ab.seq (ab.seq (ab.aa ?_))
 refine Oc om (Oc om (Oc (bE rfl rfl) ?_))
 refine af.ai ⟨[(0,_),(1,_),(2,_),(6,_),(12,B false)],[]⟩ rfl (ab.condF rfl (ab.exit (Fin.aF ?_)))
 obtain rfl:=hy5 _ (Option.some.inj h4).symm
 refine Fin.aF (Fin.a6 ?_)
 obtain rfl:=Option.some.inj h
 refine Fin.ag ⟨[],[]⟩ rfl (Fin.av [] (.inr rfl) rfl (.nil) ⟨rfl,rfl⟩)
def cU (F:Nat):Nat → Int → Option Unit
 | 0,_=>none
 | n + 1,limit0=>Option.bind (iter F (fun _=>(dn F).bind fun u_1=>some (.inr ())) ()) (fun y=>some y)
def fM (F:Nat) (limit0:Int):Option Unit:=cU F F limit0
theorem gZ {F:Nat}:∀ (n:Nat) {limit0:Int} {r:Unit} (h:cU F n limit0 = some r),ao Tryz.prog [] 97 [] [.one (.nil),.one (.i 0),.one (.i 0),.one (.i limit0)] (Is [] (.dY [])):=by
 intro n
 induction n with
 | zero=>intro limit0 r h; simp [cU] at h
 | succ n ih=>
 intro limit0 r h
 unfold cU at h
 refine ao.intro 134 Tryz.func97 Tryz.ntmps97 rfl (by simp) fun E=>?_
 show ab _ E ⟨134,[],[],[]⟩ _ ⟨[(0,.b (.one (.nil))),(1,I 0),(2,I 0),(3,I limit0)],[]⟩ _
 refine ab.seq (ab.aa ?_)
 refine Oc oa (af.ai ⟨[(0,.b (.one (.nil))),(1,I 0),(2,I 0),(3,I limit0),(8,B true)],[]⟩ rfl (ab.seq (ab.aa ?_)))
 refine Oc oa (af.ai ⟨[(0,_),(1,_),(2,_),(3,_),(8,_),(9,B true)],[]⟩ rfl (ab.block ?_))
 obtain ⟨v1,h2,h⟩:=aP h
 refine ab.dq h2 (fun (_:Unit)=>⟨[(0,.b (.one (.nil))),(1,I 0),(2,I 0),(3,I limit0),(8,B true),(9,B true)],[]⟩) [0,1,2,3,8,9] [] rfl ?_
 rintro _ o3 h4 hy5
 refine ab.block (ab.seq (ab.aa ?_))
 refine Oc om (Oc om (Oc (oy rfl rfl) (Oc oa ?_)))
 refine af.ai ⟨[(0,_),(1,_),(2,_),(3,_),(8,_),(9,_),(10,I 0)],[]⟩ rfl (ab.seq (ab.seq (ab.aa ?_)))
 refine Oc om (Oc (qk rfl rfl) ?_)
 refine af.ai ⟨[(0,_),(1,_),(2,_),(3,_),(8,_),(9,_),(10,_),(23,B true)],[]⟩ rfl (ab.condT rfl (ab.seq (ab.aa ?_)))
 refine Oc om (Oc om (Oc om ?_))
 obtain ⟨u_1,e6,h4⟩:=aP h4
 refine Oc (aj (gF e6) goes114 rfl rfl) (af.ai ⟨[],[]⟩ rfl (ab.ret (Fin.ax (Fin.aV ?_))))
 obtain rfl:=hy5 _ (Option.some.inj h4).symm
 refine Fin.ax (Fin.aV ?_)
 obtain rfl:=Option.some.inj h
 refine Fin.ag ⟨[],[]⟩ rfl (Fin.av [] (.inl rfl) rfl (.nil) ⟨rfl,rfl⟩)
theorem iw {F:Nat} {limit0:Int} {r:Unit} (h:fM F limit0 = some r):ao Tryz.prog [] 97 [] [.one (.nil),.one (.i 0),.one (.i 0),.one (.i limit0)] (Is [] (.dY [])):=gZ F h
def gS (F:Nat):Option Unit :=
 (kZ F (IntKind.u64.wrap 0)).bind fun x_1=>(fM F x_1).bind fun u_2=>some ()
theorem jJ {F:Nat} {r:Unit} (h:gS F = some r):ao Tryz.prog [] 75 [] [.one (.nil)] (Is [] (.dY [])):=by
 unfold gS at h
 refine ao.intro 11 Tryz.func75 Tryz.ntmps75 rfl (by simp) fun E=>?_
 show ab _ E ⟨11,[],[],[]⟩ _ ⟨[(0,.b (.one (.nil)))],[]⟩ _
 refine ab.seq (ab.aa ?_)
 refine Oc om (Oc (qH eT rfl) (Oc oa ?_))
 refine af.ai ⟨[(0,.b (.one (.nil))),(2,I 0)],[]⟩ rfl (ab.aa (Oc om (Oc om (Oc om (Oc (dR pa oE rfl) ?_)))))
 obtain ⟨x_1,e1,h⟩:=aP h
 refine Oc (aj (nQ e1) goes69 rfl rfl) ?_
 obtain ⟨u_2,e2,h⟩:=aP h
 refine Oc (aj (iw e2) goes97 rfl rfl) (af.nil ?_)
 obtain rfl:=Option.some.inj h
 refine Fin.ag ⟨[],[]⟩ rfl (Fin.av [] (.inr rfl) rfl (.nil) ⟨rfl,rfl⟩)
theorem mc:ao Tryz.prog [] 75 [] [.one .nil] (Is [] (.dY [])):=jJ (F:=3) (r:=()) (by rfl)
def fy (F:Nat) (zs:List Int):Option (List Int):=ox zs
theorem mb {F:Nat} {zs r:List Int} (h:fy F zs = some r):ao Tryz.prog [] 75 [(1,.dc 3 1 (zs.map eI))] [.row 1] (Is [(1,.dc 3 1 (r.map eI))] (.dY [])):=pW Tryz.lays189 mc h
def gY (F:Nat) (x0:entry):Option Int :=
 some (IntKind.u64.wrap x0.id)
theorem mi {F:Nat} {x0:entry} {r:Int} (h:gY F x0 = some r):ao Tryz.prog [] 48 [] [.agg (an x0)] (Is [] (.b (.one (.int .u64 r)))):=by
 unfold gY at h
 refine ao.intro 6 Tryz.func48 Tryz.ntmps48 rfl (by simp) fun E=>?_
 show ab _ E ⟨6,[],[],[]⟩ _ ⟨[(0,.b (.agg (an x0)))],[]⟩ _
 refine ab.seq (ab.aa ?_)
 refine Oc (bK (k:=101) rfl rfl) (Oc oa ?_)
 refine af.ai ⟨[(1,Pt 101 0)],[(101,.box 87 (an x0))]⟩ rfl (ab.seq (ab.aa ?_))
 refine Oc (au dv rfl rfl) (Oc (aJ aQ rfl rfl rfl) (Oc (dR pa sq rfl) (Oc oa ?_)))
 refine af.ai ⟨[(2,.b (.one (.int .u64 (IntKind.u64.wrap x0.id))))],[]⟩ rfl (ab.ret ?_)
 obtain rfl:=Option.some.inj h
 refine Fin.ag ⟨[(2,_)],[]⟩ rfl (Fin.av [.one (.int .u64 (IntKind.u64.wrap x0.id))] (.inl rfl) rfl (.cons (.tmp rfl) .nil) ⟨rfl,rfl⟩)
def fX (F:Nat) (fn0:Nat) (x0:entry):Option Int :=
 if fn0 = 48 then gY F x0 else none
theorem qJ {F:Nat} {fn0:Nat} {x0:entry} {r:Int} (h:fX F fn0 x0 = some r):ao Tryz.prog [] fn0 [] [.agg (an x0)] (Is [] (.b (.one (.int .u64 r)))):=by
 unfold fX at h
 split at h
 ·next e=>subst e; exact mi h
 ·next=>
  simp at h
theorem qK {F:Nat} {fn0:Nat} {x0:entry} {r:Int} (h:fX F fn0 x0 = some r):bm Tryz.prog fn0:=by
 unfold fX at h
 split at h
 ·next e=>subst e; exact goes48
 ·next=>
  simp at h
theorem tt {F:Nat} {fn0:Nat} {x0:entry} {r:Int} (h:fX F fn0 x0 = some r):fn0 ≠ 0:=by
 rintro rfl
 exact absurd h (by simp [fX])
def fF (F:Nat) (x0:entry):Option b5 :=
 some x0.b
theorem mh {F:Nat} {x0:entry} {r:b5} (h:fF F x0 = some r):ao Tryz.prog [] 49 [] [.agg (an x0)] (Is [] (.b (.agg (ak r)))):=by
 unfold fF at h
 refine ao.intro 5 Tryz.func49 Tryz.ntmps49 rfl (by simp) fun E=>?_
 show ab _ E ⟨5,[],[],[]⟩ _ ⟨[(0,.b (.agg (an x0)))],[]⟩ _
 refine ab.seq (ab.aa ?_)
 refine Oc (bK (k:=101) rfl rfl) (Oc (aY (k:=102) ec rfl) ?_)
 refine af.ai ⟨[(1,Pt 101 0),(2,Pt 102 0)],[(101,.box 87 (an x0)),(102,.box 25 ((cC .i64) A3.zero ++ ((cC .i64) A3.zero)))]⟩ rfl (ab.seq (ab.aa ?_))
 refine Oc (au gl rfl rfl) (Oc (lp ay) (Oc (aG ay rfl rfl rfl rfl (Nat.le_of_ble_eq_true rfl) rfl) ?_))
 refine af.ai ⟨[(2,_)],[(102,.box 25 (ak x0.b))]⟩ rfl (ab.ret ?_)
 obtain rfl:=Option.some.inj h
 refine Fin.ag ⟨[(2,_)],[(102,_)]⟩ rfl (Fin.av [.agg (ak x0.b)] (.inl rfl) rfl (.cons (.agg ay rfl rfl rfl rfl) .nil) ⟨rfl,rfl⟩)
def gL (F:Nat) (fn0:Nat) (x0:entry):Option b5 :=
 if fn0 = 49 then fF F x0 else none
theorem qP {F:Nat} {fn0:Nat} {x0:entry} {r:b5} (h:gL F fn0 x0 = some r):ao Tryz.prog [] fn0 [] [.agg (an x0)] (Is [] (.b (.agg (ak r)))):=by
 unfold gL at h
 split at h
 ·next e=>subst e; exact mh h
 ·next=>
  simp at h
theorem qQ {F:Nat} {fn0:Nat} {x0:entry} {r:b5} (h:gL F fn0 x0 = some r):bm Tryz.prog fn0:=by
 unfold gL at h
 split at h
 ·next e=>subst e; exact goes49
 ·next=>
  simp at h
theorem tA {F:Nat} {fn0:Nat} {x0:entry} {r:b5} (h:gL F fn0 x0 = some r):fn0 ≠ 0:=by
 rintro rfl
 exact absurd h (by simp [gL])
def dJ (F:Nat) (x0:Int):Option Bool :=
 some (decide (x0 ≠ x0))
theorem fe {F:Nat} {x0:Int} {r:Bool} (h:dJ F x0 = some r):ao Tryz.prog [] 70 [] [.one (.i x0)] (Is [] (.b (.one (.bool r)))):=by
 unfold dJ at h
 refine ao.intro 6 Tryz.func70 Tryz.ntmps70 rfl (by simp) fun E=>?_
 show ab _ E ⟨6,[],[],[]⟩ _ ⟨[(0,I x0)],[]⟩ _
 refine ab.seq (ab.aa ?_)
 refine Oc oa (af.ai ⟨[(0,I x0)],[]⟩ rfl (ab.seq (ab.aa ?_)))
 refine Oc om (Oc om (Oc (jo rfl rfl) (Oc oa ?_)))
 refine af.ai ⟨[(2,B (decide (x0 ≠ x0)))],[]⟩ rfl (ab.ret ?_)
 obtain rfl:=Option.some.inj h
 refine Fin.ag ⟨[(2,_)],[]⟩ rfl (Fin.av [.one (.bool (decide (x0 ≠ x0)))] (.inl rfl) rfl (.cons (.tmp rfl) .nil) ⟨rfl,rfl⟩)
def cX (F:Nat) (x0:Int) (y0:Int):Option Int :=
 (dJ F x0).bind fun x_1=>(dJ F y0).bind fun x_2=>if x_1 = true then (if x_2 = true then (some 0) else (some (-1))) else (if x_2 = true then (some 1) else (if (decide (x0 < y0)) = true then (some (-1)) else (if (decide (y0 < x0)) = true then (some 1) else (some 0))))
theorem fq {F:Nat} {x0:Int} {y0:Int} {r:Int} (h:cX F x0 y0 = some r):ao Tryz.prog [] 44 [] [.one (.i x0),.one (.i y0)] (Is [] (.b (.one (.i r)))):=by
 unfold cX at h
 refine ao.intro 20 Tryz.func44 Tryz.ntmps44 rfl (by simp) fun E=>?_
 show ab _ E ⟨20,[],[],[]⟩ _ ⟨[(0,I x0),(1,I y0)],[]⟩ _
 refine ab.seq (ab.aa ?_)
 refine Oc oa (af.ai ⟨[(0,I x0),(1,I y0)],[]⟩ rfl (ab.seq (ab.aa ?_)))
 refine Oc om ?_
 obtain ⟨x_1,e1,h⟩:=aP h
 refine Oc (aj (fe e1) oA rfl rfl) (Oc oa ?_)
 refine af.ai ⟨[(0,_),(1,_),(5,B x_1)],[]⟩ rfl (ab.seq (ab.aa ?_))
 refine Oc om ?_
 obtain ⟨x_2,e2,h⟩:=aP h
 refine Oc (aj (fe e2) oA rfl rfl) (Oc oa ?_)
 refine af.ai ⟨[(0,_),(1,_),(5,_),(6,B x_2)],[]⟩ rfl (ab.seq (ab.seq (ab.aa ?_)))
 refine Oc om (af.ai ⟨[(0,_),(1,_),(6,_),(11,B x_1)],[]⟩ rfl (ab.ite h rfl (fun _ h=>?_) (fun _ h=>?_)))
 ·refine ab.seq (ab.seq (ab.aa ?_))
  refine Oc om (af.ai ⟨[(12,B x_2)],[]⟩ rfl (ab.ite h rfl (fun _ h=>?_) (fun _ h=>?_)))
  ·refine ab.seq (ab.aa ?_)
   refine Oc oa (af.ai ⟨[(4,I 0)],[]⟩ rfl (ab.ret (Fin.ax (Fin.ax ?_))))
   obtain rfl:=Option.some.inj h
   refine Fin.ag ⟨[(4,_)],[]⟩ rfl (Fin.av [.one (.i 0)] (.inl rfl) rfl (.cons (.tmp rfl) .nil) ⟨rfl,rfl⟩)
  ·refine ab.skip (Fin.ag ⟨[],[]⟩ rfl (Fin.then (ab.seq (ab.aa ?_))))
   refine Oc oa (af.ai ⟨[(4,I (-1))],[]⟩ rfl (ab.ret (Fin.ax ?_)))
   obtain rfl:=Option.some.inj h
   refine Fin.ag ⟨[(4,_)],[]⟩ rfl (Fin.av [.one (.i (-1))] (.inl rfl) rfl (.cons (.tmp rfl) .nil) ⟨rfl,rfl⟩)
 ·refine ab.skip (Fin.ag ⟨[(0,_),(1,_),(6,_)],[]⟩ rfl (Fin.then (ab.seq (ab.seq (ab.aa ?_)))))
  refine Oc om (af.ai ⟨[(0,_),(1,_),(13,B x_2)],[]⟩ rfl (ab.ite h rfl (fun _ h=>?_) (fun _ h=>?_)))
  ·refine ab.seq (ab.aa ?_)
   refine Oc oa (af.ai ⟨[(4,I 1)],[]⟩ rfl (ab.ret (Fin.ax ?_)))
   obtain rfl:=Option.some.inj h
   refine Fin.ag ⟨[(4,_)],[]⟩ rfl (Fin.av [.one (.i 1)] (.inl rfl) rfl (.cons (.tmp rfl) .nil) ⟨rfl,rfl⟩)
  ·refine ab.skip (Fin.ag ⟨[(0,_),(1,_)],[]⟩ rfl (Fin.then (ab.seq (ab.seq (ab.aa ?_)))))
   refine Oc om (Oc om (Oc (bE rfl rfl) ?_))
   refine af.ai ⟨[(0,_),(1,_),(16,B (decide (x0 < y0)))],[]⟩ rfl (ab.ite h rfl (fun _ h=>?_) (fun _ h=>?_))
   ·refine ab.seq (ab.aa ?_)
    refine Oc oa (af.ai ⟨[(4,I (-1))],[]⟩ rfl (ab.ret (Fin.ax ?_)))
    obtain rfl:=Option.some.inj h
    refine Fin.ag ⟨[(4,_)],[]⟩ rfl (Fin.av [.one (.i (-1))] (.inl rfl) rfl (.cons (.tmp rfl) .nil) ⟨rfl,rfl⟩)
   ·refine ab.skip (Fin.ag ⟨[(0,_),(1,_)],[]⟩ rfl (Fin.then (ab.seq (ab.seq (ab.aa ?_)))))
    refine Oc om (Oc om (Oc (kN rfl rfl) ?_))
    refine af.ai ⟨[(19,B (decide (y0 < x0)))],[]⟩ rfl (ab.ite h rfl (fun _ h=>?_) (fun _ h=>?_))
    ·refine ab.seq (ab.aa ?_)
     refine Oc oa (af.ai ⟨[(4,I 1)],[]⟩ rfl (ab.ret (Fin.ax ?_)))
     obtain rfl:=Option.some.inj h
     refine Fin.ag ⟨[(4,_)],[]⟩ rfl (Fin.av [.one (.i 1)] (.inl rfl) rfl (.cons (.tmp rfl) .nil) ⟨rfl,rfl⟩)
    ·refine ab.skip (Fin.ag ⟨[],[]⟩ rfl (Fin.then (ab.seq (ab.aa ?_))))
     refine Oc oa (af.ai ⟨[(4,I 0)],[]⟩ rfl (ab.ret ?_))
     obtain rfl:=Option.some.inj h
     refine Fin.ag ⟨[(4,_)],[]⟩ rfl (Fin.av [.one (.i 0)] (.inl rfl) rfl (.cons (.tmp rfl) .nil) ⟨rfl,rfl⟩)
def fE (F:Nat) (a0:entry) (b0:entry):Option Int :=
 (cX F a0.id b0.id).bind fun x_1=>some x_1
theorem mg {F:Nat} {a0:entry} {b0:entry} {r:Int} (h:fE F a0 b0 = some r):ao Tryz.prog [] 50 [] [.agg (an a0),.agg (an b0)] (Is [] (.b (.one (.i r)))):=by
 unfold fE at h
 refine ao.intro 10 Tryz.func50 Tryz.ntmps50 rfl (by simp) fun E=>?_
 show ab _ E ⟨10,[],[],[]⟩ _ ⟨[(0,.b (.agg (an a0))),(1,.b (.agg (an b0)))],[]⟩ _
 refine ab.seq (ab.aa ?_)
 refine Oc (bK (k:=101) rfl rfl) (Oc (bK (k:=102) rfl rfl) (Oc oa ?_))
 refine af.ai ⟨[(2,Pt 101 0),(3,Pt 102 0)],[(101,.box 87 (an a0)),(102,.box 87 (an b0))]⟩ rfl (ab.seq (ab.aa ?_))
 refine Oc (au dv rfl rfl) (Oc (aJ aQ rfl rfl rfl) (Oc (au dv rfl rfl) (Oc (aJ aQ rfl rfl rfl) ?_)))
 obtain ⟨x_1,e1,h⟩:=aP h
 refine Oc (aj (fq e1) qq rfl rfl) (Oc oa ?_)
 refine af.ai ⟨[(4,I x_1)],[]⟩ rfl (ab.ret ?_)
 obtain rfl:=Option.some.inj h
 refine Fin.ag ⟨[(4,_)],[]⟩ rfl (Fin.av [.one (.i x_1)] (.inl rfl) rfl (.cons (.tmp rfl) .nil) ⟨rfl,rfl⟩)
def c7 (F:Nat) (s10:List Int) (s20:List Int):Option Int :=
 Option.bind (iter F (fun x_1=>if (decide (x_1 < (s10.length:Int))) = true then ((bj s10 x_1).bind fun x_2=>if (decide ((s20.length:Int) ≤ x_1)) = true then (some (.inr (.inr 1))) else ((bj s20 x_1).bind fun x_3=>(cX F x_2 x_3).bind fun x_4=>if (decide (x_4 ≠ 0)) = true then (some (.inr (.inr x_4))) else (some (.inl (IntKind.i64.wrap (x_1 + 1)))))) else (some (.inr (.inl ())))) 0) (cq (fun _=>if (decide ((s10.length:Int) < (s20.length:Int))) = true then (some (-1)) else (some 0)) (fun y=>some y))
theorem j8 {F:Nat} {s10:List Int} {s20:List Int} {r:Int} (h:c7 F s10 s20 = some r):ao Tryz.prog [] 53 [] [.one (.sl 1 (s10.map eI)),.one (.sl 1 (s20.map eI))] (Is [] (.b (.one (.i r)))):=by
 unfold c7 at h
 refine ao.intro 36 Tryz.func53 Tryz.ntmps53 rfl (by simp) fun E=>?_
 show ab _ E ⟨36,[],[],[]⟩ _ ⟨[(0,.b (.one (.sl 1 (s10.map eI)))),(1,.b (.one (.sl 1 (s20.map eI))))],[]⟩ _
 refine ab.seq (ab.aa ?_)
 refine Oc oa (af.ai ⟨[(0,.b (.one (.sl 1 (s10.map eI)))),(1,.b (.one (.sl 1 (s20.map eI))))],[]⟩ rfl ?_)
 obtain ⟨v1,h2,h⟩:=aP h
 refine ab.ek (v:=v1) (fun (_:Unit)=>⟨[(0,.b (.one (.sl 1 (s10.map eI)))),(1,.b (.one (.sl 1 (s20.map eI))))],[]⟩) (fun z=>.inl z) ?_ ?_
 ·refine ab.seq (ab.aa ?_)
  refine Oc om (Oc (bH eT rfl (List.length_map _)) (Oc om ?_))
  refine af.ai ⟨[(0,_),(1,_),(9,.b (.one (.sl 1 (s10.map eI)))),(10,I (s10.length:Int)),(11,I 0)],[]⟩ rfl (ab.block (ab.dq h2 (fun (x_1:Int)=>⟨[(0,.b (.one (.sl 1 (s10.map eI)))),(1,.b (.one (.sl 1 (s20.map eI)))),(9,.b (.one (.sl 1 (s10.map eI)))),(10,I (s10.length:Int)),(11,I x_1)],[]⟩) [0,1,9,10,11] [] rfl ?_))
  rintro x_1 o3 h4 hy5
  refine ab.seq (ab.aa ?_)
  refine Oc (bE rfl rfl) (af.ai ⟨[(0,_),(1,_),(9,_),(10,_),(11,_),(12,B (decide (x_1 < (s10.length:Int))))],[]⟩ rfl (ab.seq (ab.ite h4 rfl (fun _ h4=>?_) (fun _ h4=>?_))))
  ·refine ab.skip (Fin.ag ⟨[(0,_),(1,_),(9,_),(10,_),(11,_)],[]⟩ rfl (Fin.then (ab.seq (ab.block (ab.seq (ab.aa ?_))))))
   refine Oc om ?_
   obtain ⟨x_2,e6,h4⟩:=aP h4
   refine Oc (bo ca (ba e6) (cD (e:=eI) e6) rfl rfl) (Oc (ar aQ rfl rfl) (Oc oa (Oc oa ?_)))
   refine af.ai ⟨[(0,_),(1,_),(5,I x_1),(6,I x_2),(9,_),(10,_),(11,_)],[]⟩ rfl (ab.seq (ab.seq (ab.aa ?_)))
   refine Oc om (Oc om (Oc (bH eT rfl (List.length_map _)) (Oc (mT rfl rfl) ?_)))
   refine af.ai ⟨[(0,_),(1,_),(5,_),(6,_),(9,_),(10,_),(11,_),(19,B (decide ((s20.length:Int) ≤ x_1)))],[]⟩ rfl (ab.ite h4 rfl (fun _ h4=>?_) (fun _ h4=>?_))
   ·refine ab.seq (ab.aa ?_)
    refine Oc oa (af.ai ⟨[(4,I 1)],[]⟩ rfl (ab.ret (Fin.ax (Fin.aV (Fin.ax ?_)))))
    obtain rfl:=hy5 _ (Option.some.inj h4).symm
    refine Fin.ax (Fin.aV (Fin.ax ?_))
    obtain rfl:=Option.some.inj h
    refine Fin.ag ⟨[(4,_)],[]⟩ rfl (Fin.av [.one (.i 1)] (.inl rfl) rfl (.cons (.tmp rfl) .nil) ⟨rfl,rfl⟩)
   ·refine ab.skip (Fin.ag ⟨[(0,_),(1,_),(5,_),(6,_),(9,_),(10,_),(11,_)],[]⟩ rfl (Fin.then (ab.seq (ab.aa ?_))))
    refine Oc om (Oc om ?_)
    obtain ⟨x_3,e7,h4⟩:=aP h4
    refine Oc (bo ca (ba e7) (cD (e:=eI) e7) rfl rfl) (Oc (ar aQ rfl rfl) (Oc oa ?_))
    refine af.ai ⟨[(0,_),(1,_),(6,_),(7,I x_3),(9,_),(10,_),(11,_)],[]⟩ rfl (ab.seq (ab.aa ?_))
    refine Oc om (Oc om ?_)
    obtain ⟨x_4,e8,h4⟩:=aP h4
    refine Oc (aj (fq e8) qq rfl rfl) (Oc oa ?_)
    refine af.ai ⟨[(0,_),(1,_),(8,I x_4),(9,_),(10,_),(11,_)],[]⟩ rfl (ab.seq (ab.aa ?_))
    refine Oc om (Oc (jo rfl rfl) ?_)
    refine af.ai ⟨[(0,_),(1,_),(8,_),(9,_),(10,_),(11,_),(28,B (decide (x_4 ≠ 0)))],[]⟩ rfl (ab.ite h4 rfl (fun _ h4=>?_) (fun _ h4=>?_))
    ·refine ab.seq (ab.aa ?_)
     refine Oc om (Oc oa ?_)
     refine af.ai ⟨[(4,I x_4)],[]⟩ rfl (ab.ret (Fin.aV (Fin.ax ?_)))
     obtain rfl:=hy5 _ (Option.some.inj h4).symm
     refine Fin.ax (Fin.aV (Fin.ax ?_))
     obtain rfl:=Option.some.inj h
     refine Fin.ag ⟨[(4,_)],[]⟩ rfl (Fin.av [.one (.i x_4)] (.inl rfl) rfl (.cons (.tmp rfl) .nil) ⟨rfl,rfl⟩)
    ·refine ab.skip (Fin.aB (Fin.ag ⟨[(0,_),(1,_),(9,_),(10,_),(11,_)],[]⟩ rfl (Fin.then (ab.aa ?_))))
     refine Oc (bW rfl rfl) (Oc om ?_)
     refine af.nil ?_
     exact Fin.cE [0,1,9,10,11] [] (IntKind.i64.wrap (x_1 + 1)) (Option.some.inj h4) rfl
  ·refine ab.exit (Fin.aF ?_)
   obtain rfl:=hy5 _ (Option.some.inj h4).symm
   refine Fin.aF (Fin.a6 ?_)
   exact Fin.join [0,1] [] () rfl rfl
 ·rintro _ hv
  subst v1
  refine ab.seq (ab.seq (ab.aa ?_))
  refine Oc om (Oc (bH eT rfl (List.length_map _)) (Oc om (Oc (bH eT rfl (List.length_map _)) (Oc (bE rfl rfl) ?_))))
  refine af.ai ⟨[(35,B (decide ((s10.length:Int) < (s20.length:Int))))],[]⟩ rfl (ab.ite h rfl (fun _ h=>?_) (fun _ h=>?_))
  ·refine ab.seq (ab.aa ?_)
   refine Oc oa (af.ai ⟨[(4,I (-1))],[]⟩ rfl (ab.ret (Fin.ax ?_)))
   obtain rfl:=Option.some.inj h
   refine Fin.ag ⟨[(4,_)],[]⟩ rfl (Fin.av [.one (.i (-1))] (.inl rfl) rfl (.cons (.tmp rfl) .nil) ⟨rfl,rfl⟩)
  ·refine ab.skip (Fin.ag ⟨[],[]⟩ rfl (Fin.then (ab.seq (ab.aa ?_))))
   refine Oc oa (af.ai ⟨[(4,I 0)],[]⟩ rfl (ab.ret ?_))
   obtain rfl:=Option.some.inj h
   refine Fin.ag ⟨[(4,_)],[]⟩ rfl (Fin.av [.one (.i 0)] (.inl rfl) rfl (.cons (.tmp rfl) .nil) ⟨rfl,rfl⟩)
def jx (F:Nat) (vals0:List Int):Option Int :=
 Option.bind (iter F (fun x_1=>if (decide (x_1 < (vals0.length:Int))) = true then ((bj vals0 x_1).bind fun x_2=>if (decide (x_2 ≠ 0)) = true then (some (.inr (.inr x_2))) else (some (.inl (IntKind.i64.wrap (x_1 + 1))))) else (some (.inr (.inl ())))) 0) (cq (fun _=>some 0) (fun y=>some y))
theorem p4 {F:Nat} {vals0:List Int} {r:Int} (h:jx F vals0 = some r):ao Tryz.prog [] 52 [] [.one (.sl 1 (vals0.map eI))] (Is [] (.b (.one (.i r)))):=by
 unfold jx at h
 refine ao.intro 18 Tryz.func52 Tryz.ntmps52 rfl (by simp) fun E=>?_
 show ab _ E ⟨18,[],[],[]⟩ _ ⟨[(0,.b (.one (.sl 1 (vals0.map eI))))],[]⟩ _
 refine ab.seq (ab.aa ?_)
 refine Oc oa (af.ai ⟨[(0,.b (.one (.sl 1 (vals0.map eI))))],[]⟩ rfl (ab.seq (ab.aa ?_)))
 refine Oc oa (af.ai ⟨[(0,_),(3,I 0)],[]⟩ rfl ?_)
 obtain ⟨v1,h2,h⟩:=aP h
 refine ab.ek (v:=v1) (fun (_:Unit)=>⟨[(3,I 0)],[]⟩) (fun z=>.inl z) ?_ ?_
 ·refine ab.seq (ab.aa ?_)
  refine Oc om (Oc (bH eT rfl (List.length_map _)) (Oc om ?_))
  refine af.ai ⟨[(3,_),(6,.b (.one (.sl 1 (vals0.map eI)))),(7,I (vals0.length:Int)),(8,I 0)],[]⟩ rfl (ab.block (ab.dq h2 (fun (x_1:Int)=>⟨[(3,I 0),(6,.b (.one (.sl 1 (vals0.map eI)))),(7,I (vals0.length:Int)),(8,I x_1)],[]⟩) [3,6,7,8] [] rfl ?_))
  rintro x_1 o3 h4 hy5
  refine ab.seq (ab.aa ?_)
  refine Oc (bE rfl rfl) (af.ai ⟨[(3,_),(6,_),(7,_),(8,_),(9,B (decide (x_1 < (vals0.length:Int))))],[]⟩ rfl (ab.seq (ab.ite h4 rfl (fun _ h4=>?_) (fun _ h4=>?_))))
  ·refine ab.skip (Fin.ag ⟨[(3,_),(6,_),(7,_),(8,_)],[]⟩ rfl (Fin.then (ab.seq (ab.block (ab.seq (ab.aa ?_))))))
   obtain ⟨x_2,e6,h4⟩:=aP h4
   refine Oc (bo ca (ba e6) (cD (e:=eI) e6) rfl rfl) (Oc (ar aQ rfl rfl) (Oc oa ?_))
   refine af.ai ⟨[(3,_),(5,I x_2),(6,_),(7,_),(8,_)],[]⟩ rfl (ab.seq (ab.aa ?_))
   refine Oc om (Oc om (Oc (jo rfl rfl) ?_))
   refine af.ai ⟨[(3,_),(5,_),(6,_),(7,_),(8,_),(14,B (decide (x_2 ≠ 0)))],[]⟩ rfl (ab.ite h4 rfl (fun _ h4=>?_) (fun _ h4=>?_))
   ·refine ab.seq (ab.aa ?_)
    refine Oc om (Oc oa ?_)
    refine af.ai ⟨[(2,I x_2)],[]⟩ rfl (ab.ret (Fin.aV (Fin.ax ?_)))
    obtain rfl:=hy5 _ (Option.some.inj h4).symm
    refine Fin.ax (Fin.aV (Fin.ax ?_))
    obtain rfl:=Option.some.inj h
    refine Fin.ag ⟨[(2,_)],[]⟩ rfl (Fin.av [.one (.i x_2)] (.inl rfl) rfl (.cons (.tmp rfl) .nil) ⟨rfl,rfl⟩)
   ·refine ab.skip (Fin.aB (Fin.ag ⟨[(3,_),(6,_),(7,_),(8,_)],[]⟩ rfl (Fin.then (ab.aa ?_))))
    refine Oc (bW rfl rfl) (Oc om ?_)
    refine af.nil ?_
    exact Fin.cE [3,6,7,8] [] (IntKind.i64.wrap (x_1 + 1)) (Option.some.inj h4) rfl
  ·refine ab.exit (Fin.aF ?_)
   obtain rfl:=hy5 _ (Option.some.inj h4).symm
   refine Fin.aF (Fin.a6 ?_)
   exact Fin.join [3] [] () rfl rfl
 ·rintro _ hv
  subst v1
  refine ab.seq (ab.aa ?_)
  refine Oc om (Oc oa ?_)
  refine af.ai ⟨[(2,I 0)],[]⟩ rfl (ab.ret ?_)
  obtain rfl:=Option.some.inj h
  refine Fin.ag ⟨[(2,_)],[]⟩ rfl (Fin.av [.one (.i 0)] (.inl rfl) rfl (.cons (.tmp rfl) .nil) ⟨rfl,rfl⟩)
def fD (F:Nat) (a0:entry) (b0:entry):Option Int :=
 (c7 F a0.b.Lo.l b0.b.Lo.l).bind fun x_1=>(cX F a0.id b0.id).bind fun x_2=>(jx F [x_1,x_2]).bind fun x_3=>some x_3
theorem mf {F:Nat} {a0:entry} {b0:entry} {r:Int} (h:fD F a0 b0 = some r):ao Tryz.prog [] 51 [] [.agg (an a0),.agg (an b0)] (Is [] (.b (.one (.i r)))):=by
 unfold fD at h
 refine ao.intro 19 Tryz.func51 Tryz.ntmps51 rfl (by simp) fun E=>?_
 show ab _ E ⟨19,[],[],[]⟩ _ ⟨[(0,.b (.agg (an a0))),(1,.b (.agg (an b0)))],[]⟩ _
 refine ab.seq (ab.aa ?_)
 refine Oc (lA rfl) (Oc (lA rfl) (Oc oa ?_))
 refine af.ai ⟨[(2,.b (.aK (an a0))),(3,.b (.aK (an b0)))],[]⟩ rfl (ab.seq ?_)
 obtain ⟨x_1,e1,h⟩:=aP h
 obtain ⟨x_2,e2,h⟩:=aP h
 obtain ⟨x_3,e3,h⟩:=aP h
 refine ab.bZ mixed 15 [.b (.aK (ak a0.b)),.b (.aK (ak a0.b)),.b (.one (.sl 1 (a0.b.Lo.l.map eI))),.b (.aK (ak b0.b)),.b (.aK (ak b0.b)),.b (.one (.sl 1 (b0.b.Lo.l.map eI))),I x_1,.b (.aK (an a0)),I a0.id,.b (.aK (an b0)),I b0.id,I x_2,.b (.one (.sl 1 ([x_1,x_2].map eI))),I x_3,I x_3] [4] [] (s':=⟨[(4,I x_3)],[]⟩) rfl ⟨fun _=>by exact .p (aC gl rfl rfl),fun _=>by exact .p (aC ct rfl rfl),fun _=>.p (my (xs:=a0.b.Lo.l) (enc:=eI) bG rfl rfl rfl (fun _=>rfl) (by rw [eE]; decide)),fun _=>by exact .p (aC gl rfl rfl),fun _=>by exact .p (aC ct rfl rfl),fun _=>.p (my (xs:=b0.b.Lo.l) (enc:=eI) bG rfl rfl rfl (fun _=>rfl) (by rw [eE]; decide)),fun _=>.p (aj (j8 e1) goes53 rfl rfl),fun _=>by exact .p (aC dv rfl rfl),fun _=>.p (ar aQ rfl rfl),fun _=>by exact .p (aC dv rfl rfl),fun _=>.p (ar aQ rfl rfl),fun _=>.p (aj (fq e2) qq rfl rfl),fun _=>.p (c6 (es:=[x_1,x_2].map eI) ca rfl rfl (cF fun _=>rfl) rfl (by decide) (by decide)),fun _=>.p (aj (p4 e3) goes52 rfl rfl),fun _=>.p oa,trivial⟩ rfl rfl (ab.ret ?_)
 obtain rfl:=Option.some.inj h
 refine Fin.ag ⟨[(4,_)],[]⟩ rfl (Fin.av [.one (.i x_3)] (.inl rfl) rfl (.cons (.tmp rfl) .nil) ⟨rfl,rfl⟩)
def eY (F:Nat) (fn0:Nat) (a0:entry) (b0:entry):Option Int :=
 if fn0 = 50 then fE F a0 b0 else if fn0 = 51 then fD F a0 b0 else none
theorem nA {F:Nat} {fn0:Nat} {a0:entry} {b0:entry} {r:Int} (h:eY F fn0 a0 b0 = some r):ao Tryz.prog [] fn0 [] [.agg (an a0),.agg (an b0)] (Is [] (.b (.one (.i r)))):=by
 unfold eY at h
 split at h
 ·next e=>subst e; exact mg h
 ·next=>
  split at h
  ·next e=>subst e; exact mf h
  ·next=>
   simp at h
theorem nB {F:Nat} {fn0:Nat} {a0:entry} {b0:entry} {r:Int} (h:eY F fn0 a0 b0 = some r):bm Tryz.prog fn0:=by
 unfold eY at h
 split at h
 ·next e=>subst e; exact goes50
 ·next=>
  split at h
  ·next e=>subst e; exact goes51
  ·next=>
   simp at h
theorem pM {F:Nat} {fn0:Nat} {a0:entry} {b0:entry} {r:Int} (h:eY F fn0 a0 b0 = some r):fn0 ≠ 0:=by
 rintro rfl
 exact absurd h (by simp [eY])
def bD (F:Nat) (b0:b5):Option Bool :=
 Option.bind (iter F (fun x_1=>if (decide (x_1 < 3)) = true then ((bj b0.Lo.l x_1).bind fun x_2=>(bj b0.Hi.l x_1).bind fun x_3=>(bu (!(decide (x_3 < x_2))) (bj b0.Lo.l x_1)).bind fun x_4=>(bu (!((decide (x_3 < x_2)) || (decide (x_4 < (-1125899906842624))))) (bj b0.Hi.l x_1)).bind fun x_5=>if (((decide (x_3 < x_2)) || (decide (x_4 < (-1125899906842624)))) || (decide (1125899906842624 < x_5))) = true then (some (.inr (.inr false))) else (some (.inl (IntKind.i64.wrap (x_1 + 1))))) else (some (.inr (.inl ())))) 0) (cq (fun _=>some true) (fun y=>some y))
theorem bY {F:Nat} {b0:b5} {r:Bool} (h:bD F b0 = some r):ao Tryz.prog [] 14 [] [.agg (ak b0)] (Is [] (.b (.one (.bool r)))):=by
 unfold bD at h
 refine ao.intro 31 Tryz.func14 Tryz.ntmps14 rfl (by simp) fun E=>?_
 show ab _ E ⟨31,[],[],[]⟩ _ ⟨[(0,.b (.agg (ak b0)))],[]⟩ _
 refine ab.seq (ab.aa ?_)
 refine Oc (bK (k:=101) rfl rfl) (Oc oa ?_)
 refine af.ai ⟨[(1,Pt 101 0)],[(101,.box 25 (ak b0))]⟩ rfl ?_
 obtain ⟨v1,h2,h⟩:=aP h
 refine ab.ek (v:=v1) (fun (_:Unit)=>⟨[],[]⟩) (fun z=>.inl z) ?_ ?_
 ·refine ab.seq (ab.aa ?_)
  refine Oc om (af.ai ⟨[(1,_),(4,I 0)],[(101,_)]⟩ rfl (ab.block (ab.dq h2 (fun (x_1:Int)=>⟨[(1,Pt 101 0),(4,I x_1)],[(101,.box 25 (ak b0))]⟩) [1,4] [101] rfl ?_)))
  rintro x_1 o3 h4 hy5
  refine ab.seq (ab.aa ?_)
  refine Oc (bE rfl rfl) (af.ai ⟨[(1,_),(4,_),(5,B (decide (x_1 < 3)))],[(101,_)]⟩ rfl (ab.seq (ab.ite h4 rfl (fun _ h4=>?_) (fun _ h4=>?_))))
  ·refine ab.skip (Fin.ag ⟨[(1,_),(4,_)],[(101,_)]⟩ rfl (Fin.then (ab.seq (ab.block (ab.seq (ab.aa ?_))))))
   refine Oc om (Oc oa ?_)
   refine af.ai ⟨[(1,_),(3,I x_1),(4,_)],[(101,_)]⟩ rfl (ab.seq ?_)
   obtain ⟨x_2,e6,h4⟩:=aP h4
   obtain ⟨x_3,e7,h4⟩:=aP h4
   obtain ⟨x_4,e11,h4⟩:=aP h4
   obtain ⟨x_5,e17,h4⟩:=aP h4
   refine ab.bZ mixed 23 [I x_1,Pt 101 0,.b (.ptr 101 (0 + (x_1:Int).toNat * 1)),I x_2,I x_1,Pt 101 3,.b (.ptr 101 (3 + (x_1:Int).toNat * 1)),I x_3,B (decide (x_3 < x_2)),B (decide (x_3 < x_2)),.opt (!(decide (x_3 < x_2))) (.one (.i x_1)),.opt (!(decide (x_3 < x_2))) (.ptr 101 0),.opt (!(decide (x_3 < x_2))) (.ptr 101 (0 + (x_1:Int).toNat * 1)),.opt (!(decide (x_3 < x_2))) (.one (.i x_4)),.opt (!(decide (x_3 < x_2))) (.one (.bool (decide (x_4 < (-1125899906842624))))),B ((decide (x_3 < x_2)) || (decide (x_4 < (-1125899906842624)))),B ((decide (x_3 < x_2)) || (decide (x_4 < (-1125899906842624)))),.opt (!((decide (x_3 < x_2)) || (decide (x_4 < (-1125899906842624))))) (.one (.i x_1)),.opt (!((decide (x_3 < x_2)) || (decide (x_4 < (-1125899906842624))))) (.ptr 101 3),.opt (!((decide (x_3 < x_2)) || (decide (x_4 < (-1125899906842624))))) (.ptr 101 (3 + (x_1:Int).toNat * 1)),.opt (!((decide (x_3 < x_2)) || (decide (x_4 < (-1125899906842624))))) (.one (.i x_5)),.opt (!((decide (x_3 < x_2)) || (decide (x_4 < (-1125899906842624))))) (.one (.bool (decide (1125899906842624 < x_5)))),B (((decide (x_3 < x_2)) || (decide (x_4 < (-1125899906842624)))) || (decide (1125899906842624 < x_5)))] [1,4,29] [101] (s':=⟨[(1,_),(4,_),(29,B (((decide (x_3 < x_2)) || (decide (x_4 < (-1125899906842624)))) || (decide (1125899906842624 < x_5))))],[(101,_)]⟩) rfl ⟨fun _=>.p om,fun _=>.p (au ct rfl rfl),fun _=>.p (aZ bG (ba e6) (cS e6) rfl rfl rfl),fun _=>.p (aJ aQ rfl rfl (cG (post:=((cC .i64) b0.Hi)) (k:=.i64) [] e6 rfl rfl rfl)),fun _=>.p om,fun _=>.p (au cr rfl rfl),fun _=>.p (aZ bG (ba e7) (cS e7) rfl rfl rfl),fun _=>.p (aJ aQ rfl rfl (cG (post:=[]) (k:=.i64) ((cC .i64) b0.Lo) e7 rfl rfl rfl)),fun _=>.p (kN rfl rfl),fun _=>.p om,fun _=>by exact .guard (!(decide (x_3 < x_2))) 1 [] (.plain rfl) (hY _) rfl rfl (fun g8=>trivial) (fun g8=>om),fun _=>by exact .guard (!(decide (x_3 < x_2))) 1 [] (.plain rfl) (hY _) rfl rfl (fun g9=>trivial) (fun g9=>au ct rfl rfl),fun _=>by exact .guard (!(decide (x_3 < x_2))) 3 [17,18] (.plain rfl) (hY _) rfl rfl (fun g10=>⟨g10,g10,trivial⟩) (fun g10=>aZ bG (ba (gc e11 g10)) (cS (gc e11 g10)) rfl rfl rfl),fun _=>by exact .guard (!(decide (x_3 < x_2))) 2 [19] (.plain rfl) (hY _) rfl rfl (fun g12=>⟨g12,trivial⟩) (fun g12=>aJ aQ rfl rfl (cG (post:=((cC .i64) b0.Hi)) (k:=.i64) [] (gc e11 g12) rfl rfl rfl)),fun _=>by exact .guard (!(decide (x_3 < x_2))) 2 [20] (.plain rfl) (hY _) rfl rfl (fun g13=>⟨g13,trivial⟩) (fun g13=>bE rfl rfl),fun _=>.p (cJ (fun e=>by first | (rw [e]; rfl) | (simp only at e; rw [e]; rfl)) rfl rfl rfl rfl),fun _=>.p om,fun _=>by exact .guard (!((decide (x_3 < x_2)) || (decide (x_4 < (-1125899906842624))))) 1 [] (.plain rfl) (hY _) rfl rfl (fun g14=>trivial) (fun g14=>om),fun _=>by exact .guard (!((decide (x_3 < x_2)) || (decide (x_4 < (-1125899906842624))))) 1 [] (.plain rfl) (hY _) rfl rfl (fun g15=>trivial) (fun g15=>au cr rfl rfl),fun _=>by exact .guard (!((decide (x_3 < x_2)) || (decide (x_4 < (-1125899906842624))))) 3 [24,25] (.plain rfl) (hY _) rfl rfl (fun g16=>⟨g16,g16,trivial⟩) (fun g16=>aZ bG (ba (gc e17 g16)) (cS (gc e17 g16)) rfl rfl rfl),fun _=>by exact .guard (!((decide (x_3 < x_2)) || (decide (x_4 < (-1125899906842624))))) 2 [26] (.plain rfl) (hY _) rfl rfl (fun g18=>⟨g18,trivial⟩) (fun g18=>aJ aQ rfl rfl (cG (post:=[]) (k:=.i64) ((cC .i64) b0.Lo) (gc e17 g18) rfl rfl rfl)),fun _=>by exact .guard (!((decide (x_3 < x_2)) || (decide (x_4 < (-1125899906842624))))) 2 [27] (.plain rfl) (hY _) rfl rfl (fun g19=>⟨g19,trivial⟩) (fun g19=>kN rfl rfl),fun _=>.p (cJ (fun e=>by first | (rw [e]; rfl) | (simp only at e; rw [e]; rfl)) rfl rfl rfl rfl),trivial⟩ rfl rfl ?_
   refine ab.ite h4 rfl (fun _ h4=>?_) (fun _ h4=>?_)
   ·refine ab.seq (ab.aa ?_)
    refine Oc oa (af.ai ⟨[(2,B false)],[]⟩ rfl (ab.ret (Fin.aV (Fin.ax ?_))))
    obtain rfl:=hy5 _ (Option.some.inj h4).symm
    refine Fin.ax (Fin.aV (Fin.ax ?_))
    obtain rfl:=Option.some.inj h
    refine Fin.ag ⟨[(2,_)],[]⟩ rfl (Fin.av [.one (.bool false)] (.inl rfl) rfl (.cons (.tmp rfl) .nil) ⟨rfl,rfl⟩)
   ·refine ab.skip (Fin.aB (Fin.ag ⟨[(1,_),(4,_)],[(101,_)]⟩ rfl (Fin.then (ab.aa ?_))))
    refine Oc (bW rfl rfl) (Oc om ?_)
    refine af.nil ?_
    exact Fin.cE [1,4] [101] (IntKind.i64.wrap (x_1 + 1)) (Option.some.inj h4) rfl
  ·refine ab.exit (Fin.aF ?_)
   obtain rfl:=hy5 _ (Option.some.inj h4).symm
   refine Fin.aF (Fin.a6 ?_)
   exact Fin.join [] [] () rfl rfl
 ·rintro _ hv
  subst v1
  refine ab.seq (ab.aa ?_)
  refine Oc oa (af.ai ⟨[(2,B true)],[]⟩ rfl (ab.ret ?_))
  obtain rfl:=Option.some.inj h
  refine Fin.ag ⟨[(2,_)],[]⟩ rfl (Fin.av [.one (.bool true)] (.inl rfl) rfl (.cons (.tmp rfl) .nil) ⟨rfl,rfl⟩)
def fR (F:Nat) (b0:b5):Option Bool :=
 (bD F b0).bind fun x_1=>some (!x_1)
theorem k5 {F:Nat} {b0:b5} {r:Bool} (h:fR F b0 = some r):ao Tryz.prog [] 41 [] [.agg (ak b0)] (Is [] (.b (.one (.bool r)))):=by
 unfold fR at h
 refine ao.intro 6 Tryz.func41 Tryz.ntmps41 rfl (by simp) fun E=>?_
 show ab _ E ⟨6,[],[],[]⟩ _ ⟨[(0,.b (.agg (ak b0)))],[]⟩ _
 refine ab.seq (ab.aa ?_)
 refine Oc (bK (k:=101) rfl rfl) (Oc oa ?_)
 refine af.ai ⟨[(1,Pt 101 0)],[(101,.box 25 (ak b0))]⟩ rfl (ab.seq (ab.aa ?_))
 refine Oc (lp ay) ?_
 obtain ⟨x_1,e1,h⟩:=aP h
 refine Oc (aj (bY e1) jq rfl rfl) (Oc (dW rfl) (Oc oa ?_))
 refine af.ai ⟨[(2,B (!x_1))],[]⟩ rfl (ab.ret ?_)
 obtain rfl:=Option.some.inj h
 refine Fin.ag ⟨[(2,_)],[]⟩ rfl (Fin.av [.one (.bool (!x_1))] (.inl rfl) rfl (.cons (.tmp rfl) .nil) ⟨rfl,rfl⟩)
def jy (F:Nat) (fn0:Nat) (b0:b5):Option Bool :=
 if fn0 = 41 then fR F b0 else none
theorem p5 {F:Nat} {fn0:Nat} {b0:b5} {r:Bool} (h:jy F fn0 b0 = some r):ao Tryz.prog [] fn0 [] [.agg (ak b0)] (Is [] (.b (.one (.bool r)))):=by
 unfold jy at h
 split at h
 ·next e=>subst e; exact k5 h
 ·next=>
  simp at h
theorem p6 {F:Nat} {fn0:Nat} {b0:b5} {r:Bool} (h:jy F fn0 b0 = some r):bm Tryz.prog fn0:=by
 unfold jy at h
 split at h
 ·next e=>subst e; exact goes41
 ·next=>
  simp at h
def fQ (F:Nat) (n0:cw a8):Option Bool :=
 some n0.cP
theorem k4 {F:Nat} {n0:cw a8} {r:Bool} (h:fQ F n0 = some r):ao Tryz.prog [] 123 [] [.one (.tr ae n0)] (Is [] (.b (.one (.bool r)))):=by
 unfold fQ at h
 refine ao.intro 5 Tryz.func123 Tryz.ntmps123 rfl (by simp) fun E=>?_
 show ab _ E ⟨5,[],[],[]⟩ _ ⟨[(0,.b (.one (.tr ae n0)))],[]⟩ _
 refine ab.seq (ab.aa ?_)
 refine Oc oa (af.ai ⟨[(0,.b (.one (.tr ae n0)))],[]⟩ rfl (ab.seq (ab.aa ?_)))
 refine Oc om (Oc (eG kJ rfl) (Oc oa ?_))
 refine af.ai ⟨[(2,B n0.cP)],[]⟩ rfl (ab.ret ?_)
 obtain rfl:=Option.some.inj h
 refine Fin.ag ⟨[(2,_)],[]⟩ rfl (Fin.av [.one (.bool n0.cP)] (.inl rfl) rfl (.cons (.tmp rfl) .nil) ⟨rfl,rfl⟩)
def gm (F:Nat) (fn0:Nat) (n0:cw a8):Option Bool :=
 if fn0 = 123 then fQ F n0 else none
theorem lE {F:Nat} {fn0:Nat} {n0:cw a8} {r:Bool} (h:gm F fn0 n0 = some r):ao Tryz.prog [] fn0 [] [.one (.tr ae n0)] (Is [] (.b (.one (.bool r)))):=by
 unfold gm at h
 split at h
 ·next e=>subst e; exact k4 h
 ·next=>
  simp at h
theorem lF {F:Nat} {fn0:Nat} {n0:cw a8} {r:Bool} (h:gm F fn0 n0 = some r):bm Tryz.prog fn0:=by
 unfold gm at h
 split at h
 ·next e=>subst e; exact goes123
 ·next=>
  simp at h
def di (F:Nat) (b0:b5) (n0:Int):Option (b5 × Int) :=
 (bD F b0).bind fun x_1=>eb (((!x_1) || (decide (n0 < 0))) || (decide (2251799813685248 < n0))) fun x_2=>if x_2 = true then (some ((⟨A3.zero,A3.zero⟩:b5),1)) else (Option.bind (iter F (fh fun b_4 x_5=>if (decide (x_5 < 3)) = true then ((bj b_4.Lo.l x_5).bind fun x_7=>(bj b_4.Lo.l x_5).bind fun x_8=>(bj b_4.Hi.l x_5).bind fun x_9=>(bj b_4.Hi.l x_5).bind fun x_10=>some (.inl ((⟨b_4.Lo.set x_5 (IntKind.i64.wrap (x_7 - n0)),b_4.Hi.set x_5 (IntKind.i64.wrap (x_9 + n0))⟩:b5),IntKind.i64.wrap (x_5 + 1)))) else (some (.inr b_4))) (b0,0)) (fun b_3=>(bD F b_3).bind fun x_11=>if (!x_11) = true then (some ((⟨A3.zero,A3.zero⟩:b5),1)) else (some (b_3,0))))
theorem fS {F:Nat} {b0:b5} {n0:Int} {r:b5 × Int} (h:di F b0 n0 = some r):ao Tryz.prog [] 11 [] [.agg (ak b0),.one (.i n0)] (Is [] (.dY [.agg (ak r.1),.one (.i r.2)])):=by
 unfold di at h
 refine ao.intro 44 Tryz.func11 Tryz.ntmps11 rfl (by simp) fun E=>?_
 show ab _ E ⟨44,[],[],[]⟩ _ ⟨[(0,.b (.agg (ak b0))),(1,I n0)],[]⟩ _
 refine ab.seq (ab.aa ?_)
 refine Oc (bK (k:=101) rfl rfl) (Oc (aY (k:=102) ec rfl) (Oc oa ?_))
 refine af.ai ⟨[(1,I n0),(2,Pt 101 0),(4,Pt 102 0)],[(101,.box 25 (ak b0)),(102,.box 25 ((cC .i64) A3.zero ++ ((cC .i64) A3.zero)))]⟩ rfl (ab.seq (ab.seq (ab.aa ?_)))
 refine Oc (lp ay) ?_
 obtain ⟨x_1,e1,h⟩:=aP h
 refine Oc (aj (bY e1) jq rfl rfl) (Oc (dW rfl) (Oc om ?_))
 refine CgF (!(!x_1)) [] (fun g2=>trivial) (fun g2=>om) (af.ag ⟨[(1,_),(2,_),(4,_),(10,B (!x_1)),(11,.opt (!(!x_1)) (.one (.i n0)))],[(101,_),(102,_)]⟩ rfl (CgF (!(!x_1)) [11] (fun g3=>by exact ⟨g3,trivial⟩) (fun g3=>bE rfl rfl) (Oc (cJ (fun e=>by first | (rw [e]; rfl) | (simp only at e; rw [e]; rfl)) rfl rfl rfl rfl) (Oc om ?_))))
 refine CgF (!((!x_1) || (decide (n0 < 0)))) [] (fun g4=>trivial) (fun g4=>om) (CgF (!((!x_1) || (decide (n0 < 0)))) [15] (fun g5=>by exact ⟨g5,trivial⟩) (fun g5=>kN rfl rfl) (af.mS h rfl (cJ (fun e=>by first | (rw [e]; rfl) | (simp only at e; rw [e]; rfl)) rfl rfl rfl rfl) (fun x_2 h=>?_)))
 refine af.ai ⟨[(1,_),(2,_),(4,_),(17,B x_2)],[(101,_),(102,_)]⟩ rfl (ab.ite h rfl (fun _ h=>?_) (fun _ h=>?_))
 ·refine ab.seq (ab.aa ?_)
  refine Oc (cg jV rfl rfl) (Oc (aG ay rfl rfl rfl rfl (Nat.le_of_ble_eq_true rfl) rfl) (Oc oa ?_))
  refine af.ai ⟨[(4,_),(5,I 1)],[(102,_)]⟩ rfl (ab.ret (Fin.ax ?_))
  obtain rfl:=Option.some.inj h
  refine Fin.ag ⟨[(4,_),(5,_)],[(102,_)]⟩ rfl (Fin.av [.agg ((cC .i64) A3.zero ++ ((cC .i64) A3.zero)),.one (.i 1)] (.inl rfl) rfl (.cons (.agg ay rfl rfl rfl rfl) (.cons (.tmp rfl) .nil)) ⟨rfl,rfl⟩)
 ·refine ab.skip (Fin.ag ⟨[(1,_),(2,_),(4,_)],[(101,_),(102,_)]⟩ rfl (Fin.then ?_))
  obtain ⟨v6,h7,h⟩:=aP h
  refine ab.ek (v:=v6) (fun (b_3:b5)=>⟨[(2,Pt 101 0),(4,Pt 102 0)],[(101,.box 25 (ak b_3)),(102,.box 25 ((cC .i64) A3.zero ++ ((cC .i64) A3.zero)))]⟩) (fun z=>z) ?_ ?_
  ·refine ab.seq (ab.aa ?_)
   refine Oc om (af.ai ⟨[(1,_),(2,_),(4,_),(19,I 0)],[(101,_),(102,_)]⟩ rfl (ab.block (ab.dq h7 (fh fun (b_4:b5) (x_5:Int)=>⟨[(1,I n0),(2,Pt 101 0),(4,Pt 102 0),(19,I x_5)],[(101,.box 25 (ak b_4)),(102,.box 25 ((cC .i64) A3.zero ++ ((cC .i64) A3.zero)))]⟩) [1,2,4,19] [101,102] rfl ?_)))
   rintro ⟨b_4,x_5⟩ o8 h9 hy10
   refine ab.seq (ab.aa ?_)
   refine Oc (bE rfl rfl) (af.ai ⟨[(1,_),(2,_),(4,_),(19,_),(20,B (decide (x_5 < 3)))],[(101,_),(102,_)]⟩ rfl (ab.seq (ab.ite h9 rfl (fun _ h9=>?_) (fun _ h9=>?_))))
   ·refine ab.skip (Fin.ag ⟨[(1,_),(2,_),(4,_),(19,_)],[(101,_),(102,_)]⟩ rfl (Fin.then (ab.seq (ab.block (ab.seq (ab.aa ?_))))))
    refine Oc om (Oc oa ?_)
    refine af.ai ⟨[(1,_),(2,_),(4,_),(6,I x_5),(19,_)],[(101,_),(102,_)]⟩ rfl (ab.seq (ab.aa ?_))
    refine Oc om (Oc (au ct rfl rfl) ?_)
    obtain ⟨x_7,e11,h9⟩:=aP h9
    refine Oc (aZ bG (ba e11) (cS e11) rfl rfl rfl) (Oc (aJ aQ rfl rfl (cG (post:=((cC .i64) b_4.Hi)) (k:=.i64) [] e11 rfl rfl rfl)) (Oc om (Oc (oy rfl rfl) (Oc (au ct rfl rfl) ?_))))
    obtain ⟨x_8,e12,h9⟩:=aP h9
    refine Oc (aZ bG (ba e12) (cS e12) rfl rfl rfl) (Oc (dH aQ rfl rfl rfl (oD (post:=((cC .i64) b_4.Hi)) (k:=.i64) [] e12 rfl rfl rfl) (mO (post:=((cC .i64) b_4.Hi)) (k:=.i64) [] e12 rfl rfl (A3.pb b_4.Lo x_5 (IntKind.i64.wrap (x_7 - n0))) rfl rfl)) ?_)
    refine af.ai ⟨[(1,_),(2,_),(4,_),(6,_),(19,_)],[(101,.box 25 ((cC .i64) (b_4.Lo.set x_5 (IntKind.i64.wrap (x_7 - n0))) ++ ((cC .i64) b_4.Hi))),(102,_)]⟩ rfl (ab.aa (Oc om (Oc (au cr rfl rfl) ?_)))
    obtain ⟨x_9,e13,h9⟩:=aP h9
    refine Oc (aZ bG (ba e13) (cS e13) rfl rfl rfl) (Oc (aJ aQ rfl rfl (cG (post:=[]) (k:=.i64) ((cC .i64) (b_4.Lo.set x_5 (IntKind.i64.wrap (x_7 - n0)))) e13 rfl rfl rfl)) (Oc om (Oc (bW rfl rfl) (Oc (au cr rfl rfl) ?_))))
    obtain ⟨x_10,e14,h9⟩:=aP h9
    refine Oc (aZ bG (ba e14) (cS e14) rfl rfl rfl) (Oc (dH aQ rfl rfl rfl (oD (post:=[]) (k:=.i64) ((cC .i64) (b_4.Lo.set x_5 (IntKind.i64.wrap (x_7 - n0)))) e14 rfl rfl rfl) (mO (post:=[]) (k:=.i64) ((cC .i64) (b_4.Lo.set x_5 (IntKind.i64.wrap (x_7 - n0)))) e14 rfl rfl (A3.pb b_4.Hi x_5 (IntKind.i64.wrap (x_9 + n0))) rfl rfl)) ?_)
    refine af.nil (Fin.aB (Fin.ag ⟨[(1,_),(2,_),(4,_),(19,_)],[(101,.box 25 ((cC .i64) (b_4.Lo.set x_5 (IntKind.i64.wrap (x_7 - n0))) ++ ((cC .i64) (b_4.Hi.set x_5 (IntKind.i64.wrap (x_9 + n0)))))),(102,_)]⟩ rfl (Fin.then (ab.aa ?_))))
    refine Oc (bW rfl rfl) (Oc om ?_)
    refine af.nil ?_
    exact Fin.cE [1,2,4,19] [101,102] ((⟨b_4.Lo.set x_5 (IntKind.i64.wrap (x_7 - n0)),b_4.Hi.set x_5 (IntKind.i64.wrap (x_9 + n0))⟩:b5),IntKind.i64.wrap (x_5 + 1)) (Option.some.inj h9) rfl
   ·refine ab.exit (Fin.aF ?_)
    obtain rfl:=hy10 _ (Option.some.inj h9).symm
    refine Fin.aF (Fin.a6 ?_)
    exact Fin.join [2,4] [101,102] b_4 rfl rfl
  ·rintro b_3 hv
   subst v6
   refine ab.seq (ab.seq (ab.aa ?_))
   refine Oc (lp ay) ?_
   obtain ⟨x_11,e15,h⟩:=aP h
   refine Oc (aj (bY e15) jq rfl rfl) (Oc (dW rfl) ?_)
   refine af.ai ⟨[(2,_),(4,_),(41,B (!x_11))],[(101,_),(102,_)]⟩ rfl (ab.ite h rfl (fun _ h=>?_) (fun _ h=>?_))
   ·refine ab.seq (ab.aa ?_)
    refine Oc (cg jV rfl rfl) (Oc (aG ay rfl rfl rfl rfl (Nat.le_of_ble_eq_true rfl) rfl) (Oc oa ?_))
    refine af.ai ⟨[(4,_),(5,I 1)],[(102,_)]⟩ rfl (ab.ret (Fin.ax ?_))
    obtain rfl:=Option.some.inj h
    refine Fin.ag ⟨[(4,_),(5,_)],[(102,_)]⟩ rfl (Fin.av [.agg ((cC .i64) A3.zero ++ ((cC .i64) A3.zero)),.one (.i 1)] (.inl rfl) rfl (.cons (.agg ay rfl rfl rfl rfl) (.cons (.tmp rfl) .nil)) ⟨rfl,rfl⟩)
   ·refine ab.skip (Fin.ag ⟨[(2,_),(4,_)],[(101,_),(102,_)]⟩ rfl (Fin.then (ab.seq (ab.aa ?_))))
    refine Oc (lp ay) (Oc (aG ay rfl rfl rfl rfl (Nat.le_of_ble_eq_true rfl) rfl) (Oc oa ?_))
    refine af.ai ⟨[(4,_),(5,I 0)],[(102,.box 25 (ak b_3))]⟩ rfl (ab.ret ?_)
    obtain rfl:=Option.some.inj h
    refine Fin.ag ⟨[(4,_),(5,_)],[(102,_)]⟩ rfl (Fin.av [.agg (ak b_3),.one (.i 0)] (.inl rfl) rfl (.cons (.agg ay rfl rfl rfl rfl) (.cons (.tmp rfl) .nil)) ⟨rfl,rfl⟩)
def bL (F:Nat) (a0:Int) (b0:Int) (c0:Int) (d0:Int) (e0:Int) (f0:Int):Option b5 :=
 eb (⟨(⟨a0,b0,c0⟩:A3),(⟨d0,e0,f0⟩:A3)⟩:b5) fun x_1=>some x_1
theorem b8 {F:Nat} {a0:Int} {b0:Int} {c0:Int} {d0:Int} {e0:Int} {f0:Int} {r:b5} (h:bL F a0 b0 c0 d0 e0 f0 = some r):ao Tryz.prog [] 39 [] [.one (.i a0),.one (.i b0),.one (.i c0),.one (.i d0),.one (.i e0),.one (.i f0)] (Is [] (.b (.agg (ak r)))):=by
 unfold bL at h
 refine ao.intro 22 Tryz.func39 Tryz.ntmps39 rfl (by simp) fun E=>?_
 show ab _ E ⟨22,[],[],[]⟩ _ ⟨[(0,I a0),(1,I b0),(2,I c0),(3,I d0),(4,I e0),(5,I f0)],[]⟩ _
 refine ab.seq (ab.aa ?_)
 refine Oc (aY (k:=101) ec rfl) (af.ai ⟨[(0,I a0),(1,I b0),(2,I c0),(3,I d0),(4,I e0),(5,I f0),(12,Pt 101 0)],[(101,.box 25 ((cC .i64) A3.zero ++ ((cC .i64) A3.zero)))]⟩ rfl (ab.seq (ab.aa ?_)))
 refine Oc om (Oc om (Oc om (Oc (dw nY rfl rfl) (Oc om (Oc om ?_)))))
 refine Oc om (af.ag ⟨[(12,_),(16,.b (.agg [.i a0,.i b0,.i c0])),(17,I d0),(18,I e0),(19,I f0)],[(101,_)]⟩ rfl (Oc (dw nY rfl rfl) (af.lj ak h rfl (cg jV rfl rfl) (fun x_1 h=>?_))))
 refine Oc (aG ay rfl rfl rfl rfl (Nat.le_of_ble_eq_true rfl) rfl) (af.ai ⟨[(12,_)],[(101,.box 25 (ak x_1))]⟩ rfl (ab.ret ?_))
 obtain rfl:=Option.some.inj h
 refine Fin.ag ⟨[(12,_)],[(101,_)]⟩ rfl (Fin.av [.agg (ak x_1)] (.inl rfl) rfl (.cons (.agg ay rfl rfl rfl rfl) .nil) ⟨rfl,rfl⟩)
def b6 (F:Nat) (a0:b5) (b0:b5):Option Bool :=
 Option.bind (iter F (fun x_1=>if (decide (x_1 < 3)) = true then ((bj a0.Hi.l x_1).bind fun x_2=>(bj b0.Lo.l x_1).bind fun x_3=>(bu (!(decide (x_2 < x_3))) (bj b0.Hi.l x_1)).bind fun x_4=>(bu (!(decide (x_2 < x_3))) (bj a0.Lo.l x_1)).bind fun x_5=>if ((decide (x_2 < x_3)) || (decide (x_4 < x_5))) = true then (some (.inr (.inr false))) else (some (.inl (IntKind.i64.wrap (x_1 + 1))))) else (some (.inr (.inl ())))) 0) (cq (fun _=>some true) (fun y=>some y))
theorem cx {F:Nat} {a0:b5} {b0:b5} {r:Bool} (h:b6 F a0 b0 = some r):ao Tryz.prog [] 16 [] [.agg (ak a0),.agg (ak b0)] (Is [] (.b (.one (.bool r)))):=by
 unfold b6 at h
 refine ao.intro 30 Tryz.func16 Tryz.ntmps16 rfl (by simp) fun E=>?_
 show ab _ E ⟨30,[],[],[]⟩ _ ⟨[(0,.b (.agg (ak a0))),(1,.b (.agg (ak b0)))],[]⟩ _
 refine ab.seq (ab.aa ?_)
 refine Oc (bK (k:=101) rfl rfl) (Oc (bK (k:=102) rfl rfl) (Oc oa ?_))
 refine af.ai ⟨[(2,Pt 101 0),(3,Pt 102 0)],[(101,.box 25 (ak a0)),(102,.box 25 (ak b0))]⟩ rfl ?_
 obtain ⟨v1,h2,h⟩:=aP h
 refine ab.ek (v:=v1) (fun (_:Unit)=>⟨[],[]⟩) (fun z=>.inl z) ?_ ?_
 ·refine ab.seq (ab.aa ?_)
  refine Oc om (af.ai ⟨[(2,_),(3,_),(6,I 0)],[(101,_),(102,_)]⟩ rfl (ab.block (ab.dq h2 (fun (x_1:Int)=>⟨[(2,Pt 101 0),(3,Pt 102 0),(6,I x_1)],[(101,.box 25 (ak a0)),(102,.box 25 (ak b0))]⟩) [2,3,6] [101,102] rfl ?_)))
  rintro x_1 o3 h4 hy5
  refine ab.seq (ab.aa ?_)
  refine Oc (bE rfl rfl) (af.ai ⟨[(2,_),(3,_),(6,_),(7,B (decide (x_1 < 3)))],[(101,_),(102,_)]⟩ rfl (ab.seq (ab.ite h4 rfl (fun _ h4=>?_) (fun _ h4=>?_))))
  ·refine ab.skip (Fin.ag ⟨[(2,_),(3,_),(6,_)],[(101,_),(102,_)]⟩ rfl (Fin.then (ab.seq (ab.block (ab.seq (ab.aa ?_))))))
   refine Oc om (Oc oa ?_)
   refine af.ai ⟨[(2,_),(3,_),(5,I x_1),(6,_)],[(101,_),(102,_)]⟩ rfl (ab.seq ?_)
   obtain ⟨x_2,e6,h4⟩:=aP h4
   obtain ⟨x_3,e7,h4⟩:=aP h4
   obtain ⟨x_4,e11,h4⟩:=aP h4
   obtain ⟨x_5,e16,h4⟩:=aP h4
   refine ab.bZ mixed 20 [I x_1,Pt 101 3,.b (.ptr 101 (3 + (x_1:Int).toNat * 1)),I x_2,I x_1,Pt 102 0,.b (.ptr 102 (0 + (x_1:Int).toNat * 1)),I x_3,B (decide (x_2 < x_3)),B (decide (x_2 < x_3)),.opt (!(decide (x_2 < x_3))) (.one (.i x_1)),.opt (!(decide (x_2 < x_3))) (.ptr 102 3),.opt (!(decide (x_2 < x_3))) (.ptr 102 (3 + (x_1:Int).toNat * 1)),.opt (!(decide (x_2 < x_3))) (.one (.i x_4)),.opt (!(decide (x_2 < x_3))) (.one (.i x_1)),.opt (!(decide (x_2 < x_3))) (.ptr 101 0),.opt (!(decide (x_2 < x_3))) (.ptr 101 (0 + (x_1:Int).toNat * 1)),.opt (!(decide (x_2 < x_3))) (.one (.i x_5)),.opt (!(decide (x_2 < x_3))) (.one (.bool (decide (x_4 < x_5)))),B ((decide (x_2 < x_3)) || (decide (x_4 < x_5)))] [2,3,6,28] [101,102] (s':=⟨[(2,_),(3,_),(6,_),(28,B ((decide (x_2 < x_3)) || (decide (x_4 < x_5))))],[(101,_),(102,_)]⟩) rfl ⟨fun _=>.p om,fun _=>.p (au cr rfl rfl),fun _=>.p (aZ bG (ba e6) (cS e6) rfl rfl rfl),fun _=>.p (aJ aQ rfl rfl (cG (post:=[]) (k:=.i64) ((cC .i64) a0.Lo) e6 rfl rfl rfl)),fun _=>.p om,fun _=>.p (au ct rfl rfl),fun _=>.p (aZ bG (ba e7) (cS e7) rfl rfl rfl),fun _=>.p (aJ aQ rfl rfl (cG (post:=((cC .i64) b0.Hi)) (k:=.i64) [] e7 rfl rfl rfl)),fun _=>.p (bE rfl rfl),fun _=>.p om,fun _=>by exact .guard (!(decide (x_2 < x_3))) 1 [] (.plain rfl) (hY _) rfl rfl (fun g8=>trivial) (fun g8=>om),fun _=>by exact .guard (!(decide (x_2 < x_3))) 1 [] (.plain rfl) (hY _) rfl rfl (fun g9=>trivial) (fun g9=>au cr rfl rfl),fun _=>by exact .guard (!(decide (x_2 < x_3))) 3 [19,20] (.plain rfl) (hY _) rfl rfl (fun g10=>⟨g10,g10,trivial⟩) (fun g10=>aZ bG (ba (gc e11 g10)) (cS (gc e11 g10)) rfl rfl rfl),fun _=>by exact .guard (!(decide (x_2 < x_3))) 2 [21] (.plain rfl) (hY _) rfl rfl (fun g12=>⟨g12,trivial⟩) (fun g12=>aJ aQ rfl rfl (cG (post:=[]) (k:=.i64) ((cC .i64) b0.Lo) (gc e11 g12) rfl rfl rfl)),fun _=>by exact .guard (!(decide (x_2 < x_3))) 1 [] (.plain rfl) (hY _) rfl rfl (fun g13=>trivial) (fun g13=>om),fun _=>by exact .guard (!(decide (x_2 < x_3))) 1 [] (.plain rfl) (hY _) rfl rfl (fun g14=>trivial) (fun g14=>au ct rfl rfl),fun _=>by exact .guard (!(decide (x_2 < x_3))) 3 [23,24] (.plain rfl) (hY _) rfl rfl (fun g15=>⟨g15,g15,trivial⟩) (fun g15=>aZ bG (ba (gc e16 g15)) (cS (gc e16 g15)) rfl rfl rfl),fun _=>by exact .guard (!(decide (x_2 < x_3))) 2 [25] (.plain rfl) (hY _) rfl rfl (fun g17=>⟨g17,trivial⟩) (fun g17=>aJ aQ rfl rfl (cG (post:=((cC .i64) a0.Hi)) (k:=.i64) [] (gc e16 g17) rfl rfl rfl)),fun _=>by exact .guard (!(decide (x_2 < x_3))) 3 [22,26] (.plain rfl) (hY _) rfl rfl (fun g18=>⟨g18,g18,trivial⟩) (fun g18=>bE rfl rfl),fun _=>.p (cJ (fun e=>by first | (rw [e]; rfl) | (simp only at e; rw [e]; rfl)) rfl rfl rfl rfl),trivial⟩ rfl rfl ?_
   refine ab.ite h4 rfl (fun _ h4=>?_) (fun _ h4=>?_)
   ·refine ab.seq (ab.aa ?_)
    refine Oc oa (af.ai ⟨[(4,B false)],[]⟩ rfl (ab.ret (Fin.aV (Fin.ax ?_))))
    obtain rfl:=hy5 _ (Option.some.inj h4).symm
    refine Fin.ax (Fin.aV (Fin.ax ?_))
    obtain rfl:=Option.some.inj h
    refine Fin.ag ⟨[(4,_)],[]⟩ rfl (Fin.av [.one (.bool false)] (.inl rfl) rfl (.cons (.tmp rfl) .nil) ⟨rfl,rfl⟩)
   ·refine ab.skip (Fin.aB (Fin.ag ⟨[(2,_),(3,_),(6,_)],[(101,_),(102,_)]⟩ rfl (Fin.then (ab.aa ?_))))
    refine Oc (bW rfl rfl) (Oc om ?_)
    refine af.nil ?_
    exact Fin.cE [2,3,6] [101,102] (IntKind.i64.wrap (x_1 + 1)) (Option.some.inj h4) rfl
  ·refine ab.exit (Fin.aF ?_)
   obtain rfl:=hy5 _ (Option.some.inj h4).symm
   refine Fin.aF (Fin.a6 ?_)
   exact Fin.join [] [] () rfl rfl
 ·rintro _ hv
  subst v1
  refine ab.seq (ab.aa ?_)
  refine Oc oa (af.ai ⟨[(4,B true)],[]⟩ rfl (ab.ret ?_))
  obtain rfl:=Option.some.inj h
  refine Fin.ag ⟨[(4,_)],[]⟩ rfl (Fin.av [.one (.bool true)] (.inl rfl) rfl (.cons (.tmp rfl) .nil) ⟨rfl,rfl⟩)
def dm (F:Nat) (n0:cw a8) (v0c:b5):Option Bool :=
 Option.bind (iy n0) (fun nd_1=>(b6 F nd_1.1.cover v0c).bind fun x_2=>some x_2)
theorem jd {F:Nat} {n0:cw a8} {v0c:b5} {r:Bool} (h:dm F n0 v0c = some r):ao Tryz.prog [] 74 [] [.one (.tr ae n0),.aK (ak v0c)] (Is [] (.b (.one (.bool r)))):=by
 unfold dm at h
 refine ao.intro 10 Tryz.func74 Tryz.ntmps74 rfl (by simp) fun E=>?_
 show ab _ E ⟨10,[],[],[]⟩ _ ⟨[(0,.b (.one (.tr ae n0))),(1,.b (.aK (ak v0c)))],[]⟩ _
 refine ab.seq (ab.aa ?_)
 refine Oc oa (af.ai ⟨[(0,.b (.one (.tr ae n0))),(1,.b (.aK (ak v0c)))],[]⟩ rfl (ab.seq ?_))
 obtain ⟨nd_1,e1,h⟩:=aP h
 obtain ⟨x_2,e2,h⟩:=aP h
 refine ab.bZ mixed 7 [.b (.one (.tr ae n0)),.b (.aK (an nd_1.1.x ++ (.int .u64 nd_1.1.priority :: (ak nd_1.1.cover ++ ([.tr ae nd_1.2.1,.tr ae nd_1.2.2]))))),.b (.aK (ak nd_1.1.cover ++ ([.tr ae nd_1.2.1,.tr ae nd_1.2.2]))),.b (.agg (ak nd_1.1.cover)),.b (.agg (ak v0c)),B x_2,B x_2] [3] [] (s':=⟨[(3,B x_2)],[]⟩) rfl ⟨fun _=>.p om,fun _=>.p (aD e1 rfl rfl),fun _=>by exact .p (aC iH rfl rfl),fun _=>.p (ck ay rfl rfl rfl),fun _=>.p (ck ay rfl rfl rfl),fun _=>.p (aj (cx e2) kP rfl rfl),fun _=>.p oa,trivial⟩ rfl rfl (ab.ret ?_)
 obtain rfl:=Option.some.inj h
 refine Fin.ag ⟨[(3,_)],[]⟩ rfl (Fin.av [.one (.bool x_2)] (.inl rfl) rfl (.cons (.tmp rfl) .nil) ⟨rfl,rfl⟩)
def jH (F:Nat) (a00:cw a8):Option Bool :=
 some true
theorem lJ {F:Nat} {a00:cw a8} {r:Bool} (h:jH F a00 = some r):ao Tryz.prog [] 58 [] [.one (.tr ae a00)] (Is [] (.b (.one (.bool r)))):=by
 unfold jH at h
 refine ao.intro 3 Tryz.func58 Tryz.ntmps58 rfl (by simp) fun E=>?_
 show ab _ E ⟨3,[],[],[]⟩ _ ⟨[(0,.b (.one (.tr ae a00)))],[]⟩ _
 refine ab.seq (ab.aa ?_)
 refine Oc oa (af.ai ⟨[],[]⟩ rfl (ab.seq (ab.aa ?_)))
 refine Oc oa (af.ai ⟨[(2,B true)],[]⟩ rfl (ab.ret ?_))
 obtain rfl:=Option.some.inj h
 refine Fin.ag ⟨[(2,_)],[]⟩ rfl (Fin.av [.one (.bool true)] (.inl rfl) rfl (.cons (.tmp rfl) .nil) ⟨rfl,rfl⟩)
section
variable {P:Program} {TB:aR} {m:Nat} {s:St} {ops:Array Oper} {l:List Oper} {Q:bt} {o:Oper}
theorem jZ {E:Env TB} {d:Nat} (K:Bool → PH → World → Prop) (hK:∀ b h w,K b h w → iT h w ∧ cc TB h w) (hown:s.own = []) (hdm:d < m)
    (hop:∀ a w h ρ,WR E ⟨m,[],[],[]⟩ [] h ρ w → aM h ρ s.slots a.tmps → ∀ (K':Act → World → Prop),(∀ b h' w',h.le h' → K b h' w' → K' (a.put (some d) (.bool b)) w') → o.wpIn Fence.wide 0 P a w K' Q)
    (hnext:∀ b h' ρ w' (tb:cc TB h' w'),K b h' w' → aW P (⟨w',h',ρ,tb⟩:Env TB) ⟨m,[],[],[]⟩ Fence.wide ops l ⟨(d,B b) :: del d s.slots,[]⟩ Q) :
    ∀ a w,R E ⟨m,[],[],[]⟩ s a w → o.wpIn Fence.wide 0 P a w (k8 P Fence.wide ops Q l) Q:=by
  rintro a w ⟨hd,hn,h,ρ,hw,hs⟩
  rw [hown] at hw
  refine hop a w h ρ hw hs _ fun b h' w' hle hk=>?_
  obtain ⟨hag,htb⟩:=hK b h' w' hk
  refine hnext b h' ρ w' htb hk _ w' (R.fresh htb hag hd (by simpa [Act.put] using hn) ?_)
  exact aM.set (hs.mono hle) hn hdm rfl
theorem aW.stepU {E:Env TB} {n:Sh} {F:Fence} (hg:o.guard = none) (h:∀ a w,R E n s a w → o.wpIn F 0 P a w (k8 P F ops Q l) Q):aW P E n F ops (o :: l) s Q:=by
  intro a w hr
  unfold k8
  have:Region.wanted o (yielded ops a.tmps) = true:=by simp [Region.wanted,hg]
  simp only [this,if_true]
  exact h a w hr
end
theorem s7:cz Tryz.prog 98:=⟨⟨_,Tryz.underlying98,rfl⟩,⟨Tryz.t98,by kernel_rfl,by kernel_rfl⟩⟩
theorem goes58':bm Tryz.prog 58:=⟨Tryz.call58⟩
theorem goes74':bm Tryz.prog 74:=⟨Tryz.call74⟩
theorem oO:bm Tryz.prog 78:=⟨Tryz.call78⟩
def q6 (c:CP) (p:cw a8 → Option Bool):Prop :=
  ∀ {E:Env []} {m:Nat} {sl:List (Nat × SV)} {dst:Option Nat} {ats:Array TypeId} {ty:TypeId} {pos:String} {after:Array Edge} {g:Option (Nat × Bool)} {x y:Operand} {t:cw a8} {z:Bool},
    p t = some z → (⟨sl,[]⟩:St).ev x = some (.b (.one c)) → (⟨sl,[]⟩:St).ev y = some (.b (.one (CP.tr ae t))) → bd Tryz.prog E ⟨m,[],[],[]⟩ ⟨dst,.call ⟨.value x,#[y],ats⟩,ty,pos,after,g⟩ ⟨sl,[]⟩ ((⟨sl,[]⟩:St).put ⟨m,[],[],[]⟩ dst (B z))
theorem oZ:q6 (.raw (.func (.func 58) #[] #[])) (fun _=>some true):=by
  intro E n sl dst ats ty pos after g x y t z hz hx hy
  exact il (args:=[.one (CP.tr ae t)]) (lJ (F:=0) hz) goes58' hx (by simp [eW,evB,hy]) rfl
theorem pZ {F:Nat} {b:b5}:q6 (.eP 74 [CP.rp (ak b)]) (fun t=>dm F t b):=by
  intro E n sl dst ats ty pos after g x y t z hz hx hy
  have h:=nc (E:=E) (n:=⟨n,[],[],[]⟩) (s:=⟨sl,[]⟩) (dst:=dst) (ty:=ty) (pos:=pos) (after:=after) (g:=g) (ats:=ats) (x:=x) (xs:=#[y]) (zs:=[.one (CP.tr ae t)]) (pss:=[ak b]) (own_a:=[]) (own':=[]) (jd hz) goes74' hx (by simp [eW,evB,hy]) rfl trivial rfl rfl rfl
  have e:(⟨sl,[]⟩:St).aft ⟨n,[],[],[]⟩ [] [] dst (B z) = (⟨sl,[]⟩:St).put ⟨n,[],[],[]⟩ dst (B z):=by
    rfl
  rw [← e]
  exact h
theorem pO {t:cw a8} {c:CP}:ao Tryz.prog [] 57 [] [.one (CP.tr ae t),.one c] (Is [] (.b (.one (.eP 77 [CP.rp [CP.tr ae t],CP.rp [c]])))):=by
  refine ao.intro 6 Tryz.func57 Tryz.ntmps57 rfl (by simp) fun E=>?_
  show ab _ E ⟨6,[],[],[]⟩ _ ⟨[(0,.b (.one (CP.tr ae t))),(1,.b (.one c))],[]⟩ _
  refine ab.seq ?_
  refine ab.aa ?_
  refine af.cons rfl (oJ rfl) ?_
  refine af.cons rfl (oJ rfl) ?_
  refine af.cons rfl (bR rfl) ?_
  refine af.nilK [2,3] [] (s':=⟨[(2,.b (.aK [CP.tr ae t])),(3,.b (.aK [c]))],[]⟩) rfl ?_
  refine ab.seq ?_
  refine ab.aa ?_
  refine af.cons rfl (gh rfl) ?_
  refine af.cons rfl (bR rfl) ?_
  refine af.nilK [4] [] (s':=⟨[(4,.b (.one (.eP 77 [CP.rp [CP.tr ae t],CP.rp [c]])))],[]⟩) rfl ?_
  refine ab.ret ?_
  exact Fin.av [.one (.eP 77 [CP.rp [CP.tr ae t],CP.rp [c]])] (.inl rfl) rfl (.cons (.tmp rfl) .nil) ⟨rfl,rfl⟩
section
variable {J:Nat → PH → World → Prop} {Jx:PH → World → Prop} {L:Nat} {c:CP} {p:cw a8 → Option Bool} {all:List entry}
def Kv (J:Nat → PH → World → Prop) (Jx:PH → World → Prop) (h0:PH) (k:Nat) (b:Bool) (h:PH) (w:World):Prop:=h0.le h ∧ (if b = true then J k h w else Jx h w)
theorem Kv.ok (hJ:∀ k,kq [] (J k)) (hJx:kq [] Jx) {h0:PH} {k:Nat} {b:Bool} {h:PH} {w:World} (hk:Kv J Jx h0 k b h w):iT h w ∧ cc [] h w:=by
  cases b with
  | true=>exact (hJ k).1 h w hk.2
  | false=>exact hJx.1 h w (by simpa [Kv] using hk.2)
theorem Kv.go (hJ:∀ k,kq [] (J k)) (hJx:kq [] Jx) {h0:PH} {k:Nat} {b:Bool} {h h':PH} {w w':World} {tb:cc [] h w} {ρ ρ':RM} {own':List (Nat × OC)} {m:Nat} (hk:Kv J Jx h0 k b h w) (hw:WR (⟨w,h,ρ,tb⟩:Env []) ⟨m,[],[],[]⟩ own' h' ρ' w'):Kv J Jx h0 k b h' w':=by
  refine ⟨PH.le_trans hk.1 hw.le,?_⟩
  cases b with
  | true=>exact (hJ k).2 h w hk.2 tb ρ h' ρ' w' own' m hw
  | false=>exact hJx.2 h w (by simpa [Kv] using hk.2) tb ρ h' ρ' w' own' m hw
def VisEnd (J:Nat → PH → World → Prop) (Jx:PH → World → Prop) (h0:PH) (k:Nat) (e:Ending) (w:World):Prop:=∃ b h,e = .returned (.bool b) ∧ Kv J Jx h0 k b h w
theorem pQ (hJ:∀ k,kq [] (J k)) (hJx:kq [] Jx) (hp:q6 c p)
    (hround:∀ k x h W vals,all[k]? = some x → J k h W → aN (fun (x:BV) v=>∀ ρ,x.rel h ρ v) (se x) vals →
      YieldAt Fence.wide 0 Tryz.prog L vals.toArray W fun e W'=>(e = .returned (.bool true) ∧ ∃ h',h.le h' ∧ J (k + 1) h' W') ∨ (e = .returned (.bool false) ∧ ∃ h',h.le h' ∧ Jx h' W')) :
    ∀ (t:cw a8) (ys:List entry) (k:Nat),rB p t = some ys → (∀ i x,ys[i]? = some x → all[k + i]? = some x) → ∀ h W v1 v2,J k h W → (CP.tr ae t).rel h v1 → c.rel h v2 →
      Calls Tryz.prog 78 #[v1,v2,.func (.yield L) #[] #[]] W (VisEnd J Jx h (k + ys.length)):=by
  intro t
  induction t with
  | leaf=>
    intro ys k hv hall h W v1 v2 hj h1 h2
    cases hv
    refine callsIn_wide.1 (callsIn_of_wp (n:=0) (F:=Fence.wide) Tryz.func78 rfl trivial ?_)
    obtain ⟨hs0,hn0⟩:=k3 (m:=39) (h:=h) (ρ:=fun _=>.bool false) (args:=[.one (CP.tr ae .leaf),.one c,.one (.raw (.func (.yield L) #[] #[]))]) (vals:=[v1,v2,.func (.yield L) #[] #[]])
      (.cons h1 (.cons h2 (.cons ⟨rfl,rfl⟩ .nil))) (Nat.le_of_ble_eq_true rfl)
    obtain ⟨hag0,htb0⟩:=(hJ k).1 h W hj
    have hk0:Kv J Jx h k true h W:=⟨PH.le_refl h,by simpa using hj⟩
    generalize hQo:bodyPost Tryz.prog _ _ = Qo
    have hlo:¬ LetsOut Qo:=by
      rw [← hQo]
      rintro ⟨a,w,b,h',he,_⟩
      cases he
    have hend:∀ (b:Bool) (w0:World) (h0:PH) (ρ0:RM) (tb:cc [] h0 w0),Kv J Jx h (k + 0) b h0 w0 → Fin (⟨w0,h0,ρ0,tb⟩:Env []) ⟨39,[],[],[]⟩ .ret ⟨[(6,B b)],[]⟩ Qo:=by
      rintro b w0 h0 ρ0 tb hK a w ⟨hd,hn,h',ρ',hw,hs⟩
      rw [← hQo]
      obtain ⟨v,hv,hrel⟩:=fK (P:=Tryz.prog) (fn:=Tryz.f78) (s:=⟨[(6,B b)],[]⟩) (zs:=[.one (.bool b)]) (.cons (.tmp rfl) .nil) hw hs
      have hv':v = .bool b:=hrel
      exact ⟨hd,v,hv w (bU.refl w),b,h',by rw [hv'],hK.go hJ hJx hw⟩
    refine (show aU Tryz.prog (⟨W,h,fun _=>.bool false,htb0⟩:Env []) ⟨39,[],[],[]⟩ Fence.wide _ ⟨_,[]⟩ Qo from ?_) hlo _ _ (R.fresh htb0 hag0 rfl hn0 hs0)
    clear hs0 hn0
    refine aU.seq ?_
    refine aU.aa (.inl rfl) ?_
    refine af.cons rfl (bR rfl) ?_
    refine af.nil ?_
    refine Fin.keep [0,1,2] [] (s':=⟨[(0,.b (.one (CP.tr ae .leaf))),(1,.b (.one c)),(2,.b (.one (.raw (.func (.yield L) #[] #[]))))],[]⟩) rfl ?_
    refine Fin.fT ?_ hlo
    refine aU.seq ?_
    refine aU.seq ?_
    refine aU.mL (.inl rfl) ?_
    refine aW.cons (.inl rfl) rfl (aT rfl) ?_
    refine aW.cons (.inl rfl) rfl (eG kJ rfl) ?_
    refine aW.cons (.inl rfl) rfl (aT rfl) ?_
    refine aW.dC (.plain (t:=9) rfl) rfl rfl rfl (.one .any) ?_
    refine aW.dC (.plain (t:=9) rfl) rfl rfl rfl (.one .any) ?_
    refine aW.dC (.plain (t:=9) rfl) rfl rfl rfl (.one .any) ?_
    refine aW.dC (.plain (t:=9) rfl) rfl rfl rfl (.one (.bool true)) ?_
    refine aW.cons (.inl rfl) rfl (cJ (fun e=>Bool.noConfusion e) rfl rfl rfl) ?_
    refine aW.nil ?_
    refine Fin.keep [14] [] (s':=⟨[(14,B true)],[]⟩) rfl ?_
    refine Fin.fT ?_ (gx hlo)
    refine aU.cond rfl (fun he=>?_) (fun he=>absurd he (by decide))
    refine aU.seq ?_
    refine aU.aa (.inl rfl) ?_
    refine af.cons rfl (bR rfl) ?_
    refine af.nil ?_
    refine Fin.keep [6] [] (s':=⟨[(6,B true)],[]⟩) rfl ?_
    refine Fin.fT ?_ (gx hlo)
    refine aU.ret ?_
    exact Fin.ax (hend true W h _ htb0 (by simpa using hk0))
  | node a l r ihl ihr=>
    intro ys k hv hall h W v1 v2 hj h1 h2
    refine callsIn_wide.1 (callsIn_of_wp (n:=0) (F:=Fence.wide) Tryz.func78 rfl trivial ?_)
    obtain ⟨hs0,hn0⟩:=k3 (m:=39) (h:=h) (ρ:=fun _=>.bool false) (args:=[.one (CP.tr ae (.node a l r)),.one c,.one (.raw (.func (.yield L) #[] #[]))]) (vals:=[v1,v2,.func (.yield L) #[] #[]])
      (.cons h1 (.cons h2 (.cons ⟨rfl,rfl⟩ .nil))) (Nat.le_of_ble_eq_true rfl)
    obtain ⟨hag0,htb0⟩:=(hJ k).1 h W hj
    have hk0:Kv J Jx h k true h W:=⟨PH.le_refl h,by simpa using hj⟩
    generalize hQo:bodyPost Tryz.prog _ _ = Qo
    have hlo:¬ LetsOut Qo:=by
      rw [← hQo]
      rintro ⟨a,w,b,h',he,_⟩
      cases he
    have hend:∀ (b:Bool) (w0:World) (h0:PH) (ρ0:RM) (tb:cc [] h0 w0),Kv J Jx h (k + ys.length) b h0 w0 → Fin (⟨w0,h0,ρ0,tb⟩:Env []) ⟨39,[],[],[]⟩ .ret ⟨[(6,B b)],[]⟩ Qo:=by
      rintro b w0 h0 ρ0 tb hK a w ⟨hd,hn,h',ρ',hw,hs⟩
      rw [← hQo]
      obtain ⟨v,hv,hrel⟩:=fK (P:=Tryz.prog) (fn:=Tryz.f78) (s:=⟨[(6,B b)],[]⟩) (zs:=[.one (.bool b)]) (.cons (.tmp rfl) .nil) hw hs
      have hv':v = .bool b:=hrel
      exact ⟨hd,v,hv w (bU.refl w),b,h',by rw [hv'],hK.go hJ hJx hw⟩
    refine (show aU Tryz.prog (⟨W,h,fun _=>.bool false,htb0⟩:Env []) ⟨39,[],[],[]⟩ Fence.wide _ ⟨_,[]⟩ Qo from ?_) hlo _ _ (R.fresh htb0 hag0 rfl hn0 hs0)
    clear hs0 hn0
    refine aU.seq ?_
    refine aU.aa (.inl rfl) ?_
    refine af.cons rfl (bR rfl) ?_
    refine af.nil ?_
    refine Fin.keep [0,1,2] [] (s':=⟨[(0,.b (.one (CP.tr ae (.node a l r)))),(1,.b (.one c)),(2,.b (.one (.raw (.func (.yield L) #[] #[]))))],[]⟩) rfl ?_
    refine Fin.fT ?_ hlo
    refine aU.seq ?_
    refine aU.seq ?_
    refine aU.mL (.inl rfl) ?_
    refine aW.cons (.inl rfl) rfl (aT rfl) ?_
    refine aW.cons (.inl rfl) rfl (eG kJ rfl) ?_
    refine aW.cons (.inl rfl) rfl (aT rfl) ?_
    obtain ⟨cb,hcb,hv⟩:=Option.bind_eq_some_iff.1 hv
    refine aW.gq (.inl rfl) (.plain (t:=9) rfl) rfl rfl rfl (aT rfl) ?_
    refine aW.gq (.inl rfl) (.plain (t:=9) rfl) rfl rfl rfl (aT rfl) ?_
    refine aW.gq (.inl rfl) (.plain (t:=9) rfl) rfl rfl rfl (hp hcb rfl rfl) ?_
    refine aW.gq (.inl rfl) (.plain (t:=9) rfl) rfl rfl rfl (dW rfl) ?_
    refine aW.opt 13 rfl ?_
    refine aW.cons (.inl rfl) rfl (cJ (fun _=>rfl) rfl rfl rfl) ?_
    refine aW.nil ?_
    refine Fin.keep [0,1,2,14] [] (s':=⟨[(0,.b (.one (CP.tr ae (.node a l r)))),(1,.b (.one c)),(2,.b (.one (.raw (.func (.yield L) #[] #[])))),(14,B (false || !cb))],[]⟩) rfl ?_
    refine Fin.fT ?_ (gx hlo)
    refine aU.cond rfl (fun he=>?_) (fun he=>?_)
    · have hcb':cb = false:=by simpa using he
      subst hcb'
      have hys:ys = []:=by simpa using hv.symm
      subst hys
      refine aU.seq ?_
      refine aU.aa (.inl rfl) ?_
      refine af.cons rfl (bR rfl) ?_
      refine af.nil ?_
      refine Fin.keep [6] [] (s':=⟨[(6,B true)],[]⟩) rfl ?_
      refine Fin.fT ?_ (gx hlo)
      refine aU.ret ?_
      exact Fin.ax (hend true W h _ htb0 (by simpa using hk0))
    have hcb':cb = true:=by simpa using he
    subst hcb'
    rw [if_pos rfl] at hv
    obtain ⟨xs,hxs,hv⟩:=Option.bind_eq_some_iff.1 hv
    obtain ⟨zs,hzs,hv⟩:=Option.bind_eq_some_iff.1 hv
    have hys:ys = xs ++ a.x :: zs:=(Option.some.inj hv).symm
    subst hys
    have hlen:k + (xs ++ a.x :: zs).length = k + xs.length + 1 + zs.length:=by simp; omega
    refine aU.skip ?_
    refine Fin.keep [0,1,2] [] (s':=⟨[(0,.b (.one (CP.tr ae (.node a l r)))),(1,.b (.one c)),(2,.b (.one (.raw (.func (.yield L) #[] #[]))))],[]⟩) rfl ?_
    refine Fin.fT ?_ hlo
    refine aU.seq ?_
    refine aU.mL (.inl rfl) ?_
    refine aW.cons (.inl rfl) rfl (aT rfl) ?_
    refine aW.cons (.inl rfl) rfl (aD (z:=(a,l,r)) (qs:=ae a ++ [CP.tr ae l,CP.tr ae r]) rfl rfl rfl) ?_
    refine aW.cons (.inl rfl) rfl (aC (qs:=[CP.tr ae l,CP.tr ae r]) dg rfl rfl) ?_
    refine aW.cons (.inl rfl) rfl (ar (p:=CP.tr ae l) bf rfl rfl) ?_
    refine aW.cons (.inl rfl) rfl (aT rfl) ?_
    refine aW.cons (.inl rfl) rfl (aT rfl) ?_
    refine aW.stepU rfl (jZ (d:=21) (Kv J Jx h (k + xs.length)) (fun b h w hk=>hk.ok hJ hJx) rfl (by decide) ?_ ?_)
    · intro a1 w1 h1' ρ1 hw1 hs1 K' hK'
      have hj1:=hk0.go hJ hJx hw1
      have e20:a1.eval (.tmp 20) = .func (.yield L) #[] #[]:=(aI hs1 (o:=.tmp 20) rfl:(CP.raw _).rel h1' _).1
      refine jO (.inl rfl) rfl (fun a w h=>h) ?_
      unfold Oper.wp
      rw [ij oO a1 w1]
      show Calls Tryz.prog 78 [a1.eval (.tmp 18),a1.eval (.tmp 19),a1.eval (.tmp 20)].toArray w1 _
      rw [e20]
      refine (ihl xs k hxs (fun i x hi=>hall i x (by rw [List.getElem?_append_left (List.getElem?_eq_some_iff.1 hi).1]; exact hi)) h1' w1 _ _ hj1.2 (aI hs1 (o:=.tmp 18) rfl) (aI hs1 (o:=.tmp 19) rfl)).mono ?_
      rintro e w' ⟨b,h',rfl,hk⟩
      exact hK' b h' w' hk.1 ⟨PH.le_trans hj1.1 hk.1,hk.2⟩
    intro b1 h2 ρ2 w2 tb2 hk1
    refine aW.keep [0,1,2,21] [] (s':=⟨[(0,.b (.one (CP.tr ae (.node a l r)))),(1,.b (.one c)),(2,.b (.one (.raw (.func (.yield L) #[] #[])))),(21,B b1)],[]⟩) rfl ?_
    refine aW.cons (.inl rfl) rfl (aT rfl) ?_
    cases b1 with
    | false=>
      refine aW.dC (.plain (t:=22) rfl) rfl rfl rfl (.one .any) ?_
      refine aW.dC (.plain (t:=22) rfl) rfl rfl rfl (.one .any) ?_
      refine aW.dC (.plain (t:=22) rfl) rfl rfl rfl (.one .any) ?_
      refine aW.dC (.plain (t:=22) rfl) rfl rfl rfl (.one .any) ?_
      refine aW.dC (.plain (t:=22) rfl) rfl rfl rfl (.one .any) ?_
      refine aW.dC (.plain (t:=22) rfl) rfl rfl rfl (.one (.bool true)) ?_
      refine aW.cons (.inl rfl) rfl (aE (fun e=>Bool.noConfusion e) rfl rfl rfl) ?_
      refine aW.cons (.inl rfl) rfl (aT rfl) ?_
      refine aW.dC (.plain (t:=30) rfl) rfl rfl rfl (.one .any) ?_
      refine aW.dC (.plain (t:=30) rfl) rfl rfl rfl (.one .any) ?_
      refine aW.dC (.plain (t:=30) rfl) rfl rfl rfl (.one .any) ?_
      refine aW.dC (.plain (t:=30) rfl) rfl rfl rfl (.one .any) ?_
      refine aW.dC (.plain (t:=30) rfl) rfl rfl rfl (.one .any) ?_
      refine aW.dC (.plain (t:=30) rfl) rfl rfl rfl (.one .any) ?_
      refine aW.dC (.plain (t:=30) rfl) rfl rfl rfl (.one (.bool true)) ?_
      refine aW.cons (.inl rfl) rfl (aE (fun e=>Bool.noConfusion e) rfl rfl rfl) ?_
      refine aW.cons (.inl rfl) rfl (bR rfl) ?_
      refine aW.nil ?_
      refine Fin.keep [6] [] (s':=⟨[(6,B false)],[]⟩) rfl ?_
      refine Fin.fT ?_ hlo
      refine aU.ret ?_
      exact hend false w2 h2 ρ2 tb2 ⟨hk1.1,hk1.2⟩
    | true=>
    refine aW.gq (.inl rfl) (.plain (t:=22) rfl) rfl rfl rfl (aT rfl) ?_
    refine aW.gq (.inl rfl) (.plain (t:=22) rfl) rfl rfl rfl (aT rfl) ?_
    refine aW.gq (.inl rfl) (.plain (t:=22) rfl) rfl rfl rfl (aD (z:=(a,l,r)) (qs:=ae a ++ [CP.tr ae l,CP.tr ae r]) rfl rfl rfl) ?_
    refine aW.gq (.inl rfl) (.plain (t:=22) rfl) rfl rfl rfl (aC (qs:=ae a ++ [CP.tr ae l,CP.tr ae r]) dG rfl rfl) ?_
    refine aW.gq (.inl rfl) (.plain (t:=22) rfl) rfl rfl rfl (ck (qs:=an a.x) bg rfl rfl rfl) ?_
    refine aW.stepT (.plain (t:=22) rfl) rfl rfl rfl (jZ (d:=28) (Kv J Jx h (k + xs.length + 1)) (fun b h w hk=>hk.ok hJ hJx) rfl (by decide) ?_ ?_)
    · intro a1 w1 h1' ρ1 hw1 hs1 K' hK'
      have hj1:=hk1.go hJ hJx hw1
      have hx23:a1.eval (.tmp 23) = .func (.yield L) #[] #[]:=(aI hs1 (o:=.tmp 23) rfl:(CP.raw _).rel h1' _).1
      have hx27:=(aI hs1 (o:=.tmp 27) (x:=.b (.agg (an a.x))) rfl:BV.rel h1' ρ1 (.agg (an a.x)) _)
      refine qF (vals:=[a1.eval (.tmp 27)].toArray) rfl ((rD hx23).trans (by simp)) (hround (k + xs.length) a.x h1' w1 _ (hall xs.length a.x (by simp)) (by simpa using hj1.2) (.cons (fun _=>hx27) .nil)) ?_
      rintro e w3 (⟨rfl,h3,g1,g2⟩ | ⟨rfl,h3,g1,g2⟩)
      · exact ⟨_,rfl,hK' true h3 w3 g1 ⟨PH.le_trans hj1.1 g1,by simpa using g2⟩⟩
      · exact ⟨_,rfl,hK' false h3 w3 g1 ⟨PH.le_trans hj1.1 g1,by simpa using g2⟩⟩
    intro b2 h3 ρ3 w3 tb3 hk2
    refine aW.keep [0,1,2,22,28] [] (s':=⟨[(0,.b (.one (CP.tr ae (.node a l r)))),(1,.b (.one c)),(2,.b (.one (.raw (.func (.yield L) #[] #[])))),(22,B true),(28,B b2)],[]⟩) rfl ?_
    refine aW.opt 28 rfl ?_
    refine aW.cons (.inl rfl) rfl (aE (fun _=>rfl) rfl rfl rfl) ?_
    refine aW.cons (.inl rfl) rfl (aT rfl) ?_
    cases b2 with
    | false=>
      refine aW.dC (.plain (t:=30) rfl) rfl rfl rfl (.one .any) ?_
      refine aW.dC (.plain (t:=30) rfl) rfl rfl rfl (.one .any) ?_
      refine aW.dC (.plain (t:=30) rfl) rfl rfl rfl (.one .any) ?_
      refine aW.dC (.plain (t:=30) rfl) rfl rfl rfl (.one .any) ?_
      refine aW.dC (.plain (t:=30) rfl) rfl rfl rfl (.one .any) ?_
      refine aW.dC (.plain (t:=30) rfl) rfl rfl rfl (.one .any) ?_
      refine aW.dC (.plain (t:=30) rfl) rfl rfl rfl (.one (.bool true)) ?_
      refine aW.cons (.inl rfl) rfl (aE (fun e=>Bool.noConfusion e) rfl rfl rfl) ?_
      refine aW.cons (.inl rfl) rfl (bR rfl) ?_
      refine aW.nil ?_
      refine Fin.keep [6] [] (s':=⟨[(6,B false)],[]⟩) rfl ?_
      refine Fin.fT ?_ hlo
      refine aU.ret ?_
      exact hend false w3 h3 ρ3 tb3 ⟨hk2.1,hk2.2⟩
    | true=>
    refine aW.gq (.inl rfl) (.plain (t:=30) rfl) rfl rfl rfl (aT rfl) ?_
    refine aW.gq (.inl rfl) (.plain (t:=30) rfl) rfl rfl rfl (aD (z:=(a,l,r)) (qs:=ae a ++ [CP.tr ae l,CP.tr ae r]) rfl rfl rfl) ?_
    refine aW.gq (.inl rfl) (.plain (t:=30) rfl) rfl rfl rfl (aC (qs:=[CP.tr ae r]) df rfl rfl) ?_
    refine aW.gq (.inl rfl) (.plain (t:=30) rfl) rfl rfl rfl (ar (p:=CP.tr ae r) bf rfl rfl) ?_
    refine aW.gq (.inl rfl) (.plain (t:=30) rfl) rfl rfl rfl (aT rfl) ?_
    refine aW.gq (.inl rfl) (.plain (t:=30) rfl) rfl rfl rfl (aT rfl) ?_
    refine aW.stepT (.plain (t:=30) rfl) rfl rfl rfl (jZ (d:=37) (Kv J Jx h (k + xs.length + 1 + zs.length)) (fun b h w hk=>hk.ok hJ hJx) rfl (by decide) ?_ ?_)
    · intro a1 w1 h1' ρ1 hw1 hs1 K' hK'
      have hj1:=hk2.go hJ hJx hw1
      have e20:a1.eval (.tmp 36) = .func (.yield L) #[] #[]:=(aI hs1 (o:=.tmp 36) rfl:(CP.raw _).rel h1' _).1
      refine jO (.inl rfl) rfl (fun a w h=>h) ?_
      unfold Oper.wp
      rw [ij oO a1 w1]
      show Calls Tryz.prog 78 [a1.eval (.tmp 34),a1.eval (.tmp 35),a1.eval (.tmp 36)].toArray w1 _
      rw [e20]
      refine (ihr zs (k + xs.length + 1) hzs (fun i x hi=>by rw [show k + xs.length + 1 + i = k + (xs.length + (i + 1)) by omega]; exact hall _ x (by simp [List.getElem?_append_right,hi])) h1' w1 _ _ hj1.2 (aI hs1 (o:=.tmp 34) rfl) (aI hs1 (o:=.tmp 35) rfl)).mono ?_
      rintro e w' ⟨b,h',rfl,hk⟩
      exact hK' b h' w' hk.1 ⟨PH.le_trans hj1.1 hk.1,hk.2⟩
    intro b3 h4 ρ4 w4 tb4 hk3
    refine aW.keep [30,37] [] (s':=⟨[(30,B true),(37,B b3)],[]⟩) rfl ?_
    refine aW.opt 37 rfl ?_
    refine aW.cons (.inl rfl) rfl (aE (fun _=>rfl) rfl rfl rfl) ?_
    refine aW.cons (.inl rfl) rfl (bR rfl) ?_
    refine aW.nil ?_
    refine Fin.keep [6] [] (s':=⟨[(6,B b3)],[]⟩) rfl ?_
    refine Fin.fT ?_ hlo
    refine aU.ret ?_
    exact hend b3 w4 h4 ρ4 tb4 (by rw [hlen]; exact hk3)
end
theorem pP {c:CP} {p:cw a8 → Option Bool} (hp:q6 c p) {t:cw a8} {xs:List entry} (h:rB p t = some xs):Iter Tryz.prog [] 77 [CP.rp [CP.tr ae t],CP.rp [c]] (xs.map se):=by
  intro J Jx L hJ hJx hround h0 W caps hJ0 hcaps
  cases hcaps with
  | @cons _ c1 _ _ g1 hc=>
  cases hc with
  | @cons _ c2 _ _ g2 hc2=>
  cases hc2
  refine callsIn_wide.1 (callsIn_of_wp (n:=0) (F:=Fence.wide) Tryz.func77 rfl trivial ?_)
  obtain ⟨hs0,hn0⟩:=k3 (m:=8) (h:=h0) (ρ:=fun _=>.bool false) (args:=[.one (.raw (.func (.yield L) #[] #[])),.aK [CP.tr ae t],.aK [c]]) (vals:=[.func (.yield L) #[] #[],c1,c2])
    (.cons ⟨rfl,rfl⟩ (.cons g1 (.cons g2 .nil))) (Nat.le_of_ble_eq_true rfl)
  obtain ⟨hag0,htb0⟩:=(hJ 0).1 h0 W hJ0
  have hk0:Kv J Jx h0 0 true h0 W:=⟨PH.le_refl h0,by simpa using hJ0⟩
  generalize hQo:bodyPost Tryz.prog _ _ = Qo
  have hlo:¬ LetsOut Qo:=by
    rw [← hQo]
    rintro ⟨a,w,⟨v,he⟩,_⟩
    cases he
  refine (show aU Tryz.prog (⟨W,h0,fun _=>.bool false,htb0⟩:Env []) ⟨8,[],[],[]⟩ Fence.wide _ ⟨_,[]⟩ Qo from ?_) hlo _ _ (R.fresh htb0 hag0 rfl hn0 hs0)
  clear hs0 hn0
  refine aU.mL (.inl rfl) ?_
  refine aW.cons (.inl rfl) rfl (ar (p:=CP.tr ae t) bf rfl rfl) ?_
  refine aW.cons (.inl rfl) rfl (ar (p:=c) s7 rfl rfl) ?_
  refine aW.cons (.inl rfl) rfl (aT rfl) ?_
  refine aW.stepU rfl (jZ (d:=7) (Kv J Jx h0 xs.length) (fun b h w hk=>hk.ok hJ hJx) rfl (by decide) ?_ ?_)
  · intro a1 w1 h1' ρ1 hw1 hs1 K' hK'
    have hj1:=hk0.go hJ hJx hw1
    have e20:a1.eval (.tmp 6) = .func (.yield L) #[] #[]:=(aI hs1 (o:=.tmp 6) rfl:(CP.raw _).rel h1' _).1
    refine jO (.inl rfl) rfl (fun a w h=>h) ?_
    unfold Oper.wp
    rw [ij oO a1 w1]
    show Calls Tryz.prog 78 [a1.eval (.tmp 4),a1.eval (.tmp 5),a1.eval (.tmp 6)].toArray w1 _
    rw [e20]
    refine (pQ hJ hJx hp (all:=xs) (fun k x h W vals hx=>hround k (se x) h W vals (by rw [List.getElem?_map,hx]; rfl)) t xs 0 h (fun i x hi=>by rw [Nat.zero_add]; exact hi) h1' w1 _ _ hj1.2 (aI hs1 (o:=.tmp 4) rfl) (aI hs1 (o:=.tmp 5) rfl)).mono ?_
    rintro e w' ⟨b,h',rfl,hk⟩
    rw [Nat.zero_add] at hk
    exact hK' b h' w' hk.1 ⟨PH.le_trans hj1.1 hk.1,hk.2⟩
  intro b h2 ρ2 w2 tb2 hk1
  refine aW.nil ?_
  rintro a w ⟨hd,hn,h',ρ',hw,hs⟩
  have hk2:=hk1.go hJ hJx hw
  rw [← hQo]
  refine ⟨hd,.tuple #[],?_,⟨_,rfl⟩,?_⟩
  · rw [iI,show (Tryz.f77:Func).results = #[] from rfl]
    simp
  · cases b with
    | true=>exact .inl ⟨h',by rw [List.length_map]; exact hk2.2⟩
    | false=>exact .inr ⟨h',hk2.2⟩
def gk (F:Nat) (a0:b5) (b0:b5):Option b5 :=
 Option.bind (iter F (fh fun a_2 x_3=>if (decide (x_3 < 3)) = true then ((bj a_2.Lo.l x_3).bind fun x_5=>(bj b0.Lo.l x_3).bind fun x_6=>(bj a_2.Hi.l x_3).bind fun x_7=>(bj b0.Hi.l x_3).bind fun x_8=>(bj a_2.Lo.l x_3).bind fun x_9=>(bj a_2.Hi.l x_3).bind fun x_10=>some (.inl ((⟨a_2.Lo.set x_3 (min x_5 x_6),a_2.Hi.set x_3 (max x_7 x_8)⟩:b5),IntKind.i64.wrap (x_3 + 1)))) else (some (.inr a_2))) (a0,0)) (fun a_1=>some a_1)
theorem iV {F:Nat} {a0:b5} {b0:b5} {r:b5} (h:gk F a0 b0 = some r):ao Tryz.prog [] 18 [] [.agg (ak a0),.agg (ak b0)] (Is [] (.b (.agg (ak r)))):=by
 unfold gk at h
 refine ao.intro 35 Tryz.func18 Tryz.ntmps18 rfl (by simp) fun E=>?_
 show ab _ E ⟨35,[],[],[]⟩ _ ⟨[(0,.b (.agg (ak a0))),(1,.b (.agg (ak b0)))],[]⟩ _
 refine ab.seq (ab.aa ?_)
 refine Oc (bK (k:=101) rfl rfl) (Oc (bK (k:=102) rfl rfl) (Oc (aY (k:=103) ec rfl) ?_))
 refine af.ai ⟨[(2,Pt 101 0),(3,Pt 102 0),(4,Pt 103 0)],[(101,.box 25 (ak a0)),(102,.box 25 (ak b0)),(103,.box 25 ((cC .i64) A3.zero ++ ((cC .i64) A3.zero)))]⟩ rfl ?_
 obtain ⟨v1,h2,h⟩:=aP h
 refine ab.ek (v:=v1) (fun (a_1:b5)=>⟨[(2,Pt 101 0),(4,Pt 103 0)],[(101,.box 25 (ak a_1)),(103,.box 25 ((cC .i64) A3.zero ++ ((cC .i64) A3.zero)))]⟩) (fun z=>z) ?_ ?_
 ·refine ab.seq (ab.aa ?_)
  refine Oc om (af.ai ⟨[(2,_),(3,_),(4,_),(6,I 0)],[(101,_),(102,_),(103,_)]⟩ rfl (ab.block (ab.dq h2 (fh fun (a_2:b5) (x_3:Int)=>⟨[(2,Pt 101 0),(3,Pt 102 0),(4,Pt 103 0),(6,I x_3)],[(101,.box 25 (ak a_2)),(102,.box 25 (ak b0)),(103,.box 25 ((cC .i64) A3.zero ++ ((cC .i64) A3.zero)))]⟩) [2,3,4,6] [101,102,103] rfl ?_)))
  rintro ⟨a_2,x_3⟩ o3 h4 hy5
  refine ab.seq (ab.aa ?_)
  refine Oc (bE rfl rfl) (af.ai ⟨[(2,_),(3,_),(4,_),(6,_),(7,B (decide (x_3 < 3)))],[(101,_),(102,_),(103,_)]⟩ rfl (ab.seq (ab.ite h4 rfl (fun _ h4=>?_) (fun _ h4=>?_))))
  ·refine ab.skip (Fin.ag ⟨[(2,_),(3,_),(4,_),(6,_)],[(101,_),(102,_),(103,_)]⟩ rfl (Fin.then (ab.seq (ab.block (ab.seq (ab.aa ?_))))))
   refine Oc om (Oc oa ?_)
   refine af.ai ⟨[(2,_),(3,_),(4,_),(5,I x_3),(6,_)],[(101,_),(102,_),(103,_)]⟩ rfl ?_
   obtain ⟨x_5,e6,h4⟩:=aP h4
   obtain ⟨x_6,e7,h4⟩:=aP h4
   obtain ⟨x_7,e8,h4⟩:=aP h4
   obtain ⟨x_8,e9,h4⟩:=aP h4
   obtain ⟨x_9,e10,h4⟩:=aP h4
   obtain ⟨x_10,e11,h4⟩:=aP h4
   refine ab.na mixed [false,false,false,false,false,false,false,false,false,false,false,false,false,false,false,false,false,false,false,false,false,false,true,false,false,true] [I x_3,I x_3,I x_3,Pt 101 0,.b (.ptr 101 (0 + (x_3:Int).toNat * 1)),I x_5,I x_3,Pt 102 0,.b (.ptr 102 (0 + (x_3:Int).toNat * 1)),I x_6,I (min x_5 x_6),I x_3,Pt 101 3,.b (.ptr 101 (3 + (x_3:Int).toNat * 1)),I x_7,I x_3,Pt 102 3,.b (.ptr 102 (3 + (x_3:Int).toNat * 1)),I x_8,I (max x_7 x_8),Pt 101 0,.b (.ptr 101 (0 + (x_3:Int).toNat * 1)),B true,Pt 101 3,.b (.ptr 101 (3 + (x_3:Int).toNat * 1)),B true] [⟨[false,false,false,false,false,false,false,false,false,false,false,false,false,false,false,false,false,false,false,false,false,false,false,false,false,false],[(2,Pt 101 0),(3,Pt 102 0),(4,Pt 103 0),(5,I x_3),(6,I x_3)],[(101,.box 25 (ak a_2)),(102,.box 25 (ak b0)),(103,.box 25 ((cC .i64) A3.zero ++ ((cC .i64) A3.zero)))],[true,true,true,true,true,true,true,true,true,true,true,true,true,true,true,true,true,true,true,true,true,true,true,true,true,true],[],[24,25]⟩,⟨[false,false,false,false,false,false,false,false,false,false,false,false,false,false,false,false,false,false,false,false,false,false,true,false,false,false],[(2,Pt 101 0),(3,Pt 102 0),(4,Pt 103 0),(5,I x_3),(6,I x_3)],[(101,.box 25 ((cC .i64) (a_2.Lo.set x_3 (min x_5 x_6)) ++ ((cC .i64) a_2.Hi))),(102,.box 25 (ak b0)),(103,.box 25 ((cC .i64) A3.zero ++ ((cC .i64) A3.zero)))],[true,true,true,true,true,true,true,true,true,true,true,true,true,true,true,true,true,true,true,true,true,true,true,true,true,true],[0,2,3,4,5,6,7,8,9,10,11,12,13,14,20,21,22],[]⟩,⟨[false,false,false,false,false,false,false,false,false,false,false,false,false,false,false,false,false,false,false,false,false,false,true,false,false,true],[(2,Pt 101 0),(3,Pt 102 0),(4,Pt 103 0),(5,I x_3),(6,I x_3)],[(101,.box 25 ((cC .i64) (a_2.Lo.set x_3 (min x_5 x_6)) ++ ((cC .i64) (a_2.Hi.set x_3 (max x_7 x_8))))),(102,.box 25 (ak b0)),(103,.box 25 ((cC .i64) A3.zero ++ ((cC .i64) A3.zero)))],[true,true,true,true,true,true,true,true,true,true,true,true,true,true,true,true,true,true,true,true,true,true,true,true,true,true],[0,1,2,3,4,5,6,7,8,9,10,11,12,13,14,15,16,17,18,19,20,21,22,23,24,25],[]⟩] rfl (⟨by kernel_rfl,⟨⟨I x_3,fun _=>rfl,fun _=>.p (by exact aT rfl)⟩,⟨I x_3,fun _=>rfl,fun _=>.p (by exact aT rfl)⟩,⟨I x_3,fun _=>rfl,fun _=>.p (by exact aT rfl)⟩,⟨Pt 101 0,fun _=>rfl,fun _=>.p (by exact au ct rfl rfl)⟩,⟨.b (.ptr 101 (0 + (x_3:Int).toNat * 1)),fun _=>rfl,fun _=>.p (by exact aZ bG (ba e6) (cS e6) rfl rfl rfl)⟩,⟨I x_5,fun _=>rfl,fun _=>.p (by exact aJ aQ rfl rfl (cG (post:=((cC .i64) a_2.Hi)) (k:=.i64) [] e6 rfl rfl rfl))⟩,⟨I x_3,fun _=>rfl,fun _=>.p (by exact aT rfl)⟩,⟨Pt 102 0,fun _=>rfl,fun _=>.p (by exact au ct rfl rfl)⟩,⟨.b (.ptr 102 (0 + (x_3:Int).toNat * 1)),fun _=>rfl,fun _=>.p (by exact aZ bG (ba e7) (cS e7) rfl rfl rfl)⟩,⟨I x_6,fun _=>rfl,fun _=>.p (by exact aJ aQ rfl rfl (cG (post:=((cC .i64) b0.Hi)) (k:=.i64) [] e7 rfl rfl rfl))⟩,⟨I (min x_5 x_6),fun _=>rfl,fun _=>.p (by exact sx rfl rfl)⟩,⟨I x_3,fun _=>rfl,fun _=>.p (by exact aT rfl)⟩,⟨Pt 101 3,fun _=>rfl,fun _=>.p (by exact au cr rfl rfl)⟩,⟨.b (.ptr 101 (3 + (x_3:Int).toNat * 1)),fun _=>rfl,fun _=>.p (by exact aZ bG (ba e8) (cS e8) rfl rfl rfl)⟩,⟨I x_7,fun _=>rfl,fun _=>.p (by exact aJ aQ rfl rfl (cG (post:=[]) (k:=.i64) ((cC .i64) a_2.Lo) e8 rfl rfl rfl))⟩,⟨I x_3,fun _=>rfl,fun _=>.p (by exact aT rfl)⟩,⟨Pt 102 3,fun _=>rfl,fun _=>.p (by exact au cr rfl rfl)⟩,⟨.b (.ptr 102 (3 + (x_3:Int).toNat * 1)),fun _=>rfl,fun _=>.p (by exact aZ bG (ba e9) (cS e9) rfl rfl rfl)⟩,⟨I x_8,fun _=>rfl,fun _=>.p (by exact aJ aQ rfl rfl (cG (post:=[]) (k:=.i64) ((cC .i64) b0.Lo) e9 rfl rfl rfl))⟩,⟨I (max x_7 x_8),fun _=>rfl,fun _=>.p (by exact qj rfl rfl)⟩,⟨Pt 101 0,fun _=>rfl,fun _=>.p (by exact au ct rfl rfl)⟩,⟨.b (.ptr 101 (0 + (x_3:Int).toNat * 1)),fun _=>rfl,fun _=>.p (by exact aZ bG (ba e10) (cS e10) rfl rfl rfl)⟩,⟨_,[],.b (.one .any),rfl,(fun e=>by simp at e),rfl,rfl,fun _=>.r6 [101,102,103] (by exact .p (by exact dH aQ rfl rfl rfl (oD (post:=((cC .i64) a_2.Hi)) (k:=.i64) [] e10 rfl rfl rfl) (mO (post:=((cC .i64) a_2.Hi)) (k:=.i64) [] e10 rfl rfl (A3.pb a_2.Lo x_3 (min x_5 x_6)) rfl rfl))) (by exact rfl)⟩,⟨Pt 101 3,fun _=>rfl,fun _=>.p (by exact au cr rfl rfl)⟩,trivial,trivial,trivial⟩,⟨by kernel_rfl,⟨trivial,⟨I x_3,fun _=>rfl,fun _=>.p (by exact aT rfl)⟩,trivial,trivial,trivial,trivial,trivial,trivial,trivial,trivial,trivial,trivial,trivial,trivial,trivial,⟨I x_3,fun _=>rfl,fun _=>.p (by exact aT rfl)⟩,⟨Pt 102 3,fun _=>rfl,fun _=>.p (by exact au cr rfl rfl)⟩,⟨.b (.ptr 102 (3 + (x_3:Int).toNat * 1)),fun _=>rfl,fun _=>.p (by exact aZ bG (ba e9) (cS e9) rfl rfl rfl)⟩,⟨I x_8,fun _=>rfl,fun _=>.p (by exact aJ aQ rfl rfl (cG (post:=[]) (k:=.i64) ((cC .i64) b0.Lo) e9 rfl rfl rfl))⟩,⟨I (max x_7 x_8),fun _=>rfl,fun _=>.p (by exact qj rfl rfl)⟩,trivial,trivial,trivial,⟨Pt 101 3,fun _=>rfl,fun _=>.p (by exact au cr rfl rfl)⟩,⟨.b (.ptr 101 (3 + (x_3:Int).toNat * 1)),fun _=>rfl,fun _=>.p (by exact aZ bG (ba e11) (cS e11) rfl rfl rfl)⟩,⟨_,[],.b (.one .any),rfl,(fun e=>by simp at e),rfl,rfl,fun _=>.r6 [101,102,103] (by exact .p (by exact dH aQ rfl rfl rfl (oD (post:=[]) (k:=.i64) ((cC .i64) (a_2.Lo.set x_3 (min x_5 x_6))) e11 rfl rfl rfl) (mO (post:=[]) (k:=.i64) ((cC .i64) (a_2.Lo.set x_3 (min x_5 x_6))) e11 rfl rfl (A3.pb a_2.Hi x_3 (max x_7 x_8)) rfl rfl))) (by exact rfl)⟩,trivial⟩,⟨by kernel_rfl,⟨trivial,trivial,trivial,trivial,trivial,trivial,trivial,trivial,trivial,trivial,trivial,trivial,trivial,trivial,trivial,trivial,trivial,trivial,trivial,trivial,trivial,trivial,trivial,trivial,trivial,trivial,trivial⟩,trivial⟩⟩⟩) rfl rfl rfl [2,3,4,6] [101,102,103] (s':=⟨[(2,_),(3,_),(4,_),(6,_)],[(101,.box 25 ((cC .i64) (a_2.Lo.set x_3 (min x_5 x_6)) ++ ((cC .i64) (a_2.Hi.set x_3 (max x_7 x_8))))),(102,_),(103,_)]⟩) rfl ?_
   refine Fin.aB (Fin.ag ⟨[(2,_),(3,_),(4,_),(6,_)],[(101,_),(102,_),(103,_)]⟩ rfl (Fin.then (ab.aa ?_)))
   refine Oc (bW rfl rfl) (Oc om ?_)
   refine af.nil ?_
   exact Fin.cE [2,3,4,6] [101,102,103] ((⟨a_2.Lo.set x_3 (min x_5 x_6),a_2.Hi.set x_3 (max x_7 x_8)⟩:b5),IntKind.i64.wrap (x_3 + 1)) (Option.some.inj h4) rfl
  ·refine ab.exit (Fin.aF ?_)
   obtain rfl:=hy5 _ (Option.some.inj h4).symm
   refine Fin.aF (Fin.a6 ?_)
   exact Fin.join [2,4] [101,103] a_2 rfl rfl
 ·rintro a_1 hv
  subst v1
  refine ab.seq (ab.aa ?_)
  refine Oc (lp ay) (Oc (aG ay rfl rfl rfl rfl (Nat.le_of_ble_eq_true rfl) rfl) ?_)
  refine af.ai ⟨[(4,_)],[(103,.box 25 (ak a_1))]⟩ rfl (ab.ret ?_)
  obtain rfl:=Option.some.inj h
  refine Fin.ag ⟨[(4,_)],[(103,_)]⟩ rfl (Fin.av [.agg (ak a_1)] (.inl rfl) rfl (.cons (.agg ay rfl rfl rfl rfl) .nil) ⟨rfl,rfl⟩)
def eu (F:Nat) (s0:List b5) (f0:Nat):Option Int :=
 Option.bind (iter F (fun x_1=>if (decide (x_1 < (s0.length:Int))) = true then ((bj s0 x_1).bind fun x_2=>(jy F f0 x_2).bind fun x_3=>if x_3 = true then (some (.inr (.inr x_1))) else (some (.inl (IntKind.i64.wrap (x_1 + 1))))) else (some (.inr (.inl ())))) 0) (cq (fun _=>some (-1)) (fun y=>some y))
theorem iZ {F:Nat} {s0:List b5} {f0:Nat} {r:Int} (h:eu F s0 f0 = some r):ao Tryz.prog [] 67 [] [.one (.sl 6 (s0.map ak)),.one (.raw (.func (.func f0) #[] #[]))] (Is [] (.b (.one (.i r)))):=by
 unfold eu at h
 refine ao.intro 19 Tryz.func67 Tryz.ntmps67 rfl (by simp) fun E=>?_
 show ab _ E ⟨19,[],[],[]⟩ _ ⟨[(0,.b (.one (.sl 6 (s0.map ak)))),(1,.b (.one (.raw (.func (.func f0) #[] #[]))))],[]⟩ _
 refine ab.seq (ab.aa ?_)
 refine Oc oa (af.ai ⟨[(0,.b (.one (.sl 6 (s0.map ak)))),(1,.b (.one (.raw (.func (.func f0) #[] #[]))))],[]⟩ rfl ?_)
 obtain ⟨v1,h2,h⟩:=aP h
 refine ab.ek (v:=v1) (fun (_:Unit)=>⟨[],[]⟩) (fun z=>.inl z) ?_ ?_
 ·refine ab.seq (ab.aa ?_)
  refine Oc om (Oc (bH und34 rfl (List.length_map _)) (Oc om ?_))
  refine af.ai ⟨[(0,_),(1,_),(7,I (s0.length:Int)),(8,I 0)],[]⟩ rfl (ab.block (ab.dq h2 (fun (x_1:Int)=>⟨[(0,.b (.one (.sl 6 (s0.map ak)))),(1,.b (.one (.raw (.func (.func f0) #[] #[])))),(7,I (s0.length:Int)),(8,I x_1)],[]⟩) [0,1,7,8] [] rfl ?_))
  rintro x_1 o3 h4 hy5
  refine ab.seq (ab.aa ?_)
  refine Oc (bE rfl rfl) (af.ai ⟨[(0,_),(1,_),(7,_),(8,_),(9,B (decide (x_1 < (s0.length:Int))))],[]⟩ rfl (ab.seq (ab.ite h4 rfl (fun _ h4=>?_) (fun _ h4=>?_))))
  ·refine ab.skip (Fin.ag ⟨[(0,_),(1,_),(7,_),(8,_)],[]⟩ rfl (Fin.then (ab.seq (ab.block (ab.seq (ab.aa ?_))))))
   refine Oc om (Oc oa ?_)
   refine af.ai ⟨[(0,_),(1,_),(5,I x_1),(7,_),(8,_)],[]⟩ rfl (ab.seq (ab.aa ?_))
   refine Oc om (Oc om (Oc om ?_))
   obtain ⟨x_2,e6,h4⟩:=aP h4
   refine Oc (bo kK (ba e6) (cD (e:=ak) e6) rfl rfl) (Oc (ck ay rfl rfl rfl) ?_)
   obtain ⟨x_3,e7,h4⟩:=aP h4
   refine Oc (il (p5 e7) (p6 e7) rfl rfl rfl) (af.ai ⟨[(0,_),(1,_),(5,_),(7,_),(8,_),(16,B x_3)],[]⟩ rfl (ab.ite h4 rfl (fun _ h4=>?_) (fun _ h4=>?_)))
   ·refine ab.seq (ab.aa ?_)
    refine Oc om (Oc oa ?_)
    refine af.ai ⟨[(4,I x_1)],[]⟩ rfl (ab.ret (Fin.aV (Fin.ax ?_)))
    obtain rfl:=hy5 _ (Option.some.inj h4).symm
    refine Fin.ax (Fin.aV (Fin.ax ?_))
    obtain rfl:=Option.some.inj h
    refine Fin.ag ⟨[(4,_)],[]⟩ rfl (Fin.av [.one (.i x_1)] (.inl rfl) rfl (.cons (.tmp rfl) .nil) ⟨rfl,rfl⟩)
   ·refine ab.skip (Fin.aB (Fin.ag ⟨[(0,_),(1,_),(7,_),(8,_)],[]⟩ rfl (Fin.then (ab.aa ?_))))
    refine Oc (bW rfl rfl) (Oc om ?_)
    refine af.nil ?_
    exact Fin.cE [0,1,7,8] [] (IntKind.i64.wrap (x_1 + 1)) (Option.some.inj h4) rfl
  ·refine ab.exit (Fin.aF ?_)
   obtain rfl:=hy5 _ (Option.some.inj h4).symm
   refine Fin.aF (Fin.a6 ?_)
   exact Fin.join [] [] () rfl rfl
 ·rintro _ hv
  subst v1
  refine ab.seq (ab.aa ?_)
  refine Oc oa (af.ai ⟨[(4,I (-1))],[]⟩ rfl (ab.ret ?_))
  obtain rfl:=Option.some.inj h
  refine Fin.ag ⟨[(4,_)],[]⟩ rfl (Fin.av [.one (.i (-1))] (.inl rfl) rfl (.cons (.tmp rfl) .nil) ⟨rfl,rfl⟩)
def dA (F:Nat) (s0:List b5) (f0:Nat):Option Bool :=
 (eu F s0 f0).bind fun x_1=>some (decide (0 ≤ x_1))
theorem hS {F:Nat} {s0:List b5} {f0:Nat} {r:Bool} (h:dA F s0 f0 = some r):ao Tryz.prog [] 40 [] [.one (.sl 6 (s0.map ak)),.one (.raw (.func (.func f0) #[] #[]))] (Is [] (.b (.one (.bool r)))):=by
 unfold dA at h
 refine ao.intro 9 Tryz.func40 Tryz.ntmps40 rfl (by simp) fun E=>?_
 show ab _ E ⟨9,[],[],[]⟩ _ ⟨[(0,.b (.one (.sl 6 (s0.map ak)))),(1,.b (.one (.raw (.func (.func f0) #[] #[]))))],[]⟩ _
 refine ab.seq (ab.aa ?_)
 refine Oc oa (af.ai ⟨[(0,.b (.one (.sl 6 (s0.map ak)))),(1,.b (.one (.raw (.func (.func f0) #[] #[]))))],[]⟩ rfl (ab.seq (ab.aa ?_)))
 refine Oc om (Oc om ?_)
 obtain ⟨x_1,e1,h⟩:=aP h
 refine Oc (aj (iZ e1) goes67 rfl rfl) (Oc (mT rfl rfl) (Oc oa ?_))
 refine af.ai ⟨[(4,B (decide (0 ≤ x_1)))],[]⟩ rfl (ab.ret ?_)
 obtain rfl:=Option.some.inj h
 refine Fin.ag ⟨[(4,_)],[]⟩ rfl (Fin.av [.one (.bool (decide (0 ≤ x_1)))] (.inl rfl) rfl (.cons (.tmp rfl) .nil) ⟨rfl,rfl⟩)
def eh (F:Nat) (k0:Int) (v0c:List b5) (v1c:Int):Option Bool :=
 (bj v0c k0).bind fun x_1=>(bj v0c v1c).bind fun x_2=>some (decide (x_1.Hi.a0 < x_2.Lo.a0))
theorem gE {F:Nat} {k0:Int} {v0c:List b5} {v1c:Int} {r:Bool} (h:eh F k0 v0c v1c = some r):ao Tryz.prog [] 46 [] [.one (.i k0),.aK [.sl 6 (v0c.map ak)],.aK [.i v1c]] (Is [] (.b (.one (.bool r)))):=by
 unfold eh at h
 refine ao.intro 18 Tryz.func46 Tryz.ntmps46 rfl (by simp) fun E=>?_
 show ab _ E ⟨18,[],[],[]⟩ _ ⟨[(0,I k0),(1,.b (.aK [.sl 6 (v0c.map ak)])),(2,.b (.aK [.i v1c]))],[]⟩ _
 refine ab.seq (ab.aa ?_)
 refine Oc oa (af.ai ⟨[(0,I k0),(1,.b (.aK [.sl 6 (v0c.map ak)])),(2,.b (.aK [.i v1c]))],[]⟩ rfl (ab.seq ?_))
 obtain ⟨x_1,e1,h⟩:=aP h
 obtain ⟨x_2,e2,h⟩:=aP h
 refine ab.bZ mixed 14 [.b (.one (.sl 6 (v0c.map ak))),I k0,.b (.aK (ak x_1)),.b (.aK ((cC .i64) x_1.Hi)),.b (.aK [.i x_1.Hi.a0]),I x_1.Hi.a0,.b (.one (.sl 6 (v0c.map ak))),I v1c,.b (.aK (ak x_2)),.b (.aK (ak x_2)),.b (.aK [.i x_2.Lo.a0]),I x_2.Lo.a0,B (decide (x_1.Hi.a0 < x_2.Lo.a0)),B (decide (x_1.Hi.a0 < x_2.Lo.a0))] [4] [] (s':=⟨[(4,B (decide (x_1.Hi.a0 < x_2.Lo.a0)))],[]⟩) rfl ⟨fun _=>.p (ar jN rfl rfl),fun _=>.p om,fun _=>.p (bo kK (ba e1) (cD (e:=ak) e1) rfl rfl),fun _=>by exact .p (aC cr rfl rfl),fun _=>.p (mz bG (by decide) (by decide) rfl rfl rfl),fun _=>.p (ar aQ rfl rfl),fun _=>.p (ar jN rfl rfl),fun _=>.p (ar aQ rfl rfl),fun _=>.p (bo kK (ba e2) (cD (e:=ak) e2) rfl rfl),fun _=>by exact .p (aC ct rfl rfl),fun _=>.p (mz bG (by decide) (by decide) rfl rfl rfl),fun _=>.p (ar aQ rfl rfl),fun _=>.p (bE rfl rfl),fun _=>.p oa,trivial⟩ rfl rfl (ab.ret ?_)
 obtain rfl:=Option.some.inj h
 refine Fin.ag ⟨[(4,_)],[]⟩ rfl (Fin.av [.one (.bool (decide (x_1.Hi.a0 < x_2.Lo.a0)))] (.inl rfl) rfl (.cons (.tmp rfl) .nil) ⟨rfl,rfl⟩)
def dL (F:Nat) (s0:List Int) (f0:(List b5) × Int):Option Int :=
 Option.bind (iter F (fun x_1=>if (decide (x_1 < (s0.length:Int))) = true then ((bj s0 x_1).bind fun x_2=>(eh F x_2 f0.1 f0.2).bind fun x_3=>if x_3 = true then (some (.inr (.inr x_1))) else (some (.inl (IntKind.i64.wrap (x_1 + 1))))) else (some (.inr (.inl ())))) 0) (cq (fun _=>some (-1)) (fun y=>some y))
theorem ix {F:Nat} {s0:List Int} {f0:(List b5) × Int} {r:Int} (h:dL F s0 f0 = some r):ao Tryz.prog [] 71 [] [.one (.sl 1 (s0.map eI)),.one (.eP 46 [CP.rp [.sl 6 (f0.1.map ak)],CP.rp [.i f0.2]])] (Is [] (.b (.one (.i r)))):=by
 unfold dL at h
 refine ao.intro 19 Tryz.func71 Tryz.ntmps71 rfl (by simp) fun E=>?_
 show ab _ E ⟨19,[],[],[]⟩ _ ⟨[(0,.b (.one (.sl 1 (s0.map eI)))),(1,.b (.one (.eP 46 [CP.rp [.sl 6 (f0.1.map ak)],CP.rp [.i f0.2]])))],[]⟩ _
 refine ab.seq (ab.aa ?_)
 refine Oc oa (af.ai ⟨[(0,.b (.one (.sl 1 (s0.map eI)))),(1,.b (.one (.eP 46 [CP.rp [.sl 6 (f0.1.map ak)],CP.rp [.i f0.2]])))],[]⟩ rfl ?_)
 obtain ⟨v1,h2,h⟩:=aP h
 refine ab.ek (v:=v1) (fun (_:Unit)=>⟨[],[]⟩) (fun z=>.inl z) ?_ ?_
 ·refine ab.seq (ab.aa ?_)
  refine Oc om (Oc (bH eT rfl (List.length_map _)) (Oc om ?_))
  refine af.ai ⟨[(0,_),(1,_),(7,I (s0.length:Int)),(8,I 0)],[]⟩ rfl (ab.block (ab.dq h2 (fun (x_1:Int)=>⟨[(0,.b (.one (.sl 1 (s0.map eI)))),(1,.b (.one (.eP 46 [CP.rp [.sl 6 (f0.1.map ak)],CP.rp [.i f0.2]]))),(7,I (s0.length:Int)),(8,I x_1)],[]⟩) [0,1,7,8] [] rfl ?_))
  rintro x_1 o3 h4 hy5
  refine ab.seq (ab.aa ?_)
  refine Oc (bE rfl rfl) (af.ai ⟨[(0,_),(1,_),(7,_),(8,_),(9,B (decide (x_1 < (s0.length:Int))))],[]⟩ rfl (ab.seq (ab.ite h4 rfl (fun _ h4=>?_) (fun _ h4=>?_))))
  ·refine ab.skip (Fin.ag ⟨[(0,_),(1,_),(7,_),(8,_)],[]⟩ rfl (Fin.then (ab.seq (ab.block (ab.seq (ab.aa ?_))))))
   refine Oc om (Oc oa ?_)
   refine af.ai ⟨[(0,_),(1,_),(5,I x_1),(7,_),(8,_)],[]⟩ rfl (ab.seq (ab.aa ?_))
   refine Oc om (Oc om (Oc om ?_))
   obtain ⟨x_2,e6,h4⟩:=aP h4
   refine Oc (bo ca (ba e6) (cD (e:=eI) e6) rfl rfl) (Oc (ar aQ rfl rfl) ?_)
   obtain ⟨x_3,e7,h4⟩:=aP h4
   refine Oc (nc (pss:=[[.sl 6 (f0.1.map ak)],[.i f0.2]]) (gE e7) sJ rfl rfl rfl trivial rfl rfl) (af.ai ⟨[(0,_),(1,_),(5,_),(7,_),(8,_),(16,B x_3)],[]⟩ rfl (ab.ite h4 rfl (fun _ h4=>?_) (fun _ h4=>?_)))
   ·refine ab.seq (ab.aa ?_)
    refine Oc om (Oc oa ?_)
    refine af.ai ⟨[(4,I x_1)],[]⟩ rfl (ab.ret (Fin.aV (Fin.ax ?_)))
    obtain rfl:=hy5 _ (Option.some.inj h4).symm
    refine Fin.ax (Fin.aV (Fin.ax ?_))
    obtain rfl:=Option.some.inj h
    refine Fin.ag ⟨[(4,_)],[]⟩ rfl (Fin.av [.one (.i x_1)] (.inl rfl) rfl (.cons (.tmp rfl) .nil) ⟨rfl,rfl⟩)
   ·refine ab.skip (Fin.aB (Fin.ag ⟨[(0,_),(1,_),(7,_),(8,_)],[]⟩ rfl (Fin.then (ab.aa ?_))))
    refine Oc (bW rfl rfl) (Oc om ?_)
    refine af.nil ?_
    exact Fin.cE [0,1,7,8] [] (IntKind.i64.wrap (x_1 + 1)) (Option.some.inj h4) rfl
  ·refine ab.exit (Fin.aF ?_)
   obtain rfl:=hy5 _ (Option.some.inj h4).symm
   refine Fin.aF (Fin.a6 ?_)
   exact Fin.join [] [] () rfl rfl
 ·rintro _ hv
  subst v1
  refine ab.seq (ab.aa ?_)
  refine Oc oa (af.ai ⟨[(4,I (-1))],[]⟩ rfl (ab.ret ?_))
  obtain rfl:=Option.some.inj h
  refine Fin.ag ⟨[(4,_)],[]⟩ rfl (Fin.av [.one (.i (-1))] (.inl rfl) rfl (.cons (.tmp rfl) .nil) ⟨rfl,rfl⟩)
def dX (F:Nat) (del0:(List b5) × Int) (s0:List Int):Option (List Int) :=
 (dL F s0 (del0.1,del0.2)).bind fun x_1=>if (decide (x_1 = (-1))) = true then (some s0) else (Option.bind (iter F (un3 fun s_4 i_5 j_6=>if (decide (j_6 < (s_4.length:Int))) = true then (Option.bind ((bj s_4 j_6).bind fun x_11=>(eh F x_11 del0.1 del0.2).bind fun x_12=>if (!x_12) = true then ((bj s_4 i_5).bind fun x_13=>some (s_4.set (i_5:Int).toNat x_11,IntKind.i64.wrap (i_5 + 1))) else (some (s_4,i_5))) (fh fun s_9 i_10=>some (.inl (s_9,i_10,IntKind.i64.wrap (j_6 + 1))))) else (some (.inr (s_4,i_5)))) (s0,x_1,IntKind.i64.wrap (x_1 + 1))) (fh fun s_2 i_3=>Option.bind (clr? (0:Int) s_2 i_3) (fun z_14=>(mR z_14 i_3).bind fun x_15=>some x_15)))
theorem iQ {F:Nat} {del0:(List b5) × Int} {s0:List Int} {r:(List Int)} (h:dX F del0 s0 = some r):ao Tryz.prog [] 45 [(1,.row 3 1 (s0.map eI))] [.row 1,.one (.eP 46 [CP.rp [.sl 6 (del0.1.map ak)],CP.rp [.i del0.2]])] (Is [(1,.row 3 1 (r.map eI))] (.b (.row 1))):=by
 unfold dX at h
 refine ao.intro 42 Tryz.func45 Tryz.ntmps45 rfl (by simp) fun E=>?_
 show ab _ E ⟨42,[],[1],[]⟩ _ ⟨[(0,.b (.row 1)),(1,.b (.one (.eP 46 [CP.rp [.sl 6 (del0.1.map ak)],CP.rp [.i del0.2]])))],[(1,.row 3 1 (s0.map eI))]⟩ _
 refine ab.seq (ab.aa ?_)
 refine Oc oa (af.ai ⟨[(0,.b (.row 1)),(1,.b (.one (.eP 46 [CP.rp [.sl 6 (del0.1.map ak)],CP.rp [.i del0.2]])))],[(1,.row 3 1 (s0.map eI))]⟩ rfl (ab.seq (ab.aa ?_)))
 refine Oc om (Oc om ?_)
 obtain ⟨x_1,e1,h⟩:=aP h
 refine Oc (ju (ix e1) goes71 rfl CP.pF) (Oc oa ?_)
 refine af.ai ⟨[(0,_),(1,_),(5,I x_1)],[(1,_)]⟩ rfl (ab.seq (ab.seq (ab.aa ?_)))
 refine Oc om (Oc (dd rfl rfl) ?_)
 refine af.ai ⟨[(0,_),(1,_),(5,_),(12,B (decide (x_1 = (-1))))],[(1,_)]⟩ rfl (ab.ite h rfl (fun _ h=>?_) (fun _ h=>?_))
 ·refine ab.seq (ab.aa ?_)
  refine Oc om (Oc oa ?_)
  refine af.ai ⟨[(4,.b (.row 1))],[(1,_)]⟩ rfl (ab.ret (Fin.ax ?_))
  obtain rfl:=Option.some.inj h
  refine Fin.ag ⟨[(4,_)],[(1,_)]⟩ rfl ?_
  exact Fin.result [.row 1] (.inl rfl) rfl (.cons (.tmp rfl) .nil) ⟨rfl,rfl⟩
 ·refine ab.skip (Fin.ag ⟨[(0,_),(1,_),(5,_)],[(1,_)]⟩ rfl (Fin.then ?_))
  obtain ⟨v2,h3,h⟩:=aP h
  refine ab.ek (v:=v2) (fh fun (s_2:List Int) (i_3:Int)=>⟨[(0,.b (.row 1)),(5,I i_3)],[(1,.row 3 1 (s_2.map eI))]⟩) (fun z=>z) ?_ ?_
  ·refine ab.seq (ab.aa ?_)
   refine Oc om (Oc (bW rfl rfl) (Oc oa ?_))
   refine af.ai ⟨[(0,_),(1,_),(5,_),(6,I (IntKind.i64.wrap (x_1 + 1)))],[(1,_)]⟩ rfl (ab.block (ab.dq h3 (un3 fun (s_4:List Int) (i_5:Int) (j_6:Int)=>⟨[(0,.b (.row 1)),(1,.b (.one (.eP 46 [CP.rp [.sl 6 (del0.1.map ak)],CP.rp [.i del0.2]]))),(5,I i_5),(6,I j_6)],[(1,.row 3 1 (s_4.map eI))]⟩) [0,1,5,6] [1] rfl ?_))
   rintro ⟨s_4,i_5,j_6⟩ o4 h5 hy6
   refine ab.seq (ab.seq (ab.aa ?_))
   refine Oc om (Oc om (Oc (eD eT rfl rfl (List.length_map _)) (Oc (bE rfl rfl) ?_)))
   refine af.ai ⟨[(0,_),(1,_),(5,_),(6,_),(19,B (decide (j_6 < (s_4.length:Int))))],[(1,_)]⟩ rfl (ab.ite h5 rfl (fun _ h5=>?_) (fun _ h5=>?_))
   ·refine ab.skip (Fin.ag ⟨[(0,_),(1,_),(5,_),(6,_)],[(1,_)]⟩ rfl (Fin.then ?_))
    obtain ⟨v7,h8,h5⟩:=aP h5
    refine ab.ek (v:=v7) (fh fun (s_9:List Int) (i_10:Int)=>⟨[(0,.b (.row 1)),(1,.b (.one (.eP 46 [CP.rp [.sl 6 (del0.1.map ak)],CP.rp [.i del0.2]]))),(5,I i_10),(6,I j_6)],[(1,.row 3 1 (s_9.map eI))]⟩) (fun z=>z) ?_ ?_
    ·refine ab.block (ab.seq (ab.aa ?_))
     refine Oc om (Oc om ?_)
     obtain ⟨x_11,e9,h8⟩:=aP h8
     refine Oc (dh ca (ba e9) (iA e9) rfl rfl rfl rfl) (Oc (fo (i:=(j_6:Int).toNat) (f:=0) aQ rfl rfl rfl (cD (e:=eI) e9) rfl) (Oc oa ?_))
     refine af.ai ⟨[(0,_),(1,_),(5,_),(6,_),(7,I x_11)],[(1,_)]⟩ rfl (ab.seq (ab.aa ?_))
     refine Oc om (Oc om ?_)
     obtain ⟨x_12,e10,h8⟩:=aP h8
     refine Oc (nc (pss:=[[.sl 6 (del0.1.map ak)],[.i del0.2]]) (gE e10) sJ rfl rfl rfl trivial rfl rfl) (Oc (dW rfl) ?_)
     refine af.ai ⟨[(0,_),(1,_),(5,_),(6,_),(7,_),(29,B (!x_12))],[(1,_)]⟩ rfl (ab.ite h8 rfl (fun _ h8=>?_) (fun _ h8=>?_))
     ·refine ab.seq (ab.aa ?_)
      refine Oc om (Oc om (Oc om ?_))
      obtain ⟨x_13,e11,h8⟩:=aP h8
      refine Oc (dh ca (ba e11) (iA e11) rfl rfl rfl rfl) (Oc (jB (i:=(i_5:Int).toNat) aQ rfl rfl rfl rfl (sm e11) (map_set _ _ _ _)) ?_)
      refine af.ai ⟨[(0,_),(1,_),(5,_),(6,_)],[(1,.row 3 1 ((s_4.set (i_5:Int).toNat x_11).map eI))]⟩ rfl (ab.aa (Oc om (Oc (bW rfl rfl) (Oc oa ?_))))
      refine af.nil (Fin.aB ?_)
      exact Fin.join [0,1,5,6] [1] (s_4.set (i_5:Int).toNat x_11,IntKind.i64.wrap (i_5 + 1)) (Option.some.inj h8) rfl
     ·refine ab.skip (Fin.aB ?_)
      exact Fin.join [0,1,5,6] [1] (s_4,i_5) (Option.some.inj h8) rfl
    ·rintro ⟨s_9,i_10⟩ hv
     subst v7
     refine ab.aa (Oc om (Oc (bW rfl rfl) (Oc oa ?_)))
     refine af.nil ?_
     exact Fin.cE [0,1,5,6] [1] (s_9,i_10,IntKind.i64.wrap (j_6 + 1)) (Option.some.inj h5) rfl
   ·refine ab.exit (Fin.aF ?_)
    obtain rfl:=hy6 _ (Option.some.inj h5).symm
    refine Fin.aF (Fin.a6 ?_)
    exact Fin.join [0,5] [1] (s_4,i_5) rfl rfl
  ·rintro ⟨s_2,i_3⟩ hv
   subst v2
   refine ab.seq (ab.aa ?_)
   refine Oc om (Oc om ?_)
   obtain ⟨z_14,e12,h⟩:=aP h
   refine af.clr (enc:=eI) ca rfl e12 rfl rfl rfl (by decide) rfl (af.ai ⟨[(0,_),(5,_)],[(1,.row 3 1 (z_14.map eI))]⟩ rfl (ab.seq (ab.aa ?_)))
   refine Oc om (Oc om ?_)
   obtain ⟨x_15,e13,h⟩:=aP h
   refine Oc (kz ca e13 rfl rfl rfl rfl) (Oc oa ?_)
   refine af.ai ⟨[(4,.b (.row 1))],[(1,.row 3 1 (x_15.map eI))]⟩ rfl (ab.ret ?_)
   obtain rfl:=Option.some.inj h
   refine Fin.ag ⟨[(4,_)],[(1,_)]⟩ rfl ?_
   exact Fin.result [.row 1] (.inl rfl) rfl (.cons (.tmp rfl) .nil) ⟨rfl,rfl⟩
def dD (F:Nat) (l0:List A2):Option (List A2) :=
 (cL F l0).bind fun x_1=>some x_1
theorem jM {F:Nat} {l0:List A2} {r:(List A2)} (h:dD F l0 = some r):ao Tryz.prog [] 47 [(1,.dc 40 2 (l0.map (dN .i64)))] [.row 1] (Is [(1,.dc 40 2 (r.map (dN .i64)))] (.dY [])):=by
 unfold dD at h
 refine ao.intro 4 Tryz.func47 Tryz.ntmps47 rfl (by simp) fun E=>?_
 show ab _ E ⟨4,[1],[1],[]⟩ _ ⟨[(0,.b (.row 1))],[(1,.dc 40 2 (l0.map (dN .i64)))]⟩ _
 refine ab.rz 1 rfl (ab.aa (Oc om (af.rA 1 rfl ?_)))
 obtain ⟨x_1,e1,h⟩:=aP h
 refine Oc (cZ (own_a:=[(1,_)]) (iY e1) goes72 rfl ⟨rfl,trivial⟩ rfl rfl) (af.rz 1 rfl (af.nil ?_))
 obtain rfl:=Option.some.inj h
 refine Fin.ag ⟨[],[(1,.row 40 2 (x_1.map (dN .i64)))]⟩ rfl (Fin.rA 1 rfl (Fin.ag ⟨[],[(1,.dc 40 2 (x_1.map (dN .i64)))]⟩ rfl ?_))
 exact Fin.result [] (.inr rfl) rfl (.nil) ⟨rfl,rfl⟩
def ee (F:Nat) (l0:List b5):Option ((List A2) × Int) :=
 (dA F l0 41).bind fun x_1=>if x_1 = true then (some ([],1)) else (Option.bind (mk? (0:Int) (l0.length:Int) (l0.length:Int)) (fun x_2=>Option.bind (iter F (fh fun order_4 x_5=>if (decide (x_5 < (x_2.length:Int))) = true then ((bj order_4 x_5).bind fun x_7=>some (.inl (order_4.set (x_5:Int).toNat x_5,IntKind.i64.wrap (x_5 + 1)))) else (some (.inr order_4))) (x_2,0)) (fun order_3=>(ff F l0 order_3).bind fun x_8=>Option.bind (iter F (un3 fun active_10 out_11 x_12=>if (decide (x_12 < (x_8.length:Int))) = true then (Option.bind ((bj x_8 x_12).bind fun x_16=>(dX F (l0,x_16) active_10).bind fun x_17=>Option.bind (iter F (fh fun out_19 x_20=>if (decide (x_20 < (x_17.length:Int))) = true then (Option.bind ((bj x_17 x_20).bind fun x_23=>(bj l0 x_16).bind fun x_24=>(bj l0 x_23).bind fun x_25=>(b6 F x_24 x_25).bind fun x_26=>if x_26 = true then ((mF out_19 [(⟨min x_16 x_23,max x_16 x_23⟩:A2)]).bind fun x_27=>some x_27) else (some out_19)) (fun out_22=>some (.inl (out_22,IntKind.i64.wrap (x_20 + 1))))) else (some (.inr out_19))) (out_11,0)) (fun out_18=>(mF x_17 [x_16]).bind fun x_28=>some (x_28,out_18))) (fh fun active_14 out_15=>some (.inl (active_14,out_15,IntKind.i64.wrap (x_12 + 1))))) else (some (.inr out_11))) ([],[],0)) (fun out_9=>(dD F out_9).bind fun x_29=>some (x_29,0)))))
theorem iu (kr0:Nat) {F:Nat} {l0:List b5} {r:(List A2) × Int} (h:ee F l0 = some r):ao Tryz.prog [] 20 [] [.one (.sl 6 (l0.map ak))] (Is [(kr0,.row 40 2 (r.1.map (dN .i64)))] (.dY [.row kr0,.one (.i r.2)])):=by
 unfold ee at h
 refine ao.intro 73 Tryz.func20 Tryz.ntmps20 rfl (by simp) fun E=>?_
 show ab _ E ⟨73,[],[],[]⟩ _ ⟨[(0,.b (.one (.sl 6 (l0.map ak))))],[]⟩ _
 refine ab.seq (ab.aa ?_)
 refine Oc (oJ rfl) (Oc oa (Oc oa ?_))
 refine af.ai ⟨[(1,.b (.aK [.sl 6 (l0.map ak)]))],[]⟩ rfl (ab.seq (ab.seq (ab.aa ?_)))
 refine Oc (ar jN rfl rfl) ?_
 obtain ⟨x_1,e1,h⟩:=aP h
 refine Oc (aj (hS e1) goes40 rfl rfl) (af.ai ⟨[(1,_),(13,B x_1)],[]⟩ rfl (ab.ite h rfl (fun _ h=>?_) (fun _ h=>?_)))
 ·refine ab.seq (ab.aa ?_)
  refine Oc oa (Oc oa ?_)
  refine af.ai ⟨[(2,.b (.one (.nil))),(3,I 1)],[]⟩ rfl (ab.ret (Fin.ax ?_))
  obtain rfl:=Option.some.inj h
  refine Fin.ag ⟨[(2,_),(3,_)],[]⟩ rfl (Fin.fj 2 101 2 40 rfl (by decide) rfl (Fin.ln 101 kr0 [.row 101,.one (.i 1)] (.inl rfl) rfl (.cons (.tmp rfl) (.cons (.tmp rfl) .nil)) rfl rfl rfl rfl ⟨rfl,rfl⟩))
 ·refine ab.skip (Fin.ag ⟨[(1,_)],[]⟩ rfl (Fin.then (ab.seq (ab.aa ?_))))
  refine Oc (ar jN rfl rfl) (Oc (bH und34 rfl (List.length_map _)) ?_)
  obtain ⟨x_2,e2,h⟩:=aP h
  refine Oc (oT (k:=102) (enc:=eI) ca e2 (by decide) (.cons .refl .nil) rfl rfl rfl) (Oc oa ?_)
  refine af.ai ⟨[(1,_),(4,.b (.row 102))],[(102,.row 3 1 (x_2.map eI))]⟩ rfl ?_
  obtain ⟨v3,h4,h⟩:=aP h
  refine ab.ek (v:=v3) (fun (order_3:List Int)=>⟨[(1,.b (.aK [.sl 6 (l0.map ak)])),(4,.b (.row 102))],[(102,.row 3 1 (order_3.map eI))]⟩) (fun z=>z) ?_ ?_
  ·refine ab.seq (ab.aa ?_)
   refine Oc om (Oc (eD eT rfl rfl (List.length_map _)) (Oc om ?_))
   refine af.ai ⟨[(1,_),(4,_),(18,I (x_2.length:Int)),(19,I 0)],[(102,_)]⟩ rfl (ab.block (ab.dq h4 (fh fun (order_4:List Int) (x_5:Int)=>⟨[(1,.b (.aK [.sl 6 (l0.map ak)])),(4,.b (.row 102)),(18,I (x_2.length:Int)),(19,I x_5)],[(102,.row 3 1 (order_4.map eI))]⟩) [1,4,18,19] [102] rfl ?_))
   rintro ⟨order_4,x_5⟩ o5 h6 hy7
   refine ab.seq (ab.aa ?_)
   refine Oc (bE rfl rfl) (af.ai ⟨[(1,_),(4,_),(18,_),(19,_),(20,B (decide (x_5 < (x_2.length:Int))))],[(102,_)]⟩ rfl (ab.seq (ab.ite h6 rfl (fun _ h6=>?_) (fun _ h6=>?_))))
   ·refine ab.skip (Fin.ag ⟨[(1,_),(4,_),(18,_),(19,_)],[(102,_)]⟩ rfl (Fin.then (ab.seq (ab.block (ab.seq (ab.aa ?_))))))
    refine Oc om (Oc oa ?_)
    refine af.ai ⟨[(1,_),(4,_),(5,I x_5),(18,_),(19,_)],[(102,_)]⟩ rfl (ab.aa (Oc om (Oc om (Oc om ?_))))
    obtain ⟨x_7,e8,h6⟩:=aP h6
    refine Oc (dh ca (ba e8) (iA e8) rfl rfl rfl rfl) (Oc (jB (i:=(x_5:Int).toNat) aQ rfl rfl rfl rfl (sm e8) (map_set _ _ _ _)) ?_)
    refine af.nil (Fin.aB (Fin.ag ⟨[(1,_),(4,_),(18,_),(19,_)],[(102,.row 3 1 ((order_4.set (x_5:Int).toNat x_5).map eI))]⟩ rfl (Fin.then (ab.aa ?_))))
    refine Oc (bW rfl rfl) (Oc om ?_)
    refine af.nil ?_
    exact Fin.cE [1,4,18,19] [102] (order_4.set (x_5:Int).toNat x_5,IntKind.i64.wrap (x_5 + 1)) (Option.some.inj h6) rfl
   ·refine ab.exit (Fin.aF ?_)
    obtain rfl:=hy7 _ (Option.some.inj h6).symm
    refine Fin.aF (Fin.a6 ?_)
    exact Fin.join [1,4] [102] order_4 rfl rfl
  ·rintro order_3 hv
   subst v3
   refine ab.seq (ab.aa ?_)
   refine Oc om (Oc (gh rfl) ?_)
   refine af.rA 102 rfl ?_
   obtain ⟨x_8,e9,h⟩:=aP h
   refine Oc (cZ (own_a:=[(102,_)]) ((jK e9).sw 1 102) goes42 rfl ⟨rfl,trivial⟩ rfl rfl) (af.rz 102 rfl (af.ai ⟨[(1,_),(4,_)],[(102,.row 3 1 (x_8.map eI))]⟩ rfl (ab.seq (ab.aa ?_))))
   refine Oc oa (af.ai ⟨[(1,_),(4,_),(6,.b (.one (.nil)))],[(102,_)]⟩ rfl (ab.seq (ab.aa ?_)))
   refine Oc oa (af.ai ⟨[(1,_),(4,_),(6,_),(7,.b (.one (.nil)))],[(102,_)]⟩ rfl ?_)
   obtain ⟨v10,h11,h⟩:=aP h
   refine ab.ek (v:=v10) (fun (out_9:List A2)=>⟨[(7,.b (.row 106))],[(106,.row 40 2 (out_9.map (dN .i64)))]⟩) (fun z=>z) ?_ ?_
   ·refine ab.seq (ab.aa ?_)
    refine Oc om (Oc (eD eT rfl rfl (List.length_map _)) (Oc om ?_))
    refine af.ai ⟨[(1,_),(6,_),(7,_),(30,.b (.row 102)),(31,I (x_8.length:Int)),(32,I 0)],[(102,_)]⟩ rfl (ab.block (ab.fj 6 104 1 3 rfl (by decide) rfl (ab.fj 7 106 2 40 rfl (by decide) rfl (ab.dq h11 (un3 fun (active_10:List Int) (out_11:List A2) (x_12:Int)=>⟨[(1,.b (.aK [.sl 6 (l0.map ak)])),(6,.b (.row 104)),(7,.b (.row 106)),(30,.b (.row 102)),(31,I (x_8.length:Int)),(32,I x_12)],[(102,.row 3 1 (x_8.map eI)),(104,.row 3 1 (active_10.map eI)),(106,.row 40 2 (out_11.map (dN .i64)))]⟩) [1,6,7,30,31,32] [102,104,106] rfl ?_))))
    rintro ⟨active_10,out_11,x_12⟩ o12 h13 hy14
    refine ab.seq (ab.aa ?_)
    refine Oc (bE rfl rfl) (af.ai ⟨[(1,_),(6,_),(7,_),(30,_),(31,_),(32,_),(33,B (decide (x_12 < (x_8.length:Int))))],[(102,_),(104,_),(106,_)]⟩ rfl (ab.seq (ab.ite h13 rfl (fun _ h13=>?_) (fun _ h13=>?_))))
    ·refine ab.skip (Fin.ag ⟨[(1,_),(6,_),(7,_),(30,_),(31,_),(32,_)],[(102,_),(104,_),(106,_)]⟩ rfl (Fin.then ?_))
     obtain ⟨v15,h16,h13⟩:=aP h13
     refine ab.ek (v:=v15) (fh fun (active_14:List Int) (out_15:List A2)=>⟨[(1,.b (.aK [.sl 6 (l0.map ak)])),(6,.b (.row 104)),(7,.b (.row 106)),(30,.b (.row 102)),(31,I (x_8.length:Int)),(32,I x_12)],[(102,.row 3 1 (x_8.map eI)),(104,.row 3 1 (active_14.map eI)),(106,.row 40 2 (out_15.map (dN .i64)))]⟩) (fun z=>z) ?_ ?_
     ·refine ab.block (ab.seq (ab.aa ?_))
      obtain ⟨x_16,e17,h16⟩:=aP h16
      refine Oc (dh ca (ba e17) (iA e17) rfl rfl rfl rfl) (Oc (fo (i:=(x_12:Int).toNat) (f:=0) aQ rfl rfl rfl (cD (e:=eI) e17) rfl) (Oc (aY (k:=107) tyZero3 rfl) (Oc (dH aQ rfl rfl rfl (Nat.le_of_ble_eq_true rfl) rfl) ?_)))
      refine af.fH 107 rfl (af.ai ⟨[(1,_),(6,_),(7,_),(9,.b (.aK [.i x_16])),(30,_),(31,_),(32,_)],[(102,_),(104,_),(106,_)]⟩ rfl (ab.seq (ab.aa ?_)))
      refine Oc om (Oc (gh rfl) ?_)
      obtain ⟨x_17,e18,h16⟩:=aP h16
      refine Oc (cZ (own_a:=[(104,_)]) ((iQ e18).sw 1 104) goes45 rfl ⟨rfl,trivial⟩ rfl rfl) (Oc oa ?_)
      refine af.ai ⟨[(1,_),(6,_),(7,_),(9,_),(30,_),(31,_),(32,_)],[(102,_),(104,.row 3 1 (x_17.map eI)),(106,_)]⟩ rfl ?_
      obtain ⟨v19,h20,h16⟩:=aP h16
      refine ab.ek (v:=v19) (fun (out_18:List A2)=>⟨[(1,.b (.aK [.sl 6 (l0.map ak)])),(6,.b (.row 104)),(7,.b (.row 106)),(9,.b (.aK [.i x_16])),(30,.b (.row 102)),(31,I (x_8.length:Int)),(32,I x_12)],[(102,.row 3 1 (x_8.map eI)),(104,.row 3 1 (x_17.map eI)),(106,.row 40 2 (out_18.map (dN .i64)))]⟩) (fun z=>z) ?_ ?_
      ·refine ab.seq (ab.aa ?_)
       refine Oc om (Oc (eD eT rfl rfl (List.length_map _)) (Oc om ?_))
       refine af.ai ⟨[(1,_),(6,_),(7,_),(9,_),(30,_),(31,_),(32,_),(39,.b (.row 104)),(40,I (x_17.length:Int)),(41,I 0)],[(102,_),(104,_),(106,_)]⟩ rfl (ab.block (ab.dq h20 (fh fun (out_19:List A2) (x_20:Int)=>⟨[(1,.b (.aK [.sl 6 (l0.map ak)])),(6,.b (.row 104)),(7,.b (.row 106)),(9,.b (.aK [.i x_16])),(30,.b (.row 102)),(31,I (x_8.length:Int)),(32,I x_12),(39,.b (.row 104)),(40,I (x_17.length:Int)),(41,I x_20)],[(102,.row 3 1 (x_8.map eI)),(104,.row 3 1 (x_17.map eI)),(106,.row 40 2 (out_19.map (dN .i64)))]⟩) [1,6,7,9,30,31,32,39,40,41] [102,104,106] rfl ?_))
       rintro ⟨out_19,x_20⟩ o21 h22 hy23
       refine ab.seq (ab.aa ?_)
       refine Oc (bE rfl rfl) (af.ai ⟨[(1,_),(6,_),(7,_),(9,_),(30,_),(31,_),(32,_),(39,_),(40,_),(41,_),(42,B (decide (x_20 < (x_17.length:Int))))],[(102,_),(104,_),(106,_)]⟩ rfl (ab.seq (ab.ite h22 rfl (fun _ h22=>?_) (fun _ h22=>?_))))
       ·refine ab.skip (Fin.ag ⟨[(1,_),(6,_),(7,_),(9,_),(30,_),(31,_),(32,_),(39,_),(40,_),(41,_)],[(102,_),(104,_),(106,_)]⟩ rfl (Fin.then ?_))
        obtain ⟨v24,h25,h22⟩:=aP h22
        refine ab.ek (v:=v24) (fun (out_22:List A2)=>⟨[(1,.b (.aK [.sl 6 (l0.map ak)])),(6,.b (.row 104)),(7,.b (.row 106)),(9,.b (.aK [.i x_16])),(30,.b (.row 102)),(31,I (x_8.length:Int)),(32,I x_12),(39,.b (.row 104)),(40,I (x_17.length:Int)),(41,I x_20)],[(102,.row 3 1 (x_8.map eI)),(104,.row 3 1 (x_17.map eI)),(106,.row 40 2 (out_22.map (dN .i64)))]⟩) (fun z=>z) ?_ ?_
        ·refine ab.block (ab.seq (ab.aa ?_))
         obtain ⟨x_23,e26,h25⟩:=aP h25
         refine Oc (dh ca (ba e26) (iA e26) rfl rfl rfl rfl) (Oc (fo (i:=(x_20:Int).toNat) (f:=0) aQ rfl rfl rfl (cD (e:=eI) e26) rfl) (Oc oa ?_))
         refine af.ai ⟨[(1,_),(6,_),(7,_),(9,_),(11,I x_23),(30,_),(31,_),(32,_),(39,_),(40,_),(41,_)],[(102,_),(104,_),(106,_)]⟩ rfl (ab.seq ?_)
         obtain ⟨x_24,e27,h25⟩:=aP h25
         obtain ⟨x_25,e28,h25⟩:=aP h25
         obtain ⟨x_26,e29,h25⟩:=aP h25
         refine ab.bZ mixed 9 [.b (.one (.sl 6 (l0.map ak))),I x_16,.b (.aK (ak x_24)),.b (.agg (ak x_24)),.b (.one (.sl 6 (l0.map ak))),I x_23,.b (.aK (ak x_25)),.b (.agg (ak x_25)),B x_26] [1,6,7,9,11,30,31,32,39,40,41,53] [102,104,106] (s':=⟨[(1,_),(6,_),(7,_),(9,_),(11,_),(30,_),(31,_),(32,_),(39,_),(40,_),(41,_),(53,B x_26)],[(102,_),(104,_),(106,_)]⟩) rfl ⟨fun _=>.p (ar jN rfl rfl),fun _=>.p (ar aQ rfl rfl),fun _=>.p (bo kK (ba e27) (cD (e:=ak) e27) rfl rfl),fun _=>.p (ck ay rfl rfl rfl),fun _=>.p (ar jN rfl rfl),fun _=>.p om,fun _=>.p (bo kK (ba e28) (cD (e:=ak) e28) rfl rfl),fun _=>.p (ck ay rfl rfl rfl),fun _=>.p (aj (cx e29) kP rfl rfl),trivial⟩ rfl rfl (ab.ite h25 rfl (fun _ h25=>?_) (fun _ h25=>?_))
         ·refine ab.aa (Oc om (Oc (ar aQ rfl rfl) (Oc om (Oc (sx rfl rfl) (Oc (ar aQ rfl rfl) (Oc om ?_))))))
          refine af.ag ⟨[(1,_),(6,_),(7,_),(9,_),(30,_),(31,_),(32,_),(39,_),(40,_),(41,_),(54,.b (.row 106)),(57,I (min x_16 x_23)),(58,I x_16),(59,I x_23)],[(102,_),(104,_),(106,_)]⟩ rfl (Oc (qj rfl rfl) (Oc (dw eC rfl rfl) (Oc (cp (k:=108) (es:=[(⟨min x_16 x_23,max x_16 x_23⟩:A2)].map (dN .i64)) gU rfl rfl (cF fun _=>rfl) rfl (by decide) (by decide) rfl) ?_)))
          obtain ⟨x_27,e30,h25⟩:=aP h25
          refine Oc (fL gU (pj e30) (ph e30) rfl rfl rfl rfl (lx e30) rfl) (Oc oa ?_)
          refine af.nil (Fin.aB ?_)
          exact Fin.join [1,6,7,9,30,31,32,39,40,41] [102,104,106] x_27 (Option.some.inj h25) rfl
         ·refine ab.skip (Fin.aB ?_)
          exact Fin.join [1,6,7,9,30,31,32,39,40,41] [102,104,106] out_19 (Option.some.inj h25) rfl
        ·rintro out_22 hv
         subst v24
         refine ab.aa (Oc (bW rfl rfl) (Oc om ?_))
         refine af.nil ?_
         exact Fin.cE [1,6,7,9,30,31,32,39,40,41] [102,104,106] (out_22,IntKind.i64.wrap (x_20 + 1)) (Option.some.inj h22) rfl
       ·refine ab.exit (Fin.aF ?_)
        obtain rfl:=hy23 _ (Option.some.inj h22).symm
        refine Fin.aF (Fin.a6 ?_)
        exact Fin.join [1,6,7,9,30,31,32] [102,104,106] out_19 rfl rfl
      ·rintro out_18 hv
       subst v19
       refine ab.aa (Oc om (Oc (ar aQ rfl rfl) (Oc (cp (k:=109) (es:=[x_16].map eI) ca rfl rfl (cF fun _=>rfl) rfl (by decide) (by decide) rfl) ?_)))
       obtain ⟨x_28,e31,h16⟩:=aP h16
       refine Oc (fL ca (pj e31) (ph e31) rfl rfl rfl rfl (lx e31) rfl) (Oc oa ?_)
       refine af.nil (Fin.aB ?_)
       exact Fin.join [1,6,7,30,31,32] [102,104,106] (x_28,out_18) (Option.some.inj h16) rfl
     ·rintro ⟨active_14,out_15⟩ hv
      subst v15
      refine ab.aa (Oc (bW rfl rfl) (Oc om ?_))
      refine af.nil ?_
      exact Fin.cE [1,6,7,30,31,32] [102,104,106] (active_14,out_15,IntKind.i64.wrap (x_12 + 1)) (Option.some.inj h13) rfl
    ·refine ab.exit (Fin.aF ?_)
     obtain rfl:=hy14 _ (Option.some.inj h13).symm
     refine Fin.aF (Fin.a6 ?_)
     exact Fin.join [7] [106] out_11 rfl rfl
   ·rintro out_9 hv
    subst v10
    refine ab.seq (ab.aa ?_)
    refine Oc om (af.rA 106 rfl ?_)
    obtain ⟨x_29,e32,h⟩:=aP h
    refine Oc (cZ (own_a:=[(106,_)]) ((jM e32).sw 1 106) goes47 rfl ⟨rfl,trivial⟩ rfl rfl) (af.rz 106 rfl (af.ai ⟨[(7,_)],[(106,.row 40 2 (x_29.map (dN .i64)))]⟩ rfl (ab.seq (ab.aa ?_))))
    refine Oc om (Oc oa (Oc oa ?_))
    refine af.ai ⟨[(2,.b (.row 106)),(3,I 0)],[(106,_)]⟩ rfl (ab.ret ?_)
    obtain rfl:=Option.some.inj h
    refine Fin.ag ⟨[(2,_),(3,_)],[(106,_)]⟩ rfl (Fin.ln 106 kr0 [.row 106,.one (.i 0)] (.inl rfl) rfl (.cons (.tmp rfl) (.cons (.tmp rfl) .nil)) rfl rfl rfl rfl ⟨rfl,rfl⟩)
def bJ (F:Nat) (a0:List A2) (b0:List A2):Option Bool :=
 if (decide ((a0.length:Int) ≠ (b0.length:Int))) = true then (some false) else (Option.bind (iter F (fun i_1=>if (decide (i_1 < (a0.length:Int))) = true then ((bj a0 i_1).bind fun x_2=>(bj b0 i_1).bind fun x_3=>if (decide (x_2 ≠ x_3)) = true then (some (.inr (.inr false))) else (some (.inl (IntKind.i64.wrap (i_1 + 1))))) else (some (.inr (.inl ())))) 0) (cq (fun _=>some true) (fun y=>some y)))
theorem cy {F:Nat} {a0:List A2} {b0:List A2} {r:Bool} (h:bJ F a0 b0 = some r):ao Tryz.prog [] 22 [] [.one (.sl 2 (a0.map (dN .i64))),.one (.sl 2 (b0.map (dN .i64)))] (Is [] (.b (.one (.bool r)))):=by
 unfold bJ at h
 refine ao.intro 26 Tryz.func22 Tryz.ntmps22 rfl (by simp) fun E=>?_
 show ab _ E ⟨26,[],[],[]⟩ _ ⟨[(0,.b (.one (.sl 2 (a0.map (dN .i64))))),(1,.b (.one (.sl 2 (b0.map (dN .i64)))))],[]⟩ _
 refine ab.seq (ab.aa ?_)
 refine Oc oa (af.ai ⟨[(0,.b (.one (.sl 2 (a0.map (dN .i64))))),(1,.b (.one (.sl 2 (b0.map (dN .i64)))))],[]⟩ rfl (ab.seq (ab.seq (ab.aa ?_))))
 refine Oc om (Oc (bH qT rfl (List.length_map _)) (Oc om (Oc (bH qT rfl (List.length_map _)) (Oc (jo rfl rfl) ?_))))
 refine af.ai ⟨[(0,_),(1,_),(10,B (decide ((a0.length:Int) ≠ (b0.length:Int))))],[]⟩ rfl (ab.ite h rfl (fun _ h=>?_) (fun _ h=>?_))
 ·refine ab.seq (ab.aa ?_)
  refine Oc oa (af.ai ⟨[(4,B false)],[]⟩ rfl (ab.ret (Fin.ax ?_)))
  obtain rfl:=Option.some.inj h
  refine Fin.ag ⟨[(4,_)],[]⟩ rfl (Fin.av [.one (.bool false)] (.inl rfl) rfl (.cons (.tmp rfl) .nil) ⟨rfl,rfl⟩)
 ·refine ab.skip (Fin.ag ⟨[(0,_),(1,_)],[]⟩ rfl (Fin.then ?_))
  obtain ⟨v1,h2,h⟩:=aP h
  refine ab.ek (v:=v1) (fun (_:Unit)=>⟨[],[]⟩) (fun z=>.inl z) ?_ ?_
  ·refine ab.seq (ab.aa ?_)
   refine Oc oa (af.ai ⟨[(0,_),(1,_),(5,I 0)],[]⟩ rfl (ab.block (ab.dq h2 (fun (i_1:Int)=>⟨[(0,.b (.one (.sl 2 (a0.map (dN .i64))))),(1,.b (.one (.sl 2 (b0.map (dN .i64))))),(5,I i_1)],[]⟩) [0,1,5] [] rfl ?_)))
   rintro i_1 o3 h4 hy5
   refine ab.seq (ab.seq (ab.aa ?_))
   refine Oc om (Oc om (Oc (bH qT rfl (List.length_map _)) (Oc (bE rfl rfl) ?_)))
   refine af.ai ⟨[(0,_),(1,_),(5,_),(14,B (decide (i_1 < (a0.length:Int))))],[]⟩ rfl (ab.ite h4 rfl (fun _ h4=>?_) (fun _ h4=>?_))
   ·refine ab.skip (Fin.ag ⟨[(0,_),(1,_),(5,_)],[]⟩ rfl (Fin.then (ab.seq (ab.block (ab.seq ?_)))))
    refine ab.ag ⟨[(0,_),(1,_),(5,_)],[]⟩ rfl ?_
    obtain ⟨x_2,e6,h4⟩:=aP h4
    obtain ⟨x_3,e7,h4⟩:=aP h4
    refine ab.bZ mixed 9 [.b (.one (.sl 2 (a0.map (dN .i64)))),I i_1,.b (.aK ((dN .i64) x_2)),.b (.agg ((dN .i64) x_2)),.b (.one (.sl 2 (b0.map (dN .i64)))),I i_1,.b (.aK ((dN .i64) x_3)),.b (.agg ((dN .i64) x_3)),B (decide (x_2 ≠ x_3))] [0,1,5,25] [] (s':=⟨[(0,_),(1,_),(5,_),(25,B (decide (x_2 ≠ x_3)))],[]⟩) rfl ⟨fun _=>.p om,fun _=>.p om,fun _=>.p (bo gU (ba e6) (cD (e:=(dN .i64)) e6) rfl rfl),fun _=>.p (ck mJ rfl rfl rfl),fun _=>.p om,fun _=>.p om,fun _=>.p (bo gU (ba e7) (cD (e:=(dN .i64)) e7) rfl rfl),fun _=>.p (ck mJ rfl rfl rfl),fun _=>.p (qG (eqAgg40 x_2 x_3) rfl rfl neg_dec),trivial⟩ rfl rfl (ab.ite h4 rfl (fun _ h4=>?_) (fun _ h4=>?_))
    ·refine ab.seq (ab.aa ?_)
     refine Oc oa (af.ai ⟨[(4,B false)],[]⟩ rfl (ab.ret (Fin.aV (Fin.ax ?_))))
     obtain rfl:=hy5 _ (Option.some.inj h4).symm
     refine Fin.ax (Fin.aV (Fin.ax ?_))
     obtain rfl:=Option.some.inj h
     refine Fin.ag ⟨[(4,_)],[]⟩ rfl (Fin.av [.one (.bool false)] (.inl rfl) rfl (.cons (.tmp rfl) .nil) ⟨rfl,rfl⟩)
    ·refine ab.skip (Fin.aB (Fin.ag ⟨[(0,_),(1,_),(5,_)],[]⟩ rfl (Fin.then (ab.aa ?_))))
     refine Oc om (Oc (bW rfl rfl) (Oc oa ?_))
     refine af.nil ?_
     exact Fin.cE [0,1,5] [] (IntKind.i64.wrap (i_1 + 1)) (Option.some.inj h4) rfl
   ·refine ab.exit (Fin.aF ?_)
    obtain rfl:=hy5 _ (Option.some.inj h4).symm
    refine Fin.aF (Fin.a6 ?_)
    exact Fin.join [] [] () rfl rfl
  ·rintro _ hv
   subst v1
   refine ab.seq (ab.aa ?_)
   refine Oc oa (af.ai ⟨[(4,B true)],[]⟩ rfl (ab.ret ?_))
   obtain rfl:=Option.some.inj h
   refine Fin.ag ⟨[(4,_)],[]⟩ rfl (Fin.av [.one (.bool true)] (.inl rfl) rfl (.cons (.tmp rfl) .nil) ⟨rfl,rfl⟩)
def jE (F:Nat):Option cW :=
 some (⟨(⟨.leaf,50,48,49⟩:hX),(⟨.leaf,51,48,49⟩:hX)⟩:cW)
theorem jI {F:Nat} {r:cW} (h:jE F = some r):ao Tryz.prog [] 23 [] [] (Is [] (.b (.agg (aH r)))):=by
 unfold jE at h
 refine ao.intro 14 Tryz.func23 Tryz.ntmps23 rfl (by simp) fun E=>?_
 show ab _ E ⟨14,[],[],[]⟩ _ ⟨[],[]⟩ _
 refine ab.seq (ab.aa ?_)
 refine Oc (aY (k:=101) fa rfl) (af.ai ⟨[(0,Pt 101 0)],[(101,.box 49 [.tr ae (.leaf),.cO 0,.cO 0,.cO 0,.tr ae (.leaf),.cO 0,.cO 0,.cO 0])]⟩ rfl (ab.seq (ab.aa ?_)))
 refine Oc oa (af.ai ⟨[(0,_),(1,.b (.one (.raw (.func (.func 48) #[] #[]))))],[(101,_)]⟩ rfl (ab.seq (ab.aa ?_)))
 refine Oc oa (af.ai ⟨[(0,_),(1,_),(2,.b (.one (.raw (.func (.func 49) #[] #[]))))],[(101,_)]⟩ rfl (ab.seq (ab.aa ?_)))
 refine Oc oa (af.ai ⟨[(0,_),(1,_),(2,_),(3,.b (.one (.raw (.func (.func 50) #[] #[]))))],[(101,_)]⟩ rfl (ab.seq (ab.aa ?_)))
 refine Oc oa (af.ai ⟨[(0,_),(1,_),(2,_),(3,_),(4,.b (.one (.raw (.func (.func 51) #[] #[]))))],[(101,_)]⟩ rfl (ab.seq (ab.aa ?_)))
 refine Oc om (Oc om (Oc om (Oc (cg nX rfl rfl) (Oc om (Oc om ?_)))))
 refine Oc om (af.ag ⟨[(0,_),(8,.b (.agg [.tr ae (.leaf),.raw (.func (.func 50) #[] #[]),.raw (.func (.func 48) #[] #[]),.raw (.func (.func 49) #[] #[])])),(9,.b (.one (.raw (.func (.func 51) #[] #[])))),(10,.b (.one (.raw (.func (.func 48) #[] #[])))),(11,.b (.one (.raw (.func (.func 49) #[] #[]))))],[(101,_)]⟩ rfl (Oc (cg nX rfl rfl) (Oc (cg ez rfl rfl) (Oc (aG aS rfl rfl rfl rfl (Nat.le_of_ble_eq_true rfl) rfl) ?_))))
 refine af.ai ⟨[(0,_)],[(101,.box 49 [.tr ae (.leaf),.raw (.func (.func 50) #[] #[]),.raw (.func (.func 48) #[] #[]),.raw (.func (.func 49) #[] #[]),.tr ae (.leaf),.raw (.func (.func 51) #[] #[]),.raw (.func (.func 48) #[] #[]),.raw (.func (.func 49) #[] #[])])]⟩ rfl (ab.ret ?_)
 obtain rfl:=Option.some.inj h
 refine Fin.ag ⟨[(0,_)],[(101,_)]⟩ rfl (Fin.av [.agg [.tr ae (.leaf),.raw (.func (.func 50) #[] #[]),.raw (.func (.func 48) #[] #[]),.raw (.func (.func 49) #[] #[]),.tr ae (.leaf),.raw (.func (.func 51) #[] #[]),.raw (.func (.func 48) #[] #[]),.raw (.func (.func 49) #[] #[])]] (.inl rfl) rfl (.cons (.agg aS rfl rfl rfl rfl) .nil) ⟨rfl,rfl⟩)
def b9 (F:Nat) (s0:cW) (id0:Int):Option (entry × Bool) :=
 Option.bind (iter F (fun n_1=>if (!n_1.cP) = true then (Option.bind (iy n_1) (fun nd_2=>if (decide (id0 = nd_2.1.x.id)) = true then (Option.bind (iy n_1) (fun nd_3=>some (.inr (.inr (nd_3.1.x,true))))) else (Option.bind (iy n_1) (fun nd_4=>if (decide (id0 < nd_4.1.x.id)) = true then (Option.bind (iy n_1) (fun nd_5=>some (.inl nd_5.2.1))) else (Option.bind (iy n_1) (fun nd_6=>some (.inl nd_6.2.2))))))) else (some (.inr (.inl ())))) s0.ids.root) (cq (fun _=>eb (⟨0,(⟨A3.zero,A3.zero⟩:b5)⟩:entry) fun x_7=>some (x_7,false)) (fun y=>some y))
theorem ey {F:Nat} {s0:cW} {id0:Int} {r:entry × Bool} (h:b9 F s0 id0 = some r):ao Tryz.prog [] 54 [] [.agg (aH s0),.one (.i id0)] (Is [] (.dY [.agg (an r.1),.one (.bool r.2)])):=by
 unfold b9 at h
 refine ao.intro 41 Tryz.func54 Tryz.ntmps54 rfl (by simp) fun E=>?_
 show ab _ E ⟨41,[],[],[]⟩ _ ⟨[(0,.b (.agg (aH s0))),(1,I id0)],[]⟩ _
 refine ab.seq (ab.aa ?_)
 refine Oc (bK (k:=101) rfl rfl) (Oc (aY (k:=102) gv rfl) (Oc oa ?_))
 refine af.ai ⟨[(1,I id0),(2,Pt 101 0),(4,Pt 102 0)],[(101,.box 49 (aH s0)),(102,.box 87 (.i 0 :: ((cC .i64) A3.zero ++ ((cC .i64) A3.zero))))]⟩ rfl ?_
 obtain ⟨v1,h2,h⟩:=aP h
 refine ab.ek (v:=v1) (fun (_:Unit)=>⟨[(4,Pt 102 0)],[(102,.box 87 (.i 0 :: ((cC .i64) A3.zero ++ ((cC .i64) A3.zero))))]⟩) (fun z=>.inl z) ?_ ?_
 ·refine ab.seq (ab.aa ?_)
  refine Oc (au jU rfl rfl) (Oc (au fk rfl rfl) (Oc (aJ bf rfl rfl rfl) (Oc oa ?_)))
  refine af.ai ⟨[(1,_),(4,_),(6,.b (.one (.tr ae s0.ids.root)))],[(102,_)]⟩ rfl (ab.block (ab.dq h2 (fun (n_1:cw a8)=>⟨[(1,I id0),(4,Pt 102 0),(6,.b (.one (.tr ae n_1)))],[(102,.box 87 (.i 0 :: ((cC .i64) A3.zero ++ ((cC .i64) A3.zero))))]⟩) [1,4,6] [102] rfl ?_))
  rintro n_1 o3 h4 hy5
  refine ab.seq (ab.seq (ab.aa ?_))
  refine Oc om (Oc (pT kJ rfl) ?_)
  refine af.ai ⟨[(1,_),(4,_),(6,_),(11,B (!n_1.cP))],[(102,_)]⟩ rfl (ab.ite h4 rfl (fun _ h4=>?_) (fun _ h4=>?_))
  ·refine ab.skip (Fin.ag ⟨[(1,_),(4,_),(6,_)],[(102,_)]⟩ rfl (Fin.then (ab.block (ab.block (ab.seq (ab.aa ?_))))))
   refine Oc om (Oc om ?_)
   obtain ⟨nd_2,e6,h4⟩:=aP h4
   refine Oc (aD e6 rfl rfl) (Oc (aC dG rfl rfl) (Oc (aC dv rfl rfl) (Oc (ar aQ rfl rfl) (Oc (dd rfl rfl) (Oc oa ?_)))))
   refine af.ai ⟨[(1,_),(4,_),(6,_),(16,B (decide (id0 = nd_2.1.x.id)))],[(102,_)]⟩ rfl (ab.ite h4 rfl (fun _ h4=>?_) (fun _ h4=>?_))
   ·refine ab.seq (ab.aa ?_)
    refine Oc om ?_
    obtain ⟨nd_3,e7,h4⟩:=aP h4
    refine Oc (aD e7 rfl rfl) (Oc (aC dG rfl rfl) (Oc (ck bg rfl rfl rfl) (Oc (aG bg rfl rfl rfl rfl (Nat.le_of_ble_eq_true rfl) rfl) (Oc oa ?_))))
    refine af.ai ⟨[(4,_),(5,B true)],[(102,.box 87 (an nd_3.1.x))]⟩ rfl (ab.ret (Fin.aV (Fin.aV ?_)))
    obtain rfl:=hy5 _ (Option.some.inj h4).symm
    refine Fin.ax (Fin.aV (Fin.ax ?_))
    obtain rfl:=Option.some.inj h
    refine Fin.ag ⟨[(4,_),(5,_)],[(102,_)]⟩ rfl (Fin.av [.agg (an nd_3.1.x),.one (.bool true)] (.inl rfl) rfl (.cons (.agg bg rfl rfl rfl rfl) (.cons (.tmp rfl) .nil)) ⟨rfl,rfl⟩)
   ·refine ab.seq (ab.aa ?_)
    refine Oc om (Oc om ?_)
    obtain ⟨nd_4,e8,h4⟩:=aP h4
    refine Oc (aD e8 rfl rfl) (Oc (aC dG rfl rfl) (Oc (aC dv rfl rfl) (Oc (ar aQ rfl rfl) (Oc (bE rfl rfl) (Oc oa ?_)))))
    refine af.ai ⟨[(1,_),(4,_),(6,_),(28,B (decide (id0 < nd_4.1.x.id)))],[(102,_)]⟩ rfl (ab.ite h4 rfl (fun _ h4=>?_) (fun _ h4=>?_))
    ·refine ab.aa (Oc om ?_)
     obtain ⟨nd_5,e9,h4⟩:=aP h4
     refine Oc (aD e9 rfl rfl) (Oc (aC dg rfl rfl) (Oc (ar bf rfl rfl) (Oc oa ?_)))
     refine af.nil (Fin.aB (Fin.aB ?_))
     exact Fin.cE [1,4,6] [102] nd_5.2.1 (Option.some.inj h4) rfl
    ·refine ab.aa (Oc om ?_)
     obtain ⟨nd_6,e10,h4⟩:=aP h4
     refine Oc (aD e10 rfl rfl) (Oc (aC df rfl rfl) (Oc (ar bf rfl rfl) (Oc oa ?_)))
     refine af.nil (Fin.aB (Fin.aB ?_))
     exact Fin.cE [1,4,6] [102] nd_6.2.2 (Option.some.inj h4) rfl
  ·refine ab.exit (Fin.aF ?_)
   obtain rfl:=hy5 _ (Option.some.inj h4).symm
   refine Fin.aF (Fin.a6 ?_)
   exact Fin.join [4] [102] () rfl rfl
 ·rintro _ hv
  subst v1
  refine ab.seq (ab.aa ?_)
  refine af.lj an h rfl (cg nW rfl rfl) (fun x_7 h=>?_)
  refine Oc (aG bg rfl rfl rfl rfl (Nat.le_of_ble_eq_true rfl) rfl) (Oc oa ?_)
  refine af.ai ⟨[(4,_),(5,B false)],[(102,.box 87 (an x_7))]⟩ rfl (ab.ret ?_)
  obtain rfl:=Option.some.inj h
  refine Fin.ag ⟨[(4,_),(5,_)],[(102,_)]⟩ rfl (Fin.av [.agg (an x_7),.one (.bool false)] (.inl rfl) rfl (.cons (.agg bg rfl rfl rfl rfl) (.cons (.tmp rfl) .nil)) ⟨rfl,rfl⟩)
def dz (F:Nat) (s0:List (cw a8)) (f0:Nat):Option Int :=
 Option.bind (iter F (fun x_1=>if (decide (x_1 < (s0.length:Int))) = true then ((bj s0 x_1).bind fun x_2=>(gm F f0 x_2).bind fun x_3=>if x_3 = true then (some (.inr (.inr x_1))) else (some (.inl (IntKind.i64.wrap (x_1 + 1))))) else (some (.inr (.inl ())))) 0) (cq (fun _=>some (-1)) (fun y=>some y))
theorem hC {F:Nat} {s0:List (cw a8)} {f0:Nat} {r:Int} (h:dz F s0 f0 = some r):ao Tryz.prog [] 131 [] [.one (.sl 1 (s0.map (mj ae))),.one (.raw (.func (.func f0) #[] #[]))] (Is [] (.b (.one (.i r)))):=by
 unfold dz at h
 refine ao.intro 19 Tryz.func131 Tryz.ntmps131 rfl (by simp) fun E=>?_
 show ab _ E ⟨19,[],[],[]⟩ _ ⟨[(0,.b (.one (.sl 1 (s0.map (mj ae))))),(1,.b (.one (.raw (.func (.func f0) #[] #[]))))],[]⟩ _
 refine ab.seq (ab.aa ?_)
 refine Oc oa (af.ai ⟨[(0,.b (.one (.sl 1 (s0.map (mj ae))))),(1,.b (.one (.raw (.func (.func f0) #[] #[]))))],[]⟩ rfl ?_)
 obtain ⟨v1,h2,h⟩:=aP h
 refine ab.ek (v:=v1) (fun (_:Unit)=>⟨[],[]⟩) (fun z=>.inl z) ?_ ?_
 ·refine ab.seq (ab.aa ?_)
  refine Oc om (Oc (bH qf rfl (List.length_map _)) (Oc om ?_))
  refine af.ai ⟨[(0,_),(1,_),(7,I (s0.length:Int)),(8,I 0)],[]⟩ rfl (ab.block (ab.dq h2 (fun (x_1:Int)=>⟨[(0,.b (.one (.sl 1 (s0.map (mj ae))))),(1,.b (.one (.raw (.func (.func f0) #[] #[])))),(7,I (s0.length:Int)),(8,I x_1)],[]⟩) [0,1,7,8] [] rfl ?_))
  rintro x_1 o3 h4 hy5
  refine ab.seq (ab.aa ?_)
  refine Oc (bE rfl rfl) (af.ai ⟨[(0,_),(1,_),(7,_),(8,_),(9,B (decide (x_1 < (s0.length:Int))))],[]⟩ rfl (ab.seq (ab.ite h4 rfl (fun _ h4=>?_) (fun _ h4=>?_))))
  ·refine ab.skip (Fin.ag ⟨[(0,_),(1,_),(7,_),(8,_)],[]⟩ rfl (Fin.then (ab.seq (ab.block (ab.seq (ab.aa ?_))))))
   refine Oc om (Oc oa ?_)
   refine af.ai ⟨[(0,_),(1,_),(5,I x_1),(7,_),(8,_)],[]⟩ rfl (ab.seq (ab.aa ?_))
   refine Oc om (Oc om (Oc om ?_))
   obtain ⟨x_2,e6,h4⟩:=aP h4
   refine Oc (bo iC (ba e6) (cD (e:=(mj ae)) e6) rfl rfl) (Oc (ar bf rfl rfl) ?_)
   obtain ⟨x_3,e7,h4⟩:=aP h4
   refine Oc (il (lE e7) (lF e7) rfl rfl rfl) (af.ai ⟨[(0,_),(1,_),(5,_),(7,_),(8,_),(16,B x_3)],[]⟩ rfl (ab.ite h4 rfl (fun _ h4=>?_) (fun _ h4=>?_)))
   ·refine ab.seq (ab.aa ?_)
    refine Oc om (Oc oa ?_)
    refine af.ai ⟨[(4,I x_1)],[]⟩ rfl (ab.ret (Fin.aV (Fin.ax ?_)))
    obtain rfl:=hy5 _ (Option.some.inj h4).symm
    refine Fin.ax (Fin.aV (Fin.ax ?_))
    obtain rfl:=Option.some.inj h
    refine Fin.ag ⟨[(4,_)],[]⟩ rfl (Fin.av [.one (.i x_1)] (.inl rfl) rfl (.cons (.tmp rfl) .nil) ⟨rfl,rfl⟩)
   ·refine ab.skip (Fin.aB (Fin.ag ⟨[(0,_),(1,_),(7,_),(8,_)],[]⟩ rfl (Fin.then (ab.aa ?_))))
    refine Oc (bW rfl rfl) (Oc om ?_)
    refine af.nil ?_
    exact Fin.cE [0,1,7,8] [] (IntKind.i64.wrap (x_1 + 1)) (Option.some.inj h4) rfl
  ·refine ab.exit (Fin.aF ?_)
   obtain rfl:=hy5 _ (Option.some.inj h4).symm
   refine Fin.aF (Fin.a6 ?_)
   exact Fin.join [] [] () rfl rfl
 ·rintro _ hv
  subst v1
  refine ab.seq (ab.aa ?_)
  refine Oc oa (af.ai ⟨[(4,I (-1))],[]⟩ rfl (ab.ret ?_))
  obtain rfl:=Option.some.inj h
  refine Fin.ag ⟨[(4,_)],[]⟩ rfl (Fin.av [.one (.i (-1))] (.inl rfl) rfl (.cons (.tmp rfl) .nil) ⟨rfl,rfl⟩)
def dp (F:Nat) (del0:Nat) (s0:List (cw a8)):Option (List (cw a8)) :=
 (dz F s0 del0).bind fun x_1=>if (decide (x_1 = (-1))) = true then (some s0) else (Option.bind (iter F (un3 fun s_4 i_5 j_6=>if (decide (j_6 < (s_4.length:Int))) = true then (Option.bind ((bj s_4 j_6).bind fun x_11=>(gm F del0 x_11).bind fun x_12=>if (!x_12) = true then ((bj s_4 i_5).bind fun x_13=>some (s_4.set (i_5:Int).toNat x_11,IntKind.i64.wrap (i_5 + 1))) else (some (s_4,i_5))) (fh fun s_9 i_10=>some (.inl (s_9,i_10,IntKind.i64.wrap (j_6 + 1))))) else (some (.inr (s_4,i_5)))) (s0,x_1,IntKind.i64.wrap (x_1 + 1))) (fh fun s_2 i_3=>Option.bind (clr? (.leaf:cw a8) s_2 i_3) (fun z_14=>(mR z_14 i_3).bind fun x_15=>some x_15)))
theorem gG {F:Nat} {del0:Nat} {s0:List (cw a8)} {r:(List (cw a8))} (h:dp F del0 s0 = some r):ao Tryz.prog [] 122 [(1,.row 42 1 (s0.map (mj ae)))] [.row 1,.one (.raw (.func (.func del0) #[] #[]))] (Is [(1,.row 42 1 (r.map (mj ae)))] (.b (.row 1))):=by
 unfold dp at h
 refine ao.intro 42 Tryz.func122 Tryz.ntmps122 rfl (by simp) fun E=>?_
 show ab _ E ⟨42,[],[1],[]⟩ _ ⟨[(0,.b (.row 1)),(1,.b (.one (.raw (.func (.func del0) #[] #[]))))],[(1,.row 42 1 (s0.map (mj ae)))]⟩ _
 refine ab.seq (ab.aa ?_)
 refine Oc oa (af.ai ⟨[(0,.b (.row 1)),(1,.b (.one (.raw (.func (.func del0) #[] #[]))))],[(1,.row 42 1 (s0.map (mj ae)))]⟩ rfl (ab.seq (ab.aa ?_)))
 refine Oc om (Oc om ?_)
 obtain ⟨x_1,e1,h⟩:=aP h
 refine Oc (ju (hC e1) goes131 rfl CP.pF) (Oc oa ?_)
 refine af.ai ⟨[(0,_),(1,_),(5,I x_1)],[(1,_)]⟩ rfl (ab.seq (ab.seq (ab.aa ?_)))
 refine Oc om (Oc (dd rfl rfl) ?_)
 refine af.ai ⟨[(0,_),(1,_),(5,_),(12,B (decide (x_1 = (-1))))],[(1,_)]⟩ rfl (ab.ite h rfl (fun _ h=>?_) (fun _ h=>?_))
 ·refine ab.seq (ab.aa ?_)
  refine Oc om (Oc oa ?_)
  refine af.ai ⟨[(4,.b (.row 1))],[(1,_)]⟩ rfl (ab.ret (Fin.ax ?_))
  obtain rfl:=Option.some.inj h
  refine Fin.ag ⟨[(4,_)],[(1,_)]⟩ rfl ?_
  exact Fin.result [.row 1] (.inl rfl) rfl (.cons (.tmp rfl) .nil) ⟨rfl,rfl⟩
 ·refine ab.skip (Fin.ag ⟨[(0,_),(1,_),(5,_)],[(1,_)]⟩ rfl (Fin.then ?_))
  obtain ⟨v2,h3,h⟩:=aP h
  refine ab.ek (v:=v2) (fh fun (s_2:List (cw a8)) (i_3:Int)=>⟨[(0,.b (.row 1)),(5,I i_3)],[(1,.row 42 1 (s_2.map (mj ae)))]⟩) (fun z=>z) ?_ ?_
  ·refine ab.seq (ab.aa ?_)
   refine Oc om (Oc (bW rfl rfl) (Oc oa ?_))
   refine af.ai ⟨[(0,_),(1,_),(5,_),(6,I (IntKind.i64.wrap (x_1 + 1)))],[(1,_)]⟩ rfl (ab.block (ab.dq h3 (un3 fun (s_4:List (cw a8)) (i_5:Int) (j_6:Int)=>⟨[(0,.b (.row 1)),(1,.b (.one (.raw (.func (.func del0) #[] #[])))),(5,I i_5),(6,I j_6)],[(1,.row 42 1 (s_4.map (mj ae)))]⟩) [0,1,5,6] [1] rfl ?_))
   rintro ⟨s_4,i_5,j_6⟩ o4 h5 hy6
   refine ab.seq (ab.seq (ab.aa ?_))
   refine Oc om (Oc om (Oc (eD qf rfl rfl (List.length_map _)) (Oc (bE rfl rfl) ?_)))
   refine af.ai ⟨[(0,_),(1,_),(5,_),(6,_),(19,B (decide (j_6 < (s_4.length:Int))))],[(1,_)]⟩ rfl (ab.ite h5 rfl (fun _ h5=>?_) (fun _ h5=>?_))
   ·refine ab.skip (Fin.ag ⟨[(0,_),(1,_),(5,_),(6,_)],[(1,_)]⟩ rfl (Fin.then ?_))
    obtain ⟨v7,h8,h5⟩:=aP h5
    refine ab.ek (v:=v7) (fh fun (s_9:List (cw a8)) (i_10:Int)=>⟨[(0,.b (.row 1)),(1,.b (.one (.raw (.func (.func del0) #[] #[])))),(5,I i_10),(6,I j_6)],[(1,.row 42 1 (s_9.map (mj ae)))]⟩) (fun z=>z) ?_ ?_
    ·refine ab.block (ab.seq (ab.aa ?_))
     refine Oc om (Oc om ?_)
     obtain ⟨x_11,e9,h8⟩:=aP h8
     refine Oc (dh iC (ba e9) (iA e9) rfl rfl rfl rfl) (Oc (fo (i:=(j_6:Int).toNat) (f:=0) bf rfl rfl rfl (cD (e:=(mj ae)) e9) rfl) (Oc oa ?_))
     refine af.ai ⟨[(0,_),(1,_),(5,_),(6,_),(7,.b (.one (.tr ae x_11)))],[(1,_)]⟩ rfl (ab.seq (ab.aa ?_))
     refine Oc om (Oc om ?_)
     obtain ⟨x_12,e10,h8⟩:=aP h8
     refine Oc (il (lE e10) (lF e10) rfl rfl rfl) (Oc (dW rfl) ?_)
     refine af.ai ⟨[(0,_),(1,_),(5,_),(6,_),(7,_),(29,B (!x_12))],[(1,_)]⟩ rfl (ab.ite h8 rfl (fun _ h8=>?_) (fun _ h8=>?_))
     ·refine ab.seq (ab.aa ?_)
      refine Oc om (Oc om (Oc om ?_))
      obtain ⟨x_13,e11,h8⟩:=aP h8
      refine Oc (dh iC (ba e11) (iA e11) rfl rfl rfl rfl) (Oc (jB (i:=(i_5:Int).toNat) bf rfl rfl rfl rfl (sm e11) (map_set _ _ _ _)) ?_)
      refine af.ai ⟨[(0,_),(1,_),(5,_),(6,_)],[(1,.row 42 1 ((s_4.set (i_5:Int).toNat x_11).map (mj ae)))]⟩ rfl (ab.aa (Oc om (Oc (bW rfl rfl) (Oc oa ?_))))
      refine af.nil (Fin.aB ?_)
      exact Fin.join [0,1,5,6] [1] (s_4.set (i_5:Int).toNat x_11,IntKind.i64.wrap (i_5 + 1)) (Option.some.inj h8) rfl
     ·refine ab.skip (Fin.aB ?_)
      exact Fin.join [0,1,5,6] [1] (s_4,i_5) (Option.some.inj h8) rfl
    ·rintro ⟨s_9,i_10⟩ hv
     subst v7
     refine ab.aa (Oc om (Oc (bW rfl rfl) (Oc oa ?_)))
     refine af.nil ?_
     exact Fin.cE [0,1,5,6] [1] (s_9,i_10,IntKind.i64.wrap (j_6 + 1)) (Option.some.inj h5) rfl
   ·refine ab.exit (Fin.aF ?_)
    obtain rfl:=hy6 _ (Option.some.inj h5).symm
    refine Fin.aF (Fin.a6 ?_)
    exact Fin.join [0,5] [1] (s_4,i_5) rfl rfl
  ·rintro ⟨s_2,i_3⟩ hv
   subst v2
   refine ab.seq (ab.aa ?_)
   refine Oc om (Oc om ?_)
   obtain ⟨z_14,e12,h⟩:=aP h
   refine af.clr (enc:=(mj ae)) iC rfl e12 rfl rfl rfl (by decide) rfl (af.ai ⟨[(0,_),(5,_)],[(1,.row 42 1 (z_14.map (mj ae)))]⟩ rfl (ab.seq (ab.aa ?_)))
   refine Oc om (Oc om ?_)
   obtain ⟨x_15,e13,h⟩:=aP h
   refine Oc (kz iC e13 rfl rfl rfl rfl) (Oc oa ?_)
   refine af.ai ⟨[(4,.b (.row 1))],[(1,.row 42 1 (x_15.map (mj ae)))]⟩ rfl (ab.ret ?_)
   obtain rfl:=Option.some.inj h
   refine Fin.ag ⟨[(4,_)],[(1,_)]⟩ rfl ?_
   exact Fin.result [.row 1] (.inl rfl) rfl (.cons (.tmp rfl) .nil) ⟨rfl,rfl⟩
def fB (F:Nat) (l0:List (cw a8)):Option (List (cw a8)) :=
 (dp F 123 l0).bind fun x_1=>some x_1
theorem me {F:Nat} {l0:List (cw a8)} {r:(List (cw a8))} (h:fB F l0 = some r):ao Tryz.prog [] 100 [(1,.row 42 1 (l0.map (mj ae)))] [.row 1] (Is [(1,.row 42 1 (r.map (mj ae)))] (.b (.row 1))):=by
 unfold fB at h
 refine ao.intro 5 Tryz.func100 Tryz.ntmps100 rfl (by simp) fun E=>?_
 show ab _ E ⟨5,[],[1],[]⟩ _ ⟨[(0,.b (.row 1))],[(1,.row 42 1 (l0.map (mj ae)))]⟩ _
 refine ab.seq (ab.aa ?_)
 refine Oc oa (af.ai ⟨[(0,.b (.row 1))],[(1,.row 42 1 (l0.map (mj ae)))]⟩ rfl (ab.seq (ab.aa ?_)))
 refine Oc om ?_
 obtain ⟨x_1,e1,h⟩:=aP h
 refine Oc (cZ (own_a:=[(1,_)]) (gG e1) goes122 rfl ⟨rfl,trivial⟩ rfl rfl) (Oc oa ?_)
 refine af.ai ⟨[(2,.b (.row 1))],[(1,.row 42 1 (x_1.map (mj ae)))]⟩ rfl (ab.ret ?_)
 obtain rfl:=Option.some.inj h
 refine Fin.ag ⟨[(2,_)],[(1,_)]⟩ rfl ?_
 exact Fin.result [.row 1] (.inl rfl) rfl (.cons (.tmp rfl) .nil) ⟨rfl,rfl⟩
def aX (F:Nat) (t0:hX) (n0:cw a8) (left0:cw a8) (right0:cw a8):Option (cw a8) :=
 Option.bind (iy n0) (fun nd_1=>Option.bind (iy n0) (fun nd_2=>Option.bind (iy n0) (fun nd_3=>(gL F t0.box nd_3.1.x).bind fun x_4=>Option.bind ((fB F [left0,right0]).bind fun x_6=>iter F (fh fun out_7 x_8=>if (decide (x_8 < (x_6.length:Int))) = true then ((bj x_6 x_8).bind fun x_10=>Option.bind (iy x_10) (fun nd_11=>(gk F out_7.cover nd_11.1.cover).bind fun x_12=>some (.inl ((⟨out_7.x,out_7.priority,x_12,out_7.left,out_7.right⟩:Nod),IntKind.i64.wrap (x_8 + 1))))) else (some (.inr out_7))) ((⟨nd_1.1.x,nd_2.1.priority,x_4,left0,right0⟩:Nod),0)) (fun out_5=>some (.node (⟨out_5.x,out_5.priority,out_5.cover⟩:a8) out_5.left out_5.right)))))
theorem bC {F:Nat} {t0:hX} {n0:cw a8} {left0:cw a8} {right0:cw a8} {r:(cw a8)} (h:aX F t0 n0 left0 right0 = some r):ao Tryz.prog [] 80 [] [.agg (bz t0),.one (.tr ae n0),.one (.tr ae left0),.one (.tr ae right0)] (Is [] (.b (.one (.tr ae r)))):=by
 unfold aX at h
 refine ao.intro 54 Tryz.func80 Tryz.ntmps80 rfl (by simp) fun E=>?_
 show ab _ E ⟨54,[],[],[]⟩ _ ⟨[(0,.b (.agg (bz t0))),(1,.b (.one (.tr ae n0))),(2,.b (.one (.tr ae left0))),(3,.b (.one (.tr ae right0)))],[]⟩ _
 refine ab.seq (ab.aa ?_)
 refine Oc (bK (k:=101) rfl rfl) (Oc oa ?_)
 refine af.ai ⟨[(1,.b (.one (.tr ae n0))),(2,.b (.one (.tr ae left0))),(3,.b (.one (.tr ae right0))),(4,Pt 101 0)],[(101,.box 47 (bz t0))]⟩ rfl (ab.seq ?_)
 obtain ⟨nd_1,e1,h⟩:=aP h
 obtain ⟨nd_2,e2,h⟩:=aP h
 obtain ⟨nd_3,e3,h⟩:=aP h
 obtain ⟨x_4,e4,h⟩:=aP h
 refine ab.bZ mixed 18 [.b (.one (.tr ae n0)),.b (.aK (an nd_1.1.x ++ (.int .u64 nd_1.1.priority :: (ak nd_1.1.cover ++ ([.tr ae nd_1.2.1,.tr ae nd_1.2.2]))))),.b (.aK (an nd_1.1.x ++ (.int .u64 nd_1.1.priority :: (ak nd_1.1.cover ++ ([.tr ae nd_1.2.1,.tr ae nd_1.2.2]))))),.b (.agg (an nd_1.1.x)),.b (.one (.tr ae n0)),.b (.aK (an nd_2.1.x ++ (.int .u64 nd_2.1.priority :: (ak nd_2.1.cover ++ ([.tr ae nd_2.2.1,.tr ae nd_2.2.2]))))),.b (.aK (.int .u64 nd_2.1.priority :: (ak nd_2.1.cover ++ ([.tr ae nd_2.2.1,.tr ae nd_2.2.2])))),.b (.one (.int .u64 nd_2.1.priority)),Pt 101 3,.b (.one (.cO t0.box)),.b (.one (.tr ae n0)),.b (.aK (an nd_3.1.x ++ (.int .u64 nd_3.1.priority :: (ak nd_3.1.cover ++ ([.tr ae nd_3.2.1,.tr ae nd_3.2.2]))))),.b (.aK (an nd_3.1.x ++ (.int .u64 nd_3.1.priority :: (ak nd_3.1.cover ++ ([.tr ae nd_3.2.1,.tr ae nd_3.2.2]))))),.b (.agg (an nd_3.1.x)),.b (.agg (ak x_4)),.b (.one (.tr ae left0)),.b (.one (.tr ae right0)),.b (.agg (an nd_1.1.x ++ (.int .u64 nd_2.1.priority :: (ak x_4 ++ ([.tr ae left0,.tr ae right0])))))] [2,3,9] [102] (s':=⟨[(2,_),(3,_),(9,Pt 102 0)],[(102,.box 117 (an nd_1.1.x ++ (.int .u64 nd_2.1.priority :: (ak x_4 ++ ([.tr ae left0,.tr ae right0])))))]⟩) rfl ⟨fun _=>.p om,fun _=>.p (aD e1 rfl rfl),fun _=>by exact .p (aC dG rfl rfl),fun _=>.p (ck bg rfl rfl rfl),fun _=>.p om,fun _=>.p (aD e2 rfl rfl),fun _=>by exact .p (aC kT rfl rfl),fun _=>.p (ar oF rfl rfl),fun _=>.p (au rE rfl rfl),fun _=>.p (aJ tyOne45 rfl rfl rfl),fun _=>.p om,fun _=>.p (aD e3 rfl rfl),fun _=>by exact .p (aC dG rfl rfl),fun _=>.p (ck bg rfl rfl rfl),fun _=>.p (jX (qP e4) (qQ e4) (tA e4) rfl rfl rfl),fun _=>.p om,fun _=>.p om,fun _=>.p (cg nk rfl rfl),trivial⟩ ⟨_,by exact .p (bK (k:=102) rfl rfl),⟨_,by exact .p oa,rfl⟩⟩ rfl ?_
 obtain ⟨v5,h6,h⟩:=aP h
 refine ab.ek (v:=v5) (fun (out_5:Nod)=>⟨[(9,Pt 102 0)],[(102,.box 117 (eNod out_5))]⟩) (fun z=>z) ?_ ?_
 ·refine ab.seq (ab.aa ?_)
  refine Oc om (Oc om (Oc (cp (k:=103) (es:=[left0,right0].map (mj ae)) iC rfl rfl (cF fun _=>rfl) rfl (by decide) (by decide) rfl) ?_))
  obtain ⟨x_6,e7,h6⟩:=aP h6
  refine Oc (cZ (own_a:=[(103,_)]) ((me e7).sw 1 103) goes100 rfl ⟨rfl,trivial⟩ rfl rfl) (Oc (eD qf rfl rfl (List.length_map _)) (Oc om ?_))
  refine af.ai ⟨[(9,_),(34,.b (.row 103)),(35,I (x_6.length:Int)),(36,I 0)],[(102,_),(103,.row 42 1 (x_6.map (mj ae)))]⟩ rfl (ab.block (ab.dq h6 (fh fun (out_7:Nod) (x_8:Int)=>⟨[(9,Pt 102 0),(34,.b (.row 103)),(35,I (x_6.length:Int)),(36,I x_8)],[(102,.box 117 (eNod out_7)),(103,.row 42 1 (x_6.map (mj ae)))]⟩) [9,34,35,36] [102,103] rfl ?_))
  rintro ⟨out_7,x_8⟩ o8 h9 hy10
  refine ab.seq (ab.aa ?_)
  refine Oc (bE rfl rfl) (af.ai ⟨[(9,_),(34,_),(35,_),(36,_),(37,B (decide (x_8 < (x_6.length:Int))))],[(102,_),(103,_)]⟩ rfl (ab.seq (ab.ite h9 rfl (fun _ h9=>?_) (fun _ h9=>?_))))
  ·refine ab.skip (Fin.ag ⟨[(9,_),(34,_),(35,_),(36,_)],[(102,_),(103,_)]⟩ rfl (Fin.then (ab.seq (ab.block (ab.seq (ab.aa ?_))))))
   obtain ⟨x_10,e11,h9⟩:=aP h9
   refine Oc (dh iC (ba e11) (iA e11) rfl rfl rfl rfl) (Oc (fo (i:=(x_8:Int).toNat) (f:=0) bf rfl rfl rfl (cD (e:=(mj ae)) e11) rfl) (Oc oa ?_))
   refine af.ai ⟨[(9,_),(11,.b (.one (.tr ae x_10))),(34,_),(35,_),(36,_)],[(102,_),(103,_)]⟩ rfl ?_
   obtain ⟨nd_11,e12,h9⟩:=aP h9
   obtain ⟨x_12,e13,h9⟩:=aP h9
   refine ab.lz mixed 12 [Pt 102 0,Pt 102 0,Pt 102 0,Pt 102 8,.b (.agg (ak out_7.cover)),.b (.one (.tr ae x_10)),.b (.aK (an nd_11.1.x ++ (.int .u64 nd_11.1.priority :: (ak nd_11.1.cover ++ ([.tr ae nd_11.2.1,.tr ae nd_11.2.2]))))),.b (.aK (ak nd_11.1.cover ++ ([.tr ae nd_11.2.1,.tr ae nd_11.2.2]))),.b (.agg (ak nd_11.1.cover)),.b (.agg (ak x_12)),Pt 102 0,Pt 102 8] [9,34,35,36] [102,103] (s':=⟨[(9,_),(34,_),(35,_),(36,_)],[(102,.box 117 (an out_7.x ++ (.int .u64 out_7.priority :: (ak x_12 ++ ([.tr ae out_7.left,.tr ae out_7.right]))))),(103,_)]⟩) rfl ⟨fun _=>.p om,fun _=>.p om,fun _=>.p (kA rfl),fun _=>.p (au iH rfl rfl),fun _=>.p (lp ay),fun _=>.p om,fun _=>.p (aD e12 rfl rfl),fun _=>by exact .p (aC iH rfl rfl),fun _=>.p (ck ay rfl rfl rfl),fun _=>.p (aj (iV e13) sQ rfl rfl),fun _=>.p (kA rfl),fun _=>.p (au iH rfl rfl),trivial⟩ ⟨_,by exact .p (aG ay rfl rfl rfl rfl (Nat.le_of_ble_eq_true rfl) rfl),rfl⟩ rfl (Fin.aB (Fin.ag ⟨[(9,_),(34,_),(35,_),(36,_)],[(102,_),(103,_)]⟩ rfl (Fin.then (ab.aa ?_))))
   refine Oc (bW rfl rfl) (Oc om ?_)
   refine af.nil ?_
   exact Fin.cE [9,34,35,36] [102,103] ((⟨out_7.x,out_7.priority,x_12,out_7.left,out_7.right⟩:Nod),IntKind.i64.wrap (x_8 + 1)) (Option.some.inj h9) rfl
  ·refine ab.exit (Fin.aF ?_)
   obtain rfl:=hy10 _ (Option.some.inj h9).symm
   refine Fin.aF (Fin.a6 ?_)
   exact Fin.join [9] [102] out_7 rfl rfl
 ·rintro out_5 hv
  subst v5
  refine ab.seq (ab.aa ?_)
  refine Oc om (Oc oa ?_)
  refine af.ai ⟨[(8,Pt 102 0)],[(102,_)]⟩ rfl (ab.ret ?_)
  obtain rfl:=Option.some.inj h
  refine Fin.ag ⟨[(8,_)],[(102,_)]⟩ rfl (Fin.fH 102 rfl (Fin.toTr (enc:=ae) 8 (⟨out_5.x,out_5.priority,out_5.cover⟩:a8) out_5.left out_5.right rfl rfl (Fin.av [.one (.tr ae (.node (⟨out_5.x,out_5.priority,out_5.cover⟩:a8) out_5.left out_5.right))] (.inl rfl) rfl (.cons (.tmp rfl) .nil) ⟨rfl,rfl⟩)))
def bB (F:Nat):Nat → hX → (cw a8) → entry → Option ((cw a8) × (cw a8))
 | 0,_,_,_=>none
 | n + 1,t0,n0,x0=>if n0.cP = true then (some (.leaf,.leaf)) else (Option.bind (iy n0) (fun nd_1=>(eY F t0.compare nd_1.1.x x0).bind fun x_2=>if (decide (x_2 < 0)) = true then (Option.bind (iy n0) (fun nd_3=>Option.bind (bB F n t0 nd_3.2.2 x0) (fh fun x_4 x_5=>Option.bind (iy n0) (fun nd_6=>(aX F t0 n0 nd_6.2.1 x_4).bind fun x_7=>some (x_7,x_5))))) else (Option.bind (iy n0) (fun nd_8=>Option.bind (bB F n t0 nd_8.2.1 x0) (fh fun x_9 x_10=>Option.bind (iy n0) (fun nd_11=>(aX F t0 n0 x_10 nd_11.2.2).bind fun x_12=>some (x_9,x_12)))))))
def ew (F:Nat) (t0:hX) (n0:cw a8) (x0:entry):Option ((cw a8) × (cw a8)):=bB F F t0 n0 x0
theorem iR {F:Nat}:∀ (n:Nat) {t0:hX} {n0:cw a8} {x0:entry} {r:(cw a8) × (cw a8)} (h:bB F n t0 n0 x0 = some r),ao Tryz.prog [] 79 [] [.agg (bz t0),.one (.tr ae n0),.agg (an x0)] (Is [] (.dY [.one (.tr ae r.1),.one (.tr ae r.2)])):=by
 intro n
 induction n with
 | zero=>intro t0 n0 x0 r h; simp [bB] at h
 | succ n ih=>
 intro t0 n0 x0 r h
 unfold bB at h
 refine ao.intro 61 Tryz.func79 Tryz.ntmps79 rfl (by simp) fun E=>?_
 show ab _ E ⟨61,[],[],[]⟩ _ ⟨[(0,.b (.agg (bz t0))),(1,.b (.one (.tr ae n0))),(2,.b (.agg (an x0)))],[]⟩ _
 refine ab.seq (ab.aa ?_)
 refine Oc (bK (k:=101) rfl rfl) (Oc (bK (k:=102) rfl rfl) (Oc oa (Oc oa ?_)))
 refine af.ai ⟨[(1,.b (.one (.tr ae n0))),(3,Pt 101 0),(5,Pt 102 0)],[(101,.box 47 (bz t0)),(102,.box 87 (an x0))]⟩ rfl (ab.seq (ab.seq (ab.aa ?_)))
 refine Oc om (Oc (eG kJ rfl) ?_)
 refine af.ai ⟨[(1,_),(3,_),(5,_),(13,B n0.cP)],[(101,_),(102,_)]⟩ rfl (ab.ite h rfl (fun _ h=>?_) (fun _ h=>?_))
 ·refine ab.seq (ab.aa ?_)
  refine Oc oa (Oc oa ?_)
  refine af.ai ⟨[(6,.b (.one (.tr ae (.leaf)))),(7,.b (.one (.tr ae (.leaf))))],[]⟩ rfl (ab.ret (Fin.ax ?_))
  obtain rfl:=Option.some.inj h
  refine Fin.ag ⟨[(6,_),(7,_)],[]⟩ rfl (Fin.av [.one (.tr ae (.leaf)),.one (.tr ae (.leaf))] (.inl rfl) rfl (.cons (.tmp rfl) (.cons (.tmp rfl) .nil)) ⟨rfl,rfl⟩)
 ·refine ab.skip (Fin.ag ⟨[(1,_),(3,_),(5,_)],[(101,_),(102,_)]⟩ rfl (Fin.then (ab.seq (ab.seq ?_))))
  refine ab.ag ⟨[(1,_),(3,_),(5,_)],[(101,_),(102,_)]⟩ rfl ?_
  obtain ⟨nd_1,e1,h⟩:=aP h
  obtain ⟨x_2,e2,h⟩:=aP h
  refine ab.bZ mixed 9 [Pt 101 1,.b (.one (.cO t0.compare)),.b (.one (.tr ae n0)),.b (.aK (an nd_1.1.x ++ (.int .u64 nd_1.1.priority :: (ak nd_1.1.cover ++ ([.tr ae nd_1.2.1,.tr ae nd_1.2.2]))))),.b (.aK (an nd_1.1.x ++ (.int .u64 nd_1.1.priority :: (ak nd_1.1.cover ++ ([.tr ae nd_1.2.1,.tr ae nd_1.2.2]))))),.b (.agg (an nd_1.1.x)),.b (.agg (an x0)),I x_2,B (decide (x_2 < 0))] [1,3,5,22] [101,102] (s':=⟨[(1,_),(3,_),(5,_),(22,B (decide (x_2 < 0)))],[(101,_),(102,_)]⟩) rfl ⟨fun _=>.p (au nV rfl rfl),fun _=>.p (aJ q9 rfl rfl rfl),fun _=>.p om,fun _=>.p (aD e1 rfl rfl),fun _=>by exact .p (aC dG rfl rfl),fun _=>.p (ck bg rfl rfl rfl),fun _=>.p (lp bg),fun _=>.p (jX (nA e2) (nB e2) (pM e2) rfl rfl rfl),fun _=>.p (bE rfl rfl),trivial⟩ rfl rfl (ab.ite h rfl (fun _ h=>?_) (fun _ h=>?_))
  ·refine ab.seq (ab.ag ⟨[(1,_),(3,_),(5,_)],[(101,_),(102,_)]⟩ rfl ?_)
   obtain ⟨nd_3,e3,h⟩:=aP h
   obtain ⟨⟨x_4,x_5⟩,e4,h⟩:=aP h
   refine ab.bZ mixed 12 [.b (.agg (bz t0)),.b (.one (.tr ae n0)),.b (.aK (an nd_3.1.x ++ (.int .u64 nd_3.1.priority :: (ak nd_3.1.cover ++ ([.tr ae nd_3.2.1,.tr ae nd_3.2.2]))))),.b (.aK [.tr ae nd_3.2.2]),.b (.one (.tr ae nd_3.2.2)),.b (.agg (an x0)),.dY [.one (.tr ae x_4),.one (.tr ae x_5)],.dY [.one (.tr ae x_4),.one (.tr ae x_5)],.b (.one (.tr ae x_4)),.b (.one (.tr ae x_5)),.b (.one (.tr ae x_4)),.b (.one (.tr ae x_5))] [1,3,8,9] [101] (s':=⟨[(1,_),(3,_),(8,.b (.one (.tr ae x_4))),(9,.b (.one (.tr ae x_5)))],[(101,_)]⟩) rfl ⟨fun _=>.p (lp bp),fun _=>.p om,fun _=>.p (aD e3 rfl rfl),fun _=>by exact .p (aC df rfl rfl),fun _=>.p (ar bf rfl rfl),fun _=>.p (lp bg),fun _=>.p (aj (ih e4) qo rfl rfl),fun _=>.p om,fun _=>.p (az rfl rfl),fun _=>.p (az rfl rfl),fun _=>.p oa,fun _=>.p oa,trivial⟩ rfl rfl (ab.seq (ab.ag ⟨[(1,_),(3,_),(8,_),(9,_)],[(101,_)]⟩ rfl ?_))
   obtain ⟨nd_6,e5,h⟩:=aP h
   obtain ⟨x_7,e6,h⟩:=aP h
   refine ab.bZ mixed 11 [.b (.agg (bz t0)),.b (.one (.tr ae n0)),.b (.one (.tr ae n0)),.b (.aK (an nd_6.1.x ++ (.int .u64 nd_6.1.priority :: (ak nd_6.1.cover ++ ([.tr ae nd_6.2.1,.tr ae nd_6.2.2]))))),.b (.aK [.tr ae nd_6.2.1,.tr ae nd_6.2.2]),.b (.one (.tr ae nd_6.2.1)),.b (.one (.tr ae x_4)),.b (.one (.tr ae x_7)),.b (.one (.tr ae x_5)),.b (.one (.tr ae x_7)),.b (.one (.tr ae x_5))] [6,7] [] (s':=⟨[(6,.b (.one (.tr ae x_7))),(7,.b (.one (.tr ae x_5)))],[]⟩) rfl ⟨fun _=>.p (lp bp),fun _=>.p om,fun _=>.p om,fun _=>.p (aD e5 rfl rfl),fun _=>by exact .p (aC dg rfl rfl),fun _=>.p (ar bf rfl rfl),fun _=>.p om,fun _=>.p (aj (bC e6) kO rfl rfl),fun _=>.p om,fun _=>.p oa,fun _=>.p oa,trivial⟩ rfl rfl (ab.ret (Fin.ax ?_))
   obtain rfl:=Option.some.inj h
   refine Fin.ag ⟨[(6,_),(7,_)],[]⟩ rfl (Fin.av [.one (.tr ae x_7),.one (.tr ae x_5)] (.inl rfl) rfl (.cons (.tmp rfl) (.cons (.tmp rfl) .nil)) ⟨rfl,rfl⟩)
  ·refine ab.skip (Fin.ag ⟨[(1,_),(3,_),(5,_)],[(101,_),(102,_)]⟩ rfl (Fin.then (ab.seq ?_)))
   refine ab.ag ⟨[(1,_),(3,_),(5,_)],[(101,_),(102,_)]⟩ rfl ?_
   obtain ⟨nd_8,e7,h⟩:=aP h
   obtain ⟨⟨x_9,x_10⟩,e8,h⟩:=aP h
   refine ab.bZ mixed 12 [.b (.agg (bz t0)),.b (.one (.tr ae n0)),.b (.aK (an nd_8.1.x ++ (.int .u64 nd_8.1.priority :: (ak nd_8.1.cover ++ ([.tr ae nd_8.2.1,.tr ae nd_8.2.2]))))),.b (.aK [.tr ae nd_8.2.1,.tr ae nd_8.2.2]),.b (.one (.tr ae nd_8.2.1)),.b (.agg (an x0)),.dY [.one (.tr ae x_9),.one (.tr ae x_10)],.dY [.one (.tr ae x_9),.one (.tr ae x_10)],.b (.one (.tr ae x_9)),.b (.one (.tr ae x_10)),.b (.one (.tr ae x_9)),.b (.one (.tr ae x_10))] [1,3,10,11] [101] (s':=⟨[(1,_),(3,_),(10,.b (.one (.tr ae x_9))),(11,.b (.one (.tr ae x_10)))],[(101,_)]⟩) rfl ⟨fun _=>.p (lp bp),fun _=>.p om,fun _=>.p (aD e7 rfl rfl),fun _=>by exact .p (aC dg rfl rfl),fun _=>.p (ar bf rfl rfl),fun _=>.p (lp bg),fun _=>.p (aj (ih e8) qo rfl rfl),fun _=>.p om,fun _=>.p (az rfl rfl),fun _=>.p (az rfl rfl),fun _=>.p oa,fun _=>.p oa,trivial⟩ rfl rfl (ab.seq (ab.ag ⟨[(1,_),(3,_),(10,_),(11,_)],[(101,_)]⟩ rfl ?_))
   obtain ⟨nd_11,e9,h⟩:=aP h
   obtain ⟨x_12,e10,h⟩:=aP h
   refine ab.bZ mixed 11 [.b (.one (.tr ae x_9)),.b (.agg (bz t0)),.b (.one (.tr ae n0)),.b (.one (.tr ae x_10)),.b (.one (.tr ae n0)),.b (.aK (an nd_11.1.x ++ (.int .u64 nd_11.1.priority :: (ak nd_11.1.cover ++ ([.tr ae nd_11.2.1,.tr ae nd_11.2.2]))))),.b (.aK [.tr ae nd_11.2.2]),.b (.one (.tr ae nd_11.2.2)),.b (.one (.tr ae x_12)),.b (.one (.tr ae x_9)),.b (.one (.tr ae x_12))] [6,7] [] (s':=⟨[(6,.b (.one (.tr ae x_9))),(7,.b (.one (.tr ae x_12)))],[]⟩) rfl ⟨fun _=>.p om,fun _=>.p (lp bp),fun _=>.p om,fun _=>.p om,fun _=>.p om,fun _=>.p (aD e9 rfl rfl),fun _=>by exact .p (aC df rfl rfl),fun _=>.p (ar bf rfl rfl),fun _=>.p (aj (bC e10) kO rfl rfl),fun _=>.p oa,fun _=>.p oa,trivial⟩ rfl rfl (ab.ret ?_)
   obtain rfl:=Option.some.inj h
   refine Fin.ag ⟨[(6,_),(7,_)],[]⟩ rfl (Fin.av [.one (.tr ae x_9),.one (.tr ae x_12)] (.inl rfl) rfl (.cons (.tmp rfl) (.cons (.tmp rfl) .nil)) ⟨rfl,rfl⟩)
theorem ja {F:Nat} {t0:hX} {n0:cw a8} {x0:entry} {r:(cw a8) × (cw a8)} (h:ew F t0 n0 x0 = some r):ao Tryz.prog [] 79 [] [.agg (bz t0),.one (.tr ae n0),.agg (an x0)] (Is [] (.dY [.one (.tr ae r.1),.one (.tr ae r.2)])):=iR F h
def eJ (F:Nat) (x0:Int):Option Int :=
 eb (IntKind.u64.wrap ((nJ .u64 x0 (x0 / 1073741824)) * 13787848793156543929)) fun x_1=>eb (IntKind.u64.wrap ((nJ .u64 x_1 (x_1 / 134217728)) * 10723151780598845931)) fun x_2=>some (nJ .u64 x_2 (x_2 / 2147483648))
theorem nE {F:Nat} {x0:Int} {r:Int} (h:eJ F x0 = some r):ao Tryz.prog [] 81 [] [.one (.int .u64 x0)] (Is [] (.b (.one (.int .u64 r)))):=by
 unfold eJ at h
 refine ao.intro 19 Tryz.func81 Tryz.ntmps81 rfl (by simp) fun E=>?_
 show ab _ E ⟨19,[],[],[]⟩ _ ⟨[(0,.b (.one (.int .u64 x0)))],[]⟩ _
 refine ab.seq (ab.aa ?_)
 refine Oc oa (af.ai ⟨[(0,.b (.one (.int .u64 x0)))],[]⟩ rfl (ab.seq (ab.aa ?_)))
 refine Oc om (Oc om (Oc (iD (m:=30) (by decide) rfl rfl rfl) (Oc (qi rfl rfl) (Oc oa ?_))))
 refine af.ai ⟨[(0,.b (.one (.int .u64 (nJ .u64 x0 (x0 / 1073741824)))))],[]⟩ rfl (ab.seq (ab.aa ?_))
 refine Oc om (af.pd .u64 h rfl (sv rfl rfl) (fun x_1 h=>?_))
 refine Oc oa (af.ai ⟨[(0,.b (.one (.int .u64 x_1)))],[]⟩ rfl (ab.seq (ab.aa ?_)))
 refine Oc om (Oc om (Oc (iD (m:=27) (by decide) rfl rfl rfl) (Oc (qi rfl rfl) (Oc oa ?_))))
 refine af.ai ⟨[(0,.b (.one (.int .u64 (nJ .u64 x_1 (x_1 / 134217728)))))],[]⟩ rfl (ab.seq (ab.aa ?_))
 refine Oc om (af.pd .u64 h rfl (sv rfl rfl) (fun x_2 h=>?_))
 refine Oc oa (af.ai ⟨[(0,.b (.one (.int .u64 x_2)))],[]⟩ rfl (ab.seq (ab.aa ?_)))
 refine Oc om (Oc om (Oc (iD (m:=31) (by decide) rfl rfl rfl) (Oc (qi rfl rfl) (Oc oa ?_))))
 refine af.ai ⟨[(2,.b (.one (.int .u64 (nJ .u64 x_2 (x_2 / 2147483648)))))],[]⟩ rfl (ab.ret ?_)
 obtain rfl:=Option.some.inj h
 refine Fin.ag ⟨[(2,_)],[]⟩ rfl (Fin.av [.one (.int .u64 (nJ .u64 x_2 (x_2 / 2147483648)))] (.inl rfl) rfl (.cons (.tmp rfl) .nil) ⟨rfl,rfl⟩)
def bO (F:Nat):Nat → hX → (cw a8) → (cw a8) → Option (cw a8)
 | 0,_,_,_=>none
 | n + 1,t0,a0,b0=>if a0.cP = true then (some b0) else (if b0.cP = true then (some a0) else (Option.bind (iy a0) (fun nd_1=>Option.bind (iy b0) (fun nd_2=>if (decide (nd_2.1.priority < nd_1.1.priority)) = true then (Option.bind (iy a0) (fun nd_3=>Option.bind (iy a0) (fun nd_4=>(bO F n t0 nd_4.2.2 b0).bind fun x_5=>(aX F t0 a0 nd_3.2.1 x_5).bind fun x_6=>some x_6))) else (Option.bind (iy b0) (fun nd_7=>(bO F n t0 a0 nd_7.2.1).bind fun x_8=>Option.bind (iy b0) (fun nd_9=>(aX F t0 b0 x_8 nd_9.2.2).bind fun x_10=>some x_10)))))))
def b7 (F:Nat) (t0:hX) (a0:cw a8) (b0:cw a8):Option (cw a8):=bO F F t0 a0 b0
theorem jb {F:Nat}:∀ (n:Nat) {t0:hX} {a0:cw a8} {b0:cw a8} {r:(cw a8)} (h:bO F n t0 a0 b0 = some r),ao Tryz.prog [] 82 [] [.agg (bz t0),.one (.tr ae a0),.one (.tr ae b0)] (Is [] (.b (.one (.tr ae r)))):=by
 intro n
 induction n with
 | zero=>intro t0 a0 b0 r h; simp [bO] at h
 | succ n ih=>
 intro t0 a0 b0 r h
 unfold bO at h
 refine ao.intro 53 Tryz.func82 Tryz.ntmps82 rfl (by simp) fun E=>?_
 show ab _ E ⟨53,[],[],[]⟩ _ ⟨[(0,.b (.agg (bz t0))),(1,.b (.one (.tr ae a0))),(2,.b (.one (.tr ae b0)))],[]⟩ _
 refine ab.seq (ab.aa ?_)
 refine Oc (bK (k:=101) rfl rfl) (Oc oa ?_)
 refine af.ai ⟨[(1,.b (.one (.tr ae a0))),(2,.b (.one (.tr ae b0))),(3,Pt 101 0)],[(101,.box 47 (bz t0))]⟩ rfl (ab.seq (ab.block (ab.seq (ab.aa ?_))))
 refine Oc om (Oc (eG kJ rfl) (Oc oa ?_))
 refine af.ai ⟨[(1,_),(2,_),(3,_),(7,B a0.cP)],[(101,_)]⟩ rfl (ab.ite h rfl (fun _ h=>?_) (fun _ h=>?_))
 ·refine ab.seq (ab.aa ?_)
  refine Oc om (Oc oa ?_)
  refine af.ai ⟨[(6,.b (.one (.tr ae b0)))],[]⟩ rfl (ab.ret (Fin.aV (Fin.ax ?_)))
  obtain rfl:=Option.some.inj h
  refine Fin.ag ⟨[(6,_)],[]⟩ rfl (Fin.av [.one (.tr ae b0)] (.inl rfl) rfl (.cons (.tmp rfl) .nil) ⟨rfl,rfl⟩)
 ·refine ab.seq (ab.aa ?_)
  refine Oc om (Oc (eG kJ rfl) (Oc oa ?_))
  refine af.ai ⟨[(1,_),(2,_),(3,_),(11,B b0.cP)],[(101,_)]⟩ rfl (ab.ite h rfl (fun _ h=>?_) (fun _ h=>?_))
  ·refine ab.seq (ab.aa ?_)
   refine Oc om (Oc oa ?_)
   refine af.ai ⟨[(6,.b (.one (.tr ae a0)))],[]⟩ rfl (ab.ret (Fin.aV (Fin.ax ?_)))
   obtain rfl:=Option.some.inj h
   refine Fin.ag ⟨[(6,_)],[]⟩ rfl (Fin.av [.one (.tr ae a0)] (.inl rfl) rfl (.cons (.tmp rfl) .nil) ⟨rfl,rfl⟩)
  ·refine ab.seq (ab.ag ⟨[(1,_),(2,_),(3,_)],[(101,_)]⟩ rfl ?_)
   obtain ⟨nd_1,e1,h⟩:=aP h
   obtain ⟨nd_2,e2,h⟩:=aP h
   refine ab.bZ mixed 10 [.b (.one (.tr ae a0)),.b (.aK (an nd_1.1.x ++ (.int .u64 nd_1.1.priority :: (ak nd_1.1.cover ++ ([.tr ae nd_1.2.1,.tr ae nd_1.2.2]))))),.b (.aK (.int .u64 nd_1.1.priority :: (ak nd_1.1.cover ++ ([.tr ae nd_1.2.1,.tr ae nd_1.2.2])))),.b (.one (.int .u64 nd_1.1.priority)),.b (.one (.tr ae b0)),.b (.aK (an nd_2.1.x ++ (.int .u64 nd_2.1.priority :: (ak nd_2.1.cover ++ ([.tr ae nd_2.2.1,.tr ae nd_2.2.2]))))),.b (.aK (.int .u64 nd_2.1.priority :: (ak nd_2.1.cover ++ ([.tr ae nd_2.2.1,.tr ae nd_2.2.2])))),.b (.one (.int .u64 nd_2.1.priority)),B (decide (nd_2.1.priority < nd_1.1.priority)),B (decide (nd_2.1.priority < nd_1.1.priority))] [1,2,3,15] [101] (s':=⟨[(1,_),(2,_),(3,_),(15,B (decide (nd_2.1.priority < nd_1.1.priority)))],[(101,_)]⟩) rfl ⟨fun _=>.p om,fun _=>.p (aD e1 rfl rfl),fun _=>by exact .p (aC kT rfl rfl),fun _=>.p (ar oF rfl rfl),fun _=>.p om,fun _=>.p (aD e2 rfl rfl),fun _=>by exact .p (aC kT rfl rfl),fun _=>.p (ar oF rfl rfl),fun _=>.p (kN rfl rfl),fun _=>.p oa,trivial⟩ rfl rfl (ab.ite h rfl (fun _ h=>?_) (fun _ h=>?_))
   ·refine ab.seq (ab.ag ⟨[(1,_),(2,_),(3,_)],[(101,_)]⟩ rfl ?_)
    obtain ⟨nd_3,e3,h⟩:=aP h
    obtain ⟨nd_4,e4,h⟩:=aP h
    obtain ⟨x_5,e5,h⟩:=aP h
    obtain ⟨x_6,e6,h⟩:=aP h
    refine ab.bZ mixed 15 [.b (.agg (bz t0)),.b (.one (.tr ae a0)),.b (.one (.tr ae a0)),.b (.aK (an nd_3.1.x ++ (.int .u64 nd_3.1.priority :: (ak nd_3.1.cover ++ ([.tr ae nd_3.2.1,.tr ae nd_3.2.2]))))),.b (.aK [.tr ae nd_3.2.1,.tr ae nd_3.2.2]),.b (.one (.tr ae nd_3.2.1)),.b (.agg (bz t0)),.b (.one (.tr ae a0)),.b (.aK (an nd_4.1.x ++ (.int .u64 nd_4.1.priority :: (ak nd_4.1.cover ++ ([.tr ae nd_4.2.1,.tr ae nd_4.2.2]))))),.b (.aK [.tr ae nd_4.2.2]),.b (.one (.tr ae nd_4.2.2)),.b (.one (.tr ae b0)),.b (.one (.tr ae x_5)),.b (.one (.tr ae x_6)),.b (.one (.tr ae x_6))] [6] [] (s':=⟨[(6,.b (.one (.tr ae x_6)))],[]⟩) rfl ⟨fun _=>.p (lp bp),fun _=>.p om,fun _=>.p om,fun _=>.p (aD e3 rfl rfl),fun _=>by exact .p (aC dg rfl rfl),fun _=>.p (ar bf rfl rfl),fun _=>.p (lp bp),fun _=>.p om,fun _=>.p (aD e4 rfl rfl),fun _=>by exact .p (aC df rfl rfl),fun _=>.p (ar bf rfl rfl),fun _=>.p om,fun _=>.p (aj (ih e5) mV rfl rfl),fun _=>.p (aj (bC e6) kO rfl rfl),fun _=>.p oa,trivial⟩ rfl rfl (ab.ret (Fin.aV (Fin.ax ?_)))
    obtain rfl:=Option.some.inj h
    refine Fin.ag ⟨[(6,_)],[]⟩ rfl (Fin.av [.one (.tr ae x_6)] (.inl rfl) rfl (.cons (.tmp rfl) .nil) ⟨rfl,rfl⟩)
   ·refine ab.skip (Fin.aB (Fin.ag ⟨[(1,_),(2,_),(3,_)],[(101,_)]⟩ rfl (Fin.then (ab.seq ?_))))
    refine ab.ag ⟨[(1,_),(2,_),(3,_)],[(101,_)]⟩ rfl ?_
    obtain ⟨nd_7,e7,h⟩:=aP h
    obtain ⟨x_8,e8,h⟩:=aP h
    obtain ⟨nd_9,e9,h⟩:=aP h
    obtain ⟨x_10,e10,h⟩:=aP h
    refine ab.bZ mixed 15 [.b (.agg (bz t0)),.b (.one (.tr ae b0)),.b (.agg (bz t0)),.b (.one (.tr ae a0)),.b (.one (.tr ae b0)),.b (.aK (an nd_7.1.x ++ (.int .u64 nd_7.1.priority :: (ak nd_7.1.cover ++ ([.tr ae nd_7.2.1,.tr ae nd_7.2.2]))))),.b (.aK [.tr ae nd_7.2.1,.tr ae nd_7.2.2]),.b (.one (.tr ae nd_7.2.1)),.b (.one (.tr ae x_8)),.b (.one (.tr ae b0)),.b (.aK (an nd_9.1.x ++ (.int .u64 nd_9.1.priority :: (ak nd_9.1.cover ++ ([.tr ae nd_9.2.1,.tr ae nd_9.2.2]))))),.b (.aK [.tr ae nd_9.2.2]),.b (.one (.tr ae nd_9.2.2)),.b (.one (.tr ae x_10)),.b (.one (.tr ae x_10))] [6] [] (s':=⟨[(6,.b (.one (.tr ae x_10)))],[]⟩) rfl ⟨fun _=>.p (lp bp),fun _=>.p om,fun _=>.p (lp bp),fun _=>.p om,fun _=>.p om,fun _=>.p (aD e7 rfl rfl),fun _=>by exact .p (aC dg rfl rfl),fun _=>.p (ar bf rfl rfl),fun _=>.p (aj (ih e8) mV rfl rfl),fun _=>.p om,fun _=>.p (aD e9 rfl rfl),fun _=>by exact .p (aC df rfl rfl),fun _=>.p (ar bf rfl rfl),fun _=>.p (aj (bC e10) kO rfl rfl),fun _=>.p oa,trivial⟩ rfl rfl (ab.ret ?_)
    obtain rfl:=Option.some.inj h
    refine Fin.ag ⟨[(6,_)],[]⟩ rfl (Fin.av [.one (.tr ae x_10)] (.inl rfl) rfl (.cons (.tmp rfl) .nil) ⟨rfl,rfl⟩)
theorem dM {F:Nat} {t0:hX} {a0:cw a8} {b0:cw a8} {r:(cw a8)} (h:b7 F t0 a0 b0 = some r):ao Tryz.prog [] 82 [] [.agg (bz t0),.one (.tr ae a0),.one (.tr ae b0)] (Is [] (.b (.one (.tr ae r)))):=jb F h
def bq (F:Nat) (t0:hX) (x0:entry):Option hX :=
 Option.bind (ew F t0 t0.root x0) (fh fun x_1 x_2=>(fX F t0.key x0).bind fun x_3=>(eJ F x_3).bind fun x_4=>(aX F t0 (.node (⟨x0,x_4,(⟨A3.zero,A3.zero⟩:b5)⟩:a8) (.leaf) (.leaf)) (.leaf) (.leaf)).bind fun x_5=>(b7 F t0 x_1 x_5).bind fun x_6=>(b7 F t0 x_6 x_2).bind fun x_7=>eb (⟨x_7,t0.compare,t0.key,t0.box⟩:hX) fun x_8=>some x_8)
theorem fN {F:Nat} {t0:hX} {x0:entry} {r:hX} (h:bq F t0 x0 = some r):ao Tryz.prog [] 59 [] [.agg (bz t0),.agg (an x0)] (Is [] (.b (.agg (bz r)))):=by
 unfold bq at h
 refine ao.intro 35 Tryz.func59 Tryz.ntmps59 rfl (by simp) fun E=>?_
 show ab _ E ⟨35,[],[],[]⟩ _ ⟨[(0,.b (.agg (bz t0))),(1,.b (.agg (an x0)))],[]⟩ _
 refine ab.seq (ab.aa ?_)
 refine Oc (bK (k:=101) rfl rfl) (Oc (bK (k:=102) rfl rfl) (Oc (aY (k:=103) pk rfl) ?_))
 refine af.ai ⟨[(2,Pt 101 0),(3,Pt 102 0),(4,Pt 103 0)],[(101,.box 47 (bz t0)),(102,.box 87 (an x0)),(103,.box 47 [.tr ae (.leaf),.cO 0,.cO 0,.cO 0])]⟩ rfl (ab.seq (ab.aa ?_))
 refine Oc (lp bp) (Oc (au fk rfl rfl) (Oc (aJ bf rfl rfl rfl) (Oc (lp bg) ?_)))
 obtain ⟨⟨x_1,x_2⟩,e1,h⟩:=aP h
 refine Oc (aj (ja e1) qo rfl rfl) (af.ag ⟨[(2,_),(3,_),(4,_),(13,.dY [.one (.tr ae x_1),.one (.tr ae x_2)])],[(101,_),(102,_),(103,_)]⟩ rfl (Oc om (Oc (az rfl rfl) (Oc (az rfl rfl) (Oc oa (Oc oa ?_))))))
 refine af.ai ⟨[(2,_),(3,_),(4,_),(5,.b (.one (.tr ae x_1))),(6,.b (.one (.tr ae x_2)))],[(101,_),(102,_),(103,_)]⟩ rfl (ab.seq ?_)
 obtain ⟨x_3,e2,h⟩:=aP h
 obtain ⟨x_4,e3,h⟩:=aP h
 obtain ⟨x_5,e4,h⟩:=aP h
 refine ab.lq mixed [false,false,false,false,false,false,false,false,true,false,false] [.b (.agg (bz t0)),.b (.agg (an x0)),Pt 101 2,.b (.one (.cO t0.key)),.b (.agg (an x0)),.b (.one (.int .u64 x_3)),.b (.one (.int .u64 x_4)),.b (.agg (an x0 ++ (.int .u64 x_4 :: ((cC .i64) A3.zero ++ ((cC .i64) A3.zero ++ ([.tr ae (.leaf),.tr ae (.leaf)])))))),.b (.one (.tr ae (.node (⟨x0,x_4,(⟨A3.zero,A3.zero⟩:b5)⟩:a8) (.leaf) (.leaf)))),.b (.one (.tr ae x_5)),.b (.one (.tr ae x_5))] [⟨[false,false,false,false,false,false,false,false,false,false,false],[(2,Pt 101 0),(3,Pt 102 0),(4,Pt 103 0),(5,.b (.one (.tr ae x_1))),(6,.b (.one (.tr ae x_2)))],[(101,.box 47 (bz t0)),(102,.box 87 (an x0)),(103,.box 47 [.tr ae (.leaf),.cO 0,.cO 0,.cO 0])],[true,true,true,true,true,true,true,true,true,true,true],[],[9,10]⟩,⟨[false,false,false,false,false,false,false,false,true,false,false],[(2,Pt 101 0),(3,Pt 102 0),(4,Pt 103 0),(5,.b (.one (.tr ae x_1))),(6,.b (.one (.tr ae x_2)))],[(101,.box 47 (bz t0)),(102,.box 87 (an x0)),(103,.box 47 [.tr ae (.leaf),.cO 0,.cO 0,.cO 0])],[true,true,true,true,true,true,true,true,true,true,true],[1,2,3,4,5,6,7,8],[]⟩] rfl (⟨by kernel_rfl,⟨⟨.b (.agg (bz t0)),fun _=>rfl,fun _=>.p (by exact cu bp rfl rfl rfl rfl)⟩,⟨.b (.agg (an x0)),fun _=>rfl,fun _=>.p (by exact cu bg rfl rfl rfl rfl)⟩,⟨Pt 101 2,fun _=>rfl,fun _=>.p (by exact au rF rfl rfl)⟩,⟨.b (.one (.cO t0.key)),fun _=>rfl,fun _=>.p (by exact aJ tyOne44 rfl rfl rfl)⟩,⟨.b (.agg (an x0)),fun _=>rfl,fun _=>.p (by exact cu bg rfl rfl rfl rfl)⟩,⟨.b (.one (.int .u64 x_3)),fun _=>rfl,fun _=>.p (by exact jX (qJ e2) (qK e2) (tt e2) rfl rfl rfl)⟩,⟨.b (.one (.int .u64 x_4)),fun _=>rfl,fun _=>.p (by exact aj (nE e3) goes81 rfl rfl)⟩,⟨.b (.agg (an x0 ++ (.int .u64 x_4 :: ((cC .i64) A3.zero ++ ((cC .i64) A3.zero ++ ([.tr ae (.leaf),.tr ae (.leaf)])))))),fun _=>rfl,fun _=>.p (by exact cg nk rfl rfl)⟩,⟨_,[],.b (.one (.tr ae (.node (⟨x0,x_4,(⟨A3.zero,A3.zero⟩:b5)⟩:a8) (.leaf) (.leaf)))),rfl,fun _=>rfl,rfl,rfl,fun _=>.r6 [101,102,103] (by exact .p (by exact op_boxT (enc:=ae) (⟨x0,x_4,(⟨A3.zero,A3.zero⟩:b5)⟩:a8) (.leaf) (.leaf) rfl rfl)) (by exact rfl)⟩,trivial,trivial,trivial⟩,⟨by kernel_rfl,⟨⟨.b (.agg (bz t0)),fun _=>rfl,fun _=>.p (by exact cu bp rfl rfl rfl rfl)⟩,trivial,trivial,trivial,trivial,trivial,trivial,trivial,trivial,⟨.b (.one (.tr ae x_5)),fun _=>rfl,fun _=>.p (by exact aj (bC e4) kO rfl rfl)⟩,⟨.b (.one (.tr ae x_5)),fun _=>rfl,fun _=>.p (by exact bR rfl)⟩,trivial⟩,trivial⟩⟩) rfl rfl rfl [2,4,5,6,7] [101,103] (s':=⟨[(2,_),(4,_),(5,_),(6,_),(7,.b (.one (.tr ae x_5)))],[(101,_),(103,_)]⟩) rfl ?_
 refine ab.seq (ab.ag ⟨[(2,_),(4,_),(5,_),(6,_),(7,_)],[(101,_),(103,_)]⟩ rfl ?_)
 obtain ⟨x_6,e5,h⟩:=aP h
 obtain ⟨x_7,e6,h⟩:=aP h
 refine ab.bZ mixed 8 [.b (.agg (bz t0)),.b (.agg (bz t0)),.b (.one (.tr ae x_1)),.b (.one (.tr ae x_5)),.b (.one (.tr ae x_6)),.b (.one (.tr ae x_2)),.b (.one (.tr ae x_7)),Pt 101 0] [2,4] [101,103] (s':=⟨[(2,_),(4,_)],[(101,.box 47 [.tr ae x_7,.cO t0.compare,.cO t0.key,.cO t0.box]),(103,_)]⟩) rfl ⟨fun _=>.p (lp bp),fun _=>.p (lp bp),fun _=>.p om,fun _=>.p om,fun _=>.p (aj (dM e5) mV rfl rfl),fun _=>.p om,fun _=>.p (aj (dM e6) mV rfl rfl),fun _=>.p (au fk rfl rfl),trivial⟩ ⟨_,by exact .p (dH bf rfl rfl rfl (Nat.le_of_ble_eq_true rfl) rfl),rfl⟩ rfl (ab.seq (ab.aa ?_))
 refine af.lj bz h rfl (lp bp) (fun x_8 h=>?_)
 refine Oc (aG bp rfl rfl rfl rfl (Nat.le_of_ble_eq_true rfl) rfl) (af.ai ⟨[(4,_)],[(103,.box 47 (bz x_8))]⟩ rfl (ab.ret ?_))
 obtain rfl:=Option.some.inj h
 refine Fin.ag ⟨[(4,_)],[(103,_)]⟩ rfl (Fin.av [.agg (bz x_8)] (.inl rfl) rfl (.cons (.agg bp rfl rfl rfl rfl) .nil) ⟨rfl,rfl⟩)
def bV (F:Nat) (s0:cW) (id0:Int) (b0:b5):Option (cW × Int) :=
 (bD F b0).bind fun x_1=>if (!x_1) = true then (eb (⟨(⟨.leaf,0,0,0⟩:hX),(⟨.leaf,0,0,0⟩:hX)⟩:cW) fun x_2=>some (x_2,1)) else (Option.bind (b9 F s0 id0) (fh fun x_3 x_4=>if x_4 = true then (eb (⟨(⟨.leaf,0,0,0⟩:hX),(⟨.leaf,0,0,0⟩:hX)⟩:cW) fun x_5=>some (x_5,6)) else ((bq F s0.ids (⟨id0,b0⟩:entry)).bind fun x_6=>(bq F s0.boxes (⟨id0,b0⟩:entry)).bind fun x_7=>some ((⟨x_6,x_7⟩:cW),0))))
theorem cM {F:Nat} {s0:cW} {id0:Int} {b0:b5} {r:cW × Int} (h:bV F s0 id0 b0 = some r):ao Tryz.prog [] 29 [] [.agg (aH s0),.one (.i id0),.agg (ak b0)] (Is [] (.dY [.agg (aH r.1),.one (.i r.2)])):=by
 unfold bV at h
 refine ao.intro 35 Tryz.func29 Tryz.ntmps29 rfl (by simp) fun E=>?_
 show ab _ E ⟨35,[],[],[]⟩ _ ⟨[(0,.b (.agg (aH s0))),(1,I id0),(2,.b (.agg (ak b0)))],[]⟩ _
 refine ab.seq (ab.aa ?_)
 refine Oc (bK (k:=101) rfl rfl) (Oc (bK (k:=102) rfl rfl) (Oc (aY (k:=103) fa rfl) (Oc oa ?_)))
 refine af.ai ⟨[(1,I id0),(3,Pt 101 0),(5,Pt 102 0),(6,Pt 103 0)],[(101,.box 49 (aH s0)),(102,.box 25 (ak b0)),(103,.box 49 [.tr ae (.leaf),.cO 0,.cO 0,.cO 0,.tr ae (.leaf),.cO 0,.cO 0,.cO 0])]⟩ rfl (ab.seq (ab.seq (ab.aa ?_)))
 refine Oc (lp ay) ?_
 obtain ⟨x_1,e1,h⟩:=aP h
 refine Oc (aj (bY e1) jq rfl rfl) (Oc (dW rfl) ?_)
 refine af.ai ⟨[(1,_),(3,_),(5,_),(6,_),(13,B (!x_1))],[(101,_),(102,_),(103,_)]⟩ rfl (ab.ite h rfl (fun _ h=>?_) (fun _ h=>?_))
 ·refine ab.seq (ab.aa ?_)
  refine af.lj aH h rfl (cg ez rfl rfl) (fun x_2 h=>?_)
  refine Oc (aG aS rfl rfl rfl rfl (Nat.le_of_ble_eq_true rfl) rfl) (Oc oa ?_)
  refine af.ai ⟨[(6,_),(7,I 1)],[(103,.box 49 (aH x_2))]⟩ rfl (ab.ret (Fin.ax ?_))
  obtain rfl:=Option.some.inj h
  refine Fin.ag ⟨[(6,_),(7,_)],[(103,_)]⟩ rfl (Fin.av [.agg (aH x_2),.one (.i 1)] (.inl rfl) rfl (.cons (.agg aS rfl rfl rfl rfl) (.cons (.tmp rfl) .nil)) ⟨rfl,rfl⟩)
 ·refine ab.skip (Fin.ag ⟨[(1,_),(3,_),(5,_),(6,_)],[(101,_),(102,_),(103,_)]⟩ rfl (Fin.then (ab.seq (ab.seq (ab.aa ?_)))))
  refine Oc (lp aS) (Oc om ?_)
  obtain ⟨⟨x_3,x_4⟩,e2,h⟩:=aP h
  refine Oc (aj (ey e2) qp rfl rfl) (Oc om (Oc (az rfl rfl) ?_))
  refine af.ag ⟨[(1,_),(3,_),(5,_),(6,_),(15,.dY [.agg (an x_3),.one (.bool x_4)]),(19,.b (.agg (an x_3)))],[(101,_),(102,_),(103,_)]⟩ rfl (Oc (az rfl rfl) (Oc (aY (k:=104) gv rfl) (Oc (aG bg rfl rfl rfl rfl (Nat.le_of_ble_eq_true rfl) rfl) (Oc oa ?_))))
  refine af.ai ⟨[(1,_),(3,_),(5,_),(6,_),(9,B x_4)],[(101,_),(102,_),(103,_)]⟩ rfl (ab.seq (ab.aa ?_))
  refine Oc om (af.ai ⟨[(1,_),(3,_),(5,_),(6,_),(21,B x_4)],[(101,_),(102,_),(103,_)]⟩ rfl (ab.ite h rfl (fun _ h=>?_) (fun _ h=>?_)))
  ·refine ab.seq (ab.aa ?_)
   refine af.lj aH h rfl (cg ez rfl rfl) (fun x_5 h=>?_)
   refine Oc (aG aS rfl rfl rfl rfl (Nat.le_of_ble_eq_true rfl) rfl) (Oc oa ?_)
   refine af.ai ⟨[(6,_),(7,I 6)],[(103,.box 49 (aH x_5))]⟩ rfl (ab.ret (Fin.ax ?_))
   obtain rfl:=Option.some.inj h
   refine Fin.ag ⟨[(6,_),(7,_)],[(103,_)]⟩ rfl (Fin.av [.agg (aH x_5),.one (.i 6)] (.inl rfl) rfl (.cons (.agg aS rfl rfl rfl rfl) (.cons (.tmp rfl) .nil)) ⟨rfl,rfl⟩)
  ·refine ab.skip (Fin.ag ⟨[(1,_),(3,_),(5,_),(6,_)],[(101,_),(102,_),(103,_)]⟩ rfl (Fin.then (ab.seq (ab.aa ?_))))
   refine Oc om (Oc (lp ay) (Oc (cg nW rfl rfl) (Oc (aY (k:=105) gv rfl) (Oc (aG bg rfl rfl rfl rfl (Nat.le_of_ble_eq_true rfl) rfl) ?_))))
   refine af.ai ⟨[(3,_),(6,_),(10,Pt 105 0)],[(101,_),(103,_),(105,.box 87 (.i id0 :: (ak b0)))]⟩ rfl (ab.seq ?_)
   obtain ⟨x_6,e3,h⟩:=aP h
   obtain ⟨x_7,e4,h⟩:=aP h
   refine ab.bZ mixed 9 [Pt 101 0,.b (.agg (bz s0.ids)),.b (.agg (.i id0 :: (ak b0))),.b (.agg (bz x_6)),Pt 101 4,.b (.agg (bz s0.boxes)),.b (.agg (.i id0 :: (ak b0))),.b (.agg (bz x_7)),.b (.agg (bz x_6 ++ (bz x_7)))] [6,7] [103] (s':=⟨[(6,_),(7,I 0)],[(103,.box 49 (bz x_6 ++ (bz x_7)))]⟩) rfl ⟨fun _=>.p (au jU rfl rfl),fun _=>.p (lp bp),fun _=>.p (lp bg),fun _=>.p (aj (fN e3) sG rfl rfl),fun _=>.p (au lQ rfl rfl),fun _=>.p (lp bp),fun _=>.p (lp bg),fun _=>.p (aj (fN e4) sG rfl rfl),fun _=>.p (cg ez rfl rfl),trivial⟩ ⟨_,by exact .p (aG aS rfl rfl rfl rfl (Nat.le_of_ble_eq_true rfl) rfl),⟨_,by exact .p oa,rfl⟩⟩ rfl (ab.ret ?_)
   obtain rfl:=Option.some.inj h
   refine Fin.ag ⟨[(6,_),(7,_)],[(103,_)]⟩ rfl (Fin.av [.agg (bz x_6 ++ (bz x_7)),.one (.i 0)] (.inl rfl) rfl (.cons (.agg aS rfl rfl rfl rfl) (.cons (.tmp rfl) .nil)) ⟨rfl,rfl⟩)
def cm (F:Nat) (s0:cW) (b0:b5):Option (List Int) :=
 Option.bind (rB (fun t=>dm F t b0) s0.boxes.root) (fun xs_1=>Option.bind (each (fun outf0_3=>fun x_2=>(b6 F x_2.b b0).bind fun x_4=>if x_4 = true then ((mF outf0_3 [x_2.id]).bind fun x_5=>some (.inl x_5)) else (some (.inl outf0_3))) (xs_1) []) (cq (fun outf0_3=>(fy F outf0_3).bind fun x_6=>some x_6) (fun (_:Unit)=>none)))
theorem c3 {F:Nat} {s0:cW} {b0:b5} {r:(List Int)} (h:cm F s0 b0 = some r):ao Tryz.prog [] 55 [] [.agg (aH s0),.agg (ak b0)] (Is [(51,.row 3 1 (r.map eI))] (.b (.row 51))):=by
 unfold cm at h
 refine ao.sC 25 Tryz.func55 Tryz.ntmps55 rfl (by simp) fun E=>?_
 show ab _ E ⟨25,[],[],[]⟩ _ ⟨[(0,.b (.agg (aH s0))),(1,.b (.agg (ak b0)))],[]⟩ _
 refine ab.seq (ab.aa ?_)
 refine Oc (lA rfl) (Oc (lA rfl) (Oc oa ?_))
 refine af.ai ⟨[(2,.b (.aK (aH s0))),(3,.b (.aK (ak b0)))],[]⟩ rfl (ab.seq (ab.aa ?_))
 refine Oc (aY (k:=101) s5 rfl) (af.ai ⟨[(2,_),(3,_),(5,Pt 101 0)],[(101,.box 51 [.nil])]⟩ rfl (ab.seq (ab.seq (ab.aa ?_))))
 refine Oc (aC lQ rfl rfl) (Oc (aC fk rfl rfl) (Oc (ar bf rfl rfl) (Oc (gh rfl) (Oc (aj pO sH rfl rfl) ?_))))
 refine af.ai ⟨[(3,_),(5,_),(11,.b (.one (.eP 77 [CP.rp [.tr ae s0.boxes.root],CP.rp [.eP 74 [CP.rp (ak b0)]]])))],[(101,_)]⟩ rfl ?_
 obtain ⟨xs_1,e1,h⟩:=aP h
 refine ab.ag ⟨[(3,.b (.aK (ak b0))),(5,Pt 101 0),(11,.b (.one (.eP 77 [CP.rp [.tr ae s0.boxes.root],CP.rp [.eP 74 [CP.rp (ak b0)]]])))],[(101,.box 51 [.nil])]⟩ rfl (ab.toX 101 rfl (ab.gJ 101 0 104 1 3 rfl rfl (by decide) (by decide) rfl (ab.ag ⟨[(3,_),(5,_),(11,_)],[(101,.bS 51 [.row 104]),(104,.row 3 1 ([].map eI))]⟩ rfl (ab.su _ se _ _ (fun (outf0_3:List Int)=>[(101,.bS 51 [.row 104]),(104,.row 3 1 (outf0_3.map eI))]) (fun (_:Unit)=>([]:List (Nat × OC))) (fun (outf0_3:List Int)=>fun x_2=>⟨[(3,.b (.aK (ak b0))),(5,Pt 101 0),(6,Pt 106 0)],[(101,.bS 51 [.row 104]),(104,.row 3 1 (outf0_3.map eI)),(106,.box 87 (an x_2))]⟩) h (pP pZ e1) sE rfl rfl rfl (fun _=>rfl) (fun _=>rfl) (fun _=>rfl) (fun _ _=>rfl) (fun _ _=>rfl) rfl (fun _=>rfl) ?_ ?_ ?_ ?_))))
 ·rintro E l outf0_3 x_2 z _ h2
  refine aU.keep [3,5,11,12] [101,104] (s':=⟨[(3,.b (.aK (ak b0))),(5,Pt 101 0),(11,.b (.one (.eP 77 [CP.rp [.tr ae s0.boxes.root],CP.rp [.eP 74 [CP.rp (ak b0)]]]))),(12,.b (.agg (an x_2)))],[(101,.bS 51 [.row 104]),(104,.row 3 1 (outf0_3.map eI))]⟩) rfl (aU.aa (.inr ⟨_,rfl⟩) (Oc (aY (k:=106) gv rfl) (Oc (aG bg rfl rfl rfl rfl (Nat.le_of_ble_eq_true rfl) rfl) ?_)))
  refine af.nil ?_
  exact Fin.ag ⟨[(3,_),(5,_),(6,Pt 106 0)],[(101,_),(104,_),(106,.box 87 (an x_2))]⟩ rfl (fun a w hr=>hr)
 ·rintro E l outf0_3 x_2 z _ h2
  refine aU.block (aU.seq (aU.aa (.inr ⟨_,rfl⟩) (Oc (au gl rfl rfl) (Oc (lp ay) (Oc (ck ay rfl rfl rfl) ?_)))))
  obtain ⟨x_4,e3,h2⟩:=aP h2
  refine Oc (aj (cx e3) kP rfl rfl) (af.nil (Fin.ag ⟨[(3,.b (.aK (ak b0))),(5,Pt 101 0),(6,Pt 106 0),(16,B x_4)],[(101,.bS 51 [.row 104]),(104,.row 3 1 (outf0_3.map eI)),(106,.box 87 (an x_2))]⟩ rfl (Fin.fT ?_ (fun ⟨_,_,hl⟩=>hl))))
  refine aU.ite h2 rfl (fun _ h2=>?_) (fun _ h2=>?_)
  ·refine aU.aa (.inr ⟨_,rfl⟩) (Oc (gA mI rfl rfl rfl) (Oc (au dv rfl rfl) (Oc (aJ aQ rfl rfl rfl) (Oc (cp (k:=107) (es:=[x_2.id].map eI) ca rfl rfl (cF fun _=>rfl) rfl (by decide) (by decide) rfl) ?_))))
   refine af.forget 101 0 rfl ?_
   obtain ⟨x_5,e4,h2⟩:=aP h2
   refine Oc (fL ca (pj e4) (ph e4) rfl rfl rfl rfl (lx e4) rfl) (Oc (mx mI rfl rfl rfl rfl (Nat.le_of_ble_eq_true rfl) rfl) ?_)
   refine af.nil (Fin.aB ?_)
   obtain rfl:=Option.some.inj h2
   exact Fin.ag ⟨[],[(101,.bS 51 [.row 104]),(104,.row 3 1 (x_5.map eI))]⟩ rfl (fun a w hr=>⟨_,rfl,hr⟩)
  ·refine aU.skip (Fin.aB ?_)
   obtain rfl:=Option.some.inj h2
   exact Fin.ag ⟨[],[(101,_),(104,_)]⟩ rfl (fun a w hr=>⟨_,rfl,hr⟩)
 ·rintro E D outf0_3 h5
  refine ab.seq (ab.aa ?_)
  refine Oc (gA mI rfl rfl rfl) (af.rA 104 rfl ?_)
  obtain ⟨x_6,e6,h5⟩:=aP h5
  refine Oc (cZ (own_a:=[(104,_)]) ((mb e6).sw 1 104) goes75 rfl ⟨rfl,trivial⟩ rfl rfl) (af.rz 104 rfl (af.ai ⟨[(5,Pt 101 0)],[(101,.bS 51 [.row 104]),(104,.row 3 1 (x_6.map eI))]⟩ rfl (ab.seq (ab.aa ?_))))
  refine Oc (gA mI rfl rfl rfl) (Oc oa ?_)
  refine af.ai ⟨[(4,.b (.row 104))],[(104,_)]⟩ rfl (ab.ret ?_)
  obtain rfl:=Option.some.inj h5
  refine Fin.ag ⟨[(4,.b (.row 104))],[(104,.row 3 1 (x_6.map eI))]⟩ rfl (Fin.rename 104 51 rfl (by decide) rfl (Fin.ag ⟨[(4,.b (.row 51))],[(51,.row 3 1 (x_6.map eI))]⟩ rfl ?_))
  exact Fin.result [.row 51] (.inl rfl) rfl (.cons (.tmp rfl) .nil) ⟨rfl,rfl⟩
 ·rintro E D ⟨⟩ h5
  cases h5
def c8 (F:Nat) (s0:cW) (b0:b5):Option ((List Int) × Int) :=
 (bD F b0).bind fun x_1=>if (!x_1) = true then (some ([],1)) else ((cm F s0 b0).bind fun x_2=>some (x_2,0))
theorem fW (kr0:Nat) {F:Nat} {s0:cW} {b0:b5} {r:(List Int) × Int} (h:c8 F s0 b0 = some r):ao Tryz.prog [] 31 [] [.agg (aH s0),.agg (ak b0)] (Is [(kr0,.row 3 1 (r.1.map eI))] (.dY [.row kr0,.one (.i r.2)])):=by
 unfold c8 at h
 refine ao.intro 12 Tryz.func31 Tryz.ntmps31 rfl (by simp) fun E=>?_
 show ab _ E ⟨12,[],[],[]⟩ _ ⟨[(0,.b (.agg (aH s0))),(1,.b (.agg (ak b0)))],[]⟩ _
 refine ab.seq (ab.aa ?_)
 refine Oc (bK (k:=101) rfl rfl) (Oc (bK (k:=102) rfl rfl) (Oc oa (Oc oa ?_)))
 refine af.ai ⟨[(2,Pt 101 0),(3,Pt 102 0)],[(101,.box 49 (aH s0)),(102,.box 25 (ak b0))]⟩ rfl (ab.seq (ab.seq (ab.aa ?_)))
 refine Oc (lp ay) ?_
 obtain ⟨x_1,e1,h⟩:=aP h
 refine Oc (aj (bY e1) jq rfl rfl) (Oc (dW rfl) ?_)
 refine af.ai ⟨[(2,_),(3,_),(8,B (!x_1))],[(101,_),(102,_)]⟩ rfl (ab.ite h rfl (fun _ h=>?_) (fun _ h=>?_))
 ·refine ab.seq (ab.aa ?_)
  refine Oc oa (Oc oa ?_)
  refine af.ai ⟨[(4,.b (.one (.nil))),(5,I 1)],[]⟩ rfl (ab.ret (Fin.ax ?_))
  obtain rfl:=Option.some.inj h
  refine Fin.ag ⟨[(4,_),(5,_)],[]⟩ rfl (Fin.fj 4 103 1 3 rfl (by decide) rfl (Fin.ln 103 kr0 [.row 103,.one (.i 1)] (.inl rfl) rfl (.cons (.tmp rfl) (.cons (.tmp rfl) .nil)) rfl rfl rfl rfl ⟨rfl,rfl⟩))
 ·refine ab.skip (Fin.ag ⟨[(2,_),(3,_)],[(101,_),(102,_)]⟩ rfl (Fin.then (ab.seq (ab.aa ?_))))
  refine Oc (lp aS) (Oc (lp ay) ?_)
  obtain ⟨x_2,e2,h⟩:=aP h
  refine Oc (cZ (own_a:=[]) ((c3 e2).sw 51 104) oB rfl trivial rfl rfl) (Oc oa (Oc oa ?_))
  refine af.ai ⟨[(4,.b (.row 104)),(5,I 0)],[(104,.row 3 1 (x_2.map eI))]⟩ rfl (ab.ret ?_)
  obtain rfl:=Option.some.inj h
  refine Fin.ag ⟨[(4,_),(5,_)],[(104,_)]⟩ rfl (Fin.ln 104 kr0 [.row 104,.one (.i 0)] (.inl rfl) rfl (.cons (.tmp rfl) (.cons (.tmp rfl) .nil)) rfl rfl rfl rfl ⟨rfl,rfl⟩)
def bP (F:Nat):Nat → hX → (cw a8) → entry → Option (cw a8)
 | 0,_,_,_=>none
 | n + 1,t0,n0,x0=>Option.bind (iy n0) (fun nd_1=>(eY F t0.compare x0 nd_1.1.x).bind fun x_2=>if (decide (x_2 < 0)) = true then (Option.bind (iy n0) (fun nd_3=>(bP F n t0 nd_3.2.1 x0).bind fun x_4=>Option.bind (iy n0) (fun nd_5=>(aX F t0 n0 x_4 nd_5.2.2).bind fun x_6=>some x_6))) else (if (decide (0 < x_2)) = true then (Option.bind (iy n0) (fun nd_7=>Option.bind (iy n0) (fun nd_8=>(bP F n t0 nd_8.2.2 x0).bind fun x_9=>(aX F t0 n0 nd_7.2.1 x_9).bind fun x_10=>some x_10))) else (Option.bind (iy n0) (fun nd_11=>Option.bind (iy n0) (fun nd_12=>(b7 F t0 nd_11.2.1 nd_12.2.2).bind fun x_13=>some x_13)))))
def fg (F:Nat) (t0:hX) (n0:cw a8) (x0:entry):Option (cw a8):=bP F F t0 n0 x0
theorem jc {F:Nat}:∀ (n:Nat) {t0:hX} {n0:cw a8} {x0:entry} {r:(cw a8)} (h:bP F n t0 n0 x0 = some r),ao Tryz.prog [] 83 [] [.agg (bz t0),.one (.tr ae n0),.agg (an x0)] (Is [] (.b (.one (.tr ae r)))):=by
 intro n
 induction n with
 | zero=>intro t0 n0 x0 r h; simp [bP] at h
 | succ n ih=>
 intro t0 n0 x0 r h
 unfold bP at h
 refine ao.intro 60 Tryz.func83 Tryz.ntmps83 rfl (by simp) fun E=>?_
 show ab _ E ⟨60,[],[],[]⟩ _ ⟨[(0,.b (.agg (bz t0))),(1,.b (.one (.tr ae n0))),(2,.b (.agg (an x0)))],[]⟩ _
 refine ab.seq (ab.aa ?_)
 refine Oc (bK (k:=101) rfl rfl) (Oc (bK (k:=102) rfl rfl) (Oc oa ?_))
 refine af.ai ⟨[(1,.b (.one (.tr ae n0))),(3,Pt 101 0),(5,Pt 102 0)],[(101,.box 47 (bz t0)),(102,.box 87 (an x0))]⟩ rfl (ab.seq (ab.seq ?_))
 refine ab.ag ⟨[(1,_),(3,_),(5,_)],[(101,_),(102,_)]⟩ rfl ?_
 obtain ⟨nd_1,e1,h⟩:=aP h
 obtain ⟨x_2,e2,h⟩:=aP h
 refine ab.bZ mixed 9 [Pt 101 1,.b (.one (.cO t0.compare)),.b (.agg (an x0)),.b (.one (.tr ae n0)),.b (.aK (an nd_1.1.x ++ (.int .u64 nd_1.1.priority :: (ak nd_1.1.cover ++ ([.tr ae nd_1.2.1,.tr ae nd_1.2.2]))))),.b (.aK (an nd_1.1.x ++ (.int .u64 nd_1.1.priority :: (ak nd_1.1.cover ++ ([.tr ae nd_1.2.1,.tr ae nd_1.2.2]))))),.b (.agg (an nd_1.1.x)),I x_2,I x_2] [1,3,5,7] [101,102] (s':=⟨[(1,_),(3,_),(5,_),(7,I x_2)],[(101,_),(102,_)]⟩) rfl ⟨fun _=>.p (au nV rfl rfl),fun _=>.p (aJ q9 rfl rfl rfl),fun _=>.p (lp bg),fun _=>.p om,fun _=>.p (aD e1 rfl rfl),fun _=>by exact .p (aC dG rfl rfl),fun _=>.p (ck bg rfl rfl rfl),fun _=>.p (jX (nA e2) (nB e2) (pM e2) rfl rfl rfl),fun _=>.p oa,trivial⟩ rfl rfl (ab.block (ab.seq (ab.aa ?_)))
 refine Oc om (Oc (bE rfl rfl) (Oc oa ?_))
 refine af.ai ⟨[(1,_),(3,_),(5,_),(7,_),(16,B (decide (x_2 < 0)))],[(101,_),(102,_)]⟩ rfl (ab.ite h rfl (fun _ h=>?_) (fun _ h=>?_))
 ·refine ab.seq (ab.ag ⟨[(1,_),(3,_),(5,_)],[(101,_),(102,_)]⟩ rfl ?_)
  obtain ⟨nd_3,e3,h⟩:=aP h
  obtain ⟨x_4,e4,h⟩:=aP h
  obtain ⟨nd_5,e5,h⟩:=aP h
  obtain ⟨x_6,e6,h⟩:=aP h
  refine ab.bZ mixed 15 [.b (.agg (bz t0)),.b (.one (.tr ae n0)),.b (.agg (bz t0)),.b (.one (.tr ae n0)),.b (.aK (an nd_3.1.x ++ (.int .u64 nd_3.1.priority :: (ak nd_3.1.cover ++ ([.tr ae nd_3.2.1,.tr ae nd_3.2.2]))))),.b (.aK [.tr ae nd_3.2.1,.tr ae nd_3.2.2]),.b (.one (.tr ae nd_3.2.1)),.b (.agg (an x0)),.b (.one (.tr ae x_4)),.b (.one (.tr ae n0)),.b (.aK (an nd_5.1.x ++ (.int .u64 nd_5.1.priority :: (ak nd_5.1.cover ++ ([.tr ae nd_5.2.1,.tr ae nd_5.2.2]))))),.b (.aK [.tr ae nd_5.2.2]),.b (.one (.tr ae nd_5.2.2)),.b (.one (.tr ae x_6)),.b (.one (.tr ae x_6))] [6] [] (s':=⟨[(6,.b (.one (.tr ae x_6)))],[]⟩) rfl ⟨fun _=>.p (lp bp),fun _=>.p om,fun _=>.p (lp bp),fun _=>.p om,fun _=>.p (aD e3 rfl rfl),fun _=>by exact .p (aC dg rfl rfl),fun _=>.p (ar bf rfl rfl),fun _=>.p (lp bg),fun _=>.p (aj (ih e4) qn rfl rfl),fun _=>.p om,fun _=>.p (aD e5 rfl rfl),fun _=>by exact .p (aC df rfl rfl),fun _=>.p (ar bf rfl rfl),fun _=>.p (aj (bC e6) kO rfl rfl),fun _=>.p oa,trivial⟩ rfl rfl (ab.ret (Fin.aV (Fin.ax ?_)))
  obtain rfl:=Option.some.inj h
  refine Fin.ag ⟨[(6,_)],[]⟩ rfl (Fin.av [.one (.tr ae x_6)] (.inl rfl) rfl (.cons (.tmp rfl) .nil) ⟨rfl,rfl⟩)
 ·refine ab.seq (ab.aa ?_)
  refine Oc om (Oc (kN rfl rfl) (Oc oa ?_))
  refine af.ai ⟨[(1,_),(3,_),(5,_),(33,B (decide (0 < x_2)))],[(101,_),(102,_)]⟩ rfl (ab.ite h rfl (fun _ h=>?_) (fun _ h=>?_))
  ·refine ab.seq (ab.ag ⟨[(1,_),(3,_),(5,_)],[(101,_),(102,_)]⟩ rfl ?_)
   obtain ⟨nd_7,e7,h⟩:=aP h
   obtain ⟨nd_8,e8,h⟩:=aP h
   obtain ⟨x_9,e9,h⟩:=aP h
   obtain ⟨x_10,e10,h⟩:=aP h
   refine ab.bZ mixed 15 [.b (.agg (bz t0)),.b (.one (.tr ae n0)),.b (.one (.tr ae n0)),.b (.aK (an nd_7.1.x ++ (.int .u64 nd_7.1.priority :: (ak nd_7.1.cover ++ ([.tr ae nd_7.2.1,.tr ae nd_7.2.2]))))),.b (.aK [.tr ae nd_7.2.1,.tr ae nd_7.2.2]),.b (.one (.tr ae nd_7.2.1)),.b (.agg (bz t0)),.b (.one (.tr ae n0)),.b (.aK (an nd_8.1.x ++ (.int .u64 nd_8.1.priority :: (ak nd_8.1.cover ++ ([.tr ae nd_8.2.1,.tr ae nd_8.2.2]))))),.b (.aK [.tr ae nd_8.2.2]),.b (.one (.tr ae nd_8.2.2)),.b (.agg (an x0)),.b (.one (.tr ae x_9)),.b (.one (.tr ae x_10)),.b (.one (.tr ae x_10))] [6] [] (s':=⟨[(6,.b (.one (.tr ae x_10)))],[]⟩) rfl ⟨fun _=>.p (lp bp),fun _=>.p om,fun _=>.p om,fun _=>.p (aD e7 rfl rfl),fun _=>by exact .p (aC dg rfl rfl),fun _=>.p (ar bf rfl rfl),fun _=>.p (lp bp),fun _=>.p om,fun _=>.p (aD e8 rfl rfl),fun _=>by exact .p (aC df rfl rfl),fun _=>.p (ar bf rfl rfl),fun _=>.p (lp bg),fun _=>.p (aj (ih e9) qn rfl rfl),fun _=>.p (aj (bC e10) kO rfl rfl),fun _=>.p oa,trivial⟩ rfl rfl (ab.ret (Fin.aV (Fin.ax ?_)))
   obtain rfl:=Option.some.inj h
   refine Fin.ag ⟨[(6,_)],[]⟩ rfl (Fin.av [.one (.tr ae x_10)] (.inl rfl) rfl (.cons (.tmp rfl) .nil) ⟨rfl,rfl⟩)
  ·refine ab.skip (Fin.aB (Fin.ag ⟨[(1,_),(3,_)],[(101,_)]⟩ rfl (Fin.then (ab.seq ?_))))
   refine ab.ag ⟨[(1,_),(3,_)],[(101,_)]⟩ rfl ?_
   obtain ⟨nd_11,e11,h⟩:=aP h
   obtain ⟨nd_12,e12,h⟩:=aP h
   obtain ⟨x_13,e13,h⟩:=aP h
   refine ab.bZ mixed 11 [.b (.agg (bz t0)),.b (.one (.tr ae n0)),.b (.aK (an nd_11.1.x ++ (.int .u64 nd_11.1.priority :: (ak nd_11.1.cover ++ ([.tr ae nd_11.2.1,.tr ae nd_11.2.2]))))),.b (.aK [.tr ae nd_11.2.1,.tr ae nd_11.2.2]),.b (.one (.tr ae nd_11.2.1)),.b (.one (.tr ae n0)),.b (.aK (an nd_12.1.x ++ (.int .u64 nd_12.1.priority :: (ak nd_12.1.cover ++ ([.tr ae nd_12.2.1,.tr ae nd_12.2.2]))))),.b (.aK [.tr ae nd_12.2.2]),.b (.one (.tr ae nd_12.2.2)),.b (.one (.tr ae x_13)),.b (.one (.tr ae x_13))] [6] [] (s':=⟨[(6,.b (.one (.tr ae x_13)))],[]⟩) rfl ⟨fun _=>.p (lp bp),fun _=>.p om,fun _=>.p (aD e11 rfl rfl),fun _=>by exact .p (aC dg rfl rfl),fun _=>.p (ar bf rfl rfl),fun _=>.p om,fun _=>.p (aD e12 rfl rfl),fun _=>by exact .p (aC df rfl rfl),fun _=>.p (ar bf rfl rfl),fun _=>.p (aj (dM e13) mV rfl rfl),fun _=>.p oa,trivial⟩ rfl rfl (ab.ret ?_)
   obtain rfl:=Option.some.inj h
   refine Fin.ag ⟨[(6,_)],[]⟩ rfl (Fin.av [.one (.tr ae x_13)] (.inl rfl) rfl (.cons (.tmp rfl) .nil) ⟨rfl,rfl⟩)
theorem jL {F:Nat} {t0:hX} {n0:cw a8} {x0:entry} {r:(cw a8)} (h:fg F t0 n0 x0 = some r):ao Tryz.prog [] 83 [] [.agg (bz t0),.one (.tr ae n0),.agg (an x0)] (Is [] (.b (.one (.tr ae r)))):=jc F h
def bc (F:Nat) (t0:hX) (x0:entry):Option hX :=
 (fg F t0 t0.root x0).bind fun x_1=>eb (⟨x_1,t0.compare,t0.key,t0.box⟩:hX) fun x_2=>some x_2
theorem eO {F:Nat} {t0:hX} {x0:entry} {r:hX} (h:bc F t0 x0 = some r):ao Tryz.prog [] 60 [] [.agg (bz t0),.agg (an x0)] (Is [] (.b (.agg (bz r)))):=by
 unfold bc at h
 refine ao.intro 12 Tryz.func60 Tryz.ntmps60 rfl (by simp) fun E=>?_
 show ab _ E ⟨12,[],[],[]⟩ _ ⟨[(0,.b (.agg (bz t0))),(1,.b (.agg (an x0)))],[]⟩ _
 refine ab.seq (ab.aa ?_)
 refine Oc (bK (k:=101) rfl rfl) (Oc (bK (k:=102) rfl rfl) (Oc (aY (k:=103) pk rfl) ?_))
 refine af.ai ⟨[(2,Pt 101 0),(3,Pt 102 0),(4,Pt 103 0)],[(101,.box 47 (bz t0)),(102,.box 87 (an x0)),(103,.box 47 [.tr ae (.leaf),.cO 0,.cO 0,.cO 0])]⟩ rfl (ab.seq (ab.aa ?_))
 refine Oc (lp bp) (Oc (au fk rfl rfl) (Oc (aJ bf rfl rfl rfl) (Oc (lp bg) ?_)))
 obtain ⟨x_1,e1,h⟩:=aP h
 refine Oc (aj (jL e1) qn rfl rfl) (Oc (au fk rfl rfl) (Oc (dH bf rfl rfl rfl (Nat.le_of_ble_eq_true rfl) rfl) ?_))
 refine af.ai ⟨[(2,_),(4,_)],[(101,.box 47 [.tr ae x_1,.cO t0.compare,.cO t0.key,.cO t0.box]),(103,_)]⟩ rfl (ab.seq (ab.aa ?_))
 refine af.lj bz h rfl (lp bp) (fun x_2 h=>?_)
 refine Oc (aG bp rfl rfl rfl rfl (Nat.le_of_ble_eq_true rfl) rfl) (af.ai ⟨[(4,_)],[(103,.box 47 (bz x_2))]⟩ rfl (ab.ret ?_))
 obtain rfl:=Option.some.inj h
 refine Fin.ag ⟨[(4,_)],[(103,_)]⟩ rfl (Fin.av [.agg (bz x_2)] (.inl rfl) rfl (.cons (.agg bp rfl rfl rfl rfl) .nil) ⟨rfl,rfl⟩)
def bX (F:Nat) (s0:cW) (id0:Int):Option (cW × Int) :=
 Option.bind (b9 F s0 id0) (fh fun x_1 x_2=>if (!x_2) = true then (eb (⟨(⟨.leaf,0,0,0⟩:hX),(⟨.leaf,0,0,0⟩:hX)⟩:cW) fun x_3=>some (x_3,5)) else ((bc F s0.ids x_1).bind fun x_4=>(bc F s0.boxes x_1).bind fun x_5=>some ((⟨x_4,x_5⟩:cW),0)))
theorem fi {F:Nat} {s0:cW} {id0:Int} {r:cW × Int} (h:bX F s0 id0 = some r):ao Tryz.prog [] 30 [] [.agg (aH s0),.one (.i id0)] (Is [] (.dY [.agg (aH r.1),.one (.i r.2)])):=by
 unfold bX at h
 refine ao.intro 26 Tryz.func30 Tryz.ntmps30 rfl (by simp) fun E=>?_
 show ab _ E ⟨26,[],[],[]⟩ _ ⟨[(0,.b (.agg (aH s0))),(1,I id0)],[]⟩ _
 refine ab.seq (ab.aa ?_)
 refine Oc (bK (k:=101) rfl rfl) (Oc (aY (k:=102) fa rfl) (Oc oa ?_))
 refine af.ai ⟨[(1,I id0),(2,Pt 101 0),(4,Pt 102 0)],[(101,.box 49 (aH s0)),(102,.box 49 [.tr ae (.leaf),.cO 0,.cO 0,.cO 0,.tr ae (.leaf),.cO 0,.cO 0,.cO 0])]⟩ rfl (ab.seq (ab.aa ?_))
 refine Oc (lp aS) (Oc om ?_)
 obtain ⟨⟨x_1,x_2⟩,e1,h⟩:=aP h
 refine Oc (aj (ey e1) qp rfl rfl) (Oc om (Oc (az rfl rfl) ?_))
 refine af.ag ⟨[(2,_),(4,_),(8,.dY [.agg (an x_1),.one (.bool x_2)]),(12,.b (.agg (an x_1)))],[(101,_),(102,_)]⟩ rfl (Oc (az rfl rfl) (Oc (aY (k:=103) gv rfl) (Oc (aG bg rfl rfl rfl rfl (Nat.le_of_ble_eq_true rfl) rfl) (Oc oa ?_))))
 refine af.ai ⟨[(2,_),(4,_),(6,Pt 103 0),(7,B x_2)],[(101,_),(102,_),(103,.box 87 (an x_1))]⟩ rfl (ab.seq (ab.seq (ab.aa ?_)))
 refine Oc om (Oc (dW rfl) ?_)
 refine af.ai ⟨[(2,_),(4,_),(6,_),(15,B (!x_2))],[(101,_),(102,_),(103,_)]⟩ rfl (ab.ite h rfl (fun _ h=>?_) (fun _ h=>?_))
 ·refine ab.seq (ab.aa ?_)
  refine af.lj aH h rfl (cg ez rfl rfl) (fun x_3 h=>?_)
  refine Oc (aG aS rfl rfl rfl rfl (Nat.le_of_ble_eq_true rfl) rfl) (Oc oa ?_)
  refine af.ai ⟨[(4,_),(5,I 5)],[(102,.box 49 (aH x_3))]⟩ rfl (ab.ret (Fin.ax ?_))
  obtain rfl:=Option.some.inj h
  refine Fin.ag ⟨[(4,_),(5,_)],[(102,_)]⟩ rfl (Fin.av [.agg (aH x_3),.one (.i 5)] (.inl rfl) rfl (.cons (.agg aS rfl rfl rfl rfl) (.cons (.tmp rfl) .nil)) ⟨rfl,rfl⟩)
 ·refine ab.skip (Fin.ag ⟨[(2,_),(4,_),(6,_)],[(101,_),(102,_),(103,_)]⟩ rfl (Fin.then (ab.seq ?_)))
  refine ab.ag ⟨[(2,_),(4,_),(6,_)],[(101,_),(102,_),(103,_)]⟩ rfl ?_
  obtain ⟨x_4,e2,h⟩:=aP h
  obtain ⟨x_5,e3,h⟩:=aP h
  refine ab.bZ mixed 9 [Pt 101 0,.b (.agg (bz s0.ids)),.b (.agg (an x_1)),.b (.agg (bz x_4)),Pt 101 4,.b (.agg (bz s0.boxes)),.b (.agg (an x_1)),.b (.agg (bz x_5)),.b (.agg (bz x_4 ++ (bz x_5)))] [4,5] [102] (s':=⟨[(4,_),(5,I 0)],[(102,.box 49 (bz x_4 ++ (bz x_5)))]⟩) rfl ⟨fun _=>.p (au jU rfl rfl),fun _=>.p (lp bp),fun _=>.p (lp bg),fun _=>.p (aj (eO e2) sF rfl rfl),fun _=>.p (au lQ rfl rfl),fun _=>.p (lp bp),fun _=>.p (lp bg),fun _=>.p (aj (eO e3) sF rfl rfl),fun _=>.p (cg ez rfl rfl),trivial⟩ ⟨_,by exact .p (aG aS rfl rfl rfl rfl (Nat.le_of_ble_eq_true rfl) rfl),⟨_,by exact .p oa,rfl⟩⟩ rfl (ab.ret ?_)
  obtain rfl:=Option.some.inj h
  refine Fin.ag ⟨[(4,_),(5,_)],[(102,_)]⟩ rfl (Fin.av [.agg (bz x_4 ++ (bz x_5)),.one (.i 0)] (.inl rfl) rfl (.cons (.agg aS rfl rfl rfl rfl) (.cons (.tmp rfl) .nil)) ⟨rfl,rfl⟩)
def kY (F:Nat) (x0:Int) (y0:Int):Option Bool :=
 (dJ F x0).bind fun x_1=>(bu x_1 (dJ F y0)).bind fun x_2=>some ((x_1 && (!x_2)) || (decide (x0 < y0)))
theorem nP {F:Nat} {x0:Int} {y0:Int} {r:Bool} (h:kY F x0 y0 = some r):ao Tryz.prog [] 98 [] [.one (.i x0),.one (.i y0)] (Is [] (.b (.one (.bool r)))):=by
 unfold kY at h
 refine ao.intro 17 Tryz.func98 Tryz.ntmps98 rfl (by simp) fun E=>?_
 show ab _ E ⟨17,[],[],[]⟩ _ ⟨[(0,I x0),(1,I y0)],[]⟩ _
 refine ab.seq (ab.aa ?_)
 refine Oc oa (af.ai ⟨[(0,I x0),(1,I y0)],[]⟩ rfl (ab.seq (ab.aa ?_)))
 refine Oc om ?_
 obtain ⟨x_1,e1,h⟩:=aP h
 refine Oc (aj (fe e1) oA rfl rfl) (Oc om ?_)
 refine dV x_1 [] (fun g2=>trivial) (fun g2=>om) (af.ag ⟨[(0,_),(1,_),(7,B x_1),(8,.opt x_1 (.one (.i y0)))],[]⟩ rfl ?_)
 obtain ⟨x_2,e4,h⟩:=aP h
 refine dV x_1 [8] (fun g3=>⟨g3,trivial⟩) (fun g3=>aj (fe (gc e4 g3)) oA rfl rfl) (dV x_1 [9] (fun g5=>⟨g5,trivial⟩) (fun g5=>dW rfl) (Oc (aE (fun e=>e) rfl rfl rfl rfl) (Oc om ?_)))
 refine CgF (!(x_1 && (!x_2))) [] (fun g6=>trivial) (fun g6=>om) (CgF (!(x_1 && (!x_2))) [] (fun g7=>by exact trivial) (fun g7=>om) (CgF (!(x_1 && (!x_2))) [13,14] (fun g8=>by exact ⟨g8,g8,trivial⟩) (fun g8=>bE rfl rfl) (Oc (cJ (fun e=>by first | (rw [e]; rfl) | (simp only at e; rw [e]; rfl)) rfl rfl rfl rfl) (Oc oa ?_))))
 refine af.ai ⟨[(4,B ((x_1 && (!x_2)) || (decide (x0 < y0))))],[]⟩ rfl (ab.ret ?_)
 obtain rfl:=Option.some.inj h
 refine Fin.ag ⟨[(4,_)],[]⟩ rfl (Fin.av [.one (.bool ((x_1 && (!x_2)) || (decide (x0 < y0))))] (.inl rfl) rfl (.cons (.tmp rfl) .nil) ⟨rfl,rfl⟩)
def fc (F:Nat) (x0:Int):Option Bool :=
 some (decide (x0 ≠ x0))
theorem gR {F:Nat} {x0:Int} {r:Bool} (h:fc F x0 = some r):ao Tryz.prog [] 99 [] [.one (.i x0)] (Is [] (.b (.one (.bool r)))):=by
 unfold fc at h
 refine ao.intro 6 Tryz.func99 Tryz.ntmps99 rfl (by simp) fun E=>?_
 show ab _ E ⟨6,[],[],[]⟩ _ ⟨[(0,I x0)],[]⟩ _
 refine ab.seq (ab.aa ?_)
 refine Oc oa (af.ai ⟨[(0,I x0)],[]⟩ rfl (ab.seq (ab.aa ?_)))
 refine Oc om (Oc om (Oc (jo rfl rfl) (Oc oa ?_)))
 refine af.ai ⟨[(2,B (decide (x0 ≠ x0)))],[]⟩ rfl (ab.ret ?_)
 obtain rfl:=Option.some.inj h
 refine Fin.ag ⟨[(2,_)],[]⟩ rfl (Fin.av [.one (.bool (decide (x0 ≠ x0)))] (.inl rfl) rfl (.cons (.tmp rfl) .nil) ⟨rfl,rfl⟩)
def dB (F:Nat) (x0:List Int) (target0:Int):Option (Int × Bool) :=
 Option.bind (iter F (fh fun i_2 j_3=>if (decide (i_2 < j_3)) = true then (eb (IntKind.u64.wrap (IntKind.i64.wrap (i_2 + j_3))) fun x_5=>(bj x0 (IntKind.i64.wrap (x_5 / 2))).bind fun x_6=>(kY F x_6 target0).bind fun x_7=>if x_7 = true then (eb (IntKind.i64.wrap ((IntKind.i64.wrap (x_5 / 2)) + 1)) fun x_8=>some (.inl (x_8,j_3))) else (some (.inl (i_2,IntKind.i64.wrap (x_5 / 2))))) else (some (.inr i_2))) (0,(x0.length:Int))) (fun i_1=>(bu (decide (i_1 < (x0.length:Int))) (bj x0 i_1)).bind fun x_9=>(bu ((decide (i_1 < (x0.length:Int))) && !(decide (x_9 = target0))) (bj x0 i_1)).bind fun x_10=>(bu ((decide (i_1 < (x0.length:Int))) && !(decide (x_9 = target0))) (fc F x_10)).bind fun x_11=>(bu (((decide (i_1 < (x0.length:Int))) && !(decide (x_9 = target0))) && x_11) (fc F target0)).bind fun x_12=>eb ((decide (i_1 < (x0.length:Int))) && ((decide (x_9 = target0)) || (x_11 && x_12))) fun x_13=>some (i_1,x_13))
theorem hU {F:Nat} {x0:List Int} {target0:Int} {r:Int × Bool} (h:dB F x0 target0 = some r):ao Tryz.prog [] 76 [] [.one (.sl 1 (x0.map eI)),.one (.i target0)] (Is [] (.dY [.one (.i r.1),.one (.bool r.2)])):=by
 unfold dB at h
 refine ao.intro 54 Tryz.func76 Tryz.ntmps76 rfl (by simp) fun E=>?_
 show ab _ E ⟨54,[],[],[]⟩ _ ⟨[(0,.b (.one (.sl 1 (x0.map eI)))),(1,I target0)],[]⟩ _
 refine ab.seq (ab.aa ?_)
 refine Oc oa (Oc oa ?_)
 refine af.ai ⟨[(0,.b (.one (.sl 1 (x0.map eI)))),(1,I target0)],[]⟩ rfl (ab.seq (ab.aa ?_))
 refine Oc om (Oc (bH eT rfl (List.length_map _)) (Oc oa ?_))
 refine af.ai ⟨[(0,_),(1,_),(6,I (x0.length:Int))],[]⟩ rfl (ab.seq (ab.aa ?_))
 refine Oc om (Oc oa (Oc oa ?_))
 refine af.ai ⟨[(0,_),(1,_),(6,_),(7,I 0),(8,I (x0.length:Int))],[]⟩ rfl ?_
 obtain ⟨v1,h2,h⟩:=aP h
 refine ab.ek (v:=v1) (fun (i_1:Int)=>⟨[(0,.b (.one (.sl 1 (x0.map eI)))),(1,I target0),(6,I (x0.length:Int)),(7,I i_1)],[]⟩) (fun z=>z) ?_ ?_
 ·refine ab.block (ab.dq h2 (fh fun (i_2:Int) (j_3:Int)=>⟨[(0,.b (.one (.sl 1 (x0.map eI)))),(1,I target0),(6,I (x0.length:Int)),(7,I i_2),(8,I j_3)],[]⟩) [0,1,6,7,8] [] rfl ?_)
  rintro ⟨i_2,j_3⟩ o3 h4 hy5
  refine ab.seq (ab.seq (ab.aa ?_))
  refine Oc om (Oc om (Oc (bE rfl rfl) ?_))
  refine af.ai ⟨[(0,_),(1,_),(6,_),(7,_),(8,_),(15,B (decide (i_2 < j_3)))],[]⟩ rfl (ab.ite h4 rfl (fun _ h4=>?_) (fun _ h4=>?_))
  ·refine ab.skip (Fin.ag ⟨[(0,_),(1,_),(6,_),(7,_),(8,_)],[]⟩ rfl (Fin.then (ab.block (ab.seq (ab.aa ?_)))))
   refine Oc om (Oc om (Oc (bW rfl rfl) ?_))
   refine af.pd .u64 h4 rfl (dR pa oE rfl) (fun x_5 h4=>?_)
   refine Oc (iD (m:=1) (by decide) rfl rfl rfl) (Oc (dR oE pa rfl) (Oc oa ?_))
   refine af.ai ⟨[(0,_),(1,_),(6,_),(7,_),(8,_),(9,I (IntKind.i64.wrap (x_5 / 2)))],[]⟩ rfl (ab.seq (ab.aa ?_))
   refine Oc om (Oc om ?_)
   obtain ⟨x_6,e6,h4⟩:=aP h4
   refine Oc (bo ca (ba e6) (cD (e:=eI) e6) rfl rfl) (Oc (ar aQ rfl rfl) (Oc om ?_))
   obtain ⟨x_7,e7,h4⟩:=aP h4
   refine Oc (aj (nP e7) goes98 rfl rfl) (af.ai ⟨[(0,_),(1,_),(6,_),(7,_),(8,_),(9,_),(27,B x_7)],[]⟩ rfl (ab.ite h4 rfl (fun _ h4=>?_) (fun _ h4=>?_)))
   ·refine ab.aa (Oc om (af.pd .i64 h4 rfl (bW rfl rfl) (fun x_8 h4=>?_)))
    refine Oc oa (af.nil (Fin.aB ?_))
    exact Fin.cE [0,1,6,7,8] [] (x_8,j_3) (Option.some.inj h4) rfl
   ·refine ab.aa (Oc om (Oc oa ?_))
    refine af.nil (Fin.aB ?_)
    exact Fin.cE [0,1,6,7,8] [] (i_2,IntKind.i64.wrap (x_5 / 2)) (Option.some.inj h4) rfl
  ·refine ab.exit (Fin.aF ?_)
   obtain rfl:=hy5 _ (Option.some.inj h4).symm
   refine Fin.aF (Fin.a6 ?_)
   exact Fin.join [0,1,6,7] [] i_2 rfl rfl
 ·rintro i_1 hv
  subst v1
  refine ab.seq (ab.aa ?_)
  refine Oc om (Oc om (Oc om (Oc (bE rfl rfl) (Oc om ?_))))
  refine dV (decide (i_1 < (x0.length:Int))) [] (fun g8=>trivial) (fun g8=>om) (dV (decide (i_1 < (x0.length:Int))) [] (fun g9=>by exact trivial) (fun g9=>om) (af.ag ⟨[(0,_),(1,_),(7,_),(31,I i_1),(35,B (decide (i_1 < (x0.length:Int)))),(36,.opt (decide (i_1 < (x0.length:Int))) (.one (.sl 1 (x0.map eI)))),(37,.opt (decide (i_1 < (x0.length:Int))) (.one (.i i_1)))],[]⟩ rfl ?_))
  obtain ⟨x_9,e11,h⟩:=aP h
  refine dV (decide (i_1 < (x0.length:Int))) [36,37] (fun g10=>⟨g10,g10,trivial⟩) (fun g10=>bo ca (ba (gc e11 g10)) (cD (e:=eI) (gc e11 g10)) rfl rfl) (dV (decide (i_1 < (x0.length:Int))) [38] (fun g12=>⟨g12,trivial⟩) (fun g12=>ar aQ rfl rfl) (dV (decide (i_1 < (x0.length:Int))) [] (fun g13=>trivial) (fun g13=>om) (dV (decide (i_1 < (x0.length:Int))) [39,40] (fun g14=>by exact ⟨g14,g14,trivial⟩) (fun g14=>dd rfl rfl) (dV (decide (i_1 < (x0.length:Int))) [41] (fun g15=>by exact ⟨g15,trivial⟩) (fun g15=>om) (af.gI ((decide (i_1 < (x0.length:Int))) && !(decide (x_9 = target0))) 99 [] (.under rfl) (ko _ _) rfl rfl (fun g16=>by exact trivial) (fun g16=>om) ?_)))))
  refine af.gI ((decide (i_1 < (x0.length:Int))) && !(decide (x_9 = target0))) 99 [] (.under rfl) (ko _ _) rfl rfl (fun g17=>trivial) (fun g17=>om) ?_
  obtain ⟨x_10,e19,h⟩:=aP h
  refine af.gI ((decide (i_1 < (x0.length:Int))) && !(decide (x_9 = target0))) 99 [43,44] (.under rfl) (ko _ _) rfl rfl (fun g18=>⟨g18,g18,trivial⟩) (fun g18=>bo ca (ba (gc e19 g18)) (cD (e:=eI) (gc e19 g18)) rfl rfl) (af.ag ⟨[(1,_),(31,_),(35,_),(42,.opt (decide (i_1 < (x0.length:Int))) (.one (.bool (decide (x_9 = target0))))),(45,.opt ((decide (i_1 < (x0.length:Int))) && !(decide (x_9 = target0))) (.aK [.i x_10]))],[]⟩ rfl (af.gI ((decide (i_1 < (x0.length:Int))) && !(decide (x_9 = target0))) 99 [45] (.under rfl) (ko _ _) rfl rfl (fun g20=>⟨g20,trivial⟩) (fun g20=>ar aQ rfl rfl) ?_))
  obtain ⟨x_11,e22,h⟩:=aP h
  refine af.gI ((decide (i_1 < (x0.length:Int))) && !(decide (x_9 = target0))) 99 [46] (.under rfl) (ko _ _) rfl rfl (fun g21=>⟨g21,trivial⟩) (fun g21=>aj (gR (gc e22 g21)) sD rfl rfl) (af.gI ((decide (i_1 < (x0.length:Int))) && !(decide (x_9 = target0))) 99 [47] (.under rfl) (ko _ _) rfl rfl (fun g23=>⟨g23,trivial⟩) (fun g23=>om) (af.gI (((decide (i_1 < (x0.length:Int))) && !(decide (x_9 = target0))) && x_11) 99 [] (.under rfl) (and_t _ _) rfl rfl (fun g24=>trivial) (fun g24=>om) (af.ag ⟨[(31,_),(35,_),(42,_),(48,.opt ((decide (i_1 < (x0.length:Int))) && !(decide (x_9 = target0))) (.one (.bool x_11))),(49,.opt (((decide (i_1 < (x0.length:Int))) && !(decide (x_9 = target0))) && x_11) (.one (.i target0)))],[]⟩ rfl ?_)))
  obtain ⟨x_12,e26,h⟩:=aP h
  refine af.gI (((decide (i_1 < (x0.length:Int))) && !(decide (x_9 = target0))) && x_11) 99 [49] (.under rfl) (and_t _ _) rfl rfl (fun g25=>⟨g25,trivial⟩) (fun g25=>aj (gR (gc e26 g25)) sD rfl rfl) (af.gI ((decide (i_1 < (x0.length:Int))) && !(decide (x_9 = target0))) 99 [48] (.under rfl) (ko _ _) rfl rfl (fun g27=>⟨g27,trivial⟩) (fun g27=>aE (fun e=>by rw [g27,e]; rfl) rfl rfl rfl rfl) (dV (decide (i_1 < (x0.length:Int))) [42] (fun g28=>⟨g28,trivial⟩) (fun g28=>cJ (fun e=>by rw [g28,e]; rfl) rfl rfl rfl rfl) (af.mS h rfl (aE (fun e=>e) rfl rfl rfl rfl) (fun x_13 h=>?_))))
  refine Oc oa (Oc oa ?_)
  refine af.ai ⟨[(4,I i_1),(5,B x_13)],[]⟩ rfl (ab.ret ?_)
  obtain rfl:=Option.some.inj h
  refine Fin.ag ⟨[(4,_),(5,_)],[]⟩ rfl (Fin.av [.one (.i i_1),.one (.bool x_13)] (.inl rfl) rfl (.cons (.tmp rfl) (.cons (.tmp rfl) .nil)) ⟨rfl,rfl⟩)
def fC (F:Nat) (a0:List Int) (b0:List Int):Option (List Int) :=
 Option.bind (iter F (fh fun out_2 x_3=>if (decide (x_3 < (a0.length:Int))) = true then (Option.bind ((bj a0 x_3).bind fun x_6=>Option.bind (dB F b0 x_6) (fh fun x_7 x_8=>if (!x_8) = true then ((mF out_2 [x_6]).bind fun x_9=>some x_9) else (some out_2))) (fun out_5=>some (.inl (out_5,IntKind.i64.wrap (x_3 + 1))))) else (some (.inr out_2))) ([],0)) (fun out_1=>some out_1)
theorem ir (kr0:Nat) {F:Nat} {a0:List Int} {b0:List Int} {r:(List Int)} (h:fC F a0 b0 = some r):ao Tryz.prog [] 56 [] [.one (.sl 1 (a0.map eI)),.one (.sl 1 (b0.map eI))] (Is [(kr0,.row 3 1 (r.map eI))] (.b (.row kr0))):=by
 unfold fC at h
 refine ao.intro 30 Tryz.func56 Tryz.ntmps56 rfl (by simp) fun E=>?_
 show ab _ E ⟨30,[],[],[]⟩ _ ⟨[(0,.b (.one (.sl 1 (a0.map eI)))),(1,.b (.one (.sl 1 (b0.map eI))))],[]⟩ _
 refine ab.seq (ab.aa ?_)
 refine Oc oa (af.ai ⟨[(0,.b (.one (.sl 1 (a0.map eI)))),(1,.b (.one (.sl 1 (b0.map eI))))],[]⟩ rfl (ab.seq (ab.aa ?_)))
 refine Oc oa (af.ai ⟨[(0,_),(1,_),(5,.b (.one (.nil)))],[]⟩ rfl ?_)
 obtain ⟨v1,h2,h⟩:=aP h
 refine ab.ek (v:=v1) (fun (out_1:List Int)=>⟨[(5,.b (.row 102))],[(102,.row 3 1 (out_1.map eI))]⟩) (fun z=>z) ?_ ?_
 ·refine ab.seq (ab.aa ?_)
  refine Oc om (Oc (bH eT rfl (List.length_map _)) (Oc om ?_))
  refine af.ai ⟨[(1,_),(5,_),(10,.b (.one (.sl 1 (a0.map eI)))),(11,I (a0.length:Int)),(12,I 0)],[]⟩ rfl (ab.block (ab.fj 5 102 1 3 rfl (by decide) rfl (ab.dq h2 (fh fun (out_2:List Int) (x_3:Int)=>⟨[(1,.b (.one (.sl 1 (b0.map eI)))),(5,.b (.row 102)),(10,.b (.one (.sl 1 (a0.map eI)))),(11,I (a0.length:Int)),(12,I x_3)],[(102,.row 3 1 (out_2.map eI))]⟩) [1,5,10,11,12] [102] rfl ?_)))
  rintro ⟨out_2,x_3⟩ o3 h4 hy5
  refine ab.seq (ab.aa ?_)
  refine Oc (bE rfl rfl) (af.ai ⟨[(1,_),(5,_),(10,_),(11,_),(12,_),(13,B (decide (x_3 < (a0.length:Int))))],[(102,_)]⟩ rfl (ab.seq (ab.ite h4 rfl (fun _ h4=>?_) (fun _ h4=>?_))))
  ·refine ab.skip (Fin.ag ⟨[(1,_),(5,_),(10,_),(11,_),(12,_)],[(102,_)]⟩ rfl (Fin.then ?_))
   obtain ⟨v6,h7,h4⟩:=aP h4
   refine ab.ek (v:=v6) (fun (out_5:List Int)=>⟨[(1,.b (.one (.sl 1 (b0.map eI)))),(5,.b (.row 102)),(10,.b (.one (.sl 1 (a0.map eI)))),(11,I (a0.length:Int)),(12,I x_3)],[(102,.row 3 1 (out_5.map eI))]⟩) (fun z=>z) ?_ ?_
   ·refine ab.block (ab.seq (ab.aa ?_))
    obtain ⟨x_6,e8,h7⟩:=aP h7
    refine Oc (bo ca (ba e8) (cD (e:=eI) e8) rfl rfl) (Oc (ar aQ rfl rfl) (Oc oa ?_))
    refine af.ai ⟨[(1,_),(5,_),(7,I x_6),(10,_),(11,_),(12,_)],[(102,_)]⟩ rfl (ab.seq (ab.aa ?_))
    refine Oc om (Oc om ?_)
    obtain ⟨⟨x_7,x_8⟩,e9,h7⟩:=aP h7
    refine Oc (aj (hU e9) goes76 rfl rfl) (Oc om (Oc (az rfl rfl) ?_))
    refine af.ag ⟨[(1,_),(5,_),(7,_),(10,_),(11,_),(12,_),(16,.dY [.one (.i x_7),.one (.bool x_8)]),(20,I x_7)],[(102,_)]⟩ rfl (Oc (az rfl rfl) (Oc oa (Oc oa ?_)))
    refine af.ai ⟨[(1,_),(5,_),(7,_),(9,B x_8),(10,_),(11,_),(12,_)],[(102,_)]⟩ rfl (ab.seq (ab.aa ?_))
    refine Oc om (Oc (dW rfl) ?_)
    refine af.ai ⟨[(1,_),(5,_),(7,_),(10,_),(11,_),(12,_),(23,B (!x_8))],[(102,_)]⟩ rfl (ab.ite h7 rfl (fun _ h7=>?_) (fun _ h7=>?_))
    ·refine ab.aa (Oc om (Oc om (Oc (cp (k:=103) (es:=[x_6].map eI) ca rfl rfl (cF fun _=>rfl) rfl (by decide) (by decide) rfl) ?_)))
     obtain ⟨x_9,e10,h7⟩:=aP h7
     refine Oc (fL ca (pj e10) (ph e10) rfl rfl rfl rfl (lx e10) rfl) (Oc oa ?_)
     refine af.nil (Fin.aB ?_)
     exact Fin.join [1,5,10,11,12] [102] x_9 (Option.some.inj h7) rfl
    ·refine ab.skip (Fin.aB ?_)
     exact Fin.join [1,5,10,11,12] [102] out_2 (Option.some.inj h7) rfl
   ·rintro out_5 hv
    subst v6
    refine ab.aa (Oc (bW rfl rfl) (Oc om ?_))
    refine af.nil ?_
    exact Fin.cE [1,5,10,11,12] [102] (out_5,IntKind.i64.wrap (x_3 + 1)) (Option.some.inj h4) rfl
  ·refine ab.exit (Fin.aF ?_)
   obtain rfl:=hy5 _ (Option.some.inj h4).symm
   refine Fin.aF (Fin.a6 ?_)
   exact Fin.join [5] [102] out_2 rfl rfl
 ·rintro out_1 hv
  subst v1
  refine ab.seq (ab.aa ?_)
  refine Oc om (Oc oa ?_)
  refine af.ai ⟨[(4,.b (.row 102))],[(102,_)]⟩ rfl (ab.ret ?_)
  obtain rfl:=Option.some.inj h
  refine Fin.ag ⟨[(4,_)],[(102,_)]⟩ rfl (Fin.ln 102 kr0 [.row 102] (.inl rfl) rfl (.cons (.tmp rfl) .nil) rfl rfl rfl rfl ⟨rfl,rfl⟩)
def dT (F:Nat) (s0:cW) (id0:Int) (b0:b5):Option (cW × (List Int) × (List Int) × Int) :=
 (bD F b0).bind fun x_1=>if (!x_1) = true then (eb (⟨(⟨.leaf,0,0,0⟩:hX),(⟨.leaf,0,0,0⟩:hX)⟩:cW) fun x_2=>some (x_2,[],[],1)) else (Option.bind (b9 F s0 id0) (fh fun x_3 x_4=>if (!x_4) = true then (eb (⟨(⟨.leaf,0,0,0⟩:hX),(⟨.leaf,0,0,0⟩:hX)⟩:cW) fun x_5=>some (x_5,[],[],5)) else (Option.bind (bX F s0 id0) (fh fun x_6 x_7=>(cm F x_6 x_3.b).bind fun x_8=>(cm F x_6 b0).bind fun x_9=>Option.bind (bV F x_6 id0 b0) (fh fun x_10 x_11=>(fC F x_9 x_8).bind fun x_12=>(fC F x_8 x_9).bind fun x_13=>some (x_10,x_12,x_13,x_11))))))
theorem j9 {F:Nat} {s0:cW} {id0:Int} {b0:b5} {r:cW × (List Int) × (List Int) × Int} (h:dT F s0 id0 b0 = some r):ao Tryz.prog [] 25 [] [.agg (aH s0),.one (.i id0),.agg (ak b0)] (Is [] (.dY [.agg (aH r.1),.one (.sl 1 (r.2.1.map eI)),.one (.sl 1 (r.2.2.1.map eI)),.one (.i r.2.2.2)])):=by
 unfold dT at h
 refine ao.intro 57 Tryz.func25 Tryz.ntmps25 rfl (by simp) fun E=>?_
 show ab _ E ⟨57,[],[],[]⟩ _ ⟨[(0,.b (.agg (aH s0))),(1,I id0),(2,.b (.agg (ak b0)))],[]⟩ _
 refine ab.seq (ab.aa ?_)
 refine Oc (bK (k:=101) rfl rfl) (Oc (bK (k:=102) rfl rfl) (Oc (aY (k:=103) fa rfl) (Oc oa (Oc oa (Oc oa ?_)))))
 refine af.ai ⟨[(1,I id0),(3,Pt 101 0),(5,Pt 102 0),(6,Pt 103 0)],[(101,.box 49 (aH s0)),(102,.box 25 (ak b0)),(103,.box 49 [.tr ae (.leaf),.cO 0,.cO 0,.cO 0,.tr ae (.leaf),.cO 0,.cO 0,.cO 0])]⟩ rfl (ab.seq (ab.seq (ab.aa ?_)))
 refine Oc (lp ay) ?_
 obtain ⟨x_1,e1,h⟩:=aP h
 refine Oc (aj (bY e1) jq rfl rfl) (Oc (dW rfl) ?_)
 refine af.ai ⟨[(1,_),(3,_),(5,_),(6,_),(18,B (!x_1))],[(101,_),(102,_),(103,_)]⟩ rfl (ab.ite h rfl (fun _ h=>?_) (fun _ h=>?_))
 ·refine ab.seq (ab.aa ?_)
  refine af.lj aH h rfl (cg ez rfl rfl) (fun x_2 h=>?_)
  refine Oc (aG aS rfl rfl rfl rfl (Nat.le_of_ble_eq_true rfl) rfl) (Oc oa (Oc oa (Oc oa ?_)))
  refine af.ai ⟨[(6,_),(7,.b (.one (.nil))),(8,.b (.one (.nil))),(9,I 1)],[(103,.box 49 (aH x_2))]⟩ rfl (ab.ret (Fin.ax ?_))
  obtain rfl:=Option.some.inj h
  refine Fin.ag ⟨[(6,_),(7,_),(8,_),(9,_)],[(103,_)]⟩ rfl (Fin.hZ 7 1 rfl (by decide) (Fin.hZ 8 1 rfl (by decide) (Fin.av [.agg (aH x_2),.one (.sl 1 ([].map eI)),.one (.sl 1 ([].map eI)),.one (.i 1)] (.inl rfl) rfl (.cons (.agg aS rfl rfl rfl rfl) (.cons (.tmp rfl) (.cons (.tmp rfl) (.cons (.tmp rfl) .nil)))) ⟨rfl,rfl⟩)))
 ·refine ab.skip (Fin.ag ⟨[(1,_),(3,_),(5,_),(6,_)],[(101,_),(102,_),(103,_)]⟩ rfl (Fin.then (ab.seq (ab.aa ?_))))
  refine Oc (lp aS) (Oc om ?_)
  obtain ⟨⟨x_3,x_4⟩,e2,h⟩:=aP h
  refine Oc (aj (ey e2) qp rfl rfl) (Oc om (Oc (az rfl rfl) ?_))
  refine af.ag ⟨[(1,_),(3,_),(5,_),(6,_),(20,.dY [.agg (an x_3),.one (.bool x_4)]),(24,.b (.agg (an x_3)))],[(101,_),(102,_),(103,_)]⟩ rfl (Oc (az rfl rfl) (Oc (aY (k:=104) gv rfl) (Oc (aG bg rfl rfl rfl rfl (Nat.le_of_ble_eq_true rfl) rfl) (Oc oa ?_))))
  refine af.ai ⟨[(1,_),(3,_),(5,_),(6,_),(10,Pt 104 0),(11,B x_4)],[(101,_),(102,_),(103,_),(104,.box 87 (an x_3))]⟩ rfl (ab.seq (ab.seq (ab.aa ?_)))
  refine Oc om (Oc (dW rfl) ?_)
  refine af.ai ⟨[(1,_),(3,_),(5,_),(6,_),(10,_),(27,B (!x_4))],[(101,_),(102,_),(103,_),(104,_)]⟩ rfl (ab.ite h rfl (fun _ h=>?_) (fun _ h=>?_))
  ·refine ab.seq (ab.aa ?_)
   refine af.lj aH h rfl (cg ez rfl rfl) (fun x_5 h=>?_)
   refine Oc (aG aS rfl rfl rfl rfl (Nat.le_of_ble_eq_true rfl) rfl) (Oc oa (Oc oa (Oc oa ?_)))
   refine af.ai ⟨[(6,_),(7,.b (.one (.nil))),(8,.b (.one (.nil))),(9,I 5)],[(103,.box 49 (aH x_5))]⟩ rfl (ab.ret (Fin.ax ?_))
   obtain rfl:=Option.some.inj h
   refine Fin.ag ⟨[(6,_),(7,_),(8,_),(9,_)],[(103,_)]⟩ rfl (Fin.hZ 7 1 rfl (by decide) (Fin.hZ 8 1 rfl (by decide) (Fin.av [.agg (aH x_5),.one (.sl 1 ([].map eI)),.one (.sl 1 ([].map eI)),.one (.i 5)] (.inl rfl) rfl (.cons (.agg aS rfl rfl rfl rfl) (.cons (.tmp rfl) (.cons (.tmp rfl) (.cons (.tmp rfl) .nil)))) ⟨rfl,rfl⟩)))
  ·refine ab.skip (Fin.ag ⟨[(1,_),(3,_),(5,_),(6,_),(10,_)],[(101,_),(102,_),(103,_),(104,_)]⟩ rfl (Fin.then (ab.seq (ab.aa ?_))))
   refine Oc (lp aS) (Oc om ?_)
   obtain ⟨⟨x_6,x_7⟩,e3,h⟩:=aP h
   refine Oc (aj (fi e3) sM rfl rfl) (Oc om (Oc (az rfl rfl) ?_))
   refine af.ag ⟨[(1,_),(5,_),(6,_),(10,_),(29,.dY [.agg (aH x_6),.one (.i x_7)]),(33,.b (.agg (aH x_6)))],[(102,_),(103,_),(104,_)]⟩ rfl (Oc (az rfl rfl) (Oc (aY (k:=105) fa rfl) (Oc (aG aS rfl rfl rfl rfl (Nat.le_of_ble_eq_true rfl) rfl) (Oc oa ?_))))
   refine af.ai ⟨[(1,_),(5,_),(6,_),(10,_),(12,Pt 105 0)],[(102,_),(103,_),(104,_),(105,.box 49 (aH x_6))]⟩ rfl (ab.seq ?_)
   obtain ⟨x_8,e4,h⟩:=aP h
   obtain ⟨x_9,e5,h⟩:=aP h
   refine ab.lq mixed [false,false,false,true,false,false,true,false,false] [.b (.agg (aH x_6)),Pt 104 1,.b (.agg (ak x_3.b)),.b (.row 106),.b (.agg (aH x_6)),.b (.agg (ak b0)),.b (.row 107),.b (.row 106),.b (.row 107)] [⟨[false,false,false,false,false,false,false,false,false],[(1,I id0),(5,Pt 102 0),(6,Pt 103 0),(10,Pt 104 0),(12,Pt 105 0)],[(102,.box 25 (ak b0)),(103,.box 49 [.tr ae (.leaf),.cO 0,.cO 0,.cO 0,.tr ae (.leaf),.cO 0,.cO 0,.cO 0]),(104,.box 87 (an x_3)),(105,.box 49 (aH x_6))],[true,true,true,true,true,true,true,true,true],[],[6,7,8]⟩,⟨[false,false,false,true,false,false,false,false,false],[(1,I id0),(5,Pt 102 0),(6,Pt 103 0),(10,Pt 104 0),(12,Pt 105 0)],[(102,.box 25 (ak b0)),(103,.box 49 [.tr ae (.leaf),.cO 0,.cO 0,.cO 0,.tr ae (.leaf),.cO 0,.cO 0,.cO 0]),(104,.box 87 (an x_3)),(105,.box 49 (aH x_6)),(106,.row 3 1 (x_8.map eI))],[true,true,true,true,true,true,true,true,true],[0,1,2,3],[7,8]⟩,⟨[false,false,false,true,false,false,true,false,false],[(1,I id0),(5,Pt 102 0),(6,Pt 103 0),(10,Pt 104 0),(12,Pt 105 0)],[(102,.box 25 (ak b0)),(103,.box 49 [.tr ae (.leaf),.cO 0,.cO 0,.cO 0,.tr ae (.leaf),.cO 0,.cO 0,.cO 0]),(104,.box 87 (an x_3)),(105,.box 49 (aH x_6)),(106,.row 3 1 (x_8.map eI)),(107,.row 3 1 (x_9.map eI))],[true,true,true,true,true,true,true,true,true],[0,1,2,3,4,5,6],[]⟩] rfl (⟨by kernel_rfl,⟨⟨.b (.agg (aH x_6)),fun _=>rfl,fun _=>.p (by exact cu aS rfl rfl rfl rfl)⟩,⟨Pt 104 1,fun _=>rfl,fun _=>.p (by exact au gl rfl rfl)⟩,⟨.b (.agg (ak x_3.b)),fun _=>rfl,fun _=>.p (by exact cu ay rfl rfl rfl rfl)⟩,⟨_,[106],.b (.row 106),rfl,fun _=>rfl,rfl,rfl,fun _=>.r6 [102,103,104,105,106] (by exact .p (by exact cZ (own_a:=[]) ((c3 e4).sw 51 106) oB rfl trivial rfl rfl)) (by exact rfl)⟩,⟨.b (.agg (aH x_6)),fun _=>rfl,fun _=>.p (by exact cu aS rfl rfl rfl rfl)⟩,⟨.b (.agg (ak b0)),fun _=>rfl,fun _=>.p (by exact cu ay rfl rfl rfl rfl)⟩,trivial,trivial,trivial,trivial⟩,⟨by kernel_rfl,⟨trivial,trivial,trivial,trivial,⟨.b (.agg (aH x_6)),fun _=>rfl,fun _=>.p (by exact cu aS rfl rfl rfl rfl)⟩,⟨.b (.agg (ak b0)),fun _=>rfl,fun _=>.p (by exact cu ay rfl rfl rfl rfl)⟩,⟨_,[107],.b (.row 107),rfl,fun _=>rfl,rfl,rfl,fun _=>.r6 [102,103,104,105,106,107] (by exact .p (by exact cZ (own_a:=[]) ((c3 e5).sw 51 107) oB rfl trivial rfl rfl)) (by exact rfl)⟩,trivial,trivial,trivial⟩,⟨by kernel_rfl,⟨trivial,trivial,trivial,trivial,trivial,trivial,trivial,⟨.b (.row 106),fun _=>rfl,fun _=>.p (by exact bR rfl)⟩,⟨.b (.row 107),fun _=>rfl,fun _=>.p (by exact bR rfl)⟩,trivial⟩,trivial⟩⟩⟩) rfl rfl rfl [1,5,6,12,14,15] [102,103,105,106,107] (s':=⟨[(1,_),(5,_),(6,_),(12,_),(14,.b (.row 106)),(15,.b (.row 107))],[(102,_),(103,_),(105,_),(106,.row 3 1 (x_8.map eI)),(107,.row 3 1 (x_9.map eI))]⟩) rfl ?_
   refine ab.seq (ab.aa ?_)
   refine Oc (lp aS) (Oc om (Oc (lp ay) ?_))
   obtain ⟨⟨x_10,x_11⟩,e6,h⟩:=aP h
   refine Oc (aj (cM e6) mX rfl rfl) (Oc om ?_)
   refine af.ag ⟨[(6,_),(14,_),(15,_),(42,.dY [.agg (aH x_10),.one (.i x_11)])],[(103,_),(106,_),(107,_)]⟩ rfl (Oc (az rfl rfl) (Oc (az rfl rfl) (Oc (aG aS rfl rfl rfl rfl (Nat.le_of_ble_eq_true rfl) rfl) (Oc oa ?_))))
   refine af.ai ⟨[(6,Pt 103 0),(9,I x_11),(14,.b (.row 106)),(15,.b (.row 107))],[(103,.box 49 (aH x_10)),(106,.row 3 1 (x_8.map eI)),(107,.row 3 1 (x_9.map eI))]⟩ rfl (ab.seq (ab.cY 107 rfl (ab.cY 106 rfl (ab.ag ⟨[(6,_),(9,_),(14,.b (.one (.sl 1 (x_8.map eI)))),(15,.b (.one (.sl 1 (x_9.map eI))))],[(103,_)]⟩ rfl ?_))))
   obtain ⟨x_12,e7,h⟩:=aP h
   obtain ⟨x_13,e8,h⟩:=aP h
   refine ab.lq mixed [false,false,false,false,false,false,false,false,true,false,false,true] [.b (.agg (aH x_10)),.b (.one (.sl 1 (x_9.map eI))),.b (.one (.sl 1 (x_8.map eI))),.b (.one (.sl 1 (x_12.map eI))),.b (.one (.sl 1 (x_8.map eI))),.b (.one (.sl 1 (x_9.map eI))),.b (.one (.sl 1 (x_13.map eI))),I x_11,B true,.b (.one (.sl 1 (x_12.map eI))),.b (.one (.sl 1 (x_13.map eI))),I x_11] [⟨[false,false,false,false,false,false,false,false,false,false,false,false],[(6,Pt 103 0),(9,I x_11),(14,.b (.one (.sl 1 (x_8.map eI)))),(15,.b (.one (.sl 1 (x_9.map eI))))],[(103,.box 49 (aH x_10))],[true,true,true,true,true,true,true,true,true,true,true,true],[],[9,10,11]⟩,⟨[false,false,false,false,false,false,false,false,true,false,false,false],[(6,Pt 103 0),(9,I x_11),(14,.b (.one (.sl 1 (x_8.map eI)))),(15,.b (.one (.sl 1 (x_9.map eI))))],[(103,.box 49 (aH x_10))],[true,true,true,true,true,true,true,true,true,true,true,true],[0,1,2,3,4,5,6,8],[]⟩,⟨[false,false,false,false,false,false,false,false,true,false,false,true],[(6,Pt 103 0),(14,.b (.one (.sl 1 (x_8.map eI)))),(15,.b (.one (.sl 1 (x_9.map eI))))],[(103,.box 49 (aH x_10))],[true,true,true,true,true,true,true,true,true,true,true,true],[0,1,2,3,4,5,6,7,8,9,10,11],[]⟩] rfl (⟨by kernel_rfl,⟨⟨.b (.agg (aH x_10)),fun _=>rfl,fun _=>.p (by exact cu aS rfl rfl rfl rfl)⟩,⟨.b (.one (.sl 1 (x_9.map eI))),fun _=>rfl,fun _=>.p (by exact aT rfl)⟩,⟨.b (.one (.sl 1 (x_8.map eI))),fun _=>rfl,fun _=>.p (by exact aT rfl)⟩,⟨.b (.one (.sl 1 (x_12.map eI))),fun _=>rfl,fun _=>.p (by exact aj (ir 0 e7).qV sI rfl rfl)⟩,⟨.b (.one (.sl 1 (x_8.map eI))),fun _=>rfl,fun _=>.p (by exact aT rfl)⟩,⟨.b (.one (.sl 1 (x_9.map eI))),fun _=>rfl,fun _=>.p (by exact aT rfl)⟩,⟨.b (.one (.sl 1 (x_13.map eI))),fun _=>rfl,fun _=>.p (by exact aj (ir 0 e8).qV sI rfl rfl)⟩,⟨I x_11,fun _=>rfl,fun _=>.p (by exact aT rfl)⟩,⟨_,[],.b (.one .any),rfl,(fun e=>by simp at e),rfl,rfl,fun _=>.r6 [103] (by exact .p (by exact aG aS rfl rfl rfl rfl (Nat.le_of_ble_eq_true rfl) rfl)) (by exact rfl)⟩,trivial,trivial,trivial,trivial⟩,⟨by kernel_rfl,⟨trivial,trivial,trivial,trivial,trivial,trivial,trivial,⟨I x_11,fun _=>rfl,fun _=>.p (by exact aT rfl)⟩,trivial,⟨.b (.one (.sl 1 (x_12.map eI))),fun _=>rfl,fun _=>.p (by exact bR rfl)⟩,⟨.b (.one (.sl 1 (x_13.map eI))),fun _=>rfl,fun _=>.p (by exact bR rfl)⟩,⟨_,[],I x_11,rfl,fun _=>rfl,rfl,rfl,fun _=>.r6 [103] (by exact .p (by exact bR rfl)) (by exact rfl)⟩,trivial⟩,⟨by kernel_rfl,⟨trivial,trivial,trivial,trivial,trivial,trivial,trivial,trivial,trivial,trivial,trivial,trivial,trivial⟩,trivial⟩⟩⟩) rfl rfl rfl [6,7,8,9] [103] (s':=⟨[(6,_),(7,.b (.one (.sl 1 (x_12.map eI)))),(8,.b (.one (.sl 1 (x_13.map eI)))),(9,_)],[(103,_)]⟩) rfl ?_
   refine ab.ret ?_
   obtain rfl:=Option.some.inj h
   refine Fin.ag ⟨[(6,_),(7,_),(8,_),(9,_)],[(103,_)]⟩ rfl (Fin.av [.agg (aH x_10),.one (.sl 1 (x_12.map eI)),.one (.sl 1 (x_13.map eI)),.one (.i x_11)] (.inl rfl) rfl (.cons (.agg aS rfl rfl rfl rfl) (.cons (.tmp rfl) (.cons (.tmp rfl) (.cons (.tmp rfl) .nil)))) ⟨rfl,rfl⟩)
def cV (F:Nat) (a0:List Int) (b0:List Int):Option Bool :=
 if (decide ((a0.length:Int) ≠ (b0.length:Int))) = true then (some false) else (Option.bind (iter F (fun i_1=>if (decide (i_1 < (a0.length:Int))) = true then ((bj a0 i_1).bind fun x_2=>(bj b0 i_1).bind fun x_3=>if (decide (x_2 ≠ x_3)) = true then (some (.inr (.inr false))) else (some (.inl (IntKind.i64.wrap (i_1 + 1))))) else (some (.inr (.inl ())))) 0) (cq (fun _=>some true) (fun y=>some y)))
theorem eK {F:Nat} {a0:List Int} {b0:List Int} {r:Bool} (h:cV F a0 b0 = some r):ao Tryz.prog [] 32 [] [.one (.sl 1 (a0.map eI)),.one (.sl 1 (b0.map eI))] (Is [] (.b (.one (.bool r)))):=by
 unfold cV at h
 refine ao.intro 26 Tryz.func32 Tryz.ntmps32 rfl (by simp) fun E=>?_
 show ab _ E ⟨26,[],[],[]⟩ _ ⟨[(0,.b (.one (.sl 1 (a0.map eI)))),(1,.b (.one (.sl 1 (b0.map eI))))],[]⟩ _
 refine ab.seq (ab.aa ?_)
 refine Oc oa (af.ai ⟨[(0,.b (.one (.sl 1 (a0.map eI)))),(1,.b (.one (.sl 1 (b0.map eI))))],[]⟩ rfl (ab.seq (ab.seq (ab.aa ?_))))
 refine Oc om (Oc (bH eT rfl (List.length_map _)) (Oc om (Oc (bH eT rfl (List.length_map _)) (Oc (jo rfl rfl) ?_))))
 refine af.ai ⟨[(0,_),(1,_),(10,B (decide ((a0.length:Int) ≠ (b0.length:Int))))],[]⟩ rfl (ab.ite h rfl (fun _ h=>?_) (fun _ h=>?_))
 ·refine ab.seq (ab.aa ?_)
  refine Oc oa (af.ai ⟨[(4,B false)],[]⟩ rfl (ab.ret (Fin.ax ?_)))
  obtain rfl:=Option.some.inj h
  refine Fin.ag ⟨[(4,_)],[]⟩ rfl (Fin.av [.one (.bool false)] (.inl rfl) rfl (.cons (.tmp rfl) .nil) ⟨rfl,rfl⟩)
 ·refine ab.skip (Fin.ag ⟨[(0,_),(1,_)],[]⟩ rfl (Fin.then ?_))
  obtain ⟨v1,h2,h⟩:=aP h
  refine ab.ek (v:=v1) (fun (_:Unit)=>⟨[],[]⟩) (fun z=>.inl z) ?_ ?_
  ·refine ab.seq (ab.aa ?_)
   refine Oc oa (af.ai ⟨[(0,_),(1,_),(5,I 0)],[]⟩ rfl (ab.block (ab.dq h2 (fun (i_1:Int)=>⟨[(0,.b (.one (.sl 1 (a0.map eI)))),(1,.b (.one (.sl 1 (b0.map eI)))),(5,I i_1)],[]⟩) [0,1,5] [] rfl ?_)))
   rintro i_1 o3 h4 hy5
   refine ab.seq (ab.seq (ab.aa ?_))
   refine Oc om (Oc om (Oc (bH eT rfl (List.length_map _)) (Oc (bE rfl rfl) ?_)))
   refine af.ai ⟨[(0,_),(1,_),(5,_),(14,B (decide (i_1 < (a0.length:Int))))],[]⟩ rfl (ab.ite h4 rfl (fun _ h4=>?_) (fun _ h4=>?_))
   ·refine ab.skip (Fin.ag ⟨[(0,_),(1,_),(5,_)],[]⟩ rfl (Fin.then (ab.seq (ab.block (ab.seq ?_)))))
    refine ab.ag ⟨[(0,_),(1,_),(5,_)],[]⟩ rfl ?_
    obtain ⟨x_2,e6,h4⟩:=aP h4
    obtain ⟨x_3,e7,h4⟩:=aP h4
    refine ab.bZ mixed 9 [.b (.one (.sl 1 (a0.map eI))),I i_1,.b (.aK [.i x_2]),I x_2,.b (.one (.sl 1 (b0.map eI))),I i_1,.b (.aK [.i x_3]),I x_3,B (decide (x_2 ≠ x_3))] [0,1,5,25] [] (s':=⟨[(0,_),(1,_),(5,_),(25,B (decide (x_2 ≠ x_3)))],[]⟩) rfl ⟨fun _=>.p om,fun _=>.p om,fun _=>.p (bo ca (ba e6) (cD (e:=eI) e6) rfl rfl),fun _=>.p (ar aQ rfl rfl),fun _=>.p om,fun _=>.p om,fun _=>.p (bo ca (ba e7) (cD (e:=eI) e7) rfl rfl),fun _=>.p (ar aQ rfl rfl),fun _=>.p (jo rfl rfl),trivial⟩ rfl rfl (ab.ite h4 rfl (fun _ h4=>?_) (fun _ h4=>?_))
    ·refine ab.seq (ab.aa ?_)
     refine Oc oa (af.ai ⟨[(4,B false)],[]⟩ rfl (ab.ret (Fin.aV (Fin.ax ?_))))
     obtain rfl:=hy5 _ (Option.some.inj h4).symm
     refine Fin.ax (Fin.aV (Fin.ax ?_))
     obtain rfl:=Option.some.inj h
     refine Fin.ag ⟨[(4,_)],[]⟩ rfl (Fin.av [.one (.bool false)] (.inl rfl) rfl (.cons (.tmp rfl) .nil) ⟨rfl,rfl⟩)
    ·refine ab.skip (Fin.aB (Fin.ag ⟨[(0,_),(1,_),(5,_)],[]⟩ rfl (Fin.then (ab.aa ?_))))
     refine Oc om (Oc (bW rfl rfl) (Oc oa ?_))
     refine af.nil ?_
     exact Fin.cE [0,1,5] [] (IntKind.i64.wrap (i_1 + 1)) (Option.some.inj h4) rfl
   ·refine ab.exit (Fin.aF ?_)
    obtain rfl:=hy5 _ (Option.some.inj h4).symm
    refine Fin.aF (Fin.a6 ?_)
    exact Fin.join [] [] () rfl rfl
  ·rintro _ hv
   subst v1
   refine ab.seq (ab.aa ?_)
   refine Oc oa (af.ai ⟨[(4,B true)],[]⟩ rfl (ab.ret ?_))
   obtain rfl:=Option.some.inj h
   refine Fin.ag ⟨[(4,_)],[]⟩ rfl (Fin.av [.one (.bool true)] (.inl rfl) rfl (.cons (.tmp rfl) .nil) ⟨rfl,rfl⟩)
end Go.Proofs.YtagpkeehkcopaaaGreat

