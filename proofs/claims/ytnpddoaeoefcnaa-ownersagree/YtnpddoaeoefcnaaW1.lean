/- printed walks -/
import Derived.Test.YtnpddoaeoefcnaaT1
namespace Go.Proofs.Ytnpddoaeoefcnaa
open Go.Sk Go
set_option maxHeartbeats 4000000
set_option maxRecDepth 4000
set_option linter.unusedSimpArgs false
set_option linter.unusedVariables false
theorem undi154:Try.prog.underlying 154 = some (.int .u64):=Try.underlying154
theorem rF:Try.prog.underlying 5 = some (.int .u8):=Try.underlying5
theorem und9:Try.prog.underlying 9 = some .string:=Try.underlying9
theorem qo:Try.prog.underlying 3 = some (.int .i64):=Try.underlying3
theorem goes110:cQ Try.prog 110:=⟨Try.call110⟩
theorem goes100:cQ Try.prog 100:=⟨Try.call100⟩
theorem cc:Try.prog.underlying 22 = some (.slice 3):=Try.underlying22
theorem sz:Try.prog.underlying 138 = some (.int .u64):=Try.underlying138
theorem goes99:cQ Try.prog 99:=⟨Try.call99⟩
theorem goes98:cQ Try.prog 98:=⟨Try.call98⟩
theorem nF:Try.prog.underlying 23 = some (.slice 22):=Try.underlying23
theorem er:hZ Try.prog 23 22 1 24 [.nil]:=⟨Try.underlying23,⟨Try.t22,_,by kernel_rfl,rfl,rfl,rfl,rfl,by decide,rfl⟩⟩
theorem bx:dL Try.prog 22:=⟨⟨_,Try.underlying22,rfl⟩,⟨Try.t22,by kernel_rfl,by kernel_rfl⟩⟩
theorem ba:hZ Try.prog 22 3 1 8 [.i 0]:=⟨Try.underlying22,⟨Try.t3,_,by kernel_rfl,rfl,rfl,rfl,rfl,by decide,rfl⟩⟩
theorem aP:dL Try.prog 3:=⟨⟨_,Try.underlying3,rfl⟩,⟨Try.t3,by kernel_rfl,by kernel_rfl⟩⟩
theorem mixed:Try.prog.follows .mixedOrders = true:=by kernel_rfl
theorem goes77:cQ Try.prog 77:=⟨Try.call77⟩
theorem goes76:cQ Try.prog 76:=⟨Try.call76⟩
theorem xL:cQ Try.prog 75:=⟨Try.call75⟩
theorem jX:cC Try.prog 119 0 0 117:=⟨⟨_,_,Try.t117,Try.underlying119,rfl,rfl,rfl,by kernel_rfl,by decide⟩⟩
theorem mA:dL Try.prog 117:=⟨⟨_,Try.underlying117,rfl⟩,⟨Try.t117,by kernel_rfl,by kernel_rfl⟩⟩
theorem sy:Try.prog.underlying 117 = some (.map 3 3):=Try.underlying117
theorem iq:nG Try.prog 117 3 3 .i64 (.i 0):=⟨Try.underlying117,Try.underlying3,⟨Try.t3,_,by kernel_rfl,rfl,fun _=>⟨rfl,by decide,by decide⟩⟩⟩
theorem jj:jf Try.prog 119 1:=⟨⟨_,Try.underlying119,rfl⟩,⟨Try.t119,by kernel_rfl,by kernel_rfl⟩⟩
theorem sr:cQ Try.prog 93:=⟨Try.call93⟩
theorem xJ:cQ Try.prog 91:=⟨Try.call91⟩
theorem uT:lL Try.prog 119 [(0,1)] [.raw (.map none)]:=⟨⟨Try.t119,_,_,by kernel_rfl,rfl,rfl,Try.underlying119,by kernel_rfl⟩⟩
theorem we:pj Try.prog 119 [.raw (.map none)]:=⟨⟨Try.t119,_,by kernel_rfl,rfl,rfl⟩⟩
theorem und60:Try.prog.underlying 60 = some (.slice 23):=Try.underlying60
theorem jt:hZ Try.prog 60 23 1 24 [.nil]:=⟨Try.underlying60,⟨Try.t23,_,by kernel_rfl,rfl,rfl,rfl,rfl,by decide,rfl⟩⟩
theorem gF:dL Try.prog 23:=⟨⟨_,Try.underlying23,rfl⟩,⟨Try.t23,by kernel_rfl,by kernel_rfl⟩⟩
theorem goes71:cQ Try.prog 71:=⟨Try.call71⟩
theorem goes72:cQ Try.prog 72:=⟨Try.call72⟩
theorem nU:cQ Try.prog 31:=⟨Try.call31⟩
theorem goes92:cQ Try.prog 92:=⟨Try.call92⟩
theorem nf:lL Try.prog 59 [(0,1),(1,1),(2,1)] [.i 0,.nil,.nil]:=⟨⟨Try.t59,_,_,by kernel_rfl,rfl,rfl,Try.underlying59,by kernel_rfl⟩⟩
theorem gu:hZ Try.prog 29 59 3 56 [.i 0,.nil,.nil]:=⟨Try.underlying29,⟨Try.t59,_,by kernel_rfl,rfl,rfl,rfl,rfl,by decide,rfl⟩⟩
theorem sv:cQ Try.prog 42:=⟨Try.call42⟩
theorem xM:cQ Try.prog 70:=⟨Try.call70⟩
theorem goes80:cQ Try.prog 80:=⟨Try.call80⟩
theorem goes94:cQ Try.prog 94:=⟨Try.call94⟩
theorem goes79:cQ Try.prog 79:=⟨Try.call79⟩
theorem aY:cC Try.prog 95 0 0 31:=⟨⟨_,_,Try.t31,Try.underlying95,rfl,rfl,rfl,by kernel_rfl,by decide⟩⟩
theorem rR:cC Try.prog 31 2 2 3:=⟨⟨_,_,Try.t3,Try.underlying31,rfl,rfl,rfl,by kernel_rfl,by decide⟩⟩
theorem eV:cC Try.prog 31 0 0 3:=⟨⟨_,_,Try.t3,Try.underlying31,rfl,rfl,rfl,by kernel_rfl,by decide⟩⟩
theorem rQ:cC Try.prog 42 1 1 3:=⟨⟨_,_,Try.t3,Try.underlying42,rfl,rfl,rfl,by kernel_rfl,by decide⟩⟩
theorem gW:cC Try.prog 42 2 2 3:=⟨⟨_,_,Try.t3,Try.underlying42,rfl,rfl,rfl,by kernel_rfl,by decide⟩⟩
theorem gV:cC Try.prog 95 1 10 32:=⟨⟨_,_,Try.t32,Try.underlying95,rfl,rfl,rfl,by kernel_rfl,by decide⟩⟩
theorem kC:dL Try.prog 32:=⟨⟨_,Try.underlying32,rfl⟩,⟨Try.t32,by kernel_rfl,by kernel_rfl⟩⟩
theorem fH:jf Try.prog 42 7:=⟨⟨_,Try.underlying42,rfl⟩,⟨Try.t42,by kernel_rfl,by kernel_rfl⟩⟩
theorem eP:hZ Try.prog 32 42 7 104 [.i 0,.i 0,.i 0,.i 0,.nil,.nil,.nil]:=⟨Try.underlying32,⟨Try.t42,_,by kernel_rfl,rfl,rfl,rfl,rfl,by decide,rfl⟩⟩
theorem und28:Try.prog.underlying 28 = some (.slice 4):=Try.underlying28
theorem iE:hZ Try.prog 28 4 1 1 [.bool false]:=⟨Try.underlying28,⟨Try.t4,_,by kernel_rfl,rfl,rfl,rfl,rfl,by decide,rfl⟩⟩
theorem mu:dL Try.prog 4:=⟨⟨_,Try.underlying4,rfl⟩,⟨Try.t4,by kernel_rfl,by kernel_rfl⟩⟩
theorem und4:Try.prog.underlying 4 = some .bool:=Try.underlying4
theorem goes90:cQ Try.prog 90:=⟨Try.call90⟩
theorem iH:cC Try.prog 31 3 3 22:=⟨⟨_,_,Try.t22,Try.underlying31,rfl,rfl,rfl,by kernel_rfl,by decide⟩⟩
theorem cS:hZ Try.prog 24 9 1 16 [.str []]:=⟨Try.underlying24,⟨Try.t9,_,by kernel_rfl,rfl,rfl,rfl,rfl,by decide,rfl⟩⟩
theorem gI:dL Try.prog 9:=⟨⟨_,Try.underlying9,rfl⟩,⟨Try.t9,by kernel_rfl,by kernel_rfl⟩⟩
theorem gX:cC Try.prog 31 4 4 28:=⟨⟨_,_,Try.t28,Try.underlying31,rfl,rfl,rfl,by kernel_rfl,by decide⟩⟩
theorem fc:dL Try.prog 28:=⟨⟨_,Try.underlying28,rfl⟩,⟨Try.t28,by kernel_rfl,by kernel_rfl⟩⟩
theorem ux:cQ Try.prog 68:=⟨Try.call68⟩
theorem nc:cC Try.prog 31 5 5 23:=⟨⟨_,_,Try.t23,Try.underlying31,rfl,rfl,rfl,by kernel_rfl,by decide⟩⟩
theorem dB:cC Try.prog 31 7 7 29:=⟨⟨_,_,Try.t29,Try.underlying31,rfl,rfl,rfl,by kernel_rfl,by decide⟩⟩
theorem fG:dL Try.prog 29:=⟨⟨_,Try.underlying29,rfl⟩,⟨Try.t29,by kernel_rfl,by kernel_rfl⟩⟩
theorem nE:Try.prog.underlying 29 = some (.slice 59):=Try.underlying29
theorem iG:cC Try.prog 31 8 8 28:=⟨⟨_,_,Try.t28,Try.underlying31,rfl,rfl,rfl,by kernel_rfl,by decide⟩⟩
theorem jy:jf Try.prog 59 3:=⟨⟨_,Try.underlying59,rfl⟩,⟨Try.t59,by kernel_rfl,by kernel_rfl⟩⟩
theorem oJ:pj Try.prog 59 [.i 0,.nil,.nil]:=⟨⟨Try.t59,_,by kernel_rfl,rfl,rfl⟩⟩
theorem dW:cC Try.prog 59 1 1 22:=⟨⟨_,_,Try.t22,Try.underlying59,rfl,rfl,rfl,by kernel_rfl,by decide⟩⟩
theorem su:cQ Try.prog 55:=⟨Try.call55⟩
theorem iF:cC Try.prog 59 0 0 3:=⟨⟨_,_,Try.t3,Try.underlying59,rfl,rfl,rfl,by kernel_rfl,by decide⟩⟩
theorem lj:cC Try.prog 31 6 6 24:=⟨⟨_,_,Try.t24,Try.underlying31,rfl,rfl,rfl,by kernel_rfl,by decide⟩⟩
theorem dz:dL Try.prog 24:=⟨⟨_,Try.underlying24,rfl⟩,⟨Try.t24,by kernel_rfl,by kernel_rfl⟩⟩
theorem uy:cQ Try.prog 56:=⟨Try.call56⟩
theorem px:lL Try.prog 42 [(0,1),(1,1),(2,1),(3,1),(4,1),(5,1),(6,1)] [.i 0,.i 0,.i 0,.i 0,.nil,.nil,.nil]:=⟨⟨Try.t42,_,_,by kernel_rfl,rfl,rfl,Try.underlying42,by kernel_rfl⟩⟩
theorem uB:cQ Try.prog 43:=⟨Try.call43⟩
theorem ji:pj Try.prog 31 [.i 0,.i 0,.i 0,.nil,.nil,.nil,.nil,.nil,.nil,.nil]:=⟨⟨Try.t31,_,by kernel_rfl,rfl,rfl⟩⟩
theorem goes41:cQ Try.prog 41:=⟨Try.call41⟩
theorem qp:Try.prog.underlying 24 = some (.slice 9):=Try.underlying24
theorem iI:lL Try.prog 31 [(0,1),(1,1),(2,1),(3,1),(4,1),(5,1),(6,1),(7,1),(8,1),(9,1)] [.i 0,.i 0,.i 0,.nil,.nil,.nil,.nil,.nil,.nil,.nil]:=⟨⟨Try.t31,_,_,by kernel_rfl,rfl,rfl,Try.underlying31,by kernel_rfl⟩⟩
theorem aV:jf Try.prog 31 10:=⟨⟨_,Try.underlying31,rfl⟩,⟨Try.t31,by kernel_rfl,by kernel_rfl⟩⟩
theorem pv:lL Try.prog 95 [(0,10),(10,1)] [.i 0,.i 0,.i 0,.nil,.nil,.nil,.nil,.nil,.nil,.nil,.nil]:=⟨⟨Try.t95,_,_,by kernel_rfl,rfl,rfl,Try.underlying95,by kernel_rfl⟩⟩
theorem xP:cQ Try.prog 44:=⟨Try.call44⟩
theorem gi:cC Try.prog 42 5 5 22:=⟨⟨_,_,Try.t22,Try.underlying42,rfl,rfl,rfl,by kernel_rfl,by decide⟩⟩
theorem lh:cC Try.prog 42 6 6 24:=⟨⟨_,_,Try.t24,Try.underlying42,rfl,rfl,rfl,by kernel_rfl,by decide⟩⟩
theorem po:cC Try.prog 42 4 4 23:=⟨⟨_,_,Try.t23,Try.underlying42,rfl,rfl,rfl,by kernel_rfl,by decide⟩⟩
theorem xN:cQ Try.prog 52:=⟨Try.call52⟩
theorem goes85:cQ Try.prog 85:=⟨Try.call85⟩
theorem uA:cQ Try.prog 51:=⟨Try.call51⟩
theorem xK:cQ Try.prog 86:=⟨Try.call86⟩
theorem uz:cQ Try.prog 54:=⟨Try.call54⟩
theorem goes97:cQ Try.prog 97:=⟨Try.call97⟩
theorem goes89:cQ Try.prog 89:=⟨Try.call89⟩
theorem goes88:cQ Try.prog 88:=⟨Try.call88⟩
theorem goes96:cQ Try.prog 96:=⟨Try.call96⟩
theorem tyZero3:pj Try.prog 3 [.i 0]:=⟨⟨Try.t3,_,by kernel_rfl,rfl,rfl⟩⟩
theorem goes87:cQ Try.prog 87:=⟨Try.call87⟩
theorem fy:cC Try.prog 31 9 9 24:=⟨⟨_,_,Try.t24,Try.underlying31,rfl,rfl,rfl,by kernel_rfl,by decide⟩⟩
theorem na:cC Try.prog 42 3 3 3:=⟨⟨_,_,Try.t3,Try.underlying42,rfl,rfl,rfl,by kernel_rfl,by decide⟩⟩
theorem wg:cC Try.prog 31 1 1 3:=⟨⟨_,_,Try.t3,Try.underlying31,rfl,rfl,rfl,by kernel_rfl,by decide⟩⟩
theorem undm111:Try.prog.underlying 111 = some (.map 3 96):=Try.underlying111
theorem jS:nG Try.prog 111 3 96 .i64 (.raw .nilFunc):=⟨Try.underlying111,Try.underlying3,⟨Try.t96,_,by kernel_rfl,rfl,fun _=>⟨rfl,rfl⟩⟩⟩
theorem pq:cC Try.prog 42 0 0 3:=⟨⟨_,_,Try.t3,Try.underlying42,rfl,rfl,rfl,by kernel_rfl,by decide⟩⟩
theorem vr:∃ ps rs v,Try.prog.underlying 96 = some (.func ps rs v):=⟨_,_,_,Try.underlying96⟩
theorem goes62:cQ Try.prog 62:=⟨Try.call62⟩
theorem goes63:cQ Try.prog 63:=⟨Try.call63⟩
theorem goes64:cQ Try.prog 64:=⟨Try.call64⟩
theorem xO:cQ Try.prog 50:=⟨Try.call50⟩
theorem goes53:cQ Try.prog 53:=⟨Try.call53⟩
theorem pn:cC Try.prog 59 2 2 22:=⟨⟨_,_,Try.t22,Try.underlying59,rfl,rfl,rfl,by kernel_rfl,by decide⟩⟩
theorem uF:cQ Try.prog 19:=⟨Try.call19⟩
theorem goes36:cQ Try.prog 36:=⟨Try.call36⟩
theorem goes26:cQ Try.prog 26:=⟨Try.call26⟩
theorem uH:cQ Try.prog 11:=⟨Try.call11⟩
theorem oi:Try.prog.underlying 32 = some (.slice 42):=Try.underlying32
theorem pg:cQ Try.prog 17:=⟨Try.call17⟩
theorem uE:cQ Try.prog 20:=⟨Try.call20⟩
theorem uG:cQ Try.prog 15:=⟨Try.call15⟩
theorem xQ:cQ Try.prog 32:=⟨Try.call32⟩
theorem uD:cQ Try.prog 22:=⟨Try.call22⟩
theorem goes69:cQ Try.prog 69:=⟨Try.call69⟩
theorem goes24:cQ Try.prog 24:=⟨Try.call24⟩
theorem goes25:cQ Try.prog 25:=⟨Try.call25⟩
theorem xY:pj Try.prog 42 [.i 0,.i 0,.i 0,.i 0,.nil,.nil,.nil]:=⟨⟨Try.t42,_,by kernel_rfl,rfl,rfl⟩⟩
theorem goes9:cQ Try.prog 9:=⟨Try.call9⟩
theorem uI:cQ Try.prog 10:=⟨Try.call10⟩
theorem xt:hZ Try.prog 61 5 1 1 [.int .u8 0]:=⟨Try.underlying61,⟨Try.t5,_,by kernel_rfl,rfl,rfl,rfl,rfl,by decide,rfl⟩⟩
theorem vt:Try.prog.underlying 61 = some (.slice 5):=Try.underlying61
theorem sx:cQ Try.prog 28:=⟨Try.call28⟩
theorem fL:hZ Try.prog 62 31 10 192 [.i 0,.i 0,.i 0,.nil,.nil,.nil,.nil,.nil,.nil,.nil]:=⟨Try.underlying62,⟨Try.t31,_,by kernel_rfl,rfl,rfl,rfl,rfl,by decide,rfl⟩⟩
theorem tyOne5:dL Try.prog 5:=⟨⟨_,Try.underlying5,rfl⟩,⟨Try.t5,by kernel_rfl,by kernel_rfl⟩⟩
theorem uC:cQ Try.prog 29:=⟨Try.call29⟩
theorem goes30:cQ Try.prog 30:=⟨Try.call30⟩
def l4 (F:Nat) (x0:Int):Option Int :=
 Option.bind (if (decide (4294967296 ≤ x0)) = true then (some (x0 / 4294967296,32)) else (some (x0,0))) (eD fun x_1 n_2=>Option.bind (if (decide (65536 ≤ x_1)) = true then (some (x_1 / 65536,IntKind.i64.wrap (n_2 + 16))) else (some (x_1,n_2))) (eD fun x_3 n_4=>Option.bind (if (decide (256 ≤ x_3)) = true then (some (x_3 / 256,IntKind.i64.wrap (n_4 + 8))) else (some (x_3,n_4))) (eD fun x_5 n_6=>(aT ([0,1,2,2,3,3,3,3,4,4,4,4,4,4,4,4,5,5,5,5,5,5,5,5,5,5,5,5,5,5,5,5,6,6,6,6,6,6,6,6,6,6,6,6,6,6,6,6,6,6,6,6,6,6,6,6,6,6,6,6,6,6,6,6,7,7,7,7,7,7,7,7,7,7,7,7,7,7,7,7,7,7,7,7,7,7,7,7,7,7,7,7,7,7,7,7,7,7,7,7,7,7,7,7,7,7,7,7,7,7,7,7,7,7,7,7,7,7,7,7,7,7,7,7,7,7,7,7,8,8,8,8,8,8,8,8,8,8,8,8,8,8,8,8,8,8,8,8,8,8,8,8,8,8,8,8,8,8,8,8,8,8,8,8,8,8,8,8,8,8,8,8,8,8,8,8,8,8,8,8,8,8,8,8,8,8,8,8,8,8,8,8,8,8,8,8,8,8,8,8,8,8,8,8,8,8,8,8,8,8,8,8,8,8,8,8,8,8,8,8,8,8,8,8,8,8,8,8,8,8,8,8,8,8,8,8,8,8,8,8,8,8,8,8,8,8,8,8,8,8,8,8,8,8,8,8]:Str) (IntKind.u8.wrap x_5)).bind fun x_7=>bR (IntKind.i64.wrap (n_6 + (IntKind.i64.wrap (x_7.toNat:Int)))) fun x_8=>some x_8)))
theorem qf {F:Nat} {x0:Int} {r:Int} (h:l4 F x0 = some r):aC Try.prog [] 110 [] [.one (.int .u64 x0)] (Is [] (.b (.one (.i r)))):=by
 unfold l4 at h
 refine aC.intro 25 Try.func110 Try.ntmps110 rfl (by simp) fun E=>?_
 show ab _ E ⟨25,[],[],[]⟩ _ ⟨[(0,.b (.one (.int .u64 x0)))],[]⟩ _
 refine ab.seq (ab.aa ?_)
 refine Oc oa (ae.ak ⟨[(0,.b (.one (.int .u64 x0))),(2,I 0)],[]⟩ rfl ?_)
 obtain ⟨v1,h2,h⟩:=aR h
 refine ab.cJ (v:=v1) (eD fun (x_1:Int) (n_2:Int)=>⟨[(0,.b (.one (.int .u64 x_1))),(2,I n_2)],[]⟩) (fun z=>z) ?_ ?_
 ·refine ab.seq (ab.aa ?_)
  refine Oc om (Oc (fN rfl rfl) ?_)
  refine ae.ak ⟨[(0,_),(2,_),(4,B (decide (4294967296 ≤ x0)))],[]⟩ rfl (ab.ite h2 rfl (fun _ h2=>?_) (fun _ h2=>?_))
  ·refine ab.seq (ab.aa ?_)
   refine Oc om (Oc (qi (m:=32) (by decide) rfl rfl rfl) (Oc oa ?_))
   refine ae.ak ⟨[(0,.b (.one (.int .u64 (x0 / 4294967296))))],[]⟩ rfl (ab.aa (Oc oa (ae.nil ?_)))
   exact Fin.join [0,2] [] (x0 / 4294967296,32) (Option.some.inj h2) rfl
  ·refine ab.skip ?_
   exact Fin.join [0,2] [] (x0,0) (Option.some.inj h2) rfl
 ·rintro ⟨x_1,n_2⟩ hv
  subst v1
  obtain ⟨v3,h4,h⟩:=aR h
  refine ab.cJ (v:=v3) (eD fun (x_3:Int) (n_4:Int)=>⟨[(0,.b (.one (.int .u64 x_3))),(2,I n_4)],[]⟩) (fun z=>z) ?_ ?_
  ·refine ab.seq (ab.aa ?_)
   refine Oc om (Oc (fN rfl rfl) ?_)
   refine ae.ak ⟨[(0,_),(2,_),(8,B (decide (65536 ≤ x_1)))],[]⟩ rfl (ab.ite h4 rfl (fun _ h4=>?_) (fun _ h4=>?_))
   ·refine ab.seq (ab.aa ?_)
    refine Oc om (Oc (qi (m:=16) (by decide) rfl rfl rfl) (Oc oa ?_))
    refine ae.ak ⟨[(0,.b (.one (.int .u64 (x_1 / 65536)))),(2,_)],[]⟩ rfl (ab.aa (Oc om (Oc (bq rfl rfl) (Oc oa ?_))))
    refine ae.nil ?_
    exact Fin.join [0,2] [] (x_1 / 65536,IntKind.i64.wrap (n_2 + 16)) (Option.some.inj h4) rfl
   ·refine ab.skip ?_
    exact Fin.join [0,2] [] (x_1,n_2) (Option.some.inj h4) rfl
  ·rintro ⟨x_3,n_4⟩ hv
   subst v3
   obtain ⟨v5,h6,h⟩:=aR h
   refine ab.cJ (v:=v5) (eD fun (x_5:Int) (n_6:Int)=>⟨[(0,.b (.one (.int .u64 x_5))),(2,I n_6)],[]⟩) (fun z=>z) ?_ ?_
   ·refine ab.seq (ab.aa ?_)
    refine Oc om (Oc (fN rfl rfl) ?_)
    refine ae.ak ⟨[(0,_),(2,_),(14,B (decide (256 ≤ x_3)))],[]⟩ rfl (ab.ite h6 rfl (fun _ h6=>?_) (fun _ h6=>?_))
    ·refine ab.seq (ab.aa ?_)
     refine Oc om (Oc (qi (m:=8) (by decide) rfl rfl rfl) (Oc oa ?_))
     refine ae.ak ⟨[(0,.b (.one (.int .u64 (x_3 / 256)))),(2,_)],[]⟩ rfl (ab.aa (Oc om (Oc (bq rfl rfl) (Oc oa ?_))))
     refine ae.nil ?_
     exact Fin.join [0,2] [] (x_3 / 256,IntKind.i64.wrap (n_4 + 8)) (Option.some.inj h6) rfl
    ·refine ab.skip ?_
     exact Fin.join [0,2] [] (x_3,n_4) (Option.some.inj h6) rfl
   ·rintro ⟨x_5,n_6⟩ hv
    subst v5
    refine ab.seq (ab.aa ?_)
    refine Oc om (Oc om (Oc (eo undi154 rF rfl) ?_))
    obtain ⟨x_7,e7,h⟩:=aR h
    refine Oc (sZ und9 rfl rfl (aK e7) (xF e7)) (Oc (eo rF qo rfl) ?_)
    refine ae.ti .i64 h rfl (bq rfl rfl) (fun x_8 h=>?_)
    refine Oc oa (ae.ak ⟨[(2,I x_8)],[]⟩ rfl (ab.ret ?_))
    obtain rfl:=Option.some.inj h
    refine Fin.ah ⟨[(2,_)],[]⟩ rfl (Fin.bd [.one (.i x_8)] (.inl rfl) rfl (.cons (.tmp rfl) .nil) ⟨rfl,rfl⟩)
def od (F:Nat) (x0:Int):Option Int :=
 (l4 F x0).bind fun x_1=>some x_1
theorem rC {F:Nat} {x0:Int} {r:Int} (h:od F x0 = some r):aC Try.prog [] 99 [] [.one (.int .u64 x0)] (Is [] (.b (.one (.i r)))):=by
 unfold od at h
 refine aC.intro 8 Try.func99 Try.ntmps99 rfl (by simp) fun E=>?_
 show ab _ E ⟨8,[],[],[]⟩ _ ⟨[(0,.b (.one (.int .u64 x0)))],[]⟩ _
 refine ab.seq (ab.aa ?_)
 refine Oc oa (ae.ak ⟨[(0,.b (.one (.int .u64 x0)))],[]⟩ rfl (ab.seq (ab.condFc (ab.skip (Fin.ah ⟨[(0,_)],[]⟩ rfl ?_)))))
 refine Fin.then (ab.seq (ab.aa ?_))
 refine Oc om ?_
 obtain ⟨x_1,e1,h⟩:=aR h
 refine Oc (aH (qf e1) goes110 rfl rfl) (Oc oa ?_)
 refine ae.ak ⟨[(2,I x_1)],[]⟩ rfl (ab.ret ?_)
 obtain rfl:=Option.some.inj h
 refine Fin.ah ⟨[(2,_)],[]⟩ rfl (Fin.bd [.one (.i x_1)] (.inl rfl) rfl (.cons (.tmp rfl) .nil) ⟨rfl,rfl⟩)
def fh (F:Nat):Option Unit :=
 Option.bind (iter F (fun _=>some (.inr ())) ()) (fun _=>some ())
theorem km {F:Nat} {r:Unit} (h:fh F = some r):aC Try.prog [] 100 [] [.one (.nil),.one (.i 0),.one (.i 0)] (Is [] (.fa [])):=by
 unfold fh at h
 refine aC.intro 49 Try.func100 Try.ntmps100 rfl (by simp) fun E=>?_
 show ab _ E ⟨49,[],[],[]⟩ _ ⟨[(0,.b (.one (.nil))),(1,I 0),(2,I 0)],[]⟩ _
 refine ab.seq (ab.aa ?_)
 refine Oc om (Oc (bq rfl rfl) (Oc oa ?_))
 refine ae.ak ⟨[(0,.b (.one (.nil))),(1,I 0),(2,I 0),(6,I 1)],[]⟩ rfl (ab.block ?_)
 obtain ⟨v1,h2,h⟩:=aR h
 refine ab.ct h2 (fun (_:Unit)=>⟨[(0,.b (.one (.nil))),(1,I 0),(2,I 0),(6,I 1)],[]⟩) [0,1,2,6] [] rfl ?_
 rintro _ o3 h4 hy5
 refine ab.seq (ab.seq (ab.aa ?_))
 refine Oc om (Oc om (Oc (bm rfl rfl) ?_))
 refine ae.ak ⟨[(0,_),(1,_),(2,_),(6,_),(12,B false)],[]⟩ rfl (ab.xn rfl (ab.exit (Fin.ao ?_)))
 obtain rfl:=hy5 _ (Option.some.inj h4).symm
 refine Fin.ao (Fin.aI ?_)
 obtain rfl:=Option.some.inj h
 refine Fin.ah ⟨[],[]⟩ rfl (Fin.bd [] (.inr rfl) rfl (.nil) ⟨rfl,rfl⟩)
def ep (F:Nat):Nat → Int → Option Unit
 | 0,_=>none
 | n + 1,limit0=>Option.bind (iter F (fun _=>(fh F).bind fun u_1=>some (.inr ())) ()) (fun y=>some y)
def jo (F:Nat) (limit0:Int):Option Unit:=ep F F limit0
theorem kV {F:Nat}:∀ (n:Nat) {limit0:Int} {r:Unit} (h:ep F n limit0 = some r),aC Try.prog [] 98 [] [.one (.nil),.one (.i 0),.one (.i 0),.one (.i limit0)] (Is [] (.fa [])):=by
 intro n
 induction n with
 | zero=>intro limit0 r h; simp [ep] at h
 | succ n ih=>
 intro limit0 r h
 unfold ep at h
 refine aC.intro 134 Try.func98 Try.ntmps98 rfl (by simp) fun E=>?_
 show ab _ E ⟨134,[],[],[]⟩ _ ⟨[(0,.b (.one (.nil))),(1,I 0),(2,I 0),(3,I limit0)],[]⟩ _
 refine ab.seq (ab.aa ?_)
 refine Oc oa (ae.ak ⟨[(0,.b (.one (.nil))),(1,I 0),(2,I 0),(3,I limit0),(8,B true)],[]⟩ rfl (ab.seq (ab.aa ?_)))
 refine Oc oa (ae.ak ⟨[(0,_),(1,_),(2,_),(3,_),(8,_),(9,B true)],[]⟩ rfl (ab.block ?_))
 obtain ⟨v1,h2,h⟩:=aR h
 refine ab.ct h2 (fun (_:Unit)=>⟨[(0,.b (.one (.nil))),(1,I 0),(2,I 0),(3,I limit0),(8,B true),(9,B true)],[]⟩) [0,1,2,3,8,9] [] rfl ?_
 rintro _ o3 h4 hy5
 refine ab.block (ab.seq (ab.aa ?_))
 refine Oc om (Oc om (Oc (op_sub rfl rfl) (Oc oa ?_)))
 refine ae.ak ⟨[(0,_),(1,_),(2,_),(3,_),(8,_),(9,_),(10,I 0)],[]⟩ rfl (ab.seq (ab.seq (ab.aa ?_)))
 refine Oc om (Oc (sd rfl rfl) ?_)
 refine ae.ak ⟨[(0,_),(1,_),(2,_),(3,_),(8,_),(9,_),(10,_),(23,B true)],[]⟩ rfl (ab.tj rfl (ab.seq (ab.aa ?_)))
 refine Oc om (Oc om (Oc om ?_))
 obtain ⟨u_1,e6,h4⟩:=aR h4
 refine Oc (aH (km e6) goes100 rfl rfl) (ae.ak ⟨[],[]⟩ rfl (ab.ret (Fin.aq (Fin.aD ?_))))
 obtain rfl:=hy5 _ (Option.some.inj h4).symm
 refine Fin.aq (Fin.aD ?_)
 obtain rfl:=Option.some.inj h
 refine Fin.ah ⟨[],[]⟩ rfl (Fin.bd [] (.inl rfl) rfl (.nil) ⟨rfl,rfl⟩)
theorem lC {F:Nat} {limit0:Int} {r:Unit} (h:jo F limit0 = some r):aC Try.prog [] 98 [] [.one (.nil),.one (.i 0),.one (.i 0),.one (.i limit0)] (Is [] (.fa [])):=kV F h
def kK (F:Nat):Option Unit :=
 (od F (IntKind.u64.wrap 0)).bind fun x_1=>(jo F x_1).bind fun u_2=>some ()
theorem mV {F:Nat} {r:Unit} (h:kK F = some r):aC Try.prog [] 91 [] [.one (.nil)] (Is [] (.fa [])):=by
 unfold kK at h
 refine aC.intro 11 Try.func91 Try.ntmps91 rfl (by simp) fun E=>?_
 show ab _ E ⟨11,[],[],[]⟩ _ ⟨[(0,.b (.one (.nil)))],[]⟩ _
 refine ab.seq (ab.aa ?_)
 refine Oc om (Oc (u6 cc rfl) (Oc oa ?_))
 refine ae.ak ⟨[(0,.b (.one (.nil))),(2,I 0)],[]⟩ rfl (ab.aa (Oc om (Oc om (Oc om (Oc (eo qo sz rfl) ?_)))))
 obtain ⟨x_1,e1,h⟩:=aR h
 refine Oc (aH (rC e1) goes99 rfl rfl) ?_
 obtain ⟨u_2,e2,h⟩:=aR h
 refine Oc (aH (lC e2) goes98 rfl rfl) (ae.nil ?_)
 obtain rfl:=Option.some.inj h
 refine Fin.ah ⟨[],[]⟩ rfl (Fin.bd [] (.inr rfl) rfl (.nil) ⟨rfl,rfl⟩)
theorem pP:aC Try.prog [] 91 [] [.one .nil] (Is [] (.fa [])):=mV (F:=3) (r:=()) (by rfl)
def cU (F:Nat) (zs:List Int):Option (List Int):=lH zs
theorem lu {F:Nat} {zs r:List Int} (h:cU F zs = some r):aC Try.prog [] 91 [(1,.iD 3 1 (zs.map eI))] [.row 1] (Is [(1,.iD 3 1 (r.map eI))] (.fa [])):=tX Try.lays189 pP h
def dK (F:Nat) (zs:List Int):Option (List Int):=nm zs
theorem nv {F:Nat} {zs r:List Int} (h:dK F zs = some r):aC Try.prog [] 92 [(1,.row 3 1 (zs.map eI))] [.row 1] (Is [(1,.row 3 1 (r.map eI))] (.b (.row 1))):=rh Try.yr h
def dG (F:Nat) (sets0:List (List Int)):Option Bool :=
 Option.bind (iter F (fun i_1=>if (decide (i_1 < (sets0.length:Int))) = true then ((aT sets0 i_1).bind fun x_2=>if (decide (8 < (x_2.length:Int))) = true then (some (.inr (.inr false))) else (some (.inl (IntKind.i64.wrap (i_1 + 1))))) else (some (.inr (.inl ())))) 0) (bH (fun _=>some (decide ((sets0.length:Int) ≤ 30))) (fun y=>some y))
theorem l7 {F:Nat} {sets0:List (List Int)} {r:Bool} (h:dG F sets0 = some r):aC Try.prog [] 9 [] [.one (.sl 1 (sets0.map (eL 1 eI)))] (Is [] (.b (.one (.bool r)))):=by
 unfold dG at h
 refine aC.intro 19 Try.func9 Try.ntmps9 rfl (by simp) fun E=>?_
 show ab _ E ⟨19,[],[],[]⟩ _ ⟨[(0,.b (.one (.sl 1 (sets0.map (eL 1 eI)))))],[]⟩ _
 refine ab.seq (ab.aa ?_)
 refine Oc oa (ae.ak ⟨[(0,.b (.one (.sl 1 (sets0.map (eL 1 eI)))))],[]⟩ rfl ?_)
 obtain ⟨v1,h2,h⟩:=aR h
 refine ab.cJ (v:=v1) (fun (_:Unit)=>⟨[(0,.b (.one (.sl 1 (sets0.map (eL 1 eI)))))],[]⟩) (fun z=>.inl z) ?_ ?_
 ·refine ab.seq (ab.aa ?_)
  refine Oc oa (ae.ak ⟨[(0,_),(3,I 0)],[]⟩ rfl (ab.block (ab.ct h2 (fun (i_1:Int)=>⟨[(0,.b (.one (.sl 1 (sets0.map (eL 1 eI))))),(3,I i_1)],[]⟩) [0,3] [] rfl ?_)))
  rintro i_1 o3 h4 hy5
  refine ab.seq (ab.seq (ab.aa ?_))
  refine Oc om (Oc om (Oc (ay nF rfl (List.length_map _)) (Oc (bm rfl rfl) ?_)))
  refine ae.ak ⟨[(0,_),(3,_),(7,B (decide (i_1 < (sets0.length:Int))))],[]⟩ rfl (ab.ite h4 rfl (fun _ h4=>?_) (fun _ h4=>?_))
  ·refine ab.skip (Fin.ah ⟨[(0,_),(3,_)],[]⟩ rfl (Fin.then (ab.seq (ab.block (ab.seq (ab.aa ?_))))))
   refine Oc om (Oc om ?_)
   obtain ⟨x_2,e6,h4⟩:=aR h4
   refine Oc (ar er (aK e6) (aE (e:=(eL 1 eI)) e6) rfl rfl) (Oc (aw bx rfl rfl) (Oc (ay cc rfl (List.length_map _)) (Oc (jO rfl rfl) ?_)))
   refine ae.ak ⟨[(0,_),(3,_),(15,B (decide (8 < (x_2.length:Int))))],[]⟩ rfl (ab.ite h4 rfl (fun _ h4=>?_) (fun _ h4=>?_))
   ·refine ab.seq (ab.aa ?_)
    refine Oc oa (ae.ak ⟨[(2,B false)],[]⟩ rfl (ab.ret (Fin.aD (Fin.aq ?_))))
    obtain rfl:=hy5 _ (Option.some.inj h4).symm
    refine Fin.aq (Fin.aD (Fin.aq ?_))
    obtain rfl:=Option.some.inj h
    refine Fin.ah ⟨[(2,_)],[]⟩ rfl (Fin.bd [.one (.bool false)] (.inl rfl) rfl (.cons (.tmp rfl) .nil) ⟨rfl,rfl⟩)
   ·refine ab.skip (Fin.ax (Fin.ah ⟨[(0,_),(3,_)],[]⟩ rfl (Fin.then (ab.aa ?_))))
    refine Oc om (Oc (bq rfl rfl) (Oc oa ?_))
    refine ae.nil ?_
    exact Fin.bK [0,3] [] (IntKind.i64.wrap (i_1 + 1)) (Option.some.inj h4) rfl
  ·refine ab.exit (Fin.ao ?_)
   obtain rfl:=hy5 _ (Option.some.inj h4).symm
   refine Fin.ao (Fin.aI ?_)
   exact Fin.join [0] [] () rfl rfl
 ·rintro _ hv
  subst v1
  refine ab.seq (ab.aa ?_)
  refine Oc om (Oc (ay nF rfl (List.length_map _)) (Oc (sd rfl rfl) (Oc oa ?_)))
  refine ae.ak ⟨[(2,B (decide ((sets0.length:Int) ≤ 30)))],[]⟩ rfl (ab.ret ?_)
  obtain rfl:=Option.some.inj h
  refine Fin.ah ⟨[(2,_)],[]⟩ rfl (Fin.bd [.one (.bool (decide ((sets0.length:Int) ≤ 30)))] (.inl rfl) rfl (.cons (.tmp rfl) .nil) ⟨rfl,rfl⟩)
def dC (F:Nat) (i0:Int) (v0c:List Int) (v1c:Int):Option Bool :=
 (aT v0c i0).bind fun x_1=>some (decide (v1c < x_1))
theorem m3 {F:Nat} {i0:Int} {v0c:List Int} {v1c:Int} {r:Bool} (h:dC F i0 v0c v1c = some r):aC Try.prog [] 77 [(1,.box 22 [.sl 1 (v0c.map eI)]),(2,.box 3 [.i v1c])] [.one (.i i0),.ptr 1 0,.ptr 2 0] (Is [(1,.box 22 [.sl 1 (v0c.map eI)]),(2,.box 3 [.i v1c])] (.b (.one (.bool r)))):=by
 unfold dC at h
 refine aC.intro 11 Try.func77 Try.ntmps77 rfl (by simp) fun E=>?_
 show ab _ E ⟨11,[1,2],[1,2],[]⟩ _ ⟨[(0,I i0),(1,Pt 1 0),(2,Pt 2 0)],[(1,.box 22 [.sl 1 (v0c.map eI)]),(2,.box 3 [.i v1c])]⟩ _
 refine ab.seq (ab.aa ?_)
 refine Oc oa (ae.ak ⟨[(0,I i0),(1,Pt 1 0),(2,Pt 2 0)],[(1,.box 22 [.sl 1 (v0c.map eI)]),(2,.box 3 [.i v1c])]⟩ rfl (ab.seq ?_))
 obtain ⟨x_1,e1,h⟩:=aR h
 refine ab.fe mixed 7 [.b (.one (.sl 1 (v0c.map eI))),I i0,.b (.dS [.i x_1]),I x_1,I v1c,B (decide (v1c < x_1)),B (decide (v1c < x_1))] [4] [1,2] (s':=⟨[(4,B (decide (v1c < x_1)))],[(1,_),(2,_)]⟩) rfl ⟨fun _=>.p (av bx rfl rfl rfl),fun _=>.p om,fun _=>.p (ar ba (aK e1) (aE (e:=eI) e1) rfl rfl),fun _=>.p (aw aP rfl rfl),fun _=>.p (av aP rfl rfl rfl),fun _=>.p (jO rfl rfl),fun _=>.p oa,trivial⟩ rfl rfl (ab.ret ?_)
 obtain rfl:=Option.some.inj h
 refine Fin.ah ⟨[(4,_)],[(1,_),(2,_)]⟩ rfl ?_
 exact Fin.result [.one (.bool (decide (v1c < x_1)))] (.inl rfl) rfl (.cons (.tmp rfl) .nil) ⟨rfl,rfl⟩
def fB (F:Nat) (n0:Int) (f0v0:List Int) (f0v1:Int):Option Int :=
 Option.bind (iter F (eD fun i_2 j_3=>if (decide (i_2 < j_3)) = true then (bR (IntKind.u64.wrap (IntKind.i64.wrap (i_2 + j_3))) fun x_5=>(dC F (IntKind.i64.wrap (x_5 / 2)) f0v0 f0v1).bind fun x_6=>if (!x_6) = true then (bR (IntKind.i64.wrap ((IntKind.i64.wrap (x_5 / 2)) + 1)) fun x_7=>some (.inl (x_7,j_3))) else (some (.inl (i_2,IntKind.i64.wrap (x_5 / 2))))) else (some (.inr i_2))) (0,n0)) (fun i_1=>some i_1)
theorem pN {F:Nat} {n0:Int} {f0v0:List Int} {f0v1:Int} {r:Int} (h:fB F n0 f0v0 f0v1 = some r):aC Try.prog [] 76 [(1,.box 22 [.sl 1 (f0v0.map eI)]),(2,.box 3 [.i f0v1])] [.one (.i n0),.gr 77 [] [.ptr 1 0,.ptr 2 0]] (Is [(1,.box 22 [.sl 1 (f0v0.map eI)]),(2,.box 3 [.i f0v1])] (.b (.one (.i r)))):=by
 unfold fB at h
 refine aC.intro 26 Try.func76 Try.ntmps76 rfl (by simp) fun E=>?_
 show ab _ E ⟨26,[1,2],[1,2],[]⟩ _ ⟨[(0,I n0),(1,.b (.gr 77 [] [.ptr 1 0,.ptr 2 0]))],[(1,.box 22 [.sl 1 (f0v0.map eI)]),(2,.box 3 [.i f0v1])]⟩ _
 refine ab.seq (ab.aa ?_)
 refine Oc oa (ae.ak ⟨[(0,I n0),(1,.b (.gr 77 [] [.ptr 1 0,.ptr 2 0]))],[(1,.box 22 [.sl 1 (f0v0.map eI)]),(2,.box 3 [.i f0v1])]⟩ rfl (ab.seq (ab.aa ?_)))
 refine Oc om (Oc oa (Oc oa ?_))
 refine ae.ak ⟨[(1,_),(5,I 0),(6,I n0)],[(1,_),(2,_)]⟩ rfl ?_
 obtain ⟨v1,h2,h⟩:=aR h
 refine ab.cJ (v:=v1) (fun (i_1:Int)=>⟨[(5,I i_1)],[(1,.box 22 [.sl 1 (f0v0.map eI)]),(2,.box 3 [.i f0v1])]⟩) (fun z=>z) ?_ ?_
 ·refine ab.block (ab.ct h2 (eD fun (i_2:Int) (j_3:Int)=>⟨[(1,.b (.gr 77 [] [.ptr 1 0,.ptr 2 0])),(5,I i_2),(6,I j_3)],[(1,.box 22 [.sl 1 (f0v0.map eI)]),(2,.box 3 [.i f0v1])]⟩) [1,5,6] [1,2] rfl ?_)
  rintro ⟨i_2,j_3⟩ o3 h4 hy5
  refine ab.seq (ab.seq (ab.aa ?_))
  refine Oc om (Oc om (Oc (bm rfl rfl) ?_))
  refine ae.ak ⟨[(1,_),(5,_),(6,_),(11,B (decide (i_2 < j_3)))],[(1,_),(2,_)]⟩ rfl (ab.ite h4 rfl (fun _ h4=>?_) (fun _ h4=>?_))
  ·refine ab.skip (Fin.ah ⟨[(1,_),(5,_),(6,_)],[(1,_),(2,_)]⟩ rfl (Fin.then (ab.block (ab.seq (ab.aa ?_)))))
   refine Oc om (Oc om (Oc (bq rfl rfl) ?_))
   refine ae.ti .u64 h4 rfl (eo qo sz rfl) (fun x_5 h4=>?_)
   refine Oc (qi (m:=1) (by decide) rfl rfl rfl) (Oc (eo sz qo rfl) (Oc oa ?_))
   refine ae.ak ⟨[(1,_),(5,_),(6,_),(7,I (IntKind.i64.wrap (x_5 / 2)))],[(1,_),(2,_)]⟩ rfl (ab.seq (ab.aa ?_))
   refine Oc om (Oc om ?_)
   obtain ⟨x_6,e6,h4⟩:=aR h4
   refine Oc (jl (own_a:=[(1,_),(2,_)]) (m3 e6) goes77 rfl rfl rfl ⟨rfl,rfl,trivial⟩ rfl rfl) (Oc (dv rfl) ?_)
   refine ae.ak ⟨[(1,_),(5,_),(6,_),(7,_),(21,B (!x_6))],[(1,_),(2,_)]⟩ rfl (ab.ite h4 rfl (fun _ h4=>?_) (fun _ h4=>?_))
   ·refine ab.aa (Oc om (ae.ti .i64 h4 rfl (bq rfl rfl) (fun x_7 h4=>?_)))
    refine Oc oa (ae.nil (Fin.ax ?_))
    exact Fin.bK [1,5,6] [1,2] (x_7,j_3) (Option.some.inj h4) rfl
   ·refine ab.aa (Oc om (Oc oa ?_))
    refine ae.nil (Fin.ax ?_)
    exact Fin.bK [1,5,6] [1,2] (i_2,IntKind.i64.wrap (x_5 / 2)) (Option.some.inj h4) rfl
  ·refine ab.exit (Fin.ao ?_)
   obtain rfl:=hy5 _ (Option.some.inj h4).symm
   refine Fin.ao (Fin.aI ?_)
   exact Fin.join [5] [1,2] i_2 rfl rfl
 ·rintro i_1 hv
  subst v1
  refine ab.seq (ab.aa ?_)
  refine Oc om (Oc oa ?_)
  refine ae.ak ⟨[(4,I i_1)],[(1,_),(2,_)]⟩ rfl (ab.ret ?_)
  obtain rfl:=Option.some.inj h
  refine Fin.ah ⟨[(4,_)],[(1,_),(2,_)]⟩ rfl ?_
  exact Fin.result [.one (.i i_1)] (.inl rfl) rfl (.cons (.tmp rfl) .nil) ⟨rfl,rfl⟩
def dD (F:Nat) (x0:Int) (v0c:List Int):Option Int :=
 (fB F (v0c.length:Int) v0c x0).bind fun x_1=>some x_1
theorem ka {F:Nat} {x0:Int} {v0c:List Int} {r:Int} (h:dD F x0 v0c = some r):aC Try.prog [] 75 [(1,.box 22 [.sl 1 (v0c.map eI)])] [.one (.i x0),.ptr 1 0] (Is [(1,.box 22 [.sl 1 (v0c.map eI)])] (.b (.one (.i r)))):=by
 unfold dD at h
 refine aC.intro 8 Try.func75 Try.ntmps75 rfl (by simp) fun E=>?_
 show ab _ E ⟨8,[1],[1],[]⟩ _ ⟨[(0,I x0),(1,Pt 1 0)],[(1,.box 22 [.sl 1 (v0c.map eI)])]⟩ _
 refine ab.seq (ab.aa ?_)
 refine Oc (sJ (k:=101) rfl rfl) (Oc oa ?_)
 refine ae.ak ⟨[(1,Pt 1 0),(2,Pt 101 0)],[(1,.box 22 [.sl 1 (v0c.map eI)]),(101,.box 3 [.i x0])]⟩ rfl (ab.seq (ab.aa ?_))
 refine Oc (av bx rfl rfl rfl) (Oc (ay cc rfl (List.length_map _)) (Oc (fR rfl rfl) ?_))
 obtain ⟨x_1,e1,h⟩:=aR h
 refine Oc (bJ (own_a:=[(1,_),(101,_)]) ((pN e1).sw 2 101) goes76 rfl ⟨rfl,rfl,trivial⟩ rfl rfl) (Oc oa ?_)
 refine ae.ak ⟨[(3,I x_1)],[(1,_)]⟩ rfl (ab.ret ?_)
 obtain rfl:=Option.some.inj h
 refine Fin.ah ⟨[(3,_)],[(1,_)]⟩ rfl ?_
 exact Fin.result [.one (.i x_1)] (.inl rfl) rfl (.cons (.tmp rfl) .nil) ⟨rfl,rfl⟩
def fC (F:Nat) (borders0:List Int) (lo0:Int) (hi0:Int):Option (Int × Int) :=
 (dD F lo0 borders0).bind fun x_1=>(dD F hi0 borders0).bind fun x_2=>some (x_1,x_2)
theorem pS {F:Nat} {borders0:List Int} {lo0:Int} {hi0:Int} {r:Int × Int} (h:fC F borders0 lo0 hi0 = some r):aC Try.prog [] 36 [] [.one (.sl 1 (borders0.map eI)),.one (.i lo0),.one (.i hi0)] (Is [] (.fa [.one (.i r.1),.one (.i r.2)])):=by
 unfold fC at h
 refine aC.intro 16 Try.func36 Try.ntmps36 rfl (by simp) fun E=>?_
 show ab _ E ⟨16,[],[],[]⟩ _ ⟨[(0,.b (.one (.sl 1 (borders0.map eI)))),(1,I lo0),(2,I hi0)],[]⟩ _
 refine ab.seq (ab.aa ?_)
 refine Oc (sJ (k:=101) rfl rfl) (Oc oa (Oc oa ?_))
 refine ae.ak ⟨[(1,I lo0),(2,I hi0),(3,Pt 101 0)],[(101,.box 22 [.sl 1 (borders0.map eI)])]⟩ rfl (ab.seq (ab.aa ?_))
 refine Oc (fR rfl rfl) (Oc oa ?_)
 refine ae.ak ⟨[(1,_),(2,_),(8,.b (.gr 75 [] [.ptr 101 0]))],[(101,_)]⟩ rfl (ab.seq (ab.aa ?_))
 refine Oc om (Oc om ?_)
 obtain ⟨x_1,e1,h⟩:=aR h
 refine Oc (jl (own_a:=[(101,_)]) ((ka e1).sw 1 101) xL rfl rfl rfl ⟨rfl,trivial⟩ rfl rfl) (Oc om (Oc om ?_))
 refine ae.ah ⟨[(12,I x_1),(13,.b (.gr 75 [] [.ptr 101 0])),(14,I hi0)],[(101,_)]⟩ rfl ?_
 obtain ⟨x_2,e2,h⟩:=aR h
 refine Oc (jl (own_a:=[(101,_)]) ((ka e2).sw 1 101) xL rfl rfl rfl ⟨rfl,trivial⟩ rfl rfl) (Oc oa (Oc oa ?_))
 refine ae.ak ⟨[(6,I x_1),(7,I x_2)],[]⟩ rfl (ab.ret ?_)
 obtain rfl:=Option.some.inj h
 refine Fin.ah ⟨[(6,_),(7,_)],[]⟩ rfl (Fin.bd [.one (.i x_1),.one (.i x_2)] (.inl rfl) rfl (.cons (.tmp rfl) (.cons (.tmp rfl) .nil)) ⟨rfl,rfl⟩)
def b4 (F:Nat) (home0:List Int) (lists0:List (List Int)):Option Bool :=
 Option.bind (iter F (fun x_1=>if (decide (x_1 < (lists0.length:Int))) = true then (Option.bind ((aT lists0 x_1).bind fun x_2=>Option.bind (iter F (fun x_3=>if (decide (x_3 < (x_2.length:Int))) = true then ((aT x_2 x_3).bind fun x_4=>(aM (!((decide (x_4 < 0)) || (decide ((home0.length:Int) ≤ x_4)))) (aT home0 x_4)).bind fun x_5=>bR (((decide (x_4 < 0)) || (decide ((home0.length:Int) ≤ x_4))) || (decide (x_5 < 0))) fun x_6=>if x_6 = true then (some (.inr (.inr false))) else (some (.inl (IntKind.i64.wrap (x_3 + 1))))) else (some (.inr (.inl ())))) 0) (bH (fun _=>some (.inl ())) (fun y=>some (.inr y)))) (bH (fun _=>some (.inl (IntKind.i64.wrap (x_1 + 1)))) (fun y=>some (.inr (.inr y))))) else (some (.inr (.inl ())))) 0) (bH (fun _=>some true) (fun y=>some y))
theorem eH {F:Nat} {home0:List Int} {lists0:List (List Int)} {r:Bool} (h:b4 F home0 lists0 = some r):aC Try.prog [] 42 [] [.one (.sl 1 (home0.map eI)),.one (.sl 1 (lists0.map (eL 1 eI)))] (Is [] (.b (.one (.bool r)))):=by
 unfold b4 at h
 refine aC.intro 38 Try.func42 Try.ntmps42 rfl (by simp) fun E=>?_
 show ab _ E ⟨38,[],[],[]⟩ _ ⟨[(0,.b (.one (.sl 1 (home0.map eI)))),(1,.b (.one (.sl 1 (lists0.map (eL 1 eI)))))],[]⟩ _
 refine ab.seq (ab.aa ?_)
 refine Oc oa (ae.ak ⟨[(0,.b (.one (.sl 1 (home0.map eI)))),(1,.b (.one (.sl 1 (lists0.map (eL 1 eI)))))],[]⟩ rfl ?_)
 obtain ⟨v1,h2,h⟩:=aR h
 refine ab.cJ (v:=v1) (fun (_:Unit)=>⟨[],[]⟩) (fun z=>.inl z) ?_ ?_
 ·refine ab.seq (ab.aa ?_)
  refine Oc om (Oc (ay nF rfl (List.length_map _)) (Oc om ?_))
  refine ae.ak ⟨[(0,_),(9,.b (.one (.sl 1 (lists0.map (eL 1 eI))))),(10,I (lists0.length:Int)),(11,I 0)],[]⟩ rfl (ab.block (ab.ct h2 (fun (x_1:Int)=>⟨[(0,.b (.one (.sl 1 (home0.map eI)))),(9,.b (.one (.sl 1 (lists0.map (eL 1 eI))))),(10,I (lists0.length:Int)),(11,I x_1)],[]⟩) [0,9,10,11] [] rfl ?_))
  rintro x_1 o3 h4 hy5
  refine ab.seq (ab.aa ?_)
  refine Oc (bm rfl rfl) (ae.ak ⟨[(0,_),(9,_),(10,_),(11,_),(12,B (decide (x_1 < (lists0.length:Int))))],[]⟩ rfl (ab.seq (ab.ite h4 rfl (fun _ h4=>?_) (fun _ h4=>?_))))
  ·refine ab.skip (Fin.ah ⟨[(0,_),(9,_),(10,_),(11,_)],[]⟩ rfl (Fin.then ?_))
   obtain ⟨v6,h7,h4⟩:=aR h4
   refine ab.cJ (v:=v6) (fun (_:Unit)=>⟨[(0,.b (.one (.sl 1 (home0.map eI)))),(9,.b (.one (.sl 1 (lists0.map (eL 1 eI))))),(10,I (lists0.length:Int)),(11,I x_1)],[]⟩) (fun z=>.inl z) ?_ ?_
   ·refine ab.block (ab.seq (ab.aa ?_))
    obtain ⟨x_2,e8,h7⟩:=aR h7
    refine Oc (ar er (aK e8) (aE (e:=(eL 1 eI)) e8) rfl rfl) (Oc (aw bx rfl rfl) (Oc oa ?_))
    refine ae.ak ⟨[(0,_),(6,.b (.one (.sl 1 (x_2.map eI)))),(9,_),(10,_),(11,_)],[]⟩ rfl (ab.seq (ab.aa ?_))
    refine Oc om (Oc (ay cc rfl (List.length_map _)) (Oc om ?_))
    refine ae.ak ⟨[(0,_),(9,_),(10,_),(11,_),(15,.b (.one (.sl 1 (x_2.map eI)))),(16,I (x_2.length:Int)),(17,I 0)],[]⟩ rfl (ab.block ?_)
    obtain ⟨v9,h10,h7⟩:=aR h7
    refine ab.ct h10 (fun (x_3:Int)=>⟨[(0,.b (.one (.sl 1 (home0.map eI)))),(9,.b (.one (.sl 1 (lists0.map (eL 1 eI))))),(10,I (lists0.length:Int)),(11,I x_1),(15,.b (.one (.sl 1 (x_2.map eI)))),(16,I (x_2.length:Int)),(17,I x_3)],[]⟩) [0,9,10,11,15,16,17] [] rfl ?_
    rintro x_3 o11 h12 hy13
    refine ab.seq (ab.aa ?_)
    refine Oc (bm rfl rfl) (ae.ak ⟨[(0,_),(9,_),(10,_),(11,_),(15,_),(16,_),(17,_),(18,B (decide (x_3 < (x_2.length:Int))))],[]⟩ rfl (ab.seq (ab.ite h12 rfl (fun _ h12=>?_) (fun _ h12=>?_))))
    ·refine ab.skip (Fin.ah ⟨[(0,_),(9,_),(10,_),(11,_),(15,_),(16,_),(17,_)],[]⟩ rfl (Fin.then (ab.seq (ab.block (ab.seq (ab.aa ?_))))))
     obtain ⟨x_4,e14,h12⟩:=aR h12
     refine Oc (ar ba (aK e14) (aE (e:=eI) e14) rfl rfl) (Oc (aw aP rfl rfl) (Oc oa ?_))
     refine ae.ak ⟨[(0,_),(8,I x_4),(9,_),(10,_),(11,_),(15,_),(16,_),(17,_)],[]⟩ rfl (ab.seq (ab.aa ?_))
     refine Oc om (Oc (bm rfl rfl) (Oc om ?_))
     refine cr (!(decide (x_4 < 0))) [] (fun g15=>trivial) (fun g15=>om) (cr (!(decide (x_4 < 0))) [] (fun g16=>by exact trivial) (fun g16=>om) (cr (!(decide (x_4 < 0))) [25] (fun g17=>by exact ⟨g17,trivial⟩) (fun g17=>ay cc rfl (List.length_map _)) (ae.ah ⟨[(0,_),(8,_),(9,_),(10,_),(11,_),(15,_),(16,_),(17,_),(23,B (decide (x_4 < 0))),(24,.opt (!(decide (x_4 < 0))) (.one (.i x_4))),(26,.opt (!(decide (x_4 < 0))) (.one (.i (home0.length:Int))))],[]⟩ rfl (cr (!(decide (x_4 < 0))) [24,26] (fun g18=>by exact ⟨g18,g18,trivial⟩) (fun g18=>fN rfl rfl) (Oc (aL (fun e=>by first | (rw [e]; rfl) | (simp only at e; rw [e]; rfl)) rfl rfl rfl rfl) (Oc om ?_))))))
     refine cr (!((decide (x_4 < 0)) || (decide ((home0.length:Int) ≤ x_4)))) [] (fun g19=>trivial) (fun g19=>om) (cr (!((decide (x_4 < 0)) || (decide ((home0.length:Int) ≤ x_4)))) [] (fun g20=>by exact trivial) (fun g20=>om) ?_)
     obtain ⟨x_5,e22,h12⟩:=aR h12
     refine cr (!((decide (x_4 < 0)) || (decide ((home0.length:Int) ≤ x_4)))) [30,31] (fun g21=>⟨g21,g21,trivial⟩) (fun g21=>ar ba (aK (gc e22 g21)) (aE (e:=eI) (gc e22 g21)) rfl rfl) (cr (!((decide (x_4 < 0)) || (decide ((home0.length:Int) ≤ x_4)))) [32] (fun g23=>⟨g23,trivial⟩) (fun g23=>aw aP rfl rfl) (cr (!((decide (x_4 < 0)) || (decide ((home0.length:Int) ≤ x_4)))) [33] (fun g24=>⟨g24,trivial⟩) (fun g24=>bm rfl rfl) (ae.iC h12 rfl (aL (fun e=>by first | (rw [e]; rfl) | (simp only at e; rw [e]; rfl)) rfl rfl rfl rfl) (fun x_6 h12=>?_))))
     refine ae.ak ⟨[(0,_),(9,_),(10,_),(11,_),(15,_),(16,_),(17,_),(35,B x_6)],[]⟩ rfl (ab.ite h12 rfl (fun _ h12=>?_) (fun _ h12=>?_))
     ·refine ab.seq (ab.aa ?_)
      refine Oc oa (ae.ak ⟨[(4,B false)],[]⟩ rfl (ab.ret (Fin.aD (Fin.aq ?_))))
      obtain rfl:=hy13 _ (Option.some.inj h12).symm
      refine Fin.aq (Fin.aD (Fin.aD ?_))
      obtain rfl:=Option.some.inj h7
      refine Fin.aq ?_
      obtain rfl:=hy5 _ (Option.some.inj h4).symm
      refine Fin.aq (Fin.aD (Fin.aq ?_))
      obtain rfl:=Option.some.inj h
      refine Fin.ah ⟨[(4,_)],[]⟩ rfl (Fin.bd [.one (.bool false)] (.inl rfl) rfl (.cons (.tmp rfl) .nil) ⟨rfl,rfl⟩)
     ·refine ab.skip (Fin.ax (Fin.ah ⟨[(0,_),(9,_),(10,_),(11,_),(15,_),(16,_),(17,_)],[]⟩ rfl (Fin.then (ab.aa ?_))))
      refine Oc (bq rfl rfl) (Oc om ?_)
      refine ae.nil ?_
      exact Fin.bK [0,9,10,11,15,16,17] [] (IntKind.i64.wrap (x_3 + 1)) (Option.some.inj h12) rfl
    ·refine ab.exit (Fin.ao ?_)
     obtain rfl:=hy13 _ (Option.some.inj h12).symm
     refine Fin.ao (Fin.aI (Fin.ax ?_))
     exact Fin.join [0,9,10,11] [] () (Option.some.inj h7) rfl
   ·rintro _ hv
    subst v6
    refine ab.aa (Oc (bq rfl rfl) (Oc om ?_))
    refine ae.nil ?_
    exact Fin.bK [0,9,10,11] [] (IntKind.i64.wrap (x_1 + 1)) (Option.some.inj h4) rfl
  ·refine ab.exit (Fin.ao ?_)
   obtain rfl:=hy5 _ (Option.some.inj h4).symm
   refine Fin.ao (Fin.aI ?_)
   exact Fin.join [] [] () rfl rfl
 ·rintro _ hv
  subst v1
  refine ab.seq (ab.aa ?_)
  refine Oc oa (ae.ak ⟨[(4,B true)],[]⟩ rfl (ab.ret ?_))
  obtain rfl:=Option.some.inj h
  refine Fin.ah ⟨[(4,_)],[]⟩ rfl (Fin.bd [.one (.bool true)] (.inl rfl) rfl (.cons (.tmp rfl) .nil) ⟨rfl,rfl⟩)
def bM (F:Nat):Nat → Int → b9 → Option (Int × b9)
 | 0,_,_=>none
 | n + 1,x0,c0up=>if (!(dq c0up x0)) = true then (some (x0,eO c0up x0 x0)) else (if (decide ((dZ c0up x0) = x0)) = true then (some (x0,c0up)) else (Option.bind (bM F n (dZ c0up x0) c0up) (eD fun x_1 x_2=>some (x_1,eO x_2 x0 x_1))))
def ck (F:Nat) (x0:Int) (c0up:b9):Option (Int × b9):=bM F F x0 c0up
theorem kB {F:Nat}:∀ (n:Nat) {x0:Int} {c0up:b9} {r:Int × b9} (h:bM F n x0 c0up = some r),aC Try.prog [] 93 [(1,.mq c0up)] [.xa [.row 1],.one (.i x0)] (Is [(1,.mq r.2)] (.b (.one (.i r.1)))):=by
 intro n
 induction n with
 | zero=>intro x0 c0up r h; simp [bM] at h
 | succ n ih=>
 intro x0 c0up r h
 unfold bM at h
 refine aC.intro 34 Try.func93 Try.ntmps93 rfl (by simp) fun E=>?_
 show ab _ E ⟨34,[1],[1],[]⟩ _ ⟨[(0,.b (.xa [.row 1])),(1,I x0)],[(1,.mq c0up)]⟩ _
 refine ab.seq (ab.aa ?_)
 refine Oc (pF (k:=101) rfl rfl rfl rfl) (Oc oa ?_)
 refine ae.ak ⟨[(1,I x0),(2,Pt 101 0)],[(1,.mq c0up),(101,.aO 119 [.row 1])]⟩ rfl (ab.seq (ab.aa ?_))
 refine Oc (ag jX rfl rfl) (Oc (aS mA rfl rfl rfl) (Oc om (Oc (wD iq rfl rfl rfl) (Oc om (Oc (aJ rfl rfl) ?_)))))
 refine Oc (aJ rfl rfl) (Oc oa (Oc oa ?_))
 refine ae.ak ⟨[(1,_),(2,_),(5,I (dZ c0up x0)),(6,B (dq c0up x0))],[(1,_),(101,_)]⟩ rfl (ab.seq (ab.seq (ab.aa ?_)))
 refine Oc om (Oc (dv rfl) ?_)
 refine ae.ak ⟨[(1,_),(2,_),(5,_),(16,B (!(dq c0up x0)))],[(1,_),(101,_)]⟩ rfl (ab.ite h rfl (fun _ h=>?_) (fun _ h=>?_))
 ·refine ab.seq (ab.aa ?_)
  refine Oc (ag jX rfl rfl) (Oc (aS mA rfl rfl rfl) (Oc om (Oc om (Oc (oM iq rfl rfl rfl rfl) ?_))))
  refine ae.ak ⟨[(1,_)],[(1,.mq (eO c0up x0 x0))]⟩ rfl (ab.seq (ab.aa ?_))
  refine Oc om (Oc oa ?_)
  refine ae.ak ⟨[(4,I x0)],[(1,_)]⟩ rfl (ab.ret (Fin.aq ?_))
  obtain rfl:=Option.some.inj h
  refine Fin.ah ⟨[(4,_)],[(1,_)]⟩ rfl ?_
  exact Fin.result [.one (.i x0)] (.inl rfl) rfl (.cons (.tmp rfl) .nil) ⟨rfl,rfl⟩
 ·refine ab.skip (Fin.ah ⟨[(1,_),(2,_),(5,_)],[(1,_),(101,_)]⟩ rfl (Fin.then (ab.seq (ab.seq (ab.aa ?_)))))
  refine Oc om (Oc om (Oc (dT rfl rfl) ?_))
  refine ae.ak ⟨[(1,_),(2,_),(5,_),(24,B (decide ((dZ c0up x0) = x0)))],[(1,_),(101,_)]⟩ rfl (ab.ite h rfl (fun _ h=>?_) (fun _ h=>?_))
  ·refine ab.seq (ab.aa ?_)
   refine Oc om (Oc oa ?_)
   refine ae.ak ⟨[(4,I x0)],[(1,_)]⟩ rfl (ab.ret (Fin.aq ?_))
   obtain rfl:=Option.some.inj h
   refine Fin.ah ⟨[(4,_)],[(1,_)]⟩ rfl ?_
   exact Fin.result [.one (.i x0)] (.inl rfl) rfl (.cons (.tmp rfl) .nil) ⟨rfl,rfl⟩
  ·refine ab.skip (Fin.ah ⟨[(1,_),(2,_),(5,_)],[(1,_),(101,_)]⟩ rfl (Fin.then (ab.seq (ab.aa ?_))))
   refine Oc ((fQ jj rfl rfl rfl rfl).tc rfl) (Oc om ?_)
   obtain ⟨⟨x_1,x_2⟩,e1,h⟩:=aR h
   refine Oc (bJ (own_a:=[(1,_)]) (ih e1) sr rfl ⟨rfl,trivial⟩ rfl rfl) (Oc oa ?_)
   refine ae.ak ⟨[(1,_),(2,_),(7,I x_1)],[(1,.mq x_2),(101,_)]⟩ rfl (ab.seq (ab.aa ?_))
   refine Oc (ag jX rfl rfl) (Oc (aS mA rfl rfl rfl) (Oc om (Oc om (Oc (oM iq rfl rfl rfl rfl) ?_))))
   refine ae.ak ⟨[(7,_)],[(1,.mq (eO x_2 x0 x_1))]⟩ rfl (ab.seq (ab.aa ?_))
   refine Oc om (Oc oa ?_)
   refine ae.ak ⟨[(4,I x_1)],[(1,_)]⟩ rfl (ab.ret ?_)
   obtain rfl:=Option.some.inj h
   refine Fin.ah ⟨[(4,_)],[(1,_)]⟩ rfl ?_
   exact Fin.result [.one (.i x_1)] (.inl rfl) rfl (.cons (.tmp rfl) .nil) ⟨rfl,rfl⟩
theorem eC {F:Nat} {x0:Int} {c0up:b9} {r:Int × b9} (h:ck F x0 c0up = some r):aC Try.prog [] 93 [(1,.mq c0up)] [.xa [.row 1],.one (.i x0)] (Is [(1,.mq r.2)] (.b (.one (.i r.1)))):=kB F h
def bN (F:Nat) (x0:Int) (y0:Int) (c0up:b9):Option (Bool × b9) :=
 Option.bind (ck F x0 c0up) (eD fun x_1 x_2=>Option.bind (ck F y0 x_2) (eD fun x_3 x_4=>if (decide (x_1 = x_3)) = true then (some (false,x_4)) else (some (true,eO x_4 (max x_1 x_3) (min x_1 x_3)))))
theorem k8 {F:Nat} {x0:Int} {y0:Int} {c0up:b9} {r:Bool × b9} (h:bN F x0 y0 c0up = some r):aC Try.prog [] 71 [(1,.mq c0up)] [.xa [.row 1],.one (.i x0),.one (.i y0)] (Is [(1,.mq r.2)] (.b (.one (.bool r.1)))):=by
 unfold bN at h
 refine aC.intro 26 Try.func71 Try.ntmps71 rfl (by simp) fun E=>?_
 show ab _ E ⟨26,[1],[1],[]⟩ _ ⟨[(0,.b (.xa [.row 1])),(1,I x0),(2,I y0)],[(1,.mq c0up)]⟩ _
 refine ab.seq (ab.aa ?_)
 refine Oc (pF (k:=101) rfl rfl rfl rfl) (Oc oa ?_)
 refine ae.ak ⟨[(1,I x0),(2,I y0),(3,Pt 101 0)],[(1,.mq c0up),(101,.aO 119 [.row 1])]⟩ rfl (ab.seq ?_)
 obtain ⟨⟨x_1,x_2⟩,e1,h⟩:=aR h
 obtain ⟨⟨x_3,x_4⟩,e2,h⟩:=aR h
 refine ab.ff mixed [false,false,true,false,false,true,false,false] [.b (.xa [.row 1]),I x0,I x_1,.b (.xa [.row 1]),I y0,I x_3,I x_1,I x_3] [⟨[false,false,false,false,false,false,false,false],[(1,I x0),(2,I y0),(3,Pt 101 0)],[(1,.mq c0up),(101,.aO 119 [.row 1])],[true,true,true,true,true,true,true,true],[],[5,6,7]⟩,⟨[false,false,true,false,false,false,false,false],[(1,I x0),(2,I y0),(3,Pt 101 0)],[(1,.mq x_2),(101,.aO 119 [.row 1])],[true,true,true,true,true,true,true,true],[0,1,2],[6,7]⟩,⟨[false,false,true,false,false,true,false,false],[(1,I x0),(2,I y0),(3,Pt 101 0)],[(1,.mq x_4),(101,.aO 119 [.row 1])],[true,true,true,true,true,true,true,true],[0,1,2,3,4,5],[]⟩] rfl (⟨by kernel_rfl,⟨⟨.b (.xa [.row 1]),fun _=>rfl,fun _=>.p (by exact (fQ jj rfl rfl rfl rfl).tc rfl)⟩,⟨I x0,fun _=>rfl,fun _=>.p (by exact az rfl)⟩,⟨_,[],I x_1,rfl,fun _=>rfl,rfl,rfl,fun _=>.mc [1,101] (by exact .p (by exact bJ (own_a:=[(1,_)]) (eC e1) sr rfl ⟨rfl,trivial⟩ rfl rfl)) (by exact rfl)⟩,⟨.b (.xa [.row 1]),fun _=>rfl,fun _=>.p (by exact (fQ jj rfl rfl rfl rfl).tc rfl)⟩,⟨I y0,fun _=>rfl,fun _=>.p (by exact az rfl)⟩,trivial,trivial,trivial,trivial⟩,⟨by kernel_rfl,⟨trivial,trivial,trivial,⟨.b (.xa [.row 1]),fun _=>rfl,fun _=>.p (by exact (fQ jj rfl rfl rfl rfl).tc rfl)⟩,⟨I y0,fun _=>rfl,fun _=>.p (by exact az rfl)⟩,⟨_,[],I x_3,rfl,fun _=>rfl,rfl,rfl,fun _=>.mc [1,101] (by exact .p (by exact bJ (own_a:=[(1,_)]) (eC e2) sr rfl ⟨rfl,trivial⟩ rfl rfl)) (by exact rfl)⟩,trivial,trivial,trivial⟩,⟨by kernel_rfl,⟨trivial,trivial,trivial,trivial,trivial,trivial,⟨I x_1,fun _=>rfl,fun _=>.p (by exact cH rfl)⟩,⟨I x_3,fun _=>rfl,fun _=>.p (by exact cH rfl)⟩,trivial⟩,trivial⟩⟩⟩) rfl rfl rfl [3,7,8] [1,101] (s':=⟨[(3,_),(7,I x_1),(8,I x_3)],[(1,.mq x_4),(101,_)]⟩) rfl (ab.seq (ab.seq (ab.aa ?_)))
 refine Oc om (Oc om (Oc (dT rfl rfl) ?_))
 refine ae.ak ⟨[(3,_),(7,_),(8,_),(17,B (decide (x_1 = x_3)))],[(1,_),(101,_)]⟩ rfl (ab.ite h rfl (fun _ h=>?_) (fun _ h=>?_))
 ·refine ab.seq (ab.aa ?_)
  refine Oc oa (ae.ak ⟨[(6,B false)],[(1,_)]⟩ rfl (ab.ret (Fin.aq ?_)))
  obtain rfl:=Option.some.inj h
  refine Fin.ah ⟨[(6,_)],[(1,_)]⟩ rfl ?_
  exact Fin.result [.one (.bool false)] (.inl rfl) rfl (.cons (.tmp rfl) .nil) ⟨rfl,rfl⟩
 ·refine ab.skip (Fin.ah ⟨[(3,_),(7,_),(8,_)],[(1,_),(101,_)]⟩ rfl (Fin.then (ab.seq (ab.aa ?_))))
  refine Oc (ag jX rfl rfl) (Oc (aS mA rfl rfl rfl) (Oc om (Oc om (Oc (op_max rfl rfl) (Oc om ?_)))))
  refine ae.ah ⟨[(8,_),(19,.b (.row 1)),(22,I (max x_1 x_3)),(23,I x_1)],[(1,_)]⟩ rfl (Oc om (Oc (op_min rfl rfl) (Oc (oM iq rfl rfl rfl rfl) ?_)))
  refine ae.ak ⟨[],[(1,.mq (eO x_4 (max x_1 x_3) (min x_1 x_3)))]⟩ rfl (ab.seq (ab.aa ?_))
  refine Oc oa (ae.ak ⟨[(6,B true)],[(1,_)]⟩ rfl (ab.ret ?_))
  obtain rfl:=Option.some.inj h
  refine Fin.ah ⟨[(6,_)],[(1,_)]⟩ rfl ?_
  exact Fin.result [.one (.bool true)] (.inl rfl) rfl (.cons (.tmp rfl) .nil) ⟨rfl,rfl⟩
def bC (F:Nat) (c0up:b9):Option ((List (List Int)) × b9) :=
 Option.bind (sj c0up) (fun ks_1=>(cU F (ks_1)).bind fun x_7=>Option.bind (iter F (vX fun up_10 at_11 out_12 x_13=>if (decide (x_13 < (x_7.length:Int))) = true then (Option.bind ((aT x_7 x_13).bind fun x_19=>Option.bind (ck F x_19 up_10) (eD fun x_20 x_21=>Option.bind (if (decide (x_20 = x_19)) = true then ((dF out_12 [[]]).bind fun x_24=>some (eO at_11 x_19 (out_12.length:Int),x_24)) else (some (at_11,out_12))) (eD fun at_22 out_23=>(aT out_23 (dZ at_22 x_20)).bind fun x_25=>(dF x_25 [x_19]).bind fun x_26=>(aT out_23 (dZ at_22 x_20)).bind fun x_27=>some (x_21,at_22,out_23.set (dZ at_22 x_20:Int).toNat x_26)))) (ml fun up_16 at_17 out_18=>some (.inl (up_16,at_17,out_18,IntKind.i64.wrap (x_13 + 1))))) else (some (.inr (out_12,up_10)))) (c0up,([]:b9),[],0)) (eD fun out_8 y_9=>some (out_8,y_9)))
theorem k6 {F:Nat} {c0up:b9} {r:(List (List Int)) × b9} (h:bC F c0up = some r):aC Try.prog [] 72 [(1,.mq c0up)] [.xa [.row 1]] (Is [(1,.mq r.2)] (.b (.one (.sl 1 (r.1.map (eL 1 eI)))))):=by
 unfold bC at h
 refine aC.intro 59 Try.func72 Try.ntmps72 rfl (by simp) fun E=>?_
 show ab _ E ⟨59,[1],[1],[]⟩ _ ⟨[(0,.b (.xa [.row 1]))],[(1,.mq c0up)]⟩ _
 refine ab.seq (ab.aa ?_)
 refine Oc (pF (k:=101) rfl rfl rfl rfl) (Oc oa ?_)
 refine ae.ak ⟨[(1,Pt 101 0)],[(1,.mq c0up),(101,.aO 119 [.row 1])]⟩ rfl (ab.seq (ab.aa ?_))
 refine Oc oa (ae.ak ⟨[(1,_),(3,.b (.one (.nil)))],[(1,_),(101,_)]⟩ rfl (ab.seq (ab.seq (ab.aa ?_))))
 refine Oc (ag jX rfl rfl) (Oc (aS mA rfl rfl rfl) (Oc (sY 102 sy rfl rfl (by decide) rfl rfl) ?_))
 refine ae.ak ⟨[(1,_),(3,_),(12,Pt 102 0)],[(101,_),(102,.kj 1 c0up c0up none)]⟩ rfl (ab.cT 3 103 1 3 rfl (by decide) rfl (ab.ah ⟨[(1,_),(3,.b (.row 103)),(12,_)],[(101,_),(102,_),(103,.row 3 1 ([].map eI))]⟩ rfl ?_))
 obtain ⟨ks_1,e1,h⟩:=aR h
 obtain ⟨hk2,rfl⟩:=yj e1
 refine ab.block (ab.loop (fun (q:List Int × b9)=>⟨[(1,Pt 101 0),(3,.b (.row 103)),(12,Pt 102 0)],[(101,.aO 119 [.row 1]),(102,.kj 1 c0up q.2 none),(103,.row 3 1 (q.1.map eI))]⟩) (fun q=>(q.1 ++ q.2.map (·.1)).Perm (c0up.map (·.1))) (fun q=>q.2.length) ([],c0up) (by simp) rfl ?_)
 rintro ⟨vis_2,rs_3⟩ hI3
 refine ab.seq (ab.aa ?_)
 refine ae.nextM rfl rfl rfl (fun hr4=>?_) (fun p_4 r_5 r_6 hr4=>?_)
 ·subst hr4
  have hp5:vis_2.Perm (c0up.map (·.1)):=by simpa using hI3
  refine Oc (aJ rfl rfl) (ae.ak ⟨[(1,_),(3,_),(12,_),(14,B false)],[(101,_),(102,.kj 1 c0up [] none),(103,.row 3 1 (vis_2.map eI))]⟩ rfl (ab.seq (ab.xn rfl (ab.exit (Fin.ao ?_)))))
  refine Fin.ao (Fin.ah ⟨[(1,_),(3,_),(12,_)],[(101,_),(102,_),(103,_)]⟩ rfl (Fin.uu 102 rfl rfl (Fin.aI (Fin.ah ⟨[(1,_),(3,_)],[(1,.mq c0up),(101,_),(103,_)]⟩ rfl (Fin.then (ab.seq (ab.aa ?_)))))))
  refine Oc om (ae.toF 103 rfl ?_)
  obtain ⟨x_7,e6,h⟩:=aR h
  refine Oc (bJ (own_a:=[(103,_)]) ((lu (F:=F) (uV hp5 e6)).sw 1 103) xJ rfl ⟨rfl,trivial⟩ rfl rfl) (ae.unF 103 rfl (ae.ak ⟨[(1,_),(3,_)],[(1,_),(101,_),(103,.row 3 1 (x_7.map eI))]⟩ rfl (ab.seq (ab.aa ?_))))
  refine Oc (p4 (k:=104) sy rfl) (Oc oa ?_)
  refine ae.ak ⟨[(1,_),(3,_),(5,.b (.row 104))],[(1,_),(101,_),(103,_),(104,.mq ([]:b9))]⟩ rfl (ab.seq (ab.aa ?_))
  refine Oc oa (ae.ak ⟨[(1,_),(3,_),(5,_),(6,.b (.one (.nil)))],[(1,_),(101,_),(103,_),(104,_)]⟩ rfl ?_)
  obtain ⟨v7,h8,h⟩:=aR h
  refine ab.cJ (v:=v7) (eD fun (out_8:List (List Int)) (y_9:b9)=>⟨[(6,.b (.row 106))],[(1,.mq y_9),(106,.rr 22 3 1 none (out_8.map (eR eI)))]⟩) (fun z=>z) ?_ ?_
  ·refine ab.seq (ab.aa ?_)
   refine Oc om (Oc (fA cc rfl rfl (List.length_map _)) (Oc om ?_))
   refine ae.ak ⟨[(1,_),(5,_),(6,_),(24,.b (.row 103)),(25,I (x_7.length:Int)),(26,I 0)],[(1,_),(101,_),(103,_),(104,_)]⟩ rfl (ab.block (ab.qq 6 106 1 22 3 rfl (by decide) rfl (ab.ct h8 (vX fun (up_10:b9) (at_11:b9) (out_12:List (List Int)) (x_13:Int)=>⟨[(1,Pt 101 0),(5,.b (.row 104)),(6,.b (.row 106)),(24,.b (.row 103)),(25,I (x_7.length:Int)),(26,I x_13)],[(1,.mq up_10),(101,.aO 119 [.row 1]),(103,.row 3 1 (x_7.map eI)),(104,.mq at_11),(106,.rr 22 3 1 none (out_12.map (eR eI)))]⟩) [1,5,6,24,25,26] [1,101,103,104,106] rfl ?_)))
   rintro ⟨up_10,at_11,out_12,x_13⟩ o9 h10 hy11
   refine ab.seq (ab.aa ?_)
   refine Oc (bm rfl rfl) (ae.ak ⟨[(1,_),(5,_),(6,_),(24,_),(25,_),(26,_),(27,B (decide (x_13 < (x_7.length:Int))))],[(1,_),(101,_),(103,_),(104,_),(106,_)]⟩ rfl (ab.seq (ab.ite h10 rfl (fun _ h10=>?_) (fun _ h10=>?_))))
   ·refine ab.skip (Fin.ah ⟨[(1,_),(5,_),(6,_),(24,_),(25,_),(26,_)],[(1,_),(101,_),(103,_),(104,_),(106,_)]⟩ rfl (Fin.then ?_))
    obtain ⟨v12,h13,h10⟩:=aR h10
    refine ab.cJ (v:=v12) (ml fun (up_16:b9) (at_17:b9) (out_18:List (List Int))=>⟨[(1,Pt 101 0),(5,.b (.row 104)),(6,.b (.row 106)),(24,.b (.row 103)),(25,I (x_7.length:Int)),(26,I x_13)],[(1,.mq up_16),(101,.aO 119 [.row 1]),(103,.row 3 1 (x_7.map eI)),(104,.mq at_17),(106,.rr 22 3 1 none (out_18.map (eR eI)))]⟩) (fun z=>z) ?_ ?_
    ·refine ab.block (ab.seq (ab.aa ?_))
     obtain ⟨x_19,e14,h13⟩:=aR h13
     refine Oc (bc ba (aK e14) (cx e14) rfl rfl rfl rfl) (Oc (c6 (i:=(x_13:Int).toNat) (f:=0) aP rfl rfl rfl (aE (e:=eI) e14) rfl) (Oc oa ?_))
     refine ae.ak ⟨[(1,_),(5,_),(6,_),(8,I x_19),(24,_),(25,_),(26,_)],[(1,_),(101,_),(103,_),(104,_),(106,_)]⟩ rfl (ab.seq (ab.aa ?_))
     refine Oc ((fQ jj rfl rfl rfl rfl).tc rfl) (Oc om ?_)
     obtain ⟨⟨x_20,x_21⟩,e15,h13⟩:=aR h13
     refine Oc (bJ (own_a:=[(1,_)]) (eC e15) sr rfl ⟨rfl,trivial⟩ rfl rfl) (Oc oa ?_)
     refine ae.ak ⟨[(1,_),(5,_),(6,_),(8,_),(9,I x_20),(24,_),(25,_),(26,_)],[(1,.mq x_21),(101,_),(103,_),(104,_),(106,_)]⟩ rfl ?_
     obtain ⟨v16,h17,h13⟩:=aR h13
     refine ab.cJ (v:=v16) (eD fun (at_22:b9) (out_23:List (List Int))=>⟨[(1,Pt 101 0),(5,.b (.row 104)),(6,.b (.row 106)),(8,I x_19),(9,I x_20),(24,.b (.row 103)),(25,I (x_7.length:Int)),(26,I x_13)],[(1,.mq x_21),(101,.aO 119 [.row 1]),(103,.row 3 1 (x_7.map eI)),(104,.mq at_22),(106,.rr 22 3 1 none (out_23.map (eR eI)))]⟩) (fun z=>z) ?_ ?_
     ·refine ab.seq (ab.aa ?_)
      refine Oc om (Oc om (Oc (dT rfl rfl) ?_))
      refine ae.ak ⟨[(1,_),(5,_),(6,_),(8,_),(9,_),(24,_),(25,_),(26,_),(35,B (decide (x_20 = x_19)))],[(1,_),(101,_),(103,_),(104,_),(106,_)]⟩ rfl (ab.ite h17 rfl (fun _ h17=>?_) (fun _ h17=>?_))
      ·refine ab.seq (ab.aa ?_)
       refine Oc om (Oc om (Oc om (Oc (u5 nF rfl rfl (List.length_map _)) (Oc (oM iq rfl rfl rfl rfl) ?_))))
       refine ae.ak ⟨[(1,_),(5,_),(6,_),(8,_),(9,_),(24,_),(25,_),(26,_)],[(1,_),(101,_),(103,_),(104,.mq (eO at_11 x_19 (out_12.length:Int))),(106,_)]⟩ rfl (ab.aa (Oc om (Oc (aN (k:=107) (es:=[[.nil]]) er rfl rfl (fun ps h=>by simp at h; subst h; rfl) rfl (by decide) (by decide) rfl) ?_)))
       obtain ⟨x_24,e18,h17⟩:=aR h17
       refine Oc (rb er (rr_b e18) (rr_m e18) rfl rfl rfl rfl (rr_app e18) rfl) (Oc oa ?_)
       refine ae.nil ?_
       exact Fin.join [1,5,6,8,9,24,25,26] [1,101,103,104,106] (eO at_11 x_19 (out_12.length:Int),x_24) (Option.some.inj h17) rfl
      ·refine ab.skip ?_
       exact Fin.join [1,5,6,8,9,24,25,26] [1,101,103,104,106] (at_11,out_12) (Option.some.inj h17) rfl
     ·rintro ⟨at_22,out_23⟩ hv
      subst v16
      refine ab.ah ⟨[(1,_),(5,_),(6,_),(8,_),(9,_),(24,_),(25,_),(26,_)],[(1,_),(101,_),(103,_),(104,_),(106,_)]⟩ rfl ?_
      obtain ⟨x_25,e19,h13⟩:=aR h13
      obtain ⟨x_26,e20,h13⟩:=aR h13
      obtain ⟨x_27,e21,h13⟩:=aR h13
      refine ab.mC mixed [false,false,false,false,false,false,false,false,false,true,false,false,true,false,true] [.b (.row 106),.b (.row 104),I x_20,I (dZ at_22 x_20),.b (.row 106),.b (.row 104),I x_20,I (dZ at_22 x_20),.b (.cG 106 (dZ at_22 x_20:Int).toNat),.b (.row 108),I x_19,.b (.one (.sl 1 ([x_19].map eI))),.b (.row 110),.b (.cG 106 (dZ at_22 x_20:Int).toNat),B true] [⟨[false,false,false,false,false,false,false,false,false,false,false,false,false,false,false],[(1,Pt 101 0),(5,.b (.row 104)),(6,.b (.row 106)),(8,I x_19),(9,I x_20),(24,.b (.row 103)),(25,I (x_7.length:Int)),(26,I x_13)],[(1,.mq x_21),(101,.aO 119 [.row 1]),(103,.row 3 1 (x_7.map eI)),(104,.mq at_22),(106,.rr 22 3 1 none (out_23.map (eR eI)))],[true,true,true,true,true,true,true,true,true,true,true,true,true,true,true],[],[12,13,14]⟩,⟨[false,false,false,false,false,false,false,false,false,true,false,false,false,false,false],[(1,Pt 101 0),(5,.b (.row 104)),(6,.b (.row 106)),(8,I x_19),(9,I x_20),(24,.b (.row 103)),(25,I (x_7.length:Int)),(26,I x_13)],[(1,.mq x_21),(101,.aO 119 [.row 1]),(103,.row 3 1 (x_7.map eI)),(104,.mq at_22),(106,.rr 22 3 1 (some (dZ at_22 x_20:Int).toNat) (out_23.map (eR eI))),(108,.row 3 1 (x_25.map eI))],[true,true,true,true,true,true,true,true,true,true,true,true,true,true,true],[4,5,6,7,8,9],[13,14]⟩,⟨[false,false,false,false,false,false,false,false,false,true,false,false,true,false,false],[(1,Pt 101 0),(5,.b (.row 104)),(6,.b (.row 106)),(8,I x_19),(9,I x_20),(24,.b (.row 103)),(25,I (x_7.length:Int)),(26,I x_13)],[(1,.mq x_21),(101,.aO 119 [.row 1]),(103,.row 3 1 (x_7.map eI)),(104,.mq at_22),(106,.rr 22 3 1 (some (dZ at_22 x_20:Int).toNat) (out_23.map (eR eI))),(110,.row 3 1 (x_26.map eI))],[true,true,true,true,true,true,true,true,true,true,true,true,true,true,true],[4,5,6,7,8,9,10,11,12],[]⟩,⟨[false,false,false,false,false,false,false,false,false,true,false,false,true,false,true],[(1,Pt 101 0),(5,.b (.row 104)),(6,.b (.row 106)),(8,I x_19),(9,I x_20),(24,.b (.row 103)),(25,I (x_7.length:Int)),(26,I x_13)],[(1,.mq x_21),(101,.aO 119 [.row 1]),(103,.row 3 1 (x_7.map eI)),(104,.mq at_22),(106,.rr 22 3 1 none ((out_23.set (dZ at_22 x_20:Int).toNat x_26).map (eR eI)))],[true,true,true,true,true,true,true,true,true,true,true,true,false,true,true],[0,1,2,3,4,5,6,7,8,9,10,11,12,13,14],[]⟩] rfl (⟨by kernel_rfl,⟨⟨.b (.row 106),fun _=>rfl,fun _=>.p (by exact az rfl)⟩,⟨.b (.row 104),fun _=>rfl,fun _=>.p (by exact az rfl)⟩,⟨I x_20,fun _=>rfl,fun _=>.p (by exact az rfl)⟩,⟨I (dZ at_22 x_20),fun _=>rfl,fun _=>.p (by exact nh iq rfl rfl rfl)⟩,⟨.b (.row 106),fun _=>rfl,fun _=>.p (by exact az rfl)⟩,⟨.b (.row 104),fun _=>rfl,fun _=>.p (by exact az rfl)⟩,⟨I x_20,fun _=>rfl,fun _=>.p (by exact az rfl)⟩,⟨I (dZ at_22 x_20),fun _=>rfl,fun _=>.p (by exact nh iq rfl rfl rfl)⟩,⟨.b (.cG 106 (dZ at_22 x_20:Int).toNat),fun _=>rfl,fun _=>.p (by exact p5 er (aK e19) (cx e19) rfl rfl rfl rfl)⟩,⟨_,[108],.b (.row 108),rfl,fun _=>rfl,rfl,rfl,fun _=>.mc [1,101,103,104,106,108] (by exact .p (by exact u4 (i:=(dZ at_22 x_20:Int).toNat) 108 bx rfl rfl rfl (aE (e:=eR eI) e19) (by decide) rfl rfl)) (by exact rfl)⟩,⟨I x_19,fun _=>rfl,fun _=>.p (by exact az rfl)⟩,⟨.b (.one (.sl 1 ([x_19].map eI))),fun _=>rfl,fun _=>.p (by exact cN (es:=[x_19].map eI) ba rfl rfl (bw fun _=>rfl) rfl (by decide) (by decide))⟩,trivial,trivial,trivial,trivial⟩,⟨by kernel_rfl,⟨⟨.b (.row 106),fun _=>rfl,fun _=>.p (by exact az rfl)⟩,⟨.b (.row 104),fun _=>rfl,fun _=>.p (by exact az rfl)⟩,⟨I x_20,fun _=>rfl,fun _=>.p (by exact az rfl)⟩,⟨I (dZ at_22 x_20),fun _=>rfl,fun _=>.p (by exact nh iq rfl rfl rfl)⟩,trivial,trivial,trivial,trivial,trivial,trivial,⟨I x_19,fun _=>rfl,fun _=>.p (by exact az rfl)⟩,⟨.b (.one (.sl 1 ([x_19].map eI))),fun _=>rfl,fun _=>.p (by exact cN (es:=[x_19].map eI) ba rfl rfl (bw fun _=>rfl) rfl (by decide) (by decide))⟩,⟨_,[110],.b (.row 110),rfl,fun _=>rfl,rfl,rfl,fun _=>.mc [1,101,103,104,106,110] (by exact .p (by exact lT (k2:=110) ba (gn e20) (gm e20) rfl rfl rfl (dt e20) rfl rfl rfl rfl rfl)) (by exact rfl)⟩,trivial,trivial,trivial⟩,⟨by kernel_rfl,⟨⟨.b (.row 106),fun _=>rfl,fun _=>.p (by exact az rfl)⟩,⟨.b (.row 104),fun _=>rfl,fun _=>.p (by exact az rfl)⟩,⟨I x_20,fun _=>rfl,fun _=>.p (by exact az rfl)⟩,⟨I (dZ at_22 x_20),fun _=>rfl,fun _=>.p (by exact nh iq rfl rfl rfl)⟩,trivial,trivial,trivial,trivial,trivial,trivial,trivial,trivial,trivial,⟨.b (.cG 106 (dZ at_22 x_20:Int).toNat),fun _=>rfl,fun _=>.p (by exact p5 er (aK e21) (cx e21) rfl rfl rfl rfl)⟩,⟨_,[110],.b (.one .any),rfl,(fun e=>by simp at e),rfl,rfl,fun _=>.mc [1,101,103,104,106] (by exact .p (by exact tQ bx rfl rfl rfl rfl rfl (ow e21) (by decide) (set_map _ _ _ _))) (by exact rfl)⟩,trivial⟩,⟨by kernel_rfl,⟨trivial,trivial,trivial,trivial,trivial,trivial,trivial,trivial,trivial,trivial,trivial,trivial,trivial,trivial,trivial,trivial⟩,trivial⟩⟩⟩⟩) rfl rfl rfl [1,5,6,24,25,26] [1,101,103,104,106] (s':=⟨[(1,_),(5,_),(6,_),(24,_),(25,_),(26,_)],[(1,_),(101,_),(103,_),(104,_),(106,.rr 22 3 1 none ((out_23.set (dZ at_22 x_20:Int).toNat x_26).map (eR eI)))]⟩) rfl ?_
      refine Fin.ax ?_
      exact Fin.join [1,5,6,24,25,26] [1,101,103,104,106] (x_21,at_22,out_23.set (dZ at_22 x_20:Int).toNat x_26) (Option.some.inj h13) rfl
    ·rintro ⟨up_16,at_17,out_18⟩ hv
     subst v12
     refine ab.aa (Oc (bq rfl rfl) (Oc om ?_))
     refine ae.nil ?_
     exact Fin.bK [1,5,6,24,25,26] [1,101,103,104,106] (up_16,at_17,out_18,IntKind.i64.wrap (x_13 + 1)) (Option.some.inj h10) rfl
   ·refine ab.exit (Fin.ao ?_)
    obtain rfl:=hy11 _ (Option.some.inj h10).symm
    refine Fin.ao (Fin.aI ?_)
    exact Fin.join [6] [1,106] (out_12,up_10) rfl rfl
  ·rintro ⟨out_8,y_9⟩ hv
   subst v7
   refine ab.seq (ab.aa ?_)
   refine Oc om (Oc oa ?_)
   refine ae.ak ⟨[(2,.b (.row 106))],[(1,_),(106,_)]⟩ rfl (ab.ret ?_)
   obtain rfl:=Option.some.inj h
   refine Fin.ah ⟨[(2,_)],[(1,_),(106,_)]⟩ rfl (Fin.pB 106 rfl (rr_sl _) (Fin.ah ⟨[(2,.b (.one (.sl 1 (out_8.map (eL 1 eI)))))],[(1,_)]⟩ rfl ?_))
   exact Fin.result [.one (.sl 1 (out_8.map (eL 1 eI)))] (.inl rfl) rfl (.cons (.tmp rfl) .nil) ⟨rfl,rfl⟩
 ·subst hr4
  refine Oc (aJ rfl rfl) (ae.ak ⟨[(1,_),(3,_),(12,_),(14,B true)],[(101,_),(102,.kj 1 c0up (r_5 ++ r_6) (some p_4)),(103,.row 3 1 (vis_2.map eI))]⟩ rfl (ab.seq (ab.tj rfl (ab.skip (Fin.ah ⟨[(1,_),(3,_),(12,_)],[(101,_),(102,_),(103,_)]⟩ rfl ?_)))))
  refine Fin.then (ab.block (ab.seq (ab.aa ?_)))
  refine Oc (s5 rfl rfl) (Oc (aJ rfl rfl) (Oc oa ?_))
  refine ae.ak ⟨[(1,_),(3,_),(4,I p_4.1),(12,_)],[(101,_),(102,_),(103,_)]⟩ rfl (ab.aa (Oc om (Oc om (Oc (aN (k:=111) (es:=[p_4.1].map eI) ba rfl rfl (bw fun _=>rfl) rfl (by decide) (by decide) rfl) (Oc (dx ba (gn (kG (n9 hI3 hk2))) (gm (kG (n9 hI3 hk2))) rfl rfl rfl rfl (dt (kG (n9 hI3 hk2))) rfl) (Oc oa ?_))))))
  refine ae.nil (Fin.ax (Fin.ah ⟨[(1,_),(3,_),(12,_)],[(101,_),(102,_),(103,.row 3 1 ((vis_2 ++ [p_4.1]).map eI))]⟩ rfl (Fin.ur 102 rfl ?_)))
  exact Fin.again ((vis_2 ++ [p_4.1]),r_5 ++ r_6) (tW hI3) (by simp) rfl
def bT (F:Nat) (lists0:List (List (List Int))):Option (List (List Int)) :=
 Option.bind (iter F (eD fun up_2 x_3=>if (decide (x_3 < (lists0.length:Int))) = true then (Option.bind ((aT lists0 x_3).bind fun x_6=>Option.bind (iter F (eD fun up_7 x_8=>if (decide (x_8 < (x_6.length:Int))) = true then (Option.bind ((aT x_6 x_8).bind fun x_11=>Option.bind (iter F (eD fun up_12 x_13=>if (decide (x_13 < (x_11.length:Int))) = true then ((aT x_11 x_13).bind fun x_15=>(aT x_11 0).bind fun x_16=>Option.bind (bN F x_16 x_15 up_12) (eD fun x_17 x_18=>some (.inl (x_18,IntKind.i64.wrap (x_13 + 1))))) else (some (.inr up_12))) (up_7,0)) (fun up_14=>some up_14)) (fun up_10=>some (.inl (up_10,IntKind.i64.wrap (x_8 + 1))))) else (some (.inr up_7))) (up_2,0)) (fun up_9=>some up_9)) (fun up_5=>some (.inl (up_5,IntKind.i64.wrap (x_3 + 1))))) else (some (.inr up_2))) (([]:b9),0)) (fun up_1=>Option.bind (bC F up_1) (eD fun x_19 x_20=>some x_19))
theorem dc {F:Nat} {lists0:List (List (List Int))} {r:(List (List Int))} (h:bT F lists0 = some r):aC Try.prog [] 31 [] [.one (.sl 1 (lists0.map (eL 1 (eL 1 eI))))] (Is [] (.b (.one (.sl 1 (r.map (eL 1 eI)))))):=by
 unfold bT at h
 refine aC.intro 41 Try.func31 Try.ntmps31 rfl (by simp) fun E=>?_
 show ab _ E ⟨41,[],[],[]⟩ _ ⟨[(0,.b (.one (.sl 1 (lists0.map (eL 1 (eL 1 eI))))))],[]⟩ _
 refine ab.seq (ab.aa ?_)
 refine Oc oa (ae.ak ⟨[(0,.b (.one (.sl 1 (lists0.map (eL 1 (eL 1 eI))))))],[]⟩ rfl (ab.seq (ab.aa ?_)))
 refine Oc (p4 (k:=101) sy rfl) (Oc ((n7 uT rfl rfl).tc rfl) (Oc (dN (k:=102) we rfl) ?_))
 refine ae.vo 102 rfl (Oc (tP jj rfl rfl rfl rfl rfl (Nat.le_of_ble_eq_true rfl) rfl) (ae.ak ⟨[(0,.b (.one (.sl 1 (lists0.map (eL 1 (eL 1 eI)))))),(3,Pt 102 0)],[(101,.mq ([]:b9)),(102,.aO 119 [.row 101])]⟩ rfl ?_))
 obtain ⟨v1,h2,h⟩:=aR h
 refine ab.cJ (v:=v1) (fun (up_1:b9)=>⟨[(3,Pt 102 0)],[(101,.mq up_1),(102,.aO 119 [.row 101])]⟩) (fun z=>z) ?_ ?_
 ·refine ab.seq (ab.aa ?_)
  refine Oc om (Oc (ay und60 rfl (List.length_map _)) (Oc om ?_))
  refine ae.ak ⟨[(3,_),(12,.b (.one (.sl 1 (lists0.map (eL 1 (eL 1 eI)))))),(13,I (lists0.length:Int)),(14,I 0)],[(101,_),(102,_)]⟩ rfl (ab.block (ab.ct h2 (eD fun (up_2:b9) (x_3:Int)=>⟨[(3,Pt 102 0),(12,.b (.one (.sl 1 (lists0.map (eL 1 (eL 1 eI)))))),(13,I (lists0.length:Int)),(14,I x_3)],[(101,.mq up_2),(102,.aO 119 [.row 101])]⟩) [3,12,13,14] [101,102] rfl ?_))
  rintro ⟨up_2,x_3⟩ o3 h4 hy5
  refine ab.seq (ab.aa ?_)
  refine Oc (bm rfl rfl) (ae.ak ⟨[(3,_),(12,_),(13,_),(14,_),(15,B (decide (x_3 < (lists0.length:Int))))],[(101,_),(102,_)]⟩ rfl (ab.seq (ab.ite h4 rfl (fun _ h4=>?_) (fun _ h4=>?_))))
  ·refine ab.skip (Fin.ah ⟨[(3,_),(12,_),(13,_),(14,_)],[(101,_),(102,_)]⟩ rfl (Fin.then ?_))
   obtain ⟨v6,h7,h4⟩:=aR h4
   refine ab.cJ (v:=v6) (fun (up_5:b9)=>⟨[(3,Pt 102 0),(12,.b (.one (.sl 1 (lists0.map (eL 1 (eL 1 eI)))))),(13,I (lists0.length:Int)),(14,I x_3)],[(101,.mq up_5),(102,.aO 119 [.row 101])]⟩) (fun z=>z) ?_ ?_
   ·refine ab.block (ab.seq (ab.aa ?_))
    obtain ⟨x_6,e8,h7⟩:=aR h7
    refine Oc (ar jt (aK e8) (aE (e:=(eL 1 (eL 1 eI))) e8) rfl rfl) (Oc (aw gF rfl rfl) (Oc oa ?_))
    refine ae.ak ⟨[(3,_),(5,.b (.one (.sl 1 (x_6.map (eL 1 eI))))),(12,_),(13,_),(14,_)],[(101,_),(102,_)]⟩ rfl (ab.seq (ab.aa ?_))
    refine Oc om (Oc (ay nF rfl (List.length_map _)) (Oc om ?_))
    refine ae.ak ⟨[(3,_),(12,_),(13,_),(14,_),(18,.b (.one (.sl 1 (x_6.map (eL 1 eI))))),(19,I (x_6.length:Int)),(20,I 0)],[(101,_),(102,_)]⟩ rfl (ab.block ?_)
    obtain ⟨v9,h10,h7⟩:=aR h7
    refine ab.ct h10 (eD fun (up_7:b9) (x_8:Int)=>⟨[(3,Pt 102 0),(12,.b (.one (.sl 1 (lists0.map (eL 1 (eL 1 eI)))))),(13,I (lists0.length:Int)),(14,I x_3),(18,.b (.one (.sl 1 (x_6.map (eL 1 eI))))),(19,I (x_6.length:Int)),(20,I x_8)],[(101,.mq up_7),(102,.aO 119 [.row 101])]⟩) [3,12,13,14,18,19,20] [101,102] rfl ?_
    rintro ⟨up_7,x_8⟩ o11 h12 hy13
    refine ab.seq (ab.aa ?_)
    refine Oc (bm rfl rfl) (ae.ak ⟨[(3,_),(12,_),(13,_),(14,_),(18,_),(19,_),(20,_),(21,B (decide (x_8 < (x_6.length:Int))))],[(101,_),(102,_)]⟩ rfl (ab.seq (ab.ite h12 rfl (fun _ h12=>?_) (fun _ h12=>?_))))
    ·refine ab.skip (Fin.ah ⟨[(3,_),(12,_),(13,_),(14,_),(18,_),(19,_),(20,_)],[(101,_),(102,_)]⟩ rfl (Fin.then ?_))
     obtain ⟨v14,h15,h12⟩:=aR h12
     refine ab.cJ (v:=v14) (fun (up_10:b9)=>⟨[(3,Pt 102 0),(12,.b (.one (.sl 1 (lists0.map (eL 1 (eL 1 eI)))))),(13,I (lists0.length:Int)),(14,I x_3),(18,.b (.one (.sl 1 (x_6.map (eL 1 eI))))),(19,I (x_6.length:Int)),(20,I x_8)],[(101,.mq up_10),(102,.aO 119 [.row 101])]⟩) (fun z=>z) ?_ ?_
     ·refine ab.block (ab.seq (ab.aa ?_))
      obtain ⟨x_11,e16,h15⟩:=aR h15
      refine Oc (ar er (aK e16) (aE (e:=(eL 1 eI)) e16) rfl rfl) (Oc (aw bx rfl rfl) (Oc oa ?_))
      refine ae.ak ⟨[(3,_),(7,.b (.one (.sl 1 (x_11.map eI)))),(12,_),(13,_),(14,_),(18,_),(19,_),(20,_)],[(101,_),(102,_)]⟩ rfl (ab.seq (ab.aa ?_))
      refine Oc om (Oc (ay cc rfl (List.length_map _)) (Oc om ?_))
      refine ae.ak ⟨[(3,_),(7,_),(12,_),(13,_),(14,_),(18,_),(19,_),(20,_),(24,.b (.one (.sl 1 (x_11.map eI)))),(25,I (x_11.length:Int)),(26,I 0)],[(101,_),(102,_)]⟩ rfl (ab.block ?_)
      obtain ⟨v17,h18,h15⟩:=aR h15
      refine ab.ct h18 (eD fun (up_12:b9) (x_13:Int)=>⟨[(3,Pt 102 0),(7,.b (.one (.sl 1 (x_11.map eI)))),(12,.b (.one (.sl 1 (lists0.map (eL 1 (eL 1 eI)))))),(13,I (lists0.length:Int)),(14,I x_3),(18,.b (.one (.sl 1 (x_6.map (eL 1 eI))))),(19,I (x_6.length:Int)),(20,I x_8),(24,.b (.one (.sl 1 (x_11.map eI)))),(25,I (x_11.length:Int)),(26,I x_13)],[(101,.mq up_12),(102,.aO 119 [.row 101])]⟩) [3,7,12,13,14,18,19,20,24,25,26] [101,102] rfl ?_
      rintro ⟨up_12,x_13⟩ o19 h20 hy21
      refine ab.seq (ab.aa ?_)
      refine Oc (bm rfl rfl) (ae.ak ⟨[(3,_),(7,_),(12,_),(13,_),(14,_),(18,_),(19,_),(20,_),(24,_),(25,_),(26,_),(27,B (decide (x_13 < (x_11.length:Int))))],[(101,_),(102,_)]⟩ rfl (ab.seq (ab.ite h20 rfl (fun _ h20=>?_) (fun _ h20=>?_))))
      ·refine ab.skip (Fin.ah ⟨[(3,_),(7,_),(12,_),(13,_),(14,_),(18,_),(19,_),(20,_),(24,_),(25,_),(26,_)],[(101,_),(102,_)]⟩ rfl (Fin.then (ab.seq (ab.block (ab.seq (ab.aa ?_))))))
       obtain ⟨x_15,e22,h20⟩:=aR h20
       refine Oc (ar ba (aK e22) (aE (e:=eI) e22) rfl rfl) (Oc (aw aP rfl rfl) (Oc oa ?_))
       refine ae.ak ⟨[(3,_),(7,_),(9,I x_15),(12,_),(13,_),(14,_),(18,_),(19,_),(20,_),(24,_),(25,_),(26,_)],[(101,_),(102,_)]⟩ rfl ?_
       obtain ⟨x_16,e23,h20⟩:=aR h20
       obtain ⟨⟨x_17,x_18⟩,e24,h20⟩:=aR h20
       refine ab.jk mixed 5 [.b (.xa [.row 101]),.b (.one (.sl 1 (x_11.map eI))),.b (.dS [.i x_16]),I x_16,I x_15] [3,7,12,13,14,18,19,20,24,25,26] [101,102] (s':=⟨[(3,_),(7,_),(12,_),(13,_),(14,_),(18,_),(19,_),(20,_),(24,_),(25,_),(26,_)],[(101,.mq x_18),(102,_)]⟩) rfl ⟨fun _=>.p ((fQ jj rfl rfl rfl rfl).tc rfl),fun _=>.p om,fun _=>.p (ar ba (aK e23) (aE (e:=eI) e23) rfl rfl),fun _=>.p (aw aP rfl rfl),fun _=>.p om,trivial⟩ ⟨_,by exact .p (bJ (own_a:=[(101,_)]) ((k8 e24).sw 1 101) goes71 rfl ⟨rfl,trivial⟩ rfl rfl),rfl⟩ rfl (Fin.ax (Fin.ah ⟨[(3,_),(7,_),(12,_),(13,_),(14,_),(18,_),(19,_),(20,_),(24,_),(25,_),(26,_)],[(101,_),(102,_)]⟩ rfl (Fin.then (ab.aa ?_))))
       refine Oc (bq rfl rfl) (Oc om ?_)
       refine ae.nil ?_
       exact Fin.bK [3,7,12,13,14,18,19,20,24,25,26] [101,102] (x_18,IntKind.i64.wrap (x_13 + 1)) (Option.some.inj h20) rfl
      ·refine ab.exit (Fin.ao ?_)
       obtain rfl:=hy21 _ (Option.some.inj h20).symm
       refine Fin.ao (Fin.aI (Fin.ax ?_))
       exact Fin.join [3,12,13,14,18,19,20] [101,102] up_12 (Option.some.inj h15) rfl
     ·rintro up_10 hv
      subst v14
      refine ab.aa (Oc (bq rfl rfl) (Oc om ?_))
      refine ae.nil ?_
      exact Fin.bK [3,12,13,14,18,19,20] [101,102] (up_10,IntKind.i64.wrap (x_8 + 1)) (Option.some.inj h12) rfl
    ·refine ab.exit (Fin.ao ?_)
     obtain rfl:=hy13 _ (Option.some.inj h12).symm
     refine Fin.ao (Fin.aI (Fin.ax ?_))
     exact Fin.join [3,12,13,14] [101,102] up_7 (Option.some.inj h7) rfl
   ·rintro up_5 hv
    subst v6
    refine ab.aa (Oc (bq rfl rfl) (Oc om ?_))
    refine ae.nil ?_
    exact Fin.bK [3,12,13,14] [101,102] (up_5,IntKind.i64.wrap (x_3 + 1)) (Option.some.inj h4) rfl
  ·refine ab.exit (Fin.ao ?_)
   obtain rfl:=hy5 _ (Option.some.inj h4).symm
   refine Fin.ao (Fin.aI ?_)
   exact Fin.join [3] [101,102] up_2 rfl rfl
 ·rintro up_1 hv
  subst v1
  refine ab.seq (ab.aa ?_)
  refine Oc ((fQ jj rfl rfl rfl rfl).tc rfl) ?_
  obtain ⟨⟨x_19,x_20⟩,e25,h⟩:=aR h
  refine Oc (bJ (own_a:=[(101,_)]) ((k6 e25).sw 1 101) goes72 rfl ⟨rfl,trivial⟩ rfl rfl) (Oc oa ?_)
  refine ae.ak ⟨[(2,.b (.one (.sl 1 (x_19.map (eL 1 eI)))))],[]⟩ rfl (ab.ret ?_)
  obtain rfl:=Option.some.inj h
  refine Fin.ah ⟨[(2,_)],[]⟩ rfl (Fin.bd [.one (.sl 1 (x_19.map (eL 1 eI)))] (.inl rfl) rfl (.cons (.tmp rfl) .nil) ⟨rfl,rfl⟩)
def cW (F:Nat) (home0:List Int) (sets0:List (List Int)):Option (List Task) :=
 Option.bind (iter F (eD fun alone_2 x_3=>if (decide (x_3 < (home0.length:Int))) = true then (Option.bind ((aT home0 x_3).bind fun x_6=>if (decide (0 ≤ x_6)) = true then ((dF alone_2 [[x_3]]).bind fun x_7=>some x_7) else (some alone_2)) (fun alone_5=>some (.inl (alone_5,IntKind.i64.wrap (x_3 + 1))))) else (some (.inr alone_2))) ([],0)) (fun alone_1=>Option.bind ((bT F [sets0,alone_1]).bind fun x_9=>iter F (eD fun out_10 x_11=>if (decide (x_11 < (x_9.length:Int))) = true then (Option.bind ((aT x_9 x_11).bind fun x_14=>Option.bind (iter F (eD fun regions_16 x_17=>if (decide (x_17 < (x_14.length:Int))) = true then ((aT x_14 x_17).bind fun x_19=>(aT home0 x_19).bind fun x_20=>(dF regions_16 [x_20]).bind fun x_21=>some (.inl (x_21,IntKind.i64.wrap (x_17 + 1)))) else (some (.inr regions_16))) ([],0)) (fun regions_15=>(cU F regions_15).bind fun x_22=>(dK F x_22).bind fun x_23=>(aT x_23 0).bind fun x_24=>(qv x_23 1).bind fun x_25=>(dF out_10 [(⟨x_24,x_14,x_25⟩:Task)]).bind fun x_26=>some x_26)) (fun out_13=>some (.inl (out_13,IntKind.i64.wrap (x_11 + 1))))) else (some (.inr out_10))) ([],0)) (fun out_8=>some out_8))
theorem ly (kr0:Nat) {F:Nat} {home0:List Int} {sets0:List (List Int)} {r:(List Task)} (h:cW F home0 sets0 = some r):aC Try.prog [] 70 [] [.one (.sl 1 (home0.map eI)),.one (.sl 1 (sets0.map (eL 1 eI)))] (Is [(kr0,.row 59 3 (r.map an))] (.b (.row kr0))):=by
 unfold cW at h
 refine aC.intro 68 Try.func70 Try.ntmps70 rfl (by simp) fun E=>?_
 show ab _ E ⟨68,[],[],[]⟩ _ ⟨[(0,.b (.one (.sl 1 (home0.map eI)))),(1,.b (.one (.sl 1 (sets0.map (eL 1 eI)))))],[]⟩ _
 refine ab.seq (ab.aa ?_)
 refine Oc oa (ae.ak ⟨[(0,.b (.one (.sl 1 (home0.map eI)))),(1,.b (.one (.sl 1 (sets0.map (eL 1 eI)))))],[]⟩ rfl (ab.seq (ab.aa ?_)))
 refine Oc oa (ae.ak ⟨[(0,_),(1,_),(5,.b (.one (.nil)))],[]⟩ rfl ?_)
 obtain ⟨v1,h2,h⟩:=aR h
 refine ab.cJ (v:=v1) (fun (alone_1:List (List Int))=>⟨[(0,.b (.one (.sl 1 (home0.map eI)))),(1,.b (.one (.sl 1 (sets0.map (eL 1 eI))))),(5,.b (.row 103))],[(103,.row 22 1 (alone_1.map (eL 1 eI)))]⟩) (fun z=>z) ?_ ?_
 ·refine ab.seq (ab.aa ?_)
  refine Oc om (Oc (ay cc rfl (List.length_map _)) (Oc om ?_))
  refine ae.ak ⟨[(0,_),(1,_),(5,_),(14,.b (.one (.sl 1 (home0.map eI)))),(15,I (home0.length:Int)),(16,I 0)],[]⟩ rfl (ab.block (ab.cT 5 103 1 22 rfl (by decide) rfl (ab.ct h2 (eD fun (alone_2:List (List Int)) (x_3:Int)=>⟨[(0,.b (.one (.sl 1 (home0.map eI)))),(1,.b (.one (.sl 1 (sets0.map (eL 1 eI))))),(5,.b (.row 103)),(14,.b (.one (.sl 1 (home0.map eI)))),(15,I (home0.length:Int)),(16,I x_3)],[(103,.row 22 1 (alone_2.map (eL 1 eI)))]⟩) [0,1,5,14,15,16] [103] rfl ?_)))
  rintro ⟨alone_2,x_3⟩ o3 h4 hy5
  refine ab.seq (ab.aa ?_)
  refine Oc (bm rfl rfl) (ae.ak ⟨[(0,_),(1,_),(5,_),(14,_),(15,_),(16,_),(17,B (decide (x_3 < (home0.length:Int))))],[(103,_)]⟩ rfl (ab.seq (ab.ite h4 rfl (fun _ h4=>?_) (fun _ h4=>?_))))
  ·refine ab.skip (Fin.ah ⟨[(0,_),(1,_),(5,_),(14,_),(15,_),(16,_)],[(103,_)]⟩ rfl (Fin.then ?_))
   obtain ⟨v6,h7,h4⟩:=aR h4
   refine ab.cJ (v:=v6) (fun (alone_5:List (List Int))=>⟨[(0,.b (.one (.sl 1 (home0.map eI)))),(1,.b (.one (.sl 1 (sets0.map (eL 1 eI))))),(5,.b (.row 103)),(14,.b (.one (.sl 1 (home0.map eI)))),(15,I (home0.length:Int)),(16,I x_3)],[(103,.row 22 1 (alone_5.map (eL 1 eI)))]⟩) (fun z=>z) ?_ ?_
   ·refine ab.block (ab.seq (ab.aa ?_))
    refine Oc om ?_
    obtain ⟨x_6,e8,h7⟩:=aR h7
    refine Oc (ar ba (aK e8) (aE (e:=eI) e8) rfl rfl) (Oc (aw aP rfl rfl) (Oc oa (Oc oa ?_)))
    refine ae.ak ⟨[(0,_),(1,_),(5,_),(6,I x_3),(7,I x_6),(14,_),(15,_),(16,_)],[(103,_)]⟩ rfl (ab.seq (ab.aa ?_))
    refine Oc om (Oc (fN rfl rfl) ?_)
    refine ae.ak ⟨[(0,_),(1,_),(5,_),(6,_),(14,_),(15,_),(16,_),(22,B (decide (0 ≤ x_6)))],[(103,_)]⟩ rfl (ab.ite h7 rfl (fun _ h7=>?_) (fun _ h7=>?_))
    ·refine ab.aa (Oc om (Oc om (Oc (aN (k:=104) (es:=[x_3].map eI) ba rfl rfl (bw fun _=>rfl) rfl (by decide) (by decide) rfl) ?_)))
     refine ae.br 104 rfl (ae.ah ⟨[(0,.b (.one (.sl 1 (home0.map eI)))),(1,.b (.one (.sl 1 (sets0.map (eL 1 eI))))),(5,.b (.row 103)),(14,.b (.one (.sl 1 (home0.map eI)))),(15,I (home0.length:Int)),(16,I x_3),(23,.b (.row 103)),(25,.b (.one (.sl 1 ([x_3].map eI))))],[(103,.row 22 1 (alone_2.map (eL 1 eI)))]⟩ rfl (Oc (aN (k:=105) (es:=[[x_3]].map (eL 1 eI)) er rfl rfl (bw fun _=>rfl) rfl (by decide) (by decide) rfl) ?_))
     obtain ⟨x_7,e9,h7⟩:=aR h7
     refine Oc (dx er (gn e9) (gm e9) rfl rfl rfl rfl (dt e9) rfl) (Oc oa ?_)
     refine ae.nil (Fin.ax ?_)
     exact Fin.join [0,1,5,14,15,16] [103] x_7 (Option.some.inj h7) rfl
    ·refine ab.skip (Fin.ax ?_)
     exact Fin.join [0,1,5,14,15,16] [103] alone_2 (Option.some.inj h7) rfl
   ·rintro alone_5 hv
    subst v6
    refine ab.aa (Oc (bq rfl rfl) (Oc om ?_))
    refine ae.nil ?_
    exact Fin.bK [0,1,5,14,15,16] [103] (alone_5,IntKind.i64.wrap (x_3 + 1)) (Option.some.inj h4) rfl
  ·refine ab.exit (Fin.ao ?_)
   obtain rfl:=hy5 _ (Option.some.inj h4).symm
   refine Fin.ao (Fin.aI ?_)
   exact Fin.join [0,1,5] [103] alone_2 rfl rfl
 ·rintro alone_1 hv
  subst v1
  refine ab.seq (ab.aa ?_)
  refine Oc oa (ae.ak ⟨[(0,_),(1,_),(5,_),(8,.b (.one (.nil)))],[(103,_)]⟩ rfl ?_)
  obtain ⟨v10,h11,h⟩:=aR h
  refine ab.cJ (v:=v10) (fun (out_8:List Task)=>⟨[(8,.b (.row 111))],[(111,.row 59 3 (out_8.map an))]⟩) (fun z=>z) ?_ ?_
  ·refine ab.seq (ab.aa ?_)
   refine Oc om (Oc om ?_)
   refine ae.br 103 rfl (Oc (aN (k:=106) (es:=[sets0,alone_1].map (eL 1 (eL 1 eI))) jt rfl rfl (bw fun _=>rfl) rfl (by decide) (by decide) rfl) (ae.br 106 rfl (ae.ah ⟨[(0,.b (.one (.sl 1 (home0.map eI)))),(8,.b (.one (.nil))),(31,.b (.one (.sl 1 ([sets0,alone_1].map (eL 1 (eL 1 eI))))))],[]⟩ rfl ?_)))
   obtain ⟨x_9,e12,h11⟩:=aR h11
   refine Oc (aH (dc e12) nU rfl rfl) (Oc (ay nF rfl (List.length_map _)) (Oc om ?_))
   refine ae.ak ⟨[(0,_),(8,_),(32,.b (.one (.sl 1 (x_9.map (eL 1 eI))))),(33,I (x_9.length:Int)),(34,I 0)],[]⟩ rfl (ab.block (ab.cT 8 111 3 59 rfl (by decide) rfl (ab.ct h11 (eD fun (out_10:List Task) (x_11:Int)=>⟨[(0,.b (.one (.sl 1 (home0.map eI)))),(8,.b (.row 111)),(32,.b (.one (.sl 1 (x_9.map (eL 1 eI))))),(33,I (x_9.length:Int)),(34,I x_11)],[(111,.row 59 3 (out_10.map an))]⟩) [0,8,32,33,34] [111] rfl ?_)))
   rintro ⟨out_10,x_11⟩ o13 h14 hy15
   refine ab.seq (ab.aa ?_)
   refine Oc (bm rfl rfl) (ae.ak ⟨[(0,_),(8,_),(32,_),(33,_),(34,_),(35,B (decide (x_11 < (x_9.length:Int))))],[(111,_)]⟩ rfl (ab.seq (ab.ite h14 rfl (fun _ h14=>?_) (fun _ h14=>?_))))
   ·refine ab.skip (Fin.ah ⟨[(0,_),(8,_),(32,_),(33,_),(34,_)],[(111,_)]⟩ rfl (Fin.then ?_))
    obtain ⟨v16,h17,h14⟩:=aR h14
    refine ab.cJ (v:=v16) (fun (out_13:List Task)=>⟨[(0,.b (.one (.sl 1 (home0.map eI)))),(8,.b (.row 111)),(32,.b (.one (.sl 1 (x_9.map (eL 1 eI))))),(33,I (x_9.length:Int)),(34,I x_11)],[(111,.row 59 3 (out_13.map an))]⟩) (fun z=>z) ?_ ?_
    ·refine ab.block (ab.seq (ab.aa ?_))
     obtain ⟨x_14,e18,h17⟩:=aR h17
     refine Oc (ar er (aK e18) (aE (e:=(eL 1 eI)) e18) rfl rfl) (Oc (aw bx rfl rfl) (Oc oa ?_))
     refine ae.ak ⟨[(0,_),(8,_),(10,.b (.one (.sl 1 (x_14.map eI)))),(32,_),(33,_),(34,_)],[(111,_)]⟩ rfl (ab.seq (ab.aa ?_))
     refine Oc oa (ae.ak ⟨[(0,_),(8,_),(10,_),(11,.b (.one (.nil))),(32,_),(33,_),(34,_)],[(111,_)]⟩ rfl ?_)
     obtain ⟨v19,h20,h17⟩:=aR h17
     refine ab.cJ (v:=v19) (fun (regions_15:List Int)=>⟨[(0,.b (.one (.sl 1 (home0.map eI)))),(8,.b (.row 111)),(10,.b (.one (.sl 1 (x_14.map eI)))),(11,.b (.row 113)),(32,.b (.one (.sl 1 (x_9.map (eL 1 eI))))),(33,I (x_9.length:Int)),(34,I x_11)],[(111,.row 59 3 (out_10.map an)),(113,.row 3 1 (regions_15.map eI))]⟩) (fun z=>z) ?_ ?_
     ·refine ab.seq (ab.aa ?_)
      refine Oc om (Oc (ay cc rfl (List.length_map _)) (Oc om ?_))
      refine ae.ak ⟨[(0,_),(8,_),(10,_),(11,_),(32,_),(33,_),(34,_),(38,.b (.one (.sl 1 (x_14.map eI)))),(39,I (x_14.length:Int)),(40,I 0)],[(111,_)]⟩ rfl (ab.block (ab.cT 11 113 1 3 rfl (by decide) rfl (ab.ct h20 (eD fun (regions_16:List Int) (x_17:Int)=>⟨[(0,.b (.one (.sl 1 (home0.map eI)))),(8,.b (.row 111)),(10,.b (.one (.sl 1 (x_14.map eI)))),(11,.b (.row 113)),(32,.b (.one (.sl 1 (x_9.map (eL 1 eI))))),(33,I (x_9.length:Int)),(34,I x_11),(38,.b (.one (.sl 1 (x_14.map eI)))),(39,I (x_14.length:Int)),(40,I x_17)],[(111,.row 59 3 (out_10.map an)),(113,.row 3 1 (regions_16.map eI))]⟩) [0,8,10,11,32,33,34,38,39,40] [111,113] rfl ?_)))
      rintro ⟨regions_16,x_17⟩ o21 h22 hy23
      refine ab.seq (ab.aa ?_)
      refine Oc (bm rfl rfl) (ae.ak ⟨[(0,_),(8,_),(10,_),(11,_),(32,_),(33,_),(34,_),(38,_),(39,_),(40,_),(41,B (decide (x_17 < (x_14.length:Int))))],[(111,_),(113,_)]⟩ rfl (ab.seq (ab.ite h22 rfl (fun _ h22=>?_) (fun _ h22=>?_))))
      ·refine ab.skip (Fin.ah ⟨[(0,_),(8,_),(10,_),(11,_),(32,_),(33,_),(34,_),(38,_),(39,_),(40,_)],[(111,_),(113,_)]⟩ rfl (Fin.then (ab.seq (ab.block (ab.seq (ab.aa ?_))))))
       obtain ⟨x_19,e24,h22⟩:=aR h22
       refine Oc (ar ba (aK e24) (aE (e:=eI) e24) rfl rfl) (Oc (aw aP rfl rfl) (Oc oa ?_))
       refine ae.ak ⟨[(0,_),(8,_),(10,_),(11,_),(13,I x_19),(32,_),(33,_),(34,_),(38,_),(39,_),(40,_)],[(111,_),(113,_)]⟩ rfl (ab.aa (Oc om (Oc om (Oc om ?_))))
       obtain ⟨x_20,e25,h22⟩:=aR h22
       refine Oc (ar ba (aK e25) (aE (e:=eI) e25) rfl rfl) (Oc (aw aP rfl rfl) (Oc (aN (k:=114) (es:=[x_20].map eI) ba rfl rfl (bw fun _=>rfl) rfl (by decide) (by decide) rfl) ?_))
       obtain ⟨x_21,e26,h22⟩:=aR h22
       refine Oc (dx ba (gn e26) (gm e26) rfl rfl rfl rfl (dt e26) rfl) (Oc oa ?_)
       refine ae.nil (Fin.ax (Fin.ah ⟨[(0,_),(8,_),(10,_),(11,_),(32,_),(33,_),(34,_),(38,_),(39,_),(40,_)],[(111,_),(113,.row 3 1 (x_21.map eI))]⟩ rfl (Fin.then (ab.aa ?_))))
       refine Oc (bq rfl rfl) (Oc om ?_)
       refine ae.nil ?_
       exact Fin.bK [0,8,10,11,32,33,34,38,39,40] [111,113] (x_21,IntKind.i64.wrap (x_17 + 1)) (Option.some.inj h22) rfl
      ·refine ab.exit (Fin.ao ?_)
       obtain rfl:=hy23 _ (Option.some.inj h22).symm
       refine Fin.ao (Fin.aI ?_)
       exact Fin.join [0,8,10,11,32,33,34] [111,113] regions_16 rfl rfl
     ·rintro regions_15 hv
      subst v19
      refine ab.seq (ab.aa ?_)
      refine Oc om (ae.toF 113 rfl ?_)
      obtain ⟨x_22,e27,h17⟩:=aR h17
      refine Oc (bJ (own_a:=[(113,_)]) ((lu e27).sw 1 113) xJ rfl ⟨rfl,trivial⟩ rfl rfl) (ae.unF 113 rfl (ae.ak ⟨[(0,_),(8,_),(10,_),(11,_),(32,_),(33,_),(34,_)],[(111,_),(113,.row 3 1 (x_22.map eI))]⟩ rfl (ab.seq (ab.aa ?_))))
      refine Oc om ?_
      obtain ⟨x_23,e28,h17⟩:=aR h17
      refine Oc (bJ (own_a:=[(113,_)]) ((nv e28).sw 1 113) goes92 rfl ⟨rfl,trivial⟩ rfl rfl) (Oc oa ?_)
      refine ae.ak ⟨[(0,.b (.one (.sl 1 (home0.map eI)))),(8,.b (.row 111)),(10,.b (.one (.sl 1 (x_14.map eI)))),(11,.b (.row 113)),(32,.b (.one (.sl 1 (x_9.map (eL 1 eI))))),(33,I (x_9.length:Int)),(34,I x_11)],[(111,.row 59 3 (out_10.map an)),(113,.row 3 1 (x_23.map eI))]⟩ rfl (ab.br 113 rfl (ab.ah ⟨[(0,_),(8,_),(10,_),(11,.b (.one (.sl 1 (x_23.map eI)))),(32,_),(33,_),(34,_)],[(111,_)]⟩ rfl ?_))
      obtain ⟨x_24,e29,h17⟩:=aR h17
      obtain ⟨x_25,e30,h17⟩:=aR h17
      obtain ⟨x_26,e31,h17⟩:=aR h17
      refine ab.jk mixed 9 [.b (.row 111),.b (.one (.sl 1 (x_23.map eI))),.b (.dS [.i x_24]),I x_24,.b (.one (.sl 1 (x_14.map eI))),.b (.one (.sl 1 (x_23.map eI))),.b (.one (.sl 1 (x_25.map eI))),.b (.agg [.i x_24,.sl 1 (x_14.map eI),.sl 1 (x_25.map eI)]),.b (.one (.sl 3 ([(⟨x_24,x_14,x_25⟩:Task)].map an)))] [0,8,32,33,34] [111] (s':=⟨[(0,_),(8,_),(32,_),(33,_),(34,_)],[(111,.row 59 3 (x_26.map an))]⟩) rfl ⟨fun _=>.p om,fun _=>.p om,fun _=>.p (ar ba (aK e29) (aE (e:=eI) e29) rfl rfl),fun _=>.p (aw aP rfl rfl),fun _=>.p om,fun _=>.p om,fun _=>.p (kI ba e30 rfl rfl),fun _=>.p (dM nf rfl rfl),fun _=>.p (cN (es:=[(⟨x_24,x_14,x_25⟩:Task)].map an) gu rfl rfl (bw fun _=>rfl) rfl (by decide) (by decide)),trivial⟩ ⟨_,by exact .p (iJ gu (gn e31) (gm e31) rfl rfl rfl (dt e31) rfl),⟨_,by exact .p oa,rfl⟩⟩ rfl (Fin.ax ?_)
      exact Fin.join [0,8,32,33,34] [111] x_26 (Option.some.inj h17) rfl
    ·rintro out_13 hv
     subst v16
     refine ab.aa (Oc (bq rfl rfl) (Oc om ?_))
     refine ae.nil ?_
     exact Fin.bK [0,8,32,33,34] [111] (out_13,IntKind.i64.wrap (x_11 + 1)) (Option.some.inj h14) rfl
   ·refine ab.exit (Fin.ao ?_)
    obtain rfl:=hy15 _ (Option.some.inj h14).symm
    refine Fin.ao (Fin.aI ?_)
    exact Fin.join [8] [111] out_10 rfl rfl
  ·rintro out_8 hv
   subst v10
   refine ab.seq (ab.aa ?_)
   refine Oc om (Oc oa ?_)
   refine ae.ak ⟨[(4,.b (.row 111))],[(111,_)]⟩ rfl (ab.ret ?_)
   obtain rfl:=Option.some.inj h
   refine Fin.ah ⟨[(4,_)],[(111,_)]⟩ rfl (Fin.dr 111 kr0 [.row 111] (.inl rfl) rfl (.cons (.tmp rfl) .nil) rfl rfl rfl rfl ⟨rfl,rfl⟩)
def ey (F:Nat) (home0:List Int) (sets0:List (List Int)):Option ((List Task) × Int) :=
 (b4 F home0 sets0).bind fun x_1=>if (!x_1) = true then (some ([],1)) else ((cW F home0 sets0).bind fun x_2=>some (x_2,0))
theorem pQ (kr0:Nat) {F:Nat} {home0:List Int} {sets0:List (List Int)} {r:(List Task) × Int} (h:ey F home0 sets0 = some r):aC Try.prog [] 26 [] [.one (.sl 1 (home0.map eI)),.one (.sl 1 (sets0.map (eL 1 eI)))] (Is [(kr0,.row 59 3 (r.1.map an))] (.fa [.row kr0,.one (.i r.2)])):=by
 unfold ey at h
 refine aC.intro 13 Try.func26 Try.ntmps26 rfl (by simp) fun E=>?_
 show ab _ E ⟨13,[],[],[]⟩ _ ⟨[(0,.b (.one (.sl 1 (home0.map eI)))),(1,.b (.one (.sl 1 (sets0.map (eL 1 eI)))))],[]⟩ _
 refine ab.seq (ab.aa ?_)
 refine Oc oa (Oc oa ?_)
 refine ae.ak ⟨[(0,.b (.one (.sl 1 (home0.map eI)))),(1,.b (.one (.sl 1 (sets0.map (eL 1 eI)))))],[]⟩ rfl (ab.seq (ab.seq (ab.aa ?_)))
 refine Oc om (Oc om ?_)
 obtain ⟨x_1,e1,h⟩:=aR h
 refine Oc (aH (eH e1) sv rfl rfl) (Oc (dv rfl) ?_)
 refine ae.ak ⟨[(0,_),(1,_),(9,B (!x_1))],[]⟩ rfl (ab.ite h rfl (fun _ h=>?_) (fun _ h=>?_))
 ·refine ab.seq (ab.aa ?_)
  refine Oc oa (Oc oa ?_)
  refine ae.ak ⟨[(4,.b (.one (.nil))),(5,I 1)],[]⟩ rfl (ab.ret (Fin.aq ?_))
  obtain rfl:=Option.some.inj h
  refine Fin.ah ⟨[(4,_),(5,_)],[]⟩ rfl (Fin.cT 4 101 3 59 rfl (by decide) rfl (Fin.dr 101 kr0 [.row 101,.one (.i 1)] (.inl rfl) rfl (.cons (.tmp rfl) (.cons (.tmp rfl) .nil)) rfl rfl rfl rfl ⟨rfl,rfl⟩))
 ·refine ab.skip (Fin.ah ⟨[(0,_),(1,_)],[]⟩ rfl (Fin.then (ab.seq (ab.aa ?_))))
  refine Oc om (Oc om ?_)
  obtain ⟨x_2,e2,h⟩:=aR h
  refine Oc (bJ (ly 102 e2) xM rfl trivial rfl rfl) (Oc oa (Oc oa ?_))
  refine ae.ak ⟨[(4,.b (.row 102)),(5,I 0)],[(102,.row 59 3 (x_2.map an))]⟩ rfl (ab.ret ?_)
  obtain rfl:=Option.some.inj h
  refine Fin.ah ⟨[(4,_),(5,_)],[(102,_)]⟩ rfl (Fin.dr 102 kr0 [.row 102,.one (.i 0)] (.inl rfl) rfl (.cons (.tmp rfl) (.cons (.tmp rfl) .nil)) rfl rfl rfl rfl ⟨rfl,rfl⟩)
def dp (F:Nat) (r0:Int) (v0c:Int):Option Bool :=
 some ((decide (r0 < (-1))) || (decide (v0c ≤ r0)))
theorem nB {F:Nat} {r0:Int} {v0c:Int} {r:Bool} (h:dp F r0 v0c = some r):aC Try.prog [] 80 [(1,.box 3 [.i v0c])] [.one (.i r0),.ptr 1 0] (Is [(1,.box 3 [.i v0c])] (.b (.one (.bool r)))):=by
 unfold dp at h
 refine aC.intro 11 Try.func80 Try.ntmps80 rfl (by simp) fun E=>?_
 show ab _ E ⟨11,[1],[1],[]⟩ _ ⟨[(0,I r0),(1,Pt 1 0)],[(1,.box 3 [.i v0c])]⟩ _
 refine ab.seq (ab.aa ?_)
 refine Oc oa (ae.ak ⟨[(0,I r0),(1,Pt 1 0)],[(1,.box 3 [.i v0c])]⟩ rfl (ab.seq (ab.aa ?_)))
 refine Oc om (Oc (bm rfl rfl) (Oc om ?_))
 refine cr (!(decide (r0 < (-1)))) [] (fun g1=>trivial) (fun g1=>om) (cr (!(decide (r0 < (-1)))) [] (fun g2=>by exact trivial) (fun g2=>av aP rfl rfl rfl) (cr (!(decide (r0 < (-1)))) [7,8] (fun g3=>by exact ⟨g3,g3,trivial⟩) (fun g3=>fN rfl rfl) (Oc (aL (fun e=>by first | (rw [e]; rfl) | (simp only at e; rw [e]; rfl)) rfl rfl rfl rfl) (Oc oa ?_))))
 refine ae.ak ⟨[(3,B ((decide (r0 < (-1))) || (decide (v0c ≤ r0))))],[(1,_)]⟩ rfl (ab.ret ?_)
 obtain rfl:=Option.some.inj h
 refine Fin.ah ⟨[(3,_)],[(1,_)]⟩ rfl ?_
 exact Fin.result [.one (.bool ((decide (r0 < (-1))) || (decide (v0c ≤ r0))))] (.inl rfl) rfl (.cons (.tmp rfl) .nil) ⟨rfl,rfl⟩
def cR (F:Nat) (s0:List Int) (f0v0:Int):Option Int :=
 Option.bind (iter F (fun x_1=>if (decide (x_1 < (s0.length:Int))) = true then ((aT s0 x_1).bind fun x_2=>(dp F x_2 f0v0).bind fun x_3=>if x_3 = true then (some (.inr (.inr x_1))) else (some (.inl (IntKind.i64.wrap (x_1 + 1))))) else (some (.inr (.inl ())))) 0) (bH (fun _=>some (-1)) (fun y=>some y))
theorem mi {F:Nat} {s0:List Int} {f0v0:Int} {r:Int} (h:cR F s0 f0v0 = some r):aC Try.prog [] 94 [(1,.box 3 [.i f0v0])] [.one (.sl 1 (s0.map eI)),.gr 80 [] [.ptr 1 0]] (Is [(1,.box 3 [.i f0v0])] (.b (.one (.i r)))):=by
 unfold cR at h
 refine aC.intro 19 Try.func94 Try.ntmps94 rfl (by simp) fun E=>?_
 show ab _ E ⟨19,[1],[1],[]⟩ _ ⟨[(0,.b (.one (.sl 1 (s0.map eI)))),(1,.b (.gr 80 [] [.ptr 1 0]))],[(1,.box 3 [.i f0v0])]⟩ _
 refine ab.seq (ab.aa ?_)
 refine Oc oa (ae.ak ⟨[(0,.b (.one (.sl 1 (s0.map eI)))),(1,.b (.gr 80 [] [.ptr 1 0]))],[(1,.box 3 [.i f0v0])]⟩ rfl ?_)
 obtain ⟨v1,h2,h⟩:=aR h
 refine ab.cJ (v:=v1) (fun (_:Unit)=>⟨[],[(1,.box 3 [.i f0v0])]⟩) (fun z=>.inl z) ?_ ?_
 ·refine ab.seq (ab.aa ?_)
  refine Oc om (Oc (ay cc rfl (List.length_map _)) (Oc om ?_))
  refine ae.ak ⟨[(0,_),(1,_),(7,I (s0.length:Int)),(8,I 0)],[(1,_)]⟩ rfl (ab.block (ab.ct h2 (fun (x_1:Int)=>⟨[(0,.b (.one (.sl 1 (s0.map eI)))),(1,.b (.gr 80 [] [.ptr 1 0])),(7,I (s0.length:Int)),(8,I x_1)],[(1,.box 3 [.i f0v0])]⟩) [0,1,7,8] [1] rfl ?_))
  rintro x_1 o3 h4 hy5
  refine ab.seq (ab.aa ?_)
  refine Oc (bm rfl rfl) (ae.ak ⟨[(0,_),(1,_),(7,_),(8,_),(9,B (decide (x_1 < (s0.length:Int))))],[(1,_)]⟩ rfl (ab.seq (ab.ite h4 rfl (fun _ h4=>?_) (fun _ h4=>?_))))
  ·refine ab.skip (Fin.ah ⟨[(0,_),(1,_),(7,_),(8,_)],[(1,_)]⟩ rfl (Fin.then (ab.seq (ab.block (ab.seq (ab.aa ?_))))))
   refine Oc om (Oc oa ?_)
   refine ae.ak ⟨[(0,_),(1,_),(5,I x_1),(7,_),(8,_)],[(1,_)]⟩ rfl (ab.seq (ab.aa ?_))
   refine Oc om (Oc om (Oc om ?_))
   obtain ⟨x_2,e6,h4⟩:=aR h4
   refine Oc (ar ba (aK e6) (aE (e:=eI) e6) rfl rfl) (Oc (aw aP rfl rfl) ?_)
   obtain ⟨x_3,e7,h4⟩:=aR h4
   refine Oc (jl (own_a:=[(1,_)]) (nB e7) goes80 rfl rfl rfl ⟨rfl,trivial⟩ rfl rfl) (ae.ak ⟨[(0,_),(1,_),(5,_),(7,_),(8,_),(16,B x_3)],[(1,_)]⟩ rfl (ab.ite h4 rfl (fun _ h4=>?_) (fun _ h4=>?_)))
   ·refine ab.seq (ab.aa ?_)
    refine Oc om (Oc oa ?_)
    refine ae.ak ⟨[(4,I x_1)],[(1,_)]⟩ rfl (ab.ret (Fin.aD (Fin.aq ?_)))
    obtain rfl:=hy5 _ (Option.some.inj h4).symm
    refine Fin.aq (Fin.aD (Fin.aq ?_))
    obtain rfl:=Option.some.inj h
    refine Fin.ah ⟨[(4,_)],[(1,_)]⟩ rfl ?_
    exact Fin.result [.one (.i x_1)] (.inl rfl) rfl (.cons (.tmp rfl) .nil) ⟨rfl,rfl⟩
   ·refine ab.skip (Fin.ax (Fin.ah ⟨[(0,_),(1,_),(7,_),(8,_)],[(1,_)]⟩ rfl (Fin.then (ab.aa ?_))))
    refine Oc (bq rfl rfl) (Oc om ?_)
    refine ae.nil ?_
    exact Fin.bK [0,1,7,8] [1] (IntKind.i64.wrap (x_1 + 1)) (Option.some.inj h4) rfl
  ·refine ab.exit (Fin.ao ?_)
   obtain rfl:=hy5 _ (Option.some.inj h4).symm
   refine Fin.ao (Fin.aI ?_)
   exact Fin.join [] [1] () rfl rfl
 ·rintro _ hv
  subst v1
  refine ab.seq (ab.aa ?_)
  refine Oc oa (ae.ak ⟨[(4,I (-1))],[(1,_)]⟩ rfl (ab.ret ?_))
  obtain rfl:=Option.some.inj h
  refine Fin.ah ⟨[(4,_)],[(1,_)]⟩ rfl ?_
  exact Fin.result [.one (.i (-1))] (.inl rfl) rfl (.cons (.tmp rfl) .nil) ⟨rfl,rfl⟩
def cj (F:Nat) (s0:List Int) (f0v0:Int):Option Bool :=
 (cR F s0 f0v0).bind fun x_1=>some (decide (0 ≤ x_1))
theorem kW {F:Nat} {s0:List Int} {f0v0:Int} {r:Bool} (h:cj F s0 f0v0 = some r):aC Try.prog [] 79 [(1,.box 3 [.i f0v0])] [.one (.sl 1 (s0.map eI)),.gr 80 [] [.ptr 1 0]] (Is [(1,.box 3 [.i f0v0])] (.b (.one (.bool r)))):=by
 unfold cj at h
 refine aC.intro 9 Try.func79 Try.ntmps79 rfl (by simp) fun E=>?_
 show ab _ E ⟨9,[1],[1],[]⟩ _ ⟨[(0,.b (.one (.sl 1 (s0.map eI)))),(1,.b (.gr 80 [] [.ptr 1 0]))],[(1,.box 3 [.i f0v0])]⟩ _
 refine ab.seq (ab.aa ?_)
 refine Oc oa (ae.ak ⟨[(0,.b (.one (.sl 1 (s0.map eI)))),(1,.b (.gr 80 [] [.ptr 1 0]))],[(1,.box 3 [.i f0v0])]⟩ rfl (ab.seq (ab.aa ?_)))
 refine Oc om (Oc om ?_)
 obtain ⟨x_1,e1,h⟩:=aR h
 refine Oc (bJ (own_a:=[(1,_)]) (mi e1) goes94 rfl ⟨rfl,trivial⟩ rfl rfl) (Oc (fN rfl rfl) (Oc oa ?_))
 refine ae.ak ⟨[(4,B (decide (0 ≤ x_1)))],[(1,_)]⟩ rfl (ab.ret ?_)
 obtain rfl:=Option.some.inj h
 refine Fin.ah ⟨[(4,_)],[(1,_)]⟩ rfl ?_
 exact Fin.result [.one (.bool (decide (0 ≤ x_1)))] (.inl rfl) rfl (.cons (.tmp rfl) .nil) ⟨rfl,rfl⟩
def dy (F:Nat) (home0:List Int) (regions0:Int):Option Bool :=
 (aM (decide ((home0.length:Int) ≤ 401)) (cj F home0 regions0)).bind fun x_1=>some ((decide ((home0.length:Int) ≤ 401)) && (!x_1))
theorem pa {F:Nat} {home0:List Int} {regions0:Int} {r:Bool} (h:dy F home0 regions0 = some r):aC Try.prog [] 41 [] [.one (.sl 1 (home0.map eI)),.one (.i regions0)] (Is [] (.b (.one (.bool r)))):=by
 unfold dy at h
 refine aC.intro 14 Try.func41 Try.ntmps41 rfl (by simp) fun E=>?_
 show ab _ E ⟨14,[],[],[]⟩ _ ⟨[(0,.b (.one (.sl 1 (home0.map eI)))),(1,I regions0)],[]⟩ _
 refine ab.seq (ab.aa ?_)
 refine Oc (sJ (k:=101) rfl rfl) (Oc oa ?_)
 refine ae.ak ⟨[(0,.b (.one (.sl 1 (home0.map eI)))),(3,Pt 101 0)],[(101,.box 3 [.i regions0])]⟩ rfl (ab.seq (ab.aa ?_))
 refine Oc om (Oc (ay cc rfl (List.length_map _)) (Oc (sd rfl rfl) (Oc om ?_)))
 refine iV (decide ((home0.length:Int) ≤ 401)) [] (fun g1=>trivial) (fun g1=>om) (iV (decide ((home0.length:Int) ≤ 401)) [] (fun g2=>by exact trivial) (fun g2=>fR rfl rfl) (ae.ah ⟨[(8,B (decide ((home0.length:Int) ≤ 401))),(9,.opt (decide ((home0.length:Int) ≤ 401)) (.one (.sl 1 (home0.map eI)))),(10,.opt (decide ((home0.length:Int) ≤ 401)) (.gr 80 [] [.ptr 101 0]))],[(101,_)]⟩ rfl ?_))
 obtain ⟨x_1,e4,h⟩:=aR h
 refine iV (decide ((home0.length:Int) ≤ 401)) [9,10] (fun g3=>⟨g3,g3,trivial⟩) (fun g3=>bJ (own_a:=[(101,_)]) ((kW (gc e4 g3)).sw 1 101) goes79 rfl ⟨rfl,trivial⟩ rfl rfl) (iV (decide ((home0.length:Int) ≤ 401)) [11] (fun g5=>⟨g5,trivial⟩) (fun g5=>dv rfl) (Oc (bS (fun e=>e) rfl rfl rfl rfl) (Oc oa ?_)))
 refine ae.ak ⟨[(4,B ((decide ((home0.length:Int) ≤ 401)) && (!x_1)))],[]⟩ rfl (ab.ret ?_)
 obtain rfl:=Option.some.inj h
 refine Fin.ah ⟨[(4,_)],[]⟩ rfl (Fin.bd [.one (.bool ((decide ((home0.length:Int) ≤ 401)) && (!x_1)))] (.inl rfl) rfl (.cons (.tmp rfl) .nil) ⟨rfl,rfl⟩)
def b7 (F:Nat) (l0:au) (n0r:Round) (n0out:List au):Option (List au) :=
 (dF n0out [(⟨l0.Kind,n0r.Step,n0r.Me,l0.To,l0.Sets,l0.Bodies,l0.States⟩:au)]).bind fun x_1=>some x_1
theorem fW {F:Nat} {l0:au} {n0r:Round} {n0out:List au} {r:(List au)} (h:b7 F l0 n0r n0out = some r):aC Try.prog [] 43 [(1,.aO 95 [.one (.i n0r.Me),.one (.i n0r.Regions),.one (.i n0r.Step),.one (.sl 1 (n0r.Home.map eI)),.one (.sl 1 (n0r.Heard.map eB)),.one (.sl 1 (n0r.Sets.map (eL 1 eI))),.one (.sl 1 (n0r.States.map eS)),.one (.sl 3 (n0r.Tasks.map an)),.one (.sl 1 (n0r.Done.map eB)),.one (.sl 1 (n0r.Results.map eS)),.row 2]),(2,.row 42 7 (n0out.map af))] [.ptr 1 0,.agg (af l0)] (Is [(1,.aO 95 [.one (.i n0r.Me),.one (.i n0r.Regions),.one (.i n0r.Step),.one (.sl 1 (n0r.Home.map eI)),.one (.sl 1 (n0r.Heard.map eB)),.one (.sl 1 (n0r.Sets.map (eL 1 eI))),.one (.sl 1 (n0r.States.map eS)),.one (.sl 3 (n0r.Tasks.map an)),.one (.sl 1 (n0r.Done.map eB)),.one (.sl 1 (n0r.Results.map eS)),.row 2]),(2,.row 42 7 (r.map af))] (.fa [])):=by
 unfold b7 at h
 refine aC.intro 26 Try.func43 Try.ntmps43 rfl (by simp) fun E=>?_
 show ab _ E ⟨26,[1],[1,2],[]⟩ _ ⟨[(0,Pt 1 0),(1,.b (.agg (af l0)))],[(1,.aO 95 [.one (.i n0r.Me),.one (.i n0r.Regions),.one (.i n0r.Step),.one (.sl 1 (n0r.Home.map eI)),.one (.sl 1 (n0r.Heard.map eB)),.one (.sl 1 (n0r.Sets.map (eL 1 eI))),.one (.sl 1 (n0r.States.map eS)),.one (.sl 3 (n0r.Tasks.map an)),.one (.sl 1 (n0r.Done.map eB)),.one (.sl 1 (n0r.Results.map eS)),.row 2]),(2,.row 42 7 (n0out.map af))]⟩ _
 refine ab.seq (ab.aa ?_)
 refine Oc (gK (k:=101) rfl rfl) (ae.ak ⟨[(0,Pt 1 0),(3,Pt 101 0)],[(1,.aO 95 [.one (.i n0r.Me),.one (.i n0r.Regions),.one (.i n0r.Step),.one (.sl 1 (n0r.Home.map eI)),.one (.sl 1 (n0r.Heard.map eB)),.one (.sl 1 (n0r.Sets.map (eL 1 eI))),.one (.sl 1 (n0r.States.map eS)),.one (.sl 3 (n0r.Tasks.map an)),.one (.sl 1 (n0r.Done.map eB)),.one (.sl 1 (n0r.Results.map eS)),.row 2]),(2,.row 42 7 (n0out.map af)),(101,.box 42 (af l0))]⟩ rfl (ab.seq (ab.ff mixed [false,false,false,false,false,false,false,false,false,false,false,true,false,true] [Pt 1 0,Pt 1 0,Pt 1 0,Pt 1 2,I n0r.Step,Pt 1 0,Pt 1 0,Pt 1 0,Pt 1 0,I n0r.Me,Pt 101 1,B true,Pt 101 2,B true] [⟨[false,false,false,false,false,false,false,false,false,false,false,false,false,false],[(0,Pt 1 0),(3,Pt 101 0)],[(1,.aO 95 [.one (.i n0r.Me),.one (.i n0r.Regions),.one (.i n0r.Step),.one (.sl 1 (n0r.Home.map eI)),.one (.sl 1 (n0r.Heard.map eB)),.one (.sl 1 (n0r.Sets.map (eL 1 eI))),.one (.sl 1 (n0r.States.map eS)),.one (.sl 3 (n0r.Tasks.map an)),.one (.sl 1 (n0r.Done.map eB)),.one (.sl 1 (n0r.Results.map eS)),.row 2]),(2,.row 42 7 (n0out.map af)),(101,.box 42 (af l0))],[true,true,true,true,true,true,true,true,true,true,true,true,true,true],[],[12,13]⟩,⟨[false,false,false,false,false,false,false,false,false,false,false,true,false,false],[(0,Pt 1 0),(3,Pt 101 0)],[(1,.aO 95 [.one (.i n0r.Me),.one (.i n0r.Regions),.one (.i n0r.Step),.one (.sl 1 (n0r.Home.map eI)),.one (.sl 1 (n0r.Heard.map eB)),.one (.sl 1 (n0r.Sets.map (eL 1 eI))),.one (.sl 1 (n0r.States.map eS)),.one (.sl 3 (n0r.Tasks.map an)),.one (.sl 1 (n0r.Done.map eB)),.one (.sl 1 (n0r.Results.map eS)),.row 2]),(2,.row 42 7 (n0out.map af)),(101,.box 42 [.i l0.Kind,.i n0r.Step,.i l0.From,.i l0.To,.sl 1 (l0.Sets.map (eL 1 eI)),.sl 1 (l0.Bodies.map eI),.sl 1 (l0.States.map eS)])],[true,true,true,true,true,true,true,true,true,true,true,true,true,true],[0,1,2,3,4,10,11],[]⟩,⟨[false,false,false,false,false,false,false,false,false,false,false,true,false,true],[(0,Pt 1 0),(3,Pt 101 0)],[(1,.aO 95 [.one (.i n0r.Me),.one (.i n0r.Regions),.one (.i n0r.Step),.one (.sl 1 (n0r.Home.map eI)),.one (.sl 1 (n0r.Heard.map eB)),.one (.sl 1 (n0r.Sets.map (eL 1 eI))),.one (.sl 1 (n0r.States.map eS)),.one (.sl 3 (n0r.Tasks.map an)),.one (.sl 1 (n0r.Done.map eB)),.one (.sl 1 (n0r.Results.map eS)),.row 2]),(2,.row 42 7 (n0out.map af)),(101,.box 42 [.i l0.Kind,.i n0r.Step,.i n0r.Me,.i l0.To,.sl 1 (l0.Sets.map (eL 1 eI)),.sl 1 (l0.Bodies.map eI),.sl 1 (l0.States.map eS)])],[true,true,true,true,true,true,true,true,true,true,true,true,true,true],[0,1,2,3,4,5,6,7,8,9,10,11,12,13],[]⟩] rfl (⟨by kernel_rfl,⟨⟨Pt 1 0,fun _=>rfl,fun _=>.p (by exact az rfl)⟩,⟨Pt 1 0,fun _=>rfl,fun _=>.p (by exact aA rfl)⟩,⟨Pt 1 0,fun _=>rfl,fun _=>.p (by exact ag aY rfl rfl)⟩,⟨Pt 1 2,fun _=>rfl,fun _=>.p (by exact ag rR rfl rfl)⟩,⟨I n0r.Step,fun _=>rfl,fun _=>.p (by exact aS aP rfl rfl rfl)⟩,⟨Pt 1 0,fun _=>rfl,fun _=>.p (by exact az rfl)⟩,⟨Pt 1 0,fun _=>rfl,fun _=>.p (by exact aA rfl)⟩,⟨Pt 1 0,fun _=>rfl,fun _=>.p (by exact ag aY rfl rfl)⟩,⟨Pt 1 0,fun _=>rfl,fun _=>.p (by exact ag eV rfl rfl)⟩,⟨I n0r.Me,fun _=>rfl,fun _=>.p (by exact aS aP rfl rfl rfl)⟩,⟨Pt 101 1,fun _=>rfl,fun _=>.p (by exact ag rQ rfl rfl)⟩,⟨_,[],.b (.one .any),rfl,(fun e=>by simp at e),rfl,rfl,fun _=>.mc [1,2,101] (by exact .p (by exact mK aP rfl rfl rfl (Nat.le_of_ble_eq_true rfl) rfl)) (by exact rfl)⟩,trivial,trivial,trivial⟩,⟨by kernel_rfl,⟨trivial,trivial,trivial,trivial,trivial,⟨Pt 1 0,fun _=>rfl,fun _=>.p (by exact az rfl)⟩,⟨Pt 1 0,fun _=>rfl,fun _=>.p (by exact aA rfl)⟩,⟨Pt 1 0,fun _=>rfl,fun _=>.p (by exact ag aY rfl rfl)⟩,⟨Pt 1 0,fun _=>rfl,fun _=>.p (by exact ag eV rfl rfl)⟩,⟨I n0r.Me,fun _=>rfl,fun _=>.p (by exact aS aP rfl rfl rfl)⟩,trivial,trivial,⟨Pt 101 2,fun _=>rfl,fun _=>.p (by exact ag gW rfl rfl)⟩,⟨_,[],.b (.one .any),rfl,(fun e=>by simp at e),rfl,rfl,fun _=>.mc [1,2,101] (by exact .p (by exact mK aP rfl rfl rfl (Nat.le_of_ble_eq_true rfl) rfl)) (by exact rfl)⟩,trivial⟩,⟨by kernel_rfl,⟨trivial,trivial,trivial,trivial,trivial,trivial,trivial,trivial,trivial,trivial,trivial,trivial,trivial,trivial,trivial⟩,trivial⟩⟩⟩) rfl rfl rfl [0,3] [1,2,101] (s':=⟨[(0,_),(3,_)],[(1,_),(2,_),(101,.box 42 [.i l0.Kind,.i n0r.Step,.i n0r.Me,.i l0.To,.sl 1 (l0.Sets.map (eL 1 eI)),.sl 1 (l0.Bodies.map eI),.sl 1 (l0.States.map eS)])]⟩) rfl ?_)))
 refine ab.ah ⟨[(0,_),(3,_)],[(1,_),(2,_),(101,_)]⟩ rfl ?_
 obtain ⟨x_1,e1,h⟩:=aR h
 refine ab.mC mixed [false,false,false,false,false,false,false,true,false,false,true] [Pt 1 0,Pt 1 0,Pt 1 0,Pt 1 10,.b (.row 2),.b (.agg [.i l0.Kind,.i n0r.Step,.i n0r.Me,.i l0.To,.sl 1 (l0.Sets.map (eL 1 eI)),.sl 1 (l0.Bodies.map eI),.sl 1 (l0.States.map eS)]),.b (.one (.sl 7 ([(⟨l0.Kind,n0r.Step,n0r.Me,l0.To,l0.Sets,l0.Bodies,l0.States⟩:au)].map af))),.b (.row 2),Pt 1 0,Pt 1 10,B true] [⟨[false,false,false,false,false,false,false,false,false,false,false],[(0,Pt 1 0),(3,Pt 101 0)],[(1,.aO 95 [.one (.i n0r.Me),.one (.i n0r.Regions),.one (.i n0r.Step),.one (.sl 1 (n0r.Home.map eI)),.one (.sl 1 (n0r.Heard.map eB)),.one (.sl 1 (n0r.Sets.map (eL 1 eI))),.one (.sl 1 (n0r.States.map eS)),.one (.sl 3 (n0r.Tasks.map an)),.one (.sl 1 (n0r.Done.map eB)),.one (.sl 1 (n0r.Results.map eS)),.row 2]),(2,.row 42 7 (n0out.map af)),(101,.box 42 [.i l0.Kind,.i n0r.Step,.i n0r.Me,.i l0.To,.sl 1 (l0.Sets.map (eL 1 eI)),.sl 1 (l0.Bodies.map eI),.sl 1 (l0.States.map eS)])],[true,true,true,true,true,true,true,true,true,true,true],[],[8,9,10]⟩,⟨[false,false,false,false,false,false,false,true,false,false,false],[(0,Pt 1 0),(3,Pt 101 0)],[(1,.aO 95 [.one (.i n0r.Me),.one (.i n0r.Regions),.one (.i n0r.Step),.one (.sl 1 (n0r.Home.map eI)),.one (.sl 1 (n0r.Heard.map eB)),.one (.sl 1 (n0r.Sets.map (eL 1 eI))),.one (.sl 1 (n0r.States.map eS)),.one (.sl 3 (n0r.Tasks.map an)),.one (.sl 1 (n0r.Done.map eB)),.one (.sl 1 (n0r.Results.map eS)),.one (.any)]),(2,.row 42 7 (x_1.map af)),(101,.box 42 [.i l0.Kind,.i n0r.Step,.i n0r.Me,.i l0.To,.sl 1 (l0.Sets.map (eL 1 eI)),.sl 1 (l0.Bodies.map eI),.sl 1 (l0.States.map eS)])],[true,true,true,true,false,true,true,true,true,true,true],[1,2,3,4,5,6,7],[]⟩,⟨[false,false,false,false,false,false,false,true,false,false,true],[(0,Pt 1 0),(3,Pt 101 0)],[(1,.aO 95 [.one (.i n0r.Me),.one (.i n0r.Regions),.one (.i n0r.Step),.one (.sl 1 (n0r.Home.map eI)),.one (.sl 1 (n0r.Heard.map eB)),.one (.sl 1 (n0r.Sets.map (eL 1 eI))),.one (.sl 1 (n0r.States.map eS)),.one (.sl 3 (n0r.Tasks.map an)),.one (.sl 1 (n0r.Done.map eB)),.one (.sl 1 (n0r.Results.map eS)),.row 2]),(2,.row 42 7 (x_1.map af)),(101,.box 42 [.i l0.Kind,.i n0r.Step,.i n0r.Me,.i l0.To,.sl 1 (l0.Sets.map (eL 1 eI)),.sl 1 (l0.Bodies.map eI),.sl 1 (l0.States.map eS)])],[true,true,true,true,false,true,true,true,true,true,true],[0,1,2,3,4,5,6,7,8,9,10],[]⟩] rfl (⟨by kernel_rfl,⟨⟨Pt 1 0,fun _=>rfl,fun _=>.p (by exact az rfl)⟩,⟨Pt 1 0,fun _=>rfl,fun _=>.p (by exact az rfl)⟩,⟨Pt 1 0,fun _=>rfl,fun _=>.p (by exact aA rfl)⟩,⟨Pt 1 10,fun _=>rfl,fun _=>.p (by exact ag gV rfl rfl)⟩,⟨.b (.row 2),fun _=>rfl,fun _=>.p (by exact aS kC rfl rfl rfl)⟩,⟨.b (.agg [.i l0.Kind,.i n0r.Step,.i n0r.Me,.i l0.To,.sl 1 (l0.Sets.map (eL 1 eI)),.sl 1 (l0.Bodies.map eI),.sl 1 (l0.States.map eS)]),fun _=>rfl,fun _=>.p (by exact gY fH rfl rfl rfl rfl)⟩,⟨.b (.one (.sl 7 ([(⟨l0.Kind,n0r.Step,n0r.Me,l0.To,l0.Sets,l0.Bodies,l0.States⟩:au)].map af))),fun _=>rfl,fun _=>.p (by exact cN (es:=[(⟨l0.Kind,n0r.Step,n0r.Me,l0.To,l0.Sets,l0.Bodies,l0.States⟩:au)].map af) eP rfl rfl (bw fun _=>rfl) rfl (by decide) (by decide))⟩,⟨_,[2],.b (.row 2),rfl,fun _=>rfl,rfl,rfl,fun _=>.mc [1,2,101] (by exact .forget 1 10 rfl (.plain rfl (iJ eP (gn e1) (gm e1) rfl rfl rfl (dt e1) rfl))) (by exact rfl)⟩,trivial,trivial,trivial,trivial⟩,⟨by kernel_rfl,⟨⟨Pt 1 0,fun _=>rfl,fun _=>.p (by exact az rfl)⟩,trivial,trivial,trivial,trivial,trivial,trivial,trivial,⟨Pt 1 0,fun _=>rfl,fun _=>.p (by exact aA rfl)⟩,⟨Pt 1 10,fun _=>rfl,fun _=>.p (by exact ag gV rfl rfl)⟩,⟨_,[],.b (.one .any),rfl,(fun e=>by simp at e),rfl,rfl,fun _=>.mc [1,2,101] (by exact .p (by exact ed kC rfl rfl rfl rfl (Nat.le_of_ble_eq_true rfl) rfl)) (by exact rfl)⟩,trivial⟩,⟨by kernel_rfl,⟨trivial,trivial,trivial,trivial,trivial,trivial,trivial,trivial,trivial,trivial,trivial,trivial⟩,trivial⟩⟩⟩) rfl rfl rfl [] [1,2] (s':=⟨[],[(1,.aO 95 [.one (.i n0r.Me),.one (.i n0r.Regions),.one (.i n0r.Step),.one (.sl 1 (n0r.Home.map eI)),.one (.sl 1 (n0r.Heard.map eB)),.one (.sl 1 (n0r.Sets.map (eL 1 eI))),.one (.sl 1 (n0r.States.map eS)),.one (.sl 3 (n0r.Tasks.map an)),.one (.sl 1 (n0r.Done.map eB)),.one (.sl 1 (n0r.Results.map eS)),.row 2]),(2,.row 42 7 (x_1.map af))]⟩) rfl ?_
 obtain rfl:=Option.some.inj h
 refine Fin.ah ⟨[],[(1,_),(2,_)]⟩ rfl ?_
 exact Fin.result [] (.inr rfl) rfl (.nil) ⟨rfl,rfl⟩
def dP (F:Nat) (s0:List Bool) (v0:Bool):Option Int :=
 Option.bind (iter F (fun x_1=>if (decide (x_1 < (s0.length:Int))) = true then ((aT s0 x_1).bind fun x_2=>if (v0 == x_2) = true then (some (.inr (.inr x_1))) else (some (.inl (IntKind.i64.wrap (x_1 + 1))))) else (some (.inr (.inl ())))) 0) (bH (fun _=>some (-1)) (fun y=>some y))
theorem o7 {F:Nat} {s0:List Bool} {v0:Bool} {r:Int} (h:dP F s0 v0 = some r):aC Try.prog [] 90 [] [.one (.sl 1 (s0.map eB)),.one (.bool v0)] (Is [] (.b (.one (.i r)))):=by
 unfold dP at h
 refine aC.intro 19 Try.func90 Try.ntmps90 rfl (by simp) fun E=>?_
 show ab _ E ⟨19,[],[],[]⟩ _ ⟨[(0,.b (.one (.sl 1 (s0.map eB)))),(1,B v0)],[]⟩ _
 refine ab.seq (ab.aa ?_)
 refine Oc oa (ae.ak ⟨[(0,.b (.one (.sl 1 (s0.map eB)))),(1,B v0)],[]⟩ rfl ?_)
 obtain ⟨v1,h2,h⟩:=aR h
 refine ab.cJ (v:=v1) (fun (_:Unit)=>⟨[],[]⟩) (fun z=>.inl z) ?_ ?_
 ·refine ab.seq (ab.aa ?_)
  refine Oc om (Oc (ay und28 rfl (List.length_map _)) (Oc om ?_))
  refine ae.ak ⟨[(0,_),(1,_),(7,I (s0.length:Int)),(8,I 0)],[]⟩ rfl (ab.block (ab.ct h2 (fun (x_1:Int)=>⟨[(0,.b (.one (.sl 1 (s0.map eB)))),(1,B v0),(7,I (s0.length:Int)),(8,I x_1)],[]⟩) [0,1,7,8] [] rfl ?_))
  rintro x_1 o3 h4 hy5
  refine ab.seq (ab.aa ?_)
  refine Oc (bm rfl rfl) (ae.ak ⟨[(0,_),(1,_),(7,_),(8,_),(9,B (decide (x_1 < (s0.length:Int))))],[]⟩ rfl (ab.seq (ab.ite h4 rfl (fun _ h4=>?_) (fun _ h4=>?_))))
  ·refine ab.skip (Fin.ah ⟨[(0,_),(1,_),(7,_),(8,_)],[]⟩ rfl (Fin.then (ab.seq (ab.block (ab.seq (ab.aa ?_))))))
   refine Oc om (Oc oa ?_)
   refine ae.ak ⟨[(0,_),(1,_),(5,I x_1),(7,_),(8,_)],[]⟩ rfl (ab.seq (ab.aa ?_))
   refine Oc om (Oc om (Oc om ?_))
   obtain ⟨x_2,e6,h4⟩:=aR h4
   refine Oc (ar iE (aK e6) (aE (e:=eB) e6) rfl rfl) (Oc (aw mu rfl rfl) (Oc (tT und4 rfl rfl) ?_))
   refine ae.ak ⟨[(0,_),(1,_),(5,_),(7,_),(8,_),(16,B (v0 == x_2))],[]⟩ rfl (ab.ite h4 rfl (fun _ h4=>?_) (fun _ h4=>?_))
   ·refine ab.seq (ab.aa ?_)
    refine Oc om (Oc oa ?_)
    refine ae.ak ⟨[(4,I x_1)],[]⟩ rfl (ab.ret (Fin.aD (Fin.aq ?_)))
    obtain rfl:=hy5 _ (Option.some.inj h4).symm
    refine Fin.aq (Fin.aD (Fin.aq ?_))
    obtain rfl:=Option.some.inj h
    refine Fin.ah ⟨[(4,_)],[]⟩ rfl (Fin.bd [.one (.i x_1)] (.inl rfl) rfl (.cons (.tmp rfl) .nil) ⟨rfl,rfl⟩)
   ·refine ab.skip (Fin.ax (Fin.ah ⟨[(0,_),(1,_),(7,_),(8,_)],[]⟩ rfl (Fin.then (ab.aa ?_))))
    refine Oc (bq rfl rfl) (Oc om ?_)
    refine ae.nil ?_
    exact Fin.bK [0,1,7,8] [] (IntKind.i64.wrap (x_1 + 1)) (Option.some.inj h4) rfl
  ·refine ab.exit (Fin.ao ?_)
   obtain rfl:=hy5 _ (Option.some.inj h4).symm
   refine Fin.ao (Fin.aI ?_)
   exact Fin.join [] [] () rfl rfl
 ·rintro _ hv
  subst v1
  refine ab.seq (ab.aa ?_)
  refine Oc oa (ae.ak ⟨[(4,I (-1))],[]⟩ rfl (ab.ret ?_))
  obtain rfl:=Option.some.inj h
  refine Fin.ah ⟨[(4,_)],[]⟩ rfl (Fin.bd [.one (.i (-1))] (.inl rfl) rfl (.cons (.tmp rfl) .nil) ⟨rfl,rfl⟩)
def b6 (F:Nat) (s0:List Bool) (v0:Bool):Option Bool :=
 (dP F s0 v0).bind fun x_1=>some (decide (0 ≤ x_1))
theorem fT {F:Nat} {s0:List Bool} {v0:Bool} {r:Bool} (h:b6 F s0 v0 = some r):aC Try.prog [] 68 [] [.one (.sl 1 (s0.map eB)),.one (.bool v0)] (Is [] (.b (.one (.bool r)))):=by
 unfold b6 at h
 refine aC.intro 9 Try.func68 Try.ntmps68 rfl (by simp) fun E=>?_
 show ab _ E ⟨9,[],[],[]⟩ _ ⟨[(0,.b (.one (.sl 1 (s0.map eB)))),(1,B v0)],[]⟩ _
 refine ab.seq (ab.aa ?_)
 refine Oc oa (ae.ak ⟨[(0,.b (.one (.sl 1 (s0.map eB)))),(1,B v0)],[]⟩ rfl (ab.seq (ab.aa ?_)))
 refine Oc om (Oc om ?_)
 obtain ⟨x_1,e1,h⟩:=aR h
 refine Oc (aH (o7 e1) goes90 rfl rfl) (Oc (fN rfl rfl) (Oc oa ?_))
 refine ae.ak ⟨[(4,B (decide (0 ≤ x_1)))],[]⟩ rfl (ab.ret ?_)
 obtain rfl:=Option.some.inj h
 refine Fin.ah ⟨[(4,_)],[]⟩ rfl (Fin.bd [.one (.bool (decide (0 ≤ x_1)))] (.inl rfl) rfl (.cons (.tmp rfl) .nil) ⟨rfl,rfl⟩)
def cA (F:Nat) (bodies0:List Int) (region0:Int) (n0r:Round) (n0out:List au):Option (List Int) :=
 Option.bind (iter F (eD fun out_2 x_3=>if (decide (x_3 < (bodies0.length:Int))) = true then (Option.bind ((aT bodies0 x_3).bind fun x_6=>(aT n0r.Home x_6).bind fun x_7=>if (decide (x_7 = region0)) = true then ((dF out_2 [x_6]).bind fun x_8=>some x_8) else (some out_2)) (fun out_5=>some (.inl (out_5,IntKind.i64.wrap (x_3 + 1))))) else (some (.inr out_2))) ([],0)) (fun out_1=>some out_1)
theorem gR {F:Nat} {bodies0:List Int} {region0:Int} {n0r:Round} {n0out:List au} {r:(List Int)} (h:cA F bodies0 region0 n0r n0out = some r):aC Try.prog [] 55 [(1,.aO 95 [.one (.i n0r.Me),.one (.i n0r.Regions),.one (.i n0r.Step),.one (.sl 1 (n0r.Home.map eI)),.one (.sl 1 (n0r.Heard.map eB)),.one (.sl 1 (n0r.Sets.map (eL 1 eI))),.one (.sl 1 (n0r.States.map eS)),.one (.sl 3 (n0r.Tasks.map an)),.one (.sl 1 (n0r.Done.map eB)),.one (.sl 1 (n0r.Results.map eS)),.row 2]),(2,.row 42 7 (n0out.map af))] [.ptr 1 0,.one (.sl 1 (bodies0.map eI)),.one (.i region0)] (Is [(1,.aO 95 [.one (.i n0r.Me),.one (.i n0r.Regions),.one (.i n0r.Step),.one (.sl 1 (n0r.Home.map eI)),.one (.sl 1 (n0r.Heard.map eB)),.one (.sl 1 (n0r.Sets.map (eL 1 eI))),.one (.sl 1 (n0r.States.map eS)),.one (.sl 3 (n0r.Tasks.map an)),.one (.sl 1 (n0r.Done.map eB)),.one (.sl 1 (n0r.Results.map eS)),.row 2]),(2,.row 42 7 (n0out.map af)),(51,.row 3 1 (r.map eI))] (.b (.row 51))):=by
 unfold cA at h
 refine aC.intro 32 Try.func55 Try.ntmps55 rfl (by simp) fun E=>?_
 show ab _ E ⟨32,[1],[1,2],[]⟩ _ ⟨[(0,Pt 1 0),(1,.b (.one (.sl 1 (bodies0.map eI)))),(2,I region0)],[(1,.aO 95 [.one (.i n0r.Me),.one (.i n0r.Regions),.one (.i n0r.Step),.one (.sl 1 (n0r.Home.map eI)),.one (.sl 1 (n0r.Heard.map eB)),.one (.sl 1 (n0r.Sets.map (eL 1 eI))),.one (.sl 1 (n0r.States.map eS)),.one (.sl 3 (n0r.Tasks.map an)),.one (.sl 1 (n0r.Done.map eB)),.one (.sl 1 (n0r.Results.map eS)),.row 2]),(2,.row 42 7 (n0out.map af))]⟩ _
 refine ab.seq (ab.aa ?_)
 refine Oc oa (ae.ak ⟨[(0,Pt 1 0),(1,.b (.one (.sl 1 (bodies0.map eI)))),(2,I region0)],[(1,.aO 95 [.one (.i n0r.Me),.one (.i n0r.Regions),.one (.i n0r.Step),.one (.sl 1 (n0r.Home.map eI)),.one (.sl 1 (n0r.Heard.map eB)),.one (.sl 1 (n0r.Sets.map (eL 1 eI))),.one (.sl 1 (n0r.States.map eS)),.one (.sl 3 (n0r.Tasks.map an)),.one (.sl 1 (n0r.Done.map eB)),.one (.sl 1 (n0r.Results.map eS)),.row 2]),(2,.row 42 7 (n0out.map af))]⟩ rfl (ab.seq (ab.aa ?_)))
 refine Oc oa (ae.ak ⟨[(0,_),(1,_),(2,_),(7,.b (.one (.nil)))],[(1,_),(2,_)]⟩ rfl ?_)
 obtain ⟨v1,h2,h⟩:=aR h
 refine ab.cJ (v:=v1) (fun (out_1:List Int)=>⟨[(7,.b (.row 102))],[(1,.aO 95 [.one (.i n0r.Me),.one (.i n0r.Regions),.one (.i n0r.Step),.one (.sl 1 (n0r.Home.map eI)),.one (.sl 1 (n0r.Heard.map eB)),.one (.sl 1 (n0r.Sets.map (eL 1 eI))),.one (.sl 1 (n0r.States.map eS)),.one (.sl 3 (n0r.Tasks.map an)),.one (.sl 1 (n0r.Done.map eB)),.one (.sl 1 (n0r.Results.map eS)),.row 2]),(2,.row 42 7 (n0out.map af)),(102,.row 3 1 (out_1.map eI))]⟩) (fun z=>z) ?_ ?_
 ·refine ab.seq (ab.aa ?_)
  refine Oc om (Oc (ay cc rfl (List.length_map _)) (Oc om ?_))
  refine ae.ak ⟨[(0,_),(2,_),(7,_),(10,.b (.one (.sl 1 (bodies0.map eI)))),(11,I (bodies0.length:Int)),(12,I 0)],[(1,_),(2,_)]⟩ rfl (ab.block (ab.cT 7 102 1 3 rfl (by decide) rfl (ab.ct h2 (eD fun (out_2:List Int) (x_3:Int)=>⟨[(0,Pt 1 0),(2,I region0),(7,.b (.row 102)),(10,.b (.one (.sl 1 (bodies0.map eI)))),(11,I (bodies0.length:Int)),(12,I x_3)],[(1,.aO 95 [.one (.i n0r.Me),.one (.i n0r.Regions),.one (.i n0r.Step),.one (.sl 1 (n0r.Home.map eI)),.one (.sl 1 (n0r.Heard.map eB)),.one (.sl 1 (n0r.Sets.map (eL 1 eI))),.one (.sl 1 (n0r.States.map eS)),.one (.sl 3 (n0r.Tasks.map an)),.one (.sl 1 (n0r.Done.map eB)),.one (.sl 1 (n0r.Results.map eS)),.row 2]),(2,.row 42 7 (n0out.map af)),(102,.row 3 1 (out_2.map eI))]⟩) [0,2,7,10,11,12] [1,2,102] rfl ?_)))
  rintro ⟨out_2,x_3⟩ o3 h4 hy5
  refine ab.seq (ab.aa ?_)
  refine Oc (bm rfl rfl) (ae.ak ⟨[(0,_),(2,_),(7,_),(10,_),(11,_),(12,_),(13,B (decide (x_3 < (bodies0.length:Int))))],[(1,_),(2,_),(102,_)]⟩ rfl (ab.seq (ab.ite h4 rfl (fun _ h4=>?_) (fun _ h4=>?_))))
  ·refine ab.skip (Fin.ah ⟨[(0,_),(2,_),(7,_),(10,_),(11,_),(12,_)],[(1,_),(2,_),(102,_)]⟩ rfl (Fin.then ?_))
   obtain ⟨v6,h7,h4⟩:=aR h4
   refine ab.cJ (v:=v6) (fun (out_5:List Int)=>⟨[(0,Pt 1 0),(2,I region0),(7,.b (.row 102)),(10,.b (.one (.sl 1 (bodies0.map eI)))),(11,I (bodies0.length:Int)),(12,I x_3)],[(1,.aO 95 [.one (.i n0r.Me),.one (.i n0r.Regions),.one (.i n0r.Step),.one (.sl 1 (n0r.Home.map eI)),.one (.sl 1 (n0r.Heard.map eB)),.one (.sl 1 (n0r.Sets.map (eL 1 eI))),.one (.sl 1 (n0r.States.map eS)),.one (.sl 3 (n0r.Tasks.map an)),.one (.sl 1 (n0r.Done.map eB)),.one (.sl 1 (n0r.Results.map eS)),.row 2]),(2,.row 42 7 (n0out.map af)),(102,.row 3 1 (out_5.map eI))]⟩) (fun z=>z) ?_ ?_
   ·refine ab.block (ab.seq (ab.aa ?_))
    obtain ⟨x_6,e8,h7⟩:=aR h7
    refine Oc (ar ba (aK e8) (aE (e:=eI) e8) rfl rfl) (Oc (aw aP rfl rfl) (Oc oa ?_))
    refine ae.ak ⟨[(0,_),(2,_),(7,_),(9,I x_6),(10,_),(11,_),(12,_)],[(1,_),(2,_),(102,_)]⟩ rfl (ab.seq (ab.aa ?_))
    refine Oc om (Oc (aA rfl) (Oc (ag aY rfl rfl) (Oc (ag iH rfl rfl) (Oc (aS bx rfl rfl rfl) (Oc om ?_)))))
    obtain ⟨x_7,e9,h7⟩:=aR h7
    refine Oc (ar ba (aK e9) (aE (e:=eI) e9) rfl rfl) (ae.ah ⟨[(0,_),(2,_),(7,_),(9,_),(10,_),(11,_),(12,_),(22,.b (.dS [.i x_7]))],[(1,_),(2,_),(102,_)]⟩ rfl (Oc (aw aP rfl rfl) (Oc om (Oc (dT rfl rfl) ?_))))
    refine ae.ak ⟨[(0,_),(2,_),(7,_),(9,_),(10,_),(11,_),(12,_),(25,B (decide (x_7 = region0)))],[(1,_),(2,_),(102,_)]⟩ rfl (ab.ite h7 rfl (fun _ h7=>?_) (fun _ h7=>?_))
    ·refine ab.aa (Oc om (Oc om (Oc (aN (k:=103) (es:=[x_6].map eI) ba rfl rfl (bw fun _=>rfl) rfl (by decide) (by decide) rfl) ?_)))
     obtain ⟨x_8,e10,h7⟩:=aR h7
     refine Oc (dx ba (gn e10) (gm e10) rfl rfl rfl rfl (dt e10) rfl) (Oc oa ?_)
     refine ae.nil (Fin.ax ?_)
     exact Fin.join [0,2,7,10,11,12] [1,2,102] x_8 (Option.some.inj h7) rfl
    ·refine ab.skip (Fin.ax ?_)
     exact Fin.join [0,2,7,10,11,12] [1,2,102] out_2 (Option.some.inj h7) rfl
   ·rintro out_5 hv
    subst v6
    refine ab.aa (Oc (bq rfl rfl) (Oc om ?_))
    refine ae.nil ?_
    exact Fin.bK [0,2,7,10,11,12] [1,2,102] (out_5,IntKind.i64.wrap (x_3 + 1)) (Option.some.inj h4) rfl
  ·refine ab.exit (Fin.ao ?_)
   obtain rfl:=hy5 _ (Option.some.inj h4).symm
   refine Fin.ao (Fin.aI ?_)
   exact Fin.join [7] [1,2,102] out_2 rfl rfl
 ·rintro out_1 hv
  subst v1
  refine ab.seq (ab.aa ?_)
  refine Oc om (Oc oa ?_)
  refine ae.ak ⟨[(6,.b (.row 102))],[(1,_),(2,_),(102,_)]⟩ rfl (ab.ret ?_)
  obtain rfl:=Option.some.inj h
  refine Fin.ah ⟨[(6,.b (.row 102))],[(1,.aO 95 [.one (.i n0r.Me),.one (.i n0r.Regions),.one (.i n0r.Step),.one (.sl 1 (n0r.Home.map eI)),.one (.sl 1 (n0r.Heard.map eB)),.one (.sl 1 (n0r.Sets.map (eL 1 eI))),.one (.sl 1 (n0r.States.map eS)),.one (.sl 3 (n0r.Tasks.map an)),.one (.sl 1 (n0r.Done.map eB)),.one (.sl 1 (n0r.Results.map eS)),.row 2]),(2,.row 42 7 (n0out.map af)),(102,.row 3 1 (out_1.map eI))]⟩ rfl (Fin.rename 102 51 rfl (by decide) rfl (Fin.ah ⟨[(6,.b (.row 51))],[(1,_),(2,_),(51,.row 3 1 (out_1.map eI))]⟩ rfl ?_))
  exact Fin.result [.row 51] (.inl rfl) rfl (.cons (.tmp rfl) .nil) ⟨rfl,rfl⟩
def c9 (F:Nat) (bodies0:List Int) (region0:Int) (n0r:Round) (n0out:List au):Option (List Int) :=
 Option.bind (iter F (eD fun out_2 x_3=>if (decide (x_3 < (bodies0.length:Int))) = true then (Option.bind ((aT bodies0 x_3).bind fun x_6=>(aT n0r.Home x_6).bind fun x_7=>if (decide (x_7 = region0)) = true then ((dF out_2 [x_6]).bind fun x_8=>some x_8) else (some out_2)) (fun out_5=>some (.inl (out_5,IntKind.i64.wrap (x_3 + 1))))) else (some (.inr out_2))) ([],0)) (fun out_1=>some out_1)
theorem mY {F:Nat} {bodies0:List Int} {region0:Int} {n0r:Round} {n0out:List au} {r:(List Int)} (h:c9 F bodies0 region0 n0r n0out = some r):aC Try.prog [] 55 [(1,.aO 95 [.one (.i n0r.Me),.one (.i n0r.Regions),.one (.i n0r.Step),.one (.sl 1 (n0r.Home.map eI)),.one (.sl 1 (n0r.Heard.map eB)),.one (.sl 1 (n0r.Sets.map (eL 1 eI))),.one (.sl 1 (n0r.States.map eS)),.one (.sl 3 (n0r.Tasks.map an)),.row 3,.row 4,.row 2]),(2,.row 42 7 (n0out.map af)),(3,.row 4 1 (n0r.Done.map eB)),(4,.row 9 1 (n0r.Results.map eS))] [.ptr 1 0,.one (.sl 1 (bodies0.map eI)),.one (.i region0)] (Is [(1,.aO 95 [.one (.i n0r.Me),.one (.i n0r.Regions),.one (.i n0r.Step),.one (.sl 1 (n0r.Home.map eI)),.one (.sl 1 (n0r.Heard.map eB)),.one (.sl 1 (n0r.Sets.map (eL 1 eI))),.one (.sl 1 (n0r.States.map eS)),.one (.sl 3 (n0r.Tasks.map an)),.row 3,.row 4,.row 2]),(2,.row 42 7 (n0out.map af)),(3,.row 4 1 (n0r.Done.map eB)),(4,.row 9 1 (n0r.Results.map eS)),(51,.row 3 1 (r.map eI))] (.b (.row 51))):=by
 unfold c9 at h
 refine aC.intro 32 Try.func55 Try.ntmps55 rfl (by simp) fun E=>?_
 show ab _ E ⟨32,[1],[1,2,3,4],[]⟩ _ ⟨[(0,Pt 1 0),(1,.b (.one (.sl 1 (bodies0.map eI)))),(2,I region0)],[(1,.aO 95 [.one (.i n0r.Me),.one (.i n0r.Regions),.one (.i n0r.Step),.one (.sl 1 (n0r.Home.map eI)),.one (.sl 1 (n0r.Heard.map eB)),.one (.sl 1 (n0r.Sets.map (eL 1 eI))),.one (.sl 1 (n0r.States.map eS)),.one (.sl 3 (n0r.Tasks.map an)),.row 3,.row 4,.row 2]),(2,.row 42 7 (n0out.map af)),(3,.row 4 1 (n0r.Done.map eB)),(4,.row 9 1 (n0r.Results.map eS))]⟩ _
 refine ab.seq (ab.aa ?_)
 refine Oc oa (ae.ak ⟨[(0,Pt 1 0),(1,.b (.one (.sl 1 (bodies0.map eI)))),(2,I region0)],[(1,.aO 95 [.one (.i n0r.Me),.one (.i n0r.Regions),.one (.i n0r.Step),.one (.sl 1 (n0r.Home.map eI)),.one (.sl 1 (n0r.Heard.map eB)),.one (.sl 1 (n0r.Sets.map (eL 1 eI))),.one (.sl 1 (n0r.States.map eS)),.one (.sl 3 (n0r.Tasks.map an)),.row 3,.row 4,.row 2]),(2,.row 42 7 (n0out.map af)),(3,.row 4 1 (n0r.Done.map eB)),(4,.row 9 1 (n0r.Results.map eS))]⟩ rfl (ab.seq (ab.aa ?_)))
 refine Oc oa (ae.ak ⟨[(0,_),(1,_),(2,_),(7,.b (.one (.nil)))],[(1,_),(2,_),(3,_),(4,_)]⟩ rfl ?_)
 obtain ⟨v1,h2,h⟩:=aR h
 refine ab.cJ (v:=v1) (fun (out_1:List Int)=>⟨[(7,.b (.row 102))],[(1,.aO 95 [.one (.i n0r.Me),.one (.i n0r.Regions),.one (.i n0r.Step),.one (.sl 1 (n0r.Home.map eI)),.one (.sl 1 (n0r.Heard.map eB)),.one (.sl 1 (n0r.Sets.map (eL 1 eI))),.one (.sl 1 (n0r.States.map eS)),.one (.sl 3 (n0r.Tasks.map an)),.row 3,.row 4,.row 2]),(2,.row 42 7 (n0out.map af)),(3,.row 4 1 (n0r.Done.map eB)),(4,.row 9 1 (n0r.Results.map eS)),(102,.row 3 1 (out_1.map eI))]⟩) (fun z=>z) ?_ ?_
 ·refine ab.seq (ab.aa ?_)
  refine Oc om (Oc (ay cc rfl (List.length_map _)) (Oc om ?_))
  refine ae.ak ⟨[(0,_),(2,_),(7,_),(10,.b (.one (.sl 1 (bodies0.map eI)))),(11,I (bodies0.length:Int)),(12,I 0)],[(1,_),(2,_),(3,_),(4,_)]⟩ rfl (ab.block (ab.cT 7 102 1 3 rfl (by decide) rfl (ab.ct h2 (eD fun (out_2:List Int) (x_3:Int)=>⟨[(0,Pt 1 0),(2,I region0),(7,.b (.row 102)),(10,.b (.one (.sl 1 (bodies0.map eI)))),(11,I (bodies0.length:Int)),(12,I x_3)],[(1,.aO 95 [.one (.i n0r.Me),.one (.i n0r.Regions),.one (.i n0r.Step),.one (.sl 1 (n0r.Home.map eI)),.one (.sl 1 (n0r.Heard.map eB)),.one (.sl 1 (n0r.Sets.map (eL 1 eI))),.one (.sl 1 (n0r.States.map eS)),.one (.sl 3 (n0r.Tasks.map an)),.row 3,.row 4,.row 2]),(2,.row 42 7 (n0out.map af)),(3,.row 4 1 (n0r.Done.map eB)),(4,.row 9 1 (n0r.Results.map eS)),(102,.row 3 1 (out_2.map eI))]⟩) [0,2,7,10,11,12] [1,2,3,4,102] rfl ?_)))
  rintro ⟨out_2,x_3⟩ o3 h4 hy5
  refine ab.seq (ab.aa ?_)
  refine Oc (bm rfl rfl) (ae.ak ⟨[(0,_),(2,_),(7,_),(10,_),(11,_),(12,_),(13,B (decide (x_3 < (bodies0.length:Int))))],[(1,_),(2,_),(3,_),(4,_),(102,_)]⟩ rfl (ab.seq (ab.ite h4 rfl (fun _ h4=>?_) (fun _ h4=>?_))))
  ·refine ab.skip (Fin.ah ⟨[(0,_),(2,_),(7,_),(10,_),(11,_),(12,_)],[(1,_),(2,_),(3,_),(4,_),(102,_)]⟩ rfl (Fin.then ?_))
   obtain ⟨v6,h7,h4⟩:=aR h4
   refine ab.cJ (v:=v6) (fun (out_5:List Int)=>⟨[(0,Pt 1 0),(2,I region0),(7,.b (.row 102)),(10,.b (.one (.sl 1 (bodies0.map eI)))),(11,I (bodies0.length:Int)),(12,I x_3)],[(1,.aO 95 [.one (.i n0r.Me),.one (.i n0r.Regions),.one (.i n0r.Step),.one (.sl 1 (n0r.Home.map eI)),.one (.sl 1 (n0r.Heard.map eB)),.one (.sl 1 (n0r.Sets.map (eL 1 eI))),.one (.sl 1 (n0r.States.map eS)),.one (.sl 3 (n0r.Tasks.map an)),.row 3,.row 4,.row 2]),(2,.row 42 7 (n0out.map af)),(3,.row 4 1 (n0r.Done.map eB)),(4,.row 9 1 (n0r.Results.map eS)),(102,.row 3 1 (out_5.map eI))]⟩) (fun z=>z) ?_ ?_
   ·refine ab.block (ab.seq (ab.aa ?_))
    obtain ⟨x_6,e8,h7⟩:=aR h7
    refine Oc (ar ba (aK e8) (aE (e:=eI) e8) rfl rfl) (Oc (aw aP rfl rfl) (Oc oa ?_))
    refine ae.ak ⟨[(0,_),(2,_),(7,_),(9,I x_6),(10,_),(11,_),(12,_)],[(1,_),(2,_),(3,_),(4,_),(102,_)]⟩ rfl (ab.seq (ab.aa ?_))
    refine Oc om (Oc (aA rfl) (Oc (ag aY rfl rfl) (Oc (ag iH rfl rfl) (Oc (aS bx rfl rfl rfl) (Oc om ?_)))))
    obtain ⟨x_7,e9,h7⟩:=aR h7
    refine Oc (ar ba (aK e9) (aE (e:=eI) e9) rfl rfl) (ae.ah ⟨[(0,_),(2,_),(7,_),(9,_),(10,_),(11,_),(12,_),(22,.b (.dS [.i x_7]))],[(1,_),(2,_),(3,_),(4,_),(102,_)]⟩ rfl (Oc (aw aP rfl rfl) (Oc om (Oc (dT rfl rfl) ?_))))
    refine ae.ak ⟨[(0,_),(2,_),(7,_),(9,_),(10,_),(11,_),(12,_),(25,B (decide (x_7 = region0)))],[(1,_),(2,_),(3,_),(4,_),(102,_)]⟩ rfl (ab.ite h7 rfl (fun _ h7=>?_) (fun _ h7=>?_))
    ·refine ab.aa (Oc om (Oc om (Oc (aN (k:=103) (es:=[x_6].map eI) ba rfl rfl (bw fun _=>rfl) rfl (by decide) (by decide) rfl) ?_)))
     obtain ⟨x_8,e10,h7⟩:=aR h7
     refine Oc (dx ba (gn e10) (gm e10) rfl rfl rfl rfl (dt e10) rfl) (Oc oa ?_)
     refine ae.nil (Fin.ax ?_)
     exact Fin.join [0,2,7,10,11,12] [1,2,3,4,102] x_8 (Option.some.inj h7) rfl
    ·refine ab.skip (Fin.ax ?_)
     exact Fin.join [0,2,7,10,11,12] [1,2,3,4,102] out_2 (Option.some.inj h7) rfl
   ·rintro out_5 hv
    subst v6
    refine ab.aa (Oc (bq rfl rfl) (Oc om ?_))
    refine ae.nil ?_
    exact Fin.bK [0,2,7,10,11,12] [1,2,3,4,102] (out_5,IntKind.i64.wrap (x_3 + 1)) (Option.some.inj h4) rfl
  ·refine ab.exit (Fin.ao ?_)
   obtain rfl:=hy5 _ (Option.some.inj h4).symm
   refine Fin.ao (Fin.aI ?_)
   exact Fin.join [7] [1,2,3,4,102] out_2 rfl rfl
 ·rintro out_1 hv
  subst v1
  refine ab.seq (ab.aa ?_)
  refine Oc om (Oc oa ?_)
  refine ae.ak ⟨[(6,.b (.row 102))],[(1,_),(2,_),(3,_),(4,_),(102,_)]⟩ rfl (ab.ret ?_)
  obtain rfl:=Option.some.inj h
  refine Fin.ah ⟨[(6,.b (.row 102))],[(1,.aO 95 [.one (.i n0r.Me),.one (.i n0r.Regions),.one (.i n0r.Step),.one (.sl 1 (n0r.Home.map eI)),.one (.sl 1 (n0r.Heard.map eB)),.one (.sl 1 (n0r.Sets.map (eL 1 eI))),.one (.sl 1 (n0r.States.map eS)),.one (.sl 3 (n0r.Tasks.map an)),.row 3,.row 4,.row 2]),(2,.row 42 7 (n0out.map af)),(3,.row 4 1 (n0r.Done.map eB)),(4,.row 9 1 (n0r.Results.map eS)),(102,.row 3 1 (out_1.map eI))]⟩ rfl (Fin.rename 102 51 rfl (by decide) rfl (Fin.ah ⟨[(6,.b (.row 51))],[(1,_),(2,_),(3,_),(4,_),(51,.row 3 1 (out_1.map eI))]⟩ rfl ?_))
  exact Fin.result [.row 51] (.inl rfl) rfl (.cons (.tmp rfl) .nil) ⟨rfl,rfl⟩
def cV (F:Nat) (all0:List Str) (bodies0:List Int):Option (List Str) :=
 Option.bind (iter F (eD fun out_2 x_3=>if (decide (x_3 < (bodies0.length:Int))) = true then ((aT bodies0 x_3).bind fun x_5=>(aT all0 x_5).bind fun x_6=>(dF out_2 [x_6]).bind fun x_7=>some (.inl (x_7,IntKind.i64.wrap (x_3 + 1)))) else (some (.inr out_2))) ([],0)) (fun out_1=>some out_1)
theorem iO (kr0:Nat) {F:Nat} {all0:List Str} {bodies0:List Int} {r:(List Str)} (h:cV F all0 bodies0 = some r):aC Try.prog [] 56 [] [.one (.sl 1 (all0.map eS)),.one (.sl 1 (bodies0.map eI))] (Is [(kr0,.row 9 1 (r.map eS))] (.b (.row kr0))):=by
 unfold cV at h
 refine aC.intro 23 Try.func56 Try.ntmps56 rfl (by simp) fun E=>?_
 show ab _ E ⟨23,[],[],[]⟩ _ ⟨[(0,.b (.one (.sl 1 (all0.map eS)))),(1,.b (.one (.sl 1 (bodies0.map eI))))],[]⟩ _
 refine ab.seq (ab.aa ?_)
 refine Oc oa (ae.ak ⟨[(0,.b (.one (.sl 1 (all0.map eS)))),(1,.b (.one (.sl 1 (bodies0.map eI))))],[]⟩ rfl (ab.seq (ab.aa ?_)))
 refine Oc oa (ae.ak ⟨[(0,_),(1,_),(5,.b (.one (.nil)))],[]⟩ rfl ?_)
 obtain ⟨v1,h2,h⟩:=aR h
 refine ab.cJ (v:=v1) (fun (out_1:List Str)=>⟨[(5,.b (.row 102))],[(102,.row 9 1 (out_1.map eS))]⟩) (fun z=>z) ?_ ?_
 ·refine ab.seq (ab.aa ?_)
  refine Oc om (Oc (ay cc rfl (List.length_map _)) (Oc om ?_))
  refine ae.ak ⟨[(0,_),(5,_),(8,.b (.one (.sl 1 (bodies0.map eI)))),(9,I (bodies0.length:Int)),(10,I 0)],[]⟩ rfl (ab.block (ab.cT 5 102 1 9 rfl (by decide) rfl (ab.ct h2 (eD fun (out_2:List Str) (x_3:Int)=>⟨[(0,.b (.one (.sl 1 (all0.map eS)))),(5,.b (.row 102)),(8,.b (.one (.sl 1 (bodies0.map eI)))),(9,I (bodies0.length:Int)),(10,I x_3)],[(102,.row 9 1 (out_2.map eS))]⟩) [0,5,8,9,10] [102] rfl ?_)))
  rintro ⟨out_2,x_3⟩ o3 h4 hy5
  refine ab.seq (ab.aa ?_)
  refine Oc (bm rfl rfl) (ae.ak ⟨[(0,_),(5,_),(8,_),(9,_),(10,_),(11,B (decide (x_3 < (bodies0.length:Int))))],[(102,_)]⟩ rfl (ab.seq (ab.ite h4 rfl (fun _ h4=>?_) (fun _ h4=>?_))))
  ·refine ab.skip (Fin.ah ⟨[(0,_),(5,_),(8,_),(9,_),(10,_)],[(102,_)]⟩ rfl (Fin.then (ab.seq (ab.block (ab.seq (ab.aa ?_))))))
   obtain ⟨x_5,e6,h4⟩:=aR h4
   refine Oc (ar ba (aK e6) (aE (e:=eI) e6) rfl rfl) (Oc (aw aP rfl rfl) (Oc oa ?_))
   refine ae.ak ⟨[(0,_),(5,_),(7,I x_5),(8,_),(9,_),(10,_)],[(102,_)]⟩ rfl (ab.aa (Oc om (Oc om (Oc om ?_))))
   obtain ⟨x_6,e7,h4⟩:=aR h4
   refine Oc (ar cS (aK e7) (aE (e:=eS) e7) rfl rfl) (Oc (aw gI rfl rfl) (Oc (aN (k:=103) (es:=[x_6].map eS) cS rfl rfl (bw fun _=>rfl) rfl (by decide) (by decide) rfl) ?_))
   obtain ⟨x_7,e8,h4⟩:=aR h4
   refine Oc (dx cS (gn e8) (gm e8) rfl rfl rfl rfl (dt e8) rfl) (Oc oa ?_)
   refine ae.nil (Fin.ax (Fin.ah ⟨[(0,_),(5,_),(8,_),(9,_),(10,_)],[(102,.row 9 1 (x_7.map eS))]⟩ rfl (Fin.then (ab.aa ?_))))
   refine Oc (bq rfl rfl) (Oc om ?_)
   refine ae.nil ?_
   exact Fin.bK [0,5,8,9,10] [102] (x_7,IntKind.i64.wrap (x_3 + 1)) (Option.some.inj h4) rfl
  ·refine ab.exit (Fin.ao ?_)
   obtain rfl:=hy5 _ (Option.some.inj h4).symm
   refine Fin.ao (Fin.aI ?_)
   exact Fin.join [5] [102] out_2 rfl rfl
 ·rintro out_1 hv
  subst v1
  refine ab.seq (ab.aa ?_)
  refine Oc om (Oc oa ?_)
  refine ae.ak ⟨[(4,.b (.row 102))],[(102,_)]⟩ rfl (ab.ret ?_)
  obtain rfl:=Option.some.inj h
  refine Fin.ah ⟨[(4,_)],[(102,_)]⟩ rfl (Fin.dr 102 kr0 [.row 102] (.inl rfl) rfl (.cons (.tmp rfl) .nil) rfl rfl rfl rfl ⟨rfl,rfl⟩)
def b8 (F:Nat) (n0r:Round) (n0out:List au):Option (Round × (List au)) :=
 (b6 F n0r.Heard false).bind fun x_1=>if x_1 = true then (some (n0r,n0out)) else ((cW F n0r.Home n0r.Sets).bind fun x_2=>Option.bind (mk? (false:Bool) (x_2.length:Int) (x_2.length:Int)) (fun x_3=>Option.bind (iter F (eD fun out_4 x_5=>if (decide (x_5 < (x_2.length:Int))) = true then (Option.bind ((aT x_2 x_5).bind fun x_8=>(cA F x_8.Bodies n0r.Me (⟨n0r.Me,n0r.Regions,n0r.Step,n0r.Home,n0r.Heard,n0r.Sets,n0r.States,x_2,x_3,n0r.Results⟩:Round) out_4).bind fun x_9=>if ((decide (x_8.Owner ≠ n0r.Me)) && (decide (0 < (x_9.length:Int)))) = true then ((cV F n0r.States x_9).bind fun x_10=>(b7 F (⟨2,0,0,x_8.Owner,[],x_9,x_10⟩:au) (⟨n0r.Me,n0r.Regions,n0r.Step,n0r.Home,n0r.Heard,n0r.Sets,n0r.States,x_2,x_3,n0r.Results⟩:Round) out_4).bind fun x_11=>some x_11) else (some out_4)) (fun out_7=>some (.inl (out_7,IntKind.i64.wrap (x_5 + 1))))) else (some (.inr out_4))) (n0out,0)) (fun out_6=>some ((⟨n0r.Me,n0r.Regions,n0r.Step,n0r.Home,n0r.Heard,n0r.Sets,n0r.States,x_2,x_3,n0r.Results⟩:Round),out_6))))
theorem jq {F:Nat} {n0r:Round} {n0out:List au} {r:Round × (List au)} (h:b8 F n0r n0out = some r):aC Try.prog [] 44 [(1,.aO 95 [.one (.i n0r.Me),.one (.i n0r.Regions),.one (.i n0r.Step),.one (.sl 1 (n0r.Home.map eI)),.one (.sl 1 (n0r.Heard.map eB)),.one (.sl 1 (n0r.Sets.map (eL 1 eI))),.one (.sl 1 (n0r.States.map eS)),.one (.sl 3 (n0r.Tasks.map an)),.one (.sl 1 (n0r.Done.map eB)),.one (.sl 1 (n0r.Results.map eS)),.row 2]),(2,.row 42 7 (n0out.map af))] [.ptr 1 0] (Is [(1,.aO 95 [.one (.i r.1.Me),.one (.i r.1.Regions),.one (.i r.1.Step),.one (.sl 1 (r.1.Home.map eI)),.one (.sl 1 (r.1.Heard.map eB)),.one (.sl 1 (r.1.Sets.map (eL 1 eI))),.one (.sl 1 (r.1.States.map eS)),.one (.sl 3 (r.1.Tasks.map an)),.one (.sl 1 (r.1.Done.map eB)),.one (.sl 1 (r.1.Results.map eS)),.row 2]),(2,.row 42 7 (r.2.map af))] (.fa [])):=by
 unfold b8 at h
 refine aC.intro 83 Try.func44 Try.ntmps44 rfl (by simp) fun E=>?_
 show ab _ E ⟨83,[1],[1,2],[]⟩ _ ⟨[(0,Pt 1 0)],[(1,.aO 95 [.one (.i n0r.Me),.one (.i n0r.Regions),.one (.i n0r.Step),.one (.sl 1 (n0r.Home.map eI)),.one (.sl 1 (n0r.Heard.map eB)),.one (.sl 1 (n0r.Sets.map (eL 1 eI))),.one (.sl 1 (n0r.States.map eS)),.one (.sl 3 (n0r.Tasks.map an)),.one (.sl 1 (n0r.Done.map eB)),.one (.sl 1 (n0r.Results.map eS)),.row 2]),(2,.row 42 7 (n0out.map af))]⟩ _
 refine ab.seq (ab.seq (ab.aa ?_))
 refine Oc om (Oc (aA rfl) (Oc (ag aY rfl rfl) (Oc (ag gX rfl rfl) (Oc (aS fc rfl rfl rfl) ?_))))
 obtain ⟨x_1,e1,h⟩:=aR h
 refine Oc (aH (fT e1) ux rfl rfl) (ae.ak ⟨[(0,Pt 1 0),(10,B x_1)],[(1,.aO 95 [.one (.i n0r.Me),.one (.i n0r.Regions),.one (.i n0r.Step),.one (.sl 1 (n0r.Home.map eI)),.one (.sl 1 (n0r.Heard.map eB)),.one (.sl 1 (n0r.Sets.map (eL 1 eI))),.one (.sl 1 (n0r.States.map eS)),.one (.sl 3 (n0r.Tasks.map an)),.one (.sl 1 (n0r.Done.map eB)),.one (.sl 1 (n0r.Results.map eS)),.row 2]),(2,.row 42 7 (n0out.map af))]⟩ rfl (ab.ite h rfl (fun _ h=>?_) (fun _ h=>?_)))
 ·refine ab.ret (Fin.aq ?_)
  obtain rfl:=Option.some.inj h
  refine Fin.ah ⟨[],[(1,_),(2,_)]⟩ rfl ?_
  exact Fin.result [] (.inl rfl) rfl (.nil) ⟨rfl,rfl⟩
 ·refine ab.skip (Fin.ah ⟨[(0,_)],[(1,_),(2,_)]⟩ rfl (Fin.then (ab.seq ?_)))
  refine ab.ah ⟨[(0,_)],[(1,_),(2,_)]⟩ rfl ?_
  obtain ⟨x_2,e2,h⟩:=aR h
  refine ab.fe mixed 15 [Pt 1 0,Pt 1 0,Pt 1 0,Pt 1 0,Pt 1 3,.b (.one (.sl 1 (n0r.Home.map eI))),Pt 1 0,Pt 1 0,Pt 1 0,Pt 1 5,.b (.one (.sl 1 (n0r.Sets.map (eL 1 eI)))),.b (.one (.sl 3 (x_2.map an))),Pt 1 0,Pt 1 0,Pt 1 7] [0] [1,2] (s':=⟨[(0,_)],[(1,.aO 95 [.one (.i n0r.Me),.one (.i n0r.Regions),.one (.i n0r.Step),.one (.sl 1 (n0r.Home.map eI)),.one (.sl 1 (n0r.Heard.map eB)),.one (.sl 1 (n0r.Sets.map (eL 1 eI))),.one (.sl 1 (n0r.States.map eS)),.one (.sl 3 (x_2.map an)),.one (.sl 1 (n0r.Done.map eB)),.one (.sl 1 (n0r.Results.map eS)),.row 2]),(2,_)]⟩) rfl ⟨fun _=>.p om,fun _=>.p om,fun _=>.p (aA rfl),fun _=>.p (ag aY rfl rfl),fun _=>.p (ag iH rfl rfl),fun _=>.p (aS bx rfl rfl rfl),fun _=>.p om,fun _=>.p (aA rfl),fun _=>.p (ag aY rfl rfl),fun _=>.p (ag nc rfl rfl),fun _=>.p (aS gF rfl rfl rfl),fun _=>.p (aH (ly 0 e2).iB xM rfl rfl),fun _=>.p (aA rfl),fun _=>.p (ag aY rfl rfl),fun _=>.p (ag dB rfl rfl),trivial⟩ ⟨_,by exact .p (ed fG rfl rfl rfl rfl (Nat.le_of_ble_eq_true rfl) rfl),rfl⟩ rfl (ab.seq (ab.aa ?_))
  refine Oc om (Oc om (Oc (aA rfl) (Oc (ag aY rfl rfl) (Oc (ag dB rfl rfl) (Oc (aS fG rfl rfl rfl) ?_)))))
  refine ae.ah ⟨[(0,_),(26,Pt 1 0),(31,.b (.one (.sl 3 (x_2.map an))))],[(1,_),(2,_)]⟩ rfl (Oc (ay nE rfl (List.length_map _)) ?_)
  obtain ⟨x_3,e3,h⟩:=aR h
  refine Oc (ee (k:=102) (enc:=eB) iE e3 (by decide) (.cons .refl .nil) rfl rfl rfl) (Oc (aA rfl) (Oc (ag aY rfl rfl) (Oc (ag iG rfl rfl) ?_)))
  refine ae.br 102 rfl (Oc (ed fc rfl rfl rfl rfl (Nat.le_of_ble_eq_true rfl) rfl) (ae.ak ⟨[(0,Pt 1 0)],[(1,.aO 95 [.one (.i n0r.Me),.one (.i n0r.Regions),.one (.i n0r.Step),.one (.sl 1 (n0r.Home.map eI)),.one (.sl 1 (n0r.Heard.map eB)),.one (.sl 1 (n0r.Sets.map (eL 1 eI))),.one (.sl 1 (n0r.States.map eS)),.one (.sl 3 (x_2.map an)),.one (.sl 1 (x_3.map eB)),.one (.sl 1 (n0r.Results.map eS)),.row 2]),(2,.row 42 7 (n0out.map af))]⟩ rfl (ab.seq (ab.aa ?_))))
  refine Oc om (Oc (aA rfl) (Oc (ag aY rfl rfl) (Oc (ag dB rfl rfl) (Oc (aS fG rfl rfl rfl) (Oc (ay nE rfl (List.length_map _)) ?_)))))
  refine Oc om (ae.ak ⟨[(0,_),(41,.b (.one (.sl 3 (x_2.map an)))),(42,I (x_2.length:Int)),(43,I 0)],[(1,_),(2,_)]⟩ rfl (ab.block ?_))
  obtain ⟨v4,h5,h⟩:=aR h
  refine ab.ct h5 (eD fun (out_4:List au) (x_5:Int)=>⟨[(0,Pt 1 0),(41,.b (.one (.sl 3 (x_2.map an)))),(42,I (x_2.length:Int)),(43,I x_5)],[(1,.aO 95 [.one (.i n0r.Me),.one (.i n0r.Regions),.one (.i n0r.Step),.one (.sl 1 (n0r.Home.map eI)),.one (.sl 1 (n0r.Heard.map eB)),.one (.sl 1 (n0r.Sets.map (eL 1 eI))),.one (.sl 1 (n0r.States.map eS)),.one (.sl 3 (x_2.map an)),.one (.sl 1 (x_3.map eB)),.one (.sl 1 (n0r.Results.map eS)),.row 2]),(2,.row 42 7 (out_4.map af))]⟩) [0,41,42,43] [1,2] rfl ?_
  rintro ⟨out_4,x_5⟩ o6 h7 hy8
  refine ab.seq (ab.aa ?_)
  refine Oc (bm rfl rfl) (ae.ak ⟨[(0,_),(41,_),(42,_),(43,_),(44,B (decide (x_5 < (x_2.length:Int))))],[(1,_),(2,_)]⟩ rfl (ab.seq (ab.ite h7 rfl (fun _ h7=>?_) (fun _ h7=>?_))))
  ·refine ab.skip (Fin.ah ⟨[(0,_),(41,_),(42,_),(43,_)],[(1,_),(2,_)]⟩ rfl (Fin.then ?_))
   obtain ⟨v9,h10,h7⟩:=aR h7
   refine ab.cJ (v:=v9) (fun (out_7:List au)=>⟨[(0,Pt 1 0),(41,.b (.one (.sl 3 (x_2.map an)))),(42,I (x_2.length:Int)),(43,I x_5)],[(1,.aO 95 [.one (.i n0r.Me),.one (.i n0r.Regions),.one (.i n0r.Step),.one (.sl 1 (n0r.Home.map eI)),.one (.sl 1 (n0r.Heard.map eB)),.one (.sl 1 (n0r.Sets.map (eL 1 eI))),.one (.sl 1 (n0r.States.map eS)),.one (.sl 3 (x_2.map an)),.one (.sl 1 (x_3.map eB)),.one (.sl 1 (n0r.Results.map eS)),.row 2]),(2,.row 42 7 (out_7.map af))]⟩) (fun z=>z) ?_ ?_
   ·refine ab.block (ab.seq (ab.aa ?_))
    obtain ⟨x_8,e11,h10⟩:=aR h10
    refine Oc (ar gu (aK e11) (aE (e:=an) e11) rfl rfl) (Oc (jH jy rfl rfl rfl) (Oc (dN (k:=103) oJ rfl) (Oc (bD jy rfl rfl rfl rfl (Nat.le_of_ble_eq_true rfl) rfl) ?_)))
    refine ae.ak ⟨[(0,_),(3,Pt 103 0),(41,_),(42,_),(43,_)],[(1,_),(2,_),(103,.box 59 (an x_8))]⟩ rfl (ab.seq ?_)
    obtain ⟨x_9,e12,h10⟩:=aR h10
    refine ab.fe mixed 8 [Pt 1 0,Pt 103 1,.b (.one (.sl 1 (x_8.Bodies.map eI))),Pt 1 0,Pt 1 0,Pt 1 0,Pt 1 0,I n0r.Me] [0,3,4,41,42,43] [1,2,103,104] (s':=⟨[(0,_),(3,_),(4,.b (.row 104)),(41,_),(42,_),(43,_)],[(1,_),(2,_),(103,_),(104,.row 3 1 (x_9.map eI))]⟩) rfl ⟨fun _=>.p om,fun _=>.p (ag dW rfl rfl),fun _=>.p (av bx rfl rfl rfl),fun _=>.p om,fun _=>.p (aA rfl),fun _=>.p (ag aY rfl rfl),fun _=>.p (ag eV rfl rfl),fun _=>.p (aS aP rfl rfl rfl),trivial⟩ ⟨_,by exact .p (bJ (own_a:=[(1,_),(2,_)]) ((gR e12).sw 51 104) su rfl ⟨rfl,rfl,trivial⟩ rfl rfl),⟨_,by exact .p oa,rfl⟩⟩ rfl (ab.seq (ab.ah ⟨[(0,_),(3,_),(4,_),(41,_),(42,_),(43,_)],[(1,_),(2,_),(103,_),(104,_)]⟩ rfl (ab.fe mixed 13 [Pt 103 0,I x_8.Owner,Pt 1 0,Pt 1 0,Pt 1 0,Pt 1 0,I n0r.Me,B (decide (x_8.Owner ≠ n0r.Me)),B (decide (x_8.Owner ≠ n0r.Me)),.opt (decide (x_8.Owner ≠ n0r.Me)) (.row 104),.opt (decide (x_8.Owner ≠ n0r.Me)) (.one (.i (x_9.length:Int))),.opt (decide (x_8.Owner ≠ n0r.Me)) (.one (.bool (decide (0 < (x_9.length:Int))))),B ((decide (x_8.Owner ≠ n0r.Me)) && (decide (0 < (x_9.length:Int))))] [0,3,4,41,42,43,68] [1,2,103,104] (s':=⟨[(0,_),(3,_),(4,_),(41,_),(42,_),(43,_),(68,B ((decide (x_8.Owner ≠ n0r.Me)) && (decide (0 < (x_9.length:Int)))))],[(1,_),(2,_),(103,_),(104,_)]⟩) rfl ⟨fun _=>.p (ag iF rfl rfl),fun _=>.p (av aP rfl rfl rfl),fun _=>.p om,fun _=>.p (aA rfl),fun _=>.p (ag aY rfl rfl),fun _=>.p (ag eV rfl rfl),fun _=>.p (aS aP rfl rfl rfl),fun _=>.p (dg rfl rfl),fun _=>.p om,fun _=>by exact .guard (decide (x_8.Owner ≠ n0r.Me)) 1 [] (.plain rfl) (dE _) rfl rfl (fun g13=>trivial) (fun g13=>om),fun _=>by exact .guard (decide (x_8.Owner ≠ n0r.Me)) 2 [65] (.plain rfl) (dE _) rfl rfl (fun g14=>⟨g14,trivial⟩) (fun g14=>fA cc rfl rfl (List.length_map _)),fun _=>by exact .guard (decide (x_8.Owner ≠ n0r.Me)) 2 [66] (.plain rfl) (dE _) rfl rfl (fun g15=>⟨g15,trivial⟩) (fun g15=>jO rfl rfl),fun _=>.p (bS (fun e=>e) rfl rfl rfl rfl),trivial⟩ rfl rfl ?_)))
    refine ab.ite h10 rfl (fun _ h10=>?_) (fun _ h10=>?_)
    ·refine ab.br 104 rfl (ab.ah ⟨[(0,Pt 1 0),(3,Pt 103 0),(4,.b (.one (.sl 1 (x_9.map eI)))),(41,.b (.one (.sl 3 (x_2.map an)))),(42,I (x_2.length:Int)),(43,I x_5)],[(1,.aO 95 [.one (.i n0r.Me),.one (.i n0r.Regions),.one (.i n0r.Step),.one (.sl 1 (n0r.Home.map eI)),.one (.sl 1 (n0r.Heard.map eB)),.one (.sl 1 (n0r.Sets.map (eL 1 eI))),.one (.sl 1 (n0r.States.map eS)),.one (.sl 3 (x_2.map an)),.one (.sl 1 (x_3.map eB)),.one (.sl 1 (n0r.Results.map eS)),.row 2]),(2,.row 42 7 (out_4.map af)),(103,.box 59 (an x_8))]⟩ rfl ?_)
     obtain ⟨x_10,e16,h10⟩:=aR h10
     obtain ⟨x_11,e17,h10⟩:=aR h10
     refine ab.jk mixed 12 [Pt 1 0,Pt 103 0,I x_8.Owner,.b (.one (.sl 1 (x_9.map eI))),Pt 1 0,Pt 1 0,Pt 1 0,Pt 1 6,.b (.one (.sl 1 (n0r.States.map eS))),.b (.one (.sl 1 (x_9.map eI))),.b (.one (.sl 1 (x_10.map eS))),.b (.agg [.i 2,.i 0,.i 0,.i x_8.Owner,.sl 1 ([].map (eL 1 eI)),.sl 1 (x_9.map eI),.sl 1 (x_10.map eS)])] [0,41,42,43] [1,2] (s':=⟨[(0,_),(41,_),(42,_),(43,_)],[(1,_),(2,.row 42 7 (x_11.map af))]⟩) rfl ⟨fun _=>.p om,fun _=>.p (ag iF rfl rfl),fun _=>.p (av aP rfl rfl rfl),fun _=>.p om,fun _=>.p om,fun _=>.p (aA rfl),fun _=>.p (ag aY rfl rfl),fun _=>.p (ag lj rfl rfl),fun _=>.p (aS dz rfl rfl rfl),fun _=>.p om,fun _=>.p (aH (iO 0 e16).iB uy rfl rfl),fun _=>.p (bp.qd (.same (.same (.same (.same (.sl (size:=1) (by decide) (.same (.same (.nil)))))))) (dM px rfl rfl)),trivial⟩ ⟨_,by exact .p (bJ (own_a:=[(1,_),(2,_)]) (fW e17) uB rfl ⟨rfl,rfl,trivial⟩ rfl rfl),rfl⟩ rfl (Fin.ax ?_)
     exact Fin.join [0,41,42,43] [1,2] x_11 (Option.some.inj h10) rfl
    ·refine ab.skip (Fin.ax ?_)
     exact Fin.join [0,41,42,43] [1,2] out_4 (Option.some.inj h10) rfl
   ·rintro out_7 hv
    subst v9
    refine ab.aa (Oc (bq rfl rfl) (Oc om ?_))
    refine ae.nil ?_
    exact Fin.bK [0,41,42,43] [1,2] (out_7,IntKind.i64.wrap (x_5 + 1)) (Option.some.inj h7) rfl
  ·refine ab.exit (Fin.ao ?_)
   obtain rfl:=hy8 _ (Option.some.inj h7).symm
   refine Fin.ao (Fin.aI ?_)
   obtain rfl:=Option.some.inj h
   refine Fin.ah ⟨[],[(1,_),(2,_)]⟩ rfl ?_
   exact Fin.result [] (.inr rfl) rfl (.nil) ⟨rfl,rfl⟩
def cL (F:Nat) (me0:Int) (regions0:Int) (step0:Int) (home0:List Int) (sets0:List (List Int)) (states0:List Str):Option (Round × (List au) × Int) :=
 bR (((decide (regions0 < 1)) || (decide (16 < regions0))) || (decide (me0 < 0))) fun x_1=>(aM (!((x_1 || (decide (regions0 ≤ me0))) || (decide (step0 < 0)))) (dy F home0 regions0)).bind fun x_2=>bR (((x_1 || (decide (regions0 ≤ me0))) || (decide (step0 < 0))) || (!x_2)) fun x_3=>(aM (!x_3) (b4 F home0 sets0)).bind fun x_4=>bR ((x_3 || (!x_4)) || (decide ((states0.length:Int) ≠ (home0.length:Int)))) fun x_5=>if x_5 = true then (some ((⟨0,0,0,[],[],[],[],[],[],[]⟩:Round),[],1)) else (Option.bind (iter F (fun x_6=>if (decide (x_6 < (home0.length:Int))) = true then ((aT home0 x_6).bind fun x_7=>(aT states0 x_6).bind fun x_8=>if ((decide (x_8 ≠ [])) != (decide (x_7 = me0))) = true then (some (.inr (.inr ((⟨0,0,0,[],[],[],[],[],[],[]⟩:Round),[],1)))) else (some (.inl (IntKind.i64.wrap (x_6 + 1))))) else (some (.inr (.inl ())))) 0) (bH (fun _=>Option.bind (mk? (false:Bool) regions0 regions0) (fun x_9=>(bT F [sets0]).bind fun x_10=>Option.bind (mk? ([]:Str) (home0.length:Int) (home0.length:Int)) (fun x_11=>(aT x_9 me0).bind fun x_12=>Option.bind (iter F (vX fun nf4_16 nf9_17 out_18 x_19=>if (decide (x_19 < regions0)) = true then (Option.bind (if (decide (x_19 ≠ me0)) = true then ((b7 F (⟨1,0,0,x_19,x_10,[],[]⟩:au) (⟨me0,regions0,step0,home0,nf4_16,x_10,states0,[],[],nf9_17⟩:Round) out_18).bind fun x_24=>some x_24) else (some out_18)) (fun out_23=>some (.inl (nf4_16,nf9_17,out_23,IntKind.i64.wrap (x_19 + 1))))) else (some (.inr (nf4_16,nf9_17,out_18)))) (x_9.set (me0:Int).toNat true,x_11,[],0)) (ml fun nf4_13 nf9_14 out_15=>Option.bind (b8 F (⟨me0,regions0,step0,home0,nf4_13,x_10,states0,[],[],nf9_14⟩:Round) out_15) (eD fun x_25 x_26=>some (x_25,x_26,0)))))) (fun y=>some y)))
theorem iT (kr0:Nat) {F:Nat} {me0:Int} {regions0:Int} {step0:Int} {home0:List Int} {sets0:List (List Int)} {states0:List Str} {r:Round × (List au) × Int} (h:cL F me0 regions0 step0 home0 sets0 states0 = some r):aC Try.prog [] 11 [] [.one (.i me0),.one (.i regions0),.one (.i step0),.one (.sl 1 (home0.map eI)),.one (.sl 1 (sets0.map (eL 1 eI))),.one (.sl 1 (states0.map eS))] (Is [(kr0,.row 42 7 (r.2.1.map af))] (.fa [.agg (aj r.1),.row kr0,.one (.i r.2.2)])):=by
 unfold cL at h
 refine aC.intro 126 Try.func11 Try.ntmps11 rfl (by simp) fun E=>?_
 show ab _ E ⟨126,[],[],[]⟩ _ ⟨[(0,I me0),(1,I regions0),(2,I step0),(3,.b (.one (.sl 1 (home0.map eI)))),(4,.b (.one (.sl 1 (sets0.map (eL 1 eI))))),(5,.b (.one (.sl 1 (states0.map eS))))],[]⟩ _
 refine ab.seq (ab.aa ?_)
 refine Oc (dN (k:=101) ji rfl) (Oc oa (Oc oa ?_))
 refine ae.ak ⟨[(0,I me0),(1,I regions0),(2,I step0),(3,.b (.one (.sl 1 (home0.map eI)))),(4,.b (.one (.sl 1 (sets0.map (eL 1 eI))))),(5,.b (.one (.sl 1 (states0.map eS)))),(12,Pt 101 0)],[(101,.box 31 [.i 0,.i 0,.i 0,.nil,.nil,.nil,.nil,.nil,.nil,.nil])]⟩ rfl (ab.seq (ab.seq (ab.aa ?_)))
 refine Oc om (Oc (bm rfl rfl) (Oc om ?_))
 refine cr (!(decide (regions0 < 1))) [] (fun g1=>trivial) (fun g1=>om) (cr (!(decide (regions0 < 1))) [22] (fun g2=>by exact ⟨g2,trivial⟩) (fun g2=>jO rfl rfl) (Oc (aL (fun e=>by first | (rw [e]; rfl) | (simp only at e; rw [e]; rfl)) rfl rfl rfl rfl) (Oc om ?_)))
 refine ae.ah ⟨[(0,_),(1,_),(2,_),(3,_),(4,_),(5,_),(12,_),(25,B ((decide (regions0 < 1)) || (decide (16 < regions0))))],[(101,_)]⟩ rfl (cr (!((decide (regions0 < 1)) || (decide (16 < regions0)))) [] (fun g3=>trivial) (fun g3=>om) (cr (!((decide (regions0 < 1)) || (decide (16 < regions0)))) [26] (fun g4=>by exact ⟨g4,trivial⟩) (fun g4=>bm rfl rfl) (ae.iC h rfl (aL (fun e=>by first | (rw [e]; rfl) | (simp only at e; rw [e]; rfl)) rfl rfl rfl rfl) (fun x_1 h=>?_))))
 refine Oc om (cr (!x_1) [] (fun g5=>by exact trivial) (fun g5=>om) (cr (!x_1) [] (fun g6=>by exact trivial) (fun g6=>om) (cr (!x_1) [30,31] (fun g7=>by exact ⟨g7,g7,trivial⟩) (fun g7=>fN rfl rfl) (Oc (aL (fun e=>by first | (rw [e]; rfl) | (simp only at e; rw [e]; rfl)) rfl rfl rfl rfl) (ae.ah ⟨[(0,_),(1,_),(2,_),(3,_),(4,_),(5,_),(12,_),(33,B (x_1 || (decide (regions0 ≤ me0))))],[(101,_)]⟩ rfl ?_)))))
 refine Oc om (cr (!(x_1 || (decide (regions0 ≤ me0)))) [] (fun g8=>by exact trivial) (fun g8=>om) (cr (!(x_1 || (decide (regions0 ≤ me0)))) [35] (fun g9=>by exact ⟨g9,trivial⟩) (fun g9=>bm rfl rfl) (Oc (aL (fun e=>by first | (rw [e]; rfl) | (simp only at e; rw [e]; rfl)) rfl rfl rfl rfl) (Oc om ?_))))
 refine cr (!((x_1 || (decide (regions0 ≤ me0))) || (decide (step0 < 0)))) [] (fun g10=>trivial) (fun g10=>om) (cr (!((x_1 || (decide (regions0 ≤ me0))) || (decide (step0 < 0)))) [] (fun g11=>by exact trivial) (fun g11=>om) (ae.ah ⟨[(0,_),(1,_),(2,_),(3,_),(4,_),(5,_),(12,_),(38,B ((x_1 || (decide (regions0 ≤ me0))) || (decide (step0 < 0)))),(39,.opt (!((x_1 || (decide (regions0 ≤ me0))) || (decide (step0 < 0)))) (.one (.sl 1 (home0.map eI)))),(40,.opt (!((x_1 || (decide (regions0 ≤ me0))) || (decide (step0 < 0)))) (.one (.i regions0)))],[(101,_)]⟩ rfl ?_))
 obtain ⟨x_2,e13,h⟩:=aR h
 refine cr (!((x_1 || (decide (regions0 ≤ me0))) || (decide (step0 < 0)))) [39,40] (fun g12=>⟨g12,g12,trivial⟩) (fun g12=>aH (pa (gc e13 g12)) goes41 rfl rfl) (cr (!((x_1 || (decide (regions0 ≤ me0))) || (decide (step0 < 0)))) [41] (fun g14=>⟨g14,trivial⟩) (fun g14=>dv rfl) (ae.iC h rfl (aL (fun e=>by first | (rw [e]; rfl) | (simp only at e; rw [e]; rfl)) rfl rfl rfl rfl) (fun x_3 h=>?_)))
 refine Oc om (cr (!x_3) [] (fun g15=>by exact trivial) (fun g15=>om) (cr (!x_3) [] (fun g16=>by exact trivial) (fun g16=>om) (ae.ah ⟨[(0,_),(1,_),(2,_),(3,_),(4,_),(5,_),(12,_),(44,B x_3),(45,.opt (!x_3) (.one (.sl 1 (home0.map eI)))),(46,.opt (!x_3) (.one (.sl 1 (sets0.map (eL 1 eI)))))],[(101,_)]⟩ rfl ?_)))
 obtain ⟨x_4,e18,h⟩:=aR h
 refine cr (!x_3) [45,46] (fun g17=>⟨g17,g17,trivial⟩) (fun g17=>aH (eH (gc e18 g17)) sv rfl rfl) (cr (!x_3) [47] (fun g19=>⟨g19,trivial⟩) (fun g19=>dv rfl) (Oc (aL (fun e=>by first | (rw [e]; rfl) | (simp only at e; rw [e]; rfl)) rfl rfl rfl rfl) (Oc om ?_)))
 refine cr (!(x_3 || (!x_4))) [] (fun g20=>trivial) (fun g20=>om) (cr (!(x_3 || (!x_4))) [51] (fun g21=>by exact ⟨g21,trivial⟩) (fun g21=>ay qp rfl (List.length_map _)) (cr (!(x_3 || (!x_4))) [] (fun g22=>by exact trivial) (fun g22=>om) (ae.ah ⟨[(0,_),(1,_),(2,_),(3,_),(4,_),(5,_),(12,_),(50,B (x_3 || (!x_4))),(52,.opt (!(x_3 || (!x_4))) (.one (.i (states0.length:Int)))),(53,.opt (!(x_3 || (!x_4))) (.one (.sl 1 (home0.map eI))))],[(101,_)]⟩ rfl (cr (!(x_3 || (!x_4))) [53] (fun g23=>by exact ⟨g23,trivial⟩) (fun g23=>ay cc rfl (List.length_map _)) (cr (!(x_3 || (!x_4))) [52,54] (fun g24=>by exact ⟨g24,g24,trivial⟩) (fun g24=>dg rfl rfl) ?_)))))
 refine ae.iC h rfl (aL (fun e=>by first | (rw [e]; rfl) | (simp only at e; rw [e]; rfl)) rfl rfl rfl rfl) (fun x_5 h=>?_)
 refine ae.ak ⟨[(0,_),(1,_),(2,_),(3,_),(4,_),(5,_),(12,_),(56,B x_5)],[(101,_)]⟩ rfl (ab.ite h rfl (fun _ h=>?_) (fun _ h=>?_))
 ·refine ab.seq (ab.aa ?_)
  refine Oc (bp.qd (.same (.same (.same (.sl (size:=1) (by decide) (.same (.sl (size:=1) (by decide) (.sl (size:=1) (by decide) (.sl (size:=3) (by decide) (.sl (size:=1) (by decide) (.same (.nil))))))))))) (dM iI rfl rfl)) (Oc (bD aV rfl rfl rfl rfl (Nat.le_of_ble_eq_true rfl) rfl) (Oc oa (Oc oa ?_)))
  refine ae.ak ⟨[(12,_),(13,.b (.one (.nil))),(14,I 1)],[(101,.box 31 [.i 0,.i 0,.i 0,.sl 1 ([].map eI),.nil,.sl 1 ([].map (eL 1 eI)),.sl 1 ([].map eS),.sl 3 ([].map an),.sl 1 ([].map eB),.nil])]⟩ rfl (ab.ret (Fin.aq ?_))
  obtain rfl:=Option.some.inj h
  refine Fin.ah ⟨[(12,_),(13,_),(14,_)],[(101,_)]⟩ rfl (Fin.fE 101 4 1 rfl rfl (by decide) (Fin.fE 101 9 1 rfl rfl (by decide) (Fin.cT 13 102 7 42 rfl (by decide) rfl (Fin.dr 102 kr0 [.agg [.i 0,.i 0,.i 0,.sl 1 ([].map eI),.sl 1 ([].map eB),.sl 1 ([].map (eL 1 eI)),.sl 1 ([].map eS),.sl 3 ([].map an),.sl 1 ([].map eB),.sl 1 ([].map eS)],.row 102,.one (.i 1)] (.inl rfl) rfl (.cons (.agg aV rfl rfl rfl rfl) (.cons (.tmp rfl) (.cons (.tmp rfl) .nil))) rfl rfl rfl rfl ⟨rfl,rfl⟩))))
 ·refine ab.skip (Fin.ah ⟨[(0,_),(1,_),(2,_),(3,_),(4,_),(5,_),(12,_)],[(101,_)]⟩ rfl (Fin.then ?_))
  obtain ⟨v25,h26,h⟩:=aR h
  refine ab.cJ (v:=v25) (fun (_:Unit)=>⟨[(0,I me0),(1,I regions0),(2,I step0),(3,.b (.one (.sl 1 (home0.map eI)))),(4,.b (.one (.sl 1 (sets0.map (eL 1 eI))))),(5,.b (.one (.sl 1 (states0.map eS)))),(12,Pt 101 0)],[(101,.box 31 [.i 0,.i 0,.i 0,.nil,.nil,.nil,.nil,.nil,.nil,.nil])]⟩) (fun z=>.inl z) ?_ ?_
  ·refine ab.seq (ab.aa ?_)
   refine Oc om (Oc (ay cc rfl (List.length_map _)) (Oc om ?_))
   refine ae.ak ⟨[(0,_),(1,_),(2,_),(3,_),(4,_),(5,_),(12,_),(58,.b (.one (.sl 1 (home0.map eI)))),(59,I (home0.length:Int)),(60,I 0)],[(101,_)]⟩ rfl (ab.block (ab.ct h26 (fun (x_6:Int)=>⟨[(0,I me0),(1,I regions0),(2,I step0),(3,.b (.one (.sl 1 (home0.map eI)))),(4,.b (.one (.sl 1 (sets0.map (eL 1 eI))))),(5,.b (.one (.sl 1 (states0.map eS)))),(12,Pt 101 0),(58,.b (.one (.sl 1 (home0.map eI)))),(59,I (home0.length:Int)),(60,I x_6)],[(101,.box 31 [.i 0,.i 0,.i 0,.nil,.nil,.nil,.nil,.nil,.nil,.nil])]⟩) [0,1,2,3,4,5,12,58,59,60] [101] rfl ?_))
   rintro x_6 o27 h28 hy29
   refine ab.seq (ab.aa ?_)
   refine Oc (bm rfl rfl) (ae.ak ⟨[(0,_),(1,_),(2,_),(3,_),(4,_),(5,_),(12,_),(58,_),(59,_),(60,_),(61,B (decide (x_6 < (home0.length:Int))))],[(101,_)]⟩ rfl (ab.seq (ab.ite h28 rfl (fun _ h28=>?_) (fun _ h28=>?_))))
   ·refine ab.skip (Fin.ah ⟨[(0,_),(1,_),(2,_),(3,_),(4,_),(5,_),(12,_),(58,_),(59,_),(60,_)],[(101,_)]⟩ rfl (Fin.then (ab.seq (ab.block (ab.seq (ab.aa ?_))))))
    refine Oc om ?_
    obtain ⟨x_7,e30,h28⟩:=aR h28
    refine Oc (ar ba (aK e30) (aE (e:=eI) e30) rfl rfl) (Oc (aw aP rfl rfl) (Oc oa (Oc oa ?_)))
    refine ae.ak ⟨[(0,_),(1,_),(2,_),(3,_),(4,_),(5,_),(12,_),(15,I x_6),(16,I x_7),(58,_),(59,_),(60,_)],[(101,_)]⟩ rfl (ab.seq (ab.aa ?_))
    refine Oc om (Oc om ?_)
    obtain ⟨x_8,e31,h28⟩:=aR h28
    refine Oc (ar cS (aK e31) (aE (e:=eS) e31) rfl rfl) (Oc (aw gI rfl rfl) (Oc (n5 rfl rfl) (Oc om (Oc om (Oc (dT rfl rfl) ?_)))))
    refine Oc (tS und4 rfl rfl) (ae.ak ⟨[(0,_),(1,_),(2,_),(3,_),(4,_),(5,_),(12,_),(58,_),(59,_),(60,_),(73,B ((decide (x_8 ≠ [])) != (decide (x_7 = me0))))],[(101,_)]⟩ rfl (ab.ite h28 rfl (fun _ h28=>?_) (fun _ h28=>?_)))
    ·refine ab.seq (ab.aa ?_)
     refine Oc (bp.qd (.same (.same (.same (.sl (size:=1) (by decide) (.same (.sl (size:=1) (by decide) (.sl (size:=1) (by decide) (.sl (size:=3) (by decide) (.sl (size:=1) (by decide) (.same (.nil))))))))))) (dM iI rfl rfl)) (Oc (bD aV rfl rfl rfl rfl (Nat.le_of_ble_eq_true rfl) rfl) (Oc oa (Oc oa ?_)))
     refine ae.ak ⟨[(12,_),(13,.b (.one (.nil))),(14,I 1)],[(101,.box 31 [.i 0,.i 0,.i 0,.sl 1 ([].map eI),.nil,.sl 1 ([].map (eL 1 eI)),.sl 1 ([].map eS),.sl 3 ([].map an),.sl 1 ([].map eB),.nil])]⟩ rfl (ab.ret (Fin.aD (Fin.aq ?_)))
     obtain rfl:=hy29 _ (Option.some.inj h28).symm
     refine Fin.aq (Fin.aD (Fin.aq ?_))
     obtain rfl:=Option.some.inj h
     refine Fin.ah ⟨[(12,_),(13,_),(14,_)],[(101,_)]⟩ rfl (Fin.fE 101 4 1 rfl rfl (by decide) (Fin.fE 101 9 1 rfl rfl (by decide) (Fin.cT 13 103 7 42 rfl (by decide) rfl (Fin.dr 103 kr0 [.agg [.i 0,.i 0,.i 0,.sl 1 ([].map eI),.sl 1 ([].map eB),.sl 1 ([].map (eL 1 eI)),.sl 1 ([].map eS),.sl 3 ([].map an),.sl 1 ([].map eB),.sl 1 ([].map eS)],.row 103,.one (.i 1)] (.inl rfl) rfl (.cons (.agg aV rfl rfl rfl rfl) (.cons (.tmp rfl) (.cons (.tmp rfl) .nil))) rfl rfl rfl rfl ⟨rfl,rfl⟩))))
    ·refine ab.skip (Fin.ax (Fin.ah ⟨[(0,_),(1,_),(2,_),(3,_),(4,_),(5,_),(12,_),(58,_),(59,_),(60,_)],[(101,_)]⟩ rfl (Fin.then (ab.aa ?_))))
     refine Oc (bq rfl rfl) (Oc om ?_)
     refine ae.nil ?_
     exact Fin.bK [0,1,2,3,4,5,12,58,59,60] [101] (IntKind.i64.wrap (x_6 + 1)) (Option.some.inj h28) rfl
   ·refine ab.exit (Fin.ao ?_)
    obtain rfl:=hy29 _ (Option.some.inj h28).symm
    refine Fin.ao (Fin.aI ?_)
    exact Fin.join [0,1,2,3,4,5,12] [101] () rfl rfl
  ·rintro _ hv
   subst v25
   refine ab.seq (ab.ah ⟨[(0,_),(1,_),(2,_),(3,_),(4,_),(5,_),(12,_)],[(101,_)]⟩ rfl ?_)
   obtain ⟨x_9,e32,h⟩:=aR h
   obtain ⟨x_10,e33,h⟩:=aR h
   obtain ⟨x_11,e34,h⟩:=aR h
   refine ab.ff mixed [false,false,false,false,false,true,false,false,false,false,false,false,true,false,false,true,false] [I me0,I regions0,I step0,.b (.one (.sl 1 (home0.map eI))),I regions0,.b (.row 103),.b (.one (.sl 1 (sets0.map (eL 1 eI)))),.b (.one (.sl 1 ([sets0].map (eL 1 (eL 1 eI))))),.b (.one (.sl 1 (x_10.map (eL 1 eI)))),.b (.one (.sl 1 (states0.map eS))),.b (.one (.sl 1 (home0.map eI))),I (home0.length:Int),.b (.row 105),.fJ [.one (.i me0),.one (.i regions0),.one (.i step0),.one (.sl 1 (home0.map eI)),.row 103,.one (.sl 1 (x_10.map (eL 1 eI))),.one (.sl 1 (states0.map eS)),.one (.sl 3 ([].map an)),.one (.sl 1 ([].map eB)),.row 105],.fJ [.one (.i me0),.one (.i regions0),.one (.i step0),.one (.sl 1 (home0.map eI)),.row 103,.one (.sl 1 (x_10.map (eL 1 eI))),.one (.sl 1 (states0.map eS)),.one (.sl 3 ([].map an)),.one (.sl 1 ([].map eB)),.row 105,.one (.nil)],Pt 106 0,Pt 106 0] [⟨[false,false,false,false,false,false,false,false,false,false,false,false,false,false,false,false,false],[(0,I me0),(1,I regions0),(2,I step0),(3,.b (.one (.sl 1 (home0.map eI)))),(4,.b (.one (.sl 1 (sets0.map (eL 1 eI))))),(5,.b (.one (.sl 1 (states0.map eS)))),(12,Pt 101 0)],[(101,.box 31 [.i 0,.i 0,.i 0,.nil,.nil,.nil,.nil,.nil,.nil,.nil])],[true,true,true,true,true,true,true,true,true,true,true,true,true,true,true,true,true],[],[13,14,15,16]⟩,⟨[false,false,false,false,false,true,false,false,false,false,false,false,false,false,false,false,false],[(0,I me0),(1,I regions0),(2,I step0),(3,.b (.one (.sl 1 (home0.map eI)))),(4,.b (.one (.sl 1 (sets0.map (eL 1 eI))))),(5,.b (.one (.sl 1 (states0.map eS)))),(12,Pt 101 0)],[(101,.box 31 [.i 0,.i 0,.i 0,.nil,.nil,.nil,.nil,.nil,.nil,.nil]),(103,.row 4 1 (x_9.map eB))],[true,true,true,true,true,true,true,true,true,true,true,true,true,true,true,true,true],[4,5],[13,14,15,16]⟩,⟨[false,false,false,false,false,false,false,false,false,false,false,false,true,false,false,false,false],[(0,I me0),(1,I regions0),(2,I step0),(3,.b (.one (.sl 1 (home0.map eI)))),(4,.b (.one (.sl 1 (sets0.map (eL 1 eI))))),(5,.b (.one (.sl 1 (states0.map eS)))),(12,Pt 101 0)],[(101,.box 31 [.i 0,.i 0,.i 0,.nil,.nil,.nil,.nil,.nil,.nil,.nil]),(105,.row 9 1 (x_11.map eS))],[true,true,true,true,true,true,true,true,true,true,true,true,true,true,true,true,true],[10,11,12],[13,14,15,16]⟩,⟨[false,false,false,false,false,true,false,false,false,false,false,false,true,false,false,false,false],[(0,I me0),(1,I regions0),(2,I step0),(3,.b (.one (.sl 1 (home0.map eI)))),(4,.b (.one (.sl 1 (sets0.map (eL 1 eI))))),(5,.b (.one (.sl 1 (states0.map eS)))),(12,Pt 101 0)],[(101,.box 31 [.i 0,.i 0,.i 0,.nil,.nil,.nil,.nil,.nil,.nil,.nil]),(103,.row 4 1 (x_9.map eB)),(105,.row 9 1 (x_11.map eS))],[true,true,true,true,true,true,true,true,true,true,true,true,true,true,true,true,true],[4,5,10,11,12],[16]⟩,⟨[false,false,false,false,false,true,false,false,false,false,false,false,true,false,false,true,false],[(0,I me0),(1,I regions0),(2,I step0),(3,.b (.one (.sl 1 (home0.map eI)))),(4,.b (.one (.sl 1 (sets0.map (eL 1 eI))))),(5,.b (.one (.sl 1 (states0.map eS)))),(12,Pt 101 0)],[(101,.box 31 [.i 0,.i 0,.i 0,.nil,.nil,.nil,.nil,.nil,.nil,.nil]),(103,.row 4 1 (x_9.map eB)),(105,.row 9 1 (x_11.map eS)),(106,.aO 95 [.one (.i me0),.one (.i regions0),.one (.i step0),.one (.sl 1 (home0.map eI)),.row 103,.one (.sl 1 (x_10.map (eL 1 eI))),.one (.sl 1 (states0.map eS)),.one (.sl 3 ([].map an)),.one (.sl 1 ([].map eB)),.row 105,.one (.nil)])],[true,true,true,true,true,true,true,true,true,true,true,true,true,true,true,true,true],[0,1,2,3,4,5,6,7,8,9,10,11,12,13,14,15],[]⟩] rfl (⟨by kernel_rfl,⟨⟨I me0,fun _=>rfl,fun _=>.p (by exact az rfl)⟩,⟨I regions0,fun _=>rfl,fun _=>.p (by exact az rfl)⟩,⟨I step0,fun _=>rfl,fun _=>.p (by exact az rfl)⟩,⟨.b (.one (.sl 1 (home0.map eI))),fun _=>rfl,fun _=>.p (by exact az rfl)⟩,⟨I regions0,fun _=>rfl,fun _=>.p (by exact az rfl)⟩,⟨_,[103],.b (.row 103),rfl,fun _=>rfl,rfl,rfl,fun _=>.mc [101,103] (by exact .p (by exact ee (k:=103) (enc:=eB) iE e32 (by decide) (.cons .refl .nil) rfl rfl rfl)) (by exact rfl)⟩,⟨.b (.one (.sl 1 (sets0.map (eL 1 eI)))),fun _=>rfl,fun _=>.p (by exact az rfl)⟩,⟨.b (.one (.sl 1 ([sets0].map (eL 1 (eL 1 eI))))),fun _=>rfl,fun _=>.p (by exact cN (es:=[sets0].map (eL 1 (eL 1 eI))) jt rfl rfl (bw fun _=>rfl) rfl (by decide) (by decide))⟩,⟨.b (.one (.sl 1 (x_10.map (eL 1 eI)))),fun _=>rfl,fun _=>.p (by exact aH (dc e33) nU rfl rfl)⟩,⟨.b (.one (.sl 1 (states0.map eS))),fun _=>rfl,fun _=>.p (by exact az rfl)⟩,⟨.b (.one (.sl 1 (home0.map eI))),fun _=>rfl,fun _=>.p (by exact az rfl)⟩,⟨I (home0.length:Int),fun _=>rfl,fun _=>.p (by exact ay cc rfl (List.length_map _))⟩,⟨_,[105],.b (.row 105),rfl,fun _=>rfl,rfl,rfl,fun _=>.mc [101,105] (by exact .p (by exact ee (k:=105) (enc:=eS) cS e34 (by decide) (.cons .refl .nil) rfl rfl rfl)) (by exact rfl)⟩,trivial,trivial,trivial,trivial,trivial⟩,⟨by kernel_rfl,⟨⟨I me0,fun _=>rfl,fun _=>.p (by exact az rfl)⟩,⟨I regions0,fun _=>rfl,fun _=>.p (by exact az rfl)⟩,⟨I step0,fun _=>rfl,fun _=>.p (by exact az rfl)⟩,⟨.b (.one (.sl 1 (home0.map eI))),fun _=>rfl,fun _=>.p (by exact az rfl)⟩,trivial,trivial,⟨.b (.one (.sl 1 (sets0.map (eL 1 eI)))),fun _=>rfl,fun _=>.p (by exact az rfl)⟩,⟨.b (.one (.sl 1 ([sets0].map (eL 1 (eL 1 eI))))),fun _=>rfl,fun _=>.p (by exact cN (es:=[sets0].map (eL 1 (eL 1 eI))) jt rfl rfl (bw fun _=>rfl) rfl (by decide) (by decide))⟩,⟨.b (.one (.sl 1 (x_10.map (eL 1 eI)))),fun _=>rfl,fun _=>.p (by exact aH (dc e33) nU rfl rfl)⟩,⟨.b (.one (.sl 1 (states0.map eS))),fun _=>rfl,fun _=>.p (by exact az rfl)⟩,⟨.b (.one (.sl 1 (home0.map eI))),fun _=>rfl,fun _=>.p (by exact az rfl)⟩,⟨I (home0.length:Int),fun _=>rfl,fun _=>.p (by exact ay cc rfl (List.length_map _))⟩,⟨_,[105],.b (.row 105),rfl,fun _=>rfl,rfl,rfl,fun _=>.mc [101,103,105] (by exact .p (by exact ee (k:=105) (enc:=eS) cS e34 (by decide) (.cons .refl .nil) rfl rfl rfl)) (by exact rfl)⟩,trivial,trivial,trivial,trivial,trivial⟩,⟨by kernel_rfl,⟨⟨I me0,fun _=>rfl,fun _=>.p (by exact az rfl)⟩,⟨I regions0,fun _=>rfl,fun _=>.p (by exact az rfl)⟩,⟨I step0,fun _=>rfl,fun _=>.p (by exact az rfl)⟩,⟨.b (.one (.sl 1 (home0.map eI))),fun _=>rfl,fun _=>.p (by exact az rfl)⟩,⟨I regions0,fun _=>rfl,fun _=>.p (by exact az rfl)⟩,⟨_,[103],.b (.row 103),rfl,fun _=>rfl,rfl,rfl,fun _=>.mc [101,103,105] (by exact .p (by exact ee (k:=103) (enc:=eB) iE e32 (by decide) (.cons .refl .nil) rfl rfl rfl)) (by exact rfl)⟩,⟨.b (.one (.sl 1 (sets0.map (eL 1 eI)))),fun _=>rfl,fun _=>.p (by exact az rfl)⟩,⟨.b (.one (.sl 1 ([sets0].map (eL 1 (eL 1 eI))))),fun _=>rfl,fun _=>.p (by exact cN (es:=[sets0].map (eL 1 (eL 1 eI))) jt rfl rfl (bw fun _=>rfl) rfl (by decide) (by decide))⟩,⟨.b (.one (.sl 1 (x_10.map (eL 1 eI)))),fun _=>rfl,fun _=>.p (by exact aH (dc e33) nU rfl rfl)⟩,⟨.b (.one (.sl 1 (states0.map eS))),fun _=>rfl,fun _=>.p (by exact az rfl)⟩,trivial,trivial,trivial,trivial,trivial,trivial,trivial,trivial⟩,⟨by kernel_rfl,⟨⟨I me0,fun _=>rfl,fun _=>.p (by exact az rfl)⟩,⟨I regions0,fun _=>rfl,fun _=>.p (by exact az rfl)⟩,⟨I step0,fun _=>rfl,fun _=>.p (by exact az rfl)⟩,⟨.b (.one (.sl 1 (home0.map eI))),fun _=>rfl,fun _=>.p (by exact az rfl)⟩,trivial,trivial,⟨.b (.one (.sl 1 (sets0.map (eL 1 eI)))),fun _=>rfl,fun _=>.p (by exact az rfl)⟩,⟨.b (.one (.sl 1 ([sets0].map (eL 1 (eL 1 eI))))),fun _=>rfl,fun _=>.p (by exact cN (es:=[sets0].map (eL 1 (eL 1 eI))) jt rfl rfl (bw fun _=>rfl) rfl (by decide) (by decide))⟩,⟨.b (.one (.sl 1 (x_10.map (eL 1 eI)))),fun _=>rfl,fun _=>.p (by exact aH (dc e33) nU rfl rfl)⟩,⟨.b (.one (.sl 1 (states0.map eS))),fun _=>rfl,fun _=>.p (by exact az rfl)⟩,trivial,trivial,trivial,⟨.fJ [.one (.i me0),.one (.i regions0),.one (.i step0),.one (.sl 1 (home0.map eI)),.row 103,.one (.sl 1 (x_10.map (eL 1 eI))),.one (.sl 1 (states0.map eS)),.one (.sl 3 ([].map an)),.one (.sl 1 ([].map eB)),.row 105],fun _=>rfl,fun _=>.p (by exact bp.nilX (.same (.same (.same (.same (.same (.same (.same (.sl (size:=3) (by decide) (.sl (size:=1) (by decide) (.same (.nil))))))))))) (n7 iI rfl rfl))⟩,⟨.fJ [.one (.i me0),.one (.i regions0),.one (.i step0),.one (.sl 1 (home0.map eI)),.row 103,.one (.sl 1 (x_10.map (eL 1 eI))),.one (.sl 1 (states0.map eS)),.one (.sl 3 ([].map an)),.one (.sl 1 ([].map eB)),.row 105,.one (.nil)],fun _=>rfl,fun _=>.p (by exact n7 pv rfl rfl)⟩,⟨_,[106],Pt 106 0,rfl,fun _=>rfl,rfl,rfl,fun _=>.mc [101,103,105,106] (by exact .p (by exact yg (k:=106) rfl rfl rfl)) (by exact rfl)⟩,trivial,trivial⟩,⟨by kernel_rfl,⟨trivial,trivial,trivial,trivial,trivial,trivial,trivial,trivial,trivial,trivial,trivial,trivial,trivial,trivial,trivial,trivial,⟨Pt 106 0,fun _=>rfl,fun _=>.p (by exact cH rfl)⟩,trivial⟩,trivial⟩⟩⟩⟩⟩) rfl rfl rfl [0,1,12,17] [101,103,105,106] (s':=⟨[(0,_),(1,_),(12,_),(17,Pt 106 0)],[(101,_),(103,.row 4 1 (x_9.map eB)),(105,.row 9 1 (x_11.map eS)),(106,.aO 95 [.one (.i me0),.one (.i regions0),.one (.i step0),.one (.sl 1 (home0.map eI)),.row 103,.one (.sl 1 (x_10.map (eL 1 eI))),.one (.sl 1 (states0.map eS)),.one (.sl 3 ([].map an)),.one (.sl 1 ([].map eB)),.row 105,.one (.nil)])]⟩) rfl ?_
   refine ab.seq (ab.aa ?_)
   refine Oc om (Oc (aA rfl) (Oc (ag aY rfl rfl) (Oc (ag gX rfl rfl) (Oc (aS fc rfl rfl rfl) (Oc om ?_)))))
   obtain ⟨x_12,e35,h⟩:=aR h
   refine Oc (bc iE (aK e35) (cx e35) rfl rfl rfl rfl) (Oc (hU (i:=(me0:Int).toNat) mu rfl rfl rfl rfl (ow e35) (map_set _ _ _ _)) ?_)
   refine ae.ak ⟨[(0,_),(1,_),(12,_),(17,_)],[(101,_),(103,.row 4 1 ((x_9.set (me0:Int).toNat true).map eB)),(105,_),(106,_)]⟩ rfl ?_
   obtain ⟨v36,h37,h⟩:=aR h
   refine ab.cJ (v:=v36) (ml fun (nf4_13:List Bool) (nf9_14:List Str) (out_15:List au)=>⟨[(12,Pt 101 0),(17,Pt 106 0)],[(101,.box 31 [.i 0,.i 0,.i 0,.nil,.nil,.nil,.nil,.nil,.nil,.nil]),(106,.aO 95 [.one (.i me0),.one (.i regions0),.one (.i step0),.one (.sl 1 (home0.map eI)),.one (.sl 1 (nf4_13.map eB)),.one (.sl 1 (x_10.map (eL 1 eI))),.one (.sl 1 (states0.map eS)),.one (.sl 3 ([].map an)),.one (.sl 1 ([].map eB)),.one (.sl 1 (nf9_14.map eS)),.row 107]),(107,.row 42 7 (out_15.map af))]⟩) (fun z=>z) ?_ ?_
   ·refine ab.seq (ab.aa ?_)
    refine Oc om (Oc om ?_)
    refine ae.ak ⟨[(0,I me0),(12,Pt 101 0),(17,Pt 106 0),(99,I regions0),(100,I 0)],[(101,.box 31 [.i 0,.i 0,.i 0,.nil,.nil,.nil,.nil,.nil,.nil,.nil]),(103,.row 4 1 ((x_9.set (me0:Int).toNat true).map eB)),(105,.row 9 1 (x_11.map eS)),(106,.aO 95 [.one (.i me0),.one (.i regions0),.one (.i step0),.one (.sl 1 (home0.map eI)),.row 103,.one (.sl 1 (x_10.map (eL 1 eI))),.one (.sl 1 (states0.map eS)),.one (.sl 3 ([].map an)),.one (.sl 1 ([].map eB)),.row 105,.one (.nil)])]⟩ rfl (ab.block (ab.br 103 rfl (ab.br 105 rfl (ab.gG 106 10 107 7 42 rfl rfl (by decide) (by decide) rfl (ab.ct h37 (vX fun (nf4_16:List Bool) (nf9_17:List Str) (out_18:List au) (x_19:Int)=>⟨[(0,I me0),(12,Pt 101 0),(17,Pt 106 0),(99,I regions0),(100,I x_19)],[(101,.box 31 [.i 0,.i 0,.i 0,.nil,.nil,.nil,.nil,.nil,.nil,.nil]),(106,.aO 95 [.one (.i me0),.one (.i regions0),.one (.i step0),.one (.sl 1 (home0.map eI)),.one (.sl 1 (nf4_16.map eB)),.one (.sl 1 (x_10.map (eL 1 eI))),.one (.sl 1 (states0.map eS)),.one (.sl 3 ([].map an)),.one (.sl 1 ([].map eB)),.one (.sl 1 (nf9_17.map eS)),.row 107]),(107,.row 42 7 (out_18.map af))]⟩) [0,12,17,99,100] [101,106,107] rfl ?_)))))
    rintro ⟨nf4_16,nf9_17,out_18,x_19⟩ o38 h39 hy40
    refine ab.seq (ab.aa ?_)
    refine Oc (bm rfl rfl) (ae.ak ⟨[(0,_),(12,_),(17,_),(99,_),(100,_),(101,B (decide (x_19 < regions0)))],[(101,_),(106,_),(107,_)]⟩ rfl (ab.seq (ab.ite h39 rfl (fun _ h39=>?_) (fun _ h39=>?_))))
    ·refine ab.skip (Fin.ah ⟨[(0,_),(12,_),(17,_),(99,_),(100,_)],[(101,_),(106,_),(107,_)]⟩ rfl (Fin.then ?_))
     obtain ⟨v41,h42,h39⟩:=aR h39
     refine ab.cJ (v:=v41) (fun (out_23:List au)=>⟨[(0,I me0),(12,Pt 101 0),(17,Pt 106 0),(99,I regions0),(100,I x_19)],[(101,.box 31 [.i 0,.i 0,.i 0,.nil,.nil,.nil,.nil,.nil,.nil,.nil]),(106,.aO 95 [.one (.i me0),.one (.i regions0),.one (.i step0),.one (.sl 1 (home0.map eI)),.one (.sl 1 (nf4_16.map eB)),.one (.sl 1 (x_10.map (eL 1 eI))),.one (.sl 1 (states0.map eS)),.one (.sl 3 ([].map an)),.one (.sl 1 ([].map eB)),.one (.sl 1 (nf9_17.map eS)),.row 107]),(107,.row 42 7 (out_23.map af))]⟩) (fun z=>z) ?_ ?_
     ·refine ab.block (ab.seq (ab.aa ?_))
      refine Oc om (Oc oa ?_)
      refine ae.ak ⟨[(0,_),(12,_),(17,_),(18,I x_19),(99,_),(100,_)],[(101,_),(106,_),(107,_)]⟩ rfl (ab.seq (ab.aa ?_))
      refine Oc om (Oc om (Oc (dg rfl rfl) ?_))
      refine ae.ak ⟨[(0,_),(12,_),(17,_),(18,_),(99,_),(100,_),(105,B (decide (x_19 ≠ me0)))],[(101,_),(106,_),(107,_)]⟩ rfl (ab.ite h42 rfl (fun _ h42=>?_) (fun _ h42=>?_))
      ·refine ab.aa (Oc om (Oc om (Oc om (Oc (aA rfl) (Oc (ag aY rfl rfl) (Oc (ag nc rfl rfl) ?_))))))
       refine Oc (aS gF rfl rfl rfl) (Oc (bp.qd (.same (.same (.same (.same (.same (.sl (size:=1) (by decide) (.sl (size:=1) (by decide) (.nil)))))))) (dM px rfl rfl)) ?_)
       obtain ⟨x_24,e43,h42⟩:=aR h42
       refine Oc (bJ (own_a:=[(106,_),(107,_)]) (((fW e43).sw 1 106).sw 2 107) uB rfl ⟨rfl,rfl,trivial⟩ rfl rfl) (ae.nil (Fin.ax ?_))
       exact Fin.join [0,12,17,99,100] [101,106,107] x_24 (Option.some.inj h42) rfl
      ·refine ab.skip (Fin.ax ?_)
       exact Fin.join [0,12,17,99,100] [101,106,107] out_18 (Option.some.inj h42) rfl
     ·rintro out_23 hv
      subst v41
      refine ab.aa (Oc (bq rfl rfl) (Oc om ?_))
      refine ae.nil ?_
      exact Fin.bK [0,12,17,99,100] [101,106,107] (nf4_16,nf9_17,out_23,IntKind.i64.wrap (x_19 + 1)) (Option.some.inj h39) rfl
    ·refine ab.exit (Fin.ao ?_)
     obtain rfl:=hy40 _ (Option.some.inj h39).symm
     refine Fin.ao (Fin.aI ?_)
     exact Fin.join [12,17] [101,106,107] (nf4_16,nf9_17,out_18) rfl rfl
   ·rintro ⟨nf4_13,nf9_14,out_15⟩ hv
    subst v36
    refine ab.seq (ab.aa ?_)
    refine Oc om ?_
    obtain ⟨⟨x_25,x_26⟩,e44,h⟩:=aR h
    refine Oc (bJ (own_a:=[(106,_),(107,_)]) (((jq e44).sw 1 106).sw 2 107) xP rfl ⟨rfl,rfl,trivial⟩ rfl rfl) (ae.ak ⟨[(12,_),(17,_)],[(101,_),(106,.aO 95 [.one (.i x_25.Me),.one (.i x_25.Regions),.one (.i x_25.Step),.one (.sl 1 (x_25.Home.map eI)),.one (.sl 1 (x_25.Heard.map eB)),.one (.sl 1 (x_25.Sets.map (eL 1 eI))),.one (.sl 1 (x_25.States.map eS)),.one (.sl 3 (x_25.Tasks.map an)),.one (.sl 1 (x_25.Done.map eB)),.one (.sl 1 (x_25.Results.map eS)),.row 107]),(107,.row 42 7 (x_26.map af))]⟩ rfl (ab.seq (ab.ff mixed [false,false,false,false,false,false,false,false,true,false,false] [Pt 106 0,Pt 106 0,Pt 106 0,.b (.agg (aj x_25)),Pt 106 0,Pt 106 0,Pt 106 10,.b (.row 107),B true,.b (.row 107),I 0] [⟨[false,false,false,false,false,false,false,false,false,false,false],[(12,Pt 101 0),(17,Pt 106 0)],[(101,.box 31 [.i 0,.i 0,.i 0,.nil,.nil,.nil,.nil,.nil,.nil,.nil]),(106,.aO 95 [.one (.i x_25.Me),.one (.i x_25.Regions),.one (.i x_25.Step),.one (.sl 1 (x_25.Home.map eI)),.one (.sl 1 (x_25.Heard.map eB)),.one (.sl 1 (x_25.Sets.map (eL 1 eI))),.one (.sl 1 (x_25.States.map eS)),.one (.sl 3 (x_25.Tasks.map an)),.one (.sl 1 (x_25.Done.map eB)),.one (.sl 1 (x_25.Results.map eS)),.row 107]),(107,.row 42 7 (x_26.map af))],[true,true,true,true,true,true,true,true,true,true,true],[],[9,10]⟩,⟨[false,false,false,false,false,false,false,false,true,false,false],[(12,Pt 101 0),(17,Pt 106 0)],[(101,.box 31 (aj x_25)),(106,.aO 95 [.one (.i x_25.Me),.one (.i x_25.Regions),.one (.i x_25.Step),.one (.sl 1 (x_25.Home.map eI)),.one (.sl 1 (x_25.Heard.map eB)),.one (.sl 1 (x_25.Sets.map (eL 1 eI))),.one (.sl 1 (x_25.States.map eS)),.one (.sl 3 (x_25.Tasks.map an)),.one (.sl 1 (x_25.Done.map eB)),.one (.sl 1 (x_25.Results.map eS)),.row 107]),(107,.row 42 7 (x_26.map af))],[true,true,true,true,true,true,true,true,true,true,true],[0,1,2,3,8],[]⟩] rfl (⟨by kernel_rfl,⟨⟨Pt 106 0,fun _=>rfl,fun _=>.p (by exact az rfl)⟩,⟨Pt 106 0,fun _=>rfl,fun _=>.p (by exact aA rfl)⟩,⟨Pt 106 0,fun _=>rfl,fun _=>.p (by exact ag aY rfl rfl)⟩,⟨.b (.agg (aj x_25)),fun _=>rfl,fun _=>.p (by exact n6 aV rfl rfl rfl rfl)⟩,⟨Pt 106 0,fun _=>rfl,fun _=>.p (by exact az rfl)⟩,⟨Pt 106 0,fun _=>rfl,fun _=>.p (by exact aA rfl)⟩,⟨Pt 106 10,fun _=>rfl,fun _=>.p (by exact ag gV rfl rfl)⟩,⟨.b (.row 107),fun _=>rfl,fun _=>.p (by exact aS kC rfl rfl rfl)⟩,⟨_,[],.b (.one .any),rfl,(fun e=>by simp at e),rfl,rfl,fun _=>.mc [101,106,107] (by exact .p (by exact bD aV rfl rfl rfl rfl (Nat.le_of_ble_eq_true rfl) rfl)) (by exact rfl)⟩,trivial,trivial,trivial⟩,⟨by kernel_rfl,⟨trivial,trivial,trivial,trivial,⟨Pt 106 0,fun _=>rfl,fun _=>.p (by exact az rfl)⟩,⟨Pt 106 0,fun _=>rfl,fun _=>.p (by exact aA rfl)⟩,⟨Pt 106 10,fun _=>rfl,fun _=>.p (by exact ag gV rfl rfl)⟩,⟨.b (.row 107),fun _=>rfl,fun _=>.p (by exact aS kC rfl rfl rfl)⟩,trivial,⟨.b (.row 107),fun _=>rfl,fun _=>.p (by exact cH rfl)⟩,⟨I 0,fun _=>rfl,fun _=>.p (by exact cH rfl)⟩,trivial⟩,trivial⟩⟩) rfl rfl rfl [12,13,14] [101,107] (s':=⟨[(12,_),(13,.b (.row 107)),(14,I 0)],[(101,.box 31 (aj x_25)),(107,_)]⟩) rfl ?_)))
    refine ab.ret ?_
    obtain rfl:=Option.some.inj h
    refine Fin.ah ⟨[(12,_),(13,_),(14,_)],[(101,_),(107,_)]⟩ rfl (Fin.dr 107 kr0 [.agg (aj x_25),.row 107,.one (.i 0)] (.inl rfl) rfl (.cons (.agg aV rfl rfl rfl rfl) (.cons (.tmp rfl) (.cons (.tmp rfl) .nil))) rfl rfl rfl rfl ⟨rfl,rfl⟩)
def c7 (F:Nat) (s0:List Bool):Option (List Bool) :=
 (dF [] s0).bind fun x_2=>some x_2
theorem kL (kr0:Nat) {F:Nat} {s0:List Bool} {r:(List Bool)} (h:c7 F s0 = some r):aC Try.prog [] 52 [] [.one (.sl 1 (s0.map eB))] (Is [(kr0,.row 4 1 (r.map eB))] (.b (.row kr0))):=by
 unfold c7 at h
 refine aC.intro 8 Try.func52 Try.ntmps52 rfl (by simp) fun E=>?_
 show ab _ E ⟨8,[],[],[]⟩ _ ⟨[(0,.b (.one (.sl 1 (s0.map eB))))],[]⟩ _
 refine ab.seq (ab.aa ?_)
 refine Oc oa (ae.ak ⟨[(0,.b (.one (.sl 1 (s0.map eB))))],[]⟩ rfl (ab.seq (ab.seq (ab.aa ?_))))
 refine Oc om (ae.vT und28 rfl (fun nb_1 hnb1=>?_))
 refine ae.ak ⟨[(0,_),(4,B nb_1)],[]⟩ rfl (ab.cond rfl (fun hc2=>?_) (fun _=>?_))
 ·
  obtain rfl:s0 = []:=by simpa using hnb1 hc2
  refine ab.seq (ab.aa ?_)
  refine Oc oa (ae.ak ⟨[(2,.b (.one (.nil)))],[]⟩ rfl (ab.ret (Fin.aq ?_)))
  obtain rfl:[] = r:=by first | (simp [dF] at h; exact h) | (simp [dF] at h; exact h.symm)
  refine Fin.ah ⟨[(2,_)],[]⟩ rfl (Fin.cT 2 101 1 4 rfl (by decide) rfl (Fin.dr 101 kr0 [.row 101] (.inl rfl) rfl (.cons (.tmp rfl) .nil) rfl rfl rfl rfl ⟨rfl,rfl⟩))
 ·refine ab.skip (Fin.ah ⟨[(0,_)],[]⟩ rfl (Fin.then (ab.seq (ab.aa ?_))))
  refine Oc (pE (k:=101) iE rfl) (Oc om ?_)
  obtain ⟨x_2,e3,h⟩:=aR h
  refine Oc (iJ iE (gn e3) (gm e3) rfl rfl rfl (dt e3) rfl) (Oc oa ?_)
  refine ae.ak ⟨[(2,.b (.row 101))],[(101,.row 4 1 (x_2.map eB))]⟩ rfl (ab.ret ?_)
  obtain rfl:=Option.some.inj h
  refine Fin.ah ⟨[(2,_)],[(101,_)]⟩ rfl (Fin.dr 101 kr0 [.row 101] (.inl rfl) rfl (.cons (.tmp rfl) .nil) rfl rfl rfl rfl ⟨rfl,rfl⟩)
def cn (F:Nat) (l0:au) (n0r:Round) (n0out:List au):Option (Round × (List au)) :=
 (aT n0r.Heard l0.From).bind fun x_1=>(aM (!(x_1 || (decide (0 < (IntKind.i64.wrap ((l0.Bodies.length:Int) + (l0.States.length:Int))))))) (b4 F n0r.Home l0.Sets)).bind fun x_2=>if ((x_1 || (decide (0 < (IntKind.i64.wrap ((l0.Bodies.length:Int) + (l0.States.length:Int)))))) || (!x_2)) = true then (some (n0r,n0out)) else ((c7 F n0r.Heard).bind fun x_3=>(aT x_3 l0.From).bind fun x_4=>(bT F [n0r.Sets,l0.Sets]).bind fun x_5=>Option.bind (b8 F (⟨n0r.Me,n0r.Regions,n0r.Step,n0r.Home,x_3.set (l0.From:Int).toNat true,x_5,n0r.States,n0r.Tasks,n0r.Done,n0r.Results⟩:Round) n0out) (eD fun x_6 x_7=>some (x_6,x_7)))
theorem mW {F:Nat} {l0:au} {n0r:Round} {n0out:List au} {r:Round × (List au)} (h:cn F l0 n0r n0out = some r):aC Try.prog [] 62 [(1,.aO 95 [.one (.i n0r.Me),.one (.i n0r.Regions),.one (.i n0r.Step),.one (.sl 1 (n0r.Home.map eI)),.one (.sl 1 (n0r.Heard.map eB)),.one (.sl 1 (n0r.Sets.map (eL 1 eI))),.one (.sl 1 (n0r.States.map eS)),.one (.sl 3 (n0r.Tasks.map an)),.one (.sl 1 (n0r.Done.map eB)),.one (.sl 1 (n0r.Results.map eS)),.row 2]),(2,.row 42 7 (n0out.map af))] [.ptr 1 0,.agg (af l0)] (Is [(1,.aO 95 [.one (.i r.1.Me),.one (.i r.1.Regions),.one (.i r.1.Step),.one (.sl 1 (r.1.Home.map eI)),.one (.sl 1 (r.1.Heard.map eB)),.one (.sl 1 (r.1.Sets.map (eL 1 eI))),.one (.sl 1 (r.1.States.map eS)),.one (.sl 3 (r.1.Tasks.map an)),.one (.sl 1 (r.1.Done.map eB)),.one (.sl 1 (r.1.Results.map eS)),.row 2]),(2,.row 42 7 (r.2.map af))] (.fa [])):=by
 unfold cn at h
 refine aC.intro 67 Try.func62 Try.ntmps62 rfl (by simp) fun E=>?_
 show ab _ E ⟨67,[1],[1,2],[]⟩ _ ⟨[(0,Pt 1 0),(1,.b (.agg (af l0)))],[(1,.aO 95 [.one (.i n0r.Me),.one (.i n0r.Regions),.one (.i n0r.Step),.one (.sl 1 (n0r.Home.map eI)),.one (.sl 1 (n0r.Heard.map eB)),.one (.sl 1 (n0r.Sets.map (eL 1 eI))),.one (.sl 1 (n0r.States.map eS)),.one (.sl 3 (n0r.Tasks.map an)),.one (.sl 1 (n0r.Done.map eB)),.one (.sl 1 (n0r.Results.map eS)),.row 2]),(2,.row 42 7 (n0out.map af))]⟩ _
 refine ab.seq (ab.aa ?_)
 refine Oc (gK (k:=101) rfl rfl) (ae.ak ⟨[(0,Pt 1 0),(3,Pt 101 0)],[(1,.aO 95 [.one (.i n0r.Me),.one (.i n0r.Regions),.one (.i n0r.Step),.one (.sl 1 (n0r.Home.map eI)),.one (.sl 1 (n0r.Heard.map eB)),.one (.sl 1 (n0r.Sets.map (eL 1 eI))),.one (.sl 1 (n0r.States.map eS)),.one (.sl 3 (n0r.Tasks.map an)),.one (.sl 1 (n0r.Done.map eB)),.one (.sl 1 (n0r.Results.map eS)),.row 2]),(2,.row 42 7 (n0out.map af)),(101,.box 42 (af l0))]⟩ rfl (ab.seq (ab.seq ?_)))
 refine ab.ah ⟨[(0,_),(3,_)],[(1,_),(2,_),(101,_)]⟩ rfl ?_
 obtain ⟨x_1,e1,h⟩:=aR h
 obtain ⟨x_2,e18,h⟩:=aR h
 refine ab.fe mixed 30 [Pt 1 0,Pt 1 0,Pt 1 0,Pt 1 4,.b (.one (.sl 1 (n0r.Heard.map eB))),Pt 101 2,I l0.From,.b (.dS [.bool x_1]),B x_1,B x_1,.opt (!x_1) (.ptr 101 5),.opt (!x_1) (.one (.sl 1 (l0.Bodies.map eI))),.opt (!x_1) (.one (.i (l0.Bodies.length:Int))),.opt (!x_1) (.ptr 101 6),.opt (!x_1) (.one (.sl 1 (l0.States.map eS))),.opt (!x_1) (.one (.i (l0.States.length:Int))),.opt (!x_1) (.one (.i (IntKind.i64.wrap ((l0.Bodies.length:Int) + (l0.States.length:Int))))),.opt (!x_1) (.one (.bool (decide (0 < (IntKind.i64.wrap ((l0.Bodies.length:Int) + (l0.States.length:Int))))))),B (x_1 || (decide (0 < (IntKind.i64.wrap ((l0.Bodies.length:Int) + (l0.States.length:Int)))))),B (x_1 || (decide (0 < (IntKind.i64.wrap ((l0.Bodies.length:Int) + (l0.States.length:Int)))))),.opt (!(x_1 || (decide (0 < (IntKind.i64.wrap ((l0.Bodies.length:Int) + (l0.States.length:Int))))))) (.ptr 1 0),.opt (!(x_1 || (decide (0 < (IntKind.i64.wrap ((l0.Bodies.length:Int) + (l0.States.length:Int))))))) (.ptr 1 0),.opt (!(x_1 || (decide (0 < (IntKind.i64.wrap ((l0.Bodies.length:Int) + (l0.States.length:Int))))))) (.ptr 1 0),.opt (!(x_1 || (decide (0 < (IntKind.i64.wrap ((l0.Bodies.length:Int) + (l0.States.length:Int))))))) (.ptr 1 3),.opt (!(x_1 || (decide (0 < (IntKind.i64.wrap ((l0.Bodies.length:Int) + (l0.States.length:Int))))))) (.one (.sl 1 (n0r.Home.map eI))),.opt (!(x_1 || (decide (0 < (IntKind.i64.wrap ((l0.Bodies.length:Int) + (l0.States.length:Int))))))) (.ptr 101 4),.opt (!(x_1 || (decide (0 < (IntKind.i64.wrap ((l0.Bodies.length:Int) + (l0.States.length:Int))))))) (.one (.sl 1 (l0.Sets.map (eL 1 eI)))),.opt (!(x_1 || (decide (0 < (IntKind.i64.wrap ((l0.Bodies.length:Int) + (l0.States.length:Int))))))) (.one (.bool x_2)),.opt (!(x_1 || (decide (0 < (IntKind.i64.wrap ((l0.Bodies.length:Int) + (l0.States.length:Int))))))) (.one (.bool (!x_2))),B ((x_1 || (decide (0 < (IntKind.i64.wrap ((l0.Bodies.length:Int) + (l0.States.length:Int)))))) || (!x_2))] [0,3,33] [1,2,101] (s':=⟨[(0,_),(3,_),(33,B ((x_1 || (decide (0 < (IntKind.i64.wrap ((l0.Bodies.length:Int) + (l0.States.length:Int)))))) || (!x_2)))],[(1,_),(2,_),(101,_)]⟩) rfl ⟨fun _=>.p om,fun _=>.p (aA rfl),fun _=>.p (ag aY rfl rfl),fun _=>.p (ag gX rfl rfl),fun _=>.p (aS fc rfl rfl rfl),fun _=>.p (ag gW rfl rfl),fun _=>.p (av aP rfl rfl rfl),fun _=>.p (ar iE (aK e1) (aE (e:=eB) e1) rfl rfl),fun _=>.p (aw mu rfl rfl),fun _=>.p om,fun _=>by exact .guard (!x_1) 1 [] (.plain rfl) (cE _) rfl rfl (fun g2=>trivial) (fun g2=>ag gi rfl rfl),fun _=>by exact .guard (!x_1) 2 [14] (.plain rfl) (cE _) rfl rfl (fun g3=>⟨g3,trivial⟩) (fun g3=>av bx rfl rfl rfl),fun _=>by exact .guard (!x_1) 2 [15] (.plain rfl) (cE _) rfl rfl (fun g4=>⟨g4,trivial⟩) (fun g4=>ay cc rfl (List.length_map _)),fun _=>by exact .guard (!x_1) 1 [] (.plain rfl) (cE _) rfl rfl (fun g5=>trivial) (fun g5=>ag lh rfl rfl),fun _=>by exact .guard (!x_1) 2 [17] (.plain rfl) (cE _) rfl rfl (fun g6=>⟨g6,trivial⟩) (fun g6=>av dz rfl rfl rfl),fun _=>by exact .guard (!x_1) 2 [18] (.plain rfl) (cE _) rfl rfl (fun g7=>⟨g7,trivial⟩) (fun g7=>ay qp rfl (List.length_map _)),fun _=>by exact .guard (!x_1) 3 [16,19] (.plain rfl) (cE _) rfl rfl (fun g8=>⟨g8,g8,trivial⟩) (fun g8=>bq rfl rfl),fun _=>by exact .guard (!x_1) 2 [20] (.plain rfl) (cE _) rfl rfl (fun g9=>⟨g9,trivial⟩) (fun g9=>jO rfl rfl),fun _=>.p (aL (fun e=>by first | (rw [e]; rfl) | (simp only at e; rw [e]; rfl)) rfl rfl rfl rfl),fun _=>.p om,fun _=>by exact .guard (!(x_1 || (decide (0 < (IntKind.i64.wrap ((l0.Bodies.length:Int) + (l0.States.length:Int))))))) 1 [] (.plain rfl) (cE _) rfl rfl (fun g10=>trivial) (fun g10=>om),fun _=>by exact .guard (!(x_1 || (decide (0 < (IntKind.i64.wrap ((l0.Bodies.length:Int) + (l0.States.length:Int))))))) 2 [24] (.plain rfl) (cE _) rfl rfl (fun g11=>⟨g11,trivial⟩) (fun g11=>aA rfl),fun _=>by exact .guard (!(x_1 || (decide (0 < (IntKind.i64.wrap ((l0.Bodies.length:Int) + (l0.States.length:Int))))))) 2 [25] (.plain rfl) (cE _) rfl rfl (fun g12=>⟨g12,trivial⟩) (fun g12=>ag aY rfl rfl),fun _=>by exact .guard (!(x_1 || (decide (0 < (IntKind.i64.wrap ((l0.Bodies.length:Int) + (l0.States.length:Int))))))) 2 [26] (.plain rfl) (cE _) rfl rfl (fun g13=>⟨g13,trivial⟩) (fun g13=>ag iH rfl rfl),fun _=>by exact .guard (!(x_1 || (decide (0 < (IntKind.i64.wrap ((l0.Bodies.length:Int) + (l0.States.length:Int))))))) 2 [27] (.plain rfl) (cE _) rfl rfl (fun g14=>⟨g14,trivial⟩) (fun g14=>aS bx rfl rfl rfl),fun _=>by exact .guard (!(x_1 || (decide (0 < (IntKind.i64.wrap ((l0.Bodies.length:Int) + (l0.States.length:Int))))))) 1 [] (.plain rfl) (cE _) rfl rfl (fun g15=>trivial) (fun g15=>ag po rfl rfl),fun _=>by exact .guard (!(x_1 || (decide (0 < (IntKind.i64.wrap ((l0.Bodies.length:Int) + (l0.States.length:Int))))))) 2 [29] (.plain rfl) (cE _) rfl rfl (fun g16=>⟨g16,trivial⟩) (fun g16=>av gF rfl rfl rfl),fun _=>by exact .guard (!(x_1 || (decide (0 < (IntKind.i64.wrap ((l0.Bodies.length:Int) + (l0.States.length:Int))))))) 4 [28,30] (.plain rfl) (cE _) rfl rfl (fun g17=>⟨g17,g17,trivial⟩) (fun g17=>aH (eH (gc e18 g17)) sv rfl rfl),fun _=>by exact .guard (!(x_1 || (decide (0 < (IntKind.i64.wrap ((l0.Bodies.length:Int) + (l0.States.length:Int))))))) 2 [31] (.plain rfl) (cE _) rfl rfl (fun g19=>⟨g19,trivial⟩) (fun g19=>dv rfl),fun _=>.p (aL (fun e=>by first | (rw [e]; rfl) | (simp only at e; rw [e]; rfl)) rfl rfl rfl rfl),trivial⟩ rfl rfl ?_
 refine ab.ite h rfl (fun _ h=>?_) (fun _ h=>?_)
 ·refine ab.ret (Fin.aq ?_)
  obtain rfl:=Option.some.inj h
  refine Fin.ah ⟨[],[(1,_),(2,_)]⟩ rfl ?_
  exact Fin.result [] (.inl rfl) rfl (.nil) ⟨rfl,rfl⟩
 ·refine ab.skip (Fin.ah ⟨[(0,_),(3,_)],[(1,_),(2,_),(101,_)]⟩ rfl (Fin.then (ab.seq (ab.aa ?_))))
  refine Oc om (Oc om (Oc (aA rfl) (Oc (ag aY rfl rfl) (Oc (ag gX rfl rfl) (Oc (aS fc rfl rfl rfl) ?_)))))
  refine ae.ah ⟨[(0,_),(3,_),(34,Pt 1 0),(39,.b (.one (.sl 1 (n0r.Heard.map eB))))],[(1,_),(2,_),(101,_)]⟩ rfl ?_
  obtain ⟨x_3,e20,h⟩:=aR h
  refine Oc (bJ (kL 102 e20) xN rfl trivial rfl rfl) (Oc (aA rfl) (Oc (ag aY rfl rfl) (Oc (ag gX rfl rfl) (Oc (ed fc rfl rfl rfl rfl (Nat.le_of_ble_eq_true rfl) rfl) ?_))))
  refine ae.ak ⟨[(0,_),(3,_)],[(1,.aO 95 [.one (.i n0r.Me),.one (.i n0r.Regions),.one (.i n0r.Step),.one (.sl 1 (n0r.Home.map eI)),.row 102,.one (.sl 1 (n0r.Sets.map (eL 1 eI))),.one (.sl 1 (n0r.States.map eS)),.one (.sl 3 (n0r.Tasks.map an)),.one (.sl 1 (n0r.Done.map eB)),.one (.sl 1 (n0r.Results.map eS)),.row 2]),(2,_),(101,_),(102,.row 4 1 (x_3.map eB))]⟩ rfl (ab.seq ?_)
  obtain ⟨x_4,e21,h⟩:=aR h
  refine ab.fe mixed 8 [Pt 1 0,Pt 1 0,Pt 1 0,Pt 1 4,.b (.row 102),Pt 101 2,I l0.From,.b (.cG 102 ((l0.From:Int).toNat * 1))] [0,3] [1,2,101,102] (s':=⟨[(0,_),(3,_)],[(1,_),(2,_),(101,_),(102,.row 4 1 ((x_3.set (l0.From:Int).toNat true).map eB))]⟩) rfl ⟨fun _=>.p om,fun _=>.p (aA rfl),fun _=>.p (ag aY rfl rfl),fun _=>.p (ag gX rfl rfl),fun _=>.p (aS fc rfl rfl rfl),fun _=>.p (ag gW rfl rfl),fun _=>.p (av aP rfl rfl rfl),fun _=>.p (bc iE (aK e21) (cx e21) rfl rfl rfl rfl),trivial⟩ ⟨_,by exact .p (hU (i:=(l0.From:Int).toNat) mu rfl rfl rfl rfl (ow e21) (map_set _ _ _ _)),rfl⟩ rfl (ab.seq (ab.ah ⟨[(0,_),(3,_)],[(1,_),(2,_),(101,_),(102,_)]⟩ rfl ?_))
  obtain ⟨x_5,e22,h⟩:=aR h
  refine ab.fe mixed 13 [Pt 1 0,Pt 1 0,Pt 1 0,Pt 1 0,Pt 1 5,.b (.one (.sl 1 (n0r.Sets.map (eL 1 eI)))),Pt 101 4,.b (.one (.sl 1 (l0.Sets.map (eL 1 eI)))),.b (.one (.sl 1 ([n0r.Sets,l0.Sets].map (eL 1 (eL 1 eI))))),.b (.one (.sl 1 (x_5.map (eL 1 eI)))),Pt 1 0,Pt 1 0,Pt 1 5] [0] [1,2,102] (s':=⟨[(0,Pt 1 0)],[(1,.aO 95 [.one (.i n0r.Me),.one (.i n0r.Regions),.one (.i n0r.Step),.one (.sl 1 (n0r.Home.map eI)),.row 102,.one (.sl 1 (x_5.map (eL 1 eI))),.one (.sl 1 (n0r.States.map eS)),.one (.sl 3 (n0r.Tasks.map an)),.one (.sl 1 (n0r.Done.map eB)),.one (.sl 1 (n0r.Results.map eS)),.row 2]),(2,.row 42 7 (n0out.map af)),(102,.row 4 1 ((x_3.set (l0.From:Int).toNat true).map eB))]⟩) rfl ⟨fun _=>.p om,fun _=>.p om,fun _=>.p (aA rfl),fun _=>.p (ag aY rfl rfl),fun _=>.p (ag nc rfl rfl),fun _=>.p (aS gF rfl rfl rfl),fun _=>.p (ag po rfl rfl),fun _=>.p (av gF rfl rfl rfl),fun _=>.p (cN (es:=[n0r.Sets,l0.Sets].map (eL 1 (eL 1 eI))) jt rfl rfl (bw fun _=>rfl) rfl (by decide) (by decide)),fun _=>.p (aH (dc e22) nU rfl rfl),fun _=>.p (aA rfl),fun _=>.p (ag aY rfl rfl),fun _=>.p (ag nc rfl rfl),trivial⟩ ⟨_,by exact .p (ed gF rfl rfl rfl rfl (Nat.le_of_ble_eq_true rfl) rfl),rfl⟩ rfl (ab.aa (Oc om (ae.br 102 rfl ?_)))
  obtain ⟨⟨x_6,x_7⟩,e23,h⟩:=aR h
  refine Oc (bJ (own_a:=[(1,_),(2,_)]) (jq e23) xP rfl ⟨rfl,rfl,trivial⟩ rfl rfl) (ae.nil ?_)
  obtain rfl:=Option.some.inj h
  refine Fin.ah ⟨[],[(1,.aO 95 [.one (.i x_6.Me),.one (.i x_6.Regions),.one (.i x_6.Step),.one (.sl 1 (x_6.Home.map eI)),.one (.sl 1 (x_6.Heard.map eB)),.one (.sl 1 (x_6.Sets.map (eL 1 eI))),.one (.sl 1 (x_6.States.map eS)),.one (.sl 3 (x_6.Tasks.map an)),.one (.sl 1 (x_6.Done.map eB)),.one (.sl 1 (x_6.Results.map eS)),.row 2]),(2,.row 42 7 (x_7.map af))]⟩ rfl ?_
  exact Fin.result [] (.inr rfl) rfl (.nil) ⟨rfl,rfl⟩
def di (F:Nat) (s0:List Str) (v0:Str):Option Int :=
 Option.bind (iter F (fun x_1=>if (decide (x_1 < (s0.length:Int))) = true then ((aT s0 x_1).bind fun x_2=>if (decide (v0 = x_2)) = true then (some (.inr (.inr x_1))) else (some (.inl (IntKind.i64.wrap (x_1 + 1))))) else (some (.inr (.inl ())))) 0) (bH (fun _=>some (-1)) (fun y=>some y))
theorem nt {F:Nat} {s0:List Str} {v0:Str} {r:Int} (h:di F s0 v0 = some r):aC Try.prog [] 85 [] [.one (.sl 1 (s0.map eS)),.one (.str v0)] (Is [] (.b (.one (.i r)))):=by
 unfold di at h
 refine aC.intro 19 Try.func85 Try.ntmps85 rfl (by simp) fun E=>?_
 show ab _ E ⟨19,[],[],[]⟩ _ ⟨[(0,.b (.one (.sl 1 (s0.map eS)))),(1,.b (.one (.str v0)))],[]⟩ _
 refine ab.seq (ab.aa ?_)
 refine Oc oa (ae.ak ⟨[(0,.b (.one (.sl 1 (s0.map eS)))),(1,.b (.one (.str v0)))],[]⟩ rfl ?_)
 obtain ⟨v1,h2,h⟩:=aR h
 refine ab.cJ (v:=v1) (fun (_:Unit)=>⟨[],[]⟩) (fun z=>.inl z) ?_ ?_
 ·refine ab.seq (ab.aa ?_)
  refine Oc om (Oc (ay qp rfl (List.length_map _)) (Oc om ?_))
  refine ae.ak ⟨[(0,_),(1,_),(7,I (s0.length:Int)),(8,I 0)],[]⟩ rfl (ab.block (ab.ct h2 (fun (x_1:Int)=>⟨[(0,.b (.one (.sl 1 (s0.map eS)))),(1,.b (.one (.str v0))),(7,I (s0.length:Int)),(8,I x_1)],[]⟩) [0,1,7,8] [] rfl ?_))
  rintro x_1 o3 h4 hy5
  refine ab.seq (ab.aa ?_)
  refine Oc (bm rfl rfl) (ae.ak ⟨[(0,_),(1,_),(7,_),(8,_),(9,B (decide (x_1 < (s0.length:Int))))],[]⟩ rfl (ab.seq (ab.ite h4 rfl (fun _ h4=>?_) (fun _ h4=>?_))))
  ·refine ab.skip (Fin.ah ⟨[(0,_),(1,_),(7,_),(8,_)],[]⟩ rfl (Fin.then (ab.seq (ab.block (ab.seq (ab.aa ?_))))))
   refine Oc om (Oc oa ?_)
   refine ae.ak ⟨[(0,_),(1,_),(5,I x_1),(7,_),(8,_)],[]⟩ rfl (ab.seq (ab.aa ?_))
   refine Oc om (Oc om (Oc om ?_))
   obtain ⟨x_2,e6,h4⟩:=aR h4
   refine Oc (ar cS (aK e6) (aE (e:=eS) e6) rfl rfl) (Oc (aw gI rfl rfl) (Oc (jY rfl rfl) ?_))
   refine ae.ak ⟨[(0,_),(1,_),(5,_),(7,_),(8,_),(16,B (decide (v0 = x_2)))],[]⟩ rfl (ab.ite h4 rfl (fun _ h4=>?_) (fun _ h4=>?_))
   ·refine ab.seq (ab.aa ?_)
    refine Oc om (Oc oa ?_)
    refine ae.ak ⟨[(4,I x_1)],[]⟩ rfl (ab.ret (Fin.aD (Fin.aq ?_)))
    obtain rfl:=hy5 _ (Option.some.inj h4).symm
    refine Fin.aq (Fin.aD (Fin.aq ?_))
    obtain rfl:=Option.some.inj h
    refine Fin.ah ⟨[(4,_)],[]⟩ rfl (Fin.bd [.one (.i x_1)] (.inl rfl) rfl (.cons (.tmp rfl) .nil) ⟨rfl,rfl⟩)
   ·refine ab.skip (Fin.ax (Fin.ah ⟨[(0,_),(1,_),(7,_),(8,_)],[]⟩ rfl (Fin.then (ab.aa ?_))))
    refine Oc (bq rfl rfl) (Oc om ?_)
    refine ae.nil ?_
    exact Fin.bK [0,1,7,8] [] (IntKind.i64.wrap (x_1 + 1)) (Option.some.inj h4) rfl
  ·refine ab.exit (Fin.ao ?_)
   obtain rfl:=hy5 _ (Option.some.inj h4).symm
   refine Fin.ao (Fin.aI ?_)
   exact Fin.join [] [] () rfl rfl
 ·rintro _ hv
  subst v1
  refine ab.seq (ab.aa ?_)
  refine Oc oa (ae.ak ⟨[(4,I (-1))],[]⟩ rfl (ab.ret ?_))
  obtain rfl:=Option.some.inj h
  refine Fin.ah ⟨[(4,_)],[]⟩ rfl (Fin.bd [.one (.i (-1))] (.inl rfl) rfl (.cons (.tmp rfl) .nil) ⟨rfl,rfl⟩)
def bP (F:Nat) (s0:List Str) (v0:Str):Option Bool :=
 (di F s0 v0).bind fun x_1=>some (decide (0 ≤ x_1))
theorem fi {F:Nat} {s0:List Str} {v0:Str} {r:Bool} (h:bP F s0 v0 = some r):aC Try.prog [] 51 [] [.one (.sl 1 (s0.map eS)),.one (.str v0)] (Is [] (.b (.one (.bool r)))):=by
 unfold bP at h
 refine aC.intro 9 Try.func51 Try.ntmps51 rfl (by simp) fun E=>?_
 show ab _ E ⟨9,[],[],[]⟩ _ ⟨[(0,.b (.one (.sl 1 (s0.map eS)))),(1,.b (.one (.str v0)))],[]⟩ _
 refine ab.seq (ab.aa ?_)
 refine Oc oa (ae.ak ⟨[(0,.b (.one (.sl 1 (s0.map eS)))),(1,.b (.one (.str v0)))],[]⟩ rfl (ab.seq (ab.aa ?_)))
 refine Oc om (Oc om ?_)
 obtain ⟨x_1,e1,h⟩:=aR h
 refine Oc (aH (nt e1) goes85 rfl rfl) (Oc (fN rfl rfl) (Oc oa ?_))
 refine ae.ak ⟨[(4,B (decide (0 ≤ x_1)))],[]⟩ rfl (ab.ret ?_)
 obtain rfl:=Option.some.inj h
 refine Fin.ah ⟨[(4,_)],[]⟩ rfl (Fin.bd [.one (.bool (decide (0 ≤ x_1)))] (.inl rfl) rfl (.cons (.tmp rfl) .nil) ⟨rfl,rfl⟩)
def bZ (F:Nat) (l0:au) (region0:Int) (n0r:Round) (n0out:List au):Option Bool :=
 (aM ((decide ((l0.Sets.length:Int) = 0)) && (decide ((l0.States.length:Int) = (l0.Bodies.length:Int)))) (bP F l0.States [])).bind fun x_1=>(aM (((decide ((l0.Sets.length:Int) = 0)) && (decide ((l0.States.length:Int) = (l0.Bodies.length:Int)))) && (!x_1)) (b4 F n0r.Home [l0.Bodies])).bind fun x_2=>(aM ((((decide ((l0.Sets.length:Int) = 0)) && (decide ((l0.States.length:Int) = (l0.Bodies.length:Int)))) && (!x_1)) && x_2) (cA F l0.Bodies region0 n0r n0out)).bind fun x_3=>some (((((decide ((l0.Sets.length:Int) = 0)) && (decide ((l0.States.length:Int) = (l0.Bodies.length:Int)))) && (!x_1)) && x_2) && (decide ((x_3.length:Int) = (l0.Bodies.length:Int))))
theorem iz {F:Nat} {l0:au} {region0:Int} {n0r:Round} {n0out:List au} {r:Bool} (h:bZ F l0 region0 n0r n0out = some r):aC Try.prog [] 86 [(1,.aO 95 [.one (.i n0r.Me),.one (.i n0r.Regions),.one (.i n0r.Step),.one (.sl 1 (n0r.Home.map eI)),.one (.sl 1 (n0r.Heard.map eB)),.one (.sl 1 (n0r.Sets.map (eL 1 eI))),.one (.sl 1 (n0r.States.map eS)),.one (.sl 3 (n0r.Tasks.map an)),.one (.sl 1 (n0r.Done.map eB)),.one (.sl 1 (n0r.Results.map eS)),.row 2]),(2,.row 42 7 (n0out.map af))] [.ptr 1 0,.agg (af l0),.one (.i region0)] (Is [(1,.aO 95 [.one (.i n0r.Me),.one (.i n0r.Regions),.one (.i n0r.Step),.one (.sl 1 (n0r.Home.map eI)),.one (.sl 1 (n0r.Heard.map eB)),.one (.sl 1 (n0r.Sets.map (eL 1 eI))),.one (.sl 1 (n0r.States.map eS)),.one (.sl 3 (n0r.Tasks.map an)),.one (.sl 1 (n0r.Done.map eB)),.one (.sl 1 (n0r.Results.map eS)),.row 2]),(2,.row 42 7 (n0out.map af))] (.b (.one (.bool r)))):=by
 unfold bZ at h
 refine aC.intro 49 Try.func86 Try.ntmps86 rfl (by simp) fun E=>?_
 show ab _ E ⟨49,[1],[1,2],[]⟩ _ ⟨[(0,Pt 1 0),(1,.b (.agg (af l0))),(2,I region0)],[(1,.aO 95 [.one (.i n0r.Me),.one (.i n0r.Regions),.one (.i n0r.Step),.one (.sl 1 (n0r.Home.map eI)),.one (.sl 1 (n0r.Heard.map eB)),.one (.sl 1 (n0r.Sets.map (eL 1 eI))),.one (.sl 1 (n0r.States.map eS)),.one (.sl 3 (n0r.Tasks.map an)),.one (.sl 1 (n0r.Done.map eB)),.one (.sl 1 (n0r.Results.map eS)),.row 2]),(2,.row 42 7 (n0out.map af))]⟩ _
 refine ab.seq (ab.aa ?_)
 refine Oc (gK (k:=101) rfl rfl) (Oc oa ?_)
 refine ae.ak ⟨[(0,Pt 1 0),(2,I region0),(4,Pt 101 0)],[(1,.aO 95 [.one (.i n0r.Me),.one (.i n0r.Regions),.one (.i n0r.Step),.one (.sl 1 (n0r.Home.map eI)),.one (.sl 1 (n0r.Heard.map eB)),.one (.sl 1 (n0r.Sets.map (eL 1 eI))),.one (.sl 1 (n0r.States.map eS)),.one (.sl 3 (n0r.Tasks.map an)),.one (.sl 1 (n0r.Done.map eB)),.one (.sl 1 (n0r.Results.map eS)),.row 2]),(2,.row 42 7 (n0out.map af)),(101,.box 42 (af l0))]⟩ rfl (ab.seq ?_)
 obtain ⟨x_1,e1,h⟩:=aR h
 obtain ⟨x_2,e2,h⟩:=aR h
 obtain ⟨x_3,e3,h⟩:=aR h
 refine ab.ff mixed [false,false,false,false,false,false,false,false,false,false,false,false,false,false,false,false,false,false,false,false,false,false,false,false,false,false,false,false,false,false,false,false,false,false,false,true,false,false,false,false,false,false,false] [Pt 101 4,.b (.one (.sl 1 (l0.Sets.map (eL 1 eI)))),I (l0.Sets.length:Int),B (decide ((l0.Sets.length:Int) = 0)),B (decide ((l0.Sets.length:Int) = 0)),.opt (decide ((l0.Sets.length:Int) = 0)) (.ptr 101 6),.opt (decide ((l0.Sets.length:Int) = 0)) (.one (.sl 1 (l0.States.map eS))),.opt (decide ((l0.Sets.length:Int) = 0)) (.one (.i (l0.States.length:Int))),.opt (decide ((l0.Sets.length:Int) = 0)) (.ptr 101 5),.opt (decide ((l0.Sets.length:Int) = 0)) (.one (.sl 1 (l0.Bodies.map eI))),.opt (decide ((l0.Sets.length:Int) = 0)) (.one (.i (l0.Bodies.length:Int))),.opt (decide ((l0.Sets.length:Int) = 0)) (.one (.bool (decide ((l0.States.length:Int) = (l0.Bodies.length:Int))))),B ((decide ((l0.Sets.length:Int) = 0)) && (decide ((l0.States.length:Int) = (l0.Bodies.length:Int)))),B ((decide ((l0.Sets.length:Int) = 0)) && (decide ((l0.States.length:Int) = (l0.Bodies.length:Int)))),.opt ((decide ((l0.Sets.length:Int) = 0)) && (decide ((l0.States.length:Int) = (l0.Bodies.length:Int)))) (.ptr 101 6),.opt ((decide ((l0.Sets.length:Int) = 0)) && (decide ((l0.States.length:Int) = (l0.Bodies.length:Int)))) (.one (.sl 1 (l0.States.map eS))),.opt ((decide ((l0.Sets.length:Int) = 0)) && (decide ((l0.States.length:Int) = (l0.Bodies.length:Int)))) (.one (.bool x_1)),.opt ((decide ((l0.Sets.length:Int) = 0)) && (decide ((l0.States.length:Int) = (l0.Bodies.length:Int)))) (.one (.bool (!x_1))),B (((decide ((l0.Sets.length:Int) = 0)) && (decide ((l0.States.length:Int) = (l0.Bodies.length:Int)))) && (!x_1)),B (((decide ((l0.Sets.length:Int) = 0)) && (decide ((l0.States.length:Int) = (l0.Bodies.length:Int)))) && (!x_1)),.opt (((decide ((l0.Sets.length:Int) = 0)) && (decide ((l0.States.length:Int) = (l0.Bodies.length:Int)))) && (!x_1)) (.ptr 1 0),.opt (((decide ((l0.Sets.length:Int) = 0)) && (decide ((l0.States.length:Int) = (l0.Bodies.length:Int)))) && (!x_1)) (.ptr 1 0),.opt (((decide ((l0.Sets.length:Int) = 0)) && (decide ((l0.States.length:Int) = (l0.Bodies.length:Int)))) && (!x_1)) (.ptr 1 0),.opt (((decide ((l0.Sets.length:Int) = 0)) && (decide ((l0.States.length:Int) = (l0.Bodies.length:Int)))) && (!x_1)) (.ptr 1 3),.opt (((decide ((l0.Sets.length:Int) = 0)) && (decide ((l0.States.length:Int) = (l0.Bodies.length:Int)))) && (!x_1)) (.one (.sl 1 (n0r.Home.map eI))),.opt (((decide ((l0.Sets.length:Int) = 0)) && (decide ((l0.States.length:Int) = (l0.Bodies.length:Int)))) && (!x_1)) (.ptr 101 5),.opt (((decide ((l0.Sets.length:Int) = 0)) && (decide ((l0.States.length:Int) = (l0.Bodies.length:Int)))) && (!x_1)) (.one (.sl 1 (l0.Bodies.map eI))),.opt (((decide ((l0.Sets.length:Int) = 0)) && (decide ((l0.States.length:Int) = (l0.Bodies.length:Int)))) && (!x_1)) (.one (.sl 1 ([l0.Bodies].map (eL 1 eI)))),.opt (((decide ((l0.Sets.length:Int) = 0)) && (decide ((l0.States.length:Int) = (l0.Bodies.length:Int)))) && (!x_1)) (.one (.bool x_2)),B ((((decide ((l0.Sets.length:Int) = 0)) && (decide ((l0.States.length:Int) = (l0.Bodies.length:Int)))) && (!x_1)) && x_2),B ((((decide ((l0.Sets.length:Int) = 0)) && (decide ((l0.States.length:Int) = (l0.Bodies.length:Int)))) && (!x_1)) && x_2),.opt ((((decide ((l0.Sets.length:Int) = 0)) && (decide ((l0.States.length:Int) = (l0.Bodies.length:Int)))) && (!x_1)) && x_2) (.ptr 1 0),.opt ((((decide ((l0.Sets.length:Int) = 0)) && (decide ((l0.States.length:Int) = (l0.Bodies.length:Int)))) && (!x_1)) && x_2) (.ptr 101 5),.opt ((((decide ((l0.Sets.length:Int) = 0)) && (decide ((l0.States.length:Int) = (l0.Bodies.length:Int)))) && (!x_1)) && x_2) (.one (.sl 1 (l0.Bodies.map eI))),.opt ((((decide ((l0.Sets.length:Int) = 0)) && (decide ((l0.States.length:Int) = (l0.Bodies.length:Int)))) && (!x_1)) && x_2) (.one (.i region0)),.opt ((((decide ((l0.Sets.length:Int) = 0)) && (decide ((l0.States.length:Int) = (l0.Bodies.length:Int)))) && (!x_1)) && x_2) (.one (.sl 1 (x_3.map eI))),.opt ((((decide ((l0.Sets.length:Int) = 0)) && (decide ((l0.States.length:Int) = (l0.Bodies.length:Int)))) && (!x_1)) && x_2) (.one (.i (x_3.length:Int))),.opt ((((decide ((l0.Sets.length:Int) = 0)) && (decide ((l0.States.length:Int) = (l0.Bodies.length:Int)))) && (!x_1)) && x_2) (.ptr 101 5),.opt ((((decide ((l0.Sets.length:Int) = 0)) && (decide ((l0.States.length:Int) = (l0.Bodies.length:Int)))) && (!x_1)) && x_2) (.one (.sl 1 (l0.Bodies.map eI))),.opt ((((decide ((l0.Sets.length:Int) = 0)) && (decide ((l0.States.length:Int) = (l0.Bodies.length:Int)))) && (!x_1)) && x_2) (.one (.i (l0.Bodies.length:Int))),.opt ((((decide ((l0.Sets.length:Int) = 0)) && (decide ((l0.States.length:Int) = (l0.Bodies.length:Int)))) && (!x_1)) && x_2) (.one (.bool (decide ((x_3.length:Int) = (l0.Bodies.length:Int))))),B (((((decide ((l0.Sets.length:Int) = 0)) && (decide ((l0.States.length:Int) = (l0.Bodies.length:Int)))) && (!x_1)) && x_2) && (decide ((x_3.length:Int) = (l0.Bodies.length:Int)))),B (((((decide ((l0.Sets.length:Int) = 0)) && (decide ((l0.States.length:Int) = (l0.Bodies.length:Int)))) && (!x_1)) && x_2) && (decide ((x_3.length:Int) = (l0.Bodies.length:Int))))] [⟨[false,false,false,false,false,false,false,false,false,false,false,false,false,false,false,false,false,false,false,false,false,false,false,false,false,false,false,false,false,false,false,false,false,false,false,false,false,false,false,false,false,false,false],[(0,Pt 1 0),(2,I region0),(4,Pt 101 0)],[(1,.aO 95 [.one (.i n0r.Me),.one (.i n0r.Regions),.one (.i n0r.Step),.one (.sl 1 (n0r.Home.map eI)),.one (.sl 1 (n0r.Heard.map eB)),.one (.sl 1 (n0r.Sets.map (eL 1 eI))),.one (.sl 1 (n0r.States.map eS)),.one (.sl 3 (n0r.Tasks.map an)),.one (.sl 1 (n0r.Done.map eB)),.one (.sl 1 (n0r.Results.map eS)),.row 2]),(2,.row 42 7 (n0out.map af)),(101,.box 42 (af l0))],[true,true,true,true,true,true,true,true,true,true,true,true,true,true,true,true,true,true,true,true,true,true,true,true,true,true,true,true,true,true,true,true,true,true,true,true,true,true,true,true,true,true,true],[],[36,40,41,42]⟩,⟨[false,false,false,false,false,false,false,false,false,false,false,false,false,false,false,false,false,false,false,false,false,false,false,false,false,false,false,false,false,false,false,false,false,false,false,true,false,false,false,false,false,false,false],[(0,Pt 1 0),(2,I region0),(4,Pt 101 0)],[(1,.aO 95 [.one (.i n0r.Me),.one (.i n0r.Regions),.one (.i n0r.Step),.one (.sl 1 (n0r.Home.map eI)),.one (.sl 1 (n0r.Heard.map eB)),.one (.sl 1 (n0r.Sets.map (eL 1 eI))),.one (.sl 1 (n0r.States.map eS)),.one (.sl 3 (n0r.Tasks.map an)),.one (.sl 1 (n0r.Done.map eB)),.one (.sl 1 (n0r.Results.map eS)),.row 2]),(2,.row 42 7 (n0out.map af)),(101,.box 42 (af l0))],[true,true,true,true,true,true,true,true,true,true,true,true,true,true,true,true,true,true,true,true,true,true,true,true,true,true,true,true,true,true,true,true,true,true,true,true,true,true,true,true,true,true,true],[0,1,2,3,4,5,6,7,8,9,10,11,12,13,14,15,16,17,18,19,20,21,22,23,24,25,26,27,28,29,30,31,32,33,34,35],[]⟩] rfl (⟨by kernel_rfl,⟨⟨Pt 101 4,fun _=>rfl,fun _=>.p (by exact ag po rfl rfl)⟩,⟨.b (.one (.sl 1 (l0.Sets.map (eL 1 eI)))),fun _=>rfl,fun _=>.p (by exact av gF rfl rfl rfl)⟩,⟨I (l0.Sets.length:Int),fun _=>rfl,fun _=>.p (by exact ay nF rfl (List.length_map _))⟩,⟨B (decide ((l0.Sets.length:Int) = 0)),fun _=>rfl,fun _=>.p (by exact dT rfl rfl)⟩,⟨B (decide ((l0.Sets.length:Int) = 0)),fun _=>rfl,fun _=>.p (by exact az rfl)⟩,⟨.opt (decide ((l0.Sets.length:Int) = 0)) (.ptr 101 6),fun _=>rfl,fun _=>by exact .guard (decide ((l0.Sets.length:Int) = 0)) 1 [] (.plain rfl) (dE _) rfl rfl (fun gg5=>trivial) (fun gg5=>ag lh rfl rfl)⟩,⟨.opt (decide ((l0.Sets.length:Int) = 0)) (.one (.sl 1 (l0.States.map eS))),fun _=>rfl,fun _=>by exact .guard (decide ((l0.Sets.length:Int) = 0)) 2 [12] (.plain rfl) (dE _) rfl rfl (fun gg6=>⟨gg6,trivial⟩) (fun gg6=>av dz rfl rfl rfl)⟩,⟨.opt (decide ((l0.Sets.length:Int) = 0)) (.one (.i (l0.States.length:Int))),fun _=>rfl,fun _=>by exact .guard (decide ((l0.Sets.length:Int) = 0)) 2 [13] (.plain rfl) (dE _) rfl rfl (fun gg7=>⟨gg7,trivial⟩) (fun gg7=>ay qp rfl (List.length_map _))⟩,⟨.opt (decide ((l0.Sets.length:Int) = 0)) (.ptr 101 5),fun _=>rfl,fun _=>by exact .guard (decide ((l0.Sets.length:Int) = 0)) 1 [] (.plain rfl) (dE _) rfl rfl (fun gg8=>trivial) (fun gg8=>ag gi rfl rfl)⟩,⟨.opt (decide ((l0.Sets.length:Int) = 0)) (.one (.sl 1 (l0.Bodies.map eI))),fun _=>rfl,fun _=>by exact .guard (decide ((l0.Sets.length:Int) = 0)) 2 [15] (.plain rfl) (dE _) rfl rfl (fun gg9=>⟨gg9,trivial⟩) (fun gg9=>av bx rfl rfl rfl)⟩,⟨.opt (decide ((l0.Sets.length:Int) = 0)) (.one (.i (l0.Bodies.length:Int))),fun _=>rfl,fun _=>by exact .guard (decide ((l0.Sets.length:Int) = 0)) 2 [16] (.plain rfl) (dE _) rfl rfl (fun gg10=>⟨gg10,trivial⟩) (fun gg10=>ay cc rfl (List.length_map _))⟩,⟨.opt (decide ((l0.Sets.length:Int) = 0)) (.one (.bool (decide ((l0.States.length:Int) = (l0.Bodies.length:Int))))),fun _=>rfl,fun _=>by exact .guard (decide ((l0.Sets.length:Int) = 0)) 3 [14,17] (.plain rfl) (dE _) rfl rfl (fun gg11=>⟨gg11,gg11,trivial⟩) (fun gg11=>dT rfl rfl)⟩,⟨B ((decide ((l0.Sets.length:Int) = 0)) && (decide ((l0.States.length:Int) = (l0.Bodies.length:Int)))),fun _=>rfl,fun _=>.p (by exact bS (fun e=>e) rfl rfl rfl rfl)⟩,⟨B ((decide ((l0.Sets.length:Int) = 0)) && (decide ((l0.States.length:Int) = (l0.Bodies.length:Int)))),fun _=>rfl,fun _=>.p (by exact az rfl)⟩,⟨.opt ((decide ((l0.Sets.length:Int) = 0)) && (decide ((l0.States.length:Int) = (l0.Bodies.length:Int)))) (.ptr 101 6),fun _=>rfl,fun _=>by exact .guard ((decide ((l0.Sets.length:Int) = 0)) && (decide ((l0.States.length:Int) = (l0.Bodies.length:Int)))) 1 [] (.plain rfl) (dE _) rfl rfl (fun gg14=>trivial) (fun gg14=>ag lh rfl rfl)⟩,⟨.opt ((decide ((l0.Sets.length:Int) = 0)) && (decide ((l0.States.length:Int) = (l0.Bodies.length:Int)))) (.one (.sl 1 (l0.States.map eS))),fun _=>rfl,fun _=>by exact .guard ((decide ((l0.Sets.length:Int) = 0)) && (decide ((l0.States.length:Int) = (l0.Bodies.length:Int)))) 2 [21] (.plain rfl) (dE _) rfl rfl (fun gg15=>⟨gg15,trivial⟩) (fun gg15=>av dz rfl rfl rfl)⟩,⟨.opt ((decide ((l0.Sets.length:Int) = 0)) && (decide ((l0.States.length:Int) = (l0.Bodies.length:Int)))) (.one (.bool x_1)),fun _=>rfl,fun _=>by exact .guard ((decide ((l0.Sets.length:Int) = 0)) && (decide ((l0.States.length:Int) = (l0.Bodies.length:Int)))) 3 [22] (.plain rfl) (dE _) rfl rfl (fun gg16=>⟨gg16,trivial⟩) (fun gg16=>aH (fi (gc e1 gg16)) uA rfl rfl)⟩,⟨.opt ((decide ((l0.Sets.length:Int) = 0)) && (decide ((l0.States.length:Int) = (l0.Bodies.length:Int)))) (.one (.bool (!x_1))),fun _=>rfl,fun _=>by exact .guard ((decide ((l0.Sets.length:Int) = 0)) && (decide ((l0.States.length:Int) = (l0.Bodies.length:Int)))) 2 [23] (.plain rfl) (dE _) rfl rfl (fun gg17=>⟨gg17,trivial⟩) (fun gg17=>dv rfl)⟩,⟨B (((decide ((l0.Sets.length:Int) = 0)) && (decide ((l0.States.length:Int) = (l0.Bodies.length:Int)))) && (!x_1)),fun _=>rfl,fun _=>.p (by exact bS (fun e=>e) rfl rfl rfl rfl)⟩,⟨B (((decide ((l0.Sets.length:Int) = 0)) && (decide ((l0.States.length:Int) = (l0.Bodies.length:Int)))) && (!x_1)),fun _=>rfl,fun _=>.p (by exact az rfl)⟩,⟨.opt (((decide ((l0.Sets.length:Int) = 0)) && (decide ((l0.States.length:Int) = (l0.Bodies.length:Int)))) && (!x_1)) (.ptr 1 0),fun _=>rfl,fun _=>by exact .guard (((decide ((l0.Sets.length:Int) = 0)) && (decide ((l0.States.length:Int) = (l0.Bodies.length:Int)))) && (!x_1)) 1 [] (.plain rfl) (dE _) rfl rfl (fun gg20=>trivial) (fun gg20=>om)⟩,⟨.opt (((decide ((l0.Sets.length:Int) = 0)) && (decide ((l0.States.length:Int) = (l0.Bodies.length:Int)))) && (!x_1)) (.ptr 1 0),fun _=>rfl,fun _=>by exact .guard (((decide ((l0.Sets.length:Int) = 0)) && (decide ((l0.States.length:Int) = (l0.Bodies.length:Int)))) && (!x_1)) 2 [27] (.plain rfl) (dE _) rfl rfl (fun gg21=>⟨gg21,trivial⟩) (fun gg21=>aA rfl)⟩,⟨.opt (((decide ((l0.Sets.length:Int) = 0)) && (decide ((l0.States.length:Int) = (l0.Bodies.length:Int)))) && (!x_1)) (.ptr 1 0),fun _=>rfl,fun _=>by exact .guard (((decide ((l0.Sets.length:Int) = 0)) && (decide ((l0.States.length:Int) = (l0.Bodies.length:Int)))) && (!x_1)) 2 [28] (.plain rfl) (dE _) rfl rfl (fun gg22=>⟨gg22,trivial⟩) (fun gg22=>ag aY rfl rfl)⟩,⟨.opt (((decide ((l0.Sets.length:Int) = 0)) && (decide ((l0.States.length:Int) = (l0.Bodies.length:Int)))) && (!x_1)) (.ptr 1 3),fun _=>rfl,fun _=>by exact .guard (((decide ((l0.Sets.length:Int) = 0)) && (decide ((l0.States.length:Int) = (l0.Bodies.length:Int)))) && (!x_1)) 2 [29] (.plain rfl) (dE _) rfl rfl (fun gg23=>⟨gg23,trivial⟩) (fun gg23=>ag iH rfl rfl)⟩,⟨.opt (((decide ((l0.Sets.length:Int) = 0)) && (decide ((l0.States.length:Int) = (l0.Bodies.length:Int)))) && (!x_1)) (.one (.sl 1 (n0r.Home.map eI))),fun _=>rfl,fun _=>by exact .guard (((decide ((l0.Sets.length:Int) = 0)) && (decide ((l0.States.length:Int) = (l0.Bodies.length:Int)))) && (!x_1)) 2 [30] (.plain rfl) (dE _) rfl rfl (fun gg24=>⟨gg24,trivial⟩) (fun gg24=>aS bx rfl rfl rfl)⟩,⟨.opt (((decide ((l0.Sets.length:Int) = 0)) && (decide ((l0.States.length:Int) = (l0.Bodies.length:Int)))) && (!x_1)) (.ptr 101 5),fun _=>rfl,fun _=>by exact .guard (((decide ((l0.Sets.length:Int) = 0)) && (decide ((l0.States.length:Int) = (l0.Bodies.length:Int)))) && (!x_1)) 1 [] (.plain rfl) (dE _) rfl rfl (fun gg25=>trivial) (fun gg25=>ag gi rfl rfl)⟩,⟨.opt (((decide ((l0.Sets.length:Int) = 0)) && (decide ((l0.States.length:Int) = (l0.Bodies.length:Int)))) && (!x_1)) (.one (.sl 1 (l0.Bodies.map eI))),fun _=>rfl,fun _=>by exact .guard (((decide ((l0.Sets.length:Int) = 0)) && (decide ((l0.States.length:Int) = (l0.Bodies.length:Int)))) && (!x_1)) 2 [32] (.plain rfl) (dE _) rfl rfl (fun gg26=>⟨gg26,trivial⟩) (fun gg26=>av bx rfl rfl rfl)⟩,⟨.opt (((decide ((l0.Sets.length:Int) = 0)) && (decide ((l0.States.length:Int) = (l0.Bodies.length:Int)))) && (!x_1)) (.one (.sl 1 ([l0.Bodies].map (eL 1 eI)))),fun _=>rfl,fun _=>by exact .guard (((decide ((l0.Sets.length:Int) = 0)) && (decide ((l0.States.length:Int) = (l0.Bodies.length:Int)))) && (!x_1)) 2 [33] (.plain rfl) (dE _) rfl rfl (fun gg27=>⟨gg27,trivial⟩) (fun gg27=>cN (es:=[l0.Bodies].map (eL 1 eI)) er rfl rfl (bw fun _=>rfl) rfl (by decide) (by decide))⟩,⟨.opt (((decide ((l0.Sets.length:Int) = 0)) && (decide ((l0.States.length:Int) = (l0.Bodies.length:Int)))) && (!x_1)) (.one (.bool x_2)),fun _=>rfl,fun _=>by exact .guard (((decide ((l0.Sets.length:Int) = 0)) && (decide ((l0.States.length:Int) = (l0.Bodies.length:Int)))) && (!x_1)) 4 [31,34] (.plain rfl) (dE _) rfl rfl (fun gg28=>⟨gg28,gg28,trivial⟩) (fun gg28=>aH (eH (gc e2 gg28)) sv rfl rfl)⟩,⟨B ((((decide ((l0.Sets.length:Int) = 0)) && (decide ((l0.States.length:Int) = (l0.Bodies.length:Int)))) && (!x_1)) && x_2),fun _=>rfl,fun _=>.p (by exact bS (fun e=>e) rfl rfl rfl rfl)⟩,⟨B ((((decide ((l0.Sets.length:Int) = 0)) && (decide ((l0.States.length:Int) = (l0.Bodies.length:Int)))) && (!x_1)) && x_2),fun _=>rfl,fun _=>.p (by exact az rfl)⟩,⟨.opt ((((decide ((l0.Sets.length:Int) = 0)) && (decide ((l0.States.length:Int) = (l0.Bodies.length:Int)))) && (!x_1)) && x_2) (.ptr 1 0),fun _=>rfl,fun _=>by exact .guard ((((decide ((l0.Sets.length:Int) = 0)) && (decide ((l0.States.length:Int) = (l0.Bodies.length:Int)))) && (!x_1)) && x_2) 1 [] (.plain rfl) (dE _) rfl rfl (fun gg31=>trivial) (fun gg31=>om)⟩,⟨.opt ((((decide ((l0.Sets.length:Int) = 0)) && (decide ((l0.States.length:Int) = (l0.Bodies.length:Int)))) && (!x_1)) && x_2) (.ptr 101 5),fun _=>rfl,fun _=>by exact .guard ((((decide ((l0.Sets.length:Int) = 0)) && (decide ((l0.States.length:Int) = (l0.Bodies.length:Int)))) && (!x_1)) && x_2) 1 [] (.plain rfl) (dE _) rfl rfl (fun gg32=>trivial) (fun gg32=>ag gi rfl rfl)⟩,⟨.opt ((((decide ((l0.Sets.length:Int) = 0)) && (decide ((l0.States.length:Int) = (l0.Bodies.length:Int)))) && (!x_1)) && x_2) (.one (.sl 1 (l0.Bodies.map eI))),fun _=>rfl,fun _=>by exact .guard ((((decide ((l0.Sets.length:Int) = 0)) && (decide ((l0.States.length:Int) = (l0.Bodies.length:Int)))) && (!x_1)) && x_2) 2 [39] (.plain rfl) (dE _) rfl rfl (fun gg33=>⟨gg33,trivial⟩) (fun gg33=>av bx rfl rfl rfl)⟩,⟨.opt ((((decide ((l0.Sets.length:Int) = 0)) && (decide ((l0.States.length:Int) = (l0.Bodies.length:Int)))) && (!x_1)) && x_2) (.one (.i region0)),fun _=>rfl,fun _=>by exact .guard ((((decide ((l0.Sets.length:Int) = 0)) && (decide ((l0.States.length:Int) = (l0.Bodies.length:Int)))) && (!x_1)) && x_2) 1 [] (.plain rfl) (dE _) rfl rfl (fun gg34=>trivial) (fun gg34=>om)⟩,⟨_,[2],.opt ((((decide ((l0.Sets.length:Int) = 0)) && (decide ((l0.States.length:Int) = (l0.Bodies.length:Int)))) && (!x_1)) && x_2) (.one (.sl 1 (x_3.map eI))),rfl,fun _=>rfl,rfl,rfl,fun _=>.mc [1,2,101] (by exact by exact .guardD [2] ((((decide ((l0.Sets.length:Int) = 0)) && (decide ((l0.States.length:Int) = (l0.Bodies.length:Int)))) && (!x_1)) && x_2) 5 [38,40,41] (.plain rfl) (dE _) rfl rfl (fun gg35=>⟨gg35,gg35,gg35,trivial⟩) (fun gg35=>(bJ (own_a:=[(1,_),(2,_)]) (((gR (gc e3 gg35)).sw 51 103).th 103 rfl) su rfl ⟨rfl,rfl,trivial⟩ rfl rfl).mc [1,2,101] rfl)) (by exact rfl)⟩,trivial,⟨.opt ((((decide ((l0.Sets.length:Int) = 0)) && (decide ((l0.States.length:Int) = (l0.Bodies.length:Int)))) && (!x_1)) && x_2) (.ptr 101 5),fun _=>rfl,fun _=>by exact .guard ((((decide ((l0.Sets.length:Int) = 0)) && (decide ((l0.States.length:Int) = (l0.Bodies.length:Int)))) && (!x_1)) && x_2) 1 [] (.plain rfl) (dE _) rfl rfl (fun gg37=>trivial) (fun gg37=>ag gi rfl rfl)⟩,⟨.opt ((((decide ((l0.Sets.length:Int) = 0)) && (decide ((l0.States.length:Int) = (l0.Bodies.length:Int)))) && (!x_1)) && x_2) (.one (.sl 1 (l0.Bodies.map eI))),fun _=>rfl,fun _=>by exact .guard ((((decide ((l0.Sets.length:Int) = 0)) && (decide ((l0.States.length:Int) = (l0.Bodies.length:Int)))) && (!x_1)) && x_2) 2 [44] (.plain rfl) (dE _) rfl rfl (fun gg38=>⟨gg38,trivial⟩) (fun gg38=>av bx rfl rfl rfl)⟩,⟨.opt ((((decide ((l0.Sets.length:Int) = 0)) && (decide ((l0.States.length:Int) = (l0.Bodies.length:Int)))) && (!x_1)) && x_2) (.one (.i (l0.Bodies.length:Int))),fun _=>rfl,fun _=>by exact .guard ((((decide ((l0.Sets.length:Int) = 0)) && (decide ((l0.States.length:Int) = (l0.Bodies.length:Int)))) && (!x_1)) && x_2) 2 [45] (.plain rfl) (dE _) rfl rfl (fun gg39=>⟨gg39,trivial⟩) (fun gg39=>ay cc rfl (List.length_map _))⟩,trivial,trivial,trivial,trivial⟩,⟨by kernel_rfl,⟨trivial,trivial,trivial,trivial,trivial,trivial,trivial,trivial,trivial,trivial,trivial,trivial,trivial,trivial,trivial,trivial,trivial,trivial,trivial,trivial,trivial,trivial,trivial,trivial,trivial,trivial,trivial,trivial,trivial,trivial,trivial,trivial,trivial,trivial,trivial,trivial,⟨.opt ((((decide ((l0.Sets.length:Int) = 0)) && (decide ((l0.States.length:Int) = (l0.Bodies.length:Int)))) && (!x_1)) && x_2) (.one (.i (x_3.length:Int))),fun _=>rfl,fun _=>by exact .guard ((((decide ((l0.Sets.length:Int) = 0)) && (decide ((l0.States.length:Int) = (l0.Bodies.length:Int)))) && (!x_1)) && x_2) 2 [42] (.plain rfl) (dE _) rfl rfl (fun gg36=>⟨gg36,trivial⟩) (fun gg36=>ay cc rfl (List.length_map _))⟩,⟨.opt ((((decide ((l0.Sets.length:Int) = 0)) && (decide ((l0.States.length:Int) = (l0.Bodies.length:Int)))) && (!x_1)) && x_2) (.ptr 101 5),fun _=>rfl,fun _=>by exact .guard ((((decide ((l0.Sets.length:Int) = 0)) && (decide ((l0.States.length:Int) = (l0.Bodies.length:Int)))) && (!x_1)) && x_2) 1 [] (.plain rfl) (dE _) rfl rfl (fun gg37=>trivial) (fun gg37=>ag gi rfl rfl)⟩,⟨.opt ((((decide ((l0.Sets.length:Int) = 0)) && (decide ((l0.States.length:Int) = (l0.Bodies.length:Int)))) && (!x_1)) && x_2) (.one (.sl 1 (l0.Bodies.map eI))),fun _=>rfl,fun _=>by exact .guard ((((decide ((l0.Sets.length:Int) = 0)) && (decide ((l0.States.length:Int) = (l0.Bodies.length:Int)))) && (!x_1)) && x_2) 2 [44] (.plain rfl) (dE _) rfl rfl (fun gg38=>⟨gg38,trivial⟩) (fun gg38=>av bx rfl rfl rfl)⟩,⟨.opt ((((decide ((l0.Sets.length:Int) = 0)) && (decide ((l0.States.length:Int) = (l0.Bodies.length:Int)))) && (!x_1)) && x_2) (.one (.i (l0.Bodies.length:Int))),fun _=>rfl,fun _=>by exact .guard ((((decide ((l0.Sets.length:Int) = 0)) && (decide ((l0.States.length:Int) = (l0.Bodies.length:Int)))) && (!x_1)) && x_2) 2 [45] (.plain rfl) (dE _) rfl rfl (fun gg39=>⟨gg39,trivial⟩) (fun gg39=>ay cc rfl (List.length_map _))⟩,⟨.opt ((((decide ((l0.Sets.length:Int) = 0)) && (decide ((l0.States.length:Int) = (l0.Bodies.length:Int)))) && (!x_1)) && x_2) (.one (.bool (decide ((x_3.length:Int) = (l0.Bodies.length:Int))))),fun _=>rfl,fun _=>by exact .guard ((((decide ((l0.Sets.length:Int) = 0)) && (decide ((l0.States.length:Int) = (l0.Bodies.length:Int)))) && (!x_1)) && x_2) 3 [43,46] (.plain rfl) (dE _) rfl rfl (fun gg40=>⟨gg40,gg40,trivial⟩) (fun gg40=>dT rfl rfl)⟩,⟨B (((((decide ((l0.Sets.length:Int) = 0)) && (decide ((l0.States.length:Int) = (l0.Bodies.length:Int)))) && (!x_1)) && x_2) && (decide ((x_3.length:Int) = (l0.Bodies.length:Int)))),fun _=>rfl,fun _=>.p (by exact bS (fun e=>e) rfl rfl rfl rfl)⟩,⟨B (((((decide ((l0.Sets.length:Int) = 0)) && (decide ((l0.States.length:Int) = (l0.Bodies.length:Int)))) && (!x_1)) && x_2) && (decide ((x_3.length:Int) = (l0.Bodies.length:Int)))),fun _=>rfl,fun _=>.p (by exact cH rfl)⟩,trivial⟩,trivial⟩⟩) rfl rfl rfl [6] [1,2] (s':=⟨[(6,B (((((decide ((l0.Sets.length:Int) = 0)) && (decide ((l0.States.length:Int) = (l0.Bodies.length:Int)))) && (!x_1)) && x_2) && (decide ((x_3.length:Int) = (l0.Bodies.length:Int)))))],[(1,_),(2,_)]⟩) rfl ?_
 refine ab.ret ?_
 obtain rfl:=Option.some.inj h
 refine Fin.ah ⟨[(6,_)],[(1,_),(2,_)]⟩ rfl ?_
 exact Fin.result [.one (.bool (((((decide ((l0.Sets.length:Int) = 0)) && (decide ((l0.States.length:Int) = (l0.Bodies.length:Int)))) && (!x_1)) && x_2) && (decide ((x_3.length:Int) = (l0.Bodies.length:Int)))))] (.inl rfl) rfl (.cons (.tmp rfl) .nil) ⟨rfl,rfl⟩
def cX (F:Nat) (old0:List Str) (bodies0:List Int) (states0:List Str):Option (List Str) :=
 Option.bind (mk? ([]:Str) (old0.length:Int) (old0.length:Int)) (fun x_1=>Option.bind (iter F (eD fun out_3 x_4=>if (decide (x_4 < (bodies0.length:Int))) = true then (Option.bind ((aT bodies0 x_4).bind fun x_7=>(aT out_3 x_7).bind fun x_8=>if (decide (x_8 = [])) = true then ((aT states0 x_4).bind fun x_9=>(aT out_3 x_7).bind fun x_10=>some (out_3.set (x_7:Int).toNat x_9)) else (some out_3)) (fun out_6=>some (.inl (out_6,IntKind.i64.wrap (x_4 + 1))))) else (some (.inr out_3))) (la x_1 old0,0)) (fun out_2=>some out_2))
theorem iQ (kr0:Nat) {F:Nat} {old0:List Str} {bodies0:List Int} {states0:List Str} {r:(List Str)} (h:cX F old0 bodies0 states0 = some r):aC Try.prog [] 54 [] [.one (.sl 1 (old0.map eS)),.one (.sl 1 (bodies0.map eI)),.one (.sl 1 (states0.map eS))] (Is [(kr0,.row 9 1 (r.map eS))] (.b (.row kr0))):=by
 unfold cX at h
 refine aC.intro 37 Try.func54 Try.ntmps54 rfl (by simp) fun E=>?_
 show ab _ E ⟨37,[],[],[]⟩ _ ⟨[(0,.b (.one (.sl 1 (old0.map eS)))),(1,.b (.one (.sl 1 (bodies0.map eI)))),(2,.b (.one (.sl 1 (states0.map eS))))],[]⟩ _
 refine ab.seq (ab.aa ?_)
 refine Oc oa (ae.ak ⟨[(0,.b (.one (.sl 1 (old0.map eS)))),(1,.b (.one (.sl 1 (bodies0.map eI)))),(2,.b (.one (.sl 1 (states0.map eS))))],[]⟩ rfl (ab.seq (ab.aa ?_)))
 refine Oc om (Oc (ay qp rfl (List.length_map _)) ?_)
 obtain ⟨x_1,e1,h⟩:=aR h
 refine Oc (ee (k:=101) (enc:=eS) cS e1 (by decide) (.cons .refl .nil) rfl rfl rfl) (Oc oa ?_)
 refine ae.ak ⟨[(0,_),(1,_),(2,_),(7,.b (.row 101))],[(101,.row 9 1 (x_1.map eS))]⟩ rfl (ab.seq (ab.aa ?_))
 refine Oc om (Oc om (Oc (tU cS rfl rfl rfl (yx _ _ _) rfl rfl rfl) ?_))
 refine ae.ak ⟨[(1,_),(2,_),(7,_)],[(101,.row 9 1 ((la x_1 old0).map eS))]⟩ rfl ?_
 obtain ⟨v2,h3,h⟩:=aR h
 refine ab.cJ (v:=v2) (fun (out_2:List Str)=>⟨[(7,.b (.row 101))],[(101,.row 9 1 (out_2.map eS))]⟩) (fun z=>z) ?_ ?_
 ·refine ab.seq (ab.aa ?_)
  refine Oc om (Oc (ay cc rfl (List.length_map _)) (Oc om ?_))
  refine ae.ak ⟨[(2,_),(7,_),(16,.b (.one (.sl 1 (bodies0.map eI)))),(17,I (bodies0.length:Int)),(18,I 0)],[(101,_)]⟩ rfl (ab.block (ab.ct h3 (eD fun (out_3:List Str) (x_4:Int)=>⟨[(2,.b (.one (.sl 1 (states0.map eS)))),(7,.b (.row 101)),(16,.b (.one (.sl 1 (bodies0.map eI)))),(17,I (bodies0.length:Int)),(18,I x_4)],[(101,.row 9 1 (out_3.map eS))]⟩) [2,7,16,17,18] [101] rfl ?_))
  rintro ⟨out_3,x_4⟩ o4 h5 hy6
  refine ab.seq (ab.aa ?_)
  refine Oc (bm rfl rfl) (ae.ak ⟨[(2,_),(7,_),(16,_),(17,_),(18,_),(19,B (decide (x_4 < (bodies0.length:Int))))],[(101,_)]⟩ rfl (ab.seq (ab.ite h5 rfl (fun _ h5=>?_) (fun _ h5=>?_))))
  ·refine ab.skip (Fin.ah ⟨[(2,_),(7,_),(16,_),(17,_),(18,_)],[(101,_)]⟩ rfl (Fin.then ?_))
   obtain ⟨v7,h8,h5⟩:=aR h5
   refine ab.cJ (v:=v7) (fun (out_6:List Str)=>⟨[(2,.b (.one (.sl 1 (states0.map eS)))),(7,.b (.row 101)),(16,.b (.one (.sl 1 (bodies0.map eI)))),(17,I (bodies0.length:Int)),(18,I x_4)],[(101,.row 9 1 (out_6.map eS))]⟩) (fun z=>z) ?_ ?_
   ·refine ab.block (ab.seq (ab.aa ?_))
    refine Oc om ?_
    obtain ⟨x_7,e9,h8⟩:=aR h8
    refine Oc (ar ba (aK e9) (aE (e:=eI) e9) rfl rfl) (Oc (aw aP rfl rfl) (Oc oa (Oc oa ?_)))
    refine ae.ak ⟨[(2,_),(7,_),(8,I x_4),(9,I x_7),(16,_),(17,_),(18,_)],[(101,_)]⟩ rfl (ab.seq (ab.aa ?_))
    refine Oc om (Oc om ?_)
    obtain ⟨x_8,e10,h8⟩:=aR h8
    refine Oc (bc cS (aK e10) (cx e10) rfl rfl rfl rfl) (Oc (c6 (i:=(x_7:Int).toNat) (f:=0) gI rfl rfl rfl (aE (e:=eS) e10) rfl) (Oc (jY rfl rfl) ?_))
    refine ae.ak ⟨[(2,_),(7,_),(8,_),(9,_),(16,_),(17,_),(18,_),(27,B (decide (x_8 = [])))],[(101,_)]⟩ rfl (ab.ite h8 rfl (fun _ h8=>?_) (fun _ h8=>?_))
    ·refine ab.aa (Oc om (Oc om (Oc om (Oc om ?_))))
     obtain ⟨x_9,e11,h8⟩:=aR h8
     refine Oc (ar cS (aK e11) (aE (e:=eS) e11) rfl rfl) (Oc (aw gI rfl rfl) ?_)
     obtain ⟨x_10,e12,h8⟩:=aR h8
     refine Oc (bc cS (aK e12) (cx e12) rfl rfl rfl rfl) (Oc (hU (i:=(x_7:Int).toNat) gI rfl rfl rfl rfl (ow e12) (map_set _ _ _ _)) ?_)
     refine ae.nil (Fin.ax ?_)
     exact Fin.join [2,7,16,17,18] [101] (out_3.set (x_7:Int).toNat x_9) (Option.some.inj h8) rfl
    ·refine ab.skip (Fin.ax ?_)
     exact Fin.join [2,7,16,17,18] [101] out_3 (Option.some.inj h8) rfl
   ·rintro out_6 hv
    subst v7
    refine ab.aa (Oc (bq rfl rfl) (Oc om ?_))
    refine ae.nil ?_
    exact Fin.bK [2,7,16,17,18] [101] (out_6,IntKind.i64.wrap (x_4 + 1)) (Option.some.inj h5) rfl
  ·refine ab.exit (Fin.ao ?_)
   obtain rfl:=hy6 _ (Option.some.inj h5).symm
   refine Fin.ao (Fin.aI ?_)
   exact Fin.join [7] [101] out_3 rfl rfl
 ·rintro out_2 hv
  subst v2
  refine ab.seq (ab.aa ?_)
  refine Oc om (Oc oa ?_)
  refine ae.ak ⟨[(6,.b (.row 101))],[(101,_)]⟩ rfl (ab.ret ?_)
  obtain rfl:=Option.some.inj h
  refine Fin.ah ⟨[(6,_)],[(101,_)]⟩ rfl (Fin.dr 101 kr0 [.row 101] (.inl rfl) rfl (.cons (.tmp rfl) .nil) rfl rfl rfl rfl ⟨rfl,rfl⟩)
def cg (F:Nat) (l0:au) (n0r:Round) (n0out:List au):Option Round :=
 (bZ F l0 l0.From n0r n0out).bind fun x_1=>if x_1 = true then ((cX F n0r.States l0.Bodies l0.States).bind fun x_2=>some (⟨n0r.Me,n0r.Regions,n0r.Step,n0r.Home,n0r.Heard,n0r.Sets,x_2,n0r.Tasks,n0r.Done,n0r.Results⟩:Round)) else (some n0r)
theorem l8 {F:Nat} {l0:au} {n0r:Round} {n0out:List au} {r:Round} (h:cg F l0 n0r n0out = some r):aC Try.prog [] 63 [(1,.aO 95 [.one (.i n0r.Me),.one (.i n0r.Regions),.one (.i n0r.Step),.one (.sl 1 (n0r.Home.map eI)),.one (.sl 1 (n0r.Heard.map eB)),.one (.sl 1 (n0r.Sets.map (eL 1 eI))),.one (.sl 1 (n0r.States.map eS)),.one (.sl 3 (n0r.Tasks.map an)),.one (.sl 1 (n0r.Done.map eB)),.one (.sl 1 (n0r.Results.map eS)),.row 2]),(2,.row 42 7 (n0out.map af))] [.ptr 1 0,.agg (af l0)] (Is [(1,.aO 95 [.one (.i r.Me),.one (.i r.Regions),.one (.i r.Step),.one (.sl 1 (r.Home.map eI)),.one (.sl 1 (r.Heard.map eB)),.one (.sl 1 (r.Sets.map (eL 1 eI))),.one (.sl 1 (r.States.map eS)),.one (.sl 3 (r.Tasks.map an)),.one (.sl 1 (r.Done.map eB)),.one (.sl 1 (r.Results.map eS)),.row 2]),(2,.row 42 7 (n0out.map af))] (.fa [])):=by
 unfold cg at h
 refine aC.intro 23 Try.func63 Try.ntmps63 rfl (by simp) fun E=>?_
 show ab _ E ⟨23,[1],[1,2],[]⟩ _ ⟨[(0,Pt 1 0),(1,.b (.agg (af l0)))],[(1,.aO 95 [.one (.i n0r.Me),.one (.i n0r.Regions),.one (.i n0r.Step),.one (.sl 1 (n0r.Home.map eI)),.one (.sl 1 (n0r.Heard.map eB)),.one (.sl 1 (n0r.Sets.map (eL 1 eI))),.one (.sl 1 (n0r.States.map eS)),.one (.sl 3 (n0r.Tasks.map an)),.one (.sl 1 (n0r.Done.map eB)),.one (.sl 1 (n0r.Results.map eS)),.row 2]),(2,.row 42 7 (n0out.map af))]⟩ _
 refine ab.seq (ab.aa ?_)
 refine Oc (gK (k:=101) rfl rfl) (ae.ak ⟨[(0,Pt 1 0),(3,Pt 101 0)],[(1,.aO 95 [.one (.i n0r.Me),.one (.i n0r.Regions),.one (.i n0r.Step),.one (.sl 1 (n0r.Home.map eI)),.one (.sl 1 (n0r.Heard.map eB)),.one (.sl 1 (n0r.Sets.map (eL 1 eI))),.one (.sl 1 (n0r.States.map eS)),.one (.sl 3 (n0r.Tasks.map an)),.one (.sl 1 (n0r.Done.map eB)),.one (.sl 1 (n0r.Results.map eS)),.row 2]),(2,.row 42 7 (n0out.map af)),(101,.box 42 (af l0))]⟩ rfl (ab.seq (ab.aa ?_)))
 refine Oc om (Oc (lp fH) (Oc (ag gW rfl rfl) (Oc (av aP rfl rfl rfl) ?_)))
 obtain ⟨x_1,e1,h⟩:=aR h
 refine Oc (bJ (own_a:=[(1,_),(2,_)]) (iz e1) xK rfl ⟨rfl,rfl,trivial⟩ rfl rfl) (ae.ak ⟨[(0,_),(3,_),(8,B x_1)],[(1,_),(2,_),(101,_)]⟩ rfl (ab.ite h rfl (fun _ h=>?_) (fun _ h=>?_)))
 ·refine ab.ah ⟨[(0,_),(3,_)],[(1,_),(2,_),(101,_)]⟩ rfl ?_
  obtain ⟨x_2,e2,h⟩:=aR h
  refine ab.jk mixed 14 [Pt 1 0,Pt 1 0,Pt 1 0,Pt 1 0,Pt 1 6,.b (.one (.sl 1 (n0r.States.map eS))),Pt 101 5,.b (.one (.sl 1 (l0.Bodies.map eI))),Pt 101 6,.b (.one (.sl 1 (l0.States.map eS))),.b (.one (.sl 1 (x_2.map eS))),Pt 1 0,Pt 1 0,Pt 1 6] [] [1,2] (s':=⟨[],[(1,.aO 95 [.one (.i n0r.Me),.one (.i n0r.Regions),.one (.i n0r.Step),.one (.sl 1 (n0r.Home.map eI)),.one (.sl 1 (n0r.Heard.map eB)),.one (.sl 1 (n0r.Sets.map (eL 1 eI))),.one (.sl 1 (x_2.map eS)),.one (.sl 3 (n0r.Tasks.map an)),.one (.sl 1 (n0r.Done.map eB)),.one (.sl 1 (n0r.Results.map eS)),.row 2]),(2,_)]⟩) rfl ⟨fun _=>.p om,fun _=>.p om,fun _=>.p (aA rfl),fun _=>.p (ag aY rfl rfl),fun _=>.p (ag lj rfl rfl),fun _=>.p (aS dz rfl rfl rfl),fun _=>.p (ag gi rfl rfl),fun _=>.p (av bx rfl rfl rfl),fun _=>.p (ag lh rfl rfl),fun _=>.p (av dz rfl rfl rfl),fun _=>.p (aH (iQ 0 e2).iB uz rfl rfl),fun _=>.p (aA rfl),fun _=>.p (ag aY rfl rfl),fun _=>.p (ag lj rfl rfl),trivial⟩ ⟨_,by exact .p (ed dz rfl rfl rfl rfl (Nat.le_of_ble_eq_true rfl) rfl),rfl⟩ rfl ?_
  obtain rfl:=Option.some.inj h
  refine Fin.ah ⟨[],[(1,_),(2,_)]⟩ rfl ?_
  exact Fin.result [] (.inr rfl) rfl (.nil) ⟨rfl,rfl⟩
 ·refine ab.skip ?_
  obtain rfl:=Option.some.inj h
  refine Fin.ah ⟨[],[(1,_),(2,_)]⟩ rfl ?_
  exact Fin.result [] (.inr rfl) rfl (.nil) ⟨rfl,rfl⟩
def dh (F:Nat) (s0:List Int) (v0:Int):Option Int :=
 Option.bind (iter F (fun x_1=>if (decide (x_1 < (s0.length:Int))) = true then ((aT s0 x_1).bind fun x_2=>if (decide (v0 = x_2)) = true then (some (.inr (.inr x_1))) else (some (.inl (IntKind.i64.wrap (x_1 + 1))))) else (some (.inr (.inl ())))) 0) (bH (fun _=>some (-1)) (fun y=>some y))
theorem nq {F:Nat} {s0:List Int} {v0:Int} {r:Int} (h:dh F s0 v0 = some r):aC Try.prog [] 97 [] [.one (.sl 1 (s0.map eI)),.one (.i v0)] (Is [] (.b (.one (.i r)))):=by
 unfold dh at h
 refine aC.intro 19 Try.func97 Try.ntmps97 rfl (by simp) fun E=>?_
 show ab _ E ⟨19,[],[],[]⟩ _ ⟨[(0,.b (.one (.sl 1 (s0.map eI)))),(1,I v0)],[]⟩ _
 refine ab.seq (ab.aa ?_)
 refine Oc oa (ae.ak ⟨[(0,.b (.one (.sl 1 (s0.map eI)))),(1,I v0)],[]⟩ rfl ?_)
 obtain ⟨v1,h2,h⟩:=aR h
 refine ab.cJ (v:=v1) (fun (_:Unit)=>⟨[],[]⟩) (fun z=>.inl z) ?_ ?_
 ·refine ab.seq (ab.aa ?_)
  refine Oc om (Oc (ay cc rfl (List.length_map _)) (Oc om ?_))
  refine ae.ak ⟨[(0,_),(1,_),(7,I (s0.length:Int)),(8,I 0)],[]⟩ rfl (ab.block (ab.ct h2 (fun (x_1:Int)=>⟨[(0,.b (.one (.sl 1 (s0.map eI)))),(1,I v0),(7,I (s0.length:Int)),(8,I x_1)],[]⟩) [0,1,7,8] [] rfl ?_))
  rintro x_1 o3 h4 hy5
  refine ab.seq (ab.aa ?_)
  refine Oc (bm rfl rfl) (ae.ak ⟨[(0,_),(1,_),(7,_),(8,_),(9,B (decide (x_1 < (s0.length:Int))))],[]⟩ rfl (ab.seq (ab.ite h4 rfl (fun _ h4=>?_) (fun _ h4=>?_))))
  ·refine ab.skip (Fin.ah ⟨[(0,_),(1,_),(7,_),(8,_)],[]⟩ rfl (Fin.then (ab.seq (ab.block (ab.seq (ab.aa ?_))))))
   refine Oc om (Oc oa ?_)
   refine ae.ak ⟨[(0,_),(1,_),(5,I x_1),(7,_),(8,_)],[]⟩ rfl (ab.seq (ab.aa ?_))
   refine Oc om (Oc om (Oc om ?_))
   obtain ⟨x_2,e6,h4⟩:=aR h4
   refine Oc (ar ba (aK e6) (aE (e:=eI) e6) rfl rfl) (Oc (aw aP rfl rfl) (Oc (dT rfl rfl) ?_))
   refine ae.ak ⟨[(0,_),(1,_),(5,_),(7,_),(8,_),(16,B (decide (v0 = x_2)))],[]⟩ rfl (ab.ite h4 rfl (fun _ h4=>?_) (fun _ h4=>?_))
   ·refine ab.seq (ab.aa ?_)
    refine Oc om (Oc oa ?_)
    refine ae.ak ⟨[(4,I x_1)],[]⟩ rfl (ab.ret (Fin.aD (Fin.aq ?_)))
    obtain rfl:=hy5 _ (Option.some.inj h4).symm
    refine Fin.aq (Fin.aD (Fin.aq ?_))
    obtain rfl:=Option.some.inj h
    refine Fin.ah ⟨[(4,_)],[]⟩ rfl (Fin.bd [.one (.i x_1)] (.inl rfl) rfl (.cons (.tmp rfl) .nil) ⟨rfl,rfl⟩)
   ·refine ab.skip (Fin.ax (Fin.ah ⟨[(0,_),(1,_),(7,_),(8,_)],[]⟩ rfl (Fin.then (ab.aa ?_))))
    refine Oc (bq rfl rfl) (Oc om ?_)
    refine ae.nil ?_
    exact Fin.bK [0,1,7,8] [] (IntKind.i64.wrap (x_1 + 1)) (Option.some.inj h4) rfl
  ·refine ab.exit (Fin.ao ?_)
   obtain rfl:=hy5 _ (Option.some.inj h4).symm
   refine Fin.ao (Fin.aI ?_)
   exact Fin.join [] [] () rfl rfl
 ·rintro _ hv
  subst v1
  refine ab.seq (ab.aa ?_)
  refine Oc oa (ae.ak ⟨[(4,I (-1))],[]⟩ rfl (ab.ret ?_))
  obtain rfl:=Option.some.inj h
  refine Fin.ah ⟨[(4,_)],[]⟩ rfl (Fin.bd [.one (.i (-1))] (.inl rfl) rfl (.cons (.tmp rfl) .nil) ⟨rfl,rfl⟩)
def cf (F:Nat) (s0:List Int) (v0:Int):Option Bool :=
 (dh F s0 v0).bind fun x_1=>some (decide (0 ≤ x_1))
theorem l5 {F:Nat} {s0:List Int} {v0:Int} {r:Bool} (h:cf F s0 v0 = some r):aC Try.prog [] 89 [] [.one (.sl 1 (s0.map eI)),.one (.i v0)] (Is [] (.b (.one (.bool r)))):=by
 unfold cf at h
 refine aC.intro 9 Try.func89 Try.ntmps89 rfl (by simp) fun E=>?_
 show ab _ E ⟨9,[],[],[]⟩ _ ⟨[(0,.b (.one (.sl 1 (s0.map eI)))),(1,I v0)],[]⟩ _
 refine ab.seq (ab.aa ?_)
 refine Oc oa (ae.ak ⟨[(0,.b (.one (.sl 1 (s0.map eI)))),(1,I v0)],[]⟩ rfl (ab.seq (ab.aa ?_)))
 refine Oc om (Oc om ?_)
 obtain ⟨x_1,e1,h⟩:=aR h
 refine Oc (aH (nq e1) goes97 rfl rfl) (Oc (fN rfl rfl) (Oc oa ?_))
 refine ae.ak ⟨[(4,B (decide (0 ≤ x_1)))],[]⟩ rfl (ab.ret ?_)
 obtain rfl:=Option.some.inj h
 refine Fin.ah ⟨[(4,_)],[]⟩ rfl (Fin.bd [.one (.bool (decide (0 ≤ x_1)))] (.inl rfl) rfl (.cons (.tmp rfl) .nil) ⟨rfl,rfl⟩)
def bX (F:Nat) (t0:Task) (v0cKind:Int) (v0cStep:Int) (v0cFrom:Int) (v0cTo:Int) (v0cSets:List (List Int)) (v0cBodies:List Int) (v0cStates:List Str) (v1c:Int):Option Bool :=
 (aM (decide (t0.Owner = v0cFrom)) (cf F t0.Bodies v1c)).bind fun x_1=>some ((decide (t0.Owner = v0cFrom)) && x_1)
theorem kz {F:Nat} {t0:Task} {v0cKind:Int} {v0cStep:Int} {v0cFrom:Int} {v0cTo:Int} {v0cSets:List (List Int)} {v0cBodies:List Int} {v0cStates:List Str} {v1c:Int} {r:Bool} (h:bX F t0 v0cKind v0cStep v0cFrom v0cTo v0cSets v0cBodies v0cStates v1c = some r):aC Try.prog [] 88 [(1,.box 42 [.i v0cKind,.i v0cStep,.i v0cFrom,.i v0cTo,.sl 1 (v0cSets.map (eL 1 eI)),.sl 1 (v0cBodies.map eI),.sl 1 (v0cStates.map eS)]),(2,.box 3 [.i v1c])] [.agg (an t0),.ptr 1 0,.ptr 2 0] (Is [(1,.box 42 [.i v0cKind,.i v0cStep,.i v0cFrom,.i v0cTo,.sl 1 (v0cSets.map (eL 1 eI)),.sl 1 (v0cBodies.map eI),.sl 1 (v0cStates.map eS)]),(2,.box 3 [.i v1c])] (.b (.one (.bool r)))):=by
 unfold bX at h
 refine aC.intro 16 Try.func88 Try.ntmps88 rfl (by simp) fun E=>?_
 show ab _ E ⟨16,[1,2],[1,2],[]⟩ _ ⟨[(0,.b (.agg (an t0))),(1,Pt 1 0),(2,Pt 2 0)],[(1,.box 42 [.i v0cKind,.i v0cStep,.i v0cFrom,.i v0cTo,.sl 1 (v0cSets.map (eL 1 eI)),.sl 1 (v0cBodies.map eI),.sl 1 (v0cStates.map eS)]),(2,.box 3 [.i v1c])]⟩ _
 refine ab.seq (ab.aa ?_)
 refine Oc (gK (k:=101) rfl rfl) (Oc oa ?_)
 refine ae.ak ⟨[(1,Pt 1 0),(2,Pt 2 0),(3,Pt 101 0)],[(1,.box 42 [.i v0cKind,.i v0cStep,.i v0cFrom,.i v0cTo,.sl 1 (v0cSets.map (eL 1 eI)),.sl 1 (v0cBodies.map eI),.sl 1 (v0cStates.map eS)]),(2,.box 3 [.i v1c]),(101,.box 59 (an t0))]⟩ rfl (ab.seq (ab.aa ?_))
 refine Oc (ag iF rfl rfl) (Oc (av aP rfl rfl rfl) (Oc (ag gW rfl rfl) (Oc (av aP rfl rfl rfl) (Oc (dT rfl rfl) (Oc om ?_)))))
 refine iV (decide (t0.Owner = v0cFrom)) [] (fun g1=>trivial) (fun g1=>ag dW rfl rfl) (ae.ah ⟨[(2,_),(10,B (decide (t0.Owner = v0cFrom))),(11,.opt (decide (t0.Owner = v0cFrom)) (.ptr 101 1))],[(1,_),(2,_),(101,_)]⟩ rfl (iV (decide (t0.Owner = v0cFrom)) [11] (fun g2=>⟨g2,trivial⟩) (fun g2=>av bx rfl rfl rfl) (iV (decide (t0.Owner = v0cFrom)) [] (fun g3=>trivial) (fun g3=>av aP rfl rfl rfl) ?_)))
 obtain ⟨x_1,e5,h⟩:=aR h
 refine iV (decide (t0.Owner = v0cFrom)) [12,13] (fun g4=>⟨g4,g4,trivial⟩) (fun g4=>aH (l5 (gc e5 g4)) goes89 rfl rfl) (Oc (bS (fun e=>e) rfl rfl rfl rfl) (Oc oa ?_))
 refine ae.ak ⟨[(4,B ((decide (t0.Owner = v0cFrom)) && x_1))],[(1,_),(2,_)]⟩ rfl (ab.ret ?_)
 obtain rfl:=Option.some.inj h
 refine Fin.ah ⟨[(4,_)],[(1,_),(2,_)]⟩ rfl ?_
 exact Fin.result [.one (.bool ((decide (t0.Owner = v0cFrom)) && x_1))] (.inl rfl) rfl (.cons (.tmp rfl) .nil) ⟨rfl,rfl⟩
def cz (F:Nat) (s0:List Task) (f0v0Kind:Int) (f0v0Step:Int) (f0v0From:Int) (f0v0To:Int) (f0v0Sets:List (List Int)) (f0v0Bodies:List Int) (f0v0States:List Str) (f0v1:Int):Option Int :=
 Option.bind (iter F (fun x_1=>if (decide (x_1 < (s0.length:Int))) = true then ((aT s0 x_1).bind fun x_2=>(bX F x_2 f0v0Kind f0v0Step f0v0From f0v0To f0v0Sets f0v0Bodies f0v0States f0v1).bind fun x_3=>if x_3 = true then (some (.inr (.inr x_1))) else (some (.inl (IntKind.i64.wrap (x_1 + 1))))) else (some (.inr (.inl ())))) 0) (bH (fun _=>some (-1)) (fun y=>some y))
theorem lD {F:Nat} {s0:List Task} {f0v0Kind:Int} {f0v0Step:Int} {f0v0From:Int} {f0v0To:Int} {f0v0Sets:List (List Int)} {f0v0Bodies:List Int} {f0v0States:List Str} {f0v1:Int} {r:Int} (h:cz F s0 f0v0Kind f0v0Step f0v0From f0v0To f0v0Sets f0v0Bodies f0v0States f0v1 = some r):aC Try.prog [] 96 [(1,.box 42 [.i f0v0Kind,.i f0v0Step,.i f0v0From,.i f0v0To,.sl 1 (f0v0Sets.map (eL 1 eI)),.sl 1 (f0v0Bodies.map eI),.sl 1 (f0v0States.map eS)]),(2,.box 3 [.i f0v1])] [.one (.sl 3 (s0.map an)),.gr 88 [] [.ptr 1 0,.ptr 2 0]] (Is [(1,.box 42 [.i f0v0Kind,.i f0v0Step,.i f0v0From,.i f0v0To,.sl 1 (f0v0Sets.map (eL 1 eI)),.sl 1 (f0v0Bodies.map eI),.sl 1 (f0v0States.map eS)]),(2,.box 3 [.i f0v1])] (.b (.one (.i r)))):=by
 unfold cz at h
 refine aC.intro 19 Try.func96 Try.ntmps96 rfl (by simp) fun E=>?_
 show ab _ E ⟨19,[1,2],[1,2],[]⟩ _ ⟨[(0,.b (.one (.sl 3 (s0.map an)))),(1,.b (.gr 88 [] [.ptr 1 0,.ptr 2 0]))],[(1,.box 42 [.i f0v0Kind,.i f0v0Step,.i f0v0From,.i f0v0To,.sl 1 (f0v0Sets.map (eL 1 eI)),.sl 1 (f0v0Bodies.map eI),.sl 1 (f0v0States.map eS)]),(2,.box 3 [.i f0v1])]⟩ _
 refine ab.seq (ab.aa ?_)
 refine Oc oa (ae.ak ⟨[(0,.b (.one (.sl 3 (s0.map an)))),(1,.b (.gr 88 [] [.ptr 1 0,.ptr 2 0]))],[(1,.box 42 [.i f0v0Kind,.i f0v0Step,.i f0v0From,.i f0v0To,.sl 1 (f0v0Sets.map (eL 1 eI)),.sl 1 (f0v0Bodies.map eI),.sl 1 (f0v0States.map eS)]),(2,.box 3 [.i f0v1])]⟩ rfl ?_)
 obtain ⟨v1,h2,h⟩:=aR h
 refine ab.cJ (v:=v1) (fun (_:Unit)=>⟨[],[(1,.box 42 [.i f0v0Kind,.i f0v0Step,.i f0v0From,.i f0v0To,.sl 1 (f0v0Sets.map (eL 1 eI)),.sl 1 (f0v0Bodies.map eI),.sl 1 (f0v0States.map eS)]),(2,.box 3 [.i f0v1])]⟩) (fun z=>.inl z) ?_ ?_
 ·refine ab.seq (ab.aa ?_)
  refine Oc om (Oc (ay nE rfl (List.length_map _)) (Oc om ?_))
  refine ae.ak ⟨[(0,_),(1,_),(7,I (s0.length:Int)),(8,I 0)],[(1,_),(2,_)]⟩ rfl (ab.block (ab.ct h2 (fun (x_1:Int)=>⟨[(0,.b (.one (.sl 3 (s0.map an)))),(1,.b (.gr 88 [] [.ptr 1 0,.ptr 2 0])),(7,I (s0.length:Int)),(8,I x_1)],[(1,.box 42 [.i f0v0Kind,.i f0v0Step,.i f0v0From,.i f0v0To,.sl 1 (f0v0Sets.map (eL 1 eI)),.sl 1 (f0v0Bodies.map eI),.sl 1 (f0v0States.map eS)]),(2,.box 3 [.i f0v1])]⟩) [0,1,7,8] [1,2] rfl ?_))
  rintro x_1 o3 h4 hy5
  refine ab.seq (ab.aa ?_)
  refine Oc (bm rfl rfl) (ae.ak ⟨[(0,_),(1,_),(7,_),(8,_),(9,B (decide (x_1 < (s0.length:Int))))],[(1,_),(2,_)]⟩ rfl (ab.seq (ab.ite h4 rfl (fun _ h4=>?_) (fun _ h4=>?_))))
  ·refine ab.skip (Fin.ah ⟨[(0,_),(1,_),(7,_),(8,_)],[(1,_),(2,_)]⟩ rfl (Fin.then (ab.seq (ab.block (ab.seq (ab.aa ?_))))))
   refine Oc om (Oc oa ?_)
   refine ae.ak ⟨[(0,_),(1,_),(5,I x_1),(7,_),(8,_)],[(1,_),(2,_)]⟩ rfl (ab.seq (ab.aa ?_))
   refine Oc om (Oc om (Oc om ?_))
   obtain ⟨x_2,e6,h4⟩:=aR h4
   refine Oc (ar gu (aK e6) (aE (e:=an) e6) rfl rfl) (Oc (jH jy rfl rfl rfl) ?_)
   obtain ⟨x_3,e7,h4⟩:=aR h4
   refine Oc (jl (own_a:=[(1,_),(2,_)]) (kz e7) goes88 rfl rfl rfl ⟨rfl,rfl,trivial⟩ rfl rfl) (ae.ak ⟨[(0,_),(1,_),(5,_),(7,_),(8,_),(16,B x_3)],[(1,_),(2,_)]⟩ rfl (ab.ite h4 rfl (fun _ h4=>?_) (fun _ h4=>?_)))
   ·refine ab.seq (ab.aa ?_)
    refine Oc om (Oc oa ?_)
    refine ae.ak ⟨[(4,I x_1)],[(1,_),(2,_)]⟩ rfl (ab.ret (Fin.aD (Fin.aq ?_)))
    obtain rfl:=hy5 _ (Option.some.inj h4).symm
    refine Fin.aq (Fin.aD (Fin.aq ?_))
    obtain rfl:=Option.some.inj h
    refine Fin.ah ⟨[(4,_)],[(1,_),(2,_)]⟩ rfl ?_
    exact Fin.result [.one (.i x_1)] (.inl rfl) rfl (.cons (.tmp rfl) .nil) ⟨rfl,rfl⟩
   ·refine ab.skip (Fin.ax (Fin.ah ⟨[(0,_),(1,_),(7,_),(8,_)],[(1,_),(2,_)]⟩ rfl (Fin.then (ab.aa ?_))))
    refine Oc (bq rfl rfl) (Oc om ?_)
    refine ae.nil ?_
    exact Fin.bK [0,1,7,8] [1,2] (IntKind.i64.wrap (x_1 + 1)) (Option.some.inj h4) rfl
  ·refine ab.exit (Fin.ao ?_)
   obtain rfl:=hy5 _ (Option.some.inj h4).symm
   refine Fin.ao (Fin.aI ?_)
   exact Fin.join [] [1,2] () rfl rfl
 ·rintro _ hv
  subst v1
  refine ab.seq (ab.aa ?_)
  refine Oc oa (ae.ak ⟨[(4,I (-1))],[(1,_),(2,_)]⟩ rfl (ab.ret ?_))
  obtain rfl:=Option.some.inj h
  refine Fin.ah ⟨[(4,_)],[(1,_),(2,_)]⟩ rfl ?_
  exact Fin.result [.one (.i (-1))] (.inl rfl) rfl (.cons (.tmp rfl) .nil) ⟨rfl,rfl⟩
end Go.Proofs.Ytnpddoaeoefcnaa

