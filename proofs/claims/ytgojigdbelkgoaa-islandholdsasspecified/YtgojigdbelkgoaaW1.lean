/- printed walks -/
import Derived.Test.YtgojigdbelkgoaaT1
namespace Go.Proofs.Ytgojigdbelkgoaa
open Go.Sk Go
set_option maxHeartbeats 4000000
set_option maxRecDepth 4000
set_option linter.unusedSimpArgs false
set_option linter.unusedVariables false
theorem undi97:Try.prog.underlying 97 = some (.int .u64):=Try.underlying97
theorem undi5:Try.prog.underlying 5 = some (.int .u8):=Try.underlying5
theorem und9:Try.prog.underlying 9 = some .string:=Try.underlying9
theorem jU:Try.prog.underlying 3 = some (.int .i64):=Try.underlying3
theorem goes69:cS Try.prog 69:=⟨Try.call69⟩
theorem goes59:cS Try.prog 59:=⟨Try.call59⟩
theorem fO:Try.prog.underlying 30 = some (.slice 3):=Try.underlying30
theorem hY:Try.prog.underlying 63 = some (.int .u64):=Try.underlying63
theorem goes56:cS Try.prog 56:=⟨Try.call56⟩
theorem goes55:cS Try.prog 55:=⟨Try.call55⟩
theorem dw:Try.prog.underlying 22 = some (.slice 4):=Try.underlying22
theorem nn:Try.prog.underlying 23 = some (.slice 44):=Try.underlying23
theorem rB:cN Try.prog 22:=⟨⟨_,Try.underlying22,rfl⟩,⟨Try.t22,by kernel_rfl,by kernel_rfl⟩⟩
theorem py:cN Try.prog 73:=⟨⟨_,Try.underlying73,rfl⟩,⟨Try.t73,by kernel_rfl,by kernel_rfl⟩⟩
theorem dD:sW Try.prog 44 3 2 1:=⟨Try.underlying44,⟨Try.t3,by kernel_rfl,by kernel_rfl⟩⟩
theorem aA:cN Try.prog 3:=⟨⟨_,Try.underlying3,rfl⟩,⟨Try.t3,by kernel_rfl,by kernel_rfl⟩⟩
theorem tn:cS Try.prog 45:=⟨Try.call45⟩
theorem dq:fj Try.prog 23 44 2 16 ((bX .i64) A2.zero):=⟨Try.underlying23,⟨Try.t44,_,by kernel_rfl,rfl,rfl,rfl,rfl,by decide,rfl⟩⟩
theorem pA:gJ Try.prog 44 2:=⟨⟨_,Try.underlying44,rfl⟩,⟨Try.t44,by kernel_rfl,by kernel_rfl⟩⟩
theorem goes47:cS Try.prog 47:=⟨Try.call47⟩
theorem goes54:cS Try.prog 54:=⟨Try.call54⟩
theorem tS:iU Try.prog 73 [.raw .nilFunc]:=⟨⟨Try.t73,_,by kernel_rfl,rfl,rfl⟩⟩
theorem goes46:cS Try.prog 46:=⟨Try.call46⟩
theorem gY:jH Try.prog 52 0 0 50:=⟨⟨_,_,Try.t50,Try.underlying52,rfl,rfl,rfl,by kernel_rfl,by decide⟩⟩
theorem kS:cN Try.prog 50:=⟨⟨_,Try.underlying50,rfl⟩,⟨Try.t50,by kernel_rfl,by kernel_rfl⟩⟩
theorem mG:Try.prog.underlying 50 = some (.map 3 3):=Try.underlying50
theorem eF:oN Try.prog 50 3 3 .i64 (.i 0):=⟨Try.underlying50,Try.underlying3,⟨Try.t3,_,by kernel_rfl,rfl,fun _=>⟨rfl,by decide,by decide⟩⟩⟩
theorem c7:gJ Try.prog 52 1:=⟨⟨_,Try.underlying52,rfl⟩,⟨Try.t52,by kernel_rfl,by kernel_rfl⟩⟩
theorem mP:cS Try.prog 48:=⟨Try.call48⟩
theorem tU:iU Try.prog 44 ((bX .i64) A2.zero):=⟨⟨Try.t44,_,by kernel_rfl,rfl,rfl⟩⟩
theorem fR:fj Try.prog 22 4 1 1 [.bool false]:=⟨Try.underlying22,⟨Try.t4,_,by kernel_rfl,rfl,rfl,rfl,rfl,by decide,rfl⟩⟩
theorem hZ:cN Try.prog 4:=⟨⟨_,Try.underlying4,rfl⟩,⟨Try.t4,by kernel_rfl,by kernel_rfl⟩⟩
theorem ak:fj Try.prog 30 3 1 8 [.i 0]:=⟨Try.underlying30,⟨Try.t3,_,by kernel_rfl,rfl,rfl,rfl,rfl,by decide,rfl⟩⟩
theorem mixed:Try.prog.follows .mixedOrders = true:=by kernel_rfl
theorem je:iU Try.prog 52 [.raw (.map none)]:=⟨⟨Try.t52,_,by kernel_rfl,rfl,rfl⟩⟩
theorem oQ:mh Try.prog 52 [(0,1)] [.raw (.map none)]:=⟨⟨Try.t52,_,_,by kernel_rfl,rfl,rfl,Try.underlying52,by kernel_rfl⟩⟩
theorem tm:cS Try.prog 49:=⟨Try.call49⟩
theorem tp:cS Try.prog 44:=⟨Try.call44⟩
theorem pq:cS Try.prog 50:=⟨Try.call50⟩
theorem gg:Try.prog.underlying 26 = some (.slice 30):=Try.underlying26
theorem bP:fj Try.prog 26 30 1 24 [.nil]:=⟨Try.underlying26,⟨Try.t30,_,by kernel_rfl,rfl,rfl,rfl,rfl,by decide,rfl⟩⟩
theorem aS:cN Try.prog 30:=⟨⟨_,Try.underlying30,rfl⟩,⟨Try.t30,by kernel_rfl,by kernel_rfl⟩⟩
theorem mR:cS Try.prog 29:=⟨Try.call29⟩
theorem qY:cS Try.prog 30:=⟨Try.call30⟩
theorem qX:cS Try.prog 31:=⟨Try.call31⟩
theorem lE:fj Try.prog 56 58 1 24 [.nil]:=⟨Try.underlying56,⟨Try.t58,_,by kernel_rfl,rfl,rfl,rfl,rfl,by decide,rfl⟩⟩
theorem kR:cN Try.prog 58:=⟨⟨_,Try.underlying58,rfl⟩,⟨Try.t58,by kernel_rfl,by kernel_rfl⟩⟩
theorem oP:mh Try.prog 60 [(0,1),(1,1)] [.i 0,.i 0]:=⟨⟨Try.t60,_,_,by kernel_rfl,rfl,rfl,Try.underlying60,by kernel_rfl⟩⟩
theorem mH:fj Try.prog 58 60 2 16 [.i 0,.i 0]:=⟨Try.underlying58,⟨Try.t60,_,by kernel_rfl,rfl,rfl,rfl,rfl,by decide,rfl⟩⟩
theorem tu:cS Try.prog 32:=⟨Try.call32⟩
theorem und58:Try.prog.underlying 58 = some (.slice 60):=Try.underlying58
theorem nF:gJ Try.prog 60 2:=⟨⟨_,Try.underlying60,rfl⟩,⟨Try.t60,by kernel_rfl,by kernel_rfl⟩⟩
theorem p6:iU Try.prog 60 [.i 0,.i 0]:=⟨⟨Try.t60,_,by kernel_rfl,rfl,rfl⟩⟩
theorem eZ:jH Try.prog 60 0 0 3:=⟨⟨_,_,Try.t3,Try.underlying60,rfl,rfl,rfl,by kernel_rfl,by decide⟩⟩
theorem tk:cS Try.prog 52:=⟨Try.call52⟩
theorem goes35:cS Try.prog 35:=⟨Try.call35⟩
theorem pt:cS Try.prog 34:=⟨Try.call34⟩
theorem qV:cS Try.prog 77:=⟨Try.call77⟩
theorem goes70:cS Try.prog 70:=⟨Try.call70⟩
theorem po:cS Try.prog 58:=⟨Try.call58⟩
theorem ti:cS Try.prog 57:=⟨Try.call57⟩
theorem goes51:cS Try.prog 51:=⟨Try.call51⟩
theorem tB:cS Try.prog 13:=⟨Try.call13⟩
theorem cJ:iU Try.prog 30 [.nil]:=⟨⟨Try.t30,_,by kernel_rfl,rfl,rfl⟩⟩
theorem tC:cS Try.prog 12:=⟨Try.call12⟩
theorem goes33:cS Try.prog 33:=⟨Try.call33⟩
theorem rA:cN Try.prog 56:=⟨⟨_,Try.underlying56,rfl⟩,⟨Try.t56,by kernel_rfl,by kernel_rfl⟩⟩
theorem mW:jH Try.prog 60 1 1 3:=⟨⟨_,_,Try.t3,Try.underlying60,rfl,rfl,rfl,by kernel_rfl,by decide⟩⟩
theorem px:cN Try.prog 80:=⟨⟨_,Try.underlying80,rfl⟩,⟨Try.t80,by kernel_rfl,by kernel_rfl⟩⟩
theorem tj:cS Try.prog 53:=⟨Try.call53⟩
theorem tT:iU Try.prog 56 [.nil]:=⟨⟨Try.t56,_,by kernel_rfl,rfl,rfl⟩⟩
theorem tyZero3:iU Try.prog 3 [.i 0]:=⟨⟨Try.t3,_,by kernel_rfl,rfl,rfl⟩⟩
theorem tR:iU Try.prog 80 [.raw .nilFunc]:=⟨⟨Try.t80,_,by kernel_rfl,rfl,rfl⟩⟩
theorem tt:cS Try.prog 39:=⟨Try.call39⟩
theorem und41:Try.prog.underlying 41 = some (.slice 26):=Try.underlying41
theorem s7:fj Try.prog 41 26 1 24 [.nil]:=⟨Try.underlying41,⟨Try.t26,_,by kernel_rfl,rfl,rfl,rfl,rfl,by decide,rfl⟩⟩
theorem tyOne26:cN Try.prog 26:=⟨⟨_,Try.underlying26,rfl⟩,⟨Try.t26,by kernel_rfl,by kernel_rfl⟩⟩
theorem jC:cS Try.prog 19:=⟨Try.call19⟩
theorem gj:qu Try.prog 44 1 ((bX .i64) A2.zero):=⟨⟨Try.t44,_,_,_,Try.t3,by kernel_rfl,rfl,rfl,Try.underlying44,by kernel_rfl,by kernel_rfl⟩⟩
theorem goes14:cS Try.prog 14:=⟨Try.call14⟩
theorem tz:cS Try.prog 20:=⟨Try.call20⟩
theorem tw:cS Try.prog 22:=⟨Try.call22⟩
theorem tx:cS Try.prog 21:=⟨Try.call21⟩
theorem goes27:cS Try.prog 27:=⟨Try.call27⟩
theorem tA:cS Try.prog 18:=⟨Try.call18⟩
theorem tv:cS Try.prog 28:=⟨Try.call28⟩
theorem tr:cS Try.prog 40:=⟨Try.call40⟩
theorem tq:cS Try.prog 41:=⟨Try.call41⟩
theorem goes42:cS Try.prog 42:=⟨Try.call42⟩
theorem goes43:cS Try.prog 43:=⟨Try.call43⟩
theorem goes26:cS Try.prog 26:=⟨Try.call26⟩
theorem qW:cS Try.prog 36:=⟨Try.call36⟩
theorem mQ:cS Try.prog 37:=⟨Try.call37⟩
theorem jf:iU Try.prog 37 [.nil,.i 0]:=⟨⟨Try.t37,_,by kernel_rfl,rfl,rfl⟩⟩
theorem gZ:mh Try.prog 37 [(0,1),(1,1)] [.nil,.i 0]:=⟨⟨Try.t37,_,_,by kernel_rfl,rfl,rfl,Try.underlying37,by kernel_rfl⟩⟩
theorem eh:gJ Try.prog 37 2:=⟨⟨_,Try.underlying37,rfl⟩,⟨Try.t37,by kernel_rfl,by kernel_rfl⟩⟩
theorem goes10:cS Try.prog 10:=⟨Try.call10⟩
theorem tD:cS Try.prog 11:=⟨Try.call11⟩
theorem pz:cN Try.prog 27:=⟨⟨_,Try.underlying27,rfl⟩,⟨Try.t27,by kernel_rfl,by kernel_rfl⟩⟩
theorem mY:jH Try.prog 37 0 0 30:=⟨⟨_,_,Try.t30,Try.underlying37,rfl,rfl,rfl,by kernel_rfl,by decide⟩⟩
theorem mX:jH Try.prog 37 1 1 27:=⟨⟨_,_,Try.t27,Try.underlying37,rfl,rfl,rfl,by kernel_rfl,by decide⟩⟩
theorem goes23:cS Try.prog 23:=⟨Try.call23⟩
theorem goes24:cS Try.prog 24:=⟨Try.call24⟩
theorem goes25:cS Try.prog 25:=⟨Try.call25⟩
def jR (F:Nat) (x0:Int):Option Int :=
 Option.bind (if (decide (4294967296 ≤ x0)) = true then (some (x0 / 4294967296,32)) else (some (x0,0))) (cr fun x_1 n_2=>Option.bind (if (decide (65536 ≤ x_1)) = true then (some (x_1 / 65536,IntKind.i64.wrap (n_2 + 16))) else (some (x_1,n_2))) (cr fun x_3 n_4=>Option.bind (if (decide (256 ≤ x_3)) = true then (some (x_3 / 256,IntKind.i64.wrap (n_4 + 8))) else (some (x_3,n_4))) (cr fun x_5 n_6=>(aM ([0,1,2,2,3,3,3,3,4,4,4,4,4,4,4,4,5,5,5,5,5,5,5,5,5,5,5,5,5,5,5,5,6,6,6,6,6,6,6,6,6,6,6,6,6,6,6,6,6,6,6,6,6,6,6,6,6,6,6,6,6,6,6,6,7,7,7,7,7,7,7,7,7,7,7,7,7,7,7,7,7,7,7,7,7,7,7,7,7,7,7,7,7,7,7,7,7,7,7,7,7,7,7,7,7,7,7,7,7,7,7,7,7,7,7,7,7,7,7,7,7,7,7,7,7,7,7,7,8,8,8,8,8,8,8,8,8,8,8,8,8,8,8,8,8,8,8,8,8,8,8,8,8,8,8,8,8,8,8,8,8,8,8,8,8,8,8,8,8,8,8,8,8,8,8,8,8,8,8,8,8,8,8,8,8,8,8,8,8,8,8,8,8,8,8,8,8,8,8,8,8,8,8,8,8,8,8,8,8,8,8,8,8,8,8,8,8,8,8,8,8,8,8,8,8,8,8,8,8,8,8,8,8,8,8,8,8,8,8,8,8,8,8,8,8,8,8,8,8,8,8,8,8,8,8,8]:Str) (IntKind.u8.wrap x_5)).bind fun x_7=>fM (IntKind.i64.wrap (n_6 + (IntKind.i64.wrap (x_7.toNat:Int)))) fun x_8=>some x_8)))
theorem nD {F:Nat} {x0:Int} {r:Int} (h:jR F x0 = some r):ar Try.prog [] 69 [] [.one (.int .u64 x0)] (Is [] (.b (.one (.i r)))):=by
 unfold jR at h
 refine ar.intro 25 Try.func69 Try.ntmps69 rfl (by simp) fun E=>?_
 show ab _ E ⟨25,[],[],[]⟩ _ ⟨[(0,.b (.one (.int .u64 x0)))],[]⟩ _
 refine ab.seq (ab.aa ?_)
 refine Oc oa (ae.af ⟨[(0,.b (.one (.int .u64 x0))),(2,I 0)],[]⟩ rfl ?_)
 obtain ⟨v1,h2,h⟩:=aF h
 refine ab.bS (v:=v1) (cr fun (x_1:Int) (n_2:Int)=>⟨[(0,.b (.one (.int .u64 x_1))),(2,I n_2)],[]⟩) (fun z=>z) ?_ ?_
 ·refine ab.seq (ab.aa ?_)
  refine Oc om (Oc (jA rfl rfl) ?_)
  refine ae.af ⟨[(0,_),(2,_),(4,B (decide (4294967296 ≤ x0)))],[]⟩ rfl (ab.ite h2 rfl (fun _ h2=>?_) (fun _ h2=>?_))
  ·refine ab.seq (ab.aa ?_)
   refine Oc om (Oc (jE (m:=32) (by decide) rfl rfl rfl) (Oc oa ?_))
   refine ae.af ⟨[(0,.b (.one (.int .u64 (x0 / 4294967296))))],[]⟩ rfl (ab.aa (Oc oa (ae.nil ?_)))
   exact Fin.join [0,2] [] (x0 / 4294967296,32) (Option.some.inj h2) rfl
  ·refine ab.skip ?_
   exact Fin.join [0,2] [] (x0,0) (Option.some.inj h2) rfl
 ·rintro ⟨x_1,n_2⟩ hv
  subst v1
  obtain ⟨v3,h4,h⟩:=aF h
  refine ab.bS (v:=v3) (cr fun (x_3:Int) (n_4:Int)=>⟨[(0,.b (.one (.int .u64 x_3))),(2,I n_4)],[]⟩) (fun z=>z) ?_ ?_
  ·refine ab.seq (ab.aa ?_)
   refine Oc om (Oc (jA rfl rfl) ?_)
   refine ae.af ⟨[(0,_),(2,_),(8,B (decide (65536 ≤ x_1)))],[]⟩ rfl (ab.ite h4 rfl (fun _ h4=>?_) (fun _ h4=>?_))
   ·refine ab.seq (ab.aa ?_)
    refine Oc om (Oc (jE (m:=16) (by decide) rfl rfl rfl) (Oc oa ?_))
    refine ae.af ⟨[(0,.b (.one (.int .u64 (x_1 / 65536)))),(2,_)],[]⟩ rfl (ab.aa (Oc om (Oc (aV rfl rfl) (Oc oa ?_))))
    refine ae.nil ?_
    exact Fin.join [0,2] [] (x_1 / 65536,IntKind.i64.wrap (n_2 + 16)) (Option.some.inj h4) rfl
   ·refine ab.skip ?_
    exact Fin.join [0,2] [] (x_1,n_2) (Option.some.inj h4) rfl
  ·rintro ⟨x_3,n_4⟩ hv
   subst v3
   obtain ⟨v5,h6,h⟩:=aF h
   refine ab.bS (v:=v5) (cr fun (x_5:Int) (n_6:Int)=>⟨[(0,.b (.one (.int .u64 x_5))),(2,I n_6)],[]⟩) (fun z=>z) ?_ ?_
   ·refine ab.seq (ab.aa ?_)
    refine Oc om (Oc (jA rfl rfl) ?_)
    refine ae.af ⟨[(0,_),(2,_),(14,B (decide (256 ≤ x_3)))],[]⟩ rfl (ab.ite h6 rfl (fun _ h6=>?_) (fun _ h6=>?_))
    ·refine ab.seq (ab.aa ?_)
     refine Oc om (Oc (jE (m:=8) (by decide) rfl rfl rfl) (Oc oa ?_))
     refine ae.af ⟨[(0,.b (.one (.int .u64 (x_3 / 256)))),(2,_)],[]⟩ rfl (ab.aa (Oc om (Oc (aV rfl rfl) (Oc oa ?_))))
     refine ae.nil ?_
     exact Fin.join [0,2] [] (x_3 / 256,IntKind.i64.wrap (n_4 + 8)) (Option.some.inj h6) rfl
    ·refine ab.skip ?_
     exact Fin.join [0,2] [] (x_3,n_4) (Option.some.inj h6) rfl
   ·rintro ⟨x_5,n_6⟩ hv
    subst v5
    refine ab.seq (ab.aa ?_)
    refine Oc om (Oc om (Oc (ck undi97 undi5 rfl) ?_))
    obtain ⟨x_7,e7,h⟩:=aF h
    refine Oc (pR und9 rfl rfl (aE e7) (qT e7)) (Oc (ck undi5 jU rfl) ?_)
    refine ae.jc .i64 h rfl (aV rfl rfl) (fun x_8 h=>?_)
    refine Oc oa (ae.af ⟨[(2,I x_8)],[]⟩ rfl (ab.ret ?_))
    obtain rfl:=Option.some.inj h
    refine Fin.ag ⟨[(2,_)],[]⟩ rfl (Fin.aP [.one (.i x_8)] (.inl rfl) rfl (.cons (.tmp rfl) .nil) ⟨rfl,rfl⟩)
def lM (F:Nat) (x0:Int):Option Int :=
 (jR F x0).bind fun x_1=>some x_1
theorem oE {F:Nat} {x0:Int} {r:Int} (h:lM F x0 = some r):ar Try.prog [] 56 [] [.one (.int .u64 x0)] (Is [] (.b (.one (.i r)))):=by
 unfold lM at h
 refine ar.intro 8 Try.func56 Try.ntmps56 rfl (by simp) fun E=>?_
 show ab _ E ⟨8,[],[],[]⟩ _ ⟨[(0,.b (.one (.int .u64 x0)))],[]⟩ _
 refine ab.seq (ab.aa ?_)
 refine Oc oa (ae.af ⟨[(0,.b (.one (.int .u64 x0)))],[]⟩ rfl (ab.seq (ab.condFc (ab.skip (Fin.ag ⟨[(0,_)],[]⟩ rfl ?_)))))
 refine Fin.then (ab.seq (ab.aa ?_))
 refine Oc om ?_
 obtain ⟨x_1,e1,h⟩:=aF h
 refine Oc (aJ (nD e1) goes69 rfl rfl) (Oc oa ?_)
 refine ae.af ⟨[(2,I x_1)],[]⟩ rfl (ab.ret ?_)
 obtain rfl:=Option.some.inj h
 refine Fin.ag ⟨[(2,_)],[]⟩ rfl (Fin.aP [.one (.i x_1)] (.inl rfl) rfl (.cons (.tmp rfl) .nil) ⟨rfl,rfl⟩)
def eC (F:Nat):Option Unit :=
 Option.bind (iter F (fun _=>some (.inr ())) ()) (fun _=>some ())
theorem iD {F:Nat} {r:Unit} (h:eC F = some r):ar Try.prog [] 59 [] [.one (.nil),.one (.i 0),.one (.i 0)] (Is [] (.fi [])):=by
 unfold eC at h
 refine ar.intro 49 Try.func59 Try.ntmps59 rfl (by simp) fun E=>?_
 show ab _ E ⟨49,[],[],[]⟩ _ ⟨[(0,.b (.one (.nil))),(1,I 0),(2,I 0)],[]⟩ _
 refine ab.seq (ab.aa ?_)
 refine Oc om (Oc (aV rfl rfl) (Oc oa ?_))
 refine ae.af ⟨[(0,.b (.one (.nil))),(1,I 0),(2,I 0),(6,I 1)],[]⟩ rfl (ab.block ?_)
 obtain ⟨v1,h2,h⟩:=aF h
 refine ab.bZ h2 (fun (_:Unit)=>⟨[(0,.b (.one (.nil))),(1,I 0),(2,I 0),(6,I 1)],[]⟩) [0,1,2,6] [] rfl ?_
 rintro _ o3 h4 hy5
 refine ab.seq (ab.seq (ab.aa ?_))
 refine Oc om (Oc om (Oc (a8 rfl rfl) ?_))
 refine ae.af ⟨[(0,_),(1,_),(2,_),(6,_),(12,B false)],[]⟩ rfl (ab.sU rfl (ab.exit (Fin.ai ?_)))
 obtain rfl:=hy5 _ (Option.some.inj h4).symm
 refine Fin.ai (Fin.ay ?_)
 obtain rfl:=Option.some.inj h
 refine Fin.ag ⟨[],[]⟩ rfl (Fin.aP [] (.inr rfl) rfl (.nil) ⟨rfl,rfl⟩)
def dL (F:Nat):Nat → Int → Option Unit
 | 0,_=>none
 | n + 1,limit0=>Option.bind (iter F (fun _=>(eC F).bind fun u_1=>some (.inr ())) ()) (fun y=>some y)
def gF (F:Nat) (limit0:Int):Option Unit:=dL F F limit0
theorem iX {F:Nat}:∀ (n:Nat) {limit0:Int} {r:Unit} (h:dL F n limit0 = some r),ar Try.prog [] 55 [] [.one (.nil),.one (.i 0),.one (.i 0),.one (.i limit0)] (Is [] (.fi [])):=by
 intro n
 induction n with
 | zero=>intro limit0 r h; simp [dL] at h
 | succ n ih=>
 intro limit0 r h
 unfold dL at h
 refine ar.intro 134 Try.func55 Try.ntmps55 rfl (by simp) fun E=>?_
 show ab _ E ⟨134,[],[],[]⟩ _ ⟨[(0,.b (.one (.nil))),(1,I 0),(2,I 0),(3,I limit0)],[]⟩ _
 refine ab.seq (ab.aa ?_)
 refine Oc oa (ae.af ⟨[(0,.b (.one (.nil))),(1,I 0),(2,I 0),(3,I limit0),(8,B true)],[]⟩ rfl (ab.seq (ab.aa ?_)))
 refine Oc oa (ae.af ⟨[(0,_),(1,_),(2,_),(3,_),(8,_),(9,B true)],[]⟩ rfl (ab.block ?_))
 obtain ⟨v1,h2,h⟩:=aF h
 refine ab.bZ h2 (fun (_:Unit)=>⟨[(0,.b (.one (.nil))),(1,I 0),(2,I 0),(3,I limit0),(8,B true),(9,B true)],[]⟩) [0,1,2,3,8,9] [] rfl ?_
 rintro _ o3 h4 hy5
 refine ab.block (ab.seq (ab.aa ?_))
 refine Oc om (Oc om (Oc (dd rfl rfl) (Oc oa ?_)))
 refine ae.af ⟨[(0,_),(1,_),(2,_),(3,_),(8,_),(9,_),(10,I 0)],[]⟩ rfl (ab.seq (ab.seq (ab.aa ?_)))
 refine Oc om (Oc (mK rfl rfl) ?_)
 refine ae.af ⟨[(0,_),(1,_),(2,_),(3,_),(8,_),(9,_),(10,_),(23,B true)],[]⟩ rfl (ab.sT rfl (ab.seq (ab.aa ?_)))
 refine Oc om (Oc om (Oc om ?_))
 obtain ⟨u_1,e6,h4⟩:=aF h4
 refine Oc (aJ (iD e6) goes59 rfl rfl) (ae.af ⟨[],[]⟩ rfl (ab.ret (Fin.aR (Fin.dc ?_))))
 obtain rfl:=hy5 _ (Option.some.inj h4).symm
 refine Fin.aR (Fin.dc ?_)
 obtain rfl:=Option.some.inj h
 refine Fin.ag ⟨[],[]⟩ rfl (Fin.aP [] (.inl rfl) rfl (.nil) ⟨rfl,rfl⟩)
theorem ju {F:Nat} {limit0:Int} {r:Unit} (h:gF F limit0 = some r):ar Try.prog [] 55 [] [.one (.nil),.one (.i 0),.one (.i 0),.one (.i limit0)] (Is [] (.fi [])):=iX F h
def iQ (F:Nat):Option Unit :=
 (lM F (IntKind.u64.wrap 0)).bind fun x_1=>(gF F x_1).bind fun u_2=>some ()
theorem kQ {F:Nat} {r:Unit} (h:iQ F = some r):ar Try.prog [] 50 [] [.one (.nil)] (Is [] (.fi [])):=by
 unfold iQ at h
 refine ar.intro 11 Try.func50 Try.ntmps50 rfl (by simp) fun E=>?_
 show ab _ E ⟨11,[],[],[]⟩ _ ⟨[(0,.b (.one (.nil)))],[]⟩ _
 refine ab.seq (ab.aa ?_)
 refine Oc om (Oc (rb fO rfl) (Oc oa ?_))
 refine ae.af ⟨[(0,.b (.one (.nil))),(2,I 0)],[]⟩ rfl (ab.aa (Oc om (Oc om (Oc om (Oc (ck jU hY rfl) ?_)))))
 obtain ⟨x_1,e1,h⟩:=aF h
 refine Oc (aJ (oE e1) goes56 rfl rfl) ?_
 obtain ⟨u_2,e2,h⟩:=aF h
 refine Oc (aJ (ju e2) goes55 rfl rfl) (ae.nil ?_)
 obtain rfl:=Option.some.inj h
 refine Fin.ag ⟨[],[]⟩ rfl (Fin.aP [] (.inr rfl) rfl (.nil) ⟨rfl,rfl⟩)
theorem ni:ar Try.prog [] 50 [] [.one .nil] (Is [] (.fi [])):=kQ (F:=3) (r:=()) (by rfl)
def cW (F:Nat) (zs:List Int):Option (List Int):=jz zs
theorem fc {F:Nat} {zs r:List Int} (h:cW F zs = some r):ar Try.prog [] 50 [(1,.cR 3 1 (zs.map eI))] [.row 1] (Is [(1,.cR 3 1 (r.map eI))] (.fi [])):=qE Try.lays189 ni h
def dT (F:Nat) (fixed0:List Bool) (links0:List A2):Option Bool :=
 fM ((decide ((fixed0.length:Int) ≤ 40)) || ((decide (401 < (fixed0.length:Int))) && (decide ((fixed0.length:Int) < 409)))) fun x_1=>some (x_1 && (decide ((links0.length:Int) ≤ 60)))
theorem jT {F:Nat} {fixed0:List Bool} {links0:List A2} {r:Bool} (h:dT F fixed0 links0 = some r):ar Try.prog [] 10 [] [.one (.sl 1 (fixed0.map eB)),.one (.sl 2 (links0.map (bX .i64)))] (Is [] (.b (.one (.bool r)))):=by
 unfold dT at h
 refine ar.intro 23 Try.func10 Try.ntmps10 rfl (by simp) fun E=>?_
 show ab _ E ⟨23,[],[],[]⟩ _ ⟨[(0,.b (.one (.sl 1 (fixed0.map eB)))),(1,.b (.one (.sl 2 (links0.map (bX .i64)))))],[]⟩ _
 refine ab.seq (ab.aa ?_)
 refine Oc oa (ae.af ⟨[(0,.b (.one (.sl 1 (fixed0.map eB)))),(1,.b (.one (.sl 2 (links0.map (bX .i64)))))],[]⟩ rfl (ab.seq (ab.aa ?_)))
 refine Oc om (Oc (aq dw rfl (List.length_map _)) (Oc (mK rfl rfl) (Oc om ?_)))
 refine jx (!(decide ((fixed0.length:Int) ≤ 40))) [] (fun g1=>trivial) (fun g1=>om) (ae.ag ⟨[(0,_),(1,_),(8,B (decide ((fixed0.length:Int) ≤ 40))),(9,.opt (!(decide ((fixed0.length:Int) ≤ 40))) (.one (.sl 1 (fixed0.map eB))))],[]⟩ rfl (jx (!(decide ((fixed0.length:Int) ≤ 40))) [9] (fun g2=>by exact ⟨g2,trivial⟩) (fun g2=>aq dw rfl (List.length_map _)) (jx (!(decide ((fixed0.length:Int) ≤ 40))) [10] (fun g3=>by exact ⟨g3,trivial⟩) (fun g3=>fg rfl rfl) (jx (!(decide ((fixed0.length:Int) ≤ 40))) [11] (fun g4=>by exact ⟨g4,trivial⟩) (fun g4=>om) (ae.pY ((!(decide ((fixed0.length:Int) ≤ 40))) && (decide (401 < (fixed0.length:Int)))) 99 [] (.under rfl) (sV _ _) rfl rfl (fun g5=>by exact trivial) (fun g5=>om) ?_)))))
 refine ae.pY ((!(decide ((fixed0.length:Int) ≤ 40))) && (decide (401 < (fixed0.length:Int)))) 99 [13] (.under rfl) (sV _ _) rfl rfl (fun g6=>⟨g6,trivial⟩) (fun g6=>aq dw rfl (List.length_map _)) (ae.pY ((!(decide ((fixed0.length:Int) ≤ 40))) && (decide (401 < (fixed0.length:Int)))) 99 [14] (.under rfl) (sV _ _) rfl rfl (fun g7=>⟨g7,trivial⟩) (fun g7=>a8 rfl rfl) (jx (!(decide ((fixed0.length:Int) ≤ 40))) [12] (fun g8=>⟨g8,trivial⟩) (fun g8=>aO (fun e=>by rw [g8,e]; rfl) rfl rfl rfl rfl) (ae.ag ⟨[(1,_),(8,_),(16,.opt (!(decide ((fixed0.length:Int) ≤ 40))) (.one (.bool ((decide (401 < (fixed0.length:Int))) && (decide ((fixed0.length:Int) < 409))))))],[]⟩ rfl (ae.kg h rfl (er (fun e=>by first | (rw [e]; rfl) | (simp only at e; rw [e]; rfl)) rfl rfl rfl rfl) (fun x_1 h=>?_)))))
 refine Oc om (c6 x_1 [] (fun g9=>by exact trivial) (fun g9=>om) (c6 x_1 [19] (fun g10=>by exact ⟨g10,trivial⟩) (fun g10=>aq nn rfl (List.length_map _)) (c6 x_1 [20] (fun g11=>by exact ⟨g11,trivial⟩) (fun g11=>mK rfl rfl) (Oc (aO (fun e=>e) rfl rfl rfl rfl) (Oc oa ?_)))))
 refine ae.af ⟨[(4,B (x_1 && (decide ((links0.length:Int) ≤ 60))))],[]⟩ rfl (ab.ret ?_)
 obtain rfl:=Option.some.inj h
 refine Fin.ag ⟨[(4,_)],[]⟩ rfl (Fin.aP [.one (.bool (x_1 && (decide ((links0.length:Int) ≤ 60))))] (.inl rfl) rfl (.cons (.tmp rfl) .nil) ⟨rfl,rfl⟩)
def dC (F:Nat) (n0:Int) (v0c:List Bool):Option Bool :=
 some ((decide (n0 < 0)) || (decide ((v0c.length:Int) ≤ n0)))
theorem gi {F:Nat} {n0:Int} {v0c:List Bool} {r:Bool} (h:dC F n0 v0c = some r):ar Try.prog [] 45 [] [.one (.i n0),.cI [.sl 1 (v0c.map eB)]] (Is [] (.b (.one (.bool r)))):=by
 unfold dC at h
 refine ar.intro 12 Try.func45 Try.ntmps45 rfl (by simp) fun E=>?_
 show ab _ E ⟨12,[],[],[]⟩ _ ⟨[(0,I n0),(1,.b (.cI [.sl 1 (v0c.map eB)]))],[]⟩ _
 refine ab.seq (ab.aa ?_)
 refine Oc oa (ae.af ⟨[(0,I n0),(1,.b (.cI [.sl 1 (v0c.map eB)]))],[]⟩ rfl (ab.seq (ab.aa ?_)))
 refine Oc om (Oc (a8 rfl rfl) (Oc om ?_))
 refine jx (!(decide (n0 < 0))) [] (fun g1=>trivial) (fun g1=>om) (jx (!(decide (n0 < 0))) [] (fun g2=>by exact trivial) (fun g2=>aw rB rfl rfl) (jx (!(decide (n0 < 0))) [8] (fun g3=>by exact ⟨g3,trivial⟩) (fun g3=>aq dw rfl (List.length_map _)) (ae.ag ⟨[(6,B (decide (n0 < 0))),(7,.opt (!(decide (n0 < 0))) (.one (.i n0))),(9,.opt (!(decide (n0 < 0))) (.one (.i (v0c.length:Int))))],[]⟩ rfl (jx (!(decide (n0 < 0))) [7,9] (fun g4=>by exact ⟨g4,g4,trivial⟩) (fun g4=>jA rfl rfl) (Oc (er (fun e=>by first | (rw [e]; rfl) | (simp only at e; rw [e]; rfl)) rfl rfl rfl rfl) (Oc oa ?_))))))
 refine ae.af ⟨[(3,B ((decide (n0 < 0)) || (decide ((v0c.length:Int) ≤ n0))))],[]⟩ rfl (ab.ret ?_)
 obtain rfl:=Option.some.inj h
 refine Fin.ag ⟨[(3,_)],[]⟩ rfl (Fin.aP [.one (.bool ((decide (n0 < 0)) || (decide ((v0c.length:Int) ≤ n0))))] (.inl rfl) rfl (.cons (.tmp rfl) .nil) ⟨rfl,rfl⟩)
def dB (F:Nat) (l0:A2) (v0c:List Bool):Option Bool :=
 (dC F l0.a0 v0c).bind fun x_1=>(c3 (!x_1) (dC F l0.a1 v0c)).bind fun x_2=>some ((x_1 || x_2) || (decide (l0.a0 = l0.a1)))
theorem j4 {F:Nat} {l0:A2} {v0c:List Bool} {r:Bool} (h:dB F l0 v0c = some r):ar Try.prog [] 47 [] [.agg ((bX .i64) l0),.cI [.ct 45 [CP.rp [.sl 1 (v0c.map eB)]]]] (Is [] (.b (.one (.bool r)))):=by
 unfold dB at h
 refine ar.intro 21 Try.func47 Try.ntmps47 rfl (by simp) fun E=>?_
 show ab _ E ⟨21,[],[],[]⟩ _ ⟨[(0,.b (.agg ((bX .i64) l0))),(1,.b (.cI [.ct 45 [CP.rp [.sl 1 (v0c.map eB)]]]))],[]⟩ _
 refine ab.seq (ab.aa ?_)
 refine Oc (op_box (k:=101) rfl rfl) (Oc oa ?_)
 refine ae.af ⟨[(1,.b (.cI [.ct 45 [CP.rp [.sl 1 (v0c.map eB)]]])),(2,Pt 101 0)],[(101,.box 44 ((bX .i64) l0))]⟩ rfl (ab.seq (ab.aa ?_))
 refine Oc (aw py rfl rfl) (Oc (gp dD (by decide) (by decide) rfl rfl rfl) (Oc (ba aA rfl rfl rfl) ?_))
 obtain ⟨x_1,e1,h⟩:=aF h
 refine Oc (ik (pss:=[[.sl 1 (v0c.map eB)]]) (gi e1) tn rfl rfl rfl trivial rfl rfl) (Oc om ?_)
 refine ae.ag ⟨[(1,_),(2,_),(8,B x_1)],[(101,_)]⟩ rfl (jx (!x_1) [] (fun g2=>trivial) (fun g2=>aw py rfl rfl) (jx (!x_1) [] (fun g3=>trivial) (fun g3=>gp dD (by decide) (by decide) rfl rfl rfl) (jx (!x_1) [10] (fun g4=>⟨g4,trivial⟩) (fun g4=>ba aA rfl rfl rfl) ?_)))
 obtain ⟨x_2,e6,h⟩:=aF h
 refine jx (!x_1) [9,11] (fun g5=>⟨g5,g5,trivial⟩) (fun g5=>ik (pss:=[[.sl 1 (v0c.map eB)]]) (gi (gc e6 g5)) tn rfl rfl rfl trivial rfl rfl) (Oc (er (fun e=>by first | (rw [e]; rfl) | (simp only at e; rw [e]; rfl)) rfl rfl rfl rfl) (Oc om ?_))
 refine ae.ag ⟨[(2,_),(14,B (x_1 || x_2))],[(101,_)]⟩ rfl (jx (!(x_1 || x_2)) [] (fun g7=>trivial) (fun g7=>gp dD (by decide) (by decide) rfl rfl rfl) (jx (!(x_1 || x_2)) [15] (fun g8=>⟨g8,trivial⟩) (fun g8=>ba aA rfl rfl rfl) (jx (!(x_1 || x_2)) [] (fun g9=>trivial) (fun g9=>gp dD (by decide) (by decide) rfl rfl rfl) (jx (!(x_1 || x_2)) [17] (fun g10=>⟨g10,trivial⟩) (fun g10=>ba aA rfl rfl rfl) (jx (!(x_1 || x_2)) [16,18] (fun g11=>⟨g11,g11,trivial⟩) (fun g11=>dN rfl rfl) ?_)))))
 refine Oc (er (fun e=>by first | (rw [e]; rfl) | (simp only at e; rw [e]; rfl)) rfl rfl rfl rfl) (Oc oa ?_)
 refine ae.af ⟨[(3,B ((x_1 || x_2) || (decide (l0.a0 = l0.a1))))],[]⟩ rfl (ab.ret ?_)
 obtain rfl:=Option.some.inj h
 refine Fin.ag ⟨[(3,_)],[]⟩ rfl (Fin.aP [.one (.bool ((x_1 || x_2) || (decide (l0.a0 = l0.a1))))] (.inl rfl) rfl (.cons (.tmp rfl) .nil) ⟨rfl,rfl⟩)
def eu (F:Nat) (s0:List A2) (f0:List Bool):Option Int :=
 Option.bind (iter F (fun x_1=>if (decide (x_1 < (s0.length:Int))) = true then ((aM s0 x_1).bind fun x_2=>(dB F x_2 f0).bind fun x_3=>if x_3 = true then (some (.inr (.inr x_1))) else (some (.inl (IntKind.i64.wrap (x_1 + 1))))) else (some (.inr (.inl ())))) 0) (j8 (fun _=>some (-1)) (fun y=>some y))
theorem jZ {F:Nat} {s0:List A2} {f0:List Bool} {r:Int} (h:eu F s0 f0 = some r):ar Try.prog [] 54 [] [.one (.sl 2 (s0.map (bX .i64))),.one (.ct 47 [CP.rp [.ct 45 [CP.rp [.sl 1 (f0.map eB)]]]])] (Is [] (.b (.one (.i r)))):=by
 unfold eu at h
 refine ar.intro 19 Try.func54 Try.ntmps54 rfl (by simp) fun E=>?_
 show ab _ E ⟨19,[],[],[]⟩ _ ⟨[(0,.b (.one (.sl 2 (s0.map (bX .i64))))),(1,.b (.one (.ct 47 [CP.rp [.ct 45 [CP.rp [.sl 1 (f0.map eB)]]]])))],[]⟩ _
 refine ab.seq (ab.aa ?_)
 refine Oc oa (ae.af ⟨[(0,.b (.one (.sl 2 (s0.map (bX .i64))))),(1,.b (.one (.ct 47 [CP.rp [.ct 45 [CP.rp [.sl 1 (f0.map eB)]]]])))],[]⟩ rfl ?_)
 obtain ⟨v1,h2,h⟩:=aF h
 refine ab.bS (v:=v1) (fun (_:Unit)=>⟨[],[]⟩) (fun z=>.inl z) ?_ ?_
 ·refine ab.seq (ab.aa ?_)
  refine Oc om (Oc (aq nn rfl (List.length_map _)) (Oc om ?_))
  refine ae.af ⟨[(0,_),(1,_),(7,I (s0.length:Int)),(8,I 0)],[]⟩ rfl (ab.block (ab.bZ h2 (fun (x_1:Int)=>⟨[(0,.b (.one (.sl 2 (s0.map (bX .i64))))),(1,.b (.one (.ct 47 [CP.rp [.ct 45 [CP.rp [.sl 1 (f0.map eB)]]]]))),(7,I (s0.length:Int)),(8,I x_1)],[]⟩) [0,1,7,8] [] rfl ?_))
  rintro x_1 o3 h4 hy5
  refine ab.seq (ab.aa ?_)
  refine Oc (a8 rfl rfl) (ae.af ⟨[(0,_),(1,_),(7,_),(8,_),(9,B (decide (x_1 < (s0.length:Int))))],[]⟩ rfl (ab.seq (ab.ite h4 rfl (fun _ h4=>?_) (fun _ h4=>?_))))
  ·refine ab.skip (Fin.ag ⟨[(0,_),(1,_),(7,_),(8,_)],[]⟩ rfl (Fin.then (ab.seq (ab.block (ab.seq (ab.aa ?_))))))
   refine Oc om (Oc oa ?_)
   refine ae.af ⟨[(0,_),(1,_),(5,I x_1),(7,_),(8,_)],[]⟩ rfl (ab.seq (ab.aa ?_))
   refine Oc om (Oc om (Oc om ?_))
   obtain ⟨x_2,e6,h4⟩:=aF h4
   refine Oc (az dq (aE e6) (aC (e:=(bX .i64)) e6) rfl rfl) (Oc (k5 pA rfl rfl rfl) ?_)
   obtain ⟨x_3,e7,h4⟩:=aF h4
   refine Oc (ik (pss:=[[.ct 45 [CP.rp [.sl 1 (f0.map eB)]]]]) (j4 e7) goes47 rfl rfl rfl trivial rfl rfl) (ae.af ⟨[(0,_),(1,_),(5,_),(7,_),(8,_),(16,B x_3)],[]⟩ rfl (ab.ite h4 rfl (fun _ h4=>?_) (fun _ h4=>?_)))
   ·refine ab.seq (ab.aa ?_)
    refine Oc om (Oc oa ?_)
    refine ae.af ⟨[(4,I x_1)],[]⟩ rfl (ab.ret (Fin.dc (Fin.aR ?_)))
    obtain rfl:=hy5 _ (Option.some.inj h4).symm
    refine Fin.aR (Fin.dc (Fin.aR ?_))
    obtain rfl:=Option.some.inj h
    refine Fin.ag ⟨[(4,_)],[]⟩ rfl (Fin.aP [.one (.i x_1)] (.inl rfl) rfl (.cons (.tmp rfl) .nil) ⟨rfl,rfl⟩)
   ·refine ab.skip (Fin.ah (Fin.ag ⟨[(0,_),(1,_),(7,_),(8,_)],[]⟩ rfl (Fin.then (ab.aa ?_))))
    refine Oc (aV rfl rfl) (Oc om ?_)
    refine ae.nil ?_
    exact Fin.bx [0,1,7,8] [] (IntKind.i64.wrap (x_1 + 1)) (Option.some.inj h4) rfl
  ·refine ab.exit (Fin.ai ?_)
   obtain rfl:=hy5 _ (Option.some.inj h4).symm
   refine Fin.ai (Fin.ay ?_)
   exact Fin.join [] [] () rfl rfl
 ·rintro _ hv
  subst v1
  refine ab.seq (ab.aa ?_)
  refine Oc oa (ae.af ⟨[(4,I (-1))],[]⟩ rfl (ab.ret ?_))
  obtain rfl:=Option.some.inj h
  refine Fin.ag ⟨[(4,_)],[]⟩ rfl (Fin.aP [.one (.i (-1))] (.inl rfl) rfl (.cons (.tmp rfl) .nil) ⟨rfl,rfl⟩)
def dE (F:Nat) (s0:List A2) (f0:List Bool):Option Bool :=
 (eu F s0 f0).bind fun x_1=>some (decide (0 ≤ x_1))
theorem iY {F:Nat} {s0:List A2} {f0:List Bool} {r:Bool} (h:dE F s0 f0 = some r):ar Try.prog [] 46 [] [.one (.sl 2 (s0.map (bX .i64))),.one (.ct 47 [CP.rp [.ct 45 [CP.rp [.sl 1 (f0.map eB)]]]])] (Is [] (.b (.one (.bool r)))):=by
 unfold dE at h
 refine ar.intro 9 Try.func46 Try.ntmps46 rfl (by simp) fun E=>?_
 show ab _ E ⟨9,[],[],[]⟩ _ ⟨[(0,.b (.one (.sl 2 (s0.map (bX .i64))))),(1,.b (.one (.ct 47 [CP.rp [.ct 45 [CP.rp [.sl 1 (f0.map eB)]]]])))],[]⟩ _
 refine ab.seq (ab.aa ?_)
 refine Oc oa (ae.af ⟨[(0,.b (.one (.sl 2 (s0.map (bX .i64))))),(1,.b (.one (.ct 47 [CP.rp [.ct 45 [CP.rp [.sl 1 (f0.map eB)]]]])))],[]⟩ rfl (ab.seq (ab.aa ?_)))
 refine Oc om (Oc om ?_)
 obtain ⟨x_1,e1,h⟩:=aF h
 refine Oc (aJ (jZ e1) goes54 rfl rfl) (Oc (jA rfl rfl) (Oc oa ?_))
 refine ae.af ⟨[(4,B (decide (0 ≤ x_1)))],[]⟩ rfl (ab.ret ?_)
 obtain rfl:=Option.some.inj h
 refine Fin.ag ⟨[(4,_)],[]⟩ rfl (Fin.aP [.one (.bool (decide (0 ≤ x_1)))] (.inl rfl) rfl (.cons (.tmp rfl) .nil) ⟨rfl,rfl⟩)
def bM (F:Nat) (fixed0:List Bool) (links0:List A2):Option Bool :=
 (c3 (decide ((fixed0.length:Int) ≤ 401)) (dE F links0 fixed0)).bind fun x_1=>some ((decide ((fixed0.length:Int) ≤ 401)) && (!x_1))
theorem cM {F:Nat} {fixed0:List Bool} {links0:List A2} {r:Bool} (h:bM F fixed0 links0 = some r):ar Try.prog [] 29 [] [.one (.sl 1 (fixed0.map eB)),.one (.sl 2 (links0.map (bX .i64)))] (Is [] (.b (.one (.bool r)))):=by
 unfold bM at h
 refine ar.intro 16 Try.func29 Try.ntmps29 rfl (by simp) fun E=>?_
 show ab _ E ⟨16,[],[],[]⟩ _ ⟨[(0,.b (.one (.sl 1 (fixed0.map eB)))),(1,.b (.one (.sl 2 (links0.map (bX .i64)))))],[]⟩ _
 refine ab.seq (ab.aa ?_)
 refine Oc (op_boxR rfl) (Oc oa ?_)
 refine ae.af ⟨[(1,.b (.one (.sl 2 (links0.map (bX .i64))))),(2,.b (.cI [.sl 1 (fixed0.map eB)]))],[]⟩ rfl (ab.seq (ab.aa ?_))
 refine Oc (jN rfl) (Oc (bf (k:=101) tS rfl) (Oc (gE py rfl rfl rfl (Nat.le_of_ble_eq_true rfl) rfl) ?_))
 refine ae.gB 101 rfl (ae.af ⟨[(1,_),(2,_),(5,.b (.cI [.ct 45 [CP.rp [.sl 1 (fixed0.map eB)]]]))],[]⟩ rfl (ab.seq (ab.aa ?_)))
 refine Oc (aw rB rfl rfl) (Oc (aq dw rfl (List.length_map _)) (Oc (mK rfl rfl) (Oc om ?_)))
 refine c6 (decide ((fixed0.length:Int) ≤ 401)) [] (fun g1=>trivial) (fun g1=>om) (c6 (decide ((fixed0.length:Int) ≤ 401)) [] (fun g2=>by exact trivial) (fun g2=>jN rfl) (ae.ag ⟨[(10,B (decide ((fixed0.length:Int) ≤ 401))),(11,.opt (decide ((fixed0.length:Int) ≤ 401)) (.one (.sl 2 (links0.map (bX .i64))))),(12,.opt (decide ((fixed0.length:Int) ≤ 401)) (.one (.ct 47 [CP.rp [.ct 45 [CP.rp [.sl 1 (fixed0.map eB)]]]])))],[]⟩ rfl ?_))
 obtain ⟨x_1,e4,h⟩:=aF h
 refine c6 (decide ((fixed0.length:Int) ≤ 401)) [11,12] (fun g3=>⟨g3,g3,trivial⟩) (fun g3=>aJ (iY (gc e4 g3)) goes46 rfl rfl) (c6 (decide ((fixed0.length:Int) ≤ 401)) [13] (fun g5=>⟨g5,trivial⟩) (fun g5=>c4 rfl) (Oc (aO (fun e=>e) rfl rfl rfl rfl) (Oc oa ?_)))
 refine ae.af ⟨[(4,B ((decide ((fixed0.length:Int) ≤ 401)) && (!x_1)))],[]⟩ rfl (ab.ret ?_)
 obtain rfl:=Option.some.inj h
 refine Fin.ag ⟨[(4,_)],[]⟩ rfl (Fin.aP [.one (.bool ((decide ((fixed0.length:Int) ≤ 401)) && (!x_1)))] (.inl rfl) rfl (.cons (.tmp rfl) .nil) ⟨rfl,rfl⟩)
def cB (F:Nat):Nat → Int → bC → Option (Int × bC)
 | 0,_,_=>none
 | n + 1,x0,c0up=>if (!(c5 c0up x0)) = true then (some (x0,dR c0up x0 x0)) else (if (decide ((cF c0up x0) = x0)) = true then (some (x0,c0up)) else (Option.bind (cB F n (cF c0up x0) c0up) (cr fun x_1 x_2=>some (x_1,dR x_2 x0 x_1))))
def bJ (F:Nat) (x0:Int) (c0up:bC):Option (Int × bC):=cB F F x0 c0up
theorem iF {F:Nat}:∀ (n:Nat) {x0:Int} {c0up:bC} {r:Int × bC} (h:cB F n x0 c0up = some r),ar Try.prog [] 48 [(1,.mq c0up)] [.xa [.row 1],.one (.i x0)] (Is [(1,.mq r.2)] (.b (.one (.i r.1)))):=by
 intro n
 induction n with
 | zero=>intro x0 c0up r h; simp [cB] at h
 | succ n ih=>
 intro x0 c0up r h
 unfold cB at h
 refine ar.intro 34 Try.func48 Try.ntmps48 rfl (by simp) fun E=>?_
 show ab _ E ⟨34,[1],[1],[]⟩ _ ⟨[(0,.b (.xa [.row 1])),(1,I x0)],[(1,.mq c0up)]⟩ _
 refine ab.seq (ab.aa ?_)
 refine Oc (k6 (k:=101) rfl rfl rfl rfl) (Oc oa ?_)
 refine ae.af ⟨[(1,I x0),(2,Pt 101 0)],[(1,.mq c0up),(101,.ao 52 [.row 1])]⟩ rfl (ab.seq (ab.aa ?_))
 refine Oc (bA gY rfl rfl) (Oc (a7 kS rfl rfl rfl) (Oc om (Oc (sf eF rfl rfl rfl) (Oc om (Oc (aG rfl rfl) ?_)))))
 refine Oc (aG rfl rfl) (Oc oa (Oc oa ?_))
 refine ae.af ⟨[(1,_),(2,_),(5,I (cF c0up x0)),(6,B (c5 c0up x0))],[(1,_),(101,_)]⟩ rfl (ab.seq (ab.seq (ab.aa ?_)))
 refine Oc om (Oc (c4 rfl) ?_)
 refine ae.af ⟨[(1,_),(2,_),(5,_),(16,B (!(c5 c0up x0)))],[(1,_),(101,_)]⟩ rfl (ab.ite h rfl (fun _ h=>?_) (fun _ h=>?_))
 ·refine ab.seq (ab.aa ?_)
  refine Oc (bA gY rfl rfl) (Oc (a7 kS rfl rfl rfl) (Oc om (Oc om (Oc (kA eF rfl rfl rfl rfl) ?_))))
  refine ae.af ⟨[(1,_)],[(1,.mq (dR c0up x0 x0))]⟩ rfl (ab.seq (ab.aa ?_))
  refine Oc om (Oc oa ?_)
  refine ae.af ⟨[(4,I x0)],[(1,_)]⟩ rfl (ab.ret (Fin.aR ?_))
  obtain rfl:=Option.some.inj h
  refine Fin.ag ⟨[(4,_)],[(1,_)]⟩ rfl ?_
  exact Fin.result [.one (.i x0)] (.inl rfl) rfl (.cons (.tmp rfl) .nil) ⟨rfl,rfl⟩
 ·refine ab.skip (Fin.ag ⟨[(1,_),(2,_),(5,_)],[(1,_),(101,_)]⟩ rfl (Fin.then (ab.seq (ab.seq (ab.aa ?_)))))
  refine Oc om (Oc om (Oc (dN rfl rfl) ?_))
  refine ae.af ⟨[(1,_),(2,_),(5,_),(24,B (decide ((cF c0up x0) = x0)))],[(1,_),(101,_)]⟩ rfl (ab.ite h rfl (fun _ h=>?_) (fun _ h=>?_))
  ·refine ab.seq (ab.aa ?_)
   refine Oc om (Oc oa ?_)
   refine ae.af ⟨[(4,I x0)],[(1,_)]⟩ rfl (ab.ret (Fin.aR ?_))
   obtain rfl:=Option.some.inj h
   refine Fin.ag ⟨[(4,_)],[(1,_)]⟩ rfl ?_
   exact Fin.result [.one (.i x0)] (.inl rfl) rfl (.cons (.tmp rfl) .nil) ⟨rfl,rfl⟩
  ·refine ab.skip (Fin.ag ⟨[(1,_),(2,_),(5,_)],[(1,_),(101,_)]⟩ rfl (Fin.then (ab.seq (ab.aa ?_))))
   refine Oc ((cV c7 rfl rfl rfl rfl).lA rfl) (Oc om ?_)
   obtain ⟨⟨x_1,x_2⟩,e1,h⟩:=aF h
   refine Oc (bh (own_a:=[(1,_)]) (ih e1) mP rfl ⟨rfl,trivial⟩ rfl rfl) (Oc oa ?_)
   refine ae.af ⟨[(1,_),(2,_),(7,I x_1)],[(1,.mq x_2),(101,_)]⟩ rfl (ab.seq (ab.aa ?_))
   refine Oc (bA gY rfl rfl) (Oc (a7 kS rfl rfl rfl) (Oc om (Oc om (Oc (kA eF rfl rfl rfl rfl) ?_))))
   refine ae.af ⟨[(7,_)],[(1,.mq (dR x_2 x0 x_1))]⟩ rfl (ab.seq (ab.aa ?_))
   refine Oc om (Oc oa ?_)
   refine ae.af ⟨[(4,I x_1)],[(1,_)]⟩ rfl (ab.ret ?_)
   obtain rfl:=Option.some.inj h
   refine Fin.ag ⟨[(4,_)],[(1,_)]⟩ rfl ?_
   exact Fin.result [.one (.i x_1)] (.inl rfl) rfl (.cons (.tmp rfl) .nil) ⟨rfl,rfl⟩
theorem cD {F:Nat} {x0:Int} {c0up:bC} {r:Int × bC} (h:bJ F x0 c0up = some r):ar Try.prog [] 48 [(1,.mq c0up)] [.xa [.row 1],.one (.i x0)] (Is [(1,.mq r.2)] (.b (.one (.i r.1)))):=iF F h
def dH (F:Nat) (fixed0:List Bool) (links0:List A2):Option (List Int) :=
 Option.bind (iter F (cr fun out_2 x_3=>if (decide (x_3 < (links0.length:Int))) = true then (Option.bind ((aM links0 x_3).bind fun x_6=>(aM fixed0 x_6.a0).bind fun x_7=>(c3 (!x_7) (aM fixed0 x_6.a1)).bind fun x_8=>if ((!x_7) && (!x_8)) = true then ((dF out_2 [x_3]).bind fun x_9=>some x_9) else (some out_2)) (fun out_5=>some (.inl (out_5,IntKind.i64.wrap (x_3 + 1))))) else (some (.inr out_2))) ([],0)) (fun out_1=>some out_1)
theorem iv (kr0:Nat) {F:Nat} {fixed0:List Bool} {links0:List A2} {r:(List Int)} (h:dH F fixed0 links0 = some r):ar Try.prog [] 49 [] [.one (.sl 1 (fixed0.map eB)),.one (.sl 2 (links0.map (bX .i64)))] (Is [(kr0,.row 3 1 (r.map eI))] (.b (.row kr0))):=by
 unfold dH at h
 refine ar.intro 35 Try.func49 Try.ntmps49 rfl (by simp) fun E=>?_
 show ab _ E ⟨35,[],[],[]⟩ _ ⟨[(0,.b (.one (.sl 1 (fixed0.map eB)))),(1,.b (.one (.sl 2 (links0.map (bX .i64)))))],[]⟩ _
 refine ab.seq (ab.aa ?_)
 refine Oc oa (ae.af ⟨[(0,.b (.one (.sl 1 (fixed0.map eB)))),(1,.b (.one (.sl 2 (links0.map (bX .i64)))))],[]⟩ rfl (ab.seq (ab.aa ?_)))
 refine Oc oa (ae.af ⟨[(0,_),(1,_),(5,.b (.one (.nil)))],[]⟩ rfl ?_)
 obtain ⟨v1,h2,h⟩:=aF h
 refine ab.bS (v:=v1) (fun (out_1:List Int)=>⟨[(5,.b (.row 103))],[(103,.row 3 1 (out_1.map eI))]⟩) (fun z=>z) ?_ ?_
 ·refine ab.seq (ab.aa ?_)
  refine Oc om (Oc (aq nn rfl (List.length_map _)) (Oc om ?_))
  refine ae.af ⟨[(0,_),(5,_),(8,.b (.one (.sl 2 (links0.map (bX .i64))))),(9,I (links0.length:Int)),(10,I 0)],[]⟩ rfl (ab.block (ab.de 5 103 1 3 rfl (by decide) rfl (ab.bZ h2 (cr fun (out_2:List Int) (x_3:Int)=>⟨[(0,.b (.one (.sl 1 (fixed0.map eB)))),(5,.b (.row 103)),(8,.b (.one (.sl 2 (links0.map (bX .i64))))),(9,I (links0.length:Int)),(10,I x_3)],[(103,.row 3 1 (out_2.map eI))]⟩) [0,5,8,9,10] [103] rfl ?_)))
  rintro ⟨out_2,x_3⟩ o3 h4 hy5
  refine ab.seq (ab.aa ?_)
  refine Oc (a8 rfl rfl) (ae.af ⟨[(0,_),(5,_),(8,_),(9,_),(10,_),(11,B (decide (x_3 < (links0.length:Int))))],[(103,_)]⟩ rfl (ab.seq (ab.ite h4 rfl (fun _ h4=>?_) (fun _ h4=>?_))))
  ·refine ab.skip (Fin.ag ⟨[(0,_),(5,_),(8,_),(9,_),(10,_)],[(103,_)]⟩ rfl (Fin.then ?_))
   obtain ⟨v6,h7,h4⟩:=aF h4
   refine ab.bS (v:=v6) (fun (out_5:List Int)=>⟨[(0,.b (.one (.sl 1 (fixed0.map eB)))),(5,.b (.row 103)),(8,.b (.one (.sl 2 (links0.map (bX .i64))))),(9,I (links0.length:Int)),(10,I x_3)],[(103,.row 3 1 (out_5.map eI))]⟩) (fun z=>z) ?_ ?_
   ·refine ab.block (ab.seq (ab.aa ?_))
    refine Oc om ?_
    obtain ⟨x_6,e8,h7⟩:=aF h7
    refine Oc (az dq (aE e8) (aC (e:=(bX .i64)) e8) rfl rfl) (Oc (k5 pA rfl rfl rfl) (Oc (bf (k:=104) tU rfl) (Oc oa (Oc (df pA rfl rfl rfl rfl (Nat.le_of_ble_eq_true rfl) rfl) ?_))))
    refine ae.af ⟨[(0,_),(5,_),(6,I x_3),(7,Pt 104 0),(8,_),(9,_),(10,_)],[(103,_),(104,.box 44 ((bX .i64) x_6))]⟩ rfl (ab.seq (ab.aa ?_))
    refine Oc om (Oc (gp dD (by decide) (by decide) rfl rfl rfl) (Oc (ba aA rfl rfl rfl) ?_))
    obtain ⟨x_7,e9,h7⟩:=aF h7
    refine Oc (az fR (aE e9) (aC (e:=eB) e9) rfl rfl) (Oc (aw hZ rfl rfl) (Oc (c4 rfl) (Oc om ?_)))
    refine ae.ag ⟨[(0,_),(5,_),(6,_),(7,_),(8,_),(9,_),(10,_),(21,B (!x_7))],[(103,_),(104,_)]⟩ rfl (c6 (!x_7) [] (fun g10=>trivial) (fun g10=>om) (c6 (!x_7) [] (fun g11=>by exact trivial) (fun g11=>gp dD (by decide) (by decide) rfl rfl rfl) (c6 (!x_7) [23] (fun g12=>by exact ⟨g12,trivial⟩) (fun g12=>ba aA rfl rfl rfl) ?_)))
    obtain ⟨x_8,e14,h7⟩:=aF h7
    refine c6 (!x_7) [22,24] (fun g13=>⟨g13,g13,trivial⟩) (fun g13=>az fR (aE (gc e14 g13)) (aC (e:=eB) (gc e14 g13)) rfl rfl) (c6 (!x_7) [25] (fun g15=>⟨g15,trivial⟩) (fun g15=>aw hZ rfl rfl) (c6 (!x_7) [26] (fun g16=>⟨g16,trivial⟩) (fun g16=>c4 rfl) (Oc (aO (fun e=>e) rfl rfl rfl rfl) (ae.af ⟨[(0,_),(5,_),(6,_),(8,_),(9,_),(10,_),(28,B ((!x_7) && (!x_8)))],[(103,_)]⟩ rfl (ab.ite h7 rfl (fun _ h7=>?_) (fun _ h7=>?_))))))
    ·refine ab.aa (Oc om (Oc om (Oc (ax (k:=105) (es:=[x_3].map eI) ak rfl rfl (aW fun _=>rfl) rfl (by decide) (by decide) rfl) ?_)))
     obtain ⟨x_9,e17,h7⟩:=aF h7
     refine Oc (bu ak (dy e17) (dx e17) rfl rfl rfl rfl (bT e17) rfl) (Oc oa ?_)
     refine ae.nil (Fin.ah ?_)
     exact Fin.join [0,5,8,9,10] [103] x_9 (Option.some.inj h7) rfl
    ·refine ab.skip (Fin.ah ?_)
     exact Fin.join [0,5,8,9,10] [103] out_2 (Option.some.inj h7) rfl
   ·rintro out_5 hv
    subst v6
    refine ab.aa (Oc (aV rfl rfl) (Oc om ?_))
    refine ae.nil ?_
    exact Fin.bx [0,5,8,9,10] [103] (out_5,IntKind.i64.wrap (x_3 + 1)) (Option.some.inj h4) rfl
  ·refine ab.exit (Fin.ai ?_)
   obtain rfl:=hy5 _ (Option.some.inj h4).symm
   refine Fin.ai (Fin.ay ?_)
   exact Fin.join [5] [103] out_2 rfl rfl
 ·rintro out_1 hv
  subst v1
  refine ab.seq (ab.aa ?_)
  refine Oc om (Oc oa ?_)
  refine ae.af ⟨[(4,.b (.row 103))],[(103,_)]⟩ rfl (ab.ret ?_)
  obtain rfl:=Option.some.inj h
  refine Fin.ag ⟨[(4,_)],[(103,_)]⟩ rfl (Fin.iI 103 kr0 [.row 103] (.inl rfl) rfl (.cons (.tmp rfl) .nil) rfl rfl rfl rfl ⟨rfl,rfl⟩)
def bW (F:Nat) (x0:Int) (y0:Int) (c0up:bC):Option (Bool × bC) :=
 Option.bind (bJ F x0 c0up) (cr fun x_1 x_2=>Option.bind (bJ F y0 x_2) (cr fun x_3 x_4=>if (decide (x_1 = x_3)) = true then (some (false,x_4)) else (some (true,dR x_4 (max x_1 x_3) (min x_1 x_3)))))
theorem fp {F:Nat} {x0:Int} {y0:Int} {c0up:bC} {r:Bool × bC} (h:bW F x0 y0 c0up = some r):ar Try.prog [] 44 [(1,.mq c0up)] [.xa [.row 1],.one (.i x0),.one (.i y0)] (Is [(1,.mq r.2)] (.b (.one (.bool r.1)))):=by
 unfold bW at h
 refine ar.intro 26 Try.func44 Try.ntmps44 rfl (by simp) fun E=>?_
 show ab _ E ⟨26,[1],[1],[]⟩ _ ⟨[(0,.b (.xa [.row 1])),(1,I x0),(2,I y0)],[(1,.mq c0up)]⟩ _
 refine ab.seq (ab.aa ?_)
 refine Oc (k6 (k:=101) rfl rfl rfl rfl) (Oc oa ?_)
 refine ae.af ⟨[(1,I x0),(2,I y0),(3,Pt 101 0)],[(1,.mq c0up),(101,.ao 52 [.row 1])]⟩ rfl (ab.seq ?_)
 obtain ⟨⟨x_1,x_2⟩,e1,h⟩:=aF h
 obtain ⟨⟨x_3,x_4⟩,e2,h⟩:=aF h
 refine ab.nH mixed [false,false,true,false,false,true,false,false] [.b (.xa [.row 1]),I x0,I x_1,.b (.xa [.row 1]),I y0,I x_3,I x_1,I x_3] [⟨[false,false,false,false,false,false,false,false],[(1,I x0),(2,I y0),(3,Pt 101 0)],[(1,.mq c0up),(101,.ao 52 [.row 1])],[true,true,true,true,true,true,true,true],[],[5,6,7]⟩,⟨[false,false,true,false,false,false,false,false],[(1,I x0),(2,I y0),(3,Pt 101 0)],[(1,.mq x_2),(101,.ao 52 [.row 1])],[true,true,true,true,true,true,true,true],[0,1,2],[6,7]⟩,⟨[false,false,true,false,false,true,false,false],[(1,I x0),(2,I y0),(3,Pt 101 0)],[(1,.mq x_4),(101,.ao 52 [.row 1])],[true,true,true,true,true,true,true,true],[0,1,2,3,4,5],[]⟩] rfl (⟨by kernel_rfl,⟨⟨.b (.xa [.row 1]),fun _=>rfl,fun _=>.p (by exact (cV c7 rfl rfl rfl rfl).lA rfl)⟩,⟨I x0,fun _=>rfl,fun _=>.p (by exact an rfl)⟩,⟨_,[],I x_1,rfl,fun _=>rfl,rfl,rfl,fun _=>.gf [1,101] (by exact .p (by exact bh (own_a:=[(1,_)]) (cD e1) mP rfl ⟨rfl,trivial⟩ rfl rfl)) (by exact rfl)⟩,⟨.b (.xa [.row 1]),fun _=>rfl,fun _=>.p (by exact (cV c7 rfl rfl rfl rfl).lA rfl)⟩,⟨I y0,fun _=>rfl,fun _=>.p (by exact an rfl)⟩,trivial,trivial,trivial,trivial⟩,⟨by kernel_rfl,⟨trivial,trivial,trivial,⟨.b (.xa [.row 1]),fun _=>rfl,fun _=>.p (by exact (cV c7 rfl rfl rfl rfl).lA rfl)⟩,⟨I y0,fun _=>rfl,fun _=>.p (by exact an rfl)⟩,⟨_,[],I x_3,rfl,fun _=>rfl,rfl,rfl,fun _=>.gf [1,101] (by exact .p (by exact bh (own_a:=[(1,_)]) (cD e2) mP rfl ⟨rfl,trivial⟩ rfl rfl)) (by exact rfl)⟩,trivial,trivial,trivial⟩,⟨by kernel_rfl,⟨trivial,trivial,trivial,trivial,trivial,trivial,⟨I x_1,fun _=>rfl,fun _=>.p (by exact m6 rfl)⟩,⟨I x_3,fun _=>rfl,fun _=>.p (by exact m6 rfl)⟩,trivial⟩,trivial⟩⟩⟩) rfl rfl rfl [3,7,8] [1,101] (s':=⟨[(3,_),(7,I x_1),(8,I x_3)],[(1,.mq x_4),(101,_)]⟩) rfl (ab.seq (ab.seq (ab.aa ?_)))
 refine Oc om (Oc om (Oc (dN rfl rfl) ?_))
 refine ae.af ⟨[(3,_),(7,_),(8,_),(17,B (decide (x_1 = x_3)))],[(1,_),(101,_)]⟩ rfl (ab.ite h rfl (fun _ h=>?_) (fun _ h=>?_))
 ·refine ab.seq (ab.aa ?_)
  refine Oc oa (ae.af ⟨[(6,B false)],[(1,_)]⟩ rfl (ab.ret (Fin.aR ?_)))
  obtain rfl:=Option.some.inj h
  refine Fin.ag ⟨[(6,_)],[(1,_)]⟩ rfl ?_
  exact Fin.result [.one (.bool false)] (.inl rfl) rfl (.cons (.tmp rfl) .nil) ⟨rfl,rfl⟩
 ·refine ab.skip (Fin.ag ⟨[(3,_),(7,_),(8,_)],[(1,_),(101,_)]⟩ rfl (Fin.then (ab.seq (ab.aa ?_))))
  refine Oc (bA gY rfl rfl) (Oc (a7 kS rfl rfl rfl) (Oc om (Oc om (Oc (op_max rfl rfl) (Oc om ?_)))))
  refine ae.ag ⟨[(8,_),(19,.b (.row 1)),(22,I (max x_1 x_3)),(23,I x_1)],[(1,_)]⟩ rfl (Oc om (Oc (qQ rfl rfl) (Oc (kA eF rfl rfl rfl rfl) ?_)))
  refine ae.af ⟨[],[(1,.mq (dR x_4 (max x_1 x_3) (min x_1 x_3)))]⟩ rfl (ab.seq (ab.aa ?_))
  refine Oc oa (ae.af ⟨[(6,B true)],[(1,_)]⟩ rfl (ab.ret ?_))
  obtain rfl:=Option.some.inj h
  refine Fin.ag ⟨[(6,_)],[(1,_)]⟩ rfl ?_
  exact Fin.result [.one (.bool true)] (.inl rfl) rfl (.cons (.tmp rfl) .nil) ⟨rfl,rfl⟩
def dg (F:Nat) (fixed0:List Bool) (links0:List A2):Option (bC × (List Int)) :=
 Option.bind (iter F (cr fun up_2 x_3=>if (decide (x_3 < (fixed0.length:Int))) = true then (Option.bind ((aM fixed0 x_3).bind fun x_6=>if (!x_6) = true then (Option.bind (bJ F x_3 up_2) (cr fun x_7 x_8=>some x_8)) else (some up_2)) (fun up_5=>some (.inl (up_5,IntKind.i64.wrap (x_3 + 1))))) else (some (.inr up_2))) (([]:bC),0)) (fun up_1=>Option.bind ((dH F fixed0 links0).bind fun x_11=>iter F (mE fun up_12 out_13 x_14=>if (decide (x_14 < (x_11.length:Int))) = true then (Option.bind ((aM x_11 x_14).bind fun x_19=>(aM links0 x_19).bind fun x_20=>(aM links0 x_19).bind fun x_21=>Option.bind (bW F x_20.a0 x_21.a1 up_12) (cr fun x_22 x_23=>if x_22 = true then ((dF out_13 [x_19]).bind fun x_24=>some (x_23,x_24)) else (some (x_23,out_13)))) (cr fun up_17 out_18=>some (.inl (up_17,out_18,IntKind.i64.wrap (x_14 + 1))))) else (some (.inr (up_12,out_13)))) (up_1,[],0)) (cr fun up_9 out_10=>some (up_9,out_10)))
theorem fC {F:Nat} {fixed0:List Bool} {links0:List A2} {r:bC × (List Int)} (h:dg F fixed0 links0 = some r):ar Try.prog [] 30 [] [.one (.sl 1 (fixed0.map eB)),.one (.sl 2 (links0.map (bX .i64)))] (Is [(51,.mq r.1),(52,.row 3 1 (r.2.map eI))] (.fi [.xa [.row 51],.row 52])):=by
 unfold dg at h
 refine ar.intro 54 Try.func30 Try.ntmps30 rfl (by simp) fun E=>?_
 show ab _ E ⟨54,[],[],[]⟩ _ ⟨[(0,.b (.one (.sl 1 (fixed0.map eB)))),(1,.b (.one (.sl 2 (links0.map (bX .i64)))))],[]⟩ _
 refine ab.seq (ab.aa ?_)
 refine Oc (bf (k:=101) je rfl) (Oc oa ?_)
 refine ae.af ⟨[(0,.b (.one (.sl 1 (fixed0.map eB)))),(1,.b (.one (.sl 2 (links0.map (bX .i64))))),(4,Pt 101 0)],[(101,.box 52 [.raw (.map none)])]⟩ rfl (ab.seq (ab.aa ?_))
 refine Oc (iO (k:=102) mG rfl) (Oc ((n9 oQ rfl rfl).lA rfl) (Oc (bf (k:=103) je rfl) ?_))
 refine ae.oF 103 rfl (Oc (fK c7 rfl rfl rfl rfl rfl (Nat.le_of_ble_eq_true rfl) rfl) (ae.af ⟨[(0,.b (.one (.sl 1 (fixed0.map eB)))),(1,.b (.one (.sl 2 (links0.map (bX .i64))))),(4,Pt 101 0),(6,Pt 103 0)],[(101,.box 52 [.raw (.map none)]),(102,.mq ([]:bC)),(103,.ao 52 [.row 102])]⟩ rfl ?_))
 obtain ⟨v1,h2,h⟩:=aF h
 refine ab.bS (v:=v1) (fun (up_1:bC)=>⟨[(0,.b (.one (.sl 1 (fixed0.map eB)))),(1,.b (.one (.sl 2 (links0.map (bX .i64))))),(4,Pt 101 0),(6,Pt 103 0)],[(101,.box 52 [.raw (.map none)]),(102,.mq up_1),(103,.ao 52 [.row 102])]⟩) (fun z=>z) ?_ ?_
 ·refine ab.seq (ab.aa ?_)
  refine Oc om (Oc (aq dw rfl (List.length_map _)) (Oc om ?_))
  refine ae.af ⟨[(0,_),(1,_),(4,_),(6,_),(14,.b (.one (.sl 1 (fixed0.map eB)))),(15,I (fixed0.length:Int)),(16,I 0)],[(101,_),(102,_),(103,_)]⟩ rfl (ab.block (ab.bZ h2 (cr fun (up_2:bC) (x_3:Int)=>⟨[(0,.b (.one (.sl 1 (fixed0.map eB)))),(1,.b (.one (.sl 2 (links0.map (bX .i64))))),(4,Pt 101 0),(6,Pt 103 0),(14,.b (.one (.sl 1 (fixed0.map eB)))),(15,I (fixed0.length:Int)),(16,I x_3)],[(101,.box 52 [.raw (.map none)]),(102,.mq up_2),(103,.ao 52 [.row 102])]⟩) [0,1,4,6,14,15,16] [101,102,103] rfl ?_))
  rintro ⟨up_2,x_3⟩ o3 h4 hy5
  refine ab.seq (ab.aa ?_)
  refine Oc (a8 rfl rfl) (ae.af ⟨[(0,_),(1,_),(4,_),(6,_),(14,_),(15,_),(16,_),(17,B (decide (x_3 < (fixed0.length:Int))))],[(101,_),(102,_),(103,_)]⟩ rfl (ab.seq (ab.ite h4 rfl (fun _ h4=>?_) (fun _ h4=>?_))))
  ·refine ab.skip (Fin.ag ⟨[(0,_),(1,_),(4,_),(6,_),(14,_),(15,_),(16,_)],[(101,_),(102,_),(103,_)]⟩ rfl (Fin.then ?_))
   obtain ⟨v6,h7,h4⟩:=aF h4
   refine ab.bS (v:=v6) (fun (up_5:bC)=>⟨[(0,.b (.one (.sl 1 (fixed0.map eB)))),(1,.b (.one (.sl 2 (links0.map (bX .i64))))),(4,Pt 101 0),(6,Pt 103 0),(14,.b (.one (.sl 1 (fixed0.map eB)))),(15,I (fixed0.length:Int)),(16,I x_3)],[(101,.box 52 [.raw (.map none)]),(102,.mq up_5),(103,.ao 52 [.row 102])]⟩) (fun z=>z) ?_ ?_
   ·refine ab.block (ab.seq (ab.aa ?_))
    refine Oc om ?_
    obtain ⟨x_6,e8,h7⟩:=aF h7
    refine Oc (az fR (aE e8) (aC (e:=eB) e8) rfl rfl) (Oc (aw hZ rfl rfl) (Oc oa (Oc oa ?_)))
    refine ae.af ⟨[(0,_),(1,_),(4,_),(6,_),(7,I x_3),(8,B x_6),(14,_),(15,_),(16,_)],[(101,_),(102,_),(103,_)]⟩ rfl (ab.seq (ab.aa ?_))
    refine Oc om (Oc (c4 rfl) ?_)
    refine ae.af ⟨[(0,_),(1,_),(4,_),(6,_),(7,_),(14,_),(15,_),(16,_),(22,B (!x_6))],[(101,_),(102,_),(103,_)]⟩ rfl (ab.ite h7 rfl (fun _ h7=>?_) (fun _ h7=>?_))
    ·refine ab.aa (Oc ((cV c7 rfl rfl rfl rfl).lA rfl) (Oc om ?_))
     obtain ⟨⟨x_7,x_8⟩,e9,h7⟩:=aF h7
     refine Oc (bh (own_a:=[(102,_)]) ((cD e9).sw 1 102) mP rfl ⟨rfl,trivial⟩ rfl rfl) (ae.nil (Fin.ah ?_))
     exact Fin.join [0,1,4,6,14,15,16] [101,102,103] x_8 (Option.some.inj h7) rfl
    ·refine ab.skip (Fin.ah ?_)
     exact Fin.join [0,1,4,6,14,15,16] [101,102,103] up_2 (Option.some.inj h7) rfl
   ·rintro up_5 hv
    subst v6
    refine ab.aa (Oc (aV rfl rfl) (Oc om ?_))
    refine ae.nil ?_
    exact Fin.bx [0,1,4,6,14,15,16] [101,102,103] (up_5,IntKind.i64.wrap (x_3 + 1)) (Option.some.inj h4) rfl
  ·refine ab.exit (Fin.ai ?_)
   obtain rfl:=hy5 _ (Option.some.inj h4).symm
   refine Fin.ai (Fin.ay ?_)
   exact Fin.join [0,1,4,6] [101,102,103] up_2 rfl rfl
 ·rintro up_1 hv
  subst v1
  refine ab.seq (ab.aa ?_)
  refine Oc oa (ae.af ⟨[(0,_),(1,_),(4,_),(6,_),(9,.b (.one (.nil)))],[(101,_),(102,_),(103,_)]⟩ rfl ?_)
  obtain ⟨v10,h11,h⟩:=aF h
  refine ab.bS (v:=v10) (cr fun (up_9:bC) (out_10:List Int)=>⟨[(4,Pt 101 0),(6,Pt 103 0),(9,.b (.row 106))],[(101,.box 52 [.raw (.map none)]),(102,.mq up_9),(103,.ao 52 [.row 102]),(106,.row 3 1 (out_10.map eI))]⟩) (fun z=>z) ?_ ?_
  ·refine ab.seq (ab.aa ?_)
   refine Oc om (Oc om ?_)
   obtain ⟨x_11,e12,h11⟩:=aF h11
   refine Oc (bh (iv 104 e12) tm rfl trivial rfl rfl) (Oc (dX fO rfl rfl (List.length_map _)) (Oc om ?_))
   refine ae.af ⟨[(1,_),(4,_),(6,_),(9,_),(29,.b (.row 104)),(30,I (x_11.length:Int)),(31,I 0)],[(101,_),(102,_),(103,_),(104,.row 3 1 (x_11.map eI))]⟩ rfl (ab.block (ab.de 9 106 1 3 rfl (by decide) rfl (ab.bZ h11 (mE fun (up_12:bC) (out_13:List Int) (x_14:Int)=>⟨[(1,.b (.one (.sl 2 (links0.map (bX .i64))))),(4,Pt 101 0),(6,Pt 103 0),(9,.b (.row 106)),(29,.b (.row 104)),(30,I (x_11.length:Int)),(31,I x_14)],[(101,.box 52 [.raw (.map none)]),(102,.mq up_12),(103,.ao 52 [.row 102]),(104,.row 3 1 (x_11.map eI)),(106,.row 3 1 (out_13.map eI))]⟩) [1,4,6,9,29,30,31] [101,102,103,104,106] rfl ?_)))
   rintro ⟨up_12,out_13,x_14⟩ o13 h14 hy15
   refine ab.seq (ab.aa ?_)
   refine Oc (a8 rfl rfl) (ae.af ⟨[(1,_),(4,_),(6,_),(9,_),(29,_),(30,_),(31,_),(32,B (decide (x_14 < (x_11.length:Int))))],[(101,_),(102,_),(103,_),(104,_),(106,_)]⟩ rfl (ab.seq (ab.ite h14 rfl (fun _ h14=>?_) (fun _ h14=>?_))))
   ·refine ab.skip (Fin.ag ⟨[(1,_),(4,_),(6,_),(9,_),(29,_),(30,_),(31,_)],[(101,_),(102,_),(103,_),(104,_),(106,_)]⟩ rfl (Fin.then ?_))
    obtain ⟨v16,h17,h14⟩:=aF h14
    refine ab.bS (v:=v16) (cr fun (up_17:bC) (out_18:List Int)=>⟨[(1,.b (.one (.sl 2 (links0.map (bX .i64))))),(4,Pt 101 0),(6,Pt 103 0),(9,.b (.row 106)),(29,.b (.row 104)),(30,I (x_11.length:Int)),(31,I x_14)],[(101,.box 52 [.raw (.map none)]),(102,.mq up_17),(103,.ao 52 [.row 102]),(104,.row 3 1 (x_11.map eI)),(106,.row 3 1 (out_18.map eI))]⟩) (fun z=>z) ?_ ?_
    ·refine ab.block (ab.seq (ab.aa ?_))
     obtain ⟨x_19,e18,h17⟩:=aF h17
     refine Oc (au ak (aE e18) (aY e18) rfl rfl rfl rfl) (Oc (aK (i:=(x_14:Int).toNat) (f:=0) aA rfl rfl rfl (aC (e:=eI) e18) rfl) (Oc oa ?_))
     refine ae.af ⟨[(1,_),(4,_),(6,_),(9,_),(11,I x_19),(29,_),(30,_),(31,_)],[(101,_),(102,_),(103,_),(104,_),(106,_)]⟩ rfl (ab.seq ?_)
     obtain ⟨x_20,e19,h17⟩:=aF h17
     obtain ⟨x_21,e20,h17⟩:=aF h17
     obtain ⟨⟨x_22,x_23⟩,e21,h17⟩:=aF h17
     refine ab.en mixed 11 [.b (.xa [.row 102]),.b (.one (.sl 2 (links0.map (bX .i64)))),I x_19,.b (.cI ((bX .i64) x_20)),.b (.cI [.i x_20.a0]),I x_20.a0,.b (.one (.sl 2 (links0.map (bX .i64)))),I x_19,.b (.cI ((bX .i64) x_21)),.b (.cI [.i x_21.a1]),I x_21.a1] [1,4,6,9,11,29,30,31,46] [101,102,103,104,106] (s':=⟨[(1,_),(4,_),(6,_),(9,_),(11,_),(29,_),(30,_),(31,_),(46,B x_22)],[(101,_),(102,.mq x_23),(103,_),(104,_),(106,_)]⟩) rfl ⟨fun _=>.p ((cV c7 rfl rfl rfl rfl).lA rfl),fun _=>.p om,fun _=>.p om,fun _=>.p (az dq (aE e19) (aC (e:=(bX .i64)) e19) rfl rfl),fun _=>.p (cO dD (by decide) (by decide) rfl rfl rfl),fun _=>.p (aw aA rfl rfl),fun _=>.p om,fun _=>.p om,fun _=>.p (az dq (aE e20) (aC (e:=(bX .i64)) e20) rfl rfl),fun _=>.p (cO dD (by decide) (by decide) rfl rfl rfl),fun _=>.p (aw aA rfl rfl),trivial⟩ ⟨_,by exact .p (bh (own_a:=[(102,_)]) ((fp e21).sw 1 102) tp rfl ⟨rfl,trivial⟩ rfl rfl),rfl⟩ rfl (ab.ite h17 rfl (fun _ h17=>?_) (fun _ h17=>?_))
     ·refine ab.aa (Oc om (Oc om (Oc (ax (k:=107) (es:=[x_19].map eI) ak rfl rfl (aW fun _=>rfl) rfl (by decide) (by decide) rfl) ?_)))
      obtain ⟨x_24,e22,h17⟩:=aF h17
      refine Oc (bu ak (dy e22) (dx e22) rfl rfl rfl rfl (bT e22) rfl) (Oc oa ?_)
      refine ae.nil (Fin.ah ?_)
      exact Fin.join [1,4,6,9,29,30,31] [101,102,103,104,106] (x_23,x_24) (Option.some.inj h17) rfl
     ·refine ab.skip (Fin.ah ?_)
      exact Fin.join [1,4,6,9,29,30,31] [101,102,103,104,106] (x_23,out_13) (Option.some.inj h17) rfl
    ·rintro ⟨up_17,out_18⟩ hv
     subst v16
     refine ab.aa (Oc (aV rfl rfl) (Oc om ?_))
     refine ae.nil ?_
     exact Fin.bx [1,4,6,9,29,30,31] [101,102,103,104,106] (up_17,out_18,IntKind.i64.wrap (x_14 + 1)) (Option.some.inj h14) rfl
   ·refine ab.exit (Fin.ai ?_)
    obtain rfl:=hy15 _ (Option.some.inj h14).symm
    refine Fin.ai (Fin.ay ?_)
    exact Fin.join [4,6,9] [101,102,103,106] (up_12,out_13) rfl rfl
  ·rintro ⟨up_9,out_10⟩ hv
   subst v10
   refine ab.seq (ab.aa ?_)
   refine Oc ((cV c7 rfl rfl rfl rfl).lA rfl) (Oc om ?_)
   refine ae.oF 101 rfl (Oc (fK c7 rfl rfl rfl rfl rfl (Nat.le_of_ble_eq_true rfl) rfl) (Oc oa ?_))
   refine ae.af ⟨[(4,Pt 101 0),(5,.b (.row 106))],[(101,.ao 52 [.row 102]),(102,.mq up_9),(106,.row 3 1 (out_10.map eI))]⟩ rfl (ab.ret ?_)
   obtain rfl:=Option.some.inj h
   refine Fin.ag ⟨[(4,Pt 101 0),(5,.b (.row 106))],[(101,.ao 52 [.row 102]),(102,.mq up_9),(106,.row 3 1 (out_10.map eI))]⟩ rfl (Fin.rename 102 51 rfl (by decide) rfl (Fin.rename 106 52 rfl (by decide) rfl ?_))
   exact Fin.resultX [51,52] [.xa [.row 51],.row 52] (.inl rfl) rfl (.cons (.xa c7 rfl rfl rfl rfl rfl) (.cons (.fD (.tmp rfl)) .nil)) ⟨rfl,rfl⟩
def cU (F:Nat) (c0up:bC):Option ((List (List Int)) × bC) :=
 Option.bind (ph c0up) (fun ks_1=>(cW F (ks_1)).bind fun x_7=>Option.bind (iter F (un4 fun up_10 at_11 out_12 x_13=>if (decide (x_13 < (x_7.length:Int))) = true then (Option.bind ((aM x_7 x_13).bind fun x_19=>Option.bind (bJ F x_19 up_10) (cr fun x_20 x_21=>Option.bind (if (decide (x_20 = x_19)) = true then ((dF out_12 [[]]).bind fun x_24=>some (dR at_11 x_19 (out_12.length:Int),x_24)) else (some (at_11,out_12))) (cr fun at_22 out_23=>(aM out_23 (cF at_22 x_20)).bind fun x_25=>(dF x_25 [x_19]).bind fun x_26=>(aM out_23 (cF at_22 x_20)).bind fun x_27=>some (x_21,at_22,out_23.set (cF at_22 x_20:Int).toNat x_26)))) (mE fun up_16 at_17 out_18=>some (.inl (up_16,at_17,out_18,IntKind.i64.wrap (x_13 + 1))))) else (some (.inr (out_12,up_10)))) (c0up,([]:bC),[],0)) (cr fun out_8 y_9=>some (out_8,y_9)))
theorem fo {F:Nat} {c0up:bC} {r:(List (List Int)) × bC} (h:cU F c0up = some r):ar Try.prog [] 31 [(1,.mq c0up)] [.xa [.row 1]] (Is [(1,.mq r.2)] (.b (.one (.sl 1 (r.1.map (eL 1 eI)))))):=by
 unfold cU at h
 refine ar.intro 59 Try.func31 Try.ntmps31 rfl (by simp) fun E=>?_
 show ab _ E ⟨59,[1],[1],[]⟩ _ ⟨[(0,.b (.xa [.row 1]))],[(1,.mq c0up)]⟩ _
 refine ab.seq (ab.aa ?_)
 refine Oc (k6 (k:=101) rfl rfl rfl rfl) (Oc oa ?_)
 refine ae.af ⟨[(1,Pt 101 0)],[(1,.mq c0up),(101,.ao 52 [.row 1])]⟩ rfl (ab.seq (ab.aa ?_))
 refine Oc oa (ae.af ⟨[(1,_),(3,.b (.one (.nil)))],[(1,_),(101,_)]⟩ rfl (ab.seq (ab.seq (ab.aa ?_))))
 refine Oc (bA gY rfl rfl) (Oc (a7 kS rfl rfl rfl) (Oc (mo 102 mG rfl rfl (by decide) rfl rfl) ?_))
 refine ae.af ⟨[(1,_),(3,_),(12,Pt 102 0)],[(101,_),(102,.gL 1 c0up c0up none)]⟩ rfl (ab.de 3 103 1 3 rfl (by decide) rfl (ab.ag ⟨[(1,_),(3,.b (.row 103)),(12,_)],[(101,_),(102,_),(103,.row 3 1 ([].map eI))]⟩ rfl ?_))
 obtain ⟨ks_1,e1,h⟩:=aF h
 obtain ⟨hk2,rfl⟩:=qf e1
 refine ab.block (ab.loop (fun (q:List Int × bC)=>⟨[(1,Pt 101 0),(3,.b (.row 103)),(12,Pt 102 0)],[(101,.ao 52 [.row 1]),(102,.gL 1 c0up q.2 none),(103,.row 3 1 (q.1.map eI))]⟩) (fun q=>(q.1 ++ q.2.map (·.1)).Perm (c0up.map (·.1))) (fun q=>q.2.length) ([],c0up) (by simp) rfl ?_)
 rintro ⟨vis_2,rs_3⟩ hI3
 refine ab.seq (ab.aa ?_)
 refine ae.nextM rfl rfl rfl (fun hr4=>?_) (fun p_4 r_5 r_6 hr4=>?_)
 ·subst hr4
  have hp5:vis_2.Perm (c0up.map (·.1)):=by simpa using hI3
  refine Oc (aG rfl rfl) (ae.af ⟨[(1,_),(3,_),(12,_),(14,B false)],[(101,_),(102,.gL 1 c0up [] none),(103,.row 3 1 (vis_2.map eI))]⟩ rfl (ab.seq (ab.sU rfl (ab.exit (Fin.ai ?_)))))
  refine Fin.ai (Fin.ag ⟨[(1,_),(3,_),(12,_)],[(101,_),(102,_),(103,_)]⟩ rfl (Fin.pk 102 rfl rfl (Fin.ay (Fin.ag ⟨[(1,_),(3,_)],[(1,.mq c0up),(101,_),(103,_)]⟩ rfl (Fin.then (ab.seq (ab.aa ?_)))))))
  refine Oc om (ae.k9 103 rfl ?_)
  obtain ⟨x_7,e6,h⟩:=aF h
  refine Oc (bh (own_a:=[(103,_)]) ((fc (F:=F) (n8 hp5 e6)).sw 1 103) pq rfl ⟨rfl,trivial⟩ rfl rfl) (ae.lO 103 rfl (ae.af ⟨[(1,_),(3,_)],[(1,_),(101,_),(103,.row 3 1 (x_7.map eI))]⟩ rfl (ab.seq (ab.aa ?_))))
  refine Oc (iO (k:=104) mG rfl) (Oc oa ?_)
  refine ae.af ⟨[(1,_),(3,_),(5,.b (.row 104))],[(1,_),(101,_),(103,_),(104,.mq ([]:bC))]⟩ rfl (ab.seq (ab.aa ?_))
  refine Oc oa (ae.af ⟨[(1,_),(3,_),(5,_),(6,.b (.one (.nil)))],[(1,_),(101,_),(103,_),(104,_)]⟩ rfl ?_)
  obtain ⟨v7,h8,h⟩:=aF h
  refine ab.bS (v:=v7) (cr fun (out_8:List (List Int)) (y_9:bC)=>⟨[(6,.b (.row 106))],[(1,.mq y_9),(106,.rr 30 3 1 .none (out_8.map (eR eI)))]⟩) (fun z=>z) ?_ ?_
  ·refine ab.seq (ab.aa ?_)
   refine Oc om (Oc (dX fO rfl rfl (List.length_map _)) (Oc om ?_))
   refine ae.af ⟨[(1,_),(5,_),(6,_),(24,.b (.row 103)),(25,I (x_7.length:Int)),(26,I 0)],[(1,_),(101,_),(103,_),(104,_)]⟩ rfl (ab.block (ab.lT 6 106 1 30 3 rfl (by decide) rfl (ab.bZ h8 (un4 fun (up_10:bC) (at_11:bC) (out_12:List (List Int)) (x_13:Int)=>⟨[(1,Pt 101 0),(5,.b (.row 104)),(6,.b (.row 106)),(24,.b (.row 103)),(25,I (x_7.length:Int)),(26,I x_13)],[(1,.mq up_10),(101,.ao 52 [.row 1]),(103,.row 3 1 (x_7.map eI)),(104,.mq at_11),(106,.rr 30 3 1 .none (out_12.map (eR eI)))]⟩) [1,5,6,24,25,26] [1,101,103,104,106] rfl ?_)))
   rintro ⟨up_10,at_11,out_12,x_13⟩ o9 h10 hy11
   refine ab.seq (ab.aa ?_)
   refine Oc (a8 rfl rfl) (ae.af ⟨[(1,_),(5,_),(6,_),(24,_),(25,_),(26,_),(27,B (decide (x_13 < (x_7.length:Int))))],[(1,_),(101,_),(103,_),(104,_),(106,_)]⟩ rfl (ab.seq (ab.ite h10 rfl (fun _ h10=>?_) (fun _ h10=>?_))))
   ·refine ab.skip (Fin.ag ⟨[(1,_),(5,_),(6,_),(24,_),(25,_),(26,_)],[(1,_),(101,_),(103,_),(104,_),(106,_)]⟩ rfl (Fin.then ?_))
    obtain ⟨v12,h13,h10⟩:=aF h10
    refine ab.bS (v:=v12) (mE fun (up_16:bC) (at_17:bC) (out_18:List (List Int))=>⟨[(1,Pt 101 0),(5,.b (.row 104)),(6,.b (.row 106)),(24,.b (.row 103)),(25,I (x_7.length:Int)),(26,I x_13)],[(1,.mq up_16),(101,.ao 52 [.row 1]),(103,.row 3 1 (x_7.map eI)),(104,.mq at_17),(106,.rr 30 3 1 .none (out_18.map (eR eI)))]⟩) (fun z=>z) ?_ ?_
    ·refine ab.block (ab.seq (ab.aa ?_))
     obtain ⟨x_19,e14,h13⟩:=aF h13
     refine Oc (au ak (aE e14) (aY e14) rfl rfl rfl rfl) (Oc (aK (i:=(x_13:Int).toNat) (f:=0) aA rfl rfl rfl (aC (e:=eI) e14) rfl) (Oc oa ?_))
     refine ae.af ⟨[(1,_),(5,_),(6,_),(8,I x_19),(24,_),(25,_),(26,_)],[(1,_),(101,_),(103,_),(104,_),(106,_)]⟩ rfl (ab.seq (ab.aa ?_))
     refine Oc ((cV c7 rfl rfl rfl rfl).lA rfl) (Oc om ?_)
     obtain ⟨⟨x_20,x_21⟩,e15,h13⟩:=aF h13
     refine Oc (bh (own_a:=[(1,_)]) (cD e15) mP rfl ⟨rfl,trivial⟩ rfl rfl) (Oc oa ?_)
     refine ae.af ⟨[(1,_),(5,_),(6,_),(8,_),(9,I x_20),(24,_),(25,_),(26,_)],[(1,.mq x_21),(101,_),(103,_),(104,_),(106,_)]⟩ rfl ?_
     obtain ⟨v16,h17,h13⟩:=aF h13
     refine ab.bS (v:=v16) (cr fun (at_22:bC) (out_23:List (List Int))=>⟨[(1,Pt 101 0),(5,.b (.row 104)),(6,.b (.row 106)),(8,I x_19),(9,I x_20),(24,.b (.row 103)),(25,I (x_7.length:Int)),(26,I x_13)],[(1,.mq x_21),(101,.ao 52 [.row 1]),(103,.row 3 1 (x_7.map eI)),(104,.mq at_22),(106,.rr 30 3 1 .none (out_23.map (eR eI)))]⟩) (fun z=>z) ?_ ?_
     ·refine ab.seq (ab.aa ?_)
      refine Oc om (Oc om (Oc (dN rfl rfl) ?_))
      refine ae.af ⟨[(1,_),(5,_),(6,_),(8,_),(9,_),(24,_),(25,_),(26,_),(35,B (decide (x_20 = x_19)))],[(1,_),(101,_),(103,_),(104,_),(106,_)]⟩ rfl (ab.ite h17 rfl (fun _ h17=>?_) (fun _ h17=>?_))
      ·refine ab.seq (ab.aa ?_)
       refine Oc om (Oc om (Oc om (Oc (lK gg rfl rfl (List.length_map _)) (Oc (kA eF rfl rfl rfl rfl) ?_))))
       refine ae.af ⟨[(1,_),(5,_),(6,_),(8,_),(9,_),(24,_),(25,_),(26,_)],[(1,_),(101,_),(103,_),(104,.mq (dR at_11 x_19 (out_12.length:Int))),(106,_)]⟩ rfl (ab.aa (Oc om (Oc (ax (k:=107) (es:=[[.nil]]) bP rfl rfl (fun ps h=>by simp at h; subst h; rfl) rfl (by decide) (by decide) rfl) ?_)))
       obtain ⟨x_24,e18,h17⟩:=aF h17
       refine Oc (kN bP (rr_b e18) (rr_m e18) rfl rfl rfl rfl (s9 e18) rfl) (Oc oa ?_)
       refine ae.nil ?_
       exact Fin.join [1,5,6,8,9,24,25,26] [1,101,103,104,106] (dR at_11 x_19 (out_12.length:Int),x_24) (Option.some.inj h17) rfl
      ·refine ab.skip ?_
       exact Fin.join [1,5,6,8,9,24,25,26] [1,101,103,104,106] (at_11,out_12) (Option.some.inj h17) rfl
     ·rintro ⟨at_22,out_23⟩ hv
      subst v16
      refine ab.ag ⟨[(1,_),(5,_),(6,_),(8,_),(9,_),(24,_),(25,_),(26,_)],[(1,_),(101,_),(103,_),(104,_),(106,_)]⟩ rfl ?_
      obtain ⟨x_25,e19,h13⟩:=aF h13
      obtain ⟨x_26,e20,h13⟩:=aF h13
      obtain ⟨x_27,e21,h13⟩:=aF h13
      refine ab.gA mixed [false,false,false,false,false,false,false,false,false,true,false,false,true,false,true] [.b (.row 106),.b (.row 104),I x_20,I (cF at_22 x_20),.b (.row 106),.b (.row 104),I x_20,I (cF at_22 x_20),.b (.bG 106 (cF at_22 x_20:Int).toNat),.b (.row 108),I x_19,.b (.one (.sl 1 ([x_19].map eI))),.b (.row 110),.b (.bG 106 (cF at_22 x_20:Int).toNat),B true] [⟨[false,false,false,false,false,false,false,false,false,false,false,false,false,false,false],[(1,Pt 101 0),(5,.b (.row 104)),(6,.b (.row 106)),(8,I x_19),(9,I x_20),(24,.b (.row 103)),(25,I (x_7.length:Int)),(26,I x_13)],[(1,.mq x_21),(101,.ao 52 [.row 1]),(103,.row 3 1 (x_7.map eI)),(104,.mq at_22),(106,.rr 30 3 1 .none (out_23.map (eR eI)))],[true,true,true,true,true,true,true,true,true,true,true,true,true,true,true],[],[12,13,14]⟩,⟨[false,false,false,false,false,false,false,false,false,true,false,false,false,false,false],[(1,Pt 101 0),(5,.b (.row 104)),(6,.b (.row 106)),(8,I x_19),(9,I x_20),(24,.b (.row 103)),(25,I (x_7.length:Int)),(26,I x_13)],[(1,.mq x_21),(101,.ao 52 [.row 1]),(103,.row 3 1 (x_7.map eI)),(104,.mq at_22),(106,.rr 30 3 1 (.at (cF at_22 x_20:Int).toNat) (out_23.map (eR eI))),(108,.row 3 1 (x_25.map eI))],[true,true,true,true,true,true,true,true,true,true,true,true,true,true,true],[4,5,6,7,8,9],[13,14]⟩,⟨[false,false,false,false,false,false,false,false,false,true,false,false,true,false,false],[(1,Pt 101 0),(5,.b (.row 104)),(6,.b (.row 106)),(8,I x_19),(9,I x_20),(24,.b (.row 103)),(25,I (x_7.length:Int)),(26,I x_13)],[(1,.mq x_21),(101,.ao 52 [.row 1]),(103,.row 3 1 (x_7.map eI)),(104,.mq at_22),(106,.rr 30 3 1 (.at (cF at_22 x_20:Int).toNat) (out_23.map (eR eI))),(110,.row 3 1 (x_26.map eI))],[true,true,true,true,true,true,true,true,true,true,true,true,true,true,true],[4,5,6,7,8,9,10,11,12],[]⟩,⟨[false,false,false,false,false,false,false,false,false,true,false,false,true,false,true],[(1,Pt 101 0),(5,.b (.row 104)),(6,.b (.row 106)),(8,I x_19),(9,I x_20),(24,.b (.row 103)),(25,I (x_7.length:Int)),(26,I x_13)],[(1,.mq x_21),(101,.ao 52 [.row 1]),(103,.row 3 1 (x_7.map eI)),(104,.mq at_22),(106,.rr 30 3 1 .none ((out_23.set (cF at_22 x_20:Int).toNat x_26).map (eR eI)))],[true,true,true,true,true,true,true,true,true,true,true,true,false,true,true],[0,1,2,3,4,5,6,7,8,9,10,11,12,13,14],[]⟩] rfl (⟨by kernel_rfl,⟨⟨.b (.row 106),fun _=>rfl,fun _=>.p (by exact an rfl)⟩,⟨.b (.row 104),fun _=>rfl,fun _=>.p (by exact an rfl)⟩,⟨I x_20,fun _=>rfl,fun _=>.p (by exact an rfl)⟩,⟨I (cF at_22 x_20),fun _=>rfl,fun _=>.p (by exact fF eF rfl rfl rfl)⟩,⟨.b (.row 106),fun _=>rfl,fun _=>.p (by exact an rfl)⟩,⟨.b (.row 104),fun _=>rfl,fun _=>.p (by exact an rfl)⟩,⟨I x_20,fun _=>rfl,fun _=>.p (by exact an rfl)⟩,⟨I (cF at_22 x_20),fun _=>rfl,fun _=>.p (by exact fF eF rfl rfl rfl)⟩,⟨.b (.bG 106 (cF at_22 x_20:Int).toNat),fun _=>rfl,fun _=>.p (by exact dK bP (aE e19) (aY e19) rfl rfl rfl rfl)⟩,⟨_,[108],.b (.row 108),rfl,fun _=>rfl,rfl,rfl,fun _=>.gf [1,101,103,104,106,108] (by exact .p (by exact jJ (i:=(cF at_22 x_20:Int).toNat) 108 aS rfl rfl rfl (aC (e:=eR eI) e19) (by decide) rfl rfl)) (by exact rfl)⟩,⟨I x_19,fun _=>rfl,fun _=>.p (by exact an rfl)⟩,⟨.b (.one (.sl 1 ([x_19].map eI))),fun _=>rfl,fun _=>.p (by exact cf (es:=[x_19].map eI) ak rfl rfl (aW fun _=>rfl) rfl (by decide) (by decide))⟩,trivial,trivial,trivial,trivial⟩,⟨by kernel_rfl,⟨⟨.b (.row 106),fun _=>rfl,fun _=>.p (by exact an rfl)⟩,⟨.b (.row 104),fun _=>rfl,fun _=>.p (by exact an rfl)⟩,⟨I x_20,fun _=>rfl,fun _=>.p (by exact an rfl)⟩,⟨I (cF at_22 x_20),fun _=>rfl,fun _=>.p (by exact fF eF rfl rfl rfl)⟩,trivial,trivial,trivial,trivial,trivial,trivial,⟨I x_19,fun _=>rfl,fun _=>.p (by exact an rfl)⟩,⟨.b (.one (.sl 1 ([x_19].map eI))),fun _=>rfl,fun _=>.p (by exact cf (es:=[x_19].map eI) ak rfl rfl (aW fun _=>rfl) rfl (by decide) (by decide))⟩,⟨_,[110],.b (.row 110),rfl,fun _=>rfl,rfl,rfl,fun _=>.gf [1,101,103,104,106,110] (by exact .p (by exact mu (k2:=110) ak (dy e20) (dx e20) rfl rfl rfl (bT e20) rfl rfl rfl rfl rfl)) (by exact rfl)⟩,trivial,trivial,trivial⟩,⟨by kernel_rfl,⟨⟨.b (.row 106),fun _=>rfl,fun _=>.p (by exact an rfl)⟩,⟨.b (.row 104),fun _=>rfl,fun _=>.p (by exact an rfl)⟩,⟨I x_20,fun _=>rfl,fun _=>.p (by exact an rfl)⟩,⟨I (cF at_22 x_20),fun _=>rfl,fun _=>.p (by exact fF eF rfl rfl rfl)⟩,trivial,trivial,trivial,trivial,trivial,trivial,trivial,trivial,trivial,⟨.b (.bG 106 (cF at_22 x_20:Int).toNat),fun _=>rfl,fun _=>.p (by exact dK bP (aE e21) (aY e21) rfl rfl rfl rfl)⟩,⟨_,[110],.b (.one .any),rfl,(fun e=>by simp at e),rfl,rfl,fun _=>.gf [1,101,103,104,106] (by exact .p (by exact iN aS rfl rfl rfl rfl rfl (fE e21) (by decide) (nG _ _ _ _))) (by exact rfl)⟩,trivial⟩,⟨by kernel_rfl,⟨trivial,trivial,trivial,trivial,trivial,trivial,trivial,trivial,trivial,trivial,trivial,trivial,trivial,trivial,trivial,trivial⟩,trivial⟩⟩⟩⟩) rfl rfl rfl [1,5,6,24,25,26] [1,101,103,104,106] (s':=⟨[(1,_),(5,_),(6,_),(24,_),(25,_),(26,_)],[(1,_),(101,_),(103,_),(104,_),(106,.rr 30 3 1 .none ((out_23.set (cF at_22 x_20:Int).toNat x_26).map (eR eI)))]⟩) rfl ?_
      refine Fin.ah ?_
      exact Fin.join [1,5,6,24,25,26] [1,101,103,104,106] (x_21,at_22,out_23.set (cF at_22 x_20:Int).toNat x_26) (Option.some.inj h13) rfl
    ·rintro ⟨up_16,at_17,out_18⟩ hv
     subst v12
     refine ab.aa (Oc (aV rfl rfl) (Oc om ?_))
     refine ae.nil ?_
     exact Fin.bx [1,5,6,24,25,26] [1,101,103,104,106] (up_16,at_17,out_18,IntKind.i64.wrap (x_13 + 1)) (Option.some.inj h10) rfl
   ·refine ab.exit (Fin.ai ?_)
    obtain rfl:=hy11 _ (Option.some.inj h10).symm
    refine Fin.ai (Fin.ay ?_)
    exact Fin.join [6] [1,106] (out_12,up_10) rfl rfl
  ·rintro ⟨out_8,y_9⟩ hv
   subst v7
   refine ab.seq (ab.aa ?_)
   refine Oc om (Oc oa ?_)
   refine ae.af ⟨[(2,.b (.row 106))],[(1,_),(106,_)]⟩ rfl (ab.ret ?_)
   obtain rfl:=Option.some.inj h
   refine Fin.ag ⟨[(2,_)],[(1,_),(106,_)]⟩ rfl (Fin.k4 106 rfl (rr_sl _) (Fin.ag ⟨[(2,.b (.one (.sl 1 (out_8.map (eL 1 eI)))))],[(1,_)]⟩ rfl ?_))
   exact Fin.result [.one (.sl 1 (out_8.map (eL 1 eI)))] (.inl rfl) rfl (.cons (.tmp rfl) .nil) ⟨rfl,rfl⟩
 ·subst hr4
  refine Oc (aG rfl rfl) (ae.af ⟨[(1,_),(3,_),(12,_),(14,B true)],[(101,_),(102,.gL 1 c0up (r_5 ++ r_6) (some p_4)),(103,.row 3 1 (vis_2.map eI))]⟩ rfl (ab.seq (ab.sT rfl (ab.skip (Fin.ag ⟨[(1,_),(3,_),(12,_)],[(101,_),(102,_),(103,_)]⟩ rfl ?_)))))
  refine Fin.then (ab.block (ab.seq (ab.aa ?_)))
  refine Oc (mr rfl rfl) (Oc (aG rfl rfl) (Oc oa ?_))
  refine ae.af ⟨[(1,_),(3,_),(4,I p_4.1),(12,_)],[(101,_),(102,_),(103,_)]⟩ rfl (ab.aa (Oc om (Oc om (Oc (ax (k:=111) (es:=[p_4.1].map eI) ak rfl rfl (aW fun _=>rfl) rfl (by decide) (by decide) rfl) (Oc (bu ak (dy (jG (gq hI3 hk2))) (dx (jG (gq hI3 hk2))) rfl rfl rfl rfl (bT (jG (gq hI3 hk2))) rfl) (Oc oa ?_))))))
  refine ae.nil (Fin.ah (Fin.ag ⟨[(1,_),(3,_),(12,_)],[(101,_),(102,_),(103,.row 3 1 ((vis_2 ++ [p_4.1]).map eI))]⟩ rfl (Fin.pj 102 rfl ?_)))
  exact Fin.again ((vis_2 ++ [p_4.1]),r_5 ++ r_6) (nw hI3) (by simp) rfl
def cZ (F:Nat) (c0up:bC):Option ((List (List Int)) × bC) :=
 Option.bind (ph c0up) (fun ks_1=>(cW F (ks_1)).bind fun x_7=>Option.bind (iter F (un4 fun up_10 at_11 out_12 x_13=>if (decide (x_13 < (x_7.length:Int))) = true then (Option.bind ((aM x_7 x_13).bind fun x_19=>Option.bind (bJ F x_19 up_10) (cr fun x_20 x_21=>Option.bind (if (decide (x_20 = x_19)) = true then ((dF out_12 [[]]).bind fun x_24=>some (dR at_11 x_19 (out_12.length:Int),x_24)) else (some (at_11,out_12))) (cr fun at_22 out_23=>(aM out_23 (cF at_22 x_20)).bind fun x_25=>(dF x_25 [x_19]).bind fun x_26=>(aM out_23 (cF at_22 x_20)).bind fun x_27=>some (x_21,at_22,out_23.set (cF at_22 x_20:Int).toNat x_26)))) (mE fun up_16 at_17 out_18=>some (.inl (up_16,at_17,out_18,IntKind.i64.wrap (x_13 + 1))))) else (some (.inr (out_12,up_10)))) (c0up,([]:bC),[],0)) (cr fun out_8 y_9=>some (out_8,y_9)))
theorem gW {F:Nat} {c0up:bC} {r:(List (List Int)) × bC} (h:cZ F c0up = some r):ar Try.prog [] 31 [(1,.mq c0up)] [.xa [.row 1]] (Is [(1,.mq r.2),(51,.rr 30 3 1 .none (r.1.map (eR eI)))] (.b (.row 51))):=by
 unfold cZ at h
 refine ar.intro 59 Try.func31 Try.ntmps31 rfl (by simp) fun E=>?_
 show ab _ E ⟨59,[1],[1],[]⟩ _ ⟨[(0,.b (.xa [.row 1]))],[(1,.mq c0up)]⟩ _
 refine ab.seq (ab.aa ?_)
 refine Oc (k6 (k:=101) rfl rfl rfl rfl) (Oc oa ?_)
 refine ae.af ⟨[(1,Pt 101 0)],[(1,.mq c0up),(101,.ao 52 [.row 1])]⟩ rfl (ab.seq (ab.aa ?_))
 refine Oc oa (ae.af ⟨[(1,_),(3,.b (.one (.nil)))],[(1,_),(101,_)]⟩ rfl (ab.seq (ab.seq (ab.aa ?_))))
 refine Oc (bA gY rfl rfl) (Oc (a7 kS rfl rfl rfl) (Oc (mo 102 mG rfl rfl (by decide) rfl rfl) ?_))
 refine ae.af ⟨[(1,_),(3,_),(12,Pt 102 0)],[(101,_),(102,.gL 1 c0up c0up none)]⟩ rfl (ab.de 3 103 1 3 rfl (by decide) rfl (ab.ag ⟨[(1,_),(3,.b (.row 103)),(12,_)],[(101,_),(102,_),(103,.row 3 1 ([].map eI))]⟩ rfl ?_))
 obtain ⟨ks_1,e1,h⟩:=aF h
 obtain ⟨hk2,rfl⟩:=qf e1
 refine ab.block (ab.loop (fun (q:List Int × bC)=>⟨[(1,Pt 101 0),(3,.b (.row 103)),(12,Pt 102 0)],[(101,.ao 52 [.row 1]),(102,.gL 1 c0up q.2 none),(103,.row 3 1 (q.1.map eI))]⟩) (fun q=>(q.1 ++ q.2.map (·.1)).Perm (c0up.map (·.1))) (fun q=>q.2.length) ([],c0up) (by simp) rfl ?_)
 rintro ⟨vis_2,rs_3⟩ hI3
 refine ab.seq (ab.aa ?_)
 refine ae.nextM rfl rfl rfl (fun hr4=>?_) (fun p_4 r_5 r_6 hr4=>?_)
 ·subst hr4
  have hp5:vis_2.Perm (c0up.map (·.1)):=by simpa using hI3
  refine Oc (aG rfl rfl) (ae.af ⟨[(1,_),(3,_),(12,_),(14,B false)],[(101,_),(102,.gL 1 c0up [] none),(103,.row 3 1 (vis_2.map eI))]⟩ rfl (ab.seq (ab.sU rfl (ab.exit (Fin.ai ?_)))))
  refine Fin.ai (Fin.ag ⟨[(1,_),(3,_),(12,_)],[(101,_),(102,_),(103,_)]⟩ rfl (Fin.pk 102 rfl rfl (Fin.ay (Fin.ag ⟨[(1,_),(3,_)],[(1,.mq c0up),(101,_),(103,_)]⟩ rfl (Fin.then (ab.seq (ab.aa ?_)))))))
  refine Oc om (ae.k9 103 rfl ?_)
  obtain ⟨x_7,e6,h⟩:=aF h
  refine Oc (bh (own_a:=[(103,_)]) ((fc (F:=F) (n8 hp5 e6)).sw 1 103) pq rfl ⟨rfl,trivial⟩ rfl rfl) (ae.lO 103 rfl (ae.af ⟨[(1,_),(3,_)],[(1,_),(101,_),(103,.row 3 1 (x_7.map eI))]⟩ rfl (ab.seq (ab.aa ?_))))
  refine Oc (iO (k:=104) mG rfl) (Oc oa ?_)
  refine ae.af ⟨[(1,_),(3,_),(5,.b (.row 104))],[(1,_),(101,_),(103,_),(104,.mq ([]:bC))]⟩ rfl (ab.seq (ab.aa ?_))
  refine Oc oa (ae.af ⟨[(1,_),(3,_),(5,_),(6,.b (.one (.nil)))],[(1,_),(101,_),(103,_),(104,_)]⟩ rfl ?_)
  obtain ⟨v7,h8,h⟩:=aF h
  refine ab.bS (v:=v7) (cr fun (out_8:List (List Int)) (y_9:bC)=>⟨[(6,.b (.row 106))],[(1,.mq y_9),(106,.rr 30 3 1 .none (out_8.map (eR eI)))]⟩) (fun z=>z) ?_ ?_
  ·refine ab.seq (ab.aa ?_)
   refine Oc om (Oc (dX fO rfl rfl (List.length_map _)) (Oc om ?_))
   refine ae.af ⟨[(1,_),(5,_),(6,_),(24,.b (.row 103)),(25,I (x_7.length:Int)),(26,I 0)],[(1,_),(101,_),(103,_),(104,_)]⟩ rfl (ab.block (ab.lT 6 106 1 30 3 rfl (by decide) rfl (ab.bZ h8 (un4 fun (up_10:bC) (at_11:bC) (out_12:List (List Int)) (x_13:Int)=>⟨[(1,Pt 101 0),(5,.b (.row 104)),(6,.b (.row 106)),(24,.b (.row 103)),(25,I (x_7.length:Int)),(26,I x_13)],[(1,.mq up_10),(101,.ao 52 [.row 1]),(103,.row 3 1 (x_7.map eI)),(104,.mq at_11),(106,.rr 30 3 1 .none (out_12.map (eR eI)))]⟩) [1,5,6,24,25,26] [1,101,103,104,106] rfl ?_)))
   rintro ⟨up_10,at_11,out_12,x_13⟩ o9 h10 hy11
   refine ab.seq (ab.aa ?_)
   refine Oc (a8 rfl rfl) (ae.af ⟨[(1,_),(5,_),(6,_),(24,_),(25,_),(26,_),(27,B (decide (x_13 < (x_7.length:Int))))],[(1,_),(101,_),(103,_),(104,_),(106,_)]⟩ rfl (ab.seq (ab.ite h10 rfl (fun _ h10=>?_) (fun _ h10=>?_))))
   ·refine ab.skip (Fin.ag ⟨[(1,_),(5,_),(6,_),(24,_),(25,_),(26,_)],[(1,_),(101,_),(103,_),(104,_),(106,_)]⟩ rfl (Fin.then ?_))
    obtain ⟨v12,h13,h10⟩:=aF h10
    refine ab.bS (v:=v12) (mE fun (up_16:bC) (at_17:bC) (out_18:List (List Int))=>⟨[(1,Pt 101 0),(5,.b (.row 104)),(6,.b (.row 106)),(24,.b (.row 103)),(25,I (x_7.length:Int)),(26,I x_13)],[(1,.mq up_16),(101,.ao 52 [.row 1]),(103,.row 3 1 (x_7.map eI)),(104,.mq at_17),(106,.rr 30 3 1 .none (out_18.map (eR eI)))]⟩) (fun z=>z) ?_ ?_
    ·refine ab.block (ab.seq (ab.aa ?_))
     obtain ⟨x_19,e14,h13⟩:=aF h13
     refine Oc (au ak (aE e14) (aY e14) rfl rfl rfl rfl) (Oc (aK (i:=(x_13:Int).toNat) (f:=0) aA rfl rfl rfl (aC (e:=eI) e14) rfl) (Oc oa ?_))
     refine ae.af ⟨[(1,_),(5,_),(6,_),(8,I x_19),(24,_),(25,_),(26,_)],[(1,_),(101,_),(103,_),(104,_),(106,_)]⟩ rfl (ab.seq (ab.aa ?_))
     refine Oc ((cV c7 rfl rfl rfl rfl).lA rfl) (Oc om ?_)
     obtain ⟨⟨x_20,x_21⟩,e15,h13⟩:=aF h13
     refine Oc (bh (own_a:=[(1,_)]) (cD e15) mP rfl ⟨rfl,trivial⟩ rfl rfl) (Oc oa ?_)
     refine ae.af ⟨[(1,_),(5,_),(6,_),(8,_),(9,I x_20),(24,_),(25,_),(26,_)],[(1,.mq x_21),(101,_),(103,_),(104,_),(106,_)]⟩ rfl ?_
     obtain ⟨v16,h17,h13⟩:=aF h13
     refine ab.bS (v:=v16) (cr fun (at_22:bC) (out_23:List (List Int))=>⟨[(1,Pt 101 0),(5,.b (.row 104)),(6,.b (.row 106)),(8,I x_19),(9,I x_20),(24,.b (.row 103)),(25,I (x_7.length:Int)),(26,I x_13)],[(1,.mq x_21),(101,.ao 52 [.row 1]),(103,.row 3 1 (x_7.map eI)),(104,.mq at_22),(106,.rr 30 3 1 .none (out_23.map (eR eI)))]⟩) (fun z=>z) ?_ ?_
     ·refine ab.seq (ab.aa ?_)
      refine Oc om (Oc om (Oc (dN rfl rfl) ?_))
      refine ae.af ⟨[(1,_),(5,_),(6,_),(8,_),(9,_),(24,_),(25,_),(26,_),(35,B (decide (x_20 = x_19)))],[(1,_),(101,_),(103,_),(104,_),(106,_)]⟩ rfl (ab.ite h17 rfl (fun _ h17=>?_) (fun _ h17=>?_))
      ·refine ab.seq (ab.aa ?_)
       refine Oc om (Oc om (Oc om (Oc (lK gg rfl rfl (List.length_map _)) (Oc (kA eF rfl rfl rfl rfl) ?_))))
       refine ae.af ⟨[(1,_),(5,_),(6,_),(8,_),(9,_),(24,_),(25,_),(26,_)],[(1,_),(101,_),(103,_),(104,.mq (dR at_11 x_19 (out_12.length:Int))),(106,_)]⟩ rfl (ab.aa (Oc om (Oc (ax (k:=107) (es:=[[.nil]]) bP rfl rfl (fun ps h=>by simp at h; subst h; rfl) rfl (by decide) (by decide) rfl) ?_)))
       obtain ⟨x_24,e18,h17⟩:=aF h17
       refine Oc (kN bP (rr_b e18) (rr_m e18) rfl rfl rfl rfl (s9 e18) rfl) (Oc oa ?_)
       refine ae.nil ?_
       exact Fin.join [1,5,6,8,9,24,25,26] [1,101,103,104,106] (dR at_11 x_19 (out_12.length:Int),x_24) (Option.some.inj h17) rfl
      ·refine ab.skip ?_
       exact Fin.join [1,5,6,8,9,24,25,26] [1,101,103,104,106] (at_11,out_12) (Option.some.inj h17) rfl
     ·rintro ⟨at_22,out_23⟩ hv
      subst v16
      refine ab.ag ⟨[(1,_),(5,_),(6,_),(8,_),(9,_),(24,_),(25,_),(26,_)],[(1,_),(101,_),(103,_),(104,_),(106,_)]⟩ rfl ?_
      obtain ⟨x_25,e19,h13⟩:=aF h13
      obtain ⟨x_26,e20,h13⟩:=aF h13
      obtain ⟨x_27,e21,h13⟩:=aF h13
      refine ab.gA mixed [false,false,false,false,false,false,false,false,false,true,false,false,true,false,true] [.b (.row 106),.b (.row 104),I x_20,I (cF at_22 x_20),.b (.row 106),.b (.row 104),I x_20,I (cF at_22 x_20),.b (.bG 106 (cF at_22 x_20:Int).toNat),.b (.row 108),I x_19,.b (.one (.sl 1 ([x_19].map eI))),.b (.row 110),.b (.bG 106 (cF at_22 x_20:Int).toNat),B true] [⟨[false,false,false,false,false,false,false,false,false,false,false,false,false,false,false],[(1,Pt 101 0),(5,.b (.row 104)),(6,.b (.row 106)),(8,I x_19),(9,I x_20),(24,.b (.row 103)),(25,I (x_7.length:Int)),(26,I x_13)],[(1,.mq x_21),(101,.ao 52 [.row 1]),(103,.row 3 1 (x_7.map eI)),(104,.mq at_22),(106,.rr 30 3 1 .none (out_23.map (eR eI)))],[true,true,true,true,true,true,true,true,true,true,true,true,true,true,true],[],[12,13,14]⟩,⟨[false,false,false,false,false,false,false,false,false,true,false,false,false,false,false],[(1,Pt 101 0),(5,.b (.row 104)),(6,.b (.row 106)),(8,I x_19),(9,I x_20),(24,.b (.row 103)),(25,I (x_7.length:Int)),(26,I x_13)],[(1,.mq x_21),(101,.ao 52 [.row 1]),(103,.row 3 1 (x_7.map eI)),(104,.mq at_22),(106,.rr 30 3 1 (.at (cF at_22 x_20:Int).toNat) (out_23.map (eR eI))),(108,.row 3 1 (x_25.map eI))],[true,true,true,true,true,true,true,true,true,true,true,true,true,true,true],[4,5,6,7,8,9],[13,14]⟩,⟨[false,false,false,false,false,false,false,false,false,true,false,false,true,false,false],[(1,Pt 101 0),(5,.b (.row 104)),(6,.b (.row 106)),(8,I x_19),(9,I x_20),(24,.b (.row 103)),(25,I (x_7.length:Int)),(26,I x_13)],[(1,.mq x_21),(101,.ao 52 [.row 1]),(103,.row 3 1 (x_7.map eI)),(104,.mq at_22),(106,.rr 30 3 1 (.at (cF at_22 x_20:Int).toNat) (out_23.map (eR eI))),(110,.row 3 1 (x_26.map eI))],[true,true,true,true,true,true,true,true,true,true,true,true,true,true,true],[4,5,6,7,8,9,10,11,12],[]⟩,⟨[false,false,false,false,false,false,false,false,false,true,false,false,true,false,true],[(1,Pt 101 0),(5,.b (.row 104)),(6,.b (.row 106)),(8,I x_19),(9,I x_20),(24,.b (.row 103)),(25,I (x_7.length:Int)),(26,I x_13)],[(1,.mq x_21),(101,.ao 52 [.row 1]),(103,.row 3 1 (x_7.map eI)),(104,.mq at_22),(106,.rr 30 3 1 .none ((out_23.set (cF at_22 x_20:Int).toNat x_26).map (eR eI)))],[true,true,true,true,true,true,true,true,true,true,true,true,false,true,true],[0,1,2,3,4,5,6,7,8,9,10,11,12,13,14],[]⟩] rfl (⟨by kernel_rfl,⟨⟨.b (.row 106),fun _=>rfl,fun _=>.p (by exact an rfl)⟩,⟨.b (.row 104),fun _=>rfl,fun _=>.p (by exact an rfl)⟩,⟨I x_20,fun _=>rfl,fun _=>.p (by exact an rfl)⟩,⟨I (cF at_22 x_20),fun _=>rfl,fun _=>.p (by exact fF eF rfl rfl rfl)⟩,⟨.b (.row 106),fun _=>rfl,fun _=>.p (by exact an rfl)⟩,⟨.b (.row 104),fun _=>rfl,fun _=>.p (by exact an rfl)⟩,⟨I x_20,fun _=>rfl,fun _=>.p (by exact an rfl)⟩,⟨I (cF at_22 x_20),fun _=>rfl,fun _=>.p (by exact fF eF rfl rfl rfl)⟩,⟨.b (.bG 106 (cF at_22 x_20:Int).toNat),fun _=>rfl,fun _=>.p (by exact dK bP (aE e19) (aY e19) rfl rfl rfl rfl)⟩,⟨_,[108],.b (.row 108),rfl,fun _=>rfl,rfl,rfl,fun _=>.gf [1,101,103,104,106,108] (by exact .p (by exact jJ (i:=(cF at_22 x_20:Int).toNat) 108 aS rfl rfl rfl (aC (e:=eR eI) e19) (by decide) rfl rfl)) (by exact rfl)⟩,⟨I x_19,fun _=>rfl,fun _=>.p (by exact an rfl)⟩,⟨.b (.one (.sl 1 ([x_19].map eI))),fun _=>rfl,fun _=>.p (by exact cf (es:=[x_19].map eI) ak rfl rfl (aW fun _=>rfl) rfl (by decide) (by decide))⟩,trivial,trivial,trivial,trivial⟩,⟨by kernel_rfl,⟨⟨.b (.row 106),fun _=>rfl,fun _=>.p (by exact an rfl)⟩,⟨.b (.row 104),fun _=>rfl,fun _=>.p (by exact an rfl)⟩,⟨I x_20,fun _=>rfl,fun _=>.p (by exact an rfl)⟩,⟨I (cF at_22 x_20),fun _=>rfl,fun _=>.p (by exact fF eF rfl rfl rfl)⟩,trivial,trivial,trivial,trivial,trivial,trivial,⟨I x_19,fun _=>rfl,fun _=>.p (by exact an rfl)⟩,⟨.b (.one (.sl 1 ([x_19].map eI))),fun _=>rfl,fun _=>.p (by exact cf (es:=[x_19].map eI) ak rfl rfl (aW fun _=>rfl) rfl (by decide) (by decide))⟩,⟨_,[110],.b (.row 110),rfl,fun _=>rfl,rfl,rfl,fun _=>.gf [1,101,103,104,106,110] (by exact .p (by exact mu (k2:=110) ak (dy e20) (dx e20) rfl rfl rfl (bT e20) rfl rfl rfl rfl rfl)) (by exact rfl)⟩,trivial,trivial,trivial⟩,⟨by kernel_rfl,⟨⟨.b (.row 106),fun _=>rfl,fun _=>.p (by exact an rfl)⟩,⟨.b (.row 104),fun _=>rfl,fun _=>.p (by exact an rfl)⟩,⟨I x_20,fun _=>rfl,fun _=>.p (by exact an rfl)⟩,⟨I (cF at_22 x_20),fun _=>rfl,fun _=>.p (by exact fF eF rfl rfl rfl)⟩,trivial,trivial,trivial,trivial,trivial,trivial,trivial,trivial,trivial,⟨.b (.bG 106 (cF at_22 x_20:Int).toNat),fun _=>rfl,fun _=>.p (by exact dK bP (aE e21) (aY e21) rfl rfl rfl rfl)⟩,⟨_,[110],.b (.one .any),rfl,(fun e=>by simp at e),rfl,rfl,fun _=>.gf [1,101,103,104,106] (by exact .p (by exact iN aS rfl rfl rfl rfl rfl (fE e21) (by decide) (nG _ _ _ _))) (by exact rfl)⟩,trivial⟩,⟨by kernel_rfl,⟨trivial,trivial,trivial,trivial,trivial,trivial,trivial,trivial,trivial,trivial,trivial,trivial,trivial,trivial,trivial,trivial⟩,trivial⟩⟩⟩⟩) rfl rfl rfl [1,5,6,24,25,26] [1,101,103,104,106] (s':=⟨[(1,_),(5,_),(6,_),(24,_),(25,_),(26,_)],[(1,_),(101,_),(103,_),(104,_),(106,.rr 30 3 1 .none ((out_23.set (cF at_22 x_20:Int).toNat x_26).map (eR eI)))]⟩) rfl ?_
      refine Fin.ah ?_
      exact Fin.join [1,5,6,24,25,26] [1,101,103,104,106] (x_21,at_22,out_23.set (cF at_22 x_20:Int).toNat x_26) (Option.some.inj h13) rfl
    ·rintro ⟨up_16,at_17,out_18⟩ hv
     subst v12
     refine ab.aa (Oc (aV rfl rfl) (Oc om ?_))
     refine ae.nil ?_
     exact Fin.bx [1,5,6,24,25,26] [1,101,103,104,106] (up_16,at_17,out_18,IntKind.i64.wrap (x_13 + 1)) (Option.some.inj h10) rfl
   ·refine ab.exit (Fin.ai ?_)
    obtain rfl:=hy11 _ (Option.some.inj h10).symm
    refine Fin.ai (Fin.ay ?_)
    exact Fin.join [6] [1,106] (out_12,up_10) rfl rfl
  ·rintro ⟨out_8,y_9⟩ hv
   subst v7
   refine ab.seq (ab.aa ?_)
   refine Oc om (Oc oa ?_)
   refine ae.af ⟨[(2,.b (.row 106))],[(1,_),(106,_)]⟩ rfl (ab.ret ?_)
   obtain rfl:=Option.some.inj h
   refine Fin.ag ⟨[(2,.b (.row 106))],[(1,.mq y_9),(106,.rr 30 3 1 .none (out_8.map (eR eI)))]⟩ rfl (Fin.rename 106 51 rfl (by decide) rfl (Fin.ag ⟨[(2,.b (.row 51))],[(1,_),(51,.rr 30 3 1 .none (out_8.map (eR eI)))]⟩ rfl ?_))
   exact Fin.result [.row 51] (.inl rfl) rfl (.cons (.tmp rfl) .nil) ⟨rfl,rfl⟩
 ·subst hr4
  refine Oc (aG rfl rfl) (ae.af ⟨[(1,_),(3,_),(12,_),(14,B true)],[(101,_),(102,.gL 1 c0up (r_5 ++ r_6) (some p_4)),(103,.row 3 1 (vis_2.map eI))]⟩ rfl (ab.seq (ab.sT rfl (ab.skip (Fin.ag ⟨[(1,_),(3,_),(12,_)],[(101,_),(102,_),(103,_)]⟩ rfl ?_)))))
  refine Fin.then (ab.block (ab.seq (ab.aa ?_)))
  refine Oc (mr rfl rfl) (Oc (aG rfl rfl) (Oc oa ?_))
  refine ae.af ⟨[(1,_),(3,_),(4,I p_4.1),(12,_)],[(101,_),(102,_),(103,_)]⟩ rfl (ab.aa (Oc om (Oc om (Oc (ax (k:=111) (es:=[p_4.1].map eI) ak rfl rfl (aW fun _=>rfl) rfl (by decide) (by decide) rfl) (Oc (bu ak (dy (jG (gq hI3 hk2))) (dx (jG (gq hI3 hk2))) rfl rfl rfl rfl (bT (jG (gq hI3 hk2))) rfl) (Oc oa ?_))))))
  refine ae.nil (Fin.ah (Fin.ag ⟨[(1,_),(3,_),(12,_)],[(101,_),(102,_),(103,.row 3 1 ((vis_2 ++ [p_4.1]).map eI))]⟩ rfl (Fin.pj 102 rfl ?_)))
  exact Fin.again ((vis_2 ++ [p_4.1]),r_5 ++ r_6) (nw hI3) (by simp) rfl
def gy (F:Nat) (fixed0:List Bool) (links0:List A2):Option ((List (List Int)) × Int) :=
 (bM F fixed0 links0).bind fun x_1=>if (!x_1) = true then (some ([],1)) else (Option.bind (dg F fixed0 links0) (cr fun x_2 x_3=>Option.bind (cU F x_2) (cr fun x_4 x_5=>some (x_4,0))))
theorem nj {F:Nat} {fixed0:List Bool} {links0:List A2} {r:(List (List Int)) × Int} (h:gy F fixed0 links0 = some r):ar Try.prog [] 12 [] [.one (.sl 1 (fixed0.map eB)),.one (.sl 2 (links0.map (bX .i64)))] (Is [] (.fi [.one (.sl 1 (r.1.map (eL 1 eI))),.one (.i r.2)])):=by
 unfold gy at h
 refine ar.intro 20 Try.func12 Try.ntmps12 rfl (by simp) fun E=>?_
 show ab _ E ⟨20,[],[],[]⟩ _ ⟨[(0,.b (.one (.sl 1 (fixed0.map eB)))),(1,.b (.one (.sl 2 (links0.map (bX .i64)))))],[]⟩ _
 refine ab.seq (ab.aa ?_)
 refine Oc oa (Oc oa ?_)
 refine ae.af ⟨[(0,.b (.one (.sl 1 (fixed0.map eB)))),(1,.b (.one (.sl 2 (links0.map (bX .i64)))))],[]⟩ rfl (ab.seq (ab.seq (ab.aa ?_)))
 refine Oc om (Oc om ?_)
 obtain ⟨x_1,e1,h⟩:=aF h
 refine Oc (aJ (cM e1) mR rfl rfl) (Oc (c4 rfl) ?_)
 refine ae.af ⟨[(0,_),(1,_),(11,B (!x_1))],[]⟩ rfl (ab.ite h rfl (fun _ h=>?_) (fun _ h=>?_))
 ·refine ab.seq (ab.aa ?_)
  refine Oc oa (Oc oa ?_)
  refine ae.af ⟨[(4,.b (.one (.nil))),(5,I 1)],[]⟩ rfl (ab.ret (Fin.aR ?_))
  obtain rfl:=Option.some.inj h
  refine Fin.ag ⟨[(4,_),(5,_)],[]⟩ rfl (Fin.iH 4 1 rfl (by decide) (Fin.aP [.one (.sl 1 ([].map (eL 1 eI))),.one (.i 1)] (.inl rfl) rfl (.cons (.tmp rfl) (.cons (.tmp rfl) .nil)) ⟨rfl,rfl⟩))
 ·refine ab.skip (Fin.ag ⟨[(0,_),(1,_)],[]⟩ rfl (Fin.then (ab.seq (ab.aa ?_))))
  refine Oc om (Oc om ?_)
  obtain ⟨⟨x_2,x_3⟩,e2,h⟩:=aF h
  refine Oc (bh (own_a:=[]) (((fC e2).sw 51 101).sw 52 102) qY rfl trivial rfl rfl) (Oc om (Oc (aG rfl rfl) ?_))
  refine ae.ag ⟨[(12,.fi [.xa [.row 101],.row 102]),(16,.b (.xa [.row 101]))],[(101,.mq x_2),(102,.row 3 1 (x_3.map eI))]⟩ rfl (Oc (aG rfl rfl) (Oc (bf (k:=103) je rfl) ?_))
  refine ae.oF 103 rfl (Oc (fK c7 rfl rfl rfl rfl rfl (Nat.le_of_ble_eq_true rfl) rfl) (Oc oa ?_))
  refine ae.af ⟨[(6,Pt 103 0)],[(101,.mq x_2),(103,.ao 52 [.row 101])]⟩ rfl (ab.seq (ab.aa ?_))
  refine Oc ((cV c7 rfl rfl rfl rfl).lA rfl) ?_
  obtain ⟨⟨x_4,x_5⟩,e3,h⟩:=aF h
  refine Oc (bh (own_a:=[(101,_)]) ((fo e3).sw 1 101) qX rfl ⟨rfl,trivial⟩ rfl rfl) (Oc oa (Oc oa ?_))
  refine ae.af ⟨[(4,.b (.one (.sl 1 (x_4.map (eL 1 eI))))),(5,I 0)],[]⟩ rfl (ab.ret ?_)
  obtain rfl:=Option.some.inj h
  refine Fin.ag ⟨[(4,_),(5,_)],[]⟩ rfl (Fin.aP [.one (.sl 1 (x_4.map (eL 1 eI))),.one (.i 0)] (.inl rfl) rfl (.cons (.tmp rfl) (.cons (.tmp rfl) .nil)) ⟨rfl,rfl⟩)
def fe (F:Nat) (fixed0:List Bool) (links0:List A2):Option ((List (List Int)) × Int) :=
 (bM F fixed0 links0).bind fun x_1=>if (!x_1) = true then (some ([],1)) else (Option.bind (dg F fixed0 links0) (cr fun x_2 x_3=>Option.bind (cZ F x_2) (cr fun x_4 x_5=>some (x_4,0))))
theorem lf {F:Nat} {fixed0:List Bool} {links0:List A2} {r:(List (List Int)) × Int} (h:fe F fixed0 links0 = some r):ar Try.prog [] 12 [] [.one (.sl 1 (fixed0.map eB)),.one (.sl 2 (links0.map (bX .i64)))] (Is [(51,.rr 30 3 1 .none (r.1.map (eR eI)))] (.fi [.row 51,.one (.i r.2)])):=by
 unfold fe at h
 refine ar.intro 20 Try.func12 Try.ntmps12 rfl (by simp) fun E=>?_
 show ab _ E ⟨20,[],[],[]⟩ _ ⟨[(0,.b (.one (.sl 1 (fixed0.map eB)))),(1,.b (.one (.sl 2 (links0.map (bX .i64)))))],[]⟩ _
 refine ab.seq (ab.aa ?_)
 refine Oc oa (Oc oa ?_)
 refine ae.af ⟨[(0,.b (.one (.sl 1 (fixed0.map eB)))),(1,.b (.one (.sl 2 (links0.map (bX .i64)))))],[]⟩ rfl (ab.seq (ab.seq (ab.aa ?_)))
 refine Oc om (Oc om ?_)
 obtain ⟨x_1,e1,h⟩:=aF h
 refine Oc (aJ (cM e1) mR rfl rfl) (Oc (c4 rfl) ?_)
 refine ae.af ⟨[(0,_),(1,_),(11,B (!x_1))],[]⟩ rfl (ab.ite h rfl (fun _ h=>?_) (fun _ h=>?_))
 ·refine ab.seq (ab.aa ?_)
  refine Oc oa (Oc oa ?_)
  refine ae.af ⟨[(4,.b (.one (.nil))),(5,I 1)],[]⟩ rfl (ab.ret (Fin.aR ?_))
  obtain rfl:=Option.some.inj h
  refine Fin.ag ⟨[(4,_),(5,_)],[]⟩ rfl (Fin.lT 4 51 1 30 3 rfl (by decide) rfl (Fin.ag ⟨[(4,.b (.row 51)),(5,_)],[(51,.rr 30 3 1 .none ([].map (eR eI)))]⟩ rfl ?_))
  exact Fin.result [.row 51,.one (.i 1)] (.inl rfl) rfl (.cons (.tmp rfl) (.cons (.tmp rfl) .nil)) ⟨rfl,rfl⟩
 ·refine ab.skip (Fin.ag ⟨[(0,_),(1,_)],[]⟩ rfl (Fin.then (ab.seq (ab.aa ?_))))
  refine Oc om (Oc om ?_)
  obtain ⟨⟨x_2,x_3⟩,e2,h⟩:=aF h
  refine Oc (bh (own_a:=[]) (((fC e2).sw 51 101).sw 52 102) qY rfl trivial rfl rfl) (Oc om (Oc (aG rfl rfl) ?_))
  refine ae.ag ⟨[(12,.fi [.xa [.row 101],.row 102]),(16,.b (.xa [.row 101]))],[(101,.mq x_2),(102,.row 3 1 (x_3.map eI))]⟩ rfl (Oc (aG rfl rfl) (Oc (bf (k:=103) je rfl) ?_))
  refine ae.oF 103 rfl (Oc (fK c7 rfl rfl rfl rfl rfl (Nat.le_of_ble_eq_true rfl) rfl) (Oc oa ?_))
  refine ae.af ⟨[(6,Pt 103 0)],[(101,.mq x_2),(103,.ao 52 [.row 101])]⟩ rfl (ab.seq (ab.aa ?_))
  refine Oc ((cV c7 rfl rfl rfl rfl).lA rfl) ?_
  obtain ⟨⟨x_4,x_5⟩,e3,h⟩:=aF h
  refine Oc (bh (own_a:=[(101,_)]) (((gW e3).sw 1 101).sw 51 104) qX rfl ⟨rfl,trivial⟩ rfl rfl) (Oc oa (Oc oa ?_))
  refine ae.af ⟨[(4,.b (.row 104)),(5,I 0)],[(104,.rr 30 3 1 .none (x_4.map (eR eI)))]⟩ rfl (ab.ret ?_)
  obtain rfl:=Option.some.inj h
  refine Fin.ag ⟨[(4,.b (.row 104)),(5,I 0)],[(104,.rr 30 3 1 .none (x_4.map (eR eI)))]⟩ rfl (Fin.rename 104 51 rfl (by decide) rfl (Fin.ag ⟨[(4,.b (.row 51)),(5,_)],[(51,.rr 30 3 1 .none (x_4.map (eR eI)))]⟩ rfl ?_))
  exact Fin.result [.row 51,.one (.i 0)] (.inl rfl) rfl (.cons (.tmp rfl) (.cons (.tmp rfl) .nil)) ⟨rfl,rfl⟩
def cL (F:Nat) (n0:Int) (links0:List A2) (places0:List Int):Option (List (List jy)) :=
 Option.bind (mk? ([]:List jy) n0 n0) (fun x_1=>Option.bind (iter F (cr fun out_3 x_4=>if (decide (x_4 < (places0.length:Int))) = true then ((aM places0 x_4).bind fun x_6=>(aM links0 x_6).bind fun x_7=>(aM links0 x_6).bind fun x_8=>(aM out_3 x_7.a0).bind fun x_9=>(dF x_9 [(⟨x_8.a1,x_6⟩:jy)]).bind fun x_10=>(aM out_3 x_7.a0).bind fun x_11=>(aM (out_3.set (x_7.a0:Int).toNat x_10) x_8.a1).bind fun x_12=>(dF x_12 [(⟨x_7.a0,x_6⟩:jy)]).bind fun x_13=>(aM (out_3.set (x_7.a0:Int).toNat x_10) x_8.a1).bind fun x_14=>some (.inl ((out_3.set (x_7.a0:Int).toNat x_10).set (x_8.a1:Int).toNat x_13,IntKind.i64.wrap (x_4 + 1)))) else (some (.inr out_3))) (x_1,0)) (fun out_2=>some out_2))
theorem ga {F:Nat} {n0:Int} {links0:List A2} {places0:List Int} {r:(List (List jy))} (h:cL F n0 links0 places0 = some r):ar Try.prog [] 32 [] [.one (.i n0),.one (.sl 2 (links0.map (bX .i64))),.one (.sl 1 (places0.map eI))] (Is [] (.b (.one (.sl 1 (r.map (eL 2 aX)))))):=by
 unfold cL at h
 refine ar.intro 56 Try.func32 Try.ntmps32 rfl (by simp) fun E=>?_
 show ab _ E ⟨56,[],[],[]⟩ _ ⟨[(0,I n0),(1,.b (.one (.sl 2 (links0.map (bX .i64))))),(2,.b (.one (.sl 1 (places0.map eI))))],[]⟩ _
 refine ab.seq (ab.aa ?_)
 refine Oc oa (ae.af ⟨[(0,I n0),(1,.b (.one (.sl 2 (links0.map (bX .i64))))),(2,.b (.one (.sl 1 (places0.map eI))))],[]⟩ rfl (ab.seq (ab.aa ?_)))
 refine Oc om ?_
 obtain ⟨x_1,e1,h⟩:=aF h
 refine Oc ((bB (k:=101) (enc:=fun _=>[CP.nil]) lE e1 (by decide) (.cons .refl .nil) rfl rfl rfl).qK 101 60 2 rfl (uj _) (by decide) (rr_mk (e:=aX) e1)) (Oc oa ?_)
 refine ae.af ⟨[(1,_),(2,_),(7,.b (.row 101))],[(101,.rr 58 60 2 .none (x_1.map (eR aX)))]⟩ rfl ?_
 obtain ⟨v2,h3,h⟩:=aF h
 refine ab.bS (v:=v2) (fun (out_2:List (List jy))=>⟨[(7,.b (.row 101))],[(101,.rr 58 60 2 .none (out_2.map (eR aX)))]⟩) (fun z=>z) ?_ ?_
 ·refine ab.seq (ab.aa ?_)
  refine Oc om (Oc (aq fO rfl (List.length_map _)) (Oc om ?_))
  refine ae.af ⟨[(1,_),(7,_),(14,.b (.one (.sl 1 (places0.map eI)))),(15,I (places0.length:Int)),(16,I 0)],[(101,_)]⟩ rfl (ab.block (ab.bZ h3 (cr fun (out_3:List (List jy)) (x_4:Int)=>⟨[(1,.b (.one (.sl 2 (links0.map (bX .i64))))),(7,.b (.row 101)),(14,.b (.one (.sl 1 (places0.map eI)))),(15,I (places0.length:Int)),(16,I x_4)],[(101,.rr 58 60 2 .none (out_3.map (eR aX)))]⟩) [1,7,14,15,16] [101] rfl ?_))
  rintro ⟨out_3,x_4⟩ o4 h5 hy6
  refine ab.seq (ab.aa ?_)
  refine Oc (a8 rfl rfl) (ae.af ⟨[(1,_),(7,_),(14,_),(15,_),(16,_),(17,B (decide (x_4 < (places0.length:Int))))],[(101,_)]⟩ rfl (ab.seq (ab.ite h5 rfl (fun _ h5=>?_) (fun _ h5=>?_))))
  ·refine ab.skip (Fin.ag ⟨[(1,_),(7,_),(14,_),(15,_),(16,_)],[(101,_)]⟩ rfl (Fin.then (ab.seq (ab.block (ab.seq (ab.aa ?_))))))
   obtain ⟨x_6,e7,h5⟩:=aF h5
   refine Oc (az ak (aE e7) (aC (e:=eI) e7) rfl rfl) (Oc (aw aA rfl rfl) (Oc oa ?_))
   refine ae.af ⟨[(1,_),(7,_),(9,I x_6),(14,_),(15,_),(16,_)],[(101,_)]⟩ rfl (ab.seq ?_)
   obtain ⟨x_7,e8,h5⟩:=aF h5
   obtain ⟨x_8,e9,h5⟩:=aF h5
   refine ab.en mixed 12 [.b (.one (.sl 2 (links0.map (bX .i64)))),I x_6,.b (.cI ((bX .i64) x_7)),.b (.cI [.i x_7.a0]),I x_7.a0,.b (.one (.sl 2 (links0.map (bX .i64)))),I x_6,.b (.cI ((bX .i64) x_8)),.b (.cI [.i x_8.a1]),I x_8.a1,I x_7.a0,I x_8.a1] [1,7,9,10,11,14,15,16] [101] (s':=⟨[(1,_),(7,_),(9,_),(10,I x_7.a0),(11,I x_8.a1),(14,_),(15,_),(16,_)],[(101,_)]⟩) rfl ⟨fun _=>.p om,fun _=>.p om,fun _=>.p (az dq (aE e8) (aC (e:=(bX .i64)) e8) rfl rfl),fun _=>.p (cO dD (by decide) (by decide) rfl rfl rfl),fun _=>.p (aw aA rfl rfl),fun _=>.p om,fun _=>.p om,fun _=>.p (az dq (aE e9) (aC (e:=(bX .i64)) e9) rfl rfl),fun _=>.p (cO dD (by decide) (by decide) rfl rfl rfl),fun _=>.p (aw aA rfl rfl),fun _=>.p oa,fun _=>.p oa,trivial⟩ rfl rfl (ab.seq (ab.aa ?_))
   refine Oc om (Oc om (Oc om (Oc om ?_)))
   obtain ⟨x_9,e10,h5⟩:=aF h5
   refine Oc (dK lE (aE e10) (aY e10) rfl rfl rfl rfl) (Oc (jJ (i:=(x_7.a0:Int).toNat) 102 kR rfl rfl rfl (aC (e:=eR aX) e10) (by decide) rfl rfl) (Oc om ?_))
   refine ae.ag ⟨[(1,_),(7,_),(9,_),(10,_),(11,_),(14,_),(15,_),(16,_),(30,.b (.row 101)),(31,I x_7.a0),(35,.b (.row 102)),(36,I x_8.a1)],[(101,.rr 58 60 2 (.at (x_7.a0:Int).toNat) (out_3.map (eR aX))),(102,.row 60 2 (x_9.map aX))]⟩ rfl (Oc om (Oc (gC oP rfl rfl) (Oc (ax (k:=103) (es:=[(⟨x_8.a1,x_6⟩:jy)].map aX) mH rfl rfl (aW fun _=>rfl) rfl (by decide) (by decide) rfl) ?_)))
   obtain ⟨x_10,e11,h5⟩:=aF h5
   refine Oc (bu mH (dy e11) (dx e11) rfl rfl rfl rfl (bT e11) rfl) ?_
   obtain ⟨x_11,e12,h5⟩:=aF h5
   refine Oc (dK lE (aE e12) (aY e12) rfl rfl rfl rfl) (Oc (iN kR rfl rfl rfl rfl rfl (fE e12) (by decide) (nG _ _ _ _)) ?_)
   refine ae.af ⟨[(1,_),(7,_),(9,_),(10,_),(11,_),(14,_),(15,_),(16,_)],[(101,.rr 58 60 2 .none ((out_3.set (x_7.a0:Int).toNat x_10).map (eR aX)))]⟩ rfl (ab.aa (Oc om (Oc om (Oc om (Oc om ?_)))))
   obtain ⟨x_12,e13,h5⟩:=aF h5
   refine Oc (dK lE (aE e13) (aY e13) rfl rfl rfl rfl) (Oc (jJ (i:=(x_8.a1:Int).toNat) 104 kR rfl rfl rfl (aC (e:=eR aX) e13) (by decide) rfl rfl) (Oc om ?_))
   refine ae.ag ⟨[(1,_),(7,_),(9,_),(14,_),(15,_),(16,_),(42,.b (.row 101)),(43,I x_8.a1),(47,.b (.row 104)),(48,I x_7.a0)],[(101,.rr 58 60 2 (.at (x_8.a1:Int).toNat) ((out_3.set (x_7.a0:Int).toNat x_10).map (eR aX))),(104,.row 60 2 (x_12.map aX))]⟩ rfl (Oc om (Oc (gC oP rfl rfl) (Oc (ax (k:=105) (es:=[(⟨x_7.a0,x_6⟩:jy)].map aX) mH rfl rfl (aW fun _=>rfl) rfl (by decide) (by decide) rfl) ?_)))
   obtain ⟨x_13,e14,h5⟩:=aF h5
   refine Oc (bu mH (dy e14) (dx e14) rfl rfl rfl rfl (bT e14) rfl) ?_
   obtain ⟨x_14,e15,h5⟩:=aF h5
   refine Oc (dK lE (aE e15) (aY e15) rfl rfl rfl rfl) (Oc (iN kR rfl rfl rfl rfl rfl (fE e15) (by decide) (nG _ _ _ _)) ?_)
   refine ae.nil (Fin.ah (Fin.ag ⟨[(1,_),(7,_),(14,_),(15,_),(16,_)],[(101,.rr 58 60 2 .none (((out_3.set (x_7.a0:Int).toNat x_10).set (x_8.a1:Int).toNat x_13).map (eR aX)))]⟩ rfl (Fin.then (ab.aa ?_))))
   refine Oc (aV rfl rfl) (Oc om ?_)
   refine ae.nil ?_
   exact Fin.bx [1,7,14,15,16] [101] ((out_3.set (x_7.a0:Int).toNat x_10).set (x_8.a1:Int).toNat x_13,IntKind.i64.wrap (x_4 + 1)) (Option.some.inj h5) rfl
  ·refine ab.exit (Fin.ai ?_)
   obtain rfl:=hy6 _ (Option.some.inj h5).symm
   refine Fin.ai (Fin.ay ?_)
   exact Fin.join [7] [101] out_3 rfl rfl
 ·rintro out_2 hv
  subst v2
  refine ab.seq (ab.aa ?_)
  refine Oc om (Oc oa ?_)
  refine ae.af ⟨[(6,.b (.row 101))],[(101,_)]⟩ rfl (ab.ret ?_)
  obtain rfl:=Option.some.inj h
  refine Fin.ag ⟨[(6,_)],[(101,_)]⟩ rfl (Fin.k4 101 rfl (rr_sl _) (Fin.aP [.one (.sl 1 (out_2.map (eL 2 aX)))] (.inl rfl) rfl (.cons (.tmp rfl) .nil) ⟨rfl,rfl⟩))
def fv (F:Nat) (fixed0:List Bool) (links0:List A2):Option ((List Int) × Int) :=
 (bM F fixed0 links0).bind fun x_1=>if (!x_1) = true then (some ([],1)) else (Option.bind (mk? (0:Int) (links0.length:Int) (links0.length:Int)) (fun x_2=>Option.bind (iter F (cr fun places_4 x_5=>if (decide (x_5 < (x_2.length:Int))) = true then ((aM places_4 x_5).bind fun x_7=>some (.inl (places_4.set (x_5:Int).toNat x_5,IntKind.i64.wrap (x_5 + 1)))) else (some (.inr places_4))) (x_2,0)) (fun places_3=>(cL F (fixed0.length:Int) links0 places_3).bind fun x_8=>Option.bind (iter F (mE fun out_11 queue_12 x_13=>if (decide (x_13 < (fixed0.length:Int))) = true then (Option.bind ((aM fixed0 x_13).bind fun x_18=>(dF out_11 [(-1)]).bind fun x_19=>if x_18 = true then ((aM x_19 x_13).bind fun x_20=>(dF queue_12 [x_13]).bind fun x_21=>some (x_19.set (x_13:Int).toNat 0,x_21)) else (some (x_19,queue_12))) (cr fun out_16 queue_17=>some (.inl (out_16,queue_17,IntKind.i64.wrap (x_13 + 1))))) else (some (.inr (out_11,queue_12)))) ([],[],0)) (cr fun out_9 queue_10=>Option.bind (iter F (cr fun out_23 queue_24=>if (decide (0 < (queue_24.length:Int))) = true then ((aM queue_24 0).bind fun x_26=>(lU queue_24 1).bind fun x_27=>(aM x_8 x_26).bind fun x_28=>Option.bind (iter F (mE fun out_29 queue_30 x_31=>if (decide (x_31 < (x_28.length:Int))) = true then (Option.bind ((aM x_28 x_31).bind fun x_36=>(aM out_29 x_36.to).bind fun x_37=>if (decide (x_37 < 0)) = true then ((aM out_29 x_26).bind fun x_38=>(aM out_29 x_36.to).bind fun x_39=>(dF queue_30 [x_36.to]).bind fun x_40=>some (out_29.set (x_36.to:Int).toNat (IntKind.i64.wrap (x_38 + 1)),x_40)) else (some (out_29,queue_30))) (cr fun out_34 queue_35=>some (.inl (out_34,queue_35,IntKind.i64.wrap (x_31 + 1))))) else (some (.inr (out_29,queue_30)))) (out_23,x_27,0)) (cr fun out_32 queue_33=>some (.inl (out_32,queue_33)))) else (some (.inr out_23))) (out_9,queue_10)) (fun out_22=>some (out_22,0))))))
theorem iw (kr0:Nat) {F:Nat} {fixed0:List Bool} {links0:List A2} {r:(List Int) × Int} (h:fv F fixed0 links0 = some r):ar Try.prog [] 13 [] [.one (.sl 1 (fixed0.map eB)),.one (.sl 2 (links0.map (bX .i64)))] (Is [(kr0,.row 3 1 (r.1.map eI))] (.fi [.row kr0,.one (.i r.2)])):=by
 unfold fv at h
 refine ar.intro 96 Try.func13 Try.ntmps13 rfl (by simp) fun E=>?_
 show ab _ E ⟨96,[],[],[]⟩ _ ⟨[(0,.b (.one (.sl 1 (fixed0.map eB)))),(1,.b (.one (.sl 2 (links0.map (bX .i64)))))],[]⟩ _
 refine ab.seq (ab.aa ?_)
 refine Oc oa (Oc oa ?_)
 refine ae.af ⟨[(0,.b (.one (.sl 1 (fixed0.map eB)))),(1,.b (.one (.sl 2 (links0.map (bX .i64)))))],[]⟩ rfl (ab.seq (ab.seq (ab.aa ?_)))
 refine Oc om (Oc om ?_)
 obtain ⟨x_1,e1,h⟩:=aF h
 refine Oc (aJ (cM e1) mR rfl rfl) (Oc (c4 rfl) ?_)
 refine ae.af ⟨[(0,_),(1,_),(19,B (!x_1))],[]⟩ rfl (ab.ite h rfl (fun _ h=>?_) (fun _ h=>?_))
 ·refine ab.seq (ab.aa ?_)
  refine Oc oa (Oc oa ?_)
  refine ae.af ⟨[(4,.b (.one (.nil))),(5,I 1)],[]⟩ rfl (ab.ret (Fin.aR ?_))
  obtain rfl:=Option.some.inj h
  refine Fin.ag ⟨[(4,_),(5,_)],[]⟩ rfl (Fin.de 4 101 1 3 rfl (by decide) rfl (Fin.iI 101 kr0 [.row 101,.one (.i 1)] (.inl rfl) rfl (.cons (.tmp rfl) (.cons (.tmp rfl) .nil)) rfl rfl rfl rfl ⟨rfl,rfl⟩))
 ·refine ab.skip (Fin.ag ⟨[(0,_),(1,_)],[]⟩ rfl (Fin.then (ab.seq (ab.aa ?_))))
  refine Oc om (Oc (aq nn rfl (List.length_map _)) ?_)
  obtain ⟨x_2,e2,h⟩:=aF h
  refine Oc (bB (k:=102) (enc:=eI) ak e2 (by decide) (.cons .refl .nil) rfl rfl rfl) (Oc oa ?_)
  refine ae.af ⟨[(0,_),(1,_),(6,.b (.row 102))],[(102,.row 3 1 (x_2.map eI))]⟩ rfl ?_
  obtain ⟨v3,h4,h⟩:=aF h
  refine ab.bS (v:=v3) (fun (places_3:List Int)=>⟨[(0,.b (.one (.sl 1 (fixed0.map eB)))),(1,.b (.one (.sl 2 (links0.map (bX .i64))))),(6,.b (.row 102))],[(102,.row 3 1 (places_3.map eI))]⟩) (fun z=>z) ?_ ?_
  ·refine ab.seq (ab.aa ?_)
   refine Oc om (Oc (dX fO rfl rfl (List.length_map _)) (Oc om ?_))
   refine ae.af ⟨[(0,_),(1,_),(6,_),(24,I (x_2.length:Int)),(25,I 0)],[(102,_)]⟩ rfl (ab.block (ab.bZ h4 (cr fun (places_4:List Int) (x_5:Int)=>⟨[(0,.b (.one (.sl 1 (fixed0.map eB)))),(1,.b (.one (.sl 2 (links0.map (bX .i64))))),(6,.b (.row 102)),(24,I (x_2.length:Int)),(25,I x_5)],[(102,.row 3 1 (places_4.map eI))]⟩) [0,1,6,24,25] [102] rfl ?_))
   rintro ⟨places_4,x_5⟩ o5 h6 hy7
   refine ab.seq (ab.aa ?_)
   refine Oc (a8 rfl rfl) (ae.af ⟨[(0,_),(1,_),(6,_),(24,_),(25,_),(26,B (decide (x_5 < (x_2.length:Int))))],[(102,_)]⟩ rfl (ab.seq (ab.ite h6 rfl (fun _ h6=>?_) (fun _ h6=>?_))))
   ·refine ab.skip (Fin.ag ⟨[(0,_),(1,_),(6,_),(24,_),(25,_)],[(102,_)]⟩ rfl (Fin.then (ab.seq (ab.block (ab.seq (ab.aa ?_))))))
    refine Oc om (Oc oa ?_)
    refine ae.af ⟨[(0,_),(1,_),(6,_),(7,I x_5),(24,_),(25,_)],[(102,_)]⟩ rfl (ab.aa (Oc om (Oc om (Oc om ?_))))
    obtain ⟨x_7,e8,h6⟩:=aF h6
    refine Oc (au ak (aE e8) (aY e8) rfl rfl rfl rfl) (Oc (bV (i:=(x_5:Int).toNat) aA rfl rfl rfl rfl (fE e8) (map_set _ _ _ _)) ?_)
    refine ae.nil (Fin.ah (Fin.ag ⟨[(0,_),(1,_),(6,_),(24,_),(25,_)],[(102,.row 3 1 ((places_4.set (x_5:Int).toNat x_5).map eI))]⟩ rfl (Fin.then (ab.aa ?_))))
    refine Oc (aV rfl rfl) (Oc om ?_)
    refine ae.nil ?_
    exact Fin.bx [0,1,6,24,25] [102] (places_4.set (x_5:Int).toNat x_5,IntKind.i64.wrap (x_5 + 1)) (Option.some.inj h6) rfl
   ·refine ab.exit (Fin.ai ?_)
    obtain rfl:=hy7 _ (Option.some.inj h6).symm
    refine Fin.ai (Fin.ay ?_)
    exact Fin.join [0,1,6] [102] places_4 rfl rfl
  ·rintro places_3 hv
   subst v3
   refine ab.seq (ab.aa ?_)
   refine Oc om (Oc (aq dw rfl (List.length_map _)) (Oc om (Oc om ?_)))
   refine ae.bE 102 rfl ?_
   obtain ⟨x_8,e9,h⟩:=aF h
   refine Oc (aJ (ga e9) tu rfl rfl) (Oc oa ?_)
   refine ae.af ⟨[(0,.b (.one (.sl 1 (fixed0.map eB)))),(8,.b (.one (.sl 1 (x_8.map (eL 2 aX)))))],[]⟩ rfl (ab.seq (ab.aa ?_))
   refine Oc oa (Oc oa ?_)
   refine ae.af ⟨[(0,_),(8,_),(9,.b (.one (.nil))),(10,.b (.one (.nil)))],[]⟩ rfl ?_
   obtain ⟨v10,h11,h⟩:=aF h
   refine ab.bS (v:=v10) (cr fun (out_9:List Int) (queue_10:List Int)=>⟨[(8,.b (.one (.sl 1 (x_8.map (eL 2 aX))))),(9,.b (.row 104)),(10,.b (.row 106))],[(104,.row 3 1 (out_9.map eI)),(106,.row 3 1 (queue_10.map eI))]⟩) (fun z=>z) ?_ ?_
   ·refine ab.seq (ab.aa ?_)
    refine Oc om (Oc (aq dw rfl (List.length_map _)) (Oc om ?_))
    refine ae.af ⟨[(8,_),(9,_),(10,_),(38,.b (.one (.sl 1 (fixed0.map eB)))),(39,I (fixed0.length:Int)),(40,I 0)],[]⟩ rfl (ab.block (ab.de 9 104 1 3 rfl (by decide) rfl (ab.de 10 106 1 3 rfl (by decide) rfl (ab.bZ h11 (mE fun (out_11:List Int) (queue_12:List Int) (x_13:Int)=>⟨[(8,.b (.one (.sl 1 (x_8.map (eL 2 aX))))),(9,.b (.row 104)),(10,.b (.row 106)),(38,.b (.one (.sl 1 (fixed0.map eB)))),(39,I (fixed0.length:Int)),(40,I x_13)],[(104,.row 3 1 (out_11.map eI)),(106,.row 3 1 (queue_12.map eI))]⟩) [8,9,10,38,39,40] [104,106] rfl ?_))))
    rintro ⟨out_11,queue_12,x_13⟩ o12 h13 hy14
    refine ab.seq (ab.aa ?_)
    refine Oc (a8 rfl rfl) (ae.af ⟨[(8,_),(9,_),(10,_),(38,_),(39,_),(40,_),(41,B (decide (x_13 < (fixed0.length:Int))))],[(104,_),(106,_)]⟩ rfl (ab.seq (ab.ite h13 rfl (fun _ h13=>?_) (fun _ h13=>?_))))
    ·refine ab.skip (Fin.ag ⟨[(8,_),(9,_),(10,_),(38,_),(39,_),(40,_)],[(104,_),(106,_)]⟩ rfl (Fin.then ?_))
     obtain ⟨v15,h16,h13⟩:=aF h13
     refine ab.bS (v:=v15) (cr fun (out_16:List Int) (queue_17:List Int)=>⟨[(8,.b (.one (.sl 1 (x_8.map (eL 2 aX))))),(9,.b (.row 104)),(10,.b (.row 106)),(38,.b (.one (.sl 1 (fixed0.map eB)))),(39,I (fixed0.length:Int)),(40,I x_13)],[(104,.row 3 1 (out_16.map eI)),(106,.row 3 1 (queue_17.map eI))]⟩) (fun z=>z) ?_ ?_
     ·refine ab.block (ab.seq (ab.aa ?_))
      refine Oc om ?_
      obtain ⟨x_18,e17,h16⟩:=aF h16
      refine Oc (az fR (aE e17) (aC (e:=eB) e17) rfl rfl) (Oc (aw hZ rfl rfl) (Oc oa (Oc oa ?_)))
      refine ae.af ⟨[(8,_),(9,_),(10,_),(11,I x_13),(12,B x_18),(38,_),(39,_),(40,_)],[(104,_),(106,_)]⟩ rfl (ab.seq (ab.aa ?_))
      refine Oc om (Oc (ax (k:=107) (es:=[(-1)].map eI) ak rfl rfl (aW fun _=>rfl) rfl (by decide) (by decide) rfl) ?_)
      obtain ⟨x_19,e18,h16⟩:=aF h16
      refine Oc (bu ak (dy e18) (dx e18) rfl rfl rfl rfl (bT e18) rfl) (Oc oa ?_)
      refine ae.af ⟨[(8,_),(9,_),(10,_),(11,_),(12,_),(38,_),(39,_),(40,_)],[(104,.row 3 1 (x_19.map eI)),(106,_)]⟩ rfl (ab.seq (ab.aa ?_))
      refine Oc om (ae.af ⟨[(8,_),(9,_),(10,_),(11,_),(38,_),(39,_),(40,_),(48,B x_18)],[(104,_),(106,_)]⟩ rfl (ab.ite h16 rfl (fun _ h16=>?_) (fun _ h16=>?_)))
      ·refine ab.seq (ab.aa ?_)
       refine Oc om (Oc om ?_)
       obtain ⟨x_20,e19,h16⟩:=aF h16
       refine Oc (au ak (aE e19) (aY e19) rfl rfl rfl rfl) (Oc (bV (i:=(x_13:Int).toNat) aA rfl rfl rfl rfl (fE e19) (map_set _ _ _ _)) ?_)
       refine ae.af ⟨[(8,_),(9,_),(10,_),(11,_),(38,_),(39,_),(40,_)],[(104,.row 3 1 ((x_19.set (x_13:Int).toNat 0).map eI)),(106,_)]⟩ rfl (ab.aa (Oc om (Oc om (Oc (ax (k:=108) (es:=[x_13].map eI) ak rfl rfl (aW fun _=>rfl) rfl (by decide) (by decide) rfl) ?_))))
       obtain ⟨x_21,e20,h16⟩:=aF h16
       refine Oc (bu ak (dy e20) (dx e20) rfl rfl rfl rfl (bT e20) rfl) (Oc oa ?_)
       refine ae.nil (Fin.ah ?_)
       exact Fin.join [8,9,10,38,39,40] [104,106] (x_19.set (x_13:Int).toNat 0,x_21) (Option.some.inj h16) rfl
      ·refine ab.skip (Fin.ah ?_)
       exact Fin.join [8,9,10,38,39,40] [104,106] (x_19,queue_12) (Option.some.inj h16) rfl
     ·rintro ⟨out_16,queue_17⟩ hv
      subst v15
      refine ab.aa (Oc (aV rfl rfl) (Oc om ?_))
      refine ae.nil ?_
      exact Fin.bx [8,9,10,38,39,40] [104,106] (out_16,queue_17,IntKind.i64.wrap (x_13 + 1)) (Option.some.inj h13) rfl
    ·refine ab.exit (Fin.ai ?_)
     obtain rfl:=hy14 _ (Option.some.inj h13).symm
     refine Fin.ai (Fin.ay ?_)
     exact Fin.join [8,9,10] [104,106] (out_11,queue_12) rfl rfl
   ·rintro ⟨out_9,queue_10⟩ hv
    subst v10
    obtain ⟨v21,h22,h⟩:=aF h
    refine ab.bS (v:=v21) (fun (out_22:List Int)=>⟨[(9,.b (.row 104))],[(104,.row 3 1 (out_22.map eI))]⟩) (fun z=>z) ?_ ?_
    ·refine ab.block (ab.ag ⟨[(8,_),(9,_),(10,_)],[(104,_),(106,_)]⟩ rfl (ab.lF 106 rfl (ab.bZ h22 (cr fun (out_23:List Int) (queue_24:List Int)=>⟨[(8,.b (.one (.sl 1 (x_8.map (eL 2 aX))))),(9,.b (.row 104)),(10,.b (.row 106))],[(104,.row 3 1 (out_23.map eI)),(106,.gz 3 1 (queue_24.map eI))]⟩) [8,9,10] [104,106] rfl ?_)))
     rintro ⟨out_23,queue_24⟩ o23 h24 hy25
     refine ab.seq (ab.seq (ab.aa ?_))
     refine Oc om (Oc (uf fO rfl rfl (List.length_map _)) (Oc (fg rfl rfl) ?_))
     refine ae.af ⟨[(8,_),(9,_),(10,_),(59,B (decide (0 < (queue_24.length:Int))))],[(104,_),(106,_)]⟩ rfl (ab.ite h24 rfl (fun _ h24=>?_) (fun _ h24=>?_))
     ·refine ab.skip (Fin.ag ⟨[(8,_),(9,_),(10,_)],[(104,_),(106,_)]⟩ rfl (Fin.then (ab.block (ab.seq (ab.aa ?_)))))
      refine Oc om ?_
      obtain ⟨x_26,e26,h24⟩:=aF h24
      refine ae.idxO ak aA e26 rfl rfl rfl rfl (by decide) (Oc oa (ae.af ⟨[(8,_),(9,_),(10,_),(13,I x_26)],[(104,_),(106,_)]⟩ rfl (ab.seq (ab.aa ?_))))
      refine Oc om ?_
      obtain ⟨x_27,e27,h24⟩:=aF h24
      refine Oc (q9 ak e27 rfl rfl rfl rfl) (Oc oa ?_)
      refine ae.af ⟨[(8,_),(9,_),(10,_),(13,_)],[(104,_),(106,.gz 3 1 (x_27.map eI))]⟩ rfl (ab.seq (ab.aa ?_))
      refine Oc om (Oc om ?_)
      obtain ⟨x_28,e28,h24⟩:=aF h24
      refine Oc (az lE (aE e28) (aC (e:=(eL 2 aX)) e28) rfl rfl) (Oc (aw kR rfl rfl) (Oc (aq und58 rfl (List.length_map _)) (Oc om ?_)))
      refine ae.af ⟨[(8,_),(9,_),(10,_),(13,_),(68,.b (.one (.sl 2 (x_28.map aX)))),(69,I (x_28.length:Int)),(70,I 0)],[(104,_),(106,_)]⟩ rfl (ab.block ?_)
      obtain ⟨v29,h30,h24⟩:=aF h24
      refine ab.bZ h30 (mE fun (out_29:List Int) (queue_30:List Int) (x_31:Int)=>⟨[(8,.b (.one (.sl 1 (x_8.map (eL 2 aX))))),(9,.b (.row 104)),(10,.b (.row 106)),(13,I x_26),(68,.b (.one (.sl 2 (x_28.map aX)))),(69,I (x_28.length:Int)),(70,I x_31)],[(104,.row 3 1 (out_29.map eI)),(106,.gz 3 1 (queue_30.map eI))]⟩) [8,9,10,13,68,69,70] [104,106] rfl ?_
      rintro ⟨out_29,queue_30,x_31⟩ o31 h32 hy33
      refine ab.seq (ab.aa ?_)
      refine Oc (a8 rfl rfl) (ae.af ⟨[(8,_),(9,_),(10,_),(13,_),(68,_),(69,_),(70,_),(71,B (decide (x_31 < (x_28.length:Int))))],[(104,_),(106,_)]⟩ rfl (ab.seq (ab.ite h32 rfl (fun _ h32=>?_) (fun _ h32=>?_))))
      ·refine ab.skip (Fin.ag ⟨[(8,_),(9,_),(10,_),(13,_),(68,_),(69,_),(70,_)],[(104,_),(106,_)]⟩ rfl (Fin.then ?_))
       obtain ⟨v34,h35,h32⟩:=aF h32
       refine ab.bS (v:=v34) (cr fun (out_34:List Int) (queue_35:List Int)=>⟨[(8,.b (.one (.sl 1 (x_8.map (eL 2 aX))))),(9,.b (.row 104)),(10,.b (.row 106)),(13,I x_26),(68,.b (.one (.sl 2 (x_28.map aX)))),(69,I (x_28.length:Int)),(70,I x_31)],[(104,.row 3 1 (out_34.map eI)),(106,.gz 3 1 (queue_35.map eI))]⟩) (fun z=>z) ?_ ?_
       ·refine ab.block (ab.seq (ab.aa ?_))
        obtain ⟨x_36,e36,h35⟩:=aF h35
        refine Oc (az mH (aE e36) (aC (e:=aX) e36) rfl rfl) (Oc (k5 nF rfl rfl rfl) (Oc (bf (k:=109) p6 rfl) (Oc (df nF rfl rfl rfl rfl (Nat.le_of_ble_eq_true rfl) rfl) ?_)))
        refine ae.af ⟨[(8,_),(9,_),(10,_),(13,_),(15,Pt 109 0),(68,_),(69,_),(70,_)],[(104,_),(106,_),(109,.box 60 (aX x_36))]⟩ rfl (ab.seq (ab.aa ?_))
        refine Oc om (Oc (bA eZ rfl rfl) (Oc (ba aA rfl rfl rfl) ?_))
        obtain ⟨x_37,e37,h35⟩:=aF h35
        refine Oc (au ak (aE e37) (aY e37) rfl rfl rfl rfl) (Oc (aK (i:=(x_36.to:Int).toNat) (f:=0) aA rfl rfl rfl (aC (e:=eI) e37) rfl) (Oc (a8 rfl rfl) ?_))
        refine ae.af ⟨[(8,_),(9,_),(10,_),(13,_),(15,_),(68,_),(69,_),(70,_),(79,B (decide (x_37 < 0)))],[(104,_),(106,_),(109,_)]⟩ rfl (ab.ite h35 rfl (fun _ h35=>?_) (fun _ h35=>?_))
        ·refine ab.seq (ab.ag ⟨[(8,_),(9,_),(10,_),(13,_),(15,_),(68,_),(69,_),(70,_)],[(104,_),(106,_),(109,_)]⟩ rfl ?_)
         obtain ⟨x_38,e38,h35⟩:=aF h35
         obtain ⟨x_39,e39,h35⟩:=aF h35
         refine ab.en mixed 9 [.b (.row 104),Pt 109 0,I x_36.to,.b (.row 104),I x_26,.b (.bG 104 ((x_26:Int).toNat * 1)),I x_38,I (IntKind.i64.wrap (x_38 + 1)),.b (.bG 104 ((x_36.to:Int).toNat * 1))] [8,9,10,13,15,68,69,70] [104,106,109] (s':=⟨[(8,_),(9,_),(10,_),(13,_),(15,_),(68,_),(69,_),(70,_)],[(104,.row 3 1 ((out_29.set (x_36.to:Int).toNat (IntKind.i64.wrap (x_38 + 1))).map eI)),(106,_),(109,_)]⟩) rfl ⟨fun _=>.p om,fun _=>.p (bA eZ rfl rfl),fun _=>.p (ba aA rfl rfl rfl),fun _=>.p om,fun _=>.p om,fun _=>.p (au ak (aE e38) (aY e38) rfl rfl rfl rfl),fun _=>.p (aK (i:=(x_26:Int).toNat) (f:=0) aA rfl rfl rfl (aC (e:=eI) e38) rfl),fun _=>.p (aV rfl rfl),fun _=>.p (au ak (aE e39) (aY e39) rfl rfl rfl rfl),trivial⟩ ⟨_,by exact .p (bV (i:=(x_36.to:Int).toNat) aA rfl rfl rfl rfl (fE e39) (map_set _ _ _ _)),rfl⟩ rfl (ab.aa (Oc om (Oc (bA eZ rfl rfl) (Oc (ba aA rfl rfl rfl) (Oc (ax (k:=110) (es:=[x_36.to].map eI) ak rfl rfl (aW fun _=>rfl) rfl (by decide) (by decide) rfl) ?_)))))
         obtain ⟨x_40,e40,h35⟩:=aF h35
         refine Oc (oC ak (dy e40) (dx e40) rfl rfl rfl rfl (bT e40) rfl) (Oc oa ?_)
         refine ae.nil (Fin.ah ?_)
         exact Fin.join [8,9,10,13,68,69,70] [104,106] (out_29.set (x_36.to:Int).toNat (IntKind.i64.wrap (x_38 + 1)),x_40) (Option.some.inj h35) rfl
        ·refine ab.skip (Fin.ah ?_)
         exact Fin.join [8,9,10,13,68,69,70] [104,106] (out_29,queue_30) (Option.some.inj h35) rfl
       ·rintro ⟨out_34,queue_35⟩ hv
        subst v34
        refine ab.aa (Oc (aV rfl rfl) (Oc om ?_))
        refine ae.nil ?_
        exact Fin.bx [8,9,10,13,68,69,70] [104,106] (out_34,queue_35,IntKind.i64.wrap (x_31 + 1)) (Option.some.inj h32) rfl
      ·refine ab.exit (Fin.ai ?_)
       obtain rfl:=hy33 _ (Option.some.inj h32).symm
       refine Fin.ai (Fin.ay (Fin.ah ?_))
       exact Fin.bx [8,9,10] [104,106] (out_29,queue_30) (Option.some.inj h24) rfl
     ·refine ab.exit (Fin.ai ?_)
      obtain rfl:=hy25 _ (Option.some.inj h24).symm
      refine Fin.ai (Fin.ay ?_)
      exact Fin.join [9] [104] out_23 rfl rfl
    ·rintro out_22 hv
     subst v21
     refine ab.seq (ab.aa ?_)
     refine Oc om (Oc oa (Oc oa ?_))
     refine ae.af ⟨[(4,.b (.row 104)),(5,I 0)],[(104,_)]⟩ rfl (ab.ret ?_)
     obtain rfl:=Option.some.inj h
     refine Fin.ag ⟨[(4,_),(5,_)],[(104,_)]⟩ rfl (Fin.iI 104 kr0 [.row 104,.one (.i 0)] (.inl rfl) rfl (.cons (.tmp rfl) (.cons (.tmp rfl) .nil)) rfl rfl rfl rfl ⟨rfl,rfl⟩)
def iP (F:Nat) (x0:Int):Option Bool :=
 some (decide (x0 ≠ x0))
theorem kP {F:Nat} {x0:Int} {r:Bool} (h:iP F x0 = some r):ar Try.prog [] 52 [] [.one (.int .u64 x0)] (Is [] (.b (.one (.bool r)))):=by
 unfold iP at h
 refine ar.intro 6 Try.func52 Try.ntmps52 rfl (by simp) fun E=>?_
 show ab _ E ⟨6,[],[],[]⟩ _ ⟨[(0,.b (.one (.int .u64 x0)))],[]⟩ _
 refine ab.seq (ab.aa ?_)
 refine Oc oa (ae.af ⟨[(0,.b (.one (.int .u64 x0)))],[]⟩ rfl (ab.seq (ab.aa ?_)))
 refine Oc om (Oc om (Oc (mJ rfl rfl) (Oc oa ?_)))
 refine ae.af ⟨[(2,B (decide (x0 ≠ x0)))],[]⟩ rfl (ab.ret ?_)
 obtain rfl:=Option.some.inj h
 refine Fin.ag ⟨[(2,_)],[]⟩ rfl (Fin.aP [.one (.bool (decide (x0 ≠ x0)))] (.inl rfl) rfl (.cons (.tmp rfl) .nil) ⟨rfl,rfl⟩)
def iW (F:Nat) (x0:Int) (y0:Int):Option Int :=
 (iP F x0).bind fun x_1=>(iP F y0).bind fun x_2=>if x_1 = true then (if x_2 = true then (some 0) else (some (-1))) else (if x_2 = true then (some 1) else (if (decide (x0 < y0)) = true then (some (-1)) else (if (decide (y0 < x0)) = true then (some 1) else (some 0))))
theorem nm {F:Nat} {x0:Int} {y0:Int} {r:Int} (h:iW F x0 y0 = some r):ar Try.prog [] 35 [] [.one (.int .u64 x0),.one (.int .u64 y0)] (Is [] (.b (.one (.i r)))):=by
 unfold iW at h
 refine ar.intro 20 Try.func35 Try.ntmps35 rfl (by simp) fun E=>?_
 show ab _ E ⟨20,[],[],[]⟩ _ ⟨[(0,.b (.one (.int .u64 x0))),(1,.b (.one (.int .u64 y0)))],[]⟩ _
 refine ab.seq (ab.aa ?_)
 refine Oc oa (ae.af ⟨[(0,.b (.one (.int .u64 x0))),(1,.b (.one (.int .u64 y0)))],[]⟩ rfl (ab.seq (ab.aa ?_)))
 refine Oc om ?_
 obtain ⟨x_1,e1,h⟩:=aF h
 refine Oc (aJ (kP e1) tk rfl rfl) (Oc oa ?_)
 refine ae.af ⟨[(0,_),(1,_),(5,B x_1)],[]⟩ rfl (ab.seq (ab.aa ?_))
 refine Oc om ?_
 obtain ⟨x_2,e2,h⟩:=aF h
 refine Oc (aJ (kP e2) tk rfl rfl) (Oc oa ?_)
 refine ae.af ⟨[(0,_),(1,_),(5,_),(6,B x_2)],[]⟩ rfl (ab.seq (ab.seq (ab.aa ?_)))
 refine Oc om (ae.af ⟨[(0,_),(1,_),(6,_),(11,B x_1)],[]⟩ rfl (ab.ite h rfl (fun _ h=>?_) (fun _ h=>?_)))
 ·refine ab.seq (ab.seq (ab.aa ?_))
  refine Oc om (ae.af ⟨[(12,B x_2)],[]⟩ rfl (ab.ite h rfl (fun _ h=>?_) (fun _ h=>?_)))
  ·refine ab.seq (ab.aa ?_)
   refine Oc oa (ae.af ⟨[(4,I 0)],[]⟩ rfl (ab.ret (Fin.aR (Fin.aR ?_))))
   obtain rfl:=Option.some.inj h
   refine Fin.ag ⟨[(4,_)],[]⟩ rfl (Fin.aP [.one (.i 0)] (.inl rfl) rfl (.cons (.tmp rfl) .nil) ⟨rfl,rfl⟩)
  ·refine ab.skip (Fin.ag ⟨[],[]⟩ rfl (Fin.then (ab.seq (ab.aa ?_))))
   refine Oc oa (ae.af ⟨[(4,I (-1))],[]⟩ rfl (ab.ret (Fin.aR ?_)))
   obtain rfl:=Option.some.inj h
   refine Fin.ag ⟨[(4,_)],[]⟩ rfl (Fin.aP [.one (.i (-1))] (.inl rfl) rfl (.cons (.tmp rfl) .nil) ⟨rfl,rfl⟩)
 ·refine ab.skip (Fin.ag ⟨[(0,_),(1,_),(6,_)],[]⟩ rfl (Fin.then (ab.seq (ab.seq (ab.aa ?_)))))
  refine Oc om (ae.af ⟨[(0,_),(1,_),(13,B x_2)],[]⟩ rfl (ab.ite h rfl (fun _ h=>?_) (fun _ h=>?_)))
  ·refine ab.seq (ab.aa ?_)
   refine Oc oa (ae.af ⟨[(4,I 1)],[]⟩ rfl (ab.ret (Fin.aR ?_)))
   obtain rfl:=Option.some.inj h
   refine Fin.ag ⟨[(4,_)],[]⟩ rfl (Fin.aP [.one (.i 1)] (.inl rfl) rfl (.cons (.tmp rfl) .nil) ⟨rfl,rfl⟩)
  ·refine ab.skip (Fin.ag ⟨[(0,_),(1,_)],[]⟩ rfl (Fin.then (ab.seq (ab.seq (ab.aa ?_)))))
   refine Oc om (Oc om (Oc (a8 rfl rfl) ?_))
   refine ae.af ⟨[(0,_),(1,_),(16,B (decide (x0 < y0)))],[]⟩ rfl (ab.ite h rfl (fun _ h=>?_) (fun _ h=>?_))
   ·refine ab.seq (ab.aa ?_)
    refine Oc oa (ae.af ⟨[(4,I (-1))],[]⟩ rfl (ab.ret (Fin.aR ?_)))
    obtain rfl:=Option.some.inj h
    refine Fin.ag ⟨[(4,_)],[]⟩ rfl (Fin.aP [.one (.i (-1))] (.inl rfl) rfl (.cons (.tmp rfl) .nil) ⟨rfl,rfl⟩)
   ·refine ab.skip (Fin.ag ⟨[(0,_),(1,_)],[]⟩ rfl (Fin.then (ab.seq (ab.seq (ab.aa ?_)))))
    refine Oc om (Oc om (Oc (fg rfl rfl) ?_))
    refine ae.af ⟨[(19,B (decide (y0 < x0)))],[]⟩ rfl (ab.ite h rfl (fun _ h=>?_) (fun _ h=>?_))
    ·refine ab.seq (ab.aa ?_)
     refine Oc oa (ae.af ⟨[(4,I 1)],[]⟩ rfl (ab.ret (Fin.aR ?_)))
     obtain rfl:=Option.some.inj h
     refine Fin.ag ⟨[(4,_)],[]⟩ rfl (Fin.aP [.one (.i 1)] (.inl rfl) rfl (.cons (.tmp rfl) .nil) ⟨rfl,rfl⟩)
    ·refine ab.skip (Fin.ag ⟨[],[]⟩ rfl (Fin.then (ab.seq (ab.aa ?_))))
     refine Oc oa (ae.af ⟨[(4,I 0)],[]⟩ rfl (ab.ret ?_))
     obtain rfl:=Option.some.inj h
     refine Fin.ag ⟨[(4,_)],[]⟩ rfl (Fin.aP [.one (.i 0)] (.inl rfl) rfl (.cons (.tmp rfl) .nil) ⟨rfl,rfl⟩)
def dv (F:Nat) (a0:Int) (b0:Int) (v0c:List Int):Option Int :=
 (aM v0c a0).bind fun x_1=>(aM v0c b0).bind fun x_2=>(iW F (IntKind.u64.wrap x_1) (IntKind.u64.wrap x_2)).bind fun x_3=>some x_3
theorem dU {F:Nat} {a0:Int} {b0:Int} {v0c:List Int} {r:Int} (h:dv F a0 b0 v0c = some r):ar Try.prog [] 34 [] [.one (.i a0),.one (.i b0),.cI [.sl 1 (v0c.map eI)]] (Is [] (.b (.one (.i r)))):=by
 unfold dv at h
 refine ar.intro 17 Try.func34 Try.ntmps34 rfl (by simp) fun E=>?_
 show ab _ E ⟨17,[],[],[]⟩ _ ⟨[(0,I a0),(1,I b0),(2,.b (.cI [.sl 1 (v0c.map eI)]))],[]⟩ _
 refine ab.seq (ab.aa ?_)
 refine Oc oa (ae.af ⟨[(0,I a0),(1,I b0),(2,.b (.cI [.sl 1 (v0c.map eI)]))],[]⟩ rfl (ab.seq ?_))
 obtain ⟨x_1,e1,h⟩:=aF h
 obtain ⟨x_2,e2,h⟩:=aF h
 obtain ⟨x_3,e3,h⟩:=aF h
 refine ab.en mixed 12 [.b (.one (.sl 1 (v0c.map eI))),I a0,.b (.cI [.i x_1]),I x_1,.b (.one (.int .u64 (IntKind.u64.wrap x_1))),.b (.one (.sl 1 (v0c.map eI))),I b0,.b (.cI [.i x_2]),I x_2,.b (.one (.int .u64 (IntKind.u64.wrap x_2))),I x_3,I x_3] [5] [] (s':=⟨[(5,I x_3)],[]⟩) rfl ⟨fun _=>.p (aw aS rfl rfl),fun _=>.p om,fun _=>.p (az ak (aE e1) (aC (e:=eI) e1) rfl rfl),fun _=>.p (aw aA rfl rfl),fun _=>.p (ck jU hY rfl),fun _=>.p (aw aS rfl rfl),fun _=>.p om,fun _=>.p (az ak (aE e2) (aC (e:=eI) e2) rfl rfl),fun _=>.p (aw aA rfl rfl),fun _=>.p (ck jU hY rfl),fun _=>.p (aJ (nm e3) goes35 rfl rfl),fun _=>.p oa,trivial⟩ rfl rfl (ab.ret ?_)
 obtain rfl:=Option.some.inj h
 refine Fin.ag ⟨[(5,_)],[]⟩ rfl (Fin.aP [.one (.i x_3)] (.inl rfl) rfl (.cons (.tmp rfl) .nil) ⟨rfl,rfl⟩)
def cy (F:Nat) (a0:Int) (b0:Int) (cmp0:List Int) (data0:List Int):Option (List Int) :=
 Option.bind (iter F (cr fun data_1 i_2=>if (decide (i_2 < b0)) = true then (Option.bind (Option.bind (iter F (cr fun data_5 j_6=>(c3 (decide (a0 < j_6)) (aM data_5 j_6)).bind fun x_8=>(c3 (decide (a0 < j_6)) (aM data_5 (IntKind.i64.wrap (j_6 - 1)))).bind fun x_9=>(c3 (decide (a0 < j_6)) (dv F x_8 x_9 cmp0)).bind fun x_10=>if ((decide (a0 < j_6)) && (decide (x_10 < 0))) = true then ((aM data_5 (IntKind.i64.wrap (j_6 - 1))).bind fun x_11=>(aM data_5 j_6).bind fun x_12=>(aM data_5 j_6).bind fun x_13=>(aM (data_5.set (j_6:Int).toNat x_11) (IntKind.i64.wrap (j_6 - 1))).bind fun x_14=>some (.inl ((data_5.set (j_6:Int).toNat x_11).set (IntKind.i64.wrap (j_6 - 1):Int).toNat x_12,IntKind.i64.wrap (j_6 - 1)))) else (some (.inr data_5))) (data_1,i_2)) (fun data_7=>some data_7)) (fun data_4=>some (.inl (data_4,IntKind.i64.wrap (i_2 + 1))))) else (some (.inr data_1))) (data0,IntKind.i64.wrap (a0 + 1))) (fun y_3=>some y_3)
theorem dM {F:Nat} {a0:Int} {b0:Int} {cmp0:List Int} {data0:List Int} {r:(List Int)} (h:cy F a0 b0 cmp0 data0 = some r):ar Try.prog [] 57 [(1,.cR 3 1 (data0.map eI))] [.row 1,.one (.i a0),.one (.i b0),.one (.ct 34 [CP.rp [.sl 1 (cmp0.map eI)]])] (Is [(1,.cR 3 1 (r.map eI))] (.fi [])):=by
 unfold cy at h
 refine ar.intro 53 Try.func57 Try.ntmps57 rfl (by simp) fun E=>?_
 show ab _ E ⟨53,[1],[1],[]⟩ _ ⟨[(0,.b (.row 1)),(1,I a0),(2,I b0),(3,.b (.one (.ct 34 [CP.rp [.sl 1 (cmp0.map eI)]])))],[(1,.cR 3 1 (data0.map eI))]⟩ _
 refine ab.lO 1 rfl (ab.seq (ab.aa ?_))
 refine Oc om (Oc (aV rfl rfl) (Oc oa ?_))
 refine ae.af ⟨[(0,.b (.row 1)),(1,I a0),(2,I b0),(3,.b (.one (.ct 34 [CP.rp [.sl 1 (cmp0.map eI)]]))),(8,I (IntKind.i64.wrap (a0 + 1)))],[(1,.row 3 1 (data0.map eI))]⟩ rfl (ab.block ?_)
 obtain ⟨v1,h2,h⟩:=aF h
 refine ab.bZ h2 (cr fun (data_1:List Int) (i_2:Int)=>⟨[(0,.b (.row 1)),(1,I a0),(2,I b0),(3,.b (.one (.ct 34 [CP.rp [.sl 1 (cmp0.map eI)]]))),(8,I i_2)],[(1,.row 3 1 (data_1.map eI))]⟩) [0,1,2,3,8] [1] rfl ?_
 rintro ⟨data_1,i_2⟩ o3 h4 hy5
 refine ab.seq (ab.seq (ab.aa ?_))
 refine Oc om (Oc om (Oc (a8 rfl rfl) ?_))
 refine ae.af ⟨[(0,_),(1,_),(2,_),(3,_),(8,_),(14,B (decide (i_2 < b0)))],[(1,_)]⟩ rfl (ab.ite h4 rfl (fun _ h4=>?_) (fun _ h4=>?_))
 ·refine ab.skip (Fin.ag ⟨[(0,_),(1,_),(2,_),(3,_),(8,_)],[(1,_)]⟩ rfl (Fin.then ?_))
  obtain ⟨v6,h7,h4⟩:=aF h4
  refine ab.bS (v:=v6) (fun (data_4:List Int)=>⟨[(0,.b (.row 1)),(1,I a0),(2,I b0),(3,.b (.one (.ct 34 [CP.rp [.sl 1 (cmp0.map eI)]]))),(8,I i_2)],[(1,.row 3 1 (data_4.map eI))]⟩) (fun z=>z) ?_ ?_
  ·refine ab.block (ab.seq (ab.aa ?_))
   refine Oc om (Oc oa ?_)
   refine ae.af ⟨[(0,_),(1,_),(2,_),(3,_),(8,_),(9,I i_2)],[(1,_)]⟩ rfl (ab.block ?_)
   obtain ⟨v8,h9,h7⟩:=aF h7
   refine ab.bZ h9 (cr fun (data_5:List Int) (j_6:Int)=>⟨[(0,.b (.row 1)),(1,I a0),(2,I b0),(3,.b (.one (.ct 34 [CP.rp [.sl 1 (cmp0.map eI)]]))),(8,I i_2),(9,I j_6)],[(1,.row 3 1 (data_5.map eI))]⟩) [0,1,2,3,8,9] [1] rfl ?_
   rintro ⟨data_5,j_6⟩ o10 h11 hy12
   refine ab.seq (ab.seq ?_)
   refine ab.ag ⟨[(0,_),(1,_),(2,_),(3,_),(8,_),(9,_)],[(1,_)]⟩ rfl ?_
   obtain ⟨x_8,e17,h11⟩:=aF h11
   obtain ⟨x_9,e23,h11⟩:=aF h11
   obtain ⟨x_10,e26,h11⟩:=aF h11
   refine ab.en mixed 17 [I j_6,I a0,B (decide (a0 < j_6)),B (decide (a0 < j_6)),.opt (decide (a0 < j_6)) (.one (.ct 34 [CP.rp [.sl 1 (cmp0.map eI)]])),.opt (decide (a0 < j_6)) (.row 1),.opt (decide (a0 < j_6)) (.one (.i j_6)),.opt (decide (a0 < j_6)) (.bG 1 ((j_6:Int).toNat * 1)),.opt (decide (a0 < j_6)) (.one (.i x_8)),.opt (decide (a0 < j_6)) (.row 1),.opt (decide (a0 < j_6)) (.one (.i j_6)),.opt (decide (a0 < j_6)) (.one (.i (IntKind.i64.wrap (j_6 - 1)))),.opt (decide (a0 < j_6)) (.bG 1 ((IntKind.i64.wrap (j_6 - 1):Int).toNat * 1)),.opt (decide (a0 < j_6)) (.one (.i x_9)),.opt (decide (a0 < j_6)) (.one (.i x_10)),.opt (decide (a0 < j_6)) (.one (.bool (decide (x_10 < 0)))),B ((decide (a0 < j_6)) && (decide (x_10 < 0)))] [0,1,2,3,8,9,34] [1] (s':=⟨[(0,_),(1,_),(2,_),(3,_),(8,_),(9,_),(34,B ((decide (a0 < j_6)) && (decide (x_10 < 0))))],[(1,_)]⟩) rfl ⟨fun _=>.p om,fun _=>.p om,fun _=>.p (fg rfl rfl),fun _=>.p om,fun _=>by exact .guard (decide (a0 < j_6)) 1 [] (.plain rfl) (hO _) rfl rfl (fun g13=>trivial) (fun g13=>om),fun _=>by exact .guard (decide (a0 < j_6)) 1 [] (.plain rfl) (hO _) rfl rfl (fun g14=>trivial) (fun g14=>om),fun _=>by exact .guard (decide (a0 < j_6)) 1 [] (.plain rfl) (hO _) rfl rfl (fun g15=>trivial) (fun g15=>om),fun _=>by exact .guard (decide (a0 < j_6)) 3 [23,24] (.plain rfl) (hO _) rfl rfl (fun g16=>⟨g16,g16,trivial⟩) (fun g16=>au ak (aE (gc e17 g16)) (aY (gc e17 g16)) rfl rfl rfl rfl),fun _=>by exact .guard (decide (a0 < j_6)) 2 [25] (.plain rfl) (hO _) rfl rfl (fun g18=>⟨g18,trivial⟩) (fun g18=>aK (i:=(j_6:Int).toNat) (f:=0) aA rfl rfl rfl (aC (e:=eI) (gc e17 g18)) rfl),fun _=>by exact .guard (decide (a0 < j_6)) 1 [] (.plain rfl) (hO _) rfl rfl (fun g19=>trivial) (fun g19=>om),fun _=>by exact .guard (decide (a0 < j_6)) 1 [] (.plain rfl) (hO _) rfl rfl (fun g20=>trivial) (fun g20=>om),fun _=>by exact .guard (decide (a0 < j_6)) 2 [28] (.plain rfl) (hO _) rfl rfl (fun g21=>⟨g21,trivial⟩) (fun g21=>dd rfl rfl),fun _=>by exact .guard (decide (a0 < j_6)) 3 [27,29] (.plain rfl) (hO _) rfl rfl (fun g22=>⟨g22,g22,trivial⟩) (fun g22=>au ak (aE (gc e23 g22)) (aY (gc e23 g22)) rfl rfl rfl rfl),fun _=>by exact .guard (decide (a0 < j_6)) 2 [30] (.plain rfl) (hO _) rfl rfl (fun g24=>⟨g24,trivial⟩) (fun g24=>aK (i:=(IntKind.i64.wrap (j_6 - 1):Int).toNat) (f:=0) aA rfl rfl rfl (aC (e:=eI) (gc e23 g24)) rfl),fun _=>by exact .guard (decide (a0 < j_6)) 5 [22,26,31] (.plain rfl) (hO _) rfl rfl (fun g25=>⟨g25,g25,g25,trivial⟩) (fun g25=>ik (pss:=[[.sl 1 (cmp0.map eI)]]) (dU (gc e26 g25)) pt rfl rfl rfl trivial rfl rfl),fun _=>by exact .guard (decide (a0 < j_6)) 2 [32] (.plain rfl) (hO _) rfl rfl (fun g27=>⟨g27,trivial⟩) (fun g27=>a8 rfl rfl),fun _=>.p (aO (fun e=>e) rfl rfl rfl rfl),trivial⟩ rfl rfl ?_
   refine ab.ite h11 rfl (fun _ h11=>?_) (fun _ h11=>?_)
   ·refine ab.skip (Fin.ag ⟨[(0,_),(1,_),(2,_),(3,_),(8,_),(9,_)],[(1,_)]⟩ rfl (Fin.then (ab.seq (ab.block ?_))))
    refine ab.ag ⟨[(0,_),(1,_),(2,_),(3,_),(8,_),(9,_)],[(1,_)]⟩ rfl ?_
    obtain ⟨x_11,e28,h11⟩:=aF h11
    obtain ⟨x_12,e29,h11⟩:=aF h11
    obtain ⟨x_13,e30,h11⟩:=aF h11
    obtain ⟨x_14,e31,h11⟩:=aF h11
    refine ab.gA mixed [false,false,false,false,false,false,false,false,false,false,false,false,false,false,false,true,false,true] [.b (.row 1),I j_6,.b (.row 1),I j_6,I (IntKind.i64.wrap (j_6 - 1)),.b (.row 1),I j_6,I (IntKind.i64.wrap (j_6 - 1)),.b (.bG 1 ((IntKind.i64.wrap (j_6 - 1):Int).toNat * 1)),I x_11,.b (.row 1),I j_6,.b (.bG 1 ((j_6:Int).toNat * 1)),I x_12,.b (.bG 1 ((j_6:Int).toNat * 1)),B true,.b (.bG 1 ((IntKind.i64.wrap (j_6 - 1):Int).toNat * 1)),B true] [⟨[false,false,false,false,false,false,false,false,false,false,false,false,false,false,false,false,false,false],[(0,.b (.row 1)),(1,I a0),(2,I b0),(3,.b (.one (.ct 34 [CP.rp [.sl 1 (cmp0.map eI)]]))),(8,I i_2),(9,I j_6)],[(1,.row 3 1 (data_5.map eI))],[true,true,true,true,true,true,true,true,true,true,true,true,true,true,true,true,true,true],[],[16,17]⟩,⟨[false,false,false,false,false,false,false,false,false,false,false,false,false,false,false,true,false,false],[(0,.b (.row 1)),(1,I a0),(2,I b0),(3,.b (.one (.ct 34 [CP.rp [.sl 1 (cmp0.map eI)]]))),(8,I i_2),(9,I j_6)],[(1,.row 3 1 ((data_5.set (j_6:Int).toNat x_11).map eI))],[true,true,true,true,true,true,true,true,true,true,true,true,true,true,true,true,true,true],[0,1,5,6,7,8,9,10,11,12,13,14,15],[]⟩,⟨[false,false,false,false,false,false,false,false,false,false,false,false,false,false,false,true,false,true],[(0,.b (.row 1)),(1,I a0),(2,I b0),(3,.b (.one (.ct 34 [CP.rp [.sl 1 (cmp0.map eI)]]))),(8,I i_2),(9,I j_6)],[(1,.row 3 1 (((data_5.set (j_6:Int).toNat x_11).set (IntKind.i64.wrap (j_6 - 1):Int).toNat x_12).map eI))],[true,true,true,true,true,true,true,true,true,true,true,true,true,true,true,true,true,true],[0,1,2,3,4,5,6,7,8,9,10,11,12,13,14,15,16,17],[]⟩] rfl (⟨by kernel_rfl,⟨⟨.b (.row 1),fun _=>rfl,fun _=>.p (by exact an rfl)⟩,⟨I j_6,fun _=>rfl,fun _=>.p (by exact an rfl)⟩,⟨.b (.row 1),fun _=>rfl,fun _=>.p (by exact an rfl)⟩,⟨I j_6,fun _=>rfl,fun _=>.p (by exact an rfl)⟩,⟨I (IntKind.i64.wrap (j_6 - 1)),fun _=>rfl,fun _=>.p (by exact dd rfl rfl)⟩,⟨.b (.row 1),fun _=>rfl,fun _=>.p (by exact an rfl)⟩,⟨I j_6,fun _=>rfl,fun _=>.p (by exact an rfl)⟩,⟨I (IntKind.i64.wrap (j_6 - 1)),fun _=>rfl,fun _=>.p (by exact dd rfl rfl)⟩,⟨.b (.bG 1 ((IntKind.i64.wrap (j_6 - 1):Int).toNat * 1)),fun _=>rfl,fun _=>.p (by exact au ak (aE e28) (aY e28) rfl rfl rfl rfl)⟩,⟨I x_11,fun _=>rfl,fun _=>.p (by exact aK (i:=(IntKind.i64.wrap (j_6 - 1):Int).toNat) (f:=0) aA rfl rfl rfl (aC (e:=eI) e28) rfl)⟩,⟨.b (.row 1),fun _=>rfl,fun _=>.p (by exact an rfl)⟩,⟨I j_6,fun _=>rfl,fun _=>.p (by exact an rfl)⟩,⟨.b (.bG 1 ((j_6:Int).toNat * 1)),fun _=>rfl,fun _=>.p (by exact au ak (aE e29) (aY e29) rfl rfl rfl rfl)⟩,⟨I x_12,fun _=>rfl,fun _=>.p (by exact aK (i:=(j_6:Int).toNat) (f:=0) aA rfl rfl rfl (aC (e:=eI) e29) rfl)⟩,⟨.b (.bG 1 ((j_6:Int).toNat * 1)),fun _=>rfl,fun _=>.p (by exact au ak (aE e30) (aY e30) rfl rfl rfl rfl)⟩,⟨_,[],.b (.one .any),rfl,(fun e=>by simp at e),rfl,rfl,fun _=>.gf [1] (by exact .p (by exact bV (i:=(j_6:Int).toNat) aA rfl rfl rfl rfl (fE e30) (map_set _ _ _ _))) (by exact rfl)⟩,trivial,trivial,trivial⟩,⟨by kernel_rfl,⟨trivial,trivial,⟨.b (.row 1),fun _=>rfl,fun _=>.p (by exact an rfl)⟩,⟨I j_6,fun _=>rfl,fun _=>.p (by exact an rfl)⟩,⟨I (IntKind.i64.wrap (j_6 - 1)),fun _=>rfl,fun _=>.p (by exact dd rfl rfl)⟩,trivial,trivial,trivial,trivial,trivial,trivial,trivial,trivial,trivial,trivial,trivial,⟨.b (.bG 1 ((IntKind.i64.wrap (j_6 - 1):Int).toNat * 1)),fun _=>rfl,fun _=>.p (by exact au ak (aE e31) (aY e31) rfl rfl rfl rfl)⟩,⟨_,[],.b (.one .any),rfl,(fun e=>by simp at e),rfl,rfl,fun _=>.gf [1] (by exact .p (by exact bV (i:=(IntKind.i64.wrap (j_6 - 1):Int).toNat) aA rfl rfl rfl rfl (fE e31) (map_set _ _ _ _))) (by exact rfl)⟩,trivial⟩,⟨by kernel_rfl,⟨trivial,trivial,trivial,trivial,trivial,trivial,trivial,trivial,trivial,trivial,trivial,trivial,trivial,trivial,trivial,trivial,trivial,trivial,trivial⟩,trivial⟩⟩⟩) rfl rfl rfl [0,1,2,3,8,9] [1] (s':=⟨[(0,_),(1,_),(2,_),(3,_),(8,_),(9,_)],[(1,.row 3 1 (((data_5.set (j_6:Int).toNat x_11).set (IntKind.i64.wrap (j_6 - 1):Int).toNat x_12).map eI))]⟩) rfl ?_
    refine Fin.ah (Fin.ag ⟨[(0,_),(1,_),(2,_),(3,_),(8,_),(9,_)],[(1,_)]⟩ rfl (Fin.then (ab.aa ?_)))
    refine Oc om (Oc (dd rfl rfl) (Oc oa ?_))
    refine ae.nil ?_
    exact Fin.bx [0,1,2,3,8,9] [1] ((data_5.set (j_6:Int).toNat x_11).set (IntKind.i64.wrap (j_6 - 1):Int).toNat x_12,IntKind.i64.wrap (j_6 - 1)) (Option.some.inj h11) rfl
   ·refine ab.exit (Fin.ai ?_)
    obtain rfl:=hy12 _ (Option.some.inj h11).symm
    refine Fin.ai (Fin.ay (Fin.ah ?_))
    exact Fin.join [0,1,2,3,8] [1] data_5 (Option.some.inj h7) rfl
  ·rintro data_4 hv
   subst v6
   refine ab.aa (Oc om (Oc (aV rfl rfl) (Oc oa ?_)))
   refine ae.nil ?_
   exact Fin.bx [0,1,2,3,8] [1] (data_4,IntKind.i64.wrap (i_2 + 1)) (Option.some.inj h4) rfl
 ·refine ab.exit (Fin.ai ?_)
  obtain rfl:=hy5 _ (Option.some.inj h4).symm
  refine Fin.ai (Fin.ay ?_)
  obtain rfl:=Option.some.inj h
  refine Fin.ag ⟨[],[(1,_)]⟩ rfl (Fin.k9 1 rfl (Fin.ag ⟨[],[(1,.cR 3 1 (data_1.map eI))]⟩ rfl ?_))
  exact Fin.result [] (.inr rfl) rfl (.nil) ⟨rfl,rfl⟩
def cu (F:Nat) (a0:Int) (b0:Int) (n0:Int) (cmp0:List Int) (data0:List Int):Option (List Int) :=
 Option.bind (iter F (cr fun data_1 i_2=>if (decide (i_2 < n0)) = true then ((aM data_1 (IntKind.i64.wrap (b0 + i_2))).bind fun x_4=>(aM data_1 (IntKind.i64.wrap (a0 + i_2))).bind fun x_5=>(aM data_1 (IntKind.i64.wrap (a0 + i_2))).bind fun x_6=>(aM (data_1.set (IntKind.i64.wrap (a0 + i_2):Int).toNat x_4) (IntKind.i64.wrap (b0 + i_2))).bind fun x_7=>some (.inl ((data_1.set (IntKind.i64.wrap (a0 + i_2):Int).toNat x_4).set (IntKind.i64.wrap (b0 + i_2):Int).toNat x_5,IntKind.i64.wrap (i_2 + 1)))) else (some (.inr data_1))) (data0,0)) (fun y_3=>some y_3)
theorem di {F:Nat} {a0:Int} {b0:Int} {n0:Int} {cmp0:List Int} {data0:List Int} {r:(List Int)} (h:cu F a0 b0 n0 cmp0 data0 = some r):ar Try.prog [] 77 [(1,.cR 3 1 (data0.map eI))] [.row 1,.one (.i a0),.one (.i b0),.one (.i n0),.one (.ct 34 [CP.rp [.sl 1 (cmp0.map eI)]])] (Is [(1,.cR 3 1 (r.map eI))] (.fi [])):=by
 unfold cu at h
 refine ar.intro 38 Try.func77 Try.ntmps77 rfl (by simp) fun E=>?_
 show ab _ E ⟨38,[1],[1],[]⟩ _ ⟨[(0,.b (.row 1)),(1,I a0),(2,I b0),(3,I n0),(4,.b (.one (.ct 34 [CP.rp [.sl 1 (cmp0.map eI)]])))],[(1,.cR 3 1 (data0.map eI))]⟩ _
 refine ab.lO 1 rfl (ab.seq (ab.aa ?_))
 refine Oc oa (ae.af ⟨[(0,.b (.row 1)),(1,I a0),(2,I b0),(3,I n0),(10,I 0)],[(1,.row 3 1 (data0.map eI))]⟩ rfl (ab.block ?_))
 obtain ⟨v1,h2,h⟩:=aF h
 refine ab.bZ h2 (cr fun (data_1:List Int) (i_2:Int)=>⟨[(0,.b (.row 1)),(1,I a0),(2,I b0),(3,I n0),(10,I i_2)],[(1,.row 3 1 (data_1.map eI))]⟩) [0,1,2,3,10] [1] rfl ?_
 rintro ⟨data_1,i_2⟩ o3 h4 hy5
 refine ab.seq (ab.seq (ab.aa ?_))
 refine Oc om (Oc om (Oc (a8 rfl rfl) ?_))
 refine ae.af ⟨[(0,_),(1,_),(2,_),(3,_),(10,_),(13,B (decide (i_2 < n0)))],[(1,_)]⟩ rfl (ab.ite h4 rfl (fun _ h4=>?_) (fun _ h4=>?_))
 ·refine ab.skip (Fin.ag ⟨[(0,_),(1,_),(2,_),(3,_),(10,_)],[(1,_)]⟩ rfl (Fin.then (ab.seq (ab.block ?_))))
  refine ab.ag ⟨[(0,_),(1,_),(2,_),(3,_),(10,_)],[(1,_)]⟩ rfl ?_
  obtain ⟨x_4,e6,h4⟩:=aF h4
  obtain ⟨x_5,e7,h4⟩:=aF h4
  obtain ⟨x_6,e8,h4⟩:=aF h4
  obtain ⟨x_7,e9,h4⟩:=aF h4
  refine ab.gA mixed [false,false,false,false,false,false,false,false,false,false,false,false,false,false,false,false,false,false,false,false,false,true,false,true] [.b (.row 1),I a0,I i_2,I (IntKind.i64.wrap (a0 + i_2)),.b (.row 1),I b0,I i_2,I (IntKind.i64.wrap (b0 + i_2)),.b (.row 1),I b0,I i_2,I (IntKind.i64.wrap (b0 + i_2)),.b (.bG 1 ((IntKind.i64.wrap (b0 + i_2):Int).toNat * 1)),I x_4,.b (.row 1),I a0,I i_2,I (IntKind.i64.wrap (a0 + i_2)),.b (.bG 1 ((IntKind.i64.wrap (a0 + i_2):Int).toNat * 1)),I x_5,.b (.bG 1 ((IntKind.i64.wrap (a0 + i_2):Int).toNat * 1)),B true,.b (.bG 1 ((IntKind.i64.wrap (b0 + i_2):Int).toNat * 1)),B true] [⟨[false,false,false,false,false,false,false,false,false,false,false,false,false,false,false,false,false,false,false,false,false,false,false,false],[(0,.b (.row 1)),(1,I a0),(2,I b0),(3,I n0),(10,I i_2)],[(1,.row 3 1 (data_1.map eI))],[true,true,true,true,true,true,true,true,true,true,true,true,true,true,true,true,true,true,true,true,true,true,true,true],[],[22,23]⟩,⟨[false,false,false,false,false,false,false,false,false,false,false,false,false,false,false,false,false,false,false,false,false,true,false,false],[(0,.b (.row 1)),(1,I a0),(2,I b0),(3,I n0),(10,I i_2)],[(1,.row 3 1 ((data_1.set (IntKind.i64.wrap (a0 + i_2):Int).toNat x_4).map eI))],[true,true,true,true,true,true,true,true,true,true,true,true,true,true,true,true,true,true,true,true,true,true,true,true],[0,1,2,3,8,9,10,11,12,13,14,15,16,17,18,19,20,21],[]⟩,⟨[false,false,false,false,false,false,false,false,false,false,false,false,false,false,false,false,false,false,false,false,false,true,false,true],[(0,.b (.row 1)),(1,I a0),(2,I b0),(3,I n0),(10,I i_2)],[(1,.row 3 1 (((data_1.set (IntKind.i64.wrap (a0 + i_2):Int).toNat x_4).set (IntKind.i64.wrap (b0 + i_2):Int).toNat x_5).map eI))],[true,true,true,true,true,true,true,true,true,true,true,true,true,true,true,true,true,true,true,true,true,true,true,true],[0,1,2,3,4,5,6,7,8,9,10,11,12,13,14,15,16,17,18,19,20,21,22,23],[]⟩] rfl (⟨by kernel_rfl,⟨⟨.b (.row 1),fun _=>rfl,fun _=>.p (by exact an rfl)⟩,⟨I a0,fun _=>rfl,fun _=>.p (by exact an rfl)⟩,⟨I i_2,fun _=>rfl,fun _=>.p (by exact an rfl)⟩,⟨I (IntKind.i64.wrap (a0 + i_2)),fun _=>rfl,fun _=>.p (by exact aV rfl rfl)⟩,⟨.b (.row 1),fun _=>rfl,fun _=>.p (by exact an rfl)⟩,⟨I b0,fun _=>rfl,fun _=>.p (by exact an rfl)⟩,⟨I i_2,fun _=>rfl,fun _=>.p (by exact an rfl)⟩,⟨I (IntKind.i64.wrap (b0 + i_2)),fun _=>rfl,fun _=>.p (by exact aV rfl rfl)⟩,⟨.b (.row 1),fun _=>rfl,fun _=>.p (by exact an rfl)⟩,⟨I b0,fun _=>rfl,fun _=>.p (by exact an rfl)⟩,⟨I i_2,fun _=>rfl,fun _=>.p (by exact an rfl)⟩,⟨I (IntKind.i64.wrap (b0 + i_2)),fun _=>rfl,fun _=>.p (by exact aV rfl rfl)⟩,⟨.b (.bG 1 ((IntKind.i64.wrap (b0 + i_2):Int).toNat * 1)),fun _=>rfl,fun _=>.p (by exact au ak (aE e6) (aY e6) rfl rfl rfl rfl)⟩,⟨I x_4,fun _=>rfl,fun _=>.p (by exact aK (i:=(IntKind.i64.wrap (b0 + i_2):Int).toNat) (f:=0) aA rfl rfl rfl (aC (e:=eI) e6) rfl)⟩,⟨.b (.row 1),fun _=>rfl,fun _=>.p (by exact an rfl)⟩,⟨I a0,fun _=>rfl,fun _=>.p (by exact an rfl)⟩,⟨I i_2,fun _=>rfl,fun _=>.p (by exact an rfl)⟩,⟨I (IntKind.i64.wrap (a0 + i_2)),fun _=>rfl,fun _=>.p (by exact aV rfl rfl)⟩,⟨.b (.bG 1 ((IntKind.i64.wrap (a0 + i_2):Int).toNat * 1)),fun _=>rfl,fun _=>.p (by exact au ak (aE e7) (aY e7) rfl rfl rfl rfl)⟩,⟨I x_5,fun _=>rfl,fun _=>.p (by exact aK (i:=(IntKind.i64.wrap (a0 + i_2):Int).toNat) (f:=0) aA rfl rfl rfl (aC (e:=eI) e7) rfl)⟩,⟨.b (.bG 1 ((IntKind.i64.wrap (a0 + i_2):Int).toNat * 1)),fun _=>rfl,fun _=>.p (by exact au ak (aE e8) (aY e8) rfl rfl rfl rfl)⟩,⟨_,[],.b (.one .any),rfl,(fun e=>by simp at e),rfl,rfl,fun _=>.gf [1] (by exact .p (by exact bV (i:=(IntKind.i64.wrap (a0 + i_2):Int).toNat) aA rfl rfl rfl rfl (fE e8) (map_set _ _ _ _))) (by exact rfl)⟩,trivial,trivial,trivial⟩,⟨by kernel_rfl,⟨trivial,trivial,trivial,trivial,⟨.b (.row 1),fun _=>rfl,fun _=>.p (by exact an rfl)⟩,⟨I b0,fun _=>rfl,fun _=>.p (by exact an rfl)⟩,⟨I i_2,fun _=>rfl,fun _=>.p (by exact an rfl)⟩,⟨I (IntKind.i64.wrap (b0 + i_2)),fun _=>rfl,fun _=>.p (by exact aV rfl rfl)⟩,trivial,trivial,trivial,trivial,trivial,trivial,trivial,trivial,trivial,trivial,trivial,trivial,trivial,trivial,⟨.b (.bG 1 ((IntKind.i64.wrap (b0 + i_2):Int).toNat * 1)),fun _=>rfl,fun _=>.p (by exact au ak (aE e9) (aY e9) rfl rfl rfl rfl)⟩,⟨_,[],.b (.one .any),rfl,(fun e=>by simp at e),rfl,rfl,fun _=>.gf [1] (by exact .p (by exact bV (i:=(IntKind.i64.wrap (b0 + i_2):Int).toNat) aA rfl rfl rfl rfl (fE e9) (map_set _ _ _ _))) (by exact rfl)⟩,trivial⟩,⟨by kernel_rfl,⟨trivial,trivial,trivial,trivial,trivial,trivial,trivial,trivial,trivial,trivial,trivial,trivial,trivial,trivial,trivial,trivial,trivial,trivial,trivial,trivial,trivial,trivial,trivial,trivial,trivial⟩,trivial⟩⟩⟩) rfl rfl rfl [0,1,2,3,10] [1] (s':=⟨[(0,_),(1,_),(2,_),(3,_),(10,_)],[(1,.row 3 1 (((data_1.set (IntKind.i64.wrap (a0 + i_2):Int).toNat x_4).set (IntKind.i64.wrap (b0 + i_2):Int).toNat x_5).map eI))]⟩) rfl ?_
  refine Fin.ah (Fin.ag ⟨[(0,_),(1,_),(2,_),(3,_),(10,_)],[(1,_)]⟩ rfl (Fin.then (ab.aa ?_)))
  refine Oc om (Oc (aV rfl rfl) (Oc oa ?_))
  refine ae.nil ?_
  exact Fin.bx [0,1,2,3,10] [1] ((data_1.set (IntKind.i64.wrap (a0 + i_2):Int).toNat x_4).set (IntKind.i64.wrap (b0 + i_2):Int).toNat x_5,IntKind.i64.wrap (i_2 + 1)) (Option.some.inj h4) rfl
 ·refine ab.exit (Fin.ai ?_)
  obtain rfl:=hy5 _ (Option.some.inj h4).symm
  refine Fin.ai (Fin.ay ?_)
  obtain rfl:=Option.some.inj h
  refine Fin.ag ⟨[],[(1,_)]⟩ rfl (Fin.k9 1 rfl (Fin.ag ⟨[],[(1,.cR 3 1 (data_1.map eI))]⟩ rfl ?_))
  exact Fin.result [] (.inr rfl) rfl (.nil) ⟨rfl,rfl⟩
def ez (F:Nat) (a0:Int) (m0:Int) (b0:Int) (cmp0:List Int) (data0:List Int):Option (List Int) :=
 Option.bind (iter F (mE fun data_3 i_4 j_5=>if (decide (i_4 ≠ j_5)) = true then (if (decide (j_5 < i_4)) = true then ((cu F (IntKind.i64.wrap (m0 - i_4)) m0 j_5 cmp0 data_3).bind fun x_8=>some (.inl (x_8,IntKind.i64.wrap (i_4 - j_5),j_5))) else (fM (IntKind.i64.wrap ((IntKind.i64.wrap (m0 + j_5)) - i_4)) fun x_9=>(cu F (IntKind.i64.wrap (m0 - i_4)) x_9 i_4 cmp0 data_3).bind fun x_10=>some (.inl (x_10,i_4,IntKind.i64.wrap (j_5 - i_4))))) else (some (.inr (data_3,i_4)))) (data0,IntKind.i64.wrap (m0 - a0),IntKind.i64.wrap (b0 - m0))) (cr fun data_1 i_2=>(cu F (IntKind.i64.wrap (m0 - i_2)) m0 i_2 cmp0 data_1).bind fun x_11=>some x_11)
theorem iC {F:Nat} {a0:Int} {m0:Int} {b0:Int} {cmp0:List Int} {data0:List Int} {r:(List Int)} (h:ez F a0 m0 b0 cmp0 data0 = some r):ar Try.prog [] 70 [(1,.cR 3 1 (data0.map eI))] [.row 1,.one (.i a0),.one (.i m0),.one (.i b0),.one (.ct 34 [CP.rp [.sl 1 (cmp0.map eI)]])] (Is [(1,.cR 3 1 (r.map eI))] (.fi [])):=by
 unfold ez at h
 refine ar.intro 58 Try.func70 Try.ntmps70 rfl (by simp) fun E=>?_
 show ab _ E ⟨58,[1],[1],[]⟩ _ ⟨[(0,.b (.row 1)),(1,I a0),(2,I m0),(3,I b0),(4,.b (.one (.ct 34 [CP.rp [.sl 1 (cmp0.map eI)]])))],[(1,.cR 3 1 (data0.map eI))]⟩ _
 refine ab.lO 1 rfl (ab.seq (ab.aa ?_))
 refine Oc om (Oc om (Oc (dd rfl rfl) (Oc oa ?_)))
 refine ae.af ⟨[(0,.b (.row 1)),(2,I m0),(3,I b0),(4,.b (.one (.ct 34 [CP.rp [.sl 1 (cmp0.map eI)]]))),(10,I (IntKind.i64.wrap (m0 - a0)))],[(1,.row 3 1 (data0.map eI))]⟩ rfl (ab.seq (ab.aa ?_))
 refine Oc om (Oc om (Oc (dd rfl rfl) (Oc oa ?_)))
 refine ae.af ⟨[(0,_),(2,_),(4,_),(10,_),(11,I (IntKind.i64.wrap (b0 - m0)))],[(1,_)]⟩ rfl ?_
 obtain ⟨v1,h2,h⟩:=aF h
 refine ab.bS (v:=v1) (cr fun (data_1:List Int) (i_2:Int)=>⟨[(0,.b (.row 1)),(2,I m0),(4,.b (.one (.ct 34 [CP.rp [.sl 1 (cmp0.map eI)]]))),(10,I i_2)],[(1,.row 3 1 (data_1.map eI))]⟩) (fun z=>z) ?_ ?_
 ·refine ab.block (ab.bZ h2 (mE fun (data_3:List Int) (i_4:Int) (j_5:Int)=>⟨[(0,.b (.row 1)),(2,I m0),(4,.b (.one (.ct 34 [CP.rp [.sl 1 (cmp0.map eI)]]))),(10,I i_4),(11,I j_5)],[(1,.row 3 1 (data_3.map eI))]⟩) [0,2,4,10,11] [1] rfl ?_)
  rintro ⟨data_3,i_4,j_5⟩ o3 h4 hy5
  refine ab.seq (ab.seq (ab.aa ?_))
  refine Oc om (Oc om (Oc (mJ rfl rfl) ?_))
  refine ae.af ⟨[(0,_),(2,_),(4,_),(10,_),(11,_),(20,B (decide (i_4 ≠ j_5)))],[(1,_)]⟩ rfl (ab.ite h4 rfl (fun _ h4=>?_) (fun _ h4=>?_))
  ·refine ab.skip (Fin.ag ⟨[(0,_),(2,_),(4,_),(10,_),(11,_)],[(1,_)]⟩ rfl (Fin.then (ab.block (ab.seq (ab.aa ?_)))))
   refine Oc om (Oc om (Oc (fg rfl rfl) ?_))
   refine ae.af ⟨[(0,_),(2,_),(4,_),(10,_),(11,_),(23,B (decide (j_5 < i_4)))],[(1,_)]⟩ rfl (ab.ite h4 rfl (fun _ h4=>?_) (fun _ h4=>?_))
   ·refine ab.seq (ab.aa ?_)
    refine Oc om (Oc om (Oc om (Oc (dd rfl rfl) (Oc om (Oc om ?_)))))
    refine Oc om (ae.k9 1 rfl ?_)
    obtain ⟨x_8,e6,h4⟩:=aF h4
    refine Oc (bh (own_a:=[(1,_)]) (di e6) qV rfl ⟨rfl,trivial⟩ rfl rfl) (ae.lO 1 rfl (ae.af ⟨[(0,_),(2,_),(4,_),(10,_),(11,_)],[(1,.row 3 1 (x_8.map eI))]⟩ rfl (ab.aa (Oc om (Oc om (Oc (dd rfl rfl) (Oc oa ?_)))))))
    refine ae.nil (Fin.ah ?_)
    exact Fin.bx [0,2,4,10,11] [1] (x_8,IntKind.i64.wrap (i_4 - j_5),j_5) (Option.some.inj h4) rfl
   ·refine ab.seq (ab.aa ?_)
    refine Oc om (Oc om (Oc om (Oc (dd rfl rfl) (Oc om (Oc om ?_)))))
    refine Oc (aV rfl rfl) (ae.ag ⟨[(0,_),(2,_),(4,_),(10,_),(11,_),(35,.b (.row 1)),(38,I (IntKind.i64.wrap (m0 - i_4))),(41,I (IntKind.i64.wrap (m0 + j_5)))],[(1,_)]⟩ rfl (Oc om (ae.jc .i64 h4 rfl (dd rfl rfl) (fun x_9 h4=>?_))))
    refine Oc om (Oc om ?_)
    refine ae.k9 1 rfl ?_
    obtain ⟨x_10,e7,h4⟩:=aF h4
    refine Oc (bh (own_a:=[(1,_)]) (di e7) qV rfl ⟨rfl,trivial⟩ rfl rfl) (ae.lO 1 rfl (ae.af ⟨[(0,_),(2,_),(4,_),(10,_),(11,_)],[(1,.row 3 1 (x_10.map eI))]⟩ rfl (ab.aa (Oc om (Oc om (Oc (dd rfl rfl) (Oc oa ?_)))))))
    refine ae.nil (Fin.ah ?_)
    exact Fin.bx [0,2,4,10,11] [1] (x_10,i_4,IntKind.i64.wrap (j_5 - i_4)) (Option.some.inj h4) rfl
  ·refine ab.exit (Fin.ai ?_)
   obtain rfl:=hy5 _ (Option.some.inj h4).symm
   refine Fin.ai (Fin.ay ?_)
   exact Fin.join [0,2,4,10] [1] (data_3,i_4) rfl rfl
 ·rintro ⟨data_1,i_2⟩ hv
  subst v1
  refine ab.aa (Oc om (Oc om (Oc om (Oc (dd rfl rfl) (Oc om (Oc om ?_))))))
  refine Oc om (ae.k9 1 rfl ?_)
  obtain ⟨x_11,e8,h⟩:=aF h
  refine Oc (bh (own_a:=[(1,_)]) (di e8) qV rfl ⟨rfl,trivial⟩ rfl rfl) (ae.lO 1 rfl (ae.nil ?_))
  obtain rfl:=Option.some.inj h
  refine Fin.ag ⟨[],[(1,.row 3 1 (x_11.map eI))]⟩ rfl (Fin.k9 1 rfl (Fin.ag ⟨[],[(1,.cR 3 1 (x_11.map eI))]⟩ rfl ?_))
  exact Fin.result [] (.inr rfl) rfl (.nil) ⟨rfl,rfl⟩
def bU (F:Nat):Nat → Int → Int → Int → (List Int) → (List Int) → Option (List Int)
 | 0,_,_,_,_,_=>none
 | n + 1,a0,m0,b0,cmp0,data0=>Option.bind (if (decide ((IntKind.i64.wrap (m0 - a0)) = 1)) = true then (Option.bind (iter F (cr fun i_2 j_3=>if (decide (i_2 < j_3)) = true then (fM (IntKind.u64.wrap (IntKind.i64.wrap (i_2 + j_3))) fun x_5=>(aM data0 (IntKind.i64.wrap (x_5 / 2))).bind fun x_6=>(aM data0 a0).bind fun x_7=>(dv F x_6 x_7 cmp0).bind fun x_8=>if (decide (x_8 < 0)) = true then (fM (IntKind.i64.wrap ((IntKind.i64.wrap (x_5 / 2)) + 1)) fun x_9=>some (.inl (x_9,j_3))) else (some (.inl (i_2,IntKind.i64.wrap (x_5 / 2))))) else (some (.inr i_2))) (m0,b0)) (fun i_1=>Option.bind (iter F (cr fun data_11 k_12=>if (decide (k_12 < (IntKind.i64.wrap (i_1 - 1)))) = true then ((aM data_11 (IntKind.i64.wrap (k_12 + 1))).bind fun x_14=>(aM data_11 k_12).bind fun x_15=>(aM data_11 k_12).bind fun x_16=>(aM (data_11.set (k_12:Int).toNat x_14) (IntKind.i64.wrap (k_12 + 1))).bind fun x_17=>some (.inl ((data_11.set (k_12:Int).toNat x_14).set (IntKind.i64.wrap (k_12 + 1):Int).toNat x_15,IntKind.i64.wrap (k_12 + 1)))) else (some (.inr data_11))) (data0,a0)) (fun y_10=>some (.inr y_10)))) else (some (.inl ()))) (j8 (fun _=>Option.bind (if (decide ((IntKind.i64.wrap (b0 - m0)) = 1)) = true then (Option.bind (iter F (cr fun i_19 j_20=>if (decide (i_19 < j_20)) = true then (fM (IntKind.u64.wrap (IntKind.i64.wrap (i_19 + j_20))) fun x_22=>(aM data0 m0).bind fun x_23=>(aM data0 (IntKind.i64.wrap (x_22 / 2))).bind fun x_24=>(dv F x_23 x_24 cmp0).bind fun x_25=>if (!(decide (x_25 < 0))) = true then (fM (IntKind.i64.wrap ((IntKind.i64.wrap (x_22 / 2)) + 1)) fun x_26=>some (.inl (x_26,j_20))) else (some (.inl (i_19,IntKind.i64.wrap (x_22 / 2))))) else (some (.inr i_19))) (a0,m0)) (fun i_18=>Option.bind (iter F (cr fun data_28 k_29=>if (decide (i_18 < k_29)) = true then ((aM data_28 (IntKind.i64.wrap (k_29 - 1))).bind fun x_31=>(aM data_28 k_29).bind fun x_32=>(aM data_28 k_29).bind fun x_33=>(aM (data_28.set (k_29:Int).toNat x_31) (IntKind.i64.wrap (k_29 - 1))).bind fun x_34=>some (.inl ((data_28.set (k_29:Int).toNat x_31).set (IntKind.i64.wrap (k_29 - 1):Int).toNat x_32,IntKind.i64.wrap (k_29 - 1)))) else (some (.inr data_28))) (data0,m0)) (fun y_27=>some (.inr y_27)))) else (some (.inl ()))) (j8 (fun _=>fM (IntKind.u64.wrap (IntKind.i64.wrap (a0 + b0))) fun x_35=>fM (IntKind.i64.wrap ((IntKind.i64.wrap (x_35 / 2)) + m0)) fun x_36=>Option.bind (if (decide ((IntKind.i64.wrap (x_35 / 2)) < m0)) = true then (some (IntKind.i64.wrap (x_36 - b0),IntKind.i64.wrap (x_35 / 2))) else (some (a0,m0))) (cr fun start_37 r_38=>Option.bind (iter F (cr fun start_40 r_41=>if (decide (start_40 < r_41)) = true then (fM (IntKind.u64.wrap (IntKind.i64.wrap (start_40 + r_41))) fun x_43=>(aM data0 (IntKind.i64.wrap ((IntKind.i64.wrap (x_36 - 1)) - (IntKind.i64.wrap (x_43 / 2))))).bind fun x_44=>(aM data0 (IntKind.i64.wrap (x_43 / 2))).bind fun x_45=>(dv F x_44 x_45 cmp0).bind fun x_46=>if (!(decide (x_46 < 0))) = true then (fM (IntKind.i64.wrap ((IntKind.i64.wrap (x_43 / 2)) + 1)) fun x_47=>some (.inl (x_47,r_41))) else (some (.inl (start_40,IntKind.i64.wrap (x_43 / 2))))) else (some (.inr start_40))) (start_37,r_38)) (fun start_39=>Option.bind (fM ((decide (start_39 < m0)) && (decide (m0 < (IntKind.i64.wrap (x_36 - start_39))))) fun x_49=>if x_49 = true then ((ez F start_39 m0 (IntKind.i64.wrap (x_36 - start_39)) cmp0 data0).bind fun x_50=>some x_50) else (some data0)) (fun data_48=>Option.bind (fM ((decide (a0 < start_39)) && (decide (start_39 < (IntKind.i64.wrap (x_35 / 2))))) fun x_52=>if x_52 = true then ((bU F n a0 start_39 (IntKind.i64.wrap (x_35 / 2)) cmp0 data_48).bind fun x_53=>some x_53) else (some data_48)) (fun data_51=>fM (decide ((IntKind.i64.wrap (x_35 / 2)) < (IntKind.i64.wrap (x_36 - start_39)))) fun x_54=>if (x_54 && (decide ((IntKind.i64.wrap (x_36 - start_39)) < b0))) = true then ((bU F n (IntKind.i64.wrap (x_35 / 2)) (IntKind.i64.wrap (x_36 - start_39)) b0 cmp0 data_51).bind fun x_55=>some x_55) else (some data_51)))))) (fun y=>some y))) (fun y=>some y))
def dP (F:Nat) (a0:Int) (m0:Int) (b0:Int) (cmp0:List Int) (data0:List Int):Option (List Int):=bU F F a0 m0 b0 cmp0 data0
theorem gH {F:Nat}:∀ (n:Nat) {a0:Int} {m0:Int} {b0:Int} {cmp0:List Int} {data0:List Int} {r:(List Int)} (h:bU F n a0 m0 b0 cmp0 data0 = some r),ar Try.prog [] 58 [(1,.cR 3 1 (data0.map eI))] [.row 1,.one (.i a0),.one (.i m0),.one (.i b0),.one (.ct 34 [CP.rp [.sl 1 (cmp0.map eI)]])] (Is [(1,.cR 3 1 (r.map eI))] (.fi [])):=by
 intro n
 induction n with
 | zero=>intro a0 m0 b0 cmp0 data0 r h; simp [bU] at h
 | succ n ih=>
 intro a0 m0 b0 cmp0 data0 r h
 unfold bU at h
 refine ar.intro 220 Try.func58 Try.ntmps58 rfl (by simp) fun E=>?_
 show ab _ E ⟨220,[1],[1],[]⟩ _ ⟨[(0,.b (.row 1)),(1,I a0),(2,I m0),(3,I b0),(4,.b (.one (.ct 34 [CP.rp [.sl 1 (cmp0.map eI)]])))],[(1,.cR 3 1 (data0.map eI))]⟩ _
 refine ab.lO 1 rfl ?_
 obtain ⟨v1,h2,h⟩:=aF h
 refine ab.bS (v:=v1) (fun (_:Unit)=>⟨[(0,.b (.row 1)),(1,I a0),(2,I m0),(3,I b0),(4,.b (.one (.ct 34 [CP.rp [.sl 1 (cmp0.map eI)]])))],[(1,.row 3 1 (data0.map eI))]⟩) (fun z=>.inl z) ?_ ?_
 ·refine ab.seq (ab.aa ?_)
  refine Oc om (Oc om (Oc (dd rfl rfl) (Oc (dN rfl rfl) ?_)))
  refine ae.af ⟨[(0,.b (.row 1)),(1,I a0),(2,I m0),(3,I b0),(4,.b (.one (.ct 34 [CP.rp [.sl 1 (cmp0.map eI)]]))),(28,B (decide ((IntKind.i64.wrap (m0 - a0)) = 1)))],[(1,.row 3 1 (data0.map eI))]⟩ rfl (ab.ite h2 rfl (fun _ h2=>?_) (fun _ h2=>?_))
  ·refine ab.seq (ab.aa ?_)
   refine Oc om (Oc oa ?_)
   refine ae.af ⟨[(0,_),(1,_),(3,_),(4,_),(10,I m0)],[(1,_)]⟩ rfl (ab.seq (ab.aa ?_))
   refine Oc om (Oc oa ?_)
   refine ae.af ⟨[(0,_),(1,_),(4,_),(10,_),(11,I b0)],[(1,_)]⟩ rfl ?_
   obtain ⟨v3,h4,h2⟩:=aF h2
   refine ab.bS (v:=v3) (fun (i_1:Int)=>⟨[(0,.b (.row 1)),(1,I a0),(10,I i_1)],[(1,.row 3 1 (data0.map eI))]⟩) (fun z=>z) ?_ ?_
   ·refine ab.block (ab.bZ h4 (cr fun (i_2:Int) (j_3:Int)=>⟨[(0,.b (.row 1)),(1,I a0),(4,.b (.one (.ct 34 [CP.rp [.sl 1 (cmp0.map eI)]]))),(10,I i_2),(11,I j_3)],[(1,.row 3 1 (data0.map eI))]⟩) [0,1,4,10,11] [1] rfl ?_)
    rintro ⟨i_2,j_3⟩ o5 h6 hy7
    refine ab.seq (ab.seq (ab.aa ?_))
    refine Oc om (Oc om (Oc (a8 rfl rfl) ?_))
    refine ae.af ⟨[(0,_),(1,_),(4,_),(10,_),(11,_),(33,B (decide (i_2 < j_3)))],[(1,_)]⟩ rfl (ab.ite h6 rfl (fun _ h6=>?_) (fun _ h6=>?_))
    ·refine ab.skip (Fin.ag ⟨[(0,_),(1,_),(4,_),(10,_),(11,_)],[(1,_)]⟩ rfl (Fin.then (ab.block (ab.seq (ab.aa ?_)))))
     refine Oc om (Oc om (Oc (aV rfl rfl) ?_))
     refine ae.jc .u64 h6 rfl (ck jU hY rfl) (fun x_5 h6=>?_)
     refine Oc (jE (m:=1) (by decide) rfl rfl rfl) (Oc (ck hY jU rfl) (Oc oa ?_))
     refine ae.af ⟨[(0,_),(1,_),(4,_),(10,_),(11,_),(12,I (IntKind.i64.wrap (x_5 / 2)))],[(1,_)]⟩ rfl (ab.seq ?_)
     obtain ⟨x_6,e8,h6⟩:=aF h6
     obtain ⟨x_7,e9,h6⟩:=aF h6
     obtain ⟨x_8,e10,h6⟩:=aF h6
     refine ab.en mixed 11 [.b (.one (.ct 34 [CP.rp [.sl 1 (cmp0.map eI)]])),.b (.row 1),I (IntKind.i64.wrap (x_5 / 2)),.b (.bG 1 ((IntKind.i64.wrap (x_5 / 2):Int).toNat * 1)),I x_6,.b (.row 1),I a0,.b (.bG 1 ((a0:Int).toNat * 1)),I x_7,I x_8,B (decide (x_8 < 0))] [0,1,4,10,11,12,50] [1] (s':=⟨[(0,_),(1,_),(4,_),(10,_),(11,_),(12,_),(50,B (decide (x_8 < 0)))],[(1,_)]⟩) rfl ⟨fun _=>.p om,fun _=>.p om,fun _=>.p om,fun _=>.p (au ak (aE e8) (aY e8) rfl rfl rfl rfl),fun _=>.p (aK (i:=(IntKind.i64.wrap (x_5 / 2):Int).toNat) (f:=0) aA rfl rfl rfl (aC (e:=eI) e8) rfl),fun _=>.p om,fun _=>.p om,fun _=>.p (au ak (aE e9) (aY e9) rfl rfl rfl rfl),fun _=>.p (aK (i:=(a0:Int).toNat) (f:=0) aA rfl rfl rfl (aC (e:=eI) e9) rfl),fun _=>.p (ik (pss:=[[.sl 1 (cmp0.map eI)]]) (dU e10) pt rfl rfl rfl trivial rfl rfl),fun _=>.p (a8 rfl rfl),trivial⟩ rfl rfl (ab.ite h6 rfl (fun _ h6=>?_) (fun _ h6=>?_))
     ·refine ab.aa (Oc om (ae.jc .i64 h6 rfl (aV rfl rfl) (fun x_9 h6=>?_)))
      refine Oc oa (ae.nil (Fin.ah ?_))
      exact Fin.bx [0,1,4,10,11] [1] (x_9,j_3) (Option.some.inj h6) rfl
     ·refine ab.aa (Oc om (Oc oa ?_))
      refine ae.nil (Fin.ah ?_)
      exact Fin.bx [0,1,4,10,11] [1] (i_2,IntKind.i64.wrap (x_5 / 2)) (Option.some.inj h6) rfl
    ·refine ab.exit (Fin.ai ?_)
     obtain rfl:=hy7 _ (Option.some.inj h6).symm
     refine Fin.ai (Fin.ay ?_)
     exact Fin.join [0,1,10] [1] i_2 rfl rfl
   ·rintro i_1 hv
    subst v3
    obtain ⟨v11,h12,h2⟩:=aF h2
    refine ab.bS (v:=v11) (fun (y_10:List Int)=>⟨[],[(1,.row 3 1 (y_10.map eI))]⟩) (fun z=>z) ?_ ?_
    ·refine ab.seq (ab.aa ?_)
     refine Oc om (Oc oa ?_)
     refine ae.af ⟨[(0,_),(10,_),(13,I a0)],[(1,_)]⟩ rfl (ab.block (ab.bZ h12 (cr fun (data_11:List Int) (k_12:Int)=>⟨[(0,.b (.row 1)),(10,I i_1),(13,I k_12)],[(1,.row 3 1 (data_11.map eI))]⟩) [0,10,13] [1] rfl ?_))
     rintro ⟨data_11,k_12⟩ o13 h14 hy15
     refine ab.seq (ab.seq (ab.aa ?_))
     refine Oc om (Oc om (Oc (dd rfl rfl) (Oc (a8 rfl rfl) ?_)))
     refine ae.af ⟨[(0,_),(10,_),(13,_),(58,B (decide (k_12 < (IntKind.i64.wrap (i_1 - 1)))))],[(1,_)]⟩ rfl (ab.ite h14 rfl (fun _ h14=>?_) (fun _ h14=>?_))
     ·refine ab.skip (Fin.ag ⟨[(0,_),(10,_),(13,_)],[(1,_)]⟩ rfl (Fin.then (ab.seq (ab.block ?_))))
      refine ab.ag ⟨[(0,_),(10,_),(13,_)],[(1,_)]⟩ rfl ?_
      obtain ⟨x_14,e16,h14⟩:=aF h14
      obtain ⟨x_15,e17,h14⟩:=aF h14
      obtain ⟨x_16,e18,h14⟩:=aF h14
      obtain ⟨x_17,e19,h14⟩:=aF h14
      refine ab.gA mixed [false,false,false,false,false,false,false,false,false,false,false,false,false,false,false,true,false,true] [.b (.row 1),I k_12,.b (.row 1),I k_12,I (IntKind.i64.wrap (k_12 + 1)),.b (.row 1),I k_12,I (IntKind.i64.wrap (k_12 + 1)),.b (.bG 1 ((IntKind.i64.wrap (k_12 + 1):Int).toNat * 1)),I x_14,.b (.row 1),I k_12,.b (.bG 1 ((k_12:Int).toNat * 1)),I x_15,.b (.bG 1 ((k_12:Int).toNat * 1)),B true,.b (.bG 1 ((IntKind.i64.wrap (k_12 + 1):Int).toNat * 1)),B true] [⟨[false,false,false,false,false,false,false,false,false,false,false,false,false,false,false,false,false,false],[(0,.b (.row 1)),(10,I i_1),(13,I k_12)],[(1,.row 3 1 (data_11.map eI))],[true,true,true,true,true,true,true,true,true,true,true,true,true,true,true,true,true,true],[],[16,17]⟩,⟨[false,false,false,false,false,false,false,false,false,false,false,false,false,false,false,true,false,false],[(0,.b (.row 1)),(10,I i_1),(13,I k_12)],[(1,.row 3 1 ((data_11.set (k_12:Int).toNat x_14).map eI))],[true,true,true,true,true,true,true,true,true,true,true,true,true,true,true,true,true,true],[0,1,5,6,7,8,9,10,11,12,13,14,15],[]⟩,⟨[false,false,false,false,false,false,false,false,false,false,false,false,false,false,false,true,false,true],[(0,.b (.row 1)),(10,I i_1),(13,I k_12)],[(1,.row 3 1 (((data_11.set (k_12:Int).toNat x_14).set (IntKind.i64.wrap (k_12 + 1):Int).toNat x_15).map eI))],[true,true,true,true,true,true,true,true,true,true,true,true,true,true,true,true,true,true],[0,1,2,3,4,5,6,7,8,9,10,11,12,13,14,15,16,17],[]⟩] rfl (⟨by kernel_rfl,⟨⟨.b (.row 1),fun _=>rfl,fun _=>.p (by exact an rfl)⟩,⟨I k_12,fun _=>rfl,fun _=>.p (by exact an rfl)⟩,⟨.b (.row 1),fun _=>rfl,fun _=>.p (by exact an rfl)⟩,⟨I k_12,fun _=>rfl,fun _=>.p (by exact an rfl)⟩,⟨I (IntKind.i64.wrap (k_12 + 1)),fun _=>rfl,fun _=>.p (by exact aV rfl rfl)⟩,⟨.b (.row 1),fun _=>rfl,fun _=>.p (by exact an rfl)⟩,⟨I k_12,fun _=>rfl,fun _=>.p (by exact an rfl)⟩,⟨I (IntKind.i64.wrap (k_12 + 1)),fun _=>rfl,fun _=>.p (by exact aV rfl rfl)⟩,⟨.b (.bG 1 ((IntKind.i64.wrap (k_12 + 1):Int).toNat * 1)),fun _=>rfl,fun _=>.p (by exact au ak (aE e16) (aY e16) rfl rfl rfl rfl)⟩,⟨I x_14,fun _=>rfl,fun _=>.p (by exact aK (i:=(IntKind.i64.wrap (k_12 + 1):Int).toNat) (f:=0) aA rfl rfl rfl (aC (e:=eI) e16) rfl)⟩,⟨.b (.row 1),fun _=>rfl,fun _=>.p (by exact an rfl)⟩,⟨I k_12,fun _=>rfl,fun _=>.p (by exact an rfl)⟩,⟨.b (.bG 1 ((k_12:Int).toNat * 1)),fun _=>rfl,fun _=>.p (by exact au ak (aE e17) (aY e17) rfl rfl rfl rfl)⟩,⟨I x_15,fun _=>rfl,fun _=>.p (by exact aK (i:=(k_12:Int).toNat) (f:=0) aA rfl rfl rfl (aC (e:=eI) e17) rfl)⟩,⟨.b (.bG 1 ((k_12:Int).toNat * 1)),fun _=>rfl,fun _=>.p (by exact au ak (aE e18) (aY e18) rfl rfl rfl rfl)⟩,⟨_,[],.b (.one .any),rfl,(fun e=>by simp at e),rfl,rfl,fun _=>.gf [1] (by exact .p (by exact bV (i:=(k_12:Int).toNat) aA rfl rfl rfl rfl (fE e18) (map_set _ _ _ _))) (by exact rfl)⟩,trivial,trivial,trivial⟩,⟨by kernel_rfl,⟨trivial,trivial,⟨.b (.row 1),fun _=>rfl,fun _=>.p (by exact an rfl)⟩,⟨I k_12,fun _=>rfl,fun _=>.p (by exact an rfl)⟩,⟨I (IntKind.i64.wrap (k_12 + 1)),fun _=>rfl,fun _=>.p (by exact aV rfl rfl)⟩,trivial,trivial,trivial,trivial,trivial,trivial,trivial,trivial,trivial,trivial,trivial,⟨.b (.bG 1 ((IntKind.i64.wrap (k_12 + 1):Int).toNat * 1)),fun _=>rfl,fun _=>.p (by exact au ak (aE e19) (aY e19) rfl rfl rfl rfl)⟩,⟨_,[],.b (.one .any),rfl,(fun e=>by simp at e),rfl,rfl,fun _=>.gf [1] (by exact .p (by exact bV (i:=(IntKind.i64.wrap (k_12 + 1):Int).toNat) aA rfl rfl rfl rfl (fE e19) (map_set _ _ _ _))) (by exact rfl)⟩,trivial⟩,⟨by kernel_rfl,⟨trivial,trivial,trivial,trivial,trivial,trivial,trivial,trivial,trivial,trivial,trivial,trivial,trivial,trivial,trivial,trivial,trivial,trivial,trivial⟩,trivial⟩⟩⟩) rfl rfl rfl [0,10,13] [1] (s':=⟨[(0,_),(10,_),(13,_)],[(1,.row 3 1 (((data_11.set (k_12:Int).toNat x_14).set (IntKind.i64.wrap (k_12 + 1):Int).toNat x_15).map eI))]⟩) rfl ?_
      refine Fin.ah (Fin.ag ⟨[(0,_),(10,_),(13,_)],[(1,_)]⟩ rfl (Fin.then (ab.aa ?_)))
      refine Oc om (Oc (aV rfl rfl) (Oc oa ?_))
      refine ae.nil ?_
      exact Fin.bx [0,10,13] [1] ((data_11.set (k_12:Int).toNat x_14).set (IntKind.i64.wrap (k_12 + 1):Int).toNat x_15,IntKind.i64.wrap (k_12 + 1)) (Option.some.inj h14) rfl
     ·refine ab.exit (Fin.ai ?_)
      obtain rfl:=hy15 _ (Option.some.inj h14).symm
      refine Fin.ai (Fin.ay ?_)
      exact Fin.join [] [1] data_11 rfl rfl
    ·rintro y_10 hv
     subst v11
     refine ab.ret ?_
     obtain rfl:=Option.some.inj h2
     refine Fin.aR ?_
     obtain rfl:=Option.some.inj h
     refine Fin.ag ⟨[],[(1,_)]⟩ rfl (Fin.k9 1 rfl (Fin.ag ⟨[],[(1,.cR 3 1 (y_10.map eI))]⟩ rfl ?_))
     exact Fin.result [] (.inl rfl) rfl (.nil) ⟨rfl,rfl⟩
  ·refine ab.skip ?_
   exact Fin.join [0,1,2,3,4] [1] () (Option.some.inj h2) rfl
 ·rintro _ hv
  subst v1
  obtain ⟨v20,h21,h⟩:=aF h
  refine ab.bS (v:=v20) (fun (_:Unit)=>⟨[(0,.b (.row 1)),(1,I a0),(2,I m0),(3,I b0),(4,.b (.one (.ct 34 [CP.rp [.sl 1 (cmp0.map eI)]])))],[(1,.row 3 1 (data0.map eI))]⟩) (fun z=>.inl z) ?_ ?_
  ·refine ab.seq (ab.aa ?_)
   refine Oc om (Oc om (Oc (dd rfl rfl) (Oc (dN rfl rfl) ?_)))
   refine ae.af ⟨[(0,_),(1,_),(2,_),(3,_),(4,_),(80,B (decide ((IntKind.i64.wrap (b0 - m0)) = 1)))],[(1,_)]⟩ rfl (ab.ite h21 rfl (fun _ h21=>?_) (fun _ h21=>?_))
   ·refine ab.seq (ab.aa ?_)
    refine Oc om (Oc oa ?_)
    refine ae.af ⟨[(0,_),(2,_),(4,_),(14,I a0)],[(1,_)]⟩ rfl (ab.seq (ab.aa ?_))
    refine Oc om (Oc oa ?_)
    refine ae.af ⟨[(0,_),(2,_),(4,_),(14,_),(15,I m0)],[(1,_)]⟩ rfl ?_
    obtain ⟨v22,h23,h21⟩:=aF h21
    refine ab.bS (v:=v22) (fun (i_18:Int)=>⟨[(0,.b (.row 1)),(2,I m0),(14,I i_18)],[(1,.row 3 1 (data0.map eI))]⟩) (fun z=>z) ?_ ?_
    ·refine ab.block (ab.bZ h23 (cr fun (i_19:Int) (j_20:Int)=>⟨[(0,.b (.row 1)),(2,I m0),(4,.b (.one (.ct 34 [CP.rp [.sl 1 (cmp0.map eI)]]))),(14,I i_19),(15,I j_20)],[(1,.row 3 1 (data0.map eI))]⟩) [0,2,4,14,15] [1] rfl ?_)
     rintro ⟨i_19,j_20⟩ o24 h25 hy26
     refine ab.seq (ab.seq (ab.aa ?_))
     refine Oc om (Oc om (Oc (a8 rfl rfl) ?_))
     refine ae.af ⟨[(0,_),(2,_),(4,_),(14,_),(15,_),(85,B (decide (i_19 < j_20)))],[(1,_)]⟩ rfl (ab.ite h25 rfl (fun _ h25=>?_) (fun _ h25=>?_))
     ·refine ab.skip (Fin.ag ⟨[(0,_),(2,_),(4,_),(14,_),(15,_)],[(1,_)]⟩ rfl (Fin.then (ab.block (ab.seq (ab.aa ?_)))))
      refine Oc om (Oc om (Oc (aV rfl rfl) ?_))
      refine ae.jc .u64 h25 rfl (ck jU hY rfl) (fun x_22 h25=>?_)
      refine Oc (jE (m:=1) (by decide) rfl rfl rfl) (Oc (ck hY jU rfl) (Oc oa ?_))
      refine ae.af ⟨[(0,_),(2,_),(4,_),(14,_),(15,_),(16,I (IntKind.i64.wrap (x_22 / 2)))],[(1,_)]⟩ rfl (ab.seq ?_)
      obtain ⟨x_23,e27,h25⟩:=aF h25
      obtain ⟨x_24,e28,h25⟩:=aF h25
      obtain ⟨x_25,e29,h25⟩:=aF h25
      refine ab.en mixed 12 [.b (.one (.ct 34 [CP.rp [.sl 1 (cmp0.map eI)]])),.b (.row 1),I m0,.b (.bG 1 ((m0:Int).toNat * 1)),I x_23,.b (.row 1),I (IntKind.i64.wrap (x_22 / 2)),.b (.bG 1 ((IntKind.i64.wrap (x_22 / 2):Int).toNat * 1)),I x_24,I x_25,B (decide (x_25 < 0)),B (!(decide (x_25 < 0)))] [0,2,4,14,15,16,103] [1] (s':=⟨[(0,_),(2,_),(4,_),(14,_),(15,_),(16,_),(103,B (!(decide (x_25 < 0))))],[(1,_)]⟩) rfl ⟨fun _=>.p om,fun _=>.p om,fun _=>.p om,fun _=>.p (au ak (aE e27) (aY e27) rfl rfl rfl rfl),fun _=>.p (aK (i:=(m0:Int).toNat) (f:=0) aA rfl rfl rfl (aC (e:=eI) e27) rfl),fun _=>.p om,fun _=>.p om,fun _=>.p (au ak (aE e28) (aY e28) rfl rfl rfl rfl),fun _=>.p (aK (i:=(IntKind.i64.wrap (x_22 / 2):Int).toNat) (f:=0) aA rfl rfl rfl (aC (e:=eI) e28) rfl),fun _=>.p (ik (pss:=[[.sl 1 (cmp0.map eI)]]) (dU e29) pt rfl rfl rfl trivial rfl rfl),fun _=>.p (a8 rfl rfl),fun _=>.p (c4 rfl),trivial⟩ rfl rfl (ab.ite h25 rfl (fun _ h25=>?_) (fun _ h25=>?_))
      ·refine ab.aa (Oc om (ae.jc .i64 h25 rfl (aV rfl rfl) (fun x_26 h25=>?_)))
       refine Oc oa (ae.nil (Fin.ah ?_))
       exact Fin.bx [0,2,4,14,15] [1] (x_26,j_20) (Option.some.inj h25) rfl
      ·refine ab.aa (Oc om (Oc oa ?_))
       refine ae.nil (Fin.ah ?_)
       exact Fin.bx [0,2,4,14,15] [1] (i_19,IntKind.i64.wrap (x_22 / 2)) (Option.some.inj h25) rfl
     ·refine ab.exit (Fin.ai ?_)
      obtain rfl:=hy26 _ (Option.some.inj h25).symm
      refine Fin.ai (Fin.ay ?_)
      exact Fin.join [0,2,14] [1] i_19 rfl rfl
    ·rintro i_18 hv
     subst v22
     obtain ⟨v30,h31,h21⟩:=aF h21
     refine ab.bS (v:=v30) (fun (y_27:List Int)=>⟨[],[(1,.row 3 1 (y_27.map eI))]⟩) (fun z=>z) ?_ ?_
     ·refine ab.seq (ab.aa ?_)
      refine Oc om (Oc oa ?_)
      refine ae.af ⟨[(0,_),(14,_),(17,I m0)],[(1,_)]⟩ rfl (ab.block (ab.bZ h31 (cr fun (data_28:List Int) (k_29:Int)=>⟨[(0,.b (.row 1)),(14,I i_18),(17,I k_29)],[(1,.row 3 1 (data_28.map eI))]⟩) [0,14,17] [1] rfl ?_))
      rintro ⟨data_28,k_29⟩ o32 h33 hy34
      refine ab.seq (ab.seq (ab.aa ?_))
      refine Oc om (Oc om (Oc (fg rfl rfl) ?_))
      refine ae.af ⟨[(0,_),(14,_),(17,_),(110,B (decide (i_18 < k_29)))],[(1,_)]⟩ rfl (ab.ite h33 rfl (fun _ h33=>?_) (fun _ h33=>?_))
      ·refine ab.skip (Fin.ag ⟨[(0,_),(14,_),(17,_)],[(1,_)]⟩ rfl (Fin.then (ab.seq (ab.block ?_))))
       refine ab.ag ⟨[(0,_),(14,_),(17,_)],[(1,_)]⟩ rfl ?_
       obtain ⟨x_31,e35,h33⟩:=aF h33
       obtain ⟨x_32,e36,h33⟩:=aF h33
       obtain ⟨x_33,e37,h33⟩:=aF h33
       obtain ⟨x_34,e38,h33⟩:=aF h33
       refine ab.gA mixed [false,false,false,false,false,false,false,false,false,false,false,false,false,false,false,true,false,true] [.b (.row 1),I k_29,.b (.row 1),I k_29,I (IntKind.i64.wrap (k_29 - 1)),.b (.row 1),I k_29,I (IntKind.i64.wrap (k_29 - 1)),.b (.bG 1 ((IntKind.i64.wrap (k_29 - 1):Int).toNat * 1)),I x_31,.b (.row 1),I k_29,.b (.bG 1 ((k_29:Int).toNat * 1)),I x_32,.b (.bG 1 ((k_29:Int).toNat * 1)),B true,.b (.bG 1 ((IntKind.i64.wrap (k_29 - 1):Int).toNat * 1)),B true] [⟨[false,false,false,false,false,false,false,false,false,false,false,false,false,false,false,false,false,false],[(0,.b (.row 1)),(14,I i_18),(17,I k_29)],[(1,.row 3 1 (data_28.map eI))],[true,true,true,true,true,true,true,true,true,true,true,true,true,true,true,true,true,true],[],[16,17]⟩,⟨[false,false,false,false,false,false,false,false,false,false,false,false,false,false,false,true,false,false],[(0,.b (.row 1)),(14,I i_18),(17,I k_29)],[(1,.row 3 1 ((data_28.set (k_29:Int).toNat x_31).map eI))],[true,true,true,true,true,true,true,true,true,true,true,true,true,true,true,true,true,true],[0,1,5,6,7,8,9,10,11,12,13,14,15],[]⟩,⟨[false,false,false,false,false,false,false,false,false,false,false,false,false,false,false,true,false,true],[(0,.b (.row 1)),(14,I i_18),(17,I k_29)],[(1,.row 3 1 (((data_28.set (k_29:Int).toNat x_31).set (IntKind.i64.wrap (k_29 - 1):Int).toNat x_32).map eI))],[true,true,true,true,true,true,true,true,true,true,true,true,true,true,true,true,true,true],[0,1,2,3,4,5,6,7,8,9,10,11,12,13,14,15,16,17],[]⟩] rfl (⟨by kernel_rfl,⟨⟨.b (.row 1),fun _=>rfl,fun _=>.p (by exact an rfl)⟩,⟨I k_29,fun _=>rfl,fun _=>.p (by exact an rfl)⟩,⟨.b (.row 1),fun _=>rfl,fun _=>.p (by exact an rfl)⟩,⟨I k_29,fun _=>rfl,fun _=>.p (by exact an rfl)⟩,⟨I (IntKind.i64.wrap (k_29 - 1)),fun _=>rfl,fun _=>.p (by exact dd rfl rfl)⟩,⟨.b (.row 1),fun _=>rfl,fun _=>.p (by exact an rfl)⟩,⟨I k_29,fun _=>rfl,fun _=>.p (by exact an rfl)⟩,⟨I (IntKind.i64.wrap (k_29 - 1)),fun _=>rfl,fun _=>.p (by exact dd rfl rfl)⟩,⟨.b (.bG 1 ((IntKind.i64.wrap (k_29 - 1):Int).toNat * 1)),fun _=>rfl,fun _=>.p (by exact au ak (aE e35) (aY e35) rfl rfl rfl rfl)⟩,⟨I x_31,fun _=>rfl,fun _=>.p (by exact aK (i:=(IntKind.i64.wrap (k_29 - 1):Int).toNat) (f:=0) aA rfl rfl rfl (aC (e:=eI) e35) rfl)⟩,⟨.b (.row 1),fun _=>rfl,fun _=>.p (by exact an rfl)⟩,⟨I k_29,fun _=>rfl,fun _=>.p (by exact an rfl)⟩,⟨.b (.bG 1 ((k_29:Int).toNat * 1)),fun _=>rfl,fun _=>.p (by exact au ak (aE e36) (aY e36) rfl rfl rfl rfl)⟩,⟨I x_32,fun _=>rfl,fun _=>.p (by exact aK (i:=(k_29:Int).toNat) (f:=0) aA rfl rfl rfl (aC (e:=eI) e36) rfl)⟩,⟨.b (.bG 1 ((k_29:Int).toNat * 1)),fun _=>rfl,fun _=>.p (by exact au ak (aE e37) (aY e37) rfl rfl rfl rfl)⟩,⟨_,[],.b (.one .any),rfl,(fun e=>by simp at e),rfl,rfl,fun _=>.gf [1] (by exact .p (by exact bV (i:=(k_29:Int).toNat) aA rfl rfl rfl rfl (fE e37) (map_set _ _ _ _))) (by exact rfl)⟩,trivial,trivial,trivial⟩,⟨by kernel_rfl,⟨trivial,trivial,⟨.b (.row 1),fun _=>rfl,fun _=>.p (by exact an rfl)⟩,⟨I k_29,fun _=>rfl,fun _=>.p (by exact an rfl)⟩,⟨I (IntKind.i64.wrap (k_29 - 1)),fun _=>rfl,fun _=>.p (by exact dd rfl rfl)⟩,trivial,trivial,trivial,trivial,trivial,trivial,trivial,trivial,trivial,trivial,trivial,⟨.b (.bG 1 ((IntKind.i64.wrap (k_29 - 1):Int).toNat * 1)),fun _=>rfl,fun _=>.p (by exact au ak (aE e38) (aY e38) rfl rfl rfl rfl)⟩,⟨_,[],.b (.one .any),rfl,(fun e=>by simp at e),rfl,rfl,fun _=>.gf [1] (by exact .p (by exact bV (i:=(IntKind.i64.wrap (k_29 - 1):Int).toNat) aA rfl rfl rfl rfl (fE e38) (map_set _ _ _ _))) (by exact rfl)⟩,trivial⟩,⟨by kernel_rfl,⟨trivial,trivial,trivial,trivial,trivial,trivial,trivial,trivial,trivial,trivial,trivial,trivial,trivial,trivial,trivial,trivial,trivial,trivial,trivial⟩,trivial⟩⟩⟩) rfl rfl rfl [0,14,17] [1] (s':=⟨[(0,_),(14,_),(17,_)],[(1,.row 3 1 (((data_28.set (k_29:Int).toNat x_31).set (IntKind.i64.wrap (k_29 - 1):Int).toNat x_32).map eI))]⟩) rfl ?_
       refine Fin.ah (Fin.ag ⟨[(0,_),(14,_),(17,_)],[(1,_)]⟩ rfl (Fin.then (ab.aa ?_)))
       refine Oc om (Oc (dd rfl rfl) (Oc oa ?_))
       refine ae.nil ?_
       exact Fin.bx [0,14,17] [1] ((data_28.set (k_29:Int).toNat x_31).set (IntKind.i64.wrap (k_29 - 1):Int).toNat x_32,IntKind.i64.wrap (k_29 - 1)) (Option.some.inj h33) rfl
      ·refine ab.exit (Fin.ai ?_)
       obtain rfl:=hy34 _ (Option.some.inj h33).symm
       refine Fin.ai (Fin.ay ?_)
       exact Fin.join [] [1] data_28 rfl rfl
     ·rintro y_27 hv
      subst v30
      refine ab.ret ?_
      obtain rfl:=Option.some.inj h21
      refine Fin.aR ?_
      obtain rfl:=Option.some.inj h
      refine Fin.ag ⟨[],[(1,_)]⟩ rfl (Fin.k9 1 rfl (Fin.ag ⟨[],[(1,.cR 3 1 (y_27.map eI))]⟩ rfl ?_))
      exact Fin.result [] (.inl rfl) rfl (.nil) ⟨rfl,rfl⟩
   ·refine ab.skip ?_
    exact Fin.join [0,1,2,3,4] [1] () (Option.some.inj h21) rfl
  ·rintro _ hv
   subst v20
   refine ab.seq (ab.aa ?_)
   refine Oc om (Oc om (Oc (aV rfl rfl) ?_))
   refine ae.jc .u64 h rfl (ck jU hY rfl) (fun x_35 h=>?_)
   refine Oc (jE (m:=1) (by decide) rfl rfl rfl) (Oc (ck hY jU rfl) (Oc oa ?_))
   refine ae.af ⟨[(0,_),(1,_),(2,_),(3,_),(4,_),(18,I (IntKind.i64.wrap (x_35 / 2)))],[(1,_)]⟩ rfl (ab.seq (ab.aa ?_))
   refine Oc om (Oc om ?_)
   refine ae.jc .i64 h rfl (aV rfl rfl) (fun x_36 h=>?_)
   refine Oc oa (ae.af ⟨[(0,_),(1,_),(2,_),(3,_),(4,_),(18,_),(19,I x_36)],[(1,_)]⟩ rfl (ab.seq (ab.aa ?_)))
   refine Oc oa (Oc oa ?_)
   refine ae.af ⟨[(0,_),(1,_),(2,_),(3,_),(4,_),(18,_),(19,_)],[(1,_)]⟩ rfl ?_
   obtain ⟨v39,h40,h⟩:=aF h
   refine ab.bS (v:=v39) (cr fun (start_37:Int) (r_38:Int)=>⟨[(0,.b (.row 1)),(1,I a0),(2,I m0),(3,I b0),(4,.b (.one (.ct 34 [CP.rp [.sl 1 (cmp0.map eI)]]))),(18,I (IntKind.i64.wrap (x_35 / 2))),(19,I x_36),(20,I start_37),(21,I r_38)],[(1,.row 3 1 (data0.map eI))]⟩) (fun z=>z) ?_ ?_
   ·refine ab.seq (ab.aa ?_)
    refine Oc om (Oc om (Oc (fg rfl rfl) ?_))
    refine ae.af ⟨[(0,_),(1,_),(2,_),(3,_),(4,_),(18,_),(19,_),(140,B (decide ((IntKind.i64.wrap (x_35 / 2)) < m0)))],[(1,_)]⟩ rfl (ab.ite h40 rfl (fun _ h40=>?_) (fun _ h40=>?_))
    ·refine ab.seq (ab.aa ?_)
     refine Oc om (Oc om (Oc (dd rfl rfl) (Oc oa ?_)))
     refine ae.af ⟨[(0,_),(1,_),(2,_),(3,_),(4,_),(18,_),(19,_),(20,I (IntKind.i64.wrap (x_36 - b0)))],[(1,_)]⟩ rfl (ab.aa (Oc om (Oc oa ?_)))
     refine ae.nil ?_
     exact Fin.join [0,1,2,3,4,18,19,20,21] [1] (IntKind.i64.wrap (x_36 - b0),IntKind.i64.wrap (x_35 / 2)) (Option.some.inj h40) rfl
    ·refine ab.seq (ab.aa ?_)
     refine Oc om (Oc oa ?_)
     refine ae.af ⟨[(0,_),(1,_),(2,_),(3,_),(4,_),(18,_),(19,_),(20,I a0)],[(1,_)]⟩ rfl (ab.aa (Oc om (Oc oa ?_)))
     refine ae.nil ?_
     exact Fin.join [0,1,2,3,4,18,19,20,21] [1] (a0,m0) (Option.some.inj h40) rfl
   ·rintro ⟨start_37,r_38⟩ hv
    subst v39
    refine ab.seq (ab.aa ?_)
    refine Oc om (Oc (dd rfl rfl) (Oc oa ?_))
    refine ae.af ⟨[(0,_),(1,_),(2,_),(3,_),(4,_),(18,_),(19,_),(20,_),(21,_),(22,I (IntKind.i64.wrap (x_36 - 1)))],[(1,_)]⟩ rfl ?_
    obtain ⟨v41,h42,h⟩:=aF h
    refine ab.bS (v:=v41) (fun (start_39:Int)=>⟨[(0,.b (.row 1)),(1,I a0),(2,I m0),(3,I b0),(4,.b (.one (.ct 34 [CP.rp [.sl 1 (cmp0.map eI)]]))),(18,I (IntKind.i64.wrap (x_35 / 2))),(19,I x_36),(20,I start_39)],[(1,.row 3 1 (data0.map eI))]⟩) (fun z=>z) ?_ ?_
    ·refine ab.block (ab.bZ h42 (cr fun (start_40:Int) (r_41:Int)=>⟨[(0,.b (.row 1)),(1,I a0),(2,I m0),(3,I b0),(4,.b (.one (.ct 34 [CP.rp [.sl 1 (cmp0.map eI)]]))),(18,I (IntKind.i64.wrap (x_35 / 2))),(19,I x_36),(20,I start_40),(21,I r_41),(22,I (IntKind.i64.wrap (x_36 - 1)))],[(1,.row 3 1 (data0.map eI))]⟩) [0,1,2,3,4,18,19,20,21,22] [1] rfl ?_)
     rintro ⟨start_40,r_41⟩ o43 h44 hy45
     refine ab.seq (ab.seq (ab.aa ?_))
     refine Oc om (Oc om (Oc (a8 rfl rfl) ?_))
     refine ae.af ⟨[(0,_),(1,_),(2,_),(3,_),(4,_),(18,_),(19,_),(20,_),(21,_),(22,_),(151,B (decide (start_40 < r_41)))],[(1,_)]⟩ rfl (ab.ite h44 rfl (fun _ h44=>?_) (fun _ h44=>?_))
     ·refine ab.skip (Fin.ag ⟨[(0,_),(1,_),(2,_),(3,_),(4,_),(18,_),(19,_),(20,_),(21,_),(22,_)],[(1,_)]⟩ rfl (Fin.then (ab.block (ab.seq (ab.aa ?_)))))
      refine Oc om (Oc om (Oc (aV rfl rfl) ?_))
      refine ae.jc .u64 h44 rfl (ck jU hY rfl) (fun x_43 h44=>?_)
      refine Oc (jE (m:=1) (by decide) rfl rfl rfl) (Oc (ck hY jU rfl) (Oc oa ?_))
      refine ae.af ⟨[(0,_),(1,_),(2,_),(3,_),(4,_),(18,_),(19,_),(20,_),(21,_),(22,_),(23,I (IntKind.i64.wrap (x_43 / 2)))],[(1,_)]⟩ rfl (ab.seq ?_)
      obtain ⟨x_44,e46,h44⟩:=aF h44
      obtain ⟨x_45,e47,h44⟩:=aF h44
      obtain ⟨x_46,e48,h44⟩:=aF h44
      refine ab.en mixed 14 [.b (.one (.ct 34 [CP.rp [.sl 1 (cmp0.map eI)]])),.b (.row 1),I (IntKind.i64.wrap (x_36 - 1)),I (IntKind.i64.wrap (x_43 / 2)),I (IntKind.i64.wrap ((IntKind.i64.wrap (x_36 - 1)) - (IntKind.i64.wrap (x_43 / 2)))),.b (.bG 1 ((IntKind.i64.wrap ((IntKind.i64.wrap (x_36 - 1)) - (IntKind.i64.wrap (x_43 / 2))):Int).toNat * 1)),I x_44,.b (.row 1),I (IntKind.i64.wrap (x_43 / 2)),.b (.bG 1 ((IntKind.i64.wrap (x_43 / 2):Int).toNat * 1)),I x_45,I x_46,B (decide (x_46 < 0)),B (!(decide (x_46 < 0)))] [0,1,2,3,4,18,19,20,21,22,23,171] [1] (s':=⟨[(0,_),(1,_),(2,_),(3,_),(4,_),(18,_),(19,_),(20,_),(21,_),(22,_),(23,_),(171,B (!(decide (x_46 < 0))))],[(1,_)]⟩) rfl ⟨fun _=>.p om,fun _=>.p om,fun _=>.p om,fun _=>.p om,fun _=>.p (dd rfl rfl),fun _=>.p (au ak (aE e46) (aY e46) rfl rfl rfl rfl),fun _=>.p (aK (i:=(IntKind.i64.wrap ((IntKind.i64.wrap (x_36 - 1)) - (IntKind.i64.wrap (x_43 / 2))):Int).toNat) (f:=0) aA rfl rfl rfl (aC (e:=eI) e46) rfl),fun _=>.p om,fun _=>.p om,fun _=>.p (au ak (aE e47) (aY e47) rfl rfl rfl rfl),fun _=>.p (aK (i:=(IntKind.i64.wrap (x_43 / 2):Int).toNat) (f:=0) aA rfl rfl rfl (aC (e:=eI) e47) rfl),fun _=>.p (ik (pss:=[[.sl 1 (cmp0.map eI)]]) (dU e48) pt rfl rfl rfl trivial rfl rfl),fun _=>.p (a8 rfl rfl),fun _=>.p (c4 rfl),trivial⟩ rfl rfl (ab.ite h44 rfl (fun _ h44=>?_) (fun _ h44=>?_))
      ·refine ab.aa (Oc om (ae.jc .i64 h44 rfl (aV rfl rfl) (fun x_47 h44=>?_)))
       refine Oc oa (ae.nil (Fin.ah ?_))
       exact Fin.bx [0,1,2,3,4,18,19,20,21,22] [1] (x_47,r_41) (Option.some.inj h44) rfl
      ·refine ab.aa (Oc om (Oc oa ?_))
       refine ae.nil (Fin.ah ?_)
       exact Fin.bx [0,1,2,3,4,18,19,20,21,22] [1] (start_40,IntKind.i64.wrap (x_43 / 2)) (Option.some.inj h44) rfl
     ·refine ab.exit (Fin.ai ?_)
      obtain rfl:=hy45 _ (Option.some.inj h44).symm
      refine Fin.ai (Fin.ay ?_)
      exact Fin.join [0,1,2,3,4,18,19,20] [1] start_40 rfl rfl
    ·rintro start_39 hv
     subst v41
     refine ab.seq (ab.aa ?_)
     refine Oc om (Oc om (Oc (dd rfl rfl) (Oc oa ?_)))
     refine ae.af ⟨[(0,_),(1,_),(2,_),(3,_),(4,_),(18,_),(20,_),(24,I (IntKind.i64.wrap (x_36 - start_39)))],[(1,_)]⟩ rfl ?_
     obtain ⟨v49,h50,h⟩:=aF h
     refine ab.bS (v:=v49) (fun (data_48:List Int)=>⟨[(0,.b (.row 1)),(1,I a0),(3,I b0),(4,.b (.one (.ct 34 [CP.rp [.sl 1 (cmp0.map eI)]]))),(18,I (IntKind.i64.wrap (x_35 / 2))),(20,I start_39),(24,I (IntKind.i64.wrap (x_36 - start_39)))],[(1,.row 3 1 (data_48.map eI))]⟩) (fun z=>z) ?_ ?_
     ·refine ab.seq (ab.aa ?_)
      refine Oc om (Oc om (Oc (a8 rfl rfl) (Oc om ?_)))
      refine c6 (decide (start_39 < m0)) [] (fun g51=>trivial) (fun g51=>om) (c6 (decide (start_39 < m0)) [] (fun g52=>by exact trivial) (fun g52=>om) (c6 (decide (start_39 < m0)) [182,183] (fun g53=>by exact ⟨g53,g53,trivial⟩) (fun g53=>a8 rfl rfl) (ae.kg h50 rfl (aO (fun e=>e) rfl rfl rfl rfl) (fun x_49 h50=>?_))))
      refine ae.af ⟨[(0,_),(1,_),(2,_),(3,_),(4,_),(18,_),(20,_),(24,_),(185,B x_49)],[(1,_)]⟩ rfl (ab.ite h50 rfl (fun _ h50=>?_) (fun _ h50=>?_))
      ·refine ab.aa (Oc om (Oc om (Oc om (Oc om (Oc om ?_)))))
       refine ae.k9 1 rfl ?_
       obtain ⟨x_50,e54,h50⟩:=aF h50
       refine Oc (bh (own_a:=[(1,_)]) (iC e54) goes70 rfl ⟨rfl,trivial⟩ rfl rfl) (ae.lO 1 rfl (ae.nil ?_))
       exact Fin.join [0,1,3,4,18,20,24] [1] x_50 (Option.some.inj h50) rfl
      ·refine ab.skip ?_
       exact Fin.join [0,1,3,4,18,20,24] [1] data0 (Option.some.inj h50) rfl
     ·rintro data_48 hv
      subst v49
      obtain ⟨v55,h56,h⟩:=aF h
      refine ab.bS (v:=v55) (fun (data_51:List Int)=>⟨[(0,.b (.row 1)),(3,I b0),(4,.b (.one (.ct 34 [CP.rp [.sl 1 (cmp0.map eI)]]))),(18,I (IntKind.i64.wrap (x_35 / 2))),(24,I (IntKind.i64.wrap (x_36 - start_39)))],[(1,.row 3 1 (data_51.map eI))]⟩) (fun z=>z) ?_ ?_
      ·refine ab.seq (ab.aa ?_)
       refine Oc om (Oc om (Oc (a8 rfl rfl) (Oc om ?_)))
       refine c6 (decide (a0 < start_39)) [] (fun g57=>trivial) (fun g57=>om) (c6 (decide (a0 < start_39)) [] (fun g58=>by exact trivial) (fun g58=>om) (c6 (decide (a0 < start_39)) [196,197] (fun g59=>by exact ⟨g59,g59,trivial⟩) (fun g59=>a8 rfl rfl) (ae.kg h56 rfl (aO (fun e=>e) rfl rfl rfl rfl) (fun x_52 h56=>?_))))
       refine ae.af ⟨[(0,_),(1,_),(3,_),(4,_),(18,_),(20,_),(24,_),(199,B x_52)],[(1,_)]⟩ rfl (ab.ite h56 rfl (fun _ h56=>?_) (fun _ h56=>?_))
       ·refine ab.aa (Oc om (Oc om (Oc om (Oc om (Oc om ?_)))))
        refine ae.k9 1 rfl ?_
        obtain ⟨x_53,e60,h56⟩:=aF h56
        refine Oc (bh (own_a:=[(1,_)]) (ih e60) po rfl ⟨rfl,trivial⟩ rfl rfl) (ae.lO 1 rfl (ae.nil ?_))
        exact Fin.join [0,3,4,18,24] [1] x_53 (Option.some.inj h56) rfl
       ·refine ab.skip ?_
        exact Fin.join [0,3,4,18,24] [1] data_48 (Option.some.inj h56) rfl
      ·rintro data_51 hv
       subst v55
       refine ab.seq (ab.aa ?_)
       refine Oc om (Oc om ?_)
       refine ae.kg h rfl (a8 rfl rfl) (fun x_54 h=>?_)
       refine Oc om (c6 x_54 [] (fun g61=>by exact trivial) (fun g61=>om) (c6 x_54 [] (fun g62=>by exact trivial) (fun g62=>om) (c6 x_54 [210,211] (fun g63=>by exact ⟨g63,g63,trivial⟩) (fun g63=>a8 rfl rfl) (Oc (aO (fun e=>e) rfl rfl rfl rfl) (ae.af ⟨[(0,_),(3,_),(4,_),(18,_),(24,_),(213,B (x_54 && (decide ((IntKind.i64.wrap (x_36 - start_39)) < b0))))],[(1,_)]⟩ rfl ?_)))))
       refine ab.ite h rfl (fun _ h=>?_) (fun _ h=>?_)
       ·refine ab.aa (Oc om (Oc om (Oc om (Oc om (Oc om ?_)))))
        refine ae.k9 1 rfl ?_
        obtain ⟨x_55,e64,h⟩:=aF h
        refine Oc (bh (own_a:=[(1,_)]) (ih e64) po rfl ⟨rfl,trivial⟩ rfl rfl) (ae.lO 1 rfl (ae.nil ?_))
        obtain rfl:=Option.some.inj h
        refine Fin.ag ⟨[],[(1,.row 3 1 (x_55.map eI))]⟩ rfl (Fin.k9 1 rfl (Fin.ag ⟨[],[(1,.cR 3 1 (x_55.map eI))]⟩ rfl ?_))
        exact Fin.result [] (.inr rfl) rfl (.nil) ⟨rfl,rfl⟩
       ·refine ab.skip ?_
        obtain rfl:=Option.some.inj h
        refine Fin.ag ⟨[],[(1,_)]⟩ rfl (Fin.k9 1 rfl (Fin.ag ⟨[],[(1,.cR 3 1 (data_51.map eI))]⟩ rfl ?_))
        exact Fin.result [] (.inr rfl) rfl (.nil) ⟨rfl,rfl⟩
theorem eH {F:Nat} {a0:Int} {m0:Int} {b0:Int} {cmp0:List Int} {data0:List Int} {r:(List Int)} (h:dP F a0 m0 b0 cmp0 data0 = some r):ar Try.prog [] 58 [(1,.cR 3 1 (data0.map eI))] [.row 1,.one (.i a0),.one (.i m0),.one (.i b0),.one (.ct 34 [CP.rp [.sl 1 (cmp0.map eI)]])] (Is [(1,.cR 3 1 (r.map eI))] (.fi [])):=gH F h
def ey (F:Nat) (n0:Int) (cmp0:List Int) (data0:List Int):Option (List Int) :=
 Option.bind (iter F (mE fun data_3 a_4 b_5=>if (decide (b_5 ≤ n0)) = true then ((cy F a_4 b_5 cmp0 data_3).bind fun x_8=>some (.inl (x_8,b_5,IntKind.i64.wrap (b_5 + 20)))) else (some (.inr (data_3,a_4)))) (data0,0,20)) (cr fun data_1 a_2=>(cy F a_2 n0 cmp0 data_1).bind fun x_9=>Option.bind (iter F (cr fun data_10 blockSize_11=>if (decide (blockSize_11 < n0)) = true then (Option.bind (iter F (mE fun data_15 a_16 b_17=>if (decide (b_17 ≤ n0)) = true then (fM (IntKind.i64.wrap (a_16 + blockSize_11)) fun x_20=>(dP F a_16 x_20 b_17 cmp0 data_15).bind fun x_21=>fM (IntKind.i64.wrap (b_17 + (IntKind.i64.wrap (2 * blockSize_11)))) fun x_22=>some (.inl (x_21,b_17,x_22))) else (some (.inr (data_15,a_16)))) (data_10,0,IntKind.i64.wrap (2 * blockSize_11))) (cr fun data_13 a_14=>Option.bind (fM (IntKind.i64.wrap (a_14 + blockSize_11)) fun x_24=>if (decide (x_24 < n0)) = true then ((dP F a_14 x_24 n0 cmp0 data_13).bind fun x_25=>some x_25) else (some data_13)) (fun data_23=>some (.inl (data_23,IntKind.i64.wrap (blockSize_11 * 2)))))) else (some (.inr data_10))) (x_9,20)) (fun y_12=>some y_12))
theorem iB {F:Nat} {n0:Int} {cmp0:List Int} {data0:List Int} {r:(List Int)} (h:ey F n0 cmp0 data0 = some r):ar Try.prog [] 51 [(1,.cR 3 1 (data0.map eI))] [.row 1,.one (.i n0),.one (.ct 34 [CP.rp [.sl 1 (cmp0.map eI)]])] (Is [(1,.cR 3 1 (r.map eI))] (.fi [])):=by
 unfold ey at h
 refine ar.intro 63 Try.func51 Try.ntmps51 rfl (by simp) fun E=>?_
 show ab _ E ⟨63,[1],[1],[]⟩ _ ⟨[(0,.b (.row 1)),(1,I n0),(2,.b (.one (.ct 34 [CP.rp [.sl 1 (cmp0.map eI)]])))],[(1,.cR 3 1 (data0.map eI))]⟩ _
 refine ab.lO 1 rfl (ab.seq (ab.aa ?_))
 refine Oc oa (ae.af ⟨[(0,.b (.row 1)),(1,I n0),(2,.b (.one (.ct 34 [CP.rp [.sl 1 (cmp0.map eI)]]))),(6,I 20)],[(1,.row 3 1 (data0.map eI))]⟩ rfl (ab.seq (ab.aa ?_)))
 refine Oc om (Oc oa (Oc oa ?_))
 refine ae.af ⟨[(0,_),(1,_),(2,_),(6,_),(7,I 0),(8,I 20)],[(1,_)]⟩ rfl ?_
 obtain ⟨v1,h2,h⟩:=aF h
 refine ab.bS (v:=v1) (cr fun (data_1:List Int) (a_2:Int)=>⟨[(0,.b (.row 1)),(1,I n0),(2,.b (.one (.ct 34 [CP.rp [.sl 1 (cmp0.map eI)]]))),(6,I 20),(7,I a_2)],[(1,.row 3 1 (data_1.map eI))]⟩) (fun z=>z) ?_ ?_
 ·refine ab.block (ab.bZ h2 (mE fun (data_3:List Int) (a_4:Int) (b_5:Int)=>⟨[(0,.b (.row 1)),(1,I n0),(2,.b (.one (.ct 34 [CP.rp [.sl 1 (cmp0.map eI)]]))),(6,I 20),(7,I a_4),(8,I b_5)],[(1,.row 3 1 (data_3.map eI))]⟩) [0,1,2,6,7,8] [1] rfl ?_)
  rintro ⟨data_3,a_4,b_5⟩ o3 h4 hy5
  refine ab.seq (ab.seq (ab.aa ?_))
  refine Oc om (Oc om (Oc (mK rfl rfl) ?_))
  refine ae.af ⟨[(0,_),(1,_),(2,_),(6,_),(7,_),(8,_),(13,B (decide (b_5 ≤ n0)))],[(1,_)]⟩ rfl (ab.ite h4 rfl (fun _ h4=>?_) (fun _ h4=>?_))
  ·refine ab.skip (Fin.ag ⟨[(0,_),(1,_),(2,_),(6,_),(7,_),(8,_)],[(1,_)]⟩ rfl (Fin.then (ab.block (ab.seq (ab.aa ?_)))))
   refine Oc om (Oc om (Oc om (Oc om ?_)))
   refine ae.k9 1 rfl ?_
   obtain ⟨x_8,e6,h4⟩:=aF h4
   refine Oc (bh (own_a:=[(1,_)]) (dM e6) ti rfl ⟨rfl,trivial⟩ rfl rfl) (ae.lO 1 rfl (ae.af ⟨[(0,_),(1,_),(2,_),(6,_),(8,_)],[(1,.row 3 1 (x_8.map eI))]⟩ rfl (ab.seq (ab.aa ?_))))
   refine Oc om (Oc oa ?_)
   refine ae.af ⟨[(0,_),(1,_),(2,_),(6,_),(7,I b_5),(8,_)],[(1,_)]⟩ rfl (ab.aa (Oc om (Oc om (Oc (aV rfl rfl) (Oc oa ?_)))))
   refine ae.nil (Fin.ah ?_)
   exact Fin.bx [0,1,2,6,7,8] [1] (x_8,b_5,IntKind.i64.wrap (b_5 + 20)) (Option.some.inj h4) rfl
  ·refine ab.exit (Fin.ai ?_)
   obtain rfl:=hy5 _ (Option.some.inj h4).symm
   refine Fin.ai (Fin.ay ?_)
   exact Fin.join [0,1,2,6,7] [1] (data_3,a_4) rfl rfl
 ·rintro ⟨data_1,a_2⟩ hv
  subst v1
  refine ab.seq (ab.aa ?_)
  refine Oc om (Oc om (Oc om (Oc om ?_)))
  refine ae.k9 1 rfl ?_
  obtain ⟨x_9,e7,h⟩:=aF h
  refine Oc (bh (own_a:=[(1,_)]) (dM e7) ti rfl ⟨rfl,trivial⟩ rfl rfl) (ae.lO 1 rfl (ae.af ⟨[(0,_),(1,_),(2,_),(6,_)],[(1,.row 3 1 (x_9.map eI))]⟩ rfl (ab.block ?_)))
  obtain ⟨v8,h9,h⟩:=aF h
  refine ab.bZ h9 (cr fun (data_10:List Int) (blockSize_11:Int)=>⟨[(0,.b (.row 1)),(1,I n0),(2,.b (.one (.ct 34 [CP.rp [.sl 1 (cmp0.map eI)]]))),(6,I blockSize_11)],[(1,.row 3 1 (data_10.map eI))]⟩) [0,1,2,6] [1] rfl ?_
  rintro ⟨data_10,blockSize_11⟩ o10 h11 hy12
  refine ab.seq (ab.seq (ab.aa ?_))
  refine Oc om (Oc om (Oc (a8 rfl rfl) ?_))
  refine ae.af ⟨[(0,_),(1,_),(2,_),(6,_),(30,B (decide (blockSize_11 < n0)))],[(1,_)]⟩ rfl (ab.ite h11 rfl (fun _ h11=>?_) (fun _ h11=>?_))
  ·refine ab.skip (Fin.ag ⟨[(0,_),(1,_),(2,_),(6,_)],[(1,_)]⟩ rfl (Fin.then (ab.block (ab.seq (ab.aa ?_)))))
   refine Oc om (Oc (qP rfl rfl) (Oc oa (Oc oa ?_)))
   refine ae.af ⟨[(0,_),(1,_),(2,_),(6,_),(7,I 0),(8,I (IntKind.i64.wrap (2 * blockSize_11)))],[(1,_)]⟩ rfl ?_
   obtain ⟨v13,h14,h11⟩:=aF h11
   refine ab.bS (v:=v13) (cr fun (data_13:List Int) (a_14:Int)=>⟨[(0,.b (.row 1)),(1,I n0),(2,.b (.one (.ct 34 [CP.rp [.sl 1 (cmp0.map eI)]]))),(6,I blockSize_11),(7,I a_14)],[(1,.row 3 1 (data_13.map eI))]⟩) (fun z=>z) ?_ ?_
   ·refine ab.block (ab.bZ h14 (mE fun (data_15:List Int) (a_16:Int) (b_17:Int)=>⟨[(0,.b (.row 1)),(1,I n0),(2,.b (.one (.ct 34 [CP.rp [.sl 1 (cmp0.map eI)]]))),(6,I blockSize_11),(7,I a_16),(8,I b_17)],[(1,.row 3 1 (data_15.map eI))]⟩) [0,1,2,6,7,8] [1] rfl ?_)
    rintro ⟨data_15,a_16,b_17⟩ o15 h16 hy17
    refine ab.seq (ab.seq (ab.aa ?_))
    refine Oc om (Oc om (Oc (mK rfl rfl) ?_))
    refine ae.af ⟨[(0,_),(1,_),(2,_),(6,_),(7,_),(8,_),(35,B (decide (b_17 ≤ n0)))],[(1,_)]⟩ rfl (ab.ite h16 rfl (fun _ h16=>?_) (fun _ h16=>?_))
    ·refine ab.skip (Fin.ag ⟨[(0,_),(1,_),(2,_),(6,_),(7,_),(8,_)],[(1,_)]⟩ rfl (Fin.then (ab.block (ab.seq (ab.aa ?_)))))
     refine Oc om (Oc om (Oc om (Oc om ?_)))
     refine ae.jc .i64 h16 rfl (aV rfl rfl) (fun x_20 h16=>?_)
     refine Oc om (Oc om ?_)
     refine ae.k9 1 rfl ?_
     obtain ⟨x_21,e18,h16⟩:=aF h16
     refine Oc (bh (own_a:=[(1,_)]) (eH e18) po rfl ⟨rfl,trivial⟩ rfl rfl) (ae.lO 1 rfl (ae.af ⟨[(0,_),(1,_),(2,_),(6,_),(8,_)],[(1,.row 3 1 (x_21.map eI))]⟩ rfl (ab.seq (ab.aa ?_))))
     refine Oc om (Oc oa ?_)
     refine ae.af ⟨[(0,_),(1,_),(2,_),(6,_),(7,I b_17),(8,_)],[(1,_)]⟩ rfl (ab.aa (Oc om (Oc om (Oc (qP rfl rfl) ?_))))
     refine ae.jc .i64 h16 rfl (aV rfl rfl) (fun x_22 h16=>?_)
     refine Oc oa (ae.nil (Fin.ah ?_))
     exact Fin.bx [0,1,2,6,7,8] [1] (x_21,b_17,x_22) (Option.some.inj h16) rfl
    ·refine ab.exit (Fin.ai ?_)
     obtain rfl:=hy17 _ (Option.some.inj h16).symm
     refine Fin.ai (Fin.ay ?_)
     exact Fin.join [0,1,2,6,7] [1] (data_15,a_16) rfl rfl
   ·rintro ⟨data_13,a_14⟩ hv
    subst v13
    obtain ⟨v19,h20,h11⟩:=aF h11
    refine ab.bS (v:=v19) (fun (data_23:List Int)=>⟨[(0,.b (.row 1)),(1,I n0),(2,.b (.one (.ct 34 [CP.rp [.sl 1 (cmp0.map eI)]]))),(6,I blockSize_11)],[(1,.row 3 1 (data_23.map eI))]⟩) (fun z=>z) ?_ ?_
    ·refine ab.seq (ab.aa ?_)
     refine Oc om (Oc om ?_)
     refine ae.jc .i64 h20 rfl (aV rfl rfl) (fun x_24 h20=>?_)
     refine Oc oa (ae.af ⟨[(0,_),(1,_),(2,_),(6,_),(7,_),(9,I x_24)],[(1,_)]⟩ rfl (ab.seq (ab.aa ?_)))
     refine Oc om (Oc om (Oc (a8 rfl rfl) ?_))
     refine ae.af ⟨[(0,_),(1,_),(2,_),(6,_),(7,_),(9,_),(54,B (decide (x_24 < n0)))],[(1,_)]⟩ rfl (ab.ite h20 rfl (fun _ h20=>?_) (fun _ h20=>?_))
     ·refine ab.aa (Oc om (Oc om (Oc om (Oc om (Oc om ?_)))))
      refine ae.k9 1 rfl ?_
      obtain ⟨x_25,e21,h20⟩:=aF h20
      refine Oc (bh (own_a:=[(1,_)]) (eH e21) po rfl ⟨rfl,trivial⟩ rfl rfl) (ae.lO 1 rfl (ae.nil ?_))
      exact Fin.join [0,1,2,6] [1] x_25 (Option.some.inj h20) rfl
     ·refine ab.skip ?_
      exact Fin.join [0,1,2,6] [1] data_13 (Option.some.inj h20) rfl
    ·rintro data_23 hv
     subst v19
     refine ab.aa (Oc om (Oc (qP rfl rfl) (Oc oa ?_)))
     refine ae.nil (Fin.ah ?_)
     exact Fin.bx [0,1,2,6] [1] (data_23,IntKind.i64.wrap (blockSize_11 * 2)) (Option.some.inj h11) rfl
  ·refine ab.exit (Fin.ai ?_)
   obtain rfl:=hy12 _ (Option.some.inj h11).symm
   refine Fin.ai (Fin.ay ?_)
   obtain rfl:=Option.some.inj h
   refine Fin.ag ⟨[],[(1,_)]⟩ rfl (Fin.k9 1 rfl (Fin.ag ⟨[],[(1,.cR 3 1 (data_10.map eI))]⟩ rfl ?_))
   exact Fin.result [] (.inr rfl) rfl (.nil) ⟨rfl,rfl⟩
def dY (F:Nat) (cmp0:List Int) (x0:List Int):Option (List Int) :=
 (ey F (x0.length:Int) cmp0 x0).bind fun x_1=>some x_1
theorem iy {F:Nat} {cmp0:List Int} {x0:List Int} {r:(List Int)} (h:dY F cmp0 x0 = some r):ar Try.prog [] 33 [(1,.cR 3 1 (x0.map eI))] [.row 1,.one (.ct 34 [CP.rp [.sl 1 (cmp0.map eI)]])] (Is [(1,.cR 3 1 (r.map eI))] (.fi [])):=by
 unfold dY at h
 refine ar.intro 9 Try.func33 Try.ntmps33 rfl (by simp) fun E=>?_
 show ab _ E ⟨9,[1],[1],[]⟩ _ ⟨[(0,.b (.row 1)),(1,.b (.one (.ct 34 [CP.rp [.sl 1 (cmp0.map eI)]])))],[(1,.cR 3 1 (x0.map eI))]⟩ _
 refine ab.lO 1 rfl (ab.aa (Oc om (Oc om (Oc (dX fO rfl rfl (List.length_map _)) (Oc om ?_)))))
 refine ae.k9 1 rfl ?_
 obtain ⟨x_1,e1,h⟩:=aF h
 refine Oc (bh (own_a:=[(1,_)]) (iB e1) goes51 rfl ⟨rfl,trivial⟩ rfl rfl) (ae.lO 1 rfl (ae.nil ?_))
 obtain rfl:=Option.some.inj h
 refine Fin.ag ⟨[],[(1,.row 3 1 (x_1.map eI))]⟩ rfl (Fin.k9 1 rfl (Fin.ag ⟨[],[(1,.cR 3 1 (x_1.map eI))]⟩ rfl ?_))
 exact Fin.result [] (.inr rfl) rfl (.nil) ⟨rfl,rfl⟩
def fX (F:Nat) (fixed0:List Bool) (links0:List A2):Option ((List Int) × Int) :=
 Option.bind (fv F fixed0 links0) (cr fun x_1 x_2=>if (decide (x_2 ≠ 0)) = true then (some ([],x_2)) else (Option.bind (fe F fixed0 links0) (cr fun x_3 x_4=>Option.bind (iter F (cr fun out_6 x_7=>if (decide (x_7 < (x_3.length:Int))) = true then ((aM x_3 x_7).bind fun x_9=>(dY F x_1 x_9).bind fun x_10=>(dF out_6 x_10).bind fun x_11=>some (.inl (x_11,IntKind.i64.wrap (x_7 + 1)))) else (some (.inr out_6))) ([],0)) (fun out_5=>some (out_5,0)))))
theorem mC {F:Nat} {fixed0:List Bool} {links0:List A2} {r:(List Int) × Int} (h:fX F fixed0 links0 = some r):ar Try.prog [] 14 [] [.one (.sl 1 (fixed0.map eB)),.one (.sl 2 (links0.map (bX .i64)))] (Is [] (.fi [.one (.sl 1 (r.1.map eI)),.one (.i r.2)])):=by
 unfold fX at h
 refine ar.intro 42 Try.func14 Try.ntmps14 rfl (by simp) fun E=>?_
 show ab _ E ⟨42,[],[],[]⟩ _ ⟨[(0,.b (.one (.sl 1 (fixed0.map eB)))),(1,.b (.one (.sl 2 (links0.map (bX .i64)))))],[]⟩ _
 refine ab.seq (ab.aa ?_)
 refine Oc oa (Oc oa ?_)
 refine ae.af ⟨[(0,.b (.one (.sl 1 (fixed0.map eB)))),(1,.b (.one (.sl 2 (links0.map (bX .i64)))))],[]⟩ rfl (ab.seq (ab.aa ?_))
 refine Oc om (Oc om ?_)
 obtain ⟨⟨x_1,x_2⟩,e1,h⟩:=aF h
 refine Oc (bh (iw 101 e1) tB rfl trivial rfl rfl) (Oc om (Oc (aG rfl rfl) ?_))
 refine ae.ag ⟨[(0,_),(1,_),(13,.fi [.row 101,.one (.i x_2)]),(17,.b (.row 101))],[(101,.row 3 1 (x_1.map eI))]⟩ rfl (Oc (aG rfl rfl) (Oc (bf (k:=102) cJ rfl) ?_))
 refine ae.bE 101 rfl (Oc (gE aS rfl rfl rfl (Nat.le_of_ble_eq_true rfl) rfl) (ae.gB 102 rfl (Oc oa (ae.af ⟨[(0,.b (.one (.sl 1 (fixed0.map eB)))),(1,.b (.one (.sl 2 (links0.map (bX .i64))))),(6,.b (.cI [.sl 1 (x_1.map eI)])),(7,I x_2)],[]⟩ rfl (ab.seq (ab.seq (ab.aa ?_)))))))
 refine Oc om (Oc (mJ rfl rfl) ?_)
 refine ae.af ⟨[(0,_),(1,_),(6,_),(7,_),(20,B (decide (x_2 ≠ 0)))],[]⟩ rfl (ab.ite h rfl (fun _ h=>?_) (fun _ h=>?_))
 ·refine ab.seq (ab.aa ?_)
  refine Oc om (Oc oa (Oc oa ?_))
  refine ae.af ⟨[(4,.b (.one (.nil))),(5,I x_2)],[]⟩ rfl (ab.ret (Fin.aR ?_))
  obtain rfl:=Option.some.inj h
  refine Fin.ag ⟨[(4,_),(5,_)],[]⟩ rfl (Fin.iH 4 1 rfl (by decide) (Fin.aP [.one (.sl 1 ([].map eI)),.one (.i x_2)] (.inl rfl) rfl (.cons (.tmp rfl) (.cons (.tmp rfl) .nil)) ⟨rfl,rfl⟩))
 ·refine ab.skip (Fin.ag ⟨[(0,_),(1,_),(6,_)],[]⟩ rfl (Fin.then (ab.seq (ab.aa ?_))))
  refine Oc om (Oc om ?_)
  obtain ⟨⟨x_3,x_4⟩,e2,h⟩:=aF h
  refine Oc (bh (own_a:=[]) ((lf e2).sw 51 103) tC rfl trivial rfl rfl) (Oc om (Oc (aG rfl rfl) ?_))
  refine ae.ag ⟨[(6,_),(22,.fi [.row 103,.one (.i x_4)]),(26,.b (.row 103))],[(103,.rr 30 3 1 .none (x_3.map (eR eI)))]⟩ rfl (Oc (aG rfl rfl) (Oc oa (Oc oa ?_)))
  refine ae.af ⟨[(6,_),(8,.b (.row 103))],[(103,_)]⟩ rfl (ab.seq (ab.aa ?_))
  refine Oc oa (ae.af ⟨[(6,_),(8,_),(10,.b (.one (.nil)))],[(103,_)]⟩ rfl ?_)
  obtain ⟨v3,h4,h⟩:=aF h
  refine ab.bS (v:=v3) (fun (out_5:List Int)=>⟨[(10,.b (.row 105))],[(105,.row 3 1 (out_5.map eI))]⟩) (fun z=>z) ?_ ?_
  ·refine ab.seq (ab.aa ?_)
   refine Oc om (Oc (lK gg rfl rfl (List.length_map _)) (Oc om ?_))
   refine ae.af ⟨[(6,_),(10,_),(28,.b (.row 103)),(29,I (x_3.length:Int)),(30,I 0)],[(103,_)]⟩ rfl (ab.block (ab.de 10 105 1 3 rfl (by decide) rfl (ab.toBelow 103 rfl (ab.bZ h4 (cr fun (out_6:List Int) (x_7:Int)=>⟨[(6,.b (.cI [.sl 1 (x_1.map eI)])),(10,.b (.row 105)),(28,.b (.row 103)),(29,I (x_3.length:Int)),(30,I x_7)],[(103,.rr 30 3 1 (.below (x_7:Int).toNat) (x_3.map (eR eI))),(105,.row 3 1 (out_6.map eI))]⟩) [6,10,28,29,30] [103,105] rfl ?_))))
   rintro ⟨out_6,x_7⟩ o5 h6 hy7
   refine ab.seq (ab.aa ?_)
   refine Oc (a8 rfl rfl) (ae.af ⟨[(6,_),(10,_),(28,_),(29,_),(30,_),(31,B (decide (x_7 < (x_3.length:Int))))],[(103,_),(105,_)]⟩ rfl (ab.seq (ab.ite h6 rfl (fun _ h6=>?_) (fun _ h6=>?_))))
   ·refine ab.skip (Fin.ag ⟨[(6,_),(10,_),(28,_),(29,_),(30,_)],[(103,_),(105,_)]⟩ rfl (Fin.then (ab.seq (ab.block (ab.seq (ab.aa ?_))))))
    obtain ⟨x_9,e8,h6⟩:=aF h6
    refine Oc (dK bP (aE e8) (aY e8) rfl rfl rfl rfl) (Oc (ra (ii:=x_7) 106 aS rfl rfl rfl (aE e8) (aC (e:=eR eI) e8) (by decide) rfl rfl) (Oc oa ?_))
    refine ae.af ⟨[(6,_),(10,_),(12,.b (.row 106)),(28,_),(29,_),(30,_)],[(103,.rr 30 3 1 (.below (IntKind.i64.wrap (x_7 + 1):Int).toNat) (x_3.map (eR eI))),(105,_),(106,.row 3 1 (x_9.map eI))]⟩ rfl (ab.seq (ab.aa ?_))
    refine Oc om (Oc (jN rfl) ?_)
    refine ae.k9 106 rfl ?_
    obtain ⟨x_10,e9,h6⟩:=aF h6
    refine Oc (bh (own_a:=[(106,_)]) ((iy e9).sw 1 106) goes33 rfl ⟨rfl,trivial⟩ rfl rfl) (ae.lO 106 rfl (ae.af ⟨[(6,_),(10,_),(12,_),(28,_),(29,_),(30,_)],[(103,_),(105,_),(106,.row 3 1 (x_10.map eI))]⟩ rfl (ab.aa (Oc om (Oc om ?_)))))
    obtain ⟨x_11,e10,h6⟩:=aF h6
    refine Oc (bu ak (dy e10) (dx e10) rfl rfl rfl rfl (bT e10) rfl) (Oc oa ?_)
    refine ae.nil (Fin.ah (Fin.ag ⟨[(6,_),(10,_),(28,_),(29,_),(30,_)],[(103,_),(105,.row 3 1 (x_11.map eI))]⟩ rfl (Fin.then (ab.aa ?_))))
    refine Oc (aV rfl rfl) (Oc om ?_)
    refine ae.nil ?_
    exact Fin.bx [6,10,28,29,30] [103,105] (x_11,IntKind.i64.wrap (x_7 + 1)) (Option.some.inj h6) rfl
   ·refine ab.exit (Fin.ai ?_)
    obtain rfl:=hy7 _ (Option.some.inj h6).symm
    refine Fin.ai (Fin.ay ?_)
    exact Fin.join [10] [105] out_6 rfl rfl
  ·rintro out_5 hv
   subst v3
   refine ab.seq (ab.aa ?_)
   refine Oc om (Oc oa (Oc oa ?_))
   refine ae.af ⟨[(4,.b (.row 105)),(5,I 0)],[(105,_)]⟩ rfl (ab.ret ?_)
   obtain rfl:=Option.some.inj h
   refine Fin.ag ⟨[(4,.b (.row 105)),(5,I 0)],[(105,.row 3 1 (out_5.map eI))]⟩ rfl (Fin.bE 105 rfl (Fin.aP [.one (.sl 1 (out_5.map eI)),.one (.i 0)] (.inl rfl) rfl (.cons (.tmp rfl) (.cons (.tmp rfl) .nil)) ⟨rfl,rfl⟩))
def cQ (F:Nat) (fixed0:List Bool) (links0:List A2):Option ((List Int) × Int) :=
 (bM F fixed0 links0).bind fun x_1=>if (!x_1) = true then (some ([],1)) else (Option.bind (dg F fixed0 links0) (cr fun x_2 x_3=>some (x_3,0)))
theorem ix (kr0:Nat) {F:Nat} {fixed0:List Bool} {links0:List A2} {r:(List Int) × Int} (h:cQ F fixed0 links0 = some r):ar Try.prog [] 20 [] [.one (.sl 1 (fixed0.map eB)),.one (.sl 2 (links0.map (bX .i64)))] (Is [(kr0,.row 3 1 (r.1.map eI))] (.fi [.row kr0,.one (.i r.2)])):=by
 unfold cQ at h
 refine ar.intro 19 Try.func20 Try.ntmps20 rfl (by simp) fun E=>?_
 show ab _ E ⟨19,[],[],[]⟩ _ ⟨[(0,.b (.one (.sl 1 (fixed0.map eB)))),(1,.b (.one (.sl 2 (links0.map (bX .i64)))))],[]⟩ _
 refine ab.seq (ab.aa ?_)
 refine Oc oa (Oc oa ?_)
 refine ae.af ⟨[(0,.b (.one (.sl 1 (fixed0.map eB)))),(1,.b (.one (.sl 2 (links0.map (bX .i64)))))],[]⟩ rfl (ab.seq (ab.seq (ab.aa ?_)))
 refine Oc om (Oc om ?_)
 obtain ⟨x_1,e1,h⟩:=aF h
 refine Oc (aJ (cM e1) mR rfl rfl) (Oc (c4 rfl) ?_)
 refine ae.af ⟨[(0,_),(1,_),(11,B (!x_1))],[]⟩ rfl (ab.ite h rfl (fun _ h=>?_) (fun _ h=>?_))
 ·refine ab.seq (ab.aa ?_)
  refine Oc oa (Oc oa ?_)
  refine ae.af ⟨[(4,.b (.one (.nil))),(5,I 1)],[]⟩ rfl (ab.ret (Fin.aR ?_))
  obtain rfl:=Option.some.inj h
  refine Fin.ag ⟨[(4,_),(5,_)],[]⟩ rfl (Fin.de 4 101 1 3 rfl (by decide) rfl (Fin.iI 101 kr0 [.row 101,.one (.i 1)] (.inl rfl) rfl (.cons (.tmp rfl) (.cons (.tmp rfl) .nil)) rfl rfl rfl rfl ⟨rfl,rfl⟩))
 ·refine ab.skip (Fin.ag ⟨[(0,_),(1,_)],[]⟩ rfl (Fin.then (ab.seq (ab.aa ?_))))
  refine Oc om (Oc om ?_)
  obtain ⟨⟨x_2,x_3⟩,e2,h⟩:=aF h
  refine Oc (bh (own_a:=[]) (((fC e2).sw 51 102).sw 52 103) qY rfl trivial rfl rfl) (Oc om (Oc (aG rfl rfl) ?_))
  refine ae.ag ⟨[(12,.fi [.xa [.row 102],.row 103]),(16,.b (.xa [.row 102]))],[(102,.mq x_2),(103,.row 3 1 (x_3.map eI))]⟩ rfl (Oc (aG rfl rfl) (Oc (bf (k:=104) je rfl) ?_))
  refine ae.oF 104 rfl (Oc (fK c7 rfl rfl rfl rfl rfl (Nat.le_of_ble_eq_true rfl) rfl) (Oc oa ?_))
  refine ae.af ⟨[(7,.b (.row 103))],[(103,.row 3 1 (x_3.map eI))]⟩ rfl (ab.seq (ab.aa ?_))
  refine Oc om (Oc oa (Oc oa ?_))
  refine ae.af ⟨[(4,.b (.row 103)),(5,I 0)],[(103,_)]⟩ rfl (ab.ret ?_)
  obtain rfl:=Option.some.inj h
  refine Fin.ag ⟨[(4,_),(5,_)],[(103,_)]⟩ rfl (Fin.iI 103 kr0 [.row 103,.one (.i 0)] (.inl rfl) rfl (.cons (.tmp rfl) (.cons (.tmp rfl) .nil)) rfl rfl rfl rfl ⟨rfl,rfl⟩)
def dh (F:Nat):Nat → Int → Int → Int → (List Int) → (List Int) → (List (List jy)) → (List Int) → (List Int) → Option (Int × (List Int) × (List Int) × (List Int) × (List Int))
 | 0,_,_,_,_,_,_,_,_=>none
 | n + 1,n0,by0,v0c,v1c,v2c,v3c,v5c,v6c=>(aM v1c n0).bind fun x_1=>(aM v2c n0).bind fun x_2=>Option.bind (if (decide (0 ≤ by0)) = true then (some 1) else (some 0)) (fun parts_3=>Option.bind ((aM v3c n0).bind fun x_10=>iter F (un7 fun xf0_11 xf0_12 xf0_13 xf0f0_14 xf0f0_15 parts_16 x_17=>if (decide (x_17 < (x_10.length:Int))) = true then (Option.bind ((aM x_10 x_17).bind fun x_30=>if (decide (x_30.pos = by0)) = true then (some (xf0_11,xf0_12,xf0_13,xf0f0_14,xf0f0_15,parts_16)) else ((aM xf0_11 x_30.to).bind fun x_31=>if (decide (0 < x_31)) = true then ((aM xf0_12 n0).bind fun x_32=>(aM xf0_11 x_30.to).bind fun x_33=>(aM xf0_12 n0).bind fun x_34=>some (xf0_11,xf0_12.set (n0:Int).toNat (min x_32 x_33),xf0_13,xf0f0_14,xf0f0_15,parts_16)) else (Option.bind (dh F n x_30.to x_30.pos xf0_13 xf0_11 xf0_12 v3c xf0f0_14 xf0f0_15) (un5 fun x_35 x_36 x_37 x_38 x_39=>(aM x_37 n0).bind fun x_40=>(aM x_37 x_30.to).bind fun x_41=>(aM x_37 n0).bind fun x_42=>Option.bind ((aM (x_37.set (n0:Int).toNat (min x_40 x_41)) x_30.to).bind fun x_44=>(aM x_36 n0).bind fun x_45=>if (decide (x_45 ≤ x_44)) = true then (some (IntKind.i64.wrap (parts_16 + 1))) else (some parts_16)) (fun parts_43=>(aM (x_37.set (n0:Int).toNat (min x_40 x_41)) x_30.to).bind fun x_46=>(aM x_36 n0).bind fun x_47=>if (decide (x_47 < x_46)) = true then ((dF x_38 [x_30.pos]).bind fun x_48=>some (x_36,x_37.set (n0:Int).toNat (min x_40 x_41),x_35,x_48,x_39,parts_43)) else (some (x_36,x_37.set (n0:Int).toNat (min x_40 x_41),x_35,x_38,x_39,parts_43))))))) (un6 fun xf0_24 xf0_25 xf0_26 xf0f0_27 xf0f0_28 parts_29=>some (.inl (xf0_24,xf0_25,xf0_26,xf0f0_27,xf0f0_28,parts_29,IntKind.i64.wrap (x_17 + 1))))) else (some (.inr (xf0f0_15,parts_16,xf0_13,xf0_11,xf0_12,xf0f0_14)))) (v1c.set (n0:Int).toNat (IntKind.i64.wrap (v0c + 1)),v2c.set (n0:Int).toNat (IntKind.i64.wrap (v0c + 1)),IntKind.i64.wrap (v0c + 1),v5c,v6c,parts_3,0)) (un6 fun xf0_4 parts_5 y_6 yf0_7 yf0_8 yf0f0_9=>if (decide (1 < parts_5)) = true then ((dF xf0_4 [n0]).bind fun x_49=>some (y_6,yf0_7,yf0_8,yf0f0_9,x_49)) else (some (y_6,yf0_7,yf0_8,yf0f0_9,xf0_4))))
def jX (F:Nat) (n0:Int) (by0:Int) (v0c:Int) (v1c:List Int) (v2c:List Int) (v3c:List (List jy)) (v5c:List Int) (v6c:List Int):Option (Int × (List Int) × (List Int) × (List Int) × (List Int)):=dh F F n0 by0 v0c v1c v2c v3c v5c v6c
theorem ld {F:Nat}:∀ (n:Nat) {n0:Int} {by0:Int} {v0c:Int} {v1c:List Int} {v2c:List Int} {v3c:List (List jy)} {v5c:List Int} {v6c:List Int} {r:Int × (List Int) × (List Int) × (List Int) × (List Int)} (h:dh F n n0 by0 v0c v1c v2c v3c v5c v6c = some r),ar Try.prog [] 53 [(1,.box 3 [.i v0c]),(2,.ao 30 [.row 3]),(3,.row 3 1 (v1c.map eI)),(4,.ao 30 [.row 5]),(5,.row 3 1 (v2c.map eI)),(6,.box 56 [.sl 1 (v3c.map (eL 2 aX))]),(7,.ao 80 [.gX 53 [] [.ptr 1 0,.ptr 2 0,.ptr 4 0,.ptr 6 0,.ptr 7 0,.ptr 8 0,.ptr 10 0]]),(8,.ao 30 [.row 9]),(9,.row 3 1 (v5c.map eI)),(10,.ao 30 [.row 11]),(11,.row 3 1 (v6c.map eI))] [.one (.i n0),.one (.i by0),.ptr 1 0,.ptr 2 0,.ptr 4 0,.ptr 6 0,.ptr 7 0,.ptr 8 0,.ptr 10 0] (Is [(1,.box 3 [.i r.1]),(2,.ao 30 [.row 3]),(3,.row 3 1 (r.2.1.map eI)),(4,.ao 30 [.row 5]),(5,.row 3 1 (r.2.2.1.map eI)),(6,.box 56 [.sl 1 (v3c.map (eL 2 aX))]),(7,.ao 80 [.gX 53 [] [.ptr 1 0,.ptr 2 0,.ptr 4 0,.ptr 6 0,.ptr 7 0,.ptr 8 0,.ptr 10 0]]),(8,.ao 30 [.row 9]),(9,.row 3 1 (r.2.2.2.1.map eI)),(10,.ao 30 [.row 11]),(11,.row 3 1 (r.2.2.2.2.map eI))] (.fi [])):=by
 intro n
 induction n with
 | zero=>intro n0 by0 v0c v1c v2c v3c v5c v6c r h; simp [dh] at h
 | succ n ih=>
 intro n0 by0 v0c v1c v2c v3c v5c v6c r h
 unfold dh at h
 refine ar.intro 113 Try.func53 Try.ntmps53 rfl (by simp) fun E=>?_
 show ab _ E ⟨113,[1,2,4,6,7,8,10],[1,2,3,4,5,6,7,8,9,10,11],[]⟩ _ ⟨[(0,I n0),(1,I by0),(2,Pt 1 0),(3,Pt 2 0),(4,Pt 4 0),(5,Pt 6 0),(6,Pt 7 0),(7,Pt 8 0),(8,Pt 10 0)],[(1,.box 3 [.i v0c]),(2,.ao 30 [.row 3]),(3,.row 3 1 (v1c.map eI)),(4,.ao 30 [.row 5]),(5,.row 3 1 (v2c.map eI)),(6,.box 56 [.sl 1 (v3c.map (eL 2 aX))]),(7,.ao 80 [.gX 53 [] [.ptr 1 0,.ptr 2 0,.ptr 4 0,.ptr 6 0,.ptr 7 0,.ptr 8 0,.ptr 10 0]]),(8,.ao 30 [.row 9]),(9,.row 3 1 (v5c.map eI)),(10,.ao 30 [.row 11]),(11,.row 3 1 (v6c.map eI))]⟩ _
 refine ab.seq (ab.aa ?_)
 refine Oc (ba aA rfl rfl rfl) (Oc (aV rfl rfl) (Oc (gE aA rfl rfl rfl (Nat.le_of_ble_eq_true rfl) rfl) ?_))
 refine ae.af ⟨[(0,I n0),(1,I by0),(2,Pt 1 0),(3,Pt 2 0),(4,Pt 4 0),(5,Pt 6 0),(6,Pt 7 0),(7,Pt 8 0),(8,Pt 10 0)],[(1,.box 3 [.i (IntKind.i64.wrap (v0c + 1))]),(2,.ao 30 [.row 3]),(3,.row 3 1 (v1c.map eI)),(4,.ao 30 [.row 5]),(5,.row 3 1 (v2c.map eI)),(6,.box 56 [.sl 1 (v3c.map (eL 2 aX))]),(7,.ao 80 [.gX 53 [] [.ptr 1 0,.ptr 2 0,.ptr 4 0,.ptr 6 0,.ptr 7 0,.ptr 8 0,.ptr 10 0]]),(8,.ao 30 [.row 9]),(9,.row 3 1 (v5c.map eI)),(10,.ao 30 [.row 11]),(11,.row 3 1 (v6c.map eI))]⟩ rfl (ab.seq ?_)
 obtain ⟨x_1,e1,h⟩:=aF h
 obtain ⟨x_2,e2,h⟩:=aF h
 refine ab.nH mixed [false,false,false,false,false,false,false,true,false,true] [.b (.row 3),I n0,.b (.row 5),I n0,I (IntKind.i64.wrap (v0c + 1)),I (IntKind.i64.wrap (v0c + 1)),.b (.bG 3 ((n0:Int).toNat * 1)),B true,.b (.bG 5 ((n0:Int).toNat * 1)),B true] [⟨[false,false,false,false,false,false,false,false,false,false],[(0,I n0),(1,I by0),(2,Pt 1 0),(3,Pt 2 0),(4,Pt 4 0),(5,Pt 6 0),(6,Pt 7 0),(7,Pt 8 0),(8,Pt 10 0)],[(1,.box 3 [.i (IntKind.i64.wrap (v0c + 1))]),(2,.ao 30 [.row 3]),(3,.row 3 1 (v1c.map eI)),(4,.ao 30 [.row 5]),(5,.row 3 1 (v2c.map eI)),(6,.box 56 [.sl 1 (v3c.map (eL 2 aX))]),(7,.ao 80 [.gX 53 [] [.ptr 1 0,.ptr 2 0,.ptr 4 0,.ptr 6 0,.ptr 7 0,.ptr 8 0,.ptr 10 0]]),(8,.ao 30 [.row 9]),(9,.row 3 1 (v5c.map eI)),(10,.ao 30 [.row 11]),(11,.row 3 1 (v6c.map eI))],[true,true,true,true,true,true,true,true,true,true],[],[8,9]⟩,⟨[false,false,false,false,false,false,false,true,false,false],[(0,I n0),(1,I by0),(2,Pt 1 0),(3,Pt 2 0),(4,Pt 4 0),(5,Pt 6 0),(6,Pt 7 0),(7,Pt 8 0),(8,Pt 10 0)],[(1,.box 3 [.i (IntKind.i64.wrap (v0c + 1))]),(2,.ao 30 [.row 3]),(3,.row 3 1 ((v1c.set (n0:Int).toNat (IntKind.i64.wrap (v0c + 1))).map eI)),(4,.ao 30 [.row 5]),(5,.row 3 1 (v2c.map eI)),(6,.box 56 [.sl 1 (v3c.map (eL 2 aX))]),(7,.ao 80 [.gX 53 [] [.ptr 1 0,.ptr 2 0,.ptr 4 0,.ptr 6 0,.ptr 7 0,.ptr 8 0,.ptr 10 0]]),(8,.ao 30 [.row 9]),(9,.row 3 1 (v5c.map eI)),(10,.ao 30 [.row 11]),(11,.row 3 1 (v6c.map eI))],[true,true,true,true,true,true,true,true,true,true],[0,1,4,6,7],[]⟩,⟨[false,false,false,false,false,false,false,true,false,true],[(0,I n0),(1,I by0),(2,Pt 1 0),(3,Pt 2 0),(4,Pt 4 0),(5,Pt 6 0),(6,Pt 7 0),(7,Pt 8 0),(8,Pt 10 0)],[(1,.box 3 [.i (IntKind.i64.wrap (v0c + 1))]),(2,.ao 30 [.row 3]),(3,.row 3 1 ((v1c.set (n0:Int).toNat (IntKind.i64.wrap (v0c + 1))).map eI)),(4,.ao 30 [.row 5]),(5,.row 3 1 ((v2c.set (n0:Int).toNat (IntKind.i64.wrap (v0c + 1))).map eI)),(6,.box 56 [.sl 1 (v3c.map (eL 2 aX))]),(7,.ao 80 [.gX 53 [] [.ptr 1 0,.ptr 2 0,.ptr 4 0,.ptr 6 0,.ptr 7 0,.ptr 8 0,.ptr 10 0]]),(8,.ao 30 [.row 9]),(9,.row 3 1 (v5c.map eI)),(10,.ao 30 [.row 11]),(11,.row 3 1 (v6c.map eI))],[true,true,true,true,true,true,true,true,true,true],[0,1,2,3,4,5,6,7,8,9],[]⟩] rfl (⟨by kernel_rfl,⟨⟨.b (.row 3),fun _=>rfl,fun _=>.p (by exact a7 aS rfl rfl rfl)⟩,⟨I n0,fun _=>rfl,fun _=>.p (by exact an rfl)⟩,⟨.b (.row 5),fun _=>rfl,fun _=>.p (by exact a7 aS rfl rfl rfl)⟩,⟨I n0,fun _=>rfl,fun _=>.p (by exact an rfl)⟩,⟨I (IntKind.i64.wrap (v0c + 1)),fun _=>rfl,fun _=>.p (by exact ba aA rfl rfl rfl)⟩,⟨I (IntKind.i64.wrap (v0c + 1)),fun _=>rfl,fun _=>.p (by exact ba aA rfl rfl rfl)⟩,⟨.b (.bG 3 ((n0:Int).toNat * 1)),fun _=>rfl,fun _=>.p (by exact au ak (aE e1) (aY e1) rfl rfl rfl rfl)⟩,⟨_,[],.b (.one .any),rfl,(fun e=>by simp at e),rfl,rfl,fun _=>.gf [1,2,3,4,5,6,7,8,9,10,11] (by exact .p (by exact bV (i:=(n0:Int).toNat) aA rfl rfl rfl rfl (fE e1) (map_set _ _ _ _))) (by exact rfl)⟩,trivial,trivial,trivial⟩,⟨by kernel_rfl,⟨trivial,trivial,⟨.b (.row 5),fun _=>rfl,fun _=>.p (by exact a7 aS rfl rfl rfl)⟩,⟨I n0,fun _=>rfl,fun _=>.p (by exact an rfl)⟩,trivial,⟨I (IntKind.i64.wrap (v0c + 1)),fun _=>rfl,fun _=>.p (by exact ba aA rfl rfl rfl)⟩,trivial,trivial,⟨.b (.bG 5 ((n0:Int).toNat * 1)),fun _=>rfl,fun _=>.p (by exact au ak (aE e2) (aY e2) rfl rfl rfl rfl)⟩,⟨_,[],.b (.one .any),rfl,(fun e=>by simp at e),rfl,rfl,fun _=>.gf [1,2,3,4,5,6,7,8,9,10,11] (by exact .p (by exact bV (i:=(n0:Int).toNat) aA rfl rfl rfl rfl (fE e2) (map_set _ _ _ _))) (by exact rfl)⟩,trivial⟩,⟨by kernel_rfl,⟨trivial,trivial,trivial,trivial,trivial,trivial,trivial,trivial,trivial,trivial,trivial⟩,trivial⟩⟩⟩) rfl rfl rfl [0,1,3,4,5,6,7,8] [1,2,3,4,5,6,7,8,9,10,11] (s':=⟨[(0,_),(1,_),(3,_),(4,_),(5,_),(6,_),(7,_),(8,_)],[(1,_),(2,_),(3,.row 3 1 ((v1c.set (n0:Int).toNat (IntKind.i64.wrap (v0c + 1))).map eI)),(4,_),(5,.row 3 1 ((v2c.set (n0:Int).toNat (IntKind.i64.wrap (v0c + 1))).map eI)),(6,_),(7,_),(8,_),(9,_),(10,_),(11,_)]⟩) rfl ?_
 refine ab.seq (ab.aa ?_)
 refine Oc oa (ae.af ⟨[(0,_),(1,_),(3,_),(4,_),(5,_),(6,_),(7,_),(8,_),(11,I 0)],[(1,_),(2,_),(3,_),(4,_),(5,_),(6,_),(7,_),(8,_),(9,_),(10,_),(11,_)]⟩ rfl ?_)
 obtain ⟨v3,h4,h⟩:=aF h
 refine ab.bS (v:=v3) (fun (parts_3:Int)=>⟨[(0,I n0),(1,I by0),(3,Pt 2 0),(4,Pt 4 0),(5,Pt 6 0),(6,Pt 7 0),(7,Pt 8 0),(8,Pt 10 0),(11,I parts_3)],[(1,.box 3 [.i (IntKind.i64.wrap (v0c + 1))]),(2,.ao 30 [.row 3]),(3,.row 3 1 ((v1c.set (n0:Int).toNat (IntKind.i64.wrap (v0c + 1))).map eI)),(4,.ao 30 [.row 5]),(5,.row 3 1 ((v2c.set (n0:Int).toNat (IntKind.i64.wrap (v0c + 1))).map eI)),(6,.box 56 [.sl 1 (v3c.map (eL 2 aX))]),(7,.ao 80 [.gX 53 [] [.ptr 1 0,.ptr 2 0,.ptr 4 0,.ptr 6 0,.ptr 7 0,.ptr 8 0,.ptr 10 0]]),(8,.ao 30 [.row 9]),(9,.row 3 1 (v5c.map eI)),(10,.ao 30 [.row 11]),(11,.row 3 1 (v6c.map eI))]⟩) (fun z=>z) ?_ ?_
 ·refine ab.seq (ab.aa ?_)
  refine Oc om (Oc (jA rfl rfl) ?_)
  refine ae.af ⟨[(0,_),(1,_),(3,_),(4,_),(5,_),(6,_),(7,_),(8,_),(11,_),(25,B (decide (0 ≤ by0)))],[(1,_),(2,_),(3,_),(4,_),(5,_),(6,_),(7,_),(8,_),(9,_),(10,_),(11,_)]⟩ rfl (ab.ite h4 rfl (fun _ h4=>?_) (fun _ h4=>?_))
  ·refine ab.aa (Oc oa (ae.nil ?_))
   exact Fin.join [0,1,3,4,5,6,7,8,11] [1,2,3,4,5,6,7,8,9,10,11] 1 (Option.some.inj h4) rfl
  ·refine ab.skip ?_
   exact Fin.join [0,1,3,4,5,6,7,8,11] [1,2,3,4,5,6,7,8,9,10,11] 0 (Option.some.inj h4) rfl
 ·rintro parts_3 hv
  subst v3
  obtain ⟨v5,h6,h⟩:=aF h
  refine ab.bS (v:=v5) (un6 fun (xf0_4:List Int) (parts_5:Int) (y_6:Int) (yf0_7:List Int) (yf0_8:List Int) (yf0f0_9:List Int)=>⟨[(0,I n0),(8,Pt 10 0),(11,I parts_5)],[(1,.box 3 [.i y_6]),(2,.ao 30 [.row 3]),(3,.row 3 1 (yf0_7.map eI)),(4,.ao 30 [.row 5]),(5,.row 3 1 (yf0_8.map eI)),(6,.box 56 [.sl 1 (v3c.map (eL 2 aX))]),(7,.ao 80 [.gX 53 [] [.ptr 1 0,.ptr 2 0,.ptr 4 0,.ptr 6 0,.ptr 7 0,.ptr 8 0,.ptr 10 0]]),(8,.ao 30 [.row 9]),(9,.row 3 1 (yf0f0_9.map eI)),(10,.ao 30 [.row 11]),(11,.row 3 1 (xf0_4.map eI))]⟩) (fun z=>z) ?_ ?_
  ·refine ab.seq (ab.aa ?_)
   refine Oc (ba rA rfl rfl rfl) (Oc om ?_)
   obtain ⟨x_10,e7,h6⟩:=aF h6
   refine Oc (az lE (aE e7) (aC (e:=(eL 2 aX)) e7) rfl rfl) (Oc (aw kR rfl rfl) (Oc (aq und58 rfl (List.length_map _)) (Oc om ?_)))
   refine ae.af ⟨[(0,_),(1,_),(3,_),(4,_),(6,_),(7,_),(8,_),(11,_),(29,.b (.one (.sl 2 (x_10.map aX)))),(30,I (x_10.length:Int)),(31,I 0)],[(1,_),(2,_),(3,_),(4,_),(5,_),(6,_),(7,_),(8,_),(9,_),(10,_),(11,_)]⟩ rfl (ab.block (ab.bZ h6 (un7 fun (xf0_11:List Int) (xf0_12:List Int) (xf0_13:Int) (xf0f0_14:List Int) (xf0f0_15:List Int) (parts_16:Int) (x_17:Int)=>⟨[(0,I n0),(1,I by0),(3,Pt 2 0),(4,Pt 4 0),(6,Pt 7 0),(7,Pt 8 0),(8,Pt 10 0),(11,I parts_16),(29,.b (.one (.sl 2 (x_10.map aX)))),(30,I (x_10.length:Int)),(31,I x_17)],[(1,.box 3 [.i xf0_13]),(2,.ao 30 [.row 3]),(3,.row 3 1 (xf0_11.map eI)),(4,.ao 30 [.row 5]),(5,.row 3 1 (xf0_12.map eI)),(6,.box 56 [.sl 1 (v3c.map (eL 2 aX))]),(7,.ao 80 [.gX 53 [] [.ptr 1 0,.ptr 2 0,.ptr 4 0,.ptr 6 0,.ptr 7 0,.ptr 8 0,.ptr 10 0]]),(8,.ao 30 [.row 9]),(9,.row 3 1 (xf0f0_14.map eI)),(10,.ao 30 [.row 11]),(11,.row 3 1 (xf0f0_15.map eI))]⟩) [0,1,3,4,6,7,8,11,29,30,31] [1,2,3,4,5,6,7,8,9,10,11] rfl ?_))
   rintro ⟨xf0_11,xf0_12,xf0_13,xf0f0_14,xf0f0_15,parts_16,x_17⟩ o8 h9 hy10
   refine ab.seq (ab.aa ?_)
   refine Oc (a8 rfl rfl) (ae.af ⟨[(0,_),(1,_),(3,_),(4,_),(6,_),(7,_),(8,_),(11,_),(29,_),(30,_),(31,_),(32,B (decide (x_17 < (x_10.length:Int))))],[(1,_),(2,_),(3,_),(4,_),(5,_),(6,_),(7,_),(8,_),(9,_),(10,_),(11,_)]⟩ rfl (ab.seq (ab.ite h9 rfl (fun _ h9=>?_) (fun _ h9=>?_))))
   ·refine ab.skip (Fin.ag ⟨[(0,_),(1,_),(3,_),(4,_),(6,_),(7,_),(8,_),(11,_),(29,_),(30,_),(31,_)],[(1,_),(2,_),(3,_),(4,_),(5,_),(6,_),(7,_),(8,_),(9,_),(10,_),(11,_)]⟩ rfl (Fin.then ?_))
    obtain ⟨v11,h12,h9⟩:=aF h9
    refine ab.bS (v:=v11) (un6 fun (xf0_24:List Int) (xf0_25:List Int) (xf0_26:Int) (xf0f0_27:List Int) (xf0f0_28:List Int) (parts_29:Int)=>⟨[(0,I n0),(1,I by0),(3,Pt 2 0),(4,Pt 4 0),(6,Pt 7 0),(7,Pt 8 0),(8,Pt 10 0),(11,I parts_29),(29,.b (.one (.sl 2 (x_10.map aX)))),(30,I (x_10.length:Int)),(31,I x_17)],[(1,.box 3 [.i xf0_26]),(2,.ao 30 [.row 3]),(3,.row 3 1 (xf0_24.map eI)),(4,.ao 30 [.row 5]),(5,.row 3 1 (xf0_25.map eI)),(6,.box 56 [.sl 1 (v3c.map (eL 2 aX))]),(7,.ao 80 [.gX 53 [] [.ptr 1 0,.ptr 2 0,.ptr 4 0,.ptr 6 0,.ptr 7 0,.ptr 8 0,.ptr 10 0]]),(8,.ao 30 [.row 9]),(9,.row 3 1 (xf0f0_27.map eI)),(10,.ao 30 [.row 11]),(11,.row 3 1 (xf0f0_28.map eI))]⟩) (fun z=>z) ?_ ?_
    ·refine ab.block (ab.seq (ab.aa ?_))
     obtain ⟨x_30,e13,h12⟩:=aF h12
     refine Oc (az mH (aE e13) (aC (e:=aX) e13) rfl rfl) (Oc (k5 nF rfl rfl rfl) (Oc (bf (k:=101) p6 rfl) (Oc (df nF rfl rfl rfl rfl (Nat.le_of_ble_eq_true rfl) rfl) ?_)))
     refine ae.af ⟨[(0,_),(1,_),(3,_),(4,_),(6,_),(7,_),(8,_),(11,_),(13,Pt 101 0),(29,_),(30,_),(31,_)],[(1,_),(2,_),(3,_),(4,_),(5,_),(6,_),(7,_),(8,_),(9,_),(10,_),(11,_),(101,.box 60 (aX x_30))]⟩ rfl (ab.block (ab.seq (ab.aa ?_)))
     refine Oc (bA mW rfl rfl) (Oc (ba aA rfl rfl rfl) (Oc om (Oc (dN rfl rfl) (Oc oa ?_))))
     refine ae.af ⟨[(0,_),(1,_),(3,_),(4,_),(6,_),(7,_),(8,_),(11,_),(13,_),(29,_),(30,_),(31,_),(81,B (decide (x_30.pos = by0)))],[(1,_),(2,_),(3,_),(4,_),(5,_),(6,_),(7,_),(8,_),(9,_),(10,_),(11,_),(101,_)]⟩ rfl (ab.ite h12 rfl (fun _ h12=>?_) (fun _ h12=>?_))
     ·refine ab.skip (Fin.ah (Fin.ah ?_))
      exact Fin.join [0,1,3,4,6,7,8,11,29,30,31] [1,2,3,4,5,6,7,8,9,10,11] (xf0_11,xf0_12,xf0_13,xf0f0_14,xf0f0_15,parts_16) (Option.some.inj h12) rfl
     ·refine ab.seq (ab.aa ?_)
      refine Oc (a7 aS rfl rfl rfl) (Oc (bA eZ rfl rfl) (Oc (ba aA rfl rfl rfl) ?_))
      obtain ⟨x_31,e14,h12⟩:=aF h12
      refine Oc (au ak (aE e14) (aY e14) rfl rfl rfl rfl) (Oc (aK (i:=(x_30.to:Int).toNat) (f:=0) aA rfl rfl rfl (aC (e:=eI) e14) rfl) (Oc (fg rfl rfl) (Oc oa ?_)))
      refine ae.af ⟨[(0,_),(1,_),(3,_),(4,_),(6,_),(7,_),(8,_),(11,_),(13,_),(29,_),(30,_),(31,_),(86,B (decide (0 < x_31)))],[(1,_),(2,_),(3,_),(4,_),(5,_),(6,_),(7,_),(8,_),(9,_),(10,_),(11,_),(101,_)]⟩ rfl (ab.ite h12 rfl (fun _ h12=>?_) (fun _ h12=>?_))
      ·refine ab.ag ⟨[(0,_),(1,_),(3,_),(4,_),(6,_),(7,_),(8,_),(11,_),(13,_),(29,_),(30,_),(31,_)],[(1,_),(2,_),(3,_),(4,_),(5,_),(6,_),(7,_),(8,_),(9,_),(10,_),(11,_),(101,_)]⟩ rfl ?_
       obtain ⟨x_32,e15,h12⟩:=aF h12
       obtain ⟨x_33,e16,h12⟩:=aF h12
       obtain ⟨x_34,e17,h12⟩:=aF h12
       refine ab.ky mixed 13 [.b (.row 5),I n0,.b (.row 5),I n0,.b (.bG 5 ((n0:Int).toNat * 1)),I x_32,.b (.row 3),Pt 101 0,I x_30.to,.b (.bG 3 ((x_30.to:Int).toNat * 1)),I x_33,I (min x_32 x_33),.b (.bG 5 ((n0:Int).toNat * 1))] [0,1,3,4,6,7,8,11,29,30,31] [1,2,3,4,5,6,7,8,9,10,11] (s':=⟨[(0,_),(1,_),(3,_),(4,_),(6,_),(7,_),(8,_),(11,_),(29,_),(30,_),(31,_)],[(1,_),(2,_),(3,_),(4,_),(5,.row 3 1 ((xf0_12.set (n0:Int).toNat (min x_32 x_33)).map eI)),(6,_),(7,_),(8,_),(9,_),(10,_),(11,_)]⟩) rfl ⟨fun _=>.p (a7 aS rfl rfl rfl),fun _=>.p om,fun _=>.p (a7 aS rfl rfl rfl),fun _=>.p om,fun _=>.p (au ak (aE e15) (aY e15) rfl rfl rfl rfl),fun _=>.p (aK (i:=(n0:Int).toNat) (f:=0) aA rfl rfl rfl (aC (e:=eI) e15) rfl),fun _=>.p (a7 aS rfl rfl rfl),fun _=>.p (bA eZ rfl rfl),fun _=>.p (ba aA rfl rfl rfl),fun _=>.p (au ak (aE e16) (aY e16) rfl rfl rfl rfl),fun _=>.p (aK (i:=(x_30.to:Int).toNat) (f:=0) aA rfl rfl rfl (aC (e:=eI) e16) rfl),fun _=>.p (qQ rfl rfl),fun _=>.p (au ak (aE e17) (aY e17) rfl rfl rfl rfl),trivial⟩ ⟨_,by exact .p (bV (i:=(n0:Int).toNat) aA rfl rfl rfl rfl (fE e17) (map_set _ _ _ _)),rfl⟩ rfl (Fin.ah (Fin.ah ?_))
       exact Fin.join [0,1,3,4,6,7,8,11,29,30,31] [1,2,3,4,5,6,7,8,9,10,11] (xf0_11,xf0_12.set (n0:Int).toNat (min x_32 x_33),xf0_13,xf0f0_14,xf0f0_15,parts_16) (Option.some.inj h12) rfl
      ·refine ab.seq (ab.aa ?_)
       refine Oc (a7 px rfl rfl rfl) (Oc (bA eZ rfl rfl) (Oc (ba aA rfl rfl rfl) (Oc (bA mW rfl rfl) (Oc (ba aA rfl rfl rfl) ?_))))
       obtain ⟨⟨x_35,x_36,x_37,x_38,x_39⟩,e18,h12⟩:=aF h12
       refine Oc (qd (own_a:=[(1,_),(2,_),(3,_),(4,_),(5,_),(6,_),(7,_),(8,_),(9,_),(10,_),(11,_)]) (ar.cast (own2:=[(1,.box 3 [.i xf0_13]),(2,.ao 30 [.row 3]),(3,.row 3 1 (xf0_11.map eI)),(4,.ao 30 [.row 5]),(5,.row 3 1 (xf0_12.map eI)),(6,.box 56 [.sl 1 (v3c.map (eL 2 aX))]),(7,.ao 80 [.gX 53 [] [.ptr 1 0,.ptr 2 0,.ptr 4 0,.ptr 6 0,.ptr 7 0,.ptr 8 0,.ptr 10 0]]),(8,.ao 30 [.row 9]),(9,.row 3 1 (xf0f0_14.map eI)),(10,.ao 30 [.row 11]),(11,.row 3 1 (xf0f0_15.map eI))]) (args2:=[.one (.i x_30.to),.one (.i x_30.pos),.ptr 1 0,.ptr 2 0,.ptr 4 0,.ptr 6 0,.ptr 7 0,.ptr 8 0,.ptr 10 0]) (own2':=[(1,.box 3 [.i x_35]),(2,.ao 30 [.row 3]),(3,.row 3 1 (x_36.map eI)),(4,.ao 30 [.row 5]),(5,.row 3 1 (x_37.map eI)),(6,.box 56 [.sl 1 (v3c.map (eL 2 aX))]),(7,.ao 80 [.gX 53 [] [.ptr 1 0,.ptr 2 0,.ptr 4 0,.ptr 6 0,.ptr 7 0,.ptr 8 0,.ptr 10 0]]),(8,.ao 30 [.row 9]),(9,.row 3 1 (x_38.map eI)),(10,.ao 30 [.row 11]),(11,.row 3 1 (x_39.map eI))]) (res2:=.fi []) (ih e18) (by kernel_rfl) (by kernel_rfl) (by kernel_rfl) (by kernel_rfl)) tj rfl rfl rfl ⟨rfl,rfl,rfl,rfl,rfl,rfl,rfl,rfl,rfl,rfl,rfl,trivial⟩ rfl rfl) (ae.ag ⟨[(0,I n0),(1,I by0),(3,Pt 2 0),(4,Pt 4 0),(6,Pt 7 0),(7,Pt 8 0),(8,Pt 10 0),(11,I parts_16),(13,Pt 101 0),(29,.b (.one (.sl 2 (x_10.map aX)))),(30,I (x_10.length:Int)),(31,I x_17),(35,.b (.gX 53 [] [.ptr 1 0,.ptr 2 0,.ptr 4 0,.ptr 6 0,.ptr 7 0,.ptr 8 0,.ptr 10 0])),(36,Pt 101 0),(37,I x_30.to),(38,Pt 101 1),(39,I x_30.pos),(40,.fi []),(86,B (decide (0 < x_31)))],[(1,.box 3 [.i x_35]),(2,.ao 30 [.row 3]),(3,.row 3 1 (x_36.map eI)),(4,.ao 30 [.row 5]),(5,.row 3 1 (x_37.map eI)),(6,.box 56 [.sl 1 (v3c.map (eL 2 aX))]),(7,.ao 80 [.gX 53 [] [.ptr 1 0,.ptr 2 0,.ptr 4 0,.ptr 6 0,.ptr 7 0,.ptr 8 0,.ptr 10 0]]),(8,.ao 30 [.row 9]),(9,.row 3 1 (x_38.map eI)),(10,.ao 30 [.row 11]),(11,.row 3 1 (x_39.map eI)),(101,.box 60 (aX x_30))]⟩ (by kernel_rfl) (ae.af ⟨[(0,_),(1,_),(3,_),(4,_),(6,_),(7,_),(8,_),(11,_),(13,_),(29,_),(30,_),(31,_)],[(1,_),(2,_),(3,_),(4,_),(5,_),(6,_),(7,_),(8,_),(9,_),(10,_),(11,_),(101,_)]⟩ rfl (ab.seq ?_)))
       obtain ⟨x_40,e19,h12⟩:=aF h12
       obtain ⟨x_41,e20,h12⟩:=aF h12
       obtain ⟨x_42,e21,h12⟩:=aF h12
       refine ab.en mixed 13 [.b (.row 5),I n0,.b (.row 5),I n0,.b (.bG 5 ((n0:Int).toNat * 1)),I x_40,.b (.row 5),Pt 101 0,I x_30.to,.b (.bG 5 ((x_30.to:Int).toNat * 1)),I x_41,I (min x_40 x_41),.b (.bG 5 ((n0:Int).toNat * 1))] [0,1,3,4,6,7,8,11,13,29,30,31] [1,2,3,4,5,6,7,8,9,10,11,101] (s':=⟨[(0,_),(1,_),(3,_),(4,_),(6,_),(7,_),(8,_),(11,_),(13,_),(29,_),(30,_),(31,_)],[(1,_),(2,_),(3,_),(4,_),(5,.row 3 1 ((x_37.set (n0:Int).toNat (min x_40 x_41)).map eI)),(6,_),(7,_),(8,_),(9,_),(10,_),(11,_),(101,_)]⟩) rfl ⟨fun _=>.p (a7 aS rfl rfl rfl),fun _=>.p om,fun _=>.p (a7 aS rfl rfl rfl),fun _=>.p om,fun _=>.p (au ak (aE e19) (aY e19) rfl rfl rfl rfl),fun _=>.p (aK (i:=(n0:Int).toNat) (f:=0) aA rfl rfl rfl (aC (e:=eI) e19) rfl),fun _=>.p (a7 aS rfl rfl rfl),fun _=>.p (bA eZ rfl rfl),fun _=>.p (ba aA rfl rfl rfl),fun _=>.p (au ak (aE e20) (aY e20) rfl rfl rfl rfl),fun _=>.p (aK (i:=(x_30.to:Int).toNat) (f:=0) aA rfl rfl rfl (aC (e:=eI) e20) rfl),fun _=>.p (qQ rfl rfl),fun _=>.p (au ak (aE e21) (aY e21) rfl rfl rfl rfl),trivial⟩ ⟨_,by exact .p (bV (i:=(n0:Int).toNat) aA rfl rfl rfl rfl (fE e21) (map_set _ _ _ _)),rfl⟩ rfl ?_
       obtain ⟨v22,h23,h12⟩:=aF h12
       refine ab.bS (v:=v22) (fun (parts_43:Int)=>⟨[(0,I n0),(1,I by0),(3,Pt 2 0),(4,Pt 4 0),(6,Pt 7 0),(7,Pt 8 0),(8,Pt 10 0),(11,I parts_43),(13,Pt 101 0),(29,.b (.one (.sl 2 (x_10.map aX)))),(30,I (x_10.length:Int)),(31,I x_17)],[(1,.box 3 [.i x_35]),(2,.ao 30 [.row 3]),(3,.row 3 1 (x_36.map eI)),(4,.ao 30 [.row 5]),(5,.row 3 1 ((x_37.set (n0:Int).toNat (min x_40 x_41)).map eI)),(6,.box 56 [.sl 1 (v3c.map (eL 2 aX))]),(7,.ao 80 [.gX 53 [] [.ptr 1 0,.ptr 2 0,.ptr 4 0,.ptr 6 0,.ptr 7 0,.ptr 8 0,.ptr 10 0]]),(8,.ao 30 [.row 9]),(9,.row 3 1 (x_38.map eI)),(10,.ao 30 [.row 11]),(11,.row 3 1 (x_39.map eI)),(101,.box 60 (aX x_30))]⟩) (fun z=>z) ?_ ?_
       ·refine ab.seq (ab.ag ⟨[(0,_),(1,_),(3,_),(4,_),(6,_),(7,_),(8,_),(11,_),(13,_),(29,_),(30,_),(31,_)],[(1,_),(2,_),(3,_),(4,_),(5,_),(6,_),(7,_),(8,_),(9,_),(10,_),(11,_),(101,_)]⟩ rfl ?_)
        obtain ⟨x_44,e24,h23⟩:=aF h23
        obtain ⟨x_45,e25,h23⟩:=aF h23
        refine ab.en mixed 10 [.b (.row 5),Pt 101 0,I x_30.to,.b (.bG 5 ((x_30.to:Int).toNat * 1)),I x_44,.b (.row 3),I n0,.b (.bG 3 ((n0:Int).toNat * 1)),I x_45,B (decide (x_45 ≤ x_44))] [0,1,3,4,6,7,8,11,13,29,30,31,63] [1,2,3,4,5,6,7,8,9,10,11,101] (s':=⟨[(0,_),(1,_),(3,_),(4,_),(6,_),(7,_),(8,_),(11,_),(13,_),(29,_),(30,_),(31,_),(63,B (decide (x_45 ≤ x_44)))],[(1,_),(2,_),(3,_),(4,_),(5,_),(6,_),(7,_),(8,_),(9,_),(10,_),(11,_),(101,_)]⟩) rfl ⟨fun _=>.p (a7 aS rfl rfl rfl),fun _=>.p (bA eZ rfl rfl),fun _=>.p (ba aA rfl rfl rfl),fun _=>.p (au ak (aE e24) (aY e24) rfl rfl rfl rfl),fun _=>.p (aK (i:=(x_30.to:Int).toNat) (f:=0) aA rfl rfl rfl (aC (e:=eI) e24) rfl),fun _=>.p (a7 aS rfl rfl rfl),fun _=>.p om,fun _=>.p (au ak (aE e25) (aY e25) rfl rfl rfl rfl),fun _=>.p (aK (i:=(n0:Int).toNat) (f:=0) aA rfl rfl rfl (aC (e:=eI) e25) rfl),fun _=>.p (jA rfl rfl),trivial⟩ rfl rfl (ab.ite h23 rfl (fun _ h23=>?_) (fun _ h23=>?_))
        ·refine ab.aa (Oc om (Oc (aV rfl rfl) (Oc oa ?_)))
         refine ae.nil ?_
         exact Fin.join [0,1,3,4,6,7,8,11,13,29,30,31] [1,2,3,4,5,6,7,8,9,10,11,101] (IntKind.i64.wrap (parts_16 + 1)) (Option.some.inj h23) rfl
        ·refine ab.skip ?_
         exact Fin.join [0,1,3,4,6,7,8,11,13,29,30,31] [1,2,3,4,5,6,7,8,9,10,11,101] parts_16 (Option.some.inj h23) rfl
       ·rintro parts_43 hv
        subst v22
        refine ab.seq (ab.ag ⟨[(0,_),(1,_),(3,_),(4,_),(6,_),(7,_),(8,_),(11,_),(13,_),(29,_),(30,_),(31,_)],[(1,_),(2,_),(3,_),(4,_),(5,_),(6,_),(7,_),(8,_),(9,_),(10,_),(11,_),(101,_)]⟩ rfl ?_)
        obtain ⟨x_46,e26,h12⟩:=aF h12
        obtain ⟨x_47,e27,h12⟩:=aF h12
        refine ab.en mixed 10 [.b (.row 5),Pt 101 0,I x_30.to,.b (.bG 5 ((x_30.to:Int).toNat * 1)),I x_46,.b (.row 3),I n0,.b (.bG 3 ((n0:Int).toNat * 1)),I x_47,B (decide (x_47 < x_46))] [0,1,3,4,6,7,8,11,13,29,30,31,75] [1,2,3,4,5,6,7,8,9,10,11,101] (s':=⟨[(0,_),(1,_),(3,_),(4,_),(6,_),(7,_),(8,_),(11,_),(13,_),(29,_),(30,_),(31,_),(75,B (decide (x_47 < x_46)))],[(1,_),(2,_),(3,_),(4,_),(5,_),(6,_),(7,_),(8,_),(9,_),(10,_),(11,_),(101,_)]⟩) rfl ⟨fun _=>.p (a7 aS rfl rfl rfl),fun _=>.p (bA eZ rfl rfl),fun _=>.p (ba aA rfl rfl rfl),fun _=>.p (au ak (aE e26) (aY e26) rfl rfl rfl rfl),fun _=>.p (aK (i:=(x_30.to:Int).toNat) (f:=0) aA rfl rfl rfl (aC (e:=eI) e26) rfl),fun _=>.p (a7 aS rfl rfl rfl),fun _=>.p om,fun _=>.p (au ak (aE e27) (aY e27) rfl rfl rfl rfl),fun _=>.p (aK (i:=(n0:Int).toNat) (f:=0) aA rfl rfl rfl (aC (e:=eI) e27) rfl),fun _=>.p (fg rfl rfl),trivial⟩ rfl rfl (ab.ite h12 rfl (fun _ h12=>?_) (fun _ h12=>?_))
        ·refine ab.aa (Oc (a7 aS rfl rfl rfl) (Oc (bA mW rfl rfl) (Oc (ba aA rfl rfl rfl) (Oc (ax (k:=102) (es:=[x_30.pos].map eI) ak rfl rfl (aW fun _=>rfl) rfl (by decide) (by decide) rfl) ?_))))
         refine ae.forget 8 0 rfl ?_
         obtain ⟨x_48,e28,h12⟩:=aF h12
         refine Oc (bu ak (dy e28) (dx e28) rfl rfl rfl rfl (bT e28) rfl) (Oc (ed aS rfl rfl rfl rfl (Nat.le_of_ble_eq_true rfl) rfl) ?_)
         refine ae.nil (Fin.ah (Fin.ah ?_))
         exact Fin.join [0,1,3,4,6,7,8,11,29,30,31] [1,2,3,4,5,6,7,8,9,10,11] (x_36,x_37.set (n0:Int).toNat (min x_40 x_41),x_35,x_48,x_39,parts_43) (Option.some.inj h12) rfl
        ·refine ab.skip (Fin.ah (Fin.ah ?_))
         exact Fin.join [0,1,3,4,6,7,8,11,29,30,31] [1,2,3,4,5,6,7,8,9,10,11] (x_36,x_37.set (n0:Int).toNat (min x_40 x_41),x_35,x_38,x_39,parts_43) (Option.some.inj h12) rfl
    ·rintro ⟨xf0_24,xf0_25,xf0_26,xf0f0_27,xf0f0_28,parts_29⟩ hv
     subst v11
     refine ab.aa (Oc (aV rfl rfl) (Oc om ?_))
     refine ae.nil ?_
     exact Fin.bx [0,1,3,4,6,7,8,11,29,30,31] [1,2,3,4,5,6,7,8,9,10,11] (xf0_24,xf0_25,xf0_26,xf0f0_27,xf0f0_28,parts_29,IntKind.i64.wrap (x_17 + 1)) (Option.some.inj h9) rfl
   ·refine ab.exit (Fin.ai ?_)
    obtain rfl:=hy10 _ (Option.some.inj h9).symm
    refine Fin.ai (Fin.ay ?_)
    exact Fin.join [0,8,11] [1,2,3,4,5,6,7,8,9,10,11] (xf0f0_15,parts_16,xf0_13,xf0_11,xf0_12,xf0f0_14) rfl rfl
  ·rintro ⟨xf0_4,parts_5,y_6,yf0_7,yf0_8,yf0f0_9⟩ hv
   subst v5
   refine ab.seq (ab.aa ?_)
   refine Oc om (Oc (fg rfl rfl) ?_)
   refine ae.af ⟨[(0,_),(8,_),(108,B (decide (1 < parts_5)))],[(1,_),(2,_),(3,_),(4,_),(5,_),(6,_),(7,_),(8,_),(9,_),(10,_),(11,_)]⟩ rfl (ab.ite h rfl (fun _ h=>?_) (fun _ h=>?_))
   ·refine ab.aa (Oc (a7 aS rfl rfl rfl) (Oc om (Oc (ax (k:=103) (es:=[n0].map eI) ak rfl rfl (aW fun _=>rfl) rfl (by decide) (by decide) rfl) ?_)))
    refine ae.forget 10 0 rfl ?_
    obtain ⟨x_49,e29,h⟩:=aF h
    refine Oc (bu ak (dy e29) (dx e29) rfl rfl rfl rfl (bT e29) rfl) (Oc (ed aS rfl rfl rfl rfl (Nat.le_of_ble_eq_true rfl) rfl) ?_)
    refine ae.nil ?_
    obtain rfl:=Option.some.inj h
    refine Fin.ag ⟨[],[(1,.box 3 [.i y_6]),(2,.ao 30 [.row 3]),(3,.row 3 1 (yf0_7.map eI)),(4,.ao 30 [.row 5]),(5,.row 3 1 (yf0_8.map eI)),(6,.box 56 [.sl 1 (v3c.map (eL 2 aX))]),(7,.ao 80 [.gX 53 [] [.ptr 1 0,.ptr 2 0,.ptr 4 0,.ptr 6 0,.ptr 7 0,.ptr 8 0,.ptr 10 0]]),(8,.ao 30 [.row 9]),(9,.row 3 1 (yf0f0_9.map eI)),(10,.ao 30 [.row 11]),(11,.row 3 1 (x_49.map eI))]⟩ rfl ?_
    exact Fin.result [] (.inr rfl) rfl (.nil) ⟨rfl,rfl⟩
   ·refine ab.skip ?_
    obtain rfl:=Option.some.inj h
    refine Fin.ag ⟨[],[(1,_),(2,_),(3,_),(4,_),(5,_),(6,_),(7,_),(8,_),(9,_),(10,_),(11,_)]⟩ rfl ?_
    exact Fin.result [] (.inr rfl) rfl (.nil) ⟨rfl,rfl⟩
theorem lN {F:Nat} {n0:Int} {by0:Int} {v0c:Int} {v1c:List Int} {v2c:List Int} {v3c:List (List jy)} {v5c:List Int} {v6c:List Int} {r:Int × (List Int) × (List Int) × (List Int) × (List Int)} (h:jX F n0 by0 v0c v1c v2c v3c v5c v6c = some r):ar Try.prog [] 53 [(1,.box 3 [.i v0c]),(2,.ao 30 [.row 3]),(3,.row 3 1 (v1c.map eI)),(4,.ao 30 [.row 5]),(5,.row 3 1 (v2c.map eI)),(6,.box 56 [.sl 1 (v3c.map (eL 2 aX))]),(7,.ao 80 [.gX 53 [] [.ptr 1 0,.ptr 2 0,.ptr 4 0,.ptr 6 0,.ptr 7 0,.ptr 8 0,.ptr 10 0]]),(8,.ao 30 [.row 9]),(9,.row 3 1 (v5c.map eI)),(10,.ao 30 [.row 11]),(11,.row 3 1 (v6c.map eI))] [.one (.i n0),.one (.i by0),.ptr 1 0,.ptr 2 0,.ptr 4 0,.ptr 6 0,.ptr 7 0,.ptr 8 0,.ptr 10 0] (Is [(1,.box 3 [.i r.1]),(2,.ao 30 [.row 3]),(3,.row 3 1 (r.2.1.map eI)),(4,.ao 30 [.row 5]),(5,.row 3 1 (r.2.2.1.map eI)),(6,.box 56 [.sl 1 (v3c.map (eL 2 aX))]),(7,.ao 80 [.gX 53 [] [.ptr 1 0,.ptr 2 0,.ptr 4 0,.ptr 6 0,.ptr 7 0,.ptr 8 0,.ptr 10 0]]),(8,.ao 30 [.row 9]),(9,.row 3 1 (r.2.2.2.1.map eI)),(10,.ao 30 [.row 11]),(11,.row 3 1 (r.2.2.2.2.map eI))] (.fi [])):=ld F h
end Go.Proofs.Ytgojigdbelkgoaa

