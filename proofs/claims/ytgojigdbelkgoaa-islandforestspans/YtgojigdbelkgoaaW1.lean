/- printed walks -/
import Derived.Test.YtgojigdbelkgoaaT1
namespace Go.Proofs.Ytgojigdbelkgoaa
open Go.Sk Go
set_option maxHeartbeats 4000000
set_option maxRecDepth 4000
set_option linter.unusedSimpArgs false
set_option linter.unusedVariables false
theorem undi97:Try.prog.underlying 97 = some (.int .u64):=Try.underlying97
theorem undi5:Try.prog.underlying 5 = some (.int .u8):=Try.underlying5
theorem und9:Try.prog.underlying 9 = some .string:=Try.underlying9
theorem jH:Try.prog.underlying 3 = some (.int .i64):=Try.underlying3
theorem goes69:dp Try.prog 69:=⟨Try.call69⟩
theorem goes59:dp Try.prog 59:=⟨Try.call59⟩
theorem gm:Try.prog.underlying 30 = some (.slice 3):=Try.underlying30
theorem gT:Try.prog.underlying 63 = some (.int .u64):=Try.underlying63
theorem goes56:dp Try.prog 56:=⟨Try.call56⟩
theorem goes55:dp Try.prog 55:=⟨Try.call55⟩
theorem dC:Try.prog.underlying 22 = some (.slice 4):=Try.underlying22
theorem q9:Try.prog.underlying 23 = some (.slice 44):=Try.underlying23
theorem rk:cK Try.prog 22:=⟨⟨_,Try.underlying22,rfl⟩,⟨Try.t22,by kernel_rfl,by kernel_rfl⟩⟩
theorem pe:cK Try.prog 73:=⟨⟨_,Try.underlying73,rfl⟩,⟨Try.t73,by kernel_rfl,by kernel_rfl⟩⟩
theorem gb:sJ Try.prog 44 3 2 1:=⟨Try.underlying44,⟨Try.t3,by kernel_rfl,by kernel_rfl⟩⟩
theorem az:cK Try.prog 3:=⟨⟨_,Try.underlying3,rfl⟩,⟨Try.t3,by kernel_rfl,by kernel_rfl⟩⟩
theorem s5:dp Try.prog 45:=⟨Try.call45⟩
theorem ee:eV Try.prog 23 44 2 16 ((cy .i64) A2.zero):=⟨Try.underlying23,⟨Try.t44,_,by kernel_rfl,rfl,rfl,rfl,rfl,by decide,rfl⟩⟩
theorem nr:gS Try.prog 44 2:=⟨⟨_,Try.underlying44,rfl⟩,⟨Try.t44,by kernel_rfl,by kernel_rfl⟩⟩
theorem goes47:dp Try.prog 47:=⟨Try.call47⟩
theorem goes54:dp Try.prog 54:=⟨Try.call54⟩
theorem tz:jj Try.prog 73 [.raw .nilFunc]:=⟨⟨Try.t73,_,by kernel_rfl,rfl,rfl⟩⟩
theorem goes46:dp Try.prog 46:=⟨Try.call46⟩
theorem gL:lU Try.prog 52 0 0 50:=⟨⟨_,_,Try.t50,Try.underlying52,rfl,rfl,rfl,by kernel_rfl,by decide⟩⟩
theorem kD:cK Try.prog 50:=⟨⟨_,Try.underlying50,rfl⟩,⟨Try.t50,by kernel_rfl,by kernel_rfl⟩⟩
theorem mu:Try.prog.underlying 50 = some (.map 3 3):=Try.underlying50
theorem ec:oD Try.prog 50 3 3 .i64 (.i 0):=⟨Try.underlying50,Try.underlying3,⟨Try.t3,_,by kernel_rfl,rfl,fun _=>⟨rfl,by decide,by decide⟩⟩⟩
theorem cS:gS Try.prog 52 1:=⟨⟨_,Try.underlying52,rfl⟩,⟨Try.t52,by kernel_rfl,by kernel_rfl⟩⟩
theorem mB:dp Try.prog 48:=⟨Try.call48⟩
theorem tB:jj Try.prog 44 ((cy .i64) A2.zero):=⟨⟨Try.t44,_,by kernel_rfl,rfl,rfl⟩⟩
theorem gU:eV Try.prog 22 4 1 1 [.bool false]:=⟨Try.underlying22,⟨Try.t4,_,by kernel_rfl,rfl,rfl,rfl,rfl,by decide,rfl⟩⟩
theorem jT:cK Try.prog 4:=⟨⟨_,Try.underlying4,rfl⟩,⟨Try.t4,by kernel_rfl,by kernel_rfl⟩⟩
theorem aq:eV Try.prog 30 3 1 8 [.i 0]:=⟨Try.underlying30,⟨Try.t3,_,by kernel_rfl,rfl,rfl,rfl,rfl,by decide,rfl⟩⟩
theorem mixed:Try.prog.follows .mixedOrders = true:=by kernel_rfl
theorem iT:jj Try.prog 52 [.raw (.map none)]:=⟨⟨Try.t52,_,by kernel_rfl,rfl,rfl⟩⟩
theorem oG:nC Try.prog 52 [(0,1)] [.raw (.map none)]:=⟨⟨Try.t52,_,_,by kernel_rfl,rfl,rfl,Try.underlying52,by kernel_rfl⟩⟩
theorem s4:dp Try.prog 49:=⟨Try.call49⟩
theorem s6:dp Try.prog 44:=⟨Try.call44⟩
theorem pa:dp Try.prog 50:=⟨Try.call50⟩
theorem jI:Try.prog.underlying 26 = some (.slice 30):=Try.underlying26
theorem fe:eV Try.prog 26 30 1 24 [.nil]:=⟨Try.underlying26,⟨Try.t30,_,by kernel_rfl,rfl,rfl,rfl,rfl,by decide,rfl⟩⟩
theorem aZ:cK Try.prog 30:=⟨⟨_,Try.underlying30,rfl⟩,⟨Try.t30,by kernel_rfl,by kernel_rfl⟩⟩
theorem mC:dp Try.prog 29:=⟨Try.call29⟩
theorem qJ:dp Try.prog 30:=⟨Try.call30⟩
theorem qI:dp Try.prog 31:=⟨Try.call31⟩
theorem la:eV Try.prog 56 58 1 24 [.nil]:=⟨Try.underlying56,⟨Try.t58,_,by kernel_rfl,rfl,rfl,rfl,rfl,by decide,rfl⟩⟩
theorem kC:cK Try.prog 58:=⟨⟨_,Try.underlying58,rfl⟩,⟨Try.t58,by kernel_rfl,by kernel_rfl⟩⟩
theorem oF:nC Try.prog 60 [(0,1),(1,1)] [.i 0,.i 0]:=⟨⟨Try.t60,_,_,by kernel_rfl,rfl,rfl,Try.underlying60,by kernel_rfl⟩⟩
theorem mw:eV Try.prog 58 60 2 16 [.i 0,.i 0]:=⟨Try.underlying58,⟨Try.t60,_,by kernel_rfl,rfl,rfl,rfl,rfl,by decide,rfl⟩⟩
theorem s8:dp Try.prog 32:=⟨Try.call32⟩
theorem und58:Try.prog.underlying 58 = some (.slice 60):=Try.underlying58
theorem nq:gS Try.prog 60 2:=⟨⟨_,Try.underlying60,rfl⟩,⟨Try.t60,by kernel_rfl,by kernel_rfl⟩⟩
theorem pP:jj Try.prog 60 [.i 0,.i 0]:=⟨⟨Try.t60,_,by kernel_rfl,rfl,rfl⟩⟩
theorem eD:lU Try.prog 60 0 0 3:=⟨⟨_,_,Try.t3,Try.underlying60,rfl,rfl,rfl,by kernel_rfl,by decide⟩⟩
theorem sZ:dp Try.prog 52:=⟨Try.call52⟩
theorem goes35:dp Try.prog 35:=⟨Try.call35⟩
theorem pb:dp Try.prog 34:=⟨Try.call34⟩
theorem qH:dp Try.prog 77:=⟨Try.call77⟩
theorem goes70:dp Try.prog 70:=⟨Try.call70⟩
theorem o6:dp Try.prog 58:=⟨Try.call58⟩
theorem sX:dp Try.prog 57:=⟨Try.call57⟩
theorem goes51:dp Try.prog 51:=⟨Try.call51⟩
theorem tf:dp Try.prog 13:=⟨Try.call13⟩
theorem cA:jj Try.prog 30 [.nil]:=⟨⟨Try.t30,_,by kernel_rfl,rfl,rfl⟩⟩
theorem mE:dp Try.prog 12:=⟨Try.call12⟩
theorem goes33:dp Try.prog 33:=⟨Try.call33⟩
theorem rj:cK Try.prog 56:=⟨⟨_,Try.underlying56,rfl⟩,⟨Try.t56,by kernel_rfl,by kernel_rfl⟩⟩
theorem mJ:lU Try.prog 60 1 1 3:=⟨⟨_,_,Try.t3,Try.underlying60,rfl,rfl,rfl,by kernel_rfl,by decide⟩⟩
theorem pd:cK Try.prog 80:=⟨⟨_,Try.underlying80,rfl⟩,⟨Try.t80,by kernel_rfl,by kernel_rfl⟩⟩
theorem sY:dp Try.prog 53:=⟨Try.call53⟩
theorem tA:jj Try.prog 56 [.nil]:=⟨⟨Try.t56,_,by kernel_rfl,rfl,rfl⟩⟩
theorem tyZero3:jj Try.prog 3 [.i 0]:=⟨⟨Try.t3,_,by kernel_rfl,rfl,rfl⟩⟩
theorem tx:jj Try.prog 80 [.raw .nilFunc]:=⟨⟨Try.t80,_,by kernel_rfl,rfl,rfl⟩⟩
theorem s7:dp Try.prog 39:=⟨Try.call39⟩
theorem und41:Try.prog.underlying 41 = some (.slice 26):=Try.underlying41
theorem sP:eV Try.prog 41 26 1 24 [.nil]:=⟨Try.underlying41,⟨Try.t26,_,by kernel_rfl,rfl,rfl,rfl,rfl,by decide,rfl⟩⟩
theorem tyOne26:cK Try.prog 26:=⟨⟨_,Try.underlying26,rfl⟩,⟨Try.t26,by kernel_rfl,by kernel_rfl⟩⟩
theorem mD:dp Try.prog 19:=⟨Try.call19⟩
theorem fS:qg Try.prog 44 1 ((cy .i64) A2.zero):=⟨⟨Try.t44,_,_,_,Try.t3,by kernel_rfl,rfl,rfl,Try.underlying44,by kernel_rfl,by kernel_rfl⟩⟩
theorem goes14:dp Try.prog 14:=⟨Try.call14⟩
theorem te:dp Try.prog 20:=⟨Try.call20⟩
theorem s9:dp Try.prog 22:=⟨Try.call22⟩
theorem td:dp Try.prog 21:=⟨Try.call21⟩
theorem goes27:dp Try.prog 27:=⟨Try.call27⟩
theorem qK:dp Try.prog 18:=⟨Try.call18⟩
theorem goes28:dp Try.prog 28:=⟨Try.call28⟩
theorem goes10:dp Try.prog 10:=⟨Try.call10⟩
theorem qL:dp Try.prog 11:=⟨Try.call11⟩
def jD (F:Nat) (x0:Int):Option Int :=
 Option.bind (if (decide (4294967296 ≤ x0)) = true then (some (x0 / 4294967296,32)) else (some (x0,0))) (cm fun x_1 n_2=>Option.bind (if (decide (65536 ≤ x_1)) = true then (some (x_1 / 65536,IntKind.i64.wrap (n_2 + 16))) else (some (x_1,n_2))) (cm fun x_3 n_4=>Option.bind (if (decide (256 ≤ x_3)) = true then (some (x_3 / 256,IntKind.i64.wrap (n_4 + 8))) else (some (x_3,n_4))) (cm fun x_5 n_6=>(aE ([0,1,2,2,3,3,3,3,4,4,4,4,4,4,4,4,5,5,5,5,5,5,5,5,5,5,5,5,5,5,5,5,6,6,6,6,6,6,6,6,6,6,6,6,6,6,6,6,6,6,6,6,6,6,6,6,6,6,6,6,6,6,6,6,7,7,7,7,7,7,7,7,7,7,7,7,7,7,7,7,7,7,7,7,7,7,7,7,7,7,7,7,7,7,7,7,7,7,7,7,7,7,7,7,7,7,7,7,7,7,7,7,7,7,7,7,7,7,7,7,7,7,7,7,7,7,7,7,8,8,8,8,8,8,8,8,8,8,8,8,8,8,8,8,8,8,8,8,8,8,8,8,8,8,8,8,8,8,8,8,8,8,8,8,8,8,8,8,8,8,8,8,8,8,8,8,8,8,8,8,8,8,8,8,8,8,8,8,8,8,8,8,8,8,8,8,8,8,8,8,8,8,8,8,8,8,8,8,8,8,8,8,8,8,8,8,8,8,8,8,8,8,8,8,8,8,8,8,8,8,8,8,8,8,8,8,8,8,8,8,8,8,8,8,8,8,8,8,8,8,8,8,8,8,8,8]:Str) (IntKind.u8.wrap x_5)).bind fun x_7=>eO (IntKind.i64.wrap (n_6 + (IntKind.i64.wrap (x_7.toNat:Int)))) fun x_8=>some x_8)))
theorem nn {F:Nat} {x0:Int} {r:Int} (h:jD F x0 = some r):ay Try.prog [] 69 [] [.one (.int .u64 x0)] (Is [] (.b (.one (.i r)))):=by
 unfold jD at h
 refine ay.intro 25 Try.func69 Try.ntmps69 rfl (by simp) fun E=>?_
 show ab _ E ⟨25,[],[],[]⟩ _ ⟨[(0,.b (.one (.int .u64 x0)))],[]⟩ _
 refine ab.seq (ab.aa ?_)
 refine Oc oa (ae.ag ⟨[(0,.b (.one (.int .u64 x0))),(2,I 0)],[]⟩ rfl ?_)
 obtain ⟨v1,h2,h⟩:=aL h
 refine ab.cM (v:=v1) (cm fun (x_1:Int) (n_2:Int)=>⟨[(0,.b (.one (.int .u64 x_1))),(2,I n_2)],[]⟩) (fun z=>z) ?_ ?_
 ·refine ab.seq (ab.aa ?_)
  refine Oc om (Oc (lh rfl rfl) ?_)
  refine ae.ag ⟨[(0,_),(2,_),(4,B (decide (4294967296 ≤ x0)))],[]⟩ rfl (ab.ite h2 rfl (fun _ h2=>?_) (fun _ h2=>?_))
  ·refine ab.seq (ab.aa ?_)
   refine Oc om (Oc (jl (m:=32) (by decide) rfl rfl rfl) (Oc oa ?_))
   refine ae.ag ⟨[(0,.b (.one (.int .u64 (x0 / 4294967296))))],[]⟩ rfl (ab.aa (Oc oa (ae.nil ?_)))
   exact Fin.join [0,2] [] (x0 / 4294967296,32) (Option.some.inj h2) rfl
  ·refine ab.skip ?_
   exact Fin.join [0,2] [] (x0,0) (Option.some.inj h2) rfl
 ·rintro ⟨x_1,n_2⟩ hv
  subst v1
  obtain ⟨v3,h4,h⟩:=aL h
  refine ab.cM (v:=v3) (cm fun (x_3:Int) (n_4:Int)=>⟨[(0,.b (.one (.int .u64 x_3))),(2,I n_4)],[]⟩) (fun z=>z) ?_ ?_
  ·refine ab.seq (ab.aa ?_)
   refine Oc om (Oc (lh rfl rfl) ?_)
   refine ae.ag ⟨[(0,_),(2,_),(8,B (decide (65536 ≤ x_1)))],[]⟩ rfl (ab.ite h4 rfl (fun _ h4=>?_) (fun _ h4=>?_))
   ·refine ab.seq (ab.aa ?_)
    refine Oc om (Oc (jl (m:=16) (by decide) rfl rfl rfl) (Oc oa ?_))
    refine ae.ag ⟨[(0,.b (.one (.int .u64 (x_1 / 65536)))),(2,_)],[]⟩ rfl (ab.aa (Oc om (Oc (aU rfl rfl) (Oc oa ?_))))
    refine ae.nil ?_
    exact Fin.join [0,2] [] (x_1 / 65536,IntKind.i64.wrap (n_2 + 16)) (Option.some.inj h4) rfl
   ·refine ab.skip ?_
    exact Fin.join [0,2] [] (x_1,n_2) (Option.some.inj h4) rfl
  ·rintro ⟨x_3,n_4⟩ hv
   subst v3
   obtain ⟨v5,h6,h⟩:=aL h
   refine ab.cM (v:=v5) (cm fun (x_5:Int) (n_6:Int)=>⟨[(0,.b (.one (.int .u64 x_5))),(2,I n_6)],[]⟩) (fun z=>z) ?_ ?_
   ·refine ab.seq (ab.aa ?_)
    refine Oc om (Oc (lh rfl rfl) ?_)
    refine ae.ag ⟨[(0,_),(2,_),(14,B (decide (256 ≤ x_3)))],[]⟩ rfl (ab.ite h6 rfl (fun _ h6=>?_) (fun _ h6=>?_))
    ·refine ab.seq (ab.aa ?_)
     refine Oc om (Oc (jl (m:=8) (by decide) rfl rfl rfl) (Oc oa ?_))
     refine ae.ag ⟨[(0,.b (.one (.int .u64 (x_3 / 256)))),(2,_)],[]⟩ rfl (ab.aa (Oc om (Oc (aU rfl rfl) (Oc oa ?_))))
     refine ae.nil ?_
     exact Fin.join [0,2] [] (x_3 / 256,IntKind.i64.wrap (n_4 + 8)) (Option.some.inj h6) rfl
    ·refine ab.skip ?_
     exact Fin.join [0,2] [] (x_3,n_4) (Option.some.inj h6) rfl
   ·rintro ⟨x_5,n_6⟩ hv
    subst v5
    refine ab.seq (ab.aa ?_)
    refine Oc om (Oc om (Oc (bW undi97 undi5 rfl) ?_))
    obtain ⟨x_7,e7,h⟩:=aL h
    refine Oc (pD und9 rfl rfl (aH e7) (qF e7)) (Oc (bW undi5 jH rfl) ?_)
    refine ae.iS .i64 h rfl (aU rfl rfl) (fun x_8 h=>?_)
    refine Oc oa (ae.ag ⟨[(2,I x_8)],[]⟩ rfl (ab.ret ?_))
    obtain rfl:=Option.some.inj h
    refine Fin.af ⟨[(2,_)],[]⟩ rfl (Fin.aV [.one (.i x_8)] (.inl rfl) rfl (.cons (.tmp rfl) .nil) ⟨rfl,rfl⟩)
def lx (F:Nat) (x0:Int):Option Int :=
 (jD F x0).bind fun x_1=>some x_1
theorem ov {F:Nat} {x0:Int} {r:Int} (h:lx F x0 = some r):ay Try.prog [] 56 [] [.one (.int .u64 x0)] (Is [] (.b (.one (.i r)))):=by
 unfold lx at h
 refine ay.intro 8 Try.func56 Try.ntmps56 rfl (by simp) fun E=>?_
 show ab _ E ⟨8,[],[],[]⟩ _ ⟨[(0,.b (.one (.int .u64 x0)))],[]⟩ _
 refine ab.seq (ab.aa ?_)
 refine Oc oa (ae.ag ⟨[(0,.b (.one (.int .u64 x0)))],[]⟩ rfl (ab.seq (ab.condFc (ab.skip (Fin.af ⟨[(0,_)],[]⟩ rfl ?_)))))
 refine Fin.then (ab.seq (ab.aa ?_))
 refine Oc om ?_
 obtain ⟨x_1,e1,h⟩:=aL h
 refine Oc (aT (nn e1) goes69 rfl rfl) (Oc oa ?_)
 refine ae.ag ⟨[(2,I x_1)],[]⟩ rfl (ab.ret ?_)
 obtain rfl:=Option.some.inj h
 refine Fin.af ⟨[(2,_)],[]⟩ rfl (Fin.aV [.one (.i x_1)] (.inl rfl) rfl (.cons (.tmp rfl) .nil) ⟨rfl,rfl⟩)
def dW (F:Nat):Option Unit :=
 Option.bind (iter F (fun _=>some (.inr ())) ()) (fun _=>some ())
theorem ik {F:Nat} {r:Unit} (h:dW F = some r):ay Try.prog [] 59 [] [.one (.nil),.one (.i 0),.one (.i 0)] (Is [] (.eJ [])):=by
 unfold dW at h
 refine ay.intro 49 Try.func59 Try.ntmps59 rfl (by simp) fun E=>?_
 show ab _ E ⟨49,[],[],[]⟩ _ ⟨[(0,.b (.one (.nil))),(1,I 0),(2,I 0)],[]⟩ _
 refine ab.seq (ab.aa ?_)
 refine Oc om (Oc (aU rfl rfl) (Oc oa ?_))
 refine ae.ag ⟨[(0,.b (.one (.nil))),(1,I 0),(2,I 0),(6,I 1)],[]⟩ rfl (ab.block ?_)
 obtain ⟨v1,h2,h⟩:=aL h
 refine ab.cE h2 (fun (_:Unit)=>⟨[(0,.b (.one (.nil))),(1,I 0),(2,I 0),(6,I 1)],[]⟩) [0,1,2,6] [] rfl ?_
 rintro _ o3 h4 hy5
 refine ab.seq (ab.seq (ab.aa ?_))
 refine Oc om (Oc om (Oc (bt rfl rfl) ?_))
 refine ae.ag ⟨[(0,_),(1,_),(2,_),(6,_),(12,B false)],[]⟩ rfl (ab.sH rfl (ab.exit (Fin.ai ?_)))
 obtain rfl:=hy5 _ (Option.some.inj h4).symm
 refine Fin.ai (Fin.aB ?_)
 obtain rfl:=Option.some.inj h
 refine Fin.af ⟨[],[]⟩ rfl (Fin.aV [] (.inr rfl) rfl (.nil) ⟨rfl,rfl⟩)
def dx (F:Nat):Nat → Int → Option Unit
 | 0,_=>none
 | n + 1,limit0=>Option.bind (iter F (fun _=>(dW F).bind fun u_1=>some (.inr ())) ()) (fun y=>some y)
def gv (F:Nat) (limit0:Int):Option Unit:=dx F F limit0
theorem iN {F:Nat}:∀ (n:Nat) {limit0:Int} {r:Unit} (h:dx F n limit0 = some r),ay Try.prog [] 55 [] [.one (.nil),.one (.i 0),.one (.i 0),.one (.i limit0)] (Is [] (.eJ [])):=by
 intro n
 induction n with
 | zero=>intro limit0 r h; simp [dx] at h
 | succ n ih=>
 intro limit0 r h
 unfold dx at h
 refine ay.intro 134 Try.func55 Try.ntmps55 rfl (by simp) fun E=>?_
 show ab _ E ⟨134,[],[],[]⟩ _ ⟨[(0,.b (.one (.nil))),(1,I 0),(2,I 0),(3,I limit0)],[]⟩ _
 refine ab.seq (ab.aa ?_)
 refine Oc oa (ae.ag ⟨[(0,.b (.one (.nil))),(1,I 0),(2,I 0),(3,I limit0),(8,B true)],[]⟩ rfl (ab.seq (ab.aa ?_)))
 refine Oc oa (ae.ag ⟨[(0,_),(1,_),(2,_),(3,_),(8,_),(9,B true)],[]⟩ rfl (ab.block ?_))
 obtain ⟨v1,h2,h⟩:=aL h
 refine ab.cE h2 (fun (_:Unit)=>⟨[(0,.b (.one (.nil))),(1,I 0),(2,I 0),(3,I limit0),(8,B true),(9,B true)],[]⟩) [0,1,2,3,8,9] [] rfl ?_
 rintro _ o3 h4 hy5
 refine ab.block (ab.seq (ab.aa ?_))
 refine Oc om (Oc om (Oc (cR rfl rfl) (Oc oa ?_)))
 refine ae.ag ⟨[(0,_),(1,_),(2,_),(3,_),(8,_),(9,_),(10,I 0)],[]⟩ rfl (ab.seq (ab.seq (ab.aa ?_)))
 refine Oc om (Oc (lg rfl rfl) ?_)
 refine ae.ag ⟨[(0,_),(1,_),(2,_),(3,_),(8,_),(9,_),(10,_),(23,B true)],[]⟩ rfl (ab.sG rfl (ab.seq (ab.aa ?_)))
 refine Oc om (Oc om (Oc om ?_))
 obtain ⟨u_1,e6,h4⟩:=aL h4
 refine Oc (aT (ik e6) goes59 rfl rfl) (ae.ag ⟨[],[]⟩ rfl (ab.ret (Fin.aN (Fin.cV ?_))))
 obtain rfl:=hy5 _ (Option.some.inj h4).symm
 refine Fin.aN (Fin.cV ?_)
 obtain rfl:=Option.some.inj h
 refine Fin.af ⟨[],[]⟩ rfl (Fin.aV [] (.inl rfl) rfl (.nil) ⟨rfl,rfl⟩)
theorem jf {F:Nat} {limit0:Int} {r:Unit} (h:gv F limit0 = some r):ay Try.prog [] 55 [] [.one (.nil),.one (.i 0),.one (.i 0),.one (.i limit0)] (Is [] (.eJ [])):=iN F h
def iC (F:Nat):Option Unit :=
 (lx F (IntKind.u64.wrap 0)).bind fun x_1=>(gv F x_1).bind fun u_2=>some ()
theorem kx {F:Nat} {r:Unit} (h:iC F = some r):ay Try.prog [] 50 [] [.one (.nil)] (Is [] (.eJ [])):=by
 unfold iC at h
 refine ay.intro 11 Try.func50 Try.ntmps50 rfl (by simp) fun E=>?_
 show ab _ E ⟨11,[],[],[]⟩ _ ⟨[(0,.b (.one (.nil)))],[]⟩ _
 refine ab.seq (ab.aa ?_)
 refine Oc om (Oc (qV gm rfl) (Oc oa ?_))
 refine ae.ag ⟨[(0,.b (.one (.nil))),(2,I 0)],[]⟩ rfl (ab.aa (Oc om (Oc om (Oc om (Oc (bW jH gT rfl) ?_)))))
 obtain ⟨x_1,e1,h⟩:=aL h
 refine Oc (aT (ov e1) goes56 rfl rfl) ?_
 obtain ⟨u_2,e2,h⟩:=aL h
 refine Oc (aT (jf e2) goes55 rfl rfl) (ae.nil ?_)
 obtain rfl:=Option.some.inj h
 refine Fin.af ⟨[],[]⟩ rfl (Fin.aV [] (.inr rfl) rfl (.nil) ⟨rfl,rfl⟩)
theorem mY:ay Try.prog [] 50 [] [.one .nil] (Is [] (.eJ [])):=kx (F:=3) (r:=()) (by rfl)
def cz (F:Nat) (zs:List Int):Option (List Int):=iF zs
theorem eG {F:Nat} {zs r:List Int} (h:cz F zs = some r):ay Try.prog [] 50 [(1,.cJ 3 1 (zs.map eI))] [.row 1] (Is [(1,.cJ 3 1 (r.map eI))] (.eJ [])):=qt Try.lays189 mY h
def dF (F:Nat) (fixed0:List Bool) (links0:List A2):Option Bool :=
 eO ((decide ((fixed0.length:Int) ≤ 40)) || ((decide (401 < (fixed0.length:Int))) && (decide ((fixed0.length:Int) < 409)))) fun x_1=>some (x_1 && (decide ((links0.length:Int) ≤ 60)))
theorem jF {F:Nat} {fixed0:List Bool} {links0:List A2} {r:Bool} (h:dF F fixed0 links0 = some r):ay Try.prog [] 10 [] [.one (.sl 1 (fixed0.map eB)),.one (.sl 2 (links0.map (cy .i64)))] (Is [] (.b (.one (.bool r)))):=by
 unfold dF at h
 refine ay.intro 23 Try.func10 Try.ntmps10 rfl (by simp) fun E=>?_
 show ab _ E ⟨23,[],[],[]⟩ _ ⟨[(0,.b (.one (.sl 1 (fixed0.map eB)))),(1,.b (.one (.sl 2 (links0.map (cy .i64)))))],[]⟩ _
 refine ab.seq (ab.aa ?_)
 refine Oc oa (ae.ag ⟨[(0,.b (.one (.sl 1 (fixed0.map eB)))),(1,.b (.one (.sl 2 (links0.map (cy .i64)))))],[]⟩ rfl (ab.seq (ab.aa ?_)))
 refine Oc om (Oc (aw dC rfl (List.length_map _)) (Oc (lg rfl rfl) (Oc om ?_)))
 refine jg (!(decide ((fixed0.length:Int) ≤ 40))) [] (fun g1=>trivial) (fun g1=>om) (ae.af ⟨[(0,_),(1,_),(8,B (decide ((fixed0.length:Int) ≤ 40))),(9,.opt (!(decide ((fixed0.length:Int) ≤ 40))) (.one (.sl 1 (fixed0.map eB))))],[]⟩ rfl (jg (!(decide ((fixed0.length:Int) ≤ 40))) [9] (fun g2=>by exact ⟨g2,trivial⟩) (fun g2=>aw dC rfl (List.length_map _)) (jg (!(decide ((fixed0.length:Int) ≤ 40))) [10] (fun g3=>by exact ⟨g3,trivial⟩) (fun g3=>iH rfl rfl) (jg (!(decide ((fixed0.length:Int) ≤ 40))) [11] (fun g4=>by exact ⟨g4,trivial⟩) (fun g4=>om) (ae.pL ((!(decide ((fixed0.length:Int) ≤ 40))) && (decide (401 < (fixed0.length:Int)))) 99 [] (.under rfl) (sI _ _) rfl rfl (fun g5=>by exact trivial) (fun g5=>om) ?_)))))
 refine ae.pL ((!(decide ((fixed0.length:Int) ≤ 40))) && (decide (401 < (fixed0.length:Int)))) 99 [13] (.under rfl) (sI _ _) rfl rfl (fun g6=>⟨g6,trivial⟩) (fun g6=>aw dC rfl (List.length_map _)) (ae.pL ((!(decide ((fixed0.length:Int) ≤ 40))) && (decide (401 < (fixed0.length:Int)))) 99 [14] (.under rfl) (sI _ _) rfl rfl (fun g7=>⟨g7,trivial⟩) (fun g7=>bt rfl rfl) (jg (!(decide ((fixed0.length:Int) ≤ 40))) [12] (fun g8=>⟨g8,trivial⟩) (fun g8=>aY (fun e=>by rw [g8,e]; rfl) rfl rfl rfl rfl) (ae.af ⟨[(1,_),(8,_),(16,.opt (!(decide ((fixed0.length:Int) ≤ 40))) (.one (.bool ((decide (401 < (fixed0.length:Int))) && (decide ((fixed0.length:Int) < 409))))))],[]⟩ rfl (ae.kV h rfl (eo (fun e=>by first | (rw [e]; rfl) | (simp only at e; rw [e]; rfl)) rfl rfl rfl rfl) (fun x_1 h=>?_)))))
 refine Oc om (eK x_1 [] (fun g9=>by exact trivial) (fun g9=>om) (eK x_1 [19] (fun g10=>by exact ⟨g10,trivial⟩) (fun g10=>aw q9 rfl (List.length_map _)) (eK x_1 [20] (fun g11=>by exact ⟨g11,trivial⟩) (fun g11=>lg rfl rfl) (Oc (aY (fun e=>e) rfl rfl rfl rfl) (Oc oa ?_)))))
 refine ae.ag ⟨[(4,B (x_1 && (decide ((links0.length:Int) ≤ 60))))],[]⟩ rfl (ab.ret ?_)
 obtain rfl:=Option.some.inj h
 refine Fin.af ⟨[(4,_)],[]⟩ rfl (Fin.aV [.one (.bool (x_1 && (decide ((links0.length:Int) ≤ 60))))] (.inl rfl) rfl (.cons (.tmp rfl) .nil) ⟨rfl,rfl⟩)
def dg (F:Nat) (n0:Int) (v0c:List Bool):Option Bool :=
 some ((decide (n0 < 0)) || (decide ((v0c.length:Int) ≤ n0)))
theorem fR {F:Nat} {n0:Int} {v0c:List Bool} {r:Bool} (h:dg F n0 v0c = some r):ay Try.prog [] 45 [] [.one (.i n0),.c3 [.sl 1 (v0c.map eB)]] (Is [] (.b (.one (.bool r)))):=by
 unfold dg at h
 refine ay.intro 12 Try.func45 Try.ntmps45 rfl (by simp) fun E=>?_
 show ab _ E ⟨12,[],[],[]⟩ _ ⟨[(0,I n0),(1,.b (.c3 [.sl 1 (v0c.map eB)]))],[]⟩ _
 refine ab.seq (ab.aa ?_)
 refine Oc oa (ae.ag ⟨[(0,I n0),(1,.b (.c3 [.sl 1 (v0c.map eB)]))],[]⟩ rfl (ab.seq (ab.aa ?_)))
 refine Oc om (Oc (bt rfl rfl) (Oc om ?_))
 refine jg (!(decide (n0 < 0))) [] (fun g1=>trivial) (fun g1=>om) (jg (!(decide (n0 < 0))) [] (fun g2=>by exact trivial) (fun g2=>aG rk rfl rfl) (jg (!(decide (n0 < 0))) [8] (fun g3=>by exact ⟨g3,trivial⟩) (fun g3=>aw dC rfl (List.length_map _)) (ae.af ⟨[(6,B (decide (n0 < 0))),(7,.opt (!(decide (n0 < 0))) (.one (.i n0))),(9,.opt (!(decide (n0 < 0))) (.one (.i (v0c.length:Int))))],[]⟩ rfl (jg (!(decide (n0 < 0))) [7,9] (fun g4=>by exact ⟨g4,g4,trivial⟩) (fun g4=>lh rfl rfl) (Oc (eo (fun e=>by first | (rw [e]; rfl) | (simp only at e; rw [e]; rfl)) rfl rfl rfl rfl) (Oc oa ?_))))))
 refine ae.ag ⟨[(3,B ((decide (n0 < 0)) || (decide ((v0c.length:Int) ≤ n0))))],[]⟩ rfl (ab.ret ?_)
 obtain rfl:=Option.some.inj h
 refine Fin.af ⟨[(3,_)],[]⟩ rfl (Fin.aV [.one (.bool ((decide (n0 < 0)) || (decide ((v0c.length:Int) ≤ n0))))] (.inl rfl) rfl (.cons (.tmp rfl) .nil) ⟨rfl,rfl⟩)
def df (F:Nat) (l0:A2) (v0c:List Bool):Option Bool :=
 (dg F l0.a0 v0c).bind fun x_1=>(dc (!x_1) (dg F l0.a1 v0c)).bind fun x_2=>some ((x_1 || x_2) || (decide (l0.a0 = l0.a1)))
theorem jN {F:Nat} {l0:A2} {v0c:List Bool} {r:Bool} (h:df F l0 v0c = some r):ay Try.prog [] 47 [] [.agg ((cy .i64) l0),.c3 [.bY 45 [CP.rp [.sl 1 (v0c.map eB)]]]] (Is [] (.b (.one (.bool r)))):=by
 unfold df at h
 refine ay.intro 21 Try.func47 Try.ntmps47 rfl (by simp) fun E=>?_
 show ab _ E ⟨21,[],[],[]⟩ _ ⟨[(0,.b (.agg ((cy .i64) l0))),(1,.b (.c3 [.bY 45 [CP.rp [.sl 1 (v0c.map eB)]]]))],[]⟩ _
 refine ab.seq (ab.aa ?_)
 refine Oc (op_box (k:=101) rfl rfl) (Oc oa ?_)
 refine ae.ag ⟨[(1,.b (.c3 [.bY 45 [CP.rp [.sl 1 (v0c.map eB)]]])),(2,Pt 101 0)],[(101,.box 44 ((cy .i64) l0))]⟩ rfl (ab.seq (ab.aa ?_))
 refine Oc (aG pe rfl rfl) (Oc (fZ gb (by decide) (by decide) rfl rfl rfl) (Oc (bp az rfl rfl rfl) ?_))
 obtain ⟨x_1,e1,h⟩:=aL h
 refine Oc (gY (pss:=[[.sl 1 (v0c.map eB)]]) (fR e1) s5 rfl rfl rfl trivial rfl rfl) (Oc om ?_)
 refine ae.af ⟨[(1,_),(2,_),(8,B x_1)],[(101,_)]⟩ rfl (jg (!x_1) [] (fun g2=>trivial) (fun g2=>aG pe rfl rfl) (jg (!x_1) [] (fun g3=>trivial) (fun g3=>fZ gb (by decide) (by decide) rfl rfl rfl) (jg (!x_1) [10] (fun g4=>⟨g4,trivial⟩) (fun g4=>bp az rfl rfl rfl) ?_)))
 obtain ⟨x_2,e6,h⟩:=aL h
 refine jg (!x_1) [9,11] (fun g5=>⟨g5,g5,trivial⟩) (fun g5=>gY (pss:=[[.sl 1 (v0c.map eB)]]) (fR (gc e6 g5)) s5 rfl rfl rfl trivial rfl rfl) (Oc (eo (fun e=>by first | (rw [e]; rfl) | (simp only at e; rw [e]; rfl)) rfl rfl rfl rfl) (Oc om ?_))
 refine ae.af ⟨[(2,_),(14,B (x_1 || x_2))],[(101,_)]⟩ rfl (jg (!(x_1 || x_2)) [] (fun g7=>trivial) (fun g7=>fZ gb (by decide) (by decide) rfl rfl rfl) (jg (!(x_1 || x_2)) [15] (fun g8=>⟨g8,trivial⟩) (fun g8=>bp az rfl rfl rfl) (jg (!(x_1 || x_2)) [] (fun g9=>trivial) (fun g9=>fZ gb (by decide) (by decide) rfl rfl rfl) (jg (!(x_1 || x_2)) [17] (fun g10=>⟨g10,trivial⟩) (fun g10=>bp az rfl rfl rfl) (jg (!(x_1 || x_2)) [16,18] (fun g11=>⟨g11,g11,trivial⟩) (fun g11=>dP rfl rfl) ?_)))))
 refine Oc (eo (fun e=>by first | (rw [e]; rfl) | (simp only at e; rw [e]; rfl)) rfl rfl rfl rfl) (Oc oa ?_)
 refine ae.ag ⟨[(3,B ((x_1 || x_2) || (decide (l0.a0 = l0.a1))))],[]⟩ rfl (ab.ret ?_)
 obtain rfl:=Option.some.inj h
 refine Fin.af ⟨[(3,_)],[]⟩ rfl (Fin.aV [.one (.bool ((x_1 || x_2) || (decide (l0.a0 = l0.a1))))] (.inl rfl) rfl (.cons (.tmp rfl) .nil) ⟨rfl,rfl⟩)
def dT (F:Nat) (s0:List A2) (f0:List Bool):Option Int :=
 Option.bind (iter F (fun x_1=>if (decide (x_1 < (s0.length:Int))) = true then ((aE s0 x_1).bind fun x_2=>(df F x_2 f0).bind fun x_3=>if x_3 = true then (some (.inr (.inr x_1))) else (some (.inl (IntKind.i64.wrap (x_1 + 1))))) else (some (.inr (.inl ())))) 0) (iE (fun _=>some (-1)) (fun y=>some y))
theorem jM {F:Nat} {s0:List A2} {f0:List Bool} {r:Int} (h:dT F s0 f0 = some r):ay Try.prog [] 54 [] [.one (.sl 2 (s0.map (cy .i64))),.one (.bY 47 [CP.rp [.bY 45 [CP.rp [.sl 1 (f0.map eB)]]]])] (Is [] (.b (.one (.i r)))):=by
 unfold dT at h
 refine ay.intro 19 Try.func54 Try.ntmps54 rfl (by simp) fun E=>?_
 show ab _ E ⟨19,[],[],[]⟩ _ ⟨[(0,.b (.one (.sl 2 (s0.map (cy .i64))))),(1,.b (.one (.bY 47 [CP.rp [.bY 45 [CP.rp [.sl 1 (f0.map eB)]]]])))],[]⟩ _
 refine ab.seq (ab.aa ?_)
 refine Oc oa (ae.ag ⟨[(0,.b (.one (.sl 2 (s0.map (cy .i64))))),(1,.b (.one (.bY 47 [CP.rp [.bY 45 [CP.rp [.sl 1 (f0.map eB)]]]])))],[]⟩ rfl ?_)
 obtain ⟨v1,h2,h⟩:=aL h
 refine ab.cM (v:=v1) (fun (_:Unit)=>⟨[],[]⟩) (fun z=>.inl z) ?_ ?_
 ·refine ab.seq (ab.aa ?_)
  refine Oc om (Oc (aw q9 rfl (List.length_map _)) (Oc om ?_))
  refine ae.ag ⟨[(0,_),(1,_),(7,I (s0.length:Int)),(8,I 0)],[]⟩ rfl (ab.block (ab.cE h2 (fun (x_1:Int)=>⟨[(0,.b (.one (.sl 2 (s0.map (cy .i64))))),(1,.b (.one (.bY 47 [CP.rp [.bY 45 [CP.rp [.sl 1 (f0.map eB)]]]]))),(7,I (s0.length:Int)),(8,I x_1)],[]⟩) [0,1,7,8] [] rfl ?_))
  rintro x_1 o3 h4 hy5
  refine ab.seq (ab.aa ?_)
  refine Oc (bt rfl rfl) (ae.ag ⟨[(0,_),(1,_),(7,_),(8,_),(9,B (decide (x_1 < (s0.length:Int))))],[]⟩ rfl (ab.seq (ab.ite h4 rfl (fun _ h4=>?_) (fun _ h4=>?_))))
  ·refine ab.skip (Fin.af ⟨[(0,_),(1,_),(7,_),(8,_)],[]⟩ rfl (Fin.then (ab.seq (ab.block (ab.seq (ab.aa ?_))))))
   refine Oc om (Oc oa ?_)
   refine ae.ag ⟨[(0,_),(1,_),(5,I x_1),(7,_),(8,_)],[]⟩ rfl (ab.seq (ab.aa ?_))
   refine Oc om (Oc om (Oc om ?_))
   obtain ⟨x_2,e6,h4⟩:=aL h4
   refine Oc (aK ee (aH e6) (aJ (e:=(cy .i64)) e6) rfl rfl) (Oc (iZ nr rfl rfl rfl) ?_)
   obtain ⟨x_3,e7,h4⟩:=aL h4
   refine Oc (gY (pss:=[[.bY 45 [CP.rp [.sl 1 (f0.map eB)]]]]) (jN e7) goes47 rfl rfl rfl trivial rfl rfl) (ae.ag ⟨[(0,_),(1,_),(5,_),(7,_),(8,_),(16,B x_3)],[]⟩ rfl (ab.ite h4 rfl (fun _ h4=>?_) (fun _ h4=>?_)))
   ·refine ab.seq (ab.aa ?_)
    refine Oc om (Oc oa ?_)
    refine ae.ag ⟨[(4,I x_1)],[]⟩ rfl (ab.ret (Fin.cV (Fin.aN ?_)))
    obtain rfl:=hy5 _ (Option.some.inj h4).symm
    refine Fin.aN (Fin.cV (Fin.aN ?_))
    obtain rfl:=Option.some.inj h
    refine Fin.af ⟨[(4,_)],[]⟩ rfl (Fin.aV [.one (.i x_1)] (.inl rfl) rfl (.cons (.tmp rfl) .nil) ⟨rfl,rfl⟩)
   ·refine ab.skip (Fin.ah (Fin.af ⟨[(0,_),(1,_),(7,_),(8,_)],[]⟩ rfl (Fin.then (ab.aa ?_))))
    refine Oc (aU rfl rfl) (Oc om ?_)
    refine ae.nil ?_
    exact Fin.bG [0,1,7,8] [] (IntKind.i64.wrap (x_1 + 1)) (Option.some.inj h4) rfl
  ·refine ab.exit (Fin.ai ?_)
   obtain rfl:=hy5 _ (Option.some.inj h4).symm
   refine Fin.ai (Fin.aB ?_)
   exact Fin.join [] [] () rfl rfl
 ·rintro _ hv
  subst v1
  refine ab.seq (ab.aa ?_)
  refine Oc oa (ae.ag ⟨[(4,I (-1))],[]⟩ rfl (ab.ret ?_))
  obtain rfl:=Option.some.inj h
  refine Fin.af ⟨[(4,_)],[]⟩ rfl (Fin.aV [.one (.i (-1))] (.inl rfl) rfl (.cons (.tmp rfl) .nil) ⟨rfl,rfl⟩)
def di (F:Nat) (s0:List A2) (f0:List Bool):Option Bool :=
 (dT F s0 f0).bind fun x_1=>some (decide (0 ≤ x_1))
theorem iO {F:Nat} {s0:List A2} {f0:List Bool} {r:Bool} (h:di F s0 f0 = some r):ay Try.prog [] 46 [] [.one (.sl 2 (s0.map (cy .i64))),.one (.bY 47 [CP.rp [.bY 45 [CP.rp [.sl 1 (f0.map eB)]]]])] (Is [] (.b (.one (.bool r)))):=by
 unfold di at h
 refine ay.intro 9 Try.func46 Try.ntmps46 rfl (by simp) fun E=>?_
 show ab _ E ⟨9,[],[],[]⟩ _ ⟨[(0,.b (.one (.sl 2 (s0.map (cy .i64))))),(1,.b (.one (.bY 47 [CP.rp [.bY 45 [CP.rp [.sl 1 (f0.map eB)]]]])))],[]⟩ _
 refine ab.seq (ab.aa ?_)
 refine Oc oa (ae.ag ⟨[(0,.b (.one (.sl 2 (s0.map (cy .i64))))),(1,.b (.one (.bY 47 [CP.rp [.bY 45 [CP.rp [.sl 1 (f0.map eB)]]]])))],[]⟩ rfl (ab.seq (ab.aa ?_)))
 refine Oc om (Oc om ?_)
 obtain ⟨x_1,e1,h⟩:=aL h
 refine Oc (aT (jM e1) goes54 rfl rfl) (Oc (lh rfl rfl) (Oc oa ?_))
 refine ae.ag ⟨[(4,B (decide (0 ≤ x_1)))],[]⟩ rfl (ab.ret ?_)
 obtain rfl:=Option.some.inj h
 refine Fin.af ⟨[(4,_)],[]⟩ rfl (Fin.aV [.one (.bool (decide (0 ≤ x_1)))] (.inl rfl) rfl (.cons (.tmp rfl) .nil) ⟨rfl,rfl⟩)
def bF (F:Nat) (fixed0:List Bool) (links0:List A2):Option Bool :=
 (dc (decide ((fixed0.length:Int) ≤ 401)) (di F links0 fixed0)).bind fun x_1=>some ((decide ((fixed0.length:Int) ≤ 401)) && (!x_1))
theorem cD {F:Nat} {fixed0:List Bool} {links0:List A2} {r:Bool} (h:bF F fixed0 links0 = some r):ay Try.prog [] 29 [] [.one (.sl 1 (fixed0.map eB)),.one (.sl 2 (links0.map (cy .i64)))] (Is [] (.b (.one (.bool r)))):=by
 unfold bF at h
 refine ay.intro 16 Try.func29 Try.ntmps29 rfl (by simp) fun E=>?_
 show ab _ E ⟨16,[],[],[]⟩ _ ⟨[(0,.b (.one (.sl 1 (fixed0.map eB)))),(1,.b (.one (.sl 2 (links0.map (cy .i64)))))],[]⟩ _
 refine ab.seq (ab.aa ?_)
 refine Oc (op_boxR rfl) (Oc oa ?_)
 refine ae.ag ⟨[(1,.b (.one (.sl 2 (links0.map (cy .i64))))),(2,.b (.c3 [.sl 1 (fixed0.map eB)]))],[]⟩ rfl (ab.seq (ab.aa ?_))
 refine Oc (jz rfl) (Oc (bh (k:=101) tz rfl) (Oc (gu pe rfl rfl rfl (Nat.le_of_ble_eq_true rfl) rfl) ?_))
 refine ae.gq 101 rfl (ae.ag ⟨[(1,_),(2,_),(5,.b (.c3 [.bY 45 [CP.rp [.sl 1 (fixed0.map eB)]]]))],[]⟩ rfl (ab.seq (ab.aa ?_)))
 refine Oc (aG rk rfl rfl) (Oc (aw dC rfl (List.length_map _)) (Oc (lg rfl rfl) (Oc om ?_)))
 refine eK (decide ((fixed0.length:Int) ≤ 401)) [] (fun g1=>trivial) (fun g1=>om) (eK (decide ((fixed0.length:Int) ≤ 401)) [] (fun g2=>by exact trivial) (fun g2=>jz rfl) (ae.af ⟨[(10,B (decide ((fixed0.length:Int) ≤ 401))),(11,.opt (decide ((fixed0.length:Int) ≤ 401)) (.one (.sl 2 (links0.map (cy .i64))))),(12,.opt (decide ((fixed0.length:Int) ≤ 401)) (.one (.bY 47 [CP.rp [.bY 45 [CP.rp [.sl 1 (fixed0.map eB)]]]])))],[]⟩ rfl ?_))
 obtain ⟨x_1,e4,h⟩:=aL h
 refine eK (decide ((fixed0.length:Int) ≤ 401)) [11,12] (fun g3=>⟨g3,g3,trivial⟩) (fun g3=>aT (iO (gc e4 g3)) goes46 rfl rfl) (eK (decide ((fixed0.length:Int) ≤ 401)) [13] (fun g5=>⟨g5,trivial⟩) (fun g5=>dO rfl) (Oc (aY (fun e=>e) rfl rfl rfl rfl) (Oc oa ?_)))
 refine ae.ag ⟨[(4,B ((decide ((fixed0.length:Int) ≤ 401)) && (!x_1)))],[]⟩ rfl (ab.ret ?_)
 obtain rfl:=Option.some.inj h
 refine Fin.af ⟨[(4,_)],[]⟩ rfl (Fin.aV [.one (.bool ((decide ((fixed0.length:Int) ≤ 401)) && (!x_1)))] (.inl rfl) rfl (.cons (.tmp rfl) .nil) ⟨rfl,rfl⟩)
def ck (F:Nat):Nat → Int → a7 → Option (Int × a7)
 | 0,_,_=>none
 | n + 1,x0,c0up=>if (!(cO c0up x0)) = true then (some (x0,dD c0up x0 x0)) else (if (decide ((cu c0up x0) = x0)) = true then (some (x0,c0up)) else (Option.bind (ck F n (cu c0up x0) c0up) (cm fun x_1 x_2=>some (x_1,dD x_2 x0 x_1))))
def bC (F:Nat) (x0:Int) (c0up:a7):Option (Int × a7):=ck F F x0 c0up
theorem il {F:Nat}:∀ (n:Nat) {x0:Int} {c0up:a7} {r:Int × a7} (h:ck F n x0 c0up = some r),ay Try.prog [] 48 [(1,.mq c0up)] [.xa [.row 1],.one (.i x0)] (Is [(1,.mq r.2)] (.b (.one (.i r.1)))):=by
 intro n
 induction n with
 | zero=>intro x0 c0up r h; simp [ck] at h
 | succ n ih=>
 intro x0 c0up r h
 unfold ck at h
 refine ay.intro 34 Try.func48 Try.ntmps48 rfl (by simp) fun E=>?_
 show ab _ E ⟨34,[1],[1],[]⟩ _ ⟨[(0,.b (.xa [.row 1])),(1,I x0)],[(1,.mq c0up)]⟩ _
 refine ab.seq (ab.aa ?_)
 refine Oc (kK (k:=101) rfl rfl rfl rfl) (Oc oa ?_)
 refine ae.ag ⟨[(1,I x0),(2,Pt 101 0)],[(1,.mq c0up),(101,.ao 52 [.row 1])]⟩ rfl (ab.seq (ab.aa ?_))
 refine Oc (bN gL rfl rfl) (Oc (aS kD rfl rfl rfl) (Oc om (Oc (r6 ec rfl rfl rfl) (Oc om (Oc (au rfl rfl) ?_)))))
 refine Oc (au rfl rfl) (Oc oa (Oc oa ?_))
 refine ae.ag ⟨[(1,_),(2,_),(5,I (cu c0up x0)),(6,B (cO c0up x0))],[(1,_),(101,_)]⟩ rfl (ab.seq (ab.seq (ab.aa ?_)))
 refine Oc om (Oc (dO rfl) ?_)
 refine ae.ag ⟨[(1,_),(2,_),(5,_),(16,B (!(cO c0up x0)))],[(1,_),(101,_)]⟩ rfl (ab.ite h rfl (fun _ h=>?_) (fun _ h=>?_))
 ·refine ab.seq (ab.aa ?_)
  refine Oc (bN gL rfl rfl) (Oc (aS kD rfl rfl rfl) (Oc om (Oc om (Oc (jZ ec rfl rfl rfl rfl) ?_))))
  refine ae.ag ⟨[(1,_)],[(1,.mq (dD c0up x0 x0))]⟩ rfl (ab.seq (ab.aa ?_))
  refine Oc om (Oc oa ?_)
  refine ae.ag ⟨[(4,I x0)],[(1,_)]⟩ rfl (ab.ret (Fin.aN ?_))
  obtain rfl:=Option.some.inj h
  refine Fin.af ⟨[(4,_)],[(1,_)]⟩ rfl ?_
  exact Fin.result [.one (.i x0)] (.inl rfl) rfl (.cons (.tmp rfl) .nil) ⟨rfl,rfl⟩
 ·refine ab.skip (Fin.af ⟨[(1,_),(2,_),(5,_)],[(1,_),(101,_)]⟩ rfl (Fin.then (ab.seq (ab.seq (ab.aa ?_)))))
  refine Oc om (Oc om (Oc (dP rfl rfl) ?_))
  refine ae.ag ⟨[(1,_),(2,_),(5,_),(24,B (decide ((cu c0up x0) = x0)))],[(1,_),(101,_)]⟩ rfl (ab.ite h rfl (fun _ h=>?_) (fun _ h=>?_))
  ·refine ab.seq (ab.aa ?_)
   refine Oc om (Oc oa ?_)
   refine ae.ag ⟨[(4,I x0)],[(1,_)]⟩ rfl (ab.ret (Fin.aN ?_))
   obtain rfl:=Option.some.inj h
   refine Fin.af ⟨[(4,_)],[(1,_)]⟩ rfl ?_
   exact Fin.result [.one (.i x0)] (.inl rfl) rfl (.cons (.tmp rfl) .nil) ⟨rfl,rfl⟩
  ·refine ab.skip (Fin.af ⟨[(1,_),(2,_),(5,_)],[(1,_),(101,_)]⟩ rfl (Fin.then (ab.seq (ab.aa ?_))))
   refine Oc ((cN cS rfl rfl rfl rfl).k6 rfl) (Oc om ?_)
   obtain ⟨⟨x_1,x_2⟩,e1,h⟩:=aL h
   refine Oc (bo (own_a:=[(1,_)]) (ih e1) mB rfl ⟨rfl,trivial⟩ rfl rfl) (Oc oa ?_)
   refine ae.ag ⟨[(1,_),(2,_),(7,I x_1)],[(1,.mq x_2),(101,_)]⟩ rfl (ab.seq (ab.aa ?_))
   refine Oc (bN gL rfl rfl) (Oc (aS kD rfl rfl rfl) (Oc om (Oc om (Oc (jZ ec rfl rfl rfl rfl) ?_))))
   refine ae.ag ⟨[(7,_)],[(1,.mq (dD x_2 x0 x_1))]⟩ rfl (ab.seq (ab.aa ?_))
   refine Oc om (Oc oa ?_)
   refine ae.ag ⟨[(4,I x_1)],[(1,_)]⟩ rfl (ab.ret ?_)
   obtain rfl:=Option.some.inj h
   refine Fin.af ⟨[(4,_)],[(1,_)]⟩ rfl ?_
   exact Fin.result [.one (.i x_1)] (.inl rfl) rfl (.cons (.tmp rfl) .nil) ⟨rfl,rfl⟩
theorem ct {F:Nat} {x0:Int} {c0up:a7} {r:Int × a7} (h:bC F x0 c0up = some r):ay Try.prog [] 48 [(1,.mq c0up)] [.xa [.row 1],.one (.i x0)] (Is [(1,.mq r.2)] (.b (.one (.i r.1)))):=il F h
def dt (F:Nat) (fixed0:List Bool) (links0:List A2):Option (List Int) :=
 Option.bind (iter F (cm fun out_2 x_3=>if (decide (x_3 < (links0.length:Int))) = true then (Option.bind ((aE links0 x_3).bind fun x_6=>(aE fixed0 x_6.a0).bind fun x_7=>(dc (!x_7) (aE fixed0 x_6.a1)).bind fun x_8=>if ((!x_7) && (!x_8)) = true then ((c9 out_2 [x_3]).bind fun x_9=>some x_9) else (some out_2)) (fun out_5=>some (.inl (out_5,IntKind.i64.wrap (x_3 + 1))))) else (some (.inr out_2))) ([],0)) (fun out_1=>some out_1)
theorem hX (kr0:Nat) {F:Nat} {fixed0:List Bool} {links0:List A2} {r:(List Int)} (h:dt F fixed0 links0 = some r):ay Try.prog [] 49 [] [.one (.sl 1 (fixed0.map eB)),.one (.sl 2 (links0.map (cy .i64)))] (Is [(kr0,.row 3 1 (r.map eI))] (.b (.row kr0))):=by
 unfold dt at h
 refine ay.intro 35 Try.func49 Try.ntmps49 rfl (by simp) fun E=>?_
 show ab _ E ⟨35,[],[],[]⟩ _ ⟨[(0,.b (.one (.sl 1 (fixed0.map eB)))),(1,.b (.one (.sl 2 (links0.map (cy .i64)))))],[]⟩ _
 refine ab.seq (ab.aa ?_)
 refine Oc oa (ae.ag ⟨[(0,.b (.one (.sl 1 (fixed0.map eB)))),(1,.b (.one (.sl 2 (links0.map (cy .i64)))))],[]⟩ rfl (ab.seq (ab.aa ?_)))
 refine Oc oa (ae.ag ⟨[(0,_),(1,_),(5,.b (.one (.nil)))],[]⟩ rfl ?_)
 obtain ⟨v1,h2,h⟩:=aL h
 refine ab.cM (v:=v1) (fun (out_1:List Int)=>⟨[(5,.b (.row 103))],[(103,.row 3 1 (out_1.map eI))]⟩) (fun z=>z) ?_ ?_
 ·refine ab.seq (ab.aa ?_)
  refine Oc om (Oc (aw q9 rfl (List.length_map _)) (Oc om ?_))
  refine ae.ag ⟨[(0,_),(5,_),(8,.b (.one (.sl 2 (links0.map (cy .i64))))),(9,I (links0.length:Int)),(10,I 0)],[]⟩ rfl (ab.block (ab.dY 5 103 1 3 rfl (by decide) rfl (ab.cE h2 (cm fun (out_2:List Int) (x_3:Int)=>⟨[(0,.b (.one (.sl 1 (fixed0.map eB)))),(5,.b (.row 103)),(8,.b (.one (.sl 2 (links0.map (cy .i64))))),(9,I (links0.length:Int)),(10,I x_3)],[(103,.row 3 1 (out_2.map eI))]⟩) [0,5,8,9,10] [103] rfl ?_)))
  rintro ⟨out_2,x_3⟩ o3 h4 hy5
  refine ab.seq (ab.aa ?_)
  refine Oc (bt rfl rfl) (ae.ag ⟨[(0,_),(5,_),(8,_),(9,_),(10,_),(11,B (decide (x_3 < (links0.length:Int))))],[(103,_)]⟩ rfl (ab.seq (ab.ite h4 rfl (fun _ h4=>?_) (fun _ h4=>?_))))
  ·refine ab.skip (Fin.af ⟨[(0,_),(5,_),(8,_),(9,_),(10,_)],[(103,_)]⟩ rfl (Fin.then ?_))
   obtain ⟨v6,h7,h4⟩:=aL h4
   refine ab.cM (v:=v6) (fun (out_5:List Int)=>⟨[(0,.b (.one (.sl 1 (fixed0.map eB)))),(5,.b (.row 103)),(8,.b (.one (.sl 2 (links0.map (cy .i64))))),(9,I (links0.length:Int)),(10,I x_3)],[(103,.row 3 1 (out_5.map eI))]⟩) (fun z=>z) ?_ ?_
   ·refine ab.block (ab.seq (ab.aa ?_))
    refine Oc om ?_
    obtain ⟨x_6,e8,h7⟩:=aL h7
    refine Oc (aK ee (aH e8) (aJ (e:=(cy .i64)) e8) rfl rfl) (Oc (iZ nr rfl rfl rfl) (Oc (bh (k:=104) tB rfl) (Oc oa (Oc (lq nr rfl rfl rfl rfl (Nat.le_of_ble_eq_true rfl) rfl) ?_))))
    refine ae.ag ⟨[(0,_),(5,_),(6,I x_3),(7,Pt 104 0),(8,_),(9,_),(10,_)],[(103,_),(104,.box 44 ((cy .i64) x_6))]⟩ rfl (ab.seq (ab.aa ?_))
    refine Oc om (Oc (fZ gb (by decide) (by decide) rfl rfl rfl) (Oc (bp az rfl rfl rfl) ?_))
    obtain ⟨x_7,e9,h7⟩:=aL h7
    refine Oc (aK gU (aH e9) (aJ (e:=eB) e9) rfl rfl) (Oc (aG jT rfl rfl) (Oc (dO rfl) (Oc om ?_)))
    refine ae.af ⟨[(0,_),(5,_),(6,_),(7,_),(8,_),(9,_),(10,_),(21,B (!x_7))],[(103,_),(104,_)]⟩ rfl (eK (!x_7) [] (fun g10=>trivial) (fun g10=>om) (eK (!x_7) [] (fun g11=>by exact trivial) (fun g11=>fZ gb (by decide) (by decide) rfl rfl rfl) (eK (!x_7) [23] (fun g12=>by exact ⟨g12,trivial⟩) (fun g12=>bp az rfl rfl rfl) ?_)))
    obtain ⟨x_8,e14,h7⟩:=aL h7
    refine eK (!x_7) [22,24] (fun g13=>⟨g13,g13,trivial⟩) (fun g13=>aK gU (aH (gc e14 g13)) (aJ (e:=eB) (gc e14 g13)) rfl rfl) (eK (!x_7) [25] (fun g15=>⟨g15,trivial⟩) (fun g15=>aG jT rfl rfl) (eK (!x_7) [26] (fun g16=>⟨g16,trivial⟩) (fun g16=>dO rfl) (Oc (aY (fun e=>e) rfl rfl rfl rfl) (ae.ag ⟨[(0,_),(5,_),(6,_),(8,_),(9,_),(10,_),(28,B ((!x_7) && (!x_8)))],[(103,_)]⟩ rfl (ab.ite h7 rfl (fun _ h7=>?_) (fun _ h7=>?_))))))
    ·refine ab.aa (Oc om (Oc om (Oc (aF (k:=105) (es:=[x_3].map eI) aq rfl rfl (bf fun _=>rfl) rfl (by decide) (by decide) rfl) ?_)))
     obtain ⟨x_9,e17,h7⟩:=aL h7
     refine Oc (cF aq (fp e17) (fo e17) rfl rfl rfl rfl (c5 e17) rfl) (Oc oa ?_)
     refine ae.nil (Fin.ah ?_)
     exact Fin.join [0,5,8,9,10] [103] x_9 (Option.some.inj h7) rfl
    ·refine ab.skip (Fin.ah ?_)
     exact Fin.join [0,5,8,9,10] [103] out_2 (Option.some.inj h7) rfl
   ·rintro out_5 hv
    subst v6
    refine ab.aa (Oc (aU rfl rfl) (Oc om ?_))
    refine ae.nil ?_
    exact Fin.bG [0,5,8,9,10] [103] (out_5,IntKind.i64.wrap (x_3 + 1)) (Option.some.inj h4) rfl
  ·refine ab.exit (Fin.ai ?_)
   obtain rfl:=hy5 _ (Option.some.inj h4).symm
   refine Fin.ai (Fin.aB ?_)
   exact Fin.join [5] [103] out_2 rfl rfl
 ·rintro out_1 hv
  subst v1
  refine ab.seq (ab.aa ?_)
  refine Oc om (Oc oa ?_)
  refine ae.ag ⟨[(4,.b (.row 103))],[(103,_)]⟩ rfl (ab.ret ?_)
  obtain rfl:=Option.some.inj h
  refine Fin.af ⟨[(4,_)],[(103,_)]⟩ rfl (Fin.lJ 103 kr0 [.row 103] (.inl rfl) rfl (.cons (.tmp rfl) .nil) rfl rfl rfl rfl ⟨rfl,rfl⟩)
def bO (F:Nat) (x0:Int) (y0:Int) (c0up:a7):Option (Bool × a7) :=
 Option.bind (bC F x0 c0up) (cm fun x_1 x_2=>Option.bind (bC F y0 x_2) (cm fun x_3 x_4=>if (decide (x_1 = x_3)) = true then (some (false,x_4)) else (some (true,dD x_4 (max x_1 x_3) (min x_1 x_3)))))
theorem eZ {F:Nat} {x0:Int} {y0:Int} {c0up:a7} {r:Bool × a7} (h:bO F x0 y0 c0up = some r):ay Try.prog [] 44 [(1,.mq c0up)] [.xa [.row 1],.one (.i x0),.one (.i y0)] (Is [(1,.mq r.2)] (.b (.one (.bool r.1)))):=by
 unfold bO at h
 refine ay.intro 26 Try.func44 Try.ntmps44 rfl (by simp) fun E=>?_
 show ab _ E ⟨26,[1],[1],[]⟩ _ ⟨[(0,.b (.xa [.row 1])),(1,I x0),(2,I y0)],[(1,.mq c0up)]⟩ _
 refine ab.seq (ab.aa ?_)
 refine Oc (kK (k:=101) rfl rfl rfl rfl) (Oc oa ?_)
 refine ae.ag ⟨[(1,I x0),(2,I y0),(3,Pt 101 0)],[(1,.mq c0up),(101,.ao 52 [.row 1])]⟩ rfl (ab.seq ?_)
 obtain ⟨⟨x_1,x_2⟩,e1,h⟩:=aL h
 obtain ⟨⟨x_3,x_4⟩,e2,h⟩:=aL h
 refine ab.nu mixed [false,false,true,false,false,true,false,false] [.b (.xa [.row 1]),I x0,I x_1,.b (.xa [.row 1]),I y0,I x_3,I x_1,I x_3] [⟨[false,false,false,false,false,false,false,false],[(1,I x0),(2,I y0),(3,Pt 101 0)],[(1,.mq c0up),(101,.ao 52 [.row 1])],[true,true,true,true,true,true,true,true],[],[5,6,7]⟩,⟨[false,false,true,false,false,false,false,false],[(1,I x0),(2,I y0),(3,Pt 101 0)],[(1,.mq x_2),(101,.ao 52 [.row 1])],[true,true,true,true,true,true,true,true],[0,1,2],[6,7]⟩,⟨[false,false,true,false,false,true,false,false],[(1,I x0),(2,I y0),(3,Pt 101 0)],[(1,.mq x_4),(101,.ao 52 [.row 1])],[true,true,true,true,true,true,true,true],[0,1,2,3,4,5],[]⟩] rfl (⟨by kernel_rfl,⟨⟨.b (.xa [.row 1]),fun _=>rfl,fun _=>.p (by exact (cN cS rfl rfl rfl rfl).k6 rfl)⟩,⟨I x0,fun _=>rfl,fun _=>.p (by exact an rfl)⟩,⟨_,[],I x_1,rfl,fun _=>rfl,rfl,rfl,fun _=>.fO [1,101] (by exact .p (by exact bo (own_a:=[(1,_)]) (ct e1) mB rfl ⟨rfl,trivial⟩ rfl rfl)) (by exact rfl)⟩,⟨.b (.xa [.row 1]),fun _=>rfl,fun _=>.p (by exact (cN cS rfl rfl rfl rfl).k6 rfl)⟩,⟨I y0,fun _=>rfl,fun _=>.p (by exact an rfl)⟩,trivial,trivial,trivial,trivial⟩,⟨by kernel_rfl,⟨trivial,trivial,trivial,⟨.b (.xa [.row 1]),fun _=>rfl,fun _=>.p (by exact (cN cS rfl rfl rfl rfl).k6 rfl)⟩,⟨I y0,fun _=>rfl,fun _=>.p (by exact an rfl)⟩,⟨_,[],I x_3,rfl,fun _=>rfl,rfl,rfl,fun _=>.fO [1,101] (by exact .p (by exact bo (own_a:=[(1,_)]) (ct e2) mB rfl ⟨rfl,trivial⟩ rfl rfl)) (by exact rfl)⟩,trivial,trivial,trivial⟩,⟨by kernel_rfl,⟨trivial,trivial,trivial,trivial,trivial,trivial,⟨I x_1,fun _=>rfl,fun _=>.p (by exact mO rfl)⟩,⟨I x_3,fun _=>rfl,fun _=>.p (by exact mO rfl)⟩,trivial⟩,trivial⟩⟩⟩) rfl rfl rfl [3,7,8] [1,101] (s':=⟨[(3,_),(7,I x_1),(8,I x_3)],[(1,.mq x_4),(101,_)]⟩) rfl (ab.seq (ab.seq (ab.aa ?_)))
 refine Oc om (Oc om (Oc (dP rfl rfl) ?_))
 refine ae.ag ⟨[(3,_),(7,_),(8,_),(17,B (decide (x_1 = x_3)))],[(1,_),(101,_)]⟩ rfl (ab.ite h rfl (fun _ h=>?_) (fun _ h=>?_))
 ·refine ab.seq (ab.aa ?_)
  refine Oc oa (ae.ag ⟨[(6,B false)],[(1,_)]⟩ rfl (ab.ret (Fin.aN ?_)))
  obtain rfl:=Option.some.inj h
  refine Fin.af ⟨[(6,_)],[(1,_)]⟩ rfl ?_
  exact Fin.result [.one (.bool false)] (.inl rfl) rfl (.cons (.tmp rfl) .nil) ⟨rfl,rfl⟩
 ·refine ab.skip (Fin.af ⟨[(3,_),(7,_),(8,_)],[(1,_),(101,_)]⟩ rfl (Fin.then (ab.seq (ab.aa ?_))))
  refine Oc (bN gL rfl rfl) (Oc (aS kD rfl rfl rfl) (Oc om (Oc om (Oc (op_max rfl rfl) (Oc om ?_)))))
  refine ae.af ⟨[(8,_),(19,.b (.row 1)),(22,I (max x_1 x_3)),(23,I x_1)],[(1,_)]⟩ rfl (Oc om (Oc (qC rfl rfl) (Oc (jZ ec rfl rfl rfl rfl) ?_)))
  refine ae.ag ⟨[],[(1,.mq (dD x_4 (max x_1 x_3) (min x_1 x_3)))]⟩ rfl (ab.seq (ab.aa ?_))
  refine Oc oa (ae.ag ⟨[(6,B true)],[(1,_)]⟩ rfl (ab.ret ?_))
  obtain rfl:=Option.some.inj h
  refine Fin.af ⟨[(6,_)],[(1,_)]⟩ rfl ?_
  exact Fin.result [.one (.bool true)] (.inl rfl) rfl (.cons (.tmp rfl) .nil) ⟨rfl,rfl⟩
def cW (F:Nat) (fixed0:List Bool) (links0:List A2):Option (a7 × (List Int)) :=
 Option.bind (iter F (cm fun up_2 x_3=>if (decide (x_3 < (fixed0.length:Int))) = true then (Option.bind ((aE fixed0 x_3).bind fun x_6=>if (!x_6) = true then (Option.bind (bC F x_3 up_2) (cm fun x_7 x_8=>some x_8)) else (some up_2)) (fun up_5=>some (.inl (up_5,IntKind.i64.wrap (x_3 + 1))))) else (some (.inr up_2))) (([]:a7),0)) (fun up_1=>Option.bind ((dt F fixed0 links0).bind fun x_11=>iter F (np fun up_12 out_13 x_14=>if (decide (x_14 < (x_11.length:Int))) = true then (Option.bind ((aE x_11 x_14).bind fun x_19=>(aE links0 x_19).bind fun x_20=>(aE links0 x_19).bind fun x_21=>Option.bind (bO F x_20.a0 x_21.a1 up_12) (cm fun x_22 x_23=>if x_22 = true then ((c9 out_13 [x_19]).bind fun x_24=>some (x_23,x_24)) else (some (x_23,out_13)))) (cm fun up_17 out_18=>some (.inl (up_17,out_18,IntKind.i64.wrap (x_14 + 1))))) else (some (.inr (up_12,out_13)))) (up_1,[],0)) (cm fun up_9 out_10=>some (up_9,out_10)))
theorem fi {F:Nat} {fixed0:List Bool} {links0:List A2} {r:a7 × (List Int)} (h:cW F fixed0 links0 = some r):ay Try.prog [] 30 [] [.one (.sl 1 (fixed0.map eB)),.one (.sl 2 (links0.map (cy .i64)))] (Is [(51,.mq r.1),(52,.row 3 1 (r.2.map eI))] (.eJ [.xa [.row 51],.row 52])):=by
 unfold cW at h
 refine ay.intro 54 Try.func30 Try.ntmps30 rfl (by simp) fun E=>?_
 show ab _ E ⟨54,[],[],[]⟩ _ ⟨[(0,.b (.one (.sl 1 (fixed0.map eB)))),(1,.b (.one (.sl 2 (links0.map (cy .i64)))))],[]⟩ _
 refine ab.seq (ab.aa ?_)
 refine Oc (bh (k:=101) iT rfl) (Oc oa ?_)
 refine ae.ag ⟨[(0,.b (.one (.sl 1 (fixed0.map eB)))),(1,.b (.one (.sl 2 (links0.map (cy .i64))))),(4,Pt 101 0)],[(101,.box 52 [.raw (.map none)])]⟩ rfl (ab.seq (ab.aa ?_))
 refine Oc (iz (k:=102) mu rfl) (Oc ((nW oG rfl rfl).k6 rfl) (Oc (bh (k:=103) iT rfl) ?_))
 refine ae.ow 103 rfl (Oc (fA cS rfl rfl rfl rfl rfl (Nat.le_of_ble_eq_true rfl) rfl) (ae.ag ⟨[(0,.b (.one (.sl 1 (fixed0.map eB)))),(1,.b (.one (.sl 2 (links0.map (cy .i64))))),(4,Pt 101 0),(6,Pt 103 0)],[(101,.box 52 [.raw (.map none)]),(102,.mq ([]:a7)),(103,.ao 52 [.row 102])]⟩ rfl ?_))
 obtain ⟨v1,h2,h⟩:=aL h
 refine ab.cM (v:=v1) (fun (up_1:a7)=>⟨[(0,.b (.one (.sl 1 (fixed0.map eB)))),(1,.b (.one (.sl 2 (links0.map (cy .i64))))),(4,Pt 101 0),(6,Pt 103 0)],[(101,.box 52 [.raw (.map none)]),(102,.mq up_1),(103,.ao 52 [.row 102])]⟩) (fun z=>z) ?_ ?_
 ·refine ab.seq (ab.aa ?_)
  refine Oc om (Oc (aw dC rfl (List.length_map _)) (Oc om ?_))
  refine ae.ag ⟨[(0,_),(1,_),(4,_),(6,_),(14,.b (.one (.sl 1 (fixed0.map eB)))),(15,I (fixed0.length:Int)),(16,I 0)],[(101,_),(102,_),(103,_)]⟩ rfl (ab.block (ab.cE h2 (cm fun (up_2:a7) (x_3:Int)=>⟨[(0,.b (.one (.sl 1 (fixed0.map eB)))),(1,.b (.one (.sl 2 (links0.map (cy .i64))))),(4,Pt 101 0),(6,Pt 103 0),(14,.b (.one (.sl 1 (fixed0.map eB)))),(15,I (fixed0.length:Int)),(16,I x_3)],[(101,.box 52 [.raw (.map none)]),(102,.mq up_2),(103,.ao 52 [.row 102])]⟩) [0,1,4,6,14,15,16] [101,102,103] rfl ?_))
  rintro ⟨up_2,x_3⟩ o3 h4 hy5
  refine ab.seq (ab.aa ?_)
  refine Oc (bt rfl rfl) (ae.ag ⟨[(0,_),(1,_),(4,_),(6,_),(14,_),(15,_),(16,_),(17,B (decide (x_3 < (fixed0.length:Int))))],[(101,_),(102,_),(103,_)]⟩ rfl (ab.seq (ab.ite h4 rfl (fun _ h4=>?_) (fun _ h4=>?_))))
  ·refine ab.skip (Fin.af ⟨[(0,_),(1,_),(4,_),(6,_),(14,_),(15,_),(16,_)],[(101,_),(102,_),(103,_)]⟩ rfl (Fin.then ?_))
   obtain ⟨v6,h7,h4⟩:=aL h4
   refine ab.cM (v:=v6) (fun (up_5:a7)=>⟨[(0,.b (.one (.sl 1 (fixed0.map eB)))),(1,.b (.one (.sl 2 (links0.map (cy .i64))))),(4,Pt 101 0),(6,Pt 103 0),(14,.b (.one (.sl 1 (fixed0.map eB)))),(15,I (fixed0.length:Int)),(16,I x_3)],[(101,.box 52 [.raw (.map none)]),(102,.mq up_5),(103,.ao 52 [.row 102])]⟩) (fun z=>z) ?_ ?_
   ·refine ab.block (ab.seq (ab.aa ?_))
    refine Oc om ?_
    obtain ⟨x_6,e8,h7⟩:=aL h7
    refine Oc (aK gU (aH e8) (aJ (e:=eB) e8) rfl rfl) (Oc (aG jT rfl rfl) (Oc oa (Oc oa ?_)))
    refine ae.ag ⟨[(0,_),(1,_),(4,_),(6,_),(7,I x_3),(8,B x_6),(14,_),(15,_),(16,_)],[(101,_),(102,_),(103,_)]⟩ rfl (ab.seq (ab.aa ?_))
    refine Oc om (Oc (dO rfl) ?_)
    refine ae.ag ⟨[(0,_),(1,_),(4,_),(6,_),(7,_),(14,_),(15,_),(16,_),(22,B (!x_6))],[(101,_),(102,_),(103,_)]⟩ rfl (ab.ite h7 rfl (fun _ h7=>?_) (fun _ h7=>?_))
    ·refine ab.aa (Oc ((cN cS rfl rfl rfl rfl).k6 rfl) (Oc om ?_))
     obtain ⟨⟨x_7,x_8⟩,e9,h7⟩:=aL h7
     refine Oc (bo (own_a:=[(102,_)]) ((ct e9).sw 1 102) mB rfl ⟨rfl,trivial⟩ rfl rfl) (ae.nil (Fin.ah ?_))
     exact Fin.join [0,1,4,6,14,15,16] [101,102,103] x_8 (Option.some.inj h7) rfl
    ·refine ab.skip (Fin.ah ?_)
     exact Fin.join [0,1,4,6,14,15,16] [101,102,103] up_2 (Option.some.inj h7) rfl
   ·rintro up_5 hv
    subst v6
    refine ab.aa (Oc (aU rfl rfl) (Oc om ?_))
    refine ae.nil ?_
    exact Fin.bG [0,1,4,6,14,15,16] [101,102,103] (up_5,IntKind.i64.wrap (x_3 + 1)) (Option.some.inj h4) rfl
  ·refine ab.exit (Fin.ai ?_)
   obtain rfl:=hy5 _ (Option.some.inj h4).symm
   refine Fin.ai (Fin.aB ?_)
   exact Fin.join [0,1,4,6] [101,102,103] up_2 rfl rfl
 ·rintro up_1 hv
  subst v1
  refine ab.seq (ab.aa ?_)
  refine Oc oa (ae.ag ⟨[(0,_),(1,_),(4,_),(6,_),(9,.b (.one (.nil)))],[(101,_),(102,_),(103,_)]⟩ rfl ?_)
  obtain ⟨v10,h11,h⟩:=aL h
  refine ab.cM (v:=v10) (cm fun (up_9:a7) (out_10:List Int)=>⟨[(4,Pt 101 0),(6,Pt 103 0),(9,.b (.row 106))],[(101,.box 52 [.raw (.map none)]),(102,.mq up_9),(103,.ao 52 [.row 102]),(106,.row 3 1 (out_10.map eI))]⟩) (fun z=>z) ?_ ?_
  ·refine ab.seq (ab.aa ?_)
   refine Oc om (Oc om ?_)
   obtain ⟨x_11,e12,h11⟩:=aL h11
   refine Oc (bo (hX 104 e12) s4 rfl trivial rfl rfl) (Oc (fT gm rfl rfl (List.length_map _)) (Oc om ?_))
   refine ae.ag ⟨[(1,_),(4,_),(6,_),(9,_),(29,.b (.row 104)),(30,I (x_11.length:Int)),(31,I 0)],[(101,_),(102,_),(103,_),(104,.row 3 1 (x_11.map eI))]⟩ rfl (ab.block (ab.dY 9 106 1 3 rfl (by decide) rfl (ab.cE h11 (np fun (up_12:a7) (out_13:List Int) (x_14:Int)=>⟨[(1,.b (.one (.sl 2 (links0.map (cy .i64))))),(4,Pt 101 0),(6,Pt 103 0),(9,.b (.row 106)),(29,.b (.row 104)),(30,I (x_11.length:Int)),(31,I x_14)],[(101,.box 52 [.raw (.map none)]),(102,.mq up_12),(103,.ao 52 [.row 102]),(104,.row 3 1 (x_11.map eI)),(106,.row 3 1 (out_13.map eI))]⟩) [1,4,6,9,29,30,31] [101,102,103,104,106] rfl ?_)))
   rintro ⟨up_12,out_13,x_14⟩ o13 h14 hy15
   refine ab.seq (ab.aa ?_)
   refine Oc (bt rfl rfl) (ae.ag ⟨[(1,_),(4,_),(6,_),(9,_),(29,_),(30,_),(31,_),(32,B (decide (x_14 < (x_11.length:Int))))],[(101,_),(102,_),(103,_),(104,_),(106,_)]⟩ rfl (ab.seq (ab.ite h14 rfl (fun _ h14=>?_) (fun _ h14=>?_))))
   ·refine ab.skip (Fin.af ⟨[(1,_),(4,_),(6,_),(9,_),(29,_),(30,_),(31,_)],[(101,_),(102,_),(103,_),(104,_),(106,_)]⟩ rfl (Fin.then ?_))
    obtain ⟨v16,h17,h14⟩:=aL h14
    refine ab.cM (v:=v16) (cm fun (up_17:a7) (out_18:List Int)=>⟨[(1,.b (.one (.sl 2 (links0.map (cy .i64))))),(4,Pt 101 0),(6,Pt 103 0),(9,.b (.row 106)),(29,.b (.row 104)),(30,I (x_11.length:Int)),(31,I x_14)],[(101,.box 52 [.raw (.map none)]),(102,.mq up_17),(103,.ao 52 [.row 102]),(104,.row 3 1 (x_11.map eI)),(106,.row 3 1 (out_18.map eI))]⟩) (fun z=>z) ?_ ?_
    ·refine ab.block (ab.seq (ab.aa ?_))
     obtain ⟨x_19,e18,h17⟩:=aL h17
     refine Oc (ar aq (aH e18) (aW e18) rfl rfl rfl rfl) (Oc (aO (i:=(x_14:Int).toNat) (f:=0) az rfl rfl rfl (aJ (e:=eI) e18) rfl) (Oc oa ?_))
     refine ae.ag ⟨[(1,_),(4,_),(6,_),(9,_),(11,I x_19),(29,_),(30,_),(31,_)],[(101,_),(102,_),(103,_),(104,_),(106,_)]⟩ rfl (ab.seq ?_)
     obtain ⟨x_20,e19,h17⟩:=aL h17
     obtain ⟨x_21,e20,h17⟩:=aL h17
     obtain ⟨⟨x_22,x_23⟩,e21,h17⟩:=aL h17
     refine ab.eC mixed 11 [.b (.xa [.row 102]),.b (.one (.sl 2 (links0.map (cy .i64)))),I x_19,.b (.c3 ((cy .i64) x_20)),.b (.c3 [.i x_20.a0]),I x_20.a0,.b (.one (.sl 2 (links0.map (cy .i64)))),I x_19,.b (.c3 ((cy .i64) x_21)),.b (.c3 [.i x_21.a1]),I x_21.a1] [1,4,6,9,11,29,30,31,46] [101,102,103,104,106] (s':=⟨[(1,_),(4,_),(6,_),(9,_),(11,_),(29,_),(30,_),(31,_),(46,B x_22)],[(101,_),(102,.mq x_23),(103,_),(104,_),(106,_)]⟩) rfl ⟨fun _=>.p ((cN cS rfl rfl rfl rfl).k6 rfl),fun _=>.p om,fun _=>.p om,fun _=>.p (aK ee (aH e19) (aJ (e:=(cy .i64)) e19) rfl rfl),fun _=>.p (iA gb (by decide) (by decide) rfl rfl rfl),fun _=>.p (aG az rfl rfl),fun _=>.p om,fun _=>.p om,fun _=>.p (aK ee (aH e20) (aJ (e:=(cy .i64)) e20) rfl rfl),fun _=>.p (iA gb (by decide) (by decide) rfl rfl rfl),fun _=>.p (aG az rfl rfl),trivial⟩ ⟨_,by exact .p (bo (own_a:=[(102,_)]) ((eZ e21).sw 1 102) s6 rfl ⟨rfl,trivial⟩ rfl rfl),rfl⟩ rfl (ab.ite h17 rfl (fun _ h17=>?_) (fun _ h17=>?_))
     ·refine ab.aa (Oc om (Oc om (Oc (aF (k:=107) (es:=[x_19].map eI) aq rfl rfl (bf fun _=>rfl) rfl (by decide) (by decide) rfl) ?_)))
      obtain ⟨x_24,e22,h17⟩:=aL h17
      refine Oc (cF aq (fp e22) (fo e22) rfl rfl rfl rfl (c5 e22) rfl) (Oc oa ?_)
      refine ae.nil (Fin.ah ?_)
      exact Fin.join [1,4,6,9,29,30,31] [101,102,103,104,106] (x_23,x_24) (Option.some.inj h17) rfl
     ·refine ab.skip (Fin.ah ?_)
      exact Fin.join [1,4,6,9,29,30,31] [101,102,103,104,106] (x_23,out_13) (Option.some.inj h17) rfl
    ·rintro ⟨up_17,out_18⟩ hv
     subst v16
     refine ab.aa (Oc (aU rfl rfl) (Oc om ?_))
     refine ae.nil ?_
     exact Fin.bG [1,4,6,9,29,30,31] [101,102,103,104,106] (up_17,out_18,IntKind.i64.wrap (x_14 + 1)) (Option.some.inj h14) rfl
   ·refine ab.exit (Fin.ai ?_)
    obtain rfl:=hy15 _ (Option.some.inj h14).symm
    refine Fin.ai (Fin.aB ?_)
    exact Fin.join [4,6,9] [101,102,103,106] (up_12,out_13) rfl rfl
  ·rintro ⟨up_9,out_10⟩ hv
   subst v10
   refine ab.seq (ab.aa ?_)
   refine Oc ((cN cS rfl rfl rfl rfl).k6 rfl) (Oc om ?_)
   refine ae.ow 101 rfl (Oc (fA cS rfl rfl rfl rfl rfl (Nat.le_of_ble_eq_true rfl) rfl) (Oc oa ?_))
   refine ae.ag ⟨[(4,Pt 101 0),(5,.b (.row 106))],[(101,.ao 52 [.row 102]),(102,.mq up_9),(106,.row 3 1 (out_10.map eI))]⟩ rfl (ab.ret ?_)
   obtain rfl:=Option.some.inj h
   refine Fin.af ⟨[(4,Pt 101 0),(5,.b (.row 106))],[(101,.ao 52 [.row 102]),(102,.mq up_9),(106,.row 3 1 (out_10.map eI))]⟩ rfl (Fin.rename 102 51 rfl (by decide) rfl (Fin.rename 106 52 rfl (by decide) rfl ?_))
   exact Fin.resultX [51,52] [.xa [.row 51],.row 52] (.inl rfl) rfl (.cons (.xa cS rfl rfl rfl rfl rfl) (.cons (.fj (.tmp rfl)) .nil)) ⟨rfl,rfl⟩
def bB (F:Nat) (c0up:a7):Option ((List (List Int)) × a7) :=
 Option.bind (nJ c0up) (fun ks_1=>(cz F (ks_1)).bind fun x_7=>Option.bind (iter F (un4 fun up_10 at_11 out_12 x_13=>if (decide (x_13 < (x_7.length:Int))) = true then (Option.bind ((aE x_7 x_13).bind fun x_19=>Option.bind (bC F x_19 up_10) (cm fun x_20 x_21=>Option.bind (if (decide (x_20 = x_19)) = true then ((c9 out_12 [[]]).bind fun x_24=>some (dD at_11 x_19 (out_12.length:Int),x_24)) else (some (at_11,out_12))) (cm fun at_22 out_23=>(aE out_23 (cu at_22 x_20)).bind fun x_25=>(c9 x_25 [x_19]).bind fun x_26=>(aE out_23 (cu at_22 x_20)).bind fun x_27=>some (x_21,at_22,out_23.set (cu at_22 x_20:Int).toNat x_26)))) (np fun up_16 at_17 out_18=>some (.inl (up_16,at_17,out_18,IntKind.i64.wrap (x_13 + 1))))) else (some (.inr (out_12,up_10)))) (c0up,([]:a7),[],0)) (cm fun out_8 y_9=>some (out_8,y_9)))
theorem eY {F:Nat} {c0up:a7} {r:(List (List Int)) × a7} (h:bB F c0up = some r):ay Try.prog [] 31 [(1,.mq c0up)] [.xa [.row 1]] (Is [(1,.mq r.2)] (.b (.one (.sl 1 (r.1.map (eL 1 eI)))))):=by
 unfold bB at h
 refine ay.intro 59 Try.func31 Try.ntmps31 rfl (by simp) fun E=>?_
 show ab _ E ⟨59,[1],[1],[]⟩ _ ⟨[(0,.b (.xa [.row 1]))],[(1,.mq c0up)]⟩ _
 refine ab.seq (ab.aa ?_)
 refine Oc (kK (k:=101) rfl rfl rfl rfl) (Oc oa ?_)
 refine ae.ag ⟨[(1,Pt 101 0)],[(1,.mq c0up),(101,.ao 52 [.row 1])]⟩ rfl (ab.seq (ab.aa ?_))
 refine Oc oa (ae.ag ⟨[(1,_),(3,.b (.one (.nil)))],[(1,_),(101,_)]⟩ rfl (ab.seq (ab.seq (ab.aa ?_))))
 refine Oc (bN gL rfl rfl) (Oc (aS kD rfl rfl rfl) (Oc (l5 102 mu rfl rfl (by decide) rfl rfl) ?_))
 refine ae.ag ⟨[(1,_),(3,_),(12,Pt 102 0)],[(101,_),(102,.gB 1 c0up c0up none)]⟩ rfl (ab.dY 3 103 1 3 rfl (by decide) rfl (ab.af ⟨[(1,_),(3,.b (.row 103)),(12,_)],[(101,_),(102,_),(103,.row 3 1 ([].map eI))]⟩ rfl ?_))
 obtain ⟨ks_1,e1,h⟩:=aL h
 obtain ⟨hk2,rfl⟩:=pX e1
 refine ab.block (ab.loop (fun (q:List Int × a7)=>⟨[(1,Pt 101 0),(3,.b (.row 103)),(12,Pt 102 0)],[(101,.ao 52 [.row 1]),(102,.gB 1 c0up q.2 none),(103,.row 3 1 (q.1.map eI))]⟩) (fun q=>(q.1 ++ q.2.map (·.1)).Perm (c0up.map (·.1))) (fun q=>q.2.length) ([],c0up) (by simp) rfl ?_)
 rintro ⟨vis_2,rs_3⟩ hI3
 refine ab.seq (ab.aa ?_)
 refine ae.nextM rfl rfl rfl (fun hr4=>?_) (fun p_4 r_5 r_6 hr4=>?_)
 ·subst hr4
  have hp5:vis_2.Perm (c0up.map (·.1)):=by simpa using hI3
  refine Oc (au rfl rfl) (ae.ag ⟨[(1,_),(3,_),(12,_),(14,B false)],[(101,_),(102,.gB 1 c0up [] none),(103,.row 3 1 (vis_2.map eI))]⟩ rfl (ab.seq (ab.sH rfl (ab.exit (Fin.ai ?_)))))
  refine Fin.ai (Fin.af ⟨[(1,_),(3,_),(12,_)],[(101,_),(102,_),(103,_)]⟩ rfl (Fin.oY 102 rfl rfl (Fin.aB (Fin.af ⟨[(1,_),(3,_)],[(1,.mq c0up),(101,_),(103,_)]⟩ rfl (Fin.then (ab.seq (ab.aa ?_)))))))
  refine Oc om (ae.kM 103 rfl ?_)
  obtain ⟨x_7,e6,h⟩:=aL h
  refine Oc (bo (own_a:=[(103,_)]) ((eG (F:=F) (nV hp5 e6)).sw 1 103) pa rfl ⟨rfl,trivial⟩ rfl rfl) (ae.lz 103 rfl (ae.ag ⟨[(1,_),(3,_)],[(1,_),(101,_),(103,.row 3 1 (x_7.map eI))]⟩ rfl (ab.seq (ab.aa ?_))))
  refine Oc (iz (k:=104) mu rfl) (Oc oa ?_)
  refine ae.ag ⟨[(1,_),(3,_),(5,.b (.row 104))],[(1,_),(101,_),(103,_),(104,.mq ([]:a7))]⟩ rfl (ab.seq (ab.aa ?_))
  refine Oc oa (ae.ag ⟨[(1,_),(3,_),(5,_),(6,.b (.one (.nil)))],[(1,_),(101,_),(103,_),(104,_)]⟩ rfl ?_)
  obtain ⟨v7,h8,h⟩:=aL h
  refine ab.cM (v:=v7) (cm fun (out_8:List (List Int)) (y_9:a7)=>⟨[(6,.b (.row 106))],[(1,.mq y_9),(106,.rr 30 3 1 .none (out_8.map (eR eI)))]⟩) (fun z=>z) ?_ ?_
  ·refine ab.seq (ab.aa ?_)
   refine Oc om (Oc (fT gm rfl rfl (List.length_map _)) (Oc om ?_))
   refine ae.ag ⟨[(1,_),(5,_),(6,_),(24,.b (.row 103)),(25,I (x_7.length:Int)),(26,I 0)],[(1,_),(101,_),(103,_),(104,_)]⟩ rfl (ab.block (ab.lE 6 106 1 30 3 rfl (by decide) rfl (ab.cE h8 (un4 fun (up_10:a7) (at_11:a7) (out_12:List (List Int)) (x_13:Int)=>⟨[(1,Pt 101 0),(5,.b (.row 104)),(6,.b (.row 106)),(24,.b (.row 103)),(25,I (x_7.length:Int)),(26,I x_13)],[(1,.mq up_10),(101,.ao 52 [.row 1]),(103,.row 3 1 (x_7.map eI)),(104,.mq at_11),(106,.rr 30 3 1 .none (out_12.map (eR eI)))]⟩) [1,5,6,24,25,26] [1,101,103,104,106] rfl ?_)))
   rintro ⟨up_10,at_11,out_12,x_13⟩ o9 h10 hy11
   refine ab.seq (ab.aa ?_)
   refine Oc (bt rfl rfl) (ae.ag ⟨[(1,_),(5,_),(6,_),(24,_),(25,_),(26,_),(27,B (decide (x_13 < (x_7.length:Int))))],[(1,_),(101,_),(103,_),(104,_),(106,_)]⟩ rfl (ab.seq (ab.ite h10 rfl (fun _ h10=>?_) (fun _ h10=>?_))))
   ·refine ab.skip (Fin.af ⟨[(1,_),(5,_),(6,_),(24,_),(25,_),(26,_)],[(1,_),(101,_),(103,_),(104,_),(106,_)]⟩ rfl (Fin.then ?_))
    obtain ⟨v12,h13,h10⟩:=aL h10
    refine ab.cM (v:=v12) (np fun (up_16:a7) (at_17:a7) (out_18:List (List Int))=>⟨[(1,Pt 101 0),(5,.b (.row 104)),(6,.b (.row 106)),(24,.b (.row 103)),(25,I (x_7.length:Int)),(26,I x_13)],[(1,.mq up_16),(101,.ao 52 [.row 1]),(103,.row 3 1 (x_7.map eI)),(104,.mq at_17),(106,.rr 30 3 1 .none (out_18.map (eR eI)))]⟩) (fun z=>z) ?_ ?_
    ·refine ab.block (ab.seq (ab.aa ?_))
     obtain ⟨x_19,e14,h13⟩:=aL h13
     refine Oc (ar aq (aH e14) (aW e14) rfl rfl rfl rfl) (Oc (aO (i:=(x_13:Int).toNat) (f:=0) az rfl rfl rfl (aJ (e:=eI) e14) rfl) (Oc oa ?_))
     refine ae.ag ⟨[(1,_),(5,_),(6,_),(8,I x_19),(24,_),(25,_),(26,_)],[(1,_),(101,_),(103,_),(104,_),(106,_)]⟩ rfl (ab.seq (ab.aa ?_))
     refine Oc ((cN cS rfl rfl rfl rfl).k6 rfl) (Oc om ?_)
     obtain ⟨⟨x_20,x_21⟩,e15,h13⟩:=aL h13
     refine Oc (bo (own_a:=[(1,_)]) (ct e15) mB rfl ⟨rfl,trivial⟩ rfl rfl) (Oc oa ?_)
     refine ae.ag ⟨[(1,_),(5,_),(6,_),(8,_),(9,I x_20),(24,_),(25,_),(26,_)],[(1,.mq x_21),(101,_),(103,_),(104,_),(106,_)]⟩ rfl ?_
     obtain ⟨v16,h17,h13⟩:=aL h13
     refine ab.cM (v:=v16) (cm fun (at_22:a7) (out_23:List (List Int))=>⟨[(1,Pt 101 0),(5,.b (.row 104)),(6,.b (.row 106)),(8,I x_19),(9,I x_20),(24,.b (.row 103)),(25,I (x_7.length:Int)),(26,I x_13)],[(1,.mq x_21),(101,.ao 52 [.row 1]),(103,.row 3 1 (x_7.map eI)),(104,.mq at_22),(106,.rr 30 3 1 .none (out_23.map (eR eI)))]⟩) (fun z=>z) ?_ ?_
     ·refine ab.seq (ab.aa ?_)
      refine Oc om (Oc om (Oc (dP rfl rfl) ?_))
      refine ae.ag ⟨[(1,_),(5,_),(6,_),(8,_),(9,_),(24,_),(25,_),(26,_),(35,B (decide (x_20 = x_19)))],[(1,_),(101,_),(103,_),(104,_),(106,_)]⟩ rfl (ab.ite h17 rfl (fun _ h17=>?_) (fun _ h17=>?_))
      ·refine ab.seq (ab.aa ?_)
       refine Oc om (Oc om (Oc om (Oc (lr jI rfl rfl (List.length_map _)) (Oc (jZ ec rfl rfl rfl rfl) ?_))))
       refine ae.ag ⟨[(1,_),(5,_),(6,_),(8,_),(9,_),(24,_),(25,_),(26,_)],[(1,_),(101,_),(103,_),(104,.mq (dD at_11 x_19 (out_12.length:Int))),(106,_)]⟩ rfl (ab.aa (Oc om (Oc (aF (k:=107) (es:=[[.nil]]) fe rfl rfl (fun ps h=>by simp at h; subst h; rfl) rfl (by decide) (by decide) rfl) ?_)))
       obtain ⟨x_24,e18,h17⟩:=aL h17
       refine Oc (kr fe (rr_b e18) (rr_m e18) rfl rfl rfl rfl (sS e18) rfl) (Oc oa ?_)
       refine ae.nil ?_
       exact Fin.join [1,5,6,8,9,24,25,26] [1,101,103,104,106] (dD at_11 x_19 (out_12.length:Int),x_24) (Option.some.inj h17) rfl
      ·refine ab.skip ?_
       exact Fin.join [1,5,6,8,9,24,25,26] [1,101,103,104,106] (at_11,out_12) (Option.some.inj h17) rfl
     ·rintro ⟨at_22,out_23⟩ hv
      subst v16
      refine ab.af ⟨[(1,_),(5,_),(6,_),(8,_),(9,_),(24,_),(25,_),(26,_)],[(1,_),(101,_),(103,_),(104,_),(106,_)]⟩ rfl ?_
      obtain ⟨x_25,e19,h13⟩:=aL h13
      obtain ⟨x_26,e20,h13⟩:=aL h13
      obtain ⟨x_27,e21,h13⟩:=aL h13
      refine ab.gp mixed [false,false,false,false,false,false,false,false,false,true,false,false,true,false,true] [.b (.row 106),.b (.row 104),I x_20,I (cu at_22 x_20),.b (.row 106),.b (.row 104),I x_20,I (cu at_22 x_20),.b (.bw 106 (cu at_22 x_20:Int).toNat),.b (.row 108),I x_19,.b (.one (.sl 1 ([x_19].map eI))),.b (.row 110),.b (.bw 106 (cu at_22 x_20:Int).toNat),B true] [⟨[false,false,false,false,false,false,false,false,false,false,false,false,false,false,false],[(1,Pt 101 0),(5,.b (.row 104)),(6,.b (.row 106)),(8,I x_19),(9,I x_20),(24,.b (.row 103)),(25,I (x_7.length:Int)),(26,I x_13)],[(1,.mq x_21),(101,.ao 52 [.row 1]),(103,.row 3 1 (x_7.map eI)),(104,.mq at_22),(106,.rr 30 3 1 .none (out_23.map (eR eI)))],[true,true,true,true,true,true,true,true,true,true,true,true,true,true,true],[],[12,13,14]⟩,⟨[false,false,false,false,false,false,false,false,false,true,false,false,false,false,false],[(1,Pt 101 0),(5,.b (.row 104)),(6,.b (.row 106)),(8,I x_19),(9,I x_20),(24,.b (.row 103)),(25,I (x_7.length:Int)),(26,I x_13)],[(1,.mq x_21),(101,.ao 52 [.row 1]),(103,.row 3 1 (x_7.map eI)),(104,.mq at_22),(106,.rr 30 3 1 (.at (cu at_22 x_20:Int).toNat) (out_23.map (eR eI))),(108,.row 3 1 (x_25.map eI))],[true,true,true,true,true,true,true,true,true,true,true,true,true,true,true],[4,5,6,7,8,9],[13,14]⟩,⟨[false,false,false,false,false,false,false,false,false,true,false,false,true,false,false],[(1,Pt 101 0),(5,.b (.row 104)),(6,.b (.row 106)),(8,I x_19),(9,I x_20),(24,.b (.row 103)),(25,I (x_7.length:Int)),(26,I x_13)],[(1,.mq x_21),(101,.ao 52 [.row 1]),(103,.row 3 1 (x_7.map eI)),(104,.mq at_22),(106,.rr 30 3 1 (.at (cu at_22 x_20:Int).toNat) (out_23.map (eR eI))),(110,.row 3 1 (x_26.map eI))],[true,true,true,true,true,true,true,true,true,true,true,true,true,true,true],[4,5,6,7,8,9,10,11,12],[]⟩,⟨[false,false,false,false,false,false,false,false,false,true,false,false,true,false,true],[(1,Pt 101 0),(5,.b (.row 104)),(6,.b (.row 106)),(8,I x_19),(9,I x_20),(24,.b (.row 103)),(25,I (x_7.length:Int)),(26,I x_13)],[(1,.mq x_21),(101,.ao 52 [.row 1]),(103,.row 3 1 (x_7.map eI)),(104,.mq at_22),(106,.rr 30 3 1 .none ((out_23.set (cu at_22 x_20:Int).toNat x_26).map (eR eI)))],[true,true,true,true,true,true,true,true,true,true,true,true,false,true,true],[0,1,2,3,4,5,6,7,8,9,10,11,12,13,14],[]⟩] rfl (⟨by kernel_rfl,⟨⟨.b (.row 106),fun _=>rfl,fun _=>.p (by exact an rfl)⟩,⟨.b (.row 104),fun _=>rfl,fun _=>.p (by exact an rfl)⟩,⟨I x_20,fun _=>rfl,fun _=>.p (by exact an rfl)⟩,⟨I (cu at_22 x_20),fun _=>rfl,fun _=>.p (by exact fq ec rfl rfl rfl)⟩,⟨.b (.row 106),fun _=>rfl,fun _=>.p (by exact an rfl)⟩,⟨.b (.row 104),fun _=>rfl,fun _=>.p (by exact an rfl)⟩,⟨I x_20,fun _=>rfl,fun _=>.p (by exact an rfl)⟩,⟨I (cu at_22 x_20),fun _=>rfl,fun _=>.p (by exact fq ec rfl rfl rfl)⟩,⟨.b (.bw 106 (cu at_22 x_20:Int).toNat),fun _=>rfl,fun _=>.p (by exact dw fe (aH e19) (aW e19) rfl rfl rfl rfl)⟩,⟨_,[108],.b (.row 108),rfl,fun _=>rfl,rfl,rfl,fun _=>.fO [1,101,103,104,106,108] (by exact .p (by exact jv (i:=(cu at_22 x_20:Int).toNat) 108 aZ rfl rfl rfl (aJ (e:=eR eI) e19) (by decide) rfl rfl)) (by exact rfl)⟩,⟨I x_19,fun _=>rfl,fun _=>.p (by exact an rfl)⟩,⟨.b (.one (.sl 1 ([x_19].map eI))),fun _=>rfl,fun _=>.p (by exact cB (es:=[x_19].map eI) aq rfl rfl (bf fun _=>rfl) rfl (by decide) (by decide))⟩,trivial,trivial,trivial,trivial⟩,⟨by kernel_rfl,⟨⟨.b (.row 106),fun _=>rfl,fun _=>.p (by exact an rfl)⟩,⟨.b (.row 104),fun _=>rfl,fun _=>.p (by exact an rfl)⟩,⟨I x_20,fun _=>rfl,fun _=>.p (by exact an rfl)⟩,⟨I (cu at_22 x_20),fun _=>rfl,fun _=>.p (by exact fq ec rfl rfl rfl)⟩,trivial,trivial,trivial,trivial,trivial,trivial,⟨I x_19,fun _=>rfl,fun _=>.p (by exact an rfl)⟩,⟨.b (.one (.sl 1 ([x_19].map eI))),fun _=>rfl,fun _=>.p (by exact cB (es:=[x_19].map eI) aq rfl rfl (bf fun _=>rfl) rfl (by decide) (by decide))⟩,⟨_,[110],.b (.row 110),rfl,fun _=>rfl,rfl,rfl,fun _=>.fO [1,101,103,104,106,110] (by exact .p (by exact l7 (k2:=110) aq (fp e20) (fo e20) rfl rfl rfl (c5 e20) rfl rfl rfl rfl rfl)) (by exact rfl)⟩,trivial,trivial,trivial⟩,⟨by kernel_rfl,⟨⟨.b (.row 106),fun _=>rfl,fun _=>.p (by exact an rfl)⟩,⟨.b (.row 104),fun _=>rfl,fun _=>.p (by exact an rfl)⟩,⟨I x_20,fun _=>rfl,fun _=>.p (by exact an rfl)⟩,⟨I (cu at_22 x_20),fun _=>rfl,fun _=>.p (by exact fq ec rfl rfl rfl)⟩,trivial,trivial,trivial,trivial,trivial,trivial,trivial,trivial,trivial,⟨.b (.bw 106 (cu at_22 x_20:Int).toNat),fun _=>rfl,fun _=>.p (by exact dw fe (aH e21) (aW e21) rfl rfl rfl rfl)⟩,⟨_,[110],.b (.one .any),rfl,(fun e=>by simp at e),rfl,rfl,fun _=>.fO [1,101,103,104,106] (by exact .p (by exact iy aZ rfl rfl rfl rfl rfl (fl e21) (by decide) (nt _ _ _ _))) (by exact rfl)⟩,trivial⟩,⟨by kernel_rfl,⟨trivial,trivial,trivial,trivial,trivial,trivial,trivial,trivial,trivial,trivial,trivial,trivial,trivial,trivial,trivial,trivial⟩,trivial⟩⟩⟩⟩) rfl rfl rfl [1,5,6,24,25,26] [1,101,103,104,106] (s':=⟨[(1,_),(5,_),(6,_),(24,_),(25,_),(26,_)],[(1,_),(101,_),(103,_),(104,_),(106,.rr 30 3 1 .none ((out_23.set (cu at_22 x_20:Int).toNat x_26).map (eR eI)))]⟩) rfl ?_
      refine Fin.ah ?_
      exact Fin.join [1,5,6,24,25,26] [1,101,103,104,106] (x_21,at_22,out_23.set (cu at_22 x_20:Int).toNat x_26) (Option.some.inj h13) rfl
    ·rintro ⟨up_16,at_17,out_18⟩ hv
     subst v12
     refine ab.aa (Oc (aU rfl rfl) (Oc om ?_))
     refine ae.nil ?_
     exact Fin.bG [1,5,6,24,25,26] [1,101,103,104,106] (up_16,at_17,out_18,IntKind.i64.wrap (x_13 + 1)) (Option.some.inj h10) rfl
   ·refine ab.exit (Fin.ai ?_)
    obtain rfl:=hy11 _ (Option.some.inj h10).symm
    refine Fin.ai (Fin.aB ?_)
    exact Fin.join [6] [1,106] (out_12,up_10) rfl rfl
  ·rintro ⟨out_8,y_9⟩ hv
   subst v7
   refine ab.seq (ab.aa ?_)
   refine Oc om (Oc oa ?_)
   refine ae.ag ⟨[(2,.b (.row 106))],[(1,_),(106,_)]⟩ rfl (ab.ret ?_)
   obtain rfl:=Option.some.inj h
   refine Fin.af ⟨[(2,_)],[(1,_),(106,_)]⟩ rfl (Fin.kJ 106 rfl (rr_sl _) (Fin.af ⟨[(2,.b (.one (.sl 1 (out_8.map (eL 1 eI)))))],[(1,_)]⟩ rfl ?_))
   exact Fin.result [.one (.sl 1 (out_8.map (eL 1 eI)))] (.inl rfl) rfl (.cons (.tmp rfl) .nil) ⟨rfl,rfl⟩
 ·subst hr4
  refine Oc (au rfl rfl) (ae.ag ⟨[(1,_),(3,_),(12,_),(14,B true)],[(101,_),(102,.gB 1 c0up (r_5 ++ r_6) (some p_4)),(103,.row 3 1 (vis_2.map eI))]⟩ rfl (ab.seq (ab.sG rfl (ab.skip (Fin.af ⟨[(1,_),(3,_),(12,_)],[(101,_),(102,_),(103,_)]⟩ rfl ?_)))))
  refine Fin.then (ab.block (ab.seq (ab.aa ?_)))
  refine Oc (l6 rfl rfl) (Oc (au rfl rfl) (Oc oa ?_))
  refine ae.ag ⟨[(1,_),(3,_),(4,I p_4.1),(12,_)],[(101,_),(102,_),(103,_)]⟩ rfl (ab.aa (Oc om (Oc om (Oc (aF (k:=111) (es:=[p_4.1].map eI) aq rfl rfl (bf fun _=>rfl) rfl (by decide) (by decide) rfl) (Oc (cF aq (fp (jt (ga hI3 hk2))) (fo (jt (ga hI3 hk2))) rfl rfl rfl rfl (c5 (jt (ga hI3 hk2))) rfl) (Oc oa ?_))))))
  refine ae.nil (Fin.ah (Fin.af ⟨[(1,_),(3,_),(12,_)],[(101,_),(102,_),(103,.row 3 1 ((vis_2 ++ [p_4.1]).map eI))]⟩ rfl (Fin.oX 102 rfl ?_)))
  exact Fin.again ((vis_2 ++ [p_4.1]),r_5 ++ r_6) (m8 hI3) (by simp) rfl
def cQ (F:Nat) (c0up:a7):Option ((List (List Int)) × a7) :=
 Option.bind (nJ c0up) (fun ks_1=>(cz F (ks_1)).bind fun x_7=>Option.bind (iter F (un4 fun up_10 at_11 out_12 x_13=>if (decide (x_13 < (x_7.length:Int))) = true then (Option.bind ((aE x_7 x_13).bind fun x_19=>Option.bind (bC F x_19 up_10) (cm fun x_20 x_21=>Option.bind (if (decide (x_20 = x_19)) = true then ((c9 out_12 [[]]).bind fun x_24=>some (dD at_11 x_19 (out_12.length:Int),x_24)) else (some (at_11,out_12))) (cm fun at_22 out_23=>(aE out_23 (cu at_22 x_20)).bind fun x_25=>(c9 x_25 [x_19]).bind fun x_26=>(aE out_23 (cu at_22 x_20)).bind fun x_27=>some (x_21,at_22,out_23.set (cu at_22 x_20:Int).toNat x_26)))) (np fun up_16 at_17 out_18=>some (.inl (up_16,at_17,out_18,IntKind.i64.wrap (x_13 + 1))))) else (some (.inr (out_12,up_10)))) (c0up,([]:a7),[],0)) (cm fun out_8 y_9=>some (out_8,y_9)))
theorem gJ {F:Nat} {c0up:a7} {r:(List (List Int)) × a7} (h:cQ F c0up = some r):ay Try.prog [] 31 [(1,.mq c0up)] [.xa [.row 1]] (Is [(1,.mq r.2),(51,.rr 30 3 1 .none (r.1.map (eR eI)))] (.b (.row 51))):=by
 unfold cQ at h
 refine ay.intro 59 Try.func31 Try.ntmps31 rfl (by simp) fun E=>?_
 show ab _ E ⟨59,[1],[1],[]⟩ _ ⟨[(0,.b (.xa [.row 1]))],[(1,.mq c0up)]⟩ _
 refine ab.seq (ab.aa ?_)
 refine Oc (kK (k:=101) rfl rfl rfl rfl) (Oc oa ?_)
 refine ae.ag ⟨[(1,Pt 101 0)],[(1,.mq c0up),(101,.ao 52 [.row 1])]⟩ rfl (ab.seq (ab.aa ?_))
 refine Oc oa (ae.ag ⟨[(1,_),(3,.b (.one (.nil)))],[(1,_),(101,_)]⟩ rfl (ab.seq (ab.seq (ab.aa ?_))))
 refine Oc (bN gL rfl rfl) (Oc (aS kD rfl rfl rfl) (Oc (l5 102 mu rfl rfl (by decide) rfl rfl) ?_))
 refine ae.ag ⟨[(1,_),(3,_),(12,Pt 102 0)],[(101,_),(102,.gB 1 c0up c0up none)]⟩ rfl (ab.dY 3 103 1 3 rfl (by decide) rfl (ab.af ⟨[(1,_),(3,.b (.row 103)),(12,_)],[(101,_),(102,_),(103,.row 3 1 ([].map eI))]⟩ rfl ?_))
 obtain ⟨ks_1,e1,h⟩:=aL h
 obtain ⟨hk2,rfl⟩:=pX e1
 refine ab.block (ab.loop (fun (q:List Int × a7)=>⟨[(1,Pt 101 0),(3,.b (.row 103)),(12,Pt 102 0)],[(101,.ao 52 [.row 1]),(102,.gB 1 c0up q.2 none),(103,.row 3 1 (q.1.map eI))]⟩) (fun q=>(q.1 ++ q.2.map (·.1)).Perm (c0up.map (·.1))) (fun q=>q.2.length) ([],c0up) (by simp) rfl ?_)
 rintro ⟨vis_2,rs_3⟩ hI3
 refine ab.seq (ab.aa ?_)
 refine ae.nextM rfl rfl rfl (fun hr4=>?_) (fun p_4 r_5 r_6 hr4=>?_)
 ·subst hr4
  have hp5:vis_2.Perm (c0up.map (·.1)):=by simpa using hI3
  refine Oc (au rfl rfl) (ae.ag ⟨[(1,_),(3,_),(12,_),(14,B false)],[(101,_),(102,.gB 1 c0up [] none),(103,.row 3 1 (vis_2.map eI))]⟩ rfl (ab.seq (ab.sH rfl (ab.exit (Fin.ai ?_)))))
  refine Fin.ai (Fin.af ⟨[(1,_),(3,_),(12,_)],[(101,_),(102,_),(103,_)]⟩ rfl (Fin.oY 102 rfl rfl (Fin.aB (Fin.af ⟨[(1,_),(3,_)],[(1,.mq c0up),(101,_),(103,_)]⟩ rfl (Fin.then (ab.seq (ab.aa ?_)))))))
  refine Oc om (ae.kM 103 rfl ?_)
  obtain ⟨x_7,e6,h⟩:=aL h
  refine Oc (bo (own_a:=[(103,_)]) ((eG (F:=F) (nV hp5 e6)).sw 1 103) pa rfl ⟨rfl,trivial⟩ rfl rfl) (ae.lz 103 rfl (ae.ag ⟨[(1,_),(3,_)],[(1,_),(101,_),(103,.row 3 1 (x_7.map eI))]⟩ rfl (ab.seq (ab.aa ?_))))
  refine Oc (iz (k:=104) mu rfl) (Oc oa ?_)
  refine ae.ag ⟨[(1,_),(3,_),(5,.b (.row 104))],[(1,_),(101,_),(103,_),(104,.mq ([]:a7))]⟩ rfl (ab.seq (ab.aa ?_))
  refine Oc oa (ae.ag ⟨[(1,_),(3,_),(5,_),(6,.b (.one (.nil)))],[(1,_),(101,_),(103,_),(104,_)]⟩ rfl ?_)
  obtain ⟨v7,h8,h⟩:=aL h
  refine ab.cM (v:=v7) (cm fun (out_8:List (List Int)) (y_9:a7)=>⟨[(6,.b (.row 106))],[(1,.mq y_9),(106,.rr 30 3 1 .none (out_8.map (eR eI)))]⟩) (fun z=>z) ?_ ?_
  ·refine ab.seq (ab.aa ?_)
   refine Oc om (Oc (fT gm rfl rfl (List.length_map _)) (Oc om ?_))
   refine ae.ag ⟨[(1,_),(5,_),(6,_),(24,.b (.row 103)),(25,I (x_7.length:Int)),(26,I 0)],[(1,_),(101,_),(103,_),(104,_)]⟩ rfl (ab.block (ab.lE 6 106 1 30 3 rfl (by decide) rfl (ab.cE h8 (un4 fun (up_10:a7) (at_11:a7) (out_12:List (List Int)) (x_13:Int)=>⟨[(1,Pt 101 0),(5,.b (.row 104)),(6,.b (.row 106)),(24,.b (.row 103)),(25,I (x_7.length:Int)),(26,I x_13)],[(1,.mq up_10),(101,.ao 52 [.row 1]),(103,.row 3 1 (x_7.map eI)),(104,.mq at_11),(106,.rr 30 3 1 .none (out_12.map (eR eI)))]⟩) [1,5,6,24,25,26] [1,101,103,104,106] rfl ?_)))
   rintro ⟨up_10,at_11,out_12,x_13⟩ o9 h10 hy11
   refine ab.seq (ab.aa ?_)
   refine Oc (bt rfl rfl) (ae.ag ⟨[(1,_),(5,_),(6,_),(24,_),(25,_),(26,_),(27,B (decide (x_13 < (x_7.length:Int))))],[(1,_),(101,_),(103,_),(104,_),(106,_)]⟩ rfl (ab.seq (ab.ite h10 rfl (fun _ h10=>?_) (fun _ h10=>?_))))
   ·refine ab.skip (Fin.af ⟨[(1,_),(5,_),(6,_),(24,_),(25,_),(26,_)],[(1,_),(101,_),(103,_),(104,_),(106,_)]⟩ rfl (Fin.then ?_))
    obtain ⟨v12,h13,h10⟩:=aL h10
    refine ab.cM (v:=v12) (np fun (up_16:a7) (at_17:a7) (out_18:List (List Int))=>⟨[(1,Pt 101 0),(5,.b (.row 104)),(6,.b (.row 106)),(24,.b (.row 103)),(25,I (x_7.length:Int)),(26,I x_13)],[(1,.mq up_16),(101,.ao 52 [.row 1]),(103,.row 3 1 (x_7.map eI)),(104,.mq at_17),(106,.rr 30 3 1 .none (out_18.map (eR eI)))]⟩) (fun z=>z) ?_ ?_
    ·refine ab.block (ab.seq (ab.aa ?_))
     obtain ⟨x_19,e14,h13⟩:=aL h13
     refine Oc (ar aq (aH e14) (aW e14) rfl rfl rfl rfl) (Oc (aO (i:=(x_13:Int).toNat) (f:=0) az rfl rfl rfl (aJ (e:=eI) e14) rfl) (Oc oa ?_))
     refine ae.ag ⟨[(1,_),(5,_),(6,_),(8,I x_19),(24,_),(25,_),(26,_)],[(1,_),(101,_),(103,_),(104,_),(106,_)]⟩ rfl (ab.seq (ab.aa ?_))
     refine Oc ((cN cS rfl rfl rfl rfl).k6 rfl) (Oc om ?_)
     obtain ⟨⟨x_20,x_21⟩,e15,h13⟩:=aL h13
     refine Oc (bo (own_a:=[(1,_)]) (ct e15) mB rfl ⟨rfl,trivial⟩ rfl rfl) (Oc oa ?_)
     refine ae.ag ⟨[(1,_),(5,_),(6,_),(8,_),(9,I x_20),(24,_),(25,_),(26,_)],[(1,.mq x_21),(101,_),(103,_),(104,_),(106,_)]⟩ rfl ?_
     obtain ⟨v16,h17,h13⟩:=aL h13
     refine ab.cM (v:=v16) (cm fun (at_22:a7) (out_23:List (List Int))=>⟨[(1,Pt 101 0),(5,.b (.row 104)),(6,.b (.row 106)),(8,I x_19),(9,I x_20),(24,.b (.row 103)),(25,I (x_7.length:Int)),(26,I x_13)],[(1,.mq x_21),(101,.ao 52 [.row 1]),(103,.row 3 1 (x_7.map eI)),(104,.mq at_22),(106,.rr 30 3 1 .none (out_23.map (eR eI)))]⟩) (fun z=>z) ?_ ?_
     ·refine ab.seq (ab.aa ?_)
      refine Oc om (Oc om (Oc (dP rfl rfl) ?_))
      refine ae.ag ⟨[(1,_),(5,_),(6,_),(8,_),(9,_),(24,_),(25,_),(26,_),(35,B (decide (x_20 = x_19)))],[(1,_),(101,_),(103,_),(104,_),(106,_)]⟩ rfl (ab.ite h17 rfl (fun _ h17=>?_) (fun _ h17=>?_))
      ·refine ab.seq (ab.aa ?_)
       refine Oc om (Oc om (Oc om (Oc (lr jI rfl rfl (List.length_map _)) (Oc (jZ ec rfl rfl rfl rfl) ?_))))
       refine ae.ag ⟨[(1,_),(5,_),(6,_),(8,_),(9,_),(24,_),(25,_),(26,_)],[(1,_),(101,_),(103,_),(104,.mq (dD at_11 x_19 (out_12.length:Int))),(106,_)]⟩ rfl (ab.aa (Oc om (Oc (aF (k:=107) (es:=[[.nil]]) fe rfl rfl (fun ps h=>by simp at h; subst h; rfl) rfl (by decide) (by decide) rfl) ?_)))
       obtain ⟨x_24,e18,h17⟩:=aL h17
       refine Oc (kr fe (rr_b e18) (rr_m e18) rfl rfl rfl rfl (sS e18) rfl) (Oc oa ?_)
       refine ae.nil ?_
       exact Fin.join [1,5,6,8,9,24,25,26] [1,101,103,104,106] (dD at_11 x_19 (out_12.length:Int),x_24) (Option.some.inj h17) rfl
      ·refine ab.skip ?_
       exact Fin.join [1,5,6,8,9,24,25,26] [1,101,103,104,106] (at_11,out_12) (Option.some.inj h17) rfl
     ·rintro ⟨at_22,out_23⟩ hv
      subst v16
      refine ab.af ⟨[(1,_),(5,_),(6,_),(8,_),(9,_),(24,_),(25,_),(26,_)],[(1,_),(101,_),(103,_),(104,_),(106,_)]⟩ rfl ?_
      obtain ⟨x_25,e19,h13⟩:=aL h13
      obtain ⟨x_26,e20,h13⟩:=aL h13
      obtain ⟨x_27,e21,h13⟩:=aL h13
      refine ab.gp mixed [false,false,false,false,false,false,false,false,false,true,false,false,true,false,true] [.b (.row 106),.b (.row 104),I x_20,I (cu at_22 x_20),.b (.row 106),.b (.row 104),I x_20,I (cu at_22 x_20),.b (.bw 106 (cu at_22 x_20:Int).toNat),.b (.row 108),I x_19,.b (.one (.sl 1 ([x_19].map eI))),.b (.row 110),.b (.bw 106 (cu at_22 x_20:Int).toNat),B true] [⟨[false,false,false,false,false,false,false,false,false,false,false,false,false,false,false],[(1,Pt 101 0),(5,.b (.row 104)),(6,.b (.row 106)),(8,I x_19),(9,I x_20),(24,.b (.row 103)),(25,I (x_7.length:Int)),(26,I x_13)],[(1,.mq x_21),(101,.ao 52 [.row 1]),(103,.row 3 1 (x_7.map eI)),(104,.mq at_22),(106,.rr 30 3 1 .none (out_23.map (eR eI)))],[true,true,true,true,true,true,true,true,true,true,true,true,true,true,true],[],[12,13,14]⟩,⟨[false,false,false,false,false,false,false,false,false,true,false,false,false,false,false],[(1,Pt 101 0),(5,.b (.row 104)),(6,.b (.row 106)),(8,I x_19),(9,I x_20),(24,.b (.row 103)),(25,I (x_7.length:Int)),(26,I x_13)],[(1,.mq x_21),(101,.ao 52 [.row 1]),(103,.row 3 1 (x_7.map eI)),(104,.mq at_22),(106,.rr 30 3 1 (.at (cu at_22 x_20:Int).toNat) (out_23.map (eR eI))),(108,.row 3 1 (x_25.map eI))],[true,true,true,true,true,true,true,true,true,true,true,true,true,true,true],[4,5,6,7,8,9],[13,14]⟩,⟨[false,false,false,false,false,false,false,false,false,true,false,false,true,false,false],[(1,Pt 101 0),(5,.b (.row 104)),(6,.b (.row 106)),(8,I x_19),(9,I x_20),(24,.b (.row 103)),(25,I (x_7.length:Int)),(26,I x_13)],[(1,.mq x_21),(101,.ao 52 [.row 1]),(103,.row 3 1 (x_7.map eI)),(104,.mq at_22),(106,.rr 30 3 1 (.at (cu at_22 x_20:Int).toNat) (out_23.map (eR eI))),(110,.row 3 1 (x_26.map eI))],[true,true,true,true,true,true,true,true,true,true,true,true,true,true,true],[4,5,6,7,8,9,10,11,12],[]⟩,⟨[false,false,false,false,false,false,false,false,false,true,false,false,true,false,true],[(1,Pt 101 0),(5,.b (.row 104)),(6,.b (.row 106)),(8,I x_19),(9,I x_20),(24,.b (.row 103)),(25,I (x_7.length:Int)),(26,I x_13)],[(1,.mq x_21),(101,.ao 52 [.row 1]),(103,.row 3 1 (x_7.map eI)),(104,.mq at_22),(106,.rr 30 3 1 .none ((out_23.set (cu at_22 x_20:Int).toNat x_26).map (eR eI)))],[true,true,true,true,true,true,true,true,true,true,true,true,false,true,true],[0,1,2,3,4,5,6,7,8,9,10,11,12,13,14],[]⟩] rfl (⟨by kernel_rfl,⟨⟨.b (.row 106),fun _=>rfl,fun _=>.p (by exact an rfl)⟩,⟨.b (.row 104),fun _=>rfl,fun _=>.p (by exact an rfl)⟩,⟨I x_20,fun _=>rfl,fun _=>.p (by exact an rfl)⟩,⟨I (cu at_22 x_20),fun _=>rfl,fun _=>.p (by exact fq ec rfl rfl rfl)⟩,⟨.b (.row 106),fun _=>rfl,fun _=>.p (by exact an rfl)⟩,⟨.b (.row 104),fun _=>rfl,fun _=>.p (by exact an rfl)⟩,⟨I x_20,fun _=>rfl,fun _=>.p (by exact an rfl)⟩,⟨I (cu at_22 x_20),fun _=>rfl,fun _=>.p (by exact fq ec rfl rfl rfl)⟩,⟨.b (.bw 106 (cu at_22 x_20:Int).toNat),fun _=>rfl,fun _=>.p (by exact dw fe (aH e19) (aW e19) rfl rfl rfl rfl)⟩,⟨_,[108],.b (.row 108),rfl,fun _=>rfl,rfl,rfl,fun _=>.fO [1,101,103,104,106,108] (by exact .p (by exact jv (i:=(cu at_22 x_20:Int).toNat) 108 aZ rfl rfl rfl (aJ (e:=eR eI) e19) (by decide) rfl rfl)) (by exact rfl)⟩,⟨I x_19,fun _=>rfl,fun _=>.p (by exact an rfl)⟩,⟨.b (.one (.sl 1 ([x_19].map eI))),fun _=>rfl,fun _=>.p (by exact cB (es:=[x_19].map eI) aq rfl rfl (bf fun _=>rfl) rfl (by decide) (by decide))⟩,trivial,trivial,trivial,trivial⟩,⟨by kernel_rfl,⟨⟨.b (.row 106),fun _=>rfl,fun _=>.p (by exact an rfl)⟩,⟨.b (.row 104),fun _=>rfl,fun _=>.p (by exact an rfl)⟩,⟨I x_20,fun _=>rfl,fun _=>.p (by exact an rfl)⟩,⟨I (cu at_22 x_20),fun _=>rfl,fun _=>.p (by exact fq ec rfl rfl rfl)⟩,trivial,trivial,trivial,trivial,trivial,trivial,⟨I x_19,fun _=>rfl,fun _=>.p (by exact an rfl)⟩,⟨.b (.one (.sl 1 ([x_19].map eI))),fun _=>rfl,fun _=>.p (by exact cB (es:=[x_19].map eI) aq rfl rfl (bf fun _=>rfl) rfl (by decide) (by decide))⟩,⟨_,[110],.b (.row 110),rfl,fun _=>rfl,rfl,rfl,fun _=>.fO [1,101,103,104,106,110] (by exact .p (by exact l7 (k2:=110) aq (fp e20) (fo e20) rfl rfl rfl (c5 e20) rfl rfl rfl rfl rfl)) (by exact rfl)⟩,trivial,trivial,trivial⟩,⟨by kernel_rfl,⟨⟨.b (.row 106),fun _=>rfl,fun _=>.p (by exact an rfl)⟩,⟨.b (.row 104),fun _=>rfl,fun _=>.p (by exact an rfl)⟩,⟨I x_20,fun _=>rfl,fun _=>.p (by exact an rfl)⟩,⟨I (cu at_22 x_20),fun _=>rfl,fun _=>.p (by exact fq ec rfl rfl rfl)⟩,trivial,trivial,trivial,trivial,trivial,trivial,trivial,trivial,trivial,⟨.b (.bw 106 (cu at_22 x_20:Int).toNat),fun _=>rfl,fun _=>.p (by exact dw fe (aH e21) (aW e21) rfl rfl rfl rfl)⟩,⟨_,[110],.b (.one .any),rfl,(fun e=>by simp at e),rfl,rfl,fun _=>.fO [1,101,103,104,106] (by exact .p (by exact iy aZ rfl rfl rfl rfl rfl (fl e21) (by decide) (nt _ _ _ _))) (by exact rfl)⟩,trivial⟩,⟨by kernel_rfl,⟨trivial,trivial,trivial,trivial,trivial,trivial,trivial,trivial,trivial,trivial,trivial,trivial,trivial,trivial,trivial,trivial⟩,trivial⟩⟩⟩⟩) rfl rfl rfl [1,5,6,24,25,26] [1,101,103,104,106] (s':=⟨[(1,_),(5,_),(6,_),(24,_),(25,_),(26,_)],[(1,_),(101,_),(103,_),(104,_),(106,.rr 30 3 1 .none ((out_23.set (cu at_22 x_20:Int).toNat x_26).map (eR eI)))]⟩) rfl ?_
      refine Fin.ah ?_
      exact Fin.join [1,5,6,24,25,26] [1,101,103,104,106] (x_21,at_22,out_23.set (cu at_22 x_20:Int).toNat x_26) (Option.some.inj h13) rfl
    ·rintro ⟨up_16,at_17,out_18⟩ hv
     subst v12
     refine ab.aa (Oc (aU rfl rfl) (Oc om ?_))
     refine ae.nil ?_
     exact Fin.bG [1,5,6,24,25,26] [1,101,103,104,106] (up_16,at_17,out_18,IntKind.i64.wrap (x_13 + 1)) (Option.some.inj h10) rfl
   ·refine ab.exit (Fin.ai ?_)
    obtain rfl:=hy11 _ (Option.some.inj h10).symm
    refine Fin.ai (Fin.aB ?_)
    exact Fin.join [6] [1,106] (out_12,up_10) rfl rfl
  ·rintro ⟨out_8,y_9⟩ hv
   subst v7
   refine ab.seq (ab.aa ?_)
   refine Oc om (Oc oa ?_)
   refine ae.ag ⟨[(2,.b (.row 106))],[(1,_),(106,_)]⟩ rfl (ab.ret ?_)
   obtain rfl:=Option.some.inj h
   refine Fin.af ⟨[(2,.b (.row 106))],[(1,.mq y_9),(106,.rr 30 3 1 .none (out_8.map (eR eI)))]⟩ rfl (Fin.rename 106 51 rfl (by decide) rfl (Fin.af ⟨[(2,.b (.row 51))],[(1,_),(51,.rr 30 3 1 .none (out_8.map (eR eI)))]⟩ rfl ?_))
   exact Fin.result [.row 51] (.inl rfl) rfl (.cons (.tmp rfl) .nil) ⟨rfl,rfl⟩
 ·subst hr4
  refine Oc (au rfl rfl) (ae.ag ⟨[(1,_),(3,_),(12,_),(14,B true)],[(101,_),(102,.gB 1 c0up (r_5 ++ r_6) (some p_4)),(103,.row 3 1 (vis_2.map eI))]⟩ rfl (ab.seq (ab.sG rfl (ab.skip (Fin.af ⟨[(1,_),(3,_),(12,_)],[(101,_),(102,_),(103,_)]⟩ rfl ?_)))))
  refine Fin.then (ab.block (ab.seq (ab.aa ?_)))
  refine Oc (l6 rfl rfl) (Oc (au rfl rfl) (Oc oa ?_))
  refine ae.ag ⟨[(1,_),(3,_),(4,I p_4.1),(12,_)],[(101,_),(102,_),(103,_)]⟩ rfl (ab.aa (Oc om (Oc om (Oc (aF (k:=111) (es:=[p_4.1].map eI) aq rfl rfl (bf fun _=>rfl) rfl (by decide) (by decide) rfl) (Oc (cF aq (fp (jt (ga hI3 hk2))) (fo (jt (ga hI3 hk2))) rfl rfl rfl rfl (c5 (jt (ga hI3 hk2))) rfl) (Oc oa ?_))))))
  refine ae.nil (Fin.ah (Fin.af ⟨[(1,_),(3,_),(12,_)],[(101,_),(102,_),(103,.row 3 1 ((vis_2 ++ [p_4.1]).map eI))]⟩ rfl (Fin.oX 102 rfl ?_)))
  exact Fin.again ((vis_2 ++ [p_4.1]),r_5 ++ r_6) (m8 hI3) (by simp) rfl
def cr (F:Nat) (fixed0:List Bool) (links0:List A2):Option ((List (List Int)) × Int) :=
 (bF F fixed0 links0).bind fun x_1=>if (!x_1) = true then (some ([],1)) else (Option.bind (cW F fixed0 links0) (cm fun x_2 x_3=>Option.bind (bB F x_2) (cm fun x_4 x_5=>some (x_4,0))))
theorem dJ {F:Nat} {fixed0:List Bool} {links0:List A2} {r:(List (List Int)) × Int} (h:cr F fixed0 links0 = some r):ay Try.prog [] 12 [] [.one (.sl 1 (fixed0.map eB)),.one (.sl 2 (links0.map (cy .i64)))] (Is [] (.eJ [.one (.sl 1 (r.1.map (eL 1 eI))),.one (.i r.2)])):=by
 unfold cr at h
 refine ay.intro 20 Try.func12 Try.ntmps12 rfl (by simp) fun E=>?_
 show ab _ E ⟨20,[],[],[]⟩ _ ⟨[(0,.b (.one (.sl 1 (fixed0.map eB)))),(1,.b (.one (.sl 2 (links0.map (cy .i64)))))],[]⟩ _
 refine ab.seq (ab.aa ?_)
 refine Oc oa (Oc oa ?_)
 refine ae.ag ⟨[(0,.b (.one (.sl 1 (fixed0.map eB)))),(1,.b (.one (.sl 2 (links0.map (cy .i64)))))],[]⟩ rfl (ab.seq (ab.seq (ab.aa ?_)))
 refine Oc om (Oc om ?_)
 obtain ⟨x_1,e1,h⟩:=aL h
 refine Oc (aT (cD e1) mC rfl rfl) (Oc (dO rfl) ?_)
 refine ae.ag ⟨[(0,_),(1,_),(11,B (!x_1))],[]⟩ rfl (ab.ite h rfl (fun _ h=>?_) (fun _ h=>?_))
 ·refine ab.seq (ab.aa ?_)
  refine Oc oa (Oc oa ?_)
  refine ae.ag ⟨[(4,.b (.one (.nil))),(5,I 1)],[]⟩ rfl (ab.ret (Fin.aN ?_))
  obtain rfl:=Option.some.inj h
  refine Fin.af ⟨[(4,_),(5,_)],[]⟩ rfl (Fin.iR 4 1 rfl (by decide) (Fin.aV [.one (.sl 1 ([].map (eL 1 eI))),.one (.i 1)] (.inl rfl) rfl (.cons (.tmp rfl) (.cons (.tmp rfl) .nil)) ⟨rfl,rfl⟩))
 ·refine ab.skip (Fin.af ⟨[(0,_),(1,_)],[]⟩ rfl (Fin.then (ab.seq (ab.aa ?_))))
  refine Oc om (Oc om ?_)
  obtain ⟨⟨x_2,x_3⟩,e2,h⟩:=aL h
  refine Oc (bo (own_a:=[]) (((fi e2).sw 51 101).sw 52 102) qJ rfl trivial rfl rfl) (Oc om (Oc (au rfl rfl) ?_))
  refine ae.af ⟨[(12,.eJ [.xa [.row 101],.row 102]),(16,.b (.xa [.row 101]))],[(101,.mq x_2),(102,.row 3 1 (x_3.map eI))]⟩ rfl (Oc (au rfl rfl) (Oc (bh (k:=103) iT rfl) ?_))
  refine ae.ow 103 rfl (Oc (fA cS rfl rfl rfl rfl rfl (Nat.le_of_ble_eq_true rfl) rfl) (Oc oa ?_))
  refine ae.ag ⟨[(6,Pt 103 0)],[(101,.mq x_2),(103,.ao 52 [.row 101])]⟩ rfl (ab.seq (ab.aa ?_))
  refine Oc ((cN cS rfl rfl rfl rfl).k6 rfl) ?_
  obtain ⟨⟨x_4,x_5⟩,e3,h⟩:=aL h
  refine Oc (bo (own_a:=[(101,_)]) ((eY e3).sw 1 101) qI rfl ⟨rfl,trivial⟩ rfl rfl) (Oc oa (Oc oa ?_))
  refine ae.ag ⟨[(4,.b (.one (.sl 1 (x_4.map (eL 1 eI))))),(5,I 0)],[]⟩ rfl (ab.ret ?_)
  obtain rfl:=Option.some.inj h
  refine Fin.af ⟨[(4,_),(5,_)],[]⟩ rfl (Fin.aV [.one (.sl 1 (x_4.map (eL 1 eI))),.one (.i 0)] (.inl rfl) rfl (.cons (.tmp rfl) (.cons (.tmp rfl) .nil)) ⟨rfl,rfl⟩)
def eH (F:Nat) (fixed0:List Bool) (links0:List A2):Option ((List (List Int)) × Int) :=
 (bF F fixed0 links0).bind fun x_1=>if (!x_1) = true then (some ([],1)) else (Option.bind (cW F fixed0 links0) (cm fun x_2 x_3=>Option.bind (cQ F x_2) (cm fun x_4 x_5=>some (x_4,0))))
theorem kP {F:Nat} {fixed0:List Bool} {links0:List A2} {r:(List (List Int)) × Int} (h:eH F fixed0 links0 = some r):ay Try.prog [] 12 [] [.one (.sl 1 (fixed0.map eB)),.one (.sl 2 (links0.map (cy .i64)))] (Is [(51,.rr 30 3 1 .none (r.1.map (eR eI)))] (.eJ [.row 51,.one (.i r.2)])):=by
 unfold eH at h
 refine ay.intro 20 Try.func12 Try.ntmps12 rfl (by simp) fun E=>?_
 show ab _ E ⟨20,[],[],[]⟩ _ ⟨[(0,.b (.one (.sl 1 (fixed0.map eB)))),(1,.b (.one (.sl 2 (links0.map (cy .i64)))))],[]⟩ _
 refine ab.seq (ab.aa ?_)
 refine Oc oa (Oc oa ?_)
 refine ae.ag ⟨[(0,.b (.one (.sl 1 (fixed0.map eB)))),(1,.b (.one (.sl 2 (links0.map (cy .i64)))))],[]⟩ rfl (ab.seq (ab.seq (ab.aa ?_)))
 refine Oc om (Oc om ?_)
 obtain ⟨x_1,e1,h⟩:=aL h
 refine Oc (aT (cD e1) mC rfl rfl) (Oc (dO rfl) ?_)
 refine ae.ag ⟨[(0,_),(1,_),(11,B (!x_1))],[]⟩ rfl (ab.ite h rfl (fun _ h=>?_) (fun _ h=>?_))
 ·refine ab.seq (ab.aa ?_)
  refine Oc oa (Oc oa ?_)
  refine ae.ag ⟨[(4,.b (.one (.nil))),(5,I 1)],[]⟩ rfl (ab.ret (Fin.aN ?_))
  obtain rfl:=Option.some.inj h
  refine Fin.af ⟨[(4,_),(5,_)],[]⟩ rfl (Fin.lE 4 51 1 30 3 rfl (by decide) rfl (Fin.af ⟨[(4,.b (.row 51)),(5,_)],[(51,.rr 30 3 1 .none ([].map (eR eI)))]⟩ rfl ?_))
  exact Fin.result [.row 51,.one (.i 1)] (.inl rfl) rfl (.cons (.tmp rfl) (.cons (.tmp rfl) .nil)) ⟨rfl,rfl⟩
 ·refine ab.skip (Fin.af ⟨[(0,_),(1,_)],[]⟩ rfl (Fin.then (ab.seq (ab.aa ?_))))
  refine Oc om (Oc om ?_)
  obtain ⟨⟨x_2,x_3⟩,e2,h⟩:=aL h
  refine Oc (bo (own_a:=[]) (((fi e2).sw 51 101).sw 52 102) qJ rfl trivial rfl rfl) (Oc om (Oc (au rfl rfl) ?_))
  refine ae.af ⟨[(12,.eJ [.xa [.row 101],.row 102]),(16,.b (.xa [.row 101]))],[(101,.mq x_2),(102,.row 3 1 (x_3.map eI))]⟩ rfl (Oc (au rfl rfl) (Oc (bh (k:=103) iT rfl) ?_))
  refine ae.ow 103 rfl (Oc (fA cS rfl rfl rfl rfl rfl (Nat.le_of_ble_eq_true rfl) rfl) (Oc oa ?_))
  refine ae.ag ⟨[(6,Pt 103 0)],[(101,.mq x_2),(103,.ao 52 [.row 101])]⟩ rfl (ab.seq (ab.aa ?_))
  refine Oc ((cN cS rfl rfl rfl rfl).k6 rfl) ?_
  obtain ⟨⟨x_4,x_5⟩,e3,h⟩:=aL h
  refine Oc (bo (own_a:=[(101,_)]) (((gJ e3).sw 1 101).sw 51 104) qI rfl ⟨rfl,trivial⟩ rfl rfl) (Oc oa (Oc oa ?_))
  refine ae.ag ⟨[(4,.b (.row 104)),(5,I 0)],[(104,.rr 30 3 1 .none (x_4.map (eR eI)))]⟩ rfl (ab.ret ?_)
  obtain rfl:=Option.some.inj h
  refine Fin.af ⟨[(4,.b (.row 104)),(5,I 0)],[(104,.rr 30 3 1 .none (x_4.map (eR eI)))]⟩ rfl (Fin.rename 104 51 rfl (by decide) rfl (Fin.af ⟨[(4,.b (.row 51)),(5,_)],[(51,.rr 30 3 1 .none (x_4.map (eR eI)))]⟩ rfl ?_))
  exact Fin.result [.row 51,.one (.i 0)] (.inl rfl) rfl (.cons (.tmp rfl) (.cons (.tmp rfl) .nil)) ⟨rfl,rfl⟩
def cC (F:Nat) (n0:Int) (links0:List A2) (places0:List Int):Option (List (List jh)) :=
 Option.bind (mk? ([]:List jh) n0 n0) (fun x_1=>Option.bind (iter F (cm fun out_3 x_4=>if (decide (x_4 < (places0.length:Int))) = true then ((aE places0 x_4).bind fun x_6=>(aE links0 x_6).bind fun x_7=>(aE links0 x_6).bind fun x_8=>(aE out_3 x_7.a0).bind fun x_9=>(c9 x_9 [(⟨x_8.a1,x_6⟩:jh)]).bind fun x_10=>(aE out_3 x_7.a0).bind fun x_11=>(aE (out_3.set (x_7.a0:Int).toNat x_10) x_8.a1).bind fun x_12=>(c9 x_12 [(⟨x_7.a0,x_6⟩:jh)]).bind fun x_13=>(aE (out_3.set (x_7.a0:Int).toNat x_10) x_8.a1).bind fun x_14=>some (.inl ((out_3.set (x_7.a0:Int).toNat x_10).set (x_8.a1:Int).toNat x_13,IntKind.i64.wrap (x_4 + 1)))) else (some (.inr out_3))) (x_1,0)) (fun out_2=>some out_2))
theorem fN {F:Nat} {n0:Int} {links0:List A2} {places0:List Int} {r:(List (List jh))} (h:cC F n0 links0 places0 = some r):ay Try.prog [] 32 [] [.one (.i n0),.one (.sl 2 (links0.map (cy .i64))),.one (.sl 1 (places0.map eI))] (Is [] (.b (.one (.sl 1 (r.map (eL 2 aQ)))))):=by
 unfold cC at h
 refine ay.intro 56 Try.func32 Try.ntmps32 rfl (by simp) fun E=>?_
 show ab _ E ⟨56,[],[],[]⟩ _ ⟨[(0,I n0),(1,.b (.one (.sl 2 (links0.map (cy .i64))))),(2,.b (.one (.sl 1 (places0.map eI))))],[]⟩ _
 refine ab.seq (ab.aa ?_)
 refine Oc oa (ae.ag ⟨[(0,I n0),(1,.b (.one (.sl 2 (links0.map (cy .i64))))),(2,.b (.one (.sl 1 (places0.map eI))))],[]⟩ rfl (ab.seq (ab.aa ?_)))
 refine Oc om ?_
 obtain ⟨x_1,e1,h⟩:=aL h
 refine Oc ((bg (k:=101) (enc:=fun _=>[CP.nil]) la e1 (by decide) (.cons .refl .nil) rfl rfl rfl).qx 101 60 2 rfl (tO _) (by decide) (rr_mk (e:=aQ) e1)) (Oc oa ?_)
 refine ae.ag ⟨[(1,_),(2,_),(7,.b (.row 101))],[(101,.rr 58 60 2 .none (x_1.map (eR aQ)))]⟩ rfl ?_
 obtain ⟨v2,h3,h⟩:=aL h
 refine ab.cM (v:=v2) (fun (out_2:List (List jh))=>⟨[(7,.b (.row 101))],[(101,.rr 58 60 2 .none (out_2.map (eR aQ)))]⟩) (fun z=>z) ?_ ?_
 ·refine ab.seq (ab.aa ?_)
  refine Oc om (Oc (aw gm rfl (List.length_map _)) (Oc om ?_))
  refine ae.ag ⟨[(1,_),(7,_),(14,.b (.one (.sl 1 (places0.map eI)))),(15,I (places0.length:Int)),(16,I 0)],[(101,_)]⟩ rfl (ab.block (ab.cE h3 (cm fun (out_3:List (List jh)) (x_4:Int)=>⟨[(1,.b (.one (.sl 2 (links0.map (cy .i64))))),(7,.b (.row 101)),(14,.b (.one (.sl 1 (places0.map eI)))),(15,I (places0.length:Int)),(16,I x_4)],[(101,.rr 58 60 2 .none (out_3.map (eR aQ)))]⟩) [1,7,14,15,16] [101] rfl ?_))
  rintro ⟨out_3,x_4⟩ o4 h5 hy6
  refine ab.seq (ab.aa ?_)
  refine Oc (bt rfl rfl) (ae.ag ⟨[(1,_),(7,_),(14,_),(15,_),(16,_),(17,B (decide (x_4 < (places0.length:Int))))],[(101,_)]⟩ rfl (ab.seq (ab.ite h5 rfl (fun _ h5=>?_) (fun _ h5=>?_))))
  ·refine ab.skip (Fin.af ⟨[(1,_),(7,_),(14,_),(15,_),(16,_)],[(101,_)]⟩ rfl (Fin.then (ab.seq (ab.block (ab.seq (ab.aa ?_))))))
   obtain ⟨x_6,e7,h5⟩:=aL h5
   refine Oc (aK aq (aH e7) (aJ (e:=eI) e7) rfl rfl) (Oc (aG az rfl rfl) (Oc oa ?_))
   refine ae.ag ⟨[(1,_),(7,_),(9,I x_6),(14,_),(15,_),(16,_)],[(101,_)]⟩ rfl (ab.seq ?_)
   obtain ⟨x_7,e8,h5⟩:=aL h5
   obtain ⟨x_8,e9,h5⟩:=aL h5
   refine ab.eC mixed 12 [.b (.one (.sl 2 (links0.map (cy .i64)))),I x_6,.b (.c3 ((cy .i64) x_7)),.b (.c3 [.i x_7.a0]),I x_7.a0,.b (.one (.sl 2 (links0.map (cy .i64)))),I x_6,.b (.c3 ((cy .i64) x_8)),.b (.c3 [.i x_8.a1]),I x_8.a1,I x_7.a0,I x_8.a1] [1,7,9,10,11,14,15,16] [101] (s':=⟨[(1,_),(7,_),(9,_),(10,I x_7.a0),(11,I x_8.a1),(14,_),(15,_),(16,_)],[(101,_)]⟩) rfl ⟨fun _=>.p om,fun _=>.p om,fun _=>.p (aK ee (aH e8) (aJ (e:=(cy .i64)) e8) rfl rfl),fun _=>.p (iA gb (by decide) (by decide) rfl rfl rfl),fun _=>.p (aG az rfl rfl),fun _=>.p om,fun _=>.p om,fun _=>.p (aK ee (aH e9) (aJ (e:=(cy .i64)) e9) rfl rfl),fun _=>.p (iA gb (by decide) (by decide) rfl rfl rfl),fun _=>.p (aG az rfl rfl),fun _=>.p oa,fun _=>.p oa,trivial⟩ rfl rfl (ab.seq (ab.aa ?_))
   refine Oc om (Oc om (Oc om (Oc om ?_)))
   obtain ⟨x_9,e10,h5⟩:=aL h5
   refine Oc (dw la (aH e10) (aW e10) rfl rfl rfl rfl) (Oc (jv (i:=(x_7.a0:Int).toNat) 102 kC rfl rfl rfl (aJ (e:=eR aQ) e10) (by decide) rfl rfl) (Oc om ?_))
   refine ae.af ⟨[(1,_),(7,_),(9,_),(10,_),(11,_),(14,_),(15,_),(16,_),(30,.b (.row 101)),(31,I x_7.a0),(35,.b (.row 102)),(36,I x_8.a1)],[(101,.rr 58 60 2 (.at (x_7.a0:Int).toNat) (out_3.map (eR aQ))),(102,.row 60 2 (x_9.map aQ))]⟩ rfl (Oc om (Oc (pW oF rfl rfl) (Oc (aF (k:=103) (es:=[(⟨x_8.a1,x_6⟩:jh)].map aQ) mw rfl rfl (bf fun _=>rfl) rfl (by decide) (by decide) rfl) ?_)))
   obtain ⟨x_10,e11,h5⟩:=aL h5
   refine Oc (cF mw (fp e11) (fo e11) rfl rfl rfl rfl (c5 e11) rfl) ?_
   obtain ⟨x_11,e12,h5⟩:=aL h5
   refine Oc (dw la (aH e12) (aW e12) rfl rfl rfl rfl) (Oc (iy kC rfl rfl rfl rfl rfl (fl e12) (by decide) (nt _ _ _ _)) ?_)
   refine ae.ag ⟨[(1,_),(7,_),(9,_),(10,_),(11,_),(14,_),(15,_),(16,_)],[(101,.rr 58 60 2 .none ((out_3.set (x_7.a0:Int).toNat x_10).map (eR aQ)))]⟩ rfl (ab.aa (Oc om (Oc om (Oc om (Oc om ?_)))))
   obtain ⟨x_12,e13,h5⟩:=aL h5
   refine Oc (dw la (aH e13) (aW e13) rfl rfl rfl rfl) (Oc (jv (i:=(x_8.a1:Int).toNat) 104 kC rfl rfl rfl (aJ (e:=eR aQ) e13) (by decide) rfl rfl) (Oc om ?_))
   refine ae.af ⟨[(1,_),(7,_),(9,_),(14,_),(15,_),(16,_),(42,.b (.row 101)),(43,I x_8.a1),(47,.b (.row 104)),(48,I x_7.a0)],[(101,.rr 58 60 2 (.at (x_8.a1:Int).toNat) ((out_3.set (x_7.a0:Int).toNat x_10).map (eR aQ))),(104,.row 60 2 (x_12.map aQ))]⟩ rfl (Oc om (Oc (pW oF rfl rfl) (Oc (aF (k:=105) (es:=[(⟨x_7.a0,x_6⟩:jh)].map aQ) mw rfl rfl (bf fun _=>rfl) rfl (by decide) (by decide) rfl) ?_)))
   obtain ⟨x_13,e14,h5⟩:=aL h5
   refine Oc (cF mw (fp e14) (fo e14) rfl rfl rfl rfl (c5 e14) rfl) ?_
   obtain ⟨x_14,e15,h5⟩:=aL h5
   refine Oc (dw la (aH e15) (aW e15) rfl rfl rfl rfl) (Oc (iy kC rfl rfl rfl rfl rfl (fl e15) (by decide) (nt _ _ _ _)) ?_)
   refine ae.nil (Fin.ah (Fin.af ⟨[(1,_),(7,_),(14,_),(15,_),(16,_)],[(101,.rr 58 60 2 .none (((out_3.set (x_7.a0:Int).toNat x_10).set (x_8.a1:Int).toNat x_13).map (eR aQ)))]⟩ rfl (Fin.then (ab.aa ?_))))
   refine Oc (aU rfl rfl) (Oc om ?_)
   refine ae.nil ?_
   exact Fin.bG [1,7,14,15,16] [101] ((out_3.set (x_7.a0:Int).toNat x_10).set (x_8.a1:Int).toNat x_13,IntKind.i64.wrap (x_4 + 1)) (Option.some.inj h5) rfl
  ·refine ab.exit (Fin.ai ?_)
   obtain rfl:=hy6 _ (Option.some.inj h5).symm
   refine Fin.ai (Fin.aB ?_)
   exact Fin.join [7] [101] out_3 rfl rfl
 ·rintro out_2 hv
  subst v2
  refine ab.seq (ab.aa ?_)
  refine Oc om (Oc oa ?_)
  refine ae.ag ⟨[(6,.b (.row 101))],[(101,_)]⟩ rfl (ab.ret ?_)
  obtain rfl:=Option.some.inj h
  refine Fin.af ⟨[(6,_)],[(101,_)]⟩ rfl (Fin.kJ 101 rfl (rr_sl _) (Fin.aV [.one (.sl 1 (out_2.map (eL 2 aQ)))] (.inl rfl) rfl (.cons (.tmp rfl) .nil) ⟨rfl,rfl⟩))
def fb (F:Nat) (fixed0:List Bool) (links0:List A2):Option ((List Int) × Int) :=
 (bF F fixed0 links0).bind fun x_1=>if (!x_1) = true then (some ([],1)) else (Option.bind (mk? (0:Int) (links0.length:Int) (links0.length:Int)) (fun x_2=>Option.bind (iter F (cm fun places_4 x_5=>if (decide (x_5 < (x_2.length:Int))) = true then ((aE places_4 x_5).bind fun x_7=>some (.inl (places_4.set (x_5:Int).toNat x_5,IntKind.i64.wrap (x_5 + 1)))) else (some (.inr places_4))) (x_2,0)) (fun places_3=>(cC F (fixed0.length:Int) links0 places_3).bind fun x_8=>Option.bind (iter F (np fun out_11 queue_12 x_13=>if (decide (x_13 < (fixed0.length:Int))) = true then (Option.bind ((aE fixed0 x_13).bind fun x_18=>(c9 out_11 [(-1)]).bind fun x_19=>if x_18 = true then ((aE x_19 x_13).bind fun x_20=>(c9 queue_12 [x_13]).bind fun x_21=>some (x_19.set (x_13:Int).toNat 0,x_21)) else (some (x_19,queue_12))) (cm fun out_16 queue_17=>some (.inl (out_16,queue_17,IntKind.i64.wrap (x_13 + 1))))) else (some (.inr (out_11,queue_12)))) ([],[],0)) (cm fun out_9 queue_10=>Option.bind (iter F (cm fun out_23 queue_24=>if (decide (0 < (queue_24.length:Int))) = true then ((aE queue_24 0).bind fun x_26=>(kU queue_24 1).bind fun x_27=>(aE x_8 x_26).bind fun x_28=>Option.bind (iter F (np fun out_29 queue_30 x_31=>if (decide (x_31 < (x_28.length:Int))) = true then (Option.bind ((aE x_28 x_31).bind fun x_36=>(aE out_29 x_36.to).bind fun x_37=>if (decide (x_37 < 0)) = true then ((aE out_29 x_26).bind fun x_38=>(aE out_29 x_36.to).bind fun x_39=>(c9 queue_30 [x_36.to]).bind fun x_40=>some (out_29.set (x_36.to:Int).toNat (IntKind.i64.wrap (x_38 + 1)),x_40)) else (some (out_29,queue_30))) (cm fun out_34 queue_35=>some (.inl (out_34,queue_35,IntKind.i64.wrap (x_31 + 1))))) else (some (.inr (out_29,queue_30)))) (out_23,x_27,0)) (cm fun out_32 queue_33=>some (.inl (out_32,queue_33)))) else (some (.inr out_23))) (out_9,queue_10)) (fun out_22=>some (out_22,0))))))
theorem hY (kr0:Nat) {F:Nat} {fixed0:List Bool} {links0:List A2} {r:(List Int) × Int} (h:fb F fixed0 links0 = some r):ay Try.prog [] 13 [] [.one (.sl 1 (fixed0.map eB)),.one (.sl 2 (links0.map (cy .i64)))] (Is [(kr0,.row 3 1 (r.1.map eI))] (.eJ [.row kr0,.one (.i r.2)])):=by
 unfold fb at h
 refine ay.intro 96 Try.func13 Try.ntmps13 rfl (by simp) fun E=>?_
 show ab _ E ⟨96,[],[],[]⟩ _ ⟨[(0,.b (.one (.sl 1 (fixed0.map eB)))),(1,.b (.one (.sl 2 (links0.map (cy .i64)))))],[]⟩ _
 refine ab.seq (ab.aa ?_)
 refine Oc oa (Oc oa ?_)
 refine ae.ag ⟨[(0,.b (.one (.sl 1 (fixed0.map eB)))),(1,.b (.one (.sl 2 (links0.map (cy .i64)))))],[]⟩ rfl (ab.seq (ab.seq (ab.aa ?_)))
 refine Oc om (Oc om ?_)
 obtain ⟨x_1,e1,h⟩:=aL h
 refine Oc (aT (cD e1) mC rfl rfl) (Oc (dO rfl) ?_)
 refine ae.ag ⟨[(0,_),(1,_),(19,B (!x_1))],[]⟩ rfl (ab.ite h rfl (fun _ h=>?_) (fun _ h=>?_))
 ·refine ab.seq (ab.aa ?_)
  refine Oc oa (Oc oa ?_)
  refine ae.ag ⟨[(4,.b (.one (.nil))),(5,I 1)],[]⟩ rfl (ab.ret (Fin.aN ?_))
  obtain rfl:=Option.some.inj h
  refine Fin.af ⟨[(4,_),(5,_)],[]⟩ rfl (Fin.dY 4 101 1 3 rfl (by decide) rfl (Fin.lJ 101 kr0 [.row 101,.one (.i 1)] (.inl rfl) rfl (.cons (.tmp rfl) (.cons (.tmp rfl) .nil)) rfl rfl rfl rfl ⟨rfl,rfl⟩))
 ·refine ab.skip (Fin.af ⟨[(0,_),(1,_)],[]⟩ rfl (Fin.then (ab.seq (ab.aa ?_))))
  refine Oc om (Oc (aw q9 rfl (List.length_map _)) ?_)
  obtain ⟨x_2,e2,h⟩:=aL h
  refine Oc (bg (k:=102) (enc:=eI) aq e2 (by decide) (.cons .refl .nil) rfl rfl rfl) (Oc oa ?_)
  refine ae.ag ⟨[(0,_),(1,_),(6,.b (.row 102))],[(102,.row 3 1 (x_2.map eI))]⟩ rfl ?_
  obtain ⟨v3,h4,h⟩:=aL h
  refine ab.cM (v:=v3) (fun (places_3:List Int)=>⟨[(0,.b (.one (.sl 1 (fixed0.map eB)))),(1,.b (.one (.sl 2 (links0.map (cy .i64))))),(6,.b (.row 102))],[(102,.row 3 1 (places_3.map eI))]⟩) (fun z=>z) ?_ ?_
  ·refine ab.seq (ab.aa ?_)
   refine Oc om (Oc (fT gm rfl rfl (List.length_map _)) (Oc om ?_))
   refine ae.ag ⟨[(0,_),(1,_),(6,_),(24,I (x_2.length:Int)),(25,I 0)],[(102,_)]⟩ rfl (ab.block (ab.cE h4 (cm fun (places_4:List Int) (x_5:Int)=>⟨[(0,.b (.one (.sl 1 (fixed0.map eB)))),(1,.b (.one (.sl 2 (links0.map (cy .i64))))),(6,.b (.row 102)),(24,I (x_2.length:Int)),(25,I x_5)],[(102,.row 3 1 (places_4.map eI))]⟩) [0,1,6,24,25] [102] rfl ?_))
   rintro ⟨places_4,x_5⟩ o5 h6 hy7
   refine ab.seq (ab.aa ?_)
   refine Oc (bt rfl rfl) (ae.ag ⟨[(0,_),(1,_),(6,_),(24,_),(25,_),(26,B (decide (x_5 < (x_2.length:Int))))],[(102,_)]⟩ rfl (ab.seq (ab.ite h6 rfl (fun _ h6=>?_) (fun _ h6=>?_))))
   ·refine ab.skip (Fin.af ⟨[(0,_),(1,_),(6,_),(24,_),(25,_)],[(102,_)]⟩ rfl (Fin.then (ab.seq (ab.block (ab.seq (ab.aa ?_))))))
    refine Oc om (Oc oa ?_)
    refine ae.ag ⟨[(0,_),(1,_),(6,_),(7,I x_5),(24,_),(25,_)],[(102,_)]⟩ rfl (ab.aa (Oc om (Oc om (Oc om ?_))))
    obtain ⟨x_7,e8,h6⟩:=aL h6
    refine Oc (ar aq (aH e8) (aW e8) rfl rfl rfl rfl) (Oc (bM (i:=(x_5:Int).toNat) az rfl rfl rfl rfl (fl e8) (map_set _ _ _ _)) ?_)
    refine ae.nil (Fin.ah (Fin.af ⟨[(0,_),(1,_),(6,_),(24,_),(25,_)],[(102,.row 3 1 ((places_4.set (x_5:Int).toNat x_5).map eI))]⟩ rfl (Fin.then (ab.aa ?_))))
    refine Oc (aU rfl rfl) (Oc om ?_)
    refine ae.nil ?_
    exact Fin.bG [0,1,6,24,25] [102] (places_4.set (x_5:Int).toNat x_5,IntKind.i64.wrap (x_5 + 1)) (Option.some.inj h6) rfl
   ·refine ab.exit (Fin.ai ?_)
    obtain rfl:=hy7 _ (Option.some.inj h6).symm
    refine Fin.ai (Fin.aB ?_)
    exact Fin.join [0,1,6] [102] places_4 rfl rfl
  ·rintro places_3 hv
   subst v3
   refine ab.seq (ab.aa ?_)
   refine Oc om (Oc (aw dC rfl (List.length_map _)) (Oc om (Oc om ?_)))
   refine ae.bI 102 rfl ?_
   obtain ⟨x_8,e9,h⟩:=aL h
   refine Oc (aT (fN e9) s8 rfl rfl) (Oc oa ?_)
   refine ae.ag ⟨[(0,.b (.one (.sl 1 (fixed0.map eB)))),(8,.b (.one (.sl 1 (x_8.map (eL 2 aQ)))))],[]⟩ rfl (ab.seq (ab.aa ?_))
   refine Oc oa (Oc oa ?_)
   refine ae.ag ⟨[(0,_),(8,_),(9,.b (.one (.nil))),(10,.b (.one (.nil)))],[]⟩ rfl ?_
   obtain ⟨v10,h11,h⟩:=aL h
   refine ab.cM (v:=v10) (cm fun (out_9:List Int) (queue_10:List Int)=>⟨[(8,.b (.one (.sl 1 (x_8.map (eL 2 aQ))))),(9,.b (.row 104)),(10,.b (.row 106))],[(104,.row 3 1 (out_9.map eI)),(106,.row 3 1 (queue_10.map eI))]⟩) (fun z=>z) ?_ ?_
   ·refine ab.seq (ab.aa ?_)
    refine Oc om (Oc (aw dC rfl (List.length_map _)) (Oc om ?_))
    refine ae.ag ⟨[(8,_),(9,_),(10,_),(38,.b (.one (.sl 1 (fixed0.map eB)))),(39,I (fixed0.length:Int)),(40,I 0)],[]⟩ rfl (ab.block (ab.dY 9 104 1 3 rfl (by decide) rfl (ab.dY 10 106 1 3 rfl (by decide) rfl (ab.cE h11 (np fun (out_11:List Int) (queue_12:List Int) (x_13:Int)=>⟨[(8,.b (.one (.sl 1 (x_8.map (eL 2 aQ))))),(9,.b (.row 104)),(10,.b (.row 106)),(38,.b (.one (.sl 1 (fixed0.map eB)))),(39,I (fixed0.length:Int)),(40,I x_13)],[(104,.row 3 1 (out_11.map eI)),(106,.row 3 1 (queue_12.map eI))]⟩) [8,9,10,38,39,40] [104,106] rfl ?_))))
    rintro ⟨out_11,queue_12,x_13⟩ o12 h13 hy14
    refine ab.seq (ab.aa ?_)
    refine Oc (bt rfl rfl) (ae.ag ⟨[(8,_),(9,_),(10,_),(38,_),(39,_),(40,_),(41,B (decide (x_13 < (fixed0.length:Int))))],[(104,_),(106,_)]⟩ rfl (ab.seq (ab.ite h13 rfl (fun _ h13=>?_) (fun _ h13=>?_))))
    ·refine ab.skip (Fin.af ⟨[(8,_),(9,_),(10,_),(38,_),(39,_),(40,_)],[(104,_),(106,_)]⟩ rfl (Fin.then ?_))
     obtain ⟨v15,h16,h13⟩:=aL h13
     refine ab.cM (v:=v15) (cm fun (out_16:List Int) (queue_17:List Int)=>⟨[(8,.b (.one (.sl 1 (x_8.map (eL 2 aQ))))),(9,.b (.row 104)),(10,.b (.row 106)),(38,.b (.one (.sl 1 (fixed0.map eB)))),(39,I (fixed0.length:Int)),(40,I x_13)],[(104,.row 3 1 (out_16.map eI)),(106,.row 3 1 (queue_17.map eI))]⟩) (fun z=>z) ?_ ?_
     ·refine ab.block (ab.seq (ab.aa ?_))
      refine Oc om ?_
      obtain ⟨x_18,e17,h16⟩:=aL h16
      refine Oc (aK gU (aH e17) (aJ (e:=eB) e17) rfl rfl) (Oc (aG jT rfl rfl) (Oc oa (Oc oa ?_)))
      refine ae.ag ⟨[(8,_),(9,_),(10,_),(11,I x_13),(12,B x_18),(38,_),(39,_),(40,_)],[(104,_),(106,_)]⟩ rfl (ab.seq (ab.aa ?_))
      refine Oc om (Oc (aF (k:=107) (es:=[(-1)].map eI) aq rfl rfl (bf fun _=>rfl) rfl (by decide) (by decide) rfl) ?_)
      obtain ⟨x_19,e18,h16⟩:=aL h16
      refine Oc (cF aq (fp e18) (fo e18) rfl rfl rfl rfl (c5 e18) rfl) (Oc oa ?_)
      refine ae.ag ⟨[(8,_),(9,_),(10,_),(11,_),(12,_),(38,_),(39,_),(40,_)],[(104,.row 3 1 (x_19.map eI)),(106,_)]⟩ rfl (ab.seq (ab.aa ?_))
      refine Oc om (ae.ag ⟨[(8,_),(9,_),(10,_),(11,_),(38,_),(39,_),(40,_),(48,B x_18)],[(104,_),(106,_)]⟩ rfl (ab.ite h16 rfl (fun _ h16=>?_) (fun _ h16=>?_)))
      ·refine ab.seq (ab.aa ?_)
       refine Oc om (Oc om ?_)
       obtain ⟨x_20,e19,h16⟩:=aL h16
       refine Oc (ar aq (aH e19) (aW e19) rfl rfl rfl rfl) (Oc (bM (i:=(x_13:Int).toNat) az rfl rfl rfl rfl (fl e19) (map_set _ _ _ _)) ?_)
       refine ae.ag ⟨[(8,_),(9,_),(10,_),(11,_),(38,_),(39,_),(40,_)],[(104,.row 3 1 ((x_19.set (x_13:Int).toNat 0).map eI)),(106,_)]⟩ rfl (ab.aa (Oc om (Oc om (Oc (aF (k:=108) (es:=[x_13].map eI) aq rfl rfl (bf fun _=>rfl) rfl (by decide) (by decide) rfl) ?_))))
       obtain ⟨x_21,e20,h16⟩:=aL h16
       refine Oc (cF aq (fp e20) (fo e20) rfl rfl rfl rfl (c5 e20) rfl) (Oc oa ?_)
       refine ae.nil (Fin.ah ?_)
       exact Fin.join [8,9,10,38,39,40] [104,106] (x_19.set (x_13:Int).toNat 0,x_21) (Option.some.inj h16) rfl
      ·refine ab.skip (Fin.ah ?_)
       exact Fin.join [8,9,10,38,39,40] [104,106] (x_19,queue_12) (Option.some.inj h16) rfl
     ·rintro ⟨out_16,queue_17⟩ hv
      subst v15
      refine ab.aa (Oc (aU rfl rfl) (Oc om ?_))
      refine ae.nil ?_
      exact Fin.bG [8,9,10,38,39,40] [104,106] (out_16,queue_17,IntKind.i64.wrap (x_13 + 1)) (Option.some.inj h13) rfl
    ·refine ab.exit (Fin.ai ?_)
     obtain rfl:=hy14 _ (Option.some.inj h13).symm
     refine Fin.ai (Fin.aB ?_)
     exact Fin.join [8,9,10] [104,106] (out_11,queue_12) rfl rfl
   ·rintro ⟨out_9,queue_10⟩ hv
    subst v10
    obtain ⟨v21,h22,h⟩:=aL h
    refine ab.cM (v:=v21) (fun (out_22:List Int)=>⟨[(9,.b (.row 104))],[(104,.row 3 1 (out_22.map eI))]⟩) (fun z=>z) ?_ ?_
    ·refine ab.block (ab.af ⟨[(8,_),(9,_),(10,_)],[(104,_),(106,_)]⟩ rfl (ab.ld 106 rfl (ab.cE h22 (cm fun (out_23:List Int) (queue_24:List Int)=>⟨[(8,.b (.one (.sl 1 (x_8.map (eL 2 aQ))))),(9,.b (.row 104)),(10,.b (.row 106))],[(104,.row 3 1 (out_23.map eI)),(106,.gl 3 1 (queue_24.map eI))]⟩) [8,9,10] [104,106] rfl ?_)))
     rintro ⟨out_23,queue_24⟩ o23 h24 hy25
     refine ab.seq (ab.seq (ab.aa ?_))
     refine Oc om (Oc (tK gm rfl rfl (List.length_map _)) (Oc (iH rfl rfl) ?_))
     refine ae.ag ⟨[(8,_),(9,_),(10,_),(59,B (decide (0 < (queue_24.length:Int))))],[(104,_),(106,_)]⟩ rfl (ab.ite h24 rfl (fun _ h24=>?_) (fun _ h24=>?_))
     ·refine ab.skip (Fin.af ⟨[(8,_),(9,_),(10,_)],[(104,_),(106,_)]⟩ rfl (Fin.then (ab.block (ab.seq (ab.aa ?_)))))
      refine Oc om ?_
      obtain ⟨x_26,e26,h24⟩:=aL h24
      refine ae.idxO aq az e26 rfl rfl rfl rfl (by decide) (Oc oa (ae.ag ⟨[(8,_),(9,_),(10,_),(13,I x_26)],[(104,_),(106,_)]⟩ rfl (ab.seq (ab.aa ?_))))
      refine Oc om ?_
      obtain ⟨x_27,e27,h24⟩:=aL h24
      refine Oc (qT aq e27 rfl rfl rfl rfl) (Oc oa ?_)
      refine ae.ag ⟨[(8,_),(9,_),(10,_),(13,_)],[(104,_),(106,.gl 3 1 (x_27.map eI))]⟩ rfl (ab.seq (ab.aa ?_))
      refine Oc om (Oc om ?_)
      obtain ⟨x_28,e28,h24⟩:=aL h24
      refine Oc (aK la (aH e28) (aJ (e:=(eL 2 aQ)) e28) rfl rfl) (Oc (aG kC rfl rfl) (Oc (aw und58 rfl (List.length_map _)) (Oc om ?_)))
      refine ae.ag ⟨[(8,_),(9,_),(10,_),(13,_),(68,.b (.one (.sl 2 (x_28.map aQ)))),(69,I (x_28.length:Int)),(70,I 0)],[(104,_),(106,_)]⟩ rfl (ab.block ?_)
      obtain ⟨v29,h30,h24⟩:=aL h24
      refine ab.cE h30 (np fun (out_29:List Int) (queue_30:List Int) (x_31:Int)=>⟨[(8,.b (.one (.sl 1 (x_8.map (eL 2 aQ))))),(9,.b (.row 104)),(10,.b (.row 106)),(13,I x_26),(68,.b (.one (.sl 2 (x_28.map aQ)))),(69,I (x_28.length:Int)),(70,I x_31)],[(104,.row 3 1 (out_29.map eI)),(106,.gl 3 1 (queue_30.map eI))]⟩) [8,9,10,13,68,69,70] [104,106] rfl ?_
      rintro ⟨out_29,queue_30,x_31⟩ o31 h32 hy33
      refine ab.seq (ab.aa ?_)
      refine Oc (bt rfl rfl) (ae.ag ⟨[(8,_),(9,_),(10,_),(13,_),(68,_),(69,_),(70,_),(71,B (decide (x_31 < (x_28.length:Int))))],[(104,_),(106,_)]⟩ rfl (ab.seq (ab.ite h32 rfl (fun _ h32=>?_) (fun _ h32=>?_))))
      ·refine ab.skip (Fin.af ⟨[(8,_),(9,_),(10,_),(13,_),(68,_),(69,_),(70,_)],[(104,_),(106,_)]⟩ rfl (Fin.then ?_))
       obtain ⟨v34,h35,h32⟩:=aL h32
       refine ab.cM (v:=v34) (cm fun (out_34:List Int) (queue_35:List Int)=>⟨[(8,.b (.one (.sl 1 (x_8.map (eL 2 aQ))))),(9,.b (.row 104)),(10,.b (.row 106)),(13,I x_26),(68,.b (.one (.sl 2 (x_28.map aQ)))),(69,I (x_28.length:Int)),(70,I x_31)],[(104,.row 3 1 (out_34.map eI)),(106,.gl 3 1 (queue_35.map eI))]⟩) (fun z=>z) ?_ ?_
       ·refine ab.block (ab.seq (ab.aa ?_))
        obtain ⟨x_36,e36,h35⟩:=aL h35
        refine Oc (aK mw (aH e36) (aJ (e:=aQ) e36) rfl rfl) (Oc (iZ nq rfl rfl rfl) (Oc (bh (k:=109) pP rfl) (Oc (lq nq rfl rfl rfl rfl (Nat.le_of_ble_eq_true rfl) rfl) ?_)))
        refine ae.ag ⟨[(8,_),(9,_),(10,_),(13,_),(15,Pt 109 0),(68,_),(69,_),(70,_)],[(104,_),(106,_),(109,.box 60 (aQ x_36))]⟩ rfl (ab.seq (ab.aa ?_))
        refine Oc om (Oc (bN eD rfl rfl) (Oc (bp az rfl rfl rfl) ?_))
        obtain ⟨x_37,e37,h35⟩:=aL h35
        refine Oc (ar aq (aH e37) (aW e37) rfl rfl rfl rfl) (Oc (aO (i:=(x_36.to:Int).toNat) (f:=0) az rfl rfl rfl (aJ (e:=eI) e37) rfl) (Oc (bt rfl rfl) ?_))
        refine ae.ag ⟨[(8,_),(9,_),(10,_),(13,_),(15,_),(68,_),(69,_),(70,_),(79,B (decide (x_37 < 0)))],[(104,_),(106,_),(109,_)]⟩ rfl (ab.ite h35 rfl (fun _ h35=>?_) (fun _ h35=>?_))
        ·refine ab.seq (ab.af ⟨[(8,_),(9,_),(10,_),(13,_),(15,_),(68,_),(69,_),(70,_)],[(104,_),(106,_),(109,_)]⟩ rfl ?_)
         obtain ⟨x_38,e38,h35⟩:=aL h35
         obtain ⟨x_39,e39,h35⟩:=aL h35
         refine ab.eC mixed 9 [.b (.row 104),Pt 109 0,I x_36.to,.b (.row 104),I x_26,.b (.bw 104 ((x_26:Int).toNat * 1)),I x_38,I (IntKind.i64.wrap (x_38 + 1)),.b (.bw 104 ((x_36.to:Int).toNat * 1))] [8,9,10,13,15,68,69,70] [104,106,109] (s':=⟨[(8,_),(9,_),(10,_),(13,_),(15,_),(68,_),(69,_),(70,_)],[(104,.row 3 1 ((out_29.set (x_36.to:Int).toNat (IntKind.i64.wrap (x_38 + 1))).map eI)),(106,_),(109,_)]⟩) rfl ⟨fun _=>.p om,fun _=>.p (bN eD rfl rfl),fun _=>.p (bp az rfl rfl rfl),fun _=>.p om,fun _=>.p om,fun _=>.p (ar aq (aH e38) (aW e38) rfl rfl rfl rfl),fun _=>.p (aO (i:=(x_26:Int).toNat) (f:=0) az rfl rfl rfl (aJ (e:=eI) e38) rfl),fun _=>.p (aU rfl rfl),fun _=>.p (ar aq (aH e39) (aW e39) rfl rfl rfl rfl),trivial⟩ ⟨_,by exact .p (bM (i:=(x_36.to:Int).toNat) az rfl rfl rfl rfl (fl e39) (map_set _ _ _ _)),rfl⟩ rfl (ab.aa (Oc om (Oc (bN eD rfl rfl) (Oc (bp az rfl rfl rfl) (Oc (aF (k:=110) (es:=[x_36.to].map eI) aq rfl rfl (bf fun _=>rfl) rfl (by decide) (by decide) rfl) ?_)))))
         obtain ⟨x_40,e40,h35⟩:=aL h35
         refine Oc (ot aq (fp e40) (fo e40) rfl rfl rfl rfl (c5 e40) rfl) (Oc oa ?_)
         refine ae.nil (Fin.ah ?_)
         exact Fin.join [8,9,10,13,68,69,70] [104,106] (out_29.set (x_36.to:Int).toNat (IntKind.i64.wrap (x_38 + 1)),x_40) (Option.some.inj h35) rfl
        ·refine ab.skip (Fin.ah ?_)
         exact Fin.join [8,9,10,13,68,69,70] [104,106] (out_29,queue_30) (Option.some.inj h35) rfl
       ·rintro ⟨out_34,queue_35⟩ hv
        subst v34
        refine ab.aa (Oc (aU rfl rfl) (Oc om ?_))
        refine ae.nil ?_
        exact Fin.bG [8,9,10,13,68,69,70] [104,106] (out_34,queue_35,IntKind.i64.wrap (x_31 + 1)) (Option.some.inj h32) rfl
      ·refine ab.exit (Fin.ai ?_)
       obtain rfl:=hy33 _ (Option.some.inj h32).symm
       refine Fin.ai (Fin.aB (Fin.ah ?_))
       exact Fin.bG [8,9,10] [104,106] (out_29,queue_30) (Option.some.inj h24) rfl
     ·refine ab.exit (Fin.ai ?_)
      obtain rfl:=hy25 _ (Option.some.inj h24).symm
      refine Fin.ai (Fin.aB ?_)
      exact Fin.join [9] [104] out_23 rfl rfl
    ·rintro out_22 hv
     subst v21
     refine ab.seq (ab.aa ?_)
     refine Oc om (Oc oa (Oc oa ?_))
     refine ae.ag ⟨[(4,.b (.row 104)),(5,I 0)],[(104,_)]⟩ rfl (ab.ret ?_)
     obtain rfl:=Option.some.inj h
     refine Fin.af ⟨[(4,_),(5,_)],[(104,_)]⟩ rfl (Fin.lJ 104 kr0 [.row 104,.one (.i 0)] (.inl rfl) rfl (.cons (.tmp rfl) (.cons (.tmp rfl) .nil)) rfl rfl rfl rfl ⟨rfl,rfl⟩)
def iB (F:Nat) (x0:Int):Option Bool :=
 some (decide (x0 ≠ x0))
theorem kv {F:Nat} {x0:Int} {r:Bool} (h:iB F x0 = some r):ay Try.prog [] 52 [] [.one (.int .u64 x0)] (Is [] (.b (.one (.bool r)))):=by
 unfold iB at h
 refine ay.intro 6 Try.func52 Try.ntmps52 rfl (by simp) fun E=>?_
 show ab _ E ⟨6,[],[],[]⟩ _ ⟨[(0,.b (.one (.int .u64 x0)))],[]⟩ _
 refine ab.seq (ab.aa ?_)
 refine Oc oa (ae.ag ⟨[(0,.b (.one (.int .u64 x0)))],[]⟩ rfl (ab.seq (ab.aa ?_)))
 refine Oc om (Oc om (Oc (iG rfl rfl) (Oc oa ?_)))
 refine ae.ag ⟨[(2,B (decide (x0 ≠ x0)))],[]⟩ rfl (ab.ret ?_)
 obtain rfl:=Option.some.inj h
 refine Fin.af ⟨[(2,_)],[]⟩ rfl (Fin.aV [.one (.bool (decide (x0 ≠ x0)))] (.inl rfl) rfl (.cons (.tmp rfl) .nil) ⟨rfl,rfl⟩)
def iM (F:Nat) (x0:Int) (y0:Int):Option Int :=
 (iB F x0).bind fun x_1=>(iB F y0).bind fun x_2=>if x_1 = true then (if x_2 = true then (some 0) else (some (-1))) else (if x_2 = true then (some 1) else (if (decide (x0 < y0)) = true then (some (-1)) else (if (decide (y0 < x0)) = true then (some 1) else (some 0))))
theorem mZ {F:Nat} {x0:Int} {y0:Int} {r:Int} (h:iM F x0 y0 = some r):ay Try.prog [] 35 [] [.one (.int .u64 x0),.one (.int .u64 y0)] (Is [] (.b (.one (.i r)))):=by
 unfold iM at h
 refine ay.intro 20 Try.func35 Try.ntmps35 rfl (by simp) fun E=>?_
 show ab _ E ⟨20,[],[],[]⟩ _ ⟨[(0,.b (.one (.int .u64 x0))),(1,.b (.one (.int .u64 y0)))],[]⟩ _
 refine ab.seq (ab.aa ?_)
 refine Oc oa (ae.ag ⟨[(0,.b (.one (.int .u64 x0))),(1,.b (.one (.int .u64 y0)))],[]⟩ rfl (ab.seq (ab.aa ?_)))
 refine Oc om ?_
 obtain ⟨x_1,e1,h⟩:=aL h
 refine Oc (aT (kv e1) sZ rfl rfl) (Oc oa ?_)
 refine ae.ag ⟨[(0,_),(1,_),(5,B x_1)],[]⟩ rfl (ab.seq (ab.aa ?_))
 refine Oc om ?_
 obtain ⟨x_2,e2,h⟩:=aL h
 refine Oc (aT (kv e2) sZ rfl rfl) (Oc oa ?_)
 refine ae.ag ⟨[(0,_),(1,_),(5,_),(6,B x_2)],[]⟩ rfl (ab.seq (ab.seq (ab.aa ?_)))
 refine Oc om (ae.ag ⟨[(0,_),(1,_),(6,_),(11,B x_1)],[]⟩ rfl (ab.ite h rfl (fun _ h=>?_) (fun _ h=>?_)))
 ·refine ab.seq (ab.seq (ab.aa ?_))
  refine Oc om (ae.ag ⟨[(12,B x_2)],[]⟩ rfl (ab.ite h rfl (fun _ h=>?_) (fun _ h=>?_)))
  ·refine ab.seq (ab.aa ?_)
   refine Oc oa (ae.ag ⟨[(4,I 0)],[]⟩ rfl (ab.ret (Fin.aN (Fin.aN ?_))))
   obtain rfl:=Option.some.inj h
   refine Fin.af ⟨[(4,_)],[]⟩ rfl (Fin.aV [.one (.i 0)] (.inl rfl) rfl (.cons (.tmp rfl) .nil) ⟨rfl,rfl⟩)
  ·refine ab.skip (Fin.af ⟨[],[]⟩ rfl (Fin.then (ab.seq (ab.aa ?_))))
   refine Oc oa (ae.ag ⟨[(4,I (-1))],[]⟩ rfl (ab.ret (Fin.aN ?_)))
   obtain rfl:=Option.some.inj h
   refine Fin.af ⟨[(4,_)],[]⟩ rfl (Fin.aV [.one (.i (-1))] (.inl rfl) rfl (.cons (.tmp rfl) .nil) ⟨rfl,rfl⟩)
 ·refine ab.skip (Fin.af ⟨[(0,_),(1,_),(6,_)],[]⟩ rfl (Fin.then (ab.seq (ab.seq (ab.aa ?_)))))
  refine Oc om (ae.ag ⟨[(0,_),(1,_),(13,B x_2)],[]⟩ rfl (ab.ite h rfl (fun _ h=>?_) (fun _ h=>?_)))
  ·refine ab.seq (ab.aa ?_)
   refine Oc oa (ae.ag ⟨[(4,I 1)],[]⟩ rfl (ab.ret (Fin.aN ?_)))
   obtain rfl:=Option.some.inj h
   refine Fin.af ⟨[(4,_)],[]⟩ rfl (Fin.aV [.one (.i 1)] (.inl rfl) rfl (.cons (.tmp rfl) .nil) ⟨rfl,rfl⟩)
  ·refine ab.skip (Fin.af ⟨[(0,_),(1,_)],[]⟩ rfl (Fin.then (ab.seq (ab.seq (ab.aa ?_)))))
   refine Oc om (Oc om (Oc (bt rfl rfl) ?_))
   refine ae.ag ⟨[(0,_),(1,_),(16,B (decide (x0 < y0)))],[]⟩ rfl (ab.ite h rfl (fun _ h=>?_) (fun _ h=>?_))
   ·refine ab.seq (ab.aa ?_)
    refine Oc oa (ae.ag ⟨[(4,I (-1))],[]⟩ rfl (ab.ret (Fin.aN ?_)))
    obtain rfl:=Option.some.inj h
    refine Fin.af ⟨[(4,_)],[]⟩ rfl (Fin.aV [.one (.i (-1))] (.inl rfl) rfl (.cons (.tmp rfl) .nil) ⟨rfl,rfl⟩)
   ·refine ab.skip (Fin.af ⟨[(0,_),(1,_)],[]⟩ rfl (Fin.then (ab.seq (ab.seq (ab.aa ?_)))))
    refine Oc om (Oc om (Oc (iH rfl rfl) ?_))
    refine ae.ag ⟨[(19,B (decide (y0 < x0)))],[]⟩ rfl (ab.ite h rfl (fun _ h=>?_) (fun _ h=>?_))
    ·refine ab.seq (ab.aa ?_)
     refine Oc oa (ae.ag ⟨[(4,I 1)],[]⟩ rfl (ab.ret (Fin.aN ?_)))
     obtain rfl:=Option.some.inj h
     refine Fin.af ⟨[(4,_)],[]⟩ rfl (Fin.aV [.one (.i 1)] (.inl rfl) rfl (.cons (.tmp rfl) .nil) ⟨rfl,rfl⟩)
    ·refine ab.skip (Fin.af ⟨[],[]⟩ rfl (Fin.then (ab.seq (ab.aa ?_))))
     refine Oc oa (ae.ag ⟨[(4,I 0)],[]⟩ rfl (ab.ret ?_))
     obtain rfl:=Option.some.inj h
     refine Fin.af ⟨[(4,_)],[]⟩ rfl (Fin.aV [.one (.i 0)] (.inl rfl) rfl (.cons (.tmp rfl) .nil) ⟨rfl,rfl⟩)
def c8 (F:Nat) (a0:Int) (b0:Int) (v0c:List Int):Option Int :=
 (aE v0c a0).bind fun x_1=>(aE v0c b0).bind fun x_2=>(iM F (IntKind.u64.wrap x_1) (IntKind.u64.wrap x_2)).bind fun x_3=>some x_3
theorem dG {F:Nat} {a0:Int} {b0:Int} {v0c:List Int} {r:Int} (h:c8 F a0 b0 v0c = some r):ay Try.prog [] 34 [] [.one (.i a0),.one (.i b0),.c3 [.sl 1 (v0c.map eI)]] (Is [] (.b (.one (.i r)))):=by
 unfold c8 at h
 refine ay.intro 17 Try.func34 Try.ntmps34 rfl (by simp) fun E=>?_
 show ab _ E ⟨17,[],[],[]⟩ _ ⟨[(0,I a0),(1,I b0),(2,.b (.c3 [.sl 1 (v0c.map eI)]))],[]⟩ _
 refine ab.seq (ab.aa ?_)
 refine Oc oa (ae.ag ⟨[(0,I a0),(1,I b0),(2,.b (.c3 [.sl 1 (v0c.map eI)]))],[]⟩ rfl (ab.seq ?_))
 obtain ⟨x_1,e1,h⟩:=aL h
 obtain ⟨x_2,e2,h⟩:=aL h
 obtain ⟨x_3,e3,h⟩:=aL h
 refine ab.eC mixed 12 [.b (.one (.sl 1 (v0c.map eI))),I a0,.b (.c3 [.i x_1]),I x_1,.b (.one (.int .u64 (IntKind.u64.wrap x_1))),.b (.one (.sl 1 (v0c.map eI))),I b0,.b (.c3 [.i x_2]),I x_2,.b (.one (.int .u64 (IntKind.u64.wrap x_2))),I x_3,I x_3] [5] [] (s':=⟨[(5,I x_3)],[]⟩) rfl ⟨fun _=>.p (aG aZ rfl rfl),fun _=>.p om,fun _=>.p (aK aq (aH e1) (aJ (e:=eI) e1) rfl rfl),fun _=>.p (aG az rfl rfl),fun _=>.p (bW jH gT rfl),fun _=>.p (aG aZ rfl rfl),fun _=>.p om,fun _=>.p (aK aq (aH e2) (aJ (e:=eI) e2) rfl rfl),fun _=>.p (aG az rfl rfl),fun _=>.p (bW jH gT rfl),fun _=>.p (aT (mZ e3) goes35 rfl rfl),fun _=>.p oa,trivial⟩ rfl rfl (ab.ret ?_)
 obtain rfl:=Option.some.inj h
 refine Fin.af ⟨[(5,_)],[]⟩ rfl (Fin.aV [.one (.i x_3)] (.inl rfl) rfl (.cons (.tmp rfl) .nil) ⟨rfl,rfl⟩)
def ca (F:Nat) (a0:Int) (b0:Int) (cmp0:List Int) (data0:List Int):Option (List Int) :=
 Option.bind (iter F (cm fun data_1 i_2=>if (decide (i_2 < b0)) = true then (Option.bind (Option.bind (iter F (cm fun data_5 j_6=>(dc (decide (a0 < j_6)) (aE data_5 j_6)).bind fun x_8=>(dc (decide (a0 < j_6)) (aE data_5 (IntKind.i64.wrap (j_6 - 1)))).bind fun x_9=>(dc (decide (a0 < j_6)) (c8 F x_8 x_9 cmp0)).bind fun x_10=>if ((decide (a0 < j_6)) && (decide (x_10 < 0))) = true then ((aE data_5 (IntKind.i64.wrap (j_6 - 1))).bind fun x_11=>(aE data_5 j_6).bind fun x_12=>(aE data_5 j_6).bind fun x_13=>(aE (data_5.set (j_6:Int).toNat x_11) (IntKind.i64.wrap (j_6 - 1))).bind fun x_14=>some (.inl ((data_5.set (j_6:Int).toNat x_11).set (IntKind.i64.wrap (j_6 - 1):Int).toNat x_12,IntKind.i64.wrap (j_6 - 1)))) else (some (.inr data_5))) (data_1,i_2)) (fun data_7=>some data_7)) (fun data_4=>some (.inl (data_4,IntKind.i64.wrap (i_2 + 1))))) else (some (.inr data_1))) (data0,IntKind.i64.wrap (a0 + 1))) (fun y_3=>some y_3)
theorem dz {F:Nat} {a0:Int} {b0:Int} {cmp0:List Int} {data0:List Int} {r:(List Int)} (h:ca F a0 b0 cmp0 data0 = some r):ay Try.prog [] 57 [(1,.cJ 3 1 (data0.map eI))] [.row 1,.one (.i a0),.one (.i b0),.one (.bY 34 [CP.rp [.sl 1 (cmp0.map eI)]])] (Is [(1,.cJ 3 1 (r.map eI))] (.eJ [])):=by
 unfold ca at h
 refine ay.intro 53 Try.func57 Try.ntmps57 rfl (by simp) fun E=>?_
 show ab _ E ⟨53,[1],[1],[]⟩ _ ⟨[(0,.b (.row 1)),(1,I a0),(2,I b0),(3,.b (.one (.bY 34 [CP.rp [.sl 1 (cmp0.map eI)]])))],[(1,.cJ 3 1 (data0.map eI))]⟩ _
 refine ab.lz 1 rfl (ab.seq (ab.aa ?_))
 refine Oc om (Oc (aU rfl rfl) (Oc oa ?_))
 refine ae.ag ⟨[(0,.b (.row 1)),(1,I a0),(2,I b0),(3,.b (.one (.bY 34 [CP.rp [.sl 1 (cmp0.map eI)]]))),(8,I (IntKind.i64.wrap (a0 + 1)))],[(1,.row 3 1 (data0.map eI))]⟩ rfl (ab.block ?_)
 obtain ⟨v1,h2,h⟩:=aL h
 refine ab.cE h2 (cm fun (data_1:List Int) (i_2:Int)=>⟨[(0,.b (.row 1)),(1,I a0),(2,I b0),(3,.b (.one (.bY 34 [CP.rp [.sl 1 (cmp0.map eI)]]))),(8,I i_2)],[(1,.row 3 1 (data_1.map eI))]⟩) [0,1,2,3,8] [1] rfl ?_
 rintro ⟨data_1,i_2⟩ o3 h4 hy5
 refine ab.seq (ab.seq (ab.aa ?_))
 refine Oc om (Oc om (Oc (bt rfl rfl) ?_))
 refine ae.ag ⟨[(0,_),(1,_),(2,_),(3,_),(8,_),(14,B (decide (i_2 < b0)))],[(1,_)]⟩ rfl (ab.ite h4 rfl (fun _ h4=>?_) (fun _ h4=>?_))
 ·refine ab.skip (Fin.af ⟨[(0,_),(1,_),(2,_),(3,_),(8,_)],[(1,_)]⟩ rfl (Fin.then ?_))
  obtain ⟨v6,h7,h4⟩:=aL h4
  refine ab.cM (v:=v6) (fun (data_4:List Int)=>⟨[(0,.b (.row 1)),(1,I a0),(2,I b0),(3,.b (.one (.bY 34 [CP.rp [.sl 1 (cmp0.map eI)]]))),(8,I i_2)],[(1,.row 3 1 (data_4.map eI))]⟩) (fun z=>z) ?_ ?_
  ·refine ab.block (ab.seq (ab.aa ?_))
   refine Oc om (Oc oa ?_)
   refine ae.ag ⟨[(0,_),(1,_),(2,_),(3,_),(8,_),(9,I i_2)],[(1,_)]⟩ rfl (ab.block ?_)
   obtain ⟨v8,h9,h7⟩:=aL h7
   refine ab.cE h9 (cm fun (data_5:List Int) (j_6:Int)=>⟨[(0,.b (.row 1)),(1,I a0),(2,I b0),(3,.b (.one (.bY 34 [CP.rp [.sl 1 (cmp0.map eI)]]))),(8,I i_2),(9,I j_6)],[(1,.row 3 1 (data_5.map eI))]⟩) [0,1,2,3,8,9] [1] rfl ?_
   rintro ⟨data_5,j_6⟩ o10 h11 hy12
   refine ab.seq (ab.seq ?_)
   refine ab.af ⟨[(0,_),(1,_),(2,_),(3,_),(8,_),(9,_)],[(1,_)]⟩ rfl ?_
   obtain ⟨x_8,e17,h11⟩:=aL h11
   obtain ⟨x_9,e23,h11⟩:=aL h11
   obtain ⟨x_10,e26,h11⟩:=aL h11
   refine ab.eC mixed 17 [I j_6,I a0,B (decide (a0 < j_6)),B (decide (a0 < j_6)),.opt (decide (a0 < j_6)) (.one (.bY 34 [CP.rp [.sl 1 (cmp0.map eI)]])),.opt (decide (a0 < j_6)) (.row 1),.opt (decide (a0 < j_6)) (.one (.i j_6)),.opt (decide (a0 < j_6)) (.bw 1 ((j_6:Int).toNat * 1)),.opt (decide (a0 < j_6)) (.one (.i x_8)),.opt (decide (a0 < j_6)) (.row 1),.opt (decide (a0 < j_6)) (.one (.i j_6)),.opt (decide (a0 < j_6)) (.one (.i (IntKind.i64.wrap (j_6 - 1)))),.opt (decide (a0 < j_6)) (.bw 1 ((IntKind.i64.wrap (j_6 - 1):Int).toNat * 1)),.opt (decide (a0 < j_6)) (.one (.i x_9)),.opt (decide (a0 < j_6)) (.one (.i x_10)),.opt (decide (a0 < j_6)) (.one (.bool (decide (x_10 < 0)))),B ((decide (a0 < j_6)) && (decide (x_10 < 0)))] [0,1,2,3,8,9,34] [1] (s':=⟨[(0,_),(1,_),(2,_),(3,_),(8,_),(9,_),(34,B ((decide (a0 < j_6)) && (decide (x_10 < 0))))],[(1,_)]⟩) rfl ⟨fun _=>.p om,fun _=>.p om,fun _=>.p (iH rfl rfl),fun _=>.p om,fun _=>by exact .guard (decide (a0 < j_6)) 1 [] (.plain rfl) (mo _) rfl rfl (fun g13=>trivial) (fun g13=>om),fun _=>by exact .guard (decide (a0 < j_6)) 1 [] (.plain rfl) (mo _) rfl rfl (fun g14=>trivial) (fun g14=>om),fun _=>by exact .guard (decide (a0 < j_6)) 1 [] (.plain rfl) (mo _) rfl rfl (fun g15=>trivial) (fun g15=>om),fun _=>by exact .guard (decide (a0 < j_6)) 3 [23,24] (.plain rfl) (mo _) rfl rfl (fun g16=>⟨g16,g16,trivial⟩) (fun g16=>ar aq (aH (gc e17 g16)) (aW (gc e17 g16)) rfl rfl rfl rfl),fun _=>by exact .guard (decide (a0 < j_6)) 2 [25] (.plain rfl) (mo _) rfl rfl (fun g18=>⟨g18,trivial⟩) (fun g18=>aO (i:=(j_6:Int).toNat) (f:=0) az rfl rfl rfl (aJ (e:=eI) (gc e17 g18)) rfl),fun _=>by exact .guard (decide (a0 < j_6)) 1 [] (.plain rfl) (mo _) rfl rfl (fun g19=>trivial) (fun g19=>om),fun _=>by exact .guard (decide (a0 < j_6)) 1 [] (.plain rfl) (mo _) rfl rfl (fun g20=>trivial) (fun g20=>om),fun _=>by exact .guard (decide (a0 < j_6)) 2 [28] (.plain rfl) (mo _) rfl rfl (fun g21=>⟨g21,trivial⟩) (fun g21=>cR rfl rfl),fun _=>by exact .guard (decide (a0 < j_6)) 3 [27,29] (.plain rfl) (mo _) rfl rfl (fun g22=>⟨g22,g22,trivial⟩) (fun g22=>ar aq (aH (gc e23 g22)) (aW (gc e23 g22)) rfl rfl rfl rfl),fun _=>by exact .guard (decide (a0 < j_6)) 2 [30] (.plain rfl) (mo _) rfl rfl (fun g24=>⟨g24,trivial⟩) (fun g24=>aO (i:=(IntKind.i64.wrap (j_6 - 1):Int).toNat) (f:=0) az rfl rfl rfl (aJ (e:=eI) (gc e23 g24)) rfl),fun _=>by exact .guard (decide (a0 < j_6)) 5 [22,26,31] (.plain rfl) (mo _) rfl rfl (fun g25=>⟨g25,g25,g25,trivial⟩) (fun g25=>gY (pss:=[[.sl 1 (cmp0.map eI)]]) (dG (gc e26 g25)) pb rfl rfl rfl trivial rfl rfl),fun _=>by exact .guard (decide (a0 < j_6)) 2 [32] (.plain rfl) (mo _) rfl rfl (fun g27=>⟨g27,trivial⟩) (fun g27=>bt rfl rfl),fun _=>.p (aY (fun e=>e) rfl rfl rfl rfl),trivial⟩ rfl rfl ?_
   refine ab.ite h11 rfl (fun _ h11=>?_) (fun _ h11=>?_)
   ·refine ab.skip (Fin.af ⟨[(0,_),(1,_),(2,_),(3,_),(8,_),(9,_)],[(1,_)]⟩ rfl (Fin.then (ab.seq (ab.block ?_))))
    refine ab.af ⟨[(0,_),(1,_),(2,_),(3,_),(8,_),(9,_)],[(1,_)]⟩ rfl ?_
    obtain ⟨x_11,e28,h11⟩:=aL h11
    obtain ⟨x_12,e29,h11⟩:=aL h11
    obtain ⟨x_13,e30,h11⟩:=aL h11
    obtain ⟨x_14,e31,h11⟩:=aL h11
    refine ab.gp mixed [false,false,false,false,false,false,false,false,false,false,false,false,false,false,false,true,false,true] [.b (.row 1),I j_6,.b (.row 1),I j_6,I (IntKind.i64.wrap (j_6 - 1)),.b (.row 1),I j_6,I (IntKind.i64.wrap (j_6 - 1)),.b (.bw 1 ((IntKind.i64.wrap (j_6 - 1):Int).toNat * 1)),I x_11,.b (.row 1),I j_6,.b (.bw 1 ((j_6:Int).toNat * 1)),I x_12,.b (.bw 1 ((j_6:Int).toNat * 1)),B true,.b (.bw 1 ((IntKind.i64.wrap (j_6 - 1):Int).toNat * 1)),B true] [⟨[false,false,false,false,false,false,false,false,false,false,false,false,false,false,false,false,false,false],[(0,.b (.row 1)),(1,I a0),(2,I b0),(3,.b (.one (.bY 34 [CP.rp [.sl 1 (cmp0.map eI)]]))),(8,I i_2),(9,I j_6)],[(1,.row 3 1 (data_5.map eI))],[true,true,true,true,true,true,true,true,true,true,true,true,true,true,true,true,true,true],[],[16,17]⟩,⟨[false,false,false,false,false,false,false,false,false,false,false,false,false,false,false,true,false,false],[(0,.b (.row 1)),(1,I a0),(2,I b0),(3,.b (.one (.bY 34 [CP.rp [.sl 1 (cmp0.map eI)]]))),(8,I i_2),(9,I j_6)],[(1,.row 3 1 ((data_5.set (j_6:Int).toNat x_11).map eI))],[true,true,true,true,true,true,true,true,true,true,true,true,true,true,true,true,true,true],[0,1,5,6,7,8,9,10,11,12,13,14,15],[]⟩,⟨[false,false,false,false,false,false,false,false,false,false,false,false,false,false,false,true,false,true],[(0,.b (.row 1)),(1,I a0),(2,I b0),(3,.b (.one (.bY 34 [CP.rp [.sl 1 (cmp0.map eI)]]))),(8,I i_2),(9,I j_6)],[(1,.row 3 1 (((data_5.set (j_6:Int).toNat x_11).set (IntKind.i64.wrap (j_6 - 1):Int).toNat x_12).map eI))],[true,true,true,true,true,true,true,true,true,true,true,true,true,true,true,true,true,true],[0,1,2,3,4,5,6,7,8,9,10,11,12,13,14,15,16,17],[]⟩] rfl (⟨by kernel_rfl,⟨⟨.b (.row 1),fun _=>rfl,fun _=>.p (by exact an rfl)⟩,⟨I j_6,fun _=>rfl,fun _=>.p (by exact an rfl)⟩,⟨.b (.row 1),fun _=>rfl,fun _=>.p (by exact an rfl)⟩,⟨I j_6,fun _=>rfl,fun _=>.p (by exact an rfl)⟩,⟨I (IntKind.i64.wrap (j_6 - 1)),fun _=>rfl,fun _=>.p (by exact cR rfl rfl)⟩,⟨.b (.row 1),fun _=>rfl,fun _=>.p (by exact an rfl)⟩,⟨I j_6,fun _=>rfl,fun _=>.p (by exact an rfl)⟩,⟨I (IntKind.i64.wrap (j_6 - 1)),fun _=>rfl,fun _=>.p (by exact cR rfl rfl)⟩,⟨.b (.bw 1 ((IntKind.i64.wrap (j_6 - 1):Int).toNat * 1)),fun _=>rfl,fun _=>.p (by exact ar aq (aH e28) (aW e28) rfl rfl rfl rfl)⟩,⟨I x_11,fun _=>rfl,fun _=>.p (by exact aO (i:=(IntKind.i64.wrap (j_6 - 1):Int).toNat) (f:=0) az rfl rfl rfl (aJ (e:=eI) e28) rfl)⟩,⟨.b (.row 1),fun _=>rfl,fun _=>.p (by exact an rfl)⟩,⟨I j_6,fun _=>rfl,fun _=>.p (by exact an rfl)⟩,⟨.b (.bw 1 ((j_6:Int).toNat * 1)),fun _=>rfl,fun _=>.p (by exact ar aq (aH e29) (aW e29) rfl rfl rfl rfl)⟩,⟨I x_12,fun _=>rfl,fun _=>.p (by exact aO (i:=(j_6:Int).toNat) (f:=0) az rfl rfl rfl (aJ (e:=eI) e29) rfl)⟩,⟨.b (.bw 1 ((j_6:Int).toNat * 1)),fun _=>rfl,fun _=>.p (by exact ar aq (aH e30) (aW e30) rfl rfl rfl rfl)⟩,⟨_,[],.b (.one .any),rfl,(fun e=>by simp at e),rfl,rfl,fun _=>.fO [1] (by exact .p (by exact bM (i:=(j_6:Int).toNat) az rfl rfl rfl rfl (fl e30) (map_set _ _ _ _))) (by exact rfl)⟩,trivial,trivial,trivial⟩,⟨by kernel_rfl,⟨trivial,trivial,⟨.b (.row 1),fun _=>rfl,fun _=>.p (by exact an rfl)⟩,⟨I j_6,fun _=>rfl,fun _=>.p (by exact an rfl)⟩,⟨I (IntKind.i64.wrap (j_6 - 1)),fun _=>rfl,fun _=>.p (by exact cR rfl rfl)⟩,trivial,trivial,trivial,trivial,trivial,trivial,trivial,trivial,trivial,trivial,trivial,⟨.b (.bw 1 ((IntKind.i64.wrap (j_6 - 1):Int).toNat * 1)),fun _=>rfl,fun _=>.p (by exact ar aq (aH e31) (aW e31) rfl rfl rfl rfl)⟩,⟨_,[],.b (.one .any),rfl,(fun e=>by simp at e),rfl,rfl,fun _=>.fO [1] (by exact .p (by exact bM (i:=(IntKind.i64.wrap (j_6 - 1):Int).toNat) az rfl rfl rfl rfl (fl e31) (map_set _ _ _ _))) (by exact rfl)⟩,trivial⟩,⟨by kernel_rfl,⟨trivial,trivial,trivial,trivial,trivial,trivial,trivial,trivial,trivial,trivial,trivial,trivial,trivial,trivial,trivial,trivial,trivial,trivial,trivial⟩,trivial⟩⟩⟩) rfl rfl rfl [0,1,2,3,8,9] [1] (s':=⟨[(0,_),(1,_),(2,_),(3,_),(8,_),(9,_)],[(1,.row 3 1 (((data_5.set (j_6:Int).toNat x_11).set (IntKind.i64.wrap (j_6 - 1):Int).toNat x_12).map eI))]⟩) rfl ?_
    refine Fin.ah (Fin.af ⟨[(0,_),(1,_),(2,_),(3,_),(8,_),(9,_)],[(1,_)]⟩ rfl (Fin.then (ab.aa ?_)))
    refine Oc om (Oc (cR rfl rfl) (Oc oa ?_))
    refine ae.nil ?_
    exact Fin.bG [0,1,2,3,8,9] [1] ((data_5.set (j_6:Int).toNat x_11).set (IntKind.i64.wrap (j_6 - 1):Int).toNat x_12,IntKind.i64.wrap (j_6 - 1)) (Option.some.inj h11) rfl
   ·refine ab.exit (Fin.ai ?_)
    obtain rfl:=hy12 _ (Option.some.inj h11).symm
    refine Fin.ai (Fin.aB (Fin.ah ?_))
    exact Fin.join [0,1,2,3,8] [1] data_5 (Option.some.inj h7) rfl
  ·rintro data_4 hv
   subst v6
   refine ab.aa (Oc om (Oc (aU rfl rfl) (Oc oa ?_)))
   refine ae.nil ?_
   exact Fin.bG [0,1,2,3,8] [1] (data_4,IntKind.i64.wrap (i_2 + 1)) (Option.some.inj h4) rfl
 ·refine ab.exit (Fin.ai ?_)
  obtain rfl:=hy5 _ (Option.some.inj h4).symm
  refine Fin.ai (Fin.aB ?_)
  obtain rfl:=Option.some.inj h
  refine Fin.af ⟨[],[(1,_)]⟩ rfl (Fin.kM 1 rfl (Fin.af ⟨[],[(1,.cJ 3 1 (data_1.map eI))]⟩ rfl ?_))
  exact Fin.result [] (.inr rfl) rfl (.nil) ⟨rfl,rfl⟩
def bZ (F:Nat) (a0:Int) (b0:Int) (n0:Int) (cmp0:List Int) (data0:List Int):Option (List Int) :=
 Option.bind (iter F (cm fun data_1 i_2=>if (decide (i_2 < n0)) = true then ((aE data_1 (IntKind.i64.wrap (b0 + i_2))).bind fun x_4=>(aE data_1 (IntKind.i64.wrap (a0 + i_2))).bind fun x_5=>(aE data_1 (IntKind.i64.wrap (a0 + i_2))).bind fun x_6=>(aE (data_1.set (IntKind.i64.wrap (a0 + i_2):Int).toNat x_4) (IntKind.i64.wrap (b0 + i_2))).bind fun x_7=>some (.inl ((data_1.set (IntKind.i64.wrap (a0 + i_2):Int).toNat x_4).set (IntKind.i64.wrap (b0 + i_2):Int).toNat x_5,IntKind.i64.wrap (i_2 + 1)))) else (some (.inr data_1))) (data0,0)) (fun y_3=>some y_3)
theorem cY {F:Nat} {a0:Int} {b0:Int} {n0:Int} {cmp0:List Int} {data0:List Int} {r:(List Int)} (h:bZ F a0 b0 n0 cmp0 data0 = some r):ay Try.prog [] 77 [(1,.cJ 3 1 (data0.map eI))] [.row 1,.one (.i a0),.one (.i b0),.one (.i n0),.one (.bY 34 [CP.rp [.sl 1 (cmp0.map eI)]])] (Is [(1,.cJ 3 1 (r.map eI))] (.eJ [])):=by
 unfold bZ at h
 refine ay.intro 38 Try.func77 Try.ntmps77 rfl (by simp) fun E=>?_
 show ab _ E ⟨38,[1],[1],[]⟩ _ ⟨[(0,.b (.row 1)),(1,I a0),(2,I b0),(3,I n0),(4,.b (.one (.bY 34 [CP.rp [.sl 1 (cmp0.map eI)]])))],[(1,.cJ 3 1 (data0.map eI))]⟩ _
 refine ab.lz 1 rfl (ab.seq (ab.aa ?_))
 refine Oc oa (ae.ag ⟨[(0,.b (.row 1)),(1,I a0),(2,I b0),(3,I n0),(10,I 0)],[(1,.row 3 1 (data0.map eI))]⟩ rfl (ab.block ?_))
 obtain ⟨v1,h2,h⟩:=aL h
 refine ab.cE h2 (cm fun (data_1:List Int) (i_2:Int)=>⟨[(0,.b (.row 1)),(1,I a0),(2,I b0),(3,I n0),(10,I i_2)],[(1,.row 3 1 (data_1.map eI))]⟩) [0,1,2,3,10] [1] rfl ?_
 rintro ⟨data_1,i_2⟩ o3 h4 hy5
 refine ab.seq (ab.seq (ab.aa ?_))
 refine Oc om (Oc om (Oc (bt rfl rfl) ?_))
 refine ae.ag ⟨[(0,_),(1,_),(2,_),(3,_),(10,_),(13,B (decide (i_2 < n0)))],[(1,_)]⟩ rfl (ab.ite h4 rfl (fun _ h4=>?_) (fun _ h4=>?_))
 ·refine ab.skip (Fin.af ⟨[(0,_),(1,_),(2,_),(3,_),(10,_)],[(1,_)]⟩ rfl (Fin.then (ab.seq (ab.block ?_))))
  refine ab.af ⟨[(0,_),(1,_),(2,_),(3,_),(10,_)],[(1,_)]⟩ rfl ?_
  obtain ⟨x_4,e6,h4⟩:=aL h4
  obtain ⟨x_5,e7,h4⟩:=aL h4
  obtain ⟨x_6,e8,h4⟩:=aL h4
  obtain ⟨x_7,e9,h4⟩:=aL h4
  refine ab.gp mixed [false,false,false,false,false,false,false,false,false,false,false,false,false,false,false,false,false,false,false,false,false,true,false,true] [.b (.row 1),I a0,I i_2,I (IntKind.i64.wrap (a0 + i_2)),.b (.row 1),I b0,I i_2,I (IntKind.i64.wrap (b0 + i_2)),.b (.row 1),I b0,I i_2,I (IntKind.i64.wrap (b0 + i_2)),.b (.bw 1 ((IntKind.i64.wrap (b0 + i_2):Int).toNat * 1)),I x_4,.b (.row 1),I a0,I i_2,I (IntKind.i64.wrap (a0 + i_2)),.b (.bw 1 ((IntKind.i64.wrap (a0 + i_2):Int).toNat * 1)),I x_5,.b (.bw 1 ((IntKind.i64.wrap (a0 + i_2):Int).toNat * 1)),B true,.b (.bw 1 ((IntKind.i64.wrap (b0 + i_2):Int).toNat * 1)),B true] [⟨[false,false,false,false,false,false,false,false,false,false,false,false,false,false,false,false,false,false,false,false,false,false,false,false],[(0,.b (.row 1)),(1,I a0),(2,I b0),(3,I n0),(10,I i_2)],[(1,.row 3 1 (data_1.map eI))],[true,true,true,true,true,true,true,true,true,true,true,true,true,true,true,true,true,true,true,true,true,true,true,true],[],[22,23]⟩,⟨[false,false,false,false,false,false,false,false,false,false,false,false,false,false,false,false,false,false,false,false,false,true,false,false],[(0,.b (.row 1)),(1,I a0),(2,I b0),(3,I n0),(10,I i_2)],[(1,.row 3 1 ((data_1.set (IntKind.i64.wrap (a0 + i_2):Int).toNat x_4).map eI))],[true,true,true,true,true,true,true,true,true,true,true,true,true,true,true,true,true,true,true,true,true,true,true,true],[0,1,2,3,8,9,10,11,12,13,14,15,16,17,18,19,20,21],[]⟩,⟨[false,false,false,false,false,false,false,false,false,false,false,false,false,false,false,false,false,false,false,false,false,true,false,true],[(0,.b (.row 1)),(1,I a0),(2,I b0),(3,I n0),(10,I i_2)],[(1,.row 3 1 (((data_1.set (IntKind.i64.wrap (a0 + i_2):Int).toNat x_4).set (IntKind.i64.wrap (b0 + i_2):Int).toNat x_5).map eI))],[true,true,true,true,true,true,true,true,true,true,true,true,true,true,true,true,true,true,true,true,true,true,true,true],[0,1,2,3,4,5,6,7,8,9,10,11,12,13,14,15,16,17,18,19,20,21,22,23],[]⟩] rfl (⟨by kernel_rfl,⟨⟨.b (.row 1),fun _=>rfl,fun _=>.p (by exact an rfl)⟩,⟨I a0,fun _=>rfl,fun _=>.p (by exact an rfl)⟩,⟨I i_2,fun _=>rfl,fun _=>.p (by exact an rfl)⟩,⟨I (IntKind.i64.wrap (a0 + i_2)),fun _=>rfl,fun _=>.p (by exact aU rfl rfl)⟩,⟨.b (.row 1),fun _=>rfl,fun _=>.p (by exact an rfl)⟩,⟨I b0,fun _=>rfl,fun _=>.p (by exact an rfl)⟩,⟨I i_2,fun _=>rfl,fun _=>.p (by exact an rfl)⟩,⟨I (IntKind.i64.wrap (b0 + i_2)),fun _=>rfl,fun _=>.p (by exact aU rfl rfl)⟩,⟨.b (.row 1),fun _=>rfl,fun _=>.p (by exact an rfl)⟩,⟨I b0,fun _=>rfl,fun _=>.p (by exact an rfl)⟩,⟨I i_2,fun _=>rfl,fun _=>.p (by exact an rfl)⟩,⟨I (IntKind.i64.wrap (b0 + i_2)),fun _=>rfl,fun _=>.p (by exact aU rfl rfl)⟩,⟨.b (.bw 1 ((IntKind.i64.wrap (b0 + i_2):Int).toNat * 1)),fun _=>rfl,fun _=>.p (by exact ar aq (aH e6) (aW e6) rfl rfl rfl rfl)⟩,⟨I x_4,fun _=>rfl,fun _=>.p (by exact aO (i:=(IntKind.i64.wrap (b0 + i_2):Int).toNat) (f:=0) az rfl rfl rfl (aJ (e:=eI) e6) rfl)⟩,⟨.b (.row 1),fun _=>rfl,fun _=>.p (by exact an rfl)⟩,⟨I a0,fun _=>rfl,fun _=>.p (by exact an rfl)⟩,⟨I i_2,fun _=>rfl,fun _=>.p (by exact an rfl)⟩,⟨I (IntKind.i64.wrap (a0 + i_2)),fun _=>rfl,fun _=>.p (by exact aU rfl rfl)⟩,⟨.b (.bw 1 ((IntKind.i64.wrap (a0 + i_2):Int).toNat * 1)),fun _=>rfl,fun _=>.p (by exact ar aq (aH e7) (aW e7) rfl rfl rfl rfl)⟩,⟨I x_5,fun _=>rfl,fun _=>.p (by exact aO (i:=(IntKind.i64.wrap (a0 + i_2):Int).toNat) (f:=0) az rfl rfl rfl (aJ (e:=eI) e7) rfl)⟩,⟨.b (.bw 1 ((IntKind.i64.wrap (a0 + i_2):Int).toNat * 1)),fun _=>rfl,fun _=>.p (by exact ar aq (aH e8) (aW e8) rfl rfl rfl rfl)⟩,⟨_,[],.b (.one .any),rfl,(fun e=>by simp at e),rfl,rfl,fun _=>.fO [1] (by exact .p (by exact bM (i:=(IntKind.i64.wrap (a0 + i_2):Int).toNat) az rfl rfl rfl rfl (fl e8) (map_set _ _ _ _))) (by exact rfl)⟩,trivial,trivial,trivial⟩,⟨by kernel_rfl,⟨trivial,trivial,trivial,trivial,⟨.b (.row 1),fun _=>rfl,fun _=>.p (by exact an rfl)⟩,⟨I b0,fun _=>rfl,fun _=>.p (by exact an rfl)⟩,⟨I i_2,fun _=>rfl,fun _=>.p (by exact an rfl)⟩,⟨I (IntKind.i64.wrap (b0 + i_2)),fun _=>rfl,fun _=>.p (by exact aU rfl rfl)⟩,trivial,trivial,trivial,trivial,trivial,trivial,trivial,trivial,trivial,trivial,trivial,trivial,trivial,trivial,⟨.b (.bw 1 ((IntKind.i64.wrap (b0 + i_2):Int).toNat * 1)),fun _=>rfl,fun _=>.p (by exact ar aq (aH e9) (aW e9) rfl rfl rfl rfl)⟩,⟨_,[],.b (.one .any),rfl,(fun e=>by simp at e),rfl,rfl,fun _=>.fO [1] (by exact .p (by exact bM (i:=(IntKind.i64.wrap (b0 + i_2):Int).toNat) az rfl rfl rfl rfl (fl e9) (map_set _ _ _ _))) (by exact rfl)⟩,trivial⟩,⟨by kernel_rfl,⟨trivial,trivial,trivial,trivial,trivial,trivial,trivial,trivial,trivial,trivial,trivial,trivial,trivial,trivial,trivial,trivial,trivial,trivial,trivial,trivial,trivial,trivial,trivial,trivial,trivial⟩,trivial⟩⟩⟩) rfl rfl rfl [0,1,2,3,10] [1] (s':=⟨[(0,_),(1,_),(2,_),(3,_),(10,_)],[(1,.row 3 1 (((data_1.set (IntKind.i64.wrap (a0 + i_2):Int).toNat x_4).set (IntKind.i64.wrap (b0 + i_2):Int).toNat x_5).map eI))]⟩) rfl ?_
  refine Fin.ah (Fin.af ⟨[(0,_),(1,_),(2,_),(3,_),(10,_)],[(1,_)]⟩ rfl (Fin.then (ab.aa ?_)))
  refine Oc om (Oc (aU rfl rfl) (Oc oa ?_))
  refine ae.nil ?_
  exact Fin.bG [0,1,2,3,10] [1] ((data_1.set (IntKind.i64.wrap (a0 + i_2):Int).toNat x_4).set (IntKind.i64.wrap (b0 + i_2):Int).toNat x_5,IntKind.i64.wrap (i_2 + 1)) (Option.some.inj h4) rfl
 ·refine ab.exit (Fin.ai ?_)
  obtain rfl:=hy5 _ (Option.some.inj h4).symm
  refine Fin.ai (Fin.aB ?_)
  obtain rfl:=Option.some.inj h
  refine Fin.af ⟨[],[(1,_)]⟩ rfl (Fin.kM 1 rfl (Fin.af ⟨[],[(1,.cJ 3 1 (data_1.map eI))]⟩ rfl ?_))
  exact Fin.result [] (.inr rfl) rfl (.nil) ⟨rfl,rfl⟩
def dV (F:Nat) (a0:Int) (m0:Int) (b0:Int) (cmp0:List Int) (data0:List Int):Option (List Int) :=
 Option.bind (iter F (np fun data_3 i_4 j_5=>if (decide (i_4 ≠ j_5)) = true then (if (decide (j_5 < i_4)) = true then ((bZ F (IntKind.i64.wrap (m0 - i_4)) m0 j_5 cmp0 data_3).bind fun x_8=>some (.inl (x_8,IntKind.i64.wrap (i_4 - j_5),j_5))) else (eO (IntKind.i64.wrap ((IntKind.i64.wrap (m0 + j_5)) - i_4)) fun x_9=>(bZ F (IntKind.i64.wrap (m0 - i_4)) x_9 i_4 cmp0 data_3).bind fun x_10=>some (.inl (x_10,i_4,IntKind.i64.wrap (j_5 - i_4))))) else (some (.inr (data_3,i_4)))) (data0,IntKind.i64.wrap (m0 - a0),IntKind.i64.wrap (b0 - m0))) (cm fun data_1 i_2=>(bZ F (IntKind.i64.wrap (m0 - i_2)) m0 i_2 cmp0 data_1).bind fun x_11=>some x_11)
theorem ij {F:Nat} {a0:Int} {m0:Int} {b0:Int} {cmp0:List Int} {data0:List Int} {r:(List Int)} (h:dV F a0 m0 b0 cmp0 data0 = some r):ay Try.prog [] 70 [(1,.cJ 3 1 (data0.map eI))] [.row 1,.one (.i a0),.one (.i m0),.one (.i b0),.one (.bY 34 [CP.rp [.sl 1 (cmp0.map eI)]])] (Is [(1,.cJ 3 1 (r.map eI))] (.eJ [])):=by
 unfold dV at h
 refine ay.intro 58 Try.func70 Try.ntmps70 rfl (by simp) fun E=>?_
 show ab _ E ⟨58,[1],[1],[]⟩ _ ⟨[(0,.b (.row 1)),(1,I a0),(2,I m0),(3,I b0),(4,.b (.one (.bY 34 [CP.rp [.sl 1 (cmp0.map eI)]])))],[(1,.cJ 3 1 (data0.map eI))]⟩ _
 refine ab.lz 1 rfl (ab.seq (ab.aa ?_))
 refine Oc om (Oc om (Oc (cR rfl rfl) (Oc oa ?_)))
 refine ae.ag ⟨[(0,.b (.row 1)),(2,I m0),(3,I b0),(4,.b (.one (.bY 34 [CP.rp [.sl 1 (cmp0.map eI)]]))),(10,I (IntKind.i64.wrap (m0 - a0)))],[(1,.row 3 1 (data0.map eI))]⟩ rfl (ab.seq (ab.aa ?_))
 refine Oc om (Oc om (Oc (cR rfl rfl) (Oc oa ?_)))
 refine ae.ag ⟨[(0,_),(2,_),(4,_),(10,_),(11,I (IntKind.i64.wrap (b0 - m0)))],[(1,_)]⟩ rfl ?_
 obtain ⟨v1,h2,h⟩:=aL h
 refine ab.cM (v:=v1) (cm fun (data_1:List Int) (i_2:Int)=>⟨[(0,.b (.row 1)),(2,I m0),(4,.b (.one (.bY 34 [CP.rp [.sl 1 (cmp0.map eI)]]))),(10,I i_2)],[(1,.row 3 1 (data_1.map eI))]⟩) (fun z=>z) ?_ ?_
 ·refine ab.block (ab.cE h2 (np fun (data_3:List Int) (i_4:Int) (j_5:Int)=>⟨[(0,.b (.row 1)),(2,I m0),(4,.b (.one (.bY 34 [CP.rp [.sl 1 (cmp0.map eI)]]))),(10,I i_4),(11,I j_5)],[(1,.row 3 1 (data_3.map eI))]⟩) [0,2,4,10,11] [1] rfl ?_)
  rintro ⟨data_3,i_4,j_5⟩ o3 h4 hy5
  refine ab.seq (ab.seq (ab.aa ?_))
  refine Oc om (Oc om (Oc (iG rfl rfl) ?_))
  refine ae.ag ⟨[(0,_),(2,_),(4,_),(10,_),(11,_),(20,B (decide (i_4 ≠ j_5)))],[(1,_)]⟩ rfl (ab.ite h4 rfl (fun _ h4=>?_) (fun _ h4=>?_))
  ·refine ab.skip (Fin.af ⟨[(0,_),(2,_),(4,_),(10,_),(11,_)],[(1,_)]⟩ rfl (Fin.then (ab.block (ab.seq (ab.aa ?_)))))
   refine Oc om (Oc om (Oc (iH rfl rfl) ?_))
   refine ae.ag ⟨[(0,_),(2,_),(4,_),(10,_),(11,_),(23,B (decide (j_5 < i_4)))],[(1,_)]⟩ rfl (ab.ite h4 rfl (fun _ h4=>?_) (fun _ h4=>?_))
   ·refine ab.seq (ab.aa ?_)
    refine Oc om (Oc om (Oc om (Oc (cR rfl rfl) (Oc om (Oc om ?_)))))
    refine Oc om (ae.kM 1 rfl ?_)
    obtain ⟨x_8,e6,h4⟩:=aL h4
    refine Oc (bo (own_a:=[(1,_)]) (cY e6) qH rfl ⟨rfl,trivial⟩ rfl rfl) (ae.lz 1 rfl (ae.ag ⟨[(0,_),(2,_),(4,_),(10,_),(11,_)],[(1,.row 3 1 (x_8.map eI))]⟩ rfl (ab.aa (Oc om (Oc om (Oc (cR rfl rfl) (Oc oa ?_)))))))
    refine ae.nil (Fin.ah ?_)
    exact Fin.bG [0,2,4,10,11] [1] (x_8,IntKind.i64.wrap (i_4 - j_5),j_5) (Option.some.inj h4) rfl
   ·refine ab.seq (ab.aa ?_)
    refine Oc om (Oc om (Oc om (Oc (cR rfl rfl) (Oc om (Oc om ?_)))))
    refine Oc (aU rfl rfl) (ae.af ⟨[(0,_),(2,_),(4,_),(10,_),(11,_),(35,.b (.row 1)),(38,I (IntKind.i64.wrap (m0 - i_4))),(41,I (IntKind.i64.wrap (m0 + j_5)))],[(1,_)]⟩ rfl (Oc om (ae.iS .i64 h4 rfl (cR rfl rfl) (fun x_9 h4=>?_))))
    refine Oc om (Oc om ?_)
    refine ae.kM 1 rfl ?_
    obtain ⟨x_10,e7,h4⟩:=aL h4
    refine Oc (bo (own_a:=[(1,_)]) (cY e7) qH rfl ⟨rfl,trivial⟩ rfl rfl) (ae.lz 1 rfl (ae.ag ⟨[(0,_),(2,_),(4,_),(10,_),(11,_)],[(1,.row 3 1 (x_10.map eI))]⟩ rfl (ab.aa (Oc om (Oc om (Oc (cR rfl rfl) (Oc oa ?_)))))))
    refine ae.nil (Fin.ah ?_)
    exact Fin.bG [0,2,4,10,11] [1] (x_10,i_4,IntKind.i64.wrap (j_5 - i_4)) (Option.some.inj h4) rfl
  ·refine ab.exit (Fin.ai ?_)
   obtain rfl:=hy5 _ (Option.some.inj h4).symm
   refine Fin.ai (Fin.aB ?_)
   exact Fin.join [0,2,4,10] [1] (data_3,i_4) rfl rfl
 ·rintro ⟨data_1,i_2⟩ hv
  subst v1
  refine ab.aa (Oc om (Oc om (Oc om (Oc (cR rfl rfl) (Oc om (Oc om ?_))))))
  refine Oc om (ae.kM 1 rfl ?_)
  obtain ⟨x_11,e8,h⟩:=aL h
  refine Oc (bo (own_a:=[(1,_)]) (cY e8) qH rfl ⟨rfl,trivial⟩ rfl rfl) (ae.lz 1 rfl (ae.nil ?_))
  obtain rfl:=Option.some.inj h
  refine Fin.af ⟨[],[(1,.row 3 1 (x_11.map eI))]⟩ rfl (Fin.kM 1 rfl (Fin.af ⟨[],[(1,.cJ 3 1 (x_11.map eI))]⟩ rfl ?_))
  exact Fin.result [] (.inr rfl) rfl (.nil) ⟨rfl,rfl⟩
def bL (F:Nat):Nat → Int → Int → Int → (List Int) → (List Int) → Option (List Int)
 | 0,_,_,_,_,_=>none
 | n + 1,a0,m0,b0,cmp0,data0=>Option.bind (if (decide ((IntKind.i64.wrap (m0 - a0)) = 1)) = true then (Option.bind (iter F (cm fun i_2 j_3=>if (decide (i_2 < j_3)) = true then (eO (IntKind.u64.wrap (IntKind.i64.wrap (i_2 + j_3))) fun x_5=>(aE data0 (IntKind.i64.wrap (x_5 / 2))).bind fun x_6=>(aE data0 a0).bind fun x_7=>(c8 F x_6 x_7 cmp0).bind fun x_8=>if (decide (x_8 < 0)) = true then (eO (IntKind.i64.wrap ((IntKind.i64.wrap (x_5 / 2)) + 1)) fun x_9=>some (.inl (x_9,j_3))) else (some (.inl (i_2,IntKind.i64.wrap (x_5 / 2))))) else (some (.inr i_2))) (m0,b0)) (fun i_1=>Option.bind (iter F (cm fun data_11 k_12=>if (decide (k_12 < (IntKind.i64.wrap (i_1 - 1)))) = true then ((aE data_11 (IntKind.i64.wrap (k_12 + 1))).bind fun x_14=>(aE data_11 k_12).bind fun x_15=>(aE data_11 k_12).bind fun x_16=>(aE (data_11.set (k_12:Int).toNat x_14) (IntKind.i64.wrap (k_12 + 1))).bind fun x_17=>some (.inl ((data_11.set (k_12:Int).toNat x_14).set (IntKind.i64.wrap (k_12 + 1):Int).toNat x_15,IntKind.i64.wrap (k_12 + 1)))) else (some (.inr data_11))) (data0,a0)) (fun y_10=>some (.inr y_10)))) else (some (.inl ()))) (iE (fun _=>Option.bind (if (decide ((IntKind.i64.wrap (b0 - m0)) = 1)) = true then (Option.bind (iter F (cm fun i_19 j_20=>if (decide (i_19 < j_20)) = true then (eO (IntKind.u64.wrap (IntKind.i64.wrap (i_19 + j_20))) fun x_22=>(aE data0 m0).bind fun x_23=>(aE data0 (IntKind.i64.wrap (x_22 / 2))).bind fun x_24=>(c8 F x_23 x_24 cmp0).bind fun x_25=>if (!(decide (x_25 < 0))) = true then (eO (IntKind.i64.wrap ((IntKind.i64.wrap (x_22 / 2)) + 1)) fun x_26=>some (.inl (x_26,j_20))) else (some (.inl (i_19,IntKind.i64.wrap (x_22 / 2))))) else (some (.inr i_19))) (a0,m0)) (fun i_18=>Option.bind (iter F (cm fun data_28 k_29=>if (decide (i_18 < k_29)) = true then ((aE data_28 (IntKind.i64.wrap (k_29 - 1))).bind fun x_31=>(aE data_28 k_29).bind fun x_32=>(aE data_28 k_29).bind fun x_33=>(aE (data_28.set (k_29:Int).toNat x_31) (IntKind.i64.wrap (k_29 - 1))).bind fun x_34=>some (.inl ((data_28.set (k_29:Int).toNat x_31).set (IntKind.i64.wrap (k_29 - 1):Int).toNat x_32,IntKind.i64.wrap (k_29 - 1)))) else (some (.inr data_28))) (data0,m0)) (fun y_27=>some (.inr y_27)))) else (some (.inl ()))) (iE (fun _=>eO (IntKind.u64.wrap (IntKind.i64.wrap (a0 + b0))) fun x_35=>eO (IntKind.i64.wrap ((IntKind.i64.wrap (x_35 / 2)) + m0)) fun x_36=>Option.bind (if (decide ((IntKind.i64.wrap (x_35 / 2)) < m0)) = true then (some (IntKind.i64.wrap (x_36 - b0),IntKind.i64.wrap (x_35 / 2))) else (some (a0,m0))) (cm fun start_37 r_38=>Option.bind (iter F (cm fun start_40 r_41=>if (decide (start_40 < r_41)) = true then (eO (IntKind.u64.wrap (IntKind.i64.wrap (start_40 + r_41))) fun x_43=>(aE data0 (IntKind.i64.wrap ((IntKind.i64.wrap (x_36 - 1)) - (IntKind.i64.wrap (x_43 / 2))))).bind fun x_44=>(aE data0 (IntKind.i64.wrap (x_43 / 2))).bind fun x_45=>(c8 F x_44 x_45 cmp0).bind fun x_46=>if (!(decide (x_46 < 0))) = true then (eO (IntKind.i64.wrap ((IntKind.i64.wrap (x_43 / 2)) + 1)) fun x_47=>some (.inl (x_47,r_41))) else (some (.inl (start_40,IntKind.i64.wrap (x_43 / 2))))) else (some (.inr start_40))) (start_37,r_38)) (fun start_39=>Option.bind (eO ((decide (start_39 < m0)) && (decide (m0 < (IntKind.i64.wrap (x_36 - start_39))))) fun x_49=>if x_49 = true then ((dV F start_39 m0 (IntKind.i64.wrap (x_36 - start_39)) cmp0 data0).bind fun x_50=>some x_50) else (some data0)) (fun data_48=>Option.bind (eO ((decide (a0 < start_39)) && (decide (start_39 < (IntKind.i64.wrap (x_35 / 2))))) fun x_52=>if x_52 = true then ((bL F n a0 start_39 (IntKind.i64.wrap (x_35 / 2)) cmp0 data_48).bind fun x_53=>some x_53) else (some data_48)) (fun data_51=>eO (decide ((IntKind.i64.wrap (x_35 / 2)) < (IntKind.i64.wrap (x_36 - start_39)))) fun x_54=>if (x_54 && (decide ((IntKind.i64.wrap (x_36 - start_39)) < b0))) = true then ((bL F n (IntKind.i64.wrap (x_35 / 2)) (IntKind.i64.wrap (x_36 - start_39)) b0 cmp0 data_51).bind fun x_55=>some x_55) else (some data_51)))))) (fun y=>some y))) (fun y=>some y))
def dB (F:Nat) (a0:Int) (m0:Int) (b0:Int) (cmp0:List Int) (data0:List Int):Option (List Int):=bL F F a0 m0 b0 cmp0 data0
theorem gy {F:Nat}:∀ (n:Nat) {a0:Int} {m0:Int} {b0:Int} {cmp0:List Int} {data0:List Int} {r:(List Int)} (h:bL F n a0 m0 b0 cmp0 data0 = some r),ay Try.prog [] 58 [(1,.cJ 3 1 (data0.map eI))] [.row 1,.one (.i a0),.one (.i m0),.one (.i b0),.one (.bY 34 [CP.rp [.sl 1 (cmp0.map eI)]])] (Is [(1,.cJ 3 1 (r.map eI))] (.eJ [])):=by
 intro n
 induction n with
 | zero=>intro a0 m0 b0 cmp0 data0 r h; simp [bL] at h
 | succ n ih=>
 intro a0 m0 b0 cmp0 data0 r h
 unfold bL at h
 refine ay.intro 220 Try.func58 Try.ntmps58 rfl (by simp) fun E=>?_
 show ab _ E ⟨220,[1],[1],[]⟩ _ ⟨[(0,.b (.row 1)),(1,I a0),(2,I m0),(3,I b0),(4,.b (.one (.bY 34 [CP.rp [.sl 1 (cmp0.map eI)]])))],[(1,.cJ 3 1 (data0.map eI))]⟩ _
 refine ab.lz 1 rfl ?_
 obtain ⟨v1,h2,h⟩:=aL h
 refine ab.cM (v:=v1) (fun (_:Unit)=>⟨[(0,.b (.row 1)),(1,I a0),(2,I m0),(3,I b0),(4,.b (.one (.bY 34 [CP.rp [.sl 1 (cmp0.map eI)]])))],[(1,.row 3 1 (data0.map eI))]⟩) (fun z=>.inl z) ?_ ?_
 ·refine ab.seq (ab.aa ?_)
  refine Oc om (Oc om (Oc (cR rfl rfl) (Oc (dP rfl rfl) ?_)))
  refine ae.ag ⟨[(0,.b (.row 1)),(1,I a0),(2,I m0),(3,I b0),(4,.b (.one (.bY 34 [CP.rp [.sl 1 (cmp0.map eI)]]))),(28,B (decide ((IntKind.i64.wrap (m0 - a0)) = 1)))],[(1,.row 3 1 (data0.map eI))]⟩ rfl (ab.ite h2 rfl (fun _ h2=>?_) (fun _ h2=>?_))
  ·refine ab.seq (ab.aa ?_)
   refine Oc om (Oc oa ?_)
   refine ae.ag ⟨[(0,_),(1,_),(3,_),(4,_),(10,I m0)],[(1,_)]⟩ rfl (ab.seq (ab.aa ?_))
   refine Oc om (Oc oa ?_)
   refine ae.ag ⟨[(0,_),(1,_),(4,_),(10,_),(11,I b0)],[(1,_)]⟩ rfl ?_
   obtain ⟨v3,h4,h2⟩:=aL h2
   refine ab.cM (v:=v3) (fun (i_1:Int)=>⟨[(0,.b (.row 1)),(1,I a0),(10,I i_1)],[(1,.row 3 1 (data0.map eI))]⟩) (fun z=>z) ?_ ?_
   ·refine ab.block (ab.cE h4 (cm fun (i_2:Int) (j_3:Int)=>⟨[(0,.b (.row 1)),(1,I a0),(4,.b (.one (.bY 34 [CP.rp [.sl 1 (cmp0.map eI)]]))),(10,I i_2),(11,I j_3)],[(1,.row 3 1 (data0.map eI))]⟩) [0,1,4,10,11] [1] rfl ?_)
    rintro ⟨i_2,j_3⟩ o5 h6 hy7
    refine ab.seq (ab.seq (ab.aa ?_))
    refine Oc om (Oc om (Oc (bt rfl rfl) ?_))
    refine ae.ag ⟨[(0,_),(1,_),(4,_),(10,_),(11,_),(33,B (decide (i_2 < j_3)))],[(1,_)]⟩ rfl (ab.ite h6 rfl (fun _ h6=>?_) (fun _ h6=>?_))
    ·refine ab.skip (Fin.af ⟨[(0,_),(1,_),(4,_),(10,_),(11,_)],[(1,_)]⟩ rfl (Fin.then (ab.block (ab.seq (ab.aa ?_)))))
     refine Oc om (Oc om (Oc (aU rfl rfl) ?_))
     refine ae.iS .u64 h6 rfl (bW jH gT rfl) (fun x_5 h6=>?_)
     refine Oc (jl (m:=1) (by decide) rfl rfl rfl) (Oc (bW gT jH rfl) (Oc oa ?_))
     refine ae.ag ⟨[(0,_),(1,_),(4,_),(10,_),(11,_),(12,I (IntKind.i64.wrap (x_5 / 2)))],[(1,_)]⟩ rfl (ab.seq ?_)
     obtain ⟨x_6,e8,h6⟩:=aL h6
     obtain ⟨x_7,e9,h6⟩:=aL h6
     obtain ⟨x_8,e10,h6⟩:=aL h6
     refine ab.eC mixed 11 [.b (.one (.bY 34 [CP.rp [.sl 1 (cmp0.map eI)]])),.b (.row 1),I (IntKind.i64.wrap (x_5 / 2)),.b (.bw 1 ((IntKind.i64.wrap (x_5 / 2):Int).toNat * 1)),I x_6,.b (.row 1),I a0,.b (.bw 1 ((a0:Int).toNat * 1)),I x_7,I x_8,B (decide (x_8 < 0))] [0,1,4,10,11,12,50] [1] (s':=⟨[(0,_),(1,_),(4,_),(10,_),(11,_),(12,_),(50,B (decide (x_8 < 0)))],[(1,_)]⟩) rfl ⟨fun _=>.p om,fun _=>.p om,fun _=>.p om,fun _=>.p (ar aq (aH e8) (aW e8) rfl rfl rfl rfl),fun _=>.p (aO (i:=(IntKind.i64.wrap (x_5 / 2):Int).toNat) (f:=0) az rfl rfl rfl (aJ (e:=eI) e8) rfl),fun _=>.p om,fun _=>.p om,fun _=>.p (ar aq (aH e9) (aW e9) rfl rfl rfl rfl),fun _=>.p (aO (i:=(a0:Int).toNat) (f:=0) az rfl rfl rfl (aJ (e:=eI) e9) rfl),fun _=>.p (gY (pss:=[[.sl 1 (cmp0.map eI)]]) (dG e10) pb rfl rfl rfl trivial rfl rfl),fun _=>.p (bt rfl rfl),trivial⟩ rfl rfl (ab.ite h6 rfl (fun _ h6=>?_) (fun _ h6=>?_))
     ·refine ab.aa (Oc om (ae.iS .i64 h6 rfl (aU rfl rfl) (fun x_9 h6=>?_)))
      refine Oc oa (ae.nil (Fin.ah ?_))
      exact Fin.bG [0,1,4,10,11] [1] (x_9,j_3) (Option.some.inj h6) rfl
     ·refine ab.aa (Oc om (Oc oa ?_))
      refine ae.nil (Fin.ah ?_)
      exact Fin.bG [0,1,4,10,11] [1] (i_2,IntKind.i64.wrap (x_5 / 2)) (Option.some.inj h6) rfl
    ·refine ab.exit (Fin.ai ?_)
     obtain rfl:=hy7 _ (Option.some.inj h6).symm
     refine Fin.ai (Fin.aB ?_)
     exact Fin.join [0,1,10] [1] i_2 rfl rfl
   ·rintro i_1 hv
    subst v3
    obtain ⟨v11,h12,h2⟩:=aL h2
    refine ab.cM (v:=v11) (fun (y_10:List Int)=>⟨[],[(1,.row 3 1 (y_10.map eI))]⟩) (fun z=>z) ?_ ?_
    ·refine ab.seq (ab.aa ?_)
     refine Oc om (Oc oa ?_)
     refine ae.ag ⟨[(0,_),(10,_),(13,I a0)],[(1,_)]⟩ rfl (ab.block (ab.cE h12 (cm fun (data_11:List Int) (k_12:Int)=>⟨[(0,.b (.row 1)),(10,I i_1),(13,I k_12)],[(1,.row 3 1 (data_11.map eI))]⟩) [0,10,13] [1] rfl ?_))
     rintro ⟨data_11,k_12⟩ o13 h14 hy15
     refine ab.seq (ab.seq (ab.aa ?_))
     refine Oc om (Oc om (Oc (cR rfl rfl) (Oc (bt rfl rfl) ?_)))
     refine ae.ag ⟨[(0,_),(10,_),(13,_),(58,B (decide (k_12 < (IntKind.i64.wrap (i_1 - 1)))))],[(1,_)]⟩ rfl (ab.ite h14 rfl (fun _ h14=>?_) (fun _ h14=>?_))
     ·refine ab.skip (Fin.af ⟨[(0,_),(10,_),(13,_)],[(1,_)]⟩ rfl (Fin.then (ab.seq (ab.block ?_))))
      refine ab.af ⟨[(0,_),(10,_),(13,_)],[(1,_)]⟩ rfl ?_
      obtain ⟨x_14,e16,h14⟩:=aL h14
      obtain ⟨x_15,e17,h14⟩:=aL h14
      obtain ⟨x_16,e18,h14⟩:=aL h14
      obtain ⟨x_17,e19,h14⟩:=aL h14
      refine ab.gp mixed [false,false,false,false,false,false,false,false,false,false,false,false,false,false,false,true,false,true] [.b (.row 1),I k_12,.b (.row 1),I k_12,I (IntKind.i64.wrap (k_12 + 1)),.b (.row 1),I k_12,I (IntKind.i64.wrap (k_12 + 1)),.b (.bw 1 ((IntKind.i64.wrap (k_12 + 1):Int).toNat * 1)),I x_14,.b (.row 1),I k_12,.b (.bw 1 ((k_12:Int).toNat * 1)),I x_15,.b (.bw 1 ((k_12:Int).toNat * 1)),B true,.b (.bw 1 ((IntKind.i64.wrap (k_12 + 1):Int).toNat * 1)),B true] [⟨[false,false,false,false,false,false,false,false,false,false,false,false,false,false,false,false,false,false],[(0,.b (.row 1)),(10,I i_1),(13,I k_12)],[(1,.row 3 1 (data_11.map eI))],[true,true,true,true,true,true,true,true,true,true,true,true,true,true,true,true,true,true],[],[16,17]⟩,⟨[false,false,false,false,false,false,false,false,false,false,false,false,false,false,false,true,false,false],[(0,.b (.row 1)),(10,I i_1),(13,I k_12)],[(1,.row 3 1 ((data_11.set (k_12:Int).toNat x_14).map eI))],[true,true,true,true,true,true,true,true,true,true,true,true,true,true,true,true,true,true],[0,1,5,6,7,8,9,10,11,12,13,14,15],[]⟩,⟨[false,false,false,false,false,false,false,false,false,false,false,false,false,false,false,true,false,true],[(0,.b (.row 1)),(10,I i_1),(13,I k_12)],[(1,.row 3 1 (((data_11.set (k_12:Int).toNat x_14).set (IntKind.i64.wrap (k_12 + 1):Int).toNat x_15).map eI))],[true,true,true,true,true,true,true,true,true,true,true,true,true,true,true,true,true,true],[0,1,2,3,4,5,6,7,8,9,10,11,12,13,14,15,16,17],[]⟩] rfl (⟨by kernel_rfl,⟨⟨.b (.row 1),fun _=>rfl,fun _=>.p (by exact an rfl)⟩,⟨I k_12,fun _=>rfl,fun _=>.p (by exact an rfl)⟩,⟨.b (.row 1),fun _=>rfl,fun _=>.p (by exact an rfl)⟩,⟨I k_12,fun _=>rfl,fun _=>.p (by exact an rfl)⟩,⟨I (IntKind.i64.wrap (k_12 + 1)),fun _=>rfl,fun _=>.p (by exact aU rfl rfl)⟩,⟨.b (.row 1),fun _=>rfl,fun _=>.p (by exact an rfl)⟩,⟨I k_12,fun _=>rfl,fun _=>.p (by exact an rfl)⟩,⟨I (IntKind.i64.wrap (k_12 + 1)),fun _=>rfl,fun _=>.p (by exact aU rfl rfl)⟩,⟨.b (.bw 1 ((IntKind.i64.wrap (k_12 + 1):Int).toNat * 1)),fun _=>rfl,fun _=>.p (by exact ar aq (aH e16) (aW e16) rfl rfl rfl rfl)⟩,⟨I x_14,fun _=>rfl,fun _=>.p (by exact aO (i:=(IntKind.i64.wrap (k_12 + 1):Int).toNat) (f:=0) az rfl rfl rfl (aJ (e:=eI) e16) rfl)⟩,⟨.b (.row 1),fun _=>rfl,fun _=>.p (by exact an rfl)⟩,⟨I k_12,fun _=>rfl,fun _=>.p (by exact an rfl)⟩,⟨.b (.bw 1 ((k_12:Int).toNat * 1)),fun _=>rfl,fun _=>.p (by exact ar aq (aH e17) (aW e17) rfl rfl rfl rfl)⟩,⟨I x_15,fun _=>rfl,fun _=>.p (by exact aO (i:=(k_12:Int).toNat) (f:=0) az rfl rfl rfl (aJ (e:=eI) e17) rfl)⟩,⟨.b (.bw 1 ((k_12:Int).toNat * 1)),fun _=>rfl,fun _=>.p (by exact ar aq (aH e18) (aW e18) rfl rfl rfl rfl)⟩,⟨_,[],.b (.one .any),rfl,(fun e=>by simp at e),rfl,rfl,fun _=>.fO [1] (by exact .p (by exact bM (i:=(k_12:Int).toNat) az rfl rfl rfl rfl (fl e18) (map_set _ _ _ _))) (by exact rfl)⟩,trivial,trivial,trivial⟩,⟨by kernel_rfl,⟨trivial,trivial,⟨.b (.row 1),fun _=>rfl,fun _=>.p (by exact an rfl)⟩,⟨I k_12,fun _=>rfl,fun _=>.p (by exact an rfl)⟩,⟨I (IntKind.i64.wrap (k_12 + 1)),fun _=>rfl,fun _=>.p (by exact aU rfl rfl)⟩,trivial,trivial,trivial,trivial,trivial,trivial,trivial,trivial,trivial,trivial,trivial,⟨.b (.bw 1 ((IntKind.i64.wrap (k_12 + 1):Int).toNat * 1)),fun _=>rfl,fun _=>.p (by exact ar aq (aH e19) (aW e19) rfl rfl rfl rfl)⟩,⟨_,[],.b (.one .any),rfl,(fun e=>by simp at e),rfl,rfl,fun _=>.fO [1] (by exact .p (by exact bM (i:=(IntKind.i64.wrap (k_12 + 1):Int).toNat) az rfl rfl rfl rfl (fl e19) (map_set _ _ _ _))) (by exact rfl)⟩,trivial⟩,⟨by kernel_rfl,⟨trivial,trivial,trivial,trivial,trivial,trivial,trivial,trivial,trivial,trivial,trivial,trivial,trivial,trivial,trivial,trivial,trivial,trivial,trivial⟩,trivial⟩⟩⟩) rfl rfl rfl [0,10,13] [1] (s':=⟨[(0,_),(10,_),(13,_)],[(1,.row 3 1 (((data_11.set (k_12:Int).toNat x_14).set (IntKind.i64.wrap (k_12 + 1):Int).toNat x_15).map eI))]⟩) rfl ?_
      refine Fin.ah (Fin.af ⟨[(0,_),(10,_),(13,_)],[(1,_)]⟩ rfl (Fin.then (ab.aa ?_)))
      refine Oc om (Oc (aU rfl rfl) (Oc oa ?_))
      refine ae.nil ?_
      exact Fin.bG [0,10,13] [1] ((data_11.set (k_12:Int).toNat x_14).set (IntKind.i64.wrap (k_12 + 1):Int).toNat x_15,IntKind.i64.wrap (k_12 + 1)) (Option.some.inj h14) rfl
     ·refine ab.exit (Fin.ai ?_)
      obtain rfl:=hy15 _ (Option.some.inj h14).symm
      refine Fin.ai (Fin.aB ?_)
      exact Fin.join [] [1] data_11 rfl rfl
    ·rintro y_10 hv
     subst v11
     refine ab.ret ?_
     obtain rfl:=Option.some.inj h2
     refine Fin.aN ?_
     obtain rfl:=Option.some.inj h
     refine Fin.af ⟨[],[(1,_)]⟩ rfl (Fin.kM 1 rfl (Fin.af ⟨[],[(1,.cJ 3 1 (y_10.map eI))]⟩ rfl ?_))
     exact Fin.result [] (.inl rfl) rfl (.nil) ⟨rfl,rfl⟩
  ·refine ab.skip ?_
   exact Fin.join [0,1,2,3,4] [1] () (Option.some.inj h2) rfl
 ·rintro _ hv
  subst v1
  obtain ⟨v20,h21,h⟩:=aL h
  refine ab.cM (v:=v20) (fun (_:Unit)=>⟨[(0,.b (.row 1)),(1,I a0),(2,I m0),(3,I b0),(4,.b (.one (.bY 34 [CP.rp [.sl 1 (cmp0.map eI)]])))],[(1,.row 3 1 (data0.map eI))]⟩) (fun z=>.inl z) ?_ ?_
  ·refine ab.seq (ab.aa ?_)
   refine Oc om (Oc om (Oc (cR rfl rfl) (Oc (dP rfl rfl) ?_)))
   refine ae.ag ⟨[(0,_),(1,_),(2,_),(3,_),(4,_),(80,B (decide ((IntKind.i64.wrap (b0 - m0)) = 1)))],[(1,_)]⟩ rfl (ab.ite h21 rfl (fun _ h21=>?_) (fun _ h21=>?_))
   ·refine ab.seq (ab.aa ?_)
    refine Oc om (Oc oa ?_)
    refine ae.ag ⟨[(0,_),(2,_),(4,_),(14,I a0)],[(1,_)]⟩ rfl (ab.seq (ab.aa ?_))
    refine Oc om (Oc oa ?_)
    refine ae.ag ⟨[(0,_),(2,_),(4,_),(14,_),(15,I m0)],[(1,_)]⟩ rfl ?_
    obtain ⟨v22,h23,h21⟩:=aL h21
    refine ab.cM (v:=v22) (fun (i_18:Int)=>⟨[(0,.b (.row 1)),(2,I m0),(14,I i_18)],[(1,.row 3 1 (data0.map eI))]⟩) (fun z=>z) ?_ ?_
    ·refine ab.block (ab.cE h23 (cm fun (i_19:Int) (j_20:Int)=>⟨[(0,.b (.row 1)),(2,I m0),(4,.b (.one (.bY 34 [CP.rp [.sl 1 (cmp0.map eI)]]))),(14,I i_19),(15,I j_20)],[(1,.row 3 1 (data0.map eI))]⟩) [0,2,4,14,15] [1] rfl ?_)
     rintro ⟨i_19,j_20⟩ o24 h25 hy26
     refine ab.seq (ab.seq (ab.aa ?_))
     refine Oc om (Oc om (Oc (bt rfl rfl) ?_))
     refine ae.ag ⟨[(0,_),(2,_),(4,_),(14,_),(15,_),(85,B (decide (i_19 < j_20)))],[(1,_)]⟩ rfl (ab.ite h25 rfl (fun _ h25=>?_) (fun _ h25=>?_))
     ·refine ab.skip (Fin.af ⟨[(0,_),(2,_),(4,_),(14,_),(15,_)],[(1,_)]⟩ rfl (Fin.then (ab.block (ab.seq (ab.aa ?_)))))
      refine Oc om (Oc om (Oc (aU rfl rfl) ?_))
      refine ae.iS .u64 h25 rfl (bW jH gT rfl) (fun x_22 h25=>?_)
      refine Oc (jl (m:=1) (by decide) rfl rfl rfl) (Oc (bW gT jH rfl) (Oc oa ?_))
      refine ae.ag ⟨[(0,_),(2,_),(4,_),(14,_),(15,_),(16,I (IntKind.i64.wrap (x_22 / 2)))],[(1,_)]⟩ rfl (ab.seq ?_)
      obtain ⟨x_23,e27,h25⟩:=aL h25
      obtain ⟨x_24,e28,h25⟩:=aL h25
      obtain ⟨x_25,e29,h25⟩:=aL h25
      refine ab.eC mixed 12 [.b (.one (.bY 34 [CP.rp [.sl 1 (cmp0.map eI)]])),.b (.row 1),I m0,.b (.bw 1 ((m0:Int).toNat * 1)),I x_23,.b (.row 1),I (IntKind.i64.wrap (x_22 / 2)),.b (.bw 1 ((IntKind.i64.wrap (x_22 / 2):Int).toNat * 1)),I x_24,I x_25,B (decide (x_25 < 0)),B (!(decide (x_25 < 0)))] [0,2,4,14,15,16,103] [1] (s':=⟨[(0,_),(2,_),(4,_),(14,_),(15,_),(16,_),(103,B (!(decide (x_25 < 0))))],[(1,_)]⟩) rfl ⟨fun _=>.p om,fun _=>.p om,fun _=>.p om,fun _=>.p (ar aq (aH e27) (aW e27) rfl rfl rfl rfl),fun _=>.p (aO (i:=(m0:Int).toNat) (f:=0) az rfl rfl rfl (aJ (e:=eI) e27) rfl),fun _=>.p om,fun _=>.p om,fun _=>.p (ar aq (aH e28) (aW e28) rfl rfl rfl rfl),fun _=>.p (aO (i:=(IntKind.i64.wrap (x_22 / 2):Int).toNat) (f:=0) az rfl rfl rfl (aJ (e:=eI) e28) rfl),fun _=>.p (gY (pss:=[[.sl 1 (cmp0.map eI)]]) (dG e29) pb rfl rfl rfl trivial rfl rfl),fun _=>.p (bt rfl rfl),fun _=>.p (dO rfl),trivial⟩ rfl rfl (ab.ite h25 rfl (fun _ h25=>?_) (fun _ h25=>?_))
      ·refine ab.aa (Oc om (ae.iS .i64 h25 rfl (aU rfl rfl) (fun x_26 h25=>?_)))
       refine Oc oa (ae.nil (Fin.ah ?_))
       exact Fin.bG [0,2,4,14,15] [1] (x_26,j_20) (Option.some.inj h25) rfl
      ·refine ab.aa (Oc om (Oc oa ?_))
       refine ae.nil (Fin.ah ?_)
       exact Fin.bG [0,2,4,14,15] [1] (i_19,IntKind.i64.wrap (x_22 / 2)) (Option.some.inj h25) rfl
     ·refine ab.exit (Fin.ai ?_)
      obtain rfl:=hy26 _ (Option.some.inj h25).symm
      refine Fin.ai (Fin.aB ?_)
      exact Fin.join [0,2,14] [1] i_19 rfl rfl
    ·rintro i_18 hv
     subst v22
     obtain ⟨v30,h31,h21⟩:=aL h21
     refine ab.cM (v:=v30) (fun (y_27:List Int)=>⟨[],[(1,.row 3 1 (y_27.map eI))]⟩) (fun z=>z) ?_ ?_
     ·refine ab.seq (ab.aa ?_)
      refine Oc om (Oc oa ?_)
      refine ae.ag ⟨[(0,_),(14,_),(17,I m0)],[(1,_)]⟩ rfl (ab.block (ab.cE h31 (cm fun (data_28:List Int) (k_29:Int)=>⟨[(0,.b (.row 1)),(14,I i_18),(17,I k_29)],[(1,.row 3 1 (data_28.map eI))]⟩) [0,14,17] [1] rfl ?_))
      rintro ⟨data_28,k_29⟩ o32 h33 hy34
      refine ab.seq (ab.seq (ab.aa ?_))
      refine Oc om (Oc om (Oc (iH rfl rfl) ?_))
      refine ae.ag ⟨[(0,_),(14,_),(17,_),(110,B (decide (i_18 < k_29)))],[(1,_)]⟩ rfl (ab.ite h33 rfl (fun _ h33=>?_) (fun _ h33=>?_))
      ·refine ab.skip (Fin.af ⟨[(0,_),(14,_),(17,_)],[(1,_)]⟩ rfl (Fin.then (ab.seq (ab.block ?_))))
       refine ab.af ⟨[(0,_),(14,_),(17,_)],[(1,_)]⟩ rfl ?_
       obtain ⟨x_31,e35,h33⟩:=aL h33
       obtain ⟨x_32,e36,h33⟩:=aL h33
       obtain ⟨x_33,e37,h33⟩:=aL h33
       obtain ⟨x_34,e38,h33⟩:=aL h33
       refine ab.gp mixed [false,false,false,false,false,false,false,false,false,false,false,false,false,false,false,true,false,true] [.b (.row 1),I k_29,.b (.row 1),I k_29,I (IntKind.i64.wrap (k_29 - 1)),.b (.row 1),I k_29,I (IntKind.i64.wrap (k_29 - 1)),.b (.bw 1 ((IntKind.i64.wrap (k_29 - 1):Int).toNat * 1)),I x_31,.b (.row 1),I k_29,.b (.bw 1 ((k_29:Int).toNat * 1)),I x_32,.b (.bw 1 ((k_29:Int).toNat * 1)),B true,.b (.bw 1 ((IntKind.i64.wrap (k_29 - 1):Int).toNat * 1)),B true] [⟨[false,false,false,false,false,false,false,false,false,false,false,false,false,false,false,false,false,false],[(0,.b (.row 1)),(14,I i_18),(17,I k_29)],[(1,.row 3 1 (data_28.map eI))],[true,true,true,true,true,true,true,true,true,true,true,true,true,true,true,true,true,true],[],[16,17]⟩,⟨[false,false,false,false,false,false,false,false,false,false,false,false,false,false,false,true,false,false],[(0,.b (.row 1)),(14,I i_18),(17,I k_29)],[(1,.row 3 1 ((data_28.set (k_29:Int).toNat x_31).map eI))],[true,true,true,true,true,true,true,true,true,true,true,true,true,true,true,true,true,true],[0,1,5,6,7,8,9,10,11,12,13,14,15],[]⟩,⟨[false,false,false,false,false,false,false,false,false,false,false,false,false,false,false,true,false,true],[(0,.b (.row 1)),(14,I i_18),(17,I k_29)],[(1,.row 3 1 (((data_28.set (k_29:Int).toNat x_31).set (IntKind.i64.wrap (k_29 - 1):Int).toNat x_32).map eI))],[true,true,true,true,true,true,true,true,true,true,true,true,true,true,true,true,true,true],[0,1,2,3,4,5,6,7,8,9,10,11,12,13,14,15,16,17],[]⟩] rfl (⟨by kernel_rfl,⟨⟨.b (.row 1),fun _=>rfl,fun _=>.p (by exact an rfl)⟩,⟨I k_29,fun _=>rfl,fun _=>.p (by exact an rfl)⟩,⟨.b (.row 1),fun _=>rfl,fun _=>.p (by exact an rfl)⟩,⟨I k_29,fun _=>rfl,fun _=>.p (by exact an rfl)⟩,⟨I (IntKind.i64.wrap (k_29 - 1)),fun _=>rfl,fun _=>.p (by exact cR rfl rfl)⟩,⟨.b (.row 1),fun _=>rfl,fun _=>.p (by exact an rfl)⟩,⟨I k_29,fun _=>rfl,fun _=>.p (by exact an rfl)⟩,⟨I (IntKind.i64.wrap (k_29 - 1)),fun _=>rfl,fun _=>.p (by exact cR rfl rfl)⟩,⟨.b (.bw 1 ((IntKind.i64.wrap (k_29 - 1):Int).toNat * 1)),fun _=>rfl,fun _=>.p (by exact ar aq (aH e35) (aW e35) rfl rfl rfl rfl)⟩,⟨I x_31,fun _=>rfl,fun _=>.p (by exact aO (i:=(IntKind.i64.wrap (k_29 - 1):Int).toNat) (f:=0) az rfl rfl rfl (aJ (e:=eI) e35) rfl)⟩,⟨.b (.row 1),fun _=>rfl,fun _=>.p (by exact an rfl)⟩,⟨I k_29,fun _=>rfl,fun _=>.p (by exact an rfl)⟩,⟨.b (.bw 1 ((k_29:Int).toNat * 1)),fun _=>rfl,fun _=>.p (by exact ar aq (aH e36) (aW e36) rfl rfl rfl rfl)⟩,⟨I x_32,fun _=>rfl,fun _=>.p (by exact aO (i:=(k_29:Int).toNat) (f:=0) az rfl rfl rfl (aJ (e:=eI) e36) rfl)⟩,⟨.b (.bw 1 ((k_29:Int).toNat * 1)),fun _=>rfl,fun _=>.p (by exact ar aq (aH e37) (aW e37) rfl rfl rfl rfl)⟩,⟨_,[],.b (.one .any),rfl,(fun e=>by simp at e),rfl,rfl,fun _=>.fO [1] (by exact .p (by exact bM (i:=(k_29:Int).toNat) az rfl rfl rfl rfl (fl e37) (map_set _ _ _ _))) (by exact rfl)⟩,trivial,trivial,trivial⟩,⟨by kernel_rfl,⟨trivial,trivial,⟨.b (.row 1),fun _=>rfl,fun _=>.p (by exact an rfl)⟩,⟨I k_29,fun _=>rfl,fun _=>.p (by exact an rfl)⟩,⟨I (IntKind.i64.wrap (k_29 - 1)),fun _=>rfl,fun _=>.p (by exact cR rfl rfl)⟩,trivial,trivial,trivial,trivial,trivial,trivial,trivial,trivial,trivial,trivial,trivial,⟨.b (.bw 1 ((IntKind.i64.wrap (k_29 - 1):Int).toNat * 1)),fun _=>rfl,fun _=>.p (by exact ar aq (aH e38) (aW e38) rfl rfl rfl rfl)⟩,⟨_,[],.b (.one .any),rfl,(fun e=>by simp at e),rfl,rfl,fun _=>.fO [1] (by exact .p (by exact bM (i:=(IntKind.i64.wrap (k_29 - 1):Int).toNat) az rfl rfl rfl rfl (fl e38) (map_set _ _ _ _))) (by exact rfl)⟩,trivial⟩,⟨by kernel_rfl,⟨trivial,trivial,trivial,trivial,trivial,trivial,trivial,trivial,trivial,trivial,trivial,trivial,trivial,trivial,trivial,trivial,trivial,trivial,trivial⟩,trivial⟩⟩⟩) rfl rfl rfl [0,14,17] [1] (s':=⟨[(0,_),(14,_),(17,_)],[(1,.row 3 1 (((data_28.set (k_29:Int).toNat x_31).set (IntKind.i64.wrap (k_29 - 1):Int).toNat x_32).map eI))]⟩) rfl ?_
       refine Fin.ah (Fin.af ⟨[(0,_),(14,_),(17,_)],[(1,_)]⟩ rfl (Fin.then (ab.aa ?_)))
       refine Oc om (Oc (cR rfl rfl) (Oc oa ?_))
       refine ae.nil ?_
       exact Fin.bG [0,14,17] [1] ((data_28.set (k_29:Int).toNat x_31).set (IntKind.i64.wrap (k_29 - 1):Int).toNat x_32,IntKind.i64.wrap (k_29 - 1)) (Option.some.inj h33) rfl
      ·refine ab.exit (Fin.ai ?_)
       obtain rfl:=hy34 _ (Option.some.inj h33).symm
       refine Fin.ai (Fin.aB ?_)
       exact Fin.join [] [1] data_28 rfl rfl
     ·rintro y_27 hv
      subst v30
      refine ab.ret ?_
      obtain rfl:=Option.some.inj h21
      refine Fin.aN ?_
      obtain rfl:=Option.some.inj h
      refine Fin.af ⟨[],[(1,_)]⟩ rfl (Fin.kM 1 rfl (Fin.af ⟨[],[(1,.cJ 3 1 (y_27.map eI))]⟩ rfl ?_))
      exact Fin.result [] (.inl rfl) rfl (.nil) ⟨rfl,rfl⟩
   ·refine ab.skip ?_
    exact Fin.join [0,1,2,3,4] [1] () (Option.some.inj h21) rfl
  ·rintro _ hv
   subst v20
   refine ab.seq (ab.aa ?_)
   refine Oc om (Oc om (Oc (aU rfl rfl) ?_))
   refine ae.iS .u64 h rfl (bW jH gT rfl) (fun x_35 h=>?_)
   refine Oc (jl (m:=1) (by decide) rfl rfl rfl) (Oc (bW gT jH rfl) (Oc oa ?_))
   refine ae.ag ⟨[(0,_),(1,_),(2,_),(3,_),(4,_),(18,I (IntKind.i64.wrap (x_35 / 2)))],[(1,_)]⟩ rfl (ab.seq (ab.aa ?_))
   refine Oc om (Oc om ?_)
   refine ae.iS .i64 h rfl (aU rfl rfl) (fun x_36 h=>?_)
   refine Oc oa (ae.ag ⟨[(0,_),(1,_),(2,_),(3,_),(4,_),(18,_),(19,I x_36)],[(1,_)]⟩ rfl (ab.seq (ab.aa ?_)))
   refine Oc oa (Oc oa ?_)
   refine ae.ag ⟨[(0,_),(1,_),(2,_),(3,_),(4,_),(18,_),(19,_)],[(1,_)]⟩ rfl ?_
   obtain ⟨v39,h40,h⟩:=aL h
   refine ab.cM (v:=v39) (cm fun (start_37:Int) (r_38:Int)=>⟨[(0,.b (.row 1)),(1,I a0),(2,I m0),(3,I b0),(4,.b (.one (.bY 34 [CP.rp [.sl 1 (cmp0.map eI)]]))),(18,I (IntKind.i64.wrap (x_35 / 2))),(19,I x_36),(20,I start_37),(21,I r_38)],[(1,.row 3 1 (data0.map eI))]⟩) (fun z=>z) ?_ ?_
   ·refine ab.seq (ab.aa ?_)
    refine Oc om (Oc om (Oc (iH rfl rfl) ?_))
    refine ae.ag ⟨[(0,_),(1,_),(2,_),(3,_),(4,_),(18,_),(19,_),(140,B (decide ((IntKind.i64.wrap (x_35 / 2)) < m0)))],[(1,_)]⟩ rfl (ab.ite h40 rfl (fun _ h40=>?_) (fun _ h40=>?_))
    ·refine ab.seq (ab.aa ?_)
     refine Oc om (Oc om (Oc (cR rfl rfl) (Oc oa ?_)))
     refine ae.ag ⟨[(0,_),(1,_),(2,_),(3,_),(4,_),(18,_),(19,_),(20,I (IntKind.i64.wrap (x_36 - b0)))],[(1,_)]⟩ rfl (ab.aa (Oc om (Oc oa ?_)))
     refine ae.nil ?_
     exact Fin.join [0,1,2,3,4,18,19,20,21] [1] (IntKind.i64.wrap (x_36 - b0),IntKind.i64.wrap (x_35 / 2)) (Option.some.inj h40) rfl
    ·refine ab.seq (ab.aa ?_)
     refine Oc om (Oc oa ?_)
     refine ae.ag ⟨[(0,_),(1,_),(2,_),(3,_),(4,_),(18,_),(19,_),(20,I a0)],[(1,_)]⟩ rfl (ab.aa (Oc om (Oc oa ?_)))
     refine ae.nil ?_
     exact Fin.join [0,1,2,3,4,18,19,20,21] [1] (a0,m0) (Option.some.inj h40) rfl
   ·rintro ⟨start_37,r_38⟩ hv
    subst v39
    refine ab.seq (ab.aa ?_)
    refine Oc om (Oc (cR rfl rfl) (Oc oa ?_))
    refine ae.ag ⟨[(0,_),(1,_),(2,_),(3,_),(4,_),(18,_),(19,_),(20,_),(21,_),(22,I (IntKind.i64.wrap (x_36 - 1)))],[(1,_)]⟩ rfl ?_
    obtain ⟨v41,h42,h⟩:=aL h
    refine ab.cM (v:=v41) (fun (start_39:Int)=>⟨[(0,.b (.row 1)),(1,I a0),(2,I m0),(3,I b0),(4,.b (.one (.bY 34 [CP.rp [.sl 1 (cmp0.map eI)]]))),(18,I (IntKind.i64.wrap (x_35 / 2))),(19,I x_36),(20,I start_39)],[(1,.row 3 1 (data0.map eI))]⟩) (fun z=>z) ?_ ?_
    ·refine ab.block (ab.cE h42 (cm fun (start_40:Int) (r_41:Int)=>⟨[(0,.b (.row 1)),(1,I a0),(2,I m0),(3,I b0),(4,.b (.one (.bY 34 [CP.rp [.sl 1 (cmp0.map eI)]]))),(18,I (IntKind.i64.wrap (x_35 / 2))),(19,I x_36),(20,I start_40),(21,I r_41),(22,I (IntKind.i64.wrap (x_36 - 1)))],[(1,.row 3 1 (data0.map eI))]⟩) [0,1,2,3,4,18,19,20,21,22] [1] rfl ?_)
     rintro ⟨start_40,r_41⟩ o43 h44 hy45
     refine ab.seq (ab.seq (ab.aa ?_))
     refine Oc om (Oc om (Oc (bt rfl rfl) ?_))
     refine ae.ag ⟨[(0,_),(1,_),(2,_),(3,_),(4,_),(18,_),(19,_),(20,_),(21,_),(22,_),(151,B (decide (start_40 < r_41)))],[(1,_)]⟩ rfl (ab.ite h44 rfl (fun _ h44=>?_) (fun _ h44=>?_))
     ·refine ab.skip (Fin.af ⟨[(0,_),(1,_),(2,_),(3,_),(4,_),(18,_),(19,_),(20,_),(21,_),(22,_)],[(1,_)]⟩ rfl (Fin.then (ab.block (ab.seq (ab.aa ?_)))))
      refine Oc om (Oc om (Oc (aU rfl rfl) ?_))
      refine ae.iS .u64 h44 rfl (bW jH gT rfl) (fun x_43 h44=>?_)
      refine Oc (jl (m:=1) (by decide) rfl rfl rfl) (Oc (bW gT jH rfl) (Oc oa ?_))
      refine ae.ag ⟨[(0,_),(1,_),(2,_),(3,_),(4,_),(18,_),(19,_),(20,_),(21,_),(22,_),(23,I (IntKind.i64.wrap (x_43 / 2)))],[(1,_)]⟩ rfl (ab.seq ?_)
      obtain ⟨x_44,e46,h44⟩:=aL h44
      obtain ⟨x_45,e47,h44⟩:=aL h44
      obtain ⟨x_46,e48,h44⟩:=aL h44
      refine ab.eC mixed 14 [.b (.one (.bY 34 [CP.rp [.sl 1 (cmp0.map eI)]])),.b (.row 1),I (IntKind.i64.wrap (x_36 - 1)),I (IntKind.i64.wrap (x_43 / 2)),I (IntKind.i64.wrap ((IntKind.i64.wrap (x_36 - 1)) - (IntKind.i64.wrap (x_43 / 2)))),.b (.bw 1 ((IntKind.i64.wrap ((IntKind.i64.wrap (x_36 - 1)) - (IntKind.i64.wrap (x_43 / 2))):Int).toNat * 1)),I x_44,.b (.row 1),I (IntKind.i64.wrap (x_43 / 2)),.b (.bw 1 ((IntKind.i64.wrap (x_43 / 2):Int).toNat * 1)),I x_45,I x_46,B (decide (x_46 < 0)),B (!(decide (x_46 < 0)))] [0,1,2,3,4,18,19,20,21,22,23,171] [1] (s':=⟨[(0,_),(1,_),(2,_),(3,_),(4,_),(18,_),(19,_),(20,_),(21,_),(22,_),(23,_),(171,B (!(decide (x_46 < 0))))],[(1,_)]⟩) rfl ⟨fun _=>.p om,fun _=>.p om,fun _=>.p om,fun _=>.p om,fun _=>.p (cR rfl rfl),fun _=>.p (ar aq (aH e46) (aW e46) rfl rfl rfl rfl),fun _=>.p (aO (i:=(IntKind.i64.wrap ((IntKind.i64.wrap (x_36 - 1)) - (IntKind.i64.wrap (x_43 / 2))):Int).toNat) (f:=0) az rfl rfl rfl (aJ (e:=eI) e46) rfl),fun _=>.p om,fun _=>.p om,fun _=>.p (ar aq (aH e47) (aW e47) rfl rfl rfl rfl),fun _=>.p (aO (i:=(IntKind.i64.wrap (x_43 / 2):Int).toNat) (f:=0) az rfl rfl rfl (aJ (e:=eI) e47) rfl),fun _=>.p (gY (pss:=[[.sl 1 (cmp0.map eI)]]) (dG e48) pb rfl rfl rfl trivial rfl rfl),fun _=>.p (bt rfl rfl),fun _=>.p (dO rfl),trivial⟩ rfl rfl (ab.ite h44 rfl (fun _ h44=>?_) (fun _ h44=>?_))
      ·refine ab.aa (Oc om (ae.iS .i64 h44 rfl (aU rfl rfl) (fun x_47 h44=>?_)))
       refine Oc oa (ae.nil (Fin.ah ?_))
       exact Fin.bG [0,1,2,3,4,18,19,20,21,22] [1] (x_47,r_41) (Option.some.inj h44) rfl
      ·refine ab.aa (Oc om (Oc oa ?_))
       refine ae.nil (Fin.ah ?_)
       exact Fin.bG [0,1,2,3,4,18,19,20,21,22] [1] (start_40,IntKind.i64.wrap (x_43 / 2)) (Option.some.inj h44) rfl
     ·refine ab.exit (Fin.ai ?_)
      obtain rfl:=hy45 _ (Option.some.inj h44).symm
      refine Fin.ai (Fin.aB ?_)
      exact Fin.join [0,1,2,3,4,18,19,20] [1] start_40 rfl rfl
    ·rintro start_39 hv
     subst v41
     refine ab.seq (ab.aa ?_)
     refine Oc om (Oc om (Oc (cR rfl rfl) (Oc oa ?_)))
     refine ae.ag ⟨[(0,_),(1,_),(2,_),(3,_),(4,_),(18,_),(20,_),(24,I (IntKind.i64.wrap (x_36 - start_39)))],[(1,_)]⟩ rfl ?_
     obtain ⟨v49,h50,h⟩:=aL h
     refine ab.cM (v:=v49) (fun (data_48:List Int)=>⟨[(0,.b (.row 1)),(1,I a0),(3,I b0),(4,.b (.one (.bY 34 [CP.rp [.sl 1 (cmp0.map eI)]]))),(18,I (IntKind.i64.wrap (x_35 / 2))),(20,I start_39),(24,I (IntKind.i64.wrap (x_36 - start_39)))],[(1,.row 3 1 (data_48.map eI))]⟩) (fun z=>z) ?_ ?_
     ·refine ab.seq (ab.aa ?_)
      refine Oc om (Oc om (Oc (bt rfl rfl) (Oc om ?_)))
      refine eK (decide (start_39 < m0)) [] (fun g51=>trivial) (fun g51=>om) (eK (decide (start_39 < m0)) [] (fun g52=>by exact trivial) (fun g52=>om) (eK (decide (start_39 < m0)) [182,183] (fun g53=>by exact ⟨g53,g53,trivial⟩) (fun g53=>bt rfl rfl) (ae.kV h50 rfl (aY (fun e=>e) rfl rfl rfl rfl) (fun x_49 h50=>?_))))
      refine ae.ag ⟨[(0,_),(1,_),(2,_),(3,_),(4,_),(18,_),(20,_),(24,_),(185,B x_49)],[(1,_)]⟩ rfl (ab.ite h50 rfl (fun _ h50=>?_) (fun _ h50=>?_))
      ·refine ab.aa (Oc om (Oc om (Oc om (Oc om (Oc om ?_)))))
       refine ae.kM 1 rfl ?_
       obtain ⟨x_50,e54,h50⟩:=aL h50
       refine Oc (bo (own_a:=[(1,_)]) (ij e54) goes70 rfl ⟨rfl,trivial⟩ rfl rfl) (ae.lz 1 rfl (ae.nil ?_))
       exact Fin.join [0,1,3,4,18,20,24] [1] x_50 (Option.some.inj h50) rfl
      ·refine ab.skip ?_
       exact Fin.join [0,1,3,4,18,20,24] [1] data0 (Option.some.inj h50) rfl
     ·rintro data_48 hv
      subst v49
      obtain ⟨v55,h56,h⟩:=aL h
      refine ab.cM (v:=v55) (fun (data_51:List Int)=>⟨[(0,.b (.row 1)),(3,I b0),(4,.b (.one (.bY 34 [CP.rp [.sl 1 (cmp0.map eI)]]))),(18,I (IntKind.i64.wrap (x_35 / 2))),(24,I (IntKind.i64.wrap (x_36 - start_39)))],[(1,.row 3 1 (data_51.map eI))]⟩) (fun z=>z) ?_ ?_
      ·refine ab.seq (ab.aa ?_)
       refine Oc om (Oc om (Oc (bt rfl rfl) (Oc om ?_)))
       refine eK (decide (a0 < start_39)) [] (fun g57=>trivial) (fun g57=>om) (eK (decide (a0 < start_39)) [] (fun g58=>by exact trivial) (fun g58=>om) (eK (decide (a0 < start_39)) [196,197] (fun g59=>by exact ⟨g59,g59,trivial⟩) (fun g59=>bt rfl rfl) (ae.kV h56 rfl (aY (fun e=>e) rfl rfl rfl rfl) (fun x_52 h56=>?_))))
       refine ae.ag ⟨[(0,_),(1,_),(3,_),(4,_),(18,_),(20,_),(24,_),(199,B x_52)],[(1,_)]⟩ rfl (ab.ite h56 rfl (fun _ h56=>?_) (fun _ h56=>?_))
       ·refine ab.aa (Oc om (Oc om (Oc om (Oc om (Oc om ?_)))))
        refine ae.kM 1 rfl ?_
        obtain ⟨x_53,e60,h56⟩:=aL h56
        refine Oc (bo (own_a:=[(1,_)]) (ih e60) o6 rfl ⟨rfl,trivial⟩ rfl rfl) (ae.lz 1 rfl (ae.nil ?_))
        exact Fin.join [0,3,4,18,24] [1] x_53 (Option.some.inj h56) rfl
       ·refine ab.skip ?_
        exact Fin.join [0,3,4,18,24] [1] data_48 (Option.some.inj h56) rfl
      ·rintro data_51 hv
       subst v55
       refine ab.seq (ab.aa ?_)
       refine Oc om (Oc om ?_)
       refine ae.kV h rfl (bt rfl rfl) (fun x_54 h=>?_)
       refine Oc om (eK x_54 [] (fun g61=>by exact trivial) (fun g61=>om) (eK x_54 [] (fun g62=>by exact trivial) (fun g62=>om) (eK x_54 [210,211] (fun g63=>by exact ⟨g63,g63,trivial⟩) (fun g63=>bt rfl rfl) (Oc (aY (fun e=>e) rfl rfl rfl rfl) (ae.ag ⟨[(0,_),(3,_),(4,_),(18,_),(24,_),(213,B (x_54 && (decide ((IntKind.i64.wrap (x_36 - start_39)) < b0))))],[(1,_)]⟩ rfl ?_)))))
       refine ab.ite h rfl (fun _ h=>?_) (fun _ h=>?_)
       ·refine ab.aa (Oc om (Oc om (Oc om (Oc om (Oc om ?_)))))
        refine ae.kM 1 rfl ?_
        obtain ⟨x_55,e64,h⟩:=aL h
        refine Oc (bo (own_a:=[(1,_)]) (ih e64) o6 rfl ⟨rfl,trivial⟩ rfl rfl) (ae.lz 1 rfl (ae.nil ?_))
        obtain rfl:=Option.some.inj h
        refine Fin.af ⟨[],[(1,.row 3 1 (x_55.map eI))]⟩ rfl (Fin.kM 1 rfl (Fin.af ⟨[],[(1,.cJ 3 1 (x_55.map eI))]⟩ rfl ?_))
        exact Fin.result [] (.inr rfl) rfl (.nil) ⟨rfl,rfl⟩
       ·refine ab.skip ?_
        obtain rfl:=Option.some.inj h
        refine Fin.af ⟨[],[(1,_)]⟩ rfl (Fin.kM 1 rfl (Fin.af ⟨[],[(1,.cJ 3 1 (data_51.map eI))]⟩ rfl ?_))
        exact Fin.result [] (.inr rfl) rfl (.nil) ⟨rfl,rfl⟩
theorem ed {F:Nat} {a0:Int} {m0:Int} {b0:Int} {cmp0:List Int} {data0:List Int} {r:(List Int)} (h:dB F a0 m0 b0 cmp0 data0 = some r):ay Try.prog [] 58 [(1,.cJ 3 1 (data0.map eI))] [.row 1,.one (.i a0),.one (.i m0),.one (.i b0),.one (.bY 34 [CP.rp [.sl 1 (cmp0.map eI)]])] (Is [(1,.cJ 3 1 (r.map eI))] (.eJ [])):=gy F h
def dU (F:Nat) (n0:Int) (cmp0:List Int) (data0:List Int):Option (List Int) :=
 Option.bind (iter F (np fun data_3 a_4 b_5=>if (decide (b_5 ≤ n0)) = true then ((ca F a_4 b_5 cmp0 data_3).bind fun x_8=>some (.inl (x_8,b_5,IntKind.i64.wrap (b_5 + 20)))) else (some (.inr (data_3,a_4)))) (data0,0,20)) (cm fun data_1 a_2=>(ca F a_2 n0 cmp0 data_1).bind fun x_9=>Option.bind (iter F (cm fun data_10 blockSize_11=>if (decide (blockSize_11 < n0)) = true then (Option.bind (iter F (np fun data_15 a_16 b_17=>if (decide (b_17 ≤ n0)) = true then (eO (IntKind.i64.wrap (a_16 + blockSize_11)) fun x_20=>(dB F a_16 x_20 b_17 cmp0 data_15).bind fun x_21=>eO (IntKind.i64.wrap (b_17 + (IntKind.i64.wrap (2 * blockSize_11)))) fun x_22=>some (.inl (x_21,b_17,x_22))) else (some (.inr (data_15,a_16)))) (data_10,0,IntKind.i64.wrap (2 * blockSize_11))) (cm fun data_13 a_14=>Option.bind (eO (IntKind.i64.wrap (a_14 + blockSize_11)) fun x_24=>if (decide (x_24 < n0)) = true then ((dB F a_14 x_24 n0 cmp0 data_13).bind fun x_25=>some x_25) else (some data_13)) (fun data_23=>some (.inl (data_23,IntKind.i64.wrap (blockSize_11 * 2)))))) else (some (.inr data_10))) (x_9,20)) (fun y_12=>some y_12))
theorem ig {F:Nat} {n0:Int} {cmp0:List Int} {data0:List Int} {r:(List Int)} (h:dU F n0 cmp0 data0 = some r):ay Try.prog [] 51 [(1,.cJ 3 1 (data0.map eI))] [.row 1,.one (.i n0),.one (.bY 34 [CP.rp [.sl 1 (cmp0.map eI)]])] (Is [(1,.cJ 3 1 (r.map eI))] (.eJ [])):=by
 unfold dU at h
 refine ay.intro 63 Try.func51 Try.ntmps51 rfl (by simp) fun E=>?_
 show ab _ E ⟨63,[1],[1],[]⟩ _ ⟨[(0,.b (.row 1)),(1,I n0),(2,.b (.one (.bY 34 [CP.rp [.sl 1 (cmp0.map eI)]])))],[(1,.cJ 3 1 (data0.map eI))]⟩ _
 refine ab.lz 1 rfl (ab.seq (ab.aa ?_))
 refine Oc oa (ae.ag ⟨[(0,.b (.row 1)),(1,I n0),(2,.b (.one (.bY 34 [CP.rp [.sl 1 (cmp0.map eI)]]))),(6,I 20)],[(1,.row 3 1 (data0.map eI))]⟩ rfl (ab.seq (ab.aa ?_)))
 refine Oc om (Oc oa (Oc oa ?_))
 refine ae.ag ⟨[(0,_),(1,_),(2,_),(6,_),(7,I 0),(8,I 20)],[(1,_)]⟩ rfl ?_
 obtain ⟨v1,h2,h⟩:=aL h
 refine ab.cM (v:=v1) (cm fun (data_1:List Int) (a_2:Int)=>⟨[(0,.b (.row 1)),(1,I n0),(2,.b (.one (.bY 34 [CP.rp [.sl 1 (cmp0.map eI)]]))),(6,I 20),(7,I a_2)],[(1,.row 3 1 (data_1.map eI))]⟩) (fun z=>z) ?_ ?_
 ·refine ab.block (ab.cE h2 (np fun (data_3:List Int) (a_4:Int) (b_5:Int)=>⟨[(0,.b (.row 1)),(1,I n0),(2,.b (.one (.bY 34 [CP.rp [.sl 1 (cmp0.map eI)]]))),(6,I 20),(7,I a_4),(8,I b_5)],[(1,.row 3 1 (data_3.map eI))]⟩) [0,1,2,6,7,8] [1] rfl ?_)
  rintro ⟨data_3,a_4,b_5⟩ o3 h4 hy5
  refine ab.seq (ab.seq (ab.aa ?_))
  refine Oc om (Oc om (Oc (lg rfl rfl) ?_))
  refine ae.ag ⟨[(0,_),(1,_),(2,_),(6,_),(7,_),(8,_),(13,B (decide (b_5 ≤ n0)))],[(1,_)]⟩ rfl (ab.ite h4 rfl (fun _ h4=>?_) (fun _ h4=>?_))
  ·refine ab.skip (Fin.af ⟨[(0,_),(1,_),(2,_),(6,_),(7,_),(8,_)],[(1,_)]⟩ rfl (Fin.then (ab.block (ab.seq (ab.aa ?_)))))
   refine Oc om (Oc om (Oc om (Oc om ?_)))
   refine ae.kM 1 rfl ?_
   obtain ⟨x_8,e6,h4⟩:=aL h4
   refine Oc (bo (own_a:=[(1,_)]) (dz e6) sX rfl ⟨rfl,trivial⟩ rfl rfl) (ae.lz 1 rfl (ae.ag ⟨[(0,_),(1,_),(2,_),(6,_),(8,_)],[(1,.row 3 1 (x_8.map eI))]⟩ rfl (ab.seq (ab.aa ?_))))
   refine Oc om (Oc oa ?_)
   refine ae.ag ⟨[(0,_),(1,_),(2,_),(6,_),(7,I b_5),(8,_)],[(1,_)]⟩ rfl (ab.aa (Oc om (Oc om (Oc (aU rfl rfl) (Oc oa ?_)))))
   refine ae.nil (Fin.ah ?_)
   exact Fin.bG [0,1,2,6,7,8] [1] (x_8,b_5,IntKind.i64.wrap (b_5 + 20)) (Option.some.inj h4) rfl
  ·refine ab.exit (Fin.ai ?_)
   obtain rfl:=hy5 _ (Option.some.inj h4).symm
   refine Fin.ai (Fin.aB ?_)
   exact Fin.join [0,1,2,6,7] [1] (data_3,a_4) rfl rfl
 ·rintro ⟨data_1,a_2⟩ hv
  subst v1
  refine ab.seq (ab.aa ?_)
  refine Oc om (Oc om (Oc om (Oc om ?_)))
  refine ae.kM 1 rfl ?_
  obtain ⟨x_9,e7,h⟩:=aL h
  refine Oc (bo (own_a:=[(1,_)]) (dz e7) sX rfl ⟨rfl,trivial⟩ rfl rfl) (ae.lz 1 rfl (ae.ag ⟨[(0,_),(1,_),(2,_),(6,_)],[(1,.row 3 1 (x_9.map eI))]⟩ rfl (ab.block ?_)))
  obtain ⟨v8,h9,h⟩:=aL h
  refine ab.cE h9 (cm fun (data_10:List Int) (blockSize_11:Int)=>⟨[(0,.b (.row 1)),(1,I n0),(2,.b (.one (.bY 34 [CP.rp [.sl 1 (cmp0.map eI)]]))),(6,I blockSize_11)],[(1,.row 3 1 (data_10.map eI))]⟩) [0,1,2,6] [1] rfl ?_
  rintro ⟨data_10,blockSize_11⟩ o10 h11 hy12
  refine ab.seq (ab.seq (ab.aa ?_))
  refine Oc om (Oc om (Oc (bt rfl rfl) ?_))
  refine ae.ag ⟨[(0,_),(1,_),(2,_),(6,_),(30,B (decide (blockSize_11 < n0)))],[(1,_)]⟩ rfl (ab.ite h11 rfl (fun _ h11=>?_) (fun _ h11=>?_))
  ·refine ab.skip (Fin.af ⟨[(0,_),(1,_),(2,_),(6,_)],[(1,_)]⟩ rfl (Fin.then (ab.block (ab.seq (ab.aa ?_)))))
   refine Oc om (Oc (qB rfl rfl) (Oc oa (Oc oa ?_)))
   refine ae.ag ⟨[(0,_),(1,_),(2,_),(6,_),(7,I 0),(8,I (IntKind.i64.wrap (2 * blockSize_11)))],[(1,_)]⟩ rfl ?_
   obtain ⟨v13,h14,h11⟩:=aL h11
   refine ab.cM (v:=v13) (cm fun (data_13:List Int) (a_14:Int)=>⟨[(0,.b (.row 1)),(1,I n0),(2,.b (.one (.bY 34 [CP.rp [.sl 1 (cmp0.map eI)]]))),(6,I blockSize_11),(7,I a_14)],[(1,.row 3 1 (data_13.map eI))]⟩) (fun z=>z) ?_ ?_
   ·refine ab.block (ab.cE h14 (np fun (data_15:List Int) (a_16:Int) (b_17:Int)=>⟨[(0,.b (.row 1)),(1,I n0),(2,.b (.one (.bY 34 [CP.rp [.sl 1 (cmp0.map eI)]]))),(6,I blockSize_11),(7,I a_16),(8,I b_17)],[(1,.row 3 1 (data_15.map eI))]⟩) [0,1,2,6,7,8] [1] rfl ?_)
    rintro ⟨data_15,a_16,b_17⟩ o15 h16 hy17
    refine ab.seq (ab.seq (ab.aa ?_))
    refine Oc om (Oc om (Oc (lg rfl rfl) ?_))
    refine ae.ag ⟨[(0,_),(1,_),(2,_),(6,_),(7,_),(8,_),(35,B (decide (b_17 ≤ n0)))],[(1,_)]⟩ rfl (ab.ite h16 rfl (fun _ h16=>?_) (fun _ h16=>?_))
    ·refine ab.skip (Fin.af ⟨[(0,_),(1,_),(2,_),(6,_),(7,_),(8,_)],[(1,_)]⟩ rfl (Fin.then (ab.block (ab.seq (ab.aa ?_)))))
     refine Oc om (Oc om (Oc om (Oc om ?_)))
     refine ae.iS .i64 h16 rfl (aU rfl rfl) (fun x_20 h16=>?_)
     refine Oc om (Oc om ?_)
     refine ae.kM 1 rfl ?_
     obtain ⟨x_21,e18,h16⟩:=aL h16
     refine Oc (bo (own_a:=[(1,_)]) (ed e18) o6 rfl ⟨rfl,trivial⟩ rfl rfl) (ae.lz 1 rfl (ae.ag ⟨[(0,_),(1,_),(2,_),(6,_),(8,_)],[(1,.row 3 1 (x_21.map eI))]⟩ rfl (ab.seq (ab.aa ?_))))
     refine Oc om (Oc oa ?_)
     refine ae.ag ⟨[(0,_),(1,_),(2,_),(6,_),(7,I b_17),(8,_)],[(1,_)]⟩ rfl (ab.aa (Oc om (Oc om (Oc (qB rfl rfl) ?_))))
     refine ae.iS .i64 h16 rfl (aU rfl rfl) (fun x_22 h16=>?_)
     refine Oc oa (ae.nil (Fin.ah ?_))
     exact Fin.bG [0,1,2,6,7,8] [1] (x_21,b_17,x_22) (Option.some.inj h16) rfl
    ·refine ab.exit (Fin.ai ?_)
     obtain rfl:=hy17 _ (Option.some.inj h16).symm
     refine Fin.ai (Fin.aB ?_)
     exact Fin.join [0,1,2,6,7] [1] (data_15,a_16) rfl rfl
   ·rintro ⟨data_13,a_14⟩ hv
    subst v13
    obtain ⟨v19,h20,h11⟩:=aL h11
    refine ab.cM (v:=v19) (fun (data_23:List Int)=>⟨[(0,.b (.row 1)),(1,I n0),(2,.b (.one (.bY 34 [CP.rp [.sl 1 (cmp0.map eI)]]))),(6,I blockSize_11)],[(1,.row 3 1 (data_23.map eI))]⟩) (fun z=>z) ?_ ?_
    ·refine ab.seq (ab.aa ?_)
     refine Oc om (Oc om ?_)
     refine ae.iS .i64 h20 rfl (aU rfl rfl) (fun x_24 h20=>?_)
     refine Oc oa (ae.ag ⟨[(0,_),(1,_),(2,_),(6,_),(7,_),(9,I x_24)],[(1,_)]⟩ rfl (ab.seq (ab.aa ?_)))
     refine Oc om (Oc om (Oc (bt rfl rfl) ?_))
     refine ae.ag ⟨[(0,_),(1,_),(2,_),(6,_),(7,_),(9,_),(54,B (decide (x_24 < n0)))],[(1,_)]⟩ rfl (ab.ite h20 rfl (fun _ h20=>?_) (fun _ h20=>?_))
     ·refine ab.aa (Oc om (Oc om (Oc om (Oc om (Oc om ?_)))))
      refine ae.kM 1 rfl ?_
      obtain ⟨x_25,e21,h20⟩:=aL h20
      refine Oc (bo (own_a:=[(1,_)]) (ed e21) o6 rfl ⟨rfl,trivial⟩ rfl rfl) (ae.lz 1 rfl (ae.nil ?_))
      exact Fin.join [0,1,2,6] [1] x_25 (Option.some.inj h20) rfl
     ·refine ab.skip ?_
      exact Fin.join [0,1,2,6] [1] data_13 (Option.some.inj h20) rfl
    ·rintro data_23 hv
     subst v19
     refine ab.aa (Oc om (Oc (qB rfl rfl) (Oc oa ?_)))
     refine ae.nil (Fin.ah ?_)
     exact Fin.bG [0,1,2,6] [1] (data_23,IntKind.i64.wrap (blockSize_11 * 2)) (Option.some.inj h11) rfl
  ·refine ab.exit (Fin.ai ?_)
   obtain rfl:=hy12 _ (Option.some.inj h11).symm
   refine Fin.ai (Fin.aB ?_)
   obtain rfl:=Option.some.inj h
   refine Fin.af ⟨[],[(1,_)]⟩ rfl (Fin.kM 1 rfl (Fin.af ⟨[],[(1,.cJ 3 1 (data_10.map eI))]⟩ rfl ?_))
   exact Fin.result [] (.inr rfl) rfl (.nil) ⟨rfl,rfl⟩
def dK (F:Nat) (cmp0:List Int) (x0:List Int):Option (List Int) :=
 (dU F (x0.length:Int) cmp0 x0).bind fun x_1=>some x_1
theorem ic {F:Nat} {cmp0:List Int} {x0:List Int} {r:(List Int)} (h:dK F cmp0 x0 = some r):ay Try.prog [] 33 [(1,.cJ 3 1 (x0.map eI))] [.row 1,.one (.bY 34 [CP.rp [.sl 1 (cmp0.map eI)]])] (Is [(1,.cJ 3 1 (r.map eI))] (.eJ [])):=by
 unfold dK at h
 refine ay.intro 9 Try.func33 Try.ntmps33 rfl (by simp) fun E=>?_
 show ab _ E ⟨9,[1],[1],[]⟩ _ ⟨[(0,.b (.row 1)),(1,.b (.one (.bY 34 [CP.rp [.sl 1 (cmp0.map eI)]])))],[(1,.cJ 3 1 (x0.map eI))]⟩ _
 refine ab.lz 1 rfl (ab.aa (Oc om (Oc om (Oc (fT gm rfl rfl (List.length_map _)) (Oc om ?_)))))
 refine ae.kM 1 rfl ?_
 obtain ⟨x_1,e1,h⟩:=aL h
 refine Oc (bo (own_a:=[(1,_)]) (ig e1) goes51 rfl ⟨rfl,trivial⟩ rfl rfl) (ae.lz 1 rfl (ae.nil ?_))
 obtain rfl:=Option.some.inj h
 refine Fin.af ⟨[],[(1,.row 3 1 (x_1.map eI))]⟩ rfl (Fin.kM 1 rfl (Fin.af ⟨[],[(1,.cJ 3 1 (x_1.map eI))]⟩ rfl ?_))
 exact Fin.result [] (.inr rfl) rfl (.nil) ⟨rfl,rfl⟩
def fJ (F:Nat) (fixed0:List Bool) (links0:List A2):Option ((List Int) × Int) :=
 Option.bind (fb F fixed0 links0) (cm fun x_1 x_2=>if (decide (x_2 ≠ 0)) = true then (some ([],x_2)) else (Option.bind (eH F fixed0 links0) (cm fun x_3 x_4=>Option.bind (iter F (cm fun out_6 x_7=>if (decide (x_7 < (x_3.length:Int))) = true then ((aE x_3 x_7).bind fun x_9=>(dK F x_1 x_9).bind fun x_10=>(c9 out_6 x_10).bind fun x_11=>some (.inl (x_11,IntKind.i64.wrap (x_7 + 1)))) else (some (.inr out_6))) ([],0)) (fun out_5=>some (out_5,0)))))
theorem mi {F:Nat} {fixed0:List Bool} {links0:List A2} {r:(List Int) × Int} (h:fJ F fixed0 links0 = some r):ay Try.prog [] 14 [] [.one (.sl 1 (fixed0.map eB)),.one (.sl 2 (links0.map (cy .i64)))] (Is [] (.eJ [.one (.sl 1 (r.1.map eI)),.one (.i r.2)])):=by
 unfold fJ at h
 refine ay.intro 42 Try.func14 Try.ntmps14 rfl (by simp) fun E=>?_
 show ab _ E ⟨42,[],[],[]⟩ _ ⟨[(0,.b (.one (.sl 1 (fixed0.map eB)))),(1,.b (.one (.sl 2 (links0.map (cy .i64)))))],[]⟩ _
 refine ab.seq (ab.aa ?_)
 refine Oc oa (Oc oa ?_)
 refine ae.ag ⟨[(0,.b (.one (.sl 1 (fixed0.map eB)))),(1,.b (.one (.sl 2 (links0.map (cy .i64)))))],[]⟩ rfl (ab.seq (ab.aa ?_))
 refine Oc om (Oc om ?_)
 obtain ⟨⟨x_1,x_2⟩,e1,h⟩:=aL h
 refine Oc (bo (hY 101 e1) tf rfl trivial rfl rfl) (Oc om (Oc (au rfl rfl) ?_))
 refine ae.af ⟨[(0,_),(1,_),(13,.eJ [.row 101,.one (.i x_2)]),(17,.b (.row 101))],[(101,.row 3 1 (x_1.map eI))]⟩ rfl (Oc (au rfl rfl) (Oc (bh (k:=102) cA rfl) ?_))
 refine ae.bI 101 rfl (Oc (gu aZ rfl rfl rfl (Nat.le_of_ble_eq_true rfl) rfl) (ae.gq 102 rfl (Oc oa (ae.ag ⟨[(0,.b (.one (.sl 1 (fixed0.map eB)))),(1,.b (.one (.sl 2 (links0.map (cy .i64))))),(6,.b (.c3 [.sl 1 (x_1.map eI)])),(7,I x_2)],[]⟩ rfl (ab.seq (ab.seq (ab.aa ?_)))))))
 refine Oc om (Oc (iG rfl rfl) ?_)
 refine ae.ag ⟨[(0,_),(1,_),(6,_),(7,_),(20,B (decide (x_2 ≠ 0)))],[]⟩ rfl (ab.ite h rfl (fun _ h=>?_) (fun _ h=>?_))
 ·refine ab.seq (ab.aa ?_)
  refine Oc om (Oc oa (Oc oa ?_))
  refine ae.ag ⟨[(4,.b (.one (.nil))),(5,I x_2)],[]⟩ rfl (ab.ret (Fin.aN ?_))
  obtain rfl:=Option.some.inj h
  refine Fin.af ⟨[(4,_),(5,_)],[]⟩ rfl (Fin.iR 4 1 rfl (by decide) (Fin.aV [.one (.sl 1 ([].map eI)),.one (.i x_2)] (.inl rfl) rfl (.cons (.tmp rfl) (.cons (.tmp rfl) .nil)) ⟨rfl,rfl⟩))
 ·refine ab.skip (Fin.af ⟨[(0,_),(1,_),(6,_)],[]⟩ rfl (Fin.then (ab.seq (ab.aa ?_))))
  refine Oc om (Oc om ?_)
  obtain ⟨⟨x_3,x_4⟩,e2,h⟩:=aL h
  refine Oc (bo (own_a:=[]) ((kP e2).sw 51 103) mE rfl trivial rfl rfl) (Oc om (Oc (au rfl rfl) ?_))
  refine ae.af ⟨[(6,_),(22,.eJ [.row 103,.one (.i x_4)]),(26,.b (.row 103))],[(103,.rr 30 3 1 .none (x_3.map (eR eI)))]⟩ rfl (Oc (au rfl rfl) (Oc oa (Oc oa ?_)))
  refine ae.ag ⟨[(6,_),(8,.b (.row 103))],[(103,_)]⟩ rfl (ab.seq (ab.aa ?_))
  refine Oc oa (ae.ag ⟨[(6,_),(8,_),(10,.b (.one (.nil)))],[(103,_)]⟩ rfl ?_)
  obtain ⟨v3,h4,h⟩:=aL h
  refine ab.cM (v:=v3) (fun (out_5:List Int)=>⟨[(10,.b (.row 105))],[(105,.row 3 1 (out_5.map eI))]⟩) (fun z=>z) ?_ ?_
  ·refine ab.seq (ab.aa ?_)
   refine Oc om (Oc (lr jI rfl rfl (List.length_map _)) (Oc om ?_))
   refine ae.ag ⟨[(6,_),(10,_),(28,.b (.row 103)),(29,I (x_3.length:Int)),(30,I 0)],[(103,_)]⟩ rfl (ab.block (ab.dY 10 105 1 3 rfl (by decide) rfl (ab.toBelow 103 rfl (ab.cE h4 (cm fun (out_6:List Int) (x_7:Int)=>⟨[(6,.b (.c3 [.sl 1 (x_1.map eI)])),(10,.b (.row 105)),(28,.b (.row 103)),(29,I (x_3.length:Int)),(30,I x_7)],[(103,.rr 30 3 1 (.below (x_7:Int).toNat) (x_3.map (eR eI))),(105,.row 3 1 (out_6.map eI))]⟩) [6,10,28,29,30] [103,105] rfl ?_))))
   rintro ⟨out_6,x_7⟩ o5 h6 hy7
   refine ab.seq (ab.aa ?_)
   refine Oc (bt rfl rfl) (ae.ag ⟨[(6,_),(10,_),(28,_),(29,_),(30,_),(31,B (decide (x_7 < (x_3.length:Int))))],[(103,_),(105,_)]⟩ rfl (ab.seq (ab.ite h6 rfl (fun _ h6=>?_) (fun _ h6=>?_))))
   ·refine ab.skip (Fin.af ⟨[(6,_),(10,_),(28,_),(29,_),(30,_)],[(103,_),(105,_)]⟩ rfl (Fin.then (ab.seq (ab.block (ab.seq (ab.aa ?_))))))
    obtain ⟨x_9,e8,h6⟩:=aL h6
    refine Oc (dw fe (aH e8) (aW e8) rfl rfl rfl rfl) (Oc (qU (ii:=x_7) 106 aZ rfl rfl rfl (aH e8) (aJ (e:=eR eI) e8) (by decide) rfl rfl) (Oc oa ?_))
    refine ae.ag ⟨[(6,_),(10,_),(12,.b (.row 106)),(28,_),(29,_),(30,_)],[(103,.rr 30 3 1 (.below (IntKind.i64.wrap (x_7 + 1):Int).toNat) (x_3.map (eR eI))),(105,_),(106,.row 3 1 (x_9.map eI))]⟩ rfl (ab.seq (ab.aa ?_))
    refine Oc om (Oc (jz rfl) ?_)
    refine ae.kM 106 rfl ?_
    obtain ⟨x_10,e9,h6⟩:=aL h6
    refine Oc (bo (own_a:=[(106,_)]) ((ic e9).sw 1 106) goes33 rfl ⟨rfl,trivial⟩ rfl rfl) (ae.lz 106 rfl (ae.ag ⟨[(6,_),(10,_),(12,_),(28,_),(29,_),(30,_)],[(103,_),(105,_),(106,.row 3 1 (x_10.map eI))]⟩ rfl (ab.aa (Oc om (Oc om ?_)))))
    obtain ⟨x_11,e10,h6⟩:=aL h6
    refine Oc (cF aq (fp e10) (fo e10) rfl rfl rfl rfl (c5 e10) rfl) (Oc oa ?_)
    refine ae.nil (Fin.ah (Fin.af ⟨[(6,_),(10,_),(28,_),(29,_),(30,_)],[(103,_),(105,.row 3 1 (x_11.map eI))]⟩ rfl (Fin.then (ab.aa ?_))))
    refine Oc (aU rfl rfl) (Oc om ?_)
    refine ae.nil ?_
    exact Fin.bG [6,10,28,29,30] [103,105] (x_11,IntKind.i64.wrap (x_7 + 1)) (Option.some.inj h6) rfl
   ·refine ab.exit (Fin.ai ?_)
    obtain rfl:=hy7 _ (Option.some.inj h6).symm
    refine Fin.ai (Fin.aB ?_)
    exact Fin.join [10] [105] out_6 rfl rfl
  ·rintro out_5 hv
   subst v3
   refine ab.seq (ab.aa ?_)
   refine Oc om (Oc oa (Oc oa ?_))
   refine ae.ag ⟨[(4,.b (.row 105)),(5,I 0)],[(105,_)]⟩ rfl (ab.ret ?_)
   obtain rfl:=Option.some.inj h
   refine Fin.af ⟨[(4,.b (.row 105)),(5,I 0)],[(105,.row 3 1 (out_5.map eI))]⟩ rfl (Fin.bI 105 rfl (Fin.aV [.one (.sl 1 (out_5.map eI)),.one (.i 0)] (.inl rfl) rfl (.cons (.tmp rfl) (.cons (.tmp rfl) .nil)) ⟨rfl,rfl⟩))
def cH (F:Nat) (fixed0:List Bool) (links0:List A2):Option ((List Int) × Int) :=
 (bF F fixed0 links0).bind fun x_1=>if (!x_1) = true then (some ([],1)) else (Option.bind (cW F fixed0 links0) (cm fun x_2 x_3=>some (x_3,0)))
theorem hZ (kr0:Nat) {F:Nat} {fixed0:List Bool} {links0:List A2} {r:(List Int) × Int} (h:cH F fixed0 links0 = some r):ay Try.prog [] 20 [] [.one (.sl 1 (fixed0.map eB)),.one (.sl 2 (links0.map (cy .i64)))] (Is [(kr0,.row 3 1 (r.1.map eI))] (.eJ [.row kr0,.one (.i r.2)])):=by
 unfold cH at h
 refine ay.intro 19 Try.func20 Try.ntmps20 rfl (by simp) fun E=>?_
 show ab _ E ⟨19,[],[],[]⟩ _ ⟨[(0,.b (.one (.sl 1 (fixed0.map eB)))),(1,.b (.one (.sl 2 (links0.map (cy .i64)))))],[]⟩ _
 refine ab.seq (ab.aa ?_)
 refine Oc oa (Oc oa ?_)
 refine ae.ag ⟨[(0,.b (.one (.sl 1 (fixed0.map eB)))),(1,.b (.one (.sl 2 (links0.map (cy .i64)))))],[]⟩ rfl (ab.seq (ab.seq (ab.aa ?_)))
 refine Oc om (Oc om ?_)
 obtain ⟨x_1,e1,h⟩:=aL h
 refine Oc (aT (cD e1) mC rfl rfl) (Oc (dO rfl) ?_)
 refine ae.ag ⟨[(0,_),(1,_),(11,B (!x_1))],[]⟩ rfl (ab.ite h rfl (fun _ h=>?_) (fun _ h=>?_))
 ·refine ab.seq (ab.aa ?_)
  refine Oc oa (Oc oa ?_)
  refine ae.ag ⟨[(4,.b (.one (.nil))),(5,I 1)],[]⟩ rfl (ab.ret (Fin.aN ?_))
  obtain rfl:=Option.some.inj h
  refine Fin.af ⟨[(4,_),(5,_)],[]⟩ rfl (Fin.dY 4 101 1 3 rfl (by decide) rfl (Fin.lJ 101 kr0 [.row 101,.one (.i 1)] (.inl rfl) rfl (.cons (.tmp rfl) (.cons (.tmp rfl) .nil)) rfl rfl rfl rfl ⟨rfl,rfl⟩))
 ·refine ab.skip (Fin.af ⟨[(0,_),(1,_)],[]⟩ rfl (Fin.then (ab.seq (ab.aa ?_))))
  refine Oc om (Oc om ?_)
  obtain ⟨⟨x_2,x_3⟩,e2,h⟩:=aL h
  refine Oc (bo (own_a:=[]) (((fi e2).sw 51 102).sw 52 103) qJ rfl trivial rfl rfl) (Oc om (Oc (au rfl rfl) ?_))
  refine ae.af ⟨[(12,.eJ [.xa [.row 102],.row 103]),(16,.b (.xa [.row 102]))],[(102,.mq x_2),(103,.row 3 1 (x_3.map eI))]⟩ rfl (Oc (au rfl rfl) (Oc (bh (k:=104) iT rfl) ?_))
  refine ae.ow 104 rfl (Oc (fA cS rfl rfl rfl rfl rfl (Nat.le_of_ble_eq_true rfl) rfl) (Oc oa ?_))
  refine ae.ag ⟨[(7,.b (.row 103))],[(103,.row 3 1 (x_3.map eI))]⟩ rfl (ab.seq (ab.aa ?_))
  refine Oc om (Oc oa (Oc oa ?_))
  refine ae.ag ⟨[(4,.b (.row 103)),(5,I 0)],[(103,_)]⟩ rfl (ab.ret ?_)
  obtain rfl:=Option.some.inj h
  refine Fin.af ⟨[(4,_),(5,_)],[(103,_)]⟩ rfl (Fin.lJ 103 kr0 [.row 103,.one (.i 0)] (.inl rfl) rfl (.cons (.tmp rfl) (.cons (.tmp rfl) .nil)) rfl rfl rfl rfl ⟨rfl,rfl⟩)
def cX (F:Nat):Nat → Int → Int → Int → (List Int) → (List Int) → (List (List jh)) → (List Int) → (List Int) → Option (Int × (List Int) × (List Int) × (List Int) × (List Int))
 | 0,_,_,_,_,_,_,_,_=>none
 | n + 1,n0,by0,v0c,v1c,v2c,v3c,v5c,v6c=>(aE v1c n0).bind fun x_1=>(aE v2c n0).bind fun x_2=>Option.bind (if (decide (0 ≤ by0)) = true then (some 1) else (some 0)) (fun parts_3=>Option.bind ((aE v3c n0).bind fun x_10=>iter F (un7 fun xf0_11 xf0_12 xf0_13 xf0f0_14 xf0f0_15 parts_16 x_17=>if (decide (x_17 < (x_10.length:Int))) = true then (Option.bind ((aE x_10 x_17).bind fun x_30=>if (decide (x_30.pos = by0)) = true then (some (xf0_11,xf0_12,xf0_13,xf0f0_14,xf0f0_15,parts_16)) else ((aE xf0_11 x_30.to).bind fun x_31=>if (decide (0 < x_31)) = true then ((aE xf0_12 n0).bind fun x_32=>(aE xf0_11 x_30.to).bind fun x_33=>(aE xf0_12 n0).bind fun x_34=>some (xf0_11,xf0_12.set (n0:Int).toNat (min x_32 x_33),xf0_13,xf0f0_14,xf0f0_15,parts_16)) else (Option.bind (cX F n x_30.to x_30.pos xf0_13 xf0_11 xf0_12 v3c xf0f0_14 xf0f0_15) (un5 fun x_35 x_36 x_37 x_38 x_39=>(aE x_37 n0).bind fun x_40=>(aE x_37 x_30.to).bind fun x_41=>(aE x_37 n0).bind fun x_42=>Option.bind ((aE (x_37.set (n0:Int).toNat (min x_40 x_41)) x_30.to).bind fun x_44=>(aE x_36 n0).bind fun x_45=>if (decide (x_45 ≤ x_44)) = true then (some (IntKind.i64.wrap (parts_16 + 1))) else (some parts_16)) (fun parts_43=>(aE (x_37.set (n0:Int).toNat (min x_40 x_41)) x_30.to).bind fun x_46=>(aE x_36 n0).bind fun x_47=>if (decide (x_47 < x_46)) = true then ((c9 x_38 [x_30.pos]).bind fun x_48=>some (x_36,x_37.set (n0:Int).toNat (min x_40 x_41),x_35,x_48,x_39,parts_43)) else (some (x_36,x_37.set (n0:Int).toNat (min x_40 x_41),x_35,x_38,x_39,parts_43))))))) (un6 fun xf0_24 xf0_25 xf0_26 xf0f0_27 xf0f0_28 parts_29=>some (.inl (xf0_24,xf0_25,xf0_26,xf0f0_27,xf0f0_28,parts_29,IntKind.i64.wrap (x_17 + 1))))) else (some (.inr (xf0f0_15,parts_16,xf0_13,xf0_11,xf0_12,xf0f0_14)))) (v1c.set (n0:Int).toNat (IntKind.i64.wrap (v0c + 1)),v2c.set (n0:Int).toNat (IntKind.i64.wrap (v0c + 1)),IntKind.i64.wrap (v0c + 1),v5c,v6c,parts_3,0)) (un6 fun xf0_4 parts_5 y_6 yf0_7 yf0_8 yf0f0_9=>if (decide (1 < parts_5)) = true then ((c9 xf0_4 [n0]).bind fun x_49=>some (y_6,yf0_7,yf0_8,yf0f0_9,x_49)) else (some (y_6,yf0_7,yf0_8,yf0f0_9,xf0_4))))
def jL (F:Nat) (n0:Int) (by0:Int) (v0c:Int) (v1c:List Int) (v2c:List Int) (v3c:List (List jh)) (v5c:List Int) (v6c:List Int):Option (Int × (List Int) × (List Int) × (List Int) × (List Int)):=cX F F n0 by0 v0c v1c v2c v3c v5c v6c
theorem kO {F:Nat}:∀ (n:Nat) {n0:Int} {by0:Int} {v0c:Int} {v1c:List Int} {v2c:List Int} {v3c:List (List jh)} {v5c:List Int} {v6c:List Int} {r:Int × (List Int) × (List Int) × (List Int) × (List Int)} (h:cX F n n0 by0 v0c v1c v2c v3c v5c v6c = some r),ay Try.prog [] 53 [(1,.box 3 [.i v0c]),(2,.ao 30 [.row 3]),(3,.row 3 1 (v1c.map eI)),(4,.ao 30 [.row 5]),(5,.row 3 1 (v2c.map eI)),(6,.box 56 [.sl 1 (v3c.map (eL 2 aQ))]),(7,.ao 80 [.gK 53 [] [.ptr 1 0,.ptr 2 0,.ptr 4 0,.ptr 6 0,.ptr 7 0,.ptr 8 0,.ptr 10 0]]),(8,.ao 30 [.row 9]),(9,.row 3 1 (v5c.map eI)),(10,.ao 30 [.row 11]),(11,.row 3 1 (v6c.map eI))] [.one (.i n0),.one (.i by0),.ptr 1 0,.ptr 2 0,.ptr 4 0,.ptr 6 0,.ptr 7 0,.ptr 8 0,.ptr 10 0] (Is [(1,.box 3 [.i r.1]),(2,.ao 30 [.row 3]),(3,.row 3 1 (r.2.1.map eI)),(4,.ao 30 [.row 5]),(5,.row 3 1 (r.2.2.1.map eI)),(6,.box 56 [.sl 1 (v3c.map (eL 2 aQ))]),(7,.ao 80 [.gK 53 [] [.ptr 1 0,.ptr 2 0,.ptr 4 0,.ptr 6 0,.ptr 7 0,.ptr 8 0,.ptr 10 0]]),(8,.ao 30 [.row 9]),(9,.row 3 1 (r.2.2.2.1.map eI)),(10,.ao 30 [.row 11]),(11,.row 3 1 (r.2.2.2.2.map eI))] (.eJ [])):=by
 intro n
 induction n with
 | zero=>intro n0 by0 v0c v1c v2c v3c v5c v6c r h; simp [cX] at h
 | succ n ih=>
 intro n0 by0 v0c v1c v2c v3c v5c v6c r h
 unfold cX at h
 refine ay.intro 113 Try.func53 Try.ntmps53 rfl (by simp) fun E=>?_
 show ab _ E ⟨113,[1,2,4,6,7,8,10],[1,2,3,4,5,6,7,8,9,10,11],[]⟩ _ ⟨[(0,I n0),(1,I by0),(2,Pt 1 0),(3,Pt 2 0),(4,Pt 4 0),(5,Pt 6 0),(6,Pt 7 0),(7,Pt 8 0),(8,Pt 10 0)],[(1,.box 3 [.i v0c]),(2,.ao 30 [.row 3]),(3,.row 3 1 (v1c.map eI)),(4,.ao 30 [.row 5]),(5,.row 3 1 (v2c.map eI)),(6,.box 56 [.sl 1 (v3c.map (eL 2 aQ))]),(7,.ao 80 [.gK 53 [] [.ptr 1 0,.ptr 2 0,.ptr 4 0,.ptr 6 0,.ptr 7 0,.ptr 8 0,.ptr 10 0]]),(8,.ao 30 [.row 9]),(9,.row 3 1 (v5c.map eI)),(10,.ao 30 [.row 11]),(11,.row 3 1 (v6c.map eI))]⟩ _
 refine ab.seq (ab.aa ?_)
 refine Oc (bp az rfl rfl rfl) (Oc (aU rfl rfl) (Oc (gu az rfl rfl rfl (Nat.le_of_ble_eq_true rfl) rfl) ?_))
 refine ae.ag ⟨[(0,I n0),(1,I by0),(2,Pt 1 0),(3,Pt 2 0),(4,Pt 4 0),(5,Pt 6 0),(6,Pt 7 0),(7,Pt 8 0),(8,Pt 10 0)],[(1,.box 3 [.i (IntKind.i64.wrap (v0c + 1))]),(2,.ao 30 [.row 3]),(3,.row 3 1 (v1c.map eI)),(4,.ao 30 [.row 5]),(5,.row 3 1 (v2c.map eI)),(6,.box 56 [.sl 1 (v3c.map (eL 2 aQ))]),(7,.ao 80 [.gK 53 [] [.ptr 1 0,.ptr 2 0,.ptr 4 0,.ptr 6 0,.ptr 7 0,.ptr 8 0,.ptr 10 0]]),(8,.ao 30 [.row 9]),(9,.row 3 1 (v5c.map eI)),(10,.ao 30 [.row 11]),(11,.row 3 1 (v6c.map eI))]⟩ rfl (ab.seq ?_)
 obtain ⟨x_1,e1,h⟩:=aL h
 obtain ⟨x_2,e2,h⟩:=aL h
 refine ab.nu mixed [false,false,false,false,false,false,false,true,false,true] [.b (.row 3),I n0,.b (.row 5),I n0,I (IntKind.i64.wrap (v0c + 1)),I (IntKind.i64.wrap (v0c + 1)),.b (.bw 3 ((n0:Int).toNat * 1)),B true,.b (.bw 5 ((n0:Int).toNat * 1)),B true] [⟨[false,false,false,false,false,false,false,false,false,false],[(0,I n0),(1,I by0),(2,Pt 1 0),(3,Pt 2 0),(4,Pt 4 0),(5,Pt 6 0),(6,Pt 7 0),(7,Pt 8 0),(8,Pt 10 0)],[(1,.box 3 [.i (IntKind.i64.wrap (v0c + 1))]),(2,.ao 30 [.row 3]),(3,.row 3 1 (v1c.map eI)),(4,.ao 30 [.row 5]),(5,.row 3 1 (v2c.map eI)),(6,.box 56 [.sl 1 (v3c.map (eL 2 aQ))]),(7,.ao 80 [.gK 53 [] [.ptr 1 0,.ptr 2 0,.ptr 4 0,.ptr 6 0,.ptr 7 0,.ptr 8 0,.ptr 10 0]]),(8,.ao 30 [.row 9]),(9,.row 3 1 (v5c.map eI)),(10,.ao 30 [.row 11]),(11,.row 3 1 (v6c.map eI))],[true,true,true,true,true,true,true,true,true,true],[],[8,9]⟩,⟨[false,false,false,false,false,false,false,true,false,false],[(0,I n0),(1,I by0),(2,Pt 1 0),(3,Pt 2 0),(4,Pt 4 0),(5,Pt 6 0),(6,Pt 7 0),(7,Pt 8 0),(8,Pt 10 0)],[(1,.box 3 [.i (IntKind.i64.wrap (v0c + 1))]),(2,.ao 30 [.row 3]),(3,.row 3 1 ((v1c.set (n0:Int).toNat (IntKind.i64.wrap (v0c + 1))).map eI)),(4,.ao 30 [.row 5]),(5,.row 3 1 (v2c.map eI)),(6,.box 56 [.sl 1 (v3c.map (eL 2 aQ))]),(7,.ao 80 [.gK 53 [] [.ptr 1 0,.ptr 2 0,.ptr 4 0,.ptr 6 0,.ptr 7 0,.ptr 8 0,.ptr 10 0]]),(8,.ao 30 [.row 9]),(9,.row 3 1 (v5c.map eI)),(10,.ao 30 [.row 11]),(11,.row 3 1 (v6c.map eI))],[true,true,true,true,true,true,true,true,true,true],[0,1,4,6,7],[]⟩,⟨[false,false,false,false,false,false,false,true,false,true],[(0,I n0),(1,I by0),(2,Pt 1 0),(3,Pt 2 0),(4,Pt 4 0),(5,Pt 6 0),(6,Pt 7 0),(7,Pt 8 0),(8,Pt 10 0)],[(1,.box 3 [.i (IntKind.i64.wrap (v0c + 1))]),(2,.ao 30 [.row 3]),(3,.row 3 1 ((v1c.set (n0:Int).toNat (IntKind.i64.wrap (v0c + 1))).map eI)),(4,.ao 30 [.row 5]),(5,.row 3 1 ((v2c.set (n0:Int).toNat (IntKind.i64.wrap (v0c + 1))).map eI)),(6,.box 56 [.sl 1 (v3c.map (eL 2 aQ))]),(7,.ao 80 [.gK 53 [] [.ptr 1 0,.ptr 2 0,.ptr 4 0,.ptr 6 0,.ptr 7 0,.ptr 8 0,.ptr 10 0]]),(8,.ao 30 [.row 9]),(9,.row 3 1 (v5c.map eI)),(10,.ao 30 [.row 11]),(11,.row 3 1 (v6c.map eI))],[true,true,true,true,true,true,true,true,true,true],[0,1,2,3,4,5,6,7,8,9],[]⟩] rfl (⟨by kernel_rfl,⟨⟨.b (.row 3),fun _=>rfl,fun _=>.p (by exact aS aZ rfl rfl rfl)⟩,⟨I n0,fun _=>rfl,fun _=>.p (by exact an rfl)⟩,⟨.b (.row 5),fun _=>rfl,fun _=>.p (by exact aS aZ rfl rfl rfl)⟩,⟨I n0,fun _=>rfl,fun _=>.p (by exact an rfl)⟩,⟨I (IntKind.i64.wrap (v0c + 1)),fun _=>rfl,fun _=>.p (by exact bp az rfl rfl rfl)⟩,⟨I (IntKind.i64.wrap (v0c + 1)),fun _=>rfl,fun _=>.p (by exact bp az rfl rfl rfl)⟩,⟨.b (.bw 3 ((n0:Int).toNat * 1)),fun _=>rfl,fun _=>.p (by exact ar aq (aH e1) (aW e1) rfl rfl rfl rfl)⟩,⟨_,[],.b (.one .any),rfl,(fun e=>by simp at e),rfl,rfl,fun _=>.fO [1,2,3,4,5,6,7,8,9,10,11] (by exact .p (by exact bM (i:=(n0:Int).toNat) az rfl rfl rfl rfl (fl e1) (map_set _ _ _ _))) (by exact rfl)⟩,trivial,trivial,trivial⟩,⟨by kernel_rfl,⟨trivial,trivial,⟨.b (.row 5),fun _=>rfl,fun _=>.p (by exact aS aZ rfl rfl rfl)⟩,⟨I n0,fun _=>rfl,fun _=>.p (by exact an rfl)⟩,trivial,⟨I (IntKind.i64.wrap (v0c + 1)),fun _=>rfl,fun _=>.p (by exact bp az rfl rfl rfl)⟩,trivial,trivial,⟨.b (.bw 5 ((n0:Int).toNat * 1)),fun _=>rfl,fun _=>.p (by exact ar aq (aH e2) (aW e2) rfl rfl rfl rfl)⟩,⟨_,[],.b (.one .any),rfl,(fun e=>by simp at e),rfl,rfl,fun _=>.fO [1,2,3,4,5,6,7,8,9,10,11] (by exact .p (by exact bM (i:=(n0:Int).toNat) az rfl rfl rfl rfl (fl e2) (map_set _ _ _ _))) (by exact rfl)⟩,trivial⟩,⟨by kernel_rfl,⟨trivial,trivial,trivial,trivial,trivial,trivial,trivial,trivial,trivial,trivial,trivial⟩,trivial⟩⟩⟩) rfl rfl rfl [0,1,3,4,5,6,7,8] [1,2,3,4,5,6,7,8,9,10,11] (s':=⟨[(0,_),(1,_),(3,_),(4,_),(5,_),(6,_),(7,_),(8,_)],[(1,_),(2,_),(3,.row 3 1 ((v1c.set (n0:Int).toNat (IntKind.i64.wrap (v0c + 1))).map eI)),(4,_),(5,.row 3 1 ((v2c.set (n0:Int).toNat (IntKind.i64.wrap (v0c + 1))).map eI)),(6,_),(7,_),(8,_),(9,_),(10,_),(11,_)]⟩) rfl ?_
 refine ab.seq (ab.aa ?_)
 refine Oc oa (ae.ag ⟨[(0,_),(1,_),(3,_),(4,_),(5,_),(6,_),(7,_),(8,_),(11,I 0)],[(1,_),(2,_),(3,_),(4,_),(5,_),(6,_),(7,_),(8,_),(9,_),(10,_),(11,_)]⟩ rfl ?_)
 obtain ⟨v3,h4,h⟩:=aL h
 refine ab.cM (v:=v3) (fun (parts_3:Int)=>⟨[(0,I n0),(1,I by0),(3,Pt 2 0),(4,Pt 4 0),(5,Pt 6 0),(6,Pt 7 0),(7,Pt 8 0),(8,Pt 10 0),(11,I parts_3)],[(1,.box 3 [.i (IntKind.i64.wrap (v0c + 1))]),(2,.ao 30 [.row 3]),(3,.row 3 1 ((v1c.set (n0:Int).toNat (IntKind.i64.wrap (v0c + 1))).map eI)),(4,.ao 30 [.row 5]),(5,.row 3 1 ((v2c.set (n0:Int).toNat (IntKind.i64.wrap (v0c + 1))).map eI)),(6,.box 56 [.sl 1 (v3c.map (eL 2 aQ))]),(7,.ao 80 [.gK 53 [] [.ptr 1 0,.ptr 2 0,.ptr 4 0,.ptr 6 0,.ptr 7 0,.ptr 8 0,.ptr 10 0]]),(8,.ao 30 [.row 9]),(9,.row 3 1 (v5c.map eI)),(10,.ao 30 [.row 11]),(11,.row 3 1 (v6c.map eI))]⟩) (fun z=>z) ?_ ?_
 ·refine ab.seq (ab.aa ?_)
  refine Oc om (Oc (lh rfl rfl) ?_)
  refine ae.ag ⟨[(0,_),(1,_),(3,_),(4,_),(5,_),(6,_),(7,_),(8,_),(11,_),(25,B (decide (0 ≤ by0)))],[(1,_),(2,_),(3,_),(4,_),(5,_),(6,_),(7,_),(8,_),(9,_),(10,_),(11,_)]⟩ rfl (ab.ite h4 rfl (fun _ h4=>?_) (fun _ h4=>?_))
  ·refine ab.aa (Oc oa (ae.nil ?_))
   exact Fin.join [0,1,3,4,5,6,7,8,11] [1,2,3,4,5,6,7,8,9,10,11] 1 (Option.some.inj h4) rfl
  ·refine ab.skip ?_
   exact Fin.join [0,1,3,4,5,6,7,8,11] [1,2,3,4,5,6,7,8,9,10,11] 0 (Option.some.inj h4) rfl
 ·rintro parts_3 hv
  subst v3
  obtain ⟨v5,h6,h⟩:=aL h
  refine ab.cM (v:=v5) (un6 fun (xf0_4:List Int) (parts_5:Int) (y_6:Int) (yf0_7:List Int) (yf0_8:List Int) (yf0f0_9:List Int)=>⟨[(0,I n0),(8,Pt 10 0),(11,I parts_5)],[(1,.box 3 [.i y_6]),(2,.ao 30 [.row 3]),(3,.row 3 1 (yf0_7.map eI)),(4,.ao 30 [.row 5]),(5,.row 3 1 (yf0_8.map eI)),(6,.box 56 [.sl 1 (v3c.map (eL 2 aQ))]),(7,.ao 80 [.gK 53 [] [.ptr 1 0,.ptr 2 0,.ptr 4 0,.ptr 6 0,.ptr 7 0,.ptr 8 0,.ptr 10 0]]),(8,.ao 30 [.row 9]),(9,.row 3 1 (yf0f0_9.map eI)),(10,.ao 30 [.row 11]),(11,.row 3 1 (xf0_4.map eI))]⟩) (fun z=>z) ?_ ?_
  ·refine ab.seq (ab.aa ?_)
   refine Oc (bp rj rfl rfl rfl) (Oc om ?_)
   obtain ⟨x_10,e7,h6⟩:=aL h6
   refine Oc (aK la (aH e7) (aJ (e:=(eL 2 aQ)) e7) rfl rfl) (Oc (aG kC rfl rfl) (Oc (aw und58 rfl (List.length_map _)) (Oc om ?_)))
   refine ae.ag ⟨[(0,_),(1,_),(3,_),(4,_),(6,_),(7,_),(8,_),(11,_),(29,.b (.one (.sl 2 (x_10.map aQ)))),(30,I (x_10.length:Int)),(31,I 0)],[(1,_),(2,_),(3,_),(4,_),(5,_),(6,_),(7,_),(8,_),(9,_),(10,_),(11,_)]⟩ rfl (ab.block (ab.cE h6 (un7 fun (xf0_11:List Int) (xf0_12:List Int) (xf0_13:Int) (xf0f0_14:List Int) (xf0f0_15:List Int) (parts_16:Int) (x_17:Int)=>⟨[(0,I n0),(1,I by0),(3,Pt 2 0),(4,Pt 4 0),(6,Pt 7 0),(7,Pt 8 0),(8,Pt 10 0),(11,I parts_16),(29,.b (.one (.sl 2 (x_10.map aQ)))),(30,I (x_10.length:Int)),(31,I x_17)],[(1,.box 3 [.i xf0_13]),(2,.ao 30 [.row 3]),(3,.row 3 1 (xf0_11.map eI)),(4,.ao 30 [.row 5]),(5,.row 3 1 (xf0_12.map eI)),(6,.box 56 [.sl 1 (v3c.map (eL 2 aQ))]),(7,.ao 80 [.gK 53 [] [.ptr 1 0,.ptr 2 0,.ptr 4 0,.ptr 6 0,.ptr 7 0,.ptr 8 0,.ptr 10 0]]),(8,.ao 30 [.row 9]),(9,.row 3 1 (xf0f0_14.map eI)),(10,.ao 30 [.row 11]),(11,.row 3 1 (xf0f0_15.map eI))]⟩) [0,1,3,4,6,7,8,11,29,30,31] [1,2,3,4,5,6,7,8,9,10,11] rfl ?_))
   rintro ⟨xf0_11,xf0_12,xf0_13,xf0f0_14,xf0f0_15,parts_16,x_17⟩ o8 h9 hy10
   refine ab.seq (ab.aa ?_)
   refine Oc (bt rfl rfl) (ae.ag ⟨[(0,_),(1,_),(3,_),(4,_),(6,_),(7,_),(8,_),(11,_),(29,_),(30,_),(31,_),(32,B (decide (x_17 < (x_10.length:Int))))],[(1,_),(2,_),(3,_),(4,_),(5,_),(6,_),(7,_),(8,_),(9,_),(10,_),(11,_)]⟩ rfl (ab.seq (ab.ite h9 rfl (fun _ h9=>?_) (fun _ h9=>?_))))
   ·refine ab.skip (Fin.af ⟨[(0,_),(1,_),(3,_),(4,_),(6,_),(7,_),(8,_),(11,_),(29,_),(30,_),(31,_)],[(1,_),(2,_),(3,_),(4,_),(5,_),(6,_),(7,_),(8,_),(9,_),(10,_),(11,_)]⟩ rfl (Fin.then ?_))
    obtain ⟨v11,h12,h9⟩:=aL h9
    refine ab.cM (v:=v11) (un6 fun (xf0_24:List Int) (xf0_25:List Int) (xf0_26:Int) (xf0f0_27:List Int) (xf0f0_28:List Int) (parts_29:Int)=>⟨[(0,I n0),(1,I by0),(3,Pt 2 0),(4,Pt 4 0),(6,Pt 7 0),(7,Pt 8 0),(8,Pt 10 0),(11,I parts_29),(29,.b (.one (.sl 2 (x_10.map aQ)))),(30,I (x_10.length:Int)),(31,I x_17)],[(1,.box 3 [.i xf0_26]),(2,.ao 30 [.row 3]),(3,.row 3 1 (xf0_24.map eI)),(4,.ao 30 [.row 5]),(5,.row 3 1 (xf0_25.map eI)),(6,.box 56 [.sl 1 (v3c.map (eL 2 aQ))]),(7,.ao 80 [.gK 53 [] [.ptr 1 0,.ptr 2 0,.ptr 4 0,.ptr 6 0,.ptr 7 0,.ptr 8 0,.ptr 10 0]]),(8,.ao 30 [.row 9]),(9,.row 3 1 (xf0f0_27.map eI)),(10,.ao 30 [.row 11]),(11,.row 3 1 (xf0f0_28.map eI))]⟩) (fun z=>z) ?_ ?_
    ·refine ab.block (ab.seq (ab.aa ?_))
     obtain ⟨x_30,e13,h12⟩:=aL h12
     refine Oc (aK mw (aH e13) (aJ (e:=aQ) e13) rfl rfl) (Oc (iZ nq rfl rfl rfl) (Oc (bh (k:=101) pP rfl) (Oc (lq nq rfl rfl rfl rfl (Nat.le_of_ble_eq_true rfl) rfl) ?_)))
     refine ae.ag ⟨[(0,_),(1,_),(3,_),(4,_),(6,_),(7,_),(8,_),(11,_),(13,Pt 101 0),(29,_),(30,_),(31,_)],[(1,_),(2,_),(3,_),(4,_),(5,_),(6,_),(7,_),(8,_),(9,_),(10,_),(11,_),(101,.box 60 (aQ x_30))]⟩ rfl (ab.block (ab.seq (ab.aa ?_)))
     refine Oc (bN mJ rfl rfl) (Oc (bp az rfl rfl rfl) (Oc om (Oc (dP rfl rfl) (Oc oa ?_))))
     refine ae.ag ⟨[(0,_),(1,_),(3,_),(4,_),(6,_),(7,_),(8,_),(11,_),(13,_),(29,_),(30,_),(31,_),(81,B (decide (x_30.pos = by0)))],[(1,_),(2,_),(3,_),(4,_),(5,_),(6,_),(7,_),(8,_),(9,_),(10,_),(11,_),(101,_)]⟩ rfl (ab.ite h12 rfl (fun _ h12=>?_) (fun _ h12=>?_))
     ·refine ab.skip (Fin.ah (Fin.ah ?_))
      exact Fin.join [0,1,3,4,6,7,8,11,29,30,31] [1,2,3,4,5,6,7,8,9,10,11] (xf0_11,xf0_12,xf0_13,xf0f0_14,xf0f0_15,parts_16) (Option.some.inj h12) rfl
     ·refine ab.seq (ab.aa ?_)
      refine Oc (aS aZ rfl rfl rfl) (Oc (bN eD rfl rfl) (Oc (bp az rfl rfl rfl) ?_))
      obtain ⟨x_31,e14,h12⟩:=aL h12
      refine Oc (ar aq (aH e14) (aW e14) rfl rfl rfl rfl) (Oc (aO (i:=(x_30.to:Int).toNat) (f:=0) az rfl rfl rfl (aJ (e:=eI) e14) rfl) (Oc (iH rfl rfl) (Oc oa ?_)))
      refine ae.ag ⟨[(0,_),(1,_),(3,_),(4,_),(6,_),(7,_),(8,_),(11,_),(13,_),(29,_),(30,_),(31,_),(86,B (decide (0 < x_31)))],[(1,_),(2,_),(3,_),(4,_),(5,_),(6,_),(7,_),(8,_),(9,_),(10,_),(11,_),(101,_)]⟩ rfl (ab.ite h12 rfl (fun _ h12=>?_) (fun _ h12=>?_))
      ·refine ab.af ⟨[(0,_),(1,_),(3,_),(4,_),(6,_),(7,_),(8,_),(11,_),(13,_),(29,_),(30,_),(31,_)],[(1,_),(2,_),(3,_),(4,_),(5,_),(6,_),(7,_),(8,_),(9,_),(10,_),(11,_),(101,_)]⟩ rfl ?_
       obtain ⟨x_32,e15,h12⟩:=aL h12
       obtain ⟨x_33,e16,h12⟩:=aL h12
       obtain ⟨x_34,e17,h12⟩:=aL h12
       refine ab.lV mixed 13 [.b (.row 5),I n0,.b (.row 5),I n0,.b (.bw 5 ((n0:Int).toNat * 1)),I x_32,.b (.row 3),Pt 101 0,I x_30.to,.b (.bw 3 ((x_30.to:Int).toNat * 1)),I x_33,I (min x_32 x_33),.b (.bw 5 ((n0:Int).toNat * 1))] [0,1,3,4,6,7,8,11,29,30,31] [1,2,3,4,5,6,7,8,9,10,11] (s':=⟨[(0,_),(1,_),(3,_),(4,_),(6,_),(7,_),(8,_),(11,_),(29,_),(30,_),(31,_)],[(1,_),(2,_),(3,_),(4,_),(5,.row 3 1 ((xf0_12.set (n0:Int).toNat (min x_32 x_33)).map eI)),(6,_),(7,_),(8,_),(9,_),(10,_),(11,_)]⟩) rfl ⟨fun _=>.p (aS aZ rfl rfl rfl),fun _=>.p om,fun _=>.p (aS aZ rfl rfl rfl),fun _=>.p om,fun _=>.p (ar aq (aH e15) (aW e15) rfl rfl rfl rfl),fun _=>.p (aO (i:=(n0:Int).toNat) (f:=0) az rfl rfl rfl (aJ (e:=eI) e15) rfl),fun _=>.p (aS aZ rfl rfl rfl),fun _=>.p (bN eD rfl rfl),fun _=>.p (bp az rfl rfl rfl),fun _=>.p (ar aq (aH e16) (aW e16) rfl rfl rfl rfl),fun _=>.p (aO (i:=(x_30.to:Int).toNat) (f:=0) az rfl rfl rfl (aJ (e:=eI) e16) rfl),fun _=>.p (qC rfl rfl),fun _=>.p (ar aq (aH e17) (aW e17) rfl rfl rfl rfl),trivial⟩ ⟨_,by exact .p (bM (i:=(n0:Int).toNat) az rfl rfl rfl rfl (fl e17) (map_set _ _ _ _)),rfl⟩ rfl (Fin.ah (Fin.ah ?_))
       exact Fin.join [0,1,3,4,6,7,8,11,29,30,31] [1,2,3,4,5,6,7,8,9,10,11] (xf0_11,xf0_12.set (n0:Int).toNat (min x_32 x_33),xf0_13,xf0f0_14,xf0f0_15,parts_16) (Option.some.inj h12) rfl
      ·refine ab.seq (ab.aa ?_)
       refine Oc (aS pd rfl rfl rfl) (Oc (bN eD rfl rfl) (Oc (bp az rfl rfl rfl) (Oc (bN mJ rfl rfl) (Oc (bp az rfl rfl rfl) ?_))))
       obtain ⟨⟨x_35,x_36,x_37,x_38,x_39⟩,e18,h12⟩:=aL h12
       refine Oc (pV (own_a:=[(1,_),(2,_),(3,_),(4,_),(5,_),(6,_),(7,_),(8,_),(9,_),(10,_),(11,_)]) (ay.cast (own2:=[(1,.box 3 [.i xf0_13]),(2,.ao 30 [.row 3]),(3,.row 3 1 (xf0_11.map eI)),(4,.ao 30 [.row 5]),(5,.row 3 1 (xf0_12.map eI)),(6,.box 56 [.sl 1 (v3c.map (eL 2 aQ))]),(7,.ao 80 [.gK 53 [] [.ptr 1 0,.ptr 2 0,.ptr 4 0,.ptr 6 0,.ptr 7 0,.ptr 8 0,.ptr 10 0]]),(8,.ao 30 [.row 9]),(9,.row 3 1 (xf0f0_14.map eI)),(10,.ao 30 [.row 11]),(11,.row 3 1 (xf0f0_15.map eI))]) (args2:=[.one (.i x_30.to),.one (.i x_30.pos),.ptr 1 0,.ptr 2 0,.ptr 4 0,.ptr 6 0,.ptr 7 0,.ptr 8 0,.ptr 10 0]) (own2':=[(1,.box 3 [.i x_35]),(2,.ao 30 [.row 3]),(3,.row 3 1 (x_36.map eI)),(4,.ao 30 [.row 5]),(5,.row 3 1 (x_37.map eI)),(6,.box 56 [.sl 1 (v3c.map (eL 2 aQ))]),(7,.ao 80 [.gK 53 [] [.ptr 1 0,.ptr 2 0,.ptr 4 0,.ptr 6 0,.ptr 7 0,.ptr 8 0,.ptr 10 0]]),(8,.ao 30 [.row 9]),(9,.row 3 1 (x_38.map eI)),(10,.ao 30 [.row 11]),(11,.row 3 1 (x_39.map eI))]) (res2:=.eJ []) (ih e18) (by kernel_rfl) (by kernel_rfl) (by kernel_rfl) (by kernel_rfl)) sY rfl rfl rfl ⟨rfl,rfl,rfl,rfl,rfl,rfl,rfl,rfl,rfl,rfl,rfl,trivial⟩ rfl rfl) (ae.af ⟨[(0,I n0),(1,I by0),(3,Pt 2 0),(4,Pt 4 0),(6,Pt 7 0),(7,Pt 8 0),(8,Pt 10 0),(11,I parts_16),(13,Pt 101 0),(29,.b (.one (.sl 2 (x_10.map aQ)))),(30,I (x_10.length:Int)),(31,I x_17),(35,.b (.gK 53 [] [.ptr 1 0,.ptr 2 0,.ptr 4 0,.ptr 6 0,.ptr 7 0,.ptr 8 0,.ptr 10 0])),(36,Pt 101 0),(37,I x_30.to),(38,Pt 101 1),(39,I x_30.pos),(40,.eJ []),(86,B (decide (0 < x_31)))],[(1,.box 3 [.i x_35]),(2,.ao 30 [.row 3]),(3,.row 3 1 (x_36.map eI)),(4,.ao 30 [.row 5]),(5,.row 3 1 (x_37.map eI)),(6,.box 56 [.sl 1 (v3c.map (eL 2 aQ))]),(7,.ao 80 [.gK 53 [] [.ptr 1 0,.ptr 2 0,.ptr 4 0,.ptr 6 0,.ptr 7 0,.ptr 8 0,.ptr 10 0]]),(8,.ao 30 [.row 9]),(9,.row 3 1 (x_38.map eI)),(10,.ao 30 [.row 11]),(11,.row 3 1 (x_39.map eI)),(101,.box 60 (aQ x_30))]⟩ (by kernel_rfl) (ae.ag ⟨[(0,_),(1,_),(3,_),(4,_),(6,_),(7,_),(8,_),(11,_),(13,_),(29,_),(30,_),(31,_)],[(1,_),(2,_),(3,_),(4,_),(5,_),(6,_),(7,_),(8,_),(9,_),(10,_),(11,_),(101,_)]⟩ rfl (ab.seq ?_)))
       obtain ⟨x_40,e19,h12⟩:=aL h12
       obtain ⟨x_41,e20,h12⟩:=aL h12
       obtain ⟨x_42,e21,h12⟩:=aL h12
       refine ab.eC mixed 13 [.b (.row 5),I n0,.b (.row 5),I n0,.b (.bw 5 ((n0:Int).toNat * 1)),I x_40,.b (.row 5),Pt 101 0,I x_30.to,.b (.bw 5 ((x_30.to:Int).toNat * 1)),I x_41,I (min x_40 x_41),.b (.bw 5 ((n0:Int).toNat * 1))] [0,1,3,4,6,7,8,11,13,29,30,31] [1,2,3,4,5,6,7,8,9,10,11,101] (s':=⟨[(0,_),(1,_),(3,_),(4,_),(6,_),(7,_),(8,_),(11,_),(13,_),(29,_),(30,_),(31,_)],[(1,_),(2,_),(3,_),(4,_),(5,.row 3 1 ((x_37.set (n0:Int).toNat (min x_40 x_41)).map eI)),(6,_),(7,_),(8,_),(9,_),(10,_),(11,_),(101,_)]⟩) rfl ⟨fun _=>.p (aS aZ rfl rfl rfl),fun _=>.p om,fun _=>.p (aS aZ rfl rfl rfl),fun _=>.p om,fun _=>.p (ar aq (aH e19) (aW e19) rfl rfl rfl rfl),fun _=>.p (aO (i:=(n0:Int).toNat) (f:=0) az rfl rfl rfl (aJ (e:=eI) e19) rfl),fun _=>.p (aS aZ rfl rfl rfl),fun _=>.p (bN eD rfl rfl),fun _=>.p (bp az rfl rfl rfl),fun _=>.p (ar aq (aH e20) (aW e20) rfl rfl rfl rfl),fun _=>.p (aO (i:=(x_30.to:Int).toNat) (f:=0) az rfl rfl rfl (aJ (e:=eI) e20) rfl),fun _=>.p (qC rfl rfl),fun _=>.p (ar aq (aH e21) (aW e21) rfl rfl rfl rfl),trivial⟩ ⟨_,by exact .p (bM (i:=(n0:Int).toNat) az rfl rfl rfl rfl (fl e21) (map_set _ _ _ _)),rfl⟩ rfl ?_
       obtain ⟨v22,h23,h12⟩:=aL h12
       refine ab.cM (v:=v22) (fun (parts_43:Int)=>⟨[(0,I n0),(1,I by0),(3,Pt 2 0),(4,Pt 4 0),(6,Pt 7 0),(7,Pt 8 0),(8,Pt 10 0),(11,I parts_43),(13,Pt 101 0),(29,.b (.one (.sl 2 (x_10.map aQ)))),(30,I (x_10.length:Int)),(31,I x_17)],[(1,.box 3 [.i x_35]),(2,.ao 30 [.row 3]),(3,.row 3 1 (x_36.map eI)),(4,.ao 30 [.row 5]),(5,.row 3 1 ((x_37.set (n0:Int).toNat (min x_40 x_41)).map eI)),(6,.box 56 [.sl 1 (v3c.map (eL 2 aQ))]),(7,.ao 80 [.gK 53 [] [.ptr 1 0,.ptr 2 0,.ptr 4 0,.ptr 6 0,.ptr 7 0,.ptr 8 0,.ptr 10 0]]),(8,.ao 30 [.row 9]),(9,.row 3 1 (x_38.map eI)),(10,.ao 30 [.row 11]),(11,.row 3 1 (x_39.map eI)),(101,.box 60 (aQ x_30))]⟩) (fun z=>z) ?_ ?_
       ·refine ab.seq (ab.af ⟨[(0,_),(1,_),(3,_),(4,_),(6,_),(7,_),(8,_),(11,_),(13,_),(29,_),(30,_),(31,_)],[(1,_),(2,_),(3,_),(4,_),(5,_),(6,_),(7,_),(8,_),(9,_),(10,_),(11,_),(101,_)]⟩ rfl ?_)
        obtain ⟨x_44,e24,h23⟩:=aL h23
        obtain ⟨x_45,e25,h23⟩:=aL h23
        refine ab.eC mixed 10 [.b (.row 5),Pt 101 0,I x_30.to,.b (.bw 5 ((x_30.to:Int).toNat * 1)),I x_44,.b (.row 3),I n0,.b (.bw 3 ((n0:Int).toNat * 1)),I x_45,B (decide (x_45 ≤ x_44))] [0,1,3,4,6,7,8,11,13,29,30,31,63] [1,2,3,4,5,6,7,8,9,10,11,101] (s':=⟨[(0,_),(1,_),(3,_),(4,_),(6,_),(7,_),(8,_),(11,_),(13,_),(29,_),(30,_),(31,_),(63,B (decide (x_45 ≤ x_44)))],[(1,_),(2,_),(3,_),(4,_),(5,_),(6,_),(7,_),(8,_),(9,_),(10,_),(11,_),(101,_)]⟩) rfl ⟨fun _=>.p (aS aZ rfl rfl rfl),fun _=>.p (bN eD rfl rfl),fun _=>.p (bp az rfl rfl rfl),fun _=>.p (ar aq (aH e24) (aW e24) rfl rfl rfl rfl),fun _=>.p (aO (i:=(x_30.to:Int).toNat) (f:=0) az rfl rfl rfl (aJ (e:=eI) e24) rfl),fun _=>.p (aS aZ rfl rfl rfl),fun _=>.p om,fun _=>.p (ar aq (aH e25) (aW e25) rfl rfl rfl rfl),fun _=>.p (aO (i:=(n0:Int).toNat) (f:=0) az rfl rfl rfl (aJ (e:=eI) e25) rfl),fun _=>.p (lh rfl rfl),trivial⟩ rfl rfl (ab.ite h23 rfl (fun _ h23=>?_) (fun _ h23=>?_))
        ·refine ab.aa (Oc om (Oc (aU rfl rfl) (Oc oa ?_)))
         refine ae.nil ?_
         exact Fin.join [0,1,3,4,6,7,8,11,13,29,30,31] [1,2,3,4,5,6,7,8,9,10,11,101] (IntKind.i64.wrap (parts_16 + 1)) (Option.some.inj h23) rfl
        ·refine ab.skip ?_
         exact Fin.join [0,1,3,4,6,7,8,11,13,29,30,31] [1,2,3,4,5,6,7,8,9,10,11,101] parts_16 (Option.some.inj h23) rfl
       ·rintro parts_43 hv
        subst v22
        refine ab.seq (ab.af ⟨[(0,_),(1,_),(3,_),(4,_),(6,_),(7,_),(8,_),(11,_),(13,_),(29,_),(30,_),(31,_)],[(1,_),(2,_),(3,_),(4,_),(5,_),(6,_),(7,_),(8,_),(9,_),(10,_),(11,_),(101,_)]⟩ rfl ?_)
        obtain ⟨x_46,e26,h12⟩:=aL h12
        obtain ⟨x_47,e27,h12⟩:=aL h12
        refine ab.eC mixed 10 [.b (.row 5),Pt 101 0,I x_30.to,.b (.bw 5 ((x_30.to:Int).toNat * 1)),I x_46,.b (.row 3),I n0,.b (.bw 3 ((n0:Int).toNat * 1)),I x_47,B (decide (x_47 < x_46))] [0,1,3,4,6,7,8,11,13,29,30,31,75] [1,2,3,4,5,6,7,8,9,10,11,101] (s':=⟨[(0,_),(1,_),(3,_),(4,_),(6,_),(7,_),(8,_),(11,_),(13,_),(29,_),(30,_),(31,_),(75,B (decide (x_47 < x_46)))],[(1,_),(2,_),(3,_),(4,_),(5,_),(6,_),(7,_),(8,_),(9,_),(10,_),(11,_),(101,_)]⟩) rfl ⟨fun _=>.p (aS aZ rfl rfl rfl),fun _=>.p (bN eD rfl rfl),fun _=>.p (bp az rfl rfl rfl),fun _=>.p (ar aq (aH e26) (aW e26) rfl rfl rfl rfl),fun _=>.p (aO (i:=(x_30.to:Int).toNat) (f:=0) az rfl rfl rfl (aJ (e:=eI) e26) rfl),fun _=>.p (aS aZ rfl rfl rfl),fun _=>.p om,fun _=>.p (ar aq (aH e27) (aW e27) rfl rfl rfl rfl),fun _=>.p (aO (i:=(n0:Int).toNat) (f:=0) az rfl rfl rfl (aJ (e:=eI) e27) rfl),fun _=>.p (iH rfl rfl),trivial⟩ rfl rfl (ab.ite h12 rfl (fun _ h12=>?_) (fun _ h12=>?_))
        ·refine ab.aa (Oc (aS aZ rfl rfl rfl) (Oc (bN mJ rfl rfl) (Oc (bp az rfl rfl rfl) (Oc (aF (k:=102) (es:=[x_30.pos].map eI) aq rfl rfl (bf fun _=>rfl) rfl (by decide) (by decide) rfl) ?_))))
         refine ae.forget 8 0 rfl ?_
         obtain ⟨x_48,e28,h12⟩:=aL h12
         refine Oc (cF aq (fp e28) (fo e28) rfl rfl rfl rfl (c5 e28) rfl) (Oc (dM aZ rfl rfl rfl rfl (Nat.le_of_ble_eq_true rfl) rfl) ?_)
         refine ae.nil (Fin.ah (Fin.ah ?_))
         exact Fin.join [0,1,3,4,6,7,8,11,29,30,31] [1,2,3,4,5,6,7,8,9,10,11] (x_36,x_37.set (n0:Int).toNat (min x_40 x_41),x_35,x_48,x_39,parts_43) (Option.some.inj h12) rfl
        ·refine ab.skip (Fin.ah (Fin.ah ?_))
         exact Fin.join [0,1,3,4,6,7,8,11,29,30,31] [1,2,3,4,5,6,7,8,9,10,11] (x_36,x_37.set (n0:Int).toNat (min x_40 x_41),x_35,x_38,x_39,parts_43) (Option.some.inj h12) rfl
    ·rintro ⟨xf0_24,xf0_25,xf0_26,xf0f0_27,xf0f0_28,parts_29⟩ hv
     subst v11
     refine ab.aa (Oc (aU rfl rfl) (Oc om ?_))
     refine ae.nil ?_
     exact Fin.bG [0,1,3,4,6,7,8,11,29,30,31] [1,2,3,4,5,6,7,8,9,10,11] (xf0_24,xf0_25,xf0_26,xf0f0_27,xf0f0_28,parts_29,IntKind.i64.wrap (x_17 + 1)) (Option.some.inj h9) rfl
   ·refine ab.exit (Fin.ai ?_)
    obtain rfl:=hy10 _ (Option.some.inj h9).symm
    refine Fin.ai (Fin.aB ?_)
    exact Fin.join [0,8,11] [1,2,3,4,5,6,7,8,9,10,11] (xf0f0_15,parts_16,xf0_13,xf0_11,xf0_12,xf0f0_14) rfl rfl
  ·rintro ⟨xf0_4,parts_5,y_6,yf0_7,yf0_8,yf0f0_9⟩ hv
   subst v5
   refine ab.seq (ab.aa ?_)
   refine Oc om (Oc (iH rfl rfl) ?_)
   refine ae.ag ⟨[(0,_),(8,_),(108,B (decide (1 < parts_5)))],[(1,_),(2,_),(3,_),(4,_),(5,_),(6,_),(7,_),(8,_),(9,_),(10,_),(11,_)]⟩ rfl (ab.ite h rfl (fun _ h=>?_) (fun _ h=>?_))
   ·refine ab.aa (Oc (aS aZ rfl rfl rfl) (Oc om (Oc (aF (k:=103) (es:=[n0].map eI) aq rfl rfl (bf fun _=>rfl) rfl (by decide) (by decide) rfl) ?_)))
    refine ae.forget 10 0 rfl ?_
    obtain ⟨x_49,e29,h⟩:=aL h
    refine Oc (cF aq (fp e29) (fo e29) rfl rfl rfl rfl (c5 e29) rfl) (Oc (dM aZ rfl rfl rfl rfl (Nat.le_of_ble_eq_true rfl) rfl) ?_)
    refine ae.nil ?_
    obtain rfl:=Option.some.inj h
    refine Fin.af ⟨[],[(1,.box 3 [.i y_6]),(2,.ao 30 [.row 3]),(3,.row 3 1 (yf0_7.map eI)),(4,.ao 30 [.row 5]),(5,.row 3 1 (yf0_8.map eI)),(6,.box 56 [.sl 1 (v3c.map (eL 2 aQ))]),(7,.ao 80 [.gK 53 [] [.ptr 1 0,.ptr 2 0,.ptr 4 0,.ptr 6 0,.ptr 7 0,.ptr 8 0,.ptr 10 0]]),(8,.ao 30 [.row 9]),(9,.row 3 1 (yf0f0_9.map eI)),(10,.ao 30 [.row 11]),(11,.row 3 1 (x_49.map eI))]⟩ rfl ?_
    exact Fin.result [] (.inr rfl) rfl (.nil) ⟨rfl,rfl⟩
   ·refine ab.skip ?_
    obtain rfl:=Option.some.inj h
    refine Fin.af ⟨[],[(1,_),(2,_),(3,_),(4,_),(5,_),(6,_),(7,_),(8,_),(9,_),(10,_),(11,_)]⟩ rfl ?_
    exact Fin.result [] (.inr rfl) rfl (.nil) ⟨rfl,rfl⟩
theorem ly {F:Nat} {n0:Int} {by0:Int} {v0c:Int} {v1c:List Int} {v2c:List Int} {v3c:List (List jh)} {v5c:List Int} {v6c:List Int} {r:Int × (List Int) × (List Int) × (List Int) × (List Int)} (h:jL F n0 by0 v0c v1c v2c v3c v5c v6c = some r):ay Try.prog [] 53 [(1,.box 3 [.i v0c]),(2,.ao 30 [.row 3]),(3,.row 3 1 (v1c.map eI)),(4,.ao 30 [.row 5]),(5,.row 3 1 (v2c.map eI)),(6,.box 56 [.sl 1 (v3c.map (eL 2 aQ))]),(7,.ao 80 [.gK 53 [] [.ptr 1 0,.ptr 2 0,.ptr 4 0,.ptr 6 0,.ptr 7 0,.ptr 8 0,.ptr 10 0]]),(8,.ao 30 [.row 9]),(9,.row 3 1 (v5c.map eI)),(10,.ao 30 [.row 11]),(11,.row 3 1 (v6c.map eI))] [.one (.i n0),.one (.i by0),.ptr 1 0,.ptr 2 0,.ptr 4 0,.ptr 6 0,.ptr 7 0,.ptr 8 0,.ptr 10 0] (Is [(1,.box 3 [.i r.1]),(2,.ao 30 [.row 3]),(3,.row 3 1 (r.2.1.map eI)),(4,.ao 30 [.row 5]),(5,.row 3 1 (r.2.2.1.map eI)),(6,.box 56 [.sl 1 (v3c.map (eL 2 aQ))]),(7,.ao 80 [.gK 53 [] [.ptr 1 0,.ptr 2 0,.ptr 4 0,.ptr 6 0,.ptr 7 0,.ptr 8 0,.ptr 10 0]]),(8,.ao 30 [.row 9]),(9,.row 3 1 (r.2.2.2.1.map eI)),(10,.ao 30 [.row 11]),(11,.row 3 1 (r.2.2.2.2.map eI))] (.eJ [])):=kO F h
end Go.Proofs.Ytgojigdbelkgoaa

