/- printed walks -/
import Derived.Test.YtgojigdbelkgoaaT1
namespace Go.Proofs.Ytgojigdbelkgoaa
open Go.Sk Go
set_option maxHeartbeats 4000000
set_option maxRecDepth 4000
set_option linter.unusedSimpArgs false
set_option linter.unusedVariables false
theorem undi97:Try.prog.underlying 97 = some (.int .u64):=Try.underlying97
theorem undi5:Try.prog.underlying 5 = some (.int .u8):=Try.underlying5
theorem und9:Try.prog.underlying 9 = some .string:=Try.underlying9
theorem jk:Try.prog.underlying 3 = some (.int .i64):=Try.underlying3
theorem goes69:dd Try.prog 69:=⟨Try.call69⟩
theorem goes59:dd Try.prog 59:=⟨Try.call59⟩
theorem fX:Try.prog.underlying 30 = some (.slice 3):=Try.underlying30
theorem gL:Try.prog.underlying 63 = some (.int .u64):=Try.underlying63
theorem goes56:dd Try.prog 56:=⟨Try.call56⟩
theorem goes55:dd Try.prog 55:=⟨Try.call55⟩
theorem cY:Try.prog.underlying 22 = some (.slice 4):=Try.underlying22
theorem oW:Try.prog.underlying 23 = some (.slice 44):=Try.underlying23
theorem qE:cD Try.prog 22:=⟨⟨_,Try.underlying22,rfl⟩,⟨Try.t22,by kernel_rfl,by kernel_rfl⟩⟩
theorem ow:cD Try.prog 73:=⟨⟨_,Try.underlying73,rfl⟩,⟨Try.t73,by kernel_rfl,by kernel_rfl⟩⟩
theorem eQ:rT Try.prog 44 3 2 1:=⟨Try.underlying44,⟨Try.t3,by kernel_rfl,by kernel_rfl⟩⟩
theorem au:cD Try.prog 3:=⟨⟨_,Try.underlying3,rfl⟩,⟨Try.t3,by kernel_rfl,by kernel_rfl⟩⟩
theorem se:dd Try.prog 45:=⟨Try.call45⟩
theorem gO:fD Try.prog 23 44 2 16 ((cR .i64) A2.zero):=⟨Try.underlying23,⟨Try.t44,_,by kernel_rfl,rfl,rfl,rfl,rfl,by decide,rfl⟩⟩
theorem ox:gK Try.prog 44 2:=⟨⟨_,Try.underlying44,rfl⟩,⟨Try.t44,by kernel_rfl,by kernel_rfl⟩⟩
theorem goes47:dd Try.prog 47:=⟨Try.call47⟩
theorem goes54:dd Try.prog 54:=⟨Try.call54⟩
theorem sD:iT Try.prog 73 [.raw .nilFunc]:=⟨⟨Try.t73,_,by kernel_rfl,rfl,rfl⟩⟩
theorem goes46:dd Try.prog 46:=⟨Try.call46⟩
theorem gD:lh Try.prog 52 0 0 50:=⟨⟨_,_,Try.t50,Try.underlying52,rfl,rfl,rfl,by kernel_rfl,by decide⟩⟩
theorem jY:cD Try.prog 50:=⟨⟨_,Try.underlying50,rfl⟩,⟨Try.t50,by kernel_rfl,by kernel_rfl⟩⟩
theorem lH:Try.prog.underlying 50 = some (.map 3 3):=Try.underlying50
theorem dO:nN Try.prog 50 3 3 .i64 (.i 0):=⟨Try.underlying50,Try.underlying3,⟨Try.t3,_,by kernel_rfl,rfl,fun _=>⟨rfl,by decide,by decide⟩⟩⟩
theorem cN:gK Try.prog 52 1:=⟨⟨_,Try.underlying52,rfl⟩,⟨Try.t52,by kernel_rfl,by kernel_rfl⟩⟩
theorem lO:dd Try.prog 48:=⟨Try.call48⟩
theorem sF:iT Try.prog 44 ((cR .i64) A2.zero):=⟨⟨Try.t44,_,by kernel_rfl,rfl,rfl⟩⟩
theorem fI:fD Try.prog 22 4 1 1 [.bool false]:=⟨Try.underlying22,⟨Try.t4,_,by kernel_rfl,rfl,rfl,rfl,rfl,by decide,rfl⟩⟩
theorem gP:cD Try.prog 4:=⟨⟨_,Try.underlying4,rfl⟩,⟨Try.t4,by kernel_rfl,by kernel_rfl⟩⟩
theorem ak:fD Try.prog 30 3 1 8 [.i 0]:=⟨Try.underlying30,⟨Try.t3,_,by kernel_rfl,rfl,rfl,rfl,rfl,by decide,rfl⟩⟩
theorem mixed:Try.prog.follows .mixedOrders = true:=by kernel_rfl
theorem iE:iT Try.prog 52 [.raw (.map none)]:=⟨⟨Try.t52,_,by kernel_rfl,rfl,rfl⟩⟩
theorem nS:mT Try.prog 52 [(0,1)] [.raw (.map none)]:=⟨⟨Try.t52,_,_,by kernel_rfl,rfl,rfl,Try.underlying52,by kernel_rfl⟩⟩
theorem sd:dd Try.prog 49:=⟨Try.call49⟩
theorem sf:dd Try.prog 44:=⟨Try.call44⟩
theorem oq:dd Try.prog 50:=⟨Try.call50⟩
theorem mo:Try.prog.underlying 26 = some (.slice 30):=Try.underlying26
theorem dR:fD Try.prog 26 30 1 24 [.nil]:=⟨Try.underlying26,⟨Try.t30,_,by kernel_rfl,rfl,rfl,rfl,rfl,by decide,rfl⟩⟩
theorem aZ:cD Try.prog 30:=⟨⟨_,Try.underlying30,rfl⟩,⟨Try.t30,by kernel_rfl,by kernel_rfl⟩⟩
theorem lQ:dd Try.prog 29:=⟨Try.call29⟩
theorem p9:dd Try.prog 30:=⟨Try.call30⟩
theorem p8:dd Try.prog 31:=⟨Try.call31⟩
theorem kL:fD Try.prog 56 58 1 24 [.nil]:=⟨Try.underlying56,⟨Try.t58,_,by kernel_rfl,rfl,rfl,rfl,rfl,by decide,rfl⟩⟩
theorem jX:cD Try.prog 58:=⟨⟨_,Try.underlying58,rfl⟩,⟨Try.t58,by kernel_rfl,by kernel_rfl⟩⟩
theorem nR:mT Try.prog 60 [(0,1),(1,1)] [.i 0,.i 0]:=⟨⟨Try.t60,_,_,by kernel_rfl,rfl,rfl,Try.underlying60,by kernel_rfl⟩⟩
theorem lI:fD Try.prog 58 60 2 16 [.i 0,.i 0]:=⟨Try.underlying58,⟨Try.t60,_,by kernel_rfl,rfl,rfl,rfl,rfl,by decide,rfl⟩⟩
theorem si:dd Try.prog 32:=⟨Try.call32⟩
theorem und58:Try.prog.underlying 58 = some (.slice 60):=Try.underlying58
theorem mM:gK Try.prog 60 2:=⟨⟨_,Try.underlying60,rfl⟩,⟨Try.t60,by kernel_rfl,by kernel_rfl⟩⟩
theorem pb:iT Try.prog 60 [.i 0,.i 0]:=⟨⟨Try.t60,_,by kernel_rfl,rfl,rfl⟩⟩
theorem ee:lh Try.prog 60 0 0 3:=⟨⟨_,_,Try.t3,Try.underlying60,rfl,rfl,rfl,by kernel_rfl,by decide⟩⟩
theorem sc:dd Try.prog 52:=⟨Try.call52⟩
theorem goes35:dd Try.prog 35:=⟨Try.call35⟩
theorem ot:dd Try.prog 34:=⟨Try.call34⟩
theorem p7:dd Try.prog 77:=⟨Try.call77⟩
theorem goes70:dd Try.prog 70:=⟨Try.call70⟩
theorem oo:dd Try.prog 58:=⟨Try.call58⟩
theorem sa:dd Try.prog 57:=⟨Try.call57⟩
theorem goes51:dd Try.prog 51:=⟨Try.call51⟩
theorem qa:dd Try.prog 13:=⟨Try.call13⟩
theorem ck:iT Try.prog 30 [.nil]:=⟨⟨Try.t30,_,by kernel_rfl,rfl,rfl⟩⟩
theorem qb:dd Try.prog 12:=⟨Try.call12⟩
theorem goes33:dd Try.prog 33:=⟨Try.call33⟩
theorem qD:cD Try.prog 56:=⟨⟨_,Try.underlying56,rfl⟩,⟨Try.t56,by kernel_rfl,by kernel_rfl⟩⟩
theorem lW:lh Try.prog 60 1 1 3:=⟨⟨_,_,Try.t3,Try.underlying60,rfl,rfl,rfl,by kernel_rfl,by decide⟩⟩
theorem ov:cD Try.prog 80:=⟨⟨_,Try.underlying80,rfl⟩,⟨Try.t80,by kernel_rfl,by kernel_rfl⟩⟩
theorem sb:dd Try.prog 53:=⟨Try.call53⟩
theorem sE:iT Try.prog 56 [.nil]:=⟨⟨Try.t56,_,by kernel_rfl,rfl,rfl⟩⟩
theorem tyZero3:iT Try.prog 3 [.i 0]:=⟨⟨Try.t3,_,by kernel_rfl,rfl,rfl⟩⟩
theorem sC:iT Try.prog 80 [.raw .nilFunc]:=⟨⟨Try.t80,_,by kernel_rfl,rfl,rfl⟩⟩
theorem sg:dd Try.prog 39:=⟨Try.call39⟩
theorem und41:Try.prog.underlying 41 = some (.slice 26):=Try.underlying41
theorem rX:fD Try.prog 41 26 1 24 [.nil]:=⟨Try.underlying41,⟨Try.t26,_,by kernel_rfl,rfl,rfl,rfl,rfl,by decide,rfl⟩⟩
theorem tyOne26:cD Try.prog 26:=⟨⟨_,Try.underlying26,rfl⟩,⟨Try.t26,by kernel_rfl,by kernel_rfl⟩⟩
theorem lS:dd Try.prog 19:=⟨Try.call19⟩
theorem fJ:pF Try.prog 44 1 ((cR .i64) A2.zero):=⟨⟨Try.t44,_,_,_,Try.t3,by kernel_rfl,rfl,rfl,Try.underlying44,by kernel_rfl,by kernel_rfl⟩⟩
theorem sm:dd Try.prog 14:=⟨Try.call14⟩
theorem goes20:dd Try.prog 20:=⟨Try.call20⟩
theorem goes22:dd Try.prog 22:=⟨Try.call22⟩
theorem goes21:dd Try.prog 21:=⟨Try.call21⟩
theorem goes27:dd Try.prog 27:=⟨Try.call27⟩
theorem sj:dd Try.prog 18:=⟨Try.call18⟩
theorem goes28:dd Try.prog 28:=⟨Try.call28⟩
theorem goes10:dd Try.prog 10:=⟨Try.call10⟩
theorem qc:dd Try.prog 11:=⟨Try.call11⟩
theorem und4:Try.prog.underlying 4 = some .bool:=Try.underlying4
def jh (F:Nat) (x0:Int):Option Int :=
 Option.bind (if (decide (4294967296 ≤ x0)) = true then (some (x0 / 4294967296,32)) else (some (x0,0))) (bL fun x_1 n_2=>Option.bind (if (decide (65536 ≤ x_1)) = true then (some (x_1 / 65536,IntKind.i64.wrap (n_2 + 16))) else (some (x_1,n_2))) (bL fun x_3 n_4=>Option.bind (if (decide (256 ≤ x_3)) = true then (some (x_3 / 256,IntKind.i64.wrap (n_4 + 8))) else (some (x_3,n_4))) (bL fun x_5 n_6=>(av ([0,1,2,2,3,3,3,3,4,4,4,4,4,4,4,4,5,5,5,5,5,5,5,5,5,5,5,5,5,5,5,5,6,6,6,6,6,6,6,6,6,6,6,6,6,6,6,6,6,6,6,6,6,6,6,6,6,6,6,6,6,6,6,6,7,7,7,7,7,7,7,7,7,7,7,7,7,7,7,7,7,7,7,7,7,7,7,7,7,7,7,7,7,7,7,7,7,7,7,7,7,7,7,7,7,7,7,7,7,7,7,7,7,7,7,7,7,7,7,7,7,7,7,7,7,7,7,7,8,8,8,8,8,8,8,8,8,8,8,8,8,8,8,8,8,8,8,8,8,8,8,8,8,8,8,8,8,8,8,8,8,8,8,8,8,8,8,8,8,8,8,8,8,8,8,8,8,8,8,8,8,8,8,8,8,8,8,8,8,8,8,8,8,8,8,8,8,8,8,8,8,8,8,8,8,8,8,8,8,8,8,8,8,8,8,8,8,8,8,8,8,8,8,8,8,8,8,8,8,8,8,8,8,8,8,8,8,8,8,8,8,8,8,8,8,8,8,8,8,8,8,8,8,8,8,8]:Str) (IntKind.u8.wrap x_5)).bind fun x_7=>dq (IntKind.i64.wrap (n_6 + (IntKind.i64.wrap (x_7.toNat:Int)))) fun x_8=>some x_8)))
theorem mL {F:Nat} {x0:Int} {r:Int} (h:jh F x0 = some r):aA Try.prog [] 69 [] [.one (.int .u64 x0)] (Is [] (.b (.one (.i r)))):=by
 unfold jh at h
 refine aA.intro 25 Try.func69 Try.ntmps69 rfl (by simp) fun E=>?_
 show ab _ E ⟨25,[],[],[]⟩ _ ⟨[(0,.b (.one (.int .u64 x0)))],[]⟩ _
 refine ab.seq (ab.aa ?_)
 refine Oc oa (ae.ah ⟨[(0,.b (.one (.int .u64 x0))),(2,I 0)],[]⟩ rfl ?_)
 obtain ⟨v1,h2,h⟩:=aN h
 refine ab.cA (v:=v1) (bL fun (x_1:Int) (n_2:Int)=>⟨[(0,.b (.one (.int .u64 x_1))),(2,I n_2)],[]⟩) (fun z=>z) ?_ ?_
 ·refine ab.seq (ab.aa ?_)
  refine Oc om (Oc (jA rfl rfl) ?_)
  refine ae.ah ⟨[(0,_),(2,_),(4,B (decide (4294967296 ≤ x0)))],[]⟩ rfl (ab.ite h2 rfl (fun _ h2=>?_) (fun _ h2=>?_))
  ·refine ab.seq (ab.aa ?_)
   refine Oc om (Oc (iV (m:=32) (by decide) rfl rfl rfl) (Oc oa ?_))
   refine ae.ah ⟨[(0,.b (.one (.int .u64 (x0 / 4294967296))))],[]⟩ rfl (ab.aa (Oc oa (ae.nil ?_)))
   exact Fin.join [0,2] [] (x0 / 4294967296,32) (Option.some.inj h2) rfl
  ·refine ab.skip ?_
   exact Fin.join [0,2] [] (x0,0) (Option.some.inj h2) rfl
 ·rintro ⟨x_1,n_2⟩ hv
  subst v1
  obtain ⟨v3,h4,h⟩:=aN h
  refine ab.cA (v:=v3) (bL fun (x_3:Int) (n_4:Int)=>⟨[(0,.b (.one (.int .u64 x_3))),(2,I n_4)],[]⟩) (fun z=>z) ?_ ?_
  ·refine ab.seq (ab.aa ?_)
   refine Oc om (Oc (jA rfl rfl) ?_)
   refine ae.ah ⟨[(0,_),(2,_),(8,B (decide (65536 ≤ x_1)))],[]⟩ rfl (ab.ite h4 rfl (fun _ h4=>?_) (fun _ h4=>?_))
   ·refine ab.seq (ab.aa ?_)
    refine Oc om (Oc (iV (m:=16) (by decide) rfl rfl rfl) (Oc oa ?_))
    refine ae.ah ⟨[(0,.b (.one (.int .u64 (x_1 / 65536)))),(2,_)],[]⟩ rfl (ab.aa (Oc om (Oc (aX rfl rfl) (Oc oa ?_))))
    refine ae.nil ?_
    exact Fin.join [0,2] [] (x_1 / 65536,IntKind.i64.wrap (n_2 + 16)) (Option.some.inj h4) rfl
   ·refine ab.skip ?_
    exact Fin.join [0,2] [] (x_1,n_2) (Option.some.inj h4) rfl
  ·rintro ⟨x_3,n_4⟩ hv
   subst v3
   obtain ⟨v5,h6,h⟩:=aN h
   refine ab.cA (v:=v5) (bL fun (x_5:Int) (n_6:Int)=>⟨[(0,.b (.one (.int .u64 x_5))),(2,I n_6)],[]⟩) (fun z=>z) ?_ ?_
   ·refine ab.seq (ab.aa ?_)
    refine Oc om (Oc (jA rfl rfl) ?_)
    refine ae.ah ⟨[(0,_),(2,_),(14,B (decide (256 ≤ x_3)))],[]⟩ rfl (ab.ite h6 rfl (fun _ h6=>?_) (fun _ h6=>?_))
    ·refine ab.seq (ab.aa ?_)
     refine Oc om (Oc (iV (m:=8) (by decide) rfl rfl rfl) (Oc oa ?_))
     refine ae.ah ⟨[(0,.b (.one (.int .u64 (x_3 / 256)))),(2,_)],[]⟩ rfl (ab.aa (Oc om (Oc (aX rfl rfl) (Oc oa ?_))))
     refine ae.nil ?_
     exact Fin.join [0,2] [] (x_3 / 256,IntKind.i64.wrap (n_4 + 8)) (Option.some.inj h6) rfl
    ·refine ab.skip ?_
     exact Fin.join [0,2] [] (x_3,n_4) (Option.some.inj h6) rfl
   ·rintro ⟨x_5,n_6⟩ hv
    subst v5
    refine ab.seq (ab.aa ?_)
    refine Oc om (Oc om (Oc (bS undi97 undi5 rfl) ?_))
    obtain ⟨x_7,e7,h⟩:=aN h
    refine Oc (oO und9 rfl rfl (aC e7) (p5 e7)) (Oc (bS undi5 jk rfl) ?_)
    refine ae.ic .i64 h rfl (aX rfl rfl) (fun x_8 h=>?_)
    refine Oc oa (ae.ah ⟨[(2,I x_8)],[]⟩ rfl (ab.ret ?_))
    obtain rfl:=Option.some.inj h
    refine Fin.ag ⟨[(2,_)],[]⟩ rfl (Fin.aW [.one (.i x_8)] (.inl rfl) rfl (.cons (.tmp rfl) .nil) ⟨rfl,rfl⟩)
def kU (F:Nat) (x0:Int):Option Int :=
 (jh F x0).bind fun x_1=>some x_1
theorem nF {F:Nat} {x0:Int} {r:Int} (h:kU F x0 = some r):aA Try.prog [] 56 [] [.one (.int .u64 x0)] (Is [] (.b (.one (.i r)))):=by
 unfold kU at h
 refine aA.intro 8 Try.func56 Try.ntmps56 rfl (by simp) fun E=>?_
 show ab _ E ⟨8,[],[],[]⟩ _ ⟨[(0,.b (.one (.int .u64 x0)))],[]⟩ _
 refine ab.seq (ab.aa ?_)
 refine Oc oa (ae.ah ⟨[(0,.b (.one (.int .u64 x0)))],[]⟩ rfl (ab.seq (ab.condFc (ab.skip (Fin.ag ⟨[(0,_)],[]⟩ rfl ?_)))))
 refine Fin.then (ab.seq (ab.aa ?_))
 refine Oc om ?_
 obtain ⟨x_1,e1,h⟩:=aN h
 refine Oc (a6 (mL e1) goes69 rfl rfl) (Oc oa ?_)
 refine ae.ah ⟨[(2,I x_1)],[]⟩ rfl (ab.ret ?_)
 obtain rfl:=Option.some.inj h
 refine Fin.ag ⟨[(2,_)],[]⟩ rfl (Fin.aW [.one (.i x_1)] (.inl rfl) rfl (.cons (.tmp rfl) .nil) ⟨rfl,rfl⟩)
def dJ (F:Nat):Option Unit :=
 Option.bind (iter F (fun _=>some (.inr ())) ()) (fun _=>some ())
theorem hO {F:Nat} {r:Unit} (h:dJ F = some r):aA Try.prog [] 59 [] [.one (.nil),.one (.i 0),.one (.i 0)] (Is [] (.ez [])):=by
 unfold dJ at h
 refine aA.intro 49 Try.func59 Try.ntmps59 rfl (by simp) fun E=>?_
 show ab _ E ⟨49,[],[],[]⟩ _ ⟨[(0,.b (.one (.nil))),(1,I 0),(2,I 0)],[]⟩ _
 refine ab.seq (ab.aa ?_)
 refine Oc om (Oc (aX rfl rfl) (Oc oa ?_))
 refine ae.ah ⟨[(0,.b (.one (.nil))),(1,I 0),(2,I 0),(6,I 1)],[]⟩ rfl (ab.block ?_)
 obtain ⟨v1,h2,h⟩:=aN h
 refine ab.cy h2 (fun (_:Unit)=>⟨[(0,.b (.one (.nil))),(1,I 0),(2,I 0),(6,I 1)],[]⟩) [0,1,2,6] [] rfl ?_
 rintro _ o3 h4 hy5
 refine ab.seq (ab.seq (ab.aa ?_))
 refine Oc om (Oc om (Oc (bf rfl rfl) ?_))
 refine ae.ah ⟨[(0,_),(1,_),(2,_),(6,_),(12,B false)],[]⟩ rfl (ab.rS rfl (ab.exit (Fin.aj ?_)))
 obtain rfl:=hy5 _ (Option.some.inj h4).symm
 refine Fin.aj (Fin.aG ?_)
 obtain rfl:=Option.some.inj h
 refine Fin.ag ⟨[],[]⟩ rfl (Fin.aW [] (.inr rfl) rfl (.nil) ⟨rfl,rfl⟩)
def dk (F:Nat):Nat → Int → Option Unit
 | 0,_=>none
 | n + 1,limit0=>Option.bind (iter F (fun _=>(dJ F).bind fun u_1=>some (.inr ())) ()) (fun y=>some y)
def gg (F:Nat) (limit0:Int):Option Unit:=dk F F limit0
theorem iA {F:Nat}:∀ (n:Nat) {limit0:Int} {r:Unit} (h:dk F n limit0 = some r),aA Try.prog [] 55 [] [.one (.nil),.one (.i 0),.one (.i 0),.one (.i limit0)] (Is [] (.ez [])):=by
 intro n
 induction n with
 | zero=>intro limit0 r h; simp [dk] at h
 | succ n ih=>
 intro limit0 r h
 unfold dk at h
 refine aA.intro 134 Try.func55 Try.ntmps55 rfl (by simp) fun E=>?_
 show ab _ E ⟨134,[],[],[]⟩ _ ⟨[(0,.b (.one (.nil))),(1,I 0),(2,I 0),(3,I limit0)],[]⟩ _
 refine ab.seq (ab.aa ?_)
 refine Oc oa (ae.ah ⟨[(0,.b (.one (.nil))),(1,I 0),(2,I 0),(3,I limit0),(8,B true)],[]⟩ rfl (ab.seq (ab.aa ?_)))
 refine Oc oa (ae.ah ⟨[(0,_),(1,_),(2,_),(3,_),(8,_),(9,B true)],[]⟩ rfl (ab.block ?_))
 obtain ⟨v1,h2,h⟩:=aN h
 refine ab.cy h2 (fun (_:Unit)=>⟨[(0,.b (.one (.nil))),(1,I 0),(2,I 0),(3,I limit0),(8,B true),(9,B true)],[]⟩) [0,1,2,3,8,9] [] rfl ?_
 rintro _ o3 h4 hy5
 refine ab.block (ab.seq (ab.aa ?_))
 refine Oc om (Oc om (Oc (cf rfl rfl) (Oc oa ?_)))
 refine ae.ah ⟨[(0,_),(1,_),(2,_),(3,_),(8,_),(9,_),(10,I 0)],[]⟩ rfl (ab.seq (ab.seq (ab.aa ?_)))
 refine Oc om (Oc (lK rfl rfl) ?_)
 refine ae.ah ⟨[(0,_),(1,_),(2,_),(3,_),(8,_),(9,_),(10,_),(23,B true)],[]⟩ rfl (ab.rR rfl (ab.seq (ab.aa ?_)))
 refine Oc om (Oc om (Oc om ?_))
 obtain ⟨u_1,e6,h4⟩:=aN h4
 refine Oc (a6 (hO e6) goes59 rfl rfl) (ae.ah ⟨[],[]⟩ rfl (ab.ret (Fin.aD (Fin.bC ?_))))
 obtain rfl:=hy5 _ (Option.some.inj h4).symm
 refine Fin.aD (Fin.bC ?_)
 obtain rfl:=Option.some.inj h
 refine Fin.ag ⟨[],[]⟩ rfl (Fin.aW [] (.inl rfl) rfl (.nil) ⟨rfl,rfl⟩)
theorem iP {F:Nat} {limit0:Int} {r:Unit} (h:gg F limit0 = some r):aA Try.prog [] 55 [] [.one (.nil),.one (.i 0),.one (.i 0),.one (.i limit0)] (Is [] (.ez [])):=iA F h
def ir (F:Nat):Option Unit :=
 (kU F (IntKind.u64.wrap 0)).bind fun x_1=>(gg F x_1).bind fun u_2=>some ()
theorem jW {F:Nat} {r:Unit} (h:ir F = some r):aA Try.prog [] 50 [] [.one (.nil)] (Is [] (.ez [])):=by
 unfold ir at h
 refine aA.intro 11 Try.func50 Try.ntmps50 rfl (by simp) fun E=>?_
 show ab _ E ⟨11,[],[],[]⟩ _ ⟨[(0,.b (.one (.nil)))],[]⟩ _
 refine ab.seq (ab.aa ?_)
 refine Oc om (Oc (ql fX rfl) (Oc oa ?_))
 refine ae.ah ⟨[(0,.b (.one (.nil))),(2,I 0)],[]⟩ rfl (ab.aa (Oc om (Oc om (Oc om (Oc (bS jk gL rfl) ?_)))))
 obtain ⟨x_1,e1,h⟩:=aN h
 refine Oc (a6 (nF e1) goes56 rfl rfl) ?_
 obtain ⟨u_2,e2,h⟩:=aN h
 refine Oc (a6 (iP e2) goes55 rfl rfl) (ae.nil ?_)
 obtain rfl:=Option.some.inj h
 refine Fin.ag ⟨[],[]⟩ rfl (Fin.aW [] (.inr rfl) rfl (.nil) ⟨rfl,rfl⟩)
theorem mi:aA Try.prog [] 50 [] [.one .nil] (Is [] (.ez [])):=jW (F:=3) (r:=()) (by rfl)
def cW (F:Nat) (zs:List Int):Option (List Int):=jz zs
theorem eo {F:Nat} {zs r:List Int} (h:cW F zs = some r):aA Try.prog [] 50 [(1,.cB 3 1 (zs.map eI))] [.row 1] (Is [(1,.cB 3 1 (r.map eI))] (.ez [])):=pP Try.lays189 mi h
def du (F:Nat) (fixed0:List Bool) (links0:List A2):Option Bool :=
 dq ((decide ((fixed0.length:Int) ≤ 40)) || ((decide (401 < (fixed0.length:Int))) && (decide ((fixed0.length:Int) < 409)))) fun x_1=>some (x_1 && (decide ((links0.length:Int) ≤ 60)))
theorem jj {F:Nat} {fixed0:List Bool} {links0:List A2} {r:Bool} (h:du F fixed0 links0 = some r):aA Try.prog [] 10 [] [.one (.sl 1 (fixed0.map eB)),.one (.sl 2 (links0.map (cR .i64)))] (Is [] (.b (.one (.bool r)))):=by
 unfold du at h
 refine aA.intro 23 Try.func10 Try.ntmps10 rfl (by simp) fun E=>?_
 show ab _ E ⟨23,[],[],[]⟩ _ ⟨[(0,.b (.one (.sl 1 (fixed0.map eB)))),(1,.b (.one (.sl 2 (links0.map (cR .i64)))))],[]⟩ _
 refine ab.seq (ab.aa ?_)
 refine Oc oa (ae.ah ⟨[(0,.b (.one (.sl 1 (fixed0.map eB)))),(1,.b (.one (.sl 2 (links0.map (cR .i64)))))],[]⟩ rfl (ab.seq (ab.aa ?_)))
 refine Oc om (Oc (ay cY rfl (List.length_map _)) (Oc (lK rfl rfl) (Oc om ?_)))
 refine mK (!(decide ((fixed0.length:Int) ≤ 40))) [] (fun g1=>trivial) (fun g1=>om) (ae.ag ⟨[(0,_),(1,_),(8,B (decide ((fixed0.length:Int) ≤ 40))),(9,.opt (!(decide ((fixed0.length:Int) ≤ 40))) (.one (.sl 1 (fixed0.map eB))))],[]⟩ rfl (mK (!(decide ((fixed0.length:Int) ≤ 40))) [9] (fun g2=>by exact ⟨g2,trivial⟩) (fun g2=>ay cY rfl (List.length_map _)) (mK (!(decide ((fixed0.length:Int) ≤ 40))) [10] (fun g3=>by exact ⟨g3,trivial⟩) (fun g3=>eW rfl rfl) (mK (!(decide ((fixed0.length:Int) ≤ 40))) [11] (fun g4=>by exact ⟨g4,trivial⟩) (fun g4=>om) (ae.oZ ((!(decide ((fixed0.length:Int) ≤ 40))) && (decide (401 < (fixed0.length:Int)))) 99 [] (.under rfl) (cZ _ _) rfl rfl (fun g5=>by exact trivial) (fun g5=>om) ?_)))))
 refine ae.oZ ((!(decide ((fixed0.length:Int) ≤ 40))) && (decide (401 < (fixed0.length:Int)))) 99 [13] (.under rfl) (cZ _ _) rfl rfl (fun g6=>⟨g6,trivial⟩) (fun g6=>ay cY rfl (List.length_map _)) (ae.oZ ((!(decide ((fixed0.length:Int) ≤ 40))) && (decide (401 < (fixed0.length:Int)))) 99 [14] (.under rfl) (cZ _ _) rfl rfl (fun g7=>⟨g7,trivial⟩) (fun g7=>bf rfl rfl) (mK (!(decide ((fixed0.length:Int) ≤ 40))) [12] (fun g8=>⟨g8,trivial⟩) (fun g8=>aR (fun e=>by rw [g8,e]; rfl) rfl rfl rfl rfl) (ae.ag ⟨[(1,_),(8,_),(16,.opt (!(decide ((fixed0.length:Int) ≤ 40))) (.one (.bool ((decide (401 < (fixed0.length:Int))) && (decide ((fixed0.length:Int) < 409))))))],[]⟩ rfl (ae.mw h rfl (cm (fun e=>by first | (rw [e]; rfl) | (simp only at e; rw [e]; rfl)) rfl rfl rfl rfl) (fun x_1 h=>?_)))))
 refine Oc om (er x_1 [] (fun g9=>by exact trivial) (fun g9=>om) (er x_1 [19] (fun g10=>by exact ⟨g10,trivial⟩) (fun g10=>ay oW rfl (List.length_map _)) (er x_1 [20] (fun g11=>by exact ⟨g11,trivial⟩) (fun g11=>lK rfl rfl) (Oc (aR (fun e=>e) rfl rfl rfl rfl) (Oc oa ?_)))))
 refine ae.ah ⟨[(4,B (x_1 && (decide ((links0.length:Int) ≤ 60))))],[]⟩ rfl (ab.ret ?_)
 obtain rfl:=Option.some.inj h
 refine Fin.ag ⟨[(4,_)],[]⟩ rfl (Fin.aW [.one (.bool (x_1 && (decide ((links0.length:Int) ≤ 60))))] (.inl rfl) rfl (.cons (.tmp rfl) .nil) ⟨rfl,rfl⟩)
def c7 (F:Nat) (n0:Int) (v0c:List Bool):Option Bool :=
 some ((decide (n0 < 0)) || (decide ((v0c.length:Int) ≤ n0)))
theorem fG {F:Nat} {n0:Int} {v0c:List Bool} {r:Bool} (h:c7 F n0 v0c = some r):aA Try.prog [] 45 [] [.one (.i n0),.cC [.sl 1 (v0c.map eB)]] (Is [] (.b (.one (.bool r)))):=by
 unfold c7 at h
 refine aA.intro 12 Try.func45 Try.ntmps45 rfl (by simp) fun E=>?_
 show ab _ E ⟨12,[],[],[]⟩ _ ⟨[(0,I n0),(1,.b (.cC [.sl 1 (v0c.map eB)]))],[]⟩ _
 refine ab.seq (ab.aa ?_)
 refine Oc oa (ae.ah ⟨[(0,I n0),(1,.b (.cC [.sl 1 (v0c.map eB)]))],[]⟩ rfl (ab.seq (ab.aa ?_)))
 refine Oc om (Oc (bf rfl rfl) (Oc om ?_))
 refine mK (!(decide (n0 < 0))) [] (fun g1=>trivial) (fun g1=>om) (mK (!(decide (n0 < 0))) [] (fun g2=>by exact trivial) (fun g2=>aE qE rfl rfl) (mK (!(decide (n0 < 0))) [8] (fun g3=>by exact ⟨g3,trivial⟩) (fun g3=>ay cY rfl (List.length_map _)) (ae.ag ⟨[(6,B (decide (n0 < 0))),(7,.opt (!(decide (n0 < 0))) (.one (.i n0))),(9,.opt (!(decide (n0 < 0))) (.one (.i (v0c.length:Int))))],[]⟩ rfl (mK (!(decide (n0 < 0))) [7,9] (fun g4=>by exact ⟨g4,g4,trivial⟩) (fun g4=>jA rfl rfl) (Oc (cm (fun e=>by first | (rw [e]; rfl) | (simp only at e; rw [e]; rfl)) rfl rfl rfl rfl) (Oc oa ?_))))))
 refine ae.ah ⟨[(3,B ((decide (n0 < 0)) || (decide ((v0c.length:Int) ≤ n0))))],[]⟩ rfl (ab.ret ?_)
 obtain rfl:=Option.some.inj h
 refine Fin.ag ⟨[(3,_)],[]⟩ rfl (Fin.aW [.one (.bool ((decide (n0 < 0)) || (decide ((v0c.length:Int) ≤ n0))))] (.inl rfl) rfl (.cons (.tmp rfl) .nil) ⟨rfl,rfl⟩)
def c6 (F:Nat) (l0:A2) (v0c:List Bool):Option Bool :=
 (c7 F l0.a0 v0c).bind fun x_1=>(bx (!x_1) (c7 F l0.a1 v0c)).bind fun x_2=>some ((x_1 || x_2) || (decide (l0.a0 = l0.a1)))
theorem jt {F:Nat} {l0:A2} {v0c:List Bool} {r:Bool} (h:c6 F l0 v0c = some r):aA Try.prog [] 47 [] [.agg ((cR .i64) l0),.cC [.bV 45 [CP.rp [.sl 1 (v0c.map eB)]]]] (Is [] (.b (.one (.bool r)))):=by
 unfold c6 at h
 refine aA.intro 21 Try.func47 Try.ntmps47 rfl (by simp) fun E=>?_
 show ab _ E ⟨21,[],[],[]⟩ _ ⟨[(0,.b (.agg ((cR .i64) l0))),(1,.b (.cC [.bV 45 [CP.rp [.sl 1 (v0c.map eB)]]]))],[]⟩ _
 refine ab.seq (ab.aa ?_)
 refine Oc (op_box (k:=101) rfl rfl) (Oc oa ?_)
 refine ae.ah ⟨[(1,.b (.cC [.bV 45 [CP.rp [.sl 1 (v0c.map eB)]]])),(2,Pt 101 0)],[(101,.box 44 ((cR .i64) l0))]⟩ rfl (ab.seq (ab.aa ?_))
 refine Oc (aE ow rfl rfl) (Oc (fO eQ (by decide) (by decide) rfl rfl rfl) (Oc (bn au rfl rfl rfl) ?_))
 obtain ⟨x_1,e1,h⟩:=aN h
 refine Oc (gT (pss:=[[.sl 1 (v0c.map eB)]]) (fG e1) se rfl rfl rfl trivial rfl rfl) (Oc om ?_)
 refine ae.ag ⟨[(1,_),(2,_),(8,B x_1)],[(101,_)]⟩ rfl (mK (!x_1) [] (fun g2=>trivial) (fun g2=>aE ow rfl rfl) (mK (!x_1) [] (fun g3=>trivial) (fun g3=>fO eQ (by decide) (by decide) rfl rfl rfl) (mK (!x_1) [10] (fun g4=>⟨g4,trivial⟩) (fun g4=>bn au rfl rfl rfl) ?_)))
 obtain ⟨x_2,e6,h⟩:=aN h
 refine mK (!x_1) [9,11] (fun g5=>⟨g5,g5,trivial⟩) (fun g5=>gT (pss:=[[.sl 1 (v0c.map eB)]]) (fG (gc e6 g5)) se rfl rfl rfl trivial rfl rfl) (Oc (cm (fun e=>by first | (rw [e]; rfl) | (simp only at e; rw [e]; rfl)) rfl rfl rfl rfl) (Oc om ?_))
 refine ae.ag ⟨[(2,_),(14,B (x_1 || x_2))],[(101,_)]⟩ rfl (mK (!(x_1 || x_2)) [] (fun g7=>trivial) (fun g7=>fO eQ (by decide) (by decide) rfl rfl rfl) (mK (!(x_1 || x_2)) [15] (fun g8=>⟨g8,trivial⟩) (fun g8=>bn au rfl rfl rfl) (mK (!(x_1 || x_2)) [] (fun g9=>trivial) (fun g9=>fO eQ (by decide) (by decide) rfl rfl rfl) (mK (!(x_1 || x_2)) [17] (fun g10=>⟨g10,trivial⟩) (fun g10=>bn au rfl rfl rfl) (mK (!(x_1 || x_2)) [16,18] (fun g11=>⟨g11,g11,trivial⟩) (fun g11=>cT rfl rfl) ?_)))))
 refine Oc (cm (fun e=>by first | (rw [e]; rfl) | (simp only at e; rw [e]; rfl)) rfl rfl rfl rfl) (Oc oa ?_)
 refine ae.ah ⟨[(3,B ((x_1 || x_2) || (decide (l0.a0 = l0.a1))))],[]⟩ rfl (ab.ret ?_)
 obtain rfl:=Option.some.inj h
 refine Fin.ag ⟨[(3,_)],[]⟩ rfl (Fin.aW [.one (.bool ((x_1 || x_2) || (decide (l0.a0 = l0.a1))))] (.inl rfl) rfl (.cons (.tmp rfl) .nil) ⟨rfl,rfl⟩)
def dI (F:Nat) (s0:List A2) (f0:List Bool):Option Int :=
 Option.bind (iter F (fun x_1=>if (decide (x_1 < (s0.length:Int))) = true then ((av s0 x_1).bind fun x_2=>(c6 F x_2 f0).bind fun x_3=>if x_3 = true then (some (.inr (.inr x_1))) else (some (.inl (IntKind.i64.wrap (x_1 + 1))))) else (some (.inr (.inl ())))) 0) (fH (fun _=>some (-1)) (fun y=>some y))
theorem js {F:Nat} {s0:List A2} {f0:List Bool} {r:Int} (h:dI F s0 f0 = some r):aA Try.prog [] 54 [] [.one (.sl 2 (s0.map (cR .i64))),.one (.bV 47 [CP.rp [.bV 45 [CP.rp [.sl 1 (f0.map eB)]]]])] (Is [] (.b (.one (.i r)))):=by
 unfold dI at h
 refine aA.intro 19 Try.func54 Try.ntmps54 rfl (by simp) fun E=>?_
 show ab _ E ⟨19,[],[],[]⟩ _ ⟨[(0,.b (.one (.sl 2 (s0.map (cR .i64))))),(1,.b (.one (.bV 47 [CP.rp [.bV 45 [CP.rp [.sl 1 (f0.map eB)]]]])))],[]⟩ _
 refine ab.seq (ab.aa ?_)
 refine Oc oa (ae.ah ⟨[(0,.b (.one (.sl 2 (s0.map (cR .i64))))),(1,.b (.one (.bV 47 [CP.rp [.bV 45 [CP.rp [.sl 1 (f0.map eB)]]]])))],[]⟩ rfl ?_)
 obtain ⟨v1,h2,h⟩:=aN h
 refine ab.cA (v:=v1) (fun (_:Unit)=>⟨[],[]⟩) (fun z=>.inl z) ?_ ?_
 ·refine ab.seq (ab.aa ?_)
  refine Oc om (Oc (ay oW rfl (List.length_map _)) (Oc om ?_))
  refine ae.ah ⟨[(0,_),(1,_),(7,I (s0.length:Int)),(8,I 0)],[]⟩ rfl (ab.block (ab.cy h2 (fun (x_1:Int)=>⟨[(0,.b (.one (.sl 2 (s0.map (cR .i64))))),(1,.b (.one (.bV 47 [CP.rp [.bV 45 [CP.rp [.sl 1 (f0.map eB)]]]]))),(7,I (s0.length:Int)),(8,I x_1)],[]⟩) [0,1,7,8] [] rfl ?_))
  rintro x_1 o3 h4 hy5
  refine ab.seq (ab.aa ?_)
  refine Oc (bf rfl rfl) (ae.ah ⟨[(0,_),(1,_),(7,_),(8,_),(9,B (decide (x_1 < (s0.length:Int))))],[]⟩ rfl (ab.seq (ab.ite h4 rfl (fun _ h4=>?_) (fun _ h4=>?_))))
  ·refine ab.skip (Fin.ag ⟨[(0,_),(1,_),(7,_),(8,_)],[]⟩ rfl (Fin.then (ab.seq (ab.block (ab.seq (ab.aa ?_))))))
   refine Oc om (Oc oa ?_)
   refine ae.ah ⟨[(0,_),(1,_),(5,I x_1),(7,_),(8,_)],[]⟩ rfl (ab.seq (ab.aa ?_))
   refine Oc om (Oc om (Oc om ?_))
   obtain ⟨x_2,e6,h4⟩:=aN h4
   refine Oc (aI gO (aC e6) (az (e:=(cR .i64)) e6) rfl rfl) (Oc (j9 ox rfl rfl rfl) ?_)
   obtain ⟨x_3,e7,h4⟩:=aN h4
   refine Oc (gT (pss:=[[.bV 45 [CP.rp [.sl 1 (f0.map eB)]]]]) (jt e7) goes47 rfl rfl rfl trivial rfl rfl) (ae.ah ⟨[(0,_),(1,_),(5,_),(7,_),(8,_),(16,B x_3)],[]⟩ rfl (ab.ite h4 rfl (fun _ h4=>?_) (fun _ h4=>?_)))
   ·refine ab.seq (ab.aa ?_)
    refine Oc om (Oc oa ?_)
    refine ae.ah ⟨[(4,I x_1)],[]⟩ rfl (ab.ret (Fin.bC (Fin.aD ?_)))
    obtain rfl:=hy5 _ (Option.some.inj h4).symm
    refine Fin.aD (Fin.bC (Fin.aD ?_))
    obtain rfl:=Option.some.inj h
    refine Fin.ag ⟨[(4,_)],[]⟩ rfl (Fin.aW [.one (.i x_1)] (.inl rfl) rfl (.cons (.tmp rfl) .nil) ⟨rfl,rfl⟩)
   ·refine ab.skip (Fin.ai (Fin.ag ⟨[(0,_),(1,_),(7,_),(8,_)],[]⟩ rfl (Fin.then (ab.aa ?_))))
    refine Oc (aX rfl rfl) (Oc om ?_)
    refine ae.nil ?_
    exact Fin.bz [0,1,7,8] [] (IntKind.i64.wrap (x_1 + 1)) (Option.some.inj h4) rfl
  ·refine ab.exit (Fin.aj ?_)
   obtain rfl:=hy5 _ (Option.some.inj h4).symm
   refine Fin.aj (Fin.aG ?_)
   exact Fin.join [] [] () rfl rfl
 ·rintro _ hv
  subst v1
  refine ab.seq (ab.aa ?_)
  refine Oc oa (ae.ah ⟨[(4,I (-1))],[]⟩ rfl (ab.ret ?_))
  obtain rfl:=Option.some.inj h
  refine Fin.ag ⟨[(4,_)],[]⟩ rfl (Fin.aW [.one (.i (-1))] (.inl rfl) rfl (.cons (.tmp rfl) .nil) ⟨rfl,rfl⟩)
def c9 (F:Nat) (s0:List A2) (f0:List Bool):Option Bool :=
 (dI F s0 f0).bind fun x_1=>some (decide (0 ≤ x_1))
theorem iB {F:Nat} {s0:List A2} {f0:List Bool} {r:Bool} (h:c9 F s0 f0 = some r):aA Try.prog [] 46 [] [.one (.sl 2 (s0.map (cR .i64))),.one (.bV 47 [CP.rp [.bV 45 [CP.rp [.sl 1 (f0.map eB)]]]])] (Is [] (.b (.one (.bool r)))):=by
 unfold c9 at h
 refine aA.intro 9 Try.func46 Try.ntmps46 rfl (by simp) fun E=>?_
 show ab _ E ⟨9,[],[],[]⟩ _ ⟨[(0,.b (.one (.sl 2 (s0.map (cR .i64))))),(1,.b (.one (.bV 47 [CP.rp [.bV 45 [CP.rp [.sl 1 (f0.map eB)]]]])))],[]⟩ _
 refine ab.seq (ab.aa ?_)
 refine Oc oa (ae.ah ⟨[(0,.b (.one (.sl 2 (s0.map (cR .i64))))),(1,.b (.one (.bV 47 [CP.rp [.bV 45 [CP.rp [.sl 1 (f0.map eB)]]]])))],[]⟩ rfl (ab.seq (ab.aa ?_)))
 refine Oc om (Oc om ?_)
 obtain ⟨x_1,e1,h⟩:=aN h
 refine Oc (a6 (js e1) goes54 rfl rfl) (Oc (jA rfl rfl) (Oc oa ?_))
 refine ae.ah ⟨[(4,B (decide (0 ≤ x_1)))],[]⟩ rfl (ab.ret ?_)
 obtain rfl:=Option.some.inj h
 refine Fin.ag ⟨[(4,_)],[]⟩ rfl (Fin.aW [.one (.bool (decide (0 ≤ x_1)))] (.inl rfl) rfl (.cons (.tmp rfl) .nil) ⟨rfl,rfl⟩)
def bG (F:Nat) (fixed0:List Bool) (links0:List A2):Option Bool :=
 (bx (decide ((fixed0.length:Int) ≤ 401)) (c9 F links0 fixed0)).bind fun x_1=>some ((decide ((fixed0.length:Int) ≤ 401)) && (!x_1))
theorem cw {F:Nat} {fixed0:List Bool} {links0:List A2} {r:Bool} (h:bG F fixed0 links0 = some r):aA Try.prog [] 29 [] [.one (.sl 1 (fixed0.map eB)),.one (.sl 2 (links0.map (cR .i64)))] (Is [] (.b (.one (.bool r)))):=by
 unfold bG at h
 refine aA.intro 16 Try.func29 Try.ntmps29 rfl (by simp) fun E=>?_
 show ab _ E ⟨16,[],[],[]⟩ _ ⟨[(0,.b (.one (.sl 1 (fixed0.map eB)))),(1,.b (.one (.sl 2 (links0.map (cR .i64)))))],[]⟩ _
 refine ab.seq (ab.aa ?_)
 refine Oc (op_boxR rfl) (Oc oa ?_)
 refine ae.ah ⟨[(1,.b (.one (.sl 2 (links0.map (cR .i64))))),(2,.b (.cC [.sl 1 (fixed0.map eB)]))],[]⟩ rfl (ab.seq (ab.aa ?_))
 refine Oc (jd rfl) (Oc (bh (k:=101) sD rfl) (Oc (gb ow rfl rfl rfl (Nat.le_of_ble_eq_true rfl) rfl) ?_))
 refine ae.ga 101 rfl (ae.ah ⟨[(1,_),(2,_),(5,.b (.cC [.bV 45 [CP.rp [.sl 1 (fixed0.map eB)]]]))],[]⟩ rfl (ab.seq (ab.aa ?_)))
 refine Oc (aE qE rfl rfl) (Oc (ay cY rfl (List.length_map _)) (Oc (lK rfl rfl) (Oc om ?_)))
 refine er (decide ((fixed0.length:Int) ≤ 401)) [] (fun g1=>trivial) (fun g1=>om) (er (decide ((fixed0.length:Int) ≤ 401)) [] (fun g2=>by exact trivial) (fun g2=>jd rfl) (ae.ag ⟨[(10,B (decide ((fixed0.length:Int) ≤ 401))),(11,.opt (decide ((fixed0.length:Int) ≤ 401)) (.one (.sl 2 (links0.map (cR .i64))))),(12,.opt (decide ((fixed0.length:Int) ≤ 401)) (.one (.bV 47 [CP.rp [.bV 45 [CP.rp [.sl 1 (fixed0.map eB)]]]])))],[]⟩ rfl ?_))
 obtain ⟨x_1,e4,h⟩:=aN h
 refine er (decide ((fixed0.length:Int) ≤ 401)) [11,12] (fun g3=>⟨g3,g3,trivial⟩) (fun g3=>a6 (iB (gc e4 g3)) goes46 rfl rfl) (er (decide ((fixed0.length:Int) ≤ 401)) [13] (fun g5=>⟨g5,trivial⟩) (fun g5=>dM rfl) (Oc (aR (fun e=>e) rfl rfl rfl rfl) (Oc oa ?_)))
 refine ae.ah ⟨[(4,B ((decide ((fixed0.length:Int) ≤ 401)) && (!x_1)))],[]⟩ rfl (ab.ret ?_)
 obtain rfl:=Option.some.inj h
 refine Fin.ag ⟨[(4,_)],[]⟩ rfl (Fin.aW [.one (.bool ((decide ((fixed0.length:Int) ≤ 401)) && (!x_1)))] (.inl rfl) rfl (.cons (.tmp rfl) .nil) ⟨rfl,rfl⟩)
def b7 (F:Nat):Nat → Int → ba → Option (Int × ba)
 | 0,_,_=>none
 | n + 1,x0,c0up=>if (!(cH c0up x0)) = true then (some (x0,dp c0up x0 x0)) else (if (decide ((ca c0up x0) = x0)) = true then (some (x0,c0up)) else (Option.bind (b7 F n (ca c0up x0) c0up) (bL fun x_1 x_2=>some (x_1,dp x_2 x0 x_1))))
def bu (F:Nat) (x0:Int) (c0up:ba):Option (Int × ba):=b7 F F x0 c0up
theorem hU {F:Nat}:∀ (n:Nat) {x0:Int} {c0up:ba} {r:Int × ba} (h:b7 F n x0 c0up = some r),aA Try.prog [] 48 [(1,.mq c0up)] [.xa [.row 1],.one (.i x0)] (Is [(1,.mq r.2)] (.b (.one (.i r.1)))):=by
 intro n
 induction n with
 | zero=>intro x0 c0up r h; simp [b7] at h
 | succ n ih=>
 intro x0 c0up r h
 unfold b7 at h
 refine aA.intro 34 Try.func48 Try.ntmps48 rfl (by simp) fun E=>?_
 show ab _ E ⟨34,[1],[1],[]⟩ _ ⟨[(0,.b (.xa [.row 1])),(1,I x0)],[(1,.mq c0up)]⟩ _
 refine ab.seq (ab.aa ?_)
 refine Oc (ka (k:=101) rfl rfl rfl rfl) (Oc oa ?_)
 refine ae.ah ⟨[(1,I x0),(2,Pt 101 0)],[(1,.mq c0up),(101,.ar 52 [.row 1])]⟩ rfl (ab.seq (ab.aa ?_))
 refine Oc (bH gD rfl rfl) (Oc (aV jY rfl rfl rfl) (Oc om (Oc (rf dO rfl rfl rfl) (Oc om (Oc (aF rfl rfl) ?_)))))
 refine Oc (aF rfl rfl) (Oc oa (Oc oa ?_))
 refine ae.ah ⟨[(1,_),(2,_),(5,I (ca c0up x0)),(6,B (cH c0up x0))],[(1,_),(101,_)]⟩ rfl (ab.seq (ab.seq (ab.aa ?_)))
 refine Oc om (Oc (dM rfl) ?_)
 refine ae.ah ⟨[(1,_),(2,_),(5,_),(16,B (!(cH c0up x0)))],[(1,_),(101,_)]⟩ rfl (ab.ite h rfl (fun _ h=>?_) (fun _ h=>?_))
 ·refine ab.seq (ab.aa ?_)
  refine Oc (bH gD rfl rfl) (Oc (aV jY rfl rfl rfl) (Oc om (Oc om (Oc (jI dO rfl rfl rfl rfl) ?_))))
  refine ae.ah ⟨[(1,_)],[(1,.mq (dp c0up x0 x0))]⟩ rfl (ab.seq (ab.aa ?_))
  refine Oc om (Oc oa ?_)
  refine ae.ah ⟨[(4,I x0)],[(1,_)]⟩ rfl (ab.ret (Fin.aD ?_))
  obtain rfl:=Option.some.inj h
  refine Fin.ag ⟨[(4,_)],[(1,_)]⟩ rfl ?_
  exact Fin.result [.one (.i x0)] (.inl rfl) rfl (.cons (.tmp rfl) .nil) ⟨rfl,rfl⟩
 ·refine ab.skip (Fin.ag ⟨[(1,_),(2,_),(5,_)],[(1,_),(101,_)]⟩ rfl (Fin.then (ab.seq (ab.seq (ab.aa ?_)))))
  refine Oc om (Oc om (Oc (cT rfl rfl) ?_))
  refine ae.ah ⟨[(1,_),(2,_),(5,_),(24,B (decide ((ca c0up x0) = x0)))],[(1,_),(101,_)]⟩ rfl (ab.ite h rfl (fun _ h=>?_) (fun _ h=>?_))
  ·refine ab.seq (ab.aa ?_)
   refine Oc om (Oc oa ?_)
   refine ae.ah ⟨[(4,I x0)],[(1,_)]⟩ rfl (ab.ret (Fin.aD ?_))
   obtain rfl:=Option.some.inj h
   refine Fin.ag ⟨[(4,_)],[(1,_)]⟩ rfl ?_
   exact Fin.result [.one (.i x0)] (.inl rfl) rfl (.cons (.tmp rfl) .nil) ⟨rfl,rfl⟩
  ·refine ab.skip (Fin.ag ⟨[(1,_),(2,_),(5,_)],[(1,_),(101,_)]⟩ rfl (Fin.then (ab.seq (ab.aa ?_))))
   refine Oc ((cG cN rfl rfl rfl rfl).kH rfl) (Oc om ?_)
   obtain ⟨⟨x_1,x_2⟩,e1,h⟩:=aN h
   refine Oc (bm (own_a:=[(1,_)]) (ih e1) lO rfl ⟨rfl,trivial⟩ rfl rfl) (Oc oa ?_)
   refine ae.ah ⟨[(1,_),(2,_),(7,I x_1)],[(1,.mq x_2),(101,_)]⟩ rfl (ab.seq (ab.aa ?_))
   refine Oc (bH gD rfl rfl) (Oc (aV jY rfl rfl rfl) (Oc om (Oc om (Oc (jI dO rfl rfl rfl rfl) ?_))))
   refine ae.ah ⟨[(7,_)],[(1,.mq (dp x_2 x0 x_1))]⟩ rfl (ab.seq (ab.aa ?_))
   refine Oc om (Oc oa ?_)
   refine ae.ah ⟨[(4,I x_1)],[(1,_)]⟩ rfl (ab.ret ?_)
   obtain rfl:=Option.some.inj h
   refine Fin.ag ⟨[(4,_)],[(1,_)]⟩ rfl ?_
   exact Fin.result [.one (.i x_1)] (.inl rfl) rfl (.cons (.tmp rfl) .nil) ⟨rfl,rfl⟩
theorem b9 {F:Nat} {x0:Int} {c0up:ba} {r:Int × ba} (h:bu F x0 c0up = some r):aA Try.prog [] 48 [(1,.mq c0up)] [.xa [.row 1],.one (.i x0)] (Is [(1,.mq r.2)] (.b (.one (.i r.1)))):=hU F h
def dg (F:Nat) (fixed0:List Bool) (links0:List A2):Option (List Int) :=
 Option.bind (iter F (bL fun out_2 x_3=>if (decide (x_3 < (links0.length:Int))) = true then (Option.bind ((av links0 x_3).bind fun x_6=>(av fixed0 x_6.a0).bind fun x_7=>(bx (!x_7) (av fixed0 x_6.a1)).bind fun x_8=>if ((!x_7) && (!x_8)) = true then ((dw out_2 [x_3]).bind fun x_9=>some x_9) else (some out_2)) (fun out_5=>some (.inl (out_5,IntKind.i64.wrap (x_3 + 1))))) else (some (.inr out_2))) ([],0)) (fun out_1=>some out_1)
theorem gZ (kr0:Nat) {F:Nat} {fixed0:List Bool} {links0:List A2} {r:(List Int)} (h:dg F fixed0 links0 = some r):aA Try.prog [] 49 [] [.one (.sl 1 (fixed0.map eB)),.one (.sl 2 (links0.map (cR .i64)))] (Is [(kr0,.row 3 1 (r.map eI))] (.b (.row kr0))):=by
 unfold dg at h
 refine aA.intro 35 Try.func49 Try.ntmps49 rfl (by simp) fun E=>?_
 show ab _ E ⟨35,[],[],[]⟩ _ ⟨[(0,.b (.one (.sl 1 (fixed0.map eB)))),(1,.b (.one (.sl 2 (links0.map (cR .i64)))))],[]⟩ _
 refine ab.seq (ab.aa ?_)
 refine Oc oa (ae.ah ⟨[(0,.b (.one (.sl 1 (fixed0.map eB)))),(1,.b (.one (.sl 2 (links0.map (cR .i64)))))],[]⟩ rfl (ab.seq (ab.aa ?_)))
 refine Oc oa (ae.ah ⟨[(0,_),(1,_),(5,.b (.one (.nil)))],[]⟩ rfl ?_)
 obtain ⟨v1,h2,h⟩:=aN h
 refine ab.cA (v:=v1) (fun (out_1:List Int)=>⟨[(5,.b (.row 103))],[(103,.row 3 1 (out_1.map eI))]⟩) (fun z=>z) ?_ ?_
 ·refine ab.seq (ab.aa ?_)
  refine Oc om (Oc (ay oW rfl (List.length_map _)) (Oc om ?_))
  refine ae.ah ⟨[(0,_),(5,_),(8,.b (.one (.sl 2 (links0.map (cR .i64))))),(9,I (links0.length:Int)),(10,I 0)],[]⟩ rfl (ab.block (ab.dS 5 103 1 3 rfl (by decide) rfl (ab.cy h2 (bL fun (out_2:List Int) (x_3:Int)=>⟨[(0,.b (.one (.sl 1 (fixed0.map eB)))),(5,.b (.row 103)),(8,.b (.one (.sl 2 (links0.map (cR .i64))))),(9,I (links0.length:Int)),(10,I x_3)],[(103,.row 3 1 (out_2.map eI))]⟩) [0,5,8,9,10] [103] rfl ?_)))
  rintro ⟨out_2,x_3⟩ o3 h4 hy5
  refine ab.seq (ab.aa ?_)
  refine Oc (bf rfl rfl) (ae.ah ⟨[(0,_),(5,_),(8,_),(9,_),(10,_),(11,B (decide (x_3 < (links0.length:Int))))],[(103,_)]⟩ rfl (ab.seq (ab.ite h4 rfl (fun _ h4=>?_) (fun _ h4=>?_))))
  ·refine ab.skip (Fin.ag ⟨[(0,_),(5,_),(8,_),(9,_),(10,_)],[(103,_)]⟩ rfl (Fin.then ?_))
   obtain ⟨v6,h7,h4⟩:=aN h4
   refine ab.cA (v:=v6) (fun (out_5:List Int)=>⟨[(0,.b (.one (.sl 1 (fixed0.map eB)))),(5,.b (.row 103)),(8,.b (.one (.sl 2 (links0.map (cR .i64))))),(9,I (links0.length:Int)),(10,I x_3)],[(103,.row 3 1 (out_5.map eI))]⟩) (fun z=>z) ?_ ?_
   ·refine ab.block (ab.seq (ab.aa ?_))
    refine Oc om ?_
    obtain ⟨x_6,e8,h7⟩:=aN h7
    refine Oc (aI gO (aC e8) (az (e:=(cR .i64)) e8) rfl rfl) (Oc (j9 ox rfl rfl rfl) (Oc (bh (k:=104) sF rfl) (Oc oa (Oc (kR ox rfl rfl rfl rfl (Nat.le_of_ble_eq_true rfl) rfl) ?_))))
    refine ae.ah ⟨[(0,_),(5,_),(6,I x_3),(7,Pt 104 0),(8,_),(9,_),(10,_)],[(103,_),(104,.box 44 ((cR .i64) x_6))]⟩ rfl (ab.seq (ab.aa ?_))
    refine Oc om (Oc (fO eQ (by decide) (by decide) rfl rfl rfl) (Oc (bn au rfl rfl rfl) ?_))
    obtain ⟨x_7,e9,h7⟩:=aN h7
    refine Oc (aI fI (aC e9) (az (e:=eB) e9) rfl rfl) (Oc (aE gP rfl rfl) (Oc (dM rfl) (Oc om ?_)))
    refine ae.ag ⟨[(0,_),(5,_),(6,_),(7,_),(8,_),(9,_),(10,_),(21,B (!x_7))],[(103,_),(104,_)]⟩ rfl (er (!x_7) [] (fun g10=>trivial) (fun g10=>om) (er (!x_7) [] (fun g11=>by exact trivial) (fun g11=>fO eQ (by decide) (by decide) rfl rfl rfl) (er (!x_7) [23] (fun g12=>by exact ⟨g12,trivial⟩) (fun g12=>bn au rfl rfl rfl) ?_)))
    obtain ⟨x_8,e14,h7⟩:=aN h7
    refine er (!x_7) [22,24] (fun g13=>⟨g13,g13,trivial⟩) (fun g13=>aI fI (aC (gc e14 g13)) (az (e:=eB) (gc e14 g13)) rfl rfl) (er (!x_7) [25] (fun g15=>⟨g15,trivial⟩) (fun g15=>aE gP rfl rfl) (er (!x_7) [26] (fun g16=>⟨g16,trivial⟩) (fun g16=>dM rfl) (Oc (aR (fun e=>e) rfl rfl rfl rfl) (ae.ah ⟨[(0,_),(5,_),(6,_),(8,_),(9,_),(10,_),(28,B ((!x_7) && (!x_8)))],[(103,_)]⟩ rfl (ab.ite h7 rfl (fun _ h7=>?_) (fun _ h7=>?_))))))
    ·refine ab.aa (Oc om (Oc om (Oc (aO (k:=105) (es:=[x_3].map eI) ak rfl rfl (bl fun _=>rfl) rfl (by decide) (by decide) rfl) ?_)))
     obtain ⟨x_9,e17,h7⟩:=aN h7
     refine Oc (cM ak (gn e17) (gm e17) rfl rfl rfl rfl (dG e17) rfl) (Oc oa ?_)
     refine ae.nil (Fin.ai ?_)
     exact Fin.join [0,5,8,9,10] [103] x_9 (Option.some.inj h7) rfl
    ·refine ab.skip (Fin.ai ?_)
     exact Fin.join [0,5,8,9,10] [103] out_2 (Option.some.inj h7) rfl
   ·rintro out_5 hv
    subst v6
    refine ab.aa (Oc (aX rfl rfl) (Oc om ?_))
    refine ae.nil ?_
    exact Fin.bz [0,5,8,9,10] [103] (out_5,IntKind.i64.wrap (x_3 + 1)) (Option.some.inj h4) rfl
  ·refine ab.exit (Fin.aj ?_)
   obtain rfl:=hy5 _ (Option.some.inj h4).symm
   refine Fin.aj (Fin.aG ?_)
   exact Fin.join [5] [103] out_2 rfl rfl
 ·rintro out_1 hv
  subst v1
  refine ab.seq (ab.aa ?_)
  refine Oc om (Oc oa ?_)
  refine ae.ah ⟨[(4,.b (.row 103))],[(103,_)]⟩ rfl (ab.ret ?_)
  obtain rfl:=Option.some.inj h
  refine Fin.ag ⟨[(4,_)],[(103,_)]⟩ rfl (Fin.k8 103 kr0 [.row 103] (.inl rfl) rfl (.cons (.tmp rfl) .nil) rfl rfl rfl rfl ⟨rfl,rfl⟩)
def bI (F:Nat) (x0:Int) (y0:Int) (c0up:ba):Option (Bool × ba) :=
 Option.bind (bu F x0 c0up) (bL fun x_1 x_2=>Option.bind (bu F y0 x_2) (bL fun x_3 x_4=>if (decide (x_1 = x_3)) = true then (some (false,x_4)) else (some (true,dp x_4 (max x_1 x_3) (min x_1 x_3)))))
theorem eJ {F:Nat} {x0:Int} {y0:Int} {c0up:ba} {r:Bool × ba} (h:bI F x0 y0 c0up = some r):aA Try.prog [] 44 [(1,.mq c0up)] [.xa [.row 1],.one (.i x0),.one (.i y0)] (Is [(1,.mq r.2)] (.b (.one (.bool r.1)))):=by
 unfold bI at h
 refine aA.intro 26 Try.func44 Try.ntmps44 rfl (by simp) fun E=>?_
 show ab _ E ⟨26,[1],[1],[]⟩ _ ⟨[(0,.b (.xa [.row 1])),(1,I x0),(2,I y0)],[(1,.mq c0up)]⟩ _
 refine ab.seq (ab.aa ?_)
 refine Oc (ka (k:=101) rfl rfl rfl rfl) (Oc oa ?_)
 refine ae.ah ⟨[(1,I x0),(2,I y0),(3,Pt 101 0)],[(1,.mq c0up),(101,.ar 52 [.row 1])]⟩ rfl (ab.seq ?_)
 obtain ⟨⟨x_1,x_2⟩,e1,h⟩:=aN h
 obtain ⟨⟨x_3,x_4⟩,e2,h⟩:=aN h
 refine ab.mP mixed [false,false,true,false,false,true,false,false] [.b (.xa [.row 1]),I x0,I x_1,.b (.xa [.row 1]),I y0,I x_3,I x_1,I x_3] [⟨[false,false,false,false,false,false,false,false],[(1,I x0),(2,I y0),(3,Pt 101 0)],[(1,.mq c0up),(101,.ar 52 [.row 1])],[true,true,true,true,true,true,true,true],[],[5,6,7]⟩,⟨[false,false,true,false,false,false,false,false],[(1,I x0),(2,I y0),(3,Pt 101 0)],[(1,.mq x_2),(101,.ar 52 [.row 1])],[true,true,true,true,true,true,true,true],[0,1,2],[6,7]⟩,⟨[false,false,true,false,false,true,false,false],[(1,I x0),(2,I y0),(3,Pt 101 0)],[(1,.mq x_4),(101,.ar 52 [.row 1])],[true,true,true,true,true,true,true,true],[0,1,2,3,4,5],[]⟩] rfl (⟨by kernel_rfl,⟨⟨.b (.xa [.row 1]),fun _=>rfl,fun _=>.p (by exact (cG cN rfl rfl rfl rfl).kH rfl)⟩,⟨I x0,fun _=>rfl,fun _=>.p (by exact aq rfl)⟩,⟨_,[],I x_1,rfl,fun _=>rfl,rfl,rfl,fun _=>.fC [1,101] (by exact .p (by exact bm (own_a:=[(1,_)]) (b9 e1) lO rfl ⟨rfl,trivial⟩ rfl rfl)) (by exact rfl)⟩,⟨.b (.xa [.row 1]),fun _=>rfl,fun _=>.p (by exact (cG cN rfl rfl rfl rfl).kH rfl)⟩,⟨I y0,fun _=>rfl,fun _=>.p (by exact aq rfl)⟩,trivial,trivial,trivial,trivial⟩,⟨by kernel_rfl,⟨trivial,trivial,trivial,⟨.b (.xa [.row 1]),fun _=>rfl,fun _=>.p (by exact (cG cN rfl rfl rfl rfl).kH rfl)⟩,⟨I y0,fun _=>rfl,fun _=>.p (by exact aq rfl)⟩,⟨_,[],I x_3,rfl,fun _=>rfl,rfl,rfl,fun _=>.fC [1,101] (by exact .p (by exact bm (own_a:=[(1,_)]) (b9 e2) lO rfl ⟨rfl,trivial⟩ rfl rfl)) (by exact rfl)⟩,trivial,trivial,trivial⟩,⟨by kernel_rfl,⟨trivial,trivial,trivial,trivial,trivial,trivial,⟨I x_1,fun _=>rfl,fun _=>.p (by exact l6 rfl)⟩,⟨I x_3,fun _=>rfl,fun _=>.p (by exact l6 rfl)⟩,trivial⟩,trivial⟩⟩⟩) rfl rfl rfl [3,7,8] [1,101] (s':=⟨[(3,_),(7,I x_1),(8,I x_3)],[(1,.mq x_4),(101,_)]⟩) rfl (ab.seq (ab.seq (ab.aa ?_)))
 refine Oc om (Oc om (Oc (cT rfl rfl) ?_))
 refine ae.ah ⟨[(3,_),(7,_),(8,_),(17,B (decide (x_1 = x_3)))],[(1,_),(101,_)]⟩ rfl (ab.ite h rfl (fun _ h=>?_) (fun _ h=>?_))
 ·refine ab.seq (ab.aa ?_)
  refine Oc oa (ae.ah ⟨[(6,B false)],[(1,_)]⟩ rfl (ab.ret (Fin.aD ?_)))
  obtain rfl:=Option.some.inj h
  refine Fin.ag ⟨[(6,_)],[(1,_)]⟩ rfl ?_
  exact Fin.result [.one (.bool false)] (.inl rfl) rfl (.cons (.tmp rfl) .nil) ⟨rfl,rfl⟩
 ·refine ab.skip (Fin.ag ⟨[(3,_),(7,_),(8,_)],[(1,_),(101,_)]⟩ rfl (Fin.then (ab.seq (ab.aa ?_))))
  refine Oc (bH gD rfl rfl) (Oc (aV jY rfl rfl rfl) (Oc om (Oc om (Oc (op_max rfl rfl) (Oc om ?_)))))
  refine ae.ag ⟨[(8,_),(19,.b (.row 1)),(22,I (max x_1 x_3)),(23,I x_1)],[(1,_)]⟩ rfl (Oc om (Oc (pX rfl rfl) (Oc (jI dO rfl rfl rfl rfl) ?_)))
  refine ae.ah ⟨[],[(1,.mq (dp x_4 (max x_1 x_3) (min x_1 x_3)))]⟩ rfl (ab.seq (ab.aa ?_))
  refine Oc oa (ae.ah ⟨[(6,B true)],[(1,_)]⟩ rfl (ab.ret ?_))
  obtain rfl:=Option.some.inj h
  refine Fin.ag ⟨[(6,_)],[(1,_)]⟩ rfl ?_
  exact Fin.result [.one (.bool true)] (.inl rfl) rfl (.cons (.tmp rfl) .nil) ⟨rfl,rfl⟩
def cP (F:Nat) (fixed0:List Bool) (links0:List A2):Option (ba × (List Int)) :=
 Option.bind (iter F (bL fun up_2 x_3=>if (decide (x_3 < (fixed0.length:Int))) = true then (Option.bind ((av fixed0 x_3).bind fun x_6=>if (!x_6) = true then (Option.bind (bu F x_3 up_2) (bL fun x_7 x_8=>some x_8)) else (some up_2)) (fun up_5=>some (.inl (up_5,IntKind.i64.wrap (x_3 + 1))))) else (some (.inr up_2))) (([]:ba),0)) (fun up_1=>Option.bind ((dg F fixed0 links0).bind fun x_11=>iter F (ku fun up_12 out_13 x_14=>if (decide (x_14 < (x_11.length:Int))) = true then (Option.bind ((av x_11 x_14).bind fun x_19=>(av links0 x_19).bind fun x_20=>(av links0 x_19).bind fun x_21=>Option.bind (bI F x_20.a0 x_21.a1 up_12) (bL fun x_22 x_23=>if x_22 = true then ((dw out_13 [x_19]).bind fun x_24=>some (x_23,x_24)) else (some (x_23,out_13)))) (bL fun up_17 out_18=>some (.inl (up_17,out_18,IntKind.i64.wrap (x_14 + 1))))) else (some (.inr (up_12,out_13)))) (up_1,[],0)) (bL fun up_9 out_10=>some (up_9,out_10)))
theorem fb {F:Nat} {fixed0:List Bool} {links0:List A2} {r:ba × (List Int)} (h:cP F fixed0 links0 = some r):aA Try.prog [] 30 [] [.one (.sl 1 (fixed0.map eB)),.one (.sl 2 (links0.map (cR .i64)))] (Is [(51,.mq r.1),(52,.row 3 1 (r.2.map eI))] (.ez [.xa [.row 51],.row 52])):=by
 unfold cP at h
 refine aA.intro 54 Try.func30 Try.ntmps30 rfl (by simp) fun E=>?_
 show ab _ E ⟨54,[],[],[]⟩ _ ⟨[(0,.b (.one (.sl 1 (fixed0.map eB)))),(1,.b (.one (.sl 2 (links0.map (cR .i64)))))],[]⟩ _
 refine ab.seq (ab.aa ?_)
 refine Oc (bh (k:=101) iE rfl) (Oc oa ?_)
 refine ae.ah ⟨[(0,.b (.one (.sl 1 (fixed0.map eB)))),(1,.b (.one (.sl 2 (links0.map (cR .i64))))),(4,Pt 101 0)],[(101,.box 52 [.raw (.map none)])]⟩ rfl (ab.seq (ab.aa ?_))
 refine Oc (iq (k:=102) lH rfl) (Oc ((ni nS rfl rfl).kH rfl) (Oc (bh (k:=103) iE rfl) ?_))
 refine ae.nG 103 rfl (Oc (fi cN rfl rfl rfl rfl rfl (Nat.le_of_ble_eq_true rfl) rfl) (ae.ah ⟨[(0,.b (.one (.sl 1 (fixed0.map eB)))),(1,.b (.one (.sl 2 (links0.map (cR .i64))))),(4,Pt 101 0),(6,Pt 103 0)],[(101,.box 52 [.raw (.map none)]),(102,.mq ([]:ba)),(103,.ar 52 [.row 102])]⟩ rfl ?_))
 obtain ⟨v1,h2,h⟩:=aN h
 refine ab.cA (v:=v1) (fun (up_1:ba)=>⟨[(0,.b (.one (.sl 1 (fixed0.map eB)))),(1,.b (.one (.sl 2 (links0.map (cR .i64))))),(4,Pt 101 0),(6,Pt 103 0)],[(101,.box 52 [.raw (.map none)]),(102,.mq up_1),(103,.ar 52 [.row 102])]⟩) (fun z=>z) ?_ ?_
 ·refine ab.seq (ab.aa ?_)
  refine Oc om (Oc (ay cY rfl (List.length_map _)) (Oc om ?_))
  refine ae.ah ⟨[(0,_),(1,_),(4,_),(6,_),(14,.b (.one (.sl 1 (fixed0.map eB)))),(15,I (fixed0.length:Int)),(16,I 0)],[(101,_),(102,_),(103,_)]⟩ rfl (ab.block (ab.cy h2 (bL fun (up_2:ba) (x_3:Int)=>⟨[(0,.b (.one (.sl 1 (fixed0.map eB)))),(1,.b (.one (.sl 2 (links0.map (cR .i64))))),(4,Pt 101 0),(6,Pt 103 0),(14,.b (.one (.sl 1 (fixed0.map eB)))),(15,I (fixed0.length:Int)),(16,I x_3)],[(101,.box 52 [.raw (.map none)]),(102,.mq up_2),(103,.ar 52 [.row 102])]⟩) [0,1,4,6,14,15,16] [101,102,103] rfl ?_))
  rintro ⟨up_2,x_3⟩ o3 h4 hy5
  refine ab.seq (ab.aa ?_)
  refine Oc (bf rfl rfl) (ae.ah ⟨[(0,_),(1,_),(4,_),(6,_),(14,_),(15,_),(16,_),(17,B (decide (x_3 < (fixed0.length:Int))))],[(101,_),(102,_),(103,_)]⟩ rfl (ab.seq (ab.ite h4 rfl (fun _ h4=>?_) (fun _ h4=>?_))))
  ·refine ab.skip (Fin.ag ⟨[(0,_),(1,_),(4,_),(6,_),(14,_),(15,_),(16,_)],[(101,_),(102,_),(103,_)]⟩ rfl (Fin.then ?_))
   obtain ⟨v6,h7,h4⟩:=aN h4
   refine ab.cA (v:=v6) (fun (up_5:ba)=>⟨[(0,.b (.one (.sl 1 (fixed0.map eB)))),(1,.b (.one (.sl 2 (links0.map (cR .i64))))),(4,Pt 101 0),(6,Pt 103 0),(14,.b (.one (.sl 1 (fixed0.map eB)))),(15,I (fixed0.length:Int)),(16,I x_3)],[(101,.box 52 [.raw (.map none)]),(102,.mq up_5),(103,.ar 52 [.row 102])]⟩) (fun z=>z) ?_ ?_
   ·refine ab.block (ab.seq (ab.aa ?_))
    refine Oc om ?_
    obtain ⟨x_6,e8,h7⟩:=aN h7
    refine Oc (aI fI (aC e8) (az (e:=eB) e8) rfl rfl) (Oc (aE gP rfl rfl) (Oc oa (Oc oa ?_)))
    refine ae.ah ⟨[(0,_),(1,_),(4,_),(6,_),(7,I x_3),(8,B x_6),(14,_),(15,_),(16,_)],[(101,_),(102,_),(103,_)]⟩ rfl (ab.seq (ab.aa ?_))
    refine Oc om (Oc (dM rfl) ?_)
    refine ae.ah ⟨[(0,_),(1,_),(4,_),(6,_),(7,_),(14,_),(15,_),(16,_),(22,B (!x_6))],[(101,_),(102,_),(103,_)]⟩ rfl (ab.ite h7 rfl (fun _ h7=>?_) (fun _ h7=>?_))
    ·refine ab.aa (Oc ((cG cN rfl rfl rfl rfl).kH rfl) (Oc om ?_))
     obtain ⟨⟨x_7,x_8⟩,e9,h7⟩:=aN h7
     refine Oc (bm (own_a:=[(102,_)]) ((b9 e9).sw 1 102) lO rfl ⟨rfl,trivial⟩ rfl rfl) (ae.nil (Fin.ai ?_))
     exact Fin.join [0,1,4,6,14,15,16] [101,102,103] x_8 (Option.some.inj h7) rfl
    ·refine ab.skip (Fin.ai ?_)
     exact Fin.join [0,1,4,6,14,15,16] [101,102,103] up_2 (Option.some.inj h7) rfl
   ·rintro up_5 hv
    subst v6
    refine ab.aa (Oc (aX rfl rfl) (Oc om ?_))
    refine ae.nil ?_
    exact Fin.bz [0,1,4,6,14,15,16] [101,102,103] (up_5,IntKind.i64.wrap (x_3 + 1)) (Option.some.inj h4) rfl
  ·refine ab.exit (Fin.aj ?_)
   obtain rfl:=hy5 _ (Option.some.inj h4).symm
   refine Fin.aj (Fin.aG ?_)
   exact Fin.join [0,1,4,6] [101,102,103] up_2 rfl rfl
 ·rintro up_1 hv
  subst v1
  refine ab.seq (ab.aa ?_)
  refine Oc oa (ae.ah ⟨[(0,_),(1,_),(4,_),(6,_),(9,.b (.one (.nil)))],[(101,_),(102,_),(103,_)]⟩ rfl ?_)
  obtain ⟨v10,h11,h⟩:=aN h
  refine ab.cA (v:=v10) (bL fun (up_9:ba) (out_10:List Int)=>⟨[(4,Pt 101 0),(6,Pt 103 0),(9,.b (.row 106))],[(101,.box 52 [.raw (.map none)]),(102,.mq up_9),(103,.ar 52 [.row 102]),(106,.row 3 1 (out_10.map eI))]⟩) (fun z=>z) ?_ ?_
  ·refine ab.seq (ab.aa ?_)
   refine Oc om (Oc om ?_)
   obtain ⟨x_11,e12,h11⟩:=aN h11
   refine Oc (bm (gZ 104 e12) sd rfl trivial rfl rfl) (Oc (gE fX rfl rfl (List.length_map _)) (Oc om ?_))
   refine ae.ah ⟨[(1,_),(4,_),(6,_),(9,_),(29,.b (.row 104)),(30,I (x_11.length:Int)),(31,I 0)],[(101,_),(102,_),(103,_),(104,.row 3 1 (x_11.map eI))]⟩ rfl (ab.block (ab.dS 9 106 1 3 rfl (by decide) rfl (ab.cy h11 (ku fun (up_12:ba) (out_13:List Int) (x_14:Int)=>⟨[(1,.b (.one (.sl 2 (links0.map (cR .i64))))),(4,Pt 101 0),(6,Pt 103 0),(9,.b (.row 106)),(29,.b (.row 104)),(30,I (x_11.length:Int)),(31,I x_14)],[(101,.box 52 [.raw (.map none)]),(102,.mq up_12),(103,.ar 52 [.row 102]),(104,.row 3 1 (x_11.map eI)),(106,.row 3 1 (out_13.map eI))]⟩) [1,4,6,9,29,30,31] [101,102,103,104,106] rfl ?_)))
   rintro ⟨up_12,out_13,x_14⟩ o13 h14 hy15
   refine ab.seq (ab.aa ?_)
   refine Oc (bf rfl rfl) (ae.ah ⟨[(1,_),(4,_),(6,_),(9,_),(29,_),(30,_),(31,_),(32,B (decide (x_14 < (x_11.length:Int))))],[(101,_),(102,_),(103,_),(104,_),(106,_)]⟩ rfl (ab.seq (ab.ite h14 rfl (fun _ h14=>?_) (fun _ h14=>?_))))
   ·refine ab.skip (Fin.ag ⟨[(1,_),(4,_),(6,_),(9,_),(29,_),(30,_),(31,_)],[(101,_),(102,_),(103,_),(104,_),(106,_)]⟩ rfl (Fin.then ?_))
    obtain ⟨v16,h17,h14⟩:=aN h14
    refine ab.cA (v:=v16) (bL fun (up_17:ba) (out_18:List Int)=>⟨[(1,.b (.one (.sl 2 (links0.map (cR .i64))))),(4,Pt 101 0),(6,Pt 103 0),(9,.b (.row 106)),(29,.b (.row 104)),(30,I (x_11.length:Int)),(31,I x_14)],[(101,.box 52 [.raw (.map none)]),(102,.mq up_17),(103,.ar 52 [.row 102]),(104,.row 3 1 (x_11.map eI)),(106,.row 3 1 (out_18.map eI))]⟩) (fun z=>z) ?_ ?_
    ·refine ab.block (ab.seq (ab.aa ?_))
     obtain ⟨x_19,e18,h17⟩:=aN h17
     refine Oc (an ak (aC e18) (aL e18) rfl rfl rfl rfl) (Oc (ax (i:=(x_14:Int).toNat) (f:=0) au rfl rfl rfl (az (e:=eI) e18) rfl) (Oc oa ?_))
     refine ae.ah ⟨[(1,_),(4,_),(6,_),(9,_),(11,I x_19),(29,_),(30,_),(31,_)],[(101,_),(102,_),(103,_),(104,_),(106,_)]⟩ rfl (ab.seq ?_)
     obtain ⟨x_20,e19,h17⟩:=aN h17
     obtain ⟨x_21,e20,h17⟩:=aN h17
     obtain ⟨⟨x_22,x_23⟩,e21,h17⟩:=aN h17
     refine ab.c8 mixed 11 [.b (.xa [.row 102]),.b (.one (.sl 2 (links0.map (cR .i64)))),I x_19,.b (.cC ((cR .i64) x_20)),.b (.cC [.i x_20.a0]),I x_20.a0,.b (.one (.sl 2 (links0.map (cR .i64)))),I x_19,.b (.cC ((cR .i64) x_21)),.b (.cC [.i x_21.a1]),I x_21.a1] [1,4,6,9,11,29,30,31,46] [101,102,103,104,106] (s':=⟨[(1,_),(4,_),(6,_),(9,_),(11,_),(29,_),(30,_),(31,_),(46,B x_22)],[(101,_),(102,.mq x_23),(103,_),(104,_),(106,_)]⟩) rfl ⟨fun _=>.p ((cG cN rfl rfl rfl rfl).kH rfl),fun _=>.p om,fun _=>.p om,fun _=>.p (aI gO (aC e19) (az (e:=(cR .i64)) e19) rfl rfl),fun _=>.p (fj eQ (by decide) (by decide) rfl rfl rfl),fun _=>.p (aE au rfl rfl),fun _=>.p om,fun _=>.p om,fun _=>.p (aI gO (aC e20) (az (e:=(cR .i64)) e20) rfl rfl),fun _=>.p (fj eQ (by decide) (by decide) rfl rfl rfl),fun _=>.p (aE au rfl rfl),trivial⟩ ⟨_,by exact .p (bm (own_a:=[(102,_)]) ((eJ e21).sw 1 102) sf rfl ⟨rfl,trivial⟩ rfl rfl),rfl⟩ rfl (ab.ite h17 rfl (fun _ h17=>?_) (fun _ h17=>?_))
     ·refine ab.aa (Oc om (Oc om (Oc (aO (k:=107) (es:=[x_19].map eI) ak rfl rfl (bl fun _=>rfl) rfl (by decide) (by decide) rfl) ?_)))
      obtain ⟨x_24,e22,h17⟩:=aN h17
      refine Oc (cM ak (gn e22) (gm e22) rfl rfl rfl rfl (dG e22) rfl) (Oc oa ?_)
      refine ae.nil (Fin.ai ?_)
      exact Fin.join [1,4,6,9,29,30,31] [101,102,103,104,106] (x_23,x_24) (Option.some.inj h17) rfl
     ·refine ab.skip (Fin.ai ?_)
      exact Fin.join [1,4,6,9,29,30,31] [101,102,103,104,106] (x_23,out_13) (Option.some.inj h17) rfl
    ·rintro ⟨up_17,out_18⟩ hv
     subst v16
     refine ab.aa (Oc (aX rfl rfl) (Oc om ?_))
     refine ae.nil ?_
     exact Fin.bz [1,4,6,9,29,30,31] [101,102,103,104,106] (up_17,out_18,IntKind.i64.wrap (x_14 + 1)) (Option.some.inj h14) rfl
   ·refine ab.exit (Fin.aj ?_)
    obtain rfl:=hy15 _ (Option.some.inj h14).symm
    refine Fin.aj (Fin.aG ?_)
    exact Fin.join [4,6,9] [101,102,103,106] (up_12,out_13) rfl rfl
  ·rintro ⟨up_9,out_10⟩ hv
   subst v10
   refine ab.seq (ab.aa ?_)
   refine Oc ((cG cN rfl rfl rfl rfl).kH rfl) (Oc om ?_)
   refine ae.nG 101 rfl (Oc (fi cN rfl rfl rfl rfl rfl (Nat.le_of_ble_eq_true rfl) rfl) (Oc oa ?_))
   refine ae.ah ⟨[(4,Pt 101 0),(5,.b (.row 106))],[(101,.ar 52 [.row 102]),(102,.mq up_9),(106,.row 3 1 (out_10.map eI))]⟩ rfl (ab.ret ?_)
   obtain rfl:=Option.some.inj h
   refine Fin.ag ⟨[(4,Pt 101 0),(5,.b (.row 106))],[(101,.ar 52 [.row 102]),(102,.mq up_9),(106,.row 3 1 (out_10.map eI))]⟩ rfl (Fin.rename 102 51 rfl (by decide) rfl (Fin.rename 106 52 rfl (by decide) rfl ?_))
   exact Fin.resultX [51,52] [.xa [.row 51],.row 52] (.inl rfl) rfl (.cons (.xa cN rfl rfl rfl rfl rfl) (.cons (.gH (.tmp rfl)) .nil)) ⟨rfl,rfl⟩
def bt (F:Nat) (c0up:ba):Option ((List (List Int)) × ba) :=
 Option.bind (m3 c0up) (fun ks_1=>(cW F (ks_1)).bind fun x_7=>Option.bind (iter F (un4 fun up_10 at_11 out_12 x_13=>if (decide (x_13 < (x_7.length:Int))) = true then (Option.bind ((av x_7 x_13).bind fun x_19=>Option.bind (bu F x_19 up_10) (bL fun x_20 x_21=>Option.bind (if (decide (x_20 = x_19)) = true then ((dw out_12 [[]]).bind fun x_24=>some (dp at_11 x_19 (out_12.length:Int),x_24)) else (some (at_11,out_12))) (bL fun at_22 out_23=>(av out_23 (ca at_22 x_20)).bind fun x_25=>(dw x_25 [x_19]).bind fun x_26=>(av out_23 (ca at_22 x_20)).bind fun x_27=>some (x_21,at_22,out_23.set (ca at_22 x_20:Int).toNat x_26)))) (ku fun up_16 at_17 out_18=>some (.inl (up_16,at_17,out_18,IntKind.i64.wrap (x_13 + 1))))) else (some (.inr (out_12,up_10)))) (c0up,([]:ba),[],0)) (bL fun out_8 y_9=>some (out_8,y_9)))
theorem eH {F:Nat} {c0up:ba} {r:(List (List Int)) × ba} (h:bt F c0up = some r):aA Try.prog [] 31 [(1,.mq c0up)] [.xa [.row 1]] (Is [(1,.mq r.2)] (.b (.one (.sl 1 (r.1.map (eL 1 eI)))))):=by
 unfold bt at h
 refine aA.intro 59 Try.func31 Try.ntmps31 rfl (by simp) fun E=>?_
 show ab _ E ⟨59,[1],[1],[]⟩ _ ⟨[(0,.b (.xa [.row 1]))],[(1,.mq c0up)]⟩ _
 refine ab.seq (ab.aa ?_)
 refine Oc (ka (k:=101) rfl rfl rfl rfl) (Oc oa ?_)
 refine ae.ah ⟨[(1,Pt 101 0)],[(1,.mq c0up),(101,.ar 52 [.row 1])]⟩ rfl (ab.seq (ab.aa ?_))
 refine Oc oa (ae.ah ⟨[(1,_),(3,.b (.one (.nil)))],[(1,_),(101,_)]⟩ rfl (ab.seq (ab.seq (ab.aa ?_))))
 refine Oc (bH gD rfl rfl) (Oc (aV jY rfl rfl rfl) (Oc (lr 102 lH rfl rfl (by decide) rfl rfl) ?_))
 refine ae.ah ⟨[(1,_),(3,_),(12,Pt 102 0)],[(101,_),(102,.gp 1 c0up c0up none)]⟩ rfl (ab.dS 3 103 1 3 rfl (by decide) rfl (ab.ag ⟨[(1,_),(3,.b (.row 103)),(12,_)],[(101,_),(102,_),(103,.row 3 1 ([].map eI))]⟩ rfl ?_))
 obtain ⟨ks_1,e1,h⟩:=aN h
 obtain ⟨hk2,rfl⟩:=pk e1
 refine ab.block (ab.loop (fun (q:List Int × ba)=>⟨[(1,Pt 101 0),(3,.b (.row 103)),(12,Pt 102 0)],[(101,.ar 52 [.row 1]),(102,.gp 1 c0up q.2 none),(103,.row 3 1 (q.1.map eI))]⟩) (fun q=>(q.1 ++ q.2.map (·.1)).Perm (c0up.map (·.1))) (fun q=>q.2.length) ([],c0up) (by simp) rfl ?_)
 rintro ⟨vis_2,rs_3⟩ hI3
 refine ab.seq (ab.aa ?_)
 refine ae.nextM rfl rfl rfl (fun hr4=>?_) (fun p_4 r_5 r_6 hr4=>?_)
 ·subst hr4
  have hp5:vis_2.Perm (c0up.map (·.1)):=by simpa using hI3
  refine Oc (aF rfl rfl) (ae.ah ⟨[(1,_),(3,_),(12,_),(14,B false)],[(101,_),(102,.gp 1 c0up [] none),(103,.row 3 1 (vis_2.map eI))]⟩ rfl (ab.seq (ab.rS rfl (ab.exit (Fin.aj ?_)))))
  refine Fin.aj (Fin.ag ⟨[(1,_),(3,_),(12,_)],[(101,_),(102,_),(103,_)]⟩ rfl (Fin.oh 102 rfl rfl (Fin.aG (Fin.ag ⟨[(1,_),(3,_)],[(1,.mq c0up),(101,_),(103,_)]⟩ rfl (Fin.then (ab.seq (ab.aa ?_)))))))
  refine Oc om (ae.kj 103 rfl ?_)
  obtain ⟨x_7,e6,h⟩:=aN h
  refine Oc (bm (own_a:=[(103,_)]) ((eo (F:=F) (nh hp5 e6)).sw 1 103) oq rfl ⟨rfl,trivial⟩ rfl rfl) (ae.kX 103 rfl (ae.ah ⟨[(1,_),(3,_)],[(1,_),(101,_),(103,.row 3 1 (x_7.map eI))]⟩ rfl (ab.seq (ab.aa ?_))))
  refine Oc (iq (k:=104) lH rfl) (Oc oa ?_)
  refine ae.ah ⟨[(1,_),(3,_),(5,.b (.row 104))],[(1,_),(101,_),(103,_),(104,.mq ([]:ba))]⟩ rfl (ab.seq (ab.aa ?_))
  refine Oc oa (ae.ah ⟨[(1,_),(3,_),(5,_),(6,.b (.one (.nil)))],[(1,_),(101,_),(103,_),(104,_)]⟩ rfl ?_)
  obtain ⟨v7,h8,h⟩:=aN h
  refine ab.cA (v:=v7) (bL fun (out_8:List (List Int)) (y_9:ba)=>⟨[(6,.b (.row 106))],[(1,.mq y_9),(106,.rr 30 3 1 .none (out_8.map (eR eI)))]⟩) (fun z=>z) ?_ ?_
  ·refine ab.seq (ab.aa ?_)
   refine Oc om (Oc (gE fX rfl rfl (List.length_map _)) (Oc om ?_))
   refine ae.ah ⟨[(1,_),(5,_),(6,_),(24,.b (.row 103)),(25,I (x_7.length:Int)),(26,I 0)],[(1,_),(101,_),(103,_),(104,_)]⟩ rfl (ab.block (ab.k4 6 106 1 30 3 rfl (by decide) rfl (ab.cy h8 (un4 fun (up_10:ba) (at_11:ba) (out_12:List (List Int)) (x_13:Int)=>⟨[(1,Pt 101 0),(5,.b (.row 104)),(6,.b (.row 106)),(24,.b (.row 103)),(25,I (x_7.length:Int)),(26,I x_13)],[(1,.mq up_10),(101,.ar 52 [.row 1]),(103,.row 3 1 (x_7.map eI)),(104,.mq at_11),(106,.rr 30 3 1 .none (out_12.map (eR eI)))]⟩) [1,5,6,24,25,26] [1,101,103,104,106] rfl ?_)))
   rintro ⟨up_10,at_11,out_12,x_13⟩ o9 h10 hy11
   refine ab.seq (ab.aa ?_)
   refine Oc (bf rfl rfl) (ae.ah ⟨[(1,_),(5,_),(6,_),(24,_),(25,_),(26,_),(27,B (decide (x_13 < (x_7.length:Int))))],[(1,_),(101,_),(103,_),(104,_),(106,_)]⟩ rfl (ab.seq (ab.ite h10 rfl (fun _ h10=>?_) (fun _ h10=>?_))))
   ·refine ab.skip (Fin.ag ⟨[(1,_),(5,_),(6,_),(24,_),(25,_),(26,_)],[(1,_),(101,_),(103,_),(104,_),(106,_)]⟩ rfl (Fin.then ?_))
    obtain ⟨v12,h13,h10⟩:=aN h10
    refine ab.cA (v:=v12) (ku fun (up_16:ba) (at_17:ba) (out_18:List (List Int))=>⟨[(1,Pt 101 0),(5,.b (.row 104)),(6,.b (.row 106)),(24,.b (.row 103)),(25,I (x_7.length:Int)),(26,I x_13)],[(1,.mq up_16),(101,.ar 52 [.row 1]),(103,.row 3 1 (x_7.map eI)),(104,.mq at_17),(106,.rr 30 3 1 .none (out_18.map (eR eI)))]⟩) (fun z=>z) ?_ ?_
    ·refine ab.block (ab.seq (ab.aa ?_))
     obtain ⟨x_19,e14,h13⟩:=aN h13
     refine Oc (an ak (aC e14) (aL e14) rfl rfl rfl rfl) (Oc (ax (i:=(x_13:Int).toNat) (f:=0) au rfl rfl rfl (az (e:=eI) e14) rfl) (Oc oa ?_))
     refine ae.ah ⟨[(1,_),(5,_),(6,_),(8,I x_19),(24,_),(25,_),(26,_)],[(1,_),(101,_),(103,_),(104,_),(106,_)]⟩ rfl (ab.seq (ab.aa ?_))
     refine Oc ((cG cN rfl rfl rfl rfl).kH rfl) (Oc om ?_)
     obtain ⟨⟨x_20,x_21⟩,e15,h13⟩:=aN h13
     refine Oc (bm (own_a:=[(1,_)]) (b9 e15) lO rfl ⟨rfl,trivial⟩ rfl rfl) (Oc oa ?_)
     refine ae.ah ⟨[(1,_),(5,_),(6,_),(8,_),(9,I x_20),(24,_),(25,_),(26,_)],[(1,.mq x_21),(101,_),(103,_),(104,_),(106,_)]⟩ rfl ?_
     obtain ⟨v16,h17,h13⟩:=aN h13
     refine ab.cA (v:=v16) (bL fun (at_22:ba) (out_23:List (List Int))=>⟨[(1,Pt 101 0),(5,.b (.row 104)),(6,.b (.row 106)),(8,I x_19),(9,I x_20),(24,.b (.row 103)),(25,I (x_7.length:Int)),(26,I x_13)],[(1,.mq x_21),(101,.ar 52 [.row 1]),(103,.row 3 1 (x_7.map eI)),(104,.mq at_22),(106,.rr 30 3 1 .none (out_23.map (eR eI)))]⟩) (fun z=>z) ?_ ?_
     ·refine ab.seq (ab.aa ?_)
      refine Oc om (Oc om (Oc (cT rfl rfl) ?_))
      refine ae.ah ⟨[(1,_),(5,_),(6,_),(8,_),(9,_),(24,_),(25,_),(26,_),(35,B (decide (x_20 = x_19)))],[(1,_),(101,_),(103,_),(104,_),(106,_)]⟩ rfl (ab.ite h17 rfl (fun _ h17=>?_) (fun _ h17=>?_))
      ·refine ab.seq (ab.aa ?_)
       refine Oc om (Oc om (Oc om (Oc (kS mo rfl rfl (List.length_map _)) (Oc (jI dO rfl rfl rfl rfl) ?_))))
       refine ae.ah ⟨[(1,_),(5,_),(6,_),(8,_),(9,_),(24,_),(25,_),(26,_)],[(1,_),(101,_),(103,_),(104,.mq (dp at_11 x_19 (out_12.length:Int))),(106,_)]⟩ rfl (ab.aa (Oc om (Oc (aO (k:=107) (es:=[[.nil]]) dR rfl rfl (fun ps h=>by simp at h; subst h; rfl) rfl (by decide) (by decide) rfl) ?_)))
       obtain ⟨x_24,e18,h17⟩:=aN h17
       refine Oc (jT dR (rr_b e18) (rr_m e18) rfl rfl rfl rfl (r6 e18) rfl) (Oc oa ?_)
       refine ae.nil ?_
       exact Fin.join [1,5,6,8,9,24,25,26] [1,101,103,104,106] (dp at_11 x_19 (out_12.length:Int),x_24) (Option.some.inj h17) rfl
      ·refine ab.skip ?_
       exact Fin.join [1,5,6,8,9,24,25,26] [1,101,103,104,106] (at_11,out_12) (Option.some.inj h17) rfl
     ·rintro ⟨at_22,out_23⟩ hv
      subst v16
      refine ab.ag ⟨[(1,_),(5,_),(6,_),(8,_),(9,_),(24,_),(25,_),(26,_)],[(1,_),(101,_),(103,_),(104,_),(106,_)]⟩ rfl ?_
      obtain ⟨x_25,e19,h13⟩:=aN h13
      obtain ⟨x_26,e20,h13⟩:=aN h13
      obtain ⟨x_27,e21,h13⟩:=aN h13
      refine ab.fZ mixed [false,false,false,false,false,false,false,false,false,true,false,false,true,false,true] [.b (.row 106),.b (.row 104),I x_20,I (ca at_22 x_20),.b (.row 106),.b (.row 104),I x_20,I (ca at_22 x_20),.b (.a7 106 (ca at_22 x_20:Int).toNat),.b (.row 108),I x_19,.b (.one (.sl 1 ([x_19].map eI))),.b (.row 110),.b (.a7 106 (ca at_22 x_20:Int).toNat),B true] [⟨[false,false,false,false,false,false,false,false,false,false,false,false,false,false,false],[(1,Pt 101 0),(5,.b (.row 104)),(6,.b (.row 106)),(8,I x_19),(9,I x_20),(24,.b (.row 103)),(25,I (x_7.length:Int)),(26,I x_13)],[(1,.mq x_21),(101,.ar 52 [.row 1]),(103,.row 3 1 (x_7.map eI)),(104,.mq at_22),(106,.rr 30 3 1 .none (out_23.map (eR eI)))],[true,true,true,true,true,true,true,true,true,true,true,true,true,true,true],[],[12,13,14]⟩,⟨[false,false,false,false,false,false,false,false,false,true,false,false,false,false,false],[(1,Pt 101 0),(5,.b (.row 104)),(6,.b (.row 106)),(8,I x_19),(9,I x_20),(24,.b (.row 103)),(25,I (x_7.length:Int)),(26,I x_13)],[(1,.mq x_21),(101,.ar 52 [.row 1]),(103,.row 3 1 (x_7.map eI)),(104,.mq at_22),(106,.rr 30 3 1 (.at (ca at_22 x_20:Int).toNat) (out_23.map (eR eI))),(108,.row 3 1 (x_25.map eI))],[true,true,true,true,true,true,true,true,true,true,true,true,true,true,true],[4,5,6,7,8,9],[13,14]⟩,⟨[false,false,false,false,false,false,false,false,false,true,false,false,true,false,false],[(1,Pt 101 0),(5,.b (.row 104)),(6,.b (.row 106)),(8,I x_19),(9,I x_20),(24,.b (.row 103)),(25,I (x_7.length:Int)),(26,I x_13)],[(1,.mq x_21),(101,.ar 52 [.row 1]),(103,.row 3 1 (x_7.map eI)),(104,.mq at_22),(106,.rr 30 3 1 (.at (ca at_22 x_20:Int).toNat) (out_23.map (eR eI))),(110,.row 3 1 (x_26.map eI))],[true,true,true,true,true,true,true,true,true,true,true,true,true,true,true],[4,5,6,7,8,9,10,11,12],[]⟩,⟨[false,false,false,false,false,false,false,false,false,true,false,false,true,false,true],[(1,Pt 101 0),(5,.b (.row 104)),(6,.b (.row 106)),(8,I x_19),(9,I x_20),(24,.b (.row 103)),(25,I (x_7.length:Int)),(26,I x_13)],[(1,.mq x_21),(101,.ar 52 [.row 1]),(103,.row 3 1 (x_7.map eI)),(104,.mq at_22),(106,.rr 30 3 1 .none ((out_23.set (ca at_22 x_20:Int).toNat x_26).map (eR eI)))],[true,true,true,true,true,true,true,true,true,true,true,true,false,true,true],[0,1,2,3,4,5,6,7,8,9,10,11,12,13,14],[]⟩] rfl (⟨by kernel_rfl,⟨⟨.b (.row 106),fun _=>rfl,fun _=>.p (by exact aq rfl)⟩,⟨.b (.row 104),fun _=>rfl,fun _=>.p (by exact aq rfl)⟩,⟨I x_20,fun _=>rfl,fun _=>.p (by exact aq rfl)⟩,⟨I (ca at_22 x_20),fun _=>rfl,fun _=>.p (by exact fe dO rfl rfl rfl)⟩,⟨.b (.row 106),fun _=>rfl,fun _=>.p (by exact aq rfl)⟩,⟨.b (.row 104),fun _=>rfl,fun _=>.p (by exact aq rfl)⟩,⟨I x_20,fun _=>rfl,fun _=>.p (by exact aq rfl)⟩,⟨I (ca at_22 x_20),fun _=>rfl,fun _=>.p (by exact fe dO rfl rfl rfl)⟩,⟨.b (.a7 106 (ca at_22 x_20:Int).toNat),fun _=>rfl,fun _=>.p (by exact di dR (aC e19) (aL e19) rfl rfl rfl rfl)⟩,⟨_,[108],.b (.row 108),rfl,fun _=>rfl,rfl,rfl,fun _=>.fC [1,101,103,104,106,108] (by exact .p (by exact iZ (i:=(ca at_22 x_20:Int).toNat) 108 aZ rfl rfl rfl (az (e:=eR eI) e19) (by decide) rfl rfl)) (by exact rfl)⟩,⟨I x_19,fun _=>rfl,fun _=>.p (by exact aq rfl)⟩,⟨.b (.one (.sl 1 ([x_19].map eI))),fun _=>rfl,fun _=>.p (by exact cn (es:=[x_19].map eI) ak rfl rfl (bl fun _=>rfl) rfl (by decide) (by decide))⟩,trivial,trivial,trivial,trivial⟩,⟨by kernel_rfl,⟨⟨.b (.row 106),fun _=>rfl,fun _=>.p (by exact aq rfl)⟩,⟨.b (.row 104),fun _=>rfl,fun _=>.p (by exact aq rfl)⟩,⟨I x_20,fun _=>rfl,fun _=>.p (by exact aq rfl)⟩,⟨I (ca at_22 x_20),fun _=>rfl,fun _=>.p (by exact fe dO rfl rfl rfl)⟩,trivial,trivial,trivial,trivial,trivial,trivial,⟨I x_19,fun _=>rfl,fun _=>.p (by exact aq rfl)⟩,⟨.b (.one (.sl 1 ([x_19].map eI))),fun _=>rfl,fun _=>.p (by exact cn (es:=[x_19].map eI) ak rfl rfl (bl fun _=>rfl) rfl (by decide) (by decide))⟩,⟨_,[110],.b (.row 110),rfl,fun _=>rfl,rfl,rfl,fun _=>.fC [1,101,103,104,106,110] (by exact .p (by exact lx (k2:=110) ak (gn e20) (gm e20) rfl rfl rfl (dG e20) rfl rfl rfl rfl rfl)) (by exact rfl)⟩,trivial,trivial,trivial⟩,⟨by kernel_rfl,⟨⟨.b (.row 106),fun _=>rfl,fun _=>.p (by exact aq rfl)⟩,⟨.b (.row 104),fun _=>rfl,fun _=>.p (by exact aq rfl)⟩,⟨I x_20,fun _=>rfl,fun _=>.p (by exact aq rfl)⟩,⟨I (ca at_22 x_20),fun _=>rfl,fun _=>.p (by exact fe dO rfl rfl rfl)⟩,trivial,trivial,trivial,trivial,trivial,trivial,trivial,trivial,trivial,⟨.b (.a7 106 (ca at_22 x_20:Int).toNat),fun _=>rfl,fun _=>.p (by exact di dR (aC e21) (aL e21) rfl rfl rfl rfl)⟩,⟨_,[110],.b (.one .any),rfl,(fun e=>by simp at e),rfl,rfl,fun _=>.fC [1,101,103,104,106] (by exact .p (by exact im aZ rfl rfl rfl rfl rfl (eE e21) (by decide) (mN _ _ _ _))) (by exact rfl)⟩,trivial⟩,⟨by kernel_rfl,⟨trivial,trivial,trivial,trivial,trivial,trivial,trivial,trivial,trivial,trivial,trivial,trivial,trivial,trivial,trivial,trivial⟩,trivial⟩⟩⟩⟩) rfl rfl rfl [1,5,6,24,25,26] [1,101,103,104,106] (s':=⟨[(1,_),(5,_),(6,_),(24,_),(25,_),(26,_)],[(1,_),(101,_),(103,_),(104,_),(106,.rr 30 3 1 .none ((out_23.set (ca at_22 x_20:Int).toNat x_26).map (eR eI)))]⟩) rfl ?_
      refine Fin.ai ?_
      exact Fin.join [1,5,6,24,25,26] [1,101,103,104,106] (x_21,at_22,out_23.set (ca at_22 x_20:Int).toNat x_26) (Option.some.inj h13) rfl
    ·rintro ⟨up_16,at_17,out_18⟩ hv
     subst v12
     refine ab.aa (Oc (aX rfl rfl) (Oc om ?_))
     refine ae.nil ?_
     exact Fin.bz [1,5,6,24,25,26] [1,101,103,104,106] (up_16,at_17,out_18,IntKind.i64.wrap (x_13 + 1)) (Option.some.inj h10) rfl
   ·refine ab.exit (Fin.aj ?_)
    obtain rfl:=hy11 _ (Option.some.inj h10).symm
    refine Fin.aj (Fin.aG ?_)
    exact Fin.join [6] [1,106] (out_12,up_10) rfl rfl
  ·rintro ⟨out_8,y_9⟩ hv
   subst v7
   refine ab.seq (ab.aa ?_)
   refine Oc om (Oc oa ?_)
   refine ae.ah ⟨[(2,.b (.row 106))],[(1,_),(106,_)]⟩ rfl (ab.ret ?_)
   obtain rfl:=Option.some.inj h
   refine Fin.ag ⟨[(2,_)],[(1,_),(106,_)]⟩ rfl (Fin.j8 106 rfl (rr_sl _) (Fin.ag ⟨[(2,.b (.one (.sl 1 (out_8.map (eL 1 eI)))))],[(1,_)]⟩ rfl ?_))
   exact Fin.result [.one (.sl 1 (out_8.map (eL 1 eI)))] (.inl rfl) rfl (.cons (.tmp rfl) .nil) ⟨rfl,rfl⟩
 ·subst hr4
  refine Oc (aF rfl rfl) (ae.ah ⟨[(1,_),(3,_),(12,_),(14,B true)],[(101,_),(102,.gp 1 c0up (r_5 ++ r_6) (some p_4)),(103,.row 3 1 (vis_2.map eI))]⟩ rfl (ab.seq (ab.rR rfl (ab.skip (Fin.ag ⟨[(1,_),(3,_),(12,_)],[(101,_),(102,_),(103,_)]⟩ rfl ?_)))))
  refine Fin.then (ab.block (ab.seq (ab.aa ?_)))
  refine Oc (lu rfl rfl) (Oc (aF rfl rfl) (Oc oa ?_))
  refine ae.ah ⟨[(1,_),(3,_),(4,I p_4.1),(12,_)],[(101,_),(102,_),(103,_)]⟩ rfl (ab.aa (Oc om (Oc om (Oc (aO (k:=111) (es:=[p_4.1].map eI) ak rfl rfl (bl fun _=>rfl) rfl (by decide) (by decide) rfl) (Oc (cM ak (gn (iX (fP hI3 hk2))) (gm (iX (fP hI3 hk2))) rfl rfl rfl rfl (dG (iX (fP hI3 hk2))) rfl) (Oc oa ?_))))))
  refine ae.nil (Fin.ai (Fin.ag ⟨[(1,_),(3,_),(12,_)],[(101,_),(102,_),(103,.row 3 1 ((vis_2 ++ [p_4.1]).map eI))]⟩ rfl (Fin.og 102 rfl ?_)))
  exact Fin.again ((vis_2 ++ [p_4.1]),r_5 ++ r_6) (mC hI3) (by simp) rfl
def cL (F:Nat) (c0up:ba):Option ((List (List Int)) × ba) :=
 Option.bind (m3 c0up) (fun ks_1=>(cW F (ks_1)).bind fun x_7=>Option.bind (iter F (un4 fun up_10 at_11 out_12 x_13=>if (decide (x_13 < (x_7.length:Int))) = true then (Option.bind ((av x_7 x_13).bind fun x_19=>Option.bind (bu F x_19 up_10) (bL fun x_20 x_21=>Option.bind (if (decide (x_20 = x_19)) = true then ((dw out_12 [[]]).bind fun x_24=>some (dp at_11 x_19 (out_12.length:Int),x_24)) else (some (at_11,out_12))) (bL fun at_22 out_23=>(av out_23 (ca at_22 x_20)).bind fun x_25=>(dw x_25 [x_19]).bind fun x_26=>(av out_23 (ca at_22 x_20)).bind fun x_27=>some (x_21,at_22,out_23.set (ca at_22 x_20:Int).toNat x_26)))) (ku fun up_16 at_17 out_18=>some (.inl (up_16,at_17,out_18,IntKind.i64.wrap (x_13 + 1))))) else (some (.inr (out_12,up_10)))) (c0up,([]:ba),[],0)) (bL fun out_8 y_9=>some (out_8,y_9)))
theorem gB {F:Nat} {c0up:ba} {r:(List (List Int)) × ba} (h:cL F c0up = some r):aA Try.prog [] 31 [(1,.mq c0up)] [.xa [.row 1]] (Is [(1,.mq r.2),(51,.rr 30 3 1 .none (r.1.map (eR eI)))] (.b (.row 51))):=by
 unfold cL at h
 refine aA.intro 59 Try.func31 Try.ntmps31 rfl (by simp) fun E=>?_
 show ab _ E ⟨59,[1],[1],[]⟩ _ ⟨[(0,.b (.xa [.row 1]))],[(1,.mq c0up)]⟩ _
 refine ab.seq (ab.aa ?_)
 refine Oc (ka (k:=101) rfl rfl rfl rfl) (Oc oa ?_)
 refine ae.ah ⟨[(1,Pt 101 0)],[(1,.mq c0up),(101,.ar 52 [.row 1])]⟩ rfl (ab.seq (ab.aa ?_))
 refine Oc oa (ae.ah ⟨[(1,_),(3,.b (.one (.nil)))],[(1,_),(101,_)]⟩ rfl (ab.seq (ab.seq (ab.aa ?_))))
 refine Oc (bH gD rfl rfl) (Oc (aV jY rfl rfl rfl) (Oc (lr 102 lH rfl rfl (by decide) rfl rfl) ?_))
 refine ae.ah ⟨[(1,_),(3,_),(12,Pt 102 0)],[(101,_),(102,.gp 1 c0up c0up none)]⟩ rfl (ab.dS 3 103 1 3 rfl (by decide) rfl (ab.ag ⟨[(1,_),(3,.b (.row 103)),(12,_)],[(101,_),(102,_),(103,.row 3 1 ([].map eI))]⟩ rfl ?_))
 obtain ⟨ks_1,e1,h⟩:=aN h
 obtain ⟨hk2,rfl⟩:=pk e1
 refine ab.block (ab.loop (fun (q:List Int × ba)=>⟨[(1,Pt 101 0),(3,.b (.row 103)),(12,Pt 102 0)],[(101,.ar 52 [.row 1]),(102,.gp 1 c0up q.2 none),(103,.row 3 1 (q.1.map eI))]⟩) (fun q=>(q.1 ++ q.2.map (·.1)).Perm (c0up.map (·.1))) (fun q=>q.2.length) ([],c0up) (by simp) rfl ?_)
 rintro ⟨vis_2,rs_3⟩ hI3
 refine ab.seq (ab.aa ?_)
 refine ae.nextM rfl rfl rfl (fun hr4=>?_) (fun p_4 r_5 r_6 hr4=>?_)
 ·subst hr4
  have hp5:vis_2.Perm (c0up.map (·.1)):=by simpa using hI3
  refine Oc (aF rfl rfl) (ae.ah ⟨[(1,_),(3,_),(12,_),(14,B false)],[(101,_),(102,.gp 1 c0up [] none),(103,.row 3 1 (vis_2.map eI))]⟩ rfl (ab.seq (ab.rS rfl (ab.exit (Fin.aj ?_)))))
  refine Fin.aj (Fin.ag ⟨[(1,_),(3,_),(12,_)],[(101,_),(102,_),(103,_)]⟩ rfl (Fin.oh 102 rfl rfl (Fin.aG (Fin.ag ⟨[(1,_),(3,_)],[(1,.mq c0up),(101,_),(103,_)]⟩ rfl (Fin.then (ab.seq (ab.aa ?_)))))))
  refine Oc om (ae.kj 103 rfl ?_)
  obtain ⟨x_7,e6,h⟩:=aN h
  refine Oc (bm (own_a:=[(103,_)]) ((eo (F:=F) (nh hp5 e6)).sw 1 103) oq rfl ⟨rfl,trivial⟩ rfl rfl) (ae.kX 103 rfl (ae.ah ⟨[(1,_),(3,_)],[(1,_),(101,_),(103,.row 3 1 (x_7.map eI))]⟩ rfl (ab.seq (ab.aa ?_))))
  refine Oc (iq (k:=104) lH rfl) (Oc oa ?_)
  refine ae.ah ⟨[(1,_),(3,_),(5,.b (.row 104))],[(1,_),(101,_),(103,_),(104,.mq ([]:ba))]⟩ rfl (ab.seq (ab.aa ?_))
  refine Oc oa (ae.ah ⟨[(1,_),(3,_),(5,_),(6,.b (.one (.nil)))],[(1,_),(101,_),(103,_),(104,_)]⟩ rfl ?_)
  obtain ⟨v7,h8,h⟩:=aN h
  refine ab.cA (v:=v7) (bL fun (out_8:List (List Int)) (y_9:ba)=>⟨[(6,.b (.row 106))],[(1,.mq y_9),(106,.rr 30 3 1 .none (out_8.map (eR eI)))]⟩) (fun z=>z) ?_ ?_
  ·refine ab.seq (ab.aa ?_)
   refine Oc om (Oc (gE fX rfl rfl (List.length_map _)) (Oc om ?_))
   refine ae.ah ⟨[(1,_),(5,_),(6,_),(24,.b (.row 103)),(25,I (x_7.length:Int)),(26,I 0)],[(1,_),(101,_),(103,_),(104,_)]⟩ rfl (ab.block (ab.k4 6 106 1 30 3 rfl (by decide) rfl (ab.cy h8 (un4 fun (up_10:ba) (at_11:ba) (out_12:List (List Int)) (x_13:Int)=>⟨[(1,Pt 101 0),(5,.b (.row 104)),(6,.b (.row 106)),(24,.b (.row 103)),(25,I (x_7.length:Int)),(26,I x_13)],[(1,.mq up_10),(101,.ar 52 [.row 1]),(103,.row 3 1 (x_7.map eI)),(104,.mq at_11),(106,.rr 30 3 1 .none (out_12.map (eR eI)))]⟩) [1,5,6,24,25,26] [1,101,103,104,106] rfl ?_)))
   rintro ⟨up_10,at_11,out_12,x_13⟩ o9 h10 hy11
   refine ab.seq (ab.aa ?_)
   refine Oc (bf rfl rfl) (ae.ah ⟨[(1,_),(5,_),(6,_),(24,_),(25,_),(26,_),(27,B (decide (x_13 < (x_7.length:Int))))],[(1,_),(101,_),(103,_),(104,_),(106,_)]⟩ rfl (ab.seq (ab.ite h10 rfl (fun _ h10=>?_) (fun _ h10=>?_))))
   ·refine ab.skip (Fin.ag ⟨[(1,_),(5,_),(6,_),(24,_),(25,_),(26,_)],[(1,_),(101,_),(103,_),(104,_),(106,_)]⟩ rfl (Fin.then ?_))
    obtain ⟨v12,h13,h10⟩:=aN h10
    refine ab.cA (v:=v12) (ku fun (up_16:ba) (at_17:ba) (out_18:List (List Int))=>⟨[(1,Pt 101 0),(5,.b (.row 104)),(6,.b (.row 106)),(24,.b (.row 103)),(25,I (x_7.length:Int)),(26,I x_13)],[(1,.mq up_16),(101,.ar 52 [.row 1]),(103,.row 3 1 (x_7.map eI)),(104,.mq at_17),(106,.rr 30 3 1 .none (out_18.map (eR eI)))]⟩) (fun z=>z) ?_ ?_
    ·refine ab.block (ab.seq (ab.aa ?_))
     obtain ⟨x_19,e14,h13⟩:=aN h13
     refine Oc (an ak (aC e14) (aL e14) rfl rfl rfl rfl) (Oc (ax (i:=(x_13:Int).toNat) (f:=0) au rfl rfl rfl (az (e:=eI) e14) rfl) (Oc oa ?_))
     refine ae.ah ⟨[(1,_),(5,_),(6,_),(8,I x_19),(24,_),(25,_),(26,_)],[(1,_),(101,_),(103,_),(104,_),(106,_)]⟩ rfl (ab.seq (ab.aa ?_))
     refine Oc ((cG cN rfl rfl rfl rfl).kH rfl) (Oc om ?_)
     obtain ⟨⟨x_20,x_21⟩,e15,h13⟩:=aN h13
     refine Oc (bm (own_a:=[(1,_)]) (b9 e15) lO rfl ⟨rfl,trivial⟩ rfl rfl) (Oc oa ?_)
     refine ae.ah ⟨[(1,_),(5,_),(6,_),(8,_),(9,I x_20),(24,_),(25,_),(26,_)],[(1,.mq x_21),(101,_),(103,_),(104,_),(106,_)]⟩ rfl ?_
     obtain ⟨v16,h17,h13⟩:=aN h13
     refine ab.cA (v:=v16) (bL fun (at_22:ba) (out_23:List (List Int))=>⟨[(1,Pt 101 0),(5,.b (.row 104)),(6,.b (.row 106)),(8,I x_19),(9,I x_20),(24,.b (.row 103)),(25,I (x_7.length:Int)),(26,I x_13)],[(1,.mq x_21),(101,.ar 52 [.row 1]),(103,.row 3 1 (x_7.map eI)),(104,.mq at_22),(106,.rr 30 3 1 .none (out_23.map (eR eI)))]⟩) (fun z=>z) ?_ ?_
     ·refine ab.seq (ab.aa ?_)
      refine Oc om (Oc om (Oc (cT rfl rfl) ?_))
      refine ae.ah ⟨[(1,_),(5,_),(6,_),(8,_),(9,_),(24,_),(25,_),(26,_),(35,B (decide (x_20 = x_19)))],[(1,_),(101,_),(103,_),(104,_),(106,_)]⟩ rfl (ab.ite h17 rfl (fun _ h17=>?_) (fun _ h17=>?_))
      ·refine ab.seq (ab.aa ?_)
       refine Oc om (Oc om (Oc om (Oc (kS mo rfl rfl (List.length_map _)) (Oc (jI dO rfl rfl rfl rfl) ?_))))
       refine ae.ah ⟨[(1,_),(5,_),(6,_),(8,_),(9,_),(24,_),(25,_),(26,_)],[(1,_),(101,_),(103,_),(104,.mq (dp at_11 x_19 (out_12.length:Int))),(106,_)]⟩ rfl (ab.aa (Oc om (Oc (aO (k:=107) (es:=[[.nil]]) dR rfl rfl (fun ps h=>by simp at h; subst h; rfl) rfl (by decide) (by decide) rfl) ?_)))
       obtain ⟨x_24,e18,h17⟩:=aN h17
       refine Oc (jT dR (rr_b e18) (rr_m e18) rfl rfl rfl rfl (r6 e18) rfl) (Oc oa ?_)
       refine ae.nil ?_
       exact Fin.join [1,5,6,8,9,24,25,26] [1,101,103,104,106] (dp at_11 x_19 (out_12.length:Int),x_24) (Option.some.inj h17) rfl
      ·refine ab.skip ?_
       exact Fin.join [1,5,6,8,9,24,25,26] [1,101,103,104,106] (at_11,out_12) (Option.some.inj h17) rfl
     ·rintro ⟨at_22,out_23⟩ hv
      subst v16
      refine ab.ag ⟨[(1,_),(5,_),(6,_),(8,_),(9,_),(24,_),(25,_),(26,_)],[(1,_),(101,_),(103,_),(104,_),(106,_)]⟩ rfl ?_
      obtain ⟨x_25,e19,h13⟩:=aN h13
      obtain ⟨x_26,e20,h13⟩:=aN h13
      obtain ⟨x_27,e21,h13⟩:=aN h13
      refine ab.fZ mixed [false,false,false,false,false,false,false,false,false,true,false,false,true,false,true] [.b (.row 106),.b (.row 104),I x_20,I (ca at_22 x_20),.b (.row 106),.b (.row 104),I x_20,I (ca at_22 x_20),.b (.a7 106 (ca at_22 x_20:Int).toNat),.b (.row 108),I x_19,.b (.one (.sl 1 ([x_19].map eI))),.b (.row 110),.b (.a7 106 (ca at_22 x_20:Int).toNat),B true] [⟨[false,false,false,false,false,false,false,false,false,false,false,false,false,false,false],[(1,Pt 101 0),(5,.b (.row 104)),(6,.b (.row 106)),(8,I x_19),(9,I x_20),(24,.b (.row 103)),(25,I (x_7.length:Int)),(26,I x_13)],[(1,.mq x_21),(101,.ar 52 [.row 1]),(103,.row 3 1 (x_7.map eI)),(104,.mq at_22),(106,.rr 30 3 1 .none (out_23.map (eR eI)))],[true,true,true,true,true,true,true,true,true,true,true,true,true,true,true],[],[12,13,14]⟩,⟨[false,false,false,false,false,false,false,false,false,true,false,false,false,false,false],[(1,Pt 101 0),(5,.b (.row 104)),(6,.b (.row 106)),(8,I x_19),(9,I x_20),(24,.b (.row 103)),(25,I (x_7.length:Int)),(26,I x_13)],[(1,.mq x_21),(101,.ar 52 [.row 1]),(103,.row 3 1 (x_7.map eI)),(104,.mq at_22),(106,.rr 30 3 1 (.at (ca at_22 x_20:Int).toNat) (out_23.map (eR eI))),(108,.row 3 1 (x_25.map eI))],[true,true,true,true,true,true,true,true,true,true,true,true,true,true,true],[4,5,6,7,8,9],[13,14]⟩,⟨[false,false,false,false,false,false,false,false,false,true,false,false,true,false,false],[(1,Pt 101 0),(5,.b (.row 104)),(6,.b (.row 106)),(8,I x_19),(9,I x_20),(24,.b (.row 103)),(25,I (x_7.length:Int)),(26,I x_13)],[(1,.mq x_21),(101,.ar 52 [.row 1]),(103,.row 3 1 (x_7.map eI)),(104,.mq at_22),(106,.rr 30 3 1 (.at (ca at_22 x_20:Int).toNat) (out_23.map (eR eI))),(110,.row 3 1 (x_26.map eI))],[true,true,true,true,true,true,true,true,true,true,true,true,true,true,true],[4,5,6,7,8,9,10,11,12],[]⟩,⟨[false,false,false,false,false,false,false,false,false,true,false,false,true,false,true],[(1,Pt 101 0),(5,.b (.row 104)),(6,.b (.row 106)),(8,I x_19),(9,I x_20),(24,.b (.row 103)),(25,I (x_7.length:Int)),(26,I x_13)],[(1,.mq x_21),(101,.ar 52 [.row 1]),(103,.row 3 1 (x_7.map eI)),(104,.mq at_22),(106,.rr 30 3 1 .none ((out_23.set (ca at_22 x_20:Int).toNat x_26).map (eR eI)))],[true,true,true,true,true,true,true,true,true,true,true,true,false,true,true],[0,1,2,3,4,5,6,7,8,9,10,11,12,13,14],[]⟩] rfl (⟨by kernel_rfl,⟨⟨.b (.row 106),fun _=>rfl,fun _=>.p (by exact aq rfl)⟩,⟨.b (.row 104),fun _=>rfl,fun _=>.p (by exact aq rfl)⟩,⟨I x_20,fun _=>rfl,fun _=>.p (by exact aq rfl)⟩,⟨I (ca at_22 x_20),fun _=>rfl,fun _=>.p (by exact fe dO rfl rfl rfl)⟩,⟨.b (.row 106),fun _=>rfl,fun _=>.p (by exact aq rfl)⟩,⟨.b (.row 104),fun _=>rfl,fun _=>.p (by exact aq rfl)⟩,⟨I x_20,fun _=>rfl,fun _=>.p (by exact aq rfl)⟩,⟨I (ca at_22 x_20),fun _=>rfl,fun _=>.p (by exact fe dO rfl rfl rfl)⟩,⟨.b (.a7 106 (ca at_22 x_20:Int).toNat),fun _=>rfl,fun _=>.p (by exact di dR (aC e19) (aL e19) rfl rfl rfl rfl)⟩,⟨_,[108],.b (.row 108),rfl,fun _=>rfl,rfl,rfl,fun _=>.fC [1,101,103,104,106,108] (by exact .p (by exact iZ (i:=(ca at_22 x_20:Int).toNat) 108 aZ rfl rfl rfl (az (e:=eR eI) e19) (by decide) rfl rfl)) (by exact rfl)⟩,⟨I x_19,fun _=>rfl,fun _=>.p (by exact aq rfl)⟩,⟨.b (.one (.sl 1 ([x_19].map eI))),fun _=>rfl,fun _=>.p (by exact cn (es:=[x_19].map eI) ak rfl rfl (bl fun _=>rfl) rfl (by decide) (by decide))⟩,trivial,trivial,trivial,trivial⟩,⟨by kernel_rfl,⟨⟨.b (.row 106),fun _=>rfl,fun _=>.p (by exact aq rfl)⟩,⟨.b (.row 104),fun _=>rfl,fun _=>.p (by exact aq rfl)⟩,⟨I x_20,fun _=>rfl,fun _=>.p (by exact aq rfl)⟩,⟨I (ca at_22 x_20),fun _=>rfl,fun _=>.p (by exact fe dO rfl rfl rfl)⟩,trivial,trivial,trivial,trivial,trivial,trivial,⟨I x_19,fun _=>rfl,fun _=>.p (by exact aq rfl)⟩,⟨.b (.one (.sl 1 ([x_19].map eI))),fun _=>rfl,fun _=>.p (by exact cn (es:=[x_19].map eI) ak rfl rfl (bl fun _=>rfl) rfl (by decide) (by decide))⟩,⟨_,[110],.b (.row 110),rfl,fun _=>rfl,rfl,rfl,fun _=>.fC [1,101,103,104,106,110] (by exact .p (by exact lx (k2:=110) ak (gn e20) (gm e20) rfl rfl rfl (dG e20) rfl rfl rfl rfl rfl)) (by exact rfl)⟩,trivial,trivial,trivial⟩,⟨by kernel_rfl,⟨⟨.b (.row 106),fun _=>rfl,fun _=>.p (by exact aq rfl)⟩,⟨.b (.row 104),fun _=>rfl,fun _=>.p (by exact aq rfl)⟩,⟨I x_20,fun _=>rfl,fun _=>.p (by exact aq rfl)⟩,⟨I (ca at_22 x_20),fun _=>rfl,fun _=>.p (by exact fe dO rfl rfl rfl)⟩,trivial,trivial,trivial,trivial,trivial,trivial,trivial,trivial,trivial,⟨.b (.a7 106 (ca at_22 x_20:Int).toNat),fun _=>rfl,fun _=>.p (by exact di dR (aC e21) (aL e21) rfl rfl rfl rfl)⟩,⟨_,[110],.b (.one .any),rfl,(fun e=>by simp at e),rfl,rfl,fun _=>.fC [1,101,103,104,106] (by exact .p (by exact im aZ rfl rfl rfl rfl rfl (eE e21) (by decide) (mN _ _ _ _))) (by exact rfl)⟩,trivial⟩,⟨by kernel_rfl,⟨trivial,trivial,trivial,trivial,trivial,trivial,trivial,trivial,trivial,trivial,trivial,trivial,trivial,trivial,trivial,trivial⟩,trivial⟩⟩⟩⟩) rfl rfl rfl [1,5,6,24,25,26] [1,101,103,104,106] (s':=⟨[(1,_),(5,_),(6,_),(24,_),(25,_),(26,_)],[(1,_),(101,_),(103,_),(104,_),(106,.rr 30 3 1 .none ((out_23.set (ca at_22 x_20:Int).toNat x_26).map (eR eI)))]⟩) rfl ?_
      refine Fin.ai ?_
      exact Fin.join [1,5,6,24,25,26] [1,101,103,104,106] (x_21,at_22,out_23.set (ca at_22 x_20:Int).toNat x_26) (Option.some.inj h13) rfl
    ·rintro ⟨up_16,at_17,out_18⟩ hv
     subst v12
     refine ab.aa (Oc (aX rfl rfl) (Oc om ?_))
     refine ae.nil ?_
     exact Fin.bz [1,5,6,24,25,26] [1,101,103,104,106] (up_16,at_17,out_18,IntKind.i64.wrap (x_13 + 1)) (Option.some.inj h10) rfl
   ·refine ab.exit (Fin.aj ?_)
    obtain rfl:=hy11 _ (Option.some.inj h10).symm
    refine Fin.aj (Fin.aG ?_)
    exact Fin.join [6] [1,106] (out_12,up_10) rfl rfl
  ·rintro ⟨out_8,y_9⟩ hv
   subst v7
   refine ab.seq (ab.aa ?_)
   refine Oc om (Oc oa ?_)
   refine ae.ah ⟨[(2,.b (.row 106))],[(1,_),(106,_)]⟩ rfl (ab.ret ?_)
   obtain rfl:=Option.some.inj h
   refine Fin.ag ⟨[(2,.b (.row 106))],[(1,.mq y_9),(106,.rr 30 3 1 .none (out_8.map (eR eI)))]⟩ rfl (Fin.rename 106 51 rfl (by decide) rfl (Fin.ag ⟨[(2,.b (.row 51))],[(1,_),(51,.rr 30 3 1 .none (out_8.map (eR eI)))]⟩ rfl ?_))
   exact Fin.result [.row 51] (.inl rfl) rfl (.cons (.tmp rfl) .nil) ⟨rfl,rfl⟩
 ·subst hr4
  refine Oc (aF rfl rfl) (ae.ah ⟨[(1,_),(3,_),(12,_),(14,B true)],[(101,_),(102,.gp 1 c0up (r_5 ++ r_6) (some p_4)),(103,.row 3 1 (vis_2.map eI))]⟩ rfl (ab.seq (ab.rR rfl (ab.skip (Fin.ag ⟨[(1,_),(3,_),(12,_)],[(101,_),(102,_),(103,_)]⟩ rfl ?_)))))
  refine Fin.then (ab.block (ab.seq (ab.aa ?_)))
  refine Oc (lu rfl rfl) (Oc (aF rfl rfl) (Oc oa ?_))
  refine ae.ah ⟨[(1,_),(3,_),(4,I p_4.1),(12,_)],[(101,_),(102,_),(103,_)]⟩ rfl (ab.aa (Oc om (Oc om (Oc (aO (k:=111) (es:=[p_4.1].map eI) ak rfl rfl (bl fun _=>rfl) rfl (by decide) (by decide) rfl) (Oc (cM ak (gn (iX (fP hI3 hk2))) (gm (iX (fP hI3 hk2))) rfl rfl rfl rfl (dG (iX (fP hI3 hk2))) rfl) (Oc oa ?_))))))
  refine ae.nil (Fin.ai (Fin.ag ⟨[(1,_),(3,_),(12,_)],[(101,_),(102,_),(103,.row 3 1 ((vis_2 ++ [p_4.1]).map eI))]⟩ rfl (Fin.og 102 rfl ?_)))
  exact Fin.again ((vis_2 ++ [p_4.1]),r_5 ++ r_6) (mC hI3) (by simp) rfl
def cI (F:Nat) (fixed0:List Bool) (links0:List A2):Option ((List (List Int)) × Int) :=
 (bG F fixed0 links0).bind fun x_1=>if (!x_1) = true then (some ([],1)) else (Option.bind (cP F fixed0 links0) (bL fun x_2 x_3=>Option.bind (bt F x_2) (bL fun x_4 x_5=>some (x_4,0))))
theorem iN {F:Nat} {fixed0:List Bool} {links0:List A2} {r:(List (List Int)) × Int} (h:cI F fixed0 links0 = some r):aA Try.prog [] 12 [] [.one (.sl 1 (fixed0.map eB)),.one (.sl 2 (links0.map (cR .i64)))] (Is [] (.ez [.one (.sl 1 (r.1.map (eL 1 eI))),.one (.i r.2)])):=by
 unfold cI at h
 refine aA.intro 20 Try.func12 Try.ntmps12 rfl (by simp) fun E=>?_
 show ab _ E ⟨20,[],[],[]⟩ _ ⟨[(0,.b (.one (.sl 1 (fixed0.map eB)))),(1,.b (.one (.sl 2 (links0.map (cR .i64)))))],[]⟩ _
 refine ab.seq (ab.aa ?_)
 refine Oc oa (Oc oa ?_)
 refine ae.ah ⟨[(0,.b (.one (.sl 1 (fixed0.map eB)))),(1,.b (.one (.sl 2 (links0.map (cR .i64)))))],[]⟩ rfl (ab.seq (ab.seq (ab.aa ?_)))
 refine Oc om (Oc om ?_)
 obtain ⟨x_1,e1,h⟩:=aN h
 refine Oc (a6 (cw e1) lQ rfl rfl) (Oc (dM rfl) ?_)
 refine ae.ah ⟨[(0,_),(1,_),(11,B (!x_1))],[]⟩ rfl (ab.ite h rfl (fun _ h=>?_) (fun _ h=>?_))
 ·refine ab.seq (ab.aa ?_)
  refine Oc oa (Oc oa ?_)
  refine ae.ah ⟨[(4,.b (.one (.nil))),(5,I 1)],[]⟩ rfl (ab.ret (Fin.aD ?_))
  obtain rfl:=Option.some.inj h
  refine Fin.ag ⟨[(4,_),(5,_)],[]⟩ rfl (Fin.iD 4 1 rfl (by decide) (Fin.aW [.one (.sl 1 ([].map (eL 1 eI))),.one (.i 1)] (.inl rfl) rfl (.cons (.tmp rfl) (.cons (.tmp rfl) .nil)) ⟨rfl,rfl⟩))
 ·refine ab.skip (Fin.ag ⟨[(0,_),(1,_)],[]⟩ rfl (Fin.then (ab.seq (ab.aa ?_))))
  refine Oc om (Oc om ?_)
  obtain ⟨⟨x_2,x_3⟩,e2,h⟩:=aN h
  refine Oc (bm (own_a:=[]) (((fb e2).sw 51 101).sw 52 102) p9 rfl trivial rfl rfl) (Oc om (Oc (aF rfl rfl) ?_))
  refine ae.ag ⟨[(12,.ez [.xa [.row 101],.row 102]),(16,.b (.xa [.row 101]))],[(101,.mq x_2),(102,.row 3 1 (x_3.map eI))]⟩ rfl (Oc (aF rfl rfl) (Oc (bh (k:=103) iE rfl) ?_))
  refine ae.nG 103 rfl (Oc (fi cN rfl rfl rfl rfl rfl (Nat.le_of_ble_eq_true rfl) rfl) (Oc oa ?_))
  refine ae.ah ⟨[(6,Pt 103 0)],[(101,.mq x_2),(103,.ar 52 [.row 101])]⟩ rfl (ab.seq (ab.aa ?_))
  refine Oc ((cG cN rfl rfl rfl rfl).kH rfl) ?_
  obtain ⟨⟨x_4,x_5⟩,e3,h⟩:=aN h
  refine Oc (bm (own_a:=[(101,_)]) ((eH e3).sw 1 101) p8 rfl ⟨rfl,trivial⟩ rfl rfl) (Oc oa (Oc oa ?_))
  refine ae.ah ⟨[(4,.b (.one (.sl 1 (x_4.map (eL 1 eI))))),(5,I 0)],[]⟩ rfl (ab.ret ?_)
  obtain rfl:=Option.some.inj h
  refine Fin.ag ⟨[(4,_),(5,_)],[]⟩ rfl (Fin.aW [.one (.sl 1 (x_4.map (eL 1 eI))),.one (.i 0)] (.inl rfl) rfl (.cons (.tmp rfl) (.cons (.tmp rfl) .nil)) ⟨rfl,rfl⟩)
def dA (F:Nat) (fixed0:List Bool) (links0:List A2):Option ((List (List Int)) × Int) :=
 (bG F fixed0 links0).bind fun x_1=>if (!x_1) = true then (some ([],1)) else (Option.bind (cP F fixed0 links0) (bL fun x_2 x_3=>Option.bind (cL F x_2) (bL fun x_4 x_5=>some (x_4,0))))
theorem ko {F:Nat} {fixed0:List Bool} {links0:List A2} {r:(List (List Int)) × Int} (h:dA F fixed0 links0 = some r):aA Try.prog [] 12 [] [.one (.sl 1 (fixed0.map eB)),.one (.sl 2 (links0.map (cR .i64)))] (Is [(51,.rr 30 3 1 .none (r.1.map (eR eI)))] (.ez [.row 51,.one (.i r.2)])):=by
 unfold dA at h
 refine aA.intro 20 Try.func12 Try.ntmps12 rfl (by simp) fun E=>?_
 show ab _ E ⟨20,[],[],[]⟩ _ ⟨[(0,.b (.one (.sl 1 (fixed0.map eB)))),(1,.b (.one (.sl 2 (links0.map (cR .i64)))))],[]⟩ _
 refine ab.seq (ab.aa ?_)
 refine Oc oa (Oc oa ?_)
 refine ae.ah ⟨[(0,.b (.one (.sl 1 (fixed0.map eB)))),(1,.b (.one (.sl 2 (links0.map (cR .i64)))))],[]⟩ rfl (ab.seq (ab.seq (ab.aa ?_)))
 refine Oc om (Oc om ?_)
 obtain ⟨x_1,e1,h⟩:=aN h
 refine Oc (a6 (cw e1) lQ rfl rfl) (Oc (dM rfl) ?_)
 refine ae.ah ⟨[(0,_),(1,_),(11,B (!x_1))],[]⟩ rfl (ab.ite h rfl (fun _ h=>?_) (fun _ h=>?_))
 ·refine ab.seq (ab.aa ?_)
  refine Oc oa (Oc oa ?_)
  refine ae.ah ⟨[(4,.b (.one (.nil))),(5,I 1)],[]⟩ rfl (ab.ret (Fin.aD ?_))
  obtain rfl:=Option.some.inj h
  refine Fin.ag ⟨[(4,_),(5,_)],[]⟩ rfl (Fin.k4 4 51 1 30 3 rfl (by decide) rfl (Fin.ag ⟨[(4,.b (.row 51)),(5,_)],[(51,.rr 30 3 1 .none ([].map (eR eI)))]⟩ rfl ?_))
  exact Fin.result [.row 51,.one (.i 1)] (.inl rfl) rfl (.cons (.tmp rfl) (.cons (.tmp rfl) .nil)) ⟨rfl,rfl⟩
 ·refine ab.skip (Fin.ag ⟨[(0,_),(1,_)],[]⟩ rfl (Fin.then (ab.seq (ab.aa ?_))))
  refine Oc om (Oc om ?_)
  obtain ⟨⟨x_2,x_3⟩,e2,h⟩:=aN h
  refine Oc (bm (own_a:=[]) (((fb e2).sw 51 101).sw 52 102) p9 rfl trivial rfl rfl) (Oc om (Oc (aF rfl rfl) ?_))
  refine ae.ag ⟨[(12,.ez [.xa [.row 101],.row 102]),(16,.b (.xa [.row 101]))],[(101,.mq x_2),(102,.row 3 1 (x_3.map eI))]⟩ rfl (Oc (aF rfl rfl) (Oc (bh (k:=103) iE rfl) ?_))
  refine ae.nG 103 rfl (Oc (fi cN rfl rfl rfl rfl rfl (Nat.le_of_ble_eq_true rfl) rfl) (Oc oa ?_))
  refine ae.ah ⟨[(6,Pt 103 0)],[(101,.mq x_2),(103,.ar 52 [.row 101])]⟩ rfl (ab.seq (ab.aa ?_))
  refine Oc ((cG cN rfl rfl rfl rfl).kH rfl) ?_
  obtain ⟨⟨x_4,x_5⟩,e3,h⟩:=aN h
  refine Oc (bm (own_a:=[(101,_)]) (((gB e3).sw 1 101).sw 51 104) p8 rfl ⟨rfl,trivial⟩ rfl rfl) (Oc oa (Oc oa ?_))
  refine ae.ah ⟨[(4,.b (.row 104)),(5,I 0)],[(104,.rr 30 3 1 .none (x_4.map (eR eI)))]⟩ rfl (ab.ret ?_)
  obtain rfl:=Option.some.inj h
  refine Fin.ag ⟨[(4,.b (.row 104)),(5,I 0)],[(104,.rr 30 3 1 .none (x_4.map (eR eI)))]⟩ rfl (Fin.rename 104 51 rfl (by decide) rfl (Fin.ag ⟨[(4,.b (.row 51)),(5,_)],[(51,.rr 30 3 1 .none (x_4.map (eR eI)))]⟩ rfl ?_))
  exact Fin.result [.row 51,.one (.i 0)] (.inl rfl) rfl (.cons (.tmp rfl) (.cons (.tmp rfl) .nil)) ⟨rfl,rfl⟩
def cu (F:Nat) (n0:Int) (links0:List A2) (places0:List Int):Option (List (List jr)) :=
 Option.bind (mk? ([]:List jr) n0 n0) (fun x_1=>Option.bind (iter F (bL fun out_3 x_4=>if (decide (x_4 < (places0.length:Int))) = true then ((av places0 x_4).bind fun x_6=>(av links0 x_6).bind fun x_7=>(av links0 x_6).bind fun x_8=>(av out_3 x_7.a0).bind fun x_9=>(dw x_9 [(⟨x_8.a1,x_6⟩:jr)]).bind fun x_10=>(av out_3 x_7.a0).bind fun x_11=>(av (out_3.set (x_7.a0:Int).toNat x_10) x_8.a1).bind fun x_12=>(dw x_12 [(⟨x_7.a0,x_6⟩:jr)]).bind fun x_13=>(av (out_3.set (x_7.a0:Int).toNat x_10) x_8.a1).bind fun x_14=>some (.inl ((out_3.set (x_7.a0:Int).toNat x_10).set (x_8.a1:Int).toNat x_13,IntKind.i64.wrap (x_4 + 1)))) else (some (.inr out_3))) (x_1,0)) (fun out_2=>some out_2))
theorem fB {F:Nat} {n0:Int} {links0:List A2} {places0:List Int} {r:(List (List jr))} (h:cu F n0 links0 places0 = some r):aA Try.prog [] 32 [] [.one (.i n0),.one (.sl 2 (links0.map (cR .i64))),.one (.sl 1 (places0.map eI))] (Is [] (.b (.one (.sl 1 (r.map (eL 2 aT)))))):=by
 unfold cu at h
 refine aA.intro 56 Try.func32 Try.ntmps32 rfl (by simp) fun E=>?_
 show ab _ E ⟨56,[],[],[]⟩ _ ⟨[(0,I n0),(1,.b (.one (.sl 2 (links0.map (cR .i64))))),(2,.b (.one (.sl 1 (places0.map eI))))],[]⟩ _
 refine ab.seq (ab.aa ?_)
 refine Oc oa (ae.ah ⟨[(0,I n0),(1,.b (.one (.sl 2 (links0.map (cR .i64))))),(2,.b (.one (.sl 1 (places0.map eI))))],[]⟩ rfl (ab.seq (ab.aa ?_)))
 refine Oc om ?_
 obtain ⟨x_1,e1,h⟩:=aN h
 refine Oc ((bc (k:=101) (enc:=fun _=>[CP.nil]) kL e1 (by decide) (.cons .refl .nil) rfl rfl rfl).pS 101 60 2 rfl (sU _) (by decide) (rr_mk (e:=aT) e1)) (Oc oa ?_)
 refine ae.ah ⟨[(1,_),(2,_),(7,.b (.row 101))],[(101,.rr 58 60 2 .none (x_1.map (eR aT)))]⟩ rfl ?_
 obtain ⟨v2,h3,h⟩:=aN h
 refine ab.cA (v:=v2) (fun (out_2:List (List jr))=>⟨[(7,.b (.row 101))],[(101,.rr 58 60 2 .none (out_2.map (eR aT)))]⟩) (fun z=>z) ?_ ?_
 ·refine ab.seq (ab.aa ?_)
  refine Oc om (Oc (ay fX rfl (List.length_map _)) (Oc om ?_))
  refine ae.ah ⟨[(1,_),(7,_),(14,.b (.one (.sl 1 (places0.map eI)))),(15,I (places0.length:Int)),(16,I 0)],[(101,_)]⟩ rfl (ab.block (ab.cy h3 (bL fun (out_3:List (List jr)) (x_4:Int)=>⟨[(1,.b (.one (.sl 2 (links0.map (cR .i64))))),(7,.b (.row 101)),(14,.b (.one (.sl 1 (places0.map eI)))),(15,I (places0.length:Int)),(16,I x_4)],[(101,.rr 58 60 2 .none (out_3.map (eR aT)))]⟩) [1,7,14,15,16] [101] rfl ?_))
  rintro ⟨out_3,x_4⟩ o4 h5 hy6
  refine ab.seq (ab.aa ?_)
  refine Oc (bf rfl rfl) (ae.ah ⟨[(1,_),(7,_),(14,_),(15,_),(16,_),(17,B (decide (x_4 < (places0.length:Int))))],[(101,_)]⟩ rfl (ab.seq (ab.ite h5 rfl (fun _ h5=>?_) (fun _ h5=>?_))))
  ·refine ab.skip (Fin.ag ⟨[(1,_),(7,_),(14,_),(15,_),(16,_)],[(101,_)]⟩ rfl (Fin.then (ab.seq (ab.block (ab.seq (ab.aa ?_))))))
   obtain ⟨x_6,e7,h5⟩:=aN h5
   refine Oc (aI ak (aC e7) (az (e:=eI) e7) rfl rfl) (Oc (aE au rfl rfl) (Oc oa ?_))
   refine ae.ah ⟨[(1,_),(7,_),(9,I x_6),(14,_),(15,_),(16,_)],[(101,_)]⟩ rfl (ab.seq ?_)
   obtain ⟨x_7,e8,h5⟩:=aN h5
   obtain ⟨x_8,e9,h5⟩:=aN h5
   refine ab.c8 mixed 12 [.b (.one (.sl 2 (links0.map (cR .i64)))),I x_6,.b (.cC ((cR .i64) x_7)),.b (.cC [.i x_7.a0]),I x_7.a0,.b (.one (.sl 2 (links0.map (cR .i64)))),I x_6,.b (.cC ((cR .i64) x_8)),.b (.cC [.i x_8.a1]),I x_8.a1,I x_7.a0,I x_8.a1] [1,7,9,10,11,14,15,16] [101] (s':=⟨[(1,_),(7,_),(9,_),(10,I x_7.a0),(11,I x_8.a1),(14,_),(15,_),(16,_)],[(101,_)]⟩) rfl ⟨fun _=>.p om,fun _=>.p om,fun _=>.p (aI gO (aC e8) (az (e:=(cR .i64)) e8) rfl rfl),fun _=>.p (fj eQ (by decide) (by decide) rfl rfl rfl),fun _=>.p (aE au rfl rfl),fun _=>.p om,fun _=>.p om,fun _=>.p (aI gO (aC e9) (az (e:=(cR .i64)) e9) rfl rfl),fun _=>.p (fj eQ (by decide) (by decide) rfl rfl rfl),fun _=>.p (aE au rfl rfl),fun _=>.p oa,fun _=>.p oa,trivial⟩ rfl rfl (ab.seq (ab.aa ?_))
   refine Oc om (Oc om (Oc om (Oc om ?_)))
   obtain ⟨x_9,e10,h5⟩:=aN h5
   refine Oc (di kL (aC e10) (aL e10) rfl rfl rfl rfl) (Oc (iZ (i:=(x_7.a0:Int).toNat) 102 jX rfl rfl rfl (az (e:=eR aT) e10) (by decide) rfl rfl) (Oc om ?_))
   refine ae.ag ⟨[(1,_),(7,_),(9,_),(10,_),(11,_),(14,_),(15,_),(16,_),(30,.b (.row 101)),(31,I x_7.a0),(35,.b (.row 102)),(36,I x_8.a1)],[(101,.rr 58 60 2 (.at (x_7.a0:Int).toNat) (out_3.map (eR aT))),(102,.row 60 2 (x_9.map aT))]⟩ rfl (Oc om (Oc (pj nR rfl rfl) (Oc (aO (k:=103) (es:=[(⟨x_8.a1,x_6⟩:jr)].map aT) lI rfl rfl (bl fun _=>rfl) rfl (by decide) (by decide) rfl) ?_)))
   obtain ⟨x_10,e11,h5⟩:=aN h5
   refine Oc (cM lI (gn e11) (gm e11) rfl rfl rfl rfl (dG e11) rfl) ?_
   obtain ⟨x_11,e12,h5⟩:=aN h5
   refine Oc (di kL (aC e12) (aL e12) rfl rfl rfl rfl) (Oc (im jX rfl rfl rfl rfl rfl (eE e12) (by decide) (mN _ _ _ _)) ?_)
   refine ae.ah ⟨[(1,_),(7,_),(9,_),(10,_),(11,_),(14,_),(15,_),(16,_)],[(101,.rr 58 60 2 .none ((out_3.set (x_7.a0:Int).toNat x_10).map (eR aT)))]⟩ rfl (ab.aa (Oc om (Oc om (Oc om (Oc om ?_)))))
   obtain ⟨x_12,e13,h5⟩:=aN h5
   refine Oc (di kL (aC e13) (aL e13) rfl rfl rfl rfl) (Oc (iZ (i:=(x_8.a1:Int).toNat) 104 jX rfl rfl rfl (az (e:=eR aT) e13) (by decide) rfl rfl) (Oc om ?_))
   refine ae.ag ⟨[(1,_),(7,_),(9,_),(14,_),(15,_),(16,_),(42,.b (.row 101)),(43,I x_8.a1),(47,.b (.row 104)),(48,I x_7.a0)],[(101,.rr 58 60 2 (.at (x_8.a1:Int).toNat) ((out_3.set (x_7.a0:Int).toNat x_10).map (eR aT))),(104,.row 60 2 (x_12.map aT))]⟩ rfl (Oc om (Oc (pj nR rfl rfl) (Oc (aO (k:=105) (es:=[(⟨x_7.a0,x_6⟩:jr)].map aT) lI rfl rfl (bl fun _=>rfl) rfl (by decide) (by decide) rfl) ?_)))
   obtain ⟨x_13,e14,h5⟩:=aN h5
   refine Oc (cM lI (gn e14) (gm e14) rfl rfl rfl rfl (dG e14) rfl) ?_
   obtain ⟨x_14,e15,h5⟩:=aN h5
   refine Oc (di kL (aC e15) (aL e15) rfl rfl rfl rfl) (Oc (im jX rfl rfl rfl rfl rfl (eE e15) (by decide) (mN _ _ _ _)) ?_)
   refine ae.nil (Fin.ai (Fin.ag ⟨[(1,_),(7,_),(14,_),(15,_),(16,_)],[(101,.rr 58 60 2 .none (((out_3.set (x_7.a0:Int).toNat x_10).set (x_8.a1:Int).toNat x_13).map (eR aT)))]⟩ rfl (Fin.then (ab.aa ?_))))
   refine Oc (aX rfl rfl) (Oc om ?_)
   refine ae.nil ?_
   exact Fin.bz [1,7,14,15,16] [101] ((out_3.set (x_7.a0:Int).toNat x_10).set (x_8.a1:Int).toNat x_13,IntKind.i64.wrap (x_4 + 1)) (Option.some.inj h5) rfl
  ·refine ab.exit (Fin.aj ?_)
   obtain rfl:=hy6 _ (Option.some.inj h5).symm
   refine Fin.aj (Fin.aG ?_)
   exact Fin.join [7] [101] out_3 rfl rfl
 ·rintro out_2 hv
  subst v2
  refine ab.seq (ab.aa ?_)
  refine Oc om (Oc oa ?_)
  refine ae.ah ⟨[(6,.b (.row 101))],[(101,_)]⟩ rfl (ab.ret ?_)
  obtain rfl:=Option.some.inj h
  refine Fin.ag ⟨[(6,_)],[(101,_)]⟩ rfl (Fin.j8 101 rfl (rr_sl _) (Fin.aW [.one (.sl 1 (out_2.map (eL 2 aT)))] (.inl rfl) rfl (.cons (.tmp rfl) .nil) ⟨rfl,rfl⟩))
def bF (F:Nat) (fixed0:List Bool) (links0:List A2):Option ((List Int) × Int) :=
 (bG F fixed0 links0).bind fun x_1=>if (!x_1) = true then (some ([],1)) else (Option.bind (mk? (0:Int) (links0.length:Int) (links0.length:Int)) (fun x_2=>Option.bind (iter F (bL fun places_4 x_5=>if (decide (x_5 < (x_2.length:Int))) = true then ((av places_4 x_5).bind fun x_7=>some (.inl (places_4.set (x_5:Int).toNat x_5,IntKind.i64.wrap (x_5 + 1)))) else (some (.inr places_4))) (x_2,0)) (fun places_3=>(cu F (fixed0.length:Int) links0 places_3).bind fun x_8=>Option.bind (iter F (ku fun out_11 queue_12 x_13=>if (decide (x_13 < (fixed0.length:Int))) = true then (Option.bind ((av fixed0 x_13).bind fun x_18=>(dw out_11 [(-1)]).bind fun x_19=>if x_18 = true then ((av x_19 x_13).bind fun x_20=>(dw queue_12 [x_13]).bind fun x_21=>some (x_19.set (x_13:Int).toNat 0,x_21)) else (some (x_19,queue_12))) (bL fun out_16 queue_17=>some (.inl (out_16,queue_17,IntKind.i64.wrap (x_13 + 1))))) else (some (.inr (out_11,queue_12)))) ([],[],0)) (bL fun out_9 queue_10=>Option.bind (iter F (bL fun out_23 queue_24=>if (decide (0 < (queue_24.length:Int))) = true then ((av queue_24 0).bind fun x_26=>(oY queue_24 1).bind fun x_27=>(av x_8 x_26).bind fun x_28=>Option.bind (iter F (ku fun out_29 queue_30 x_31=>if (decide (x_31 < (x_28.length:Int))) = true then (Option.bind ((av x_28 x_31).bind fun x_36=>(av out_29 x_36.to).bind fun x_37=>if (decide (x_37 < 0)) = true then ((av out_29 x_26).bind fun x_38=>(av out_29 x_36.to).bind fun x_39=>(dw queue_30 [x_36.to]).bind fun x_40=>some (out_29.set (x_36.to:Int).toNat (IntKind.i64.wrap (x_38 + 1)),x_40)) else (some (out_29,queue_30))) (bL fun out_34 queue_35=>some (.inl (out_34,queue_35,IntKind.i64.wrap (x_31 + 1))))) else (some (.inr (out_29,queue_30)))) (out_23,x_27,0)) (bL fun out_32 queue_33=>some (.inl (out_32,queue_33)))) else (some (.inr out_23))) (out_9,queue_10)) (fun out_22=>some (out_22,0))))))
theorem fc (kr0:Nat) {F:Nat} {fixed0:List Bool} {links0:List A2} {r:(List Int) × Int} (h:bF F fixed0 links0 = some r):aA Try.prog [] 13 [] [.one (.sl 1 (fixed0.map eB)),.one (.sl 2 (links0.map (cR .i64)))] (Is [(kr0,.row 3 1 (r.1.map eI))] (.ez [.row kr0,.one (.i r.2)])):=by
 unfold bF at h
 refine aA.intro 96 Try.func13 Try.ntmps13 rfl (by simp) fun E=>?_
 show ab _ E ⟨96,[],[],[]⟩ _ ⟨[(0,.b (.one (.sl 1 (fixed0.map eB)))),(1,.b (.one (.sl 2 (links0.map (cR .i64)))))],[]⟩ _
 refine ab.seq (ab.aa ?_)
 refine Oc oa (Oc oa ?_)
 refine ae.ah ⟨[(0,.b (.one (.sl 1 (fixed0.map eB)))),(1,.b (.one (.sl 2 (links0.map (cR .i64)))))],[]⟩ rfl (ab.seq (ab.seq (ab.aa ?_)))
 refine Oc om (Oc om ?_)
 obtain ⟨x_1,e1,h⟩:=aN h
 refine Oc (a6 (cw e1) lQ rfl rfl) (Oc (dM rfl) ?_)
 refine ae.ah ⟨[(0,_),(1,_),(19,B (!x_1))],[]⟩ rfl (ab.ite h rfl (fun _ h=>?_) (fun _ h=>?_))
 ·refine ab.seq (ab.aa ?_)
  refine Oc oa (Oc oa ?_)
  refine ae.ah ⟨[(4,.b (.one (.nil))),(5,I 1)],[]⟩ rfl (ab.ret (Fin.aD ?_))
  obtain rfl:=Option.some.inj h
  refine Fin.ag ⟨[(4,_),(5,_)],[]⟩ rfl (Fin.dS 4 101 1 3 rfl (by decide) rfl (Fin.k8 101 kr0 [.row 101,.one (.i 1)] (.inl rfl) rfl (.cons (.tmp rfl) (.cons (.tmp rfl) .nil)) rfl rfl rfl rfl ⟨rfl,rfl⟩))
 ·refine ab.skip (Fin.ag ⟨[(0,_),(1,_)],[]⟩ rfl (Fin.then (ab.seq (ab.aa ?_))))
  refine Oc om (Oc (ay oW rfl (List.length_map _)) ?_)
  obtain ⟨x_2,e2,h⟩:=aN h
  refine Oc (bc (k:=102) (enc:=eI) ak e2 (by decide) (.cons .refl .nil) rfl rfl rfl) (Oc oa ?_)
  refine ae.ah ⟨[(0,_),(1,_),(6,.b (.row 102))],[(102,.row 3 1 (x_2.map eI))]⟩ rfl ?_
  obtain ⟨v3,h4,h⟩:=aN h
  refine ab.cA (v:=v3) (fun (places_3:List Int)=>⟨[(0,.b (.one (.sl 1 (fixed0.map eB)))),(1,.b (.one (.sl 2 (links0.map (cR .i64))))),(6,.b (.row 102))],[(102,.row 3 1 (places_3.map eI))]⟩) (fun z=>z) ?_ ?_
  ·refine ab.seq (ab.aa ?_)
   refine Oc om (Oc (gE fX rfl rfl (List.length_map _)) (Oc om ?_))
   refine ae.ah ⟨[(0,_),(1,_),(6,_),(24,I (x_2.length:Int)),(25,I 0)],[(102,_)]⟩ rfl (ab.block (ab.cy h4 (bL fun (places_4:List Int) (x_5:Int)=>⟨[(0,.b (.one (.sl 1 (fixed0.map eB)))),(1,.b (.one (.sl 2 (links0.map (cR .i64))))),(6,.b (.row 102)),(24,I (x_2.length:Int)),(25,I x_5)],[(102,.row 3 1 (places_4.map eI))]⟩) [0,1,6,24,25] [102] rfl ?_))
   rintro ⟨places_4,x_5⟩ o5 h6 hy7
   refine ab.seq (ab.aa ?_)
   refine Oc (bf rfl rfl) (ae.ah ⟨[(0,_),(1,_),(6,_),(24,_),(25,_),(26,B (decide (x_5 < (x_2.length:Int))))],[(102,_)]⟩ rfl (ab.seq (ab.ite h6 rfl (fun _ h6=>?_) (fun _ h6=>?_))))
   ·refine ab.skip (Fin.ag ⟨[(0,_),(1,_),(6,_),(24,_),(25,_)],[(102,_)]⟩ rfl (Fin.then (ab.seq (ab.block (ab.seq (ab.aa ?_))))))
    refine Oc om (Oc oa ?_)
    refine ae.ah ⟨[(0,_),(1,_),(6,_),(7,I x_5),(24,_),(25,_)],[(102,_)]⟩ rfl (ab.aa (Oc om (Oc om (Oc om ?_))))
    obtain ⟨x_7,e8,h6⟩:=aN h6
    refine Oc (an ak (aC e8) (aL e8) rfl rfl rfl rfl) (Oc (bA (i:=(x_5:Int).toNat) au rfl rfl rfl rfl (eE e8) (map_set _ _ _ _)) ?_)
    refine ae.nil (Fin.ai (Fin.ag ⟨[(0,_),(1,_),(6,_),(24,_),(25,_)],[(102,.row 3 1 ((places_4.set (x_5:Int).toNat x_5).map eI))]⟩ rfl (Fin.then (ab.aa ?_))))
    refine Oc (aX rfl rfl) (Oc om ?_)
    refine ae.nil ?_
    exact Fin.bz [0,1,6,24,25] [102] (places_4.set (x_5:Int).toNat x_5,IntKind.i64.wrap (x_5 + 1)) (Option.some.inj h6) rfl
   ·refine ab.exit (Fin.aj ?_)
    obtain rfl:=hy7 _ (Option.some.inj h6).symm
    refine Fin.aj (Fin.aG ?_)
    exact Fin.join [0,1,6] [102] places_4 rfl rfl
  ·rintro places_3 hv
   subst v3
   refine ab.seq (ab.aa ?_)
   refine Oc om (Oc (ay cY rfl (List.length_map _)) (Oc om (Oc om ?_)))
   refine ae.bO 102 rfl ?_
   obtain ⟨x_8,e9,h⟩:=aN h
   refine Oc (a6 (fB e9) si rfl rfl) (Oc oa ?_)
   refine ae.ah ⟨[(0,.b (.one (.sl 1 (fixed0.map eB)))),(8,.b (.one (.sl 1 (x_8.map (eL 2 aT)))))],[]⟩ rfl (ab.seq (ab.aa ?_))
   refine Oc oa (Oc oa ?_)
   refine ae.ah ⟨[(0,_),(8,_),(9,.b (.one (.nil))),(10,.b (.one (.nil)))],[]⟩ rfl ?_
   obtain ⟨v10,h11,h⟩:=aN h
   refine ab.cA (v:=v10) (bL fun (out_9:List Int) (queue_10:List Int)=>⟨[(8,.b (.one (.sl 1 (x_8.map (eL 2 aT))))),(9,.b (.row 104)),(10,.b (.row 106))],[(104,.row 3 1 (out_9.map eI)),(106,.row 3 1 (queue_10.map eI))]⟩) (fun z=>z) ?_ ?_
   ·refine ab.seq (ab.aa ?_)
    refine Oc om (Oc (ay cY rfl (List.length_map _)) (Oc om ?_))
    refine ae.ah ⟨[(8,_),(9,_),(10,_),(38,.b (.one (.sl 1 (fixed0.map eB)))),(39,I (fixed0.length:Int)),(40,I 0)],[]⟩ rfl (ab.block (ab.dS 9 104 1 3 rfl (by decide) rfl (ab.dS 10 106 1 3 rfl (by decide) rfl (ab.cy h11 (ku fun (out_11:List Int) (queue_12:List Int) (x_13:Int)=>⟨[(8,.b (.one (.sl 1 (x_8.map (eL 2 aT))))),(9,.b (.row 104)),(10,.b (.row 106)),(38,.b (.one (.sl 1 (fixed0.map eB)))),(39,I (fixed0.length:Int)),(40,I x_13)],[(104,.row 3 1 (out_11.map eI)),(106,.row 3 1 (queue_12.map eI))]⟩) [8,9,10,38,39,40] [104,106] rfl ?_))))
    rintro ⟨out_11,queue_12,x_13⟩ o12 h13 hy14
    refine ab.seq (ab.aa ?_)
    refine Oc (bf rfl rfl) (ae.ah ⟨[(8,_),(9,_),(10,_),(38,_),(39,_),(40,_),(41,B (decide (x_13 < (fixed0.length:Int))))],[(104,_),(106,_)]⟩ rfl (ab.seq (ab.ite h13 rfl (fun _ h13=>?_) (fun _ h13=>?_))))
    ·refine ab.skip (Fin.ag ⟨[(8,_),(9,_),(10,_),(38,_),(39,_),(40,_)],[(104,_),(106,_)]⟩ rfl (Fin.then ?_))
     obtain ⟨v15,h16,h13⟩:=aN h13
     refine ab.cA (v:=v15) (bL fun (out_16:List Int) (queue_17:List Int)=>⟨[(8,.b (.one (.sl 1 (x_8.map (eL 2 aT))))),(9,.b (.row 104)),(10,.b (.row 106)),(38,.b (.one (.sl 1 (fixed0.map eB)))),(39,I (fixed0.length:Int)),(40,I x_13)],[(104,.row 3 1 (out_16.map eI)),(106,.row 3 1 (queue_17.map eI))]⟩) (fun z=>z) ?_ ?_
     ·refine ab.block (ab.seq (ab.aa ?_))
      refine Oc om ?_
      obtain ⟨x_18,e17,h16⟩:=aN h16
      refine Oc (aI fI (aC e17) (az (e:=eB) e17) rfl rfl) (Oc (aE gP rfl rfl) (Oc oa (Oc oa ?_)))
      refine ae.ah ⟨[(8,_),(9,_),(10,_),(11,I x_13),(12,B x_18),(38,_),(39,_),(40,_)],[(104,_),(106,_)]⟩ rfl (ab.seq (ab.aa ?_))
      refine Oc om (Oc (aO (k:=107) (es:=[(-1)].map eI) ak rfl rfl (bl fun _=>rfl) rfl (by decide) (by decide) rfl) ?_)
      obtain ⟨x_19,e18,h16⟩:=aN h16
      refine Oc (cM ak (gn e18) (gm e18) rfl rfl rfl rfl (dG e18) rfl) (Oc oa ?_)
      refine ae.ah ⟨[(8,_),(9,_),(10,_),(11,_),(12,_),(38,_),(39,_),(40,_)],[(104,.row 3 1 (x_19.map eI)),(106,_)]⟩ rfl (ab.seq (ab.aa ?_))
      refine Oc om (ae.ah ⟨[(8,_),(9,_),(10,_),(11,_),(38,_),(39,_),(40,_),(48,B x_18)],[(104,_),(106,_)]⟩ rfl (ab.ite h16 rfl (fun _ h16=>?_) (fun _ h16=>?_)))
      ·refine ab.seq (ab.aa ?_)
       refine Oc om (Oc om ?_)
       obtain ⟨x_20,e19,h16⟩:=aN h16
       refine Oc (an ak (aC e19) (aL e19) rfl rfl rfl rfl) (Oc (bA (i:=(x_13:Int).toNat) au rfl rfl rfl rfl (eE e19) (map_set _ _ _ _)) ?_)
       refine ae.ah ⟨[(8,_),(9,_),(10,_),(11,_),(38,_),(39,_),(40,_)],[(104,.row 3 1 ((x_19.set (x_13:Int).toNat 0).map eI)),(106,_)]⟩ rfl (ab.aa (Oc om (Oc om (Oc (aO (k:=108) (es:=[x_13].map eI) ak rfl rfl (bl fun _=>rfl) rfl (by decide) (by decide) rfl) ?_))))
       obtain ⟨x_21,e20,h16⟩:=aN h16
       refine Oc (cM ak (gn e20) (gm e20) rfl rfl rfl rfl (dG e20) rfl) (Oc oa ?_)
       refine ae.nil (Fin.ai ?_)
       exact Fin.join [8,9,10,38,39,40] [104,106] (x_19.set (x_13:Int).toNat 0,x_21) (Option.some.inj h16) rfl
      ·refine ab.skip (Fin.ai ?_)
       exact Fin.join [8,9,10,38,39,40] [104,106] (x_19,queue_12) (Option.some.inj h16) rfl
     ·rintro ⟨out_16,queue_17⟩ hv
      subst v15
      refine ab.aa (Oc (aX rfl rfl) (Oc om ?_))
      refine ae.nil ?_
      exact Fin.bz [8,9,10,38,39,40] [104,106] (out_16,queue_17,IntKind.i64.wrap (x_13 + 1)) (Option.some.inj h13) rfl
    ·refine ab.exit (Fin.aj ?_)
     obtain rfl:=hy14 _ (Option.some.inj h13).symm
     refine Fin.aj (Fin.aG ?_)
     exact Fin.join [8,9,10] [104,106] (out_11,queue_12) rfl rfl
   ·rintro ⟨out_9,queue_10⟩ hv
    subst v10
    obtain ⟨v21,h22,h⟩:=aN h
    refine ab.cA (v:=v21) (fun (out_22:List Int)=>⟨[(9,.b (.row 104))],[(104,.row 3 1 (out_22.map eI))]⟩) (fun z=>z) ?_ ?_
    ·refine ab.block (ab.ag ⟨[(8,_),(9,_),(10,_)],[(104,_),(106,_)]⟩ rfl (ab.kM 106 rfl (ab.cy h22 (bL fun (out_23:List Int) (queue_24:List Int)=>⟨[(8,.b (.one (.sl 1 (x_8.map (eL 2 aT))))),(9,.b (.row 104)),(10,.b (.row 106))],[(104,.row 3 1 (out_23.map eI)),(106,.fW 3 1 (queue_24.map eI))]⟩) [8,9,10] [104,106] rfl ?_)))
     rintro ⟨out_23,queue_24⟩ o23 h24 hy25
     refine ab.seq (ab.seq (ab.aa ?_))
     refine Oc om (Oc (sQ fX rfl rfl (List.length_map _)) (Oc (eW rfl rfl) ?_))
     refine ae.ah ⟨[(8,_),(9,_),(10,_),(59,B (decide (0 < (queue_24.length:Int))))],[(104,_),(106,_)]⟩ rfl (ab.ite h24 rfl (fun _ h24=>?_) (fun _ h24=>?_))
     ·refine ab.skip (Fin.ag ⟨[(8,_),(9,_),(10,_)],[(104,_),(106,_)]⟩ rfl (Fin.then (ab.block (ab.seq (ab.aa ?_)))))
      refine Oc om ?_
      obtain ⟨x_26,e26,h24⟩:=aN h24
      refine ae.idxO ak au e26 rfl rfl rfl rfl (by decide) (Oc oa (ae.ah ⟨[(8,_),(9,_),(10,_),(13,I x_26)],[(104,_),(106,_)]⟩ rfl (ab.seq (ab.aa ?_))))
      refine Oc om ?_
      obtain ⟨x_27,e27,h24⟩:=aN h24
      refine Oc (qj ak e27 rfl rfl rfl rfl) (Oc oa ?_)
      refine ae.ah ⟨[(8,_),(9,_),(10,_),(13,_)],[(104,_),(106,.fW 3 1 (x_27.map eI))]⟩ rfl (ab.seq (ab.aa ?_))
      refine Oc om (Oc om ?_)
      obtain ⟨x_28,e28,h24⟩:=aN h24
      refine Oc (aI kL (aC e28) (az (e:=(eL 2 aT)) e28) rfl rfl) (Oc (aE jX rfl rfl) (Oc (ay und58 rfl (List.length_map _)) (Oc om ?_)))
      refine ae.ah ⟨[(8,_),(9,_),(10,_),(13,_),(68,.b (.one (.sl 2 (x_28.map aT)))),(69,I (x_28.length:Int)),(70,I 0)],[(104,_),(106,_)]⟩ rfl (ab.block ?_)
      obtain ⟨v29,h30,h24⟩:=aN h24
      refine ab.cy h30 (ku fun (out_29:List Int) (queue_30:List Int) (x_31:Int)=>⟨[(8,.b (.one (.sl 1 (x_8.map (eL 2 aT))))),(9,.b (.row 104)),(10,.b (.row 106)),(13,I x_26),(68,.b (.one (.sl 2 (x_28.map aT)))),(69,I (x_28.length:Int)),(70,I x_31)],[(104,.row 3 1 (out_29.map eI)),(106,.fW 3 1 (queue_30.map eI))]⟩) [8,9,10,13,68,69,70] [104,106] rfl ?_
      rintro ⟨out_29,queue_30,x_31⟩ o31 h32 hy33
      refine ab.seq (ab.aa ?_)
      refine Oc (bf rfl rfl) (ae.ah ⟨[(8,_),(9,_),(10,_),(13,_),(68,_),(69,_),(70,_),(71,B (decide (x_31 < (x_28.length:Int))))],[(104,_),(106,_)]⟩ rfl (ab.seq (ab.ite h32 rfl (fun _ h32=>?_) (fun _ h32=>?_))))
      ·refine ab.skip (Fin.ag ⟨[(8,_),(9,_),(10,_),(13,_),(68,_),(69,_),(70,_)],[(104,_),(106,_)]⟩ rfl (Fin.then ?_))
       obtain ⟨v34,h35,h32⟩:=aN h32
       refine ab.cA (v:=v34) (bL fun (out_34:List Int) (queue_35:List Int)=>⟨[(8,.b (.one (.sl 1 (x_8.map (eL 2 aT))))),(9,.b (.row 104)),(10,.b (.row 106)),(13,I x_26),(68,.b (.one (.sl 2 (x_28.map aT)))),(69,I (x_28.length:Int)),(70,I x_31)],[(104,.row 3 1 (out_34.map eI)),(106,.fW 3 1 (queue_35.map eI))]⟩) (fun z=>z) ?_ ?_
       ·refine ab.block (ab.seq (ab.aa ?_))
        obtain ⟨x_36,e36,h35⟩:=aN h35
        refine Oc (aI lI (aC e36) (az (e:=aT) e36) rfl rfl) (Oc (j9 mM rfl rfl rfl) (Oc (bh (k:=109) pb rfl) (Oc (kR mM rfl rfl rfl rfl (Nat.le_of_ble_eq_true rfl) rfl) ?_)))
        refine ae.ah ⟨[(8,_),(9,_),(10,_),(13,_),(15,Pt 109 0),(68,_),(69,_),(70,_)],[(104,_),(106,_),(109,.box 60 (aT x_36))]⟩ rfl (ab.seq (ab.aa ?_))
        refine Oc om (Oc (bH ee rfl rfl) (Oc (bn au rfl rfl rfl) ?_))
        obtain ⟨x_37,e37,h35⟩:=aN h35
        refine Oc (an ak (aC e37) (aL e37) rfl rfl rfl rfl) (Oc (ax (i:=(x_36.to:Int).toNat) (f:=0) au rfl rfl rfl (az (e:=eI) e37) rfl) (Oc (bf rfl rfl) ?_))
        refine ae.ah ⟨[(8,_),(9,_),(10,_),(13,_),(15,_),(68,_),(69,_),(70,_),(79,B (decide (x_37 < 0)))],[(104,_),(106,_),(109,_)]⟩ rfl (ab.ite h35 rfl (fun _ h35=>?_) (fun _ h35=>?_))
        ·refine ab.seq (ab.ag ⟨[(8,_),(9,_),(10,_),(13,_),(15,_),(68,_),(69,_),(70,_)],[(104,_),(106,_),(109,_)]⟩ rfl ?_)
         obtain ⟨x_38,e38,h35⟩:=aN h35
         obtain ⟨x_39,e39,h35⟩:=aN h35
         refine ab.c8 mixed 9 [.b (.row 104),Pt 109 0,I x_36.to,.b (.row 104),I x_26,.b (.a7 104 ((x_26:Int).toNat * 1)),I x_38,I (IntKind.i64.wrap (x_38 + 1)),.b (.a7 104 ((x_36.to:Int).toNat * 1))] [8,9,10,13,15,68,69,70] [104,106,109] (s':=⟨[(8,_),(9,_),(10,_),(13,_),(15,_),(68,_),(69,_),(70,_)],[(104,.row 3 1 ((out_29.set (x_36.to:Int).toNat (IntKind.i64.wrap (x_38 + 1))).map eI)),(106,_),(109,_)]⟩) rfl ⟨fun _=>.p om,fun _=>.p (bH ee rfl rfl),fun _=>.p (bn au rfl rfl rfl),fun _=>.p om,fun _=>.p om,fun _=>.p (an ak (aC e38) (aL e38) rfl rfl rfl rfl),fun _=>.p (ax (i:=(x_26:Int).toNat) (f:=0) au rfl rfl rfl (az (e:=eI) e38) rfl),fun _=>.p (aX rfl rfl),fun _=>.p (an ak (aC e39) (aL e39) rfl rfl rfl rfl),trivial⟩ ⟨_,by exact .p (bA (i:=(x_36.to:Int).toNat) au rfl rfl rfl rfl (eE e39) (map_set _ _ _ _)),rfl⟩ rfl (ab.aa (Oc om (Oc (bH ee rfl rfl) (Oc (bn au rfl rfl rfl) (Oc (aO (k:=110) (es:=[x_36.to].map eI) ak rfl rfl (bl fun _=>rfl) rfl (by decide) (by decide) rfl) ?_)))))
         obtain ⟨x_40,e40,h35⟩:=aN h35
         refine Oc (nD ak (gn e40) (gm e40) rfl rfl rfl rfl (dG e40) rfl) (Oc oa ?_)
         refine ae.nil (Fin.ai ?_)
         exact Fin.join [8,9,10,13,68,69,70] [104,106] (out_29.set (x_36.to:Int).toNat (IntKind.i64.wrap (x_38 + 1)),x_40) (Option.some.inj h35) rfl
        ·refine ab.skip (Fin.ai ?_)
         exact Fin.join [8,9,10,13,68,69,70] [104,106] (out_29,queue_30) (Option.some.inj h35) rfl
       ·rintro ⟨out_34,queue_35⟩ hv
        subst v34
        refine ab.aa (Oc (aX rfl rfl) (Oc om ?_))
        refine ae.nil ?_
        exact Fin.bz [8,9,10,13,68,69,70] [104,106] (out_34,queue_35,IntKind.i64.wrap (x_31 + 1)) (Option.some.inj h32) rfl
      ·refine ab.exit (Fin.aj ?_)
       obtain rfl:=hy33 _ (Option.some.inj h32).symm
       refine Fin.aj (Fin.aG (Fin.ai ?_))
       exact Fin.bz [8,9,10] [104,106] (out_29,queue_30) (Option.some.inj h24) rfl
     ·refine ab.exit (Fin.aj ?_)
      obtain rfl:=hy25 _ (Option.some.inj h24).symm
      refine Fin.aj (Fin.aG ?_)
      exact Fin.join [9] [104] out_23 rfl rfl
    ·rintro out_22 hv
     subst v21
     refine ab.seq (ab.aa ?_)
     refine Oc om (Oc oa (Oc oa ?_))
     refine ae.ah ⟨[(4,.b (.row 104)),(5,I 0)],[(104,_)]⟩ rfl (ab.ret ?_)
     obtain rfl:=Option.some.inj h
     refine Fin.ag ⟨[(4,_),(5,_)],[(104,_)]⟩ rfl (Fin.k8 104 kr0 [.row 104,.one (.i 0)] (.inl rfl) rfl (.cons (.tmp rfl) (.cons (.tmp rfl) .nil)) rfl rfl rfl rfl ⟨rfl,rfl⟩)
def gf (F:Nat) (x0:Int):Option Bool :=
 some (decide (x0 ≠ x0))
theorem jV {F:Nat} {x0:Int} {r:Bool} (h:gf F x0 = some r):aA Try.prog [] 52 [] [.one (.int .u64 x0)] (Is [] (.b (.one (.bool r)))):=by
 unfold gf at h
 refine aA.intro 6 Try.func52 Try.ntmps52 rfl (by simp) fun E=>?_
 show ab _ E ⟨6,[],[],[]⟩ _ ⟨[(0,.b (.one (.int .u64 x0)))],[]⟩ _
 refine ab.seq (ab.aa ?_)
 refine Oc oa (ae.ah ⟨[(0,.b (.one (.int .u64 x0)))],[]⟩ rfl (ab.seq (ab.aa ?_)))
 refine Oc om (Oc om (Oc (iR rfl rfl) (Oc oa ?_)))
 refine ae.ah ⟨[(2,B (decide (x0 ≠ x0)))],[]⟩ rfl (ab.ret ?_)
 obtain rfl:=Option.some.inj h
 refine Fin.ag ⟨[(2,_)],[]⟩ rfl (Fin.aW [.one (.bool (decide (x0 ≠ x0)))] (.inl rfl) rfl (.cons (.tmp rfl) .nil) ⟨rfl,rfl⟩)
def fV (F:Nat) (x0:Int) (y0:Int):Option Int :=
 (gf F x0).bind fun x_1=>(gf F y0).bind fun x_2=>if x_1 = true then (if x_2 = true then (some 0) else (some (-1))) else (if x_2 = true then (some 1) else (if (decide (x0 < y0)) = true then (some (-1)) else (if (decide (y0 < x0)) = true then (some 1) else (some 0))))
theorem ml {F:Nat} {x0:Int} {y0:Int} {r:Int} (h:fV F x0 y0 = some r):aA Try.prog [] 35 [] [.one (.int .u64 x0),.one (.int .u64 y0)] (Is [] (.b (.one (.i r)))):=by
 unfold fV at h
 refine aA.intro 20 Try.func35 Try.ntmps35 rfl (by simp) fun E=>?_
 show ab _ E ⟨20,[],[],[]⟩ _ ⟨[(0,.b (.one (.int .u64 x0))),(1,.b (.one (.int .u64 y0)))],[]⟩ _
 refine ab.seq (ab.aa ?_)
 refine Oc oa (ae.ah ⟨[(0,.b (.one (.int .u64 x0))),(1,.b (.one (.int .u64 y0)))],[]⟩ rfl (ab.seq (ab.aa ?_)))
 refine Oc om ?_
 obtain ⟨x_1,e1,h⟩:=aN h
 refine Oc (a6 (jV e1) sc rfl rfl) (Oc oa ?_)
 refine ae.ah ⟨[(0,_),(1,_),(5,B x_1)],[]⟩ rfl (ab.seq (ab.aa ?_))
 refine Oc om ?_
 obtain ⟨x_2,e2,h⟩:=aN h
 refine Oc (a6 (jV e2) sc rfl rfl) (Oc oa ?_)
 refine ae.ah ⟨[(0,_),(1,_),(5,_),(6,B x_2)],[]⟩ rfl (ab.seq (ab.seq (ab.aa ?_)))
 refine Oc om (ae.ah ⟨[(0,_),(1,_),(6,_),(11,B x_1)],[]⟩ rfl (ab.ite h rfl (fun _ h=>?_) (fun _ h=>?_)))
 ·refine ab.seq (ab.seq (ab.aa ?_))
  refine Oc om (ae.ah ⟨[(12,B x_2)],[]⟩ rfl (ab.ite h rfl (fun _ h=>?_) (fun _ h=>?_)))
  ·refine ab.seq (ab.aa ?_)
   refine Oc oa (ae.ah ⟨[(4,I 0)],[]⟩ rfl (ab.ret (Fin.aD (Fin.aD ?_))))
   obtain rfl:=Option.some.inj h
   refine Fin.ag ⟨[(4,_)],[]⟩ rfl (Fin.aW [.one (.i 0)] (.inl rfl) rfl (.cons (.tmp rfl) .nil) ⟨rfl,rfl⟩)
  ·refine ab.skip (Fin.ag ⟨[],[]⟩ rfl (Fin.then (ab.seq (ab.aa ?_))))
   refine Oc oa (ae.ah ⟨[(4,I (-1))],[]⟩ rfl (ab.ret (Fin.aD ?_)))
   obtain rfl:=Option.some.inj h
   refine Fin.ag ⟨[(4,_)],[]⟩ rfl (Fin.aW [.one (.i (-1))] (.inl rfl) rfl (.cons (.tmp rfl) .nil) ⟨rfl,rfl⟩)
 ·refine ab.skip (Fin.ag ⟨[(0,_),(1,_),(6,_)],[]⟩ rfl (Fin.then (ab.seq (ab.seq (ab.aa ?_)))))
  refine Oc om (ae.ah ⟨[(0,_),(1,_),(13,B x_2)],[]⟩ rfl (ab.ite h rfl (fun _ h=>?_) (fun _ h=>?_)))
  ·refine ab.seq (ab.aa ?_)
   refine Oc oa (ae.ah ⟨[(4,I 1)],[]⟩ rfl (ab.ret (Fin.aD ?_)))
   obtain rfl:=Option.some.inj h
   refine Fin.ag ⟨[(4,_)],[]⟩ rfl (Fin.aW [.one (.i 1)] (.inl rfl) rfl (.cons (.tmp rfl) .nil) ⟨rfl,rfl⟩)
  ·refine ab.skip (Fin.ag ⟨[(0,_),(1,_)],[]⟩ rfl (Fin.then (ab.seq (ab.seq (ab.aa ?_)))))
   refine Oc om (Oc om (Oc (bf rfl rfl) ?_))
   refine ae.ah ⟨[(0,_),(1,_),(16,B (decide (x0 < y0)))],[]⟩ rfl (ab.ite h rfl (fun _ h=>?_) (fun _ h=>?_))
   ·refine ab.seq (ab.aa ?_)
    refine Oc oa (ae.ah ⟨[(4,I (-1))],[]⟩ rfl (ab.ret (Fin.aD ?_)))
    obtain rfl:=Option.some.inj h
    refine Fin.ag ⟨[(4,_)],[]⟩ rfl (Fin.aW [.one (.i (-1))] (.inl rfl) rfl (.cons (.tmp rfl) .nil) ⟨rfl,rfl⟩)
   ·refine ab.skip (Fin.ag ⟨[(0,_),(1,_)],[]⟩ rfl (Fin.then (ab.seq (ab.seq (ab.aa ?_)))))
    refine Oc om (Oc om (Oc (eW rfl rfl) ?_))
    refine ae.ah ⟨[(19,B (decide (y0 < x0)))],[]⟩ rfl (ab.ite h rfl (fun _ h=>?_) (fun _ h=>?_))
    ·refine ab.seq (ab.aa ?_)
     refine Oc oa (ae.ah ⟨[(4,I 1)],[]⟩ rfl (ab.ret (Fin.aD ?_)))
     obtain rfl:=Option.some.inj h
     refine Fin.ag ⟨[(4,_)],[]⟩ rfl (Fin.aW [.one (.i 1)] (.inl rfl) rfl (.cons (.tmp rfl) .nil) ⟨rfl,rfl⟩)
    ·refine ab.skip (Fin.ag ⟨[],[]⟩ rfl (Fin.then (ab.seq (ab.aa ?_))))
     refine Oc oa (ae.ah ⟨[(4,I 0)],[]⟩ rfl (ab.ret ?_))
     obtain rfl:=Option.some.inj h
     refine Fin.ag ⟨[(4,_)],[]⟩ rfl (Fin.aW [.one (.i 0)] (.inl rfl) rfl (.cons (.tmp rfl) .nil) ⟨rfl,rfl⟩)
def bT (F:Nat) (a0:Int) (b0:Int) (v0c:List Int):Option Int :=
 (av v0c a0).bind fun x_1=>(av v0c b0).bind fun x_2=>(fV F (IntKind.u64.wrap x_1) (IntKind.u64.wrap x_2)).bind fun x_3=>some x_3
theorem dv {F:Nat} {a0:Int} {b0:Int} {v0c:List Int} {r:Int} (h:bT F a0 b0 v0c = some r):aA Try.prog [] 34 [] [.one (.i a0),.one (.i b0),.cC [.sl 1 (v0c.map eI)]] (Is [] (.b (.one (.i r)))):=by
 unfold bT at h
 refine aA.intro 17 Try.func34 Try.ntmps34 rfl (by simp) fun E=>?_
 show ab _ E ⟨17,[],[],[]⟩ _ ⟨[(0,I a0),(1,I b0),(2,.b (.cC [.sl 1 (v0c.map eI)]))],[]⟩ _
 refine ab.seq (ab.aa ?_)
 refine Oc oa (ae.ah ⟨[(0,I a0),(1,I b0),(2,.b (.cC [.sl 1 (v0c.map eI)]))],[]⟩ rfl (ab.seq ?_))
 obtain ⟨x_1,e1,h⟩:=aN h
 obtain ⟨x_2,e2,h⟩:=aN h
 obtain ⟨x_3,e3,h⟩:=aN h
 refine ab.c8 mixed 12 [.b (.one (.sl 1 (v0c.map eI))),I a0,.b (.cC [.i x_1]),I x_1,.b (.one (.int .u64 (IntKind.u64.wrap x_1))),.b (.one (.sl 1 (v0c.map eI))),I b0,.b (.cC [.i x_2]),I x_2,.b (.one (.int .u64 (IntKind.u64.wrap x_2))),I x_3,I x_3] [5] [] (s':=⟨[(5,I x_3)],[]⟩) rfl ⟨fun _=>.p (aE aZ rfl rfl),fun _=>.p om,fun _=>.p (aI ak (aC e1) (az (e:=eI) e1) rfl rfl),fun _=>.p (aE au rfl rfl),fun _=>.p (bS jk gL rfl),fun _=>.p (aE aZ rfl rfl),fun _=>.p om,fun _=>.p (aI ak (aC e2) (az (e:=eI) e2) rfl rfl),fun _=>.p (aE au rfl rfl),fun _=>.p (bS jk gL rfl),fun _=>.p (a6 (ml e3) goes35 rfl rfl),fun _=>.p oa,trivial⟩ rfl rfl (ab.ret ?_)
 obtain rfl:=Option.some.inj h
 refine Fin.ag ⟨[(5,_)],[]⟩ rfl (Fin.aW [.one (.i x_3)] (.inl rfl) rfl (.cons (.tmp rfl) .nil) ⟨rfl,rfl⟩)
def aP (F:Nat) (a0:Int) (b0:Int) (cmp0:List Int) (data0:List Int):Option (List Int) :=
 Option.bind (iter F (bL fun data_1 i_2=>if (decide (i_2 < b0)) = true then (Option.bind (Option.bind (iter F (bL fun data_5 j_6=>(bx (decide (a0 < j_6)) (av data_5 j_6)).bind fun x_8=>(bx (decide (a0 < j_6)) (av data_5 (IntKind.i64.wrap (j_6 - 1)))).bind fun x_9=>(bx (decide (a0 < j_6)) (bT F x_8 x_9 cmp0)).bind fun x_10=>if ((decide (a0 < j_6)) && (decide (x_10 < 0))) = true then ((av data_5 (IntKind.i64.wrap (j_6 - 1))).bind fun x_11=>(av data_5 j_6).bind fun x_12=>(av data_5 j_6).bind fun x_13=>(av (data_5.set (j_6:Int).toNat x_11) (IntKind.i64.wrap (j_6 - 1))).bind fun x_14=>some (.inl ((data_5.set (j_6:Int).toNat x_11).set (IntKind.i64.wrap (j_6 - 1):Int).toNat x_12,IntKind.i64.wrap (j_6 - 1)))) else (some (.inr data_5))) (data_1,i_2)) (fun data_7=>some data_7)) (fun data_4=>some (.inl (data_4,IntKind.i64.wrap (i_2 + 1))))) else (some (.inr data_1))) (data0,IntKind.i64.wrap (a0 + 1))) (fun y_3=>some y_3)
theorem dn {F:Nat} {a0:Int} {b0:Int} {cmp0:List Int} {data0:List Int} {r:(List Int)} (h:aP F a0 b0 cmp0 data0 = some r):aA Try.prog [] 57 [(1,.cB 3 1 (data0.map eI))] [.row 1,.one (.i a0),.one (.i b0),.one (.bV 34 [CP.rp [.sl 1 (cmp0.map eI)]])] (Is [(1,.cB 3 1 (r.map eI))] (.ez [])):=by
 unfold aP at h
 refine aA.intro 53 Try.func57 Try.ntmps57 rfl (by simp) fun E=>?_
 show ab _ E ⟨53,[1],[1],[]⟩ _ ⟨[(0,.b (.row 1)),(1,I a0),(2,I b0),(3,.b (.one (.bV 34 [CP.rp [.sl 1 (cmp0.map eI)]])))],[(1,.cB 3 1 (data0.map eI))]⟩ _
 refine ab.kX 1 rfl (ab.seq (ab.aa ?_))
 refine Oc om (Oc (aX rfl rfl) (Oc oa ?_))
 refine ae.ah ⟨[(0,.b (.row 1)),(1,I a0),(2,I b0),(3,.b (.one (.bV 34 [CP.rp [.sl 1 (cmp0.map eI)]]))),(8,I (IntKind.i64.wrap (a0 + 1)))],[(1,.row 3 1 (data0.map eI))]⟩ rfl (ab.block ?_)
 obtain ⟨v1,h2,h⟩:=aN h
 refine ab.cy h2 (bL fun (data_1:List Int) (i_2:Int)=>⟨[(0,.b (.row 1)),(1,I a0),(2,I b0),(3,.b (.one (.bV 34 [CP.rp [.sl 1 (cmp0.map eI)]]))),(8,I i_2)],[(1,.row 3 1 (data_1.map eI))]⟩) [0,1,2,3,8] [1] rfl ?_
 rintro ⟨data_1,i_2⟩ o3 h4 hy5
 refine ab.seq (ab.seq (ab.aa ?_))
 refine Oc om (Oc om (Oc (bf rfl rfl) ?_))
 refine ae.ah ⟨[(0,_),(1,_),(2,_),(3,_),(8,_),(14,B (decide (i_2 < b0)))],[(1,_)]⟩ rfl (ab.ite h4 rfl (fun _ h4=>?_) (fun _ h4=>?_))
 ·refine ab.skip (Fin.ag ⟨[(0,_),(1,_),(2,_),(3,_),(8,_)],[(1,_)]⟩ rfl (Fin.then ?_))
  obtain ⟨v6,h7,h4⟩:=aN h4
  refine ab.cA (v:=v6) (fun (data_4:List Int)=>⟨[(0,.b (.row 1)),(1,I a0),(2,I b0),(3,.b (.one (.bV 34 [CP.rp [.sl 1 (cmp0.map eI)]]))),(8,I i_2)],[(1,.row 3 1 (data_4.map eI))]⟩) (fun z=>z) ?_ ?_
  ·refine ab.block (ab.seq (ab.aa ?_))
   refine Oc om (Oc oa ?_)
   refine ae.ah ⟨[(0,_),(1,_),(2,_),(3,_),(8,_),(9,I i_2)],[(1,_)]⟩ rfl (ab.block ?_)
   obtain ⟨v8,h9,h7⟩:=aN h7
   refine ab.cy h9 (bL fun (data_5:List Int) (j_6:Int)=>⟨[(0,.b (.row 1)),(1,I a0),(2,I b0),(3,.b (.one (.bV 34 [CP.rp [.sl 1 (cmp0.map eI)]]))),(8,I i_2),(9,I j_6)],[(1,.row 3 1 (data_5.map eI))]⟩) [0,1,2,3,8,9] [1] rfl ?_
   rintro ⟨data_5,j_6⟩ o10 h11 hy12
   refine ab.seq (ab.seq ?_)
   refine ab.ag ⟨[(0,_),(1,_),(2,_),(3,_),(8,_),(9,_)],[(1,_)]⟩ rfl ?_
   obtain ⟨x_8,e17,h11⟩:=aN h11
   obtain ⟨x_9,e23,h11⟩:=aN h11
   obtain ⟨x_10,e26,h11⟩:=aN h11
   refine ab.c8 mixed 17 [I j_6,I a0,B (decide (a0 < j_6)),B (decide (a0 < j_6)),.opt (decide (a0 < j_6)) (.one (.bV 34 [CP.rp [.sl 1 (cmp0.map eI)]])),.opt (decide (a0 < j_6)) (.row 1),.opt (decide (a0 < j_6)) (.one (.i j_6)),.opt (decide (a0 < j_6)) (.a7 1 ((j_6:Int).toNat * 1)),.opt (decide (a0 < j_6)) (.one (.i x_8)),.opt (decide (a0 < j_6)) (.row 1),.opt (decide (a0 < j_6)) (.one (.i j_6)),.opt (decide (a0 < j_6)) (.one (.i (IntKind.i64.wrap (j_6 - 1)))),.opt (decide (a0 < j_6)) (.a7 1 ((IntKind.i64.wrap (j_6 - 1):Int).toNat * 1)),.opt (decide (a0 < j_6)) (.one (.i x_9)),.opt (decide (a0 < j_6)) (.one (.i x_10)),.opt (decide (a0 < j_6)) (.one (.bool (decide (x_10 < 0)))),B ((decide (a0 < j_6)) && (decide (x_10 < 0)))] [0,1,2,3,8,9,34] [1] (s':=⟨[(0,_),(1,_),(2,_),(3,_),(8,_),(9,_),(34,B ((decide (a0 < j_6)) && (decide (x_10 < 0))))],[(1,_)]⟩) rfl ⟨fun _=>.p om,fun _=>.p om,fun _=>.p (eW rfl rfl),fun _=>.p om,fun _=>by exact .guard (decide (a0 < j_6)) 1 [] (.plain rfl) (lF _) rfl rfl (fun g13=>trivial) (fun g13=>om),fun _=>by exact .guard (decide (a0 < j_6)) 1 [] (.plain rfl) (lF _) rfl rfl (fun g14=>trivial) (fun g14=>om),fun _=>by exact .guard (decide (a0 < j_6)) 1 [] (.plain rfl) (lF _) rfl rfl (fun g15=>trivial) (fun g15=>om),fun _=>by exact .guard (decide (a0 < j_6)) 3 [23,24] (.plain rfl) (lF _) rfl rfl (fun g16=>⟨g16,g16,trivial⟩) (fun g16=>an ak (aC (gc e17 g16)) (aL (gc e17 g16)) rfl rfl rfl rfl),fun _=>by exact .guard (decide (a0 < j_6)) 2 [25] (.plain rfl) (lF _) rfl rfl (fun g18=>⟨g18,trivial⟩) (fun g18=>ax (i:=(j_6:Int).toNat) (f:=0) au rfl rfl rfl (az (e:=eI) (gc e17 g18)) rfl),fun _=>by exact .guard (decide (a0 < j_6)) 1 [] (.plain rfl) (lF _) rfl rfl (fun g19=>trivial) (fun g19=>om),fun _=>by exact .guard (decide (a0 < j_6)) 1 [] (.plain rfl) (lF _) rfl rfl (fun g20=>trivial) (fun g20=>om),fun _=>by exact .guard (decide (a0 < j_6)) 2 [28] (.plain rfl) (lF _) rfl rfl (fun g21=>⟨g21,trivial⟩) (fun g21=>cf rfl rfl),fun _=>by exact .guard (decide (a0 < j_6)) 3 [27,29] (.plain rfl) (lF _) rfl rfl (fun g22=>⟨g22,g22,trivial⟩) (fun g22=>an ak (aC (gc e23 g22)) (aL (gc e23 g22)) rfl rfl rfl rfl),fun _=>by exact .guard (decide (a0 < j_6)) 2 [30] (.plain rfl) (lF _) rfl rfl (fun g24=>⟨g24,trivial⟩) (fun g24=>ax (i:=(IntKind.i64.wrap (j_6 - 1):Int).toNat) (f:=0) au rfl rfl rfl (az (e:=eI) (gc e23 g24)) rfl),fun _=>by exact .guard (decide (a0 < j_6)) 5 [22,26,31] (.plain rfl) (lF _) rfl rfl (fun g25=>⟨g25,g25,g25,trivial⟩) (fun g25=>gT (pss:=[[.sl 1 (cmp0.map eI)]]) (dv (gc e26 g25)) ot rfl rfl rfl trivial rfl rfl),fun _=>by exact .guard (decide (a0 < j_6)) 2 [32] (.plain rfl) (lF _) rfl rfl (fun g27=>⟨g27,trivial⟩) (fun g27=>bf rfl rfl),fun _=>.p (aR (fun e=>e) rfl rfl rfl rfl),trivial⟩ rfl rfl ?_
   refine ab.ite h11 rfl (fun _ h11=>?_) (fun _ h11=>?_)
   ·refine ab.skip (Fin.ag ⟨[(0,_),(1,_),(2,_),(3,_),(8,_),(9,_)],[(1,_)]⟩ rfl (Fin.then (ab.seq (ab.block ?_))))
    refine ab.ag ⟨[(0,_),(1,_),(2,_),(3,_),(8,_),(9,_)],[(1,_)]⟩ rfl ?_
    obtain ⟨x_11,e28,h11⟩:=aN h11
    obtain ⟨x_12,e29,h11⟩:=aN h11
    obtain ⟨x_13,e30,h11⟩:=aN h11
    obtain ⟨x_14,e31,h11⟩:=aN h11
    refine ab.fZ mixed [false,false,false,false,false,false,false,false,false,false,false,false,false,false,false,true,false,true] [.b (.row 1),I j_6,.b (.row 1),I j_6,I (IntKind.i64.wrap (j_6 - 1)),.b (.row 1),I j_6,I (IntKind.i64.wrap (j_6 - 1)),.b (.a7 1 ((IntKind.i64.wrap (j_6 - 1):Int).toNat * 1)),I x_11,.b (.row 1),I j_6,.b (.a7 1 ((j_6:Int).toNat * 1)),I x_12,.b (.a7 1 ((j_6:Int).toNat * 1)),B true,.b (.a7 1 ((IntKind.i64.wrap (j_6 - 1):Int).toNat * 1)),B true] [⟨[false,false,false,false,false,false,false,false,false,false,false,false,false,false,false,false,false,false],[(0,.b (.row 1)),(1,I a0),(2,I b0),(3,.b (.one (.bV 34 [CP.rp [.sl 1 (cmp0.map eI)]]))),(8,I i_2),(9,I j_6)],[(1,.row 3 1 (data_5.map eI))],[true,true,true,true,true,true,true,true,true,true,true,true,true,true,true,true,true,true],[],[16,17]⟩,⟨[false,false,false,false,false,false,false,false,false,false,false,false,false,false,false,true,false,false],[(0,.b (.row 1)),(1,I a0),(2,I b0),(3,.b (.one (.bV 34 [CP.rp [.sl 1 (cmp0.map eI)]]))),(8,I i_2),(9,I j_6)],[(1,.row 3 1 ((data_5.set (j_6:Int).toNat x_11).map eI))],[true,true,true,true,true,true,true,true,true,true,true,true,true,true,true,true,true,true],[0,1,5,6,7,8,9,10,11,12,13,14,15],[]⟩,⟨[false,false,false,false,false,false,false,false,false,false,false,false,false,false,false,true,false,true],[(0,.b (.row 1)),(1,I a0),(2,I b0),(3,.b (.one (.bV 34 [CP.rp [.sl 1 (cmp0.map eI)]]))),(8,I i_2),(9,I j_6)],[(1,.row 3 1 (((data_5.set (j_6:Int).toNat x_11).set (IntKind.i64.wrap (j_6 - 1):Int).toNat x_12).map eI))],[true,true,true,true,true,true,true,true,true,true,true,true,true,true,true,true,true,true],[0,1,2,3,4,5,6,7,8,9,10,11,12,13,14,15,16,17],[]⟩] rfl (⟨by kernel_rfl,⟨⟨.b (.row 1),fun _=>rfl,fun _=>.p (by exact aq rfl)⟩,⟨I j_6,fun _=>rfl,fun _=>.p (by exact aq rfl)⟩,⟨.b (.row 1),fun _=>rfl,fun _=>.p (by exact aq rfl)⟩,⟨I j_6,fun _=>rfl,fun _=>.p (by exact aq rfl)⟩,⟨I (IntKind.i64.wrap (j_6 - 1)),fun _=>rfl,fun _=>.p (by exact cf rfl rfl)⟩,⟨.b (.row 1),fun _=>rfl,fun _=>.p (by exact aq rfl)⟩,⟨I j_6,fun _=>rfl,fun _=>.p (by exact aq rfl)⟩,⟨I (IntKind.i64.wrap (j_6 - 1)),fun _=>rfl,fun _=>.p (by exact cf rfl rfl)⟩,⟨.b (.a7 1 ((IntKind.i64.wrap (j_6 - 1):Int).toNat * 1)),fun _=>rfl,fun _=>.p (by exact an ak (aC e28) (aL e28) rfl rfl rfl rfl)⟩,⟨I x_11,fun _=>rfl,fun _=>.p (by exact ax (i:=(IntKind.i64.wrap (j_6 - 1):Int).toNat) (f:=0) au rfl rfl rfl (az (e:=eI) e28) rfl)⟩,⟨.b (.row 1),fun _=>rfl,fun _=>.p (by exact aq rfl)⟩,⟨I j_6,fun _=>rfl,fun _=>.p (by exact aq rfl)⟩,⟨.b (.a7 1 ((j_6:Int).toNat * 1)),fun _=>rfl,fun _=>.p (by exact an ak (aC e29) (aL e29) rfl rfl rfl rfl)⟩,⟨I x_12,fun _=>rfl,fun _=>.p (by exact ax (i:=(j_6:Int).toNat) (f:=0) au rfl rfl rfl (az (e:=eI) e29) rfl)⟩,⟨.b (.a7 1 ((j_6:Int).toNat * 1)),fun _=>rfl,fun _=>.p (by exact an ak (aC e30) (aL e30) rfl rfl rfl rfl)⟩,⟨_,[],.b (.one .any),rfl,(fun e=>by simp at e),rfl,rfl,fun _=>.fC [1] (by exact .p (by exact bA (i:=(j_6:Int).toNat) au rfl rfl rfl rfl (eE e30) (map_set _ _ _ _))) (by exact rfl)⟩,trivial,trivial,trivial⟩,⟨by kernel_rfl,⟨trivial,trivial,⟨.b (.row 1),fun _=>rfl,fun _=>.p (by exact aq rfl)⟩,⟨I j_6,fun _=>rfl,fun _=>.p (by exact aq rfl)⟩,⟨I (IntKind.i64.wrap (j_6 - 1)),fun _=>rfl,fun _=>.p (by exact cf rfl rfl)⟩,trivial,trivial,trivial,trivial,trivial,trivial,trivial,trivial,trivial,trivial,trivial,⟨.b (.a7 1 ((IntKind.i64.wrap (j_6 - 1):Int).toNat * 1)),fun _=>rfl,fun _=>.p (by exact an ak (aC e31) (aL e31) rfl rfl rfl rfl)⟩,⟨_,[],.b (.one .any),rfl,(fun e=>by simp at e),rfl,rfl,fun _=>.fC [1] (by exact .p (by exact bA (i:=(IntKind.i64.wrap (j_6 - 1):Int).toNat) au rfl rfl rfl rfl (eE e31) (map_set _ _ _ _))) (by exact rfl)⟩,trivial⟩,⟨by kernel_rfl,⟨trivial,trivial,trivial,trivial,trivial,trivial,trivial,trivial,trivial,trivial,trivial,trivial,trivial,trivial,trivial,trivial,trivial,trivial,trivial⟩,trivial⟩⟩⟩) rfl rfl rfl [0,1,2,3,8,9] [1] (s':=⟨[(0,_),(1,_),(2,_),(3,_),(8,_),(9,_)],[(1,.row 3 1 (((data_5.set (j_6:Int).toNat x_11).set (IntKind.i64.wrap (j_6 - 1):Int).toNat x_12).map eI))]⟩) rfl ?_
    refine Fin.ai (Fin.ag ⟨[(0,_),(1,_),(2,_),(3,_),(8,_),(9,_)],[(1,_)]⟩ rfl (Fin.then (ab.aa ?_)))
    refine Oc om (Oc (cf rfl rfl) (Oc oa ?_))
    refine ae.nil ?_
    exact Fin.bz [0,1,2,3,8,9] [1] ((data_5.set (j_6:Int).toNat x_11).set (IntKind.i64.wrap (j_6 - 1):Int).toNat x_12,IntKind.i64.wrap (j_6 - 1)) (Option.some.inj h11) rfl
   ·refine ab.exit (Fin.aj ?_)
    obtain rfl:=hy12 _ (Option.some.inj h11).symm
    refine Fin.aj (Fin.aG (Fin.ai ?_))
    exact Fin.join [0,1,2,3,8] [1] data_5 (Option.some.inj h7) rfl
  ·rintro data_4 hv
   subst v6
   refine ab.aa (Oc om (Oc (aX rfl rfl) (Oc oa ?_)))
   refine ae.nil ?_
   exact Fin.bz [0,1,2,3,8] [1] (data_4,IntKind.i64.wrap (i_2 + 1)) (Option.some.inj h4) rfl
 ·refine ab.exit (Fin.aj ?_)
  obtain rfl:=hy5 _ (Option.some.inj h4).symm
  refine Fin.aj (Fin.aG ?_)
  obtain rfl:=Option.some.inj h
  refine Fin.ag ⟨[],[(1,_)]⟩ rfl (Fin.kj 1 rfl (Fin.ag ⟨[],[(1,.cB 3 1 (data_1.map eI))]⟩ rfl ?_))
  exact Fin.result [] (.inr rfl) rfl (.nil) ⟨rfl,rfl⟩
def bq (F:Nat) (a0:Int) (b0:Int) (n0:Int) (cmp0:List Int) (data0:List Int):Option (List Int) :=
 Option.bind (iter F (bL fun data_1 i_2=>if (decide (i_2 < n0)) = true then ((av data_1 (IntKind.i64.wrap (b0 + i_2))).bind fun x_4=>(av data_1 (IntKind.i64.wrap (a0 + i_2))).bind fun x_5=>(av data_1 (IntKind.i64.wrap (a0 + i_2))).bind fun x_6=>(av (data_1.set (IntKind.i64.wrap (a0 + i_2):Int).toNat x_4) (IntKind.i64.wrap (b0 + i_2))).bind fun x_7=>some (.inl ((data_1.set (IntKind.i64.wrap (a0 + i_2):Int).toNat x_4).set (IntKind.i64.wrap (b0 + i_2):Int).toNat x_5,IntKind.i64.wrap (i_2 + 1)))) else (some (.inr data_1))) (data0,0)) (fun y_3=>some y_3)
theorem cQ {F:Nat} {a0:Int} {b0:Int} {n0:Int} {cmp0:List Int} {data0:List Int} {r:(List Int)} (h:bq F a0 b0 n0 cmp0 data0 = some r):aA Try.prog [] 77 [(1,.cB 3 1 (data0.map eI))] [.row 1,.one (.i a0),.one (.i b0),.one (.i n0),.one (.bV 34 [CP.rp [.sl 1 (cmp0.map eI)]])] (Is [(1,.cB 3 1 (r.map eI))] (.ez [])):=by
 unfold bq at h
 refine aA.intro 38 Try.func77 Try.ntmps77 rfl (by simp) fun E=>?_
 show ab _ E ⟨38,[1],[1],[]⟩ _ ⟨[(0,.b (.row 1)),(1,I a0),(2,I b0),(3,I n0),(4,.b (.one (.bV 34 [CP.rp [.sl 1 (cmp0.map eI)]])))],[(1,.cB 3 1 (data0.map eI))]⟩ _
 refine ab.kX 1 rfl (ab.seq (ab.aa ?_))
 refine Oc oa (ae.ah ⟨[(0,.b (.row 1)),(1,I a0),(2,I b0),(3,I n0),(10,I 0)],[(1,.row 3 1 (data0.map eI))]⟩ rfl (ab.block ?_))
 obtain ⟨v1,h2,h⟩:=aN h
 refine ab.cy h2 (bL fun (data_1:List Int) (i_2:Int)=>⟨[(0,.b (.row 1)),(1,I a0),(2,I b0),(3,I n0),(10,I i_2)],[(1,.row 3 1 (data_1.map eI))]⟩) [0,1,2,3,10] [1] rfl ?_
 rintro ⟨data_1,i_2⟩ o3 h4 hy5
 refine ab.seq (ab.seq (ab.aa ?_))
 refine Oc om (Oc om (Oc (bf rfl rfl) ?_))
 refine ae.ah ⟨[(0,_),(1,_),(2,_),(3,_),(10,_),(13,B (decide (i_2 < n0)))],[(1,_)]⟩ rfl (ab.ite h4 rfl (fun _ h4=>?_) (fun _ h4=>?_))
 ·refine ab.skip (Fin.ag ⟨[(0,_),(1,_),(2,_),(3,_),(10,_)],[(1,_)]⟩ rfl (Fin.then (ab.seq (ab.block ?_))))
  refine ab.ag ⟨[(0,_),(1,_),(2,_),(3,_),(10,_)],[(1,_)]⟩ rfl ?_
  obtain ⟨x_4,e6,h4⟩:=aN h4
  obtain ⟨x_5,e7,h4⟩:=aN h4
  obtain ⟨x_6,e8,h4⟩:=aN h4
  obtain ⟨x_7,e9,h4⟩:=aN h4
  refine ab.fZ mixed [false,false,false,false,false,false,false,false,false,false,false,false,false,false,false,false,false,false,false,false,false,true,false,true] [.b (.row 1),I a0,I i_2,I (IntKind.i64.wrap (a0 + i_2)),.b (.row 1),I b0,I i_2,I (IntKind.i64.wrap (b0 + i_2)),.b (.row 1),I b0,I i_2,I (IntKind.i64.wrap (b0 + i_2)),.b (.a7 1 ((IntKind.i64.wrap (b0 + i_2):Int).toNat * 1)),I x_4,.b (.row 1),I a0,I i_2,I (IntKind.i64.wrap (a0 + i_2)),.b (.a7 1 ((IntKind.i64.wrap (a0 + i_2):Int).toNat * 1)),I x_5,.b (.a7 1 ((IntKind.i64.wrap (a0 + i_2):Int).toNat * 1)),B true,.b (.a7 1 ((IntKind.i64.wrap (b0 + i_2):Int).toNat * 1)),B true] [⟨[false,false,false,false,false,false,false,false,false,false,false,false,false,false,false,false,false,false,false,false,false,false,false,false],[(0,.b (.row 1)),(1,I a0),(2,I b0),(3,I n0),(10,I i_2)],[(1,.row 3 1 (data_1.map eI))],[true,true,true,true,true,true,true,true,true,true,true,true,true,true,true,true,true,true,true,true,true,true,true,true],[],[22,23]⟩,⟨[false,false,false,false,false,false,false,false,false,false,false,false,false,false,false,false,false,false,false,false,false,true,false,false],[(0,.b (.row 1)),(1,I a0),(2,I b0),(3,I n0),(10,I i_2)],[(1,.row 3 1 ((data_1.set (IntKind.i64.wrap (a0 + i_2):Int).toNat x_4).map eI))],[true,true,true,true,true,true,true,true,true,true,true,true,true,true,true,true,true,true,true,true,true,true,true,true],[0,1,2,3,8,9,10,11,12,13,14,15,16,17,18,19,20,21],[]⟩,⟨[false,false,false,false,false,false,false,false,false,false,false,false,false,false,false,false,false,false,false,false,false,true,false,true],[(0,.b (.row 1)),(1,I a0),(2,I b0),(3,I n0),(10,I i_2)],[(1,.row 3 1 (((data_1.set (IntKind.i64.wrap (a0 + i_2):Int).toNat x_4).set (IntKind.i64.wrap (b0 + i_2):Int).toNat x_5).map eI))],[true,true,true,true,true,true,true,true,true,true,true,true,true,true,true,true,true,true,true,true,true,true,true,true],[0,1,2,3,4,5,6,7,8,9,10,11,12,13,14,15,16,17,18,19,20,21,22,23],[]⟩] rfl (⟨by kernel_rfl,⟨⟨.b (.row 1),fun _=>rfl,fun _=>.p (by exact aq rfl)⟩,⟨I a0,fun _=>rfl,fun _=>.p (by exact aq rfl)⟩,⟨I i_2,fun _=>rfl,fun _=>.p (by exact aq rfl)⟩,⟨I (IntKind.i64.wrap (a0 + i_2)),fun _=>rfl,fun _=>.p (by exact aX rfl rfl)⟩,⟨.b (.row 1),fun _=>rfl,fun _=>.p (by exact aq rfl)⟩,⟨I b0,fun _=>rfl,fun _=>.p (by exact aq rfl)⟩,⟨I i_2,fun _=>rfl,fun _=>.p (by exact aq rfl)⟩,⟨I (IntKind.i64.wrap (b0 + i_2)),fun _=>rfl,fun _=>.p (by exact aX rfl rfl)⟩,⟨.b (.row 1),fun _=>rfl,fun _=>.p (by exact aq rfl)⟩,⟨I b0,fun _=>rfl,fun _=>.p (by exact aq rfl)⟩,⟨I i_2,fun _=>rfl,fun _=>.p (by exact aq rfl)⟩,⟨I (IntKind.i64.wrap (b0 + i_2)),fun _=>rfl,fun _=>.p (by exact aX rfl rfl)⟩,⟨.b (.a7 1 ((IntKind.i64.wrap (b0 + i_2):Int).toNat * 1)),fun _=>rfl,fun _=>.p (by exact an ak (aC e6) (aL e6) rfl rfl rfl rfl)⟩,⟨I x_4,fun _=>rfl,fun _=>.p (by exact ax (i:=(IntKind.i64.wrap (b0 + i_2):Int).toNat) (f:=0) au rfl rfl rfl (az (e:=eI) e6) rfl)⟩,⟨.b (.row 1),fun _=>rfl,fun _=>.p (by exact aq rfl)⟩,⟨I a0,fun _=>rfl,fun _=>.p (by exact aq rfl)⟩,⟨I i_2,fun _=>rfl,fun _=>.p (by exact aq rfl)⟩,⟨I (IntKind.i64.wrap (a0 + i_2)),fun _=>rfl,fun _=>.p (by exact aX rfl rfl)⟩,⟨.b (.a7 1 ((IntKind.i64.wrap (a0 + i_2):Int).toNat * 1)),fun _=>rfl,fun _=>.p (by exact an ak (aC e7) (aL e7) rfl rfl rfl rfl)⟩,⟨I x_5,fun _=>rfl,fun _=>.p (by exact ax (i:=(IntKind.i64.wrap (a0 + i_2):Int).toNat) (f:=0) au rfl rfl rfl (az (e:=eI) e7) rfl)⟩,⟨.b (.a7 1 ((IntKind.i64.wrap (a0 + i_2):Int).toNat * 1)),fun _=>rfl,fun _=>.p (by exact an ak (aC e8) (aL e8) rfl rfl rfl rfl)⟩,⟨_,[],.b (.one .any),rfl,(fun e=>by simp at e),rfl,rfl,fun _=>.fC [1] (by exact .p (by exact bA (i:=(IntKind.i64.wrap (a0 + i_2):Int).toNat) au rfl rfl rfl rfl (eE e8) (map_set _ _ _ _))) (by exact rfl)⟩,trivial,trivial,trivial⟩,⟨by kernel_rfl,⟨trivial,trivial,trivial,trivial,⟨.b (.row 1),fun _=>rfl,fun _=>.p (by exact aq rfl)⟩,⟨I b0,fun _=>rfl,fun _=>.p (by exact aq rfl)⟩,⟨I i_2,fun _=>rfl,fun _=>.p (by exact aq rfl)⟩,⟨I (IntKind.i64.wrap (b0 + i_2)),fun _=>rfl,fun _=>.p (by exact aX rfl rfl)⟩,trivial,trivial,trivial,trivial,trivial,trivial,trivial,trivial,trivial,trivial,trivial,trivial,trivial,trivial,⟨.b (.a7 1 ((IntKind.i64.wrap (b0 + i_2):Int).toNat * 1)),fun _=>rfl,fun _=>.p (by exact an ak (aC e9) (aL e9) rfl rfl rfl rfl)⟩,⟨_,[],.b (.one .any),rfl,(fun e=>by simp at e),rfl,rfl,fun _=>.fC [1] (by exact .p (by exact bA (i:=(IntKind.i64.wrap (b0 + i_2):Int).toNat) au rfl rfl rfl rfl (eE e9) (map_set _ _ _ _))) (by exact rfl)⟩,trivial⟩,⟨by kernel_rfl,⟨trivial,trivial,trivial,trivial,trivial,trivial,trivial,trivial,trivial,trivial,trivial,trivial,trivial,trivial,trivial,trivial,trivial,trivial,trivial,trivial,trivial,trivial,trivial,trivial,trivial⟩,trivial⟩⟩⟩) rfl rfl rfl [0,1,2,3,10] [1] (s':=⟨[(0,_),(1,_),(2,_),(3,_),(10,_)],[(1,.row 3 1 (((data_1.set (IntKind.i64.wrap (a0 + i_2):Int).toNat x_4).set (IntKind.i64.wrap (b0 + i_2):Int).toNat x_5).map eI))]⟩) rfl ?_
  refine Fin.ai (Fin.ag ⟨[(0,_),(1,_),(2,_),(3,_),(10,_)],[(1,_)]⟩ rfl (Fin.then (ab.aa ?_)))
  refine Oc om (Oc (aX rfl rfl) (Oc oa ?_))
  refine ae.nil ?_
  exact Fin.bz [0,1,2,3,10] [1] ((data_1.set (IntKind.i64.wrap (a0 + i_2):Int).toNat x_4).set (IntKind.i64.wrap (b0 + i_2):Int).toNat x_5,IntKind.i64.wrap (i_2 + 1)) (Option.some.inj h4) rfl
 ·refine ab.exit (Fin.aj ?_)
  obtain rfl:=hy5 _ (Option.some.inj h4).symm
  refine Fin.aj (Fin.aG ?_)
  obtain rfl:=Option.some.inj h
  refine Fin.ag ⟨[],[(1,_)]⟩ rfl (Fin.kj 1 rfl (Fin.ag ⟨[],[(1,.cB 3 1 (data_1.map eI))]⟩ rfl ?_))
  exact Fin.result [] (.inr rfl) rfl (.nil) ⟨rfl,rfl⟩
def cr (F:Nat) (a0:Int) (m0:Int) (b0:Int) (cmp0:List Int) (data0:List Int):Option (List Int) :=
 Option.bind (iter F (ku fun data_3 i_4 j_5=>if (decide (i_4 ≠ j_5)) = true then (if (decide (j_5 < i_4)) = true then ((bq F (IntKind.i64.wrap (m0 - i_4)) m0 j_5 cmp0 data_3).bind fun x_8=>some (.inl (x_8,IntKind.i64.wrap (i_4 - j_5),j_5))) else (dq (IntKind.i64.wrap ((IntKind.i64.wrap (m0 + j_5)) - i_4)) fun x_9=>(bq F (IntKind.i64.wrap (m0 - i_4)) x_9 i_4 cmp0 data_3).bind fun x_10=>some (.inl (x_10,i_4,IntKind.i64.wrap (j_5 - i_4))))) else (some (.inr (data_3,i_4)))) (data0,IntKind.i64.wrap (m0 - a0),IntKind.i64.wrap (b0 - m0))) (bL fun data_1 i_2=>(bq F (IntKind.i64.wrap (m0 - i_2)) m0 i_2 cmp0 data_1).bind fun x_11=>some x_11)
theorem hJ {F:Nat} {a0:Int} {m0:Int} {b0:Int} {cmp0:List Int} {data0:List Int} {r:(List Int)} (h:cr F a0 m0 b0 cmp0 data0 = some r):aA Try.prog [] 70 [(1,.cB 3 1 (data0.map eI))] [.row 1,.one (.i a0),.one (.i m0),.one (.i b0),.one (.bV 34 [CP.rp [.sl 1 (cmp0.map eI)]])] (Is [(1,.cB 3 1 (r.map eI))] (.ez [])):=by
 unfold cr at h
 refine aA.intro 58 Try.func70 Try.ntmps70 rfl (by simp) fun E=>?_
 show ab _ E ⟨58,[1],[1],[]⟩ _ ⟨[(0,.b (.row 1)),(1,I a0),(2,I m0),(3,I b0),(4,.b (.one (.bV 34 [CP.rp [.sl 1 (cmp0.map eI)]])))],[(1,.cB 3 1 (data0.map eI))]⟩ _
 refine ab.kX 1 rfl (ab.seq (ab.aa ?_))
 refine Oc om (Oc om (Oc (cf rfl rfl) (Oc oa ?_)))
 refine ae.ah ⟨[(0,.b (.row 1)),(2,I m0),(3,I b0),(4,.b (.one (.bV 34 [CP.rp [.sl 1 (cmp0.map eI)]]))),(10,I (IntKind.i64.wrap (m0 - a0)))],[(1,.row 3 1 (data0.map eI))]⟩ rfl (ab.seq (ab.aa ?_))
 refine Oc om (Oc om (Oc (cf rfl rfl) (Oc oa ?_)))
 refine ae.ah ⟨[(0,_),(2,_),(4,_),(10,_),(11,I (IntKind.i64.wrap (b0 - m0)))],[(1,_)]⟩ rfl ?_
 obtain ⟨v1,h2,h⟩:=aN h
 refine ab.cA (v:=v1) (bL fun (data_1:List Int) (i_2:Int)=>⟨[(0,.b (.row 1)),(2,I m0),(4,.b (.one (.bV 34 [CP.rp [.sl 1 (cmp0.map eI)]]))),(10,I i_2)],[(1,.row 3 1 (data_1.map eI))]⟩) (fun z=>z) ?_ ?_
 ·refine ab.block (ab.cy h2 (ku fun (data_3:List Int) (i_4:Int) (j_5:Int)=>⟨[(0,.b (.row 1)),(2,I m0),(4,.b (.one (.bV 34 [CP.rp [.sl 1 (cmp0.map eI)]]))),(10,I i_4),(11,I j_5)],[(1,.row 3 1 (data_3.map eI))]⟩) [0,2,4,10,11] [1] rfl ?_)
  rintro ⟨data_3,i_4,j_5⟩ o3 h4 hy5
  refine ab.seq (ab.seq (ab.aa ?_))
  refine Oc om (Oc om (Oc (iR rfl rfl) ?_))
  refine ae.ah ⟨[(0,_),(2,_),(4,_),(10,_),(11,_),(20,B (decide (i_4 ≠ j_5)))],[(1,_)]⟩ rfl (ab.ite h4 rfl (fun _ h4=>?_) (fun _ h4=>?_))
  ·refine ab.skip (Fin.ag ⟨[(0,_),(2,_),(4,_),(10,_),(11,_)],[(1,_)]⟩ rfl (Fin.then (ab.block (ab.seq (ab.aa ?_)))))
   refine Oc om (Oc om (Oc (eW rfl rfl) ?_))
   refine ae.ah ⟨[(0,_),(2,_),(4,_),(10,_),(11,_),(23,B (decide (j_5 < i_4)))],[(1,_)]⟩ rfl (ab.ite h4 rfl (fun _ h4=>?_) (fun _ h4=>?_))
   ·refine ab.seq (ab.aa ?_)
    refine Oc om (Oc om (Oc om (Oc (cf rfl rfl) (Oc om (Oc om ?_)))))
    refine Oc om (ae.kj 1 rfl ?_)
    obtain ⟨x_8,e6,h4⟩:=aN h4
    refine Oc (bm (own_a:=[(1,_)]) (cQ e6) p7 rfl ⟨rfl,trivial⟩ rfl rfl) (ae.kX 1 rfl (ae.ah ⟨[(0,_),(2,_),(4,_),(10,_),(11,_)],[(1,.row 3 1 (x_8.map eI))]⟩ rfl (ab.aa (Oc om (Oc om (Oc (cf rfl rfl) (Oc oa ?_)))))))
    refine ae.nil (Fin.ai ?_)
    exact Fin.bz [0,2,4,10,11] [1] (x_8,IntKind.i64.wrap (i_4 - j_5),j_5) (Option.some.inj h4) rfl
   ·refine ab.seq (ab.aa ?_)
    refine Oc om (Oc om (Oc om (Oc (cf rfl rfl) (Oc om (Oc om ?_)))))
    refine Oc (aX rfl rfl) (ae.ag ⟨[(0,_),(2,_),(4,_),(10,_),(11,_),(35,.b (.row 1)),(38,I (IntKind.i64.wrap (m0 - i_4))),(41,I (IntKind.i64.wrap (m0 + j_5)))],[(1,_)]⟩ rfl (Oc om (ae.ic .i64 h4 rfl (cf rfl rfl) (fun x_9 h4=>?_))))
    refine Oc om (Oc om ?_)
    refine ae.kj 1 rfl ?_
    obtain ⟨x_10,e7,h4⟩:=aN h4
    refine Oc (bm (own_a:=[(1,_)]) (cQ e7) p7 rfl ⟨rfl,trivial⟩ rfl rfl) (ae.kX 1 rfl (ae.ah ⟨[(0,_),(2,_),(4,_),(10,_),(11,_)],[(1,.row 3 1 (x_10.map eI))]⟩ rfl (ab.aa (Oc om (Oc om (Oc (cf rfl rfl) (Oc oa ?_)))))))
    refine ae.nil (Fin.ai ?_)
    exact Fin.bz [0,2,4,10,11] [1] (x_10,i_4,IntKind.i64.wrap (j_5 - i_4)) (Option.some.inj h4) rfl
  ·refine ab.exit (Fin.aj ?_)
   obtain rfl:=hy5 _ (Option.some.inj h4).symm
   refine Fin.aj (Fin.aG ?_)
   exact Fin.join [0,2,4,10] [1] (data_3,i_4) rfl rfl
 ·rintro ⟨data_1,i_2⟩ hv
  subst v1
  refine ab.aa (Oc om (Oc om (Oc om (Oc (cf rfl rfl) (Oc om (Oc om ?_))))))
  refine Oc om (ae.kj 1 rfl ?_)
  obtain ⟨x_11,e8,h⟩:=aN h
  refine Oc (bm (own_a:=[(1,_)]) (cQ e8) p7 rfl ⟨rfl,trivial⟩ rfl rfl) (ae.kX 1 rfl (ae.nil ?_))
  obtain rfl:=Option.some.inj h
  refine Fin.ag ⟨[],[(1,.row 3 1 (x_11.map eI))]⟩ rfl (Fin.kj 1 rfl (Fin.ag ⟨[],[(1,.cB 3 1 (x_11.map eI))]⟩ rfl ?_))
  exact Fin.result [] (.inr rfl) rfl (.nil) ⟨rfl,rfl⟩
def bj (F:Nat):Nat → Int → Int → Int → (List Int) → (List Int) → Option (List Int)
 | 0,_,_,_,_,_=>none
 | n + 1,a0,m0,b0,cmp0,data0=>Option.bind (if (decide ((IntKind.i64.wrap (m0 - a0)) = 1)) = true then (Option.bind (iter F (bL fun i_2 j_3=>if (decide (i_2 < j_3)) = true then (dq (IntKind.u64.wrap (IntKind.i64.wrap (i_2 + j_3))) fun x_5=>(av data0 (IntKind.i64.wrap (x_5 / 2))).bind fun x_6=>(av data0 a0).bind fun x_7=>(bT F x_6 x_7 cmp0).bind fun x_8=>if (decide (x_8 < 0)) = true then (dq (IntKind.i64.wrap ((IntKind.i64.wrap (x_5 / 2)) + 1)) fun x_9=>some (.inl (x_9,j_3))) else (some (.inl (i_2,IntKind.i64.wrap (x_5 / 2))))) else (some (.inr i_2))) (m0,b0)) (fun i_1=>Option.bind (iter F (bL fun data_11 k_12=>if (decide (k_12 < (IntKind.i64.wrap (i_1 - 1)))) = true then ((av data_11 (IntKind.i64.wrap (k_12 + 1))).bind fun x_14=>(av data_11 k_12).bind fun x_15=>(av data_11 k_12).bind fun x_16=>(av (data_11.set (k_12:Int).toNat x_14) (IntKind.i64.wrap (k_12 + 1))).bind fun x_17=>some (.inl ((data_11.set (k_12:Int).toNat x_14).set (IntKind.i64.wrap (k_12 + 1):Int).toNat x_15,IntKind.i64.wrap (k_12 + 1)))) else (some (.inr data_11))) (data0,a0)) (fun y_10=>some (.inr y_10)))) else (some (.inl ()))) (fH (fun _=>Option.bind (if (decide ((IntKind.i64.wrap (b0 - m0)) = 1)) = true then (Option.bind (iter F (bL fun i_19 j_20=>if (decide (i_19 < j_20)) = true then (dq (IntKind.u64.wrap (IntKind.i64.wrap (i_19 + j_20))) fun x_22=>(av data0 m0).bind fun x_23=>(av data0 (IntKind.i64.wrap (x_22 / 2))).bind fun x_24=>(bT F x_23 x_24 cmp0).bind fun x_25=>if (!(decide (x_25 < 0))) = true then (dq (IntKind.i64.wrap ((IntKind.i64.wrap (x_22 / 2)) + 1)) fun x_26=>some (.inl (x_26,j_20))) else (some (.inl (i_19,IntKind.i64.wrap (x_22 / 2))))) else (some (.inr i_19))) (a0,m0)) (fun i_18=>Option.bind (iter F (bL fun data_28 k_29=>if (decide (i_18 < k_29)) = true then ((av data_28 (IntKind.i64.wrap (k_29 - 1))).bind fun x_31=>(av data_28 k_29).bind fun x_32=>(av data_28 k_29).bind fun x_33=>(av (data_28.set (k_29:Int).toNat x_31) (IntKind.i64.wrap (k_29 - 1))).bind fun x_34=>some (.inl ((data_28.set (k_29:Int).toNat x_31).set (IntKind.i64.wrap (k_29 - 1):Int).toNat x_32,IntKind.i64.wrap (k_29 - 1)))) else (some (.inr data_28))) (data0,m0)) (fun y_27=>some (.inr y_27)))) else (some (.inl ()))) (fH (fun _=>dq (IntKind.u64.wrap (IntKind.i64.wrap (a0 + b0))) fun x_35=>dq (IntKind.i64.wrap ((IntKind.i64.wrap (x_35 / 2)) + m0)) fun x_36=>Option.bind (if (decide ((IntKind.i64.wrap (x_35 / 2)) < m0)) = true then (some (IntKind.i64.wrap (x_36 - b0),IntKind.i64.wrap (x_35 / 2))) else (some (a0,m0))) (bL fun start_37 r_38=>Option.bind (iter F (bL fun start_40 r_41=>if (decide (start_40 < r_41)) = true then (dq (IntKind.u64.wrap (IntKind.i64.wrap (start_40 + r_41))) fun x_43=>(av data0 (IntKind.i64.wrap ((IntKind.i64.wrap (x_36 - 1)) - (IntKind.i64.wrap (x_43 / 2))))).bind fun x_44=>(av data0 (IntKind.i64.wrap (x_43 / 2))).bind fun x_45=>(bT F x_44 x_45 cmp0).bind fun x_46=>if (!(decide (x_46 < 0))) = true then (dq (IntKind.i64.wrap ((IntKind.i64.wrap (x_43 / 2)) + 1)) fun x_47=>some (.inl (x_47,r_41))) else (some (.inl (start_40,IntKind.i64.wrap (x_43 / 2))))) else (some (.inr start_40))) (start_37,r_38)) (fun start_39=>Option.bind (dq ((decide (start_39 < m0)) && (decide (m0 < (IntKind.i64.wrap (x_36 - start_39))))) fun x_49=>if x_49 = true then ((cr F start_39 m0 (IntKind.i64.wrap (x_36 - start_39)) cmp0 data0).bind fun x_50=>some x_50) else (some data0)) (fun data_48=>Option.bind (dq ((decide (a0 < start_39)) && (decide (start_39 < (IntKind.i64.wrap (x_35 / 2))))) fun x_52=>if x_52 = true then ((bj F n a0 start_39 (IntKind.i64.wrap (x_35 / 2)) cmp0 data_48).bind fun x_53=>some x_53) else (some data_48)) (fun data_51=>dq (decide ((IntKind.i64.wrap (x_35 / 2)) < (IntKind.i64.wrap (x_36 - start_39)))) fun x_54=>if (x_54 && (decide ((IntKind.i64.wrap (x_36 - start_39)) < b0))) = true then ((bj F n (IntKind.i64.wrap (x_35 / 2)) (IntKind.i64.wrap (x_36 - start_39)) b0 cmp0 data_51).bind fun x_55=>some x_55) else (some data_51)))))) (fun y=>some y))) (fun y=>some y))
def cJ (F:Nat) (a0:Int) (m0:Int) (b0:Int) (cmp0:List Int) (data0:List Int):Option (List Int):=bj F F a0 m0 b0 cmp0 data0
theorem gj {F:Nat}:∀ (n:Nat) {a0:Int} {m0:Int} {b0:Int} {cmp0:List Int} {data0:List Int} {r:(List Int)} (h:bj F n a0 m0 b0 cmp0 data0 = some r),aA Try.prog [] 58 [(1,.cB 3 1 (data0.map eI))] [.row 1,.one (.i a0),.one (.i m0),.one (.i b0),.one (.bV 34 [CP.rp [.sl 1 (cmp0.map eI)]])] (Is [(1,.cB 3 1 (r.map eI))] (.ez [])):=by
 intro n
 induction n with
 | zero=>intro a0 m0 b0 cmp0 data0 r h; simp [bj] at h
 | succ n ih=>
 intro a0 m0 b0 cmp0 data0 r h
 unfold bj at h
 refine aA.intro 220 Try.func58 Try.ntmps58 rfl (by simp) fun E=>?_
 show ab _ E ⟨220,[1],[1],[]⟩ _ ⟨[(0,.b (.row 1)),(1,I a0),(2,I m0),(3,I b0),(4,.b (.one (.bV 34 [CP.rp [.sl 1 (cmp0.map eI)]])))],[(1,.cB 3 1 (data0.map eI))]⟩ _
 refine ab.kX 1 rfl ?_
 obtain ⟨v1,h2,h⟩:=aN h
 refine ab.cA (v:=v1) (fun (_:Unit)=>⟨[(0,.b (.row 1)),(1,I a0),(2,I m0),(3,I b0),(4,.b (.one (.bV 34 [CP.rp [.sl 1 (cmp0.map eI)]])))],[(1,.row 3 1 (data0.map eI))]⟩) (fun z=>.inl z) ?_ ?_
 ·refine ab.seq (ab.aa ?_)
  refine Oc om (Oc om (Oc (cf rfl rfl) (Oc (cT rfl rfl) ?_)))
  refine ae.ah ⟨[(0,.b (.row 1)),(1,I a0),(2,I m0),(3,I b0),(4,.b (.one (.bV 34 [CP.rp [.sl 1 (cmp0.map eI)]]))),(28,B (decide ((IntKind.i64.wrap (m0 - a0)) = 1)))],[(1,.row 3 1 (data0.map eI))]⟩ rfl (ab.ite h2 rfl (fun _ h2=>?_) (fun _ h2=>?_))
  ·refine ab.seq (ab.aa ?_)
   refine Oc om (Oc oa ?_)
   refine ae.ah ⟨[(0,_),(1,_),(3,_),(4,_),(10,I m0)],[(1,_)]⟩ rfl (ab.seq (ab.aa ?_))
   refine Oc om (Oc oa ?_)
   refine ae.ah ⟨[(0,_),(1,_),(4,_),(10,_),(11,I b0)],[(1,_)]⟩ rfl ?_
   obtain ⟨v3,h4,h2⟩:=aN h2
   refine ab.cA (v:=v3) (fun (i_1:Int)=>⟨[(0,.b (.row 1)),(1,I a0),(10,I i_1)],[(1,.row 3 1 (data0.map eI))]⟩) (fun z=>z) ?_ ?_
   ·refine ab.block (ab.cy h4 (bL fun (i_2:Int) (j_3:Int)=>⟨[(0,.b (.row 1)),(1,I a0),(4,.b (.one (.bV 34 [CP.rp [.sl 1 (cmp0.map eI)]]))),(10,I i_2),(11,I j_3)],[(1,.row 3 1 (data0.map eI))]⟩) [0,1,4,10,11] [1] rfl ?_)
    rintro ⟨i_2,j_3⟩ o5 h6 hy7
    refine ab.seq (ab.seq (ab.aa ?_))
    refine Oc om (Oc om (Oc (bf rfl rfl) ?_))
    refine ae.ah ⟨[(0,_),(1,_),(4,_),(10,_),(11,_),(33,B (decide (i_2 < j_3)))],[(1,_)]⟩ rfl (ab.ite h6 rfl (fun _ h6=>?_) (fun _ h6=>?_))
    ·refine ab.skip (Fin.ag ⟨[(0,_),(1,_),(4,_),(10,_),(11,_)],[(1,_)]⟩ rfl (Fin.then (ab.block (ab.seq (ab.aa ?_)))))
     refine Oc om (Oc om (Oc (aX rfl rfl) ?_))
     refine ae.ic .u64 h6 rfl (bS jk gL rfl) (fun x_5 h6=>?_)
     refine Oc (iV (m:=1) (by decide) rfl rfl rfl) (Oc (bS gL jk rfl) (Oc oa ?_))
     refine ae.ah ⟨[(0,_),(1,_),(4,_),(10,_),(11,_),(12,I (IntKind.i64.wrap (x_5 / 2)))],[(1,_)]⟩ rfl (ab.seq ?_)
     obtain ⟨x_6,e8,h6⟩:=aN h6
     obtain ⟨x_7,e9,h6⟩:=aN h6
     obtain ⟨x_8,e10,h6⟩:=aN h6
     refine ab.c8 mixed 11 [.b (.one (.bV 34 [CP.rp [.sl 1 (cmp0.map eI)]])),.b (.row 1),I (IntKind.i64.wrap (x_5 / 2)),.b (.a7 1 ((IntKind.i64.wrap (x_5 / 2):Int).toNat * 1)),I x_6,.b (.row 1),I a0,.b (.a7 1 ((a0:Int).toNat * 1)),I x_7,I x_8,B (decide (x_8 < 0))] [0,1,4,10,11,12,50] [1] (s':=⟨[(0,_),(1,_),(4,_),(10,_),(11,_),(12,_),(50,B (decide (x_8 < 0)))],[(1,_)]⟩) rfl ⟨fun _=>.p om,fun _=>.p om,fun _=>.p om,fun _=>.p (an ak (aC e8) (aL e8) rfl rfl rfl rfl),fun _=>.p (ax (i:=(IntKind.i64.wrap (x_5 / 2):Int).toNat) (f:=0) au rfl rfl rfl (az (e:=eI) e8) rfl),fun _=>.p om,fun _=>.p om,fun _=>.p (an ak (aC e9) (aL e9) rfl rfl rfl rfl),fun _=>.p (ax (i:=(a0:Int).toNat) (f:=0) au rfl rfl rfl (az (e:=eI) e9) rfl),fun _=>.p (gT (pss:=[[.sl 1 (cmp0.map eI)]]) (dv e10) ot rfl rfl rfl trivial rfl rfl),fun _=>.p (bf rfl rfl),trivial⟩ rfl rfl (ab.ite h6 rfl (fun _ h6=>?_) (fun _ h6=>?_))
     ·refine ab.aa (Oc om (ae.ic .i64 h6 rfl (aX rfl rfl) (fun x_9 h6=>?_)))
      refine Oc oa (ae.nil (Fin.ai ?_))
      exact Fin.bz [0,1,4,10,11] [1] (x_9,j_3) (Option.some.inj h6) rfl
     ·refine ab.aa (Oc om (Oc oa ?_))
      refine ae.nil (Fin.ai ?_)
      exact Fin.bz [0,1,4,10,11] [1] (i_2,IntKind.i64.wrap (x_5 / 2)) (Option.some.inj h6) rfl
    ·refine ab.exit (Fin.aj ?_)
     obtain rfl:=hy7 _ (Option.some.inj h6).symm
     refine Fin.aj (Fin.aG ?_)
     exact Fin.join [0,1,10] [1] i_2 rfl rfl
   ·rintro i_1 hv
    subst v3
    obtain ⟨v11,h12,h2⟩:=aN h2
    refine ab.cA (v:=v11) (fun (y_10:List Int)=>⟨[],[(1,.row 3 1 (y_10.map eI))]⟩) (fun z=>z) ?_ ?_
    ·refine ab.seq (ab.aa ?_)
     refine Oc om (Oc oa ?_)
     refine ae.ah ⟨[(0,_),(10,_),(13,I a0)],[(1,_)]⟩ rfl (ab.block (ab.cy h12 (bL fun (data_11:List Int) (k_12:Int)=>⟨[(0,.b (.row 1)),(10,I i_1),(13,I k_12)],[(1,.row 3 1 (data_11.map eI))]⟩) [0,10,13] [1] rfl ?_))
     rintro ⟨data_11,k_12⟩ o13 h14 hy15
     refine ab.seq (ab.seq (ab.aa ?_))
     refine Oc om (Oc om (Oc (cf rfl rfl) (Oc (bf rfl rfl) ?_)))
     refine ae.ah ⟨[(0,_),(10,_),(13,_),(58,B (decide (k_12 < (IntKind.i64.wrap (i_1 - 1)))))],[(1,_)]⟩ rfl (ab.ite h14 rfl (fun _ h14=>?_) (fun _ h14=>?_))
     ·refine ab.skip (Fin.ag ⟨[(0,_),(10,_),(13,_)],[(1,_)]⟩ rfl (Fin.then (ab.seq (ab.block ?_))))
      refine ab.ag ⟨[(0,_),(10,_),(13,_)],[(1,_)]⟩ rfl ?_
      obtain ⟨x_14,e16,h14⟩:=aN h14
      obtain ⟨x_15,e17,h14⟩:=aN h14
      obtain ⟨x_16,e18,h14⟩:=aN h14
      obtain ⟨x_17,e19,h14⟩:=aN h14
      refine ab.fZ mixed [false,false,false,false,false,false,false,false,false,false,false,false,false,false,false,true,false,true] [.b (.row 1),I k_12,.b (.row 1),I k_12,I (IntKind.i64.wrap (k_12 + 1)),.b (.row 1),I k_12,I (IntKind.i64.wrap (k_12 + 1)),.b (.a7 1 ((IntKind.i64.wrap (k_12 + 1):Int).toNat * 1)),I x_14,.b (.row 1),I k_12,.b (.a7 1 ((k_12:Int).toNat * 1)),I x_15,.b (.a7 1 ((k_12:Int).toNat * 1)),B true,.b (.a7 1 ((IntKind.i64.wrap (k_12 + 1):Int).toNat * 1)),B true] [⟨[false,false,false,false,false,false,false,false,false,false,false,false,false,false,false,false,false,false],[(0,.b (.row 1)),(10,I i_1),(13,I k_12)],[(1,.row 3 1 (data_11.map eI))],[true,true,true,true,true,true,true,true,true,true,true,true,true,true,true,true,true,true],[],[16,17]⟩,⟨[false,false,false,false,false,false,false,false,false,false,false,false,false,false,false,true,false,false],[(0,.b (.row 1)),(10,I i_1),(13,I k_12)],[(1,.row 3 1 ((data_11.set (k_12:Int).toNat x_14).map eI))],[true,true,true,true,true,true,true,true,true,true,true,true,true,true,true,true,true,true],[0,1,5,6,7,8,9,10,11,12,13,14,15],[]⟩,⟨[false,false,false,false,false,false,false,false,false,false,false,false,false,false,false,true,false,true],[(0,.b (.row 1)),(10,I i_1),(13,I k_12)],[(1,.row 3 1 (((data_11.set (k_12:Int).toNat x_14).set (IntKind.i64.wrap (k_12 + 1):Int).toNat x_15).map eI))],[true,true,true,true,true,true,true,true,true,true,true,true,true,true,true,true,true,true],[0,1,2,3,4,5,6,7,8,9,10,11,12,13,14,15,16,17],[]⟩] rfl (⟨by kernel_rfl,⟨⟨.b (.row 1),fun _=>rfl,fun _=>.p (by exact aq rfl)⟩,⟨I k_12,fun _=>rfl,fun _=>.p (by exact aq rfl)⟩,⟨.b (.row 1),fun _=>rfl,fun _=>.p (by exact aq rfl)⟩,⟨I k_12,fun _=>rfl,fun _=>.p (by exact aq rfl)⟩,⟨I (IntKind.i64.wrap (k_12 + 1)),fun _=>rfl,fun _=>.p (by exact aX rfl rfl)⟩,⟨.b (.row 1),fun _=>rfl,fun _=>.p (by exact aq rfl)⟩,⟨I k_12,fun _=>rfl,fun _=>.p (by exact aq rfl)⟩,⟨I (IntKind.i64.wrap (k_12 + 1)),fun _=>rfl,fun _=>.p (by exact aX rfl rfl)⟩,⟨.b (.a7 1 ((IntKind.i64.wrap (k_12 + 1):Int).toNat * 1)),fun _=>rfl,fun _=>.p (by exact an ak (aC e16) (aL e16) rfl rfl rfl rfl)⟩,⟨I x_14,fun _=>rfl,fun _=>.p (by exact ax (i:=(IntKind.i64.wrap (k_12 + 1):Int).toNat) (f:=0) au rfl rfl rfl (az (e:=eI) e16) rfl)⟩,⟨.b (.row 1),fun _=>rfl,fun _=>.p (by exact aq rfl)⟩,⟨I k_12,fun _=>rfl,fun _=>.p (by exact aq rfl)⟩,⟨.b (.a7 1 ((k_12:Int).toNat * 1)),fun _=>rfl,fun _=>.p (by exact an ak (aC e17) (aL e17) rfl rfl rfl rfl)⟩,⟨I x_15,fun _=>rfl,fun _=>.p (by exact ax (i:=(k_12:Int).toNat) (f:=0) au rfl rfl rfl (az (e:=eI) e17) rfl)⟩,⟨.b (.a7 1 ((k_12:Int).toNat * 1)),fun _=>rfl,fun _=>.p (by exact an ak (aC e18) (aL e18) rfl rfl rfl rfl)⟩,⟨_,[],.b (.one .any),rfl,(fun e=>by simp at e),rfl,rfl,fun _=>.fC [1] (by exact .p (by exact bA (i:=(k_12:Int).toNat) au rfl rfl rfl rfl (eE e18) (map_set _ _ _ _))) (by exact rfl)⟩,trivial,trivial,trivial⟩,⟨by kernel_rfl,⟨trivial,trivial,⟨.b (.row 1),fun _=>rfl,fun _=>.p (by exact aq rfl)⟩,⟨I k_12,fun _=>rfl,fun _=>.p (by exact aq rfl)⟩,⟨I (IntKind.i64.wrap (k_12 + 1)),fun _=>rfl,fun _=>.p (by exact aX rfl rfl)⟩,trivial,trivial,trivial,trivial,trivial,trivial,trivial,trivial,trivial,trivial,trivial,⟨.b (.a7 1 ((IntKind.i64.wrap (k_12 + 1):Int).toNat * 1)),fun _=>rfl,fun _=>.p (by exact an ak (aC e19) (aL e19) rfl rfl rfl rfl)⟩,⟨_,[],.b (.one .any),rfl,(fun e=>by simp at e),rfl,rfl,fun _=>.fC [1] (by exact .p (by exact bA (i:=(IntKind.i64.wrap (k_12 + 1):Int).toNat) au rfl rfl rfl rfl (eE e19) (map_set _ _ _ _))) (by exact rfl)⟩,trivial⟩,⟨by kernel_rfl,⟨trivial,trivial,trivial,trivial,trivial,trivial,trivial,trivial,trivial,trivial,trivial,trivial,trivial,trivial,trivial,trivial,trivial,trivial,trivial⟩,trivial⟩⟩⟩) rfl rfl rfl [0,10,13] [1] (s':=⟨[(0,_),(10,_),(13,_)],[(1,.row 3 1 (((data_11.set (k_12:Int).toNat x_14).set (IntKind.i64.wrap (k_12 + 1):Int).toNat x_15).map eI))]⟩) rfl ?_
      refine Fin.ai (Fin.ag ⟨[(0,_),(10,_),(13,_)],[(1,_)]⟩ rfl (Fin.then (ab.aa ?_)))
      refine Oc om (Oc (aX rfl rfl) (Oc oa ?_))
      refine ae.nil ?_
      exact Fin.bz [0,10,13] [1] ((data_11.set (k_12:Int).toNat x_14).set (IntKind.i64.wrap (k_12 + 1):Int).toNat x_15,IntKind.i64.wrap (k_12 + 1)) (Option.some.inj h14) rfl
     ·refine ab.exit (Fin.aj ?_)
      obtain rfl:=hy15 _ (Option.some.inj h14).symm
      refine Fin.aj (Fin.aG ?_)
      exact Fin.join [] [1] data_11 rfl rfl
    ·rintro y_10 hv
     subst v11
     refine ab.ret ?_
     obtain rfl:=Option.some.inj h2
     refine Fin.aD ?_
     obtain rfl:=Option.some.inj h
     refine Fin.ag ⟨[],[(1,_)]⟩ rfl (Fin.kj 1 rfl (Fin.ag ⟨[],[(1,.cB 3 1 (y_10.map eI))]⟩ rfl ?_))
     exact Fin.result [] (.inl rfl) rfl (.nil) ⟨rfl,rfl⟩
  ·refine ab.skip ?_
   exact Fin.join [0,1,2,3,4] [1] () (Option.some.inj h2) rfl
 ·rintro _ hv
  subst v1
  obtain ⟨v20,h21,h⟩:=aN h
  refine ab.cA (v:=v20) (fun (_:Unit)=>⟨[(0,.b (.row 1)),(1,I a0),(2,I m0),(3,I b0),(4,.b (.one (.bV 34 [CP.rp [.sl 1 (cmp0.map eI)]])))],[(1,.row 3 1 (data0.map eI))]⟩) (fun z=>.inl z) ?_ ?_
  ·refine ab.seq (ab.aa ?_)
   refine Oc om (Oc om (Oc (cf rfl rfl) (Oc (cT rfl rfl) ?_)))
   refine ae.ah ⟨[(0,_),(1,_),(2,_),(3,_),(4,_),(80,B (decide ((IntKind.i64.wrap (b0 - m0)) = 1)))],[(1,_)]⟩ rfl (ab.ite h21 rfl (fun _ h21=>?_) (fun _ h21=>?_))
   ·refine ab.seq (ab.aa ?_)
    refine Oc om (Oc oa ?_)
    refine ae.ah ⟨[(0,_),(2,_),(4,_),(14,I a0)],[(1,_)]⟩ rfl (ab.seq (ab.aa ?_))
    refine Oc om (Oc oa ?_)
    refine ae.ah ⟨[(0,_),(2,_),(4,_),(14,_),(15,I m0)],[(1,_)]⟩ rfl ?_
    obtain ⟨v22,h23,h21⟩:=aN h21
    refine ab.cA (v:=v22) (fun (i_18:Int)=>⟨[(0,.b (.row 1)),(2,I m0),(14,I i_18)],[(1,.row 3 1 (data0.map eI))]⟩) (fun z=>z) ?_ ?_
    ·refine ab.block (ab.cy h23 (bL fun (i_19:Int) (j_20:Int)=>⟨[(0,.b (.row 1)),(2,I m0),(4,.b (.one (.bV 34 [CP.rp [.sl 1 (cmp0.map eI)]]))),(14,I i_19),(15,I j_20)],[(1,.row 3 1 (data0.map eI))]⟩) [0,2,4,14,15] [1] rfl ?_)
     rintro ⟨i_19,j_20⟩ o24 h25 hy26
     refine ab.seq (ab.seq (ab.aa ?_))
     refine Oc om (Oc om (Oc (bf rfl rfl) ?_))
     refine ae.ah ⟨[(0,_),(2,_),(4,_),(14,_),(15,_),(85,B (decide (i_19 < j_20)))],[(1,_)]⟩ rfl (ab.ite h25 rfl (fun _ h25=>?_) (fun _ h25=>?_))
     ·refine ab.skip (Fin.ag ⟨[(0,_),(2,_),(4,_),(14,_),(15,_)],[(1,_)]⟩ rfl (Fin.then (ab.block (ab.seq (ab.aa ?_)))))
      refine Oc om (Oc om (Oc (aX rfl rfl) ?_))
      refine ae.ic .u64 h25 rfl (bS jk gL rfl) (fun x_22 h25=>?_)
      refine Oc (iV (m:=1) (by decide) rfl rfl rfl) (Oc (bS gL jk rfl) (Oc oa ?_))
      refine ae.ah ⟨[(0,_),(2,_),(4,_),(14,_),(15,_),(16,I (IntKind.i64.wrap (x_22 / 2)))],[(1,_)]⟩ rfl (ab.seq ?_)
      obtain ⟨x_23,e27,h25⟩:=aN h25
      obtain ⟨x_24,e28,h25⟩:=aN h25
      obtain ⟨x_25,e29,h25⟩:=aN h25
      refine ab.c8 mixed 12 [.b (.one (.bV 34 [CP.rp [.sl 1 (cmp0.map eI)]])),.b (.row 1),I m0,.b (.a7 1 ((m0:Int).toNat * 1)),I x_23,.b (.row 1),I (IntKind.i64.wrap (x_22 / 2)),.b (.a7 1 ((IntKind.i64.wrap (x_22 / 2):Int).toNat * 1)),I x_24,I x_25,B (decide (x_25 < 0)),B (!(decide (x_25 < 0)))] [0,2,4,14,15,16,103] [1] (s':=⟨[(0,_),(2,_),(4,_),(14,_),(15,_),(16,_),(103,B (!(decide (x_25 < 0))))],[(1,_)]⟩) rfl ⟨fun _=>.p om,fun _=>.p om,fun _=>.p om,fun _=>.p (an ak (aC e27) (aL e27) rfl rfl rfl rfl),fun _=>.p (ax (i:=(m0:Int).toNat) (f:=0) au rfl rfl rfl (az (e:=eI) e27) rfl),fun _=>.p om,fun _=>.p om,fun _=>.p (an ak (aC e28) (aL e28) rfl rfl rfl rfl),fun _=>.p (ax (i:=(IntKind.i64.wrap (x_22 / 2):Int).toNat) (f:=0) au rfl rfl rfl (az (e:=eI) e28) rfl),fun _=>.p (gT (pss:=[[.sl 1 (cmp0.map eI)]]) (dv e29) ot rfl rfl rfl trivial rfl rfl),fun _=>.p (bf rfl rfl),fun _=>.p (dM rfl),trivial⟩ rfl rfl (ab.ite h25 rfl (fun _ h25=>?_) (fun _ h25=>?_))
      ·refine ab.aa (Oc om (ae.ic .i64 h25 rfl (aX rfl rfl) (fun x_26 h25=>?_)))
       refine Oc oa (ae.nil (Fin.ai ?_))
       exact Fin.bz [0,2,4,14,15] [1] (x_26,j_20) (Option.some.inj h25) rfl
      ·refine ab.aa (Oc om (Oc oa ?_))
       refine ae.nil (Fin.ai ?_)
       exact Fin.bz [0,2,4,14,15] [1] (i_19,IntKind.i64.wrap (x_22 / 2)) (Option.some.inj h25) rfl
     ·refine ab.exit (Fin.aj ?_)
      obtain rfl:=hy26 _ (Option.some.inj h25).symm
      refine Fin.aj (Fin.aG ?_)
      exact Fin.join [0,2,14] [1] i_19 rfl rfl
    ·rintro i_18 hv
     subst v22
     obtain ⟨v30,h31,h21⟩:=aN h21
     refine ab.cA (v:=v30) (fun (y_27:List Int)=>⟨[],[(1,.row 3 1 (y_27.map eI))]⟩) (fun z=>z) ?_ ?_
     ·refine ab.seq (ab.aa ?_)
      refine Oc om (Oc oa ?_)
      refine ae.ah ⟨[(0,_),(14,_),(17,I m0)],[(1,_)]⟩ rfl (ab.block (ab.cy h31 (bL fun (data_28:List Int) (k_29:Int)=>⟨[(0,.b (.row 1)),(14,I i_18),(17,I k_29)],[(1,.row 3 1 (data_28.map eI))]⟩) [0,14,17] [1] rfl ?_))
      rintro ⟨data_28,k_29⟩ o32 h33 hy34
      refine ab.seq (ab.seq (ab.aa ?_))
      refine Oc om (Oc om (Oc (eW rfl rfl) ?_))
      refine ae.ah ⟨[(0,_),(14,_),(17,_),(110,B (decide (i_18 < k_29)))],[(1,_)]⟩ rfl (ab.ite h33 rfl (fun _ h33=>?_) (fun _ h33=>?_))
      ·refine ab.skip (Fin.ag ⟨[(0,_),(14,_),(17,_)],[(1,_)]⟩ rfl (Fin.then (ab.seq (ab.block ?_))))
       refine ab.ag ⟨[(0,_),(14,_),(17,_)],[(1,_)]⟩ rfl ?_
       obtain ⟨x_31,e35,h33⟩:=aN h33
       obtain ⟨x_32,e36,h33⟩:=aN h33
       obtain ⟨x_33,e37,h33⟩:=aN h33
       obtain ⟨x_34,e38,h33⟩:=aN h33
       refine ab.fZ mixed [false,false,false,false,false,false,false,false,false,false,false,false,false,false,false,true,false,true] [.b (.row 1),I k_29,.b (.row 1),I k_29,I (IntKind.i64.wrap (k_29 - 1)),.b (.row 1),I k_29,I (IntKind.i64.wrap (k_29 - 1)),.b (.a7 1 ((IntKind.i64.wrap (k_29 - 1):Int).toNat * 1)),I x_31,.b (.row 1),I k_29,.b (.a7 1 ((k_29:Int).toNat * 1)),I x_32,.b (.a7 1 ((k_29:Int).toNat * 1)),B true,.b (.a7 1 ((IntKind.i64.wrap (k_29 - 1):Int).toNat * 1)),B true] [⟨[false,false,false,false,false,false,false,false,false,false,false,false,false,false,false,false,false,false],[(0,.b (.row 1)),(14,I i_18),(17,I k_29)],[(1,.row 3 1 (data_28.map eI))],[true,true,true,true,true,true,true,true,true,true,true,true,true,true,true,true,true,true],[],[16,17]⟩,⟨[false,false,false,false,false,false,false,false,false,false,false,false,false,false,false,true,false,false],[(0,.b (.row 1)),(14,I i_18),(17,I k_29)],[(1,.row 3 1 ((data_28.set (k_29:Int).toNat x_31).map eI))],[true,true,true,true,true,true,true,true,true,true,true,true,true,true,true,true,true,true],[0,1,5,6,7,8,9,10,11,12,13,14,15],[]⟩,⟨[false,false,false,false,false,false,false,false,false,false,false,false,false,false,false,true,false,true],[(0,.b (.row 1)),(14,I i_18),(17,I k_29)],[(1,.row 3 1 (((data_28.set (k_29:Int).toNat x_31).set (IntKind.i64.wrap (k_29 - 1):Int).toNat x_32).map eI))],[true,true,true,true,true,true,true,true,true,true,true,true,true,true,true,true,true,true],[0,1,2,3,4,5,6,7,8,9,10,11,12,13,14,15,16,17],[]⟩] rfl (⟨by kernel_rfl,⟨⟨.b (.row 1),fun _=>rfl,fun _=>.p (by exact aq rfl)⟩,⟨I k_29,fun _=>rfl,fun _=>.p (by exact aq rfl)⟩,⟨.b (.row 1),fun _=>rfl,fun _=>.p (by exact aq rfl)⟩,⟨I k_29,fun _=>rfl,fun _=>.p (by exact aq rfl)⟩,⟨I (IntKind.i64.wrap (k_29 - 1)),fun _=>rfl,fun _=>.p (by exact cf rfl rfl)⟩,⟨.b (.row 1),fun _=>rfl,fun _=>.p (by exact aq rfl)⟩,⟨I k_29,fun _=>rfl,fun _=>.p (by exact aq rfl)⟩,⟨I (IntKind.i64.wrap (k_29 - 1)),fun _=>rfl,fun _=>.p (by exact cf rfl rfl)⟩,⟨.b (.a7 1 ((IntKind.i64.wrap (k_29 - 1):Int).toNat * 1)),fun _=>rfl,fun _=>.p (by exact an ak (aC e35) (aL e35) rfl rfl rfl rfl)⟩,⟨I x_31,fun _=>rfl,fun _=>.p (by exact ax (i:=(IntKind.i64.wrap (k_29 - 1):Int).toNat) (f:=0) au rfl rfl rfl (az (e:=eI) e35) rfl)⟩,⟨.b (.row 1),fun _=>rfl,fun _=>.p (by exact aq rfl)⟩,⟨I k_29,fun _=>rfl,fun _=>.p (by exact aq rfl)⟩,⟨.b (.a7 1 ((k_29:Int).toNat * 1)),fun _=>rfl,fun _=>.p (by exact an ak (aC e36) (aL e36) rfl rfl rfl rfl)⟩,⟨I x_32,fun _=>rfl,fun _=>.p (by exact ax (i:=(k_29:Int).toNat) (f:=0) au rfl rfl rfl (az (e:=eI) e36) rfl)⟩,⟨.b (.a7 1 ((k_29:Int).toNat * 1)),fun _=>rfl,fun _=>.p (by exact an ak (aC e37) (aL e37) rfl rfl rfl rfl)⟩,⟨_,[],.b (.one .any),rfl,(fun e=>by simp at e),rfl,rfl,fun _=>.fC [1] (by exact .p (by exact bA (i:=(k_29:Int).toNat) au rfl rfl rfl rfl (eE e37) (map_set _ _ _ _))) (by exact rfl)⟩,trivial,trivial,trivial⟩,⟨by kernel_rfl,⟨trivial,trivial,⟨.b (.row 1),fun _=>rfl,fun _=>.p (by exact aq rfl)⟩,⟨I k_29,fun _=>rfl,fun _=>.p (by exact aq rfl)⟩,⟨I (IntKind.i64.wrap (k_29 - 1)),fun _=>rfl,fun _=>.p (by exact cf rfl rfl)⟩,trivial,trivial,trivial,trivial,trivial,trivial,trivial,trivial,trivial,trivial,trivial,⟨.b (.a7 1 ((IntKind.i64.wrap (k_29 - 1):Int).toNat * 1)),fun _=>rfl,fun _=>.p (by exact an ak (aC e38) (aL e38) rfl rfl rfl rfl)⟩,⟨_,[],.b (.one .any),rfl,(fun e=>by simp at e),rfl,rfl,fun _=>.fC [1] (by exact .p (by exact bA (i:=(IntKind.i64.wrap (k_29 - 1):Int).toNat) au rfl rfl rfl rfl (eE e38) (map_set _ _ _ _))) (by exact rfl)⟩,trivial⟩,⟨by kernel_rfl,⟨trivial,trivial,trivial,trivial,trivial,trivial,trivial,trivial,trivial,trivial,trivial,trivial,trivial,trivial,trivial,trivial,trivial,trivial,trivial⟩,trivial⟩⟩⟩) rfl rfl rfl [0,14,17] [1] (s':=⟨[(0,_),(14,_),(17,_)],[(1,.row 3 1 (((data_28.set (k_29:Int).toNat x_31).set (IntKind.i64.wrap (k_29 - 1):Int).toNat x_32).map eI))]⟩) rfl ?_
       refine Fin.ai (Fin.ag ⟨[(0,_),(14,_),(17,_)],[(1,_)]⟩ rfl (Fin.then (ab.aa ?_)))
       refine Oc om (Oc (cf rfl rfl) (Oc oa ?_))
       refine ae.nil ?_
       exact Fin.bz [0,14,17] [1] ((data_28.set (k_29:Int).toNat x_31).set (IntKind.i64.wrap (k_29 - 1):Int).toNat x_32,IntKind.i64.wrap (k_29 - 1)) (Option.some.inj h33) rfl
      ·refine ab.exit (Fin.aj ?_)
       obtain rfl:=hy34 _ (Option.some.inj h33).symm
       refine Fin.aj (Fin.aG ?_)
       exact Fin.join [] [1] data_28 rfl rfl
     ·rintro y_27 hv
      subst v30
      refine ab.ret ?_
      obtain rfl:=Option.some.inj h21
      refine Fin.aD ?_
      obtain rfl:=Option.some.inj h
      refine Fin.ag ⟨[],[(1,_)]⟩ rfl (Fin.kj 1 rfl (Fin.ag ⟨[],[(1,.cB 3 1 (y_27.map eI))]⟩ rfl ?_))
      exact Fin.result [] (.inl rfl) rfl (.nil) ⟨rfl,rfl⟩
   ·refine ab.skip ?_
    exact Fin.join [0,1,2,3,4] [1] () (Option.some.inj h21) rfl
  ·rintro _ hv
   subst v20
   refine ab.seq (ab.aa ?_)
   refine Oc om (Oc om (Oc (aX rfl rfl) ?_))
   refine ae.ic .u64 h rfl (bS jk gL rfl) (fun x_35 h=>?_)
   refine Oc (iV (m:=1) (by decide) rfl rfl rfl) (Oc (bS gL jk rfl) (Oc oa ?_))
   refine ae.ah ⟨[(0,_),(1,_),(2,_),(3,_),(4,_),(18,I (IntKind.i64.wrap (x_35 / 2)))],[(1,_)]⟩ rfl (ab.seq (ab.aa ?_))
   refine Oc om (Oc om ?_)
   refine ae.ic .i64 h rfl (aX rfl rfl) (fun x_36 h=>?_)
   refine Oc oa (ae.ah ⟨[(0,_),(1,_),(2,_),(3,_),(4,_),(18,_),(19,I x_36)],[(1,_)]⟩ rfl (ab.seq (ab.aa ?_)))
   refine Oc oa (Oc oa ?_)
   refine ae.ah ⟨[(0,_),(1,_),(2,_),(3,_),(4,_),(18,_),(19,_)],[(1,_)]⟩ rfl ?_
   obtain ⟨v39,h40,h⟩:=aN h
   refine ab.cA (v:=v39) (bL fun (start_37:Int) (r_38:Int)=>⟨[(0,.b (.row 1)),(1,I a0),(2,I m0),(3,I b0),(4,.b (.one (.bV 34 [CP.rp [.sl 1 (cmp0.map eI)]]))),(18,I (IntKind.i64.wrap (x_35 / 2))),(19,I x_36),(20,I start_37),(21,I r_38)],[(1,.row 3 1 (data0.map eI))]⟩) (fun z=>z) ?_ ?_
   ·refine ab.seq (ab.aa ?_)
    refine Oc om (Oc om (Oc (eW rfl rfl) ?_))
    refine ae.ah ⟨[(0,_),(1,_),(2,_),(3,_),(4,_),(18,_),(19,_),(140,B (decide ((IntKind.i64.wrap (x_35 / 2)) < m0)))],[(1,_)]⟩ rfl (ab.ite h40 rfl (fun _ h40=>?_) (fun _ h40=>?_))
    ·refine ab.seq (ab.aa ?_)
     refine Oc om (Oc om (Oc (cf rfl rfl) (Oc oa ?_)))
     refine ae.ah ⟨[(0,_),(1,_),(2,_),(3,_),(4,_),(18,_),(19,_),(20,I (IntKind.i64.wrap (x_36 - b0)))],[(1,_)]⟩ rfl (ab.aa (Oc om (Oc oa ?_)))
     refine ae.nil ?_
     exact Fin.join [0,1,2,3,4,18,19,20,21] [1] (IntKind.i64.wrap (x_36 - b0),IntKind.i64.wrap (x_35 / 2)) (Option.some.inj h40) rfl
    ·refine ab.seq (ab.aa ?_)
     refine Oc om (Oc oa ?_)
     refine ae.ah ⟨[(0,_),(1,_),(2,_),(3,_),(4,_),(18,_),(19,_),(20,I a0)],[(1,_)]⟩ rfl (ab.aa (Oc om (Oc oa ?_)))
     refine ae.nil ?_
     exact Fin.join [0,1,2,3,4,18,19,20,21] [1] (a0,m0) (Option.some.inj h40) rfl
   ·rintro ⟨start_37,r_38⟩ hv
    subst v39
    refine ab.seq (ab.aa ?_)
    refine Oc om (Oc (cf rfl rfl) (Oc oa ?_))
    refine ae.ah ⟨[(0,_),(1,_),(2,_),(3,_),(4,_),(18,_),(19,_),(20,_),(21,_),(22,I (IntKind.i64.wrap (x_36 - 1)))],[(1,_)]⟩ rfl ?_
    obtain ⟨v41,h42,h⟩:=aN h
    refine ab.cA (v:=v41) (fun (start_39:Int)=>⟨[(0,.b (.row 1)),(1,I a0),(2,I m0),(3,I b0),(4,.b (.one (.bV 34 [CP.rp [.sl 1 (cmp0.map eI)]]))),(18,I (IntKind.i64.wrap (x_35 / 2))),(19,I x_36),(20,I start_39)],[(1,.row 3 1 (data0.map eI))]⟩) (fun z=>z) ?_ ?_
    ·refine ab.block (ab.cy h42 (bL fun (start_40:Int) (r_41:Int)=>⟨[(0,.b (.row 1)),(1,I a0),(2,I m0),(3,I b0),(4,.b (.one (.bV 34 [CP.rp [.sl 1 (cmp0.map eI)]]))),(18,I (IntKind.i64.wrap (x_35 / 2))),(19,I x_36),(20,I start_40),(21,I r_41),(22,I (IntKind.i64.wrap (x_36 - 1)))],[(1,.row 3 1 (data0.map eI))]⟩) [0,1,2,3,4,18,19,20,21,22] [1] rfl ?_)
     rintro ⟨start_40,r_41⟩ o43 h44 hy45
     refine ab.seq (ab.seq (ab.aa ?_))
     refine Oc om (Oc om (Oc (bf rfl rfl) ?_))
     refine ae.ah ⟨[(0,_),(1,_),(2,_),(3,_),(4,_),(18,_),(19,_),(20,_),(21,_),(22,_),(151,B (decide (start_40 < r_41)))],[(1,_)]⟩ rfl (ab.ite h44 rfl (fun _ h44=>?_) (fun _ h44=>?_))
     ·refine ab.skip (Fin.ag ⟨[(0,_),(1,_),(2,_),(3,_),(4,_),(18,_),(19,_),(20,_),(21,_),(22,_)],[(1,_)]⟩ rfl (Fin.then (ab.block (ab.seq (ab.aa ?_)))))
      refine Oc om (Oc om (Oc (aX rfl rfl) ?_))
      refine ae.ic .u64 h44 rfl (bS jk gL rfl) (fun x_43 h44=>?_)
      refine Oc (iV (m:=1) (by decide) rfl rfl rfl) (Oc (bS gL jk rfl) (Oc oa ?_))
      refine ae.ah ⟨[(0,_),(1,_),(2,_),(3,_),(4,_),(18,_),(19,_),(20,_),(21,_),(22,_),(23,I (IntKind.i64.wrap (x_43 / 2)))],[(1,_)]⟩ rfl (ab.seq ?_)
      obtain ⟨x_44,e46,h44⟩:=aN h44
      obtain ⟨x_45,e47,h44⟩:=aN h44
      obtain ⟨x_46,e48,h44⟩:=aN h44
      refine ab.c8 mixed 14 [.b (.one (.bV 34 [CP.rp [.sl 1 (cmp0.map eI)]])),.b (.row 1),I (IntKind.i64.wrap (x_36 - 1)),I (IntKind.i64.wrap (x_43 / 2)),I (IntKind.i64.wrap ((IntKind.i64.wrap (x_36 - 1)) - (IntKind.i64.wrap (x_43 / 2)))),.b (.a7 1 ((IntKind.i64.wrap ((IntKind.i64.wrap (x_36 - 1)) - (IntKind.i64.wrap (x_43 / 2))):Int).toNat * 1)),I x_44,.b (.row 1),I (IntKind.i64.wrap (x_43 / 2)),.b (.a7 1 ((IntKind.i64.wrap (x_43 / 2):Int).toNat * 1)),I x_45,I x_46,B (decide (x_46 < 0)),B (!(decide (x_46 < 0)))] [0,1,2,3,4,18,19,20,21,22,23,171] [1] (s':=⟨[(0,_),(1,_),(2,_),(3,_),(4,_),(18,_),(19,_),(20,_),(21,_),(22,_),(23,_),(171,B (!(decide (x_46 < 0))))],[(1,_)]⟩) rfl ⟨fun _=>.p om,fun _=>.p om,fun _=>.p om,fun _=>.p om,fun _=>.p (cf rfl rfl),fun _=>.p (an ak (aC e46) (aL e46) rfl rfl rfl rfl),fun _=>.p (ax (i:=(IntKind.i64.wrap ((IntKind.i64.wrap (x_36 - 1)) - (IntKind.i64.wrap (x_43 / 2))):Int).toNat) (f:=0) au rfl rfl rfl (az (e:=eI) e46) rfl),fun _=>.p om,fun _=>.p om,fun _=>.p (an ak (aC e47) (aL e47) rfl rfl rfl rfl),fun _=>.p (ax (i:=(IntKind.i64.wrap (x_43 / 2):Int).toNat) (f:=0) au rfl rfl rfl (az (e:=eI) e47) rfl),fun _=>.p (gT (pss:=[[.sl 1 (cmp0.map eI)]]) (dv e48) ot rfl rfl rfl trivial rfl rfl),fun _=>.p (bf rfl rfl),fun _=>.p (dM rfl),trivial⟩ rfl rfl (ab.ite h44 rfl (fun _ h44=>?_) (fun _ h44=>?_))
      ·refine ab.aa (Oc om (ae.ic .i64 h44 rfl (aX rfl rfl) (fun x_47 h44=>?_)))
       refine Oc oa (ae.nil (Fin.ai ?_))
       exact Fin.bz [0,1,2,3,4,18,19,20,21,22] [1] (x_47,r_41) (Option.some.inj h44) rfl
      ·refine ab.aa (Oc om (Oc oa ?_))
       refine ae.nil (Fin.ai ?_)
       exact Fin.bz [0,1,2,3,4,18,19,20,21,22] [1] (start_40,IntKind.i64.wrap (x_43 / 2)) (Option.some.inj h44) rfl
     ·refine ab.exit (Fin.aj ?_)
      obtain rfl:=hy45 _ (Option.some.inj h44).symm
      refine Fin.aj (Fin.aG ?_)
      exact Fin.join [0,1,2,3,4,18,19,20] [1] start_40 rfl rfl
    ·rintro start_39 hv
     subst v41
     refine ab.seq (ab.aa ?_)
     refine Oc om (Oc om (Oc (cf rfl rfl) (Oc oa ?_)))
     refine ae.ah ⟨[(0,_),(1,_),(2,_),(3,_),(4,_),(18,_),(20,_),(24,I (IntKind.i64.wrap (x_36 - start_39)))],[(1,_)]⟩ rfl ?_
     obtain ⟨v49,h50,h⟩:=aN h
     refine ab.cA (v:=v49) (fun (data_48:List Int)=>⟨[(0,.b (.row 1)),(1,I a0),(3,I b0),(4,.b (.one (.bV 34 [CP.rp [.sl 1 (cmp0.map eI)]]))),(18,I (IntKind.i64.wrap (x_35 / 2))),(20,I start_39),(24,I (IntKind.i64.wrap (x_36 - start_39)))],[(1,.row 3 1 (data_48.map eI))]⟩) (fun z=>z) ?_ ?_
     ·refine ab.seq (ab.aa ?_)
      refine Oc om (Oc om (Oc (bf rfl rfl) (Oc om ?_)))
      refine er (decide (start_39 < m0)) [] (fun g51=>trivial) (fun g51=>om) (er (decide (start_39 < m0)) [] (fun g52=>by exact trivial) (fun g52=>om) (er (decide (start_39 < m0)) [182,183] (fun g53=>by exact ⟨g53,g53,trivial⟩) (fun g53=>bf rfl rfl) (ae.mw h50 rfl (aR (fun e=>e) rfl rfl rfl rfl) (fun x_49 h50=>?_))))
      refine ae.ah ⟨[(0,_),(1,_),(2,_),(3,_),(4,_),(18,_),(20,_),(24,_),(185,B x_49)],[(1,_)]⟩ rfl (ab.ite h50 rfl (fun _ h50=>?_) (fun _ h50=>?_))
      ·refine ab.aa (Oc om (Oc om (Oc om (Oc om (Oc om ?_)))))
       refine ae.kj 1 rfl ?_
       obtain ⟨x_50,e54,h50⟩:=aN h50
       refine Oc (bm (own_a:=[(1,_)]) (hJ e54) goes70 rfl ⟨rfl,trivial⟩ rfl rfl) (ae.kX 1 rfl (ae.nil ?_))
       exact Fin.join [0,1,3,4,18,20,24] [1] x_50 (Option.some.inj h50) rfl
      ·refine ab.skip ?_
       exact Fin.join [0,1,3,4,18,20,24] [1] data0 (Option.some.inj h50) rfl
     ·rintro data_48 hv
      subst v49
      obtain ⟨v55,h56,h⟩:=aN h
      refine ab.cA (v:=v55) (fun (data_51:List Int)=>⟨[(0,.b (.row 1)),(3,I b0),(4,.b (.one (.bV 34 [CP.rp [.sl 1 (cmp0.map eI)]]))),(18,I (IntKind.i64.wrap (x_35 / 2))),(24,I (IntKind.i64.wrap (x_36 - start_39)))],[(1,.row 3 1 (data_51.map eI))]⟩) (fun z=>z) ?_ ?_
      ·refine ab.seq (ab.aa ?_)
       refine Oc om (Oc om (Oc (bf rfl rfl) (Oc om ?_)))
       refine er (decide (a0 < start_39)) [] (fun g57=>trivial) (fun g57=>om) (er (decide (a0 < start_39)) [] (fun g58=>by exact trivial) (fun g58=>om) (er (decide (a0 < start_39)) [196,197] (fun g59=>by exact ⟨g59,g59,trivial⟩) (fun g59=>bf rfl rfl) (ae.mw h56 rfl (aR (fun e=>e) rfl rfl rfl rfl) (fun x_52 h56=>?_))))
       refine ae.ah ⟨[(0,_),(1,_),(3,_),(4,_),(18,_),(20,_),(24,_),(199,B x_52)],[(1,_)]⟩ rfl (ab.ite h56 rfl (fun _ h56=>?_) (fun _ h56=>?_))
       ·refine ab.aa (Oc om (Oc om (Oc om (Oc om (Oc om ?_)))))
        refine ae.kj 1 rfl ?_
        obtain ⟨x_53,e60,h56⟩:=aN h56
        refine Oc (bm (own_a:=[(1,_)]) (ih e60) oo rfl ⟨rfl,trivial⟩ rfl rfl) (ae.kX 1 rfl (ae.nil ?_))
        exact Fin.join [0,3,4,18,24] [1] x_53 (Option.some.inj h56) rfl
       ·refine ab.skip ?_
        exact Fin.join [0,3,4,18,24] [1] data_48 (Option.some.inj h56) rfl
      ·rintro data_51 hv
       subst v55
       refine ab.seq (ab.aa ?_)
       refine Oc om (Oc om ?_)
       refine ae.mw h rfl (bf rfl rfl) (fun x_54 h=>?_)
       refine Oc om (er x_54 [] (fun g61=>by exact trivial) (fun g61=>om) (er x_54 [] (fun g62=>by exact trivial) (fun g62=>om) (er x_54 [210,211] (fun g63=>by exact ⟨g63,g63,trivial⟩) (fun g63=>bf rfl rfl) (Oc (aR (fun e=>e) rfl rfl rfl rfl) (ae.ah ⟨[(0,_),(3,_),(4,_),(18,_),(24,_),(213,B (x_54 && (decide ((IntKind.i64.wrap (x_36 - start_39)) < b0))))],[(1,_)]⟩ rfl ?_)))))
       refine ab.ite h rfl (fun _ h=>?_) (fun _ h=>?_)
       ·refine ab.aa (Oc om (Oc om (Oc om (Oc om (Oc om ?_)))))
        refine ae.kj 1 rfl ?_
        obtain ⟨x_55,e64,h⟩:=aN h
        refine Oc (bm (own_a:=[(1,_)]) (ih e64) oo rfl ⟨rfl,trivial⟩ rfl rfl) (ae.kX 1 rfl (ae.nil ?_))
        obtain rfl:=Option.some.inj h
        refine Fin.ag ⟨[],[(1,.row 3 1 (x_55.map eI))]⟩ rfl (Fin.kj 1 rfl (Fin.ag ⟨[],[(1,.cB 3 1 (x_55.map eI))]⟩ rfl ?_))
        exact Fin.result [] (.inr rfl) rfl (.nil) ⟨rfl,rfl⟩
       ·refine ab.skip ?_
        obtain rfl:=Option.some.inj h
        refine Fin.ag ⟨[],[(1,_)]⟩ rfl (Fin.kj 1 rfl (Fin.ag ⟨[],[(1,.cB 3 1 (data_51.map eI))]⟩ rfl ?_))
        exact Fin.result [] (.inr rfl) rfl (.nil) ⟨rfl,rfl⟩
theorem dP {F:Nat} {a0:Int} {m0:Int} {b0:Int} {cmp0:List Int} {data0:List Int} {r:(List Int)} (h:cJ F a0 m0 b0 cmp0 data0 = some r):aA Try.prog [] 58 [(1,.cB 3 1 (data0.map eI))] [.row 1,.one (.i a0),.one (.i m0),.one (.i b0),.one (.bV 34 [CP.rp [.sl 1 (cmp0.map eI)]])] (Is [(1,.cB 3 1 (r.map eI))] (.ez [])):=gj F h
def cV (F:Nat) (n0:Int) (cmp0:List Int) (data0:List Int):Option (List Int) :=
 Option.bind (iter F (ku fun data_3 a_4 b_5=>if (decide (b_5 ≤ n0)) = true then ((aP F a_4 b_5 cmp0 data_3).bind fun x_8=>some (.inl (x_8,b_5,IntKind.i64.wrap (b_5 + 20)))) else (some (.inr (data_3,a_4)))) (data0,0,20)) (bL fun data_1 a_2=>(aP F a_2 n0 cmp0 data_1).bind fun x_9=>Option.bind (iter F (bL fun data_10 blockSize_11=>if (decide (blockSize_11 < n0)) = true then (Option.bind (iter F (ku fun data_15 a_16 b_17=>if (decide (b_17 ≤ n0)) = true then (dq (IntKind.i64.wrap (a_16 + blockSize_11)) fun x_20=>(cJ F a_16 x_20 b_17 cmp0 data_15).bind fun x_21=>dq (IntKind.i64.wrap (b_17 + (IntKind.i64.wrap (2 * blockSize_11)))) fun x_22=>some (.inl (x_21,b_17,x_22))) else (some (.inr (data_15,a_16)))) (data_10,0,IntKind.i64.wrap (2 * blockSize_11))) (bL fun data_13 a_14=>Option.bind (dq (IntKind.i64.wrap (a_14 + blockSize_11)) fun x_24=>if (decide (x_24 < n0)) = true then ((cJ F a_14 x_24 n0 cmp0 data_13).bind fun x_25=>some x_25) else (some data_13)) (fun data_23=>some (.inl (data_23,IntKind.i64.wrap (blockSize_11 * 2)))))) else (some (.inr data_10))) (x_9,20)) (fun y_12=>some y_12))
theorem hH {F:Nat} {n0:Int} {cmp0:List Int} {data0:List Int} {r:(List Int)} (h:cV F n0 cmp0 data0 = some r):aA Try.prog [] 51 [(1,.cB 3 1 (data0.map eI))] [.row 1,.one (.i n0),.one (.bV 34 [CP.rp [.sl 1 (cmp0.map eI)]])] (Is [(1,.cB 3 1 (r.map eI))] (.ez [])):=by
 unfold cV at h
 refine aA.intro 63 Try.func51 Try.ntmps51 rfl (by simp) fun E=>?_
 show ab _ E ⟨63,[1],[1],[]⟩ _ ⟨[(0,.b (.row 1)),(1,I n0),(2,.b (.one (.bV 34 [CP.rp [.sl 1 (cmp0.map eI)]])))],[(1,.cB 3 1 (data0.map eI))]⟩ _
 refine ab.kX 1 rfl (ab.seq (ab.aa ?_))
 refine Oc oa (ae.ah ⟨[(0,.b (.row 1)),(1,I n0),(2,.b (.one (.bV 34 [CP.rp [.sl 1 (cmp0.map eI)]]))),(6,I 20)],[(1,.row 3 1 (data0.map eI))]⟩ rfl (ab.seq (ab.aa ?_)))
 refine Oc om (Oc oa (Oc oa ?_))
 refine ae.ah ⟨[(0,_),(1,_),(2,_),(6,_),(7,I 0),(8,I 20)],[(1,_)]⟩ rfl ?_
 obtain ⟨v1,h2,h⟩:=aN h
 refine ab.cA (v:=v1) (bL fun (data_1:List Int) (a_2:Int)=>⟨[(0,.b (.row 1)),(1,I n0),(2,.b (.one (.bV 34 [CP.rp [.sl 1 (cmp0.map eI)]]))),(6,I 20),(7,I a_2)],[(1,.row 3 1 (data_1.map eI))]⟩) (fun z=>z) ?_ ?_
 ·refine ab.block (ab.cy h2 (ku fun (data_3:List Int) (a_4:Int) (b_5:Int)=>⟨[(0,.b (.row 1)),(1,I n0),(2,.b (.one (.bV 34 [CP.rp [.sl 1 (cmp0.map eI)]]))),(6,I 20),(7,I a_4),(8,I b_5)],[(1,.row 3 1 (data_3.map eI))]⟩) [0,1,2,6,7,8] [1] rfl ?_)
  rintro ⟨data_3,a_4,b_5⟩ o3 h4 hy5
  refine ab.seq (ab.seq (ab.aa ?_))
  refine Oc om (Oc om (Oc (lK rfl rfl) ?_))
  refine ae.ah ⟨[(0,_),(1,_),(2,_),(6,_),(7,_),(8,_),(13,B (decide (b_5 ≤ n0)))],[(1,_)]⟩ rfl (ab.ite h4 rfl (fun _ h4=>?_) (fun _ h4=>?_))
  ·refine ab.skip (Fin.ag ⟨[(0,_),(1,_),(2,_),(6,_),(7,_),(8,_)],[(1,_)]⟩ rfl (Fin.then (ab.block (ab.seq (ab.aa ?_)))))
   refine Oc om (Oc om (Oc om (Oc om ?_)))
   refine ae.kj 1 rfl ?_
   obtain ⟨x_8,e6,h4⟩:=aN h4
   refine Oc (bm (own_a:=[(1,_)]) (dn e6) sa rfl ⟨rfl,trivial⟩ rfl rfl) (ae.kX 1 rfl (ae.ah ⟨[(0,_),(1,_),(2,_),(6,_),(8,_)],[(1,.row 3 1 (x_8.map eI))]⟩ rfl (ab.seq (ab.aa ?_))))
   refine Oc om (Oc oa ?_)
   refine ae.ah ⟨[(0,_),(1,_),(2,_),(6,_),(7,I b_5),(8,_)],[(1,_)]⟩ rfl (ab.aa (Oc om (Oc om (Oc (aX rfl rfl) (Oc oa ?_)))))
   refine ae.nil (Fin.ai ?_)
   exact Fin.bz [0,1,2,6,7,8] [1] (x_8,b_5,IntKind.i64.wrap (b_5 + 20)) (Option.some.inj h4) rfl
  ·refine ab.exit (Fin.aj ?_)
   obtain rfl:=hy5 _ (Option.some.inj h4).symm
   refine Fin.aj (Fin.aG ?_)
   exact Fin.join [0,1,2,6,7] [1] (data_3,a_4) rfl rfl
 ·rintro ⟨data_1,a_2⟩ hv
  subst v1
  refine ab.seq (ab.aa ?_)
  refine Oc om (Oc om (Oc om (Oc om ?_)))
  refine ae.kj 1 rfl ?_
  obtain ⟨x_9,e7,h⟩:=aN h
  refine Oc (bm (own_a:=[(1,_)]) (dn e7) sa rfl ⟨rfl,trivial⟩ rfl rfl) (ae.kX 1 rfl (ae.ah ⟨[(0,_),(1,_),(2,_),(6,_)],[(1,.row 3 1 (x_9.map eI))]⟩ rfl (ab.block ?_)))
  obtain ⟨v8,h9,h⟩:=aN h
  refine ab.cy h9 (bL fun (data_10:List Int) (blockSize_11:Int)=>⟨[(0,.b (.row 1)),(1,I n0),(2,.b (.one (.bV 34 [CP.rp [.sl 1 (cmp0.map eI)]]))),(6,I blockSize_11)],[(1,.row 3 1 (data_10.map eI))]⟩) [0,1,2,6] [1] rfl ?_
  rintro ⟨data_10,blockSize_11⟩ o10 h11 hy12
  refine ab.seq (ab.seq (ab.aa ?_))
  refine Oc om (Oc om (Oc (bf rfl rfl) ?_))
  refine ae.ah ⟨[(0,_),(1,_),(2,_),(6,_),(30,B (decide (blockSize_11 < n0)))],[(1,_)]⟩ rfl (ab.ite h11 rfl (fun _ h11=>?_) (fun _ h11=>?_))
  ·refine ab.skip (Fin.ag ⟨[(0,_),(1,_),(2,_),(6,_)],[(1,_)]⟩ rfl (Fin.then (ab.block (ab.seq (ab.aa ?_)))))
   refine Oc om (Oc (pW rfl rfl) (Oc oa (Oc oa ?_)))
   refine ae.ah ⟨[(0,_),(1,_),(2,_),(6,_),(7,I 0),(8,I (IntKind.i64.wrap (2 * blockSize_11)))],[(1,_)]⟩ rfl ?_
   obtain ⟨v13,h14,h11⟩:=aN h11
   refine ab.cA (v:=v13) (bL fun (data_13:List Int) (a_14:Int)=>⟨[(0,.b (.row 1)),(1,I n0),(2,.b (.one (.bV 34 [CP.rp [.sl 1 (cmp0.map eI)]]))),(6,I blockSize_11),(7,I a_14)],[(1,.row 3 1 (data_13.map eI))]⟩) (fun z=>z) ?_ ?_
   ·refine ab.block (ab.cy h14 (ku fun (data_15:List Int) (a_16:Int) (b_17:Int)=>⟨[(0,.b (.row 1)),(1,I n0),(2,.b (.one (.bV 34 [CP.rp [.sl 1 (cmp0.map eI)]]))),(6,I blockSize_11),(7,I a_16),(8,I b_17)],[(1,.row 3 1 (data_15.map eI))]⟩) [0,1,2,6,7,8] [1] rfl ?_)
    rintro ⟨data_15,a_16,b_17⟩ o15 h16 hy17
    refine ab.seq (ab.seq (ab.aa ?_))
    refine Oc om (Oc om (Oc (lK rfl rfl) ?_))
    refine ae.ah ⟨[(0,_),(1,_),(2,_),(6,_),(7,_),(8,_),(35,B (decide (b_17 ≤ n0)))],[(1,_)]⟩ rfl (ab.ite h16 rfl (fun _ h16=>?_) (fun _ h16=>?_))
    ·refine ab.skip (Fin.ag ⟨[(0,_),(1,_),(2,_),(6,_),(7,_),(8,_)],[(1,_)]⟩ rfl (Fin.then (ab.block (ab.seq (ab.aa ?_)))))
     refine Oc om (Oc om (Oc om (Oc om ?_)))
     refine ae.ic .i64 h16 rfl (aX rfl rfl) (fun x_20 h16=>?_)
     refine Oc om (Oc om ?_)
     refine ae.kj 1 rfl ?_
     obtain ⟨x_21,e18,h16⟩:=aN h16
     refine Oc (bm (own_a:=[(1,_)]) (dP e18) oo rfl ⟨rfl,trivial⟩ rfl rfl) (ae.kX 1 rfl (ae.ah ⟨[(0,_),(1,_),(2,_),(6,_),(8,_)],[(1,.row 3 1 (x_21.map eI))]⟩ rfl (ab.seq (ab.aa ?_))))
     refine Oc om (Oc oa ?_)
     refine ae.ah ⟨[(0,_),(1,_),(2,_),(6,_),(7,I b_17),(8,_)],[(1,_)]⟩ rfl (ab.aa (Oc om (Oc om (Oc (pW rfl rfl) ?_))))
     refine ae.ic .i64 h16 rfl (aX rfl rfl) (fun x_22 h16=>?_)
     refine Oc oa (ae.nil (Fin.ai ?_))
     exact Fin.bz [0,1,2,6,7,8] [1] (x_21,b_17,x_22) (Option.some.inj h16) rfl
    ·refine ab.exit (Fin.aj ?_)
     obtain rfl:=hy17 _ (Option.some.inj h16).symm
     refine Fin.aj (Fin.aG ?_)
     exact Fin.join [0,1,2,6,7] [1] (data_15,a_16) rfl rfl
   ·rintro ⟨data_13,a_14⟩ hv
    subst v13
    obtain ⟨v19,h20,h11⟩:=aN h11
    refine ab.cA (v:=v19) (fun (data_23:List Int)=>⟨[(0,.b (.row 1)),(1,I n0),(2,.b (.one (.bV 34 [CP.rp [.sl 1 (cmp0.map eI)]]))),(6,I blockSize_11)],[(1,.row 3 1 (data_23.map eI))]⟩) (fun z=>z) ?_ ?_
    ·refine ab.seq (ab.aa ?_)
     refine Oc om (Oc om ?_)
     refine ae.ic .i64 h20 rfl (aX rfl rfl) (fun x_24 h20=>?_)
     refine Oc oa (ae.ah ⟨[(0,_),(1,_),(2,_),(6,_),(7,_),(9,I x_24)],[(1,_)]⟩ rfl (ab.seq (ab.aa ?_)))
     refine Oc om (Oc om (Oc (bf rfl rfl) ?_))
     refine ae.ah ⟨[(0,_),(1,_),(2,_),(6,_),(7,_),(9,_),(54,B (decide (x_24 < n0)))],[(1,_)]⟩ rfl (ab.ite h20 rfl (fun _ h20=>?_) (fun _ h20=>?_))
     ·refine ab.aa (Oc om (Oc om (Oc om (Oc om (Oc om ?_)))))
      refine ae.kj 1 rfl ?_
      obtain ⟨x_25,e21,h20⟩:=aN h20
      refine Oc (bm (own_a:=[(1,_)]) (dP e21) oo rfl ⟨rfl,trivial⟩ rfl rfl) (ae.kX 1 rfl (ae.nil ?_))
      exact Fin.join [0,1,2,6] [1] x_25 (Option.some.inj h20) rfl
     ·refine ab.skip ?_
      exact Fin.join [0,1,2,6] [1] data_13 (Option.some.inj h20) rfl
    ·rintro data_23 hv
     subst v19
     refine ab.aa (Oc om (Oc (pW rfl rfl) (Oc oa ?_)))
     refine ae.nil (Fin.ai ?_)
     exact Fin.bz [0,1,2,6] [1] (data_23,IntKind.i64.wrap (blockSize_11 * 2)) (Option.some.inj h11) rfl
  ·refine ab.exit (Fin.aj ?_)
   obtain rfl:=hy12 _ (Option.some.inj h11).symm
   refine Fin.aj (Fin.aG ?_)
   obtain rfl:=Option.some.inj h
   refine Fin.ag ⟨[],[(1,_)]⟩ rfl (Fin.kj 1 rfl (Fin.ag ⟨[],[(1,.cB 3 1 (data_10.map eI))]⟩ rfl ?_))
   exact Fin.result [] (.inr rfl) rfl (.nil) ⟨rfl,rfl⟩
def cg (F:Nat) (cmp0:List Int) (x0:List Int):Option (List Int) :=
 (cV F (x0.length:Int) cmp0 x0).bind fun x_1=>some x_1
theorem hC {F:Nat} {cmp0:List Int} {x0:List Int} {r:(List Int)} (h:cg F cmp0 x0 = some r):aA Try.prog [] 33 [(1,.cB 3 1 (x0.map eI))] [.row 1,.one (.bV 34 [CP.rp [.sl 1 (cmp0.map eI)]])] (Is [(1,.cB 3 1 (r.map eI))] (.ez [])):=by
 unfold cg at h
 refine aA.intro 9 Try.func33 Try.ntmps33 rfl (by simp) fun E=>?_
 show ab _ E ⟨9,[1],[1],[]⟩ _ ⟨[(0,.b (.row 1)),(1,.b (.one (.bV 34 [CP.rp [.sl 1 (cmp0.map eI)]])))],[(1,.cB 3 1 (x0.map eI))]⟩ _
 refine ab.kX 1 rfl (ab.aa (Oc om (Oc om (Oc (gE fX rfl rfl (List.length_map _)) (Oc om ?_)))))
 refine ae.kj 1 rfl ?_
 obtain ⟨x_1,e1,h⟩:=aN h
 refine Oc (bm (own_a:=[(1,_)]) (hH e1) goes51 rfl ⟨rfl,trivial⟩ rfl rfl) (ae.kX 1 rfl (ae.nil ?_))
 obtain rfl:=Option.some.inj h
 refine Fin.ag ⟨[],[(1,.row 3 1 (x_1.map eI))]⟩ rfl (Fin.kj 1 rfl (Fin.ag ⟨[],[(1,.cB 3 1 (x_1.map eI))]⟩ rfl ?_))
 exact Fin.result [] (.inr rfl) rfl (.nil) ⟨rfl,rfl⟩
def cq (F:Nat) (fixed0:List Bool) (links0:List A2):Option ((List Int) × Int) :=
 Option.bind (bF F fixed0 links0) (bL fun x_1 x_2=>if (decide (x_2 ≠ 0)) = true then (some ([],x_2)) else (Option.bind (dA F fixed0 links0) (bL fun x_3 x_4=>Option.bind (iter F (bL fun out_6 x_7=>if (decide (x_7 < (x_3.length:Int))) = true then ((av x_3 x_7).bind fun x_9=>(cg F x_1 x_9).bind fun x_10=>(dw out_6 x_10).bind fun x_11=>some (.inl (x_11,IntKind.i64.wrap (x_7 + 1)))) else (some (.inr out_6))) ([],0)) (fun out_5=>some (out_5,0)))))
theorem iv {F:Nat} {fixed0:List Bool} {links0:List A2} {r:(List Int) × Int} (h:cq F fixed0 links0 = some r):aA Try.prog [] 14 [] [.one (.sl 1 (fixed0.map eB)),.one (.sl 2 (links0.map (cR .i64)))] (Is [] (.ez [.one (.sl 1 (r.1.map eI)),.one (.i r.2)])):=by
 unfold cq at h
 refine aA.intro 42 Try.func14 Try.ntmps14 rfl (by simp) fun E=>?_
 show ab _ E ⟨42,[],[],[]⟩ _ ⟨[(0,.b (.one (.sl 1 (fixed0.map eB)))),(1,.b (.one (.sl 2 (links0.map (cR .i64)))))],[]⟩ _
 refine ab.seq (ab.aa ?_)
 refine Oc oa (Oc oa ?_)
 refine ae.ah ⟨[(0,.b (.one (.sl 1 (fixed0.map eB)))),(1,.b (.one (.sl 2 (links0.map (cR .i64)))))],[]⟩ rfl (ab.seq (ab.aa ?_))
 refine Oc om (Oc om ?_)
 obtain ⟨⟨x_1,x_2⟩,e1,h⟩:=aN h
 refine Oc (bm (fc 101 e1) qa rfl trivial rfl rfl) (Oc om (Oc (aF rfl rfl) ?_))
 refine ae.ag ⟨[(0,_),(1,_),(13,.ez [.row 101,.one (.i x_2)]),(17,.b (.row 101))],[(101,.row 3 1 (x_1.map eI))]⟩ rfl (Oc (aF rfl rfl) (Oc (bh (k:=102) ck rfl) ?_))
 refine ae.bO 101 rfl (Oc (gb aZ rfl rfl rfl (Nat.le_of_ble_eq_true rfl) rfl) (ae.ga 102 rfl (Oc oa (ae.ah ⟨[(0,.b (.one (.sl 1 (fixed0.map eB)))),(1,.b (.one (.sl 2 (links0.map (cR .i64))))),(6,.b (.cC [.sl 1 (x_1.map eI)])),(7,I x_2)],[]⟩ rfl (ab.seq (ab.seq (ab.aa ?_)))))))
 refine Oc om (Oc (iR rfl rfl) ?_)
 refine ae.ah ⟨[(0,_),(1,_),(6,_),(7,_),(20,B (decide (x_2 ≠ 0)))],[]⟩ rfl (ab.ite h rfl (fun _ h=>?_) (fun _ h=>?_))
 ·refine ab.seq (ab.aa ?_)
  refine Oc om (Oc oa (Oc oa ?_))
  refine ae.ah ⟨[(4,.b (.one (.nil))),(5,I x_2)],[]⟩ rfl (ab.ret (Fin.aD ?_))
  obtain rfl:=Option.some.inj h
  refine Fin.ag ⟨[(4,_),(5,_)],[]⟩ rfl (Fin.iD 4 1 rfl (by decide) (Fin.aW [.one (.sl 1 ([].map eI)),.one (.i x_2)] (.inl rfl) rfl (.cons (.tmp rfl) (.cons (.tmp rfl) .nil)) ⟨rfl,rfl⟩))
 ·refine ab.skip (Fin.ag ⟨[(0,_),(1,_),(6,_)],[]⟩ rfl (Fin.then (ab.seq (ab.aa ?_))))
  refine Oc om (Oc om ?_)
  obtain ⟨⟨x_3,x_4⟩,e2,h⟩:=aN h
  refine Oc (bm (own_a:=[]) ((ko e2).sw 51 103) qb rfl trivial rfl rfl) (Oc om (Oc (aF rfl rfl) ?_))
  refine ae.ag ⟨[(6,_),(22,.ez [.row 103,.one (.i x_4)]),(26,.b (.row 103))],[(103,.rr 30 3 1 .none (x_3.map (eR eI)))]⟩ rfl (Oc (aF rfl rfl) (Oc oa (Oc oa ?_)))
  refine ae.ah ⟨[(6,_),(8,.b (.row 103))],[(103,_)]⟩ rfl (ab.seq (ab.aa ?_))
  refine Oc oa (ae.ah ⟨[(6,_),(8,_),(10,.b (.one (.nil)))],[(103,_)]⟩ rfl ?_)
  obtain ⟨v3,h4,h⟩:=aN h
  refine ab.cA (v:=v3) (fun (out_5:List Int)=>⟨[(10,.b (.row 105))],[(105,.row 3 1 (out_5.map eI))]⟩) (fun z=>z) ?_ ?_
  ·refine ab.seq (ab.aa ?_)
   refine Oc om (Oc (kS mo rfl rfl (List.length_map _)) (Oc om ?_))
   refine ae.ah ⟨[(6,_),(10,_),(28,.b (.row 103)),(29,I (x_3.length:Int)),(30,I 0)],[(103,_)]⟩ rfl (ab.block (ab.dS 10 105 1 3 rfl (by decide) rfl (ab.toBelow 103 rfl (ab.cy h4 (bL fun (out_6:List Int) (x_7:Int)=>⟨[(6,.b (.cC [.sl 1 (x_1.map eI)])),(10,.b (.row 105)),(28,.b (.row 103)),(29,I (x_3.length:Int)),(30,I x_7)],[(103,.rr 30 3 1 (.below (x_7:Int).toNat) (x_3.map (eR eI))),(105,.row 3 1 (out_6.map eI))]⟩) [6,10,28,29,30] [103,105] rfl ?_))))
   rintro ⟨out_6,x_7⟩ o5 h6 hy7
   refine ab.seq (ab.aa ?_)
   refine Oc (bf rfl rfl) (ae.ah ⟨[(6,_),(10,_),(28,_),(29,_),(30,_),(31,B (decide (x_7 < (x_3.length:Int))))],[(103,_),(105,_)]⟩ rfl (ab.seq (ab.ite h6 rfl (fun _ h6=>?_) (fun _ h6=>?_))))
   ·refine ab.skip (Fin.ag ⟨[(6,_),(10,_),(28,_),(29,_),(30,_)],[(103,_),(105,_)]⟩ rfl (Fin.then (ab.seq (ab.block (ab.seq (ab.aa ?_))))))
    obtain ⟨x_9,e8,h6⟩:=aN h6
    refine Oc (di dR (aC e8) (aL e8) rfl rfl rfl rfl) (Oc (qk (ii:=x_7) 106 aZ rfl rfl rfl (aC e8) (az (e:=eR eI) e8) (by decide) rfl rfl) (Oc oa ?_))
    refine ae.ah ⟨[(6,_),(10,_),(12,.b (.row 106)),(28,_),(29,_),(30,_)],[(103,.rr 30 3 1 (.below (IntKind.i64.wrap (x_7 + 1):Int).toNat) (x_3.map (eR eI))),(105,_),(106,.row 3 1 (x_9.map eI))]⟩ rfl (ab.seq (ab.aa ?_))
    refine Oc om (Oc (jd rfl) ?_)
    refine ae.kj 106 rfl ?_
    obtain ⟨x_10,e9,h6⟩:=aN h6
    refine Oc (bm (own_a:=[(106,_)]) ((hC e9).sw 1 106) goes33 rfl ⟨rfl,trivial⟩ rfl rfl) (ae.kX 106 rfl (ae.ah ⟨[(6,_),(10,_),(12,_),(28,_),(29,_),(30,_)],[(103,_),(105,_),(106,.row 3 1 (x_10.map eI))]⟩ rfl (ab.aa (Oc om (Oc om ?_)))))
    obtain ⟨x_11,e10,h6⟩:=aN h6
    refine Oc (cM ak (gn e10) (gm e10) rfl rfl rfl rfl (dG e10) rfl) (Oc oa ?_)
    refine ae.nil (Fin.ai (Fin.ag ⟨[(6,_),(10,_),(28,_),(29,_),(30,_)],[(103,_),(105,.row 3 1 (x_11.map eI))]⟩ rfl (Fin.then (ab.aa ?_))))
    refine Oc (aX rfl rfl) (Oc om ?_)
    refine ae.nil ?_
    exact Fin.bz [6,10,28,29,30] [103,105] (x_11,IntKind.i64.wrap (x_7 + 1)) (Option.some.inj h6) rfl
   ·refine ab.exit (Fin.aj ?_)
    obtain rfl:=hy7 _ (Option.some.inj h6).symm
    refine Fin.aj (Fin.aG ?_)
    exact Fin.join [10] [105] out_6 rfl rfl
  ·rintro out_5 hv
   subst v3
   refine ab.seq (ab.aa ?_)
   refine Oc om (Oc oa (Oc oa ?_))
   refine ae.ah ⟨[(4,.b (.row 105)),(5,I 0)],[(105,_)]⟩ rfl (ab.ret ?_)
   obtain rfl:=Option.some.inj h
   refine Fin.ag ⟨[(4,.b (.row 105)),(5,I 0)],[(105,.row 3 1 (out_5.map eI))]⟩ rfl (Fin.bO 105 rfl (Fin.aW [.one (.sl 1 (out_5.map eI)),.one (.i 0)] (.inl rfl) rfl (.cons (.tmp rfl) (.cons (.tmp rfl) .nil)) ⟨rfl,rfl⟩))
def gi (F:Nat) (fixed0:List Bool) (links0:List A2):Option ((List Int) × Int) :=
 (bG F fixed0 links0).bind fun x_1=>if (!x_1) = true then (some ([],1)) else (Option.bind (cP F fixed0 links0) (bL fun x_2 x_3=>some (x_3,0)))
theorem kW (kr0:Nat) {F:Nat} {fixed0:List Bool} {links0:List A2} {r:(List Int) × Int} (h:gi F fixed0 links0 = some r):aA Try.prog [] 20 [] [.one (.sl 1 (fixed0.map eB)),.one (.sl 2 (links0.map (cR .i64)))] (Is [(kr0,.row 3 1 (r.1.map eI))] (.ez [.row kr0,.one (.i r.2)])):=by
 unfold gi at h
 refine aA.intro 19 Try.func20 Try.ntmps20 rfl (by simp) fun E=>?_
 show ab _ E ⟨19,[],[],[]⟩ _ ⟨[(0,.b (.one (.sl 1 (fixed0.map eB)))),(1,.b (.one (.sl 2 (links0.map (cR .i64)))))],[]⟩ _
 refine ab.seq (ab.aa ?_)
 refine Oc oa (Oc oa ?_)
 refine ae.ah ⟨[(0,.b (.one (.sl 1 (fixed0.map eB)))),(1,.b (.one (.sl 2 (links0.map (cR .i64)))))],[]⟩ rfl (ab.seq (ab.seq (ab.aa ?_)))
 refine Oc om (Oc om ?_)
 obtain ⟨x_1,e1,h⟩:=aN h
 refine Oc (a6 (cw e1) lQ rfl rfl) (Oc (dM rfl) ?_)
 refine ae.ah ⟨[(0,_),(1,_),(11,B (!x_1))],[]⟩ rfl (ab.ite h rfl (fun _ h=>?_) (fun _ h=>?_))
 ·refine ab.seq (ab.aa ?_)
  refine Oc oa (Oc oa ?_)
  refine ae.ah ⟨[(4,.b (.one (.nil))),(5,I 1)],[]⟩ rfl (ab.ret (Fin.aD ?_))
  obtain rfl:=Option.some.inj h
  refine Fin.ag ⟨[(4,_),(5,_)],[]⟩ rfl (Fin.dS 4 101 1 3 rfl (by decide) rfl (Fin.k8 101 kr0 [.row 101,.one (.i 1)] (.inl rfl) rfl (.cons (.tmp rfl) (.cons (.tmp rfl) .nil)) rfl rfl rfl rfl ⟨rfl,rfl⟩))
 ·refine ab.skip (Fin.ag ⟨[(0,_),(1,_)],[]⟩ rfl (Fin.then (ab.seq (ab.aa ?_))))
  refine Oc om (Oc om ?_)
  obtain ⟨⟨x_2,x_3⟩,e2,h⟩:=aN h
  refine Oc (bm (own_a:=[]) (((fb e2).sw 51 102).sw 52 103) p9 rfl trivial rfl rfl) (Oc om (Oc (aF rfl rfl) ?_))
  refine ae.ag ⟨[(12,.ez [.xa [.row 102],.row 103]),(16,.b (.xa [.row 102]))],[(102,.mq x_2),(103,.row 3 1 (x_3.map eI))]⟩ rfl (Oc (aF rfl rfl) (Oc (bh (k:=104) iE rfl) ?_))
  refine ae.nG 104 rfl (Oc (fi cN rfl rfl rfl rfl rfl (Nat.le_of_ble_eq_true rfl) rfl) (Oc oa ?_))
  refine ae.ah ⟨[(7,.b (.row 103))],[(103,.row 3 1 (x_3.map eI))]⟩ rfl (ab.seq (ab.aa ?_))
  refine Oc om (Oc oa (Oc oa ?_))
  refine ae.ah ⟨[(4,.b (.row 103)),(5,I 0)],[(103,_)]⟩ rfl (ab.ret ?_)
  obtain rfl:=Option.some.inj h
  refine Fin.ag ⟨[(4,_),(5,_)],[(103,_)]⟩ rfl (Fin.k8 103 kr0 [.row 103,.one (.i 0)] (.inl rfl) rfl (.cons (.tmp rfl) (.cons (.tmp rfl) .nil)) rfl rfl rfl rfl ⟨rfl,rfl⟩)
def dL (F:Nat):Nat → Int → Int → Int → (List Int) → (List Int) → (List (List jr)) → (List Int) → (List Int) → Option (Int × (List Int) × (List Int) × (List Int) × (List Int))
 | 0,_,_,_,_,_,_,_,_=>none
 | n + 1,n0,by0,v0c,v1c,v2c,v3c,v5c,v6c=>(av v1c n0).bind fun x_1=>(av v2c n0).bind fun x_2=>Option.bind (if (decide (0 ≤ by0)) = true then (some 1) else (some 0)) (fun parts_3=>Option.bind ((av v3c n0).bind fun x_10=>iter F (un7 fun xf0_11 xf0_12 xf0_13 xf0f0_14 xf0f0_15 parts_16 x_17=>if (decide (x_17 < (x_10.length:Int))) = true then (Option.bind ((av x_10 x_17).bind fun x_30=>if (decide (x_30.pos = by0)) = true then (some (xf0_11,xf0_12,xf0_13,xf0f0_14,xf0f0_15,parts_16)) else ((av xf0_11 x_30.to).bind fun x_31=>if (decide (0 < x_31)) = true then ((av xf0_12 n0).bind fun x_32=>(av xf0_11 x_30.to).bind fun x_33=>(av xf0_12 n0).bind fun x_34=>some (xf0_11,xf0_12.set (n0:Int).toNat (min x_32 x_33),xf0_13,xf0f0_14,xf0f0_15,parts_16)) else (Option.bind (dL F n x_30.to x_30.pos xf0_13 xf0_11 xf0_12 v3c xf0f0_14 xf0f0_15) (un5 fun x_35 x_36 x_37 x_38 x_39=>(av x_37 n0).bind fun x_40=>(av x_37 x_30.to).bind fun x_41=>(av x_37 n0).bind fun x_42=>Option.bind ((av (x_37.set (n0:Int).toNat (min x_40 x_41)) x_30.to).bind fun x_44=>(av x_36 n0).bind fun x_45=>if (decide (x_45 ≤ x_44)) = true then (some (IntKind.i64.wrap (parts_16 + 1))) else (some parts_16)) (fun parts_43=>(av (x_37.set (n0:Int).toNat (min x_40 x_41)) x_30.to).bind fun x_46=>(av x_36 n0).bind fun x_47=>if (decide (x_47 < x_46)) = true then ((dw x_38 [x_30.pos]).bind fun x_48=>some (x_36,x_37.set (n0:Int).toNat (min x_40 x_41),x_35,x_48,x_39,parts_43)) else (some (x_36,x_37.set (n0:Int).toNat (min x_40 x_41),x_35,x_38,x_39,parts_43))))))) (un6 fun xf0_24 xf0_25 xf0_26 xf0f0_27 xf0f0_28 parts_29=>some (.inl (xf0_24,xf0_25,xf0_26,xf0f0_27,xf0f0_28,parts_29,IntKind.i64.wrap (x_17 + 1))))) else (some (.inr (xf0f0_15,parts_16,xf0_13,xf0_11,xf0_12,xf0f0_14)))) (v1c.set (n0:Int).toNat (IntKind.i64.wrap (v0c + 1)),v2c.set (n0:Int).toNat (IntKind.i64.wrap (v0c + 1)),IntKind.i64.wrap (v0c + 1),v5c,v6c,parts_3,0)) (un6 fun xf0_4 parts_5 y_6 yf0_7 yf0_8 yf0f0_9=>if (decide (1 < parts_5)) = true then ((dw xf0_4 [n0]).bind fun x_49=>some (y_6,yf0_7,yf0_8,yf0f0_9,x_49)) else (some (y_6,yf0_7,yf0_8,yf0f0_9,xf0_4))))
def jo (F:Nat) (n0:Int) (by0:Int) (v0c:Int) (v1c:List Int) (v2c:List Int) (v3c:List (List jr)) (v5c:List Int) (v6c:List Int):Option (Int × (List Int) × (List Int) × (List Int) × (List Int)):=dL F F n0 by0 v0c v1c v2c v3c v5c v6c
theorem kn {F:Nat}:∀ (n:Nat) {n0:Int} {by0:Int} {v0c:Int} {v1c:List Int} {v2c:List Int} {v3c:List (List jr)} {v5c:List Int} {v6c:List Int} {r:Int × (List Int) × (List Int) × (List Int) × (List Int)} (h:dL F n n0 by0 v0c v1c v2c v3c v5c v6c = some r),aA Try.prog [] 53 [(1,.box 3 [.i v0c]),(2,.ar 30 [.row 3]),(3,.row 3 1 (v1c.map eI)),(4,.ar 30 [.row 5]),(5,.row 3 1 (v2c.map eI)),(6,.box 56 [.sl 1 (v3c.map (eL 2 aT))]),(7,.ar 80 [.gC 53 [] [.ptr 1 0,.ptr 2 0,.ptr 4 0,.ptr 6 0,.ptr 7 0,.ptr 8 0,.ptr 10 0]]),(8,.ar 30 [.row 9]),(9,.row 3 1 (v5c.map eI)),(10,.ar 30 [.row 11]),(11,.row 3 1 (v6c.map eI))] [.one (.i n0),.one (.i by0),.ptr 1 0,.ptr 2 0,.ptr 4 0,.ptr 6 0,.ptr 7 0,.ptr 8 0,.ptr 10 0] (Is [(1,.box 3 [.i r.1]),(2,.ar 30 [.row 3]),(3,.row 3 1 (r.2.1.map eI)),(4,.ar 30 [.row 5]),(5,.row 3 1 (r.2.2.1.map eI)),(6,.box 56 [.sl 1 (v3c.map (eL 2 aT))]),(7,.ar 80 [.gC 53 [] [.ptr 1 0,.ptr 2 0,.ptr 4 0,.ptr 6 0,.ptr 7 0,.ptr 8 0,.ptr 10 0]]),(8,.ar 30 [.row 9]),(9,.row 3 1 (r.2.2.2.1.map eI)),(10,.ar 30 [.row 11]),(11,.row 3 1 (r.2.2.2.2.map eI))] (.ez [])):=by
 intro n
 induction n with
 | zero=>intro n0 by0 v0c v1c v2c v3c v5c v6c r h; simp [dL] at h
 | succ n ih=>
 intro n0 by0 v0c v1c v2c v3c v5c v6c r h
 unfold dL at h
 refine aA.intro 113 Try.func53 Try.ntmps53 rfl (by simp) fun E=>?_
 show ab _ E ⟨113,[1,2,4,6,7,8,10],[1,2,3,4,5,6,7,8,9,10,11],[]⟩ _ ⟨[(0,I n0),(1,I by0),(2,Pt 1 0),(3,Pt 2 0),(4,Pt 4 0),(5,Pt 6 0),(6,Pt 7 0),(7,Pt 8 0),(8,Pt 10 0)],[(1,.box 3 [.i v0c]),(2,.ar 30 [.row 3]),(3,.row 3 1 (v1c.map eI)),(4,.ar 30 [.row 5]),(5,.row 3 1 (v2c.map eI)),(6,.box 56 [.sl 1 (v3c.map (eL 2 aT))]),(7,.ar 80 [.gC 53 [] [.ptr 1 0,.ptr 2 0,.ptr 4 0,.ptr 6 0,.ptr 7 0,.ptr 8 0,.ptr 10 0]]),(8,.ar 30 [.row 9]),(9,.row 3 1 (v5c.map eI)),(10,.ar 30 [.row 11]),(11,.row 3 1 (v6c.map eI))]⟩ _
 refine ab.seq (ab.aa ?_)
 refine Oc (bn au rfl rfl rfl) (Oc (aX rfl rfl) (Oc (gb au rfl rfl rfl (Nat.le_of_ble_eq_true rfl) rfl) ?_))
 refine ae.ah ⟨[(0,I n0),(1,I by0),(2,Pt 1 0),(3,Pt 2 0),(4,Pt 4 0),(5,Pt 6 0),(6,Pt 7 0),(7,Pt 8 0),(8,Pt 10 0)],[(1,.box 3 [.i (IntKind.i64.wrap (v0c + 1))]),(2,.ar 30 [.row 3]),(3,.row 3 1 (v1c.map eI)),(4,.ar 30 [.row 5]),(5,.row 3 1 (v2c.map eI)),(6,.box 56 [.sl 1 (v3c.map (eL 2 aT))]),(7,.ar 80 [.gC 53 [] [.ptr 1 0,.ptr 2 0,.ptr 4 0,.ptr 6 0,.ptr 7 0,.ptr 8 0,.ptr 10 0]]),(8,.ar 30 [.row 9]),(9,.row 3 1 (v5c.map eI)),(10,.ar 30 [.row 11]),(11,.row 3 1 (v6c.map eI))]⟩ rfl (ab.seq ?_)
 obtain ⟨x_1,e1,h⟩:=aN h
 obtain ⟨x_2,e2,h⟩:=aN h
 refine ab.mP mixed [false,false,false,false,false,false,false,true,false,true] [.b (.row 3),I n0,.b (.row 5),I n0,I (IntKind.i64.wrap (v0c + 1)),I (IntKind.i64.wrap (v0c + 1)),.b (.a7 3 ((n0:Int).toNat * 1)),B true,.b (.a7 5 ((n0:Int).toNat * 1)),B true] [⟨[false,false,false,false,false,false,false,false,false,false],[(0,I n0),(1,I by0),(2,Pt 1 0),(3,Pt 2 0),(4,Pt 4 0),(5,Pt 6 0),(6,Pt 7 0),(7,Pt 8 0),(8,Pt 10 0)],[(1,.box 3 [.i (IntKind.i64.wrap (v0c + 1))]),(2,.ar 30 [.row 3]),(3,.row 3 1 (v1c.map eI)),(4,.ar 30 [.row 5]),(5,.row 3 1 (v2c.map eI)),(6,.box 56 [.sl 1 (v3c.map (eL 2 aT))]),(7,.ar 80 [.gC 53 [] [.ptr 1 0,.ptr 2 0,.ptr 4 0,.ptr 6 0,.ptr 7 0,.ptr 8 0,.ptr 10 0]]),(8,.ar 30 [.row 9]),(9,.row 3 1 (v5c.map eI)),(10,.ar 30 [.row 11]),(11,.row 3 1 (v6c.map eI))],[true,true,true,true,true,true,true,true,true,true],[],[8,9]⟩,⟨[false,false,false,false,false,false,false,true,false,false],[(0,I n0),(1,I by0),(2,Pt 1 0),(3,Pt 2 0),(4,Pt 4 0),(5,Pt 6 0),(6,Pt 7 0),(7,Pt 8 0),(8,Pt 10 0)],[(1,.box 3 [.i (IntKind.i64.wrap (v0c + 1))]),(2,.ar 30 [.row 3]),(3,.row 3 1 ((v1c.set (n0:Int).toNat (IntKind.i64.wrap (v0c + 1))).map eI)),(4,.ar 30 [.row 5]),(5,.row 3 1 (v2c.map eI)),(6,.box 56 [.sl 1 (v3c.map (eL 2 aT))]),(7,.ar 80 [.gC 53 [] [.ptr 1 0,.ptr 2 0,.ptr 4 0,.ptr 6 0,.ptr 7 0,.ptr 8 0,.ptr 10 0]]),(8,.ar 30 [.row 9]),(9,.row 3 1 (v5c.map eI)),(10,.ar 30 [.row 11]),(11,.row 3 1 (v6c.map eI))],[true,true,true,true,true,true,true,true,true,true],[0,1,4,6,7],[]⟩,⟨[false,false,false,false,false,false,false,true,false,true],[(0,I n0),(1,I by0),(2,Pt 1 0),(3,Pt 2 0),(4,Pt 4 0),(5,Pt 6 0),(6,Pt 7 0),(7,Pt 8 0),(8,Pt 10 0)],[(1,.box 3 [.i (IntKind.i64.wrap (v0c + 1))]),(2,.ar 30 [.row 3]),(3,.row 3 1 ((v1c.set (n0:Int).toNat (IntKind.i64.wrap (v0c + 1))).map eI)),(4,.ar 30 [.row 5]),(5,.row 3 1 ((v2c.set (n0:Int).toNat (IntKind.i64.wrap (v0c + 1))).map eI)),(6,.box 56 [.sl 1 (v3c.map (eL 2 aT))]),(7,.ar 80 [.gC 53 [] [.ptr 1 0,.ptr 2 0,.ptr 4 0,.ptr 6 0,.ptr 7 0,.ptr 8 0,.ptr 10 0]]),(8,.ar 30 [.row 9]),(9,.row 3 1 (v5c.map eI)),(10,.ar 30 [.row 11]),(11,.row 3 1 (v6c.map eI))],[true,true,true,true,true,true,true,true,true,true],[0,1,2,3,4,5,6,7,8,9],[]⟩] rfl (⟨by kernel_rfl,⟨⟨.b (.row 3),fun _=>rfl,fun _=>.p (by exact aV aZ rfl rfl rfl)⟩,⟨I n0,fun _=>rfl,fun _=>.p (by exact aq rfl)⟩,⟨.b (.row 5),fun _=>rfl,fun _=>.p (by exact aV aZ rfl rfl rfl)⟩,⟨I n0,fun _=>rfl,fun _=>.p (by exact aq rfl)⟩,⟨I (IntKind.i64.wrap (v0c + 1)),fun _=>rfl,fun _=>.p (by exact bn au rfl rfl rfl)⟩,⟨I (IntKind.i64.wrap (v0c + 1)),fun _=>rfl,fun _=>.p (by exact bn au rfl rfl rfl)⟩,⟨.b (.a7 3 ((n0:Int).toNat * 1)),fun _=>rfl,fun _=>.p (by exact an ak (aC e1) (aL e1) rfl rfl rfl rfl)⟩,⟨_,[],.b (.one .any),rfl,(fun e=>by simp at e),rfl,rfl,fun _=>.fC [1,2,3,4,5,6,7,8,9,10,11] (by exact .p (by exact bA (i:=(n0:Int).toNat) au rfl rfl rfl rfl (eE e1) (map_set _ _ _ _))) (by exact rfl)⟩,trivial,trivial,trivial⟩,⟨by kernel_rfl,⟨trivial,trivial,⟨.b (.row 5),fun _=>rfl,fun _=>.p (by exact aV aZ rfl rfl rfl)⟩,⟨I n0,fun _=>rfl,fun _=>.p (by exact aq rfl)⟩,trivial,⟨I (IntKind.i64.wrap (v0c + 1)),fun _=>rfl,fun _=>.p (by exact bn au rfl rfl rfl)⟩,trivial,trivial,⟨.b (.a7 5 ((n0:Int).toNat * 1)),fun _=>rfl,fun _=>.p (by exact an ak (aC e2) (aL e2) rfl rfl rfl rfl)⟩,⟨_,[],.b (.one .any),rfl,(fun e=>by simp at e),rfl,rfl,fun _=>.fC [1,2,3,4,5,6,7,8,9,10,11] (by exact .p (by exact bA (i:=(n0:Int).toNat) au rfl rfl rfl rfl (eE e2) (map_set _ _ _ _))) (by exact rfl)⟩,trivial⟩,⟨by kernel_rfl,⟨trivial,trivial,trivial,trivial,trivial,trivial,trivial,trivial,trivial,trivial,trivial⟩,trivial⟩⟩⟩) rfl rfl rfl [0,1,3,4,5,6,7,8] [1,2,3,4,5,6,7,8,9,10,11] (s':=⟨[(0,_),(1,_),(3,_),(4,_),(5,_),(6,_),(7,_),(8,_)],[(1,_),(2,_),(3,.row 3 1 ((v1c.set (n0:Int).toNat (IntKind.i64.wrap (v0c + 1))).map eI)),(4,_),(5,.row 3 1 ((v2c.set (n0:Int).toNat (IntKind.i64.wrap (v0c + 1))).map eI)),(6,_),(7,_),(8,_),(9,_),(10,_),(11,_)]⟩) rfl ?_
 refine ab.seq (ab.aa ?_)
 refine Oc oa (ae.ah ⟨[(0,_),(1,_),(3,_),(4,_),(5,_),(6,_),(7,_),(8,_),(11,I 0)],[(1,_),(2,_),(3,_),(4,_),(5,_),(6,_),(7,_),(8,_),(9,_),(10,_),(11,_)]⟩ rfl ?_)
 obtain ⟨v3,h4,h⟩:=aN h
 refine ab.cA (v:=v3) (fun (parts_3:Int)=>⟨[(0,I n0),(1,I by0),(3,Pt 2 0),(4,Pt 4 0),(5,Pt 6 0),(6,Pt 7 0),(7,Pt 8 0),(8,Pt 10 0),(11,I parts_3)],[(1,.box 3 [.i (IntKind.i64.wrap (v0c + 1))]),(2,.ar 30 [.row 3]),(3,.row 3 1 ((v1c.set (n0:Int).toNat (IntKind.i64.wrap (v0c + 1))).map eI)),(4,.ar 30 [.row 5]),(5,.row 3 1 ((v2c.set (n0:Int).toNat (IntKind.i64.wrap (v0c + 1))).map eI)),(6,.box 56 [.sl 1 (v3c.map (eL 2 aT))]),(7,.ar 80 [.gC 53 [] [.ptr 1 0,.ptr 2 0,.ptr 4 0,.ptr 6 0,.ptr 7 0,.ptr 8 0,.ptr 10 0]]),(8,.ar 30 [.row 9]),(9,.row 3 1 (v5c.map eI)),(10,.ar 30 [.row 11]),(11,.row 3 1 (v6c.map eI))]⟩) (fun z=>z) ?_ ?_
 ·refine ab.seq (ab.aa ?_)
  refine Oc om (Oc (jA rfl rfl) ?_)
  refine ae.ah ⟨[(0,_),(1,_),(3,_),(4,_),(5,_),(6,_),(7,_),(8,_),(11,_),(25,B (decide (0 ≤ by0)))],[(1,_),(2,_),(3,_),(4,_),(5,_),(6,_),(7,_),(8,_),(9,_),(10,_),(11,_)]⟩ rfl (ab.ite h4 rfl (fun _ h4=>?_) (fun _ h4=>?_))
  ·refine ab.aa (Oc oa (ae.nil ?_))
   exact Fin.join [0,1,3,4,5,6,7,8,11] [1,2,3,4,5,6,7,8,9,10,11] 1 (Option.some.inj h4) rfl
  ·refine ab.skip ?_
   exact Fin.join [0,1,3,4,5,6,7,8,11] [1,2,3,4,5,6,7,8,9,10,11] 0 (Option.some.inj h4) rfl
 ·rintro parts_3 hv
  subst v3
  obtain ⟨v5,h6,h⟩:=aN h
  refine ab.cA (v:=v5) (un6 fun (xf0_4:List Int) (parts_5:Int) (y_6:Int) (yf0_7:List Int) (yf0_8:List Int) (yf0f0_9:List Int)=>⟨[(0,I n0),(8,Pt 10 0),(11,I parts_5)],[(1,.box 3 [.i y_6]),(2,.ar 30 [.row 3]),(3,.row 3 1 (yf0_7.map eI)),(4,.ar 30 [.row 5]),(5,.row 3 1 (yf0_8.map eI)),(6,.box 56 [.sl 1 (v3c.map (eL 2 aT))]),(7,.ar 80 [.gC 53 [] [.ptr 1 0,.ptr 2 0,.ptr 4 0,.ptr 6 0,.ptr 7 0,.ptr 8 0,.ptr 10 0]]),(8,.ar 30 [.row 9]),(9,.row 3 1 (yf0f0_9.map eI)),(10,.ar 30 [.row 11]),(11,.row 3 1 (xf0_4.map eI))]⟩) (fun z=>z) ?_ ?_
  ·refine ab.seq (ab.aa ?_)
   refine Oc (bn qD rfl rfl rfl) (Oc om ?_)
   obtain ⟨x_10,e7,h6⟩:=aN h6
   refine Oc (aI kL (aC e7) (az (e:=(eL 2 aT)) e7) rfl rfl) (Oc (aE jX rfl rfl) (Oc (ay und58 rfl (List.length_map _)) (Oc om ?_)))
   refine ae.ah ⟨[(0,_),(1,_),(3,_),(4,_),(6,_),(7,_),(8,_),(11,_),(29,.b (.one (.sl 2 (x_10.map aT)))),(30,I (x_10.length:Int)),(31,I 0)],[(1,_),(2,_),(3,_),(4,_),(5,_),(6,_),(7,_),(8,_),(9,_),(10,_),(11,_)]⟩ rfl (ab.block (ab.cy h6 (un7 fun (xf0_11:List Int) (xf0_12:List Int) (xf0_13:Int) (xf0f0_14:List Int) (xf0f0_15:List Int) (parts_16:Int) (x_17:Int)=>⟨[(0,I n0),(1,I by0),(3,Pt 2 0),(4,Pt 4 0),(6,Pt 7 0),(7,Pt 8 0),(8,Pt 10 0),(11,I parts_16),(29,.b (.one (.sl 2 (x_10.map aT)))),(30,I (x_10.length:Int)),(31,I x_17)],[(1,.box 3 [.i xf0_13]),(2,.ar 30 [.row 3]),(3,.row 3 1 (xf0_11.map eI)),(4,.ar 30 [.row 5]),(5,.row 3 1 (xf0_12.map eI)),(6,.box 56 [.sl 1 (v3c.map (eL 2 aT))]),(7,.ar 80 [.gC 53 [] [.ptr 1 0,.ptr 2 0,.ptr 4 0,.ptr 6 0,.ptr 7 0,.ptr 8 0,.ptr 10 0]]),(8,.ar 30 [.row 9]),(9,.row 3 1 (xf0f0_14.map eI)),(10,.ar 30 [.row 11]),(11,.row 3 1 (xf0f0_15.map eI))]⟩) [0,1,3,4,6,7,8,11,29,30,31] [1,2,3,4,5,6,7,8,9,10,11] rfl ?_))
   rintro ⟨xf0_11,xf0_12,xf0_13,xf0f0_14,xf0f0_15,parts_16,x_17⟩ o8 h9 hy10
   refine ab.seq (ab.aa ?_)
   refine Oc (bf rfl rfl) (ae.ah ⟨[(0,_),(1,_),(3,_),(4,_),(6,_),(7,_),(8,_),(11,_),(29,_),(30,_),(31,_),(32,B (decide (x_17 < (x_10.length:Int))))],[(1,_),(2,_),(3,_),(4,_),(5,_),(6,_),(7,_),(8,_),(9,_),(10,_),(11,_)]⟩ rfl (ab.seq (ab.ite h9 rfl (fun _ h9=>?_) (fun _ h9=>?_))))
   ·refine ab.skip (Fin.ag ⟨[(0,_),(1,_),(3,_),(4,_),(6,_),(7,_),(8,_),(11,_),(29,_),(30,_),(31,_)],[(1,_),(2,_),(3,_),(4,_),(5,_),(6,_),(7,_),(8,_),(9,_),(10,_),(11,_)]⟩ rfl (Fin.then ?_))
    obtain ⟨v11,h12,h9⟩:=aN h9
    refine ab.cA (v:=v11) (un6 fun (xf0_24:List Int) (xf0_25:List Int) (xf0_26:Int) (xf0f0_27:List Int) (xf0f0_28:List Int) (parts_29:Int)=>⟨[(0,I n0),(1,I by0),(3,Pt 2 0),(4,Pt 4 0),(6,Pt 7 0),(7,Pt 8 0),(8,Pt 10 0),(11,I parts_29),(29,.b (.one (.sl 2 (x_10.map aT)))),(30,I (x_10.length:Int)),(31,I x_17)],[(1,.box 3 [.i xf0_26]),(2,.ar 30 [.row 3]),(3,.row 3 1 (xf0_24.map eI)),(4,.ar 30 [.row 5]),(5,.row 3 1 (xf0_25.map eI)),(6,.box 56 [.sl 1 (v3c.map (eL 2 aT))]),(7,.ar 80 [.gC 53 [] [.ptr 1 0,.ptr 2 0,.ptr 4 0,.ptr 6 0,.ptr 7 0,.ptr 8 0,.ptr 10 0]]),(8,.ar 30 [.row 9]),(9,.row 3 1 (xf0f0_27.map eI)),(10,.ar 30 [.row 11]),(11,.row 3 1 (xf0f0_28.map eI))]⟩) (fun z=>z) ?_ ?_
    ·refine ab.block (ab.seq (ab.aa ?_))
     obtain ⟨x_30,e13,h12⟩:=aN h12
     refine Oc (aI lI (aC e13) (az (e:=aT) e13) rfl rfl) (Oc (j9 mM rfl rfl rfl) (Oc (bh (k:=101) pb rfl) (Oc (kR mM rfl rfl rfl rfl (Nat.le_of_ble_eq_true rfl) rfl) ?_)))
     refine ae.ah ⟨[(0,_),(1,_),(3,_),(4,_),(6,_),(7,_),(8,_),(11,_),(13,Pt 101 0),(29,_),(30,_),(31,_)],[(1,_),(2,_),(3,_),(4,_),(5,_),(6,_),(7,_),(8,_),(9,_),(10,_),(11,_),(101,.box 60 (aT x_30))]⟩ rfl (ab.block (ab.seq (ab.aa ?_)))
     refine Oc (bH lW rfl rfl) (Oc (bn au rfl rfl rfl) (Oc om (Oc (cT rfl rfl) (Oc oa ?_))))
     refine ae.ah ⟨[(0,_),(1,_),(3,_),(4,_),(6,_),(7,_),(8,_),(11,_),(13,_),(29,_),(30,_),(31,_),(81,B (decide (x_30.pos = by0)))],[(1,_),(2,_),(3,_),(4,_),(5,_),(6,_),(7,_),(8,_),(9,_),(10,_),(11,_),(101,_)]⟩ rfl (ab.ite h12 rfl (fun _ h12=>?_) (fun _ h12=>?_))
     ·refine ab.skip (Fin.ai (Fin.ai ?_))
      exact Fin.join [0,1,3,4,6,7,8,11,29,30,31] [1,2,3,4,5,6,7,8,9,10,11] (xf0_11,xf0_12,xf0_13,xf0f0_14,xf0f0_15,parts_16) (Option.some.inj h12) rfl
     ·refine ab.seq (ab.aa ?_)
      refine Oc (aV aZ rfl rfl rfl) (Oc (bH ee rfl rfl) (Oc (bn au rfl rfl rfl) ?_))
      obtain ⟨x_31,e14,h12⟩:=aN h12
      refine Oc (an ak (aC e14) (aL e14) rfl rfl rfl rfl) (Oc (ax (i:=(x_30.to:Int).toNat) (f:=0) au rfl rfl rfl (az (e:=eI) e14) rfl) (Oc (eW rfl rfl) (Oc oa ?_)))
      refine ae.ah ⟨[(0,_),(1,_),(3,_),(4,_),(6,_),(7,_),(8,_),(11,_),(13,_),(29,_),(30,_),(31,_),(86,B (decide (0 < x_31)))],[(1,_),(2,_),(3,_),(4,_),(5,_),(6,_),(7,_),(8,_),(9,_),(10,_),(11,_),(101,_)]⟩ rfl (ab.ite h12 rfl (fun _ h12=>?_) (fun _ h12=>?_))
      ·refine ab.ag ⟨[(0,_),(1,_),(3,_),(4,_),(6,_),(7,_),(8,_),(11,_),(13,_),(29,_),(30,_),(31,_)],[(1,_),(2,_),(3,_),(4,_),(5,_),(6,_),(7,_),(8,_),(9,_),(10,_),(11,_),(101,_)]⟩ rfl ?_
       obtain ⟨x_32,e15,h12⟩:=aN h12
       obtain ⟨x_33,e16,h12⟩:=aN h12
       obtain ⟨x_34,e17,h12⟩:=aN h12
       refine ab.jH mixed 13 [.b (.row 5),I n0,.b (.row 5),I n0,.b (.a7 5 ((n0:Int).toNat * 1)),I x_32,.b (.row 3),Pt 101 0,I x_30.to,.b (.a7 3 ((x_30.to:Int).toNat * 1)),I x_33,I (min x_32 x_33),.b (.a7 5 ((n0:Int).toNat * 1))] [0,1,3,4,6,7,8,11,29,30,31] [1,2,3,4,5,6,7,8,9,10,11] (s':=⟨[(0,_),(1,_),(3,_),(4,_),(6,_),(7,_),(8,_),(11,_),(29,_),(30,_),(31,_)],[(1,_),(2,_),(3,_),(4,_),(5,.row 3 1 ((xf0_12.set (n0:Int).toNat (min x_32 x_33)).map eI)),(6,_),(7,_),(8,_),(9,_),(10,_),(11,_)]⟩) rfl ⟨fun _=>.p (aV aZ rfl rfl rfl),fun _=>.p om,fun _=>.p (aV aZ rfl rfl rfl),fun _=>.p om,fun _=>.p (an ak (aC e15) (aL e15) rfl rfl rfl rfl),fun _=>.p (ax (i:=(n0:Int).toNat) (f:=0) au rfl rfl rfl (az (e:=eI) e15) rfl),fun _=>.p (aV aZ rfl rfl rfl),fun _=>.p (bH ee rfl rfl),fun _=>.p (bn au rfl rfl rfl),fun _=>.p (an ak (aC e16) (aL e16) rfl rfl rfl rfl),fun _=>.p (ax (i:=(x_30.to:Int).toNat) (f:=0) au rfl rfl rfl (az (e:=eI) e16) rfl),fun _=>.p (pX rfl rfl),fun _=>.p (an ak (aC e17) (aL e17) rfl rfl rfl rfl),trivial⟩ ⟨_,by exact .p (bA (i:=(n0:Int).toNat) au rfl rfl rfl rfl (eE e17) (map_set _ _ _ _)),rfl⟩ rfl (Fin.ai (Fin.ai ?_))
       exact Fin.join [0,1,3,4,6,7,8,11,29,30,31] [1,2,3,4,5,6,7,8,9,10,11] (xf0_11,xf0_12.set (n0:Int).toNat (min x_32 x_33),xf0_13,xf0f0_14,xf0f0_15,parts_16) (Option.some.inj h12) rfl
      ·refine ab.seq (ab.aa ?_)
       refine Oc (aV ov rfl rfl rfl) (Oc (bH ee rfl rfl) (Oc (bn au rfl rfl rfl) (Oc (bH lW rfl rfl) (Oc (bn au rfl rfl rfl) ?_))))
       obtain ⟨⟨x_35,x_36,x_37,x_38,x_39⟩,e18,h12⟩:=aN h12
       refine Oc (ph (own_a:=[(1,_),(2,_),(3,_),(4,_),(5,_),(6,_),(7,_),(8,_),(9,_),(10,_),(11,_)]) (aA.cast (own2:=[(1,.box 3 [.i xf0_13]),(2,.ar 30 [.row 3]),(3,.row 3 1 (xf0_11.map eI)),(4,.ar 30 [.row 5]),(5,.row 3 1 (xf0_12.map eI)),(6,.box 56 [.sl 1 (v3c.map (eL 2 aT))]),(7,.ar 80 [.gC 53 [] [.ptr 1 0,.ptr 2 0,.ptr 4 0,.ptr 6 0,.ptr 7 0,.ptr 8 0,.ptr 10 0]]),(8,.ar 30 [.row 9]),(9,.row 3 1 (xf0f0_14.map eI)),(10,.ar 30 [.row 11]),(11,.row 3 1 (xf0f0_15.map eI))]) (args2:=[.one (.i x_30.to),.one (.i x_30.pos),.ptr 1 0,.ptr 2 0,.ptr 4 0,.ptr 6 0,.ptr 7 0,.ptr 8 0,.ptr 10 0]) (own2':=[(1,.box 3 [.i x_35]),(2,.ar 30 [.row 3]),(3,.row 3 1 (x_36.map eI)),(4,.ar 30 [.row 5]),(5,.row 3 1 (x_37.map eI)),(6,.box 56 [.sl 1 (v3c.map (eL 2 aT))]),(7,.ar 80 [.gC 53 [] [.ptr 1 0,.ptr 2 0,.ptr 4 0,.ptr 6 0,.ptr 7 0,.ptr 8 0,.ptr 10 0]]),(8,.ar 30 [.row 9]),(9,.row 3 1 (x_38.map eI)),(10,.ar 30 [.row 11]),(11,.row 3 1 (x_39.map eI))]) (res2:=.ez []) (ih e18) (by kernel_rfl) (by kernel_rfl) (by kernel_rfl) (by kernel_rfl)) sb rfl rfl rfl ⟨rfl,rfl,rfl,rfl,rfl,rfl,rfl,rfl,rfl,rfl,rfl,trivial⟩ rfl rfl) (ae.ag ⟨[(0,I n0),(1,I by0),(3,Pt 2 0),(4,Pt 4 0),(6,Pt 7 0),(7,Pt 8 0),(8,Pt 10 0),(11,I parts_16),(13,Pt 101 0),(29,.b (.one (.sl 2 (x_10.map aT)))),(30,I (x_10.length:Int)),(31,I x_17),(35,.b (.gC 53 [] [.ptr 1 0,.ptr 2 0,.ptr 4 0,.ptr 6 0,.ptr 7 0,.ptr 8 0,.ptr 10 0])),(36,Pt 101 0),(37,I x_30.to),(38,Pt 101 1),(39,I x_30.pos),(40,.ez []),(86,B (decide (0 < x_31)))],[(1,.box 3 [.i x_35]),(2,.ar 30 [.row 3]),(3,.row 3 1 (x_36.map eI)),(4,.ar 30 [.row 5]),(5,.row 3 1 (x_37.map eI)),(6,.box 56 [.sl 1 (v3c.map (eL 2 aT))]),(7,.ar 80 [.gC 53 [] [.ptr 1 0,.ptr 2 0,.ptr 4 0,.ptr 6 0,.ptr 7 0,.ptr 8 0,.ptr 10 0]]),(8,.ar 30 [.row 9]),(9,.row 3 1 (x_38.map eI)),(10,.ar 30 [.row 11]),(11,.row 3 1 (x_39.map eI)),(101,.box 60 (aT x_30))]⟩ (by kernel_rfl) (ae.ah ⟨[(0,_),(1,_),(3,_),(4,_),(6,_),(7,_),(8,_),(11,_),(13,_),(29,_),(30,_),(31,_)],[(1,_),(2,_),(3,_),(4,_),(5,_),(6,_),(7,_),(8,_),(9,_),(10,_),(11,_),(101,_)]⟩ rfl (ab.seq ?_)))
       obtain ⟨x_40,e19,h12⟩:=aN h12
       obtain ⟨x_41,e20,h12⟩:=aN h12
       obtain ⟨x_42,e21,h12⟩:=aN h12
       refine ab.c8 mixed 13 [.b (.row 5),I n0,.b (.row 5),I n0,.b (.a7 5 ((n0:Int).toNat * 1)),I x_40,.b (.row 5),Pt 101 0,I x_30.to,.b (.a7 5 ((x_30.to:Int).toNat * 1)),I x_41,I (min x_40 x_41),.b (.a7 5 ((n0:Int).toNat * 1))] [0,1,3,4,6,7,8,11,13,29,30,31] [1,2,3,4,5,6,7,8,9,10,11,101] (s':=⟨[(0,_),(1,_),(3,_),(4,_),(6,_),(7,_),(8,_),(11,_),(13,_),(29,_),(30,_),(31,_)],[(1,_),(2,_),(3,_),(4,_),(5,.row 3 1 ((x_37.set (n0:Int).toNat (min x_40 x_41)).map eI)),(6,_),(7,_),(8,_),(9,_),(10,_),(11,_),(101,_)]⟩) rfl ⟨fun _=>.p (aV aZ rfl rfl rfl),fun _=>.p om,fun _=>.p (aV aZ rfl rfl rfl),fun _=>.p om,fun _=>.p (an ak (aC e19) (aL e19) rfl rfl rfl rfl),fun _=>.p (ax (i:=(n0:Int).toNat) (f:=0) au rfl rfl rfl (az (e:=eI) e19) rfl),fun _=>.p (aV aZ rfl rfl rfl),fun _=>.p (bH ee rfl rfl),fun _=>.p (bn au rfl rfl rfl),fun _=>.p (an ak (aC e20) (aL e20) rfl rfl rfl rfl),fun _=>.p (ax (i:=(x_30.to:Int).toNat) (f:=0) au rfl rfl rfl (az (e:=eI) e20) rfl),fun _=>.p (pX rfl rfl),fun _=>.p (an ak (aC e21) (aL e21) rfl rfl rfl rfl),trivial⟩ ⟨_,by exact .p (bA (i:=(n0:Int).toNat) au rfl rfl rfl rfl (eE e21) (map_set _ _ _ _)),rfl⟩ rfl ?_
       obtain ⟨v22,h23,h12⟩:=aN h12
       refine ab.cA (v:=v22) (fun (parts_43:Int)=>⟨[(0,I n0),(1,I by0),(3,Pt 2 0),(4,Pt 4 0),(6,Pt 7 0),(7,Pt 8 0),(8,Pt 10 0),(11,I parts_43),(13,Pt 101 0),(29,.b (.one (.sl 2 (x_10.map aT)))),(30,I (x_10.length:Int)),(31,I x_17)],[(1,.box 3 [.i x_35]),(2,.ar 30 [.row 3]),(3,.row 3 1 (x_36.map eI)),(4,.ar 30 [.row 5]),(5,.row 3 1 ((x_37.set (n0:Int).toNat (min x_40 x_41)).map eI)),(6,.box 56 [.sl 1 (v3c.map (eL 2 aT))]),(7,.ar 80 [.gC 53 [] [.ptr 1 0,.ptr 2 0,.ptr 4 0,.ptr 6 0,.ptr 7 0,.ptr 8 0,.ptr 10 0]]),(8,.ar 30 [.row 9]),(9,.row 3 1 (x_38.map eI)),(10,.ar 30 [.row 11]),(11,.row 3 1 (x_39.map eI)),(101,.box 60 (aT x_30))]⟩) (fun z=>z) ?_ ?_
       ·refine ab.seq (ab.ag ⟨[(0,_),(1,_),(3,_),(4,_),(6,_),(7,_),(8,_),(11,_),(13,_),(29,_),(30,_),(31,_)],[(1,_),(2,_),(3,_),(4,_),(5,_),(6,_),(7,_),(8,_),(9,_),(10,_),(11,_),(101,_)]⟩ rfl ?_)
        obtain ⟨x_44,e24,h23⟩:=aN h23
        obtain ⟨x_45,e25,h23⟩:=aN h23
        refine ab.c8 mixed 10 [.b (.row 5),Pt 101 0,I x_30.to,.b (.a7 5 ((x_30.to:Int).toNat * 1)),I x_44,.b (.row 3),I n0,.b (.a7 3 ((n0:Int).toNat * 1)),I x_45,B (decide (x_45 ≤ x_44))] [0,1,3,4,6,7,8,11,13,29,30,31,63] [1,2,3,4,5,6,7,8,9,10,11,101] (s':=⟨[(0,_),(1,_),(3,_),(4,_),(6,_),(7,_),(8,_),(11,_),(13,_),(29,_),(30,_),(31,_),(63,B (decide (x_45 ≤ x_44)))],[(1,_),(2,_),(3,_),(4,_),(5,_),(6,_),(7,_),(8,_),(9,_),(10,_),(11,_),(101,_)]⟩) rfl ⟨fun _=>.p (aV aZ rfl rfl rfl),fun _=>.p (bH ee rfl rfl),fun _=>.p (bn au rfl rfl rfl),fun _=>.p (an ak (aC e24) (aL e24) rfl rfl rfl rfl),fun _=>.p (ax (i:=(x_30.to:Int).toNat) (f:=0) au rfl rfl rfl (az (e:=eI) e24) rfl),fun _=>.p (aV aZ rfl rfl rfl),fun _=>.p om,fun _=>.p (an ak (aC e25) (aL e25) rfl rfl rfl rfl),fun _=>.p (ax (i:=(n0:Int).toNat) (f:=0) au rfl rfl rfl (az (e:=eI) e25) rfl),fun _=>.p (jA rfl rfl),trivial⟩ rfl rfl (ab.ite h23 rfl (fun _ h23=>?_) (fun _ h23=>?_))
        ·refine ab.aa (Oc om (Oc (aX rfl rfl) (Oc oa ?_)))
         refine ae.nil ?_
         exact Fin.join [0,1,3,4,6,7,8,11,13,29,30,31] [1,2,3,4,5,6,7,8,9,10,11,101] (IntKind.i64.wrap (parts_16 + 1)) (Option.some.inj h23) rfl
        ·refine ab.skip ?_
         exact Fin.join [0,1,3,4,6,7,8,11,13,29,30,31] [1,2,3,4,5,6,7,8,9,10,11,101] parts_16 (Option.some.inj h23) rfl
       ·rintro parts_43 hv
        subst v22
        refine ab.seq (ab.ag ⟨[(0,_),(1,_),(3,_),(4,_),(6,_),(7,_),(8,_),(11,_),(13,_),(29,_),(30,_),(31,_)],[(1,_),(2,_),(3,_),(4,_),(5,_),(6,_),(7,_),(8,_),(9,_),(10,_),(11,_),(101,_)]⟩ rfl ?_)
        obtain ⟨x_46,e26,h12⟩:=aN h12
        obtain ⟨x_47,e27,h12⟩:=aN h12
        refine ab.c8 mixed 10 [.b (.row 5),Pt 101 0,I x_30.to,.b (.a7 5 ((x_30.to:Int).toNat * 1)),I x_46,.b (.row 3),I n0,.b (.a7 3 ((n0:Int).toNat * 1)),I x_47,B (decide (x_47 < x_46))] [0,1,3,4,6,7,8,11,13,29,30,31,75] [1,2,3,4,5,6,7,8,9,10,11,101] (s':=⟨[(0,_),(1,_),(3,_),(4,_),(6,_),(7,_),(8,_),(11,_),(13,_),(29,_),(30,_),(31,_),(75,B (decide (x_47 < x_46)))],[(1,_),(2,_),(3,_),(4,_),(5,_),(6,_),(7,_),(8,_),(9,_),(10,_),(11,_),(101,_)]⟩) rfl ⟨fun _=>.p (aV aZ rfl rfl rfl),fun _=>.p (bH ee rfl rfl),fun _=>.p (bn au rfl rfl rfl),fun _=>.p (an ak (aC e26) (aL e26) rfl rfl rfl rfl),fun _=>.p (ax (i:=(x_30.to:Int).toNat) (f:=0) au rfl rfl rfl (az (e:=eI) e26) rfl),fun _=>.p (aV aZ rfl rfl rfl),fun _=>.p om,fun _=>.p (an ak (aC e27) (aL e27) rfl rfl rfl rfl),fun _=>.p (ax (i:=(n0:Int).toNat) (f:=0) au rfl rfl rfl (az (e:=eI) e27) rfl),fun _=>.p (eW rfl rfl),trivial⟩ rfl rfl (ab.ite h12 rfl (fun _ h12=>?_) (fun _ h12=>?_))
        ·refine ab.aa (Oc (aV aZ rfl rfl rfl) (Oc (bH lW rfl rfl) (Oc (bn au rfl rfl rfl) (Oc (aO (k:=102) (es:=[x_30.pos].map eI) ak rfl rfl (bl fun _=>rfl) rfl (by decide) (by decide) rfl) ?_))))
         refine ae.forget 8 0 rfl ?_
         obtain ⟨x_48,e28,h12⟩:=aN h12
         refine Oc (cM ak (gn e28) (gm e28) rfl rfl rfl rfl (dG e28) rfl) (Oc (dC aZ rfl rfl rfl rfl (Nat.le_of_ble_eq_true rfl) rfl) ?_)
         refine ae.nil (Fin.ai (Fin.ai ?_))
         exact Fin.join [0,1,3,4,6,7,8,11,29,30,31] [1,2,3,4,5,6,7,8,9,10,11] (x_36,x_37.set (n0:Int).toNat (min x_40 x_41),x_35,x_48,x_39,parts_43) (Option.some.inj h12) rfl
        ·refine ab.skip (Fin.ai (Fin.ai ?_))
         exact Fin.join [0,1,3,4,6,7,8,11,29,30,31] [1,2,3,4,5,6,7,8,9,10,11] (x_36,x_37.set (n0:Int).toNat (min x_40 x_41),x_35,x_38,x_39,parts_43) (Option.some.inj h12) rfl
    ·rintro ⟨xf0_24,xf0_25,xf0_26,xf0f0_27,xf0f0_28,parts_29⟩ hv
     subst v11
     refine ab.aa (Oc (aX rfl rfl) (Oc om ?_))
     refine ae.nil ?_
     exact Fin.bz [0,1,3,4,6,7,8,11,29,30,31] [1,2,3,4,5,6,7,8,9,10,11] (xf0_24,xf0_25,xf0_26,xf0f0_27,xf0f0_28,parts_29,IntKind.i64.wrap (x_17 + 1)) (Option.some.inj h9) rfl
   ·refine ab.exit (Fin.aj ?_)
    obtain rfl:=hy10 _ (Option.some.inj h9).symm
    refine Fin.aj (Fin.aG ?_)
    exact Fin.join [0,8,11] [1,2,3,4,5,6,7,8,9,10,11] (xf0f0_15,parts_16,xf0_13,xf0_11,xf0_12,xf0f0_14) rfl rfl
  ·rintro ⟨xf0_4,parts_5,y_6,yf0_7,yf0_8,yf0f0_9⟩ hv
   subst v5
   refine ab.seq (ab.aa ?_)
   refine Oc om (Oc (eW rfl rfl) ?_)
   refine ae.ah ⟨[(0,_),(8,_),(108,B (decide (1 < parts_5)))],[(1,_),(2,_),(3,_),(4,_),(5,_),(6,_),(7,_),(8,_),(9,_),(10,_),(11,_)]⟩ rfl (ab.ite h rfl (fun _ h=>?_) (fun _ h=>?_))
   ·refine ab.aa (Oc (aV aZ rfl rfl rfl) (Oc om (Oc (aO (k:=103) (es:=[n0].map eI) ak rfl rfl (bl fun _=>rfl) rfl (by decide) (by decide) rfl) ?_)))
    refine ae.forget 10 0 rfl ?_
    obtain ⟨x_49,e29,h⟩:=aN h
    refine Oc (cM ak (gn e29) (gm e29) rfl rfl rfl rfl (dG e29) rfl) (Oc (dC aZ rfl rfl rfl rfl (Nat.le_of_ble_eq_true rfl) rfl) ?_)
    refine ae.nil ?_
    obtain rfl:=Option.some.inj h
    refine Fin.ag ⟨[],[(1,.box 3 [.i y_6]),(2,.ar 30 [.row 3]),(3,.row 3 1 (yf0_7.map eI)),(4,.ar 30 [.row 5]),(5,.row 3 1 (yf0_8.map eI)),(6,.box 56 [.sl 1 (v3c.map (eL 2 aT))]),(7,.ar 80 [.gC 53 [] [.ptr 1 0,.ptr 2 0,.ptr 4 0,.ptr 6 0,.ptr 7 0,.ptr 8 0,.ptr 10 0]]),(8,.ar 30 [.row 9]),(9,.row 3 1 (yf0f0_9.map eI)),(10,.ar 30 [.row 11]),(11,.row 3 1 (x_49.map eI))]⟩ rfl ?_
    exact Fin.result [] (.inr rfl) rfl (.nil) ⟨rfl,rfl⟩
   ·refine ab.skip ?_
    obtain rfl:=Option.some.inj h
    refine Fin.ag ⟨[],[(1,_),(2,_),(3,_),(4,_),(5,_),(6,_),(7,_),(8,_),(9,_),(10,_),(11,_)]⟩ rfl ?_
    exact Fin.result [] (.inr rfl) rfl (.nil) ⟨rfl,rfl⟩
theorem kV {F:Nat} {n0:Int} {by0:Int} {v0c:Int} {v1c:List Int} {v2c:List Int} {v3c:List (List jr)} {v5c:List Int} {v6c:List Int} {r:Int × (List Int) × (List Int) × (List Int) × (List Int)} (h:jo F n0 by0 v0c v1c v2c v3c v5c v6c = some r):aA Try.prog [] 53 [(1,.box 3 [.i v0c]),(2,.ar 30 [.row 3]),(3,.row 3 1 (v1c.map eI)),(4,.ar 30 [.row 5]),(5,.row 3 1 (v2c.map eI)),(6,.box 56 [.sl 1 (v3c.map (eL 2 aT))]),(7,.ar 80 [.gC 53 [] [.ptr 1 0,.ptr 2 0,.ptr 4 0,.ptr 6 0,.ptr 7 0,.ptr 8 0,.ptr 10 0]]),(8,.ar 30 [.row 9]),(9,.row 3 1 (v5c.map eI)),(10,.ar 30 [.row 11]),(11,.row 3 1 (v6c.map eI))] [.one (.i n0),.one (.i by0),.ptr 1 0,.ptr 2 0,.ptr 4 0,.ptr 6 0,.ptr 7 0,.ptr 8 0,.ptr 10 0] (Is [(1,.box 3 [.i r.1]),(2,.ar 30 [.row 3]),(3,.row 3 1 (r.2.1.map eI)),(4,.ar 30 [.row 5]),(5,.row 3 1 (r.2.2.1.map eI)),(6,.box 56 [.sl 1 (v3c.map (eL 2 aT))]),(7,.ar 80 [.gC 53 [] [.ptr 1 0,.ptr 2 0,.ptr 4 0,.ptr 6 0,.ptr 7 0,.ptr 8 0,.ptr 10 0]]),(8,.ar 30 [.row 9]),(9,.row 3 1 (r.2.2.2.1.map eI)),(10,.ar 30 [.row 11]),(11,.row 3 1 (r.2.2.2.2.map eI))] (.ez [])):=kn F h
end Go.Proofs.Ytgojigdbelkgoaa

