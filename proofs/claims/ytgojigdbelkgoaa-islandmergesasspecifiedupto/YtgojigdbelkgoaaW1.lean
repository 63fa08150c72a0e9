/- printed walks -/
import Derived.Test.YtgojigdbelkgoaaT1
namespace Go.Proofs.Ytgojigdbelkgoaa
open Go.Sk Go
set_option maxHeartbeats 4000000
set_option maxRecDepth 4000
set_option linter.unusedSimpArgs false
set_option linter.unusedVariables false
theorem undi97:Try.prog.underlying 97 = some (.int .u64):=Try.underlying97
theorem undi5:Try.prog.underlying 5 = some (.int .u8):=Try.underlying5
theorem und9:Try.prog.underlying 9 = some .string:=Try.underlying9
theorem iB:Try.prog.underlying 3 = some (.int .i64):=Try.underlying3
theorem goes69:cG Try.prog 69:=⟨Try.call69⟩
theorem goes59:cG Try.prog 59:=⟨Try.call59⟩
theorem eW:Try.prog.underlying 30 = some (.slice 3):=Try.underlying30
theorem gb:Try.prog.underlying 63 = some (.int .u64):=Try.underlying63
theorem goes56:cG Try.prog 56:=⟨Try.call56⟩
theorem goes55:cG Try.prog 55:=⟨Try.call55⟩
theorem dx:Try.prog.underlying 22 = some (.slice 4):=Try.underlying22
theorem qo:Try.prog.underlying 23 = some (.slice 44):=Try.underlying23
theorem px:cH Try.prog 22:=⟨⟨_,Try.underlying22,rfl⟩,⟨Try.t22,by kernel_rfl,by kernel_rfl⟩⟩
theorem nw:cH Try.prog 73:=⟨⟨_,Try.underlying73,rfl⟩,⟨Try.t73,by kernel_rfl,by kernel_rfl⟩⟩
theorem fl:qx Try.prog 44 3 2 1:=⟨Try.underlying44,⟨Try.t3,by kernel_rfl,by kernel_rfl⟩⟩
theorem ax:cH Try.prog 3:=⟨⟨_,Try.underlying3,rfl⟩,⟨Try.t3,by kernel_rfl,by kernel_rfl⟩⟩
theorem qK:cG Try.prog 45:=⟨Try.call45⟩
theorem hU:ec Try.prog 23 44 2 16 ((cR .i64) A2.zero):=⟨Try.underlying23,⟨Try.t44,_,by kernel_rfl,rfl,rfl,rfl,rfl,by decide,rfl⟩⟩
theorem ny:iC Try.prog 44 2:=⟨⟨_,Try.underlying44,rfl⟩,⟨Try.t44,by kernel_rfl,by kernel_rfl⟩⟩
theorem goes47:cG Try.prog 47:=⟨Try.call47⟩
theorem goes54:cG Try.prog 54:=⟨Try.call54⟩
theorem q8:hY Try.prog 73 [.raw .nilFunc]:=⟨⟨Try.t73,_,by kernel_rfl,rfl,rfl⟩⟩
theorem goes46:cG Try.prog 46:=⟨Try.call46⟩
theorem fU:kB Try.prog 52 0 0 50:=⟨⟨_,_,Try.t50,Try.underlying52,rfl,rfl,rfl,by kernel_rfl,by decide⟩⟩
theorem jo:cH Try.prog 50:=⟨⟨_,Try.underlying50,rfl⟩,⟨Try.t50,by kernel_rfl,by kernel_rfl⟩⟩
theorem kV:Try.prog.underlying 50 = some (.map 3 3):=Try.underlying50
theorem dy:mP Try.prog 50 3 3 .i64 (.i 0):=⟨Try.underlying50,Try.underlying3,⟨Try.t3,_,by kernel_rfl,rfl,fun _=>⟨rfl,by decide,by decide⟩⟩⟩
theorem cA:iC Try.prog 52 1:=⟨⟨_,Try.underlying52,rfl⟩,⟨Try.t52,by kernel_rfl,by kernel_rfl⟩⟩
theorem k4:cG Try.prog 48:=⟨Try.call48⟩
theorem ra:hY Try.prog 44 ((cR .i64) A2.zero):=⟨⟨Try.t44,_,by kernel_rfl,rfl,rfl⟩⟩
theorem kX:ec Try.prog 22 4 1 1 [.bool false]:=⟨Try.underlying22,⟨Try.t4,_,by kernel_rfl,rfl,rfl,rfl,rfl,by decide,rfl⟩⟩
theorem lZ:cH Try.prog 4:=⟨⟨_,Try.underlying4,rfl⟩,⟨Try.t4,by kernel_rfl,by kernel_rfl⟩⟩
theorem ak:ec Try.prog 30 3 1 8 [.i 0]:=⟨Try.underlying30,⟨Try.t3,_,by kernel_rfl,rfl,rfl,rfl,rfl,by decide,rfl⟩⟩
theorem mixed:Try.prog.follows .mixedOrders = true:=by kernel_rfl
theorem gV:hY Try.prog 52 [.raw (.map none)]:=⟨⟨Try.t52,_,by kernel_rfl,rfl,rfl⟩⟩
theorem mS:lU Try.prog 52 [(0,1)] [.raw (.map none)]:=⟨⟨Try.t52,_,_,by kernel_rfl,rfl,rfl,Try.underlying52,by kernel_rfl⟩⟩
theorem qJ:cG Try.prog 49:=⟨Try.call49⟩
theorem qL:cG Try.prog 44:=⟨Try.call44⟩
theorem ns:cG Try.prog 50:=⟨Try.call50⟩
theorem gx:Try.prog.underlying 26 = some (.slice 30):=Try.underlying26
theorem bH:ec Try.prog 26 30 1 24 [.nil]:=⟨Try.underlying26,⟨Try.t30,_,by kernel_rfl,rfl,rfl,rfl,rfl,by decide,rfl⟩⟩
theorem aT:cH Try.prog 30:=⟨⟨_,Try.underlying30,rfl⟩,⟨Try.t30,by kernel_rfl,by kernel_rfl⟩⟩
theorem k5:cG Try.prog 29:=⟨Try.call29⟩
theorem oN:cG Try.prog 30:=⟨Try.call30⟩
theorem oM:cG Try.prog 31:=⟨Try.call31⟩
theorem jT:ec Try.prog 56 58 1 24 [.nil]:=⟨Try.underlying56,⟨Try.t58,_,by kernel_rfl,rfl,rfl,rfl,rfl,by decide,rfl⟩⟩
theorem jm:cH Try.prog 58:=⟨⟨_,Try.underlying58,rfl⟩,⟨Try.t58,by kernel_rfl,by kernel_rfl⟩⟩
theorem mR:lU Try.prog 60 [(0,1),(1,1)] [.i 0,.i 0]:=⟨⟨Try.t60,_,_,by kernel_rfl,rfl,rfl,Try.underlying60,by kernel_rfl⟩⟩
theorem kW:ec Try.prog 58 60 2 16 [.i 0,.i 0]:=⟨Try.underlying58,⟨Try.t60,_,by kernel_rfl,rfl,rfl,rfl,rfl,by decide,rfl⟩⟩
theorem qO:cG Try.prog 32:=⟨Try.call32⟩
theorem und58:Try.prog.underlying 58 = some (.slice 60):=Try.underlying58
theorem lP:iC Try.prog 60 2:=⟨⟨_,Try.underlying60,rfl⟩,⟨Try.t60,by kernel_rfl,by kernel_rfl⟩⟩
theorem nU:hY Try.prog 60 [.i 0,.i 0]:=⟨⟨Try.t60,_,by kernel_rfl,rfl,rfl⟩⟩
theorem dJ:kB Try.prog 60 0 0 3:=⟨⟨_,_,Try.t3,Try.underlying60,rfl,rfl,rfl,by kernel_rfl,by decide⟩⟩
theorem qI:cG Try.prog 52:=⟨Try.call52⟩
theorem goes35:cG Try.prog 35:=⟨Try.call35⟩
theorem nt:cG Try.prog 34:=⟨Try.call34⟩
theorem oL:cG Try.prog 77:=⟨Try.call77⟩
theorem goes70:cG Try.prog 70:=⟨Try.call70⟩
theorem nr:cG Try.prog 58:=⟨Try.call58⟩
theorem qG:cG Try.prog 57:=⟨Try.call57⟩
theorem goes51:cG Try.prog 51:=⟨Try.call51⟩
theorem qQ:cG Try.prog 13:=⟨Try.call13⟩
theorem cj:hY Try.prog 30 [.nil]:=⟨⟨Try.t30,_,by kernel_rfl,rfl,rfl⟩⟩
theorem qR:cG Try.prog 12:=⟨Try.call12⟩
theorem goes33:cG Try.prog 33:=⟨Try.call33⟩
theorem pv:cH Try.prog 56:=⟨⟨_,Try.underlying56,rfl⟩,⟨Try.t56,by kernel_rfl,by kernel_rfl⟩⟩
theorem lb:kB Try.prog 60 1 1 3:=⟨⟨_,_,Try.t3,Try.underlying60,rfl,rfl,rfl,by kernel_rfl,by decide⟩⟩
theorem nv:cH Try.prog 80:=⟨⟨_,Try.underlying80,rfl⟩,⟨Try.t80,by kernel_rfl,by kernel_rfl⟩⟩
theorem qH:cG Try.prog 53:=⟨Try.call53⟩
theorem q9:hY Try.prog 56 [.nil]:=⟨⟨Try.t56,_,by kernel_rfl,rfl,rfl⟩⟩
theorem tyZero3:hY Try.prog 3 [.i 0]:=⟨⟨Try.t3,_,by kernel_rfl,rfl,rfl⟩⟩
theorem q7:hY Try.prog 80 [.raw .nilFunc]:=⟨⟨Try.t80,_,by kernel_rfl,rfl,rfl⟩⟩
theorem qN:cG Try.prog 39:=⟨Try.call39⟩
theorem und41:Try.prog.underlying 41 = some (.slice 26):=Try.underlying41
theorem iP:ec Try.prog 41 26 1 24 [.nil]:=⟨Try.underlying41,⟨Try.t26,_,by kernel_rfl,rfl,rfl,rfl,rfl,by decide,rfl⟩⟩
theorem tyOne26:cH Try.prog 26:=⟨⟨_,Try.underlying26,rfl⟩,⟨Try.t26,by kernel_rfl,by kernel_rfl⟩⟩
theorem k7:cG Try.prog 19:=⟨Try.call19⟩
theorem fb:od Try.prog 44 1 ((cR .i64) A2.zero):=⟨⟨Try.t44,_,_,_,Try.t3,by kernel_rfl,rfl,rfl,Try.underlying44,by kernel_rfl,by kernel_rfl⟩⟩
theorem goes14:cG Try.prog 14:=⟨Try.call14⟩
theorem goes20:cG Try.prog 20:=⟨Try.call20⟩
theorem goes22:cG Try.prog 22:=⟨Try.call22⟩
theorem goes21:cG Try.prog 21:=⟨Try.call21⟩
theorem k6:cG Try.prog 27:=⟨Try.call27⟩
theorem jX:cG Try.prog 18:=⟨Try.call18⟩
theorem qP:cG Try.prog 28:=⟨Try.call28⟩
theorem goes40:cG Try.prog 40:=⟨Try.call40⟩
theorem qM:cG Try.prog 41:=⟨Try.call41⟩
theorem goes42:cG Try.prog 42:=⟨Try.call42⟩
theorem goes43:cG Try.prog 43:=⟨Try.call43⟩
theorem goes26:cG Try.prog 26:=⟨Try.call26⟩
theorem oO:cG Try.prog 11:=⟨Try.call11⟩
def iz (F:Nat) (x0:Int):Option Int :=
 Option.bind (if (decide (4294967296 ≤ x0)) = true then (some (x0 / 4294967296,32)) else (some (x0,0))) (cg fun x_1 n_2=>Option.bind (if (decide (65536 ≤ x_1)) = true then (some (x_1 / 65536,IntKind.i64.wrap (n_2 + 16))) else (some (x_1,n_2))) (cg fun x_3 n_4=>Option.bind (if (decide (256 ≤ x_3)) = true then (some (x_3 / 256,IntKind.i64.wrap (n_4 + 8))) else (some (x_3,n_4))) (cg fun x_5 n_6=>(aV ([0,1,2,2,3,3,3,3,4,4,4,4,4,4,4,4,5,5,5,5,5,5,5,5,5,5,5,5,5,5,5,5,6,6,6,6,6,6,6,6,6,6,6,6,6,6,6,6,6,6,6,6,6,6,6,6,6,6,6,6,6,6,6,6,7,7,7,7,7,7,7,7,7,7,7,7,7,7,7,7,7,7,7,7,7,7,7,7,7,7,7,7,7,7,7,7,7,7,7,7,7,7,7,7,7,7,7,7,7,7,7,7,7,7,7,7,7,7,7,7,7,7,7,7,7,7,7,7,8,8,8,8,8,8,8,8,8,8,8,8,8,8,8,8,8,8,8,8,8,8,8,8,8,8,8,8,8,8,8,8,8,8,8,8,8,8,8,8,8,8,8,8,8,8,8,8,8,8,8,8,8,8,8,8,8,8,8,8,8,8,8,8,8,8,8,8,8,8,8,8,8,8,8,8,8,8,8,8,8,8,8,8,8,8,8,8,8,8,8,8,8,8,8,8,8,8,8,8,8,8,8,8,8,8,8,8,8,8,8,8,8,8,8,8,8,8,8,8,8,8,8,8,8,8,8,8]:Str) (IntKind.u8.wrap x_5)).bind fun x_7=>fB (IntKind.i64.wrap (n_6 + (IntKind.i64.wrap (x_7.toNat:Int)))) fun x_8=>some x_8)))
theorem lO {F:Nat} {x0:Int} {r:Int} (h:iz F x0 = some r):ar Try.prog [] 69 [] [.one (.int .u64 x0)] (Is [] (.b (.one (.i r)))):=by
 unfold iz at h
 refine ar.intro 25 Try.func69 Try.ntmps69 rfl (by simp) fun E=>?_
 show ab _ E ⟨25,[],[],[]⟩ _ ⟨[(0,.b (.one (.int .u64 x0)))],[]⟩ _
 refine ab.seq (ab.aa ?_)
 refine Oc oa (ae.ag ⟨[(0,.b (.one (.int .u64 x0))),(2,I 0)],[]⟩ rfl ?_)
 obtain ⟨v1,h2,h⟩:=aF h
 refine ab.bZ (v:=v1) (cg fun (x_1:Int) (n_2:Int)=>⟨[(0,.b (.one (.int .u64 x_1))),(2,I n_2)],[]⟩) (fun z=>z) ?_ ?_
 ·refine ab.seq (ab.aa ?_)
  refine Oc om (Oc (jW rfl rfl) ?_)
  refine ae.ag ⟨[(0,_),(2,_),(4,B (decide (4294967296 ≤ x0)))],[]⟩ rfl (ab.ite h2 rfl (fun _ h2=>?_) (fun _ h2=>?_))
  ·refine ab.seq (ab.aa ?_)
   refine Oc om (Oc (ig (m:=32) (by decide) rfl rfl rfl) (Oc oa ?_))
   refine ae.ag ⟨[(0,.b (.one (.int .u64 (x0 / 4294967296))))],[]⟩ rfl (ab.aa (Oc oa (ae.nil ?_)))
   exact Fin.join [0,2] [] (x0 / 4294967296,32) (Option.some.inj h2) rfl
  ·refine ab.skip ?_
   exact Fin.join [0,2] [] (x0,0) (Option.some.inj h2) rfl
 ·rintro ⟨x_1,n_2⟩ hv
  subst v1
  obtain ⟨v3,h4,h⟩:=aF h
  refine ab.bZ (v:=v3) (cg fun (x_3:Int) (n_4:Int)=>⟨[(0,.b (.one (.int .u64 x_3))),(2,I n_4)],[]⟩) (fun z=>z) ?_ ?_
  ·refine ab.seq (ab.aa ?_)
   refine Oc om (Oc (jW rfl rfl) ?_)
   refine ae.ag ⟨[(0,_),(2,_),(8,B (decide (65536 ≤ x_1)))],[]⟩ rfl (ab.ite h4 rfl (fun _ h4=>?_) (fun _ h4=>?_))
   ·refine ab.seq (ab.aa ?_)
    refine Oc om (Oc (ig (m:=16) (by decide) rfl rfl rfl) (Oc oa ?_))
    refine ae.ag ⟨[(0,.b (.one (.int .u64 (x_1 / 65536)))),(2,_)],[]⟩ rfl (ab.aa (Oc om (Oc (aX rfl rfl) (Oc oa ?_))))
    refine ae.nil ?_
    exact Fin.join [0,2] [] (x_1 / 65536,IntKind.i64.wrap (n_2 + 16)) (Option.some.inj h4) rfl
   ·refine ab.skip ?_
    exact Fin.join [0,2] [] (x_1,n_2) (Option.some.inj h4) rfl
  ·rintro ⟨x_3,n_4⟩ hv
   subst v3
   obtain ⟨v5,h6,h⟩:=aF h
   refine ab.bZ (v:=v5) (cg fun (x_5:Int) (n_6:Int)=>⟨[(0,.b (.one (.int .u64 x_5))),(2,I n_6)],[]⟩) (fun z=>z) ?_ ?_
   ·refine ab.seq (ab.aa ?_)
    refine Oc om (Oc (jW rfl rfl) ?_)
    refine ae.ag ⟨[(0,_),(2,_),(14,B (decide (256 ≤ x_3)))],[]⟩ rfl (ab.ite h6 rfl (fun _ h6=>?_) (fun _ h6=>?_))
    ·refine ab.seq (ab.aa ?_)
     refine Oc om (Oc (ig (m:=8) (by decide) rfl rfl rfl) (Oc oa ?_))
     refine ae.ag ⟨[(0,.b (.one (.int .u64 (x_3 / 256)))),(2,_)],[]⟩ rfl (ab.aa (Oc om (Oc (aX rfl rfl) (Oc oa ?_))))
     refine ae.nil ?_
     exact Fin.join [0,2] [] (x_3 / 256,IntKind.i64.wrap (n_4 + 8)) (Option.some.inj h6) rfl
    ·refine ab.skip ?_
     exact Fin.join [0,2] [] (x_3,n_4) (Option.some.inj h6) rfl
   ·rintro ⟨x_5,n_6⟩ hv
    subst v5
    refine ab.seq (ab.aa ?_)
    refine Oc om (Oc om (Oc (bR undi97 undi5 rfl) ?_))
    obtain ⟨x_7,e7,h⟩:=aF h
    refine Oc (nJ und9 rfl rfl (aG e7) (oJ e7)) (Oc (bR undi5 iB rfl) ?_)
    refine ae.gU .i64 h rfl (aX rfl rfl) (fun x_8 h=>?_)
    refine Oc oa (ae.ag ⟨[(2,I x_8)],[]⟩ rfl (ab.ret ?_))
    obtain rfl:=Option.some.inj h
    refine Fin.af ⟨[(2,_)],[]⟩ rfl (Fin.a6 [.one (.i x_8)] (.inl rfl) rfl (.cons (.tmp rfl) .nil) ⟨rfl,rfl⟩)
def j9 (F:Nat) (x0:Int):Option Int :=
 (iz F x0).bind fun x_1=>some x_1
theorem mJ {F:Nat} {x0:Int} {r:Int} (h:j9 F x0 = some r):ar Try.prog [] 56 [] [.one (.int .u64 x0)] (Is [] (.b (.one (.i r)))):=by
 unfold j9 at h
 refine ar.intro 8 Try.func56 Try.ntmps56 rfl (by simp) fun E=>?_
 show ab _ E ⟨8,[],[],[]⟩ _ ⟨[(0,.b (.one (.int .u64 x0)))],[]⟩ _
 refine ab.seq (ab.aa ?_)
 refine Oc oa (ae.ag ⟨[(0,.b (.one (.int .u64 x0)))],[]⟩ rfl (ab.seq (ab.condFc (ab.skip (Fin.af ⟨[(0,_)],[]⟩ rfl ?_)))))
 refine Fin.then (ab.seq (ab.aa ?_))
 refine Oc om ?_
 obtain ⟨x_1,e1,h⟩:=aF h
 refine Oc (aP (lO e1) goes69 rfl rfl) (Oc oa ?_)
 refine ae.ag ⟨[(2,I x_1)],[]⟩ rfl (ab.ret ?_)
 obtain rfl:=Option.some.inj h
 refine Fin.af ⟨[(2,_)],[]⟩ rfl (Fin.a6 [.one (.i x_1)] (.inl rfl) rfl (.cons (.tmp rfl) .nil) ⟨rfl,rfl⟩)
def dq (F:Nat):Option Unit :=
 Option.bind (iter F (fun _=>some (.inr ())) ()) (fun _=>some ())
theorem gu {F:Nat} {r:Unit} (h:dq F = some r):ar Try.prog [] 59 [] [.one (.nil),.one (.i 0),.one (.i 0)] (Is [] (.eo [])):=by
 unfold dq at h
 refine ar.intro 49 Try.func59 Try.ntmps59 rfl (by simp) fun E=>?_
 show ab _ E ⟨49,[],[],[]⟩ _ ⟨[(0,.b (.one (.nil))),(1,I 0),(2,I 0)],[]⟩ _
 refine ab.seq (ab.aa ?_)
 refine Oc om (Oc (aX rfl rfl) (Oc oa ?_))
 refine ae.ag ⟨[(0,.b (.one (.nil))),(1,I 0),(2,I 0),(6,I 1)],[]⟩ rfl (ab.block ?_)
 obtain ⟨v1,h2,h⟩:=aF h
 refine ab.b9 h2 (fun (_:Unit)=>⟨[(0,.b (.one (.nil))),(1,I 0),(2,I 0),(6,I 1)],[]⟩) [0,1,2,6] [] rfl ?_
 rintro _ o3 h4 hy5
 refine ab.seq (ab.seq (ab.aa ?_))
 refine Oc om (Oc om (Oc (bh rfl rfl) ?_))
 refine ae.ag ⟨[(0,_),(1,_),(2,_),(6,_),(12,B false)],[]⟩ rfl (ab.qw rfl (ab.exit (Fin.ah ?_)))
 obtain rfl:=hy5 _ (Option.some.inj h4).symm
 refine Fin.ah (Fin.ay ?_)
 obtain rfl:=Option.some.inj h
 refine Fin.af ⟨[],[]⟩ rfl (Fin.a6 [] (.inr rfl) rfl (.nil) ⟨rfl,rfl⟩)
def cV (F:Nat):Nat → Int → Option Unit
 | 0,_=>none
 | n + 1,limit0=>Option.bind (iter F (fun _=>(dq F).bind fun u_1=>some (.inr ())) ()) (fun y=>some y)
def fG (F:Nat) (limit0:Int):Option Unit:=cV F F limit0
theorem gO {F:Nat}:∀ (n:Nat) {limit0:Int} {r:Unit} (h:cV F n limit0 = some r),ar Try.prog [] 55 [] [.one (.nil),.one (.i 0),.one (.i 0),.one (.i limit0)] (Is [] (.eo [])):=by
 intro n
 induction n with
 | zero=>intro limit0 r h; simp [cV] at h
 | succ n ih=>
 intro limit0 r h
 unfold cV at h
 refine ar.intro 134 Try.func55 Try.ntmps55 rfl (by simp) fun E=>?_
 show ab _ E ⟨134,[],[],[]⟩ _ ⟨[(0,.b (.one (.nil))),(1,I 0),(2,I 0),(3,I limit0)],[]⟩ _
 refine ab.seq (ab.aa ?_)
 refine Oc oa (ae.ag ⟨[(0,.b (.one (.nil))),(1,I 0),(2,I 0),(3,I limit0),(8,B true)],[]⟩ rfl (ab.seq (ab.aa ?_)))
 refine Oc oa (ae.ag ⟨[(0,_),(1,_),(2,_),(3,_),(8,_),(9,B true)],[]⟩ rfl (ab.block ?_))
 obtain ⟨v1,h2,h⟩:=aF h
 refine ab.b9 h2 (fun (_:Unit)=>⟨[(0,.b (.one (.nil))),(1,I 0),(2,I 0),(3,I limit0),(8,B true),(9,B true)],[]⟩) [0,1,2,3,8,9] [] rfl ?_
 rintro _ o3 h4 hy5
 refine ab.block (ab.seq (ab.aa ?_))
 refine Oc om (Oc om (Oc (cE rfl rfl) (Oc oa ?_)))
 refine ae.ag ⟨[(0,_),(1,_),(2,_),(3,_),(8,_),(9,_),(10,I 0)],[]⟩ rfl (ab.seq (ab.seq (ab.aa ?_)))
 refine Oc om (Oc (ni rfl rfl) ?_)
 refine ae.ag ⟨[(0,_),(1,_),(2,_),(3,_),(8,_),(9,_),(10,_),(23,B true)],[]⟩ rfl (ab.qv rfl (ab.seq (ab.aa ?_)))
 refine Oc om (Oc om (Oc om ?_))
 obtain ⟨u_1,e6,h4⟩:=aF h4
 refine Oc (aP (gu e6) goes59 rfl rfl) (ae.ag ⟨[],[]⟩ rfl (ab.ret (Fin.aO (Fin.cC ?_))))
 obtain rfl:=hy5 _ (Option.some.inj h4).symm
 refine Fin.aO (Fin.cC ?_)
 obtain rfl:=Option.some.inj h
 refine Fin.af ⟨[],[]⟩ rfl (Fin.a6 [] (.inl rfl) rfl (.nil) ⟨rfl,rfl⟩)
theorem hO {F:Nat} {limit0:Int} {r:Unit} (h:fG F limit0 = some r):ar Try.prog [] 55 [] [.one (.nil),.one (.i 0),.one (.i 0),.one (.i limit0)] (Is [] (.eo [])):=gO F h
def gG (F:Nat):Option Unit :=
 (j9 F (IntKind.u64.wrap 0)).bind fun x_1=>(fG F x_1).bind fun u_2=>some ()
theorem jl {F:Nat} {r:Unit} (h:gG F = some r):ar Try.prog [] 50 [] [.one (.nil)] (Is [] (.eo [])):=by
 unfold gG at h
 refine ar.intro 11 Try.func50 Try.ntmps50 rfl (by simp) fun E=>?_
 show ab _ E ⟨11,[],[],[]⟩ _ ⟨[(0,.b (.one (.nil)))],[]⟩ _
 refine ab.seq (ab.aa ?_)
 refine Oc om (Oc (oZ eW rfl) (Oc oa ?_))
 refine ae.ag ⟨[(0,.b (.one (.nil))),(2,I 0)],[]⟩ rfl (ab.aa (Oc om (Oc om (Oc om (Oc (bR iB gb rfl) ?_)))))
 obtain ⟨x_1,e1,h⟩:=aF h
 refine Oc (aP (mJ e1) goes56 rfl rfl) ?_
 obtain ⟨u_2,e2,h⟩:=aF h
 refine Oc (aP (hO e2) goes55 rfl rfl) (ae.nil ?_)
 obtain rfl:=Option.some.inj h
 refine Fin.af ⟨[],[]⟩ rfl (Fin.a6 [] (.inr rfl) rfl (.nil) ⟨rfl,rfl⟩)
theorem lA:ar Try.prog [] 50 [] [.one .nil] (Is [] (.eo [])):=jl (F:=3) (r:=()) (by rfl)
def cL (F:Nat) (zs:List Int):Option (List Int):=iQ zs
theorem dM {F:Nat} {zs r:List Int} (h:cL F zs = some r):ar Try.prog [] 50 [(1,.cp 3 1 (zs.map eI))] [.row 1] (Is [(1,.cp 3 1 (r.map eI))] (.eo [])):=ov Try.lays189 lA h
def dk (F:Nat) (n0:Int) (v0c:List Bool):Option Bool :=
 some ((decide (n0 < 0)) || (decide ((v0c.length:Int) ≤ n0)))
theorem eZ {F:Nat} {n0:Int} {v0c:List Bool} {r:Bool} (h:dk F n0 v0c = some r):ar Try.prog [] 45 [] [.one (.i n0),.cz [.sl 1 (v0c.map eB)]] (Is [] (.b (.one (.bool r)))):=by
 unfold dk at h
 refine ar.intro 12 Try.func45 Try.ntmps45 rfl (by simp) fun E=>?_
 show ab _ E ⟨12,[],[],[]⟩ _ ⟨[(0,I n0),(1,.b (.cz [.sl 1 (v0c.map eB)]))],[]⟩ _
 refine ab.seq (ab.aa ?_)
 refine Oc oa (ae.ag ⟨[(0,I n0),(1,.b (.cz [.sl 1 (v0c.map eB)]))],[]⟩ rfl (ab.seq (ab.aa ?_)))
 refine Oc om (Oc (bh rfl rfl) (Oc om ?_))
 refine oz (!(decide (n0 < 0))) [] (fun g1=>trivial) (fun g1=>om) (oz (!(decide (n0 < 0))) [] (fun g2=>by exact trivial) (fun g2=>aB px rfl rfl) (oz (!(decide (n0 < 0))) [8] (fun g3=>by exact ⟨g3,trivial⟩) (fun g3=>az dx rfl (List.length_map _)) (ae.af ⟨[(6,B (decide (n0 < 0))),(7,.opt (!(decide (n0 < 0))) (.one (.i n0))),(9,.opt (!(decide (n0 < 0))) (.one (.i (v0c.length:Int))))],[]⟩ rfl (oz (!(decide (n0 < 0))) [7,9] (fun g4=>by exact ⟨g4,g4,trivial⟩) (fun g4=>jW rfl rfl) (Oc (il (fun e=>by first | (rw [e]; rfl) | (simp only at e; rw [e]; rfl)) rfl rfl rfl rfl) (Oc oa ?_))))))
 refine ae.ag ⟨[(3,B ((decide (n0 < 0)) || (decide ((v0c.length:Int) ≤ n0))))],[]⟩ rfl (ab.ret ?_)
 obtain rfl:=Option.some.inj h
 refine Fin.af ⟨[(3,_)],[]⟩ rfl (Fin.a6 [.one (.bool ((decide (n0 < 0)) || (decide ((v0c.length:Int) ≤ n0))))] (.inl rfl) rfl (.cons (.tmp rfl) .nil) ⟨rfl,rfl⟩)
def en (F:Nat) (l0:A2) (v0c:List Bool):Option Bool :=
 (dk F l0.a0 v0c).bind fun x_1=>(cw (!x_1) (dk F l0.a1 v0c)).bind fun x_2=>some ((x_1 || x_2) || (decide (l0.a0 = l0.a1)))
theorem iJ {F:Nat} {l0:A2} {v0c:List Bool} {r:Bool} (h:en F l0 v0c = some r):ar Try.prog [] 47 [] [.agg ((cR .i64) l0),.cz [.bS 45 [CP.rp [.sl 1 (v0c.map eB)]]]] (Is [] (.b (.one (.bool r)))):=by
 unfold en at h
 refine ar.intro 21 Try.func47 Try.ntmps47 rfl (by simp) fun E=>?_
 show ab _ E ⟨21,[],[],[]⟩ _ ⟨[(0,.b (.agg ((cR .i64) l0))),(1,.b (.cz [.bS 45 [CP.rp [.sl 1 (v0c.map eB)]]]))],[]⟩ _
 refine ab.seq (ab.aa ?_)
 refine Oc (op_box (k:=101) rfl rfl) (Oc oa ?_)
 refine ae.ag ⟨[(1,.b (.cz [.bS 45 [CP.rp [.sl 1 (v0c.map eB)]]])),(2,Pt 101 0)],[(101,.box 44 ((cR .i64) l0))]⟩ rfl (ab.seq (ab.aa ?_))
 refine Oc (aB nw rfl rfl) (Oc (fi fl (by decide) (by decide) rfl rfl rfl) (Oc (bp ax rfl rfl rfl) ?_))
 obtain ⟨x_1,e1,h⟩:=aF h
 refine Oc (gh (pss:=[[.sl 1 (v0c.map eB)]]) (eZ e1) qK rfl rfl rfl trivial rfl rfl) (Oc om ?_)
 refine ae.af ⟨[(1,_),(2,_),(8,B x_1)],[(101,_)]⟩ rfl (oz (!x_1) [] (fun g2=>trivial) (fun g2=>aB nw rfl rfl) (oz (!x_1) [] (fun g3=>trivial) (fun g3=>fi fl (by decide) (by decide) rfl rfl rfl) (oz (!x_1) [10] (fun g4=>⟨g4,trivial⟩) (fun g4=>bp ax rfl rfl rfl) ?_)))
 obtain ⟨x_2,e6,h⟩:=aF h
 refine oz (!x_1) [9,11] (fun g5=>⟨g5,g5,trivial⟩) (fun g5=>gh (pss:=[[.sl 1 (v0c.map eB)]]) (eZ (gc e6 g5)) qK rfl rfl rfl trivial rfl rfl) (Oc (il (fun e=>by first | (rw [e]; rfl) | (simp only at e; rw [e]; rfl)) rfl rfl rfl rfl) (Oc om ?_))
 refine ae.af ⟨[(2,_),(14,B (x_1 || x_2))],[(101,_)]⟩ rfl (oz (!(x_1 || x_2)) [] (fun g7=>trivial) (fun g7=>fi fl (by decide) (by decide) rfl rfl rfl) (oz (!(x_1 || x_2)) [15] (fun g8=>⟨g8,trivial⟩) (fun g8=>bp ax rfl rfl rfl) (oz (!(x_1 || x_2)) [] (fun g9=>trivial) (fun g9=>fi fl (by decide) (by decide) rfl rfl rfl) (oz (!(x_1 || x_2)) [17] (fun g10=>⟨g10,trivial⟩) (fun g10=>bp ax rfl rfl rfl) (oz (!(x_1 || x_2)) [16,18] (fun g11=>⟨g11,g11,trivial⟩) (fun g11=>dB rfl rfl) ?_)))))
 refine Oc (il (fun e=>by first | (rw [e]; rfl) | (simp only at e; rw [e]; rfl)) rfl rfl rfl rfl) (Oc oa ?_)
 refine ae.ag ⟨[(3,B ((x_1 || x_2) || (decide (l0.a0 = l0.a1))))],[]⟩ rfl (ab.ret ?_)
 obtain rfl:=Option.some.inj h
 refine Fin.af ⟨[(3,_)],[]⟩ rfl (Fin.a6 [.one (.bool ((x_1 || x_2) || (decide (l0.a0 = l0.a1))))] (.inl rfl) rfl (.cons (.tmp rfl) .nil) ⟨rfl,rfl⟩)
def ef (F:Nat) (s0:List A2) (f0:List Bool):Option Int :=
 Option.bind (iter F (fun x_1=>if (decide (x_1 < (s0.length:Int))) = true then ((aV s0 x_1).bind fun x_2=>(en F x_2 f0).bind fun x_3=>if x_3 = true then (some (.inr (.inr x_1))) else (some (.inl (IntKind.i64.wrap (x_1 + 1))))) else (some (.inr (.inl ())))) 0) (iH (fun _=>some (-1)) (fun y=>some y))
theorem iI {F:Nat} {s0:List A2} {f0:List Bool} {r:Int} (h:ef F s0 f0 = some r):ar Try.prog [] 54 [] [.one (.sl 2 (s0.map (cR .i64))),.one (.bS 47 [CP.rp [.bS 45 [CP.rp [.sl 1 (f0.map eB)]]]])] (Is [] (.b (.one (.i r)))):=by
 unfold ef at h
 refine ar.intro 19 Try.func54 Try.ntmps54 rfl (by simp) fun E=>?_
 show ab _ E ⟨19,[],[],[]⟩ _ ⟨[(0,.b (.one (.sl 2 (s0.map (cR .i64))))),(1,.b (.one (.bS 47 [CP.rp [.bS 45 [CP.rp [.sl 1 (f0.map eB)]]]])))],[]⟩ _
 refine ab.seq (ab.aa ?_)
 refine Oc oa (ae.ag ⟨[(0,.b (.one (.sl 2 (s0.map (cR .i64))))),(1,.b (.one (.bS 47 [CP.rp [.bS 45 [CP.rp [.sl 1 (f0.map eB)]]]])))],[]⟩ rfl ?_)
 obtain ⟨v1,h2,h⟩:=aF h
 refine ab.bZ (v:=v1) (fun (_:Unit)=>⟨[],[]⟩) (fun z=>.inl z) ?_ ?_
 ·refine ab.seq (ab.aa ?_)
  refine Oc om (Oc (az qo rfl (List.length_map _)) (Oc om ?_))
  refine ae.ag ⟨[(0,_),(1,_),(7,I (s0.length:Int)),(8,I 0)],[]⟩ rfl (ab.block (ab.b9 h2 (fun (x_1:Int)=>⟨[(0,.b (.one (.sl 2 (s0.map (cR .i64))))),(1,.b (.one (.bS 47 [CP.rp [.bS 45 [CP.rp [.sl 1 (f0.map eB)]]]]))),(7,I (s0.length:Int)),(8,I x_1)],[]⟩) [0,1,7,8] [] rfl ?_))
  rintro x_1 o3 h4 hy5
  refine ab.seq (ab.aa ?_)
  refine Oc (bh rfl rfl) (ae.ag ⟨[(0,_),(1,_),(7,_),(8,_),(9,B (decide (x_1 < (s0.length:Int))))],[]⟩ rfl (ab.seq (ab.ite h4 rfl (fun _ h4=>?_) (fun _ h4=>?_))))
  ·refine ab.skip (Fin.af ⟨[(0,_),(1,_),(7,_),(8,_)],[]⟩ rfl (Fin.then (ab.seq (ab.block (ab.seq (ab.aa ?_))))))
   refine Oc om (Oc oa ?_)
   refine ae.ag ⟨[(0,_),(1,_),(5,I x_1),(7,_),(8,_)],[]⟩ rfl (ab.seq (ab.aa ?_))
   refine Oc om (Oc om (Oc om ?_))
   obtain ⟨x_2,e6,h4⟩:=aF h4
   refine Oc (aH hU (aG e6) (aD (e:=(cR .i64)) e6) rfl rfl) (Oc (jw ny rfl rfl rfl) ?_)
   obtain ⟨x_3,e7,h4⟩:=aF h4
   refine Oc (gh (pss:=[[.bS 45 [CP.rp [.sl 1 (f0.map eB)]]]]) (iJ e7) goes47 rfl rfl rfl trivial rfl rfl) (ae.ag ⟨[(0,_),(1,_),(5,_),(7,_),(8,_),(16,B x_3)],[]⟩ rfl (ab.ite h4 rfl (fun _ h4=>?_) (fun _ h4=>?_)))
   ·refine ab.seq (ab.aa ?_)
    refine Oc om (Oc oa ?_)
    refine ae.ag ⟨[(4,I x_1)],[]⟩ rfl (ab.ret (Fin.cC (Fin.aO ?_)))
    obtain rfl:=hy5 _ (Option.some.inj h4).symm
    refine Fin.aO (Fin.cC (Fin.aO ?_))
    obtain rfl:=Option.some.inj h
    refine Fin.af ⟨[(4,_)],[]⟩ rfl (Fin.a6 [.one (.i x_1)] (.inl rfl) rfl (.cons (.tmp rfl) .nil) ⟨rfl,rfl⟩)
   ·refine ab.skip (Fin.ai (Fin.af ⟨[(0,_),(1,_),(7,_),(8,_)],[]⟩ rfl (Fin.then (ab.aa ?_))))
    refine Oc (aX rfl rfl) (Oc om ?_)
    refine ae.nil ?_
    exact Fin.bw [0,1,7,8] [] (IntKind.i64.wrap (x_1 + 1)) (Option.some.inj h4) rfl
  ·refine ab.exit (Fin.ah ?_)
   obtain rfl:=hy5 _ (Option.some.inj h4).symm
   refine Fin.ah (Fin.ay ?_)
   exact Fin.join [] [] () rfl rfl
 ·rintro _ hv
  subst v1
  refine ab.seq (ab.aa ?_)
  refine Oc oa (ae.ag ⟨[(4,I (-1))],[]⟩ rfl (ab.ret ?_))
  obtain rfl:=Option.some.inj h
  refine Fin.af ⟨[(4,_)],[]⟩ rfl (Fin.a6 [.one (.i (-1))] (.inl rfl) rfl (.cons (.tmp rfl) .nil) ⟨rfl,rfl⟩)
def dw (F:Nat) (s0:List A2) (f0:List Bool):Option Bool :=
 (ef F s0 f0).bind fun x_1=>some (decide (0 ≤ x_1))
theorem gP {F:Nat} {s0:List A2} {f0:List Bool} {r:Bool} (h:dw F s0 f0 = some r):ar Try.prog [] 46 [] [.one (.sl 2 (s0.map (cR .i64))),.one (.bS 47 [CP.rp [.bS 45 [CP.rp [.sl 1 (f0.map eB)]]]])] (Is [] (.b (.one (.bool r)))):=by
 unfold dw at h
 refine ar.intro 9 Try.func46 Try.ntmps46 rfl (by simp) fun E=>?_
 show ab _ E ⟨9,[],[],[]⟩ _ ⟨[(0,.b (.one (.sl 2 (s0.map (cR .i64))))),(1,.b (.one (.bS 47 [CP.rp [.bS 45 [CP.rp [.sl 1 (f0.map eB)]]]])))],[]⟩ _
 refine ab.seq (ab.aa ?_)
 refine Oc oa (ae.ag ⟨[(0,.b (.one (.sl 2 (s0.map (cR .i64))))),(1,.b (.one (.bS 47 [CP.rp [.bS 45 [CP.rp [.sl 1 (f0.map eB)]]]])))],[]⟩ rfl (ab.seq (ab.aa ?_)))
 refine Oc om (Oc om ?_)
 obtain ⟨x_1,e1,h⟩:=aF h
 refine Oc (aP (iI e1) goes54 rfl rfl) (Oc (jW rfl rfl) (Oc oa ?_))
 refine ae.ag ⟨[(4,B (decide (0 ≤ x_1)))],[]⟩ rfl (ab.ret ?_)
 obtain rfl:=Option.some.inj h
 refine Fin.af ⟨[(4,_)],[]⟩ rfl (Fin.a6 [.one (.bool (decide (0 ≤ x_1)))] (.inl rfl) rfl (.cons (.tmp rfl) .nil) ⟨rfl,rfl⟩)
def cc (F:Nat) (fixed0:List Bool) (links0:List A2):Option Bool :=
 (cw (decide ((fixed0.length:Int) ≤ 401)) (dw F links0 fixed0)).bind fun x_1=>some ((decide ((fixed0.length:Int) ≤ 401)) && (!x_1))
theorem cm {F:Nat} {fixed0:List Bool} {links0:List A2} {r:Bool} (h:cc F fixed0 links0 = some r):ar Try.prog [] 29 [] [.one (.sl 1 (fixed0.map eB)),.one (.sl 2 (links0.map (cR .i64)))] (Is [] (.b (.one (.bool r)))):=by
 unfold cc at h
 refine ar.intro 16 Try.func29 Try.ntmps29 rfl (by simp) fun E=>?_
 show ab _ E ⟨16,[],[],[]⟩ _ ⟨[(0,.b (.one (.sl 1 (fixed0.map eB)))),(1,.b (.one (.sl 2 (links0.map (cR .i64)))))],[]⟩ _
 refine ab.seq (ab.aa ?_)
 refine Oc (op_boxR rfl) (Oc oa ?_)
 refine ae.ag ⟨[(1,.b (.one (.sl 2 (links0.map (cR .i64))))),(2,.b (.cz [.sl 1 (fixed0.map eB)]))],[]⟩ rfl (ab.seq (ab.aa ?_))
 refine Oc (iv rfl) (Oc (bn (k:=101) q8 rfl) (Oc (fF nw rfl rfl rfl (Nat.le_of_ble_eq_true rfl) rfl) ?_))
 refine ae.fD 101 rfl (ae.ag ⟨[(1,_),(2,_),(5,.b (.cz [.bS 45 [CP.rp [.sl 1 (fixed0.map eB)]]]))],[]⟩ rfl (ab.seq (ab.aa ?_)))
 refine Oc (aB px rfl rfl) (Oc (az dx rfl (List.length_map _)) (Oc (ni rfl rfl) (Oc om ?_)))
 refine cX (decide ((fixed0.length:Int) ≤ 401)) [] (fun g1=>trivial) (fun g1=>om) (cX (decide ((fixed0.length:Int) ≤ 401)) [] (fun g2=>by exact trivial) (fun g2=>iv rfl) (ae.af ⟨[(10,B (decide ((fixed0.length:Int) ≤ 401))),(11,.opt (decide ((fixed0.length:Int) ≤ 401)) (.one (.sl 2 (links0.map (cR .i64))))),(12,.opt (decide ((fixed0.length:Int) ≤ 401)) (.one (.bS 47 [CP.rp [.bS 45 [CP.rp [.sl 1 (fixed0.map eB)]]]])))],[]⟩ rfl ?_))
 obtain ⟨x_1,e4,h⟩:=aF h
 refine cX (decide ((fixed0.length:Int) ≤ 401)) [11,12] (fun g3=>⟨g3,g3,trivial⟩) (fun g3=>aP (gP (gc e4 g3)) goes46 rfl rfl) (cX (decide ((fixed0.length:Int) ≤ 401)) [13] (fun g5=>⟨g5,trivial⟩) (fun g5=>dg rfl) (Oc (aY (fun e=>e) rfl rfl rfl rfl) (Oc oa ?_)))
 refine ae.ag ⟨[(4,B ((decide ((fixed0.length:Int) ≤ 401)) && (!x_1)))],[]⟩ rfl (ab.ret ?_)
 obtain rfl:=Option.some.inj h
 refine Fin.af ⟨[(4,_)],[]⟩ rfl (Fin.a6 [.one (.bool ((decide ((fixed0.length:Int) ≤ 401)) && (!x_1)))] (.inl rfl) rfl (.cons (.tmp rfl) .nil) ⟨rfl,rfl⟩)
def b6 (F:Nat):Nat → Int → bf → Option (Int × bf)
 | 0,_,_=>none
 | n + 1,x0,c0up=>if (!(ct c0up x0)) = true then (some (x0,cZ c0up x0 x0)) else (if (decide ((ca c0up x0) = x0)) = true then (some (x0,c0up)) else (Option.bind (b6 F n (ca c0up x0) c0up) (cg fun x_1 x_2=>some (x_1,cZ x_2 x0 x_1))))
def bJ (F:Nat) (x0:Int) (c0up:bf):Option (Int × bf):=b6 F F x0 c0up
theorem gv {F:Nat}:∀ (n:Nat) {x0:Int} {c0up:bf} {r:Int × bf} (h:b6 F n x0 c0up = some r),ar Try.prog [] 48 [(1,.mq c0up)] [.xa [.row 1],.one (.i x0)] (Is [(1,.mq r.2)] (.b (.one (.i r.1)))):=by
 intro n
 induction n with
 | zero=>intro x0 c0up r h; simp [b6] at h
 | succ n ih=>
 intro x0 c0up r h
 unfold b6 at h
 refine ar.intro 34 Try.func48 Try.ntmps48 rfl (by simp) fun E=>?_
 show ab _ E ⟨34,[1],[1],[]⟩ _ ⟨[(0,.b (.xa [.row 1])),(1,I x0)],[(1,.mq c0up)]⟩ _
 refine ab.seq (ab.aa ?_)
 refine Oc (jx (k:=101) rfl rfl rfl rfl) (Oc oa ?_)
 refine ae.ag ⟨[(1,I x0),(2,Pt 101 0)],[(1,.mq c0up),(101,.ao 52 [.row 1])]⟩ rfl (ab.seq (ab.aa ?_))
 refine Oc (bI fU rfl rfl) (Oc (aW jo rfl rfl rfl) (Oc om (Oc (p6 dy rfl rfl rfl) (Oc om (Oc (aM rfl rfl) ?_)))))
 refine Oc (aM rfl rfl) (Oc oa (Oc oa ?_))
 refine ae.ag ⟨[(1,_),(2,_),(5,I (ca c0up x0)),(6,B (ct c0up x0))],[(1,_),(101,_)]⟩ rfl (ab.seq (ab.seq (ab.aa ?_)))
 refine Oc om (Oc (dg rfl) ?_)
 refine ae.ag ⟨[(1,_),(2,_),(5,_),(16,B (!(ct c0up x0)))],[(1,_),(101,_)]⟩ rfl (ab.ite h rfl (fun _ h=>?_) (fun _ h=>?_))
 ·refine ab.seq (ab.aa ?_)
  refine Oc (bI fU rfl rfl) (Oc (aW jo rfl rfl rfl) (Oc om (Oc om (Oc (iW dy rfl rfl rfl rfl) ?_))))
  refine ae.ag ⟨[(1,_)],[(1,.mq (cZ c0up x0 x0))]⟩ rfl (ab.seq (ab.aa ?_))
  refine Oc om (Oc oa ?_)
  refine ae.ag ⟨[(4,I x0)],[(1,_)]⟩ rfl (ab.ret (Fin.aO ?_))
  obtain rfl:=Option.some.inj h
  refine Fin.af ⟨[(4,_)],[(1,_)]⟩ rfl ?_
  exact Fin.result [.one (.i x0)] (.inl rfl) rfl (.cons (.tmp rfl) .nil) ⟨rfl,rfl⟩
 ·refine ab.skip (Fin.af ⟨[(1,_),(2,_),(5,_)],[(1,_),(101,_)]⟩ rfl (Fin.then (ab.seq (ab.seq (ab.aa ?_)))))
  refine Oc om (Oc om (Oc (dB rfl rfl) ?_))
  refine ae.ag ⟨[(1,_),(2,_),(5,_),(24,B (decide ((ca c0up x0) = x0)))],[(1,_),(101,_)]⟩ rfl (ab.ite h rfl (fun _ h=>?_) (fun _ h=>?_))
  ·refine ab.seq (ab.aa ?_)
   refine Oc om (Oc oa ?_)
   refine ae.ag ⟨[(4,I x0)],[(1,_)]⟩ rfl (ab.ret (Fin.aO ?_))
   obtain rfl:=Option.some.inj h
   refine Fin.af ⟨[(4,_)],[(1,_)]⟩ rfl ?_
   exact Fin.result [.one (.i x0)] (.inl rfl) rfl (.cons (.tmp rfl) .nil) ⟨rfl,rfl⟩
  ·refine ab.skip (Fin.af ⟨[(1,_),(2,_),(5,_)],[(1,_),(101,_)]⟩ rfl (Fin.then (ab.seq (ab.aa ?_))))
   refine Oc ((cr cA rfl rfl rfl rfl).jP rfl) (Oc om ?_)
   obtain ⟨⟨x_1,x_2⟩,e1,h⟩:=aF h
   refine Oc (bj (own_a:=[(1,_)]) (ih e1) k4 rfl ⟨rfl,trivial⟩ rfl rfl) (Oc oa ?_)
   refine ae.ag ⟨[(1,_),(2,_),(7,I x_1)],[(1,.mq x_2),(101,_)]⟩ rfl (ab.seq (ab.aa ?_))
   refine Oc (bI fU rfl rfl) (Oc (aW jo rfl rfl rfl) (Oc om (Oc om (Oc (iW dy rfl rfl rfl rfl) ?_))))
   refine ae.ag ⟨[(7,_)],[(1,.mq (cZ x_2 x0 x_1))]⟩ rfl (ab.seq (ab.aa ?_))
   refine Oc om (Oc oa ?_)
   refine ae.ag ⟨[(4,I x_1)],[(1,_)]⟩ rfl (ab.ret ?_)
   obtain rfl:=Option.some.inj h
   refine Fin.af ⟨[(4,_)],[(1,_)]⟩ rfl ?_
   exact Fin.result [.one (.i x_1)] (.inl rfl) rfl (.cons (.tmp rfl) .nil) ⟨rfl,rfl⟩
theorem b8 {F:Nat} {x0:Int} {c0up:bf} {r:Int × bf} (h:bJ F x0 c0up = some r):ar Try.prog [] 48 [(1,.mq c0up)] [.xa [.row 1],.one (.i x0)] (Is [(1,.mq r.2)] (.b (.one (.i r.1)))):=gv F h
def dX (F:Nat) (fixed0:List Bool) (links0:List A2):Option (List Int) :=
 Option.bind (iter F (cg fun out_2 x_3=>if (decide (x_3 < (links0.length:Int))) = true then (Option.bind ((aV links0 x_3).bind fun x_6=>(aV fixed0 x_6.a0).bind fun x_7=>(cw (!x_7) (aV fixed0 x_6.a1)).bind fun x_8=>if ((!x_7) && (!x_8)) = true then ((df out_2 [x_3]).bind fun x_9=>some x_9) else (some out_2)) (fun out_5=>some (.inl (out_5,IntKind.i64.wrap (x_3 + 1))))) else (some (.inr out_2))) ([],0)) (fun out_1=>some out_1)
theorem gm (kr0:Nat) {F:Nat} {fixed0:List Bool} {links0:List A2} {r:(List Int)} (h:dX F fixed0 links0 = some r):ar Try.prog [] 49 [] [.one (.sl 1 (fixed0.map eB)),.one (.sl 2 (links0.map (cR .i64)))] (Is [(kr0,.row 3 1 (r.map eI))] (.b (.row kr0))):=by
 unfold dX at h
 refine ar.intro 35 Try.func49 Try.ntmps49 rfl (by simp) fun E=>?_
 show ab _ E ⟨35,[],[],[]⟩ _ ⟨[(0,.b (.one (.sl 1 (fixed0.map eB)))),(1,.b (.one (.sl 2 (links0.map (cR .i64)))))],[]⟩ _
 refine ab.seq (ab.aa ?_)
 refine Oc oa (ae.ag ⟨[(0,.b (.one (.sl 1 (fixed0.map eB)))),(1,.b (.one (.sl 2 (links0.map (cR .i64)))))],[]⟩ rfl (ab.seq (ab.aa ?_)))
 refine Oc oa (ae.ag ⟨[(0,_),(1,_),(5,.b (.one (.nil)))],[]⟩ rfl ?_)
 obtain ⟨v1,h2,h⟩:=aF h
 refine ab.bZ (v:=v1) (fun (out_1:List Int)=>⟨[(5,.b (.row 103))],[(103,.row 3 1 (out_1.map eI))]⟩) (fun z=>z) ?_ ?_
 ·refine ab.seq (ab.aa ?_)
  refine Oc om (Oc (az qo rfl (List.length_map _)) (Oc om ?_))
  refine ae.ag ⟨[(0,_),(5,_),(8,.b (.one (.sl 2 (links0.map (cR .i64))))),(9,I (links0.length:Int)),(10,I 0)],[]⟩ rfl (ab.block (ab.cN 5 103 1 3 rfl (by decide) rfl (ab.b9 h2 (cg fun (out_2:List Int) (x_3:Int)=>⟨[(0,.b (.one (.sl 1 (fixed0.map eB)))),(5,.b (.row 103)),(8,.b (.one (.sl 2 (links0.map (cR .i64))))),(9,I (links0.length:Int)),(10,I x_3)],[(103,.row 3 1 (out_2.map eI))]⟩) [0,5,8,9,10] [103] rfl ?_)))
  rintro ⟨out_2,x_3⟩ o3 h4 hy5
  refine ab.seq (ab.aa ?_)
  refine Oc (bh rfl rfl) (ae.ag ⟨[(0,_),(5,_),(8,_),(9,_),(10,_),(11,B (decide (x_3 < (links0.length:Int))))],[(103,_)]⟩ rfl (ab.seq (ab.ite h4 rfl (fun _ h4=>?_) (fun _ h4=>?_))))
  ·refine ab.skip (Fin.af ⟨[(0,_),(5,_),(8,_),(9,_),(10,_)],[(103,_)]⟩ rfl (Fin.then ?_))
   obtain ⟨v6,h7,h4⟩:=aF h4
   refine ab.bZ (v:=v6) (fun (out_5:List Int)=>⟨[(0,.b (.one (.sl 1 (fixed0.map eB)))),(5,.b (.row 103)),(8,.b (.one (.sl 2 (links0.map (cR .i64))))),(9,I (links0.length:Int)),(10,I x_3)],[(103,.row 3 1 (out_5.map eI))]⟩) (fun z=>z) ?_ ?_
   ·refine ab.block (ab.seq (ab.aa ?_))
    refine Oc om ?_
    obtain ⟨x_6,e8,h7⟩:=aF h7
    refine Oc (aH hU (aG e8) (aD (e:=(cR .i64)) e8) rfl rfl) (Oc (jw ny rfl rfl rfl) (Oc (bn (k:=104) ra rfl) (Oc oa (Oc (j6 ny rfl rfl rfl rfl (Nat.le_of_ble_eq_true rfl) rfl) ?_))))
    refine ae.ag ⟨[(0,_),(5,_),(6,I x_3),(7,Pt 104 0),(8,_),(9,_),(10,_)],[(103,_),(104,.box 44 ((cR .i64) x_6))]⟩ rfl (ab.seq (ab.aa ?_))
    refine Oc om (Oc (fi fl (by decide) (by decide) rfl rfl rfl) (Oc (bp ax rfl rfl rfl) ?_))
    obtain ⟨x_7,e9,h7⟩:=aF h7
    refine Oc (aH kX (aG e9) (aD (e:=eB) e9) rfl rfl) (Oc (aB lZ rfl rfl) (Oc (dg rfl) (Oc om ?_)))
    refine ae.af ⟨[(0,_),(5,_),(6,_),(7,_),(8,_),(9,_),(10,_),(21,B (!x_7))],[(103,_),(104,_)]⟩ rfl (cX (!x_7) [] (fun g10=>trivial) (fun g10=>om) (cX (!x_7) [] (fun g11=>by exact trivial) (fun g11=>fi fl (by decide) (by decide) rfl rfl rfl) (cX (!x_7) [23] (fun g12=>by exact ⟨g12,trivial⟩) (fun g12=>bp ax rfl rfl rfl) ?_)))
    obtain ⟨x_8,e14,h7⟩:=aF h7
    refine cX (!x_7) [22,24] (fun g13=>⟨g13,g13,trivial⟩) (fun g13=>aH kX (aG (gc e14 g13)) (aD (e:=eB) (gc e14 g13)) rfl rfl) (cX (!x_7) [25] (fun g15=>⟨g15,trivial⟩) (fun g15=>aB lZ rfl rfl) (cX (!x_7) [26] (fun g16=>⟨g16,trivial⟩) (fun g16=>dg rfl) (Oc (aY (fun e=>e) rfl rfl rfl rfl) (ae.ag ⟨[(0,_),(5,_),(6,_),(8,_),(9,_),(10,_),(28,B ((!x_7) && (!x_8)))],[(103,_)]⟩ rfl (ab.ite h7 rfl (fun _ h7=>?_) (fun _ h7=>?_))))))
    ·refine ab.aa (Oc om (Oc om (Oc (au (k:=105) (es:=[x_3].map eI) ak rfl rfl (aS fun _=>rfl) rfl (by decide) (by decide) rfl) ?_)))
     obtain ⟨x_9,e17,h7⟩:=aF h7
     refine Oc (bq ak (c7 e17) (c6 e17) rfl rfl rfl rfl (bW e17) rfl) (Oc oa ?_)
     refine ae.nil (Fin.ai ?_)
     exact Fin.join [0,5,8,9,10] [103] x_9 (Option.some.inj h7) rfl
    ·refine ab.skip (Fin.ai ?_)
     exact Fin.join [0,5,8,9,10] [103] out_2 (Option.some.inj h7) rfl
   ·rintro out_5 hv
    subst v6
    refine ab.aa (Oc (aX rfl rfl) (Oc om ?_))
    refine ae.nil ?_
    exact Fin.bw [0,5,8,9,10] [103] (out_5,IntKind.i64.wrap (x_3 + 1)) (Option.some.inj h4) rfl
  ·refine ab.exit (Fin.ah ?_)
   obtain rfl:=hy5 _ (Option.some.inj h4).symm
   refine Fin.ah (Fin.ay ?_)
   exact Fin.join [5] [103] out_2 rfl rfl
 ·rintro out_1 hv
  subst v1
  refine ab.seq (ab.aa ?_)
  refine Oc om (Oc oa ?_)
  refine ae.ag ⟨[(4,.b (.row 103))],[(103,_)]⟩ rfl (ab.ret ?_)
  obtain rfl:=Option.some.inj h
  refine Fin.af ⟨[(4,_)],[(103,_)]⟩ rfl (Fin.ic 103 kr0 [.row 103] (.inl rfl) rfl (.cons (.tmp rfl) .nil) rfl rfl rfl rfl ⟨rfl,rfl⟩)
def bK (F:Nat) (x0:Int) (y0:Int) (c0up:bf):Option (Bool × bf) :=
 Option.bind (bJ F x0 c0up) (cg fun x_1 x_2=>Option.bind (bJ F y0 x_2) (cg fun x_3 x_4=>if (decide (x_1 = x_3)) = true then (some (false,x_4)) else (some (true,cZ x_4 (max x_1 x_3) (min x_1 x_3)))))
theorem dU {F:Nat} {x0:Int} {y0:Int} {c0up:bf} {r:Bool × bf} (h:bK F x0 y0 c0up = some r):ar Try.prog [] 44 [(1,.mq c0up)] [.xa [.row 1],.one (.i x0),.one (.i y0)] (Is [(1,.mq r.2)] (.b (.one (.bool r.1)))):=by
 unfold bK at h
 refine ar.intro 26 Try.func44 Try.ntmps44 rfl (by simp) fun E=>?_
 show ab _ E ⟨26,[1],[1],[]⟩ _ ⟨[(0,.b (.xa [.row 1])),(1,I x0),(2,I y0)],[(1,.mq c0up)]⟩ _
 refine ab.seq (ab.aa ?_)
 refine Oc (jx (k:=101) rfl rfl rfl rfl) (Oc oa ?_)
 refine ae.ag ⟨[(1,I x0),(2,I y0),(3,Pt 101 0)],[(1,.mq c0up),(101,.ao 52 [.row 1])]⟩ rfl (ab.seq ?_)
 obtain ⟨⟨x_1,x_2⟩,e1,h⟩:=aF h
 obtain ⟨⟨x_3,x_4⟩,e2,h⟩:=aF h
 refine ab.lR mixed [false,false,true,false,false,true,false,false] [.b (.xa [.row 1]),I x0,I x_1,.b (.xa [.row 1]),I y0,I x_3,I x_1,I x_3] [⟨[false,false,false,false,false,false,false,false],[(1,I x0),(2,I y0),(3,Pt 101 0)],[(1,.mq c0up),(101,.ao 52 [.row 1])],[true,true,true,true,true,true,true,true],[],[5,6,7]⟩,⟨[false,false,true,false,false,false,false,false],[(1,I x0),(2,I y0),(3,Pt 101 0)],[(1,.mq x_2),(101,.ao 52 [.row 1])],[true,true,true,true,true,true,true,true],[0,1,2],[6,7]⟩,⟨[false,false,true,false,false,true,false,false],[(1,I x0),(2,I y0),(3,Pt 101 0)],[(1,.mq x_4),(101,.ao 52 [.row 1])],[true,true,true,true,true,true,true,true],[0,1,2,3,4,5],[]⟩] rfl (⟨by kernel_rfl,⟨⟨.b (.xa [.row 1]),fun _=>rfl,fun _=>.p (by exact (cr cA rfl rfl rfl rfl).jP rfl)⟩,⟨I x0,fun _=>rfl,fun _=>.p (by exact an rfl)⟩,⟨_,[],I x_1,rfl,fun _=>rfl,rfl,rfl,fun _=>.eV [1,101] (by exact .p (by exact bj (own_a:=[(1,_)]) (b8 e1) k4 rfl ⟨rfl,trivial⟩ rfl rfl)) (by exact rfl)⟩,⟨.b (.xa [.row 1]),fun _=>rfl,fun _=>.p (by exact (cr cA rfl rfl rfl rfl).jP rfl)⟩,⟨I y0,fun _=>rfl,fun _=>.p (by exact an rfl)⟩,trivial,trivial,trivial,trivial⟩,⟨by kernel_rfl,⟨trivial,trivial,trivial,⟨.b (.xa [.row 1]),fun _=>rfl,fun _=>.p (by exact (cr cA rfl rfl rfl rfl).jP rfl)⟩,⟨I y0,fun _=>rfl,fun _=>.p (by exact an rfl)⟩,⟨_,[],I x_3,rfl,fun _=>rfl,rfl,rfl,fun _=>.eV [1,101] (by exact .p (by exact bj (own_a:=[(1,_)]) (b8 e2) k4 rfl ⟨rfl,trivial⟩ rfl rfl)) (by exact rfl)⟩,trivial,trivial,trivial⟩,⟨by kernel_rfl,⟨trivial,trivial,trivial,trivial,trivial,trivial,⟨I x_1,fun _=>rfl,fun _=>.p (by exact ll rfl)⟩,⟨I x_3,fun _=>rfl,fun _=>.p (by exact ll rfl)⟩,trivial⟩,trivial⟩⟩⟩) rfl rfl rfl [3,7,8] [1,101] (s':=⟨[(3,_),(7,I x_1),(8,I x_3)],[(1,.mq x_4),(101,_)]⟩) rfl (ab.seq (ab.seq (ab.aa ?_)))
 refine Oc om (Oc om (Oc (dB rfl rfl) ?_))
 refine ae.ag ⟨[(3,_),(7,_),(8,_),(17,B (decide (x_1 = x_3)))],[(1,_),(101,_)]⟩ rfl (ab.ite h rfl (fun _ h=>?_) (fun _ h=>?_))
 ·refine ab.seq (ab.aa ?_)
  refine Oc oa (ae.ag ⟨[(6,B false)],[(1,_)]⟩ rfl (ab.ret (Fin.aO ?_)))
  obtain rfl:=Option.some.inj h
  refine Fin.af ⟨[(6,_)],[(1,_)]⟩ rfl ?_
  exact Fin.result [.one (.bool false)] (.inl rfl) rfl (.cons (.tmp rfl) .nil) ⟨rfl,rfl⟩
 ·refine ab.skip (Fin.af ⟨[(3,_),(7,_),(8,_)],[(1,_),(101,_)]⟩ rfl (Fin.then (ab.seq (ab.aa ?_))))
  refine Oc (bI fU rfl rfl) (Oc (aW jo rfl rfl rfl) (Oc om (Oc om (Oc (op_max rfl rfl) (Oc om ?_)))))
  refine ae.af ⟨[(8,_),(19,.b (.row 1)),(22,I (max x_1 x_3)),(23,I x_1)],[(1,_)]⟩ rfl (Oc om (Oc (oG rfl rfl) (Oc (iW dy rfl rfl rfl rfl) ?_)))
  refine ae.ag ⟨[],[(1,.mq (cZ x_4 (max x_1 x_3) (min x_1 x_3)))]⟩ rfl (ab.seq (ab.aa ?_))
  refine Oc oa (ae.ag ⟨[(6,B true)],[(1,_)]⟩ rfl (ab.ret ?_))
  obtain rfl:=Option.some.inj h
  refine Fin.af ⟨[(6,_)],[(1,_)]⟩ rfl ?_
  exact Fin.result [.one (.bool true)] (.inl rfl) rfl (.cons (.tmp rfl) .nil) ⟨rfl,rfl⟩
def du (F:Nat) (fixed0:List Bool) (links0:List A2):Option (bf × (List Int)) :=
 Option.bind (iter F (cg fun up_2 x_3=>if (decide (x_3 < (fixed0.length:Int))) = true then (Option.bind ((aV fixed0 x_3).bind fun x_6=>if (!x_6) = true then (Option.bind (bJ F x_3 up_2) (cg fun x_7 x_8=>some x_8)) else (some up_2)) (fun up_5=>some (.inl (up_5,IntKind.i64.wrap (x_3 + 1))))) else (some (.inr up_2))) (([]:bf),0)) (fun up_1=>Option.bind ((dX F fixed0 links0).bind fun x_11=>iter F (kj fun up_12 out_13 x_14=>if (decide (x_14 < (x_11.length:Int))) = true then (Option.bind ((aV x_11 x_14).bind fun x_19=>(aV links0 x_19).bind fun x_20=>(aV links0 x_19).bind fun x_21=>Option.bind (bK F x_20.a0 x_21.a1 up_12) (cg fun x_22 x_23=>if x_22 = true then ((df out_13 [x_19]).bind fun x_24=>some (x_23,x_24)) else (some (x_23,out_13)))) (cg fun up_17 out_18=>some (.inl (up_17,out_18,IntKind.i64.wrap (x_14 + 1))))) else (some (.inr (up_12,out_13)))) (up_1,[],0)) (cg fun up_9 out_10=>some (up_9,out_10)))
theorem eh {F:Nat} {fixed0:List Bool} {links0:List A2} {r:bf × (List Int)} (h:du F fixed0 links0 = some r):ar Try.prog [] 30 [] [.one (.sl 1 (fixed0.map eB)),.one (.sl 2 (links0.map (cR .i64)))] (Is [(51,.mq r.1),(52,.row 3 1 (r.2.map eI))] (.eo [.xa [.row 51],.row 52])):=by
 unfold du at h
 refine ar.intro 54 Try.func30 Try.ntmps30 rfl (by simp) fun E=>?_
 show ab _ E ⟨54,[],[],[]⟩ _ ⟨[(0,.b (.one (.sl 1 (fixed0.map eB)))),(1,.b (.one (.sl 2 (links0.map (cR .i64)))))],[]⟩ _
 refine ab.seq (ab.aa ?_)
 refine Oc (bn (k:=101) gV rfl) (Oc oa ?_)
 refine ae.ag ⟨[(0,.b (.one (.sl 1 (fixed0.map eB)))),(1,.b (.one (.sl 2 (links0.map (cR .i64))))),(4,Pt 101 0)],[(101,.box 52 [.raw (.map none)])]⟩ rfl (ab.seq (ab.aa ?_))
 refine Oc (gD (k:=102) kV rfl) (Oc ((mf mS rfl rfl).jP rfl) (Oc (bn (k:=103) gV rfl) ?_))
 refine ae.mK 103 rfl (Oc (ez cA rfl rfl rfl rfl rfl (Nat.le_of_ble_eq_true rfl) rfl) (ae.ag ⟨[(0,.b (.one (.sl 1 (fixed0.map eB)))),(1,.b (.one (.sl 2 (links0.map (cR .i64))))),(4,Pt 101 0),(6,Pt 103 0)],[(101,.box 52 [.raw (.map none)]),(102,.mq ([]:bf)),(103,.ao 52 [.row 102])]⟩ rfl ?_))
 obtain ⟨v1,h2,h⟩:=aF h
 refine ab.bZ (v:=v1) (fun (up_1:bf)=>⟨[(0,.b (.one (.sl 1 (fixed0.map eB)))),(1,.b (.one (.sl 2 (links0.map (cR .i64))))),(4,Pt 101 0),(6,Pt 103 0)],[(101,.box 52 [.raw (.map none)]),(102,.mq up_1),(103,.ao 52 [.row 102])]⟩) (fun z=>z) ?_ ?_
 ·refine ab.seq (ab.aa ?_)
  refine Oc om (Oc (az dx rfl (List.length_map _)) (Oc om ?_))
  refine ae.ag ⟨[(0,_),(1,_),(4,_),(6,_),(14,.b (.one (.sl 1 (fixed0.map eB)))),(15,I (fixed0.length:Int)),(16,I 0)],[(101,_),(102,_),(103,_)]⟩ rfl (ab.block (ab.b9 h2 (cg fun (up_2:bf) (x_3:Int)=>⟨[(0,.b (.one (.sl 1 (fixed0.map eB)))),(1,.b (.one (.sl 2 (links0.map (cR .i64))))),(4,Pt 101 0),(6,Pt 103 0),(14,.b (.one (.sl 1 (fixed0.map eB)))),(15,I (fixed0.length:Int)),(16,I x_3)],[(101,.box 52 [.raw (.map none)]),(102,.mq up_2),(103,.ao 52 [.row 102])]⟩) [0,1,4,6,14,15,16] [101,102,103] rfl ?_))
  rintro ⟨up_2,x_3⟩ o3 h4 hy5
  refine ab.seq (ab.aa ?_)
  refine Oc (bh rfl rfl) (ae.ag ⟨[(0,_),(1,_),(4,_),(6,_),(14,_),(15,_),(16,_),(17,B (decide (x_3 < (fixed0.length:Int))))],[(101,_),(102,_),(103,_)]⟩ rfl (ab.seq (ab.ite h4 rfl (fun _ h4=>?_) (fun _ h4=>?_))))
  ·refine ab.skip (Fin.af ⟨[(0,_),(1,_),(4,_),(6,_),(14,_),(15,_),(16,_)],[(101,_),(102,_),(103,_)]⟩ rfl (Fin.then ?_))
   obtain ⟨v6,h7,h4⟩:=aF h4
   refine ab.bZ (v:=v6) (fun (up_5:bf)=>⟨[(0,.b (.one (.sl 1 (fixed0.map eB)))),(1,.b (.one (.sl 2 (links0.map (cR .i64))))),(4,Pt 101 0),(6,Pt 103 0),(14,.b (.one (.sl 1 (fixed0.map eB)))),(15,I (fixed0.length:Int)),(16,I x_3)],[(101,.box 52 [.raw (.map none)]),(102,.mq up_5),(103,.ao 52 [.row 102])]⟩) (fun z=>z) ?_ ?_
   ·refine ab.block (ab.seq (ab.aa ?_))
    refine Oc om ?_
    obtain ⟨x_6,e8,h7⟩:=aF h7
    refine Oc (aH kX (aG e8) (aD (e:=eB) e8) rfl rfl) (Oc (aB lZ rfl rfl) (Oc oa (Oc oa ?_)))
    refine ae.ag ⟨[(0,_),(1,_),(4,_),(6,_),(7,I x_3),(8,B x_6),(14,_),(15,_),(16,_)],[(101,_),(102,_),(103,_)]⟩ rfl (ab.seq (ab.aa ?_))
    refine Oc om (Oc (dg rfl) ?_)
    refine ae.ag ⟨[(0,_),(1,_),(4,_),(6,_),(7,_),(14,_),(15,_),(16,_),(22,B (!x_6))],[(101,_),(102,_),(103,_)]⟩ rfl (ab.ite h7 rfl (fun _ h7=>?_) (fun _ h7=>?_))
    ·refine ab.aa (Oc ((cr cA rfl rfl rfl rfl).jP rfl) (Oc om ?_))
     obtain ⟨⟨x_7,x_8⟩,e9,h7⟩:=aF h7
     refine Oc (bj (own_a:=[(102,_)]) ((b8 e9).sw 1 102) k4 rfl ⟨rfl,trivial⟩ rfl rfl) (ae.nil (Fin.ai ?_))
     exact Fin.join [0,1,4,6,14,15,16] [101,102,103] x_8 (Option.some.inj h7) rfl
    ·refine ab.skip (Fin.ai ?_)
     exact Fin.join [0,1,4,6,14,15,16] [101,102,103] up_2 (Option.some.inj h7) rfl
   ·rintro up_5 hv
    subst v6
    refine ab.aa (Oc (aX rfl rfl) (Oc om ?_))
    refine ae.nil ?_
    exact Fin.bw [0,1,4,6,14,15,16] [101,102,103] (up_5,IntKind.i64.wrap (x_3 + 1)) (Option.some.inj h4) rfl
  ·refine ab.exit (Fin.ah ?_)
   obtain rfl:=hy5 _ (Option.some.inj h4).symm
   refine Fin.ah (Fin.ay ?_)
   exact Fin.join [0,1,4,6] [101,102,103] up_2 rfl rfl
 ·rintro up_1 hv
  subst v1
  refine ab.seq (ab.aa ?_)
  refine Oc oa (ae.ag ⟨[(0,_),(1,_),(4,_),(6,_),(9,.b (.one (.nil)))],[(101,_),(102,_),(103,_)]⟩ rfl ?_)
  obtain ⟨v10,h11,h⟩:=aF h
  refine ab.bZ (v:=v10) (cg fun (up_9:bf) (out_10:List Int)=>⟨[(4,Pt 101 0),(6,Pt 103 0),(9,.b (.row 106))],[(101,.box 52 [.raw (.map none)]),(102,.mq up_9),(103,.ao 52 [.row 102]),(106,.row 3 1 (out_10.map eI))]⟩) (fun z=>z) ?_ ?_
  ·refine ab.seq (ab.aa ?_)
   refine Oc om (Oc om ?_)
   obtain ⟨x_11,e12,h11⟩:=aF h11
   refine Oc (bj (gm 104 e12) qJ rfl trivial rfl rfl) (Oc (fc eW rfl rfl (List.length_map _)) (Oc om ?_))
   refine ae.ag ⟨[(1,_),(4,_),(6,_),(9,_),(29,.b (.row 104)),(30,I (x_11.length:Int)),(31,I 0)],[(101,_),(102,_),(103,_),(104,.row 3 1 (x_11.map eI))]⟩ rfl (ab.block (ab.cN 9 106 1 3 rfl (by decide) rfl (ab.b9 h11 (kj fun (up_12:bf) (out_13:List Int) (x_14:Int)=>⟨[(1,.b (.one (.sl 2 (links0.map (cR .i64))))),(4,Pt 101 0),(6,Pt 103 0),(9,.b (.row 106)),(29,.b (.row 104)),(30,I (x_11.length:Int)),(31,I x_14)],[(101,.box 52 [.raw (.map none)]),(102,.mq up_12),(103,.ao 52 [.row 102]),(104,.row 3 1 (x_11.map eI)),(106,.row 3 1 (out_13.map eI))]⟩) [1,4,6,9,29,30,31] [101,102,103,104,106] rfl ?_)))
   rintro ⟨up_12,out_13,x_14⟩ o13 h14 hy15
   refine ab.seq (ab.aa ?_)
   refine Oc (bh rfl rfl) (ae.ag ⟨[(1,_),(4,_),(6,_),(9,_),(29,_),(30,_),(31,_),(32,B (decide (x_14 < (x_11.length:Int))))],[(101,_),(102,_),(103,_),(104,_),(106,_)]⟩ rfl (ab.seq (ab.ite h14 rfl (fun _ h14=>?_) (fun _ h14=>?_))))
   ·refine ab.skip (Fin.af ⟨[(1,_),(4,_),(6,_),(9,_),(29,_),(30,_),(31,_)],[(101,_),(102,_),(103,_),(104,_),(106,_)]⟩ rfl (Fin.then ?_))
    obtain ⟨v16,h17,h14⟩:=aF h14
    refine ab.bZ (v:=v16) (cg fun (up_17:bf) (out_18:List Int)=>⟨[(1,.b (.one (.sl 2 (links0.map (cR .i64))))),(4,Pt 101 0),(6,Pt 103 0),(9,.b (.row 106)),(29,.b (.row 104)),(30,I (x_11.length:Int)),(31,I x_14)],[(101,.box 52 [.raw (.map none)]),(102,.mq up_17),(103,.ao 52 [.row 102]),(104,.row 3 1 (x_11.map eI)),(106,.row 3 1 (out_18.map eI))]⟩) (fun z=>z) ?_ ?_
    ·refine ab.block (ab.seq (ab.aa ?_))
     obtain ⟨x_19,e18,h17⟩:=aF h17
     refine Oc (aq ak (aG e18) (aZ e18) rfl rfl rfl rfl) (Oc (aK (i:=(x_14:Int).toNat) (f:=0) ax rfl rfl rfl (aD (e:=eI) e18) rfl) (Oc oa ?_))
     refine ae.ag ⟨[(1,_),(4,_),(6,_),(9,_),(11,I x_19),(29,_),(30,_),(31,_)],[(101,_),(102,_),(103,_),(104,_),(106,_)]⟩ rfl (ab.seq ?_)
     obtain ⟨x_20,e19,h17⟩:=aF h17
     obtain ⟨x_21,e20,h17⟩:=aF h17
     obtain ⟨⟨x_22,x_23⟩,e21,h17⟩:=aF h17
     refine ab.dz mixed 11 [.b (.xa [.row 102]),.b (.one (.sl 2 (links0.map (cR .i64)))),I x_19,.b (.cz ((cR .i64) x_20)),.b (.cz [.i x_20.a0]),I x_20.a0,.b (.one (.sl 2 (links0.map (cR .i64)))),I x_19,.b (.cz ((cR .i64) x_21)),.b (.cz [.i x_21.a1]),I x_21.a1] [1,4,6,9,11,29,30,31,46] [101,102,103,104,106] (s':=⟨[(1,_),(4,_),(6,_),(9,_),(11,_),(29,_),(30,_),(31,_),(46,B x_22)],[(101,_),(102,.mq x_23),(103,_),(104,_),(106,_)]⟩) rfl ⟨fun _=>.p ((cr cA rfl rfl rfl rfl).jP rfl),fun _=>.p om,fun _=>.p om,fun _=>.p (aH hU (aG e19) (aD (e:=(cR .i64)) e19) rfl rfl),fun _=>.p (gE fl (by decide) (by decide) rfl rfl rfl),fun _=>.p (aB ax rfl rfl),fun _=>.p om,fun _=>.p om,fun _=>.p (aH hU (aG e20) (aD (e:=(cR .i64)) e20) rfl rfl),fun _=>.p (gE fl (by decide) (by decide) rfl rfl rfl),fun _=>.p (aB ax rfl rfl),trivial⟩ ⟨_,by exact .p (bj (own_a:=[(102,_)]) ((dU e21).sw 1 102) qL rfl ⟨rfl,trivial⟩ rfl rfl),rfl⟩ rfl (ab.ite h17 rfl (fun _ h17=>?_) (fun _ h17=>?_))
     ·refine ab.aa (Oc om (Oc om (Oc (au (k:=107) (es:=[x_19].map eI) ak rfl rfl (aS fun _=>rfl) rfl (by decide) (by decide) rfl) ?_)))
      obtain ⟨x_24,e22,h17⟩:=aF h17
      refine Oc (bq ak (c7 e22) (c6 e22) rfl rfl rfl rfl (bW e22) rfl) (Oc oa ?_)
      refine ae.nil (Fin.ai ?_)
      exact Fin.join [1,4,6,9,29,30,31] [101,102,103,104,106] (x_23,x_24) (Option.some.inj h17) rfl
     ·refine ab.skip (Fin.ai ?_)
      exact Fin.join [1,4,6,9,29,30,31] [101,102,103,104,106] (x_23,out_13) (Option.some.inj h17) rfl
    ·rintro ⟨up_17,out_18⟩ hv
     subst v16
     refine ab.aa (Oc (aX rfl rfl) (Oc om ?_))
     refine ae.nil ?_
     exact Fin.bw [1,4,6,9,29,30,31] [101,102,103,104,106] (up_17,out_18,IntKind.i64.wrap (x_14 + 1)) (Option.some.inj h14) rfl
   ·refine ab.exit (Fin.ah ?_)
    obtain rfl:=hy15 _ (Option.some.inj h14).symm
    refine Fin.ah (Fin.ay ?_)
    exact Fin.join [4,6,9] [101,102,103,106] (up_12,out_13) rfl rfl
  ·rintro ⟨up_9,out_10⟩ hv
   subst v10
   refine ab.seq (ab.aa ?_)
   refine Oc ((cr cA rfl rfl rfl rfl).jP rfl) (Oc om ?_)
   refine ae.mK 101 rfl (Oc (ez cA rfl rfl rfl rfl rfl (Nat.le_of_ble_eq_true rfl) rfl) (Oc oa ?_))
   refine ae.ag ⟨[(4,Pt 101 0),(5,.b (.row 106))],[(101,.ao 52 [.row 102]),(102,.mq up_9),(106,.row 3 1 (out_10.map eI))]⟩ rfl (ab.ret ?_)
   obtain rfl:=Option.some.inj h
   refine Fin.af ⟨[(4,Pt 101 0),(5,.b (.row 106))],[(101,.ao 52 [.row 102]),(102,.mq up_9),(106,.row 3 1 (out_10.map eI))]⟩ rfl (Fin.rename 102 51 rfl (by decide) rfl (Fin.rename 106 52 rfl (by decide) rfl ?_))
   exact Fin.resultX [51,52] [.xa [.row 51],.row 52] (.inl rfl) rfl (.cons (.xa cA rfl rfl rfl rfl rfl) (.cons (.fX (.tmp rfl)) .nil)) ⟨rfl,rfl⟩
def bz (F:Nat) (c0up:bf):Option ((List (List Int)) × bf) :=
 Option.bind (l4 c0up) (fun ks_1=>(cL F (ks_1)).bind fun x_7=>Option.bind (iter F (un4 fun up_10 at_11 out_12 x_13=>if (decide (x_13 < (x_7.length:Int))) = true then (Option.bind ((aV x_7 x_13).bind fun x_19=>Option.bind (bJ F x_19 up_10) (cg fun x_20 x_21=>Option.bind (if (decide (x_20 = x_19)) = true then ((df out_12 [[]]).bind fun x_24=>some (cZ at_11 x_19 (out_12.length:Int),x_24)) else (some (at_11,out_12))) (cg fun at_22 out_23=>(aV out_23 (ca at_22 x_20)).bind fun x_25=>(df x_25 [x_19]).bind fun x_26=>(aV out_23 (ca at_22 x_20)).bind fun x_27=>some (x_21,at_22,out_23.set (ca at_22 x_20:Int).toNat x_26)))) (kj fun up_16 at_17 out_18=>some (.inl (up_16,at_17,out_18,IntKind.i64.wrap (x_13 + 1))))) else (some (.inr (out_12,up_10)))) (c0up,([]:bf),[],0)) (cg fun out_8 y_9=>some (out_8,y_9)))
theorem dT {F:Nat} {c0up:bf} {r:(List (List Int)) × bf} (h:bz F c0up = some r):ar Try.prog [] 31 [(1,.mq c0up)] [.xa [.row 1]] (Is [(1,.mq r.2)] (.b (.one (.sl 1 (r.1.map (eL 1 eI)))))):=by
 unfold bz at h
 refine ar.intro 59 Try.func31 Try.ntmps31 rfl (by simp) fun E=>?_
 show ab _ E ⟨59,[1],[1],[]⟩ _ ⟨[(0,.b (.xa [.row 1]))],[(1,.mq c0up)]⟩ _
 refine ab.seq (ab.aa ?_)
 refine Oc (jx (k:=101) rfl rfl rfl rfl) (Oc oa ?_)
 refine ae.ag ⟨[(1,Pt 101 0)],[(1,.mq c0up),(101,.ao 52 [.row 1])]⟩ rfl (ab.seq (ab.aa ?_))
 refine Oc oa (ae.ag ⟨[(1,_),(3,.b (.one (.nil)))],[(1,_),(101,_)]⟩ rfl (ab.seq (ab.seq (ab.aa ?_))))
 refine Oc (bI fU rfl rfl) (Oc (aW jo rfl rfl rfl) (Oc (kI 102 kV rfl rfl (by decide) rfl rfl) ?_))
 refine ae.ag ⟨[(1,_),(3,_),(12,Pt 102 0)],[(101,_),(102,.fL 1 c0up c0up none)]⟩ rfl (ab.cN 3 103 1 3 rfl (by decide) rfl (ab.af ⟨[(1,_),(3,.b (.row 103)),(12,_)],[(101,_),(102,_),(103,.row 3 1 ([].map eI))]⟩ rfl ?_))
 obtain ⟨ks_1,e1,h⟩:=aF h
 obtain ⟨hk2,rfl⟩:=n4 e1
 refine ab.block (ab.loop (fun (q:List Int × bf)=>⟨[(1,Pt 101 0),(3,.b (.row 103)),(12,Pt 102 0)],[(101,.ao 52 [.row 1]),(102,.fL 1 c0up q.2 none),(103,.row 3 1 (q.1.map eI))]⟩) (fun q=>(q.1 ++ q.2.map (·.1)).Perm (c0up.map (·.1))) (fun q=>q.2.length) ([],c0up) (by simp) rfl ?_)
 rintro ⟨vis_2,rs_3⟩ hI3
 refine ab.seq (ab.aa ?_)
 refine ae.nextM rfl rfl rfl (fun hr4=>?_) (fun p_4 r_5 r_6 hr4=>?_)
 ·subst hr4
  have hp5:vis_2.Perm (c0up.map (·.1)):=by simpa using hI3
  refine Oc (aM rfl rfl) (ae.ag ⟨[(1,_),(3,_),(12,_),(14,B false)],[(101,_),(102,.fL 1 c0up [] none),(103,.row 3 1 (vis_2.map eI))]⟩ rfl (ab.seq (ab.qw rfl (ab.exit (Fin.ah ?_)))))
  refine Fin.ah (Fin.af ⟨[(1,_),(3,_),(12,_)],[(101,_),(102,_),(103,_)]⟩ rfl (Fin.np 102 rfl rfl (Fin.ay (Fin.af ⟨[(1,_),(3,_)],[(1,.mq c0up),(101,_),(103,_)]⟩ rfl (Fin.then (ab.seq (ab.aa ?_)))))))
  refine Oc om (ae.jz 103 rfl ?_)
  obtain ⟨x_7,e6,h⟩:=aF h
  refine Oc (bj (own_a:=[(103,_)]) ((dM (F:=F) (me hp5 e6)).sw 1 103) ns rfl ⟨rfl,trivial⟩ rfl rfl) (ae.kg 103 rfl (ae.ag ⟨[(1,_),(3,_)],[(1,_),(101,_),(103,.row 3 1 (x_7.map eI))]⟩ rfl (ab.seq (ab.aa ?_))))
  refine Oc (gD (k:=104) kV rfl) (Oc oa ?_)
  refine ae.ag ⟨[(1,_),(3,_),(5,.b (.row 104))],[(1,_),(101,_),(103,_),(104,.mq ([]:bf))]⟩ rfl (ab.seq (ab.aa ?_))
  refine Oc oa (ae.ag ⟨[(1,_),(3,_),(5,_),(6,.b (.one (.nil)))],[(1,_),(101,_),(103,_),(104,_)]⟩ rfl ?_)
  obtain ⟨v7,h8,h⟩:=aF h
  refine ab.bZ (v:=v7) (cg fun (out_8:List (List Int)) (y_9:bf)=>⟨[(6,.b (.row 106))],[(1,.mq y_9),(106,.rr 30 3 1 .none (out_8.map (eR eI)))]⟩) (fun z=>z) ?_ ?_
  ·refine ab.seq (ab.aa ?_)
   refine Oc om (Oc (fc eW rfl rfl (List.length_map _)) (Oc om ?_))
   refine ae.ag ⟨[(1,_),(5,_),(6,_),(24,.b (.row 103)),(25,I (x_7.length:Int)),(26,I 0)],[(1,_),(101,_),(103,_),(104,_)]⟩ rfl (ab.block (ab.kq 6 106 1 30 3 rfl (by decide) rfl (ab.b9 h8 (un4 fun (up_10:bf) (at_11:bf) (out_12:List (List Int)) (x_13:Int)=>⟨[(1,Pt 101 0),(5,.b (.row 104)),(6,.b (.row 106)),(24,.b (.row 103)),(25,I (x_7.length:Int)),(26,I x_13)],[(1,.mq up_10),(101,.ao 52 [.row 1]),(103,.row 3 1 (x_7.map eI)),(104,.mq at_11),(106,.rr 30 3 1 .none (out_12.map (eR eI)))]⟩) [1,5,6,24,25,26] [1,101,103,104,106] rfl ?_)))
   rintro ⟨up_10,at_11,out_12,x_13⟩ o9 h10 hy11
   refine ab.seq (ab.aa ?_)
   refine Oc (bh rfl rfl) (ae.ag ⟨[(1,_),(5,_),(6,_),(24,_),(25,_),(26,_),(27,B (decide (x_13 < (x_7.length:Int))))],[(1,_),(101,_),(103,_),(104,_),(106,_)]⟩ rfl (ab.seq (ab.ite h10 rfl (fun _ h10=>?_) (fun _ h10=>?_))))
   ·refine ab.skip (Fin.af ⟨[(1,_),(5,_),(6,_),(24,_),(25,_),(26,_)],[(1,_),(101,_),(103,_),(104,_),(106,_)]⟩ rfl (Fin.then ?_))
    obtain ⟨v12,h13,h10⟩:=aF h10
    refine ab.bZ (v:=v12) (kj fun (up_16:bf) (at_17:bf) (out_18:List (List Int))=>⟨[(1,Pt 101 0),(5,.b (.row 104)),(6,.b (.row 106)),(24,.b (.row 103)),(25,I (x_7.length:Int)),(26,I x_13)],[(1,.mq up_16),(101,.ao 52 [.row 1]),(103,.row 3 1 (x_7.map eI)),(104,.mq at_17),(106,.rr 30 3 1 .none (out_18.map (eR eI)))]⟩) (fun z=>z) ?_ ?_
    ·refine ab.block (ab.seq (ab.aa ?_))
     obtain ⟨x_19,e14,h13⟩:=aF h13
     refine Oc (aq ak (aG e14) (aZ e14) rfl rfl rfl rfl) (Oc (aK (i:=(x_13:Int).toNat) (f:=0) ax rfl rfl rfl (aD (e:=eI) e14) rfl) (Oc oa ?_))
     refine ae.ag ⟨[(1,_),(5,_),(6,_),(8,I x_19),(24,_),(25,_),(26,_)],[(1,_),(101,_),(103,_),(104,_),(106,_)]⟩ rfl (ab.seq (ab.aa ?_))
     refine Oc ((cr cA rfl rfl rfl rfl).jP rfl) (Oc om ?_)
     obtain ⟨⟨x_20,x_21⟩,e15,h13⟩:=aF h13
     refine Oc (bj (own_a:=[(1,_)]) (b8 e15) k4 rfl ⟨rfl,trivial⟩ rfl rfl) (Oc oa ?_)
     refine ae.ag ⟨[(1,_),(5,_),(6,_),(8,_),(9,I x_20),(24,_),(25,_),(26,_)],[(1,.mq x_21),(101,_),(103,_),(104,_),(106,_)]⟩ rfl ?_
     obtain ⟨v16,h17,h13⟩:=aF h13
     refine ab.bZ (v:=v16) (cg fun (at_22:bf) (out_23:List (List Int))=>⟨[(1,Pt 101 0),(5,.b (.row 104)),(6,.b (.row 106)),(8,I x_19),(9,I x_20),(24,.b (.row 103)),(25,I (x_7.length:Int)),(26,I x_13)],[(1,.mq x_21),(101,.ao 52 [.row 1]),(103,.row 3 1 (x_7.map eI)),(104,.mq at_22),(106,.rr 30 3 1 .none (out_23.map (eR eI)))]⟩) (fun z=>z) ?_ ?_
     ·refine ab.seq (ab.aa ?_)
      refine Oc om (Oc om (Oc (dB rfl rfl) ?_))
      refine ae.ag ⟨[(1,_),(5,_),(6,_),(8,_),(9,_),(24,_),(25,_),(26,_),(35,B (decide (x_20 = x_19)))],[(1,_),(101,_),(103,_),(104,_),(106,_)]⟩ rfl (ab.ite h17 rfl (fun _ h17=>?_) (fun _ h17=>?_))
      ·refine ab.seq (ab.aa ?_)
       refine Oc om (Oc om (Oc om (Oc (j7 gx rfl rfl (List.length_map _)) (Oc (iW dy rfl rfl rfl rfl) ?_))))
       refine ae.ag ⟨[(1,_),(5,_),(6,_),(8,_),(9,_),(24,_),(25,_),(26,_)],[(1,_),(101,_),(103,_),(104,.mq (cZ at_11 x_19 (out_12.length:Int))),(106,_)]⟩ rfl (ab.aa (Oc om (Oc (au (k:=107) (es:=[[.nil]]) bH rfl rfl (fun ps h=>by simp at h; subst h; rfl) rfl (by decide) (by decide) rfl) ?_)))
       obtain ⟨x_24,e18,h17⟩:=aF h17
       refine Oc (ji bH (rr_b e18) (rr_m e18) rfl rfl rfl rfl (qD e18) rfl) (Oc oa ?_)
       refine ae.nil ?_
       exact Fin.join [1,5,6,8,9,24,25,26] [1,101,103,104,106] (cZ at_11 x_19 (out_12.length:Int),x_24) (Option.some.inj h17) rfl
      ·refine ab.skip ?_
       exact Fin.join [1,5,6,8,9,24,25,26] [1,101,103,104,106] (at_11,out_12) (Option.some.inj h17) rfl
     ·rintro ⟨at_22,out_23⟩ hv
      subst v16
      refine ab.af ⟨[(1,_),(5,_),(6,_),(8,_),(9,_),(24,_),(25,_),(26,_)],[(1,_),(101,_),(103,_),(104,_),(106,_)]⟩ rfl ?_
      obtain ⟨x_25,e19,h13⟩:=aF h13
      obtain ⟨x_26,e20,h13⟩:=aF h13
      obtain ⟨x_27,e21,h13⟩:=aF h13
      refine ab.fC mixed [false,false,false,false,false,false,false,false,false,true,false,false,true,false,true] [.b (.row 106),.b (.row 104),I x_20,I (ca at_22 x_20),.b (.row 106),.b (.row 104),I x_20,I (ca at_22 x_20),.b (.bu 106 (ca at_22 x_20:Int).toNat),.b (.row 108),I x_19,.b (.one (.sl 1 ([x_19].map eI))),.b (.row 110),.b (.bu 106 (ca at_22 x_20:Int).toNat),B true] [⟨[false,false,false,false,false,false,false,false,false,false,false,false,false,false,false],[(1,Pt 101 0),(5,.b (.row 104)),(6,.b (.row 106)),(8,I x_19),(9,I x_20),(24,.b (.row 103)),(25,I (x_7.length:Int)),(26,I x_13)],[(1,.mq x_21),(101,.ao 52 [.row 1]),(103,.row 3 1 (x_7.map eI)),(104,.mq at_22),(106,.rr 30 3 1 .none (out_23.map (eR eI)))],[true,true,true,true,true,true,true,true,true,true,true,true,true,true,true],[],[12,13,14]⟩,⟨[false,false,false,false,false,false,false,false,false,true,false,false,false,false,false],[(1,Pt 101 0),(5,.b (.row 104)),(6,.b (.row 106)),(8,I x_19),(9,I x_20),(24,.b (.row 103)),(25,I (x_7.length:Int)),(26,I x_13)],[(1,.mq x_21),(101,.ao 52 [.row 1]),(103,.row 3 1 (x_7.map eI)),(104,.mq at_22),(106,.rr 30 3 1 (.at (ca at_22 x_20:Int).toNat) (out_23.map (eR eI))),(108,.row 3 1 (x_25.map eI))],[true,true,true,true,true,true,true,true,true,true,true,true,true,true,true],[4,5,6,7,8,9],[13,14]⟩,⟨[false,false,false,false,false,false,false,false,false,true,false,false,true,false,false],[(1,Pt 101 0),(5,.b (.row 104)),(6,.b (.row 106)),(8,I x_19),(9,I x_20),(24,.b (.row 103)),(25,I (x_7.length:Int)),(26,I x_13)],[(1,.mq x_21),(101,.ao 52 [.row 1]),(103,.row 3 1 (x_7.map eI)),(104,.mq at_22),(106,.rr 30 3 1 (.at (ca at_22 x_20:Int).toNat) (out_23.map (eR eI))),(110,.row 3 1 (x_26.map eI))],[true,true,true,true,true,true,true,true,true,true,true,true,true,true,true],[4,5,6,7,8,9,10,11,12],[]⟩,⟨[false,false,false,false,false,false,false,false,false,true,false,false,true,false,true],[(1,Pt 101 0),(5,.b (.row 104)),(6,.b (.row 106)),(8,I x_19),(9,I x_20),(24,.b (.row 103)),(25,I (x_7.length:Int)),(26,I x_13)],[(1,.mq x_21),(101,.ao 52 [.row 1]),(103,.row 3 1 (x_7.map eI)),(104,.mq at_22),(106,.rr 30 3 1 .none ((out_23.set (ca at_22 x_20:Int).toNat x_26).map (eR eI)))],[true,true,true,true,true,true,true,true,true,true,true,true,false,true,true],[0,1,2,3,4,5,6,7,8,9,10,11,12,13,14],[]⟩] rfl (⟨by kernel_rfl,⟨⟨.b (.row 106),fun _=>rfl,fun _=>.p (by exact an rfl)⟩,⟨.b (.row 104),fun _=>rfl,fun _=>.p (by exact an rfl)⟩,⟨I x_20,fun _=>rfl,fun _=>.p (by exact an rfl)⟩,⟨I (ca at_22 x_20),fun _=>rfl,fun _=>.p (by exact ep dy rfl rfl rfl)⟩,⟨.b (.row 106),fun _=>rfl,fun _=>.p (by exact an rfl)⟩,⟨.b (.row 104),fun _=>rfl,fun _=>.p (by exact an rfl)⟩,⟨I x_20,fun _=>rfl,fun _=>.p (by exact an rfl)⟩,⟨I (ca at_22 x_20),fun _=>rfl,fun _=>.p (by exact ep dy rfl rfl rfl)⟩,⟨.b (.bu 106 (ca at_22 x_20:Int).toNat),fun _=>rfl,fun _=>.p (by exact cU bH (aG e19) (aZ e19) rfl rfl rfl rfl)⟩,⟨_,[108],.b (.row 108),rfl,fun _=>rfl,rfl,rfl,fun _=>.eV [1,101,103,104,106,108] (by exact .p (by exact im (i:=(ca at_22 x_20:Int).toNat) 108 aT rfl rfl rfl (aD (e:=eR eI) e19) (by decide) rfl rfl)) (by exact rfl)⟩,⟨I x_19,fun _=>rfl,fun _=>.p (by exact an rfl)⟩,⟨.b (.one (.sl 1 ([x_19].map eI))),fun _=>rfl,fun _=>.p (by exact bC (es:=[x_19].map eI) ak rfl rfl (aS fun _=>rfl) rfl (by decide) (by decide))⟩,trivial,trivial,trivial,trivial⟩,⟨by kernel_rfl,⟨⟨.b (.row 106),fun _=>rfl,fun _=>.p (by exact an rfl)⟩,⟨.b (.row 104),fun _=>rfl,fun _=>.p (by exact an rfl)⟩,⟨I x_20,fun _=>rfl,fun _=>.p (by exact an rfl)⟩,⟨I (ca at_22 x_20),fun _=>rfl,fun _=>.p (by exact ep dy rfl rfl rfl)⟩,trivial,trivial,trivial,trivial,trivial,trivial,⟨I x_19,fun _=>rfl,fun _=>.p (by exact an rfl)⟩,⟨.b (.one (.sl 1 ([x_19].map eI))),fun _=>rfl,fun _=>.p (by exact bC (es:=[x_19].map eI) ak rfl rfl (aS fun _=>rfl) rfl (by decide) (by decide))⟩,⟨_,[110],.b (.row 110),rfl,fun _=>rfl,rfl,rfl,fun _=>.eV [1,101,103,104,106,110] (by exact .p (by exact kK (k2:=110) ak (c7 e20) (c6 e20) rfl rfl rfl (bW e20) rfl rfl rfl rfl rfl)) (by exact rfl)⟩,trivial,trivial,trivial⟩,⟨by kernel_rfl,⟨⟨.b (.row 106),fun _=>rfl,fun _=>.p (by exact an rfl)⟩,⟨.b (.row 104),fun _=>rfl,fun _=>.p (by exact an rfl)⟩,⟨I x_20,fun _=>rfl,fun _=>.p (by exact an rfl)⟩,⟨I (ca at_22 x_20),fun _=>rfl,fun _=>.p (by exact ep dy rfl rfl rfl)⟩,trivial,trivial,trivial,trivial,trivial,trivial,trivial,trivial,trivial,⟨.b (.bu 106 (ca at_22 x_20:Int).toNat),fun _=>rfl,fun _=>.p (by exact cU bH (aG e21) (aZ e21) rfl rfl rfl rfl)⟩,⟨_,[110],.b (.one .any),rfl,(fun e=>by simp at e),rfl,rfl,fun _=>.eV [1,101,103,104,106] (by exact .p (by exact gC aT rfl rfl rfl rfl rfl (eG e21) (by decide) (lQ _ _ _ _))) (by exact rfl)⟩,trivial⟩,⟨by kernel_rfl,⟨trivial,trivial,trivial,trivial,trivial,trivial,trivial,trivial,trivial,trivial,trivial,trivial,trivial,trivial,trivial,trivial⟩,trivial⟩⟩⟩⟩) rfl rfl rfl [1,5,6,24,25,26] [1,101,103,104,106] (s':=⟨[(1,_),(5,_),(6,_),(24,_),(25,_),(26,_)],[(1,_),(101,_),(103,_),(104,_),(106,.rr 30 3 1 .none ((out_23.set (ca at_22 x_20:Int).toNat x_26).map (eR eI)))]⟩) rfl ?_
      refine Fin.ai ?_
      exact Fin.join [1,5,6,24,25,26] [1,101,103,104,106] (x_21,at_22,out_23.set (ca at_22 x_20:Int).toNat x_26) (Option.some.inj h13) rfl
    ·rintro ⟨up_16,at_17,out_18⟩ hv
     subst v12
     refine ab.aa (Oc (aX rfl rfl) (Oc om ?_))
     refine ae.nil ?_
     exact Fin.bw [1,5,6,24,25,26] [1,101,103,104,106] (up_16,at_17,out_18,IntKind.i64.wrap (x_13 + 1)) (Option.some.inj h10) rfl
   ·refine ab.exit (Fin.ah ?_)
    obtain rfl:=hy11 _ (Option.some.inj h10).symm
    refine Fin.ah (Fin.ay ?_)
    exact Fin.join [6] [1,106] (out_12,up_10) rfl rfl
  ·rintro ⟨out_8,y_9⟩ hv
   subst v7
   refine ab.seq (ab.aa ?_)
   refine Oc om (Oc oa ?_)
   refine ae.ag ⟨[(2,.b (.row 106))],[(1,_),(106,_)]⟩ rfl (ab.ret ?_)
   obtain rfl:=Option.some.inj h
   refine Fin.af ⟨[(2,_)],[(1,_),(106,_)]⟩ rfl (Fin.jv 106 rfl (rr_sl _) (Fin.af ⟨[(2,.b (.one (.sl 1 (out_8.map (eL 1 eI)))))],[(1,_)]⟩ rfl ?_))
   exact Fin.result [.one (.sl 1 (out_8.map (eL 1 eI)))] (.inl rfl) rfl (.cons (.tmp rfl) .nil) ⟨rfl,rfl⟩
 ·subst hr4
  refine Oc (aM rfl rfl) (ae.ag ⟨[(1,_),(3,_),(12,_),(14,B true)],[(101,_),(102,.fL 1 c0up (r_5 ++ r_6) (some p_4)),(103,.row 3 1 (vis_2.map eI))]⟩ rfl (ab.seq (ab.qv rfl (ab.skip (Fin.af ⟨[(1,_),(3,_),(12,_)],[(101,_),(102,_),(103,_)]⟩ rfl ?_)))))
  refine Fin.then (ab.block (ab.seq (ab.aa ?_)))
  refine Oc (kJ rfl rfl) (Oc (aM rfl rfl) (Oc oa ?_))
  refine ae.ag ⟨[(1,_),(3,_),(4,I p_4.1),(12,_)],[(101,_),(102,_),(103,_)]⟩ rfl (ab.aa (Oc om (Oc om (Oc (au (k:=111) (es:=[p_4.1].map eI) ak rfl rfl (aS fun _=>rfl) rfl (by decide) (by decide) rfl) (Oc (bq ak (c7 (ij (fj hI3 hk2))) (c6 (ij (fj hI3 hk2))) rfl rfl rfl rfl (bW (ij (fj hI3 hk2))) rfl) (Oc oa ?_))))))
  refine ae.nil (Fin.ai (Fin.af ⟨[(1,_),(3,_),(12,_)],[(101,_),(102,_),(103,.row 3 1 ((vis_2 ++ [p_4.1]).map eI))]⟩ rfl (Fin.nn 102 rfl ?_)))
  exact Fin.again ((vis_2 ++ [p_4.1]),r_5 ++ r_6) (lJ hI3) (by simp) rfl
def cu (F:Nat) (c0up:bf):Option ((List (List Int)) × bf) :=
 Option.bind (l4 c0up) (fun ks_1=>(cL F (ks_1)).bind fun x_7=>Option.bind (iter F (un4 fun up_10 at_11 out_12 x_13=>if (decide (x_13 < (x_7.length:Int))) = true then (Option.bind ((aV x_7 x_13).bind fun x_19=>Option.bind (bJ F x_19 up_10) (cg fun x_20 x_21=>Option.bind (if (decide (x_20 = x_19)) = true then ((df out_12 [[]]).bind fun x_24=>some (cZ at_11 x_19 (out_12.length:Int),x_24)) else (some (at_11,out_12))) (cg fun at_22 out_23=>(aV out_23 (ca at_22 x_20)).bind fun x_25=>(df x_25 [x_19]).bind fun x_26=>(aV out_23 (ca at_22 x_20)).bind fun x_27=>some (x_21,at_22,out_23.set (ca at_22 x_20:Int).toNat x_26)))) (kj fun up_16 at_17 out_18=>some (.inl (up_16,at_17,out_18,IntKind.i64.wrap (x_13 + 1))))) else (some (.inr (out_12,up_10)))) (c0up,([]:bf),[],0)) (cg fun out_8 y_9=>some (out_8,y_9)))
theorem fS {F:Nat} {c0up:bf} {r:(List (List Int)) × bf} (h:cu F c0up = some r):ar Try.prog [] 31 [(1,.mq c0up)] [.xa [.row 1]] (Is [(1,.mq r.2),(51,.rr 30 3 1 .none (r.1.map (eR eI)))] (.b (.row 51))):=by
 unfold cu at h
 refine ar.intro 59 Try.func31 Try.ntmps31 rfl (by simp) fun E=>?_
 show ab _ E ⟨59,[1],[1],[]⟩ _ ⟨[(0,.b (.xa [.row 1]))],[(1,.mq c0up)]⟩ _
 refine ab.seq (ab.aa ?_)
 refine Oc (jx (k:=101) rfl rfl rfl rfl) (Oc oa ?_)
 refine ae.ag ⟨[(1,Pt 101 0)],[(1,.mq c0up),(101,.ao 52 [.row 1])]⟩ rfl (ab.seq (ab.aa ?_))
 refine Oc oa (ae.ag ⟨[(1,_),(3,.b (.one (.nil)))],[(1,_),(101,_)]⟩ rfl (ab.seq (ab.seq (ab.aa ?_))))
 refine Oc (bI fU rfl rfl) (Oc (aW jo rfl rfl rfl) (Oc (kI 102 kV rfl rfl (by decide) rfl rfl) ?_))
 refine ae.ag ⟨[(1,_),(3,_),(12,Pt 102 0)],[(101,_),(102,.fL 1 c0up c0up none)]⟩ rfl (ab.cN 3 103 1 3 rfl (by decide) rfl (ab.af ⟨[(1,_),(3,.b (.row 103)),(12,_)],[(101,_),(102,_),(103,.row 3 1 ([].map eI))]⟩ rfl ?_))
 obtain ⟨ks_1,e1,h⟩:=aF h
 obtain ⟨hk2,rfl⟩:=n4 e1
 refine ab.block (ab.loop (fun (q:List Int × bf)=>⟨[(1,Pt 101 0),(3,.b (.row 103)),(12,Pt 102 0)],[(101,.ao 52 [.row 1]),(102,.fL 1 c0up q.2 none),(103,.row 3 1 (q.1.map eI))]⟩) (fun q=>(q.1 ++ q.2.map (·.1)).Perm (c0up.map (·.1))) (fun q=>q.2.length) ([],c0up) (by simp) rfl ?_)
 rintro ⟨vis_2,rs_3⟩ hI3
 refine ab.seq (ab.aa ?_)
 refine ae.nextM rfl rfl rfl (fun hr4=>?_) (fun p_4 r_5 r_6 hr4=>?_)
 ·subst hr4
  have hp5:vis_2.Perm (c0up.map (·.1)):=by simpa using hI3
  refine Oc (aM rfl rfl) (ae.ag ⟨[(1,_),(3,_),(12,_),(14,B false)],[(101,_),(102,.fL 1 c0up [] none),(103,.row 3 1 (vis_2.map eI))]⟩ rfl (ab.seq (ab.qw rfl (ab.exit (Fin.ah ?_)))))
  refine Fin.ah (Fin.af ⟨[(1,_),(3,_),(12,_)],[(101,_),(102,_),(103,_)]⟩ rfl (Fin.np 102 rfl rfl (Fin.ay (Fin.af ⟨[(1,_),(3,_)],[(1,.mq c0up),(101,_),(103,_)]⟩ rfl (Fin.then (ab.seq (ab.aa ?_)))))))
  refine Oc om (ae.jz 103 rfl ?_)
  obtain ⟨x_7,e6,h⟩:=aF h
  refine Oc (bj (own_a:=[(103,_)]) ((dM (F:=F) (me hp5 e6)).sw 1 103) ns rfl ⟨rfl,trivial⟩ rfl rfl) (ae.kg 103 rfl (ae.ag ⟨[(1,_),(3,_)],[(1,_),(101,_),(103,.row 3 1 (x_7.map eI))]⟩ rfl (ab.seq (ab.aa ?_))))
  refine Oc (gD (k:=104) kV rfl) (Oc oa ?_)
  refine ae.ag ⟨[(1,_),(3,_),(5,.b (.row 104))],[(1,_),(101,_),(103,_),(104,.mq ([]:bf))]⟩ rfl (ab.seq (ab.aa ?_))
  refine Oc oa (ae.ag ⟨[(1,_),(3,_),(5,_),(6,.b (.one (.nil)))],[(1,_),(101,_),(103,_),(104,_)]⟩ rfl ?_)
  obtain ⟨v7,h8,h⟩:=aF h
  refine ab.bZ (v:=v7) (cg fun (out_8:List (List Int)) (y_9:bf)=>⟨[(6,.b (.row 106))],[(1,.mq y_9),(106,.rr 30 3 1 .none (out_8.map (eR eI)))]⟩) (fun z=>z) ?_ ?_
  ·refine ab.seq (ab.aa ?_)
   refine Oc om (Oc (fc eW rfl rfl (List.length_map _)) (Oc om ?_))
   refine ae.ag ⟨[(1,_),(5,_),(6,_),(24,.b (.row 103)),(25,I (x_7.length:Int)),(26,I 0)],[(1,_),(101,_),(103,_),(104,_)]⟩ rfl (ab.block (ab.kq 6 106 1 30 3 rfl (by decide) rfl (ab.b9 h8 (un4 fun (up_10:bf) (at_11:bf) (out_12:List (List Int)) (x_13:Int)=>⟨[(1,Pt 101 0),(5,.b (.row 104)),(6,.b (.row 106)),(24,.b (.row 103)),(25,I (x_7.length:Int)),(26,I x_13)],[(1,.mq up_10),(101,.ao 52 [.row 1]),(103,.row 3 1 (x_7.map eI)),(104,.mq at_11),(106,.rr 30 3 1 .none (out_12.map (eR eI)))]⟩) [1,5,6,24,25,26] [1,101,103,104,106] rfl ?_)))
   rintro ⟨up_10,at_11,out_12,x_13⟩ o9 h10 hy11
   refine ab.seq (ab.aa ?_)
   refine Oc (bh rfl rfl) (ae.ag ⟨[(1,_),(5,_),(6,_),(24,_),(25,_),(26,_),(27,B (decide (x_13 < (x_7.length:Int))))],[(1,_),(101,_),(103,_),(104,_),(106,_)]⟩ rfl (ab.seq (ab.ite h10 rfl (fun _ h10=>?_) (fun _ h10=>?_))))
   ·refine ab.skip (Fin.af ⟨[(1,_),(5,_),(6,_),(24,_),(25,_),(26,_)],[(1,_),(101,_),(103,_),(104,_),(106,_)]⟩ rfl (Fin.then ?_))
    obtain ⟨v12,h13,h10⟩:=aF h10
    refine ab.bZ (v:=v12) (kj fun (up_16:bf) (at_17:bf) (out_18:List (List Int))=>⟨[(1,Pt 101 0),(5,.b (.row 104)),(6,.b (.row 106)),(24,.b (.row 103)),(25,I (x_7.length:Int)),(26,I x_13)],[(1,.mq up_16),(101,.ao 52 [.row 1]),(103,.row 3 1 (x_7.map eI)),(104,.mq at_17),(106,.rr 30 3 1 .none (out_18.map (eR eI)))]⟩) (fun z=>z) ?_ ?_
    ·refine ab.block (ab.seq (ab.aa ?_))
     obtain ⟨x_19,e14,h13⟩:=aF h13
     refine Oc (aq ak (aG e14) (aZ e14) rfl rfl rfl rfl) (Oc (aK (i:=(x_13:Int).toNat) (f:=0) ax rfl rfl rfl (aD (e:=eI) e14) rfl) (Oc oa ?_))
     refine ae.ag ⟨[(1,_),(5,_),(6,_),(8,I x_19),(24,_),(25,_),(26,_)],[(1,_),(101,_),(103,_),(104,_),(106,_)]⟩ rfl (ab.seq (ab.aa ?_))
     refine Oc ((cr cA rfl rfl rfl rfl).jP rfl) (Oc om ?_)
     obtain ⟨⟨x_20,x_21⟩,e15,h13⟩:=aF h13
     refine Oc (bj (own_a:=[(1,_)]) (b8 e15) k4 rfl ⟨rfl,trivial⟩ rfl rfl) (Oc oa ?_)
     refine ae.ag ⟨[(1,_),(5,_),(6,_),(8,_),(9,I x_20),(24,_),(25,_),(26,_)],[(1,.mq x_21),(101,_),(103,_),(104,_),(106,_)]⟩ rfl ?_
     obtain ⟨v16,h17,h13⟩:=aF h13
     refine ab.bZ (v:=v16) (cg fun (at_22:bf) (out_23:List (List Int))=>⟨[(1,Pt 101 0),(5,.b (.row 104)),(6,.b (.row 106)),(8,I x_19),(9,I x_20),(24,.b (.row 103)),(25,I (x_7.length:Int)),(26,I x_13)],[(1,.mq x_21),(101,.ao 52 [.row 1]),(103,.row 3 1 (x_7.map eI)),(104,.mq at_22),(106,.rr 30 3 1 .none (out_23.map (eR eI)))]⟩) (fun z=>z) ?_ ?_
     ·refine ab.seq (ab.aa ?_)
      refine Oc om (Oc om (Oc (dB rfl rfl) ?_))
      refine ae.ag ⟨[(1,_),(5,_),(6,_),(8,_),(9,_),(24,_),(25,_),(26,_),(35,B (decide (x_20 = x_19)))],[(1,_),(101,_),(103,_),(104,_),(106,_)]⟩ rfl (ab.ite h17 rfl (fun _ h17=>?_) (fun _ h17=>?_))
      ·refine ab.seq (ab.aa ?_)
       refine Oc om (Oc om (Oc om (Oc (j7 gx rfl rfl (List.length_map _)) (Oc (iW dy rfl rfl rfl rfl) ?_))))
       refine ae.ag ⟨[(1,_),(5,_),(6,_),(8,_),(9,_),(24,_),(25,_),(26,_)],[(1,_),(101,_),(103,_),(104,.mq (cZ at_11 x_19 (out_12.length:Int))),(106,_)]⟩ rfl (ab.aa (Oc om (Oc (au (k:=107) (es:=[[.nil]]) bH rfl rfl (fun ps h=>by simp at h; subst h; rfl) rfl (by decide) (by decide) rfl) ?_)))
       obtain ⟨x_24,e18,h17⟩:=aF h17
       refine Oc (ji bH (rr_b e18) (rr_m e18) rfl rfl rfl rfl (qD e18) rfl) (Oc oa ?_)
       refine ae.nil ?_
       exact Fin.join [1,5,6,8,9,24,25,26] [1,101,103,104,106] (cZ at_11 x_19 (out_12.length:Int),x_24) (Option.some.inj h17) rfl
      ·refine ab.skip ?_
       exact Fin.join [1,5,6,8,9,24,25,26] [1,101,103,104,106] (at_11,out_12) (Option.some.inj h17) rfl
     ·rintro ⟨at_22,out_23⟩ hv
      subst v16
      refine ab.af ⟨[(1,_),(5,_),(6,_),(8,_),(9,_),(24,_),(25,_),(26,_)],[(1,_),(101,_),(103,_),(104,_),(106,_)]⟩ rfl ?_
      obtain ⟨x_25,e19,h13⟩:=aF h13
      obtain ⟨x_26,e20,h13⟩:=aF h13
      obtain ⟨x_27,e21,h13⟩:=aF h13
      refine ab.fC mixed [false,false,false,false,false,false,false,false,false,true,false,false,true,false,true] [.b (.row 106),.b (.row 104),I x_20,I (ca at_22 x_20),.b (.row 106),.b (.row 104),I x_20,I (ca at_22 x_20),.b (.bu 106 (ca at_22 x_20:Int).toNat),.b (.row 108),I x_19,.b (.one (.sl 1 ([x_19].map eI))),.b (.row 110),.b (.bu 106 (ca at_22 x_20:Int).toNat),B true] [⟨[false,false,false,false,false,false,false,false,false,false,false,false,false,false,false],[(1,Pt 101 0),(5,.b (.row 104)),(6,.b (.row 106)),(8,I x_19),(9,I x_20),(24,.b (.row 103)),(25,I (x_7.length:Int)),(26,I x_13)],[(1,.mq x_21),(101,.ao 52 [.row 1]),(103,.row 3 1 (x_7.map eI)),(104,.mq at_22),(106,.rr 30 3 1 .none (out_23.map (eR eI)))],[true,true,true,true,true,true,true,true,true,true,true,true,true,true,true],[],[12,13,14]⟩,⟨[false,false,false,false,false,false,false,false,false,true,false,false,false,false,false],[(1,Pt 101 0),(5,.b (.row 104)),(6,.b (.row 106)),(8,I x_19),(9,I x_20),(24,.b (.row 103)),(25,I (x_7.length:Int)),(26,I x_13)],[(1,.mq x_21),(101,.ao 52 [.row 1]),(103,.row 3 1 (x_7.map eI)),(104,.mq at_22),(106,.rr 30 3 1 (.at (ca at_22 x_20:Int).toNat) (out_23.map (eR eI))),(108,.row 3 1 (x_25.map eI))],[true,true,true,true,true,true,true,true,true,true,true,true,true,true,true],[4,5,6,7,8,9],[13,14]⟩,⟨[false,false,false,false,false,false,false,false,false,true,false,false,true,false,false],[(1,Pt 101 0),(5,.b (.row 104)),(6,.b (.row 106)),(8,I x_19),(9,I x_20),(24,.b (.row 103)),(25,I (x_7.length:Int)),(26,I x_13)],[(1,.mq x_21),(101,.ao 52 [.row 1]),(103,.row 3 1 (x_7.map eI)),(104,.mq at_22),(106,.rr 30 3 1 (.at (ca at_22 x_20:Int).toNat) (out_23.map (eR eI))),(110,.row 3 1 (x_26.map eI))],[true,true,true,true,true,true,true,true,true,true,true,true,true,true,true],[4,5,6,7,8,9,10,11,12],[]⟩,⟨[false,false,false,false,false,false,false,false,false,true,false,false,true,false,true],[(1,Pt 101 0),(5,.b (.row 104)),(6,.b (.row 106)),(8,I x_19),(9,I x_20),(24,.b (.row 103)),(25,I (x_7.length:Int)),(26,I x_13)],[(1,.mq x_21),(101,.ao 52 [.row 1]),(103,.row 3 1 (x_7.map eI)),(104,.mq at_22),(106,.rr 30 3 1 .none ((out_23.set (ca at_22 x_20:Int).toNat x_26).map (eR eI)))],[true,true,true,true,true,true,true,true,true,true,true,true,false,true,true],[0,1,2,3,4,5,6,7,8,9,10,11,12,13,14],[]⟩] rfl (⟨by kernel_rfl,⟨⟨.b (.row 106),fun _=>rfl,fun _=>.p (by exact an rfl)⟩,⟨.b (.row 104),fun _=>rfl,fun _=>.p (by exact an rfl)⟩,⟨I x_20,fun _=>rfl,fun _=>.p (by exact an rfl)⟩,⟨I (ca at_22 x_20),fun _=>rfl,fun _=>.p (by exact ep dy rfl rfl rfl)⟩,⟨.b (.row 106),fun _=>rfl,fun _=>.p (by exact an rfl)⟩,⟨.b (.row 104),fun _=>rfl,fun _=>.p (by exact an rfl)⟩,⟨I x_20,fun _=>rfl,fun _=>.p (by exact an rfl)⟩,⟨I (ca at_22 x_20),fun _=>rfl,fun _=>.p (by exact ep dy rfl rfl rfl)⟩,⟨.b (.bu 106 (ca at_22 x_20:Int).toNat),fun _=>rfl,fun _=>.p (by exact cU bH (aG e19) (aZ e19) rfl rfl rfl rfl)⟩,⟨_,[108],.b (.row 108),rfl,fun _=>rfl,rfl,rfl,fun _=>.eV [1,101,103,104,106,108] (by exact .p (by exact im (i:=(ca at_22 x_20:Int).toNat) 108 aT rfl rfl rfl (aD (e:=eR eI) e19) (by decide) rfl rfl)) (by exact rfl)⟩,⟨I x_19,fun _=>rfl,fun _=>.p (by exact an rfl)⟩,⟨.b (.one (.sl 1 ([x_19].map eI))),fun _=>rfl,fun _=>.p (by exact bC (es:=[x_19].map eI) ak rfl rfl (aS fun _=>rfl) rfl (by decide) (by decide))⟩,trivial,trivial,trivial,trivial⟩,⟨by kernel_rfl,⟨⟨.b (.row 106),fun _=>rfl,fun _=>.p (by exact an rfl)⟩,⟨.b (.row 104),fun _=>rfl,fun _=>.p (by exact an rfl)⟩,⟨I x_20,fun _=>rfl,fun _=>.p (by exact an rfl)⟩,⟨I (ca at_22 x_20),fun _=>rfl,fun _=>.p (by exact ep dy rfl rfl rfl)⟩,trivial,trivial,trivial,trivial,trivial,trivial,⟨I x_19,fun _=>rfl,fun _=>.p (by exact an rfl)⟩,⟨.b (.one (.sl 1 ([x_19].map eI))),fun _=>rfl,fun _=>.p (by exact bC (es:=[x_19].map eI) ak rfl rfl (aS fun _=>rfl) rfl (by decide) (by decide))⟩,⟨_,[110],.b (.row 110),rfl,fun _=>rfl,rfl,rfl,fun _=>.eV [1,101,103,104,106,110] (by exact .p (by exact kK (k2:=110) ak (c7 e20) (c6 e20) rfl rfl rfl (bW e20) rfl rfl rfl rfl rfl)) (by exact rfl)⟩,trivial,trivial,trivial⟩,⟨by kernel_rfl,⟨⟨.b (.row 106),fun _=>rfl,fun _=>.p (by exact an rfl)⟩,⟨.b (.row 104),fun _=>rfl,fun _=>.p (by exact an rfl)⟩,⟨I x_20,fun _=>rfl,fun _=>.p (by exact an rfl)⟩,⟨I (ca at_22 x_20),fun _=>rfl,fun _=>.p (by exact ep dy rfl rfl rfl)⟩,trivial,trivial,trivial,trivial,trivial,trivial,trivial,trivial,trivial,⟨.b (.bu 106 (ca at_22 x_20:Int).toNat),fun _=>rfl,fun _=>.p (by exact cU bH (aG e21) (aZ e21) rfl rfl rfl rfl)⟩,⟨_,[110],.b (.one .any),rfl,(fun e=>by simp at e),rfl,rfl,fun _=>.eV [1,101,103,104,106] (by exact .p (by exact gC aT rfl rfl rfl rfl rfl (eG e21) (by decide) (lQ _ _ _ _))) (by exact rfl)⟩,trivial⟩,⟨by kernel_rfl,⟨trivial,trivial,trivial,trivial,trivial,trivial,trivial,trivial,trivial,trivial,trivial,trivial,trivial,trivial,trivial,trivial⟩,trivial⟩⟩⟩⟩) rfl rfl rfl [1,5,6,24,25,26] [1,101,103,104,106] (s':=⟨[(1,_),(5,_),(6,_),(24,_),(25,_),(26,_)],[(1,_),(101,_),(103,_),(104,_),(106,.rr 30 3 1 .none ((out_23.set (ca at_22 x_20:Int).toNat x_26).map (eR eI)))]⟩) rfl ?_
      refine Fin.ai ?_
      exact Fin.join [1,5,6,24,25,26] [1,101,103,104,106] (x_21,at_22,out_23.set (ca at_22 x_20:Int).toNat x_26) (Option.some.inj h13) rfl
    ·rintro ⟨up_16,at_17,out_18⟩ hv
     subst v12
     refine ab.aa (Oc (aX rfl rfl) (Oc om ?_))
     refine ae.nil ?_
     exact Fin.bw [1,5,6,24,25,26] [1,101,103,104,106] (up_16,at_17,out_18,IntKind.i64.wrap (x_13 + 1)) (Option.some.inj h10) rfl
   ·refine ab.exit (Fin.ah ?_)
    obtain rfl:=hy11 _ (Option.some.inj h10).symm
    refine Fin.ah (Fin.ay ?_)
    exact Fin.join [6] [1,106] (out_12,up_10) rfl rfl
  ·rintro ⟨out_8,y_9⟩ hv
   subst v7
   refine ab.seq (ab.aa ?_)
   refine Oc om (Oc oa ?_)
   refine ae.ag ⟨[(2,.b (.row 106))],[(1,_),(106,_)]⟩ rfl (ab.ret ?_)
   obtain rfl:=Option.some.inj h
   refine Fin.af ⟨[(2,.b (.row 106))],[(1,.mq y_9),(106,.rr 30 3 1 .none (out_8.map (eR eI)))]⟩ rfl (Fin.rename 106 51 rfl (by decide) rfl (Fin.af ⟨[(2,.b (.row 51))],[(1,_),(51,.rr 30 3 1 .none (out_8.map (eR eI)))]⟩ rfl ?_))
   exact Fin.result [.row 51] (.inl rfl) rfl (.cons (.tmp rfl) .nil) ⟨rfl,rfl⟩
 ·subst hr4
  refine Oc (aM rfl rfl) (ae.ag ⟨[(1,_),(3,_),(12,_),(14,B true)],[(101,_),(102,.fL 1 c0up (r_5 ++ r_6) (some p_4)),(103,.row 3 1 (vis_2.map eI))]⟩ rfl (ab.seq (ab.qv rfl (ab.skip (Fin.af ⟨[(1,_),(3,_),(12,_)],[(101,_),(102,_),(103,_)]⟩ rfl ?_)))))
  refine Fin.then (ab.block (ab.seq (ab.aa ?_)))
  refine Oc (kJ rfl rfl) (Oc (aM rfl rfl) (Oc oa ?_))
  refine ae.ag ⟨[(1,_),(3,_),(4,I p_4.1),(12,_)],[(101,_),(102,_),(103,_)]⟩ rfl (ab.aa (Oc om (Oc om (Oc (au (k:=111) (es:=[p_4.1].map eI) ak rfl rfl (aS fun _=>rfl) rfl (by decide) (by decide) rfl) (Oc (bq ak (c7 (ij (fj hI3 hk2))) (c6 (ij (fj hI3 hk2))) rfl rfl rfl rfl (bW (ij (fj hI3 hk2))) rfl) (Oc oa ?_))))))
  refine ae.nil (Fin.ai (Fin.af ⟨[(1,_),(3,_),(12,_)],[(101,_),(102,_),(103,.row 3 1 ((vis_2 ++ [p_4.1]).map eI))]⟩ rfl (Fin.nn 102 rfl ?_)))
  exact Fin.again ((vis_2 ++ [p_4.1]),r_5 ++ r_6) (lJ hI3) (by simp) rfl
def fy (F:Nat) (fixed0:List Bool) (links0:List A2):Option ((List (List Int)) × Int) :=
 (cc F fixed0 links0).bind fun x_1=>if (!x_1) = true then (some ([],1)) else (Option.bind (du F fixed0 links0) (cg fun x_2 x_3=>Option.bind (bz F x_2) (cg fun x_4 x_5=>some (x_4,0))))
theorem lC {F:Nat} {fixed0:List Bool} {links0:List A2} {r:(List (List Int)) × Int} (h:fy F fixed0 links0 = some r):ar Try.prog [] 12 [] [.one (.sl 1 (fixed0.map eB)),.one (.sl 2 (links0.map (cR .i64)))] (Is [] (.eo [.one (.sl 1 (r.1.map (eL 1 eI))),.one (.i r.2)])):=by
 unfold fy at h
 refine ar.intro 20 Try.func12 Try.ntmps12 rfl (by simp) fun E=>?_
 show ab _ E ⟨20,[],[],[]⟩ _ ⟨[(0,.b (.one (.sl 1 (fixed0.map eB)))),(1,.b (.one (.sl 2 (links0.map (cR .i64)))))],[]⟩ _
 refine ab.seq (ab.aa ?_)
 refine Oc oa (Oc oa ?_)
 refine ae.ag ⟨[(0,.b (.one (.sl 1 (fixed0.map eB)))),(1,.b (.one (.sl 2 (links0.map (cR .i64)))))],[]⟩ rfl (ab.seq (ab.seq (ab.aa ?_)))
 refine Oc om (Oc om ?_)
 obtain ⟨x_1,e1,h⟩:=aF h
 refine Oc (aP (cm e1) k5 rfl rfl) (Oc (dg rfl) ?_)
 refine ae.ag ⟨[(0,_),(1,_),(11,B (!x_1))],[]⟩ rfl (ab.ite h rfl (fun _ h=>?_) (fun _ h=>?_))
 ·refine ab.seq (ab.aa ?_)
  refine Oc oa (Oc oa ?_)
  refine ae.ag ⟨[(4,.b (.one (.nil))),(5,I 1)],[]⟩ rfl (ab.ret (Fin.aO ?_))
  obtain rfl:=Option.some.inj h
  refine Fin.af ⟨[(4,_),(5,_)],[]⟩ rfl (Fin.gT 4 1 rfl (by decide) (Fin.a6 [.one (.sl 1 ([].map (eL 1 eI))),.one (.i 1)] (.inl rfl) rfl (.cons (.tmp rfl) (.cons (.tmp rfl) .nil)) ⟨rfl,rfl⟩))
 ·refine ab.skip (Fin.af ⟨[(0,_),(1,_)],[]⟩ rfl (Fin.then (ab.seq (ab.aa ?_))))
  refine Oc om (Oc om ?_)
  obtain ⟨⟨x_2,x_3⟩,e2,h⟩:=aF h
  refine Oc (bj (own_a:=[]) (((eh e2).sw 51 101).sw 52 102) oN rfl trivial rfl rfl) (Oc om (Oc (aM rfl rfl) ?_))
  refine ae.af ⟨[(12,.eo [.xa [.row 101],.row 102]),(16,.b (.xa [.row 101]))],[(101,.mq x_2),(102,.row 3 1 (x_3.map eI))]⟩ rfl (Oc (aM rfl rfl) (Oc (bn (k:=103) gV rfl) ?_))
  refine ae.mK 103 rfl (Oc (ez cA rfl rfl rfl rfl rfl (Nat.le_of_ble_eq_true rfl) rfl) (Oc oa ?_))
  refine ae.ag ⟨[(6,Pt 103 0)],[(101,.mq x_2),(103,.ao 52 [.row 101])]⟩ rfl (ab.seq (ab.aa ?_))
  refine Oc ((cr cA rfl rfl rfl rfl).jP rfl) ?_
  obtain ⟨⟨x_4,x_5⟩,e3,h⟩:=aF h
  refine Oc (bj (own_a:=[(101,_)]) ((dT e3).sw 1 101) oM rfl ⟨rfl,trivial⟩ rfl rfl) (Oc oa (Oc oa ?_))
  refine ae.ag ⟨[(4,.b (.one (.sl 1 (x_4.map (eL 1 eI))))),(5,I 0)],[]⟩ rfl (ab.ret ?_)
  obtain rfl:=Option.some.inj h
  refine Fin.af ⟨[(4,_),(5,_)],[]⟩ rfl (Fin.a6 [.one (.sl 1 (x_4.map (eL 1 eI))),.one (.i 0)] (.inl rfl) rfl (.cons (.tmp rfl) (.cons (.tmp rfl) .nil)) ⟨rfl,rfl⟩)
def dN (F:Nat) (fixed0:List Bool) (links0:List A2):Option ((List (List Int)) × Int) :=
 (cc F fixed0 links0).bind fun x_1=>if (!x_1) = true then (some ([],1)) else (Option.bind (du F fixed0 links0) (cg fun x_2 x_3=>Option.bind (cu F x_2) (cg fun x_4 x_5=>some (x_4,0))))
theorem jC {F:Nat} {fixed0:List Bool} {links0:List A2} {r:(List (List Int)) × Int} (h:dN F fixed0 links0 = some r):ar Try.prog [] 12 [] [.one (.sl 1 (fixed0.map eB)),.one (.sl 2 (links0.map (cR .i64)))] (Is [(51,.rr 30 3 1 .none (r.1.map (eR eI)))] (.eo [.row 51,.one (.i r.2)])):=by
 unfold dN at h
 refine ar.intro 20 Try.func12 Try.ntmps12 rfl (by simp) fun E=>?_
 show ab _ E ⟨20,[],[],[]⟩ _ ⟨[(0,.b (.one (.sl 1 (fixed0.map eB)))),(1,.b (.one (.sl 2 (links0.map (cR .i64)))))],[]⟩ _
 refine ab.seq (ab.aa ?_)
 refine Oc oa (Oc oa ?_)
 refine ae.ag ⟨[(0,.b (.one (.sl 1 (fixed0.map eB)))),(1,.b (.one (.sl 2 (links0.map (cR .i64)))))],[]⟩ rfl (ab.seq (ab.seq (ab.aa ?_)))
 refine Oc om (Oc om ?_)
 obtain ⟨x_1,e1,h⟩:=aF h
 refine Oc (aP (cm e1) k5 rfl rfl) (Oc (dg rfl) ?_)
 refine ae.ag ⟨[(0,_),(1,_),(11,B (!x_1))],[]⟩ rfl (ab.ite h rfl (fun _ h=>?_) (fun _ h=>?_))
 ·refine ab.seq (ab.aa ?_)
  refine Oc oa (Oc oa ?_)
  refine ae.ag ⟨[(4,.b (.one (.nil))),(5,I 1)],[]⟩ rfl (ab.ret (Fin.aO ?_))
  obtain rfl:=Option.some.inj h
  refine Fin.af ⟨[(4,_),(5,_)],[]⟩ rfl (Fin.kq 4 51 1 30 3 rfl (by decide) rfl (Fin.af ⟨[(4,.b (.row 51)),(5,_)],[(51,.rr 30 3 1 .none ([].map (eR eI)))]⟩ rfl ?_))
  exact Fin.result [.row 51,.one (.i 1)] (.inl rfl) rfl (.cons (.tmp rfl) (.cons (.tmp rfl) .nil)) ⟨rfl,rfl⟩
 ·refine ab.skip (Fin.af ⟨[(0,_),(1,_)],[]⟩ rfl (Fin.then (ab.seq (ab.aa ?_))))
  refine Oc om (Oc om ?_)
  obtain ⟨⟨x_2,x_3⟩,e2,h⟩:=aF h
  refine Oc (bj (own_a:=[]) (((eh e2).sw 51 101).sw 52 102) oN rfl trivial rfl rfl) (Oc om (Oc (aM rfl rfl) ?_))
  refine ae.af ⟨[(12,.eo [.xa [.row 101],.row 102]),(16,.b (.xa [.row 101]))],[(101,.mq x_2),(102,.row 3 1 (x_3.map eI))]⟩ rfl (Oc (aM rfl rfl) (Oc (bn (k:=103) gV rfl) ?_))
  refine ae.mK 103 rfl (Oc (ez cA rfl rfl rfl rfl rfl (Nat.le_of_ble_eq_true rfl) rfl) (Oc oa ?_))
  refine ae.ag ⟨[(6,Pt 103 0)],[(101,.mq x_2),(103,.ao 52 [.row 101])]⟩ rfl (ab.seq (ab.aa ?_))
  refine Oc ((cr cA rfl rfl rfl rfl).jP rfl) ?_
  obtain ⟨⟨x_4,x_5⟩,e3,h⟩:=aF h
  refine Oc (bj (own_a:=[(101,_)]) (((fS e3).sw 1 101).sw 51 104) oM rfl ⟨rfl,trivial⟩ rfl rfl) (Oc oa (Oc oa ?_))
  refine ae.ag ⟨[(4,.b (.row 104)),(5,I 0)],[(104,.rr 30 3 1 .none (x_4.map (eR eI)))]⟩ rfl (ab.ret ?_)
  obtain rfl:=Option.some.inj h
  refine Fin.af ⟨[(4,.b (.row 104)),(5,I 0)],[(104,.rr 30 3 1 .none (x_4.map (eR eI)))]⟩ rfl (Fin.rename 104 51 rfl (by decide) rfl (Fin.af ⟨[(4,.b (.row 51)),(5,_)],[(51,.rr 30 3 1 .none (x_4.map (eR eI)))]⟩ rfl ?_))
  exact Fin.result [.row 51,.one (.i 0)] (.inl rfl) rfl (.cons (.tmp rfl) (.cons (.tmp rfl) .nil)) ⟨rfl,rfl⟩
def c4 (F:Nat) (n0:Int) (links0:List A2) (places0:List Int):Option (List (List km)) :=
 Option.bind (mk? ([]:List km) n0 n0) (fun x_1=>Option.bind (iter F (cg fun out_3 x_4=>if (decide (x_4 < (places0.length:Int))) = true then ((aV places0 x_4).bind fun x_6=>(aV links0 x_6).bind fun x_7=>(aV links0 x_6).bind fun x_8=>(aV out_3 x_7.a0).bind fun x_9=>(df x_9 [(⟨x_8.a1,x_6⟩:km)]).bind fun x_10=>(aV out_3 x_7.a0).bind fun x_11=>(aV (out_3.set (x_7.a0:Int).toNat x_10) x_8.a1).bind fun x_12=>(df x_12 [(⟨x_7.a0,x_6⟩:km)]).bind fun x_13=>(aV (out_3.set (x_7.a0:Int).toNat x_10) x_8.a1).bind fun x_14=>some (.inl ((out_3.set (x_7.a0:Int).toNat x_10).set (x_8.a1:Int).toNat x_13,IntKind.i64.wrap (x_4 + 1)))) else (some (.inr out_3))) (x_1,0)) (fun out_2=>some out_2))
theorem eU {F:Nat} {n0:Int} {links0:List A2} {places0:List Int} {r:(List (List km))} (h:c4 F n0 links0 places0 = some r):ar Try.prog [] 32 [] [.one (.i n0),.one (.sl 2 (links0.map (cR .i64))),.one (.sl 1 (places0.map eI))] (Is [] (.b (.one (.sl 1 (r.map (eL 2 aR)))))):=by
 unfold c4 at h
 refine ar.intro 56 Try.func32 Try.ntmps32 rfl (by simp) fun E=>?_
 show ab _ E ⟨56,[],[],[]⟩ _ ⟨[(0,I n0),(1,.b (.one (.sl 2 (links0.map (cR .i64))))),(2,.b (.one (.sl 1 (places0.map eI))))],[]⟩ _
 refine ab.seq (ab.aa ?_)
 refine Oc oa (ae.ag ⟨[(0,I n0),(1,.b (.one (.sl 2 (links0.map (cR .i64))))),(2,.b (.one (.sl 1 (places0.map eI))))],[]⟩ rfl (ab.seq (ab.aa ?_)))
 refine Oc om ?_
 obtain ⟨x_1,e1,h⟩:=aF h
 refine Oc ((bl (k:=101) (enc:=fun _=>[CP.nil]) jT e1 (by decide) (.cons .refl .nil) rfl rfl rfl).oA 101 60 2 rfl (ru _) (by decide) (rr_mk (e:=aR) e1)) (Oc oa ?_)
 refine ae.ag ⟨[(1,_),(2,_),(7,.b (.row 101))],[(101,.rr 58 60 2 .none (x_1.map (eR aR)))]⟩ rfl ?_
 obtain ⟨v2,h3,h⟩:=aF h
 refine ab.bZ (v:=v2) (fun (out_2:List (List km))=>⟨[(7,.b (.row 101))],[(101,.rr 58 60 2 .none (out_2.map (eR aR)))]⟩) (fun z=>z) ?_ ?_
 ·refine ab.seq (ab.aa ?_)
  refine Oc om (Oc (az eW rfl (List.length_map _)) (Oc om ?_))
  refine ae.ag ⟨[(1,_),(7,_),(14,.b (.one (.sl 1 (places0.map eI)))),(15,I (places0.length:Int)),(16,I 0)],[(101,_)]⟩ rfl (ab.block (ab.b9 h3 (cg fun (out_3:List (List km)) (x_4:Int)=>⟨[(1,.b (.one (.sl 2 (links0.map (cR .i64))))),(7,.b (.row 101)),(14,.b (.one (.sl 1 (places0.map eI)))),(15,I (places0.length:Int)),(16,I x_4)],[(101,.rr 58 60 2 .none (out_3.map (eR aR)))]⟩) [1,7,14,15,16] [101] rfl ?_))
  rintro ⟨out_3,x_4⟩ o4 h5 hy6
  refine ab.seq (ab.aa ?_)
  refine Oc (bh rfl rfl) (ae.ag ⟨[(1,_),(7,_),(14,_),(15,_),(16,_),(17,B (decide (x_4 < (places0.length:Int))))],[(101,_)]⟩ rfl (ab.seq (ab.ite h5 rfl (fun _ h5=>?_) (fun _ h5=>?_))))
  ·refine ab.skip (Fin.af ⟨[(1,_),(7,_),(14,_),(15,_),(16,_)],[(101,_)]⟩ rfl (Fin.then (ab.seq (ab.block (ab.seq (ab.aa ?_))))))
   obtain ⟨x_6,e7,h5⟩:=aF h5
   refine Oc (aH ak (aG e7) (aD (e:=eI) e7) rfl rfl) (Oc (aB ax rfl rfl) (Oc oa ?_))
   refine ae.ag ⟨[(1,_),(7,_),(9,I x_6),(14,_),(15,_),(16,_)],[(101,_)]⟩ rfl (ab.seq ?_)
   obtain ⟨x_7,e8,h5⟩:=aF h5
   obtain ⟨x_8,e9,h5⟩:=aF h5
   refine ab.dz mixed 12 [.b (.one (.sl 2 (links0.map (cR .i64)))),I x_6,.b (.cz ((cR .i64) x_7)),.b (.cz [.i x_7.a0]),I x_7.a0,.b (.one (.sl 2 (links0.map (cR .i64)))),I x_6,.b (.cz ((cR .i64) x_8)),.b (.cz [.i x_8.a1]),I x_8.a1,I x_7.a0,I x_8.a1] [1,7,9,10,11,14,15,16] [101] (s':=⟨[(1,_),(7,_),(9,_),(10,I x_7.a0),(11,I x_8.a1),(14,_),(15,_),(16,_)],[(101,_)]⟩) rfl ⟨fun _=>.p om,fun _=>.p om,fun _=>.p (aH hU (aG e8) (aD (e:=(cR .i64)) e8) rfl rfl),fun _=>.p (gE fl (by decide) (by decide) rfl rfl rfl),fun _=>.p (aB ax rfl rfl),fun _=>.p om,fun _=>.p om,fun _=>.p (aH hU (aG e9) (aD (e:=(cR .i64)) e9) rfl rfl),fun _=>.p (gE fl (by decide) (by decide) rfl rfl rfl),fun _=>.p (aB ax rfl rfl),fun _=>.p oa,fun _=>.p oa,trivial⟩ rfl rfl (ab.seq (ab.aa ?_))
   refine Oc om (Oc om (Oc om (Oc om ?_)))
   obtain ⟨x_9,e10,h5⟩:=aF h5
   refine Oc (cU jT (aG e10) (aZ e10) rfl rfl rfl rfl) (Oc (im (i:=(x_7.a0:Int).toNat) 102 jm rfl rfl rfl (aD (e:=eR aR) e10) (by decide) rfl rfl) (Oc om ?_))
   refine ae.af ⟨[(1,_),(7,_),(9,_),(10,_),(11,_),(14,_),(15,_),(16,_),(30,.b (.row 101)),(31,I x_7.a0),(35,.b (.row 102)),(36,I x_8.a1)],[(101,.rr 58 60 2 (.at (x_7.a0:Int).toNat) (out_3.map (eR aR))),(102,.row 60 2 (x_9.map aR))]⟩ rfl (Oc om (Oc (n3 mR rfl rfl) (Oc (au (k:=103) (es:=[(⟨x_8.a1,x_6⟩:km)].map aR) kW rfl rfl (aS fun _=>rfl) rfl (by decide) (by decide) rfl) ?_)))
   obtain ⟨x_10,e11,h5⟩:=aF h5
   refine Oc (bq kW (c7 e11) (c6 e11) rfl rfl rfl rfl (bW e11) rfl) ?_
   obtain ⟨x_11,e12,h5⟩:=aF h5
   refine Oc (cU jT (aG e12) (aZ e12) rfl rfl rfl rfl) (Oc (gC jm rfl rfl rfl rfl rfl (eG e12) (by decide) (lQ _ _ _ _)) ?_)
   refine ae.ag ⟨[(1,_),(7,_),(9,_),(10,_),(11,_),(14,_),(15,_),(16,_)],[(101,.rr 58 60 2 .none ((out_3.set (x_7.a0:Int).toNat x_10).map (eR aR)))]⟩ rfl (ab.aa (Oc om (Oc om (Oc om (Oc om ?_)))))
   obtain ⟨x_12,e13,h5⟩:=aF h5
   refine Oc (cU jT (aG e13) (aZ e13) rfl rfl rfl rfl) (Oc (im (i:=(x_8.a1:Int).toNat) 104 jm rfl rfl rfl (aD (e:=eR aR) e13) (by decide) rfl rfl) (Oc om ?_))
   refine ae.af ⟨[(1,_),(7,_),(9,_),(14,_),(15,_),(16,_),(42,.b (.row 101)),(43,I x_8.a1),(47,.b (.row 104)),(48,I x_7.a0)],[(101,.rr 58 60 2 (.at (x_8.a1:Int).toNat) ((out_3.set (x_7.a0:Int).toNat x_10).map (eR aR))),(104,.row 60 2 (x_12.map aR))]⟩ rfl (Oc om (Oc (n3 mR rfl rfl) (Oc (au (k:=105) (es:=[(⟨x_7.a0,x_6⟩:km)].map aR) kW rfl rfl (aS fun _=>rfl) rfl (by decide) (by decide) rfl) ?_)))
   obtain ⟨x_13,e14,h5⟩:=aF h5
   refine Oc (bq kW (c7 e14) (c6 e14) rfl rfl rfl rfl (bW e14) rfl) ?_
   obtain ⟨x_14,e15,h5⟩:=aF h5
   refine Oc (cU jT (aG e15) (aZ e15) rfl rfl rfl rfl) (Oc (gC jm rfl rfl rfl rfl rfl (eG e15) (by decide) (lQ _ _ _ _)) ?_)
   refine ae.nil (Fin.ai (Fin.af ⟨[(1,_),(7,_),(14,_),(15,_),(16,_)],[(101,.rr 58 60 2 .none (((out_3.set (x_7.a0:Int).toNat x_10).set (x_8.a1:Int).toNat x_13).map (eR aR)))]⟩ rfl (Fin.then (ab.aa ?_))))
   refine Oc (aX rfl rfl) (Oc om ?_)
   refine ae.nil ?_
   exact Fin.bw [1,7,14,15,16] [101] ((out_3.set (x_7.a0:Int).toNat x_10).set (x_8.a1:Int).toNat x_13,IntKind.i64.wrap (x_4 + 1)) (Option.some.inj h5) rfl
  ·refine ab.exit (Fin.ah ?_)
   obtain rfl:=hy6 _ (Option.some.inj h5).symm
   refine Fin.ah (Fin.ay ?_)
   exact Fin.join [7] [101] out_3 rfl rfl
 ·rintro out_2 hv
  subst v2
  refine ab.seq (ab.aa ?_)
  refine Oc om (Oc oa ?_)
  refine ae.ag ⟨[(6,.b (.row 101))],[(101,_)]⟩ rfl (ab.ret ?_)
  obtain rfl:=Option.some.inj h
  refine Fin.af ⟨[(6,_)],[(101,_)]⟩ rfl (Fin.jv 101 rfl (rr_sl _) (Fin.a6 [.one (.sl 1 (out_2.map (eL 2 aR)))] (.inl rfl) rfl (.cons (.tmp rfl) .nil) ⟨rfl,rfl⟩))
def dY (F:Nat) (fixed0:List Bool) (links0:List A2):Option ((List Int) × Int) :=
 (cc F fixed0 links0).bind fun x_1=>if (!x_1) = true then (some ([],1)) else (Option.bind (mk? (0:Int) (links0.length:Int) (links0.length:Int)) (fun x_2=>Option.bind (iter F (cg fun places_4 x_5=>if (decide (x_5 < (x_2.length:Int))) = true then ((aV places_4 x_5).bind fun x_7=>some (.inl (places_4.set (x_5:Int).toNat x_5,IntKind.i64.wrap (x_5 + 1)))) else (some (.inr places_4))) (x_2,0)) (fun places_3=>(c4 F (fixed0.length:Int) links0 places_3).bind fun x_8=>Option.bind (iter F (kj fun out_11 queue_12 x_13=>if (decide (x_13 < (fixed0.length:Int))) = true then (Option.bind ((aV fixed0 x_13).bind fun x_18=>(df out_11 [(-1)]).bind fun x_19=>if x_18 = true then ((aV x_19 x_13).bind fun x_20=>(df queue_12 [x_13]).bind fun x_21=>some (x_19.set (x_13:Int).toNat 0,x_21)) else (some (x_19,queue_12))) (cg fun out_16 queue_17=>some (.inl (out_16,queue_17,IntKind.i64.wrap (x_13 + 1))))) else (some (.inr (out_11,queue_12)))) ([],[],0)) (cg fun out_9 queue_10=>Option.bind (iter F (cg fun out_23 queue_24=>if (decide (0 < (queue_24.length:Int))) = true then ((aV queue_24 0).bind fun x_26=>(nR queue_24 1).bind fun x_27=>(aV x_8 x_26).bind fun x_28=>Option.bind (iter F (kj fun out_29 queue_30 x_31=>if (decide (x_31 < (x_28.length:Int))) = true then (Option.bind ((aV x_28 x_31).bind fun x_36=>(aV out_29 x_36.to).bind fun x_37=>if (decide (x_37 < 0)) = true then ((aV out_29 x_26).bind fun x_38=>(aV out_29 x_36.to).bind fun x_39=>(df queue_30 [x_36.to]).bind fun x_40=>some (out_29.set (x_36.to:Int).toNat (IntKind.i64.wrap (x_38 + 1)),x_40)) else (some (out_29,queue_30))) (cg fun out_34 queue_35=>some (.inl (out_34,queue_35,IntKind.i64.wrap (x_31 + 1))))) else (some (.inr (out_29,queue_30)))) (out_23,x_27,0)) (cg fun out_32 queue_33=>some (.inl (out_32,queue_33)))) else (some (.inr out_23))) (out_9,queue_10)) (fun out_22=>some (out_22,0))))))
theorem gn (kr0:Nat) {F:Nat} {fixed0:List Bool} {links0:List A2} {r:(List Int) × Int} (h:dY F fixed0 links0 = some r):ar Try.prog [] 13 [] [.one (.sl 1 (fixed0.map eB)),.one (.sl 2 (links0.map (cR .i64)))] (Is [(kr0,.row 3 1 (r.1.map eI))] (.eo [.row kr0,.one (.i r.2)])):=by
 unfold dY at h
 refine ar.intro 96 Try.func13 Try.ntmps13 rfl (by simp) fun E=>?_
 show ab _ E ⟨96,[],[],[]⟩ _ ⟨[(0,.b (.one (.sl 1 (fixed0.map eB)))),(1,.b (.one (.sl 2 (links0.map (cR .i64)))))],[]⟩ _
 refine ab.seq (ab.aa ?_)
 refine Oc oa (Oc oa ?_)
 refine ae.ag ⟨[(0,.b (.one (.sl 1 (fixed0.map eB)))),(1,.b (.one (.sl 2 (links0.map (cR .i64)))))],[]⟩ rfl (ab.seq (ab.seq (ab.aa ?_)))
 refine Oc om (Oc om ?_)
 obtain ⟨x_1,e1,h⟩:=aF h
 refine Oc (aP (cm e1) k5 rfl rfl) (Oc (dg rfl) ?_)
 refine ae.ag ⟨[(0,_),(1,_),(19,B (!x_1))],[]⟩ rfl (ab.ite h rfl (fun _ h=>?_) (fun _ h=>?_))
 ·refine ab.seq (ab.aa ?_)
  refine Oc oa (Oc oa ?_)
  refine ae.ag ⟨[(4,.b (.one (.nil))),(5,I 1)],[]⟩ rfl (ab.ret (Fin.aO ?_))
  obtain rfl:=Option.some.inj h
  refine Fin.af ⟨[(4,_),(5,_)],[]⟩ rfl (Fin.cN 4 101 1 3 rfl (by decide) rfl (Fin.ic 101 kr0 [.row 101,.one (.i 1)] (.inl rfl) rfl (.cons (.tmp rfl) (.cons (.tmp rfl) .nil)) rfl rfl rfl rfl ⟨rfl,rfl⟩))
 ·refine ab.skip (Fin.af ⟨[(0,_),(1,_)],[]⟩ rfl (Fin.then (ab.seq (ab.aa ?_))))
  refine Oc om (Oc (az qo rfl (List.length_map _)) ?_)
  obtain ⟨x_2,e2,h⟩:=aF h
  refine Oc (bl (k:=102) (enc:=eI) ak e2 (by decide) (.cons .refl .nil) rfl rfl rfl) (Oc oa ?_)
  refine ae.ag ⟨[(0,_),(1,_),(6,.b (.row 102))],[(102,.row 3 1 (x_2.map eI))]⟩ rfl ?_
  obtain ⟨v3,h4,h⟩:=aF h
  refine ab.bZ (v:=v3) (fun (places_3:List Int)=>⟨[(0,.b (.one (.sl 1 (fixed0.map eB)))),(1,.b (.one (.sl 2 (links0.map (cR .i64))))),(6,.b (.row 102))],[(102,.row 3 1 (places_3.map eI))]⟩) (fun z=>z) ?_ ?_
  ·refine ab.seq (ab.aa ?_)
   refine Oc om (Oc (fc eW rfl rfl (List.length_map _)) (Oc om ?_))
   refine ae.ag ⟨[(0,_),(1,_),(6,_),(24,I (x_2.length:Int)),(25,I 0)],[(102,_)]⟩ rfl (ab.block (ab.b9 h4 (cg fun (places_4:List Int) (x_5:Int)=>⟨[(0,.b (.one (.sl 1 (fixed0.map eB)))),(1,.b (.one (.sl 2 (links0.map (cR .i64))))),(6,.b (.row 102)),(24,I (x_2.length:Int)),(25,I x_5)],[(102,.row 3 1 (places_4.map eI))]⟩) [0,1,6,24,25] [102] rfl ?_))
   rintro ⟨places_4,x_5⟩ o5 h6 hy7
   refine ab.seq (ab.aa ?_)
   refine Oc (bh rfl rfl) (ae.ag ⟨[(0,_),(1,_),(6,_),(24,_),(25,_),(26,B (decide (x_5 < (x_2.length:Int))))],[(102,_)]⟩ rfl (ab.seq (ab.ite h6 rfl (fun _ h6=>?_) (fun _ h6=>?_))))
   ·refine ab.skip (Fin.af ⟨[(0,_),(1,_),(6,_),(24,_),(25,_)],[(102,_)]⟩ rfl (Fin.then (ab.seq (ab.block (ab.seq (ab.aa ?_))))))
    refine Oc om (Oc oa ?_)
    refine ae.ag ⟨[(0,_),(1,_),(6,_),(7,I x_5),(24,_),(25,_)],[(102,_)]⟩ rfl (ab.aa (Oc om (Oc om (Oc om ?_))))
    obtain ⟨x_7,e8,h6⟩:=aF h6
    refine Oc (aq ak (aG e8) (aZ e8) rfl rfl rfl rfl) (Oc (bP (i:=(x_5:Int).toNat) ax rfl rfl rfl rfl (eG e8) (map_set _ _ _ _)) ?_)
    refine ae.nil (Fin.ai (Fin.af ⟨[(0,_),(1,_),(6,_),(24,_),(25,_)],[(102,.row 3 1 ((places_4.set (x_5:Int).toNat x_5).map eI))]⟩ rfl (Fin.then (ab.aa ?_))))
    refine Oc (aX rfl rfl) (Oc om ?_)
    refine ae.nil ?_
    exact Fin.bw [0,1,6,24,25] [102] (places_4.set (x_5:Int).toNat x_5,IntKind.i64.wrap (x_5 + 1)) (Option.some.inj h6) rfl
   ·refine ab.exit (Fin.ah ?_)
    obtain rfl:=hy7 _ (Option.some.inj h6).symm
    refine Fin.ah (Fin.ay ?_)
    exact Fin.join [0,1,6] [102] places_4 rfl rfl
  ·rintro places_3 hv
   subst v3
   refine ab.seq (ab.aa ?_)
   refine Oc om (Oc (az dx rfl (List.length_map _)) (Oc om (Oc om ?_)))
   refine ae.bA 102 rfl ?_
   obtain ⟨x_8,e9,h⟩:=aF h
   refine Oc (aP (eU e9) qO rfl rfl) (Oc oa ?_)
   refine ae.ag ⟨[(0,.b (.one (.sl 1 (fixed0.map eB)))),(8,.b (.one (.sl 1 (x_8.map (eL 2 aR)))))],[]⟩ rfl (ab.seq (ab.aa ?_))
   refine Oc oa (Oc oa ?_)
   refine ae.ag ⟨[(0,_),(8,_),(9,.b (.one (.nil))),(10,.b (.one (.nil)))],[]⟩ rfl ?_
   obtain ⟨v10,h11,h⟩:=aF h
   refine ab.bZ (v:=v10) (cg fun (out_9:List Int) (queue_10:List Int)=>⟨[(8,.b (.one (.sl 1 (x_8.map (eL 2 aR))))),(9,.b (.row 104)),(10,.b (.row 106))],[(104,.row 3 1 (out_9.map eI)),(106,.row 3 1 (queue_10.map eI))]⟩) (fun z=>z) ?_ ?_
   ·refine ab.seq (ab.aa ?_)
    refine Oc om (Oc (az dx rfl (List.length_map _)) (Oc om ?_))
    refine ae.ag ⟨[(8,_),(9,_),(10,_),(38,.b (.one (.sl 1 (fixed0.map eB)))),(39,I (fixed0.length:Int)),(40,I 0)],[]⟩ rfl (ab.block (ab.cN 9 104 1 3 rfl (by decide) rfl (ab.cN 10 106 1 3 rfl (by decide) rfl (ab.b9 h11 (kj fun (out_11:List Int) (queue_12:List Int) (x_13:Int)=>⟨[(8,.b (.one (.sl 1 (x_8.map (eL 2 aR))))),(9,.b (.row 104)),(10,.b (.row 106)),(38,.b (.one (.sl 1 (fixed0.map eB)))),(39,I (fixed0.length:Int)),(40,I x_13)],[(104,.row 3 1 (out_11.map eI)),(106,.row 3 1 (queue_12.map eI))]⟩) [8,9,10,38,39,40] [104,106] rfl ?_))))
    rintro ⟨out_11,queue_12,x_13⟩ o12 h13 hy14
    refine ab.seq (ab.aa ?_)
    refine Oc (bh rfl rfl) (ae.ag ⟨[(8,_),(9,_),(10,_),(38,_),(39,_),(40,_),(41,B (decide (x_13 < (fixed0.length:Int))))],[(104,_),(106,_)]⟩ rfl (ab.seq (ab.ite h13 rfl (fun _ h13=>?_) (fun _ h13=>?_))))
    ·refine ab.skip (Fin.af ⟨[(8,_),(9,_),(10,_),(38,_),(39,_),(40,_)],[(104,_),(106,_)]⟩ rfl (Fin.then ?_))
     obtain ⟨v15,h16,h13⟩:=aF h13
     refine ab.bZ (v:=v15) (cg fun (out_16:List Int) (queue_17:List Int)=>⟨[(8,.b (.one (.sl 1 (x_8.map (eL 2 aR))))),(9,.b (.row 104)),(10,.b (.row 106)),(38,.b (.one (.sl 1 (fixed0.map eB)))),(39,I (fixed0.length:Int)),(40,I x_13)],[(104,.row 3 1 (out_16.map eI)),(106,.row 3 1 (queue_17.map eI))]⟩) (fun z=>z) ?_ ?_
     ·refine ab.block (ab.seq (ab.aa ?_))
      refine Oc om ?_
      obtain ⟨x_18,e17,h16⟩:=aF h16
      refine Oc (aH kX (aG e17) (aD (e:=eB) e17) rfl rfl) (Oc (aB lZ rfl rfl) (Oc oa (Oc oa ?_)))
      refine ae.ag ⟨[(8,_),(9,_),(10,_),(11,I x_13),(12,B x_18),(38,_),(39,_),(40,_)],[(104,_),(106,_)]⟩ rfl (ab.seq (ab.aa ?_))
      refine Oc om (Oc (au (k:=107) (es:=[(-1)].map eI) ak rfl rfl (aS fun _=>rfl) rfl (by decide) (by decide) rfl) ?_)
      obtain ⟨x_19,e18,h16⟩:=aF h16
      refine Oc (bq ak (c7 e18) (c6 e18) rfl rfl rfl rfl (bW e18) rfl) (Oc oa ?_)
      refine ae.ag ⟨[(8,_),(9,_),(10,_),(11,_),(12,_),(38,_),(39,_),(40,_)],[(104,.row 3 1 (x_19.map eI)),(106,_)]⟩ rfl (ab.seq (ab.aa ?_))
      refine Oc om (ae.ag ⟨[(8,_),(9,_),(10,_),(11,_),(38,_),(39,_),(40,_),(48,B x_18)],[(104,_),(106,_)]⟩ rfl (ab.ite h16 rfl (fun _ h16=>?_) (fun _ h16=>?_)))
      ·refine ab.seq (ab.aa ?_)
       refine Oc om (Oc om ?_)
       obtain ⟨x_20,e19,h16⟩:=aF h16
       refine Oc (aq ak (aG e19) (aZ e19) rfl rfl rfl rfl) (Oc (bP (i:=(x_13:Int).toNat) ax rfl rfl rfl rfl (eG e19) (map_set _ _ _ _)) ?_)
       refine ae.ag ⟨[(8,_),(9,_),(10,_),(11,_),(38,_),(39,_),(40,_)],[(104,.row 3 1 ((x_19.set (x_13:Int).toNat 0).map eI)),(106,_)]⟩ rfl (ab.aa (Oc om (Oc om (Oc (au (k:=108) (es:=[x_13].map eI) ak rfl rfl (aS fun _=>rfl) rfl (by decide) (by decide) rfl) ?_))))
       obtain ⟨x_21,e20,h16⟩:=aF h16
       refine Oc (bq ak (c7 e20) (c6 e20) rfl rfl rfl rfl (bW e20) rfl) (Oc oa ?_)
       refine ae.nil (Fin.ai ?_)
       exact Fin.join [8,9,10,38,39,40] [104,106] (x_19.set (x_13:Int).toNat 0,x_21) (Option.some.inj h16) rfl
      ·refine ab.skip (Fin.ai ?_)
       exact Fin.join [8,9,10,38,39,40] [104,106] (x_19,queue_12) (Option.some.inj h16) rfl
     ·rintro ⟨out_16,queue_17⟩ hv
      subst v15
      refine ab.aa (Oc (aX rfl rfl) (Oc om ?_))
      refine ae.nil ?_
      exact Fin.bw [8,9,10,38,39,40] [104,106] (out_16,queue_17,IntKind.i64.wrap (x_13 + 1)) (Option.some.inj h13) rfl
    ·refine ab.exit (Fin.ah ?_)
     obtain rfl:=hy14 _ (Option.some.inj h13).symm
     refine Fin.ah (Fin.ay ?_)
     exact Fin.join [8,9,10] [104,106] (out_11,queue_12) rfl rfl
   ·rintro ⟨out_9,queue_10⟩ hv
    subst v10
    obtain ⟨v21,h22,h⟩:=aF h
    refine ab.bZ (v:=v21) (fun (out_22:List Int)=>⟨[(9,.b (.row 104))],[(104,.row 3 1 (out_22.map eI))]⟩) (fun z=>z) ?_ ?_
    ·refine ab.block (ab.af ⟨[(8,_),(9,_),(10,_)],[(104,_),(106,_)]⟩ rfl (ab.jU 106 rfl (ab.b9 h22 (cg fun (out_23:List Int) (queue_24:List Int)=>⟨[(8,.b (.one (.sl 1 (x_8.map (eL 2 aR))))),(9,.b (.row 104)),(10,.b (.row 106))],[(104,.row 3 1 (out_23.map eI)),(106,.fA 3 1 (queue_24.map eI))]⟩) [8,9,10] [104,106] rfl ?_)))
     rintro ⟨out_23,queue_24⟩ o23 h24 hy25
     refine ab.seq (ab.seq (ab.aa ?_))
     refine Oc om (Oc (rl eW rfl rfl (List.length_map _)) (Oc (eH rfl rfl) ?_))
     refine ae.ag ⟨[(8,_),(9,_),(10,_),(59,B (decide (0 < (queue_24.length:Int))))],[(104,_),(106,_)]⟩ rfl (ab.ite h24 rfl (fun _ h24=>?_) (fun _ h24=>?_))
     ·refine ab.skip (Fin.af ⟨[(8,_),(9,_),(10,_)],[(104,_),(106,_)]⟩ rfl (Fin.then (ab.block (ab.seq (ab.aa ?_)))))
      refine Oc om ?_
      obtain ⟨x_26,e26,h24⟩:=aF h24
      refine ae.idxO ak ax e26 rfl rfl rfl rfl (by decide) (Oc oa (ae.ag ⟨[(8,_),(9,_),(10,_),(13,I x_26)],[(104,_),(106,_)]⟩ rfl (ab.seq (ab.aa ?_))))
      refine Oc om ?_
      obtain ⟨x_27,e27,h24⟩:=aF h24
      refine Oc (oW ak e27 rfl rfl rfl rfl) (Oc oa ?_)
      refine ae.ag ⟨[(8,_),(9,_),(10,_),(13,_)],[(104,_),(106,.fA 3 1 (x_27.map eI))]⟩ rfl (ab.seq (ab.aa ?_))
      refine Oc om (Oc om ?_)
      obtain ⟨x_28,e28,h24⟩:=aF h24
      refine Oc (aH jT (aG e28) (aD (e:=(eL 2 aR)) e28) rfl rfl) (Oc (aB jm rfl rfl) (Oc (az und58 rfl (List.length_map _)) (Oc om ?_)))
      refine ae.ag ⟨[(8,_),(9,_),(10,_),(13,_),(68,.b (.one (.sl 2 (x_28.map aR)))),(69,I (x_28.length:Int)),(70,I 0)],[(104,_),(106,_)]⟩ rfl (ab.block ?_)
      obtain ⟨v29,h30,h24⟩:=aF h24
      refine ab.b9 h30 (kj fun (out_29:List Int) (queue_30:List Int) (x_31:Int)=>⟨[(8,.b (.one (.sl 1 (x_8.map (eL 2 aR))))),(9,.b (.row 104)),(10,.b (.row 106)),(13,I x_26),(68,.b (.one (.sl 2 (x_28.map aR)))),(69,I (x_28.length:Int)),(70,I x_31)],[(104,.row 3 1 (out_29.map eI)),(106,.fA 3 1 (queue_30.map eI))]⟩) [8,9,10,13,68,69,70] [104,106] rfl ?_
      rintro ⟨out_29,queue_30,x_31⟩ o31 h32 hy33
      refine ab.seq (ab.aa ?_)
      refine Oc (bh rfl rfl) (ae.ag ⟨[(8,_),(9,_),(10,_),(13,_),(68,_),(69,_),(70,_),(71,B (decide (x_31 < (x_28.length:Int))))],[(104,_),(106,_)]⟩ rfl (ab.seq (ab.ite h32 rfl (fun _ h32=>?_) (fun _ h32=>?_))))
      ·refine ab.skip (Fin.af ⟨[(8,_),(9,_),(10,_),(13,_),(68,_),(69,_),(70,_)],[(104,_),(106,_)]⟩ rfl (Fin.then ?_))
       obtain ⟨v34,h35,h32⟩:=aF h32
       refine ab.bZ (v:=v34) (cg fun (out_34:List Int) (queue_35:List Int)=>⟨[(8,.b (.one (.sl 1 (x_8.map (eL 2 aR))))),(9,.b (.row 104)),(10,.b (.row 106)),(13,I x_26),(68,.b (.one (.sl 2 (x_28.map aR)))),(69,I (x_28.length:Int)),(70,I x_31)],[(104,.row 3 1 (out_34.map eI)),(106,.fA 3 1 (queue_35.map eI))]⟩) (fun z=>z) ?_ ?_
       ·refine ab.block (ab.seq (ab.aa ?_))
        obtain ⟨x_36,e36,h35⟩:=aF h35
        refine Oc (aH kW (aG e36) (aD (e:=aR) e36) rfl rfl) (Oc (jw lP rfl rfl rfl) (Oc (bn (k:=109) nU rfl) (Oc (j6 lP rfl rfl rfl rfl (Nat.le_of_ble_eq_true rfl) rfl) ?_)))
        refine ae.ag ⟨[(8,_),(9,_),(10,_),(13,_),(15,Pt 109 0),(68,_),(69,_),(70,_)],[(104,_),(106,_),(109,.box 60 (aR x_36))]⟩ rfl (ab.seq (ab.aa ?_))
        refine Oc om (Oc (bI dJ rfl rfl) (Oc (bp ax rfl rfl rfl) ?_))
        obtain ⟨x_37,e37,h35⟩:=aF h35
        refine Oc (aq ak (aG e37) (aZ e37) rfl rfl rfl rfl) (Oc (aK (i:=(x_36.to:Int).toNat) (f:=0) ax rfl rfl rfl (aD (e:=eI) e37) rfl) (Oc (bh rfl rfl) ?_))
        refine ae.ag ⟨[(8,_),(9,_),(10,_),(13,_),(15,_),(68,_),(69,_),(70,_),(79,B (decide (x_37 < 0)))],[(104,_),(106,_),(109,_)]⟩ rfl (ab.ite h35 rfl (fun _ h35=>?_) (fun _ h35=>?_))
        ·refine ab.seq (ab.af ⟨[(8,_),(9,_),(10,_),(13,_),(15,_),(68,_),(69,_),(70,_)],[(104,_),(106,_),(109,_)]⟩ rfl ?_)
         obtain ⟨x_38,e38,h35⟩:=aF h35
         obtain ⟨x_39,e39,h35⟩:=aF h35
         refine ab.dz mixed 9 [.b (.row 104),Pt 109 0,I x_36.to,.b (.row 104),I x_26,.b (.bu 104 ((x_26:Int).toNat * 1)),I x_38,I (IntKind.i64.wrap (x_38 + 1)),.b (.bu 104 ((x_36.to:Int).toNat * 1))] [8,9,10,13,15,68,69,70] [104,106,109] (s':=⟨[(8,_),(9,_),(10,_),(13,_),(15,_),(68,_),(69,_),(70,_)],[(104,.row 3 1 ((out_29.set (x_36.to:Int).toNat (IntKind.i64.wrap (x_38 + 1))).map eI)),(106,_),(109,_)]⟩) rfl ⟨fun _=>.p om,fun _=>.p (bI dJ rfl rfl),fun _=>.p (bp ax rfl rfl rfl),fun _=>.p om,fun _=>.p om,fun _=>.p (aq ak (aG e38) (aZ e38) rfl rfl rfl rfl),fun _=>.p (aK (i:=(x_26:Int).toNat) (f:=0) ax rfl rfl rfl (aD (e:=eI) e38) rfl),fun _=>.p (aX rfl rfl),fun _=>.p (aq ak (aG e39) (aZ e39) rfl rfl rfl rfl),trivial⟩ ⟨_,by exact .p (bP (i:=(x_36.to:Int).toNat) ax rfl rfl rfl rfl (eG e39) (map_set _ _ _ _)),rfl⟩ rfl (ab.aa (Oc om (Oc (bI dJ rfl rfl) (Oc (bp ax rfl rfl rfl) (Oc (au (k:=110) (es:=[x_36.to].map eI) ak rfl rfl (aS fun _=>rfl) rfl (by decide) (by decide) rfl) ?_)))))
         obtain ⟨x_40,e40,h35⟩:=aF h35
         refine Oc (mG ak (c7 e40) (c6 e40) rfl rfl rfl rfl (bW e40) rfl) (Oc oa ?_)
         refine ae.nil (Fin.ai ?_)
         exact Fin.join [8,9,10,13,68,69,70] [104,106] (out_29.set (x_36.to:Int).toNat (IntKind.i64.wrap (x_38 + 1)),x_40) (Option.some.inj h35) rfl
        ·refine ab.skip (Fin.ai ?_)
         exact Fin.join [8,9,10,13,68,69,70] [104,106] (out_29,queue_30) (Option.some.inj h35) rfl
       ·rintro ⟨out_34,queue_35⟩ hv
        subst v34
        refine ab.aa (Oc (aX rfl rfl) (Oc om ?_))
        refine ae.nil ?_
        exact Fin.bw [8,9,10,13,68,69,70] [104,106] (out_34,queue_35,IntKind.i64.wrap (x_31 + 1)) (Option.some.inj h32) rfl
      ·refine ab.exit (Fin.ah ?_)
       obtain rfl:=hy33 _ (Option.some.inj h32).symm
       refine Fin.ah (Fin.ay (Fin.ai ?_))
       exact Fin.bw [8,9,10] [104,106] (out_29,queue_30) (Option.some.inj h24) rfl
     ·refine ab.exit (Fin.ah ?_)
      obtain rfl:=hy25 _ (Option.some.inj h24).symm
      refine Fin.ah (Fin.ay ?_)
      exact Fin.join [9] [104] out_23 rfl rfl
    ·rintro out_22 hv
     subst v21
     refine ab.seq (ab.aa ?_)
     refine Oc om (Oc oa (Oc oa ?_))
     refine ae.ag ⟨[(4,.b (.row 104)),(5,I 0)],[(104,_)]⟩ rfl (ab.ret ?_)
     obtain rfl:=Option.some.inj h
     refine Fin.af ⟨[(4,_),(5,_)],[(104,_)]⟩ rfl (Fin.ic 104 kr0 [.row 104,.one (.i 0)] (.inl rfl) rfl (.cons (.tmp rfl) (.cons (.tmp rfl) .nil)) rfl rfl rfl rfl ⟨rfl,rfl⟩)
def gF (F:Nat) (x0:Int):Option Bool :=
 some (decide (x0 ≠ x0))
theorem jk {F:Nat} {x0:Int} {r:Bool} (h:gF F x0 = some r):ar Try.prog [] 52 [] [.one (.int .u64 x0)] (Is [] (.b (.one (.bool r)))):=by
 unfold gF at h
 refine ar.intro 6 Try.func52 Try.ntmps52 rfl (by simp) fun E=>?_
 show ab _ E ⟨6,[],[],[]⟩ _ ⟨[(0,.b (.one (.int .u64 x0)))],[]⟩ _
 refine ab.seq (ab.aa ?_)
 refine Oc oa (ae.ag ⟨[(0,.b (.one (.int .u64 x0)))],[]⟩ rfl (ab.seq (ab.aa ?_)))
 refine Oc om (Oc om (Oc (kY rfl rfl) (Oc oa ?_)))
 refine ae.ag ⟨[(2,B (decide (x0 ≠ x0)))],[]⟩ rfl (ab.ret ?_)
 obtain rfl:=Option.some.inj h
 refine Fin.af ⟨[(2,_)],[]⟩ rfl (Fin.a6 [.one (.bool (decide (x0 ≠ x0)))] (.inl rfl) rfl (.cons (.tmp rfl) .nil) ⟨rfl,rfl⟩)
def gL (F:Nat) (x0:Int) (y0:Int):Option Int :=
 (gF F x0).bind fun x_1=>(gF F y0).bind fun x_2=>if x_1 = true then (if x_2 = true then (some 0) else (some (-1))) else (if x_2 = true then (some 1) else (if (decide (x0 < y0)) = true then (some (-1)) else (if (decide (y0 < x0)) = true then (some 1) else (some 0))))
theorem lD {F:Nat} {x0:Int} {y0:Int} {r:Int} (h:gL F x0 y0 = some r):ar Try.prog [] 35 [] [.one (.int .u64 x0),.one (.int .u64 y0)] (Is [] (.b (.one (.i r)))):=by
 unfold gL at h
 refine ar.intro 20 Try.func35 Try.ntmps35 rfl (by simp) fun E=>?_
 show ab _ E ⟨20,[],[],[]⟩ _ ⟨[(0,.b (.one (.int .u64 x0))),(1,.b (.one (.int .u64 y0)))],[]⟩ _
 refine ab.seq (ab.aa ?_)
 refine Oc oa (ae.ag ⟨[(0,.b (.one (.int .u64 x0))),(1,.b (.one (.int .u64 y0)))],[]⟩ rfl (ab.seq (ab.aa ?_)))
 refine Oc om ?_
 obtain ⟨x_1,e1,h⟩:=aF h
 refine Oc (aP (jk e1) qI rfl rfl) (Oc oa ?_)
 refine ae.ag ⟨[(0,_),(1,_),(5,B x_1)],[]⟩ rfl (ab.seq (ab.aa ?_))
 refine Oc om ?_
 obtain ⟨x_2,e2,h⟩:=aF h
 refine Oc (aP (jk e2) qI rfl rfl) (Oc oa ?_)
 refine ae.ag ⟨[(0,_),(1,_),(5,_),(6,B x_2)],[]⟩ rfl (ab.seq (ab.seq (ab.aa ?_)))
 refine Oc om (ae.ag ⟨[(0,_),(1,_),(6,_),(11,B x_1)],[]⟩ rfl (ab.ite h rfl (fun _ h=>?_) (fun _ h=>?_)))
 ·refine ab.seq (ab.seq (ab.aa ?_))
  refine Oc om (ae.ag ⟨[(12,B x_2)],[]⟩ rfl (ab.ite h rfl (fun _ h=>?_) (fun _ h=>?_)))
  ·refine ab.seq (ab.aa ?_)
   refine Oc oa (ae.ag ⟨[(4,I 0)],[]⟩ rfl (ab.ret (Fin.aO (Fin.aO ?_))))
   obtain rfl:=Option.some.inj h
   refine Fin.af ⟨[(4,_)],[]⟩ rfl (Fin.a6 [.one (.i 0)] (.inl rfl) rfl (.cons (.tmp rfl) .nil) ⟨rfl,rfl⟩)
  ·refine ab.skip (Fin.af ⟨[],[]⟩ rfl (Fin.then (ab.seq (ab.aa ?_))))
   refine Oc oa (ae.ag ⟨[(4,I (-1))],[]⟩ rfl (ab.ret (Fin.aO ?_)))
   obtain rfl:=Option.some.inj h
   refine Fin.af ⟨[(4,_)],[]⟩ rfl (Fin.a6 [.one (.i (-1))] (.inl rfl) rfl (.cons (.tmp rfl) .nil) ⟨rfl,rfl⟩)
 ·refine ab.skip (Fin.af ⟨[(0,_),(1,_),(6,_)],[]⟩ rfl (Fin.then (ab.seq (ab.seq (ab.aa ?_)))))
  refine Oc om (ae.ag ⟨[(0,_),(1,_),(13,B x_2)],[]⟩ rfl (ab.ite h rfl (fun _ h=>?_) (fun _ h=>?_)))
  ·refine ab.seq (ab.aa ?_)
   refine Oc oa (ae.ag ⟨[(4,I 1)],[]⟩ rfl (ab.ret (Fin.aO ?_)))
   obtain rfl:=Option.some.inj h
   refine Fin.af ⟨[(4,_)],[]⟩ rfl (Fin.a6 [.one (.i 1)] (.inl rfl) rfl (.cons (.tmp rfl) .nil) ⟨rfl,rfl⟩)
  ·refine ab.skip (Fin.af ⟨[(0,_),(1,_)],[]⟩ rfl (Fin.then (ab.seq (ab.seq (ab.aa ?_)))))
   refine Oc om (Oc om (Oc (bh rfl rfl) ?_))
   refine ae.ag ⟨[(0,_),(1,_),(16,B (decide (x0 < y0)))],[]⟩ rfl (ab.ite h rfl (fun _ h=>?_) (fun _ h=>?_))
   ·refine ab.seq (ab.aa ?_)
    refine Oc oa (ae.ag ⟨[(4,I (-1))],[]⟩ rfl (ab.ret (Fin.aO ?_)))
    obtain rfl:=Option.some.inj h
    refine Fin.af ⟨[(4,_)],[]⟩ rfl (Fin.a6 [.one (.i (-1))] (.inl rfl) rfl (.cons (.tmp rfl) .nil) ⟨rfl,rfl⟩)
   ·refine ab.skip (Fin.af ⟨[(0,_),(1,_)],[]⟩ rfl (Fin.then (ab.seq (ab.seq (ab.aa ?_)))))
    refine Oc om (Oc om (Oc (eH rfl rfl) ?_))
    refine ae.ag ⟨[(19,B (decide (y0 < x0)))],[]⟩ rfl (ab.ite h rfl (fun _ h=>?_) (fun _ h=>?_))
    ·refine ab.seq (ab.aa ?_)
     refine Oc oa (ae.ag ⟨[(4,I 1)],[]⟩ rfl (ab.ret (Fin.aO ?_)))
     obtain rfl:=Option.some.inj h
     refine Fin.af ⟨[(4,_)],[]⟩ rfl (Fin.a6 [.one (.i 1)] (.inl rfl) rfl (.cons (.tmp rfl) .nil) ⟨rfl,rfl⟩)
    ·refine ab.skip (Fin.af ⟨[],[]⟩ rfl (Fin.then (ab.seq (ab.aa ?_))))
     refine Oc oa (ae.ag ⟨[(4,I 0)],[]⟩ rfl (ab.ret ?_))
     obtain rfl:=Option.some.inj h
     refine Fin.af ⟨[(4,_)],[]⟩ rfl (Fin.a6 [.one (.i 0)] (.inl rfl) rfl (.cons (.tmp rfl) .nil) ⟨rfl,rfl⟩)
def cM (F:Nat) (a0:Int) (b0:Int) (v0c:List Int):Option Int :=
 (aV v0c a0).bind fun x_1=>(aV v0c b0).bind fun x_2=>(gL F (IntKind.u64.wrap x_1) (IntKind.u64.wrap x_2)).bind fun x_3=>some x_3
theorem c5 {F:Nat} {a0:Int} {b0:Int} {v0c:List Int} {r:Int} (h:cM F a0 b0 v0c = some r):ar Try.prog [] 34 [] [.one (.i a0),.one (.i b0),.cz [.sl 1 (v0c.map eI)]] (Is [] (.b (.one (.i r)))):=by
 unfold cM at h
 refine ar.intro 17 Try.func34 Try.ntmps34 rfl (by simp) fun E=>?_
 show ab _ E ⟨17,[],[],[]⟩ _ ⟨[(0,I a0),(1,I b0),(2,.b (.cz [.sl 1 (v0c.map eI)]))],[]⟩ _
 refine ab.seq (ab.aa ?_)
 refine Oc oa (ae.ag ⟨[(0,I a0),(1,I b0),(2,.b (.cz [.sl 1 (v0c.map eI)]))],[]⟩ rfl (ab.seq ?_))
 obtain ⟨x_1,e1,h⟩:=aF h
 obtain ⟨x_2,e2,h⟩:=aF h
 obtain ⟨x_3,e3,h⟩:=aF h
 refine ab.dz mixed 12 [.b (.one (.sl 1 (v0c.map eI))),I a0,.b (.cz [.i x_1]),I x_1,.b (.one (.int .u64 (IntKind.u64.wrap x_1))),.b (.one (.sl 1 (v0c.map eI))),I b0,.b (.cz [.i x_2]),I x_2,.b (.one (.int .u64 (IntKind.u64.wrap x_2))),I x_3,I x_3] [5] [] (s':=⟨[(5,I x_3)],[]⟩) rfl ⟨fun _=>.p (aB aT rfl rfl),fun _=>.p om,fun _=>.p (aH ak (aG e1) (aD (e:=eI) e1) rfl rfl),fun _=>.p (aB ax rfl rfl),fun _=>.p (bR iB gb rfl),fun _=>.p (aB aT rfl rfl),fun _=>.p om,fun _=>.p (aH ak (aG e2) (aD (e:=eI) e2) rfl rfl),fun _=>.p (aB ax rfl rfl),fun _=>.p (bR iB gb rfl),fun _=>.p (aP (lD e3) goes35 rfl rfl),fun _=>.p oa,trivial⟩ rfl rfl (ab.ret ?_)
 obtain rfl:=Option.some.inj h
 refine Fin.af ⟨[(5,_)],[]⟩ rfl (Fin.a6 [.one (.i x_3)] (.inl rfl) rfl (.cons (.tmp rfl) .nil) ⟨rfl,rfl⟩)
def bY (F:Nat) (a0:Int) (b0:Int) (cmp0:List Int) (data0:List Int):Option (List Int) :=
 Option.bind (iter F (cg fun data_1 i_2=>if (decide (i_2 < b0)) = true then (Option.bind (Option.bind (iter F (cg fun data_5 j_6=>(cw (decide (a0 < j_6)) (aV data_5 j_6)).bind fun x_8=>(cw (decide (a0 < j_6)) (aV data_5 (IntKind.i64.wrap (j_6 - 1)))).bind fun x_9=>(cw (decide (a0 < j_6)) (cM F x_8 x_9 cmp0)).bind fun x_10=>if ((decide (a0 < j_6)) && (decide (x_10 < 0))) = true then ((aV data_5 (IntKind.i64.wrap (j_6 - 1))).bind fun x_11=>(aV data_5 j_6).bind fun x_12=>(aV data_5 j_6).bind fun x_13=>(aV (data_5.set (j_6:Int).toNat x_11) (IntKind.i64.wrap (j_6 - 1))).bind fun x_14=>some (.inl ((data_5.set (j_6:Int).toNat x_11).set (IntKind.i64.wrap (j_6 - 1):Int).toNat x_12,IntKind.i64.wrap (j_6 - 1)))) else (some (.inr data_5))) (data_1,i_2)) (fun data_7=>some data_7)) (fun data_4=>some (.inl (data_4,IntKind.i64.wrap (i_2 + 1))))) else (some (.inr data_1))) (data0,IntKind.i64.wrap (a0 + 1))) (fun y_3=>some y_3)
theorem cW {F:Nat} {a0:Int} {b0:Int} {cmp0:List Int} {data0:List Int} {r:(List Int)} (h:bY F a0 b0 cmp0 data0 = some r):ar Try.prog [] 57 [(1,.cp 3 1 (data0.map eI))] [.row 1,.one (.i a0),.one (.i b0),.one (.bS 34 [CP.rp [.sl 1 (cmp0.map eI)]])] (Is [(1,.cp 3 1 (r.map eI))] (.eo [])):=by
 unfold bY at h
 refine ar.intro 53 Try.func57 Try.ntmps57 rfl (by simp) fun E=>?_
 show ab _ E ⟨53,[1],[1],[]⟩ _ ⟨[(0,.b (.row 1)),(1,I a0),(2,I b0),(3,.b (.one (.bS 34 [CP.rp [.sl 1 (cmp0.map eI)]])))],[(1,.cp 3 1 (data0.map eI))]⟩ _
 refine ab.kg 1 rfl (ab.seq (ab.aa ?_))
 refine Oc om (Oc (aX rfl rfl) (Oc oa ?_))
 refine ae.ag ⟨[(0,.b (.row 1)),(1,I a0),(2,I b0),(3,.b (.one (.bS 34 [CP.rp [.sl 1 (cmp0.map eI)]]))),(8,I (IntKind.i64.wrap (a0 + 1)))],[(1,.row 3 1 (data0.map eI))]⟩ rfl (ab.block ?_)
 obtain ⟨v1,h2,h⟩:=aF h
 refine ab.b9 h2 (cg fun (data_1:List Int) (i_2:Int)=>⟨[(0,.b (.row 1)),(1,I a0),(2,I b0),(3,.b (.one (.bS 34 [CP.rp [.sl 1 (cmp0.map eI)]]))),(8,I i_2)],[(1,.row 3 1 (data_1.map eI))]⟩) [0,1,2,3,8] [1] rfl ?_
 rintro ⟨data_1,i_2⟩ o3 h4 hy5
 refine ab.seq (ab.seq (ab.aa ?_))
 refine Oc om (Oc om (Oc (bh rfl rfl) ?_))
 refine ae.ag ⟨[(0,_),(1,_),(2,_),(3,_),(8,_),(14,B (decide (i_2 < b0)))],[(1,_)]⟩ rfl (ab.ite h4 rfl (fun _ h4=>?_) (fun _ h4=>?_))
 ·refine ab.skip (Fin.af ⟨[(0,_),(1,_),(2,_),(3,_),(8,_)],[(1,_)]⟩ rfl (Fin.then ?_))
  obtain ⟨v6,h7,h4⟩:=aF h4
  refine ab.bZ (v:=v6) (fun (data_4:List Int)=>⟨[(0,.b (.row 1)),(1,I a0),(2,I b0),(3,.b (.one (.bS 34 [CP.rp [.sl 1 (cmp0.map eI)]]))),(8,I i_2)],[(1,.row 3 1 (data_4.map eI))]⟩) (fun z=>z) ?_ ?_
  ·refine ab.block (ab.seq (ab.aa ?_))
   refine Oc om (Oc oa ?_)
   refine ae.ag ⟨[(0,_),(1,_),(2,_),(3,_),(8,_),(9,I i_2)],[(1,_)]⟩ rfl (ab.block ?_)
   obtain ⟨v8,h9,h7⟩:=aF h7
   refine ab.b9 h9 (cg fun (data_5:List Int) (j_6:Int)=>⟨[(0,.b (.row 1)),(1,I a0),(2,I b0),(3,.b (.one (.bS 34 [CP.rp [.sl 1 (cmp0.map eI)]]))),(8,I i_2),(9,I j_6)],[(1,.row 3 1 (data_5.map eI))]⟩) [0,1,2,3,8,9] [1] rfl ?_
   rintro ⟨data_5,j_6⟩ o10 h11 hy12
   refine ab.seq (ab.seq ?_)
   refine ab.af ⟨[(0,_),(1,_),(2,_),(3,_),(8,_),(9,_)],[(1,_)]⟩ rfl ?_
   obtain ⟨x_8,e17,h11⟩:=aF h11
   obtain ⟨x_9,e23,h11⟩:=aF h11
   obtain ⟨x_10,e26,h11⟩:=aF h11
   refine ab.dz mixed 17 [I j_6,I a0,B (decide (a0 < j_6)),B (decide (a0 < j_6)),.opt (decide (a0 < j_6)) (.one (.bS 34 [CP.rp [.sl 1 (cmp0.map eI)]])),.opt (decide (a0 < j_6)) (.row 1),.opt (decide (a0 < j_6)) (.one (.i j_6)),.opt (decide (a0 < j_6)) (.bu 1 ((j_6:Int).toNat * 1)),.opt (decide (a0 < j_6)) (.one (.i x_8)),.opt (decide (a0 < j_6)) (.row 1),.opt (decide (a0 < j_6)) (.one (.i j_6)),.opt (decide (a0 < j_6)) (.one (.i (IntKind.i64.wrap (j_6 - 1)))),.opt (decide (a0 < j_6)) (.bu 1 ((IntKind.i64.wrap (j_6 - 1):Int).toNat * 1)),.opt (decide (a0 < j_6)) (.one (.i x_9)),.opt (decide (a0 < j_6)) (.one (.i x_10)),.opt (decide (a0 < j_6)) (.one (.bool (decide (x_10 < 0)))),B ((decide (a0 < j_6)) && (decide (x_10 < 0)))] [0,1,2,3,8,9,34] [1] (s':=⟨[(0,_),(1,_),(2,_),(3,_),(8,_),(9,_),(34,B ((decide (a0 < j_6)) && (decide (x_10 < 0))))],[(1,_)]⟩) rfl ⟨fun _=>.p om,fun _=>.p om,fun _=>.p (eH rfl rfl),fun _=>.p om,fun _=>by exact .guard (decide (a0 < j_6)) 1 [] (.plain rfl) (fZ _) rfl rfl (fun g13=>trivial) (fun g13=>om),fun _=>by exact .guard (decide (a0 < j_6)) 1 [] (.plain rfl) (fZ _) rfl rfl (fun g14=>trivial) (fun g14=>om),fun _=>by exact .guard (decide (a0 < j_6)) 1 [] (.plain rfl) (fZ _) rfl rfl (fun g15=>trivial) (fun g15=>om),fun _=>by exact .guard (decide (a0 < j_6)) 3 [23,24] (.plain rfl) (fZ _) rfl rfl (fun g16=>⟨g16,g16,trivial⟩) (fun g16=>aq ak (aG (gc e17 g16)) (aZ (gc e17 g16)) rfl rfl rfl rfl),fun _=>by exact .guard (decide (a0 < j_6)) 2 [25] (.plain rfl) (fZ _) rfl rfl (fun g18=>⟨g18,trivial⟩) (fun g18=>aK (i:=(j_6:Int).toNat) (f:=0) ax rfl rfl rfl (aD (e:=eI) (gc e17 g18)) rfl),fun _=>by exact .guard (decide (a0 < j_6)) 1 [] (.plain rfl) (fZ _) rfl rfl (fun g19=>trivial) (fun g19=>om),fun _=>by exact .guard (decide (a0 < j_6)) 1 [] (.plain rfl) (fZ _) rfl rfl (fun g20=>trivial) (fun g20=>om),fun _=>by exact .guard (decide (a0 < j_6)) 2 [28] (.plain rfl) (fZ _) rfl rfl (fun g21=>⟨g21,trivial⟩) (fun g21=>cE rfl rfl),fun _=>by exact .guard (decide (a0 < j_6)) 3 [27,29] (.plain rfl) (fZ _) rfl rfl (fun g22=>⟨g22,g22,trivial⟩) (fun g22=>aq ak (aG (gc e23 g22)) (aZ (gc e23 g22)) rfl rfl rfl rfl),fun _=>by exact .guard (decide (a0 < j_6)) 2 [30] (.plain rfl) (fZ _) rfl rfl (fun g24=>⟨g24,trivial⟩) (fun g24=>aK (i:=(IntKind.i64.wrap (j_6 - 1):Int).toNat) (f:=0) ax rfl rfl rfl (aD (e:=eI) (gc e23 g24)) rfl),fun _=>by exact .guard (decide (a0 < j_6)) 5 [22,26,31] (.plain rfl) (fZ _) rfl rfl (fun g25=>⟨g25,g25,g25,trivial⟩) (fun g25=>gh (pss:=[[.sl 1 (cmp0.map eI)]]) (c5 (gc e26 g25)) nt rfl rfl rfl trivial rfl rfl),fun _=>by exact .guard (decide (a0 < j_6)) 2 [32] (.plain rfl) (fZ _) rfl rfl (fun g27=>⟨g27,trivial⟩) (fun g27=>bh rfl rfl),fun _=>.p (aY (fun e=>e) rfl rfl rfl rfl),trivial⟩ rfl rfl ?_
   refine ab.ite h11 rfl (fun _ h11=>?_) (fun _ h11=>?_)
   ·refine ab.skip (Fin.af ⟨[(0,_),(1,_),(2,_),(3,_),(8,_),(9,_)],[(1,_)]⟩ rfl (Fin.then (ab.seq (ab.block ?_))))
    refine ab.af ⟨[(0,_),(1,_),(2,_),(3,_),(8,_),(9,_)],[(1,_)]⟩ rfl ?_
    obtain ⟨x_11,e28,h11⟩:=aF h11
    obtain ⟨x_12,e29,h11⟩:=aF h11
    obtain ⟨x_13,e30,h11⟩:=aF h11
    obtain ⟨x_14,e31,h11⟩:=aF h11
    refine ab.fC mixed [false,false,false,false,false,false,false,false,false,false,false,false,false,false,false,true,false,true] [.b (.row 1),I j_6,.b (.row 1),I j_6,I (IntKind.i64.wrap (j_6 - 1)),.b (.row 1),I j_6,I (IntKind.i64.wrap (j_6 - 1)),.b (.bu 1 ((IntKind.i64.wrap (j_6 - 1):Int).toNat * 1)),I x_11,.b (.row 1),I j_6,.b (.bu 1 ((j_6:Int).toNat * 1)),I x_12,.b (.bu 1 ((j_6:Int).toNat * 1)),B true,.b (.bu 1 ((IntKind.i64.wrap (j_6 - 1):Int).toNat * 1)),B true] [⟨[false,false,false,false,false,false,false,false,false,false,false,false,false,false,false,false,false,false],[(0,.b (.row 1)),(1,I a0),(2,I b0),(3,.b (.one (.bS 34 [CP.rp [.sl 1 (cmp0.map eI)]]))),(8,I i_2),(9,I j_6)],[(1,.row 3 1 (data_5.map eI))],[true,true,true,true,true,true,true,true,true,true,true,true,true,true,true,true,true,true],[],[16,17]⟩,⟨[false,false,false,false,false,false,false,false,false,false,false,false,false,false,false,true,false,false],[(0,.b (.row 1)),(1,I a0),(2,I b0),(3,.b (.one (.bS 34 [CP.rp [.sl 1 (cmp0.map eI)]]))),(8,I i_2),(9,I j_6)],[(1,.row 3 1 ((data_5.set (j_6:Int).toNat x_11).map eI))],[true,true,true,true,true,true,true,true,true,true,true,true,true,true,true,true,true,true],[0,1,5,6,7,8,9,10,11,12,13,14,15],[]⟩,⟨[false,false,false,false,false,false,false,false,false,false,false,false,false,false,false,true,false,true],[(0,.b (.row 1)),(1,I a0),(2,I b0),(3,.b (.one (.bS 34 [CP.rp [.sl 1 (cmp0.map eI)]]))),(8,I i_2),(9,I j_6)],[(1,.row 3 1 (((data_5.set (j_6:Int).toNat x_11).set (IntKind.i64.wrap (j_6 - 1):Int).toNat x_12).map eI))],[true,true,true,true,true,true,true,true,true,true,true,true,true,true,true,true,true,true],[0,1,2,3,4,5,6,7,8,9,10,11,12,13,14,15,16,17],[]⟩] rfl (⟨by kernel_rfl,⟨⟨.b (.row 1),fun _=>rfl,fun _=>.p (by exact an rfl)⟩,⟨I j_6,fun _=>rfl,fun _=>.p (by exact an rfl)⟩,⟨.b (.row 1),fun _=>rfl,fun _=>.p (by exact an rfl)⟩,⟨I j_6,fun _=>rfl,fun _=>.p (by exact an rfl)⟩,⟨I (IntKind.i64.wrap (j_6 - 1)),fun _=>rfl,fun _=>.p (by exact cE rfl rfl)⟩,⟨.b (.row 1),fun _=>rfl,fun _=>.p (by exact an rfl)⟩,⟨I j_6,fun _=>rfl,fun _=>.p (by exact an rfl)⟩,⟨I (IntKind.i64.wrap (j_6 - 1)),fun _=>rfl,fun _=>.p (by exact cE rfl rfl)⟩,⟨.b (.bu 1 ((IntKind.i64.wrap (j_6 - 1):Int).toNat * 1)),fun _=>rfl,fun _=>.p (by exact aq ak (aG e28) (aZ e28) rfl rfl rfl rfl)⟩,⟨I x_11,fun _=>rfl,fun _=>.p (by exact aK (i:=(IntKind.i64.wrap (j_6 - 1):Int).toNat) (f:=0) ax rfl rfl rfl (aD (e:=eI) e28) rfl)⟩,⟨.b (.row 1),fun _=>rfl,fun _=>.p (by exact an rfl)⟩,⟨I j_6,fun _=>rfl,fun _=>.p (by exact an rfl)⟩,⟨.b (.bu 1 ((j_6:Int).toNat * 1)),fun _=>rfl,fun _=>.p (by exact aq ak (aG e29) (aZ e29) rfl rfl rfl rfl)⟩,⟨I x_12,fun _=>rfl,fun _=>.p (by exact aK (i:=(j_6:Int).toNat) (f:=0) ax rfl rfl rfl (aD (e:=eI) e29) rfl)⟩,⟨.b (.bu 1 ((j_6:Int).toNat * 1)),fun _=>rfl,fun _=>.p (by exact aq ak (aG e30) (aZ e30) rfl rfl rfl rfl)⟩,⟨_,[],.b (.one .any),rfl,(fun e=>by simp at e),rfl,rfl,fun _=>.eV [1] (by exact .p (by exact bP (i:=(j_6:Int).toNat) ax rfl rfl rfl rfl (eG e30) (map_set _ _ _ _))) (by exact rfl)⟩,trivial,trivial,trivial⟩,⟨by kernel_rfl,⟨trivial,trivial,⟨.b (.row 1),fun _=>rfl,fun _=>.p (by exact an rfl)⟩,⟨I j_6,fun _=>rfl,fun _=>.p (by exact an rfl)⟩,⟨I (IntKind.i64.wrap (j_6 - 1)),fun _=>rfl,fun _=>.p (by exact cE rfl rfl)⟩,trivial,trivial,trivial,trivial,trivial,trivial,trivial,trivial,trivial,trivial,trivial,⟨.b (.bu 1 ((IntKind.i64.wrap (j_6 - 1):Int).toNat * 1)),fun _=>rfl,fun _=>.p (by exact aq ak (aG e31) (aZ e31) rfl rfl rfl rfl)⟩,⟨_,[],.b (.one .any),rfl,(fun e=>by simp at e),rfl,rfl,fun _=>.eV [1] (by exact .p (by exact bP (i:=(IntKind.i64.wrap (j_6 - 1):Int).toNat) ax rfl rfl rfl rfl (eG e31) (map_set _ _ _ _))) (by exact rfl)⟩,trivial⟩,⟨by kernel_rfl,⟨trivial,trivial,trivial,trivial,trivial,trivial,trivial,trivial,trivial,trivial,trivial,trivial,trivial,trivial,trivial,trivial,trivial,trivial,trivial⟩,trivial⟩⟩⟩) rfl rfl rfl [0,1,2,3,8,9] [1] (s':=⟨[(0,_),(1,_),(2,_),(3,_),(8,_),(9,_)],[(1,.row 3 1 (((data_5.set (j_6:Int).toNat x_11).set (IntKind.i64.wrap (j_6 - 1):Int).toNat x_12).map eI))]⟩) rfl ?_
    refine Fin.ai (Fin.af ⟨[(0,_),(1,_),(2,_),(3,_),(8,_),(9,_)],[(1,_)]⟩ rfl (Fin.then (ab.aa ?_)))
    refine Oc om (Oc (cE rfl rfl) (Oc oa ?_))
    refine ae.nil ?_
    exact Fin.bw [0,1,2,3,8,9] [1] ((data_5.set (j_6:Int).toNat x_11).set (IntKind.i64.wrap (j_6 - 1):Int).toNat x_12,IntKind.i64.wrap (j_6 - 1)) (Option.some.inj h11) rfl
   ·refine ab.exit (Fin.ah ?_)
    obtain rfl:=hy12 _ (Option.some.inj h11).symm
    refine Fin.ah (Fin.ay (Fin.ai ?_))
    exact Fin.join [0,1,2,3,8] [1] data_5 (Option.some.inj h7) rfl
  ·rintro data_4 hv
   subst v6
   refine ab.aa (Oc om (Oc (aX rfl rfl) (Oc oa ?_)))
   refine ae.nil ?_
   exact Fin.bw [0,1,2,3,8] [1] (data_4,IntKind.i64.wrap (i_2 + 1)) (Option.some.inj h4) rfl
 ·refine ab.exit (Fin.ah ?_)
  obtain rfl:=hy5 _ (Option.some.inj h4).symm
  refine Fin.ah (Fin.ay ?_)
  obtain rfl:=Option.some.inj h
  refine Fin.af ⟨[],[(1,_)]⟩ rfl (Fin.jz 1 rfl (Fin.af ⟨[],[(1,.cp 3 1 (data_1.map eI))]⟩ rfl ?_))
  exact Fin.result [] (.inr rfl) rfl (.nil) ⟨rfl,rfl⟩
def bT (F:Nat) (a0:Int) (b0:Int) (n0:Int) (cmp0:List Int) (data0:List Int):Option (List Int) :=
 Option.bind (iter F (cg fun data_1 i_2=>if (decide (i_2 < n0)) = true then ((aV data_1 (IntKind.i64.wrap (b0 + i_2))).bind fun x_4=>(aV data_1 (IntKind.i64.wrap (a0 + i_2))).bind fun x_5=>(aV data_1 (IntKind.i64.wrap (a0 + i_2))).bind fun x_6=>(aV (data_1.set (IntKind.i64.wrap (a0 + i_2):Int).toNat x_4) (IntKind.i64.wrap (b0 + i_2))).bind fun x_7=>some (.inl ((data_1.set (IntKind.i64.wrap (a0 + i_2):Int).toNat x_4).set (IntKind.i64.wrap (b0 + i_2):Int).toNat x_5,IntKind.i64.wrap (i_2 + 1)))) else (some (.inr data_1))) (data0,0)) (fun y_3=>some y_3)
theorem cF {F:Nat} {a0:Int} {b0:Int} {n0:Int} {cmp0:List Int} {data0:List Int} {r:(List Int)} (h:bT F a0 b0 n0 cmp0 data0 = some r):ar Try.prog [] 77 [(1,.cp 3 1 (data0.map eI))] [.row 1,.one (.i a0),.one (.i b0),.one (.i n0),.one (.bS 34 [CP.rp [.sl 1 (cmp0.map eI)]])] (Is [(1,.cp 3 1 (r.map eI))] (.eo [])):=by
 unfold bT at h
 refine ar.intro 38 Try.func77 Try.ntmps77 rfl (by simp) fun E=>?_
 show ab _ E ⟨38,[1],[1],[]⟩ _ ⟨[(0,.b (.row 1)),(1,I a0),(2,I b0),(3,I n0),(4,.b (.one (.bS 34 [CP.rp [.sl 1 (cmp0.map eI)]])))],[(1,.cp 3 1 (data0.map eI))]⟩ _
 refine ab.kg 1 rfl (ab.seq (ab.aa ?_))
 refine Oc oa (ae.ag ⟨[(0,.b (.row 1)),(1,I a0),(2,I b0),(3,I n0),(10,I 0)],[(1,.row 3 1 (data0.map eI))]⟩ rfl (ab.block ?_))
 obtain ⟨v1,h2,h⟩:=aF h
 refine ab.b9 h2 (cg fun (data_1:List Int) (i_2:Int)=>⟨[(0,.b (.row 1)),(1,I a0),(2,I b0),(3,I n0),(10,I i_2)],[(1,.row 3 1 (data_1.map eI))]⟩) [0,1,2,3,10] [1] rfl ?_
 rintro ⟨data_1,i_2⟩ o3 h4 hy5
 refine ab.seq (ab.seq (ab.aa ?_))
 refine Oc om (Oc om (Oc (bh rfl rfl) ?_))
 refine ae.ag ⟨[(0,_),(1,_),(2,_),(3,_),(10,_),(13,B (decide (i_2 < n0)))],[(1,_)]⟩ rfl (ab.ite h4 rfl (fun _ h4=>?_) (fun _ h4=>?_))
 ·refine ab.skip (Fin.af ⟨[(0,_),(1,_),(2,_),(3,_),(10,_)],[(1,_)]⟩ rfl (Fin.then (ab.seq (ab.block ?_))))
  refine ab.af ⟨[(0,_),(1,_),(2,_),(3,_),(10,_)],[(1,_)]⟩ rfl ?_
  obtain ⟨x_4,e6,h4⟩:=aF h4
  obtain ⟨x_5,e7,h4⟩:=aF h4
  obtain ⟨x_6,e8,h4⟩:=aF h4
  obtain ⟨x_7,e9,h4⟩:=aF h4
  refine ab.fC mixed [false,false,false,false,false,false,false,false,false,false,false,false,false,false,false,false,false,false,false,false,false,true,false,true] [.b (.row 1),I a0,I i_2,I (IntKind.i64.wrap (a0 + i_2)),.b (.row 1),I b0,I i_2,I (IntKind.i64.wrap (b0 + i_2)),.b (.row 1),I b0,I i_2,I (IntKind.i64.wrap (b0 + i_2)),.b (.bu 1 ((IntKind.i64.wrap (b0 + i_2):Int).toNat * 1)),I x_4,.b (.row 1),I a0,I i_2,I (IntKind.i64.wrap (a0 + i_2)),.b (.bu 1 ((IntKind.i64.wrap (a0 + i_2):Int).toNat * 1)),I x_5,.b (.bu 1 ((IntKind.i64.wrap (a0 + i_2):Int).toNat * 1)),B true,.b (.bu 1 ((IntKind.i64.wrap (b0 + i_2):Int).toNat * 1)),B true] [⟨[false,false,false,false,false,false,false,false,false,false,false,false,false,false,false,false,false,false,false,false,false,false,false,false],[(0,.b (.row 1)),(1,I a0),(2,I b0),(3,I n0),(10,I i_2)],[(1,.row 3 1 (data_1.map eI))],[true,true,true,true,true,true,true,true,true,true,true,true,true,true,true,true,true,true,true,true,true,true,true,true],[],[22,23]⟩,⟨[false,false,false,false,false,false,false,false,false,false,false,false,false,false,false,false,false,false,false,false,false,true,false,false],[(0,.b (.row 1)),(1,I a0),(2,I b0),(3,I n0),(10,I i_2)],[(1,.row 3 1 ((data_1.set (IntKind.i64.wrap (a0 + i_2):Int).toNat x_4).map eI))],[true,true,true,true,true,true,true,true,true,true,true,true,true,true,true,true,true,true,true,true,true,true,true,true],[0,1,2,3,8,9,10,11,12,13,14,15,16,17,18,19,20,21],[]⟩,⟨[false,false,false,false,false,false,false,false,false,false,false,false,false,false,false,false,false,false,false,false,false,true,false,true],[(0,.b (.row 1)),(1,I a0),(2,I b0),(3,I n0),(10,I i_2)],[(1,.row 3 1 (((data_1.set (IntKind.i64.wrap (a0 + i_2):Int).toNat x_4).set (IntKind.i64.wrap (b0 + i_2):Int).toNat x_5).map eI))],[true,true,true,true,true,true,true,true,true,true,true,true,true,true,true,true,true,true,true,true,true,true,true,true],[0,1,2,3,4,5,6,7,8,9,10,11,12,13,14,15,16,17,18,19,20,21,22,23],[]⟩] rfl (⟨by kernel_rfl,⟨⟨.b (.row 1),fun _=>rfl,fun _=>.p (by exact an rfl)⟩,⟨I a0,fun _=>rfl,fun _=>.p (by exact an rfl)⟩,⟨I i_2,fun _=>rfl,fun _=>.p (by exact an rfl)⟩,⟨I (IntKind.i64.wrap (a0 + i_2)),fun _=>rfl,fun _=>.p (by exact aX rfl rfl)⟩,⟨.b (.row 1),fun _=>rfl,fun _=>.p (by exact an rfl)⟩,⟨I b0,fun _=>rfl,fun _=>.p (by exact an rfl)⟩,⟨I i_2,fun _=>rfl,fun _=>.p (by exact an rfl)⟩,⟨I (IntKind.i64.wrap (b0 + i_2)),fun _=>rfl,fun _=>.p (by exact aX rfl rfl)⟩,⟨.b (.row 1),fun _=>rfl,fun _=>.p (by exact an rfl)⟩,⟨I b0,fun _=>rfl,fun _=>.p (by exact an rfl)⟩,⟨I i_2,fun _=>rfl,fun _=>.p (by exact an rfl)⟩,⟨I (IntKind.i64.wrap (b0 + i_2)),fun _=>rfl,fun _=>.p (by exact aX rfl rfl)⟩,⟨.b (.bu 1 ((IntKind.i64.wrap (b0 + i_2):Int).toNat * 1)),fun _=>rfl,fun _=>.p (by exact aq ak (aG e6) (aZ e6) rfl rfl rfl rfl)⟩,⟨I x_4,fun _=>rfl,fun _=>.p (by exact aK (i:=(IntKind.i64.wrap (b0 + i_2):Int).toNat) (f:=0) ax rfl rfl rfl (aD (e:=eI) e6) rfl)⟩,⟨.b (.row 1),fun _=>rfl,fun _=>.p (by exact an rfl)⟩,⟨I a0,fun _=>rfl,fun _=>.p (by exact an rfl)⟩,⟨I i_2,fun _=>rfl,fun _=>.p (by exact an rfl)⟩,⟨I (IntKind.i64.wrap (a0 + i_2)),fun _=>rfl,fun _=>.p (by exact aX rfl rfl)⟩,⟨.b (.bu 1 ((IntKind.i64.wrap (a0 + i_2):Int).toNat * 1)),fun _=>rfl,fun _=>.p (by exact aq ak (aG e7) (aZ e7) rfl rfl rfl rfl)⟩,⟨I x_5,fun _=>rfl,fun _=>.p (by exact aK (i:=(IntKind.i64.wrap (a0 + i_2):Int).toNat) (f:=0) ax rfl rfl rfl (aD (e:=eI) e7) rfl)⟩,⟨.b (.bu 1 ((IntKind.i64.wrap (a0 + i_2):Int).toNat * 1)),fun _=>rfl,fun _=>.p (by exact aq ak (aG e8) (aZ e8) rfl rfl rfl rfl)⟩,⟨_,[],.b (.one .any),rfl,(fun e=>by simp at e),rfl,rfl,fun _=>.eV [1] (by exact .p (by exact bP (i:=(IntKind.i64.wrap (a0 + i_2):Int).toNat) ax rfl rfl rfl rfl (eG e8) (map_set _ _ _ _))) (by exact rfl)⟩,trivial,trivial,trivial⟩,⟨by kernel_rfl,⟨trivial,trivial,trivial,trivial,⟨.b (.row 1),fun _=>rfl,fun _=>.p (by exact an rfl)⟩,⟨I b0,fun _=>rfl,fun _=>.p (by exact an rfl)⟩,⟨I i_2,fun _=>rfl,fun _=>.p (by exact an rfl)⟩,⟨I (IntKind.i64.wrap (b0 + i_2)),fun _=>rfl,fun _=>.p (by exact aX rfl rfl)⟩,trivial,trivial,trivial,trivial,trivial,trivial,trivial,trivial,trivial,trivial,trivial,trivial,trivial,trivial,⟨.b (.bu 1 ((IntKind.i64.wrap (b0 + i_2):Int).toNat * 1)),fun _=>rfl,fun _=>.p (by exact aq ak (aG e9) (aZ e9) rfl rfl rfl rfl)⟩,⟨_,[],.b (.one .any),rfl,(fun e=>by simp at e),rfl,rfl,fun _=>.eV [1] (by exact .p (by exact bP (i:=(IntKind.i64.wrap (b0 + i_2):Int).toNat) ax rfl rfl rfl rfl (eG e9) (map_set _ _ _ _))) (by exact rfl)⟩,trivial⟩,⟨by kernel_rfl,⟨trivial,trivial,trivial,trivial,trivial,trivial,trivial,trivial,trivial,trivial,trivial,trivial,trivial,trivial,trivial,trivial,trivial,trivial,trivial,trivial,trivial,trivial,trivial,trivial,trivial⟩,trivial⟩⟩⟩) rfl rfl rfl [0,1,2,3,10] [1] (s':=⟨[(0,_),(1,_),(2,_),(3,_),(10,_)],[(1,.row 3 1 (((data_1.set (IntKind.i64.wrap (a0 + i_2):Int).toNat x_4).set (IntKind.i64.wrap (b0 + i_2):Int).toNat x_5).map eI))]⟩) rfl ?_
  refine Fin.ai (Fin.af ⟨[(0,_),(1,_),(2,_),(3,_),(10,_)],[(1,_)]⟩ rfl (Fin.then (ab.aa ?_)))
  refine Oc om (Oc (aX rfl rfl) (Oc oa ?_))
  refine ae.nil ?_
  exact Fin.bw [0,1,2,3,10] [1] ((data_1.set (IntKind.i64.wrap (a0 + i_2):Int).toNat x_4).set (IntKind.i64.wrap (b0 + i_2):Int).toNat x_5,IntKind.i64.wrap (i_2 + 1)) (Option.some.inj h4) rfl
 ·refine ab.exit (Fin.ah ?_)
  obtain rfl:=hy5 _ (Option.some.inj h4).symm
  refine Fin.ah (Fin.ay ?_)
  obtain rfl:=Option.some.inj h
  refine Fin.af ⟨[],[(1,_)]⟩ rfl (Fin.jz 1 rfl (Fin.af ⟨[],[(1,.cp 3 1 (data_1.map eI))]⟩ rfl ?_))
  exact Fin.result [] (.inr rfl) rfl (.nil) ⟨rfl,rfl⟩
def dp (F:Nat) (a0:Int) (m0:Int) (b0:Int) (cmp0:List Int) (data0:List Int):Option (List Int) :=
 Option.bind (iter F (kj fun data_3 i_4 j_5=>if (decide (i_4 ≠ j_5)) = true then (if (decide (j_5 < i_4)) = true then ((bT F (IntKind.i64.wrap (m0 - i_4)) m0 j_5 cmp0 data_3).bind fun x_8=>some (.inl (x_8,IntKind.i64.wrap (i_4 - j_5),j_5))) else (fB (IntKind.i64.wrap ((IntKind.i64.wrap (m0 + j_5)) - i_4)) fun x_9=>(bT F (IntKind.i64.wrap (m0 - i_4)) x_9 i_4 cmp0 data_3).bind fun x_10=>some (.inl (x_10,i_4,IntKind.i64.wrap (j_5 - i_4))))) else (some (.inr (data_3,i_4)))) (data0,IntKind.i64.wrap (m0 - a0),IntKind.i64.wrap (b0 - m0))) (cg fun data_1 i_2=>(bT F (IntKind.i64.wrap (m0 - i_2)) m0 i_2 cmp0 data_1).bind fun x_11=>some x_11)
theorem gr {F:Nat} {a0:Int} {m0:Int} {b0:Int} {cmp0:List Int} {data0:List Int} {r:(List Int)} (h:dp F a0 m0 b0 cmp0 data0 = some r):ar Try.prog [] 70 [(1,.cp 3 1 (data0.map eI))] [.row 1,.one (.i a0),.one (.i m0),.one (.i b0),.one (.bS 34 [CP.rp [.sl 1 (cmp0.map eI)]])] (Is [(1,.cp 3 1 (r.map eI))] (.eo [])):=by
 unfold dp at h
 refine ar.intro 58 Try.func70 Try.ntmps70 rfl (by simp) fun E=>?_
 show ab _ E ⟨58,[1],[1],[]⟩ _ ⟨[(0,.b (.row 1)),(1,I a0),(2,I m0),(3,I b0),(4,.b (.one (.bS 34 [CP.rp [.sl 1 (cmp0.map eI)]])))],[(1,.cp 3 1 (data0.map eI))]⟩ _
 refine ab.kg 1 rfl (ab.seq (ab.aa ?_))
 refine Oc om (Oc om (Oc (cE rfl rfl) (Oc oa ?_)))
 refine ae.ag ⟨[(0,.b (.row 1)),(2,I m0),(3,I b0),(4,.b (.one (.bS 34 [CP.rp [.sl 1 (cmp0.map eI)]]))),(10,I (IntKind.i64.wrap (m0 - a0)))],[(1,.row 3 1 (data0.map eI))]⟩ rfl (ab.seq (ab.aa ?_))
 refine Oc om (Oc om (Oc (cE rfl rfl) (Oc oa ?_)))
 refine ae.ag ⟨[(0,_),(2,_),(4,_),(10,_),(11,I (IntKind.i64.wrap (b0 - m0)))],[(1,_)]⟩ rfl ?_
 obtain ⟨v1,h2,h⟩:=aF h
 refine ab.bZ (v:=v1) (cg fun (data_1:List Int) (i_2:Int)=>⟨[(0,.b (.row 1)),(2,I m0),(4,.b (.one (.bS 34 [CP.rp [.sl 1 (cmp0.map eI)]]))),(10,I i_2)],[(1,.row 3 1 (data_1.map eI))]⟩) (fun z=>z) ?_ ?_
 ·refine ab.block (ab.b9 h2 (kj fun (data_3:List Int) (i_4:Int) (j_5:Int)=>⟨[(0,.b (.row 1)),(2,I m0),(4,.b (.one (.bS 34 [CP.rp [.sl 1 (cmp0.map eI)]]))),(10,I i_4),(11,I j_5)],[(1,.row 3 1 (data_3.map eI))]⟩) [0,2,4,10,11] [1] rfl ?_)
  rintro ⟨data_3,i_4,j_5⟩ o3 h4 hy5
  refine ab.seq (ab.seq (ab.aa ?_))
  refine Oc om (Oc om (Oc (kY rfl rfl) ?_))
  refine ae.ag ⟨[(0,_),(2,_),(4,_),(10,_),(11,_),(20,B (decide (i_4 ≠ j_5)))],[(1,_)]⟩ rfl (ab.ite h4 rfl (fun _ h4=>?_) (fun _ h4=>?_))
  ·refine ab.skip (Fin.af ⟨[(0,_),(2,_),(4,_),(10,_),(11,_)],[(1,_)]⟩ rfl (Fin.then (ab.block (ab.seq (ab.aa ?_)))))
   refine Oc om (Oc om (Oc (eH rfl rfl) ?_))
   refine ae.ag ⟨[(0,_),(2,_),(4,_),(10,_),(11,_),(23,B (decide (j_5 < i_4)))],[(1,_)]⟩ rfl (ab.ite h4 rfl (fun _ h4=>?_) (fun _ h4=>?_))
   ·refine ab.seq (ab.aa ?_)
    refine Oc om (Oc om (Oc om (Oc (cE rfl rfl) (Oc om (Oc om ?_)))))
    refine Oc om (ae.jz 1 rfl ?_)
    obtain ⟨x_8,e6,h4⟩:=aF h4
    refine Oc (bj (own_a:=[(1,_)]) (cF e6) oL rfl ⟨rfl,trivial⟩ rfl rfl) (ae.kg 1 rfl (ae.ag ⟨[(0,_),(2,_),(4,_),(10,_),(11,_)],[(1,.row 3 1 (x_8.map eI))]⟩ rfl (ab.aa (Oc om (Oc om (Oc (cE rfl rfl) (Oc oa ?_)))))))
    refine ae.nil (Fin.ai ?_)
    exact Fin.bw [0,2,4,10,11] [1] (x_8,IntKind.i64.wrap (i_4 - j_5),j_5) (Option.some.inj h4) rfl
   ·refine ab.seq (ab.aa ?_)
    refine Oc om (Oc om (Oc om (Oc (cE rfl rfl) (Oc om (Oc om ?_)))))
    refine Oc (aX rfl rfl) (ae.af ⟨[(0,_),(2,_),(4,_),(10,_),(11,_),(35,.b (.row 1)),(38,I (IntKind.i64.wrap (m0 - i_4))),(41,I (IntKind.i64.wrap (m0 + j_5)))],[(1,_)]⟩ rfl (Oc om (ae.gU .i64 h4 rfl (cE rfl rfl) (fun x_9 h4=>?_))))
    refine Oc om (Oc om ?_)
    refine ae.jz 1 rfl ?_
    obtain ⟨x_10,e7,h4⟩:=aF h4
    refine Oc (bj (own_a:=[(1,_)]) (cF e7) oL rfl ⟨rfl,trivial⟩ rfl rfl) (ae.kg 1 rfl (ae.ag ⟨[(0,_),(2,_),(4,_),(10,_),(11,_)],[(1,.row 3 1 (x_10.map eI))]⟩ rfl (ab.aa (Oc om (Oc om (Oc (cE rfl rfl) (Oc oa ?_)))))))
    refine ae.nil (Fin.ai ?_)
    exact Fin.bw [0,2,4,10,11] [1] (x_10,i_4,IntKind.i64.wrap (j_5 - i_4)) (Option.some.inj h4) rfl
  ·refine ab.exit (Fin.ah ?_)
   obtain rfl:=hy5 _ (Option.some.inj h4).symm
   refine Fin.ah (Fin.ay ?_)
   exact Fin.join [0,2,4,10] [1] (data_3,i_4) rfl rfl
 ·rintro ⟨data_1,i_2⟩ hv
  subst v1
  refine ab.aa (Oc om (Oc om (Oc om (Oc (cE rfl rfl) (Oc om (Oc om ?_))))))
  refine Oc om (ae.jz 1 rfl ?_)
  obtain ⟨x_11,e8,h⟩:=aF h
  refine Oc (bj (own_a:=[(1,_)]) (cF e8) oL rfl ⟨rfl,trivial⟩ rfl rfl) (ae.kg 1 rfl (ae.nil ?_))
  obtain rfl:=Option.some.inj h
  refine Fin.af ⟨[],[(1,.row 3 1 (x_11.map eI))]⟩ rfl (Fin.jz 1 rfl (Fin.af ⟨[],[(1,.cp 3 1 (x_11.map eI))]⟩ rfl ?_))
  exact Fin.result [] (.inr rfl) rfl (.nil) ⟨rfl,rfl⟩
def bG (F:Nat):Nat → Int → Int → Int → (List Int) → (List Int) → Option (List Int)
 | 0,_,_,_,_,_=>none
 | n + 1,a0,m0,b0,cmp0,data0=>Option.bind (if (decide ((IntKind.i64.wrap (m0 - a0)) = 1)) = true then (Option.bind (iter F (cg fun i_2 j_3=>if (decide (i_2 < j_3)) = true then (fB (IntKind.u64.wrap (IntKind.i64.wrap (i_2 + j_3))) fun x_5=>(aV data0 (IntKind.i64.wrap (x_5 / 2))).bind fun x_6=>(aV data0 a0).bind fun x_7=>(cM F x_6 x_7 cmp0).bind fun x_8=>if (decide (x_8 < 0)) = true then (fB (IntKind.i64.wrap ((IntKind.i64.wrap (x_5 / 2)) + 1)) fun x_9=>some (.inl (x_9,j_3))) else (some (.inl (i_2,IntKind.i64.wrap (x_5 / 2))))) else (some (.inr i_2))) (m0,b0)) (fun i_1=>Option.bind (iter F (cg fun data_11 k_12=>if (decide (k_12 < (IntKind.i64.wrap (i_1 - 1)))) = true then ((aV data_11 (IntKind.i64.wrap (k_12 + 1))).bind fun x_14=>(aV data_11 k_12).bind fun x_15=>(aV data_11 k_12).bind fun x_16=>(aV (data_11.set (k_12:Int).toNat x_14) (IntKind.i64.wrap (k_12 + 1))).bind fun x_17=>some (.inl ((data_11.set (k_12:Int).toNat x_14).set (IntKind.i64.wrap (k_12 + 1):Int).toNat x_15,IntKind.i64.wrap (k_12 + 1)))) else (some (.inr data_11))) (data0,a0)) (fun y_10=>some (.inr y_10)))) else (some (.inl ()))) (iH (fun _=>Option.bind (if (decide ((IntKind.i64.wrap (b0 - m0)) = 1)) = true then (Option.bind (iter F (cg fun i_19 j_20=>if (decide (i_19 < j_20)) = true then (fB (IntKind.u64.wrap (IntKind.i64.wrap (i_19 + j_20))) fun x_22=>(aV data0 m0).bind fun x_23=>(aV data0 (IntKind.i64.wrap (x_22 / 2))).bind fun x_24=>(cM F x_23 x_24 cmp0).bind fun x_25=>if (!(decide (x_25 < 0))) = true then (fB (IntKind.i64.wrap ((IntKind.i64.wrap (x_22 / 2)) + 1)) fun x_26=>some (.inl (x_26,j_20))) else (some (.inl (i_19,IntKind.i64.wrap (x_22 / 2))))) else (some (.inr i_19))) (a0,m0)) (fun i_18=>Option.bind (iter F (cg fun data_28 k_29=>if (decide (i_18 < k_29)) = true then ((aV data_28 (IntKind.i64.wrap (k_29 - 1))).bind fun x_31=>(aV data_28 k_29).bind fun x_32=>(aV data_28 k_29).bind fun x_33=>(aV (data_28.set (k_29:Int).toNat x_31) (IntKind.i64.wrap (k_29 - 1))).bind fun x_34=>some (.inl ((data_28.set (k_29:Int).toNat x_31).set (IntKind.i64.wrap (k_29 - 1):Int).toNat x_32,IntKind.i64.wrap (k_29 - 1)))) else (some (.inr data_28))) (data0,m0)) (fun y_27=>some (.inr y_27)))) else (some (.inl ()))) (iH (fun _=>fB (IntKind.u64.wrap (IntKind.i64.wrap (a0 + b0))) fun x_35=>fB (IntKind.i64.wrap ((IntKind.i64.wrap (x_35 / 2)) + m0)) fun x_36=>Option.bind (if (decide ((IntKind.i64.wrap (x_35 / 2)) < m0)) = true then (some (IntKind.i64.wrap (x_36 - b0),IntKind.i64.wrap (x_35 / 2))) else (some (a0,m0))) (cg fun start_37 r_38=>Option.bind (iter F (cg fun start_40 r_41=>if (decide (start_40 < r_41)) = true then (fB (IntKind.u64.wrap (IntKind.i64.wrap (start_40 + r_41))) fun x_43=>(aV data0 (IntKind.i64.wrap ((IntKind.i64.wrap (x_36 - 1)) - (IntKind.i64.wrap (x_43 / 2))))).bind fun x_44=>(aV data0 (IntKind.i64.wrap (x_43 / 2))).bind fun x_45=>(cM F x_44 x_45 cmp0).bind fun x_46=>if (!(decide (x_46 < 0))) = true then (fB (IntKind.i64.wrap ((IntKind.i64.wrap (x_43 / 2)) + 1)) fun x_47=>some (.inl (x_47,r_41))) else (some (.inl (start_40,IntKind.i64.wrap (x_43 / 2))))) else (some (.inr start_40))) (start_37,r_38)) (fun start_39=>Option.bind (fB ((decide (start_39 < m0)) && (decide (m0 < (IntKind.i64.wrap (x_36 - start_39))))) fun x_49=>if x_49 = true then ((dp F start_39 m0 (IntKind.i64.wrap (x_36 - start_39)) cmp0 data0).bind fun x_50=>some x_50) else (some data0)) (fun data_48=>Option.bind (fB ((decide (a0 < start_39)) && (decide (start_39 < (IntKind.i64.wrap (x_35 / 2))))) fun x_52=>if x_52 = true then ((bG F n a0 start_39 (IntKind.i64.wrap (x_35 / 2)) cmp0 data_48).bind fun x_53=>some x_53) else (some data_48)) (fun data_51=>fB (decide ((IntKind.i64.wrap (x_35 / 2)) < (IntKind.i64.wrap (x_36 - start_39)))) fun x_54=>if (x_54 && (decide ((IntKind.i64.wrap (x_36 - start_39)) < b0))) = true then ((bG F n (IntKind.i64.wrap (x_35 / 2)) (IntKind.i64.wrap (x_36 - start_39)) b0 cmp0 data_51).bind fun x_55=>some x_55) else (some data_51)))))) (fun y=>some y))) (fun y=>some y))
def cY (F:Nat) (a0:Int) (m0:Int) (b0:Int) (cmp0:List Int) (data0:List Int):Option (List Int):=bG F F a0 m0 b0 cmp0 data0
theorem fJ {F:Nat}:∀ (n:Nat) {a0:Int} {m0:Int} {b0:Int} {cmp0:List Int} {data0:List Int} {r:(List Int)} (h:bG F n a0 m0 b0 cmp0 data0 = some r),ar Try.prog [] 58 [(1,.cp 3 1 (data0.map eI))] [.row 1,.one (.i a0),.one (.i m0),.one (.i b0),.one (.bS 34 [CP.rp [.sl 1 (cmp0.map eI)]])] (Is [(1,.cp 3 1 (r.map eI))] (.eo [])):=by
 intro n
 induction n with
 | zero=>intro a0 m0 b0 cmp0 data0 r h; simp [bG] at h
 | succ n ih=>
 intro a0 m0 b0 cmp0 data0 r h
 unfold bG at h
 refine ar.intro 220 Try.func58 Try.ntmps58 rfl (by simp) fun E=>?_
 show ab _ E ⟨220,[1],[1],[]⟩ _ ⟨[(0,.b (.row 1)),(1,I a0),(2,I m0),(3,I b0),(4,.b (.one (.bS 34 [CP.rp [.sl 1 (cmp0.map eI)]])))],[(1,.cp 3 1 (data0.map eI))]⟩ _
 refine ab.kg 1 rfl ?_
 obtain ⟨v1,h2,h⟩:=aF h
 refine ab.bZ (v:=v1) (fun (_:Unit)=>⟨[(0,.b (.row 1)),(1,I a0),(2,I m0),(3,I b0),(4,.b (.one (.bS 34 [CP.rp [.sl 1 (cmp0.map eI)]])))],[(1,.row 3 1 (data0.map eI))]⟩) (fun z=>.inl z) ?_ ?_
 ·refine ab.seq (ab.aa ?_)
  refine Oc om (Oc om (Oc (cE rfl rfl) (Oc (dB rfl rfl) ?_)))
  refine ae.ag ⟨[(0,.b (.row 1)),(1,I a0),(2,I m0),(3,I b0),(4,.b (.one (.bS 34 [CP.rp [.sl 1 (cmp0.map eI)]]))),(28,B (decide ((IntKind.i64.wrap (m0 - a0)) = 1)))],[(1,.row 3 1 (data0.map eI))]⟩ rfl (ab.ite h2 rfl (fun _ h2=>?_) (fun _ h2=>?_))
  ·refine ab.seq (ab.aa ?_)
   refine Oc om (Oc oa ?_)
   refine ae.ag ⟨[(0,_),(1,_),(3,_),(4,_),(10,I m0)],[(1,_)]⟩ rfl (ab.seq (ab.aa ?_))
   refine Oc om (Oc oa ?_)
   refine ae.ag ⟨[(0,_),(1,_),(4,_),(10,_),(11,I b0)],[(1,_)]⟩ rfl ?_
   obtain ⟨v3,h4,h2⟩:=aF h2
   refine ab.bZ (v:=v3) (fun (i_1:Int)=>⟨[(0,.b (.row 1)),(1,I a0),(10,I i_1)],[(1,.row 3 1 (data0.map eI))]⟩) (fun z=>z) ?_ ?_
   ·refine ab.block (ab.b9 h4 (cg fun (i_2:Int) (j_3:Int)=>⟨[(0,.b (.row 1)),(1,I a0),(4,.b (.one (.bS 34 [CP.rp [.sl 1 (cmp0.map eI)]]))),(10,I i_2),(11,I j_3)],[(1,.row 3 1 (data0.map eI))]⟩) [0,1,4,10,11] [1] rfl ?_)
    rintro ⟨i_2,j_3⟩ o5 h6 hy7
    refine ab.seq (ab.seq (ab.aa ?_))
    refine Oc om (Oc om (Oc (bh rfl rfl) ?_))
    refine ae.ag ⟨[(0,_),(1,_),(4,_),(10,_),(11,_),(33,B (decide (i_2 < j_3)))],[(1,_)]⟩ rfl (ab.ite h6 rfl (fun _ h6=>?_) (fun _ h6=>?_))
    ·refine ab.skip (Fin.af ⟨[(0,_),(1,_),(4,_),(10,_),(11,_)],[(1,_)]⟩ rfl (Fin.then (ab.block (ab.seq (ab.aa ?_)))))
     refine Oc om (Oc om (Oc (aX rfl rfl) ?_))
     refine ae.gU .u64 h6 rfl (bR iB gb rfl) (fun x_5 h6=>?_)
     refine Oc (ig (m:=1) (by decide) rfl rfl rfl) (Oc (bR gb iB rfl) (Oc oa ?_))
     refine ae.ag ⟨[(0,_),(1,_),(4,_),(10,_),(11,_),(12,I (IntKind.i64.wrap (x_5 / 2)))],[(1,_)]⟩ rfl (ab.seq ?_)
     obtain ⟨x_6,e8,h6⟩:=aF h6
     obtain ⟨x_7,e9,h6⟩:=aF h6
     obtain ⟨x_8,e10,h6⟩:=aF h6
     refine ab.dz mixed 11 [.b (.one (.bS 34 [CP.rp [.sl 1 (cmp0.map eI)]])),.b (.row 1),I (IntKind.i64.wrap (x_5 / 2)),.b (.bu 1 ((IntKind.i64.wrap (x_5 / 2):Int).toNat * 1)),I x_6,.b (.row 1),I a0,.b (.bu 1 ((a0:Int).toNat * 1)),I x_7,I x_8,B (decide (x_8 < 0))] [0,1,4,10,11,12,50] [1] (s':=⟨[(0,_),(1,_),(4,_),(10,_),(11,_),(12,_),(50,B (decide (x_8 < 0)))],[(1,_)]⟩) rfl ⟨fun _=>.p om,fun _=>.p om,fun _=>.p om,fun _=>.p (aq ak (aG e8) (aZ e8) rfl rfl rfl rfl),fun _=>.p (aK (i:=(IntKind.i64.wrap (x_5 / 2):Int).toNat) (f:=0) ax rfl rfl rfl (aD (e:=eI) e8) rfl),fun _=>.p om,fun _=>.p om,fun _=>.p (aq ak (aG e9) (aZ e9) rfl rfl rfl rfl),fun _=>.p (aK (i:=(a0:Int).toNat) (f:=0) ax rfl rfl rfl (aD (e:=eI) e9) rfl),fun _=>.p (gh (pss:=[[.sl 1 (cmp0.map eI)]]) (c5 e10) nt rfl rfl rfl trivial rfl rfl),fun _=>.p (bh rfl rfl),trivial⟩ rfl rfl (ab.ite h6 rfl (fun _ h6=>?_) (fun _ h6=>?_))
     ·refine ab.aa (Oc om (ae.gU .i64 h6 rfl (aX rfl rfl) (fun x_9 h6=>?_)))
      refine Oc oa (ae.nil (Fin.ai ?_))
      exact Fin.bw [0,1,4,10,11] [1] (x_9,j_3) (Option.some.inj h6) rfl
     ·refine ab.aa (Oc om (Oc oa ?_))
      refine ae.nil (Fin.ai ?_)
      exact Fin.bw [0,1,4,10,11] [1] (i_2,IntKind.i64.wrap (x_5 / 2)) (Option.some.inj h6) rfl
    ·refine ab.exit (Fin.ah ?_)
     obtain rfl:=hy7 _ (Option.some.inj h6).symm
     refine Fin.ah (Fin.ay ?_)
     exact Fin.join [0,1,10] [1] i_2 rfl rfl
   ·rintro i_1 hv
    subst v3
    obtain ⟨v11,h12,h2⟩:=aF h2
    refine ab.bZ (v:=v11) (fun (y_10:List Int)=>⟨[],[(1,.row 3 1 (y_10.map eI))]⟩) (fun z=>z) ?_ ?_
    ·refine ab.seq (ab.aa ?_)
     refine Oc om (Oc oa ?_)
     refine ae.ag ⟨[(0,_),(10,_),(13,I a0)],[(1,_)]⟩ rfl (ab.block (ab.b9 h12 (cg fun (data_11:List Int) (k_12:Int)=>⟨[(0,.b (.row 1)),(10,I i_1),(13,I k_12)],[(1,.row 3 1 (data_11.map eI))]⟩) [0,10,13] [1] rfl ?_))
     rintro ⟨data_11,k_12⟩ o13 h14 hy15
     refine ab.seq (ab.seq (ab.aa ?_))
     refine Oc om (Oc om (Oc (cE rfl rfl) (Oc (bh rfl rfl) ?_)))
     refine ae.ag ⟨[(0,_),(10,_),(13,_),(58,B (decide (k_12 < (IntKind.i64.wrap (i_1 - 1)))))],[(1,_)]⟩ rfl (ab.ite h14 rfl (fun _ h14=>?_) (fun _ h14=>?_))
     ·refine ab.skip (Fin.af ⟨[(0,_),(10,_),(13,_)],[(1,_)]⟩ rfl (Fin.then (ab.seq (ab.block ?_))))
      refine ab.af ⟨[(0,_),(10,_),(13,_)],[(1,_)]⟩ rfl ?_
      obtain ⟨x_14,e16,h14⟩:=aF h14
      obtain ⟨x_15,e17,h14⟩:=aF h14
      obtain ⟨x_16,e18,h14⟩:=aF h14
      obtain ⟨x_17,e19,h14⟩:=aF h14
      refine ab.fC mixed [false,false,false,false,false,false,false,false,false,false,false,false,false,false,false,true,false,true] [.b (.row 1),I k_12,.b (.row 1),I k_12,I (IntKind.i64.wrap (k_12 + 1)),.b (.row 1),I k_12,I (IntKind.i64.wrap (k_12 + 1)),.b (.bu 1 ((IntKind.i64.wrap (k_12 + 1):Int).toNat * 1)),I x_14,.b (.row 1),I k_12,.b (.bu 1 ((k_12:Int).toNat * 1)),I x_15,.b (.bu 1 ((k_12:Int).toNat * 1)),B true,.b (.bu 1 ((IntKind.i64.wrap (k_12 + 1):Int).toNat * 1)),B true] [⟨[false,false,false,false,false,false,false,false,false,false,false,false,false,false,false,false,false,false],[(0,.b (.row 1)),(10,I i_1),(13,I k_12)],[(1,.row 3 1 (data_11.map eI))],[true,true,true,true,true,true,true,true,true,true,true,true,true,true,true,true,true,true],[],[16,17]⟩,⟨[false,false,false,false,false,false,false,false,false,false,false,false,false,false,false,true,false,false],[(0,.b (.row 1)),(10,I i_1),(13,I k_12)],[(1,.row 3 1 ((data_11.set (k_12:Int).toNat x_14).map eI))],[true,true,true,true,true,true,true,true,true,true,true,true,true,true,true,true,true,true],[0,1,5,6,7,8,9,10,11,12,13,14,15],[]⟩,⟨[false,false,false,false,false,false,false,false,false,false,false,false,false,false,false,true,false,true],[(0,.b (.row 1)),(10,I i_1),(13,I k_12)],[(1,.row 3 1 (((data_11.set (k_12:Int).toNat x_14).set (IntKind.i64.wrap (k_12 + 1):Int).toNat x_15).map eI))],[true,true,true,true,true,true,true,true,true,true,true,true,true,true,true,true,true,true],[0,1,2,3,4,5,6,7,8,9,10,11,12,13,14,15,16,17],[]⟩] rfl (⟨by kernel_rfl,⟨⟨.b (.row 1),fun _=>rfl,fun _=>.p (by exact an rfl)⟩,⟨I k_12,fun _=>rfl,fun _=>.p (by exact an rfl)⟩,⟨.b (.row 1),fun _=>rfl,fun _=>.p (by exact an rfl)⟩,⟨I k_12,fun _=>rfl,fun _=>.p (by exact an rfl)⟩,⟨I (IntKind.i64.wrap (k_12 + 1)),fun _=>rfl,fun _=>.p (by exact aX rfl rfl)⟩,⟨.b (.row 1),fun _=>rfl,fun _=>.p (by exact an rfl)⟩,⟨I k_12,fun _=>rfl,fun _=>.p (by exact an rfl)⟩,⟨I (IntKind.i64.wrap (k_12 + 1)),fun _=>rfl,fun _=>.p (by exact aX rfl rfl)⟩,⟨.b (.bu 1 ((IntKind.i64.wrap (k_12 + 1):Int).toNat * 1)),fun _=>rfl,fun _=>.p (by exact aq ak (aG e16) (aZ e16) rfl rfl rfl rfl)⟩,⟨I x_14,fun _=>rfl,fun _=>.p (by exact aK (i:=(IntKind.i64.wrap (k_12 + 1):Int).toNat) (f:=0) ax rfl rfl rfl (aD (e:=eI) e16) rfl)⟩,⟨.b (.row 1),fun _=>rfl,fun _=>.p (by exact an rfl)⟩,⟨I k_12,fun _=>rfl,fun _=>.p (by exact an rfl)⟩,⟨.b (.bu 1 ((k_12:Int).toNat * 1)),fun _=>rfl,fun _=>.p (by exact aq ak (aG e17) (aZ e17) rfl rfl rfl rfl)⟩,⟨I x_15,fun _=>rfl,fun _=>.p (by exact aK (i:=(k_12:Int).toNat) (f:=0) ax rfl rfl rfl (aD (e:=eI) e17) rfl)⟩,⟨.b (.bu 1 ((k_12:Int).toNat * 1)),fun _=>rfl,fun _=>.p (by exact aq ak (aG e18) (aZ e18) rfl rfl rfl rfl)⟩,⟨_,[],.b (.one .any),rfl,(fun e=>by simp at e),rfl,rfl,fun _=>.eV [1] (by exact .p (by exact bP (i:=(k_12:Int).toNat) ax rfl rfl rfl rfl (eG e18) (map_set _ _ _ _))) (by exact rfl)⟩,trivial,trivial,trivial⟩,⟨by kernel_rfl,⟨trivial,trivial,⟨.b (.row 1),fun _=>rfl,fun _=>.p (by exact an rfl)⟩,⟨I k_12,fun _=>rfl,fun _=>.p (by exact an rfl)⟩,⟨I (IntKind.i64.wrap (k_12 + 1)),fun _=>rfl,fun _=>.p (by exact aX rfl rfl)⟩,trivial,trivial,trivial,trivial,trivial,trivial,trivial,trivial,trivial,trivial,trivial,⟨.b (.bu 1 ((IntKind.i64.wrap (k_12 + 1):Int).toNat * 1)),fun _=>rfl,fun _=>.p (by exact aq ak (aG e19) (aZ e19) rfl rfl rfl rfl)⟩,⟨_,[],.b (.one .any),rfl,(fun e=>by simp at e),rfl,rfl,fun _=>.eV [1] (by exact .p (by exact bP (i:=(IntKind.i64.wrap (k_12 + 1):Int).toNat) ax rfl rfl rfl rfl (eG e19) (map_set _ _ _ _))) (by exact rfl)⟩,trivial⟩,⟨by kernel_rfl,⟨trivial,trivial,trivial,trivial,trivial,trivial,trivial,trivial,trivial,trivial,trivial,trivial,trivial,trivial,trivial,trivial,trivial,trivial,trivial⟩,trivial⟩⟩⟩) rfl rfl rfl [0,10,13] [1] (s':=⟨[(0,_),(10,_),(13,_)],[(1,.row 3 1 (((data_11.set (k_12:Int).toNat x_14).set (IntKind.i64.wrap (k_12 + 1):Int).toNat x_15).map eI))]⟩) rfl ?_
      refine Fin.ai (Fin.af ⟨[(0,_),(10,_),(13,_)],[(1,_)]⟩ rfl (Fin.then (ab.aa ?_)))
      refine Oc om (Oc (aX rfl rfl) (Oc oa ?_))
      refine ae.nil ?_
      exact Fin.bw [0,10,13] [1] ((data_11.set (k_12:Int).toNat x_14).set (IntKind.i64.wrap (k_12 + 1):Int).toNat x_15,IntKind.i64.wrap (k_12 + 1)) (Option.some.inj h14) rfl
     ·refine ab.exit (Fin.ah ?_)
      obtain rfl:=hy15 _ (Option.some.inj h14).symm
      refine Fin.ah (Fin.ay ?_)
      exact Fin.join [] [1] data_11 rfl rfl
    ·rintro y_10 hv
     subst v11
     refine ab.ret ?_
     obtain rfl:=Option.some.inj h2
     refine Fin.aO ?_
     obtain rfl:=Option.some.inj h
     refine Fin.af ⟨[],[(1,_)]⟩ rfl (Fin.jz 1 rfl (Fin.af ⟨[],[(1,.cp 3 1 (y_10.map eI))]⟩ rfl ?_))
     exact Fin.result [] (.inl rfl) rfl (.nil) ⟨rfl,rfl⟩
  ·refine ab.skip ?_
   exact Fin.join [0,1,2,3,4] [1] () (Option.some.inj h2) rfl
 ·rintro _ hv
  subst v1
  obtain ⟨v20,h21,h⟩:=aF h
  refine ab.bZ (v:=v20) (fun (_:Unit)=>⟨[(0,.b (.row 1)),(1,I a0),(2,I m0),(3,I b0),(4,.b (.one (.bS 34 [CP.rp [.sl 1 (cmp0.map eI)]])))],[(1,.row 3 1 (data0.map eI))]⟩) (fun z=>.inl z) ?_ ?_
  ·refine ab.seq (ab.aa ?_)
   refine Oc om (Oc om (Oc (cE rfl rfl) (Oc (dB rfl rfl) ?_)))
   refine ae.ag ⟨[(0,_),(1,_),(2,_),(3,_),(4,_),(80,B (decide ((IntKind.i64.wrap (b0 - m0)) = 1)))],[(1,_)]⟩ rfl (ab.ite h21 rfl (fun _ h21=>?_) (fun _ h21=>?_))
   ·refine ab.seq (ab.aa ?_)
    refine Oc om (Oc oa ?_)
    refine ae.ag ⟨[(0,_),(2,_),(4,_),(14,I a0)],[(1,_)]⟩ rfl (ab.seq (ab.aa ?_))
    refine Oc om (Oc oa ?_)
    refine ae.ag ⟨[(0,_),(2,_),(4,_),(14,_),(15,I m0)],[(1,_)]⟩ rfl ?_
    obtain ⟨v22,h23,h21⟩:=aF h21
    refine ab.bZ (v:=v22) (fun (i_18:Int)=>⟨[(0,.b (.row 1)),(2,I m0),(14,I i_18)],[(1,.row 3 1 (data0.map eI))]⟩) (fun z=>z) ?_ ?_
    ·refine ab.block (ab.b9 h23 (cg fun (i_19:Int) (j_20:Int)=>⟨[(0,.b (.row 1)),(2,I m0),(4,.b (.one (.bS 34 [CP.rp [.sl 1 (cmp0.map eI)]]))),(14,I i_19),(15,I j_20)],[(1,.row 3 1 (data0.map eI))]⟩) [0,2,4,14,15] [1] rfl ?_)
     rintro ⟨i_19,j_20⟩ o24 h25 hy26
     refine ab.seq (ab.seq (ab.aa ?_))
     refine Oc om (Oc om (Oc (bh rfl rfl) ?_))
     refine ae.ag ⟨[(0,_),(2,_),(4,_),(14,_),(15,_),(85,B (decide (i_19 < j_20)))],[(1,_)]⟩ rfl (ab.ite h25 rfl (fun _ h25=>?_) (fun _ h25=>?_))
     ·refine ab.skip (Fin.af ⟨[(0,_),(2,_),(4,_),(14,_),(15,_)],[(1,_)]⟩ rfl (Fin.then (ab.block (ab.seq (ab.aa ?_)))))
      refine Oc om (Oc om (Oc (aX rfl rfl) ?_))
      refine ae.gU .u64 h25 rfl (bR iB gb rfl) (fun x_22 h25=>?_)
      refine Oc (ig (m:=1) (by decide) rfl rfl rfl) (Oc (bR gb iB rfl) (Oc oa ?_))
      refine ae.ag ⟨[(0,_),(2,_),(4,_),(14,_),(15,_),(16,I (IntKind.i64.wrap (x_22 / 2)))],[(1,_)]⟩ rfl (ab.seq ?_)
      obtain ⟨x_23,e27,h25⟩:=aF h25
      obtain ⟨x_24,e28,h25⟩:=aF h25
      obtain ⟨x_25,e29,h25⟩:=aF h25
      refine ab.dz mixed 12 [.b (.one (.bS 34 [CP.rp [.sl 1 (cmp0.map eI)]])),.b (.row 1),I m0,.b (.bu 1 ((m0:Int).toNat * 1)),I x_23,.b (.row 1),I (IntKind.i64.wrap (x_22 / 2)),.b (.bu 1 ((IntKind.i64.wrap (x_22 / 2):Int).toNat * 1)),I x_24,I x_25,B (decide (x_25 < 0)),B (!(decide (x_25 < 0)))] [0,2,4,14,15,16,103] [1] (s':=⟨[(0,_),(2,_),(4,_),(14,_),(15,_),(16,_),(103,B (!(decide (x_25 < 0))))],[(1,_)]⟩) rfl ⟨fun _=>.p om,fun _=>.p om,fun _=>.p om,fun _=>.p (aq ak (aG e27) (aZ e27) rfl rfl rfl rfl),fun _=>.p (aK (i:=(m0:Int).toNat) (f:=0) ax rfl rfl rfl (aD (e:=eI) e27) rfl),fun _=>.p om,fun _=>.p om,fun _=>.p (aq ak (aG e28) (aZ e28) rfl rfl rfl rfl),fun _=>.p (aK (i:=(IntKind.i64.wrap (x_22 / 2):Int).toNat) (f:=0) ax rfl rfl rfl (aD (e:=eI) e28) rfl),fun _=>.p (gh (pss:=[[.sl 1 (cmp0.map eI)]]) (c5 e29) nt rfl rfl rfl trivial rfl rfl),fun _=>.p (bh rfl rfl),fun _=>.p (dg rfl),trivial⟩ rfl rfl (ab.ite h25 rfl (fun _ h25=>?_) (fun _ h25=>?_))
      ·refine ab.aa (Oc om (ae.gU .i64 h25 rfl (aX rfl rfl) (fun x_26 h25=>?_)))
       refine Oc oa (ae.nil (Fin.ai ?_))
       exact Fin.bw [0,2,4,14,15] [1] (x_26,j_20) (Option.some.inj h25) rfl
      ·refine ab.aa (Oc om (Oc oa ?_))
       refine ae.nil (Fin.ai ?_)
       exact Fin.bw [0,2,4,14,15] [1] (i_19,IntKind.i64.wrap (x_22 / 2)) (Option.some.inj h25) rfl
     ·refine ab.exit (Fin.ah ?_)
      obtain rfl:=hy26 _ (Option.some.inj h25).symm
      refine Fin.ah (Fin.ay ?_)
      exact Fin.join [0,2,14] [1] i_19 rfl rfl
    ·rintro i_18 hv
     subst v22
     obtain ⟨v30,h31,h21⟩:=aF h21
     refine ab.bZ (v:=v30) (fun (y_27:List Int)=>⟨[],[(1,.row 3 1 (y_27.map eI))]⟩) (fun z=>z) ?_ ?_
     ·refine ab.seq (ab.aa ?_)
      refine Oc om (Oc oa ?_)
      refine ae.ag ⟨[(0,_),(14,_),(17,I m0)],[(1,_)]⟩ rfl (ab.block (ab.b9 h31 (cg fun (data_28:List Int) (k_29:Int)=>⟨[(0,.b (.row 1)),(14,I i_18),(17,I k_29)],[(1,.row 3 1 (data_28.map eI))]⟩) [0,14,17] [1] rfl ?_))
      rintro ⟨data_28,k_29⟩ o32 h33 hy34
      refine ab.seq (ab.seq (ab.aa ?_))
      refine Oc om (Oc om (Oc (eH rfl rfl) ?_))
      refine ae.ag ⟨[(0,_),(14,_),(17,_),(110,B (decide (i_18 < k_29)))],[(1,_)]⟩ rfl (ab.ite h33 rfl (fun _ h33=>?_) (fun _ h33=>?_))
      ·refine ab.skip (Fin.af ⟨[(0,_),(14,_),(17,_)],[(1,_)]⟩ rfl (Fin.then (ab.seq (ab.block ?_))))
       refine ab.af ⟨[(0,_),(14,_),(17,_)],[(1,_)]⟩ rfl ?_
       obtain ⟨x_31,e35,h33⟩:=aF h33
       obtain ⟨x_32,e36,h33⟩:=aF h33
       obtain ⟨x_33,e37,h33⟩:=aF h33
       obtain ⟨x_34,e38,h33⟩:=aF h33
       refine ab.fC mixed [false,false,false,false,false,false,false,false,false,false,false,false,false,false,false,true,false,true] [.b (.row 1),I k_29,.b (.row 1),I k_29,I (IntKind.i64.wrap (k_29 - 1)),.b (.row 1),I k_29,I (IntKind.i64.wrap (k_29 - 1)),.b (.bu 1 ((IntKind.i64.wrap (k_29 - 1):Int).toNat * 1)),I x_31,.b (.row 1),I k_29,.b (.bu 1 ((k_29:Int).toNat * 1)),I x_32,.b (.bu 1 ((k_29:Int).toNat * 1)),B true,.b (.bu 1 ((IntKind.i64.wrap (k_29 - 1):Int).toNat * 1)),B true] [⟨[false,false,false,false,false,false,false,false,false,false,false,false,false,false,false,false,false,false],[(0,.b (.row 1)),(14,I i_18),(17,I k_29)],[(1,.row 3 1 (data_28.map eI))],[true,true,true,true,true,true,true,true,true,true,true,true,true,true,true,true,true,true],[],[16,17]⟩,⟨[false,false,false,false,false,false,false,false,false,false,false,false,false,false,false,true,false,false],[(0,.b (.row 1)),(14,I i_18),(17,I k_29)],[(1,.row 3 1 ((data_28.set (k_29:Int).toNat x_31).map eI))],[true,true,true,true,true,true,true,true,true,true,true,true,true,true,true,true,true,true],[0,1,5,6,7,8,9,10,11,12,13,14,15],[]⟩,⟨[false,false,false,false,false,false,false,false,false,false,false,false,false,false,false,true,false,true],[(0,.b (.row 1)),(14,I i_18),(17,I k_29)],[(1,.row 3 1 (((data_28.set (k_29:Int).toNat x_31).set (IntKind.i64.wrap (k_29 - 1):Int).toNat x_32).map eI))],[true,true,true,true,true,true,true,true,true,true,true,true,true,true,true,true,true,true],[0,1,2,3,4,5,6,7,8,9,10,11,12,13,14,15,16,17],[]⟩] rfl (⟨by kernel_rfl,⟨⟨.b (.row 1),fun _=>rfl,fun _=>.p (by exact an rfl)⟩,⟨I k_29,fun _=>rfl,fun _=>.p (by exact an rfl)⟩,⟨.b (.row 1),fun _=>rfl,fun _=>.p (by exact an rfl)⟩,⟨I k_29,fun _=>rfl,fun _=>.p (by exact an rfl)⟩,⟨I (IntKind.i64.wrap (k_29 - 1)),fun _=>rfl,fun _=>.p (by exact cE rfl rfl)⟩,⟨.b (.row 1),fun _=>rfl,fun _=>.p (by exact an rfl)⟩,⟨I k_29,fun _=>rfl,fun _=>.p (by exact an rfl)⟩,⟨I (IntKind.i64.wrap (k_29 - 1)),fun _=>rfl,fun _=>.p (by exact cE rfl rfl)⟩,⟨.b (.bu 1 ((IntKind.i64.wrap (k_29 - 1):Int).toNat * 1)),fun _=>rfl,fun _=>.p (by exact aq ak (aG e35) (aZ e35) rfl rfl rfl rfl)⟩,⟨I x_31,fun _=>rfl,fun _=>.p (by exact aK (i:=(IntKind.i64.wrap (k_29 - 1):Int).toNat) (f:=0) ax rfl rfl rfl (aD (e:=eI) e35) rfl)⟩,⟨.b (.row 1),fun _=>rfl,fun _=>.p (by exact an rfl)⟩,⟨I k_29,fun _=>rfl,fun _=>.p (by exact an rfl)⟩,⟨.b (.bu 1 ((k_29:Int).toNat * 1)),fun _=>rfl,fun _=>.p (by exact aq ak (aG e36) (aZ e36) rfl rfl rfl rfl)⟩,⟨I x_32,fun _=>rfl,fun _=>.p (by exact aK (i:=(k_29:Int).toNat) (f:=0) ax rfl rfl rfl (aD (e:=eI) e36) rfl)⟩,⟨.b (.bu 1 ((k_29:Int).toNat * 1)),fun _=>rfl,fun _=>.p (by exact aq ak (aG e37) (aZ e37) rfl rfl rfl rfl)⟩,⟨_,[],.b (.one .any),rfl,(fun e=>by simp at e),rfl,rfl,fun _=>.eV [1] (by exact .p (by exact bP (i:=(k_29:Int).toNat) ax rfl rfl rfl rfl (eG e37) (map_set _ _ _ _))) (by exact rfl)⟩,trivial,trivial,trivial⟩,⟨by kernel_rfl,⟨trivial,trivial,⟨.b (.row 1),fun _=>rfl,fun _=>.p (by exact an rfl)⟩,⟨I k_29,fun _=>rfl,fun _=>.p (by exact an rfl)⟩,⟨I (IntKind.i64.wrap (k_29 - 1)),fun _=>rfl,fun _=>.p (by exact cE rfl rfl)⟩,trivial,trivial,trivial,trivial,trivial,trivial,trivial,trivial,trivial,trivial,trivial,⟨.b (.bu 1 ((IntKind.i64.wrap (k_29 - 1):Int).toNat * 1)),fun _=>rfl,fun _=>.p (by exact aq ak (aG e38) (aZ e38) rfl rfl rfl rfl)⟩,⟨_,[],.b (.one .any),rfl,(fun e=>by simp at e),rfl,rfl,fun _=>.eV [1] (by exact .p (by exact bP (i:=(IntKind.i64.wrap (k_29 - 1):Int).toNat) ax rfl rfl rfl rfl (eG e38) (map_set _ _ _ _))) (by exact rfl)⟩,trivial⟩,⟨by kernel_rfl,⟨trivial,trivial,trivial,trivial,trivial,trivial,trivial,trivial,trivial,trivial,trivial,trivial,trivial,trivial,trivial,trivial,trivial,trivial,trivial⟩,trivial⟩⟩⟩) rfl rfl rfl [0,14,17] [1] (s':=⟨[(0,_),(14,_),(17,_)],[(1,.row 3 1 (((data_28.set (k_29:Int).toNat x_31).set (IntKind.i64.wrap (k_29 - 1):Int).toNat x_32).map eI))]⟩) rfl ?_
       refine Fin.ai (Fin.af ⟨[(0,_),(14,_),(17,_)],[(1,_)]⟩ rfl (Fin.then (ab.aa ?_)))
       refine Oc om (Oc (cE rfl rfl) (Oc oa ?_))
       refine ae.nil ?_
       exact Fin.bw [0,14,17] [1] ((data_28.set (k_29:Int).toNat x_31).set (IntKind.i64.wrap (k_29 - 1):Int).toNat x_32,IntKind.i64.wrap (k_29 - 1)) (Option.some.inj h33) rfl
      ·refine ab.exit (Fin.ah ?_)
       obtain rfl:=hy34 _ (Option.some.inj h33).symm
       refine Fin.ah (Fin.ay ?_)
       exact Fin.join [] [1] data_28 rfl rfl
     ·rintro y_27 hv
      subst v30
      refine ab.ret ?_
      obtain rfl:=Option.some.inj h21
      refine Fin.aO ?_
      obtain rfl:=Option.some.inj h
      refine Fin.af ⟨[],[(1,_)]⟩ rfl (Fin.jz 1 rfl (Fin.af ⟨[],[(1,.cp 3 1 (y_27.map eI))]⟩ rfl ?_))
      exact Fin.result [] (.inl rfl) rfl (.nil) ⟨rfl,rfl⟩
   ·refine ab.skip ?_
    exact Fin.join [0,1,2,3,4] [1] () (Option.some.inj h21) rfl
  ·rintro _ hv
   subst v20
   refine ab.seq (ab.aa ?_)
   refine Oc om (Oc om (Oc (aX rfl rfl) ?_))
   refine ae.gU .u64 h rfl (bR iB gb rfl) (fun x_35 h=>?_)
   refine Oc (ig (m:=1) (by decide) rfl rfl rfl) (Oc (bR gb iB rfl) (Oc oa ?_))
   refine ae.ag ⟨[(0,_),(1,_),(2,_),(3,_),(4,_),(18,I (IntKind.i64.wrap (x_35 / 2)))],[(1,_)]⟩ rfl (ab.seq (ab.aa ?_))
   refine Oc om (Oc om ?_)
   refine ae.gU .i64 h rfl (aX rfl rfl) (fun x_36 h=>?_)
   refine Oc oa (ae.ag ⟨[(0,_),(1,_),(2,_),(3,_),(4,_),(18,_),(19,I x_36)],[(1,_)]⟩ rfl (ab.seq (ab.aa ?_)))
   refine Oc oa (Oc oa ?_)
   refine ae.ag ⟨[(0,_),(1,_),(2,_),(3,_),(4,_),(18,_),(19,_)],[(1,_)]⟩ rfl ?_
   obtain ⟨v39,h40,h⟩:=aF h
   refine ab.bZ (v:=v39) (cg fun (start_37:Int) (r_38:Int)=>⟨[(0,.b (.row 1)),(1,I a0),(2,I m0),(3,I b0),(4,.b (.one (.bS 34 [CP.rp [.sl 1 (cmp0.map eI)]]))),(18,I (IntKind.i64.wrap (x_35 / 2))),(19,I x_36),(20,I start_37),(21,I r_38)],[(1,.row 3 1 (data0.map eI))]⟩) (fun z=>z) ?_ ?_
   ·refine ab.seq (ab.aa ?_)
    refine Oc om (Oc om (Oc (eH rfl rfl) ?_))
    refine ae.ag ⟨[(0,_),(1,_),(2,_),(3,_),(4,_),(18,_),(19,_),(140,B (decide ((IntKind.i64.wrap (x_35 / 2)) < m0)))],[(1,_)]⟩ rfl (ab.ite h40 rfl (fun _ h40=>?_) (fun _ h40=>?_))
    ·refine ab.seq (ab.aa ?_)
     refine Oc om (Oc om (Oc (cE rfl rfl) (Oc oa ?_)))
     refine ae.ag ⟨[(0,_),(1,_),(2,_),(3,_),(4,_),(18,_),(19,_),(20,I (IntKind.i64.wrap (x_36 - b0)))],[(1,_)]⟩ rfl (ab.aa (Oc om (Oc oa ?_)))
     refine ae.nil ?_
     exact Fin.join [0,1,2,3,4,18,19,20,21] [1] (IntKind.i64.wrap (x_36 - b0),IntKind.i64.wrap (x_35 / 2)) (Option.some.inj h40) rfl
    ·refine ab.seq (ab.aa ?_)
     refine Oc om (Oc oa ?_)
     refine ae.ag ⟨[(0,_),(1,_),(2,_),(3,_),(4,_),(18,_),(19,_),(20,I a0)],[(1,_)]⟩ rfl (ab.aa (Oc om (Oc oa ?_)))
     refine ae.nil ?_
     exact Fin.join [0,1,2,3,4,18,19,20,21] [1] (a0,m0) (Option.some.inj h40) rfl
   ·rintro ⟨start_37,r_38⟩ hv
    subst v39
    refine ab.seq (ab.aa ?_)
    refine Oc om (Oc (cE rfl rfl) (Oc oa ?_))
    refine ae.ag ⟨[(0,_),(1,_),(2,_),(3,_),(4,_),(18,_),(19,_),(20,_),(21,_),(22,I (IntKind.i64.wrap (x_36 - 1)))],[(1,_)]⟩ rfl ?_
    obtain ⟨v41,h42,h⟩:=aF h
    refine ab.bZ (v:=v41) (fun (start_39:Int)=>⟨[(0,.b (.row 1)),(1,I a0),(2,I m0),(3,I b0),(4,.b (.one (.bS 34 [CP.rp [.sl 1 (cmp0.map eI)]]))),(18,I (IntKind.i64.wrap (x_35 / 2))),(19,I x_36),(20,I start_39)],[(1,.row 3 1 (data0.map eI))]⟩) (fun z=>z) ?_ ?_
    ·refine ab.block (ab.b9 h42 (cg fun (start_40:Int) (r_41:Int)=>⟨[(0,.b (.row 1)),(1,I a0),(2,I m0),(3,I b0),(4,.b (.one (.bS 34 [CP.rp [.sl 1 (cmp0.map eI)]]))),(18,I (IntKind.i64.wrap (x_35 / 2))),(19,I x_36),(20,I start_40),(21,I r_41),(22,I (IntKind.i64.wrap (x_36 - 1)))],[(1,.row 3 1 (data0.map eI))]⟩) [0,1,2,3,4,18,19,20,21,22] [1] rfl ?_)
     rintro ⟨start_40,r_41⟩ o43 h44 hy45
     refine ab.seq (ab.seq (ab.aa ?_))
     refine Oc om (Oc om (Oc (bh rfl rfl) ?_))
     refine ae.ag ⟨[(0,_),(1,_),(2,_),(3,_),(4,_),(18,_),(19,_),(20,_),(21,_),(22,_),(151,B (decide (start_40 < r_41)))],[(1,_)]⟩ rfl (ab.ite h44 rfl (fun _ h44=>?_) (fun _ h44=>?_))
     ·refine ab.skip (Fin.af ⟨[(0,_),(1,_),(2,_),(3,_),(4,_),(18,_),(19,_),(20,_),(21,_),(22,_)],[(1,_)]⟩ rfl (Fin.then (ab.block (ab.seq (ab.aa ?_)))))
      refine Oc om (Oc om (Oc (aX rfl rfl) ?_))
      refine ae.gU .u64 h44 rfl (bR iB gb rfl) (fun x_43 h44=>?_)
      refine Oc (ig (m:=1) (by decide) rfl rfl rfl) (Oc (bR gb iB rfl) (Oc oa ?_))
      refine ae.ag ⟨[(0,_),(1,_),(2,_),(3,_),(4,_),(18,_),(19,_),(20,_),(21,_),(22,_),(23,I (IntKind.i64.wrap (x_43 / 2)))],[(1,_)]⟩ rfl (ab.seq ?_)
      obtain ⟨x_44,e46,h44⟩:=aF h44
      obtain ⟨x_45,e47,h44⟩:=aF h44
      obtain ⟨x_46,e48,h44⟩:=aF h44
      refine ab.dz mixed 14 [.b (.one (.bS 34 [CP.rp [.sl 1 (cmp0.map eI)]])),.b (.row 1),I (IntKind.i64.wrap (x_36 - 1)),I (IntKind.i64.wrap (x_43 / 2)),I (IntKind.i64.wrap ((IntKind.i64.wrap (x_36 - 1)) - (IntKind.i64.wrap (x_43 / 2)))),.b (.bu 1 ((IntKind.i64.wrap ((IntKind.i64.wrap (x_36 - 1)) - (IntKind.i64.wrap (x_43 / 2))):Int).toNat * 1)),I x_44,.b (.row 1),I (IntKind.i64.wrap (x_43 / 2)),.b (.bu 1 ((IntKind.i64.wrap (x_43 / 2):Int).toNat * 1)),I x_45,I x_46,B (decide (x_46 < 0)),B (!(decide (x_46 < 0)))] [0,1,2,3,4,18,19,20,21,22,23,171] [1] (s':=⟨[(0,_),(1,_),(2,_),(3,_),(4,_),(18,_),(19,_),(20,_),(21,_),(22,_),(23,_),(171,B (!(decide (x_46 < 0))))],[(1,_)]⟩) rfl ⟨fun _=>.p om,fun _=>.p om,fun _=>.p om,fun _=>.p om,fun _=>.p (cE rfl rfl),fun _=>.p (aq ak (aG e46) (aZ e46) rfl rfl rfl rfl),fun _=>.p (aK (i:=(IntKind.i64.wrap ((IntKind.i64.wrap (x_36 - 1)) - (IntKind.i64.wrap (x_43 / 2))):Int).toNat) (f:=0) ax rfl rfl rfl (aD (e:=eI) e46) rfl),fun _=>.p om,fun _=>.p om,fun _=>.p (aq ak (aG e47) (aZ e47) rfl rfl rfl rfl),fun _=>.p (aK (i:=(IntKind.i64.wrap (x_43 / 2):Int).toNat) (f:=0) ax rfl rfl rfl (aD (e:=eI) e47) rfl),fun _=>.p (gh (pss:=[[.sl 1 (cmp0.map eI)]]) (c5 e48) nt rfl rfl rfl trivial rfl rfl),fun _=>.p (bh rfl rfl),fun _=>.p (dg rfl),trivial⟩ rfl rfl (ab.ite h44 rfl (fun _ h44=>?_) (fun _ h44=>?_))
      ·refine ab.aa (Oc om (ae.gU .i64 h44 rfl (aX rfl rfl) (fun x_47 h44=>?_)))
       refine Oc oa (ae.nil (Fin.ai ?_))
       exact Fin.bw [0,1,2,3,4,18,19,20,21,22] [1] (x_47,r_41) (Option.some.inj h44) rfl
      ·refine ab.aa (Oc om (Oc oa ?_))
       refine ae.nil (Fin.ai ?_)
       exact Fin.bw [0,1,2,3,4,18,19,20,21,22] [1] (start_40,IntKind.i64.wrap (x_43 / 2)) (Option.some.inj h44) rfl
     ·refine ab.exit (Fin.ah ?_)
      obtain rfl:=hy45 _ (Option.some.inj h44).symm
      refine Fin.ah (Fin.ay ?_)
      exact Fin.join [0,1,2,3,4,18,19,20] [1] start_40 rfl rfl
    ·rintro start_39 hv
     subst v41
     refine ab.seq (ab.aa ?_)
     refine Oc om (Oc om (Oc (cE rfl rfl) (Oc oa ?_)))
     refine ae.ag ⟨[(0,_),(1,_),(2,_),(3,_),(4,_),(18,_),(20,_),(24,I (IntKind.i64.wrap (x_36 - start_39)))],[(1,_)]⟩ rfl ?_
     obtain ⟨v49,h50,h⟩:=aF h
     refine ab.bZ (v:=v49) (fun (data_48:List Int)=>⟨[(0,.b (.row 1)),(1,I a0),(3,I b0),(4,.b (.one (.bS 34 [CP.rp [.sl 1 (cmp0.map eI)]]))),(18,I (IntKind.i64.wrap (x_35 / 2))),(20,I start_39),(24,I (IntKind.i64.wrap (x_36 - start_39)))],[(1,.row 3 1 (data_48.map eI))]⟩) (fun z=>z) ?_ ?_
     ·refine ab.seq (ab.aa ?_)
      refine Oc om (Oc om (Oc (bh rfl rfl) (Oc om ?_)))
      refine cX (decide (start_39 < m0)) [] (fun g51=>trivial) (fun g51=>om) (cX (decide (start_39 < m0)) [] (fun g52=>by exact trivial) (fun g52=>om) (cX (decide (start_39 < m0)) [182,183] (fun g53=>by exact ⟨g53,g53,trivial⟩) (fun g53=>bh rfl rfl) (ae.lY h50 rfl (aY (fun e=>e) rfl rfl rfl rfl) (fun x_49 h50=>?_))))
      refine ae.ag ⟨[(0,_),(1,_),(2,_),(3,_),(4,_),(18,_),(20,_),(24,_),(185,B x_49)],[(1,_)]⟩ rfl (ab.ite h50 rfl (fun _ h50=>?_) (fun _ h50=>?_))
      ·refine ab.aa (Oc om (Oc om (Oc om (Oc om (Oc om ?_)))))
       refine ae.jz 1 rfl ?_
       obtain ⟨x_50,e54,h50⟩:=aF h50
       refine Oc (bj (own_a:=[(1,_)]) (gr e54) goes70 rfl ⟨rfl,trivial⟩ rfl rfl) (ae.kg 1 rfl (ae.nil ?_))
       exact Fin.join [0,1,3,4,18,20,24] [1] x_50 (Option.some.inj h50) rfl
      ·refine ab.skip ?_
       exact Fin.join [0,1,3,4,18,20,24] [1] data0 (Option.some.inj h50) rfl
     ·rintro data_48 hv
      subst v49
      obtain ⟨v55,h56,h⟩:=aF h
      refine ab.bZ (v:=v55) (fun (data_51:List Int)=>⟨[(0,.b (.row 1)),(3,I b0),(4,.b (.one (.bS 34 [CP.rp [.sl 1 (cmp0.map eI)]]))),(18,I (IntKind.i64.wrap (x_35 / 2))),(24,I (IntKind.i64.wrap (x_36 - start_39)))],[(1,.row 3 1 (data_51.map eI))]⟩) (fun z=>z) ?_ ?_
      ·refine ab.seq (ab.aa ?_)
       refine Oc om (Oc om (Oc (bh rfl rfl) (Oc om ?_)))
       refine cX (decide (a0 < start_39)) [] (fun g57=>trivial) (fun g57=>om) (cX (decide (a0 < start_39)) [] (fun g58=>by exact trivial) (fun g58=>om) (cX (decide (a0 < start_39)) [196,197] (fun g59=>by exact ⟨g59,g59,trivial⟩) (fun g59=>bh rfl rfl) (ae.lY h56 rfl (aY (fun e=>e) rfl rfl rfl rfl) (fun x_52 h56=>?_))))
       refine ae.ag ⟨[(0,_),(1,_),(3,_),(4,_),(18,_),(20,_),(24,_),(199,B x_52)],[(1,_)]⟩ rfl (ab.ite h56 rfl (fun _ h56=>?_) (fun _ h56=>?_))
       ·refine ab.aa (Oc om (Oc om (Oc om (Oc om (Oc om ?_)))))
        refine ae.jz 1 rfl ?_
        obtain ⟨x_53,e60,h56⟩:=aF h56
        refine Oc (bj (own_a:=[(1,_)]) (ih e60) nr rfl ⟨rfl,trivial⟩ rfl rfl) (ae.kg 1 rfl (ae.nil ?_))
        exact Fin.join [0,3,4,18,24] [1] x_53 (Option.some.inj h56) rfl
       ·refine ab.skip ?_
        exact Fin.join [0,3,4,18,24] [1] data_48 (Option.some.inj h56) rfl
      ·rintro data_51 hv
       subst v55
       refine ab.seq (ab.aa ?_)
       refine Oc om (Oc om ?_)
       refine ae.lY h rfl (bh rfl rfl) (fun x_54 h=>?_)
       refine Oc om (cX x_54 [] (fun g61=>by exact trivial) (fun g61=>om) (cX x_54 [] (fun g62=>by exact trivial) (fun g62=>om) (cX x_54 [210,211] (fun g63=>by exact ⟨g63,g63,trivial⟩) (fun g63=>bh rfl rfl) (Oc (aY (fun e=>e) rfl rfl rfl rfl) (ae.ag ⟨[(0,_),(3,_),(4,_),(18,_),(24,_),(213,B (x_54 && (decide ((IntKind.i64.wrap (x_36 - start_39)) < b0))))],[(1,_)]⟩ rfl ?_)))))
       refine ab.ite h rfl (fun _ h=>?_) (fun _ h=>?_)
       ·refine ab.aa (Oc om (Oc om (Oc om (Oc om (Oc om ?_)))))
        refine ae.jz 1 rfl ?_
        obtain ⟨x_55,e64,h⟩:=aF h
        refine Oc (bj (own_a:=[(1,_)]) (ih e64) nr rfl ⟨rfl,trivial⟩ rfl rfl) (ae.kg 1 rfl (ae.nil ?_))
        obtain rfl:=Option.some.inj h
        refine Fin.af ⟨[],[(1,.row 3 1 (x_55.map eI))]⟩ rfl (Fin.jz 1 rfl (Fin.af ⟨[],[(1,.cp 3 1 (x_55.map eI))]⟩ rfl ?_))
        exact Fin.result [] (.inr rfl) rfl (.nil) ⟨rfl,rfl⟩
       ·refine ab.skip ?_
        obtain rfl:=Option.some.inj h
        refine Fin.af ⟨[],[(1,_)]⟩ rfl (Fin.jz 1 rfl (Fin.af ⟨[],[(1,.cp 3 1 (data_51.map eI))]⟩ rfl ?_))
        exact Fin.result [] (.inr rfl) rfl (.nil) ⟨rfl,rfl⟩
theorem dA {F:Nat} {a0:Int} {m0:Int} {b0:Int} {cmp0:List Int} {data0:List Int} {r:(List Int)} (h:cY F a0 m0 b0 cmp0 data0 = some r):ar Try.prog [] 58 [(1,.cp 3 1 (data0.map eI))] [.row 1,.one (.i a0),.one (.i m0),.one (.i b0),.one (.bS 34 [CP.rp [.sl 1 (cmp0.map eI)]])] (Is [(1,.cp 3 1 (r.map eI))] (.eo [])):=fJ F h
def dn (F:Nat) (n0:Int) (cmp0:List Int) (data0:List Int):Option (List Int) :=
 Option.bind (iter F (kj fun data_3 a_4 b_5=>if (decide (b_5 ≤ n0)) = true then ((bY F a_4 b_5 cmp0 data_3).bind fun x_8=>some (.inl (x_8,b_5,IntKind.i64.wrap (b_5 + 20)))) else (some (.inr (data_3,a_4)))) (data0,0,20)) (cg fun data_1 a_2=>(bY F a_2 n0 cmp0 data_1).bind fun x_9=>Option.bind (iter F (cg fun data_10 blockSize_11=>if (decide (blockSize_11 < n0)) = true then (Option.bind (iter F (kj fun data_15 a_16 b_17=>if (decide (b_17 ≤ n0)) = true then (fB (IntKind.i64.wrap (a_16 + blockSize_11)) fun x_20=>(cY F a_16 x_20 b_17 cmp0 data_15).bind fun x_21=>fB (IntKind.i64.wrap (b_17 + (IntKind.i64.wrap (2 * blockSize_11)))) fun x_22=>some (.inl (x_21,b_17,x_22))) else (some (.inr (data_15,a_16)))) (data_10,0,IntKind.i64.wrap (2 * blockSize_11))) (cg fun data_13 a_14=>Option.bind (fB (IntKind.i64.wrap (a_14 + blockSize_11)) fun x_24=>if (decide (x_24 < n0)) = true then ((cY F a_14 x_24 n0 cmp0 data_13).bind fun x_25=>some x_25) else (some data_13)) (fun data_23=>some (.inl (data_23,IntKind.i64.wrap (blockSize_11 * 2)))))) else (some (.inr data_10))) (x_9,20)) (fun y_12=>some y_12))
theorem gq {F:Nat} {n0:Int} {cmp0:List Int} {data0:List Int} {r:(List Int)} (h:dn F n0 cmp0 data0 = some r):ar Try.prog [] 51 [(1,.cp 3 1 (data0.map eI))] [.row 1,.one (.i n0),.one (.bS 34 [CP.rp [.sl 1 (cmp0.map eI)]])] (Is [(1,.cp 3 1 (r.map eI))] (.eo [])):=by
 unfold dn at h
 refine ar.intro 63 Try.func51 Try.ntmps51 rfl (by simp) fun E=>?_
 show ab _ E ⟨63,[1],[1],[]⟩ _ ⟨[(0,.b (.row 1)),(1,I n0),(2,.b (.one (.bS 34 [CP.rp [.sl 1 (cmp0.map eI)]])))],[(1,.cp 3 1 (data0.map eI))]⟩ _
 refine ab.kg 1 rfl (ab.seq (ab.aa ?_))
 refine Oc oa (ae.ag ⟨[(0,.b (.row 1)),(1,I n0),(2,.b (.one (.bS 34 [CP.rp [.sl 1 (cmp0.map eI)]]))),(6,I 20)],[(1,.row 3 1 (data0.map eI))]⟩ rfl (ab.seq (ab.aa ?_)))
 refine Oc om (Oc oa (Oc oa ?_))
 refine ae.ag ⟨[(0,_),(1,_),(2,_),(6,_),(7,I 0),(8,I 20)],[(1,_)]⟩ rfl ?_
 obtain ⟨v1,h2,h⟩:=aF h
 refine ab.bZ (v:=v1) (cg fun (data_1:List Int) (a_2:Int)=>⟨[(0,.b (.row 1)),(1,I n0),(2,.b (.one (.bS 34 [CP.rp [.sl 1 (cmp0.map eI)]]))),(6,I 20),(7,I a_2)],[(1,.row 3 1 (data_1.map eI))]⟩) (fun z=>z) ?_ ?_
 ·refine ab.block (ab.b9 h2 (kj fun (data_3:List Int) (a_4:Int) (b_5:Int)=>⟨[(0,.b (.row 1)),(1,I n0),(2,.b (.one (.bS 34 [CP.rp [.sl 1 (cmp0.map eI)]]))),(6,I 20),(7,I a_4),(8,I b_5)],[(1,.row 3 1 (data_3.map eI))]⟩) [0,1,2,6,7,8] [1] rfl ?_)
  rintro ⟨data_3,a_4,b_5⟩ o3 h4 hy5
  refine ab.seq (ab.seq (ab.aa ?_))
  refine Oc om (Oc om (Oc (ni rfl rfl) ?_))
  refine ae.ag ⟨[(0,_),(1,_),(2,_),(6,_),(7,_),(8,_),(13,B (decide (b_5 ≤ n0)))],[(1,_)]⟩ rfl (ab.ite h4 rfl (fun _ h4=>?_) (fun _ h4=>?_))
  ·refine ab.skip (Fin.af ⟨[(0,_),(1,_),(2,_),(6,_),(7,_),(8,_)],[(1,_)]⟩ rfl (Fin.then (ab.block (ab.seq (ab.aa ?_)))))
   refine Oc om (Oc om (Oc om (Oc om ?_)))
   refine ae.jz 1 rfl ?_
   obtain ⟨x_8,e6,h4⟩:=aF h4
   refine Oc (bj (own_a:=[(1,_)]) (cW e6) qG rfl ⟨rfl,trivial⟩ rfl rfl) (ae.kg 1 rfl (ae.ag ⟨[(0,_),(1,_),(2,_),(6,_),(8,_)],[(1,.row 3 1 (x_8.map eI))]⟩ rfl (ab.seq (ab.aa ?_))))
   refine Oc om (Oc oa ?_)
   refine ae.ag ⟨[(0,_),(1,_),(2,_),(6,_),(7,I b_5),(8,_)],[(1,_)]⟩ rfl (ab.aa (Oc om (Oc om (Oc (aX rfl rfl) (Oc oa ?_)))))
   refine ae.nil (Fin.ai ?_)
   exact Fin.bw [0,1,2,6,7,8] [1] (x_8,b_5,IntKind.i64.wrap (b_5 + 20)) (Option.some.inj h4) rfl
  ·refine ab.exit (Fin.ah ?_)
   obtain rfl:=hy5 _ (Option.some.inj h4).symm
   refine Fin.ah (Fin.ay ?_)
   exact Fin.join [0,1,2,6,7] [1] (data_3,a_4) rfl rfl
 ·rintro ⟨data_1,a_2⟩ hv
  subst v1
  refine ab.seq (ab.aa ?_)
  refine Oc om (Oc om (Oc om (Oc om ?_)))
  refine ae.jz 1 rfl ?_
  obtain ⟨x_9,e7,h⟩:=aF h
  refine Oc (bj (own_a:=[(1,_)]) (cW e7) qG rfl ⟨rfl,trivial⟩ rfl rfl) (ae.kg 1 rfl (ae.ag ⟨[(0,_),(1,_),(2,_),(6,_)],[(1,.row 3 1 (x_9.map eI))]⟩ rfl (ab.block ?_)))
  obtain ⟨v8,h9,h⟩:=aF h
  refine ab.b9 h9 (cg fun (data_10:List Int) (blockSize_11:Int)=>⟨[(0,.b (.row 1)),(1,I n0),(2,.b (.one (.bS 34 [CP.rp [.sl 1 (cmp0.map eI)]]))),(6,I blockSize_11)],[(1,.row 3 1 (data_10.map eI))]⟩) [0,1,2,6] [1] rfl ?_
  rintro ⟨data_10,blockSize_11⟩ o10 h11 hy12
  refine ab.seq (ab.seq (ab.aa ?_))
  refine Oc om (Oc om (Oc (bh rfl rfl) ?_))
  refine ae.ag ⟨[(0,_),(1,_),(2,_),(6,_),(30,B (decide (blockSize_11 < n0)))],[(1,_)]⟩ rfl (ab.ite h11 rfl (fun _ h11=>?_) (fun _ h11=>?_))
  ·refine ab.skip (Fin.af ⟨[(0,_),(1,_),(2,_),(6,_)],[(1,_)]⟩ rfl (Fin.then (ab.block (ab.seq (ab.aa ?_)))))
   refine Oc om (Oc (oF rfl rfl) (Oc oa (Oc oa ?_)))
   refine ae.ag ⟨[(0,_),(1,_),(2,_),(6,_),(7,I 0),(8,I (IntKind.i64.wrap (2 * blockSize_11)))],[(1,_)]⟩ rfl ?_
   obtain ⟨v13,h14,h11⟩:=aF h11
   refine ab.bZ (v:=v13) (cg fun (data_13:List Int) (a_14:Int)=>⟨[(0,.b (.row 1)),(1,I n0),(2,.b (.one (.bS 34 [CP.rp [.sl 1 (cmp0.map eI)]]))),(6,I blockSize_11),(7,I a_14)],[(1,.row 3 1 (data_13.map eI))]⟩) (fun z=>z) ?_ ?_
   ·refine ab.block (ab.b9 h14 (kj fun (data_15:List Int) (a_16:Int) (b_17:Int)=>⟨[(0,.b (.row 1)),(1,I n0),(2,.b (.one (.bS 34 [CP.rp [.sl 1 (cmp0.map eI)]]))),(6,I blockSize_11),(7,I a_16),(8,I b_17)],[(1,.row 3 1 (data_15.map eI))]⟩) [0,1,2,6,7,8] [1] rfl ?_)
    rintro ⟨data_15,a_16,b_17⟩ o15 h16 hy17
    refine ab.seq (ab.seq (ab.aa ?_))
    refine Oc om (Oc om (Oc (ni rfl rfl) ?_))
    refine ae.ag ⟨[(0,_),(1,_),(2,_),(6,_),(7,_),(8,_),(35,B (decide (b_17 ≤ n0)))],[(1,_)]⟩ rfl (ab.ite h16 rfl (fun _ h16=>?_) (fun _ h16=>?_))
    ·refine ab.skip (Fin.af ⟨[(0,_),(1,_),(2,_),(6,_),(7,_),(8,_)],[(1,_)]⟩ rfl (Fin.then (ab.block (ab.seq (ab.aa ?_)))))
     refine Oc om (Oc om (Oc om (Oc om ?_)))
     refine ae.gU .i64 h16 rfl (aX rfl rfl) (fun x_20 h16=>?_)
     refine Oc om (Oc om ?_)
     refine ae.jz 1 rfl ?_
     obtain ⟨x_21,e18,h16⟩:=aF h16
     refine Oc (bj (own_a:=[(1,_)]) (dA e18) nr rfl ⟨rfl,trivial⟩ rfl rfl) (ae.kg 1 rfl (ae.ag ⟨[(0,_),(1,_),(2,_),(6,_),(8,_)],[(1,.row 3 1 (x_21.map eI))]⟩ rfl (ab.seq (ab.aa ?_))))
     refine Oc om (Oc oa ?_)
     refine ae.ag ⟨[(0,_),(1,_),(2,_),(6,_),(7,I b_17),(8,_)],[(1,_)]⟩ rfl (ab.aa (Oc om (Oc om (Oc (oF rfl rfl) ?_))))
     refine ae.gU .i64 h16 rfl (aX rfl rfl) (fun x_22 h16=>?_)
     refine Oc oa (ae.nil (Fin.ai ?_))
     exact Fin.bw [0,1,2,6,7,8] [1] (x_21,b_17,x_22) (Option.some.inj h16) rfl
    ·refine ab.exit (Fin.ah ?_)
     obtain rfl:=hy17 _ (Option.some.inj h16).symm
     refine Fin.ah (Fin.ay ?_)
     exact Fin.join [0,1,2,6,7] [1] (data_15,a_16) rfl rfl
   ·rintro ⟨data_13,a_14⟩ hv
    subst v13
    obtain ⟨v19,h20,h11⟩:=aF h11
    refine ab.bZ (v:=v19) (fun (data_23:List Int)=>⟨[(0,.b (.row 1)),(1,I n0),(2,.b (.one (.bS 34 [CP.rp [.sl 1 (cmp0.map eI)]]))),(6,I blockSize_11)],[(1,.row 3 1 (data_23.map eI))]⟩) (fun z=>z) ?_ ?_
    ·refine ab.seq (ab.aa ?_)
     refine Oc om (Oc om ?_)
     refine ae.gU .i64 h20 rfl (aX rfl rfl) (fun x_24 h20=>?_)
     refine Oc oa (ae.ag ⟨[(0,_),(1,_),(2,_),(6,_),(7,_),(9,I x_24)],[(1,_)]⟩ rfl (ab.seq (ab.aa ?_)))
     refine Oc om (Oc om (Oc (bh rfl rfl) ?_))
     refine ae.ag ⟨[(0,_),(1,_),(2,_),(6,_),(7,_),(9,_),(54,B (decide (x_24 < n0)))],[(1,_)]⟩ rfl (ab.ite h20 rfl (fun _ h20=>?_) (fun _ h20=>?_))
     ·refine ab.aa (Oc om (Oc om (Oc om (Oc om (Oc om ?_)))))
      refine ae.jz 1 rfl ?_
      obtain ⟨x_25,e21,h20⟩:=aF h20
      refine Oc (bj (own_a:=[(1,_)]) (dA e21) nr rfl ⟨rfl,trivial⟩ rfl rfl) (ae.kg 1 rfl (ae.nil ?_))
      exact Fin.join [0,1,2,6] [1] x_25 (Option.some.inj h20) rfl
     ·refine ab.skip ?_
      exact Fin.join [0,1,2,6] [1] data_13 (Option.some.inj h20) rfl
    ·rintro data_23 hv
     subst v19
     refine ab.aa (Oc om (Oc (oF rfl rfl) (Oc oa ?_)))
     refine ae.nil (Fin.ai ?_)
     exact Fin.bw [0,1,2,6] [1] (data_23,IntKind.i64.wrap (blockSize_11 * 2)) (Option.some.inj h11) rfl
  ·refine ab.exit (Fin.ah ?_)
   obtain rfl:=hy12 _ (Option.some.inj h11).symm
   refine Fin.ah (Fin.ay ?_)
   obtain rfl:=Option.some.inj h
   refine Fin.af ⟨[],[(1,_)]⟩ rfl (Fin.jz 1 rfl (Fin.af ⟨[],[(1,.cp 3 1 (data_10.map eI))]⟩ rfl ?_))
   exact Fin.result [] (.inr rfl) rfl (.nil) ⟨rfl,rfl⟩
def dc (F:Nat) (cmp0:List Int) (x0:List Int):Option (List Int) :=
 (dn F (x0.length:Int) cmp0 x0).bind fun x_1=>some x_1
theorem gp {F:Nat} {cmp0:List Int} {x0:List Int} {r:(List Int)} (h:dc F cmp0 x0 = some r):ar Try.prog [] 33 [(1,.cp 3 1 (x0.map eI))] [.row 1,.one (.bS 34 [CP.rp [.sl 1 (cmp0.map eI)]])] (Is [(1,.cp 3 1 (r.map eI))] (.eo [])):=by
 unfold dc at h
 refine ar.intro 9 Try.func33 Try.ntmps33 rfl (by simp) fun E=>?_
 show ab _ E ⟨9,[1],[1],[]⟩ _ ⟨[(0,.b (.row 1)),(1,.b (.one (.bS 34 [CP.rp [.sl 1 (cmp0.map eI)]])))],[(1,.cp 3 1 (x0.map eI))]⟩ _
 refine ab.kg 1 rfl (ab.aa (Oc om (Oc om (Oc (fc eW rfl rfl (List.length_map _)) (Oc om ?_)))))
 refine ae.jz 1 rfl ?_
 obtain ⟨x_1,e1,h⟩:=aF h
 refine Oc (bj (own_a:=[(1,_)]) (gq e1) goes51 rfl ⟨rfl,trivial⟩ rfl rfl) (ae.kg 1 rfl (ae.nil ?_))
 obtain rfl:=Option.some.inj h
 refine Fin.af ⟨[],[(1,.row 3 1 (x_1.map eI))]⟩ rfl (Fin.jz 1 rfl (Fin.af ⟨[],[(1,.cp 3 1 (x_1.map eI))]⟩ rfl ?_))
 exact Fin.result [] (.inr rfl) rfl (.nil) ⟨rfl,rfl⟩
def eQ (F:Nat) (fixed0:List Bool) (links0:List A2):Option ((List Int) × Int) :=
 Option.bind (dY F fixed0 links0) (cg fun x_1 x_2=>if (decide (x_2 ≠ 0)) = true then (some ([],x_2)) else (Option.bind (dN F fixed0 links0) (cg fun x_3 x_4=>Option.bind (iter F (cg fun out_6 x_7=>if (decide (x_7 < (x_3.length:Int))) = true then ((aV x_3 x_7).bind fun x_9=>(dc F x_1 x_9).bind fun x_10=>(df out_6 x_10).bind fun x_11=>some (.inl (x_11,IntKind.i64.wrap (x_7 + 1)))) else (some (.inr out_6))) ([],0)) (fun out_5=>some (out_5,0)))))
theorem kS {F:Nat} {fixed0:List Bool} {links0:List A2} {r:(List Int) × Int} (h:eQ F fixed0 links0 = some r):ar Try.prog [] 14 [] [.one (.sl 1 (fixed0.map eB)),.one (.sl 2 (links0.map (cR .i64)))] (Is [] (.eo [.one (.sl 1 (r.1.map eI)),.one (.i r.2)])):=by
 unfold eQ at h
 refine ar.intro 42 Try.func14 Try.ntmps14 rfl (by simp) fun E=>?_
 show ab _ E ⟨42,[],[],[]⟩ _ ⟨[(0,.b (.one (.sl 1 (fixed0.map eB)))),(1,.b (.one (.sl 2 (links0.map (cR .i64)))))],[]⟩ _
 refine ab.seq (ab.aa ?_)
 refine Oc oa (Oc oa ?_)
 refine ae.ag ⟨[(0,.b (.one (.sl 1 (fixed0.map eB)))),(1,.b (.one (.sl 2 (links0.map (cR .i64)))))],[]⟩ rfl (ab.seq (ab.aa ?_))
 refine Oc om (Oc om ?_)
 obtain ⟨⟨x_1,x_2⟩,e1,h⟩:=aF h
 refine Oc (bj (gn 101 e1) qQ rfl trivial rfl rfl) (Oc om (Oc (aM rfl rfl) ?_))
 refine ae.af ⟨[(0,_),(1,_),(13,.eo [.row 101,.one (.i x_2)]),(17,.b (.row 101))],[(101,.row 3 1 (x_1.map eI))]⟩ rfl (Oc (aM rfl rfl) (Oc (bn (k:=102) cj rfl) ?_))
 refine ae.bA 101 rfl (Oc (fF aT rfl rfl rfl (Nat.le_of_ble_eq_true rfl) rfl) (ae.fD 102 rfl (Oc oa (ae.ag ⟨[(0,.b (.one (.sl 1 (fixed0.map eB)))),(1,.b (.one (.sl 2 (links0.map (cR .i64))))),(6,.b (.cz [.sl 1 (x_1.map eI)])),(7,I x_2)],[]⟩ rfl (ab.seq (ab.seq (ab.aa ?_)))))))
 refine Oc om (Oc (kY rfl rfl) ?_)
 refine ae.ag ⟨[(0,_),(1,_),(6,_),(7,_),(20,B (decide (x_2 ≠ 0)))],[]⟩ rfl (ab.ite h rfl (fun _ h=>?_) (fun _ h=>?_))
 ·refine ab.seq (ab.aa ?_)
  refine Oc om (Oc oa (Oc oa ?_))
  refine ae.ag ⟨[(4,.b (.one (.nil))),(5,I x_2)],[]⟩ rfl (ab.ret (Fin.aO ?_))
  obtain rfl:=Option.some.inj h
  refine Fin.af ⟨[(4,_),(5,_)],[]⟩ rfl (Fin.gT 4 1 rfl (by decide) (Fin.a6 [.one (.sl 1 ([].map eI)),.one (.i x_2)] (.inl rfl) rfl (.cons (.tmp rfl) (.cons (.tmp rfl) .nil)) ⟨rfl,rfl⟩))
 ·refine ab.skip (Fin.af ⟨[(0,_),(1,_),(6,_)],[]⟩ rfl (Fin.then (ab.seq (ab.aa ?_))))
  refine Oc om (Oc om ?_)
  obtain ⟨⟨x_3,x_4⟩,e2,h⟩:=aF h
  refine Oc (bj (own_a:=[]) ((jC e2).sw 51 103) qR rfl trivial rfl rfl) (Oc om (Oc (aM rfl rfl) ?_))
  refine ae.af ⟨[(6,_),(22,.eo [.row 103,.one (.i x_4)]),(26,.b (.row 103))],[(103,.rr 30 3 1 .none (x_3.map (eR eI)))]⟩ rfl (Oc (aM rfl rfl) (Oc oa (Oc oa ?_)))
  refine ae.ag ⟨[(6,_),(8,.b (.row 103))],[(103,_)]⟩ rfl (ab.seq (ab.aa ?_))
  refine Oc oa (ae.ag ⟨[(6,_),(8,_),(10,.b (.one (.nil)))],[(103,_)]⟩ rfl ?_)
  obtain ⟨v3,h4,h⟩:=aF h
  refine ab.bZ (v:=v3) (fun (out_5:List Int)=>⟨[(10,.b (.row 105))],[(105,.row 3 1 (out_5.map eI))]⟩) (fun z=>z) ?_ ?_
  ·refine ab.seq (ab.aa ?_)
   refine Oc om (Oc (j7 gx rfl rfl (List.length_map _)) (Oc om ?_))
   refine ae.ag ⟨[(6,_),(10,_),(28,.b (.row 103)),(29,I (x_3.length:Int)),(30,I 0)],[(103,_)]⟩ rfl (ab.block (ab.cN 10 105 1 3 rfl (by decide) rfl (ab.toBelow 103 rfl (ab.b9 h4 (cg fun (out_6:List Int) (x_7:Int)=>⟨[(6,.b (.cz [.sl 1 (x_1.map eI)])),(10,.b (.row 105)),(28,.b (.row 103)),(29,I (x_3.length:Int)),(30,I x_7)],[(103,.rr 30 3 1 (.below (x_7:Int).toNat) (x_3.map (eR eI))),(105,.row 3 1 (out_6.map eI))]⟩) [6,10,28,29,30] [103,105] rfl ?_))))
   rintro ⟨out_6,x_7⟩ o5 h6 hy7
   refine ab.seq (ab.aa ?_)
   refine Oc (bh rfl rfl) (ae.ag ⟨[(6,_),(10,_),(28,_),(29,_),(30,_),(31,B (decide (x_7 < (x_3.length:Int))))],[(103,_),(105,_)]⟩ rfl (ab.seq (ab.ite h6 rfl (fun _ h6=>?_) (fun _ h6=>?_))))
   ·refine ab.skip (Fin.af ⟨[(6,_),(10,_),(28,_),(29,_),(30,_)],[(103,_),(105,_)]⟩ rfl (Fin.then (ab.seq (ab.block (ab.seq (ab.aa ?_))))))
    obtain ⟨x_9,e8,h6⟩:=aF h6
    refine Oc (cU bH (aG e8) (aZ e8) rfl rfl rfl rfl) (Oc (oY (ii:=x_7) 106 aT rfl rfl rfl (aG e8) (aD (e:=eR eI) e8) (by decide) rfl rfl) (Oc oa ?_))
    refine ae.ag ⟨[(6,_),(10,_),(12,.b (.row 106)),(28,_),(29,_),(30,_)],[(103,.rr 30 3 1 (.below (IntKind.i64.wrap (x_7 + 1):Int).toNat) (x_3.map (eR eI))),(105,_),(106,.row 3 1 (x_9.map eI))]⟩ rfl (ab.seq (ab.aa ?_))
    refine Oc om (Oc (iv rfl) ?_)
    refine ae.jz 106 rfl ?_
    obtain ⟨x_10,e9,h6⟩:=aF h6
    refine Oc (bj (own_a:=[(106,_)]) ((gp e9).sw 1 106) goes33 rfl ⟨rfl,trivial⟩ rfl rfl) (ae.kg 106 rfl (ae.ag ⟨[(6,_),(10,_),(12,_),(28,_),(29,_),(30,_)],[(103,_),(105,_),(106,.row 3 1 (x_10.map eI))]⟩ rfl (ab.aa (Oc om (Oc om ?_)))))
    obtain ⟨x_11,e10,h6⟩:=aF h6
    refine Oc (bq ak (c7 e10) (c6 e10) rfl rfl rfl rfl (bW e10) rfl) (Oc oa ?_)
    refine ae.nil (Fin.ai (Fin.af ⟨[(6,_),(10,_),(28,_),(29,_),(30,_)],[(103,_),(105,.row 3 1 (x_11.map eI))]⟩ rfl (Fin.then (ab.aa ?_))))
    refine Oc (aX rfl rfl) (Oc om ?_)
    refine ae.nil ?_
    exact Fin.bw [6,10,28,29,30] [103,105] (x_11,IntKind.i64.wrap (x_7 + 1)) (Option.some.inj h6) rfl
   ·refine ab.exit (Fin.ah ?_)
    obtain rfl:=hy7 _ (Option.some.inj h6).symm
    refine Fin.ah (Fin.ay ?_)
    exact Fin.join [10] [105] out_6 rfl rfl
  ·rintro out_5 hv
   subst v3
   refine ab.seq (ab.aa ?_)
   refine Oc om (Oc oa (Oc oa ?_))
   refine ae.ag ⟨[(4,.b (.row 105)),(5,I 0)],[(105,_)]⟩ rfl (ab.ret ?_)
   obtain rfl:=Option.some.inj h
   refine Fin.af ⟨[(4,.b (.row 105)),(5,I 0)],[(105,.row 3 1 (out_5.map eI))]⟩ rfl (Fin.bA 105 rfl (Fin.a6 [.one (.sl 1 (out_5.map eI)),.one (.i 0)] (.inl rfl) rfl (.cons (.tmp rfl) (.cons (.tmp rfl) .nil)) ⟨rfl,rfl⟩))
def fI (F:Nat) (fixed0:List Bool) (links0:List A2):Option ((List Int) × Int) :=
 (cc F fixed0 links0).bind fun x_1=>if (!x_1) = true then (some ([],1)) else (Option.bind (du F fixed0 links0) (cg fun x_2 x_3=>some (x_3,0)))
theorem kf (kr0:Nat) {F:Nat} {fixed0:List Bool} {links0:List A2} {r:(List Int) × Int} (h:fI F fixed0 links0 = some r):ar Try.prog [] 20 [] [.one (.sl 1 (fixed0.map eB)),.one (.sl 2 (links0.map (cR .i64)))] (Is [(kr0,.row 3 1 (r.1.map eI))] (.eo [.row kr0,.one (.i r.2)])):=by
 unfold fI at h
 refine ar.intro 19 Try.func20 Try.ntmps20 rfl (by simp) fun E=>?_
 show ab _ E ⟨19,[],[],[]⟩ _ ⟨[(0,.b (.one (.sl 1 (fixed0.map eB)))),(1,.b (.one (.sl 2 (links0.map (cR .i64)))))],[]⟩ _
 refine ab.seq (ab.aa ?_)
 refine Oc oa (Oc oa ?_)
 refine ae.ag ⟨[(0,.b (.one (.sl 1 (fixed0.map eB)))),(1,.b (.one (.sl 2 (links0.map (cR .i64)))))],[]⟩ rfl (ab.seq (ab.seq (ab.aa ?_)))
 refine Oc om (Oc om ?_)
 obtain ⟨x_1,e1,h⟩:=aF h
 refine Oc (aP (cm e1) k5 rfl rfl) (Oc (dg rfl) ?_)
 refine ae.ag ⟨[(0,_),(1,_),(11,B (!x_1))],[]⟩ rfl (ab.ite h rfl (fun _ h=>?_) (fun _ h=>?_))
 ·refine ab.seq (ab.aa ?_)
  refine Oc oa (Oc oa ?_)
  refine ae.ag ⟨[(4,.b (.one (.nil))),(5,I 1)],[]⟩ rfl (ab.ret (Fin.aO ?_))
  obtain rfl:=Option.some.inj h
  refine Fin.af ⟨[(4,_),(5,_)],[]⟩ rfl (Fin.cN 4 101 1 3 rfl (by decide) rfl (Fin.ic 101 kr0 [.row 101,.one (.i 1)] (.inl rfl) rfl (.cons (.tmp rfl) (.cons (.tmp rfl) .nil)) rfl rfl rfl rfl ⟨rfl,rfl⟩))
 ·refine ab.skip (Fin.af ⟨[(0,_),(1,_)],[]⟩ rfl (Fin.then (ab.seq (ab.aa ?_))))
  refine Oc om (Oc om ?_)
  obtain ⟨⟨x_2,x_3⟩,e2,h⟩:=aF h
  refine Oc (bj (own_a:=[]) (((eh e2).sw 51 102).sw 52 103) oN rfl trivial rfl rfl) (Oc om (Oc (aM rfl rfl) ?_))
  refine ae.af ⟨[(12,.eo [.xa [.row 102],.row 103]),(16,.b (.xa [.row 102]))],[(102,.mq x_2),(103,.row 3 1 (x_3.map eI))]⟩ rfl (Oc (aM rfl rfl) (Oc (bn (k:=104) gV rfl) ?_))
  refine ae.mK 104 rfl (Oc (ez cA rfl rfl rfl rfl rfl (Nat.le_of_ble_eq_true rfl) rfl) (Oc oa ?_))
  refine ae.ag ⟨[(7,.b (.row 103))],[(103,.row 3 1 (x_3.map eI))]⟩ rfl (ab.seq (ab.aa ?_))
  refine Oc om (Oc oa (Oc oa ?_))
  refine ae.ag ⟨[(4,.b (.row 103)),(5,I 0)],[(103,_)]⟩ rfl (ab.ret ?_)
  obtain rfl:=Option.some.inj h
  refine Fin.af ⟨[(4,_),(5,_)],[(103,_)]⟩ rfl (Fin.ic 103 kr0 [.row 103,.one (.i 0)] (.inl rfl) rfl (.cons (.tmp rfl) (.cons (.tmp rfl) .nil)) rfl rfl rfl rfl ⟨rfl,rfl⟩)
def dv (F:Nat):Nat → Int → Int → Int → (List Int) → (List Int) → (List (List km)) → (List Int) → (List Int) → Option (Int × (List Int) × (List Int) × (List Int) × (List Int))
 | 0,_,_,_,_,_,_,_,_=>none
 | n + 1,n0,by0,v0c,v1c,v2c,v3c,v5c,v6c=>(aV v1c n0).bind fun x_1=>(aV v2c n0).bind fun x_2=>Option.bind (if (decide (0 ≤ by0)) = true then (some 1) else (some 0)) (fun parts_3=>Option.bind ((aV v3c n0).bind fun x_10=>iter F (un7 fun xf0_11 xf0_12 xf0_13 xf0f0_14 xf0f0_15 parts_16 x_17=>if (decide (x_17 < (x_10.length:Int))) = true then (Option.bind ((aV x_10 x_17).bind fun x_30=>if (decide (x_30.pos = by0)) = true then (some (xf0_11,xf0_12,xf0_13,xf0f0_14,xf0f0_15,parts_16)) else ((aV xf0_11 x_30.to).bind fun x_31=>if (decide (0 < x_31)) = true then ((aV xf0_12 n0).bind fun x_32=>(aV xf0_11 x_30.to).bind fun x_33=>(aV xf0_12 n0).bind fun x_34=>some (xf0_11,xf0_12.set (n0:Int).toNat (min x_32 x_33),xf0_13,xf0f0_14,xf0f0_15,parts_16)) else (Option.bind (dv F n x_30.to x_30.pos xf0_13 xf0_11 xf0_12 v3c xf0f0_14 xf0f0_15) (un5 fun x_35 x_36 x_37 x_38 x_39=>(aV x_37 n0).bind fun x_40=>(aV x_37 x_30.to).bind fun x_41=>(aV x_37 n0).bind fun x_42=>Option.bind ((aV (x_37.set (n0:Int).toNat (min x_40 x_41)) x_30.to).bind fun x_44=>(aV x_36 n0).bind fun x_45=>if (decide (x_45 ≤ x_44)) = true then (some (IntKind.i64.wrap (parts_16 + 1))) else (some parts_16)) (fun parts_43=>(aV (x_37.set (n0:Int).toNat (min x_40 x_41)) x_30.to).bind fun x_46=>(aV x_36 n0).bind fun x_47=>if (decide (x_47 < x_46)) = true then ((df x_38 [x_30.pos]).bind fun x_48=>some (x_36,x_37.set (n0:Int).toNat (min x_40 x_41),x_35,x_48,x_39,parts_43)) else (some (x_36,x_37.set (n0:Int).toNat (min x_40 x_41),x_35,x_38,x_39,parts_43))))))) (un6 fun xf0_24 xf0_25 xf0_26 xf0f0_27 xf0f0_28 parts_29=>some (.inl (xf0_24,xf0_25,xf0_26,xf0f0_27,xf0f0_28,parts_29,IntKind.i64.wrap (x_17 + 1))))) else (some (.inr (xf0f0_15,parts_16,xf0_13,xf0_11,xf0_12,xf0f0_14)))) (v1c.set (n0:Int).toNat (IntKind.i64.wrap (v0c + 1)),v2c.set (n0:Int).toNat (IntKind.i64.wrap (v0c + 1)),IntKind.i64.wrap (v0c + 1),v5c,v6c,parts_3,0)) (un6 fun xf0_4 parts_5 y_6 yf0_7 yf0_8 yf0f0_9=>if (decide (1 < parts_5)) = true then ((df xf0_4 [n0]).bind fun x_49=>some (y_6,yf0_7,yf0_8,yf0f0_9,x_49)) else (some (y_6,yf0_7,yf0_8,yf0f0_9,xf0_4))))
def iF (F:Nat) (n0:Int) (by0:Int) (v0c:Int) (v1c:List Int) (v2c:List Int) (v3c:List (List km)) (v5c:List Int) (v6c:List Int):Option (Int × (List Int) × (List Int) × (List Int) × (List Int)):=dv F F n0 by0 v0c v1c v2c v3c v5c v6c
theorem jB {F:Nat}:∀ (n:Nat) {n0:Int} {by0:Int} {v0c:Int} {v1c:List Int} {v2c:List Int} {v3c:List (List km)} {v5c:List Int} {v6c:List Int} {r:Int × (List Int) × (List Int) × (List Int) × (List Int)} (h:dv F n n0 by0 v0c v1c v2c v3c v5c v6c = some r),ar Try.prog [] 53 [(1,.box 3 [.i v0c]),(2,.ao 30 [.row 3]),(3,.row 3 1 (v1c.map eI)),(4,.ao 30 [.row 5]),(5,.row 3 1 (v2c.map eI)),(6,.box 56 [.sl 1 (v3c.map (eL 2 aR))]),(7,.ao 80 [.fT 53 [] [.ptr 1 0,.ptr 2 0,.ptr 4 0,.ptr 6 0,.ptr 7 0,.ptr 8 0,.ptr 10 0]]),(8,.ao 30 [.row 9]),(9,.row 3 1 (v5c.map eI)),(10,.ao 30 [.row 11]),(11,.row 3 1 (v6c.map eI))] [.one (.i n0),.one (.i by0),.ptr 1 0,.ptr 2 0,.ptr 4 0,.ptr 6 0,.ptr 7 0,.ptr 8 0,.ptr 10 0] (Is [(1,.box 3 [.i r.1]),(2,.ao 30 [.row 3]),(3,.row 3 1 (r.2.1.map eI)),(4,.ao 30 [.row 5]),(5,.row 3 1 (r.2.2.1.map eI)),(6,.box 56 [.sl 1 (v3c.map (eL 2 aR))]),(7,.ao 80 [.fT 53 [] [.ptr 1 0,.ptr 2 0,.ptr 4 0,.ptr 6 0,.ptr 7 0,.ptr 8 0,.ptr 10 0]]),(8,.ao 30 [.row 9]),(9,.row 3 1 (r.2.2.2.1.map eI)),(10,.ao 30 [.row 11]),(11,.row 3 1 (r.2.2.2.2.map eI))] (.eo [])):=by
 intro n
 induction n with
 | zero=>intro n0 by0 v0c v1c v2c v3c v5c v6c r h; simp [dv] at h
 | succ n ih=>
 intro n0 by0 v0c v1c v2c v3c v5c v6c r h
 unfold dv at h
 refine ar.intro 113 Try.func53 Try.ntmps53 rfl (by simp) fun E=>?_
 show ab _ E ⟨113,[1,2,4,6,7,8,10],[1,2,3,4,5,6,7,8,9,10,11],[]⟩ _ ⟨[(0,I n0),(1,I by0),(2,Pt 1 0),(3,Pt 2 0),(4,Pt 4 0),(5,Pt 6 0),(6,Pt 7 0),(7,Pt 8 0),(8,Pt 10 0)],[(1,.box 3 [.i v0c]),(2,.ao 30 [.row 3]),(3,.row 3 1 (v1c.map eI)),(4,.ao 30 [.row 5]),(5,.row 3 1 (v2c.map eI)),(6,.box 56 [.sl 1 (v3c.map (eL 2 aR))]),(7,.ao 80 [.fT 53 [] [.ptr 1 0,.ptr 2 0,.ptr 4 0,.ptr 6 0,.ptr 7 0,.ptr 8 0,.ptr 10 0]]),(8,.ao 30 [.row 9]),(9,.row 3 1 (v5c.map eI)),(10,.ao 30 [.row 11]),(11,.row 3 1 (v6c.map eI))]⟩ _
 refine ab.seq (ab.aa ?_)
 refine Oc (bp ax rfl rfl rfl) (Oc (aX rfl rfl) (Oc (fF ax rfl rfl rfl (Nat.le_of_ble_eq_true rfl) rfl) ?_))
 refine ae.ag ⟨[(0,I n0),(1,I by0),(2,Pt 1 0),(3,Pt 2 0),(4,Pt 4 0),(5,Pt 6 0),(6,Pt 7 0),(7,Pt 8 0),(8,Pt 10 0)],[(1,.box 3 [.i (IntKind.i64.wrap (v0c + 1))]),(2,.ao 30 [.row 3]),(3,.row 3 1 (v1c.map eI)),(4,.ao 30 [.row 5]),(5,.row 3 1 (v2c.map eI)),(6,.box 56 [.sl 1 (v3c.map (eL 2 aR))]),(7,.ao 80 [.fT 53 [] [.ptr 1 0,.ptr 2 0,.ptr 4 0,.ptr 6 0,.ptr 7 0,.ptr 8 0,.ptr 10 0]]),(8,.ao 30 [.row 9]),(9,.row 3 1 (v5c.map eI)),(10,.ao 30 [.row 11]),(11,.row 3 1 (v6c.map eI))]⟩ rfl (ab.seq ?_)
 obtain ⟨x_1,e1,h⟩:=aF h
 obtain ⟨x_2,e2,h⟩:=aF h
 refine ab.lR mixed [false,false,false,false,false,false,false,true,false,true] [.b (.row 3),I n0,.b (.row 5),I n0,I (IntKind.i64.wrap (v0c + 1)),I (IntKind.i64.wrap (v0c + 1)),.b (.bu 3 ((n0:Int).toNat * 1)),B true,.b (.bu 5 ((n0:Int).toNat * 1)),B true] [⟨[false,false,false,false,false,false,false,false,false,false],[(0,I n0),(1,I by0),(2,Pt 1 0),(3,Pt 2 0),(4,Pt 4 0),(5,Pt 6 0),(6,Pt 7 0),(7,Pt 8 0),(8,Pt 10 0)],[(1,.box 3 [.i (IntKind.i64.wrap (v0c + 1))]),(2,.ao 30 [.row 3]),(3,.row 3 1 (v1c.map eI)),(4,.ao 30 [.row 5]),(5,.row 3 1 (v2c.map eI)),(6,.box 56 [.sl 1 (v3c.map (eL 2 aR))]),(7,.ao 80 [.fT 53 [] [.ptr 1 0,.ptr 2 0,.ptr 4 0,.ptr 6 0,.ptr 7 0,.ptr 8 0,.ptr 10 0]]),(8,.ao 30 [.row 9]),(9,.row 3 1 (v5c.map eI)),(10,.ao 30 [.row 11]),(11,.row 3 1 (v6c.map eI))],[true,true,true,true,true,true,true,true,true,true],[],[8,9]⟩,⟨[false,false,false,false,false,false,false,true,false,false],[(0,I n0),(1,I by0),(2,Pt 1 0),(3,Pt 2 0),(4,Pt 4 0),(5,Pt 6 0),(6,Pt 7 0),(7,Pt 8 0),(8,Pt 10 0)],[(1,.box 3 [.i (IntKind.i64.wrap (v0c + 1))]),(2,.ao 30 [.row 3]),(3,.row 3 1 ((v1c.set (n0:Int).toNat (IntKind.i64.wrap (v0c + 1))).map eI)),(4,.ao 30 [.row 5]),(5,.row 3 1 (v2c.map eI)),(6,.box 56 [.sl 1 (v3c.map (eL 2 aR))]),(7,.ao 80 [.fT 53 [] [.ptr 1 0,.ptr 2 0,.ptr 4 0,.ptr 6 0,.ptr 7 0,.ptr 8 0,.ptr 10 0]]),(8,.ao 30 [.row 9]),(9,.row 3 1 (v5c.map eI)),(10,.ao 30 [.row 11]),(11,.row 3 1 (v6c.map eI))],[true,true,true,true,true,true,true,true,true,true],[0,1,4,6,7],[]⟩,⟨[false,false,false,false,false,false,false,true,false,true],[(0,I n0),(1,I by0),(2,Pt 1 0),(3,Pt 2 0),(4,Pt 4 0),(5,Pt 6 0),(6,Pt 7 0),(7,Pt 8 0),(8,Pt 10 0)],[(1,.box 3 [.i (IntKind.i64.wrap (v0c + 1))]),(2,.ao 30 [.row 3]),(3,.row 3 1 ((v1c.set (n0:Int).toNat (IntKind.i64.wrap (v0c + 1))).map eI)),(4,.ao 30 [.row 5]),(5,.row 3 1 ((v2c.set (n0:Int).toNat (IntKind.i64.wrap (v0c + 1))).map eI)),(6,.box 56 [.sl 1 (v3c.map (eL 2 aR))]),(7,.ao 80 [.fT 53 [] [.ptr 1 0,.ptr 2 0,.ptr 4 0,.ptr 6 0,.ptr 7 0,.ptr 8 0,.ptr 10 0]]),(8,.ao 30 [.row 9]),(9,.row 3 1 (v5c.map eI)),(10,.ao 30 [.row 11]),(11,.row 3 1 (v6c.map eI))],[true,true,true,true,true,true,true,true,true,true],[0,1,2,3,4,5,6,7,8,9],[]⟩] rfl (⟨by kernel_rfl,⟨⟨.b (.row 3),fun _=>rfl,fun _=>.p (by exact aW aT rfl rfl rfl)⟩,⟨I n0,fun _=>rfl,fun _=>.p (by exact an rfl)⟩,⟨.b (.row 5),fun _=>rfl,fun _=>.p (by exact aW aT rfl rfl rfl)⟩,⟨I n0,fun _=>rfl,fun _=>.p (by exact an rfl)⟩,⟨I (IntKind.i64.wrap (v0c + 1)),fun _=>rfl,fun _=>.p (by exact bp ax rfl rfl rfl)⟩,⟨I (IntKind.i64.wrap (v0c + 1)),fun _=>rfl,fun _=>.p (by exact bp ax rfl rfl rfl)⟩,⟨.b (.bu 3 ((n0:Int).toNat * 1)),fun _=>rfl,fun _=>.p (by exact aq ak (aG e1) (aZ e1) rfl rfl rfl rfl)⟩,⟨_,[],.b (.one .any),rfl,(fun e=>by simp at e),rfl,rfl,fun _=>.eV [1,2,3,4,5,6,7,8,9,10,11] (by exact .p (by exact bP (i:=(n0:Int).toNat) ax rfl rfl rfl rfl (eG e1) (map_set _ _ _ _))) (by exact rfl)⟩,trivial,trivial,trivial⟩,⟨by kernel_rfl,⟨trivial,trivial,⟨.b (.row 5),fun _=>rfl,fun _=>.p (by exact aW aT rfl rfl rfl)⟩,⟨I n0,fun _=>rfl,fun _=>.p (by exact an rfl)⟩,trivial,⟨I (IntKind.i64.wrap (v0c + 1)),fun _=>rfl,fun _=>.p (by exact bp ax rfl rfl rfl)⟩,trivial,trivial,⟨.b (.bu 5 ((n0:Int).toNat * 1)),fun _=>rfl,fun _=>.p (by exact aq ak (aG e2) (aZ e2) rfl rfl rfl rfl)⟩,⟨_,[],.b (.one .any),rfl,(fun e=>by simp at e),rfl,rfl,fun _=>.eV [1,2,3,4,5,6,7,8,9,10,11] (by exact .p (by exact bP (i:=(n0:Int).toNat) ax rfl rfl rfl rfl (eG e2) (map_set _ _ _ _))) (by exact rfl)⟩,trivial⟩,⟨by kernel_rfl,⟨trivial,trivial,trivial,trivial,trivial,trivial,trivial,trivial,trivial,trivial,trivial⟩,trivial⟩⟩⟩) rfl rfl rfl [0,1,3,4,5,6,7,8] [1,2,3,4,5,6,7,8,9,10,11] (s':=⟨[(0,_),(1,_),(3,_),(4,_),(5,_),(6,_),(7,_),(8,_)],[(1,_),(2,_),(3,.row 3 1 ((v1c.set (n0:Int).toNat (IntKind.i64.wrap (v0c + 1))).map eI)),(4,_),(5,.row 3 1 ((v2c.set (n0:Int).toNat (IntKind.i64.wrap (v0c + 1))).map eI)),(6,_),(7,_),(8,_),(9,_),(10,_),(11,_)]⟩) rfl ?_
 refine ab.seq (ab.aa ?_)
 refine Oc oa (ae.ag ⟨[(0,_),(1,_),(3,_),(4,_),(5,_),(6,_),(7,_),(8,_),(11,I 0)],[(1,_),(2,_),(3,_),(4,_),(5,_),(6,_),(7,_),(8,_),(9,_),(10,_),(11,_)]⟩ rfl ?_)
 obtain ⟨v3,h4,h⟩:=aF h
 refine ab.bZ (v:=v3) (fun (parts_3:Int)=>⟨[(0,I n0),(1,I by0),(3,Pt 2 0),(4,Pt 4 0),(5,Pt 6 0),(6,Pt 7 0),(7,Pt 8 0),(8,Pt 10 0),(11,I parts_3)],[(1,.box 3 [.i (IntKind.i64.wrap (v0c + 1))]),(2,.ao 30 [.row 3]),(3,.row 3 1 ((v1c.set (n0:Int).toNat (IntKind.i64.wrap (v0c + 1))).map eI)),(4,.ao 30 [.row 5]),(5,.row 3 1 ((v2c.set (n0:Int).toNat (IntKind.i64.wrap (v0c + 1))).map eI)),(6,.box 56 [.sl 1 (v3c.map (eL 2 aR))]),(7,.ao 80 [.fT 53 [] [.ptr 1 0,.ptr 2 0,.ptr 4 0,.ptr 6 0,.ptr 7 0,.ptr 8 0,.ptr 10 0]]),(8,.ao 30 [.row 9]),(9,.row 3 1 (v5c.map eI)),(10,.ao 30 [.row 11]),(11,.row 3 1 (v6c.map eI))]⟩) (fun z=>z) ?_ ?_
 ·refine ab.seq (ab.aa ?_)
  refine Oc om (Oc (jW rfl rfl) ?_)
  refine ae.ag ⟨[(0,_),(1,_),(3,_),(4,_),(5,_),(6,_),(7,_),(8,_),(11,_),(25,B (decide (0 ≤ by0)))],[(1,_),(2,_),(3,_),(4,_),(5,_),(6,_),(7,_),(8,_),(9,_),(10,_),(11,_)]⟩ rfl (ab.ite h4 rfl (fun _ h4=>?_) (fun _ h4=>?_))
  ·refine ab.aa (Oc oa (ae.nil ?_))
   exact Fin.join [0,1,3,4,5,6,7,8,11] [1,2,3,4,5,6,7,8,9,10,11] 1 (Option.some.inj h4) rfl
  ·refine ab.skip ?_
   exact Fin.join [0,1,3,4,5,6,7,8,11] [1,2,3,4,5,6,7,8,9,10,11] 0 (Option.some.inj h4) rfl
 ·rintro parts_3 hv
  subst v3
  obtain ⟨v5,h6,h⟩:=aF h
  refine ab.bZ (v:=v5) (un6 fun (xf0_4:List Int) (parts_5:Int) (y_6:Int) (yf0_7:List Int) (yf0_8:List Int) (yf0f0_9:List Int)=>⟨[(0,I n0),(8,Pt 10 0),(11,I parts_5)],[(1,.box 3 [.i y_6]),(2,.ao 30 [.row 3]),(3,.row 3 1 (yf0_7.map eI)),(4,.ao 30 [.row 5]),(5,.row 3 1 (yf0_8.map eI)),(6,.box 56 [.sl 1 (v3c.map (eL 2 aR))]),(7,.ao 80 [.fT 53 [] [.ptr 1 0,.ptr 2 0,.ptr 4 0,.ptr 6 0,.ptr 7 0,.ptr 8 0,.ptr 10 0]]),(8,.ao 30 [.row 9]),(9,.row 3 1 (yf0f0_9.map eI)),(10,.ao 30 [.row 11]),(11,.row 3 1 (xf0_4.map eI))]⟩) (fun z=>z) ?_ ?_
  ·refine ab.seq (ab.aa ?_)
   refine Oc (bp pv rfl rfl rfl) (Oc om ?_)
   obtain ⟨x_10,e7,h6⟩:=aF h6
   refine Oc (aH jT (aG e7) (aD (e:=(eL 2 aR)) e7) rfl rfl) (Oc (aB jm rfl rfl) (Oc (az und58 rfl (List.length_map _)) (Oc om ?_)))
   refine ae.ag ⟨[(0,_),(1,_),(3,_),(4,_),(6,_),(7,_),(8,_),(11,_),(29,.b (.one (.sl 2 (x_10.map aR)))),(30,I (x_10.length:Int)),(31,I 0)],[(1,_),(2,_),(3,_),(4,_),(5,_),(6,_),(7,_),(8,_),(9,_),(10,_),(11,_)]⟩ rfl (ab.block (ab.b9 h6 (un7 fun (xf0_11:List Int) (xf0_12:List Int) (xf0_13:Int) (xf0f0_14:List Int) (xf0f0_15:List Int) (parts_16:Int) (x_17:Int)=>⟨[(0,I n0),(1,I by0),(3,Pt 2 0),(4,Pt 4 0),(6,Pt 7 0),(7,Pt 8 0),(8,Pt 10 0),(11,I parts_16),(29,.b (.one (.sl 2 (x_10.map aR)))),(30,I (x_10.length:Int)),(31,I x_17)],[(1,.box 3 [.i xf0_13]),(2,.ao 30 [.row 3]),(3,.row 3 1 (xf0_11.map eI)),(4,.ao 30 [.row 5]),(5,.row 3 1 (xf0_12.map eI)),(6,.box 56 [.sl 1 (v3c.map (eL 2 aR))]),(7,.ao 80 [.fT 53 [] [.ptr 1 0,.ptr 2 0,.ptr 4 0,.ptr 6 0,.ptr 7 0,.ptr 8 0,.ptr 10 0]]),(8,.ao 30 [.row 9]),(9,.row 3 1 (xf0f0_14.map eI)),(10,.ao 30 [.row 11]),(11,.row 3 1 (xf0f0_15.map eI))]⟩) [0,1,3,4,6,7,8,11,29,30,31] [1,2,3,4,5,6,7,8,9,10,11] rfl ?_))
   rintro ⟨xf0_11,xf0_12,xf0_13,xf0f0_14,xf0f0_15,parts_16,x_17⟩ o8 h9 hy10
   refine ab.seq (ab.aa ?_)
   refine Oc (bh rfl rfl) (ae.ag ⟨[(0,_),(1,_),(3,_),(4,_),(6,_),(7,_),(8,_),(11,_),(29,_),(30,_),(31,_),(32,B (decide (x_17 < (x_10.length:Int))))],[(1,_),(2,_),(3,_),(4,_),(5,_),(6,_),(7,_),(8,_),(9,_),(10,_),(11,_)]⟩ rfl (ab.seq (ab.ite h9 rfl (fun _ h9=>?_) (fun _ h9=>?_))))
   ·refine ab.skip (Fin.af ⟨[(0,_),(1,_),(3,_),(4,_),(6,_),(7,_),(8,_),(11,_),(29,_),(30,_),(31,_)],[(1,_),(2,_),(3,_),(4,_),(5,_),(6,_),(7,_),(8,_),(9,_),(10,_),(11,_)]⟩ rfl (Fin.then ?_))
    obtain ⟨v11,h12,h9⟩:=aF h9
    refine ab.bZ (v:=v11) (un6 fun (xf0_24:List Int) (xf0_25:List Int) (xf0_26:Int) (xf0f0_27:List Int) (xf0f0_28:List Int) (parts_29:Int)=>⟨[(0,I n0),(1,I by0),(3,Pt 2 0),(4,Pt 4 0),(6,Pt 7 0),(7,Pt 8 0),(8,Pt 10 0),(11,I parts_29),(29,.b (.one (.sl 2 (x_10.map aR)))),(30,I (x_10.length:Int)),(31,I x_17)],[(1,.box 3 [.i xf0_26]),(2,.ao 30 [.row 3]),(3,.row 3 1 (xf0_24.map eI)),(4,.ao 30 [.row 5]),(5,.row 3 1 (xf0_25.map eI)),(6,.box 56 [.sl 1 (v3c.map (eL 2 aR))]),(7,.ao 80 [.fT 53 [] [.ptr 1 0,.ptr 2 0,.ptr 4 0,.ptr 6 0,.ptr 7 0,.ptr 8 0,.ptr 10 0]]),(8,.ao 30 [.row 9]),(9,.row 3 1 (xf0f0_27.map eI)),(10,.ao 30 [.row 11]),(11,.row 3 1 (xf0f0_28.map eI))]⟩) (fun z=>z) ?_ ?_
    ·refine ab.block (ab.seq (ab.aa ?_))
     obtain ⟨x_30,e13,h12⟩:=aF h12
     refine Oc (aH kW (aG e13) (aD (e:=aR) e13) rfl rfl) (Oc (jw lP rfl rfl rfl) (Oc (bn (k:=101) nU rfl) (Oc (j6 lP rfl rfl rfl rfl (Nat.le_of_ble_eq_true rfl) rfl) ?_)))
     refine ae.ag ⟨[(0,_),(1,_),(3,_),(4,_),(6,_),(7,_),(8,_),(11,_),(13,Pt 101 0),(29,_),(30,_),(31,_)],[(1,_),(2,_),(3,_),(4,_),(5,_),(6,_),(7,_),(8,_),(9,_),(10,_),(11,_),(101,.box 60 (aR x_30))]⟩ rfl (ab.block (ab.seq (ab.aa ?_)))
     refine Oc (bI lb rfl rfl) (Oc (bp ax rfl rfl rfl) (Oc om (Oc (dB rfl rfl) (Oc oa ?_))))
     refine ae.ag ⟨[(0,_),(1,_),(3,_),(4,_),(6,_),(7,_),(8,_),(11,_),(13,_),(29,_),(30,_),(31,_),(81,B (decide (x_30.pos = by0)))],[(1,_),(2,_),(3,_),(4,_),(5,_),(6,_),(7,_),(8,_),(9,_),(10,_),(11,_),(101,_)]⟩ rfl (ab.ite h12 rfl (fun _ h12=>?_) (fun _ h12=>?_))
     ·refine ab.skip (Fin.ai (Fin.ai ?_))
      exact Fin.join [0,1,3,4,6,7,8,11,29,30,31] [1,2,3,4,5,6,7,8,9,10,11] (xf0_11,xf0_12,xf0_13,xf0f0_14,xf0f0_15,parts_16) (Option.some.inj h12) rfl
     ·refine ab.seq (ab.aa ?_)
      refine Oc (aW aT rfl rfl rfl) (Oc (bI dJ rfl rfl) (Oc (bp ax rfl rfl rfl) ?_))
      obtain ⟨x_31,e14,h12⟩:=aF h12
      refine Oc (aq ak (aG e14) (aZ e14) rfl rfl rfl rfl) (Oc (aK (i:=(x_30.to:Int).toNat) (f:=0) ax rfl rfl rfl (aD (e:=eI) e14) rfl) (Oc (eH rfl rfl) (Oc oa ?_)))
      refine ae.ag ⟨[(0,_),(1,_),(3,_),(4,_),(6,_),(7,_),(8,_),(11,_),(13,_),(29,_),(30,_),(31,_),(86,B (decide (0 < x_31)))],[(1,_),(2,_),(3,_),(4,_),(5,_),(6,_),(7,_),(8,_),(9,_),(10,_),(11,_),(101,_)]⟩ rfl (ab.ite h12 rfl (fun _ h12=>?_) (fun _ h12=>?_))
      ·refine ab.af ⟨[(0,_),(1,_),(3,_),(4,_),(6,_),(7,_),(8,_),(11,_),(13,_),(29,_),(30,_),(31,_)],[(1,_),(2,_),(3,_),(4,_),(5,_),(6,_),(7,_),(8,_),(9,_),(10,_),(11,_),(101,_)]⟩ rfl ?_
       obtain ⟨x_32,e15,h12⟩:=aF h12
       obtain ⟨x_33,e16,h12⟩:=aF h12
       obtain ⟨x_34,e17,h12⟩:=aF h12
       refine ab.kC mixed 13 [.b (.row 5),I n0,.b (.row 5),I n0,.b (.bu 5 ((n0:Int).toNat * 1)),I x_32,.b (.row 3),Pt 101 0,I x_30.to,.b (.bu 3 ((x_30.to:Int).toNat * 1)),I x_33,I (min x_32 x_33),.b (.bu 5 ((n0:Int).toNat * 1))] [0,1,3,4,6,7,8,11,29,30,31] [1,2,3,4,5,6,7,8,9,10,11] (s':=⟨[(0,_),(1,_),(3,_),(4,_),(6,_),(7,_),(8,_),(11,_),(29,_),(30,_),(31,_)],[(1,_),(2,_),(3,_),(4,_),(5,.row 3 1 ((xf0_12.set (n0:Int).toNat (min x_32 x_33)).map eI)),(6,_),(7,_),(8,_),(9,_),(10,_),(11,_)]⟩) rfl ⟨fun _=>.p (aW aT rfl rfl rfl),fun _=>.p om,fun _=>.p (aW aT rfl rfl rfl),fun _=>.p om,fun _=>.p (aq ak (aG e15) (aZ e15) rfl rfl rfl rfl),fun _=>.p (aK (i:=(n0:Int).toNat) (f:=0) ax rfl rfl rfl (aD (e:=eI) e15) rfl),fun _=>.p (aW aT rfl rfl rfl),fun _=>.p (bI dJ rfl rfl),fun _=>.p (bp ax rfl rfl rfl),fun _=>.p (aq ak (aG e16) (aZ e16) rfl rfl rfl rfl),fun _=>.p (aK (i:=(x_30.to:Int).toNat) (f:=0) ax rfl rfl rfl (aD (e:=eI) e16) rfl),fun _=>.p (oG rfl rfl),fun _=>.p (aq ak (aG e17) (aZ e17) rfl rfl rfl rfl),trivial⟩ ⟨_,by exact .p (bP (i:=(n0:Int).toNat) ax rfl rfl rfl rfl (eG e17) (map_set _ _ _ _)),rfl⟩ rfl (Fin.ai (Fin.ai ?_))
       exact Fin.join [0,1,3,4,6,7,8,11,29,30,31] [1,2,3,4,5,6,7,8,9,10,11] (xf0_11,xf0_12.set (n0:Int).toNat (min x_32 x_33),xf0_13,xf0f0_14,xf0f0_15,parts_16) (Option.some.inj h12) rfl
      ·refine ab.seq (ab.aa ?_)
       refine Oc (aW nv rfl rfl rfl) (Oc (bI dJ rfl rfl) (Oc (bp ax rfl rfl rfl) (Oc (bI lb rfl rfl) (Oc (bp ax rfl rfl rfl) ?_))))
       obtain ⟨⟨x_35,x_36,x_37,x_38,x_39⟩,e18,h12⟩:=aF h12
       refine Oc (nZ (own_a:=[(1,_),(2,_),(3,_),(4,_),(5,_),(6,_),(7,_),(8,_),(9,_),(10,_),(11,_)]) (ar.cast (own2:=[(1,.box 3 [.i xf0_13]),(2,.ao 30 [.row 3]),(3,.row 3 1 (xf0_11.map eI)),(4,.ao 30 [.row 5]),(5,.row 3 1 (xf0_12.map eI)),(6,.box 56 [.sl 1 (v3c.map (eL 2 aR))]),(7,.ao 80 [.fT 53 [] [.ptr 1 0,.ptr 2 0,.ptr 4 0,.ptr 6 0,.ptr 7 0,.ptr 8 0,.ptr 10 0]]),(8,.ao 30 [.row 9]),(9,.row 3 1 (xf0f0_14.map eI)),(10,.ao 30 [.row 11]),(11,.row 3 1 (xf0f0_15.map eI))]) (args2:=[.one (.i x_30.to),.one (.i x_30.pos),.ptr 1 0,.ptr 2 0,.ptr 4 0,.ptr 6 0,.ptr 7 0,.ptr 8 0,.ptr 10 0]) (own2':=[(1,.box 3 [.i x_35]),(2,.ao 30 [.row 3]),(3,.row 3 1 (x_36.map eI)),(4,.ao 30 [.row 5]),(5,.row 3 1 (x_37.map eI)),(6,.box 56 [.sl 1 (v3c.map (eL 2 aR))]),(7,.ao 80 [.fT 53 [] [.ptr 1 0,.ptr 2 0,.ptr 4 0,.ptr 6 0,.ptr 7 0,.ptr 8 0,.ptr 10 0]]),(8,.ao 30 [.row 9]),(9,.row 3 1 (x_38.map eI)),(10,.ao 30 [.row 11]),(11,.row 3 1 (x_39.map eI))]) (res2:=.eo []) (ih e18) (by kernel_rfl) (by kernel_rfl) (by kernel_rfl) (by kernel_rfl)) qH rfl rfl rfl ⟨rfl,rfl,rfl,rfl,rfl,rfl,rfl,rfl,rfl,rfl,rfl,trivial⟩ rfl rfl) (ae.af ⟨[(0,I n0),(1,I by0),(3,Pt 2 0),(4,Pt 4 0),(6,Pt 7 0),(7,Pt 8 0),(8,Pt 10 0),(11,I parts_16),(13,Pt 101 0),(29,.b (.one (.sl 2 (x_10.map aR)))),(30,I (x_10.length:Int)),(31,I x_17),(35,.b (.fT 53 [] [.ptr 1 0,.ptr 2 0,.ptr 4 0,.ptr 6 0,.ptr 7 0,.ptr 8 0,.ptr 10 0])),(36,Pt 101 0),(37,I x_30.to),(38,Pt 101 1),(39,I x_30.pos),(40,.eo []),(86,B (decide (0 < x_31)))],[(1,.box 3 [.i x_35]),(2,.ao 30 [.row 3]),(3,.row 3 1 (x_36.map eI)),(4,.ao 30 [.row 5]),(5,.row 3 1 (x_37.map eI)),(6,.box 56 [.sl 1 (v3c.map (eL 2 aR))]),(7,.ao 80 [.fT 53 [] [.ptr 1 0,.ptr 2 0,.ptr 4 0,.ptr 6 0,.ptr 7 0,.ptr 8 0,.ptr 10 0]]),(8,.ao 30 [.row 9]),(9,.row 3 1 (x_38.map eI)),(10,.ao 30 [.row 11]),(11,.row 3 1 (x_39.map eI)),(101,.box 60 (aR x_30))]⟩ (by kernel_rfl) (ae.ag ⟨[(0,_),(1,_),(3,_),(4,_),(6,_),(7,_),(8,_),(11,_),(13,_),(29,_),(30,_),(31,_)],[(1,_),(2,_),(3,_),(4,_),(5,_),(6,_),(7,_),(8,_),(9,_),(10,_),(11,_),(101,_)]⟩ rfl (ab.seq ?_)))
       obtain ⟨x_40,e19,h12⟩:=aF h12
       obtain ⟨x_41,e20,h12⟩:=aF h12
       obtain ⟨x_42,e21,h12⟩:=aF h12
       refine ab.dz mixed 13 [.b (.row 5),I n0,.b (.row 5),I n0,.b (.bu 5 ((n0:Int).toNat * 1)),I x_40,.b (.row 5),Pt 101 0,I x_30.to,.b (.bu 5 ((x_30.to:Int).toNat * 1)),I x_41,I (min x_40 x_41),.b (.bu 5 ((n0:Int).toNat * 1))] [0,1,3,4,6,7,8,11,13,29,30,31] [1,2,3,4,5,6,7,8,9,10,11,101] (s':=⟨[(0,_),(1,_),(3,_),(4,_),(6,_),(7,_),(8,_),(11,_),(13,_),(29,_),(30,_),(31,_)],[(1,_),(2,_),(3,_),(4,_),(5,.row 3 1 ((x_37.set (n0:Int).toNat (min x_40 x_41)).map eI)),(6,_),(7,_),(8,_),(9,_),(10,_),(11,_),(101,_)]⟩) rfl ⟨fun _=>.p (aW aT rfl rfl rfl),fun _=>.p om,fun _=>.p (aW aT rfl rfl rfl),fun _=>.p om,fun _=>.p (aq ak (aG e19) (aZ e19) rfl rfl rfl rfl),fun _=>.p (aK (i:=(n0:Int).toNat) (f:=0) ax rfl rfl rfl (aD (e:=eI) e19) rfl),fun _=>.p (aW aT rfl rfl rfl),fun _=>.p (bI dJ rfl rfl),fun _=>.p (bp ax rfl rfl rfl),fun _=>.p (aq ak (aG e20) (aZ e20) rfl rfl rfl rfl),fun _=>.p (aK (i:=(x_30.to:Int).toNat) (f:=0) ax rfl rfl rfl (aD (e:=eI) e20) rfl),fun _=>.p (oG rfl rfl),fun _=>.p (aq ak (aG e21) (aZ e21) rfl rfl rfl rfl),trivial⟩ ⟨_,by exact .p (bP (i:=(n0:Int).toNat) ax rfl rfl rfl rfl (eG e21) (map_set _ _ _ _)),rfl⟩ rfl ?_
       obtain ⟨v22,h23,h12⟩:=aF h12
       refine ab.bZ (v:=v22) (fun (parts_43:Int)=>⟨[(0,I n0),(1,I by0),(3,Pt 2 0),(4,Pt 4 0),(6,Pt 7 0),(7,Pt 8 0),(8,Pt 10 0),(11,I parts_43),(13,Pt 101 0),(29,.b (.one (.sl 2 (x_10.map aR)))),(30,I (x_10.length:Int)),(31,I x_17)],[(1,.box 3 [.i x_35]),(2,.ao 30 [.row 3]),(3,.row 3 1 (x_36.map eI)),(4,.ao 30 [.row 5]),(5,.row 3 1 ((x_37.set (n0:Int).toNat (min x_40 x_41)).map eI)),(6,.box 56 [.sl 1 (v3c.map (eL 2 aR))]),(7,.ao 80 [.fT 53 [] [.ptr 1 0,.ptr 2 0,.ptr 4 0,.ptr 6 0,.ptr 7 0,.ptr 8 0,.ptr 10 0]]),(8,.ao 30 [.row 9]),(9,.row 3 1 (x_38.map eI)),(10,.ao 30 [.row 11]),(11,.row 3 1 (x_39.map eI)),(101,.box 60 (aR x_30))]⟩) (fun z=>z) ?_ ?_
       ·refine ab.seq (ab.af ⟨[(0,_),(1,_),(3,_),(4,_),(6,_),(7,_),(8,_),(11,_),(13,_),(29,_),(30,_),(31,_)],[(1,_),(2,_),(3,_),(4,_),(5,_),(6,_),(7,_),(8,_),(9,_),(10,_),(11,_),(101,_)]⟩ rfl ?_)
        obtain ⟨x_44,e24,h23⟩:=aF h23
        obtain ⟨x_45,e25,h23⟩:=aF h23
        refine ab.dz mixed 10 [.b (.row 5),Pt 101 0,I x_30.to,.b (.bu 5 ((x_30.to:Int).toNat * 1)),I x_44,.b (.row 3),I n0,.b (.bu 3 ((n0:Int).toNat * 1)),I x_45,B (decide (x_45 ≤ x_44))] [0,1,3,4,6,7,8,11,13,29,30,31,63] [1,2,3,4,5,6,7,8,9,10,11,101] (s':=⟨[(0,_),(1,_),(3,_),(4,_),(6,_),(7,_),(8,_),(11,_),(13,_),(29,_),(30,_),(31,_),(63,B (decide (x_45 ≤ x_44)))],[(1,_),(2,_),(3,_),(4,_),(5,_),(6,_),(7,_),(8,_),(9,_),(10,_),(11,_),(101,_)]⟩) rfl ⟨fun _=>.p (aW aT rfl rfl rfl),fun _=>.p (bI dJ rfl rfl),fun _=>.p (bp ax rfl rfl rfl),fun _=>.p (aq ak (aG e24) (aZ e24) rfl rfl rfl rfl),fun _=>.p (aK (i:=(x_30.to:Int).toNat) (f:=0) ax rfl rfl rfl (aD (e:=eI) e24) rfl),fun _=>.p (aW aT rfl rfl rfl),fun _=>.p om,fun _=>.p (aq ak (aG e25) (aZ e25) rfl rfl rfl rfl),fun _=>.p (aK (i:=(n0:Int).toNat) (f:=0) ax rfl rfl rfl (aD (e:=eI) e25) rfl),fun _=>.p (jW rfl rfl),trivial⟩ rfl rfl (ab.ite h23 rfl (fun _ h23=>?_) (fun _ h23=>?_))
        ·refine ab.aa (Oc om (Oc (aX rfl rfl) (Oc oa ?_)))
         refine ae.nil ?_
         exact Fin.join [0,1,3,4,6,7,8,11,13,29,30,31] [1,2,3,4,5,6,7,8,9,10,11,101] (IntKind.i64.wrap (parts_16 + 1)) (Option.some.inj h23) rfl
        ·refine ab.skip ?_
         exact Fin.join [0,1,3,4,6,7,8,11,13,29,30,31] [1,2,3,4,5,6,7,8,9,10,11,101] parts_16 (Option.some.inj h23) rfl
       ·rintro parts_43 hv
        subst v22
        refine ab.seq (ab.af ⟨[(0,_),(1,_),(3,_),(4,_),(6,_),(7,_),(8,_),(11,_),(13,_),(29,_),(30,_),(31,_)],[(1,_),(2,_),(3,_),(4,_),(5,_),(6,_),(7,_),(8,_),(9,_),(10,_),(11,_),(101,_)]⟩ rfl ?_)
        obtain ⟨x_46,e26,h12⟩:=aF h12
        obtain ⟨x_47,e27,h12⟩:=aF h12
        refine ab.dz mixed 10 [.b (.row 5),Pt 101 0,I x_30.to,.b (.bu 5 ((x_30.to:Int).toNat * 1)),I x_46,.b (.row 3),I n0,.b (.bu 3 ((n0:Int).toNat * 1)),I x_47,B (decide (x_47 < x_46))] [0,1,3,4,6,7,8,11,13,29,30,31,75] [1,2,3,4,5,6,7,8,9,10,11,101] (s':=⟨[(0,_),(1,_),(3,_),(4,_),(6,_),(7,_),(8,_),(11,_),(13,_),(29,_),(30,_),(31,_),(75,B (decide (x_47 < x_46)))],[(1,_),(2,_),(3,_),(4,_),(5,_),(6,_),(7,_),(8,_),(9,_),(10,_),(11,_),(101,_)]⟩) rfl ⟨fun _=>.p (aW aT rfl rfl rfl),fun _=>.p (bI dJ rfl rfl),fun _=>.p (bp ax rfl rfl rfl),fun _=>.p (aq ak (aG e26) (aZ e26) rfl rfl rfl rfl),fun _=>.p (aK (i:=(x_30.to:Int).toNat) (f:=0) ax rfl rfl rfl (aD (e:=eI) e26) rfl),fun _=>.p (aW aT rfl rfl rfl),fun _=>.p om,fun _=>.p (aq ak (aG e27) (aZ e27) rfl rfl rfl rfl),fun _=>.p (aK (i:=(n0:Int).toNat) (f:=0) ax rfl rfl rfl (aD (e:=eI) e27) rfl),fun _=>.p (eH rfl rfl),trivial⟩ rfl rfl (ab.ite h12 rfl (fun _ h12=>?_) (fun _ h12=>?_))
        ·refine ab.aa (Oc (aW aT rfl rfl rfl) (Oc (bI lb rfl rfl) (Oc (bp ax rfl rfl rfl) (Oc (au (k:=102) (es:=[x_30.pos].map eI) ak rfl rfl (aS fun _=>rfl) rfl (by decide) (by decide) rfl) ?_))))
         refine ae.forget 8 0 rfl ?_
         obtain ⟨x_48,e28,h12⟩:=aF h12
         refine Oc (bq ak (c7 e28) (c6 e28) rfl rfl rfl rfl (bW e28) rfl) (Oc (de aT rfl rfl rfl rfl (Nat.le_of_ble_eq_true rfl) rfl) ?_)
         refine ae.nil (Fin.ai (Fin.ai ?_))
         exact Fin.join [0,1,3,4,6,7,8,11,29,30,31] [1,2,3,4,5,6,7,8,9,10,11] (x_36,x_37.set (n0:Int).toNat (min x_40 x_41),x_35,x_48,x_39,parts_43) (Option.some.inj h12) rfl
        ·refine ab.skip (Fin.ai (Fin.ai ?_))
         exact Fin.join [0,1,3,4,6,7,8,11,29,30,31] [1,2,3,4,5,6,7,8,9,10,11] (x_36,x_37.set (n0:Int).toNat (min x_40 x_41),x_35,x_38,x_39,parts_43) (Option.some.inj h12) rfl
    ·rintro ⟨xf0_24,xf0_25,xf0_26,xf0f0_27,xf0f0_28,parts_29⟩ hv
     subst v11
     refine ab.aa (Oc (aX rfl rfl) (Oc om ?_))
     refine ae.nil ?_
     exact Fin.bw [0,1,3,4,6,7,8,11,29,30,31] [1,2,3,4,5,6,7,8,9,10,11] (xf0_24,xf0_25,xf0_26,xf0f0_27,xf0f0_28,parts_29,IntKind.i64.wrap (x_17 + 1)) (Option.some.inj h9) rfl
   ·refine ab.exit (Fin.ah ?_)
    obtain rfl:=hy10 _ (Option.some.inj h9).symm
    refine Fin.ah (Fin.ay ?_)
    exact Fin.join [0,8,11] [1,2,3,4,5,6,7,8,9,10,11] (xf0f0_15,parts_16,xf0_13,xf0_11,xf0_12,xf0f0_14) rfl rfl
  ·rintro ⟨xf0_4,parts_5,y_6,yf0_7,yf0_8,yf0f0_9⟩ hv
   subst v5
   refine ab.seq (ab.aa ?_)
   refine Oc om (Oc (eH rfl rfl) ?_)
   refine ae.ag ⟨[(0,_),(8,_),(108,B (decide (1 < parts_5)))],[(1,_),(2,_),(3,_),(4,_),(5,_),(6,_),(7,_),(8,_),(9,_),(10,_),(11,_)]⟩ rfl (ab.ite h rfl (fun _ h=>?_) (fun _ h=>?_))
   ·refine ab.aa (Oc (aW aT rfl rfl rfl) (Oc om (Oc (au (k:=103) (es:=[n0].map eI) ak rfl rfl (aS fun _=>rfl) rfl (by decide) (by decide) rfl) ?_)))
    refine ae.forget 10 0 rfl ?_
    obtain ⟨x_49,e29,h⟩:=aF h
    refine Oc (bq ak (c7 e29) (c6 e29) rfl rfl rfl rfl (bW e29) rfl) (Oc (de aT rfl rfl rfl rfl (Nat.le_of_ble_eq_true rfl) rfl) ?_)
    refine ae.nil ?_
    obtain rfl:=Option.some.inj h
    refine Fin.af ⟨[],[(1,.box 3 [.i y_6]),(2,.ao 30 [.row 3]),(3,.row 3 1 (yf0_7.map eI)),(4,.ao 30 [.row 5]),(5,.row 3 1 (yf0_8.map eI)),(6,.box 56 [.sl 1 (v3c.map (eL 2 aR))]),(7,.ao 80 [.fT 53 [] [.ptr 1 0,.ptr 2 0,.ptr 4 0,.ptr 6 0,.ptr 7 0,.ptr 8 0,.ptr 10 0]]),(8,.ao 30 [.row 9]),(9,.row 3 1 (yf0f0_9.map eI)),(10,.ao 30 [.row 11]),(11,.row 3 1 (x_49.map eI))]⟩ rfl ?_
    exact Fin.result [] (.inr rfl) rfl (.nil) ⟨rfl,rfl⟩
   ·refine ab.skip ?_
    obtain rfl:=Option.some.inj h
    refine Fin.af ⟨[],[(1,_),(2,_),(3,_),(4,_),(5,_),(6,_),(7,_),(8,_),(9,_),(10,_),(11,_)]⟩ rfl ?_
    exact Fin.result [] (.inr rfl) rfl (.nil) ⟨rfl,rfl⟩
theorem ke {F:Nat} {n0:Int} {by0:Int} {v0c:Int} {v1c:List Int} {v2c:List Int} {v3c:List (List km)} {v5c:List Int} {v6c:List Int} {r:Int × (List Int) × (List Int) × (List Int) × (List Int)} (h:iF F n0 by0 v0c v1c v2c v3c v5c v6c = some r):ar Try.prog [] 53 [(1,.box 3 [.i v0c]),(2,.ao 30 [.row 3]),(3,.row 3 1 (v1c.map eI)),(4,.ao 30 [.row 5]),(5,.row 3 1 (v2c.map eI)),(6,.box 56 [.sl 1 (v3c.map (eL 2 aR))]),(7,.ao 80 [.fT 53 [] [.ptr 1 0,.ptr 2 0,.ptr 4 0,.ptr 6 0,.ptr 7 0,.ptr 8 0,.ptr 10 0]]),(8,.ao 30 [.row 9]),(9,.row 3 1 (v5c.map eI)),(10,.ao 30 [.row 11]),(11,.row 3 1 (v6c.map eI))] [.one (.i n0),.one (.i by0),.ptr 1 0,.ptr 2 0,.ptr 4 0,.ptr 6 0,.ptr 7 0,.ptr 8 0,.ptr 10 0] (Is [(1,.box 3 [.i r.1]),(2,.ao 30 [.row 3]),(3,.row 3 1 (r.2.1.map eI)),(4,.ao 30 [.row 5]),(5,.row 3 1 (r.2.2.1.map eI)),(6,.box 56 [.sl 1 (v3c.map (eL 2 aR))]),(7,.ao 80 [.fT 53 [] [.ptr 1 0,.ptr 2 0,.ptr 4 0,.ptr 6 0,.ptr 7 0,.ptr 8 0,.ptr 10 0]]),(8,.ao 30 [.row 9]),(9,.row 3 1 (r.2.2.2.1.map eI)),(10,.ao 30 [.row 11]),(11,.row 3 1 (r.2.2.2.2.map eI))] (.eo [])):=jB F h
end Go.Proofs.Ytgojigdbelkgoaa

