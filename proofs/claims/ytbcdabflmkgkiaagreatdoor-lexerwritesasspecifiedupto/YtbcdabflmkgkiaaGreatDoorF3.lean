/- part of the proof: the framework -/
import Derived.Test.YtbcdabflmkgkiaaGreatDoorF2
import Derived.Recover
import Derived.LoopN
import Derived.Laws.LoneSync
import Derived.Lib.AppendStr
set_option linter.unusedSimpArgs false
set_option linter.unusedVariables false
open Go.IntKind (i8 i16 i32 i64 u8 u16 u32 u64)
namespace Go.Sk
open Go Go.BigFrame
theorem wV {P:Program} {TB:bp} {E:Env TB} {n:Sh} {s:St} {dst:Option Nat} {ty:TypeId} {pos:String} {after:Array Edge} {g:Option (Nat×Bool)} {f:FuncId} {own_a own':List (Nat×OC)} {args:List BV} {xs:Array Operand} {ats:Array TypeId} {z:BV} (b0:ax P TB f own_a args (Is own' (.b z))) (hf:bq P f) (ha:iM s xs.toList=some args) (hl:iL s.own own_a)
 (hok:ko n own_a own'=true) (hki:(SV.b z).cX own'=true) (hcl:j3 s.own own_a own'=true) (hsl:mh own_a own' s.slots=s.slots) (b1:qb (aO s.own) (jT own' (fL own_a s.own))=s.own):bG P E n ⟨dst,.call ⟨.value (.func f),xs,ats⟩,ty,pos,after,g⟩ s (s.put n dst (.b z)):=by
 have h:=cK (ats:=ats) (E:=E) (n:=n) (dst:=dst) (ty:=ty) (pos:=pos) (after:=after) (g:=g) b0 hf ha hl hok hki hcl
 unfold St.aft at h
 rw[hsl] at h
 refine h.wg (aO s.own) ?_
 have e2:∀ (O:List (Nat×OC)),((⟨s.slots,O⟩:St).put n dst (.b z)).own=O:=fun O=>by
  unfold St.put;split
  unfold St.set;split<;>rfl
  rfl
 have e3:∀ (O:List (Nat×OC)),(⟨((⟨s.slots,O⟩:St).put n dst (.b z)).slots,s.own⟩:St)=s.put n dst (.b z):=fun O=>by
  unfold St.put;split
  unfold St.set;split<;>rfl
  rfl
 rw[e2,b1,e3]
def DE (P:Program) (fn:Func) {TB:bp} (E:Env TB) (n:Sh) (post:eP):cN:=bodyPostD P fn (jR E n post)
def A0 (f:FuncId) (vals:List Value):Deferred:={ target:=.fn (.func f) vals.toArray,args:=#[] }
theorem ax.E8 {P:Program} {TB:bp} {f:FuncId} {fn:Func} {c:Code} {own:List (Nat×OC)} {args:List BV} {post:eP} (m:Nat) (hf:P.funcs[f]?=some fn) (hm:fn.ntmps=m) (hb:fn.body=some c) (hl:args.length<=m)
 (b2:∀ E:Env TB,ab P E ⟨m,aN own,aO own,[]⟩ c ⟨kH 0 args,own⟩ (DE P fn E ⟨m,aN own,aO own,[]⟩ post)):ax P TB f own args post:=by
 intro w h ρ vals tb hag b0 b1
 have hlen:=b1.length
 refine (calls_of_wp_defers (R:=jR ⟨w,h,ρ,tb⟩ ⟨m,aN own,aO own,[]⟩ post) hf hb (b2 ⟨w,h,ρ,tb⟩ _ w ⟨rfl,?_,h,ρ,⟨hag,PH.le_refl h,fun _ _ _=>rfl,Nat.le_refl _,fun _ _ _=>rfl,fun _ _=>rfl,rfl,rfl,?_,?_⟩,?_⟩)).mono ?_
 simp[hm];omega
 rintro b ⟨k,hk,hb⟩ o
 obtain⟨⟨k',c⟩,hm',rfl⟩:=List.mem_map.1 hk
 exact ((b0 k' c hm').2.1 b (.inl hb)).2 o
 intro k c hc
 obtain⟨h1,h3,h4⟩:=b0 k c hc
 exact⟨h1,fun b hb=>⟨.inr ⟨k,List.mem_map.2 ⟨(k,c),hc,rfl⟩,(h3 b hb).1⟩,(h3 b hb).2⟩,h4⟩
 intro k x hx
 obtain⟨j,z,rfl,hz,rfl⟩:=js hx
 obtain⟨v,hv,hr⟩:=b1.get j z hz
 refine⟨v,?_,hr⟩
 have hj:=(List.getElem?_eq_some_iff.1 hv).1
 rw[Nat.zero_add,Array.getElem?_append_left (by simpa using hj)]
 simpa using hv
 rintro e w' ⟨v,own',res,h',ρ',e1,e2,e3,e4⟩
 exact⟨v,own',res,h',ρ',e1,e2,WR.sh (n:=⟨m,aN own,aO own,[]⟩) (n':=⟨0,aN own,aO own,[]⟩) rfl rfl e3,e4⟩
def zN (P:Program) (f:FuncId) (m:Nat):Prop:=∀ (vals:List Value) (w:World),vals.length=m->CallsD P f vals.toArray .returning w fun e u' w'=>(∃ v,e=.returned v)/\u'=.returning/\w'=w
def tI (P:Program) (TB:bp) (f:FuncId) (own:List (Nat×OC)) (args:List BV) (pv:Value) (own':List (Nat×OC)):Prop :=
 ∀ (w:World) (h:PH) (ρ:RM) (vals:List Value) (tb:dz TB h w),nD h w->zH own h ρ w->br (fun (x:BV) v=>x.rel h ρ v) args vals ->
  CallsD P f vals.toArray (.panicking (DB pv)) w fun e u' w'=>u'=.panicking [{ v:=pv,recovered:=true }]/\jR ⟨w,h,ρ,tb⟩ ⟨0,aN own,aO own,[]⟩ (Is own' (.gS [])) e w'
section
variable {P:Program} {TB:bp} {E E':Env TB} {n:Sh} {s s':St} {dst:Option Nat} {t ty yt:TypeId} {pos:String} {after:Array Edge} {g:Option (Nat×Bool)} {x y c:Operand} {ops:Array Oper} {l:List Oper} {Q:cN} {cd:Code}
theorem Fin.retD {fn:Func} {post:eP} {e:Exit} (he:e=.ret∨e=.normal) (hd:n.dfs=[]) (h:Fin E n e s (zD P fn E n post)):Fin E n e s (DE P fn E n post):=by
 rcases he with rfl|rfl
 intro a w hr
 obtain⟨h1,v,h2,h3⟩:=h a w hr
 show Leaves P fn a.tmps _ a.defers .returning w
 rw[h1,hd]
 exact⟨v,h2 w (ck.refl w),h3⟩
 intro a w hr
 obtain⟨h1,v,h2,h3⟩:=h a w hr
 show Leaves P fn a.tmps _ a.defers .returning w
 rw[h1,hd]
 exact⟨v,h2 w (ck.refl w),h3⟩
theorem ae.defer {f:FuncId} {cs:List CV} (hn:n.dfs=[]) (hx:s.ev x=some (.b (.ek f [] cs))) (hp:s.own.all (fun p=>p.2.plain)=true)
 (h:∀ (E':Env TB) (vals:List Value),WR E n s.own E'.h0 E'.ρ0 E'.w0->br (fun (c:CV) v=>c.rel E'.h0 E'.ρ0 v) cs vals->ae P E' ⟨n.n,aN s.own,aO s.own,[A0 f vals]⟩ ops l s Q) :
 ae P E n ops (⟨none,.defer ⟨.value x,#[],#[]⟩,ty,pos,after,none⟩::l) s Q:=by
 intro a w hr
 unfold A'
 have:∀ tmps,Region.wanted ⟨none,.defer ⟨.value x,#[],#[]⟩,ty,pos,after,none⟩ (yielded ops tmps)=true:=fun _=>rfl
 simp only[this,if_true]
 obtain⟨hdf,hsz,h1,ρ,hw,hs⟩:=hr
 obtain⟨va,vb,hv,h2,h3⟩:=(bb hs hx:BV.rel h1 ρ (.ek f [] cs) _)
 have hva:va=#[]:=by
  cases va with
  | mk l=>cases h2;rfl
 subst hva
 have b0:(execOp a.eval ⟨none,.defer ⟨.value x,#[],#[]⟩,ty,pos,after,none⟩).run P w=.ok (.defer (A0 f vb.toList)) w:=by
  have e1:execOp a.eval ⟨none,.defer ⟨.value x,#[],#[]⟩,ty,pos,after,none⟩=(do pure (.defer (← Deferred.ofValue (a.eval x) ((#[]:Array Operand).map a.eval)))):=rfl
  rw[e1,hv]
  have e2:(do pure (.defer (← Deferred.ofValue (.func (.func f) #[] vb) ((#[]:Array Operand).map a.eval))):Sem Next)=pure (.defer { target:=.fn (.func f) vb,args:=#[]++(#[]:Array Operand).map a.eval }):=rfl
  rw[e2]
  simp[A0]
 unfold Oper.wp
 rw[b0]
 show A' P ops Q l { a with defers:=A0 f vb.toList::a.defers } w
 rw[List.all_eq_true] at hp
 refine h ⟨w,h1,ρ,hw.bd⟩ vb.toList hw h3 _ w ⟨by show A0 f vb.toList::a.defers=_;rw[hdf,hn],hsz,h1,ρ,⟨hw.agree,PH.le_refl _,fun _ _ _=>rfl,Nat.le_refl _,fun _ _ _=>rfl,fun _ _=>rfl,rfl,rfl,?_,?_⟩,hs⟩
 rintro b ⟨k,hk,hb⟩ o
 obtain⟨⟨k',c⟩,hm',rfl⟩:=List.mem_map.1 hk
 exact ((hw.owned k' c hm').2.1 b (.inl hb)).2 o
 intro k c b1
 obtain⟨e1,e2,e3⟩:=hw.owned k c b1
 exact⟨e1,fun b hb=>⟨.inr ⟨k,List.mem_map.2 ⟨(k,c),b1,rfl⟩,hb.wX (hp _ b1)⟩,(e2 b hb).2⟩,e3⟩
theorem xv {f:FuncId} (hf:bq P f) (vals:List Value) (w:World):(invoke (.fn (.func f) vals.toArray) #[]).run P w=.ok (.enter f vals.toArray) w:=by
 have e2:invoke (.fn (.func f) vals.toArray) #[]=callFunc f (#[]++vals.toArray):=rfl
 rw[e2,hf.run]
 congr 2
 simp
theorem jR.back {b0:List (Nat×OC)} {ds:List Deferred} {post b1:eP} {v:Value} {w:World} (b2:WR E n b0 E'.h0 E'.ρ0 E'.w0) (b3:∀ o r,b1 o r->ko n b0 o=true/\j3 b0 b0 o=true/\jT o (fL b0 b0)=o/\r.cX o=true/\post o r)
 (h:jR E' ⟨n.n,aN b0,aO b0,ds⟩ b1 (.returned v) w):jR E n post (.returned v) w:=by
 obtain⟨v',own',res,h',ρ',e1,hp,hwr,b4⟩:=h
 cases e1
 obtain⟨g1,g2,g3,hk,hp'⟩:=b3 _ _ hp
 obtain⟨w0,h0,ρ0,tb⟩:=E'
 have hc:=b2.call (own_a:=b0) (own':=own') (tb:=tb) (fun _ _ h=>h) (WR.sh (n:=⟨n.n,aN b0,aO b0,ds⟩) (n':=⟨0,aN b0,aO b0,[]⟩) rfl rfl hwr) g1 g2
 rw[g3] at hc
 exact⟨v,own',res,h',_,rfl,hp',hc,SV.mono (PH.le_refl _) (fun j hj=>ji (SV.c9 hk hj)) b4⟩
theorem Fin.doorRet {fn:Func} {post b1:eP} {e:Exit} {f:FuncId} {vals:List Value} {b0:List (Nat×OC)} {m:Nat} (b2:WR E n b0 E'.h0 E'.ρ0 E'.w0) (hi:zN P f m) (hm:vals.length=m) (hg:bq P f) (he:e=.ret∨e=.normal)
 (b3:∀ o r,b1 o r->ko n b0 o=true/\j3 b0 b0 o=true/\jT o (fL b0 b0)=o/\r.cX o=true/\post o r) (h:Fin E' ⟨n.n,aN b0,aO b0,[A0 f vals]⟩ e s (zD P fn E' ⟨n.n,aN b0,aO b0,[A0 f vals]⟩ b1)) :
 Fin E' ⟨n.n,aN b0,aO b0,[A0 f vals]⟩ e s (DE P fn E n post):=by
 have key:∀ (a:Act) (w:World),(a.defers=[A0 f vals]/\∃ v,(∀ w₂,ck w w₂->(results fn a.tmps).run P w₂=.ok v w₂)/\jR E' ⟨n.n,aN b0,aO b0,[A0 f vals]⟩ b1 (.returned v) w)->Leaves P fn a.tmps (jR E n post) a.defers .returning w:=by
  rintro a w ⟨h1,v,h2,h3⟩
  rw[h1]
  refine leaves_cons (by simp) (xv hg vals w) ((hi vals w hm).mono ?_)
  rintro e u' w' ⟨⟨v',rfl⟩,rfl,rfl⟩
  exact⟨v,h2 _ (ck.refl _),jR.back b2 b3 h3⟩
 rcases he with rfl|rfl<;>exact fun a w hr=>key a w (h a w hr)
theorem CV.FT {h0 h1:PH} {ρ0 ρ:RM} {ks:List Nat} (hf:∀ k,k∈ks->ρ k=ρ0 k):∀ {cs:List CV} {vals:List Value},br (fun (c:CV) v=>c.rel h0 ρ0 v) cs vals->cs.all (fun c=>match c with|.ptr k _=>ks.contains k|_=>false)=true->br (fun (c:CV) v=>c.rel h1 ρ v) cs vals
 | _,_,.nil,_=>.nil
 | c::cs,_,.cons h4 h5,hk=>by
  rw[List.all_cons,Bool.and_eq_true] at hk
  refine .cons ?_ (CV.FT hf h5 hk.2)
  have hkc:=hk.1
  cases c with
  | ptr k o=>
   obtain⟨b,e1,e2⟩:=h4
   refine⟨b,?_,e2⟩
   rw[hf k (by simpa using hkc)];exact e1
  | _=>simp at hkc
theorem Fin.we {fn:Func} {post b2:eP} {f:FuncId} {cs:List CV} {vals:List Value} {b0 own_c b1:List (Nat×OC)} {args:List BV} {pv:Value} (b3:WR E n b0 E'.h0 E'.ρ0 E'.w0) (b4:br (fun (c:CV) v=>c.rel E'.h0 E'.ρ0 v) cs vals)
 (hc:tI P TB f own_c args pv b1) (hg:bq P f) (hcs:cs.map CV.bv=args) (hk:cs.all (fun c=>match c with|.ptr k _=>(aN b0).contains k|_=>false)=true) (hl:iL s.own own_c)
 (hok:ko ⟨n.n,aN b0,aO b0,[A0 f vals]⟩ own_c b1=true) (hcl:j3 s.own own_c b1=true)
 (b5:∀ o r,b2 o r->ko n b0 o=true/\j3 b0 b0 o=true/\jT o (fL b0 b0)=o/\r.cX o=true/\post o r)
 (h:Fin E' ⟨n.n,aN b0,aO b0,[A0 f vals]⟩ .ret ⟨mh own_c b1 s.slots,jT b1 (fL own_c s.own)⟩ (zD P fn E' ⟨n.n,aN b0,aO b0,[A0 f vals]⟩ b2)) :
 Fin E' ⟨n.n,aN b0,aO b0,[A0 f vals]⟩ (.panic (DB pv)) s (DE P fn E n post):=by
 intro a w hr
 obtain⟨hdf,hsz,h1,ρ,hw,hs⟩:=hr
 show Leaves P fn a.tmps (jR E n post) a.defers (.panicking (DB pv)) w
 have c2:a.defers=[A0 f vals]:=hdf
 rw[c2]
 refine leaves_cons (by simp) (xv hg vals w) ?_
 have c0:br (fun (x:BV) v=>x.rel h1 ρ v) args vals:=by
  rw[← hcs]
  exact CV.bvL (CV.FT hw.fixed b4 hk)
 have hla:=ka hl
 refine (hc w h1 ρ vals hw.bd hw.agree (rG hw hla (ju hl)) c0).mono ?_
 rintro e u' w' ⟨rfl,v,own',res,h',ρ',rfl,⟨rfl,rfl⟩,c3,c1⟩
 have hwc:=hw.call hla c3 hok hcl
 have hR:R E' ⟨n.n,aN b0,aO b0,[A0 f vals]⟩ ⟨mh own_c own' s.slots,jT own' (fL own_c s.own)⟩ a w':=by
  refine⟨hdf,hsz,h',_,hwc,fun k x hx=>?_⟩
  obtain⟨h1,h2⟩:=lS hx
  obtain⟨u,hu,c1⟩:=hs k x h1
  refine⟨u,hu,SV.mono c3.le (fun j hj=>?_) c1⟩
  by_cases c4:j∈aO own'
  rw[ji c4]
  by_cases hia:j∈aN own_c
  exact c3.fixed j hia
  have:=h2 j c4 hia;simp[this] at hj
  exact jJ c4
 obtain⟨_,v2,h5,h6⟩:=h a w' hR
 exact⟨v2,h5 _ (ck.refl _),jR.back b3 b5 h6⟩
end
end Go.Sk
namespace Go.Sk
open Go Go.BigFrame
theorem kB.sw {P:Program} {TB:bp} {f:FuncId} {own:List (Nat×OC)} {args:List BV} {pv:Value} {ok:Prop} (hm:kB P TB f own args pv ok) (a b:Nat) :
 kB P TB f (uv (swp a b) own) (args.map (·.kR (swp a b))) pv ok:=by
 intro w h ρ vals tb hag b1 b2
 have b4:∀ {i j:Nat},swp a b i=swp a b j->i=j:=fun {i j} e=>by have:=congrArg (swp a b) e;rwa [jf,jf] at this
 have hl:zH own h (fun k=>ρ (swp a b k)) w:=fun k c hk=>by
  obtain⟨e1,e2,e3⟩:=b1 (swp a b k) (c.kR (swp a b)) (List.mem_map.2 ⟨(k,c),hk,rfl⟩)
  exact⟨OC.y6.1 e1,fun b hb=>e2 b (OC.jm.2 hb),fun k' c' b3 hne b' b0 hb2=>e3 (swp a b k') (c'.kR (swp a b)) (List.mem_map.2 ⟨(k',c'),b3,rfl⟩) (fun e=>hne (b4 e)) b' (OC.jm.2 b0) (OC.jm.2 hb2)⟩
 have ha:br (fun (x:BV) v=>x.rel h (fun k=>ρ (swp a b k)) v) args vals:=((iS _).trans (kI fun a u=>BV.gn)).1 b2
 refine (hm w h _ vals tb hag hl ha).mono ?_
 rintro e w' (⟨v,own1,res1,h',ρ',_,hp,_⟩|⟨pv',rfl,hpv,h',ρ',hw⟩)
 exact hp.elim
 have b5:∀ b',oZ (TB:=TB) ⟨w,h,fun k=>ρ (swp a b k),tb⟩ ⟨0,aN own,aO own,[]⟩ b'↔oZ (TB:=TB) ⟨w,h,ρ,tb⟩ ⟨0,aN (uv (swp a b) own),aO (uv (swp a b) own),[]⟩ b':=fun b'=>by
  constructor
  rintro⟨k,hk,hb⟩
  exact⟨swp a b k,by show _∈aO _;rw[nR];exact List.mem_map.2 ⟨k,hk,rfl⟩,hb⟩
  rintro⟨k,hk,hb⟩
  have b3:k∈(aO own).map (swp a b):=by rw[← nR];exact hk
  obtain⟨k0,c0,rfl⟩:=List.mem_map.1 b3
  exact⟨k0,c0,hb⟩
 refine .inr ⟨pv',rfl,hpv,h',fun k=>ρ' (swp a b k),⟨hw.agree,hw.le,fun b' b0 hn=>hw.fresh b' b0 fun hh=>hn ((b5 b').1 hh),hw.size,fun b' b0 hn=>hw.same b' b0 fun hh=>hn ((b5 b').1 hh),fun k hk=>?_,hw.os,hw.out,fun b' b0=>hw.nl b' ((b5 b').2 b0),fun k c hk=>by simp at hk⟩⟩
 have b3:k∈(aN own).map (swp a b):=by rw[← pW];exact hk
 obtain⟨k0,c0,rfl⟩:=List.mem_map.1 b3
 show ρ' (swp a b (swp a b k0))=_
 rw[jf];exact hw.fixed k0 c0
theorem wK {n:Sh} {b0 own':List (Nat×OC)} {res:SV} (h1:ko n b0 own'=true) (h2:j3 b0 b0 own'=true) (h3:jT own' (fL b0 b0)=own') (hk:res.cX own'=true):∀ o r,Is own' res o r->ko n b0 o=true/\j3 b0 b0 o=true/\jT o (fL b0 b0)=o/\r.cX o=true/\Is own' res o r:=fun o r h=>by
 obtain⟨rfl,rfl⟩:=h
 exact⟨h1,h2,h3,hk,rfl,rfl⟩
section
variable {P:Program} {TB:bp} {E:Env TB} {n:Sh} {s s':St} {dst:Option Nat} {t ty yt:TypeId} {pos:String} {after:Array Edge} {g:Option (Nat×Bool)} {x y c:Operand} {ops:Array Oper} {l:List Oper} {Q:cN} {cd:Code}
theorem B9 {T:TypeId} {ps:List CP} {ms:Array (String×TypeId)} (hi:P.underlying t=some (.interface ms)) (hx:s.ev x=some (.b (.one (.AZ T ps)))):bG P E n ⟨dst,.binOp .neq t x (.const .nilIface) yt,ty,pos,after,g⟩ s (s.put n dst (B true)) :=
 bG.val (o:=⟨dst,.binOp .neq t x (.const .nilIface) yt,ty,pos,after,g⟩) fun ac w h ρ hw hs=>by
  obtain⟨cs,e,_⟩:=(bb hs hx:(CP.AZ _ _).rel h _)
  refine⟨.bool true,?_,rfl⟩
  have h1:∀ d:Nat,(Op.equalIn (d+1) t (.iface T (.agg cs)) .nilIface).run P w=.ok false w:=fun d=>by simp[Op.equalIn,run_underlying hi]
  have h2:(Op.equal t (.iface T (.agg cs)) .nilIface).run P w=.ok false w:=h1 _
  have h0:eqGuard .neq t x (.const .nilIface) (.iface T (.agg cs)) .nilIface=pure ():=rfl
  simp only[execOp,e,show ac.eval (.const .nilIface)=.nilIface from rfl,h0]
  simp[binOp,h2,Result.andThen]
theorem sA {T st:TypeId} {ps:List CP} {d:TypeDesc} (hu:P.underlying T=some d) (hd:(match d with|.interface _=>false|_=>true)=true) (hx:s.ev x=some (.b (.one (.AZ T ps)))):bG P E n ⟨dst,.typeAssert x st T false,ty,pos,after,g⟩ s (s.put n dst (.b (.agg ps))) :=
 bG.val (o:=⟨dst,.typeAssert x st T false,ty,pos,after,g⟩) fun ac w h ρ hw hs=>by
  obtain⟨cs,e,hc⟩:=(bb hs hx:(CP.AZ _ _).rel h _)
  refine⟨.agg cs,?_,cs,rfl,hc⟩
  simp only[execOp,e]
  unfold Instr.typeAssert
  rw[Sem.run_bind,Sem.run_bind,run_underlying hu]
  cases d<;>simp at hd<;>simp[Result.andThen]
theorem AM {size:Nat} {zs:List CP} {qs:List BV} {parts:Array (Nat×Operand)} {cps:List (Nat×List BV)} (ht:tW P t size zs) (hp:oC s parts.toList=some cps) (hf:xS (fun i=>some (i*size,size)) (zs.map .one) cps=some qs) :
 bG P E n ⟨dst,.build t parts,ty,pos,after,g⟩ s (s.put n dst (.je qs)) :=
 bG.val (o:=⟨dst,.build t parts,ty,pos,after,g⟩) fun ac w h ρ hw hs=>by
  obtain⟨it,z,m,e,ie,h1,h2,h3,h4,h5,h6⟩:=ht.info
  obtain⟨cs,hc1,hc2⟩:=uE hw hs (fun i=>some (i*size,size)) parts.toList cps (zs.map .one) qs z.cells hp hf (qP (lA h h3))
  refine⟨.agg cs,?_,cs,rfl,hc2⟩
  have hb:P.built t (parts.map fun (i,x)=>(i,ac.eval x)).toList=some cs:=by
   simp only[Program.built,h1,h4,h2,h5,h6]
   rw[← hc1]
   simp
  have:=run_build (P:=P) w t _ cs hb
  simp only[execOp]
  simp[this]
end
def lX (k k2:Nat) (t1 t2:TypeId) (p1 p2:String) (a1 a2:Array Edge):Array Oper:=#[⟨some k,.call ⟨.builtin .recover,#[],#[]⟩,t1,p1,a1,none⟩,⟨some k2,.assign (.tmp k),t2,p2,a2,none⟩]
theorem rec_pan {P:Program} {k k2:Nat} {t1 t2:TypeId} {p1 p2:String} {a1 a2:Array Edge} {pv:Value} {c₀:Frame} {cs:List Frame} (hu:c₀.mode=.panicking (DB pv)) {Q:Exit->Act->List Frame->World->Prop} {a:Act} {w:World}
 (h:Q .normal ((a.put (some k) pv).put (some k2) ((a.put (some k) pv).eval (.tmp k))) ({ c₀ with mode:=.panicking [{ v:=pv,recovered:=true }] }::cs) w):wpOpsS P (lX k k2 t1 t2 p1 p2 a1 a2) Q [0,1] a (c₀::cs) w:=by
 have e1:(execOp a.eval ⟨some k,.call ⟨.builtin .recover,#[],#[]⟩,t1,p1,a1,none⟩).run P w=.ok .recover w:=rfl
 have e2:recoverD (c₀::cs)=some (pv,{ c₀ with mode:=.panicking [{ v:=pv,recovered:=true }] }::cs):=by
  simp[recoverD,hu,DB]
 have w1:∀ tmps,Region.wanted (⟨some k,.call ⟨.builtin .recover,#[],#[]⟩,t1,p1,a1,none⟩:Oper) (yielded (lX k k2 t1 t2 p1 p2 a1 a2) tmps)=true:=fun _=>rfl
 have w2:∀ tmps,Region.wanted (⟨some k2,.assign (.tmp k),t2,p2,a2,none⟩:Oper) (yielded (lX k k2 t1 t2 p1 p2 a1 a2) tmps)=true:=fun _=>rfl
 have o0:(lX k k2 t1 t2 p1 p2 a1 a2)[0]?=some ⟨some k,.call ⟨.builtin .recover,#[],#[]⟩,t1,p1,a1,none⟩:=rfl
 have o1:(lX k k2 t1 t2 p1 p2 a1 a2)[1]?=some ⟨some k2,.assign (.tmp k),t2,p2,a2,none⟩:=rfl
 simp only[wpOpsS,o0,o1,w1,w2,if_true,e1,e2]
 exact h
theorem Gi {P:Program} {k k2:Nat} {t1 t2:TypeId} {p1 p2:String} {a1 a2:Array Edge} {c₀:Frame} {cs:List Frame} (hu:c₀.mode=.returning) {Q:Exit->Act->List Frame->World->Prop} {a:Act} {w:World}
 (h:Q .normal ((a.put (some k) .nilIface).put (some k2) ((a.put (some k) .nilIface).eval (.tmp k))) (c₀::cs) w):wpOpsS P (lX k k2 t1 t2 p1 p2 a1 a2) Q [0,1] a (c₀::cs) w:=by
 have e1:(execOp a.eval ⟨some k,.call ⟨.builtin .recover,#[],#[]⟩,t1,p1,a1,none⟩).run P w=.ok .recover w:=rfl
 have e2:recoverD (c₀::cs)=none:=by simp[recoverD,hu]
 have w1:∀ tmps,Region.wanted (⟨some k,.call ⟨.builtin .recover,#[],#[]⟩,t1,p1,a1,none⟩:Oper) (yielded (lX k k2 t1 t2 p1 p2 a1 a2) tmps)=true:=fun _=>rfl
 have w2:∀ tmps,Region.wanted (⟨some k2,.assign (.tmp k),t2,p2,a2,none⟩:Oper) (yielded (lX k k2 t1 t2 p1 p2 a1 a2) tmps)=true:=fun _=>rfl
 have o0:(lX k k2 t1 t2 p1 p2 a1 a2)[0]?=some ⟨some k,.call ⟨.builtin .recover,#[],#[]⟩,t1,p1,a1,none⟩:=rfl
 have o1:(lX k k2 t1 t2 p1 p2 a1 a2)[1]?=some ⟨some k2,.assign (.tmp k),t2,p2,a2,none⟩:=rfl
 simp only[wpOpsS,o0,o1,w1,w2,if_true,e1,e2]
 exact h
theorem rC {a:Act} {k:Nat} {v:Value} (h:k<a.tmps.size):(a.put (some k) v).tmps[k]?=some v:=by
 show (a.tmps.setIfInBounds k v)[k]?=some v
 simp[h]
theorem CW {a:Act} {k j:Nat} {v:Value} (h:k≠j):(a.put (some k) v).tmps[j]?=a.tmps[j]?:=by
 show (a.tmps.setIfInBounds k v)[j]?=_
 simp[h]
theorem mR {a:Act} {k:Nat} {v:Value}:(a.put (some k) v).tmps.size=a.tmps.size:=by
 show (a.tmps.setIfInBounds k v).size=_
 simp
theorem qR {a:Act} {k:Nat} {v:Value} (h:a.tmps[k]?=some v):a.eval (.tmp k)=v:=by
 simp[Act.eval,h]
theorem tI.intro {P:Program} {TB:bp} {f:FuncId} {fn:Func} {rid k k2:Nat} {t1 t2:TypeId} {p1 p2:String} {a1 a2:Array Edge} {c:Code} {own own':List (Nat×OC)} {args:List BV} {pv:Value} {z:BV} (m:Nat) (hf:P.funcs[f]?=some fn) (hm:fn.ntmps=m)
 (hb:fn.body=some (.seq (.region rid (lX k k2 t1 t2 p1 p2 a1 a2) false) c)) (hl:args.length<=k2) (hk:k2<k) (hkm:k<m) (hz:∀ h ρ,z.rel h ρ pv)
 (b2:∀ E:Env TB,ab P E ⟨m,aN own,aO own,[]⟩ c ⟨(k2,.b z)::kH 0 args,own⟩ (zD P fn E ⟨m,aN own,aO own,[]⟩ (Is own' (.gS [])))):tI P TB f own args pv own':=by
 intro w h ρ vals tb hag b0 b1
 have hlen:=b1.length
 refine (callsD_of_wpS (R:=fun e u' w'=>u'=.panicking [{ v:=pv,recovered:=true }]/\jR ⟨w,h,ρ,tb⟩ ⟨m,aN own,aO own,[]⟩ (Is own' (.gS [])) e w') hf hb fun c₀ cs hu=>?_).mono ?_
 apply wpS_seq
 apply wpS_region
 show wpOpsS P _ _ [0,1] _ _ _
 refine rec_pan hu ?_
 have hsz:(vals.toArray++Array.replicate (fn.ntmps-vals.toArray.size) undef).size=m:=by simp[hm];omega
 generalize ha:({ tmps:=vals.toArray++Array.replicate (fn.ntmps-vals.toArray.size) undef,defers:=[] }:Act)=a0
 have b5:a0.tmps.size=m:=by rw[← ha];exact hsz
 have hg:∀ j:Nat,∀ v,vals[j]?=some v->a0.tmps[j]?=some v:=by
  intro j v hv
  have hj:=(List.getElem?_eq_some_iff.1 hv).1
  rw[← ha]
  show (vals.toArray++_)[j]?=_
  rw[Array.getElem?_append_left (by simpa using hj)]
  simpa using hv
 have e1:(a0.put (some k) pv).tmps[k]?=some pv:=rC (by omega)
 rw[qR e1]
 show Exit.thenS _ _ _ _ _ _
 refine wpS_of_wp (Code.wp_mono (fun e a' w' he=>?_) (b2 ⟨w,h,ρ,tb⟩ _ w ⟨?_,?_,h,ρ,⟨hag,PH.le_refl h,fun _ _ _=>rfl,Nat.le_refl _,fun _ _ _=>rfl,fun _ _=>rfl,rfl,rfl,?_,?_⟩,?_⟩))
 cases e with
 | normal=>obtain⟨h1,v,h2,h3⟩:=he;exact⟨h1,_,rfl,v,h2 _ (ck.refl _),rfl,h3⟩
 | ret=>obtain⟨h1,v,h2,h3⟩:=he;exact⟨h1,_,rfl,v,h2 _ (ck.refl _),rfl,h3⟩
 | exit _=>exact he.elim
 | goto _=>exact he.elim
 | panic _=>exact he.elim
 | outgrown=>exact he.elim
 rw[← ha];rfl
 rw[mR,mR];exact b5
 rintro b ⟨q,hq,b4⟩ o
 obtain⟨⟨q',c'⟩,hm',rfl⟩:=List.mem_map.1 hq
 exact ((b0 q' c' hm').2.1 b (.inl b4)).2 o
 intro q c' hc'
 obtain⟨h1,h3,h4⟩:=b0 q c' hc'
 exact⟨h1,fun b b4=>⟨.inr ⟨q,List.mem_map.2 ⟨(q,c'),hc',rfl⟩,(h3 b b4).1⟩,(h3 b b4).2⟩,h4⟩
 intro q x hx
 rcases List.mem_cons.1 hx with hx|hx
 cases hx
 exact⟨pv,rC (by rw[mR];omega),hz h ρ⟩
 obtain⟨j,z',rfl,hz',rfl⟩:=js hx
 obtain⟨v,hv,hr⟩:=b1.get j z' hz'
 have hj:=(List.getElem?_eq_some_iff.1 hz').1
 refine⟨v,?_,hr⟩
 rw[CW (by omega),CW (by omega)]
 rw[Nat.zero_add]
 exact hg j v hv
 rintro e u' w' ⟨rfl,v,b3,res,h',ρ',e1,e2,e3,e4⟩
 exact⟨rfl,v,b3,res,h',ρ',e1,e2,WR.sh (n:=⟨m,aN own,aO own,[]⟩) (n':=⟨0,aN own,aO own,[]⟩) rfl rfl e3,e4⟩
theorem zN.intro {P:Program} {f:FuncId} {fn:Func} {rid b3 k k2 k3 k4 m:Nat} {t1 t2 t3 t4 t5 t6:TypeId} {p1 p2 p3 p4:String} {a1 a2 a3 a4:Array Edge} {c:Code} (hf:P.funcs[f]?=some fn) (hr:fn.results=#[])
 (hb:fn.body=some (.seq (.region rid (lX k k2 t1 t2 p1 p2 a1 a2) false) (.seq (.region b3 #[⟨some k3,.move (.tmp k2),t3,p3,a3,none⟩,⟨some k4,.binOp .neq t4 (.tmp k3) (.const .nilIface) t5,t6,p4,a4,none⟩] false) (.cond (.tmp k4) c .skip))))
 {ms:Array (String×TypeId)} (hi:P.underlying t4=some (.interface ms)) (hm:m<=fn.ntmps) (h1:k<fn.ntmps) (h2:k2<fn.ntmps) (h3:k3<fn.ntmps) (h4:k4<fn.ntmps):zN P f m:=by
 intro vals w hlen
 refine callsD_of_wpS hf hb fun c₀ cs hu=>?_
 have hsz:(vals.toArray++Array.replicate (fn.ntmps-vals.toArray.size) undef).size=fn.ntmps:=by simp;omega
 generalize ha:({ tmps:=vals.toArray++Array.replicate (fn.ntmps-vals.toArray.size) undef,defers:=[] }:Act)=a0
 have b4:a0.tmps.size=fn.ntmps:=by rw[← ha];exact hsz
 have hd0:a0.defers=[]:=by rw[← ha]
 apply wpS_seq
 apply wpS_region
 show wpOpsS P _ _ [0,1] _ _ _
 refine Gi hu ?_
 have e1:(a0.put (some k) .nilIface).tmps[k]?=some .nilIface:=rC (by omega)
 rw[qR e1]
 generalize b5:(a0.put (some k) .nilIface).put (some k2) .nilIface=b0
 have c0:b0.tmps.size=fn.ntmps:=by rw[← b5,mR,mR];exact b4
 have hd1:b0.defers=[]:=by rw[← b5];exact hd0
 have g1:b0.tmps[k2]?=some .nilIface:=by rw[← b5];exact rC (by rw[mR];omega)
 refine wpS_of_wp ?_
 apply wp_seq
 apply wp_region
 show wpOps P _ _ [0,1] b0 w
 have r1:(execOp b0.eval ⟨some k3,.move (.tmp k2),t3,p3,a3,none⟩).run P w=.ok (.value .nilIface) w:=by
  show (pure (Next.value (b0.eval (.tmp k2))):Sem Next).run P w=_
  rw[qR g1];rfl
 generalize b2:b0.put (some k3) .nilIface=b1
 have hsz2:b1.tmps.size=fn.ntmps:=by rw[← b2,mR];exact c0
 have hd2:b1.defers=[]:=by rw[← b2];exact hd1
 have g2:b1.tmps[k3]?=some .nilIface:=by rw[← b2];exact rC (by omega)
 have r2:(execOp b1.eval ⟨some k4,.binOp .neq t4 (.tmp k3) (.const .nilIface) t5,t6,p4,a4,none⟩).run P w=.ok (.value (.bool false)) w:=by
  have h1:∀ d:Nat,(Op.equalIn (d+1) t4 .nilIface .nilIface).run P w=.ok true w:=fun d=>by simp[Op.equalIn,run_underlying hi]
  have h2:(Op.equal t4 .nilIface .nilIface).run P w=.ok true w:=h1 _
  simp only[execOp,qR g2,show b1.eval (.const .nilIface)=.nilIface from rfl,eqGuard_nil_constR]
  simp[binOp,h2,Result.andThen]
 have w1:∀ tmps,Region.wanted (⟨some k3,.move (.tmp k2),t3,p3,a3,none⟩:Oper) tmps=true:=fun _=>rfl
 have w2:∀ tmps,Region.wanted (⟨some k4,.binOp .neq t4 (.tmp k3) (.const .nilIface) t5,t6,p4,a4,none⟩:Oper) tmps=true:=fun _=>rfl
 simp only[wpOps,List.getElem?_toArray,List.getElem?_cons_zero,List.getElem?_cons_succ,w1,w2,if_true,Oper.wp,r1,Oper.upon,b2,r2]
 have g3:(b1.put (some k4) (.bool false)).tmps[k4]?=some (.bool false):=rC (by omega)
 refine .inl (.inl ?_)
 show Code.wp P (.cond (.tmp k4) c .skip) _ _ _
 refine wp_cond (t:=false) (qR g3) ?_
 refine wp_skip ?_
 refine⟨hd2,.returning,?_,.tuple #[],?_,⟨_,rfl⟩,rfl,rfl⟩
 rw[← hu]
 simp[results,hr]
end Go.Sk
namespace Go.Sk
open Go Go.BigFrame
structure td (P:Program) (f:FuncId) (e:Array Value->Sem Value):Prop where
 info:∃ fn,P.funcs[f]?=some fn/\(fn.name == "runtime.NumGoroutine")=false/\fn.body.isNone=true/\Extern.findNext fn=none/\Extern.find fn=some e
theorem frozen0 {w:World} {b o:Nat} {cur:Array Value} {T:TypeId} (hb:w.heap[b]?=some (.cells cur T (0,0))):w.frozen? ⟨b,o,none⟩=false:=by
 simp[World.frozen?,hb]
theorem qY {w:World} {b o:Nat} {cur:Array Value} {T:TypeId} (hb:w.heap[b]?=some (.cells cur T (0,0))) (v:Value):w.setCell ⟨b,o,none⟩ v=w.setRow b (cur.toList.set o v).toArray:=by
 have h1:(cur.toList.set o v).toArray=cur.setIfInBounds o v:=by
  apply Array.ext';simp
 rw[h1]
 unfold World.setCell World.setRow
 congr 1
 apply Array.ext_getElem?
 intro i
 simp only[Array.getElem?_modify]
 split
 next e=>subst e;simp[hb]
 rfl
section
variable {P:Program} {TB:bp} {E:Env TB} {n:Sh} {s s':St} {dst:Option Nat} {t ty yt:TypeId} {pos:String} {after:Array Edge} {g:Option (Nat×Bool)} {x y z c:Operand} {ops:Array Oper} {l:List Oper} {Q:cN} {cd:Code}
theorem rJ {f:FuncId} {xs:Array Operand} {ats:Array TypeId} (a:Act) (w:World):(execOp a.eval ⟨dst,.call ⟨.value (.func f),xs,ats⟩,ty,pos,after,g⟩).run P w=(callFunc f (xs.toList.map a.eval).toArray).run P w:=by
 rw[show execOp a.eval ⟨dst,.call ⟨.value (.func f),xs,ats⟩,ty,pos,after,g⟩=callFunc f (#[]++xs.map a.eval++#[]) from rfl]
 congr 2
 apply Array.ext'
 simp
theorem tO {f:FuncId} {m:Mark} {ats:Array TypeId} (hf:td P f (fun _=>do _root_.Go.mark m;pure Extern.Race.none_)):bG P E n ⟨dst,.call ⟨.value (.func f),#[],ats⟩,ty,pos,after,g⟩ s (s.put n dst (.gS [])) :=
 bG.val (o:=⟨dst,.call ⟨.value (.func f),#[],ats⟩,ty,pos,after,g⟩) fun ac w h ρ hw hs=>by
  obtain⟨fn,h1,h2,h3,h4,h5⟩:=hf.info
  exact⟨.tuple #[],by rw[rJ];exact run_call_mark0 h1 h2 h3 h4 m h5 w,_,rfl,.nil⟩
theorem yd {f:FuncId} {m:Addr->Mark} {ats:Array TypeId} {k o:Nat} (hf:td P f (Extern.Race.marked m)) (hx:s.ev x=some (.b (.ptr k o))):bG P E n ⟨dst,.call ⟨.value (.func f),#[x],ats⟩,ty,pos,after,g⟩ s (s.put n dst (.gS [])) :=
 bG.val (o:=⟨dst,.call ⟨.value (.func f),#[x],ats⟩,ty,pos,after,g⟩) fun ac w h ρ hw hs=>by
  obtain⟨fn,h1,h2,h3,h4,h5⟩:=hf.info
  obtain⟨b,he,hv⟩:=(bb hs hx:BV.rel h ρ (.ptr k o) _)
  refine⟨.tuple #[],?_,_,rfl,.nil⟩
  rw[rJ]
  simp only[List.map_cons,List.map_nil,hv]
  exact run_call_marked h1 h2 h3 h4 m h5 _ w
theorem yc {src d t0:TypeId} {k o:Nat} {T:TypeId} {ps:List CP} {p:CP} (h1:P.underlying src=some (.pointer t0)) (h2:P.underlying d=some .unsafePointer) (h3:(P.info? t0).map (fun i=>decide (i.size=0))=some false) (hx:s.ev x=some (.b (.ptr k o))) (hk:lk s.own k=some (.box T ps)) (hp:ps[o]?=some p) :
 bG P E n ⟨dst,.convert src d x,ty,pos,after,g⟩ s (s.put n dst (.b (.ptr k o))) :=
 bG.val (o:=⟨dst,.convert src d x,ty,pos,after,g⟩) fun ac w h ρ hw hs=>by
  obtain⟨b,he,hv⟩:=(bb hs hx:BV.rel h ρ (.ptr k o) _)
  obtain⟨b',cur,hb1,hb2,hb3⟩:=ep hw hk
  have:b'=b:=by rw[hb1] at he;simpa using he
  subst this
  obtain⟨u,hu,hpu⟩:=hb3.get o p hp
  refine⟨.pointer (some ⟨b',o,none⟩),?_,b',he,rfl⟩
  simp only[execOp,hv]
  have:=run_convert_to_unsafe (P:=P) h1 h2 h3 (a:=⟨b',o,none⟩) (w:=w) (v:=u) (by rw[eU hb2];simpa using hu)
  simp[this]
theorem Gs {f:FuncId} {ats:Array TypeId} {k o:Nat} {kk:IntKind} {i:Int} {T:TypeId} {ps:List CP} (hf:td P f (Extern.Atomic.loadT (.int kk))) (hx:s.ev x=some (.b (.ptr k o))) (hk:lk s.own k=some (.box T ps)) (hp:ps[o]?=some (.int kk i)) :
 bG P E n ⟨dst,.call ⟨.value (.func f),#[x],ats⟩,ty,pos,after,g⟩ s (s.put n dst (.b (.one (.int kk i)))) :=
 bG.val (o:=⟨dst,.call ⟨.value (.func f),#[x],ats⟩,ty,pos,after,g⟩) fun ac w h ρ hw hs=>by
  obtain⟨fn,h1,h2,h3,h4,h5⟩:=hf.info
  obtain⟨b,he,hv⟩:=(bb hs hx:BV.rel h ρ (.ptr k o) _)
  obtain⟨b',cur,hb1,hb2,hb3⟩:=ep hw hk
  have:b'=b:=by rw[hb1] at he;simpa using he
  subst this
  obtain⟨u,hu,hpu⟩:=hb3.get o _ hp
  obtain⟨rfl,hr⟩:u=.int kk i/\lG kk i:=hpu
  refine⟨.int kk i,?_,rfl,hr⟩
  rw[rJ]
  simp only[List.map_cons,List.map_nil,hv]
  exact run_call_load h1 h2 h3 h4 kk h5 (by rw[eU hb2];simpa using hu)
theorem bG.cell {o:Oper} {own':List (Nat×OC)} {res:SV}
 (H:∀ (a:Act) (w:World) (h:PH) (ρ:RM),WR E n s.own h ρ w->bX h ρ s.slots a.tmps->∃ v w',(execOp a.eval o).run P w=.ok (.value v) w'/\WR E n own' h ρ w'/\res.rel h ρ v):bG P E n o s ((⟨s.slots,own'⟩:St).put n o.dst res):=by
 intro a w ⟨hdf,hn,h,ρ,hw,hs⟩ next Q b0
 obtain⟨v,w',hv,hw',hr⟩:=H a w h ρ hw hs
 unfold Oper.wp
 rw[hv]
 exact b0 _ _ (R.put (s:=⟨s.slots,own'⟩) hdf hn hw' hs hr)
theorem op_cas {f:FuncId} {ats:Array TypeId} {k o:Nat} {kk:IntKind} {i j:Int} {T:TypeId} {ps ps':List CP} (hf:td P f (Extern.Atomic.casT (.int kk))) (hx:s.ev x=some (.b (.ptr k o))) (hk:lk s.own k=some (.box T ps)) (hp:ps[o]?=some (.int kk i)) (hy:s.ev y=some (.b (.one (.int kk i)))) (hz:s.ev z=some (.b (.one (.int kk j)))) (hps:ps.set o (.int kk j)=ps') :
 bG P E n ⟨dst,.call ⟨.value (.func f),#[x,y,z],ats⟩,ty,pos,after,g⟩ s ((⟨s.slots,ins k (.box T ps') s.own⟩:St).put n dst (B true)) :=
 bG.cell (o:=⟨dst,.call ⟨.value (.func f),#[x,y,z],ats⟩,ty,pos,after,g⟩) fun ac w h ρ hw hs=>by
  obtain⟨fn,h1,h2,h3,h4,h5⟩:=hf.info
  obtain⟨b,he,hv⟩:=(bb hs hx:BV.rel h ρ (.ptr k o) _)
  obtain⟨b',cur,hb1,b0,hb3⟩:=ep hw hk
  have:b'=b:=by rw[hb1] at he;simpa using he
  subst this
  obtain⟨u,hu,hpu⟩:=hb3.get o _ hp
  obtain⟨rfl,hr⟩:u=.int kk i/\lG kk i:=hpu
  refine⟨.bool true,w.setCell ⟨b',o,none⟩ (.int kk j),?_,?_,rfl⟩
  rw[rJ]
  simp only[List.map_cons,List.map_nil,hv,(b9 hs hy).1,(b9 hs hz).1]
  exact run_call_cas_hit h1 h2 h3 h4 kk h5 (y:=j) (by rw[eU b0];simpa using hu) (frozen0 b0)
  rw[qY b0]
  refine hw.wF hk hb1 b0 ?_
  rw[← hps]
  exact br.set hb3 o ⟨rfl,(b9 hs hz).2⟩
theorem op_aadd {f:FuncId} {ats:Array TypeId} {k o:Nat} {kk:IntKind} {i j r:Int} {T:TypeId} {ps ps':List CP} (hf:td P f (Extern.Atomic.update (Op.intArith .add) kk true)) (hx:s.ev x=some (.b (.ptr k o))) (hk:lk s.own k=some (.box T ps)) (hp:ps[o]?=some (.int kk i)) (hy:s.ev y=some (.b (.one (.int kk j)))) (hr:kk.wrap (i+j)=r) (hin:lG kk r) (hps:ps.set o (.int kk r)=ps') :
 bG P E n ⟨dst,.call ⟨.value (.func f),#[x,y],ats⟩,ty,pos,after,g⟩ s ((⟨s.slots,ins k (.box T ps') s.own⟩:St).put n dst (.b (.one (.int kk r)))) :=
 bG.cell (o:=⟨dst,.call ⟨.value (.func f),#[x,y],ats⟩,ty,pos,after,g⟩) fun ac w h ρ hw hs=>by
  obtain⟨fn,h1,h2,h3,h4,h5⟩:=hf.info
  obtain⟨b,he,hv⟩:=(bb hs hx:BV.rel h ρ (.ptr k o) _)
  obtain⟨b',cur,hb1,b0,hb3⟩:=ep hw hk
  have:b'=b:=by rw[hb1] at he;simpa using he
  subst this
  obtain⟨u,hu,hpu⟩:=hb3.get o _ hp
  obtain⟨rfl,hri⟩:u=.int kk i/\lG kk i:=hpu
  refine⟨.int kk r,w.setCell ⟨b',o,none⟩ (.int kk r),?_,?_,rfl,hin⟩
  rw[rJ]
  simp only[List.map_cons,List.map_nil,hv,(b9 hs hy).1]
  exact run_call_add h1 h2 h3 h4 kk h5 (y:=j) (s:=r) (by rw[eU b0];simpa using hu) (frozen0 b0) (by rw[← hr];rfl)
  rw[qY b0]
  refine hw.wF hk hb1 b0 ?_
  rw[← hps]
  exact br.set hb3 o ⟨rfl,hin⟩
theorem Eb {f:FuncId} {ats:Array TypeId} {k o:Nat} {kk:IntKind} {j:Int} {T:TypeId} {ps ps':List CP} {p:CP} (hf:td P f Extern.Atomic.storeT) (hx:s.ev x=some (.b (.ptr k o))) (hk:lk s.own k=some (.box T ps)) (hp:ps[o]?=some p) (hy:s.ev y=some (.b (.one (.int kk j)))) (hps:ps.set o (.int kk j)=ps') :
 bG P E n ⟨dst,.call ⟨.value (.func f),#[x,y],ats⟩,ty,pos,after,g⟩ s ((⟨s.slots,ins k (.box T ps') s.own⟩:St).put n dst (.gS [])) :=
 bG.cell (o:=⟨dst,.call ⟨.value (.func f),#[x,y],ats⟩,ty,pos,after,g⟩) fun ac w h ρ hw hs=>by
  obtain⟨fn,h1,h2,h3,h4,h5⟩:=hf.info
  obtain⟨b,he,hv⟩:=(bb hs hx:BV.rel h ρ (.ptr k o) _)
  obtain⟨b',cur,hb1,b0,hb3⟩:=ep hw hk
  have:b'=b:=by rw[hb1] at he;simpa using he
  subst this
  obtain⟨u,hu,hpu⟩:=hb3.get o _ hp
  refine⟨.tuple #[],w.setCell ⟨b',o,none⟩ (.int kk j),?_,?_,_,rfl,.nil⟩
  rw[rJ]
  simp only[List.map_cons,List.map_nil,hv,(b9 hs hy).1]
  exact run_call_store h1 h2 h3 h4 h5 (u:=u) (by rw[eU b0];simpa using hu) (frozen0 b0)
  rw[qY b0]
  refine hw.wF hk hb1 b0 ?_
  rw[← hps]
  exact br.set hb3 o ⟨rfl,(b9 hs hy).2⟩
theorem ab.loopN (m:Nat) (h:ab P E n cd s (Exit.then (Code.rounds P cd Q m) Q)):ab P E n (.loop cd) s Q:=fun a w hr=>wp_loop_rounds (m+1) (h a w hr)
theorem Fin.round {m:Nat} (h:ab P E n cd s (Exit.then (Code.rounds P cd Q m) Q)):Fin E n .normal s (Exit.then (Code.rounds P cd Q (m+1)) Q):=fun a w hr=>h a w hr
def CP.yA (T:TypeId) (ps:List CP):CP:=⟨fun h v=>∃ u,v=.iface T u/\(CP.rp ps).rel h u,fun hl ⟨u,e,hr⟩=>⟨u,e,(CP.rp ps).mono hl hr⟩,fun ⟨u,e,_⟩=>by rw[e];rfl⟩
theorem Cc {T:TypeId} {ps:List CP} (hc:P.concrete T=true) (hx:s.ev x=some (.b (.dc ps))):bG P E n ⟨dst,.makeInterface T x,ty,pos,after,g⟩ s (s.put n dst (.b (.one (.yA T ps)))) :=
 bG.val (o:=⟨dst,.makeInterface T x,ty,pos,after,g⟩) fun ac w h ρ hw hs=>by
  have hr:=(bb hs hx:BV.rel h ρ (.dc ps) _)
  refine⟨.iface T (ac.eval x),?_,_,rfl,hr⟩
  show (do let v ← Instr.makeInterface T (ac.eval x);pure (Next.value v):Sem Next).run P w=_
  rw[Sem.run_bind,run_makeInterface _ _ _ hc]
  rfl
theorem Gr {f:FuncId} {T:TypeId} {ps:List CP} {nm:String} {own_a own':List (Nat×OC)} {zs:List BV} {xs:Array Operand} {ats:Array TypeId} {res:SV} (b0:ax P TB f own_a (.dc ps::zs) (Is own' res)) (hm:∀ (u:Value) (args:Array Value) (w:World),(callMethod (.iface T u) nm args).run P w=.ok (.enter f (#[u]++args)) w) (hx:s.ev x=some (.b (.one (.yA T ps)))) (ha:iM s xs.toList=some zs) (hl:iL s.own own_a)
 (hok:ko n own_a own'=true) (hki:res.cX own'=true) (hcl:j3 s.own own_a own'=true:=by rfl):bG P E n ⟨dst,.call ⟨.invoke x nm,xs,ats⟩,ty,pos,after,g⟩ s (s.aft n own_a own' dst res) :=
 fun _ _ hr _ _ b1=>xA b0 (fun a w h ρ hw hs=>by
  obtain⟨u,hv,hu⟩:=(bb hs hx:(CP.yA T ps).rel h _)
  refine⟨u::xs.toList.map a.eval,?_,.cons hu (iV hs ha)⟩
  have e1:execOp a.eval ⟨dst,.call ⟨.invoke x nm,xs,ats⟩,ty,pos,after,g⟩=invoke (.fn (.method nm) #[]) (#[a.eval x]++xs.map a.eval):=rfl
  rw[e1,hv]
  have e2:invoke (.fn (.method nm) #[]) (#[.iface T u]++xs.map a.eval)=callMethod (.iface T u) nm (xs.map a.eval):=by
   have h0:(#[Value.iface T u]++xs.map a.eval)[0]?=some (.iface T u):=by
    rw[Array.getElem?_append_left (by simp)];rfl
   have h3:(#[Value.iface T u]++xs.map a.eval).extract 1 (#[Value.iface T u]++xs.map a.eval).size=xs.map a.eval:=by
    apply Array.ext'
    simp[Array.toList_extract,List.extract]
    exact List.take_of_length_le (by simp)
   unfold invoke
   simp only[h0,h3]
  rw[e2,hm]
  congr 2
  apply Array.ext'
  simp) hl hr fun _ _ hp=>by
  obtain⟨rfl,rfl⟩:=hp
  exact⟨hok,hcl,hki,b1⟩
end
def sR (P:Program) (TB:bp) (f:FuncId) (own:List (Nat×OC)) (args:List BV) (own':List (Nat×OC)):Prop :=
 ∀ (w:World) (h:PH) (ρ:RM) (vals:List Value) (tb:dz TB h w),nD h w->zH own h ρ w->br (fun (x:BV) v=>x.rel h ρ v) args vals ->
  ∀ u,CallsD P f vals.toArray u w fun e u' w'=>u'=u/\jR ⟨w,h,ρ,tb⟩ ⟨0,aN own,aO own,[]⟩ (Is own' (.gS [])) e w'
theorem sR.intro {P:Program} {TB:bp} {f:FuncId} {fn:Func} {c:Code} {own own':List (Nat×OC)} {args:List BV} (m:Nat) (hf:P.funcs[f]?=some fn) (hm:fn.ntmps=m) (hb:fn.body=some c) (hl:args.length<=m)
 (b2:∀ E:Env TB,ab P E ⟨m,aN own,aO own,[]⟩ c ⟨kH 0 args,own⟩ (zD P fn E ⟨m,aN own,aO own,[]⟩ (Is own' (.gS [])))):sR P TB f own args own':=by
 intro w h ρ vals tb hag b0 b1 u
 have hlen:=b1.length
 refine (callsD_of_wp (R:=jR ⟨w,h,ρ,tb⟩ ⟨m,aN own,aO own,[]⟩ (Is own' (.gS []))) hf hb (wp_mono (b2 ⟨w,h,ρ,tb⟩ _ w ⟨rfl,?_,h,ρ,⟨hag,PH.le_refl h,fun _ _ _=>rfl,Nat.le_refl _,fun _ _ _=>rfl,fun _ _=>rfl,rfl,rfl,?_,?_⟩,?_⟩) (zD.body rfl))).mono ?_
 simp[hm];omega
 rintro b ⟨k,hk,hb⟩ o
 obtain⟨⟨k',c⟩,hm',rfl⟩:=List.mem_map.1 hk
 exact ((b0 k' c hm').2.1 b (.inl hb)).2 o
 intro k c hc
 obtain⟨h1,h3,h4⟩:=b0 k c hc
 exact⟨h1,fun b hb=>⟨.inr ⟨k,List.mem_map.2 ⟨(k,c),hc,rfl⟩,(h3 b hb).1⟩,(h3 b hb).2⟩,h4⟩
 intro k x hx
 obtain⟨j,z,rfl,hz,rfl⟩:=js hx
 obtain⟨v,hv,hr⟩:=b1.get j z hz
 refine⟨v,?_,hr⟩
 have hj:=(List.getElem?_eq_some_iff.1 hv).1
 rw[Nat.zero_add,Array.getElem?_append_left (by simpa using hj)]
 simpa using hv
 rintro e u' w' ⟨e0,v,own',res,h',ρ',e1,e2,e3,e4⟩
 exact⟨e0,v,own',res,h',ρ',e1,e2,WR.sh (n:=⟨m,aN own,aO own,[]⟩) (n':=⟨0,aN own,aO own,[]⟩) rfl rfl e3,e4⟩
inductive DA where
 | ptr (k off:Nat)
 | bool (b:Bool)
def DA.bv:DA->BV
 | .ptr k off=>.ptr k off
 | .bool b=>.one (.bool b)
def DA.val {TB:bp} (E:Env TB):DA->Value
 | .ptr k off=>match E.ρ0 k with
  | .pointer (some a)=>.pointer (some ⟨a.block,off,none⟩)
  | v=>v
 | .bool b=>.bool b
def DA.ok (fix:List Nat) (own:List (Nat×OC)):DA->Bool
 | .ptr k _=>fix.contains k&&(match lk own k with|some (.box _ _)=>true|_=>false)
 | .bool _=>true
theorem DA.rel {TB:bp} {E:Env TB} {n:Sh} {own:List (Nat×OC)} {h:PH} {ρ:RM} {w:World} (hw:WR E n own h ρ w):∀ {l:List DA},l.all (DA.ok n.fix own)=true->br (fun (x:BV) v=>x.rel h ρ v) (l.map DA.bv) (l.map (DA.val E))
 | [],_=>.nil
 | x::l,hk=>by
  rw[List.all_cons,Bool.and_eq_true] at hk
  refine .cons ?_ (DA.rel hw hk.2)
  have h1:=hk.1
  cases x with
  | bool b=>rfl
  | ptr k off=>
   simp only[DA.ok,Bool.and_eq_true] at h1
   obtain⟨h2,h3⟩:=h1
   split at h3
   next T ps e=>
    obtain⟨b,cur,hb1,hb2,hb3⟩:=ep hw e
    refine⟨b,hb1,?_⟩
    have:=hw.fixed k (by simpa using h2)
    simp only[DA.val,← this,hb1]
   cases h3
theorem DA.eq {TB:bp} {E:Env TB} {n:Sh} {own:List (Nat×OC)} {h:PH} {ρ:RM} {w:World} (hw:WR E n own h ρ w):∀ {l:List DA} {vs:List Value},l.all (DA.ok n.fix own)=true->br (fun (x:BV) v=>x.rel h ρ v) (l.map DA.bv) vs->vs=l.map (DA.val E)
 | [],_,_,.nil=>rfl
 | x::l,v::vs,hk,hr=>by
  rw[List.all_cons,Bool.and_eq_true] at hk
  cases hr with
  | cons h0 h4=>
  rw[DA.eq hw hk.2 h4,List.map_cons]
  congr 1
  have h1:=hk.1
  cases x with
  | bool b=>exact h0
  | ptr k off=>
   simp only[DA.ok,Bool.and_eq_true] at h1
   obtain⟨b,hb1,rfl⟩:=h0
   have:=hw.fixed k (by simpa using h1.1)
   simp only[DA.val,← this,hb1]
section
variable {P:Program} {TB:bp} {E:Env TB} {n:Sh} {s s':St} {dst:Option Nat} {t ty yt:TypeId} {pos:String} {after:Array Edge} {g:Option (Nat×Bool)} {x y z c:Operand} {ops:Array Oper} {l:List Oper} {Q:cN} {cd:Code}
theorem ae.FO {f:FuncId} {das:List DA} {xs:Array Operand} {ats:Array TypeId} (hk:das.all (DA.ok n.fix s.own)=true) (ha:iM s xs.toList=some (das.map DA.bv))
 (h:ae P E ⟨n.n,n.fix,n.lnd,⟨.fn (.func f) #[],(das.map (DA.val E)).toArray⟩::n.dfs⟩ ops l s Q):ae P E n ops (⟨none,.defer ⟨.value (.func f),xs,ats⟩,ty,pos,after,none⟩::l) s Q:=by
 intro a w hr
 unfold A'
 have:∀ tmps,Region.wanted ⟨none,.defer ⟨.value (.func f),xs,ats⟩,ty,pos,after,none⟩ (yielded ops tmps)=true:=fun _=>rfl
 simp only[this,if_true]
 obtain⟨hdf,hsz,h1,ρ,hw,hs⟩:=hr
 have hv:=DA.eq hw hk (iV hs ha)
 have b0:(execOp a.eval ⟨none,.defer ⟨.value (.func f),xs,ats⟩,ty,pos,after,none⟩).run P w=.ok (.defer ⟨.fn (.func f) #[],(das.map (DA.val E)).toArray⟩) w:=by
  have e1:execOp a.eval ⟨none,.defer ⟨.value (.func f),xs,ats⟩,ty,pos,after,none⟩=(pure (.defer ⟨.fn (.func f) #[],#[]++xs.map a.eval⟩):Sem Next):=rfl
  rw[e1,← hv]
  have e2:(#[]++xs.map a.eval)=(xs.toList.map a.eval).toArray:=by apply Array.ext';simp
  rw[e2]
  rfl
 unfold Oper.wp
 rw[b0]
 refine h { a with defers:=⟨.fn (.func f) #[],(das.map (DA.val E)).toArray⟩::a.defers } w ⟨?_,hsz,h1,ρ,WR.sh (n:=n) (n':=⟨n.n,n.fix,n.lnd,_⟩) rfl rfl hw,hs⟩
 show _::a.defers=_
 rw[hdf]
theorem Fin.runD {fn:Func} {post:eP} {e:Exit} {f:FuncId} {das:List DA} {own_a own':List (Nat×OC)} {ds:List Deferred} {m:Nat} {fix lnd:List Nat} (he:e=.ret∨e=.normal) (hm:sR P TB f own_a (das.map DA.bv) own') (hg:bq P f) (hk:das.all (DA.ok fix s.own)=true) (hl:iL s.own own_a)
 (hok:ko ⟨m,fix,lnd,[]⟩ own_a own'=true) (hcl:j3 s.own own_a own'=true)
 (h:Fin E ⟨m,fix,lnd,ds⟩ .ret ⟨mh own_a own' s.slots,jT own' (fL own_a s.own)⟩ (DE P fn E ⟨m,fix,lnd,[]⟩ post)) :
 Fin E ⟨m,fix,lnd,⟨.fn (.func f) #[],(das.map (DA.val E)).toArray⟩::ds⟩ e s (DE P fn E ⟨m,fix,lnd,[]⟩ post):=by
 have key:∀ (a:Act) (w:World),R E ⟨m,fix,lnd,⟨.fn (.func f) #[],(das.map (DA.val E)).toArray⟩::ds⟩ s a w->Leaves P fn a.tmps (jR E ⟨m,fix,lnd,[]⟩ post) a.defers .returning w:=by
  rintro a w ⟨hdf,hsz,h1,ρ,hw0,hs⟩
  have hw:WR E ⟨m,fix,lnd,[]⟩ s.own h1 ρ w:=WR.sh (n:=⟨m,fix,lnd,(⟨.fn (.func f) #[],(das.map (DA.val E)).toArray⟩:Deferred)::ds⟩) (n':=⟨m,fix,lnd,[]⟩) rfl rfl hw0
  rw[show a.defers=_ from hdf]
  refine leaves_cons (f:=f) (args:=(das.map (DA.val E)).toArray) (by simp) ?_ ?_
  have e1:invoke (.fn (.func f) #[]) (das.map (DA.val E)).toArray=callFunc f ((das.map (DA.val E)).toArray++#[]):=rfl
  rw[e1,hg.run]
  simp
  have hla:=ka hl
  refine (hm w h1 ρ _ hw.bd hw.agree (rG hw hla (ju hl)) (DA.rel hw hk) .returning).mono ?_
  rintro e' u' w' ⟨rfl,v,b1,res,h',ρ',rfl,⟨rfl,rfl⟩,b2,b0⟩
  have hwc:=hw.call hla b2 hok hcl
  refine h { a with defers:=ds } w' ⟨rfl,hsz,h',_,WR.sh (n:=⟨m,fix,lnd,[]⟩) (n':=⟨m,fix,lnd,ds⟩) rfl rfl hwc,fun k x hx=>?_⟩
  obtain⟨h3,h2⟩:=lS hx
  obtain⟨u,hu,b0⟩:=hs k x h3
  refine⟨u,hu,SV.mono b2.le (fun j hj=>?_) b0⟩
  by_cases b3:j∈aO b1
  rw[ji b3]
  by_cases hia:j∈aN own_a
  exact b2.fixed j hia
  have:=h2 j b3 hia;simp[this] at hj
  exact jJ b3
 rcases he with rfl|rfl<;>exact key
end
end Go.Sk
namespace Go.Sk
open Go Go.BigFrame
def CP.slb (xs:List Int):CP:=⟨fun h v=>(CP.sl 1 (xs.map (eK .u8))).rel h v/\(xs=[]->v=.slice none 0 0),fun hl x=>⟨(CP.sl 1 (xs.map (eK .u8))).mono hl x.1,x.2⟩,fun x=>(CP.sl 1 (xs.map (eK .u8))).one x.1⟩
def fY (f:Nat->List Int) (rest:List CP):List CP:=(List.range 256).map (fun i=>CP.slb (f i))++rest
theorem zS {f:Nat->List Int} {rest:List CP} {i:Nat} (h:i<256):(fY f rest)[i]?=some (.slb (f i)):=by
 unfold fY
 rw[List.getElem?_append_left (by simp;exact h)]
 simp[h]
theorem x9 {f:Nat->List Int} {rest:List CP}:(fY f rest).drop 256=rest:=by
 unfold fY
 rw[List.drop_append_of_le_length (by simp)]
 simp
def c6 (i:Nat):List Int:=if i=34 then ofStr [92,34] else if i=92 then ofStr [92,92] else []
theorem lit_get {m a b:Nat} {A B:CP} {rest:List CP} {j:Nat} (hj:j<m):(((List.replicate m CP.nil).set a A).set b B++rest)[j]?=some (if b=j then B else if a=j then A else CP.nil):=by
 rw[List.getElem?_append_left (by simpa using hj),List.getElem?_set,List.getElem?_set]
 split
 next e=>subst e;simp[hj]
 split
 next e=>subst e;simp[hj]
 simp[hj]
theorem GB {m a b:Nat} {A B:CP} {rest:List CP} {j:Nat} (hj:m<=j):(((List.replicate m CP.nil).set a A).set b B++rest)[j]?=rest[j-m]?:=by
 rw[List.getElem?_append_right (by simpa using hj)]
 simp
theorem DY {f:Nat->List Int} {rest:List CP} {j:Nat} (hj:256<=j):(fY f rest)[j]?=rest[j-256]?:=by
 unfold fY
 rw[List.getElem?_append_right (by rw[List.length_map,List.length_range];exact hj),List.length_map,List.length_range]
theorem tab_rel {T:TypeId} {rest:List CP} {h:PH} {ρ:RM} {v:Value} (hv:SV.rel h ρ (.b (.one (.yA T (((List.replicate 256 CP.nil).set 34 (.sl 1 ((ofStr [92,34]).map (eK .u8)))).set 92 (.sl 1 ((ofStr [92,92]).map (eK .u8)))++rest)))) v):SV.rel h ρ (.b (.one (.yA T (fY c6 rest)))) v:=by
 obtain⟨u,e,b,o,e2,hr⟩:=hv
 refine⟨u,e,b,o,e2,fun j c hc=>?_⟩
 by_cases hj:j<256
 rw[zS hj] at hc
 cases hc
 obtain⟨x,hx,b0⟩:=hr j _ (lit_get hj)
 refine⟨x,hx,?_⟩
 unfold c6
 by_cases h1:92=j
 subst h1
 rw[if_pos rfl] at b0
 exact⟨b0,fun he=>absurd he (by decide)⟩
 rw[if_neg h1] at b0
 by_cases h2:34=j
 subst h2
 rw[if_pos rfl] at b0
 exact⟨b0,fun he=>absurd he (by decide)⟩
 rw[if_neg h2] at b0
 have hx2:x=.slice none 0 0:=b0.1
 rw[if_neg (fun h=>h2 h.symm),if_neg (fun h=>h1 h.symm)]
 exact⟨⟨fun ps hps=>by simp at hps,Nat.one_pos,.inl ⟨hx2,rfl⟩⟩,fun _=>hx2⟩
 obtain⟨x,hx,b0⟩:=hr j c (by rw[GB (by omega)];rw[DY (by omega)] at hc;exact hc)
 exact⟨x,hx,b0⟩
section
variable {P:Program} {TB:bp} {E:Env TB} {n:Sh} {s s':St} {dst:Option Nat} {t ty yt:TypeId} {pos:String} {after:Array Edge} {g:Option (Nat×Bool)} {x y z c:Operand} {ops:Array Oper} {l:List Oper} {Q:cN} {cd:Code}
theorem wG {e:TypeId} {f:Nat->List Int} {rest:List CP} {i:Int} (ht:l7 P t e 256 1) (hx:s.ev x=some (.b (.dc (fY f rest)))) (hy:s.ev y=some (.b (.one (.int .u8 i)))) :
 bG P E n ⟨dst,.indexAddr t x y,ty,pos,after,g⟩ s (s.put n dst (.b (.dc [.slb (f i.toNat)]))) :=
 bG.val (o:=⟨dst,.indexAddr t x y,ty,pos,after,g⟩) fun ac w h ρ hw hs=>by
  obtain⟨b,o,hv,hr⟩:=(bb hs hx:BV.rel h ρ (.dc (fY f rest)) _)
  obtain⟨inf,hi,hsz⟩:=ht.info
  have hin:=(b9 hs hy).2
  have h0:0<=i/\i<=255:=by simpa[lG,IntKind.min,IntKind.max,IntKind.signed,IntKind.bits] using hin
  refine⟨.pointer (some ⟨b,o+i.toNat*1,none⟩),?_,b,o+i.toNat*1,rfl,fun j c hc=>?_⟩
  simp only[execOp,hv,(b9 hs hy).1]
  simp[l4 ht.und hi hsz w b o .u8 i h0.1 (by omega)]
  cases j with
  | zero=>
   obtain⟨u,hu,b0⟩:=hr i.toNat _ (zS (by omega))
   have:c=.slb (f i.toNat):=by simpa using hc.symm
   subst this
   exact⟨u,by rw[Nat.mul_one,Nat.add_zero];exact hu,b0⟩
  | succ j=>simp at hc
theorem Bl {xs:List Int} {h:PH} {ρ:RM} {v:Value} (hv:SV.rel h ρ (.b (.one (.slb xs))) v):SV.rel h ρ (.b (.one (.sl 1 (xs.map (eK .u8))))) v:=hv.1
theorem xo {e:TypeId} {xs:List Int} (ht:P.underlying t=some (.slice e)) (hx:s.ev x=some (.b (.one (.slb xs)))) :
 bG P E n ⟨dst,.binOp .neq t x (.const (.slice none 0 0)) yt,ty,pos,after,g⟩ s (s.put n dst (B (decide (xs≠[])))) :=
 bG.val (o:=⟨dst,.binOp .neq t x (.const (.slice none 0 0)) yt,ty,pos,after,g⟩) fun ac w h ρ hw hs=>by
  have hr:=(bb hs hx:(CP.slb xs).rel h _)
  obtain⟨⟨h1,h2,h3⟩,h4⟩:=hr
  have hq:∀ ad m q,(Op.equal t (.slice ad m q) (.slice none 0 0)).run P w=.ok ad.isNone w:=fun ad m q=>ss ht w ad m q
  have b0:ac.eval (.const (.slice none 0 0))=.slice none 0 0:=rfl
  by_cases he:xs=[]
  have hv:=h4 he
  refine⟨.bool (decide (xs≠[])),?_,rfl⟩
  simp only[execOp,hv,b0]
  simp[eqGuard,binOp,hq,he,Result.andThen]
  rcases h3 with ⟨_,h5⟩|⟨b,o,cp,hv,_⟩|⟨_,_,h5⟩
  exact absurd (List.map_eq_nil_iff.1 h5) he
  refine⟨.bool (decide (xs≠[])),?_,rfl⟩
  simp only[execOp,hv,b0]
  simp[eqGuard,binOp,hq,he,Result.andThen]
  exact absurd (List.map_eq_nil_iff.1 h5) he
theorem gA {ps:List CP} (hx:s.ev x=some (.b (.dc ps))):bG P E n ⟨dst,.nilCheck x,ty,pos,after,g⟩ s (s.put n dst (.b (.dc ps))) :=
 bG.val (o:=⟨dst,.nilCheck x,ty,pos,after,g⟩) fun ac w h ρ hw hs=>by
  obtain⟨b,o,hv,hr⟩:=(bb hs hx:BV.rel h ρ (.dc ps) _)
  exact⟨_,by simp only[execOp,hv];rfl,b,o,rfl,hr⟩
theorem AN {k size bytes:Nat} {e:TypeId} {zs:List CP} {news:List (List CP)} (ht:lW P t e size bytes zs) (hz:0<size) (hb:news.length*bytes<=140737488355328) (hm:news.length<=9223372036854775807)
 (hy:s.ev y=some (.b (.one (.sl size news)))) (hfx:n.fix.contains k=false) (hnu:gI k s.own=true:=by rfl) :
 bG P E n ⟨dst,.call ⟨.builtin .append,#[.const (.slice none 0 0),y],#[t,t]⟩,ty,pos,after,g⟩ s ((⟨eu k s.slots,ins k (.row e size news) s.own⟩:St).put n dst (.b (.row k))) :=
 bG.make (hfx:=hfx) (hnu:=hnu) (o:=⟨dst,.call ⟨.builtin .append,#[.const (.slice none 0 0),y],#[t,t]⟩,ty,pos,after,g⟩) fun ac w h ρ hw hs=>by
  have hu:=(bb hs hy:(CP.sl size news).rel h _)
  obtain⟨v',w',b0,h1,h2,h3,h4,h5,h6⟩:=ui (ρ:=ρ) (ty:=ty) (v0:=.slice none 0 0) (es:=[]) ht ⟨fun ps hps=>by simp at hps,hz,[],⟨by simp,.inl ⟨rfl,rfl⟩⟩,.nil⟩ rfl (Src.of_sl hw hu) (by simpa using hb) (by rw[dn];simpa using hm)
  refine⟨v',v',w',none,?_,fun b hb=>by simp at hb,h1,h2,h3,fun b hb hne=>h4 b hb (by simp[bC]),?_,fun b hb=>?_,(eQ _ _ _).symm⟩
  rw[execOp_builtin,builtin_append]
  simp[show ac.eval (.const (.slice none 0 0))=.slice none 0 0 from rfl,b0]
  have h7:(OC.row e size news).ok h ρ v' w':=by simpa using h5
  exact h7
  rcases h6 b hb with h|h
  simp[bC] at h
  exact .inr h
end
end Go.Sk
namespace Go.Sk
open Go Go.BigFrame
def xM {α:Type} (xs ys:List α) (j:Int):Option (List α):=if 0<=j/\0<ys.length/\j.toNat+ys.length<=xs.length/\xs.length<=9223372036854775807 then some (bj xs j.toNat ys) else none
theorem yO {α:Type} {xs ys z:List α} {j:Int} (h:xM xs ys j=some z):(0<=j/\0<ys.length/\j.toNat+ys.length<=xs.length/\xs.length<=9223372036854775807)/\bj xs j.toNat ys=z:=by
 unfold xM at h;split at h
 next hh=>exact⟨hh,by simpa using h⟩
 simp at h
theorem cpy_pos {α:Type} {xs ys z:List α} {j:Int} {enc:α->List CP} (h:xM xs ys j=some z):0<(xs.map enc).length:=by
 rw[List.length_map];have:=(yO h).1;omega
theorem Dv {α:Type} {xs ys z:List α} {j:Int} {enc:α->List CP} (h:xM xs ys j=some z):(xs.map enc).length=(z.map enc).length:=by
 obtain⟨h1,rfl⟩:=yO h
 simp only[List.length_map,bj,List.length_append,List.length_take,List.length_drop]
 omega
section
variable {P:Program} {TB:bp} {E:Env TB} {n:Sh} {s s':St} {dst:Option Nat} {t ty yt:TypeId} {pos:String} {after:Array Edge} {g:Option (Nat×Bool)} {x y z c:Operand} {ops:Array Oper} {l:List Oper} {Q:cN} {cd:Code}
theorem ab.iC (k:Nat) {size:Nat} {T:TypeId} {es:List (List CP)} (hk:lk s.own k=some (.row T size es)) (hne:0<es.length) (h:∀ cap:Nat,es.length<=cap->cap<=9223372036854775807->ab P E n cd ⟨Cz k size es.length cap s.slots,s.own⟩ Q):ab P E n cd s Q:=fun a w hr=>by
 obtain⟨cap,h1,h2,hr'⟩:=hr.iC hk hne
 exact h cap h1 h2 a w hr'
theorem ab.px (i k:Nat) {size m cap:Nat} {T:TypeId} {es:List (List CP)} (hi:s.get i=some (.b (.part k size 0 m cap))) (hk:lk s.own k=some (.row T size es)) (hm:m=es.length) (h:ab P E n cd ⟨(i,.b (.row k))::del i s.slots,s.own⟩ Q):ab P E n cd s Q:=fun a w hr=>h a w (hr.px hi hk hm)
theorem zn {α:Type} {enc:α->List CP} {xs ys r:List α} {j:Int} {k size bytes cap:Nat} {e:TypeId} {zs:List CP} {yo:Operand} {kk:IntKind} (ht:lW P t e size bytes zs) (h:xM xs ys j=some r) (hc:(xs.map enc).length<=cap) (hx:s.ev x=some (.b (.part k size 0 (xs.map enc).length cap))) (hy:s.ev yo=some (.b (.one (.int kk j)))) :
 bG P E n ⟨dst,.slice t x (some yo) none none,ty,pos,after,g⟩ s (s.put n dst (.b (.part k size (0+j.toNat) ((xs.map enc).length-j.toNat) cap))):=by
 have h1:=(yO h).1
 refine AH ht h1.1 ?_ ?_ hx hy
 rw[List.length_map];omega
 rw[List.length_map] at hc;omega
theorem zq {k size bytes lo dlen cap m:Nat} {T e:TypeId} {zs:List CP} {es es' news:List (List CP)} (ht:lW P t e size bytes zs) (hk:lk s.own k=some (.row T size es)) (hlo:lo<=es.length) (c0:lo+m<=cap) (he:bj es lo news=es') (hx:s.ev x=some (.b (.part k size lo dlen cap))) (b0:(bj es lo news).length=es.length) (b1:0<es.length) (hfx:n.fix.contains k=false) (hnu:gI k s.own=true)
 (hm:news.length=m) (hml:m<=9223372036854775807)
 (c1:∀ (ac:Act) (w:World) (h:PH) (ρ:RM),WR E n s.own h ρ w->bX h ρ s.slots ac.tmps->∃ sb so slen sc cs,ac.eval y=.slice (some ⟨sb,so,none⟩) slen sc/\min slen dlen=m/\cR size news/\aQ h news.flatten cs/\∀ j u,cs[j]?=some u->w.cell? ⟨sb,so+j,none⟩=some u) :
 bG P E n ⟨dst,.call ⟨.builtin .copy,#[x,y],#[t,yt]⟩,ty,pos,after,g⟩ s ((⟨s.slots,ins k (.row T size es') s.own⟩:St).put n dst (I (m:Int))):=by
 intro a w hr next Q b3
 obtain⟨hdf,hn,h,ρ,hw,hs⟩:=hr
 obtain⟨b,nn,hρ,hv,hle⟩:=(bb hs hx:BV.rel h ρ (.part k size lo dlen cap) _)
 obtain⟨sb,so,slen,sc,cs,hy,c2,hun,hcr,b4⟩:=c1 a w h ρ hw hs
 obtain⟨w',c3,h1,h2,h3,h4,h5⟩:=Es (ty:=ty) (yt:=yt) (dcap:=cap-lo) (sc:=sc) hw ht hk hρ (by rw[c2,hm]) hun hcr b4 hlo (by rw[hm];exact c0)
 have hst:=hw.step (w':=w') k (.slice (some ⟨b,0,none⟩) (bj es lo news).length cap) (.row T size (bj es lo news)) (some b) (fun b' e=>by cases e;exact⟨_,cQ hk,by rw[hρ];rfl⟩) (by omega) h2 h3
  (fun b' _ hne=>h4 b' (fun e=>hne (by rw[e]))) h5 (fun b' hb'=>by simp[bC] at hb';exact .inl (by rw[hb'])) (.inr fun e=>by simp at hfx;exact hfx e) (.inr hnu)
 have b5:(execOp a.eval (⟨dst,.call ⟨.builtin .copy,#[x,y],#[t,yt]⟩,ty,pos,after,g⟩:Oper)).run P w=.ok (.value (.int .i64 m)) w':=by
  rw[execOp_builtin]
  show Sem.run _ _ _=_
  simp only[builtin,List.map_toArray,List.map_cons,List.map_nil,hv,hy]
  rw[Sem.run_bind,c3,hm]
  rfl
 unfold Oper.wp
 rw[b5]
 subst he
 have hup:s8 ρ k (.slice (some ⟨b,0,none⟩) (bj es lo news).length cap)=ρ:=by
  obtain⟨_,_,hf⟩:=lN hw hk
  rcases hf with ⟨_,h6⟩|⟨b2,cap2,cur,h6,_⟩
  rw[h6] at b1;simp at b1
  rw[hρ] at h6
  simp only[Value.slice.injEq,Option.some.injEq,Addr.mk.injEq] at h6
  funext q
  simp only[s8]
  split
  next e=>subst e;rw[hρ,b0,h6.2.1]
  rfl
 rw[hup] at hst
 refine b3 _ _ (R.put (s:=⟨s.slots,ins k (.row T size (bj es lo news)) s.own⟩) hdf hn hst (fun j z hz=>?_) ⟨rfl,rH (by rw[dn];exact hml)⟩)
 obtain⟨v,hv',c4⟩:=hs j z hz
 exact⟨v,hv',c4⟩
theorem AK {k size bytes lo dlen cap:Nat} {T e:TypeId} {zs:List CP} {es es' news:List (List CP)} (ht:lW P t e size bytes zs) (hlo:lo<=es.length) (b2:lo+news.length<=cap) (hd:news.length<=dlen) (b1:0<news.length) (hx:s.ev x=some (.b (.part k size lo dlen cap))) (hk:lk s.own k=some (.row T size es)) (hy:s.ev y=some (.b (.one (.sl size news)))) (he:bj es lo news=es') (b0:(bj es lo news).length=es.length) (b3:0<es.length) (hfx:n.fix.contains k=false) (hml:news.length<=9223372036854775807) (hnu:gI k s.own=true:=by rfl) :
 bG P E n ⟨dst,.call ⟨.builtin .copy,#[x,y],#[t,yt]⟩,ty,pos,after,g⟩ s ((⟨s.slots,ins k (.row T size es') s.own⟩:St).put n dst (I (news.length:Int))) :=
 zq ht hk hlo b2 he hx b0 b3 hfx hnu rfl hml fun ac w h ρ hw hs=>by
  obtain⟨hu,hz,hf⟩:=(bb hs hy:(CP.sl size news).rel h _)
  rcases hf with ⟨_,b4⟩|⟨sb,so,sc,hv,h1,h2,h3⟩|⟨_,_,b4⟩
  rw[b4] at b1;simp at b1
  obtain⟨cs,hc1,hc2⟩:=h3.list
  exact⟨sb,so,news.length,sc,cs,hv,by omega,hu,hc1,fun j u hu=>hw.agree.cell (hc2 j u hu) (hc1.one u (List.mem_of_getElem? hu))⟩
  rw[b4] at b1;simp at b1
theorem op_cpy {α:Type} {enc:α->List CP} {xs ys r:List α} {j:Int} {k size bytes cap:Nat} {T e:TypeId} {zs:List CP} (ht:lW P t e size bytes zs) (h:xM xs ys j=some r) (hc:(xs.map enc).length<=cap) (hx:s.ev x=some (.b (.part k size (0+j.toNat) ((xs.map enc).length-j.toNat) cap))) (hk:lk s.own k=some (.row T size (xs.map enc))) (hy:s.ev y=some (.b (.one (.sl size (ys.map enc)))))
 (hfx:n.fix.contains k=false) (hnu:gI k s.own=true:=by rfl) :
 bG P E n ⟨dst,.call ⟨.builtin .copy,#[x,y],#[t,yt]⟩,ty,pos,after,g⟩ s ((⟨s.slots,ins k (.row T size (r.map enc)) s.own⟩:St).put n dst (I (ys.length:Int))):=by
 obtain⟨h1,rfl⟩:=yO h
 rw[List.length_map] at hc
 have:=AK (E:=E) (n:=n) (dst:=dst) (ty:=ty) (yt:=yt) (pos:=pos) (after:=after) (g:=g) (es':=(bj xs j.toNat ys).map enc) ht (by rw[List.length_map];omega) (by rw[List.length_map];omega) (by rw[List.length_map,List.length_map];omega) (by rw[List.length_map];exact h1.2.1) hx hk hy (by rw[Nat.zero_add];exact vv _ _ _ _) (by rw[Nat.zero_add,vv];exact (Dv (by unfold xM;rw[if_pos h1])).symm) (by rw[List.length_map];omega) hfx (by rw[List.length_map];omega) hnu
 rw[List.length_map] at this
 exact this
structure Am (P:Program) (t:TypeId) (pl:List (Nat×Nat)) (zs:List CP):Prop where
 info:∃ it z fs,P.info? t=some it/\it.zero=some z/\(∀ h,aQ h zs z.cells.toList)/\P.underlying t=some (.struct fs)/\fs.toList.mapM (fun f=>(P.info? f.type).map fun i=>(f.offset,i.size))=some pl
theorem Ce {pl:List (Nat×Nat)} {zs qs:List CP} {parts:Array (Nat×Operand)} {cps:List (Nat×List CP)} (ht:Am P t pl zs) (hp:mg s parts.toList=some cps) (hf:th (pl.toArray[·]?) zs cps=some qs) :
 bG P E n ⟨dst,.build t parts,ty,pos,after,g⟩ s (s.put n dst (.b (.agg qs))) :=
 bG.val (o:=⟨dst,.build t parts,ty,pos,after,g⟩) fun ac w h ρ hw hs=>by
  obtain⟨it,z,fs,h1,h2,h3,h4,h5⟩:=ht.info
  obtain⟨cs,hc1,hc2⟩:=oB hs (pl.toArray[·]?) parts.toList cps zs qs z.cells hp hf (h3 h)
  refine⟨.agg cs,?_,cs,rfl,hc2⟩
  have hb:P.built t (parts.map fun (i,x)=>(i,ac.eval x)).toList=some cs:=by
   simp only[Program.built,h1,h4,h2,h5]
   rw[← hc1]
   simp
  have:=run_build (P:=P) w t _ cs hb
  simp only[execOp]
  simp[this]
theorem Gm:bG P E n ⟨dst,.assign (.const .nilIface),ty,pos,after,g⟩ s (s.put n dst (.b (.one (.raw .nilIface)))) :=
 bG.val (o:=⟨dst,.assign (.const .nilIface),ty,pos,after,g⟩) fun ac w h ρ hw hs=>⟨.nilIface,rfl,rfl,rfl⟩
theorem w7 {h:PH} {k:IntKind} (hd:lG k 0):(CP.int k 0).rel h (.int k 0):=⟨rfl,hd⟩
theorem Ak {h:PH} {v:Value} (hv:v.oneCell'=true):(CP.raw v).rel h v:=⟨rfl,hv⟩
end
end Go.Sk
namespace Go.Sk
open Go Go.BigFrame Go.Lib Go.Proofs Go.RowKit
structure TyByte (P:Program) (e:TypeId):Prop where
 info:∃ i,P.info? e=some i/\i.zero=some (.int .u8 0)/\i.size=1/\i.bytes=1
section
variable {P:Program} {TB:bp} {E:Env TB} {n:Sh} {s s':St} {dst:Option Nat} {t u ty yt:TypeId} {pos:String} {after:Array Edge} {g:Option (Nat×Bool)} {x y z c:Operand} {ops:Array Oper} {l:List Oper} {Q:cN} {cd:Code}
end
end Go.Sk
namespace Go.Sk
open Go
section
variable {σ σ1 σ2 σ3 τ:Type}
theorem ar.up1 {A:Int->Option (Int⊕τ)} {g:τ} {n:Int} {Q:τ->Prop} {F:Nat} (N:Nat) (I:Nat->Prop) (hn:n=N) (hF:N<F) (h0:I 0)
 (step:∀ k:Nat,k<N->I k->ar (A k) fun o=>(o=.inl ((k:Int)+1)/\I (k+1))∨∃ t,o=.inr t/\Q t) (fin:I N->Q g) :
 ar (iter F (fun i=>if decide (i<n)=true then A i else Option.some (.inr g)) 0) Q:=by
 refine ar.rounds (n:=N) (I:=fun k s=>s=(k:Int)/\I k) hF ⟨rfl,h0⟩ ?_
 rintro k s hk ⟨rfl,hI⟩
 refine ar.ite (fun hc=>?_) (fun hc=>?_)
 have hc:=of_decide_eq_true hc
 refine (step k (by omega) hI).mono fun o ho=>?_
 rcases ho with ⟨rfl,h⟩|h
 exact .inl ⟨_,rfl,⟨by push_cast;rfl,h⟩,by omega⟩
 exact .inr h
 have hc:=of_decide_eq_false hc
 have:k=N:=by omega
 subst this
 exact ar.some (.inr ⟨_,rfl,fin hI⟩)
end
theorem k6 (m:uy) (k v j:Int):jF (uu m k v) j=(decide (j=k)||jF m j):=by
 unfold jF;rw[uO];by_cases h:j=k<;>simp[h]
theorem iA (m:uy) (k v j:Int):xK (uu m k v) j=if j=k then v else xK m j:=by
 unfold xK;rw[uO];by_cases h:j=k<;>simp[h]
theorem yk (a b j:Int) (m:uy):jF ((a,b)::m) j=(decide (j=a)||jF m j):=by
 unfold jF;show (if j=a then some b else sF m j).isSome=_
 by_cases h:j=a<;>simp[h]
theorem z8 (j:Int):∀ m:uy,jF m j=true↔j∈m.map (·.1)
 | []=>by simp[jF,sF]
 | (a,b)::m=>by rw[yk];simp[z8 j m]
theorem yh (k v:Int):∀ m:uy,(uu m k v).map (·.1)=if jF m k then m.map (·.1) else m.map (·.1)++[k]
 | []=>by simp[jF,sF,uu]
 | (a,b)::m=>by
  rw[yk]
  unfold uu
  by_cases h:k=a
  simp[h]
  rw[if_neg h,List.map_cons,yh k v m]
  by_cases h2:jF m k<;>simp[h,h2]
abbrev Asd (l:List Int):Prop:=l.Pairwise (·<·)
def xN {α:Type} (κ:α->Int) (n:α) (l out:List α) (placed:Bool):Prop :=
 ∃ A B,l=A++B/\(∀ a∈A,κ a<κ n)/\(∀ b∈B,κ n<κ b)/\((placed=false/\B=[]/\out=A)∨(placed=true/\B≠[]/\out=A++n::B))
theorem xN.zero {α:Type} {κ:α->Int} {n:α}:xN κ n [] [] false:=⟨[],[],rfl,by simp,by simp,.inl ⟨rfl,rfl,rfl⟩⟩
theorem xN.put {α:Type} {κ:α->Int} {n x:α} {l out:List α} (h:xN κ n l out false) (hx:κ n<κ x):xN κ n (l++[x]) (out++[n]++[x]) true:=by
 obtain⟨A,B,hl,hA,hB,h|h⟩:=h
 obtain⟨_,h2,h3⟩:=h
 subst h2 h3 hl
 refine⟨out,[x],by simp,hA,by simp[hx],.inr ⟨rfl,by simp,by simp⟩⟩
 exact absurd h.1 (by simp)
theorem xN.next {α:Type} {κ:α->Int} {n x:α} {l out:List α} {p:Bool} (h:xN κ n l out p) (hp:p=true∨κ x<=κ n) (hne:κ x≠κ n) (hs:∀ a∈l,κ a<κ x):xN κ n (l++[x]) (out++[x]) p:=by
 obtain⟨A,B,rfl,hA,hB,h|h⟩:=h
 obtain⟨rfl,rfl,rfl⟩:=h
 refine⟨out++[x],[],by simp,fun a ha=>?_,by simp,.inl ⟨rfl,rfl,rfl⟩⟩
 rcases List.mem_append.1 ha with ha|ha
 exact hA a ha
 rw[List.mem_singleton.1 ha]
 rcases hp with hp|hp
 exact absurd hp (by simp)
 omega
 obtain⟨rfl,b0,rfl⟩:=h
 refine⟨A,B++[x],by simp,hA,fun b hb=>?_,.inr ⟨rfl,by simp,by simp⟩⟩
 rcases List.mem_append.1 hb with hb|hb
 exact hB b hb
 rw[List.mem_singleton.1 hb]
 obtain⟨b,B',rfl⟩:=List.exists_cons_of_ne_nil b0
 have h1:=hB b (List.mem_cons_self ..)
 have h2:=hs b (by simp)
 omega
theorem xN.fin {α:Type} {κ:α->Int} {n:α} {l out:List α} {p:Bool} (h:xN κ n l out p) (hs:l.Pairwise fun a b=>κ a<κ b) :
 (if !p then out++[n] else out).Pairwise (fun a b=>κ a<κ b)/\(if !p then out++[n] else out).Perm (n::l):=by
 obtain⟨A,B,rfl,hA,hB,h⟩:=h
 have key:(A++n::B).Pairwise (fun a b=>κ a<κ b):=by
  rw[List.pairwise_append] at hs ⊢
  refine⟨hs.1,List.pairwise_cons.2 ⟨hB,hs.2.1⟩,fun a ha b hb=>?_⟩
  rcases List.mem_cons.1 hb with rfl|hb
  exact hA a ha
  exact hs.2.2 a ha b hb
 rcases h with ⟨rfl,rfl,rfl⟩|⟨rfl,_,rfl⟩
 refine⟨by simpa using key,?_⟩
 simp only[Bool.not_false,if_true,List.append_nil]
 exact List.perm_append_singleton n out
 refine⟨by simpa using key,?_⟩
 simp only[Bool.not_true,if_false]
 exact List.perm_middle
inductive tc (P:Int->Int->Prop):Int->Int->Prop
 | rfl (a):tc P a a
 | of {a b}:P a b->tc P a b
 | symm {a b}:tc P a b->tc P b a
 | trans {a b c}:tc P a b->tc P b c->tc P a c
theorem tc.lift {P:Int->Int->Prop} {E:Int->Int->Prop} (h1:∀ a,E a a) (h2:∀ a b,E a b->E b a) (h3:∀ a b c,E a b->E b c->E a c) (h:∀ a b,P a b->E a b) {a b:Int} (hc:tc P a b):E a b:=by
 induction hc with
 | rfl a=>exact h1 a
 | of h'=>exact h _ _ h'
 | symm _ ih=>exact h2 _ _ ih
 | trans _ _ i1 i2=>exact h3 _ _ _ i1 i2
theorem tc.mono {P Q:Int->Int->Prop} (h:∀ a b,P a b->tc Q a b) {a b:Int} (hc:tc P a b):tc Q a b :=
 hc.lift (fun a=>.rfl a) (fun _ _ h=>.symm h) (fun _ _ _ h1 h2=>.trans h1 h2) h
theorem tc.congr {P Q:Int->Int->Prop} (h:∀ a b,P a b->tc Q a b) (h':∀ a b,Q a b->tc P a b) (a b:Int):tc P a b↔tc Q a b:=⟨.mono h,.mono h'⟩
def jn (r:Int->Int) (x y z:Int):Int:=if r z=max (r x) (r y) then min (r x) (r y) else r z
structure UpM (m:uy) (r:Int->Int):Prop where
 out:∀ x,jF m x=false->r x=x
 has:∀ x,jF m x=true->jF m (xK m x)=true
 le:∀ x,jF m x=true->xK m x<=x
 step:∀ x,jF m x=true->r (xK m x)=r x
 fix:∀ x,jF m x=true->xK m x=x->r x=x
 low:∀ x,jF m x=true->r x<=x/\jF m (r x)=true/\xK m (r x)=r x
 nd:(m.map (·.1)).Nodup
theorem UpM.nil:UpM [] (fun x=>x):=⟨fun _ _=>rfl,by simp[jF,sF],by simp[jF,sF],fun _ _=>by simp_all [jF,sF],fun _ _ _=>rfl,by simp[jF,sF],by simp⟩
theorem UpM.idem {m:uy} {r:Int->Int} (h:UpM m r) (z:Int):r (r z)=r z:=by
 cases hz:jF m z with
 | false=>rw[h.out z hz,h.out z hz]
 | true=>
  obtain⟨_,h2,h3⟩:=h.low z hz
  exact h.fix _ h2 h3
theorem xt {m:uy} {k v:Int} (h:(m.map (·.1)).Nodup):((uu m k v).map (·.1)).Nodup:=by
 rw[yh]
 split
 exact h
 next hn=>
  rw[List.nodup_append]
  refine⟨h,by simp,fun a ha b hb=>?_⟩
  rw[List.mem_singleton.1 hb]
  rintro rfl
  exact hn ((z8 a m).2 ha)
theorem UpM.add {m:uy} {r:Int->Int} (h:UpM m r) {x:Int} (hx:jF m x=false):UpM (uu m x x) r:=by
 have e:=h.out x hx
 have hne:∀ z,jF m z=true->z≠x:=fun z hz e=>by rw[e,hx] at hz;cases hz
 refine⟨fun z hz=>?_,fun z hz=>?_,fun z hz=>?_,fun z hz=>?_,fun z hz=>?_,fun z hz=>?_,xt h.nd⟩
 rw[k6,Bool.or_eq_false_iff] at hz
 exact h.out z hz.2
 rw[k6] at hz ⊢
 rw[iA]
 by_cases b0:z=x
 simp[b0]
 simp only[b0,decide_false,Bool.false_or] at hz
 simp[b0,h.has z hz]
 rw[k6] at hz
 rw[iA]
 by_cases b0:z=x
 simp[b0]
 simp only[b0,decide_false,Bool.false_or] at hz
 simp[b0,h.le z hz]
 rw[k6] at hz
 rw[iA]
 by_cases b0:z=x
 simp[b0]
 simp only[b0,decide_false,Bool.false_or] at hz
 simp[b0,h.step z hz]
 rw[k6] at hz
 rw[iA]
 by_cases b0:z=x
 simp[b0,e]
 simp only[b0,decide_false,Bool.false_or] at hz
 simpa[b0] using h.fix z hz
 rw[k6] at hz ⊢
 rw[iA]
 by_cases b0:z=x
 simp[b0,e]
 simp only[b0,decide_false,Bool.false_or] at hz
 obtain⟨h1,h2,h3⟩:=h.low z hz
 simp[h1,h2,hne _ h2,h3]
theorem UpM.join {m:uy} {r:Int->Int} (h:UpM m r) {x y:Int} (hx:jF m x=true) (hy:jF m y=true) (hne:r x≠r y):UpM (uu m (max (r x) (r y)) (min (r x) (r y))) (jn r x y):=by
 obtain⟨a1,a2,a3⟩:=h.low x hx
 obtain⟨b1,b2,b3⟩:=h.low y hy
 have ia:=h.idem x
 have ib:=h.idem y
 have hM:∃ M N,max (r x) (r y)=M/\min (r x) (r y)=N/\N<M/\jF m M=true/\jF m N=true/\xK m M=M/\xK m N=N/\r M=M/\r N=N:=by
  by_cases hl:r x<=r y
  exact⟨r y,r x,Int.max_eq_right hl,Int.min_eq_left hl,by omega,b2,a2,b3,a3,ib,ia⟩
  have hl':r y<=r x:=by omega
  exact⟨r x,r y,Int.max_eq_left hl',Int.min_eq_right hl',by omega,a2,b2,a3,b3,ia,ib⟩
 obtain⟨M,N,eM,eN,hlt,hM,hN,gM,gN,rM,rN⟩:=hM
 have ej:∀ z,jn r x y z=if r z=M then N else r z:=fun z=>by unfold jn;rw[eM,eN]
 rw[eM,eN]
 have hh:∀ z,jF (uu m M N) z=jF m z:=fun z=>by
  rw[k6];by_cases e:z=M<;>simp[e,hM]
 refine⟨fun z hz=>?_,fun z hz=>?_,fun z hz=>?_,fun z hz=>?_,fun z hz=>?_,fun z hz=>?_,xt h.nd⟩
 rw[hh] at hz
 have:r z=z:=h.out z hz
 rw[ej,this,if_neg]
 rintro rfl
 rw[hM] at hz;cases hz
 rw[hh] at hz ⊢
 rw[iA]
 split
 exact hN
 exact h.has z hz
 rw[hh] at hz
 rw[iA]
 split
 omega
 exact h.le z hz
 rw[hh] at hz
 rw[iA,ej,ej]
 split
 next e=>rw[e,rN,rM,if_pos rfl];simp
 rw[h.step z hz]
 rw[hh] at hz
 rw[iA,ej]
 split
 next e=>intro e2;omega
 next e=>
  intro e2
  have:=h.fix z hz e2
  rw[this,if_neg e]
 rw[hh] at hz
 rw[hh,ej,iA]
 obtain⟨h1,h2,h3⟩:=h.low z hz
 by_cases e:r z=M
 rw[if_pos e,if_neg (by omega)]
 exact⟨by omega,hN,gN⟩
 rw[if_neg e,if_neg e]
 exact⟨h1,h2,h3⟩
def hd (c:List Int):Int:=c.headD 0
structure IsPt (P:Int->Int->Prop) (D:Int->Prop) (out:List (List Int)):Prop where
 asd:∀ c∈out,c≠[]/\Asd c
 dj:out.Pairwise fun c d=>∀ z∈c,z ∉ d
 dom:∀ a,D a↔∃ c∈out,a∈c
 con:∀ c∈out,∀ a∈c,∀ b∈c,tc P a b
 cl:∀ c∈out,∀ a b,P a b->(a∈c↔b∈c)
abbrev HdL (out:List (List Int)):Prop:=out.Pairwise fun c d=>hd c<hd d
structure Part (P:Int->Int->Prop) (D:Int->Prop) (out:List (List Int)):Prop extends IsPt P D out where
 srt:HdL out
theorem IsPt.cls {P:Int->Int->Prop} {D:Int->Prop} {out:List (List Int)} (h:IsPt P D out) {c:List Int} (hc:c∈out) {a b:Int} (hab:tc P a b):a∈c↔b∈c :=
 hab.lift (E:=fun a b=>a∈c↔b∈c) (fun _=>.rfl) (fun _ _ h=>h.symm) (fun _ _ _ h1 h2=>h1.trans h2) (h.cl c hc)
theorem IsPt.mem {P:Int->Int->Prop} {D:Int->Prop} {out:List (List Int)} (h:IsPt P D out) {c:List Int} (hc:c∈out) {a:Int} (ha:a∈c) (b:Int):b∈c↔tc P a b :=
 ⟨fun hb=>h.con c hc a ha b hb,fun hb=>(h.cls hc hb).1 ha⟩
theorem IsPt.congr {P Q:Int->Int->Prop} {D E:Int->Prop} {out:List (List Int)} (h:IsPt P D out) (hP:∀ a b,tc P a b↔tc Q a b) (hD:∀ a,D a↔E a):IsPt Q E out :=
 ⟨h.asd,h.dj,fun a=>(hD a).symm.trans (h.dom a),fun c hc a ha b hb=>(hP _ _).1 (h.con c hc a ha b hb),fun c hc a b hab=>h.cls hc ((hP _ _).2 (.of hab))⟩
theorem Part.congr {P Q:Int->Int->Prop} {D E:Int->Prop} {out:List (List Int)} (h:Part P D out) (hP:∀ a b,tc P a b↔tc Q a b) (hD:∀ a,D a↔E a):Part Q E out :=
 { toIsPt:=h.toIsPt.congr hP hD,srt:=h.srt }
theorem IsPt.add {P Q:Int->Int->Prop} {D E:Int->Prop} {out:List (List Int)} (h:IsPt P D out) {x y:List Int} (hPD:∀ a b,P a b->D a/\D b) (hx:x≠[]) (hy:Asd y)
 (b0:∀ z,z∈y↔z∈x∨∃ c∈out,(∃ u∈c,u∈x)/\z∈c) (hQ:∀ a b,Q a b↔P a b∨(a∈x/\b∈x)) (hE:∀ a,E a↔D a∨a∈x)
 {rest:List (List Int)} (b1:rest=out.filter fun c=>!(c.any fun u=>x.contains u)):IsPt Q E (rest++[y]):=by
 have hr:∀ c,c∈rest↔c∈out/\∀ u∈c,u ∉ x:=fun c=>by
  rw[b1,List.mem_filter];simp
 have up:∀ {a b},tc P a b->tc Q a b:=fun h=>h.mono fun a b h=>.of ((hQ a b).2 (.inl h))
 have inx:∀ z∈y,∃ u∈x,tc Q u z:=fun z hz=>by
  rcases (b0 z).1 hz with hz|⟨c,hc,⟨u,hu,b2⟩,hzc⟩
  exact⟨z,hz,.rfl z⟩
  exact⟨u,b2,up (h.con c hc u hu z hzc)⟩
 refine⟨fun c hc=>?_,?_,fun a=>?_,fun c hc a ha b hb=>?_,fun c hc a b hab=>?_⟩
 rcases List.mem_append.1 hc with hc|hc
 exact h.asd c ((hr c).1 hc).1
 rw[List.mem_singleton.1 hc]
 obtain⟨u,x',rfl⟩:=List.exists_cons_of_ne_nil hx
 exact⟨List.ne_nil_of_mem ((b0 u).2 (.inl (List.mem_cons_self ..))),hy⟩
 refine List.pairwise_append.2 ⟨?_,by simp,fun c hc d hd z hz hzd=>?_⟩
 rw[b1];exact h.dj.filter _
 rw[List.mem_singleton.1 hd] at hzd
 obtain⟨b5,b3⟩:=(hr c).1 hc
 rcases (b0 z).1 hzd with hzx|⟨d',hd',⟨u,hu,b2⟩,c0⟩
 exact b3 z hz hzx
 have:u∈c:=(h.cls b5 (h.con d' hd' z c0 u hu)).1 hz
 exact b3 u this b2
 rw[hE a,h.dom a]
 constructor
 rintro (⟨c,hc,ha⟩|ha)
 by_cases hm:∃ u∈c,u∈x
 exact⟨y,by simp,(b0 a).2 (.inr ⟨c,hc,hm,ha⟩)⟩
 exact⟨c,List.mem_append.2 (.inl ((hr c).2 ⟨hc,fun u hu b2=>hm ⟨u,hu,b2⟩⟩)),ha⟩
 exact⟨y,by simp,(b0 a).2 (.inl ha)⟩
 rintro⟨c,hc,ha⟩
 rcases List.mem_append.1 hc with hc|hc
 exact .inl ⟨c,((hr c).1 hc).1,ha⟩
 rw[List.mem_singleton.1 hc] at ha
 rcases (b0 a).1 ha with ha|⟨d,hd,_,c1⟩
 exact .inr ha
 exact .inl ⟨d,hd,c1⟩
 rcases List.mem_append.1 hc with hc|hc
 exact up (h.con c ((hr c).1 hc).1 a ha b hb)
 rw[List.mem_singleton.1 hc] at ha hb
 obtain⟨u,hu,h1⟩:=inx a ha
 obtain⟨v,hv,h2⟩:=inx b hb
 exact .trans (.symm h1) (.trans (.of ((hQ u v).2 (.inr ⟨hu,hv⟩))) h2)
 rcases List.mem_append.1 hc with hc|hc
 obtain⟨b5,b3⟩:=(hr c).1 hc
 rcases (hQ a b).1 hab with hp|⟨ha,hb⟩
 exact h.cl c b5 a b hp
 exact⟨fun b4=>absurd ha (b3 a b4),fun hbc=>absurd hb (b3 b hbc)⟩
 rw[List.mem_singleton.1 hc]
 rcases (hQ a b).1 hab with hp|⟨ha,hb⟩
 have hcl:∀ {a b},tc P a b->(∃ c∈out,a∈c)->a∈y->b∈y:=fun {a b} hp hDa ha=>by
  rcases (b0 a).1 ha with hax|⟨d,hd,hm,c1⟩
  obtain⟨c,hc,b4⟩:=hDa
  exact (b0 b).2 (.inr ⟨c,hc,⟨a,b4,hax⟩,(h.cls hc hp).1 b4⟩)
  exact (b0 b).2 (.inr ⟨d,hd,hm,(h.cls hd hp).1 c1⟩)
 obtain⟨da,db⟩:=hPD a b hp
 exact⟨hcl (.of hp) ((h.dom a).1 da),hcl (.symm (.of hp)) ((h.dom b).1 db)⟩
 exact⟨fun _=>(b0 b).2 (.inl hb),fun _=>(b0 a).2 (.inl ha)⟩
end Go.Sk
namespace Go.Sk
open Go
section
variable {α σ σ1 σ2 σ3 τ:Type} [Inhabited α]
theorem idx?_at (pre post:List α) (x:α):aS (pre++x::post) (pre.length:Int)=Option.some x:=by
 rw[rI (by omega) (by simp only[List.length_append,List.length_cons];omega),vX _ _ (by simp)]
 simp
private theorem FK {l:List α} {S:Type} {body:S×Int->Option ((S×Int)⊕τ)} {Q:τ->Prop} {F:Nat} {s0:S} (I:List α->S->Prop) (hF:l.length<F) (hL:l.length<=9223372036854775807) (h0:I [] s0)
 (step:∀ pre x post s,l=pre++x::post->aS l (pre.length:Int)=Option.some x->I pre s->ar (body (s,(pre.length:Int))) fun o=>(∃ s',o=.inl (s',i64.wrap ((pre.length:Int)+1))/\I (pre++[x]) s')∨∃ t,o=.inr t/\Q t)
 (fin:∀ s,I l s->ar (body (s,(l.length:Int))) fun o=>∃ t,o=.inr t/\Q t):ar (iter F body (s0,0)) Q:=by
 refine ar.rounds (n:=l.length) (I:=fun k s=>k<=l.length/\s.2=(k:Int)/\I (l.take k) s.1) hF ⟨Nat.zero_le _,rfl,by simpa using h0⟩ ?_
 rintro k ⟨s,i⟩ hk ⟨hk',hi,hI⟩
 simp only at hi hI
 subst hi
 by_cases hc:k<l.length
 have e:l=l.take k++l[k]::l.drop (k+1):=by rw[← List.drop_eq_getElem_cons hc,List.take_append_drop]
 have hl:(l.take k).length=k:=by rw[List.length_take];omega
 have hx:aS l ((l.take k).length:Int)=Option.some l[k]:=by
  rw[hl,rI (by omega) (by omega),vX _ _ hc]
 have h:=step (l.take k) l[k] (l.drop (k+1)) s e hx hI
 rw[hl] at h
 refine h.mono fun o ho=>?_
 rcases ho with ⟨s',rfl,h⟩|h
 refine .inl ⟨_,rfl,⟨by omega,?_,?_⟩,hc⟩
 show i64.wrap ((k:Int)+1)=_
 rw[jY (by omega) (by omega)];push_cast;rfl
 rw[List.take_succ_eq_append_getElem hc];exact h
 exact .inr h
 have:k=l.length:=by omega
 subst this
 rw[List.take_length] at hI
 refine (fin s hI).mono fun o ho=>.inr ho
theorem ar.ea1 {l:List α} {A:Int->Option (Int⊕τ)} {g:τ} {Q:τ->Prop} {F:Nat} (I:List α->Prop) (hF:l.length<F) (hL:l.length<=9223372036854775807) (h0:I [])
 (step:∀ pre x post,l=pre++x::post->aS l (pre.length:Int)=Option.some x->I pre->ar (A (pre.length:Int)) fun o=>(o=.inl (i64.wrap ((pre.length:Int)+1))/\I (pre++[x]))∨∃ t,o=.inr t/\Q t)
 (fin:I l->Q g):ar (iter F (fun i=>if decide (i<(l.length:Int))=true then A i else Option.some (.inr g)) 0) Q:=by
 refine ar.rounds (n:=l.length) (I:=fun k s=>k<=l.length/\s=(k:Int)/\I (l.take k)) hF ⟨Nat.zero_le _,rfl,by simpa using h0⟩ ?_
 rintro k _ hk ⟨hk',rfl,hI⟩
 by_cases hc:k<l.length
 have e:l=l.take k++l[k]::l.drop (k+1):=by rw[← List.drop_eq_getElem_cons hc,List.take_append_drop]
 have hl:(l.take k).length=k:=by rw[List.length_take];omega
 have hx:aS l ((l.take k).length:Int)=Option.some l[k]:=by
  rw[hl,rI (by omega) (by omega),vX _ _ hc]
 have h:=step (l.take k) l[k] (l.drop (k+1)) e hx hI
 rw[hl] at h
 rw[if_pos (by simpa using hc)]
 refine h.mono fun o ho=>?_
 rcases ho with ⟨rfl,h⟩|h
 refine .inl ⟨_,rfl,⟨by omega,?_,?_⟩,hc⟩
 rw[jY (by omega) (by omega)];push_cast;rfl
 rw[List.take_succ_eq_append_getElem hc];exact h
 exact .inr h
 have:k=l.length:=by omega
 subst this
 rw[List.take_length] at hI
 rw[if_neg (by simp)]
 exact ar.some (.inr ⟨_,rfl,fin hI⟩)
theorem ar.ea2 {l:List α} {A:σ->Int->Option ((σ×Int)⊕τ)} {G:σ->τ} {Q:τ->Prop} {F:Nat} {s0:σ} (I:List α->σ->Prop) (hF:l.length<F) (hL:l.length<=9223372036854775807) (h0:I [] s0)
 (step:∀ pre x post s,l=pre++x::post->aS l (pre.length:Int)=Option.some x->I pre s->ar (A s (pre.length:Int)) fun o=>(∃ s',o=.inl (s',i64.wrap ((pre.length:Int)+1))/\I (pre++[x]) s')∨∃ t,o=.inr t/\Q t)
 (fin:∀ s,I l s->Q (G s)):ar (iter F (bQ fun s i=>if decide (i<(l.length:Int))=true then A s i else Option.some (.inr (G s))) (s0,0)) Q:=by
 refine FK I hF hL h0 (fun pre x post s e hx hI=>?_) fun s hI=>?_
 simp only[bQ]
 rw[if_pos (by rw[e];simp;omega)]
 exact step pre x post s e hx hI
 simp only[bQ]
 rw[if_neg (by simp)]
 exact ar.some ⟨_,rfl,fin s hI⟩
theorem yn {S S' τ':Type} {body:S->Option (S⊕τ')} {body':S'->Option (S'⊕τ')} (f:S->S') (h:∀ s,body' (f s)=(body s).map (cW (fun s=>.inl (f s)) .inr)):∀ F s,iter F body' (f s)=iter F body s
 | 0,s=>rfl
 | F+1,s=>by
  rw[eE,eE,h]
  cases body s with
  | none=>rfl
  | some o=>
   cases o with
   | inl s'=>exact yn f h F s'
   | inr t=>rfl
private theorem sum_id {A B:Type} (o:Option (A⊕B)):o.map (cW (fun s=>Sum.inl s) Sum.inr)=o:=by
 cases o with
 | none=>rfl
 | some o=>cases o<;>rfl
theorem ar.ea3 {l:List α} {A:σ1->σ2->Int->Option ((σ1×σ2×Int)⊕τ)} {G:σ1->σ2->τ} {Q:τ->Prop} {F:Nat} {a0:σ1} {b0:σ2} (I:List α->σ1->σ2->Prop) (hF:l.length<F) (hL:l.length<=9223372036854775807) (h0:I [] a0 b0)
 (step:∀ pre x post a b,l=pre++x::post->aS l (pre.length:Int)=Option.some x->I pre a b->ar (A a b (pre.length:Int)) fun o=>(∃ a' b',o=.inl (a',b',i64.wrap ((pre.length:Int)+1))/\I (pre++[x]) a' b')∨∃ t,o=.inr t/\Q t)
 (fin:∀ a b,I l a b->Q (G a b)):ar (iter F (iJ fun a b i=>if decide (i<(l.length:Int))=true then A a b i else Option.some (.inr (G a b))) (a0,b0,0)) Q:=by
 have e:=yn (body:=fun z:(σ1×σ2)×Int=>((iJ fun a b i=>if decide (i<(l.length:Int))=true then A a b i else Option.some (.inr (G a b))) (z.1.1,z.1.2,z.2)).map (cW (fun s=>.inl ((s.1,s.2.1),s.2.2)) .inr)) (body':=iJ fun a b i=>if decide (i<(l.length:Int))=true then A a b i else Option.some (.inr (G a b))) (fun z=>(z.1.1,z.1.2,z.2)) (fun s=>by
  rw[Option.map_map];exact (Eq.trans (by congr 1;funext o;cases o<;>rfl) (sum_id _)).symm) F ((a0,b0),0)
 rw[e]
 refine FK (S:=σ1×σ2) (fun pre s=>I pre s.1 s.2) hF hL h0 (fun pre x post s e hx hI=>?_) fun s hI=>?_
 simp only[iJ]
 rw[if_pos (by rw[e];simp;omega)]
 obtain⟨o,ho,h⟩:=step pre x post s.1 s.2 e hx hI
 rw[ho]
 rcases h with ⟨a',b',rfl,h⟩|⟨t,rfl,h⟩
 exact ar.some (.inl ⟨(a',b'),rfl,h⟩)
 exact ar.some (.inr ⟨t,rfl,h⟩)
 simp only[iJ]
 rw[if_neg (by simp)]
 exact ar.some ⟨_,rfl,fin s.1 s.2 hI⟩
theorem ar.find {υ:Type} {l:List α} {c:α->Bool} {r:α->υ} {Q:Unit⊕υ->Prop} {F:Nat} (hF:l.length<F) (hL:l.length<=9223372036854775807) (h1:(∀ x∈l,c x=false)->Q (.inl ())) (h2:∀ pre x post,l=pre++x::post->(∀ y∈pre,c y=false)->c x=true->Q (.inr (r x))) {A:Int->Option (Int⊕(Unit⊕υ))}
 (hA:∀ (i:Int) x,aS l i=Option.some x->A i=if c x=true then Option.some (.inr (.inr (r x))) else Option.some (.inl (i64.wrap (i+1)))) :
 ar (iter F (fun i=>if decide (i<(l.length:Int))=true then A i else Option.some (.inr (.inl ()))) 0) Q:=by
 refine ar.ea1 (fun pre=>∀ x∈pre,c x=false) hF hL (by simp) (fun pre x post e hx hI=>?_) fun h=>h1 h
 rw[hA _ x hx]
 refine ar.ite (fun h=>ar.some (.inr ⟨_,rfl,h2 pre x post e hI h⟩)) fun h=>ar.some (.inl ⟨rfl,fun y hy=>?_⟩)
 rcases List.mem_append.1 hy with hy|hy
 exact hI y hy
 rw[List.mem_singleton.1 hy];exact h
end
end Go.Sk
namespace Go.Sk
open Go
def Le {α:Type} (a b:Option α):Prop:=∀ x,a=some x->b=some x
section
variable {α β γ σ τ:Type}
theorem Le.rfl (a:Option α):Le a a:=fun _ h=>h
theorem Le.none (a:Option α):Le Option.none a:=fun _ h=>by cases h
theorem Le.bind {a b:Option α} {k k':α->Option β} (h:Le a b) (hk:∀ x,Le (k x) (k' x)):Le (a.bind k) (b.bind k'):=fun y hy=>by
 cases a with
 | none=>cases hy
 | some x=>rw[h x (Eq.refl _)];exact hk x y hy
theorem Le.ite {c:Prop} [Decidable c] {a b a' b':Option α} (h1:Le a a') (h2:Le b b'):Le (if c then a else b) (if c then a' else b'):=by
 split
 exact h1
 exact h2
theorem Le.aT [Inhabited α] {g:Bool} {a b:Option α} (h:Le a b):Le (aT g a) (aT g b):=by
 unfold Go.Sk.aT
 split
 exact h
 exact Le.rfl _
theorem Le.bA {a:γ} {k k':γ->Option α} (h:∀ a,Le (k a) (k' a)):Le (Go.Sk.bA a k) (Go.Sk.bA a k'):=h a
theorem Le.cW {f f':α->Option γ} {g g':β->Option γ} (h1:∀ x,Le (f x) (f' x)) (h2:∀ x,Le (g x) (g' x)) (z:α⊕β):Le (Go.Sk.cW f g z) (Go.Sk.cW f' g' z):=by
 cases z with
 | inl x=>exact h1 x
 | inr x=>exact h2 x
theorem Le.iter {F F':Nat} (hF:F<=F') {f f':σ->Option (σ⊕τ)} (h:∀ s,Le (f s) (f' s)) (s:σ):Le (Go.Sk.iter F f s) (Go.Sk.iter F' f' s):=by
 induction F generalizing F' s with
 | zero=>exact Le.none _
 | succ F ih=>
  obtain⟨F',rfl⟩:∃ g,F'=g+1:=⟨F'-1,by omega⟩
  rw[eE,eE]
  exact Le.bind (h s) (Le.cW (fun x=>ih (by omega) x) fun x=>Le.rfl _)
end
end Go.Sk
