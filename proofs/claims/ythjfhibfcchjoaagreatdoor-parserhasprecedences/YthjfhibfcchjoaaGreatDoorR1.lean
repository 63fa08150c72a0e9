/- printed walks -/
import Derived.Test.YthjfhibfcchjoaaGreatDoorQ1
import Derived.Test.YthjfhibfcchjoaaGreatDoorQ2
import Derived.Test.YthjfhibfcchjoaaGreatDoorQ3
import Derived.Test.YthjfhibfcchjoaaGreatDoorQ4
import Derived.Test.YthjfhibfcchjoaaGreatDoorQ5
import Derived.Test.YthjfhibfcchjoaaGreatDoorQ6
set_option linter.unusedSectionVars false
set_option linter.unusedSimpArgs false
set_option linter.unusedVariables false
open Go.IntKind (i8 i16 i32 i64 u8 u16 u32 u64)
namespace Go.Dn
open Go Go.Sk Go.Proofs
open X
set_option maxRecDepth 100000
variable {mx:Int}
theorem h31_lin (F:Nat):EG (BB (mx:=mx)) LL [aT F,aU F,bR F,dV F,eI F,dG F,br F,fW F,ct F,bD F] ⟨129,JK (dH F).ks (dH F).ls,[]⟩ (Ht 8 Tryz.f28) [(0,1),(2,102),(3,103)] [(0,1),(2,102),(3,103)] [.b 1 85 (.st .reader),.b 102 55 (.st .aN),.b 103 55 (.st .aN)] [.b 1 85 (.st .reader),.b 102 55 (.st .aN),.b 103 55 (.st .aN)] .Problem (h31 F):=L1 (mx:=mx) 12 (by kernel_rfl) [[],[0],[0],[0,1,2],[],[4],[5],[3,6],[],[8,5],[0,1,2,3,4,5,6,7,8,9],[10,7,9,0,1,2,3,4,5,6,7,8,9]] (by kernel_rfl) (fun σ z=>if σ.idxOf 1<σ.idxOf 2 then h31 F z else JY F z) (fun σ z=>by
 show (if σ.idxOf 1<σ.idxOf 2 then h31 F z else JY F z)=h31 F z
 split
 rfl
 exact h31_eq) (fun z0=>wR [0,4,8] (by kernel_rfl) (by decide) ⟨wR [1,2,4,8] (by kernel_rfl) (by decide) ⟨Mh F z0,Mg F z0,Mf F z0,Me F z0,trivial⟩,wR [0,5,8] (by kernel_rfl) (by decide) ⟨Md F z0,Mc F z0,Mb F z0,trivial⟩,wR [0,4] (by kernel_rfl) (by decide) ⟨Ma F z0,L' F z0,trivial⟩,trivial⟩)
theorem tV (F:Nat):av Tryz.prog (ax mx) (dH F):=DQ (B0:=BB (mx:=mx)) (L:=LL) (G:=[aT F,aU F,bR F,dV F,eI F,dG F,br F,fW F,ct F,bD F]) 129 ⟨Tryz.call28⟩ Tryz.func28 Tryz.ntmps28 rfl (zab rfl) rfl ⟨bg F,bh F,eH F,l7 F,ld F,jx F,bQ F,sV F,fm F,bW F,trivial⟩ (.two (.no) (.two (.no) (.qY ⟨[0,2,3],[],[]⟩ [.b 1 85 (.st .reader),.b 102 55 (.st .aN),.b 103 55 (.st .aN)] [(.x none,[.b 1 85 (.st .reader),.b 102 55 (.st .aN)]),(.iE,[])] (.two (.no) (.two (.no) (.two (.no) (.two (.no) (.two (.no) (.two (.two (.lin [(0,1),(2,102),(3,103)] [(0,1),(2,102),(3,103)] [.b 1 85 (.st .reader),.b 102 55 (.st .aN),.b 103 55 (.st .aN)] [.b 1 85 (.st .reader),.b 102 55 (.st .aN),.b 103 55 (.st .aN)] .Problem (h31 F)) (.no)) (.two (.no) (.two (.two (.iF [] [] []) (.no)) (.two (.no) (.two (.two (.no) (.two (.no) (.two (.no) (.two (.no) (.two (.no) (.two (.no) (.two (.iF [] [] []) (.no)))))))) (.no))))))))))) (.no)))) [] F (fun a l=>by kernel_rfl) ⟨(bV _ rfl),⟨(bV _ rfl),⟨⟨(bV _ rfl),⟨(bV _ rfl),⟨(bV _ rfl),⟨(bV _ rfl),⟨(bV _ rfl),⟨⟨(h31_lin (mx:=mx) F),(bV _ rfl)⟩,(bV _ rfl)⟩⟩⟩⟩⟩⟩,(bV _ rfl)⟩⟩⟩
end Go.Dn
namespace Go.Dn
open Go Go.Sk Go.Proofs X
set_option maxRecDepth 100000
section
variable {P:Program} {TB:aH} {E:Env TB} {n:Sh} {s:St} {dst:Option Nat} {t ty yt:TypeId} {pos:String} {after:Array Edge} {g:Option (Nat×Bool)} {x y:Operand} {ops:Array Oper} {l:List Oper} {Q:bH}
theorem toRaw {a k:Nat} {ac:Act} {w:World} (hk:k∈n.fix) (hl:lk s.slots a=some (.b (.ptr k 0))) (hr:R E n s ac w):R E n ⟨(a,.b (.one (.raw (E.ρ0 k))))::s.slots,s.own⟩ ac w:=by
 obtain⟨h1,h2,h,ρ,hw,hs⟩:=hr
 refine⟨h1,h2,h,ρ,hw,fun j z hz=>?_⟩
 rcases List.mem_cons.1 hz with e|e
 cases e
 obtain⟨v,hv,b,e1,e2⟩:=hs _ _ (bj hl)
 refine⟨v,hv,?_⟩
 have e3:v=E.ρ0 k:=by rw[e2,← hw.fixed k hk,e1]
 refine (show (CP.raw (E.ρ0 k)).rel h v from ⟨e3,?_⟩)
 rw[← e3,e2];rfl
 exact hs j z e
theorem ofRaw {a f k:Nat} {T:TypeId} {ps:List CP} {ac:Act} {w:World} (hk:k∈n.fix) (hb:lk s.own k=some (.box T ps)) (hl:lk s.slots a=some (.b (.one (.raw (.func (.func f) #[E.ρ0 k] #[]))))) (hr:R E n s ac w):R E n ⟨(a,.b (.cJ f [.ptr k 0] []))::s.slots,s.own⟩ ac w:=by
 obtain⟨h1,h2,h,ρ,hw,hs⟩:=hr
 obtain⟨b,cur,e1,_,_⟩:=iL hw hb
 refine⟨h1,h2,h,ρ,hw,fun j z hz=>?_⟩
 rcases List.mem_cons.1 hz with e|e
 cases e
 obtain⟨v,hv,e2,_⟩:=hs _ _ (bj hl)
 refine⟨v,hv,#[E.ρ0 k],#[],e2,.cons ⟨b,e1,?_⟩ .nil,.nil⟩
 rw[← hw.fixed k hk,e1]
 exact hs j z e
theorem D5 {f:FuncId} {u:Value} (hx:s.ev x=some (.b (.one (.raw u)))):aR P E n ⟨dst,.makeFunc (.func f) ⟨[x]⟩ ⟨[]⟩,ty,pos,after,g⟩ s (s.put n dst (.b (.one (.raw (.func (.func f) #[u] #[]))))) :=
 aR.val (o:=⟨dst,.makeFunc (.func f) ⟨[x]⟩ ⟨[]⟩,ty,pos,after,g⟩) fun ac w h ρ hw hs=>by
  have hv:ac.eval x=u:=(aE hs hx:(CP.raw _).rel h _).1
  refine⟨.func (.func f) #[u] #[],?_,rfl,rfl⟩
  simp[execOp,Instr.makeFunc,hv]
end
section
variable {TB:aH} {E:Env TB} {n:Sh} {ops:Array Oper} {l:List Oper} {Q:bH}
theorem f_b144:q7 Tryz.prog 143 [(0,1),(1,1),(2,1)] [.int .i64 0,.int .i64 0,.raw .nilFunc]:=⟨Tryz.t143,_,_,by kernel_rfl,rfl,fun _=>.cons aa (.cons aa (.cons ⟨rfl,rfl⟩ .nil)),Tryz.underlying143,by kernel_rfl⟩
def z144:BV:=.agg [.int .i64 0,.int .i64 0,.raw .nilFunc]
theorem KZ:td Tryz.prog 144 9 143 z144:=⟨Tryz.underlying144,Tryz.t143,_,by kernel_rfl,rfl,fun _ _=>⟨_,rfl,.cons aa (.cons aa (.cons ⟨rfl,rfl⟩ .nil))⟩⟩
def HD (k o:Int) (f:Nat) (u:Value):BV:=.agg [.int .i64 k,.int .i64 o,.raw (.func (.func f) #[u] #[])]
def S1 (u:Value) (b1:reader) (z:aA) (es:List (Str×BV)):St:=⟨[(0,.b (.ptr 1 0)),(2,.b (.ptr 102 0)),(8,.b (.row 108))],[(1,.box 85 (rM b1)),(102,.box 48 (n4 z)),(108,.mp (vZ CP.str es))]⟩
theorem put_eq {s:St} {d:Nat} {x:SV} (h:d<n.n):s.put n (some d) x=⟨(d,x)::del d s.slots,s.own⟩:=by simp[St.put,St.set,h]
theorem Hy {α:Type} {a k:Nat} {x:α} {l:List (Nat×α)} (h:k≠a):lk ((a,x)::l) k=lk l k:=by
 simp only[lk]
 rw[if_neg (by simpa using h)]
theorem Dx {α:Type} {a k:Nat} (h:k≠a):∀ {l:List (Nat×α)},lk (del a l) k=lk l k:=fun {l}=>mL h
theorem iJ {a b c f:Nat} {k o:Int} {q:ByteArray} {t0 t1 t2 t3:TypeId} {p0 p1 p2 p3:String} {e0 e1 e2 e3:Array Edge} {b1:reader} {z:aA} {es:List (Str×BV)} (hn:1∈n.fix) (ha:a<n.n) (hb:b<n.n) (hc:c<n.n) (h0:∀ j∈[0,2,8],j≠a/\j≠b/\j≠c)
 (hk:k.natAbs<1000/\o.natAbs<1000) (hq:dJ es q.data.toList=none) (hl:q.data.toList.length<=maxLen)
 (h:aj Tryz.prog E n ops l (S1 (E.ρ0 1) b1 z (es++[(q.data.toList,HD k o f (E.ρ0 1))])) Q) :
 aj Tryz.prog E n ops (⟨some a,.move (.tmp 0),t0,p0,e0,none⟩::⟨some b,.makeFunc (.func f) ⟨[.tmp a]⟩ ⟨[]⟩,t1,p1,e1,none⟩::⟨some c,.build 143 ⟨[(0,.const (.int .i64 k)),(1,.const (.int .i64 o)),(2,.tmp b)]⟩,t2,p2,e2,none⟩::⟨none,.insert 144 (.tmp 8) (.const (.string q)) (.tmp c),t3,p3,e3,none⟩::l) (S1 (E.ρ0 1) b1 z es) Q:=by
 have h8:=h0 8 (by simp)
 refine Oc (om rfl) ?_
 rw[put_eq ha]
 refine aj.preR (fun ac w hr=>toRaw (a:=a) (k:=1) hn (by simp[lk]) hr) ?_
 refine Oc (D5 (x:=.tmp a) (u:=E.ρ0 1) (by simp[St.ev,St.get,lk])) ?_
 rw[put_eq hb]
 have hc1:(Ho (Value.int .i64 k))=some (.int .i64 k):=by
  show (if IntKind.i64.min<=k/\k<=IntKind.i64.max then some (CP.int .i64 k) else none)=_
  rw[if_pos]
  have e1:IntKind.i64.min = -9223372036854775808:=rfl
  have e2:IntKind.i64.max=9223372036854775807:=rfl
  rw[e1,e2]
  omega
 have hc2:(Ho (Value.int .i64 o))=some (.int .i64 o):=by
  show (if IntKind.i64.min<=o/\o<=IntKind.i64.max then some (CP.int .i64 o) else none)=_
  rw[if_pos]
  have e1:IntKind.i64.min = -9223372036854775808:=rfl
  have e2:IntKind.i64.max=9223372036854775807:=rfl
  rw[e1,e2]
  omega
 refine Oc (vL f_b144 (cps:=[(0,[.int .i64 k]),(1,[.int .i64 o]),(2,[.raw (.func (.func f) #[E.ρ0 1] #[])])]) (qs:=[.int .i64 k,.int .i64 o,.raw (.func (.func f) #[E.ρ0 1] #[])]) (by
  simp[eV,St.ev,St.get,lk,hc1,hc2,SV.cells]) (by simp[iV,Sk.aP])) ?_
 rw[put_eq hc]
 refine Oc (Du (Al Tryz.underlying9) KZ (l:=es) (j:=108) (k:=q.data.toList) (v:=HD k o f (E.ρ0 1)) (by
  show lk ((c,_)::del c ((b,_)::del b ((a,_)::(a,_)::del a _))) 8=_
  rw[Hy h8.2.2,Dx h8.2.2,Hy h8.2.1,Dx h8.2.1,Hy h8.1,Hy h8.1,Dx h8.1]
  rfl) rfl (by
  show (if q.data.toList.length<=maxLen then some (CP.str q.data.toList) else none).map _=_
  rw[if_pos hl]
  rfl) (by
  show lk ((c,_)::_) c=_
  simp[lk]
  rfl) hq) ?_
 refine aj.preR (fun ac w hr=>sr (fun p hp=>?_) (fun p hp=>?_) hr) h
 have hp1:p.1∈[0,2,8]:=by
  have:=List.mem_map_of_mem (f:=(·.1)) hp
  exact this
 obtain⟨g1,g2,g3⟩:=h0 _ hp1
 refine List.mem_cons_of_mem _ (db (List.mem_cons_of_mem _ (db (List.mem_cons_of_mem _ (List.mem_cons_of_mem _ (db ?_ g1))) g2)) g3)
 exact hp
 exact hp
end
section
variable {mx:Int} {E:Env (ax mx)} {n:Sh} {Q:bH}
theorem denS {fr:Fr} {F:Nat} {c:Code} {an:An DD} {s s1:bG DD} {m:Option (bG DD)} {G:List (bK DD pk)} (hn:n.n=fr.n) (hf:n.fix=fr.fx) (hG:F6 Tryz.prog (ax mx) G) (h:ic (BB (mx:=mx)) LL G fr F c an ⟨[],[],[]⟩ s some (fun _ _=>none) (fun _ _=>none)=m) (hm:m=some s1) (hr:Fin E n .normal s1.st Q) (hh:mK an=true:=by rfl):ah Tryz.prog E n c s.st Q :=
 iY hn hf hG c an (bV c hh) ⟨[],[],[]⟩ s some _ _ s1 Q (h.trans hm) (fun s' _ e=>by cases e;exact hr) (fun t s' _ e=>by cases e) (fun p ow e=>by cases e)
theorem C1 {fr:Fr} {F:Nat} {c:Code} {an:An DD} {s:bG DD} {cs:Kept} {ks:List (Pl DD)} {m:Option (PT DD ks⊕Problem)} {r:PT DD ks⊕Problem} {G:List (bK DD pk)} (hn:n.n=fr.n) (hf:n.fix=fr.fx) (hG:F6 Tryz.prog (ax mx) G) (hk:okE ⟨[],[],[]⟩ cs s ks=true) (h:ic (BB (mx:=mx)) LL G fr F c an (cs.add ⟨[],[],[]⟩) s (fun s'=>(pjI LL (cs.add ⟨[],[],[]⟩) s' cs.r ks).bind fun z=>some (.inl z)) (fun _ _=>none) (fun p _=>some (.inr p))=m) (hm:m=some r) (hr:∀ z,r=.inl z->Fin E n .normal (F7 s cs ks z).st Q) (hP:∀ p,r=.inr p->zp E n pk p ⟨[],[],[]⟩ Q) (hh:mK an=true:=by rfl):ah Tryz.prog E n c s.st Q :=
 iY hn hf hG c an (bV c hh) (cs.add ⟨[],[],[]⟩) s _ _ _ r Q (h.trans hm) (fun s' he e=>by
  obtain⟨z,hz,e1⟩:=aK e
  cases e1
  exact fun a w hR=>hr z rfl a w (vC hz he hR)) (fun t s' _ e=>by cases e) (fun p ow e=>by cases e;exact (hP _ rfl).less HA)
theorem IS {fr:Fr} {os l:List Oper} {s:bG DD} {cs:Kept} {ks:List (Pl DD)} {m:Option (PT DD ks⊕Problem)} {r:PT DD ks⊕Problem} {G:List (bK DD pk)} (hn:n.n=fr.n) (hf:n.fix=fr.fx) (hG:F6 Tryz.prog (ax mx) G) (hk:okE ⟨[],[],[]⟩ cs s ks=true) (h:Go.Dn.ops (BB (mx:=mx)) LL G fr (cs.add ⟨[],[],[]⟩) os l s (fun s'=>(pjI LL (cs.add ⟨[],[],[]⟩) s' cs.r ks).bind fun z=>some (.inl z)) (fun p _=>some (.inr p))=m) (hm:m=some r) (hr:∀ z,r=.inl z->Fin E n .normal (F7 s cs ks z).st Q) (hP:∀ p,r=.inr p->zp E n pk p ⟨[],[],[]⟩ Q):aj Tryz.prog E n os.toArray l s.st Q :=
 xM hn hf hG (fun p ow e=>by cases e;exact (hP _ rfl).less HA) (h.trans hm) fun s' he e=>by
  obtain⟨z,hz,e1⟩:=aK e
  cases e1
  exact fun a w hR=>hr z rfl a w (vC hz he hR)
def embQ (s:bG DD) (cs:Kept) (ps:List (Nat×Nat)) (ks:List (Pl DD)) (z:PT DD ks):bG DD:=⟨(ps.map fun p=>(p.1,.n (.p (.ptr p.2 0))))++(F7 s cs ks z).sl,(F7 s cs ks z).own,[]⟩
theorem GF {s s':bG DD} {cs:Kept} {ps:List (Nat×Nat)} {ks:List (Pl DD)} {z:PT DD ks} {a:Act} {w:World} (hP:qB s' ps=true) (hp:pj s' cs.r ks=some z) (he:Ext (cs.add ⟨[],[],[]⟩).s (cs.add ⟨[],[],[]⟩).o s s') (hr:R E n s'.st a w):R E n (embQ s cs ps ks z).st a w:=by
 have hc:=fun t ht=>he.sl t (List.mem_append_left _ ht)
 have ho:=fun t ht=>he.ow t (List.mem_append_left _ ht)
 obtain⟨h1,h2,hh,ρ,hw,hs⟩:=hr
 unfold pj at hp
 split at hp
 next hR=>
  obtain⟨h3,h4⟩:=Ah hp
  refine⟨h1,h2,hh,ρ,?_,fun k x hx=>?_⟩
  refine hw.sub fun p hp=>?_
  obtain⟨q,hq,rfl⟩:=List.mem_map.1 hp
  obtain⟨k,c⟩:=q
  refine List.mem_map.2 ⟨(k,c),?_,rfl⟩
  rcases List.mem_append.1 hq with e|e
  exact bj (h4 k c e)
  simp only[kpo,List.mem_filterMap] at e
  obtain⟨k',hk,hq⟩:=e
  obtain⟨c',hc',e⟩:=Option.map_eq_some_iff.1 hq
  cases e
  exact bj (ho _ hk _ hc')
  obtain⟨y,hy,rfl⟩:=ey.1 hx
  rcases List.mem_append.1 hy with e|e
  obtain⟨p,hpm,e2⟩:=List.mem_map.1 e
  cases e2
  have:=List.all_eq_true.1 hP p hpm
  refine rz hs (x:=.p (.ptr p.2 0)) ?_
  split at this
  next j hj=>
   have:j=p.2:=by simpa using this
   subst this
   unfold vl
   rw[hj]
  cases this
  rcases List.mem_append.1 e with e|e
  obtain⟨x,rfl,hv⟩:=h3 _ _ e
  exact rz hs hv
  rcases List.mem_append.1 e with e|e
  obtain⟨x,rfl,hv⟩:=H7 hR e
  exact rz hs hv
  obtain⟨hk,x,rfl,hv⟩:=KR e
  exact rz hs (hc _ hk _ hv)
 cases hp
theorem JU {fr:Fr} {os l:List Oper} {s:bG DD} {cs:Kept} {ps:List (Nat×Nat)} {ks:List (Pl DD)} {z:PT DD ks} {G:List (bK DD pk)} (hn:n.n=fr.n) (hf:n.fix=fr.fx) (hG:F6 Tryz.prog (ax mx) G) (h:Go.Dn.ops (BB (mx:=mx)) LL G fr (cs.add ⟨[],[],[]⟩) os l s (fun s'=>if qB s' ps=true then pj s' cs.r ks else none) (fun p _=>none)=some z) (hr:Fin E n .normal (embQ s cs ps ks z).st Q):aj Tryz.prog E n os.toArray l s.st Q :=
 xM hn hf hG (fun p ow e=>by cases e) h fun s' he e=>by
  split at e
  next hp=>exact fun a w hR=>hr a w (GF hp e he hR)
  cases e
def mM:List (Str×(Int×Int×Nat)):=[([108,101,116],1,0,71),([115,101,116],2,0,71),([114,101,112,101,97,116],3,0,72),([105,102],4,0,73),([112,108,97,99,101],5,1,74),([114,101,109,111,118,101],5,2,74),([116,105,101],5,3,75),([99,117,116],5,4,75),([97,112,112,108,121],5,5,75),([102,114,101,101],5,6,75),([112,97,117,115,101],5,7,76),([114,117,110],5,8,77)]
def vB (u:Value):List (Str×BV):=mM.map fun q=>(q.1,HD q.2.1 q.2.2.1 q.2.2.2 u)
def BY:Fr:=⟨82,[1],[]⟩
def s32 (b1:reader):bG DD:=⟨[(0,.n (.p (.ptr 1 0)))],[(1,.box 85 (.st .reader) b1)],[]⟩
def s32a (b1:reader):bG DD:=⟨[(2,.n (.p (.ptr 102 0))),(0,.n (.p (.ptr 1 0)))],[(1,.box 85 (.st .reader) b1),(102,.box 48 (.st .aA) mI)],[]⟩
def s32b (u:Value) (b1:reader):bG DD:=⟨[(0,.n (.p (.ptr 1 0))),(2,.n (.p (.ptr 102 0))),(3,.n (.p (.row 108)))],[(1,.box 85 (.st .reader) b1),(102,.box 48 (.st .aA) mI),(108,.raw (.mp (vZ CP.str (vB u))))],[]⟩
def s32c (u:Value) (b1:reader) (t:Token):bG DD:=⟨[(4,.n (.p (.ptr 104 0))),(47,.n (.d (.st .Token) t)),(46,.n (.p (.ptr 1 0))),(0,.n (.p (.ptr 1 0))),(2,.n (.p (.ptr 102 0))),(3,.n (.p (.row 108)))],[(1,.box 85 (.st .reader) b1),(102,.box 48 (.st .aA) mI),(108,.raw (.mp (vZ CP.str (vB u)))),(104,.box 91 (.st .Token) t)],[]⟩
def xT (u:Value) (q:Option (Int×Int×Nat)):List CP:=match q with
 | none=>[.int .i64 0,.int .i64 0,.raw .nilFunc]
 | some q=>[.int .i64 q.1,.int .i64 q.2.1,.raw (.func (.func q.2.2) #[u] #[])]
theorem Jz (u:Value) (k:Str):(dJ (vB u) k).getD z144=.agg (xT u (dJ mM k))/\(dJ (vB u) k).isSome=(dJ mM k).isSome:=by
 unfold vB
 rw[nt (f:=fun (q:Int×Int×Nat)=>HD q.1 q.2.1 q.2.2 u)]
 cases dJ mM k with
 | none=>exact⟨rfl,rfl⟩
 | some q=>exact⟨rfl,rfl⟩
def s32d (fc:List CP) (ok:Bool) (b1:reader) (t:Token):bG DD:=⟨[(0,.n (.p (.ptr 1 0))),(2,.n (.p (.ptr 102 0))),(4,.n (.p (.ptr 104 0))),(5,.n (.p (.ptr 105 0))),(6,.n (.d .bool ok))],[(1,.box 85 (.st .reader) b1),(102,.box 48 (.st .aA) mI),(104,.box 91 (.st .Token) t),(105,.raw (.box 143 fc))],[]⟩
def Dj (F:Nat) (f:Nat) (b:reader) (x:aA):Option ((reader×aA)⊕Problem):=if f=71 then kz F b x else if f=74 then jw F b x else if f=76 then iO F b x else if f=77 then ky F b x else none
def qE (q:Int×Int×Nat) (t:Token):aA:={ mI with Kind:=q.1,Op:=q.2.1,At:=t.At }
def gw (F:Nat) (b1:reader):Option ((aA×reader)⊕Problem) :=
 Option.bind (az F b1) fun t=>match dJ mM t.S with
  | none=>Option.bind (aQ F 280 b1) (bu (fun p=>some (.inr p)) fun _=>none)
  | some q=>if t.Kind=1 then Option.bind (Dj F q.2.2 { b1 with pos:=i64.wrap (b1.pos+1) } (qE q t)) (bu (fun p=>some (.inr p)) fun y=>some (.inl (y.2,y.1)))
   else Option.bind (aQ F 280 b1) (bu (fun p=>some (.inr p)) fun _=>none)
def s32e (q:Int×Int×Nat) (u:Value) (b2:reader) (t:Token):bG DD:=⟨[(0,.n (.p (.ptr 1 0))),(2,.n (.p (.ptr 102 0))),(4,.n (.p (.ptr 104 0))),(5,.n (.p (.ptr 105 0)))],[(1,.box 85 (.st .reader) b2),(102,.box 48 (.st .aA) mI),(104,.box 91 (.st .Token) t),(105,.raw (.box 143 (xT u (some q))))],[]⟩
def s32f (q:Int×Int×Nat) (u:Value) (b2:reader) (t:Token):bG DD:=⟨[(72,.n (.d (.int .i64) q.1)),(74,.n (.d (.int .i64) q.2.1)),(0,.n (.p (.ptr 1 0))),(2,.n (.p (.ptr 102 0))),(4,.n (.p (.ptr 104 0))),(5,.n (.p (.ptr 105 0)))],[(1,.box 85 (.st .reader) b2),(102,.box 48 (.st .aA) mI),(104,.box 91 (.st .Token) t),(105,.raw (.box 143 (xT u (some q))))],[]⟩
def s32g (q:Int×Int×Nat) (u:Value) (b2:reader) (t:Token):bG DD:=⟨[(0,.n (.p (.ptr 1 0))),(2,.n (.p (.ptr 102 0))),(5,.n (.p (.ptr 105 0))),(7,.n (.p (.ptr 107 0)))],[(1,.box 85 (.st .reader) b2),(102,.box 48 (.st .aA) mI),(105,.raw (.box 143 (xT u (some q)))),(107,.box 48 (.st .aA) (qE q t))],[]⟩
def s32h (f:Nat) (b2:reader) (x:aA):bG DD:=⟨[(79,.n (.p (.cJ f [.ptr 1 0] []))),(0,.n (.p (.ptr 1 0))),(2,.n (.p (.ptr 102 0))),(7,.n (.p (.ptr 107 0)))],[(1,.box 85 (.st .reader) b2),(102,.box 48 (.st .aA) mI),(107,.box 48 (.st .aA) x)],[]⟩
def F8:Nat->Code->Code
 | 0,c=>c
 | n+1,.seq _ b=>F8 n b
 | _,c=>c
theorem EV {F:Nat} {b1:reader} {r:(aA×reader)⊕Problem} {Q:bH} (h:gw F b1=some r) (hR:∀ x b,r=.inl (x,b)->Fin E ⟨82,[1],[1],[]⟩ .ret ⟨[(2,.b (.ptr 102 0))],[(1,.box 85 (rM b)),(102,.box 48 (n4 x))]⟩ Q) (hP:∀ p,r=.inr p->zp E ⟨82,[1],[1],[]⟩ pk p ⟨[],[],[]⟩ Q):ah Tryz.prog E ⟨82,[1],[1],[]⟩ ((Tryz.f29.body).getD .skip) (s32 b1).st Q:=by
 obtain⟨t,ht,h1⟩:=aK h
 have b0:aQ F 280 b1=some (.inr ⟨t.At,280⟩):=by unfold aQ;rw[ht];rfl
 refine ah.seq (denS (fr:=BY) (F:=F) (G:=[]) (an:=.no) (s1:=s32a b1) rfl rfl trivial (m:=some (s32a b1)) (by kernel_rfl) rfl (Fin.then ?_))
 refine ah.seq (ah.ae ?_)
 refine Oc (vI (k:=108) Tryz.underlying144 rfl rfl) ?_
 refine aj.aF (S1 (E.ρ0 1) b1 mI []) rfl ?_
 refine iJ List.mem_cons_self (by decide) (by decide) (by decide) (by decide) (by decide) rfl (by decide) ?_
 refine iJ List.mem_cons_self (by decide) (by decide) (by decide) (by decide) (by decide) rfl (by decide) ?_
 refine iJ List.mem_cons_self (by decide) (by decide) (by decide) (by decide) (by decide) rfl (by decide) ?_
 refine iJ List.mem_cons_self (by decide) (by decide) (by decide) (by decide) (by decide) rfl (by decide) ?_
 refine iJ List.mem_cons_self (by decide) (by decide) (by decide) (by decide) (by decide) rfl (by decide) ?_
 refine iJ List.mem_cons_self (by decide) (by decide) (by decide) (by decide) (by decide) rfl (by decide) ?_
 refine iJ List.mem_cons_self (by decide) (by decide) (by decide) (by decide) (by decide) rfl (by decide) ?_
 refine iJ List.mem_cons_self (by decide) (by decide) (by decide) (by decide) (by decide) rfl (by decide) ?_
 refine iJ List.mem_cons_self (by decide) (by decide) (by decide) (by decide) (by decide) rfl (by decide) ?_
 refine iJ List.mem_cons_self (by decide) (by decide) (by decide) (by decide) (by decide) rfl (by decide) ?_
 refine iJ List.mem_cons_self (by decide) (by decide) (by decide) (by decide) (by decide) rfl (by decide) ?_
 refine iJ List.mem_cons_self (by decide) (by decide) (by decide) (by decide) (by decide) rfl (by decide) ?_
 refine Oc om (Oc oa (aj.aV (s32b (E.ρ0 1) b1).st rfl ?_))
 refine ah.seq (denS (fr:=BY) (F:=F) (G:=[aT F]) (an:=.no) (s1:=s32c (E.ρ0 1) b1 t) rfl rfl ⟨bg F,trivial⟩ (m:=(az F b1).bind fun t=>some (s32c (E.ρ0 1) b1 t)) (by kernel_rfl) (by rw[ht];rfl) (Fin.then ?_))
 obtain⟨hg1,hg2⟩:=Jz (E.ρ0 1) t.S
 refine ah.seq (ah.ae ?_)
 refine Oc om (Oc (ay (ft:=9) ⟨⟨_,_,Tryz.t9,Tryz.underlying91,rfl,rfl,rfl,by kernel_rfl,by decide⟩⟩ rfl rfl) (Oc (aJ (p:=.str t.S) ⟨⟨_,Tryz.underlying9,rfl⟩,⟨Tryz.t9,by kernel_rfl,by kernel_rfl⟩⟩ rfl rfl rfl) (Oc (AI (Al Tryz.underlying9) KZ (l:=vB (E.ρ0 1)) (k:=t.S) (j:=108) rfl rfl rfl hg1) ?_)))
 refine Oc om (Oc (cM (i:=0) rfl rfl) (Oc (cM (i:=1) rfl rfl) (Oc (cE (k:=105) (zs:=[.int .i64 0,.int .i64 0,.raw .nilFunc]) ⟨Tryz.t143,_,by kernel_rfl,rfl,rfl⟩ rfl rfl) ?_)))
 refine Oc (aX (ps':=xT (E.ρ0 1) (dJ mM t.S)) (m:=3) ⟨⟨_,Tryz.underlying143,rfl⟩,⟨Tryz.t143,by kernel_rfl,by kernel_rfl⟩⟩ rfl rfl rfl ?_ (by decide) ?_) (Oc oa (aj.aV (s32d (xT (E.ρ0 1) (dJ mM t.S)) (dJ (vB (E.ρ0 1)) t.S).isSome b1 t).st rfl ?_))
 cases dJ mM t.S<;>rfl
 cases dJ mM t.S<;>rfl
 rw[hg2]
 have h2:∃ r1:Unit⊕Problem,(if ((!(dJ mM t.S).isSome)||decide (t.Kind≠(1:Int)))=true then Option.bind (aQ F 280 b1) (bu (fun p=>some (.inr p)) fun _=>some (.inl ())) else some (.inl ()))=some r1/\(∀ p,r1=.inr p->r=.inr p)/\(∀ z,r1=.inl z->∃ q,dJ mM t.S=some q/\Option.bind (Dj F q.2.2 { b1 with pos:=i64.wrap (b1.pos+1) } (qE q t)) (bu (fun p=>some (.inr p)) fun y=>some (.inl (y.2,y.1)))=some r):=by
  rw[b0] at h1 ⊢
  cases hq:dJ mM t.S with
  | none=>
   rw[hq] at h1
   cases h1
   exact⟨.inr ⟨t.At,280⟩,rfl,fun p hp=>(by cases hp;rfl),fun z hz=>(by cases hz)⟩
  | some q=>
   rw[hq] at h1
   by_cases hk:t.Kind=1
   simp only[hk,if_true] at h1
   exact⟨.inl (),by simp[hk],fun p hp=>(by cases hp),fun z _=>⟨q,rfl,h1⟩⟩
   simp only[if_neg hk] at h1
   cases h1
   exact⟨.inr ⟨t.At,280⟩,by simp[hk,bu],fun p hp=>(by cases hp;rfl),fun z hz=>(by cases hz)⟩
 obtain⟨r1,h3,h4,h5⟩:=h2
 refine ah.seq (C1 (fr:=BY) (F:=F) (G:=[bD F]) (an:=.no) (cs:=⟨[0,2,4,5],[1,102,104,105],[]⟩) (ks:=[]) rfl rfl ⟨bW F,trivial⟩ rfl (m:=(if ((!(dJ mM t.S).isSome)||decide (t.Kind≠(1:Int)))=true then Option.bind (aQ F 280 b1) (bu (fun p=>some (.inr p)) fun _=>some (.inl ())) else some (.inl ()))) (by kernel_rfl) h3 (fun z hz=>Fin.then ?_) (fun p hp=>ll (hP p (h4 p hp))))
 obtain⟨q,hq,h6⟩:=h5 z hz
 rw[hq]
 refine ah.seq (C1 (fr:=BY) (F:=F) (G:=[]) (an:=.no) (cs:=⟨[0,2,4,5],[102,104,105],[]⟩) (ks:=[.b 1 85 (.st .reader)]) rfl rfl trivial rfl (r:=.inl ({ b1 with pos:=i64.wrap (b1.pos+1) }:reader)) (m:=some (.inl ({ b1 with pos:=i64.wrap (b1.pos+1) }:reader))) (by kernel_rfl) rfl (fun z hz=>Fin.then ?_) (fun p hp=>by cases hp))
 cases hz
 generalize hb2:({ b1 with pos:=i64.wrap (b1.pos+1) }:reader)=b2 at h6 ⊢
 refine ah.aF (s32e q (E.ρ0 1) b2 t).st rfl ?_
 have f0:eX Tryz.prog 143 0 0 3:=⟨⟨_,_,Tryz.t3,Tryz.underlying143,rfl,rfl,rfl,by kernel_rfl,by decide⟩⟩
 have f1:eX Tryz.prog 143 1 1 3:=⟨⟨_,_,Tryz.t3,Tryz.underlying143,rfl,rfl,rfl,by kernel_rfl,by decide⟩⟩
 have f2:eX Tryz.prog 143 2 2 141:=⟨⟨_,_,Tryz.t141,Tryz.underlying143,rfl,rfl,rfl,by kernel_rfl,by decide⟩⟩
 have o3:c8 Tryz.prog 3:=⟨⟨_,Tryz.underlying3,rfl⟩,⟨Tryz.t3,by kernel_rfl,by kernel_rfl⟩⟩
 have b3:c8 Tryz.prog 141:=⟨⟨_,Tryz.underlying141,rfl⟩,⟨Tryz.t141,by kernel_rfl,by kernel_rfl⟩⟩
 refine ah.seq (ah.ae ?_)
 refine Oc (ay f0 rfl rfl) (Oc (aJ (p:=.int .i64 q.1) o3 rfl rfl rfl) (Oc (ay f1 rfl rfl) (Oc (aJ (p:=.int .i64 q.2.1) o3 rfl rfl rfl) ?_)))
 refine aj.aF (s32f q (E.ρ0 1) b2 t).st rfl ?_
 refine JU (fr:=BY) (cs:=⟨[0,2,5],[1,102,105],[]⟩) (ps:=[(7,107)]) (ks:=[.b 107 48 (.st .aA)]) (z:=qE q t) rfl rfl (G:=[]) trivial (by kernel_rfl) (Fin.then ?_)
 refine ah.aF (s32g q (E.ρ0 1) b2 t).st rfl ?_
 refine ah.seq (ah.ae ?_)
 refine Oc (ay f2 rfl rfl) (Oc (aJ (p:=.raw (.func (.func q.2.2) #[E.ρ0 1] #[])) b3 rfl rfl rfl) ?_)
 refine aj.preR (fun ac w hr=>ofRaw (a:=79) (k:=1) (f:=q.2.2) List.mem_cons_self rfl rfl hr) ?_
 refine aj.aF (s32h q.2.2 b2 (qE q t)).st rfl ?_
 obtain⟨v,hv,h7⟩:=aK h6
 have hPv:∀ p,v=.inr p->zp E ⟨82,[1],[1],[]⟩ pk p ⟨[],[],[]⟩ Q:=fun p e=>by subst e;cases h7;exact hP p rfl
 have key:∀ f z,v=.inl z->ah Tryz.prog E ⟨82,[1],[1],[]⟩ (F8 8 ((Tryz.f29.body).getD .skip)) (F7 (s32h f b2 (qE q t)) ⟨[0,2,7],[102],[]⟩ [.b 1 85 (.st .reader),.b 107 48 (.st .aA)] z).st Q:=fun f z e=>by
  subst e
  cases h7
  refine ah.seq (C1 (fr:=BY) (F:=F) (G:=[]) (an:=.no) (cs:=⟨[2],[1],[]⟩) (ks:=[.b 102 48 (.st .aA)]) rfl rfl trivial rfl (r:=.inl z.2) (m:=some (.inl z.2)) (by kernel_rfl) rfl (fun x hx=>Fin.then ?_) (fun p hp=>by cases hp))
  cases hx
  exact ah.ret (Fin.aF _ rfl (hR z.2 z.1 rfl))
 unfold Dj at hv
 split at hv
 next e=>
  rw[e]
  exact IS (fr:=BY) (cs:=⟨[0,2,7],[102],[]⟩) (ks:=[.b 1 85 (.st .reader),.b 107 48 (.st .aA)]) (G:=[(oG F).sw 2 107]) (r:=v) (m:=Option.bind (kz F b2 (qE q t)) (bu (fun p=>some (.inr p)) fun x=>some (.inl x))) rfl rfl ⟨(uQ F).sw 2 107,trivial⟩ rfl (by kernel_rfl) (by rw[hv];cases v<;>rfl) (fun z e=>Fin.then (key 75 z e)) (fun p e=>ll (hPv p e))
 split at hv
 next e=>
  rw[e]
  exact IS (fr:=BY) (cs:=⟨[0,2,7],[102],[]⟩) (ks:=[.b 1 85 (.st .reader),.b 107 48 (.st .aA)]) (G:=[(nT F).sw 2 107]) (r:=v) (m:=Option.bind (jw F b2 (qE q t)) (bu (fun p=>some (.inr p)) fun x=>some (.inl x))) rfl rfl ⟨(tU F).sw 2 107,trivial⟩ rfl (by kernel_rfl) (by rw[hv];cases v<;>rfl) (fun z e=>Fin.then (key 78 z e)) (fun p e=>ll (hPv p e))
 split at hv
 next e=>
  rw[e]
  exact IS (fr:=BY) (cs:=⟨[0,2,7],[102],[]⟩) (ks:=[.b 1 85 (.st .reader),.b 107 48 (.st .aA)]) (G:=[(mD F).sw 2 107]) (r:=v) (m:=Option.bind (iO F b2 (qE q t)) (bu (fun p=>some (.inr p)) fun x=>some (.inl x))) rfl rfl ⟨(sW F).sw 2 107,trivial⟩ rfl (by kernel_rfl) (by rw[hv];cases v<;>rfl) (fun z e=>Fin.then (key 80 z e)) (fun p e=>ll (hPv p e))
 split at hv
 next e=>
  rw[e]
  exact IS (fr:=BY) (cs:=⟨[0,2,7],[102],[]⟩) (ks:=[.b 1 85 (.st .reader),.b 107 48 (.st .aA)]) (G:=[(oF F).sw 2 107]) (r:=v) (m:=Option.bind (ky F b2 (qE q t)) (bu (fun p=>some (.inr p)) fun x=>some (.inl x))) rfl rfl ⟨(uP F).sw 2 107,trivial⟩ rfl (by kernel_rfl) (by rw[hv];cases v<;>rfl) (fun z e=>Fin.then (key 81 z e)) (fun p e=>ll (hPv p e))
 cases hv
def jD (F:Nat):bK DD pk:=⟨29,[.k],[.p (.ptr 1 0)],[1],[.b 85 (.st .reader)],[.st .aA],false,true,false,false,fun a l=>gw F l.1⟩
theorem tT (F:Nat):av Tryz.prog (ax mx) (jD F):=by
 refine⟨⟨Tryz.call29⟩,⟨(by decide:[1].Nodup),rfl⟩,fun a l r hr=>?_⟩
 obtain⟨b1,u⟩:=l
 have hr:gw F b1=some r:=hr
 cases r with
 | inl y=>
  refine aI.intro 82 Tryz.func29 Tryz.ntmps29 rfl (show [BV.ptr 1 0].length<=82 by decide) fun E=>?_
  refine EV (E:=E) hr (fun x b e=>?_) (fun p e=>by cases e)
  cases e
  have hl:(n4 x).length=DD.n .aA:=DD.len .aA x
  exact Fin.kW [(1,.box 85 (rM b))] [.agg (n4 x)] (.inl rfl) rfl (.cons (.agg (m:=DD.n .aA) ((BB (mx:=mx)).tok 48 (.st .aA) rfl) rfl rfl (by rw[List.drop_zero,← hl,List.take_length]) hl) .nil) (fun p hp=>List.mem_cons.2 (.inl (List.mem_singleton.1 hp))) ⟨rfl,rfl⟩
 | inr p=>
  show ij _ _ _ _ _ _ _
  refine eZ.intro 82 Tryz.func29 Tryz.ntmps29 rfl (show [BV.ptr 1 0].length<=82 by decide) fun E=>?_
  refine EV (E:=E) hr (fun x b e=>by cases e) (fun p' e=>?_)
  cases e
  exact fun hok=>Fin.qF ⟨rfl,hok⟩
end
end Go.Dn
namespace Go.Dn
open Go Go.Sk
open X
def nB (F:Nat) (sign:Str) (b1:reader):Option (((List aN)×reader)⊕Problem):=Option.bind (iter F (fun (x2:reader×(List aN))=>(Option.bind (au F sign x2.1) fun x3=>(if (!x3.1)=true then Option.bind (nD F x3.2) (bu (fun p=>some (.inr (.inr p))) fun x5=>Option.bind (bU x2.2 ([x5.1]:List aN)) fun x7=>some (.inl (x5.2,x7))) else some (.inr (.inl (x3.2,x2.2)))):Option ((reader×(List aN))⊕((reader×(List aN))⊕Problem)))) (b1,([]:List aN))) (cz (fun x8=>some (.inl (x8.2,x8.1))) (fun x9=>some (.inr x9)))
def h28 (F:Nat) (z:reader×Source×List aA):Option ((reader×Source×List aA)⊕Problem):=Option.bind (gw F z.1) (bu (fun p=>some (.inr p)) fun x8=>Option.bind (bU z.2.2 ([mI]:List aA)) fun x9=>Option.bind (aD x9 (z.2.2.length:Int)) fun _=>Option.bind (aD x9 (z.2.2.length:Int)) fun _=>some (.inl (x8.2,z.2.1,x9.set ((z.2.2.length:Int)).toNat x8.1)))
def j8 (F:Nat) (b1:reader) (b2:Source) (b3:List aA):Option ((reader×Source×(List aA))⊕Problem):=Option.bind (aG F ([([121,97,114,100]:Str),([123]:Str)]:List Str) b1) (bu (fun p=>some (.inr p)) fun x2=>Option.bind (nB F ([125]:Str) x2) (bu (fun p=>some (.inr p)) fun x3=>Option.bind (iter F (fun (x4:reader×Source×(List aA))=>((if (decide (x4.1.pos<(x4.1.l.length:Int)))=true then Option.bind (h28 F (x4.1,x4.2.1,x4.2.2)) (bu (fun p=>some (.inr (.inr p))) fun x7=>some (.inl (x7.1,x7.2.1,x7.2.2))) else some (.inr (.inl (x4.1,x4.2.1,x4.2.2)))):Option ((reader×Source×(List aA))⊕((reader×Source×(List aA))⊕Problem)))) (x3.2,(⟨x3.1,b2.Code⟩:Source),b3)) (cz (fun x8=>some (.inl (x8.1,x8.2.1,x8.2.2))) (fun x9=>some (.inr x9)))))
end Go.Dn
namespace Go.Dn
open Go Go.Sk Go.Proofs
open X
set_option maxRecDepth 100000
variable {mx:Int}
def jC (F:Nat):bK DD pk:=⟨27,[.k,.d (.str),.k],[.p (.ptr 1 0),.p (.cJ 28 [.ptr 1 0] [])],[1],[.b 85 (.st .reader)],[.sl (.st .aN)],false,true,false,false,fun a l=>nB F a.1 l.1⟩
theorem tR (F:Nat):av Tryz.prog (ax mx) (jC F):=ak (B0:=BB) (L:=LL) (G:=[aU F,dH F]) 18 ⟨Tryz.call27⟩ Tryz.func27 Tryz.ntmps27 rfl (zab rfl) rfl ⟨bh F,tV F,trivial⟩ (.two (.no) (.two (.no) (.two (.loop ⟨[0,1,2],[],[(7,107)]⟩ [.b 1 85 (.st .reader),.r 107 55 (.st .aN)] [(.x (some 0),[.b 1 85 (.st .reader),.r 107 55 (.st .aN)]),(.iE,[])] (.no)) (.no)))) [7] F fun a l=>by kernel_rfl
def ka (F:Nat):bK DD pk:=⟨25,[.k,.k],[.p (.ptr 1 0),.p (.ptr 2 0)],[1,2,3],[.b 85 (.st .reader),.x 51 .Source,.r 48 (.st .aA)],[],false,true,false,false,fun a l=>j8 F l.1 l.2.1 l.2.2.1⟩
theorem h28_lin (F:Nat):EG (BB (mx:=mx)) LL [br F,jC F,jD F] ⟨30,JK (ka F).ks (ka F).ls,[]⟩ (Ht 3 Tryz.f25) [(0,1),(1,2)] [(0,1),(1,2)] [.b 1 85 (.st .reader),.x 2 51 .Source 3,.r 3 48 (.st .aA)] [.b 1 85 (.st .reader),.x 2 51 .Source 3,.r 3 48 (.st .aA)] .Problem (h28 F):=lin_all (pk:=pk) [[],[0],[],[2],[1],[],[1,5,3,0,1,2,3,4,5],[6,4,0,1,2,3,4,5,6],[7,3,6,0,1,2,3,4,5,6],[0,1,2,3,4,5,6],[9,6,6,0,1,2,3,4,5,6]] (by kernel_rfl) (fun _=>h28 F) (fun _ _=>rfl) (fun z0=>by kernel_rfl)
theorem yH (F:Nat):av Tryz.prog (ax mx) (ka F):=DQ (B0:=BB (mx:=mx)) (L:=LL) (G:=[br F,jC F,jD F]) 30 ⟨Tryz.call25⟩ Tryz.func25 Tryz.ntmps25 rfl (zab rfl) rfl ⟨bQ F,tR F,tT F,trivial⟩ (.two (.no) (.two (.no) (.loop ⟨[0,1],[],[]⟩ [.b 1 85 (.st .reader),.x 2 51 .Source 3,.r 3 48 (.st .aA)] [(.x (some 0),[.b 1 85 (.st .reader),.x 2 51 .Source 3,.r 3 48 (.st .aA)]),(.iE,[])] (.two (.two (.iF [⟨0,[0],[]⟩,⟨1,[11],[]⟩,⟨2,[12],[]⟩,⟨3,[13],[1]⟩,⟨4,[0],[]⟩,⟨5,[15],[]⟩,⟨6,[16],[]⟩,⟨7,[17],[1]⟩,⟨8,[18],[]⟩] [9] []) (.no)) (.lin [(0,1),(1,2)] [(0,1),(1,2)] [.b 1 85 (.st .reader),.x 2 51 .Source 3,.r 3 48 (.st .aA)] [.b 1 85 (.st .reader),.x 2 51 .Source 3,.r 3 48 (.st .aA)] .Problem (h28 F)))))) [] F (fun a l=>by kernel_rfl) ⟨(bV _ rfl),⟨(bV _ rfl),⟨(bV _ rfl),(h28_lin (mx:=mx) F)⟩⟩⟩
end Go.Dn
namespace Go.Dn
open Go Go.Sk Go.Proofs X
set_option maxRecDepth 100000
section
variable {P:Program} {TB:aH} {E:Env TB} {n:Sh} {s:St} {dst:Option Nat} {t ty yt:TypeId} {pos:String} {after:Array Edge} {g:Option (Nat×Bool)} {x y:Operand}
theorem BF {T st:TypeId} {ps:List CP} {d:TypeDesc} (hu:P.underlying T=some d) (hd:(match d with|.interface _=>false|_=>true)=true) (hx:s.ev x=some (.b (.one (.zl T ps)))):aR P E n ⟨dst,.typeAssert x st T true,ty,pos,after,g⟩ s (s.put n dst (.lC [.agg ps,.one (.bool true)])) :=
 aR.val (o:=⟨dst,.typeAssert x st T true,ty,pos,after,g⟩) fun ac w h ρ hw hs=>by
  obtain⟨cs,e,hc⟩:=(aE hs hx:(CP.zl _ _).rel h _)
  refine⟨.tuple #[.agg cs,.bool true],?_,_,rfl,.cons ⟨cs,rfl,hc⟩ (.cons rfl .nil)⟩
  simp only[execOp,e]
  unfold Instr.typeAssert
  rw[Sem.run_bind,Sem.run_bind,run_underlying hu]
  cases d<;>simp at hd<;>simp[Result.andThen]
theorem BE {T st:TypeId} {zs:List CP} {d:TypeDesc} {i:TypeInfo} {z:Value} (hu:P.underlying T=some d) (hd:(match d with|.interface _=>false|_=>true)=true) (hi:P.info? T=some i) (hz:i.zero=some z) (hzs:∀ h ρ,(BV.agg zs).rel h ρ z) (hx:s.ev x=some (.b (.one (.raw .nilIface)))):aR P E n ⟨dst,.typeAssert x st T true,ty,pos,after,g⟩ s (s.put n dst (.lC [.agg zs,.one (.bool false)])) :=
 aR.val (o:=⟨dst,.typeAssert x st T true,ty,pos,after,g⟩) fun ac w h ρ hw hs=>by
  have hv:ac.eval x=.nilIface:=(aE hs hx:(CP.raw _).rel h _).1
  refine⟨.tuple #[z,.bool false],?_,_,rfl,.cons (hzs h ρ) (.cons rfl .nil)⟩
  simp only[execOp,hv]
  unfold Instr.typeAssert
  rw[Sem.run_bind,Sem.run_bind,run_underlying hu]
  have:=EW (P:=P) (w:=w) hi hz
  cases d<;>simp at hd<;>simp[Result.andThen,this]
theorem FG {ms:Array (String×TypeId)} (hi:P.underlying t=some (.interface ms)) (hx:s.ev x=some (.b (.one (.raw .nilIface)))):aR P E n ⟨dst,.binOp .neq t x (.const .nilIface) yt,ty,pos,after,g⟩ s (s.put n dst (B false)) :=
 aR.val (o:=⟨dst,.binOp .neq t x (.const .nilIface) yt,ty,pos,after,g⟩) fun ac w h ρ hw hs=>by
  have hv:ac.eval x=.nilIface:=(aE hs hx:(CP.raw _).rel h _).1
  refine⟨.bool false,?_,rfl⟩
  have h1:∀ d:Nat,(Op.equalIn (d+1) t .nilIface .nilIface).run P w=.ok true w:=fun d=>by simp[Op.equalIn,run_underlying hi]
  have h2:(Op.equal t .nilIface .nilIface).run P w=.ok true w:=h1 _
  simp only[execOp,hv,show ac.eval (.const .nilIface)=.nilIface from rfl,eqGuard_nil_constR]
  simp[binOp,h2,Result.andThen]
end
section
variable {mx:Int}
def qZ (rest found:Problem):Problem:=if (decide (rest.E=0)||decide (found.At<rest.At))=true then found else rest
def lh (rest pr:Problem):List (Nat×OC):=[(107,.box 38 (aS rest)),(104,.box 38 (aS pr))]
def Ex:Fr:=⟨31,[107,104],[]⟩
def s16 (b is:Bool) (rest pr found:Problem):bG DD:=⟨[(12,.n (.d .bool b)),(0,.n (.p (.ptr 107 0))),(1,.n (.p (.ptr 104 0))),(3,.n (.p (.ptr 103 0))),(4,.n (.d .bool is))],[(107,.box 38 (.st .Problem) rest),(104,.box 38 (.st .Problem) pr),(103,.box 38 (.st .Problem) found)],[]⟩
def s16c (is:Bool) (rest pr found:Problem):bG DD:=⟨[(0,.n (.p (.ptr 107 0))),(1,.n (.p (.ptr 104 0))),(3,.n (.p (.ptr 103 0))),(4,.n (.d .bool is))],[(107,.box 38 (.st .Problem) rest),(104,.box 38 (.st .Problem) pr),(103,.box 38 (.st .Problem) found)],[]⟩
def s16e (is:Bool) (rest pr found:Problem):bG DD:=⟨[(18,.n (.d .bool is)),(0,.n (.p (.ptr 107 0))),(1,.n (.p (.ptr 104 0))),(3,.n (.p (.ptr 103 0)))],[(107,.box 38 (.st .Problem) rest),(104,.box 38 (.st .Problem) pr),(103,.box 38 (.st .Problem) found)],[]⟩
theorem a33:gN Tryz.prog 38 2:=⟨⟨_,Tryz.underlying38,rfl⟩,⟨Tryz.t38,by kernel_rfl,by kernel_rfl⟩⟩
theorem z33:rG Tryz.prog 38 [.int .i64 0,.int .i64 0]:=⟨Tryz.t38,_,by kernel_rfl,rfl,rfl⟩
theorem Bh {rest pr found:Problem} (hok:pk.ok found):rN Tryz.prog (ax mx) 32 (lh rest pr) [.ptr 107 0,.ptr 104 0] (pk.pv found) (lh rest (qZ rest found)):=by
 refine rN.intro (z:=.one (.zl 38 (aS found))) 31 Tryz.func32 Tryz.ntmps32 rfl (by decide) (by decide) (by decide) (fun h ρ=>⟨_,rfl,.cons ⟨rfl,hok.1⟩ (.cons ⟨rfl,hok.2⟩ .nil)⟩) fun E=>?_
 show ah _ E ⟨31,[107,104],[107,104],[]⟩ _ ⟨[(2,.b (.one (.zl 38 (aS found)))),(0,.b (.ptr 107 0)),(1,.b (.ptr 104 0))],lh rest pr⟩ _
 refine ah.seq (ah.ae ?_)
 refine Oc om (Oc (BF Tryz.underlying38 rfl rfl) (Oc om (Oc (cM (i:=0) rfl rfl) (Oc (cM (i:=1) rfl rfl) (Oc (cE (k:=103) z33 rfl rfl) (Oc (aX (ps':=aS found) a33 rfl rfl rfl rfl (by decide) rfl) (Oc oa ?_)))))))
 refine aj.aV ⟨[(0,.b (.ptr 107 0)),(1,.b (.ptr 104 0)),(2,.b (.one (.zl 38 (aS found)))),(3,.b (.ptr 103 0)),(4,B true)],[(107,.box 38 (aS rest)),(104,.box 38 (aS pr)),(103,.box 38 (aS found))]⟩ rfl ?_
 refine ah.seq (ah.seq (ah.ae ?_))
 refine Oc om (Oc (Bl Tryz.underlying20 rfl) (aj.aF (s16 true true rest pr found).st rfl ?_))
 refine IS (fr:=Ex) (cs:=⟨[0,1,3,4],[107,104,103],[]⟩) (ks:=[.s 16 .bool]) (G:=[]) (r:=.inl false) (m:=some (.inl false)) rfl rfl trivial rfl (by kernel_rfl) rfl (fun z hz=>Fin.then ?_) (fun p hp=>by cases hp)
 cases hz
 refine C1 (fr:=Ex) (F:=0) (G:=[]) (an:=.no) (cs:=⟨[0,1,3,4],[107,104,103],[]⟩) (ks:=[]) (r:=.inl ()) (m:=some (.inl ())) rfl rfl trivial rfl (by kernel_rfl) rfl (fun z hz=>Fin.then ?_) (fun p hp=>by cases hp)
 refine ah.aF (s16c true rest pr found).st rfl ?_
 have hc:(if (decide (rest.E=0)||decide (found.At<rest.At))=true then some (.inl found) else some (.inl rest):Option (PT DD [.b 104 38 (.st .Problem)]⊕Problem))=some (.inl (qZ rest found)):=by unfold qZ;split<;>rfl
 refine ah.seq (C1 (fr:=Ex) (F:=0) (G:=[]) (an:=.no) (cs:=⟨[0,1,3],[107,104,103],[]⟩) (ks:=[.s 18 .bool]) (r:=.inl true) (m:=some (.inl true)) rfl rfl trivial rfl (by kernel_rfl) rfl (fun z hz=>Fin.then ?_) (fun p hp=>by cases hp))
 cases hz
 refine ah.aF (s16e true rest pr found).st rfl ?_
 refine C1 (fr:=Ex) (F:=0) (G:=[]) (an:=.no) (cs:=⟨[0,1],[107],[]⟩) (ks:=[.b 104 38 (.st .Problem)]) (r:=.inl (qZ rest found)) rfl rfl trivial rfl (by kernel_rfl) hc (fun z hz=>?_) (fun p hp=>by cases hp)
 cases hz
 exact Fin.kW (lh rest (qZ rest found)) [] (.inr rfl) rfl .nil (fun p hp=>by
  simp only[lh,List.mem_cons,List.not_mem_nil,or_false] at hp
  rcases hp with rfl|rfl
  exact List.mem_cons_of_mem _ List.mem_cons_self
  exact List.mem_cons_self) ⟨rfl,rfl⟩
theorem Cw {rest pr:Problem}:Ax Tryz.prog (ax mx) 32 (lh rest pr) [.ptr 107 0,.ptr 104 0] (lh rest pr):=by
 refine Ax.intro 31 Tryz.func32 Tryz.ntmps32 rfl (by decide) (by decide) (by decide) fun E=>?_
 show ah _ E ⟨31,[107,104],[107,104],[]⟩ _ ⟨[(2,.b (.one (.raw .nilIface))),(0,.b (.ptr 107 0)),(1,.b (.ptr 104 0))],lh rest pr⟩ _
 refine ah.seq (ah.ae ?_)
 refine Oc om (Oc (BE (i:=Tryz.t38) Tryz.underlying38 rfl (by kernel_rfl) rfl (fun h ρ=>⟨_,rfl,.cons aa (.cons aa .nil)⟩) rfl) (Oc om (Oc (cM (i:=0) rfl rfl) (Oc (cM (i:=1) rfl rfl) (Oc (cE (k:=103) z33 rfl rfl) (Oc (aX (ps':=[.int .i64 0,.int .i64 0]) a33 rfl rfl rfl rfl (by decide) rfl) (Oc oa ?_)))))))
 refine aj.aV ⟨[(0,.b (.ptr 107 0)),(1,.b (.ptr 104 0)),(2,.b (.one (.raw .nilIface))),(3,.b (.ptr 103 0)),(4,B false)],[(107,.box 38 (aS rest)),(104,.box 38 (aS pr)),(103,.box 38 [.int .i64 0,.int .i64 0])]⟩ rfl ?_
 refine ah.seq (ah.seq (ah.ae ?_))
 refine Oc om (Oc (FG Tryz.underlying20 rfl) (aj.aF (s16 false false rest pr ⟨0,0⟩).st rfl ?_))
 refine IS (fr:=Ex) (cs:=⟨[0,1,3,4],[107,104,103],[]⟩) (ks:=[.s 16 .bool]) (G:=[]) (r:=.inl false) (m:=some (.inl false)) rfl rfl trivial rfl (by kernel_rfl) rfl (fun z hz=>Fin.then ?_) (fun p hp=>by cases hp)
 cases hz
 refine C1 (fr:=Ex) (F:=0) (G:=[]) (an:=.no) (cs:=⟨[0,1,3,4],[107,104,103],[]⟩) (ks:=[]) (r:=.inl ()) (m:=some (.inl ())) rfl rfl trivial rfl (by kernel_rfl) rfl (fun z hz=>Fin.then ?_) (fun p hp=>by cases hp)
 refine ah.aF (s16c false rest pr ⟨0,0⟩).st rfl ?_
 refine ah.seq (C1 (fr:=Ex) (F:=0) (G:=[]) (an:=.no) (cs:=⟨[0,1,3],[107,104,103],[]⟩) (ks:=[.s 18 .bool]) (r:=.inl false) (m:=some (.inl false)) rfl rfl trivial rfl (by kernel_rfl) rfl (fun z hz=>Fin.then ?_) (fun p hp=>by cases hp))
 cases hz
 refine ah.aF (s16e false rest pr ⟨0,0⟩).st rfl ?_
 refine C1 (fr:=Ex) (F:=0) (G:=[]) (an:=.no) (cs:=⟨[0,1],[107],[]⟩) (ks:=[.b 104 38 (.st .Problem)]) (r:=.inl pr) (m:=some (.inl pr)) rfl rfl trivial rfl (by kernel_rfl) rfl (fun z hz=>?_) (fun p hp=>by cases hp)
 cases hz
 exact Fin.kW (lh rest pr) [] (.inr rfl) rfl .nil (fun p hp=>by
  simp only[lh,List.mem_cons,List.not_mem_nil,or_false] at hp
  rcases hp with rfl|rfl
  exact List.mem_cons_of_mem _ List.mem_cons_self
  exact List.mem_cons_self) ⟨rfl,rfl⟩
end
end Go.Dn
namespace Go.Dn
open Go Go.Sk Go.Proofs X
set_option maxRecDepth 100000
section
variable {mx:Int} {E:Env (ax mx)} {n:Sh} {Q:bH}
theorem xI {fr:Fr} {F:Nat} {c:Code} {an:An DD} {s:bG DD} {cs:Kept} {ps:List (Nat×Nat)} {ks:List (Pl DD)} {m:Option (PT DD ks)} {z:PT DD ks} {G:List (bK DD pk)} (hn:n.n=fr.n) (hf:n.fix=fr.fx) (hG:F6 Tryz.prog (ax mx) G) (h:ic (BB (mx:=mx)) LL G fr F c an (cs.add ⟨[],[],[]⟩) s (fun s'=>if qB s' ps=true then pj s' cs.r ks else none) (fun _ _=>none) (fun _ _=>none)=m) (hm:m=some z) (hr:Fin E n .normal (embQ s cs ps ks z).st Q) (hh:mK an=true:=by rfl):ah Tryz.prog E n c s.st Q :=
 iY hn hf hG c an (bV c hh) (cs.add ⟨[],[],[]⟩) s _ _ _ z Q (h.trans hm) (fun s' he e=>by
  split at e
  next hp=>exact fun a w hR=>hr a w (GF hp e he hR)
  cases e) (fun t s' _ e=>by cases e) (fun p ow e=>by cases e)
theorem denW {fr:Fr} {F:Nat} {c:Code} {an:An DD} {s:bG DD} {cs:Kept} {ps ps2:List (Nat×Nat)} {ks ks2:List (Pl DD)} {m:Option (PT DD ks⊕PT DD ks2)} {r:PT DD ks⊕PT DD ks2} {G:List (bK DD pk)} (hn:n.n=fr.n) (hf:n.fix=fr.fx) (hG:F6 Tryz.prog (ax mx) G) (h:ic (BB (mx:=mx)) LL G fr F c an (cs.add ⟨[],[],[]⟩) s (fun s'=>if qB s' ps=true then (pj s' cs.r ks).bind fun z=>some (.inl z) else none) (fun t s'=>match t with
  | none=>if qB s' ps2=true then (Er s' ks2).bind fun z=>some (.inr z) else none
  | some _=>none) (fun _ _=>none)=m) (hm:m=some r) (hr:∀ z,r=.inl z->Fin E n .normal (embQ s cs ps ks z).st Q) (hr2:∀ z,r=.inr z->Fin E n .ret (JN ps2 ks2 z).st Q) (hh:mK an=true:=by rfl):ah Tryz.prog E n c s.st Q :=
 iY hn hf hG c an (bV c hh) (cs.add ⟨[],[],[]⟩) s _ _ _ r Q (h.trans hm) (fun s' he e=>by
  split at e
  next hp=>
   obtain⟨z,hz,e1⟩:=aK e
   cases e1
   exact fun a w hR=>hr z rfl a w (GF hp hz he hR)
  cases e) (fun t s' _ e=>by
  cases t with
  | none=>
   simp only at e
   split at e
   next hp=>
    obtain⟨z,hz,e1⟩:=aK e
    cases e1
    exact fun a w hR=>hr2 z rfl a w (Ad hp hz hR)
   cases e
  | some i=>cases e) (fun p ow e=>by cases e)
end
def zM (F:Nat) (l:List Token) (s:Str):Option (Problem×reader):=Option.bind (nj F l) fun x4=>(if (decide (x4<(l.length:Int)))=true then Option.bind (s6 l x4) fun x7=>Option.bind (aD l x4) fun x8=>Option.bind (aD l x4) fun x9=>some ((⟨x9.At,(2:Int)⟩:Problem),(⟨x7,(0:Int),x8.At⟩:reader)) else some ((⟨(0:Int),(0:Int)⟩:Problem),(⟨l,(0:Int),(s.length:Int)⟩:reader)))
def Dp (F:Nat) (s:Str):Option (Problem⊕(Problem×reader)):=Option.bind (cQ F s) fun x1=>if x1.2.E≠0 then some (.inl x1.2) else Option.bind (zM F x1.1 s) fun x=>some (.inr x)
def tB (F:Nat) (rd:reader) (b1:ab):Option (ab⊕Problem):=Option.bind (iK F rd b1) (bu (fun p=>some (.inr p)) fun x11=>(if (decide (x11.1.pos<(x11.1.l.length:Int)))=true then Option.bind (aQ F (280:Int) x11.1) (bu (fun p=>some (.inr p)) fun x14=>some (.inl (x11.2))) else some (.inl (x11.2))))
def vF (F:Nat) (s:Str) (b1:ab):Option (Problem×Option ab):=Option.bind (Dp F s) fun q=>match q with
 | .inl p=>some (p,none)
 | .inr x=>Option.bind (tB F x.2 b1) fun y=>match y with
  | .inl v=>some (x.1,some v)
  | .inr p=>some (qZ x.1 p,none)
noncomputable def zP (v:ab):List (Nat×OC):=bw (b9 (D:=DD) false [1] [.b 35 (.st .ab)] (v,()))
def wB:Fr:=⟨67,[1],[]⟩
def t6Expr (s:Str) (b1:ab):bG DD:=⟨[(0,.n (.d .str s)),(1,.n (.p (.cJ 14 [] [.ptr 1 0])))],[(1,.box 35 (.st .ab) b1)],[]⟩
def t6aExpr (s:Str) (p:Problem) (b1:ab):bG DD:=⟨[(0,.n (.d .str s)),(1,.n (.p (.cJ 14 [] [.ptr 1 0]))),(4,.n (.p (.ptr 104 0)))],[(1,.box 35 (.st .ab) b1),(104,.box 38 (.st .Problem) p)],[]⟩
def H2 (s:Str) (l:List Token) (p:Problem) (b1:ab):bG DD:=⟨[(0,.n (.d .str s)),(1,.n (.p (.cJ 14 [] [.ptr 1 0]))),(4,.n (.p (.ptr 104 0))),(5,.n (.d (.sl (.st .Token)) l))],[(1,.box 35 (.st .ab) b1),(104,.box 38 (.st .Problem) p)],[]⟩
def t6cExpr (s:Str) (l:List Token) (p rest:Problem) (rd:reader) (b1:ab):bG DD:=⟨[(0,.n (.d .str s)),(1,.n (.p (.cJ 14 [] [.ptr 1 0]))),(4,.n (.p (.ptr 104 0))),(5,.n (.d (.sl (.st .Token)) l)),(6,.n (.p (.ptr 122 0))),(7,.n (.p (.ptr 107 0)))],[(1,.box 35 (.st .ab) b1),(104,.box 38 (.st .Problem) p),(107,.box 38 (.st .Problem) rest),(122,.box 85 (.st .reader) rd)],[]⟩
def Di (p rest:Problem) (rd:reader) (b1:ab):bG DD:=⟨[(1,.n (.p (.cJ 14 [] [.ptr 1 0]))),(4,.n (.p (.ptr 104 0))),(6,.n (.p (.ptr 122 0))),(7,.n (.p (.ptr 107 0)))],[(1,.box 35 (.st .ab) b1),(104,.box 38 (.st .Problem) p),(107,.box 38 (.st .Problem) rest),(122,.box 85 (.st .reader) rd)],[]⟩
theorem B6 {mx:Int} {F:Nat} {s:Str} {b1:ab} {p:Problem} {o:Option ab} (h:vF F s b1=some (p,o)):aI Tryz.prog (ax mx) 13 (zP b1) [.one (.str s),.cJ 14 [] [.ptr 1 0]] (Is (match o with|some v=>zP v|none=>[]) (.b (.agg (aS p)))):=by
 refine aI.Gv 67 Tryz.func13 Tryz.ntmps13 rfl (zab rfl) fun E=>?_
 show ah _ E ⟨67,[1],[1],[]⟩ _ (t6Expr s b1).st _
 obtain⟨q,hq,h1⟩:=aK h
 obtain⟨x1,hx1,h2⟩:=aK hq
 refine ah.seq (xI (fr:=wB) (F:=F) (G:=[]) (an:=.no) (cs:=⟨[0,1],[1],[]⟩) (ps:=[(4,104)]) (ks:=[.b 104 38 (.st .Problem)]) (z:=(⟨0,0⟩:Problem)) (m:=some (⟨0,0⟩:Problem)) rfl rfl trivial (by kernel_rfl) rfl (Fin.then ?_))
 refine ah.aF (t6aExpr s ⟨0,0⟩ b1).st rfl ?_
 refine ah.seq (xI (fr:=wB) (F:=F) (G:=[jt F]) (an:=.no) (cs:=⟨[0,1,4],[1],[]⟩) (ps:=[]) (ks:=[.b 104 38 (.st .Problem),.s 5 (.sl (.st .Token))]) (z:=(x1.2,x1.1)) (m:=(cQ F s).bind fun x1=>some (x1.2,x1.1)) rfl rfl ⟨lU F,trivial⟩ (by kernel_rfl) (by rw[hx1];rfl) (Fin.then ?_))
 refine ah.aF (H2 s x1.1 x1.2 b1).st rfl ?_
 have hm:(if decide (x1.2.E≠0)=true then some (.inr x1.2) else some (.inl x1.2):Option (PT DD [.b 104 38 (.st .Problem)]⊕PT DD [.b 104 38 (.st .Problem)]))=some (if x1.2.E≠0 then .inr x1.2 else .inl x1.2):=by by_cases hE:x1.2.E=0<;>simp[hE]
 refine ah.seq (denW (fr:=wB) (F:=F) (G:=[]) (an:=.no) (cs:=⟨[0,1,4,5],[1],[]⟩) (ps:=[]) (ks:=[.b 104 38 (.st .Problem)]) (ps2:=[(4,104)]) (ks2:=[.b 104 38 (.st .Problem)]) rfl rfl trivial (by kernel_rfl) hm (fun z hz=>Fin.then ?_) (fun z hz=>?_))
 rotate_left
 ·split at hz
  ·next hE=>
   cases hz
   rw[if_pos hE] at h2
   cases h2
   cases h1
   exact Fin.cx (Fin.retD (.inl rfl) rfl (Fin.kW [] [.agg (aS x1.2)] (.inl rfl) rfl (.cons (.agg a33 rfl rfl rfl rfl) .nil) (fun p hp=>by cases hp) ⟨rfl,rfl⟩))
  ·cases hz
 split at hz
 ·cases hz
 next hE=>
 cases hz
 rw[if_neg hE] at h2
 obtain⟨x,hx,h3⟩:=aK h2
 cases h3
 obtain⟨y,hy,h4⟩:=aK h1
 refine ah.aF (H2 s x1.1 x1.2 b1).st rfl ?_
 refine ah.seq (xI (fr:=wB) (F:=F) (G:=[]) (an:=.no) (cs:=⟨[0,1,4,5],[1,104],[]⟩) (ps:=[(6,122),(7,107)]) (ks:=[.b 107 38 (.st .Problem),.b 122 85 (.st .reader)]) (z:=((⟨0,0⟩:Problem),(⟨x1.1,0,(s.length:Int)⟩:reader))) (m:=some ((⟨0,0⟩:Problem),(⟨x1.1,0,(s.length:Int)⟩:reader))) rfl rfl trivial (by kernel_rfl) rfl (Fin.then ?_))
 refine ah.aF (t6cExpr s x1.1 x1.2 ⟨0,0⟩ ⟨x1.1,0,(s.length:Int)⟩ b1).st rfl ?_
 refine ah.seq (xI (fr:=wB) (F:=F) (G:=[qQ F]) (an:=.two (.no) (.two (.no) (.two (.two (.iF [⟨0,[6],[]⟩,⟨1,[6],[]⟩,⟨2,[5],[]⟩,⟨3,[8],[]⟩,⟨4,[32,33],[]⟩,⟨5,[5],[]⟩,⟨6,[8],[]⟩,⟨7,[35,36],[]⟩,⟨8,[37],[]⟩,⟨9,[38],[]⟩,⟨10,[30],[]⟩,⟨11,[40],[]⟩,⟨12,[34,41],[122]⟩] [13,14,15] []) (.no)) (.no)))) (cs:=⟨[1,4,6,7],[1,104],[]⟩) (ps:=[]) (ks:=[.b 107 38 (.st .Problem),.b 122 85 (.st .reader)]) (z:=x) (m:=zM F x1.1 s) rfl rfl ⟨vh F,trivial⟩ (by kernel_rfl) hx (Fin.then ?_))
 refine ah.aF (Di x1.2 x.1 x.2 b1).st rfl ?_
 refine ah.seq (ah.ae (Oc (eN (fs:=[]) (cs:=[.ptr 107 0,.ptr 104 0]) rfl rfl) (aj.defer rfl rfl rfl fun E' vals b0 b2=>aj.aV (Di x1.2 x.1 x.2 b1).st rfl ?_)))
 have hmS:(Option.bind (iK F x.2 b1) (bu (fun p=>some (.inr (p,x1.2,x.1))) fun b3=>(if (decide (b3.1.pos<(b3.1.l.length:Int)))=true then Option.bind (aQ F (280:Int) b3.1) (bu (fun p=>some (.inr (p,x1.2,x.1))) fun x14=>some (.inl (x.1,x.1,b3.2))) else some (.inl (x.1,x.1,b3.2)))):Option (PT DD [.b 104 38 (.st .Problem),.b 107 38 (.st .Problem),.b 1 35 (.st .ab)]⊕(Problem×PT DD [.b 104 38 (.st .Problem),.b 107 38 (.st .Problem)])))=some (match y with
  | .inl v=>.inl (x.1,x.1,v)
  | .inr p=>.inr (p,x1.2,x.1)):=by
  unfold tB at hy
  cases hrd:iK F x.2 b1 with
  | none=>rw[hrd] at hy;cases hy
  | some c=>
   rw[hrd] at hy
   cases c with
   | inr p=>cases hy;rfl
   | inl c=>
    simp only[Option.bind_some,bu] at hy ⊢
    split at hy
    ·next hc=>
     rw[if_pos hc]
     cases hf:aQ F 280 c.1 with
     | none=>rw[hf] at hy;cases hy
     | some d=>
      rw[hf] at hy
      cases d<;>(cases hy;rfl)
    ·next hc=>
     rw[if_neg hc]
     cases hy
     rfl
 intro a w hr
 refine iY (B0:=BB (mx:=mx)) (L:=LL) (G:=[((sK F).sw 1 122).sw 2 1,(bD F).sw 1 122]) (F:=F) (fr:=⟨67,[1,104,107,122],[]⟩) rfl rfl ⟨((zD F).sw 1 122).sw 2 1,(bW F).sw 1 122,trivial⟩ _ (.two (.no) (.two (.two (.iF [⟨0,[6],[]⟩,⟨1,[54],[]⟩,⟨2,[55],[]⟩,⟨3,[56],[122]⟩,⟨4,[6],[]⟩,⟨5,[58],[]⟩,⟨6,[59],[]⟩,⟨7,[60],[122]⟩,⟨8,[61],[]⟩] [9] []) (.no)) (.no))) (bV _ rfl) ⟨[],[],[]⟩ (Di x1.2 x.1 x.2 b1) (fun _=>none) (fun t s'=>match t with
  | none=>if qB s' [(4,104)]=true then (Er s' [.b 104 38 (.st .Problem),.b 107 38 (.st .Problem),.b 1 35 (.st .ab)]).bind fun z=>some (Sum.inl z) else none
  | some _=>none) (fun p sv=>if qB sv [(4,104)]=true then (Er sv [.b 104 38 (.st .Problem),.b 107 38 (.st .Problem)]).bind fun z=>some (.inr (p,z)) else none) _ _ (Eq.trans (by kernel_rfl) hmS) (fun s' _ e=>by cases e) (fun t s' _ e=>?_) (fun p' sv e=>?_) a w hr
 ·cases t with
  | some i=>cases e
  | none=>
   simp only at e
   split at e
   ·next hp=>
    obtain⟨z,hz,e1⟩:=aK e
    cases y with
    | inr p'=>cases e1
    | inl v=>
     cases e1
     cases h4
     refine fun a w hR=>Fin.Fk (own_c:=lh x.1 x.1) (own_c':=lh x.1 x.1) (post':=Is (zP v) (.b (.agg (aS x.1)))) b0 b2 Cw (.inl rfl) ⟨Tryz.call32⟩ rfl rfl ⟨rfl,rfl,trivial⟩ rfl rfl (rE rfl rfl rfl rfl) ?_ a w (Ad hp hz hR)
     exact Fin.kW (zP v) [.agg (aS x.1)] (.inl rfl) rfl (.cons (.agg a33 rfl rfl rfl rfl) .nil) (fun p hp=>List.mem_append_left (lh x.1 x.1) hp) ⟨rfl,rfl⟩
   ·cases e
 ·split at e
  ·next hp=>
   obtain⟨z,hz,e1⟩:=aK e
   cases y with
   | inl v=>cases e1
   | inr p0=>
    cases e1
    cases h4
    intro hok
    refine fun a w hR=>Fin.ug (own_c:=lh x.1 x1.2) (own_c':=lh x.1 (qZ x.1 p')) (post':=Is [] (.b (.agg (aS (qZ x.1 p'))))) b0 b2 (Bh hok) ⟨Tryz.call32⟩ rfl rfl ⟨rfl,rfl,trivial⟩ rfl rfl (rE rfl rfl rfl rfl) ?_ a w (Ad hp hz hR)
    exact Fin.kW [] [.agg (aS (qZ x.1 p'))] (.inl rfl) rfl (.cons (.agg a33 rfl rfl rfl rfl) .nil) (fun p hp=>by cases hp) ⟨rfl,rfl⟩
  ·cases e
def xc (F:Nat) (rd:reader) (b1:Source×List aA):Option ((Source×List aA)⊕Problem):=Option.bind (j8 F rd b1.1 b1.2) (bu (fun p=>some (.inr p)) fun x11=>(if (decide (x11.1.pos<(x11.1.l.length:Int)))=true then Option.bind (aQ F (280:Int) x11.1) (bu (fun p=>some (.inr p)) fun x14=>some (.inl (x11.2))) else some (.inl (x11.2))))
def yV (F:Nat) (s:Str) (b1:Source×List aA):Option (Problem×Option (Source×List aA)):=Option.bind (Dp F s) fun q=>match q with
 | .inl p=>some (p,none)
 | .inr x=>Option.bind (xc F x.2 b1) fun y=>match y with
  | .inl v=>some (x.1,some v)
  | .inr p=>some (qZ x.1 p,none)
noncomputable def wP (v:(Source×List aA)):List (Nat×OC):=bw (b9 (D:=DD) false [1,2] [.x 51 .Source,.r 48 (.st .aA)] (v.1,v.2,()))
def tn:Fr:=⟨67,[1],[]⟩
def t6Parse (s:Str) (b1:Source×List aA):bG DD:=⟨[(0,.n (.d .str s)),(1,.n (.p (.cJ 25 [] [.ptr 1 0])))],[(1,.x 51 .Source 1 2 false b1.1),(2,.row 48 (.st .aA) b1.2)],[]⟩
def Lt (s:Str) (p:Problem) (b1:Source×List aA):bG DD:=⟨[(0,.n (.d .str s)),(1,.n (.p (.cJ 25 [] [.ptr 1 0]))),(4,.n (.p (.ptr 104 0)))],[(1,.x 51 .Source 1 2 false b1.1),(2,.row 48 (.st .aA) b1.2),(104,.box 38 (.st .Problem) p)],[]⟩
def ES (s:Str) (l:List Token) (p:Problem) (b1:Source×List aA):bG DD:=⟨[(0,.n (.d .str s)),(1,.n (.p (.cJ 25 [] [.ptr 1 0]))),(4,.n (.p (.ptr 104 0))),(5,.n (.d (.sl (.st .Token)) l))],[(1,.x 51 .Source 1 2 false b1.1),(2,.row 48 (.st .aA) b1.2),(104,.box 38 (.st .Problem) p)],[]⟩
def Ls (s:Str) (l:List Token) (p rest:Problem) (rd:reader) (b1:Source×List aA):bG DD:=⟨[(0,.n (.d .str s)),(1,.n (.p (.cJ 25 [] [.ptr 1 0]))),(4,.n (.p (.ptr 104 0))),(5,.n (.d (.sl (.st .Token)) l)),(6,.n (.p (.ptr 122 0))),(7,.n (.p (.ptr 107 0)))],[(1,.x 51 .Source 1 2 false b1.1),(2,.row 48 (.st .aA) b1.2),(104,.box 38 (.st .Problem) p),(107,.box 38 (.st .Problem) rest),(122,.box 85 (.st .reader) rd)],[]⟩
def AE (p rest:Problem) (rd:reader) (b1:Source×List aA):bG DD:=⟨[(1,.n (.p (.cJ 25 [] [.ptr 1 0]))),(4,.n (.p (.ptr 104 0))),(6,.n (.p (.ptr 122 0))),(7,.n (.p (.ptr 107 0)))],[(1,.x 51 .Source 1 2 false b1.1),(2,.row 48 (.st .aA) b1.2),(104,.box 38 (.st .Problem) p),(107,.box 38 (.st .Problem) rest),(122,.box 85 (.st .reader) rd)],[]⟩
theorem BH {mx:Int} {F:Nat} {s:Str} {b1:Source×List aA} {p:Problem} {o:Option (Source×List aA)} (h:yV F s b1=some (p,o)):aI Tryz.prog (ax mx) 13 (wP b1) [.one (.str s),.cJ 25 [] [.ptr 1 0]] (Is (match o with|some v=>wP v|none=>[]) (.b (.agg (aS p)))):=by
 refine aI.Gv 67 Tryz.func13 Tryz.ntmps13 rfl (zab rfl) fun E=>?_
 show ah _ E ⟨67,[1],[1,2],[]⟩ _ (t6Parse s b1).st _
 obtain⟨q,hq,h1⟩:=aK h
 obtain⟨x1,hx1,h2⟩:=aK hq
 refine ah.seq (xI (fr:=tn) (F:=F) (G:=[]) (an:=.no) (cs:=⟨[0,1],[1,2],[]⟩) (ps:=[(4,104)]) (ks:=[.b 104 38 (.st .Problem)]) (z:=(⟨0,0⟩:Problem)) (m:=some (⟨0,0⟩:Problem)) rfl rfl trivial (by kernel_rfl) rfl (Fin.then ?_))
 refine ah.aF (Lt s ⟨0,0⟩ b1).st rfl ?_
 refine ah.seq (xI (fr:=tn) (F:=F) (G:=[jt F]) (an:=.no) (cs:=⟨[0,1,4],[1,2],[]⟩) (ps:=[]) (ks:=[.b 104 38 (.st .Problem),.s 5 (.sl (.st .Token))]) (z:=(x1.2,x1.1)) (m:=(cQ F s).bind fun x1=>some (x1.2,x1.1)) rfl rfl ⟨lU F,trivial⟩ (by kernel_rfl) (by rw[hx1];rfl) (Fin.then ?_))
 refine ah.aF (ES s x1.1 x1.2 b1).st rfl ?_
 have hm:(if decide (x1.2.E≠0)=true then some (.inr x1.2) else some (.inl x1.2):Option (PT DD [.b 104 38 (.st .Problem)]⊕PT DD [.b 104 38 (.st .Problem)]))=some (if x1.2.E≠0 then .inr x1.2 else .inl x1.2):=by by_cases hE:x1.2.E=0<;>simp[hE]
 refine ah.seq (denW (fr:=tn) (F:=F) (G:=[]) (an:=.no) (cs:=⟨[0,1,4,5],[1,2],[]⟩) (ps:=[]) (ks:=[.b 104 38 (.st .Problem)]) (ps2:=[(4,104)]) (ks2:=[.b 104 38 (.st .Problem)]) rfl rfl trivial (by kernel_rfl) hm (fun z hz=>Fin.then ?_) (fun z hz=>?_))
 rotate_left
 ·split at hz
  ·next hE=>
   cases hz
   rw[if_pos hE] at h2
   cases h2
   cases h1
   exact Fin.cx (Fin.retD (.inl rfl) rfl (Fin.kW [] [.agg (aS x1.2)] (.inl rfl) rfl (.cons (.agg a33 rfl rfl rfl rfl) .nil) (fun p hp=>by cases hp) ⟨rfl,rfl⟩))
  ·cases hz
 split at hz
 ·cases hz
 next hE=>
 cases hz
 rw[if_neg hE] at h2
 obtain⟨x,hx,h3⟩:=aK h2
 cases h3
 obtain⟨y,hy,h4⟩:=aK h1
 refine ah.aF (ES s x1.1 x1.2 b1).st rfl ?_
 refine ah.seq (xI (fr:=tn) (F:=F) (G:=[]) (an:=.no) (cs:=⟨[0,1,4,5],[1,2,104],[]⟩) (ps:=[(6,122),(7,107)]) (ks:=[.b 107 38 (.st .Problem),.b 122 85 (.st .reader)]) (z:=((⟨0,0⟩:Problem),(⟨x1.1,0,(s.length:Int)⟩:reader))) (m:=some ((⟨0,0⟩:Problem),(⟨x1.1,0,(s.length:Int)⟩:reader))) rfl rfl trivial (by kernel_rfl) rfl (Fin.then ?_))
 refine ah.aF (Ls s x1.1 x1.2 ⟨0,0⟩ ⟨x1.1,0,(s.length:Int)⟩ b1).st rfl ?_
 refine ah.seq (xI (fr:=tn) (F:=F) (G:=[qQ F]) (an:=.two (.no) (.two (.no) (.two (.two (.iF [⟨0,[6],[]⟩,⟨1,[6],[]⟩,⟨2,[5],[]⟩,⟨3,[8],[]⟩,⟨4,[32,33],[]⟩,⟨5,[5],[]⟩,⟨6,[8],[]⟩,⟨7,[35,36],[]⟩,⟨8,[37],[]⟩,⟨9,[38],[]⟩,⟨10,[30],[]⟩,⟨11,[40],[]⟩,⟨12,[34,41],[122]⟩] [13,14,15] []) (.no)) (.no)))) (cs:=⟨[1,4,6,7],[1,2,104],[]⟩) (ps:=[]) (ks:=[.b 107 38 (.st .Problem),.b 122 85 (.st .reader)]) (z:=x) (m:=zM F x1.1 s) rfl rfl ⟨vh F,trivial⟩ (by kernel_rfl) hx (Fin.then ?_))
 refine ah.aF (AE x1.2 x.1 x.2 b1).st rfl ?_
 refine ah.seq (ah.ae (Oc (eN (fs:=[]) (cs:=[.ptr 107 0,.ptr 104 0]) rfl rfl) (aj.defer rfl rfl rfl fun E' vals b0 b2=>aj.aV (AE x1.2 x.1 x.2 b1).st rfl ?_)))
 have hmS:(Option.bind (j8 F x.2 b1.1 b1.2) (bu (fun p=>some (.inr (p,x1.2,x.1))) fun b3=>(if (decide (b3.1.pos<(b3.1.l.length:Int)))=true then Option.bind (aQ F (280:Int) b3.1) (bu (fun p=>some (.inr (p,x1.2,x.1))) fun x14=>some (.inl (x.1,x.1,b3.2))) else some (.inl (x.1,x.1,b3.2)))):Option (PT DD [.b 104 38 (.st .Problem),.b 107 38 (.st .Problem),.x 1 51 .Source 2,.r 2 48 (.st .aA)]⊕(Problem×PT DD [.b 104 38 (.st .Problem),.b 107 38 (.st .Problem)])))=some (match y with
  | .inl v=>.inl (x.1,x.1,v)
  | .inr p=>.inr (p,x1.2,x.1)):=by
  unfold xc at hy
  cases hrd:j8 F x.2 b1.1 b1.2 with
  | none=>rw[hrd] at hy;cases hy
  | some c=>
   rw[hrd] at hy
   cases c with
   | inr p=>cases hy;rfl
   | inl c=>
    simp only[Option.bind_some,bu] at hy ⊢
    split at hy
    ·next hc=>
     rw[if_pos hc]
     cases hf:aQ F 280 c.1 with
     | none=>rw[hf] at hy;cases hy
     | some d=>
      rw[hf] at hy
      cases d<;>(cases hy;rfl)
    ·next hc=>
     rw[if_neg hc]
     cases hy
     rfl
 intro a w hr
 refine iY (B0:=BB (mx:=mx)) (L:=LL) (G:=[(((ka F).sw 1 122).sw 2 1).sw 3 2,(bD F).sw 1 122]) (F:=F) (fr:=⟨67,[1,104,107,122],[]⟩) rfl rfl ⟨(((yH F).sw 1 122).sw 2 1).sw 3 2,(bW F).sw 1 122,trivial⟩ _ (.two (.no) (.two (.two (.iF [⟨0,[6],[]⟩,⟨1,[54],[]⟩,⟨2,[55],[]⟩,⟨3,[56],[122]⟩,⟨4,[6],[]⟩,⟨5,[58],[]⟩,⟨6,[59],[]⟩,⟨7,[60],[122]⟩,⟨8,[61],[]⟩] [9] []) (.no)) (.no))) (bV _ rfl) ⟨[],[],[]⟩ (AE x1.2 x.1 x.2 b1) (fun _=>none) (fun t s'=>match t with
  | none=>if qB s' [(4,104)]=true then (Er s' [.b 104 38 (.st .Problem),.b 107 38 (.st .Problem),.x 1 51 .Source 2,.r 2 48 (.st .aA)]).bind fun z=>some (Sum.inl z) else none
  | some _=>none) (fun p sv=>if qB sv [(4,104)]=true then (Er sv [.b 104 38 (.st .Problem),.b 107 38 (.st .Problem)]).bind fun z=>some (.inr (p,z)) else none) _ _ (Eq.trans (by kernel_rfl) hmS) (fun s' _ e=>by cases e) (fun t s' _ e=>?_) (fun p' sv e=>?_) a w hr
 ·cases t with
  | some i=>cases e
  | none=>
   simp only at e
   split at e
   ·next hp=>
    obtain⟨z,hz,e1⟩:=aK e
    cases y with
    | inr p'=>cases e1
    | inl v=>
     cases e1
     cases h4
     refine fun a w hR=>Fin.Fk (own_c:=lh x.1 x.1) (own_c':=lh x.1 x.1) (post':=Is (wP v) (.b (.agg (aS x.1)))) b0 b2 Cw (.inl rfl) ⟨Tryz.call32⟩ rfl rfl ⟨rfl,rfl,trivial⟩ rfl rfl (rE rfl rfl rfl rfl) ?_ a w (Ad hp hz hR)
     exact Fin.kW (wP v) [.agg (aS x.1)] (.inl rfl) rfl (.cons (.agg a33 rfl rfl rfl rfl) .nil) (fun p hp=>List.mem_append_left (lh x.1 x.1) hp) ⟨rfl,rfl⟩
   ·cases e
 ·split at e
  ·next hp=>
   obtain⟨z,hz,e1⟩:=aK e
   cases y with
   | inl v=>cases e1
   | inr p0=>
    cases e1
    cases h4
    intro hok
    refine fun a w hR=>Fin.ug (own_c:=lh x.1 x1.2) (own_c':=lh x.1 (qZ x.1 p')) (post':=Is [] (.b (.agg (aS (qZ x.1 p'))))) b0 b2 (Bh hok) ⟨Tryz.call32⟩ rfl rfl ⟨rfl,rfl,trivial⟩ rfl rfl (rE rfl rfl rfl rfl) ?_ a w (Ad hp hz hR)
    exact Fin.kW [] [.agg (aS (qZ x.1 p'))] (.inl rfl) rfl (.cons (.agg a33 rfl rfl rfl rfl) .nil) (fun p hp=>by cases hp) ⟨rfl,rfl⟩
  ·cases e
end Go.Dn
namespace Go.Dn
open Go Go.Sk Go.Proofs X
set_option maxRecDepth 100000
section
variable {mx:Int} {F:Nat} {s:Str}
def kM (F:Nat) (s:Str):Option (ab×Problem):=Option.bind (vF F s fZ) fun q=>if q.1.E≠0 then some (fZ,q.1) else q.2.bind fun v=>some (v,q.1)
def vq (F:Nat):bK DD pk:=⟨6,[.d .str],[],[],[],[.st .ab,.st .Problem],true,false,false,false,fun a l=>kM F a.1⟩
def u4 (s:Str):bG DD:=⟨[(0,.n (.d .str s))],[],[]⟩
def u4a (s:Str):bG DD:=⟨[(0,.n (.d .str s)),(2,.n (.p (.ptr 102 0))),(3,.n (.p (.ptr 103 0)))],[(102,.box 35 (.st .ab) fZ),(103,.box 38 (.st .Problem) ⟨0,0⟩)],[]⟩
def u4b (s:Str):bG DD:=⟨[(0,.n (.d .str s)),(2,.n (.p (.ptr 102 0))),(3,.n (.p (.ptr 103 0))),(4,.n (.p (.ptr 104 0)))],[(102,.box 35 (.st .ab) fZ),(103,.box 38 (.st .Problem) ⟨0,0⟩),(104,.box 35 (.st .ab) fZ)],[]⟩
def u4c (p:Problem) (l:List (Nat×TO DD)):bG DD:=⟨[(8,.n (.d (.st .Problem) p)),(2,.n (.p (.ptr 102 0))),(3,.n (.p (.ptr 103 0))),(4,.n (.p (.ptr 104 0)))],[(102,.box 35 (.st .ab) fZ),(103,.box 38 (.st .Problem) ⟨0,0⟩)]++l,[]⟩
def u4d (p:Problem) (l:List (Nat×TO DD)):bG DD:=⟨[(2,.n (.p (.ptr 102 0))),(3,.n (.p (.ptr 103 0))),(4,.n (.p (.ptr 104 0))),(5,.n (.p (.ptr 105 0)))],[(102,.box 35 (.st .ab) fZ),(103,.box 38 (.st .Problem) ⟨0,0⟩)]++l++[(105,.box 38 (.st .Problem) p)],[]⟩
theorem G7 {r:ab×Problem} (h:kM F s=some r):aI Tryz.prog (ax mx) 6 [] [.one (.str s)] (Is [] (.lC [.agg (gX r.1),.agg (aS r.2)])):=by
 obtain⟨⟨p,o⟩,hq,h1⟩:=aK h
 refine aI.intro 16 Tryz.func6 Tryz.ntmps6 rfl (zab rfl) fun E=>?_
 show ah _ E ⟨16,[],[],[]⟩ _ (u4 s).st _
 have hm:aI Tryz.prog (ax mx) 13 [(104,.box 35 (gX fZ))] [.one (.str s),.cJ 14 [] [.ptr 104 0]] (Is (match o with|some v=>[(104,.box 35 (gX v))]|none=>[]) (.b (.agg (aS p)))):=by
  have:=aI.sw (B6 (mx:=mx) hq) 1 104
  cases o<;>exact this
 refine ah.seq (xI (fr:=⟨16,[],[]⟩) (F:=F) (G:=[]) (an:=.no) (cs:=⟨[0],[],[]⟩) (ps:=[(2,102),(3,103)]) (ks:=[.b 102 35 (.st .ab),.b 103 38 (.st .Problem)]) (z:=(fZ,(⟨0,0⟩:Problem))) (m:=some (fZ,(⟨0,0⟩:Problem))) rfl rfl trivial (by kernel_rfl) rfl (Fin.then ?_))
 refine ah.aF (u4a s).st rfl ?_
 refine ah.seq (xI (fr:=⟨16,[],[]⟩) (F:=F) (G:=[]) (an:=.no) (cs:=⟨[0,2,3],[102,103],[]⟩) (ps:=[(4,104)]) (ks:=[.b 104 35 (.st .ab)]) (z:=fZ) (m:=some fZ) rfl rfl trivial (by kernel_rfl) rfl (Fin.then ?_))
 refine ah.aF (u4b s).st rfl ?_
 have l30:(gX r.1).length=DD.n .ab:=DD.len .ab r.1
 have fin:∀ (l:List (Nat×TO DD)) (m:Option (PT DD []⊕PT DD [.b 102 35 (.st .ab),.b 103 38 (.st .Problem)])),m=some (.inr r)->(∀ c,c=F8 3 ((Tryz.f6.body).getD .skip)->ic (BB (mx:=mx)) LL ([]:List (bK DD pk)) ⟨16,[],[]⟩ F c ((.two (.two (.no) (.two (.two (.iF [⟨0,[],[]⟩,⟨1,[5],[105]⟩,⟨2,[2,12],[102]⟩] [3] []) (.no)) (.no))) (.two (.iF [⟨0,[4],[104]⟩,⟨1,[5],[105]⟩,⟨2,[2,14],[102]⟩] [3] []) (.no)))) ((⟨[],[],[]⟩:Kept).add ⟨[],[],[]⟩) (u4d p l) (fun s'=>if qB s' []=true then (pj s' (⟨[],[],[]⟩:Kept).r []).bind fun z=>some (.inl z) else none) (fun t s'=>match t with
  | none=>if qB s' [(2,102),(3,103)]=true then (Er s' [.b 102 35 (.st .ab),.b 103 38 (.st .Problem)]).bind fun z=>some (.inr z) else none
  | some _=>none) (fun _ _=>none)=m)->ah Tryz.prog E ⟨16,[],[],[]⟩ (F8 3 ((Tryz.f6.body).getD .skip)) (u4d p l).st (zI Tryz.prog Tryz.f6 E ⟨16,[],[],[]⟩ (Is [] (.lC [.agg (gX r.1),.agg (aS r.2)]))):=fun l m hm hd=>by
  refine denW (fr:=⟨16,[],[]⟩) (F:=F) (G:=[]) (an:=(.two (.two (.no) (.two (.two (.iF [⟨0,[],[]⟩,⟨1,[5],[105]⟩,⟨2,[2,12],[102]⟩] [3] []) (.no)) (.no))) (.two (.iF [⟨0,[4],[104]⟩,⟨1,[5],[105]⟩,⟨2,[2,14],[102]⟩] [3] []) (.no)))) (cs:=⟨[],[],[]⟩) (ps:=[]) (ks:=[]) (ps2:=[(2,102),(3,103)]) (ks2:=[.b 102 35 (.st .ab),.b 103 38 (.st .Problem)]) rfl rfl trivial (hd _ rfl) hm (fun z hz=>by cases hz) (fun z hz=>?_)
  cases hz
  exact Fin.kW [] [.agg (gX r.1),.agg (aS r.2)] (.inl rfl) rfl (.cons (.agg (m:=DD.n .ab) ((BB (mx:=mx)).tok 35 (.st .ab) rfl) rfl rfl (by
   show List.take (DD.n .ab) (List.drop 0 (gX r.1))=_
   rw[List.drop_zero,← l30,List.take_length]) l30) (.cons (.agg a33 rfl rfl rfl rfl) .nil)) (fun p hp=>by cases hp) ⟨rfl,rfl⟩
 refine ah.seq (ah.ae ?_)
 refine Oc om (Oc (eN (fs:=[]) (cs:=[.ptr 104 0]) rfl rfl) ?_)
 cases o with
 | none=>
  refine Oc (dN hm ⟨Tryz.call13⟩ rfl ⟨rfl,trivial⟩ rfl rfl) ?_
  refine aj.aF (u4c p []).st rfl ?_
  refine JU (fr:=⟨16,[],[]⟩) (cs:=⟨[2,3,4],[102,103],[]⟩) (ps:=[(5,105)]) (ks:=[.b 105 38 (.st .Problem)]) (z:=p) (G:=[]) rfl rfl trivial (by kernel_rfl) (Fin.then ?_)
  refine ah.aF (u4d p []).st rfl ?_
  refine fin [] (if decide (p.E≠0)=true then some (.inr (fZ,p)) else none) ?_ (fun c hc=>by subst hc;kernel_rfl)
  simp only[Option.bind_none] at h1
  split at h1
  next hE=>cases h1;exact if_pos (decide_eq_true hE)
  cases h1
 | some v=>
  refine Oc (dN hm ⟨Tryz.call13⟩ rfl ⟨rfl,trivial⟩ rfl rfl) ?_
  refine aj.aF (u4c p [(104,.box 35 (.st .ab) v)]).st rfl ?_
  refine JU (fr:=⟨16,[],[]⟩) (cs:=⟨[2,3,4],[102,103,104],[]⟩) (ps:=[(5,105)]) (ks:=[.b 105 38 (.st .Problem)]) (z:=p) (G:=[]) rfl rfl trivial (by kernel_rfl) (Fin.then ?_)
  refine ah.aF (u4d p [(104,.box 35 (.st .ab) v)]).st rfl ?_
  refine fin [(104,.box 35 (.st .ab) v)] (if decide (p.E≠0)=true then some (.inr (fZ,p)) else some (.inr (v,p))) ?_ (fun c hc=>by subst hc;kernel_rfl)
  simp only[Option.bind_some] at h1
  split at h1
  next hE=>cases h1;exact if_pos (decide_eq_true hE)
  next hE=>cases h1;exact if_neg (by simpa using hE)
theorem Cc (F:Nat):av Tryz.prog (ax mx) (vq F):=n6 ⟨Tryz.call6⟩ fun a r h=>G7 (mx:=mx) (F:=F) h
def k7 (F:Nat) (s:Str):Option Bool:=if s=[] then some true else none
def sI (F:Nat):bK DD pk:=⟨112,[.d .str],[],[],[],[.bool],true,false,false,false,fun a l=>k7 F a.1⟩
theorem D7 {r:Bool} (h:k7 F s=some r):aI Tryz.prog (ax mx) 112 [] [.one (.str s)] (Is [] (.b (.one (.bool r)))):=by
 unfold k7 at h
 split at h
 next hs=>
  subst hs
  cases h
  refine aI.intro 18 Tryz.func112 Tryz.ntmps112 rfl (zab rfl) fun E=>?_
  show ah _ E ⟨18,[],[],[]⟩ _ ⟨[(0,.b (.one (.str [])))],[]⟩ _
  refine ah.seq (ah.ae (Oc oa (aj.aV ⟨[(0,.b (.one (.str [])))],[]⟩ rfl ?_)))
  refine ah.seq (xI (fr:=⟨18,[],[]⟩) (F:=F) (G:=[]) (an:=.no) (s:=⟨[(0,.n (.d .str []))],[],[]⟩) (cs:=⟨[0],[],[]⟩) (ps:=[(3,103)]) (ks:=[.b 103 9 .str]) (z:=([]:Str)) (m:=some ([]:Str)) rfl rfl trivial (by kernel_rfl) rfl (Fin.then ?_))
  refine ah.seq (ah.ae ?_)
  refine aj.aF (bG.st (D:=DD) ⟨[(0,.n (.d .str [])),(3,.n (.p (.ptr 103 0)))],[(103,.box 9 .str [])],[]⟩) rfl ?_
  refine Oc om (Oc (vK (u:=[]) (v:=[]) rfl rfl) (Oc om ?_))
  refine aj.p7 (z:=.one (.bool true)) false 99 [] (.plain (b:=true) rfl) rfl rfl rfl (fun e=>by cases e) (fun e=>by cases e) ?_
  refine aj.p7 (z:=.one (.bool true)) false 99 [] (.plain (b:=true) rfl) rfl rfl rfl (fun e=>by cases e) (fun e=>by cases e) ?_
  refine aj.p7 (z:=.one (.bool true)) false 99 [] (.plain (b:=true) rfl) rfl rfl rfl (fun e=>by cases e) (fun e=>by cases e) ?_
  refine aj.p7 (z:=.one (.bool true)) false 99 [] (.plain (b:=true) rfl) rfl rfl rfl (fun e=>by cases e) (fun e=>by cases e) ?_
  refine aj.p7 (z:=.one (.bool true)) false 99 [] (.plain (b:=true) rfl) rfl rfl rfl (fun e=>by cases e) (fun e=>by cases e) ?_
  refine aj.p7 (z:=.one (.bool true)) false 99 [] (.plain (b:=true) rfl) rfl rfl rfl (fun e=>by cases e) (fun e=>by cases e) ?_
  refine aj.p7 (z:=.one (.bool true)) false 99 [] (.under (c:=false) (b:=true) rfl) rfl rfl rfl (fun e=>by cases e) (fun e=>by cases e) ?_
  refine aj.p7 (z:=.one (.bool true)) false 99 [] (.under (c:=false) (b:=true) rfl) rfl rfl rfl (fun e=>by cases e) (fun e=>by cases e) ?_
  refine aj.p7 (z:=.one (.bool true)) false 99 [] (.under (c:=false) (b:=true) rfl) rfl rfl rfl (fun e=>by cases e) (fun e=>by cases e) ?_
  refine aj.p7 (z:=.one (.bool true)) false 99 [] (.plain (b:=true) rfl) rfl rfl rfl (fun e=>by cases e) (fun e=>by cases e) ?_
  refine Oc (fI (b:=true) (gd:=false) (z:=true) (fun e=>by cases e) rfl rfl rfl rfl) (Oc oa (aj.aV ⟨[(2,B true)],[]⟩ rfl ?_))
  exact ah.ret (Fin.result [.one (.bool true)] (.inl rfl) rfl (.cons (.tmp rfl) .nil) ⟨rfl,rfl⟩)
 cases h
theorem zB (F:Nat):av Tryz.prog (ax mx) (sI F):=n6 ⟨Tryz.call112⟩ fun a r h=>D7 (mx:=mx) (F:=F) h
def hC (F:Nat) (s:Str):Option (Source×Problem):=Option.bind (yV F s (gj,[])) fun q=>if q.1.E≠0 then some (gj,q.1) else q.2.bind fun v=>some ({ v.1 with Code:=v.2 },q.1)
def js (F:Nat):bK DD pk:=⟨11,[.d .str],[],[],[],[.st .Source,.st .Problem],true,false,false,false,fun a l=>hC F a.1⟩
def u12 (s:Str):bG DD:=⟨[(0,.n (.d .str s))],[],[]⟩
def u12a (s:Str):bG DD:=⟨[(0,.n (.d .str s)),(2,.n (.p (.ptr 102 0))),(3,.n (.p (.ptr 103 0)))],[(102,.box 51 (.st .Source) gj),(103,.box 38 (.st .Problem) ⟨0,0⟩)],[]⟩
def u12b (s:Str):bG DD:=⟨[(0,.n (.d .str s)),(2,.n (.p (.ptr 102 0))),(3,.n (.p (.ptr 103 0))),(4,.n (.p (.ptr 104 0)))],[(102,.box 51 (.st .Source) gj),(103,.box 38 (.st .Problem) ⟨0,0⟩),(104,.x 51 .Source 104 100104 false gj),(100104,.row 48 (.st .aA) [])],[]⟩
def u12c (p:Problem) (l:List (Nat×TO DD)):bG DD:=⟨[(8,.n (.d (.st .Problem) p)),(2,.n (.p (.ptr 102 0))),(3,.n (.p (.ptr 103 0))),(4,.n (.p (.ptr 104 0)))],[(102,.box 51 (.st .Source) gj),(103,.box 38 (.st .Problem) ⟨0,0⟩)]++l,[]⟩
def Eu (p:Problem) (l:List (Nat×TO DD)):bG DD:=⟨[(2,.n (.p (.ptr 102 0))),(3,.n (.p (.ptr 103 0))),(4,.n (.p (.ptr 104 0))),(5,.n (.p (.ptr 105 0)))],[(102,.box 51 (.st .Source) gj),(103,.box 38 (.st .Problem) ⟨0,0⟩)]++l++[(105,.box 38 (.st .Problem) p)],[]⟩
theorem FQ {r:Source×Problem} (h:hC F s=some r):aI Tryz.prog (ax mx) 11 [] [.one (.str s)] (Is [] (.lC [.agg (ng r.1),.agg (aS r.2)])):=by
 obtain⟨⟨p,o⟩,hq,h1⟩:=aK h
 refine aI.intro 16 Tryz.func11 Tryz.ntmps11 rfl (zab rfl) fun E=>?_
 show ah _ E ⟨16,[],[],[]⟩ _ (u12 s).st _
 have hm:aI Tryz.prog (ax mx) 13 (bw (b9 (D:=DD) false [104,100104] [.x 51 .Source,.r 48 (.st .aA)] ((gj,([]:List aA)).1,(gj,([]:List aA)).2,()))) [.one (.str s),.cJ 25 [] [.ptr 104 0]] (Is (match o with|some v=>(bw (b9 (D:=DD) false [104,100104] [.x 51 .Source,.r 48 (.st .aA)] (v.1,v.2,())))|none=>[]) (.b (.agg (aS p)))):=by
  have:=aI.sw (aI.sw (BH (mx:=mx) hq) 1 104) 2 100104
  cases o<;>exact this
 refine ah.seq (xI (fr:=⟨16,[],[]⟩) (F:=F) (G:=[]) (an:=.no) (cs:=⟨[0],[],[]⟩) (ps:=[(2,102),(3,103)]) (ks:=[.b 102 51 (.st .Source),.b 103 38 (.st .Problem)]) (z:=(gj,(⟨0,0⟩:Problem))) (m:=some (gj,(⟨0,0⟩:Problem))) rfl rfl trivial (by kernel_rfl) rfl (Fin.then ?_))
 refine ah.aF (u12a s).st rfl ?_
 refine ah.seq (xI (fr:=⟨16,[],[4]⟩) (F:=F) (G:=[]) (an:=.no) (cs:=⟨[0,2,3],[102,103],[]⟩) (ps:=[(4,104)]) (ks:=[.x 104 51 .Source 100104,.r 100104 48 (.st .aA)]) (z:=(gj,[])) (m:=some (gj,[])) rfl rfl trivial (by kernel_rfl) rfl (Fin.then ?_))
 refine ah.aF (u12b s).st rfl ?_
 have l30:(ng r.1).length=DD.n .Source:=DD.len .Source r.1
 have fin:∀ (l:List (Nat×TO DD)) (m:Option (PT DD []⊕PT DD [.b 102 51 (.st .Source),.b 103 38 (.st .Problem)])),m=some (.inr r)->(∀ c,c=F8 3 ((Tryz.f11.body).getD .skip)->ic (BB (mx:=mx)) LL ([]:List (bK DD pk)) ⟨16,[],[]⟩ F c ((.two (.two (.no) (.two (.two (.iF [⟨0,[],[]⟩,⟨1,[5],[105]⟩,⟨2,[2,12],[102]⟩] [3] []) (.no)) (.no))) (.two (.iF [⟨0,[4],[104]⟩,⟨1,[5],[105]⟩,⟨2,[2,14],[102]⟩] [3] []) (.no)))) ((⟨[],[],[]⟩:Kept).add ⟨[],[],[]⟩) (Eu p l) (fun s'=>if qB s' []=true then (pj s' (⟨[],[],[]⟩:Kept).r []).bind fun z=>some (.inl z) else none) (fun t s'=>match t with
  | none=>if qB s' [(2,102),(3,103)]=true then (Er s' [.b 102 51 (.st .Source),.b 103 38 (.st .Problem)]).bind fun z=>some (.inr z) else none
  | some _=>none) (fun _ _=>none)=m)->ah Tryz.prog E ⟨16,[],[],[]⟩ (F8 3 ((Tryz.f11.body).getD .skip)) (Eu p l).st (zI Tryz.prog Tryz.f11 E ⟨16,[],[],[]⟩ (Is [] (.lC [.agg (ng r.1),.agg (aS r.2)]))):=fun l m hm hd=>by
  refine denW (fr:=⟨16,[],[]⟩) (F:=F) (G:=[]) (an:=(.two (.two (.no) (.two (.two (.iF [⟨0,[],[]⟩,⟨1,[5],[105]⟩,⟨2,[2,12],[102]⟩] [3] []) (.no)) (.no))) (.two (.iF [⟨0,[4],[104]⟩,⟨1,[5],[105]⟩,⟨2,[2,14],[102]⟩] [3] []) (.no)))) (cs:=⟨[],[],[]⟩) (ps:=[]) (ks:=[]) (ps2:=[(2,102),(3,103)]) (ks2:=[.b 102 51 (.st .Source),.b 103 38 (.st .Problem)]) rfl rfl trivial (hd _ rfl) hm (fun z hz=>by cases hz) (fun z hz=>?_)
  cases hz
  exact Fin.kW [] [.agg (ng r.1),.agg (aS r.2)] (.inl rfl) rfl (.cons (.agg (m:=DD.n .Source) ((BB (mx:=mx)).tok 51 (.st .Source) rfl) rfl rfl (by
   show List.take (DD.n .Source) (List.drop 0 (ng r.1))=_
   rw[List.drop_zero,← l30,List.take_length]) l30) (.cons (.agg a33 rfl rfl rfl rfl) .nil)) (fun p hp=>by cases hp) ⟨rfl,rfl⟩
 refine ah.seq (ah.ae ?_)
 refine Oc om (Oc (eN (fs:=[]) (cs:=[.ptr 104 0]) rfl rfl) ?_)
 cases o with
 | none=>
  refine Oc (dN hm ⟨Tryz.call13⟩ rfl ⟨rfl,rfl,trivial⟩ rfl rfl) ?_
  refine aj.aF (u12c p []).st rfl ?_
  refine JU (fr:=⟨16,[],[]⟩) (cs:=⟨[2,3,4],[102,103],[]⟩) (ps:=[(5,105)]) (ks:=[.b 105 38 (.st .Problem)]) (z:=p) (G:=[]) rfl rfl trivial (by kernel_rfl) (Fin.then ?_)
  refine ah.aF (Eu p []).st rfl ?_
  refine fin [] (if decide (p.E≠0)=true then some (.inr (gj,p)) else none) ?_ (fun c hc=>by subst hc;kernel_rfl)
  simp only[Option.bind_none] at h1
  split at h1
  next hE=>cases h1;exact if_pos (decide_eq_true hE)
  cases h1
 | some v=>
  refine Oc (dN hm ⟨Tryz.call13⟩ rfl ⟨rfl,rfl,trivial⟩ rfl rfl) ?_
  refine aj.aF (u12c p [(104,.x 51 .Source 104 100104 false v.1),(100104,.row 48 (.st .aA) v.2)]).st rfl ?_
  refine JU (fr:=⟨16,[],[]⟩) (cs:=⟨[2,3,4],[102,103,104,100104],[]⟩) (ps:=[(5,105)]) (ks:=[.b 105 38 (.st .Problem)]) (z:=p) (G:=[]) rfl rfl trivial (by kernel_rfl) (Fin.then ?_)
  refine ah.aF (Eu p [(104,.x 51 .Source 104 100104 false v.1),(100104,.row 48 (.st .aA) v.2)]).st rfl ?_
  have himp:∀ a w,R E ⟨16,[],[],[]⟩ (Eu p [(104,.x 51 .Source 104 100104 false v.1),(100104,.row 48 (.st .aA) v.2)]).st a w->R E ⟨16,[],[],[]⟩ (impS (D:=DD) 104 100104 51 .Source (.st .aA) v.2 ({ v.1 with Code:=v.2 }:Source) (Eu p [(104,.x 51 .Source 104 100104 false v.1),(100104,.row 48 (.st .aA) v.2)])).st a w:=fun a w hr=>imp_R (L:=LL) (off:=1) rfl rfl (by decide) rfl rfl rfl (by kernel_rfl) hr
  suffices key:ah Tryz.prog E ⟨16,[],[],[]⟩ (F8 3 ((Tryz.f11.body).getD .skip)) (Eu p [(104,.box 51 (.st .Source) { v.1 with Code:=v.2 })]).st (zI Tryz.prog Tryz.f11 E ⟨16,[],[],[]⟩ (Is [] (.lC [.agg (ng r.1),.agg (aS r.2)]))) from fun a w hr=>(ah.aF (Eu p [(104,.box 51 (.st .Source) { v.1 with Code:=v.2 })]).st rfl key) a w (himp a w hr)
  refine fin [(104,.box 51 (.st .Source) { v.1 with Code:=v.2 })] (if decide (p.E≠0)=true then some (.inr (gj,p)) else some (.inr (({ v.1 with Code:=v.2 }:Source),p))) ?_ (fun c hc=>by subst hc;kernel_rfl)
  simp only[Option.bind_some] at h1
  split at h1
  next hE=>cases h1;exact if_pos (decide_eq_true hE)
  next hE=>cases h1;exact if_neg (by simpa using hE)
theorem lT (F:Nat):av Tryz.prog (ax mx) (js F):=n6 ⟨Tryz.call11⟩ fun a r h=>FQ (mx:=mx) (F:=F) h
end
end Go.Dn
namespace Go.Dn
open Go Go.Sk
open X
def cf (F:Nat) (v0:List Int):Option (List Int):=Option.bind (iter F (fun (x3:Int)=>(bA (decide ((0:Int)<x3)) fun x4=>Option.bind (aW x4 (aD v0 (i64.wrap (x3-(1:Int))))) fun x6=>(if (x4&&(decide (x6=(0:Int))))=true then some (.inl (i64.wrap (x3-(1:Int)))) else some (.inr x3)):Option (Int⊕Int))) (v0.length:Int)) (fun x10=>Option.bind (s6 v0 x10) fun x11=>some x11)
def dc (F:Nat)  : Option bc:=some (⟨true,false,(⟨(0:Int),(0:Int),(0:Int),(0:Int),(0:Int),(0:Int),(0:Int),(0:Int),(0:Int),(0:Int),(0:Int),(0:Int),(0:Int),(0:Int),(0:Int),(0:Int)⟩:aY)⟩:bc)
def cm (F:Nat) (neg:Bool) (v1:List Int):Option bc:=Option.bind (cf F v1) fun x1=>(if (decide ((32:Int)<(x1.length:Int)))=true then Option.bind (dc F) fun x4=>some x4 else Option.bind (iter F (fun (x8:Int×bc)=>((if (decide (x8.1<(x1.length:Int)))=true then Option.bind (lG x8.1 (2:Int)) fun x11=>(if (decide (x11=(0:Int)))=true then Option.bind (o9 .i64 x8.1 (2:Int)) fun x13=>Option.bind (o9 .i64 x8.1 (2:Int)) fun x14=>Option.bind (aD (aY.al x8.2.W) x14) fun x15=>Option.bind (aD (aY.al x8.2.W) x14) fun x16=>Option.bind (aD x1 x8.1) fun x17=>Option.bind (aD (aY.al x8.2.W) x13) fun x20=>Option.bind (aD (aY.al x8.2.W) x13) fun x21=>some (.inl ((i64.wrap (x8.1+(1:Int))),{ x8.2 with W:=aY.ao ((aY.al x8.2.W).set x13.toNat (u32.wrap (x16+(u32.wrap x17)))) })) else Option.bind (o9 .i64 x8.1 (2:Int)) fun x23=>Option.bind (o9 .i64 x8.1 (2:Int)) fun x24=>Option.bind (aD (aY.al x8.2.W) x24) fun x25=>Option.bind (aD (aY.al x8.2.W) x24) fun x26=>Option.bind (aD x1 x8.1) fun x27=>Option.bind (aD (aY.al x8.2.W) x23) fun x31=>Option.bind (aD (aY.al x8.2.W) x23) fun x32=>some (.inl ((i64.wrap (x8.1+(1:Int))),{ x8.2 with W:=aY.ao ((aY.al x8.2.W).set x23.toNat (u32.wrap (x26+(u32.wrap ((u32.wrap x27)*(65536:Int)))))) }))) else some (.inr x8.2)):Option ((Int×bc)⊕bc))) ((0:Int),(⟨false,(neg&&(decide ((0:Int)<(x1.length:Int)))),(⟨(0:Int),(0:Int),(0:Int),(0:Int),(0:Int),(0:Int),(0:Int),(0:Int),(0:Int),(0:Int),(0:Int),(0:Int),(0:Int),(0:Int),(0:Int),(0:Int)⟩:aY)⟩:bc))) (fun x34=>some x34))
def bS (F:Nat) (v0:List Int) (k:Int):Option Int:=(if (decide (k<(v0.length:Int)))=true then Option.bind (aD v0 k) fun x3=>some x3 else some (0:Int))
def ju (F:Nat) (v0:List Int) (b:List Int):Option (List Int):=Option.bind (iter F (fun (x2:Int×Int×(List Int))=>((if (decide (x2.2.1<(i64.wrap ((max (v0.length:Int) (b.length:Int))+(1:Int)))))=true then Option.bind (bS F v0 x2.2.1) fun x8=>Option.bind (bS F b x2.2.1) fun x9=>bA (i64.wrap ((i64.wrap (x8+x9))+x2.1)) fun x11=>Option.bind (lG x11 (65536:Int)) fun x12=>Option.bind (bU x2.2.2 ([x12]:List Int)) fun x14=>Option.bind (o9 .i64 x11 (65536:Int)) fun x15=>some (.inl (x15,(i64.wrap (x2.2.1+(1:Int))),x14)) else some (.inr x2.2.2)):Option ((Int×Int×(List Int))⊕(List Int)))) ((0:Int),(0:Int),([]:List Int))) (fun x17=>Option.bind (cf F x17) fun x18=>some x18)
def eF (F:Nat) (n:Int):Option bc:=(if (decide ((0:Int)<=n))=true then Option.bind (lG n (65536:Int)) fun x2=>Option.bind (o9 .i64 n (65536:Int)) fun x3=>Option.bind (lG x3 (65536:Int)) fun x4=>Option.bind (o9 .i64 n (4294967296:Int)) fun x5=>Option.bind (lG x5 (65536:Int)) fun x6=>Option.bind (o9 .i64 n (281474976710656:Int)) fun x7=>Option.bind (cm F false ([x2,x4,x6,x7]:List Int)) fun x9=>some x9 else bA (i64.wrap (-(i64.wrap (n+(1:Int))))) fun x11=>Option.bind (lG x11 (65536:Int)) fun x12=>Option.bind (o9 .i64 x11 (65536:Int)) fun x13=>Option.bind (lG x13 (65536:Int)) fun x14=>Option.bind (o9 .i64 x11 (4294967296:Int)) fun x15=>Option.bind (lG x15 (65536:Int)) fun x16=>Option.bind (o9 .i64 x11 (281474976710656:Int)) fun x17=>Option.bind (ju F ([x12,x14,x16,x17]:List Int) ([(1:Int)]:List Int)) fun x20=>Option.bind (cm F true x20) fun x21=>some x21)
def ml (F:Nat) (x:bc):Option Bool:=Option.bind (iter F (fun (x1:Bool×Int)=>((if (decide (x1.2<(16:Int)))=true then Option.bind (aW x1.1 (aD (aY.al x.W) x1.2)) fun x3=>Option.bind (aW x1.1 (aD (aY.al x.W) x1.2)) fun x4=>some (.inl ((x1.1&&(decide (x4=(0:Int)))),(i64.wrap (x1.2+(1:Int))))) else some (.inr x1.1)):Option ((Bool×Int)⊕Bool))) (true,(0:Int))) (fun x8=>(if x.Bad=true then some (x8&&(!x.Neg)) else some ((!x8)||(!x.Neg))))
def bJ (F:Nat) (x:bc):Option Bool:=Option.bind (ml F x) fun x1=>some (x1&&(!x.Bad))
def bO (F:Nat) (x:bc):Option (List Int):=Option.bind (iter F (fun (x2:Int×(List Int))=>((if (decide (x2.1<(16:Int)))=true then Option.bind (aD (aY.al x.W) x2.1) fun x4=>Option.bind (aD (aY.al x.W) x2.1) fun x5=>Option.bind (lG x5 (65536:Int)) fun x6=>Option.bind (aD (aY.al x.W) x2.1) fun x8=>Option.bind (aD (aY.al x.W) x2.1) fun x9=>Option.bind (o9 .u32 x9 (65536:Int)) fun x10=>Option.bind (bU x2.2 ([(i64.wrap x6),(i64.wrap x10)]:List Int)) fun x13=>some (.inl ((i64.wrap (x2.1+(1:Int))),x13)) else some (.inr x2.2)):Option ((Int×(List Int))⊕(List Int)))) ((0:Int),([]:List Int))) (fun x15=>Option.bind (cf F x15) fun x16=>some x16)
def jv (F:Nat) (x:bc):Option Int:=Option.bind (bJ F x) fun x1=>bA (!x1) fun x2=>Option.bind (aW (!x2) (bO F x)) fun x3=>(if (x2||(decide ((x3.length:Int)=(0:Int))))=true then some (0:Int) else (if x.Neg=true then some (-1:Int) else some (1:Int)))
def oe (F:Nat)  : Option bc:=Option.bind (eF F (1:Int)) fun x1=>some x1
def og (F:Nat)  : Option eE:=Option.bind (dc F) fun x1=>Option.bind (oe F) fun x2=>some (⟨x1,x2⟩:eE)
def eP (F:Nat) (x:bc):Option (Int×Bool):=Option.bind (bJ F x) fun x1=>bA (!x1) fun x2=>Option.bind (aW (!x2) (aD (aY.al x.W) (1:Int))) fun x3=>Option.bind (aW (!x2) (aD (aY.al x.W) (1:Int))) fun x4=>(if (x2||(decide ((1073741824:Int)<=x4)))=true then some ((0:Int),false) else Option.bind (iter F (fun (x7:Int)=>((if (decide (x7<(16:Int)))=true then Option.bind (aD (aY.al x.W) x7) fun x9=>Option.bind (aD (aY.al x.W) x7) fun x10=>(if (decide (x10≠(0:Int)))=true then some (.inr (.inr ((0:Int),false))) else some (.inl (i64.wrap (x7+(1:Int))))) else some (.inr (.inl ()))):Option (Int⊕(Unit⊕(Int×Bool))))) (2:Int)) (cz (fun x13=>bA (i64.wrap ((i64.wrap ((i64.wrap x.W.a1)*(4294967296:Int)))+(i64.wrap x.W.a0))) fun x17=>(if x.Neg=true then some ((i64.wrap (-x17)),true) else some (x17,true))) (fun x19=>some (x19.1,x19.2))))
def oo (F:Nat) (x:bc):Option bc:=Option.bind (bJ F x) fun x1=>(if (!x1)=true then Option.bind (dc F) fun x3=>some x3 else Option.bind (bO F x) fun x4=>Option.bind (cm F false x4) fun x5=>some x5)
def fJ (F:Nat) (v0:List Int) (k:Int):Option Int:=(if (decide (k<(0:Int)))=true then some (0:Int) else Option.bind (bS F v0 k) fun x2=>some x2)
def mh (F:Nat) (v0:List Int) (b:List Int):Option (List Int):=bA (i64.wrap ((i64.wrap ((v0.length:Int)+(b.length:Int)))+(1:Int))) fun x5=>Option.bind (mk? (0:Int) x5 x5) fun x6=>Option.bind (iter F (fun (x7:Int×(List Int))=>((if (decide (x7.1<(v0.length:Int)))=true then Option.bind (iter F (fun (x10:Int×(List Int))=>((if (decide (x10.1<(b.length:Int)))=true then bA (i64.wrap (x7.1+x10.1)) fun x13=>bA (i64.wrap (x7.1+x10.1)) fun x14=>Option.bind (aD x10.2 x14) fun x15=>Option.bind (aD x10.2 x14) fun x16=>Option.bind (aD v0 x7.1) fun x17=>Option.bind (aD b x10.1) fun x18=>Option.bind (aD x10.2 x13) fun x21=>Option.bind (aD x10.2 x13) fun x22=>some (.inl ((i64.wrap (x10.1+(1:Int))),x10.2.set x13.toNat (i64.wrap (x16+(i64.wrap (x17*x18)))))) else some (.inr x10.2)):Option ((Int×(List Int))⊕(List Int)))) ((0:Int),x7.2)) (fun x24=>Option.bind (iter F (fun (x25:Int×Int×(List Int))=>((if (decide (x25.2.1<(x25.2.2.length:Int)))=true then Option.bind (aD x25.2.2 x25.2.1) fun x28=>Option.bind (aD x25.2.2 x25.2.1) fun x29=>bA (i64.wrap (x29+x25.1)) fun x30=>Option.bind (lG x30 (65536:Int)) fun x31=>Option.bind (aD x25.2.2 x25.2.1) fun x32=>Option.bind (aD x25.2.2 x25.2.1) fun x33=>Option.bind (o9 .i64 x30 (65536:Int)) fun x34=>some (.inl (x34,(i64.wrap (x25.2.1+(1:Int))),x25.2.2.set x25.2.1.toNat x31)) else some (.inr x25.2.2)):Option ((Int×Int×(List Int))⊕(List Int)))) ((0:Int),(0:Int),x24)) (fun x36=>some (.inl ((i64.wrap (x7.1+(1:Int))),x36)))) else some (.inr x7.2)):Option ((Int×(List Int))⊕(List Int)))) ((0:Int),x6)) (fun x38=>Option.bind (cf F x38) fun x39=>some x39)
def nA (F:Nat) (v0:List Int) (b:List Int):Option Bool:=Option.bind (iter F (fun (x5:Int)=>((if (decide ((0:Int)<=x5))=true then Option.bind (bS F v0 x5) fun x7=>Option.bind (bS F b x5) fun x8=>(if (decide (x7≠x8))=true then Option.bind (bS F v0 x5) fun x10=>Option.bind (bS F b x5) fun x11=>some (.inr (.inr (decide (x10<x11)))) else some (.inl (i64.wrap (x5-(1:Int))))) else some (.inr (.inl ()))):Option (Int⊕(Unit⊕Bool)))) (i64.wrap ((max (v0.length:Int) (b.length:Int))-(1:Int)))) (cz (fun x14=>some false) (fun x15=>some x15))
def iM (F:Nat) (v0:List Int) (b:List Int):Option (List Int):=Option.bind (iter F (fun (x2:Int×Int×(List Int))=>((if (decide (x2.2.1<(v0.length:Int)))=true then Option.bind (aD v0 x2.2.1) fun x5=>Option.bind (bS F b x2.2.1) fun x6=>bA (i64.wrap ((i64.wrap (x5-x6))-x2.1)) fun x8=>Option.bind ((if (decide (x8<(0:Int)))=true then some ((1:Int),(i64.wrap (x8+(65536:Int)))) else some ((0:Int),x8)):Option (Int×Int)) fun x11=>Option.bind (bU x2.2.2 ([x11.2]:List Int)) fun x13=>some (.inl (x11.1,(i64.wrap (x2.2.1+(1:Int))),x13)) else some (.inr x2.2.2)):Option ((Int×Int×(List Int))⊕(List Int)))) ((0:Int),(0:Int),([]:List Int))) (fun x15=>Option.bind (cf F x15) fun x16=>some x16)
def iB (F:Nat) (v0:List Int) (b:List Int):Option ((List Int)×(List Int)):=bA ((v0.length:Int)) fun x3=>Option.bind (mk? (0:Int) x3 x3) fun x4=>bA ((b.length:Int)) fun x5=>Option.bind (aD b (i64.wrap (x5-(1:Int)))) fun x7=>Option.bind (fJ F b (i64.wrap (x5-(2:Int)))) fun x10=>Option.bind (iter F (fun (x15:(List Int)×Int×(List Int))=>((if (decide ((0:Int)<=x15.2.1))=true then Option.bind (aD v0 x15.2.1) fun x17=>Option.bind (bU ([x17]:List Int) x15.1) fun x18=>Option.bind (cf F x18) fun x19=>Option.bind (fJ F x19 x5) fun x20=>Option.bind (fJ F x19 (i64.wrap (x5-(1:Int)))) fun x23=>Option.bind (fJ F x19 (i64.wrap (x5-(2:Int)))) fun x27=>Option.bind (o9 .i64 (i64.wrap ((i64.wrap ((i64.wrap (x20*(4294967296:Int)))+(i64.wrap (x23*(65536:Int)))))+x27)) (i64.wrap ((i64.wrap (x7*(65536:Int)))+x10))) fun x29=>bA (min (65535:Int) x29) fun x30=>Option.bind (mh F b ([x30]:List Int)) fun x32=>Option.bind (iter F (fun (x33:Int×(List Int))=>(Option.bind (nA F x19 x33.2) fun x34=>(if x34=true then Option.bind (iM F x33.2 b) fun x36=>some (.inl ((i64.wrap (x33.1-(1:Int))),x36)) else some (.inr (x33.1,x33.2))):Option ((Int×(List Int))⊕(Int×(List Int))))) (x30,x32)) (fun x37=>Option.bind (aD x15.2.2 x15.2.1) fun x38=>Option.bind (aD x15.2.2 x15.2.1) fun x39=>Option.bind (iM F x19 x37.2) fun x40=>some (.inl (x40,(i64.wrap (x15.2.1-(1:Int))),x15.2.2.set x15.2.1.toNat x37.1))) else some (.inr (x15.1,x15.2.2))):Option (((List Int)×Int×(List Int))⊕((List Int)×(List Int))))) (([]:List Int),(i64.wrap ((v0.length:Int)-(1:Int))),x4)) (fun x42=>Option.bind (cf F x42.2) fun x43=>some (x43,x42.1))
def oi (F:Nat) (v0:bc) (b:bc):Option bc:=Option.bind (eP F v0) fun x1=>Option.bind (eP F b) fun x2=>(if (x1.2&&x2.2)=true then Option.bind (iter F (fun (x4:Int×Int)=>((if (decide (x4.2≠(0:Int)))=true then Option.bind (lG x4.1 x4.2) fun x6=>some (.inl (x4.2,x6)) else some (.inr x4.1)):Option ((Int×Int)⊕Int))) (x1.1,x2.1)) (fun x7=>Option.bind (eF F x7) fun x8=>Option.bind (oo F x8) fun x9=>some x9) else Option.bind (bJ F v0) fun x10=>bA (!x10) fun x11=>Option.bind (aW (!x11) (bJ F b)) fun x12=>(if (x11||(!x12))=true then Option.bind (dc F) fun x15=>some x15 else Option.bind (bO F v0) fun x16=>Option.bind (bO F b) fun x17=>Option.bind (iter F (fun (x18:(List Int)×(List Int))=>((if (decide ((0:Int)<(x18.2.length:Int)))=true then Option.bind (iB F x18.1 x18.2) fun x21=>some (.inl (x18.2,x21.2)) else some (.inr x18.1)):Option (((List Int)×(List Int))⊕(List Int)))) (x16,x17)) (fun x22=>Option.bind (cm F false x22) fun x23=>some x23)))
def oh (F:Nat) (x:bc):Option bc:=Option.bind (bJ F x) fun x1=>(if (!x1)=true then Option.bind (dc F) fun x3=>some x3 else Option.bind (bO F x) fun x5=>Option.bind (cm F (!x.Neg) x5) fun x6=>some x6)
def mj (F:Nat) (n:Int) (m:Int):Option Int:=Option.bind (o9 .i64 n m) fun x1=>Option.bind (lG n m) fun x2=>(if ((decide (x2≠(0:Int)))&&((decide (n<(0:Int))) != (decide (m<(0:Int)))))=true then some (i64.wrap (x1-(1:Int))) else some x1)
def ku (F:Nat) (v0:bc) (b:bc):Option bc:=Option.bind (eP F v0) fun x1=>Option.bind (eP F b) fun x2=>(if ((x1.2&&x2.2)&&(decide (x2.1≠(0:Int))))=true then Option.bind (mj F x1.1 x2.1) fun x6=>Option.bind (eF F x6) fun x7=>some x7 else Option.bind (bJ F v0) fun x8=>bA (!x8) fun x9=>Option.bind (aW (!x9) (bJ F b)) fun x10=>bA ((x9||(!x10))) fun x12=>Option.bind (aW (!x12) (bO F b)) fun x13=>(if (x12||(decide ((x13.length:Int)=(0:Int))))=true then Option.bind (dc F) fun x17=>some x17 else Option.bind (bO F v0) fun x18=>Option.bind (bO F b) fun x19=>Option.bind (iB F x18 x19) fun x20=>Option.bind ((if ((v0.Neg != b.Neg)&&(decide ((0:Int)<(x20.2.length:Int))))=true then Option.bind (ju F x20.1 ([(1:Int)]:List Int)) fun x26=>some x26 else some x20.1):Option ((List Int))) fun x27=>Option.bind (cm F (v0.Neg != b.Neg) x27) fun x29=>some x29))
def ny (F:Nat) (n:bc) (d:bc):Option eE:=Option.bind (bJ F n) fun x1=>bA (!x1) fun x2=>Option.bind (aW (!x2) (bJ F d)) fun x3=>bA ((x2||(!x3))) fun x5=>Option.bind (aW (!x5) (jv F d)) fun x6=>(if (x5||(decide (x6=(0:Int))))=true then Option.bind (og F) fun x9=>some x9 else Option.bind (oi F n d) fun x10=>Option.bind (Option.bind (jv F d) fun x11=>(if (decide (x11<(0:Int)))=true then Option.bind (oh F x10) fun x13=>some x13 else some x10):Option (bc)) fun x14=>Option.bind (ku F n x14) fun x15=>Option.bind (ku F d x14) fun x16=>some (⟨x15,x16⟩:eE))
def nz (F:Nat) (v0:Int) (b:Int):Option eE:=Option.bind (eF F v0) fun x1=>Option.bind (eF F b) fun x2=>Option.bind (ny F x1 x2) fun x3=>some x3
def dQ (F:Nat) (n:Int) (d:Int) (unit:Str):Option ab:=Option.bind (nz F n d) fun x1=>some (⟨(1:Int),x1,unit,([]:Str),([]:List ab),(0:Int)⟩:ab)
mutual
def ja:Nat->ab->Option ab
 | 0,_=>none
 | F+1,x=>Option.bind (gB F x.Args) fun x1=>some ({ x with Args:=x1,At:=(0:Int) })
def gB:Nat->(List ab)->Option (List ab)
 | 0,_=>none
 | F+1,v0=>Option.bind (bU ([]:List ab) v0) fun x2=>Option.bind (iter F (fun (x4:Int×(List ab))=>((if (decide (x4.1<(x2.length:Int)))=true then Option.bind (aD x4.2 x4.1) fun x6=>Option.bind (aD x4.2 x4.1) fun x7=>Option.bind (ja F x7) fun x8=>Option.bind (aD x4.2 x4.1) fun x9=>Option.bind (aD x4.2 x4.1) fun x10=>some (.inl ((i64.wrap (x4.1+(1:Int))),x4.2.set x4.1.toNat x8)) else some (.inr x4.2)):Option ((Int×(List ab))⊕(List ab)))) ((0:Int),x2)) (fun x12=>some x12)
end
def kA (F:Nat) (v:af):Option af:=Option.bind (iter F (fun (x1:Int×af)=>((if (decide (x1.1<(3:Int)))=true then Option.bind (aD (af.al x1.2) x1.1) fun x3=>Option.bind (aD (af.al x1.2) x1.1) fun x4=>Option.bind (ja F x4) fun x5=>Option.bind (aD (af.al x1.2) x1.1) fun x6=>Option.bind (aD (af.al x1.2) x1.1) fun x7=>some (.inl ((i64.wrap (x1.1+(1:Int))),af.ao ((af.al x1.2).set x1.1.toNat x5))) else some (.inr x1.2)):Option ((Int×af)⊕af))) ((0:Int),v)) (fun x9=>some x9)
def hN (F:Nat) (v0:List af):Option (List af):=Option.bind (bU ([]:List af) v0) fun x2=>Option.bind (iter F (fun (x4:Int×(List af))=>((if (decide (x4.1<(x2.length:Int)))=true then Option.bind (aD x4.2 x4.1) fun x6=>Option.bind (aD x4.2 x4.1) fun x7=>Option.bind (kA F x7) fun x8=>Option.bind (aD x4.2 x4.1) fun x9=>Option.bind (aD x4.2 x4.1) fun x10=>some (.inl ((i64.wrap (x4.1+(1:Int))),x4.2.set x4.1.toNat x8)) else some (.inr x4.2)):Option ((Int×(List af))⊕(List af)))) ((0:Int),x2)) (fun x12=>some x12)
def lV (F:Nat) (p:bm):Option bm:=Option.bind (kA F p.X) fun x1=>some (⟨x1,p.Turn⟩:bm)
def pJ (F:Nat) (f:aL):Option aL:=Option.bind (gB F f.X) fun x1=>Option.bind (hN F f.Points) fun x2=>Option.bind (lV F f.Pose) fun x3=>some (⟨f.Kind,x1,x2,x3,(0:Int)⟩:aL)
def mu (F:Nat) (v0:List aL):Option (List aL):=Option.bind (bU ([]:List aL) v0) fun x2=>Option.bind (iter F (fun (x4:Int×(List aL))=>((if (decide (x4.1<(x2.length:Int)))=true then Option.bind (aD x4.2 x4.1) fun x6=>Option.bind (aD x4.2 x4.1) fun x7=>Option.bind (pJ F x7) fun x8=>Option.bind (aD x4.2 x4.1) fun x9=>Option.bind (aD x4.2 x4.1) fun x10=>some (.inl ((i64.wrap (x4.1+(1:Int))),x4.2.set x4.1.toNat x8)) else some (.inr x4.2)):Option ((Int×(List aL))⊕(List aL)))) ((0:Int),x2)) (fun x12=>some x12)
def qt (F:Nat) (x:aN):Option aN:=Option.bind (gB F x.X) fun x1=>Option.bind (hN F x.Points) fun x2=>Option.bind (mu F x.Fields) fun x3=>some ({ x with X:=x1,Points:=x2,Fields:=x3,At:=(0:Int) })
def nF (F:Nat) (v0:List aN):Option (List aN):=Option.bind (bU ([]:List aN) v0) fun x2=>Option.bind (iter F (fun (x4:Int×(List aN))=>((if (decide (x4.1<(x2.length:Int)))=true then Option.bind (aD x4.2 x4.1) fun x6=>Option.bind (aD x4.2 x4.1) fun x7=>Option.bind (qt F x7) fun x8=>Option.bind (aD x4.2 x4.1) fun x9=>Option.bind (aD x4.2 x4.1) fun x10=>some (.inl ((i64.wrap (x4.1+(1:Int))),x4.2.set x4.1.toNat x8)) else some (.inr x4.2)):Option ((Int×(List aN))⊕(List aN)))) ((0:Int),x2)) (fun x12=>some x12)
def nE (F:Nat) (v0:List bm):Option (List bm):=Option.bind (bU ([]:List bm) v0) fun x2=>Option.bind (iter F (fun (x4:Int×(List bm))=>((if (decide (x4.1<(x2.length:Int)))=true then Option.bind (aD x4.2 x4.1) fun x6=>Option.bind (aD x4.2 x4.1) fun x7=>Option.bind (lV F x7) fun x8=>Option.bind (aD x4.2 x4.1) fun x9=>Option.bind (aD x4.2 x4.1) fun x10=>some (.inl ((i64.wrap (x4.1+(1:Int))),x4.2.set x4.1.toNat x8)) else some (.inr x4.2)):Option ((Int×(List bm))⊕(List bm)))) ((0:Int),x2)) (fun x12=>some x12)
mutual
def qq:Nat->aA->Option aA
 | 0,_=>none
 | F+1,x=>Option.bind (ja F x.X) fun x1=>Option.bind (gA F x.Body) fun x2=>Option.bind (gA F x.Else) fun x3=>Option.bind (nE F x.Poses) fun x4=>some (⟨x.Kind,x.Op,x.Name,x1,x2,x3,x4,(0:Int)⟩:aA)
def gA:Nat->(List aA)->Option (List aA)
 | 0,_=>none
 | F+1,v0=>Option.bind (bU ([]:List aA) v0) fun x2=>Option.bind (iter F (fun (x4:Int×(List aA))=>((if (decide (x4.1<(x2.length:Int)))=true then Option.bind (aD x4.2 x4.1) fun x6=>Option.bind (aD x4.2 x4.1) fun x7=>Option.bind (qq F x7) fun x8=>Option.bind (aD x4.2 x4.1) fun x9=>Option.bind (aD x4.2 x4.1) fun x10=>some (.inl ((i64.wrap (x4.1+(1:Int))),x4.2.set x4.1.toNat x8)) else some (.inr x4.2)):Option ((Int×(List aA))⊕(List aA)))) ((0:Int),x2)) (fun x12=>some x12)
end
def u6 (F:Nat) (x:Source):Option Source:=Option.bind (nF F x.Items) fun x1=>Option.bind (gA F x.Code) fun x2=>some (⟨x1,x2⟩:Source)
mutual
def cA:Nat->ab->ab->Option Bool
 | 0,_,_=>none
 | F+1,v0,b=>bA ((((((decide (v0.Op=b.Op))&&(decide (v0.V=b.V)))&&(decide (v0.Unit=b.Unit)))&&(decide (v0.Name=b.Name)))&&(decide (v0.At=b.At)))) fun x9=>Option.bind (aW x9 (eh F v0.Args b.Args)) fun x10=>some (x9&&x10)
def eh:Nat->(List ab)->(List ab)->Option Bool
 | 0,_,_=>none
 | F+1,v0,b=>(if (decide ((v0.length:Int)≠(b.length:Int)))=true then some false else Option.bind (iter F (fun (x4:Int)=>((if (decide (x4<(v0.length:Int)))=true then Option.bind (aD v0 x4) fun x7=>Option.bind (aD b x4) fun x8=>Option.bind (cA F x7 x8) fun x9=>(if (!x9)=true then some (.inr (.inr false)) else some (.inl (i64.wrap (x4+(1:Int))))) else some (.inr (.inl ()))):Option (Int⊕(Unit⊕Bool)))) (0:Int)) (cz (fun x12=>some true) (fun x13=>some x13)))
end
def dW (F:Nat) (v0:af) (b:af):Option Bool:=Option.bind (cA F v0.a0 b.a0) fun x1=>Option.bind (aW x1 (aD (af.al v0) (1:Int))) fun x2=>Option.bind (aW x1 (aD (af.al v0) (1:Int))) fun x3=>Option.bind (aW x1 (aD (af.al b) (1:Int))) fun x4=>Option.bind (aW x1 (aD (af.al b) (1:Int))) fun x5=>Option.bind (aW x1 (cA F x3 x5)) fun x6=>bA ((x1&&x6)) fun x7=>Option.bind (aW x7 (aD (af.al v0) (2:Int))) fun x8=>Option.bind (aW x7 (aD (af.al v0) (2:Int))) fun x9=>Option.bind (aW x7 (aD (af.al b) (2:Int))) fun x10=>Option.bind (aW x7 (aD (af.al b) (2:Int))) fun x11=>Option.bind (aW x7 (cA F x9 x11)) fun x12=>some (x7&&x12)
def fL (F:Nat) (v0:List af) (b:List af):Option Bool:=(if (decide ((v0.length:Int)≠(b.length:Int)))=true then some false else Option.bind (iter F (fun (x4:Int)=>((if (decide (x4<(v0.length:Int)))=true then Option.bind (aD v0 x4) fun x7=>Option.bind (aD b x4) fun x8=>Option.bind (dW F x7 x8) fun x9=>(if (!x9)=true then some (.inr (.inr false)) else some (.inl (i64.wrap (x4+(1:Int))))) else some (.inr (.inl ()))):Option (Int⊕(Unit⊕Bool)))) (0:Int)) (cz (fun x12=>some true) (fun x13=>some x13)))
def jG (F:Nat) (v0:List aL) (b:List aL):Option Bool:=(if (decide ((v0.length:Int)≠(b.length:Int)))=true then some false else Option.bind (iter F (fun (x4:Int)=>((if (decide (x4<(v0.length:Int)))=true then Option.bind (aD v0 x4) fun x7=>Option.bind (aD b x4) fun x8=>bA (((decide (x7.Kind≠x8.Kind))||(decide (x7.At≠x8.At)))) fun x11=>Option.bind (aW (!x11) (eh F x7.X x8.X)) fun x12=>bA ((x11||(!x12))) fun x14=>Option.bind (aW (!x14) (fL F x7.Points x8.Points)) fun x15=>bA (((x14||(!x15))||(!(decide (x7.Pose.Turn=x8.Pose.Turn))))) fun x19=>Option.bind (aW (!x19) (dW F x7.Pose.X x8.Pose.X)) fun x20=>(if (x19||(!x20))=true then some (.inr (.inr false)) else some (.inl (i64.wrap (x4+(1:Int))))) else some (.inr (.inl ()))):Option (Int⊕(Unit⊕Bool)))) (0:Int)) (cz (fun x24=>some true) (fun x25=>some x25)))
def eg:Nat->(List aA)->(List aA)->Option Bool
 | 0,_,_=>none
 | F+1,v0,b=>(if (decide ((v0.length:Int)≠(b.length:Int)))=true then some false else Option.bind (iter F (fun (x4:Int)=>((if (decide (x4<(v0.length:Int)))=true then Option.bind (aD v0 x4) fun x7=>Option.bind (aD b x4) fun x8=>bA (((((decide (x7.Kind≠x8.Kind))||(decide (x7.Op≠x8.Op)))||(decide (x7.Name≠x8.Name)))||(decide (x7.At≠x8.At)))) fun x15=>Option.bind (aW (!x15) (cA F x7.X x8.X)) fun x16=>bA ((x15||(!x16))) fun x18=>Option.bind (aW (!x18) (eg F x7.Body x8.Body)) fun x19=>bA ((x18||(!x19))) fun x21=>Option.bind (aW (!x21) (eg F x7.Else x8.Else)) fun x22=>(if ((x21||(!x22))||(decide ((x7.Poses.length:Int)≠(x8.Poses.length:Int))))=true then some (.inr (.inr false)) else Option.bind (iter F (fun (x29:Int)=>((if (decide (x29<(x7.Poses.length:Int)))=true then Option.bind (aD x7.Poses x29) fun x32=>Option.bind (aD x8.Poses x29) fun x33=>bA (!(decide (x32.Turn=x33.Turn))) fun x34=>Option.bind (aW (!x34) (aD x7.Poses x29)) fun x35=>Option.bind (aW (!x34) (aD x8.Poses x29)) fun x36=>Option.bind (aW (!x34) (dW F x35.X x36.X)) fun x37=>(if (x34||(!x37))=true then some (.inr (.inr false)) else some (.inl (i64.wrap (x29+(1:Int))))) else some (.inr (.inl ()))):Option (Int⊕(Unit⊕Bool)))) (0:Int)) (cz (fun x41=>some (.inl (i64.wrap (x4+(1:Int))))) (fun x43=>some (.inr (.inr x43))))) else some (.inr (.inl ()))):Option (Int⊕(Unit⊕Bool)))) (0:Int)) (cz (fun x44=>some true) (fun x45=>some x45)))
def nv (F:Nat) (v0:Source) (b:Source):Option Bool:=(if (decide ((v0.Items.length:Int)≠(b.Items.length:Int)))=true then some false else Option.bind (iter F (fun (x4:Int)=>((if (decide (x4<(v0.Items.length:Int)))=true then Option.bind (aD v0.Items x4) fun x7=>Option.bind (aD b.Items x4) fun x8=>bA (((((((decide (x7.Kind≠x8.Kind))||(decide (x7.Thing≠x8.Thing)))||(decide (x7.Name≠x8.Name)))||(decide (x7.A≠x8.A)))||(decide (x7.B≠x8.B)))||(decide (x7.At≠x8.At)))) fun x19=>Option.bind (aW (!x19) (eh F x7.X x8.X)) fun x20=>bA ((x19||(!x20))) fun x22=>Option.bind (aW (!x22) (fL F x7.Points x8.Points)) fun x23=>bA ((x22||(!x23))) fun x25=>Option.bind (aW (!x25) (jG F x7.Fields x8.Fields)) fun x26=>(if (x25||(!x26))=true then some (.inr (.inr false)) else some (.inl (i64.wrap (x4+(1:Int))))) else some (.inr (.inl ()))):Option (Int⊕(Unit⊕Bool)))) (0:Int)) (cz (fun x30=>Option.bind (eg F v0.Code b.Code) fun x31=>some x31) (fun x32=>some x32)))
def iN (F:Nat) (s:Str) (want:Source):Option Bool:=Option.bind (hC F s) fun x1=>bA (decide (x1.2=(⟨(0:Int),(0:Int)⟩:Problem))) fun x2=>Option.bind (aW x2 (u6 F x1.1)) fun x3=>Option.bind (aW x2 (nv F x3 want)) fun x4=>some (x2&&x4)
def fw (F:Nat) (c:Int) (b1:aC) (b2:List Int):Option (Unit×aC×(List Int)):=Option.bind (GJ F b1 b2) fun x1=>Option.bind (bU x1.2 ([c]:List Int)) fun x3=>some ((),x1.1,x3)
def eJ (F:Nat) (b1:aC) (b2:List Int):Option (aC×(List Int)):=Option.bind (fw F (10:Int) b1 b2) fun x1=>some ({ x1.2.1 with fresh:=true,brace:=false },x1.2.2)
def dY (F:Nat) (s:Str) (b1:aC) (b2:List Int):Option (Int×Unit×aC×(List Int)):=Option.bind (GJ F b1 b2) fun x1=>Option.bind (Cp x1.2 s) fun x2=>some ((s.length:Int),(),x1.1,x2)
def aM (F:Nat) (v1:List Str) (b1:aC) (b2:List Int):Option (aC×(List Int)):=Option.bind (iter F (fun (x2:Int×aC×(List Int))=>((if (decide (x2.1<(v1.length:Int)))=true then Option.bind (aD v1 x2.1) fun x4=>Option.bind ((if (x2.2.1.brace&&(decide (x4≠([101,108,115,101]:Str))))=true then Option.bind (eJ F x2.2.1 x2.2.2) fun x7=>some (x7.1,x7.2) else some (x2.2.1,x2.2.2)):Option (aC×(List Int))) fun x8=>Option.bind ((if (decide (x4=([125]:Str)))=true then some ({ x8.1 with depth:=(i64.wrap (x8.1.depth-(1:Int))),brace:=false }) else some ({ x8.1 with brace:=false })):Option (aC)) fun x11=>Option.bind ((if x11.fresh=true then Option.bind (fC F ([32,32]:Str) x11.depth) fun x12=>Option.bind (dY F x12 x11 x8.2) fun x13=>some (x13.2.2.1,x13.2.2.2) else (if ((((!x11.close)&&(decide (x4≠([41]:Str))))&&(decide (x4≠([44]:Str))))&&(decide (x4≠([59]:Str))))=true then Option.bind (fw F (32:Int) x11 x8.2) fun x21=>some (x21.2.1,x21.2.2) else some (x11,x8.2))):Option (aC×(List Int))) fun x22=>Option.bind (dY F x4 x22.1 x22.2) fun x23=>bA (decide (x4=([40]:Str))) fun x24=>bA (decide (x4=([125]:Str))) fun x25=>Option.bind ((if (decide (x4=([123]:Str)))=true then some (⟨x23.2.2.1.w,x23.2.2.1.buf,(i64.wrap (x23.2.2.1.depth+(1:Int))),false,x24,x25,x23.2.2.1.bad⟩:aC) else some ({ x23.2.2.1 with fresh:=false,close:=x24,brace:=x25 })):Option (aC)) fun x28=>(if ((decide (x4=([123]:Str)))||(decide (x4=([59]:Str))))=true then Option.bind (eJ F x28 x23.2.2.2) fun x32=>some (.inl ((i64.wrap (x2.1+(1:Int))),x32.1,x32.2)) else some (.inl ((i64.wrap (x2.1+(1:Int))),x28,x23.2.2.2))) else some (.inr (x2.2.1,x2.2.2))):Option ((Int×aC×(List Int))⊕(aC×(List Int))))) ((0:Int),b1,b2)) (fun x35=>some (x35.1,x35.2))
def dm (F:Nat) (ok:Bool) (b1:aC) (b2:List Int):Option (aC×(List Int)):=some ({ b1 with bad:=(b1.bad||(!ok)) },b2)
def sD (F:Nat) (s:Str):Option Bool:=Option.bind (cQ F s) fun x1=>bA (((decide (x1.2.E=(0:Int)))&&(decide ((x1.1.length:Int)=(1:Int))))) fun x5=>Option.bind (aW x5 (aD x1.1 (0:Int))) fun x6=>bA ((x5&&(decide (x6.Kind=(2:Int))))) fun x8=>Option.bind (aW x8 (aD x1.1 (0:Int))) fun x9=>some (x8&&(decide (x9.S=s)))
def iQ (F:Nat) (s:Str) (b1:aC) (b2:List Int):Option (aC×(List Int)):=Option.bind (sD F s) fun x1=>Option.bind (dm F x1 b1 b2) fun x2=>Option.bind (aM F ([s]:List Str) x2.1 x2.2) fun x4=>some (x4.1,x4.2)
def sC (F:Nat) (op:Int):Option Str:=some ((dJ ([((5:Int),([43]:Str)),((6:Int),([45]:Str)),((7:Int),([42]:Str)),((8:Int),([47]:Str)),((10:Int),([60]:Str)),((11:Int),([62,61]:Str)),((12:Int),([62]:Str)),((13:Int),([60,61]:Str)),((14:Int),([61,61]:Str)),((15:Int),([33,61]:Str)),((16:Int),([97,110,100]:Str)),((17:Int),([111,114]:Str))]:List (Int×Str)) op).getD ([]:Str))
def rX (F:Nat) (x:eE):Option Bool:=Option.bind (lR F x.N) fun x1=>Option.bind (aW x1 (lR F x.D)) fun x2=>bA ((x1&&x2)) fun x3=>Option.bind (aW x3 (jW F x.D)) fun x4=>bA ((x3&&(decide ((0:Int)<x4)))) fun x6=>Option.bind (aW x6 (tz F x.N x.D)) fun x7=>Option.bind (aW x6 (qi F)) fun x8=>some (x6&&(decide (x7=x8)))
def xd (F:Nat) (x:eE):Option Int:=Option.bind (rX F x) fun x1=>(if (!x1)=true then some (0:Int) else Option.bind (jW F x.N) fun x3=>some x3)
def u5 (F:Nat) (n:bc):Option eE:=Option.bind (qi F) fun x1=>Option.bind (rW F n x1) fun x2=>some x2
def Bj (F:Nat) (n:Int):Option eE:=Option.bind (gI F n) fun x1=>Option.bind (u5 F x1) fun x2=>some x2
def re (F:Nat) (x:eE):Option Str:=Option.bind (rX F x) fun x1=>bA (!x1) fun x2=>Option.bind (aW (!x2) (xd F x)) fun x3=>(if (x2||(decide (x3<(0:Int))))=true then some ([]:Str) else Option.bind (iter F (fun (x6:Unit)=>((if (decide ((0:Int)<(41:Int)))=true then Option.bind (gI F (1:Int)) fun x8=>(if (!(decide (x.D=x8)))=true then Option.bind (Bj F (10:Int)) fun x10=>none else Option.bind (oT F x.N) fun x11=>Option.bind (fC F ([48]:Str) (max (0:Int) (i64.wrap ((i64.wrap ((0:Int)+(1:Int)))-(x11.length:Int))))) fun x16=>Option.bind (bU x16 x11) fun x17=>(if (decide ((40:Int)<(x17.length:Int)))=true then some (.inr (.inr ([]:Str))) else (if (decide ((0:Int)=(0:Int)))=true then some (.inr (.inr x17)) else Option.bind (s6 x17 (i64.wrap ((x17.length:Int)-(0:Int)))) fun x23=>Option.bind (bU x23 ([46]:Str)) fun x24=>Option.bind (p6 x17 (i64.wrap ((x17.length:Int)-(0:Int)))) fun x27=>Option.bind (bU x24 x27) fun x28=>some (.inr (.inr x28))))) else some (.inr (.inl ()))):Option (Unit⊕(Unit⊕Str)))) ()) (cz (fun x29=>some ([]:Str)) (fun x30=>some x30)))
mutual
def c9:Nat->ab->aC->(List Int)->Option (aC×(List Int))
 | 0,_,_,_=>none
 | F+1,x,b1,b2=>(if (decide (x.Op<(5:Int)))=true then Option.bind (ez F x b1 b2) fun x2=>some (x2.1,x2.2) else Option.bind (aM F ([([40]:Str)]:List Str) b1 b2) fun x4=>Option.bind (ez F x x4.1 x4.2) fun x5=>Option.bind (aM F ([([41]:Str)]:List Str) x5.1 x5.2) fun x7=>some (x7.1,x7.2))
def ez:Nat->ab->aC->(List Int)->Option (aC×(List Int))
 | 0,_,_,_=>none
 | F+1,x,b1,b2=>bA (decide (x.Op=(1:Int))) fun x1=>Option.bind (dm F ((x1||((decide (x.V=(⟨(⟨false,false,(⟨(0:Int),(0:Int),(0:Int),(0:Int),(0:Int),(0:Int),(0:Int),(0:Int),(0:Int),(0:Int),(0:Int),(0:Int),(0:Int),(0:Int),(0:Int),(0:Int)⟩:aY)⟩:bc),(⟨false,false,(⟨(0:Int),(0:Int),(0:Int),(0:Int),(0:Int),(0:Int),(0:Int),(0:Int),(0:Int),(0:Int),(0:Int),(0:Int),(0:Int),(0:Int),(0:Int),(0:Int)⟩:aY)⟩:bc)⟩:eE)))&&(decide (x.Unit=([]:Str)))))&&((decide (x.Op=(2:Int)))||(decide (x.Name=([]:Str))))) b1 b2) fun x10=>Option.bind (sC F x.Op) fun x11=>Option.bind ((if (decide (x11≠([]:Str)))=true then some (2:Int) else Option.bind (bA (decide (x.Op=(9:Int))) fun x13=>(if x13=true then some x13 else some (decide (x.Op=(18:Int)))):Option (Bool)) fun x15=>(if x15=true then some (1:Int) else some (0:Int))):Option (Int)) fun x16=>Option.bind (dm F (decide ((x.Args.length:Int)=x16)) x10.1 x10.2) fun x19=>(if (decide ((x.Args.length:Int)≠x16))=true then some (x19.1,x19.2) else (if x1=true then Option.bind (re F x.V) fun x22=>bA (decide (x22≠([]:Str))) fun x23=>Option.bind (aW x23 (k7 F x.Unit)) fun x24=>Option.bind (dm F (x23&&x24) x19.1 x19.2) fun x26=>Option.bind (aM F ([x22]:List Str) x26.1 x26.2) fun x28=>(if (decide (x.Unit≠([]:Str)))=true then Option.bind (bU ([91]:Str) x.Unit) fun x30=>Option.bind (bU x30 ([93]:Str)) fun x31=>Option.bind (aM F ([x31]:List Str) x28.1 x28.2) fun x33=>some (x33.1,x33.2) else some (x28.1,x28.2)) else (if (decide (x.Op=(2:Int)))=true then Option.bind (iQ F x.Name x19.1 x19.2) fun x35=>some (x35.1,x35.2) else (if (decide (x.Op=(3:Int)))=true then Option.bind (aM F ([([116,114,117,101]:Str)]:List Str) x19.1 x19.2) fun x38=>some (x38.1,x38.2) else (if (decide (x.Op=(4:Int)))=true then Option.bind (aM F ([([102,97,108,115,101]:Str)]:List Str) x19.1 x19.2) fun x41=>some (x41.1,x41.2) else (if (decide (x.Op=(9:Int)))=true then Option.bind (aM F ([([45]:Str)]:List Str) x19.1 x19.2) fun x44=>Option.bind (aD x.Args (0:Int)) fun x45=>Option.bind (c9 F x45 ({ x44.1 with close:=true }) x44.2) fun x46=>some (x46.1,x46.2) else (if (decide (x.Op=(18:Int)))=true then Option.bind (aM F ([([110,111,116]:Str)]:List Str) x19.1 x19.2) fun x49=>Option.bind (aD x.Args (0:Int)) fun x50=>Option.bind (c9 F x50 x49.1 x49.2) fun x51=>some (x51.1,x51.2) else (if (decide (x11≠([]:Str)))=true then Option.bind (aD x.Args (0:Int)) fun x53=>Option.bind (c9 F x53 x19.1 x19.2) fun x54=>Option.bind (aM F ([x11]:List Str) x54.1 x54.2) fun x56=>Option.bind (aD x.Args (1:Int)) fun x57=>Option.bind (c9 F x57 x56.1 x56.2) fun x58=>some (x58.1,x58.2) else some ({ x19.1 with bad:=true },x19.2)))))))))
end
mutual
def iC:Nat->(List aA)->aC->(List Int)->Option (aC×(List Int))
 | 0,_,_,_=>none
 | F+1,v1,b1,b2=>Option.bind (aM F ([([123]:Str)]:List Str) b1 b2) fun x2=>Option.bind (iter F (fun (x4:Int×aC×(List Int))=>((if (decide (x4.1<(v1.length:Int)))=true then Option.bind (aD v1 x4.1) fun x6=>Option.bind (fS F x6 x4.2.1 x4.2.2) fun x7=>some (.inl ((i64.wrap (x4.1+(1:Int))),x7.1,x7.2)) else some (.inr (x4.2.1,x4.2.2))):Option ((Int×aC×(List Int))⊕(aC×(List Int))))) ((0:Int),x2.1,x2.2)) (fun x9=>Option.bind (aM F ([([125]:Str)]:List Str) x9.1 x9.2) fun x11=>some (x11.1,x11.2))
def fS:Nat->aA->aC->(List Int)->Option (aC×(List Int))
 | 0,_,_,_=>none
 | F+1,x,b1,b2=>bA (((decide (x.Kind=(3:Int)))||(decide (x.Kind=(4:Int))))) fun x6=>Option.bind (dm F (((((decide (x.Kind=(5:Int)))||((decide (x.Op=(0:Int)))&&(decide ((x.Poses.length:Int)=(0:Int)))))&&(x6||(decide ((x.Body.length:Int)=(0:Int)))))&&((decide (x.Kind=(4:Int)))||(decide ((x.Else.length:Int)=(0:Int)))))&&((!x6)||(decide (x.Name=([]:Str))))) b1 b2) fun x26=>Option.bind ((if ((decide (x.Kind=(1:Int)))||(decide (x.Kind=(2:Int))))=true then Option.bind (aM F ([((dJ ([((1:Int),([108,101,116]:Str)),((2:Int),([115,101,116]:Str))]:List (Int×Str)) x.Kind).getD ([]:Str))]:List Str) x26.1 x26.2) fun x29=>Option.bind (iQ F x.Name x29.1 x29.2) fun x30=>Option.bind (aM F ([([61]:Str)]:List Str) x30.1 x30.2) fun x32=>Option.bind (ez F x.X x32.1 x32.2) fun x33=>some (.inl (x33.1,x33.2)) else (if x6=true then Option.bind (aM F ([((dJ ([((3:Int),([114,101,112,101,97,116]:Str)),((4:Int),([105,102]:Str))]:List (Int×Str)) x.Kind).getD ([]:Str))]:List Str) x26.1 x26.2) fun x36=>Option.bind (ez F x.X x36.1 x36.2) fun x37=>Option.bind (iC F x.Body x37.1 x37.2) fun x38=>bA (decide ((x.Else.length:Int)=(1:Int))) fun x40=>Option.bind (aW x40 (aD x.Else (0:Int))) fun x41=>(if (x40&&(decide (x41.Kind=(4:Int))))=true then Option.bind (aM F ([([101,108,115,101]:Str)]:List Str) x38.1 x38.2) fun x45=>Option.bind (aD x.Else (0:Int)) fun x46=>Option.bind (fS F x46 x45.1 x45.2) fun x47=>some (.inr (x47.1,x47.2)) else (if (decide ((0:Int)<(x.Else.length:Int)))=true then Option.bind (aM F ([([101,108,115,101]:Str)]:List Str) x38.1 x38.2) fun x51=>Option.bind (iC F x.Else x51.1 x51.2) fun x52=>some (.inr (x52.1,x52.2)) else some (.inr (x38.1,x38.2)))) else (if (decide (x.Kind=(5:Int)))=true then none else some (.inl ({ x26.1 with bad:=true },x26.2))))):Option ((aC×(List Int))⊕(aC×(List Int)))) (cz (fun x54=>Option.bind (aM F ([([59]:Str)]:List Str) x54.1 x54.2) fun x56=>some (x56.1,x56.2)) (fun x57=>some (x57.1,x57.2)))
end
def jb (F:Nat) (b1:aC) (b2:List Int):Option (Str×aC×(List Int)):=Option.bind (Ew (!b2.isEmpty)) fun x1=>Option.bind (Ew (decide ((b2.length:Int)=(b2.length:Int)) && !b2.isEmpty)) fun x3=>some ((toStr b2),b1,([]:List Int))
def rf (F:Nat) (s:Str):Option Problem:=Option.bind (hC F s) fun x1=>some x1.2
def mr (F:Nat) (b1:aC) (b2:List Int):Option (Str×Int×aC×(List Int)):=Option.bind ((if b1.brace=true then Option.bind (eJ F b1 b2) fun x1=>some (x1.1,x1.2) else some (b1,b2)):Option (aC×(List Int))) fun x2=>Option.bind (jb F x2.1 x2.2) fun x3=>(if x3.2.1.bad=true then some (([]:Str),(3:Int),x3.2.1,x3.2.2) else Option.bind (rf F x3.1) fun x4=>(if (decide (x4.E≠(0:Int)))=true then some (([]:Str),(2:Int),x3.2.1,x3.2.2) else some (x3.1,(0:Int),x3.2.1,x3.2.2)))
def tH (F:Nat) (x:Source):Option (Str×Int):=Option.bind (aM F ([([121,97,114,100]:Str),([123]:Str)]:List Str) (⟨false,([]:List Int),(0:Int),true,false,false,false⟩:aC) ([]:List Int)) fun x2=>Option.bind (iter F (fun (x4:Unit)=>((if (decide ((0:Int)<(x.Items.length:Int)))=true then Option.bind (aD x.Items (0:Int)) fun x6=>none else some (.inr ())):Option (Unit⊕Unit))) ()) (fun x7=>Option.bind (aM F ([([125]:Str)]:List Str) x2.1 x2.2) fun x9=>Option.bind (iter F (fun (x11:Int×aC×(List Int))=>((if (decide (x11.1<(x.Code.length:Int)))=true then Option.bind (aD x.Code x11.1) fun x13=>Option.bind (fS F x13 x11.2.1 x11.2.2) fun x14=>some (.inl ((i64.wrap (x11.1+(1:Int))),x14.1,x14.2)) else some (.inr (x11.2.1,x11.2.2))):Option ((Int×aC×(List Int))⊕(aC×(List Int))))) ((0:Int),x9.1,x9.2)) (fun x16=>Option.bind (mr F x16.1 x16.2) fun x17=>some (x17.1,x17.2.1)))
def eY (F:Nat) (s:Str) (pos:Int) (e:Int):Option Bool:=Option.bind (hC F s) fun x1=>some (decide (x1.2=(⟨pos,e⟩:Problem)))
def dP (F:Nat)  : Option Bool:=Option.bind (dQ F (2:Int) (1:Int) ([]:Str)) fun x1=>Option.bind (dQ F (3:Int) (1:Int) ([]:Str)) fun x2=>Option.bind (dQ F (1:Int) (1:Int) ([]:Str)) fun x4=>bA (([(⟨(1:Int),(0:Int),([97]:Str),(⟨(5:Int),(⟨(⟨false,false,(⟨(0:Int),(0:Int),(0:Int),(0:Int),(0:Int),(0:Int),(0:Int),(0:Int),(0:Int),(0:Int),(0:Int),(0:Int),(0:Int),(0:Int),(0:Int),(0:Int)⟩:aY)⟩:bc),(⟨false,false,(⟨(0:Int),(0:Int),(0:Int),(0:Int),(0:Int),(0:Int),(0:Int),(0:Int),(0:Int),(0:Int),(0:Int),(0:Int),(0:Int),(0:Int),(0:Int),(0:Int)⟩:aY)⟩:bc)⟩:eE),([]:Str),([]:Str),([x4,(⟨(7:Int),(⟨(⟨false,false,(⟨(0:Int),(0:Int),(0:Int),(0:Int),(0:Int),(0:Int),(0:Int),(0:Int),(0:Int),(0:Int),(0:Int),(0:Int),(0:Int),(0:Int),(0:Int),(0:Int)⟩:aY)⟩:bc),(⟨false,false,(⟨(0:Int),(0:Int),(0:Int),(0:Int),(0:Int),(0:Int),(0:Int),(0:Int),(0:Int),(0:Int),(0:Int),(0:Int),(0:Int),(0:Int),(0:Int),(0:Int)⟩:aY)⟩:bc)⟩:eE),([]:Str),([]:Str),([x1,x2]:List ab),(0:Int)⟩:ab)]:List ab),(0:Int)⟩:ab),([]:List aA),([]:List aA),([]:List bm),(0:Int)⟩:aA)]:List aA)) fun x6=>Option.bind (dQ F (981:Int) (100:Int) ([109,47,115,94,50]:Str)) fun x7=>Option.bind (iN F ([121,97,114,100,32,123,32,125,32,108,101,116,32,97,32,61,32,49,32,43,32,50,32,42,32,51,59]:Str) (⟨([]:List aN),x6⟩:Source)) fun x11=>Option.bind (aW x11 (iN F ([121,97,114,100,32,123,32,103,114,97,118,105,116,121,32,57,46,56,49,32,91,109,47,115,94,50,93,59,32,125,32,112,97,117,115,101,59]:Str) (⟨([(⟨(1:Int),(0:Int),([]:Str),([]:Str),([]:Str),([x7]:List ab),([]:List af),([]:List aL),(0:Int)⟩:aN)]:List aN),([(⟨(5:Int),(7:Int),([]:Str),(⟨(0:Int),(⟨(⟨false,false,(⟨(0:Int),(0:Int),(0:Int),(0:Int),(0:Int),(0:Int),(0:Int),(0:Int),(0:Int),(0:Int),(0:Int),(0:Int),(0:Int),(0:Int),(0:Int),(0:Int)⟩:aY)⟩:bc),(⟨false,false,(⟨(0:Int),(0:Int),(0:Int),(0:Int),(0:Int),(0:Int),(0:Int),(0:Int),(0:Int),(0:Int),(0:Int),(0:Int),(0:Int),(0:Int),(0:Int),(0:Int)⟩:aY)⟩:bc)⟩:eE),([]:Str),([]:Str),([]:List ab),(0:Int)⟩:ab),([]:List aA),([]:List aA),([]:List bm),(0:Int)⟩:aA)]:List aA)⟩:Source))) fun x12=>Option.bind (tH F (⟨([]:List aN),x6⟩:Source)) fun x14=>Option.bind (hC F ([121,97,114,100,32,123,32,112,114,111,112,32,112,32,123,32,98,111,120,32,40,48,44,32,48,44,32,48,41,32,116,111,32,40,49,44,32,49,44,32,50,41,59,32,109,97,115,115,32,49,32,91,107,103,93,32,46,46,32,50,32,91,107,103,93,59,32,97,116,32,40,48,44,32,48,44,32,48,41,32,116,117,114,110,32,40,49,44,32,48,44,32,48,44,32,45,49,41,59,32,125,32,125,32,112,108,97,99,101,32,112,32,98,121,32,40,49,44,32,50,44,32,51,41,44,32,40,49,44,32,50,44,32,50,41,59]:Str)) fun x18=>bA (((decide (x18.2=(⟨(0:Int),(0:Int)⟩:Problem)))&&(decide ((x18.1.Items.length:Int)=(1:Int))))) fun x22=>Option.bind (aW x22 (aD x18.1.Items (0:Int))) fun x23=>bA (((x22&&(decide ((x23.Fields.length:Int)=(3:Int))))&&(decide ((x18.1.Code.length:Int)=(1:Int))))) fun x29=>Option.bind (aW x29 (aD x18.1.Code (0:Int))) fun x30=>bA ((x29&&(decide (x30.Op=(1:Int))))) fun x32=>Option.bind (aW x32 (aD x18.1.Code (0:Int))) fun x33=>bA ((((x11&&x12)&&((decide (x14.2=(0:Int)))&&(decide (x14.1=([121,97,114,100,32,123,10,125,10,108,101,116,32,97,32,61,32,49,32,43,32,40,50,32,42,32,51,41,59,10]:Str)))))&&(x32&&(decide ((x33.Poses.length:Int)=(2:Int)))))) fun x38=>Option.bind (aW x38 (eY F ([121,97,114,100,32,123,32,125,32,108,101,116,32,97,32,61,32,59]:Str) (17:Int) (280:Int))) fun x39=>bA ((x38&&x39)) fun x40=>Option.bind (aW x40 (eY F ([121,97,114,100,32,123,32,125,32,114,117,110,32,49]:Str) (14:Int) (280:Int))) fun x41=>bA ((x40&&x41)) fun x42=>Option.bind (aW x42 (eY F ([121,97,114,100,32,123,32,125,32,112,108,97,99,101,32,112,32,98,121,32,40,48,44,32,48,44,32,48,41,32,116,117,114,110,32,40,49,44,32,48,44,32,48,44,32,54,53,41,59]:Str) (45:Int) (281:Int))) fun x43=>some (x42&&x43)
def eQ (F:Nat) (op:Int):Option Str:=(if (decide (op=(17:Int)))=true then some ([111,114]:Str) else (if (decide (op=(16:Int)))=true then some ([97,110,100]:Str) else (if (decide (op=(5:Int)))=true then some ([43]:Str) else (if (decide (op=(6:Int)))=true then some ([45]:Str) else (if (decide (op=(7:Int)))=true then some ([42]:Str) else some ([47]:Str))))))
def cn (F:Nat) (op:Int):Option Int:=(if (decide (op=(17:Int)))=true then some (1:Int) else (if (decide (op=(16:Int)))=true then some (2:Int) else Option.bind (bA (decide (op=(5:Int))) fun x3=>(if x3=true then some x3 else some (decide (op=(6:Int)))):Option (Bool)) fun x5=>(if x5=true then some (5:Int) else Option.bind (bA (decide (op=(7:Int))) fun x6=>(if x6=true then some x6 else some (decide (op=(8:Int)))):Option (Bool)) fun x8=>(if x8=true then some (6:Int) else some (9:Int)))))
def cR:Nat->ab->Option (Str×Bool)
 | 0,_=>none
 | F+1,x=>(if (decide ((x.Args.length:Int)≠(2:Int)))=true then some (x.Name,(decide (x.Op=(2:Int)))) else Option.bind (aD x.Args (0:Int)) fun x4=>Option.bind (cR F x4) fun x5=>Option.bind (aD x.Args (1:Int)) fun x6=>Option.bind (cR F x6) fun x7=>Option.bind (cn F x.Op) fun x8=>Option.bind (bU x5.1 ([32]:Str)) fun x9=>Option.bind (eQ F x.Op) fun x10=>Option.bind (bU x9 x10) fun x11=>Option.bind (bU x11 ([32]:Str)) fun x12=>Option.bind (bU x12 x7.1) fun x13=>bA ((x5.2&&x7.2)) fun x14=>Option.bind (aW x14 (aD x.Args (0:Int))) fun x15=>Option.bind (aW x14 (cn F x15.Op)) fun x16=>bA ((x14&&(decide (x8<=x16)))) fun x18=>Option.bind (aW x18 (aD x.Args (1:Int))) fun x19=>Option.bind (aW x18 (cn F x19.Op)) fun x20=>some (x13,(x18&&(decide (x8<x20)))))
def df (F:Nat) (v0:List Int):Option Bool:=(if (decide ((40:Int)<(v0.length:Int)))=true then Option.bind (dP F) fun x3=>some x3 else Option.bind (iter F (fun (x5:Str×Int)=>((if (decide (x5.2<(v0.length:Int)))=true then Option.bind (bU x5.1 ([32]:Str)) fun x8=>Option.bind (aD v0 x5.2) fun x9=>Option.bind (lG x9 (6:Int)) fun x10=>Option.bind (aD ([(17:Int),(16:Int),(5:Int),(6:Int),(7:Int),(8:Int)]:List Int) x10) fun x11=>Option.bind (lG x5.2 (3:Int)) fun x13=>Option.bind (aD ([([97]:Str),([98]:Str),([99]:Str)]:List Str) x13) fun x14=>Option.bind (eQ F x11) fun x15=>Option.bind (bU x8 x15) fun x16=>Option.bind (bU x16 ([32]:Str)) fun x17=>Option.bind (bU x17 x14) fun x18=>some (.inl (x18,(i64.wrap (x5.2+(1:Int))))) else some (.inr x5.1)):Option ((Str×Int)⊕Str))) (([97]:Str),(0:Int))) (fun x20=>Option.bind (kM F x20) fun x21=>Option.bind (cR F x21.1) fun x22=>Option.bind (dP F) fun x23=>some (((x23&&(decide (x21.2=(⟨(0:Int),(0:Int)⟩:Problem))))&&x22.2)&&(decide (x22.1=x20)))))
end Go.Dn
namespace Go.Dn
open Go Go.Sk Go.Proofs
open X
set_option maxRecDepth 100000
variable {mx:Int}
def cV (F:Nat):bK DD pk:=⟨145,[.d (.sl (.int .i64))],[],[],[],[.sl (.int .i64)],true,false,false,false,fun a l=>cf F a.1⟩
theorem dD (F:Nat):av Tryz.prog (ax mx) (cV F):=ak (B0:=BB) (L:=LL) (G:=[]) 21 ⟨Tryz.call145⟩ Tryz.func145 Tryz.ntmps145 rfl (zab rfl) rfl trivial (.two (.no) (.two (.no) (.two (.loop ⟨[0],[],[]⟩ [.s 3 (.int .i64)] [(.x (some 0),[.s 3 (.int .i64)])] (.no)) (.no)))) [] F fun a l=>by kernel_rfl
def de (F:Nat):bK DD pk:=⟨139,[],[],[],[],[.st .bc],true,false,false,false,fun a l=>dc F⟩
theorem ed (F:Nat):av Tryz.prog (ax mx) (de F):=ak (B0:=BB) (L:=LL) (G:=[]) 2 ⟨Tryz.call139⟩ Tryz.func139 Tryz.ntmps139 rfl (zab rfl) rfl trivial (.no) [] F fun a l=>by kernel_rfl
def cY (F:Nat):bK DD pk:=⟨91,[.d (.bool),.d (.sl (.int .i64))],[],[],[],[.st .bc],true,false,false,false,fun a l=>cm F a.1 a.2.1⟩
theorem dR (F:Nat):av Tryz.prog (ax mx) (cY F):=ak (B0:=BB) (L:=LL) (G:=[cV F,de F]) 62 ⟨Tryz.call91⟩ Tryz.func91 Tryz.ntmps91 rfl (zab rfl) rfl ⟨dD F,ed F,trivial⟩ (.two (.no) (.two (.no) (.two (.no) (.two (.no) (.two (.two (.no) (.loop ⟨[4,5,6],[104],[]⟩ [.s 7 (.int .i64),.b 106 30 (.st .bc)] [(.x (some 0),[.b 106 30 (.st .bc)])] (.two (.no) (.two (.two (.no) (.two (.iF [⟨0,[7],[]⟩,⟨1,[30],[]⟩,⟨2,[7],[]⟩,⟨3,[32],[]⟩,⟨4,[6],[]⟩,⟨5,[33,34],[106]⟩,⟨6,[35],[106]⟩,⟨7,[5],[]⟩,⟨8,[7],[]⟩,⟨9,[37,38],[]⟩,⟨10,[39],[]⟩,⟨11,[40],[]⟩,⟨12,[36,41],[]⟩,⟨13,[6],[]⟩] [14,15] []) (.iF [⟨0,[7],[]⟩,⟨1,[45],[]⟩,⟨2,[7],[]⟩,⟨3,[47],[]⟩,⟨4,[6],[]⟩,⟨5,[48,49],[106]⟩,⟨6,[50],[106]⟩,⟨7,[5],[]⟩,⟨8,[7],[]⟩,⟨9,[52,53],[]⟩,⟨10,[54],[]⟩,⟨11,[55],[]⟩,⟨12,[56],[]⟩,⟨13,[51,57],[]⟩,⟨14,[6],[]⟩] [15,16] []))) (.no))))) (.no)))))) [] F fun a l=>by kernel_rfl
def eC (F:Nat):bK DD pk:=⟨146,[.d (.sl (.int .i64)),.d (.int .i64)],[],[],[],[.int .i64],true,false,false,false,fun a l=>bS F a.1 a.2.1⟩
theorem fT (F:Nat):av Tryz.prog (ax mx) (eC F):=ak (B0:=BB) (L:=LL) (G:=[]) 13 ⟨Tryz.call146⟩ Tryz.func146 Tryz.ntmps146 rfl (zab rfl) rfl trivial (.no) [] F fun a l=>by kernel_rfl
def jA (F:Nat):bK DD pk:=⟨92,[.d (.sl (.int .i64)),.d (.sl (.int .i64))],[],[],[],[.sl (.int .i64)],true,false,false,false,fun a l=>ju F a.1 a.2.1⟩
theorem nH (F:Nat):av Tryz.prog (ax mx) (jA F):=ak (B0:=BB) (L:=LL) (G:=[eC F,cV F]) 37 ⟨Tryz.call92⟩ Tryz.func92 Tryz.ntmps92 rfl (zab rfl) rfl ⟨fT F,dD F,trivial⟩ (.two (.no) (.two (.no) (.two (.no) (.two (.two (.no) (.loop ⟨[0,1],[],[(5,105)]⟩ [.s 6 (.int .i64),.s 7 (.int .i64),.r 105 3 (.int .i64)] [(.x (some 0),[.r 105 3 (.int .i64)])] (.no))) (.no))))) [5] F fun a l=>by kernel_rfl
def fK (F:Nat):bK DD pk:=⟨37,[.d (.int .i64)],[],[],[],[.st .bc],true,false,false,false,fun a l=>eF F a.1⟩
theorem iz (F:Nat):av Tryz.prog (ax mx) (fK F):=ak (B0:=BB) (L:=LL) (G:=[cY F,jA F]) 35 ⟨Tryz.call37⟩ Tryz.func37 Tryz.ntmps37 rfl (zab rfl) rfl ⟨dR F,nH F,trivial⟩ (.no) [] F fun a l=>by kernel_rfl
def mB (F:Nat):bK DD pk:=⟨137,[.d (.st .bc)],[],[],[],[.bool],true,false,false,false,fun a l=>ml F a.1⟩
theorem sT (F:Nat):av Tryz.prog (ax mx) (mB F):=ak (B0:=BB) (L:=LL) (G:=[]) 32 ⟨Tryz.call137⟩ Tryz.func137 Tryz.ntmps137 rfl (zab rfl) rfl trivial (.two (.no) (.two (.no) (.two (.two (.no) (.loop ⟨[1],[101],[]⟩ [.s 3 (.bool),.s 4 (.int .i64)] [(.x (some 0),[.s 3 (.bool)])] (.no))) (.no)))) [] F fun a l=>by kernel_rfl
def cg (F:Nat):bK DD pk:=⟨85,[.d (.st .bc)],[],[],[],[.bool],true,false,false,false,fun a l=>bJ F a.1⟩
theorem cT (F:Nat):av Tryz.prog (ax mx) (cg F):=ak (B0:=BB) (L:=LL) (G:=[mB F]) 12 ⟨Tryz.call85⟩ Tryz.func85 Tryz.ntmps85 rfl (zab rfl) rfl ⟨sT F,trivial⟩ (.no) [] F fun a l=>by kernel_rfl
def cZ (F:Nat):bK DD pk:=⟨138,[.d (.st .bc)],[],[],[],[.sl (.int .i64)],true,false,false,false,fun a l=>bO F a.1⟩
theorem dS (F:Nat):av Tryz.prog (ax mx) (cZ F):=ak (B0:=BB) (L:=LL) (G:=[cV F]) 26 ⟨Tryz.call138⟩ Tryz.func138 Tryz.ntmps138 rfl (zab rfl) rfl ⟨dD F,trivial⟩ (.two (.no) (.two (.no) (.two (.two (.no) (.loop ⟨[1],[101],[(3,103)]⟩ [.s 4 (.int .i64),.r 103 3 (.int .i64)] [(.x (some 0),[.r 103 3 (.int .i64)])] (.two (.no) (.two (.iF [⟨0,[3],[]⟩,⟨1,[4],[]⟩,⟨2,[1],[]⟩,⟨3,[10,11],[101]⟩,⟨4,[12],[101]⟩,⟨5,[13],[]⟩,⟨6,[14],[]⟩,⟨7,[4],[]⟩,⟨8,[1],[]⟩,⟨9,[16,17],[101]⟩,⟨10,[18],[101]⟩,⟨11,[19],[]⟩,⟨12,[20],[]⟩,⟨13,[15,21],[]⟩] [14,15] []) (.no))))) (.no)))) [3] F fun a l=>by kernel_rfl
def nR (F:Nat):bK DD pk:=⟨86,[.d (.st .bc)],[],[],[],[.int .i64],true,false,false,false,fun a l=>jv F a.1⟩
theorem tP (F:Nat):av Tryz.prog (ax mx) (nR F):=ak (B0:=BB) (L:=LL) (G:=[cg F,cZ F]) 14 ⟨Tryz.call86⟩ Tryz.func86 Tryz.ntmps86 rfl (zab rfl) rfl ⟨cT F,dS F,trivial⟩ (.no) [] F fun a l=>by kernel_rfl
def oy (F:Nat):bK DD pk:=⟨140,[],[],[],[],[.st .bc],true,false,false,false,fun a l=>oe F⟩
theorem uJ (F:Nat):av Tryz.prog (ax mx) (oy F):=ak (B0:=BB) (L:=LL) (G:=[fK F]) 2 ⟨Tryz.call140⟩ Tryz.func140 Tryz.ntmps140 rfl (zab rfl) rfl ⟨iz F,trivial⟩ (.no) [] F fun a l=>by kernel_rfl
def oz (F:Nat):bK DD pk:=⟨87,[],[],[],[],[.st .eE],true,false,false,false,fun a l=>og F⟩
theorem uK (F:Nat):av Tryz.prog (ax mx) (oz F):=ak (B0:=BB) (L:=LL) (G:=[de F,oy F]) 4 ⟨Tryz.call87⟩ Tryz.func87 Tryz.ntmps87 rfl (zab rfl) rfl ⟨ed F,uJ F,trivial⟩ (.no) [] F fun a l=>by kernel_rfl
def jz (F:Nat):bK DD pk:=⟨141,[.d (.st .bc)],[],[],[],[.int .i64,.bool],true,false,false,false,fun a l=>eP F a.1⟩
theorem nG (F:Nat):av Tryz.prog (ax mx) (jz F):=ak (B0:=BB) (L:=LL) (G:=[cg F]) 41 ⟨Tryz.call141⟩ Tryz.func141 Tryz.ntmps141 rfl (zab rfl) rfl ⟨cT F,trivial⟩ (.two (.no) (.two (.no) (.two (.no) (.two (.two (.no) (.loop ⟨[1],[101],[]⟩ [.s 5 (.int .i64)] [(.x (some 0),[]),(.x none,[.s 2 (.int .i64),.s 3 (.bool)])] (.no))) (.no))))) [] F fun a l=>by kernel_rfl
def oD (F:Nat):bK DD pk:=⟨142,[.d (.st .bc)],[],[],[],[.st .bc],true,false,false,false,fun a l=>oo F a.1⟩
theorem uO (F:Nat):av Tryz.prog (ax mx) (oD F):=ak (B0:=BB) (L:=LL) (G:=[cg F,de F,cZ F,cY F]) 10 ⟨Tryz.call142⟩ Tryz.func142 Tryz.ntmps142 rfl (zab rfl) rfl ⟨cT F,ed F,dS F,dR F,trivial⟩ (.no) [] F fun a l=>by kernel_rfl
def pN (F:Nat):bK DD pk:=⟨172,[.d (.sl (.int .i64)),.d (.int .i64)],[],[],[],[.int .i64],true,false,false,false,fun a l=>fJ F a.1 a.2.1⟩
theorem vV (F:Nat):av Tryz.prog (ax mx) (pN F):=ak (B0:=BB) (L:=LL) (G:=[eC F]) 10 ⟨Tryz.call172⟩ Tryz.func172 Tryz.ntmps172 rfl (zab rfl) rfl ⟨fT F,trivial⟩ (.no) [] F fun a l=>by kernel_rfl
def my (F:Nat):bK DD pk:=⟨173,[.d (.sl (.int .i64)),.d (.sl (.int .i64))],[],[],[],[.sl (.int .i64)],true,false,false,false,fun a l=>mh F a.1 a.2.1⟩
theorem sQ (F:Nat):av Tryz.prog (ax mx) (my F):=ak (B0:=BB) (L:=LL) (G:=[cV F]) 72 ⟨Tryz.call173⟩ Tryz.func173 Tryz.ntmps173 rfl (zab rfl) rfl ⟨dD F,trivial⟩ (.two (.no) (.two (.no) (.two (.two (.no) (.loop ⟨[0,1,5],[],[]⟩ [.s 6 (.int .i64),.r 117 3 (.int .i64)] [(.x (some 0),[.r 117 3 (.int .i64)])] (.two (.no) (.two (.two (.two (.no) (.loop ⟨[0,1,5,6],[],[]⟩ [.s 7 (.int .i64),.r 117 3 (.int .i64)] [(.x (some 2),[.r 117 3 (.int .i64)])] (.two (.no) (.two (.iF [⟨0,[5],[]⟩,⟨1,[6],[]⟩,⟨2,[7],[]⟩,⟨3,[31,32],[]⟩,⟨4,[5],[]⟩,⟨5,[6],[]⟩,⟨6,[7],[]⟩,⟨7,[35,36],[]⟩,⟨8,[34,37],[117]⟩,⟨9,[38],[117]⟩,⟨10,[0],[]⟩,⟨11,[6],[]⟩,⟨12,[40,41],[]⟩,⟨13,[42],[]⟩,⟨14,[1],[]⟩,⟨15,[7],[]⟩,⟨16,[44,45],[]⟩,⟨17,[46],[]⟩,⟨18,[43,47],[]⟩,⟨19,[39,48],[]⟩] [20,21] []) (.no))))) (.two (.no) (.two (.no) (.loop ⟨[0,1,5,6],[],[]⟩ [.s 8 (.int .i64),.s 9 (.int .i64),.r 117 3 (.int .i64)] [(.x (some 4),[.r 117 3 (.int .i64)])] (.no))))) (.no))))) (.no)))) [] F fun a l=>by kernel_rfl
def nQ (F:Nat):bK DD pk:=⟨174,[.d (.sl (.int .i64)),.d (.sl (.int .i64))],[],[],[],[.bool],true,false,false,false,fun a l=>nA F a.1 a.2.1⟩
theorem tO (F:Nat):av Tryz.prog (ax mx) (nQ F):=ak (B0:=BB) (L:=LL) (G:=[eC F]) 30 ⟨Tryz.call174⟩ Tryz.func174 Tryz.ntmps174 rfl (zab rfl) rfl ⟨fT F,trivial⟩ (.two (.no) (.two (.two (.no) (.loop ⟨[0,1],[],[]⟩ [.s 5 (.int .i64)] [(.x (some 0),[]),(.x none,[.s 4 (.bool)])] (.no))) (.no))) [] F fun a l=>by kernel_rfl
def mz (F:Nat):bK DD pk:=⟨175,[.d (.sl (.int .i64)),.d (.sl (.int .i64))],[],[],[],[.sl (.int .i64)],true,false,false,false,fun a l=>iM F a.1 a.2.1⟩
theorem sR (F:Nat):av Tryz.prog (ax mx) (mz F):=ak (B0:=BB) (L:=LL) (G:=[eC F,cV F]) 35 ⟨Tryz.call175⟩ Tryz.func175 Tryz.ntmps175 rfl (zab rfl) rfl ⟨fT F,dD F,trivial⟩ (.two (.no) (.two (.no) (.two (.no) (.two (.two (.no) (.loop ⟨[0,1],[],[(5,105)]⟩ [.s 6 (.int .i64),.s 7 (.int .i64),.r 105 3 (.int .i64)] [(.x (some 0),[.r 105 3 (.int .i64)])] (.two (.no) (.two (.two (.iF [⟨0,[0],[]⟩,⟨1,[7],[]⟩,⟨2,[15,16],[]⟩,⟨3,[17],[]⟩,⟨4,[1],[]⟩,⟨5,[7],[]⟩,⟨8,[6],[]⟩,⟨6,[19,20],[]⟩,⟨7,[18,21],[]⟩] [9,10] []) (.two (.no) (.join ⟨[0,1,5,7],[105],[]⟩ [.s 6 (.int .i64),.s 8 (.int .i64)] (.no) (.no)))) (.no))))) (.no))))) [5] F fun a l=>by kernel_rfl
def iD (F:Nat):bK DD pk:=⟨143,[.d (.sl (.int .i64)),.d (.sl (.int .i64))],[],[],[],[.sl (.int .i64),.sl (.int .i64)],true,false,false,false,fun a l=>iB F a.1 a.2.1⟩
theorem l6 (F:Nat):av Tryz.prog (ax mx) (iD F):=ak (B0:=BB) (L:=LL) (G:=[pN F,cV F,my F,nQ F,mz F]) 84 ⟨Tryz.call143⟩ Tryz.func143 Tryz.ntmps143 rfl (zab rfl) rfl ⟨vV F,dD F,sQ F,tO F,sR F,trivial⟩ (.two (.no) (.two (.no) (.two (.no) (.two (.iF [⟨0,[1],[]⟩,⟨1,[7],[]⟩,⟨2,[19],[]⟩,⟨3,[18,20],[]⟩,⟨4,[21],[]⟩,⟨5,[22],[]⟩,⟨6,[1],[]⟩,⟨7,[7],[]⟩,⟨8,[25],[]⟩,⟨9,[24,26],[]⟩] [10,11] []) (.two (.no) (.two (.two (.no) (.loop ⟨[0,1,6,7,8],[],[]⟩ [.s 9 (.sl (.int .i64)),.s 10 (.int .i64),.r 115 3 (.int .i64)] [(.x (some 0),[.s 9 (.sl (.int .i64)),.r 115 3 (.int .i64)])] (.two (.no) (.two (.two (.no) (.two (.no) (.two (.no) (.two (.loop ⟨[0,1,6,7,8,9,10],[115],[]⟩ [.s 11 (.int .i64),.s 12 (.sl (.int .i64))] [(.x (some 2),[.s 11 (.int .i64),.s 12 (.sl (.int .i64))])] (.no)) (.no))))) (.no))))) (.no))))))) [40] F fun a l=>by kernel_rfl
def oC (F:Nat):bK DD pk:=⟨88,[.d (.st .bc),.d (.st .bc)],[],[],[],[.st .bc],true,false,false,false,fun a l=>oi F a.1 a.2.1⟩
theorem uN (F:Nat):av Tryz.prog (ax mx) (oC F):=ak (B0:=BB) (L:=LL) (G:=[jz F,fK F,oD F,cg F,de F,cZ F,iD F,cY F]) 64 ⟨Tryz.call88⟩ Tryz.func88 Tryz.ntmps88 rfl (zab rfl) rfl ⟨nG F,iz F,uO F,cT F,ed F,dS F,l6 F,dR F,trivial⟩ (.two (.no) (.two (.no) (.two (.no) (.two (.two (.no) (.two (.two (.loop ⟨[4],[104],[]⟩ [.s 5 (.int .i64),.s 7 (.int .i64)] [(.x (some 0),[.s 5 (.int .i64)])] (.no)) (.no)) (.no))) (.two (.no) (.two (.no) (.two (.no) (.two (.loop ⟨[4],[104],[]⟩ [.s 10 (.sl (.int .i64)),.s 11 (.sl (.int .i64))] [(.x (some 2),[.s 10 (.sl (.int .i64))])] (.no)) (.no))))))))) [] F fun a l=>by kernel_rfl
def oB (F:Nat):bK DD pk:=⟨89,[.d (.st .bc)],[],[],[],[.st .bc],true,false,false,false,fun a l=>oh F a.1⟩
theorem uM (F:Nat):av Tryz.prog (ax mx) (oB F):=ak (B0:=BB) (L:=LL) (G:=[cg F,de F,cZ F,cY F]) 13 ⟨Tryz.call89⟩ Tryz.func89 Tryz.ntmps89 rfl (zab rfl) rfl ⟨cT F,ed F,dS F,dR F,trivial⟩ (.two (.no) (.two (.no) (.two (.iF [⟨0,[1],[]⟩,⟨1,[7],[101]⟩,⟨2,[8],[]⟩,⟨3,[1],[101]⟩,⟨4,[10],[]⟩] [5,6] []) (.no)))) [] F fun a l=>by kernel_rfl
def mA (F:Nat):bK DD pk:=⟨144,[.d (.int .i64),.d (.int .i64)],[],[],[],[.int .i64],true,false,false,false,fun a l=>mj F a.1 a.2.1⟩
theorem sS (F:Nat):av Tryz.prog (ax mx) (mA F):=ak (B0:=BB) (L:=LL) (G:=[]) 23 ⟨Tryz.call144⟩ Tryz.func144 Tryz.ntmps144 rfl (zab rfl) rfl trivial (.no) [] F fun a l=>by kernel_rfl
def oA (F:Nat):bK DD pk:=⟨90,[.d (.st .bc),.d (.st .bc)],[],[],[],[.st .bc],true,false,false,false,fun a l=>ku F a.1 a.2.1⟩
theorem uL (F:Nat):av Tryz.prog (ax mx) (oA F):=ak (B0:=BB) (L:=LL) (G:=[jz F,mA F,fK F,cg F,cZ F,de F,iD F,jA F,cY F]) 76 ⟨Tryz.call90⟩ Tryz.func90 Tryz.ntmps90 rfl (zab rfl) rfl ⟨nG F,sS F,iz F,cT F,dS F,ed F,l6 F,nH F,dR F,trivial⟩ (.two (.no) (.two (.no) (.two (.no) (.two (.no) (.two (.no) (.two (.iF [⟨0,[2],[102]⟩,⟨2,[3],[103]⟩,⟨1,[49],[]⟩,⟨3,[51],[]⟩,⟨4,[50,52],[]⟩,⟨5,[53],[]⟩,⟨6,[48],[]⟩,⟨7,[48],[]⟩,⟨8,[54],[]⟩] [9] []) (.join ⟨[2,3,4],[102,103,104],[]⟩ [.s 9 (.sl (.int .i64))] (.no) (.no)))))))) [] F fun a l=>by kernel_rfl
def nO (F:Nat):bK DD pk:=⟨36,[.d (.st .bc),.d (.st .bc)],[],[],[],[.st .eE],true,false,false,false,fun a l=>ny F a.1 a.2.1⟩
theorem tM (F:Nat):av Tryz.prog (ax mx) (nO F):=ak (B0:=BB) (L:=LL) (G:=[cg F,nR F,oz F,oC F,oB F,oA F]) 35 ⟨Tryz.call36⟩ Tryz.func36 Tryz.ntmps36 rfl (zab rfl) rfl ⟨cT F,tP F,uK F,uN F,uM F,uL F,trivial⟩ (.two (.no) (.two (.no) (.two (.no) (.join ⟨[2,3,4,5],[102,103,104],[]⟩ [.b 105 30 (.st .bc)] (.no) (.two (.iF [⟨0,[2],[102]⟩,⟨1,[5],[105]⟩,⟨3,[3],[103]⟩,⟨4,[5],[105]⟩,⟨2,[28,29],[]⟩] [5,6,7] []) (.no)))))) [] F fun a l=>by kernel_rfl
def nP (F:Nat):bK DD pk:=⟨17,[.d (.int .i64),.d (.int .i64)],[],[],[],[.st .eE],true,false,false,false,fun a l=>nz F a.1 a.2.1⟩
theorem tN (F:Nat):av Tryz.prog (ax mx) (nP F):=ak (B0:=BB) (L:=LL) (G:=[fK F,nO F]) 10 ⟨Tryz.call17⟩ Tryz.func17 Tryz.ntmps17 rfl (zab rfl) rfl ⟨iz F,tM F,trivial⟩ (.no) [] F fun a l=>by kernel_rfl
def mb (F:Nat):bK DD pk:=⟨8,[.d (.int .i64),.d (.int .i64),.d (.str)],[],[],[],[.st .ab],true,false,false,false,fun a l=>dQ F a.1 a.2.1 a.2.2.1⟩
theorem sj (F:Nat):av Tryz.prog (ax mx) (mb F):=ak (B0:=BB) (L:=LL) (G:=[nP F]) 12 ⟨Tryz.call8⟩ Tryz.func8 Tryz.ntmps8 rfl (zab rfl) rfl ⟨tN F,trivial⟩ (.no) [] F fun a l=>by kernel_rfl
def gu (F:Nat):bK DD pk:=⟨97,[.d (.st .ab)],[],[],[],[.st .ab],true,false,false,false,fun a l=>ja F a.1⟩
def eU (F:Nat):bK DD pk:=⟨96,[.d (.sl (.st .ab)),.k],[.fn 97],[],[],[.sl (.st .ab)],true,false,false,false,fun a l=>gB F a.1⟩
theorem gD:∀ F:Nat,av Tryz.prog (ax mx) (gu F)/\av Tryz.prog (ax mx) (eU F)
 | 0=>⟨cF ⟨Tryz.call97⟩ rfl fun a l=>rfl,cF ⟨Tryz.call96⟩ rfl fun a l=>rfl⟩
 | F+1=>⟨ak (B0:=BB) (L:=LL) (G:=[eU F]) 9 ⟨Tryz.call97⟩ Tryz.func97 Tryz.ntmps97 rfl (zab rfl) rfl ⟨(gD F).2,trivial⟩ (.no) [] F fun a l=>by kernel_rfl,
  ak (B0:=BB) (L:=LL) (G:=[gu F]) 25 ⟨Tryz.call96⟩ Tryz.func96 Tryz.ntmps96 rfl (zab rfl) rfl ⟨(gD F).1,trivial⟩ (.two (.no) (.two (.no) (.two (.two (.no) (.loop ⟨[1,5,10],[],[]⟩ [.s 11 (.int .i64),.r 108 35 (.st .ab)] [(.x (some 0),[.r 108 35 (.st .ab)])] (.no))) (.no)))) [] F fun a l=>by kernel_rfl⟩
theorem qv (F:Nat):av Tryz.prog (ax mx) (gu F):=(gD F).1
theorem nK (F:Nat):av Tryz.prog (ax mx) (eU F):=(gD F).2
def kC (F:Nat):bK DD pk:=⟨99,[.d (.st .af)],[],[],[],[.st .af],true,false,false,false,fun a l=>kA F a.1⟩
theorem ov (F:Nat):av Tryz.prog (ax mx) (kC F):=ak (B0:=BB) (L:=LL) (G:=[gu F]) 15 ⟨Tryz.call99⟩ Tryz.func99 Tryz.ntmps99 rfl (zab rfl) rfl ⟨qv F,trivial⟩ (.two (.no) (.two (.two (.no) (.loop ⟨[1,2],[102],[]⟩ [.s 4 (.int .i64),.b 101 118 (.st .af)] [(.x (some 0),[.b 101 118 (.st .af)])] (.no))) (.no))) [] F fun a l=>by kernel_rfl
def hX (F:Nat):bK DD pk:=⟨98,[.d (.sl (.st .af)),.k],[.fn 99],[],[],[.sl (.st .af)],true,false,false,false,fun a l=>hN F a.1⟩
theorem ly (F:Nat):av Tryz.prog (ax mx) (hX F):=ak (B0:=BB) (L:=LL) (G:=[kC F]) 25 ⟨Tryz.call98⟩ Tryz.func98 Tryz.ntmps98 rfl (zab rfl) rfl ⟨ov F,trivial⟩ (.two (.no) (.two (.no) (.two (.two (.no) (.loop ⟨[1,5,10],[],[]⟩ [.s 11 (.int .i64),.r 108 118 (.st .af)] [(.x (some 0),[.r 108 118 (.st .af)])] (.no))) (.no)))) [] F fun a l=>by kernel_rfl
def lY (F:Nat):bK DD pk:=⟨104,[.d (.st .bm)],[],[],[],[.st .bm],true,false,false,false,fun a l=>lV F a.1⟩
theorem qu (F:Nat):av Tryz.prog (ax mx) (lY F):=ak (B0:=BB) (L:=LL) (G:=[kC F]) 8 ⟨Tryz.call104⟩ Tryz.func104 Tryz.ntmps104 rfl (zab rfl) rfl ⟨ov F,trivial⟩ (.no) [] F fun a l=>by kernel_rfl
def pO (F:Nat):bK DD pk:=⟨101,[.d (.st .aL)],[],[],[],[.st .aL],true,false,false,false,fun a l=>pJ F a.1⟩
theorem vW (F:Nat):av Tryz.prog (ax mx) (pO F):=ak (B0:=BB) (L:=LL) (G:=[eU F,hX F,lY F]) 17 ⟨Tryz.call101⟩ Tryz.func101 Tryz.ntmps101 rfl (zab rfl) rfl ⟨nK F,ly F,qu F,trivial⟩ (.two (.no) (.two (.iF [⟨0,[1],[]⟩,⟨1,[3],[101]⟩,⟨3,[1],[]⟩,⟨4,[6],[101]⟩,⟨6,[1],[]⟩,⟨7,[9],[101]⟩,⟨9,[1],[]⟩,⟨2,[4],[]⟩,⟨5,[7],[]⟩,⟨8,[10],[]⟩] [10,11,12,13,14,15,16] []) (.no))) [] F fun a l=>by kernel_rfl
def mH (F:Nat):bK DD pk:=⟨100,[.d (.sl (.st .aL)),.k],[.fn 101],[],[],[.sl (.st .aL)],true,false,false,false,fun a l=>mu F a.1⟩
theorem s5 (F:Nat):av Tryz.prog (ax mx) (mH F):=ak (B0:=BB) (L:=LL) (G:=[pO F]) 25 ⟨Tryz.call100⟩ Tryz.func100 Tryz.ntmps100 rfl (zab rfl) rfl ⟨vW F,trivial⟩ (.two (.no) (.two (.no) (.two (.two (.no) (.loop ⟨[1,5,10],[],[]⟩ [.s 11 (.int .i64),.r 108 124 (.st .aL)] [(.x (some 0),[.r 108 124 (.st .aL)])] (.no))) (.no)))) [] F fun a l=>by kernel_rfl
def qx (F:Nat):bK DD pk:=⟨43,[.d (.st .aN)],[],[],[],[.st .aN],true,false,false,false,fun a l=>qt F a.1⟩
theorem xC (F:Nat):av Tryz.prog (ax mx) (qx F):=ak (B0:=BB) (L:=LL) (G:=[eU F,hX F,mH F]) 17 ⟨Tryz.call43⟩ Tryz.func43 Tryz.ntmps43 rfl (zab rfl) rfl ⟨nK F,ly F,s5 F,trivial⟩ (.two (.no) (.two (.iF [⟨0,[1],[]⟩,⟨1,[3],[101]⟩,⟨3,[1],[]⟩,⟨4,[6],[101]⟩,⟨6,[1],[]⟩,⟨7,[9],[101]⟩,⟨9,[1],[]⟩,⟨2,[4],[]⟩,⟨5,[7],[]⟩,⟨8,[10],[]⟩] [10,11,12,13,14,15,16] []) (.no))) [] F fun a l=>by kernel_rfl
def nX (F:Nat):bK DD pk:=⟨42,[.d (.sl (.st .aN)),.k],[.fn 43],[],[],[.sl (.st .aN)],true,false,false,false,fun a l=>nF F a.1⟩
theorem tY (F:Nat):av Tryz.prog (ax mx) (nX F):=ak (B0:=BB) (L:=LL) (G:=[qx F]) 25 ⟨Tryz.call42⟩ Tryz.func42 Tryz.ntmps42 rfl (zab rfl) rfl ⟨xC F,trivial⟩ (.two (.no) (.two (.no) (.two (.two (.no) (.loop ⟨[1,5,10],[],[]⟩ [.s 11 (.int .i64),.r 108 55 (.st .aN)] [(.x (some 0),[.r 108 55 (.st .aN)])] (.no))) (.no)))) [] F fun a l=>by kernel_rfl
def nW (F:Nat):bK DD pk:=⟨103,[.d (.sl (.st .bm)),.k],[.fn 104],[],[],[.sl (.st .bm)],true,false,false,false,fun a l=>nE F a.1⟩
theorem tX (F:Nat):av Tryz.prog (ax mx) (nW F):=ak (B0:=BB) (L:=LL) (G:=[lY F]) 25 ⟨Tryz.call103⟩ Tryz.func103 Tryz.ntmps103 rfl (zab rfl) rfl ⟨qu F,trivial⟩ (.two (.no) (.two (.no) (.two (.two (.no) (.loop ⟨[1,5,10],[],[]⟩ [.s 11 (.int .i64),.r 108 122 (.st .bm)] [(.x (some 0),[.r 108 122 (.st .bm)])] (.no))) (.no)))) [] F fun a l=>by kernel_rfl
def qw (F:Nat):bK DD pk:=⟨45,[.d (.st .aA)],[],[],[],[.st .aA],true,false,false,false,fun a l=>qq F a.1⟩
def gF (F:Nat):bK DD pk:=⟨44,[.d (.sl (.st .aA)),.k],[.fn 45],[],[],[.sl (.st .aA)],true,false,false,false,fun a l=>gA F a.1⟩
theorem jy:∀ F:Nat,av Tryz.prog (ax mx) (qw F)/\av Tryz.prog (ax mx) (gF F)
 | 0=>⟨cF ⟨Tryz.call45⟩ rfl fun a l=>rfl,cF ⟨Tryz.call44⟩ rfl fun a l=>rfl⟩
 | F+1=>⟨ak (B0:=BB) (L:=LL) (G:=[gu F,gF F,nW F]) 21 ⟨Tryz.call45⟩ Tryz.func45 Tryz.ntmps45 rfl (zab rfl) rfl ⟨qv F,(jy F).2,tX F,trivial⟩ (.two (.no) (.two (.iF [⟨0,[1],[]⟩,⟨1,[3],[101]⟩,⟨3,[1],[]⟩,⟨4,[6],[101]⟩,⟨6,[1],[]⟩,⟨7,[9],[101]⟩,⟨9,[1],[]⟩,⟨10,[12],[101]⟩,⟨12,[1],[]⟩,⟨2,[4],[]⟩,⟨5,[7],[]⟩,⟨8,[10],[]⟩,⟨11,[13],[]⟩] [13,14,15,16,17,18,19,20,21] []) (.no))) [] F fun a l=>by kernel_rfl,
  ak (B0:=BB) (L:=LL) (G:=[qw F]) 25 ⟨Tryz.call44⟩ Tryz.func44 Tryz.ntmps44 rfl (zab rfl) rfl ⟨(jy F).1,trivial⟩ (.two (.no) (.two (.no) (.two (.two (.no) (.loop ⟨[1,5,10],[],[]⟩ [.s 11 (.int .i64),.r 108 48 (.st .aA)] [(.x (some 0),[.r 108 48 (.st .aA)])] (.no))) (.no)))) [] F fun a l=>by kernel_rfl⟩
theorem tW (F:Nat):av Tryz.prog (ax mx) (gF F):=(jy F).2
def vr (F:Nat):bK DD pk:=⟨19,[.d (.st .Source)],[],[],[],[.st .Source],true,false,false,false,fun a l=>u6 F a.1⟩
theorem Cd (F:Nat):av Tryz.prog (ax mx) (vr F):=ak (B0:=BB) (L:=LL) (G:=[nX F,gF F]) 10 ⟨Tryz.call19⟩ Tryz.func19 Tryz.ntmps19 rfl (zab rfl) rfl ⟨tY F,tW F,trivial⟩ (.two (.no) (.two (.iF [⟨0,[1],[]⟩,⟨1,[3],[101]⟩,⟨3,[1],[]⟩,⟨4,[6],[101]⟩,⟨2,[4],[]⟩] [5,6,7] []) (.no))) [] F fun a l=>by kernel_rfl
def dt (F:Nat):bK DD pk:=⟨93,[.d (.st .ab),.d (.st .ab)],[],[],[],[.bool],true,false,false,false,fun a l=>cA F a.1 a.2.1⟩
def da (F:Nat):bK DD pk:=⟨38,[.d (.sl (.st .ab)),.d (.sl (.st .ab))],[],[],[],[.bool],true,false,false,false,fun a l=>eh F a.1 a.2.1⟩
theorem ek:∀ F:Nat,av Tryz.prog (ax mx) (dt F)/\av Tryz.prog (ax mx) (da F)
 | 0=>⟨cF ⟨Tryz.call93⟩ rfl fun a l=>rfl,cF ⟨Tryz.call38⟩ rfl fun a l=>rfl⟩
 | F+1=>⟨ak (B0:=BB) (L:=LL) (G:=[da F]) 45 ⟨Tryz.call93⟩ Tryz.func93 Tryz.ntmps93 rfl (zab rfl) rfl ⟨(ek F).2,trivial⟩ (.no) [] F fun a l=>by kernel_rfl,
  ak (B0:=BB) (L:=LL) (G:=[dt F]) 27 ⟨Tryz.call38⟩ Tryz.func38 Tryz.ntmps38 rfl (zab rfl) rfl ⟨(ek F).1,trivial⟩ (.two (.no) (.two (.no) (.two (.two (.no) (.loop ⟨[0,1],[],[]⟩ [.s 5 (.int .i64)] [(.x (some 0),[]),(.x none,[.s 4 (.bool)])] (.two (.no) (.two (.two (.iF [⟨0,[0],[]⟩,⟨1,[5],[]⟩,⟨2,[17,18],[]⟩,⟨3,[19],[]⟩,⟨4,[1],[]⟩,⟨5,[5],[]⟩,⟨6,[21,22],[]⟩,⟨7,[23],[]⟩] [8,9] []) (.no)) (.no))))) (.no)))) [] F fun a l=>by kernel_rfl⟩
theorem kP (F:Nat):av Tryz.prog (ax mx) (dt F):=(ek F).1
theorem kf (F:Nat):av Tryz.prog (ax mx) (da F):=(ek F).2
def dX (F:Nat):bK DD pk:=⟨94,[.d (.st .af),.d (.st .af)],[],[],[],[.bool],true,false,false,false,fun a l=>dW F a.1 a.2.1⟩
theorem fN (F:Nat):av Tryz.prog (ax mx) (dX F):=ak (B0:=BB) (L:=LL) (G:=[dt F]) 24 ⟨Tryz.call94⟩ Tryz.func94 Tryz.ntmps94 rfl (zab rfl) rfl ⟨kP F,trivial⟩ (.no) [] F fun a l=>by kernel_rfl
def fO (F:Nat):bK DD pk:=⟨39,[.d (.sl (.st .af)),.d (.sl (.st .af))],[],[],[],[.bool],true,false,false,false,fun a l=>fL F a.1 a.2.1⟩
theorem jH (F:Nat):av Tryz.prog (ax mx) (fO F):=ak (B0:=BB) (L:=LL) (G:=[dX F]) 27 ⟨Tryz.call39⟩ Tryz.func39 Tryz.ntmps39 rfl (zab rfl) rfl ⟨fN F,trivial⟩ (.two (.no) (.two (.no) (.two (.two (.no) (.loop ⟨[0,1],[],[]⟩ [.s 5 (.int .i64)] [(.x (some 0),[]),(.x none,[.s 4 (.bool)])] (.two (.no) (.two (.two (.iF [⟨0,[0],[]⟩,⟨1,[5],[]⟩,⟨2,[17,18],[]⟩,⟨3,[19],[]⟩,⟨4,[1],[]⟩,⟨5,[5],[]⟩,⟨6,[21,22],[]⟩,⟨7,[23],[]⟩] [8,9] []) (.no)) (.no))))) (.no)))) [] F fun a l=>by kernel_rfl
def jJ (F:Nat):bK DD pk:=⟨40,[.d (.sl (.st .aL)),.d (.sl (.st .aL))],[],[],[],[.bool],true,false,false,false,fun a l=>jG F a.1 a.2.1⟩
theorem pR (F:Nat):av Tryz.prog (ax mx) (jJ F):=ak (B0:=BB) (L:=LL) (G:=[da F,fO F,dX F]) 74 ⟨Tryz.call40⟩ Tryz.func40 Tryz.ntmps40 rfl (zab rfl) rfl ⟨kf F,jH F,fN F,trivial⟩ (.two (.no) (.two (.no) (.two (.two (.no) (.loop ⟨[0,1],[],[]⟩ [.s 5 (.int .i64)] [(.x (some 0),[]),(.x none,[.s 4 (.bool)])] (.no))) (.no)))) [] F fun a l=>by kernel_rfl
def eo (F:Nat):bK DD pk:=⟨41,[.d (.sl (.st .aA)),.d (.sl (.st .aA))],[],[],[],[.bool],true,false,false,false,fun a l=>eg F a.1 a.2.1⟩
theorem kg:∀ F:Nat,av Tryz.prog (ax mx) (eo F)
 | 0=>cF ⟨Tryz.call41⟩ rfl fun a l=>rfl
 | F+1=>ak (B0:=BB) (L:=LL) (G:=[dt F,eo F,dX F]) 123 ⟨Tryz.call41⟩ Tryz.func41 Tryz.ntmps41 rfl (zab rfl) rfl ⟨kP F,(kg F),fN F,trivial⟩ (.two (.no) (.two (.no) (.two (.two (.no) (.loop ⟨[0,1],[],[]⟩ [.s 5 (.int .i64)] [(.x (some 0),[]),(.x none,[.s 4 (.bool)])] (.two (.no) (.two (.two (.no) (.two (.no) (.two (.no) (.two (.no) (.loop ⟨[0,1,5,6,7],[106,107],[]⟩ [.s 8 (.int .i64)] [(.x (some 2),[]),(.x none,[.s 4 (.bool)])] (.two (.no) (.two (.two (.iF [⟨0,[6],[]⟩,⟨1,[94],[106]⟩,⟨2,[8],[]⟩,⟨3,[95,96],[]⟩,⟨4,[97],[]⟩,⟨5,[98],[]⟩,⟨6,[7],[]⟩,⟨7,[100],[107]⟩,⟨8,[8],[]⟩,⟨9,[101,102],[]⟩,⟨10,[103],[]⟩,⟨11,[104],[]⟩,⟨12,[99,105],[]⟩,⟨13,[106],[]⟩,⟨14,[6,107],[]⟩,⟨15,[108,107],[106]⟩,⟨16,[8,107],[]⟩,⟨17,[109,110,107],[]⟩,⟨18,[111,107],[]⟩,⟨19,[112,107],[]⟩,⟨20,[7,107],[]⟩,⟨21,[114,107],[107]⟩,⟨22,[8,107],[]⟩,⟨23,[115,116,107],[]⟩,⟨24,[117,107],[]⟩,⟨25,[118,107],[]⟩] [26,27,28] []) (.no)) (.no)))))))) (.no))))) (.no)))) [] F fun a l=>by kernel_rfl
theorem pS (F:Nat):av Tryz.prog (ax mx) (eo F):=(kg F)
def nN (F:Nat):bK DD pk:=⟨18,[.d (.st .Source),.d (.st .Source)],[],[],[],[.bool],true,false,false,false,fun a l=>nv F a.1 a.2.1⟩
theorem tL (F:Nat):av Tryz.prog (ax mx) (nN F):=ak (B0:=BB) (L:=LL) (G:=[da F,fO F,jJ F,eo F]) 101 ⟨Tryz.call18⟩ Tryz.func18 Tryz.ntmps18 rfl (zab rfl) rfl ⟨kf F,jH F,pR F,pS F,trivial⟩ (.two (.no) (.two (.no) (.two (.two (.no) (.loop ⟨[2,3],[102,103],[]⟩ [.s 5 (.int .i64)] [(.x (some 0),[]),(.x none,[.s 4 (.bool)])] (.no))) (.no)))) [] F fun a l=>by kernel_rfl
def mC (F:Nat):bK DD pk:=⟨9,[.d (.str),.d (.st .Source)],[],[],[],[.bool],true,false,false,false,fun a l=>iN F a.1 a.2.1⟩
theorem sU (F:Nat):av Tryz.prog (ax mx) (mC F):=ak (B0:=BB) (L:=LL) (G:=[js F,vr F,nN F]) 21 ⟨Tryz.call9⟩ Tryz.func9 Tryz.ntmps9 rfl (zab rfl) rfl ⟨lT F,Cd F,tL F,trivial⟩ (.two (.no) (.two (.no) (.two (.iF [⟨0,[6],[106]⟩,⟨1,[],[]⟩,⟨2,[12,13],[]⟩,⟨3,[14],[]⟩,⟨4,[5,15],[105]⟩,⟨6,[3,15],[103]⟩,⟨5,[16,15],[]⟩] [7,8,9] []) (.no)))) [] F fun a l=>by kernel_rfl
def fy (F:Nat):bK DD pk:=⟨49,[.k,.d (.int .u8)],[.p (.ptr 1 0)],[1,2],[.x 75 .aC,.r 5 (.int .u8)],[.u],false,false,false,false,fun a l=>fw F a.1 l.1 l.2.1⟩
theorem jc (F:Nat):av Tryz.prog (ax mx) (fy F):=ak (B0:=BB) (L:=LL) (G:=[GK F]) 17 ⟨Tryz.call49⟩ Tryz.func49 Tryz.ntmps49 rfl (zab rfl) rfl ⟨(KP F),trivial⟩ (.no) [] F fun a l=>by kernel_rfl
def gM (F:Nat):bK DD pk:=⟨46,[.k],[.p (.ptr 1 0)],[1,2],[.x 75 .aC,.r 5 (.int .u8)],[],false,false,false,false,fun a l=>eJ F l.1 l.2.1⟩
theorem kQ (F:Nat):av Tryz.prog (ax mx) (gM F):=ak (B0:=BB) (L:=LL) (G:=[fy F]) 12 ⟨Tryz.call46⟩ Tryz.func46 Tryz.ntmps46 rfl (zab rfl) rfl ⟨jc F,trivial⟩ (.no) [] F fun a l=>by kernel_rfl
def gG (F:Nat):bK DD pk:=⟨47,[.k,.d (.str)],[.p (.ptr 1 0)],[1,2],[.x 75 .aC,.r 5 (.int .u8)],[.int .i64,.u],false,false,false,false,fun a l=>dY F a.1 l.1 l.2.1⟩
theorem me (F:Nat):av Tryz.prog (ax mx) (gG F):=ak (B0:=BB) (L:=LL) (G:=[GK F]) 19 ⟨Tryz.call47⟩ Tryz.func47 Tryz.ntmps47 rfl (zab rfl) rfl ⟨(KP F),trivial⟩ (.no) [] F fun a l=>by kernel_rfl
def cW (F:Nat):bK DD pk:=⟨20,[.k,.d (.sl (.str))],[.p (.ptr 1 0)],[1,2],[.x 75 .aC,.r 5 (.int .u8)],[],false,false,false,false,fun a l=>aM F a.1 l.1 l.2.1⟩
theorem dE (F:Nat):av Tryz.prog (ax mx) (cW F):=ak (B0:=BB) (L:=LL) (G:=[gM F,b8 F,gG F,fy F,b8 F,b8 F,b8 F,b8 F,b8 F]) 106 ⟨Tryz.call20⟩ Tryz.func20 Tryz.ntmps20 rfl (zab rfl) rfl ⟨kQ F,b7 F,me F,jc F,b7 F,b7 F,b7 F,b7 F,b7 F,trivial⟩ (.two (.no) (.loop ⟨[0,6,7],[],[]⟩ [.s 8 (.int .i64),.x 1 75 .aC 2,.r 2 5 (.int .u8)] [(.x (some 0),[.x 1 75 .aC 2,.r 2 5 (.int .u8)])] (.two (.no) (.two (.no) (.two (.two (.no) (.join ⟨[0,5,6,7,8],[],[]⟩ [.x 1 75 .aC 2,.r 2 5 (.int .u8)] (.no) (.two (.no) (.join ⟨[0,5,6,7,8],[2],[]⟩ [.x 1 75 .aC 2] (.no) (.join ⟨[0,5,6,7,8],[],[]⟩ [.x 1 75 .aC 2,.r 2 5 (.int .u8)] (.two (.no) (.two (.iF [⟨0,[0],[]⟩,⟨1,[39],[]⟩,⟨2,[40],[]⟩,⟨3,[0],[]⟩,⟨4,[42],[]⟩,⟨5,[43],[]⟩,⟨6,[44],[1,2]⟩,⟨7,[45],[]⟩] [8] []) (.no))) (.two (.no) (.two (.no) (.join ⟨[0,5,6,7,8],[2],[]⟩ [.x 1 75 .aC 2] (.no) (.no))))))))) (.no)))))) [] F fun a l=>by kernel_rfl
def fX (F:Nat):bK DD pk:=⟨50,[.k,.d (.bool)],[.p (.ptr 1 0)],[1,2],[.x 75 .aC,.r 5 (.int .u8)],[],false,false,false,false,fun a l=>dm F a.1 l.1 l.2.1⟩
theorem iR (F:Nat):av Tryz.prog (ax mx) (fX F):=ak (B0:=BB) (L:=LL) (G:=[]) 15 ⟨Tryz.call50⟩ Tryz.func50 Tryz.ntmps50 rfl (zab rfl) rfl trivial (.no) [] F fun a l=>by kernel_rfl
def sJ (F:Nat):bK DD pk:=⟨114,[.d (.str)],[],[],[],[.bool],true,false,false,false,fun a l=>sD F a.1⟩
theorem zC (F:Nat):av Tryz.prog (ax mx) (sJ F):=ak (B0:=BB) (L:=LL) (G:=[jt F]) 33 ⟨Tryz.call114⟩ Tryz.func114 Tryz.ntmps114 rfl (zab rfl) rfl ⟨lU F,trivial⟩ (.no) [] F fun a l=>by kernel_rfl
def iT (F:Nat):bK DD pk:=⟨53,[.k,.d (.str)],[.p (.ptr 1 0)],[1,2],[.x 75 .aC,.r 5 (.int .u8)],[],false,false,false,false,fun a l=>iQ F a.1 l.1 l.2.1⟩
theorem mv (F:Nat):av Tryz.prog (ax mx) (iT F):=ak (B0:=BB) (L:=LL) (G:=[sJ F,fX F,cW F]) 12 ⟨Tryz.call53⟩ Tryz.func53 Tryz.ntmps53 rfl (zab rfl) rfl ⟨zC F,iR F,dE F,trivial⟩ (.no) [] F fun a l=>by kernel_rfl
def sH (F:Nat):bK DD pk:=⟨110,[.d (.int .i64)],[],[],[],[.str],true,false,false,false,fun a l=>sC F a.1⟩
theorem zy (F:Nat):av Tryz.prog (ax mx) (sH F):=ak (B0:=BB) (L:=LL) (G:=[]) 7 ⟨Tryz.call110⟩ Tryz.func110 Tryz.ntmps110 rfl (zab rfl) rfl trivial (.no) [] F fun a l=>by kernel_rfl
def sb (F:Nat):bK DD pk:=⟨156,[.d (.st .eE)],[],[],[],[.bool],true,false,false,false,fun a l=>rX F a.1⟩
theorem xi (F:Nat):av Tryz.prog (ax mx) (sb F):=ak (B0:=BB) (L:=LL) (G:=[r8 F,lS F,tF F,qo F]) 26 ⟨Tryz.call156⟩ Tryz.func156 Tryz.ntmps156 rfl (zab rfl) rfl ⟨xg F,oV F,y6 F,tD F,trivial⟩ (.no) [] F fun a l=>by kernel_rfl
def xt (F:Nat):bK DD pk:=⟨157,[.d (.st .eE)],[],[],[],[.int .i64],true,false,false,false,fun a l=>xd F a.1⟩
theorem Ec (F:Nat):av Tryz.prog (ax mx) (xt F):=ak (B0:=BB) (L:=LL) (G:=[sb F,lS F]) 9 ⟨Tryz.call157⟩ Tryz.func157 Tryz.ntmps157 rfl (zab rfl) rfl ⟨xi F,oV F,trivial⟩ (.no) [] F fun a l=>by kernel_rfl
def vp (F:Nat):bK DD pk:=⟨185,[.d (.st .bc)],[],[],[],[.st .eE],true,false,false,false,fun a l=>u5 F a.1⟩
theorem Cb (F:Nat):av Tryz.prog (ax mx) (vp F):=ak (B0:=BB) (L:=LL) (G:=[qo F,sa F]) 6 ⟨Tryz.call185⟩ Tryz.func185 Tryz.ntmps185 rfl (zab rfl) rfl ⟨tD F,xh F,trivial⟩ (.two (.no) (.two (.iF [⟨0,[1],[101]⟩,⟨1,[],[]⟩] [2,3] []) (.no))) [] F fun a l=>by kernel_rfl
def Bx (F:Nat):bK DD pk:=⟨160,[.d (.int .i64)],[],[],[],[.st .eE],true,false,false,false,fun a l=>Bj F a.1⟩
theorem G8 (F:Nat):av Tryz.prog (ax mx) (Bx F):=ak (B0:=BB) (L:=LL) (G:=[pD F,vp F]) 6 ⟨Tryz.call160⟩ Tryz.func160 Tryz.ntmps160 rfl (zab rfl) rfl ⟨pC F,Cb F,trivial⟩ (.no) [] F fun a l=>by kernel_rfl
def rk (F:Nat):bK DD pk:=⟨111,[.d (.st .eE)],[],[],[],[.str],true,false,false,false,fun a l=>re F a.1⟩
theorem yF (F:Nat):av Tryz.prog (ax mx) (rk F):=ak (B0:=BB) (L:=LL) (G:=[sb F,xt F,pD F,Bx F,xq F,b8 F,b8 F,b8 F]) 61 ⟨Tryz.call111⟩ Tryz.func111 Tryz.ntmps111 rfl (zab rfl) rfl ⟨xi F,Ec F,pC F,G8 F,Ea F,b7 F,b7 F,b7 F,trivial⟩ (.two (.no) (.two (.no) (.two (.two (.no) (.loop ⟨[1,13],[101],[]⟩ [] [(.x (some 0),[]),(.x none,[.s 2 (.str)])] (.two (.no) (.two (.no) (.two (.two (.no) (.two (.two (.iF [⟨0,[1],[]⟩,⟨1,[16],[101]⟩,⟨2,[],[]⟩] [3] []) (.two (.two (.two (.iF [⟨0,[1],[101]⟩,⟨1,[],[]⟩] [2,3] []) (.no)) (.no)) (.no))) (.two (.no) (.two (.no) (.two (.no) (.two (.iF [⟨0,[4],[]⟩,⟨1,[4],[]⟩,⟨2,[47],[]⟩,⟨3,[3],[]⟩,⟨4,[48,49],[]⟩,⟨5,[46,50],[]⟩,⟨6,[51],[]⟩,⟨7,[4],[]⟩,⟨8,[4],[]⟩,⟨9,[54],[]⟩,⟨10,[3],[]⟩,⟨11,[55,56],[]⟩,⟨12,[53,57],[]⟩] [13,14] []) (.no))))))) (.no)))))) (.no)))) [] F fun a l=>by kernel_rfl
def kj (F:Nat):bK DD pk:=⟨113,[.k,.d (.st .ab)],[.p (.ptr 1 0)],[1,2],[.x 75 .aC,.r 5 (.int .u8)],[],false,false,false,false,fun a l=>c9 F a.1 l.1 l.2.1⟩
def fY (F:Nat):bK DD pk:=⟨52,[.k,.d (.st .ab)],[.p (.ptr 1 0)],[1,2],[.x 75 .aC,.r 5 (.int .u8)],[],false,false,false,false,fun a l=>ez F a.1 l.1 l.2.1⟩
theorem iS:∀ F:Nat,av Tryz.prog (ax mx) (kj F)/\av Tryz.prog (ax mx) (fY F)
 | 0=>⟨cF ⟨Tryz.call113⟩ rfl fun a l=>rfl,cF ⟨Tryz.call52⟩ rfl fun a l=>rfl⟩
 | F+1=>⟨ak (B0:=BB) (L:=LL) (G:=[fY F,cW F]) 19 ⟨Tryz.call113⟩ Tryz.func113 Tryz.ntmps113 rfl (zab rfl) rfl ⟨(iS F).2,dE F,trivial⟩ (.no) [] F fun a l=>by kernel_rfl,
  ak (B0:=BB) (L:=LL) (G:=[fX F,sH F,rk F,sI F,cW F,iT F,kj F]) 161 ⟨Tryz.call52⟩ Tryz.func52 Tryz.ntmps52 rfl (zab rfl) rfl ⟨iR F,zy F,yF F,zB F,dE F,mv F,(iS F).1,trivial⟩ (.two (.no) (.two (.no) (.two (.no) (.two (.no) (.two (.no) (.join ⟨[0,3,4,6],[1,2,103],[]⟩ [.s 5 (.int .i64)] (.two (.no) (.two (.no) (.join ⟨[0,3,4,5,6],[1,2,103],[]⟩ [.s 41 (.bool)] (.no) (.no)))) (.no))))))) [] F fun a l=>by kernel_rfl⟩
theorem s4 (F:Nat):av Tryz.prog (ax mx) (fY F):=(iS F).2
def mc (F:Nat):bK DD pk:=⟨59,[.k,.d (.sl (.st .aA))],[.p (.ptr 1 0)],[1,2],[.x 75 .aC,.r 5 (.int .u8)],[],false,false,false,false,fun a l=>iC F a.1 l.1 l.2.1⟩
def eD (F:Nat):bK DD pk:=⟨22,[.k,.d (.st .aA)],[.p (.ptr 1 0)],[1,2],[.x 75 .aC,.r 5 (.int .u8)],[],false,false,false,false,fun a l=>fS F a.1 l.1 l.2.1⟩
theorem fV:∀ F:Nat,av Tryz.prog (ax mx) (mc F)/\av Tryz.prog (ax mx) (eD F)
 | 0=>⟨cF ⟨Tryz.call59⟩ rfl fun a l=>rfl,cF ⟨Tryz.call22⟩ rfl fun a l=>rfl⟩
 | F+1=>⟨ak (B0:=BB) (L:=LL) (G:=[cW F,eD F]) 22 ⟨Tryz.call59⟩ Tryz.func59 Tryz.ntmps59 rfl (zab rfl) rfl ⟨dE F,(fV F).2,trivial⟩ (.two (.no) (.two (.two (.no) (.loop ⟨[0,9,10],[],[]⟩ [.s 11 (.int .i64),.x 1 75 .aC 2,.r 2 5 (.int .u8)] [(.x (some 0),[.x 1 75 .aC 2,.r 2 5 (.int .u8)])] (.no))) (.no))) [] F fun a l=>by kernel_rfl,
  ak (B0:=BB) (L:=LL) (G:=[fX F,cW F,iT F,fY F,mc F,eD F]) 151 ⟨Tryz.call22⟩ Tryz.func22 Tryz.ntmps22 rfl (zab rfl) rfl ⟨iR F,dE F,mv F,s4 F,(fV F).1,(fV F).2,trivial⟩ (.two (.no) (.two (.no) (.two (.no) (.two (.no) (.qY ⟨[0],[],[]⟩ [.x 1 75 .aC 2,.r 2 5 (.int .u8)] [(.x none,[.x 1 75 .aC 2,.r 2 5 (.int .u8)])] (.no) (.no)))))) [] F fun a l=>by kernel_rfl⟩
theorem sZ (F:Nat):av Tryz.prog (ax mx) (eD F):=(fV F).2
def jd (F:Nat):bK DD pk:=⟨61,[.k],[.p (.ptr 1 0)],[1,2],[.x 75 .aC,.r 5 (.int .u8)],[.str],false,false,false,true,fun a l=>jb F l.1 l.2.1⟩
theorem oW (F:Nat):av Tryz.prog (ax mx) (jd F):=ak (B0:=BB) (L:=LL) (G:=[]) 14 ⟨Tryz.call61⟩ Tryz.func61 Tryz.ntmps61 rfl (zab rfl) rfl trivial (.two (.no) (.two (.iF [⟨0,[0],[]⟩,⟨1,[3],[]⟩,⟨2,[4],[]⟩,⟨3,[5],[1,2]⟩,⟨4,[6],[2,100107]⟩,⟨5,[0],[]⟩,⟨6,[8],[]⟩,⟨7,[9],[]⟩,⟨8,[10],[1,2]⟩,⟨9,[11],[2]⟩] [10,11] []) (.no))) [] F fun a l=>by kernel_rfl
def rl (F:Nat):bK DD pk:=⟨24,[.d (.str)],[],[],[],[.st .Problem],true,false,false,false,fun a l=>rf F a.1⟩
theorem yG (F:Nat):av Tryz.prog (ax mx) (rl F):=ak (B0:=BB) (L:=LL) (G:=[js F]) 11 ⟨Tryz.call24⟩ Tryz.func24 Tryz.ntmps24 rfl (zab rfl) rfl ⟨lT F,trivial⟩ (.no) [] F fun a l=>by kernel_rfl
def mG (F:Nat):bK DD pk:=⟨23,[.k,.k],[.p (.ptr 1 0),.fn 24],[1,2],[.x 75 .aC,.r 5 (.int .u8)],[.str,.int .i64],false,false,false,true,fun a l=>mr F l.1 l.2.1⟩
theorem sY (F:Nat):av Tryz.prog (ax mx) (mG F):=ak (B0:=BB) (L:=LL) (G:=[gM F,jd F,rl F]) 29 ⟨Tryz.call23⟩ Tryz.func23 Tryz.ntmps23 rfl (zab rfl) rfl ⟨kQ F,oW F,yG F,trivial⟩ (.two (.no) (.join ⟨[0,1],[],[]⟩ [.x 1 75 .aC 2,.r 2 5 (.int .u8)] (.no) (.no))) [] F fun a l=>by kernel_rfl
def tK (F:Nat):bK DD pk:=⟨10,[.d (.st .Source)],[],[],[],[.str,.int .i64],true,false,false,false,fun a l=>tH F a.1⟩
theorem BK (F:Nat):av Tryz.prog (ax mx) (tK F):=ak (B0:=BB) (L:=LL) (G:=[((cW F).sw 1 110).sw 2 100110,((eD F).sw 1 110).sw 2 100110,((mG F).sw 1 110).sw 2 100110]) 43 ⟨Tryz.call10⟩ Tryz.func10 Tryz.ntmps10 rfl (zab rfl) rfl ⟨((dE F).sw 1 110).sw 2 100110,((sZ F).sw 1 110).sw 2 100110,((sY F).sw 1 110).sw 2 100110,trivial⟩ (.two (.no) (.two (.no) (.two (.no) (.two (.two (.no) (.loop ⟨[1,4,15,16,17],[101,110,100110],[]⟩ [] [(.x (some 0),[])] (.no))) (.two (.no) (.two (.two (.no) (.loop ⟨[4,29,30],[],[]⟩ [.s 31 (.int .i64),.x 110 75 .aC 100110,.r 100110 5 (.int .u8)] [(.x (some 2),[.x 110 75 .aC 100110,.r 100110 5 (.int .u8)])] (.no))) (.no))))))) [9,10] F fun a l=>by kernel_rfl
def lA (F:Nat):bK DD pk:=⟨12,[.d (.str),.d (.int .i64),.d (.int .i64)],[],[],[],[.bool],true,false,false,false,fun a l=>eY F a.1 a.2.1 a.2.2.1⟩
theorem rn (F:Nat):av Tryz.prog (ax mx) (lA F):=ak (B0:=BB) (L:=LL) (G:=[js F]) 19 ⟨Tryz.call12⟩ Tryz.func12 Tryz.ntmps12 rfl (zab rfl) rfl ⟨lT F,trivial⟩ (.no) [] F fun a l=>by kernel_rfl
def ma (F:Nat):bK DD pk:=⟨4,[],[],[],[],[.bool],true,false,false,false,fun a l=>dP F⟩
theorem si (F:Nat):av Tryz.prog (ax mx) (ma F):=ak (B0:=BB) (L:=LL) (G:=[mb F,mC F,tK F,js F,lA F]) 111 ⟨Tryz.call4⟩ Tryz.func4 Tryz.ntmps4 rfl (zab rfl) rfl ⟨sj F,sU F,BK F,lT F,rn F,trivial⟩ (.two (.no) (.two (.no) (.two (.iF [⟨1,[1],[101]⟩,⟨4,[],[102]⟩,⟨0,[],[]⟩,⟨2,[17,18],[]⟩,⟨3,[19],[]⟩] [5] []) (.no)))) [] F fun a l=>by kernel_rfl
def jB (F:Nat):bK DD pk:=⟨5,[.d (.int .i64)],[],[],[],[.str],true,false,false,false,fun a l=>eQ F a.1⟩
theorem nI (F:Nat):av Tryz.prog (ax mx) (jB F):=ak (B0:=BB) (L:=LL) (G:=[]) 14 ⟨Tryz.call5⟩ Tryz.func5 Tryz.ntmps5 rfl (zab rfl) rfl trivial (.no) [] F fun a l=>by kernel_rfl
def l9 (F:Nat):bK DD pk:=⟨16,[.d (.int .i64)],[],[],[],[.int .i64],true,false,false,false,fun a l=>cn F a.1⟩
theorem sg (F:Nat):av Tryz.prog (ax mx) (l9 F):=ak (B0:=BB) (L:=LL) (G:=[]) 14 ⟨Tryz.call16⟩ Tryz.func16 Tryz.ntmps16 rfl (zab rfl) rfl trivial (.two (.no) (.two (.two (.no) (.two (.no) (.two (.no) (.two (.no) (.two (.no) (.join ⟨[3],[],[]⟩ [.s 8 (.bool)] (.no) (.two (.no) (.join ⟨[],[],[]⟩ [.s 11 (.bool)] (.no) (.no))))))))) (.no))) [] F fun a l=>by kernel_rfl
def gE (F:Nat):bK DD pk:=⟨7,[.d (.st .ab)],[],[],[],[.str,.bool],true,false,false,false,fun a l=>cR F a.1⟩
theorem nL:∀ F:Nat,av Tryz.prog (ax mx) (gE F)
 | 0=>cF ⟨Tryz.call7⟩ rfl fun a l=>rfl
 | F+1=>ak (B0:=BB) (L:=LL) (G:=[gE F,l9 F,jB F]) 70 ⟨Tryz.call7⟩ Tryz.func7 Tryz.ntmps7 rfl (zab rfl) rfl ⟨(nL F),sg F,nI F,trivial⟩ (.two (.no) (.two (.two (.no) (.two (.two (.iF [⟨0,[1],[]⟩,⟨1,[13],[101]⟩,⟨2,[1],[]⟩,⟨3,[15],[101]⟩,⟨4,[16],[]⟩,⟨5,[14],[]⟩] [6] []) (.no)) (.no))) (.no))) [] F fun a l=>by kernel_rfl
theorem tQ (F:Nat):av Tryz.prog (ax mx) (gE F):=(nL F)
def kE (F:Nat):bK DD pk:=⟨3,[.d (.sl (.int .u8))],[],[],[],[.bool],true,false,false,false,fun a l=>df F a.1⟩
theorem kD (F:Nat):av Tryz.prog (ax mx) (kE F):=ak (B0:=BB) (L:=LL) (G:=[ma F,jB F,vq F,gE F]) 64 ⟨Tryz.call3⟩ Tryz.func3 Tryz.ntmps3 rfl (zab rfl) rfl ⟨si F,nI F,Cc F,tQ F,trivial⟩ (.two (.no) (.two (.no) (.two (.no) (.two (.no) (.two (.two (.no) (.loop ⟨[0,3],[],[]⟩ [.s 4 (.str),.s 5 (.int .i64)] [(.x (some 0),[.s 4 (.str)])] (.two (.no) (.two (.iF [⟨0,[4],[]⟩,⟨1,[21],[]⟩,⟨2,[3],[]⟩,⟨3,[0],[]⟩,⟨4,[5],[]⟩,⟨5,[24,25],[]⟩,⟨6,[26],[]⟩,⟨7,[27],[]⟩,⟨8,[23,28],[]⟩,⟨9,[29],[]⟩,⟨13,[],[]⟩,⟨14,[5],[]⟩,⟨15,[35],[]⟩,⟨16,[34,36],[]⟩,⟨17,[37],[]⟩,⟨10,[30],[]⟩,⟨11,[22,31],[]⟩,⟨12,[32],[]⟩] [18,19] []) (.no))))) (.no)))))) [] F fun a l=>by kernel_rfl
end Go.Dn
