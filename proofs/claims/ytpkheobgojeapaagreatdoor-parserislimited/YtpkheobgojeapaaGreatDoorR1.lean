/- printed walks -/
import Derived.Test.YtpkheobgojeapaaGreatDoorQ1
import Derived.Test.YtpkheobgojeapaaGreatDoorQ2
import Derived.Test.YtpkheobgojeapaaGreatDoorQ3
import Derived.Test.YtpkheobgojeapaaGreatDoorQ4
import Derived.Test.YtpkheobgojeapaaGreatDoorQ5
import Derived.Test.YtpkheobgojeapaaGreatDoorQ6
namespace Go.Dn
open Go Go.Sk Go.Proofs
open X
set_option linter.unusedVariables false
set_option maxRecDepth 100000
variable {mx:Int}
theorem h31_lin (F:Nat):Dw (BB (mx:=mx)) LL [aT F,aU F,bP F,dF F,dX F,dq F,bn F,fB F,cm F,bA F] ⟨129,Ie (dt F).ks (dt F).ls,[]⟩ (Gd 8 Tryz.f31) [(0,1),(2,102),(3,103)] [(0,1),(2,102),(3,103)] [.b 1 64 (.st .reader),.b 102 53 (.st .aM),.b 103 53 (.st .aM)] [.b 1 64 (.st .reader),.b 102 53 (.st .aM),.b 103 53 (.st .aM)] .Problem (h31 F):=Ke (mx:=mx) 12 (by kernel_rfl) [[],[0],[0],[0,1,2],[],[4],[5],[3,6],[],[8,5],[0,1,2,3,4,5,6,7,8,9],[10,7,9,0,1,2,3,4,5,6,7,8,9]] (by kernel_rfl) (fun σ z=>if σ.idxOf 1 < σ.idxOf 2 then h31 F z else Iv F z) (fun σ z=>by
 show (if σ.idxOf 1 < σ.idxOf 2 then h31 F z else Iv F z) = h31 F z
 split
 ·rfl
 ·exact h31_eq) (fun z0=>vT [0,4,8] (by kernel_rfl) (by decide) ⟨vT [1,2,4,8] (by kernel_rfl) (by decide) ⟨Kv F z0,Ku F z0,Kt F z0,Ks F z0,trivial⟩,vT [0,5,8] (by kernel_rfl) (by decide) ⟨Kr F z0,Kq F z0,Kp F z0,trivial⟩,vT [0,4] (by kernel_rfl) (by decide) ⟨Ko F z0,Kn F z0,trivial⟩,trivial⟩)
theorem tk (F:Nat):av Tryz.prog (aw mx) (dt F):=CG (B0:=BB (mx:=mx)) (L:=LL) (G:=[aT F,aU F,bP F,dF F,dX F,dq F,bn F,fB F,cm F,bA F]) 129 ⟨Tryz.call31⟩ Tryz.func31 Tryz.ntmps31 rfl (Nat.le_of_ble_eq_true rfl) rfl ⟨bf F,bg F,dW F,lC F,kG F,iU F,bO F,so F,eQ F,bT F,trivial⟩ (.two (.no) (.two (.no) (.qx ⟨[0,2,3],[],[]⟩ [.b 1 64 (.st .reader),.b 102 53 (.st .aM),.b 103 53 (.st .aM)] [(.x none,[.b 1 64 (.st .reader),.b 102 53 (.st .aM)]),(.hH,[])] (.two (.no) (.two (.no) (.two (.no) (.two (.no) (.two (.no) (.two (.two (.lin [(0,1),(2,102),(3,103)] [(0,1),(2,102),(3,103)] [.b 1 64 (.st .reader),.b 102 53 (.st .aM),.b 103 53 (.st .aM)] [.b 1 64 (.st .reader),.b 102 53 (.st .aM),.b 103 53 (.st .aM)] .Problem (h31 F)) (.no)) (.two (.no) (.two (.two (.hY [] [] []) (.no)) (.two (.no) (.two (.two (.no) (.two (.no) (.two (.no) (.two (.no) (.two (.no) (.two (.no) (.two (.hY [] [] []) (.no)))))))) (.no))))))))))) (.no)))) [] F (fun a l=>by kernel_rfl) ⟨(bS _ rfl),⟨(bS _ rfl),⟨⟨(bS _ rfl),⟨(bS _ rfl),⟨(bS _ rfl),⟨(bS _ rfl),⟨(bS _ rfl),⟨⟨(h31_lin (mx:=mx) F),(bS _ rfl)⟩,(bS _ rfl)⟩⟩⟩⟩⟩⟩,(bS _ rfl)⟩⟩⟩
end Go.Dn
namespace Go.Dn
open Go Go.Sk Go.Proofs X
set_option linter.unusedVariables false
set_option maxRecDepth 100000
section
variable {P:Program} {TB:aF} {E:Env TB} {n:Sh} {s:St} {dst:Option Nat} {t ty yt:TypeId} {pos:String} {after:Array Edge} {g:Option (Nat × Bool)} {x y:Operand} {ops:Array Oper} {l:List Oper} {Q:bF}
theorem toRaw {a:Nat} {k:Nat} {ac:Act} {w:World} (hk:k ∈ n.fix) (hl:lk s.slots a = some (.b (.ptr k 0))) (hr:R E n s ac w):R E n ⟨(a,.b (.one (.raw (E.ρ0 k)))) :: s.slots,s.own⟩ ac w:=by
 obtain ⟨h1,h2,h,ρ,hw,hs⟩:=hr
 refine ⟨h1,h2,h,ρ,hw,fun j z hz=>?_⟩
 rcases List.mem_cons.1 hz with e | e
 ·cases e
  obtain ⟨v,hv,b,e1,e2⟩:=hs _ _ (bh hl)
  refine ⟨v,hv,?_⟩
  have e3:v = E.ρ0 k:=by rw [e2,← hw.fixed k hk,e1]
  refine (show (CP.raw (E.ρ0 k)).rel h v from ⟨e3,?_⟩)
  rw [← e3,e2]; rfl
 ·exact hs j z e
theorem ofRaw {a f:Nat} {k:Nat} {T:TypeId} {ps:List CP} {ac:Act} {w:World} (hk:k ∈ n.fix) (hb:lk s.own k = some (.box T ps)) (hl:lk s.slots a = some (.b (.one (.raw (.func (.func f) #[E.ρ0 k] #[]))))) (hr:R E n s ac w):R E n ⟨(a,.b (.cD f [.ptr k 0] [])) :: s.slots,s.own⟩ ac w:=by
 obtain ⟨h1,h2,h,ρ,hw,hs⟩:=hr
 obtain ⟨b,cur,e1,_,_⟩:=hX hw hb
 refine ⟨h1,h2,h,ρ,hw,fun j z hz=>?_⟩
 rcases List.mem_cons.1 hz with e | e
 ·cases e
  obtain ⟨v,hv,e2,_⟩:=hs _ _ (bh hl)
  refine ⟨v,hv,#[E.ρ0 k],#[],e2,.cons ⟨b,e1,?_⟩ .nil,.nil⟩
  rw [← hw.fixed k hk,e1]
 ·exact hs j z e
theorem CT {f:FuncId} {u:Value} (hx:s.ev x = some (.b (.one (.raw u)))):aR P E n ⟨dst,.makeFunc (.func f) ⟨[x]⟩ ⟨[]⟩,ty,pos,after,g⟩ s (s.put n dst (.b (.one (.raw (.func (.func f) #[u] #[]))))) :=
 aR.val (o:=⟨dst,.makeFunc (.func f) ⟨[x]⟩ ⟨[]⟩,ty,pos,after,g⟩) fun ac w h ρ hw hs=>by
  have hv:ac.eval x = u:=(aC hs hx:(CP.raw _).rel h _).1
  refine ⟨.func (.func f) #[u] #[],?_,rfl,rfl⟩
  simp [execOp,Instr.makeFunc,hv]
end
section
variable {TB:aF} {E:Env TB} {n:Sh} {ops:Array Oper} {l:List Oper} {Q:bF}
theorem f_b144:qC Tryz.prog 144 [(0,1),(1,1),(2,1)] [.int .i64 0,.int .i64 0,.raw .nilFunc]:=⟨Tryz.t144,_,_,by kernel_rfl,rfl,fun _=>.cons aa (.cons aa (.cons ⟨rfl,rfl⟩ .nil)),Tryz.underlying144,by kernel_rfl⟩
def z144:BV:=.agg [.int .i64 0,.int .i64 0,.raw .nilFunc]
theorem Jr:sC Tryz.prog 145 9 144 z144:=⟨Tryz.underlying145,Tryz.t144,_,by kernel_rfl,rfl,fun _ _=>⟨_,rfl,.cons aa (.cons aa (.cons ⟨rfl,rfl⟩ .nil))⟩⟩
def Gn (k o:Int) (f:Nat) (u:Value):BV:=.agg [.int .i64 k,.int .i64 o,.raw (.func (.func f) #[u] #[])]
def S1 (u:Value) (b1:reader) (z:ay) (es:List (Str × BV)):St:=⟨[(0,.b (.ptr 1 0)),(2,.b (.ptr 102 0)),(8,.b (.row 108))],[(1,.box 64 (q9 b1)),(102,.box 46 (nG z)),(108,.mp (vo CP.str es))]⟩
theorem put_eq {s:St} {d:Nat} {x:SV} (h:d < n.n):s.put n (some d) x = ⟨(d,x) :: del d s.slots,s.own⟩:=by simp [St.put,St.set,h]
theorem Gi {α:Type} {a k:Nat} {x:α} {l:List (Nat × α)} (h:k ≠ a):lk ((a,x) :: l) k = lk l k:=by
 simp only [lk]
 rw [if_neg (by simpa using h)]
theorem Cu {α:Type} {a k:Nat} (h:k ≠ a):∀ {l:List (Nat × α)},lk (del a l) k = lk l k:=fun {l}=>ml h
theorem hO {a b c f:Nat} {k o:Int} {q:ByteArray} {t0 t1 t2 t3:TypeId} {p0 p1 p2 p3:String} {e0 e1 e2 e3:Array Edge} {b1:reader} {z:ay} {es:List (Str × BV)} (hn:1 ∈ n.fix) (ha:a < n.n) (hb:b < n.n) (hc:c < n.n) (h0:∀ j ∈ [0,2,8],j ≠ a ∧ j ≠ b ∧ j ≠ c)
  (hk:k.natAbs < 1000 ∧ o.natAbs < 1000) (hq:dY es q.data.toList = none) (hl:q.data.toList.length ≤ maxLen)
  (h:aj Tryz.prog E n ops l (S1 (E.ρ0 1) b1 z (es ++ [(q.data.toList,Gn k o f (E.ρ0 1))])) Q) :
  aj Tryz.prog E n ops (⟨some a,.move (.tmp 0),t0,p0,e0,none⟩ :: ⟨some b,.makeFunc (.func f) ⟨[.tmp a]⟩ ⟨[]⟩,t1,p1,e1,none⟩ :: ⟨some c,.build 144 ⟨[(0,.const (.int .i64 k)),(1,.const (.int .i64 o)),(2,.tmp b)]⟩,t2,p2,e2,none⟩ :: ⟨none,.insert 145 (.tmp 8) (.const (.string q)) (.tmp c),t3,p3,e3,none⟩ :: l) (S1 (E.ρ0 1) b1 z es) Q:=by
 have h8:=h0 8 (by simp)
 refine Oc (om rfl) ?_
 rw [put_eq ha]
 refine aj.preR (fun ac w hr=>toRaw (a:=a) (k:=1) hn (by simp [lk]) hr) ?_
 refine Oc (CT (x:=.tmp a) (u:=E.ρ0 1) (by simp [St.ev,St.get,lk])) ?_
 rw [put_eq hb]
 have hc1:(F' (Value.int .i64 k)) = some (.int .i64 k):=by
  show (if IntKind.i64.min ≤ k ∧ k ≤ IntKind.i64.max then some (CP.int .i64 k) else none) = _
  rw [if_pos]
  have e1:IntKind.i64.min = -9223372036854775808:=rfl
  have e2:IntKind.i64.max = 9223372036854775807:=rfl
  rw [e1,e2]
  omega
 have hc2:(F' (Value.int .i64 o)) = some (.int .i64 o):=by
  show (if IntKind.i64.min ≤ o ∧ o ≤ IntKind.i64.max then some (CP.int .i64 o) else none) = _
  rw [if_pos]
  have e1:IntKind.i64.min = -9223372036854775808:=rfl
  have e2:IntKind.i64.max = 9223372036854775807:=rfl
  rw [e1,e2]
  omega
 refine Oc (u6 f_b144 (cps:=[(0,[.int .i64 k]),(1,[.int .i64 o]),(2,[.raw (.func (.func f) #[E.ρ0 1] #[])])]) (qs:=[.int .i64 k,.int .i64 o,.raw (.func (.func f) #[E.ρ0 1] #[])]) (by
  simp [eE,St.ev,St.get,lk,hc1,hc2,SV.cells]) (by simp [ir,Sk.aN])) ?_
 rw [put_eq hc]
 refine Oc (Cr (zm Tryz.underlying9) Jr (l:=es) (j:=108) (k:=q.data.toList) (v:=Gn k o f (E.ρ0 1)) (by
  show lk ((c,_) :: del c ((b,_) :: del b ((a,_) :: (a,_) :: del a _))) 8 = _
  rw [Gi h8.2.2,Cu h8.2.2,Gi h8.2.1,Cu h8.2.1,Gi h8.1,Gi h8.1,Cu h8.1]
  rfl) rfl (by
  show (if q.data.toList.length ≤ maxLen then some (CP.str q.data.toList) else none).map _ = _
  rw [if_pos hl]
  rfl) (by
  show lk ((c,_) :: _) c = _
  simp [lk]
  rfl) hq) ?_
 refine aj.preR (fun ac w hr=>rP (fun p hp=>?_) (fun p hp=>?_) hr) h
 ·have hp1:p.1 ∈ [0,2,8]:=by
   have:=List.mem_map_of_mem (f:=(·.1)) hp
   exact this
  obtain ⟨g1,g2,g3⟩:=h0 _ hp1
  refine List.mem_cons_of_mem _ (cV (List.mem_cons_of_mem _ (cV (List.mem_cons_of_mem _ (List.mem_cons_of_mem _ (cV ?_ g1))) g2)) g3)
  exact hp
 ·exact hp
end
section
variable {mx:Int} {E:Env (aw mx)} {n:Sh} {Q:bF}
theorem denS {fr:Fr} {F:Nat} {c:Code} {an:An DD} {s s1:bE DD} {m:Option (bE DD)} {G:List (bJ DD pk)} (hn:n.n = fr.n) (hf:n.fix = fr.fx) (hG:EV Tryz.prog (aw mx) G) (h:gH (BB (mx:=mx)) LL G fr F c an ⟨[],[],[]⟩ s some (fun _ _=>none) (fun _ _=>none) = m) (hm:m = some s1) (hr:Fin E n .normal s1.st Q) (hh:mj an = true:=by rfl):ah Tryz.prog E n c s.st Q :=
 iw hn hf hG c an (bS c hh) ⟨[],[],[]⟩ s some _ _ s1 Q (h.trans hm) (fun s' _ e=>by cases e; exact hr) (fun t s' _ e=>by cases e) (fun p ow e=>by cases e)
theorem B5 {fr:Fr} {F:Nat} {c:Code} {an:An DD} {s:bE DD} {cs:Kept} {ks:List (Pl DD)} {m:Option (PT DD ks ⊕ Problem)} {r:PT DD ks ⊕ Problem} {G:List (bJ DD pk)} (hn:n.n = fr.n) (hf:n.fix = fr.fx) (hG:EV Tryz.prog (aw mx) G) (hk:okE ⟨[],[],[]⟩ cs s ks = true) (h:gH (BB (mx:=mx)) LL G fr F c an (cs.add ⟨[],[],[]⟩) s (fun s'=>(pjI LL (cs.add ⟨[],[],[]⟩) s' cs.r ks).bind fun z=>some (.inl z)) (fun _ _=>none) (fun p _=>some (.inr p)) = m) (hm:m = some r) (hr:∀ z,r = .inl z → Fin E n .normal (EW s cs ks z).st Q) (hP:∀ p,r = .inr p → yB E n pk p ⟨[],[],[]⟩ Q) (hh:mj an = true:=by rfl):ah Tryz.prog E n c s.st Q :=
 iw hn hf hG c an (bS c hh) (cs.add ⟨[],[],[]⟩) s _ _ _ r Q (h.trans hm) (fun s' he e=>by
  obtain ⟨z,hz,e1⟩:=aJ e
  cases e1
  exact fun a w hR=>hr z rfl a w (uV hz he hR)) (fun t s' _ e=>by cases e) (fun p ow e=>by cases e; exact (hP _ rfl).less Gk)
theorem Hs {fr:Fr} {os l:List Oper} {s:bE DD} {cs:Kept} {ks:List (Pl DD)} {m:Option (PT DD ks ⊕ Problem)} {r:PT DD ks ⊕ Problem} {G:List (bJ DD pk)} (hn:n.n = fr.n) (hf:n.fix = fr.fx) (hG:EV Tryz.prog (aw mx) G) (hk:okE ⟨[],[],[]⟩ cs s ks = true) (h:Go.Dn.ops (BB (mx:=mx)) LL G fr (cs.add ⟨[],[],[]⟩) os l s (fun s'=>(pjI LL (cs.add ⟨[],[],[]⟩) s' cs.r ks).bind fun z=>some (.inl z)) (fun p _=>some (.inr p)) = m) (hm:m = some r) (hr:∀ z,r = .inl z → Fin E n .normal (EW s cs ks z).st Q) (hP:∀ p,r = .inr p → yB E n pk p ⟨[],[],[]⟩ Q):aj Tryz.prog E n os.toArray l s.st Q :=
 wV hn hf hG (fun p ow e=>by cases e; exact (hP _ rfl).less Gk) (h.trans hm) fun s' he e=>by
  obtain ⟨z,hz,e1⟩:=aJ e
  cases e1
  exact fun a w hR=>hr z rfl a w (uV hz he hR)
def embQ (s:bE DD) (cs:Kept) (ps:List (Nat × Nat)) (ks:List (Pl DD)) (z:PT DD ks):bE DD:=⟨(ps.map fun p=>(p.1,.n (.p (.ptr p.2 0)))) ++ (EW s cs ks z).sl,(EW s cs ks z).own,[]⟩
theorem Fu {s s':bE DD} {cs:Kept} {ps:List (Nat × Nat)} {ks:List (Pl DD)} {z:PT DD ks} {a:Act} {w:World} (hP:p6 s' ps = true) (hp:pj s' cs.r ks = some z) (he:Ext (cs.add ⟨[],[],[]⟩).s (cs.add ⟨[],[],[]⟩).o s s') (hr:R E n s'.st a w):R E n (embQ s cs ps ks z).st a w:=by
 have hc:=fun t ht=>he.sl t (List.mem_append_left _ ht)
 have ho:=fun t ht=>he.ow t (List.mem_append_left _ ht)
 obtain ⟨h1,h2,hh,ρ,hw,hs⟩:=hr
 unfold pj at hp
 split at hp
 ·next hR=>
  obtain ⟨h3,h4⟩:=zj hp
  refine ⟨h1,h2,hh,ρ,?_,fun k x hx=>?_⟩
  ·refine hw.sub fun p hp=>?_
   obtain ⟨q,hq,rfl⟩:=List.mem_map.1 hp
   obtain ⟨k,c⟩:=q
   refine List.mem_map.2 ⟨(k,c),?_,rfl⟩
   rcases List.mem_append.1 hq with e | e
   ·exact bh (h4 k c e)
   ·simp only [kpo,List.mem_filterMap] at e
    obtain ⟨k',hk,hq⟩:=e
    obtain ⟨c',hc',e⟩:=Option.map_eq_some_iff.1 hq
    cases e
    exact bh (ho _ hk _ hc')
  ·obtain ⟨y,hy,rfl⟩:=dR.1 hx
   rcases List.mem_append.1 hy with e | e
   ·obtain ⟨p,hpm,e2⟩:=List.mem_map.1 e
    cases e2
    have:=List.all_eq_true.1 hP p hpm
    refine qS hs (x:=.p (.ptr p.2 0)) ?_
    split at this
    ·next j hj=>
     have:j = p.2:=by simpa using this
     subst this
     unfold vl
     rw [hj]
    ·cases this
   rcases List.mem_append.1 e with e | e
   ·obtain ⟨x,rfl,hv⟩:=h3 _ _ e
    exact qS hs hv
   ·rcases List.mem_append.1 e with e | e
    ·obtain ⟨x,rfl,hv⟩:=GP hR e
     exact qS hs hv
    ·obtain ⟨hk,x,rfl,hv⟩:=Jj e
     exact qS hs (hc _ hk _ hv)
 ·cases hp
theorem Iq {fr:Fr} {os l:List Oper} {s:bE DD} {cs:Kept} {ps:List (Nat × Nat)} {ks:List (Pl DD)} {z:PT DD ks} {G:List (bJ DD pk)} (hn:n.n = fr.n) (hf:n.fix = fr.fx) (hG:EV Tryz.prog (aw mx) G) (h:Go.Dn.ops (BB (mx:=mx)) LL G fr (cs.add ⟨[],[],[]⟩) os l s (fun s'=>if p6 s' ps = true then pj s' cs.r ks else none) (fun p _=>none) = some z) (hr:Fin E n .normal (embQ s cs ps ks z).st Q):aj Tryz.prog E n os.toArray l s.st Q :=
 wV hn hf hG (fun p ow e=>by cases e) h fun s' he e=>by
  split at e
  ·next hp=>exact fun a w hR=>hr a w (Fu hp e he hR)
  ·cases e
def mn:List (Str × (Int × Int × Nat)):=[([108,101,116],1,0,75),([115,101,116],2,0,75),([114,101,112,101,97,116],3,0,76),([105,102],4,0,77),([112,108,97,99,101],5,1,78),([114,101,109,111,118,101],5,2,78),([116,105,101],5,3,79),([99,117,116],5,4,79),([97,112,112,108,121],5,5,79),([102,114,101,101],5,6,79),([112,97,117,115,101],5,7,80),([114,117,110],5,8,81)]
def uU (u:Value):List (Str × BV):=mn.map fun q=>(q.1,Gn q.2.1 q.2.2.1 q.2.2.2 u)
def AX:Fr:=⟨82,[1],[]⟩
def s32 (b1:reader):bE DD:=⟨[(0,.n (.p (.ptr 1 0)))],[(1,.box 64 (.st .reader) b1)],[]⟩
def s32a (b1:reader):bE DD:=⟨[(2,.n (.p (.ptr 102 0))),(0,.n (.p (.ptr 1 0)))],[(1,.box 64 (.st .reader) b1),(102,.box 46 (.st .ay) mg)],[]⟩
def s32b (u:Value) (b1:reader):bE DD:=⟨[(0,.n (.p (.ptr 1 0))),(2,.n (.p (.ptr 102 0))),(3,.n (.p (.row 108)))],[(1,.box 64 (.st .reader) b1),(102,.box 46 (.st .ay) mg),(108,.raw (.mp (vo CP.str (uU u))))],[]⟩
def s32c (u:Value) (b1:reader) (t:Token):bE DD:=⟨[(4,.n (.p (.ptr 104 0))),(47,.n (.d (.st .Token) t)),(46,.n (.p (.ptr 1 0))),(0,.n (.p (.ptr 1 0))),(2,.n (.p (.ptr 102 0))),(3,.n (.p (.row 108)))],[(1,.box 64 (.st .reader) b1),(102,.box 46 (.st .ay) mg),(108,.raw (.mp (vo CP.str (uU u)))),(104,.box 67 (.st .Token) t)],[]⟩
def w5 (u:Value) (q:Option (Int × Int × Nat)):List CP:=match q with
 | none=>[.int .i64 0,.int .i64 0,.raw .nilFunc]
 | some q=>[.int .i64 q.1,.int .i64 q.2.1,.raw (.func (.func q.2.2) #[u] #[])]
theorem H6 (u:Value) (k:Str):(dY (uU u) k).getD z144 = .agg (w5 u (dY mn k)) ∧ (dY (uU u) k).isSome = (dY mn k).isSome:=by
 unfold uU
 rw [mR (f:=fun (q:Int × Int × Nat)=>Gn q.1 q.2.1 q.2.2 u)]
 cases dY mn k with
 | none=>exact ⟨rfl,rfl⟩
 | some q=>exact ⟨rfl,rfl⟩
def s32d (fc:List CP) (ok:Bool) (b1:reader) (t:Token):bE DD:=⟨[(0,.n (.p (.ptr 1 0))),(2,.n (.p (.ptr 102 0))),(4,.n (.p (.ptr 104 0))),(5,.n (.p (.ptr 105 0))),(6,.n (.d .bool ok))],[(1,.box 64 (.st .reader) b1),(102,.box 46 (.st .ay) mg),(104,.box 67 (.st .Token) t),(105,.raw (.box 144 fc))],[]⟩
def Cl (F:Nat) (f:Nat) (b:reader) (x:ay):Option ((reader × ay) ⊕ Problem):=if f = 75 then jS F b x else if f = 78 then iT F b x else if f = 80 then ic F b x else if f = 81 then jR F b x else none
def p9 (q:Int × Int × Nat) (t:Token):ay:={ mg with Kind:=q.1,Op:=q.2.1,At:=t.At }
def fM (F:Nat) (b1:reader):Option ((ay × reader) ⊕ Problem) :=
 Option.bind (aO F b1) fun t=>match dY mn t.S with
  | none=>Option.bind (aP F 280 b1) (bC (fun p=>some (.inr p)) fun _=>none)
  | some q=>if t.Kind = 1 then Option.bind (Cl F q.2.2 { b1 with pos:=IntKind.i64.wrap (b1.pos + 1) } (p9 q t)) (bC (fun p=>some (.inr p)) fun y=>some (.inl (y.2,y.1)))
   else Option.bind (aP F 280 b1) (bC (fun p=>some (.inr p)) fun _=>none)
def s32e (q:Int × Int × Nat) (u:Value) (b2:reader) (t:Token):bE DD:=⟨[(0,.n (.p (.ptr 1 0))),(2,.n (.p (.ptr 102 0))),(4,.n (.p (.ptr 104 0))),(5,.n (.p (.ptr 105 0)))],[(1,.box 64 (.st .reader) b2),(102,.box 46 (.st .ay) mg),(104,.box 67 (.st .Token) t),(105,.raw (.box 144 (w5 u (some q))))],[]⟩
def s32f (q:Int × Int × Nat) (u:Value) (b2:reader) (t:Token):bE DD:=⟨[(72,.n (.d (.int .i64) q.1)),(74,.n (.d (.int .i64) q.2.1)),(0,.n (.p (.ptr 1 0))),(2,.n (.p (.ptr 102 0))),(4,.n (.p (.ptr 104 0))),(5,.n (.p (.ptr 105 0)))],[(1,.box 64 (.st .reader) b2),(102,.box 46 (.st .ay) mg),(104,.box 67 (.st .Token) t),(105,.raw (.box 144 (w5 u (some q))))],[]⟩
def s32g (q:Int × Int × Nat) (u:Value) (b2:reader) (t:Token):bE DD:=⟨[(0,.n (.p (.ptr 1 0))),(2,.n (.p (.ptr 102 0))),(5,.n (.p (.ptr 105 0))),(7,.n (.p (.ptr 107 0)))],[(1,.box 64 (.st .reader) b2),(102,.box 46 (.st .ay) mg),(105,.raw (.box 144 (w5 u (some q)))),(107,.box 46 (.st .ay) (p9 q t))],[]⟩
def s32h (f:Nat) (b2:reader) (x:ay):bE DD:=⟨[(79,.n (.p (.cD f [.ptr 1 0] []))),(0,.n (.p (.ptr 1 0))),(2,.n (.p (.ptr 102 0))),(7,.n (.p (.ptr 107 0)))],[(1,.box 64 (.st .reader) b2),(102,.box 46 (.st .ay) mg),(107,.box 46 (.st .ay) x)],[]⟩
def EX:Nat → Code → Code
 | 0,c=>c
 | n + 1,.seq _ b=>EX n b
 | _,c=>c
theorem DK {F:Nat} {b1:reader} {r:(ay × reader) ⊕ Problem} {Q:bF} (h:fM F b1 = some r) (hR:∀ x b,r = .inl (x,b) → Fin E ⟨82,[1],[1],[]⟩ .ret ⟨[(2,.b (.ptr 102 0))],[(1,.box 64 (q9 b)),(102,.box 46 (nG x))]⟩ Q) (hP:∀ p,r = .inr p → yB E ⟨82,[1],[1],[]⟩ pk p ⟨[],[],[]⟩ Q):ah Tryz.prog E ⟨82,[1],[1],[]⟩ ((Tryz.f32.body).getD .skip) (s32 b1).st Q:=by
 obtain ⟨t,ht,h1⟩:=aJ h
 have hfail:aP F 280 b1 = some (.inr ⟨t.At,280⟩):=by unfold aP; rw [ht]; rfl
 refine ah.seq (denS (fr:=AX) (F:=F) (G:=[]) (an:=.no) (s1:=s32a b1) rfl rfl trivial (m:=some (s32a b1)) (by kernel_rfl) rfl (Fin.then ?_))
 refine ah.seq (ah.ab ?_)
 refine Oc (u0 (k:=108) Tryz.underlying145 rfl rfl) ?_
 refine aj.aD (S1 (E.ρ0 1) b1 mg []) rfl ?_
 refine hO List.mem_cons_self (by decide) (by decide) (by decide) (by decide) (by decide) rfl (by decide) ?_
 refine hO List.mem_cons_self (by decide) (by decide) (by decide) (by decide) (by decide) rfl (by decide) ?_
 refine hO List.mem_cons_self (by decide) (by decide) (by decide) (by decide) (by decide) rfl (by decide) ?_
 refine hO List.mem_cons_self (by decide) (by decide) (by decide) (by decide) (by decide) rfl (by decide) ?_
 refine hO List.mem_cons_self (by decide) (by decide) (by decide) (by decide) (by decide) rfl (by decide) ?_
 refine hO List.mem_cons_self (by decide) (by decide) (by decide) (by decide) (by decide) rfl (by decide) ?_
 refine hO List.mem_cons_self (by decide) (by decide) (by decide) (by decide) (by decide) rfl (by decide) ?_
 refine hO List.mem_cons_self (by decide) (by decide) (by decide) (by decide) (by decide) rfl (by decide) ?_
 refine hO List.mem_cons_self (by decide) (by decide) (by decide) (by decide) (by decide) rfl (by decide) ?_
 refine hO List.mem_cons_self (by decide) (by decide) (by decide) (by decide) (by decide) rfl (by decide) ?_
 refine hO List.mem_cons_self (by decide) (by decide) (by decide) (by decide) (by decide) rfl (by decide) ?_
 refine hO List.mem_cons_self (by decide) (by decide) (by decide) (by decide) (by decide) rfl (by decide) ?_
 refine Oc om (Oc oa (aj.aV (s32b (E.ρ0 1) b1).st rfl ?_))
 refine ah.seq (denS (fr:=AX) (F:=F) (G:=[aT F]) (an:=.no) (s1:=s32c (E.ρ0 1) b1 t) rfl rfl ⟨bf F,trivial⟩ (m:=(aO F b1).bind fun t=>some (s32c (E.ρ0 1) b1 t)) (by kernel_rfl) (by rw [ht]; rfl) (Fin.then ?_))
 obtain ⟨hg1,hg2⟩:=H6 (E.ρ0 1) t.S
 refine ah.seq (ah.ab ?_)
 refine Oc om (Oc (ax (ft:=9) ⟨⟨_,_,Tryz.t9,Tryz.underlying67,rfl,rfl,rfl,by kernel_rfl,by decide⟩⟩ rfl rfl) (Oc (aI (p:=.str t.S) ⟨⟨_,Tryz.underlying9,rfl⟩,⟨Tryz.t9,by kernel_rfl,by kernel_rfl⟩⟩ rfl rfl rfl) (Oc (zM (zm Tryz.underlying9) Jr (l:=uU (E.ρ0 1)) (k:=t.S) (j:=108) rfl rfl rfl hg1) ?_)))
 refine Oc om (Oc (cI (i:=0) rfl rfl) (Oc (cI (i:=1) rfl rfl) (Oc (cz (k:=105) (zs:=[.int .i64 0,.int .i64 0,.raw .nilFunc]) ⟨Tryz.t144,_,by kernel_rfl,rfl,rfl⟩ rfl rfl) ?_)))
 refine Oc (aW (ps':=w5 (E.ρ0 1) (dY mn t.S)) (m:=3) ⟨⟨_,Tryz.underlying144,rfl⟩,⟨Tryz.t144,by kernel_rfl,by kernel_rfl⟩⟩ rfl rfl rfl ?_ (by decide) ?_) (Oc oa (aj.aV (s32d (w5 (E.ρ0 1) (dY mn t.S)) (dY (uU (E.ρ0 1)) t.S).isSome b1 t).st rfl ?_))
 ·cases dY mn t.S <;> rfl
 ·cases dY mn t.S <;> rfl
 rw [hg2]
 have h2:∃ r1:Unit ⊕ Problem,(if ((!(dY mn t.S).isSome) || decide (t.Kind ≠ (1:Int))) = true then Option.bind (aP F 280 b1) (bC (fun p=>some (.inr p)) fun _=>some (.inl ())) else some (.inl ())) = some r1 ∧ (∀ p,r1 = .inr p → r = .inr p) ∧ (∀ z,r1 = .inl z → ∃ q,dY mn t.S = some q ∧ Option.bind (Cl F q.2.2 { b1 with pos:=IntKind.i64.wrap (b1.pos + 1) } (p9 q t)) (bC (fun p=>some (.inr p)) fun y=>some (.inl (y.2,y.1))) = some r):=by
  rw [hfail] at h1 ⊢
  cases hq:dY mn t.S with
  | none=>
   rw [hq] at h1
   cases h1
   exact ⟨.inr ⟨t.At,280⟩,rfl,fun p hp=>(by cases hp; rfl),fun z hz=>(by cases hz)⟩
  | some q=>
   rw [hq] at h1
   by_cases hk:t.Kind = 1
   ·simp only [hk,if_true] at h1
    exact ⟨.inl (),by simp [hk],fun p hp=>(by cases hp),fun z _=>⟨q,rfl,h1⟩⟩
   ·simp only [if_neg hk] at h1
    cases h1
    exact ⟨.inr ⟨t.At,280⟩,by simp [hk,bC],fun p hp=>(by cases hp; rfl),fun z hz=>(by cases hz)⟩
 obtain ⟨r1,h3,h4,h5⟩:=h2
 refine ah.seq (B5 (fr:=AX) (F:=F) (G:=[bA F]) (an:=.no) (cs:=⟨[0,2,4,5],[1,102,104,105],[]⟩) (ks:=[]) rfl rfl ⟨bT F,trivial⟩ rfl (m:=(if ((!(dY mn t.S).isSome) || decide (t.Kind ≠ (1:Int))) = true then Option.bind (aP F 280 b1) (bC (fun p=>some (.inr p)) fun _=>some (.inl ())) else some (.inl ()))) (by kernel_rfl) h3 (fun z hz=>Fin.then ?_) (fun p hp=>kM (hP p (h4 p hp))))
 obtain ⟨q,hq,h6⟩:=h5 z hz
 rw [hq]
 refine ah.seq (B5 (fr:=AX) (F:=F) (G:=[]) (an:=.no) (cs:=⟨[0,2,4,5],[102,104,105],[]⟩) (ks:=[.b 1 64 (.st .reader)]) rfl rfl trivial rfl (r:=.inl ({ b1 with pos:=IntKind.i64.wrap (b1.pos + 1) }:reader)) (m:=some (.inl ({ b1 with pos:=IntKind.i64.wrap (b1.pos + 1) }:reader))) (by kernel_rfl) rfl (fun z hz=>Fin.then ?_) (fun p hp=>by cases hp))
 cases hz
 generalize hb2:({ b1 with pos:=IntKind.i64.wrap (b1.pos + 1) }:reader) = b2 at h6 ⊢
 refine ah.aD (s32e q (E.ρ0 1) b2 t).st rfl ?_
 have f0:eF Tryz.prog 144 0 0 3:=⟨⟨_,_,Tryz.t3,Tryz.underlying144,rfl,rfl,rfl,by kernel_rfl,by decide⟩⟩
 have f1:eF Tryz.prog 144 1 1 3:=⟨⟨_,_,Tryz.t3,Tryz.underlying144,rfl,rfl,rfl,by kernel_rfl,by decide⟩⟩
 have f2:eF Tryz.prog 144 2 2 142:=⟨⟨_,_,Tryz.t142,Tryz.underlying144,rfl,rfl,rfl,by kernel_rfl,by decide⟩⟩
 have o3:cS Tryz.prog 3:=⟨⟨_,Tryz.underlying3,rfl⟩,⟨Tryz.t3,by kernel_rfl,by kernel_rfl⟩⟩
 have o142:cS Tryz.prog 142:=⟨⟨_,Tryz.underlying142,rfl⟩,⟨Tryz.t142,by kernel_rfl,by kernel_rfl⟩⟩
 refine ah.seq (ah.ab ?_)
 refine Oc (ax f0 rfl rfl) (Oc (aI (p:=.int .i64 q.1) o3 rfl rfl rfl) (Oc (ax f1 rfl rfl) (Oc (aI (p:=.int .i64 q.2.1) o3 rfl rfl rfl) ?_)))
 refine aj.aD (s32f q (E.ρ0 1) b2 t).st rfl ?_
 refine Iq (fr:=AX) (cs:=⟨[0,2,5],[1,102,105],[]⟩) (ps:=[(7,107)]) (ks:=[.b 107 46 (.st .ay)]) (z:=p9 q t) rfl rfl (G:=[]) trivial (by kernel_rfl) (Fin.then ?_)
 refine ah.aD (s32g q (E.ρ0 1) b2 t).st rfl ?_
 refine ah.seq (ah.ab ?_)
 refine Oc (ax f2 rfl rfl) (Oc (aI (p:=.raw (.func (.func q.2.2) #[E.ρ0 1] #[])) o142 rfl rfl rfl) ?_)
 refine aj.preR (fun ac w hr=>ofRaw (a:=79) (k:=1) (f:=q.2.2) List.mem_cons_self rfl rfl hr) ?_
 refine aj.aD (s32h q.2.2 b2 (p9 q t)).st rfl ?_
 obtain ⟨v,hv,h7⟩:=aJ h6
 have hPv:∀ p,v = .inr p → yB E ⟨82,[1],[1],[]⟩ pk p ⟨[],[],[]⟩ Q:=fun p e=>by subst e; cases h7; exact hP p rfl
 have key:∀ f z,v = .inl z → ah Tryz.prog E ⟨82,[1],[1],[]⟩ (EX 8 ((Tryz.f32.body).getD .skip)) (EW (s32h f b2 (p9 q t)) ⟨[0,2,7],[102],[]⟩ [.b 1 64 (.st .reader),.b 107 46 (.st .ay)] z).st Q:=fun f z e=>by
  subst e
  cases h7
  refine ah.seq (B5 (fr:=AX) (F:=F) (G:=[]) (an:=.no) (cs:=⟨[2],[1],[]⟩) (ks:=[.b 102 46 (.st .ay)]) rfl rfl trivial rfl (r:=.inl z.2) (m:=some (.inl z.2)) (by kernel_rfl) rfl (fun x hx=>Fin.then ?_) (fun p hp=>by cases hp))
  cases hx
  exact ah.ret (Fin.aD _ rfl (hR z.2 z.1 rfl))
 unfold Cl at hv
 split at hv
 ·next e=>
  rw [e]
  exact Hs (fr:=AX) (cs:=⟨[0,2,7],[102],[]⟩) (ks:=[.b 1 64 (.st .reader),.b 107 46 (.st .ay)]) (G:=[(n7 F).sw 2 107]) (r:=v) (m:=Option.bind (jS F b2 (p9 q t)) (bC (fun p=>some (.inr p)) fun x=>some (.inl x))) rfl rfl ⟨(tZ F).sw 2 107,trivial⟩ rfl (by kernel_rfl) (by rw [hv]; cases v <;> rfl) (fun z e=>Fin.then (key 75 z e)) (fun p e=>kM (hPv p e))
 split at hv
 ·next e=>
  rw [e]
  exact Hs (fr:=AX) (cs:=⟨[0,2,7],[102],[]⟩) (ks:=[.b 1 64 (.st .reader),.b 107 46 (.st .ay)]) (G:=[(nu F).sw 2 107]) (r:=v) (m:=Option.bind (iT F b2 (p9 q t)) (bC (fun p=>some (.inr p)) fun x=>some (.inl x))) rfl rfl ⟨(tj F).sw 2 107,trivial⟩ rfl (by kernel_rfl) (by rw [hv]; cases v <;> rfl) (fun z e=>Fin.then (key 78 z e)) (fun p e=>kM (hPv p e))
 split at hv
 ·next e=>
  rw [e]
  exact Hs (fr:=AX) (cs:=⟨[0,2,7],[102],[]⟩) (ks:=[.b 1 64 (.st .reader),.b 107 46 (.st .ay)]) (G:=[(ma F).sw 2 107]) (r:=v) (m:=Option.bind (ic F b2 (p9 q t)) (bC (fun p=>some (.inr p)) fun x=>some (.inl x))) rfl rfl ⟨(sq F).sw 2 107,trivial⟩ rfl (by kernel_rfl) (by rw [hv]; cases v <;> rfl) (fun z e=>Fin.then (key 80 z e)) (fun p e=>kM (hPv p e))
 split at hv
 ·next e=>
  rw [e]
  exact Hs (fr:=AX) (cs:=⟨[0,2,7],[102],[]⟩) (ks:=[.b 1 64 (.st .reader),.b 107 46 (.st .ay)]) (G:=[(n6 F).sw 2 107]) (r:=v) (m:=Option.bind (jR F b2 (p9 q t)) (bC (fun p=>some (.inr p)) fun x=>some (.inl x))) rfl rfl ⟨(tY F).sw 2 107,trivial⟩ rfl (by kernel_rfl) (by rw [hv]; cases v <;> rfl) (fun z e=>Fin.then (key 81 z e)) (fun p e=>kM (hPv p e))
 ·cases hv
def iZ (F:Nat):bJ DD pk:=⟨32,[.k],[.p (.ptr 1 0)],[1],[.b 64 (.st .reader)],[.st .ay],false,true,false,false,fun a l=>fM F l.1⟩
theorem ti (F:Nat):av Tryz.prog (aw mx) (iZ F):=by
 refine ⟨⟨Tryz.call32⟩,⟨(by decide:[1].Nodup),rfl⟩,fun a l r hr=>?_⟩
 obtain ⟨b1,u⟩:=l
 have hr:fM F b1 = some r:=hr
 cases r with
 | inl y=>
  refine aG.intro 82 Tryz.func32 Tryz.ntmps32 rfl (show [BV.ptr 1 0].length ≤ 82 by decide) fun E=>?_
  refine DK (E:=E) hr (fun x b e=>?_) (fun p e=>by cases e)
  cases e
  have hl:(nG x).length = DD.n .ay:=DD.len .ay x
  exact Fin.kq [(1,.box 64 (q9 b))] [.agg (nG x)] (.inl rfl) rfl (.cons (.agg (m:=DD.n .ay) ((BB (mx:=mx)).tok 46 (.st .ay) rfl) rfl rfl (by rw [List.drop_zero,← hl,List.take_length]) hl) .nil) (fun p hp=>List.mem_cons.2 (.inl (List.mem_singleton.1 hp))) ⟨rfl,rfl⟩
 | inr p=>
  show gJ _ _ _ _ _ _ _
  refine eH.intro 82 Tryz.func32 Tryz.ntmps32 rfl (show [BV.ptr 1 0].length ≤ 82 by decide) fun E=>?_
  refine DK (E:=E) hr (fun x b e=>by cases e) (fun p' e=>?_)
  cases e
  exact fun hok=>Fin.qb ⟨rfl,hok⟩
end
end Go.Dn
namespace Go.Dn
open Go Go.Sk
open X
set_option linter.unusedVariables false
def mX (F:Nat) (sign:Str) (b1:reader):Option (((List aM) × reader) ⊕ Problem):=Option.bind (iter F (fun (x2:reader × (List aM))=>(Option.bind (az F sign x2.1) fun x3=>(if (!x3.1) = true then Option.bind (m' F x3.2) (bC (fun p=>some (.inr (.inr p))) fun x5=>Option.bind (bV x2.2 ([x5.1]:List aM)) fun x7=>some (.inl (x5.2,x7))) else some (.inr (.inl (x3.2,x2.2)))):Option ((reader × (List aM)) ⊕ ((reader × (List aM)) ⊕ Problem)))) (b1,([]:List aM))) (ee (fun x8=>some (.inl (x8.2,x8.1))) (fun x9=>some (.inr x9)))
def h28 (F:Nat) (z:reader × Source × List ay):Option ((reader × Source × List ay) ⊕ Problem):=Option.bind (fM F z.1) (bC (fun p=>some (.inr p)) fun x8=>Option.bind (bV z.2.2 ([mg]:List ay)) fun x9=>Option.bind (aH x9 (z.2.2.length:Int)) fun _=>Option.bind (aH x9 (z.2.2.length:Int)) fun _=>some (.inl (x8.2,z.2.1,x9.set ((z.2.2.length:Int)).toNat x8.1)))
def jD (F:Nat) (b1:reader) (b2:Source) (b3:List ay):Option ((reader × Source × (List ay)) ⊕ Problem):=Option.bind (aE F ([([121,97,114,100]:Str),([123]:Str)]:List Str) b1) (bC (fun p=>some (.inr p)) fun x2=>Option.bind (mX F ([125]:Str) x2) (bC (fun p=>some (.inr p)) fun x3=>Option.bind (iter F (fun (x4:reader × Source × (List ay))=>((if (decide (x4.1.pos < (x4.1.l.length:Int))) = true then Option.bind (h28 F (x4.1,x4.2.1,x4.2.2)) (bC (fun p=>some (.inr (.inr p))) fun x7=>some (.inl (x7.1,x7.2.1,x7.2.2))) else some (.inr (.inl (x4.1,x4.2.1,x4.2.2)))):Option ((reader × Source × (List ay)) ⊕ ((reader × Source × (List ay)) ⊕ Problem)))) (x3.2,(⟨x3.1,b2.Code⟩:Source),b3)) (ee (fun x8=>some (.inl (x8.1,x8.2.1,x8.2.2))) (fun x9=>some (.inr x9)))))
end Go.Dn
namespace Go.Dn
open Go Go.Sk Go.Proofs
open X
set_option linter.unusedVariables false
set_option maxRecDepth 100000
variable {mx:Int}
def iY (F:Nat):bJ DD pk:=⟨30,[.k,.d (.str),.k],[.p (.ptr 1 0),.p (.cD 31 [.ptr 1 0] [])],[1],[.b 64 (.st .reader)],[.sl (.st .aM)],false,true,false,false,fun a l=>mX F a.1 l.1⟩
theorem tg (F:Nat):av Tryz.prog (aw mx) (iY F):=ak (B0:=BB) (L:=LL) (G:=[aU F,dt F]) 18 ⟨Tryz.call30⟩ Tryz.func30 Tryz.ntmps30 rfl (Nat.le_of_ble_eq_true rfl) rfl ⟨bg F,tk F,trivial⟩ (.two (.no) (.two (.no) (.two (.loop ⟨[0,1,2],[],[(7,107)]⟩ [.b 1 64 (.st .reader),.r 107 53 (.st .aM)] [(.x (some 0),[.b 1 64 (.st .reader),.r 107 53 (.st .aM)]),(.hH,[])] (.no)) (.no)))) [7] F fun a l=>by kernel_rfl
def jE (F:Nat):bJ DD pk:=⟨28,[.k,.k],[.p (.ptr 1 0),.p (.ptr 2 0)],[1,2,3],[.b 64 (.st .reader),.x 49 .Source,.r 46 (.st .ay)],[],false,true,false,false,fun a l=>jD F l.1 l.2.1 l.2.2.1⟩
theorem h28_lin (F:Nat):Dw (BB (mx:=mx)) LL [bn F,iY F,iZ F] ⟨30,Ie (jE F).ks (jE F).ls,[]⟩ (Gd 3 Tryz.f28) [(0,1),(1,2)] [(0,1),(1,2)] [.b 1 64 (.st .reader),.x 2 49 .Source 3,.r 3 46 (.st .ay)] [.b 1 64 (.st .reader),.x 2 49 .Source 3,.r 3 46 (.st .ay)] .Problem (h28 F):=lin_all (pk:=pk) [[],[0],[],[2],[1],[],[1,5,3,0,1,2,3,4,5],[6,4,0,1,2,3,4,5,6],[7,3,6,0,1,2,3,4,5,6],[0,1,2,3,4,5,6],[9,6,6,0,1,2,3,4,5,6]] (by kernel_rfl) (fun _=>h28 F) (fun _ _=>rfl) (fun z0=>by kernel_rfl)
theorem xJ (F:Nat):av Tryz.prog (aw mx) (jE F):=CG (B0:=BB (mx:=mx)) (L:=LL) (G:=[bn F,iY F,iZ F]) 30 ⟨Tryz.call28⟩ Tryz.func28 Tryz.ntmps28 rfl (Nat.le_of_ble_eq_true rfl) rfl ⟨bO F,tg F,ti F,trivial⟩ (.two (.no) (.two (.no) (.loop ⟨[0,1],[],[]⟩ [.b 1 64 (.st .reader),.x 2 49 .Source 3,.r 3 46 (.st .ay)] [(.x (some 0),[.b 1 64 (.st .reader),.x 2 49 .Source 3,.r 3 46 (.st .ay)]),(.hH,[])] (.two (.two (.hY [⟨0,[0],[]⟩,⟨1,[11],[]⟩,⟨2,[12],[]⟩,⟨3,[13],[1]⟩,⟨4,[0],[]⟩,⟨5,[15],[]⟩,⟨6,[16],[]⟩,⟨7,[17],[1]⟩,⟨8,[18],[]⟩] [9] []) (.no)) (.lin [(0,1),(1,2)] [(0,1),(1,2)] [.b 1 64 (.st .reader),.x 2 49 .Source 3,.r 3 46 (.st .ay)] [.b 1 64 (.st .reader),.x 2 49 .Source 3,.r 3 46 (.st .ay)] .Problem (h28 F)))))) [] F (fun a l=>by kernel_rfl) ⟨(bS _ rfl),⟨(bS _ rfl),⟨(bS _ rfl),(h28_lin (mx:=mx) F)⟩⟩⟩
end Go.Dn
namespace Go.Dn
open Go Go.Sk Go.Proofs X
set_option linter.unusedVariables false
set_option maxRecDepth 100000
section
variable {P:Program} {TB:aF} {E:Env TB} {n:Sh} {s:St} {dst:Option Nat} {t ty yt:TypeId} {pos:String} {after:Array Edge} {g:Option (Nat × Bool)} {x y:Operand}
theorem AF {T st:TypeId} {ps:List CP} {d:TypeDesc} (hu:P.underlying T = some d) (hd:(match d with | .interface _=>false | _=>true) = true) (hx:s.ev x = some (.b (.one (.yy T ps)))):aR P E n ⟨dst,.typeAssert x st T true,ty,pos,after,g⟩ s (s.put n dst (.kU [.agg ps,.one (.bool true)])) :=
 aR.val (o:=⟨dst,.typeAssert x st T true,ty,pos,after,g⟩) fun ac w h ρ hw hs=>by
  obtain ⟨cs,e,hc⟩:=(aC hs hx:(CP.yy _ _).rel h _)
  refine ⟨.tuple #[.agg cs,.bool true],?_,_,rfl,.cons ⟨cs,rfl,hc⟩ (.cons rfl .nil)⟩
  simp only [execOp,e]
  unfold Instr.typeAssert
  rw [Sem.run_bind,Sem.run_bind,run_underlying hu]
  cases d <;> simp at hd <;> simp [Result.andThen]
theorem AE {T st:TypeId} {zs:List CP} {d:TypeDesc} {i:TypeInfo} {z:Value} (hu:P.underlying T = some d) (hd:(match d with | .interface _=>false | _=>true) = true) (hi:P.info? T = some i) (hz:i.zero = some z) (hzs:∀ h ρ,(BV.agg zs).rel h ρ z) (hx:s.ev x = some (.b (.one (.raw .nilIface)))):aR P E n ⟨dst,.typeAssert x st T true,ty,pos,after,g⟩ s (s.put n dst (.kU [.agg zs,.one (.bool false)])) :=
 aR.val (o:=⟨dst,.typeAssert x st T true,ty,pos,after,g⟩) fun ac w h ρ hw hs=>by
  have hv:ac.eval x = .nilIface:=(aC hs hx:(CP.raw _).rel h _).1
  refine ⟨.tuple #[z,.bool false],?_,_,rfl,.cons (hzs h ρ) (.cons rfl .nil)⟩
  simp only [execOp,hv]
  unfold Instr.typeAssert
  rw [Sem.run_bind,Sem.run_bind,run_underlying hu]
  have:=DL (P:=P) (w:=w) hi hz
  cases d <;> simp at hd <;> simp [Result.andThen,this]
theorem Eu {ms:Array (String × TypeId)} (hi:P.underlying t = some (.interface ms)) (hx:s.ev x = some (.b (.one (.raw .nilIface)))):aR P E n ⟨dst,.binOp .neq t x (.const .nilIface) yt,ty,pos,after,g⟩ s (s.put n dst (B false)) :=
 aR.val (o:=⟨dst,.binOp .neq t x (.const .nilIface) yt,ty,pos,after,g⟩) fun ac w h ρ hw hs=>by
  have hv:ac.eval x = .nilIface:=(aC hs hx:(CP.raw _).rel h _).1
  refine ⟨.bool false,?_,rfl⟩
  have h1:∀ d:Nat,(Op.equalIn (d + 1) t .nilIface .nilIface).run P w = .ok true w:=fun d=>by simp [Op.equalIn,run_underlying hi]
  have h2:(Op.equal t .nilIface .nilIface).run P w = .ok true w:=h1 _
  simp only [execOp,hv,show ac.eval (.const .nilIface) = .nilIface from rfl,eqGuard_nil_constR]
  simp [binOp,h2,Result.andThen]
end
section
variable {mx:Int}
def qy (rest found:Problem):Problem:=if (decide (rest.E = 0) || decide (found.At < rest.At)) = true then found else rest
def kK (rest pr:Problem):List (Nat × OC):=[(107,.box 33 (aS rest)),(104,.box 33 (aS pr))]
def Dk:Fr:=⟨31,[107,104],[]⟩
def s16 (b is:Bool) (rest pr found:Problem):bE DD:=⟨[(12,.n (.d .bool b)),(0,.n (.p (.ptr 107 0))),(1,.n (.p (.ptr 104 0))),(3,.n (.p (.ptr 103 0))),(4,.n (.d .bool is))],[(107,.box 33 (.st .Problem) rest),(104,.box 33 (.st .Problem) pr),(103,.box 33 (.st .Problem) found)],[]⟩
def s16c (is:Bool) (rest pr found:Problem):bE DD:=⟨[(0,.n (.p (.ptr 107 0))),(1,.n (.p (.ptr 104 0))),(3,.n (.p (.ptr 103 0))),(4,.n (.d .bool is))],[(107,.box 33 (.st .Problem) rest),(104,.box 33 (.st .Problem) pr),(103,.box 33 (.st .Problem) found)],[]⟩
def s16e (is:Bool) (rest pr found:Problem):bE DD:=⟨[(18,.n (.d .bool is)),(0,.n (.p (.ptr 107 0))),(1,.n (.p (.ptr 104 0))),(3,.n (.p (.ptr 103 0)))],[(107,.box 33 (.st .Problem) rest),(104,.box 33 (.st .Problem) pr),(103,.box 33 (.st .Problem) found)],[]⟩
theorem a33:gg Tryz.prog 33 2:=⟨⟨_,Tryz.underlying33,rfl⟩,⟨Tryz.t33,by kernel_rfl,by kernel_rfl⟩⟩
theorem z33:qZ Tryz.prog 33 [.int .i64 0,.int .i64 0]:=⟨Tryz.t33,_,by kernel_rfl,rfl,rfl⟩
theorem Af {rest pr found:Problem} (hok:pk.ok found):ra Tryz.prog (aw mx) 16 (kK rest pr) [.ptr 107 0,.ptr 104 0] (pk.pv found) (kK rest (qy rest found)):=by
 refine ra.intro (z:=.one (.yy 33 (aS found))) 31 Tryz.func16 Tryz.ntmps16 rfl (by decide) (by decide) (by decide) (fun h ρ=>⟨_,rfl,.cons ⟨rfl,hok.1⟩ (.cons ⟨rfl,hok.2⟩ .nil)⟩) fun E=>?_
 show ah _ E ⟨31,[107,104],[107,104],[]⟩ _ ⟨[(2,.b (.one (.yy 33 (aS found)))),(0,.b (.ptr 107 0)),(1,.b (.ptr 104 0))],kK rest pr⟩ _
 refine ah.seq (ah.ab ?_)
 refine Oc om (Oc (AF Tryz.underlying33 rfl rfl) (Oc om (Oc (cI (i:=0) rfl rfl) (Oc (cI (i:=1) rfl rfl) (Oc (cz (k:=103) z33 rfl rfl) (Oc (aW (ps':=aS found) a33 rfl rfl rfl rfl (by decide) rfl) (Oc oa ?_)))))))
 refine aj.aV ⟨[(0,.b (.ptr 107 0)),(1,.b (.ptr 104 0)),(2,.b (.one (.yy 33 (aS found)))),(3,.b (.ptr 103 0)),(4,B true)],[(107,.box 33 (aS rest)),(104,.box 33 (aS pr)),(103,.box 33 (aS found))]⟩ rfl ?_
 refine ah.seq (ah.seq (ah.ab ?_))
 refine Oc om (Oc (Aj Tryz.underlying20 rfl) (aj.aD (s16 true true rest pr found).st rfl ?_))
 refine Hs (fr:=Dk) (cs:=⟨[0,1,3,4],[107,104,103],[]⟩) (ks:=[.s 16 .bool]) (G:=[]) (r:=.inl false) (m:=some (.inl false)) rfl rfl trivial rfl (by kernel_rfl) rfl (fun z hz=>Fin.then ?_) (fun p hp=>by cases hp)
 cases hz
 refine B5 (fr:=Dk) (F:=0) (G:=[]) (an:=.no) (cs:=⟨[0,1,3,4],[107,104,103],[]⟩) (ks:=[]) (r:=.inl ()) (m:=some (.inl ())) rfl rfl trivial rfl (by kernel_rfl) rfl (fun z hz=>Fin.then ?_) (fun p hp=>by cases hp)
 refine ah.aD (s16c true rest pr found).st rfl ?_
 have hc:(if (decide (rest.E = 0) || decide (found.At < rest.At)) = true then some (.inl found) else some (.inl rest):Option (PT DD [.b 104 33 (.st .Problem)] ⊕ Problem)) = some (.inl (qy rest found)):=by unfold qy; split <;> rfl
 refine ah.seq (B5 (fr:=Dk) (F:=0) (G:=[]) (an:=.no) (cs:=⟨[0,1,3],[107,104,103],[]⟩) (ks:=[.s 18 .bool]) (r:=.inl true) (m:=some (.inl true)) rfl rfl trivial rfl (by kernel_rfl) rfl (fun z hz=>Fin.then ?_) (fun p hp=>by cases hp))
 cases hz
 refine ah.aD (s16e true rest pr found).st rfl ?_
 refine B5 (fr:=Dk) (F:=0) (G:=[]) (an:=.no) (cs:=⟨[0,1],[107],[]⟩) (ks:=[.b 104 33 (.st .Problem)]) (r:=.inl (qy rest found)) rfl rfl trivial rfl (by kernel_rfl) hc (fun z hz=>?_) (fun p hp=>by cases hp)
 cases hz
 exact Fin.kq (kK rest (qy rest found)) [] (.inr rfl) rfl .nil (fun p hp=>by
  simp only [kK,List.mem_cons,List.not_mem_nil,or_false] at hp
  rcases hp with rfl | rfl
  ·exact List.mem_cons_of_mem _ List.mem_cons_self
  ·exact List.mem_cons_self) ⟨rfl,rfl⟩
theorem BA {rest pr:Problem}:zC Tryz.prog (aw mx) 16 (kK rest pr) [.ptr 107 0,.ptr 104 0] (kK rest pr):=by
 refine zC.intro 31 Tryz.func16 Tryz.ntmps16 rfl (by decide) (by decide) (by decide) fun E=>?_
 show ah _ E ⟨31,[107,104],[107,104],[]⟩ _ ⟨[(2,.b (.one (.raw .nilIface))),(0,.b (.ptr 107 0)),(1,.b (.ptr 104 0))],kK rest pr⟩ _
 refine ah.seq (ah.ab ?_)
 refine Oc om (Oc (AE (i:=Tryz.t33) Tryz.underlying33 rfl (by kernel_rfl) rfl (fun h ρ=>⟨_,rfl,.cons aa (.cons aa .nil)⟩) rfl) (Oc om (Oc (cI (i:=0) rfl rfl) (Oc (cI (i:=1) rfl rfl) (Oc (cz (k:=103) z33 rfl rfl) (Oc (aW (ps':=[.int .i64 0,.int .i64 0]) a33 rfl rfl rfl rfl (by decide) rfl) (Oc oa ?_)))))))
 refine aj.aV ⟨[(0,.b (.ptr 107 0)),(1,.b (.ptr 104 0)),(2,.b (.one (.raw .nilIface))),(3,.b (.ptr 103 0)),(4,B false)],[(107,.box 33 (aS rest)),(104,.box 33 (aS pr)),(103,.box 33 [.int .i64 0,.int .i64 0])]⟩ rfl ?_
 refine ah.seq (ah.seq (ah.ab ?_))
 refine Oc om (Oc (Eu Tryz.underlying20 rfl) (aj.aD (s16 false false rest pr ⟨0,0⟩).st rfl ?_))
 refine Hs (fr:=Dk) (cs:=⟨[0,1,3,4],[107,104,103],[]⟩) (ks:=[.s 16 .bool]) (G:=[]) (r:=.inl false) (m:=some (.inl false)) rfl rfl trivial rfl (by kernel_rfl) rfl (fun z hz=>Fin.then ?_) (fun p hp=>by cases hp)
 cases hz
 refine B5 (fr:=Dk) (F:=0) (G:=[]) (an:=.no) (cs:=⟨[0,1,3,4],[107,104,103],[]⟩) (ks:=[]) (r:=.inl ()) (m:=some (.inl ())) rfl rfl trivial rfl (by kernel_rfl) rfl (fun z hz=>Fin.then ?_) (fun p hp=>by cases hp)
 refine ah.aD (s16c false rest pr ⟨0,0⟩).st rfl ?_
 refine ah.seq (B5 (fr:=Dk) (F:=0) (G:=[]) (an:=.no) (cs:=⟨[0,1,3],[107,104,103],[]⟩) (ks:=[.s 18 .bool]) (r:=.inl false) (m:=some (.inl false)) rfl rfl trivial rfl (by kernel_rfl) rfl (fun z hz=>Fin.then ?_) (fun p hp=>by cases hp))
 cases hz
 refine ah.aD (s16e false rest pr ⟨0,0⟩).st rfl ?_
 refine B5 (fr:=Dk) (F:=0) (G:=[]) (an:=.no) (cs:=⟨[0,1],[107],[]⟩) (ks:=[.b 104 33 (.st .Problem)]) (r:=.inl pr) (m:=some (.inl pr)) rfl rfl trivial rfl (by kernel_rfl) rfl (fun z hz=>?_) (fun p hp=>by cases hp)
 cases hz
 exact Fin.kq (kK rest pr) [] (.inr rfl) rfl .nil (fun p hp=>by
  simp only [kK,List.mem_cons,List.not_mem_nil,or_false] at hp
  rcases hp with rfl | rfl
  ·exact List.mem_cons_of_mem _ List.mem_cons_self
  ·exact List.mem_cons_self) ⟨rfl,rfl⟩
end
end Go.Dn
namespace Go.Dn
open Go Go.Sk Go.Proofs X
set_option linter.unusedVariables false
set_option maxRecDepth 100000
section
variable {mx:Int} {E:Env (aw mx)} {n:Sh} {Q:bF}
theorem wS {fr:Fr} {F:Nat} {c:Code} {an:An DD} {s:bE DD} {cs:Kept} {ps:List (Nat × Nat)} {ks:List (Pl DD)} {m:Option (PT DD ks)} {z:PT DD ks} {G:List (bJ DD pk)} (hn:n.n = fr.n) (hf:n.fix = fr.fx) (hG:EV Tryz.prog (aw mx) G) (h:gH (BB (mx:=mx)) LL G fr F c an (cs.add ⟨[],[],[]⟩) s (fun s'=>if p6 s' ps = true then pj s' cs.r ks else none) (fun _ _=>none) (fun _ _=>none) = m) (hm:m = some z) (hr:Fin E n .normal (embQ s cs ps ks z).st Q) (hh:mj an = true:=by rfl):ah Tryz.prog E n c s.st Q :=
 iw hn hf hG c an (bS c hh) (cs.add ⟨[],[],[]⟩) s _ _ _ z Q (h.trans hm) (fun s' he e=>by
  split at e
  ·next hp=>exact fun a w hR=>hr a w (Fu hp e he hR)
  ·cases e) (fun t s' _ e=>by cases e) (fun p ow e=>by cases e)
theorem denW {fr:Fr} {F:Nat} {c:Code} {an:An DD} {s:bE DD} {cs:Kept} {ps ps2:List (Nat × Nat)} {ks ks2:List (Pl DD)} {m:Option (PT DD ks ⊕ PT DD ks2)} {r:PT DD ks ⊕ PT DD ks2} {G:List (bJ DD pk)} (hn:n.n = fr.n) (hf:n.fix = fr.fx) (hG:EV Tryz.prog (aw mx) G) (h:gH (BB (mx:=mx)) LL G fr F c an (cs.add ⟨[],[],[]⟩) s (fun s'=>if p6 s' ps = true then (pj s' cs.r ks).bind fun z=>some (.inl z) else none) (fun t s'=>match t with
  | none=>if p6 s' ps2 = true then (Dd s' ks2).bind fun z=>some (.inr z) else none
  | some _=>none) (fun _ _=>none) = m) (hm:m = some r) (hr:∀ z,r = .inl z → Fin E n .normal (embQ s cs ps ks z).st Q) (hr2:∀ z,r = .inr z → Fin E n .ret (Ii ps2 ks2 z).st Q) (hh:mj an = true:=by rfl):ah Tryz.prog E n c s.st Q :=
 iw hn hf hG c an (bS c hh) (cs.add ⟨[],[],[]⟩) s _ _ _ r Q (h.trans hm) (fun s' he e=>by
  split at e
  ·next hp=>
   obtain ⟨z,hz,e1⟩:=aJ e
   cases e1
   exact fun a w hR=>hr z rfl a w (Fu hp hz he hR)
  ·cases e) (fun t s' _ e=>by
  cases t with
  | none=>
   simp only at e
   split at e
   ·next hp=>
    obtain ⟨z,hz,e1⟩:=aJ e
    cases e1
    exact fun a w hR=>hr2 z rfl a w (zg hp hz hR)
   ·cases e
  | some i=>cases e) (fun p ow e=>by cases e)
end
def Cn (F:Nat) (l:List Token) (s:Str):Option (Problem × reader):=Option.bind (ur F l) fun x4=>(if (decide (x4 < (l.length:Int))) = true then Option.bind (sA l x4) fun x7=>Option.bind (aH l x4) fun x8=>Option.bind (aH l x4) fun x9=>some ((⟨x9.At,(2:Int)⟩:Problem),(⟨x7,(0:Int),x8.At⟩:reader)) else some ((⟨(0:Int),(0:Int)⟩:Problem),(⟨l,(0:Int),(s.length:Int)⟩:reader)))
def GQ (F:Nat) (s:Str):Option (Problem ⊕ (Problem × reader)):=Option.bind (eh F s) fun x1=>if x1.2.E ≠ 0 then some (.inl x1.2) else Option.bind (Cn F x1.1 s) fun x=>some (.inr x)
def xW (F:Nat) (rd:reader) (b1:af):Option (af ⊕ Problem):=Option.bind (kB F rd b1) (bC (fun p=>some (.inr p)) fun x11=>(if (decide (x11.1.pos < (x11.1.l.length:Int))) = true then Option.bind (aP F (280:Int) x11.1) (bC (fun p=>some (.inr p)) fun x14=>some (.inl (x11.2))) else some (.inl (x11.2))))
def Ae (F:Nat) (s:Str) (b1:af):Option (Problem × Option af):=Option.bind (GQ F s) fun q=>match q with
 | .inl p=>some (p,none)
 | .inr x=>Option.bind (xW F x.2 b1) fun y=>match y with
  | .inl v=>some (x.1,some v)
  | .inr p=>some (qy x.1 p,none)
noncomputable def yX (v:af):List (Nat × OC):=bq (b5 (D:=DD) false [1] [.b 30 (.st .af)] (v,()))
def vF:Fr:=⟨67,[1],[]⟩
def t6Expr (s:Str) (b1:af):bE DD:=⟨[(0,.n (.d .str s)),(1,.n (.p (.cD 7 [] [.ptr 1 0])))],[(1,.box 30 (.st .af) b1)],[]⟩
def t6aExpr (s:Str) (p:Problem) (b1:af):bE DD:=⟨[(0,.n (.d .str s)),(1,.n (.p (.cD 7 [] [.ptr 1 0]))),(4,.n (.p (.ptr 104 0)))],[(1,.box 30 (.st .af) b1),(104,.box 33 (.st .Problem) p)],[]⟩
def GL (s:Str) (l:List Token) (p:Problem) (b1:af):bE DD:=⟨[(0,.n (.d .str s)),(1,.n (.p (.cD 7 [] [.ptr 1 0]))),(4,.n (.p (.ptr 104 0))),(5,.n (.d (.sl (.st .Token)) l))],[(1,.box 30 (.st .af) b1),(104,.box 33 (.st .Problem) p)],[]⟩
def t6cExpr (s:Str) (l:List Token) (p rest:Problem) (rd:reader) (b1:af):bE DD:=⟨[(0,.n (.d .str s)),(1,.n (.p (.cD 7 [] [.ptr 1 0]))),(4,.n (.p (.ptr 104 0))),(5,.n (.d (.sl (.st .Token)) l)),(6,.n (.p (.ptr 122 0))),(7,.n (.p (.ptr 107 0)))],[(1,.box 30 (.st .af) b1),(104,.box 33 (.st .Problem) p),(107,.box 33 (.st .Problem) rest),(122,.box 64 (.st .reader) rd)],[]⟩
def Ck (p rest:Problem) (rd:reader) (b1:af):bE DD:=⟨[(1,.n (.p (.cD 7 [] [.ptr 1 0]))),(4,.n (.p (.ptr 104 0))),(6,.n (.p (.ptr 122 0))),(7,.n (.p (.ptr 107 0)))],[(1,.box 30 (.st .af) b1),(104,.box 33 (.st .Problem) p),(107,.box 33 (.st .Problem) rest),(122,.box 64 (.st .reader) rd)],[]⟩
theorem Bb {mx:Int} {F:Nat} {s:Str} {b1:af} {p:Problem} {o:Option af} (h:Ae F s b1 = some (p,o)):aG Tryz.prog (aw mx) 6 (yX b1) [.one (.str s),.cD 7 [] [.ptr 1 0]] (Is (match o with | some v=>yX v | none=>[]) (.b (.agg (aS p)))):=by
 refine aG.Fh 67 Tryz.func6 Tryz.ntmps6 rfl (Nat.le_of_ble_eq_true rfl) fun E=>?_
 show ah _ E ⟨67,[1],[1],[]⟩ _ (t6Expr s b1).st _
 obtain ⟨q,hq,h1⟩:=aJ h
 obtain ⟨x1,hx1,h2⟩:=aJ hq
 refine ah.seq (wS (fr:=vF) (F:=F) (G:=[]) (an:=.no) (cs:=⟨[0,1],[1],[]⟩) (ps:=[(4,104)]) (ks:=[.b 104 33 (.st .Problem)]) (z:=(⟨0,0⟩:Problem)) (m:=some (⟨0,0⟩:Problem)) rfl rfl trivial (by kernel_rfl) rfl (Fin.then ?_))
 refine ah.aD (t6aExpr s ⟨0,0⟩ b1).st rfl ?_
 refine ah.seq (wS (fr:=vF) (F:=F) (G:=[iQ F]) (an:=.no) (cs:=⟨[0,1,4],[1],[]⟩) (ps:=[]) (ks:=[.b 104 33 (.st .Problem),.s 5 (.sl (.st .Token))]) (z:=(x1.2,x1.1)) (m:=(eh F s).bind fun x1=>some (x1.2,x1.1)) rfl rfl ⟨lv F,trivial⟩ (by kernel_rfl) (by rw [hx1]; rfl) (Fin.then ?_))
 refine ah.aD (GL s x1.1 x1.2 b1).st rfl ?_
 have hm:(if decide (x1.2.E ≠ 0) = true then some (.inr x1.2) else some (.inl x1.2):Option (PT DD [.b 104 33 (.st .Problem)] ⊕ PT DD [.b 104 33 (.st .Problem)])) = some (if x1.2.E ≠ 0 then .inr x1.2 else .inl x1.2):=by by_cases hE:x1.2.E = 0 <;> simp [hE]
 refine ah.seq (denW (fr:=vF) (F:=F) (G:=[]) (an:=.no) (cs:=⟨[0,1,4,5],[1],[]⟩) (ps:=[]) (ks:=[.b 104 33 (.st .Problem)]) (ps2:=[(4,104)]) (ks2:=[.b 104 33 (.st .Problem)]) rfl rfl trivial (by kernel_rfl) hm (fun z hz=>Fin.then ?_) (fun z hz=>?_))
 rotate_left
 ·split at hz
  ·next hE=>
   cases hz
   rw [if_pos hE] at h2
   cases h2
   cases h1
   exact Fin.cr (Fin.retD (.inl rfl) rfl (Fin.kq [] [.agg (aS x1.2)] (.inl rfl) rfl (.cons (.agg a33 rfl rfl rfl rfl) .nil) (fun p hp=>by cases hp) ⟨rfl,rfl⟩))
  ·cases hz
 split at hz
 ·cases hz
 next hE=>
 cases hz
 rw [if_neg hE] at h2
 obtain ⟨x,hx,h3⟩:=aJ h2
 cases h3
 obtain ⟨y,hy,h4⟩:=aJ h1
 refine ah.aD (GL s x1.1 x1.2 b1).st rfl ?_
 refine ah.seq (wS (fr:=vF) (F:=F) (G:=[]) (an:=.no) (cs:=⟨[0,1,4,5],[1,104],[]⟩) (ps:=[(6,122),(7,107)]) (ks:=[.b 107 33 (.st .Problem),.b 122 64 (.st .reader)]) (z:=((⟨0,0⟩:Problem),(⟨x1.1,0,(s.length:Int)⟩:reader))) (m:=some ((⟨0,0⟩:Problem),(⟨x1.1,0,(s.length:Int)⟩:reader))) rfl rfl trivial (by kernel_rfl) rfl (Fin.then ?_))
 refine ah.aD (t6cExpr s x1.1 x1.2 ⟨0,0⟩ ⟨x1.1,0,(s.length:Int)⟩ b1).st rfl ?_
 refine ah.seq (wS (fr:=vF) (F:=F) (G:=[qn F]) (an:=.two (.no) (.two (.no) (.two (.two (.hY [⟨0,[6],[]⟩,⟨1,[6],[]⟩,⟨2,[5],[]⟩,⟨3,[8],[]⟩,⟨4,[32,33],[]⟩,⟨5,[5],[]⟩,⟨6,[8],[]⟩,⟨7,[35,36],[]⟩,⟨8,[37],[]⟩,⟨9,[38],[]⟩,⟨10,[30],[]⟩,⟨11,[40],[]⟩,⟨12,[34,41],[122]⟩] [13,14,15] []) (.no)) (.no)))) (cs:=⟨[1,4,6,7],[1,104],[]⟩) (ps:=[]) (ks:=[.b 107 33 (.st .Problem),.b 122 64 (.st .reader)]) (z:=x) (m:=Cn F x1.1 s) rfl rfl ⟨uC F,trivial⟩ (by kernel_rfl) hx (Fin.then ?_))
 refine ah.aD (Ck x1.2 x.1 x.2 b1).st rfl ?_
 refine ah.seq (ah.ab (Oc (eg (fs:=[]) (cs:=[.ptr 107 0,.ptr 104 0]) rfl rfl) (aj.defer rfl rfl rfl fun E' vals hlink hvals=>aj.aV (Ck x1.2 x.1 x.2 b1).st rfl ?_)))
 have hmS:(Option.bind (kB F x.2 b1) (bC (fun p=>some (.inr (p,x1.2,x.1))) fun x11=>(if (decide (x11.1.pos < (x11.1.l.length:Int))) = true then Option.bind (aP F (280:Int) x11.1) (bC (fun p=>some (.inr (p,x1.2,x.1))) fun x14=>some (.inl (x.1,x.1,x11.2))) else some (.inl (x.1,x.1,x11.2)))):Option (PT DD [.b 104 33 (.st .Problem),.b 107 33 (.st .Problem),.b 1 30 (.st .af)] ⊕ (Problem × PT DD [.b 104 33 (.st .Problem),.b 107 33 (.st .Problem)]))) = some (match y with
  | .inl v=>.inl (x.1,x.1,v)
  | .inr p=>.inr (p,x1.2,x.1)):=by
  unfold xW at hy
  cases hrd:kB F x.2 b1 with
  | none=>rw [hrd] at hy; cases hy
  | some c=>
   rw [hrd] at hy
   cases c with
   | inr p=>cases hy; rfl
   | inl c=>
    simp only [Option.bind_some,bC] at hy ⊢
    split at hy
    ·next hc=>
     rw [if_pos hc]
     cases hf:aP F 280 c.1 with
     | none=>rw [hf] at hy; cases hy
     | some d=>
      rw [hf] at hy
      cases d <;> (cases hy; rfl)
    ·next hc=>
     rw [if_neg hc]
     cases hy
     rfl
 intro a w hr
 refine iw (B0:=BB (mx:=mx)) (L:=LL) (G:=[((sa F).sw 1 122).sw 2 1,(bA F).sw 1 122]) (F:=F) (fr:=⟨67,[1,104,107,122],[]⟩) rfl rfl ⟨((yK F).sw 1 122).sw 2 1,(bT F).sw 1 122,trivial⟩ _ (.two (.no) (.two (.two (.hY [⟨0,[6],[]⟩,⟨1,[54],[]⟩,⟨2,[55],[]⟩,⟨3,[56],[122]⟩,⟨4,[6],[]⟩,⟨5,[58],[]⟩,⟨6,[59],[]⟩,⟨7,[60],[122]⟩,⟨8,[61],[]⟩] [9] []) (.no)) (.no))) (bS _ rfl) ⟨[],[],[]⟩ (Ck x1.2 x.1 x.2 b1) (fun _=>none) (fun t s'=>match t with
  | none=>if p6 s' [(4,104)] = true then (Dd s' [.b 104 33 (.st .Problem),.b 107 33 (.st .Problem),.b 1 30 (.st .af)]).bind fun z=>some (Sum.inl z) else none
  | some _=>none) (fun p sv=>if p6 sv [(4,104)] = true then (Dd sv [.b 104 33 (.st .Problem),.b 107 33 (.st .Problem)]).bind fun z=>some (.inr (p,z)) else none) _ _ (Eq.trans (by kernel_rfl) hmS) (fun s' _ e=>by cases e) (fun t s' _ e=>?_) (fun p' sv e=>?_) a w hr
 ·cases t with
  | some i=>cases e
  | none=>
   simp only at e
   split at e
   ·next hp=>
    obtain ⟨z,hz,e1⟩:=aJ e
    cases y with
    | inr p'=>cases e1
    | inl v=>
     cases e1
     cases h4
     refine fun a w hR=>Fin.D9 (own_c:=kK x.1 x.1) (own_c':=kK x.1 x.1) (post':=Is (yX v) (.b (.agg (aS x.1)))) hlink hvals BA (.inl rfl) ⟨Tryz.call16⟩ rfl rfl ⟨rfl,rfl,trivial⟩ rfl rfl (qX rfl rfl rfl rfl) ?_ a w (zg hp hz hR)
     exact Fin.kq (yX v) [.agg (aS x.1)] (.inl rfl) rfl (.cons (.agg a33 rfl rfl rfl rfl) .nil) (fun p hp=>List.mem_append_left (kK x.1 x.1) hp) ⟨rfl,rfl⟩
   ·cases e
 ·split at e
  ·next hp=>
   obtain ⟨z,hz,e1⟩:=aJ e
   cases y with
   | inl v=>cases e1
   | inr p0=>
    cases e1
    cases h4
    intro hok
    refine fun a w hR=>Fin.tz (own_c:=kK x.1 x1.2) (own_c':=kK x.1 (qy x.1 p')) (post':=Is [] (.b (.agg (aS (qy x.1 p'))))) hlink hvals (Af hok) ⟨Tryz.call16⟩ rfl rfl ⟨rfl,rfl,trivial⟩ rfl rfl (qX rfl rfl rfl rfl) ?_ a w (zg hp hz hR)
    exact Fin.kq [] [.agg (aS (qy x.1 p'))] (.inl rfl) rfl (.cons (.agg a33 rfl rfl rfl rfl) .nil) (fun p hp=>by cases hp) ⟨rfl,rfl⟩
  ·cases e
def wj (F:Nat) (rd:reader) (b1:Source × List ay):Option ((Source × List ay) ⊕ Problem):=Option.bind (jD F rd b1.1 b1.2) (bC (fun p=>some (.inr p)) fun x11=>(if (decide (x11.1.pos < (x11.1.l.length:Int))) = true then Option.bind (aP F (280:Int) x11.1) (bC (fun p=>some (.inr p)) fun x14=>some (.inl (x11.2))) else some (.inl (x11.2))))
def xX (F:Nat) (s:Str) (b1:Source × List ay):Option (Problem × Option (Source × List ay)):=Option.bind (GQ F s) fun q=>match q with
 | .inl p=>some (p,none)
 | .inr x=>Option.bind (wj F x.2 b1) fun y=>match y with
  | .inl v=>some (x.1,some v)
  | .inr p=>some (qy x.1 p,none)
noncomputable def vR (v:(Source × List ay)):List (Nat × OC):=bq (b5 (D:=DD) false [1,2] [.x 49 .Source,.r 46 (.st .ay)] (v.1,v.2,()))
def sJ:Fr:=⟨67,[1],[]⟩
def t6Parse (s:Str) (b1:Source × List ay):bE DD:=⟨[(0,.n (.d .str s)),(1,.n (.p (.cD 28 [] [.ptr 1 0])))],[(1,.x 49 .Source 1 2 false b1.1),(2,.row 46 (.st .ay) b1.2)],[]⟩
def JU (s:Str) (p:Problem) (b1:Source × List ay):bE DD:=⟨[(0,.n (.d .str s)),(1,.n (.p (.cD 28 [] [.ptr 1 0]))),(4,.n (.p (.ptr 104 0)))],[(1,.x 49 .Source 1 2 false b1.1),(2,.row 46 (.st .ay) b1.2),(104,.box 33 (.st .Problem) p)],[]⟩
def DH (s:Str) (l:List Token) (p:Problem) (b1:Source × List ay):bE DD:=⟨[(0,.n (.d .str s)),(1,.n (.p (.cD 28 [] [.ptr 1 0]))),(4,.n (.p (.ptr 104 0))),(5,.n (.d (.sl (.st .Token)) l))],[(1,.x 49 .Source 1 2 false b1.1),(2,.row 46 (.st .ay) b1.2),(104,.box 33 (.st .Problem) p)],[]⟩
def JT (s:Str) (l:List Token) (p rest:Problem) (rd:reader) (b1:Source × List ay):bE DD:=⟨[(0,.n (.d .str s)),(1,.n (.p (.cD 28 [] [.ptr 1 0]))),(4,.n (.p (.ptr 104 0))),(5,.n (.d (.sl (.st .Token)) l)),(6,.n (.p (.ptr 122 0))),(7,.n (.p (.ptr 107 0)))],[(1,.x 49 .Source 1 2 false b1.1),(2,.row 46 (.st .ay) b1.2),(104,.box 33 (.st .Problem) p),(107,.box 33 (.st .Problem) rest),(122,.box 64 (.st .reader) rd)],[]⟩
def zI (p rest:Problem) (rd:reader) (b1:Source × List ay):bE DD:=⟨[(1,.n (.p (.cD 28 [] [.ptr 1 0]))),(4,.n (.p (.ptr 104 0))),(6,.n (.p (.ptr 122 0))),(7,.n (.p (.ptr 107 0)))],[(1,.x 49 .Source 1 2 false b1.1),(2,.row 46 (.st .ay) b1.2),(104,.box 33 (.st .Problem) p),(107,.box 33 (.st .Problem) rest),(122,.box 64 (.st .reader) rd)],[]⟩
theorem AH {mx:Int} {F:Nat} {s:Str} {b1:Source × List ay} {p:Problem} {o:Option (Source × List ay)} (h:xX F s b1 = some (p,o)):aG Tryz.prog (aw mx) 6 (vR b1) [.one (.str s),.cD 28 [] [.ptr 1 0]] (Is (match o with | some v=>vR v | none=>[]) (.b (.agg (aS p)))):=by
 refine aG.Fh 67 Tryz.func6 Tryz.ntmps6 rfl (Nat.le_of_ble_eq_true rfl) fun E=>?_
 show ah _ E ⟨67,[1],[1,2],[]⟩ _ (t6Parse s b1).st _
 obtain ⟨q,hq,h1⟩:=aJ h
 obtain ⟨x1,hx1,h2⟩:=aJ hq
 refine ah.seq (wS (fr:=sJ) (F:=F) (G:=[]) (an:=.no) (cs:=⟨[0,1],[1,2],[]⟩) (ps:=[(4,104)]) (ks:=[.b 104 33 (.st .Problem)]) (z:=(⟨0,0⟩:Problem)) (m:=some (⟨0,0⟩:Problem)) rfl rfl trivial (by kernel_rfl) rfl (Fin.then ?_))
 refine ah.aD (JU s ⟨0,0⟩ b1).st rfl ?_
 refine ah.seq (wS (fr:=sJ) (F:=F) (G:=[iQ F]) (an:=.no) (cs:=⟨[0,1,4],[1,2],[]⟩) (ps:=[]) (ks:=[.b 104 33 (.st .Problem),.s 5 (.sl (.st .Token))]) (z:=(x1.2,x1.1)) (m:=(eh F s).bind fun x1=>some (x1.2,x1.1)) rfl rfl ⟨lv F,trivial⟩ (by kernel_rfl) (by rw [hx1]; rfl) (Fin.then ?_))
 refine ah.aD (DH s x1.1 x1.2 b1).st rfl ?_
 have hm:(if decide (x1.2.E ≠ 0) = true then some (.inr x1.2) else some (.inl x1.2):Option (PT DD [.b 104 33 (.st .Problem)] ⊕ PT DD [.b 104 33 (.st .Problem)])) = some (if x1.2.E ≠ 0 then .inr x1.2 else .inl x1.2):=by by_cases hE:x1.2.E = 0 <;> simp [hE]
 refine ah.seq (denW (fr:=sJ) (F:=F) (G:=[]) (an:=.no) (cs:=⟨[0,1,4,5],[1,2],[]⟩) (ps:=[]) (ks:=[.b 104 33 (.st .Problem)]) (ps2:=[(4,104)]) (ks2:=[.b 104 33 (.st .Problem)]) rfl rfl trivial (by kernel_rfl) hm (fun z hz=>Fin.then ?_) (fun z hz=>?_))
 rotate_left
 ·split at hz
  ·next hE=>
   cases hz
   rw [if_pos hE] at h2
   cases h2
   cases h1
   exact Fin.cr (Fin.retD (.inl rfl) rfl (Fin.kq [] [.agg (aS x1.2)] (.inl rfl) rfl (.cons (.agg a33 rfl rfl rfl rfl) .nil) (fun p hp=>by cases hp) ⟨rfl,rfl⟩))
  ·cases hz
 split at hz
 ·cases hz
 next hE=>
 cases hz
 rw [if_neg hE] at h2
 obtain ⟨x,hx,h3⟩:=aJ h2
 cases h3
 obtain ⟨y,hy,h4⟩:=aJ h1
 refine ah.aD (DH s x1.1 x1.2 b1).st rfl ?_
 refine ah.seq (wS (fr:=sJ) (F:=F) (G:=[]) (an:=.no) (cs:=⟨[0,1,4,5],[1,2,104],[]⟩) (ps:=[(6,122),(7,107)]) (ks:=[.b 107 33 (.st .Problem),.b 122 64 (.st .reader)]) (z:=((⟨0,0⟩:Problem),(⟨x1.1,0,(s.length:Int)⟩:reader))) (m:=some ((⟨0,0⟩:Problem),(⟨x1.1,0,(s.length:Int)⟩:reader))) rfl rfl trivial (by kernel_rfl) rfl (Fin.then ?_))
 refine ah.aD (JT s x1.1 x1.2 ⟨0,0⟩ ⟨x1.1,0,(s.length:Int)⟩ b1).st rfl ?_
 refine ah.seq (wS (fr:=sJ) (F:=F) (G:=[qn F]) (an:=.two (.no) (.two (.no) (.two (.two (.hY [⟨0,[6],[]⟩,⟨1,[6],[]⟩,⟨2,[5],[]⟩,⟨3,[8],[]⟩,⟨4,[32,33],[]⟩,⟨5,[5],[]⟩,⟨6,[8],[]⟩,⟨7,[35,36],[]⟩,⟨8,[37],[]⟩,⟨9,[38],[]⟩,⟨10,[30],[]⟩,⟨11,[40],[]⟩,⟨12,[34,41],[122]⟩] [13,14,15] []) (.no)) (.no)))) (cs:=⟨[1,4,6,7],[1,2,104],[]⟩) (ps:=[]) (ks:=[.b 107 33 (.st .Problem),.b 122 64 (.st .reader)]) (z:=x) (m:=Cn F x1.1 s) rfl rfl ⟨uC F,trivial⟩ (by kernel_rfl) hx (Fin.then ?_))
 refine ah.aD (zI x1.2 x.1 x.2 b1).st rfl ?_
 refine ah.seq (ah.ab (Oc (eg (fs:=[]) (cs:=[.ptr 107 0,.ptr 104 0]) rfl rfl) (aj.defer rfl rfl rfl fun E' vals hlink hvals=>aj.aV (zI x1.2 x.1 x.2 b1).st rfl ?_)))
 have hmS:(Option.bind (jD F x.2 b1.1 b1.2) (bC (fun p=>some (.inr (p,x1.2,x.1))) fun x11=>(if (decide (x11.1.pos < (x11.1.l.length:Int))) = true then Option.bind (aP F (280:Int) x11.1) (bC (fun p=>some (.inr (p,x1.2,x.1))) fun x14=>some (.inl (x.1,x.1,x11.2))) else some (.inl (x.1,x.1,x11.2)))):Option (PT DD [.b 104 33 (.st .Problem),.b 107 33 (.st .Problem),.x 1 49 .Source 2,.r 2 46 (.st .ay)] ⊕ (Problem × PT DD [.b 104 33 (.st .Problem),.b 107 33 (.st .Problem)]))) = some (match y with
  | .inl v=>.inl (x.1,x.1,v)
  | .inr p=>.inr (p,x1.2,x.1)):=by
  unfold wj at hy
  cases hrd:jD F x.2 b1.1 b1.2 with
  | none=>rw [hrd] at hy; cases hy
  | some c=>
   rw [hrd] at hy
   cases c with
   | inr p=>cases hy; rfl
   | inl c=>
    simp only [Option.bind_some,bC] at hy ⊢
    split at hy
    ·next hc=>
     rw [if_pos hc]
     cases hf:aP F 280 c.1 with
     | none=>rw [hf] at hy; cases hy
     | some d=>
      rw [hf] at hy
      cases d <;> (cases hy; rfl)
    ·next hc=>
     rw [if_neg hc]
     cases hy
     rfl
 intro a w hr
 refine iw (B0:=BB (mx:=mx)) (L:=LL) (G:=[(((jE F).sw 1 122).sw 2 1).sw 3 2,(bA F).sw 1 122]) (F:=F) (fr:=⟨67,[1,104,107,122],[]⟩) rfl rfl ⟨(((xJ F).sw 1 122).sw 2 1).sw 3 2,(bT F).sw 1 122,trivial⟩ _ (.two (.no) (.two (.two (.hY [⟨0,[6],[]⟩,⟨1,[54],[]⟩,⟨2,[55],[]⟩,⟨3,[56],[122]⟩,⟨4,[6],[]⟩,⟨5,[58],[]⟩,⟨6,[59],[]⟩,⟨7,[60],[122]⟩,⟨8,[61],[]⟩] [9] []) (.no)) (.no))) (bS _ rfl) ⟨[],[],[]⟩ (zI x1.2 x.1 x.2 b1) (fun _=>none) (fun t s'=>match t with
  | none=>if p6 s' [(4,104)] = true then (Dd s' [.b 104 33 (.st .Problem),.b 107 33 (.st .Problem),.x 1 49 .Source 2,.r 2 46 (.st .ay)]).bind fun z=>some (Sum.inl z) else none
  | some _=>none) (fun p sv=>if p6 sv [(4,104)] = true then (Dd sv [.b 104 33 (.st .Problem),.b 107 33 (.st .Problem)]).bind fun z=>some (.inr (p,z)) else none) _ _ (Eq.trans (by kernel_rfl) hmS) (fun s' _ e=>by cases e) (fun t s' _ e=>?_) (fun p' sv e=>?_) a w hr
 ·cases t with
  | some i=>cases e
  | none=>
   simp only at e
   split at e
   ·next hp=>
    obtain ⟨z,hz,e1⟩:=aJ e
    cases y with
    | inr p'=>cases e1
    | inl v=>
     cases e1
     cases h4
     refine fun a w hR=>Fin.D9 (own_c:=kK x.1 x.1) (own_c':=kK x.1 x.1) (post':=Is (vR v) (.b (.agg (aS x.1)))) hlink hvals BA (.inl rfl) ⟨Tryz.call16⟩ rfl rfl ⟨rfl,rfl,trivial⟩ rfl rfl (qX rfl rfl rfl rfl) ?_ a w (zg hp hz hR)
     exact Fin.kq (vR v) [.agg (aS x.1)] (.inl rfl) rfl (.cons (.agg a33 rfl rfl rfl rfl) .nil) (fun p hp=>List.mem_append_left (kK x.1 x.1) hp) ⟨rfl,rfl⟩
   ·cases e
 ·split at e
  ·next hp=>
   obtain ⟨z,hz,e1⟩:=aJ e
   cases y with
   | inl v=>cases e1
   | inr p0=>
    cases e1
    cases h4
    intro hok
    refine fun a w hR=>Fin.tz (own_c:=kK x.1 x1.2) (own_c':=kK x.1 (qy x.1 p')) (post':=Is [] (.b (.agg (aS (qy x.1 p'))))) hlink hvals (Af hok) ⟨Tryz.call16⟩ rfl rfl ⟨rfl,rfl,trivial⟩ rfl rfl (qX rfl rfl rfl rfl) ?_ a w (zg hp hz hR)
    exact Fin.kq [] [.agg (aS (qy x.1 p'))] (.inl rfl) rfl (.cons (.agg a33 rfl rfl rfl rfl) .nil) (fun p hp=>by cases hp) ⟨rfl,rfl⟩
  ·cases e
end Go.Dn
namespace Go.Dn
open Go Go.Sk Go.Proofs X
set_option linter.unusedVariables false
set_option maxRecDepth 100000
section
variable {mx:Int} {F:Nat} {s:Str}
def eV (F:Nat) (s:Str):Option (af × Problem):=Option.bind (Ae F s gm) fun q=>if q.1.E ≠ 0 then some (gm,q.1) else q.2.bind fun v=>some (v,q.1)
def uJ (F:Nat):bJ DD pk:=⟨4,[.d .str],[],[],[],[.st .af,.st .Problem],true,false,false,false,fun a l=>eV F a.1⟩
def u4 (s:Str):bE DD:=⟨[(0,.n (.d .str s))],[],[]⟩
def u4a (s:Str):bE DD:=⟨[(0,.n (.d .str s)),(2,.n (.p (.ptr 102 0))),(3,.n (.p (.ptr 103 0)))],[(102,.box 30 (.st .af) gm),(103,.box 33 (.st .Problem) ⟨0,0⟩)],[]⟩
def u4b (s:Str):bE DD:=⟨[(0,.n (.d .str s)),(2,.n (.p (.ptr 102 0))),(3,.n (.p (.ptr 103 0))),(4,.n (.p (.ptr 104 0)))],[(102,.box 30 (.st .af) gm),(103,.box 33 (.st .Problem) ⟨0,0⟩),(104,.box 30 (.st .af) gm)],[]⟩
def u4c (p:Problem) (l:List (Nat × TO DD)):bE DD:=⟨[(8,.n (.d (.st .Problem) p)),(2,.n (.p (.ptr 102 0))),(3,.n (.p (.ptr 103 0))),(4,.n (.p (.ptr 104 0)))],[(102,.box 30 (.st .af) gm),(103,.box 33 (.st .Problem) ⟨0,0⟩)] ++ l,[]⟩
def u4d (p:Problem) (l:List (Nat × TO DD)):bE DD:=⟨[(2,.n (.p (.ptr 102 0))),(3,.n (.p (.ptr 103 0))),(4,.n (.p (.ptr 104 0))),(5,.n (.p (.ptr 105 0)))],[(102,.box 30 (.st .af) gm),(103,.box 33 (.st .Problem) ⟨0,0⟩)] ++ l ++ [(105,.box 33 (.st .Problem) p)],[]⟩
theorem FU {r:af × Problem} (h:eV F s = some r):aG Tryz.prog (aw mx) 4 [] [.one (.str s)] (Is [] (.kU [.agg (gq r.1),.agg (aS r.2)])):=by
 obtain ⟨⟨p,o⟩,hq,h1⟩:=aJ h
 refine aG.intro 16 Tryz.func4 Tryz.ntmps4 rfl (Nat.le_of_ble_eq_true rfl) fun E=>?_
 show ah _ E ⟨16,[],[],[]⟩ _ (u4 s).st _
 have hm:aG Tryz.prog (aw mx) 6 [(104,.box 30 (gq gm))] [.one (.str s),.cD 7 [] [.ptr 104 0]] (Is (match o with | some v=>[(104,.box 30 (gq v))] | none=>[]) (.b (.agg (aS p)))):=by
  have:=aG.sw (Bb (mx:=mx) hq) 1 104
  cases o <;> exact this
 refine ah.seq (wS (fr:=⟨16,[],[]⟩) (F:=F) (G:=[]) (an:=.no) (cs:=⟨[0],[],[]⟩) (ps:=[(2,102),(3,103)]) (ks:=[.b 102 30 (.st .af),.b 103 33 (.st .Problem)]) (z:=(gm,(⟨0,0⟩:Problem))) (m:=some (gm,(⟨0,0⟩:Problem))) rfl rfl trivial (by kernel_rfl) rfl (Fin.then ?_))
 refine ah.aD (u4a s).st rfl ?_
 refine ah.seq (wS (fr:=⟨16,[],[]⟩) (F:=F) (G:=[]) (an:=.no) (cs:=⟨[0,2,3],[102,103],[]⟩) (ps:=[(4,104)]) (ks:=[.b 104 30 (.st .af)]) (z:=gm) (m:=some gm) rfl rfl trivial (by kernel_rfl) rfl (Fin.then ?_))
 refine ah.aD (u4b s).st rfl ?_
 have l30:(gq r.1).length = DD.n .af:=DD.len .af r.1
 have fin:∀ (l:List (Nat × TO DD)) (m:Option (PT DD [] ⊕ PT DD [.b 102 30 (.st .af),.b 103 33 (.st .Problem)])),m = some (.inr r) → (∀ c,c = EX 3 ((Tryz.f4.body).getD .skip) → gH (BB (mx:=mx)) LL ([]:List (bJ DD pk)) ⟨16,[],[]⟩ F c ((.two (.two (.no) (.two (.two (.hY [⟨0,[],[]⟩,⟨1,[5],[105]⟩,⟨2,[2,12],[102]⟩] [3] []) (.no)) (.no))) (.two (.hY [⟨0,[4],[104]⟩,⟨1,[5],[105]⟩,⟨2,[2,14],[102]⟩] [3] []) (.no)))) ((⟨[],[],[]⟩:Kept).add ⟨[],[],[]⟩) (u4d p l) (fun s'=>if p6 s' [] = true then (pj s' (⟨[],[],[]⟩:Kept).r []).bind fun z=>some (.inl z) else none) (fun t s'=>match t with
  | none=>if p6 s' [(2,102),(3,103)] = true then (Dd s' [.b 102 30 (.st .af),.b 103 33 (.st .Problem)]).bind fun z=>some (.inr z) else none
  | some _=>none) (fun _ _=>none) = m) → ah Tryz.prog E ⟨16,[],[],[]⟩ (EX 3 ((Tryz.f4.body).getD .skip)) (u4d p l).st (yP Tryz.prog Tryz.f4 E ⟨16,[],[],[]⟩ (Is [] (.kU [.agg (gq r.1),.agg (aS r.2)]))):=fun l m hm hd=>by
  refine denW (fr:=⟨16,[],[]⟩) (F:=F) (G:=[]) (an:=(.two (.two (.no) (.two (.two (.hY [⟨0,[],[]⟩,⟨1,[5],[105]⟩,⟨2,[2,12],[102]⟩] [3] []) (.no)) (.no))) (.two (.hY [⟨0,[4],[104]⟩,⟨1,[5],[105]⟩,⟨2,[2,14],[102]⟩] [3] []) (.no)))) (cs:=⟨[],[],[]⟩) (ps:=[]) (ks:=[]) (ps2:=[(2,102),(3,103)]) (ks2:=[.b 102 30 (.st .af),.b 103 33 (.st .Problem)]) rfl rfl trivial (hd _ rfl) hm (fun z hz=>by cases hz) (fun z hz=>?_)
  cases hz
  exact Fin.kq [] [.agg (gq r.1),.agg (aS r.2)] (.inl rfl) rfl (.cons (.agg (m:=DD.n .af) ((BB (mx:=mx)).tok 30 (.st .af) rfl) rfl rfl (by
   show List.take (DD.n .af) (List.drop 0 (gq r.1)) = _
   rw [List.drop_zero,← l30,List.take_length]) l30) (.cons (.agg a33 rfl rfl rfl rfl) .nil)) (fun p hp=>by cases hp) ⟨rfl,rfl⟩
 refine ah.seq (ah.ab ?_)
 refine Oc om (Oc (eg (fs:=[]) (cs:=[.ptr 104 0]) rfl rfl) ?_)
 cases o with
 | none=>
  refine Oc (dx hm ⟨Tryz.call6⟩ rfl ⟨rfl,trivial⟩ rfl rfl) ?_
  refine aj.aD (u4c p []).st rfl ?_
  refine Iq (fr:=⟨16,[],[]⟩) (cs:=⟨[2,3,4],[102,103],[]⟩) (ps:=[(5,105)]) (ks:=[.b 105 33 (.st .Problem)]) (z:=p) (G:=[]) rfl rfl trivial (by kernel_rfl) (Fin.then ?_)
  refine ah.aD (u4d p []).st rfl ?_
  refine fin [] (if decide (p.E ≠ 0) = true then some (.inr (gm,p)) else none) ?_ (fun c hc=>by subst hc; kernel_rfl)
  simp only [Option.bind_none] at h1
  split at h1
  ·next hE=>cases h1; exact if_pos (decide_eq_true hE)
  ·cases h1
 | some v=>
  refine Oc (dx hm ⟨Tryz.call6⟩ rfl ⟨rfl,trivial⟩ rfl rfl) ?_
  refine aj.aD (u4c p [(104,.box 30 (.st .af) v)]).st rfl ?_
  refine Iq (fr:=⟨16,[],[]⟩) (cs:=⟨[2,3,4],[102,103,104],[]⟩) (ps:=[(5,105)]) (ks:=[.b 105 33 (.st .Problem)]) (z:=p) (G:=[]) rfl rfl trivial (by kernel_rfl) (Fin.then ?_)
  refine ah.aD (u4d p [(104,.box 30 (.st .af) v)]).st rfl ?_
  refine fin [(104,.box 30 (.st .af) v)] (if decide (p.E ≠ 0) = true then some (.inr (gm,p)) else some (.inr (v,p))) ?_ (fun c hc=>by subst hc; kernel_rfl)
  simp only [Option.bind_some] at h1
  split at h1
  ·next hE=>cases h1; exact if_pos (decide_eq_true hE)
  ·next hE=>cases h1; exact if_neg (by simpa using hE)
theorem Bi (F:Nat):av Tryz.prog (aw mx) (uJ F):=nI ⟨Tryz.call4⟩ fun a r h=>FU (mx:=mx) (F:=F) h
def kA (F:Nat) (s:Str):Option Bool:=if s = [] then some true else none
def r7 (F:Nat):bJ DD pk:=⟨122,[.d .str],[],[],[],[.bool],true,false,false,false,fun a l=>kA F a.1⟩
theorem CW {r:Bool} (h:kA F s = some r):aG Tryz.prog (aw mx) 122 [] [.one (.str s)] (Is [] (.b (.one (.bool r)))):=by
 unfold kA at h
 split at h
 ·next hs=>
  subst hs
  cases h
  refine aG.intro 18 Tryz.func122 Tryz.ntmps122 rfl (Nat.le_of_ble_eq_true rfl) fun E=>?_
  show ah _ E ⟨18,[],[],[]⟩ _ ⟨[(0,.b (.one (.str [])))],[]⟩ _
  refine ah.seq (ah.ab (Oc oa (aj.aV ⟨[(0,.b (.one (.str [])))],[]⟩ rfl ?_)))
  refine ah.seq (wS (fr:=⟨18,[],[]⟩) (F:=F) (G:=[]) (an:=.no) (s:=⟨[(0,.n (.d .str []))],[],[]⟩) (cs:=⟨[0],[],[]⟩) (ps:=[(3,103)]) (ks:=[.b 103 9 .str]) (z:=([]:Str)) (m:=some ([]:Str)) rfl rfl trivial (by kernel_rfl) rfl (Fin.then ?_))
  refine ah.seq (ah.ab ?_)
  refine aj.aD (bE.st (D:=DD) ⟨[(0,.n (.d .str [])),(3,.n (.p (.ptr 103 0)))],[(103,.box 9 .str [])],[]⟩) rfl ?_
  refine Oc om (Oc (u5 (u:=[]) (v:=[]) rfl rfl) (Oc om ?_))
  refine aj.pA (z:=.one (.bool true)) false 99 [] (.plain (b:=true) rfl) rfl rfl rfl (fun e=>by cases e) (fun e=>by cases e) ?_
  refine aj.pA (z:=.one (.bool true)) false 99 [] (.plain (b:=true) rfl) rfl rfl rfl (fun e=>by cases e) (fun e=>by cases e) ?_
  refine aj.pA (z:=.one (.bool true)) false 99 [] (.plain (b:=true) rfl) rfl rfl rfl (fun e=>by cases e) (fun e=>by cases e) ?_
  refine aj.pA (z:=.one (.bool true)) false 99 [] (.plain (b:=true) rfl) rfl rfl rfl (fun e=>by cases e) (fun e=>by cases e) ?_
  refine aj.pA (z:=.one (.bool true)) false 99 [] (.plain (b:=true) rfl) rfl rfl rfl (fun e=>by cases e) (fun e=>by cases e) ?_
  refine aj.pA (z:=.one (.bool true)) false 99 [] (.plain (b:=true) rfl) rfl rfl rfl (fun e=>by cases e) (fun e=>by cases e) ?_
  refine aj.pA (z:=.one (.bool true)) false 99 [] (.under (c:=false) (b:=true) rfl) rfl rfl rfl (fun e=>by cases e) (fun e=>by cases e) ?_
  refine aj.pA (z:=.one (.bool true)) false 99 [] (.under (c:=false) (b:=true) rfl) rfl rfl rfl (fun e=>by cases e) (fun e=>by cases e) ?_
  refine aj.pA (z:=.one (.bool true)) false 99 [] (.under (c:=false) (b:=true) rfl) rfl rfl rfl (fun e=>by cases e) (fun e=>by cases e) ?_
  refine aj.pA (z:=.one (.bool true)) false 99 [] (.plain (b:=true) rfl) rfl rfl rfl (fun e=>by cases e) (fun e=>by cases e) ?_
  refine Oc (ff (b:=true) (gd:=false) (z:=true) (fun e=>by cases e) rfl rfl rfl rfl) (Oc oa (aj.aV ⟨[(2,B true)],[]⟩ rfl ?_))
  exact ah.ret (Fin.result [.one (.bool true)] (.inl rfl) rfl (.cons (.tmp rfl) .nil) ⟨rfl,rfl⟩)
 ·cases h
theorem yI (F:Nat):av Tryz.prog (aw mx) (r7 F):=nI ⟨Tryz.call122⟩ fun a r h=>CW (mx:=mx) (F:=F) h
def gw (F:Nat) (s:Str):Option (Source × Problem):=Option.bind (xX F s (fG,[])) fun q=>if q.1.E ≠ 0 then some (fG,q.1) else q.2.bind fun v=>some ({ v.1 with Code:=v.2 },q.1)
def iP (F:Nat):bJ DD pk:=⟨12,[.d .str],[],[],[],[.st .Source,.st .Problem],true,false,false,false,fun a l=>gw F a.1⟩
def u12 (s:Str):bE DD:=⟨[(0,.n (.d .str s))],[],[]⟩
def u12a (s:Str):bE DD:=⟨[(0,.n (.d .str s)),(2,.n (.p (.ptr 102 0))),(3,.n (.p (.ptr 103 0)))],[(102,.box 49 (.st .Source) fG),(103,.box 33 (.st .Problem) ⟨0,0⟩)],[]⟩
def u12b (s:Str):bE DD:=⟨[(0,.n (.d .str s)),(2,.n (.p (.ptr 102 0))),(3,.n (.p (.ptr 103 0))),(4,.n (.p (.ptr 104 0)))],[(102,.box 49 (.st .Source) fG),(103,.box 33 (.st .Problem) ⟨0,0⟩),(104,.x 49 .Source 104 100104 false fG),(100104,.row 46 (.st .ay) [])],[]⟩
def u12c (p:Problem) (l:List (Nat × TO DD)):bE DD:=⟨[(8,.n (.d (.st .Problem) p)),(2,.n (.p (.ptr 102 0))),(3,.n (.p (.ptr 103 0))),(4,.n (.p (.ptr 104 0)))],[(102,.box 49 (.st .Source) fG),(103,.box 33 (.st .Problem) ⟨0,0⟩)] ++ l,[]⟩
def Dg (p:Problem) (l:List (Nat × TO DD)):bE DD:=⟨[(2,.n (.p (.ptr 102 0))),(3,.n (.p (.ptr 103 0))),(4,.n (.p (.ptr 104 0))),(5,.n (.p (.ptr 105 0)))],[(102,.box 49 (.st .Source) fG),(103,.box 33 (.st .Problem) ⟨0,0⟩)] ++ l ++ [(105,.box 33 (.st .Problem) p)],[]⟩
theorem EE {r:Source × Problem} (h:gw F s = some r):aG Tryz.prog (aw mx) 12 [] [.one (.str s)] (Is [] (.kU [.agg (mJ r.1),.agg (aS r.2)])):=by
 obtain ⟨⟨p,o⟩,hq,h1⟩:=aJ h
 refine aG.intro 16 Tryz.func12 Tryz.ntmps12 rfl (Nat.le_of_ble_eq_true rfl) fun E=>?_
 show ah _ E ⟨16,[],[],[]⟩ _ (u12 s).st _
 have hm:aG Tryz.prog (aw mx) 6 (bq (b5 (D:=DD) false [104,100104] [.x 49 .Source,.r 46 (.st .ay)] ((fG,([]:List ay)).1,(fG,([]:List ay)).2,()))) [.one (.str s),.cD 28 [] [.ptr 104 0]] (Is (match o with | some v=>(bq (b5 (D:=DD) false [104,100104] [.x 49 .Source,.r 46 (.st .ay)] (v.1,v.2,()))) | none=>[]) (.b (.agg (aS p)))):=by
  have:=aG.sw (aG.sw (AH (mx:=mx) hq) 1 104) 2 100104
  cases o <;> exact this
 refine ah.seq (wS (fr:=⟨16,[],[]⟩) (F:=F) (G:=[]) (an:=.no) (cs:=⟨[0],[],[]⟩) (ps:=[(2,102),(3,103)]) (ks:=[.b 102 49 (.st .Source),.b 103 33 (.st .Problem)]) (z:=(fG,(⟨0,0⟩:Problem))) (m:=some (fG,(⟨0,0⟩:Problem))) rfl rfl trivial (by kernel_rfl) rfl (Fin.then ?_))
 refine ah.aD (u12a s).st rfl ?_
 refine ah.seq (wS (fr:=⟨16,[],[4]⟩) (F:=F) (G:=[]) (an:=.no) (cs:=⟨[0,2,3],[102,103],[]⟩) (ps:=[(4,104)]) (ks:=[.x 104 49 .Source 100104,.r 100104 46 (.st .ay)]) (z:=(fG,[])) (m:=some (fG,[])) rfl rfl trivial (by kernel_rfl) rfl (Fin.then ?_))
 refine ah.aD (u12b s).st rfl ?_
 have l30:(mJ r.1).length = DD.n .Source:=DD.len .Source r.1
 have fin:∀ (l:List (Nat × TO DD)) (m:Option (PT DD [] ⊕ PT DD [.b 102 49 (.st .Source),.b 103 33 (.st .Problem)])),m = some (.inr r) → (∀ c,c = EX 3 ((Tryz.f12.body).getD .skip) → gH (BB (mx:=mx)) LL ([]:List (bJ DD pk)) ⟨16,[],[]⟩ F c ((.two (.two (.no) (.two (.two (.hY [⟨0,[],[]⟩,⟨1,[5],[105]⟩,⟨2,[2,12],[102]⟩] [3] []) (.no)) (.no))) (.two (.hY [⟨0,[4],[104]⟩,⟨1,[5],[105]⟩,⟨2,[2,14],[102]⟩] [3] []) (.no)))) ((⟨[],[],[]⟩:Kept).add ⟨[],[],[]⟩) (Dg p l) (fun s'=>if p6 s' [] = true then (pj s' (⟨[],[],[]⟩:Kept).r []).bind fun z=>some (.inl z) else none) (fun t s'=>match t with
  | none=>if p6 s' [(2,102),(3,103)] = true then (Dd s' [.b 102 49 (.st .Source),.b 103 33 (.st .Problem)]).bind fun z=>some (.inr z) else none
  | some _=>none) (fun _ _=>none) = m) → ah Tryz.prog E ⟨16,[],[],[]⟩ (EX 3 ((Tryz.f12.body).getD .skip)) (Dg p l).st (yP Tryz.prog Tryz.f12 E ⟨16,[],[],[]⟩ (Is [] (.kU [.agg (mJ r.1),.agg (aS r.2)]))):=fun l m hm hd=>by
  refine denW (fr:=⟨16,[],[]⟩) (F:=F) (G:=[]) (an:=(.two (.two (.no) (.two (.two (.hY [⟨0,[],[]⟩,⟨1,[5],[105]⟩,⟨2,[2,12],[102]⟩] [3] []) (.no)) (.no))) (.two (.hY [⟨0,[4],[104]⟩,⟨1,[5],[105]⟩,⟨2,[2,14],[102]⟩] [3] []) (.no)))) (cs:=⟨[],[],[]⟩) (ps:=[]) (ks:=[]) (ps2:=[(2,102),(3,103)]) (ks2:=[.b 102 49 (.st .Source),.b 103 33 (.st .Problem)]) rfl rfl trivial (hd _ rfl) hm (fun z hz=>by cases hz) (fun z hz=>?_)
  cases hz
  exact Fin.kq [] [.agg (mJ r.1),.agg (aS r.2)] (.inl rfl) rfl (.cons (.agg (m:=DD.n .Source) ((BB (mx:=mx)).tok 49 (.st .Source) rfl) rfl rfl (by
   show List.take (DD.n .Source) (List.drop 0 (mJ r.1)) = _
   rw [List.drop_zero,← l30,List.take_length]) l30) (.cons (.agg a33 rfl rfl rfl rfl) .nil)) (fun p hp=>by cases hp) ⟨rfl,rfl⟩
 refine ah.seq (ah.ab ?_)
 refine Oc om (Oc (eg (fs:=[]) (cs:=[.ptr 104 0]) rfl rfl) ?_)
 cases o with
 | none=>
  refine Oc (dx hm ⟨Tryz.call6⟩ rfl ⟨rfl,rfl,trivial⟩ rfl rfl) ?_
  refine aj.aD (u12c p []).st rfl ?_
  refine Iq (fr:=⟨16,[],[]⟩) (cs:=⟨[2,3,4],[102,103],[]⟩) (ps:=[(5,105)]) (ks:=[.b 105 33 (.st .Problem)]) (z:=p) (G:=[]) rfl rfl trivial (by kernel_rfl) (Fin.then ?_)
  refine ah.aD (Dg p []).st rfl ?_
  refine fin [] (if decide (p.E ≠ 0) = true then some (.inr (fG,p)) else none) ?_ (fun c hc=>by subst hc; kernel_rfl)
  simp only [Option.bind_none] at h1
  split at h1
  ·next hE=>cases h1; exact if_pos (decide_eq_true hE)
  ·cases h1
 | some v=>
  refine Oc (dx hm ⟨Tryz.call6⟩ rfl ⟨rfl,rfl,trivial⟩ rfl rfl) ?_
  refine aj.aD (u12c p [(104,.x 49 .Source 104 100104 false v.1),(100104,.row 46 (.st .ay) v.2)]).st rfl ?_
  refine Iq (fr:=⟨16,[],[]⟩) (cs:=⟨[2,3,4],[102,103,104,100104],[]⟩) (ps:=[(5,105)]) (ks:=[.b 105 33 (.st .Problem)]) (z:=p) (G:=[]) rfl rfl trivial (by kernel_rfl) (Fin.then ?_)
  refine ah.aD (Dg p [(104,.x 49 .Source 104 100104 false v.1),(100104,.row 46 (.st .ay) v.2)]).st rfl ?_
  have himp:∀ a w,R E ⟨16,[],[],[]⟩ (Dg p [(104,.x 49 .Source 104 100104 false v.1),(100104,.row 46 (.st .ay) v.2)]).st a w → R E ⟨16,[],[],[]⟩ (impS (D:=DD) 104 100104 49 .Source (.st .ay) v.2 ({ v.1 with Code:=v.2 }:Source) (Dg p [(104,.x 49 .Source 104 100104 false v.1),(100104,.row 46 (.st .ay) v.2)])).st a w:=fun a w hr=>imp_R (L:=LL) (off:=1) rfl rfl (by decide) rfl rfl rfl (by kernel_rfl) hr
  suffices key:ah Tryz.prog E ⟨16,[],[],[]⟩ (EX 3 ((Tryz.f12.body).getD .skip)) (Dg p [(104,.box 49 (.st .Source) { v.1 with Code:=v.2 })]).st (yP Tryz.prog Tryz.f12 E ⟨16,[],[],[]⟩ (Is [] (.kU [.agg (mJ r.1),.agg (aS r.2)]))) from fun a w hr=>(ah.aD (Dg p [(104,.box 49 (.st .Source) { v.1 with Code:=v.2 })]).st rfl key) a w (himp a w hr)
  refine fin [(104,.box 49 (.st .Source) { v.1 with Code:=v.2 })] (if decide (p.E ≠ 0) = true then some (.inr (fG,p)) else some (.inr (({ v.1 with Code:=v.2 }:Source),p))) ?_ (fun c hc=>by subst hc; kernel_rfl)
  simp only [Option.bind_some] at h1
  split at h1
  ·next hE=>cases h1; exact if_pos (decide_eq_true hE)
  ·next hE=>cases h1; exact if_neg (by simpa using hE)
theorem lu (F:Nat):av Tryz.prog (aw mx) (iP F):=nI ⟨Tryz.call12⟩ fun a r h=>EE (mx:=mx) (F:=F) h
end
end Go.Dn
namespace Go.Dn
open Go Go.Sk
open X
set_option linter.unusedVariables false
def b7 (F:Nat) (v0:List Int):Option (List Int):=Option.bind (iter F (fun (x3:Int)=>(bN (decide ((0:Int) < x3)) fun x4=>Option.bind (bo x4 (aH v0 (IntKind.i64.wrap (x3 - (1:Int))))) fun x6=>(if (x4 && (decide (x6 = (0:Int)))) = true then some (.inl (IntKind.i64.wrap (x3 - (1:Int)))) else some (.inr x3)):Option (Int ⊕ Int))) (v0.length:Int)) (fun x10=>Option.bind (sA v0 x10) fun x11=>some x11)
def cW (F:Nat)  : Option bb:=some (⟨true,false,(⟨(0:Int),(0:Int),(0:Int),(0:Int),(0:Int),(0:Int),(0:Int),(0:Int),(0:Int),(0:Int),(0:Int),(0:Int),(0:Int),(0:Int),(0:Int),(0:Int)⟩:aX)⟩:bb)
def cg (F:Nat) (neg:Bool) (v1:List Int):Option bb:=Option.bind (b7 F v1) fun x1=>(if (decide ((32:Int) < (x1.length:Int))) = true then Option.bind (cW F) fun x4=>some x4 else Option.bind (iter F (fun (x8:Int × bb)=>((if (decide (x8.1 < (x1.length:Int))) = true then Option.bind (nD x8.1 (2:Int)) fun x11=>(if (decide (x11 = (0:Int))) = true then Option.bind (oF .i64 x8.1 (2:Int)) fun x13=>Option.bind (oF .i64 x8.1 (2:Int)) fun x14=>Option.bind (aH (aX.al x8.2.W) x14) fun x15=>Option.bind (aH (aX.al x8.2.W) x14) fun x16=>Option.bind (aH x1 x8.1) fun x17=>Option.bind (aH (aX.al x8.2.W) x13) fun x20=>Option.bind (aH (aX.al x8.2.W) x13) fun x21=>some (.inl ((IntKind.i64.wrap (x8.1 + (1:Int))),{ x8.2 with W:=aX.ao ((aX.al x8.2.W).set x13.toNat (IntKind.u32.wrap (x16 + (IntKind.u32.wrap x17)))) })) else Option.bind (oF .i64 x8.1 (2:Int)) fun x23=>Option.bind (oF .i64 x8.1 (2:Int)) fun x24=>Option.bind (aH (aX.al x8.2.W) x24) fun x25=>Option.bind (aH (aX.al x8.2.W) x24) fun x26=>Option.bind (aH x1 x8.1) fun x27=>Option.bind (aH (aX.al x8.2.W) x23) fun x31=>Option.bind (aH (aX.al x8.2.W) x23) fun x32=>some (.inl ((IntKind.i64.wrap (x8.1 + (1:Int))),{ x8.2 with W:=aX.ao ((aX.al x8.2.W).set x23.toNat (IntKind.u32.wrap (x26 + (IntKind.u32.wrap ((IntKind.u32.wrap x27) * (65536:Int)))))) }))) else some (.inr x8.2)):Option ((Int × bb) ⊕ bb))) ((0:Int),(⟨false,(neg && (decide ((0:Int) < (x1.length:Int)))),(⟨(0:Int),(0:Int),(0:Int),(0:Int),(0:Int),(0:Int),(0:Int),(0:Int),(0:Int),(0:Int),(0:Int),(0:Int),(0:Int),(0:Int),(0:Int),(0:Int)⟩:aX)⟩:bb))) (fun x34=>some x34))
def bQ (F:Nat) (v0:List Int) (k:Int):Option Int:=(if (decide (k < (v0.length:Int))) = true then Option.bind (aH v0 k) fun x3=>some x3 else some (0:Int))
def iR (F:Nat) (v0:List Int) (b:List Int):Option (List Int):=Option.bind (iter F (fun (x2:Int × Int × (List Int))=>((if (decide (x2.2.1 < (IntKind.i64.wrap ((max (v0.length:Int) (b.length:Int)) + (1:Int))))) = true then Option.bind (bQ F v0 x2.2.1) fun x8=>Option.bind (bQ F b x2.2.1) fun x9=>bN (IntKind.i64.wrap ((IntKind.i64.wrap (x8 + x9)) + x2.1)) fun x11=>Option.bind (nD x11 (65536:Int)) fun x12=>Option.bind (bV x2.2.2 ([x12]:List Int)) fun x14=>Option.bind (oF .i64 x11 (65536:Int)) fun x15=>some (.inl (x15,(IntKind.i64.wrap (x2.2.1 + (1:Int))),x14)) else some (.inr x2.2.2)):Option ((Int × Int × (List Int)) ⊕ (List Int)))) ((0:Int),(0:Int),([]:List Int))) (fun x17=>Option.bind (b7 F x17) fun x18=>some x18)
def dV (F:Nat) (n:Int):Option bb:=(if (decide ((0:Int) ≤ n)) = true then Option.bind (nD n (65536:Int)) fun x2=>Option.bind (oF .i64 n (65536:Int)) fun x3=>Option.bind (nD x3 (65536:Int)) fun x4=>Option.bind (oF .i64 n (4294967296:Int)) fun x5=>Option.bind (nD x5 (65536:Int)) fun x6=>Option.bind (oF .i64 n (281474976710656:Int)) fun x7=>Option.bind (cg F false ([x2,x4,x6,x7]:List Int)) fun x9=>some x9 else bN (IntKind.i64.wrap (-(IntKind.i64.wrap (n + (1:Int))))) fun x11=>Option.bind (nD x11 (65536:Int)) fun x12=>Option.bind (oF .i64 x11 (65536:Int)) fun x13=>Option.bind (nD x13 (65536:Int)) fun x14=>Option.bind (oF .i64 x11 (4294967296:Int)) fun x15=>Option.bind (nD x15 (65536:Int)) fun x16=>Option.bind (oF .i64 x11 (281474976710656:Int)) fun x17=>Option.bind (iR F ([x12,x14,x16,x17]:List Int) ([(1:Int)]:List Int)) fun x20=>Option.bind (cg F true x20) fun x21=>some x21)
def lN (F:Nat) (x:bb):Option Bool:=Option.bind (iter F (fun (x1:Bool × Int)=>((if (decide (x1.2 < (16:Int))) = true then Option.bind (bo x1.1 (aH (aX.al x.W) x1.2)) fun x3=>Option.bind (bo x1.1 (aH (aX.al x.W) x1.2)) fun x4=>some (.inl ((x1.1 && (decide (x4 = (0:Int)))),(IntKind.i64.wrap (x1.2 + (1:Int))))) else some (.inr x1.1)):Option ((Bool × Int) ⊕ Bool))) (true,(0:Int))) (fun x8=>(if x.Bad = true then some (x8 && (!x.Neg)) else some ((!x8) || (!x.Neg))))
def bH (F:Nat) (x:bb):Option Bool:=Option.bind (lN F x) fun x1=>some (x1 && (!x.Bad))
def bM (F:Nat) (x:bb):Option (List Int):=Option.bind (iter F (fun (x2:Int × (List Int))=>((if (decide (x2.1 < (16:Int))) = true then Option.bind (aH (aX.al x.W) x2.1) fun x4=>Option.bind (aH (aX.al x.W) x2.1) fun x5=>Option.bind (nD x5 (65536:Int)) fun x6=>Option.bind (aH (aX.al x.W) x2.1) fun x8=>Option.bind (aH (aX.al x.W) x2.1) fun x9=>Option.bind (oF .u32 x9 (65536:Int)) fun x10=>Option.bind (bV x2.2 ([(IntKind.i64.wrap x6),(IntKind.i64.wrap x10)]:List Int)) fun x13=>some (.inl ((IntKind.i64.wrap (x2.1 + (1:Int))),x13)) else some (.inr x2.2)):Option ((Int × (List Int)) ⊕ (List Int)))) ((0:Int),([]:List Int))) (fun x15=>Option.bind (b7 F x15) fun x16=>some x16)
def iS (F:Nat) (x:bb):Option Int:=Option.bind (bH F x) fun x1=>bN (!x1) fun x2=>Option.bind (bo (!x2) (bM F x)) fun x3=>(if (x2 || (decide ((x3.length:Int) = (0:Int)))) = true then some (0:Int) else (if x.Neg = true then some (-1:Int) else some (1:Int)))
def nO (F:Nat)  : Option bb:=Option.bind (dV F (1:Int)) fun x1=>some x1
def nP (F:Nat)  : Option ed:=Option.bind (cW F) fun x1=>Option.bind (nO F) fun x2=>some (⟨x1,x2⟩:ed)
def ek (F:Nat) (x:bb):Option (Int × Bool):=Option.bind (bH F x) fun x1=>bN (!x1) fun x2=>Option.bind (bo (!x2) (aH (aX.al x.W) (1:Int))) fun x3=>Option.bind (bo (!x2) (aH (aX.al x.W) (1:Int))) fun x4=>(if (x2 || (decide ((1073741824:Int) ≤ x4))) = true then some ((0:Int),false) else Option.bind (iter F (fun (x7:Int)=>((if (decide (x7 < (16:Int))) = true then Option.bind (aH (aX.al x.W) x7) fun x9=>Option.bind (aH (aX.al x.W) x7) fun x10=>(if (decide (x10 ≠ (0:Int))) = true then some (.inr (.inr ((0:Int),false))) else some (.inl (IntKind.i64.wrap (x7 + (1:Int))))) else some (.inr (.inl ()))):Option (Int ⊕ (Unit ⊕ (Int × Bool))))) (2:Int)) (ee (fun x13=>bN (IntKind.i64.wrap ((IntKind.i64.wrap ((IntKind.i64.wrap x.W.a1) * (4294967296:Int))) + (IntKind.i64.wrap x.W.a0))) fun x17=>(if x.Neg = true then some ((IntKind.i64.wrap (-x17)),true) else some (x17,true))) (fun x19=>some (x19.1,x19.2))))
def nS (F:Nat) (x:bb):Option bb:=Option.bind (bH F x) fun x1=>(if (!x1) = true then Option.bind (cW F) fun x3=>some x3 else Option.bind (bM F x) fun x4=>Option.bind (cg F false x4) fun x5=>some x5)
def fh (F:Nat) (v0:List Int) (k:Int):Option Int:=(if (decide (k < (0:Int))) = true then some (0:Int) else Option.bind (bQ F v0 k) fun x2=>some x2)
def lL (F:Nat) (v0:List Int) (b:List Int):Option (List Int):=bN (IntKind.i64.wrap ((IntKind.i64.wrap ((v0.length:Int) + (b.length:Int))) + (1:Int))) fun x5=>Option.bind (mk? (0:Int) x5 x5) fun x6=>Option.bind (iter F (fun (x7:Int × (List Int))=>((if (decide (x7.1 < (v0.length:Int))) = true then Option.bind (iter F (fun (x10:Int × (List Int))=>((if (decide (x10.1 < (b.length:Int))) = true then bN (IntKind.i64.wrap (x7.1 + x10.1)) fun x13=>bN (IntKind.i64.wrap (x7.1 + x10.1)) fun x14=>Option.bind (aH x10.2 x14) fun x15=>Option.bind (aH x10.2 x14) fun x16=>Option.bind (aH v0 x7.1) fun x17=>Option.bind (aH b x10.1) fun x18=>Option.bind (aH x10.2 x13) fun x21=>Option.bind (aH x10.2 x13) fun x22=>some (.inl ((IntKind.i64.wrap (x10.1 + (1:Int))),x10.2.set x13.toNat (IntKind.i64.wrap (x16 + (IntKind.i64.wrap (x17 * x18)))))) else some (.inr x10.2)):Option ((Int × (List Int)) ⊕ (List Int)))) ((0:Int),x7.2)) (fun x24=>Option.bind (iter F (fun (x25:Int × Int × (List Int))=>((if (decide (x25.2.1 < (x25.2.2.length:Int))) = true then Option.bind (aH x25.2.2 x25.2.1) fun x28=>Option.bind (aH x25.2.2 x25.2.1) fun x29=>bN (IntKind.i64.wrap (x29 + x25.1)) fun x30=>Option.bind (nD x30 (65536:Int)) fun x31=>Option.bind (aH x25.2.2 x25.2.1) fun x32=>Option.bind (aH x25.2.2 x25.2.1) fun x33=>Option.bind (oF .i64 x30 (65536:Int)) fun x34=>some (.inl (x34,(IntKind.i64.wrap (x25.2.1 + (1:Int))),x25.2.2.set x25.2.1.toNat x31)) else some (.inr x25.2.2)):Option ((Int × Int × (List Int)) ⊕ (List Int)))) ((0:Int),(0:Int),x24)) (fun x36=>some (.inl ((IntKind.i64.wrap (x7.1 + (1:Int))),x36)))) else some (.inr x7.2)):Option ((Int × (List Int)) ⊕ (List Int)))) ((0:Int),x6)) (fun x38=>Option.bind (b7 F x38) fun x39=>some x39)
def mW (F:Nat) (v0:List Int) (b:List Int):Option Bool:=Option.bind (iter F (fun (x5:Int)=>((if (decide ((0:Int) ≤ x5)) = true then Option.bind (bQ F v0 x5) fun x7=>Option.bind (bQ F b x5) fun x8=>(if (decide (x7 ≠ x8)) = true then Option.bind (bQ F v0 x5) fun x10=>Option.bind (bQ F b x5) fun x11=>some (.inr (.inr (decide (x10 < x11)))) else some (.inl (IntKind.i64.wrap (x5 - (1:Int))))) else some (.inr (.inl ()))):Option (Int ⊕ (Unit ⊕ Bool)))) (IntKind.i64.wrap ((max (v0.length:Int) (b.length:Int)) - (1:Int)))) (ee (fun x14=>some false) (fun x15=>some x15))
def ia (F:Nat) (v0:List Int) (b:List Int):Option (List Int):=Option.bind (iter F (fun (x2:Int × Int × (List Int))=>((if (decide (x2.2.1 < (v0.length:Int))) = true then Option.bind (aH v0 x2.2.1) fun x5=>Option.bind (bQ F b x2.2.1) fun x6=>bN (IntKind.i64.wrap ((IntKind.i64.wrap (x5 - x6)) - x2.1)) fun x8=>Option.bind ((if (decide (x8 < (0:Int))) = true then some ((1:Int),(IntKind.i64.wrap (x8 + (65536:Int)))) else some ((0:Int),x8)):Option (Int × Int)) fun x11=>Option.bind (bV x2.2.2 ([x11.2]:List Int)) fun x13=>some (.inl (x11.1,(IntKind.i64.wrap (x2.2.1 + (1:Int))),x13)) else some (.inr x2.2.2)):Option ((Int × Int × (List Int)) ⊕ (List Int)))) ((0:Int),(0:Int),([]:List Int))) (fun x15=>Option.bind (b7 F x15) fun x16=>some x16)
def gU (F:Nat) (v0:List Int) (b:List Int):Option ((List Int) × (List Int)):=bN ((v0.length:Int)) fun x3=>Option.bind (mk? (0:Int) x3 x3) fun x4=>bN ((b.length:Int)) fun x5=>Option.bind (aH b (IntKind.i64.wrap (x5 - (1:Int)))) fun x7=>Option.bind (fh F b (IntKind.i64.wrap (x5 - (2:Int)))) fun x10=>Option.bind (iter F (fun (x15:(List Int) × Int × (List Int))=>((if (decide ((0:Int) ≤ x15.2.1)) = true then Option.bind (aH v0 x15.2.1) fun x17=>Option.bind (bV ([x17]:List Int) x15.1) fun x18=>Option.bind (b7 F x18) fun x19=>Option.bind (fh F x19 x5) fun x20=>Option.bind (fh F x19 (IntKind.i64.wrap (x5 - (1:Int)))) fun x23=>Option.bind (fh F x19 (IntKind.i64.wrap (x5 - (2:Int)))) fun x27=>Option.bind (oF .i64 (IntKind.i64.wrap ((IntKind.i64.wrap ((IntKind.i64.wrap (x20 * (4294967296:Int))) + (IntKind.i64.wrap (x23 * (65536:Int))))) + x27)) (IntKind.i64.wrap ((IntKind.i64.wrap (x7 * (65536:Int))) + x10))) fun x29=>bN (min (65535:Int) x29) fun x30=>Option.bind (lL F b ([x30]:List Int)) fun x32=>Option.bind (iter F (fun (x33:Int × (List Int))=>(Option.bind (mW F x19 x33.2) fun x34=>(if x34 = true then Option.bind (ia F x33.2 b) fun x36=>some (.inl ((IntKind.i64.wrap (x33.1 - (1:Int))),x36)) else some (.inr (x33.1,x33.2))):Option ((Int × (List Int)) ⊕ (Int × (List Int))))) (x30,x32)) (fun x37=>Option.bind (aH x15.2.2 x15.2.1) fun x38=>Option.bind (aH x15.2.2 x15.2.1) fun x39=>Option.bind (ia F x19 x37.2) fun x40=>some (.inl (x40,(IntKind.i64.wrap (x15.2.1 - (1:Int))),x15.2.2.set x15.2.1.toNat x37.1))) else some (.inr (x15.1,x15.2.2))):Option (((List Int) × Int × (List Int)) ⊕ ((List Int) × (List Int))))) (([]:List Int),(IntKind.i64.wrap ((v0.length:Int) - (1:Int))),x4)) (fun x42=>Option.bind (b7 F x42.2) fun x43=>some (x43,x42.1))
def nR (F:Nat) (v0:bb) (b:bb):Option bb:=Option.bind (ek F v0) fun x1=>Option.bind (ek F b) fun x2=>(if (x1.2 && x2.2) = true then Option.bind (iter F (fun (x4:Int × Int)=>((if (decide (x4.2 ≠ (0:Int))) = true then Option.bind (nD x4.1 x4.2) fun x6=>some (.inl (x4.2,x6)) else some (.inr x4.1)):Option ((Int × Int) ⊕ Int))) (x1.1,x2.1)) (fun x7=>Option.bind (dV F x7) fun x8=>Option.bind (nS F x8) fun x9=>some x9) else Option.bind (bH F v0) fun x10=>bN (!x10) fun x11=>Option.bind (bo (!x11) (bH F b)) fun x12=>(if (x11 || (!x12)) = true then Option.bind (cW F) fun x15=>some x15 else Option.bind (bM F v0) fun x16=>Option.bind (bM F b) fun x17=>Option.bind (iter F (fun (x18:(List Int) × (List Int))=>((if (decide ((0:Int) < (x18.2.length:Int))) = true then Option.bind (gU F x18.1 x18.2) fun x21=>some (.inl (x18.2,x21.2)) else some (.inr x18.1)):Option (((List Int) × (List Int)) ⊕ (List Int)))) (x16,x17)) (fun x22=>Option.bind (cg F false x22) fun x23=>some x23)))
def nQ (F:Nat) (x:bb):Option bb:=Option.bind (bH F x) fun x1=>(if (!x1) = true then Option.bind (cW F) fun x3=>some x3 else Option.bind (bM F x) fun x5=>Option.bind (cg F (!x.Neg) x5) fun x6=>some x6)
def lM (F:Nat) (n:Int) (m:Int):Option Int:=Option.bind (oF .i64 n m) fun x1=>Option.bind (nD n m) fun x2=>(if ((decide (x2 ≠ (0:Int))) && ((decide (n < (0:Int))) != (decide (m < (0:Int))))) = true then some (IntKind.i64.wrap (x1 - (1:Int))) else some x1)
def jP (F:Nat) (v0:bb) (b:bb):Option bb:=Option.bind (ek F v0) fun x1=>Option.bind (ek F b) fun x2=>(if ((x1.2 && x2.2) && (decide (x2.1 ≠ (0:Int)))) = true then Option.bind (lM F x1.1 x2.1) fun x6=>Option.bind (dV F x6) fun x7=>some x7 else Option.bind (bH F v0) fun x8=>bN (!x8) fun x9=>Option.bind (bo (!x9) (bH F b)) fun x10=>bN ((x9 || (!x10))) fun x12=>Option.bind (bo (!x12) (bM F b)) fun x13=>(if (x12 || (decide ((x13.length:Int) = (0:Int)))) = true then Option.bind (cW F) fun x17=>some x17 else Option.bind (bM F v0) fun x18=>Option.bind (bM F b) fun x19=>Option.bind (gU F x18 x19) fun x20=>Option.bind ((if ((v0.Neg != b.Neg) && (decide ((0:Int) < (x20.2.length:Int)))) = true then Option.bind (iR F x20.1 ([(1:Int)]:List Int)) fun x26=>some x26 else some x20.1):Option ((List Int))) fun x27=>Option.bind (cg F (v0.Neg != b.Neg) x27) fun x29=>some x29))
def mU (F:Nat) (n:bb) (d:bb):Option ed:=Option.bind (bH F n) fun x1=>bN (!x1) fun x2=>Option.bind (bo (!x2) (bH F d)) fun x3=>bN ((x2 || (!x3))) fun x5=>Option.bind (bo (!x5) (iS F d)) fun x6=>(if (x5 || (decide (x6 = (0:Int)))) = true then Option.bind (nP F) fun x9=>some x9 else Option.bind (nR F n d) fun x10=>Option.bind (Option.bind (iS F d) fun x11=>(if (decide (x11 < (0:Int))) = true then Option.bind (nQ F x10) fun x13=>some x13 else some x10):Option (bb)) fun x14=>Option.bind (jP F n x14) fun x15=>Option.bind (jP F d x14) fun x16=>some (⟨x15,x16⟩:ed))
def mV (F:Nat) (v0:Int) (b:Int):Option ed:=Option.bind (dV F v0) fun x1=>Option.bind (dV F b) fun x2=>Option.bind (mU F x1 x2) fun x3=>some x3
def dA (F:Nat) (n:Int) (d:Int) (unit:Str):Option af:=Option.bind (mV F n d) fun x1=>some (⟨(1:Int),x1,unit,([]:Str),([]:List af),(0:Int)⟩:af)
mutual
def iy:Nat → af → Option af
 | 0,_=>none
 | F + 1,x=>Option.bind (fQ F x.Args) fun x1=>some ({ x with Args:=x1,At:=(0:Int) })
def fQ:Nat → (List af) → Option (List af)
 | 0,_=>none
 | F + 1,v0=>Option.bind (bV ([]:List af) v0) fun x2=>Option.bind (iter F (fun (x4:Int × (List af))=>((if (decide (x4.1 < (x2.length:Int))) = true then Option.bind (aH x4.2 x4.1) fun x6=>Option.bind (aH x4.2 x4.1) fun x7=>Option.bind (iy F x7) fun x8=>Option.bind (aH x4.2 x4.1) fun x9=>Option.bind (aH x4.2 x4.1) fun x10=>some (.inl ((IntKind.i64.wrap (x4.1 + (1:Int))),x4.2.set x4.1.toNat x8)) else some (.inr x4.2)):Option ((Int × (List af)) ⊕ (List af)))) ((0:Int),x2)) (fun x12=>some x12)
end
def jU (F:Nat) (v:ae):Option ae:=Option.bind (iter F (fun (x1:Int × ae)=>((if (decide (x1.1 < (3:Int))) = true then Option.bind (aH (ae.al x1.2) x1.1) fun x3=>Option.bind (aH (ae.al x1.2) x1.1) fun x4=>Option.bind (iy F x4) fun x5=>Option.bind (aH (ae.al x1.2) x1.1) fun x6=>Option.bind (aH (ae.al x1.2) x1.1) fun x7=>some (.inl ((IntKind.i64.wrap (x1.1 + (1:Int))),ae.ao ((ae.al x1.2).set x1.1.toNat x5))) else some (.inr x1.2)):Option ((Int × ae) ⊕ ae))) ((0:Int),v)) (fun x9=>some x9)
def fZ (F:Nat) (v0:List ae):Option (List ae):=Option.bind (bV ([]:List ae) v0) fun x2=>Option.bind (iter F (fun (x4:Int × (List ae))=>((if (decide (x4.1 < (x2.length:Int))) = true then Option.bind (aH x4.2 x4.1) fun x6=>Option.bind (aH x4.2 x4.1) fun x7=>Option.bind (jU F x7) fun x8=>Option.bind (aH x4.2 x4.1) fun x9=>Option.bind (aH x4.2 x4.1) fun x10=>some (.inl ((IntKind.i64.wrap (x4.1 + (1:Int))),x4.2.set x4.1.toNat x8)) else some (.inr x4.2)):Option ((Int × (List ae)) ⊕ (List ae)))) ((0:Int),x2)) (fun x12=>some x12)
def lx (F:Nat) (p:bj):Option bj:=Option.bind (jU F p.X) fun x1=>some (⟨x1,p.Turn⟩:bj)
def o2 (F:Nat) (f:aK):Option aK:=Option.bind (fQ F f.X) fun x1=>Option.bind (fZ F f.Points) fun x2=>Option.bind (lx F f.Pose) fun x3=>some (⟨f.Kind,x1,x2,x3,(0:Int)⟩:aK)
def lS (F:Nat) (v0:List aK):Option (List aK):=Option.bind (bV ([]:List aK) v0) fun x2=>Option.bind (iter F (fun (x4:Int × (List aK))=>((if (decide (x4.1 < (x2.length:Int))) = true then Option.bind (aH x4.2 x4.1) fun x6=>Option.bind (aH x4.2 x4.1) fun x7=>Option.bind (o2 F x7) fun x8=>Option.bind (aH x4.2 x4.1) fun x9=>Option.bind (aH x4.2 x4.1) fun x10=>some (.inl ((IntKind.i64.wrap (x4.1 + (1:Int))),x4.2.set x4.1.toNat x8)) else some (.inr x4.2)):Option ((Int × (List aK)) ⊕ (List aK)))) ((0:Int),x2)) (fun x12=>some x12)
def pT (F:Nat) (x:aM):Option aM:=Option.bind (fQ F x.X) fun x1=>Option.bind (fZ F x.Points) fun x2=>Option.bind (lS F x.Fields) fun x3=>some ({ x with X:=x1,Points:=x2,Fields:=x3,At:=(0:Int) })
def nf (F:Nat) (v0:List aM):Option (List aM):=Option.bind (bV ([]:List aM) v0) fun x2=>Option.bind (iter F (fun (x4:Int × (List aM))=>((if (decide (x4.1 < (x2.length:Int))) = true then Option.bind (aH x4.2 x4.1) fun x6=>Option.bind (aH x4.2 x4.1) fun x7=>Option.bind (pT F x7) fun x8=>Option.bind (aH x4.2 x4.1) fun x9=>Option.bind (aH x4.2 x4.1) fun x10=>some (.inl ((IntKind.i64.wrap (x4.1 + (1:Int))),x4.2.set x4.1.toNat x8)) else some (.inr x4.2)):Option ((Int × (List aM)) ⊕ (List aM)))) ((0:Int),x2)) (fun x12=>some x12)
def nc (F:Nat) (v0:List bj):Option (List bj):=Option.bind (bV ([]:List bj) v0) fun x2=>Option.bind (iter F (fun (x4:Int × (List bj))=>((if (decide (x4.1 < (x2.length:Int))) = true then Option.bind (aH x4.2 x4.1) fun x6=>Option.bind (aH x4.2 x4.1) fun x7=>Option.bind (lx F x7) fun x8=>Option.bind (aH x4.2 x4.1) fun x9=>Option.bind (aH x4.2 x4.1) fun x10=>some (.inl ((IntKind.i64.wrap (x4.1 + (1:Int))),x4.2.set x4.1.toNat x8)) else some (.inr x4.2)):Option ((Int × (List bj)) ⊕ (List bj)))) ((0:Int),x2)) (fun x12=>some x12)
mutual
def pS:Nat → ay → Option ay
 | 0,_=>none
 | F + 1,x=>Option.bind (iy F x.X) fun x1=>Option.bind (fP F x.Body) fun x2=>Option.bind (fP F x.Else) fun x3=>Option.bind (nc F x.Poses) fun x4=>some (⟨x.Kind,x.Op,x.Name,x1,x2,x3,x4,(0:Int)⟩:ay)
def fP:Nat → (List ay) → Option (List ay)
 | 0,_=>none
 | F + 1,v0=>Option.bind (bV ([]:List ay) v0) fun x2=>Option.bind (iter F (fun (x4:Int × (List ay))=>((if (decide (x4.1 < (x2.length:Int))) = true then Option.bind (aH x4.2 x4.1) fun x6=>Option.bind (aH x4.2 x4.1) fun x7=>Option.bind (pS F x7) fun x8=>Option.bind (aH x4.2 x4.1) fun x9=>Option.bind (aH x4.2 x4.1) fun x10=>some (.inl ((IntKind.i64.wrap (x4.1 + (1:Int))),x4.2.set x4.1.toNat x8)) else some (.inr x4.2)):Option ((Int × (List ay)) ⊕ (List ay)))) ((0:Int),x2)) (fun x12=>some x12)
end
def uu (F:Nat) (x:Source):Option Source:=Option.bind (nf F x.Items) fun x1=>Option.bind (fP F x.Code) fun x2=>some (⟨x1,x2⟩:Source)
mutual
def cu:Nat → af → af → Option Bool
 | 0,_,_=>none
 | F + 1,v0,b=>bN ((((((decide (v0.Op = b.Op)) && (decide (v0.V = b.V))) && (decide (v0.Unit = b.Unit))) && (decide (v0.Name = b.Name))) && (decide (v0.At = b.At)))) fun x9=>Option.bind (bo x9 (dN F v0.Args b.Args)) fun x10=>some (x9 && x10)
def dN:Nat → (List af) → (List af) → Option Bool
 | 0,_,_=>none
 | F + 1,v0,b=>(if (decide ((v0.length:Int) ≠ (b.length:Int))) = true then some false else Option.bind (iter F (fun (x4:Int)=>((if (decide (x4 < (v0.length:Int))) = true then Option.bind (aH v0 x4) fun x7=>Option.bind (aH b x4) fun x8=>Option.bind (cu F x7 x8) fun x9=>(if (!x9) = true then some (.inr (.inr false)) else some (.inl (IntKind.i64.wrap (x4 + (1:Int))))) else some (.inr (.inl ()))):Option (Int ⊕ (Unit ⊕ Bool)))) (0:Int)) (ee (fun x12=>some true) (fun x13=>some x13)))
end
def dG (F:Nat) (v0:ae) (b:ae):Option Bool:=Option.bind (cu F v0.a0 b.a0) fun x1=>Option.bind (bo x1 (aH (ae.al v0) (1:Int))) fun x2=>Option.bind (bo x1 (aH (ae.al v0) (1:Int))) fun x3=>Option.bind (bo x1 (aH (ae.al b) (1:Int))) fun x4=>Option.bind (bo x1 (aH (ae.al b) (1:Int))) fun x5=>Option.bind (bo x1 (cu F x3 x5)) fun x6=>bN ((x1 && x6)) fun x7=>Option.bind (bo x7 (aH (ae.al v0) (2:Int))) fun x8=>Option.bind (bo x7 (aH (ae.al v0) (2:Int))) fun x9=>Option.bind (bo x7 (aH (ae.al b) (2:Int))) fun x10=>Option.bind (bo x7 (aH (ae.al b) (2:Int))) fun x11=>Option.bind (bo x7 (cu F x9 x11)) fun x12=>some (x7 && x12)
def fj (F:Nat) (v0:List ae) (b:List ae):Option Bool:=(if (decide ((v0.length:Int) ≠ (b.length:Int))) = true then some false else Option.bind (iter F (fun (x4:Int)=>((if (decide (x4 < (v0.length:Int))) = true then Option.bind (aH v0 x4) fun x7=>Option.bind (aH b x4) fun x8=>Option.bind (dG F x7 x8) fun x9=>(if (!x9) = true then some (.inr (.inr false)) else some (.inl (IntKind.i64.wrap (x4 + (1:Int))))) else some (.inr (.inl ()))):Option (Int ⊕ (Unit ⊕ Bool)))) (0:Int)) (ee (fun x12=>some true) (fun x13=>some x13)))
def jc (F:Nat) (v0:List aK) (b:List aK):Option Bool:=(if (decide ((v0.length:Int) ≠ (b.length:Int))) = true then some false else Option.bind (iter F (fun (x4:Int)=>((if (decide (x4 < (v0.length:Int))) = true then Option.bind (aH v0 x4) fun x7=>Option.bind (aH b x4) fun x8=>bN (((decide (x7.Kind ≠ x8.Kind)) || (decide (x7.At ≠ x8.At)))) fun x11=>Option.bind (bo (!x11) (dN F x7.X x8.X)) fun x12=>bN ((x11 || (!x12))) fun x14=>Option.bind (bo (!x14) (fj F x7.Points x8.Points)) fun x15=>bN (((x14 || (!x15)) || (!(decide (x7.Pose.Turn = x8.Pose.Turn))))) fun x19=>Option.bind (bo (!x19) (dG F x7.Pose.X x8.Pose.X)) fun x20=>(if (x19 || (!x20)) = true then some (.inr (.inr false)) else some (.inl (IntKind.i64.wrap (x4 + (1:Int))))) else some (.inr (.inl ()))):Option (Int ⊕ (Unit ⊕ Bool)))) (0:Int)) (ee (fun x24=>some true) (fun x25=>some x25)))
def dM:Nat → (List ay) → (List ay) → Option Bool
 | 0,_,_=>none
 | F + 1,v0,b=>(if (decide ((v0.length:Int) ≠ (b.length:Int))) = true then some false else Option.bind (iter F (fun (x4:Int)=>((if (decide (x4 < (v0.length:Int))) = true then Option.bind (aH v0 x4) fun x7=>Option.bind (aH b x4) fun x8=>bN (((((decide (x7.Kind ≠ x8.Kind)) || (decide (x7.Op ≠ x8.Op))) || (decide (x7.Name ≠ x8.Name))) || (decide (x7.At ≠ x8.At)))) fun x15=>Option.bind (bo (!x15) (cu F x7.X x8.X)) fun x16=>bN ((x15 || (!x16))) fun x18=>Option.bind (bo (!x18) (dM F x7.Body x8.Body)) fun x19=>bN ((x18 || (!x19))) fun x21=>Option.bind (bo (!x21) (dM F x7.Else x8.Else)) fun x22=>(if ((x21 || (!x22)) || (decide ((x7.Poses.length:Int) ≠ (x8.Poses.length:Int)))) = true then some (.inr (.inr false)) else Option.bind (iter F (fun (x29:Int)=>((if (decide (x29 < (x7.Poses.length:Int))) = true then Option.bind (aH x7.Poses x29) fun x32=>Option.bind (aH x8.Poses x29) fun x33=>bN (!(decide (x32.Turn = x33.Turn))) fun x34=>Option.bind (bo (!x34) (aH x7.Poses x29)) fun x35=>Option.bind (bo (!x34) (aH x8.Poses x29)) fun x36=>Option.bind (bo (!x34) (dG F x35.X x36.X)) fun x37=>(if (x34 || (!x37)) = true then some (.inr (.inr false)) else some (.inl (IntKind.i64.wrap (x29 + (1:Int))))) else some (.inr (.inl ()))):Option (Int ⊕ (Unit ⊕ Bool)))) (0:Int)) (ee (fun x41=>some (.inl (IntKind.i64.wrap (x4 + (1:Int))))) (fun x43=>some (.inr (.inr x43))))) else some (.inr (.inl ()))):Option (Int ⊕ (Unit ⊕ Bool)))) (0:Int)) (ee (fun x44=>some true) (fun x45=>some x45)))
def mT (F:Nat) (v0:Source) (b:Source):Option Bool:=(if (decide ((v0.Items.length:Int) ≠ (b.Items.length:Int))) = true then some false else Option.bind (iter F (fun (x4:Int)=>((if (decide (x4 < (v0.Items.length:Int))) = true then Option.bind (aH v0.Items x4) fun x7=>Option.bind (aH b.Items x4) fun x8=>bN (((((((decide (x7.Kind ≠ x8.Kind)) || (decide (x7.Thing ≠ x8.Thing))) || (decide (x7.Name ≠ x8.Name))) || (decide (x7.A ≠ x8.A))) || (decide (x7.B ≠ x8.B))) || (decide (x7.At ≠ x8.At)))) fun x19=>Option.bind (bo (!x19) (dN F x7.X x8.X)) fun x20=>bN ((x19 || (!x20))) fun x22=>Option.bind (bo (!x22) (fj F x7.Points x8.Points)) fun x23=>bN ((x22 || (!x23))) fun x25=>Option.bind (bo (!x25) (jc F x7.Fields x8.Fields)) fun x26=>(if (x25 || (!x26)) = true then some (.inr (.inr false)) else some (.inl (IntKind.i64.wrap (x4 + (1:Int))))) else some (.inr (.inl ()))):Option (Int ⊕ (Unit ⊕ Bool)))) (0:Int)) (ee (fun x30=>Option.bind (dM F v0.Code b.Code) fun x31=>some x31) (fun x32=>some x32)))
def ib (F:Nat) (s:Str) (want:Source):Option Bool:=Option.bind (gw F s) fun x1=>bN (decide (x1.2 = (⟨(0:Int),(0:Int)⟩:Problem))) fun x2=>Option.bind (bo x2 (uu F x1.1)) fun x3=>Option.bind (bo x2 (mT F x3 want)) fun x4=>some (x2 && x4)
def eR (F:Nat) (c:Int) (b1:aB) (b2:List Int):Option (Unit × aB × (List Int)):=Option.bind (Fy F b1 b2) fun x1=>Option.bind (bV x1.2 ([c]:List Int)) fun x3=>some ((),x1.1,x3)
def dZ (F:Nat) (b1:aB) (b2:List Int):Option (aB × (List Int)):=Option.bind (eR F (10:Int) b1 b2) fun x1=>some ({ x1.2.1 with fresh:=true,brace:=false },x1.2.2)
def dI (F:Nat) (s:Str) (b1:aB) (b2:List Int):Option (Int × Unit × aB × (List Int)):=Option.bind (Fy F b1 b2) fun x1=>Option.bind (Bu x1.2 s) fun x2=>some ((s.length:Int),(),x1.1,x2)
def aL (F:Nat) (v1:List Str) (b1:aB) (b2:List Int):Option (aB × (List Int)):=Option.bind (iter F (fun (x2:Int × aB × (List Int))=>((if (decide (x2.1 < (v1.length:Int))) = true then Option.bind (aH v1 x2.1) fun x4=>Option.bind ((if (x2.2.1.brace && (decide (x4 ≠ ([101,108,115,101]:Str)))) = true then Option.bind (dZ F x2.2.1 x2.2.2) fun x7=>some (x7.1,x7.2) else some (x2.2.1,x2.2.2)):Option (aB × (List Int))) fun x8=>Option.bind ((if (decide (x4 = ([125]:Str))) = true then some ({ x8.1 with depth:=(IntKind.i64.wrap (x8.1.depth - (1:Int))),brace:=false }) else some ({ x8.1 with brace:=false })):Option (aB)) fun x11=>Option.bind ((if x11.fresh = true then Option.bind (eY F ([32,32]:Str) x11.depth) fun x12=>Option.bind (dI F x12 x11 x8.2) fun x13=>some (x13.2.2.1,x13.2.2.2) else (if ((((!x11.close) && (decide (x4 ≠ ([41]:Str)))) && (decide (x4 ≠ ([44]:Str)))) && (decide (x4 ≠ ([59]:Str)))) = true then Option.bind (eR F (32:Int) x11 x8.2) fun x21=>some (x21.2.1,x21.2.2) else some (x11,x8.2))):Option (aB × (List Int))) fun x22=>Option.bind (dI F x4 x22.1 x22.2) fun x23=>bN (decide (x4 = ([40]:Str))) fun x24=>bN (decide (x4 = ([125]:Str))) fun x25=>Option.bind ((if (decide (x4 = ([123]:Str))) = true then some (⟨x23.2.2.1.w,x23.2.2.1.buf,(IntKind.i64.wrap (x23.2.2.1.depth + (1:Int))),false,x24,x25,x23.2.2.1.bad⟩:aB) else some ({ x23.2.2.1 with fresh:=false,close:=x24,brace:=x25 })):Option (aB)) fun x28=>(if ((decide (x4 = ([123]:Str))) || (decide (x4 = ([59]:Str)))) = true then Option.bind (dZ F x28 x23.2.2.2) fun x32=>some (.inl ((IntKind.i64.wrap (x2.1 + (1:Int))),x32.1,x32.2)) else some (.inl ((IntKind.i64.wrap (x2.1 + (1:Int))),x28,x23.2.2.2))) else some (.inr (x2.2.1,x2.2.2))):Option ((Int × aB × (List Int)) ⊕ (aB × (List Int))))) ((0:Int),b1,b2)) (fun x35=>some (x35.1,x35.2))
def c8 (F:Nat) (ok:Bool) (b1:aB) (b2:List Int):Option (aB × (List Int)):=some ({ b1 with bad:=(b1.bad || (!ok)) },b2)
def rY (F:Nat) (s:Str):Option Bool:=Option.bind (eh F s) fun x1=>bN (((decide (x1.2.E = (0:Int))) && (decide ((x1.1.length:Int) = (1:Int))))) fun x5=>Option.bind (bo x5 (aH x1.1 (0:Int))) fun x6=>bN ((x5 && (decide (x6.Kind = (2:Int))))) fun x8=>Option.bind (bo x8 (aH x1.1 (0:Int))) fun x9=>some (x8 && (decide (x9.S = s)))
def ig (F:Nat) (s:Str) (b1:aB) (b2:List Int):Option (aB × (List Int)):=Option.bind (rY F s) fun x1=>Option.bind (c8 F x1 b1 b2) fun x2=>Option.bind (aL F ([s]:List Str) x2.1 x2.2) fun x4=>some (x4.1,x4.2)
def rX (F:Nat) (op:Int):Option Str:=some ((dY ([((5:Int),([43]:Str)),((6:Int),([45]:Str)),((7:Int),([42]:Str)),((8:Int),([47]:Str)),((10:Int),([60]:Str)),((11:Int),([62,61]:Str)),((12:Int),([62]:Str)),((13:Int),([60,61]:Str)),((14:Int),([61,61]:Str)),((15:Int),([33,61]:Str)),((16:Int),([97,110,100]:Str)),((17:Int),([111,114]:Str))]:List (Int × Str)) op).getD ([]:Str))
def rp (F:Nat) (x:ed):Option Bool:=Option.bind (ln F x.N) fun x1=>Option.bind (bo x1 (ln F x.D)) fun x2=>bN ((x1 && x2)) fun x3=>Option.bind (bo x3 (jt F x.D)) fun x4=>bN ((x3 && (decide ((0:Int) < x4)))) fun x6=>Option.bind (bo x6 (sS F x.N x.D)) fun x7=>Option.bind (bo x6 (pK F)) fun x8=>some (x6 && (decide (x7 = x8)))
def wk (F:Nat) (x:ed):Option Int:=Option.bind (rp F x) fun x1=>(if (!x1) = true then some (0:Int) else Option.bind (jt F x.N) fun x3=>some x3)
def uq (F:Nat) (n:bb):Option ed:=Option.bind (pK F) fun x1=>Option.bind (rn F n x1) fun x2=>some x2
def Ah (F:Nat) (n:Int):Option ed:=Option.bind (fX F n) fun x1=>Option.bind (uq F x1) fun x2=>some x2
def qG (F:Nat) (x:ed):Option Str:=Option.bind (rp F x) fun x1=>bN (!x1) fun x2=>Option.bind (bo (!x2) (wk F x)) fun x3=>(if (x2 || (decide (x3 < (0:Int)))) = true then some ([]:Str) else Option.bind (iter F (fun (x6:Unit)=>((if (decide ((0:Int) < (41:Int))) = true then Option.bind (fX F (1:Int)) fun x8=>(if (!(decide (x.D = x8))) = true then Option.bind (Ah F (10:Int)) fun x10=>none else Option.bind (ot F x.N) fun x11=>Option.bind (eY F ([48]:Str) (max (0:Int) (IntKind.i64.wrap ((IntKind.i64.wrap ((0:Int) + (1:Int))) - (x11.length:Int))))) fun x16=>Option.bind (bV x16 x11) fun x17=>(if (decide ((40:Int) < (x17.length:Int))) = true then some (.inr (.inr ([]:Str))) else (if (decide ((0:Int) = (0:Int))) = true then some (.inr (.inr x17)) else Option.bind (sA x17 (IntKind.i64.wrap ((x17.length:Int) - (0:Int)))) fun x23=>Option.bind (bV x23 ([46]:Str)) fun x24=>Option.bind (rR x17 (IntKind.i64.wrap ((x17.length:Int) - (0:Int)))) fun x27=>Option.bind (bV x24 x27) fun x28=>some (.inr (.inr x28))))) else some (.inr (.inl ()))):Option (Unit ⊕ (Unit ⊕ Str)))) ()) (ee (fun x29=>some ([]:Str)) (fun x30=>some x30)))
mutual
def cT:Nat → af → aB → (List Int) → Option (aB × (List Int))
 | 0,_,_,_=>none
 | F + 1,x,b1,b2=>(if (decide (x.Op < (5:Int))) = true then Option.bind (dS F x b1 b2) fun x2=>some (x2.1,x2.2) else Option.bind (aL F ([([40]:Str)]:List Str) b1 b2) fun x4=>Option.bind (dS F x x4.1 x4.2) fun x5=>Option.bind (aL F ([([41]:Str)]:List Str) x5.1 x5.2) fun x7=>some (x7.1,x7.2))
def dS:Nat → af → aB → (List Int) → Option (aB × (List Int))
 | 0,_,_,_=>none
 | F + 1,x,b1,b2=>bN (decide (x.Op = (1:Int))) fun x1=>Option.bind (c8 F ((x1 || ((decide (x.V = (⟨(⟨false,false,(⟨(0:Int),(0:Int),(0:Int),(0:Int),(0:Int),(0:Int),(0:Int),(0:Int),(0:Int),(0:Int),(0:Int),(0:Int),(0:Int),(0:Int),(0:Int),(0:Int)⟩:aX)⟩:bb),(⟨false,false,(⟨(0:Int),(0:Int),(0:Int),(0:Int),(0:Int),(0:Int),(0:Int),(0:Int),(0:Int),(0:Int),(0:Int),(0:Int),(0:Int),(0:Int),(0:Int),(0:Int)⟩:aX)⟩:bb)⟩:ed))) && (decide (x.Unit = ([]:Str))))) && ((decide (x.Op = (2:Int))) || (decide (x.Name = ([]:Str))))) b1 b2) fun x10=>Option.bind (rX F x.Op) fun x11=>Option.bind ((if (decide (x11 ≠ ([]:Str))) = true then some (2:Int) else Option.bind (bN (decide (x.Op = (9:Int))) fun x13=>(if x13 = true then some x13 else some (decide (x.Op = (18:Int)))):Option (Bool)) fun x15=>(if x15 = true then some (1:Int) else some (0:Int))):Option (Int)) fun x16=>Option.bind (c8 F (decide ((x.Args.length:Int) = x16)) x10.1 x10.2) fun x19=>(if (decide ((x.Args.length:Int) ≠ x16)) = true then some (x19.1,x19.2) else (if x1 = true then Option.bind (qG F x.V) fun x22=>bN (decide (x22 ≠ ([]:Str))) fun x23=>Option.bind (bo x23 (kA F x.Unit)) fun x24=>Option.bind (c8 F (x23 && x24) x19.1 x19.2) fun x26=>Option.bind (aL F ([x22]:List Str) x26.1 x26.2) fun x28=>(if (decide (x.Unit ≠ ([]:Str))) = true then Option.bind (bV ([91]:Str) x.Unit) fun x30=>Option.bind (bV x30 ([93]:Str)) fun x31=>Option.bind (aL F ([x31]:List Str) x28.1 x28.2) fun x33=>some (x33.1,x33.2) else some (x28.1,x28.2)) else (if (decide (x.Op = (2:Int))) = true then Option.bind (ig F x.Name x19.1 x19.2) fun x35=>some (x35.1,x35.2) else (if (decide (x.Op = (3:Int))) = true then Option.bind (aL F ([([116,114,117,101]:Str)]:List Str) x19.1 x19.2) fun x38=>some (x38.1,x38.2) else (if (decide (x.Op = (4:Int))) = true then Option.bind (aL F ([([102,97,108,115,101]:Str)]:List Str) x19.1 x19.2) fun x41=>some (x41.1,x41.2) else (if (decide (x.Op = (9:Int))) = true then Option.bind (aL F ([([45]:Str)]:List Str) x19.1 x19.2) fun x44=>Option.bind (aH x.Args (0:Int)) fun x45=>Option.bind (cT F x45 ({ x44.1 with close:=true }) x44.2) fun x46=>some (x46.1,x46.2) else (if (decide (x.Op = (18:Int))) = true then Option.bind (aL F ([([110,111,116]:Str)]:List Str) x19.1 x19.2) fun x49=>Option.bind (aH x.Args (0:Int)) fun x50=>Option.bind (cT F x50 x49.1 x49.2) fun x51=>some (x51.1,x51.2) else (if (decide (x11 ≠ ([]:Str))) = true then Option.bind (aH x.Args (0:Int)) fun x53=>Option.bind (cT F x53 x19.1 x19.2) fun x54=>Option.bind (aL F ([x11]:List Str) x54.1 x54.2) fun x56=>Option.bind (aH x.Args (1:Int)) fun x57=>Option.bind (cT F x57 x56.1 x56.2) fun x58=>some (x58.1,x58.2) else some ({ x19.1 with bad:=true },x19.2)))))))))
end
mutual
def gV:Nat → (List ay) → aB → (List Int) → Option (aB × (List Int))
 | 0,_,_,_=>none
 | F + 1,v1,b1,b2=>Option.bind (aL F ([([123]:Str)]:List Str) b1 b2) fun x2=>Option.bind (iter F (fun (x4:Int × aB × (List Int))=>((if (decide (x4.1 < (v1.length:Int))) = true then Option.bind (aH v1 x4.1) fun x6=>Option.bind (fu F x6 x4.2.1 x4.2.2) fun x7=>some (.inl ((IntKind.i64.wrap (x4.1 + (1:Int))),x7.1,x7.2)) else some (.inr (x4.2.1,x4.2.2))):Option ((Int × aB × (List Int)) ⊕ (aB × (List Int))))) ((0:Int),x2.1,x2.2)) (fun x9=>Option.bind (aL F ([([125]:Str)]:List Str) x9.1 x9.2) fun x11=>some (x11.1,x11.2))
def fu:Nat → ay → aB → (List Int) → Option (aB × (List Int))
 | 0,_,_,_=>none
 | F + 1,x,b1,b2=>bN (((decide (x.Kind = (3:Int))) || (decide (x.Kind = (4:Int))))) fun x6=>Option.bind (c8 F (((((decide (x.Kind = (5:Int))) || ((decide (x.Op = (0:Int))) && (decide ((x.Poses.length:Int) = (0:Int))))) && (x6 || (decide ((x.Body.length:Int) = (0:Int))))) && ((decide (x.Kind = (4:Int))) || (decide ((x.Else.length:Int) = (0:Int))))) && ((!x6) || (decide (x.Name = ([]:Str))))) b1 b2) fun x26=>Option.bind ((if ((decide (x.Kind = (1:Int))) || (decide (x.Kind = (2:Int)))) = true then Option.bind (aL F ([((dY ([((1:Int),([108,101,116]:Str)),((2:Int),([115,101,116]:Str))]:List (Int × Str)) x.Kind).getD ([]:Str))]:List Str) x26.1 x26.2) fun x29=>Option.bind (ig F x.Name x29.1 x29.2) fun x30=>Option.bind (aL F ([([61]:Str)]:List Str) x30.1 x30.2) fun x32=>Option.bind (dS F x.X x32.1 x32.2) fun x33=>some (.inl (x33.1,x33.2)) else (if x6 = true then Option.bind (aL F ([((dY ([((3:Int),([114,101,112,101,97,116]:Str)),((4:Int),([105,102]:Str))]:List (Int × Str)) x.Kind).getD ([]:Str))]:List Str) x26.1 x26.2) fun x36=>Option.bind (dS F x.X x36.1 x36.2) fun x37=>Option.bind (gV F x.Body x37.1 x37.2) fun x38=>bN (decide ((x.Else.length:Int) = (1:Int))) fun x40=>Option.bind (bo x40 (aH x.Else (0:Int))) fun x41=>(if (x40 && (decide (x41.Kind = (4:Int)))) = true then Option.bind (aL F ([([101,108,115,101]:Str)]:List Str) x38.1 x38.2) fun x45=>Option.bind (aH x.Else (0:Int)) fun x46=>Option.bind (fu F x46 x45.1 x45.2) fun x47=>some (.inr (x47.1,x47.2)) else (if (decide ((0:Int) < (x.Else.length:Int))) = true then Option.bind (aL F ([([101,108,115,101]:Str)]:List Str) x38.1 x38.2) fun x51=>Option.bind (gV F x.Else x51.1 x51.2) fun x52=>some (.inr (x52.1,x52.2)) else some (.inr (x38.1,x38.2)))) else (if (decide (x.Kind = (5:Int))) = true then none else some (.inl ({ x26.1 with bad:=true },x26.2))))):Option ((aB × (List Int)) ⊕ (aB × (List Int)))) (ee (fun x54=>Option.bind (aL F ([([59]:Str)]:List Str) x54.1 x54.2) fun x56=>some (x56.1,x56.2)) (fun x57=>some (x57.1,x57.2)))
end
def iz (F:Nat) (b1:aB) (b2:List Int):Option (Str × aB × (List Int)):=Option.bind (Dj (!b2.isEmpty)) fun x1=>Option.bind (Dj (decide ((b2.length:Int) = (b2.length:Int)) && !b2.isEmpty)) fun x3=>some ((toStr b2),b1,([]:List Int))
def qH (F:Nat) (s:Str):Option Problem:=Option.bind (gw F s) fun x1=>some x1.2
def lR (F:Nat) (b1:aB) (b2:List Int):Option (Str × Int × aB × (List Int)):=Option.bind ((if b1.brace = true then Option.bind (dZ F b1 b2) fun x1=>some (x1.1,x1.2) else some (b1,b2)):Option (aB × (List Int))) fun x2=>Option.bind (iz F x2.1 x2.2) fun x3=>(if x3.2.1.bad = true then some (([]:Str),(3:Int),x3.2.1,x3.2.2) else Option.bind (qH F x3.1) fun x4=>(if (decide (x4.E ≠ (0:Int))) = true then some (([]:Str),(2:Int),x3.2.1,x3.2.2) else some (x3.1,(0:Int),x3.2.1,x3.2.2)))
def sZ (F:Nat) (x:Source):Option (Str × Int):=Option.bind (aL F ([([121,97,114,100]:Str),([123]:Str)]:List Str) (⟨false,([]:List Int),(0:Int),true,false,false,false⟩:aB) ([]:List Int)) fun x2=>Option.bind (iter F (fun (x4:Unit)=>((if (decide ((0:Int) < (x.Items.length:Int))) = true then Option.bind (aH x.Items (0:Int)) fun x6=>none else some (.inr ())):Option (Unit ⊕ Unit))) ()) (fun x7=>Option.bind (aL F ([([125]:Str)]:List Str) x2.1 x2.2) fun x9=>Option.bind (iter F (fun (x11:Int × aB × (List Int))=>((if (decide (x11.1 < (x.Code.length:Int))) = true then Option.bind (aH x.Code x11.1) fun x13=>Option.bind (fu F x13 x11.2.1 x11.2.2) fun x14=>some (.inl ((IntKind.i64.wrap (x11.1 + (1:Int))),x14.1,x14.2)) else some (.inr (x11.2.1,x11.2.2))):Option ((Int × aB × (List Int)) ⊕ (aB × (List Int))))) ((0:Int),x9.1,x9.2)) (fun x16=>Option.bind (lR F x16.1 x16.2) fun x17=>some (x17.1,x17.2.1)))
def eG (F:Nat) (s:Str) (pos:Int) (e:Int):Option Bool:=Option.bind (gw F s) fun x1=>some (decide (x1.2 = (⟨pos,e⟩:Problem)))
def dz (F:Nat)  : Option Bool:=Option.bind (dA F (2:Int) (1:Int) ([]:Str)) fun x1=>Option.bind (dA F (3:Int) (1:Int) ([]:Str)) fun x2=>Option.bind (dA F (1:Int) (1:Int) ([]:Str)) fun x4=>bN (([(⟨(1:Int),(0:Int),([97]:Str),(⟨(5:Int),(⟨(⟨false,false,(⟨(0:Int),(0:Int),(0:Int),(0:Int),(0:Int),(0:Int),(0:Int),(0:Int),(0:Int),(0:Int),(0:Int),(0:Int),(0:Int),(0:Int),(0:Int),(0:Int)⟩:aX)⟩:bb),(⟨false,false,(⟨(0:Int),(0:Int),(0:Int),(0:Int),(0:Int),(0:Int),(0:Int),(0:Int),(0:Int),(0:Int),(0:Int),(0:Int),(0:Int),(0:Int),(0:Int),(0:Int)⟩:aX)⟩:bb)⟩:ed),([]:Str),([]:Str),([x4,(⟨(7:Int),(⟨(⟨false,false,(⟨(0:Int),(0:Int),(0:Int),(0:Int),(0:Int),(0:Int),(0:Int),(0:Int),(0:Int),(0:Int),(0:Int),(0:Int),(0:Int),(0:Int),(0:Int),(0:Int)⟩:aX)⟩:bb),(⟨false,false,(⟨(0:Int),(0:Int),(0:Int),(0:Int),(0:Int),(0:Int),(0:Int),(0:Int),(0:Int),(0:Int),(0:Int),(0:Int),(0:Int),(0:Int),(0:Int),(0:Int)⟩:aX)⟩:bb)⟩:ed),([]:Str),([]:Str),([x1,x2]:List af),(0:Int)⟩:af)]:List af),(0:Int)⟩:af),([]:List ay),([]:List ay),([]:List bj),(0:Int)⟩:ay)]:List ay)) fun x6=>Option.bind (dA F (981:Int) (100:Int) ([109,47,115,94,50]:Str)) fun x7=>Option.bind (ib F ([121,97,114,100,32,123,32,125,32,108,101,116,32,97,32,61,32,49,32,43,32,50,32,42,32,51,59]:Str) (⟨([]:List aM),x6⟩:Source)) fun x11=>Option.bind (bo x11 (ib F ([121,97,114,100,32,123,32,103,114,97,118,105,116,121,32,57,46,56,49,32,91,109,47,115,94,50,93,59,32,125,32,112,97,117,115,101,59]:Str) (⟨([(⟨(1:Int),(0:Int),([]:Str),([]:Str),([]:Str),([x7]:List af),([]:List ae),([]:List aK),(0:Int)⟩:aM)]:List aM),([(⟨(5:Int),(7:Int),([]:Str),(⟨(0:Int),(⟨(⟨false,false,(⟨(0:Int),(0:Int),(0:Int),(0:Int),(0:Int),(0:Int),(0:Int),(0:Int),(0:Int),(0:Int),(0:Int),(0:Int),(0:Int),(0:Int),(0:Int),(0:Int)⟩:aX)⟩:bb),(⟨false,false,(⟨(0:Int),(0:Int),(0:Int),(0:Int),(0:Int),(0:Int),(0:Int),(0:Int),(0:Int),(0:Int),(0:Int),(0:Int),(0:Int),(0:Int),(0:Int),(0:Int)⟩:aX)⟩:bb)⟩:ed),([]:Str),([]:Str),([]:List af),(0:Int)⟩:af),([]:List ay),([]:List ay),([]:List bj),(0:Int)⟩:ay)]:List ay)⟩:Source))) fun x12=>Option.bind (sZ F (⟨([]:List aM),x6⟩:Source)) fun x14=>Option.bind (gw F ([121,97,114,100,32,123,32,112,114,111,112,32,112,32,123,32,98,111,120,32,40,48,44,32,48,44,32,48,41,32,116,111,32,40,49,44,32,49,44,32,50,41,59,32,109,97,115,115,32,49,32,91,107,103,93,32,46,46,32,50,32,91,107,103,93,59,32,97,116,32,40,48,44,32,48,44,32,48,41,32,116,117,114,110,32,40,49,44,32,48,44,32,48,44,32,45,49,41,59,32,125,32,125,32,112,108,97,99,101,32,112,32,98,121,32,40,49,44,32,50,44,32,51,41,44,32,40,49,44,32,50,44,32,50,41,59]:Str)) fun x18=>bN (((decide (x18.2 = (⟨(0:Int),(0:Int)⟩:Problem))) && (decide ((x18.1.Items.length:Int) = (1:Int))))) fun x22=>Option.bind (bo x22 (aH x18.1.Items (0:Int))) fun x23=>bN (((x22 && (decide ((x23.Fields.length:Int) = (3:Int)))) && (decide ((x18.1.Code.length:Int) = (1:Int))))) fun x29=>Option.bind (bo x29 (aH x18.1.Code (0:Int))) fun x30=>bN ((x29 && (decide (x30.Op = (1:Int))))) fun x32=>Option.bind (bo x32 (aH x18.1.Code (0:Int))) fun x33=>bN ((((x11 && x12) && ((decide (x14.2 = (0:Int))) && (decide (x14.1 = ([121,97,114,100,32,123,10,125,10,108,101,116,32,97,32,61,32,49,32,43,32,40,50,32,42,32,51,41,59,10]:Str))))) && (x32 && (decide ((x33.Poses.length:Int) = (2:Int)))))) fun x38=>Option.bind (bo x38 (eG F ([121,97,114,100,32,123,32,125,32,108,101,116,32,97,32,61,32,59]:Str) (17:Int) (280:Int))) fun x39=>bN ((x38 && x39)) fun x40=>Option.bind (bo x40 (eG F ([121,97,114,100,32,123,32,125,32,114,117,110,32,49]:Str) (14:Int) (280:Int))) fun x41=>bN ((x40 && x41)) fun x42=>Option.bind (bo x42 (eG F ([121,97,114,100,32,123,32,125,32,112,108,97,99,101,32,112,32,98,121,32,40,48,44,32,48,44,32,48,41,32,116,117,114,110,32,40,49,44,32,48,44,32,48,44,32,54,53,41,59]:Str) (45:Int) (281:Int))) fun x43=>some (x42 && x43)
def cF (F:Nat) (n:Int):Option Bool:=Option.bind (nD (IntKind.i64.wrap n) (100:Int)) fun x2=>Option.bind (iter F (fun (x3:Str × Str × Str × Str × Int)=>((if (decide (x3.2.2.2.2 < x2)) = true then Option.bind (bV x3.1 ([40]:Str)) fun x5=>Option.bind (bV x3.2.1 ([41]:Str)) fun x6=>Option.bind (bV x3.2.2.1 ([45]:Str)) fun x7=>Option.bind (bV x3.2.2.2.1 ([110,111,116,32]:Str)) fun x8=>some (.inl (x5,x6,x7,x8,(IntKind.i64.wrap (x3.2.2.2.2 + (1:Int))))) else some (.inr (x3.1,x3.2.1,x3.2.2.1,x3.2.2.2.1))):Option ((Str × Str × Str × Str × Int) ⊕ (Str × Str × Str × Str)))) (([]:Str),([]:Str),([]:Str),([]:Str),(0:Int))) (fun x10=>Option.bind (bV x10.1 ([49]:Str)) fun x11=>Option.bind (bV x11 x10.2.1) fun x12=>Option.bind (eV F x12) fun x13=>Option.bind (bV x10.2.2.1 ([32,49]:Str)) fun x14=>Option.bind (eV F x14) fun x15=>Option.bind (bV x10.2.2.2 ([97]:Str)) fun x16=>Option.bind (eV F x16) fun x17=>(if (decide (x2 ≤ (40:Int))) = true then Option.bind (dz F) fun x19=>some (((x19 && (decide (x13.2 = (⟨(0:Int),(0:Int)⟩:Problem)))) && (decide (x15.2 = (⟨(0:Int),(0:Int)⟩:Problem)))) && (decide (x17.2 = (⟨(0:Int),(0:Int)⟩:Problem)))) else Option.bind ((if (decide (x2 = (41:Int))) = true then some (IntKind.i64.wrap ((41:Int) + (1:Int))) else some (41:Int)):Option (Int)) fun x28=>Option.bind (dz F) fun x29=>some (((x29 && (decide (x13.2 = (⟨(41:Int),(2:Int)⟩:Problem)))) && (decide (x15.2 = (⟨x28,(2:Int)⟩:Problem)))) && (decide (x17.2 = (⟨(IntKind.i64.wrap ((4:Int) * (41:Int))),(2:Int)⟩:Problem))))))
end Go.Dn
namespace Go.Dn
open Go Go.Sk Go.Proofs
open X
set_option linter.unusedVariables false
set_option maxRecDepth 100000
variable {mx:Int}
def cN (F:Nat):bJ DD pk:=⟨146,[.d (.sl (.int .i64))],[],[],[],[.sl (.int .i64)],true,false,false,false,fun a l=>b7 F a.1⟩
theorem dm (F:Nat):av Tryz.prog (aw mx) (cN F):=ak (B0:=BB) (L:=LL) (G:=[]) 21 ⟨Tryz.call146⟩ Tryz.func146 Tryz.ntmps146 rfl (Nat.le_of_ble_eq_true rfl) rfl trivial (.two (.no) (.two (.no) (.two (.loop ⟨[0],[],[]⟩ [.s 3 (.int .i64)] [(.x (some 0),[.s 3 (.int .i64)])] (.no)) (.no)))) [] F fun a l=>by kernel_rfl
def cY (F:Nat):bJ DD pk:=⟨140,[],[],[],[],[.st .bb],true,false,false,false,fun a l=>cW F⟩
theorem dJ (F:Nat):av Tryz.prog (aw mx) (cY F):=ak (B0:=BB) (L:=LL) (G:=[]) 2 ⟨Tryz.call140⟩ Tryz.func140 Tryz.ntmps140 rfl (Nat.le_of_ble_eq_true rfl) rfl trivial (.no) [] F fun a l=>by kernel_rfl
def cQ (F:Nat):bJ DD pk:=⟨102,[.d (.bool),.d (.sl (.int .i64))],[],[],[],[.st .bb],true,false,false,false,fun a l=>cg F a.1 a.2.1⟩
theorem dB (F:Nat):av Tryz.prog (aw mx) (cQ F):=ak (B0:=BB) (L:=LL) (G:=[cN F,cY F]) 62 ⟨Tryz.call102⟩ Tryz.func102 Tryz.ntmps102 rfl (Nat.le_of_ble_eq_true rfl) rfl ⟨dm F,dJ F,trivial⟩ (.two (.no) (.two (.no) (.two (.no) (.two (.no) (.two (.two (.no) (.loop ⟨[4,5,6],[104],[]⟩ [.s 7 (.int .i64),.b 106 25 (.st .bb)] [(.x (some 0),[.b 106 25 (.st .bb)])] (.two (.no) (.two (.two (.no) (.two (.hY [⟨0,[7],[]⟩,⟨1,[30],[]⟩,⟨2,[7],[]⟩,⟨3,[32],[]⟩,⟨4,[6],[]⟩,⟨5,[33,34],[106]⟩,⟨6,[35],[106]⟩,⟨7,[5],[]⟩,⟨8,[7],[]⟩,⟨9,[37,38],[]⟩,⟨10,[39],[]⟩,⟨11,[40],[]⟩,⟨12,[36,41],[]⟩,⟨13,[6],[]⟩] [14,15] []) (.hY [⟨0,[7],[]⟩,⟨1,[45],[]⟩,⟨2,[7],[]⟩,⟨3,[47],[]⟩,⟨4,[6],[]⟩,⟨5,[48,49],[106]⟩,⟨6,[50],[106]⟩,⟨7,[5],[]⟩,⟨8,[7],[]⟩,⟨9,[52,53],[]⟩,⟨10,[54],[]⟩,⟨11,[55],[]⟩,⟨12,[56],[]⟩,⟨13,[51,57],[]⟩,⟨14,[6],[]⟩] [15,16] []))) (.no))))) (.no)))))) [] F fun a l=>by kernel_rfl
def dT (F:Nat):bJ DD pk:=⟨147,[.d (.sl (.int .i64)),.d (.int .i64)],[],[],[],[.int .i64],true,false,false,false,fun a l=>bQ F a.1 a.2.1⟩
theorem fw (F:Nat):av Tryz.prog (aw mx) (dT F):=ak (B0:=BB) (L:=LL) (G:=[]) 13 ⟨Tryz.call147⟩ Tryz.func147 Tryz.ntmps147 rfl (Nat.le_of_ble_eq_true rfl) rfl trivial (.no) [] F fun a l=>by kernel_rfl
def iX (F:Nat):bJ DD pk:=⟨103,[.d (.sl (.int .i64)),.d (.sl (.int .i64))],[],[],[],[.sl (.int .i64)],true,false,false,false,fun a l=>iR F a.1 a.2.1⟩
theorem nh (F:Nat):av Tryz.prog (aw mx) (iX F):=ak (B0:=BB) (L:=LL) (G:=[dT F,cN F]) 37 ⟨Tryz.call103⟩ Tryz.func103 Tryz.ntmps103 rfl (Nat.le_of_ble_eq_true rfl) rfl ⟨fw F,dm F,trivial⟩ (.two (.no) (.two (.no) (.two (.no) (.two (.two (.no) (.loop ⟨[0,1],[],[(5,105)]⟩ [.s 6 (.int .i64),.s 7 (.int .i64),.r 105 3 (.int .i64)] [(.x (some 0),[.r 105 3 (.int .i64)])] (.no))) (.no))))) [5] F fun a l=>by kernel_rfl
def fi (F:Nat):bJ DD pk:=⟨42,[.d (.int .i64)],[],[],[],[.st .bb],true,false,false,false,fun a l=>dV F a.1⟩
theorem gT (F:Nat):av Tryz.prog (aw mx) (fi F):=ak (B0:=BB) (L:=LL) (G:=[cQ F,iX F]) 35 ⟨Tryz.call42⟩ Tryz.func42 Tryz.ntmps42 rfl (Nat.le_of_ble_eq_true rfl) rfl ⟨dB F,nh F,trivial⟩ (.no) [] F fun a l=>by kernel_rfl
def lY (F:Nat):bJ DD pk:=⟨138,[.d (.st .bb)],[],[],[],[.bool],true,false,false,false,fun a l=>lN F a.1⟩
theorem sj (F:Nat):av Tryz.prog (aw mx) (lY F):=ak (B0:=BB) (L:=LL) (G:=[]) 32 ⟨Tryz.call138⟩ Tryz.func138 Tryz.ntmps138 rfl (Nat.le_of_ble_eq_true rfl) rfl trivial (.two (.no) (.two (.no) (.two (.two (.no) (.loop ⟨[1],[101],[]⟩ [.s 3 (.bool),.s 4 (.int .i64)] [(.x (some 0),[.s 3 (.bool)])] (.no))) (.no)))) [] F fun a l=>by kernel_rfl
def b8 (F:Nat):bJ DD pk:=⟨96,[.d (.st .bb)],[],[],[],[.bool],true,false,false,false,fun a l=>bH F a.1⟩
theorem cM (F:Nat):av Tryz.prog (aw mx) (b8 F):=ak (B0:=BB) (L:=LL) (G:=[lY F]) 12 ⟨Tryz.call96⟩ Tryz.func96 Tryz.ntmps96 rfl (Nat.le_of_ble_eq_true rfl) rfl ⟨sj F,trivial⟩ (.no) [] F fun a l=>by kernel_rfl
def cR (F:Nat):bJ DD pk:=⟨139,[.d (.st .bb)],[],[],[],[.sl (.int .i64)],true,false,false,false,fun a l=>bM F a.1⟩
theorem dC (F:Nat):av Tryz.prog (aw mx) (cR F):=ak (B0:=BB) (L:=LL) (G:=[cN F]) 26 ⟨Tryz.call139⟩ Tryz.func139 Tryz.ntmps139 rfl (Nat.le_of_ble_eq_true rfl) rfl ⟨dm F,trivial⟩ (.two (.no) (.two (.no) (.two (.two (.no) (.loop ⟨[1],[101],[(3,103)]⟩ [.s 4 (.int .i64),.r 103 3 (.int .i64)] [(.x (some 0),[.r 103 3 (.int .i64)])] (.two (.no) (.two (.hY [⟨0,[3],[]⟩,⟨1,[4],[]⟩,⟨2,[1],[]⟩,⟨3,[10,11],[101]⟩,⟨4,[12],[101]⟩,⟨5,[13],[]⟩,⟨6,[14],[]⟩,⟨7,[4],[]⟩,⟨8,[1],[]⟩,⟨9,[16,17],[101]⟩,⟨10,[18],[101]⟩,⟨11,[19],[]⟩,⟨12,[20],[]⟩,⟨13,[15,21],[]⟩] [14,15] []) (.no))))) (.no)))) [3] F fun a l=>by kernel_rfl
def ns (F:Nat):bJ DD pk:=⟨97,[.d (.st .bb)],[],[],[],[.int .i64],true,false,false,false,fun a l=>iS F a.1⟩
theorem tf (F:Nat):av Tryz.prog (aw mx) (ns F):=ak (B0:=BB) (L:=LL) (G:=[b8 F,cR F]) 14 ⟨Tryz.call97⟩ Tryz.func97 Tryz.ntmps97 rfl (Nat.le_of_ble_eq_true rfl) rfl ⟨cM F,dC F,trivial⟩ (.no) [] F fun a l=>by kernel_rfl
def nX (F:Nat):bJ DD pk:=⟨141,[],[],[],[],[.st .bb],true,false,false,false,fun a l=>nO F⟩
theorem tS (F:Nat):av Tryz.prog (aw mx) (nX F):=ak (B0:=BB) (L:=LL) (G:=[fi F]) 2 ⟨Tryz.call141⟩ Tryz.func141 Tryz.ntmps141 rfl (Nat.le_of_ble_eq_true rfl) rfl ⟨gT F,trivial⟩ (.no) [] F fun a l=>by kernel_rfl
def nY (F:Nat):bJ DD pk:=⟨98,[],[],[],[],[.st .ed],true,false,false,false,fun a l=>nP F⟩
theorem tT (F:Nat):av Tryz.prog (aw mx) (nY F):=ak (B0:=BB) (L:=LL) (G:=[cY F,nX F]) 4 ⟨Tryz.call98⟩ Tryz.func98 Tryz.ntmps98 rfl (Nat.le_of_ble_eq_true rfl) rfl ⟨dJ F,tS F,trivial⟩ (.no) [] F fun a l=>by kernel_rfl
def iW (F:Nat):bJ DD pk:=⟨142,[.d (.st .bb)],[],[],[],[.int .i64,.bool],true,false,false,false,fun a l=>ek F a.1⟩
theorem ng (F:Nat):av Tryz.prog (aw mx) (iW F):=ak (B0:=BB) (L:=LL) (G:=[b8 F]) 41 ⟨Tryz.call142⟩ Tryz.func142 Tryz.ntmps142 rfl (Nat.le_of_ble_eq_true rfl) rfl ⟨cM F,trivial⟩ (.two (.no) (.two (.no) (.two (.no) (.two (.two (.no) (.loop ⟨[1],[101],[]⟩ [.s 5 (.int .i64)] [(.x (some 0),[]),(.x none,[.s 2 (.int .i64),.s 3 (.bool)])] (.no))) (.no))))) [] F fun a l=>by kernel_rfl
def n4 (F:Nat):bJ DD pk:=⟨143,[.d (.st .bb)],[],[],[],[.st .bb],true,false,false,false,fun a l=>nS F a.1⟩
theorem tX (F:Nat):av Tryz.prog (aw mx) (n4 F):=ak (B0:=BB) (L:=LL) (G:=[b8 F,cY F,cR F,cQ F]) 10 ⟨Tryz.call143⟩ Tryz.func143 Tryz.ntmps143 rfl (Nat.le_of_ble_eq_true rfl) rfl ⟨cM F,dJ F,dC F,dB F,trivial⟩ (.no) [] F fun a l=>by kernel_rfl
def o8 (F:Nat):bJ DD pk:=⟨173,[.d (.sl (.int .i64)),.d (.int .i64)],[],[],[],[.int .i64],true,false,false,false,fun a l=>fh F a.1 a.2.1⟩
theorem vi (F:Nat):av Tryz.prog (aw mx) (o8 F):=ak (B0:=BB) (L:=LL) (G:=[dT F]) 10 ⟨Tryz.call173⟩ Tryz.func173 Tryz.ntmps173 rfl (Nat.le_of_ble_eq_true rfl) rfl ⟨fw F,trivial⟩ (.no) [] F fun a l=>by kernel_rfl
def lV (F:Nat):bJ DD pk:=⟨174,[.d (.sl (.int .i64)),.d (.sl (.int .i64))],[],[],[],[.sl (.int .i64)],true,false,false,false,fun a l=>lL F a.1 a.2.1⟩
theorem sf (F:Nat):av Tryz.prog (aw mx) (lV F):=ak (B0:=BB) (L:=LL) (G:=[cN F]) 72 ⟨Tryz.call174⟩ Tryz.func174 Tryz.ntmps174 rfl (Nat.le_of_ble_eq_true rfl) rfl ⟨dm F,trivial⟩ (.two (.no) (.two (.no) (.two (.two (.no) (.loop ⟨[0,1,5],[],[]⟩ [.s 6 (.int .i64),.r 117 3 (.int .i64)] [(.x (some 0),[.r 117 3 (.int .i64)])] (.two (.no) (.two (.two (.two (.no) (.loop ⟨[0,1,5,6],[],[]⟩ [.s 7 (.int .i64),.r 117 3 (.int .i64)] [(.x (some 2),[.r 117 3 (.int .i64)])] (.two (.no) (.two (.hY [⟨0,[5],[]⟩,⟨1,[6],[]⟩,⟨2,[7],[]⟩,⟨3,[31,32],[]⟩,⟨4,[5],[]⟩,⟨5,[6],[]⟩,⟨6,[7],[]⟩,⟨7,[35,36],[]⟩,⟨8,[34,37],[117]⟩,⟨9,[38],[117]⟩,⟨10,[0],[]⟩,⟨11,[6],[]⟩,⟨12,[40,41],[]⟩,⟨13,[42],[]⟩,⟨14,[1],[]⟩,⟨15,[7],[]⟩,⟨16,[44,45],[]⟩,⟨17,[46],[]⟩,⟨18,[43,47],[]⟩,⟨19,[39,48],[]⟩] [20,21] []) (.no))))) (.two (.no) (.two (.no) (.loop ⟨[0,1,5,6],[],[]⟩ [.s 8 (.int .i64),.s 9 (.int .i64),.r 117 3 (.int .i64)] [(.x (some 4),[.r 117 3 (.int .i64)])] (.no))))) (.no))))) (.no)))) [] F fun a l=>by kernel_rfl
def nq (F:Nat):bJ DD pk:=⟨175,[.d (.sl (.int .i64)),.d (.sl (.int .i64))],[],[],[],[.bool],true,false,false,false,fun a l=>mW F a.1 a.2.1⟩
theorem td (F:Nat):av Tryz.prog (aw mx) (nq F):=ak (B0:=BB) (L:=LL) (G:=[dT F]) 30 ⟨Tryz.call175⟩ Tryz.func175 Tryz.ntmps175 rfl (Nat.le_of_ble_eq_true rfl) rfl ⟨fw F,trivial⟩ (.two (.no) (.two (.two (.no) (.loop ⟨[0,1],[],[]⟩ [.s 5 (.int .i64)] [(.x (some 0),[]),(.x none,[.s 4 (.bool)])] (.no))) (.no))) [] F fun a l=>by kernel_rfl
def lW (F:Nat):bJ DD pk:=⟨176,[.d (.sl (.int .i64)),.d (.sl (.int .i64))],[],[],[],[.sl (.int .i64)],true,false,false,false,fun a l=>ia F a.1 a.2.1⟩
theorem sg (F:Nat):av Tryz.prog (aw mx) (lW F):=ak (B0:=BB) (L:=LL) (G:=[dT F,cN F]) 35 ⟨Tryz.call176⟩ Tryz.func176 Tryz.ntmps176 rfl (Nat.le_of_ble_eq_true rfl) rfl ⟨fw F,dm F,trivial⟩ (.two (.no) (.two (.no) (.two (.no) (.two (.two (.no) (.loop ⟨[0,1],[],[(5,105)]⟩ [.s 6 (.int .i64),.s 7 (.int .i64),.r 105 3 (.int .i64)] [(.x (some 0),[.r 105 3 (.int .i64)])] (.two (.no) (.two (.two (.hY [⟨0,[0],[]⟩,⟨1,[7],[]⟩,⟨2,[15,16],[]⟩,⟨3,[17],[]⟩,⟨4,[1],[]⟩,⟨5,[7],[]⟩,⟨8,[6],[]⟩,⟨6,[19,20],[]⟩,⟨7,[18,21],[]⟩] [9,10] []) (.two (.no) (.join ⟨[0,1,5,7],[105],[]⟩ [.s 6 (.int .i64),.s 8 (.int .i64)] (.no) (.no)))) (.no))))) (.no))))) [5] F fun a l=>by kernel_rfl
def hC (F:Nat):bJ DD pk:=⟨144,[.d (.sl (.int .i64)),.d (.sl (.int .i64))],[],[],[],[.sl (.int .i64),.sl (.int .i64)],true,false,false,false,fun a l=>gU F a.1 a.2.1⟩
theorem lB (F:Nat):av Tryz.prog (aw mx) (hC F):=ak (B0:=BB) (L:=LL) (G:=[o8 F,cN F,lV F,nq F,lW F]) 84 ⟨Tryz.call144⟩ Tryz.func144 Tryz.ntmps144 rfl (Nat.le_of_ble_eq_true rfl) rfl ⟨vi F,dm F,sf F,td F,sg F,trivial⟩ (.two (.no) (.two (.no) (.two (.no) (.two (.hY [⟨0,[1],[]⟩,⟨1,[7],[]⟩,⟨2,[19],[]⟩,⟨3,[18,20],[]⟩,⟨4,[21],[]⟩,⟨5,[22],[]⟩,⟨6,[1],[]⟩,⟨7,[7],[]⟩,⟨8,[25],[]⟩,⟨9,[24,26],[]⟩] [10,11] []) (.two (.no) (.two (.two (.no) (.loop ⟨[0,1,6,7,8],[],[]⟩ [.s 9 (.sl (.int .i64)),.s 10 (.int .i64),.r 115 3 (.int .i64)] [(.x (some 0),[.s 9 (.sl (.int .i64)),.r 115 3 (.int .i64)])] (.two (.no) (.two (.two (.no) (.two (.no) (.two (.no) (.two (.loop ⟨[0,1,6,7,8,9,10],[115],[]⟩ [.s 11 (.int .i64),.s 12 (.sl (.int .i64))] [(.x (some 2),[.s 11 (.int .i64),.s 12 (.sl (.int .i64))])] (.no)) (.no))))) (.no))))) (.no))))))) [40] F fun a l=>by kernel_rfl
def n3 (F:Nat):bJ DD pk:=⟨99,[.d (.st .bb),.d (.st .bb)],[],[],[],[.st .bb],true,false,false,false,fun a l=>nR F a.1 a.2.1⟩
theorem tW (F:Nat):av Tryz.prog (aw mx) (n3 F):=ak (B0:=BB) (L:=LL) (G:=[iW F,fi F,n4 F,b8 F,cY F,cR F,hC F,cQ F]) 64 ⟨Tryz.call99⟩ Tryz.func99 Tryz.ntmps99 rfl (Nat.le_of_ble_eq_true rfl) rfl ⟨ng F,gT F,tX F,cM F,dJ F,dC F,lB F,dB F,trivial⟩ (.two (.no) (.two (.no) (.two (.no) (.two (.two (.no) (.two (.two (.loop ⟨[4],[104],[]⟩ [.s 5 (.int .i64),.s 7 (.int .i64)] [(.x (some 0),[.s 5 (.int .i64)])] (.no)) (.no)) (.no))) (.two (.no) (.two (.no) (.two (.no) (.two (.loop ⟨[4],[104],[]⟩ [.s 10 (.sl (.int .i64)),.s 11 (.sl (.int .i64))] [(.x (some 2),[.s 10 (.sl (.int .i64))])] (.no)) (.no))))))))) [] F fun a l=>by kernel_rfl
def n0 (F:Nat):bJ DD pk:=⟨100,[.d (.st .bb)],[],[],[],[.st .bb],true,false,false,false,fun a l=>nQ F a.1⟩
theorem tV (F:Nat):av Tryz.prog (aw mx) (n0 F):=ak (B0:=BB) (L:=LL) (G:=[b8 F,cY F,cR F,cQ F]) 13 ⟨Tryz.call100⟩ Tryz.func100 Tryz.ntmps100 rfl (Nat.le_of_ble_eq_true rfl) rfl ⟨cM F,dJ F,dC F,dB F,trivial⟩ (.two (.no) (.two (.no) (.two (.hY [⟨0,[1],[]⟩,⟨1,[7],[101]⟩,⟨2,[8],[]⟩,⟨3,[1],[101]⟩,⟨4,[10],[]⟩] [5,6] []) (.no)))) [] F fun a l=>by kernel_rfl
def lX (F:Nat):bJ DD pk:=⟨145,[.d (.int .i64),.d (.int .i64)],[],[],[],[.int .i64],true,false,false,false,fun a l=>lM F a.1 a.2.1⟩
theorem si (F:Nat):av Tryz.prog (aw mx) (lX F):=ak (B0:=BB) (L:=LL) (G:=[]) 23 ⟨Tryz.call145⟩ Tryz.func145 Tryz.ntmps145 rfl (Nat.le_of_ble_eq_true rfl) rfl trivial (.no) [] F fun a l=>by kernel_rfl
def nZ (F:Nat):bJ DD pk:=⟨101,[.d (.st .bb),.d (.st .bb)],[],[],[],[.st .bb],true,false,false,false,fun a l=>jP F a.1 a.2.1⟩
theorem tU (F:Nat):av Tryz.prog (aw mx) (nZ F):=ak (B0:=BB) (L:=LL) (G:=[iW F,lX F,fi F,b8 F,cR F,cY F,hC F,iX F,cQ F]) 76 ⟨Tryz.call101⟩ Tryz.func101 Tryz.ntmps101 rfl (Nat.le_of_ble_eq_true rfl) rfl ⟨ng F,si F,gT F,cM F,dC F,dJ F,lB F,nh F,dB F,trivial⟩ (.two (.no) (.two (.no) (.two (.no) (.two (.no) (.two (.no) (.two (.hY [⟨0,[2],[102]⟩,⟨2,[3],[103]⟩,⟨1,[49],[]⟩,⟨3,[51],[]⟩,⟨4,[50,52],[]⟩,⟨5,[53],[]⟩,⟨6,[48],[]⟩,⟨7,[48],[]⟩,⟨8,[54],[]⟩] [9] []) (.join ⟨[2,3,4],[102,103,104],[]⟩ [.s 9 (.sl (.int .i64))] (.no) (.no)))))))) [] F fun a l=>by kernel_rfl
def nn (F:Nat):bJ DD pk:=⟨41,[.d (.st .bb),.d (.st .bb)],[],[],[],[.st .ed],true,false,false,false,fun a l=>mU F a.1 a.2.1⟩
theorem s8 (F:Nat):av Tryz.prog (aw mx) (nn F):=ak (B0:=BB) (L:=LL) (G:=[b8 F,ns F,nY F,n3 F,n0 F,nZ F]) 35 ⟨Tryz.call41⟩ Tryz.func41 Tryz.ntmps41 rfl (Nat.le_of_ble_eq_true rfl) rfl ⟨cM F,tf F,tT F,tW F,tV F,tU F,trivial⟩ (.two (.no) (.two (.no) (.two (.no) (.join ⟨[2,3,4,5],[102,103,104],[]⟩ [.b 105 25 (.st .bb)] (.no) (.two (.hY [⟨0,[2],[102]⟩,⟨1,[5],[105]⟩,⟨3,[3],[103]⟩,⟨4,[5],[105]⟩,⟨2,[28,29],[]⟩] [5,6,7] []) (.no)))))) [] F fun a l=>by kernel_rfl
def np (F:Nat):bJ DD pk:=⟨20,[.d (.int .i64),.d (.int .i64)],[],[],[],[.st .ed],true,false,false,false,fun a l=>mV F a.1 a.2.1⟩
theorem tc (F:Nat):av Tryz.prog (aw mx) (np F):=ak (B0:=BB) (L:=LL) (G:=[fi F,nn F]) 10 ⟨Tryz.call20⟩ Tryz.func20 Tryz.ntmps20 rfl (Nat.le_of_ble_eq_true rfl) rfl ⟨gT F,s8 F,trivial⟩ (.no) [] F fun a l=>by kernel_rfl
def lF (F:Nat):bJ DD pk:=⟨9,[.d (.int .i64),.d (.int .i64),.d (.str)],[],[],[],[.st .af],true,false,false,false,fun a l=>dA F a.1 a.2.1 a.2.2.1⟩
theorem rL (F:Nat):av Tryz.prog (aw mx) (lF F):=ak (B0:=BB) (L:=LL) (G:=[np F]) 12 ⟨Tryz.call9⟩ Tryz.func9 Tryz.ntmps9 rfl (Nat.le_of_ble_eq_true rfl) rfl ⟨tc F,trivial⟩ (.no) [] F fun a l=>by kernel_rfl
def fL (F:Nat):bJ DD pk:=⟨108,[.d (.st .af)],[],[],[],[.st .af],true,false,false,false,fun a l=>iy F a.1⟩
def eD (F:Nat):bJ DD pk:=⟨107,[.d (.sl (.st .af)),.k],[.fn 108],[],[],[.sl (.st .af)],true,false,false,false,fun a l=>fQ F a.1⟩
theorem fT:∀ F:Nat,av Tryz.prog (aw mx) (fL F) ∧ av Tryz.prog (aw mx) (eD F)
 | 0=>⟨cH ⟨Tryz.call108⟩ rfl fun a l=>rfl,cH ⟨Tryz.call107⟩ rfl fun a l=>rfl⟩
 | F + 1=>⟨ak (B0:=BB) (L:=LL) (G:=[eD F]) 9 ⟨Tryz.call108⟩ Tryz.func108 Tryz.ntmps108 rfl (Nat.le_of_ble_eq_true rfl) rfl ⟨(fT F).2,trivial⟩ (.no) [] F fun a l=>by kernel_rfl,
  ak (B0:=BB) (L:=LL) (G:=[fL F]) 25 ⟨Tryz.call107⟩ Tryz.func107 Tryz.ntmps107 rfl (Nat.le_of_ble_eq_true rfl) rfl ⟨(fT F).1,trivial⟩ (.two (.no) (.two (.no) (.two (.two (.no) (.loop ⟨[1,5,10],[],[]⟩ [.s 11 (.int .i64),.r 108 30 (.st .af)] [(.x (some 0),[.r 108 30 (.st .af)])] (.no))) (.no)))) [] F fun a l=>by kernel_rfl⟩
theorem pV (F:Nat):av Tryz.prog (aw mx) (fL F):=(fT F).1
theorem nj (F:Nat):av Tryz.prog (aw mx) (eD F):=(fT F).2
def jW (F:Nat):bJ DD pk:=⟨110,[.d (.st .ae)],[],[],[],[.st .ae],true,false,false,false,fun a l=>jU F a.1⟩
theorem nV (F:Nat):av Tryz.prog (aw mx) (jW F):=ak (B0:=BB) (L:=LL) (G:=[fL F]) 15 ⟨Tryz.call110⟩ Tryz.func110 Tryz.ntmps110 rfl (Nat.le_of_ble_eq_true rfl) rfl ⟨pV F,trivial⟩ (.two (.no) (.two (.two (.no) (.loop ⟨[1,2],[102],[]⟩ [.s 4 (.int .i64),.b 101 120 (.st .ae)] [(.x (some 0),[.b 101 120 (.st .ae)])] (.no))) (.no))) [] F fun a l=>by kernel_rfl
def gf (F:Nat):bJ DD pk:=⟨109,[.d (.sl (.st .ae)),.k],[.fn 110],[],[],[.sl (.st .ae)],true,false,false,false,fun a l=>fZ F a.1⟩
theorem kf (F:Nat):av Tryz.prog (aw mx) (gf F):=ak (B0:=BB) (L:=LL) (G:=[jW F]) 25 ⟨Tryz.call109⟩ Tryz.func109 Tryz.ntmps109 rfl (Nat.le_of_ble_eq_true rfl) rfl ⟨nV F,trivial⟩ (.two (.no) (.two (.no) (.two (.two (.no) (.loop ⟨[1,5,10],[],[]⟩ [.s 11 (.int .i64),.r 108 120 (.st .ae)] [(.x (some 0),[.r 108 120 (.st .ae)])] (.no))) (.no)))) [] F fun a l=>by kernel_rfl
def lz (F:Nat):bJ DD pk:=⟨115,[.d (.st .bj)],[],[],[],[.st .bj],true,false,false,false,fun a l=>lx F a.1⟩
theorem pU (F:Nat):av Tryz.prog (aw mx) (lz F):=ak (B0:=BB) (L:=LL) (G:=[jW F]) 8 ⟨Tryz.call115⟩ Tryz.func115 Tryz.ntmps115 rfl (Nat.le_of_ble_eq_true rfl) rfl ⟨nV F,trivial⟩ (.no) [] F fun a l=>by kernel_rfl
def o9 (F:Nat):bJ DD pk:=⟨112,[.d (.st .aK)],[],[],[],[.st .aK],true,false,false,false,fun a l=>o2 F a.1⟩
theorem vj (F:Nat):av Tryz.prog (aw mx) (o9 F):=ak (B0:=BB) (L:=LL) (G:=[eD F,gf F,lz F]) 17 ⟨Tryz.call112⟩ Tryz.func112 Tryz.ntmps112 rfl (Nat.le_of_ble_eq_true rfl) rfl ⟨nj F,kf F,pU F,trivial⟩ (.two (.no) (.two (.hY [⟨0,[1],[]⟩,⟨1,[3],[101]⟩,⟨3,[1],[]⟩,⟨4,[6],[101]⟩,⟨6,[1],[]⟩,⟨7,[9],[101]⟩,⟨9,[1],[]⟩,⟨2,[4],[]⟩,⟨5,[7],[]⟩,⟨8,[10],[]⟩] [10,11,12,13,14,15,16] []) (.no))) [] F fun a l=>by kernel_rfl
def mf (F:Nat):bJ DD pk:=⟨111,[.d (.sl (.st .aK)),.k],[.fn 112],[],[],[.sl (.st .aK)],true,false,false,false,fun a l=>lS F a.1⟩
theorem sy (F:Nat):av Tryz.prog (aw mx) (mf F):=ak (B0:=BB) (L:=LL) (G:=[o9 F]) 25 ⟨Tryz.call111⟩ Tryz.func111 Tryz.ntmps111 rfl (Nat.le_of_ble_eq_true rfl) rfl ⟨vj F,trivial⟩ (.two (.no) (.two (.no) (.two (.two (.no) (.loop ⟨[1,5,10],[],[]⟩ [.s 11 (.int .i64),.r 108 126 (.st .aK)] [(.x (some 0),[.r 108 126 (.st .aK)])] (.no))) (.no)))) [] F fun a l=>by kernel_rfl
def pY (F:Nat):bJ DD pk:=⟨48,[.d (.st .aM)],[],[],[],[.st .aM],true,false,false,false,fun a l=>pT F a.1⟩
theorem wL (F:Nat):av Tryz.prog (aw mx) (pY F):=ak (B0:=BB) (L:=LL) (G:=[eD F,gf F,mf F]) 17 ⟨Tryz.call48⟩ Tryz.func48 Tryz.ntmps48 rfl (Nat.le_of_ble_eq_true rfl) rfl ⟨nj F,kf F,sy F,trivial⟩ (.two (.no) (.two (.hY [⟨0,[1],[]⟩,⟨1,[3],[101]⟩,⟨3,[1],[]⟩,⟨4,[6],[101]⟩,⟨6,[1],[]⟩,⟨7,[9],[101]⟩,⟨9,[1],[]⟩,⟨2,[4],[]⟩,⟨5,[7],[]⟩,⟨8,[10],[]⟩] [10,11,12,13,14,15,16] []) (.no))) [] F fun a l=>by kernel_rfl
def nA (F:Nat):bJ DD pk:=⟨47,[.d (.sl (.st .aM)),.k],[.fn 48],[],[],[.sl (.st .aM)],true,false,false,false,fun a l=>nf F a.1⟩
theorem tp (F:Nat):av Tryz.prog (aw mx) (nA F):=ak (B0:=BB) (L:=LL) (G:=[pY F]) 25 ⟨Tryz.call47⟩ Tryz.func47 Tryz.ntmps47 rfl (Nat.le_of_ble_eq_true rfl) rfl ⟨wL F,trivial⟩ (.two (.no) (.two (.no) (.two (.two (.no) (.loop ⟨[1,5,10],[],[]⟩ [.s 11 (.int .i64),.r 108 53 (.st .aM)] [(.x (some 0),[.r 108 53 (.st .aM)])] (.no))) (.no)))) [] F fun a l=>by kernel_rfl
def nz (F:Nat):bJ DD pk:=⟨114,[.d (.sl (.st .bj)),.k],[.fn 115],[],[],[.sl (.st .bj)],true,false,false,false,fun a l=>nc F a.1⟩
theorem tn (F:Nat):av Tryz.prog (aw mx) (nz F):=ak (B0:=BB) (L:=LL) (G:=[lz F]) 25 ⟨Tryz.call114⟩ Tryz.func114 Tryz.ntmps114 rfl (Nat.le_of_ble_eq_true rfl) rfl ⟨pU F,trivial⟩ (.two (.no) (.two (.no) (.two (.two (.no) (.loop ⟨[1,5,10],[],[]⟩ [.s 11 (.int .i64),.r 108 124 (.st .bj)] [(.x (some 0),[.r 108 124 (.st .bj)])] (.no))) (.no)))) [] F fun a l=>by kernel_rfl
def pX (F:Nat):bJ DD pk:=⟨50,[.d (.st .ay)],[],[],[],[.st .ay],true,false,false,false,fun a l=>pS F a.1⟩
def fU (F:Nat):bJ DD pk:=⟨49,[.d (.sl (.st .ay)),.k],[.fn 50],[],[],[.sl (.st .ay)],true,false,false,false,fun a l=>fP F a.1⟩
theorem iV:∀ F:Nat,av Tryz.prog (aw mx) (pX F) ∧ av Tryz.prog (aw mx) (fU F)
 | 0=>⟨cH ⟨Tryz.call50⟩ rfl fun a l=>rfl,cH ⟨Tryz.call49⟩ rfl fun a l=>rfl⟩
 | F + 1=>⟨ak (B0:=BB) (L:=LL) (G:=[fL F,fU F,nz F]) 21 ⟨Tryz.call50⟩ Tryz.func50 Tryz.ntmps50 rfl (Nat.le_of_ble_eq_true rfl) rfl ⟨pV F,(iV F).2,tn F,trivial⟩ (.two (.no) (.two (.hY [⟨0,[1],[]⟩,⟨1,[3],[101]⟩,⟨3,[1],[]⟩,⟨4,[6],[101]⟩,⟨6,[1],[]⟩,⟨7,[9],[101]⟩,⟨9,[1],[]⟩,⟨10,[12],[101]⟩,⟨12,[1],[]⟩,⟨2,[4],[]⟩,⟨5,[7],[]⟩,⟨8,[10],[]⟩,⟨11,[13],[]⟩] [13,14,15,16,17,18,19,20,21] []) (.no))) [] F fun a l=>by kernel_rfl,
  ak (B0:=BB) (L:=LL) (G:=[pX F]) 25 ⟨Tryz.call49⟩ Tryz.func49 Tryz.ntmps49 rfl (Nat.le_of_ble_eq_true rfl) rfl ⟨(iV F).1,trivial⟩ (.two (.no) (.two (.no) (.two (.two (.no) (.loop ⟨[1,5,10],[],[]⟩ [.s 11 (.int .i64),.r 108 46 (.st .ay)] [(.x (some 0),[.r 108 46 (.st .ay)])] (.no))) (.no)))) [] F fun a l=>by kernel_rfl⟩
theorem tm (F:Nat):av Tryz.prog (aw mx) (fU F):=(iV F).2
def uK (F:Nat):bJ DD pk:=⟨22,[.d (.st .Source)],[],[],[],[.st .Source],true,false,false,false,fun a l=>uu F a.1⟩
theorem Bj (F:Nat):av Tryz.prog (aw mx) (uK F):=ak (B0:=BB) (L:=LL) (G:=[nA F,fU F]) 10 ⟨Tryz.call22⟩ Tryz.func22 Tryz.ntmps22 rfl (Nat.le_of_ble_eq_true rfl) rfl ⟨tp F,tm F,trivial⟩ (.two (.no) (.two (.hY [⟨0,[1],[]⟩,⟨1,[3],[101]⟩,⟨3,[1],[]⟩,⟨4,[6],[101]⟩,⟨2,[4],[]⟩] [5,6,7] []) (.no))) [] F fun a l=>by kernel_rfl
def db (F:Nat):bJ DD pk:=⟨104,[.d (.st .af),.d (.st .af)],[],[],[],[.bool],true,false,false,false,fun a l=>cu F a.1 a.2.1⟩
def cU (F:Nat):bJ DD pk:=⟨43,[.d (.sl (.st .af)),.d (.sl (.st .af))],[],[],[],[.bool],true,false,false,false,fun a l=>dN F a.1 a.2.1⟩
theorem dO:∀ F:Nat,av Tryz.prog (aw mx) (db F) ∧ av Tryz.prog (aw mx) (cU F)
 | 0=>⟨cH ⟨Tryz.call104⟩ rfl fun a l=>rfl,cH ⟨Tryz.call43⟩ rfl fun a l=>rfl⟩
 | F + 1=>⟨ak (B0:=BB) (L:=LL) (G:=[cU F]) 45 ⟨Tryz.call104⟩ Tryz.func104 Tryz.ntmps104 rfl (Nat.le_of_ble_eq_true rfl) rfl ⟨(dO F).2,trivial⟩ (.no) [] F fun a l=>by kernel_rfl,
  ak (B0:=BB) (L:=LL) (G:=[db F]) 27 ⟨Tryz.call43⟩ Tryz.func43 Tryz.ntmps43 rfl (Nat.le_of_ble_eq_true rfl) rfl ⟨(dO F).1,trivial⟩ (.two (.no) (.two (.no) (.two (.two (.no) (.loop ⟨[0,1],[],[]⟩ [.s 5 (.int .i64)] [(.x (some 0),[]),(.x none,[.s 4 (.bool)])] (.two (.no) (.two (.two (.hY [⟨0,[0],[]⟩,⟨1,[5],[]⟩,⟨2,[17,18],[]⟩,⟨3,[19],[]⟩,⟨4,[1],[]⟩,⟨5,[5],[]⟩,⟨6,[21,22],[]⟩,⟨7,[23],[]⟩] [8,9] []) (.no)) (.no))))) (.no)))) [] F fun a l=>by kernel_rfl⟩
theorem j9 (F:Nat):av Tryz.prog (aw mx) (db F):=(dO F).1
theorem jG (F:Nat):av Tryz.prog (aw mx) (cU F):=(dO F).2
def dH (F:Nat):bJ DD pk:=⟨105,[.d (.st .ae),.d (.st .ae)],[],[],[],[.bool],true,false,false,false,fun a l=>dG F a.1 a.2.1⟩
theorem fk (F:Nat):av Tryz.prog (aw mx) (dH F):=ak (B0:=BB) (L:=LL) (G:=[db F]) 24 ⟨Tryz.call105⟩ Tryz.func105 Tryz.ntmps105 rfl (Nat.le_of_ble_eq_true rfl) rfl ⟨j9 F,trivial⟩ (.no) [] F fun a l=>by kernel_rfl
def fl (F:Nat):bJ DD pk:=⟨44,[.d (.sl (.st .ae)),.d (.sl (.st .ae))],[],[],[],[.bool],true,false,false,false,fun a l=>fj F a.1 a.2.1⟩
theorem je (F:Nat):av Tryz.prog (aw mx) (fl F):=ak (B0:=BB) (L:=LL) (G:=[dH F]) 27 ⟨Tryz.call44⟩ Tryz.func44 Tryz.ntmps44 rfl (Nat.le_of_ble_eq_true rfl) rfl ⟨fk F,trivial⟩ (.two (.no) (.two (.no) (.two (.two (.no) (.loop ⟨[0,1],[],[]⟩ [.s 5 (.int .i64)] [(.x (some 0),[]),(.x none,[.s 4 (.bool)])] (.two (.no) (.two (.two (.hY [⟨0,[0],[]⟩,⟨1,[5],[]⟩,⟨2,[17,18],[]⟩,⟨3,[19],[]⟩,⟨4,[1],[]⟩,⟨5,[5],[]⟩,⟨6,[21,22],[]⟩,⟨7,[23],[]⟩] [8,9] []) (.no)) (.no))))) (.no)))) [] F fun a l=>by kernel_rfl
def jg (F:Nat):bJ DD pk:=⟨45,[.d (.sl (.st .aK)),.d (.sl (.st .aK))],[],[],[],[.bool],true,false,false,false,fun a l=>jc F a.1 a.2.1⟩
theorem pc (F:Nat):av Tryz.prog (aw mx) (jg F):=ak (B0:=BB) (L:=LL) (G:=[cU F,fl F,dH F]) 74 ⟨Tryz.call45⟩ Tryz.func45 Tryz.ntmps45 rfl (Nat.le_of_ble_eq_true rfl) rfl ⟨jG F,je F,fk F,trivial⟩ (.two (.no) (.two (.no) (.two (.two (.no) (.loop ⟨[0,1],[],[]⟩ [.s 5 (.int .i64)] [(.x (some 0),[]),(.x none,[.s 4 (.bool)])] (.no))) (.no)))) [] F fun a l=>by kernel_rfl
def dP (F:Nat):bJ DD pk:=⟨46,[.d (.sl (.st .ay)),.d (.sl (.st .ay))],[],[],[],[.bool],true,false,false,false,fun a l=>dM F a.1 a.2.1⟩
theorem jH:∀ F:Nat,av Tryz.prog (aw mx) (dP F)
 | 0=>cH ⟨Tryz.call46⟩ rfl fun a l=>rfl
 | F + 1=>ak (B0:=BB) (L:=LL) (G:=[db F,dP F,dH F]) 123 ⟨Tryz.call46⟩ Tryz.func46 Tryz.ntmps46 rfl (Nat.le_of_ble_eq_true rfl) rfl ⟨j9 F,(jH F),fk F,trivial⟩ (.two (.no) (.two (.no) (.two (.two (.no) (.loop ⟨[0,1],[],[]⟩ [.s 5 (.int .i64)] [(.x (some 0),[]),(.x none,[.s 4 (.bool)])] (.two (.no) (.two (.two (.no) (.two (.no) (.two (.no) (.two (.no) (.loop ⟨[0,1,5,6,7],[106,107],[]⟩ [.s 8 (.int .i64)] [(.x (some 2),[]),(.x none,[.s 4 (.bool)])] (.two (.no) (.two (.two (.hY [⟨0,[6],[]⟩,⟨1,[94],[106]⟩,⟨2,[8],[]⟩,⟨3,[95,96],[]⟩,⟨4,[97],[]⟩,⟨5,[98],[]⟩,⟨6,[7],[]⟩,⟨7,[100],[107]⟩,⟨8,[8],[]⟩,⟨9,[101,102],[]⟩,⟨10,[103],[]⟩,⟨11,[104],[]⟩,⟨12,[99,105],[]⟩,⟨13,[106],[]⟩,⟨14,[6,107],[]⟩,⟨15,[108,107],[106]⟩,⟨16,[8,107],[]⟩,⟨17,[109,110,107],[]⟩,⟨18,[111,107],[]⟩,⟨19,[112,107],[]⟩,⟨20,[7,107],[]⟩,⟨21,[114,107],[107]⟩,⟨22,[8,107],[]⟩,⟨23,[115,116,107],[]⟩,⟨24,[117,107],[]⟩,⟨25,[118,107],[]⟩] [26,27,28] []) (.no)) (.no)))))))) (.no))))) (.no)))) [] F fun a l=>by kernel_rfl
theorem pe (F:Nat):av Tryz.prog (aw mx) (dP F):=(jH F)
def nm (F:Nat):bJ DD pk:=⟨21,[.d (.st .Source),.d (.st .Source)],[],[],[],[.bool],true,false,false,false,fun a l=>mT F a.1 a.2.1⟩
theorem s7 (F:Nat):av Tryz.prog (aw mx) (nm F):=ak (B0:=BB) (L:=LL) (G:=[cU F,fl F,jg F,dP F]) 101 ⟨Tryz.call21⟩ Tryz.func21 Tryz.ntmps21 rfl (Nat.le_of_ble_eq_true rfl) rfl ⟨jG F,je F,pc F,pe F,trivial⟩ (.two (.no) (.two (.no) (.two (.two (.no) (.loop ⟨[2,3],[102,103],[]⟩ [.s 5 (.int .i64)] [(.x (some 0),[]),(.x none,[.s 4 (.bool)])] (.no))) (.no)))) [] F fun a l=>by kernel_rfl
def lZ (F:Nat):bJ DD pk:=⟨10,[.d (.str),.d (.st .Source)],[],[],[],[.bool],true,false,false,false,fun a l=>ib F a.1 a.2.1⟩
theorem sn (F:Nat):av Tryz.prog (aw mx) (lZ F):=ak (B0:=BB) (L:=LL) (G:=[iP F,uK F,nm F]) 21 ⟨Tryz.call10⟩ Tryz.func10 Tryz.ntmps10 rfl (Nat.le_of_ble_eq_true rfl) rfl ⟨lu F,Bj F,s7 F,trivial⟩ (.two (.no) (.two (.no) (.two (.hY [⟨0,[6],[106]⟩,⟨1,[],[]⟩,⟨2,[12,13],[]⟩,⟨3,[14],[]⟩,⟨4,[5,15],[105]⟩,⟨6,[3,15],[103]⟩,⟨5,[16,15],[]⟩] [7,8,9] []) (.no)))) [] F fun a l=>by kernel_rfl
def eT (F:Nat):bJ DD pk:=⟨54,[.k,.d (.int .u8)],[.p (.ptr 1 0)],[1,2],[.x 81 .aB,.r 5 (.int .u8)],[.u],false,false,false,false,fun a l=>eR F a.1 l.1 l.2.1⟩
theorem iA (F:Nat):av Tryz.prog (aw mx) (eT F):=ak (B0:=BB) (L:=LL) (G:=[Fz F]) 17 ⟨Tryz.call54⟩ Tryz.func54 Tryz.ntmps54 rfl (Nat.le_of_ble_eq_true rfl) rfl ⟨(Jh F),trivial⟩ (.no) [] F fun a l=>by kernel_rfl
def ga (F:Nat):bJ DD pk:=⟨51,[.k],[.p (.ptr 1 0)],[1,2],[.x 81 .aB,.r 5 (.int .u8)],[],false,false,false,false,fun a l=>dZ F l.1 l.2.1⟩
theorem ka (F:Nat):av Tryz.prog (aw mx) (ga F):=ak (B0:=BB) (L:=LL) (G:=[eT F]) 12 ⟨Tryz.call51⟩ Tryz.func51 Tryz.ntmps51 rfl (Nat.le_of_ble_eq_true rfl) rfl ⟨iA F,trivial⟩ (.no) [] F fun a l=>by kernel_rfl
def fV (F:Nat):bJ DD pk:=⟨52,[.k,.d (.str)],[.p (.ptr 1 0)],[1,2],[.x 81 .aB,.r 5 (.int .u8)],[.int .i64,.u],false,false,false,false,fun a l=>dI F a.1 l.1 l.2.1⟩
theorem lH (F:Nat):av Tryz.prog (aw mx) (fV F):=ak (B0:=BB) (L:=LL) (G:=[Fz F]) 19 ⟨Tryz.call52⟩ Tryz.func52 Tryz.ntmps52 rfl (Nat.le_of_ble_eq_true rfl) rfl ⟨(Jh F),trivial⟩ (.no) [] F fun a l=>by kernel_rfl
def cO (F:Nat):bJ DD pk:=⟨23,[.k,.d (.sl (.str))],[.p (.ptr 1 0)],[1,2],[.x 81 .aB,.r 5 (.int .u8)],[],false,false,false,false,fun a l=>aL F a.1 l.1 l.2.1⟩
theorem dn (F:Nat):av Tryz.prog (aw mx) (cO F):=ak (B0:=BB) (L:=LL) (G:=[ga F,b4 F,fV F,eT F,b4 F,b4 F,b4 F,b4 F,b4 F]) 106 ⟨Tryz.call23⟩ Tryz.func23 Tryz.ntmps23 rfl (Nat.le_of_ble_eq_true rfl) rfl ⟨ka F,bZ F,lH F,iA F,bZ F,bZ F,bZ F,bZ F,bZ F,trivial⟩ (.two (.no) (.loop ⟨[0,6,7],[],[]⟩ [.s 8 (.int .i64),.x 1 81 .aB 2,.r 2 5 (.int .u8)] [(.x (some 0),[.x 1 81 .aB 2,.r 2 5 (.int .u8)])] (.two (.no) (.two (.no) (.two (.two (.no) (.join ⟨[0,5,6,7,8],[],[]⟩ [.x 1 81 .aB 2,.r 2 5 (.int .u8)] (.no) (.two (.no) (.join ⟨[0,5,6,7,8],[2],[]⟩ [.x 1 81 .aB 2] (.no) (.join ⟨[0,5,6,7,8],[],[]⟩ [.x 1 81 .aB 2,.r 2 5 (.int .u8)] (.two (.no) (.two (.hY [⟨0,[0],[]⟩,⟨1,[39],[]⟩,⟨2,[40],[]⟩,⟨3,[0],[]⟩,⟨4,[42],[]⟩,⟨5,[43],[]⟩,⟨6,[44],[1,2]⟩,⟨7,[45],[]⟩] [8] []) (.no))) (.two (.no) (.two (.no) (.join ⟨[0,5,6,7,8],[2],[]⟩ [.x 1 81 .aB 2] (.no) (.no))))))))) (.no)))))) [] F fun a l=>by kernel_rfl
def fC (F:Nat):bJ DD pk:=⟨55,[.k,.d (.bool)],[.p (.ptr 1 0)],[1,2],[.x 81 .aB,.r 5 (.int .u8)],[],false,false,false,false,fun a l=>c8 F a.1 l.1 l.2.1⟩
theorem ij (F:Nat):av Tryz.prog (aw mx) (fC F):=ak (B0:=BB) (L:=LL) (G:=[]) 15 ⟨Tryz.call55⟩ Tryz.func55 Tryz.ntmps55 rfl (Nat.le_of_ble_eq_true rfl) rfl trivial (.no) [] F fun a l=>by kernel_rfl
def r8 (F:Nat):bJ DD pk:=⟨124,[.d (.str)],[],[],[],[.bool],true,false,false,false,fun a l=>rY F a.1⟩
theorem yJ (F:Nat):av Tryz.prog (aw mx) (r8 F):=ak (B0:=BB) (L:=LL) (G:=[iQ F]) 33 ⟨Tryz.call124⟩ Tryz.func124 Tryz.ntmps124 rfl (Nat.le_of_ble_eq_true rfl) rfl ⟨lv F,trivial⟩ (.no) [] F fun a l=>by kernel_rfl
def im (F:Nat):bJ DD pk:=⟨58,[.k,.d (.str)],[.p (.ptr 1 0)],[1,2],[.x 81 .aB,.r 5 (.int .u8)],[],false,false,false,false,fun a l=>ig F a.1 l.1 l.2.1⟩
theorem lT (F:Nat):av Tryz.prog (aw mx) (im F):=ak (B0:=BB) (L:=LL) (G:=[r8 F,fC F,cO F]) 12 ⟨Tryz.call58⟩ Tryz.func58 Tryz.ntmps58 rfl (Nat.le_of_ble_eq_true rfl) rfl ⟨yJ F,ij F,dn F,trivial⟩ (.no) [] F fun a l=>by kernel_rfl
def r6 (F:Nat):bJ DD pk:=⟨120,[.d (.int .i64)],[],[],[],[.str],true,false,false,false,fun a l=>rX F a.1⟩
theorem yH (F:Nat):av Tryz.prog (aw mx) (r6 F):=ak (B0:=BB) (L:=LL) (G:=[]) 7 ⟨Tryz.call120⟩ Tryz.func120 Tryz.ntmps120 rfl (Nat.le_of_ble_eq_true rfl) rfl trivial (.no) [] F fun a l=>by kernel_rfl
def rF (F:Nat):bJ DD pk:=⟨156,[.d (.st .ed)],[],[],[],[.bool],true,false,false,false,fun a l=>rp F a.1⟩
theorem wv (F:Nat):av Tryz.prog (aw mx) (rF F):=ak (B0:=BB) (L:=LL) (G:=[rD F,lq F,sX F,pQ F]) 26 ⟨Tryz.call156⟩ Tryz.func156 Tryz.ntmps156 rfl (Nat.le_of_ble_eq_true rfl) rfl ⟨wq F,ov F,yf F,sV F,trivial⟩ (.no) [] F fun a l=>by kernel_rfl
def wF (F:Nat):bJ DD pk:=⟨157,[.d (.st .ed)],[],[],[],[.int .i64],true,false,false,false,fun a l=>wk F a.1⟩
theorem C1 (F:Nat):av Tryz.prog (aw mx) (wF F):=ak (B0:=BB) (L:=LL) (G:=[rF F,lq F]) 9 ⟨Tryz.call157⟩ Tryz.func157 Tryz.ntmps157 rfl (Nat.le_of_ble_eq_true rfl) rfl ⟨wv F,ov F,trivial⟩ (.no) [] F fun a l=>by kernel_rfl
def uI (F:Nat):bJ DD pk:=⟨186,[.d (.st .bb)],[],[],[],[.st .ed],true,false,false,false,fun a l=>uq F a.1⟩
theorem Bh (F:Nat):av Tryz.prog (aw mx) (uI F):=ak (B0:=BB) (L:=LL) (G:=[pQ F,rE F]) 6 ⟨Tryz.call186⟩ Tryz.func186 Tryz.ntmps186 rfl (Nat.le_of_ble_eq_true rfl) rfl ⟨sV F,wu F,trivial⟩ (.two (.no) (.two (.hY [⟨0,[1],[101]⟩,⟨1,[],[]⟩] [2,3] []) (.no))) [] F fun a l=>by kernel_rfl
def Ax (F:Nat):bJ DD pk:=⟨160,[.d (.int .i64)],[],[],[],[.st .ed],true,false,false,false,fun a l=>Ah F a.1⟩
theorem FV (F:Nat):av Tryz.prog (aw mx) (Ax F):=ak (B0:=BB) (L:=LL) (G:=[oU F,uI F]) 6 ⟨Tryz.call160⟩ Tryz.func160 Tryz.ntmps160 rfl (Nat.le_of_ble_eq_true rfl) rfl ⟨oT F,Bh F,trivial⟩ (.no) [] F fun a l=>by kernel_rfl
def qK (F:Nat):bJ DD pk:=⟨121,[.d (.st .ed)],[],[],[],[.str],true,false,false,false,fun a l=>qG F a.1⟩
theorem xH (F:Nat):av Tryz.prog (aw mx) (qK F):=ak (B0:=BB) (L:=LL) (G:=[rF F,wF F,oU F,Ax F,wD F,b4 F,b4 F,b4 F]) 61 ⟨Tryz.call121⟩ Tryz.func121 Tryz.ntmps121 rfl (Nat.le_of_ble_eq_true rfl) rfl ⟨wv F,C1 F,oT F,FV F,CZ F,bZ F,bZ F,bZ F,trivial⟩ (.two (.no) (.two (.no) (.two (.two (.no) (.loop ⟨[1,13],[101],[]⟩ [] [(.x (some 0),[]),(.x none,[.s 2 (.str)])] (.two (.no) (.two (.no) (.two (.two (.no) (.two (.two (.hY [⟨0,[1],[]⟩,⟨1,[16],[101]⟩,⟨2,[],[]⟩] [3] []) (.two (.two (.two (.hY [⟨0,[1],[101]⟩,⟨1,[],[]⟩] [2,3] []) (.no)) (.no)) (.no))) (.two (.no) (.two (.no) (.two (.no) (.two (.hY [⟨0,[4],[]⟩,⟨1,[4],[]⟩,⟨2,[47],[]⟩,⟨3,[3],[]⟩,⟨4,[48,49],[]⟩,⟨5,[46,50],[]⟩,⟨6,[51],[]⟩,⟨7,[4],[]⟩,⟨8,[4],[]⟩,⟨9,[54],[]⟩,⟨10,[3],[]⟩,⟨11,[55,56],[]⟩,⟨12,[53,57],[]⟩] [13,14] []) (.no))))))) (.no)))))) (.no)))) [] F fun a l=>by kernel_rfl
def jJ (F:Nat):bJ DD pk:=⟨123,[.k,.d (.st .af)],[.p (.ptr 1 0)],[1,2],[.x 81 .aB,.r 5 (.int .u8)],[],false,false,false,false,fun a l=>cT F a.1 l.1 l.2.1⟩
def fD (F:Nat):bJ DD pk:=⟨57,[.k,.d (.st .af)],[.p (.ptr 1 0)],[1,2],[.x 81 .aB,.r 5 (.int .u8)],[],false,false,false,false,fun a l=>dS F a.1 l.1 l.2.1⟩
theorem il:∀ F:Nat,av Tryz.prog (aw mx) (jJ F) ∧ av Tryz.prog (aw mx) (fD F)
 | 0=>⟨cH ⟨Tryz.call123⟩ rfl fun a l=>rfl,cH ⟨Tryz.call57⟩ rfl fun a l=>rfl⟩
 | F + 1=>⟨ak (B0:=BB) (L:=LL) (G:=[fD F,cO F]) 19 ⟨Tryz.call123⟩ Tryz.func123 Tryz.ntmps123 rfl (Nat.le_of_ble_eq_true rfl) rfl ⟨(il F).2,dn F,trivial⟩ (.no) [] F fun a l=>by kernel_rfl,
  ak (B0:=BB) (L:=LL) (G:=[fC F,r6 F,qK F,r7 F,cO F,im F,jJ F]) 161 ⟨Tryz.call57⟩ Tryz.func57 Tryz.ntmps57 rfl (Nat.le_of_ble_eq_true rfl) rfl ⟨ij F,yH F,xH F,yI F,dn F,lT F,(il F).1,trivial⟩ (.two (.no) (.two (.no) (.two (.no) (.two (.no) (.two (.no) (.join ⟨[0,3,4,6],[1,2,103],[]⟩ [.s 5 (.int .i64)] (.two (.no) (.two (.no) (.join ⟨[0,3,4,5,6],[1,2,103],[]⟩ [.s 41 (.bool)] (.no) (.no)))) (.no))))))) [] F fun a l=>by kernel_rfl⟩
theorem sx (F:Nat):av Tryz.prog (aw mx) (fD F):=(il F).2
def lG (F:Nat):bJ DD pk:=⟨64,[.k,.d (.sl (.st .ay))],[.p (.ptr 1 0)],[1,2],[.x 81 .aB,.r 5 (.int .u8)],[],false,false,false,false,fun a l=>gV F a.1 l.1 l.2.1⟩
def dU (F:Nat):bJ DD pk:=⟨25,[.k,.d (.st .ay)],[.p (.ptr 1 0)],[1,2],[.x 81 .aB,.r 5 (.int .u8)],[],false,false,false,false,fun a l=>fu F a.1 l.1 l.2.1⟩
theorem fA:∀ F:Nat,av Tryz.prog (aw mx) (lG F) ∧ av Tryz.prog (aw mx) (dU F)
 | 0=>⟨cH ⟨Tryz.call64⟩ rfl fun a l=>rfl,cH ⟨Tryz.call25⟩ rfl fun a l=>rfl⟩
 | F + 1=>⟨ak (B0:=BB) (L:=LL) (G:=[cO F,dU F]) 22 ⟨Tryz.call64⟩ Tryz.func64 Tryz.ntmps64 rfl (Nat.le_of_ble_eq_true rfl) rfl ⟨dn F,(fA F).2,trivial⟩ (.two (.no) (.two (.two (.no) (.loop ⟨[0,9,10],[],[]⟩ [.s 11 (.int .i64),.x 1 81 .aB 2,.r 2 5 (.int .u8)] [(.x (some 0),[.x 1 81 .aB 2,.r 2 5 (.int .u8)])] (.no))) (.no))) [] F fun a l=>by kernel_rfl,
  ak (B0:=BB) (L:=LL) (G:=[fC F,cO F,im F,fD F,lG F,dU F]) 151 ⟨Tryz.call25⟩ Tryz.func25 Tryz.ntmps25 rfl (Nat.le_of_ble_eq_true rfl) rfl ⟨ij F,dn F,lT F,sx F,(fA F).1,(fA F).2,trivial⟩ (.two (.no) (.two (.no) (.two (.no) (.two (.no) (.qx ⟨[0],[],[]⟩ [.x 1 81 .aB 2,.r 2 5 (.int .u8)] [(.x none,[.x 1 81 .aB 2,.r 2 5 (.int .u8)])] (.no) (.no)))))) [] F fun a l=>by kernel_rfl⟩
theorem su (F:Nat):av Tryz.prog (aw mx) (dU F):=(fA F).2
def iB (F:Nat):bJ DD pk:=⟨66,[.k],[.p (.ptr 1 0)],[1,2],[.x 81 .aB,.r 5 (.int .u8)],[.str],false,false,false,true,fun a l=>iz F l.1 l.2.1⟩
theorem ox (F:Nat):av Tryz.prog (aw mx) (iB F):=ak (B0:=BB) (L:=LL) (G:=[]) 14 ⟨Tryz.call66⟩ Tryz.func66 Tryz.ntmps66 rfl (Nat.le_of_ble_eq_true rfl) rfl trivial (.two (.no) (.two (.hY [⟨0,[0],[]⟩,⟨1,[3],[]⟩,⟨2,[4],[]⟩,⟨3,[5],[1,2]⟩,⟨4,[6],[2,100107]⟩,⟨5,[0],[]⟩,⟨6,[8],[]⟩,⟨7,[9],[]⟩,⟨8,[10],[1,2]⟩,⟨9,[11],[2]⟩] [10,11] []) (.no))) [] F fun a l=>by kernel_rfl
def qL (F:Nat):bJ DD pk:=⟨27,[.d (.str)],[],[],[],[.st .Problem],true,false,false,false,fun a l=>qH F a.1⟩
theorem xI (F:Nat):av Tryz.prog (aw mx) (qL F):=ak (B0:=BB) (L:=LL) (G:=[iP F]) 11 ⟨Tryz.call27⟩ Tryz.func27 Tryz.ntmps27 rfl (Nat.le_of_ble_eq_true rfl) rfl ⟨lu F,trivial⟩ (.no) [] F fun a l=>by kernel_rfl
def me (F:Nat):bJ DD pk:=⟨26,[.k,.k],[.p (.ptr 1 0),.fn 27],[1,2],[.x 81 .aB,.r 5 (.int .u8)],[.str,.int .i64],false,false,false,true,fun a l=>lR F l.1 l.2.1⟩
theorem ss (F:Nat):av Tryz.prog (aw mx) (me F):=ak (B0:=BB) (L:=LL) (G:=[ga F,iB F,qL F]) 29 ⟨Tryz.call26⟩ Tryz.func26 Tryz.ntmps26 rfl (Nat.le_of_ble_eq_true rfl) rfl ⟨ka F,ox F,xI F,trivial⟩ (.two (.no) (.join ⟨[0,1],[],[]⟩ [.x 1 81 .aB 2,.r 2 5 (.int .u8)] (.no) (.no))) [] F fun a l=>by kernel_rfl
def s6 (F:Nat):bJ DD pk:=⟨11,[.d (.st .Source)],[],[],[],[.str,.int .i64],true,false,false,false,fun a l=>sZ F a.1⟩
theorem AL (F:Nat):av Tryz.prog (aw mx) (s6 F):=ak (B0:=BB) (L:=LL) (G:=[((cO F).sw 1 110).sw 2 100110,((dU F).sw 1 110).sw 2 100110,((me F).sw 1 110).sw 2 100110]) 43 ⟨Tryz.call11⟩ Tryz.func11 Tryz.ntmps11 rfl (Nat.le_of_ble_eq_true rfl) rfl ⟨((dn F).sw 1 110).sw 2 100110,((su F).sw 1 110).sw 2 100110,((ss F).sw 1 110).sw 2 100110,trivial⟩ (.two (.no) (.two (.no) (.two (.no) (.two (.two (.no) (.loop ⟨[1,4,15,16,17],[101,110,100110],[]⟩ [] [(.x (some 0),[])] (.no))) (.two (.no) (.two (.two (.no) (.loop ⟨[4,29,30],[],[]⟩ [.s 31 (.int .i64),.x 110 81 .aB 100110,.r 100110 5 (.int .u8)] [(.x (some 2),[.x 110 81 .aB 100110,.r 100110 5 (.int .u8)])] (.no))) (.no))))))) [9,10] F fun a l=>by kernel_rfl
def kS (F:Nat):bJ DD pk:=⟨13,[.d (.str),.d (.int .i64),.d (.int .i64)],[],[],[],[.bool],true,false,false,false,fun a l=>eG F a.1 a.2.1 a.2.2.1⟩
theorem qN (F:Nat):av Tryz.prog (aw mx) (kS F):=ak (B0:=BB) (L:=LL) (G:=[iP F]) 19 ⟨Tryz.call13⟩ Tryz.func13 Tryz.ntmps13 rfl (Nat.le_of_ble_eq_true rfl) rfl ⟨lu F,trivial⟩ (.no) [] F fun a l=>by kernel_rfl
def lE (F:Nat):bJ DD pk:=⟨5,[],[],[],[],[.bool],true,false,false,false,fun a l=>dz F⟩
theorem rK (F:Nat):av Tryz.prog (aw mx) (lE F):=ak (B0:=BB) (L:=LL) (G:=[lF F,lZ F,s6 F,iP F,kS F]) 111 ⟨Tryz.call5⟩ Tryz.func5 Tryz.ntmps5 rfl (Nat.le_of_ble_eq_true rfl) rfl ⟨rL F,sn F,AL F,lu F,qN F,trivial⟩ (.two (.no) (.two (.no) (.two (.hY [⟨1,[1],[101]⟩,⟨4,[],[102]⟩,⟨0,[],[]⟩,⟨2,[17,18],[]⟩,⟨3,[19],[]⟩] [5] []) (.no)))) [] F fun a l=>by kernel_rfl
def lJ (F:Nat):bJ DD pk:=⟨3,[.d (.int .u8)],[],[],[],[.bool],true,false,false,false,fun a l=>cF F a.1⟩
theorem lI (F:Nat):av Tryz.prog (aw mx) (lJ F):=ak (B0:=BB) (L:=LL) (G:=[uJ F,lE F]) 97 ⟨Tryz.call3⟩ Tryz.func3 Tryz.ntmps3 rfl (Nat.le_of_ble_eq_true rfl) rfl ⟨Bi F,rK F,trivial⟩ (.two (.no) (.two (.no) (.two (.no) (.two (.no) (.two (.no) (.two (.no) (.two (.two (.no) (.loop ⟨[3],[],[]⟩ [.s 4 (.str),.s 5 (.str),.s 6 (.str),.s 7 (.str),.s 8 (.int .i64)] [(.x (some 0),[.s 4 (.str),.s 5 (.str),.s 6 (.str),.s 7 (.str)])] (.no))) (.two (.no) (.two (.no) (.two (.no) (.two (.no) (.two (.no) (.two (.no) (.join ⟨[10,12,14,15],[110,112,114],[]⟩ [.s 16 (.int .i64)] (.no) (.no))))))))))))))) [] F fun a l=>by kernel_rfl
end Go.Dn
namespace Go.Dn
open Go Go.Sk Go.Proofs
open X
set_option linter.unusedVariables false
set_option maxRecDepth 100000
def bK (F:Nat) (x2:Int):Option Bool:=Option.bind (iter F (fun (x3:Str × Str × Str × Str × Int)=>((if (decide (x3.2.2.2.2 < x2)) = true then Option.bind (bV x3.1 ([40]:Str)) fun x5=>Option.bind (bV x3.2.1 ([41]:Str)) fun x6=>Option.bind (bV x3.2.2.1 ([45]:Str)) fun x7=>Option.bind (bV x3.2.2.2.1 ([110,111,116,32]:Str)) fun x8=>some (.inl (x5,x6,x7,x8,(IntKind.i64.wrap (x3.2.2.2.2 + (1:Int))))) else some (.inr (x3.1,x3.2.1,x3.2.2.1,x3.2.2.2.1))):Option ((Str × Str × Str × Str × Int) ⊕ (Str × Str × Str × Str)))) (([]:Str),([]:Str),([]:Str),([]:Str),(0:Int))) (fun x10=>Option.bind (bV x10.1 ([49]:Str)) fun x11=>Option.bind (bV x11 x10.2.1) fun x12=>Option.bind (eV F x12) fun x13=>Option.bind (bV x10.2.2.1 ([32,49]:Str)) fun x14=>Option.bind (eV F x14) fun x15=>Option.bind (bV x10.2.2.2 ([97]:Str)) fun x16=>Option.bind (eV F x16) fun x17=>(if (decide (x2 ≤ (40:Int))) = true then Option.bind (some true) fun x19=>some (((x19 && (decide (x13.2 = (⟨(0:Int),(0:Int)⟩:Problem)))) && (decide (x15.2 = (⟨(0:Int),(0:Int)⟩:Problem)))) && (decide (x17.2 = (⟨(0:Int),(0:Int)⟩:Problem)))) else Option.bind ((if (decide (x2 = (41:Int))) = true then some (IntKind.i64.wrap ((41:Int) + (1:Int))) else some (41:Int)):Option (Int)) fun x28=>Option.bind (some true) fun x29=>some (((x29 && (decide (x13.2 = (⟨(41:Int),(2:Int)⟩:Problem)))) && (decide (x15.2 = (⟨x28,(2:Int)⟩:Problem)))) && (decide (x17.2 = (⟨(IntKind.i64.wrap ((4:Int) * (41:Int))),(2:Int)⟩:Problem))))))
theorem Kg (F:Nat) (n:Int) (h:dz F = some true):cF F n = Option.bind (nD (IntKind.i64.wrap n) (100:Int)) (bK F):=by
 unfold cF
 rw [h]
 rfl
theorem sane:dz 2000 = some true:=by decide +kernel
end Go.Dn
