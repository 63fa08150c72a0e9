/- part of the proof: the denotation of a walk -/
import Derived.Test.YthjfhibfcchjoaaGreatDoorD1
import Derived.Lib.Builder
set_option linter.unusedSectionVars false
set_option linter.unusedSimpArgs false
set_option linter.unusedVariables false
open Go.IntKind (i8 i16 i32 i64 u8 u16 u32 u64)
namespace Go.Dn
open Go Go.Sk
variable {D:Dt}
def Gb (os:List Oper) (s:bG D) (o:Oper):Option (Option (Nat×Bool)):=match o.guard with
 | none=>some none
 | some (i,w)=>match (os[i]?).bind (·.dst) with
  | none=>none
  | some t=>match lk s.sl t with
   | some (.gb j)=>if j=i/\(zH s.Γ i).isSome=true then some (some (i,w)) else none
   | _=>none
def fzK (s:bG D) (o:Oper):List Nat:=match o.guard,o.op with
 | none,.call ⟨.value _,⟨xs⟩,_⟩=>xs.filterMap fun x=>match s.ev none x with
  | some (.p (.row k))=>some k
  | _=>none
 | _,_=>[]
def fgK (s:bG D) (o:Oper):List Nat:=match o.guard,o.op with
 | none,.call ⟨.builtin .append,⟨[x,_]⟩,_⟩=>(match s.ev none x with
  | some (.p (.row k))=>s.own.filterMap fun p=>match p.2 with
   | .x _ _ _ kr false _=>if kr==k then some p.1 else none
   | _=>none
  | _=>[])
 | none,.call ⟨.builtin .unsafeString,⟨[x,_]⟩,_⟩=>(match s.ev none x with
  | some (.p (.gO k _))=>s.own.filterMap fun p=>match p.2 with
   | .x _ _ _ kr false _=>if kr==k then some p.1 else none
   | _=>none
  | _=>[])
 | _,_=>[]
def imK {P:Program} {TB:aH} (B0:Tb P D TB) (s:bG D) (o:Oper):List Nat:=match o.guard,o.op with
 | none,.load t x=>(match s.ev none x with
  | some (.p (.ptr k 0))=>(match lk s.own k,B0.ty t with
   | some (.x _ _ _ _ _ _),some (.st _)=>[k]
   | _,_=>[])
  | _=>[])
 | _,_=>[]
def fbK (s:bG D) (o:Oper):List Nat:=match o.guard,o.op with
 | none,.slice _ x none none none=>(match s.ev none x with
  | some (.p (.ptr k _))=>[k]
  | _=>[])
 | _,_=>[]
section
variable {P:Program} [DecidableEq D.σ] {pk:PK D} {TB:aH} (B0:Tb P D TB) (L:Lay D) {X:Type} (G:List (bK D pk))
def preC (lk0:Kept) (s:bG D) (o:Oper):Option (bG D):=(J0 lk0 (fzK s o) s).bind fun s1=>(fgC lk0 (fgK s1 o) s1).bind fun s2=>(Ga L lk0 (imK B0 s2 o) s2).bind fun s3=>IW lk0 (fbK s3 o) s3
def panv (s:bG D) (g:Option (Nat×Bool)) (x:Operand) (W:D.T pk.d->bG D->Option X):Option X:=match g with
 | none=>(s.ev none x).bind fun a=>match a with
  | .ifc T (.st d) v=>if h:T=pk.T/\d=pk.d then W (h.2▸v) (Hs s []) else none
  | _=>none
 | some _=>none
def ope (fr:Fr) (s:bG D) (g:Option (Nat×Bool)) (o:Oper) (K:Ef D->Option X) (W:D.T pk.d->bG D->Option X):Option X:=match o.op with
 | .call ⟨.value (.func f),⟨[y]⟩,_⟩=>(match B0.cl f,g with
  | some q,none=>(s.ev none y).bind fun a=>(gT (.sl q.2) a).bind fun l=>(bU ([]:List (V D q.2)) l).bind fun z=>K { z:=some (.n (.p (.row (key o.dst)))),st:=[(key o.dst,.row q.1 q.2 z)],nw:=[key o.dst] }
  | some _,some _=>none
  | none,g=>HH G s g (.func f) [y] K W)
 | .call ⟨.value x,⟨xs⟩,_⟩=>HH G s g x xs K W
 | .panic x=>panv s g x W
 | op=>if isXo fr s o=true then (match g with
  | none=>opxX B0 L s o K
  | some _=>none) else match isW fr o,g with
  | true,none=>opx B0 L s o K
  | true,some _=>none
  | false,_=>opw B0 L s g (otyp o) op fun z=>K { z:=some z }
def n5:List Nat->List (Nat×TS D)->List (Nat×TS D)
 | [],l=>l
 | k::ks,l=>n5 ks (yM k l)
def uD:List (Nat×TO D)->List (Nat×TO D)->List (Nat×TO D)
 | [],own=>own
 | p::l,own=>uD l (ins p.1 p.2 own)
def Ef.JL (fr:Fr) (dst:Option Nat) (e:Ef D) (s:bG D):bG D:=match e.z with
 | some z=>bG.put fr.n dst z ⟨n5 (e.nr++e.nw) s.sl,qC e.dl (uD e.st s.own),s.Γ⟩
 | none=>⟨n5 (e.nr++e.nw) s.sl,qC e.dl (uD e.st s.own),s.Γ⟩
def JV (fr:Fr) (lk0:Kept) (s:bG D) (dst:Option Nat) (e:Ef D):Bool:=(!e.nd||gW (s.own.map (·.1)))&&lok lk0.s dst&&((e.dl.all fun k=>!lk0.o.contains k)&&(e.st.all fun p=>!lk0.o.contains p.1)&&((e.nr.all fun k=>!fr.fx.contains k&&s.own.all fun p=>(e.st.map (·.1)).contains p.1||xR k [p])&&((e.nw.all fun k=>!fr.fx.contains k&&xR k s.own)&&(e.nr++e.nw).all fun k=>lk0.s.all fun t=>match vl s t with
 | some x=>!pa k x
 | none=>true)))
def ops (fr:Fr) (lk0:Kept) (os:List Oper):List Oper->bG D->(bG D->Option X)->(D.T pk.d->bG D->Option X)->Option X
 | [],s,K,_=>K s
 | o::l,s,K,W=>(wg os s o).bind fun q=>(preC B0 L lk0 q.1 o).bind fun s1=>(Gb os s1 o).bind fun g=>ope B0 L G fr s1 g o (fun e=>if JV fr lk0 s1 o.dst e=true then ops fr lk0 os l (e.JL fr o.dst s1) K W else none) W
def plain (Γ:List GE):TS D->Option (TS D)
 | .n x=>some (.n x)
 | .gb i=>match zH Γ i with
  | some (none,b)=>some (.n (.d .bool b))
  | _=>none
 | _=>none
def clean (s:bG D):bG D:=⟨s.sl.filterMap fun p=>(plain s.Γ p.2).map fun x=>(p.1,x),s.own,[]⟩
end
section
variable {P:Program} [DecidableEq D.σ] {pk:PK D} {TB:aH} {B0:Tb P D TB} {L:Lay D} {X:Type} {E:Env TB} {n:Sh} {s0:St} {s s':bG D} {o:Oper} {os l:List Oper} {g:Option (Nat×Bool)} {K:bG D->Option X} {r:X} {G:List (bK D pk)} {a:Act} {w:World} {Q:bH} {lcks lo:List Nat}
theorem aj.ofStep {st st':St} {ops:Array Oper} (h:cb P E n ops o st st') (h2:aj P E n ops l st' Q):aj P E n ops (o::l) st Q:=by
 intro a w hr
 unfold zk
 exact h a w hr _ Q fun a' w' hr'=>h2 a' w' hr'
theorem aj.preR {st st':St} {ops:Array Oper} (h:∀ a w,R E n st a w->R E n st' a w) (h2:aj P E n ops l st' Q):aj P E n ops l st Q:=fun a w hr=>h2 a w (h a w hr)
theorem stepG {i t:Nat} {w':Bool} {x:T0 D} {ops:Array Oper} (ha:qV s s0) (hg:o.guard=some (i,w')) (hj:(ops[i]?).bind (·.dst)=some t) (hG:nh s0 t w' (gv s.Γ (i,w')))
 (h1:gv s.Γ (i,w')=true->aR P E n o ⟨F5 s (i,w')++s0.slots,s0.own⟩ (St.put n o.dst (.b x.bv) ⟨F5 s (i,w')++s0.slots,s0.own⟩)):cb P E n ops o s0 (s0.put n o.dst (.opt (gv s.Γ (i,w')) x.bv)):=by
 intro a w hr K Q hk
 have b0:=hG.wanted hg hj hr
 cases hb:gv s.Γ (i,w') with
 | true=>
  rw[hb] at b0
  simp only[b0,if_true]
  refine h1 hb a w (ha.open hb hr) _ _ fun a' w2 hr'=>hk a' w2 ?_
  obtain⟨e1,e2,h,ρ,hw,hs⟩:=hr'
  rw[hb]
  cases hd:o.dst with
  | none=>
   rw[hd] at hw hs
   exact⟨e1,e2,h,ρ,hw,fun k y hy=>hs k y (List.mem_append_right _ hy)⟩
  | some d=>
   rw[hd] at hw hs
   simp only[St.put,St.set] at hw hs ⊢
   split
   next b1=>
    rw[if_pos b1] at hw hs
    refine⟨e1,e2,h,ρ,hw,fun k y hy=>?_⟩
    rcases List.mem_cons.1 hy with e|e
    cases e
    obtain⟨v,hv,b2⟩:=hs _ _ List.mem_cons_self
    exact⟨v,hv,fun _=>b2,fun e=>by cases e⟩
    exact hs k y (List.mem_cons_of_mem _ (db (List.mem_append_right _ (cj e).1) (cj e).2))
   next b1=>
    rw[if_neg b1] at hw hs
    exact⟨e1,e2,h,ρ,hw,fun k y hy=>hs k y (List.mem_append_right _ hy)⟩
 | false=>
  rw[hb] at b0
  simp only[b0,Bool.false_eq_true,if_false]
  refine hk _ _ ?_
  rw[hb]
  obtain⟨hdf,hn,h,ρ,hw,hsl⟩:=hr
  exact R.put (s:=s0) hdf hn hw hsl ⟨fun e=>by simp at e,fun _=>rfl⟩
theorem E6 {t i:Nat} {p:Option (Nat×Bool)} {b:Bool} {z:TS D} (hz:lk s.sl t=some z) (hu:Cj i (del t s.sl)=true) (hp:∀ x,z=.n x->p=none/\x=.d .bool b) (hn:∀ j,z≠.gb j):Ext lcks lo s (⟨(t,.gb i)::del t s.sl,s.own,⟨i,p,b⟩::s.Γ⟩:bG D):=by
 refine⟨fun k _ x hx=>?_,fun k _ c hc=>hc⟩
 by_cases e:k=t
 subst e
 unfold vl at hx ⊢
 rw[hz] at hx
 simp only[lk,beq_self_eq_true,if_true,zH]
 cases z with
 | n y=>obtain⟨rfl,rfl⟩:=hp y rfl;exact hx
 | gb j=>exact absurd rfl (hn j)
 | u l=>cases hx
 | o g y=>cases hx
 unfold vl at hx ⊢
 have hl:lk ((t,TS.gb i)::del t s.sl) k=lk s.sl k:=by simp only[lk];rw[if_neg (by simpa using e),mL e]
 simp only[hl]
 split at hx
 exact hx
 next j hj=>
  have h2:=xX hu (bj (by rw[mL e];exact hj))
  have:¬ i=j:=fun e'=>by simp[tagged,e'] at h2
  simp only[zH,this,if_false]
  exact hx
 cases hx
theorem CJ (h:wg os s o=some (s',g)):Ext lcks lo s s':=by
 unfold wg at h
 split at h
 cases h;exact .refl
 split at h
 cases h
 split at h
 split at h
 cases h;exact .refl
 cases h
 next b hb=>
  split at h
  next hu=>cases h;exact E6 hb hu (fun x e=>by cases e;exact⟨rfl,rfl⟩) (fun j e=>by cases e)
  cases h
 next q b hb=>
  split at h
  next hu=>cases h;exact E6 hb hu.1 (fun x e=>by cases e) (fun j e=>by cases e)
  cases h
 cases h
theorem Kf {α β:Type} {f:α->Option β}:∀ {l:List (Nat×α)} {t:Nat} {x:α} {y:β},lk l t=some x->f x=some y->lk (l.filterMap fun p=>(f p.2).map fun z=>(p.1,z)) t=some y
 | [],t,x,y,h,_=>by simp[lk] at h
 | (j,z)::l,t,x,y,h,hy=>by
  by_cases e:t=j
  subst e
  have:z=x:=by simpa[lk] using h
  subst this
  simp only[List.filterMap_cons,hy,Option.map_some,lk,beq_self_eq_true,if_true]
  have h':lk l t=some x:=by simpa[lk,e] using h
  have ih:=Kf h' hy
  simp only[List.filterMap_cons]
  split
  exact ih
  next q hq=>
   cases hb:f z with
   | none=>rw[hb] at hq;cases hq
   | some w=>
    rw[hb] at hq
    cases hq
    simp only[lk]
    rw[if_neg (by simpa using e)]
    exact ih
theorem CN:Ext lcks lo s (clean s):=by
 refine⟨fun t _ x hx=>?_,fun k _ c hc=>hc⟩
 unfold vl at hx
 split at hx
 next y hy=>
  cases hx
  have:=Kf (f:=plain s.Γ) hy (y:=.n x) rfl
  unfold vl clean
  simp only[this]
 next i hi=>
  split at hx
  next b hb=>
   cases hx
   have:=Kf (f:=plain s.Γ) hi (y:=.n (.d .bool b)) (by simp[plain,hb])
   unfold vl clean
   simp only[this]
  cases hx
 cases hx
theorem IJ (hr:R E n s.st a w):R E n (clean s).st a w:=by
 obtain⟨h1,h2,hh,ρ,hw,hs⟩:=hr
 refine⟨h1,h2,hh,ρ,hw,fun k x hx=>?_⟩
 obtain⟨y,hy,rfl⟩:=ey.1 hx
 simp only[clean,List.mem_filterMap] at hy
 obtain⟨⟨j,z⟩,hm,hz⟩:=hy
 obtain⟨u,hu,e⟩:=Option.map_eq_some_iff.1 hz
 cases e
 obtain⟨v,hv,b0⟩:=hs _ _ (ey.2 ⟨z,hm,rfl⟩)
 refine⟨v,hv,?_⟩
 cases z with
 | n y=>cases hu;exact b0
 | gb i=>
  simp only[plain] at hu
  split at hu
  next b hb=>
   cases hu
   simp only[TS.sv,hb] at b0
   exact b0
  cases hu
 | u l=>cases hu
 | o g y=>cases hu
theorem panv_ok {x:Operand} {dst:Option Nat} {ty:TypeId} {pos:String} {after:Array Edge} {g':Option (Nat×Bool)} {W:D.T pk.d->bG D->Option X} (h:panv s g x W=some r):g=none/\∃ p ow,W p ow=some r/\∀ s0,qV s s0->PanE P E n s0 ⟨dst,.panic x,ty,pos,after,g'⟩ pk p ow:=by
 unfold panv at h
 split at h
 obtain⟨a,ha,h1⟩:=aK h
 split at h1
 next T d v=>
  split at h1
  next e=>
   obtain⟨rfl,rfl⟩:=e
   refine⟨rfl,v,_,h1,fun s0 hs a w hr next Q hq=>?_⟩
   have hx:=hs.ev ha
   have hr0:=hr
   obtain⟨_,_,h1,ρ,hw,hsl⟩:=hr
   obtain⟨e1,e2⟩:=pk.sp _ _ _ (aE hsl hx:(CP.zl pk.T (D.e pk.d v)).rel h1 _)
   unfold Oper.wp
   have b0:(execOp a.eval ⟨dst,.panic x,ty,pos,after,g'⟩).run P w=.halt (.panic (pk.pv v)) w:=by
    show (do let v ← Instr.panic (a.eval x);pure (Next.value v):Sem Next).run P w=_
    rw[e1]
    have:∃ T c,pk.pv v=.iface T c:=by
     have:=aE hsl hx
     obtain⟨cs,e3,_⟩:=(this:(CP.zl pk.T (D.e pk.d v)).rel h1 _)
     exact⟨_,_,by rw[← e1];exact e3⟩
    obtain⟨T,c,e4⟩:=this
    rw[e4]
    rfl
   rw[b0]
   exact hq e2 a w (sr (fun p hp=>EU hs p hp) (fun p hp=>(AF hs.own p hp).1) hr0)
  cases h1
 cases h1
 cases h
theorem I4.toE {z:TS D} (h:I4 P E n s s0 g o z):J4 P E n s s0 g o { z:=some z }:=by
 cases g with
 | none=>exact h
 | some q=>obtain⟨x,e,h⟩:=h;exact⟨x,_,by rw[e],h⟩
theorem Mr {f:FuncId} {k:Nat} {args:List BV} {T:TypeId} {size:Nat} {es:List (List CP)} {dst:Option Nat} {xs:Array Operand} {ats:Array TypeId} {ty:TypeId} {pos:String} {after:Array Edge} {g:Option (Nat×Bool)} (hm:aI P TB f [] args (Is [(k,.row T size es)] (.b (.row k)))) (hgo:dM P f) (ha:ig s0 xs.toList=some args) (hfx:n.fix.contains k=false) (hnu:dy k s0.own=true) :
 aR P E n ⟨dst,.call ⟨.value (.func f),xs,ats⟩,ty,pos,after,g⟩ s0 ((⟨cu k s0.slots,ins k (.row T size es) s0.own⟩:St).put n dst (.b (.row k))):=by
 have h1:hZ n [] [(k,OC.row T size es)]=true:=by simp only[hZ,hfx,Bool.not_false,Bool.or_true,Bool.and_self]
 have h2:(SV.b (.row k)).bn [(k,OC.row T size es)]=true:=by simp[SV.bn,BV.bn,lK]
 have h3:iG s0.own [] [(k,OC.row T size es)]=true:=by
  simp only[iG,Bool.and_eq_true,List.all_eq_true]
  refine⟨fun p hp=>by cases List.mem_singleton.1 hp;rfl,fun p hp j hj=>?_⟩
  have hj:j=k:=by simpa[ai] using hj
  subst hj
  have hp:p∈s0.own:=hp
  obtain⟨i,c⟩:=p
  simp[q9 hnu hp]
 exact dN (dst:=dst) (ty:=ty) (pos:=pos) (after:=after) (g:=g) (ats:=ats) hm hgo ha trivial h1 h2 h3
theorem KD {fr:Fr} {K:Ef D->Option X} {W:D.T pk.d->bG D->Option X} (hG:F6 P TB G) (h:ope B0 L G fr s g o K W=some r) :
 (∃ e,K e=some r/\∀ s0,qV s s0->I5 n s0 e->J4 P E n s s0 g o e)∨(g=none/\∃ p ow,W p ow=some r/\∀ s0,qV s s0->PanE P E n s0 o pk p ow):=by
 obtain⟨dst,op,ty,pos,after,g'⟩:=o
 unfold ope at h
 split at h
 next f y ats ho=>
  simp only at ho
  subst ho
  split at h
  next _ q hq=>
   obtain⟨hgo,hm⟩:=B0.cJ _ _ hq
   obtain⟨a,ha,h1⟩:=aK h
   obtain⟨l,hl,h2⟩:=aK h1
   obtain⟨z,hz,h3⟩:=aK h2
   cases dw hl
   refine .inl ⟨_,h3,fun s0 hs hn=>?_⟩
   obtain⟨hnu,hfx⟩:=hn.1.1 _ List.mem_cons_self
   have hk:aI P TB f [] [je D (.sl q.2) l] (Is [(key dst,.row q.1 (sz D q.2) (z.map (enc D q.2)))] (.b (.row (key dst)))):=by
    have e0:swp 0 (key dst) 0=key dst:=by simp[swp]
    have h':aI P TB f [] [je D (.sl q.2) l] (Is [(swp 0 (key dst) 0,.row q.1 (sz D q.2) (z.map (enc D q.2)))] (.b (.row (swp 0 (key dst) 0)))):=aI.sw (hm l z hz) 0 (key dst)
    rw[e0] at h'
    exact h'
   exact Mr hk hgo (by
    show (ig s0 [y])=_
    simp only[ig,evB,hs.ev ha]
    rfl) hfx hnu
  cases h
  exact Fm hG h
 next x xs ats _ ho=>
  simp only at ho
  subst ho
  exact Fm hG h
 next x ho=>
  simp only at ho
  subst ho
  exact .inr (panv_ok h)
 split at h
 split at h
 obtain⟨e,he,h1⟩:=opxX_ok h
 exact .inl ⟨e,he,fun s0 ha hn=>h1 s0 ha hn⟩
 cases h
 split at h
 obtain⟨e,he,h1⟩:=opx_ok h
 exact .inl ⟨e,he,fun s0 ha hn=>h1 s0 ha hn⟩
 cases h
 obtain⟨z,hz,h1⟩:=opw_w (P:=P) (E:=E) (n:=n) (dst:=dst) (ty:=ty) (pos:=pos) (after:=after) (g':=g') h
 exact .inl ⟨_,hz,fun s0 ha _=>I4.toE (h1 ha)⟩
theorem tE {Γ:List GE}:∀ {ks:List Nat} {l:List (Nat×TS D)},iU ks (oK Γ l)=oK Γ (n5 ks l)
 | [],_=>rfl
 | k::ks,l=>by
  show iU ks (cu k (oK Γ l))=_
  rw[vQ]
  exact tE (ks:=ks)
theorem yu:∀ {l own:List (Nat×TO D)},bN (bw l) (bw own)=bw (uD l own)
 | [],_=>rfl
 | p::l,own=>by
  show bN (bw l) (ins p.1 p.2.oc (bw own))=_
  rw[AT]
  exact yu (l:=l)
theorem Ig {α:Type} {k:Nat}:∀ {ks:List Nat} {l:List (Nat×α)},k ∉ ks->lk (qC ks l) k=lk l k
 | [],_,_=>rfl
 | j::ks,l,h=>by
  show lk (qC ks (del j l)) k=_
  rw[Ig fun h'=>h (List.mem_cons_of_mem _ h'),mL fun e=>h (by rw[e];exact List.mem_cons_self)]
theorem yz:∀ {ks:List Nat} {l:List (Nat×TO D)},qC ks (bw l)=bw (qC ks l)
 | [],_=>rfl
 | k::ks,l=>by
  show qC ks (del k (bw l))=_
  rw[q5]
  exact yz (ks:=ks)
theorem apT_st {fr:Fr} {dst:Option Nat} {e:Ef D} (hn:n.n=fr.n):(e.JL fr dst s).st=e.ap n s.Γ dst s.st:=by
 unfold Ef.JL Ef.ap
 cases e.z with
 | none=>simp only[bG.st];rw[← tE,← yz,← yu]
 | some z=>
  simp only
  rw[← hn,put_st]
  simp only[bG.st]
  rw[← tE,← yz,← yu]
theorem Dw {j:Nat}:∀ {l own:List (Nat×TO D)},(∀ p∈l,p.1≠j)->lk (uD l own) j=lk own j
 | [],_,_=>rfl
 | p::l,own,h=>by
  show lk (uD l (ins p.1 p.2 own)) j=_
  rw[Dw fun q hq=>h q (List.mem_cons_of_mem _ hq),qH (fun e=>h p List.mem_cons_self e.symm)]
theorem Ct {t:Nat} {x:T0 D} {own:List (Nat×TO D)}:∀ {ks:List Nat} {l:List (Nat×TS D)} {Γ:List GE},(∀ k∈ks,pa k x=false)->vl ⟨l,own,Γ⟩ t=some x->vl ⟨n5 ks l,own,Γ⟩ t=some x
 | [],_,_,_,h=>h
 | k::ks,l,Γ,hk,h=>by
  refine Ct (ks:=ks) (fun k hk'=>hk k (List.mem_cons_of_mem _ hk')) ?_
  have h6:=hk k List.mem_cons_self
  unfold vl at h ⊢
  simp only at h ⊢
  split at h
  next y hy=>cases h;rw[AQ (k:=k) (show nk k (.n x)=false from h6) hy]
  next i hi=>rw[AQ (k:=k) (show nk k (.gb i)=false from rfl) hi];exact h
  cases h
theorem LP {fr:Fr} {lk0:Kept} {dst:Option Nat} {e:Ef D} (h:JV fr lk0 s dst e=true):Ext lk0.s lk0.o s (e.JL fr dst s):=by
 simp only[JV,Bool.and_eq_true,List.all_eq_true,Bool.not_eq_true'] at h
 obtain⟨⟨_,h1⟩,⟨h0,h2⟩,_,_,h3⟩:=h
 have hx:Ext lk0.s lk0.o s ⟨n5 (e.nr++e.nw) s.sl,qC e.dl (uD e.st s.own),s.Γ⟩:=by
  refine⟨fun t ht x hx=>?_,fun k hk c hc=>?_⟩
  refine Ct (fun k hk=>?_) (show vl ⟨s.sl,uD e.st s.own,s.Γ⟩ t=some x from hx)
  have:=h3 k hk t ht
  rw[hx] at this
  simpa using this
  show lk (qC e.dl (uD e.st s.own)) k=_
  rw[Ig fun h=>by have:=h0 k h;simp at this;exact this hk]
  rw[Dw fun p hp e=>?_]
  exact hc
  have:=h2 p hp
  subst e
  simp at this
  exact this hk
 unfold Ef.JL
 cases e.z with
 | none=>exact hx
 | some z=>exact hx.trans (H' h1)
theorem mQ:∀ {l:List Nat},gW l=true->l.Nodup
 | [],_=>List.nodup_nil
 | a::l,h=>by
  simp only[gW,Bool.and_eq_true,Bool.not_eq_true'] at h
  exact List.nodup_cons.2 ⟨by simpa using h.1,mQ h.2⟩
theorem okEf_nw {fr:Fr} {lk0:Kept} {dst:Option Nat} {e:Ef D} (hf:n.fix=fr.fx) (h:JV fr lk0 s dst e=true):I5 n s.st e:=by
 simp only[JV,Bool.and_eq_true,List.all_eq_true,Bool.not_eq_true',Bool.or_eq_true] at h
 obtain⟨⟨h0,h1⟩,_,h3,h3',_⟩:=h
 refine⟨⟨fun k hk=>?_,fun k hk=>?_⟩,fun hd=>?_⟩
 obtain⟨h4,h5⟩:=h3' k hk
 exact⟨vM h5,by rw[hf];exact h4⟩
 obtain⟨h4,h5⟩:=h3 k hk
 refine⟨by rw[hf];exact h4,fun p hp hpk=>?_⟩
 obtain⟨q,hq,e⟩:=List.mem_map.1 hp
 subst e
 rcases h5 q hq with h6|h6
 exact absurd (by simpa using h6) hpk
 have:=vM h6
 simpa[dy,bw] using this
 rcases h0 with h0|h0
 rw[hd] at h0;cases h0
 have:ai s.st.own=s.own.map (·.1):=by simp[ai,bG.st,bw]
 rw[this]
 exact mQ h0
theorem Cz {e:Ef D} (ha:qV s s0) (hgo:GOf s s0 os o g) (h:J4 P E n s s0 g o e):cb P E n os.toArray o s0 (e.ap n s.Γ o.dst s0):=by
 cases g with
 | none=>exact cb.plain hgo h
 | some q=>
  obtain⟨x,nd,rfl,hx⟩:=h
  obtain⟨hg1,t,ht,hat⟩:=hgo
  exact stepG ha hg1 (by simpa using ht) hat hx
theorem Ix (h:Gb os s o=some g) (ha:qV s s0):GOf s s0 os o g:=by
 unfold Gb at h
 split at h
 next hg=>cases h;exact hg
 next i w hg=>
  split at h
  cases h
  next t ht=>
   split at h
   next j hj=>
    split at h
    next e=>
     obtain⟨e,hga⟩:=e
     subst e
     cases h
     refine⟨hg,t,ht,?_⟩
     cases hq:zH s.Γ j with
     | none=>rw[hq] at hga;cases hga
     | some q=>obtain⟨c,b⟩:=q;exact zU ha hj hq
    cases h
   cases h
theorem Jx (h:Gb os s o=some none):o.guard=none:=by
 unfold Gb at h
 split at h
 next hg=>exact hg
 split at h
 cases h
 split at h
 split at h<;>cases h
 cases h
theorem preC_ok {lk0:Kept} (h:preC B0 L lk0 s o=some s'):Ext lk0.s lk0.o s s'/\∀ a w,R E n s.st a w->R E n s'.st a w:=by
 obtain⟨s1,e1,h1⟩:=aK h
 obtain⟨s2,e2,h2⟩:=aK h1
 obtain⟨g1,g2⟩:=DJ (E:=E) (n:=n) e1
 obtain⟨g3,g4⟩:=GB (E:=E) (n:=n) e2
 obtain⟨s3,e3,h3⟩:=aK h2
 obtain⟨g5,g6⟩:=wy (E:=E) (n:=n) e3
 obtain⟨g7,g8⟩:=zV (E:=E) (n:=n) h3
 exact⟨g1.trans (g3.trans (g5.trans g7)),fun a w hr=>g8 a w (g6 a w (g4 a w (g2 a w hr)))⟩
theorem xM {fr:Fr} {lk0:Kept} {W:D.T pk.d->bG D->Option X} (hn:n.n=fr.n) (hf:n.fix=fr.fx) (hG:F6 P TB G) (hw:∀ p ow,W p ow=some r->pk.ok p->Fin E n (.panic (Et (pk.pv p))) ow.st Q):∀ {l:List Oper} {s:bG D},ops B0 L G fr lk0 os l s K W=some r->(∀ s',Ext lk0.s lk0.o s s'->K s'=some r->Fin E n .normal s'.st Q)->aj P E n os.toArray l s.st Q
 | [],s,h,hk=>by
  intro a w hr
  unfold zk
  exact hk s .refl h a w hr
 | o::l,s,h,hk=>by
  unfold ops at h
  obtain⟨⟨s1,g0⟩,e1,h0⟩:=aK h
  obtain⟨s2,e2,h0⟩:=aK h0
  obtain⟨g,e3,h1⟩:=aK h0
  obtain⟨_,_,h3,h4⟩:=AU (E:=E) (n:=n) e1
  obtain⟨hx2,hr2⟩:=preC_ok (E:=E) (n:=n) e2
  refine aj.preR (fun a w hr=>hr2 a w (h3 a w hr)) ?_
  have ha:=qV.self s2
  have hgo:=Ix e3 ha
  rcases KD (P:=P) (TB:=TB) (E:=E) (n:=n) hG h1 with ⟨e,h5,h6⟩|⟨rfl,p,ow,h5,h6⟩
  split at h5
  next hok=>
   have hst:=Cz ha hgo (h6 _ ha (okEf_nw hf hok))
   have ih:=xM hn hf hG hw (l:=l) h5 (fun s' he=>hk s' ((CJ e1).trans (hx2.trans ((LP hok).trans he))))
   rw[apT_st hn] at ih
   exact aj.ofStep hst ih
  cases h5
  intro a w hr
  unfold zk
  have:Region.wanted o (yielded os.toArray a.tmps)=true:=by simp[Region.wanted,show o.guard=none from hgo]
  simp only[this,if_true]
  exact h6 _ ha a w hr _ _ (hw p ow h5)
end
end Go.Dn
namespace Go.Dn
open Go Go.Sk
structure DR where
 i:Nat
 o:Oper
 rs:List Nat
 ks:List Nat
 x:Option SV
 st:List (Nat×OC)
 nw:List Nat
def DR.sl (r:DR) (l:List (Nat×SV)):List (Nat×SV):=match r.o.dst,r.x with
 | some d,some x=>(d,x)::del d l
 | _,_=>l
def DR.CU (r:DR) (s:St):St:=⟨r.sl s.slots,bN r.st s.own⟩
def DR.ap (n:Sh) (r:DR) (s:St):St:=match r.x with
 | some x=>(⟨iU r.nw s.slots,bN r.st s.own⟩:St).put n r.o.dst x
 | none=>⟨iU r.nw s.slots,bN r.st s.own⟩
def fo:List DR->St->St
 | [],s=>s
 | r::l,s=>fo l (r.CU s)
theorem Aq:∀ {l l':List DR} {s:St},fo (l++l') s=fo l' (fo l s)
 | [],_,_=>rfl
 | r::l,l',s=>Aq (l:=l)
def Eo (s t:St):Prop:=(∀ k,lk s.slots k=lk t.slots k)/\∀ k,lk s.own k=lk t.own k
theorem Eo.refl (s:St):Eo s s:=⟨fun _=>rfl,fun _=>rfl⟩
theorem Eo.symm {s t:St} (h:Eo s t):Eo t s:=⟨fun k=>(h.1 k).symm,fun k=>(h.2 k).symm⟩
theorem Eo.trans {s t u:St} (h:Eo s t) (h':Eo t u):Eo s u:=⟨fun k=>(h.1 k).trans (h'.1 k),fun k=>(h.2 k).trans (h'.2 k)⟩
def wr (r:DR) (t:Nat):Option SV:=match r.o.dst,r.x with
 | some d,some x=>if t=d then some x else none
 | _,_=>none
theorem wc {r:DR} {l:List (Nat×SV)} {t:Nat}:lk (r.sl l) t=match wr r t with
  | some x=>some x
  | none=>lk l t:=by
 unfold DR.sl wr
 split
 next d x _ _=>
  by_cases e:t=d
  subst e;simp[lk]
  simp only[lk,e,if_false]
  rw[if_neg (by simpa using e),mL e]
 rfl
theorem jU {k:Nat}:∀ {l own:List (Nat×OC)},(ai l).Nodup->lk (bN l own) k=match lk l k with
  | some c=>some c
  | none=>lk own k
 | [],own,_=>rfl
 | p::l,own,hn=>by
  simp only[ai,List.map_cons,List.nodup_cons] at hn
  show lk (bN l (ins p.1 p.2 own)) k=_
  rw[jU hn.2]
  by_cases e:k=p.1
  subst e
  have:lk l p.1=none:=by
   cases h:lk l p.1 with
   | none=>rfl
   | some c=>exact absurd (List.mem_map.2 ⟨_,bj h,rfl⟩) hn.1
  rw[this]
  have h2:∀ {own:List (Nat×OC)},lk (ins p.1 p.2 own) p.1=some p.2:=by
   intro own
   induction own with
   | nil=>simp[ins,lk]
   | cons q own ih=>
    obtain⟨j,x⟩:=q
    simp only[ins]
    split
    simp[lk]
    next e=>simp only[lk];rw[if_neg e];exact ih
  simp only[h2,lk,beq_self_eq_true,if_true]
  have h1:lk (p::l) k=lk l k:=by obtain⟨j,x⟩:=p;simp only[lk];rw[if_neg (by simpa using e)]
  rw[h1,qH e]
theorem JG {r:DR} {s t:St} (hn:(ai r.st).Nodup) (h:Eo s t):Eo (r.CU s) (r.CU t):=by
 refine⟨fun k=>?_,fun k=>?_⟩
 show lk (r.sl _) k=lk (r.sl _) k
 rw[wc,wc,h.1]
 show lk (bN _ _) k=lk (bN _ _) k
 rw[jU hn,jU hn,h.2]
theorem Fg:∀ {l:List DR} {s t:St},(∀ r∈l,(ai r.st).Nodup)->Eo s t->Eo (fo l s) (fo l t)
 | [],_,_,_,h=>h
 | r::l,s,t,hn,h=>Fg (l:=l) (fun q hq=>hn q (List.mem_cons_of_mem _ hq)) (JG (hn r List.mem_cons_self) h)
structure NoV (q r:DR):Prop where
 s:∀ t∈r.rs,wr q t=none
 o:∀ k∈r.ks,k ∉ ai q.st
structure NoC (q r:DR):Prop where
 a:NoV q r
 b:NoV r q
 d:∀ t,wr q t=none∨wr r t=none
 k:∀ k∈ai q.st,k ∉ ai r.st
theorem NoC.symm {q r:DR} (h:NoC q r):NoC r q:=⟨h.b,h.a,fun t=>(h.d t).symm,fun k hk hk'=>h.k k hk' hk⟩
theorem r4 {k:Nat} {l:List (Nat×OC)} (h:k ∉ ai l):lk l k=none:=by
 cases e:lk l k with
 | none=>rfl
 | some c=>exact absurd (List.mem_map.2 ⟨_,bj e,rfl⟩) h
theorem Mt {q r:DR} {s:St} (hq:(ai q.st).Nodup) (hr:(ai r.st).Nodup) (h:NoC q r):Eo (q.CU (r.CU s)) (r.CU (q.CU s)):=by
 refine⟨fun t=>?_,fun k=>?_⟩
 show lk (q.sl (r.sl _)) t=lk (r.sl (q.sl _)) t
 simp only[wc]
 rcases h.d t with e|e<;>rw[e]<;>(split<;>rfl)
 show lk (bN q.st (bN r.st _)) k=lk (bN r.st (bN q.st _)) k
 simp only[jU hq,jU hr]
 by_cases e:k∈ai q.st
 rw[r4 (h.k k e)]
 rw[r4 e]
theorem IA {r:DR} (hr:(ai r.st).Nodup):∀ {l:List DR} {s:St},(∀ q∈l,(ai q.st).Nodup)->(∀ q∈l,NoC r q)->Eo (fo l (r.CU s)) (r.CU (fo l s))
 | [],s,_,_=>.refl _
 | q::l,s,hn,h=>by
  have hq:=hn q List.mem_cons_self
  have hl:=fun p hp=>hn p (List.mem_cons_of_mem _ hp)
  exact (Fg hl (Mt hq hr (h q List.mem_cons_self).symm)).trans (IA hr (l:=l) hl fun p hp=>h p (List.mem_cons_of_mem _ hp))
def Vw (r:DR) (s t:St):Prop:=(∀ k∈r.rs,lk s.slots k=lk t.slots k)/\∀ k∈r.ks,lk s.own k=lk t.own k
theorem Vw.keep {r q:DR} {s:St} (hq:(ai q.st).Nodup) (h:NoV q r):Vw r s (q.CU s):=by
 refine⟨fun t ht=>?_,fun k hk=>?_⟩
 show _=lk (q.sl _) t
 rw[wc,h.s t ht]
 show _=lk (bN _ _) k
 rw[jU hq,r4 (h.o k hk)]
theorem Vw.trans {r:DR} {s t u:St} (h:Vw r s t) (h':Vw r t u):Vw r s u:=⟨fun k hk=>(h.1 k hk).trans (h'.1 k hk),fun k hk=>(h.2 k hk).trans (h'.2 k hk)⟩
theorem Vw.symm {r:DR} {s t:St} (h:Vw r s t):Vw r t s:=⟨fun k hk=>(h.1 k hk).symm,fun k hk=>(h.2 k hk).symm⟩
theorem Vw.congr {r q:DR} {s t:St} (hq:(ai q.st).Nodup) (h:Vw r s t):Vw r (q.CU s) (q.CU t):=by
 refine⟨fun k hk=>?_,fun k hk=>?_⟩
 show lk (q.sl _) k=lk (q.sl _) k
 rw[wc,wc,h.1 k hk]
 show lk (bN _ _) k=lk (bN _ _) k
 rw[jU hq,jU hq,h.2 k hk]
theorem uj {r:DR} (p:DR->Bool):∀ {l:List DR} {s t:St},(∀ q∈l,(ai q.st).Nodup)->(∀ q∈l,p q=false->NoV q r)->Vw r s t->Vw r (fo l s) (fo (l.filter p) t)
 | [],s,t,_,_,h=>h
 | q::l,s,t,hn,hv,h=>by
  have hq:=hn q List.mem_cons_self
  have hl:=fun a ha=>hn a (List.mem_cons_of_mem _ ha)
  have hv':=fun a ha=>hv a (List.mem_cons_of_mem _ ha)
  simp only[List.filter_cons]
  split
  exact uj p (l:=l) hl hv' (h.congr hq)
  next e=>
   have e:p q=false:=by simpa using e
   exact uj p (l:=l) hl hv' (((Vw.keep hq (hv q List.mem_cons_self e)).symm).trans h)
theorem HV {r:DR}:∀ {l:List DR} {s:St},(∀ q∈l,(ai q.st).Nodup)->(∀ q∈l,NoV q r)->Vw r s (fo l s)
 | [],s,_,_=>⟨fun _ _=>rfl,fun _ _=>rfl⟩
 | q::l,s,hn,h=>(Vw.keep (hn q List.mem_cons_self) (h q List.mem_cons_self)).trans (HV (l:=l) (fun a ha=>hn a (List.mem_cons_of_mem _ ha)) fun a ha=>h a (List.mem_cons_of_mem _ ha))
theorem q8 {α:Type} {k:Nat}:∀ {l:List (Nat×α)},(l.map (·.1)).Nodup->((del k l).map (·.1)).Nodup/\k ∉ (del k l).map (·.1)
 | [],_=>⟨List.nodup_nil,by simp[del]⟩
 | (j,x)::l,h=>by
  simp only[List.map_cons,List.nodup_cons] at h
  obtain⟨h1,h2⟩:=q8 (k:=k) h.2
  unfold del
  split
  exact⟨h1,h2⟩
  next e=>
   refine⟨?_,?_⟩
   simp only[List.map_cons,List.nodup_cons]
   refine⟨fun hm=>?_,h1⟩
   obtain⟨q,hq,e'⟩:=List.mem_map.1 hm
   exact h.1 (List.mem_map.2 ⟨q,(cj hq).1,e'⟩)
   simp only[List.map_cons,List.mem_cons,not_or]
   exact⟨by simpa using e,h2⟩
theorem yg {α:Type} {k:Nat} {c:α}:∀ {l:List (Nat×α)},(l.map (·.1)).Nodup->((ins k c l).map (·.1)).Nodup
 | [],_=>by simp[ins]
 | (j,x)::l,h=>by
  simp only[List.map_cons,List.nodup_cons] at h
  unfold ins
  split
  next e=>
   obtain⟨h1,h2⟩:=q8 (k:=k) h.2
   simp only[List.map_cons,List.nodup_cons]
   exact⟨h2,h1⟩
  next e=>
   simp only[List.map_cons,List.nodup_cons]
   refine⟨fun hm=>?_,yg h.2⟩
   obtain⟨⟨a,b⟩,hq,e'⟩:=List.mem_map.1 hm
   simp only at e'
   subst e'
   rcases iW hq with ⟨h1,_⟩|⟨_,h1⟩
   exact e (by simpa using h1.symm)
   exact h.1 (List.mem_map.2 ⟨_,h1,rfl⟩)
theorem xf:∀ {l own:List (Nat×OC)},(ai own).Nodup->(ai (bN l own)).Nodup
 | [],_,h=>h
 | p::l,own,h=>xf (l:=l) (yg h)
def Nd (s:St):Prop:=(s.slots.map (·.1)).Nodup/\(ai s.own).Nodup
theorem Nd.CU {r:DR} {s:St} (h:Nd s):Nd (r.CU s):=by
 refine⟨?_,xf h.2⟩
 show ((r.sl s.slots).map (·.1)).Nodup
 unfold DR.sl
 split
 obtain⟨h1,h2⟩:=q8 h.1
 simp only[List.map_cons,List.nodup_cons]
 exact⟨h2,h1⟩
 exact h.1
theorem Nd.fo:∀ {l:List DR} {s:St},Nd s->Nd (fo l s)
 | [],_,h=>h
 | r::l,s,h=>Nd.fo (l:=l) h.CU
theorem Eo.R {TB:aH} {E:Env TB} {n:Sh} {s t:St} {a:Act} {w:World} (h:Eo s t) (ht:Nd t) (hr:R E n s a w):R E n t a w:=by
 refine sr (fun p hp=>?_) (fun p hp=>?_) hr
 exact bj (by rw[h.1];exact jn ht.1 hp)
 exact bj (by rw[h.2];exact jn ht.2 hp)
def p8 (L:List Oper) (i j:Nat):Prop:=∀ listed:Array Bool,Dg L listed->(∀ o,L[i]?=some o->∀ e∈o.after,Region.binds .any e=true->listed.getD e.on false=true)->listed.getD j false=true
structure Pair (L:List Oper) (q r:DR):Prop where
 u:∀ v,q.x=some v->lH r.nw v=false
 c:∀ p∈q.st,∀ k∈r.nw,p.2.bf k=false
 w:p8 L r.i q.i∨(NoC q r/\(∀ v,r.x=some v->lH q.nw v=false)/\∀ p∈r.st,∀ k∈q.nw,p.2.bf k=false)
theorem CF:∀ {D:List DR} {S:St} {p:Nat×SV},p∈(fo D S).slots->p∈S.slots∨∃ q∈D,q.x=some p.2
 | [],S,p,h=>.inl h
 | q::D,S,p,h=>by
  rcases CF (D:=D) h with h|⟨r,hr,e⟩
  have h:p∈q.sl S.slots:=h
  unfold DR.sl at h
  split at h
  next hx=>
   rcases List.mem_cons.1 h with e|e
   subst e;exact .inr ⟨q,List.mem_cons_self,hx⟩
   exact .inl (cj e).1
  exact .inl h
  exact .inr ⟨r,List.mem_cons_of_mem _ hr,e⟩
theorem CG:∀ {D:List DR} {S:St} {p:Nat×OC},p∈(fo D S).own->p∈S.own∨∃ q∈D,p∈q.st
 | [],S,p,h=>.inl h
 | q::D,S,p,h=>by
  rcases CG (D:=D) h with h|⟨r,hr,e⟩
  have h:p∈bN q.st S.own:=h
  rcases mW (j:=p.1) (x:=p.2) h with h|h
  exact .inr ⟨q,List.mem_cons_self,h⟩
  exact .inl h.1
  exact .inr ⟨r,List.mem_cons_of_mem _ hr,e⟩
section
variable {P:Program} {TB:aH} {E:Env TB} {n:Sh} {S:St} {L:List Oper} {Q:bH}
def View (r:DR) (S s0:St):Prop:=(∀ t∈r.rs,∀ v,lk S.slots t=some v->lk s0.slots t=some v)/\∀ k∈r.ks,∀ c,lk S.own k=some c->lk s0.own k=some c
def Stp (P:Program) {TB:aH} (E:Env TB) (n:Sh) (L:List Oper) (r:DR) (S:St):Prop:=∀ s0,View r S s0->(∀ k∈r.nw,dy k s0.own=true/\n.fix.contains k=false)->(ai s0.own).Nodup->cb P E n L.toArray r.o s0 (r.ap n s0)
structure RecOk (n:Sh) (L:List Oper) (S:St) (r:DR):Prop where
 at_:L[r.i]?=some r.o
 nd:(ai r.st).Nodup
 d:∀ d,r.o.dst=some d->d<n.n/\r.x.isSome=true
 fx:∀ k∈r.nw,n.fix.contains k=false
 us:∀ p∈S.slots,lH r.nw p.2=false
 uo:∀ p∈S.own,∀ k∈r.nw,p.2.bf k=false
theorem ap_less {r:DR} {s0:St} (hd:∀ d,r.o.dst=some d->d<n.n/\r.x.isSome=true) (hu:∀ p∈s0.slots,lH r.nw p.2=false):(∀ p,p∈(r.CU s0).slots->p∈(r.ap n s0).slots)/\∀ p,p∈(r.CU s0).own->p∈(r.ap n s0).own:=by
 unfold DR.CU DR.ap DR.sl
 cases hx:r.x with
 | none=>
  cases b0:r.o.dst with
  | none=>exact⟨fun p hp=>o5 hp (hu p hp),fun p hp=>hp⟩
  | some d=>have:=(hd d b0).2;rw[hx] at this;cases this
 | some x=>
  cases b0:r.o.dst with
  | none=>exact⟨fun p hp=>o5 hp (hu p hp),fun p hp=>hp⟩
  | some d=>
   have hlt:=(hd d b0).1
   simp only[St.put,St.set,hlt,if_true]
   refine⟨fun p hp=>?_,fun p hp=>hp⟩
   rcases List.mem_cons.1 hp with e|e
   subst e;exact List.mem_cons_self
   exact List.mem_cons_of_mem _ (db (o5 (cj e).1 (hu p (cj e).1)) (cj e).2)
theorem drawn {recs:List DR} (hed:iX 0 L=true) (hS:Nd S) (hr:∀ r∈recs,RecOk n L S r) (l3:(recs.map (·.i)).Nodup)
  (hst:∀ A r B,recs=A++r::B->Stp P E n L r (fo A S)/\∀ q∈A,Pair L q r) (iE:Option DR)
  (tl:List Nat) (tlo:List Oper) (b1:tl.map (L[·]?)=tlo.map some) (e7:∀ A t B,tl=A++t::B->t ∉ recs.map (·.i)/\(∀ r∈recs,p8 L t r.i)/\∀ j∈A,p8 L t j/\t≠j) (k6:iE≠none->tl=[])
  (e8:∀ i,i<L.length->i∈recs.map (·.i)∨i∈tl∨∃ p,iE=some p/\(i=p.i∨p8 L i p.i))
  (e9:∀ p,iE=some p->p.i ∉ recs.map (·.i)/\p.i<L.length/\L[p.i]?=some p.o/\p.o.guard=none/\(∀ q∈recs,p8 L p.i q.i∨NoV q p)/\∀ s0,View p (fo recs S) s0->∀ a w,R E n s0 a w->∀ next:Act->World->Prop,p.o.wp P a w next Q)
  (j0:iE=none->aj P E n L.toArray tlo (fo recs S) Q):vv P E n L.toArray S Q:=by
 intro a w hr0
 have c5:=fun q hq=>(hr q hq).nd
 have l4:∀ t∈tl,t ∉ recs.map (·.i)/\(∀ r∈recs,p8 L t r.i):=fun t ht=>by
  obtain⟨A,B,e⟩:=List.append_of_mem ht
  exact⟨(e7 A t B e).1,(e7 A t B e).2.1⟩
 refine anyG (L:=L) (fun listed a w=>(∀ j,listed.getD j false=true->j∈recs.map (·.i)∨j∈tl)/\(((∀ j∈tl,listed.getD j false=false)/\R E n (fo (recs.filter fun r=>listed.getD r.i false) S) a w) ∨
  (∃ l1 l2 b2,tl=l1++l2/\l1≠[]/\l2.map (L[·]?)=b2.map some/\(∀ r∈recs,listed.getD r.i false=true)/\(∀ j∈l1,listed.getD j false=true)/\(∀ j∈l2,listed.getD j false=false)/\zk P L.toArray Q b2 a w))) hed ?_ ?_ _ _ _ _ (by simp) ?_ (by simp) ⟨fun j hj=>?_,.inl ⟨fun j _=>?_,?_⟩⟩
 ·intro listed a w i o hsz l5 e3 e4 j1 hInv K hK
  obtain⟨c2,hInv⟩:=hInv
  have hin:i<L.length:=(List.getElem?_eq_some_iff.1 e3).1
  have o0:i<listed.size:=by omega
  have b0:∀ j,p8 L i j->listed.getD j false=true:=fun j hw=>hw listed l5 fun o' k0 e he hb=>by rw[e3] at k0;cases k0;exact j1 e he hb
  have tailStep:∀ l1 l2 b2,tl=l1++i::l2->(o::b2).map some=(i::l2).map (L[·]?)->(∀ r∈recs,listed.getD r.i false=true)->(∀ j∈l1,listed.getD j false=true)->(∀ j∈i::l2,listed.getD j false=false)->zk P L.toArray Q (o::b2) a w ->
    if Region.wanted o (yielded L.toArray a.tmps) then o.wp P a w K Q else K (a.put o.dst undef) w:=by
   intro l1 l2 b2 e1 e2 h1 h2 h3 h4
   have c6:∀ j∈l2,j≠i:=fun j hj=>by
    obtain⟨A,B,e⟩:=List.append_of_mem hj
    have:=(e7 (l1++i::A) j B (by rw[e1,e];simp)).2.2 i (by simp)
    exact this.2
   have k1:∀ q,listed.getD q false=true->(listed.setIfInBounds i true).getD q false=true:=fun q hq=>by
    by_cases e:q=i
    ·subst e;simp[Array.getD_eq_getD_getElem?,o0]
    ·rw[getD_set_ne false (fun h=>e h.symm)];exact hq
   have c7:∀ a' w',zk P L.toArray Q b2 a' w'->K a' w':=fun a' w' hw'=>hK a' w' ⟨fun j hj=>by
    by_cases e:j=i
    ·subst e;exact .inr (by rw[e1];simp)
    ·rw[getD_set_ne false (fun h=>e h.symm)] at hj;exact c2 j hj,.inr ⟨l1++[i],l2,b2,by rw[e1];simp,by simp,by
     have:=e2;simp only[List.map_cons,List.cons.injEq] at this;exact this.2.symm,fun r hr=>k1 _ (h1 r hr),fun j hj=>by
     rcases List.mem_append.1 hj with hj|hj
     ·exact k1 _ (h2 j hj)
     ·have:j=i:=by simpa using hj
      subst this;simp[Array.getD_eq_getD_getElem?,o0],fun j hj=>by
     rw[getD_set_ne false (fun h=>c6 j hj h.symm)]
     exact h3 j (List.mem_cons_of_mem _ hj),hw'⟩⟩
   unfold zk at h4
   split at h4
   ·next hw=>simp only[hw,if_true];exact Oper.wp_mono c7 h4
   ·next hw=>simp only[hw];exact c7 _ _ h4
  rcases hInv with ⟨k3,hR⟩|⟨l1,l2,b2,e1,hl1,e2,g1,g2,g3,g4⟩
  rotate_left
  ·
   have hit:i∈l2:=by
    rcases e8 i hin with hi|hi|⟨p,hp,_⟩
    ·obtain⟨r,e5,rfl⟩:=List.mem_map.1 hi
     rw[g1 r e5] at e4;cases e4
    ·rw[e1] at hi
     rcases List.mem_append.1 hi with h|h
     ·rw[g2 i h] at e4;cases e4
     ·exact h
    ·have:=k6 (by rw[hp];simp)
     rw[this] at e1
     exact absurd (List.append_eq_nil_iff.1 e1.symm).1 hl1
   cases l2 with
   | nil=>cases hit
   | cons t l2=>
    have hti:t=i:=by
     apply Classical.byContradiction
     intro c6
     have hi2:i∈l2:=by rcases List.mem_cons.1 hit with e|e;exact absurd e.symm c6;exact e
     obtain⟨A,B,e⟩:=List.append_of_mem hi2
     have:=(e7 (l1++t::A) i B (by rw[e1,e];simp)).2.2 t (by simp)
     have h5:=b0 _ this.1
     rw[g3 t List.mem_cons_self] at h5;cases h5
    subst hti
    cases b2 with
    | nil=>simp at e2
    | cons o' b2=>
     have:o'=o:=by simp only[List.map_cons,List.cons.injEq] at e2;rw[e3] at e2;exact (zaa e2.1).symm
     subst this
     exact tailStep l1 l2 b2 e1 e2.symm g1 g2 g3 g4
  rcases e8 i hin with hi|hi|⟨p,hp,hi⟩
  rotate_left
  ·
   obtain⟨A,B,e⟩:=List.append_of_mem hi
   obtain⟨q1,q2,q3⟩:=e7 A i B e
   have hA:A=[]:=by
    cases A with
    | nil=>rfl
    | cons t A=>
     have h5:=b0 _ (q3 t List.mem_cons_self).1
     rw[k3 t (by rw[e];simp)] at h5;cases h5
   subst hA
   have b3:∀ r∈recs,listed.getD r.i false=true:=fun r hr=>b0 _ (q2 r hr)
   have hpn:iE=none:=by
    cases hp:iE with
    | none=>rfl
    | some p=>have:=k6 (by rw[hp];simp);rw[this] at e;cases e
   have c3:(recs.filter fun r=>listed.getD r.i false)=recs:=List.filter_eq_self.2 fun r hr=>b3 r hr
   rw[c3] at hR
   have hwp:=j0 hpn a w hR
   rw[e] at b1
   cases tlo with
   | nil=>simp at b1
   | cons o' tlo=>
    have:o'=o:=by simp only[List.nil_append,List.map_cons,List.cons.injEq] at b1;rw[e3] at b1;exact (zaa b1.1).symm
    subst this
    exact tailStep [] B tlo e (by simpa using b1.symm) b3 (fun j hj=>by cases hj) (fun j hj=>k3 j (by rw[e];exact hj)) hwp
  rotate_left
  ·obtain⟨r,e5,rfl⟩:=List.mem_map.1 hi
   obtain⟨A,B,hAB⟩:=List.append_of_mem e5
   obtain⟨o1,c4⟩:=hst A r B hAB
   have e6:=hr r e5
   have ho:o=r.o:=by have:=e6.at_;rw[e3] at this;exact zaa this
   subst ho
   have hmA:∀ q∈A,q∈recs:=fun q hq=>by rw[hAB];exact List.mem_append_left _ hq
   have hmB:∀ q∈B,q∈recs:=fun q hq=>by rw[hAB];exact List.mem_append_right _ (List.mem_cons_of_mem _ hq)
   have c3:(recs.filter fun q=>listed.getD q.i false)=(A.filter fun q=>listed.getD q.i false)++(B.filter fun q=>listed.getD q.i false):=by
    rw[hAB,List.filter_append,List.filter_cons,if_neg (by rw[e4];simp)]
   have hA:∀ q∈A,listed.getD q.i false=false->NoV q r:=fun q hq hl=>by
    rcases (c4 q hq).w with h|h
    ·have:=b0 _ h;rw[hl] at this;cases this
    ·exact h.1.a
   have hB:∀ q∈B,listed.getD q.i false=true->NoC r q/\(∀ v,q.x=some v->lH r.nw v=false)/\∀ p∈q.st,∀ k∈r.nw,p.2.bf k=false:=fun q hq hl=>by
    obtain⟨B1,B2,o3⟩:=List.append_of_mem hq
    have:=(hst (A++r::B1) q B2 (by rw[hAB,o3];simp)).2 r (List.mem_append_right _ List.mem_cons_self)
    rcases this.w with h|h
    ·have hqo:=(hr q (hmB q hq)).at_
     have:=h listed l5 fun o' k0 e he hb=>by rw[hqo] at k0;cases k0;exact l5 _ _ hqo hl e he hb
     rw[e4] at this;cases this
    ·exact h
   have hs0:Vw r (fo A S) (fo (recs.filter fun q=>listed.getD q.i false) S):=by
    rw[c3,Aq]
    refine (uj _ (fun q hq=>c5 q (hmA q hq)) hA ⟨fun _ _=>rfl,fun _ _=>rfl⟩).trans (HV (fun q hq=>c5 q (hmB q (List.mem_filter.1 hq).1)) fun q hq=>?_)
    exact (hB q (List.mem_filter.1 hq).1 (by simpa using (List.mem_filter.1 hq).2)).1.b
   have e0:∀ q∈recs.filter (fun q=>listed.getD q.i false),(∀ v,q.x=some v->lH r.nw v=false)/\∀ p∈q.st,∀ k∈r.nw,p.2.bf k=false:=fun q hq=>by
    rw[c3] at hq
    rcases List.mem_append.1 hq with h|h
    ·have:=c4 q (List.mem_filter.1 h).1
     exact⟨this.u,this.c⟩
    ·exact (hB q (List.mem_filter.1 h).1 (by simpa using (List.mem_filter.1 h).2)).2
   have hNd:Nd (fo (recs.filter fun q=>listed.getD q.i false) S):=hS.fo
   have hnu:∀ k∈r.nw,dy k (fo (recs.filter fun q=>listed.getD q.i false) S).own=true:=fun k hk=>by
    simp only[dy,List.all_eq_true,Bool.not_eq_true']
    intro p hp
    rcases CG hp with h|⟨q,hq,h⟩
    ·exact e6.uo p h k hk
    ·exact (e0 q hq).2 p h k hk
   have hus:∀ p∈(fo (recs.filter fun q=>listed.getD q.i false) S).slots,lH r.nw p.2=false:=fun p hp=>by
    rcases CF hp with h|⟨q,hq,h⟩
    ·exact e6.us p h
    ·exact (e0 q hq).1 _ h
   have k4:=o1 _ ⟨fun t ht v hv=>by rw[← hs0.1 t ht];exact hv,fun k hk c hc=>by rw[← hs0.2 k hk];exact hc⟩ (fun k hk=>⟨hnu k hk,e6.fx k hk⟩) hNd.2
   refine k4 a w hR K Q fun a' w' hR'=>hK a' w' ⟨fun j hj=>?_,.inl ⟨fun j hj=>?_,?_⟩⟩
   ·by_cases e:j=r.i
    ·subst e;exact .inl hi
    ·rw[getD_set_ne false (fun h=>e h.symm)] at hj;exact c2 j hj
   ·have c6:r.i≠j:=fun e=>(l4 j hj).1 (e▸hi)
    rw[getD_set_ne false c6];exact k3 j hj
   ·have k5:(recs.filter fun q=>(listed.setIfInBounds r.i true).getD q.i false)=(A.filter fun q=>listed.getD q.i false)++r::(B.filter fun q=>listed.getD q.i false):=by
     have c6:∀ q,q∈A∨q∈B->q.i≠r.i:=by
      rw[hAB] at l3
      simp only[List.map_append,List.map_cons] at l3
      have h1:=List.nodup_append.1 l3
      intro q hq e
      rcases hq with hq|hq
      ·exact h1.2.2 _ (List.mem_map.2 ⟨q,hq,rfl⟩) _ List.mem_cons_self e
      ·exact (List.nodup_cons.1 h1.2.1).1 (List.mem_map.2 ⟨q,hq,e⟩)
     rw[hAB,List.filter_append,List.filter_cons,if_pos (by simp[Array.getD_eq_getD_getElem?,o0])]
     congr 1
     ·refine List.filter_congr fun q hq=>?_
      rw[getD_set_ne false (fun h=>c6 q (.inl hq) h.symm)]
     ·congr 1
      refine List.filter_congr fun q hq=>?_
      rw[getD_set_ne false (fun h=>c6 q (.inr hq) h.symm)]
    rw[k5]
    have hl:=ap_less e6.d hus
    have hR2:=sr hl.1 hl.2 hR'
    refine Eo.R ?_ hS.fo hR2
    rw[c3,Aq,Aq]
    exact (IA e6.nd (fun q hq=>c5 q (hmB q (List.mem_filter.1 hq).1)) fun q hq=>(hB q (List.mem_filter.1 hq).1 (by simpa using (List.mem_filter.1 hq).2)).1).symm
  ·obtain⟨o4,hp2,hp3,hp4,hp5,hp6⟩:=e9 p hp
   rcases hi with e|hw
   ·subst e
    have ho:o=p.o:=by rw[e3] at hp3;exact zaa hp3
    subst ho
    have:Region.wanted p.o (yielded L.toArray a.tmps)=true:=by simp[Region.wanted,hp4]
    simp only[this,if_true]
    refine hp6 _ ?_ a w hR K
    have hv:Vw p (fo recs S) (fo (recs.filter fun q=>listed.getD q.i false) S):=uj _ c5 (fun q hq hl=>by
     rcases hp5 q hq with h|h
     ·have:=b0 _ h;rw[hl] at this;cases this
     ·exact h) ⟨fun _ _=>rfl,fun _ _=>rfl⟩
    exact⟨fun t ht v h=>by rw[← hv.1 t ht];exact h,fun k hk c h=>by rw[← hv.2 k hk];exact h⟩
   ·rcases c2 _ (b0 _ hw) with h|h
    ·exact absurd h o4
    ·rw[k6 (by rw[hp];simp)] at h;cases h
 ·intro listed a w hsz b3 hInv
  obtain⟨c2,hInv⟩:=hInv
  have hlt:∀ j∈tl,j<L.length:=fun j hj=>by
   have h1:L[j]?∈tl.map (L[·]?):=List.mem_map.2 ⟨j,hj,rfl⟩
   rw[b1] at h1
   obtain⟨o,_,ho⟩:=List.mem_map.1 h1
   exact (List.getElem?_eq_some_iff.1 ho.symm).1
  rcases hInv with ⟨k3,hR⟩|⟨l1,l2,b2,e1,hl1,e2,g1,g2,g3,g4⟩
  ·cases hp:iE with
   | some p=>
    obtain⟨o4,hp2,_⟩:=e9 p hp
    rcases c2 _ (b3 _ hp2) with h|h
    ·exact absurd h o4
    ·rw[k6 (by rw[hp];simp)] at h;cases h
   | none=>
    have l4:tl=[]:=by
     cases tl with
     | nil=>rfl
     | cons t tl=>have:=k3 t List.mem_cons_self;rw[b3 t (hlt t List.mem_cons_self)] at this;cases this
    subst l4
    have:tlo=[]:=by cases tlo with|nil=>rfl|cons _ _=>simp at b1
    subst this
    refine j0 hp a w ?_
    have:(recs.filter fun r=>listed.getD r.i false)=recs:=List.filter_eq_self.2 fun r e5=>b3 _ (List.getElem?_eq_some_iff.1 (hr r e5).at_).1
    rwa [this] at hR
  ·cases l2 with
   | nil=>
    have:b2=[]:=by cases b2 with|nil=>rfl|cons _ _=>simp at e2
    subst this
    exact g4
   | cons t l2=>
    have:=g3 t List.mem_cons_self
    rw[b3 t (hlt t (by rw[e1];simp))] at this;cases this
 ·intro j p hj hl
  simp[Array.getD_eq_getD_getElem?,Array.getElem?_replicate] at hl
  split at hl<;>simp at hl
 ·simp[Array.getD_eq_getD_getElem?,Array.getElem?_replicate] at hj
  split at hj<;>simp at hj
 ·simp[Array.getD_eq_getD_getElem?,Array.getElem?_replicate]
  split<;>simp
 ·have:(recs.filter fun r=>(Array.replicate L.toArray.size false).getD r.i false)=[]:=by
   apply List.filter_eq_nil_iff.2
   intro r _
   simp[Array.getD_eq_getD_getElem?,Array.getElem?_replicate]
   split<;>simp
  rw[this]
  exact hr0.drawn
end
end Go.Dn
namespace Go.Dn
open Go Go.Sk
def HG (acc:List Nat):List Edge->Nat->Nat
 | [],m=>m
 | e::l,m=>HG acc l (if Region.binds .any e=true then m ||| (2 ^ e.on ||| acc.getD e.on 0) else m)
def C2:List Oper->List Nat->List Nat
 | [],acc=>acc
 | o::l,acc=>C2 l (acc++[HG acc o.after.toList 0])
def bit (cl:List Nat) (i j:Nat):Bool:=(cl.getD i 0).testBit j
theorem Fl {acc:List Nat} {j:Nat}:∀ {l:List Edge} {m:Nat},(HG acc l m).testBit j=true->m.testBit j=true∨∃ e∈l,Region.binds .any e=true/\(j=e.on∨bit acc e.on j=true)
 | [],m,h=>.inl h
 | e::l,m,h=>by
  rcases Fl (l:=l) h with h|⟨e',he,h⟩
  split at h
  next hb=>
   rw[Nat.testBit_or,Nat.testBit_or,Bool.or_eq_true,Bool.or_eq_true,Nat.testBit_two_pow] at h
   rcases h with h|h|h
   exact .inl h
   exact .inr ⟨e,List.mem_cons_self,hb,.inl (by simpa[eq_comm] using h)⟩
   exact .inr ⟨e,List.mem_cons_self,hb,.inr h⟩
  exact .inl h
  exact .inr ⟨e',List.mem_cons_of_mem _ he,h⟩
theorem II {L:List Oper}:∀ {l:List Oper} {acc:List Nat} {pre:List Oper},L=pre++l->acc.length=pre.length->(∀ i j,bit acc i j=true->p8 L i j)->∀ i j,bit (C2 l acc) i j=true->p8 L i j
 | [],acc,pre,_,_,h=>h
 | o::l,acc,pre,hL,hlen,h=>by
  refine II (l:=l) (acc:=acc++[HG acc o.after.toList 0]) (pre:=pre++[o]) (by rw[hL];simp) (by simp[hlen]) fun i j hb=>?_
  by_cases hi:i<acc.length
  exact h i j (by unfold bit at hb ⊢;rw[List.getD_eq_getElem?_getD,List.getElem?_append_left hi] at hb;rw[List.getD_eq_getElem?_getD];exact hb)
  by_cases hi2:i=acc.length
  subst hi2
  unfold bit at hb
  rw[List.getD_eq_getElem?_getD,List.getElem?_append_right (Nat.le_refl _)] at hb
  simp only[Nat.sub_self,List.getElem?_cons_zero,Option.getD_some] at hb
  rcases Fl hb with h0|⟨e,he,hbd,h1⟩
  simp at h0
  intro listed hcl b0
  have hio:L[acc.length]?=some o:=by rw[hL,hlen];simp
  have h2:=b0 o hio e (by simpa using he) hbd
  rcases h1 with rfl|h1
  exact h2
  exact h _ _ h1 listed hcl fun o' ho' e' he' hb'=>hcl _ _ ho' h2 e' he' hb'
  unfold bit at hb
  rw[List.getD_eq_getElem?_getD,List.getElem?_eq_none (by simp;omega)] at hb
  simp at hb
theorem wF {os:List Oper} {i j:Nat} (h:bit (C2 os []) i j=true):p8 os i j:=II (pre:=[]) rfl rfl (fun i j h=>by simp[bit] at h) i j h
variable {D:Dt}
structure DI where
 i:Nat
 rs:List Nat
 ks:List Nat
structure PR (D:Dt) where
 d:DI
 o:Oper
 e:Ef D
def cut (d:DI) (s:bG D):bG D:=⟨s.sl.filter fun p=>d.rs.contains p.1,s.own.filter fun p=>d.ks.contains p.1,s.Γ⟩
def wrT (q:PR D) (t:Nat):Bool:=match q.o.dst,q.e.z with
 | some d,some _=>t==d
 | _,_=>false
def hasK (q:PR D) (k:Nat):Bool:=q.e.st.any fun p=>p.1==k
def noV (q:PR D) (d:DI):Bool:=d.rs.all (fun t=>!wrT q t)&&d.ks.all fun k=>!hasK q k
def dstT (q:PR D):Option Nat:=match q.e.z with
 | some _=>q.o.dst
 | none=>none
def noC (q r:PR D):Bool:=(noV q r.d&&noV r q.d)&&((match dstT q with
 | some d=>!wrT r d
 | none=>true)&&q.e.st.all fun p=>!hasK r p.1)
def noN (nw:List Nat) (q:PR D):Bool:=nw.all fun k=>(match q.e.z with
 | some z=>!nk k z
 | none=>true)&&xR k q.e.st
def okP (cl:List Nat) (q r:PR D):Bool:=noN r.e.nw q&&(noC q r&&noN q.e.nw r||bit cl r.d.i q.d.i)
def okR (fr:Fr) (lk0:Kept) (cl:List Nat) (T0 T:bG D) (ps:List (PR D)) (r:PR D):Bool :=
 (r.e.nr.isEmpty&&r.e.dl.isEmpty)&&(lok lk0.s r.o.dst&&((r.e.st.all fun p=>!lk0.o.contains p.1)&&gW (r.e.st.map (·.1))))&&((match r.o.dst with
 | some d=>decide (d<fr.n)&&r.e.z.isSome
 | none=>true)&&((r.e.nw.all fun k=>(!fr.fx.contains k&&(T0.sl.all fun p=>!nk k p.2))&&(xR k T0.own&&T.sl.all fun p=>!nk k p.2))&&ps.all fun q=>okP cl q r))
def depD (os:List Oper) (i j:Nat):Bool:=match os[i]? with
 | some o=>o.after.toList.any fun e=>Region.binds .any e&&e.on==j
 | none=>false
def wtB (os:List Oper) (cl:List Nat) (i j:Nat):Bool:=depD os i j||bit cl i j
theorem Kq {os:List Oper} {i j:Nat} (h:wtB os (C2 os []) i j=true):p8 os i j:=by
 simp only[wtB,Bool.or_eq_true] at h
 rcases h with h|h
 intro listed hcl b0
 unfold depD at h
 split at h
 next o ho=>
  obtain⟨e,he,h2⟩:=List.any_eq_true.1 h
  simp only[Bool.and_eq_true,beq_iff_eq] at h2
  have:=b0 o ho e (by simpa using he) h2.1
  rw[h2.2] at this
  exact this
 cases h
 exact wF h
def tlB (os:List Oper) (cl:List Nat) (ps:List (PR D)):List Nat->List Nat->Bool
 | _,[]=>true
 | bef,t::tl=>((ps.all fun q=>q.d.i != t&&wtB os cl t q.d.i)&&(bef.all fun j=>t != j&&wtB os cl t j))&&(decide (t<os.length)&&tlB os cl ps (t::bef) tl)
def okPan (os:List Oper) (cl:List Nat) (ps:List (PR D)) (d:DI):Bool:=((List.range os.length).all fun j=>(ps.any fun q=>q.d.i==j)||j==d.i||bit cl j d.i)&&ps.all fun q=>noV q d||bit cl d.i q.d.i
section
variable {P:Program} [DecidableEq D.σ] {pk:PK D} {TB:aH} (B0:Tb P D TB) (L:Lay D) {X:Type} (G:List (bK D pk))
def iF (fr:Fr) (lk0:Kept) (os:List Oper) (cl:List Nat) (tl:List Nat) (T0:bG D):List DI->List (PR D)->bG D->(bG D->Option X)->(D.T pk.d->bG D->Option X)->Option X
 | [],ps,T,K,W=>if (((List.range os.length).all fun i=>(ps.any fun q=>q.d.i==i)||tl.contains i)&&tlB os cl ps [] tl)=true then ops B0 L G fr lk0 os (tl.filterMap fun t=>os[t]?) T K W else none
 | d::l,ps,T,K,W=>(os[d.i]?).bind fun o=>if (ps.all fun q=>q.d.i != d.i)=true then
  (wg os T o).bind fun q=>(Gb os (cut d q.1) o).bind fun g=>ope B0 L G fr (cut d q.1) g o
   (fun e=>if okR fr lk0 cl T0 q.1 ps ⟨d,o,e⟩=true then iF fr lk0 os cl tl T0 l (⟨d,o,e⟩::ps) (e.JL fr o.dst q.1) K W else none)
   (fun p _=>if okPan os cl ps d=true then W p ⟨[],[],[]⟩ else none) else none
def okT (os:List Oper) (T:bG D):Bool:=iX 0 os&&(gW (T.sl.map (·.1))&&gW (T.own.map (·.1)))
end
end Go.Dn
namespace Go.Dn
open Go Go.Sk
variable {D:Dt}
noncomputable def lF (Γ:List GE) (p:PR D):DR:=⟨p.d.i,p.o,p.d.rs,p.d.ks,p.e.z.map (·.sv Γ),bw p.e.st,p.e.nw⟩
theorem AB {z:TS D} {Γ:List GE}:∀ {nw:List Nat},(∀ k∈nw,nk k z=false)->lH nw (z.sv Γ)=false
 | [],_=>rfl
 | k::nw,h=>by
  simp only[lH,Bool.or_eq_false_iff]
  exact⟨by rw[wG];exact h k List.mem_cons_self,AB fun k hk=>h k (List.mem_cons_of_mem _ hk)⟩
theorem Bt {k:Nat} {l:List (Nat×TO D)} (h:xR k l=true):∀ p∈bw l,p.2.bf k=false:=fun p hp=>by
 obtain⟨j,c⟩:=p
 exact q9 (vM h) hp
theorem Mp {k:Nat} {l:List (Nat×TS D)} (h:∀ p∈l,nk k p.2=false):yM k l=l:=List.filter_eq_self.2 fun p hp=>by simp[h p hp]
theorem CM:∀ {nw:List Nat} {l:List (Nat×TS D)},(∀ k∈nw,∀ p∈l,nk k p.2=false)->n5 nw l=l
 | [],_,_=>rfl
 | k::nw,l,h=>by
  show n5 nw (yM k l)=l
  rw[Mp (h k List.mem_cons_self)]
  exact CM fun k hk=>h k (List.mem_cons_of_mem _ hk)
theorem E9 {k:Nat}:∀ {l own:List (Nat×TO D)},(l.map (·.1)).Nodup->lk (uD l own) k=match lk l k with
  | some c=>some c
  | none=>lk own k
 | [],own,_=>rfl
 | p::l,own,hn=>by
  simp only[List.map_cons,List.nodup_cons] at hn
  show lk (uD l (ins p.1 p.2 own)) k=_
  rw[E9 hn.2]
  by_cases e:k=p.1
  subst e
  have:lk l p.1=none:=by
   cases h:lk l p.1 with
   | none=>rfl
   | some c=>exact absurd (List.mem_map.2 ⟨_,bj h,rfl⟩) hn.1
  rw[this]
  have h2:∀ {own:List (Nat×TO D)},lk (ins p.1 p.2 own) p.1=some p.2:=by
   intro own
   induction own with
   | nil=>simp[ins,lk]
   | cons q own ih=>
    obtain⟨j,x⟩:=q
    simp only[ins]
    split
    simp[lk]
    next e=>simp only[lk];rw[if_neg e];exact ih
  simp only[h2,lk,beq_self_eq_true,if_true]
  have h1:lk (p::l) k=lk l k:=by obtain⟨j,x⟩:=p;simp only[lk];rw[if_neg (by simpa using e)]
  rw[h1,qH e]
theorem Br:∀ {l own:List (Nat×TO D)},(own.map (·.1)).Nodup->((uD l own).map (·.1)).Nodup
 | [],_,h=>h
 | p::l,own,h=>Br (l:=l) (yg h)
theorem rT {α:Type} {f:Nat->Bool} {k:Nat} {x:α}:∀ {l:List (Nat×α)},lk (l.filter fun p=>f p.1) k=some x->f k=true/\lk l k=some x
 | [],h=>by simp[lk] at h
 | (j,y)::l,h=>by
  simp only[List.filter_cons] at h
  split at h
  next hf=>
   by_cases e:k=j
   subst e
   have:y=x:=by simpa[lk] using h
   subst this
   exact⟨hf,by simp[lk]⟩
   have h':lk (l.filter fun p=>f p.1) k=some x:=by simpa[lk,e] using h
   obtain⟨h1,h2⟩:=rT h'
   exact⟨h1,by simp only[lk];rw[if_neg (by simpa using e)];exact h2⟩
  next hf=>
   obtain⟨h1,h2⟩:=rT h
   have e:¬ k=j:=fun e=>by subst e;exact hf h1
   exact⟨h1,by simp only[lk];rw[if_neg (by simpa using e)];exact h2⟩
theorem mT {l:List (Nat×TO D)}:ai (bw l)=l.map (·.1):=by simp[ai,bw]
theorem EB {p:PR D} {Γ:List GE} {t:Nat} (h:wrT p t=false):wr (lF Γ p) t=none:=by
 unfold wrT at h
 unfold wr lF
 simp only
 cases hd:p.o.dst with
 | none=>rfl
 | some d=>
  cases hz:p.e.z with
  | none=>rfl
  | some z=>
   rw[hd,hz] at h
   simp only[Option.map_some]
   rw[if_neg (by simpa using h)]
theorem Ir {p:PR D} {Γ:List GE} {k:Nat} (h:hasK p k=false):k ∉ ai (lF Γ p).st:=by
 intro hk
 rw[show (lF Γ p).st=bw p.e.st from rfl,mT] at hk
 obtain⟨q,hq,e⟩:=List.mem_map.1 hk
 have:=List.any_eq_false.1 h q hq
 simp[e] at this
theorem Gn {q:PR D} {d:DI} {r:DR} {Γ:List GE} (hr:r.rs=d.rs/\r.ks=d.ks) (h:noV q d=true):NoV (lF Γ q) r:=by
 simp only[noV,Bool.and_eq_true,List.all_eq_true,Bool.not_eq_true'] at h
 exact⟨fun t ht=>EB (h.1 t (hr.1▸ht)),fun k hk=>Ir (h.2 k (hr.2▸hk))⟩
theorem noC_of {q r:PR D} {Γ Γ':List GE} (h:noC q r=true):NoC (lF Γ q) (lF Γ' r):=by
 simp only[noC,Bool.and_eq_true,List.all_eq_true,Bool.not_eq_true'] at h
 obtain⟨⟨h1,h2⟩,h3,h4⟩:=h
 refine⟨Gn ⟨rfl,rfl⟩ h1,Gn ⟨rfl,rfl⟩ h2,fun t=>?_,fun k hk=>?_⟩
 cases hq:wr (lF Γ q) t with
 | none=>exact .inl rfl
 | some v=>
  refine .inr (EB ?_)
  unfold dstT at h3
  unfold wr lF at hq
  simp only at hq
  cases hd:q.o.dst with
  | none=>rw[hd] at hq;cases hq
  | some d=>
   cases hz:q.e.z with
   | none=>rw[hd,hz] at hq;cases hq
   | some z=>
    rw[hd,hz] at hq
    simp only[Option.map_some] at hq
    split at hq
    next e=>subst e;rw[hz,hd] at h3;simpa using h3
    cases hq
 rw[show (lF Γ q).st=bw q.e.st from rfl,mT] at hk
 obtain⟨p,hp,e⟩:=List.mem_map.1 hk
 subst e
 exact Ir (h4 p hp)
theorem KH {nw:List Nat} {q:PR D} {Γ:List GE} (h:noN nw q=true):(∀ v,(lF Γ q).x=some v->lH nw v=false)/\∀ p∈(lF Γ q).st,∀ k∈nw,p.2.bf k=false:=by
 simp only[noN,List.all_eq_true,Bool.and_eq_true] at h
 refine⟨fun v hv=>?_,fun p hp k hk=>Bt (h k hk).2 p hp⟩
 obtain⟨z,hz,e⟩:=Option.map_eq_some_iff.1 hv
 subst e
 refine AB fun k hk=>?_
 have:=(h k hk).1
 rw[hz] at this
 simpa using this
theorem okP_of {os:List Oper} {q r:PR D} {Γ Γ':List GE} (h:okP (C2 os []) q r=true):Pair os (lF Γ q) (lF Γ' r):=by
 simp only[okP,Bool.and_eq_true,Bool.or_eq_true] at h
 obtain⟨h1,h2⟩:=h
 obtain⟨h3,h4⟩:=KH (Γ:=Γ) h1
 refine⟨h3,h4,?_⟩
 rcases h2 with ⟨h5,h6⟩|h5
 obtain⟨h7,h8⟩:=KH (Γ:=Γ') h6
 exact .inr ⟨noC_of h5,h7,h8⟩
 exact .inl (wF h5)
section
variable {P:Program} [DecidableEq D.σ] {pk:PK D} {TB:aH} {B0:Tb P D TB} {L:Lay D} {X:Type} {G:List (bK D pk)} {E:Env TB} {n:Sh} {s0:St} {T T1:bG D} {os:List Oper} {o:Oper} {g:Option (Nat×Bool)} {Q:bH} {fr:Fr} {lk0:Kept} {K:bG D->Option X} {W:D.T pk.d->bG D->Option X} {r:X}
theorem Mi (h:wg os T o=some (T1,g)) (hn:(T.sl.map (·.1)).Nodup):(T1.sl.map (·.1)).Nodup/\T1.own=T.own:=by
 have key:∀ {t:Nat} {x:TS D},(((t,x)::del t T.sl).map (·.1)).Nodup:=by
  intro t x
  obtain⟨h1,h2⟩:=q8 (k:=t) hn
  simp only[List.map_cons,List.nodup_cons]
  exact⟨h2,h1⟩
 unfold wg at h
 split at h
 cases h;exact⟨hn,rfl⟩
 split at h
 cases h
 split at h
 split at h
 cases h;exact⟨hn,rfl⟩
 cases h
 split at h
 cases h;exact⟨key,rfl⟩
 cases h
 split at h
 cases h;exact⟨key,rfl⟩
 cases h
 cases h
theorem IG {d:DI} {S:St} {r:DR} (hr:r.rs=d.rs/\r.ks=d.ks) (ha:qV T S) (hv:View r S s0):qV (cut d T) s0:=by
 refine⟨fun t z hz=>?_,fun k c hc=>?_⟩
 obtain⟨h1,h2⟩:=rT (f:=fun k=>d.rs.contains k) hz
 exact hv.1 t (by rw[hr.1];simpa using h1) _ (ha.sl t z h2)
 obtain⟨h1,h2⟩:=rT (f:=fun k=>d.ks.contains k) hc
 exact hv.2 k (by rw[hr.2];simpa using h1) _ (ha.own k c h2)
structure DInv (P:Program) {TB:aH} (E:Env TB) (n:Sh) (os:List Oper) (lk0:Kept) (T0:bG D) (S:St) (A:List DR) (ps:List (PR D)) (T:bG D):Prop where
 rc:∀ r∈A,RecOk n os S r/\∃ p∈ps,∃ Γ,r=lF Γ p
 ex:∀ p∈ps,∃ r∈A,r.i=p.d.i
 nd:(A.map (·.i)).Nodup
 st:∀ A1 r A2,A=A1++r::A2->Stp P E n os r (fo A1 S)/\∀ q∈A1,Pair os q r
 ag:qV T (fo A S)
 n1:(T.sl.map (·.1)).Nodup
 n2:(T.own.map (·.1)).Nodup
 ext:Ext lk0.s lk0.o T0 T
theorem JC {T0:bG D} {A:List DR} {ps:List (PR D)} {d:DI} {e:Ef D} {g0:Option (Nat×Bool)} (hn:n.n=fr.n) (hf:n.fix=fr.fx) (hI:DInv P E n os lk0 T0 T0.st A ps T) (ho:os[d.i]?=some o) (hfr:(ps.all fun q=>q.d.i != d.i)=true) (hg:wg os T o=some (T1,g0)) (hc:Gb os (cut d T1) o=some g)
 (c5:∀ s0,qV (cut d T1) s0->I5 n s0 e->J4 P E n (cut d T1) s0 g o e) (hok:okR fr lk0 (C2 os []) T0 T1 ps ⟨d,o,e⟩=true):DInv P E n os lk0 T0 T0.st (A++[lF T1.Γ ⟨d,o,e⟩]) (⟨d,o,e⟩::ps) (e.JL fr o.dst T1):=by
 obtain⟨hag,_,_,_⟩:=AU (E:=E) (n:=n) hg
 have c2:=hag _ hI.ag
 obtain⟨c3,hn2⟩:=Mi hg hI.n1
 simp only[okR,Bool.and_eq_true,List.all_eq_true,Bool.not_eq_true'] at hok
 obtain⟨⟨k0,k1,k2,k3⟩,k4,k5,k6⟩:=hok
 have b3:e.dl=[]:=by simpa using k0.2
 have k0:e.nr=[]:=by simpa using k0.1
 have hdl:∀ {α:Type} {l:List (Nat×α)},qC e.dl l=l:=by intro α l;rw[b3];rfl
 have c6:=mQ k3
 have hd:∀ dd,o.dst=some dd->dd<n.n/\e.z.isSome=true:=fun dd c7=>by
  rw[c7] at k4
  simp only[Bool.and_eq_true,decide_eq_true_eq] at k4
  exact⟨by rw[hn];exact k4.1,k4.2⟩
 have b0:n5 (e.nr++e.nw) T1.sl=T1.sl:=by
  rw[k0]
  exact CM fun k hk p hp=>by
   have:=(k5 k hk).2.2 p hp
   simpa using this
 refine⟨fun r hr=>?_,fun p hp=>?_,?_,fun A1 r A2 hA=>?_,?_,?_,?_,?_⟩
 rcases List.mem_append.1 hr with h|h
 obtain⟨h1,p,hp,Γ,h2⟩:=hI.rc r h
 exact⟨h1,p,List.mem_cons_of_mem _ hp,Γ,h2⟩
 have:r=lF T1.Γ ⟨d,o,e⟩:=by simpa using h
 subst this
 refine⟨⟨ho,by rw[show (lF T1.Γ ⟨d,o,e⟩).st=bw e.st from rfl,mT];exact c6,fun dd c7=>?_,fun k hk=>?_,fun p hp=>?_,fun p hp k hk=>?_⟩,_,List.mem_cons_self,_,rfl⟩
 obtain⟨h1,h2⟩:=hd dd c7
 exact⟨h1,by show (e.z.map _).isSome=true;rw[Option.isSome_map];exact h2⟩
 rw[hf]
 exact (k5 k hk).1.1
 obtain⟨k,v⟩:=p
 obtain⟨y,hy,rfl⟩:=ey.1 hp
 exact AB fun k' hk'=>by
  have:=(k5 k' hk').1.2 _ hy
  simpa using this
 exact Bt (k5 k hk).2.1 p hp
 rcases List.mem_cons.1 hp with h|h
 subst h;exact⟨_,List.mem_append_right _ List.mem_cons_self,rfl⟩
 obtain⟨r,hr,e'⟩:=hI.ex p h
 exact⟨r,List.mem_append_left _ hr,e'⟩
 rw[List.map_append,List.nodup_append]
 refine⟨hI.nd,by simp,fun a ha b hb=>?_⟩
 obtain⟨r,hr,e1⟩:=List.mem_map.1 ha
 have hb:b=d.i:=by simpa[lF] using hb
 obtain⟨_,p,hp,Γ,e2⟩:=hI.rc r hr
 have:=List.all_eq_true.1 hfr p hp
 subst e1 e2
 intro e3
 rw[hb] at e3
 have e4:p.d.i=d.i:=e3
 simp[e4] at this
 by_cases hl:A2=[]
 subst hl
 obtain⟨rfl,h2⟩:=List.append_inj' hA rfl
 have h2:lF T1.Γ ⟨d,o,e⟩=r:=by simpa using h2
 subst h2
 refine⟨fun s0 hv hnw e0=>?_,fun q hq=>?_⟩
 have ha:=IG (d:=d) ⟨rfl,rfl⟩ c2 hv
 have hst:=Cz ha (Ix hc ha) (c5 s0 ha ⟨⟨hnw,fun k hk=>by rw[k0] at hk;cases hk⟩,fun _=>e0⟩)
 have:e.ap n (cut d T1).Γ o.dst s0=(lF T1.Γ ⟨d,o,e⟩).ap n s0:=by
  unfold Ef.ap DR.ap lF
  simp only[k0,List.nil_append,b3,qC]
  cases e.z<;>rfl
 rw[this] at hst
 exact hst
 obtain⟨_,p,hp,Γ,e2⟩:=hI.rc q hq
 subst e2
 exact okP_of (k6 p hp)
 obtain⟨A3,x,hA2⟩:∃ A3 x,A2=A3++[x]:=⟨A2.dropLast,A2.getLast hl,(List.dropLast_concat_getLast hl).symm⟩
 subst hA2
 have:A++[lF T1.Γ ⟨d,o,e⟩]=(A1++r::A3)++[x]:=by rw[hA];simp
 obtain⟨h1,_⟩:=List.append_inj' this rfl
 exact hI.st A1 r A3 h1
 rw[Aq]
 show qV _ ((lF T1.Γ ⟨d,o,e⟩).CU (fo A T0.st))
 have b2:∀ k c,lk (uD e.st T1.own) k=some c->lk (bN (bw e.st) (fo A T0.st).own) k=some c.oc:=fun k c c4=>by
  rw[E9 c6] at c4
  rw[jU (by rw[mT];exact c6),oP]
  split at c4
  next c' e5=>rw[e5];cases c4;rfl
  next e5=>rw[e5];exact c2.own k c c4
 unfold Ef.JL
 simp only[b3,qC]
 cases hz:e.z with
 | none=>
  refine⟨fun t z h=>?_,b2⟩
  rw[b0] at h
  show lk (DR.sl _ _) t=_
  rw[wc]
  have:wr (lF T1.Γ ⟨d,o,e⟩) t=none:=EB (by unfold wrT;rw[hz];split<;>first|rfl|(rename_i h;cases h))
  rw[this]
  exact c2.sl t z h
 | some z0=>
  cases b1:o.dst with
  | none=>
   refine⟨fun t z h=>?_,b2⟩
   have h:lk (n5 (e.nr++e.nw) T1.sl) t=some z:=h
   rw[b0] at h
   show lk (DR.sl _ _) t=_
   rw[wc]
   have:wr (lF T1.Γ ⟨d,o,e⟩) t=none:=EB (by unfold wrT;rw[b1])
   rw[this]
   exact c2.sl t z h
  | some dd=>
   have hlt:=(hd dd b1).1
   rw[hn] at hlt
   unfold bG.put
   simp only[hlt,if_true]
   refine⟨fun t z h=>?_,b2⟩
   show lk (DR.sl _ _) t=some (z.sv T1.Γ)
   rw[wc]
   by_cases et:t=dd
   subst et
   have hzz:z0=z:=by simpa[lk] using h
   subst hzz
   have:wr (lF T1.Γ ⟨d,o,e⟩) t=some (z0.sv T1.Γ):=by
    unfold wr lF
    simp only[b1,hz,Option.map_some,if_true]
   rw[this]
   have h':lk (del dd (n5 (e.nr++e.nw) T1.sl)) t=some z:=by simpa[lk,et] using h
   rw[mL et,b0] at h'
   have:wr (lF T1.Γ ⟨d,o,e⟩) t=none:=EB (by unfold wrT;rw[b1,hz];simpa using et)
   rw[this]
   exact c2.sl t z h'
 unfold Ef.JL
 simp only[b3,qC]
 cases e.z with
 | none=>simp only;rw[b0];exact c3
 | some z0=>
  simp only
  unfold bG.put
  cases o.dst with
  | none=>simp only;rw[b0];exact c3
  | some dd=>
   simp only
   split
   rw[b0]
   obtain⟨h1,h2⟩:=q8 (k:=dd) c3
   simp only[List.map_cons,List.nodup_cons]
   exact⟨h2,h1⟩
   rw[b0];exact c3
 have:(e.JL fr o.dst T1).own=uD e.st T1.own:=by
  unfold Ef.JL
  simp only[b3,qC]
  cases e.z with
  | none=>rfl
  | some z=>exact H9
 rw[this]
 exact Br (by rw[hn2];exact hI.n2)
 refine hI.ext.trans ((CJ hg).trans ?_)
 have hx:Ext lk0.s lk0.o T1 ⟨n5 (e.nr++e.nw) T1.sl,uD e.st T1.own,T1.Γ⟩:=by
  refine⟨fun t ht x hx=>by rw[b0];exact hx,fun k hk c hc=>?_⟩
  show lk (uD e.st T1.own) k=_
  rw[Dw fun p hp e'=>?_]
  exact hc
  have:=k2 p hp
  subst e'
  simp at this
  exact this hk
 unfold Ef.JL
 simp only[b3,qC]
 cases e.z with
 | none=>exact hx
 | some z=>exact hx.trans (H' k1)
theorem Kw {ps:List (PR D)}:∀ {tl bef:List Nat},tlB os (C2 os []) ps bef tl=true->((tl.map (os[·]?))=(tl.filterMap fun t=>os[t]?).map some)/\∀ A t B,tl=A++t::B->(∀ q∈ps,q.d.i≠t/\p8 os t q.d.i)/\(∀ j∈A,p8 os t j/\t≠j)/\∀ j∈bef,p8 os t j/\t≠j
 | [],bef,h=>⟨rfl,fun A t B e=>by simp at e⟩
 | t::tl,bef,h=>by
  simp only[tlB,Bool.and_eq_true,List.all_eq_true,decide_eq_true_eq,bne_iff_ne] at h
  obtain⟨⟨h1,h2⟩,h3,h4⟩:=h
  obtain⟨h5,h6⟩:=Kw h4
  refine⟨?_,fun A t' B e=>?_⟩
  simp only[List.map_cons,List.filterMap_cons]
  rw[List.getElem?_eq_getElem h3,List.map_cons,h5]
  cases A with
  | nil=>
   simp only[List.nil_append,List.cons.injEq] at e
   obtain⟨rfl,rfl⟩:=e
   exact⟨fun q hq=>⟨(h1 q hq).1,Kq (h1 q hq).2⟩,fun j hj=>(by cases hj),fun j hj=>⟨Kq (h2 j hj).2,(h2 j hj).1⟩⟩
  | cons a A=>
   simp only[List.cons_append,List.cons.injEq] at e
   obtain⟨rfl,e⟩:=e
   obtain⟨g1,g2,g3⟩:=h6 A t' B e
   refine⟨g1,fun j hj=>?_,fun j hj=>g3 j (List.mem_cons_of_mem _ hj)⟩
   rcases List.mem_cons.1 hj with e'|e'
   subst e';exact g3 j List.mem_cons_self
   exact g2 j e'
theorem K3 {tl:List Nat} {T0:bG D} (hn:n.n=fr.n) (hf:n.fix=fr.fx) (hG:F6 P TB G) (b3:iX 0 os=true) (hS:Nd T0.st) (hk:∀ s',Ext lk0.s lk0.o T0 s'->K s'=some r->Fin E n .normal s'.st Q) (hw:∀ p ow,W p ow=some r->pk.ok p->Fin E n (.panic (Et (pk.pv p))) ow.st Q) :
 ∀ {l:List DI} {ps:List (PR D)} {T:bG D} {A:List DR},DInv P E n os lk0 T0 T0.st A ps T->iF B0 L G fr lk0 os (C2 os []) tl T0 l ps T K W=some r->vv P E n os.toArray T0.st Q
 | [],ps,T,A,hI,h=>by
  unfold iF at h
  split at h
  next b1=>
   simp only[Bool.and_eq_true,List.all_eq_true,Bool.or_eq_true] at b1
   obtain⟨b1,htb⟩:=b1
   obtain⟨ht1,ht2⟩:=Kw htb
   have hA:∀ r'∈A,∃ q∈ps,r'.i=q.d.i:=fun r' b0=>by
    obtain⟨_,q,hq,Γ,e2⟩:=hI.rc r' b0
    exact⟨q,hq,by rw[e2];rfl⟩
   refine drawn b3 hS (fun r hr=>(hI.rc r hr).1) hI.nd hI.st none tl _ ht1 (fun A' t B e=>?_) (fun h=>absurd rfl h) (fun i hi=>?_) (fun p hp=>by cases hp) fun _ a w hr=>?_
   obtain⟨g1,g2,g3⟩:=ht2 A' t B e
   refine⟨fun hm=>?_,fun r' b0=>?_,g2⟩
   obtain⟨r',b0,e'⟩:=List.mem_map.1 hm
   obtain⟨q,hq,e2⟩:=hA r' b0
   exact (g1 q hq).1 (by rw[← e2];exact e')
   obtain⟨q,hq,e2⟩:=hA r' b0
   rw[e2];exact (g1 q hq).2
   rcases b1 i (List.mem_range.2 hi) with h5|h5
   obtain⟨q,hq,e⟩:=List.any_eq_true.1 h5
   obtain⟨r',b0,e'⟩:=hI.ex q hq
   exact .inl (List.mem_map.2 ⟨r',b0,by rw[e'];simpa using e⟩)
   exact .inr (.inl (by simpa using h5))
   refine xM hn hf hG hw h (fun s' he hK=>hk s' (hI.ext.trans he) hK) a w (sr (fun p hp=>?_) (fun p hp=>?_) hr)
   obtain⟨t,v⟩:=p
   obtain⟨z,hz,rfl⟩:=ey.1 hp
   exact bj (hI.ag.sl t z (jn hI.n1 hz))
   obtain⟨⟨k,c⟩,hc,e⟩:=List.mem_map.1 hp
   subst e
   exact bj (hI.ag.own k c (jn hI.n2 hc))
  cases h
 | d::l,ps,T,A,hI,h=>by
  unfold iF at h
  obtain⟨o,ho,h1⟩:=aK h
  split at h1
  next hfr=>
   obtain⟨⟨T1,g0⟩,hg,h2⟩:=aK h1
   obtain⟨g,hc,h3⟩:=aK h2
   simp only at hc h3
   rcases KD (P:=P) (TB:=TB) (E:=E) (n:=n) hG h3 with ⟨e,h5,h6⟩|⟨rfl,p,ow,h5,h6⟩
   split at h5
   next b2=>exact K3 hn hf hG b3 hS hk hw (JC hn hf hI ho hfr hg hc h6 b2) h5
   cases h5
   split at h5
   next b2=>
    simp only[okPan,Bool.and_eq_true,List.all_eq_true,Bool.or_eq_true] at b2
    obtain⟨q1,q2⟩:=b2
    obtain⟨hag,_,_,_⟩:=AU (E:=E) (n:=n) hg
    have ha1:=hag _ hI.ag
    refine drawn b3 hS (fun r hr=>(hI.rc r hr).1) hI.nd hI.st (some ⟨d.i,o,d.rs,d.ks,none,[],[]⟩) [] [] rfl (fun A' t B e=>by simp at e) (fun _=>rfl) (fun i hi=>?_) (fun p' hp'=>?_) (fun e=>by cases e)
    rcases q1 i (List.mem_range.2 hi) with (h7|h7)|h7
    obtain⟨q,hq,e⟩:=List.any_eq_true.1 h7
    obtain⟨r',b0,e'⟩:=hI.ex q hq
    exact .inl (List.mem_map.2 ⟨r',b0,by rw[e'];simpa using e⟩)
    exact .inr (.inr ⟨_,rfl,.inl (by simpa using h7)⟩)
    exact .inr (.inr ⟨_,rfl,.inr (wF h7)⟩)
    cases hp'
    refine⟨fun hm=>?_,(List.getElem?_eq_some_iff.1 ho).1,ho,Jx hc,fun q hq=>?_,fun s0 hv a w hr next=>?_⟩
    obtain⟨r',b0,e1⟩:=List.mem_map.1 hm
    obtain⟨_,q,hq,Γ,e2⟩:=hI.rc r' b0
    have:=List.all_eq_true.1 hfr q hq
    subst e2
    have e4:q.d.i=d.i:=e1
    simp[e4] at this
    obtain⟨_,p2,hp2,Γ,e2⟩:=hI.rc q hq
    subst e2
    rcases q2 p2 hp2 with h7|h7
    exact .inr (Gn ⟨rfl,rfl⟩ h7)
    exact .inl (wF h7)
    exact h6 s0 (IG (d:=d) (r:=⟨d.i,o,d.rs,d.ks,none,[],[]⟩) ⟨rfl,rfl⟩ ha1 hv) a w hr next Q (fun b2 a w hr=>hw p ⟨[],[],[]⟩ h5 b2 a w (sr (fun p hp=>by cases hp) (fun p hp=>by cases hp) hr))
   cases h5
  cases h1
theorem Hg {T0:bG D} (h:okT os T0=true):iX 0 os=true/\Nd T0.st/\DInv P E n os lk0 T0 T0.st [] [] T0:=by
 simp only[okT,Bool.and_eq_true] at h
 obtain⟨h1,h2,h3⟩:=h
 have e1:=mQ h2
 have e2:=mQ h3
 refine⟨h1,⟨?_,?_⟩,⟨fun r hr=>(by cases hr),fun p hp=>(by cases hp),List.nodup_nil,fun A1 r A2 hA=>(by simp at hA),qV.self T0,e1,e2,.refl⟩⟩
 have:T0.st.slots.map (·.1)=T0.sl.map (·.1):=by simp[bG.st,oK]
 rw[this];exact e1
 show (ai (bw T0.own)).Nodup
 rw[mT];exact e2
end
end Go.Dn
namespace Go.Dn
open Go Go.Sk
def bl (o:Oper):List Nat:=(o.after.toList.filter fun e=>Region.binds .any e).map (·.on)
def JT (deps:List (List Nat)) (n mask:Nat):List Nat:=(List.range n).filter fun i=>!mask.testBit i&&(deps.getD i []).all fun j=>mask.testBit j
def qA (deps:List (List Nat)) (n:Nat):Nat->Nat->List (List Nat)
 | 0,_=>[[]]
 | f+1,mask=>match JT deps n mask with
  | []=>[[]]
  | r::rs=>(r::rs).flatMap fun i=>(qA deps n f (mask ||| 2 ^ i)).map (i::·)
def Msk (n:Nat) (listed:Array Bool) (mask:Nat):Prop:=listed.size=n/\∀ i,listed.getD i false=mask.testBit i
theorem rdy_eq {ops:Array Oper} {deps:List (List Nat)} {listed:Array Bool} {mask:Nat} (hd:ops.toList.map bl=deps) (hm:Msk ops.size listed mask) :
 ((List.range ops.size).filter fun i=>!listed.getD i true&&((ops[i]?).map (·.after.all fun e=>!Region.binds .any e||listed.getD e.on false)).getD false)=JT deps ops.size mask:=by
 unfold JT
 refine List.filter_congr fun i hi=>?_
 have hi:i<ops.size:=List.mem_range.1 hi
 have h1:listed.getD i true=mask.testBit i:=by
  rw[← hm.2 i]
  have:i<listed.size:=by rw[hm.1];exact hi
  simp[Array.getD_eq_getD_getElem?,Array.getElem?_eq_getElem this]
 have h2:deps.getD i []=bl ops[i]:=by
  subst hd
  simp[List.getD_eq_getElem?_getD,hi]
 rw[h1,h2,Array.getElem?_eq_getElem hi]
 congr 1
 simp only[Option.map_some,Option.getD_some,bl,List.all_map,List.all_filter,← Array.all_toList]
 congr 1
 funext e
 simp only[Function.comp,hm.2]
theorem Msk.set {n:Nat} {listed:Array Bool} {mask i:Nat} (hm:Msk n listed mask) (hi:i<n):Msk n (listed.setIfInBounds i true) (mask ||| 2 ^ i):=by
 refine⟨by simp[hm.1],fun j=>?_⟩
 rw[Nat.testBit_or,Nat.testBit_two_pow,← hm.2 j]
 by_cases e:i=j
 subst e
 have:i<listed.size:=by rw[hm.1];exact hi
 simp[Array.getD_eq_getD_getElem?,this]
 simp[Array.getD_eq_getD_getElem?,Array.getElem?_setIfInBounds_ne e,e]
theorem Iw {ops:Array Oper} {deps:List (List Nat)} (hd:ops.toList.map bl=deps):∀ (f t:Nat) (listed:Array Bool) (mask:Nat),Msk ops.size listed mask->Region.linearise.go .any ops f t listed []∈qA deps ops.size f mask
 | 0,t,listed,mask,hm=>by simp[Region.linearise.go,qA]
 | f+1,t,listed,mask,hm=>by
  unfold Region.linearise.go qA
  simp only[]
  rw[rdy_eq hd hm]
  cases hr:JT deps ops.size mask with
  | nil=>simp
  | cons r rs=>
   have hlt:t%(r::rs).length<(r::rs).length:=Nat.mod_lt _ (by simp)
   rw[List.getElem?_eq_getElem hlt]
   simp only[]
   have b0:(r::rs)[t%(r::rs).length]∈r::rs:=List.getElem_mem hlt
   generalize (r::rs)[t%(r::rs).length]=i at b0
   have hi:i<ops.size:=by
    have:=b0
    rw[← hr] at this
    exact List.mem_range.1 (List.mem_filter.1 this).1
   rw[linearise_go_acc,List.reverse_singleton,List.singleton_append]
   exact List.mem_flatMap.2 ⟨i,b0,List.mem_map.2 ⟨_,Iw hd f _ _ _ (hm.set hi),rfl⟩⟩
def fndR (i:Nat):Code->Option (List Oper)
 | .seq a b|.cond _ a b=>match fndR i a with
  | some c=>some c
  | none=>fndR i b
 | .block _ c|.loop c|.scope c=>fndR i c
 | .region j ⟨os⟩ _=>if j=i then some os else none
 | _=>none
noncomputable def Ht (i:Nat) (fn:Func):List Oper:=((fn.body).bind (fndR i)).getD []
section
variable {P:Program} {TB:aH} {E:Env TB} {n:Sh} {s:St} {Q:bH}
theorem xW {ops:Array Oper}:∀ {σ:List Nat} {a:Act} {w:World},(∀ i∈σ,i<ops.size)->zk P ops Q (σ.filterMap fun i=>ops.toList[i]?) a w->wpOps P ops Q σ a w
 | [],a,w,_,h=>h
 | i::σ,a,w,hi,h=>by
  have h0:i<ops.size:=hi i List.mem_cons_self
  have h1:ops.toList[i]?=some ops[i]:=by simp[h0]
  simp only[List.filterMap_cons,h1] at h
  have h2:ops[i]?=some ops[i]:=Array.getElem?_eq_getElem h0
  unfold zk at h
  unfold wpOps
  simp only[h2]
  split at h
  next hw=>
   simp only[hw,if_true]
   exact .inl (Oper.wp_mono (fun a w h=>xW (fun j hj=>hi j (List.mem_cons_of_mem _ hj)) h) h)
  next hw=>
   simp only[hw]
   exact xW (fun j hj=>hi j (List.mem_cons_of_mem _ hj)) h
theorem Ih {deps:List (List Nat)} {n:Nat}:∀ {f mask:Nat} {σ:List Nat},σ∈qA deps n f mask->∀ i∈σ,i<n
 | 0,mask,σ,h,i,hi=>by
  simp[qA] at h
  subst h
  cases hi
 | f+1,mask,σ,h,i,hi=>by
  unfold qA at h
  split at h
  have:σ=[]:=by simpa using h
  subst this
  cases hi
  next r rs hr=>
   obtain⟨j,hj,h2⟩:=List.mem_flatMap.1 h
   obtain⟨σ',h3,e⟩:=List.mem_map.1 h2
   subst e
   rcases List.mem_cons.1 hi with e|e
   subst e
   rw[← hr] at hj
   exact List.mem_range.1 (List.mem_filter.1 hj).1
   exact Ih h3 i e
theorem ah.lin {id:Nat} {os:List Oper} {deps:List (List Nat)} (hm:P.follows .mixedOrders=true) (hd:os.map bl=deps) (h:∀ σ∈qA deps os.length os.length 0,aj P E n os.toArray (σ.filterMap fun i=>os[i]?) s Q):ah P E n (.region id os.toArray true) s Q:=fun a w hr=>wp_region_draw fun t=>by
 simp only[Region.schedule,hm,Bool.true_or,if_true]
 have b0:=Iw (ops:=os.toArray) (deps:=deps) hd os.toArray.size t (Array.replicate os.toArray.size false) 0 ⟨by simp,fun i=>by
  simp[Array.getD_eq_getD_getElem?,Array.getElem?_replicate]
  split<;>simp⟩
 have hsz:os.toArray.size=os.length:=by simp
 rw[hsz] at b0
 refine xW (fun i hi=>?_) ?_
 have h2:Region.linearise .any os.toArray t∈qA deps os.length os.length 0:=by simpa[Region.linearise] using b0
 have:=Ih h2 i hi
 simpa using this
 exact h _ (by simpa[Region.linearise] using b0) a _ hr.drawn
end
end Go.Dn
namespace Go.Dn
open Go Go.Sk
variable {D:Dt}
inductive Pl (D:Dt) where
 | s (t:Nat) (d:DT D.σ)
 | b (k:Nat) (T:TypeId) (d:DT D.σ)
 | r (k:Nat) (T:TypeId) (d:DT D.σ)
 | x (k:Nat) (T:TypeId) (i:D.σ) (kr:Nat)
@[reducible] def Pl.ty:Pl D->DT D.σ
 | .s _ d=>d
 | .b _ _ d=>d
 | .r _ _ d=>.sl d
 | .x _ _ i _=>.st i
@[reducible] def PT (D:Dt) (ks:List (Pl D)):Type:=yK D (ks.map Pl.ty)
section
variable {P:Program} [DecidableEq D.σ] {pk:PK D} {TB:aH} (B0:Tb P D TB) (L:Lay D) (G:List (bK D pk))
def Pl.get (s:bG D):(p:Pl D)->Option (V D p.ty)
 | .s t d=>(vl s t).bind (gT d)
 | .b k T d=>match lk s.own k with
  | some (.box T' d' v)=>if h:T'=T/\d'=d then some (h.2▸v) else none
  | _=>none
 | .r k T d=>match lk s.own k with
  | some (.row T' d' l)=>if h:T'=T/\d'=d then some (show List (V D d) from h.2▸l) else none
  | _=>none
 | .x k T i kr=>match lk s.own k with
  | some (.x T' i' k' kr' fg v)=>if h:T'=T/\i'=i then (if (k'=k/\kr'=kr)/\fg=false then some (show D.T i from h.2▸v) else none) else none
  | _=>none
def Er (s:bG D):(ks:List (Pl D))->Option (PT D ks)
 | []=>some ()
 | [p]=>Pl.get s p
 | p::q::l=>(Pl.get s p).bind fun a=>(Er s (q::l)).bind fun b=>some (a,b)
def hasR (s:bG D) (r:List (Nat×Nat)):Bool:=r.all fun p=>match lk s.sl p.1 with
 | some (.n (.p (.row k)))=>k==p.2
 | _=>false
def pj (s:bG D) (r:List (Nat×Nat)) (ks:List (Pl D)):Option (PT D ks):=if hasR s r=true then Er s ks else none
def impK (s:bG D) (ks:List (Pl D)):List Nat:=ks.filterMap fun p=>match p with
 | .b k _ _=>(match lk s.own k with
  | some (.x _ _ _ _ _ _)=>some k
  | _=>none)
 | _=>none
def pjI (lk0:Kept) (s:bG D) (r:List (Nat×Nat)) (ks:List (Pl D)):Option (PT D ks):=(Ga L lk0 (impK s ks) s).bind fun s2=>pj s2 r ks
def emS1:(p:Pl D)->V D p.ty->List (Nat×TS D)
 | .s t d,v=>[(t,.n (.d d v))]
 | _,_=>[]
def emO1:(p:Pl D)->V D p.ty->List (Nat×TO D)
 | .b k T d,v=>[(k,.box T d v)]
 | .r k T d,v=>[(k,.row T d v)]
 | .x k T i kr,v=>[(k,.x T i k kr false v)]
 | _,_=>[]
def emS:(ks:List (Pl D))->PT D ks->List (Nat×TS D)
 | [],_=>[]
 | [p],z=>emS1 p z
 | p::q::l,z=>emS1 p z.1++emS (q::l) z.2
def emO:(ks:List (Pl D))->PT D ks->List (Nat×TO D)
 | [],_=>[]
 | [p],z=>emO1 p z
 | p::q::l,z=>emO1 p z.1++emO (q::l) z.2
def kp (s:bG D) (cs:List Nat):List (Nat×TS D):=cs.filterMap fun t=>(vl s t).map fun x=>(t,.n x)
def kpo (s:bG D) (co:List Nat):List (Nat×TO D):=co.filterMap fun k=>(lk s.own k).map fun c=>(k,c)
def rws (r:List (Nat×Nat)):List (Nat×TS D):=r.map fun p=>(p.1,.n (.p (.row p.2)))
def F7 (s:bG D) (cs:Kept) (ks:List (Pl D)) (z:PT D ks):bG D:=⟨emS ks z++(rws cs.r++kp s cs.s),emO ks z++kpo s cs.o,[]⟩
def JN (ps:List (Nat×Nat)) (ks:List (Pl D)) (z:PT D ks):bG D:=⟨(ps.map fun p=>(p.1,.n (.p (.ptr p.2 0))))++emS ks z,emO ks z,[]⟩
def qB (s:bG D) (ps:List (Nat×Nat)):Bool:=ps.all fun p=>match lk s.sl p.1 with
 | some (.n (.p (.ptr k 0)))=>k==p.2
 | _=>false
inductive Xt where
 | x (t:Option Nat)
 | iE
abbrev Exs (D:Dt):=List (Xt×List (Pl D))
@[reducible] def ET {D:Dt} (pk:PK D):Xt×List (Pl D)->Type
 | (.x _,ks)=>PT D ks
 | (.iE,[])=>D.T pk.d
 | (.iE,p::ks)=>D.T pk.d×PT D (p::ks)
@[reducible] def Alt {D:Dt} (pk:PK D):Exs D->Type
 | []=>Empty
 | [e]=>ET pk e
 | e::f::l=>ET pk e⊕Alt pk (f::l)
def injE (lk0:Kept) (s:bG D) (r:List (Nat×Nat)) (t:Option Nat):(e:Xt×List (Pl D))->Option (ET pk e)
 | (.x t',ks)=>if t'=t then pjI L lk0 s r ks else none
 | (.iE,[])|(.iE,_::_)=>none
def isX (t:Option Nat):Xt->Bool
 | .x t'=>t'==t
 | .iE=>false
def inj (lk0:Kept) (s:bG D) (r:List (Nat×Nat)) (t:Option Nat):(es:Exs D)->Option (Alt pk es)
 | []=>none
 | [e]=>injE L lk0 s r t e
 | e::f::l=>if isX t e.1=true then (injE L lk0 s r t e).bind fun z=>some (.inl z) else (inj lk0 s r t (f::l)).bind fun z=>some (.inr z)
def injQ (p:D.T pk.d) (ow:bG D):(e:Xt×List (Pl D))->Option (ET pk e)
 | (.x _,_)=>none
 | (.iE,[])=>some p
 | (.iE,q::ks)=>(Er ow (q::ks)).bind fun z=>some (p,z)
def isP:Xt->Bool
 | .x _=>false
 | .iE=>true
def JX (p:D.T pk.d) (ow:bG D):(es:Exs D)->Option (Alt pk es)
 | []=>none
 | [e]=>injQ p ow e
 | e::f::l=>if isP e.1=true then (injQ p ow e).bind fun z=>some (.inl z) else (JX p ow (f::l)).bind fun z=>some (.inr z)
def HF {X:Type} (s:bG D) (cs:Kept) (W:Option Nat->bG D->Option X) (Wp:D.T pk.d->bG D->Option X):(e:Xt×List (Pl D))->ET pk e->Option X
 | (.x t,ks),z=>W t (F7 s cs ks z)
 | (.iE,[]),p=>Wp p ⟨[],[],[]⟩
 | (.iE,q::ks),p=>Wp p.1 ⟨[],emO (q::ks) p.2,[]⟩
def elim {X:Type} (s:bG D) (cs:Kept) (W:Option Nat->bG D->Option X) (Wp:D.T pk.d->bG D->Option X):(es:Exs D)->Alt pk es->Option X
 | [],z=>nomatch z
 | [e],z=>HF s cs W Wp e z
 | e::f::l,z=>cz (HF s cs W Wp e) (elim s cs W Wp (f::l)) z
def offS (t:Nat):Pl D->Bool
 | .s t' _=>t' != t
 | _=>true
def IU (k:Nat):Pl D->Bool
 | .b k' _ _|.r k' _ _|.x k' _ _ _=>k' != k
 | _=>true
def okE (lcks cs:Kept) (s:bG D) (ks:List (Pl D)):Bool:=((cs.s.all fun t=>(ks.all (offS t))&&cs.r.all fun p=>p.1 != t)&&lcks.s.all fun t=>cs.s.contains t||(lk s.sl t).isNone)&&((cs.o.all fun k=>ks.all (IU k))&&lcks.o.all fun t=>cs.o.contains t||(lk s.own t).isNone)
def Kept.add (a b:Kept):Kept:=⟨a.s++b.s,a.o++b.o,[]⟩
def IT (lcks cs:Kept) (s:bG D) (es:Exs D):Bool:=es.all fun e=>okE lcks cs s e.2
inductive An (D:Dt) where
 | no
 | two (a b:An D)
 | loop (cs:Kept) (ks:List (Pl D)) (es:Exs D) (b:An D)
 | join (cs:Kept) (ks:List (Pl D)) (a b:An D)
 | qY (cs:Kept) (ks:List (Pl D)) (es:Exs D) (a b:An D)
 | iF (l:List DI) (tl:List Nat) (fz:List Nat)
 | lin (pi po:List (Nat×Nat)) (ki ks:List (Pl D)) (d:D.σ) (f:PT D ki->Option (PT D ks⊕D.T d))
def ic (fr:Fr) (F:Nat):Code->{X:Type}->An D->Kept->bG D->(bG D->Option X)->(Option Nat->bG D->Option X)->(D.T pk.d->bG D->Option X)->Option X
 | .skip,_,_,lcks,s,K,W,Wp=>K s
 | .region _ os false,_,_,lcks,s,K,W,Wp=>ops B0 L G fr lcks os.toList os.toList s (fun s=>K (clean s)) Wp
 | .region _ os true,_,.iF l tl fz,lcks,s,K,W,Wp=>(IW lcks fz s).bind fun s=>if okT os.toList s=true then iF B0 L G fr lcks os.toList (C2 os.toList []) tl s l [] s (fun s=>K (clean s)) Wp else none
 | .region _ os true,_,.lin pi po ki ks d f,lcks,s,K,W,Wp=>if h:d=pk.d then (if (qB s pi&&((lcks.s.all fun t=>(match lk po t with
  | some k=>lk pi t==some k
  | none=>false)||(lk s.sl t).isNone)&&lcks.o.all fun k=>(lk s.own k).isNone))=true then (Er s ki).bind fun z0=>(f z0).bind (fun r=>match r with
  | .inl z=>K (JN po ks z)
  | .inr p=>Wp (h▸p) ⟨[],[],[]⟩) else none) else none
 | .seq a b,_,.join cs ks x y,lcks,s,K,W,Wp=>if okE lcks cs s ks=true then
  (ic fr F a x (cs.add lcks) s (fun s'=>pjI L (cs.add lcks) s' cs.r ks) (fun _ _=>none) (fun _ _=>none)).bind fun z=>ic fr F b y lcks (F7 s cs ks z) K W Wp else none
 | .seq a b,_,.qY cs ks es x y,lcks,s,K,W,Wp=>if okE lcks cs s ks=true/\IT lcks cs s es=true then
  (ic fr F a x (cs.add lcks) s (fun s'=>(pjI L (cs.add lcks) s' cs.r ks).bind fun z=>some (Sum.inl z)) (fun t s'=>(inj L (cs.add lcks) s' cs.r t es).bind fun z=>some (Sum.inr z)) (fun p ow=>(JX p ow es).bind fun z=>some (Sum.inr z))).bind
   (cz (fun z=>ic fr F b y lcks (F7 s cs ks z) K W Wp) (elim s cs W Wp es)) else none
 | .seq a b,_,.two x y,lcks,s,K,W,Wp=>ic fr F a x lcks s (fun s=>ic fr F b y lcks s K W Wp) W Wp
 | .seq a b,_,_,lcks,s,K,W,Wp=>ic fr F a .no lcks s (fun s=>ic fr F b .no lcks s K W Wp) W Wp
 | .cond (.const (.bool c)) a b,_,.two x y,lcks,s,K,W,Wp=>(match c with
  | true=>ic fr F a x lcks s K W Wp
  | false=>ic fr F b y lcks s K W Wp)
 | .cond (.const (.bool c)) a b,_,_,lcks,s,K,W,Wp=>(match c with
  | true=>ic fr F a .no lcks s K W Wp
  | false=>ic fr F b .no lcks s K W Wp)
 | .cond (.tmp t) a b,_,.two x y,lcks,s,K,W,Wp=>(match lk s.sl t with
  | some (.n (.d .bool c))=>if c=true then ic fr F a x lcks s K W Wp else ic fr F b y lcks s K W Wp
  | _=>none)
 | .cond (.tmp t) a b,_,_,lcks,s,K,W,Wp=>(match lk s.sl t with
  | some (.n (.d .bool c))=>if c=true then ic fr F a .no lcks s K W Wp else ic fr F b .no lcks s K W Wp
  | _=>none)
 | .block id c,_,x,lcks,s,K,W,Wp=>ic fr F c x lcks s K (fun t s=>if t=some id then K s else W t s) Wp
 | .loop c,_,.loop cs ks es x,lcks,s,K,W,Wp=>if okE lcks cs s ks=true/\IT lcks cs s es=true then
  (pjI L (cs.add lcks) s cs.r ks).bind fun z0=>Option.bind (iter F (fun z=>ic fr F c x (cs.add lcks) (F7 s cs ks z) (fun s'=>(pjI L (cs.add lcks) s' cs.r ks).bind fun z=>some (Sum.inl z)) (fun t s'=>(inj L (cs.add lcks) s' cs.r t es).bind fun z=>some (Sum.inr z)) (fun p ow=>(JX p ow es).bind fun z=>some (Sum.inr z))) z0) (elim s cs W Wp es) else none
 | .exit i,_,_,_,s,_,W,_=>W (some i) s
 | .ret,_,_,_,s,_,W,_=>W none s
 | _,_,_,_,_,_,_,_=>none
def lrP {ks:List (Pl D)} {d:D.σ} (h:d=pk.d):PT D ks⊕D.T d->PT D ks⊕D.T pk.d
 | .inl z=>.inl z
 | .inr p=>.inr (h▸p)
def EG (fr:Fr) (os:List Oper) (pi po:List (Nat×Nat)) (ki ks:List (Pl D)) (d:D.σ) (f:PT D ki->Option (PT D ks⊕D.T d)):Prop:=∃ deps,os.map bl=deps/\∀ z0 r,f z0=some r->∀ h:d=pk.d,∀ σ∈qA deps os.length os.length 0,ops B0 L G fr ⟨[],[],[]⟩ os (σ.filterMap fun i=>os[i]?) (JN pi ki z0) (fun s'=>if qB s' po=true then (Er s' ks).bind fun z=>some (Sum.inl z:PT D ks⊕D.T pk.d) else none) (fun p _=>some (.inr p))=some (lrP (pk:=pk) h r)
def iZ (fr:Fr):Code->An D->Prop
 | .region _ ⟨os⟩ true,.lin pi po ki ks d f=>EG B0 L G fr os pi po ki ks d f
 | .seq a b,.two x y|.seq a b,.join _ _ x y|.seq a b,.qY _ _ _ x y|.cond _ a b,.two x y=>iZ fr a x/\iZ fr b y
 | .loop c,.loop _ _ _ x|.block _ c,x=>iZ fr c x
 | _,_=>True
end
def mK:An D->Bool
 | .lin _ _ _ _ _ _=>false
 | .two x y|.join _ _ x y|.qY _ _ _ x y=>mK x&&mK y
 | .loop _ _ _ x=>mK x
 | _=>true
section
variable {P:Program} [DecidableEq D.σ] {pk:PK D} {TB:aH} {B0:Tb P D TB} {L:Lay D} {E:Env TB} {n:Sh} {s s':bG D} {G:List (bK D pk)} {a:Act} {w:World} {Q:bH} {lcks cs:Kept} {ks:List (Pl D)}
theorem rz {hh:PH} {ρ:RM} {tmps:Array Value} (hs:bt hh ρ s.st.slots tmps) {t:Nat} {x:T0 D} (h:vl s t=some x):∃ v,tmps[t]?=some v/\x.bv.rel hh ρ v:=by
 unfold vl at h
 split at h
 next y hy=>cases h;exact hs _ _ (ey.2 ⟨_,bj hy,rfl⟩)
 next i hi=>
  split at h
  next b hb=>
   cases h
   obtain⟨v,hv,b0⟩:=hs _ _ (ey.2 ⟨_,bj hi,rfl⟩)
   refine⟨v,hv,?_⟩
   simp only[TS.sv,hb] at b0
   exact b0
  cases h
 cases h
theorem box_eq {T T':TypeId} {d d':DT D.σ} {v:V D d'} {w:V D d} (h:T'=T/\d'=d) (e:(h.2▸v:V D d)=w):(TO.box T' d' v:TO D)=.box T d w:=by obtain⟨rfl,rfl⟩:=h;subst e;rfl
theorem row_eq {T T':TypeId} {d d':DT D.σ} {v:List (V D d')} {w:List (V D d)} (h:T'=T/\d'=d) (e:(show List (V D d) from h.2▸v)=w):(TO.row T' d' v:TO D)=.row T d w:=by obtain⟨rfl,rfl⟩:=h;subst e;rfl
theorem get_mem {p:Pl D} {v:V D p.ty} (h:Pl.get s p=some v):(∀ k y,(k,y)∈emS1 p v->∃ x,y=.n x/\vl s k=some x)/\∀ k c,(k,c)∈emO1 p v->lk s.own k=some c:=by
 cases p with
 | s t d=>
  obtain⟨x,h1,h2⟩:=aK h
  rw[dw h2] at h1
  exact⟨fun k y hm=>(by cases List.mem_singleton.1 hm;exact⟨_,rfl,h1⟩),fun k c hm=>(by cases hm)⟩
 | b k T d=>
  refine⟨fun k y hm=>(by cases hm),fun k' c hm=>?_⟩
  cases List.mem_singleton.1 hm
  simp only[Pl.get] at h
  split at h
  next T' d' u hu=>
   split at h
   next he=>rw[hu];exact congrArg some (box_eq he (zaa h))
   cases h
  cases h
 | r k T d=>
  refine⟨fun k y hm=>(by cases hm),fun k' c hm=>?_⟩
  cases List.mem_singleton.1 hm
  simp only[Pl.get] at h
  split at h
  next T' d' u hu=>
   split at h
   next he=>rw[hu];exact congrArg some (row_eq he (zaa h))
   cases h
  cases h
 | x k T i kr=>
  refine⟨fun k y hm=>(by cases hm),fun k' c hm=>?_⟩
  cases List.mem_singleton.1 hm
  simp only[Pl.get] at h
  split at h
  next T' i' k' kr' fg u hu=>
   split at h
   next he=>
    split at h
    next he2=>
     obtain⟨rfl,rfl⟩:=he
     obtain⟨⟨rfl,rfl⟩,rfl⟩:=he2
     rw[hu]
     cases h
     rfl
    cases h
   cases h
  cases h
theorem Ah:∀ {ks:List (Pl D)} {z:PT D ks},Er s ks=some z->(∀ k y,(k,y)∈emS ks z->∃ x,y=.n x/\vl s k=some x)/\∀ k c,(k,c)∈emO ks z->lk s.own k=some c
 | [],z,h=>⟨fun k y hm=>(by cases hm),fun k c hm=>by cases hm⟩
 | [p],z,h=>get_mem h
 | p::q::l,z,h=>by
  obtain⟨a,ha,h1⟩:=aK h
  obtain⟨b,hb,h2⟩:=aK h1
  cases h2
  obtain⟨h3,h4⟩:=get_mem ha
  obtain⟨h5,h6⟩:=Ah hb
  exact⟨fun k y hm=>(List.mem_append.1 hm).elim (h3 k y) (h5 k y),fun k c hm=>(List.mem_append.1 hm).elim (h4 k c) (h6 k c)⟩
theorem KR {k:Nat} {y:TS D} {cs:List Nat} (h:(k,y)∈kp s cs):k∈cs/\∃ x,y=.n x/\vl s k=some x:=by
 simp only[kp,List.mem_filterMap] at h
 obtain⟨t,ht,h⟩:=h
 obtain⟨x,hx,e⟩:=Option.map_eq_some_iff.1 h
 cases e
 exact⟨ht,x,rfl,hx⟩
theorem H7 {r:List (Nat×Nat)} (h:hasR s r=true) {k:Nat} {y:TS D} (hm:(k,y)∈rws r):∃ x,y=.n x/\vl s k=some x:=by
 simp only[rws,List.mem_map] at hm
 obtain⟨p,hp,e⟩:=hm
 cases e
 have:=List.all_eq_true.1 h p hp
 refine⟨_,rfl,?_⟩
 split at this
 next j hj=>
  have:j=p.2:=by simpa using this
  subst this
  unfold vl
  rw[hj]
 cases this
theorem emb_R {z:PT D ks} (hp:pj s' cs.r ks=some z) (hc:∀ t,t∈cs.s->∀ x,vl s t=some x->vl s' t=some x) (ho:∀ t,t∈cs.o->∀ x,lk s.own t=some x->lk s'.own t=some x) (hr:R E n s'.st a w):R E n (F7 s cs ks z).st a w:=by
 obtain⟨h1,h2,hh,ρ,hw,hs⟩:=hr
 unfold pj at hp
 split at hp
 next hR=>
  obtain⟨h3,h4⟩:=Ah hp
  refine⟨h1,h2,hh,ρ,?_,fun k x hx=>?_⟩
  refine hw.sub fun p hp=>?_
  obtain⟨q,hq,rfl⟩:=List.mem_map.1 hp
  obtain⟨k,c⟩:=q
  refine List.mem_map.2 ⟨(k,c),?_,rfl⟩
  rcases List.mem_append.1 hq with e|e
  exact bj (h4 k c e)
  simp only[kpo,List.mem_filterMap] at e
  obtain⟨k',hk,hq⟩:=e
  obtain⟨c',hc',e⟩:=Option.map_eq_some_iff.1 hq
  cases e
  exact bj (ho _ hk _ hc')
  obtain⟨y,hy,rfl⟩:=ey.1 hx
  rcases List.mem_append.1 hy with e|e
  obtain⟨x,rfl,hv⟩:=h3 _ _ e
  exact rz hs hv
  rcases List.mem_append.1 e with e|e
  obtain⟨x,rfl,hv⟩:=H7 hR e
  exact rz hs hv
  obtain⟨hk,x,rfl,hv⟩:=KR e
  exact rz hs (hc _ hk _ hv)
 cases hp
theorem vC {z:PT D ks} (hp:pjI L (cs.add lcks) s' cs.r ks=some z) (he:Ext (cs.add lcks).s (cs.add lcks).o s s') (hr:R E n s'.st a w):R E n (F7 s cs ks z).st a w:=by
 obtain⟨s2,h1,h2⟩:=aK hp
 obtain⟨e2,hr2⟩:=wy (E:=E) (n:=n) h1
 have he2:=he.trans e2
 exact emb_R h2 (fun t ht=>he2.sl t (List.mem_append_left _ ht)) (fun t ht=>he2.ow t (List.mem_append_left _ ht)) (hr2 a w hr)
theorem Ad {ps:List (Nat×Nat)} {z:PT D ks} (hP:qB s ps=true) (hp:Er s ks=some z) (hr:R E n s.st a w):R E n (JN ps ks z).st a w:=by
 obtain⟨h1,h2,hh,ρ,hw,hs⟩:=hr
 obtain⟨h3,h4⟩:=Ah hp
 refine⟨h1,h2,hh,ρ,?_,fun k x hx=>?_⟩
 refine hw.sub fun p hp=>?_
 obtain⟨⟨k,c⟩,hq,rfl⟩:=List.mem_map.1 hp
 exact List.mem_map.2 ⟨(k,c),bj (h4 k c hq),rfl⟩
 obtain⟨y,hy,rfl⟩:=ey.1 hx
 rcases List.mem_append.1 hy with e|e
 obtain⟨p,hpm,e2⟩:=List.mem_map.1 e
 cases e2
 have:=List.all_eq_true.1 hP p hpm
 refine rz hs (x:=.p (.ptr p.2 0)) ?_
 split at this
 next j hj=>
  have:j=p.2:=by simpa using this
  subst this
  unfold vl
  rw[hj]
 cases this
 obtain⟨x,rfl,hv⟩:=h3 _ _ e
 exact rz hs hv
theorem ql {α:Type} {t:Nat}:∀ {l l':List (Nat×α)},(∀ p,p∈l->p.1≠t)->lk (l++l') t=lk l' t
 | [],l',h=>rfl
 | (j,x)::l,l',h=>by
  have:¬ t=j:=fun e=>h (j,x) List.mem_cons_self e.symm
  simp only[List.cons_append,lk]
  rw[if_neg (by simpa using this)]
  exact ql fun p hp=>h p (List.mem_cons_of_mem _ hp)
theorem off1 {p:Pl D} {v:V D p.ty} {t:Nat} (h:offS t p=true):∀ q,q∈emS1 p v->q.1≠t:=by
 cases p with
 | s t' d=>intro q hq e;cases List.mem_singleton.1 hq;simp[offS] at h;exact h e
 | b _ _ _=>intro q hq;cases hq
 | r _ _ _=>intro q hq;cases hq
 | x _ _ _ _=>intro q hq;cases hq
theorem off2 {p:Pl D} {v:V D p.ty} {t:Nat} (h:IU t p=true):∀ q,q∈emO1 p v->q.1≠t:=by
 cases p with
 | s t' d=>intro q hq;cases hq
 | b _ _ _=>intro q hq e;cases List.mem_singleton.1 hq;simp[IU] at h;exact h e
 | r _ _ _=>intro q hq e;cases List.mem_singleton.1 hq;simp[IU] at h;exact h e
 | x _ _ _ _=>intro q hq e;cases List.mem_singleton.1 hq;simp[IU] at h;exact h e
theorem offs:∀ {ks:List (Pl D)} {z:PT D ks} {t:Nat},(ks.all (offS t)=true->∀ q,q∈emS ks z->q.1≠t)/\(ks.all (IU t)=true->∀ q,q∈emO ks z->q.1≠t)
 | [],z,t=>⟨fun _ q hq=>(by cases hq),fun _ q hq=>by cases hq⟩
 | [p],z,t=>⟨fun h=>off1 (by simpa using h),fun h=>off2 (by simpa using h)⟩
 | p::r::l,z,t=>by
  refine⟨fun h q hq=>?_,fun h q hq=>?_⟩
  rw[List.all_cons,Bool.and_eq_true] at h
  rcases List.mem_append.1 hq with e|e
  exact off1 h.1 q e
  exact offs.1 h.2 q e
  rw[List.all_cons,Bool.and_eq_true] at h
  rcases List.mem_append.1 hq with e|e
  exact off2 h.1 q e
  exact offs.2 h.2 q e
theorem lk_kp {t:Nat} {x:T0 D} (hx:vl s t=some x):∀ {cs:List Nat},t∈cs->lk (kp s cs) t=some (.n x)
 | c::cs,h=>by
  by_cases e:t=c
  subst e
  simp only[kp,List.filterMap_cons,hx,Option.map_some,lk,beq_self_eq_true,if_true]
  have h':t∈cs:=by rcases List.mem_cons.1 h with h|h;exact absurd h e;exact h
  have ih:=lk_kp hx h'
  simp only[kp,List.filterMap_cons] at ih ⊢
  split
  exact ih
  next q hq=>
   obtain⟨y,_,e'⟩:=Option.map_eq_some_iff.1 hq
   cases e'
   simp only[lk]
   rw[if_neg (by simpa using e)]
   exact ih
theorem KQ {t:Nat} {x:TO D} (hx:lk s.own t=some x):∀ {cs:List Nat},t∈cs->lk (kpo s cs) t=some x
 | c::cs,h=>by
  by_cases e:t=c
  subst e
  simp only[kpo,List.filterMap_cons,hx,Option.map_some,lk,beq_self_eq_true,if_true]
  have h':t∈cs:=by rcases List.mem_cons.1 h with h|h;exact absurd h e;exact h
  have ih:=KQ hx h'
  simp only[kpo,List.filterMap_cons] at ih ⊢
  split
  exact ih
  next q hq=>
   obtain⟨y,_,e'⟩:=Option.map_eq_some_iff.1 hq
   cases e'
   simp only[lk]
   rw[if_neg (by simpa using e)]
   exact ih
theorem zY {z:PT D ks} (h:okE lcks cs s ks=true):Ext (cs.add lcks).s (cs.add lcks).o s (F7 s cs ks z):=by
 simp only[okE,Bool.and_eq_true,List.all_eq_true,Bool.or_eq_true] at h
 obtain⟨⟨h1,h2⟩,h3,h4⟩:=h
 refine⟨fun t ht x hx=>?_,fun k hk c hc=>?_⟩
 have ht':t∈cs.s:=by
  rcases List.mem_append.1 ht with e|e
  exact e
  rcases h2 t e with h5|h5
  simpa using h5
  have:lk s.sl t=none:=by simpa using h5
  unfold vl at hx
  rw[this] at hx
  cases hx
 obtain⟨h5,h6⟩:=h1 t ht'
 unfold vl F7
 simp only
 rw[ql (offs.1 (List.all_eq_true.2 h5)),ql (fun q hq=>?_),lk_kp hx ht']
 obtain⟨p,hp,rfl⟩:=List.mem_map.1 hq
 simpa using h6 p hp
 have hk':k∈cs.o:=by
  rcases List.mem_append.1 hk with e|e
  exact e
  rcases h4 k e with h5|h5
  simpa using h5
  have:lk s.own k=none:=by simpa using h5
  rw[this] at hc
  cases hc
 show lk (emO ks z++kpo s cs.o) k=_
 rw[ql (offs.2 (List.all_eq_true.2 (h3 k hk'))),KQ hc hk']
theorem lk_ptrs {ps:List (Nat×Nat)} {l:List (Nat×TS D)} {t k:Nat} (h:lk ps t=some k):lk ((ps.map fun p=>(p.1,(.n (.p (.ptr p.2 0)):TS D)))++l) t=some (.n (.p (.ptr k 0))):=by
 induction ps with
 | nil=>cases h
 | cons p ps ih=>
  simp only[lk] at h
  simp only[List.map_cons,List.cons_append,lk]
  split at h
  next e=>cases h;rw[if_pos e]
  next e=>rw[if_neg e];exact ih h
theorem hasP_lk {ps:List (Nat×Nat)} {t k:Nat} (hP:qB s ps=true) (h:lk ps t=some k):lk s.sl t=some (.n (.p (.ptr k 0))):=by
 have:=List.all_eq_true.1 hP _ (bj h)
 split at this
 next j hj=>
  have:j=k:=by simpa using this
  subst this
  exact hj
 cases this
theorem shp_ext {pi po:List (Nat×Nat)} {z:PT D ks} (hP:qB s pi=true) (h:((lcks.s.all fun t=>(match lk po t with
  | some k=>lk pi t==some k
  | none=>false)||(lk s.sl t).isNone)&&lcks.o.all fun k=>(lk s.own k).isNone)=true):Ext lcks.s lcks.o s (JN po ks z):=by
 simp only[Bool.and_eq_true,List.all_eq_true,Bool.or_eq_true] at h
 obtain⟨h1,h2⟩:=h
 refine⟨fun t ht x hx=>?_,fun k hk c hc=>?_⟩
 rcases h1 t ht with e|e
 split at e
 next k hk=>
  have e:lk pi t=some k:=by simpa using e
  have h3:=hasP_lk hP e
  have h4:=lk_ptrs (l:=emS ks z) hk
  unfold vl at hx ⊢
  rw[h3] at hx
  show (match lk (JN po ks z).sl t with|some (.n y)=>some y|some (.gb i)=>_|_=>none)=some x
  unfold JN
  simp only
  rw[h4]
  exact hx
 cases e
 have:lk s.sl t=none:=by simpa using e
 unfold vl at hx
 rw[this] at hx
 cases hx
 have:=h2 k hk
 rw[hc] at this
 cases this
theorem Ext.less (h:Ext (cs.add lcks).s (cs.add lcks).o s s'):Ext lcks.s lcks.o s s':=⟨fun t ht=>h.sl t (List.mem_append_right _ ht),fun k hk=>h.ow k (List.mem_append_right _ hk)⟩
end
end Go.Dn
namespace Go.Dn
open Go Go.Sk
variable {D:Dt}
def Ge:Option Nat->Exit
 | none=>.ret
 | some i=>.exit i
section
variable {P:Program} [DecidableEq D.σ] {pk:PK D} {TB:aH} {B0:Tb P D TB} {L:Lay D} {E:Env TB} {n:Sh} {G:List (bK D pk)} {F:Nat} {fr:Fr}
def zp {TB:aH} (E:Env TB) (n:Sh) (pk:PK D) (p:D.T pk.d) (ow:bG D) (Q:bH):Prop:=pk.ok p->Fin E n (.panic (Et (pk.pv p))) ow.st Q
def Hz (s s':bG D):Prop:=(∀ p,p∈s'.st.slots->p∈s.st.slots)/\∀ p,p∈s'.st.own->p∈s.st.own
theorem HA {s:bG D}:Hz s ⟨[],[],[]⟩:=⟨fun p hp=>(by cases hp),fun p hp=>(by cases hp)⟩
theorem zp.less {p:D.T pk.d} {ow ow':bG D} {Q:bH} (h:zp E n pk p ow' Q) (hs:Hz ow ow'):zp E n pk p ow Q:=fun ho a w hr=>h ho a w (sr hs.1 hs.2 hr)
theorem Im {X:Type} {s s':bG D} {lcks cs:Kept} {W:Option Nat->bG D->Option X} {Wp:D.T pk.d->bG D->Option X} {r:X} {t:Option Nat} {Q:bH} (he:Ext (cs.add lcks).s (cs.add lcks).o s s') {e:Xt×List (Pl D)} {y:ET pk e} (hk:okE lcks cs s e.2=true) (h:injE L (cs.add lcks) s' cs.r t e=some y) (h2:HF s cs W Wp e y=some r)
 (hW:∀ t s',Ext lcks.s lcks.o s s'->W t s'=some r->Fin E n (Ge t) s'.st Q):Fin E n (Ge t) s'.st Q:=by
 obtain⟨e,ks⟩:=e
 cases e with
 | x t'=>
  simp only[injE] at h
  split at h
  next et=>
   subst et
   have hx:=zY (z:=y) hk
   intro a w hr
   exact hW _ _ hx.less h2 a w (vC h he hr)
  cases h
 | iE=>cases ks<;>cases h
theorem Gw {X:Type} {s s':bG D} {lcks cs:Kept} {W:Option Nat->bG D->Option X} {Wp:D.T pk.d->bG D->Option X} {r:X} {t:Option Nat} {Q:bH} (he:Ext (cs.add lcks).s (cs.add lcks).o s s') :
 ∀ {es:Exs D} {y:Alt pk es},IT lcks cs s es=true->inj L (cs.add lcks) s' cs.r t es=some y->elim s cs W Wp es y=some r ->
  (∀ t s',Ext lcks.s lcks.o s s'->W t s'=some r->Fin E n (Ge t) s'.st Q)->Fin E n (Ge t) s'.st Q
 | [],y,_,h,_,_=>by cases h
 | [e],y,hk,h,h2,hW=>Im he (by simpa[IT] using hk) h h2 hW
 | e::f::l,y,hk,h,h2,hW=>by
  unfold inj at h
  simp only[IT,List.all_cons,Bool.and_eq_true] at hk
  split at h
  obtain⟨z,hz,h1⟩:=aK h
  cases h1
  exact Im he hk.1 hz h2 hW
  obtain⟨z,hz,h1⟩:=aK h
  cases h1
  exact Gw he (es:=f::l) (by simp only[IT,List.all_cons,Bool.and_eq_true];exact hk.2) hz h2 hW
theorem Il {X:Type} {s:bG D} {cs:Kept} {W:Option Nat->bG D->Option X} {Wp:D.T pk.d->bG D->Option X} {r:X} {p:D.T pk.d} {ow:bG D} {e:Xt×List (Pl D)} {y:ET pk e} (h:injQ p ow e=some y) (h2:HF s cs W Wp e y=some r):∃ ow',Wp p ow'=some r/\Hz ow ow':=by
 obtain⟨e,ks⟩:=e
 cases e with
 | x t'=>cases h
 | iE=>
  cases ks with
  | nil=>cases h;exact⟨_,h2,HA⟩
  | cons q ks=>
   obtain⟨z,hz,h1⟩:=aK h
   cases h1
   refine⟨_,h2,fun p hp=>(by cases hp),fun p hp=>?_⟩
   obtain⟨⟨k,c⟩,hq,rfl⟩:=List.mem_map.1 hp
   exact List.mem_map.2 ⟨(k,c),bj ((Ah hz).2 k c hq),rfl⟩
theorem Dz {X:Type} {s:bG D} {cs:Kept} {W:Option Nat->bG D->Option X} {Wp:D.T pk.d->bG D->Option X} {r:X} {p:D.T pk.d} {ow:bG D}:∀ {es:Exs D} {y:Alt pk es},JX p ow es=some y->elim s cs W Wp es y=some r->∃ ow',Wp p ow'=some r/\Hz ow ow'
 | [],y,h,_=>by cases h
 | [e],y,h,h2=>Il h h2
 | e::f::l,y,h,h2=>by
  unfold JX at h
  split at h
  obtain⟨z,hz,h1⟩:=aK h
  cases h1
  exact Il hz h2
  obtain⟨z,hz,h1⟩:=aK h
  cases h1
  exact Dz (es:=f::l) hz h2
theorem yx {K:Act->World->Prop} {s:St} {t:Option Nat} {Q:bH} (h:Fin E n (Ge t) s Q):Fin E n (Ge t) s (Exit.then K Q):=by
 cases t<;>exact fun a w hr=>h a w hr
theorem ll {K:Act->World->Prop} {p:D.T pk.d} {ow:bG D} {Q:bH} (h:zp E n pk p ow Q):zp E n pk p ow (Exit.then K Q):=fun ho=>Fin.bC (h ho)
def Sound (B0:Tb P D TB) (L:Lay D) (G:List (bK D pk)) (E:Env TB) (n:Sh) (fr:Fr) (F:Nat) (c:Code):Prop:=∀ {X:Type} (an:An D) (hh:iZ B0 L G fr c an) (lcks:Kept) (s:bG D) (K:bG D->Option X) (W:Option Nat->bG D->Option X) (Wp:D.T pk.d->bG D->Option X) (r:X) (Q:bH),
 ic B0 L G fr F c an lcks s K W Wp=some r->(∀ s',Ext lcks.s lcks.o s s'->K s'=some r->Fin E n .normal s'.st Q)->(∀ t s',Ext lcks.s lcks.o s s'->W t s'=some r->Fin E n (Ge t) s'.st Q)->(∀ p ow,Wp p ow=some r->zp E n pk p ow Q)->ah P E n c s.st Q
theorem jP:∀ c:Code,iZ B0 L G fr c .no
 | .seq _ _=>trivial
 | .cond _ _ _=>trivial
 | .block _ c=>jP c
 | .loop _=>trivial
 | .skip=>trivial
 | .region _ _ true=>trivial
 | .region _ _ false=>trivial
 | .exit _=>trivial
 | .ret=>trivial
 | .scope _=>trivial
 | .label _=>trivial
 | .goto _=>trivial
 | .rangeFunc _ _ _ _=>trivial
 | .refuse _=>trivial
theorem bV:∀ (c:Code) {an:An D},mK an=true->iZ B0 L G fr c an
 | .seq a b,an,h=>by
  cases an with
  | two x y=>simp only[mK,Bool.and_eq_true] at h;exact⟨bV a h.1,bV b h.2⟩
  | join _ _ x y=>simp only[mK,Bool.and_eq_true] at h;exact⟨bV a h.1,bV b h.2⟩
  | qY _ _ _ x y=>simp only[mK,Bool.and_eq_true] at h;exact⟨bV a h.1,bV b h.2⟩
  | _=>trivial
 | .cond _ a b,an,h=>by
  cases an with
  | two x y=>simp only[mK,Bool.and_eq_true] at h;exact⟨bV a h.1,bV b h.2⟩
  | _=>trivial
 | .block _ c,an,h=>by cases an<;>exact bV c h
 | .loop c,an,h=>by
  cases an with
  | loop _ _ _ x=>exact bV c h
  | _=>trivial
 | .region _ os f,an,h=>by
  cases an with
  | lin pi po ki ks d f=>cases h
  | _=>cases f<;>trivial
 | .skip,an,h=>by cases an<;>trivial
 | .exit _,an,h=>by cases an<;>trivial
 | .ret,an,h=>by cases an<;>trivial
 | .scope _,an,h=>by cases an<;>trivial
 | .label _,an,h=>by cases an<;>trivial
 | .goto _,an,h=>by cases an<;>trivial
 | .rangeFunc _ _ _ _,an,h=>by cases an<;>trivial
 | .refuse _,an,h=>by cases an<;>trivial
theorem Jd {a b:Code} (ha:Sound B0 L G E n fr F a) (hb:Sound B0 L G E n fr F b):Sound B0 L G E n fr F (.seq a b):=by
 intro X an hh lcks s K W Wp r Q h hK hW hP
 have plain:∀ x y,iZ B0 L G fr a x->iZ B0 L G fr b y->ic B0 L G fr F a x lcks s (fun s=>ic B0 L G fr F b y lcks s K W Wp) W Wp=some r->ah P E n (.seq a b) s.st Q:=fun x y hx hy h=>
  ah.seq (ha x hx lcks s _ W Wp r _ h (fun s' he h'=>Fin.then (hb y hy lcks s' K W Wp r Q h' (fun b0 b1=>hK b0 (he.trans b1)) (fun t b0 b1=>hW t b0 (he.trans b1)) hP)) (fun t s' he h'=>yx (hW t s' he h')) (fun p ow hp=>ll (hP p ow hp)))
 cases an with
 | no=>exact plain _ _ (jP _) (jP _) h
 | two x y=>exact plain _ _ hh.1 hh.2 h
 | loop cs ks es x=>exact plain _ _ (jP _) (jP _) h
 | iF l tl fz=>exact plain _ _ (jP _) (jP _) h
 | lin pi po ki ks d f=>exact plain _ _ (jP _) (jP _) h
 | join cs ks x y=>
  simp only[ic] at h
  split at h
  next hk=>
   obtain⟨z,hz,h1⟩:=aK h
   have hx:=zY (z:=z) hk
   refine ah.seq (ha x hh.1 (cs.add lcks) s _ _ _ z _ hz (fun s' he h'=>?_) (fun t s' he h'=>by cases h') (fun p ow hp=>by cases hp))
   intro a w hr
   exact hb y hh.2 lcks _ K W Wp r Q h1 (fun b0 b1=>hK b0 (hx.less.trans b1)) (fun t b0 b1=>hW t b0 (hx.less.trans b1)) hP a w (vC h' he hr)
  cases h
 | qY cs ks es x y=>
  simp only[ic] at h
  split at h
  next hk=>
   obtain⟨hk,hes⟩:=hk
   obtain⟨v,hv,h1⟩:=aK h
   refine ah.seq (ha x hh.1 (cs.add lcks) s _ _ _ v _ hv (fun s' he h'=>?_) (fun t s' he h'=>?_) (fun p ow h'=>?_))
   obtain⟨z,hz,e⟩:=aK h'
   cases e
   have hx:=zY (z:=z) hk
   intro a w hr
   exact hb y hh.2 lcks _ K W Wp r Q h1 (fun b0 b1=>hK b0 (hx.less.trans b1)) (fun t b0 b1=>hW t b0 (hx.less.trans b1)) hP a w (vC hz he hr)
   obtain⟨z,hz,e⟩:=aK h'
   cases e
   exact yx (Gw he hes hz h1 hW)
   obtain⟨z,hz,e⟩:=aK h'
   cases e
   obtain⟨ow',h2,h3⟩:=Dz hz h1
   exact ll ((hP p ow' h2).less h3)
  cases h
theorem loopR {σ τ:Type} {c:Code} {Q:bH} {m:Nat} {body:σ->Option (σ⊕τ)} {s0:σ} {v:τ} (h:iter m body s0=some v) (S:σ->St)
 (round:∀ z o,body z=some o->(∀ y,o=.inr y->y=v)->ah P E n c (S z) (Exit.then (fun a w=>∃ z',o=.inl z'/\R E n (S z') a w) Q)):ah P E n (.loop c) (S s0) Q:=by
 refine ah.loop (ι:=σ×Nat) (fun j=>S j.1) (fun j=>iter j.2 body j.1=some v) (fun j=>j.2) (s0,m) h rfl ?_
 rintro⟨z,m⟩ hj
 dsimp only at hj ⊢
 cases m with
 | zero=>simp[yr] at hj
 | succ m=>
  rw[gi] at hj
  obtain⟨o,ho,hj⟩:=aK hj
  intro a w hr
  refine Code.wp_mono (fun e a' w' he=>?_) (round z o ho (fun y hy=>by subst hy;exact zaa hj) a w hr)
  cases e with
  | normal=>obtain⟨z',hz,hr'⟩:=he;subst hz;exact⟨(z',m),hj,Nat.lt_succ_self m,hr'⟩
  | exit id=>exact he
  | goto l=>exact he
  | ret=>exact he
  | panic ch=>exact he
  | outgrown=>exact he
theorem GR {c:Code} (hc:Sound B0 L G E n fr F c):Sound B0 L G E n fr F (.loop c):=by
 intro X an hh lcks s K W Wp r Q h hK hW hP
 cases an with
 | loop cs ks es x=>
  simp only[ic] at h
  split at h
  next hk=>
   obtain⟨hk,hes⟩:=hk
   obtain⟨z0,hz0,h1⟩:=aK h
   obtain⟨v,hv,h2⟩:=aK h1
   have b0:∀ a w,R E n s.st a w->R E n (F7 s cs ks z0).st a w:=fun a w hr=>vC hz0 .refl hr
   refine fun a w hr=>loopR (P:=P) (E:=E) (n:=n) (c:=c) (Q:=Q) hv (fun z=>(F7 s cs ks z).st) (fun z o ho hy=>?_) a w (b0 a w hr)
   have hx:=zY (z:=z) hk
   refine hc x hh (cs.add lcks) _ _ _ _ o _ ho (fun s' he h'=>?_) (fun t s' he h'=>?_) (fun p ow h'=>?_)
   obtain⟨z',hz',e⟩:=aK h'
   cases e
   have he2:=hx.trans he
   intro a w hr
   exact⟨z',rfl,vC hz' he2 hr⟩
   obtain⟨y,b1,e⟩:=aK h'
   cases e
   cases hy y rfl
   exact yx (Gw (hx.trans he) hes b1 h2 hW)
   obtain⟨y,b1,e⟩:=aK h'
   cases e
   cases hy y rfl
   obtain⟨ow',h4,h5⟩:=Dz b1 h2
   exact ll ((hP p ow' h4).less h5)
  cases h
 | _=>cases h
theorem GS {t:Operand} {a b:Code} (ha:Sound B0 L G E n fr F a) (hb:Sound B0 L G E n fr F b):Sound B0 L G E n fr F (.cond t a b):=by
 intro X an hh lcks s K W Wp r Q h hK hW hP
 have key:∀ x y (t:Nat),iZ B0 L G fr a x->iZ B0 L G fr b y->(match lk s.sl t with
  | some (.n (.d .bool c))=>if c=true then ic B0 L G fr F a x lcks s K W Wp else ic B0 L G fr F b y lcks s K W Wp
  | _=>none)=some r->ah P E n (.cond (.tmp t) a b) s.st Q:=fun x y t hx hy h=>by
  split at h
  next c hc=>
   refine ah.ite h (show lk (oK s.Γ s.sl) t=_ by rw[zR,hc];rfl) (fun _ h=>ha x hx lcks s K W Wp r Q h hK hW hP) (fun _ h=>hb y hy lcks s K W Wp r Q h hK hW hP)
  cases h
 have keyC:∀ x y (c:Bool),iZ B0 L G fr a x->iZ B0 L G fr b y->(match c with
  | true=>ic B0 L G fr F a x lcks s K W Wp
  | false=>ic B0 L G fr F b y lcks s K W Wp)=some r->ah P E n (.cond (.const (.bool c)) a b) s.st Q:=fun x y c hx hy h=>by
  cases c with
  | true=>exact ah.condTc (ha x hx lcks s K W Wp r Q h hK hW hP)
  | false=>exact ah.condFc (hb y hy lcks s K W Wp r Q h hK hW hP)
 cases t with
 | tmp t=>
  cases an with
  | two x y=>exact key _ _ _ hh.1 hh.2 h
  | _=>exact key _ _ _ (jP _) (jP _) h
 | const v=>
  cases v with
  | bool c=>
   cases an with
   | two x y=>exact keyC _ _ _ hh.1 hh.2 h
   | _=>exact keyC _ _ _ (jP _) (jP _) h
  | _=>cases an<;>cases h
 | _=>cases an<;>cases h
theorem He {id:Nat} {p:D.T pk.d} {ow:bG D} {Q:bH} (h:zp E n pk p ow Q):zp E n pk p ow (Exit.inBlock id Q):=fun ho=>Fin.b6 (h ho)
theorem Fv {id:Nat} {c:Code} (hc:Sound B0 L G E n fr F c):Sound B0 L G E n fr F (.block id c):=by
 intro X an hh lcks s K W Wp r Q h hK hW hP
 have hh:iZ B0 L G fr c an:=by cases an<;>exact hh
 have h':ic B0 L G fr F c an lcks s K (fun t s=>if t=some id then K s else W t s) Wp=some r:=by cases an<;>exact h
 refine ah.block (hc an hh lcks s K _ _ r _ h' (fun s' he h1=>Fin.bF (hK s' he h1)) (fun t s' he h1=>?_) (fun p ow h1=>He (hP p ow h1)))
 split at h1
 next e=>subst e;exact Fin.cN (hK s' he h1)
 next e=>
  cases t with
  | none=>exact Fin.rb (hW _ s' he h1)
  | some i=>exact Fin.fD (fun e'=>e (by rw[e'])) (hW _ s' he h1)
theorem DY {id:Nat} {os:Array Oper} {f:Bool} (hn:n.n=fr.n) (hf:n.fix=fr.fx) (hG:F6 P TB G):Sound B0 L G E n fr F (.region id os f):=by
 intro X an hh lcks s K W Wp r Q h hK hW hP
 cases f with
 | true=>
  cases an with
  | iF l tl fz=>
   simp only[ic] at h
   obtain⟨s1,e1,h⟩:=aK h
   obtain⟨hx0,hr0⟩:=zV (E:=E) (n:=n) e1
   split at h
   next b1=>
    obtain⟨h1,h2,h3⟩:=Hg (P:=P) (E:=E) (n:=n) (lk0:=lcks) b1
    obtain⟨os⟩:=os
    have b0:=ah.ofA (id:=id) B0.mx (K3 (Q:=Q) (K:=fun s=>K (clean s)) hn hf hG h1 h2 (fun s' he h4=>fun a w hr=>hK _ (hx0.trans (he.trans CN)) h4 a w (IJ hr)) (fun p ow hp=>hP p ow hp) h3 h)
    exact fun a w hr=>b0 a w (hr0 a w hr)
   cases h
  | lin pi po ki ks d f=>
   obtain⟨os⟩:=os
   simp only[ic] at h
   split at h
   next hd=>
    split at h
    next b1=>
     rw[Bool.and_eq_true] at b1
     obtain⟨hpi,b1⟩:=b1
     obtain⟨z0,hz0,h1⟩:=aK h
     obtain⟨v,hv,h1⟩:=aK h1
     obtain⟨deps,hdp,b2⟩:=hh
     have b0:=ah.lin (P:=P) (E:=E) (n:=n) (Q:=Q) (id:=id) (os:=os) (s:=(JN pi ki z0).st) B0.mx hdp fun σ hσ=>by
      have b3:=b2 z0 v hv hd σ hσ
      refine xM hn hf hG (fun p ow e=>?_) b3 fun s' he e=>?_
      cases v with
      | inl z=>cases e
      | inr p0=>
       cases e
       exact (hP _ _ h1).less HA
      split at e
      next hp=>
       obtain⟨z,hz,e1⟩:=aK e
       cases v with
       | inr p0=>cases e1
       | inl zz=>
        cases e1
        exact fun a w hR=>hK _ (shp_ext hpi b1) h1 a w (Ad hp hz hR)
      cases e
     exact fun a w hr=>b0 a w (Ad hpi hz0 hr)
    cases h
   cases h
  | _=>cases h
 | false=>
  have h':ops B0 L G fr lcks os.toList os.toList s (fun s=>K (clean s)) Wp=some r:=by cases an<;>exact h
  obtain⟨l⟩:=os
  refine ah.ae (xM hn hf hG (fun p ow hp=>hP p ow hp) h' fun s' he h1=>?_)
  intro a w hr
  exact hK _ (he.trans CN) h1 a w (IJ hr)
theorem iY (hn:n.n=fr.n) (hf:n.fix=fr.fx) (hG:F6 P TB G):∀ c:Code,Sound B0 L G E n fr F c
 | .skip=>fun an hh lcks s K W Wp r Q h hK hW hP=>ah.skip (hK s .refl (by cases an<;>exact h))
 | .region _ _ _=>DY hn hf hG
 | .seq a b=>Jd (iY hn hf hG a) (iY hn hf hG b)
 | .cond _ a b=>GS (iY hn hf hG a) (iY hn hf hG b)
 | .block _ c=>Fv (iY hn hf hG c)
 | .loop c=>GR (iY hn hf hG c)
 | .exit i=>fun an hh lcks s K W Wp r Q h hK hW hP=>ah.exit (hW (some i) s .refl (by cases an<;>exact h))
 | .ret=>fun an hh lcks s K W Wp r Q h hK hW hP=>ah.ret (hW none s .refl (by cases an<;>exact h))
 | .scope c=>fun an hh lcks s K W Wp r Q h hK hW hP=>by cases an<;>cases h
 | .label _=>fun an hh lcks s K W Wp r Q h hK hW hP=>by cases an<;>cases h
 | .goto _=>fun an hh lcks s K W Wp r Q h hK hW hP=>by cases an<;>cases h
 | .rangeFunc _ _ _ _=>fun an hh lcks s K W Wp r Q h hK hW hP=>by cases an<;>cases h
 | .refuse _=>fun an hh lcks s K W Wp r Q h hK hW hP=>by cases an<;>cases h
theorem lin_all {os:List Oper} {pi po:List (Nat×Nat)} {ki ks:List (Pl D)} {f:PT D ki->Option (PT D ks⊕D.T pk.d)} (deps:List (List Nat)) (hd:os.map bl=deps) (f2:List Nat->PT D ki->Option (PT D ks⊕D.T pk.d)) (h2:∀ σ z,f2 σ z=f z)
 (h:∀ z0,(qA deps os.length os.length 0).map (fun σ=>ops B0 L G fr ⟨[],[],[]⟩ os (σ.filterMap fun i=>os[i]?) (JN pi ki z0) (fun s'=>if qB s' po=true then (Er s' ks).bind fun z=>some (Sum.inl z:PT D ks⊕D.T pk.d) else none) (fun p _=>some (.inr p)))=(qA deps os.length os.length 0).map fun σ=>f2 σ z0):EG B0 L G fr os pi po ki ks pk.d f:=by
 refine⟨deps,hd,fun z0 r hr hpk σ hσ=>?_⟩
 have h3:=List.map_inj_left.1 (h z0) σ hσ
 rw[h3,h2,hr]
 cases r<;>rfl
end
end Go.Dn
namespace Go.Dn
open Go Go.Sk
variable {D:Dt}
def C3:Nat->(l:List (AK D))->List (T0 D)->HT D (Hp l)->List (Nat×TS D)
 | i,.d d::l,kx,h=>(i,.n (.d d h.1))::C3 (i+1) l kx h.2
 | i,.k::l,x::kx,h=>(i,.n x)::C3 (i+1) l kx h
 | _,_,_,_=>[]
theorem DV:∀ {l:List (AK D)} {i:Nat} {kx:List (T0 D)} {h:HT D (Hp l)},gm i (lj l kx h)=oK [] (C3 i l kx h)
 | [],i,kx,h=>rfl
 | .d d::l,i,kx,h=>by simp only[lj,gm,C3,oK,List.map_cons];rw[DV];rfl
 | .k::l,i,x::kx,h=>by simp only[lj,gm,C3,oK,List.map_cons];rw[DV];rfl
 | .k::l,i,[],h=>rfl
def ofH:(l:List (DT D.σ))->HT D l->yK D l
 | [],_=>()
 | [d],h=>h.1
 | d::e::l,h=>(h.1,ofH (e::l) h.2)
theorem HY:∀ {l:List (DT D.σ)} {h:HT D l},toH l (ofH l h)=h
 | [],_=>rfl
 | [d],_=>rfl
 | d::e::l,h=>by
  show (h.1,toH (e::l) (ofH (e::l) h.2))=h
  rw[HY]
def ED (d:DT D.σ):(l:List (DT D.σ))->V D d->yK D l->yK D (d::l)
 | [],v,_=>v
 | _::_,v,t=>(v,t)
theorem Ly {d:DT D.σ}:∀ {rs ls:List (DT D.σ)} {a:V D d} {b:yK D (rs++ls)},CT (d::rs) ls (ED d (rs++ls) a b)=(ED d rs a (CT rs ls b).1,(CT rs ls b).2)
 | [],[],_,_=>rfl
 | [],_::_,_,_=>rfl
 | _::_,_,_,_=>rfl
theorem LZ {d:DT D.σ}:∀ {rs:List (DT D.σ)} {a:V D d} {b:yK D rs},zn (d::rs) (ED d rs a b)=.d d a::zn rs b
 | [],_,_=>rfl
 | _::_,_,_=>rfl
section
variable {P:Program} [DecidableEq D.σ] {TB:aH} (B0:Tb P D TB) (L:Lay D)
def rvG (s:bG D) (d:DT D.σ):ResultVar->Option (V D d)
 | .tmp t=>(vl s t).bind (gT d)
 | .cell t T=>if B0.ty T=some d then (vl s t).bind fun x=>(match x with
  | .p (.ptr k o)=>(lk s.own k).bind fun c=>(match c with
   | .box _ d0 v=>p5 L d d0 v o
   | _=>none)
  | _=>none) else none
def IY (s:bG D):(rs:List (DT D.σ))->List ResultVar->(ls:List (DT D.σ))->Option (HT D ls)->Option (yK D (rs++ls))
 | [],[],ls,m=>m.bind fun h=>some (ofH ls h)
 | d::rs,v::vs,ls,m=>(rvG B0 L s d v).bind fun a=>(IY s rs vs ls m).bind fun b=>some (ED d (rs++ls) a b)
 | _,_,_,_=>none
end
section
variable {P:Program} [DecidableEq D.σ] {pk:PK D} {TB:aH} {B0:Tb P D TB} {L:Lay D} {E:Env TB} {n:Sh} {s:bG D} {G:List (bK D pk)} {F:Nat}
theorem Gj {t:Nat} {x:T0 D} (h:vl s t=some x):s.st.get t=some (.b x.bv):=by
 show lk (oK s.Γ s.sl) t=_
 rw[zR]
 unfold vl at h
 split at h
 next y hy=>cases h;rw[hy];rfl
 next i hi=>
  split at h
  next b hb=>cases h;rw[hi];simp only[Option.map_some,TS.sv,hb];rfl
  cases h
 cases h
theorem rvG_ok {d:DT D.σ} {rv:ResultVar} {v:V D d} (h:rvG B0 L s d rv=some v):p9 P s.st rv (je D d v):=by
 cases rv with
 | tmp t=>
  obtain⟨x,hx,hc⟩:=aK h
  cases dw hc
  exact .tmp (Gj hx)
 | cell t T=>
  simp only[rvG] at h
  split at h
  next ht=>
   have ht:=B0.tok _ _ ht
   obtain⟨x,hx,h1⟩:=aK h
   split at h1
   next k o=>
    obtain⟨c,hc,h2⟩:=aK h1
    split at h2
    next T' d0 u=>
     have hk:lk s.st.own k=some (.box T' (enc D d0 u)):=by show lk (bw s.own) k=_;rw[oP,hc];rfl
     have hp:=px h2
     cases ha:agg d with
     | true=>rw[lN ha];exact .agg (yL ht ha) (Gj hx) hk hp ck
     | false=>
      obtain⟨p,e1,e2⟩:=kY (v:=v) ha
      rw[e1]
      rw[qD ha,e2] at hp
      exact .one (pZ ht ha) (Gj hx) hk (Ab hp)
    cases h2
   cases h1
  cases h
theorem ID:∀ {rs:List (DT D.σ)} {vs:List ResultVar} {ls:List (DT D.σ)} {m:Option (HT D ls)} {r:yK D (rs++ls)},IY B0 L s rs vs ls m=some r->m=some (CT rs ls r).2/\aO (p9 P s.st) vs ((zn rs (CT rs ls r).1).map T0.bv)
 | [],[],ls,m,r,h=>by
  obtain⟨a,ha,h1⟩:=aK h
  cases h1
  refine⟨?_,.nil⟩
  rw[ha]
  exact congrArg some (HY).symm
 | d::rs,v::vs,ls,m,r,h=>by
  simp only[IY] at h
  obtain⟨a,ha,h1⟩:=aK h
  obtain⟨b,hb,h2⟩:=aK h1
  cases h2
  obtain⟨h3,h4⟩:=ID hb
  rw[Ly,LZ]
  exact⟨h3,.cons (rvG_ok ha) h4⟩
 | [],_::_,_,_,r,h=>by simp[IY] at h
 | _::_,[],_,_,r,h=>by simp[IY] at h
theorem res_sv:∀ {rs:List (DT D.σ)} {r:yK D rs},(z8 rs r).sv []=wb ((zn rs r).map T0.bv)
 | [],_=>rfl
 | [_],_=>rfl
 | _::_::[],_=>rfl
 | _::_::_::_,_=>rfl
def done (ks:List Nat) (s:bG D):bG D:=Gc ((s.own.map (·.1)).filter fun k=>!ks.contains k) s
theorem AW {j:Nat} {c:TO D}:∀ {ks:List Nat} {s:bG D},(∀ k∈ks,CY k c=false/\j≠k)->lk s.own j=some c->lk (Gc ks s).own j=some c
 | [],s,_,h=>h
 | k::ks,s,hc,h=>by
  have hr:=fun k' hk'=>hc k' (List.mem_cons_of_mem _ hk')
  obtain⟨h1,h2⟩:=hc k List.mem_cons_self
  unfold Gc
  split
  next hk=>
   refine AW (ks:=ks) hr (ym (by simp[h1]) ?_)
   rw[mL h2]
   exact h
  exact AW (ks:=ks) hr h
theorem mS {fo:Bool} {j:Nat}:∀ {ks:List Nat} {ls:List (LK D)} {l:HT D (xH ls)},j ∉ ks->∀ p∈b9 fo ks ls l,CY j p.2=false
 | k::ks,.b T t::ls,l,hk,p,h=>by
  rcases List.mem_cons.1 h with e|e
  subst e;rfl
  exact mS (ks:=ks) (ls:=ls) (l:=l.2) (fun hj=>hk (List.mem_cons_of_mem _ hj)) p e
 | k::ks,.ms t es::ls,l,hk,p,h=>by
  rcases List.mem_cons.1 h with e|e
  subst e;rfl
  exact mS (ks:=ks) (ls:=ls) (l:=l) (fun hj=>hk (List.mem_cons_of_mem _ hj)) p e
 | k::ks,.mi ik t es::ls,l,hk,p,h=>by
  rcases List.mem_cons.1 h with e|e
  subst e;rfl
  exact mS (ks:=ks) (ls:=ls) (l:=l) (fun hj=>hk (List.mem_cons_of_mem _ hj)) p e
 | k::ks,.r T t::ls,l,hk,p,h=>by
  rcases List.mem_cons.1 h with e|e
  subst e;rfl
  exact mS (ks:=ks) (ls:=ls) (l:=l.2) (fun hj=>hk (List.mem_cons_of_mem _ hj)) p e
 | k::ks,.x T i::ls,l,hk,p,h=>by
  rcases List.mem_cons.1 h with e|e
  subst e
  have:Hm k ks≠j:=fun e=>hk (e▸DC)
  simp[CY,this]
  exact mS (ks:=ks) (ls:=ls) (l:=l.2) (fun hj=>hk (List.mem_cons_of_mem _ hj)) p e
 | k::ks,.cp T::ls,l,hk,p,h=>by
  rcases List.mem_cons.1 h with e|e
  subst e;rfl
  exact mS (ks:=ks) (ls:=ls) (l:=l) (fun hj=>hk (List.mem_cons_of_mem _ hj)) p e
 | [],_,_,_,p,h=>by cases h
 | _::_,[],_,_,p,h=>by cases h
theorem Fin.kW {fn:Func} {post:er} {e:Exit} {rs:List ResultVar} {st:St} (own':List (Nat×OC)) (zs:List BV) (he:e=.ret∨e=.normal) (hrs:fn.results.toList=rs) (hr:aO (p9 P st) rs zs) (b0:∀ p∈own',p∈st.own) (hp:post own' (wb zs)):Fin E n e st (zI P fn E n post):=by
 intro a w ⟨h1,h2,h,ρ,hw,hs⟩
 obtain⟨v,hv,b1⟩:=qh (fn:=fn) (hrs▸hr) hw hs
 have:a.defers=n.dfs/\∃ v,(∀ w₂,bL w w₂->(results fn a.tmps).run P w₂=.ok v w₂)/\jf E n post (.returned v) w:=⟨h1,v,hv,v,own',_,h,ρ,rfl,hp,hw.sub b0,b1⟩
 rcases he with rfl|rfl<;>exact this
def inC {Y:Type}:(pn:Bool)->Y->CR pk pn Y
 | true,v=>.inl v
 | false,v=>v
def wpn {Y:Type}:(pn:Bool)->D.T pk.d->Option (CR pk pn Y)
 | true,p=>some (.inr p)
 | false,_=>none
theorem Ip {Y:Type}:∀ {pn:Bool} {v:Y},F' (inC (pk:=pk) pn v)=.inl v
 | true,_=>rfl
 | false,_=>rfl
theorem HS {Y:Type} {pn:Bool} {p:D.T pk.d} {z:CR pk pn Y} (h:wpn pn p=some z):F' z=.inr p:=by
 cases pn with
 | true=>cases h;rfl
 | false=>cases h
def endL (fo:Bool) (s:bG D) (ks:List Nat):(ro:Bool)->(ls:List (LK D))->Option (HT D (BP ro ls))
 | true,_=>some ()
 | false,ls=>Es fo s.own ks ls
def lkd:Bool->List Nat->List Nat
 | true,ks=>ks
 | false,_=>[]
def impE (own:List (Nat×TO D)):List Nat->List (LK D)->List Nat
 | k::ks,.b _ _::ls=>(match lk own k with
  | some (.x _ _ _ _ _ _)=>k::impE own ks ls
  | _=>impE own ks ls)
 | _::ks,_::ls=>impE own ks ls
 | _,_=>[]
def ret (B0:Tb P D TB) (L:Lay D) (con:bK D pk) (fn:Func) (s:bG D):Option (CR pk con.pn (yK D (con.rs++BP con.ro con.ls))):=(Ga L ⟨[],lkd (con.ro && !con.dp) con.ks,[]⟩ (impE s.own con.ks con.ls) s).bind fun s=>(IY B0 L (done con.ks s) con.rs fn.results.toList (BP con.ro con.ls) (endL con.fo (done con.ks s) con.ks con.ro con.ls)).bind fun v=>some (inC con.pn v)
theorem lk_lown {fo:Bool} {ks:List Nat} {ls:List (LK D)} {l:HT D (xH ls)} (hn:ks.Nodup/\ks.length=ls.length):∀ p∈b9 fo ks ls l,lk (b9 fo ks ls l) p.1=some p.2/\Kg p.2=true:=by
 intro p hp
 have e:(b9 fo ks ls l).map (·.1)=ks:=by
  have:=dA (fo:=fo) (l:=l) hn.2
  rw[mT] at this
  exact this
 exact⟨jn (by rw[e];exact hn.1) hp,rC hp⟩
theorem DQ {con:bK D pk} {fn:Func} {c:Code} (m:Nat) (hgo:dM P con.f) (hf:P.funcs[con.f]?=some fn) (hm:fn.ntmps=m) (hb:fn.body=some c) (hl:con.ar.length<=m) (b0:(gW con.ks&&(con.ks.length==con.ls.length) && !(con.ro&&con.fo))=true) (hG:F6 P TB G) (an:An D) (rw:List Nat) (F:Nat)
 (h:∀ a l,ic B0 L G ⟨m,JK con.ks con.ls,rw⟩ F c an ⟨[],lkd (con.ro && !con.dp) con.ks,[]⟩ ⟨C3 0 con.ar con.kx a,b9 false con.ks con.ls l,[]⟩ (ret B0 L con fn) (fun t s=>match t with|none=>ret B0 L con fn s|some _=>none) (fun p _=>wpn con.pn p)=con.val a l) (hh:iZ B0 L G ⟨m,JK con.ks con.ls,rw⟩ c an):av P TB con:=by
 simp only[Bool.and_eq_true,beq_iff_eq,Bool.not_eq_true'] at b0
 have hrf:con.ro=true->con.fo=false:=fun e=>by
  have:=b0.2
  rw[e] at this
  simpa using this
 have b0:con.ks.Nodup/\con.ks.length=con.ls.length:=⟨mQ b0.1.1,b0.1.2⟩
 refine⟨hgo,b0,fun x l r hr=>?_⟩
 have hlen:∀ {l:List (AK D)} {kx:List (T0 D)} {h:HT D (Hp l)},(lj l kx h).length<=l.length:=by
  intro l
  induction l with
  | nil=>intro kx h;exact Nat.le_refl _
  | cons d l ih=>
   cases d with
   | d t=>intro kx h;simp only[lj,List.length_cons];exact Nat.succ_le_succ ih
   | k=>
    intro kx h
    cases kx with
    | nil=>exact Nat.zero_le _
    | cons x kx=>simp only[lj,List.length_cons];exact Nat.succ_le_succ ih
 have hst:(⟨gm 0 (lj con.ar con.kx x),bw (b9 false con.ks con.ls l)⟩:St)=(⟨C3 0 con.ar con.kx x,b9 false con.ks con.ls l,[]⟩:bG D).st:=by rw[DV];rfl
 have hd:=(h x l).trans hr
 cases ho:F' r with
 | inl y=>
  refine aI.intro m hf hm hb (Nat.le_trans hlen hl) fun E=>?_
  have b1:∀ (e:Exit),e=.ret∨e=.normal->∀ s':bG D,Ext [] (lkd (con.ro && !con.dp) con.ks) ⟨C3 0 con.ar con.kx x,b9 false con.ks con.ls l,[]⟩ s'->ret B0 L con fn s'=some r->Fin E ⟨m,aq (bw (b9 false con.ks con.ls l)),ai (bw (b9 false con.ks con.ls l)),[]⟩ e s'.st (zI P fn E ⟨m,aq (bw (b9 false con.ks con.ls l)),ai (bw (b9 false con.ks con.ls l)),[]⟩ (Is (if con.dp=true then [] else bw (b9 con.fo con.ks con.ls (Gf con.ro con.ls l (CT con.rs (BP con.ro con.ls) y).2))) ((z8 con.rs (CT con.rs (BP con.ro con.ls) y).1).sv []))):=by
   intro e he s9 hx9 hf9 a w hR9
   obtain⟨s',hi,c2⟩:=aK hf9
   obtain⟨e9,r9⟩:=wy (E:=E) (n:=⟨m,aq (bw (b9 false con.ks con.ls l)),ai (bw (b9 false con.ks con.ls l)),[]⟩) hi
   have hx:=hx9.trans e9
   have hR:=r9 a w hR9
   obtain⟨v,hv,e1⟩:=aK c2
   cases e1
   rw[Ip] at ho
   cases ho
   obtain⟨h3,h4⟩:=ID hv
   refine Fin.kW (st:=(done con.ks s').st) (if con.dp=true then [] else bw (b9 con.fo con.ks con.ls (Gf con.ro con.ls l (CT con.rs (BP con.ro con.ls) y).2))) _ he rfl h4 (fun p hp=>?_) ⟨rfl,res_sv.symm⟩ a w (GA hR)
   split at hp
   cases hp
   next b3=>
   have b3:con.dp=false:=by simpa using b3
   obtain⟨q,hq,e2⟩:=List.mem_map.1 hp
   obtain⟨k,c⟩:=q
   subst e2
   refine List.mem_map.2 ⟨(k,c),bj ?_,rfl⟩
   cases b2:con.ro with
   | false=>
    have h5:∀ {ro:Bool} {z:HT D (BP ro con.ls)},ro=false->endL con.fo (done con.ks s') con.ks ro con.ls=some z->∀ p∈b9 con.fo con.ks con.ls (Gf ro con.ls l z),lk (done con.ks s').own p.1=some p.2:=by
     intro ro z e h;subst e;exact rF h
    exact h5 b2 h3 _ hq
   | true=>
    have h5:∀ {ro:Bool} {z:HT D (BP ro con.ls)},ro=true->Gf ro con.ls l z=l:=by
     intro ro z e;subst e;rfl
    rw[h5 b2,hrf b2] at hq
    obtain⟨h6,h7⟩:=lk_lown b0 _ hq
    have hk:k∈lkd (con.ro && !con.dp) con.ks:=by
     rw[b2,b3]
     have:=dA (fo:=false) (l:=l) b0.2
     rw[mT] at this
     show k∈con.ks
     rw[← this]
     exact List.mem_map.2 ⟨_,hq,rfl⟩
    refine AW (fun j hj=>?_) (hx.ow k hk _ h6)
    have hj2:j ∉ con.ks:=by simpa using (List.mem_filter.1 hj).2
    refine⟨mS hj2 _ hq,fun e=>hj2 ?_⟩
    subst e
    rw[b2,b3] at hk
    exact hk
  rw[hst]
  refine iY (n:=⟨m,aq (bw (b9 false con.ks con.ls l)),ai (bw (b9 false con.ks con.ls l)),[]⟩) (fr:=⟨m,JK con.ks con.ls,rw⟩) rfl jV hG c an hh ⟨[],lkd (con.ro && !con.dp) con.ks,[]⟩ _ _ _ _ r _ hd (fun s' hx h'=>b1 _ (.inr rfl) s' hx h') (fun t s' hx h'=>?_) (fun p ow hp=>?_)
  cases t with
  | none=>exact b1 _ (.inl rfl) s' hx h'
  | some i=>cases h'
  rw[HS hp] at ho;cases ho
 | inr p=>
  show ij P TB con.f _ _ _ _
  refine eZ.intro m hf hm hb (Nat.le_trans hlen hl) fun E=>?_
  rw[hst]
  have hno:∀ {C:Prop} {s':bG D},ret B0 L con fn s'=some r->C:=by
   intro C s' c2
   obtain⟨s9,_,hf2⟩:=aK c2
   obtain⟨v,hv,e1⟩:=aK hf2
   cases e1
   rw[Ip] at ho
   cases ho
  refine iY (n:=⟨m,aq (bw (b9 false con.ks con.ls l)),ai (bw (b9 false con.ks con.ls l)),[]⟩) (fr:=⟨m,JK con.ks con.ls,rw⟩) rfl jV hG c an hh ⟨[],lkd (con.ro && !con.dp) con.ks,[]⟩ _ _ _ _ r _ hd (fun s' hx h'=>hno h') (fun t s' hx h'=>?_) (fun p' ow hp=>?_)
  cases t with
  | none=>exact hno h'
  | some i=>cases h'
  rw[HS hp] at ho
  cases ho
  exact fun hok=>Fin.qF ⟨rfl,hok⟩
theorem ak {con:bK D pk} {fn:Func} {c:Code} (m:Nat) (hgo:dM P con.f) (hf:P.funcs[con.f]?=some fn) (hm:fn.ntmps=m) (hb:fn.body=some c) (hl:con.ar.length<=m) (hnd:(gW con.ks&&(con.ks.length==con.ls.length) && !(con.ro&&con.fo))=true) (hG:F6 P TB G) (an:An D) (rw:List Nat) (F:Nat)
 (h:∀ a l,ic B0 L G ⟨m,JK con.ks con.ls,rw⟩ F c an ⟨[],lkd (con.ro && !con.dp) con.ks,[]⟩ ⟨C3 0 con.ar con.kx a,b9 false con.ks con.ls l,[]⟩ (ret B0 L con fn) (fun t s=>match t with|none=>ret B0 L con fn s|some _=>none) (fun p _=>wpn con.pn p)=con.val a l) (hh:mK an=true:=by rfl):av P TB con:=DQ m hgo hf hm hb hl hnd hG an rw F h (bV c hh)
end
end Go.Dn
namespace Go.Dn
open Go Go.Sk
theorem aa {h:PH} {k:IntKind}:(CP.int k 0).rel h (.int k 0):=⟨rfl,by cases k<;>exact⟨by decide,by decide⟩⟩
theorem bd {h:PH}:(CP.bool false).rel h (.bool false):=rfl
theorem ef {h:PH}:(CP.str []).rel h (.string ⟨⟨[]⟩⟩):=⟨rfl,by decide⟩
theorem qU {h:PH} {n:Nat} (hn:0<n):(CP.sl n []).rel h (.slice none 0 0):=ZC.cH hn h _ ⟨rfl,rfl⟩
def tyL {D:Dt}:List (TypeId×DT D.σ)->TypeId->Option (DT D.σ)
 | [],_=>none
 | p::l,t=>if t=p.1 then some p.2 else tyL l t
def tyA (P:Program) {D:Dt}:List (TypeId×DT D.σ)->Prop
 | []=>True
 | p::l=>zo P D p.1 p.2/\tyA P l
theorem Ku {P:Program} {D:Dt}:∀ {l:List (TypeId×DT D.σ)},tyA P l->∀ t d,tyL l t=some d->zo P D t d
 | [],_,t,d,h=>by simp[tyL] at h
 | p::l,ha,t,d,h=>by
  unfold tyL at h
  split at h
  next e=>subst e;cases h;exact ha.1
  exact Ku ha.2 t d h
def zA (P:Program) {D:Dt}:List (TypeId×DT D.σ)->Prop
 | []=>True
 | p::l=>TyZ P p.1 (enc D p.2 (zv D p.2))/\zA P l
theorem zL_ok {P:Program} {D:Dt}:∀ {l:List (TypeId×DT D.σ)},zA P l->∀ t d,tyL l t=some d->TyZ P t (enc D d (zv D d))
 | [],_,t,d,h=>by simp[tyL] at h
 | p::l,ha,t,d,h=>by
  unfold tyL at h
  split at h
  next e=>subst e;cases h;exact ha.1
  exact zL_ok ha.2 t d h
structure FE where
 t:TypeId
 j:Nat
 o:Nat
 ft:TypeId
def foL:List FE->TypeId->Nat->Option (Nat×TypeId)
 | [],_,_=>none
 | p::l,t,j=>if t=p.t/\j=p.j then some (p.o,p.ft) else foL l t j
def foA (P:Program):List FE->Prop
 | []=>True
 | p::l=>eX P p.t p.j p.o p.ft/\foA P l
theorem KY {P:Program}:∀ {l:List FE},foA P l->∀ t j o ft,foL l t j=some (o,ft)->eX P t j o ft
 | [],_,t,j,o,ft,h=>by simp[foL] at h
 | p::l,ha,t,j,o,ft,h=>by
  unfold foL at h
  split at h
  next e=>obtain⟨rfl,rfl⟩:=e;cases h;exact ha.1
  exact KY ha.2 t j o ft h
structure EqE (D:Dt) where
 t:TypeId
 i:D.σ
 f:D.T i->D.T i->Bool
section
variable {P:Program} {D:Dt} [DecidableEq D.σ]
def eqL:List (EqE D)->TypeId->(i:D.σ)->Option (D.T i->D.T i->Bool)
 | [],_,_=>none
 | p::l,t,i=>if h:p.i=i then (if t=p.t then some (h▸p.f) else eqL l t i) else eqL l t i
def eqA (P:Program):List (EqE D)->Prop
 | []=>True
 | p::l=>(∀ a b,jh P p.t (D.e p.i a) (D.e p.i b) (p.f a b))/\eqA P l
theorem GD:∀ {l:List (EqE D)},eqA P l->∀ t i f,eqL l t i=some f->∀ a b,jh P t (D.e i a) (D.e i b) (f a b)
 | [],_,t,i,f,h=>by simp[eqL] at h
 | p::l,ha,t,i,f,h=>by
  unfold eqL at h
  split at h
  next e=>
   split at h
   next e2=>subst e e2;cases h;exact ha.1
   exact GD ha.2 t i f h
  exact GD ha.2 t i f h
structure ElE (D:Dt) where
 t:TypeId
 d:DT D.σ
 e:TypeId
 b:Nat
def elL:List (ElE D)->TypeId->DT D.σ->Option (TypeId×Nat)
 | [],_,_=>none
 | p::l,t,d=>if t=p.t/\d=p.d then some (p.e,p.b) else elL l t d
def elA (P:Program):List (ElE D)->Prop
 | []=>True
 | p::l=>(∃ zs,lD P p.t p.e (sz D p.d) p.b zs/\aO ZC zs (enc D p.d (zv D p.d)))/\elA P l
theorem K1:∀ {l:List (ElE D)},elA P l->∀ t d e b,elL l t d=some (e,b)->∃ zs,lD P t e (sz D d) b zs/\aO ZC zs (enc D d (zv D d))
 | [],_,t,d,e,b,h=>by simp[elL] at h
 | p::l,ha,t,d,e,b,h=>by
  unfold elL at h
  split at h
  next e2=>obtain⟨rfl,rfl⟩:=e2;cases h;exact ha.1
  exact K1 ha.2 t d e b h
structure BlE (D:Dt) where
 t:TypeId
 i:D.σ
 pl:List (Nat×Nat)
def blL:List (BlE D)->TypeId->Option (D.σ×List (Nat×Nat))
 | [],_=>none
 | p::l,t=>if t=p.t then some (p.i,p.pl) else blL l t
def blA (P:Program):List (BlE D)->Prop
 | []=>True
 | p::l=>(q7 P p.t p.pl (D.e p.i (D.z p.i))∨∃ size,uC P p.t size (D.e p.i (D.z p.i))/\∀ j q,p.pl[j]?=some q->q=(j*size,size))/\blA P l
set_option linter.unusedSectionVars false in
theorem Ld:∀ {l:List (BlE D)},blA P l->∀ t i pl,blL l t=some (i,pl)->q7 P t pl (D.e i (D.z i))∨∃ size,uC P t size (D.e i (D.z i))/\∀ j q,pl[j]?=some q->q=(j*size,size)
 | [],_,t,i,pl,h=>by simp[blL] at h
 | p::l,ha,t,i,pl,h=>by
  unfold blL at h
  split at h
  next e=>subst e;cases h;exact ha.1
  exact Ld ha.2 t i pl h
structure TaE (D:Dt) where
 t:TypeId
 d:DT D.σ
 n:Nat
def taL:List (TaE D)->TypeId->Option (DT D.σ×Nat)
 | [],_=>none
 | p::l,t=>if t=p.t then some (p.d,p.n) else taL l t
def taA (P:Program):List (TaE D)->Prop
 | []=>True
 | p::l=>(∃ e,lI P p.t e p.n (sz D p.d)/\zo P D e p.d)/\taA P l
set_option linter.unusedSectionVars false in
theorem Kx:∀ {l:List (TaE D)},taA P l->∀ t d n,taL l t=some (d,n)->∃ e,lI P t e n (sz D d)/\zo P D e d
 | [],_,t,d,n,h=>by simp[taL] at h
 | p::l,ha,t,d,n,h=>by
  unfold taL at h
  split at h
  next e=>subst e;cases h;exact ha.1
  exact Kx ha.2 t d n h
theorem C9 {size n:Nat} {pl:List (Nat×Nat)} (h:pl=(List.range n).map fun j=>(j*size,size)):∀ j q,pl[j]?=some q->q=(j*size,size):=by
 intro j q hq
 subst h
 rw[List.getElem?_map] at hq
 obtain⟨k,hk,e⟩:=Option.map_eq_some_iff.1 hq
 rw[List.getElem?_range] at hk
 cases hk;exact e.symm
 apply Classical.byContradiction
 intro hj
 rw[List.getElem?_eq_none (by simpa using hj)] at hk
 cases hk
structure MtE (D:Dt) where
 t:TypeId
 k:Option IntKind
 d:DT D.σ
def mtL:List (MtE D)->TypeId->Option (Option IntKind×DT D.σ)
 | [],_=>none
 | p::l,t=>if t=p.t then some (p.k,p.d) else mtL l t
def mtA (P:Program):List (MtE D)->Prop
 | []=>True
 | p::l=>(∃ kt et,P.underlying kt=some (match p.k with|none=>.string|some k=>.int k)/\td P p.t kt et (je D p.d (zv D p.d)))/\mtA P l
set_option linter.unusedSectionVars false in
theorem KM:∀ {l:List (MtE D)},mtA P l->∀ t kk d,mtL l t=some (kk,d)->∃ kt et,P.underlying kt=some (match kk with|none=>.string|some k=>.int k)/\td P t kt et (je D d (zv D d))
 | [],_,t,kk,d,h=>by simp[mtL] at h
 | p::l,ha,t,kk,d,h=>by
  unfold mtL at h
  split at h
  next e=>subst e;cases h;exact ha.1
  exact KM ha.2 t kk d h
structure GsE (D:Dt) where
 g:Nat
 d:DT D.σ
 l:List (V D d)
def gsL:List (GsE D)->Nat->Option ((d:DT D.σ)×List (V D d))
 | [],_=>none
 | p::l,g=>if g=p.g then some ⟨p.d,p.l⟩ else gsL l g
def gsA (TB:aH):List (GsE D)->Prop
 | []=>True
 | p::l=>(∃ cs,(p.g,cs)∈TB/\(∀ h,aB h (p.l.map (enc D p.d)).flatten cs)/\p.l.length<=maxLen)/\gsA TB l
set_option linter.unusedSectionVars false in
theorem KS {TB:aH}:∀ {l:List (GsE D)},gsA TB l->∀ g d t,gsL l g=some ⟨d,t⟩->∃ cs,(g,cs)∈TB/\(∀ h,aB h (t.map (enc D d)).flatten cs)/\t.length<=maxLen
 | [],_,g,d,t,h=>by simp[gsL] at h
 | p::l,ha,g,d,t,h=>by
  unfold gsL at h
  split at h
  next e=>subst e;cases h;exact ha.1
  exact KS ha.2 g d t h
structure XzE (D:Dt) where
 t:TypeId
 q:XZ D
def xzL:List (XzE D)->TypeId->Option (XZ D)
 | [],_=>none
 | p::l,t=>if t=p.t then some p.q else xzL l t
def xzA (P:Program):List (XzE D)->Prop
 | []=>True
 | p::l=>I1 P D p.t p.q/\xzA P l
set_option linter.unusedSectionVars false in
theorem Kp:∀ {l:List (XzE D)},xzA P l->∀ t q,xzL l t=some q->I1 P D t q
 | [],_,t,q,h=>by simp[xzL] at h
 | p::l,ha,t,q,h=>by
  unfold xzL at h
  split at h
  next e=>subst e;cases h;exact ha.1
  exact Kp ha.2 t q h
theorem cpb:CP.bool false≠CP.bool true:=fun e=>by
 have h:(CP.bool false).rel (fun _ _=>none) (.bool false):=rfl
 rw[e] at h
 cases (show Value.bool false=Value.bool true from h)
def byL:List TypeId->TypeId->Bool
 | [],_=>false
 | p::l,t=>t==p||byL l t
def byA (P:Program):List TypeId->Prop
 | []=>True
 | t::l=>Au P t/\byA P l
theorem Lb {P:Program}:∀ {l:List TypeId},byA P l->∀ t,byL l t=true->Au P t
 | [],_,t,h=>by cases h
 | p::l,ha,t,h=>by
  simp only[byL,Bool.or_eq_true,beq_iff_eq] at h
  rcases h with h|h
  subst h;exact ha.1
  exact Lb ha.2 t h
def upL:List (TypeId×TypeId)->TypeId->Option TypeId
 | [],_=>none
 | p::l,t=>if t=p.1 then some p.2 else upL l t
def upA (P:Program):List (TypeId×TypeId)->Prop
 | []=>True
 | p::l=>(P.underlying p.1=some (.pointer p.2)/\P.cellsOf p.2=1)/\upA P l
theorem Ks {P:Program}:∀ {l:List (TypeId×TypeId)},upA P l->∀ t e,upL l t=some e->P.underlying t=some (.pointer e)/\P.cellsOf e=1
 | [],_,t,e,h=>by simp[upL] at h
 | p::l,ha,t,e,h=>by
  unfold upL at h
  split at h
  next e2=>subst e2;cases h;exact ha.1
  exact Ks ha.2 t e h
structure ClE (D:Dt) where
 f:FuncId
 e:TypeId
 d:DT D.σ
def clL:List (ClE D)->FuncId->Option (TypeId×DT D.σ)
 | [],_=>none
 | p::l,f=>if f=p.f then some (p.e,p.d) else clL l f
def clA (P:Program) (TB:aH):List (ClE D)->Prop
 | []=>True
 | p::l=>(dM P p.f/\∀ (l r:List (V D p.d)),bU ([]:List (V D p.d)) l=some r->aI P TB p.f [] [je D (.sl p.d) l] (Is [(0,.row p.e (sz D p.d) (r.map (enc D p.d)))] (.b (.row 0))))/\clA P TB l
set_option linter.unusedSectionVars false in
theorem K6 {TB:aH}:∀ {l:List (ClE D)},clA P TB l->∀ f q,clL l f=some q->dM P f/\∀ l r,bU ([]:List (V D q.2)) l=some r->aI P TB f [] [je D (.sl q.2) l] (Is [(0,.row q.1 (sz D q.2) (r.map (enc D q.2)))] (.b (.row 0)))
 | [],_,f,q,h=>by simp[clL] at h
 | p::l,ha,f,q,h=>by
  unfold clL at h
  split at h
  next e=>subst e;cases h;exact ha.1
  exact K6 ha.2 f q h
def ccA (P:Program):List TypeId->Prop
 | []=>True
 | t::l=>P.concrete t=true/\ccA P l
theorem K8:∀ {l:List TypeId},ccA P l->∀ t,l.contains t=true->P.concrete t=true
 | [],_,t,h=>by simp at h
 | p::l,ha,t,h=>by
  simp only[List.contains_cons,Bool.or_eq_true,beq_iff_eq] at h
  rcases h with h|h
  subst h;exact ha.1
  exact K8 ha.2 t h
def mkTb {ty:List (TypeId×DT D.σ)} {fo:List FE} {eq:List (EqE D)} {el:List (ElE D)} {zt:List (TypeId×DT D.σ)} {bl:List (BlE D)} {ta:List (TaE D)} {mt:List (MtE D)} {TB:aH} {gs:List (GsE D)} {xz:List (XzE D)} {by_:List TypeId} {up:List (TypeId×TypeId)} {cl:List (ClE D)} {cc:List TypeId} (h1:tyA P ty) (h2:foA P fo) (h3:eqA P eq) (h4:elA P el) (h5:zA P zt) (h6:blA P bl) (h9:taA P ta) (h10:mtA P mt) (h11:gsA TB gs) (h12:xzA P xz) (h13:byA P by_) (h14:upA P up) (h15:clA P TB cl) (h7:P.follows .mixedOrders=true) (h8:ccA P cc):Tb P D TB :=
 ⟨tyL ty,Ku h1,foL fo,KY h2,eqL eq,GD h3,elL el,K1 h4,tyL zt,zL_ok h5,blL bl,Ld h6,taL ta,Kx h9,mtL mt,KM h10,gsL gs,KS h11,xzL xz,Kp h12,byL by_,Lb h13,upL up,Ks h14,clL cl,K6 h15,h7,cc.contains,K8 h8⟩
end
end Go.Dn
namespace Go.Dn
open Go Go.Sk
variable {D:Dt} {pk:PK D}
def T0.sw (a b:Nat):T0 D->T0 D
 | .p x=>.p (x.gS (swp a b))
 | .ri k m i o=>.ri (swp a b k) m i o
 | .ap k off m i y o=>.ap (swp a b k) off m i y o
 | x=>x
def bK.sw (a b:Nat) (c:bK D pk):bK D pk:={ c with kx:=c.kx.map (T0.sw a b),ks:=c.ks.map (swp a b) }
theorem pz {f:Nat->Nat} {d:DT D.σ} {v:V D d}:(je D d v).gS f=je D d v:=by cases d<;>rfl
theorem T0.sw_bv {a b:Nat} {x:T0 D}:(x.sw a b).bv=x.bv.gS (swp a b):=by
 cases x with
 | d t v=>exact pz.symm
 | _=>rfl
theorem wE {a b:Nat}:∀ {l:List (AK D)} {kx:List (T0 D)} {h:HT D (Hp l)},lj l (kx.map (T0.sw a b)) h=(lj l kx h).map (·.gS (swp a b))
 | [],kx,h=>rfl
 | .d t::l,kx,h=>by simp only[lj,List.map_cons,wE (l:=l),pz]
 | .k::l,[],h=>rfl
 | .k::l,x::kx,h=>by simp only[lj,List.map_cons,wE (l:=l),T0.sw_bv]
theorem EN {f:Nat->Nat} {k kr:Nat} {fg:Bool}:∀ {l:List XC} {ps:List CP},(lE k kr fg l ps).map (·.gS f)=lE (f k) (f kr) fg l ps
 | [],_=>rfl
 | _::_,[]=>rfl
 | x::l,p::ps=>by
  simp only[lE,List.map_cons]
  rw[EN]
  congr 1
  cases x with
  | c=>rfl
  | sp=>simp only[jg];split<;>rfl
  | r=>simp only[jg];split<;>rfl
theorem Iq {f:Nat->Nat} {k:Nat} {ks:List Nat}:Hm (f k) (ks.map f)=f (Hm k ks):=by cases ks<;>rfl
theorem qG {fo:Bool} {a b:Nat}:∀ {ks:List Nat} {ls:List (LK D)} {l:HT D (xH ls)},bw (b9 fo (ks.map (swp a b)) ls l)=Sk.bw (swp a b) (bw (b9 fo ks ls l))
 | k::ks,.b T t::ls,l=>by
  have:=qG (fo:=fo) (a:=a) (b:=b) (ks:=ks) (ls:=ls) (l:=l.2)
  show (swp a b k,OC.box T _)::bw (b9 fo (ks.map (swp a b)) ls l.2)=_
  rw[this]
  rfl
 | k::ks,.ms t es::ls,l=>by
  have:=qG (fo:=fo) (a:=a) (b:=b) (ks:=ks) (ls:=ls) (l:=l)
  show (swp a b k,(TO.ms t es:TO D).oc)::bw (b9 fo (ks.map (swp a b)) ls l)=(swp a b k,(TO.ms t es:TO D).oc.gS _)::_
  rw[this]
  congr 2
  show OC.mp _=OC.mp _
  simp[vZ,pz]
 | k::ks,.mi ik t es::ls,l=>by
  have:=qG (fo:=fo) (a:=a) (b:=b) (ks:=ks) (ls:=ls) (l:=l)
  show (swp a b k,(TO.mi ik t es:TO D).oc)::bw (b9 fo (ks.map (swp a b)) ls l)=(swp a b k,(TO.mi ik t es:TO D).oc.gS _)::_
  rw[this]
  congr 2
  show OC.mp _=OC.mp _
  simp[vZ,pz]
 | k::ks,.r T t::ls,l=>by
  have:=qG (fo:=fo) (a:=a) (b:=b) (ks:=ks) (ls:=ls) (l:=l.2)
  show (swp a b k,OC.row T _ _)::bw (b9 fo (ks.map (swp a b)) ls l.2)=_
  rw[this]
  rfl
 | k::ks,.x T i::ls,l=>by
  have:=qG (fo:=fo) (a:=a) (b:=b) (ks:=ks) (ls:=ls) (l:=l.2)
  show (swp a b k,OC.bb T (lE (swp a b k) (Hm (swp a b k) (ks.map (swp a b))) fo _ _))::bw (b9 fo (ks.map (swp a b)) ls l.2)=(swp a b k,OC.bb T ((lE k (Hm k ks) fo _ _).map (·.gS (swp a b))))::_
  rw[this,EN,Iq]
  rfl
 | k::ks,.cp T::ls,l=>by
  have:=qG (fo:=fo) (a:=a) (b:=b) (ks:=ks) (ls:=ls) (l:=l)
  show (swp a b k,OC.bb T [.ptr (Hm (swp a b k) (ks.map (swp a b))) 0])::bw (b9 fo (ks.map (swp a b)) ls l)=(swp a b k,OC.bb T [.ptr (swp a b (Hm k ks)) 0])::_
  rw[this,Iq]
  rfl
 | [],_,_=>rfl
 | _::_,[],_=>rfl
theorem res_sw {f:Nat->Nat}:∀ {l:List (DT D.σ)} {v:yK D l},((z8 l v).sv []).gS f=(z8 l v).sv []:=by
 have h2:∀ (l:List (DT D.σ)) (v:yK D l),((zn l v).map T0.bv).map (·.gS f)=(zn l v).map T0.bv:=by
  intro l
  induction l with
  | nil=>intro v;rfl
  | cons d l ih=>
   intro v
   cases l with
   | nil=>show [(je D d v).gS f]=[je D d v];rw[pz]
   | cons e l=>
    have:=ih v.2
    simp only[zn,List.map_cons]
    rw[this]
    show (je D d v.1).gS f::_=_
    rw[pz]
    rfl
 intro l v
 match l,v with
 | [],v=>rfl
 | [d],v=>show SV.b ((je D d v).gS f)=_;rw[pz];rfl
 | d::e::l,v=>show SV.lC _=SV.lC _;rw[h2]
theorem av.sw {P:Program} {TB:aH} {c:bK D pk} (h:av P TB c) (a b:Nat):av P TB (c.sw a b):=by
 obtain⟨f,ar,kx,ks,ls,rs,ro,pn,dp,fo,val⟩:=c
 obtain⟨h1,⟨h2,h3⟩,h4⟩:=h
 have b0:∀ {i j:Nat},swp a b i=swp a b j->i=j:=fun {i j} e=>by have:=congrArg (swp a b) e;rwa [il,il] at this
 refine⟨h1,⟨List.pairwise_map.2 (h2.imp fun hne e=>hne (b0 e)),by simpa[bK.sw] using h3⟩,fun (x:HT D (Hp ar)) (l:HT D (xH ls)) (r:CR pk pn (yK D (rs++BP ro ls))) hr=>?_⟩
 have:=h4 x l r hr
 simp only at this
 cases ho:F' r with
 | inl y=>
  rw[ho] at this
  simp only[bK.sw,ho]
  have h5:=aI.sw this a b
  rw[res_sw] at h5
  cases dp with
  | true=>
   simp only[if_true] at h5 ⊢
   rw[qG,wE]
   exact h5
  | false=>
   simp only[Bool.false_eq_true,if_false] at h5 ⊢
   rw[qG,qG,wE]
   exact h5
 | inr p=>
  rw[ho] at this
  simp only[bK.sw,ho]
  have h5:=ij.sw this a b
  rw[qG,wE]
  exact h5
theorem cF {P:Program} {TB:aH} {c:bK D pk} (hgo:dM P c.f) (b0:(gW c.ks&&(c.ks.length==c.ls.length))=true) (h:∀ a l,c.val a l=none):av P TB c:=by
 simp only[Bool.and_eq_true,beq_iff_eq] at b0
 exact⟨hgo,⟨mQ b0.1,b0.2⟩,fun a l r hr=>by rw[h] at hr;cases hr⟩
theorem n6 {P:Program} {TB:aH} {f:FuncId} {ar:List (AK D)} {rs:List (DT D.σ)} {val:HT D (Hp ar)->HT D (xH [])->Option (yK D (rs++[]))} (hgo:dM P f) (h:∀ a r,val a ()=some r->aI P TB f [] (lj ar [] a) (Is [] ((z8 rs (CT rs [] r).1).sv []))):av P TB (⟨f,ar,[],[],[],rs,true,false,false,false,val⟩:bK D pk) :=
 ⟨hgo,⟨List.nodup_nil,rfl⟩,fun a l r hr=>h a r hr⟩
end Go.Dn
namespace Go.Dn
open Go Go.Sk Go.BigFrame
section
variable {P:Program} {TB:aH} {E:Env TB} {n:Sh} {s:St} {dst:Option Nat} {t ty yt:TypeId} {pos:String} {after:Array Edge} {g:Option (Nat×Bool)} {x y:Operand}
theorem G3 (hu:P.underlying t=some (.pointer (P.pointee t))) (hx:s.ev x=some (.b (.one (.raw (.pointer none))))) :
 aR P E n ⟨dst,.binOp .eql t x (.const (.pointer none)) yt,ty,pos,after,g⟩ s (s.put n dst (B true)) :=
 aR.val (o:=⟨dst,.binOp .eql t x (.const (.pointer none)) yt,ty,pos,after,g⟩) fun ac w h ρ hw hs=>by
  have hv:ac.eval x=.pointer none:=(aE hs hx:(CP.raw _).rel h _).1
  refine⟨.bool true,?_,rfl⟩
  have:=run_eql_pointer_nil w t none hu
  simp only[execOp,hv,show ac.eval (.const (.pointer none))=.pointer none from rfl]
  simp[eqGuard,this]
theorem G2 {k o:Nat} (hu:P.underlying t=some (.pointer (P.pointee t))) (hx:s.ev x=some (.b (.ptr k o))) :
 aR P E n ⟨dst,.binOp .eql t x (.const (.pointer none)) yt,ty,pos,after,g⟩ s (s.put n dst (B false)) :=
 aR.val (o:=⟨dst,.binOp .eql t x (.const (.pointer none)) yt,ty,pos,after,g⟩) fun ac w h ρ hw hs=>by
  obtain⟨b,he,hv⟩:=(aE hs hx:BV.rel h ρ (.ptr k o) _)
  refine⟨.bool false,?_,rfl⟩
  have:=run_eql_pointer_nil w t (some ⟨b,o,none⟩) hu
  simp only[execOp,hv,show ac.eval (.const (.pointer none))=.pointer none from rfl]
  simp[eqGuard,this]
theorem FH {k o:Nat} {te:TypeId} {j:TypeInfo} (hu:P.underlying t=some (.pointer te)) (hte:P.info? te=some j) (hx:s.ev x=some (.b (.ptr k o))) (hy:s.ev y=some (.b (.ptr k o))) (hxn:∀ v,x≠.const v) (hyn:∀ v,y≠.const v) :
 aR P E n ⟨dst,.binOp .neq t x y yt,ty,pos,after,g⟩ s (s.put n dst (B false)) :=
 aR.val (o:=⟨dst,.binOp .neq t x y yt,ty,pos,after,g⟩) fun ac w h ρ hw hs=>by
  obtain⟨b,he,hv⟩:=(aE hs hx:BV.rel h ρ (.ptr k o) _)
  obtain⟨b',he',hv'⟩:=(aE hs hy:BV.rel h ρ (.ptr k o) _)
  have:b'=b:=by rw[he] at he';simpa using he'.symm
  subst this
  refine⟨.bool false,?_,rfl⟩
  have:=Lib.run_neq_ptr_same (P:=P) (w:=w) ⟨b',o,none⟩ hu hte
  simp only[execOp,hv,hv']
  have h0:(eqGuard .neq t x y (.pointer (some ⟨b',o,none⟩)) (.pointer (some ⟨b',o,none⟩)):Sem Unit)=pure ():=by
   cases x with
   | const v=>exact absurd rfl (hxn v)
   | _=>cases y with
    | const v=>exact absurd rfl (hyn v)
    | _=>rfl
  simp[h0,this]
theorem Fx {src d t0:TypeId} {k:Nat} {T:TypeId} {cs:List BV} {j:TypeInfo} (h1:P.underlying src=some (.pointer t0)) (h2:P.underlying d=some .unsafePointer) (h3:P.info? t0=some j) (h4:j.size≠0) (hx:s.ev x=some (.b (.ptr k 0))) (hk:lk s.own k=some (.bb T cs)) (hp:cs≠[]) :
 aR P E n ⟨dst,.convert src d x,ty,pos,after,g⟩ s (s.put n dst (.b (.ptr k 0))) :=
 aR.val (o:=⟨dst,.convert src d x,ty,pos,after,g⟩) fun ac w h ρ hw hs=>by
  obtain⟨b,he,hv⟩:=(aE hs hx:BV.rel h ρ (.ptr k 0) _)
  obtain⟨b',cur,hb1,hb2,hb3⟩:=fG hw hk
  have:b'=b:=by rw[hb1] at he;simpa using he
  subst this
  refine⟨.pointer (some ⟨b',0,none⟩),?_,b',he,rfl⟩
  have hl:0<cur.size:=by
   have:=hb3.length
   have h5:0<cs.length:=List.length_pos_iff.2 hp
   simp at this;omega
  have:=Lib.run_to_unsafe (P:=P) (w:=w) (e:=T) (cells:=cur.size) ⟨b',0,none⟩ h1 h2 h3 h4 (by simp[World.shape?,hb2]) hl
  simp only[execOp,hv]
  simp[this]
theorem Jh {src d u:TypeId} {k:Nat} {T:TypeId} {cs:List BV} {j:TypeInfo} (h1:P.underlying src=some .unsafePointer) (h2:P.underlying d=some (.pointer u)) (h3:P.info? u=some j) (hl:liesAt P P.depth T (cs.length/P.cellsOf T) 0 u 1=true) (hx:s.ev x=some (.b (.ptr k 0))) (hk:lk s.own k=some (.bb T cs)) :
 aR P E n ⟨dst,.convert src d x,ty,pos,after,g⟩ s (s.put n dst (.b (.ptr k 0))) :=
 aR.val (o:=⟨dst,.convert src d x,ty,pos,after,g⟩) fun ac w h ρ hw hs=>by
  obtain⟨b,he,hv⟩:=(aE hs hx:BV.rel h ρ (.ptr k 0) _)
  obtain⟨b',cur,hb1,hb2,hb3⟩:=fG hw hk
  have:b'=b:=by rw[hb1] at he;simpa using he
  subst this
  refine⟨.pointer (some ⟨b',0,none⟩),?_,b',he,rfl⟩
  have hlen:cs.length=cur.size:=by have:=hb3.length;simpa using this
  have:=Lib.run_from_unsafe (P:=P) (w:=w) (e:=T) (cells:=cur.size) ⟨b',0,none⟩ h1 h2 h3 (by simp[World.shape?,hb2]) (by rw[← hlen];exact hl)
  simp only[execOp,hv]
  simp[this]
theorem LJ {f:FuncId} {ats:Array TypeId} {z:BV} (hf:ExtF P f Extern.AbiNoEscape.same) (hx:s.ev x=some (.b z)):aR P E n ⟨dst,.call ⟨.value (.func f),#[x],ats⟩,ty,pos,after,g⟩ s (s.put n dst (.b z)) :=
 aR.val (o:=⟨dst,.call ⟨.value (.func f),#[x],ats⟩,ty,pos,after,g⟩) fun ac w h ρ hw hs=>by
  obtain⟨fn,h1,h2,h3,h4,h5⟩:=hf.info
  have hv:z.rel h ρ (ac.eval x):=aE hs hx
  refine⟨ac.eval x,?_,hv⟩
  rw[ext_run]
  rw[run_callFunc_extern h1 h2 h3 h4 h5]
  rfl
end
end Go.Dn
namespace Go.Sk
open Go Go.BigFrame
def Ax (P:Program) (TB:aH) (f:FuncId) (own:List (Nat×OC)) (args:List BV) (own':List (Nat×OC)):Prop :=
 ∀ (w:World) (h:PH) (ρ:RM) (vals:List Value) (tb:cC TB h w),pc h w->C5 own h ρ w->aO (fun (x:BV) v=>x.rel h ρ v) args vals ->
  CallsD P f vals.toArray .returning w fun e u' w'=>u'=.returning/\jf ⟨w,h,ρ,tb⟩ ⟨0,aq own,ai own,[]⟩ (Is own' (.lC [])) e w'
theorem Ax.intro {P:Program} {TB:aH} {f:FuncId} {fn:Func} {rid k k2:Nat} {t1 t2:TypeId} {p1 p2:String} {a1 a2:Array Edge} {c:Code} {own own':List (Nat×OC)} {args:List BV} (m:Nat) (hf:P.funcs[f]?=some fn) (hm:fn.ntmps=m)
 (hb:fn.body=some (.seq (.region rid (mJ k k2 t1 t2 p1 p2 a1 a2) false) c)) (hl:args.length<=k2) (hk:k2<k) (hkm:k<m)
 (b2:∀ E:Env TB,ah P E ⟨m,aq own,ai own,[]⟩ c ⟨(k2,.b (.one (.raw .nilIface)))::gm 0 args,own⟩ (zI P fn E ⟨m,aq own,ai own,[]⟩ (Is own' (.lC [])))):Ax P TB f own args own':=by
 intro w h ρ vals tb hag b0 b1
 have hlen:=b1.length
 refine (callsD_of_wpS (R:=fun e u' w'=>u'=.returning/\jf ⟨w,h,ρ,tb⟩ ⟨m,aq own,ai own,[]⟩ (Is own' (.lC [])) e w') hf hb fun c₀ cs hu=>?_).mono ?_
 apply wpS_seq
 apply wpS_region
 show wpOpsS P _ _ [0,1] _ _ _
 refine E0 hu ?_
 have hsz:(vals.toArray++Array.replicate (fn.ntmps-vals.toArray.size) undef).size=m:=by simp[hm];omega
 generalize ha:({ tmps:=vals.toArray++Array.replicate (fn.ntmps-vals.toArray.size) undef,defers:=[] }:Act)=a0
 have c3:a0.tmps.size=m:=by rw[← ha];exact hsz
 have hg:∀ j:Nat,∀ v,vals[j]?=some v->a0.tmps[j]?=some v:=by
  intro j v hv
  have hj:=(List.getElem?_eq_some_iff.1 hv).1
  rw[← ha]
  show (vals.toArray++_)[j]?=_
  rw[Array.getElem?_append_left (by simpa using hj)]
  simpa using hv
 have e1:(a0.put (some k) .nilIface).tmps[k]?=some .nilIface:=qa (by omega)
 rw[q4 e1]
 show Exit.thenS _ _ _ _ _ _
 refine wpS_of_wp (Code.wp_mono (fun e a' w' he=>?_) (b2 ⟨w,h,ρ,tb⟩ _ w ⟨?_,?_,h,ρ,⟨hag,PH.le_refl h,fun _ _ _=>rfl,Nat.le_refl _,fun _ _ _=>rfl,fun _ _=>rfl,rfl,rfl,?_,?_⟩,?_⟩))
 cases e with
 | normal=>obtain⟨h1,v,h2,h3⟩:=he;exact⟨h1,.returning,(by rw[← hu]),v,h2 _ (bL.refl _),rfl,h3⟩
 | ret=>obtain⟨h1,v,h2,h3⟩:=he;exact⟨h1,.returning,(by rw[← hu]),v,h2 _ (bL.refl _),rfl,h3⟩
 | exit _=>exact he.elim
 | goto _=>exact he.elim
 | panic _=>exact he.elim
 | outgrown=>exact he.elim
 rw[← ha];rfl
 rw[kJ,kJ];exact c3
 rintro b ⟨q,hq,c2⟩ o
 obtain⟨⟨q',c'⟩,hm',rfl⟩:=List.mem_map.1 hq
 exact ((b0 q' c' hm').2.1 b (.inl c2)).2 o
 intro q c' hc'
 obtain⟨h1,h3,h4⟩:=b0 q c' hc'
 exact⟨h1,fun b c2=>⟨.inr ⟨q,List.mem_map.2 ⟨(q,c'),hc',rfl⟩,(h3 b c2).1⟩,(h3 b c2).2⟩,h4⟩
 intro q x hx
 rcases List.mem_cons.1 hx with hx|hx
 cases hx
 exact⟨.nilIface,qa (by rw[kJ];omega),rfl,rfl⟩
 obtain⟨j,z',rfl,hz',rfl⟩:=iw hx
 obtain⟨v,hv,hr⟩:=b1.get j z' hz'
 have hj:=(List.getElem?_eq_some_iff.1 hz').1
 refine⟨v,?_,hr⟩
 rw[zO (by omega),zO (by omega)]
 rw[Nat.zero_add]
 exact hg j v hv
 rintro e u' w' ⟨rfl,v,b3,res,h',ρ',e1,e2,e3,e4⟩
 exact⟨rfl,v,b3,res,h',ρ',e1,e2,WR.sh (n:=⟨m,aq own,ai own,[]⟩) (n':=⟨0,aq own,ai own,[]⟩) rfl rfl e3,e4⟩
section
variable {P:Program} {TB:aH} {E E':Env TB} {n:Sh} {s s':St}
theorem Fin.Fk {fn:Func} {post post':er} {f:FuncId} {cs:List CV} {vals:List Value} {b0 own_c own_c':List (Nat×OC)} {args:List BV} {e:Exit} (b1:WR E n b0 E'.h0 E'.ρ0 E'.w0) (b2:aO (fun (c:CV) v=>c.rel E'.h0 E'.ρ0 v) cs vals)
 (hc:Ax P TB f own_c args own_c') (he:e=.ret∨e=.normal) (hg:dM P f) (hcs:cs.map CV.bv=args) (hk:cs.all (fun c=>match c with|.ptr k _=>(aq b0).contains k|_=>false)=true) (hl:gf s.own own_c)
 (hok:hZ ⟨n.n,aq b0,ai b0,[z7 f vals]⟩ own_c own_c'=true) (hcl:iG s.own own_c own_c'=true)
 (b3:∀ o r,post' o r->hZ n b0 o=true/\iG b0 b0 o=true/\bN o (dL b0 b0)=o/\r.bn o=true/\post o r)
 (h:Fin E' ⟨n.n,aq b0,ai b0,[z7 f vals]⟩ .ret ⟨jQ own_c own_c' s.slots,bN own_c' (dL own_c s.own)⟩ (zI P fn E' ⟨n.n,aq b0,ai b0,[z7 f vals]⟩ post')) :
 Fin E' ⟨n.n,aq b0,ai b0,[z7 f vals]⟩ e s (J3 P fn E n post):=by
 have key:∀ (a:Act) (w:World),R E' ⟨n.n,aq b0,ai b0,[z7 f vals]⟩ s a w->Leaves P fn a.tmps (jf E n post) a.defers .returning w:=by
  intro a w hr
  obtain⟨hdf,hsz,h1,ρ,hw,hs⟩:=hr
  have c4:a.defers=[z7 f vals]:=hdf
  rw[c4]
  refine leaves_cons (by simp) (vO hg vals w) ?_
  have c2:aO (fun (x:BV) v=>x.rel h1 ρ v) args vals:=by
   rw[← hcs]
   exact CV.bvL (CV.GL hw.fixed b2 hk)
  have hla:=lq hl
  refine (hc w h1 ρ vals hw.ax hw.agree (uc hw hla (j5 hl)) c2).mono ?_
  rintro e u' w' ⟨rfl,v,own',res,h',ρ',rfl,⟨rfl,rfl⟩,c5,c3⟩
  have hwc:=hw.call hla c5 hok hcl
  have hR:R E' ⟨n.n,aq b0,ai b0,[z7 f vals]⟩ ⟨jQ own_c own' s.slots,bN own' (dL own_c s.own)⟩ a w':=by
   refine⟨hdf,hsz,h',_,hwc,fun k x hx=>?_⟩
   obtain⟨h1,h2⟩:=nu hx
   obtain⟨u,hu,c3⟩:=hs k x h1
   refine⟨u,hu,SV.mono c5.le (fun j hj=>?_) c3⟩
   by_cases c6:j∈ai own'
   rw[jR c6]
   by_cases hia:j∈aq own_c
   exact c5.fixed j hia
   have:=h2 j c6 hia;simp[this] at hj
   exact kK c6
  obtain⟨_,v2,h5,h6⟩:=h a w' hR
  exact⟨v2,h5 _ (bL.refl _),jf.back b1 b3 h6⟩
 rcases he with rfl|rfl<;>exact fun a w hr=>key a w hr
end
end Go.Sk
