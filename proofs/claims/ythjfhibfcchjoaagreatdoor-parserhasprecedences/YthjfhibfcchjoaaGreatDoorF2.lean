/- part of the proof: the framework -/
import Derived.Test.YthjfhibfcchjoaaGreatDoorF1
import Derived.Laws.BytesArg
import Derived.ChangeKeysEq
import Derived.Lib.ConvBytes
import Derived.Below
import Derived.Lib.LaidTab
import Derived.Scope
import Derived.Shelf.Vars
import Derived.MapKept
import Derived.Shelf.Sort.Plain
import Derived.Shelf.Slices.CompactI
import Derived.RangeFuncNested
import Derived.RangeFuncLeaves
import Derived.LoopNIn
import Derived.Maps.RangeRun
set_option linter.unusedSectionVars false
set_option linter.unusedSimpArgs false
set_option linter.unusedVariables false
open Go.IntKind (i8 i16 i32 i64 u8 u16 u32 u64)
namespace Go.Sk
open Go Go.BigFrame
section
variable {P:Program} {TB:aH} {E:Env TB} {n:Sh} {s s':St} {dst:Option Nat} {t ty yt:TypeId} {pos:String} {after:Array Edge} {g:Option (Nat×Bool)} {x y c:Operand} {ops:Array Oper} {l:List Oper} {Q:bH} {cd:Code}
def BV.cv:BV->Option CV
 | .one p=>some (.one p)
 | .ptr k o=>some (.ptr k o)
 | .row k=>some (.row k)
 | _=>none
def CV.bv:CV->BV
 | .one p=>.one p
 | .ptr k o=>.ptr k o
 | .row k=>.row k
theorem BV.K4 {h:PH} {ρ:RM} {z:BV} {q:CV} (hq:z.cv=some q) {v:Value} (hv:z.rel h ρ v):q.rel h ρ v:=by
 cases z<;>simp[BV.cv] at hq<;>subst hq<;>exact hv
theorem CV.Lc {h:PH} {ρ:RM} {q:CV} {v:Value} (hv:q.rel h ρ v):q.bv.rel h ρ v:=by cases q<;>exact hv
def CR (h:PH) (ρ:RM) (z:BV) (u:Value):Prop:=z.rel h ρ u/\u.oneCell'=true
def BV.mN (own:List (Nat×OC)):BV->Bool
 | .one _=>true
 | .ptr _ _=>true
 | .cJ _ _ _=>true
 | .row j=>match lk own j with
  | some (.row _ _ _)=>true
  | some (.mq _)=>true
  | _=>false
 | _=>false
theorem CV.bvX {h:PH} {ρ:RM}:∀ {l:List CV} {vs:List Value},aO (fun (x:CV) v=>x.rel h ρ v/\v.oneCell'=true) l vs->aO (CR h ρ) (l.map CV.bv) vs
 | _,_,.nil=>.nil
 | _,_,.cons h1 t=>.cons ⟨CV.Lc h1.1,h1.2⟩ (CV.bvX t)
theorem cell_of {own:List (Nat×OC)} {h:PH} {ρ:RM} {w:World} (hw:WR E n own h ρ w) {z:BV} (hz:z.mN own=true) {v:Value} (hv:z.rel h ρ v):CR h ρ z v:=by
 refine⟨hv,?_⟩
 cases z with
 | one p=>exact p.one hv
 | ptr k off=>obtain⟨b,_,rfl⟩:=hv;rfl
 | cJ f fs cs=>obtain⟨a,b,rfl,_⟩:=hv;rfl
 | row j=>
  have hv':v=ρ j:=hv
  simp only[BV.mN] at hz
  cases e:lk own j with
  | none=>rw[e] at hz;simp at hz
  | some c=>
   rw[e] at hz
   cases c with
   | row T size es=>
    obtain⟨_,_,hf⟩:=nq hw e
    rcases hf with ⟨h1,_⟩|⟨b,cap,cur,h1,_⟩<;>rw[hv',h1]<;>rfl
   | mq m=>
    obtain⟨b,ms,clk,h1,_⟩:=(hw.owned j _ (bj e)).1
    rw[hv',h1]
    rfl
   | _=>simp at hz
 | _=>simp[BV.mN] at hz
theorem ph (ρ:RM) (k:Nat):oX ρ k (ρ k)=ρ:=by funext j;simp only[oX];split<;>simp_all
theorem WR.JS {own:List (Nat×OC)} {h:PH} {ρ:RM} {w:World} (hw:WR E n own h ρ w) {k:Nat} {c0 c':OC} (hk:lk own k=some c0) (hc:c'.ok h ρ (ρ k) w) (hpl:c'.plain=true:=by rfl):WR E n (ins k c' own) h ρ w:=by
 have:=hw.step (w':=w) k (ρ k) c' (ba (ρ k)) (fun b e=>⟨c0,bj hk,e⟩) (Nat.le_refl _) rfl rfl (fun _ _ _=>rfl) (by rw[ph];exact hc) (fun b hb=>.inl hb) (.inl rfl) (.inl rfl) hpl
 rwa [ph] at this
theorem fG {own:List (Nat×OC)} {h:PH} {ρ:RM} {w:World} (hw:WR E n own h ρ w) {k:Nat} {T:TypeId} {cs:List BV} (hk:lk own k=some (.bb T cs)) :
 ∃ b cur,ρ k=.pointer (some ⟨b,0,none⟩)/\w.heap[b]?=some (.cells cur T (0,0))/\aO (CR h ρ) cs cur.toList:=(hw.owned k _ (bj hk)).1
theorem wQ {h:PH} {ρ:RM}:∀ {ps:List CP} {vs:List Value},aB h ps vs->aO (CR h ρ) (ps.map BV.one) vs
 | [],_,h=>by cases h;exact .nil
 | p::ps,_,h=>by cases h with|cons h1 h2=>exact .cons ⟨h1,p.one h1⟩ (wQ h2)
theorem EY {h:PH} {ρ:RM}:∀ {ps:List CP} {vs:List Value},aO (CR h ρ) (ps.map BV.one) vs->aB h ps vs
 | [],_,h=>by cases h;exact .nil
 | p::ps,_,h=>by cases h with|cons h1 h2=>exact .cons h1.1 (EY h2)
theorem R.JH {a:Act} {w:World} (hr:R E n s a w) (k:Nat) {T:TypeId} {ps:List CP} (hk:lk s.own k=some (.box T ps)):R E n ⟨s.slots,ins k (.bb T (ps.map .one)) s.own⟩ a w:=by
 obtain⟨hd,hn,h,ρ,hw,hs⟩:=hr
 obtain⟨b,cur,e1,e2,e3⟩:=iL hw hk
 exact⟨hd,hn,h,ρ,hw.JS hk ⟨b,cur,e1,e2,wQ e3⟩,hs⟩
def vu:List BV->Option (List CP)
 | []=>some []
 | .one p::l=>(vu l).map (p::·)
 | _::_=>none
theorem Ia:∀ {cs:List BV} {ps:List CP},vu cs=some ps->cs=ps.map BV.one
 | [],ps,h=>by simp[vu] at h;subst h;rfl
 | z::cs,ps,h=>by
  cases z with
  | one p=>
   simp only[vu,Option.map_eq_some_iff] at h
   obtain⟨q,hq,rfl⟩:=h
   rw[Ia hq];rfl
  | _=>simp[vu] at h
theorem R.Hk {a:Act} {w:World} (hr:R E n s a w) (k:Nat) {T:TypeId} {cs:List BV} {ps:List CP} (hk:lk s.own k=some (.bb T cs)) (ho:vu cs=some ps):R E n ⟨s.slots,ins k (.box T ps) s.own⟩ a w:=by
 obtain⟨hd,hn,h,ρ,hw,hs⟩:=hr
 obtain⟨b,cur,e1,e2,e3⟩:=fG hw hk
 rw[Ia ho] at e3
 exact⟨hd,hn,h,ρ,hw.JS hk ⟨b,cur,e1,e2,EY e3⟩,hs⟩
theorem R.forget {a:Act} {w:World} (hr:R E n s a w) (k off:Nat) {T:TypeId} {cs:List BV} (hk:lk s.own k=some (.bb T cs)):R E n ⟨s.slots,ins k (.bb T (cs.set off (.one .any))) s.own⟩ a w:=by
 obtain⟨hd,hn,h,ρ,hw,hs⟩:=hr
 obtain⟨b,cur,e1,e2,e3⟩:=fG hw hk
 refine⟨hd,hn,h,ρ,hw.JS hk ⟨b,cur,e1,e2,?_⟩,hs⟩
 have:∀ {cs:List BV} {vs:List Value} (i:Nat),aO (CR h ρ) cs vs->aO (CR h ρ) (cs.set i (.one .any)) vs:=by
  intro cs vs i ha
  induction ha generalizing i with
  | nil=>simp;exact .nil
  | cons h1 t ih=>cases i with
   | zero=>simp;exact .cons ⟨h1.2,h1.2⟩ t
   | succ i=>simp;exact .cons h1 (ih i)
 exact this off e3
theorem ah.JH (k:Nat) {T:TypeId} {ps:List CP} (hk:lk s.own k=some (.box T ps)) (h:ah P E n cd ⟨s.slots,ins k (.bb T (ps.map .one)) s.own⟩ Q):ah P E n cd s Q:=fun a w hr=>h a w (hr.JH k hk)
theorem aj.JH (k:Nat) {T:TypeId} {ps:List CP} (hk:lk s.own k=some (.box T ps)) (h:aj P E n ops l ⟨s.slots,ins k (.bb T (ps.map .one)) s.own⟩ Q):aj P E n ops l s Q:=fun a w hr=>h a w (hr.JH k hk)
theorem Fin.JH {e:Exit} (k:Nat) {T:TypeId} {ps:List CP} (hk:lk s.own k=some (.box T ps)) (h:Fin E n e ⟨s.slots,ins k (.bb T (ps.map .one)) s.own⟩ Q):Fin E n e s Q:=fun a w hr=>h a w (hr.JH k hk)
theorem ah.Hk (k:Nat) {T:TypeId} {cs:List BV} {ps:List CP} (hk:lk s.own k=some (.bb T cs)) (ho:vu cs=some ps) (h:ah P E n cd ⟨s.slots,ins k (.box T ps) s.own⟩ Q):ah P E n cd s Q:=fun a w hr=>h a w (hr.Hk k hk ho)
theorem aj.Hk (k:Nat) {T:TypeId} {cs:List BV} {ps:List CP} (hk:lk s.own k=some (.bb T cs)) (ho:vu cs=some ps) (h:aj P E n ops l ⟨s.slots,ins k (.box T ps) s.own⟩ Q):aj P E n ops l s Q:=fun a w hr=>h a w (hr.Hk k hk ho)
theorem Fin.Hk {e:Exit} (k:Nat) {T:TypeId} {cs:List BV} {ps:List CP} (hk:lk s.own k=some (.bb T cs)) (ho:vu cs=some ps) (h:Fin E n e ⟨s.slots,ins k (.box T ps) s.own⟩ Q):Fin E n e s Q:=fun a w hr=>h a w (hr.Hk k hk ho)
theorem ah.forget (k off:Nat) {T:TypeId} {cs:List BV} (hk:lk s.own k=some (.bb T cs)) (h:ah P E n cd ⟨s.slots,ins k (.bb T (cs.set off (.one .any))) s.own⟩ Q):ah P E n cd s Q:=fun a w hr=>h a w (hr.forget k off hk)
theorem aj.forget (k off:Nat) {T:TypeId} {cs:List BV} (hk:lk s.own k=some (.bb T cs)) (h:aj P E n ops l ⟨s.slots,ins k (.bb T (cs.set off (.one .any))) s.own⟩ Q):aj P E n ops l s Q:=fun a w hr=>h a w (hr.forget k off hk)
theorem Fin.forget {e:Exit} (k off:Nat) {T:TypeId} {cs:List BV} (hk:lk s.own k=some (.bb T cs)) (h:Fin E n e ⟨s.slots,ins k (.bb T (cs.set off (.one .any))) s.own⟩ Q):Fin E n e s Q:=fun a w hr=>h a w (hr.forget k off hk)
theorem cD {k off:Nat} {T:TypeId} {cs:List BV} {z:BV} (ht:c8 P t) (hx:s.ev x=some (.b (.ptr k off))) (hk:lk s.own k=some (.bb T cs)) (hp:cs[off]?=some z) :
 aR P E n ⟨dst,.load t x,ty,pos,after,g⟩ s (s.put n dst (.b z)) :=
 aR.val (o:=⟨dst,.load t x,ty,pos,after,g⟩) fun ac w h ρ hw hs=>by
  obtain⟨b,he,hv⟩:=(aE hs hx:BV.rel h ρ (.ptr k off) _)
  obtain⟨b',cur,hb1,hb2,hb3⟩:=fG hw hk
  have:b'=b:=by rw[hb1] at he;simpa using he
  subst this
  obtain⟨u,hu,hpu⟩:=hb3.get off z hp
  have:=j2 ht (w:=w) (b:=b') (o:=off) (v:=u) (by rw[gY hb2];simpa using hu)
  refine⟨u,?_,hpu.1⟩
  simp only[execOp,hv,Instr.loadAt,Instr.sureAddr]
  simp[this]
theorem GY {k off m:Nat} {T:TypeId} {cs zs:List BV} (ht:gN P t m) (hx:s.ev x=some (.b (.ptr k off))) (hk:lk s.own k=some (.bb T cs)) (hp:(cs.drop off).take m=zs) (hq:zs.length=m) :
 aR P E n ⟨dst,.load t x,ty,pos,after,g⟩ s (s.put n dst (.kF zs)) :=
 aR.val (o:=⟨dst,.load t x,ty,pos,after,g⟩) fun ac w h ρ hw hs=>by
  obtain⟨b,he,hv⟩:=(aE hs hx:BV.rel h ρ (.ptr k off) _)
  obtain⟨b',cur,hb1,hb2,hb3⟩:=fG hw hk
  have:b'=b:=by rw[hb1] at he;simpa using he
  subst this
  have hc:aO (CR h ρ) zs ((cur.toList.drop off).take m):=by rw[← hp];exact aO.take (aO.drop hb3 off) m
  refine⟨.agg ((cur.toList.drop off).take m).toArray,?_,_,rfl,hc⟩
  have:=j3 ht (w:=w) (b:=b') (o:=off) (cs:=(cur.toList.drop off).take m) (by rw[← hc.length,hq]) (fun j v hv=>by
   rw[gY hb2]
   rw[List.getElem?_take] at hv
   split at hv
   simpa using hv
   simp at hv)
  simp only[execOp,hv,Instr.loadAt,Instr.sureAddr]
  simp[this]
theorem WR.setX {h:PH} {ρ:RM} {own:List (Nat×OC)} {w:World} (hw:WR E n own h ρ w) {k b:Nat} {T:TypeId} {ps ps':List BV} {cur:Array Value} {cs:List Value} (hk:lk own k=some (.bb T ps)) (hρ:ρ k=.pointer (some ⟨b,0,none⟩))
 (hb:w.heap[b]?=some (.cells cur T (0,0))) (hr:aO (CR h ρ) ps' cs):WR E n (ins k (.bb T ps') own) h ρ (w.setRow b cs.toArray):=by
 have hst:=hw.step (w':=w.setRow b cs.toArray) k (ρ k) (.bb T ps') (some b) (fun b' e=>by cases e;exact⟨_,bj hk,by rw[hρ];rfl⟩) (by simp) rfl rfl
  (fun b' _ hne=>setRow_other _ _ _ _ (fun e=>hne (by rw[e]))) (by rw[ph];exact⟨b,cs.toArray,hρ,setRow_heap _ _ _ _ _ _ hb,hr⟩) (fun b' b0=>by rw[hρ] at b0;simp[ba] at b0;exact .inl (by rw[b0])) (.inl rfl) (.inl rfl)
 rwa [ph] at hst
theorem yA {v:Value} (h:v.oneCell'=true):v.cells=#[v]:=by cases v<;>first|rfl|simp[Value.oneCell'] at h
theorem fA {k off:Nat} {T:TypeId} {cs cs':List BV} {z:BV} (ht:c8 P t) (hx:s.ev x=some (.b (.ptr k off))) (hk:lk s.own k=some (.bb T cs)) (hy:s.ev y=some (.b z)) (hz:z.mN s.own=true) (hlt:off<cs.length) (hps:cs.set off z=cs') :
 aR P E n ⟨none,.store t x y,ty,pos,after,g⟩ s ⟨s.slots,ins k (.bb T cs') s.own⟩ :=
 aR.store (o:=⟨none,.store t x y,ty,pos,after,g⟩) rfl fun ac w h ρ hw hs=>by
  obtain⟨b,he,hv⟩:=(aE hs hx:BV.rel h ρ (.ptr k off) _)
  obtain⟨b',cur,hb1,hb2,hb3⟩:=fG hw hk
  have:b'=b:=by rw[hb1] at he;simpa using he
  subst this
  have hp:CR h ρ z (ac.eval y):=cell_of hw hz (aE hs hy)
  obtain⟨i,hi,hm⟩:=ht.size
  have b0:=yA hp.2
  have hlen:=hb3.length
  have b1:=jX (P:=P) (t:=t) hi hm hb2 (v:=ac.eval y) (o:=off) (by rw[b0];rfl) (by simp at hlen;omega) (by rw[b0];simpa using hp.2)
  refine⟨_,by simp only[execOp,hv,Instr.storeAt,Instr.sureAddr];simp[b1];rfl,?_⟩
  refine hw.setX hk hb1 hb2 ?_
  rw[← hps]
  have b2:Sk.aP cur.toList off (ac.eval y).cells.toList=cur.toList.set off (ac.eval y):=by
   rw[b0]
   have:off<cur.toList.length:=by rw[← hlen];exact hlt
   simp only[Sk.aP,List.length_cons,List.length_nil]
   rw[List.set_eq_take_append_cons_drop,if_pos this];simp
  rw[b2]
  exact aO.set hb3 off hp
theorem CC {T k:Nat} {z:BV} (hx:s.ev x=some (.b z)) (hz:z.mN s.own=true) (hfx:n.fix.contains k=false) (b1:z.bf k=false) (hnu:dy k s.own=true:=by rfl):aR P E n ⟨dst,.box T x,ty,pos,after,g⟩ s ((⟨cu k s.slots,ins k (.bb T [z]) s.own⟩:St).put n dst (.b (.ptr k 0))) :=
 aR.make (hfx:=hfx) (hnu:=hnu) (o:=⟨dst,.box T x,ty,pos,after,g⟩) fun ac w h ρ hw hs=>by
  have hr:CR h ρ z (ac.eval x):=cell_of hw hz (aE hs hx)
  have b0:=yA hr.2
  refine⟨.pointer (some ⟨w.heap.size,0,none⟩),.pointer (some ⟨w.heap.size,0,none⟩),w.alloc (.cells #[ac.eval x] T),none,?_,fun b e=>by simp at e,by simp,rfl,rfl,fun b hb _=>heap_alloc_old w _ hb,OC.ok.JO (c:=.bb T [z]) ⟨w.heap.size,#[ac.eval x],rfl,heap_alloc_new w _,.cons hr .nil⟩ fun j hj=>fB _ _ fun e=>by subst e;simp[OC.bf,b1] at hj,
   fun b e=>by simp[ba] at e;subst e;exact .inr (Nat.le_refl _),w.heap.size,cL _ _ _,rfl⟩
  simp only[execOp]
  simp[Instr.box,newVar,newRow,b0]
def SV.vw (own:List (Nat×OC)):SV->Option (List BV)
 | .b (.agg ps)=>some (ps.map .one)
 | .b (.xa cs)=>some (cs.map CV.bv)
 | .b z=>if z.mN own=true then some [z] else none
 | .kF l=>some l
 | _=>none
theorem SV.Be {own:List (Nat×OC)} {h:PH} {ρ:RM} {w:World} (hw:WR E n own h ρ w) {z:SV} {ps:List BV} {v:Value} (hz:z.vw own=some ps) (hv:z.rel h ρ v):aO (CR h ρ) ps v.cells.toList:=by
 cases z with
 | b z=>
  have one:∀ z:BV,(if z.mN own=true then some [z] else none)=some ps->z.rel h ρ v->aO (CR h ρ) ps v.cells.toList:=fun z hz hv=>by
   split at hz
   next hc=>
    simp at hz;subst hz
    have hcr:=cell_of hw hc hv
    rw[yA hcr.2];exact .cons hcr .nil
   simp at hz
  cases z with
  | agg qs=>simp[SV.vw] at hz;subst hz;obtain⟨cs,rfl,hr⟩:=hv;exact wQ hr
  | xa cs=>simp[SV.vw] at hz;subst hz;obtain⟨vs,rfl,hr⟩:=hv;exact CV.bvX hr
  | one p=>exact one (.one p) hz hv
  | ptr k o=>exact one (.ptr k o) hz hv
  | row k=>exact one (.row k) hz hv
  | gO k o=>exact one (.gO k o) hz hv
  | part k a b c d=>exact one (.part k a b c d) hz hv
  | kG ps=>exact one (.kG ps) hz hv
  | Em k a b c=>exact one (.Em k a b c) hz hv
  | cJ f fs cs=>exact one (.cJ f fs cs) hz hv
 | kF l=>simp[SV.vw] at hz;subst hz;obtain⟨cs,rfl,hr⟩:=hv;exact hr
 | _=>simp[SV.vw] at hz
def tq (s:St):List (Nat×Operand)->Option (List (Nat×List BV))
 | []=>some []
 | (i,x)::l=>(s.ev x).bind fun z=>(z.vw s.own).bind fun ps=>(tq s l).map fun r=>(i,ps)::r
def EA (place:Nat->Option (Nat×Nat)) (zs:List BV):List (Nat×List BV)->Option (List BV)
 | []=>some zs
 | (i,qs)::r=>(place i).bind fun q=>if qs.length=q.2/\q.1+qs.length<=zs.length then EA place (aP zs q.1 qs) r else none
theorem Cr {h:PH} {ρ:RM} {w:World} (hw:WR E n s.own h ρ w) {ac:Act} (hs:bt h ρ s.slots ac.tmps) (place:Nat->Option (Nat×Nat)):∀ (parts:List (Nat×Operand)) (cps:List (Nat×List BV)) (zs qs:List BV) (zc:Array Value),
 tq s parts=some cps->EA place zs cps=some qs->aO (CR h ρ) zs zc.toList->∃ cs,Instr.fill place zc (parts.map fun p=>(p.1,ac.eval p.2))=some cs/\aO (CR h ρ) qs cs.toList
 | [],cps,zs,qs,zc,he,hf,hz=>by
  simp[tq] at he;subst he
  simp[EA] at hf;subst hf
  exact⟨zc,rfl,hz⟩
 | (i,x)::l,cps,zs,qs,zc,he,hf,hz=>by
  unfold tq at he
  simp only[Option.bind_eq_some_iff,Option.map_eq_some_iff] at he
  obtain⟨z,hz1,ps,hps,r,hr,rfl⟩:=he
  unfold EA at hf
  simp only[Option.bind_eq_some_iff] at hf
  obtain⟨⟨off,size⟩,hpl,hf⟩:=hf
  split at hf
  rename_i hc
  obtain⟨hc1,hc2⟩:=hc
  have b0:=SV.Be hw hps (aE hs hz1)
  have hl:=b0.length
  have hzl:=hz.length
  simp only[Array.length_toList] at hl hzl
  dsimp only at hc1 hc2 hf
  have hsp:((ac.eval x).cells.zipIdx.foldl (fun cs (p:Value×Nat)=>cs.setIfInBounds (off+p.2) p.1) zc).toList=aP zc.toList off (ac.eval x).cells.toList:=by
   have:=AX off (ac.eval x).cells.toList 0 zc (by simp;omega)
   rw[Nat.add_zero] at this
   rw[← this,← Array.foldl_toList]
   congr 2
   simp
  obtain⟨cs,h1,h2⟩:=Cr hw hs place l r (aP zs off ps) qs _ hr hf (by rw[hsp];exact aO.aP hz b0 off)
  refine⟨cs,?_,h2⟩
  simp only[List.map_cons,Instr.fill,hpl]
  rw[if_neg (by simp;omega)]
  exact h1
  simp at hf
def mk? {α:Type} (z:α) (len cap:Int):Option (List α):=if 0<=len/\len<=cap/\cap<=1000000000 then some (List.replicate len.toNat z) else none
theorem mk_ok {α:Type} {z:α} {len cap:Int} {r:List α} (h:mk? z len cap=some r):0<=len/\len<=cap/\cap<=1000000000/\List.replicate len.toNat z=r:=by
 unfold mk? at h;split at h
 next hh=>exact⟨hh.1,hh.2.1,hh.2.2,by simpa using h⟩
 simp at h
theorem Dr {zs:List CP} {size n:Nat} (h:zs.length=size):ca size (List.replicate n zs):=fun ps hp=>by rw[(List.mem_replicate.1 hp).2];exact h
theorem LX {h:PH} {zs:List CP} {zc:Array Value} {size:Nat} (hz:aB h zs zc.toList) (hs:zs.length=size) (hp:0<size) (n m:Nat) (hnm:n<=m) :
 aB h (List.replicate n zs).flatten ((madeCells zc (m*size)).toList.take (n*size)):=by
 have hzl:zc.size=size:=by have:=hz.length;simp at this;omega
 have hle:n*size<=m*size:=Nat.mul_le_mul_right _ hnm
 have hfl:=gp (Dr (n:=n) hs)
 have hms:(madeCells zc (m*size)).toList.length=m*size:=by simp[madeCells]
 refine aO.Aj (by rw[hfl,List.length_replicate,List.length_take,hms];omega) fun j a b ha hb=>?_
 have hj:j<n*size:=by
  have:=(List.getElem?_eq_some_iff.1 ha).1
  rw[hfl] at this;simpa using this
 have hd:j/size<n:=by rw[Nat.div_lt_iff_lt_mul hp];exact hj
 have hm:j%size<size:=Nat.mod_lt _ hp
 have hjj:j/size*size+j%size=j:=by rw[Nat.mul_comm];exact Nat.div_add_mod _ _
 have h1:=jo (Dr (n:=n) hs) (j/size) zs (by simp[hd]) (j%size) hm
 rw[hjj,ha] at h1
 rw[List.getElem?_take,if_pos hj] at hb
 have h2:(madeCells zc (m*size)).toList[j]?=zc[j%size]?:=by
  have hlt:j<m*size:=by omega
  simp only[madeCells,Array.getElem?_toList]
  rw[Array.getElem?_map,Array.getElem?_range]
  simp only[hlt,if_true,Option.map_some,hzl]
  have:j%size<zc.size:=by omega
  simp[this]
 rw[h2] at hb
 obtain⟨u,hu,hr⟩:=hz.get (j%size) a h1.symm
 rw[Array.getElem?_toList,hb] at hu
 cases hu
 exact hr
def ZC (a b:CP):Prop:=∀ h v,a.rel h v->b.rel h v
theorem ZC.refl {a:CP}:ZC a a:=fun _ _ x=>x
theorem ZC.cH {size:Nat} (h:0<size):ZC .nil (.sl size []):=fun _ v x=>⟨fun ps hp=>by simp at hp,h,.inl ⟨x.1,rfl⟩⟩
theorem Km {h:PH}:∀ {zs qs:List CP} {vs:List Value},aO ZC zs qs->aB h zs vs->aB h qs vs
 | [],_,_,h1,h2=>by cases h1;cases h2;exact .nil
 | _::_,_,_,h1,h2=>by cases h1 with|cons a b=>cases h2 with|cons c d=>exact .cons (a _ _ c) (Km b d)
theorem D4 {k size bytes:Nat} {e:TypeId} {zs:List CP} {lo co:Operand} {kl kc:IntKind} {α:Type} {z0:α} {enc:α->List CP} {a b:Int} {r:List α} (ht:lD P t e size bytes zs) (hm:mk? z0 a b=some r) (hbb:bytes<=281474) (hz0:aO ZC zs (enc z0))
 (hx:s.ev lo=some (.b (.one (.int kl a)))) (hy:s.ev co=some (.b (.one (.int kc b)))) (hfx:n.fix.contains k=false) (hnu:dy k s.own=true:=by rfl) :
 aR P E n ⟨dst,.makeSlice t lo co,ty,pos,after,g⟩ s ((⟨cu k s.slots,ins k (.row e size (r.map enc)) s.own⟩:St).put n dst (.b (.row k))) :=
 aR.make (hfx:=hfx) (hnu:=hnu) (o:=⟨dst,.makeSlice t lo co,ty,pos,after,g⟩) fun ac w h ρ hw hs=>by
  obtain⟨i,z,h1,h2,h3,h4,h5,h6,h7⟩:=ht.info
  obtain⟨q0,q1,q2,rfl⟩:=mk_ok hm
  have b2:=oR h h7
  have b2:aB h (enc z0) z.cells.toList:=Km hz0 b2
  have hzl:(enc z0).length=size:=by rw[b2.length];simpa using h5
  have b0:(i.bytes:Int)*b<=281474976710656:=by
   rw[h3]
   have e1:(bytes:Int)<=281474:=by omega
   calc (bytes:Int)*b<=281474*b:=Int.mul_le_mul_of_nonneg_right e1 (by omega)
    _<=_:=by omega
  have b1:=run_make (P:=P) w t e i z ht.und h1 h4 kl kc a b q0 q1 b0 (by omega)
  rw[h2] at b1
  refine⟨.slice (some ⟨w.heap.size,0,none⟩) a.toNat b.toNat,.slice (some ⟨w.heap.size,0,none⟩) a.toNat b.toNat,w.alloc (.cells (madeCells z.cells (b.toNat*size)) e),none,?_,fun b e=>by simp at e,by simp,rfl,rfl,fun b hb _=>heap_alloc_old w _ hb,?_,
   fun b e=>by simp[ba] at e;subst e;exact .inr (Nat.le_refl _),(cL _ _ _).symm⟩
  simp only[execOp,(bI hs hx).1,(bI hs hy).1]
  simp[b1]
  have hle:a.toNat<=b.toNat:=by omega
  have b3:(List.replicate a.toNat z0).map enc=List.replicate a.toNat (enc z0):=by rw[List.map_replicate]
  rw[b3]
  refine⟨Dr hzl,h6,(madeCells z.cells (b.toNat*size)).toList.take (a.toNat*size),⟨?_,.inr ⟨w.heap.size,b.toNat,_,?_,Nat.zero_le _,heap_alloc_new w _,?_,?_,?_,?_⟩⟩,LX b2 hzl h6 _ _ hle⟩
  have:a.toNat*size<=b.toNat*size:=Nat.mul_le_mul_right _ hle
  have hms:(madeCells z.cells (b.toNat*size)).toList.length=b.toNat*size:=by simp[madeCells]
  rw[List.length_take,hms,List.length_replicate];omega
  simp
  simpa using hle
  rw[dk];omega
  simp[madeCells]
  simp
end
end Go.Sk
namespace Go.Sk
open Go Go.BigFrame
def swp (a b k:Nat):Nat:=if k==a then b else if k==b then a else k
theorem il (a b k:Nat):swp a b (swp a b k)=k:=by
 unfold swp
 by_cases h1:k=a
 subst h1
 by_cases h2:b=k<;>simp[h2]
 by_cases h2:k=b
 subst h2
 simp[h1]
 simp[h1,h2]
def CV.gS (f:Nat->Nat):CV->CV
 | .row j=>.row (f j)
 | .ptr j o=>.ptr (f j) o
 | z=>z
def BV.gS (f:Nat->Nat):BV->BV
 | .cJ g fs cs=>.cJ g (fs.map (·.gS f)) (cs.map (·.gS f))
 | .xa cs=>.xa (cs.map (·.gS f))
 | .row j=>.row (f j)
 | .ptr j o=>.ptr (f j) o
 | .gO j o=>.gO (f j) o
 | .part j a b c d=>.part (f j) a b c d
 | .Em j a b c=>.Em (f j) a b c
 | z=>z
def SV.gS (f:Nat->Nat):SV->SV
 | .b z=>.b (z.gS f)
 | .lC l=>.lC (l.map (·.gS f))
 | .opt c z=>.opt c (z.gS f)
 | .kF l=>.kF (l.map (·.gS f))
def OC.gS (f:Nat->Nat):OC->OC
 | .bb T cs=>.bb T (cs.map (·.gS f))
 | .mp es=>.mp (es.map fun q=>(q.1,q.2.gS f))
 | .BQ j m rest cur=>.BQ (f j) m rest cur
 | c=>c
def bw (f:Nat->Nat) (l:List (Nat×OC)):List (Nat×OC):=l.map fun p=>(f p.1,p.2.gS f)
theorem jl {α β γ:Type} {r:β->γ->Prop} (g:α->β):∀ {l:List α} {vs:List γ},aO r (l.map g) vs↔aO (fun a u=>r (g a) u) l vs
 | [],vs=>⟨fun h=>by cases h;exact .nil,fun h=>by cases h;exact .nil⟩
 | a::l,vs=>⟨fun h=>by cases h with|cons h1 h2=>exact .cons h1 ((jl g).1 h2),fun h=>by cases h with|cons h1 h2=>exact .cons h1 ((jl g).2 h2)⟩
theorem lQ {α γ:Type} {r r':α->γ->Prop} {l:List α} {vs:List γ} (h:∀ a u,r a u↔r' a u):aO r l vs↔aO r' l vs:=⟨fun x=>x.mono fun a u=>(h a u).1,fun x=>x.mono fun a u=>(h a u).2⟩
theorem CV.gk {f:Nat->Nat} {h:PH} {ρ:RM} {z:CV} {v:Value}:(z.gS f).rel h ρ v↔z.rel h (fun k=>ρ (f k)) v:=by cases z<;>exact Iff.rfl
theorem BV.gk {f:Nat->Nat} {h:PH} {ρ:RM} {z:BV} {v:Value}:(z.gS f).rel h ρ v↔z.rel h (fun k=>ρ (f k)) v:=by
 cases z with
 | xa cs=>exact exists_congr fun a=>and_congr Iff.rfl ((jl _).trans (lQ fun a u=>and_congr CV.gk Iff.rfl))
 | cJ g fs cs=>exact exists_congr fun a=>exists_congr fun b=>and_congr Iff.rfl (and_congr ((jl _).trans (lQ fun a u=>CV.gk)) ((jl _).trans (lQ fun a u=>CV.gk)))
 | _=>exact Iff.rfl
theorem SV.gk {f:Nat->Nat} {h:PH} {ρ:RM} {z:SV} {v:Value}:(z.gS f).rel h ρ v↔z.rel h (fun k=>ρ (f k)) v:=by
 cases z with
 | b z=>exact BV.gk
 | opt c z=>exact and_congr (imp_congr Iff.rfl BV.gk) Iff.rfl
 | lC l=>exact exists_congr fun vs=>and_congr Iff.rfl ((jl _).trans (lQ fun a u=>BV.gk))
 | kF l=>exact exists_congr fun vs=>and_congr Iff.rfl ((jl _).trans (lQ fun a u=>and_congr BV.gk Iff.rfl))
theorem OC.Dv {f:Nat->Nat} {h:PH} {ρ:RM} {c:OC} {v:Value} {w:World}:(c.gS f).ok h ρ v w↔c.ok h (fun k=>ρ (f k)) v w:=by
 cases c with
 | box T ps=>exact Iff.rfl
 | row T size es=>exact Iff.rfl
 | oM T size es=>exact Iff.rfl
 | CZ T size es=>exact Iff.rfl
 | sit q pos=>exact Iff.rfl
 | mq m=>exact Iff.rfl
 | rr=>exact Iff.rfl
 | BQ j m rest cur=>exact exists_congr fun _=>exists_congr fun _=>exists_congr fun _=>exists_congr fun _=>exists_congr fun _=>⟨fun x=>⟨x.ptr,x.it,x.map,x.obj,x.ents,x.born,x.left,x.at_⟩,fun x=>⟨x.ptr,x.it,x.map,x.obj,x.ents,x.born,x.left,x.at_⟩⟩
 | mp es=>exact exists_congr fun b=>exists_congr fun ms=>exists_congr fun clk=>and_congr Iff.rfl (and_congr Iff.rfl (and_congr ((jl _).trans (lQ fun a u=>and_congr Iff.rfl BV.gk)) Iff.rfl))
 | bb T cs=>exact exists_congr fun b=>exists_congr fun cur=>and_congr Iff.rfl (and_congr Iff.rfl ((jl _).trans (lQ fun a u=>and_congr BV.gk Iff.rfl)))
theorem OC.jT {f:Nat->Nat} {c:OC} {v:Value} {w:World} {b:Nat}:(c.gS f).dK v w b↔c.dK v w b:=by cases c<;>exact Iff.rfl
theorem E8 {f:Nat->Nat} {l:List (Nat×OC)} {k:Nat} {c:OC} (h:(k,c)∈bw f l):∃ k0 c0,(k0,c0)∈l/\k=f k0/\c=c0.gS f:=by
 obtain⟨⟨k0,c0⟩,hm,he⟩:=List.mem_map.1 h
 obtain⟨rfl,rfl⟩:=Prod.mk.inj he
 exact⟨k0,c0,hm,rfl,rfl⟩
theorem qm {f:Nat->Nat} {l:List (Nat×OC)}:ai (bw f l)=(ai l).map f:=by simp[ai,bw]
theorem Hc {f:Nat->Nat} {c:OC}:(c.gS f).we=c.we:=by cases c<;>rfl
theorem sc {f:Nat->Nat}:∀ {l:List (Nat×OC)},aq (bw f l)=(aq l).map f
 | []=>rfl
 | (k,c)::l=>by
  have ih:=sc (f:=f) (l:=l)
  show (if (c.gS f).we=true then f k::aq (bw f l) else aq (bw f l))=_
  rw[Hc,ih]
  cases hb:c.we<;>simp[aq,hb]
theorem aI.sw {P:Program} {TB:aH} {f:FuncId} {own own':List (Nat×OC)} {args:List BV} {res:SV} (hm:aI P TB f own args (Is own' res)) (a b:Nat) :
 aI P TB f (bw (swp a b) own) (args.map (·.gS (swp a b))) (Is (bw (swp a b) own') (res.gS (swp a b))):=by
 intro w h ρ vals tb hag c2 c3
 have hss:(fun k=>ρ (swp a b (swp a b k)))=ρ:=by funext k;rw[il]
 have c6:∀ {i j:Nat},swp a b i=swp a b j->i=j:=fun {i j} e=>by have:=congrArg (swp a b) e;rwa [il,il] at this
 have hl:C5 own h (fun k=>ρ (swp a b k)) w:=fun k c hk=>by
  obtain⟨e1,e2,e3⟩:=c2 (swp a b k) (c.gS (swp a b)) (List.mem_map.2 ⟨(k,c),hk,rfl⟩)
  exact⟨OC.Dv.1 e1,fun b hb=>e2 b (OC.jT.2 hb),fun k' c' b1 c7 b' b0 b3=>e3 (swp a b k') (c'.gS (swp a b)) (List.mem_map.2 ⟨(k',c'),b1,rfl⟩) (fun e=>c7 (c6 e)) b' (OC.jT.2 b0) (OC.jT.2 b3)⟩
 have ha:aO (fun (x:BV) v=>x.rel h (fun k=>ρ (swp a b k)) v) args vals:=((jl _).trans (lQ fun a u=>BV.gk)).1 c3
 refine (hm w h _ vals tb hag hl ha).mono ?_
 rintro e w' ⟨v,own1,res1,h',ρ',rfl,⟨rfl,rfl⟩,hw,e0⟩
 have c5:∀ b',ry (TB:=TB) ⟨w,h,fun k=>ρ (swp a b k),tb⟩ ⟨0,aq own,ai own,[]⟩ b'↔ry (TB:=TB) ⟨w,h,ρ,tb⟩ ⟨0,aq (bw (swp a b) own),ai (bw (swp a b) own),[]⟩ b':=fun b'=>by
  constructor
  rintro⟨k,hk,hb⟩
  exact⟨swp a b k,by show _∈ai _;rw[qm];exact List.mem_map.2 ⟨k,hk,rfl⟩,hb⟩
  rintro⟨k,hk,hb⟩
  have b1:k∈(ai own).map (swp a b):=by rw[← qm];exact hk
  obtain⟨k0,c4,rfl⟩:=List.mem_map.1 b1
  exact⟨k0,c4,hb⟩
 refine⟨v,_,_,h',fun k=>ρ' (swp a b k),rfl,⟨rfl,rfl⟩,⟨hw.agree,hw.le,fun b' b0 hn=>hw.fresh b' b0 fun hh=>hn ((c5 b').1 hh),hw.size,fun b' b0 hn=>hw.same b' b0 fun hh=>hn ((c5 b').1 hh),fun k hk=>?_,hw.os,hw.out,fun b' hn o=>hw.nl b' ((c5 b').2 hn) o,fun k c hk=>?_⟩,?_⟩
 have b1:k∈(aq own).map (swp a b):=by rw[← sc];exact hk
 obtain⟨k0,c4,rfl⟩:=List.mem_map.1 b1
 show ρ' (swp a b (swp a b k0))=_
 rw[il];exact hw.fixed k0 c4
 obtain⟨k0,c0,c4,rfl,rfl⟩:=E8 hk
 obtain⟨e1,e2,e3⟩:=hw.owned k0 c0 c4
 have b2:(fun k=>ρ' (swp a b (swp a b k)))=ρ':=by funext k;rw[il]
 refine⟨OC.Dv.2 (by rw[il];exact (congrArg (fun r=>c0.ok h' r (ρ' k0) w') b2).mpr e1),fun b' b0=>?_,fun k' c' b1 c7 b' b0=>?_⟩
 have b3:c0.dK (ρ' k0) w' b':=by
  have:=OC.jT.1 b0
  rwa [il] at this
 exact⟨(e2 b' b3).1.imp_right (c5 b').1,(e2 b' b3).2⟩
 obtain⟨k1,c1,hk1,rfl,rfl⟩:=E8 b1
 have b3:c0.dK (ρ' k0) w' b':=by
  have:=OC.jT.1 b0
  rwa [il] at this
 intro hb3
 have hb4:c1.dK (ρ' k1) w' b':=by
  have:=OC.jT.1 hb3
  rwa [il] at this
 exact e3 k1 c1 hk1 (fun e=>c7 (by rw[e])) b' b3 hb4
 have b2:(fun k=>ρ' (swp a b (swp a b k)))=ρ':=by funext k;rw[il]
 exact SV.gk.2 (by rw[b2];exact e0)
section
variable {P:Program} {TB:aH} {E:Env TB} {n:Sh} {s s':St} {dst:Option Nat} {t ty yt:TypeId} {pos:String} {after:Array Edge} {g:Option (Nat×Bool)} {x y c:Operand} {ops:Array Oper} {l:List Oper} {Q:bH} {cd:Code}
theorem ir {α:Type} {k:Nat} {c:α}:∀ {l:List (Nat×α)} {j:Nat} {x:α},(j,x)∈l->j≠k->(j,x)∈ins k c l
 | (i,y)::l,j,x,h,b0=>by
  unfold ins
  split
  next e=>
   have e':k=i:=by simpa using e
   subst e'
   cases List.mem_cons.1 h with
   | inl e=>obtain⟨rfl,rfl⟩:=Prod.mk.inj e;exact absurd rfl b0
   | inr e=>exact List.mem_cons_of_mem _ (db e b0)
  cases List.mem_cons.1 h with
  | inl e=>rw[e];exact List.mem_cons_self
  | inr e=>exact List.mem_cons_of_mem _ (ir e b0)
theorem WR.repl' {own:List (Nat×OC)} {h:PH} {ρ:RM} {w:World} (hw:WR E n own h ρ w) {k:Nat} {c0 c':OC} (hk:(k,c0)∈own) (hc:c'.ok h ρ (ρ k) w) (hpl:c'.plain=true:=by rfl):WR E n (ins k c' own) h ρ w:=by
 have:=hw.step (w':=w) k (ρ k) c' (ba (ρ k)) (fun b e=>⟨c0,hk,e⟩) (Nat.le_refl _) rfl rfl (fun _ _ _=>rfl) (by rw[ph];exact hc) (fun b hb=>.inl hb) (.inl rfl) (.inl rfl) hpl
 rwa [ph] at this
theorem R.qc {a:Act} {w:World} (hr:R E n s a w) (kb off k size:Nat) (T:TypeId) {T2:TypeId} {cs:List BV} (hk:lk s.own kb=some (.bb T2 cs)) (hi:cs[off]?=some (.one .nil)) (hz:0<size) (hne:kb≠k) (hfx:n.fix.contains k=false) (hnu:dy k s.own=true) :
 R E n ⟨cu k s.slots,ins kb (.bb T2 (cs.set off (.row k))) (ins k (.row T size []) s.own)⟩ a w:=by
 obtain⟨h1,h2,h,ρ,hw,hs⟩:=hr
 obtain⟨b,cur,e1,e2,e3⟩:=fG hw hk
 have hst:=hw.step (w':=w) k (.slice none 0 0) (.row T size []) none (fun b e=>by simp at e) (Nat.le_refl _) rfl rfl (fun _ _ _=>rfl)
  ⟨fun ps hps=>by simp at hps,hz,[],⟨by simp,.inl ⟨rfl,rfl⟩⟩,.nil⟩ (fun b hb=>by simp[ba] at hb) (.inr fun e=>by simp at hfx;exact hfx e) (.inr hnu)
 have hm:=ir (c:=OC.row T size []) (bj hk) hne
 have hcs:aO (CR h (oX ρ k (.slice none 0 0))) (cs.set off (.row k)) cur.toList:=by
  have hno:∀ j,(cs.any (·.bf j))=true->oX ρ k (.slice none 0 0) j=ρ j:=fun j hj=>fB _ _ fun e=>by
   subst e
   have:=q9 hnu (bj hk)
   simp only[OC.bf] at this
   rw[this] at hj;simp at hj
  clear hst hm hk e2
  generalize cur.toList=vl at e3
  induction e3 generalizing off with
  | nil=>simp at hi
  | @cons z u cs vl h3 t ih=>
   have b0:∀ j,(cs.any (·.bf j))=true->oX ρ k (.slice none 0 0) j=ρ j:=fun j hj=>hno j (by simp only[List.any_cons,hj,Bool.or_true])
   have hu:∀ j,z.bf j=true->oX ρ k (.slice none 0 0) j=ρ j:=fun j hj=>hno j (by simp[hj])
   have b1:∀ {cs:List BV} {vl:List Value},(∀ j,(cs.any (·.bf j))=true->oX ρ k (.slice none 0 0) j=ρ j)->aO (fun (z:BV) u=>z.rel h ρ u/\u.oneCell'=true) cs vl->aO (CR h (oX ρ k (.slice none 0 0))) cs vl:=by
    intro cs vl hn ha
    induction ha with
    | nil=>exact .nil
    | cons h4 _ ih2=>exact .cons ⟨BV.mono (PH.le_refl _) (fun j hj=>hn j (by simp[hj])) h4.1,h4.2⟩ (ih2 fun j hj=>hn j (by simp only[List.any_cons,hj,Bool.or_true]))
   cases off with
   | zero=>
    simp at hi
    subst hi
    have hv:u=.slice none 0 0:=h3.1.1
    exact .cons ⟨by rw[hv];exact (cL _ _ _).symm,h3.2⟩ (b1 b0 t)
   | succ off=>exact .cons ⟨BV.mono (PH.le_refl _) hu h3.1,h3.2⟩ (ih off (by simpa using hi) b0)
 refine⟨h1,h2,h,_,WR.repl' hst hm ⟨b,cur,by rw[fB _ _ hne];exact e1,e2,hcs⟩,hs.cu k _⟩
theorem ah.qc (kb off k size:Nat) (T:TypeId) {T2:TypeId} {cs:List BV} (hk:lk s.own kb=some (.bb T2 cs)) (hi:cs[off]?=some (.one .nil)) (hz:0<size) (hne:kb≠k) (hfx:n.fix.contains k=false) (h:ah P E n cd ⟨cu k s.slots,ins kb (.bb T2 (cs.set off (.row k))) (ins k (.row T size []) s.own)⟩ Q) (hnu:dy k s.own=true:=by rfl):ah P E n cd s Q:=fun a w hr=>h a w (hr.qc kb off k size T hk hi hz hne hfx hnu)
theorem aj.qc (kb off k size:Nat) (T:TypeId) {T2:TypeId} {cs:List BV} (hk:lk s.own kb=some (.bb T2 cs)) (hi:cs[off]?=some (.one .nil)) (hz:0<size) (hne:kb≠k) (hfx:n.fix.contains k=false) (h:aj P E n ops l ⟨cu k s.slots,ins kb (.bb T2 (cs.set off (.row k))) (ins k (.row T size []) s.own)⟩ Q) (hnu:dy k s.own=true:=by rfl):aj P E n ops l s Q:=fun a w hr=>h a w (hr.qc kb off k size T hk hi hz hne hfx hnu)
theorem Fin.qc {e:Exit} (kb off k size:Nat) (T:TypeId) {T2:TypeId} {cs:List BV} (hk:lk s.own kb=some (.bb T2 cs)) (hi:cs[off]?=some (.one .nil)) (hz:0<size) (hne:kb≠k) (hfx:n.fix.contains k=false) (h:Fin E n e ⟨cu k s.slots,ins kb (.bb T2 (cs.set off (.row k))) (ins k (.row T size []) s.own)⟩ Q) (hnu:dy k s.own=true:=by rfl):Fin E n e s Q:=fun a w hr=>h a w (hr.qc kb off k size T hk hi hz hne hfx hnu)
end
end Go.Sk
namespace Go.Sk
open Go
end Go.Sk
namespace Go.Sk
end Go.Sk
namespace Go.Sk
open Go Go.BigFrame
structure uW where
 done:List Bool
 base:List (Nat×SV)
 own:List (Nat×OC)
 live:List Bool
 must:List Nat
 nots:List Nat
def nb (l:List Bool) (i:Nat):Bool:=l.getD i false
def n9:List uW->List Bool->Option uW
 | [],_=>none
 | σ::tab,d=>if σ.done==d then some σ else n9 tab d
theorem k9:∀ {tab:List uW} {d:List Bool} {σ:uW},n9 tab d=some σ->σ.done=d/\σ∈tab
 | σ0::tab,d,σ,h=>by
  unfold n9 at h
  split at h
  next e=>cases h;exact⟨by simpa using e,List.mem_cons_self⟩
  exact⟨(k9 h).1,List.mem_cons_of_mem _ (k9 h).2⟩
def cI (p:Nat->Bool) (l:List Oper) (Fs:List SV):List Edge->List (Nat×SV)
 | []=>[]
 | e::es=>if Region.binds .any e&&p e.on then
  match l[e.on]?,Fs[e.on]? with
  | some o,some x=>(match o.dst with|some d=>(d,x)::cI p l Fs es|none=>cI p l Fs es)
  | _,_=>cI p l Fs es
  else cI p l Fs es
theorem ve {p:Nat->Bool} {l:List Oper} {Fs:List SV}:∀ {es:List Edge} {q:Nat×SV},q∈cI p l Fs es->∃ e,e∈es/\Region.binds .any e=true/\p e.on=true/\∃ o,l[e.on]?=some o/\o.dst=some q.1/\Fs[e.on]?=some q.2
 | [],q,h=>by simp[cI] at h
 | e::es,q,h=>by
  have b0:q∈cI p l Fs es->∃ e',e'∈e::es/\Region.binds .any e'=true/\p e'.on=true/\∃ o,l[e'.on]?=some o/\o.dst=some q.1/\Fs[e'.on]?=some q.2:=fun h=>by
   obtain⟨e',h1,h2⟩:=ve h
   exact⟨e',List.mem_cons_of_mem _ h1,h2⟩
  unfold cI at h
  split at h
  rename_i hb
  simp only[Bool.and_eq_true] at hb
  split at h
  rename_i o x ho hx
  split at h
  rename_i d hd
  cases List.mem_cons.1 h with
  | inl e'=>subst e';exact⟨e,List.mem_cons_self,hb.1,hb.2,o,ho,hd,hx⟩
  | inr e'=>exact b0 e'
  exact b0 h
  exact b0 h
  exact b0 h
def iU:List Nat->List (Nat×SV)->List (Nat×SV)
 | [],l=>l
 | k::ks,l=>iU ks (cu k l)
def lH:List Nat->SV->Bool
 | [],_=>false
 | k::ks,x=>x.bf k||lH ks x
theorem vd {q:Nat×SV}:∀ {key:List Nat} {l:List (Nat×SV)},q∈iU key l->q∈l/\lH key q.2=false
 | [],l,h=>⟨h,rfl⟩
 | k::ks,l,h=>by
  obtain⟨h1,h2⟩:=vd (key:=ks) h
  obtain⟨h3,h4⟩:=gh h1
  exact⟨h3,by simp[lH,h4,h2]⟩
def K2 (o:Oper) (j:Nat):Bool:=o.after.toList.any fun e=>Region.binds .any e&&e.on==j
section
variable {P:Program} {TB:aH} {E:Env TB} {n:Sh} {s s':St} {l:List Oper} {Q:bH} {o:Oper}
def may (isW:List Bool) (σ:uW) (i:Nat) (o:Oper):Bool:=!nb σ.done i && !σ.must.contains i && !σ.nots.contains i&&(o.after.toList.all fun e=>!Region.binds .any e || !nb isW e.on||nb σ.done e.on)
def Gp (isW:List Bool) (l:List Oper) (σ:uW):Bool:=σ.must.all fun j=>(nb isW j&&nb σ.done j)||(σ.must.any fun i=>decide (j<i)&&(match l[i]? with|some o=>K2 o j|none=>false))
def delD:Option Nat->List (Nat×SV)->List (Nat×SV)
 | some d,l=>del d l
 | none,l=>l
def GM (isW:List Bool) (l:List Oper) (σ:uW):Bool:=(List.range l.length).all fun j=>(nb isW j && !nb σ.done j)||(match l[j]? with
 | some o=>(match o.dst with
  | some d=>σ.base.all fun p=>p.1 != d
  | none=>true)
 | none=>true)
def Hw (isW:List Bool) (l:List Oper) (σ:uW):Bool:=σ.nots.all fun j=>match l[j]? with
 | some o=>o.after.toList.any fun e=>Region.binds .any e&&((nb isW e.on && !nb σ.done e.on)||(decide (e.on<j)&&σ.nots.contains e.on))
 | none=>false
theorem cb.to {ops:Array Oper} {s1 s2:St} (h:cb P E n ops o s s1) (e:s1=s2):cb P E n ops o s s2:=e▸h
def Gg (P:Program) {TB:aH} (E:Env TB) (n:Sh) (isW:List Bool) (tab:List uW) (l:List Oper) (Fs:List SV) (σ:uW):Nat->List Oper->Prop
 | _,[]=>True
 | i,o::r=>(if may isW σ i o=true then
  (if nb isW i=true then ∃ τ key x,n9 tab (σ.done.set i true)=some τ/\(o.dst.isSome=true->Fs[i]?=some x)/\τ.base=delD o.dst (iU key σ.base)/\((List.range l.length).all fun j=>!nb τ.live j||j==i||σ.nots.contains j||(nb σ.live j&&(match Fs[j]? with|some y=>!lH key y|none=>true)))=true /\
   ∀ extra,cb P E n l.toArray o ⟨cI (nb σ.live) l Fs o.after.toList++(σ.base++extra),σ.own⟩ (St.put n o.dst x ⟨iU key (cI (nb σ.live) l Fs o.after.toList++(σ.base++extra)),τ.own⟩)
   else ∃ x,(o.dst.isSome=true->Fs[i]?=some x)/\∀ extra,cb P E n l.toArray o ⟨cI (nb σ.live) l Fs o.after.toList++(σ.base++extra),σ.own⟩ (St.put n o.dst x ⟨cI (nb σ.live) l Fs o.after.toList++(σ.base++extra),σ.own⟩))
  else True)/\Gg P E n isW tab l Fs σ (i+1) r
def C4 (P:Program) {TB:aH} (E:Env TB) (n:Sh) (isW:List Bool) (tab:List uW) (l:List Oper) (Fs:List SV):List uW->Prop
 | []=>True
 | σ::r=>(Gp isW l σ&&Hw isW l σ&&((List.range l.length).all fun i=>!nb σ.done i||nb isW i)&&GM isW l σ&&(σ.done.length==l.length))=true/\Gg P E n isW tab l Fs σ 0 l/\C4 P E n isW tab l Fs r
theorem Gg.get {isW:List Bool} {tab:List uW} {l0:List Oper} {Fs:List SV} {σ:uW}:∀ {r:List Oper} {k:Nat},Gg P E n isW tab l0 Fs σ k r->∀ (i:Nat) (o:Oper),r[i]?=some o->may isW σ (k+i) o=true ->
 (if nb isW (k+i)=true then ∃ τ key x,n9 tab (σ.done.set (k+i) true)=some τ/\(o.dst.isSome=true->Fs[k+i]?=some x)/\τ.base=delD o.dst (iU key σ.base)/\((List.range l0.length).all fun j=>!nb τ.live j||j==k+i||σ.nots.contains j||(nb σ.live j&&(match Fs[j]? with|some y=>!lH key y|none=>true)))=true /\
     ∀ extra,cb P E n l0.toArray o ⟨cI (nb σ.live) l0 Fs o.after.toList++(σ.base++extra),σ.own⟩ (St.put n o.dst x ⟨iU key (cI (nb σ.live) l0 Fs o.after.toList++(σ.base++extra)),τ.own⟩)
  else ∃ x,(o.dst.isSome=true->Fs[k+i]?=some x)/\∀ extra,cb P E n l0.toArray o ⟨cI (nb σ.live) l0 Fs o.after.toList++(σ.base++extra),σ.own⟩ (St.put n o.dst x ⟨cI (nb σ.live) l0 Fs o.after.toList++(σ.base++extra),σ.own⟩))
 | [],k,h,i,o,ho,_=>by simp at ho
 | p::r,k,h,i,o,ho,hm=>by
  obtain⟨h1,h2⟩:=h
  cases i with
  | zero=>
   simp at ho;subst ho
   rw[Nat.add_zero] at hm ⊢
   rw[if_pos hm] at h1
   exact h1
  | succ i=>
   have:=Gg.get h2 i o (by simpa using ho) (by rw[← hm];congr 1;omega)
   have e:k+1+i=k+(i+1):=by omega
   rwa [e] at this
theorem C4.get {isW:List Bool} {tab:List uW} {Fs:List SV}:∀ {r:List uW},C4 P E n isW tab l Fs r->∀ σ∈r,(Gp isW l σ&&Hw isW l σ&&((List.range l.length).all fun i=>!nb σ.done i||nb isW i)&&GM isW l σ&&(σ.done.length==l.length))=true/\Gg P E n isW tab l Fs σ 0 l
 | σ::r,h,τ,hm=>by
  cases List.mem_cons.1 hm with
  | inl e=>subst e;exact⟨h.1,h.2.1⟩
  | inr e=>exact C4.get h.2.2 τ e
theorem LW {d:Option Nat} {l:List (Nat×SV)} {k:Nat} {y:SV} (h:(k,y)∈delD d l):(k,y)∈l/\∀ d',d=some d'->k≠d':=by
 cases d with
 | none=>exact⟨h,fun d' e=>by cases e⟩
 | some d=>exact⟨(cj h).1,fun d' e=>by cases e;exact (cj h).2⟩
theorem JE {isW:List Bool} {σ:uW} {i d:Nat} {o:Oper} (h:GM isW l σ=true) (hi:i<l.length) (ho:l[i]?=some o) (hd:o.dst=some d) (hw:nb isW i=false∨nb σ.done i=true) {k:Nat} {y:SV} (hy:(k,y)∈σ.base):k≠d:=by
 have:=List.all_eq_true.1 h i (List.mem_range.2 hi)
 rw[ho] at this
 simp only[hd,Bool.or_eq_true,Bool.and_eq_true,Bool.not_eq_true'] at this
 rcases this with ⟨h1,h2⟩|h1
 rcases hw with hw|hw
 rw[hw] at h1;simp at h1
 rw[hw] at h2;simp at h2
 have:=List.all_eq_true.1 h1 (k,y) hy
 simpa using this
theorem j4 {k:Nat} {q:Nat×SV} (hu:q.2.bf k=false):∀ {l:List (Nat×SV)},q∈l->q∈cu k l
 | (i,x)::l,h=>by
  show q∈(if x.bf k=true then cu k l else (i,x)::cu k l)
  cases List.mem_cons.1 h with
  | inl e=>
   subst e
   rw[if_neg (by rw[hu];simp)]
   exact List.mem_cons_self
  | inr e=>
   split
   exact j4 hu e
   exact List.mem_cons_of_mem _ (j4 hu e)
theorem o5 {q:Nat×SV}:∀ {key:List Nat} {l:List (Nat×SV)},q∈l->lH key q.2=false->q∈iU key l
 | [],l,h,_=>h
 | k::ks,l,h,hu=>by
  simp only[lH,Bool.or_eq_false_iff] at hu
  exact o5 (key:=ks) (j4 hu.1 h) hu.2
theorem nb_eq {a b:List Bool} (hl:a.length=b.length) (h:∀ i,nb a i=nb b i):a=b:=by
 refine List.ext_getElem hl fun i h1 h2=>?_
 have:=h i
 simpa[nb,List.getD,List.getElem?_eq_getElem h1,List.getElem?_eq_getElem h2] using this
theorem nb_set {a:List Bool} {i j:Nat}:nb (a.set i true) j=if j=i/\i<a.length then true else nb a j:=by
 unfold nb
 simp only[List.getD,List.getElem?_set]
 by_cases h:i=j
 subst h
 by_cases h2:i<a.length<;>simp[h2]
 have h':¬ j=i:=fun e=>h e.symm
 simp[h,h']
theorem FP {isW:List Bool} {σ:uW} {listed:Array Bool} (hm:Gp isW l σ=true) (hw:∀ i,nb isW i=true->listed.getD i false=nb σ.done i) (hcl:∀ (i:Nat) (p:Oper),l[i]?=some p->listed.getD i false=true->∀ e∈p.after.toList,Region.binds .any e=true->listed.getD e.on false=true) :
 ∀ m j,l.length-j=m->j∈σ.must->listed.getD j false=true:=by
 intro m
 induction m using Nat.strongRecOn with
 | _ m ih=>
  intro j hm' hj
  have:=List.all_eq_true.1 hm j hj
  simp only[Bool.or_eq_true,Bool.and_eq_true,List.any_eq_true,decide_eq_true_eq] at this
  rcases this with ⟨h1,h2⟩|⟨i,hi,hji,hp⟩
  rw[hw j h1];exact h2
  cases b0:l[i]? with
  | none=>rw[b0] at hp;simp at hp
  | some p=>
   rw[b0] at hp
   have hil:=(List.getElem?_eq_some_iff.1 b0).1
   simp only[K2,List.any_eq_true,Bool.and_eq_true,beq_iff_eq] at hp
   obtain⟨e,he,hb,hon⟩:=hp
   have:=hcl i p b0 (ih (l.length-i) (by omega) i rfl hi) e he hb
   rwa [hon] at this
theorem Bq {isW:List Bool} {σ:uW} {listed:Array Bool} (hm:Hw isW l σ=true) (hw:∀ i,nb isW i=true->listed.getD i false=nb σ.done i) (hcl:∀ (i:Nat) (p:Oper),l[i]?=some p->listed.getD i false=true->∀ e∈p.after.toList,Region.binds .any e=true->listed.getD e.on false=true) :
 ∀ j,j∈σ.nots->listed.getD j false=false:=by
 intro j
 induction j using Nat.strongRecOn with
 | _ j ih=>
  intro hj
  cases hl:listed.getD j false with
  | false=>rfl
  | true=>
   exfalso
   have:=List.all_eq_true.1 hm j hj
   cases b0:l[j]? with
   | none=>rw[b0] at this;simp at this
   | some p=>
    rw[b0] at this
    simp only[List.any_eq_true,Bool.and_eq_true,Bool.or_eq_true,decide_eq_true_eq,Bool.not_eq_true'] at this
    obtain⟨e,he,hb,h2⟩:=this
    have h3:=hcl j p b0 hl e he hb
    rcases h2 with ⟨h4,h5⟩|⟨h4,h5⟩
    rw[hw _ h4,h5] at h3;simp at h3
    rw[ih _ h4 (by simpa using h5)] at h3;simp at h3
theorem Jq {isW:List Bool} {σ:uW} {listed:Array Bool} (hm:Hw isW l σ=true) (hw:∀ i,nb isW i=true->listed.getD i false=nb σ.done i) (hcl:∀ (i:Nat) (p:Oper),l[i]?=some p->listed.getD i false=true->∀ e∈p.after.toList,Region.binds .any e=true->listed.getD e.on false=true)
 {j:Nat} {p:Oper} (hj:j∈σ.nots) (hp:l[j]?=some p) (hr:∀ e∈p.after.toList,Region.binds .any e=true->listed.getD e.on false=true):False:=by
 have:=List.all_eq_true.1 hm j hj
 rw[hp] at this
 simp only[List.any_eq_true,Bool.and_eq_true,Bool.or_eq_true,decide_eq_true_eq,Bool.not_eq_true'] at this
 obtain⟨e,he,hb,h2⟩:=this
 have h3:=hr e he hb
 rcases h2 with ⟨h4,h5⟩|⟨h4,h5⟩
 rw[hw _ h4,h5] at h3;simp at h3
 rw[Bq hm hw hcl _ (by simpa using h5)] at h3;simp at h3
theorem anyW {isW:List Bool} {tab:List uW} {Fs:List SV} (hok:(iX 0 l&&gW (km l)&&(km l).all (·<n.n)&&(isW.length==l.length))=true) (e7:C4 P E n isW tab l Fs tab)
 (l5:∀ σ,n9 tab isW=some σ->Fin E n .normal ⟨σ.base++aZ (nb σ.live) 0 l Fs,σ.own⟩ Q):∀ (fuel:Nat) (listed:Array Bool) (σ:uW) (a:Act) (w:World),
 listed.size=l.length->n9 tab σ.done=some σ->(∀ i,nb isW i=true->listed.getD i false=nb σ.done i)->(∀ (i:Nat) (p:Oper),l[i]?=some p->listed.getD i false=true->∀ e∈p.after.toList,Region.binds .any e=true->listed.getD e.on false=true) ->
 l.length<=fuel+(listed.toList.filter id).length->R E n ⟨σ.base++aZ (fun i=>listed.getD i false&&nb σ.live i) 0 l Fs,σ.own⟩ a w->wpAny P .any l.toArray Q fuel listed a w:=by
 simp only[Bool.and_eq_true,beq_iff_eq] at hok
 obtain⟨⟨⟨e1,hnd⟩,hlt⟩,hWl⟩:=hok
 simp only[List.all_eq_true] at hlt
 have c2:∀ (L:List Bool) (i:Nat) (hi:i<L.length),L[i]=false->((L.set i true).filter id).length=(L.filter id).length+1:=by
  intro L
  induction L with
  | nil=>intro i hi;simp at hi
  | cons b L ihL=>
   intro i hi hb
   cases i with
   | zero=>simp at hb;subst hb;simp
   | succ i=>
    have:=ihL i (by simpa using hi) (by simpa using hb)
    cases b<;>simp[this]
 have e2:∀ (listed:Array Bool),listed.size=l.length->Region.ready .any l.toArray listed=[]->∀ j,j<l.length->listed.getD j false=true:=by
  intro listed e3 hr j hj
  induction j using Nat.strongRecOn with
  | _ j ih=>
   cases hb:listed.getD j false with
   | true=>rfl
   | false=>
    exfalso
    have e8:j<listed.size:=by omega
    have hjr:j∈Region.ready .any l.toArray listed:=by
     rw[mem_ready]
     have c6:listed.getD j true=false:=by
      simp only[Array.getD_eq_getD_getElem?,Array.getElem?_eq_getElem e8,Option.getD_some] at hb ⊢
      exact hb
     refine⟨c6,l[j],by simp[hj],fun e he hbd=>?_⟩
     have:=r5 e1 j l[j] (by simp) e he hbd
     exact ih e.on (by omega) (by omega)
    rw[hr] at hjr
    simp at hjr
 have c7:∀ (listed:Array Bool) (σ:uW) (a:Act) (w:World),listed.size=l.length->n9 tab σ.done=some σ->(∀ i,nb isW i=true->listed.getD i false=nb σ.done i)->Region.ready .any l.toArray listed=[] ->
  R E n ⟨σ.base++aZ (fun i=>listed.getD i false&&nb σ.live i) 0 l Fs,σ.own⟩ a w->Q .normal a w:=by
  intro listed σ a w e3 hσ b3 hr hR
  have e9:=e2 listed e3 hr
  obtain⟨hσ1,hσ2⟩:=k9 hσ
  obtain⟨hc,_⟩:=e7.get σ hσ2
  simp only[Bool.and_eq_true,List.all_eq_true,List.mem_range,Bool.or_eq_true,Bool.not_eq_true',beq_iff_eq] at hc
  obtain⟨⟨⟨⟨_,_⟩,o0⟩,_⟩,hc4⟩:=hc
  have he:σ.done=isW:=by
   refine nb_eq (by omega) fun i=>?_
   by_cases hi:i<l.length
   cases hw:nb isW i with
   | true=>rw[← b3 i hw];exact e9 i hi
   | false=>
    rcases o0 i hi with h|h
    exact h
    rw[hw] at h;simp at h
   have h1:nb σ.done i=false:=by simp[nb,List.getD,List.getElem?_eq_none (show σ.done.length<=i by omega)]
   have h2:nb isW i=false:=by simp[nb,List.getD,List.getElem?_eq_none (show isW.length<=i by omega)]
   rw[h1,h2]
  refine l5 σ (by rw[← he];exact hσ) a w ?_
  obtain⟨h1,h2,h,ρ,hw,hs⟩:=hR
  refine⟨h1,h2,h,ρ,hw,fun k x hx=>hs k x ?_⟩
  rcases List.mem_append.1 hx with hx|hx
  exact List.mem_append.2 (.inl hx)
  refine List.mem_append.2 (.inr ?_)
  rw[bT] at hx ⊢
  obtain⟨j,oj,hj,hd,hF,hl⟩:=hx
  rw[Nat.zero_add] at hl
  exact⟨j,oj,hj,hd,hF,by rw[Nat.zero_add,e9 j (List.getElem?_eq_some_iff.1 hj).1,hl];rfl⟩
 intro fuel
 induction fuel with
 | zero=>
  intro listed σ a w e3 hσ b3 j0 hf hR
  have hnr:Region.ready .any l.toArray listed=[]:=by
   apply List.eq_nil_iff_forall_not_mem.2
   intro j hj
   rw[mem_ready] at hj
   obtain⟨hj1,oj,hoj,_⟩:=hj
   have l4:j<l.length:=by
    have:=(Array.getElem?_eq_some_iff.1 hoj).1
    simpa using this
   have e8:j<listed.size:=by omega
   have hz':listed.toList[j]'(by simpa using e8)=false:=by simpa[Array.getD_eq_getD_getElem?,Array.getElem?_eq_getElem e8] using hj1
   have h1:=c2 listed.toList j (by simpa using e8) hz'
   have h2:=List.length_filter_le id (listed.toList.set j true)
   simp at h1 h2 hf
   omega
  exact⟨hnr,c7 listed σ a w e3 hσ b3 hnr hR⟩
 | succ fuel ih=>
  intro listed σ a w e3 hσ b3 j0 hf hR
  refine⟨fun hr=>c7 listed σ a w e3 hσ b3 hr hR,fun i hi=>?_⟩
  rw[mem_ready] at hi
  obtain⟨hi1,o',ho,b2⟩:=hi
  have hil:i<l.length:=by
   have:=(Array.getElem?_eq_some_iff.1 ho).1
   simpa using this
  have e4:l[i]?=some o':=by simpa using ho
  have j1:i<listed.size:=by omega
  have k0:listed[i]=false:=by simpa[Array.getD_eq_getD_getElem?,Array.getElem?_eq_getElem j1] using hi1
  have o1:listed.getD i false=false:=by simp[Array.getD_eq_getD_getElem?,Array.getElem?_eq_getElem j1,k0]
  obtain⟨hσ1,hσ2⟩:=k9 hσ
  obtain⟨hc,o3⟩:=e7.get σ hσ2
  simp only[Bool.and_eq_true,List.all_eq_true,List.mem_range,Bool.or_eq_true,Bool.not_eq_true',beq_iff_eq] at hc
  obtain⟨⟨⟨⟨hc1,hc0⟩,o0⟩,hc3⟩,hc4⟩:=hc
  have o4:=Bq (l:=l) (σ:=σ) (isW:=isW) hc0 b3 j0
  have k1:=FP (l:=l) (σ:=σ) (isW:=isW) hc1 b3 j0
  have o7:may isW σ i o'=true:=by
   simp only[may,Bool.and_eq_true,Bool.not_eq_true',List.all_eq_true,Bool.or_eq_true]
   refine⟨⟨⟨?_,?_⟩,?_⟩,fun e he=>?_⟩
   cases hd:nb σ.done i with
   | false=>rfl
   | true=>
    rcases o0 i hil with h|h
    rw[hd] at h;simp at h
    rw[b3 i h,hd] at o1;simp at o1
   cases hd:σ.must.contains i with
   | false=>rfl
   | true=>
    have:=k1 _ i rfl (by simpa using hd)
    rw[o1] at this;simp at this
   cases hd:σ.nots.contains i with
   | false=>rfl
   | true=>exact (Jq (l:=l) (σ:=σ) (isW:=isW) hc0 b3 j0 (by simpa using hd) e4 (fun e he hb=>b2 e (by simpa using he) hb)).elim
   cases hb:Region.binds .any e with
   | false=>simp
   | true=>
    have:=b2 e (by simpa using he) hb
    cases hw:nb isW e.on with
    | false=>simp
    | true=>rw[b3 _ hw] at this;simp[this]
  have b1:=Gg.get o3 i o' e4 (by rw[Nat.zero_add];exact o7)
  simp only[Nat.zero_add] at b1
  have hR2:R E n ⟨cI (nb σ.live) l Fs o'.after.toList++(σ.base++aZ (fun i=>listed.getD i false&&nb σ.live i) 0 l Fs),σ.own⟩ a w:=by
   obtain⟨h1,h2,h,ρ,hw,hs⟩:=hR
   refine⟨h1,h2,h,ρ,hw,fun k y hy=>?_⟩
   rcases List.mem_append.1 hy with hy|hy
   obtain⟨e,he,hb,hp,o'',ho',e5,e6⟩:=ve hy
   refine hs k y (List.mem_append.2 (.inr ?_))
   rw[bT]
   exact⟨e.on,o'',ho',e5,e6,by rw[Nat.zero_add,b2 e (by simpa using he) hb,hp];rfl⟩
   exact hs k y hy
  have k3:∀ (j:Nat) (p:Oper),l[j]?=some p->(listed.setIfInBounds i true).getD j false=true->∀ e∈p.after.toList,Region.binds .any e=true->(listed.setIfInBounds i true).getD e.on false=true:=by
   intro j p hj c6 e he hb
   have k4:∀ q,listed.getD q false=true->(listed.setIfInBounds i true).getD q false=true:=fun q hq=>by
    by_cases e:q=i
    subst e;simp[Array.getD_eq_getD_getElem?,j1]
    rw[getD_set_ne false (fun h=>e h.symm)];exact hq
   by_cases e':j=i
   subst e'
   rw[e4] at hj;cases hj
   exact k4 _ (b2 e (by simpa using he) hb)
   rw[getD_set_ne false (fun h=>e' h.symm)] at c6
   exact k4 _ (j0 j p hj c6 e he hb)
  have k5:l.length<=fuel+((listed.setIfInBounds i true).toList.filter id).length:=by
   have:=c2 listed.toList i (by simpa using j1) (by simpa using k0)
   rw[Array.toList_setIfInBounds]
   omega
  have k6:(listed.setIfInBounds i true).size=l.length:=by simpa using e3
  have e0:∀ (τ:uW) (key:List Nat) (x:SV) (a':Act) (w':World),(o'.dst.isSome=true->Fs[i]?=some x)->(∀ k y,(k,y)∈τ.base->(k,y)∈iU key σ.base/\∀ d,o'.dst=some d->k≠d) ->
   (∀ j,j<l.length->nb τ.live j=true->j=i∨j∈σ.nots∨(nb σ.live j=true/\∀ y,Fs[j]?=some y->lH key y=false)) ->
   R E n (St.put n o'.dst x ⟨iU key (cI (nb σ.live) l Fs o'.after.toList++(σ.base++aZ (fun i=>listed.getD i false&&nb σ.live i) 0 l Fs)),τ.own⟩) a' w' ->
   R E n ⟨τ.base++aZ (fun i'=>(listed.setIfInBounds i true).getD i' false&&nb τ.live i') 0 l Fs,τ.own⟩ a' w':=by
   intro τ key x a' w' hx c3 c4 l1
   obtain⟨h1,h2,h,ρ,hw,hs⟩:=l1
   have p0:(St.put n o'.dst x ⟨iU key (cI (nb σ.live) l Fs o'.after.toList++(σ.base++aZ (fun i=>listed.getD i false&&nb σ.live i) 0 l Fs)),τ.own⟩).own=τ.own:=by
    cases hd:o'.dst with
    | none=>rfl
    | some d=>simp only[St.put,St.set];split<;>rfl
   rw[p0] at hw
   refine⟨h1,h2,h,ρ,hw,fun k y hy=>?_⟩
   have hold:(∀ d,o'.dst=some d->k≠d)->(k,y)∈iU key (cI (nb σ.live) l Fs o'.after.toList++(σ.base++aZ (fun i=>listed.getD i false&&nb σ.live i) 0 l Fs))->∃ v,a'.tmps[k]?=some v/\y.rel h ρ v:=by
    intro p1 hm
    refine hs k y ?_
    cases hd:o'.dst with
    | none=>exact hm
    | some d=>
     simp only[St.put,St.set]
     split
     exact List.mem_cons_of_mem _ (db hm (p1 d hd))
     exact hm
   rcases List.mem_append.1 hy with hy|hy
   obtain⟨hy,p1⟩:=c3 k y hy
   have hy2:(k,y)∈σ.base/\lH key y=false:=vd hy
   exact hold p1 (o5 (List.mem_append.2 (.inr (List.mem_append.2 (.inl hy2.1)))) hy2.2)
   rw[bT] at hy
   obtain⟨j,oj,hj,e5,e6,l2⟩:=hy
   rw[Nat.zero_add] at l2
   simp only[Bool.and_eq_true] at l2
   have l4:=(List.getElem?_eq_some_iff.1 hj).1
   by_cases l3:j=i
   subst l3
   rw[e4] at hj;cases hj
   have hxy:x=y:=by
    have:=hx (by rw[e5];rfl)
    rw[this] at e6;exact zaa e6
   subst hxy
   refine hs k x ?_
   have hk:k<n.n:=by simpa using hlt k (ns e4 e5)
   simp only[e5,St.put,St.set,hk,if_true]
   exact List.mem_cons_self
   rcases c4 j l4 l2.2 with h|h|⟨h3,h4⟩
   exact absurd h l3
   exfalso
   have:=l2.1
   rw[getD_set_ne false (fun e=>l3 e.symm),o4 j h] at this
   simp at this
   have hl2:listed.getD j false=true:=by
    have:=l2.1
    rwa [getD_set_ne false (fun e=>l3 e.symm)] at this
   refine hold (fun d hd e=>l3 (wW hnd hj e4 (e▸e5) hd)) (o5 (List.mem_append.2 (.inr (List.mem_append.2 (.inr ?_)))) (h4 y e6))
   rw[bT]
   exact⟨j,oj,hj,e5,e6,by rw[Nat.zero_add,hl2,h3];rfl⟩
  unfold wpOp
  rw[ho]
  dsimp only
  have fin:∀ (K:Act->World->Prop),(if Region.wanted o' (yielded l.toArray a.tmps)=true then o'.wp P a w K Q else K (a.put o'.dst undef) w)->(∀ a' w',K a' w'->wpAny P .any l.toArray Q fuel (listed.setIfInBounds i true) a' w')->(if Region.wanted o' (yielded l.toArray a.tmps)=true then (o'.wp P a w (wpAny P .any l.toArray Q fuel (listed.setIfInBounds i true)) Q∨False) else wpAny P .any l.toArray Q fuel (listed.setIfInBounds i true) (a.put o'.dst undef) w):=by
   intro K hK hk
   split
   rename_i c5
   simp only[c5,if_true] at hK
   exact .inl (Oper.wp_mono hk hK)
   rename_i c5
   simp only[c5] at hK
   exact hk _ _ hK
  by_cases hw:nb isW i=true
  rw[if_pos hw] at b1
  obtain⟨τ,key,x,hτ,hx,c3,c4,p2⟩:=b1
  obtain⟨hτ1,hτ2⟩:=k9 hτ
  have b0:=p2 (aZ (fun i=>listed.getD i false&&nb σ.live i) 0 l Fs) a w hR2 (wpAny P .any l.toArray Q fuel (listed.setIfInBounds i true)) Q (fun a' w' l1=>by
   refine ih _ τ a' w' k6 (by rw[hτ1];exact hτ) ?_ k3 k5 (e0 τ key x a' w' hx (fun k y hy=>by rw[c3] at hy;exact LW hy) ?_ l1)
   intro j hj
   rw[hτ1,nb_set]
   by_cases e:j=i
   subst e
   rw[if_pos ⟨rfl,by omega⟩]
   simp[Array.getD_eq_getD_getElem?,j1]
   rw[if_neg (fun h=>e h.1),getD_set_ne false (fun h=>e h.symm)]
   exact b3 j hj
   intro j l4 c6
   have:=List.all_eq_true.1 c4 j (List.mem_range.2 l4)
   simp only[Bool.or_eq_true,Bool.not_eq_true',beq_iff_eq,Bool.and_eq_true] at this
   rcases this with ((h|h)|h)|⟨h,h'⟩
   rw[c6] at h;simp at h
   exact .inl h
   exact .inr (.inl (by simpa using h))
   refine .inr (.inr ⟨h,fun y hy=>?_⟩)
   rw[hy] at h'
   simpa using h')
  split
  rename_i c5
  simp only[c5,if_true] at b0
  exact .inl b0
  rename_i c5
  simp only[c5] at b0
  exact b0
  rw[if_neg hw] at b1
  obtain⟨x,hx,p2⟩:=b1
  have b0:=p2 (aZ (fun i=>listed.getD i false&&nb σ.live i) 0 l Fs) a w hR2 (wpAny P .any l.toArray Q fuel (listed.setIfInBounds i true)) Q (fun a' w' l1=>by
   refine ih _ σ a' w' k6 hσ ?_ k3 k5 (e0 σ [] x a' w' hx (fun k y hy=>⟨hy,fun d hd e=>JE hc3 hil e4 hd (.inl (by simpa using hw)) hy e⟩) (fun j _ c6=>.inr (.inr ⟨c6,fun _ _=>rfl⟩)) l1)
   intro j hj
   by_cases e:j=i
   subst e;exact absurd hj hw
   rw[getD_set_ne false (fun h=>e h.symm)]
   exact b3 j hj)
  split
  rename_i c5
  simp only[c5,if_true] at b0
  exact .inl b0
  rename_i c5
  simp only[c5] at b0
  exact b0
theorem vv.W {ops:List Oper} (isW:List Bool) (Fs:List SV) (tab:List uW) {σ0 σf:uW} (hok:(iX 0 ops&&gW (km ops)&&(km ops).all (·<n.n)&&(isW.length==ops.length))=true)
 (b0:C4 P E n isW tab ops Fs tab) (h0:n9 tab (List.replicate ops.length false)=some σ0) (hs0:s=⟨σ0.base,σ0.own⟩) (hf:n9 tab isW=some σf) (ks kos:List Nat)
 (hs:(⟨σf.base++aZ (nb σf.live) 0 ops Fs,σf.own⟩:St).keep ks kos=s') (h:Fin E n .normal s' Q):vv P E n ops.toArray s Q:=by
 subst hs0
 intro a w hr
 refine anyW hok b0 (Fs:=Fs) (fun σ hσ=>?_) _ _ σ0 _ _ (by simp) (by rw[(k9 h0).1];exact h0) ?_ ?_ (by simp) ?_
 rw[hf] at hσ;cases hσ
 exact fun a w hr=>h a w (hs▸hr.keep ks kos)
 intro i _
 rw[(k9 h0).1]
 by_cases hi:i<ops.length<;>simp[nb,List.getD,Array.getD_eq_getD_getElem?,hi]
 intro i p hi hl
 exfalso
 simp only[Array.getD_eq_getD_getElem?,Array.getElem?_replicate] at hl
 split at hl<;>simp at hl
 have hr':=hr.drawn
 obtain⟨h1,h2,hh,ρ,hw,hsl⟩:=hr'
 refine⟨h1,h2,hh,ρ,hw,fun k x hx=>hsl k x ?_⟩
 rcases List.mem_append.1 hx with hx|hx
 exact hx
 rw[bT] at hx
 obtain⟨j,o,hj,_,_,hl⟩:=hx
 simp only[Nat.zero_add,Array.getD_eq_getD_getElem?,Array.getElem?_replicate,Bool.and_eq_true] at hl
 have:=hl.1
 split at this<;>simp at this
theorem ah.wM {rid:Nat} {ops:List Oper} (hm:P.follows .mixedOrders=true) (isW:List Bool) (Fs:List SV) (tab:List uW) {σ0 σf:uW} (hok:(iX 0 ops&&gW (km ops)&&(km ops).all (·<n.n)&&(isW.length==ops.length))=true)
 (b0:C4 P E n isW tab ops Fs tab) (h0:n9 tab (List.replicate ops.length false)=some σ0) (hs0:s=⟨σ0.base,σ0.own⟩) (hf:n9 tab isW=some σf) (ks kos:List Nat)
 (hs:(⟨σf.base++aZ (nb σf.live) 0 ops Fs,σf.own⟩:St).keep ks kos=s') (h:Fin E n .normal s' Q):ah P E n (.region rid ops.toArray true) s Q:=ah.ofA hm (vv.W isW Fs tab hok b0 h0 hs0 hf ks kos hs h)
theorem ah.zN {rid:Nat} {ops:List Oper} {y:Code} (hm:P.follows .mixedOrders=true) (isW:List Bool) (Fs:List SV) (tab:List uW) {σ0 σf:uW} (hok:(iX 0 ops&&gW (km ops)&&(km ops).all (·<n.n)&&(isW.length==ops.length))=true)
 (b0:C4 P E n isW tab ops Fs tab) (h0:n9 tab (List.replicate ops.length false)=some σ0) (hs0:s=⟨σ0.base,σ0.own⟩) (hf:n9 tab isW=some σf) (ks kos:List Nat)
 (hs:(⟨σf.base++aZ (nb σf.live) 0 ops Fs,σf.own⟩:St).keep ks kos=s') (h:ah P E n y s' Q):ah P E n (.region rid ops.toArray true) s (Exit.then (y.wp P Q) Q) :=
 ah.wM hm isW Fs tab hok b0 h0 hs0 hf ks kos hs (Fin.then h)
end
end Go.Sk
namespace Go.Sk
open Go
end Go.Sk
namespace Go.Sk
open Go Go.BigFrame
def toStr (l:List Int):Str:=l.map fun n=>UInt8.ofNat n.toNat
section
variable {P:Program} {TB:aH} {E:Env TB} {n:Sh} {s s2:St} {dst:Option Nat} {t ty yt:TypeId} {pos:String} {after:Array Edge} {g:Option (Nat×Bool)} {x y c:Operand} {k:IntKind} {a b:Int} {ops:Array Oper} {o:Oper}
theorem B4 {src d e:TypeId} {xs:List Int} (b0:P.underlying src=some (.slice e)) (he:P.underlying e=some (.int .u8)) (hd:P.underlying d=some .string) (hx:s.ev x=some (.b (.one (.sl 1 (xs.map (eK .u8)))))) :
 aR P E n ⟨dst,.convert src d x,ty,pos,after,g⟩ s (s.put n dst (.b (.one (.str (toStr xs))))) :=
 aR.val (o:=⟨dst,.convert src d x,ty,pos,after,g⟩) fun ac w h ρ hw hs=>by
  obtain⟨hu,hz,hv⟩:=(aE hs hx:(CP.sl 1 (xs.map (eK .u8))).rel h _)
  rcases hv with ⟨hv,b1⟩|⟨bl,o,cp,hv,h1,h2,h3⟩|⟨ad,hv,b1⟩
  have b2:xs=[]:=by simpa using b1
  subst b2
  refine⟨.string ⟨⟨[]⟩⟩,?_,rfl,Nat.zero_le _⟩
  simp only[execOp,hv]
  have:=run_convert_bytes_nil (P:=P) w src e b0 he 0 0 d hd
  simp only[Sem.run_bind,this]
  rfl
  have hlen:(xs.map (eK .u8)).length=xs.length:=by simp
  have hfl:(xs.map (eK .u8)).flatten=xs.map (CP.int .u8):=by
   clear hx hu hv h1 h2 h3 hlen
   induction xs with
   | nil=>rfl
   | cons a l ih=>simp only[List.map_cons,List.flatten_cons,ih,eK];rfl
  refine⟨.string ⟨⟨toStr xs⟩⟩,?_,rfl,by simp only[toStr,List.length_map] at h1 ⊢;omega⟩
  have hc:∀ i,i<xs.length->w.cell? ⟨bl,o+i,none⟩=some (.int .u8 (xs.getD i 0)):=fun i hi=>by
   obtain⟨u,hu1,hu2⟩:=h3 i (CP.int .u8 xs[i]) (by rw[hfl];simp[hi])
   rw[hw.agree.cell hu1 (CP.one _ hu2),hu2.1]
   simp[List.getD,List.getElem?_eq_getElem hi]
  have:=run_convert_bytes_arg (P:=P) w src e b0 he bl o xs.length cp xs rfl hc d hd
  simp only[execOp,hv,hlen]
  simp only[Sem.run_bind,this]
  rfl
  have b2:xs=[]:=by simpa using b1
  subst b2
  refine⟨.string ⟨⟨[]⟩⟩,?_,rfl,Nat.zero_le _⟩
  simp only[execOp,hv]
  have:(convert src d (.slice (some ad) 0 0)).run P w=.ok (.string ByteArray.empty) w:=by
   rw[run_convert_bytes_string w src d e _ 0 0 b0 he hd]
   simp[Conv.bytesToString,loadCells]
   rfl
  simp only[Sem.run_bind,this]
  rfl
theorem cb.forget (kb off:Nat) {T:TypeId} {cs:List BV} (hk:lk s.own kb=some (.bb T cs)) (h:cb P E n ops o ⟨s.slots,ins kb (.bb T (cs.set off (.one .any))) s.own⟩ s2):cb P E n ops o s s2 :=
 fun a w hr=>h a w (hr.forget kb off hk)
end
end Go.Sk
namespace Go.Sk
open Go
theorem DB {α:Type} [Inhabited α] (l:List α) (i:Nat) (h:i<l.length):idx l (i:Int)=l[i]:=by
 simp[idx,List.getD,List.getElem?_eq_getElem h]
end Go.Sk
namespace Go.Sk
open Go Go.BigFrame
def eA (k:IntKind) (l:List Int):List CP:=l.map (.int k)
@[simp] theorem eA_len (k:IntKind) (l:List Int):(eA k l).length=l.length:=by simp[eA]
theorem DU {cs post:List CP} {l:List Int} {k:IntKind} {i z:Int} {m o:Nat} (pre:List CP) (h:aD l i=some z) (hm:pre.length=m) (hcs:cs=pre++(l.map (.int k)++post)) (ho:m+i.toNat*1=o):cs[o]?=some (.int k z):=by
 subst ho hm hcs
 have h0:=fE h
 have h1:=np h
 rw[List.getElem?_append_right (by omega),List.getElem?_append_left (by rw[List.length_map];omega)]
 have e:pre.length+i.toNat*1-pre.length=i.toNat:=by omega
 rw[e,List.getElem?_map,pg h]
 rfl
theorem Le {cs post:List CP} {l:List Int} {k:IntKind} {i z:Int} {m o:Nat} (pre:List CP) (h:aD l i=some z) (hm:pre.length=m) (hcs:cs=pre++(l.map (.int k)++post)) (ho:m+i.toNat*1=o):o<cs.length:=by
 subst ho hm hcs
 have h0:=fE h
 have h1:=np h
 rw[List.length_append,List.length_append,List.length_map]
 omega
theorem IN {cs cs' post:List CP} {l l':List Int} {k:IntKind} {i z x:Int} {m o:Nat} (pre:List CP) (h:aD l i=some z) (hm:pre.length=m) (hcs:cs=pre++(l.map (.int k)++post)) (hl:l'=l.set i.toNat x)
 (b0:cs'=pre++(l'.map (.int k)++post)) (ho:m+i.toNat*1=o):cs.set o (.int k x)=cs':=by
 subst ho hm hcs b0 hl
 have h0:=fE h
 have h1:=np h
 rw[List.set_append_right _ _ (by omega),List.set_append_left _ _ (by rw[List.length_map];omega)]
 have e:pre.length+i.toNat*1-pre.length=i.toNat:=by omega
 rw[e,List.map_set]
section
variable {P:Program} {t:TypeId}
def cw (P:Program) (d:Nat) (t:TypeId) (m:Nat) (ps qs:List CP) (r:Bool):Prop :=
 ∀ (h:PH) (w:World) (A B:Array Value) (off:Nat),aB h ps ((A.toList.drop off).take m)->aB h qs ((B.toList.drop off).take m)->ps.length=m->qs.length=m ->
  ∃ a b,(part t A off).run P w=.ok a w/\(part t B off).run P w=.ok b w/\(Op.equalIn d t a b).run P w=.ok r w
theorem jY (ht:c8 P t) {A:Array Value} {off:Nat} {v:Value} (hv:A[off]?=some v) (w:World):(part t A off).run P w=.ok v w:=by
 obtain⟨d,hd,ha⟩:=ht.und
 unfold part
 rw[Sem.run_bind,mO hd,Result.andThen,ha]
 simp[hv]
theorem jZ {m:Nat} (ht:gN P t m) {A:Array Value} {off:Nat} (w:World):(part t A off).run P w=.ok (.agg (A.extract off (off+m))) w:=by
 obtain⟨d,hd,ha⟩:=ht.und
 obtain⟨i,hi,hn⟩:=ht.size
 unfold part
 rw[Sem.run_bind,mO hd,Result.andThen,ha]
 simp[run_sizeOf hi,hn]
theorem y5 {h:PH} {p:CP} {A:Array Value} {off:Nat} (hr:aB h [p] ((A.toList.drop off).take 1)):∃ u,A[off]?=some u/\p.rel h u:=by
 obtain⟨u,hu,hp⟩:=hr.get 0 p rfl
 rw[List.getElem?_take] at hu
 simp at hu
 exact⟨u,hu,hp⟩
theorem cw.one {d:Nat} {p q:CP} {r:Bool} (ht:c8 P t) (b0:∀ (h:PH) (u v:Value) (w:World),p.rel h u->q.rel h v->(Op.equalIn d t u v).run P w=.ok r w):cw P d t 1 [p] [q] r:=by
 intro h w A B off ha hb _ _
 obtain⟨u,hu,hp⟩:=y5 ha
 obtain⟨v,hv,hq⟩:=y5 hb
 exact⟨u,v,jY ht hu w,jY ht hv w,b0 h u v w hp hq⟩
theorem cw.int {d:Nat} {k k':IntKind} {a b:Int} (h1:c8 P t) (hu:P.underlying t=some (.int k')):cw P (d+1) t 1 [.int k a] [.int k b] (decide (a=b)) :=
 .one h1 fun h u v w hp hq=>by rw[hp.1,hq.1,run_equalIn_int w d t k k' a b hu,wx]
theorem cw.str {d:Nat} {a b:Str} (h1:c8 P t) (hu:P.underlying t=some .string):cw P (d+1) t 1 [.str a] [.str b] (decide (a=b)) :=
 .one h1 fun h u v w hp hq=>by rw[hp.1,hq.1,run_equalIn_string w d t _ _ hu,zK]
theorem cw.bool {d:Nat} {a b:Bool} (h1:c8 P t) (hu:P.underlying t=some .bool):cw P (d+1) t 1 [.bool a] [.bool b] (a==b) :=
 .one h1 fun h u v w hp hq=>by rw[show u=.bool a from hp,show v=.bool b from hq,run_equalIn_bool' w d t a b hu]
def EqFs (P:Program) (d:Nat) (ps qs:List CP):List Field->List Bool->Prop
 | [],[]=>True
 | f::fs,r::rs=>f.name ≠ "_"/\(∃ m p' q',(ps.drop f.offset).take m=p'/\(qs.drop f.offset).take m=q'/\p'.length=m/\q'.length=m/\cw P d f.type m p' q' r)/\EqFs P d ps qs fs rs
 | _,_=>False
theorem Fj {d:Nat} {h:PH} {ps qs:List CP} {A B:Array Value} (hp:aB h ps A.toList) (hq:aB h qs B.toList) (w:World):∀ {fs:List Field} {rs:List Bool},EqFs P d ps qs fs rs->(Op.eqFields d A B fs).run P w=.ok (rs.all id) w
 | [],[],_=>rfl
 | [],_::_,h=>h.elim
 | _::_,[],h=>h.elim
 | f::fs,r::rs,⟨h1,⟨m,p',q',e1,e2,l1,l2,he⟩,h3⟩=>by
  have ih:=Fj hp hq w h3
  obtain⟨a,b,r1,r2,r3⟩:=he h w A B f.offset (by rw[← e1];exact aO.take (aO.drop hp _) _) (by rw[← e2];exact aO.take (aO.drop hq _) _) l1 l2
  unfold Op.eqFields
  rw[if_pos h1]
  rw[Sem.run_bind,r1,Result.andThen,Sem.run_bind,r2,Result.andThen,Sem.run_bind,r3,Result.andThen]
  cases r
  simp
  simpa using ih
theorem j7 {A:Array Value} {off m:Nat}:(A.extract off (off+m)).toList=(A.toList.drop off).take m:=by
 rw[Array.toList_extract]
 show (A.toList.drop off).take (off+m-off)=_
 rw[Nat.add_sub_cancel_left]
theorem cw.struct {d m:Nat} {ps qs:List CP} {fs:Array Field} {rs:List Bool} {r:Bool} (ta:gN P t m) (hh:P.stoodInHeld t=false) (hu:P.underlying t=some (.struct fs)) (hc:EqFs P d ps qs fs.toList rs) (hr:rs.all id=r):cw P (d+1) t m ps qs r:=by
 intro h w A B off ha hb l1 l2
 have hf:P.fieldsOf t=fs:=by simp[Program.fieldsOf,hu]
 refine⟨_,_,jZ ta w,jZ ta w,?_⟩
 rw[run_equalIn_struct w d t _ _ (by rw[hf];exact hu) hh,hf,Fj (by rw[j7];exact ha) (by rw[j7];exact hb) w hc,hr]
theorem zb {d k':Nat} {e:TypeId} {k ke:IntKind} {h:PH} {l l':List Int} {A B:Array Value} (h1:c8 P e) (hu:P.underlying e=some (.int ke)) (ha:aB h (l.map (.int k)) A.toList) (hb:aB h (l'.map (.int k)) B.toList) (hl:l.length=l'.length) (w:World) :
 ∀ (is:List Nat),(∀ i∈is,i<l.length)->(Op.eqItems (d+1) e 1 A B is).run P w=.ok (is.all fun i=>decide (l[i]?=l'[i]?)) w
 | [],_=>rfl
 | i::is,hi=>by
  have ih:=zb (d:=d) (k':=k') h1 hu ha hb hl w is (fun j hj=>hi j (by simp[hj]))
  have hi0:=hi i (by simp)
  obtain⟨u,hu1,hu2⟩:=ha.get i (.int k l[i]) (by rw[List.getElem?_map,List.getElem?_eq_getElem hi0];rfl)
  obtain⟨v,hv1,hv2⟩:=hb.get i (.int k (l'[i]'(by omega))) (by rw[List.getElem?_map,List.getElem?_eq_getElem (by omega)];rfl)
  have p1:=jY h1 (A:=A) (off:=i*1) (v:=u) (by rw[Nat.mul_one];simpa using hu1) w
  have p2:=jY h1 (A:=B) (off:=i*1) (v:=v) (by rw[Nat.mul_one];simpa using hv1) w
  have p3:(Op.equalIn (d+1) e u v).run P w=.ok (decide (l[i]=l'[i]'(by omega))) w:=by rw[hu2.1,hv2.1,run_equalIn_int w d e k ke _ _ hu,wx]
  unfold Op.eqItems
  rw[Sem.run_bind,p1,Result.andThen,Sem.run_bind,p2,Result.andThen,Sem.run_bind,p3,Result.andThen]
  have e0:decide (l[i]?=l'[i]?)=decide (l[i]=l'[i]'(by omega)):=by
   rw[List.getElem?_eq_getElem hi0,List.getElem?_eq_getElem (show i<l'.length by omega),Bool.eq_iff_iff];simp
  rw[List.all_cons,e0]
  cases decide (l[i]=l'[i]'(by omega))
  simp
  simpa using ih
theorem cw.arr {d m:Nat} {e:TypeId} {k ke:IntKind} {l l':List Int} (ta:gN P t m) (hu:P.underlying t=some (.array m e)) (he:c8 P e) (hue:P.underlying e=some (.int ke)):cw P (d+2) t m (l.map (.int k)) (l'.map (.int k)) (decide (l=l')):=by
 intro h w A B off ha hb l1 l2
 rw[List.length_map] at l1 l2
 obtain⟨i,hi,hs⟩:=he.size
 refine⟨_,_,jZ ta w,jZ ta w,?_⟩
 have hc:P.cellsOf e=1:=by simp[Program.cellsOf,hi,hs]
 rw[run_equalIn_array w (d+1) _ _ hu hi,hc,zb (k':=0) he hue (by rw[j7];exact ha) (by rw[j7];exact hb) (by omega) w _ (fun j hj=>by rw[l1];simpa using hj)]
 congr 1
 rw[Bool.eq_iff_iff]
 simp only[List.all_eq_true,List.mem_range,decide_eq_true_eq]
 refine⟨fun hh=>List.ext_getElem? fun j=>?_,fun e j _=>by rw[e]⟩
 by_cases hj:j<m
 exact hh j hj
 rw[List.getElem?_eq_none (by omega),List.getElem?_eq_none (by omega)]
theorem jh.vA {m:Nat} {ps qs:List CP} {r:Bool} (hg:P.eqGuardType P.depth t=false) (ta:gN P t m) (hp:cw P 10000 t m ps qs r) (l1:ps.length=m) (l2:qs.length=m):jh P t ps qs r :=
 ⟨hg,fun h cs ds w ha hb=>by
  have e1:cs.toList.length=m:=by rw[← l1];exact ha.length.symm
  have e2:ds.toList.length=m:=by rw[← l2];exact hb.length.symm
  obtain⟨a,b,p1,p2,p3⟩:=hp h w cs ds 0 (by rw[List.drop_zero,List.take_of_length_le (by omega)];exact ha) (by rw[List.drop_zero,List.take_of_length_le (by omega)];exact hb) l1 l2
  rw[jZ ta w] at p1 p2
  have x1:cs.extract 0 (0+m)=cs:=by
   apply Array.ext'
   rw[j7,List.drop_zero,List.take_of_length_le (by omega)]
  have x2:ds.extract 0 (0+m)=ds:=by
   apply Array.ext'
   rw[j7,List.drop_zero,List.take_of_length_le (by omega)]
  rw[x1] at p1
  rw[x2] at p2
  injection p1 with p1
  injection p2 with p2
  subst p1 p2
  exact p3⟩
theorem cw.cast {d m:Nat} {ps qs:List CP} {r r':Bool} (h:cw P d t m ps qs r) (e:r=r'):cw P d t m ps qs r':=e▸h
end
structure w3 (P:Program) (t:TypeId) (size:Nat) (zs:List CP):Prop where
 info:∃ it z m e ie,P.info? t=some it/\it.zero=some z/\Hn z.cells.toList=some zs/\P.underlying t=some (.array m e)/\P.info? e=some ie/\ie.size=size
section
variable {P:Program} {TB:aH} {E:Env TB} {n:Sh} {s s':St} {dst:Option Nat} {t ty yt:TypeId} {pos:String} {after:Array Edge} {g:Option (Nat×Bool)} {x y c:Operand} {ops:Array Oper} {l:List Oper} {Q:bH} {cd:Code} {o:Oper}
theorem CB {size:Nat} {zs qs:List CP} {parts:Array (Nat×Operand)} {cps:List (Nat×List CP)} (ht:w3 P t size zs) (hp:eV s parts.toList=some cps) (hf:iV (fun i=>some (i*size,size)) zs cps=some qs) :
 aR P E n ⟨dst,.build t parts,ty,pos,after,g⟩ s (s.put n dst (.b (.agg qs))) :=
 aR.val (o:=⟨dst,.build t parts,ty,pos,after,g⟩) fun ac w h ρ hw hs=>by
  obtain⟨it,z,m,e,ie,h1,h2,h3,h4,h5,h6⟩:=ht.info
  obtain⟨cs,hc1,hc2⟩:=py hs (fun i=>some (i*size,size)) parts.toList cps zs qs z.cells hp hf (oR h h3)
  refine⟨.agg cs,?_,cs,rfl,hc2⟩
  have hb:P.built t (parts.map fun (i,x)=>(i,ac.eval x)).toList=some cs:=by
   simp only[Program.built,h1,h4,h2,h5,h6]
   rw[← hc1]
   simp
  have:=run_build (P:=P) w t _ cs hb
  simp only[execOp]
  simp[this]
theorem FD {e:TypeId} {m k off:Nat} {kk:IntKind} {i:Int} {yo:Operand} (ht:lI P t e m 1) (h0:0<=i) (h1:i<m) (hx:s.ev x=some (.b (.ptr k off))) (hy:s.ev yo=some (.b (.one (.int kk i)))) :
 aR P E n ⟨dst,.slice t x (some yo) none none,ty,pos,after,g⟩ s (s.put n dst (.b (.Em k (off+i.toNat) (m-i.toNat) (m-i.toNat)))) :=
 aR.val (o:=⟨dst,.slice t x (some yo) none none,ty,pos,after,g⟩) fun ac w h ρ hw hs=>by
  obtain⟨b,hb,hv⟩:=(aE hs hx:BV.rel h ρ (.ptr k off) _)
  obtain⟨inf,hi,hsz⟩:=ht.info
  have e1:P.arrayLen t=m:=by simp[Program.arrayLen,ht.und]
  have e2:P.elem t=e:=by simp[Program.elem,ht.und]
  have hu:P.underlying t=some (.array (P.arrayLen t) (P.elem t)):=by rw[e1,e2];exact ht.und
  refine⟨.slice (some ⟨b,off+i.toNat,none⟩) (m-i.toNat) (m-i.toNat),?_,b,hb,rfl⟩
  simp only[execOp,hv,Option.map_none,Option.map_some,(bI hs hy).1]
  rw[Sem.run_bind,run_sliceAt_array_l w t _ hu kk i h0 (by rw[e1];omega),e2,run_sizeOf hi,Result.andThen,hsz]
  have hne:¬ m=i.toNat:=by omega
  simp[slicedAt,e1,gZ,hne]
theorem FF {e:TypeId} {m k off:Nat} {kk:IntKind} {i:Int} {yo:Operand} (ht:lI P t e m 1) (h0:0<=i) (h1:i<=m) (hx:s.ev x=some (.b (.ptr k off))) (hy:s.ev yo=some (.b (.one (.int kk i)))) :
 aR P E n ⟨dst,.slice t x none (some yo) none,ty,pos,after,g⟩ s (s.put n dst (.b (.Em k off i.toNat m))) :=
 aR.val (o:=⟨dst,.slice t x none (some yo) none,ty,pos,after,g⟩) fun ac w h ρ hw hs=>by
  obtain⟨b,hb,hv⟩:=(aE hs hx:BV.rel h ρ (.ptr k off) _)
  obtain⟨inf,hi,hsz⟩:=ht.info
  have e1:P.arrayLen t=m:=by simp[Program.arrayLen,ht.und]
  have e2:P.elem t=e:=by simp[Program.elem,ht.und]
  have hu:P.underlying t=some (.array (P.arrayLen t) (P.elem t)):=by rw[e1,e2];exact ht.und
  refine⟨.slice (some ⟨b,off,none⟩) i.toNat m,?_,b,hb,rfl⟩
  simp only[execOp,hv,Option.map_none,Option.map_some,(bI hs hy).1]
  rw[Sem.run_bind,run_sliceAt_array_h w t _ hu kk i h0 (by rw[e1];omega),e2,run_sizeOf hi,Result.andThen,hsz]
  simp[slicedAt,e1,gZ]
theorem E1 {e:TypeId} {m size k off len cap:Nat} (ht:lI P t e m size) (h1:m<=len) (hx:s.ev x=some (.b (.Em k off len cap))) :
 aR P E n ⟨dst,.sliceToArrayPointer t x,ty,pos,after,g⟩ s (s.put n dst (.b (.ptr k off))) :=
 aR.val (o:=⟨dst,.sliceToArrayPointer t x,ty,pos,after,g⟩) fun ac w h ρ hw hs=>by
  obtain⟨b,hb,hv⟩:=(aE hs hx:BV.rel h ρ (.Em k off len cap) _)
  refine⟨.pointer (some ⟨b,off,none⟩),?_,b,hb,rfl⟩
  simp only[execOp,hv]
  have hne:¬ len<m:=by omega
  simp[Instr.arrayAt,run_underlying ht.und,hne]
theorem aj.consA {α β:Type} (en:β->List CP) {a:β} {K:β->Option α} {r:α} (h:bA a K=some r) (hg:o.guard=none) (h1:aR P E n o s (s.put n o.dst (.b (.agg (en a)))))
 (H:∀ z,K z=some r->aj P E n ops l (s.put n o.dst (.b (.agg (en z)))) Q):aj P E n ops (o::l) s Q:=aj.cons hg h1 (H a h)
end
def iand (k:IntKind) (a b:Int):Int:=k.wrap ((BitVec.ofInt k.bits a &&& BitVec.ofInt k.bits b).toNat:Int)
def JJ (k:IntKind) (a b:Int):Int:=k.wrap ((BitVec.ofInt k.bits a ||| BitVec.ofInt k.bits b).toNat:Int)
def ixor (k:IntKind) (a b:Int):Int:=k.wrap ((BitVec.ofInt k.bits a ^^^ BitVec.ofInt k.bits b).toNat:Int)
def HC (k:IntKind) (a b:Int):Int:=k.wrap ((BitVec.ofInt k.bits a &&& ~~~BitVec.ofInt k.bits b).toNat:Int)
def Ev (k:IntKind) (a n:Int):Option Int:=if n<0 then none else some (k.wrap (a*2 ^ (min n.toNat k.bits)))
def zm (k:IntKind) (a n:Int):Option Int:=if n<0 then none else some (a/2 ^ (min n.toNat k.bits))
def BW {α:Type} (xs:List α) (i j:Int):Option (List α):=if 0<=i/\i<=j/\j<=xs.length then some ((xs.take j.toNat).drop i.toNat) else none
def ofStr (l:Str):List Int:=l.map fun c=>(c.toNat:Int)
theorem shl_ok {k:IntKind} {a n z:Int} (h:Ev k a n=some z):¬ n<0/\k.wrap (a*2 ^ (min n.toNat k.bits))=z:=by
 unfold Ev at h;split at h
 simp at h
 exact⟨by assumption,by simpa using h⟩
theorem shr_ok {k:IntKind} {a n z:Int} (h:zm k a n=some z):¬ n<0/\a/2 ^ (min n.toNat k.bits)=z:=by
 unfold zm at h;split at h
 simp at h
 exact⟨by assumption,by simpa using h⟩
theorem rB {α:Type} {xs z:List α} {i j:Int} (h:BW xs i j=some z):0<=i/\i<=j/\j<=xs.length/\(xs.take j.toNat).drop i.toNat=z:=by
 unfold BW at h;split at h
 next hh=>exact⟨hh.1,hh.2.1,hh.2.2,by simpa using h⟩
 simp at h
theorem shr_inR {k:IntKind} {a:Int} (m:Nat) (hra:mf k a):mf k (a/2 ^ m):=by
 have b0:(0:Int)<2 ^ m:=Int.pow_pos (by decide)
 unfold mf at hra ⊢
 have h5:k.min<=0:=by cases k<;>simp[IntKind.min,IntKind.signed,IntKind.bits]
 have h6:0<=k.max:=by cases k<;>simp[IntKind.max,IntKind.signed,IntKind.bits]
 by_cases h0:0<=a
 have h1:0<=a/2 ^ m:=Int.ediv_nonneg h0 (Int.le_of_lt b0)
 have h2:a/2 ^ m<=a:=Int.ediv_le_self _ h0
 omega
 have h1:a/2 ^ m<=0:=by
  have:=Int.ediv_neg_of_neg_of_pos (by omega:a<0) b0;omega
 have h2:a<=a/2 ^ m:=by
  refine (Int.le_ediv_iff_mul_le b0).2 ?_
  have h3:(1:Int)<=2 ^ m:=b0
  have h4:(-a)*1<=(-a)*2 ^ m:=Int.mul_le_mul_of_nonneg_left h3 (by omega)
  have e:(-a)*2 ^ m = -(a*2 ^ m):=Int.neg_mul _ _
  omega
 omega
section
variable {P:Program} {TB:aH} {E:Env TB} {n:Sh} {s s':St} {dst:Option Nat} {t ty yt:TypeId} {pos:String} {after:Array Edge} {g:Option (Nat×Bool)} {x y c:Operand} {k:IntKind} {a b:Int} {ops:Array Oper} {l:List Oper} {Q:bH} {cd:Code} {o:Oper}
theorem zQ {op:BinOp} {f:Int->Int->Int} (hf:∀ a b,mf k (f a b)) (hop:(do eqGuard op t x y (.int k a) (.int k b);binOp op t (.int k a) (.int k b):Sem Value)=(pure (.int k (f a b)):Sem Value)) (hx:s.ev x=some (.b (.one (.int k a)))) (hy:s.ev y=some (.b (.one (.int k b)))) :
 aR P E n ⟨dst,.binOp op t x y yt,ty,pos,after,g⟩ s (s.put n dst (.b (.one (.int k (f a b))))) :=
 aR.val (o:=⟨dst,.binOp op t x y yt,ty,pos,after,g⟩) fun ac w h ρ hw hs=>by
  refine⟨.int k (f a b),?_,rfl,hf _ _⟩
  simp only[execOp,(bI hs hx).1,(bI hs hy).1]
  rw[Sem.run_bind,hop];rfl
theorem op_and (hx:s.ev x=some (.b (.one (.int k a)))) (hy:s.ev y=some (.b (.one (.int k b)))):aR P E n ⟨dst,.binOp .and t x y yt,ty,pos,after,g⟩ s (s.put n dst (.b (.one (.int k (iand k a b))))) :=
 zQ (f:=iand k) (fun _ _=>lP _ _) (by simp[eqGuard,binOp,Op.intBits,iand]) hx hy
theorem op_or (hx:s.ev x=some (.b (.one (.int k a)))) (hy:s.ev y=some (.b (.one (.int k b)))):aR P E n ⟨dst,.binOp .or t x y yt,ty,pos,after,g⟩ s (s.put n dst (.b (.one (.int k (JJ k a b))))) :=
 zQ (f:=JJ k) (fun _ _=>lP _ _) (by simp[eqGuard,binOp,Op.intBits,JJ]) hx hy
theorem op_xor (hx:s.ev x=some (.b (.one (.int k a)))) (hy:s.ev y=some (.b (.one (.int k b)))):aR P E n ⟨dst,.binOp .xor t x y yt,ty,pos,after,g⟩ s (s.put n dst (.b (.one (.int k (ixor k a b))))) :=
 zQ (f:=ixor k) (fun _ _=>lP _ _) (by simp[eqGuard,binOp,Op.intBits,ixor]) hx hy
theorem op_andn (hx:s.ev x=some (.b (.one (.int k a)))) (hy:s.ev y=some (.b (.one (.int k b)))):aR P E n ⟨dst,.binOp .andNot t x y yt,ty,pos,after,g⟩ s (s.put n dst (.b (.one (.int k (HC k a b))))) :=
 zQ (f:=HC k) (fun _ _=>lP _ _) (by simp[eqGuard,binOp,Op.intBits,HC]) hx hy
theorem op_shl {k2:IntKind} {m z:Int} (h:Ev k a m=some z) (hx:s.ev x=some (.b (.one (.int k a)))) (hy:s.ev y=some (.b (.one (.int k2 m)))) :
 aR P E n ⟨dst,.binOp .shl t x y yt,ty,pos,after,g⟩ s (s.put n dst (.b (.one (.int k z)))) :=
 aR.val (o:=⟨dst,.binOp .shl t x y yt,ty,pos,after,g⟩) fun ac w h' ρ hw hs=>by
  obtain⟨h1,rfl⟩:=shl_ok h
  refine⟨_,?_,rfl,lP _ _⟩
  simp only[execOp,(bI hs hx).1,(bI hs hy).1]
  simp[eqGuard,binOp,Op.shift,h1]
theorem op_shr3 {k2:IntKind} {m z:Int} (h:zm k a m=some z) (hx:s.ev x=some (.b (.one (.int k a)))) (hy:s.ev y=some (.b (.one (.int k2 m)))) :
 aR P E n ⟨dst,.binOp .shr t x y yt,ty,pos,after,g⟩ s (s.put n dst (.b (.one (.int k z)))) :=
 aR.val (o:=⟨dst,.binOp .shr t x y yt,ty,pos,after,g⟩) fun ac w h' ρ hw hs=>by
  obtain⟨h1,rfl⟩:=shr_ok h
  refine⟨_,?_,rfl,shr_inR _ (bI hs hx).2⟩
  have hd:∀ q:Nat,a.fdiv (2 ^ q)=a/2 ^ q:=fun q=>Int.fdiv_eq_ediv_of_nonneg _ (Int.pow_nonneg (by decide))
  simp only[execOp,(bI hs hx).1,(bI hs hy).1]
  simp[eqGuard,binOp,Op.shift,h1,hd]
theorem oU {z:Str} {k1 k2:IntKind} {i j:Int} {lo hi:Operand} {r:Str} (ht:P.underlying t=some .string) (h:BW z i j=some r) (hx:s.ev x=some (.b (.one (.str z)))) (hl:s.ev lo=some (.b (.one (.int k1 i)))) (hh:s.ev hi=some (.b (.one (.int k2 j)))) :
 aR P E n ⟨dst,.slice t x (some lo) (some hi) none,ty,pos,after,g⟩ s (s.put n dst (.b (.one (.str r)))) :=
 aR.val (o:=⟨dst,.slice t x (some lo) (some hi) none,ty,pos,after,g⟩) fun ac w h' ρ hw hs=>by
  obtain⟨h0,h1,h2,rfl⟩:=rB h
  obtain⟨hv,hln⟩:=lL hs hx
  refine⟨.string ⟨⟨(z.take j.toNat).drop i.toNat⟩⟩,?_,rfl,by simp;omega⟩
  simp only[execOp,hv,Option.map_some,Option.map_none,(bI hs hl).1,(bI hs hh).1]
  rw[Sem.run_bind,run_sliceAt_string w t _ _ _ _ ht,run_slice_string (P:=P) (w:=w) t ⟨⟨z⟩⟩ k1 k2 i j ht h0 h1 (by simpa[ub] using h2)]
  show Result.ok _ w=Result.ok _ w
  congr 4
  have e:i.toNat+(j.toNat-i.toNat)=j.toNat:=by omega
  simp[ByteArray.extract,ByteArray.copySlice,List.take_drop,e]
theorem pG {z:Str} {k1:IntKind} {i:Int} {lo:Operand} {r:Str} (ht:P.underlying t=some .string) (h:p6 z i=some r) (hx:s.ev x=some (.b (.one (.str z)))) (hl:s.ev lo=some (.b (.one (.int k1 i)))) :
 aR P E n ⟨dst,.slice t x (some lo) none none,ty,pos,after,g⟩ s (s.put n dst (.b (.one (.str r)))) :=
 aR.val (o:=⟨dst,.slice t x (some lo) none none,ty,pos,after,g⟩) fun ac w h' ρ hw hs=>by
  obtain⟨h0,h1,rfl⟩:=IF h
  obtain⟨hv,hln⟩:=lL hs hx
  refine⟨.string ⟨⟨z.drop i.toNat⟩⟩,?_,rfl,by simp;omega⟩
  simp only[execOp,hv,Option.map_some,Option.map_none,(bI hs hl).1]
  rw[Sem.run_bind,run_sliceAt_string w t _ _ _ _ ht,run_slice_string_l (P:=P) (w:=w) (t:=t) (s:=⟨⟨z⟩⟩) ht k1 i h0 (by simpa[ub] using h1)]
  show Result.ok _ w=Result.ok _ w
  congr 4
  simp[ByteArray.extract,ByteArray.copySlice,ByteArray.size,List.take_of_length_le]
theorem BD {z:Str} {k1:IntKind} {i:Int} {hi:Operand} {r:Str} (ht:P.underlying t=some .string) (h:s6 z i=some r) (hx:s.ev x=some (.b (.one (.str z)))) (hl:s.ev hi=some (.b (.one (.int k1 i)))) :
 aR P E n ⟨dst,.slice t x none (some hi) none,ty,pos,after,g⟩ s (s.put n dst (.b (.one (.str r)))) :=
 aR.val (o:=⟨dst,.slice t x none (some hi) none,ty,pos,after,g⟩) fun ac w h' ρ hw hs=>by
  obtain⟨h0,h1,rfl⟩:=H0 h
  obtain⟨hv,hln⟩:=lL hs hx
  refine⟨.string ⟨⟨z.take i.toNat⟩⟩,?_,rfl,by simp;omega⟩
  simp only[execOp,hv,Option.map_some,Option.map_none,(bI hs hl).1]
  rw[Sem.run_bind,run_sliceAt_string w t _ _ _ _ ht,run_slice_string_h (P:=P) (w:=w) (t:=t) (s:=⟨⟨z⟩⟩) ht k1 i h0 (by simpa[ub] using h1)]
  show Result.ok _ w=Result.ok _ w
  congr 4
  simp[ByteArray.extract,ByteArray.copySlice]
theorem WR.newP {h:PH} {ρ:RM} {own:List (Nat×OC)} {w w':World} (hw:WR E n own h ρ w) (cs:List Value) (hold:∀ b,b<w.heap.size->w'.heap[b]?=w.heap[b]?) (hsz:w.heap.size<=w'.heap.size) (hos:w'.os=w.os) (b2:w'.output=w.output)
 (b3:∀ o v,cs[o]?=some v->w'.cell? ⟨w.heap.size,o,none⟩=some v) (c2:∀ v∈cs,v.oneCell'=true):h.le (dn h w.heap.size cs)/\WR E n own (dn h w.heap.size cs) ρ w':=by
 have b0:∀ o,h w.heap.size o=none:=fun o=>by
  cases e:h w.heap.size o with
  | none=>rfl
  | some u=>have:=iq (hw.agree _ o u e);omega
 have hle:h.le (dn h w.heap.size cs):=fun b o v hv=>by
  unfold dn
  split
  rename_i e;subst e;rw[b0 o] at hv;simp at hv
  exact hv
 refine⟨hle,?_,PH.le_trans hw.le hle,?_,by have:=hw.size;omega,?_,hw.fixed,hos.trans hw.os,b2.trans hw.out,hw.nl,?_⟩
 intro b o v hv
 unfold dn at hv
 split at hv
 rename_i e;subst e
 exact gr (b3 o v hv) (c2 v (List.mem_of_getElem? hv))
 have hc:=hw.agree b o v hv
 rw[mX (hold b (iq hc))];exact hc
 intro b hb hnl
 rw[← hw.fresh b hb hnl]
 funext o
 unfold dn
 rw[if_neg (by have:=hw.size;omega)]
 intro b hb hl
 rw[hold b (Nat.lt_of_lt_of_le hb hw.size)];exact hw.same b hb hl
 intro j c hj
 obtain⟨e1,e2,e3⟩:=hw.owned j c hj
 have b1:∀ i x,(i,x)∈own->∀ b,x.dK (ρ i) _ b->x.dK (ρ i) w b:=fun i x hi b=>OC.dK.congr fun b hb=>hold b ((hw.owned i x hi).1.lt (.inl hb))
 refine⟨(e1.congr fun b hb=>hold b (e1.lt hb)).mono hle,fun b hb=>⟨(e2 b (b1 j c hj b hb)).1,fun o=>?_⟩,fun i x hi hij b hb hb'=>e3 i x hi hij b (b1 j c hj b hb) (b1 i x hi b hb')⟩
 have:=e1.lt (b1 j c hj b hb)
 unfold dn
 rw[if_neg (by omega)]
 exact (e2 b (b1 j c hj b hb)).2 o
theorem IC:∀ (l:List Int),(l.map (eK k)).flatten=l.map (CP.int k)
 | []=>rfl
 | a::l=>by simp only[List.map_cons,List.flatten_cons,IC l,eK];rfl
theorem y3 {src d e:TypeId} {z:Str} (hs:P.underlying src=some .string) (hd:P.underlying d=some (.slice e)) (he:P.underlying e=some (.int .u8)) (hx:s.ev x=some (.b (.one (.str z)))) :
 aR P E n ⟨dst,.convert src d x,ty,pos,after,g⟩ s (s.put n dst (.b (.one (.sl 1 ((ofStr z).map (eK .u8)))))):=by
 intro a w ⟨hdf,hn,h,ρ,hw,hsl⟩ next Q b0
 obtain⟨hv,hl⟩:=lL hsl hx
 have b1:(execOp a.eval ⟨dst,.convert src d x,ty,pos,after,g⟩).run P w=.ok (.value (.slice (some ⟨w.heap.size,0,none⟩) z.length (grownCap w z.length 0 e))) (Lib.bytesWorld w e ⟨⟨z⟩⟩):=by
  simp only[execOp,hv]
  rw[Sem.run_bind,Lib.run_convert_string_bytes w src d e ⟨⟨z⟩⟩ hs hd he]
  rfl
 unfold Oper.wp
 rw[b1]
 obtain⟨hle,hwp⟩:=hw.newP (w':=Lib.bytesWorld w e ⟨⟨z⟩⟩) (z.map fun c=>Value.int .u8 c.toNat) (fun b hb=>Lib.bytesWorld_at_old w e _ b hb) (by rw[Lib.bytesWorld_size];omega) (by simp[Lib.bytesWorld,World.freeze,World.alloc,World.drew,-World.alloc_eq,-World.drew_eq]) (by simp[Lib.bytesWorld,World.freeze,World.alloc,World.drew,-World.alloc_eq,-World.drew_eq])
  (fun o v hv=>by
   rw[List.getElem?_map] at hv
   simp only[Option.map_eq_some_iff] at hv
   obtain⟨c,hc,rfl⟩:=hv
   have hlt:=(List.getElem?_eq_some_iff.1 hc).1
   rw[Lib.bytesWorld_cell w e ⟨⟨z⟩⟩ o hlt]
   simp[List.getD,hc]) (fun v hv=>by obtain⟨c,_,rfl⟩:=List.mem_map.1 hv;rfl)
 refine b0 _ _ (R.put (s:=s) hdf hn hwp (hsl.mono hle) ?_)
 have hlen:((ofStr z).map (eK .u8)).length=z.length:=by simp[ofStr]
 refine⟨fun ps hps=>?_,by decide,.inr (.inl ⟨w.heap.size,0,grownCap w z.length 0 e,by rw[hlen],by rw[hlen];exact grownCap_ge w _ _ _,grownCap_le_maxLen w _ _ _ hl,fun j c hc=>?_⟩)⟩
 obtain⟨q,_,rfl⟩:=List.mem_map.1 hps;rfl
 rw[IC] at hc
 simp only[ofStr,List.map_map,List.getElem?_map,Option.map_eq_some_iff] at hc
 obtain⟨b,hb,rfl⟩:=hc
 refine⟨.int .u8 b.toNat,by simp[dn,hb],rfl,?_⟩
 have:=b.toNat_lt
 simp[mf,IntKind.min,IntKind.max,IntKind.signed,IntKind.bits]
 omega
end
end Go.Sk
namespace Go.Sk
open Go Go.BigFrame
section
variable {P:Program} {TB:aH} {E:Env TB} {n:Sh} {s s' s2:St} {l:List Oper} {L:List Oper} {Q:bH} {o:Oper}
def J1 (L:List Oper) (i j:Nat):Bool:=match L[i]? with
 | some o=>o.after.toList.any fun e=>Region.binds .any e&&e.on==j
 | none=>false
theorem uy {L:List Oper} {i j:Nat} (h:J1 L i j=true):∃ o,L[i]?=some o/\∃ e,e∈o.after/\Region.binds .any e=true/\e.on=j:=by
 unfold J1 at h
 split at h
 next o ho=>
  simp only[List.any_eq_true,Bool.and_eq_true,beq_iff_eq] at h
  obtain⟨e,he,h1,h2⟩:=h
  exact⟨o,ho,e,by simpa using he,h1,h2⟩
 simp at h
theorem tJ:∀ (L:List Bool) (i:Nat) (hi:i<L.length),L[i]=false->((L.set i true).filter id).length=(L.filter id).length+1
 | [],i,hi,_=>by simp at hi
 | b::L,0,hi,hb=>by simp at hb;subst hb;simp
 | b::L,i+1,hi,hb=>by
  have:=tJ L i (by simpa using hi) (by simpa using hb)
  cases b<;>simp[this]
def Dg (L:List Oper) (listed:Array Bool):Prop:=∀ (i:Nat) (o:Oper),L[i]?=some o->listed.getD i false=true->∀ e∈o.after,Region.binds .any e=true->listed.getD e.on false=true
theorem anyG (Inv:Array Bool->Act->World->Prop) (hed:iX 0 L=true)
 (b3:∀ (listed:Array Bool) a w (i:Nat) (o:Oper),listed.size=L.length->Dg L listed->L[i]?=some o->listed.getD i false=false->(∀ e∈o.after,Region.binds .any e=true->listed.getD e.on false=true)->Inv listed a w ->
  ∀ K:Act->World->Prop,(∀ a' w',Inv (listed.setIfInBounds i true) a' w'->K a' w')->if Region.wanted o (yielded L.toArray a.tmps) then o.wp P a w K Q else K (a.put o.dst undef) w)
 (c2:∀ (listed:Array Bool) a w,listed.size=L.length->(∀ j,j<L.length->listed.getD j false=true)->Inv listed a w->Q .normal a w) :
 ∀ (fuel:Nat) (listed:Array Bool) (a:Act) (w:World),listed.size=L.length->Dg L listed->L.length<=fuel+(listed.toList.filter id).length->Inv listed a w->wpAny P .any L.toArray Q fuel listed a w:=by
 have b1:∀ (listed:Array Bool),listed.size=L.length->Region.ready .any L.toArray listed=[]->∀ j,j<L.length->listed.getD j false=true:=by
  intro listed b2 hr j hj
  induction j using Nat.strongRecOn with
  | _ j ih=>
   cases hb:listed.getD j false with
   | true=>rfl
   | false=>
    exfalso
    have hjr:j∈Region.ready .any L.toArray listed:=by
     rw[mem_ready]
     refine⟨?_,L[j],by simp[hj],fun e he hbd=>?_⟩
     have:j<listed.size:=by omega
     simp only[Array.getD_eq_getD_getElem?,Array.getElem?_eq_getElem this,Option.getD_some] at hb ⊢
     exact hb
     have:=r5 hed j L[j] (by simp) e he hbd
     exact ih e.on (by omega) (by omega)
    rw[hr] at hjr
    simp at hjr
 intro fuel
 induction fuel with
 | zero=>
  intro listed a w b2 e0 hf hR
  have c3:∀ j,j<L.length->listed.getD j false=true:=by
   intro j hj
   have hfl:(listed.toList.filter id).length=listed.toList.length:=by
    have:=List.length_filter_le id listed.toList
    simp at this ⊢;omega
   have c4:=List.filter_eq_self.1 (List.filter_sublist.eq_of_length hfl)
   have e1:j<listed.size:=by omega
   have:=c4 listed[j] (by simp)
   simp only[Array.getD_eq_getD_getElem?,Array.getElem?_eq_getElem e1,Option.getD_some]
   simpa using this
  have hr:Region.ready .any L.toArray listed=[]:=by
   apply List.eq_nil_iff_forall_not_mem.2
   intro j hj
   rw[mem_ready] at hj
   obtain⟨e2,o,ho,_⟩:=hj
   have hjl:j<L.length:=by simpa using (Array.getElem?_eq_some_iff.1 ho).1
   have e1:j<listed.size:=by omega
   have:=c3 j hjl
   simp only[Array.getD_eq_getD_getElem?,Array.getElem?_eq_getElem e1,Option.getD_some] at this e2
   rw[this] at e2;simp at e2
  exact⟨hr,c2 listed a w b2 c3 hR⟩
 | succ fuel ih=>
  intro listed a w b2 e0 hf hR
  refine⟨fun hr=>c2 listed a w b2 (b1 listed b2 hr) hR,fun i hi=>?_⟩
  rw[mem_ready] at hi
  obtain⟨hi1,o,ho,b0⟩:=hi
  have e3:L[i]?=some o:=by simpa using ho
  have hil:i<L.length:=(List.getElem?_eq_some_iff.1 e3).1
  have c7:i<listed.size:=by omega
  have c5:listed[i]=false:=by simpa[Array.getD_eq_getD_getElem?,Array.getElem?_eq_getElem c7] using hi1
  have hi2:listed.getD i false=false:=by simp[Array.getD_eq_getD_getElem?,Array.getElem?_eq_getElem c7,c5]
  have key:=b3 listed a w i o b2 e0 e3 hi2 b0 hR (wpAny P .any L.toArray Q fuel (listed.setIfInBounds i true)) (fun a' w' hR'=>by
   have c6:∀ q,listed.getD q false=true->(listed.setIfInBounds i true).getD q false=true:=fun q hq=>by
    by_cases e:q=i
    subst e;simp[Array.getD_eq_getD_getElem?,c7]
    rw[getD_set_ne false (fun h=>e h.symm)];exact hq
   refine ih _ a' w' (by simpa using b2) ?_ ?_ hR'
   intro j p hj hlj e he hb
   by_cases e':j=i
   subst e'
   rw[e3] at hj;cases hj
   exact c6 _ (b0 e he hb)
   rw[getD_set_ne false (fun h=>e' h.symm)] at hlj
   exact c6 _ (e0 j p hj hlj e he hb)
   have:=tJ listed.toList i (by simpa using c7) (by simpa using c5)
   rw[Array.toList_setIfInBounds]
   omega)
  unfold wpOp
  rw[ho]
  dsimp only
  split
  rename_i e4
  simp only[e4,if_true] at key
  exact .inl key
  rename_i e4
  simp only[e4] at key
  exact key
def kZ (l:List Oper) (j:Nat) (sl:List (Nat×SV)):List (Nat×SV):=sl.filter fun p=>(List.range l.length).all fun i=>((l[i]?).bind (·.dst)) != some p.1||i==j||J1 l i j
def hit (l:List Oper) (listed:Array Bool) (d:Nat):Bool:=(List.range l.length).any fun i=>listed.getD i false&&((l[i]?).bind (·.dst))==some d
def JI (s:St) (l:List Oper) (Fs:List SV) (listed:Array Bool):St:=⟨(s.slots.filter fun p=>!hit l listed p.1)++aZ (fun i=>listed.getD i false) 0 l Fs,s.own⟩
def rH (P:Program) {TB:aH} (E:Env TB) (n:Sh) (ops:Array Oper) (s:St) (l:List Oper) (Fs:List SV):Nat->List Oper->List SV->Prop
 | _,[],[]=>True
 | j,o::r,x::xs=>(∀ extra,cb P E n ops o ⟨fb l Fs o.after.toList++(kZ l j s.slots++extra),s.own⟩ (St.put n o.dst x ⟨fb l Fs o.after.toList++(kZ l j s.slots++extra),s.own⟩))/\rH P E n ops s l Fs (j+1) r xs
 | _,_,_=>False
theorem vE {ops:Array Oper} {Fs:List SV} {l0:List Oper}:∀ {r:List Oper} {xs:List SV} {j:Nat},rH P E n ops s l0 Fs j r xs->r.length=xs.length/\∀ (i:Nat) (o:Oper),r[i]?=some o->∃ x,xs[i]?=some x/\∀ extra,cb P E n ops o ⟨fb l0 Fs o.after.toList++(kZ l0 (j+i) s.slots++extra),s.own⟩ (St.put n o.dst x ⟨fb l0 Fs o.after.toList++(kZ l0 (j+i) s.slots++extra),s.own⟩)
 | [],[],j,_=>⟨rfl,fun i o h=>by simp at h⟩
 | o::r,x::xs,j,h=>by
  obtain⟨h1,h2⟩:=h
  obtain⟨h3,h4⟩:=vE h2
  refine⟨by simp[h3],fun i o' ho=>?_⟩
  cases i with
  | zero=>simp at ho;subst ho;exact⟨x,by simp,h1⟩
  | succ i=>
   obtain⟨y,hy,hz⟩:=h4 i o' (by simpa using ho)
   exact⟨y,by simpa using hy,by rw[← Nat.add_assoc,Nat.add_right_comm];exact hz⟩
 | [],_::_,j,h=>h.elim
 | _::_,[],j,h=>h.elim
def yP (P:Program) {TB:aH} (E:Env TB) (n:Sh) (ops:Array Oper):List Oper->St->St->Prop
 | [],s,s'=>s=s'
 | o::r,s,s'=>∃ s1,cb P E n ops o s s1/\yP P E n ops r s1 s'
def GI (L:List Oper) (q:Nat):Bool:=(List.range q).all fun j=>J1 L q j||(List.range q).any fun i=>decide (j<i)&&J1 L i j
def okX (l tl:List Oper) (m:Nat):Bool:=iX 0 (l++tl)&&gW (km l)&&(km l).all (·<m)&&(List.range tl.length).all fun k=>GI (l++tl) (l.length+k)
theorem covered {listed:Array Bool} {q:Nat} {o:Oper} (hcl:Dg L listed) (hq:L[q]?=some o) (hd:∀ e∈o.after,Region.binds .any e=true->listed.getD e.on false=true) (hc:GI L q=true):∀ j,j<q->listed.getD j false=true:=by
 simp only[GI,List.all_eq_true,List.mem_range,Bool.or_eq_true,List.any_eq_true,Bool.and_eq_true,decide_eq_true_eq] at hc
 have key:∀ m j,q-j=m->j<q->listed.getD j false=true:=by
  intro m
  induction m using Nat.strongRecOn with
  | _ m ihm=>
   intro j hm hj
   rcases hc j hj with h|⟨i,hi,hji,hp⟩
   obtain⟨o',b0,e,he,hb,b1⟩:=uy h
   rw[hq] at b0;cases b0
   have:=hd e he hb
   rwa [b1] at this
   obtain⟨o',b0,e,he,hb,b1⟩:=uy hp
   have h1:=ihm (q-i) (by omega) i rfl hi
   have:=hcl i o' b0 h1 e he hb
   rwa [b1] at this
 exact fun j hj=>key _ j rfl hj
def InvX (P:Program) {TB:aH} (E:Env TB) (n:Sh) (ops:Array Oper) (s:St) (l tl:List Oper) (Fs:List SV) (s2:St) (listed:Array Bool) (a:Act) (w:World):Prop :=
 ((∀ j,l.length<=j->listed.getD j false=false)/\R E n (JI s l Fs listed) a w) ∨
 ∃ k sk,k<tl.length/\(∀ j,j<=l.length+k->listed.getD j false=true)/\(∀ j,l.length+k<j->listed.getD j false=false)/\yP P E n ops (tl.drop (k+1)) sk s2/\R E n sk a w
theorem vv.X {ops:List Oper} (l tl:List Oper) (k5:l++tl=ops) (Fs:List SV) (ks kos:List Nat) (hok:okX l tl n.n=true) (hst:rH P E n ops.toArray s l Fs 0 l Fs)
 (htl:yP P E n ops.toArray tl ⟨(s.slots.filter fun p=>!(km l).contains p.1)++aZ (fun _=>true) 0 l Fs,s.own⟩ s2) (hs:s2.keep ks kos=s') (h:Fin E n .normal s' Q):vv P E n ops.toArray s Q:=by
 subst k5
 simp only[okX,Bool.and_eq_true,List.all_eq_true,List.mem_range] at hok
 obtain⟨⟨⟨c5,hnd⟩,hlt⟩,k6⟩:=hok
 obtain⟨hlen,c6⟩:=vE (Fs:=Fs) hst
 intro a w hr
 have e3:∀ {i:Nat} {o:Oper},(l++tl)[i]?=some o->i<l.length->l[i]?=some o:=fun h hi=>by rwa [List.getElem?_append_left hi] at h
 have hS0:∀ {listed:Array Bool} {a:Act} {w:World},(∀ j,j<l.length->listed.getD j false=true)->R E n (JI s l Fs listed) a w->R E n ⟨(s.slots.filter fun p=>!(km l).contains p.1)++aZ (fun _=>true) 0 l Fs,s.own⟩ a w:=by
  intro listed a w b0 hR
  obtain⟨h1,h2,h,ρ,hw,hs⟩:=hR
  refine⟨h1,h2,h,ρ,hw,fun k x hx=>hs k x ?_⟩
  simp only[JI,List.mem_append] at hx ⊢
  rcases hx with hx|hx
  left
  simp only[List.mem_filter,Bool.not_eq_true',List.contains_eq_mem,decide_eq_false_iff_not] at hx ⊢
  refine⟨hx.1,?_⟩
  cases hh:hit l listed k with
  | false=>rfl
  | true=>
   exfalso
   simp only[hit,List.any_eq_true,List.mem_range,Bool.and_eq_true,beq_iff_eq,Option.bind_eq_some_iff] at hh
   obtain⟨i,hi,_,o',e4,c2⟩:=hh
   exact hx.2 (ns e4 c2)
  right
  rw[bT] at hx ⊢
  obtain⟨j,oj,hj,hd,hF,_⟩:=hx
  exact⟨j,oj,hj,hd,hF,by rw[Nat.zero_add];exact b0 j (List.getElem?_eq_some_iff.1 hj).1⟩
 refine anyG (L:=l++tl) (InvX P E n (l++tl).toArray s l tl Fs s2) c5 ?_ ?_ _ _ _ _ (by simp) ?_ (by simp) (.inl ⟨fun j hj=>?_,?_⟩)
 
 intro listed a w i o hsz hcl k0 k1 c3 hInv K hK
 have hin:i<(l++tl).length:=(List.getElem?_eq_some_iff.1 k0).1
 have his:i<listed.size:=by omega
 have c7:∀ q,listed.getD q false=true->(listed.setIfInBounds i true).getD q false=true:=fun q hq=>by
  by_cases e:q=i
  subst e;simp[Array.getD_eq_getD_getElem?,his]
  rw[getD_set_ne false (fun h=>e h.symm)];exact hq
 have b1:(listed.setIfInBounds i true).getD i false=true:=by simp[Array.getD_eq_getD_getElem?,his]
 by_cases hi:i<l.length
 
 have e5:(∀ j,l.length<=j->listed.getD j false=false)/\R E n (JI s l Fs listed) a w:=by
  rcases hInv with h|⟨k,sk,hk,b2,_⟩
  exact h
  have:=b2 i (by omega);rw[k1] at this;simp at this
 obtain⟨b3,hR⟩:=e5
 have e6:=e3 k0 hi
 obtain⟨x,hx,c4⟩:=c6 i o e6
 rw[Nat.zero_add] at c4
 have e0:∀ p,p∈kZ l i s.slots->p∈s.slots/\hit l listed p.1=false:=by
  intro p hp
  simp only[kZ,List.mem_filter,List.all_eq_true,List.mem_range,Bool.or_eq_true,bne_iff_ne,beq_iff_eq] at hp
  refine⟨hp.1,?_⟩
  cases hh:hit l listed p.1 with
  | false=>rfl
  | true=>
   exfalso
   simp only[hit,List.any_eq_true,List.mem_range,Bool.and_eq_true,beq_iff_eq] at hh
   obtain⟨q,hq,e7,l1⟩:=hh
   rcases hp.2 q hq with (h|h)|h
   exact h l1
   subst h;rw[k1] at e7;simp at e7
   obtain⟨o',e4,e,he,hb,hon⟩:=uy h
   have:=hcl q o' (by rw[List.getElem?_append_left hq];exact e4) e7 e he hb
   rw[hon,k1] at this;simp at this
 have hR2:R E n ⟨fb l Fs o.after.toList++(kZ l i s.slots++((s.slots.filter fun p=>!hit l listed p.1)++aZ (fun i=>listed.getD i false) 0 l Fs)),s.own⟩ a w:=by
  obtain⟨h1,h2,h,ρ,hw,hs⟩:=hR
  refine⟨h1,h2,h,ρ,hw,fun k y hy=>hs k y ?_⟩
  rcases List.mem_append.1 hy with hy|hy
  obtain⟨e,he,hb,o',e4,c2,e8⟩:=rY hy
  refine List.mem_append.2 (.inr ?_)
  rw[bT]
  exact⟨e.on,o',e4,c2,e8,by rw[Nat.zero_add];exact c3 e (by simpa using he) hb⟩
  rcases List.mem_append.1 hy with hy|hy
  obtain⟨h1,h2⟩:=e0 _ hy
  exact List.mem_append.2 (.inl (List.mem_filter.2 ⟨h1,by simp[h2]⟩))
  exact hy
 refine c4 _ a w hR2 K Q (fun a' w' e9=>hK a' w' (.inl ⟨fun j hj=>?_,?_⟩))
 rw[getD_set_ne false (by omega)];exact b3 j hj
 obtain⟨h1,h2,h,ρ,hw,hs⟩:=e9
 have l2:∀ sl,(St.put n o.dst x ⟨sl,s.own⟩).own=s.own:=fun sl=>by
  cases hd:o.dst with
  | none=>rfl
  | some d=>simp only[St.put,St.set];split<;>rfl
 rw[l2] at hw
 refine⟨h1,h2,h,ρ,hw,fun k y hy=>?_⟩
 have hold:(k,y)∈(s.slots.filter fun p=>!hit l listed p.1)++aZ (fun i=>listed.getD i false) 0 l Fs->(∀ d,o.dst=some d->k≠d)->∃ v,a'.tmps[k]?=some v/\y.rel h ρ v:=by
  intro hm hkd
  refine hs k y ?_
  have l3:(k,y)∈fb l Fs o.after.toList++(kZ l i s.slots++((s.slots.filter fun p=>!hit l listed p.1)++aZ (fun i=>listed.getD i false) 0 l Fs)):=List.mem_append.2 (.inr (List.mem_append.2 (.inr hm)))
  cases hd:o.dst with
  | none=>simp only[St.put];exact l3
  | some d=>
   simp only[St.put,St.set]
   split
   exact List.mem_cons_of_mem _ (db l3 (hkd d hd))
   exact l3
 simp only[JI] at hy
 rcases List.mem_append.1 hy with hy|hy
 obtain⟨hy1,hy2⟩:=List.mem_filter.1 hy
 have j0:hit l (listed.setIfInBounds i true) k=false:=by simpa using hy2
 refine hold (List.mem_append.2 (.inl (List.mem_filter.2 ⟨hy1,?_⟩))) (fun d hd e=>?_)
 cases hh:hit l listed k with
 | false=>rfl
 | true=>
  exfalso
  simp only[hit,List.any_eq_true,List.mem_range,Bool.and_eq_true,beq_iff_eq] at hh
  obtain⟨q,hq,e7,l1⟩:=hh
  have:hit l (listed.setIfInBounds i true) k=true:=by
   simp only[hit,List.any_eq_true,List.mem_range,Bool.and_eq_true,beq_iff_eq]
   exact⟨q,hq,c7 q e7,l1⟩
  rw[j0] at this;simp at this
 subst e
 have:hit l (listed.setIfInBounds i true) k=true:=by
  simp only[hit,List.any_eq_true,List.mem_range,Bool.and_eq_true,beq_iff_eq]
  exact⟨i,hi,b1,by rw[e6];exact hd⟩
 rw[j0] at this;simp at this
 rw[bT] at hy
 obtain⟨j,oj,hj,c2,e8,l4⟩:=hy
 rw[Nat.zero_add] at l4
 by_cases l5:j=i
 subst l5
 rw[e6] at hj;cases hj
 rw[hx] at e8;cases e8
 refine hs k y ?_
 have hk:k<n.n:=by
  have:=hlt k (ns e6 c2)
  simpa using this
 simp only[c2,St.put,St.set,hk,if_true]
 exact List.mem_cons_self
 have hl2:listed.getD j false=true:=by
  rw[getD_set_ne false (fun e=>l5 e.symm)] at l4
  exact l4
 refine hold (List.mem_append.2 (.inr ?_)) (fun d hd e=>?_)
 rw[bT]
 exact⟨j,oj,hj,c2,e8,by rw[Nat.zero_add];exact hl2⟩
 subst e
 exact l5 (wW hnd hj e6 c2 hd)
 
 have o1:i-l.length<tl.length:=by simp only[List.length_append] at hin;omega
 have k3:=covered hcl k0 c3 (by have:=k6 (i-l.length) o1;rwa [show l.length+(i-l.length)=i by omega] at this)
 have e1:tl[i-l.length]?=some o:=by rwa [List.getElem?_append_right (by omega)] at k0
 rcases hInv with ⟨b3,hR⟩|⟨k,sk,hk,b2,b3,hT,hR⟩
 have ei:i=l.length:=by
  rcases Nat.lt_or_ge l.length i with h|h
  have:=k3 l.length h;rw[b3 _ (Nat.le_refl _)] at this;simp at this
  omega
 have k4:=hS0 (fun j hj=>k3 j (by omega)) hR
 rw[show i-l.length=0 by omega] at e1
 have h0:0<tl.length:=by omega
 have o3:tl.drop 0=o::tl.drop (0+1):=by
  rw[List.drop_eq_getElem_cons h0]
  congr 1
  rw[List.getElem?_eq_getElem h0] at e1
  simpa using e1
 have hT:yP P E n (l++tl).toArray (tl.drop 0) ⟨(s.slots.filter fun p=>!(km l).contains p.1)++aZ (fun _=>true) 0 l Fs,s.own⟩ s2:=by rw[List.drop_zero];exact htl
 rw[o3] at hT
 obtain⟨s1,o4,o7⟩:=hT
 refine o4 a w k4 K Q (fun a' w' e9=>hK a' w' (.inr ⟨0,s1,h0,fun j hj=>?_,fun j hj=>?_,o7,e9⟩))
 by_cases e:j=i
 subst e;exact b1
 exact c7 j (k3 j (by omega))
 rw[getD_set_ne false (by omega)];exact b3 j (by omega)
 have ei:i=l.length+(k+1):=by
  rcases Nat.lt_or_ge (l.length+(k+1)) i with h|h
  have:=k3 _ h;rw[b3 _ (by omega)] at this;simp at this
  rcases Nat.lt_or_ge i (l.length+(k+1)) with h'|h'
  have:=b2 i (by omega);rw[k1] at this;simp at this
  omega
 rw[show i-l.length=k+1 by omega] at e1
 have o3:tl.drop (k+1)=o::tl.drop (k+1+1):=by
  have j1:k+1<tl.length:=by omega
  rw[List.drop_eq_getElem_cons j1]
  congr 1
  rw[List.getElem?_eq_getElem j1] at e1
  simpa using e1
 rw[o3] at hT
 obtain⟨s1,o4,o7⟩:=hT
 refine o4 a w hR K Q (fun a' w' e9=>hK a' w' (.inr ⟨k+1,s1,by omega,fun j hj=>?_,fun j hj=>?_,o7,e9⟩))
 by_cases e:j=i
 subst e;exact b1
 exact c7 j (b2 j (by omega))
 rw[getD_set_ne false (by omega)];exact b3 j (by omega)
 
 intro listed a w hsz b0 hInv
 rcases hInv with ⟨b3,hR⟩|⟨k,sk,hk,b2,b3,hT,hR⟩
 have e:tl=[]:=by
  cases p0:tl with
  | nil=>rfl
  | cons o0 r=>
   have:=b0 l.length (by rw[p0];simp)
   rw[b3 _ (Nat.le_refl _)] at this;simp at this
 subst e
 have k4:=hS0 (fun j hj=>b0 j (by simpa using hj)) hR
 have e2:_=s2:=htl
 rw[e2] at k4
 exact h a w (hs▸k4.keep ks kos)
 have e:k+1=tl.length:=by
  rcases Nat.lt_or_ge (k+1) tl.length with h'|h'
  have:=b0 (l.length+(k+1)) (by simp only[List.length_append];omega)
  rw[b3 _ (by omega)] at this;simp at this
  omega
 rw[e,List.drop_length] at hT
 have e2:sk=s2:=hT
 subst e2
 exact h a w (hs▸hR.keep ks kos)
 intro i p hi hl
 exfalso
 simp only[Array.getD_eq_getD_getElem?,Array.getElem?_replicate] at hl
 split at hl<;>simp at hl
 simp only[Array.getD_eq_getD_getElem?,Array.getElem?_replicate]
 split<;>simp
 obtain⟨h1,h2,h,ρ,hw,hsl⟩:=hr.drawn
 refine⟨h1,h2,h,ρ,hw,fun k x hx=>hsl k x ?_⟩
 simp only[JI] at hx
 rcases List.mem_append.1 hx with hx|hx
 exact (List.mem_filter.1 hx).1
 rw[bT] at hx
 obtain⟨j,o,hj,_,_,hl⟩:=hx
 simp only[Nat.zero_add,Array.getD_eq_getD_getElem?,Array.getElem?_replicate] at hl
 split at hl<;>simp at hl
theorem ah.LF {rid:Nat} {ops:List Oper} (hm:P.follows .mixedOrders=true) (l tl:List Oper) (b0:l++tl=ops) (Fs:List SV) (ks kos:List Nat) (hok:okX l tl n.n=true) (hst:rH P E n ops.toArray s l Fs 0 l Fs)
 (htl:yP P E n ops.toArray tl ⟨(s.slots.filter fun p=>!(km l).contains p.1)++aZ (fun _=>true) 0 l Fs,s.own⟩ s2) (hs:s2.keep ks kos=s') (h:Fin E n .normal s' Q):ah P E n (.region rid ops.toArray true) s Q:=ah.ofA hm (vv.X l tl b0 Fs ks kos hok hst htl hs h)
theorem ah.EZ {rid:Nat} {ops:List Oper} (hm:P.follows .mixedOrders=true) (m:Nat) (Fs:List SV) (ks kos:List Nat) (hok:okX (ops.take m) (ops.drop m) n.n=true) (hst:rH P E n ops.toArray s (ops.take m) Fs 0 (ops.take m) Fs)
 (htl:yP P E n ops.toArray (ops.drop m) ⟨(s.slots.filter fun p=>!(km (ops.take m)).contains p.1)++aZ (fun _=>true) 0 (ops.take m) Fs,s.own⟩ s2) (hs:s2.keep ks kos=s') (h:Fin E n .normal s' Q):ah P E n (.region rid ops.toArray true) s Q :=
 ah.LF hm _ _ (List.take_append_drop m ops) Fs ks kos hok hst htl hs h
theorem ah.oN {rid:Nat} {ops:List Oper} {y:Code} (hm:P.follows .mixedOrders=true) (m:Nat) (Fs:List SV) (ks kos:List Nat) (hok:okX (ops.take m) (ops.drop m) n.n=true) (hst:rH P E n ops.toArray s (ops.take m) Fs 0 (ops.take m) Fs)
 (htl:yP P E n ops.toArray (ops.drop m) ⟨(s.slots.filter fun p=>!(km (ops.take m)).contains p.1)++aZ (fun _=>true) 0 (ops.take m) Fs,s.own⟩ s2) (hs:s2.keep ks kos=s') (h:ah P E n y s' Q):ah P E n (.region rid ops.toArray true) s (Exit.then (y.wp P Q) Q) :=
 ah.EZ hm m Fs ks kos hok hst htl hs (Fin.then h)
end
end Go.Sk
namespace Go.Sk
open Go Go.BigFrame Go.RowKit
section
variable {P:Program} {TB:aH} {E:Env TB} {n:Sh} {s s' s0 s2:St} {dst:Option Nat} {t ty yt:TypeId} {pos:String} {after:Array Edge} {g:Option (Nat×Bool)} {x y c:Operand} {ops:Array Oper} {o:Oper}
theorem cb.ko (i k size:Nat) (T:TypeId) (hi:s.get i=some (.b (.one .nil))) (hz:0<size) (hfx:n.fix.contains k=false) (h:cb P E n ops o ⟨(i,.b (.row k))::del i (cu k s.slots),ins k (.row T size []) s.own⟩ s2) (hnu:dy k s.own=true:=by rfl):cb P E n ops o s s2 :=
 fun a w hr=>h a w (hr.ko hi hz hfx hnu)
theorem cb.cH (i size:Nat) (hi:s.get i=some (.b (.one .nil))) (hz:0<size) (h:cb P E n ops o ⟨(i,.b (.one (.sl size [])))::del i s.slots,s.own⟩ s2):cb P E n ops o s s2 :=
 fun a w hr=>h a w (hr.cH hi hz)
theorem cb.im (k:Nat) {size:Nat} {T:TypeId} {es:List (List CP)} (hk:lk s.own k=some (.row T size es)) (h:cb P E n ops o ⟨qW k (.sl size es) s.slots,pb k (.sl size es) (del k s.own)⟩ s2):cb P E n ops o s s2:=fun a w hr=>h a w (hr.im hk)
theorem cb.JH (k:Nat) {T:TypeId} {ps:List CP} (hk:lk s.own k=some (.box T ps)) (h:cb P E n ops o ⟨s.slots,ins k (.bb T (ps.map .one)) s.own⟩ s2):cb P E n ops o s s2:=fun a w hr=>h a w (hr.JH k hk)
theorem cb.Hk (k:Nat) {T:TypeId} {cs:List BV} {ps:List CP} (hk:lk s.own k=some (.bb T cs)) (ho:vu cs=some ps) (h:cb P E n ops o ⟨s.slots,ins k (.box T ps) s.own⟩ s2):cb P E n ops o s s2:=fun a w hr=>h a w (hr.Hk k hk ho)
theorem cb.IP (kos:List Nat) {s1:St} (h:cb P E n ops o s s1) (e:(⟨s1.slots,ss kos s1.own⟩:St)=s2):cb P E n ops o s s2:=fun a w hr K Q hk=>h a w hr K Q fun a' w' hr'=>hk a' w' (by
 rw[← e]
 obtain⟨hd,hn,h,ρ,hw,hs⟩:=hr'
 exact⟨hd,hn,h,ρ,hw.sub fun _ hp=>mR hp,hs⟩)
theorem R.toF {a:Act} {w:World} (hr:R E n s a w) (k:Nat) {T:TypeId} {size:Nat} {es:List (List CP)} (hk:lk s.own k=some (.row T size es)):R E n ⟨s.slots,ins k (.oM T size es) s.own⟩ a w:=by
 obtain⟨hd,hn,h,ρ,hw,hs⟩:=hr
 exact⟨hd,hn,h,ρ,hw.JS hk (hw.owned k _ (bj hk)).1,hs⟩
theorem R.unF {a:Act} {w:World} (hr:R E n s a w) (k:Nat) {T:TypeId} {size:Nat} {es:List (List CP)} (hk:lk s.own k=some (.oM T size es)):R E n ⟨s.slots,ins k (.row T size es) s.own⟩ a w:=by
 obtain⟨hd,hn,h,ρ,hw,hs⟩:=hr
 exact⟨hd,hn,h,ρ,hw.JS hk (hw.owned k _ (bj hk)).1,hs⟩
theorem aj.toF {l:List Oper} {Q:bH} (k:Nat) {T:TypeId} {size:Nat} {es:List (List CP)} (hk:lk s.own k=some (.row T size es)) (h:aj P E n ops l ⟨s.slots,ins k (.oM T size es) s.own⟩ Q):aj P E n ops l s Q:=fun a w hr=>h a w (hr.toF k hk)
theorem aj.unF {l:List Oper} {Q:bH} (k:Nat) {T:TypeId} {size:Nat} {es:List (List CP)} (hk:lk s.own k=some (.oM T size es)) (h:aj P E n ops l ⟨s.slots,ins k (.row T size es) s.own⟩ Q):aj P E n ops l s Q:=fun a w hr=>h a w (hr.unF k hk)
theorem ah.unF {cd:Code} {Q:bH} (k:Nat) {T:TypeId} {size:Nat} {es:List (List CP)} (hk:lk s.own k=some (.oM T size es)) (h:ah P E n cd ⟨s.slots,ins k (.row T size es) s.own⟩ Q):ah P E n cd s Q:=fun a w hr=>h a w (hr.unF k hk)
theorem ah.toF {cd:Code} {Q:bH} (k:Nat) {T:TypeId} {size:Nat} {es:List (List CP)} (hk:lk s.own k=some (.row T size es)) (h:ah P E n cd ⟨s.slots,ins k (.oM T size es) s.own⟩ Q):ah P E n cd s Q:=fun a w hr=>h a w (hr.toF k hk)
theorem Fin.toF {e:Exit} {Q:bH} (k:Nat) {T:TypeId} {size:Nat} {es:List (List CP)} (hk:lk s.own k=some (.row T size es)) (h:Fin E n e ⟨s.slots,ins k (.oM T size es) s.own⟩ Q):Fin E n e s Q:=fun a w hr=>h a w (hr.toF k hk)
theorem Fin.unF {e:Exit} {Q:bH} (k:Nat) {T:TypeId} {size:Nat} {es:List (List CP)} (hk:lk s.own k=some (.oM T size es)) (h:Fin E n e ⟨s.slots,ins k (.row T size es) s.own⟩ Q):Fin E n e s Q:=fun a w hr=>h a w (hr.unF k hk)
theorem cb.toF (k:Nat) {T:TypeId} {size:Nat} {es:List (List CP)} (hk:lk s.own k=some (.row T size es)) (h:cb P E n ops o ⟨s.slots,ins k (.oM T size es) s.own⟩ s2):cb P E n ops o s s2:=fun a w hr=>h a w (hr.toF k hk)
theorem cb.unF (k:Nat) {T:TypeId} {size:Nat} {es:List (List CP)} (hk:lk s.own k=some (.oM T size es)) (h:cb P E n ops o ⟨s.slots,ins k (.row T size es) s.own⟩ s2):cb P E n ops o s s2:=fun a w hr=>h a w (hr.unF k hk)
end
theorem aI.lib {P:Program} {TB:aH} {f:FuncId} {args:List BV} {res:BV}
 (H:∀ (w:World) (h:PH) (ρ:RM) (vals:List Value),cC TB h w->pc h w->aO (fun (x:BV) v=>x.rel h ρ v) args vals->Calls P f vals.toArray w fun e w'=>∃ v,e=.returned v/\Below w.heap.size w w'/\res.rel h ρ v):aI P TB f [] args (Is [] (.b res)):=by
 intro w h ρ vals tb hag hl ha
 refine (H w h ρ vals tb hag ha).mono ?_
 rintro e w' ⟨v,rfl,hb,hr⟩
 refine⟨v,[],.b res,h,ρ,rfl,⟨rfl,rfl⟩,⟨fun b o u hu=>?_,PH.le_refl _,fun _ _ _=>rfl,hb.size,fun b b0 _=>hb.block b b0,fun k hk=>by simp[aq] at hk,hb.os,hb.output,fun b b0=>?_,fun k c hk=>by simp at hk⟩,hr⟩
 have hc:=hag b o u hu
 have hlt:b<w.heap.size:=iq hc
 rw[mX (hb.block b hlt)];exact hc
 obtain⟨k,hk,_⟩:=b0
 simp[ai] at hk
theorem Ft {r:BV->Value->Prop} {a:BV} {vals:List Value} (h:aO r [a] vals):∃ v,vals=[v]/\r a v:=by
 cases h with
 | cons h1 h2=>cases h2;exact⟨_,rfl,h1⟩
theorem tu {r:BV->Value->Prop} {a b:BV} {vals:List Value} (h:aO r [a,b] vals):∃ v u,vals=[v,u]/\r a v/\r b u:=by
 cases h with
 | cons h1 h2=>
  obtain⟨u,rfl,hu⟩:=Ft h2
  exact⟨_,u,rfl,h1,hu⟩
section
variable {P:Program} {TB:aH} {E:Env TB} {n:Sh} {s:St} {dst:Option Nat} {t ty yt:TypeId} {pos:String} {after:Array Edge} {g:Option (Nat×Bool)} {x y c:Operand}
theorem Dl {h:PH} {size:Nat} {es fs:List (List CP)} {a:Option Addr} {b o c lo len cap:Nat} (hz:0<size) (hu:ca size es) (hr:Reads h b o es.flatten) (hc:es.length<=c) (hm:c<=maxLen) (b0:fs=(es.take (lo+len)).drop lo) (hl:lo+len<=es.length) (b1:cap=c-lo) (ha:a=if c=lo then some ⟨b,o,none⟩ else some ⟨b,o+lo*size,none⟩) :
 (CP.sl size fs).rel h (.slice a len cap):=by
 have hfl:fs.length=len:=by rw[b0];simp;omega
 have huf:ca size fs:=fun ps hp=>hu ps (by rw[b0] at hp;exact List.mem_of_mem_take (List.mem_of_mem_drop hp))
 refine⟨huf,hz,?_⟩
 subst ha b1
 by_cases e:c=lo
 rw[if_pos e]
 have h0:len=0:=by omega
 have hn:fs=[]:=List.eq_nil_of_length_eq_zero (by omega)
 exact .inr (.inl ⟨b,o,c-lo,by rw[hfl],by omega,by omega,fun j q hq=>by rw[hn] at hq;simp at hq⟩)
 rw[if_neg e]
 refine .inr (.inl ⟨b,o+lo*size,c-lo,by rw[hfl],by omega,by omega,?_⟩)
 have:fs.flatten=(es.flatten.drop (lo*size)).take (len*size):=by
  rw[b0,xn (fun ps hp=>hu ps (List.mem_of_mem_take hp)),w7 hu,List.drop_take]
  congr 1
  rw[Nat.add_mul];omega
 rw[this]
 intro j q hq
 rw[List.getElem?_take] at hq
 split at hq
 exact hr.drop (lo*size) j q hq
 simp at hq
theorem FB {α:Type} {xs z:List α} {enc:α->List CP} {size bytes:Nat} {e:TypeId} {zs:List CP} {yo:Operand} {kk:IntKind} {i:Int} (ht:lD P t e size bytes zs) (h:p6 xs i=some z) (hx:s.ev x=some (.b (.one (.sl size (xs.map enc))))) (hy:s.ev yo=some (.b (.one (.int kk i)))) :
 aR P E n ⟨dst,.slice t x (some yo) none none,ty,pos,after,g⟩ s (s.put n dst (.b (.one (.sl size (z.map enc))))) :=
 aR.val (o:=⟨dst,.slice t x (some yo) none none,ty,pos,after,g⟩) fun ac w hh ρ hw hs=>by
  obtain⟨h0,h1,rfl⟩:=IF h
  obtain⟨hu,hz,hv⟩:=(aE hs hx:(CP.sl size (xs.map enc)).rel hh _)
  obtain⟨inf,zz,hi,b2,_⟩:=ht.info
  have b1:P.elem t=e:=by simp[Program.elem,ht.und]
  have b0:P.underlying t=some (.slice (P.elem t)):=by rw[b1];exact ht.und
  rcases hv with ⟨hv,he⟩|⟨b,o,c,hv,h3,h4,h5⟩|⟨ad,hv,he⟩
  have b3:xs=[]:=by simpa using he
  subst b3
  have c2:i=0:=by simp at h1;omega
  subst c2
  have hb:=run_slice_l (P:=P) (w:=w) (t:=t) (a:=none) (len:=0) (cap:=0) b0 kk 0 (by decide) (by decide)
  refine⟨sliced none (Int.toNat 0) 0 0 size,?_,?_⟩
  simp only[execOp,hv,Option.map_some,Option.map_none,(bI hs hy).1]
  rw[Sem.run_bind,run_sliceAt_slice w t _ _ _ _ b0,hb,run_sizeOf (i:=inf) (by rw[b1];exact hi),b2]
  rfl
  exact⟨fun ps c3=>by simp at c3,hz,.inl ⟨by simp[sliced],by simp⟩⟩
  have hlen:(xs.map enc).length=xs.length:=by simp
  have hb:=run_slice_l (P:=P) (w:=w) (t:=t) (a:=some ⟨b,o,none⟩) (len:=(xs.map enc).length) (cap:=c) b0 kk i h0 (by rw[hlen];exact h1)
  refine⟨sliced (some ⟨b,o,none⟩) i.toNat (xs.map enc).length c size,?_,?_⟩
  simp only[execOp,hv,Option.map_some,Option.map_none,(bI hs hy).1]
  rw[Sem.run_bind,run_sliceAt_slice w t _ _ _ _ b0,hb,run_sizeOf (i:=inf) (by rw[b1];exact hi),b2]
  rfl
  unfold sliced
  refine Dl (lo:=i.toNat) hz hu h5 h3 h4 ?_ (by rw[hlen];omega) rfl (by split<;>simp[gZ])
  have:i.toNat+((xs.map enc).length-i.toNat)=(xs.map enc).length:=by rw[hlen];omega
  rw[this,List.take_length,List.map_drop]
  have b3:xs=[]:=by simpa using he
  subst b3
  have c2:i=0:=by simp at h1;omega
  subst c2
  have hb:=run_slice_l (P:=P) (w:=w) (t:=t) (a:=some ad) (len:=0) (cap:=0) b0 kk 0 (by decide) (by decide)
  refine⟨sliced (some ad) (Int.toNat 0) 0 0 size,?_,?_⟩
  simp only[execOp,hv,Option.map_some,Option.map_none,(bI hs hy).1]
  rw[Sem.run_bind,run_sliceAt_slice w t _ _ _ _ b0,hb,run_sizeOf (i:=inf) (by rw[b1];exact hi),b2]
  rfl
  exact⟨fun ps c3=>by simp at c3,hz,.inr (.inr ⟨ad,by simp[sliced],by simp⟩)⟩
theorem FC {α:Type} {xs z:List α} {enc:α->List CP} {size bytes:Nat} {e:TypeId} {zs:List CP} {yo:Operand} {kk:IntKind} {i:Int} (ht:lD P t e size bytes zs) (h:s6 xs i=some z) (hx:s.ev x=some (.b (.one (.sl size (xs.map enc))))) (hy:s.ev yo=some (.b (.one (.int kk i)))) :
 aR P E n ⟨dst,.slice t x none (some yo) none,ty,pos,after,g⟩ s (s.put n dst (.b (.one (.sl size (z.map enc))))) :=
 aR.val (o:=⟨dst,.slice t x none (some yo) none,ty,pos,after,g⟩) fun ac w hh ρ hw hs=>by
  obtain⟨h0,h1,rfl⟩:=H0 h
  obtain⟨hu,hz,hv⟩:=(aE hs hx:(CP.sl size (xs.map enc)).rel hh _)
  obtain⟨inf,zz,hi,b2,_⟩:=ht.info
  have b1:P.elem t=e:=by simp[Program.elem,ht.und]
  have b0:P.underlying t=some (.slice (P.elem t)):=by rw[b1];exact ht.und
  rcases hv with ⟨hv,he⟩|⟨b,o,c,hv,h3,h4,h5⟩|⟨ad,hv,he⟩
  have b3:xs=[]:=by simpa using he
  subst b3
  have c2:i=0:=by simp at h1;omega
  subst c2
  have hb:=run_slice_h (P:=P) (w:=w) (t:=t) (a:=none) (len:=0) (cap:=0) b0 kk 0 (by decide) (by decide)
  refine⟨sliced none 0 (Int.toNat 0) 0 size,?_,?_⟩
  simp only[execOp,hv,Option.map_some,Option.map_none,(bI hs hy).1]
  rw[Sem.run_bind,run_sliceAt_slice w t _ _ _ _ b0,hb,run_sizeOf (i:=inf) (by rw[b1];exact hi),b2]
  rfl
  exact⟨fun ps c3=>by simp at c3,hz,.inl ⟨by simp[sliced],by simp⟩⟩
  have hlen:(xs.map enc).length=xs.length:=by simp
  have hb:=run_slice_h (P:=P) (w:=w) (t:=t) (a:=some ⟨b,o,none⟩) (len:=(xs.map enc).length) (cap:=c) b0 kk i h0 (by rw[hlen] at h3;omega)
  refine⟨sliced (some ⟨b,o,none⟩) 0 i.toNat c size,?_,?_⟩
  simp only[execOp,hv,Option.map_some,Option.map_none,(bI hs hy).1]
  rw[Sem.run_bind,run_sliceAt_slice w t _ _ _ _ b0,hb,run_sizeOf (i:=inf) (by rw[b1];exact hi),b2]
  rfl
  unfold sliced
  refine Dl (lo:=0) hz hu h5 h3 h4 ?_ (by rw[hlen];omega) rfl (by split<;>simp[gZ])
  simp[List.map_take]
  have b3:xs=[]:=by simpa using he
  subst b3
  have c2:i=0:=by simp at h1;omega
  subst c2
  have hb:=run_slice_h (P:=P) (w:=w) (t:=t) (a:=some ad) (len:=0) (cap:=0) b0 kk 0 (by decide) (by decide)
  refine⟨sliced (some ad) 0 (Int.toNat 0) 0 size,?_,?_⟩
  simp only[execOp,hv,Option.map_some,Option.map_none,(bI hs hy).1]
  rw[Sem.run_bind,run_sliceAt_slice w t _ _ _ _ b0,hb,run_sizeOf (i:=inf) (by rw[b1];exact hi),b2]
  rfl
  exact⟨fun ps c3=>by simp at c3,hz,.inr (.inr ⟨ad,by simp[sliced],by simp⟩)⟩
theorem GW {α:Type} {xs z:List α} {enc:α->List CP} {size bytes:Nat} {e:TypeId} {zs:List CP} {yl yo:Operand} {k1 k2:IntKind} {i j:Int} (ht:lD P t e size bytes zs) (h:BW xs i j=some z) (hx:s.ev x=some (.b (.one (.sl size (xs.map enc))))) (hl:s.ev yl=some (.b (.one (.int k1 i)))) (hy:s.ev yo=some (.b (.one (.int k2 j)))) :
 aR P E n ⟨dst,.slice t x (some yl) (some yo) none,ty,pos,after,g⟩ s (s.put n dst (.b (.one (.sl size (z.map enc))))) :=
 aR.val (o:=⟨dst,.slice t x (some yl) (some yo) none,ty,pos,after,g⟩) fun ac w hh ρ hw hs=>by
  obtain⟨h0,h01,h1,rfl⟩:=rB h
  obtain⟨hu,hz,hv⟩:=(aE hs hx:(CP.sl size (xs.map enc)).rel hh _)
  obtain⟨inf,zz,hi,b2,_⟩:=ht.info
  have b1:P.elem t=e:=by simp[Program.elem,ht.und]
  have b0:P.underlying t=some (.slice (P.elem t)):=by rw[b1];exact ht.und
  rcases hv with ⟨hv,he⟩|⟨b,o,c,hv,h3,h4,h5⟩|⟨ad,hv,he⟩
  have b3:xs=[]:=by simpa using he
  subst b3
  have c2:j=0:=by simp at h1;omega
  have c3:i=0:=by omega
  subst c3 c2
  have hb:=run_slice_lh (P:=P) (w:=w) (t:=t) (a:=none) (len:=0) (cap:=0) b0 k1 k2 0 0 (by decide) (by decide) (by decide)
  refine⟨sliced none (Int.toNat 0) (Int.toNat 0) 0 size,?_,?_⟩
  simp only[execOp,hv,Option.map_some,Option.map_none,(bI hs hy).1,(bI hs hl).1]
  rw[Sem.run_bind,run_sliceAt_slice w t _ _ _ _ b0,hb,run_sizeOf (i:=inf) (by rw[b1];exact hi),b2]
  rfl
  exact⟨fun ps c4=>by simp at c4,hz,.inl ⟨by simp[sliced],by simp⟩⟩
  have hlen:(xs.map enc).length=xs.length:=by simp
  have hb:=run_slice_lh (P:=P) (w:=w) (t:=t) (a:=some ⟨b,o,none⟩) (len:=(xs.map enc).length) (cap:=c) b0 k1 k2 i j h0 h01 (by rw[hlen] at h3;omega)
  refine⟨sliced (some ⟨b,o,none⟩) i.toNat j.toNat c size,?_,?_⟩
  simp only[execOp,hv,Option.map_some,Option.map_none,(bI hs hy).1,(bI hs hl).1]
  rw[Sem.run_bind,run_sliceAt_slice w t _ _ _ _ b0,hb,run_sizeOf (i:=inf) (by rw[b1];exact hi),b2]
  rfl
  unfold sliced
  refine Dl (lo:=i.toNat) hz hu h5 h3 h4 ?_ (by rw[hlen];omega) rfl (by split<;>simp[gZ])
  have:i.toNat+(j.toNat-i.toNat)=j.toNat:=by omega
  rw[this,List.map_drop,List.map_take]
  have b3:xs=[]:=by simpa using he
  subst b3
  have c2:j=0:=by simp at h1;omega
  have c3:i=0:=by omega
  subst c3 c2
  have hb:=run_slice_lh (P:=P) (w:=w) (t:=t) (a:=some ad) (len:=0) (cap:=0) b0 k1 k2 0 0 (by decide) (by decide) (by decide)
  refine⟨sliced (some ad) (Int.toNat 0) (Int.toNat 0) 0 size,?_,?_⟩
  simp only[execOp,hv,Option.map_some,Option.map_none,(bI hs hy).1,(bI hs hl).1]
  rw[Sem.run_bind,run_sliceAt_slice w t _ _ _ _ b0,hb,run_sizeOf (i:=inf) (by rw[b1];exact hi),b2]
  rfl
  exact⟨fun ps c4=>by simp at c4,hz,.inr (.inr ⟨ad,by simp[sliced],by simp⟩)⟩
end
end Go.Sk
namespace Go.Sk
open Go Go.ChangeShapes Go.WideShapes Go.ChangeAt Go.RowKit
theorem ji.arr {P:Program} {t el:TypeId} {n:Nat} {k:IntKind} {α:Type} {e:α->List CP} (g:List Int->α) (ht:P.underlying t=some (.array n el)) (hel:P.underlying el=some (.int k)) (hce:P.cellsOf el=1) (hct:P.cellsOf t=n)
 (hl:∀ a,(e a).length=n) (hg:∀ l:List Int,l.length=n->e (g l)=l.map (.int k)):ji P t e where
 len a:=by rw[hl,hct]
 op {H enc W sp held fuel cs x} _ h:=by
  obtain⟨xs,m,_,_,hcl,hxl,hv⟩:=DataW.trod_array ht h
  rw[hct] at hcl
  rw[hce] at hv
  obtain⟨l,hll,hp⟩:=kN (p:=fun i z=>cs[i]?=some (.int k z)/\mf k z) n fun i hi=>by
   have h1:=hv i hi
   rw[List.getElem?_eq_getElem (by omega)] at h1
   obtain⟨z,hz,_,hw⟩:=DataW.trod_int hel h1
   have h0:((cs.drop (i*1)).take 1)[0]?=some (.int k z):=by rw[hz];rfl
   rw[List.getElem?_take,List.getElem?_drop] at h0
   simp at h0
   exact⟨z,h0,CI hw⟩
  refine⟨g l,?_⟩
  rw[hg l hll]
  refine aO.Aj (by simp;omega) fun i a b ha hb=>?_
  rw[List.getElem?_map] at ha
  simp only[Option.map_eq_some_iff] at ha
  obtain⟨z,hz,rfl⟩:=ha
  obtain⟨h1,h2⟩:=hp i z hz
  rw[hb] at h1
  exact⟨zaa h1,h2⟩
theorem cC.nil {h:PH} {w:World}:cC [] h w:=fun g cs hm=>by cases hm
theorem cC.cons {P:Program} {TB:aH} {W:World} {name:String} {k:IntKind} {zs:List Int} {g:Nat} (hg:P.globalNamed name=some g) (h:Lib.TabIs P W name k zs) (h0:0<zs.length) (r:cC TB (Go.Sk.full W) W):cC ((g,zs.map fun z=>Value.int k z)::TB) (Go.Sk.full W) W:=fun g' cs hm=>by
 rcases List.mem_cons.1 hm with e|hm
 obtain⟨rfl,rfl⟩:=Prod.mk.inj e
 unfold Lib.TabIs World.var? at h
 rw[hg] at h
 simp only[Option.bind_some] at h
 split at h
 next cs T fz hh=>
  have:=zaa h
  subst this
  refine⟨by simpa using h0,fun o v hv=>?_,T,fz,hh⟩
  show look W g' o=some v
  refine gr ?_ (by
   have hm:=List.mem_of_getElem? hv
   obtain⟨z,_,rfl⟩:=List.mem_map.1 hm
   rfl)
  simp only[World.cell?,hh]
  simpa using hv
 simp at h
 exact r g' cs hm
theorem j6 {P:Program} {W:World} {x:String×DataW Unit} {l:List (String×DataW Unit)} (h:laidMet P (x::l) W):laidMet P l W:=by
 obtain⟨ps,⟨g',t',cs,fuel,p,q,_,_,_,_,hr,rfl⟩,hn,hc⟩:=h
 exact⟨q,hr,(List.nodup_append.1 hn).2.1,fun b off hp=>hc b off (List.mem_append_right _ hp)⟩
end Go.Sk
namespace Go.Sk
open Go Go.Proofs
section
variable {P:Program} {TB:aH} {E:Env TB} {n:Sh} {ops:Array Oper} {l:List Oper} {s:St} {Q:bH} {c:Code}
def St.only (s' s:St):St:=s.keep (s'.slots.map (·.1)) (s'.own.map (·.1))
theorem aj.aV {y:Code} (s':St) (hs:s'.only s=s') (h:ah P E n y s' Q):aj P E n ops [] s (Exit.then (y.wp P Q) Q):=aj.nilK _ _ hs h
theorem aj.aF (s':St) (hs:s'.only s=s') (h:aj P E n ops l s' Q):aj P E n ops l s Q:=aj.keep _ _ hs h
theorem ah.aF (s':St) (hs:s'.only s=s') (h:ah P E n c s' Q):ah P E n c s Q:=ah.keep _ _ hs h
theorem Fin.aF {e:Exit} (s':St) (hs:s'.only s=s') (h:Fin E n e s' Q):Fin E n e s Q:=Fin.keep _ _ hs h
theorem ah.scope (h:ah P E n c s (Exit.noGoto Q)):ah P E n (.scope c) s Q:=fun a w hr=>wp_scope_straight (h a w hr)
theorem ah.label {l:Nat} (h:Fin E n .normal s Q):ah P E n (.label l) s Q:=fun a w hr=>wp_label (h a w hr)
theorem Fin.scope (h:Fin E n .normal s Q):Fin E n .normal s (Exit.noGoto Q):=fun a w hr=>h a w hr
end
theorem cC.open1 {P:Program} {W:World} {g:Nat} {t:TypeId} {zero:Array Value} {k:IntKind}
 (h:W.ShapedOpen P) (hg:g<P.globals.size) (h0:((begin P (fun _ _=>0) default).world.heap[g]?).bind Obj.row?=some (zero,t)) (hz:zero.size=1)
 (hb:P.buildable t=true) (hc:P.cellTypes P.depth t=some [t]) (hu:P.underlying t=some (.int k)) :
 ∃ m,∀ {TB:aH},cC TB (Go.Sk.full W) W->cC (TB++[(g,[.int k m])]) (Go.Sk.full W) W:=by
 obtain⟨m,hm⟩:=cell_of_shapedOpen_int h hg h0 hz hb hc hu
 obtain⟨cs,hh,hs,_⟩:=h.1 g zero t hg h0
 have h1:cs.size=1:=by omega
 have b0:cs=#[.int k m]:=by
  have:cs[0]?=some (.int k m):=by simpa[World.cell?,hh] using hm
  refine Array.ext (by simpa using h1) fun i hi hj=>?_
  have:i=0:=by omega
  subst this
  simp_all
 refine⟨m,fun {TB} r g' c' hm'=>?_⟩
 rcases List.mem_append.1 hm' with e|e
 exact r g' c' e
 rw[List.mem_singleton] at e
 obtain⟨rfl,rfl⟩:=Prod.mk.inj e
 refine⟨by simp,fun o v hv=>?_,t,_,by rw[hh,b0]⟩
 have:o=0/\v=.int k m:=by
  cases o with
  | zero=>simp at hv;exact⟨rfl,hv.symm⟩
  | succ o=>simp at hv
 obtain⟨rfl,rfl⟩:=this
 exact gr hm rfl
section
variable {P:Program} {TB:aH} {E:Env TB} {n:Sh} {ops:Array Oper} {l:List Oper} {s s':St} {Q:bH} {o:Oper} {dst:Option Nat} {t ty:TypeId} {pos:String} {after:Array Edge} {g:Option (Nat×Bool)} {x:Operand}
theorem Oc (h1:aR P E n o s s') (h2:aj P E n ops l s' Q) (hg:o.guard=none:=by rfl):aj P E n ops (o::l) s Q:=aj.cons hg h1 h2
theorem cb.p (h:aR P E n o s s') (hg:o.guard=none:=by rfl):cb P E n ops o s s':=.plain hg h
theorem om {z:SV} (hx:s.ev x=some z:=by rfl):aR P E n ⟨dst,.move x,ty,pos,after,g⟩ s (s.put n dst z):=cK hx
theorem oa {z:SV} (hx:s.ev x=some z:=by rfl):aR P E n ⟨dst,.assign x,ty,pos,after,g⟩ s (s.put n dst z):=yf hx
theorem lp {k off:Nat} {T:TypeId} {ps qs:List CP} {m:Nat} (ht:gN P t m) (hx:s.ev x=some (.b (.ptr k off)):=by rfl) (hk:lk s.own k=some (.box T ps):=by rfl) (hp:(ps.drop off).take m=qs:=by rfl) (hq:qs.length=m:=by rfl) :
 aR P E n ⟨dst,.load t x,ty,pos,after,g⟩ s (s.put n dst (.b (.agg qs))):=uu ht hx hk hp hq
theorem JM {j t:Nat} {b:Bool} {z:BV} (b0:Bool) (ks:List Nat) (hc:b0=true->fa 99 ks s.slots) (h1:b0=true->aR P E n o (s.pY 99 ks) ((s.pY 99 ks).put n o.dst (.b z))) (h2:aj P E n ops l (s.put n o.dst (.opt b0 z)) Q)
 (hg:o.guard=some (j,true):=by rfl) (hj:(ops[j]?).bind (·.dst)=some t:=by rfl) (hb:s.get t=some (.b (.one (.bool b))):=by rfl) (hgd:b=b0:=by rfl):aj P E n ops (o::l) s Q :=
 aj.p7 b0 99 ks (.plain hb) ((jL _).trans hgd) hg hj hc h1 h2
theorem BS {j t:Nat} {b:Bool} {z:BV} (b0:Bool) (ks:List Nat) (hc:b0=true->fa 99 ks s.slots) (h1:b0=true->aR P E n o (s.pY 99 ks) ((s.pY 99 ks).put n o.dst (.b z))) (h2:aj P E n ops l (s.put n o.dst (.opt b0 z)) Q)
 (hg:o.guard=some (j,false):=by rfl) (hj:(ops[j]?).bind (·.dst)=some t:=by rfl) (hb:s.get t=some (.b (.one (.bool b))):=by rfl) (hgd:(!b)=b0:=by rfl):aj P E n ops (o::l) s Q :=
 aj.p7 b0 99 ks (.plain hb) ((eq_f _).trans hgd) hg hj hc h1 h2
end
abbrev Pt (k:Nat) (o:Nat):SV:=.b (.ptr k o)
end Go.Sk
namespace Go.Sk
open Go Go.BigFrame
section
variable {P:Program} {TB:aH} {E:Env TB} {n:Sh} {s:St} {dst:Option Nat} {t ty yt:TypeId} {pos:String} {after:Array Edge} {g:Option (Nat×Bool)} {x y c:Operand}
theorem CV.bvL {h:PH} {ρ:RM}:∀ {l:List CV} {vs:List Value},aO (fun (x:CV) v=>x.rel h ρ v) l vs->aO (fun (x:BV) v=>x.rel h ρ v) (l.map CV.bv) vs
 | _,_,.nil=>.nil
 | _,_,.cons h1 t=>.cons (CV.Lc h1) (CV.bvL t)
def evCV (s:St) (x:Operand):Option CV:=(evB s x).bind BV.cv
def wh (s:St):List Operand->Option (List CV)
 | []=>some []
 | x::l=>(evCV s x).bind fun z=>(wh s l).map fun r=>z::r
theorem evB_rel {h:PH} {ρ:RM} {a:Act} (hs:bt h ρ s.slots a.tmps) {x:Operand} {z:BV} (hz:evB s x=some z):z.rel h ρ (a.eval x):=by
 unfold evB at hz
 split at hz
 rename_i z' hz'
 simp at hz;subst hz
 exact aE hs hz'
 simp at hz
theorem yy {h:PH} {ρ:RM} {a:Act} (hs:bt h ρ s.slots a.tmps):∀ {l:List Operand} {zs:List CV},wh s l=some zs->aO (fun (x:CV) v=>x.rel h ρ v) zs (l.map a.eval)
 | [],zs,e=>by simp[wh] at e;subst e;exact .nil
 | x::l,zs,e=>by
  unfold wh at e
  simp only[Option.bind_eq_some_iff,Option.map_eq_some_iff] at e
  obtain⟨z,hz,r,hr,rfl⟩:=e
  unfold evCV at hz
  simp only[Option.bind_eq_some_iff] at hz
  obtain⟨q,hq,hz⟩:=hz
  exact .cons (BV.K4 hz (evB_rel hs hq)) (yy hs hr)
theorem eN {f:FuncId} {xs ys:Array Operand} {fs cs:List CV} (hf:wh s xs.toList=some fs) (hc:wh s ys.toList=some cs) :
 aR P E n ⟨dst,.makeFunc (.func f) xs ys,ty,pos,after,g⟩ s (s.put n dst (.b (.cJ f fs cs))) :=
 aR.val (o:=⟨dst,.makeFunc (.func f) xs ys,ty,pos,after,g⟩) fun ac w h ρ hw hs=>by
  refine⟨.func (.func f) (xs.map ac.eval) (ys.map ac.eval),by simp[execOp,Instr.makeFunc],_,_,rfl,?_,?_⟩
  simpa using yy hs hf
  simpa using yy hs hc
theorem vS {o:Oper} {f:FuncId} {own_a:List (Nat×OC)} {args:List BV} {post:er} (b0:aI P TB f own_a args post)
 (b2:∀ (a:Act) (w:World) (h:PH) (ρ:RM),WR E n s.own h ρ w->bt h ρ s.slots a.tmps->∃ vals:List Value,(execOp a.eval o).run P w=.ok (.enter f vals.toArray) w/\aO (fun (x:BV) v=>x.rel h ρ v) args vals)
 (hl:gf s.own own_a) {a:Act} {w:World} (hr:R E n s a w) {next:Act->World->Prop} {Q:bH}
 (b1:∀ own' res,post own' res->hZ n own_a own'=true/\iG s.own own_a own'=true/\res.bn own'=true/\∀ a' w',R E n (s.aft n own_a own' o.dst res) a' w'->next a' w'):o.wp P a w next Q:=by
 obtain⟨hdf,hn,h,ρ,hw,hs⟩:=hr
 obtain⟨vals,hr0,hra⟩:=b2 a w h ρ hw hs
 unfold Oper.wp
 rw[hr0]
 show Calls P f _ w _
 have hla:=lq hl
 refine (b0 w h ρ _ hw.ax hw.agree (uc hw hla (j5 hl)) hra).mono ?_
 rintro e w' ⟨v,own',res,h',ρ',rfl,hp,hc,b3⟩
 obtain⟨hok,hcl,hki,hnx⟩:=b1 own' res hp
 have hwc:=hw.call hla hc hok hcl
 refine hnx _ _ (R.put (s:=⟨jQ own_a own' s.slots,bN own' (dL own_a s.own)⟩) hdf hn hwc ?_ ?_)
 intro k x hx
 obtain⟨h1,h2⟩:=nu hx
 obtain⟨u,hu,c2⟩:=hs k x h1
 refine⟨u,hu,SV.mono hc.le (fun j hj=>?_) c2⟩
 by_cases c3:j∈ai own'
 rw[jR c3]
 by_cases hia:j∈aq own_a
 exact hc.fixed j hia
 have:=h2 j c3 hia;simp[this] at hj
 exact kK c3
 exact SV.mono (PH.le_refl _) (fun j hj=>jR (SV.cB hki hj)) b3
theorem lv {α β:Type} {r:α->β->Prop} {a:List α} {b:List β} {c:List α} {d:List β} (h:aO r a b) (h':aO r c d):aO r (a++c) (b++d):=h.append h'
theorem tj {f:FuncId} {fs cs:List CV} {own_a own':List (Nat×OC)} {args zs:List BV} {xs:Array Operand} {ats:Array TypeId} {res:SV} (b0:aI P TB f own_a args (Is own' res)) (hf:dM P f) (hx:s.ev x=some (.b (.cJ f fs cs))) (ha:ig s xs.toList=some zs)
 (hz:fs.map CV.bv++zs++cs.map CV.bv=args) (hl:gf s.own own_a)
 (hok:hZ n own_a own'=true) (hki:res.bn own'=true) (hcl:iG s.own own_a own'=true:=by rfl):aR P E n ⟨dst,.call ⟨.value x,xs,ats⟩,ty,pos,after,g⟩ s (s.aft n own_a own' dst res) :=
 fun _ _ hr _ _ b1=>vS b0 (fun a w h ρ hw hs=>by
  obtain⟨va,vb,hv,h1,h2⟩:=(aE hs hx:BV.rel h ρ (.cJ f fs cs) _)
  refine⟨va.toList++xs.toList.map a.eval++vb.toList,?_,?_⟩
  have e1:execOp a.eval ⟨dst,.call ⟨.value x,xs,ats⟩,ty,pos,after,g⟩=(do let d ← Deferred.ofValue (a.eval x) (xs.map a.eval);invoke d.target d.args):=rfl
  rw[e1,hv]
  have e2:(do let d ← Deferred.ofValue (.func (.func f) va vb) (xs.map a.eval);invoke d.target d.args:Sem Next)=callFunc f (va++xs.map a.eval++vb):=rfl
  rw[e2,hf.run]
  congr 2
  apply Array.ext'
  simp
  rw[← hz]
  exact lv (lv (CV.bvL h1) (mY hs ha)) (CV.bvL h2)) hl hr fun _ _ hp=>by
  obtain⟨rfl,rfl⟩:=hp
  exact⟨hok,hcl,hki,b1⟩
end
end Go.Sk
namespace Go.Sk
open Go Go.BigFrame
structure TyMap (P:Program) (t kt et:TypeId) (kd:IntKind) (z:CP):Prop where
 und:P.underlying t=some (.map kt et)
 key:P.underlying kt=some (.int kd)
 zero:∃ i v,P.info? et=some i/\i.zero=some v/\∀ h,z.rel h v
section
variable {P:Program} {TB:aH} {E:Env TB} {n:Sh} {s:St} {dst:Option Nat} {t ty yt:TypeId} {pos:String} {after:Array Edge} {g:Option (Nat×Bool)} {x y c:Operand}
theorem AP {h:PH} {ρ:RM} {own:List (Nat×OC)} {w:World} (hw:WR E n own h ρ w) {k:Nat} {es:List (CP×BV)} (hk:lk own k=some (.mp es)) :
 ∃ b ms clk,ρ k=.map (some b)/\w.heap[b]?=some (.map ms clk)/\qd h ρ es ms.toList/\As clk ms.toList:=(hw.owned k _ (bj hk)).1
theorem n8 {w:World} {kt:TypeId} {d:TypeDesc} (hd:P.underlying kt=some d) {k:Value} {es:List MapEntry} {r:Option (Nat×Value)} (hf:Instr.findNow d k es 0=some r):(Instr.findKey kt k es).run P w=.ok r w:=by
 unfold Instr.findKey
 simp[Sem.run_bind,run_underlying hd,Result.andThen,hf]
theorem yE {w:World} {kt:TypeId} {kd:IntKind} (hd:P.underlying kt=some (.int kd)) (k:Int) (e:Bool) (m:Nat):(Instr.checkKey e (m+1) kt (.int kd k)).run P w=.ok () w:=by
 unfold Instr.checkKey
 simp[Sem.run_bind,run_underlying hd,Result.andThen]
theorem EW {w:World} {et:TypeId} {i:TypeInfo} {v:Value} (hi:P.info? et=some i) (hz:i.zero=some v):(zeroValue et).run P w=.ok v w:=by
 simp[zeroValue,typeInfo,hi,hz]
theorem vI {kt et:TypeId} {k:Nat} (hu:P.underlying t=some (.map kt et)) (hfx:n.fix.contains k=false) (hnu:dy k s.own=true:=by rfl) :
 aR P E n ⟨dst,.makeMap t none,ty,pos,after,g⟩ s ((⟨cu k s.slots,ins k (.mp []) s.own⟩:St).put n dst (.b (.row k))) :=
 aR.make (hfx:=hfx) (hnu:=hnu) (o:=⟨dst,.makeMap t none,ty,pos,after,g⟩) fun ac w h ρ hw hs=>by
  refine⟨.map (some w.heap.size),.map (some w.heap.size),w.alloc (.map #[] 0),none,?_,fun b e=>by simp at e,by simp,rfl,rfl,fun b hb _=>heap_alloc_old w _ hb,⟨w.heap.size,#[],0,rfl,heap_alloc_new w _,.nil,fun e he=>by simp at he,by simp⟩,
   fun b e=>by simp[ba] at e;subst e;exact .inr (Nat.le_refl _),(cL _ _ _).symm⟩
  simp[execOp,Instr.makeMap,newObj,Sem.run,Result.andThen]
theorem WR.setMap {h:PH} {ρ:RM} {own:List (Nat×OC)} {w:World} (hw:WR E n own h ρ w) {k b:Nat} {es es':List (CP×BV)} {ms b1:Array MapEntry} {clk b0:Nat} (hk:lk own k=some (.mp es)) (hρ:ρ k=.map (some b))
 (hb:w.heap[b]?=some (.map ms clk)) (hr:qd h ρ es' b1.toList) (ho:As b0 b1.toList):WR E n (ins k (.mp es') own) h ρ { w with heap:=w.heap.setIfInBounds b (.map b1 b0) }:=by
 have hlt:b<w.heap.size:=by
  rcases Nat.lt_or_ge b w.heap.size with h|h
  exact h
  simp[Array.getElem?_eq_none h] at hb
 have hst:=hw.step (w':={ w with heap:=w.heap.setIfInBounds b (.map b1 b0) }) k (ρ k) (.mp es') (some b) (fun b' e=>by cases e;exact⟨_,bj hk,by rw[hρ];rfl⟩) (by simp) rfl rfl
  (fun b' _ hne=>by
   have:b≠b':=fun e=>hne (by rw[e])
   simp[Array.getElem?_setIfInBounds,this]) ⟨b,b1,b0,hρ,by simp[Array.getElem?_setIfInBounds,hlt],by rw[ph];exact hr,ho⟩ (fun b' b2=>by rw[hρ] at b2;simp[ba] at b2;exact .inl (by rw[b2])) (.inl rfl) (.inl rfl)
 have:oX ρ k (ρ k)=ρ:=by funext j;simp only[oX];split<;>simp_all
 rwa [this] at hst
end
end Go.Sk
namespace Go.Sk
open Go Go.BigFrame
section
variable {P:Program} {TB:aH} {E:Env TB} {n:Sh} {s s':St} {dst:Option Nat} {t ty yt:TypeId} {pos:String} {after:Array Edge} {g:Option (Nat×Bool)} {x y c:Operand} {ops:Array Oper} {l:List Oper} {Q:bH} {a b:Code}
theorem aj.ite {α:Type} {d:Bool} {A B:Option α} {r:α} (h:(if d=true then A else B)=some r) (h1:d=true->A=some r->aj P E n ops l s Q) (h2:d=false->B=some r->aj P E n ops l s Q):aj P E n ops l s Q:=by
 cases d
 exact h2 rfl h
 exact h1 rfl h
theorem ah.condT {k:Nat} (hs:s.get k=some (.b (.one (.bool true)))) (h:ah P E n a s Q):ah P E n (.cond (.tmp k) a b) s Q:=ah.cond hs (fun _=>h) (fun e=>by cases e)
theorem ah.condF {k:Nat} (hs:s.get k=some (.b (.one (.bool false)))) (h:ah P E n b s Q):ah P E n (.cond (.tmp k) a b) s Q:=ah.cond hs (fun e=>by cases e) (fun _=>h)
theorem D6 {f:FuncId}:aR P E n ⟨dst,.makeFunc (.func f) #[] #[],ty,pos,after,g⟩ s (s.put n dst (.b (.one (.raw (.func (.func f) #[] #[]))))) :=
 aR.val (o:=⟨dst,.makeFunc (.func f) #[] #[],ty,pos,after,g⟩) fun ac w h ρ hw hs=>⟨.func (.func f) #[] #[],by simp[execOp,Instr.makeFunc],rfl,rfl⟩
theorem FK {e:TypeId} {m:Nat} {ps:List CP} {p:CP} {k:IntKind} {i:Int} (ht:lI P t e m 1) (h1:c8 P e) (hx:s.ev x=some (.b (.agg ps))) (hy:s.ev y=some (.b (.one (.int k i)))) (h0:0<=i) (hi:i<m) (hp:ps[i.toNat]?=some p) :
 aR P E n ⟨dst,.index t x y,ty,pos,after,g⟩ s (s.put n dst (.b (.one p))) :=
 aR.val (o:=⟨dst,.index t x y,ty,pos,after,g⟩) fun ac w h ρ hw hs=>by
  obtain⟨cs,hv,ha⟩:=(aE hs hx:BV.rel h ρ (.agg ps) _)
  obtain⟨u,hu,hr⟩:=ha.get _ p hp
  have hcu:cs[i.toNat*1]?=some u:=by rw[Nat.mul_one];simpa using hu
  obtain⟨inf,hin,hsz⟩:=ht.info
  refine⟨u,?_,hr⟩
  have hpt:=jY h1 (A:=cs) (off:=i.toNat*1) (v:=u) hcu w
  simp only[execOp,hv,(bI hs hy).1]
  simp[Instr.index,run_underlying ht.und,asIntOf,h0,hi,sizeOf,typeInfo,hin,hsz] at hpt ⊢
  simp[hpt]
theorem FJ {e:TypeId} {m size:Nat} {ps qs:List CP} {k:IntKind} {i:Int} (ht:lI P t e m size) (h1:gN P e size) (hx:s.ev x=some (.b (.agg ps))) (hy:s.ev y=some (.b (.one (.int k i)))) (h0:0<=i) (hi:i<m) (hq:(ps.drop (i.toNat*size)).take size=qs) :
 aR P E n ⟨dst,.index t x y,ty,pos,after,g⟩ s (s.put n dst (.b (.agg qs))) :=
 aR.val (o:=⟨dst,.index t x y,ty,pos,after,g⟩) fun ac w h ρ hw hs=>by
  obtain⟨cs,hv,ha⟩:=(aE hs hx:BV.rel h ρ (.agg ps) _)
  obtain⟨inf,hin,hsz⟩:=ht.info
  have hr:aB h qs ((cs.toList.drop (i.toNat*size)).take size):=by rw[← hq];exact aO.take (aO.drop ha _) size
  have hex:(cs.extract (i.toNat*size) (i.toNat*size+size)).toList=(cs.toList.drop (i.toNat*size)).take size:=by simp[List.take_drop]
  refine⟨.agg (cs.extract (i.toNat*size) (i.toNat*size+size)),?_,_,rfl,by rw[hex];exact hr⟩
  have hpt:=jZ h1 (A:=cs) (off:=i.toNat*size) w
  simp only[execOp,hv,(bI hs hy).1]
  simp[Instr.index,run_underlying ht.und,asIntOf,h0,hi,sizeOf,typeInfo,hin,hsz] at hpt ⊢
  simp[hpt]
theorem Fc {α:Type} {e:α->List CP} {sz:Nat} (hu:∀ x,(e x).length=sz) {z:α}:∀ {xs:List α} {i:Nat},xs[i]?=some z->((xs.map e).flatten.drop (i*sz)).take sz=e z
 | [],i,h=>by simp at h
 | a::xs,0,h=>by
  have e1:a=z:=by simpa using h
  subst e1
  rw[Nat.zero_mul,List.drop_zero,List.map_cons,List.flatten_cons,List.take_left' (hu a)]
 | a::xs,i+1,h=>by
  have h1:xs[i]?=some z:=by simpa using h
  have e1:(i+1)*sz=(e a).length+i*sz:=by rw[hu a,Nat.add_mul];omega
  rw[List.map_cons,List.flatten_cons,e1,← List.drop_drop,List.drop_left]
  exact Fc hu h1
theorem Dy {α:Type} [Inhabited α] {xs:List α} {e:α->List CP} {sz:Nat} (hu:∀ x,(e x).length=sz) {i:Int} {z:α} (h:aD xs i=some z):((xs.map e).flatten.drop (i.toNat*sz)).take sz=e z:=Fc hu (pg h)
end
end Go.Sk
namespace Go.Sk
open Go Go.ChangeShapes Go.WideShapes Go.ChangeAt Go.RowKit
def Ae {H:Type}:Nat->DataW H->List Value
 | _,.lit (.int k n)=>[.int k n]
 | _,.lit (.string l)=>[.string ⟨⟨l⟩⟩]
 | n+1,.agg ds=>(ds.map (Ae n)).flatten
 | _,_=>[]
structure jj (P:Program) (t:TypeId) (n:Nat):Prop where
 op:∀ {H:Type} {enc:TypeId×Value->H} {W:World} {sp:Nat->Bool} {held:Bool} {fuel:Nat} {cs:List Value} {x:DataW H×List MemPlace},DataW.trod enc P W 0 sp held fuel t cs=some x->Ae n x.1=cs
theorem jj.int {P:Program} {t:TypeId} {k:IntKind} {n:Nat} (ht:P.underlying t=some (.int k)):jj P t n where
 op h:=by obtain⟨m,rfl,rfl,_⟩:=DataW.trod_int ht h;cases n<;>rfl
theorem jj.str {P:Program} {t:TypeId} {n:Nat} (ht:P.underlying t=some .string):jj P t n where
 op h:=by
  obtain⟨s,rfl,rfl,_⟩:=DataW.trod_string ht h
  cases s with|mk d=>cases d;cases n<;>rfl
inductive xV (P:Program) (fs:Array Field) (T d:Nat):Nat->Nat->Prop where
 | nil {i:Nat} (hi:fs.size<=i):xV P fs T d i T
 | cons {i o:Nat} {f:Field} (hf:fs[i]?=some f) (ho:f.offset=o) (hr:jj P f.type d) (h:xV P fs T d (i+1) (o+P.cellsOf f.type)):xV P fs T d i o
theorem xV.op {P:Program} {fs:Array Field} {T d i o:Nat} (h:xV P fs T d i o) {H:Type} {enc:TypeId×Value->H} {W:World} {sp:Nat->Bool} {held:Bool} {n:Nat} {cs:List Value} {xs:List (DataW H×List MemPlace)} (hl:cs.length=T)
 (hx:xs.length=fs.size) (hv:∀ (j:Nat) (f:Field),fs[j]?=some f->DataW.trod enc P W 0 sp held n f.type ((cs.drop f.offset).take (P.cellsOf f.type))=xs[j]?):((xs.drop i).map fun x=>Ae d x.1).flatten=cs.drop o:=by
 induction h with
 | nil hi=>rw[List.drop_of_length_le (by omega),List.drop_of_length_le (by omega)];rfl
 | @cons i o f hf ho hr h ih=>
  have hi:i<xs.length:=by
   rw[hx]
   exact (Array.getElem?_eq_some_iff.1 hf).1
  have h1:=hv i f hf
  rw[List.getElem?_eq_getElem hi] at h1
  have h2:=hr.op h1
  rw[List.drop_eq_getElem_cons hi,List.map_cons,List.flatten_cons,ih,h2,ho,← List.drop_drop,List.take_append_drop]
theorem jj.struct {P:Program} {t:TypeId} {fs:Array Field} (ht:P.underlying t=some (.struct fs)) {d:Nat} (h:xV P fs (P.cellsOf t) d 0 0):jj P t (d+1) where
 op hd:=by
  obtain⟨xs,m,_,rfl,hl,hlen,hf⟩:=DataW.trod_struct ht hd
  have:=h.op (xs:=xs) hl hlen hf
  simp only[Ae,List.map_map]
  rw[List.drop_zero,List.drop_zero] at this
  exact this
theorem Fp {sz:Nat}:∀ {n:Nat} {cs:List Value},cs.length=n*sz->((List.range n).map fun i=>(cs.drop (i*sz)).take sz).flatten=cs
 | 0,cs,h=>by
  rw[Nat.zero_mul] at h
  rw[List.length_eq_zero_iff.1 h];rfl
 | n+1,cs,h=>by
  have h2:(cs.drop sz).length=n*sz:=by rw[List.length_drop,h,Nat.add_mul];omega
  have ih:=Fp h2
  rw[List.range_succ_eq_map,List.map_cons,List.flatten_cons,Nat.zero_mul,List.drop_zero,List.map_map]
  have e:((fun i=>(cs.drop (i*sz)).take sz) ∘ Nat.succ)=fun i=>((cs.drop sz).drop (i*sz)).take sz:=by
   funext i
   simp only[Function.comp,List.drop_drop,Nat.succ_mul,Nat.add_comm sz]
  rw[e,ih,List.take_append_drop]
theorem jj.arr {P:Program} {t e:TypeId} {n d:Nat} (ht:P.underlying t=some (.array n e)) (hc:P.cellsOf t=n*P.cellsOf e) (he:jj P e d):jj P t (d+1) where
 op {H enc W sp held fuel cs x} h:=by
  cases fuel with
  | zero=>simp[DataW.trod] at h
  | succ fuel=>
   simp only[DataW.trod,ht] at h
   split at h
   rename_i hl
   obtain⟨xs,hm,rfl⟩:=Option.map_eq_some_iff.1 h
   have hxl:xs.length=n:=by simpa using Lib.mapM_length hm
   simp only[Ae,List.map_map]
   have e1:(xs.map (Ae d ∘ fun x=>x.1))=(List.range n).map fun i=>(cs.drop (i*P.cellsOf e)).take (P.cellsOf e):=by
    refine List.ext_getElem? fun i=>?_
    by_cases hi:i<n
    obtain⟨b,hb,hf⟩:=Lib.mapM_at hm i i (by simp[hi])
    rw[List.getElem?_map,hb,List.getElem?_map,List.getElem?_range hi]
    simp only[Option.map_some,Function.comp]
    rw[he.op hf]
    rw[List.getElem?_eq_none (by simp;omega),List.getElem?_eq_none (by simp;omega)]
   rw[e1,Fp (by rw[hl,hc])]
   cases h
theorem cC.consV {P:Program} {TB:aH} {W:World} {name:String} {d:DataW Unit} {rest:List (String×DataW Unit)} {cs:List Value} {g n:Nat} {t:TypeId} (hg:P.globalNamed name=some g) (hty:(P.globals[g]?).map (·.type)=some t) (ht:jj P t n) (h:laidMet P ((name,d)::rest) W) (hd:Ae n d=cs) (h0:0<cs.length) (r:cC TB (Go.Sk.full W) W) (b1:cs.all (·.oneCell')=true:=by decide):cC ((g,cs)::TB) (Go.Sk.full W) W:=fun g' cs' hm=>by
 rcases List.mem_cons.1 hm with e|hm
 obtain⟨rfl,rfl⟩:=Prod.mk.inj e
 obtain⟨ps,⟨g2,t',vs,fuel,p,q,hg',ht',b0,hdd,_,_⟩,_⟩:=h
 obtain rfl:=zaa (hg.symm.trans hg')
 obtain rfl:=zaa (hty.symm.trans ht')
 have e2:=ht.op hdd
 rw[hd] at e2
 unfold World.var? at b0
 rw[hg] at b0
 simp only[Option.bind_some] at b0
 split at b0
 next cs T fz hh=>
  have:=zaa b0
  subst this
  subst e2
  refine⟨h0,fun o v hv=>?_,T,fz,by simpa using hh⟩
  show look W _ o=some v
  refine gr ?_ (List.all_eq_true.1 b1 v (List.mem_of_getElem? hv))
  simp only[World.cell?,hh]
  simpa using hv
 simp at b0
 exact r g' cs' hm
end Go.Sk
namespace Go.Sk
open Go Go.BigFrame
variable {P:Program} {TB:aH} {E:Env TB} {n:Sh} {s:St} {dst:Option (Nat)} {t ty:TypeId} {pos:String} {after:Array Edge} {g:Option (Nat×Bool)} {x y:Operand}
theorem yT {size f:Nat} {qs:List CP} (hf:f+qs.length<=size):∀ {es:List (List CP)},ca size es->∀ (i:Nat) (ps:List CP),es[i]?=some ps->aP es.flatten (i*size+f) qs=(es.set i (aP ps f qs)).flatten
 | [],_,i,ps,h=>by simp at h
 | p::es,hu,0,ps,h=>by
  have hp:p.length=size:=hu p (by simp)
  simp at h;subst h
  simp only[aP,Nat.zero_mul,Nat.zero_add,List.set_cons_zero,List.flatten_cons]
  rw[List.take_append_of_le_length (by omega),List.drop_append_of_le_length (by omega)]
  simp[List.append_assoc]
 | p::es,hu,i+1,ps,h=>by
  have hp:p.length=size:=hu p (by simp)
  have ih:=yT hf (es:=es) (fun q hq=>hu q (by simp[hq])) i ps (by simpa using h)
  have e:(i+1)*size+f=p.length+(i*size+f):=by rw[Nat.add_mul,hp];omega
  simp only[aP,List.flatten_cons,List.set_cons_succ] at ih ⊢
  rw[← ih,e,Nat.add_assoc,List.take_length_add_append,List.drop_length_add_append]
  simp[List.append_assoc]
theorem sB {h:PH} {ρ:RM} {w:World} (hw:WR E n s.own h ρ w) {k i f m size:Nat} {T:TypeId} {es:List (List CP)} {ps qs:List CP} {u:Value} {b mm q:Nat} {inf:TypeInfo} (hi:P.info? t=some inf) (hm:inf.size=m) (hk:lk s.own k=some (.row T size es))
 (he:ρ k=.slice (some ⟨b,0,none⟩) mm q) (b1:es[i]?=some ps) (hf:f+m<=size) (b2:aB h qs u.cells.toList) (hq:qs.length=m) :
 ∃ w',(storeVar t ⟨b,i*size+f,none⟩ u).run P w=.ok () w'/\WR E n (ins k (.row T size (es.set i (aP ps f qs))) s.own) h ρ w':=by
 obtain⟨hu,hz,cap,cur,h1,h2,h3,h4,h5,h6⟩:=wL hw hk he
 have hlt:=(List.getElem?_eq_some_iff.1 b1).1
 have hpl:ps.length=size:=hu ps (List.mem_of_getElem? b1)
 have hl:=b2.length
 simp only[Array.length_toList] at hl
 have hle:(i+1)*size<=es.length*size:=Nat.mul_le_mul_right _ hlt
 rw[Nat.add_mul] at hle
 have hcap:es.length*size<=cap*size:=Nat.mul_le_mul_right _ h3
 have b3:=jX (P:=P) (t:=t) hi hm h2 (v:=u) (o:=i*size+f) (by omega) (by omega) b2.one
 refine⟨_,b3,?_⟩
 have b0:(aP cur.toList (i*size+f) u.cells.toList).length=cur.size:=by simp[aP];omega
 have hst:=hw.step (w':=w.setRow b (aP cur.toList (i*size+f) u.cells.toList).toArray) k (ρ k) (.row T size (es.set i (aP ps f qs))) (some b) (fun b' e=>by cases e;exact⟨_,bj hk,by rw[he];rfl⟩) (by simp) rfl rfl
  (fun b' _ hne=>setRow_other _ _ _ _ (fun e=>hne (by rw[e]))) ?_ (fun b' c2=>by rw[he] at c2;simp[ba] at c2;exact .inl (by rw[c2])) (.inl rfl) (.inl rfl)
 have:oX ρ k (ρ k)=ρ:=by funext j;simp only[oX];split<;>simp_all
 rwa [this] at hst
 have hu':ca size (es.set i (aP ps f qs)):=fun p hp=>by
  rcases List.mem_or_eq_of_mem_set hp with h|h
  exact hu p h
  rw[h];simp[aP];omega
 refine⟨hu',hz,_,⟨?_,.inr ⟨b,cap,(aP cur.toList (i*size+f) u.cells.toList).toArray,by rw[h1,List.length_set],Nat.zero_le _,setRow_heap _ _ _ _ _ _ h2,by rw[List.length_set];exact h3,h4,by simp[b0,h5],rfl⟩⟩,?_⟩
 simp only[List.length_take,List.length_set,b0];omega
 rw[List.length_set,← yT (by omega) hu i ps b1]
 have e1:(aP cur.toList (i*size+f) u.cells.toList).take (es.length*size)=aP (cur.toList.take (es.length*size)) (i*size+f) u.cells.toList:=by
  simp only[aP,Array.length_toList]
  rw[List.take_append,List.take_append]
  simp only[List.length_take,List.length_append,Array.length_toList]
  rw[List.take_take,List.take_take,List.take_of_length_le (l:=u.cells.toList) (by simp;omega),List.drop_take]
  congr 1
  congr 2
  omega
  congr 1
  omega
 rw[e1]
 exact aO.aP h6 b2 _
theorem Fz {k o i f m size:Nat} {T:TypeId} {es es':List (List CP)} {ps qs:List CP} (ht:gN P t m) (hx:s.ev x=some (.b (.gO k o))) (hk:lk s.own k=some (.row T size es)) (hy:s.ev y=some (.b (.agg qs))) (ho:o=i*size+f) (hi:es[i]?=some ps) (hf:f+m<=size) (he:es.set i (aP ps f qs)=es')
 (hq:qs.length=m:=by rfl) :
 aR P E n ⟨none,.store t x y,ty,pos,after,g⟩ s ⟨s.slots,ins k (.row T size es') s.own⟩ :=
 aR.store (o:=⟨none,.store t x y,ty,pos,after,g⟩) rfl fun ac w h ρ hw hs=>by
  obtain⟨b,mm,q,hρ,hv⟩:=(aE hs hx:BV.rel h ρ (.gO k o) _)
  obtain⟨cs,hcv,hcr⟩:=(aE hs hy:BV.rel h ρ (.agg qs) _)
  obtain⟨i',hi',hm⟩:=ht.size
  obtain⟨w',b0,hwr⟩:=sB hw (u:=.agg cs) hi' hm hk hρ hi hf hcr hq
  subst he
  refine⟨w',?_,hwr⟩
  simp only[execOp,hv,hcv,Instr.storeAt,Instr.sureAddr,ho]
  simp[b0]
theorem D2 {k o i f size:Nat} {T:TypeId} {es es':List (List CP)} {ps:List CP} {p:CP} (ht:c8 P t) (hx:s.ev x=some (.b (.gO k o))) (hk:lk s.own k=some (.row T size es)) (hy:s.ev y=some (.b (.one p))) (ho:o=i*size+f) (hi:es[i]?=some ps) (hf:f<size) (he:es.set i (aP ps f [p])=es') :
 aR P E n ⟨none,.store t x y,ty,pos,after,g⟩ s ⟨s.slots,ins k (.row T size es') s.own⟩ :=
 aR.store (o:=⟨none,.store t x y,ty,pos,after,g⟩) rfl fun ac w h ρ hw hs=>by
  obtain⟨b,mm,q,hρ,hv⟩:=(aE hs hx:BV.rel h ρ (.gO k o) _)
  have hp:p.rel h (ac.eval y):=aE hs hy
  have h1:=p.one hp
  have b0:(ac.eval y).cells=#[ac.eval y]:=by cases hq:ac.eval y<;>first|rfl|(rw[hq] at h1;simp[Value.oneCell'] at h1)
  obtain⟨i',hi',hm⟩:=ht.size
  obtain⟨w',b1,hwr⟩:=sB hw (u:=ac.eval y) (qs:=[p]) (f:=f) (m:=1) hi' hm hk hρ hi (by omega) (by rw[b0];exact .cons hp .nil) rfl
  subst he
  refine⟨w',?_,hwr⟩
  simp only[execOp,hv,Instr.storeAt,Instr.sureAddr,ho]
  simp[b1]
theorem Reads.take {h:PH} {b o:Nat} {ps:List CP} (x:Reads h b o ps) (n:Nat):Reads h b o (ps.take n):=by
 intro j c hc
 rw[List.getElem?_take] at hc
 split at hc
 exact x j c hc
 cases hc
theorem FI {e:TypeId} {m size:Nat} {ps qs:List CP} {k:IntKind} {i:Int} (ht:lI P t e m size) (h0:0<=i) (h1:i<m) (hx:s.ev x=some (.b (.kG ps))) (hy:s.ev y=some (.b (.one (.int k i)))) (hq:(ps.drop (i.toNat*size)).take size=qs) :
 aR P E n ⟨dst,.indexAddr t x y,ty,pos,after,g⟩ s (s.put n dst (.b (.kG qs))) :=
 aR.val (o:=⟨dst,.indexAddr t x y,ty,pos,after,g⟩) fun ac w h ρ hw hs=>by
  obtain⟨b,o,hv,hr⟩:=(aE hs hx:BV.rel h ρ (.kG ps) _)
  obtain⟨inf,hi,hsz⟩:=ht.info
  refine⟨.pointer (some ⟨b,o+i.toNat*size,none⟩),?_,b,o+i.toNat*size,rfl,?_⟩
  simp only[execOp,hv,(bI hs hy).1]
  simp[n7 ht.und hi hsz w b o k i h0 h1]
  rw[← hq];exact (hr.drop _).take _
theorem ah.condTc {a b:Code} {Q:bH} (h:ah P E n a s Q):ah P E n (.cond (.const (.bool true)) a b) s Q:=fun ac w hr=>wp_cond_true rfl (h ac w hr)
theorem ah.condFc {a b:Code} {Q:bH} (h:ah P E n b s Q):ah P E n (.cond (.const (.bool false)) a b) s Q:=fun ac w hr=>wp_cond_false rfl (h ac w hr)
end Go.Sk
namespace Go.Sk
open Go Go.BigFrame Go.RowKit Go.Proofs Go.Shelf
variable {P:Program} {TB:aH} {ρ:Ren}
theorem EO {own:List (Nat×OC)} {w:World} {h:PH} {ρ:RM} (tb:cC TB h w) (hag:pc h w) (hl:C5 own h ρ w):WR (⟨w,h,ρ,tb⟩:Env TB) ⟨0,aq own,ai own,[]⟩ own h ρ w:=by
 refine⟨hag,PH.le_refl h,fun _ _ _=>rfl,Nat.le_refl _,fun _ _ _=>rfl,fun _ _=>rfl,rfl,rfl,?_,?_⟩
 rintro b ⟨k,hk,hb⟩ o
 obtain⟨⟨k',c⟩,hm',rfl⟩:=List.mem_map.1 hk
 exact ((hl k' c hm').2.1 b (.inl hb)).2 o
 intro k c hc
 obtain⟨h1,h3,h4⟩:=hl k c hc
 exact⟨h1,fun b hb=>⟨.inr ⟨k,List.mem_map.2 ⟨(k,c),hc,rfl⟩,(h3 b hb).1⟩,(h3 b hb).2⟩,h4⟩
end Go.Sk
namespace Go.Sk
open Go Go.BigFrame
abbrev MapI:=List (Int×Int)
variable {P:Program} {TB:aH} {E:Env TB} {n:Sh} {s:St} {dst:Option Nat} {t ty yt:TypeId} {pos:String} {after:Array Edge} {g:Option (Nat×Bool)} {x y c:Operand}
end Go.Sk
namespace Go.Sk
open Go Go.BigFrame
variable {P:Program} {TB:aH} {E:Env TB} {n:Sh} {s:St} {dst:Option Nat} {t ty yt:TypeId} {pos:String} {after:Array Edge} {g:Option (Nat×Bool)} {x y c:Operand} {ops:Array Oper} {l:List Oper} {Q:bH} {cd:Code}
end Go.Sk
namespace Go.Sk
open Go Go.BigFrame
def uY (o:Oper):Bool:=match o.op with
 | .defer _=>false
 | _=>true
theorem LV {o:Oper} (h:uY o=true):∀ c,o.op≠.defer c:=fun c e=>by simp[uY,e] at h
abbrev rnd (l:Nat):Fence:=Fence.wide.inRound l
section
variable {P:Program} {TB:aH} {E:Env TB} {n:Sh} {ops:Array Oper} {is:List Nat} {s s':St} {Q:bH} {i:Nat} {o:Oper} {c x y:Code} {l₀:Nat}
theorem Jg {F:Fence} (hf:F=Fence.wide∨∃ l,F=rnd l) {m:Nat} {row:String} {args:Array Value} {w:World} {R:Value->World->Prop} (h:Rows P row args w R):RowsIn F m P row args w R:=by
 intro c cs _
 obtain⟨v,w',hr,hs⟩:=h c cs
 rcases hf with rfl|⟨l,rfl⟩
 exact⟨v,w',hr,stepsIn_wide.2 hs⟩
 exact⟨v,w',hr,stepsIn_wide.2 hs⟩
theorem Hh {F:Fence} (hf:F=Fence.wide∨∃ l,F=rnd l) {m:Nat} {f:FuncId} {args:Array Value} {w:World} {R:Ending->World->Prop} (h:Calls P f args w R):CallsIn F m P f args w R:=by
 rcases hf with rfl|⟨l,rfl⟩
 exact callsIn_wide.2 h
 exact CallsIn.inRound l (callsIn_wide.2 h)
theorem Ds {F:Fence} (hf:F=Fence.wide∨∃ l,F=rnd l) (hd:uY o=true) {a:Act} {w:World} {K K':Act->World->Prop} (hk:∀ a w,K a w->K' a w) (h:o.wp P a w K Q):o.wpIn F 0 P a w K' Q:=by
 have b0:F.depth=none:=by rcases hf with rfl|⟨l,rfl⟩<;>rfl
 refine⟨fun f _=>by rcases hf with rfl|⟨l,rfl⟩<;>trivial,?_⟩
 rw[Oper.semAt_eq _ _ _ (LV hd)]
 unfold Oper.wp at h
 generalize (execOp a.eval o).run P w=r at *
 have hdn:F.depth.isSome=true->1<=0:=fun e=>by rw[b0] at e;simp at e
 cases r with
 | ok nx w'=>
  cases nx with
  | value v=>exact hk _ _ h
  | skip=>exact hk _ _ h
  | defer d=>exact hk _ _ h
  | enter f args=>
   refine⟨hdn,Hh hf (Calls.mono h fun e w'' he=>?_)⟩
   cases e with
   | returned v=>exact hk _ _ he
   | panicked ch=>exact he
   | outgrown=>exact he
  | row row args=>exact⟨hdn,Jg hf (Rows.mono h fun _ _ he=>hk _ _ he)⟩
  | _=>exact h.elim
 | halt q w'=>cases q<;>first|exact h|exact h.elim
theorem th {F:Fence} (hf:F=Fence.wide∨∃ l,F=rnd l) (hd:∀ (i:Nat) (o:Oper),ops[i]?=some o->uY o=true) (hQ:¬ LetsOut Q):∀ (is:List Nat) (a:Act) (w:World),wpOps P ops Q is a w->wpOpsIn F 0 P ops Q is a w
 | [],a,w,h=>h
 | i::is,a,w,h=>by
  simp only[wpOps] at h
  simp only[wpOpsIn]
  cases ho:ops[i]? with
  | none=>simp only[ho] at h;exact th hf hd hQ is a w h
  | some o=>
   simp only[ho] at h
   simp only
   split
   rename_i hw
   simp only[hw,if_true] at h
   rcases h with h|h
   exact Ds hf (hd i o ho) (fun a w=>th hf hd hQ is a w) h
   exact absurd h.2 hQ
   rename_i hw
   simp only[hw] at h
   refine⟨fun f _=>by rcases hf with rfl|⟨l,rfl⟩<;>trivial,th hf hd hQ is _ w h⟩
def gH (P:Program) {TB:aH} (E:Env TB) (n:Sh) (F:Fence) (c:Code) (s:St) (Q:bH):Prop:=¬ LetsOut Q->∀ a w,R E n s a w->c.wpIn F 0 P Q a w
variable {F:Fence}
theorem AR {K:Act->World->Prop} (h:¬ LetsOut Q):¬ LetsOut (Exit.then K Q):=fun ⟨a,w,hq⟩=>h ⟨a,w,hq⟩
theorem Ju {id:Nat} (h:¬ LetsOut Q):¬ LetsOut (Exit.inBlock id Q):=fun ⟨a,w,hq⟩=>h ⟨a,w,hq⟩
theorem gH.keep (ks kos:List Nat) (hs:s.keep ks kos=s') (h:gH P E n F c s' Q):gH P E n F c s Q:=fun hq a w hr=>h hq a w (hs▸hr.keep ks kos)
theorem gH.seq (h:gH P E n F x s (Exit.then (y.wpIn F 0 P Q) Q)):gH P E n F (.seq x y) s Q:=fun hq a w hr=>wpIn_seq (h (AR hq) a w hr)
theorem gH.skip (h:Fin E n .normal s Q):gH P E n F .skip s Q:=fun _ a w hr=>wpIn_skip (h a w hr)
theorem gH.ret (h:Fin E n .ret s Q):gH P E n F .ret s Q:=fun _ a w hr=>wpIn_ret (h a w hr)
theorem gH.exit {id:Nat} (h:Fin E n (.exit id) s Q):gH P E n F (.exit id) s Q:=fun _ a w hr=>wpIn_exit (h a w hr)
theorem gH.block {id:Nat} (h:gH P E n F c s (Exit.inBlock id Q)):gH P E n F (.block id c) s Q:=fun hq a w hr=>wpIn_block (h (Ju hq) a w hr)
theorem gH.cond {t:Nat} {b:Bool} (hs:s.get t=some (.b (.one (.bool b)))) (h1:b=true->gH P E n F x s Q) (h2:b=false->gH P E n F y s Q):gH P E n F (.cond (.tmp t) x y) s Q:=by
 intro hq a w hr
 obtain⟨hdf,hn,h,ρ,hw,hsl⟩:=id hr
 have:a.eval (.tmp t)=.bool b:=aE hsl (o:=.tmp t) hs
 exact wpIn_cond_split this (fun e=>h1 e hq a w hr) (fun e=>h2 e hq a w hr)
theorem gH.ite {α:Type} {t:Nat} {b:Bool} {p q:Option α} {r:α} (h:(if b=true then p else q)=some r) (hs:s.get t=some (.b (.one (.bool b)))) (h1:b=true->p=some r->gH P E n F x s Q) (h2:b=false->q=some r->gH P E n F y s Q):gH P E n F (.cond (.tmp t) x y) s Q :=
 gH.cond hs (fun e=>h1 e (by rw[if_pos e] at h;exact h)) (fun e=>h2 e (by rw[if_neg (by simp[e])] at h;exact h))
theorem gH.ae {id:Nat} {l:List Oper} (hf:F=Fence.wide∨∃ l,F=rnd l) (h:aj P E n l.toArray l s Q) (hd:l.all uY=true:=by rfl):gH P E n F (.region id l.toArray false) s Q:=by
 intro hq a w hr
 refine wpIn_region ?_
 have:=oS (P:=P) (ops:=l.toArray) (Q:=Q) l 0 (fun j=>by simp) a w (h a w hr)
 refine th hf (fun i o ho=>?_) hq _ a w (by simpa[List.range_eq_range'] using this)
 exact List.all_eq_true.1 hd o (by simpa using List.mem_of_getElem? (by simpa using ho))
theorem gH.ofA {id:Nat} {l:List Oper} (hf:F=Fence.wide∨∃ l,F=rnd l) (hm:P.follows .mixedOrders=true) (h:vv P E n l.toArray s Q) (hd:l.all uY=true:=by rfl):gH P E n F (.region id l.toArray true) s Q:=by
 intro hq a w hr
 refine wpIn_region_draw fun t=>?_
 refine th hf (fun i o ho=>?_) hq _ a _ ?_
 exact List.all_eq_true.1 hd o (by simpa using List.mem_of_getElem? (by simpa using ho))
 simp only[Region.schedule,hm,Bool.true_or,if_true]
 exact wpAny_sound _ t _ a _ (h a w hr)
theorem gH.EZ {rid:Nat} {ops:List Oper} (hf:F=Fence.wide∨∃ l,F=rnd l) (hm:P.follows .mixedOrders=true) (m:Nat) (Fs:List SV) (ks kos:List Nat) (hok:okX (ops.take m) (ops.drop m) n.n=true) (hst:rH P E n ops.toArray s (ops.take m) Fs 0 (ops.take m) Fs)
 {s2:St} (htl:yP P E n ops.toArray (ops.drop m) ⟨(s.slots.filter fun p=>!(km (ops.take m)).contains p.1)++aZ (fun _=>true) 0 (ops.take m) Fs,s.own⟩ s2) (hs:s2.keep ks kos=s') (h:Fin E n .normal s' Q) (hd:ops.all uY=true:=by rfl):gH P E n F (.region rid ops.toArray true) s Q :=
 gH.ofA hf hm (vv.X _ _ (List.take_append_drop m ops) Fs ks kos hok hst htl hs h) hd
theorem gH.wM {rid:Nat} {ops:List Oper} (hf:F=Fence.wide∨∃ l,F=rnd l) (hm:P.follows .mixedOrders=true) (isW:List Bool) (Fs:List SV) (tab:List uW) {σ0 σf:uW} (hok:(iX 0 ops&&gW (km ops)&&(km ops).all (·<n.n)&&(isW.length==ops.length))=true)
 (b0:C4 P E n isW tab ops Fs tab) (h0:n9 tab (List.replicate ops.length false)=some σ0) (hs0:s=⟨σ0.base,σ0.own⟩) (hf':n9 tab isW=some σf) (ks kos:List Nat)
 (hs:(⟨σf.base++aZ (nb σf.live) 0 ops Fs,σf.own⟩:St).keep ks kos=s') (h:Fin E n .normal s' Q) (hd:ops.all uY=true:=by rfl):gH P E n F (.region rid ops.toArray true) s Q :=
 gH.ofA hf hm (vv.W isW Fs tab hok b0 h0 hs0 hf' ks kos hs h) hd
end
end Go.Sk
namespace Go.Sk
open Go Go.BigFrame
def Gx:Obj->Bool
 | .deferred _=>true
 | .loop _=>true
 | _=>false
section
variable {P:Program} {TB:aH} {E:Env TB} {n:Sh} {own own':List (Nat×OC)} {h h':PH} {ρ ρ':RM} {w w':World}
theorem OC.ok.LU {c:OC} {v:Value} (hc:c.ok h ρ v w) {b:Nat} (hf:c.dK v w b) {o:Obj} (ho:w.heap[b]?=some o):Gx o=false:=by
 have b0:∀ {e:TypeId} {size n:Nat} {u:Value} {xs:List Value},w.ownsRow 0 e size u n xs->ba u=some b->Gx o=false:=fun {e size n u xs} hh hb=>by
  rcases hh.2 with ⟨rfl,_⟩|⟨g,cap,cur,rfl,h1,h2,h3⟩
  ·simp[ba] at hb
  ·simp[ba] at hb;subst hb;rw[h2] at ho;cases ho;rfl
 rcases hf with hb|hi
 rotate_left
 ·cases c with
  | rr T e size hole ess=>
   obtain⟨us,x⟩:=hc
   obtain⟨i,u,h1,h2,h3⟩:=x.inner.1 hi
   obtain⟨es,hes⟩:∃ es,ess[i]?=some es:=by
    have h4:i<us.length:=(List.getElem?_eq_some_iff.1 h1).1
    have h5:=x.out.1
    exact⟨_,List.getElem?_eq_getElem (by omega)⟩
   obtain⟨xs,h6,_⟩:=(x.rows i u es h1 hes h2).row
   exact b0 h6 h3
  | BQ j m rest cur=>
   obtain⟨b',ms,clk,D,seen,x⟩:=hc
   obtain⟨D',s1,s2,s3,h1,h2⟩:=hi
   rw[x.ptr] at h1
   cases h1
   rw[x.it] at h2
   cases h2
   rw[x.obj] at ho
   cases ho
   rfl
  | _=>exact hi.elim
 cases c with
 | rr T e size hole ess=>obtain⟨us,x⟩:=hc;exact b0 x.out hb
 | BQ j m rest cur=>obtain⟨b',ms,clk,D,seen,x⟩:=hc;rw[x.ptr] at hb;cases hb;rw[x.it] at ho;cases ho;rfl
 | box T ps=>obtain⟨b',cur,rfl,h2,h3⟩:=hc;simp[ba] at hb;subst hb;rw[h2] at ho;cases ho;rfl
 | sit q pos=>obtain⟨b',rfl,h2,h3⟩:=hc;simp[ba] at hb;subst hb;rw[h2] at ho;cases ho;rfl
 | mp es=>obtain⟨b',ms,clk,rfl,h2,h3⟩:=hc;simp[ba] at hb;subst hb;rw[h2] at ho;cases ho;rfl
 | mq m=>obtain⟨b',ms,clk,rfl,h2,h3⟩:=hc;simp[ba] at hb;subst hb;rw[h2] at ho;cases ho;rfl
 | bb T ps=>obtain⟨b',cur,rfl,h2,h3⟩:=hc;simp[ba] at hb;subst hb;rw[h2] at ho;cases ho;rfl
 | row T size es=>
  obtain⟨hu,hz,xs,⟨hl,hh⟩,hr⟩:=hc
  rcases hh with ⟨rfl,_⟩|⟨g,cap,cur,rfl,h1,h2,h3⟩
  ·simp[ba] at hb
  ·simp[ba] at hb;subst hb;rw[h2] at ho;cases ho;rfl
 | oM T size es=>
  obtain⟨hu,hz,xs,⟨hl,hh⟩,hr⟩:=hc
  rcases hh with ⟨rfl,_⟩|⟨g,cap,cur,rfl,h1,h2,h3⟩
  ·simp[ba] at hb
  ·simp[ba] at hb;subst hb;rw[h2] at ho;cases ho;rfl
 | CZ T size es=>
  obtain⟨hu,hz,xs,⟨hl,hh⟩,hr⟩:=hc
  rcases hh with ⟨rfl,_⟩|⟨g,off,cap,cur,rfl,h2,h3⟩
  ·simp[ba] at hb
  ·simp[ba] at hb;subst hb;rw[h2] at ho;cases ho;rfl
def Cn (fx:List Nat) (own:List (Nat×OC)):Bool:=(fx.all fun k=>(aq own).contains k)&&own.all fun p=>p.2.plain
theorem CL {fx:List Nat} {own:List (Nat×OC)} (h:Cn fx own=true):∀ k,k∈fx->k∈aq own:=fun k hk=>by
 simp only[Cn,Bool.and_eq_true,List.all_eq_true] at h
 simpa using h.1 k hk
theorem y9 {fx:List Nat} {own:List (Nat×OC)} (h:Cn fx own=true):∀ k c,(k,c)∈own->c.plain=true:=fun k c hk=>by
 simp only[Cn,Bool.and_eq_true,List.all_eq_true] at h
 exact h.2 _ hk
theorem WR.self (hw:WR E n own h ρ w) (hp:∀ k c,(k,c)∈own->c.plain=true) (m:Nat) (d:List Deferred):WR (⟨w,h,ρ,hw.ax⟩:Env TB) ⟨m,aq own,ai own,d⟩ own h ρ w :=
 WR.sh (n:=⟨0,aq own,ai own,[]⟩) rfl rfl (EO hw.ax hw.agree (uc hw (fun _ _ hk=>hk) hp))
theorem WR.all {tb:cC TB h w} {m:Nat} {d:List Deferred} (hw:WR E n own h ρ w) (hc:WR (⟨w,h,ρ,tb⟩:Env TB) ⟨m,aq own,ai own,d⟩ own' h' ρ' w') (hf:∀ k,k∈n.fix->k∈aq own):WR E n own' h' ρ' w':=by
 have b0:∀ b,ry (⟨w,h,ρ,tb⟩:Env TB) ⟨m,aq own,ai own,d⟩ b->E.w0.heap.size<=b∨ry E n b:=fun b ⟨k,hk,hb⟩=>by
  obtain⟨⟨k',c⟩,hm,rfl⟩:=List.mem_map.1 hk
  exact ((hw.owned k' c hm).2.1 b (.inl hb)).1
 have hnl:∀ b,b<E.w0.heap.size->¬ ry E n b->¬ ry (⟨w,h,ρ,tb⟩:Env TB) ⟨m,aq own,ai own,d⟩ b:=fun b hb hl hl'=>by
  rcases b0 b hl' with h1|h1
  omega
  exact hl h1
 refine⟨hc.agree,PH.le_trans hw.le hc.le,fun b hb hl=>?_,Nat.le_trans hw.size hc.size,fun b hb hl=>?_,fun k hk=>?_,hc.os.trans hw.os,hc.out.trans hw.out,hw.nl,fun k c hk=>?_⟩
 exact (hc.fresh b (Nat.lt_of_lt_of_le hb hw.size) (hnl b hb hl)).trans (hw.fresh b hb hl)
 exact (hc.same b (Nat.lt_of_lt_of_le hb hw.size) (hnl b hb hl)).trans (hw.same b hb hl)
 exact (hc.fixed k (hf k hk)).trans (hw.fixed k hk)
 obtain⟨e1,e2,e3⟩:=hc.owned k c hk
 refine⟨e1,fun b hb=>⟨?_,(e2 b hb).2⟩,e3⟩
 rcases (e2 b hb).1 with h1|h1
 exact .inl (Nat.le_trans hw.size h1)
 exact b0 b h1
theorem WR.none {tb:cC TB h w} {m:Nat} {d:List Deferred} {ρ1:RM} (hw:WR E n own h ρ w) (hc:WR (⟨w,h,ρ1,tb⟩:Env TB) ⟨m,[],[],d⟩ own' h' ρ' w'):WR E n own h' ρ w':=by
 have b0:∀ b,¬ ry (⟨w,h,ρ1,tb⟩:Env TB) ⟨m,[],[],d⟩ b:=fun b ⟨k,hk,_⟩=>by simp at hk
 refine⟨hc.agree,PH.le_trans hw.le hc.le,fun b hb hl=>?_,Nat.le_trans hw.size hc.size,fun b hb hl=>?_,hw.fixed,hc.os.trans hw.os,hc.out.trans hw.out,hw.nl,fun k c hk=>?_⟩
 exact (hc.fresh b (Nat.lt_of_lt_of_le hb hw.size) (b0 b)).trans (hw.fresh b hb hl)
 exact (hc.same b (Nat.lt_of_lt_of_le hb hw.size) (b0 b)).trans (hw.same b hb hl)
 obtain⟨e1,e2,e3⟩:=hw.owned k c hk
 have b1:∀ j x,(j,x)∈own->∀ b,x.dK (ρ j) w' b->x.dK (ρ j) w b:=fun j x hj b=>OC.dK.congr fun b hb=>hc.same b ((hw.owned j x hj).1.lt (.inl hb)) (b0 b)
 refine⟨(e1.congr fun b hb=>hc.same b (e1.lt hb) (b0 b)).mono hc.le,fun b hb=>⟨(e2 b (b1 k c hk b hb)).1,fun o=>?_⟩,fun j x hj hjk b hb hb'=>e3 j x hj hjk b (b1 k c hk b hb) (b1 j x hj b hb')⟩
 have e:=hc.fresh b (e1.lt (b1 k c hk b hb)) (b0 b)
 rw[e]
 exact (e2 b (b1 k c hk b hb)).2 o
end
end Go.Sk
namespace Go.Sk
open Go Go.BigFrame
def each {α ι β:Type} (B:ι->α->Option (ι⊕β)):List α->ι->Option (ι⊕β)
 | [],v=>some (.inl v)
 | x::xs,v=>match B v x with
  | none=>none
  | some (.inl v')=>each B xs v'
  | some (.inr y)=>some (.inr y)
def mark (D:Nat):Deferred:={ target:=.collected D,args:=#[] }
section
variable {P:Program} {TB:aH} {E:Env TB} {n:Sh} {s s':St} {Q:bH} {x y assign body:Code}
theorem BG {own:List (Nat×OC)} {h:PH} {ρ:RM} {w:World} (hw:WR E n own h ρ w) {D:Nat} {o:Obj} (hD:w.heap[D]?=some o) (hi:Gx o=true) {tb:cC TB h w} {m:Nat} {bk:List Nat} {d:List Deferred}:¬ ry (⟨w,h,ρ,tb⟩:Env TB) ⟨m,bk,ai own,d⟩ D:=fun ⟨k,hk,hb⟩=>by
 obtain⟨⟨k',c⟩,hm,rfl⟩:=List.mem_map.1 hk
 have:=(hw.owned k' c hm).1.LU (.inl hb) hD
 rw[this] at hi
 simp at hi
theorem Jt {w:World} {D:Nat} {o:Obj} (hD:w.heap[D]?=some o):D<w.heap.size:=(Array.getElem?_eq_some_iff.1 hD).1
def RD {TB:aH} (E:Env TB) (n:Sh) (D:Nat) (s:St) (a:Act) (w:World):Prop :=
 a.defers=[mark D]/\a.tmps.size=n.n/\w.heap[D]?=some (.deferred (some []))/\E.w0.heap.size<=D/\∃ h ρ,WR E n s.own h ρ w/\bt h ρ s.slots a.tmps
end
end Go.Sk
namespace Go.Sk
open Go Go.BigFrame
section
variable {P:Program} {TB:aH} {E:Env TB} {n:Sh} {s s':St} {Q:bH} {x y assign body cd:Code}
def RetM (P:Program) (fn:Func) {TB:aH} (E:Env TB) (n:Sh) (post:er):bH
 | .normal,a,w=>∃ D,a.defers=[mark D]/\w.heap[D]?=some (.deferred (some []))/\E.w0.heap.size<=D/\∃ v,(∀ w₂,bL w w₂->(results fn a.tmps).run P w₂=.ok v w₂)/\jf E n post (.returned v) w
 | .ret,a,w=>∃ D,a.defers=[mark D]/\w.heap[D]?=some (.deferred (some []))/\E.w0.heap.size<=D/\∃ v,(∀ w₂,bL w w₂->(results fn a.tmps).run P w₂=.ok v w₂)/\jf E n post (.returned v) w
 | _,_,_=>False
theorem RD.rest {fn:Func} {post:er} {D:Nat} {a:Act} {w:World} (hr:RD E n D s a w) (hf:Cn n.fix s.own=true) (h:∀ E':Env TB,ah P E' ⟨n.n,aq s.own,ai s.own,[mark D]⟩ y s (zI P fn E' ⟨n.n,aq s.own,ai s.own,[mark D]⟩ post)):y.wp P (RetM P fn E n post) a w:=by
 obtain⟨h1,h2,h3,h4,hh,ρ,hw,hs⟩:=hr
 refine wp_mono (h ⟨w,hh,ρ,hw.ax⟩ a w ⟨h1,h2,hh,ρ,hw.self (y9 hf) _ _,hs⟩) ?_
 have key:∀ (a':Act) (w':World),(a'.defers=[mark D]/\∃ v,(∀ w₂,bL w' w₂->(results fn a'.tmps).run P w₂=.ok v w₂)/\jf (⟨w,hh,ρ,hw.ax⟩:Env TB) ⟨n.n,aq s.own,ai s.own,[mark D]⟩ post (.returned v) w') ->
  ∃ D,a'.defers=[mark D]/\w'.heap[D]?=some (.deferred (some []))/\E.w0.heap.size<=D/\∃ v,(∀ w₂,bL w' w₂->(results fn a'.tmps).run P w₂=.ok v w₂)/\jf E n post (.returned v) w':=by
  rintro a' w' ⟨g1,v,g2,v',own',res,h',ρ',e1,e2,e3,e4⟩
  refine⟨D,g1,(e3.same D (Jt h3) (BG hw h3 rfl)).trans h3,h4,v,g2,v',own',res,h',ρ',e1,e2,hw.all e3 fun k hk=>?_,e4⟩
  exact CL hf k hk
 rintro (_|_|_|_|_|_) a' w' h'
 all_goals first|exact key a' w' h'|exact h'.elim
theorem RD.ret {fn:Func} {post:er} {D:Nat} {a:Act} {w:World} (hr:RD E n D s a w) (hf:Cn n.fix s.own=true) (h:∀ E':Env TB,Fin E' ⟨n.n,aq s.own,ai s.own,[mark D]⟩ .ret s (zI P fn E' ⟨n.n,aq s.own,ai s.own,[mark D]⟩ post)):RetM P fn E n post .ret a w:=by
 obtain⟨h1,h2,h3,h4,hh,ρ,hw,hs⟩:=hr
 obtain⟨g1,v,g2,v',own',res,h',ρ',e1,e2,e3,e4⟩:=h ⟨w,hh,ρ,hw.ax⟩ a w ⟨h1,h2,hh,ρ,hw.self (y9 hf) _ _,hs⟩
 refine⟨D,h1,h3,h4,v,g2,v',own',res,h',ρ',e1,e2,hw.all e3 fun k hk=>?_,e4⟩
 exact CL hf k hk
end
section
variable {P:Program} {TB:aH} {E:Env TB} {n:Sh} {s:St} {dst:Option Nat} {t ty yt:TypeId} {pos:String} {after:Array Edge} {g:Option (Nat×Bool)} {x y c:Operand}
end
end Go.Sk
namespace Go.Sk
open Go Go.BigFrame
def JP (P:Program) (F:Fence) (ops:Array Oper) (Q:bH):List Oper->Act->World->Prop
 | [],a,w=>Q .normal a w
 | o::rest,a,w=>if Region.wanted o (yielded ops a.tmps) then o.wpIn F 0 P a w (JP P F ops Q rest) Q else JP P F ops Q rest (a.put o.dst undef) w
def wa (P:Program) {TB:aH} (E:Env TB) (n:Sh) (F:Fence) (ops:Array Oper) (l:List Oper) (s:St) (Q:bH):Prop:=∀ a w,R E n s a w->JP P F ops Q l a w
section
variable {P:Program} {TB:aH} {E:Env TB} {n:Sh} {ops:Array Oper} {l:List Oper} {s s':St} {Q:bH} {o:Oper} {F:Fence} {c:Code}
theorem wa.nil (h:Fin E n .normal s Q):wa P E n F ops [] s Q:=fun a w hr=>h a w hr
theorem wa.keep (ks kos:List Nat) (hs:s.keep ks kos=s') (h:wa P E n F ops l s' Q):wa P E n F ops l s Q:=fun a w hr=>h a w (hs▸hr.keep ks kos)
theorem wa.cons (hf:F=Fence.wide∨∃ l,F=rnd l) (hg:o.guard=none) (h1:aR P E n o s s') (h2:wa P E n F ops l s' Q) (hd:uY o=true:=by rfl):wa P E n F ops (o::l) s Q:=by
 intro a w hr
 unfold JP
 have:Region.wanted o (yielded ops a.tmps)=true:=by simp[Region.wanted,hg]
 simp only[this,if_true]
 exact Ds hf hd (fun a w h=>h) (h1 a w hr _ _ fun a' w' hr'=>h2 a' w' hr')
theorem wa.ED {j t:Nat} {want gd:Bool} (hf:F=Fence.wide∨∃ l,F=rnd l) (hG:nh s t want gd) (hgd:gd=true) (hg:o.guard=some (j,want)) (hj:(ops[j]?).bind (·.dst)=some t) (h1:aR P E n o s s') (h2:wa P E n F ops l s' Q) (hd:uY o=true:=by rfl):wa P E n F ops (o::l) s Q:=by
 intro a w hr
 unfold JP
 have:=hG.wanted hg hj hr
 rw[hgd] at this
 simp only[this,if_true]
 exact Ds hf hd (fun a w h=>h) (h1 a w hr _ _ fun a' w' hr'=>h2 a' w' hr')
theorem wa.opt (k:Nat) {z:BV} (hk:lk s.slots k=some (.b z)) (h:wa P E n F ops l ⟨(k,.opt true z)::del k s.slots,s.own⟩ Q):wa P E n F ops l s Q:=by
 rintro a w ⟨h1,hn,hh,ρ,hw,hs⟩
 refine h a w ⟨h1,hn,hh,ρ,hw,fun j x hx=>?_⟩
 rcases List.mem_cons.1 hx with e|hx
 obtain⟨rfl,rfl⟩:=Prod.mk.inj e
 obtain⟨v,hv,hr⟩:=hs _ _ (bj hk)
 exact⟨v,hv,fun _=>hr,fun e=>by simp at e⟩
 exact hs j x (cj hx).1
theorem R.fresh {h:PH} {ρ:RM} {w:World} {slots:List (Nat×SV)} {a:Act} {m:Nat} (tb:cC TB h w) (hag:pc h w) (hd:a.defers=[]) (hn:a.tmps.size=m) (hs:bt h ρ slots a.tmps):R (⟨w,h,ρ,tb⟩:Env TB) ⟨m,[],[],[]⟩ ⟨slots,[]⟩ a w :=
 ⟨hd,hn,h,ρ,WR.sh (n:=⟨0,aq [],ai [],[]⟩) rfl rfl (EO tb hag fun k c hk=>by simp at hk),hs⟩
end
section
variable {P:Program} {TB:aH} {E:Env TB} {n:Sh} {s:St} {dst:Option Nat} {t ty yt:TypeId} {pos:String} {after:Array Edge} {g:Option (Nat×Bool)} {x y c:Operand}
end
section
variable {P:Program} {t:TypeId}
end
end Go.Sk
namespace Go.Sk
open Go Go.BigFrame
def ob (k:Nat) (ps:List CP):List (Nat×SV)->List (Nat×SV)
 | []=>[]
 | (j,x)::l=>match x with
  | .b (.ptr k' o)=>if k'=k then (j,.b (.kG (ps.drop o)))::ob k ps l else (j,x)::ob k ps l
  | _=>(j,x)::ob k ps l
theorem yk {k:Nat} {ps:List CP}:∀ {l:List (Nat×SV)} {j:Nat} {x:SV},(j,x)∈ob k ps l->(j,x)∈l∨∃ o,x=.b (.kG (ps.drop o))/\(j,.b (.ptr k o))∈l
 | [],j,x,h=>by simp[ob] at h
 | (i,y)::l,j,x,h=>by
  have keep:(j,x)∈(i,y)::ob k ps l->(j,x)∈(i,y)::l∨∃ o,x=.b (.kG (ps.drop o))/\(j,.b (.ptr k o))∈(i,y)::l:=fun h=>by
   rcases List.mem_cons.1 h with e|h
   exact .inl (e▸List.mem_cons_self)
   rcases yk h with h|⟨o,e,h⟩
   exact .inl (List.mem_cons_of_mem _ h)
   exact .inr ⟨o,e,List.mem_cons_of_mem _ h⟩
  unfold ob at h
  split at h
  rename_i k' o
  split at h
  rename_i hk
  subst hk
  rcases List.mem_cons.1 h with e|h
  obtain⟨rfl,rfl⟩:=Prod.mk.inj e
  exact .inr ⟨o,rfl,List.mem_cons_self⟩
  rcases yk h with h|⟨o,e,h⟩
  exact .inl (List.mem_cons_of_mem _ h)
  exact .inr ⟨o,e,List.mem_cons_of_mem _ h⟩
  exact keep h
  exact keep h
section
variable {P:Program} {TB:aH} {E:Env TB} {n:Sh} {s:St} {ops:Array Oper} {l:List Oper} {Q:bH} {cd:Code}
theorem R.pw {k:Nat} {T:TypeId} {ps:List CP} {a:Act} {w:World} (hr:R E n s a w) (hk:lk s.own k=some (.box T ps)):R E n ⟨ob k ps s.slots,del k s.own⟩ a w:=by
 obtain⟨h1,h2,h,ρ,hw,hs⟩:=hr
 obtain⟨g,cur,hρ,hh,hc⟩:=iL hw hk
 have b0:=hw.owned k _ (bj hk)
 have hg:=b0.2.1 g (.inl (by rw[hρ];rfl))
 have hle:h.le (dn h g cur.toList):=fun b o v hv=>by
  unfold dn
  split
  rename_i e;subst e;rw[hg.2 o] at hv;simp at hv
  exact hv
 have hrd:Reads (dn h g cur.toList) g 0 ps:=fun j c hj=>by
  obtain⟨u,hu,hp⟩:=hc.get j c hj
  exact⟨u,by simp only[dn,if_true,Nat.zero_add];exact hu,c.mono hle hp⟩
 refine⟨h1,h2,dn h g cur.toList,ρ,⟨?_,PH.le_trans hw.le hle,?_,hw.size,hw.same,hw.fixed,hw.os,hw.out,hw.nl,?_⟩,?_⟩
 intro b o v hv
 unfold dn at hv
 split at hv
 rename_i e;subst e
 exact rS hh (by simpa using hv) (hc.one v (List.mem_of_getElem? hv))
 exact hw.agree b o v hv
 intro b hb hnl
 rw[← hw.fresh b hb hnl]
 funext o
 unfold dn
 rw[if_neg fun e=>by
  subst e
  rcases hg.1 with h|h
  omega
  exact hnl h]
 intro j c hj
 obtain⟨hj1,hj2⟩:=cj hj
 obtain⟨e1,e2,e3⟩:=hw.owned j c hj1
 refine⟨e1.mono hle,fun b hb=>⟨(e2 b hb).1,fun o=>?_⟩,fun j' c' hj'=>e3 j' c' (cj hj').1⟩
 have hbg:b≠g:=fun e=>by
  subst e
  exact e3 k _ (bj hk) (fun e=>hj2 e.symm) b hb (.inl (by rw[hρ];rfl))
 unfold dn
 rw[if_neg hbg]
 exact (e2 b hb).2 o
 intro j x hx
 rcases yk hx with b1|⟨o,rfl,b1⟩
 obtain⟨v,hv,b2⟩:=hs j x b1
 exact⟨v,hv,SV.mono hle (fun _ _=>rfl) b2⟩
 obtain⟨v,hv,b,e1,e2⟩:=hs j _ b1
 rw[hρ] at e1
 have:g=b:=by simpa using e1
 subst this
 exact⟨v,hv,g,o,e2,by have:=hrd.drop o;rwa [Nat.zero_add] at this⟩
theorem ah.pw (k:Nat) {T:TypeId} {ps:List CP} (hk:lk s.own k=some (.box T ps)) (h:ah P E n cd ⟨ob k ps s.slots,del k s.own⟩ Q):ah P E n cd s Q:=fun a w hr=>h a w (hr.pw hk)
theorem aj.pw (k:Nat) {T:TypeId} {ps:List CP} (hk:lk s.own k=some (.box T ps)) (h:aj P E n ops l ⟨ob k ps s.slots,del k s.own⟩ Q):aj P E n ops l s Q:=fun a w hr=>h a w (hr.pw hk)
theorem Fin.pw {e:Exit} (k:Nat) {T:TypeId} {ps:List CP} (hk:lk s.own k=some (.box T ps)) (h:Fin E n e ⟨ob k ps s.slots,del k s.own⟩ Q):Fin E n e s Q:=fun a w hr=>h a w (hr.pw hk)
end
end Go.Sk
namespace Go.Sk
open Go Go.BigFrame
section
variable {P:Program} {TB:aH} {E:Env TB} {n:Sh} {s:St} {dst:Option Nat} {ty:TypeId} {pos:String} {after:Array Edge} {g:Option (Nat×Bool)} {x y:Operand}
end
end Go.Sk
namespace Go.Sk
open Go Go.BigFrame
section
variable {P:Program} {TB:aH} {E:Env TB} {n:Sh} {s:St} {dst:Option Nat} {t ty yt:TypeId} {pos:String} {after:Array Edge} {g:Option (Nat×Bool)} {x y c:Operand} {Q:bH} {cd:Code} {ops:Array Oper} {l:List Oper}
variable {own:List (Nat×OC)} {h:PH} {ρ:RM} {w:World} {k kp i size bytes:Nat} {T e:TypeId} {hole:Ez} {ess:List (List (List CP))} {us:List Value} {v:Value}
theorem Aa.len (x:Aa h v w T e size hole ess us):us.length=ess.length:=by have:=x.out.1;omega
theorem Aa.at (x:Aa h v w T e size hole ess us) {i:Nat} {u:Value} (hi:us[i]?=some u):∃ es,ess[i]?=some es:=by
 have h4:i<us.length:=(List.getElem?_eq_some_iff.1 hi).1
 exact⟨_,List.getElem?_eq_getElem (by rw[← x.len];exact h4)⟩
theorem Aa.dK (x:Aa h v w T e size hole ess us) {b:Nat}:(OC.rr T e size hole ess).dK v w b↔ba v=some b∨∃ (i:Nat) (u:Value),us[i]?=some u/\¬ hole.has i/\ba u=some b:=or_congr Iff.rfl x.inner
theorem Aa.lt (x:Aa h v w T e size hole ess us) {i b:Nat} {u:Value} (h1:us[i]?=some u) (h2:¬ hole.has i) (h3:ba u=some b):b<w.heap.size:=by
 obtain⟨es,hes⟩:=x.at h1
 obtain⟨xs,h6,_⟩:=(x.rows i u es h1 hes h2).row
 exact vG h6 h3
end
end Go.Sk
namespace Go.Sk
open Go Go.BigFrame
section
variable {P:Program} {TB:aH} {E:Env TB} {n:Sh} {s:St} {dst:Option Nat} {t ty yt:TypeId} {pos:String} {after:Array Edge} {g:Option (Nat×Bool)} {x y c:Operand} {Q:bH} {cd:Code} {ops:Array Oper} {l:List Oper} {o:Oper}
variable {own:List (Nat×OC)} {h:PH} {ρ:RM} {w:World} {k kp i size bytes:Nat} {T e:TypeId} {hole:Ez} {ess:List (List (List CP))} {us:List Value} {v:Value}
variable {j ki:Nat} {m rest:MapI} {cur:Option (Int×Int)}
def xcv:List BV->Option (List CV)
 | []=>some []
 | z::l=>(BV.cv z).bind fun q=>(xcv l).map fun r=>q::r
theorem HO:∀ {zs:List BV} {cs:List CV} {vs:List Value},xcv zs=some cs->aO (fun (x:BV) u=>x.rel h ρ u/\u.oneCell'=true) zs vs->aO (fun (x:CV) u=>x.rel h ρ u/\u.oneCell'=true) cs vs
 | [],cs,_,hc,.nil=>by cases hc;exact .nil
 | z::zs,cs,_,hc,.cons h1 t=>by
  unfold xcv at hc
  simp only[Option.bind_eq_some_iff,Option.map_eq_some_iff] at hc
  obtain⟨q,hq,r,hr,rfl⟩:=hc
  exact .cons ⟨BV.K4 hq h1.1,h1.2⟩ (HO hr t)
theorem aR.res {s1:St} {d:Option Nat} {z z':SV} (h1:aR P E n o s (s1.put n d z)) (hz:∀ h ρ v,z.rel h ρ v->z'.rel h ρ v):aR P E n o s (s1.put n d z'):=fun a w hr next Q hn=>h1 a w hr next Q fun a' w' b0=>hn a' w' (by
 cases d with
 | none=>exact b0
 | some d=>
  simp only[St.put,St.set] at b0 ⊢
  split at b0
  next hd=>
   rw[if_pos hd]
   obtain⟨h1,h2,h,ρ,hw,hs⟩:=b0
   refine⟨h1,h2,h,ρ,hw,fun j q hq=>?_⟩
   cases List.mem_cons.1 hq with
   | inl e=>
    obtain⟨rfl,rfl⟩:=Prod.mk.inj e
    obtain⟨u,hu,b1⟩:=hs j z List.mem_cons_self
    exact⟨u,hu,hz _ _ _ b1⟩
   | inr e=>exact hs j q (List.mem_cons_of_mem _ e)
  next hd=>rw[if_neg hd];exact b0)
theorem Fy {k off m:Nat} {T:TypeId} {cs cs':List BV} {z:SV} {qs:List BV} (ht:gN P t m) (hx:s.ev x=some (.b (.ptr k off))) (hk:lk s.own k=some (.bb T cs)) (hy:s.ev y=some z) (hz:z.vw s.own=some qs) (hq:qs.length=m) (hlt:off+m<=cs.length) (hps:Sk.aP cs off qs=cs') :
 aR P E n ⟨none,.store t x y,ty,pos,after,g⟩ s ⟨s.slots,ins k (.bb T cs') s.own⟩ :=
 aR.store (o:=⟨none,.store t x y,ty,pos,after,g⟩) rfl fun ac w h ρ hw hs=>by
  obtain⟨b,he,hv⟩:=(aE hs hx:BV.rel h ρ (.ptr k off) _)
  obtain⟨b',cur,hb1,hb2,hb3⟩:=fG hw hk
  have:b'=b:=by rw[hb1] at he;simpa using he
  subst this
  have b1:=SV.Be hw hz (aE hs hy)
  obtain⟨i,hi,hm⟩:=ht.size
  have hlen:=hb3.length
  have b0:=b1.length
  have b2:∀ u∈(ac.eval y).cells.toList,u.oneCell'=true:=fun u hu=>by
   obtain⟨q,_,hq⟩:=aO.CE b1 hu
   exact hq.2
  have b3:=jX (P:=P) (t:=t) hi hm hb2 (v:=ac.eval y) (o:=off) (by simp at b0;omega) (by simp at hlen;omega) b2
  refine⟨_,by simp only[execOp,hv,Instr.storeAt,Instr.sureAddr];simp[b3];rfl,?_⟩
  refine hw.setX hk hb1 hb2 ?_
  rw[← hps]
  exact aO.aP hb3 b1 off
end
end Go.Sk
namespace Go.Sk
open Go
def dj {α:Type} (m:Option α) (Q:α->Prop):Prop:=∃ x,m=some x/\Q x
section
variable {α β γ δ ε:Type} {m:Option α} {Q:β->Prop} {P:α->Prop}
theorem dj.some {x:β} (h:Q x):dj (some x) Q:=⟨x,rfl,h⟩
theorem dj.bind {k:α->Option β} (h:dj m P) (h2:∀ x,P x->dj (k x) Q):dj (m.bind k) Q:=by
 obtain⟨x,rfl,hp⟩:=h
 exact h2 x hp
theorem dj.bindE {k:α->Option β} {x:α} (h:m=Option.some x) (h2:dj (k x) Q):dj (m.bind k) Q:=by
 subst h;exact h2
theorem dj.ite {c:Bool} {A B:Option β} (h1:c=true->dj A Q) (h2:c=false->dj B Q):dj (if c=true then A else B) Q:=by
 cases c
 exact h2 rfl
 exact h1 rfl
theorem dj.ln {a:γ} {k:γ->Option β} (h:dj (k a) Q):dj (bA a k) Q:=h
theorem dj.eq {x:α} (h:dj m (·=x)):m=Option.some x:=by obtain⟨y,h1,h2⟩:=h;rw[h1,h2]
theorem dj.of {x:α} (h:m=Option.some x):dj m (·=x):=⟨x,h,rfl⟩
theorem dj.mono {P':α->Prop} (h:dj m P) (h2:∀ x,P x->P' x):dj m P':=by obtain⟨x,h1,h3⟩:=h;exact⟨x,h1,h2 x h3⟩
theorem dj.idx [Inhabited α] {l:List α} {i:Int} {k:α->Option β} (h0:0<=i) (h1:i<l.length) (h:dj (k (idx l i)) Q):dj ((aD l i).bind k) Q:=by
 rw[zT h0 h1];exact h
theorem dj.g1 [Inhabited α] {g:Bool} {k:α->Option β} (hg:g=true) (h:dj (m.bind k) Q):dj ((aW g m).bind k) Q:=by subst hg;exact h
theorem dj.g0 [Inhabited α] {g:Bool} {k:α->Option β} (hg:g=false) (h:dj (k default) Q):dj ((aW g m).bind k) Q:=by subst hg;exact h
theorem dj.quo {kd:IntKind} {a b:Int} {k:Int->Option β} (h0:b≠0) (h:dj (k (kd.wrap (a.tdiv b))) Q):dj ((o9 kd a b).bind k) Q:=by
 simp only[o9,h0,if_false];exact h
theorem dj.rem {a b:Int} {k:Int->Option β} (h0:b≠0) (h:dj (k (a.tmod b)) Q):dj ((lG a b).bind k) Q:=by
 simp only[lG,h0,if_false];exact h
theorem dj.take {xs:List α} {i:Int} {k:List α->Option β} (h0:0<=i) (h1:i<=xs.length) (h:dj (k (xs.take i.toNat)) Q):dj ((s6 xs i).bind k) Q:=by
 simp only[s6,h0,h1,and_self,if_true];exact h
theorem dj.drop {xs:List α} {i:Int} {k:List α->Option β} (h0:0<=i) (h1:i<=xs.length) (h:dj (k (xs.drop i.toNat)) Q):dj ((p6 xs i).bind k) Q:=by
 simp only[p6,h0,h1,and_self,if_true];exact h
theorem dj.rounds {σ τ:Type} {body:σ->Option (σ⊕τ)} {Q:τ->Prop} (n:Nat) (I:Nat->σ->Prop) {s:σ} {F:Nat} (hF:n<F) (h0:I 0 s)
 (step:∀ k s,k<=n->I k s->dj (body s) fun o=>(∃ s',o=.inl s'/\I (k+1) s'/\k<n)∨∃ t,o=.inr t/\Q t):dj (iter F body s) Q:=by
 have key:∀ d F k s,k+d=n->d<F->I k s->dj (iter F body s) Q:=by
  intro d
  induction d with
  | zero=>
   intro F k s hk hF hI
   obtain⟨F,rfl⟩:∃ f,F=f+1:=⟨F-1,by omega⟩
   obtain⟨o,ho,h⟩:=step k s (by omega) hI
   rw[gi,ho]
   rcases h with ⟨s',rfl,_,hlt⟩|⟨t,rfl,hq⟩
   omega
   exact⟨t,rfl,hq⟩
  | succ d ih=>
   intro F k s hk hF hI
   obtain⟨F,rfl⟩:∃ f,F=f+1:=⟨F-1,by omega⟩
   obtain⟨o,ho,h⟩:=step k s (by omega) hI
   rw[gi,ho]
   rcases h with ⟨s',rfl,hI',_⟩|⟨t,rfl,hq⟩
   exact ih F (k+1) s' (by omega) (by omega) hI'
   exact⟨t,rfl,hq⟩
 exact key n F 0 s (by omega) hF h0
theorem dj.loop {σ τ:Type} {body:σ->Option (σ⊕τ)} {Q:τ->Prop} (I:σ->Prop) (μ:σ->Nat) {s:σ} {F:Nat} (h0:I s) (hF:μ s<F)
 (step:∀ s,I s->dj (body s) fun o=>(∃ s',o=.inl s'/\I s'/\μ s'<μ s)∨∃ t,o=.inr t/\Q t):dj (iter F body s) Q:=by
 refine Jw I μ Q (fun s hI=>?_) F s h0 hF
 obtain⟨o,ho,h⟩:=step s hI
 refine⟨o,ho,fun s' e=>?_,fun t e=>?_⟩
 subst e
 rcases h with ⟨s'',e,h1,h2⟩|⟨t,e,_⟩
 cases e;exact⟨h1,h2⟩
 cases e
 subst e
 rcases h with ⟨s'',e,_⟩|⟨t',e,h1⟩
 cases e
 cases e;exact h1
end
theorem wu64 (z:Int):u64.wrap z=z%18446744073709551616:=by simp[IntKind.wrap,IntKind.signed,IntKind.bits]
theorem wi64 (z:Int):i64.wrap z=(z+9223372036854775808)%18446744073709551616-9223372036854775808:=by
 simp[IntKind.wrap,IntKind.signed,IntKind.bits];split<;>omega
theorem J6 {z:Int} (h1:-9223372036854775808<=z) (h2:z<=9223372036854775807):i64.wrap z=z:=by rw[wi64];omega
def ds (b:Int) (f:Nat->Int):Nat->Int
 | 0=>0
 | n+1=>ds b f n+f n*b ^ n
def nd (b z:Int) (i:Nat):Int:=z/b ^ i%b
end Go.Sk
namespace Go.Sk
open Go Go.BigFrame
@[reducible] def un9 {A1 A2 A3 A4 A5 A6 A7 A8 A9 γ:Type} (f:A1->A2->A3->A4->A5->A6->A7->A8->A9->γ) (z:A1×A2×A3×A4×A5×A6×A7×A8×A9):γ:=f z.1 z.2.1 z.2.2.1 z.2.2.2.1 z.2.2.2.2.1 z.2.2.2.2.2.1 z.2.2.2.2.2.2.1 z.2.2.2.2.2.2.2.1 z.2.2.2.2.2.2.2.2
@[reducible] def un10 {A1 A2 A3 A4 A5 A6 A7 A8 A9 A10 γ:Type} (f:A1->A2->A3->A4->A5->A6->A7->A8->A9->A10->γ) (z:A1×A2×A3×A4×A5×A6×A7×A8×A9×A10):γ:=f z.1 z.2.1 z.2.2.1 z.2.2.2.1 z.2.2.2.2.1 z.2.2.2.2.2.1 z.2.2.2.2.2.2.1 z.2.2.2.2.2.2.2.1 z.2.2.2.2.2.2.2.2.1 z.2.2.2.2.2.2.2.2.2
@[reducible] def un11 {A1 A2 A3 A4 A5 A6 A7 A8 A9 A10 A11 γ:Type} (f:A1->A2->A3->A4->A5->A6->A7->A8->A9->A10->A11->γ) (z:A1×A2×A3×A4×A5×A6×A7×A8×A9×A10×A11):γ:=f z.1 z.2.1 z.2.2.1 z.2.2.2.1 z.2.2.2.2.1 z.2.2.2.2.2.1 z.2.2.2.2.2.2.1 z.2.2.2.2.2.2.2.1 z.2.2.2.2.2.2.2.2.1 z.2.2.2.2.2.2.2.2.2.1 z.2.2.2.2.2.2.2.2.2.2
@[reducible] def un12 {A1 A2 A3 A4 A5 A6 A7 A8 A9 A10 A11 A12 γ:Type} (f:A1->A2->A3->A4->A5->A6->A7->A8->A9->A10->A11->A12->γ) (z:A1×A2×A3×A4×A5×A6×A7×A8×A9×A10×A11×A12):γ:=f z.1 z.2.1 z.2.2.1 z.2.2.2.1 z.2.2.2.2.1 z.2.2.2.2.2.1 z.2.2.2.2.2.2.1 z.2.2.2.2.2.2.2.1 z.2.2.2.2.2.2.2.2.1 z.2.2.2.2.2.2.2.2.2.1 z.2.2.2.2.2.2.2.2.2.2.1 z.2.2.2.2.2.2.2.2.2.2.2
@[reducible] def un13 {A1 A2 A3 A4 A5 A6 A7 A8 A9 A10 A11 A12 A13 γ:Type} (f:A1->A2->A3->A4->A5->A6->A7->A8->A9->A10->A11->A12->A13->γ) (z:A1×A2×A3×A4×A5×A6×A7×A8×A9×A10×A11×A12×A13):γ:=f z.1 z.2.1 z.2.2.1 z.2.2.2.1 z.2.2.2.2.1 z.2.2.2.2.2.1 z.2.2.2.2.2.2.1 z.2.2.2.2.2.2.2.1 z.2.2.2.2.2.2.2.2.1 z.2.2.2.2.2.2.2.2.2.1 z.2.2.2.2.2.2.2.2.2.2.1 z.2.2.2.2.2.2.2.2.2.2.2.1 z.2.2.2.2.2.2.2.2.2.2.2.2
@[reducible] def un14 {A1 A2 A3 A4 A5 A6 A7 A8 A9 A10 A11 A12 A13 A14 γ:Type} (f:A1->A2->A3->A4->A5->A6->A7->A8->A9->A10->A11->A12->A13->A14->γ) (z:A1×A2×A3×A4×A5×A6×A7×A8×A9×A10×A11×A12×A13×A14):γ:=f z.1 z.2.1 z.2.2.1 z.2.2.2.1 z.2.2.2.2.1 z.2.2.2.2.2.1 z.2.2.2.2.2.2.1 z.2.2.2.2.2.2.2.1 z.2.2.2.2.2.2.2.2.1 z.2.2.2.2.2.2.2.2.2.1 z.2.2.2.2.2.2.2.2.2.2.1 z.2.2.2.2.2.2.2.2.2.2.2.1 z.2.2.2.2.2.2.2.2.2.2.2.2.1 z.2.2.2.2.2.2.2.2.2.2.2.2.2
@[reducible] def un15 {A1 A2 A3 A4 A5 A6 A7 A8 A9 A10 A11 A12 A13 A14 A15 γ:Type} (f:A1->A2->A3->A4->A5->A6->A7->A8->A9->A10->A11->A12->A13->A14->A15->γ) (z:A1×A2×A3×A4×A5×A6×A7×A8×A9×A10×A11×A12×A13×A14×A15):γ:=f z.1 z.2.1 z.2.2.1 z.2.2.2.1 z.2.2.2.2.1 z.2.2.2.2.2.1 z.2.2.2.2.2.2.1 z.2.2.2.2.2.2.2.1 z.2.2.2.2.2.2.2.2.1 z.2.2.2.2.2.2.2.2.2.1 z.2.2.2.2.2.2.2.2.2.2.1 z.2.2.2.2.2.2.2.2.2.2.2.1 z.2.2.2.2.2.2.2.2.2.2.2.2.1 z.2.2.2.2.2.2.2.2.2.2.2.2.2.1 z.2.2.2.2.2.2.2.2.2.2.2.2.2.2
@[reducible] def un16 {A1 A2 A3 A4 A5 A6 A7 A8 A9 A10 A11 A12 A13 A14 A15 aY γ:Type} (f:A1->A2->A3->A4->A5->A6->A7->A8->A9->A10->A11->A12->A13->A14->A15->aY->γ) (z:A1×A2×A3×A4×A5×A6×A7×A8×A9×A10×A11×A12×A13×A14×A15×aY):γ:=f z.1 z.2.1 z.2.2.1 z.2.2.2.1 z.2.2.2.2.1 z.2.2.2.2.2.1 z.2.2.2.2.2.2.1 z.2.2.2.2.2.2.2.1 z.2.2.2.2.2.2.2.2.1 z.2.2.2.2.2.2.2.2.2.1 z.2.2.2.2.2.2.2.2.2.2.1 z.2.2.2.2.2.2.2.2.2.2.2.1 z.2.2.2.2.2.2.2.2.2.2.2.2.1 z.2.2.2.2.2.2.2.2.2.2.2.2.2.1 z.2.2.2.2.2.2.2.2.2.2.2.2.2.2.1 z.2.2.2.2.2.2.2.2.2.2.2.2.2.2.2
section
variable {P:Program} {TB:aH} {E:Env TB} {n:Sh} {s:St} {dst:Option Nat} {t ty yt:TypeId} {pos:String} {after:Array Edge} {g:Option (Nat×Bool)} {x y c:Operand} {Q:bH} {cd:Code} {ops:Array Oper} {l:List Oper} {o:Oper}
variable {k kp i size bytes:Nat} {T e:TypeId} {hole:Ez} {ess:List (List (List CP))} {q:List (List CP)}
theorem aI.Hv {P:Program} {TB:aH} {f:FuncId} {args:List BV} {own_a own':List (Nat×OC)} {T:TypeId} {size:Nat} {es:List (List CP)} {res:SV} (h:aI P TB f own_a args (Is own' res)) (k0:Nat) (hk:lk own' k0=some (.row T size es)):aI P TB f own_a args (Is (pb k0 (.sl size es) (del k0 own')) (res.du k0 (.sl size es))):=by
 intro w hh ρ vals tb hag hl b0
 refine (h w hh ρ vals tb hag hl b0).mono ?_
 rintro e w' ⟨v,own',res,h',ρ',rfl,⟨rfl,rfl⟩,hw,b1⟩
 have hR:R ⟨w,hh,ρ,tb⟩ ⟨1,aq own_a,ai own_a,[]⟩ ⟨[(0,res)],own'⟩ ⟨#[v],[]⟩ w':=⟨rfl,rfl,h',ρ',WR.sh (n:=⟨0,aq own_a,ai own_a,[]⟩) (n':=⟨1,aq own_a,ai own_a,[]⟩) rfl rfl hw,fun k x hx=>by
  simp only[List.mem_singleton,Prod.mk.injEq] at hx
  obtain⟨rfl,rfl⟩:=hx
  exact⟨v,by simp,b1⟩⟩
 obtain⟨_,_,h'',ρ'',b2,b3⟩:=hR.im (k:=k0) hk
 obtain⟨u,hu,hur⟩:=b3 0 (res.du k0 (.sl size es)) (by simp[qW])
 have huv:u=v:=by simpa using hu.symm
 subst huv
 exact⟨u,_,_,h'',ρ'',rfl,⟨rfl,rfl⟩,WR.sh (n:=⟨1,aq own_a,ai own_a,[]⟩) (n':=⟨0,aq own_a,ai own_a,[]⟩) rfl rfl b2,hur⟩
theorem aR.then' {s1 s2:St} (h1:aR P E n o s s1) (h:∀ a w,R E n s1 a w->R E n s2 a w):aR P E n o s s2:=fun a w hr next Q hn=>h1 a w hr next Q fun a' w' hr'=>hn a' w' (h a' w' hr')
theorem aR.IP (kos:List Nat) {s1 s2:St} (h1:aR P E n o s s1) (e:(⟨s1.slots,ss kos s1.own⟩:St)=s2):aR P E n o s s2:=h1.then' fun a w hr=>e▸(by
 obtain⟨hd,hn,h,ρ,hw,hs⟩:=hr
 exact⟨hd,hn,h,ρ,hw.sub fun _ hp=>mR hp,hs⟩)
theorem aR.du (k:Nat) {s1:St} {es:List (List CP)} (h1:aR P E n o s s1) (hk:lk s1.own k=some (.row T size es)):aR P E n o s ⟨qW k (.sl size es) s1.slots,pb k (.sl size es) (del k s1.own)⟩:=h1.then' fun a w hr=>hr.im hk
theorem DO {α:Type} (k:Nat):∀ l:List (Nat×α),del k (del k l)=del k l
 | []=>rfl
 | (j,x)::l=>by
  by_cases h:k==j
  simp only[del,h,if_true];exact DO k l
  simp[del,h,DO k l]
theorem Ik {α:Type} (k:Nat) (c c0:α):∀ l:List (Nat×α),ins k c (ins k c0 l)=ins k c l
 | []=>by simp[ins,del]
 | (j,x)::l=>by
  by_cases h:k==j
  simp only[ins,h,if_true];simp[ins,DO]
  simp[ins,h,Ik k c c0 l]
theorem qH {α:Type} (k:Nat) (c:α):∀ l:List (Nat×α),lk (ins k c l) k=some c
 | []=>by simp[ins,lk]
 | (j,x)::l=>by
  by_cases h:k==j
  simp[ins,h,lk]
  simp[ins,lk,h,qH k c l]
theorem ah.pf (k i size:Nat) {T:TypeId} {ps:List CP} (hk:lk s.own k=some (.box T ps)) (hi:ps[i]?=some .nil) (hz:0<size) (h:ah P E n cd ⟨s.slots,ins k (.box T (ps.set i (.sl size []))) s.own⟩ Q):ah P E n cd s Q:=fun a w hr=>h a w (hr.pf hk hi hz)
theorem aj.pf (k i size:Nat) {T:TypeId} {ps:List CP} (hk:lk s.own k=some (.box T ps)) (hi:ps[i]?=some .nil) (hz:0<size) (h:aj P E n ops l ⟨s.slots,ins k (.box T (ps.set i (.sl size []))) s.own⟩ Q):aj P E n ops l s Q:=fun a w hr=>h a w (hr.pf hk hi hz)
inductive wj:List CP->List CP->Prop
 | nil:wj [] []
 | same {p:CP} {ps qs:List CP}:wj ps qs->wj (p::ps) (p::qs)
 | sl {size:Nat} {ps qs:List CP}:0<size->wj ps qs->wj (.nil::ps) (.sl size []::qs)
inductive rI:List BV->List BV->Prop
 | nil:rI [] []
 | same {p:BV} {ps qs:List BV}:rI ps qs->rI (p::ps) (p::qs)
 | sl {size:Nat} {ps qs:List BV}:0<size->rI ps qs->rI (.one .nil::ps) (.one (.sl size [])::qs)
theorem KL {h:PH} {size:Nat} {v:Value} (hz:0<size) (hr:CP.nil.rel h v):(CP.sl size []).rel h v:=⟨fun ps hps=>by simp at hps,hz,.inl ⟨hr.1,rfl⟩⟩
theorem wj.rel {h:PH}:∀ {ps qs:List CP} {vs:List Value},wj ps qs->aB h ps vs->aB h qs vs
 | _,_,_,.nil,hr=>hr
 | _,_,_,.same hn,.cons a b=>.cons a (wj.rel hn b)
 | _,_,_,.sl hz hn,.cons a b=>.cons (KL hz a) (wj.rel hn b)
theorem rI.rel {h:PH} {ρ:RM}:∀ {ps qs:List BV} {vs:List Value},rI ps qs->aO (fun (x:BV) u=>x.rel h ρ u/\u.oneCell'=true) ps vs->aO (fun (x:BV) u=>x.rel h ρ u/\u.oneCell'=true) qs vs
 | _,_,_,.nil,hr=>hr
 | _,_,_,.same hn,.cons a b=>.cons a (rI.rel hn b)
 | _,_,_,.sl hz hn,.cons a b=>.cons ⟨KL hz a.1,a.2⟩ (rI.rel hn b)
theorem aR.weak {s1:St} {x x':SV} (h1:aR P E n o s (s1.put n o.dst x)) (hx:∀ (h:PH) (ρ:RM) (v:Value),x.rel h ρ v->x'.rel h ρ v):aR P E n o s (s1.put n o.dst x'):=h1.then' fun a w hr=>by
 obtain⟨hd,hn,h,ρ,hw,hs⟩:=hr
 have b1:∀ (x:SV),(s1.put n o.dst x).own=s1.own:=fun x=>by
  unfold St.put;split
  unfold St.set;split<;>rfl
  rfl
 refine⟨hd,hn,h,ρ,by rw[b1] at hw ⊢;exact hw,fun j y hy=>?_⟩
 cases b0:o.dst with
 | none=>rw[b0] at hy hs;exact hs j y hy
 | some d=>
  rw[b0] at hy hs
  simp only[St.put,St.set] at hy hs
  split at hy
  next b2=>
   simp only[b2,if_true] at hs
   cases List.mem_cons.1 hy with
   | inl e=>
    obtain⟨rfl,rfl⟩:=Prod.mk.inj e
    obtain⟨v,hv,b3⟩:=hs j x List.mem_cons_self
    exact⟨v,hv,hx h ρ v b3⟩
   | inr e=>exact hs j y (List.mem_cons_of_mem _ e)
  next b2=>
   simp only[b2,if_false] at hs
   exact hs j y hy
end
section
variable {P:Program} {TB:aH} {E:Env TB} {n:Sh} {s:St} {Q:bH} {cd:Code} {ops:Array Oper} {l:List Oper}
end
section
variable {P:Program} {TB:aH} {E:Env TB} {n:Sh} {s:St} {dst:Option Nat} {t ty yt:TypeId} {pos:String} {after:Array Edge} {g:Option (Nat×Bool)} {x y c:Operand}
end
section
open Go Go.BigFrame Go.RowKit Go.Proofs Go.Shelf
variable {P:Program} {TB:aH} {ρ:Ren}
end
end Go.Sk
namespace Go.Sk
open Go Go.ChangeShapes Go.WideShapes Go.ChangeAt Go.RowKit Go.Deep
theorem ji.sl {P:Program} {t el:TypeId} {α:Type} {e:α->List CP} {size:Nat} (ht:P.underlying t=some (.slice el)) (hc:P.cellsOf t=1) (hr:ji P el e) (hs:P.cellsOf el=size) (b0:0<size):ji P t (eL size e) where
 len _:=by simp[hc,eL]
 op {H enc W sp held fuel cs x} hsp hf:=by
  subst hs
  have hu:∀ l:List α,ca (P.cellsOf el) (l.map e):=fun l=>jN fun x=>hr.len x
  rcases open_slice ht hf with ⟨h1,hx0⟩|⟨a,len,cap,m,n,D,Pl,h1,hb,hl,hm,hmm,hx,hi⟩
  subst h1
  exact⟨[],.cons ⟨hu [],b0,.inl ⟨rfl,rfl⟩⟩ .nil⟩
  subst h1
  rw[hsp,if_pos rfl] at hmm
  subst hmm
  by_cases hm0:m=0
  subst hm0
  have:len=0:=by omega
  subst this
  exact⟨[],.cons ⟨hu [],b0,.inr (.inr ⟨a,rfl,rfl⟩)⟩ .nil⟩
  obtain⟨l,c3,hp⟩:=kN (p:=fun i a'=>aB (full W) (e a') ((W.cells? 0 (a.add (i*P.cellsOf el)) (P.cellsOf el)).getD [])) len fun i hil=>by
   obtain⟨c4,h2,h3⟩:=hi i (by omega)
   obtain⟨a',ha'⟩:=hr.op hsp h3
   exact⟨a',by rw[h2];exact ha'⟩
  have b2:a.spot=none:=by
   obtain⟨c4,h2,_⟩:=hi 0 (by omega)
   obtain⟨_,hcl,b1⟩:=World.cells?_some h2
   have h3:=b1 0 b0
   rw[Nat.zero_mul] at h3
   have e0:(a.add 0).add 0=a:=by simp[Addr.add]
   rw[e0] at h3
   have hlt:0<c4.length:=by omega
   rw[List.getElem?_eq_getElem hlt] at h3
   unfold World.cell? at h3
   split at h3
   split at h3
   cases h3
   next hns=>simpa using hns
   cases h3
  obtain⟨b,o,s⟩:=a
  simp only at b2
  subst b2
  refine⟨l,.cons ⟨hu l,b0,.inr (.inl ⟨b,o,m,by simp[c3],by simp[c3];omega,hm,?_⟩)⟩ .nil⟩
  intro j c hj
  have hjl:j<(l.map e).flatten.length:=(List.getElem?_eq_some_iff.1 hj).1
  rw[gp (hu l),List.length_map,c3] at hjl
  have hi':j/P.cellsOf el<len:=by
   rw[Nat.div_lt_iff_lt_mul b0];exact hjl
  have hj':j%P.cellsOf el<P.cellsOf el:=Nat.mod_lt _ b0
  have hdm:=Nat.div_add_mod j (P.cellsOf el)
  obtain⟨c4,h2,h3⟩:=hi (j/P.cellsOf el) (by omega)
  have hli:l[j/P.cellsOf el]?=some (l[j/P.cellsOf el]'(by omega)):=List.getElem?_eq_getElem (by omega)
  have b3:=hp _ _ hli
  rw[h2] at b3
  have c2:=jo (hu l) (j/P.cellsOf el) (e (l[j/P.cellsOf el]'(by omega))) (by rw[List.getElem?_map,hli];rfl) (j%P.cellsOf el) hj'
  have ej:j/P.cellsOf el*P.cellsOf el+j%P.cellsOf el=j:=by rw[Nat.mul_comm];omega
  rw[ej,hj] at c2
  obtain⟨u,hu1,hu2⟩:=aO.get b3 _ _ c2.symm
  refine⟨u,?_,hu2⟩
  obtain⟨_,hcl,b1⟩:=World.cells?_some h2
  have:=b1 _ hj'
  simp only[Option.getD_some] at hu1
  have ea:((⟨b,o,none⟩:Addr).add (j/P.cellsOf el*P.cellsOf el)).add (j%P.cellsOf el)=⟨b,o+j,none⟩:=by
   rw[gZ,gZ,Nat.add_assoc,ej]
  rw[hu1,ea] at this
  exact gr this (CP.one _ hu2)
end Go.Sk
namespace Go.Sk
open Go
theorem GV {h:PH} {size:Nat} {es:List (List CP)} {v:Value} (hv:(CP.sl size es).rel h v) {ps:List CP} (b0:ps∈es) {p:CP} (hp:p∈ps):∃ u,p.rel h u:=by
 obtain⟨_,_,⟨_,rfl⟩|⟨b,o,c,_,_,_,hr⟩|⟨_,_,rfl⟩⟩:=hv
 cases b0
 have hm:p∈es.flatten:=List.mem_flatten.2 ⟨ps,b0,hp⟩
 obtain⟨i,hi,rfl⟩:=List.getElem_of_mem hm
 obtain⟨u,_,hu⟩:=hr i _ (List.getElem?_eq_getElem hi)
 exact⟨u,hu⟩
 cases b0
end Go.Sk
namespace Go.Sk
open Go Go.ChangeShapes Go.WideShapes Go.ChangeAt Go.RowKit Go.Deep
structure BkOk {H:Type} (bk:DataW H->Nat):Prop where
 len:∀ els sp,els.length<=bk (.slice els sp)
 sl:∀ els sp d,d∈els->bk d<=bk (.slice els sp)
 agg:∀ ps d,d∈ps->bk d<=bk (.agg ps)
 str:∀ b:List UInt8,b.length<=bk (.lit (.string b))
structure qf (P:Program) (t:TypeId) {α:Type} (e:α->List CP) (B:α->Nat->Prop):Prop where
 len:∀ a,(e a).length=P.cellsOf t
 mono:∀ a n m,B a n->n<=m->B a m
 op:∀ {H:Type} {enc:TypeId×Value->H} {W:World} {sp:Nat->Bool} {held:Bool} {fuel:Nat} {cs:List Value} {x:DataW H×List MemPlace},(∀ b,sp b=true)->DataW.trod enc P W 0 sp held fuel t cs=some x->∃ a,aB (full W) (e a) cs/\∀ bk:DataW H->Nat,BkOk bk->B a (bk x.1)
theorem qf.sl {P:Program} {t el:TypeId} {α:Type} {e:α->List CP} {B:α->Nat->Prop} {size:Nat} (ht:P.underlying t=some (.slice el)) (hc:P.cellsOf t=1) (hr:qf P el e B) (hs:P.cellsOf el=size) (b0:0<size):qf P t (eL size e) (fun l n=>l.length<=n/\∀ a∈l,B a n) where
 len _:=by simp[hc,eL]
 mono l n m h hnm:=⟨by have:=h.1;omega,fun a ha=>hr.mono a n m (h.2 a ha) hnm⟩
 op {H enc W sp held fuel cs x} hsp hf:=by
  subst hs
  have hu:∀ l:List α,ca (P.cellsOf el) (l.map e):=fun l=>jN fun x=>hr.len x
  rcases open_slice ht hf with ⟨h1,hx0⟩|⟨a,len,cap,m,n,D,Pl,h1,hb,hl,hm,hmm,hx,hi⟩
  subst h1
  exact⟨[],.cons ⟨hu [],b0,.inl ⟨rfl,rfl⟩⟩ .nil,fun bk b3=>⟨Nat.zero_le _,by simp⟩⟩
  subst h1
  rw[hsp,if_pos rfl] at hmm
  subst hmm
  by_cases hm0:m=0
  subst hm0
  have:len=0:=by omega
  subst this
  exact⟨[],.cons ⟨hu [],b0,.inr (.inr ⟨a,rfl,rfl⟩)⟩ .nil,fun bk b3=>⟨Nat.zero_le _,by simp⟩⟩
  obtain⟨l,c4,hp⟩:=kN (p:=fun i a'=>aB (full W) (e a') ((W.cells? 0 (a.add (i*P.cellsOf el)) (P.cellsOf el)).getD [])/\∀ bk:DataW H->Nat,BkOk bk->B a' (bk (D i))) len fun i hil=>by
   obtain⟨c5,h2,h3⟩:=hi i (by omega)
   obtain⟨a',c6,hB⟩:=hr.op hsp h3
   exact⟨a',by rw[h2];exact c6,hB⟩
  have b2:a.spot=none:=by
   obtain⟨c5,h2,_⟩:=hi 0 (by omega)
   obtain⟨_,hcl,b1⟩:=World.cells?_some h2
   have h3:=b1 0 b0
   rw[Nat.zero_mul] at h3
   have e0:(a.add 0).add 0=a:=by simp[Addr.add]
   rw[e0] at h3
   have hlt:0<c5.length:=by omega
   rw[List.getElem?_eq_getElem hlt] at h3
   unfold World.cell? at h3
   split at h3
   split at h3
   cases h3
   next hns=>simpa using hns
   cases h3
  obtain⟨b,o,s⟩:=a
  simp only at b2
  subst b2
  refine⟨l,.cons ⟨hu l,b0,.inr (.inl ⟨b,o,m,by simp[c4],by simp[c4];omega,hm,?_⟩)⟩ .nil,fun bk b3=>?_⟩
  intro j c hj
  have hjl:j<(l.map e).flatten.length:=(List.getElem?_eq_some_iff.1 hj).1
  rw[gp (hu l),List.length_map,c4] at hjl
  have hi':j/P.cellsOf el<len:=by
   rw[Nat.div_lt_iff_lt_mul b0];exact hjl
  have hj':j%P.cellsOf el<P.cellsOf el:=Nat.mod_lt _ b0
  have hdm:=Nat.div_add_mod j (P.cellsOf el)
  obtain⟨c5,h2,h3⟩:=hi (j/P.cellsOf el) (by omega)
  have hli:l[j/P.cellsOf el]?=some (l[j/P.cellsOf el]'(by omega)):=List.getElem?_eq_getElem (by omega)
  have c2:=(hp _ _ hli).1
  rw[h2] at c2
  have c3:=jo (hu l) (j/P.cellsOf el) (e (l[j/P.cellsOf el]'(by omega))) (by rw[List.getElem?_map,hli];rfl) (j%P.cellsOf el) hj'
  have ej:j/P.cellsOf el*P.cellsOf el+j%P.cellsOf el=j:=by rw[Nat.mul_comm];omega
  rw[ej,hj] at c3
  obtain⟨u,hu1,hu2⟩:=aO.get c2 _ _ c3.symm
  refine⟨u,?_,hu2⟩
  obtain⟨_,hcl,b1⟩:=World.cells?_some h2
  have:=b1 _ hj'
  simp only[Option.getD_some] at hu1
  have ea:((⟨b,o,none⟩:Addr).add (j/P.cellsOf el*P.cellsOf el)).add (j%P.cellsOf el)=⟨b,o+j,none⟩:=by
   rw[gZ,gZ,Nat.add_assoc,ej]
  rw[hu1,ea] at this
  exact gr this (CP.one _ hu2)
  subst hx
  refine⟨?_,fun a' c6=>?_⟩
  show l.length<=bk (.slice ((List.range len).map D) ((List.range (m-len)).map fun j=>D (len+j)))
  have:=b3.len ((List.range len).map D) ((List.range (m-len)).map fun j=>D (len+j))
  simp only[List.length_map,List.length_range] at this
  omega
  obtain⟨i,hil,rfl⟩:=List.getElem_of_mem c6
  have h6:=(hp i _ (List.getElem?_eq_getElem hil)).2 bk b3
  exact hr.mono _ _ _ h6 (b3.sl _ _ _ (List.mem_map.2 ⟨i,List.mem_range.2 (by omega),rfl⟩))
inductive ui (P:Program) (fs:Array Field) (T:Nat):Nat->Nat->{β:Type}->(β->List CP)->(β->Nat->Prop)->Prop where
 | nil {i:Nat} (hi:fs.size<=i):ui P fs T i T (fun _:Unit=>[]) (fun _ _=>True)
 | cons {i o:Nat} {α β:Type} {e:α->List CP} {B:α->Nat->Prop} {es:β->List CP} {Bs:β->Nat->Prop} {f:Field} (hf:fs[i]?=some f) (ho:f.offset=o) (hr:qf P f.type e B) (h:ui P fs T (i+1) (o+P.cellsOf f.type) es Bs):ui P fs T i o (fun x:α×β=>e x.1++es x.2) (fun x n=>B x.1 n/\Bs x.2 n)
theorem ui.op {P:Program} {fs:Array Field} {T i o:Nat} {β:Type} {es:β->List CP} {Bs:β->Nat->Prop} (h:ui P fs T i o es Bs) {H:Type} {enc:TypeId×Value->H} {W:World} {sp:Nat->Bool} {held:Bool} {n:Nat} {cs:List Value} {xs:List (DataW H×List MemPlace)} (hsp:∀ b,sp b=true) (hl:cs.length=T)
 (hx:xs.length=fs.size) (hv:∀ (j:Nat) (f:Field),fs[j]?=some f->DataW.trod enc P W 0 sp held n f.type ((cs.drop f.offset).take (P.cellsOf f.type))=xs[j]?):∃ b,aB (full W) (es b) (cs.drop o)/\∀ bk:DataW H->Nat,BkOk bk->Bs b (bk (.agg (xs.map (·.1)))):=by
 induction h with
 | nil hi=>exact⟨(),by rw[List.drop_of_length_le (by omega)];exact .nil,fun _ _=>trivial⟩
 | @cons i o α β e B es Bs f hf ho hr h ih=>
  obtain⟨b,hb,hB⟩:=ih
  have hi:i<xs.length:=by
   rw[hx]
   exact (Array.getElem?_eq_some_iff.1 hf).1
  have h1:=hv i f hf
  rw[List.getElem?_eq_getElem hi] at h1
  obtain⟨a,ha,hA⟩:=hr.op hsp h1
  refine⟨(a,b),?_,fun bk b0=>⟨hr.mono _ _ _ (hA bk b0) (b0.agg _ _ (List.mem_map.2 ⟨xs[i],List.getElem_mem hi,rfl⟩)),hB bk b0⟩⟩
  have e1:cs.drop o=(cs.drop o).take (P.cellsOf f.type)++cs.drop (o+P.cellsOf f.type):=by
   rw[← List.drop_drop,List.take_append_drop]
  rw[e1]
  subst ho
  exact aO.append ha hb
theorem qf.struct {P:Program} {t:TypeId} {fs:Array Field} {α β:Type} {e:α->List CP} {es:β->List CP} {B:α->Nat->Prop} {Bs:β->Nat->Prop} (g:β->α) (ht:P.underlying t=some (.struct fs)) (h:ui P fs (P.cellsOf t) 0 0 es Bs) (hl:∀ a,(e a).length=P.cellsOf t) (he:∀ b,e (g b)=es b) (hB:∀ b n,Bs b n->B (g b) n) (hm:∀ a n m,B a n->n<=m->B a m):qf P t e B where
 len:=hl
 mono:=hm
 op hsp hh:=by
  obtain⟨xs,n,_,hx,hcl,hxl,hv⟩:=DataW.trod_struct ht hh
  obtain⟨b,hb,hB'⟩:=h.op hsp hcl hxl hv
  refine⟨g b,by rw[he];exact hb,fun bk hbk=>?_⟩
  rw[hx]
  exact hB _ _ (hB' bk hbk)
theorem qf.str {P:Program} {t:TypeId} (ht:P.underlying t=some .string) (hc:P.cellsOf t=1):qf P t eS (fun x n=>x.length<=n) where
 len _:=by simp[hc,eS]
 mono _ _ _ h hnm:=Nat.le_trans h hnm
 op _ h:=by
  obtain⟨s,rfl,rfl,hs⟩:=DataW.trod_string ht h
  refine⟨s.data.toList,.cons ⟨?_,?_⟩ .nil,fun bk hbk=>hbk.str _⟩
  cases s with|mk d=>cases d;rfl
  simpa using hs
section
variable {P:Program} {TB:aH} {E:Env TB} {n:Sh} {s s':St}
inductive tg (P:Program) (s:St):ResultVar->BV->Prop
 | En {rv:ResultVar} {z:BV} (h:p9 P s rv z):tg P s rv z
 | xa {t k off m:Nat} {T T':TypeId} {cs zs:List BV} {qs:List CV} (ht:gN P T m) (h:s.get t=some (.b (.ptr k off))) (hk:lk s.own k=some (.bb T' cs)) (hp:(cs.drop off).take m=zs) (hq:zs.length=m) (hc:xcv zs=some qs):tg P s (.cell t T) (.xa qs)
 | x1 {t k off:Nat} {T T':TypeId} {cs:List BV} {z:BV} (ht:c8 P T) (h:s.get t=some (.b (.ptr k off))) (hk:lk s.own k=some (.bb T' cs)) (hp:cs[off]?=some z):tg P s (.cell t T) z
theorem tg.run {rv:ResultVar} {z:BV} (hr:tg P s rv z) {a:Act} {w:World} {h:PH} {ρ:RM} (hw:WR E n s.own h ρ w) (hs:bt h ρ s.slots a.tmps) :
 ∃ v,(∀ w₂,bL w w₂->(jO a.tmps rv).run P w₂=.ok v w₂)/\z.rel h ρ v:=by
 cases hr with
 | En h=>exact h.run hw hs
 | @xa t' k off m T T' cs zs qs ht h' hk hp hq hc=>
  obtain⟨v,hv,b,he,b1⟩:=hs _ _ (bj (show lk s.slots _=some _ from h'))
  obtain⟨b',cur,b2,b3,c2⟩:=fG hw hk
  have:b'=b:=by rw[b2] at he;simpa using he
  subst this
  have hcr:aO (CR h ρ) zs ((cur.toList.drop off).take m):=by rw[← hp];exact aO.take (aO.drop c2 off) m
  have b0:=fun w₂ (hle:bL w w₂)=>j3 ht (w:=w₂) (b:=b') (o:=off) (cs:=(cur.toList.drop off).take m) (by rw[← hcr.length,hq]) (fun j v hv=>by
   refine hle _ _ _ ?_
   rw[gY b3]
   rw[List.getElem?_take] at hv
   split at hv
   simpa using hv
   simp at hv)
  have hg:a.tmps.getD t' undef=.pointer (some ⟨b',off,none⟩):=by simp[Array.getD_eq_getD_getElem?,hv,b1]
  refine⟨.agg ((cur.toList.drop off).take m).toArray,fun w₂ hle=>?_,_,rfl,HO hc (by rw[show (List.take m (List.drop off cur.toList)).toArray.toList=_ from rfl];exact hcr)⟩
  simp only[jO,hg]
  simp[asAddr,b0 w₂ hle]
 | @x1 t' k off T T' cs z ht h' hk hp=>
  obtain⟨v,hv,b,he,b1⟩:=hs _ _ (bj (show lk s.slots _=some _ from h'))
  obtain⟨b',cur,b2,b3,c2⟩:=fG hw hk
  have:b'=b:=by rw[b2] at he;simpa using he
  subst this
  obtain⟨u,hu,hpu⟩:=c2.get off z hp
  have b0:=fun w₂ (hle:bL w w₂)=>j2 ht (w:=w₂) (b:=b') (o:=off) (v:=u) (hle _ _ _ (by rw[gY b3];simpa using hu))
  have hg:a.tmps.getD t' undef=.pointer (some ⟨b',off,none⟩):=by simp[Array.getD_eq_getD_getElem?,hv,b1]
  refine⟨u,fun w₂ hle=>?_,hpu.1⟩
  simp only[jO,hg]
  simp[asAddr,b0 w₂ hle]
theorem DZ {fn:Func} {zs:List BV} (hr:aO (tg P s) fn.results.toList zs) {a:Act} {w:World} {h:PH} {ρ:RM} (hw:WR E n s.own h ρ w) (hs:bt h ρ s.slots a.tmps) :
 ∃ v,(∀ w₂,bL w w₂->(results fn a.tmps).run P w₂=.ok v w₂)/\(wb zs).rel h ρ v:=by
 have key:∀ (rs:List ResultVar) (zs:List BV),aO (tg P s) rs zs->∃ vs,(∀ w₂,bL w w₂->(rs.mapM (jO a.tmps)).run P w₂=.ok vs w₂)/\aO (fun (x:BV) u=>x.rel h ρ u) zs vs:=by
  intro rs zs hh
  induction hh with
  | nil=>exact⟨[],fun _ _=>by simp,.nil⟩
  | cons h' _ ih=>
   obtain⟨v,hv,b1⟩:=h'.run hw hs
   obtain⟨vs,b2,b0⟩:=ih
   refine⟨v::vs,fun w₂ hle=>?_,.cons b1 b0⟩
   rw[List.mapM_cons,Sem.run_bind,hv w₂ hle,Result.andThen,Sem.run_bind,b2 w₂ hle]
   rfl
 obtain⟨vs,b2,b0⟩:=key _ _ hr
 have hm:∀ w₂,bL w w₂->(fn.results.mapM (jO a.tmps)).run P w₂=.ok vs.toArray w₂:=fun w₂ hle=>by
  rw[Array.mapM_eq_mapM_toList]
  simp[b2 w₂ hle]
 cases b0 with
 | nil=>exact⟨.tuple #[],fun w₂ hle=>by rw[mU,Sem.run_bind,hm w₂ hle,Result.andThen];simp,_,rfl,.nil⟩
 | @cons z v zs' vs' h1 h2=>
  cases h2 with
  | nil=>exact⟨v,fun w₂ hle=>by rw[mU,Sem.run_bind,hm w₂ hle,Result.andThen];simp,h1⟩
  | @cons z2 v2 zs2 vs2 h3 h4=>
   exact⟨.tuple (v::v2::vs2).toArray,fun w₂ hle=>by rw[mU,Sem.run_bind,hm w₂ hle,Result.andThen];simp,_,rfl,by simpa using .cons h1 (.cons h3 h4)⟩
theorem Fin.rJ {fn:Func} {post:er} {e:Exit} {rs:List ResultVar} (ks:List Nat) (zs:List BV) (he:e=.ret∨e=.normal) (hrs:fn.results.toList=rs) (hr:aO (tg P s) rs zs) (hp:post (ss ks s.own) (wb zs)):Fin E n e s (zI P fn E n post):=by
 intro a w ⟨h1,h2,h,ρ,hw,hs⟩
 obtain⟨v,hv,b0⟩:=DZ (fn:=fn) (hrs▸hr) hw hs
 have:a.defers=n.dfs/\∃ v,(∀ w₂,bL w w₂->(results fn a.tmps).run P w₂=.ok v w₂)/\jf E n post (.returned v) w:=⟨h1,v,hv,v,ss ks s.own,_,h,ρ,rfl,hp,hw.sub fun _ hp=>mR hp,b0⟩
 rcases he with rfl|rfl<;>exact this
end
end Go.Sk
namespace Go.Sk
open Go Go.ChangeShapes Go.WideShapes Go.ChangeAt Go.RowKit Go.Deep Go.BigFrame
section
variable {P:Program} {TB:aH} {E:Env TB} {n:Sh} {s s':St} {dst:Option Nat} {t ty yt:TypeId} {pos:String} {after:Array Edge} {g:Option (Nat×Bool)} {x y c:Operand} {ops:Array Oper} {l:List Oper} {Q:bH} {cd:Code}
end
section
variable {P:Program} {TB:aH} {E:Env TB} {n:Sh} {s s':St} {dst:Option Nat} {t ty yt:TypeId} {pos:String} {after:Array Edge} {g:Option (Nat×Bool)} {x y c:Operand} {ops:Array Oper} {l:List Oper} {Q:bH} {cd:Code}
variable {own:List (Nat×OC)} {h:PH} {ρ:RM} {w:World} {k kp i size bytes:Nat} {T e:TypeId} {ess:List (List (List CP))} {us:List Value} {v:Value}
end
end Go.Sk
namespace Go.Sk
open Go Go.ChangeShapes Go.WideShapes Go.ChangeAt Go.RowKit Go.Deep Go.BigFrame
section
variable {P:Program} {TB:aH} {E:Env TB} {n:Sh} {s s':St} {dst:Option Nat} {t ty yt:TypeId} {pos:String} {after:Array Edge} {g:Option (Nat×Bool)} {x y c:Operand} {ops:Array Oper} {l:List Oper} {Q:bH} {cd:Code}
theorem HB {α:Type} {c:Bool} {A B:Option α} {r:α} {G:Prop} (h:(if c=true then A else B)=some r) (h1:c=true->A=some r->G) (h2:c=false->B=some r->G):G:=by
 cases c
 exact h2 rfl h
 exact h1 rfl h
theorem aI.cast {f:FuncId} {own b2 own' b0:List (Nat×OC)} {args b1:List BV} {res b3:SV} (h:aI P TB f own args (Is own' res)) (h1:own=b2) (h2:args=b1) (h3:own'=b0) (h4:res=b3):aI P TB f b2 b1 (Is b0 b3):=by
 subst h1 h2 h3 h4;exact h
end
end Go.Sk
namespace Go.Sk
open Go Go.BigFrame
inductive Tre (α:Type) where
 | leaf
 | node (a:α) (l r:Tre α)
 deriving DecidableEq
instance {α:Type}:Inhabited (Tre α):=⟨.leaf⟩
section
variable {α:Type} {P:Program} {TB:aH} {E:Env TB} {n:Sh} {s s':St} {ops:Array Oper} {l:List Oper} {Q:bH} {cd:Code} {enc:α->List CP} {dst:Option Nat} {t ty yt:TypeId} {pos:String} {after:Array Edge} {g:Option (Nat×Bool)} {x y:Operand}
end
end Go.Sk
namespace Go.Sk
open Go Go.BigFrame
section
variable {P:Program} {TB:aH} {E:Env TB} {n:Sh} {s s':St} {ops:Array Oper} {l:List Oper} {Q:bH} {cd:Code} {dst:Option Nat} {t ty yt:TypeId} {pos:String} {after:Array Edge} {g:Option (Nat×Bool)} {x y:Operand}
end
end Go.Sk
namespace Go.Sk
open Go Go.BigFrame
section
variable {P:Program} {TB:aH} {E:Env TB} {n:Sh} {s s':St} {ops:Array Oper} {l:List Oper} {Q:bH} {cd:Code} {dst:Option Nat} {t ty yt:TypeId} {pos:String} {after:Array Edge} {g:Option (Nat×Bool)} {x y:Operand}
end
end Go.Sk
namespace Go.Sk
open Go Go.BigFrame Go.RowKit
section
variable {P:Program} {TB:aH} {E:Env TB} {n:Sh} {F:Fence} {s s':St} {Q:bH} {x y c:Code}
theorem gH.o8 {σ τ:Type} {v:τ} (S:σ->St) (al:σ->τ) (h1:gH P E n F x s (Exit.then (fun a w=>∃ z,v=al z/\R E n (S z) a w) Q)) (h2:∀ z,v=al z->gH P E n F y (S z) Q):gH P E n F (.seq x y) s Q:=by
 refine gH.seq fun hq a w hr=>?_
 have hq':¬ LetsOut Q:=fun ⟨a,w,h⟩=>hq ⟨a,w,h⟩
 refine wpIn_mono (h1 (AR hq') a w hr) ?_
 intro e a' w' he
 cases e with
 | normal=>obtain⟨z,hz,hr'⟩:=he;exact h2 z hz hq' a' w' hr'
 | _=>exact he
theorem gH.qX {σ τ:Type} {fuel:Nat} {body:σ->Option (σ⊕τ)} {s0:σ} {v:τ} (h:iter fuel body s0=some v) (S:σ->St) (ks kos:List Nat) (hs:s.keep ks kos=S s0)
 (round:∀ z o,body z=some o->(∀ y,o=.inr y->y=v)->gH P E n F c (S z) (Exit.then (fun a w=>∃ z',o=.inl z'/\R E n (S z') a w) Q)):gH P E n F (.loop c) s Q:=by
 refine gH.keep ks kos hs ?_
 intro hq a w hr
 refine wpIn_loop_rounds fuel ?_
 clear hs
 induction fuel generalizing s0 a w with
 | zero=>simp[yr] at h
 | succ m ih=>
 rw[gi] at h
 obtain⟨o,ho,hj⟩:=aK h
 rw[roundsIn_succ]
 refine wpIn_mono (round s0 o ho (fun y hy=>by subst hy;exact zaa hj) (AR hq) a w hr) ?_
 intro e a' w' he
 cases e with
 | normal=>
  obtain⟨z',hz',hr'⟩:=he
  subst hz'
  exact ih hj a' w' hr'
 | _=>exact he
end
end Go.Sk
namespace Go.Sk
open Go Go.BigFrame
def Et (pv:Value):List PanicEntry:=[{ v:=pv,recovered:=false }]
def PEnd {TB:aH} (E:Env TB) (n:Sh) (post:er) (iE:Value->Prop) (e:Ending) (w':World):Prop :=
 jf E n post e w'∨∃ pv,e=.panicked (Et pv)/\iE pv/\∃ h' ρ',WR E n [] h' ρ' w'
def eZ (P:Program) (TB:aH) (f:FuncId) (own:List (Nat×OC)) (args:List BV) (post:er) (iE:Value->Prop):Prop :=
 ∀ (w:World) (h:PH) (ρ:RM) (vals:List Value) (tb:cC TB h w),pc h w->C5 own h ρ w->aO (fun (x:BV) v=>x.rel h ρ v) args vals ->
  Calls P f vals.toArray w (PEnd ⟨w,h,ρ,tb⟩ ⟨0,aq own,ai own,[]⟩ post iE)
def ij (P:Program) (TB:aH) (f:FuncId) (own:List (Nat×OC)) (args:List BV) (pv:Value) (ok:Prop):Prop:=eZ P TB f own args (fun _ _=>False) (fun v=>v=pv/\ok)
def I2 (P:Program) (fn:Func) {TB:aH} (E:Env TB) (n:Sh) (post:er) (iE:Value->Prop):bH
 | .normal,a,w=>a.defers=n.dfs/\∃ v,(∀ w₂,bL w w₂->(results fn a.tmps).run P w₂=.ok v w₂)/\jf E n post (.returned v) w
 | .ret,a,w=>a.defers=n.dfs/\∃ v,(∀ w₂,bL w w₂->(results fn a.tmps).run P w₂=.ok v w₂)/\jf E n post (.returned v) w
 | .panic ch,a,w=>a.defers=n.dfs/\∃ pv,ch=Et pv/\iE pv/\∃ h ρ,WR E n [] h ρ w
 | _,_,_=>False
theorem I2.body {P:Program} {fn:Func} {TB:aH} {E:Env TB} {n:Sh} {post:er} {iE:Value->Prop} (hd:n.dfs=[]):∀ e a w,I2 P fn E n post iE e a w->bodyPost P fn (PEnd E n post iE) e a w
 | .normal,a,w,⟨h1,v,h2,h3⟩=>⟨h1.trans hd,v,h2 w (bL.refl w),.inl h3⟩
 | .ret,a,w,⟨h1,v,h2,h3⟩=>⟨h1.trans hd,v,h2 w (bL.refl w),.inl h3⟩
 | .exit _,_,_,h=>h.elim
 | .goto _,_,_,h=>h.elim
 | .panic _,_,_,⟨h1,pv,h2,h3,h4⟩=>⟨h1.trans hd,.inr ⟨pv,by rw[h2],h3,h4⟩⟩
 | .outgrown,_,_,h=>h.elim
theorem eZ.intro {P:Program} {TB:aH} {f:FuncId} {fn:Func} {c:Code} {own:List (Nat×OC)} {args:List BV} {post:er} {iE:Value->Prop} (m:Nat) (hf:P.funcs[f]?=some fn) (hm:fn.ntmps=m) (hb:fn.body=some c) (hl:args.length<=m)
 (b2:∀ E:Env TB,ah P E ⟨m,aq own,ai own,[]⟩ c ⟨gm 0 args,own⟩ (I2 P fn E ⟨m,aq own,ai own,[]⟩ post iE)):eZ P TB f own args post iE:=by
 intro w h ρ vals tb hag b0 b1
 have hlen:=b1.length
 refine (calls_of_wp (R:=PEnd ⟨w,h,ρ,tb⟩ ⟨m,aq own,ai own,[]⟩ post iE) hf hb (wp_mono (b2 ⟨w,h,ρ,tb⟩ _ w ⟨rfl,?_,h,ρ,⟨hag,PH.le_refl h,fun _ _ _=>rfl,Nat.le_refl _,fun _ _ _=>rfl,fun _ _=>rfl,rfl,rfl,?_,?_⟩,?_⟩) (I2.body rfl))).mono ?_
 simp[hm];omega
 rintro b ⟨k,hk,hb⟩ o
 obtain⟨⟨k',c⟩,hm',rfl⟩:=List.mem_map.1 hk
 exact ((b0 k' c hm').2.1 b (.inl hb)).2 o
 intro k c hc
 obtain⟨h1,h3,h4⟩:=b0 k c hc
 exact⟨h1,fun b hb=>⟨.inr ⟨k,List.mem_map.2 ⟨(k,c),hc,rfl⟩,(h3 b hb).1⟩,(h3 b hb).2⟩,h4⟩
 intro k x hx
 obtain⟨j,z,rfl,hz,rfl⟩:=iw hx
 obtain⟨v,hv,hr⟩:=b1.get j z hz
 refine⟨v,?_,hr⟩
 have hj:=(List.getElem?_eq_some_iff.1 hv).1
 rw[Nat.zero_add,Array.getElem?_append_left (by simpa using hj)]
 simpa using hv
 rintro e w' (⟨v,own',res,h',ρ',e1,e2,e3,e4⟩|⟨pv,e1,e2,h',ρ',e3⟩)
 exact .inl ⟨v,own',res,h',ρ',e1,e2,WR.sh (n:=⟨m,aq own,ai own,[]⟩) (n':=⟨0,aq own,ai own,[]⟩) rfl rfl e3,e4⟩
 exact .inr ⟨pv,e1,e2,h',ρ',WR.sh (n:=⟨m,aq own,ai own,[]⟩) (n':=⟨0,aq own,ai own,[]⟩) rfl rfl e3⟩
theorem eZ.mono {P:Program} {TB:aH} {f:FuncId} {own:List (Nat×OC)} {args:List BV} {post post':er} {iE b0:Value->Prop} (hs:eZ P TB f own args post iE) (h1:∀ o r,post o r->post' o r) (h2:∀ v,iE v->b0 v):eZ P TB f own args post' b0 :=
 fun w h ρ vals tb g1 g2 g3=>(hs w h ρ vals tb g1 g2 g3).mono fun _ _=>fun
  | .inl ⟨v,own',res,h',ρ',e1,e2,e3,e4⟩=>.inl ⟨v,own',res,h',ρ',e1,h1 _ _ e2,e3,e4⟩
  | .inr ⟨pv,e1,e2,e3⟩=>.inr ⟨pv,e1,h2 _ e2,e3⟩
theorem eZ.ret {P:Program} {TB:aH} {f:FuncId} {own:List (Nat×OC)} {args:List BV} {post post':er} {iE:Value->Prop} (hs:eZ P TB f own args post iE) (h1:∀ o r,post o r->post' o r) (h2:∀ v,¬ iE v):aI P TB f own args post' :=
 fun w h ρ vals tb g1 g2 g3=>(hs w h ρ vals tb g1 g2 g3).mono fun _ _=>fun
  | .inl ⟨v,own',res,h',ρ',e1,e2,e3,e4⟩=>⟨v,own',res,h',ρ',e1,h1 _ _ e2,e3,e4⟩
  | .inr ⟨pv,e1,e2,e3⟩=>absurd e2 (h2 pv)
theorem eZ.iE {P:Program} {TB:aH} {f:FuncId} {own:List (Nat×OC)} {args:List BV} {post:er} {iE:Value->Prop} {pv:Value} {ok:Prop} (hs:eZ P TB f own args post iE) (h1:∀ o r,¬ post o r) (h2:∀ v,iE v->v=pv/\ok):ij P TB f own args pv ok :=
 hs.mono (fun o r hp=>(h1 o r hp).elim) h2
def IsP {ρ π:Type} (r:ρ⊕π) (own:ρ->List (Nat×OC)) (res:ρ->SV):er:=fun o z=>∃ x,r=.inl x/\o=own x/\z=res x
def I3 {ρ π:Type} (r:ρ⊕π) (pv:π->Value) (ok:π->Prop):Value->Prop:=fun v=>∃ p,r=.inr p/\v=pv p/\ok p
theorem eZ.spec {P:Program} {TB:aH} {f:FuncId} {own:List (Nat×OC)} {args:List BV} {ρ π:Type} {x:ρ} {o:ρ->List (Nat×OC)} {res:ρ->SV} {pv:π->Value} {ok:π->Prop} (hs:eZ P TB f own args (IsP (.inl x:ρ⊕π) o res) (I3 (.inl x:ρ⊕π) pv ok)):aI P TB f own args (Is (o x) (res x)) :=
 hs.ret (fun o r ⟨y,e,h1,h2⟩=>by cases e;exact⟨h1,h2⟩) (fun v ⟨p,e,_⟩=>by cases e)
theorem eZ.Hu {P:Program} {TB:aH} {f:FuncId} {own:List (Nat×OC)} {args:List BV} {ρ π:Type} {p:π} {o:ρ->List (Nat×OC)} {res:ρ->SV} {pv:π->Value} {ok:π->Prop} (hs:eZ P TB f own args (IsP (.inr p:ρ⊕π) o res) (I3 (.inr p:ρ⊕π) pv ok)):ij P TB f own args (pv p) (ok p) :=
 hs.iE (fun o r ⟨y,e,_⟩=>by cases e) (fun v ⟨q,e,h⟩=>by cases e;exact h)
def CP.zl (T:TypeId) (ps:List CP):CP:=⟨fun h v=>∃ cs,v=.iface T (.agg cs)/\aB h ps cs.toList,fun hl ⟨cs,e,h⟩=>⟨cs,e,aB.mono hl h⟩,fun ⟨cs,e,_⟩=>by rw[e];rfl⟩
theorem K7 {h:PH} {k1 k2:IntKind} {a b:Int} {cs:Array Value} (hc:aB h [.int k1 a,.int k2 b] cs.toList):cs=#[.int k1 a,.int k2 b]/\mf k1 a/\mf k2 b:=by
 obtain⟨l⟩:=cs
 cases hc with
 | cons h1 h2=>
  cases h2 with
  | cons h3 h4=>
   cases h4
   obtain⟨rfl,e1⟩:=h1
   obtain⟨rfl,e2⟩:=h3
   exact⟨rfl,e1,e2⟩
section
variable {P:Program} {TB:aH} {E:Env TB} {n:Sh} {s s':St} {dst:Option Nat} {t ty yt:TypeId} {pos:String} {after:Array Edge} {g:Option (Nat×Bool)} {x y c:Operand} {ops:Array Oper} {l:List Oper} {Q:bH} {cd:Code}
theorem Fin.F9 {fn:Func} {post:er} {iE:Value->Prop} {e:Exit} (he:e=.ret∨e=.normal) (h:Fin E n e s (zI P fn E n post)):Fin E n e s (I2 P fn E n post iE):=by
 rcases he with rfl|rfl<;>exact fun a w hr=>h a w hr
theorem Fin.qF {fn:Func} {post:er} {iE:Value->Prop} {pv:Value} (hp:iE pv):Fin E n (.panic (Et pv)) s (I2 P fn E n post iE) :=
 fun a w ⟨h1,h2,h,ρ,hw,hs⟩=>⟨h1,pv,rfl,hp,h,ρ,hw.sub fun p hp=>by simp at hp⟩
theorem Fin.bC {K:Act->World->Prop} {ch:List PanicEntry} (h:Fin E n (.panic ch) s Q):Fin E n (.panic ch) s (Exit.then K Q):=fun a w hr=>h a w hr
theorem Fin.b6 {id:Nat} {ch:List PanicEntry} (h:Fin E n (.panic ch) s Q):Fin E n (.panic ch) s (Exit.inBlock id Q):=fun a w hr=>h a w hr
theorem xe {T:TypeId} {ps:List CP} (hc:P.concrete T=true) (hx:s.ev x=some (.b (.agg ps))):aR P E n ⟨dst,.makeInterface T x,ty,pos,after,g⟩ s (s.put n dst (.b (.one (.zl T ps)))) :=
 aR.val (o:=⟨dst,.makeInterface T x,ty,pos,after,g⟩) fun ac w h ρ hw hs=>by
  obtain⟨cs,hv,hr⟩:=(aE hs hx:BV.rel h ρ (.agg ps) _)
  refine⟨.iface T (ac.eval x),?_,cs,by rw[hv],hr⟩
  show (do let v ← Instr.makeInterface T (ac.eval x);pure (Next.value v):Sem Next).run P w=_
  rw[Sem.run_bind,run_makeInterface _ _ _ hc]
  rfl
theorem aj.panic2 {T:TypeId} {k1 k2:IntKind} {a b:Int} {dst:Option Nat} (hx:s.ev x=some (.b (.one (.zl T [.int k1 a,.int k2 b])))) (h:mf k1 a/\mf k2 b->Fin E n (.panic (Et (.iface T (.agg #[.int k1 a,.int k2 b])))) s Q):aj P E n ops (⟨dst,.panic x,ty,pos,after,none⟩::l) s Q:=by
 intro ac w hr
 unfold zk
 have:∀ tmps,Region.wanted ⟨dst,.panic x,ty,pos,after,none⟩ (yielded ops tmps)=true:=fun _=>rfl
 simp only[this,if_true]
 have hr0:=hr
 obtain⟨_,_,h1,ρ,hw,hs⟩:=hr
 obtain⟨cs,e,hc⟩:=(aE hs hx:(CP.zl _ _).rel h1 _)
 obtain⟨e2,h2⟩:=K7 hc
 unfold Oper.wp
 have b0:(execOp ac.eval ⟨dst,.panic x,ty,pos,after,none⟩).run P w=.halt (.panic (.iface T (.agg #[.int k1 a,.int k2 b]))) w:=by
  show (do let v ← Instr.panic (ac.eval x);pure (Next.value v):Sem Next).run P w=_
  rw[e,e2]
  rfl
 rw[b0]
 exact h h2 ac w hr0
theorem wO {o:Oper} {f:FuncId} {own_a:List (Nat×OC)} {args:List BV} {pv:Value} {ok:Prop} (b0:ij P TB f own_a args pv ok)
 (b1:∀ (a:Act) (w:World) (h:PH) (ρ:RM),WR E n s.own h ρ w->bt h ρ s.slots a.tmps->∃ vals:List Value,(execOp a.eval o).run P w=.ok (.enter f vals.toArray) w/\aO (fun (x:BV) v=>x.rel h ρ v) args vals)
 (hl:gf s.own own_a) {a:Act} {w:World} (hr:R E n s a w) {next:Act->World->Prop} {Q:bH}
 (hq:ok->Fin E n (.panic (Et pv)) ⟨s.slots,dL own_a s.own⟩ Q):o.wp P a w next Q:=by
 obtain⟨hdf,hn,h,ρ,hw,hs⟩:=hr
 obtain⟨vals,hr0,hra⟩:=b1 a w h ρ hw hs
 unfold Oper.wp
 rw[hr0]
 show Calls P f _ w _
 have hla:=lq hl
 refine (b0 w h ρ _ hw.ax hw.agree (uc hw hla (j5 hl)) hra).mono ?_
 rintro e w' (⟨v,own',res,h',ρ',_,hp,_⟩|⟨pv',rfl,⟨rfl,hok⟩,h',ρ',hc⟩)
 exact hp.elim
 have hwc:=hw.call hla hc (by rfl) (by simp[iG,ai])
 refine hq hok a w' ⟨hdf,hn,h',_,hwc,fun k x hx=>?_⟩
 obtain⟨u,hu,b2⟩:=hs k x hx
 exact⟨u,hu,SV.mono hc.le (fun j hj=>kK (by simp[ai])) b2⟩
theorem aj.uh {f:FuncId} {own_a:List (Nat×OC)} {args:List BV} {xs:Array Operand} {ats:Array TypeId} {pv:Value} {ok:Prop} (b0:ij P TB f own_a args pv ok) (hf:dM P f) (ha:ig s xs.toList=some args) (hl:gf s.own own_a)
 (hq:ok->Fin E n (.panic (Et pv)) ⟨s.slots,dL own_a s.own⟩ Q):aj P E n ops (⟨dst,.call ⟨.value (.func f),xs,ats⟩,ty,pos,after,none⟩::l) s Q:=by
 intro a w hr
 unfold zk
 have:∀ tmps,Region.wanted ⟨dst,.call ⟨.value (.func f),xs,ats⟩,ty,pos,after,none⟩ (yielded ops tmps)=true:=fun _=>rfl
 simp only[this,if_true]
 exact wO b0 (fun a w h ρ hw hs=>⟨_,q6 hf a w,mY hs ha⟩) hl hr hq
theorem aj.wZ {f:FuncId} {fs cs:List CV} {own_a:List (Nat×OC)} {args zs:List BV} {xs:Array Operand} {ats:Array TypeId} {pv:Value} {ok:Prop} (b0:ij P TB f own_a args pv ok) (hf:dM P f) (hx:s.ev x=some (.b (.cJ f fs cs))) (ha:ig s xs.toList=some zs)
 (hz:fs.map CV.bv++zs++cs.map CV.bv=args) (hl:gf s.own own_a)
 (hq:ok->Fin E n (.panic (Et pv)) ⟨s.slots,dL own_a s.own⟩ Q):aj P E n ops (⟨dst,.call ⟨.value x,xs,ats⟩,ty,pos,after,none⟩::l) s Q:=by
 intro a w hr
 unfold zk
 have:∀ tmps,Region.wanted ⟨dst,.call ⟨.value x,xs,ats⟩,ty,pos,after,none⟩ (yielded ops tmps)=true:=fun _=>rfl
 simp only[this,if_true]
 refine wO b0 (fun a w h ρ hw hs=>?_) hl hr hq
 obtain⟨va,vb,hv,h1,h2⟩:=(aE hs hx:BV.rel h ρ (.cJ f fs cs) _)
 refine⟨va.toList++xs.toList.map a.eval++vb.toList,?_,?_⟩
 have e1:execOp a.eval ⟨dst,.call ⟨.value x,xs,ats⟩,ty,pos,after,none⟩=(do let d ← Deferred.ofValue (a.eval x) (xs.map a.eval);invoke d.target d.args):=rfl
 rw[e1,hv]
 have e2:(do let d ← Deferred.ofValue (.func (.func f) va vb) (xs.map a.eval);invoke d.target d.args:Sem Next)=callFunc f (va++xs.map a.eval++vb):=rfl
 rw[e2,hf.run]
 congr 2
 apply Array.ext'
 simp
 rw[← hz]
 exact lv (lv (CV.bvL h1) (mY hs ha)) (CV.bvL h2)
end
@[reducible] def bu {π ρ γ:Type} (g:π->γ) (f:ρ->γ) (z:ρ⊕π):γ:=match z with|.inl x=>f x|.inr y=>g y
theorem HI {π ρ γ:Type} {g:π->Option γ} {f:ρ->Option γ} {o:ρ⊕π} {r:γ} {C:Prop} (h:bu g f o=some r) (hp:∀ p,o=.inr p->g p=some r->C) (hz:∀ z,o=.inl z->f z=some r->C):C:=by
 cases o with
 | inl z=>exact hz z rfl h
 | inr p=>exact hp p rfl h
section
variable {P:Program} {TB:aH} {E:Env TB} {n:Sh} {s s':St} {dst:Option Nat} {t ty yt:TypeId} {pos:String} {after:Array Edge} {g:Option (Nat×Bool)} {x y c:Operand}
theorem GX {u v:Str} (hx:s.ev x=some (.b (.one (.str u)))) (hy:s.ev y=some (.b (.one (.str v)))):aR P E n ⟨dst,.binOp .lss t x y yt,ty,pos,after,g⟩ s (s.put n dst (B (Op.bytesLess u v))) :=
 aR.val (o:=⟨dst,.binOp .lss t x y yt,ty,pos,after,g⟩) fun ac w h ρ hw hs=>by
  refine⟨.bool (Op.bytesLess u v),?_,rfl⟩
  simp only[execOp,(lL hs hx).1,(lL hs hy).1]
  simp[eqGuard,binOp,Op.stringOp,yh]
theorem K0 {gb:Nat} {cs:List Value} {ps:List CP} {h:PH} {ρ:RM} {own:List (Nat×OC)} {w:World} (hw:WR E n own h ρ w) (hm:(gb,cs)∈TB) (hr:∀ h,aB h ps cs):BV.rel h ρ (.kG ps) (.pointer (some ⟨gb,0,none⟩)):=by
 refine⟨gb,0,rfl,fun j c hc=>?_⟩
 obtain⟨u,hu,b0⟩:=(hr h).get j c hc
 exact⟨u,by rw[Nat.zero_add];exact (hw.ax gb cs hm).2.1 j u hu,b0⟩
theorem Bk {α:Type} {gb:Nat} {cs:List Value} {e:TypeId} {m:Nat} {ps:List CP} {xs:List α} {enc:α->List CP} (hm':(gb,cs)∈TB) (hr':∀ h,aB h ps cs) (ht:lI P t e m 1) (hp:ps=(xs.map enc).flatten) (hl:xs.length=m) (he:∀ z,(enc z).length=1) (hm:m<=maxLen) :
 aR P E n ⟨dst,.slice t (.global gb) none none none,ty,pos,after,g⟩ s (s.put n dst (.b (.one (.sl 1 (xs.map enc))))) :=
 aR.val (o:=⟨dst,.slice t (.global gb) none none none,ty,pos,after,g⟩) fun ac w h ρ hw hs=>by
  obtain⟨b,o,hv,hr⟩:=K0 hw hm' hr'
  obtain⟨i,hi,hsz⟩:=ht.info
  have e1:P.arrayLen t=m:=by simp[Program.arrayLen,ht.und]
  have e2:P.elem t=e:=by simp[Program.elem,ht.und]
  have hu:P.underlying t=some (.array (P.arrayLen t) (P.elem t)):=by rw[e1,e2];exact ht.und
  refine⟨.slice (some ⟨b,o,none⟩) m m,?_,?_⟩
  simp only[execOp,show ac.eval (.global gb)=.pointer (some ⟨gb,0,none⟩) from rfl,hv,Option.map_none]
  rw[Sem.run_bind,run_sliceAt_array_all w t _ hu,e2,run_sizeOf hi,Result.andThen]
  simp[slicedAt,e1,gZ]
  refine⟨fun qs hq=>?_,Nat.one_pos,.inr (.inl ⟨b,o,m,?_,?_,hm,hp▸hr⟩)⟩
  obtain⟨z,_,rfl⟩:=List.mem_map.1 hq
  exact he z
  rw[List.length_map,hl]
  rw[List.length_map,hl];exact Nat.le_refl _
theorem qk {gb:Nat} {cs:List Value} {e:TypeId} {m size:Nat} {ps qs:List CP} {k:IntKind} {i:Int} (hm':(gb,cs)∈TB) (hr':∀ h,aB h ps cs) (ht:lI P t e m size) (h0:0<=i) (h1:i<m) (hy:s.ev y=some (.b (.one (.int k i)))) (hq:(ps.drop (i.toNat*size)).take size=qs) :
 aR P E n ⟨dst,.indexAddr t (.global gb) y,ty,pos,after,g⟩ s (s.put n dst (.b (.kG qs))) :=
 aR.val (o:=⟨dst,.indexAddr t (.global gb) y,ty,pos,after,g⟩) fun ac w h ρ hw hs=>by
  obtain⟨b,o,hv,hr⟩:=K0 hw hm' hr'
  obtain⟨inf,hi,hsz⟩:=ht.info
  refine⟨.pointer (some ⟨b,o+i.toNat*size,none⟩),?_,b,o+i.toNat*size,rfl,?_⟩
  simp only[execOp,show ac.eval (.global gb)=.pointer (some ⟨gb,0,none⟩) from rfl,hv,(bI hs hy).1]
  simp[n7 ht.und hi hsz w b o k i h0 h1]
  rw[← hq];exact (hr.drop _).take _
def BX (l:List Str):List Value:=l.map fun s=>Value.string ⟨⟨s⟩⟩
theorem AG (h:PH):∀ {l:List Str},l.all (fun s=>decide (s.length<=maxLen))=true->aB h (l.map eS).flatten (BX l)
 | [],_=>.nil
 | x::l,ok=>by
  simp only[List.all_cons,Bool.and_eq_true,decide_eq_true_eq] at ok
  exact .cons ⟨rfl,ok.1⟩ (AG h ok.2)
end
end Go.Sk
