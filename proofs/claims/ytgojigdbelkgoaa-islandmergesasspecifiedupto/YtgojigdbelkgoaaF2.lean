/- part of the proof: the framework -/
import Derived.Test.YtgojigdbelkgoaaF1
import Derived.Laws.BytesArg
import Derived.ChangeKeysEq
import Derived.Lib.ConvBytes
import Derived.Below
import Derived.Lib.LaidTab
import Derived.Scope
import Derived.Shelf.Vars
import Derived.MapKept
import Derived.Shelf.Sort.Plain
import Derived.Shelf.Slices.CompactI
import Derived.RangeFuncNested
import Derived.RangeFuncLeaves
import Derived.LoopNIn
import Derived.Maps.RangeRun
namespace Go.Sk
set_option linter.unusedSimpArgs false
set_option linter.unusedVariables false
open Go Go.BigFrame
section
variable {P:Program} {TB:bc} {E:Env TB} {n:Sh} {s s':St} {dst:Option Nat} {t ty yt:TypeId} {pos:String} {after:Array Edge} {g:Option (Nat × Bool)} {x y c:Operand} {ops:Array Oper} {l:List Oper} {Q:bU} {cd:Code}
def BV.cv:BV → Option CV
 | .one p=>some (.one p)
 | .ptr k o=>some (.ptr k o)
 | .row k=>some (.row k)
 | _=>none
def CV.bv:CV → BV
 | .one p=>.one p
 | .ptr k o=>.ptr k o
 | .row k=>.row k
theorem BV.qT {h:PH} {ρ:RM} {z:BV} {q:CV} (hq:z.cv = some q) {v:Value} (hv:z.rel h ρ v):q.rel h ρ v:=by
 cases z <;> simp [BV.cv] at hq <;> subst hq <;> exact hv
theorem CV.qU {h:PH} {ρ:RM} {q:CV} {v:Value} (hv:q.rel h ρ v):q.bv.rel h ρ v:=by cases q <;> exact hv
def CR (h:PH) (ρ:RM) (z:BV) (u:Value):Prop:=z.rel h ρ u ∧ u.oneCell' = true
def BV.k8 (own:List (Nat × OC)):BV → Bool
 | .one _=>true
 | .ptr _ _=>true
 | .fT _ _ _=>true
 | .row j=>match lk own j with
  | some (.row _ _ _)=>true
  | some (.mq _)=>true
  | _=>false
 | _=>false
theorem CV.bvX {h:PH} {ρ:RM}:∀ {l:List CV} {vs:List Value},aI (fun (x:CV) v=>x.rel h ρ v ∧ v.oneCell' = true) l vs → aI (CR h ρ) (l.map CV.bv) vs
 | _,_,.nil=>.nil
 | _,_,.cons h1 t=>.cons ⟨CV.qU h1.1,h1.2⟩ (CV.bvX t)
theorem cell_of {own:List (Nat × OC)} {h:PH} {ρ:RM} {w:World} (hw:WR E n own h ρ w) {z:BV} (hz:z.k8 own = true) {v:Value} (hv:z.rel h ρ v):CR h ρ z v:=by
 refine ⟨hv,?_⟩
 cases z with
 | one p=>exact p.one hv
 | ptr k off=>obtain ⟨b,_,rfl⟩:=hv; rfl
 | fT f fs cs=>obtain ⟨a,b,rfl,_⟩:=hv; rfl
 | row j=>
  have hv':v = ρ j:=hv
  simp only [BV.k8] at hz
  cases e:lk own j with
  | none=>rw [e] at hz; simp at hz
  | some c=>
   rw [e] at hz
   cases c with
   | row T size es=>
    obtain ⟨_,_,hf⟩:=gg hw e
    rcases hf with ⟨h1,_⟩ | ⟨b,cap,cur,h1,_⟩ <;> rw [hv',h1] <;> rfl
   | mq m=>
    obtain ⟨b,ms,clk,h1,_⟩:=(hw.owned j _ (aA e)).1
    rw [hv',h1]
    rfl
   | _=>simp at hz
 | _=>simp [BV.k8] at hz
theorem dt (ρ:RM) (k:Nat):fW ρ k (ρ k) = ρ:=by funext j; simp only [fW]; split <;> simp_all
theorem WR.pW {own:List (Nat × OC)} {h:PH} {ρ:RM} {w:World} (hw:WR E n own h ρ w) {k:Nat} {c0 c':OC} (hk:lk own k = some c0) (hc:c'.ok h ρ (ρ k) w) (hpl:c'.plain = true:=by rfl):WR E n (ins k c' own) h ρ w:=by
 have:=hw.step (w':=w) k (ρ k) c' (aw (ρ k)) (fun b e=>⟨c0,aA hk,e⟩) (Nat.le_refl _) rfl rfl (fun _ _ _=>rfl) (by rw [dt]; exact hc) (fun b hb=>.inl hb) (.inl rfl) (.inl rfl) hpl
 rwa [dt] at this
theorem di {own:List (Nat × OC)} {h:PH} {ρ:RM} {w:World} (hw:WR E n own h ρ w) {k:Nat} {T:TypeId} {cs:List BV} (hk:lk own k = some (.ao T cs)) :
  ∃ b cur,ρ k = .pointer (some ⟨b,0,none⟩) ∧ w.heap[b]? = some (.cells cur T (0,0)) ∧ aI (CR h ρ) cs cur.toList:=(hw.owned k _ (aA hk)).1
theorem kD {h:PH} {ρ:RM}:∀ {ps:List CP} {vs:List Value},av h ps vs → aI (CR h ρ) (ps.map BV.one) vs
 | [],_,h=>by cases h; exact .nil
 | p :: ps,_,h=>by cases h with | cons h1 h2=>exact .cons ⟨h1,p.one h1⟩ (kD h2)
theorem nW {h:PH} {ρ:RM}:∀ {ps:List CP} {vs:List Value},aI (CR h ρ) (ps.map BV.one) vs → av h ps vs
 | [],_,h=>by cases h; exact .nil
 | p :: ps,_,h=>by cases h with | cons h1 h2=>exact .cons h1.1 (nW h2)
theorem R.mK {a:Act} {w:World} (hr:R E n s a w) (k:Nat) {T:TypeId} {ps:List CP} (hk:lk s.own k = some (.box T ps)):R E n ⟨s.slots,ins k (.ao T (ps.map .one)) s.own⟩ a w:=by
 obtain ⟨hd,hn,h,ρ,hw,hs⟩:=hr
 obtain ⟨b,cur,e1,e2,e3⟩:=fg hw hk
 exact ⟨hd,hn,h,ρ,hw.pW hk ⟨b,cur,e1,e2,kD e3⟩,hs⟩
def mA:List BV → Option (List CP)
 | []=>some []
 | .one p :: l=>(mA l).map (p :: ·)
 | _ :: _=>none
theorem pF:∀ {cs:List BV} {ps:List CP},mA cs = some ps → cs = ps.map BV.one
 | [],ps,h=>by simp [mA] at h; subst h; rfl
 | z :: cs,ps,h=>by
  cases z with
  | one p=>
   simp only [mA,Option.map_eq_some_iff] at h
   obtain ⟨q,hq,rfl⟩:=h
   rw [pF hq]; rfl
  | _=>simp [mA] at h
theorem R.unX {a:Act} {w:World} (hr:R E n s a w) (k:Nat) {T:TypeId} {cs:List BV} {ps:List CP} (hk:lk s.own k = some (.ao T cs)) (ho:mA cs = some ps):R E n ⟨s.slots,ins k (.box T ps) s.own⟩ a w:=by
 obtain ⟨hd,hn,h,ρ,hw,hs⟩:=hr
 obtain ⟨b,cur,e1,e2,e3⟩:=di hw hk
 rw [pF ho] at e3
 exact ⟨hd,hn,h,ρ,hw.pW hk ⟨b,cur,e1,e2,nW e3⟩,hs⟩
theorem R.forget {a:Act} {w:World} (hr:R E n s a w) (k off:Nat) {T:TypeId} {cs:List BV} (hk:lk s.own k = some (.ao T cs)):R E n ⟨s.slots,ins k (.ao T (cs.set off (.one .any))) s.own⟩ a w:=by
 obtain ⟨hd,hn,h,ρ,hw,hs⟩:=hr
 obtain ⟨b,cur,e1,e2,e3⟩:=di hw hk
 refine ⟨hd,hn,h,ρ,hw.pW hk ⟨b,cur,e1,e2,?_⟩,hs⟩
 have:∀ {cs:List BV} {vs:List Value} (i:Nat),aI (CR h ρ) cs vs → aI (CR h ρ) (cs.set i (.one .any)) vs:=by
  intro cs vs i ha
  induction ha generalizing i with
  | nil=>simp; exact .nil
  | cons h1 t ih=>cases i with
   | zero=>simp; exact .cons ⟨h1.2,h1.2⟩ t
   | succ i=>simp; exact .cons h1 (ih i)
 exact this off e3
theorem ab.mK (k:Nat) {T:TypeId} {ps:List CP} (hk:lk s.own k = some (.box T ps)) (h:ab P E n cd ⟨s.slots,ins k (.ao T (ps.map .one)) s.own⟩ Q):ab P E n cd s Q:=fun a w hr=>h a w (hr.mK k hk)
theorem ae.mK (k:Nat) {T:TypeId} {ps:List CP} (hk:lk s.own k = some (.box T ps)) (h:ae P E n ops l ⟨s.slots,ins k (.ao T (ps.map .one)) s.own⟩ Q):ae P E n ops l s Q:=fun a w hr=>h a w (hr.mK k hk)
theorem Fin.mK {e:Exit} (k:Nat) {T:TypeId} {ps:List CP} (hk:lk s.own k = some (.box T ps)) (h:Fin E n e ⟨s.slots,ins k (.ao T (ps.map .one)) s.own⟩ Q):Fin E n e s Q:=fun a w hr=>h a w (hr.mK k hk)
theorem ab.unX (k:Nat) {T:TypeId} {cs:List BV} {ps:List CP} (hk:lk s.own k = some (.ao T cs)) (ho:mA cs = some ps) (h:ab P E n cd ⟨s.slots,ins k (.box T ps) s.own⟩ Q):ab P E n cd s Q:=fun a w hr=>h a w (hr.unX k hk ho)
theorem ae.unX (k:Nat) {T:TypeId} {cs:List BV} {ps:List CP} (hk:lk s.own k = some (.ao T cs)) (ho:mA cs = some ps) (h:ae P E n ops l ⟨s.slots,ins k (.box T ps) s.own⟩ Q):ae P E n ops l s Q:=fun a w hr=>h a w (hr.unX k hk ho)
theorem Fin.unX {e:Exit} (k:Nat) {T:TypeId} {cs:List BV} {ps:List CP} (hk:lk s.own k = some (.ao T cs)) (ho:mA cs = some ps) (h:Fin E n e ⟨s.slots,ins k (.box T ps) s.own⟩ Q):Fin E n e s Q:=fun a w hr=>h a w (hr.unX k hk ho)
theorem ab.forget (k off:Nat) {T:TypeId} {cs:List BV} (hk:lk s.own k = some (.ao T cs)) (h:ab P E n cd ⟨s.slots,ins k (.ao T (cs.set off (.one .any))) s.own⟩ Q):ab P E n cd s Q:=fun a w hr=>h a w (hr.forget k off hk)
theorem ae.forget (k off:Nat) {T:TypeId} {cs:List BV} (hk:lk s.own k = some (.ao T cs)) (h:ae P E n ops l ⟨s.slots,ins k (.ao T (cs.set off (.one .any))) s.own⟩ Q):ae P E n ops l s Q:=fun a w hr=>h a w (hr.forget k off hk)
theorem Fin.forget {e:Exit} (k off:Nat) {T:TypeId} {cs:List BV} (hk:lk s.own k = some (.ao T cs)) (h:Fin E n e ⟨s.slots,ins k (.ao T (cs.set off (.one .any))) s.own⟩ Q):Fin E n e s Q:=fun a w hr=>h a w (hr.forget k off hk)
theorem aW {k off:Nat} {T:TypeId} {cs:List BV} {z:BV} (ht:cH P t) (hx:s.ev x = some (.b (.ptr k off))) (hk:lk s.own k = some (.ao T cs)) (hp:cs[off]? = some z) :
  br P E n ⟨dst,.load t x,ty,pos,after,g⟩ s (s.put n dst (.b z)) :=
 br.val (o:=⟨dst,.load t x,ty,pos,after,g⟩) fun ac w h ρ hw hs=>by
  obtain ⟨b,he,hv⟩:=(aE hs hx:BV.rel h ρ (.ptr k off) _)
  obtain ⟨b',cur,hb1,hb2,hb3⟩:=di hw hk
  have:b' = b:=by rw [hb1] at he; simpa using he
  subst this
  obtain ⟨u,hu,hpu⟩:=hb3.get off z hp
  have:=cK ht (w:=w) (b:=b') (o:=off) (v:=u) (by rw [cO hb2]; simpa using hu)
  refine ⟨u,?_,hpu.1⟩
  simp only [execOp,hv,Instr.loadAt,Instr.sureAddr]
  simp [this]
theorem cr {k off m:Nat} {T:TypeId} {cs zs:List BV} (ht:iC P t m) (hx:s.ev x = some (.b (.ptr k off))) (hk:lk s.own k = some (.ao T cs)) (hp:(cs.drop off).take m = zs) (hq:zs.length = m) :
  br P E n ⟨dst,.load t x,ty,pos,after,g⟩ s (s.put n dst (.fY zs)) :=
 br.val (o:=⟨dst,.load t x,ty,pos,after,g⟩) fun ac w h ρ hw hs=>by
  obtain ⟨b,he,hv⟩:=(aE hs hx:BV.rel h ρ (.ptr k off) _)
  obtain ⟨b',cur,hb1,hb2,hb3⟩:=di hw hk
  have:b' = b:=by rw [hb1] at he; simpa using he
  subst this
  have hc:aI (CR h ρ) zs ((cur.toList.drop off).take m):=by rw [← hp]; exact aI.take (aI.drop hb3 off) m
  refine ⟨.agg ((cur.toList.drop off).take m).toArray,?_,_,rfl,hc⟩
  have:=fQ ht (w:=w) (b:=b') (o:=off) (cs:=(cur.toList.drop off).take m) (by rw [← hc.length,hq]) (fun j v hv=>by
   rw [cO hb2]
   rw [List.getElem?_take] at hv
   split at hv
   ·simpa using hv
   ·simp at hv)
  simp only [execOp,hv,Instr.loadAt,Instr.sureAddr]
  simp [this]
theorem WR.setX {h:PH} {ρ:RM} {own:List (Nat × OC)} {w:World} (hw:WR E n own h ρ w) {k b:Nat} {T:TypeId} {ps ps':List BV} {cur:Array Value} {cs:List Value} (hk:lk own k = some (.ao T ps)) (hρ:ρ k = .pointer (some ⟨b,0,none⟩))
  (hb:w.heap[b]? = some (.cells cur T (0,0))) (hr:aI (CR h ρ) ps' cs):WR E n (ins k (.ao T ps') own) h ρ (w.setRow b cs.toArray):=by
 have hst:=hw.step (w':=w.setRow b cs.toArray) k (ρ k) (.ao T ps') (some b) (fun b' e=>by cases e; exact ⟨_,aA hk,by rw [hρ]; rfl⟩) (by simp) rfl rfl
  (fun b' _ hne=>setRow_other _ _ _ _ (fun e=>hne (by rw [e]))) (by rw [dt]; exact ⟨b,cs.toArray,hρ,setRow_heap _ _ _ _ _ _ hb,hr⟩) (fun b' hb'=>by rw [hρ] at hb'; simp [aw] at hb'; exact .inl (by rw [hb'])) (.inl rfl) (.inl rfl)
 rwa [dt] at hst
theorem m9 {v:Value} (h:v.oneCell' = true):v.cells = #[v]:=by cases v <;> first | rfl | simp [Value.oneCell'] at h
theorem de {k off:Nat} {T:TypeId} {cs cs':List BV} {z:BV} (ht:cH P t) (hx:s.ev x = some (.b (.ptr k off))) (hk:lk s.own k = some (.ao T cs)) (hy:s.ev y = some (.b z)) (hz:z.k8 s.own = true) (hlt:off < cs.length) (hps:cs.set off z = cs') :
  br P E n ⟨none,.store t x y,ty,pos,after,g⟩ s ⟨s.slots,ins k (.ao T cs') s.own⟩ :=
 br.store (o:=⟨none,.store t x y,ty,pos,after,g⟩) rfl fun ac w h ρ hw hs=>by
  obtain ⟨b,he,hv⟩:=(aE hs hx:BV.rel h ρ (.ptr k off) _)
  obtain ⟨b',cur,hb1,hb2,hb3⟩:=di hw hk
  have:b' = b:=by rw [hb1] at he; simpa using he
  subst this
  have hp:CR h ρ z (ac.eval y):=cell_of hw hz (aE hs hy)
  obtain ⟨i,hi,hm⟩:=ht.size
  have hcells:=m9 hp.2
  have hlen:=hb3.length
  have hrun:=dL (P:=P) (t:=t) hi hm hb2 (v:=ac.eval y) (o:=off) (by rw [hcells]; rfl) (by simp at hlen; omega) (by rw [hcells]; simpa using hp.2)
  refine ⟨_,by simp only [execOp,hv,Instr.storeAt,Instr.sureAddr]; simp [hrun]; rfl,?_⟩
  refine hw.setX hk hb1 hb2 ?_
  rw [← hps]
  have hset:Sk.bE cur.toList off (ac.eval y).cells.toList = cur.toList.set off (ac.eval y):=by
   rw [hcells]
   have:off < cur.toList.length:=by rw [← hlen]; exact hlt
   simp only [Sk.bE,List.length_cons,List.length_nil]
   rw [List.set_eq_take_append_cons_drop,if_pos this]; simp
  rw [hset]
  exact aI.set hb3 off hp
def SV.jQ (own:List (Nat × OC)):SV → Option (List BV)
 | .b (.agg ps)=>some (ps.map .one)
 | .b (.xa cs)=>some (cs.map CV.bv)
 | .b z=>if z.k8 own = true then some [z] else none
 | .fY l=>some l
 | _=>none
theorem SV.mb {own:List (Nat × OC)} {h:PH} {ρ:RM} {w:World} (hw:WR E n own h ρ w) {z:SV} {ps:List BV} {v:Value} (hz:z.jQ own = some ps) (hv:z.rel h ρ v):aI (CR h ρ) ps v.cells.toList:=by
 cases z with
 | b z=>
  have one:∀ z:BV,(if z.k8 own = true then some [z] else none) = some ps → z.rel h ρ v → aI (CR h ρ) ps v.cells.toList:=fun z hz hv=>by
   split at hz
   ·next hc=>
    simp at hz; subst hz
    have hcr:=cell_of hw hc hv
    rw [m9 hcr.2]; exact .cons hcr .nil
   ·simp at hz
  cases z with
  | agg qs=>simp [SV.jQ] at hz; subst hz; obtain ⟨cs,rfl,hr⟩:=hv; exact kD hr
  | xa cs=>simp [SV.jQ] at hz; subst hz; obtain ⟨vs,rfl,hr⟩:=hv; exact CV.bvX hr
  | one p=>exact one (.one p) hz hv
  | ptr k o=>exact one (.ptr k o) hz hv
  | row k=>exact one (.row k) hz hv
  | bu k o=>exact one (.bu k o) hz hv
  | part k a b c d=>exact one (.part k a b c d) hz hv
  | cz ps=>exact one (.cz ps) hz hv
  | pU k a b c=>exact one (.pU k a b c) hz hv
  | fT f fs cs=>exact one (.fT f fs cs) hz hv
 | fY l=>simp [SV.jQ] at hz; subst hz; obtain ⟨cs,rfl,hr⟩:=hv; exact hr
 | _=>simp [SV.jQ] at hz
def iY (s:St):List (Nat × Operand) → Option (List (Nat × List BV))
 | []=>some []
 | (i,x) :: l=>(s.ev x).bind fun z=>(z.jQ s.own).bind fun ps=>(iY s l).map fun r=>(i,ps) :: r
def nP (place:Nat → Option (Nat × Nat)) (zs:List BV):List (Nat × List BV) → Option (List BV)
 | []=>some zs
 | (i,qs) :: r=>(place i).bind fun q=>if qs.length = q.2 ∧ q.1 + qs.length ≤ zs.length then nP place (bE zs q.1 qs) r else none
theorem mQ {h:PH} {ρ:RM} {w:World} (hw:WR E n s.own h ρ w) {ac:Act} (hs:a7 h ρ s.slots ac.tmps) (place:Nat → Option (Nat × Nat)):∀ (parts:List (Nat × Operand)) (cps:List (Nat × List BV)) (zs qs:List BV) (zc:Array Value),
  iY s parts = some cps → nP place zs cps = some qs → aI (CR h ρ) zs zc.toList → ∃ cs,Instr.fill place zc (parts.map fun p=>(p.1,ac.eval p.2)) = some cs ∧ aI (CR h ρ) qs cs.toList
 | [],cps,zs,qs,zc,he,hf,hz=>by
  simp [iY] at he; subst he
  simp [nP] at hf; subst hf
  exact ⟨zc,rfl,hz⟩
 | (i,x) :: l,cps,zs,qs,zc,he,hf,hz=>by
  unfold iY at he
  simp only [Option.bind_eq_some_iff,Option.map_eq_some_iff] at he
  obtain ⟨z,hz1,ps,hps,r,hr,rfl⟩:=he
  unfold nP at hf
  simp only [Option.bind_eq_some_iff] at hf
  obtain ⟨⟨off,size⟩,hpl,hf⟩:=hf
  split at hf
  ·rename_i hc
   obtain ⟨hc1,hc2⟩:=hc
   have hrel:=SV.mb hw hps (aE hs hz1)
   have hl:=hrel.length
   have hzl:=hz.length
   simp only [Array.length_toList] at hl hzl
   dsimp only at hc1 hc2 hf
   have hsp:((ac.eval x).cells.zipIdx.foldl (fun cs (p:Value × Nat)=>cs.setIfInBounds (off + p.2) p.1) zc).toList = bE zc.toList off (ac.eval x).cells.toList:=by
    have:=l9 off (ac.eval x).cells.toList 0 zc (by simp; omega)
    rw [Nat.add_zero] at this
    rw [← this,← Array.foldl_toList]
    congr 2
    simp
   obtain ⟨cs,h1,h2⟩:=mQ hw hs place l r (bE zs off ps) qs _ hr hf (by rw [hsp]; exact aI.bE hz hrel off)
   refine ⟨cs,?_,h2⟩
   simp only [List.map_cons,Instr.fill,hpl]
   rw [if_neg (by simp; omega)]
   exact h1
  ·simp at hf
theorem mf {pl:List (Nat × Nat)} {zs:List CP} {qs:List BV} {parts:Array (Nat × Operand)} {cps:List (Nat × List BV)} (ht:lU P t pl zs) (hp:iY s parts.toList = some cps) (hf:nP (pl.toArray[·]?) (zs.map .one) cps = some qs) :
  br P E n ⟨dst,.build t parts,ty,pos,after,g⟩ s (s.put n dst (.fY qs)) :=
 br.val (o:=⟨dst,.build t parts,ty,pos,after,g⟩) fun ac w h ρ hw hs=>by
  obtain ⟨it,z,fs,h1,h2,h3,h4,h5⟩:=ht.info
  obtain ⟨cs,hc1,hc2⟩:=mQ hw hs (pl.toArray[·]?) parts.toList cps (zs.map .one) qs z.cells hp hf (kD (fq h h3))
  refine ⟨.agg cs,?_,cs,rfl,hc2⟩
  have hb:P.built t (parts.map fun (i,x)=>(i,ac.eval x)).toList = some cs:=by
   simp only [Program.built,h1,h4,h2,h5]
   rw [← hc1]
   simp
  have:=run_build (P:=P) w t _ cs hb
  simp only [execOp]
  simp [this]
def mk? {α:Type} (z:α) (len cap:Int):Option (List α):=if 0 ≤ len ∧ len ≤ cap ∧ cap ≤ 1000000000 then some (List.replicate len.toNat z) else none
theorem mk_ok {α:Type} {z:α} {len cap:Int} {r:List α} (h:mk? z len cap = some r):0 ≤ len ∧ len ≤ cap ∧ cap ≤ 1000000000 ∧ List.replicate len.toNat z = r:=by
 unfold mk? at h; split at h
 ·next hh=>exact ⟨hh.1,hh.2.1,hh.2.2,by simpa using h⟩
 ·simp at h
theorem nz {zs:List CP} {size n:Nat} (h:zs.length = size):bD size (List.replicate n zs):=fun ps hp=>by rw [(List.mem_replicate.1 hp).2]; exact h
theorem rB {h:PH} {zs:List CP} {zc:Array Value} {size:Nat} (hz:av h zs zc.toList) (hs:zs.length = size) (hp:0 < size) (n m:Nat) (hnm:n ≤ m) :
  av h (List.replicate n zs).flatten ((madeCells zc (m * size)).toList.take (n * size)):=by
 have hzl:zc.size = size:=by have:=hz.length; simp at this; omega
 have hle:n * size ≤ m * size:=Nat.mul_le_mul_right _ hnm
 have hfl:=cx (nz (n:=n) hs)
 have hms:(madeCells zc (m * size)).toList.length = m * size:=by simp [madeCells]
 refine aI.nk (by rw [hfl,List.length_replicate,List.length_take,hms]; omega) fun j a b ha hb=>?_
 have hj:j < n * size:=by
  have:=(List.getElem?_eq_some_iff.1 ha).1
  rw [hfl] at this; simpa using this
 have hd:j / size < n:=by rw [Nat.div_lt_iff_lt_mul hp]; exact hj
 have hm:j % size < size:=Nat.mod_lt _ hp
 have hjj:j / size * size + j % size = j:=by rw [Nat.mul_comm]; exact Nat.div_add_mod _ _
 have h1:=eC (nz (n:=n) hs) (j / size) zs (by simp [hd]) (j % size) hm
 rw [hjj,ha] at h1
 rw [List.getElem?_take,if_pos hj] at hb
 have h2:(madeCells zc (m * size)).toList[j]? = zc[j % size]?:=by
  have hlt:j < m * size:=by omega
  simp only [madeCells,Array.getElem?_toList]
  rw [Array.getElem?_map,Array.getElem?_range]
  simp only [hlt,if_true,Option.map_some,hzl]
  have:j % size < zc.size:=by omega
  simp [this]
 rw [h2] at hb
 obtain ⟨u,hu,hr⟩:=hz.get (j % size) a h1.symm
 rw [Array.getElem?_toList,hb] at hu
 cases hu
 exact hr
def ZC (a b:CP):Prop:=∀ h v,a.rel h v → b.rel h v
theorem ZC.refl {a:CP}:ZC a a:=fun _ _ x=>x
theorem ZC.gT {size:Nat} (h:0 < size):ZC .nil (.sl size []):=fun _ v x=>⟨fun ps hp=>by simp at hp,h,.inl ⟨x.1,rfl⟩⟩
theorem qz {h:PH}:∀ {zs qs:List CP} {vs:List Value},aI ZC zs qs → av h zs vs → av h qs vs
 | [],_,_,h1,h2=>by cases h1; cases h2; exact .nil
 | _ :: _,_,_,h1,h2=>by cases h1 with | cons a b=>cases h2 with | cons c d=>exact .cons (a _ _ c) (qz b d)
theorem bl {k size bytes:Nat} {e:TypeId} {zs:List CP} {lo co:Operand} {kl kc:IntKind} {α:Type} {z0:α} {enc:α → List CP} {a b:Int} {r:List α} (ht:ec P t e size bytes zs) (hm:mk? z0 a b = some r) (hbb:bytes ≤ 281474) (hz0:aI ZC zs (enc z0))
  (hx:s.ev lo = some (.b (.one (.int kl a)))) (hy:s.ev co = some (.b (.one (.int kc b)))) (hfx:n.fix.contains k = false) (hnu:bL k s.own = true:=by rfl) :
  br P E n ⟨dst,.makeSlice t lo co,ty,pos,after,g⟩ s ((⟨bg k s.slots,ins k (.row e size (r.map enc)) s.own⟩:St).put n dst (.b (.row k))) :=
 br.make (hfx:=hfx) (hnu:=hnu) (o:=⟨dst,.makeSlice t lo co,ty,pos,after,g⟩) fun ac w h ρ hw hs=>by
  obtain ⟨i,z,h1,h2,h3,h4,h5,h6,h7⟩:=ht.info
  obtain ⟨q0,q1,q2,rfl⟩:=mk_ok hm
  have hzr:=fq h h7
  have hzr:av h (enc z0) z.cells.toList:=qz hz0 hzr
  have hzl:(enc z0).length = size:=by rw [hzr.length]; simpa using h5
  have hbytes:(i.bytes:Int) * b ≤ 281474976710656:=by
   rw [h3]
   have e1:(bytes:Int) ≤ 281474:=by omega
   calc (bytes:Int) * b ≤ 281474 * b:=Int.mul_le_mul_of_nonneg_right e1 (by omega)
    _ ≤ _:=by omega
  have hrun:=run_make (P:=P) w t e i z ht.und h1 h4 kl kc a b q0 q1 hbytes (by omega)
  rw [h2] at hrun
  refine ⟨.slice (some ⟨w.heap.size,0,none⟩) a.toNat b.toNat,.slice (some ⟨w.heap.size,0,none⟩) a.toNat b.toNat,w.alloc (.cells (madeCells z.cells (b.toNat * size)) e),none,?_,fun b e=>by simp at e,by simp,rfl,rfl,fun b hb _=>heap_alloc_old w _ hb,?_,
   fun b e=>by simp [aw] at e; subst e; exact .inr (Nat.le_refl _),(aN _ _ _).symm⟩
  ·simp only [execOp,(cb hs hx).1,(cb hs hy).1]
   simp [hrun]
  ·have hle:a.toNat ≤ b.toNat:=by omega
   have hmap:(List.replicate a.toNat z0).map enc = List.replicate a.toNat (enc z0):=by rw [List.map_replicate]
   rw [hmap]
   refine ⟨nz hzl,h6,(madeCells z.cells (b.toNat * size)).toList.take (a.toNat * size),⟨?_,.inr ⟨w.heap.size,b.toNat,_,?_,Nat.zero_le _,heap_alloc_new w _,?_,?_,?_,?_⟩⟩,rB hzr hzl h6 _ _ hle⟩
   ·have:a.toNat * size ≤ b.toNat * size:=Nat.mul_le_mul_right _ hle
    have hms:(madeCells z.cells (b.toNat * size)).toList.length = b.toNat * size:=by simp [madeCells]
    rw [List.length_take,hms,List.length_replicate]; omega
   ·simp
   ·simpa using hle
   ·rw [cB]; omega
   ·simp [madeCells]
   ·simp
end
end Go.Sk
namespace Go.Sk
set_option linter.unusedSimpArgs false
set_option linter.unusedVariables false
open Go Go.BigFrame
def swp (a b k:Nat):Nat:=if k == a then b else if k == b then a else k
theorem fm (a b k:Nat):swp a b (swp a b k) = k:=by
 unfold swp
 by_cases h1:k = a
 ·subst h1
  by_cases h2:b = k <;> simp [h2]
 ·by_cases h2:k = b
  ·subst h2
   simp [h1]
  ·simp [h1,h2]
def CV.fH (f:Nat → Nat):CV → CV
 | .row j=>.row (f j)
 | .ptr j o=>.ptr (f j) o
 | z=>z
def BV.fH (f:Nat → Nat):BV → BV
 | .fT g fs cs=>.fT g (fs.map (·.fH f)) (cs.map (·.fH f))
 | .xa cs=>.xa (cs.map (·.fH f))
 | .row j=>.row (f j)
 | .ptr j o=>.ptr (f j) o
 | .bu j o=>.bu (f j) o
 | .part j a b c d=>.part (f j) a b c d
 | .pU j a b c=>.pU (f j) a b c
 | z=>z
def SV.fH (f:Nat → Nat):SV → SV
 | .b z=>.b (z.fH f)
 | .eo l=>.eo (l.map (·.fH f))
 | .opt c z=>.opt c (z.fH f)
 | .fY l=>.fY (l.map (·.fH f))
def OC.fH (f:Nat → Nat):OC → OC
 | .ao T cs=>.ao T (cs.map (·.fH f))
 | .mp es=>.mp (es.map fun q=>(q.1,q.2.fH f))
 | .fL j m rest cur=>.fL (f j) m rest cur
 | c=>c
def mB (f:Nat → Nat) (l:List (Nat × OC)):List (Nat × OC):=l.map fun p=>(f p.1,p.2.fH f)
theorem dE {α β γ:Type} {r:β → γ → Prop} (g:α → β):∀ {l:List α} {vs:List γ},aI r (l.map g) vs ↔ aI (fun a u=>r (g a) u) l vs
 | [],vs=>⟨fun h=>by cases h; exact .nil,fun h=>by cases h; exact .nil⟩
 | a :: l,vs=>⟨fun h=>by cases h with | cons h1 h2=>exact .cons h1 ((dE g).1 h2),fun h=>by cases h with | cons h1 h2=>exact .cons h1 ((dE g).2 h2)⟩
theorem eO {α γ:Type} {r r':α → γ → Prop} {l:List α} {vs:List γ} (h:∀ a u,r a u ↔ r' a u):aI r l vs ↔ aI r' l vs:=⟨fun x=>x.mono fun a u=>(h a u).1,fun x=>x.mono fun a u=>(h a u).2⟩
theorem CV.c9 {f:Nat → Nat} {h:PH} {ρ:RM} {z:CV} {v:Value}:(z.fH f).rel h ρ v ↔ z.rel h (fun k=>ρ (f k)) v:=by cases z <;> exact Iff.rfl
theorem BV.c9 {f:Nat → Nat} {h:PH} {ρ:RM} {z:BV} {v:Value}:(z.fH f).rel h ρ v ↔ z.rel h (fun k=>ρ (f k)) v:=by
 cases z with
 | xa cs=>exact exists_congr fun a=>and_congr Iff.rfl ((dE _).trans (eO fun a u=>and_congr CV.c9 Iff.rfl))
 | fT g fs cs=>exact exists_congr fun a=>exists_congr fun b=>and_congr Iff.rfl (and_congr ((dE _).trans (eO fun a u=>CV.c9)) ((dE _).trans (eO fun a u=>CV.c9)))
 | _=>exact Iff.rfl
theorem SV.c9 {f:Nat → Nat} {h:PH} {ρ:RM} {z:SV} {v:Value}:(z.fH f).rel h ρ v ↔ z.rel h (fun k=>ρ (f k)) v:=by
 cases z with
 | b z=>exact BV.c9
 | opt c z=>exact and_congr (imp_congr Iff.rfl BV.c9) Iff.rfl
 | eo l=>exact exists_congr fun vs=>and_congr Iff.rfl ((dE _).trans (eO fun a u=>BV.c9))
 | fY l=>exact exists_congr fun vs=>and_congr Iff.rfl ((dE _).trans (eO fun a u=>and_congr BV.c9 Iff.rfl))
theorem OC.pJ {f:Nat → Nat} {h:PH} {ρ:RM} {c:OC} {v:Value} {w:World}:(c.fH f).ok h ρ v w ↔ c.ok h (fun k=>ρ (f k)) v w:=by
 cases c with
 | box T ps=>exact Iff.rfl
 | row T size es=>exact Iff.rfl
 | cp T size es=>exact Iff.rfl
 | fA T size es=>exact Iff.rfl
 | sit q pos=>exact Iff.rfl
 | mq m=>exact Iff.rfl
 | rr=>exact Iff.rfl
 | fL j m rest cur=>exact exists_congr fun _=>exists_congr fun _=>exists_congr fun _=>exists_congr fun _=>exists_congr fun _=>⟨fun x=>⟨x.ptr,x.it,x.map,x.obj,x.ents,x.born,x.left,x.at_⟩,fun x=>⟨x.ptr,x.it,x.map,x.obj,x.ents,x.born,x.left,x.at_⟩⟩
 | mp es=>exact exists_congr fun b=>exists_congr fun ms=>exists_congr fun clk=>and_congr Iff.rfl (and_congr Iff.rfl (and_congr ((dE _).trans (eO fun a u=>and_congr Iff.rfl BV.c9)) Iff.rfl))
 | ao T cs=>exact exists_congr fun b=>exists_congr fun cur=>and_congr Iff.rfl (and_congr Iff.rfl ((dE _).trans (eO fun a u=>and_congr BV.c9 Iff.rfl)))
theorem OC.fV {f:Nat → Nat} {c:OC} {v:Value} {w:World} {b:Nat}:(c.fH f).bd v w b ↔ c.bd v w b:=by cases c <;> exact Iff.rfl
theorem n5 {f:Nat → Nat} {l:List (Nat × OC)} {k:Nat} {c:OC} (h:(k,c) ∈ mB f l):∃ k0 c0,(k0,c0) ∈ l ∧ k = f k0 ∧ c = c0.fH f:=by
 obtain ⟨⟨k0,c0⟩,hm,he⟩:=List.mem_map.1 h
 obtain ⟨rfl,rfl⟩:=Prod.mk.inj he
 exact ⟨k0,c0,hm,rfl,rfl⟩
theorem lL {f:Nat → Nat} {l:List (Nat × OC)}:aj (mB f l) = (aj l).map f:=by simp [aj,mB]
theorem pc {f:Nat → Nat} {c:OC}:(c.fH f).lF = c.lF:=by cases c <;> rfl
theorem kQ {f:Nat → Nat}:∀ {l:List (Nat × OC)},aQ (mB f l) = (aQ l).map f
 | []=>rfl
 | (k,c) :: l=>by
  have ih:=kQ (f:=f) (l:=l)
  show (if (c.fH f).lF = true then f k :: aQ (mB f l) else aQ (mB f l)) = _
  rw [pc,ih]
  cases hb:c.lF <;> simp [aQ,hb]
theorem ar.sw {P:Program} {TB:bc} {f:FuncId} {own own':List (Nat × OC)} {args:List BV} {res:SV} (hm:ar P TB f own args (Is own' res)) (a b:Nat) :
  ar P TB f (mB (swp a b) own) (args.map (·.fH (swp a b))) (Is (mB (swp a b) own') (res.fH (swp a b))):=by
 intro w h ρ vals tb hag hlent hargs
 have hss:(fun k=>ρ (swp a b (swp a b k))) = ρ:=by funext k; rw [fm]
 have hinj:∀ {i j:Nat},swp a b i = swp a b j → i = j:=fun {i j} e=>by have:=congrArg (swp a b) e; rwa [fm,fm] at this
 have hl:Lent own h (fun k=>ρ (swp a b k)) w:=fun k c hk=>by
  obtain ⟨e1,e2,e3⟩:=hlent (swp a b k) (c.fH (swp a b)) (List.mem_map.2 ⟨(k,c),hk,rfl⟩)
  exact ⟨OC.pJ.1 e1,fun b hb=>e2 b (OC.fV.2 hb),fun k' c' hk' hne b' hb' hb2=>e3 (swp a b k') (c'.fH (swp a b)) (List.mem_map.2 ⟨(k',c'),hk',rfl⟩) (fun e=>hne (hinj e)) b' (OC.fV.2 hb') (OC.fV.2 hb2)⟩
 have ha:aI (fun (x:BV) v=>x.rel h (fun k=>ρ (swp a b k)) v) args vals:=((dE _).trans (eO fun a u=>BV.c9)).1 hargs
 refine (hm w h _ vals tb hag hl ha).mono ?_
 rintro e w' ⟨v,own1,res1,h',ρ',rfl,⟨rfl,rfl⟩,hw,hres⟩
 have hlt:∀ b',iK (TB:=TB) ⟨w,h,fun k=>ρ (swp a b k),tb⟩ ⟨0,aQ own,aj own,[]⟩ b' ↔ iK (TB:=TB) ⟨w,h,ρ,tb⟩ ⟨0,aQ (mB (swp a b) own),aj (mB (swp a b) own),[]⟩ b':=fun b'=>by
  constructor
  ·rintro ⟨k,hk,hb⟩
   exact ⟨swp a b k,by show _ ∈ aj _; rw [lL]; exact List.mem_map.2 ⟨k,hk,rfl⟩,hb⟩
  ·rintro ⟨k,hk,hb⟩
   have hk':k ∈ (aj own).map (swp a b):=by rw [← lL]; exact hk
   obtain ⟨k0,hk0,rfl⟩:=List.mem_map.1 hk'
   exact ⟨k0,hk0,hb⟩
 refine ⟨v,_,_,h',fun k=>ρ' (swp a b k),rfl,⟨rfl,rfl⟩,⟨hw.agree,hw.le,fun b' hb' hn=>hw.fresh b' hb' fun hh=>hn ((hlt b').1 hh),hw.size,fun b' hb' hn=>hw.same b' hb' fun hh=>hn ((hlt b').1 hh),fun k hk=>?_,hw.os,hw.out,fun b' hn o=>hw.nl b' ((hlt b').2 hn) o,fun k c hk=>?_⟩,?_⟩
 ·have hk':k ∈ (aQ own).map (swp a b):=by rw [← kQ]; exact hk
  obtain ⟨k0,hk0,rfl⟩:=List.mem_map.1 hk'
  show ρ' (swp a b (swp a b k0)) = _
  rw [fm]; exact hw.fixed k0 hk0
 ·obtain ⟨k0,c0,hk0,rfl,rfl⟩:=n5 hk
  obtain ⟨e1,e2,e3⟩:=hw.owned k0 c0 hk0
  have hss':(fun k=>ρ' (swp a b (swp a b k))) = ρ':=by funext k; rw [fm]
  refine ⟨OC.pJ.2 (by rw [fm]; exact (congrArg (fun r=>c0.ok h' r (ρ' k0) w') hss').mpr e1),fun b' hb'=>?_,fun k' c' hk' hne b' hb'=>?_⟩
  ·have hb2:c0.bd (ρ' k0) w' b':=by
    have:=OC.fV.1 hb'
    rwa [fm] at this
   exact ⟨(e2 b' hb2).1.imp_right (hlt b').1,(e2 b' hb2).2⟩
  ·obtain ⟨k1,c1,hk1,rfl,rfl⟩:=n5 hk'
   have hb2:c0.bd (ρ' k0) w' b':=by
    have:=OC.fV.1 hb'
    rwa [fm] at this
   intro hb3
   have hb4:c1.bd (ρ' k1) w' b':=by
    have:=OC.fV.1 hb3
    rwa [fm] at this
   exact e3 k1 c1 hk1 (fun e=>hne (by rw [e])) b' hb2 hb4
 ·have hss':(fun k=>ρ' (swp a b (swp a b k))) = ρ':=by funext k; rw [fm]
  exact SV.c9.2 (by rw [hss']; exact hres)
section
variable {P:Program} {TB:bc} {E:Env TB} {n:Sh} {s s':St} {dst:Option Nat} {t ty yt:TypeId} {pos:String} {after:Array Edge} {g:Option (Nat × Bool)} {x y c:Operand} {ops:Array Oper} {l:List Oper} {Q:bU} {cd:Code}
theorem gl {α:Type} {k:Nat} {c:α}:∀ {l:List (Nat × α)} {j:Nat} {x:α},(j,x) ∈ l → j ≠ k → (j,x) ∈ ins k c l
 | (i,y) :: l,j,x,h,hne=>by
  unfold ins
  split
  ·next e=>
   have e':k = i:=by simpa using e
   subst e'
   cases List.mem_cons.1 h with
   | inl e=>obtain ⟨rfl,rfl⟩:=Prod.mk.inj e; exact absurd rfl hne
   | inr e=>exact List.mem_cons_of_mem _ (dG e hne)
  ·cases List.mem_cons.1 h with
   | inl e=>rw [e]; exact List.mem_cons_self
   | inr e=>exact List.mem_cons_of_mem _ (gl e hne)
theorem WR.repl' {own:List (Nat × OC)} {h:PH} {ρ:RM} {w:World} (hw:WR E n own h ρ w) {k:Nat} {c0 c':OC} (hk:(k,c0) ∈ own) (hc:c'.ok h ρ (ρ k) w) (hpl:c'.plain = true:=by rfl):WR E n (ins k c' own) h ρ w:=by
 have:=hw.step (w':=w) k (ρ k) c' (aw (ρ k)) (fun b e=>⟨c0,hk,e⟩) (Nat.le_refl _) rfl rfl (fun _ _ _=>rfl) (by rw [dt]; exact hc) (fun b hb=>.inl hb) (.inl rfl) (.inl rfl) hpl
 rwa [dt] at this
theorem R.gy {a:Act} {w:World} (hr:R E n s a w) (kb off k size:Nat) (T:TypeId) {T2:TypeId} {cs:List BV} (hk:lk s.own kb = some (.ao T2 cs)) (hi:cs[off]? = some (.one .nil)) (hz:0 < size) (hne:kb ≠ k) (hfx:n.fix.contains k = false) (hnu:bL k s.own = true) :
  R E n ⟨bg k s.slots,ins kb (.ao T2 (cs.set off (.row k))) (ins k (.row T size []) s.own)⟩ a w:=by
 obtain ⟨h1,h2,h,ρ,hw,hs⟩:=hr
 obtain ⟨b,cur,e1,e2,e3⟩:=di hw hk
 have hst:=hw.step (w':=w) k (.slice none 0 0) (.row T size []) none (fun b e=>by simp at e) (Nat.le_refl _) rfl rfl (fun _ _ _=>rfl)
  ⟨fun ps hps=>by simp at hps,hz,[],⟨by simp,.inl ⟨rfl,rfl⟩⟩,.nil⟩ (fun b hb=>by simp [aw] at hb) (.inr fun e=>by simp at hfx; exact hfx e) (.inr hnu)
 have hm:=gl (c:=OC.row T size []) (aA hk) hne
 have hcs:aI (CR h (fW ρ k (.slice none 0 0))) (cs.set off (.row k)) cur.toList:=by
  have hno:∀ j,(cs.any (·.bt j)) = true → fW ρ k (.slice none 0 0) j = ρ j:=fun j hj=>aJ _ _ fun e=>by
   subst e
   have:=er hnu (aA hk)
   simp only [OC.bt] at this
   rw [this] at hj; simp at hj
  clear hst hm hk e2
  generalize cur.toList = vl at e3
  induction e3 generalizing off with
  | nil=>simp at hi
  | @cons z u cs vl h3 t ih=>
   have hno':∀ j,(cs.any (·.bt j)) = true → fW ρ k (.slice none 0 0) j = ρ j:=fun j hj=>hno j (by simp only [List.any_cons,hj,Bool.or_true])
   have hu:∀ j,z.bt j = true → fW ρ k (.slice none 0 0) j = ρ j:=fun j hj=>hno j (by simp [hj])
   have hrest:∀ {cs:List BV} {vl:List Value},(∀ j,(cs.any (·.bt j)) = true → fW ρ k (.slice none 0 0) j = ρ j) → aI (fun (z:BV) u=>z.rel h ρ u ∧ u.oneCell' = true) cs vl → aI (CR h (fW ρ k (.slice none 0 0))) cs vl:=by
    intro cs vl hn ha
    induction ha with
    | nil=>exact .nil
    | cons h4 _ ih2=>exact .cons ⟨BV.mono (PH.le_refl _) (fun j hj=>hn j (by simp [hj])) h4.1,h4.2⟩ (ih2 fun j hj=>hn j (by simp only [List.any_cons,hj,Bool.or_true]))
   cases off with
   | zero=>
    simp at hi
    subst hi
    have hv:u = .slice none 0 0:=h3.1.1
    exact .cons ⟨by rw [hv]; exact (aN _ _ _).symm,h3.2⟩ (hrest hno' t)
   | succ off=>exact .cons ⟨BV.mono (PH.le_refl _) hu h3.1,h3.2⟩ (ih off (by simpa using hi) hno')
 refine ⟨h1,h2,h,_,WR.repl' hst hm ⟨b,cur,by rw [aJ _ _ hne]; exact e1,e2,hcs⟩,hs.bg k _⟩
theorem ab.gy (kb off k size:Nat) (T:TypeId) {T2:TypeId} {cs:List BV} (hk:lk s.own kb = some (.ao T2 cs)) (hi:cs[off]? = some (.one .nil)) (hz:0 < size) (hne:kb ≠ k) (hfx:n.fix.contains k = false) (h:ab P E n cd ⟨bg k s.slots,ins kb (.ao T2 (cs.set off (.row k))) (ins k (.row T size []) s.own)⟩ Q) (hnu:bL k s.own = true:=by rfl):ab P E n cd s Q:=fun a w hr=>h a w (hr.gy kb off k size T hk hi hz hne hfx hnu)
theorem ae.gy (kb off k size:Nat) (T:TypeId) {T2:TypeId} {cs:List BV} (hk:lk s.own kb = some (.ao T2 cs)) (hi:cs[off]? = some (.one .nil)) (hz:0 < size) (hne:kb ≠ k) (hfx:n.fix.contains k = false) (h:ae P E n ops l ⟨bg k s.slots,ins kb (.ao T2 (cs.set off (.row k))) (ins k (.row T size []) s.own)⟩ Q) (hnu:bL k s.own = true:=by rfl):ae P E n ops l s Q:=fun a w hr=>h a w (hr.gy kb off k size T hk hi hz hne hfx hnu)
theorem Fin.gy {e:Exit} (kb off k size:Nat) (T:TypeId) {T2:TypeId} {cs:List BV} (hk:lk s.own kb = some (.ao T2 cs)) (hi:cs[off]? = some (.one .nil)) (hz:0 < size) (hne:kb ≠ k) (hfx:n.fix.contains k = false) (h:Fin E n e ⟨bg k s.slots,ins kb (.ao T2 (cs.set off (.row k))) (ins k (.row T size []) s.own)⟩ Q) (hnu:bL k s.own = true:=by rfl):Fin E n e s Q:=fun a w hr=>h a w (hr.gy kb off k size T hk hi hz hne hfx hnu)
end
end Go.Sk
namespace Go.Sk
set_option linter.unusedSimpArgs false
set_option linter.unusedVariables false
open Go
end Go.Sk
namespace Go.Sk
end Go.Sk
namespace Go.Sk
set_option linter.unusedSimpArgs false
set_option linter.unusedVariables false
open Go Go.BigFrame
structure jF where
 done:List Bool
 base:List (Nat × SV)
 own:List (Nat × OC)
 live:List Bool
 must:List Nat
 nots:List Nat
def nb (l:List Bool) (i:Nat):Bool:=l.getD i false
def fK:List jF → List Bool → Option jF
 | [],_=>none
 | σ :: tab,d=>if σ.done == d then some σ else fK tab d
theorem ed:∀ {tab:List jF} {d:List Bool} {σ:jF},fK tab d = some σ → σ.done = d ∧ σ ∈ tab
 | σ0 :: tab,d,σ,h=>by
  unfold fK at h
  split at h
  ·next e=>cases h; exact ⟨by simpa using e,List.mem_cons_self⟩
  ·exact ⟨(ed h).1,List.mem_cons_of_mem _ (ed h).2⟩
def bM (p:Nat → Bool) (l:List Oper) (Fs:List SV):List Edge → List (Nat × SV)
 | []=>[]
 | e :: es=>if Region.binds .any e && p e.on then
   match l[e.on]?,Fs[e.on]? with
   | some o,some x=>(match o.dst with | some d=>(d,x) :: bM p l Fs es | none=>bM p l Fs es)
   | _,_=>bM p l Fs es
  else bM p l Fs es
theorem jN {p:Nat → Bool} {l:List Oper} {Fs:List SV}:∀ {es:List Edge} {q:Nat × SV},q ∈ bM p l Fs es → ∃ e,e ∈ es ∧ Region.binds .any e = true ∧ p e.on = true ∧ ∃ o,l[e.on]? = some o ∧ o.dst = some q.1 ∧ Fs[e.on]? = some q.2
 | [],q,h=>by simp [bM] at h
 | e :: es,q,h=>by
  have hrec:q ∈ bM p l Fs es → ∃ e',e' ∈ e :: es ∧ Region.binds .any e' = true ∧ p e'.on = true ∧ ∃ o,l[e'.on]? = some o ∧ o.dst = some q.1 ∧ Fs[e'.on]? = some q.2:=fun h=>by
   obtain ⟨e',h1,h2⟩:=jN h
   exact ⟨e',List.mem_cons_of_mem _ h1,h2⟩
  unfold bM at h
  split at h
  ·rename_i hb
   simp only [Bool.and_eq_true] at hb
   split at h
   ·rename_i o x ho hx
    split at h
    ·rename_i d hd
     cases List.mem_cons.1 h with
     | inl e'=>subst e'; exact ⟨e,List.mem_cons_self,hb.1,hb.2,o,ho,hd,hx⟩
     | inr e'=>exact hrec e'
    ·exact hrec h
   ·exact hrec h
  ·exact hrec h
def iN:List Nat → List (Nat × SV) → List (Nat × SV)
 | [],l=>l
 | k :: ks,l=>iN ks (bg k l)
def kn:List Nat → SV → Bool
 | [],_=>false
 | k :: ks,x=>x.bt k || kn ks x
theorem jM {q:Nat × SV}:∀ {key:List Nat} {l:List (Nat × SV)},q ∈ iN key l → q ∈ l ∧ kn key q.2 = false
 | [],l,h=>⟨h,rfl⟩
 | k :: ks,l,h=>by
  obtain ⟨h1,h2⟩:=jM (key:=ks) h
  obtain ⟨h3,h4⟩:=cS h1
  exact ⟨h3,by simp [kn,h4,h2]⟩
def qS (o:Oper) (j:Nat):Bool:=o.after.toList.any fun e=>Region.binds .any e && e.on == j
section
variable {P:Program} {TB:bc} {E:Env TB} {n:Sh} {s s':St} {l:List Oper} {Q:bU} {o:Oper}
def may (isW:List Bool) (σ:jF) (i:Nat) (o:Oper):Bool:=!nb σ.done i && !σ.must.contains i && !σ.nots.contains i && (o.after.toList.all fun e=>!Region.binds .any e || !nb isW e.on || nb σ.done e.on)
def oH (isW:List Bool) (l:List Oper) (σ:jF):Bool:=σ.must.all fun j=>(nb isW j && nb σ.done j) || (σ.must.any fun i=>decide (j < i) && (match l[i]? with | some o=>qS o j | none=>false))
def delD:Option Nat → List (Nat × SV) → List (Nat × SV)
 | some d,l=>del d l
 | none,l=>l
def oR (isW:List Bool) (l:List Oper) (σ:jF):Bool:=(List.range l.length).all fun j=>(nb isW j && !nb σ.done j) || (match l[j]? with
 | some o=>(match o.dst with
  | some d=>σ.base.all fun p=>p.1 != d
  | none=>true)
 | none=>true)
def pn (isW:List Bool) (l:List Oper) (σ:jF):Bool:=σ.nots.all fun j=>match l[j]? with
 | some o=>o.after.toList.any fun e=>Region.binds .any e && ((nb isW e.on && !nb σ.done e.on) || (decide (e.on < j) && σ.nots.contains e.on))
 | none=>false
theorem bO.to {ops:Array Oper} {s1 s2:St} (h:bO P E n ops o s s1) (e:s1 = s2):bO P E n ops o s s2:=e ▸ h
def oC (P:Program) {TB:bc} (E:Env TB) (n:Sh) (isW:List Bool) (tab:List jF) (l:List Oper) (Fs:List SV) (σ:jF):Nat → List Oper → Prop
 | _,[]=>True
 | i,o :: r=>(if may isW σ i o = true then
   (if nb isW i = true then ∃ τ key x,fK tab (σ.done.set i true) = some τ ∧ (o.dst.isSome = true → Fs[i]? = some x) ∧ τ.base = delD o.dst (iN key σ.base) ∧ ((List.range l.length).all fun j=>!nb τ.live j || j == i || σ.nots.contains j || (nb σ.live j && (match Fs[j]? with | some y=>!kn key y | none=>true))) = true ∧
     ∀ extra,bO P E n l.toArray o ⟨bM (nb σ.live) l Fs o.after.toList ++ (σ.base ++ extra),σ.own⟩ (St.put n o.dst x ⟨iN key (bM (nb σ.live) l Fs o.after.toList ++ (σ.base ++ extra)),τ.own⟩)
    else ∃ x,(o.dst.isSome = true → Fs[i]? = some x) ∧ ∀ extra,bO P E n l.toArray o ⟨bM (nb σ.live) l Fs o.after.toList ++ (σ.base ++ extra),σ.own⟩ (St.put n o.dst x ⟨bM (nb σ.live) l Fs o.after.toList ++ (σ.base ++ extra),σ.own⟩))
   else True) ∧ oC P E n isW tab l Fs σ (i + 1) r
def ng (P:Program) {TB:bc} (E:Env TB) (n:Sh) (isW:List Bool) (tab:List jF) (l:List Oper) (Fs:List SV):List jF → Prop
 | []=>True
 | σ :: r=>(oH isW l σ && pn isW l σ && ((List.range l.length).all fun i=>!nb σ.done i || nb isW i) && oR isW l σ && (σ.done.length == l.length)) = true ∧ oC P E n isW tab l Fs σ 0 l ∧ ng P E n isW tab l Fs r
theorem oC.get {isW:List Bool} {tab:List jF} {l0:List Oper} {Fs:List SV} {σ:jF}:∀ {r:List Oper} {k:Nat},oC P E n isW tab l0 Fs σ k r → ∀ (i:Nat) (o:Oper),r[i]? = some o → may isW σ (k + i) o = true →
      (if nb isW (k + i) = true then ∃ τ key x,fK tab (σ.done.set (k + i) true) = some τ ∧ (o.dst.isSome = true → Fs[k + i]? = some x) ∧ τ.base = delD o.dst (iN key σ.base) ∧ ((List.range l0.length).all fun j=>!nb τ.live j || j == k + i || σ.nots.contains j || (nb σ.live j && (match Fs[j]? with | some y=>!kn key y | none=>true))) = true ∧
          ∀ extra,bO P E n l0.toArray o ⟨bM (nb σ.live) l0 Fs o.after.toList ++ (σ.base ++ extra),σ.own⟩ (St.put n o.dst x ⟨iN key (bM (nb σ.live) l0 Fs o.after.toList ++ (σ.base ++ extra)),τ.own⟩)
        else ∃ x,(o.dst.isSome = true → Fs[k + i]? = some x) ∧ ∀ extra,bO P E n l0.toArray o ⟨bM (nb σ.live) l0 Fs o.after.toList ++ (σ.base ++ extra),σ.own⟩ (St.put n o.dst x ⟨bM (nb σ.live) l0 Fs o.after.toList ++ (σ.base ++ extra),σ.own⟩))
  | [],k,h,i,o,ho,_=>by simp at ho
  | p :: r,k,h,i,o,ho,hm=>by
    obtain ⟨h1,h2⟩:=h
    cases i with
    | zero=>
      simp at ho; subst ho
      rw [Nat.add_zero] at hm ⊢
      rw [if_pos hm] at h1
      exact h1
    | succ i=>
      have:=oC.get h2 i o (by simpa using ho) (by rw [← hm]; congr 1; omega)
      have e:k + 1 + i = k + (i + 1):=by omega
      rwa [e] at this
theorem ng.get {isW:List Bool} {tab:List jF} {Fs:List SV}:∀ {r:List jF},ng P E n isW tab l Fs r → ∀ σ ∈ r,(oH isW l σ && pn isW l σ && ((List.range l.length).all fun i=>!nb σ.done i || nb isW i) && oR isW l σ && (σ.done.length == l.length)) = true ∧ oC P E n isW tab l Fs σ 0 l
 | σ :: r,h,τ,hm=>by
  cases List.mem_cons.1 hm with
  | inl e=>subst e; exact ⟨h.1,h.2.1⟩
  | inr e=>exact ng.get h.2.2 τ e
theorem rA {d:Option Nat} {l:List (Nat × SV)} {k:Nat} {y:SV} (h:(k,y) ∈ delD d l):(k,y) ∈ l ∧ ∀ d',d = some d' → k ≠ d':=by
 cases d with
 | none=>exact ⟨h,fun d' e=>by cases e⟩
 | some d=>exact ⟨(bB h).1,fun d' e=>by cases e; exact (bB h).2⟩
theorem qi {isW:List Bool} {σ:jF} {i d:Nat} {o:Oper} (h:oR isW l σ = true) (hi:i < l.length) (ho:l[i]? = some o) (hd:o.dst = some d) (hw:nb isW i = false ∨ nb σ.done i = true) {k:Nat} {y:SV} (hy:(k,y) ∈ σ.base):k ≠ d:=by
 have:=List.all_eq_true.1 h i (List.mem_range.2 hi)
 rw [ho] at this
 simp only [hd,Bool.or_eq_true,Bool.and_eq_true,Bool.not_eq_true'] at this
 rcases this with ⟨h1,h2⟩ | h1
 ·rcases hw with hw | hw
  ·rw [hw] at h1; simp at h1
  ·rw [hw] at h2; simp at h2
 ·have:=List.all_eq_true.1 h1 (k,y) hy
  simpa using this
theorem iw {k:Nat} {q:Nat × SV} (hu:q.2.bt k = false):∀ {l:List (Nat × SV)},q ∈ l → q ∈ bg k l
 | (i,x) :: l,h=>by
  show q ∈ (if x.bt k = true then bg k l else (i,x) :: bg k l)
  cases List.mem_cons.1 h with
  | inl e=>
   subst e
   rw [if_neg (by rw [hu]; simp)]
   exact List.mem_cons_self
  | inr e=>
   split
   ·exact iw hu e
   ·exact List.mem_cons_of_mem _ (iw hu e)
theorem lu {q:Nat × SV}:∀ {key:List Nat} {l:List (Nat × SV)},q ∈ l → kn key q.2 = false → q ∈ iN key l
 | [],l,h,_=>h
 | k :: ks,l,h,hu=>by
  simp only [kn,Bool.or_eq_false_iff] at hu
  exact lu (key:=ks) (iw hu.1 h) hu.2
theorem nb_eq {a b:List Bool} (hl:a.length = b.length) (h:∀ i,nb a i = nb b i):a = b:=by
 refine List.ext_getElem hl fun i h1 h2=>?_
 have:=h i
 simpa [nb,List.getD,List.getElem?_eq_getElem h1,List.getElem?_eq_getElem h2] using this
theorem nb_set {a:List Bool} {i j:Nat}:nb (a.set i true) j = if j = i ∧ i < a.length then true else nb a j:=by
 unfold nb
 simp only [List.getD,List.getElem?_set]
 by_cases h:i = j
 ·subst h
  by_cases h2:i < a.length <;> simp [h2]
 ·have h':¬ j = i:=fun e=>h e.symm
  simp [h,h']
theorem ou {isW:List Bool} {σ:jF} {listed:Array Bool} (hm:oH isW l σ = true) (hw:∀ i,nb isW i = true → listed.getD i false = nb σ.done i) (hcl:∀ (i:Nat) (p:Oper),l[i]? = some p → listed.getD i false = true → ∀ e ∈ p.after.toList,Region.binds .any e = true → listed.getD e.on false = true) :
  ∀ m j,l.length - j = m → j ∈ σ.must → listed.getD j false = true:=by
 intro m
 induction m using Nat.strongRecOn with
 | _ m ih=>
  intro j hm' hj
  have:=List.all_eq_true.1 hm j hj
  simp only [Bool.or_eq_true,Bool.and_eq_true,List.any_eq_true,decide_eq_true_eq] at this
  rcases this with ⟨h1,h2⟩ | ⟨i,hi,hji,hp⟩
  ·rw [hw j h1]; exact h2
  ·cases hpi:l[i]? with
   | none=>rw [hpi] at hp; simp at hp
   | some p=>
    rw [hpi] at hp
    have hil:=(List.getElem?_eq_some_iff.1 hpi).1
    simp only [qS,List.any_eq_true,Bool.and_eq_true,beq_iff_eq] at hp
    obtain ⟨e,he,hb,hon⟩:=hp
    have:=hcl i p hpi (ih (l.length - i) (by omega) i rfl hi) e he hb
    rwa [hon] at this
theorem mi {isW:List Bool} {σ:jF} {listed:Array Bool} (hm:pn isW l σ = true) (hw:∀ i,nb isW i = true → listed.getD i false = nb σ.done i) (hcl:∀ (i:Nat) (p:Oper),l[i]? = some p → listed.getD i false = true → ∀ e ∈ p.after.toList,Region.binds .any e = true → listed.getD e.on false = true) :
  ∀ j,j ∈ σ.nots → listed.getD j false = false:=by
 intro j
 induction j using Nat.strongRecOn with
 | _ j ih=>
  intro hj
  cases hl:listed.getD j false with
  | false=>rfl
  | true=>
   exfalso
   have:=List.all_eq_true.1 hm j hj
   cases hpi:l[j]? with
   | none=>rw [hpi] at this; simp at this
   | some p=>
    rw [hpi] at this
    simp only [List.any_eq_true,Bool.and_eq_true,Bool.or_eq_true,decide_eq_true_eq,Bool.not_eq_true'] at this
    obtain ⟨e,he,hb,h2⟩:=this
    have h3:=hcl j p hpi hl e he hb
    rcases h2 with ⟨h4,h5⟩ | ⟨h4,h5⟩
    ·rw [hw _ h4,h5] at h3; simp at h3
    ·rw [ih _ h4 (by simpa using h5)] at h3; simp at h3
theorem qa {isW:List Bool} {σ:jF} {listed:Array Bool} (hm:pn isW l σ = true) (hw:∀ i,nb isW i = true → listed.getD i false = nb σ.done i) (hcl:∀ (i:Nat) (p:Oper),l[i]? = some p → listed.getD i false = true → ∀ e ∈ p.after.toList,Region.binds .any e = true → listed.getD e.on false = true)
  {j:Nat} {p:Oper} (hj:j ∈ σ.nots) (hp:l[j]? = some p) (hr:∀ e ∈ p.after.toList,Region.binds .any e = true → listed.getD e.on false = true):False:=by
 have:=List.all_eq_true.1 hm j hj
 rw [hp] at this
 simp only [List.any_eq_true,Bool.and_eq_true,Bool.or_eq_true,decide_eq_true_eq,Bool.not_eq_true'] at this
 obtain ⟨e,he,hb,h2⟩:=this
 have h3:=hr e he hb
 rcases h2 with ⟨h4,h5⟩ | ⟨h4,h5⟩
 ·rw [hw _ h4,h5] at h3; simp at h3
 ·rw [mi hm hw hcl _ (by simpa using h5)] at h3; simp at h3
theorem anyW {isW:List Bool} {tab:List jF} {Fs:List SV} (hok:(fp 0 l && gf (eE l) && (eE l).all (· < n.n) && (isW.length == l.length)) = true) (htab:ng P E n isW tab l Fs tab)
  (hfin:∀ σ,fK tab isW = some σ → Fin E n .normal ⟨σ.base ++ aU (nb σ.live) 0 l Fs,σ.own⟩ Q):∀ (fuel:Nat) (listed:Array Bool) (σ:jF) (a:Act) (w:World),
  listed.size = l.length → fK tab σ.done = some σ → (∀ i,nb isW i = true → listed.getD i false = nb σ.done i) → (∀ (i:Nat) (p:Oper),l[i]? = some p → listed.getD i false = true → ∀ e ∈ p.after.toList,Region.binds .any e = true → listed.getD e.on false = true) →
  l.length ≤ fuel + (listed.toList.filter id).length → R E n ⟨σ.base ++ aU (fun i=>listed.getD i false && nb σ.live i) 0 l Fs,σ.own⟩ a w → wpAny P .any l.toArray Q fuel listed a w:=by
 simp only [Bool.and_eq_true,beq_iff_eq] at hok
 obtain ⟨⟨⟨hedges,hnd⟩,hlt⟩,hWl⟩:=hok
 simp only [List.all_eq_true] at hlt
 have hcount:∀ (L:List Bool) (i:Nat) (hi:i < L.length),L[i] = false → ((L.set i true).filter id).length = (L.filter id).length + 1:=by
  intro L
  induction L with
  | nil=>intro i hi; simp at hi
  | cons b L ihL=>
   intro i hi hb
   cases i with
   | zero=>simp at hb; subst hb; simp
   | succ i=>
    have:=ihL i (by simpa using hi) (by simpa using hb)
    cases b <;> simp [this]
 have hready:∀ (listed:Array Bool),listed.size = l.length → Region.ready .any l.toArray listed = [] → ∀ j,j < l.length → listed.getD j false = true:=by
  intro listed hsz hr j hj
  induction j using Nat.strongRecOn with
  | _ j ih=>
   cases hb:listed.getD j false with
   | true=>rfl
   | false=>
    exfalso
    have hjs:j < listed.size:=by omega
    have hjr:j ∈ Region.ready .any l.toArray listed:=by
     rw [mem_ready]
     have hlj:listed.getD j true = false:=by
      simp only [Array.getD_eq_getD_getElem?,Array.getElem?_eq_getElem hjs,Option.getD_some] at hb ⊢
      exact hb
     refine ⟨hlj,l[j],by simp [hj],fun e he hbd=>?_⟩
     have:=iy hedges j l[j] (by simp) e he hbd
     exact ih e.on (by omega) (by omega)
    rw [hr] at hjr
    simp at hjr
 have hdone:∀ (listed:Array Bool) (σ:jF) (a:Act) (w:World),listed.size = l.length → fK tab σ.done = some σ → (∀ i,nb isW i = true → listed.getD i false = nb σ.done i) → Region.ready .any l.toArray listed = [] →
   R E n ⟨σ.base ++ aU (fun i=>listed.getD i false && nb σ.live i) 0 l Fs,σ.own⟩ a w → Q .normal a w:=by
  intro listed σ a w hsz hσ hwl hr hR
  have hall:=hready listed hsz hr
  obtain ⟨hσ1,hσ2⟩:=ed hσ
  obtain ⟨hc,_⟩:=htab.get σ hσ2
  simp only [Bool.and_eq_true,List.all_eq_true,List.mem_range,Bool.or_eq_true,Bool.not_eq_true',beq_iff_eq] at hc
  obtain ⟨⟨⟨⟨_,_⟩,hc2⟩,_⟩,hc4⟩:=hc
  have he:σ.done = isW:=by
   refine nb_eq (by omega) fun i=>?_
   by_cases hi:i < l.length
   ·cases hw:nb isW i with
    | true=>rw [← hwl i hw]; exact hall i hi
    | false=>
     rcases hc2 i hi with h | h
     ·exact h
     ·rw [hw] at h; simp at h
   ·have h1:nb σ.done i = false:=by simp [nb,List.getD,List.getElem?_eq_none (show σ.done.length ≤ i by omega)]
    have h2:nb isW i = false:=by simp [nb,List.getD,List.getElem?_eq_none (show isW.length ≤ i by omega)]
    rw [h1,h2]
  refine hfin σ (by rw [← he]; exact hσ) a w ?_
  obtain ⟨h1,h2,h,ρ,hw,hs⟩:=hR
  refine ⟨h1,h2,h,ρ,hw,fun k x hx=>hs k x ?_⟩
  rcases List.mem_append.1 hx with hx | hx
  ·exact List.mem_append.2 (.inl hx)
  ·refine List.mem_append.2 (.inr ?_)
   rw [b7] at hx ⊢
   obtain ⟨j,oj,hj,hd,hF,hl⟩:=hx
   rw [Nat.zero_add] at hl
   exact ⟨j,oj,hj,hd,hF,by rw [Nat.zero_add,hall j (List.getElem?_eq_some_iff.1 hj).1,hl]; rfl⟩
 intro fuel
 induction fuel with
 | zero=>
  intro listed σ a w hsz hσ hwl hcl hf hR
  have hnr:Region.ready .any l.toArray listed = []:=by
   apply List.eq_nil_iff_forall_not_mem.2
   intro j hj
   rw [mem_ready] at hj
   obtain ⟨hj1,oj,hoj,_⟩:=hj
   have hjl:j < l.length:=by
    have:=(Array.getElem?_eq_some_iff.1 hoj).1
    simpa using this
   have hjs:j < listed.size:=by omega
   have hz':listed.toList[j]'(by simpa using hjs) = false:=by simpa [Array.getD_eq_getD_getElem?,Array.getElem?_eq_getElem hjs] using hj1
   have h1:=hcount listed.toList j (by simpa using hjs) hz'
   have h2:=List.length_filter_le id (listed.toList.set j true)
   simp at h1 h2 hf
   omega
  exact ⟨hnr,hdone listed σ a w hsz hσ hwl hnr hR⟩
 | succ fuel ih=>
  intro listed σ a w hsz hσ hwl hcl hf hR
  refine ⟨fun hr=>hdone listed σ a w hsz hσ hwl hr hR,fun i hi=>?_⟩
  rw [mem_ready] at hi
  obtain ⟨hi1,o',ho,hdeps⟩:=hi
  have hil:i < l.length:=by
   have:=(Array.getElem?_eq_some_iff.1 ho).1
   simpa using this
  have hol:l[i]? = some o':=by simpa using ho
  have his:i < listed.size:=by omega
  have hi1':listed[i] = false:=by simpa [Array.getD_eq_getD_getElem?,Array.getElem?_eq_getElem his] using hi1
  have hi2:listed.getD i false = false:=by simp [Array.getD_eq_getD_getElem?,Array.getElem?_eq_getElem his,hi1']
  obtain ⟨hσ1,hσ2⟩:=ed hσ
  obtain ⟨hc,hops⟩:=htab.get σ hσ2
  simp only [Bool.and_eq_true,List.all_eq_true,List.mem_range,Bool.or_eq_true,Bool.not_eq_true',beq_iff_eq] at hc
  obtain ⟨⟨⟨⟨hc1,hc0⟩,hc2⟩,hc3⟩,hc4⟩:=hc
  have hnot:=mi (l:=l) (σ:=σ) (isW:=isW) hc0 hwl hcl
  have hmust:=ou (l:=l) (σ:=σ) (isW:=isW) hc1 hwl hcl
  have hmay:may isW σ i o' = true:=by
   simp only [may,Bool.and_eq_true,Bool.not_eq_true',List.all_eq_true,Bool.or_eq_true]
   refine ⟨⟨⟨?_,?_⟩,?_⟩,fun e he=>?_⟩
   ·cases hd:nb σ.done i with
    | false=>rfl
    | true=>
     rcases hc2 i hil with h | h
     ·rw [hd] at h; simp at h
     ·rw [hwl i h,hd] at hi2; simp at hi2
   ·cases hd:σ.must.contains i with
    | false=>rfl
    | true=>
     have:=hmust _ i rfl (by simpa using hd)
     rw [hi2] at this; simp at this
   ·cases hd:σ.nots.contains i with
    | false=>rfl
    | true=>exact (qa (l:=l) (σ:=σ) (isW:=isW) hc0 hwl hcl (by simpa using hd) hol (fun e he hb=>hdeps e (by simpa using he) hb)).elim
   ·cases hb:Region.binds .any e with
    | false=>simp
    | true=>
     have:=hdeps e (by simpa using he) hb
     cases hw:nb isW e.on with
     | false=>simp
     | true=>rw [hwl _ hw] at this; simp [this]
  have hstep:=oC.get hops i o' hol (by rw [Nat.zero_add]; exact hmay)
  simp only [Nat.zero_add] at hstep
  have hR2:R E n ⟨bM (nb σ.live) l Fs o'.after.toList ++ (σ.base ++ aU (fun i=>listed.getD i false && nb σ.live i) 0 l Fs),σ.own⟩ a w:=by
   obtain ⟨h1,h2,h,ρ,hw,hs⟩:=hR
   refine ⟨h1,h2,h,ρ,hw,fun k y hy=>?_⟩
   rcases List.mem_append.1 hy with hy | hy
   ·obtain ⟨e,he,hb,hp,o'',ho',hd',hF'⟩:=jN hy
    refine hs k y (List.mem_append.2 (.inr ?_))
    rw [b7]
    exact ⟨e.on,o'',ho',hd',hF',by rw [Nat.zero_add,hdeps e (by simpa using he) hb,hp]; rfl⟩
   ·exact hs k y hy
  have hcl':∀ (j:Nat) (p:Oper),l[j]? = some p → (listed.setIfInBounds i true).getD j false = true → ∀ e ∈ p.after.toList,Region.binds .any e = true → (listed.setIfInBounds i true).getD e.on false = true:=by
   intro j p hj hlj e he hb
   have hset:∀ q,listed.getD q false = true → (listed.setIfInBounds i true).getD q false = true:=fun q hq=>by
    by_cases e:q = i
    ·subst e; simp [Array.getD_eq_getD_getElem?,his]
    ·rw [getD_set_ne false (fun h=>e h.symm)]; exact hq
   by_cases e':j = i
   ·subst e'
    rw [hol] at hj; cases hj
    exact hset _ (hdeps e (by simpa using he) hb)
   ·rw [getD_set_ne false (fun h=>e' h.symm)] at hlj
    exact hset _ (hcl j p hj hlj e he hb)
  have hcnt:l.length ≤ fuel + ((listed.setIfInBounds i true).toList.filter id).length:=by
   have:=hcount listed.toList i (by simpa using his) (by simpa using hi1')
   rw [Array.toList_setIfInBounds]
   omega
  have hsz':(listed.setIfInBounds i true).size = l.length:=by simpa using hsz
  have hnext:∀ (τ:jF) (key:List Nat) (x:SV) (a':Act) (w':World),(o'.dst.isSome = true → Fs[i]? = some x) → (∀ k y,(k,y) ∈ τ.base → (k,y) ∈ iN key σ.base ∧ ∀ d,o'.dst = some d → k ≠ d) →
    (∀ j,j < l.length → nb τ.live j = true → j = i ∨ j ∈ σ.nots ∨ (nb σ.live j = true ∧ ∀ y,Fs[j]? = some y → kn key y = false)) →
    R E n (St.put n o'.dst x ⟨iN key (bM (nb σ.live) l Fs o'.after.toList ++ (σ.base ++ aU (fun i=>listed.getD i false && nb σ.live i) 0 l Fs)),τ.own⟩) a' w' →
    R E n ⟨τ.base ++ aU (fun i'=>(listed.setIfInBounds i true).getD i' false && nb τ.live i') 0 l Fs,τ.own⟩ a' w':=by
   intro τ key x a' w' hx hbase hlive hR'
   obtain ⟨h1,h2,h,ρ,hw,hs⟩:=hR'
   have hown:(St.put n o'.dst x ⟨iN key (bM (nb σ.live) l Fs o'.after.toList ++ (σ.base ++ aU (fun i=>listed.getD i false && nb σ.live i) 0 l Fs)),τ.own⟩).own = τ.own:=by
    cases hd:o'.dst with
    | none=>rfl
    | some d=>simp only [St.put,St.set]; split <;> rfl
   rw [hown] at hw
   refine ⟨h1,h2,h,ρ,hw,fun k y hy=>?_⟩
   have hold:(∀ d,o'.dst = some d → k ≠ d) → (k,y) ∈ iN key (bM (nb σ.live) l Fs o'.after.toList ++ (σ.base ++ aU (fun i=>listed.getD i false && nb σ.live i) 0 l Fs)) → ∃ v,a'.tmps[k]? = some v ∧ y.rel h ρ v:=by
    intro hkd hm
    refine hs k y ?_
    cases hd:o'.dst with
    | none=>exact hm
    | some d=>
     simp only [St.put,St.set]
     split
     ·exact List.mem_cons_of_mem _ (dG hm (hkd d hd))
     ·exact hm
   rcases List.mem_append.1 hy with hy | hy
   ·obtain ⟨hy,hkd⟩:=hbase k y hy
    have hy2:(k,y) ∈ σ.base ∧ kn key y = false:=jM hy
    exact hold hkd (lu (List.mem_append.2 (.inr (List.mem_append.2 (.inl hy2.1)))) hy2.2)
   ·rw [b7] at hy
    obtain ⟨j,oj,hj,hd',hF',hl'⟩:=hy
    rw [Nat.zero_add] at hl'
    simp only [Bool.and_eq_true] at hl'
    have hjl:=(List.getElem?_eq_some_iff.1 hj).1
    by_cases hji:j = i
    ·subst hji
     rw [hol] at hj; cases hj
     have hxy:x = y:=by
      have:=hx (by rw [hd']; rfl)
      rw [this] at hF'; exact Option.some.inj hF'
     subst hxy
     refine hs k x ?_
     have hk:k < n.n:=by simpa using hlt k (gW hol hd')
     simp only [hd',St.put,St.set,hk,if_true]
     exact List.mem_cons_self
    ·rcases hlive j hjl hl'.2 with h | h | ⟨h3,h4⟩
     ·exact absurd h hji
     ·exfalso
      have:=hl'.1
      rw [getD_set_ne false (fun e=>hji e.symm),hnot j h] at this
      simp at this
     ·have hl2:listed.getD j false = true:=by
       have:=hl'.1
       rwa [getD_set_ne false (fun e=>hji e.symm)] at this
      refine hold (fun d hd e=>hji (l' hnd hj hol (e ▸ hd') hd)) (lu (List.mem_append.2 (.inr (List.mem_append.2 (.inr ?_)))) (h4 y hF'))
      rw [b7]
      exact ⟨j,oj,hj,hd',hF',by rw [Nat.zero_add,hl2,h3]; rfl⟩
  unfold wpOp
  rw [ho]
  dsimp only
  have fin:∀ (K:Act → World → Prop),(if Region.wanted o' (yielded l.toArray a.tmps) = true then o'.wp P a w K Q else K (a.put o'.dst undef) w) → (∀ a' w',K a' w' → wpAny P .any l.toArray Q fuel (listed.setIfInBounds i true) a' w') → (if Region.wanted o' (yielded l.toArray a.tmps) = true then (o'.wp P a w (wpAny P .any l.toArray Q fuel (listed.setIfInBounds i true)) Q ∨ False) else wpAny P .any l.toArray Q fuel (listed.setIfInBounds i true) (a.put o'.dst undef) w):=by
   intro K hK hk
   split
   ·rename_i hw'
    simp only [hw',if_true] at hK
    exact .inl (Oper.wp_mono hk hK)
   ·rename_i hw'
    simp only [hw'] at hK
    exact hk _ _ hK
  by_cases hw:nb isW i = true
  ·rw [if_pos hw] at hstep
   obtain ⟨τ,key,x,hτ,hx,hbase,hlive,hst⟩:=hstep
   obtain ⟨hτ1,hτ2⟩:=ed hτ
   have key1:=hst (aU (fun i=>listed.getD i false && nb σ.live i) 0 l Fs) a w hR2 (wpAny P .any l.toArray Q fuel (listed.setIfInBounds i true)) Q (fun a' w' hR'=>by
    refine ih _ τ a' w' hsz' (by rw [hτ1]; exact hτ) ?_ hcl' hcnt (hnext τ key x a' w' hx (fun k y hy=>by rw [hbase] at hy; exact rA hy) ?_ hR')
    ·intro j hj
     rw [hτ1,nb_set]
     by_cases e:j = i
     ·subst e
      rw [if_pos ⟨rfl,by omega⟩]
      simp [Array.getD_eq_getD_getElem?,his]
     ·rw [if_neg (fun h=>e h.1),getD_set_ne false (fun h=>e h.symm)]
      exact hwl j hj
    ·intro j hjl hlj
     have:=List.all_eq_true.1 hlive j (List.mem_range.2 hjl)
     simp only [Bool.or_eq_true,Bool.not_eq_true',beq_iff_eq,Bool.and_eq_true] at this
     rcases this with ((h | h) | h) | ⟨h,h'⟩
     ·rw [hlj] at h; simp at h
     ·exact .inl h
     ·exact .inr (.inl (by simpa using h))
     ·refine .inr (.inr ⟨h,fun y hy=>?_⟩)
      rw [hy] at h'
      simpa using h')
   split
   ·rename_i hw'
    simp only [hw',if_true] at key1
    exact .inl key1
   ·rename_i hw'
    simp only [hw'] at key1
    exact key1
  ·rw [if_neg hw] at hstep
   obtain ⟨x,hx,hst⟩:=hstep
   have key1:=hst (aU (fun i=>listed.getD i false && nb σ.live i) 0 l Fs) a w hR2 (wpAny P .any l.toArray Q fuel (listed.setIfInBounds i true)) Q (fun a' w' hR'=>by
    refine ih _ σ a' w' hsz' hσ ?_ hcl' hcnt (hnext σ [] x a' w' hx (fun k y hy=>⟨hy,fun d hd e=>qi hc3 hil hol hd (.inl (by simpa using hw)) hy e⟩) (fun j _ hlj=>.inr (.inr ⟨hlj,fun _ _=>rfl⟩)) hR')
    intro j hj
    by_cases e:j = i
    ·subst e; exact absurd hj hw
    ·rw [getD_set_ne false (fun h=>e h.symm)]
     exact hwl j hj)
   split
   ·rename_i hw'
    simp only [hw',if_true] at key1
    exact .inl key1
   ·rename_i hw'
    simp only [hw'] at key1
    exact key1
theorem mC.W {ops:List Oper} (isW:List Bool) (Fs:List SV) (tab:List jF) {σ0 σf:jF} (hok:(fp 0 ops && gf (eE ops) && (eE ops).all (· < n.n) && (isW.length == ops.length)) = true)
  (htab:ng P E n isW tab ops Fs tab) (h0:fK tab (List.replicate ops.length false) = some σ0) (hs0:s = ⟨σ0.base,σ0.own⟩) (hf:fK tab isW = some σf) (ks kos:List Nat)
  (hs:(⟨σf.base ++ aU (nb σf.live) 0 ops Fs,σf.own⟩:St).keep ks kos = s') (h:Fin E n .normal s' Q):mC P E n ops.toArray s Q:=by
 subst hs0
 intro a w hr
 refine anyW hok htab (Fs:=Fs) (fun σ hσ=>?_) _ _ σ0 _ _ (by simp) (by rw [(ed h0).1]; exact h0) ?_ ?_ (by simp) ?_
 ·rw [hf] at hσ; cases hσ
  exact fun a w hr=>h a w (hs ▸ hr.keep ks kos)
 ·intro i _
  rw [(ed h0).1]
  by_cases hi:i < ops.length <;> simp [nb,List.getD,Array.getD_eq_getD_getElem?,hi]
 ·intro i p hi hl
  exfalso
  simp only [Array.getD_eq_getD_getElem?,Array.getElem?_replicate] at hl
  split at hl <;> simp at hl
 ·have hr':=hr.drawn
  obtain ⟨h1,h2,hh,ρ,hw,hsl⟩:=hr'
  refine ⟨h1,h2,hh,ρ,hw,fun k x hx=>hsl k x ?_⟩
  rcases List.mem_append.1 hx with hx | hx
  ·exact hx
  ·rw [b7] at hx
   obtain ⟨j,o,hj,_,_,hl⟩:=hx
   simp only [Nat.zero_add,Array.getD_eq_getD_getElem?,Array.getElem?_replicate,Bool.and_eq_true] at hl
   have:=hl.1
   split at this <;> simp at this
theorem ab.fC {rid:Nat} {ops:List Oper} (hm:P.follows .mixedOrders = true) (isW:List Bool) (Fs:List SV) (tab:List jF) {σ0 σf:jF} (hok:(fp 0 ops && gf (eE ops) && (eE ops).all (· < n.n) && (isW.length == ops.length)) = true)
  (htab:ng P E n isW tab ops Fs tab) (h0:fK tab (List.replicate ops.length false) = some σ0) (hs0:s = ⟨σ0.base,σ0.own⟩) (hf:fK tab isW = some σf) (ks kos:List Nat)
  (hs:(⟨σf.base ++ aU (nb σf.live) 0 ops Fs,σf.own⟩:St).keep ks kos = s') (h:Fin E n .normal s' Q):ab P E n (.region rid ops.toArray true) s Q:=ab.ofA hm (mC.W isW Fs tab hok htab h0 hs0 hf ks kos hs h)
theorem ab.lR {rid:Nat} {ops:List Oper} {y:Code} (hm:P.follows .mixedOrders = true) (isW:List Bool) (Fs:List SV) (tab:List jF) {σ0 σf:jF} (hok:(fp 0 ops && gf (eE ops) && (eE ops).all (· < n.n) && (isW.length == ops.length)) = true)
  (htab:ng P E n isW tab ops Fs tab) (h0:fK tab (List.replicate ops.length false) = some σ0) (hs0:s = ⟨σ0.base,σ0.own⟩) (hf:fK tab isW = some σf) (ks kos:List Nat)
  (hs:(⟨σf.base ++ aU (nb σf.live) 0 ops Fs,σf.own⟩:St).keep ks kos = s') (h:ab P E n y s' Q):ab P E n (.region rid ops.toArray true) s (Exit.then (y.wp P Q) Q) :=
 ab.fC hm isW Fs tab hok htab h0 hs0 hf ks kos hs (Fin.then h)
end
end Go.Sk
namespace Go.Sk
open Go
theorem ar.nilA {P:Program} {TB:bc} {f:FuncId} {own:List (Nat × OC)} {args:List BV} {post:eY} {size:Nat} (i:Nat) (hz:0 < size) (h:ar P TB f own args post) (hi:args[i]? = some (.one (.sl size []))):ar P TB f own (args.set i (.one .nil)) post:=by
 intro w hh ρ vals tb h1 h2 h3
 refine h w hh ρ vals tb h1 h2 ?_
 clear h h1 h2
 induction args generalizing i vals with
 | nil=>simp at hi
 | cons z args ih=>
  cases i with
  | zero=>
   simp at hi
   subst hi
   cases h3 with
   | cons a b=>exact .cons ⟨fun ps hp=>by simp at hp,hz,.inl ⟨a.1,rfl⟩⟩ b
  | succ i=>
   cases h3 with
   | cons a b=>exact .cons a (ih i (by simpa using hi) _ b)
end Go.Sk
namespace Go.Sk
set_option linter.unusedSimpArgs false
set_option linter.unusedVariables false
open Go Go.BigFrame
section
variable {P:Program} {TB:bc} {E:Env TB} {n:Sh} {s s2:St} {dst:Option Nat} {t ty yt:TypeId} {pos:String} {after:Array Edge} {g:Option (Nat × Bool)} {x y c:Operand} {k:IntKind} {a b:Int} {ops:Array Oper} {o:Oper}
theorem bO.forget (kb off:Nat) {T:TypeId} {cs:List BV} (hk:lk s.own kb = some (.ao T cs)) (h:bO P E n ops o ⟨s.slots,ins kb (.ao T (cs.set off (.one .any))) s.own⟩ s2):bO P E n ops o s s2 :=
 fun a w hr=>h a w (hr.forget kb off hk)
end
end Go.Sk
namespace Go.Sk
set_option linter.unusedSimpArgs false
set_option linter.unusedVariables false
open Go
theorem lT {α:Type} [Inhabited α] (l:List α) (i:Nat) (h:i < l.length):idx l (i:Int) = l[i]:=by
 simp [idx,List.getD,List.getElem?_eq_getElem h]
theorem wrap64 {z:Int} (h1:-9223372036854775808 ≤ z) (h2:z ≤ 9223372036854775807):IntKind.i64.wrap z = z:=oe (pN h1 h2)
theorem idx_mem {α:Type} [Inhabited α] {l:List α} {i:Int} (h0:0 ≤ i) (h1:i < l.length):idx l i ∈ l:=List.mem_of_getElem? (idx_eq h0 h1)
end Go.Sk
namespace Go.Sk
set_option linter.unusedSimpArgs false
set_option linter.unusedVariables false
open Go Go.BigFrame
def eA (k:IntKind) (l:List Int):List CP:=l.map (.int k)
@[simp] theorem eA_len (k:IntKind) (l:List Int):(eA k l).length = l.length:=by simp [eA]
section
variable {P:Program} {t:TypeId}
def eJ (P:Program) (d:Nat) (t:TypeId) (m:Nat) (ps qs:List CP) (r:Bool):Prop :=
 ∀ (h:PH) (w:World) (A B:Array Value) (off:Nat),av h ps ((A.toList.drop off).take m) → av h qs ((B.toList.drop off).take m) → ps.length = m → qs.length = m →
  ∃ a b,(part t A off).run P w = .ok a w ∧ (part t B off).run P w = .ok b w ∧ (Op.equalIn d t a b).run P w = .ok r w
theorem kG (ht:cH P t) {A:Array Value} {off:Nat} {v:Value} (hv:A[off]? = some v) (w:World):(part t A off).run P w = .ok v w:=by
 obtain ⟨d,hd,ha⟩:=ht.und
 unfold part
 rw [Sem.run_bind,gZ hd,Result.andThen,ha]
 simp [hv]
theorem kH {m:Nat} (ht:iC P t m) {A:Array Value} {off:Nat} (w:World):(part t A off).run P w = .ok (.agg (A.extract off (off + m))) w:=by
 obtain ⟨d,hd,ha⟩:=ht.und
 obtain ⟨i,hi,hn⟩:=ht.size
 unfold part
 rw [Sem.run_bind,gZ hd,Result.andThen,ha]
 simp [run_sizeOf hi,hn]
theorem lI {h:PH} {p:CP} {A:Array Value} {off:Nat} (hr:av h [p] ((A.toList.drop off).take 1)):∃ u,A[off]? = some u ∧ p.rel h u:=by
 obtain ⟨u,hu,hp⟩:=hr.get 0 p rfl
 rw [List.getElem?_take] at hu
 simp at hu
 exact ⟨u,hu,hp⟩
theorem eJ.one {d:Nat} {p q:CP} {r:Bool} (ht:cH P t) (hrun:∀ (h:PH) (u v:Value) (w:World),p.rel h u → q.rel h v → (Op.equalIn d t u v).run P w = .ok r w):eJ P d t 1 [p] [q] r:=by
 intro h w A B off ha hb _ _
 obtain ⟨u,hu,hp⟩:=lI ha
 obtain ⟨v,hv,hq⟩:=lI hb
 exact ⟨u,v,kG ht hu w,kG ht hv w,hrun h u v w hp hq⟩
theorem eJ.int {d:Nat} {k k':IntKind} {a b:Int} (h1:cH P t) (hu:P.underlying t = some (.int k')):eJ P (d + 1) t 1 [.int k a] [.int k b] (decide (a = b)) :=
 .one h1 fun h u v w hp hq=>by rw [hp.1,hq.1,run_equalIn_int w d t k k' a b hu,lS]
theorem eJ.str {d:Nat} {a b:Str} (h1:cH P t) (hu:P.underlying t = some .string):eJ P (d + 1) t 1 [.str a] [.str b] (decide (a = b)) :=
 .one h1 fun h u v w hp hq=>by rw [hp.1,hq.1,run_equalIn_string w d t _ _ hu,py]
theorem eJ.bool {d:Nat} {a b:Bool} (h1:cH P t) (hu:P.underlying t = some .bool):eJ P (d + 1) t 1 [.bool a] [.bool b] (a == b) :=
 .one h1 fun h u v w hp hq=>by rw [show u = .bool a from hp,show v = .bool b from hq,run_equalIn_bool' w d t a b hu]
def EqFs (P:Program) (d:Nat) (ps qs:List CP):List Field → List Bool → Prop
 | [],[]=>True
 | f :: fs,r :: rs=>f.name ≠ "_" ∧ (∃ m p' q',(ps.drop f.offset).take m = p' ∧ (qs.drop f.offset).take m = q' ∧ p'.length = m ∧ q'.length = m ∧ eJ P d f.type m p' q' r) ∧ EqFs P d ps qs fs rs
 | _,_=>False
theorem ob {d:Nat} {h:PH} {ps qs:List CP} {A B:Array Value} (hp:av h ps A.toList) (hq:av h qs B.toList) (w:World):∀ {fs:List Field} {rs:List Bool},EqFs P d ps qs fs rs → (Op.eqFields d A B fs).run P w = .ok (rs.all id) w
 | [],[],_=>rfl
 | [],_ :: _,h=>h.elim
 | _ :: _,[],h=>h.elim
 | f :: fs,r :: rs,⟨h1,⟨m,p',q',e1,e2,l1,l2,he⟩,h3⟩=>by
  have ih:=ob hp hq w h3
  obtain ⟨a,b,r1,r2,r3⟩:=he h w A B f.offset (by rw [← e1]; exact aI.take (aI.drop hp _) _) (by rw [← e2]; exact aI.take (aI.drop hq _) _) l1 l2
  unfold Op.eqFields
  rw [if_pos h1]
  rw [Sem.run_bind,r1,Result.andThen,Sem.run_bind,r2,Result.andThen,Sem.run_bind,r3,Result.andThen]
  cases r
  ·simp
  ·simpa using ih
theorem kN {A:Array Value} {off m:Nat}:(A.extract off (off + m)).toList = (A.toList.drop off).take m:=by
 rw [Array.toList_extract]
 show (A.toList.drop off).take (off + m - off) = _
 rw [Nat.add_sub_cancel_left]
theorem eJ.struct {d m:Nat} {ps qs:List CP} {fs:Array Field} {rs:List Bool} {r:Bool} (ta:iC P t m) (hh:P.stoodInHeld t = false) (hu:P.underlying t = some (.struct fs)) (hc:EqFs P d ps qs fs.toList rs) (hr:rs.all id = r):eJ P (d + 1) t m ps qs r:=by
 intro h w A B off ha hb l1 l2
 have hf:P.fieldsOf t = fs:=by simp [Program.fieldsOf,hu]
 refine ⟨_,_,kH ta w,kH ta w,?_⟩
 rw [run_equalIn_struct w d t _ _ (by rw [hf]; exact hu) hh,hf,ob (by rw [kN]; exact ha) (by rw [kN]; exact hb) w hc,hr]
theorem eJ.cast {d m:Nat} {ps qs:List CP} {r r':Bool} (h:eJ P d t m ps qs r) (e:r = r'):eJ P d t m ps qs r':=e ▸ h
end
structure od (P:Program) (t:TypeId) (size:Nat) (zs:List CP):Prop where
 info:∃ it z m e ie,P.info? t = some it ∧ it.zero = some z ∧ cvs z.cells.toList = some zs ∧ P.underlying t = some (.array m e) ∧ P.info? e = some ie ∧ ie.size = size
section
variable {P:Program} {TB:bc} {E:Env TB} {n:Sh} {s s':St} {dst:Option Nat} {t ty yt:TypeId} {pos:String} {after:Array Edge} {g:Option (Nat × Bool)} {x y c:Operand} {ops:Array Oper} {l:List Oper} {Q:bU} {cd:Code} {o:Oper}
theorem fe {size:Nat} {zs qs:List CP} {parts:Array (Nat × Operand)} {cps:List (Nat × List CP)} (ht:od P t size zs) (hp:fO s parts.toList = some cps) (hf:kr (fun i=>some (i * size,size)) zs cps = some qs) :
  br P E n ⟨dst,.build t parts,ty,pos,after,g⟩ s (s.put n dst (.b (.agg qs))) :=
 br.val (o:=⟨dst,.build t parts,ty,pos,after,g⟩) fun ac w h ρ hw hs=>by
  obtain ⟨it,z,m,e,ie,h1,h2,h3,h4,h5,h6⟩:=ht.info
  obtain ⟨cs,hc1,hc2⟩:=gY hs (fun i=>some (i * size,size)) parts.toList cps zs qs z.cells hp hf (fq h h3)
  refine ⟨.agg cs,?_,cs,rfl,hc2⟩
  have hb:P.built t (parts.map fun (i,x)=>(i,ac.eval x)).toList = some cs:=by
   simp only [Program.built,h1,h4,h2,h5,h6]
   rw [← hc1]
   simp
  have:=run_build (P:=P) w t _ cs hb
  simp only [execOp]
  simp [this]
end
def pV {α:Type} (xs:List α) (i j:Int):Option (List α):=if 0 ≤ i ∧ i ≤ j ∧ j ≤ xs.length then some ((xs.take j.toNat).drop i.toNat) else none
theorem sub_ok {α:Type} {xs z:List α} {i j:Int} (h:pV xs i j = some z):0 ≤ i ∧ i ≤ j ∧ j ≤ xs.length ∧ (xs.take j.toNat).drop i.toNat = z:=by
 unfold pV at h; split at h
 ·next hh=>exact ⟨hh.1,hh.2.1,hh.2.2,by simpa using h⟩
 ·simp at h
section
variable {P:Program} {TB:bc} {E:Env TB} {n:Sh} {s s':St} {dst:Option Nat} {t ty yt:TypeId} {pos:String} {after:Array Edge} {g:Option (Nat × Bool)} {x y c:Operand} {k:IntKind} {a b:Int} {ops:Array Oper} {l:List Oper} {Q:bU} {cd:Code} {o:Oper}
end
end Go.Sk
namespace Go.Sk
set_option linter.unusedSimpArgs false
set_option linter.unusedVariables false
open Go Go.BigFrame
section
variable {P:Program} {TB:bc} {E:Env TB} {n:Sh} {s s' s2:St} {l:List Oper} {L:List Oper} {Q:bU} {o:Oper}
def qm (L:List Oper) (i j:Nat):Bool:=match L[i]? with
 | some o=>o.after.toList.any fun e=>Region.binds .any e && e.on == j
 | none=>false
theorem lz {L:List Oper} {i j:Nat} (h:qm L i j = true):∃ o,L[i]? = some o ∧ ∃ e,e ∈ o.after ∧ Region.binds .any e = true ∧ e.on = j:=by
 unfold qm at h
 split at h
 ·next o ho=>
  simp only [List.any_eq_true,Bool.and_eq_true,beq_iff_eq] at h
  obtain ⟨e,he,h1,h2⟩:=h
  exact ⟨o,ho,e,by simpa using he,h1,h2⟩
 ·simp at h
theorem jj:∀ (L:List Bool) (i:Nat) (hi:i < L.length),L[i] = false → ((L.set i true).filter id).length = (L.filter id).length + 1
 | [],i,hi,_=>by simp at hi
 | b :: L,0,hi,hb=>by simp at hb; subst hb; simp
 | b :: L,i + 1,hi,hb=>by
  have:=jj L i (by simpa using hi) (by simpa using hb)
  cases b <;> simp [this]
def oS (L:List Oper) (listed:Array Bool):Prop:=∀ (i:Nat) (o:Oper),L[i]? = some o → listed.getD i false = true → ∀ e ∈ o.after,Region.binds .any e = true → listed.getD e.on false = true
theorem anyG (Inv:Array Bool → Act → World → Prop) (hed:fp 0 L = true)
  (hstep:∀ (listed:Array Bool) a w (i:Nat) (o:Oper),listed.size = L.length → oS L listed → L[i]? = some o → listed.getD i false = false → (∀ e ∈ o.after,Region.binds .any e = true → listed.getD e.on false = true) → Inv listed a w →
   ∀ K:Act → World → Prop,(∀ a' w',Inv (listed.setIfInBounds i true) a' w' → K a' w') → if Region.wanted o (yielded L.toArray a.tmps) then o.wp P a w K Q else K (a.put o.dst undef) w)
  (hend:∀ (listed:Array Bool) a w,listed.size = L.length → (∀ j,j < L.length → listed.getD j false = true) → Inv listed a w → Q .normal a w) :
  ∀ (fuel:Nat) (listed:Array Bool) (a:Act) (w:World),listed.size = L.length → oS L listed → L.length ≤ fuel + (listed.toList.filter id).length → Inv listed a w → wpAny P .any L.toArray Q fuel listed a w:=by
 have hready:∀ (listed:Array Bool),listed.size = L.length → Region.ready .any L.toArray listed = [] → ∀ j,j < L.length → listed.getD j false = true:=by
  intro listed hsz hr j hj
  induction j using Nat.strongRecOn with
  | _ j ih=>
   cases hb:listed.getD j false with
   | true=>rfl
   | false=>
    exfalso
    have hjr:j ∈ Region.ready .any L.toArray listed:=by
     rw [mem_ready]
     refine ⟨?_,L[j],by simp [hj],fun e he hbd=>?_⟩
     ·have:j < listed.size:=by omega
      simp only [Array.getD_eq_getD_getElem?,Array.getElem?_eq_getElem this,Option.getD_some] at hb ⊢
      exact hb
     ·have:=iy hed j L[j] (by simp) e he hbd
      exact ih e.on (by omega) (by omega)
    rw [hr] at hjr
    simp at hjr
 intro fuel
 induction fuel with
 | zero=>
  intro listed a w hsz hcl hf hR
  have hall:∀ j,j < L.length → listed.getD j false = true:=by
   intro j hj
   have hfl:(listed.toList.filter id).length = listed.toList.length:=by
    have:=List.length_filter_le id listed.toList
    simp at this ⊢; omega
   have hall2:=List.filter_eq_self.1 (List.filter_sublist.eq_of_length hfl)
   have hjs:j < listed.size:=by omega
   have:=hall2 listed[j] (by simp)
   simp only [Array.getD_eq_getD_getElem?,Array.getElem?_eq_getElem hjs,Option.getD_some]
   simpa using this
  have hr:Region.ready .any L.toArray listed = []:=by
   apply List.eq_nil_iff_forall_not_mem.2
   intro j hj
   rw [mem_ready] at hj
   obtain ⟨hj1,o,ho,_⟩:=hj
   have hjl:j < L.length:=by simpa using (Array.getElem?_eq_some_iff.1 ho).1
   have hjs:j < listed.size:=by omega
   have:=hall j hjl
   simp only [Array.getD_eq_getD_getElem?,Array.getElem?_eq_getElem hjs,Option.getD_some] at this hj1
   rw [this] at hj1; simp at hj1
  exact ⟨hr,hend listed a w hsz hall hR⟩
 | succ fuel ih=>
  intro listed a w hsz hcl hf hR
  refine ⟨fun hr=>hend listed a w hsz (hready listed hsz hr) hR,fun i hi=>?_⟩
  rw [mem_ready] at hi
  obtain ⟨hi1,o,ho,hdeps⟩:=hi
  have hol:L[i]? = some o:=by simpa using ho
  have hil:i < L.length:=(List.getElem?_eq_some_iff.1 hol).1
  have his:i < listed.size:=by omega
  have hi1':listed[i] = false:=by simpa [Array.getD_eq_getD_getElem?,Array.getElem?_eq_getElem his] using hi1
  have hi2:listed.getD i false = false:=by simp [Array.getD_eq_getD_getElem?,Array.getElem?_eq_getElem his,hi1']
  have key:=hstep listed a w i o hsz hcl hol hi2 hdeps hR (wpAny P .any L.toArray Q fuel (listed.setIfInBounds i true)) (fun a' w' hR'=>by
   have hset:∀ q,listed.getD q false = true → (listed.setIfInBounds i true).getD q false = true:=fun q hq=>by
    by_cases e:q = i
    ·subst e; simp [Array.getD_eq_getD_getElem?,his]
    ·rw [getD_set_ne false (fun h=>e h.symm)]; exact hq
   refine ih _ a' w' (by simpa using hsz) ?_ ?_ hR'
   ·intro j p hj hlj e he hb
    by_cases e':j = i
    ·subst e'
     rw [hol] at hj; cases hj
     exact hset _ (hdeps e he hb)
    ·rw [getD_set_ne false (fun h=>e' h.symm)] at hlj
     exact hset _ (hcl j p hj hlj e he hb)
   ·have:=jj listed.toList i (by simpa using his) (by simpa using hi1')
    rw [Array.toList_setIfInBounds]
    omega)
  unfold wpOp
  rw [ho]
  dsimp only
  split
  ·rename_i hw'
   simp only [hw',if_true] at key
   exact .inl key
  ·rename_i hw'
   simp only [hw'] at key
   exact key
def gA (l:List Oper) (j:Nat) (sl:List (Nat × SV)):List (Nat × SV):=sl.filter fun p=>(List.range l.length).all fun i=>((l[i]?).bind (·.dst)) != some p.1 || i == j || qm l i j
def oy (l:List Oper) (listed:Array Bool) (d:Nat):Bool:=(List.range l.length).any fun i=>listed.getD i false && ((l[i]?).bind (·.dst)) == some d
def stE (s:St) (l:List Oper) (Fs:List SV) (listed:Array Bool):St:=⟨(s.slots.filter fun p=>!oy l listed p.1) ++ aU (fun i=>listed.getD i false) 0 l Fs,s.own⟩
def jZ (P:Program) {TB:bc} (E:Env TB) (n:Sh) (ops:Array Oper) (s:St) (l:List Oper) (Fs:List SV):Nat → List Oper → List SV → Prop
 | _,[],[]=>True
 | j,o :: r,x :: xs=>(∀ extra,bO P E n ops o ⟨cT l Fs o.after.toList ++ (gA l j s.slots ++ extra),s.own⟩ (St.put n o.dst x ⟨cT l Fs o.after.toList ++ (gA l j s.slots ++ extra),s.own⟩)) ∧ jZ P E n ops s l Fs (j + 1) r xs
 | _,_,_=>False
theorem mc {ops:Array Oper} {Fs:List SV} {l0:List Oper}:∀ {r:List Oper} {xs:List SV} {j:Nat},jZ P E n ops s l0 Fs j r xs → r.length = xs.length ∧ ∀ (i:Nat) (o:Oper),r[i]? = some o → ∃ x,xs[i]? = some x ∧ ∀ extra,bO P E n ops o ⟨cT l0 Fs o.after.toList ++ (gA l0 (j + i) s.slots ++ extra),s.own⟩ (St.put n o.dst x ⟨cT l0 Fs o.after.toList ++ (gA l0 (j + i) s.slots ++ extra),s.own⟩)
 | [],[],j,_=>⟨rfl,fun i o h=>by simp at h⟩
 | o :: r,x :: xs,j,h=>by
  obtain ⟨h1,h2⟩:=h
  obtain ⟨h3,h4⟩:=mc h2
  refine ⟨by simp [h3],fun i o' ho=>?_⟩
  cases i with
  | zero=>simp at ho; subst ho; exact ⟨x,by simp,h1⟩
  | succ i=>
   obtain ⟨y,hy,hz⟩:=h4 i o' (by simpa using ho)
   exact ⟨y,by simpa using hy,by rw [← Nat.add_assoc,Nat.add_right_comm]; exact hz⟩
 | [],_ :: _,j,h=>h.elim
 | _ :: _,[],j,h=>h.elim
def lG (P:Program) {TB:bc} (E:Env TB) (n:Sh) (ops:Array Oper):List Oper → St → St → Prop
 | [],s,s'=>s = s'
 | o :: r,s,s'=>∃ s1,bO P E n ops o s s1 ∧ lG P E n ops r s1 s'
def oQ (L:List Oper) (q:Nat):Bool:=(List.range q).all fun j=>qm L q j || (List.range q).any fun i=>decide (j < i) && qm L i j
def okX (l tl:List Oper) (m:Nat):Bool:=fp 0 (l ++ tl) && gf (eE l) && (eE l).all (· < m) && (List.range tl.length).all fun k=>oQ (l ++ tl) (l.length + k)
theorem covered {listed:Array Bool} {q:Nat} {o:Oper} (hcl:oS L listed) (hq:L[q]? = some o) (hd:∀ e ∈ o.after,Region.binds .any e = true → listed.getD e.on false = true) (hc:oQ L q = true):∀ j,j < q → listed.getD j false = true:=by
 simp only [oQ,List.all_eq_true,List.mem_range,Bool.or_eq_true,List.any_eq_true,Bool.and_eq_true,decide_eq_true_eq] at hc
 have key:∀ m j,q - j = m → j < q → listed.getD j false = true:=by
  intro m
  induction m using Nat.strongRecOn with
  | _ m ihm=>
   intro j hm hj
   rcases hc j hj with h | ⟨i,hi,hji,hp⟩
   ·obtain ⟨o',ho',e,he,hb,hon⟩:=lz h
    rw [hq] at ho'; cases ho'
    have:=hd e he hb
    rwa [hon] at this
   ·obtain ⟨o',ho',e,he,hb,hon⟩:=lz hp
    have h1:=ihm (q - i) (by omega) i rfl hi
    have:=hcl i o' ho' h1 e he hb
    rwa [hon] at this
 exact fun j hj=>key _ j rfl hj
def InvX (P:Program) {TB:bc} (E:Env TB) (n:Sh) (ops:Array Oper) (s:St) (l tl:List Oper) (Fs:List SV) (s2:St) (listed:Array Bool) (a:Act) (w:World):Prop :=
 ((∀ j,l.length ≤ j → listed.getD j false = false) ∧ R E n (stE s l Fs listed) a w) ∨
 ∃ k sk,k < tl.length ∧ (∀ j,j ≤ l.length + k → listed.getD j false = true) ∧ (∀ j,l.length + k < j → listed.getD j false = false) ∧ lG P E n ops (tl.drop (k + 1)) sk s2 ∧ R E n sk a w
theorem mC.X {ops:List Oper} (l tl:List Oper) (hops:l ++ tl = ops) (Fs:List SV) (ks kos:List Nat) (hok:okX l tl n.n = true) (hst:jZ P E n ops.toArray s l Fs 0 l Fs)
  (htl:lG P E n ops.toArray tl ⟨(s.slots.filter fun p=>!(eE l).contains p.1) ++ aU (fun _=>true) 0 l Fs,s.own⟩ s2) (hs:s2.keep ks kos = s') (h:Fin E n .normal s' Q):mC P E n ops.toArray s Q:=by
 subst hops
 simp only [okX,Bool.and_eq_true,List.all_eq_true,List.mem_range] at hok
 obtain ⟨⟨⟨hedges,hnd⟩,hlt⟩,hcov⟩:=hok
 obtain ⟨hlen,hsteps⟩:=mc (Fs:=Fs) hst
 intro a w hr
 have hgetl:∀ {i:Nat} {o:Oper},(l ++ tl)[i]? = some o → i < l.length → l[i]? = some o:=fun h hi=>by rwa [List.getElem?_append_left hi] at h
 have hS0:∀ {listed:Array Bool} {a:Act} {w:World},(∀ j,j < l.length → listed.getD j false = true) → R E n (stE s l Fs listed) a w → R E n ⟨(s.slots.filter fun p=>!(eE l).contains p.1) ++ aU (fun _=>true) 0 l Fs,s.own⟩ a w:=by
  intro listed a w hall hR
  obtain ⟨h1,h2,h,ρ,hw,hs⟩:=hR
  refine ⟨h1,h2,h,ρ,hw,fun k x hx=>hs k x ?_⟩
  simp only [stE,List.mem_append] at hx ⊢
  rcases hx with hx | hx
  ·left
   simp only [List.mem_filter,Bool.not_eq_true',List.contains_eq_mem,decide_eq_false_iff_not] at hx ⊢
   refine ⟨hx.1,?_⟩
   cases hh:oy l listed k with
   | false=>rfl
   | true=>
    exfalso
    simp only [oy,List.any_eq_true,List.mem_range,Bool.and_eq_true,beq_iff_eq,Option.bind_eq_some_iff] at hh
    obtain ⟨i,hi,_,o',ho',hd'⟩:=hh
    exact hx.2 (gW ho' hd')
  ·right
   rw [b7] at hx ⊢
   obtain ⟨j,oj,hj,hd,hF,_⟩:=hx
   exact ⟨j,oj,hj,hd,hF,by rw [Nat.zero_add]; exact hall j (List.getElem?_eq_some_iff.1 hj).1⟩
 refine anyG (L:=l ++ tl) (InvX P E n (l ++ tl).toArray s l tl Fs s2) hedges ?_ ?_ _ _ _ _ (by simp) ?_ (by simp) (.inl ⟨fun j hj=>?_,?_⟩)
 ·
  intro listed a w i o hsz hcl hio hil hdeps hInv K hK
  have hin:i < (l ++ tl).length:=(List.getElem?_eq_some_iff.1 hio).1
  have his:i < listed.size:=by omega
  have hset:∀ q,listed.getD q false = true → (listed.setIfInBounds i true).getD q false = true:=fun q hq=>by
   by_cases e:q = i
   ·subst e; simp [Array.getD_eq_getD_getElem?,his]
   ·rw [getD_set_ne false (fun h=>e h.symm)]; exact hq
  have hseti:(listed.setIfInBounds i true).getD i false = true:=by simp [Array.getD_eq_getD_getElem?,his]
  by_cases hi:i < l.length
  ·
   have hInv':(∀ j,l.length ≤ j → listed.getD j false = false) ∧ R E n (stE s l Fs listed) a w:=by
    rcases hInv with h | ⟨k,sk,hk,hyes,_⟩
    ·exact h
    ·have:=hyes i (by omega); rw [hil] at this; simp at this
   obtain ⟨hno,hR⟩:=hInv'
   have hol:=hgetl hio hi
   obtain ⟨x,hx,hstep⟩:=hsteps i o hol
   rw [Nat.zero_add] at hstep
   have hnohit:∀ p,p ∈ gA l i s.slots → p ∈ s.slots ∧ oy l listed p.1 = false:=by
    intro p hp
    simp only [gA,List.mem_filter,List.all_eq_true,List.mem_range,Bool.or_eq_true,bne_iff_ne,beq_iff_eq] at hp
    refine ⟨hp.1,?_⟩
    cases hh:oy l listed p.1 with
    | false=>rfl
    | true=>
     exfalso
     simp only [oy,List.any_eq_true,List.mem_range,Bool.and_eq_true,beq_iff_eq] at hh
     obtain ⟨q,hq,hlq,hdq⟩:=hh
     rcases hp.2 q hq with (h | h) | h
     ·exact h hdq
     ·subst h; rw [hil] at hlq; simp at hlq
     ·obtain ⟨o',ho',e,he,hb,hon⟩:=lz h
      have:=hcl q o' (by rw [List.getElem?_append_left hq]; exact ho') hlq e he hb
      rw [hon,hil] at this; simp at this
   have hR2:R E n ⟨cT l Fs o.after.toList ++ (gA l i s.slots ++ ((s.slots.filter fun p=>!oy l listed p.1) ++ aU (fun i=>listed.getD i false) 0 l Fs)),s.own⟩ a w:=by
    obtain ⟨h1,h2,h,ρ,hw,hs⟩:=hR
    refine ⟨h1,h2,h,ρ,hw,fun k y hy=>hs k y ?_⟩
    rcases List.mem_append.1 hy with hy | hy
    ·obtain ⟨e,he,hb,o',ho',hd',hF'⟩:=kL hy
     refine List.mem_append.2 (.inr ?_)
     rw [b7]
     exact ⟨e.on,o',ho',hd',hF',by rw [Nat.zero_add]; exact hdeps e (by simpa using he) hb⟩
    ·rcases List.mem_append.1 hy with hy | hy
     ·obtain ⟨h1,h2⟩:=hnohit _ hy
      exact List.mem_append.2 (.inl (List.mem_filter.2 ⟨h1,by simp [h2]⟩))
     ·exact hy
   refine hstep _ a w hR2 K Q (fun a' w' hR'=>hK a' w' (.inl ⟨fun j hj=>?_,?_⟩))
   ·rw [getD_set_ne false (by omega)]; exact hno j hj
   ·obtain ⟨h1,h2,h,ρ,hw,hs⟩:=hR'
    have hown:∀ sl,(St.put n o.dst x ⟨sl,s.own⟩).own = s.own:=fun sl=>by
     cases hd:o.dst with
     | none=>rfl
     | some d=>simp only [St.put,St.set]; split <;> rfl
    rw [hown] at hw
    refine ⟨h1,h2,h,ρ,hw,fun k y hy=>?_⟩
    have hold:(k,y) ∈ (s.slots.filter fun p=>!oy l listed p.1) ++ aU (fun i=>listed.getD i false) 0 l Fs → (∀ d,o.dst = some d → k ≠ d) → ∃ v,a'.tmps[k]? = some v ∧ y.rel h ρ v:=by
     intro hm hkd
     refine hs k y ?_
     have hm':(k,y) ∈ cT l Fs o.after.toList ++ (gA l i s.slots ++ ((s.slots.filter fun p=>!oy l listed p.1) ++ aU (fun i=>listed.getD i false) 0 l Fs)):=List.mem_append.2 (.inr (List.mem_append.2 (.inr hm)))
     cases hd:o.dst with
     | none=>simp only [St.put]; exact hm'
     | some d=>
      simp only [St.put,St.set]
      split
      ·exact List.mem_cons_of_mem _ (dG hm' (hkd d hd))
      ·exact hm'
    simp only [stE] at hy
    rcases List.mem_append.1 hy with hy | hy
    ·obtain ⟨hy1,hy2⟩:=List.mem_filter.1 hy
     have hy2':oy l (listed.setIfInBounds i true) k = false:=by simpa using hy2
     refine hold (List.mem_append.2 (.inl (List.mem_filter.2 ⟨hy1,?_⟩))) (fun d hd e=>?_)
     ·cases hh:oy l listed k with
      | false=>rfl
      | true=>
       exfalso
       simp only [oy,List.any_eq_true,List.mem_range,Bool.and_eq_true,beq_iff_eq] at hh
       obtain ⟨q,hq,hlq,hdq⟩:=hh
       have:oy l (listed.setIfInBounds i true) k = true:=by
        simp only [oy,List.any_eq_true,List.mem_range,Bool.and_eq_true,beq_iff_eq]
        exact ⟨q,hq,hset q hlq,hdq⟩
       rw [hy2'] at this; simp at this
     ·subst e
      have:oy l (listed.setIfInBounds i true) k = true:=by
       simp only [oy,List.any_eq_true,List.mem_range,Bool.and_eq_true,beq_iff_eq]
       exact ⟨i,hi,hseti,by rw [hol]; exact hd⟩
      rw [hy2'] at this; simp at this
    ·rw [b7] at hy
     obtain ⟨j,oj,hj,hd',hF',hl'⟩:=hy
     rw [Nat.zero_add] at hl'
     by_cases hji:j = i
     ·subst hji
      rw [hol] at hj; cases hj
      rw [hx] at hF'; cases hF'
      refine hs k y ?_
      have hk:k < n.n:=by
       have:=hlt k (gW hol hd')
       simpa using this
      simp only [hd',St.put,St.set,hk,if_true]
      exact List.mem_cons_self
     ·have hl2:listed.getD j false = true:=by
       rw [getD_set_ne false (fun e=>hji e.symm)] at hl'
       exact hl'
      refine hold (List.mem_append.2 (.inr ?_)) (fun d hd e=>?_)
      ·rw [b7]
       exact ⟨j,oj,hj,hd',hF',by rw [Nat.zero_add]; exact hl2⟩
      ·subst e
       exact hji (l' hnd hj hol hd' hd)
  ·
   have hit':i - l.length < tl.length:=by simp only [List.length_append] at hin; omega
   have hcv:=covered hcl hio hdeps (by have:=hcov (i - l.length) hit'; rwa [show l.length + (i - l.length) = i by omega] at this)
   have hoi:tl[i - l.length]? = some o:=by rwa [List.getElem?_append_right (by omega)] at hio
   rcases hInv with ⟨hno,hR⟩ | ⟨k,sk,hk,hyes,hno,hT,hR⟩
   ·have ei:i = l.length:=by
     rcases Nat.lt_or_ge l.length i with h | h
     ·have:=hcv l.length h; rw [hno _ (Nat.le_refl _)] at this; simp at this
     ·omega
    have hR0:=hS0 (fun j hj=>hcv j (by omega)) hR
    rw [show i - l.length = 0 by omega] at hoi
    have h0:0 < tl.length:=by omega
    have hdr:tl.drop 0 = o :: tl.drop (0 + 1):=by
     rw [List.drop_eq_getElem_cons h0]
     congr 1
     rw [List.getElem?_eq_getElem h0] at hoi
     simpa using hoi
    have hT:lG P E n (l ++ tl).toArray (tl.drop 0) ⟨(s.slots.filter fun p=>!(eE l).contains p.1) ++ aU (fun _=>true) 0 l Fs,s.own⟩ s2:=by rw [List.drop_zero]; exact htl
    rw [hdr] at hT
    obtain ⟨s1,hs1,hr1⟩:=hT
    refine hs1 a w hR0 K Q (fun a' w' hR'=>hK a' w' (.inr ⟨0,s1,h0,fun j hj=>?_,fun j hj=>?_,hr1,hR'⟩))
    ·by_cases e:j = i
     ·subst e; exact hseti
     ·exact hset j (hcv j (by omega))
    ·rw [getD_set_ne false (by omega)]; exact hno j (by omega)
   ·have ei:i = l.length + (k + 1):=by
     rcases Nat.lt_or_ge (l.length + (k + 1)) i with h | h
     ·have:=hcv _ h; rw [hno _ (by omega)] at this; simp at this
     ·rcases Nat.lt_or_ge i (l.length + (k + 1)) with h' | h'
      ·have:=hyes i (by omega); rw [hil] at this; simp at this
      ·omega
    rw [show i - l.length = k + 1 by omega] at hoi
    have hdr:tl.drop (k + 1) = o :: tl.drop (k + 1 + 1):=by
     have hlt2:k + 1 < tl.length:=by omega
     rw [List.drop_eq_getElem_cons hlt2]
     congr 1
     rw [List.getElem?_eq_getElem hlt2] at hoi
     simpa using hoi
    rw [hdr] at hT
    obtain ⟨s1,hs1,hr1⟩:=hT
    refine hs1 a w hR K Q (fun a' w' hR'=>hK a' w' (.inr ⟨k + 1,s1,by omega,fun j hj=>?_,fun j hj=>?_,hr1,hR'⟩))
    ·by_cases e:j = i
     ·subst e; exact hseti
     ·exact hset j (hyes j (by omega))
    ·rw [getD_set_ne false (by omega)]; exact hno j (by omega)
 ·
  intro listed a w hsz hall hInv
  rcases hInv with ⟨hno,hR⟩ | ⟨k,sk,hk,hyes,hno,hT,hR⟩
  ·have e:tl = []:=by
    cases htl':tl with
    | nil=>rfl
    | cons o0 r=>
     have:=hall l.length (by rw [htl']; simp)
     rw [hno _ (Nat.le_refl _)] at this; simp at this
   subst e
   have hR0:=hS0 (fun j hj=>hall j (by simpa using hj)) hR
   have e2:_ = s2:=htl
   rw [e2] at hR0
   exact h a w (hs ▸ hR0.keep ks kos)
  ·have e:k + 1 = tl.length:=by
    rcases Nat.lt_or_ge (k + 1) tl.length with h' | h'
    ·have:=hall (l.length + (k + 1)) (by simp only [List.length_append]; omega)
     rw [hno _ (by omega)] at this; simp at this
    ·omega
   rw [e,List.drop_length] at hT
   have e2:sk = s2:=hT
   subst e2
   exact h a w (hs ▸ hR.keep ks kos)
 ·intro i p hi hl
  exfalso
  simp only [Array.getD_eq_getD_getElem?,Array.getElem?_replicate] at hl
  split at hl <;> simp at hl
 ·simp only [Array.getD_eq_getD_getElem?,Array.getElem?_replicate]
  split <;> simp
 ·obtain ⟨h1,h2,h,ρ,hw,hsl⟩:=hr.drawn
  refine ⟨h1,h2,h,ρ,hw,fun k x hx=>hsl k x ?_⟩
  simp only [stE] at hx
  rcases List.mem_append.1 hx with hx | hx
  ·exact (List.mem_filter.1 hx).1
  ·rw [b7] at hx
   obtain ⟨j,o,hj,_,_,hl⟩:=hx
   simp only [Nat.zero_add,Array.getD_eq_getD_getElem?,Array.getElem?_replicate] at hl
   split at hl <;> simp at hl
theorem ab.rj {rid:Nat} {ops:List Oper} (hm:P.follows .mixedOrders = true) (l tl:List Oper) (hops:l ++ tl = ops) (Fs:List SV) (ks kos:List Nat) (hok:okX l tl n.n = true) (hst:jZ P E n ops.toArray s l Fs 0 l Fs)
  (htl:lG P E n ops.toArray tl ⟨(s.slots.filter fun p=>!(eE l).contains p.1) ++ aU (fun _=>true) 0 l Fs,s.own⟩ s2) (hs:s2.keep ks kos = s') (h:Fin E n .normal s' Q):ab P E n (.region rid ops.toArray true) s Q:=ab.ofA hm (mC.X l tl hops Fs ks kos hok hst htl hs h)
theorem ab.kC {rid:Nat} {ops:List Oper} (hm:P.follows .mixedOrders = true) (m:Nat) (Fs:List SV) (ks kos:List Nat) (hok:okX (ops.take m) (ops.drop m) n.n = true) (hst:jZ P E n ops.toArray s (ops.take m) Fs 0 (ops.take m) Fs)
  (htl:lG P E n ops.toArray (ops.drop m) ⟨(s.slots.filter fun p=>!(eE (ops.take m)).contains p.1) ++ aU (fun _=>true) 0 (ops.take m) Fs,s.own⟩ s2) (hs:s2.keep ks kos = s') (h:Fin E n .normal s' Q):ab P E n (.region rid ops.toArray true) s Q :=
 ab.rj hm _ _ (List.take_append_drop m ops) Fs ks kos hok hst htl hs h
theorem ab.dz {rid:Nat} {ops:List Oper} {y:Code} (hm:P.follows .mixedOrders = true) (m:Nat) (Fs:List SV) (ks kos:List Nat) (hok:okX (ops.take m) (ops.drop m) n.n = true) (hst:jZ P E n ops.toArray s (ops.take m) Fs 0 (ops.take m) Fs)
  (htl:lG P E n ops.toArray (ops.drop m) ⟨(s.slots.filter fun p=>!(eE (ops.take m)).contains p.1) ++ aU (fun _=>true) 0 (ops.take m) Fs,s.own⟩ s2) (hs:s2.keep ks kos = s') (h:ab P E n y s' Q):ab P E n (.region rid ops.toArray true) s (Exit.then (y.wp P Q) Q) :=
 ab.kC hm m Fs ks kos hok hst htl hs (Fin.then h)
end
end Go.Sk
namespace Go.Sk
set_option linter.unusedSimpArgs false
set_option linter.unusedVariables false
open Go Go.BigFrame Go.RowKit
section
variable {P:Program} {TB:bc} {E:Env TB} {n:Sh} {s s' s0 s2:St} {dst:Option Nat} {t ty yt:TypeId} {pos:String} {after:Array Edge} {g:Option (Nat × Bool)} {x y c:Operand} {ops:Array Oper} {o:Oper}
theorem bO.cN (i k size:Nat) (T:TypeId) (hi:s.get i = some (.b (.one .nil))) (hz:0 < size) (hfx:n.fix.contains k = false) (h:bO P E n ops o ⟨(i,.b (.row k)) :: del i (bg k s.slots),ins k (.row T size []) s.own⟩ s2) (hnu:bL k s.own = true:=by rfl):bO P E n ops o s s2 :=
 fun a w hr=>h a w (hr.cN hi hz hfx hnu)
theorem bO.gT (i size:Nat) (hi:s.get i = some (.b (.one .nil))) (hz:0 < size) (h:bO P E n ops o ⟨(i,.b (.one (.sl size []))) :: del i s.slots,s.own⟩ s2):bO P E n ops o s s2 :=
 fun a w hr=>h a w (hr.gT hi hz)
theorem bO.bA (k:Nat) {size:Nat} {T:TypeId} {es:List (List CP)} (hk:lk s.own k = some (.row T size es)) (h:bO P E n ops o ⟨eX k (.sl size es) s.slots,eF k (.sl size es) (del k s.own)⟩ s2):bO P E n ops o s s2:=fun a w hr=>h a w (hr.bA hk)
theorem bO.mK (k:Nat) {T:TypeId} {ps:List CP} (hk:lk s.own k = some (.box T ps)) (h:bO P E n ops o ⟨s.slots,ins k (.ao T (ps.map .one)) s.own⟩ s2):bO P E n ops o s s2:=fun a w hr=>h a w (hr.mK k hk)
theorem bO.unX (k:Nat) {T:TypeId} {cs:List BV} {ps:List CP} (hk:lk s.own k = some (.ao T cs)) (ho:mA cs = some ps) (h:bO P E n ops o ⟨s.slots,ins k (.box T ps) s.own⟩ s2):bO P E n ops o s s2:=fun a w hr=>h a w (hr.unX k hk ho)
theorem bO.eV (kos:List Nat) {s1:St} (h:bO P E n ops o s s1) (e:(⟨s1.slots,iM kos s1.own⟩:St) = s2):bO P E n ops o s s2:=fun a w hr K Q hk=>h a w hr K Q fun a' w' hr'=>hk a' w' (by
 rw [← e]
 obtain ⟨hd,hn,h,ρ,hw,hs⟩:=hr'
 exact ⟨hd,hn,h,ρ,hw.sub fun _ hp=>ff hp,hs⟩)
theorem R.jz {a:Act} {w:World} (hr:R E n s a w) (k:Nat) {T:TypeId} {size:Nat} {es:List (List CP)} (hk:lk s.own k = some (.row T size es)):R E n ⟨s.slots,ins k (.cp T size es) s.own⟩ a w:=by
 obtain ⟨hd,hn,h,ρ,hw,hs⟩:=hr
 exact ⟨hd,hn,h,ρ,hw.pW hk (hw.owned k _ (aA hk)).1,hs⟩
theorem R.kg {a:Act} {w:World} (hr:R E n s a w) (k:Nat) {T:TypeId} {size:Nat} {es:List (List CP)} (hk:lk s.own k = some (.cp T size es)):R E n ⟨s.slots,ins k (.row T size es) s.own⟩ a w:=by
 obtain ⟨hd,hn,h,ρ,hw,hs⟩:=hr
 exact ⟨hd,hn,h,ρ,hw.pW hk (hw.owned k _ (aA hk)).1,hs⟩
theorem ae.jz {l:List Oper} {Q:bU} (k:Nat) {T:TypeId} {size:Nat} {es:List (List CP)} (hk:lk s.own k = some (.row T size es)) (h:ae P E n ops l ⟨s.slots,ins k (.cp T size es) s.own⟩ Q):ae P E n ops l s Q:=fun a w hr=>h a w (hr.jz k hk)
theorem ae.kg {l:List Oper} {Q:bU} (k:Nat) {T:TypeId} {size:Nat} {es:List (List CP)} (hk:lk s.own k = some (.cp T size es)) (h:ae P E n ops l ⟨s.slots,ins k (.row T size es) s.own⟩ Q):ae P E n ops l s Q:=fun a w hr=>h a w (hr.kg k hk)
theorem ab.kg {cd:Code} {Q:bU} (k:Nat) {T:TypeId} {size:Nat} {es:List (List CP)} (hk:lk s.own k = some (.cp T size es)) (h:ab P E n cd ⟨s.slots,ins k (.row T size es) s.own⟩ Q):ab P E n cd s Q:=fun a w hr=>h a w (hr.kg k hk)
theorem ab.jz {cd:Code} {Q:bU} (k:Nat) {T:TypeId} {size:Nat} {es:List (List CP)} (hk:lk s.own k = some (.row T size es)) (h:ab P E n cd ⟨s.slots,ins k (.cp T size es) s.own⟩ Q):ab P E n cd s Q:=fun a w hr=>h a w (hr.jz k hk)
theorem Fin.jz {e:Exit} {Q:bU} (k:Nat) {T:TypeId} {size:Nat} {es:List (List CP)} (hk:lk s.own k = some (.row T size es)) (h:Fin E n e ⟨s.slots,ins k (.cp T size es) s.own⟩ Q):Fin E n e s Q:=fun a w hr=>h a w (hr.jz k hk)
theorem Fin.kg {e:Exit} {Q:bU} (k:Nat) {T:TypeId} {size:Nat} {es:List (List CP)} (hk:lk s.own k = some (.cp T size es)) (h:Fin E n e ⟨s.slots,ins k (.row T size es) s.own⟩ Q):Fin E n e s Q:=fun a w hr=>h a w (hr.kg k hk)
theorem bO.jz (k:Nat) {T:TypeId} {size:Nat} {es:List (List CP)} (hk:lk s.own k = some (.row T size es)) (h:bO P E n ops o ⟨s.slots,ins k (.cp T size es) s.own⟩ s2):bO P E n ops o s s2:=fun a w hr=>h a w (hr.jz k hk)
theorem bO.kg (k:Nat) {T:TypeId} {size:Nat} {es:List (List CP)} (hk:lk s.own k = some (.cp T size es)) (h:bO P E n ops o ⟨s.slots,ins k (.row T size es) s.own⟩ s2):bO P E n ops o s s2:=fun a w hr=>h a w (hr.kg k hk)
end
theorem rF {r:BV → Value → Prop} {a:BV} {vals:List Value} (h:aI r [a] vals):∃ v,vals = [v] ∧ r a v:=by
 cases h with
 | cons h1 h2=>cases h2; exact ⟨_,rfl,h1⟩
section
variable {P:Program} {TB:bc} {E:Env TB} {n:Sh} {s:St} {dst:Option Nat} {t ty yt:TypeId} {pos:String} {after:Array Edge} {g:Option (Nat × Bool)} {x y c:Operand}
theorem sl_part {h:PH} {size:Nat} {es fs:List (List CP)} {a:Option Addr} {b o c lo len cap:Nat} (hz:0 < size) (hu:bD size es) (hr:Reads h b o es.flatten) (hc:es.length ≤ c) (hm:c ≤ maxLen) (hfs:fs = (es.take (lo + len)).drop lo) (hl:lo + len ≤ es.length) (hcap:cap = c - lo) (ha:a = if c = lo then some ⟨b,o,none⟩ else some ⟨b,o + lo * size,none⟩) :
  (CP.sl size fs).rel h (.slice a len cap):=by
 have hfl:fs.length = len:=by rw [hfs]; simp; omega
 have huf:bD size fs:=fun ps hp=>hu ps (by rw [hfs] at hp; exact List.mem_of_mem_take (List.mem_of_mem_drop hp))
 refine ⟨huf,hz,?_⟩
 subst ha hcap
 by_cases e:c = lo
 ·rw [if_pos e]
  have h0:len = 0:=by omega
  have hn:fs = []:=List.eq_nil_of_length_eq_zero (by omega)
  exact .inr (.inl ⟨b,o,c - lo,by rw [hfl],by omega,by omega,fun j q hq=>by rw [hn] at hq; simp at hq⟩)
 ·rw [if_neg e]
  refine .inr (.inl ⟨b,o + lo * size,c - lo,by rw [hfl],by omega,by omega,?_⟩)
  have:fs.flatten = (es.flatten.drop (lo * size)).take (len * size):=by
   rw [hfs,kP (fun ps hp=>hu ps (List.mem_of_mem_take hp)),kF hu,List.drop_take]
   congr 1
   rw [Nat.add_mul]; omega
  rw [this]
  intro j q hq
  rw [List.getElem?_take] at hq
  split at hq
  ·exact hr.drop (lo * size) j q hq
  ·simp at hq
theorem oX {α:Type} {xs z:List α} {enc:α → List CP} {size bytes:Nat} {e:TypeId} {zs:List CP} {yl yo:Operand} {k1 k2:IntKind} {i j:Int} (ht:ec P t e size bytes zs) (h:pV xs i j = some z) (hx:s.ev x = some (.b (.one (.sl size (xs.map enc))))) (hl:s.ev yl = some (.b (.one (.int k1 i)))) (hy:s.ev yo = some (.b (.one (.int k2 j)))) :
  br P E n ⟨dst,.slice t x (some yl) (some yo) none,ty,pos,after,g⟩ s (s.put n dst (.b (.one (.sl size (z.map enc))))) :=
 br.val (o:=⟨dst,.slice t x (some yl) (some yo) none,ty,pos,after,g⟩) fun ac w hh ρ hw hs=>by
  obtain ⟨h0,h01,h1,rfl⟩:=sub_ok h
  obtain ⟨hu,hz,hv⟩:=(aE hs hx:(CP.sl size (xs.map enc)).rel hh _)
  obtain ⟨inf,zz,hi,hsz,_⟩:=ht.info
  have hel:P.elem t = e:=by simp [Program.elem,ht.und]
  have hund:P.underlying t = some (.slice (P.elem t)):=by rw [hel]; exact ht.und
  rcases hv with ⟨hv,he⟩ | ⟨b,o,c,hv,h3,h4,h5⟩ | ⟨ad,hv,he⟩
  ·have hxs:xs = []:=by simpa using he
   subst hxs
   have hj0:j = 0:=by simp at h1; omega
   have hi0:i = 0:=by omega
   subst hi0 hj0
   have hb:=run_slice_lh (P:=P) (w:=w) (t:=t) (a:=none) (len:=0) (cap:=0) hund k1 k2 0 0 (by decide) (by decide) (by decide)
   refine ⟨sliced none (Int.toNat 0) (Int.toNat 0) 0 size,?_,?_⟩
   ·simp only [execOp,hv,Option.map_some,Option.map_none,(cb hs hy).1,(cb hs hl).1]
    rw [Sem.run_bind,run_sliceAt_slice w t _ _ _ _ hund,hb,run_sizeOf (i:=inf) (by rw [hel]; exact hi),hsz]
    rfl
   ·exact ⟨fun ps hps=>by simp at hps,hz,.inl ⟨by simp [sliced],by simp⟩⟩
  ·have hlen:(xs.map enc).length = xs.length:=by simp
   have hb:=run_slice_lh (P:=P) (w:=w) (t:=t) (a:=some ⟨b,o,none⟩) (len:=(xs.map enc).length) (cap:=c) hund k1 k2 i j h0 h01 (by rw [hlen] at h3; omega)
   refine ⟨sliced (some ⟨b,o,none⟩) i.toNat j.toNat c size,?_,?_⟩
   ·simp only [execOp,hv,Option.map_some,Option.map_none,(cb hs hy).1,(cb hs hl).1]
    rw [Sem.run_bind,run_sliceAt_slice w t _ _ _ _ hund,hb,run_sizeOf (i:=inf) (by rw [hel]; exact hi),hsz]
    rfl
   ·unfold sliced
    refine sl_part (lo:=i.toNat) hz hu h5 h3 h4 ?_ (by rw [hlen]; omega) rfl (by split <;> simp [ja])
    have:i.toNat + (j.toNat - i.toNat) = j.toNat:=by omega
    rw [this,List.map_drop,List.map_take]
  ·have hxs:xs = []:=by simpa using he
   subst hxs
   have hj0:j = 0:=by simp at h1; omega
   have hi0:i = 0:=by omega
   subst hi0 hj0
   have hb:=run_slice_lh (P:=P) (w:=w) (t:=t) (a:=some ad) (len:=0) (cap:=0) hund k1 k2 0 0 (by decide) (by decide) (by decide)
   refine ⟨sliced (some ad) (Int.toNat 0) (Int.toNat 0) 0 size,?_,?_⟩
   ·simp only [execOp,hv,Option.map_some,Option.map_none,(cb hs hy).1,(cb hs hl).1]
    rw [Sem.run_bind,run_sliceAt_slice w t _ _ _ _ hund,hb,run_sizeOf (i:=inf) (by rw [hel]; exact hi),hsz]
    rfl
   ·exact ⟨fun ps hps=>by simp at hps,hz,.inr (.inr ⟨ad,by simp [sliced],by simp⟩)⟩
end
end Go.Sk
namespace Go.Sk
set_option linter.unusedSimpArgs false
set_option linter.unusedVariables false
open Go Go.ChangeShapes Go.WideShapes Go.ChangeAt Go.RowKit
theorem dh.nil {h:PH} {w:World}:dh [] h w:=fun g cs hm=>by cases hm
theorem dh.cons {P:Program} {TB:bc} {W:World} {name:String} {k:IntKind} {zs:List Int} {g:Nat} (hg:P.globalNamed name = some g) (h:Lib.TabIs P W name k zs) (h0:0 < zs.length) (r:dh TB (Go.Sk.full W) W):dh ((g,zs.map fun z=>Value.int k z) :: TB) (Go.Sk.full W) W:=fun g' cs hm=>by
 rcases List.mem_cons.1 hm with e | hm
 ·obtain ⟨rfl,rfl⟩:=Prod.mk.inj e
  unfold Lib.TabIs World.var? at h
  rw [hg] at h
  simp only [Option.bind_some] at h
  split at h
  ·next cs T fz hh=>
   have:=Option.some.inj h
   subst this
   refine ⟨by simpa using h0,fun o v hv=>?_,T,fz,hh⟩
   show look W g' o = some v
   refine fR ?_ (by
    have hm:=List.mem_of_getElem? hv
    obtain ⟨z,_,rfl⟩:=List.mem_map.1 hm
    rfl)
   simp only [World.cell?,hh]
   simpa using hv
  ·simp at h
 ·exact r g' cs hm
end Go.Sk
namespace Go.Sk
open Go Go.Proofs
section
variable {P:Program} {TB:bc} {E:Env TB} {n:Sh} {ops:Array Oper} {l:List Oper} {s:St} {Q:bU} {c:Code}
def St.only (s' s:St):St:=s.keep (s'.slots.map (·.1)) (s'.own.map (·.1))
theorem ae.ag {y:Code} (s':St) (hs:s'.only s = s') (h:ab P E n y s' Q):ae P E n ops [] s (Exit.then (y.wp P Q) Q):=ae.nilK _ _ hs h
theorem ae.af (s':St) (hs:s'.only s = s') (h:ae P E n ops l s' Q):ae P E n ops l s Q:=ae.keep _ _ hs h
theorem ab.af (s':St) (hs:s'.only s = s') (h:ab P E n c s' Q):ab P E n c s Q:=ab.keep _ _ hs h
theorem Fin.af {e:Exit} (s':St) (hs:s'.only s = s') (h:Fin E n e s' Q):Fin E n e s Q:=Fin.keep _ _ hs h
end
section
variable {P:Program} {TB:bc} {E:Env TB} {n:Sh} {ops:Array Oper} {l:List Oper} {s s':St} {Q:bU} {o:Oper} {dst:Option Nat} {t ty:TypeId} {pos:String} {after:Array Edge} {g:Option (Nat × Bool)} {x:Operand}
theorem Oc (h1:br P E n o s s') (h2:ae P E n ops l s' Q) (hg:o.guard = none:=by rfl):ae P E n ops (o :: l) s Q:=ae.cons hg h1 h2
theorem bO.p (h:br P E n o s s') (hg:o.guard = none:=by rfl):bO P E n ops o s s':=.plain hg h
theorem om {z:SV} (hx:s.ev x = some z:=by rfl):br P E n ⟨dst,.move x,ty,pos,after,g⟩ s (s.put n dst z):=an hx
theorem oa {z:SV} (hx:s.ev x = some z:=by rfl):br P E n ⟨dst,.assign x,ty,pos,after,g⟩ s (s.put n dst z):=ll hx
theorem cX {j t:Nat} {b:Bool} {z:BV} (gd':Bool) (ks:List Nat) (hc:gd' = true → cI 99 ks s.slots) (h1:gd' = true → br P E n o (s.gw 99 ks) ((s.gw 99 ks).put n o.dst (.b z))) (h2:ae P E n ops l (s.put n o.dst (.opt gd' z)) Q)
  (hg:o.guard = some (j,true):=by rfl) (hj:(ops[j]?).bind (·.dst) = some t:=by rfl) (hb:s.get t = some (.b (.one (.bool b))):=by rfl) (hgd:b = gd':=by rfl):ae P E n ops (o :: l) s Q :=
 ae.consG gd' 99 ks (.plain hb) ((fZ _).trans hgd) hg hj hc h1 h2
theorem oz {j t:Nat} {b:Bool} {z:BV} (gd':Bool) (ks:List Nat) (hc:gd' = true → cI 99 ks s.slots) (h1:gd' = true → br P E n o (s.gw 99 ks) ((s.gw 99 ks).put n o.dst (.b z))) (h2:ae P E n ops l (s.put n o.dst (.opt gd' z)) Q)
  (hg:o.guard = some (j,false):=by rfl) (hj:(ops[j]?).bind (·.dst) = some t:=by rfl) (hb:s.get t = some (.b (.one (.bool b))):=by rfl) (hgd:(!b) = gd':=by rfl):ae P E n ops (o :: l) s Q :=
 ae.consG gd' 99 ks (.plain hb) ((eq_f _).trans hgd) hg hj hc h1 h2
end
abbrev Pt (k:Nat) (o:Nat):SV:=.b (.ptr k o)
end Go.Sk
namespace Go.Sk
set_option linter.unusedSimpArgs false
set_option linter.unusedVariables false
open Go Go.BigFrame
section
variable {P:Program} {TB:bc} {E:Env TB} {n:Sh} {s:St} {dst:Option Nat} {t ty yt:TypeId} {pos:String} {after:Array Edge} {g:Option (Nat × Bool)} {x y c:Operand}
theorem CV.bvL {h:PH} {ρ:RM}:∀ {l:List CV} {vs:List Value},aI (fun (x:CV) v=>x.rel h ρ v) l vs → aI (fun (x:BV) v=>x.rel h ρ v) (l.map CV.bv) vs
 | _,_,.nil=>.nil
 | _,_,.cons h1 t=>.cons (CV.qU h1) (CV.bvL t)
def evCV (s:St) (x:Operand):Option CV:=(evB s x).bind BV.cv
def mO (s:St):List Operand → Option (List CV)
 | []=>some []
 | x :: l=>(evCV s x).bind fun z=>(mO s l).map fun r=>z :: r
theorem evB_rel {h:PH} {ρ:RM} {a:Act} (hs:a7 h ρ s.slots a.tmps) {x:Operand} {z:BV} (hz:evB s x = some z):z.rel h ρ (a.eval x):=by
 unfold evB at hz
 split at hz
 ·rename_i z' hz'
  simp at hz; subst hz
  exact aE hs hz'
 ·simp at hz
theorem ly {h:PH} {ρ:RM} {a:Act} (hs:a7 h ρ s.slots a.tmps):∀ {l:List Operand} {zs:List CV},mO s l = some zs → aI (fun (x:CV) v=>x.rel h ρ v) zs (l.map a.eval)
 | [],zs,e=>by simp [mO] at e; subst e; exact .nil
 | x :: l,zs,e=>by
  unfold mO at e
  simp only [Option.bind_eq_some_iff,Option.map_eq_some_iff] at e
  obtain ⟨z,hz,r,hr,rfl⟩:=e
  unfold evCV at hz
  simp only [Option.bind_eq_some_iff] at hz
  obtain ⟨q,hq,hz⟩:=hz
  exact .cons (BV.qT hz (evB_rel hs hq)) (ly hs hr)
theorem oq {f:FuncId} {xs ys:Array Operand} {fs cs:List CV} (hf:mO s xs.toList = some fs) (hc:mO s ys.toList = some cs) :
  br P E n ⟨dst,.makeFunc (.func f) xs ys,ty,pos,after,g⟩ s (s.put n dst (.b (.fT f fs cs))) :=
 br.val (o:=⟨dst,.makeFunc (.func f) xs ys,ty,pos,after,g⟩) fun ac w h ρ hw hs=>by
  refine ⟨.func (.func f) (xs.map ac.eval) (ys.map ac.eval),by simp [execOp,Instr.makeFunc],_,_,rfl,?_,?_⟩
  ·simpa using ly hs hf
  ·simpa using ly hs hc
theorem mr {o:Oper} {f:FuncId} {own_a:List (Nat × OC)} {args:List BV} {post:eY} (hspec:ar P TB f own_a args post)
  (hrun:∀ (a:Act) (w:World) (h:PH) (ρ:RM),WR E n s.own h ρ w → a7 h ρ s.slots a.tmps → ∃ vals:List Value,(execOp a.eval o).run P w = .ok (.enter f vals.toArray) w ∧ aI (fun (x:BV) v=>x.rel h ρ v) args vals)
  (hl:hX s.own own_a) {a:Act} {w:World} (hr:R E n s a w) {next:Act → World → Prop} {Q:bU}
  (hnext:∀ own' res,post own' res → jH n own_a own' = true ∧ jG s.own own_a own' = true ∧ res.cf own' = true ∧ ∀ a' w',R E n (s.aft n own_a own' o.dst res) a' w' → next a' w'):o.wp P a w next Q:=by
 obtain ⟨hdf,hn,h,ρ,hw,hs⟩:=hr
 obtain ⟨vals,hr0,hra⟩:=hrun a w h ρ hw hs
 unfold Oper.wp
 rw [hr0]
 show Calls P f _ w _
 have hla:=jd hl
 refine (hspec w h ρ _ hw.nO hw.agree (nC hw hla (ix hl)) hra).mono ?_
 rintro e w' ⟨v,own',res,h',ρ',rfl,hp,hc,hres⟩
 obtain ⟨hok,hcl,hki,hnx⟩:=hnext own' res hp
 have hwc:=hw.call hla hc hok hcl
 refine hnx _ _ (R.put (s:=⟨kA own_a own' s.slots,k3 own' (gJ own_a s.own)⟩) hdf hn hwc ?_ ?_)
 ·intro k x hx
  obtain ⟨h1,h2⟩:=jc hx
  obtain ⟨u,hu,hrel⟩:=hs k x h1
  refine ⟨u,hu,SV.mono hc.le (fun j hj=>?_) hrel⟩
  by_cases hin:j ∈ aj own'
  ·rw [fv hin]
   by_cases hia:j ∈ aQ own_a
   ·exact hc.fixed j hia
   ·have:=h2 j hin hia; simp [this] at hj
  ·exact gj hin
 ·exact SV.mono (PH.le_refl _) (fun j hj=>fv (SV.bQ hki hj)) hres
theorem jg {α β:Type} {r:α → β → Prop} {a:List α} {b:List β} {c:List α} {d:List β} (h:aI r a b) (h':aI r c d):aI r (a ++ c) (b ++ d):=h.append h'
theorem nZ {f:FuncId} {fs cs:List CV} {own_a own':List (Nat × OC)} {args zs:List BV} {xs:Array Operand} {ats:Array TypeId} {res:SV} (hspec:ar P TB f own_a args (Is own' res)) (hf:cG P f) (hx:s.ev x = some (.b (.fT f fs cs))) (ha:gI s xs.toList = some zs)
  (hz:fs.map CV.bv ++ zs ++ cs.map CV.bv = args) (hl:hX s.own own_a)
  (hok:jH n own_a own' = true) (hki:res.cf own' = true) (hcl:jG s.own own_a own' = true:=by rfl):br P E n ⟨dst,.call ⟨.value x,xs,ats⟩,ty,pos,after,g⟩ s (s.aft n own_a own' dst res) :=
 fun _ _ hr _ _ hnext=>mr hspec (fun a w h ρ hw hs=>by
  obtain ⟨va,vb,hv,h1,h2⟩:=(aE hs hx:BV.rel h ρ (.fT f fs cs) _)
  refine ⟨va.toList ++ xs.toList.map a.eval ++ vb.toList,?_,?_⟩
  ·have e1:execOp a.eval ⟨dst,.call ⟨.value x,xs,ats⟩,ty,pos,after,g⟩ = (do let d ← Deferred.ofValue (a.eval x) (xs.map a.eval); invoke d.target d.args):=rfl
   rw [e1,hv]
   have e2:(do let d ← Deferred.ofValue (.func (.func f) va vb) (xs.map a.eval); invoke d.target d.args:Sem Next) = callFunc f (va ++ xs.map a.eval ++ vb):=rfl
   rw [e2,hf.run]
   congr 2
   apply Array.ext'
   simp
  ·rw [← hz]
   exact jg (jg (CV.bvL h1) (iu hs ha)) (CV.bvL h2)) hl hr fun _ _ hp=>by
  obtain ⟨rfl,rfl⟩:=hp
  exact ⟨hok,hcl,hki,hnext⟩
end
end Go.Sk
namespace Go.Sk
set_option linter.unusedSimpArgs false
set_option linter.unusedVariables false
open Go Go.BigFrame
def dZ {α:Type}:List (Int × α) → Int → Option α
 | [],_=>none
 | (a,b) :: r,k=>if k = a then some b else dZ r k
def cZ {α:Type}:List (Int × α) → Int → α → List (Int × α)
 | [],k,v=>[(k,v)]
 | (a,b) :: r,k,v=>if k = a then (a,v) :: r else (a,b) :: cZ r k v
theorem lp {α:Type} (k j:Int) (v:α):∀ l:List (Int × α),dZ (cZ l k v) j = if j = k then some v else dZ l j
 | []=>by unfold cZ dZ; rfl
 | (a,b) :: r=>by
  unfold cZ
  by_cases h:k = a
  ·rw [if_pos h]
   subst h
   unfold dZ
   split <;> rfl
  ·rw [if_neg h]
   unfold dZ
   rw [lp k j v r]
   by_cases h2:j = a
   ·rw [if_pos h2,if_pos h2,if_neg (fun e=>h (by rw [← e,h2]))]
   ·rw [if_neg h2,if_neg h2]
def eM (kd:IntKind) (l:List (Int × BV)):List (CP × BV):=l.map fun p=>(.int kd p.1,p.2)
theorem je {h:PH} {ρ:RM} {kd:IntKind} (k:Int):∀ {l:List (Int × BV)} {ms:List MapEntry},eK h ρ (eM kd l) ms → ∀ i:Nat,
  (dZ l k = none ∧ Instr.findNow (.int kd) (.int kd k) ms i = some none) ∨ ∃ j e v,ms[j]? = some e ∧ e.key = .int kd k ∧ dZ l k = some v ∧ v.rel h ρ e.val ∧ Instr.findNow (.int kd) (.int kd k) ms i = some (some (i + j,e.val)) ∧
   ∀ v',cZ l k v' = l.set j (k,v')
 | [],_,.nil,i=>.inl ⟨rfl,rfl⟩
 | (a,b) :: r,e :: es,.cons h1 h2,i=>by
  have hk:e.key = .int kd a ∧ mz kd a:=h1.1
  unfold dZ Instr.findNow
  rw [hk.1]
  by_cases hka:k = a
  ·subst hka
   refine .inr ⟨0,e,b,rfl,hk.1,if_pos rfl,h1.2,by simp [Instr.sameNow],fun v'=>by simp [cZ]⟩
  ·have hne:Instr.sameNow (.int kd) (.int kd k) (.int kd a) = some false:=by simp [Instr.sameNow,hka]
   simp only [hne,if_neg hka]
   rcases je k h2 (i + 1) with ⟨g1,g2⟩ | ⟨j,e',v,g1,g2,g3,g4,g5,g6⟩
   ·exact .inl ⟨g1,g2⟩
   ·refine .inr ⟨j + 1,e',v,by simpa using g1,g2,g3,g4,by rw [g5]; congr 3; omega,fun v'=>?_⟩
    unfold cZ
    rw [if_neg hka,g6]; rfl
structure mP (P:Program) (t kt et:TypeId) (kd:IntKind) (z:CP):Prop where
 und:P.underlying t = some (.map kt et)
 key:P.underlying kt = some (.int kd)
 zero:∃ i v,P.info? et = some i ∧ i.zero = some v ∧ ∀ h,z.rel h v
theorem mj {α:Type} {l:List α} {j:Nat} {e:α} (h:l[j]? = some e) (f:α → α):l.modify j f = l.set j (f e):=by
 refine List.ext_getElem? fun i=>?_
 rw [List.getElem?_modify,List.getElem?_set]
 by_cases hij:j = i
 ·subst hij
  have hj:j < l.length:=by
   rcases Nat.lt_or_ge j l.length with g | g
   ·exact g
   ·rw [List.getElem?_eq_none g] at h; cases h
  rw [h,if_pos rfl,if_pos hj]
  show some (if j = j then f e else e) = _
  rw [if_pos rfl]
 ·rw [if_neg hij]
  cases l[i]? with
  | none=>rfl
  | some a=>show some (if j = i then f a else a) = _; rw [if_neg hij]
section
variable {P:Program} {TB:bc} {E:Env TB} {n:Sh} {s:St} {dst:Option Nat} {t ty yt:TypeId} {pos:String} {after:Array Edge} {g:Option (Nat × Bool)} {x y c:Operand}
theorem dW {w:World} {kt:TypeId} {d:TypeDesc} (hd:P.underlying kt = some d) {k:Value} {es:List MapEntry} {r:Option (Nat × Value)} (hf:Instr.findNow d k es 0 = some r):(Instr.findKey kt k es).run P w = .ok r w:=by
 unfold Instr.findKey
 simp [Sem.run_bind,run_underlying hd,Result.andThen,hf]
theorem hH {w:World} {kt:TypeId} {kd:IntKind} (hd:P.underlying kt = some (.int kd)) (k:Int) (e:Bool) (m:Nat):(Instr.checkKey e (m + 1) kt (.int kd k)).run P w = .ok () w:=by
 unfold Instr.checkKey
 simp [Sem.run_bind,run_underlying hd,Result.andThen]
theorem rb {w:World} {et:TypeId} {i:TypeInfo} {v:Value} (hi:P.info? et = some i) (hz:i.zero = some v):(zeroValue et).run P w = .ok v w:=by
 simp [zeroValue,typeInfo,hi,hz]
theorem lK {h:PH} {ρ:RM} {w:World} {kt et:TypeId} {kd:IntKind} {z:CP} (ht:mP P t kt et kd z) {l:List (Int × BV)} {b:Nat} {ms:Array MapEntry} {clk:Nat}
  (hb:w.heap[b]? = some (.map ms clk)) (he:eK h ρ (eM kd l) ms.toList) (k:Int) :
  ∃ v,((dZ l k).getD (.one z)).rel h ρ v ∧ (Instr.lookup t (.map (some b)) (.int kd k) true).run P w = .ok (.tuple #[v,.bool (dZ l k).isSome]) w ∧ (Instr.lookup t (.map (some b)) (.int kd k) false).run P w = .ok v w:=by
 obtain ⟨i,zz,hi,hzz,hzr⟩:=ht.zero
 have hck:=fun e=>hH (P:=P) (w:=w) ht.key k e 9999
 rcases je k he 0 with ⟨g1,g2⟩ | ⟨j,e,v,g1,g2,g3,g4,g5,g6⟩
 ·have hf:=dW (P:=P) (w:=w) ht.key g2
  have hzv:=rb (P:=P) (w:=w) hi hzz
  refine ⟨zz,by rw [g1]; exact hzr h,?_,?_⟩
  ·simp [Instr.lookup,run_underlying ht.und,MapKept.run_getObj_map hb,hck,hf,hzv,Result.andThen,g1]
  ·simp [Instr.lookup,run_underlying ht.und,MapKept.run_getObj_map hb,hck,hf,hzv,Result.andThen]
 ·have hf:=dW (P:=P) (w:=w) ht.key g5
  refine ⟨e.val,by rw [g3]; exact g4,?_,?_⟩
  ·simp [Instr.lookup,run_underlying ht.und,MapKept.run_getObj_map hb,hck,hf,Result.andThen,g3]
  ·simp [Instr.lookup,run_underlying ht.und,MapKept.run_getObj_map hb,hck,hf,Result.andThen]
theorem run_keyThatStays {w:World} {kd:IntKind} (k:Int):(Instr.keyThatStays (.int kd k) (.int kd k)).run P w = .ok (.int kd k) w:=by
 simp [Instr.keyThatStays,Instr.sameBits]
theorem og {h:PH} {ρ:RM} {w:World} {kt et:TypeId} {kd:IntKind} {z:CP} (ht:mP P t kt et kd z) {l:List (Int × BV)} {b:Nat} {ms:Array MapEntry} {clk:Nat}
  (hb:w.heap[b]? = some (.map ms clk)) (he:eK h ρ (eM kd l) ms.toList) (ho:iR clk ms.toList) (k:Int) (hk:mz kd k) {v:BV} {u:Value} (hu:v.rel h ρ u) :
  ∃ ms' clk',(Instr.mapUpdate t (.map (some b)) (.int kd k) u).run P w = .ok () { w with heap:=w.heap.setIfInBounds b (.map ms' clk') } ∧ eK h ρ (eM kd (cZ l k v)) ms'.toList ∧ iR clk' ms'.toList:=by
 have hck:=hH (P:=P) (w:=w) ht.key k false 9999
 rcases je k he 0 with ⟨g1,g2⟩ | ⟨j,e,v0,g1,g2,g3,g4,g5,g6⟩
 ·have hf:=dW (P:=P) (w:=w) ht.key g2
  refine ⟨ms.push { key:=.int kd k,val:=u,born:=clk },clk + 1,?_,?_,?_⟩
  ·simp [Instr.mapUpdate,run_underlying ht.und,MapKept.run_getObj_map hb,hck,hf,MapKept.run_setObj_map _ hb,Result.andThen]
  ·have e1:cZ l k v = l ++ [(k,v)]:=by
    clear he hf g2
    induction l with
    | nil=>rfl
    | cons p r ih=>
     obtain ⟨a,c⟩:=p
     unfold dZ at g1
     split at g1
     ·cases g1
     ·next hne=>unfold cZ; rw [if_neg hne,ih g1]; rfl
   rw [e1]
   unfold eM
   rw [List.map_append,Array.toList_push]
   exact aI.append he (.cons ⟨⟨rfl,hk⟩,hu⟩ .nil)
  ·rw [Array.toList_push]
   refine ⟨fun e he'=>?_,?_⟩
   ·rcases List.mem_append.1 he' with h1 | h1
    ·have:=ho.1 e h1; omega
    ·rw [List.mem_singleton] at h1; subst h1; exact Nat.lt_succ_self _
   ·rw [List.map_append,List.nodup_append]
    refine ⟨ho.2,by simp,fun a ha b hb'=>?_⟩
    obtain ⟨e,he1,rfl⟩:=List.mem_map.1 ha
    have:=ho.1 e he1
    simp at hb'
    omega
 ·have hf:=dW (P:=P) (w:=w) ht.key g5
  have hj:j < ms.size:=by
   rcases Nat.lt_or_ge j ms.size with h | h
   ·exact h
   ·rw [List.getElem?_eq_none (by simpa using h)] at g1; cases g1
  have hje:ms[j]? = some e:=by simpa using g1
  have hks:=run_keyThatStays (P:=P) (w:=w) (kd:=kd) k
  refine ⟨ms.modify j fun e=>{ e with key:=.int kd k,val:=u },clk,?_,?_,?_⟩
  ·simp [Instr.mapUpdate,run_underlying ht.und,MapKept.run_getObj_map hb,hck,hf,hje,g2,hks,MapKept.run_setObj_map _ hb,Result.andThen]
  ·rw [g6]
   unfold eM
   rw [List.map_set,Array.toList_modify]
   have e1:ms.toList.modify j (fun e=>{ e with key:=.int kd k,val:=u }) = ms.toList.set j { e with key:=.int kd k,val:=u }:=by
    exact mj g1 _
   rw [e1]
   exact aI.set he j ⟨⟨rfl,hk⟩,hu⟩
  ·have e1:ms.toList.modify j (fun e=>{ e with key:=.int kd k,val:=u }) = ms.toList.set j { e with key:=.int kd k,val:=u }:=by
    exact mj g1 _
   have e2:(ms.toList.set j { e with key:=.int kd k,val:=u }).map (·.born) = ms.toList.map (·.born):=by
    rw [List.map_set]
    refine List.ext_getElem? fun i=>?_
    rw [List.getElem?_set]
    split
    ·next hij=>subst hij; rw [List.getElem?_map,g1]; simp [hj]
    ·rfl
   rw [Array.toList_modify,e1]
   refine ⟨fun e' he'=>?_,by rw [e2]; exact ho.2⟩
   have h1:e'.born ∈ ms.toList.map (·.born):=by rw [← e2]; exact List.mem_map_of_mem he'
   obtain ⟨e3,h2,h3⟩:=List.mem_map.1 h1
   rw [← h3]; exact ho.1 e3 h2
end
end Go.Sk
namespace Go.Sk
set_option linter.unusedSimpArgs false
set_option linter.unusedVariables false
open Go Go.BigFrame
section
variable {P:Program} {TB:bc} {E:Env TB} {n:Sh} {s s':St} {dst:Option Nat} {t ty yt:TypeId} {pos:String} {after:Array Edge} {g:Option (Nat × Bool)} {x y c:Operand} {ops:Array Oper} {l:List Oper} {Q:bU} {a b:Code}
theorem ae.ite {α:Type} {d:Bool} {A B:Option α} {r:α} (h:(if d = true then A else B) = some r) (h1:d = true → A = some r → ae P E n ops l s Q) (h2:d = false → B = some r → ae P E n ops l s Q):ae P E n ops l s Q:=by
 cases d
 ·exact h2 rfl h
 ·exact h1 rfl h
theorem ab.qv {k:Nat} (hs:s.get k = some (.b (.one (.bool true)))) (h:ab P E n a s Q):ab P E n (.cond (.tmp k) a b) s Q:=ab.cond hs (fun _=>h) (fun e=>by cases e)
theorem ab.qw {k:Nat} (hs:s.get k = some (.b (.one (.bool false)))) (h:ab P E n b s Q):ab P E n (.cond (.tmp k) a b) s Q:=ab.cond hs (fun e=>by cases e) (fun _=>h)
end
end Go.Sk
namespace Go.Sk
set_option linter.unusedSimpArgs false
set_option linter.unusedVariables false
open Go Go.ChangeShapes Go.WideShapes Go.ChangeAt Go.RowKit
def po {H:Type}:Nat → DataW H → List Value
 | _,.lit (.int k n)=>[.int k n]
 | _,.lit (.string l)=>[.string ⟨⟨l⟩⟩]
 | n + 1,.agg ds=>(ds.map (po n)).flatten
 | _,_=>[]
structure jY (P:Program) (t:TypeId) (n:Nat):Prop where
 op:∀ {H:Type} {enc:TypeId × Value → H} {W:World} {sp:Nat → Bool} {held:Bool} {fuel:Nat} {cs:List Value} {x:DataW H × List MemPlace},DataW.trod enc P W 0 sp held fuel t cs = some x → po n x.1 = cs
theorem jY.int {P:Program} {t:TypeId} {k:IntKind} {n:Nat} (ht:P.underlying t = some (.int k)):jY P t n where
 op h:=by obtain ⟨m,rfl,rfl,_⟩:=DataW.trod_int ht h; cases n <;> rfl
theorem jY.str {P:Program} {t:TypeId} {n:Nat} (ht:P.underlying t = some .string):jY P t n where
 op h:=by
  obtain ⟨s,rfl,rfl,_⟩:=DataW.trod_string ht h
  cases s with | mk d=>cases d; cases n <;> rfl
inductive k9 (P:Program) (fs:Array Field) (T d:Nat):Nat → Nat → Prop where
 | nil {i:Nat} (hi:fs.size ≤ i):k9 P fs T d i T
 | cons {i o:Nat} {f:Field} (hf:fs[i]? = some f) (ho:f.offset = o) (hr:jY P f.type d) (h:k9 P fs T d (i + 1) (o + P.cellsOf f.type)):k9 P fs T d i o
theorem k9.op {P:Program} {fs:Array Field} {T d i o:Nat} (h:k9 P fs T d i o) {H:Type} {enc:TypeId × Value → H} {W:World} {sp:Nat → Bool} {held:Bool} {n:Nat} {cs:List Value} {xs:List (DataW H × List MemPlace)} (hl:cs.length = T)
  (hx:xs.length = fs.size) (hv:∀ (j:Nat) (f:Field),fs[j]? = some f → DataW.trod enc P W 0 sp held n f.type ((cs.drop f.offset).take (P.cellsOf f.type)) = xs[j]?):((xs.drop i).map fun x=>po d x.1).flatten = cs.drop o:=by
 induction h with
 | nil hi=>rw [List.drop_of_length_le (by omega),List.drop_of_length_le (by omega)]; rfl
 | @cons i o f hf ho hr h ih=>
  have hi:i < xs.length:=by
   rw [hx]
   exact (Array.getElem?_eq_some_iff.1 hf).1
  have h1:=hv i f hf
  rw [List.getElem?_eq_getElem hi] at h1
  have h2:=hr.op h1
  rw [List.drop_eq_getElem_cons hi,List.map_cons,List.flatten_cons,ih,h2,ho,← List.drop_drop,List.take_append_drop]
theorem jY.struct {P:Program} {t:TypeId} {fs:Array Field} (ht:P.underlying t = some (.struct fs)) {d:Nat} (h:k9 P fs (P.cellsOf t) d 0 0):jY P t (d + 1) where
 op hd:=by
  obtain ⟨xs,m,_,rfl,hl,hlen,hf⟩:=DataW.trod_struct ht hd
  have:=h.op (xs:=xs) hl hlen hf
  simp only [po,List.map_map]
  rw [List.drop_zero,List.drop_zero] at this
  exact this
end Go.Sk
namespace Go.Sk
set_option linter.unusedSimpArgs false
set_option linter.unusedVariables false
open Go Go.BigFrame
variable {P:Program} {TB:bc} {E:Env TB} {n:Sh} {s:St} {dst:Option (Nat)} {t ty:TypeId} {pos:String} {after:Array Edge} {g:Option (Nat × Bool)} {x y:Operand}
theorem Reads.take {h:PH} {b o:Nat} {ps:List CP} (x:Reads h b o ps) (n:Nat):Reads h b o (ps.take n):=by
 intro j c hc
 rw [List.getElem?_take] at hc
 split at hc
 ·exact x j c hc
 ·cases hc
theorem gE {e:TypeId} {m size:Nat} {ps qs:List CP} {k:IntKind} {i:Int} (ht:qx P t e m size) (h0:0 ≤ i) (h1:i < m) (hx:s.ev x = some (.b (.cz ps))) (hy:s.ev y = some (.b (.one (.int k i)))) (hq:(ps.drop (i.toNat * size)).take size = qs) :
  br P E n ⟨dst,.indexAddr t x y,ty,pos,after,g⟩ s (s.put n dst (.b (.cz qs))) :=
 br.val (o:=⟨dst,.indexAddr t x y,ty,pos,after,g⟩) fun ac w h ρ hw hs=>by
  obtain ⟨b,o,hv,hr⟩:=(aE hs hx:BV.rel h ρ (.cz ps) _)
  obtain ⟨inf,hi,hsz⟩:=ht.info
  refine ⟨.pointer (some ⟨b,o + i.toNat * size,none⟩),?_,b,o + i.toNat * size,rfl,?_⟩
  ·simp only [execOp,hv,(cb hs hy).1]
   simp [iD ht.und hi hsz w b o k i h0 h1]
  ·rw [← hq]; exact (hr.drop _).take _
theorem ab.condFc {a b:Code} {Q:bU} (h:ab P E n b s Q):ab P E n (.cond (.const (.bool false)) a b) s Q:=fun ac w hr=>wp_cond_false rfl (h ac w hr)
end Go.Sk
namespace Go.Sk
set_option linter.unusedSimpArgs false
set_option linter.unusedVariables false
open Go Go.BigFrame Go.RowKit Go.Proofs Go.Shelf
variable {P:Program} {TB:bc} {ρ:Ren}
theorem l6 {own:List (Nat × OC)} {w:World} {h:PH} {ρ:RM} (tb:dh TB h w) (hag:ku h w) (hl:Lent own h ρ w):WR (⟨w,h,ρ,tb⟩:Env TB) ⟨0,aQ own,aj own,[]⟩ own h ρ w:=by
 refine ⟨hag,PH.le_refl h,fun _ _ _=>rfl,Nat.le_refl _,fun _ _ _=>rfl,fun _ _=>rfl,rfl,rfl,?_,?_⟩
 ·rintro b ⟨k,hk,hb⟩ o
  obtain ⟨⟨k',c⟩,hm',rfl⟩:=List.mem_map.1 hk
  exact ((hl k' c hm').2.1 b (.inl hb)).2 o
 ·intro k c hc
  obtain ⟨h1,h3,h4⟩:=hl k c hc
  exact ⟨h1,fun b hb=>⟨.inr ⟨k,List.mem_map.2 ⟨(k,c),hc,rfl⟩,(h3 b hb).1⟩,(h3 b hb).2⟩,h4⟩
def sorted (zs:List Int):List Int:=zs.mergeSort fun x y=>decide (x ≤ y)
theorem rD {h:PH} {zs:List Int} {xs:List Value} (hr:av h (zs.map eI).flatten xs):xs = zs.map (Value.int .i64) ∧ ∀ z ∈ zs,mz .i64 z:=by
 have e:(zs.map eI).flatten = zs.map CP.i:=by
  clear hr
  induction zs with
  | nil=>rfl
  | cons z zs ih=>simp only [List.map_cons,List.flatten_cons,ih]; rfl
 rw [e] at hr
 clear e
 induction zs generalizing xs with
 | nil=>cases hr; exact ⟨rfl,fun z hz=>by cases hz⟩
 | cons z zs ih=>
  cases hr with
  | cons h1 t=>
   obtain ⟨e1,e2⟩:=ih t
   have h1':_ = Value.int .i64 z ∧ mz .i64 z:=h1
   refine ⟨by rw [h1'.1,e1]; rfl,fun y hy=>?_⟩
   rcases List.mem_cons.1 hy with rfl | hy
   ·exact h1'.2
   ·exact e2 y hy
theorem ri {h:PH} {zs:List Int} (H:∀ z ∈ zs,mz .i64 z):av h (zs.map eI).flatten (zs.map (Value.int .i64)):=by
 induction zs with
 | nil=>exact .nil
 | cons z zs ih=>exact .cons ⟨rfl,H z (by simp)⟩ (ih fun y hy=>H y (by simp [hy]))
theorem uni_I (zs:List Int):bD 1 (zs.map eI):=aS fun _=>rfl
theorem mH {w:World} {b:Nat} {f:Array Value → Array Value} {cur:Array Value} {T:TypeId} {fr:Nat × Nat} (hb:w.heap[b]? = some (.cells cur T fr)):(Sort.mapBlock w b f).heap[b]? = some (.cells (f cur) T fr):=by
 unfold Sort.mapBlock
 simp only [Array.getElem?_modify,if_pos rfl,hb,Option.map_some]
 rfl
theorem jE {w:World} {b c:Nat} {f:Array Value → Array Value} (h:c ≠ b):(Sort.mapBlock w b f).heap[c]? = w.heap[c]?:=by
 unfold Sort.mapBlock
 simp only [Array.getElem?_modify,if_neg (Ne.symm h)]
theorem mF {d:List Int} {cur:Array Value} (h:d.length ≤ cur.size):(Sort.putCells (Value.int .i64) 0 d.toArray cur).toList.take d.length = d.map (Value.int .i64):=by
 apply List.ext_getElem?
 intro i
 unfold Sort.putCells
 rw [List.getElem?_take]
 by_cases hi:i < d.length
 ·rw [if_pos hi,Array.getElem?_toList,Array.getElem?_mapIdx,Array.getElem?_eq_getElem (by omega),Option.map_some,if_pos ⟨by omega,by simpa using hi⟩,List.getElem?_map,List.getElem?_eq_getElem hi,Option.map_some]
  simp [hi]
 ·rw [if_neg hi,List.getElem?_map,List.getElem?_eq_none (by omega)]; rfl
theorem qg {TB:bc} {E:Env TB} {n:Sh} {h:PH} {ρ:RM} {own:List (Nat × OC)} {w:World} (hw:WR E n own h ρ w) {k:Nat} {T:TypeId} {size:Nat} {es:List (List CP)} (hk:lk own k = some (.cp T size es)) :
  bD size es ∧ 0 < size ∧ ((ρ k = .slice none 0 0 ∧ es = []) ∨ ∃ b cap cur,ρ k = .slice (some ⟨b,0,none⟩) es.length cap ∧ w.heap[b]? = some (.cells cur T (0,0)) ∧ es.length ≤ cap ∧ cap ≤ maxLen ∧ cur.size = cap * size ∧
   av h es.flatten (cur.toList.take (es.length * size))):=by
 obtain ⟨hu,hz,xs,⟨hl,how⟩,hr⟩:=(hw.owned k _ (aA hk)).1
 refine ⟨hu,hz,?_⟩
 rcases how with ⟨h1,he⟩ | ⟨b,cap,cur,h1,_,h3,h4,h5,h6,h7⟩
 ·exact .inl ⟨h1,by cases es <;> simp_all⟩
 ·exact .inr ⟨b,cap,cur,h1,h3,h4,h5,h6,by rw [h7]; exact hr⟩
theorem pd {w:World} {b:Nat} {cur:Array Value} {T:TypeId} {zs:List Int} (hb:w.heap[b]? = some (.cells cur T (0,0))) (ht:cur.toList.take zs.length = zs.map (Value.int .i64)):Sort.Holds (Value.int .i64) w b 0 zs.toArray:=by
 intro j hj
 have hj':j < zs.length:=by simpa using hj
 refine ⟨?_,?_⟩
 ·rw [cO hb,Nat.zero_add]
  have:=congrArg (·[j]?) ht
  simp only [List.getElem?_take,if_pos hj',List.getElem?_map,List.getElem?_eq_getElem hj',Option.map_some,Array.getElem?_toList] at this
  rw [this]; simp [hj']
 ·unfold World.frozen?
  rw [hb]; simp
end Go.Sk
namespace Go.Sk
set_option linter.unusedSimpArgs false
set_option linter.unusedVariables false
open Go Go.BigFrame
abbrev bf:=List (Int × Int)
def mI (m:bf):List (Int × BV):=m.map fun p=>(p.1,.one (.i p.2))
def ca (m:bf) (k:Int):Int:=(dZ m k).getD 0
def ct (m:bf) (k:Int):Bool:=(dZ m k).isSome
theorem nB (k:Int):∀ m:bf,dZ (mI m) k = (dZ m k).map fun v=>BV.one (.i v)
 | []=>rfl
 | (a,b) :: r=>by
  show (if k = a then some (BV.one (.i b)) else dZ (mI r) k) = (if k = a then some b else dZ r k).map _
  split
  ·rfl
  ·exact nB k r
theorem pG (k v:Int):∀ m:bf,cZ (mI m) k (.one (.i v)) = mI (cZ m k v)
 | []=>rfl
 | (a,b) :: r=>by
  show (if k = a then (a,BV.one (.i v)) :: mI r else (a,.one (.i b)) :: cZ (mI r) k (.one (.i v))) = mI (if k = a then (a,v) :: r else (a,b) :: cZ r k v)
  split
  ·rfl
  ·rw [pG k v r]; rfl
theorem oc {h:PH} {ρ:RM} {m:bf} {ms:List MapEntry}:eK h ρ (eM .i64 (mI m)) ms ↔ lX m ms:=by
 unfold eK lX eM mI
 rw [List.map_map]
 exact (dE _).trans (eO fun a u=>Iff.rfl)
variable {P:Program} {TB:bc} {E:Env TB} {n:Sh} {s:St} {dst:Option Nat} {t ty yt:TypeId} {pos:String} {after:Array Edge} {g:Option (Nat × Bool)} {x y c:Operand}
theorem nA {h:PH} {ρ:RM} {own:List (Nat × OC)} {w:World} (hw:WR E n own h ρ w) {k:Nat} {m:bf} (hk:lk own k = some (.mq m)) :
  ∃ b ms clk,ρ k = .map (some b) ∧ w.heap[b]? = some (.map ms clk) ∧ eK h ρ (eM .i64 (mI m)) ms.toList ∧ iR clk ms.toList:=by
 obtain ⟨b,ms,clk,h1,h2,h3,h4⟩:=(hw.owned k _ (aA hk)).1
 exact ⟨b,ms,clk,h1,h2,oc.2 h3,h4⟩
theorem p6 {kt et:TypeId} {m:bf} {j:Nat} {k:Int} (ht:mP P t kt et .i64 (.i 0)) (hx:s.ev x = some (.b (.row j))) (hk:lk s.own j = some (.mq m)) (hy:s.ev y = some (.b (.one (.int .i64 k)))) :
  br P E n ⟨dst,.lookup t x y true,ty,pos,after,g⟩ s (s.put n dst (.eo [.one (.i (ca m k)),.one (.bool (ct m k))])) :=
 br.val (o:=⟨dst,.lookup t x y true,ty,pos,after,g⟩) fun ac w h ρ hw hs=>by
  have hv:ac.eval x = ρ j:=(aE hs hx:BV.rel h ρ (.row j) _)
  obtain ⟨b,ms,clk,h1,h2,h3,h4⟩:=nA hw hk
  obtain ⟨v,g1,g2,_⟩:=lK ht h2 h3 k
  rw [nB] at g1 g2
  have e1:((dZ m k).map fun v=>BV.one (.i v)).getD (.one (.i 0)) = .one (.i (ca m k)):=by unfold ca; cases dZ m k <;> rfl
  have e2:((dZ m k).map fun v=>BV.one (.i v)).isSome = ct m k:=by unfold ct; cases dZ m k <;> rfl
  rw [e1] at g1
  rw [e2] at g2
  refine ⟨_,?_,_,rfl,.cons g1 (.cons rfl .nil)⟩
  simp only [execOp,hv,h1,(cb hs hy).1]
  simp [g2]
theorem ep {kt et:TypeId} {m:bf} {j:Nat} {k:Int} (ht:mP P t kt et .i64 (.i 0)) (hx:s.ev x = some (.b (.row j))) (hk:lk s.own j = some (.mq m)) (hy:s.ev y = some (.b (.one (.int .i64 k)))) :
  br P E n ⟨dst,.lookup t x y false,ty,pos,after,g⟩ s (s.put n dst (.b (.one (.i (ca m k))))) :=
 br.val (o:=⟨dst,.lookup t x y false,ty,pos,after,g⟩) fun ac w h ρ hw hs=>by
  have hv:ac.eval x = ρ j:=(aE hs hx:BV.rel h ρ (.row j) _)
  obtain ⟨b,ms,clk,h1,h2,h3,h4⟩:=nA hw hk
  obtain ⟨v,g1,_,g2⟩:=lK ht h2 h3 k
  rw [nB] at g1
  have e1:((dZ m k).map fun v=>BV.one (.i v)).getD (.one (.i 0)) = .one (.i (ca m k)):=by unfold ca; cases dZ m k <;> rfl
  rw [e1] at g1
  refine ⟨_,?_,g1⟩
  simp only [execOp,hv,h1,(cb hs hy).1]
  simp [g2]
theorem gD {kt et:TypeId} {k:Nat} (hu:P.underlying t = some (.map kt et)) (hfx:n.fix.contains k = false) (hnu:bL k s.own = true:=by rfl) :
  br P E n ⟨dst,.makeMap t none,ty,pos,after,g⟩ s ((⟨bg k s.slots,ins k (.mq []) s.own⟩:St).put n dst (.b (.row k))) :=
 br.make (hfx:=hfx) (hnu:=hnu) (o:=⟨dst,.makeMap t none,ty,pos,after,g⟩) fun ac w h ρ hw hs=>by
  refine ⟨.map (some w.heap.size),.map (some w.heap.size),w.alloc (.map #[] 0),none,?_,fun b e=>by simp at e,by simp,rfl,rfl,fun b hb _=>heap_alloc_old w _ hb,⟨w.heap.size,#[],0,rfl,heap_alloc_new w _,.nil,fun e he=>by simp at he,by simp⟩,
   fun b e=>by simp [aw] at e; subst e; exact .inr (Nat.le_refl _),(aN _ _ _).symm⟩
  simp [execOp,Instr.makeMap,newObj,Sem.run,Result.andThen]
theorem WR.setMapI {h:PH} {ρ:RM} {own:List (Nat × OC)} {w:World} (hw:WR E n own h ρ w) {k b:Nat} {m m':bf} {ms ms':Array MapEntry} {clk clk':Nat} (hk:lk own k = some (.mq m)) (hρ:ρ k = .map (some b))
  (hb:w.heap[b]? = some (.map ms clk)) (hr:lX m' ms'.toList) (ho:iR clk' ms'.toList):WR E n (ins k (.mq m') own) h ρ { w with heap:=w.heap.setIfInBounds b (.map ms' clk') }:=by
 have hlt:b < w.heap.size:=by
  rcases Nat.lt_or_ge b w.heap.size with h | h
  ·exact h
  ·simp [Array.getElem?_eq_none h] at hb
 have hst:=hw.step (w':={ w with heap:=w.heap.setIfInBounds b (.map ms' clk') }) k (ρ k) (.mq m') (some b) (fun b' e=>by cases e; exact ⟨_,aA hk,by rw [hρ]; rfl⟩) (by simp) rfl rfl
  (fun b' _ hne=>by
   have:b ≠ b':=fun e=>hne (by rw [e])
   simp [Array.getElem?_setIfInBounds,this]) ⟨b,ms',clk',hρ,by simp [Array.getElem?_setIfInBounds,hlt],hr,ho⟩ (fun b' hb'=>by rw [hρ] at hb'; simp [aw] at hb'; exact .inl (by rw [hb'])) (.inl rfl) (.inl rfl)
 have:fW ρ k (ρ k) = ρ:=by funext j; simp only [fW]; split <;> simp_all
 rwa [this] at hst
theorem iW {kt et:TypeId} {m:bf} {j:Nat} {k v:Int} (ht:mP P t kt et .i64 (.i 0)) (hx:s.ev x = some (.b (.row j))) (hk:lk s.own j = some (.mq m)) (hy:s.ev y = some (.b (.one (.int .i64 k)))) (hc:s.ev c = some (.b (.one (.int .i64 v)))) :
  br P E n ⟨none,.mapUpdate t x y c,ty,pos,after,g⟩ s ⟨s.slots,ins j (.mq (cZ m k v)) s.own⟩ :=
 br.store (o:=⟨none,.mapUpdate t x y c,ty,pos,after,g⟩) rfl fun ac w h ρ hw hs=>by
  have hv:ac.eval x = ρ j:=(aE hs hx:BV.rel h ρ (.row j) _)
  obtain ⟨b,ms,clk,h1,h2,h3,h4⟩:=nA hw hk
  obtain ⟨hy1,hy2⟩:=cb hs hy
  have hcr:(BV.one (.i v)).rel h ρ (ac.eval c):=aE hs hc
  obtain ⟨ms',clk',g1,g2,g3⟩:=og ht h2 h3 h4 k hy2 hcr
  rw [pG] at g2
  refine ⟨_,?_,hw.setMapI hk h1 h2 (oc.1 g2) g3⟩
  simp only [execOp,hv,h1,hy1]
  simp [g1]
end Go.Sk
namespace Go.Sk
set_option linter.unusedSimpArgs false
set_option linter.unusedVariables false
open Go Go.BigFrame
variable {P:Program} {TB:bc} {E:Env TB} {n:Sh} {s:St} {dst:Option Nat} {t ty yt:TypeId} {pos:String} {after:Array Edge} {g:Option (Nat × Bool)} {x y c:Operand} {ops:Array Oper} {l:List Oper} {Q:bU} {cd:Code}
end Go.Sk
namespace Go.Sk
set_option linter.unusedSimpArgs false
set_option linter.unusedVariables false
open Go Go.BigFrame
def CP.slf (size:Nat) (es:List (List CP)):CP :=
  ⟨fun h v=>bD size es ∧ 0 < size ∧ ((v = .slice none 0 0 ∧ es = []) ∨ (∃ b o,v = .slice (some ⟨b,o,none⟩) es.length es.length ∧ es.length ≤ maxLen ∧ Reads h b o es.flatten) ∨ (∃ a,v = .slice (some a) 0 0 ∧ es = [])),
   fun hl x=>⟨x.1,x.2.1,x.2.2.imp id (Or.imp (fun ⟨b,o,h1,h2,h3⟩=>⟨b,o,h1,h2,h3.mono hl⟩) id)⟩,
   fun x=>by rcases x.2.2 with ⟨h,_⟩ | ⟨_,_,h,_⟩ | ⟨_,h,_⟩ <;> rw [h] <;> rfl⟩
variable {P:Program} {TB:bc} {E:Env TB} {n:Sh} {s:St} {dst:Option Nat} {t ty yt:TypeId} {pos:String} {after:Array Edge} {g:Option (Nat × Bool)} {x y c:Operand} {ops:Array Oper} {l:List Oper} {Q:bU} {cd:Code}
theorem nM {h:PH} {ρ:RM} {w:World} (hw:WR E n s.own h ρ w) {size bytes:Nat} {e:TypeId} {zs:List CP} {es news:List (List CP)} {u v:Value} (ht:ec P t e size bytes zs) (hx:(CP.slf size es).rel h u)
  (hsrc:Src w v h size news) (hb:(es.length + news.length) * bytes ≤ 140737488355328) (hm:es.length + news.length ≤ maxLen) (hne:0 < news.length) :
  ∃ v' w',(Builtin.append_ #[t,t] ty #[u,v]).run P w = .ok v' w' ∧ w.heap.size ≤ w'.heap.size ∧ w'.os = w.os ∧ w'.output = w.output ∧ (∀ b,b < w.heap.size → w'.heap[b]? = w.heap[b]?) ∧
   (OC.row e size (es ++ news)).ok h ρ v' w' ∧ (∀ b,aw v' = some b → w.heap.size ≤ b):=by
 obtain ⟨hu,hz,hf⟩:=hx
 obtain ⟨i,z,h1,h2,h3,h4,h5,h6,h7⟩:=ht.info
 subst h2
 subst h3
 have hzs:z.cells.size = i.size:=h5
 rcases hsrc.form with ⟨_,hn0⟩ | ⟨ad,c,cs,rfl,hl,hc1,hc2⟩
 ·rw [hn0] at hne; simp at hne
 have hlen:cs.length = news.length * i.size:=by rw [← hc1.length,cx hsrc.uni]
 have hnews:∀ j u,cs[j]? = some u → w.cell? (ad.add j) = some u:=hc2
 have hsmall:es.length + news.length ≤ 9223372036854775807:=by rw [cB] at hm; exact hm
 have grown:∀ (xs:List Value) (fX:Nat),xs.length = es.length * i.size → av h es.flatten xs →
   (OC.row e i.size (es ++ news)).ok h ρ (.slice (some ⟨w.heap.size,0,none⟩) (es.length + news.length) (grownCap w (es.length + news.length) fX e)) (w.drew.alloc (.cells (xs.toArray ++ cs.toArray ++ Builtin.zeroCells z.cells (grownCap w (es.length + news.length) fX e - (es.length + news.length))) e)):=by
  intro xs fX hxl hxr
  have hge:=grownCap_ge w (es.length + news.length) fX e
  have hcm:grownCap w (es.length + news.length) fX e ≤ maxLen:=grownCap_le_maxLen w (es.length + news.length) fX e hm
  have hlen2:(xs ++ cs).length = (es.length + news.length) * i.size:=by rw [List.length_append,hxl,hlen,Nat.add_mul]
  refine ⟨?_,hz,xs ++ cs,⟨by rw [hlen2,List.length_append],.inr ⟨w.heap.size,_,_,by rw [List.length_append],Nat.zero_le _,heap_alloc_new w.drew _,by rw [List.length_append]; exact hge,hcm,?_,?_⟩⟩,by rw [List.flatten_append]; exact aI.append hxr hc1⟩
  ·intro ps hps
   rcases List.mem_append.1 hps with h | h
   ·exact hu ps h
   ·exact hsrc.uni ps h
  ·simp only [Array.size_append,List.size_toArray,size_zeroCells,hzs,hxl,hlen,← Nat.add_mul]
   congr 1
   omega
  ·simp only [Array.toList_append,List.append_assoc]
   rw [← List.append_assoc,List.length_append,← hlen2]
   exact List.take_left
 rcases hf with ⟨rfl,rfl⟩ | ⟨b',o',rfl,h8,h9⟩ | ⟨a2,rfl,rfl⟩
 rotate_left 2
 ·have hr:=run_append_grow (P:=P) w t ty e i z ht.und h1 h4 a2 0 0 [] (by simp) (fun j u hu=>by simp at hu) ad news.length c cs hlen hnews (by omega) (by simp at hsmall; omega) (growslice_fits (by omega) (by simp at hb; simpa using hb))
  have hg:=grown [] 0 (by simp) .nil
  simp only [List.length_nil,Nat.zero_add,List.nil_append,Array.empty_append] at hg hr
  refine ⟨_,_,hr,by simp,rfl,rfl,fun k hk=>heap_alloc_old w.drew _ hk,by simpa using hg,fun k hk=>by simp [aw] at hk; omega⟩
 ·have hr:=run_append_nil (P:=P) w t ty e i z ht.und h1 h4 ad news.length c cs hlen hnews hne (by simp at hsmall; omega) (by simp at hb; omega)
  have hg:=grown [] 0 (by simp) .nil
  simp only [List.length_nil,Nat.zero_add,List.nil_append,Array.empty_append] at hg
  refine ⟨_,_,hr,by simp,rfl,rfl,fun k hk=>heap_alloc_old w.drew _ hk,by simpa using hg,fun k hk=>by simp [aw] at hk; omega⟩
 ·obtain ⟨xs,g1,g2⟩:=h9.list
  have hxl:xs.length = es.length * i.size:=by rw [← g1.length,cx hu]
  have holds:∀ j u,xs[j]? = some u → w.cell? ((⟨b',o',none⟩:Addr).add j) = some u:=fun j u hu=>by rw [Addr.add_lit]; exact hw.agree.cell (g2 j u hu) (g1.one u (List.mem_of_getElem? hu))
  have hr:=run_append_grow (P:=P) w t ty e i z ht.und h1 h4 ⟨b',o',none⟩ es.length es.length xs hxl holds ad news.length c cs hlen hnews (by omega) (by omega) (growslice_fits (by omega) hb)
  exact ⟨_,_,hr,by simp,rfl,rfl,fun k hk=>heap_alloc_old w.drew _ hk,grown xs es.length hxl g1,fun k hk=>by simp [aw] at hk; omega⟩
theorem ot {k j size bytes:Nat} {e:TypeId} {zs:List CP} {es news es':List (List CP)} (ht:ec P t e size bytes zs) (hb:(es.length + news.length) * bytes ≤ 140737488355328) (hm:es.length + news.length ≤ 9223372036854775807) (hne:0 < news.length)
  (hx:s.ev x = some (.b (.one (.slf size es)))) (hy:s.ev y = some (.b (.row j))) (hj:lk s.own j = some (.row e size news)) (he:es ++ news = es') (hfx:n.fix.contains k = false) (hnu:bL k s.own = true:=by rfl) :
  br P E n ⟨dst,.call ⟨.builtin .append,#[x,y],#[t,t]⟩,ty,pos,after,g⟩ s ((⟨bg k s.slots,ins k (.row e size es') s.own⟩:St).put n dst (.b (.row k))) :=
 br.make (hfx:=hfx) (hnu:=hnu) (o:=⟨dst,.call ⟨.builtin .append,#[x,y],#[t,t]⟩,ty,pos,after,g⟩) fun ac w h ρ hw hs=>by
  subst he
  have hv:=(aE hs hx:(CP.slf size es).rel h _)
  have hu:ac.eval y = ρ j:=(aE hs hy:BV.rel h ρ (.row j) _)
  obtain ⟨v',w',hrun,h1,h2,h3,h4,h5,h6⟩:=nM (ty:=ty) hw ht hv (Src.nj hw hj) hb (by rw [cB]; exact hm) hne
  refine ⟨v',v',w',none,?_,fun b hb=>by simp at hb,h1,h2,h3,fun b hb _=>h4 b hb,h5.nN (fun i hi=>by rw [OC.iV rfl] at hi; simp at hi),fun b hb=>.inr (h6 b hb),(aN _ _ _).symm⟩
  rw [execOp_builtin,builtin_append]
  simp [hu,hrun]
end Go.Sk
namespace Go.Sk
set_option linter.unusedSimpArgs false
set_option linter.unusedVariables false
open Go Go.BigFrame
def ko (o:Oper):Bool:=match o.op with
 | .defer _=>false
 | _=>true
theorem rq {o:Oper} (h:ko o = true):∀ c,o.op ≠ .defer c:=fun c e=>by simp [ko,e] at h
abbrev rnd (l:Nat):Fence:=Fence.wide.inRound l
section
variable {P:Program} {TB:bc} {E:Env TB} {n:Sh} {ops:Array Oper} {is:List Nat} {s s':St} {Q:bU} {i:Nat} {o:Oper} {c x y:Code} {l₀:Nat}
theorem p4 {F:Fence} (hf:F = Fence.wide ∨ ∃ l,F = rnd l) {m:Nat} {row:String} {args:Array Value} {w:World} {R:Value → World → Prop} (h:Rows P row args w R):RowsIn F m P row args w R:=by
 intro c cs _
 obtain ⟨v,w',hr,hs⟩:=h c cs
 rcases hf with rfl | ⟨l,rfl⟩
 ·exact ⟨v,w',hr,stepsIn_wide.2 hs⟩
 ·exact ⟨v,w',hr,stepsIn_wide.2 hs⟩
theorem pg {F:Fence} (hf:F = Fence.wide ∨ ∃ l,F = rnd l) {m:Nat} {f:FuncId} {args:Array Value} {w:World} {R:Ending → World → Prop} (h:Calls P f args w R):CallsIn F m P f args w R:=by
 rcases hf with rfl | ⟨l,rfl⟩
 ·exact callsIn_wide.2 h
 ·exact CallsIn.inRound l (callsIn_wide.2 h)
theorem pE {F:Fence} (hf:F = Fence.wide ∨ ∃ l,F = rnd l) (hd:ko o = true) {a:Act} {w:World} {K K':Act → World → Prop} (hk:∀ a w,K a w → K' a w) (h:o.wp P a w K Q):o.wpIn F 0 P a w K' Q:=by
 have hdep:F.depth = none:=by rcases hf with rfl | ⟨l,rfl⟩ <;> rfl
 refine ⟨fun f _=>by rcases hf with rfl | ⟨l,rfl⟩ <;> trivial,?_⟩
 rw [Oper.semAt_eq _ _ _ (rq hd)]
 unfold Oper.wp at h
 generalize (execOp a.eval o).run P w = r at *
 have hdn:F.depth.isSome = true → 1 ≤ 0:=fun e=>by rw [hdep] at e; simp at e
 cases r with
 | ok nx w'=>
  cases nx with
  | value v=>exact hk _ _ h
  | skip=>exact hk _ _ h
  | defer d=>exact hk _ _ h
  | enter f args=>
   refine ⟨hdn,pg hf (Calls.mono h fun e w'' he=>?_)⟩
   cases e with
   | returned v=>exact hk _ _ he
   | panicked ch=>exact he
   | outgrown=>exact he
  | row row args=>exact ⟨hdn,p4 hf (Rows.mono h fun _ _ he=>hk _ _ he)⟩
  | _=>exact h.elim
 | halt q w'=>cases q <;> first | exact h | exact h.elim
theorem iU {F:Fence} (hf:F = Fence.wide ∨ ∃ l,F = rnd l) (hd:∀ (i:Nat) (o:Oper),ops[i]? = some o → ko o = true) (hQ:¬ LetsOut Q):∀ (is:List Nat) (a:Act) (w:World),wpOps P ops Q is a w → wpOpsIn F 0 P ops Q is a w
 | [],a,w,h=>h
 | i :: is,a,w,h=>by
  simp only [wpOps] at h
  simp only [wpOpsIn]
  cases ho:ops[i]? with
  | none=>simp only [ho] at h; exact iU hf hd hQ is a w h
  | some o=>
   simp only [ho] at h
   simp only
   split
   ·rename_i hw
    simp only [hw,if_true] at h
    rcases h with h | h
    ·exact pE hf (hd i o ho) (fun a w=>iU hf hd hQ is a w) h
    ·exact absurd h.2 hQ
   ·rename_i hw
    simp only [hw] at h
    refine ⟨fun f _=>by rcases hf with rfl | ⟨l,rfl⟩ <;> trivial,iU hf hd hQ is _ w h⟩
def dH (P:Program) {TB:bc} (E:Env TB) (n:Sh) (F:Fence) (c:Code) (s:St) (Q:bU):Prop:=¬ LetsOut Q → ∀ a w,R E n s a w → c.wpIn F 0 P Q a w
variable {F:Fence}
theorem rC {K:Act → World → Prop} (h:¬ LetsOut Q):¬ LetsOut (Exit.then K Q):=fun ⟨a,w,hq⟩=>h ⟨a,w,hq⟩
theorem qc {id:Nat} (h:¬ LetsOut Q):¬ LetsOut (Exit.inBlock id Q):=fun ⟨a,w,hq⟩=>h ⟨a,w,hq⟩
theorem dH.keep (ks kos:List Nat) (hs:s.keep ks kos = s') (h:dH P E n F c s' Q):dH P E n F c s Q:=fun hq a w hr=>h hq a w (hs ▸ hr.keep ks kos)
theorem dH.seq (h:dH P E n F x s (Exit.then (y.wpIn F 0 P Q) Q)):dH P E n F (.seq x y) s Q:=fun hq a w hr=>wpIn_seq (h (rC hq) a w hr)
theorem dH.skip (h:Fin E n .normal s Q):dH P E n F .skip s Q:=fun _ a w hr=>wpIn_skip (h a w hr)
theorem dH.ret (h:Fin E n .ret s Q):dH P E n F .ret s Q:=fun _ a w hr=>wpIn_ret (h a w hr)
theorem dH.exit {id:Nat} (h:Fin E n (.exit id) s Q):dH P E n F (.exit id) s Q:=fun _ a w hr=>wpIn_exit (h a w hr)
theorem dH.block {id:Nat} (h:dH P E n F c s (Exit.inBlock id Q)):dH P E n F (.block id c) s Q:=fun hq a w hr=>wpIn_block (h (qc hq) a w hr)
theorem dH.cond {t:Nat} {b:Bool} (hs:s.get t = some (.b (.one (.bool b)))) (h1:b = true → dH P E n F x s Q) (h2:b = false → dH P E n F y s Q):dH P E n F (.cond (.tmp t) x y) s Q:=by
 intro hq a w hr
 obtain ⟨hdf,hn,h,ρ,hw,hsl⟩:=id hr
 have:a.eval (.tmp t) = .bool b:=aE hsl (o:=.tmp t) hs
 exact wpIn_cond_split this (fun e=>h1 e hq a w hr) (fun e=>h2 e hq a w hr)
theorem dH.ite {α:Type} {t:Nat} {b:Bool} {p q:Option α} {r:α} (h:(if b = true then p else q) = some r) (hs:s.get t = some (.b (.one (.bool b)))) (h1:b = true → p = some r → dH P E n F x s Q) (h2:b = false → q = some r → dH P E n F y s Q):dH P E n F (.cond (.tmp t) x y) s Q :=
 dH.cond hs (fun e=>h1 e (by rw [if_pos e] at h; exact h)) (fun e=>h2 e (by rw [if_neg (by simp [e])] at h; exact h))
theorem dH.aa {id:Nat} {l:List Oper} (hf:F = Fence.wide ∨ ∃ l,F = rnd l) (h:ae P E n l.toArray l s Q) (hd:l.all ko = true:=by rfl):dH P E n F (.region id l.toArray false) s Q:=by
 intro hq a w hr
 refine wpIn_region ?_
 have:=fP (P:=P) (ops:=l.toArray) (Q:=Q) l 0 (fun j=>by simp) a w (h a w hr)
 refine iU hf (fun i o ho=>?_) hq _ a w (by simpa [List.range_eq_range'] using this)
 exact List.all_eq_true.1 hd o (by simpa using List.mem_of_getElem? (by simpa using ho))
theorem dH.ofA {id:Nat} {l:List Oper} (hf:F = Fence.wide ∨ ∃ l,F = rnd l) (hm:P.follows .mixedOrders = true) (h:mC P E n l.toArray s Q) (hd:l.all ko = true:=by rfl):dH P E n F (.region id l.toArray true) s Q:=by
 intro hq a w hr
 refine wpIn_region_draw fun t=>?_
 refine iU hf (fun i o ho=>?_) hq _ a _ ?_
 ·exact List.all_eq_true.1 hd o (by simpa using List.mem_of_getElem? (by simpa using ho))
 ·simp only [Region.schedule,hm,Bool.true_or,if_true]
  exact wpAny_sound _ t _ a _ (h a w hr)
theorem dH.kC {rid:Nat} {ops:List Oper} (hf:F = Fence.wide ∨ ∃ l,F = rnd l) (hm:P.follows .mixedOrders = true) (m:Nat) (Fs:List SV) (ks kos:List Nat) (hok:okX (ops.take m) (ops.drop m) n.n = true) (hst:jZ P E n ops.toArray s (ops.take m) Fs 0 (ops.take m) Fs)
  {s2:St} (htl:lG P E n ops.toArray (ops.drop m) ⟨(s.slots.filter fun p=>!(eE (ops.take m)).contains p.1) ++ aU (fun _=>true) 0 (ops.take m) Fs,s.own⟩ s2) (hs:s2.keep ks kos = s') (h:Fin E n .normal s' Q) (hd:ops.all ko = true:=by rfl):dH P E n F (.region rid ops.toArray true) s Q :=
 dH.ofA hf hm (mC.X _ _ (List.take_append_drop m ops) Fs ks kos hok hst htl hs h) hd
theorem dH.fC {rid:Nat} {ops:List Oper} (hf:F = Fence.wide ∨ ∃ l,F = rnd l) (hm:P.follows .mixedOrders = true) (isW:List Bool) (Fs:List SV) (tab:List jF) {σ0 σf:jF} (hok:(fp 0 ops && gf (eE ops) && (eE ops).all (· < n.n) && (isW.length == ops.length)) = true)
  (htab:ng P E n isW tab ops Fs tab) (h0:fK tab (List.replicate ops.length false) = some σ0) (hs0:s = ⟨σ0.base,σ0.own⟩) (hf':fK tab isW = some σf) (ks kos:List Nat)
  (hs:(⟨σf.base ++ aU (nb σf.live) 0 ops Fs,σf.own⟩:St).keep ks kos = s') (h:Fin E n .normal s' Q) (hd:ops.all ko = true:=by rfl):dH P E n F (.region rid ops.toArray true) s Q :=
 dH.ofA hf hm (mC.W isW Fs tab hok htab h0 hs0 hf' ks kos hs h) hd
end
end Go.Sk
namespace Go.Sk
set_option linter.unusedSimpArgs false
set_option linter.unusedVariables false
open Go Go.BigFrame
def oK:Obj → Bool
 | .deferred _=>true
 | .loop _=>true
 | _=>false
section
variable {P:Program} {TB:bc} {E:Env TB} {n:Sh} {own own':List (Nat × OC)} {h h':PH} {ρ ρ':RM} {w w':World}
theorem OC.ok.rn {c:OC} {v:Value} (hc:c.ok h ρ v w) {b:Nat} (hf:c.bd v w b) {o:Obj} (ho:w.heap[b]? = some o):oK o = false:=by
 have hrow:∀ {e:TypeId} {size n:Nat} {u:Value} {xs:List Value},w.ownsRow 0 e size u n xs → aw u = some b → oK o = false:=fun {e size n u xs} hh hb=>by
  rcases hh.2 with ⟨rfl,_⟩ | ⟨g,cap,cur,rfl,h1,h2,h3⟩
  ·simp [aw] at hb
  ·simp [aw] at hb; subst hb; rw [h2] at ho; cases ho; rfl
 rcases hf with hb | hi
 rotate_left
 ·cases c with
  | rr T e size hole ess=>
   obtain ⟨us,x⟩:=hc
   obtain ⟨i,u,h1,h2,h3⟩:=x.inner.1 hi
   obtain ⟨es,hes⟩:∃ es,ess[i]? = some es:=by
    have h4:i < us.length:=(List.getElem?_eq_some_iff.1 h1).1
    have h5:=x.out.1
    exact ⟨_,List.getElem?_eq_getElem (by omega)⟩
   obtain ⟨xs,h6,_⟩:=(x.rows i u es h1 hes h2).row
   exact hrow h6 h3
  | fL j m rest cur=>
   obtain ⟨b',ms,clk,D,seen,x⟩:=hc
   obtain ⟨D',s1,s2,s3,h1,h2⟩:=hi
   rw [x.ptr] at h1
   cases h1
   rw [x.it] at h2
   cases h2
   rw [x.obj] at ho
   cases ho
   rfl
  | _=>exact hi.elim
 cases c with
 | rr T e size hole ess=>obtain ⟨us,x⟩:=hc; exact hrow x.out hb
 | fL j m rest cur=>obtain ⟨b',ms,clk,D,seen,x⟩:=hc; rw [x.ptr] at hb; cases hb; rw [x.it] at ho; cases ho; rfl
 | box T ps=>obtain ⟨b',cur,rfl,h2,h3⟩:=hc; simp [aw] at hb; subst hb; rw [h2] at ho; cases ho; rfl
 | sit q pos=>obtain ⟨b',rfl,h2,h3⟩:=hc; simp [aw] at hb; subst hb; rw [h2] at ho; cases ho; rfl
 | mp es=>obtain ⟨b',ms,clk,rfl,h2,h3⟩:=hc; simp [aw] at hb; subst hb; rw [h2] at ho; cases ho; rfl
 | mq m=>obtain ⟨b',ms,clk,rfl,h2,h3⟩:=hc; simp [aw] at hb; subst hb; rw [h2] at ho; cases ho; rfl
 | ao T ps=>obtain ⟨b',cur,rfl,h2,h3⟩:=hc; simp [aw] at hb; subst hb; rw [h2] at ho; cases ho; rfl
 | row T size es=>
  obtain ⟨hu,hz,xs,⟨hl,hh⟩,hr⟩:=hc
  rcases hh with ⟨rfl,_⟩ | ⟨g,cap,cur,rfl,h1,h2,h3⟩
  ·simp [aw] at hb
  ·simp [aw] at hb; subst hb; rw [h2] at ho; cases ho; rfl
 | cp T size es=>
  obtain ⟨hu,hz,xs,⟨hl,hh⟩,hr⟩:=hc
  rcases hh with ⟨rfl,_⟩ | ⟨g,cap,cur,rfl,h1,h2,h3⟩
  ·simp [aw] at hb
  ·simp [aw] at hb; subst hb; rw [h2] at ho; cases ho; rfl
 | fA T size es=>
  obtain ⟨hu,hz,xs,⟨hl,hh⟩,hr⟩:=hc
  rcases hh with ⟨rfl,_⟩ | ⟨g,off,cap,cur,rfl,h2,h3⟩
  ·simp [aw] at hb
  ·simp [aw] at hb; subst hb; rw [h2] at ho; cases ho; rfl
def mN (fx:List Nat) (own:List (Nat × OC)):Bool:=(fx.all fun k=>(aQ own).contains k) && own.all fun p=>p.2.plain
theorem m7 {fx:List Nat} {own:List (Nat × OC)} (h:mN fx own = true):∀ k,k ∈ fx → k ∈ aQ own:=fun k hk=>by
 simp only [mN,Bool.and_eq_true,List.all_eq_true] at h
 simpa using h.1 k hk
theorem lM {fx:List Nat} {own:List (Nat × OC)} (h:mN fx own = true):∀ k c,(k,c) ∈ own → c.plain = true:=fun k c hk=>by
 simp only [mN,Bool.and_eq_true,List.all_eq_true] at h
 exact h.2 _ hk
theorem WR.self (hw:WR E n own h ρ w) (hp:∀ k c,(k,c) ∈ own → c.plain = true) (m:Nat) (d:List Deferred):WR (⟨w,h,ρ,hw.nO⟩:Env TB) ⟨m,aQ own,aj own,d⟩ own h ρ w :=
 WR.sh (n:=⟨0,aQ own,aj own,[]⟩) rfl rfl (l6 hw.nO hw.agree (nC hw (fun _ _ hk=>hk) hp))
theorem WR.all {tb:dh TB h w} {m:Nat} {d:List Deferred} (hw:WR E n own h ρ w) (hc:WR (⟨w,h,ρ,tb⟩:Env TB) ⟨m,aQ own,aj own,d⟩ own' h' ρ' w') (hf:∀ k,k ∈ n.fix → k ∈ aQ own):WR E n own' h' ρ' w':=by
 have hlent:∀ b,iK (⟨w,h,ρ,tb⟩:Env TB) ⟨m,aQ own,aj own,d⟩ b → E.w0.heap.size ≤ b ∨ iK E n b:=fun b ⟨k,hk,hb⟩=>by
  obtain ⟨⟨k',c⟩,hm,rfl⟩:=List.mem_map.1 hk
  exact ((hw.owned k' c hm).2.1 b (.inl hb)).1
 have hnl:∀ b,b < E.w0.heap.size → ¬ iK E n b → ¬ iK (⟨w,h,ρ,tb⟩:Env TB) ⟨m,aQ own,aj own,d⟩ b:=fun b hb hl hl'=>by
  rcases hlent b hl' with h1 | h1
  ·omega
  ·exact hl h1
 refine ⟨hc.agree,PH.le_trans hw.le hc.le,fun b hb hl=>?_,Nat.le_trans hw.size hc.size,fun b hb hl=>?_,fun k hk=>?_,hc.os.trans hw.os,hc.out.trans hw.out,hw.nl,fun k c hk=>?_⟩
 ·exact (hc.fresh b (Nat.lt_of_lt_of_le hb hw.size) (hnl b hb hl)).trans (hw.fresh b hb hl)
 ·exact (hc.same b (Nat.lt_of_lt_of_le hb hw.size) (hnl b hb hl)).trans (hw.same b hb hl)
 ·exact (hc.fixed k (hf k hk)).trans (hw.fixed k hk)
 ·obtain ⟨e1,e2,e3⟩:=hc.owned k c hk
  refine ⟨e1,fun b hb=>⟨?_,(e2 b hb).2⟩,e3⟩
  rcases (e2 b hb).1 with h1 | h1
  ·exact .inl (Nat.le_trans hw.size h1)
  ·exact hlent b h1
theorem WR.none {tb:dh TB h w} {m:Nat} {d:List Deferred} {ρ1:RM} (hw:WR E n own h ρ w) (hc:WR (⟨w,h,ρ1,tb⟩:Env TB) ⟨m,[],[],d⟩ own' h' ρ' w'):WR E n own h' ρ w':=by
 have hnl:∀ b,¬ iK (⟨w,h,ρ1,tb⟩:Env TB) ⟨m,[],[],d⟩ b:=fun b ⟨k,hk,_⟩=>by simp at hk
 refine ⟨hc.agree,PH.le_trans hw.le hc.le,fun b hb hl=>?_,Nat.le_trans hw.size hc.size,fun b hb hl=>?_,hw.fixed,hc.os.trans hw.os,hc.out.trans hw.out,hw.nl,fun k c hk=>?_⟩
 ·exact (hc.fresh b (Nat.lt_of_lt_of_le hb hw.size) (hnl b)).trans (hw.fresh b hb hl)
 ·exact (hc.same b (Nat.lt_of_lt_of_le hb hw.size) (hnl b)).trans (hw.same b hb hl)
 ·obtain ⟨e1,e2,e3⟩:=hw.owned k c hk
  have hft:∀ j x,(j,x) ∈ own → ∀ b,x.bd (ρ j) w' b → x.bd (ρ j) w b:=fun j x hj b=>OC.bd.congr fun b hb=>hc.same b ((hw.owned j x hj).1.lt (.inl hb)) (hnl b)
  refine ⟨(e1.congr fun b hb=>hc.same b (e1.lt hb) (hnl b)).mono hc.le,fun b hb=>⟨(e2 b (hft k c hk b hb)).1,fun o=>?_⟩,fun j x hj hjk b hb hb'=>e3 j x hj hjk b (hft k c hk b hb) (hft j x hj b hb')⟩
  have e:=hc.fresh b (e1.lt (hft k c hk b hb)) (hnl b)
  rw [e]
  exact (e2 b (hft k c hk b hb)).2 o
end
end Go.Sk
namespace Go.Sk
set_option linter.unusedSimpArgs false
set_option linter.unusedVariables false
open Go Go.BigFrame
def CP.bS (f:Nat) (ps:List CP):CP :=
  ⟨fun h v=>∃ vs:List Value,v = .func (.func f) #[] vs.toArray ∧ aI (fun (p:CP) u=>p.rel h u) ps vs,
   fun hl ⟨vs,e,ha⟩=>⟨vs,e,aI.mono ha fun p _=>p.mono hl⟩,fun ⟨vs,e,_⟩=>by rw [e]; rfl⟩
def each {α ι β:Type} (B:ι → α → Option (ι ⊕ β)):List α → ι → Option (ι ⊕ β)
 | [],v=>some (.inl v)
 | x :: xs,v=>match B v x with
  | none=>none
  | some (.inl v')=>each B xs v'
  | some (.inr y)=>some (.inr y)
def mark (D:Nat):Deferred:={ target:=.collected D,args:=#[] }
section
variable {P:Program} {TB:bc} {E:Env TB} {n:Sh} {s s':St} {Q:bU} {x y assign body:Code}
theorem mw {own:List (Nat × OC)} {h:PH} {ρ:RM} {w:World} (hw:WR E n own h ρ w) {D:Nat} {o:Obj} (hD:w.heap[D]? = some o) (hi:oK o = true) {tb:dh TB h w} {m:Nat} {bk:List Nat} {d:List Deferred}:¬ iK (⟨w,h,ρ,tb⟩:Env TB) ⟨m,bk,aj own,d⟩ D:=fun ⟨k,hk,hb⟩=>by
 obtain ⟨⟨k',c⟩,hm,rfl⟩:=List.mem_map.1 hk
 have:=(hw.owned k' c hm).1.rn (.inl hb) hD
 rw [this] at hi
 simp at hi
theorem qb {w:World} {D:Nat} {o:Obj} (hD:w.heap[D]? = some o):D < w.heap.size:=(Array.getElem?_eq_some_iff.1 hD).1
def RD {TB:bc} (E:Env TB) (n:Sh) (D:Nat) (s:St) (a:Act) (w:World):Prop :=
 a.defers = [mark D] ∧ a.tmps.size = n.n ∧ w.heap[D]? = some (.deferred (some [])) ∧ E.w0.heap.size ≤ D ∧ ∃ h ρ,WR E n s.own h ρ w ∧ a7 h ρ s.slots a.tmps
end
end Go.Sk
namespace Go.Sk
set_option linter.unusedSimpArgs false
set_option linter.unusedVariables false
open Go Go.BigFrame
section
variable {P:Program} {TB:bc} {E:Env TB} {n:Sh} {s s':St} {Q:bU} {x y assign body cd:Code}
def RetM (P:Program) (fn:Func) {TB:bc} (E:Env TB) (n:Sh) (post:eY):bU
 | .normal,a,w=>∃ D,a.defers = [mark D] ∧ w.heap[D]? = some (.deferred (some [])) ∧ E.w0.heap.size ≤ D ∧ ∃ v,(∀ w₂,bX w w₂ → (results fn a.tmps).run P w₂ = .ok v w₂) ∧ kU E n post (.returned v) w
 | .ret,a,w=>∃ D,a.defers = [mark D] ∧ w.heap[D]? = some (.deferred (some [])) ∧ E.w0.heap.size ≤ D ∧ ∃ v,(∀ w₂,bX w w₂ → (results fn a.tmps).run P w₂ = .ok v w₂) ∧ kU E n post (.returned v) w
 | _,_,_=>False
theorem RD.rest {fn:Func} {post:eY} {D:Nat} {a:Act} {w:World} (hr:RD E n D s a w) (hf:mN n.fix s.own = true) (h:∀ E':Env TB,ab P E' ⟨n.n,aQ s.own,aj s.own,[mark D]⟩ y s (Ret P fn E' ⟨n.n,aQ s.own,aj s.own,[mark D]⟩ post)):y.wp P (RetM P fn E n post) a w:=by
 obtain ⟨h1,h2,h3,h4,hh,ρ,hw,hs⟩:=hr
 refine wp_mono (h ⟨w,hh,ρ,hw.nO⟩ a w ⟨h1,h2,hh,ρ,hw.self (lM hf) _ _,hs⟩) ?_
 have key:∀ (a':Act) (w':World),(a'.defers = [mark D] ∧ ∃ v,(∀ w₂,bX w' w₂ → (results fn a'.tmps).run P w₂ = .ok v w₂) ∧ kU (⟨w,hh,ρ,hw.nO⟩:Env TB) ⟨n.n,aQ s.own,aj s.own,[mark D]⟩ post (.returned v) w') →
   ∃ D,a'.defers = [mark D] ∧ w'.heap[D]? = some (.deferred (some [])) ∧ E.w0.heap.size ≤ D ∧ ∃ v,(∀ w₂,bX w' w₂ → (results fn a'.tmps).run P w₂ = .ok v w₂) ∧ kU E n post (.returned v) w':=by
  rintro a' w' ⟨g1,v,g2,v',own',res,h',ρ',e1,e2,e3,e4⟩
  refine ⟨D,g1,(e3.same D (qb h3) (mw hw h3 rfl)).trans h3,h4,v,g2,v',own',res,h',ρ',e1,e2,hw.all e3 fun k hk=>?_,e4⟩
  exact m7 hf k hk
 rintro (_ | _ | _ | _ | _ | _) a' w' h'
 all_goals first | exact key a' w' h' | exact h'.elim
theorem RD.ret {fn:Func} {post:eY} {D:Nat} {a:Act} {w:World} (hr:RD E n D s a w) (hf:mN n.fix s.own = true) (h:∀ E':Env TB,Fin E' ⟨n.n,aQ s.own,aj s.own,[mark D]⟩ .ret s (Ret P fn E' ⟨n.n,aQ s.own,aj s.own,[mark D]⟩ post)):RetM P fn E n post .ret a w:=by
 obtain ⟨h1,h2,h3,h4,hh,ρ,hw,hs⟩:=hr
 obtain ⟨g1,v,g2,v',own',res,h',ρ',e1,e2,e3,e4⟩:=h ⟨w,hh,ρ,hw.nO⟩ a w ⟨h1,h2,hh,ρ,hw.self (lM hf) _ _,hs⟩
 refine ⟨D,h1,h3,h4,v,g2,v',own',res,h',ρ',e1,e2,hw.all e3 fun k hk=>?_,e4⟩
 exact m7 hf k hk
end
section
variable {P:Program} {TB:bc} {E:Env TB} {n:Sh} {s:St} {dst:Option Nat} {t ty yt:TypeId} {pos:String} {after:Array Edge} {g:Option (Nat × Bool)} {x y c:Operand}
theorem WR.allocR {own:List (Nat × OC)} {h:PH} {ρ:RM} {w:World} (hw:WR E n own h ρ w) {cs:List Value} {T:TypeId} (h1:∀ u ∈ cs,u.oneCell' = true):WR E n own (bV h w.heap.size cs) ρ (w.alloc (.cells cs.toArray T)) ∧ h.le (bV h w.heap.size cs):=by
 have hno:∀ {b k:Nat} {v:Value},h b k = some v → b < w.heap.size:=fun hv=>dF (hw.agree _ _ _ hv)
 have hle:h.le (bV h w.heap.size cs):=fun b o v hv=>by
  unfold bV
  rw [if_neg (by have:=hno hv; omega)]
  exact hv
 have hold:∀ {b:Nat},b < w.heap.size → (w.alloc (.cells cs.toArray T)).heap[b]? = w.heap[b]?:=fun hb=>heap_alloc_old w _ hb
 refine ⟨⟨fun b k v hv=>?_,PH.le_trans hw.le hle,fun b hb hl=>?_,Nat.le_trans hw.size (by simp),fun b hb hl=>?_,hw.fixed,hw.os,hw.out,hw.nl,fun k c hk=>?_⟩,hle⟩
 ·unfold bV at hv
  split at hv
  ·rename_i e
   subst e
   exact ee (heap_alloc_new w _) (by simpa using hv) (h1 v (List.mem_of_getElem? hv))
  ·rw [gk (hold (hno hv))]; exact hw.agree b k v hv
 ·rw [← hw.fresh b hb hl]
  funext o
  unfold bV
  rw [if_neg (by have:=hw.size; omega)]
 ·have:=hw.size
  rw [hold (by omega)]; exact hw.same b hb hl
 ·obtain ⟨e1,e2,e3⟩:=hw.owned k c hk
  have hft:∀ i x,(i,x) ∈ own → ∀ b,x.bd (ρ i) _ b → x.bd (ρ i) w b:=fun i x hi b=>OC.bd.congr fun b hb=>hold ((hw.owned i x hi).1.lt (.inl hb))
  refine ⟨(e1.congr fun b hb=>hold (e1.lt hb)).mono hle,fun b hb=>⟨(e2 b (hft k c hk b hb)).1,fun o=>?_⟩,fun i x hi hij b hb hb'=>e3 i x hi hij b (hft k c hk b hb) (hft i x hi b hb')⟩
  unfold bV
  rw [if_neg (by have:=e1.lt (hft k c hk b hb); omega)]
  exact (e2 b (hft k c hk b hb)).2 o
theorem op_boxR {T:TypeId} {p:CP} (hx:s.ev x = some (.b (.one p))):br P E n ⟨dst,.box T x,ty,pos,after,g⟩ s (s.put n dst (.b (.cz [p]))):=by
 intro a w ⟨hdf,hn,h,ρ,hw,hs⟩ next Q hnext
 have hr:p.rel h (a.eval x):=aE hs hx
 have h1:=p.one hr
 have hcells:(a.eval x).cells = #[a.eval x]:=by cases hq:a.eval x <;> first | rfl | (rw [hq] at h1; simp [Value.oneCell'] at h1)
 obtain ⟨hw',hle⟩:=hw.allocR (cs:=[a.eval x]) (T:=T) (by simpa using h1)
 unfold Oper.wp
 have hrun:(execOp a.eval ⟨dst,.box T x,ty,pos,after,g⟩).run P w = .ok (.value (.pointer (some ⟨w.heap.size,0,none⟩))) (w.alloc (.cells #[a.eval x] T)):=by
  simp only [execOp]
  simp [Instr.box,newVar,newRow,hcells]
 rw [hrun]
 refine hnext _ _ (R.put hdf hn hw' (hs.mono hle) ⟨w.heap.size,0,rfl,fun j c hc=>?_⟩)
 cases j with
 | zero=>simp at hc; subst hc; exact ⟨a.eval x,by simp [bV],p.mono hle hr⟩
 | succ j=>simp at hc
def CP.rp (ps:List CP):CP:=⟨fun h v=>∃ b o,v = .pointer (some ⟨b,o,none⟩) ∧ Reads h b o ps,fun hl ⟨b,o,e,hr⟩=>⟨b,o,e,hr.mono hl⟩,fun ⟨b,o,e,_⟩=>by rw [e]; rfl⟩
def ql (s:St):List Operand → Option (List (List CP))
 | []=>some []
 | x :: l=>match s.ev x with
  | some (.b (.cz ps))=>(ql s l).map fun r=>ps :: r
  | _=>none
theorem n9 {h:PH} {ρ:RM} {a:Act} (hs:a7 h ρ s.slots a.tmps):∀ {l:List Operand} {zs:List (List CP)},ql s l = some zs → aI (fun (p:CP) v=>p.rel h v) (zs.map CP.rp) (l.map a.eval)
 | [],zs,e=>by simp [ql] at e; subst e; exact .nil
 | x :: l,zs,e=>by
  unfold ql at e
  split at e
  ·rename_i ps hps
   simp only [Option.map_eq_some_iff] at e
   obtain ⟨r,hr,rfl⟩:=e
   exact .cons (aE hs hps:BV.rel h ρ (.cz ps) _) (n9 hs hr)
  ·simp at e
theorem iv {f:FuncId} {ys:Array Operand} {pss:List (List CP)} (hc:ql s ys.toList = some pss) :
  br P E n ⟨dst,.makeFunc (.func f) #[] ys,ty,pos,after,g⟩ s (s.put n dst (.b (.one (.bS f (pss.map CP.rp))))) :=
 br.val (o:=⟨dst,.makeFunc (.func f) #[] ys,ty,pos,after,g⟩) fun ac w h ρ hw hs=>by
  refine ⟨.func (.func f) #[] (ys.map ac.eval),by simp [execOp,Instr.makeFunc],ys.toList.map ac.eval,by rw [show (ys.map ac.eval) = (ys.toList.map ac.eval).toArray from by apply Array.ext'; simp],n9 hs hc⟩
theorem m8 {h:PH} {ρ:RM}:∀ {pss:List (List CP)} {vs:List Value},aI (fun (p:CP) u=>p.rel h u) (pss.map CP.rp) vs → aI (fun (x:BV) v=>x.rel h ρ v) (pss.map BV.cz) vs
 | [],_,.nil=>.nil
 | _ :: _,_,.cons h1 t=>.cons h1 (m8 t)
theorem gh {f:FuncId} {pss:List (List CP)} {own_a own':List (Nat × OC)} {args zs:List BV} {xs:Array Operand} {ats:Array TypeId} {res:SV} (hspec:ar P TB f own_a args (Is own' res)) (hf:cG P f) (hx:s.ev x = some (.b (.one (.bS f (pss.map CP.rp))))) (ha:gI s xs.toList = some zs)
  (hz:zs ++ pss.map BV.cz = args) (hl:hX s.own own_a)
  (hok:jH n own_a own' = true) (hki:res.cf own' = true) (hcl:jG s.own own_a own' = true:=by rfl):br P E n ⟨dst,.call ⟨.value x,xs,ats⟩,ty,pos,after,g⟩ s (s.aft n own_a own' dst res) :=
 fun _ _ hr _ _ hnext=>mr hspec (fun a w h ρ hw hs=>by
  obtain ⟨vs,hv,h2⟩:=(aE hs hx:(CP.bS f (pss.map CP.rp)).rel h _)
  refine ⟨xs.toList.map a.eval ++ vs,?_,?_⟩
  ·have e1:execOp a.eval ⟨dst,.call ⟨.value x,xs,ats⟩,ty,pos,after,g⟩ = (do let d ← Deferred.ofValue (a.eval x) (xs.map a.eval); invoke d.target d.args):=rfl
   rw [e1,hv]
   have e2:(do let d ← Deferred.ofValue (.func (.func f) #[] vs.toArray) (xs.map a.eval); invoke d.target d.args:Sem Next) = callFunc f (#[] ++ xs.map a.eval ++ vs.toArray):=rfl
   rw [e2,hf.run]
   congr 2
   apply Array.ext'
   simp
  ·rw [← hz]
   exact jg (iu hs ha) (m8 h2)) hl hr fun _ _ hp=>by
  obtain ⟨rfl,rfl⟩:=hp
  exact ⟨hok,hcl,hki,hnext⟩
end
end Go.Sk
namespace Go.Sk
set_option linter.unusedSimpArgs false
set_option linter.unusedVariables false
open Go Go.BigFrame
def wpLI (P:Program) (F:Fence) (ops:Array Oper) (Q:bU):List Oper → Act → World → Prop
 | [],a,w=>Q .normal a w
 | o :: rest,a,w=>if Region.wanted o (yielded ops a.tmps) then o.wpIn F 0 P a w (wpLI P F ops Q rest) Q else wpLI P F ops Q rest (a.put o.dst undef) w
def lV (P:Program) {TB:bc} (E:Env TB) (n:Sh) (F:Fence) (ops:Array Oper) (l:List Oper) (s:St) (Q:bU):Prop:=∀ a w,R E n s a w → wpLI P F ops Q l a w
section
variable {P:Program} {TB:bc} {E:Env TB} {n:Sh} {ops:Array Oper} {l:List Oper} {s s':St} {Q:bU} {o:Oper} {F:Fence} {c:Code}
theorem lV.nil (h:Fin E n .normal s Q):lV P E n F ops [] s Q:=fun a w hr=>h a w hr
theorem lV.keep (ks kos:List Nat) (hs:s.keep ks kos = s') (h:lV P E n F ops l s' Q):lV P E n F ops l s Q:=fun a w hr=>h a w (hs ▸ hr.keep ks kos)
theorem lV.cons (hf:F = Fence.wide ∨ ∃ l,F = rnd l) (hg:o.guard = none) (h1:br P E n o s s') (h2:lV P E n F ops l s' Q) (hd:ko o = true:=by rfl):lV P E n F ops (o :: l) s Q:=by
 intro a w hr
 unfold wpLI
 have:Region.wanted o (yielded ops a.tmps) = true:=by simp [Region.wanted,hg]
 simp only [this,if_true]
 exact pE hf hd (fun a w h=>h) (h1 a w hr _ _ fun a' w' hr'=>h2 a' w' hr')
theorem lV.opt (k:Nat) {z:BV} (hk:lk s.slots k = some (.b z)) (h:lV P E n F ops l ⟨(k,.opt true z) :: del k s.slots,s.own⟩ Q):lV P E n F ops l s Q:=by
 rintro a w ⟨h1,hn,hh,ρ,hw,hs⟩
 refine h a w ⟨h1,hn,hh,ρ,hw,fun j x hx=>?_⟩
 rcases List.mem_cons.1 hx with e | hx
 ·obtain ⟨rfl,rfl⟩:=Prod.mk.inj e
  obtain ⟨v,hv,hr⟩:=hs _ _ (aA hk)
  exact ⟨v,hv,fun _=>hr,fun e=>by simp at e⟩
 ·exact hs j x (bB hx).1
theorem R.fresh {h:PH} {ρ:RM} {w:World} {slots:List (Nat × SV)} {a:Act} {m:Nat} (tb:dh TB h w) (hag:ku h w) (hd:a.defers = []) (hn:a.tmps.size = m) (hs:a7 h ρ slots a.tmps):R (⟨w,h,ρ,tb⟩:Env TB) ⟨m,[],[],[]⟩ ⟨slots,[]⟩ a w :=
 ⟨hd,hn,h,ρ,WR.sh (n:=⟨0,aQ [],aj [],[]⟩) rfl rfl (l6 tb hag fun k c hk=>by simp at hk),hs⟩
end
section
variable {P:Program} {TB:bc} {E:Env TB} {n:Sh} {s:St} {dst:Option Nat} {t ty yt:TypeId} {pos:String} {after:Array Edge} {g:Option (Nat × Bool)} {x y c:Operand}
end
section
variable {P:Program} {t:TypeId}
end
end Go.Sk
namespace Go.Sk
set_option linter.unusedSimpArgs false
set_option linter.unusedVariables false
open Go Go.BigFrame
def iL (k:Nat) (ps:List CP):List (Nat × SV) → List (Nat × SV)
 | []=>[]
 | (j,x) :: l=>match x with
  | .b (.ptr k' o)=>if k' = k then (j,.b (.cz (ps.drop o))) :: iL k ps l else (j,x) :: iL k ps l
  | _=>(j,x) :: iL k ps l
theorem lr {k:Nat} {ps:List CP}:∀ {l:List (Nat × SV)} {j:Nat} {x:SV},(j,x) ∈ iL k ps l → (j,x) ∈ l ∨ ∃ o,x = .b (.cz (ps.drop o)) ∧ (j,.b (.ptr k o)) ∈ l
 | [],j,x,h=>by simp [iL] at h
 | (i,y) :: l,j,x,h=>by
  have keep:(j,x) ∈ (i,y) :: iL k ps l → (j,x) ∈ (i,y) :: l ∨ ∃ o,x = .b (.cz (ps.drop o)) ∧ (j,.b (.ptr k o)) ∈ (i,y) :: l:=fun h=>by
   rcases List.mem_cons.1 h with e | h
   ·exact .inl (e ▸ List.mem_cons_self)
   ·rcases lr h with h | ⟨o,e,h⟩
    ·exact .inl (List.mem_cons_of_mem _ h)
    ·exact .inr ⟨o,e,List.mem_cons_of_mem _ h⟩
  unfold iL at h
  split at h
  ·rename_i k' o
   split at h
   ·rename_i hk
    subst hk
    rcases List.mem_cons.1 h with e | h
    ·obtain ⟨rfl,rfl⟩:=Prod.mk.inj e
     exact .inr ⟨o,rfl,List.mem_cons_self⟩
    ·rcases lr h with h | ⟨o,e,h⟩
     ·exact .inl (List.mem_cons_of_mem _ h)
     ·exact .inr ⟨o,e,List.mem_cons_of_mem _ h⟩
   ·exact keep h
  ·exact keep h
section
variable {P:Program} {TB:bc} {E:Env TB} {n:Sh} {s:St} {ops:Array Oper} {l:List Oper} {Q:bU} {cd:Code}
theorem R.fD {k:Nat} {T:TypeId} {ps:List CP} {a:Act} {w:World} (hr:R E n s a w) (hk:lk s.own k = some (.box T ps)):R E n ⟨iL k ps s.slots,del k s.own⟩ a w:=by
 obtain ⟨h1,h2,h,ρ,hw,hs⟩:=hr
 obtain ⟨g,cur,hρ,hh,hc⟩:=fg hw hk
 have hown:=hw.owned k _ (aA hk)
 have hg:=hown.2.1 g (.inl (by rw [hρ]; rfl))
 have hle:h.le (bV h g cur.toList):=fun b o v hv=>by
  unfold bV
  split
  ·rename_i e; subst e; rw [hg.2 o] at hv; simp at hv
  ·exact hv
 have hrd:Reads (bV h g cur.toList) g 0 ps:=fun j c hj=>by
  obtain ⟨u,hu,hp⟩:=hc.get j c hj
  exact ⟨u,by simp only [bV,if_true,Nat.zero_add]; exact hu,c.mono hle hp⟩
 refine ⟨h1,h2,bV h g cur.toList,ρ,⟨?_,PH.le_trans hw.le hle,?_,hw.size,hw.same,hw.fixed,hw.os,hw.out,hw.nl,?_⟩,?_⟩
 ·intro b o v hv
  unfold bV at hv
  split at hv
  ·rename_i e; subst e
   exact ee hh (by simpa using hv) (hc.one v (List.mem_of_getElem? hv))
  ·exact hw.agree b o v hv
 ·intro b hb hnl
  rw [← hw.fresh b hb hnl]
  funext o
  unfold bV
  rw [if_neg fun e=>by
   subst e
   rcases hg.1 with h | h
   ·omega
   ·exact hnl h]
 ·intro j c hj
  obtain ⟨hj1,hj2⟩:=bB hj
  obtain ⟨e1,e2,e3⟩:=hw.owned j c hj1
  refine ⟨e1.mono hle,fun b hb=>⟨(e2 b hb).1,fun o=>?_⟩,fun j' c' hj'=>e3 j' c' (bB hj').1⟩
  have hbg:b ≠ g:=fun e=>by
   subst e
   exact e3 k _ (aA hk) (fun e=>hj2 e.symm) b hb (.inl (by rw [hρ]; rfl))
  unfold bV
  rw [if_neg hbg]
  exact (e2 b hb).2 o
 ·intro j x hx
  rcases lr hx with hx2 | ⟨o,rfl,hx2⟩
  ·obtain ⟨v,hv,hrel⟩:=hs j x hx2
   exact ⟨v,hv,SV.mono hle (fun _ _=>rfl) hrel⟩
  ·obtain ⟨v,hv,b,e1,e2⟩:=hs j _ hx2
   rw [hρ] at e1
   have:g = b:=by simpa using e1
   subst this
   exact ⟨v,hv,g,o,e2,by have:=hrd.drop o; rwa [Nat.zero_add] at this⟩
theorem ab.fD (k:Nat) {T:TypeId} {ps:List CP} (hk:lk s.own k = some (.box T ps)) (h:ab P E n cd ⟨iL k ps s.slots,del k s.own⟩ Q):ab P E n cd s Q:=fun a w hr=>h a w (hr.fD hk)
theorem ae.fD (k:Nat) {T:TypeId} {ps:List CP} (hk:lk s.own k = some (.box T ps)) (h:ae P E n ops l ⟨iL k ps s.slots,del k s.own⟩ Q):ae P E n ops l s Q:=fun a w hr=>h a w (hr.fD hk)
theorem Fin.fD {e:Exit} (k:Nat) {T:TypeId} {ps:List CP} (hk:lk s.own k = some (.box T ps)) (h:Fin E n e ⟨iL k ps s.slots,del k s.own⟩ Q):Fin E n e s Q:=fun a w hr=>h a w (hr.fD hk)
end
end Go.Sk
namespace Go.Sk
set_option linter.unusedSimpArgs false
set_option linter.unusedVariables false
open Go Go.BigFrame
section
variable {P:Program} {TB:bc} {E:Env TB} {n:Sh} {s:St} {dst:Option Nat} {ty:TypeId} {pos:String} {after:Array Edge} {g:Option (Nat × Bool)} {x y:Operand}
end
end Go.Sk
namespace Go.Sk
set_option linter.unusedSimpArgs false
set_option linter.unusedVariables false
open Go Go.BigFrame
theorem aI.unapp {α β:Type} {r:α → β → Prop}:∀ {xs xs':List α} {bs:List β},aI r (xs ++ xs') bs → ∃ b1 b2,bs = b1 ++ b2 ∧ aI r xs b1 ∧ aI r xs' b2
 | [],_,bs,h=>⟨[],bs,rfl,.nil,h⟩
 | a :: l,_,_,.cons h t=>by
  obtain ⟨b1,b2,rfl,h1,h2⟩:=aI.unapp (xs:=l) t
  exact ⟨_ :: b1,b2,rfl,.cons h h1,h2⟩
theorem flat1 {size:Nat}:∀ ess:List (List (List CP)),(ess.map fun es=>[CP.sl size es]).flatten = ess.map fun es=>CP.sl size es
 | []=>rfl
 | a :: l=>by simp only [List.map_cons,List.flatten_cons,flat1 l]; rfl
theorem nX {h:PH}:∀ {us:List Value},(∀ u ∈ us,u.oneCell' = true) → av h (us.map fun u=>[CP.raw u]).flatten us
 | [],_=>.nil
 | u :: us,h1=>.cons ⟨rfl,h1 u List.mem_cons_self⟩ (nX fun x hx=>h1 x (List.mem_cons_of_mem _ hx))
theorem pB {h:PH}:∀ {us xs:List Value},av h (us.map fun u=>[CP.raw u]).flatten xs → xs = us
 | [],_,.nil=>rfl
 | u :: us,_,.cons h1 t=>by rw [h1.1,pB t]
section
variable {P:Program} {TB:bc} {E:Env TB} {n:Sh} {s:St} {dst:Option Nat} {t ty yt:TypeId} {pos:String} {after:Array Edge} {g:Option (Nat × Bool)} {x y c:Operand} {Q:bU} {cd:Code} {ops:Array Oper} {l:List Oper}
variable {own:List (Nat × OC)} {h:PH} {ρ:RM} {w:World} {k kp i size bytes:Nat} {T e:TypeId} {hole:mD} {ess:List (List (List CP))} {us:List Value} {v:Value}
theorem fN.len (x:fN h v w T e size hole ess us):us.length = ess.length:=by have:=x.out.1; omega
theorem fN.at (x:fN h v w T e size hole ess us) {i:Nat} {u:Value} (hi:us[i]? = some u):∃ es,ess[i]? = some es:=by
 have h4:i < us.length:=(List.getElem?_eq_some_iff.1 hi).1
 exact ⟨_,List.getElem?_eq_getElem (by rw [← x.len]; exact h4)⟩
theorem fN.bd (x:fN h v w T e size hole ess us) {b:Nat}:(OC.rr T e size hole ess).bd v w b ↔ aw v = some b ∨ ∃ (i:Nat) (u:Value),us[i]? = some u ∧ ¬ hole.has i ∧ aw u = some b:=or_congr Iff.rfl x.inner
theorem fN.lt (x:fN h v w T e size hole ess us) {i b:Nat} {u:Value} (h1:us[i]? = some u) (h2:¬ hole.has i) (h3:aw u = some b):b < w.heap.size:=by
 obtain ⟨es,hes⟩:=x.at h1
 obtain ⟨xs,h6,_⟩:=(x.rows i u es h1 hes h2).row
 exact j5 h6 h3
theorem mT (hz:0 < size):nS h w e size (.slice none 0 0) []:=⟨fun ps hps=>by simp at hps,[],⟨by simp,.inl ⟨rfl,rfl⟩⟩,.nil⟩
theorem wr_toRR (hw:WR E n own h ρ w) {es:List (List CP)} (hk:lk own k = some (.row T 1 es)) (hes:∀ ps ∈ es,ps = [.nil]) (hz:0 < size):WR E n (ins k (.rr T e size .none (es.map fun _=>[])) own) h ρ w:=by
 obtain ⟨hu,hz1,xs,ho,hr⟩:=(hw.owned k _ (aA hk)).1
 have hx:∀ u ∈ xs,u = Value.slice none 0 0:=fun u hm=>by
  obtain ⟨c,hc,hr⟩:=aI.lq hr hm
  obtain ⟨ps,hp,hc⟩:=List.mem_flatten.1 hc
  rw [hes ps hp] at hc
  cases List.mem_singleton.1 hc
  exact hr.1
 have hok:fN h (ρ k) w T e size .none (es.map fun _=>[]) xs:=by
  refine ⟨hz,by simpa using ho,fun u hm=>by rw [hx u hm]; rfl,fun i u es' h1 h2 _=>?_,fun i j u u' b h1 h2 _ _ _ hb=>?_,fun i u b h1 _ hb=>?_⟩
  ·rw [hx u (List.mem_of_getElem? h1)]
   rw [List.getElem?_map] at h2
   obtain ⟨_,_,rfl⟩:=Option.map_eq_some_iff.1 h2
   exact mT hz
  ·rw [hx u (List.mem_of_getElem? h1)] at hb; simp [aw] at hb
  ·rw [hx u (List.mem_of_getElem? h1)] at hb; simp [aw] at hb
 have:=hw.lE (w':=w) k (ρ k) (.rr T e size .none (es.map fun _=>[])) none (fun b e=>by simp at e) (Nat.le_refl _) rfl rfl (fun _ _ _=>rfl) ⟨xs,hok⟩ (fun b hb=>by
  rcases hok.bd.1 hb with h1 | ⟨i,u,h1,_,h3⟩
  ·exact .inl ⟨_,aA hk,.inl h1⟩
  ·rw [hx u (List.mem_of_getElem? h1)] at h3; simp [aw] at h3) (.inl rfl) (.inl rfl)
 rwa [dt] at this
theorem R.oA {a:Act} (hr:R E n s a w) (k:Nat) (e:TypeId) (size:Nat) {es:List (List CP)} (hk:lk s.own k = some (.row T 1 es)) (hes:∀ ps ∈ es,ps = [.nil]) (hz:0 < size):R E n ⟨s.slots,ins k (.rr T e size .none (es.map fun _=>[])) s.own⟩ a w:=by
 obtain ⟨h1,h2,h,ρ,hw,hs⟩:=hr
 exact ⟨h1,h2,h,ρ,wr_toRR hw hk hes hz,hs⟩
theorem R.kq {a:Act} (hr:R E n s a w) {i k size:Nat} {T e:TypeId} (hi:s.get i = some (.b (.one .nil))) (hz:0 < size) (hfx:n.fix.contains k = false) (hnu:bL k s.own = true):R E n ⟨(i,.b (.row k)) :: del i (bg k s.slots),ins k (.rr T e size .none []) s.own⟩ a w:=by
 obtain ⟨h1,h2,h,ρ,hw,hs⟩:=hr
 have hok:fN h (.slice none 0 0) w T e size .none [] []:=⟨hz,⟨rfl,.inl ⟨rfl,rfl⟩⟩,by simp,by simp,by simp,by simp⟩
 refine ⟨h1,h2,h,fW ρ k (.slice none 0 0),hw.lE (w':=w) k (.slice none 0 0) (.rr T e size .none []) none (fun b e=>by simp at e) (Nat.le_refl _) rfl rfl (fun _ _ _=>rfl) ⟨[],hok⟩ (fun b hb=>by
  rcases hok.bd.1 hb with h1 | ⟨i,u,h1,_,h3⟩
  ·simp [aw] at h1
  ·simp at h1) (.inr fun e=>by simp at hfx; exact hfx e) (.inr hnu),?_⟩
 intro j z hz'
 cases List.mem_cons.1 hz' with
 | inl e=>
  obtain ⟨rfl,rfl⟩:=Prod.mk.inj e
  obtain ⟨u,hu,hrel⟩:=hs _ _ (aA (show lk s.slots _ = some _ from hi))
  exact ⟨u,hu,by
   have:u = .slice none 0 0:=hrel.1
   show u = fW ρ k _ k
   rw [aN,this]⟩
 | inr e=>exact hs.bg k _ j z (bB e).1
theorem my (hw:WR E n own h ρ w) {zs:List CP} {e2:TypeId} (ht:ec P t e 1 bytes zs) (hk:lk own k = some (.rr e e2 size .none ess)) (hsrc:Src w v h 1 [[.nil]])
  (hb:(ess.length + 1) * bytes ≤ 140737488355328) (hm:ess.length + 1 ≤ maxLen) :
  ∃ v' w',(Builtin.append_ #[t,t] ty #[ρ k,v]).run P w = .ok v' w' ∧ w.heap.size ≤ w'.heap.size ∧ w'.os = w.os ∧ w'.output = w.output ∧ (∀ b,b < w.heap.size → some b ≠ aw (ρ k) → w'.heap[b]? = w.heap[b]?) ∧
   (OC.rr e e2 size .none (ess ++ [[]])).ok h ρ v' w' ∧ (∀ b,(OC.rr e e2 size .none (ess ++ [[]])).bd v' w' b → (∃ c,(k,c) ∈ own ∧ c.bd (ρ k) w b) ∨ w.heap.size ≤ b):=by
 obtain ⟨us,x⟩:=(hw.owned k _ (aA hk)).1
 have hlen:=x.len
 have hok0:(OC.row e 1 (us.map fun u=>[CP.raw u])).ok h ρ (ρ k) w:=⟨fun ps hps=>by obtain ⟨u,_,rfl⟩:=List.mem_map.1 hps; rfl,by decide,us,by rw [List.length_map,hlen]; exact x.out,nX x.one⟩
 obtain ⟨v',w',hrun,h1,h2,h3,h4,⟨_,_,xs,ho,hr⟩,h6⟩:=kR (ty:=ty) ht hok0 rfl hsrc (by simpa [hlen] using hb) (by simpa [hlen] using hm)
 rw [List.flatten_append] at hr
 obtain ⟨b1,b2,rfl,hr1,hr2⟩:=hr.unapp
 cases pB hr1
 obtain ⟨u0,rfl,hu0⟩:∃ u0,b2 = [u0] ∧ u0 = Value.slice none 0 0:=by
  cases hr2 with
  | cons a b=>cases b; exact ⟨_,rfl,a.1⟩
 subst hu0
 have hsm:∀ i u b,us[i]? = some u → aw u = some b → w'.heap[b]? = w.heap[b]?:=fun i u b hi hb=>h4 b (x.lt hi (by simp) hb) fun e=>x.self i u b hi (by simp) hb e.symm
 have hget:∀ i u,(us ++ [Value.slice none 0 0])[i]? = some u → (us[i]? = some u ∧ i < us.length) ∨ (u = .slice none 0 0 ∧ i = us.length):=fun i u hi=>by
  rw [List.getElem?_append] at hi
  split at hi
  ·next hlt=>exact .inl ⟨hi,hlt⟩
  ·next hge=>
   have:i - us.length = 0:=by
    have:=(List.getElem?_eq_some_iff.1 hi).1
    simp at this; omega
   rw [this] at hi
   simp at hi
   exact .inr ⟨hi.symm,by omega⟩
 have hok:fN h v' w' e e2 size .none (ess ++ [[]]) (us ++ [.slice none 0 0]):=by
  refine ⟨x.pos,by simpa [hlen] using ho,fun u hm=>?_,fun i u es hi hes hn=>?_,fun i j u u' b hi hj _ _ hij hb hb'=>?_,fun i u b hi _ hb hb'=>?_⟩
  ·rcases List.mem_append.1 hm with hm | hm
   ·exact x.one u hm
   ·cases List.mem_singleton.1 hm; rfl
  ·rcases hget i u hi with ⟨hi,hlt⟩ | ⟨rfl,rfl⟩
   ·rw [List.getElem?_append_left (by omega)] at hes
    exact (x.rows i u es hi hes hn).congr fun b hb=>hsm i u b hi hb
   ·rw [hlen,List.getElem?_append_right (Nat.le_refl _)] at hes
    simp at hes
    subst hes
    exact mT x.pos
  ·rcases hget i u hi with ⟨hi,_⟩ | ⟨rfl,_⟩
   ·rcases hget j u' hj with ⟨hj,_⟩ | ⟨rfl,_⟩
    ·exact x.sep i j u u' b hi hj (by simp) (by simp) hij hb hb'
    ·simp [aw] at hb'
   ·simp [aw] at hb
  ·rcases hget i u hi with ⟨hi,_⟩ | ⟨rfl,_⟩
   ·rcases h6 b hb' with h7 | h7
    ·exact x.self i u b hi (by simp) hb h7
    ·have:=x.lt hi (by simp) hb; omega
   ·simp [aw] at hb
 refine ⟨v',w',hrun,h1,h2,h3,h4,⟨_,hok⟩,fun b hb=>?_⟩
 rcases hok.bd.1 hb with h7 | ⟨i,u,hi,_,h8⟩
 ·rcases h6 b h7 with h7 | h7
  ·exact .inl ⟨_,aA hk,.inl h7⟩
  ·exact .inr h7
 ·rcases hget i u hi with ⟨hi,_⟩ | ⟨rfl,_⟩
  ·exact .inl ⟨_,aA hk,x.bd.2 (.inr ⟨i,u,hi,by simp,h8⟩)⟩
  ·simp [aw] at h8
theorem br.makeF {o:Oper} {k:Nat} {c':OC} {res:SV} (H:∀ (a:Act) (w:World) (h:PH) (ρ:RM),WR E n s.own h ρ w → a7 h ρ s.slots a.tmps →
      ∃ v' vk w' row,(execOp a.eval o).run P w = .ok (.value v') w' ∧ (∀ b,row = some b → ∃ c,(k,c) ∈ s.own ∧ c.bd (ρ k) w b) ∧ w.heap.size ≤ w'.heap.size ∧ w'.os = w.os ∧ w'.output = w.output ∧
        (∀ b,b < w.heap.size → some b ≠ row → w'.heap[b]? = w.heap[b]?) ∧ c'.ok h (fW ρ k vk) vk w' ∧ (∀ b,c'.bd vk w' b → (∃ c,(k,c) ∈ s.own ∧ c.bd (ρ k) w b) ∨ w.heap.size ≤ b) ∧ res.rel h (fW ρ k vk) v') (hfx:n.fix.contains k = false) (hnu:bL k s.own = true:=by rfl) :
    br P E n o s ((⟨bg k s.slots,ins k c' s.own⟩:St).put n o.dst res):=by
  intro a w ⟨hdf,hn,h,ρ,hw,hs⟩ next Q hnext
  obtain ⟨v',vk,w',row,hv,h1,h2,h3,h4,h5,h6,h7,h8⟩:=H a w h ρ hw hs
  unfold Oper.wp
  rw [hv]
  exact hnext _ _ (R.put (s:=⟨bg k s.slots,ins k c' s.own⟩) hdf hn (hw.lE k vk c' row h1 h2 h3 h4 h5 h6 h7 (.inr fun e=>by simp at hfx; exact hfx e) (.inr hnu)) (hs.bg k vk) h8)
theorem ji {j:Nat} {zs:List CP} {e2:TypeId} {ess':List (List (List CP))} (ht:ec P t e 1 bytes zs) (hb:(ess.length + 1) * bytes ≤ 140737488355328) (hm:ess.length + 1 ≤ 9223372036854775807)
  (hx:s.ev x = some (.b (.row k))) (hk:lk s.own k = some (.rr e e2 size .none ess)) (hy:s.ev y = some (.b (.row j))) (hj:lk s.own j = some (.row e 1 [[.nil]])) (he:ess ++ [[]] = ess') (hfx:n.fix.contains k = false) (hnu:bL k s.own = true:=by rfl) :
  br P E n ⟨dst,.call ⟨.builtin .append,#[x,y],#[t,t]⟩,ty,pos,after,g⟩ s ((⟨bg k s.slots,ins k (.rr e e2 size .none ess') s.own⟩:St).put n dst (.b (.row k))) :=
 br.makeF (hfx:=hfx) (hnu:=hnu) (o:=⟨dst,.call ⟨.builtin .append,#[x,y],#[t,t]⟩,ty,pos,after,g⟩) fun ac w h ρ hw hs=>by
  have hv:ac.eval x = ρ k:=(aE hs hx:BV.rel h ρ (.row k) _)
  have hu:ac.eval y = ρ j:=(aE hs hy:BV.rel h ρ (.row j) _)
  obtain ⟨v',w',hrun,h1,h2,h3,h4,h5,h6⟩:=my (ty:=ty) hw ht hk (Src.nj hw hj) hb (by rw [cB]; exact hm)
  subst he
  refine ⟨v',v',w',aw (ρ k),?_,fun b hb=>⟨_,aA hk,.inl hb⟩,h1,h2,h3,h4,h5,h6,(aN _ _ _).symm⟩
  rw [execOp_builtin,builtin_append]
  simp [hv,hu,hrun]
theorem p7 (ht:P.underlying t = some (.slice yt)) (hx:s.ev x = some (.b (.row k))) (hk:lk s.own k = some (.rr T e size hole ess)) :
  br P E n ⟨dst,.call ⟨.builtin .len,#[x],#[t]⟩,ty,pos,after,g⟩ s (s.put n dst (I (ess.length:Int))) :=
 br.val (o:=⟨dst,.call ⟨.builtin .len,#[x],#[t]⟩,ty,pos,after,g⟩) fun ac w h ρ hw hs=>by
  have hv:ac.eval x = ρ k:=(aE hs hx:BV.rel h ρ (.row k) _)
  obtain ⟨us,x⟩:=(hw.owned k _ (aA hk)).1
  rw [execOp_builtin,builtin_len]
  rcases x.out.2 with ⟨h1,h2⟩ | ⟨b,cap,cur,h1,_,_,h2,h3,_⟩
  ·exact ⟨.int .i64 0,by simp [hv,h1,Builtin.len_,run_underlying ht,goInt],by rw [h2]; rfl,by rw [h2]; exact gz (m:=0) (Nat.zero_le _)⟩
  ·exact ⟨.int .i64 ess.length,by simp [hv,h1,Builtin.len_,run_underlying ht,goInt],rfl,gz (by omega)⟩
theorem cU {bytes o:Nat} {zs:List CP} {kd:IntKind} {i:Int} {e2:TypeId} (ht:ec P t e 1 bytes zs) (h0:0 ≤ i) (h1:i < ess.length)
  (hx:s.ev x = some (.b (.row k))) (hk:lk s.own k = some (.rr T e2 size hole ess)) (hy:s.ev y = some (.b (.one (.int kd i)))) (ho:i.toNat = o) :
  br P E n ⟨dst,.indexAddr t x y,ty,pos,after,g⟩ s (s.put n dst (.b (.bu k o))) :=
 br.val (o:=⟨dst,.indexAddr t x y,ty,pos,after,g⟩) fun ac w h ρ hw hs=>by
  have hv:ac.eval x = ρ k:=(aE hs hx:BV.rel h ρ (.row k) _)
  obtain ⟨us,q⟩:=(hw.owned k _ (aA hk)).1
  rcases q.out.2 with ⟨_,he⟩ | ⟨b,cap,cur,hρ,_,hb,hc1,hc2,hc3,hc4⟩
  ·omega
  ·refine ⟨.pointer (some ⟨b,i.toNat * 1,none⟩),?_,b,ess.length,cap,hρ,by rw [← ho,Nat.mul_one]⟩
   simp only [execOp,hv,hρ,(cb hs hy).1]
   simp [eP ht w b 0 ess.length cap kd i h0 (by omega)]
theorem qY (hw:WR E n own h ρ w) {es:List (List CP)} {u:Value} (hk:lk own k = some (.rr T e size .none ess)) (x:fN h (ρ k) w T e size .none ess us) (hu:us[i]? = some u) (hi:ess[i]? = some es) (hne:kp ≠ k) (hfx:kp ∉ n.fix) (hnu:bL kp own = true) :
  WR E n (ins kp (.row e size es) (ins k (.rr T e size (.at i) ess) own)) h (fW ρ kp u) w:=by
 have hkm:=aA hk
 obtain ⟨e1,e2,e3⟩:=hw.owned k _ hkm
 have hro:=x.rows i u es hu hi (by simp)
 have x':fN h (ρ k) w T e size (.at i) ess us:=⟨x.pos,x.out,x.one,fun j u' es' h1 h2 _=>x.rows j u' es' h1 h2 (by simp),fun a b u1 u2 bb h1 h2 _ _=>x.sep a b u1 u2 bb h1 h2 (by simp) (by simp),fun j u' b h1 _=>x.self j u' b h1 (by simp)⟩
 have fu:∀ b,aw u = some b → (OC.rr T e size .none ess).bd (ρ k) w b:=fun b hb=>x.bd.2 (.inr ⟨i,u,hu,by simp,hb⟩)
 have fk:∀ b,(OC.rr T e size (.at i) ess).bd (ρ k) w b → (OC.rr T e size .none ess).bd (ρ k) w b:=fun b hb=>by
  rcases x'.bd.1 hb with h1 | ⟨j,u',h1,_,h3⟩
  ·exact .inl h1
  ·exact x.bd.2 (.inr ⟨j,u',h1,by simp,h3⟩)
 have sep:∀ b,aw u = some b → ¬ (OC.rr T e size (.at i) ess).bd (ρ k) w b:=fun b hb hf=>by
  rcases x'.bd.1 hf with h1 | ⟨j,u',h1,h2,h3⟩
  ·exact x.self i u b hu (by simp) hb h1
  ·exact x.sep j i u' u b h1 hu (by simp) (by simp) (fun e=>h2 e) h3 hb
 have fX:∀ j z,(j,z) ∈ ins kp (OC.row e size es) (ins k (OC.rr T e size (.at i) ess) own) → (j = kp ∧ z = .row e size es) ∨ (j = k ∧ z = .rr T e size (.at i) ess) ∨ (j ≠ kp ∧ j ≠ k ∧ (j,z) ∈ own):=fun j z hj=>by
  rcases c3 hj with ⟨rfl,rfl⟩ | ⟨h1,hj⟩
  ·exact .inl ⟨rfl,rfl⟩
  ·rcases c3 hj with ⟨rfl,rfl⟩ | ⟨h2,hj⟩
   ·exact .inr (.inl ⟨rfl,rfl⟩)
   ·exact .inr (.inr ⟨h1,h2,hj⟩)
 have hρk:fW ρ kp u k = ρ k:=aJ _ _ fun e=>hne e.symm
 refine ⟨hw.agree,hw.le,hw.fresh,hw.size,hw.same,fun j hj=>?_,hw.os,hw.out,hw.nl,fun j z hj=>?_⟩
 ·rw [aJ _ _ fun e=>hfx (by rw [← e]; exact hj)]; exact hw.fixed j hj
 ·rcases fX j z hj with ⟨rfl,rfl⟩ | ⟨rfl,rfl⟩ | ⟨j1,j2,j3⟩
  ·rw [aN]
   obtain ⟨xs,hx1,hx2⟩:=hro.row
   refine ⟨⟨hro.uni,x.pos,xs,hx1,hx2⟩,fun b hb=>e2 b (fu b (hb.dD rfl)),fun j' z' hj' hne' b hb hb'=>?_⟩
   have hb:=hb.dD rfl
   rcases fX j' z' hj' with ⟨rfl,rfl⟩ | ⟨rfl,rfl⟩ | ⟨i1,i2,i3⟩
   ·exact hne' rfl
   ·rw [hρk] at hb'; exact sep b hb hb'
   ·rw [aJ _ _ i1] at hb'; exact e3 j' z' i3 i2 b (fu b hb) hb'
  ·rw [hρk]
   refine ⟨⟨us,x'⟩,fun b hb=>e2 b (fk b hb),fun j' z' hj' hne' b hb hb'=>?_⟩
   rcases fX j' z' hj' with ⟨rfl,rfl⟩ | ⟨rfl,rfl⟩ | ⟨i1,i2,i3⟩
   ·rw [aN] at hb'; exact sep b (hb'.dD rfl) hb
   ·exact hne' rfl
   ·rw [aJ _ _ i1] at hb'; exact e3 j' z' i3 i2 b (fk b hb) hb'
  ·rw [aJ _ _ j1]
   obtain ⟨g1,g2,g3⟩:=hw.owned j z j3
   refine ⟨g1.nN fun q hq=>aJ _ _ fun e=>?_,g2,fun j' z' hj' hne' b hb hb'=>?_⟩
   ·subst e; rw [er hnu j3] at hq; simp at hq
   rcases fX j' z' hj' with ⟨rfl,rfl⟩ | ⟨rfl,rfl⟩ | ⟨i1,i2,i3⟩
   ·rw [aN] at hb'; exact g3 k _ hkm (fun e=>j2 e.symm) b hb (fu b (hb'.dD rfl))
   ·rw [hρk] at hb'; exact g3 _ _ hkm (fun e=>j2 e.symm) b hb (fk b hb')
   ·rw [aJ _ _ i1] at hb'; exact g3 j' z' i3 hne' b hb hb'
theorem im {o:Nat} {es:List (List CP)} (kp:Nat) (ht:cH P t) (hx:s.ev x = some (.b (.bu k o))) (hk:lk s.own k = some (.rr T e size .none ess)) (ho:o = i) (hi:ess[i]? = some es)
  (hne:kp ≠ k) (hfx:n.fix.contains kp = false) (hnu:bL kp s.own = true) :
  br P E n ⟨dst,.load t x,ty,pos,after,g⟩ s ((⟨bg kp s.slots,ins kp (.row e size es) (ins k (.rr T e size (.at i) ess) s.own)⟩:St).put n dst (.b (.row kp))):=by
 intro a w ⟨hdf,hn,h,ρ,hw,hs⟩ next Q hnext
 subst ho
 obtain ⟨b,mm,q,he,hv⟩:=(aE hs hx:BV.rel h ρ (.bu k o) _)
 obtain ⟨us,z⟩:=(hw.owned k _ (aA hk)).1
 have hlt:o < us.length:=by rw [z.len]; exact (List.getElem?_eq_some_iff.1 hi).1
 have hlen:=z.len
 obtain ⟨u,hu⟩:∃ u,us[o]? = some u:=⟨_,List.getElem?_eq_getElem hlt⟩
 rcases z.out.2 with ⟨h1,_⟩ | ⟨b',cap,cur,h1,_,h2,h3,h4,h5,h6⟩
 ·rw [h1] at he; cases he
 rw [h1] at he
 cases he
 have hcell:w.cell? ⟨b,o,none⟩ = some u:=by
  rw [cO h2]
  rw [← h6,List.getElem?_take,if_pos (by omega)] at hu
  simpa using hu
 have hrun:=cK ht (w:=w) hcell
 have hrun':(execOp a.eval ⟨dst,.load t x,ty,pos,after,g⟩).run P w = .ok (.value u) w:=by
  simp only [execOp,hv,Instr.loadAt,Instr.sureAddr]
  simp [hrun]
 unfold Oper.wp
 rw [hrun']
 refine hnext _ _ (R.put (s:=⟨bg kp s.slots,ins kp (.row e size es) (ins k (.rr T e size (.at o) ess) s.own)⟩) hdf hn (qY hw hk z hu hi hne (fun e=>by simp at hfx; exact hfx e) hnu) (hs.bg kp u) ?_)
 exact (aN _ _ _).symm
theorem wr_rrIn (hw:WR E n own h ρ w) {es:List (List CP)} (hkm:(k,OC.rr T e size (.at i) ess) ∈ own) (x:fN h (ρ k) w T e size (.at i) ess us) (hu:us[i]? = some (ρ kp)) (hpm:(kp,OC.row e size es) ∈ own) (hne:kp ≠ k) :
  WR E n (del kp (ins k (.rr T e size .none (ess.set i es)) own)) h ρ w:=by
 obtain ⟨e1,e2,e3⟩:=hw.owned k _ hkm
 obtain ⟨p1,p2,p3⟩:=hw.owned kp _ hpm
 obtain ⟨q1,q2,xs,q3,q4⟩:=p1
 have hinner:∀ j u b,us[j]? = some u → j ≠ i → aw u = some b → (OC.rr T e size (.at i) ess).bd (ρ k) w b:=fun j u b h1 h2 h3=>x.bd.2 (.inr ⟨j,u,h1,by simpa using h2,h3⟩)
 have x':fN h (ρ k) w T e size .none (ess.set i es) us:=by
  refine ⟨x.pos,by rw [List.length_set]; exact x.out,x.one,fun j u es' h1 h2 _=>?_,fun a b u1 u2 bb h1 h2 _ _ hab hb hb'=>?_,fun j u b h1 _ hb hb'=>?_⟩
  ·by_cases e0:j = i
   ·subst e0
    rw [hu] at h1
    cases h1
    rw [List.getElem?_set] at h2
    simp only [if_true] at h2
    split at h2
    ·cases h2; exact ⟨q1,xs,q3,q4⟩
    ·cases h2
   ·rw [List.getElem?_set_ne (fun e=>e0 e.symm)] at h2
    exact x.rows j u es' h1 h2 (by simpa using e0)
  ·by_cases a0:a = i
   ·subst a0
    rw [hu] at h1; cases h1
    exact e3 kp _ hpm hne bb (hinner b u2 bb h2 (fun e=>hab e.symm) hb') (.inl hb)
   ·by_cases b0:b = i
    ·subst b0
     rw [hu] at h2; cases h2
     exact e3 kp _ hpm hne bb (hinner a u1 bb h1 a0 hb) (.inl hb')
    ·exact x.sep a b u1 u2 bb h1 h2 (by simpa using a0) (by simpa using b0) hab hb hb'
  ·by_cases j0:j = i
   ·subst j0
    rw [hu] at h1; cases h1
    exact e3 kp _ hpm hne b (.inl hb') (.inl hb)
   ·exact x.self j u b h1 (by simpa using j0) hb hb'
 have fk:∀ b,(OC.rr T e size .none (ess.set i es)).bd (ρ k) w b → (OC.rr T e size (.at i) ess).bd (ρ k) w b ∨ aw (ρ kp) = some b:=fun b hb=>by
  rcases x'.bd.1 hb with h1 | ⟨j,u',h1,_,h3⟩
  ·exact .inl (.inl h1)
  ·by_cases j0:j = i
   ·subst j0
    rw [hu] at h1; cases h1
    exact .inr h3
   ·exact .inl (hinner j u' b h1 j0 h3)
 have fX:∀ j z,(j,z) ∈ del kp (ins k (OC.rr T e size .none (ess.set i es)) own) → (j = k ∧ z = .rr T e size .none (ess.set i es)) ∨ (j ≠ kp ∧ j ≠ k ∧ (j,z) ∈ own):=fun j z hj=>by
  obtain ⟨h1,h2⟩:=bB hj
  rcases c3 h1 with ⟨rfl,rfl⟩ | ⟨h3,hj⟩
  ·exact .inl ⟨rfl,rfl⟩
  ·exact .inr ⟨h2,h3,hj⟩
 refine ⟨hw.agree,hw.le,hw.fresh,hw.size,hw.same,hw.fixed,hw.os,hw.out,hw.nl,fun j z hj=>?_⟩
 rcases fX j z hj with ⟨rfl,rfl⟩ | ⟨j1,j2,j3⟩
 ·refine ⟨⟨us,x'⟩,fun b hb=>(fk b hb).elim (e2 b) fun hb=>p2 b (.inl hb),fun j' z' hj' hne' b hb hb'=>?_⟩
  rcases fX j' z' hj' with ⟨rfl,rfl⟩ | ⟨i1,i2,i3⟩
  ·exact hne' rfl
  ·rcases fk b hb with hb | hb
   ·exact e3 j' z' i3 i2 b hb hb'
   ·exact p3 j' z' i3 i1 b (.inl hb) hb'
 ·obtain ⟨g1,g2,g3⟩:=hw.owned j z j3
  refine ⟨g1,g2,fun j' z' hj' hne' b hb hb'=>?_⟩
  rcases fX j' z' hj' with ⟨rfl,rfl⟩ | ⟨i1,i2,i3⟩
  ·rcases fk b hb' with hb' | hb'
   ·exact g3 _ _ hkm (fun e=>j2 e.symm) b hb hb'
   ·exact g3 _ _ hpm (fun e=>j1 e.symm) b hb (.inl hb')
  ·exact g3 j' z' i3 hne' b hb hb'
theorem gC {o:Nat} {es:List (List CP)} {ess':List (List (List CP))} (ht:cH P t) (hx:s.ev x = some (.b (.bu k o))) (hk:lk s.own k = some (.rr T e size (.at i) ess)) (hy:s.ev y = some (.b (.row kp))) (hkp:lk s.own kp = some (.row e size es))
  (ho:o = i) (hi:i < ess.length) (hne:kp ≠ k) (he:ess.set i es = ess') :
  br P E n ⟨none,.store t x y,ty,pos,after,g⟩ s ⟨bg kp s.slots,del kp (ins k (.rr T e size .none ess') s.own)⟩:=by
 intro a w ⟨hdf,hn,h,ρ,hw,hs⟩ next Q hnext
 subst ho
 subst he
 obtain ⟨b,mm,q,hρ,hv⟩:=(aE hs hx:BV.rel h ρ (.bu k o) _)
 have hy':a.eval y = ρ kp:=(aE hs hy:BV.rel h ρ (.row kp) _)
 obtain ⟨us,z⟩:=(hw.owned k _ (aA hk)).1
 have hlen:=z.len
 have hone:(ρ kp).oneCell' = true:=by
  obtain ⟨_,_,hf⟩:=gg hw hkp
  rcases hf with ⟨h1,_⟩ | ⟨b,cap,cur,h1,_⟩ <;> rw [h1] <;> rfl
 obtain ⟨i',hi',hm⟩:=ht.size
 rcases z.out.2 with ⟨h1,_⟩ | ⟨b',cap,cur,h1,_,h2,h3,h4,h5,h6⟩
 ·rw [h1] at hρ; cases hρ
 rw [h1] at hρ
 cases hρ
 have hcells:(ρ kp).cells = #[ρ kp]:=by cases hq:ρ kp <;> first | rfl | (rw [hq] at hone; simp [Value.oneCell'] at hone)
 have hrun:=dL (P:=P) (t:=t) hi' hm h2 (v:=ρ kp) (o:=o) (by rw [hcells]; rfl) (by omega) (by rw [hcells]; simpa using hone)
 have hrun':(execOp a.eval ⟨none,.store t x y,ty,pos,after,g⟩).run P w = .ok .skip (w.setRow b (Sk.bE cur.toList o (ρ kp).cells.toList).toArray):=by
  simp only [execOp,hv,hy',Instr.storeAt,Instr.sureAddr]
  simp [hrun]
 have hset:Sk.bE cur.toList o (ρ kp).cells.toList = cur.toList.set o (ρ kp):=by
  rw [hcells]
  have:o < cur.toList.length:=by simp; omega
  simp only [Sk.bE,List.length_cons,List.length_nil]
  rw [List.set_eq_take_append_cons_drop,if_pos this]
  simp
 rw [hset] at hrun'
 unfold Oper.wp
 rw [hrun']
 have hz':fN h (ρ k) (w.setRow b (cur.toList.set o (ρ kp)).toArray) T e size (.at o) ess (us.set o (ρ kp)):=by
  refine ⟨z.pos,⟨by rw [List.length_set]; exact z.out.1,.inr ⟨b,q,_,h1,Nat.zero_le _,setRow_heap _ _ _ _ _ _ h2,h3,h4,by simp [h5],?_⟩⟩,fun u hu=>?_,fun j u es' g1 g2 g3=>?_,fun c d u1 u2 bb g1 g2 g3 g4=>?_,fun j u bb g1 g2=>?_⟩
  ·rw [← h6]
   show (cur.toList.set o (ρ kp)).take _ = _
   rw [List.take_set]
  ·rcases List.mem_or_eq_of_mem_set hu with hu | rfl
   ·exact z.one u hu
   ·exact hone
  ·have j0:o ≠ j:=fun e=>g3 e.symm
   rw [List.getElem?_set_ne j0] at g1
   exact (z.rows j u es' g1 g2 g3).congr fun bb hb=>setRow_other _ _ _ _ fun e=>z.self j u bb g1 g3 hb (by rw [h1,← e]; rfl)
  ·have c0:o ≠ c:=fun e=>g3 e.symm
   have d0:o ≠ d:=fun e=>g4 e.symm
   rw [List.getElem?_set_ne c0] at g1
   rw [List.getElem?_set_ne d0] at g2
   exact z.sep c d u1 u2 bb g1 g2 g3 g4
  ·have j0:o ≠ j:=fun e=>g2 e.symm
   rw [List.getElem?_set_ne j0] at g1
   exact z.self j u bb g1 g2
 have hst:=hw.lE (w':=w.setRow b (cur.toList.set o (ρ kp)).toArray) k (ρ k) (.rr T e size (.at o) ess) (some b) (fun b' e=>by cases e; exact ⟨_,aA hk,.inl (by rw [h1]; rfl)⟩) (by simp) rfl rfl
  (fun b' _ hne=>setRow_other _ _ _ _ (fun e=>hne (by rw [e]))) ⟨_,hz'⟩ (fun bb hb=>.inl ⟨_,aA hk,by
   rcases hz'.bd.1 hb with g1 | ⟨j,u,g1,g2,g3⟩
   ·exact .inl g1
   ·have j0:o ≠ j:=fun e=>g2 e.symm
    rw [List.getElem?_set_ne j0] at g1
    exact z.bd.2 (.inr ⟨j,u,g1,g2,g3⟩)⟩) (.inl rfl) (.inl rfl)
 rw [dt] at hst
 have hself:∀ {c:OC} {l:List (Nat × OC)},(k,c) ∈ ins k c l:=fun {c l}=>by
  induction l with
  | nil=>simp [ins]
  | cons p l ih=>
   obtain ⟨j,d⟩:=p
   unfold ins
   split
   ·exact List.mem_cons_self
   ·exact List.mem_cons_of_mem _ ih
 have hin:=(wr_rrIn (kp:=kp) hst hself hz' (by rw [List.getElem?_set,if_pos rfl,if_pos (by omega)]) (gl (aA hkp) hne) hne).sub (own':=del kp (ins k (.rr T e size .none (ess.set o es)) s.own)) fun p hp=>by
  obtain ⟨j,z⟩:=p
  obtain ⟨g1,g2⟩:=bB hp
  refine dG ?_ g2
  rcases c3 g1 with ⟨rfl,rfl⟩ | ⟨g3,g4⟩
  ·exact hself
  ·exact gl (gl g4 g3) g3
 exact hnext _ _ ⟨hdf,hn,h,ρ,hin,fun j q hq=>hs j q (cS hq).1⟩
theorem R.dK {a:Act} (hr:R E n s a w) (hk:lk s.own k = some (.rr T e size .none ess)):R E n ⟨eX k (.sl 1 (ess.map fun es=>[.sl size es])) s.slots,eF k (.sl 1 (ess.map fun es=>[.sl size es])) (del k s.own)⟩ a w:=by
 obtain ⟨h1,h2,h,ρ,hw,hs⟩:=hr
 obtain ⟨e1,e2,e3⟩:=hw.owned k _ (aA hk)
 obtain ⟨us,x⟩:=id e1
 classical
 obtain ⟨h',hh'⟩:∃ h':PH,∀ b o,h' b o = if (OC.rr T e size .none ess).bd (ρ k) w b then look w b o else h b o:=⟨fun b o=>if (OC.rr T e size .none ess).bd (ρ k) w b then look w b o else h b o,fun _ _=>rfl⟩
 have hle:h.le h':=fun b o v hv=>by
  rw [hh']
  split
  ·next hf=>rw [(e2 b hf).2 o] at hv; cases hv
  ·exact hv
 have hrows:∀ (i:Nat) u es,us[i]? = some u → ess[i]? = some es → (CP.sl size es).rel h' u:=fun i u es hu hes=>by
  obtain ⟨q1,xs,q2,q3⟩:=x.rows i u es hu hes (by simp)
  refine ⟨q1,x.pos,?_⟩
  rcases q2.2 with ⟨rfl,h4⟩ | ⟨g,cap,cur,rfl,_,h5,h6,h7,h8,h9⟩
  ·exact .inl ⟨rfl,List.length_eq_zero_iff.1 h4⟩
  ·refine .inr (.inl ⟨g,0,cap,rfl,h6,h7,fun j c hc=>?_⟩)
   obtain ⟨z,hz,hcz⟩:=q3.get j c hc
   refine ⟨z,?_,c.mono hle hcz⟩
   rw [hh',if_pos (x.bd.2 (.inr ⟨i,_,hu,by simp,rfl⟩)),Nat.zero_add]
   refine ee h5 ?_ (c.one hcz)
   rw [← h9,List.getElem?_take] at hz
   split at hz
   ·simpa using hz
   ·cases hz
 have hsl:(CP.sl 1 (ess.map fun es=>[.sl size es])).rel h' (ρ k):=by
  refine ⟨fun ps hps=>by obtain ⟨_,_,rfl⟩:=List.mem_map.1 hps; rfl,by decide,?_⟩
  have hlen:=x.len
  rcases x.out.2 with ⟨hv,h4⟩ | ⟨g,cap,cur,hv,_,h5,h6,h7,h8,h9⟩
  ·exact .inl ⟨hv,by rw [List.length_eq_zero_iff.1 h4]; rfl⟩
  ·refine .inr (.inl ⟨g,0,cap,by rw [List.length_map]; exact hv,by simpa using h6,h7,fun j c hc=>?_⟩)
   have hfl:(ess.map fun es=>[CP.sl size es]).flatten = ess.map fun es=>CP.sl size es:=by
    exact flat1 ess
   rw [hfl,List.getElem?_map] at hc
   obtain ⟨es,hes,rfl⟩:=Option.map_eq_some_iff.1 hc
   have hj:j < us.length:=by rw [hlen]; exact (List.getElem?_eq_some_iff.1 hes).1
   obtain ⟨u,hu⟩:∃ u,us[j]? = some u:=⟨_,List.getElem?_eq_getElem hj⟩
   refine ⟨u,?_,hrows j u es hu hes⟩
   rw [hh',if_pos (x.bd.2 (.inl (by rw [hv]; rfl))),Nat.zero_add]
   refine ee h5 ?_ (x.one u (List.mem_of_getElem? hu))
   rw [← h9,List.getElem?_take] at hu
   split at hu
   ·simpa using hu
   ·cases hu
 refine ⟨h1,h2,h',ρ,WR.eF (k:=k) (p:=.sl 1 (ess.map fun es=>[.sl size es])) (own:=del k s.own) ⟨fun b o v hv=>?_,PH.le_trans hw.le hle,fun b hb hnl=>?_,hw.size,hw.same,hw.fixed,hw.os,hw.out,hw.nl,fun j c hj=>?_⟩ hsl,?_⟩
 ·rw [hh'] at hv
  split at hv
  ·exact hv
  ·exact hw.agree b o v hv
 ·rw [← hw.fresh b hb hnl]
  funext o
  rw [hh',if_neg fun hf=>by
   rcases (e2 b hf).1 with h | h
   ·omega
   ·exact hnl h]
 ·obtain ⟨hj1,hj2⟩:=bB hj
  obtain ⟨g1,g2,g3⟩:=hw.owned j c hj1
  refine ⟨g1.mono hle,fun b hb=>⟨(g2 b hb).1,fun o=>?_⟩,fun j' c' hj'=>g3 j' c' (bB hj').1⟩
  rw [hh',if_neg fun hf=>g3 k _ (aA hk) (fun e=>hj2 e.symm) b hb hf]
  exact (g2 b hb).2 o
 ·intro j q hq
  obtain ⟨y,hy,rfl⟩:=jy hq
  obtain ⟨v,hv,hrel⟩:=hs j y hy
  exact ⟨v,hv,SV.c8 hsl (SV.mono hle (fun _ _=>rfl) hrel)⟩
end
end Go.Sk
namespace Go.Sk
set_option linter.unusedSimpArgs false
set_option linter.unusedVariables false
open Go Go.BigFrame
theorem aI.qA {α β:Type} {r:α → β → Prop}:∀ {xs:List α} {bs bs':List β},aI r xs (bs ++ bs') → ∃ a1 a2,xs = a1 ++ a2 ∧ aI r a1 bs ∧ aI r a2 bs'
 | xs,[],_,h=>⟨[],xs,rfl,.nil,h⟩
 | _ :: _,_ :: _,_,.cons h t=>by
  obtain ⟨a1,a2,rfl,h1,h2⟩:=aI.qA t
  exact ⟨_ :: a1,a2,rfl,.cons h h1,h2⟩
section
variable {P:Program} {TB:bc} {E:Env TB} {n:Sh} {s:St} {dst:Option Nat} {t ty yt:TypeId} {pos:String} {after:Array Edge} {g:Option (Nat × Bool)} {x y c:Operand} {Q:bU} {cd:Code} {ops:Array Oper} {l:List Oper} {o:Oper}
variable {own:List (Nat × OC)} {h:PH} {ρ:RM} {w:World} {k kp i size bytes:Nat} {T e:TypeId} {hole:mD} {ess:List (List (List CP))} {us:List Value} {v:Value}
variable {j ki:Nat} {m rest:bf} {cur:Option (Int × Int)}
theorem ab.kq (i k size:Nat) (T e:TypeId) (hi:s.get i = some (.b (.one .nil))) (hz:0 < size) (hfx:n.fix.contains k = false) (hc:ab P E n cd ⟨(i,.b (.row k)) :: del i (bg k s.slots),ins k (.rr T e size .none []) s.own⟩ Q) (hnu:bL k s.own = true:=by rfl):ab P E n cd s Q:=fun a w hr=>hc a w (hr.kq hi hz hfx hnu)
theorem ae.kq (i k size:Nat) (T e:TypeId) (hi:s.get i = some (.b (.one .nil))) (hz:0 < size) (hfx:n.fix.contains k = false) (hc:ae P E n ops l ⟨(i,.b (.row k)) :: del i (bg k s.slots),ins k (.rr T e size .none []) s.own⟩ Q) (hnu:bL k s.own = true:=by rfl):ae P E n ops l s Q:=fun a w hr=>hc a w (hr.kq hi hz hfx hnu)
theorem Fin.kq {ex:Exit} (i k size:Nat) (T e:TypeId) (hi:s.get i = some (.b (.one .nil))) (hz:0 < size) (hfx:n.fix.contains k = false) (hc:Fin E n ex ⟨(i,.b (.row k)) :: del i (bg k s.slots),ins k (.rr T e size .none []) s.own⟩ Q) (hnu:bL k s.own = true:=by rfl):Fin E n ex s Q:=fun a w hr=>hc a w (hr.kq hi hz hfx hnu)
theorem ab.dK (k:Nat) (hk:lk s.own k = some (.rr T e size .none ess)) (hc:ab P E n cd ⟨eX k (.sl 1 (ess.map fun es=>[.sl size es])) s.slots,eF k (.sl 1 (ess.map fun es=>[.sl size es])) (del k s.own)⟩ Q):ab P E n cd s Q:=fun a w hr=>hc a w (hr.dK hk)
theorem ae.dK (k:Nat) (hk:lk s.own k = some (.rr T e size .none ess)) (hc:ae P E n ops l ⟨eX k (.sl 1 (ess.map fun es=>[.sl size es])) s.slots,eF k (.sl 1 (ess.map fun es=>[.sl size es])) (del k s.own)⟩ Q):ae P E n ops l s Q:=fun a w hr=>hc a w (hr.dK hk)
theorem Fin.dK {ex:Exit} (k:Nat) (hk:lk s.own k = some (.rr T e size .none ess)) (hc:Fin E n ex ⟨eX k (.sl 1 (ess.map fun es=>[.sl size es])) s.slots,eF k (.sl 1 (ess.map fun es=>[.sl size es])) (del k s.own)⟩ Q):Fin E n ex s Q:=fun a w hr=>hc a w (hr.dK hk)
theorem ab.oA (k:Nat) (e:TypeId) (size:Nat) {es:List (List CP)} {q:List (List (List CP))} (hk:lk s.own k = some (.row T 1 es)) (hes:∀ ps ∈ es,ps = [.nil]) (hz:0 < size) (hq:(es.map fun _=>([]:List (List CP))) = q) (hc:ab P E n cd ⟨s.slots,ins k (.rr T e size .none q) s.own⟩ Q):ab P E n cd s Q:=fun a w hr=>hc a w (hq ▸ hr.oA k e size hk hes hz)
theorem ae.oA (k:Nat) (e:TypeId) (size:Nat) {es:List (List CP)} {q:List (List (List CP))} (hk:lk s.own k = some (.row T 1 es)) (hes:∀ ps ∈ es,ps = [.nil]) (hz:0 < size) (hq:(es.map fun _=>([]:List (List CP))) = q) (hc:ae P E n ops l ⟨s.slots,ins k (.rr T e size .none q) s.own⟩ Q):ae P E n ops l s Q:=fun a w hr=>hc a w (hq ▸ hr.oA k e size hk hes hz)
def xcv:List BV → Option (List CV)
 | []=>some []
 | z :: l=>(BV.cv z).bind fun q=>(xcv l).map fun r=>q :: r
theorem nu:∀ {zs:List BV} {cs:List CV} {vs:List Value},xcv zs = some cs → aI (fun (x:BV) u=>x.rel h ρ u ∧ u.oneCell' = true) zs vs → aI (fun (x:CV) u=>x.rel h ρ u ∧ u.oneCell' = true) cs vs
 | [],cs,_,hc,.nil=>by cases hc; exact .nil
 | z :: zs,cs,_,hc,.cons h1 t=>by
  unfold xcv at hc
  simp only [Option.bind_eq_some_iff,Option.map_eq_some_iff] at hc
  obtain ⟨q,hq,r,hr,rfl⟩:=hc
  exact .cons ⟨BV.qT hq h1.1,h1.2⟩ (nu hr t)
theorem br.res {s1:St} {d:Option Nat} {z z':SV} (h1:br P E n o s (s1.put n d z)) (hz:∀ h ρ v,z.rel h ρ v → z'.rel h ρ v):br P E n o s (s1.put n d z'):=fun a w hr next Q hn=>h1 a w hr next Q fun a' w' hr'=>hn a' w' (by
 cases d with
 | none=>exact hr'
 | some d=>
  simp only [St.put,St.set] at hr' ⊢
  split at hr'
  ·next hd=>
   rw [if_pos hd]
   obtain ⟨h1,h2,h,ρ,hw,hs⟩:=hr'
   refine ⟨h1,h2,h,ρ,hw,fun j q hq=>?_⟩
   cases List.mem_cons.1 hq with
   | inl e=>
    obtain ⟨rfl,rfl⟩:=Prod.mk.inj e
    obtain ⟨u,hu,hrel⟩:=hs j z List.mem_cons_self
    exact ⟨u,hu,hz _ _ _ hrel⟩
   | inr e=>exact hs j q (List.mem_cons_of_mem _ e)
  ·next hd=>rw [if_neg hd]; exact hr')
theorem br.jP {s1:St} {d:Option Nat} {zs:List BV} {cs:List CV} (h1:br P E n o s (s1.put n d (.fY zs))) (hc:xcv zs = some cs):br P E n o s (s1.put n d (.b (.xa cs))) :=
 h1.res fun h ρ v ⟨vs,e,ha⟩=>⟨vs,e,nu hc ha⟩
theorem jx {T k:Nat} {cs:List CV} {zs:List BV} (hx:s.ev x = some (.b (.xa cs))) (hz:cs.map CV.bv = zs) (hfx:n.fix.contains k = false) (hself:(zs.any (·.bt k)) = false) (hnu:bL k s.own = true:=by rfl):br P E n ⟨dst,.box T x,ty,pos,after,g⟩ s ((⟨bg k s.slots,ins k (.ao T zs) s.own⟩:St).put n dst (.b (.ptr k 0))) :=
 br.make (hfx:=hfx) (hnu:=hnu) (o:=⟨dst,.box T x,ty,pos,after,g⟩) fun ac w h ρ hw hs=>by
  obtain ⟨vs,hv,hr⟩:=(aE hs hx:BV.rel h ρ (.xa cs) _)
  have hr:=CV.bvX hr
  rw [hz] at hr
  refine ⟨.pointer (some ⟨w.heap.size,0,none⟩),.pointer (some ⟨w.heap.size,0,none⟩),w.alloc (.cells vs T),none,?_,fun b e=>by simp at e,by simp,rfl,rfl,fun b hb _=>heap_alloc_old w _ hb,OC.ok.nN (c:=.ao T zs) ⟨w.heap.size,vs,rfl,heap_alloc_new w _,hr⟩ fun j hj=>aJ _ _ fun e=>by subst e; simp only [OC.bt] at hj; rw [hself] at hj; simp at hj,
   fun b e=>by simp [aw] at e; subst e; exact .inr (Nat.le_refl _),w.heap.size,aN _ _ _,rfl⟩
  simp only [execOp,hv]
  simp [Instr.box,newVar,newRow,Value.cells]
theorem ez {k off m:Nat} {T:TypeId} {cs cs':List BV} {z:SV} {qs:List BV} (ht:iC P t m) (hx:s.ev x = some (.b (.ptr k off))) (hk:lk s.own k = some (.ao T cs)) (hy:s.ev y = some z) (hz:z.jQ s.own = some qs) (hq:qs.length = m) (hlt:off + m ≤ cs.length) (hps:Sk.bE cs off qs = cs') :
  br P E n ⟨none,.store t x y,ty,pos,after,g⟩ s ⟨s.slots,ins k (.ao T cs') s.own⟩ :=
 br.store (o:=⟨none,.store t x y,ty,pos,after,g⟩) rfl fun ac w h ρ hw hs=>by
  obtain ⟨b,he,hv⟩:=(aE hs hx:BV.rel h ρ (.ptr k off) _)
  obtain ⟨b',cur,hb1,hb2,hb3⟩:=di hw hk
  have:b' = b:=by rw [hb1] at he; simpa using he
  subst this
  have hcr:=SV.mb hw hz (aE hs hy)
  obtain ⟨i,hi,hm⟩:=ht.size
  have hlen:=hb3.length
  have hlen2:=hcr.length
  have hone:∀ u ∈ (ac.eval y).cells.toList,u.oneCell' = true:=fun u hu=>by
   obtain ⟨q,_,hq⟩:=aI.lq hcr hu
   exact hq.2
  have hrun:=dL (P:=P) (t:=t) hi hm hb2 (v:=ac.eval y) (o:=off) (by simp at hlen2; omega) (by simp at hlen; omega) hone
  refine ⟨_,by simp only [execOp,hv,Instr.storeAt,Instr.sureAddr]; simp [hrun]; rfl,?_⟩
  refine hw.setX hk hb1 hb2 ?_
  rw [← hps]
  exact aI.bE hb3 hcr off
theorem q6 (hw:WR E n own h ρ w) (hk:lk own j = some (.mq m)) {b clk:Nat} {ms:Array MapEntry} (hρ:ρ j = .map (some b)) (hb:w.heap[b]? = some (.map ms clk)) (he:lX m ms.toList) (ho:iR clk ms.toList) (hne:ki ≠ j) (hfx:ki ∉ n.fix) (hnu:bL ki own = true) :
  WR E n (ins ki (.fL j m m none) (del j own)) h (fW ρ ki (.pointer (some ⟨w.heap.size,0,none⟩))) (w.alloc (.mapIter (some b) clk #[] clk)):=by
 have hjm:=aA hk
 obtain ⟨e1,e2,e3⟩:=hw.owned j _ hjm
 have hold:∀ b,b < w.heap.size → (w.alloc (.mapIter (some b) clk #[] clk)).heap[b]? = w.heap[b]?:=fun b hb=>heap_alloc_old w _ hb
 have holdg:∀ b0 b,b < w.heap.size → (w.alloc (.mapIter (some b0) clk #[] clk)).heap[b]? = w.heap[b]?:=fun b0 b hb=>heap_alloc_old w _ hb
 have hnew:(w.alloc (.mapIter (some b) clk #[] clk)).heap[w.heap.size]? = some (.mapIter (some b) clk #[] clk):=heap_alloc_new w _
 have hρj:fW ρ ki (.pointer (some ⟨w.heap.size,0,none⟩)) j = ρ j:=aJ _ _ fun e=>hne e.symm
 have hblt:b < w.heap.size:=e1.lt (.inl (by rw [hρ]; rfl))
 have hx:qy (fW ρ ki (.pointer (some ⟨w.heap.size,0,none⟩))) (.pointer (some ⟨w.heap.size,0,none⟩)) (w.alloc (.mapIter (some b) clk #[] clk)) j m m none b ms clk w.heap.size #[] :=
  ⟨rfl,hnew,hρj.trans hρ,by rw [holdg b b hblt]; exact hb,he,ho,by
   have:(ms.toList.filter fun e=>!(#[]:Array Nat).contains e.born) = ms.toList:=List.filter_eq_self.2 fun e _=>by simp
   rw [this]; exact he,fun p hp=>by cases hp⟩
 have hfoot:∀ b',(OC.fL j m m none).bd (.pointer (some ⟨w.heap.size,0,none⟩)) (w.alloc (.mapIter (some b) clk #[] clk)) b' → b' = w.heap.size ∨ b' = b:=fun b' hf=>by
  rcases hf with h1 | ⟨D,s1,s2,s3,h1,h2⟩
  ·cases h1; exact .inl rfl
  ·cases h1
   rw [hnew] at h2
   cases h2
   exact .inr rfl
 have hnone:∀ o,h w.heap.size o = none:=fun o=>by
  cases e:h w.heap.size o with
  | none=>rfl
  | some u=>have:=dF (hw.agree _ o u e); omega
 have fX:∀ q z,(q,z) ∈ ins ki (OC.fL j m m none) (del j own) → (q = ki ∧ z = .fL j m m none) ∨ (q ≠ ki ∧ q ≠ j ∧ (q,z) ∈ own):=fun q z hq=>by
  rcases c3 hq with ⟨rfl,rfl⟩ | ⟨h1,hq⟩
  ·exact .inl ⟨rfl,rfl⟩
  ·exact .inr ⟨h1,(bB hq).2,(bB hq).1⟩
 have hft:∀ q z,(q,z) ∈ own → ∀ b',z.bd (ρ q) (w.alloc (.mapIter (some b) clk #[] clk)) b' → z.bd (ρ q) w b':=fun q z hq b'=>OC.bd.congr fun b2 hb2=>holdg b b2 ((hw.owned q z hq).1.lt (.inl hb2))
 refine ⟨fun b' o u hu=>?_,hw.le,hw.fresh,Nat.le_trans hw.size (by simp),fun b' hb' hl=>?_,fun q hq=>?_,hw.os,hw.out,hw.nl,fun q z hq=>?_⟩
 ·have:=hw.agree b' o u hu
  rw [gk (holdg b b' (dF this))]; exact this
 ·rw [holdg b b' (Nat.lt_of_lt_of_le hb' hw.size)]; exact hw.same b' hb' hl
 ·rw [aJ _ _ fun e=>hfx (by rw [← e]; exact hq)]; exact hw.fixed q hq
 ·rcases fX q z hq with ⟨rfl,rfl⟩ | ⟨q1,q2,q3⟩
  ·rw [aN]
   refine ⟨⟨b,ms,clk,w.heap.size,#[],hx⟩,fun b' hb'=>?_,fun q' z' hq' hne' b' hb' hb2=>?_⟩
   ·rcases hfoot b' hb' with e0 | e0
    ·rw [e0]; exact ⟨.inl hw.size,hnone⟩
    ·exact e2 b' (.inl (by rw [hρ,e0]; rfl))
   ·rcases fX q' z' hq' with ⟨rfl,rfl⟩ | ⟨i1,i2,i3⟩
    ·exact hne' rfl
    ·rw [aJ _ _ i1] at hb2
     have hb3:=hft q' z' i3 b' hb2
     rcases hfoot b' hb' with e0 | e0
     ·have:=(hw.owned q' z' i3).1.lt hb3; omega
     ·exact e3 q' z' i3 i2 b' (.inl (by rw [hρ,e0]; rfl)) hb3
  ·rw [aJ _ _ q1]
   obtain ⟨g1,g2,g3⟩:=hw.owned q z q3
   refine ⟨(g1.congr fun b' hb'=>holdg b b' (g1.lt hb')).nN fun r hr=>aJ _ _ fun e=>?_,fun b' hb'=>g2 b' (hft q z q3 b' hb'),fun q' z' hq' hne' b' hb' hb2=>?_⟩
   ·subst e; rw [er hnu q3] at hr; simp at hr
   have hb3:=hft q z q3 b' hb'
   rcases fX q' z' hq' with ⟨rfl,rfl⟩ | ⟨i1,i2,i3⟩
   ·rw [aN] at hb2
    rcases hfoot b' hb2 with e0 | e0
    ·have:=g1.lt hb3; omega
    ·exact g3 j _ hjm (fun e=>q2 e.symm) b' hb3 (.inl (by rw [hρ,e0]; rfl))
   ·rw [aJ _ _ i1] at hb2
    exact g3 q' z' i3 hne' b' hb3 (hft q' z' i3 b' hb2)
theorem kI {kt et:TypeId} (ki:Nat) (hu:P.underlying t = some (.map kt et)) (hx:s.ev x = some (.b (.row j))) (hk:lk s.own j = some (.mq m)) (hne:ki ≠ j) (hfx:n.fix.contains ki = false) (hnu:bL ki s.own = true) :
  br P E n ⟨dst,.range t x,ty,pos,after,g⟩ s ((⟨bg ki s.slots,ins ki (.fL j m m none) (del j s.own)⟩:St).put n dst (.b (.ptr ki 0))):=by
 intro a w ⟨hdf,hn,h,ρ,hw,hs⟩ next Q hnext
 have hv:a.eval x = ρ j:=(aE hs hx:BV.rel h ρ (.row j) _)
 obtain ⟨b,ms,clk,h1,h2,h3,h4⟩:=(hw.owned j _ (aA hk)).1
 have hrun:(execOp a.eval ⟨dst,.range t x,ty,pos,after,g⟩).run P w = .ok (.value (.pointer (some ⟨w.heap.size,0,none⟩))) (w.alloc (.mapIter (some b) clk #[] clk)):=by
  simp only [execOp,hv,h1]
  simp [Instr.range,run_underlying hu,newObj,getObj,Sem.run,Result.andThen,h2]
 unfold Oper.wp
 rw [hrun]
 exact hnext _ _ (R.put (s:=⟨bg ki s.slots,ins ki (.fL j m m none) (del j s.own)⟩) hdf hn (q6 hw hk h1 h2 h3 h4 hne (fun e=>by simp at hfx; exact hfx e) hnu) (hs.bg ki _) ⟨w.heap.size,aN _ _ _,rfl⟩)
theorem filter_push {ms:List MapEntry} {seen:Array Nat} {x:Nat}:(ms.filter fun e=>!(seen.push x).contains e.born) = (ms.filter fun e=>!seen.contains e.born).filter fun e=>decide (e.born ≠ x):=by
 rw [List.filter_filter]
 refine List.filter_congr fun e _=>?_
 by_cases h:e.born = x
 ·subst h; simp
 ·simp [h]
theorem pe {l1 l2:List MapEntry} {e:MapEntry} (hn:((l1 ++ e :: l2).map (·.born)).Nodup):((l1 ++ e :: l2).filter fun x=>decide (x.born ≠ e.born)) = l1 ++ l2:=by
 rw [List.map_append,List.map_cons,List.nodup_append] at hn
 obtain ⟨h1,h2,h3⟩:=hn
 rw [List.nodup_cons] at h2
 rw [List.filter_append,List.filter_cons]
 have e1:l1.filter (fun x=>decide (x.born ≠ e.born)) = l1:=List.filter_eq_self.2 fun x hx=>decide_eq_true fun he=>h3 x.born (List.mem_map.2 ⟨x,hx,rfl⟩) e.born List.mem_cons_self he
 have e2:l2.filter (fun x=>decide (x.born ≠ e.born)) = l2:=List.filter_eq_self.2 fun x hx=>decide_eq_true fun he=>h2.1 (List.mem_map.2 ⟨x,hx,he⟩)
 rw [e1,e2]
 simp
theorem ae.nextM (hx:s.ev x = some (.b (.ptr ki 0))) (hk:lk s.own ki = some (.fL j m rest cur)) (hnj:(ki == j) = false)
  (h1:rest = [] → ae P E n ops l (s.put n dst (.eo [.one (.bool false)])) Q)
  (h2:∀ p r1 r2,rest = r1 ++ p :: r2 → ae P E n ops l ((⟨s.slots,ins ki (.fL j m (r1 ++ r2) (some p)) s.own⟩:St).put n dst (.eo [.one (.bool true),.one (.i p.1),.one (.i p.2)])) Q) :
  ae P E n ops (⟨dst,.next x false,ty,pos,after,none⟩ :: l) s Q:=by
 intro a w hr
 unfold qj
 have:∀ tmps,Region.wanted ⟨dst,.next x false,ty,pos,after,none⟩ (yielded ops tmps) = true:=fun _=>rfl
 simp only [this,if_true]
 obtain ⟨hdf,hn,h,ρ,hw,hs⟩:=id hr
 obtain ⟨D',he,hv⟩:=(aE hs hx:BV.rel h ρ (.ptr ki 0) _)
 obtain ⟨b,ms,clk,D,seen,q⟩:=(hw.owned ki _ (aA hk)).1
 have:D' = D:=by have:=q.ptr; rw [this] at he; cases he; rfl
 subst this
 rcases run_next_at (P:=P) w ty D' b clk clk seen ms clk q.it q.obj (fun e he=>q.born.1 e he) (Nat.le_refl _) with ⟨g1,g2⟩ | ⟨e,hm,w1,hw1,g2⟩
 ·have hr0:rest = []:=by
   have hlen:=q.left.length
   have:(ms.toList.filter fun e=>!seen.contains e.born).length = 0:=by
    have:(leftOf ms seen).toList = ms.toList.filter fun e=>!seen.contains e.born:=by unfold leftOf; rw [Array.toList_filter]
    rw [← this]
    simpa using g1
   rw [this] at hlen
   exact List.length_eq_zero_iff.1 hlen
  unfold Oper.wp
  have hrun:(execOp a.eval ⟨dst,.next x false,ty,pos,after,none⟩).run P w = .ok (.value (.tuple #[.bool false])) w:=by
   simp only [execOp,hv]
   rw [Sem.run_bind,g2]
   rfl
  rw [hrun]
  exact h1 hr0 _ _ (R.put (s:=s) hdf hn hw hs ⟨_,rfl,.cons rfl .nil⟩)
 ·have hm':e ∈ ms.toList.filter fun e=>!seen.contains e.born:=by
   have:(leftOf ms seen).toList = ms.toList.filter fun e=>!seen.contains e.born:=by unfold leftOf; rw [Array.toList_filter]
   rw [← this]; exact hm
  obtain ⟨l1,l2,hl⟩:=List.append_of_mem hm'
  have hleft:=q.left
  rw [hl] at hleft
  obtain ⟨r1,r2',rfl,hr1,hr2⟩:=aI.qA hleft
  cases hr2 with
  | @cons p _ r2 _ hp hr2=>
  have hnd:((ms.toList.filter fun e=>!seen.contains e.born).map (·.born)).Nodup:=List.Pairwise.sublist (List.Sublist.map _ List.filter_sublist) q.born.2
  have hem:e ∈ ms.toList:=(List.mem_filter.1 hm').1
  have hheap:w1.heap = w.heap:=by rcases hw1 with rfl | rfl <;> rfl
  have hos:w1.os = w.os:=by rcases hw1 with rfl | rfl <;> rfl
  have hout:w1.output = w.output:=by rcases hw1 with rfl | rfl <;> rfl
  have hDlt:D' < w.heap.size:=by
   rcases Nat.lt_or_ge D' w.heap.size with h | h
   ·exact h
   ·have:=q.it; simp [Array.getElem?_eq_none h] at this
  have hsame:∀ b',b' ≠ D' → (ChangeMaps.setBlock w1 D' (.mapIter (some b) clk (seen.push e.born) clk)).heap[b']? = w.heap[b']?:=fun b' hb'=>by
   show (w1.heap.setIfInBounds D' _)[b']? = _
   rw [hheap,Array.getElem?_setIfInBounds_ne (fun e=>hb' e.symm)]
  have hnew:(ChangeMaps.setBlock w1 D' (.mapIter (some b) clk (seen.push e.born) clk)).heap[D']? = some (.mapIter (some b) clk (seen.push e.born) clk):=by
   show (w1.heap.setIfInBounds D' _)[D']? = _
   rw [hheap]; simp [hDlt]
  have hbD:b ≠ D':=fun e=>by have h1:=q.obj; have h2:=q.it; rw [e,h2] at h1; cases h1
  have hq:qy ρ (ρ ki) (ChangeMaps.setBlock w1 D' (.mapIter (some b) clk (seen.push e.born) clk)) j m (r1 ++ r2) (some p) b ms clk D' (seen.push e.born):=by
   refine ⟨q.ptr,hnew,q.map,by rw [hsame b hbD]; exact q.obj,q.ents,q.born,?_,fun p' hp'=>?_⟩
   ·rw [filter_push,hl,pe (hl ▸ hnd)]
    exact aI.append hr1 hr2
   ·cases hp'
    exact ⟨e,seen,hem,rfl,hp.1,hp.2⟩
  have hupd:fW ρ ki (ρ ki) = ρ:=dt ρ ki
  have hst:=hw.lE (w':=ChangeMaps.setBlock w1 D' (.mapIter (some b) clk (seen.push e.born) clk)) ki (ρ ki) (.fL j m (r1 ++ r2) (some p)) (some D') (fun b' eb=>by cases eb; exact ⟨_,aA hk,.inl (by rw [q.ptr]; rfl)⟩)
   (by show _ ≤ (w1.heap.setIfInBounds D' _).size; rw [hheap]; simp) hos hout (fun b' _ hne=>hsame b' fun eb=>hne (by rw [eb])) (by rw [hupd]; exact ⟨b,ms,clk,D',_,hq⟩)
   (fun b' hb'=>.inl ⟨_,aA hk,by
    rcases hb' with h1 | ⟨D2,s1,s2,s3,h1,h2⟩
    ·exact .inl h1
    ·rw [q.ptr] at h1
     cases h1
     rw [hnew] at h2
     cases h2
     exact .inr ⟨D',clk,seen,clk,by rw [q.ptr]; rfl,q.it⟩⟩) (.inl rfl) (.inl rfl)
  rw [hupd] at hst
  have hrun:(execOp a.eval ⟨dst,.next x false,ty,pos,after,none⟩).run P w = .ok (.value (.tuple #[.bool true,e.key,e.val])) (ChangeMaps.setBlock w1 D' (.mapIter (some b) clk (seen.push e.born) clk)):=by
   simp only [execOp,hv]
   rw [Sem.run_bind,g2]
   rfl
  unfold Oper.wp
  rw [hrun]
  exact h2 p r1 r2 rfl _ _ (R.put (s:=⟨s.slots,ins ki (.fL j m (r1 ++ r2) (some p)) s.own⟩) hdf hn hst hs ⟨_,rfl,.cons rfl (.cons hp.1 (.cons hp.2 .nil))⟩)
theorem kJ {p:Int × Int} (hx:s.ev x = some (.b (.ptr ki 0))) (hk:lk s.own ki = some (.fL j m rest (some p))) :
  br P E n ⟨dst,.entry x,ty,pos,after,g⟩ s (s.put n dst (.eo [.one (.i p.1),.one (.i p.2)])) :=
 br.val (o:=⟨dst,.entry x,ty,pos,after,g⟩) fun ac w h ρ hw hs=>by
  obtain ⟨D',he,hv⟩:=(aE hs hx:BV.rel h ρ (.ptr ki 0) _)
  obtain ⟨b,ms,clk,D,seen,q⟩:=(hw.owned ki _ (aA hk)).1
  have:D' = D:=by have:=q.ptr; rw [this] at he; cases he; rfl
  subst this
  obtain ⟨e,seen',h1,rfl,h3,h4⟩:=q.at_ p rfl
  have hrun:=run_entry_at (P:=P) w D' b clk seen' ms clk e q.it q.obj h1 q.born.2
  refine ⟨.tuple #[e.key,e.val],?_,_,rfl,.cons h3 (.cons h4 .nil)⟩
  simp only [execOp,hv]
  rw [Sem.run_bind,hrun]
  rfl
theorem R.nn {a:Act} (hr:R E n s a w) (hk:lk s.own ki = some (.fL j m rest cur)):R E n ⟨s.slots,ins ki (.fL j m rest none) s.own⟩ a w:=by
 obtain ⟨h1,h2,h,ρ,hw,hs⟩:=hr
 obtain ⟨b,ms,clk,D,seen,q⟩:=(hw.owned ki _ (aA hk)).1
 have hst:=hw.lE (w':=w) ki (ρ ki) (.fL j m rest none) none (fun b e=>by cases e) (Nat.le_refl _) rfl rfl (fun _ _ _=>rfl) (by rw [dt]; exact ⟨b,ms,clk,D,seen,q.ptr,q.it,q.map,q.obj,q.ents,q.born,q.left,fun p hp=>by cases hp⟩)
  (fun b' hb'=>.inl ⟨_,aA hk,hb'⟩) (.inl rfl) (.inl rfl)
 rw [dt] at hst
 exact ⟨h1,h2,h,ρ,hst,hs⟩
theorem Fin.nn {ex:Exit} (ki:Nat) (hk:lk s.own ki = some (.fL j m rest cur)) (hc:Fin E n ex ⟨s.slots,ins ki (.fL j m rest none) s.own⟩ Q):Fin E n ex s Q:=fun a w hr=>hc a w (hr.nn hk)
theorem R.np {a:Act} (hr:R E n s a w) (hk:lk s.own ki = some (.fL j m rest cur)) (hne:(ki == j) = false):R E n ⟨bg ki s.slots,ins j (.mq m) (del ki s.own)⟩ a w:=by
 obtain ⟨h1,h2,h,ρ,hw,hs⟩:=hr
 have hkm:=aA hk
 obtain ⟨e1,e2,e3⟩:=hw.owned ki _ hkm
 obtain ⟨b,ms,clk,D,seen,q⟩:=id e1
 have hnk:ki ≠ j:=by simpa using hne
 have hfj:∀ b',(OC.mq m).bd (ρ j) w b' → (OC.fL j m rest cur).bd (ρ ki) w b':=fun b' hb'=>by
  have:=hb'.dD rfl
  rw [q.map] at this
  cases this
  exact .inr ⟨D,clk,seen,clk,by rw [q.ptr]; rfl,q.it⟩
 have fX:∀ r z,(r,z) ∈ ins j (OC.mq m) (del ki s.own) → (r = j ∧ z = .mq m) ∨ (r ≠ j ∧ r ≠ ki ∧ (r,z) ∈ s.own):=fun r z hq=>by
  rcases c3 hq with ⟨rfl,rfl⟩ | ⟨h1,hq⟩
  ·exact .inl ⟨rfl,rfl⟩
  ·exact .inr ⟨h1,(bB hq).2,(bB hq).1⟩
 refine ⟨h1,h2,h,ρ,⟨hw.agree,hw.le,hw.fresh,hw.size,hw.same,hw.fixed,hw.os,hw.out,hw.nl,fun r z hq=>?_⟩,fun r z hz=>hs r z (cS hz).1⟩
 rcases fX r z hq with ⟨rfl,rfl⟩ | ⟨q1,q2,q3⟩
 ·refine ⟨⟨b,ms,clk,q.map,q.obj,q.ents,q.born⟩,fun b' hb'=>e2 b' (hfj b' hb'),fun r' z' hq' hne' b' hb' hb2=>?_⟩
  rcases fX r' z' hq' with ⟨rfl,rfl⟩ | ⟨i1,i2,i3⟩
  ·exact hne' rfl
  ·exact e3 r' z' i3 i2 b' (hfj b' hb') hb2
 ·obtain ⟨g1,g2,g3⟩:=hw.owned r z q3
  refine ⟨g1,g2,fun r' z' hq' hne' b' hb' hb2=>?_⟩
  rcases fX r' z' hq' with ⟨rfl,rfl⟩ | ⟨i1,i2,i3⟩
  ·exact g3 ki _ hkm (fun e=>q2 e.symm) b' hb' (hfj b' hb2)
  ·exact g3 r' z' i3 hne' b' hb' hb2
theorem Fin.np {ex:Exit} (ki:Nat) (hk:lk s.own ki = some (.fL j m rest cur)) (hne:(ki == j) = false) (hc:Fin E n ex ⟨bg ki s.slots,ins j (.mq m) (del ki s.own)⟩ Q):Fin E n ex s Q:=fun a w hr=>hc a w (hr.np hk hne)
def l4 (m:bf):Option (List Int):=if m.length ≤ 1000000000 then some (m.map (·.1)) else none
theorem n4 {m:bf} {ks:List Int} (h:l4 m = some ks):m.length ≤ 1000000000 ∧ ks = m.map (·.1):=by
 unfold l4 at h
 split at h
 ·next hh=>exact ⟨hh,(Option.some.inj h).symm⟩
 ·cases h
end
end Go.Sk
namespace Go.Sk
set_option linter.unusedSimpArgs false
set_option linter.unusedVariables false
open Go
def aC {α:Type} (m:Option α) (Q:α → Prop):Prop:=∃ x,m = some x ∧ Q x
section
variable {α β γ δ ε:Type} {m:Option α} {Q:β → Prop} {P:α → Prop}
theorem aC.some {x:β} (h:Q x):aC (some x) Q:=⟨x,rfl,h⟩
theorem aC.bind {k:α → Option β} (h:aC m P) (h2:∀ x,P x → aC (k x) Q):aC (m.bind k) Q:=by
 obtain ⟨x,rfl,hp⟩:=h
 exact h2 x hp
theorem aC.cn {k:α → Option β} {x:α} (h:m = Option.some x) (h2:aC (k x) Q):aC (m.bind k) Q:=by
 subst h; exact h2
theorem aC.ite {c:Bool} {A B:Option β} (h1:c = true → aC A Q) (h2:c = false → aC B Q):aC (if c = true then A else B) Q:=by
 cases c
 ·exact h2 rfl
 ·exact h1 rfl
theorem aC.ift {c:Bool} {A B:Option β} (h:c = true) (h1:aC A Q):aC (if c = true then A else B) Q:=by rw [if_pos h]; exact h1
theorem aC.iff {c:Bool} {A B:Option β} (h:c = false) (h1:aC B Q):aC (if c = true then A else B) Q:=by rw [h]; exact h1
theorem aC.ln {a:γ} {k:γ → Option β} (h:aC (k a) Q):aC (fB a k) Q:=h
theorem aC.eq {x:α} (h:aC m (· = x)):m = Option.some x:=by obtain ⟨y,h1,h2⟩:=h; rw [h1,h2]
theorem aC.of {x:α} (h:m = Option.some x):aC m (· = x):=⟨x,h,rfl⟩
theorem aC.mono {P':α → Prop} (h:aC m P) (h2:∀ x,P x → P' x):aC m P':=by obtain ⟨x,h1,h3⟩:=h; exact ⟨x,h1,h2 x h3⟩
theorem aC.idx [Inhabited α] {l:List α} {i:Int} {k:α → Option β} (h0:0 ≤ i) (h1:i < l.length) (h:aC (k (idx l i)) Q):aC ((aV l i).bind k) Q:=by
 rw [jq h0 h1]; exact h
theorem aC.g1 [Inhabited α] {g:Bool} {k:α → Option β} (hg:g = true) (h:aC (m.bind k) Q):aC ((cw g m).bind k) Q:=by subst hg; exact h
theorem aC.g0 [Inhabited α] {g:Bool} {k:α → Option β} (hg:g = false) (h:aC (k default) Q):aC ((cw g m).bind k) Q:=by subst hg; exact h
theorem aC.app {xs ys:List α} {k:List α → Option β} (h0:xs.length + ys.length ≤ 1000000000) (h:aC (k (xs ++ ys)) Q):aC ((df xs ys).bind k) Q:=by
 rw [ij h0]; exact h
theorem aC.take {xs:List α} {i:Int} {k:List α → Option β} (h0:0 ≤ i) (h1:i ≤ xs.length) (h:aC (k (xs.take i.toNat)) Q):aC ((take? xs i).bind k) Q:=by
 simp only [take?,h0,h1,and_self,if_true]; exact h
theorem aC.drop {xs:List α} {i:Int} {k:List α → Option β} (h0:0 ≤ i) (h1:i ≤ xs.length) (h:aC (k (xs.drop i.toNat)) Q):aC ((nR xs i).bind k) Q:=by
 simp only [nR,h0,h1,and_self,if_true]; exact h
theorem aC.rounds {σ τ:Type} {body:σ → Option (σ ⊕ τ)} {Q:τ → Prop} (n:Nat) (I:Nat → σ → Prop) {s:σ} {F:Nat} (hF:n < F) (h0:I 0 s)
  (step:∀ k s,k ≤ n → I k s → aC (body s) fun o=>(∃ s',o = .inl s' ∧ I (k + 1) s' ∧ k < n) ∨ ∃ t,o = .inr t ∧ Q t):aC (iter F body s) Q:=by
 have key:∀ d F k s,k + d = n → d < F → I k s → aC (iter F body s) Q:=by
  intro d
  induction d with
  | zero=>
   intro F k s hk hF hI
   obtain ⟨F,rfl⟩:∃ f,F = f + 1:=⟨F - 1,by omega⟩
   obtain ⟨o,ho,h⟩:=step k s (by omega) hI
   rw [ew,ho]
   rcases h with ⟨s',rfl,_,hlt⟩ | ⟨t,rfl,hq⟩
   ·omega
   ·exact ⟨t,rfl,hq⟩
  | succ d ih=>
   intro F k s hk hF hI
   obtain ⟨F,rfl⟩:∃ f,F = f + 1:=⟨F - 1,by omega⟩
   obtain ⟨o,ho,h⟩:=step k s (by omega) hI
   rw [ew,ho]
   rcases h with ⟨s',rfl,hI',_⟩ | ⟨t,rfl,hq⟩
   ·exact ih F (k + 1) s' (by omega) (by omega) hI'
   ·exact ⟨t,rfl,hq⟩
 exact key n F 0 s (by omega) hF h0
theorem aC.loop {σ τ:Type} {body:σ → Option (σ ⊕ τ)} {Q:τ → Prop} (I:σ → Prop) (μ:σ → Nat) {s:σ} {F:Nat} (h0:I s) (hF:μ s < F)
  (step:∀ s,I s → aC (body s) fun o=>(∃ s',o = .inl s' ∧ I s' ∧ μ s' < μ s) ∨ ∃ t,o = .inr t ∧ Q t):aC (iter F body s) Q:=by
 refine qe I μ Q (fun s hI=>?_) F s h0 hF
 obtain ⟨o,ho,h⟩:=step s hI
 refine ⟨o,ho,fun s' e=>?_,fun t e=>?_⟩
 ·subst e
  rcases h with ⟨s'',e,h1,h2⟩ | ⟨t,e,_⟩
  ·cases e; exact ⟨h1,h2⟩
  ·cases e
 ·subst e
  rcases h with ⟨s'',e,_⟩ | ⟨t',e,h1⟩
  ·cases e
  ·cases e; exact h1
end
theorem wi64 (z:Int):IntKind.i64.wrap z = (z + 9223372036854775808) % 18446744073709551616 - 9223372036854775808:=by
 simp [IntKind.wrap,IntKind.signed,IntKind.bits]; split <;> omega
theorem nQ {z:Int} (h1:-9223372036854775808 ≤ z) (h2:z ≤ 9223372036854775807):IntKind.i64.wrap z = z:=by rw [wi64]; omega
def ds (b:Int) (f:Nat → Int):Nat → Int
 | 0=>0
 | n + 1=>ds b f n + f n * b ^ n
def nd (b z:Int) (i:Nat):Int:=z / b ^ i % b
end Go.Sk
