/- part of the proof: the framework -/
import Derived.Test.YtpkheobgojeapaaGreatDoorF1
import Derived.Laws.BytesArg
import Derived.ChangeKeysEq
import Derived.Lib.ConvBytes
import Derived.Below
import Derived.Lib.LaidTab
import Derived.Scope
import Derived.Shelf.Vars
import Derived.MapKept
import Derived.Shelf.Sort.Plain
import Derived.Shelf.Slices.CompactI
import Derived.RangeFuncNested
import Derived.RangeFuncLeaves
import Derived.LoopNIn
import Derived.Maps.RangeRun
namespace Go.Sk
set_option linter.unusedSimpArgs false
set_option linter.unusedVariables false
open Go
section
variable {P:Program} {TB:aF} {E:Env TB} {n:Sh} {s s':St} {dst:Option Nat} {t ty yt:TypeId} {pos:String} {after:Array Edge} {g:Option (Nat × Bool)} {x y c:Operand} {k:IntKind} {a b:Int} {ops:Array Oper} {l:List Oper} {Q:bF} {cd:Code}
theorem op_rem2 {z:Int} (h:nD a b = some z) (hx:s.ev x = some (.b (.one (.int k a)))) (hy:s.ev y = some (.b (.one (.int k b)))):aR P E n ⟨dst,.binOp .rem t x y yt,ty,pos,after,g⟩ s (s.put n dst (.b (.one (.int k z)))):=by
 obtain ⟨h1,rfl⟩:=rem_ok h
 exact op_rem h1 hx hy
theorem op_quo2 {z:Int} (h:oF k a b = some z) (hx:s.ev x = some (.b (.one (.int k a)))) (hy:s.ev y = some (.b (.one (.int k b)))):aR P E n ⟨dst,.binOp .quo t x y yt,ty,pos,after,g⟩ s (s.put n dst (.b (.one (.int k z)))):=by
 obtain ⟨h1,rfl⟩:=quo_ok h
 exact aR.val (o:=⟨dst,.binOp .quo t x y yt,ty,pos,after,g⟩) fun ac w h' ρ hw hs=>by
  refine ⟨.int k (k.wrap (a.tdiv b)),?_,rfl,lj _ _⟩
  simp only [execOp,(bG hs hx).1,(bG hs hy).1]
  simp [eqGuard,binOp,Op.intDiv,h1]
theorem yd {u v z:Str} (h:bV u v = some z) (hx:s.ev x = some (.b (.one (.str u)))) (hy:s.ev y = some (.b (.one (.str v)))):aR P E n ⟨dst,.binOp .add t x y yt,ty,pos,after,g⟩ s (s.put n dst (.b (.one (.str z)))):=by
 have h1:=lh h
 have h2:=qf h
 subst h2
 exact FQ (by omega) hx hy
theorem fK {src d:TypeId} {k k0:IntKind} {a:Int} (hsrc:P.underlying src = some (.int k0)) (ht:P.underlying d = some (.int k)) (hx:s.ev x = some (.b (.one (.int k0 a)))) :
  aR P E n ⟨dst,.convert src d x,ty,pos,after,g⟩ s (s.put n dst (.b (.one (.int k (k.wrap a))))) :=
 aR.val (o:=⟨dst,.convert src d x,ty,pos,after,g⟩) fun ac w h' ρ hw hs=>by
  refine ⟨.int k (k.wrap a),?_,rfl,lj _ _⟩
  simp only [execOp,(bG hs hx).1]
  simp [convert,run_underlying hsrc,run_underlying ht,Conv.intToInt]
theorem op_shr2 {k2:IntKind} {m:Nat} (hm:m ≤ k.bits) (hx:s.ev x = some (.b (.one (.int k a)))) (hy:s.ev y = some (.b (.one (.int k2 (m:Int))))) {q:Int} (hq:a / 2 ^ m = q) :
  aR P E n ⟨dst,.binOp .shr t x y yt,ty,pos,after,g⟩ s (s.put n dst (.b (.one (.int k q)))) :=
 aR.val (o:=⟨dst,.binOp .shr t x y yt,ty,pos,after,g⟩) fun ac w h' ρ hw hs=>by
  have hra:=(bG hs hx).2
  have hpos:(0:Int) < 2 ^ m:=Int.pow_pos (by decide)
  refine ⟨.int k q,?_,rfl,?_⟩
  ·have hmin:min m k.bits = m:=Nat.min_eq_left hm
   have hd:a.fdiv (2 ^ m) = q:=by rw [← hq,Int.fdiv_eq_ediv_of_nonneg _ (Int.pow_nonneg (by decide))]
   simp only [execOp,(bG hs hx).1,(bG hs hy).1]
   have hneg:¬ ((m:Int) < 0):=by omega
   simp [eqGuard,binOp,Op.shift,hmin,hd,hneg]
  ·unfold kX at hra ⊢
   have h5:k.min ≤ 0:=by cases k <;> simp [IntKind.min,IntKind.signed,IntKind.bits]
   have h6:0 ≤ k.max:=by cases k <;> simp [IntKind.max,IntKind.signed,IntKind.bits]
   subst hq
   by_cases h0:0 ≤ a
   ·have h1:0 ≤ a / 2 ^ m:=Int.ediv_nonneg h0 (Int.le_of_lt hpos)
    have h2:a / 2 ^ m ≤ a:=Int.ediv_le_self _ h0
    omega
   ·have h1:a / 2 ^ m ≤ 0:=by
     have:=Int.ediv_neg_of_neg_of_pos (by omega:a < 0) hpos; omega
    have h2:a ≤ a / 2 ^ m:=by
     rw [Int.le_ediv_iff_mul_le hpos]
     have h3:(1:Int) ≤ 2 ^ m:=by omega
     have h4:a * 2 ^ m ≤ a * 1:=Int.mul_le_mul_of_nonpos_left (by omega) h3
     omega
    omega
def CV.gC (k k':Nat):CV → CV
 | .row j=>if j == k then .row k' else .row j
 | .ptr j o=>if j == k then .ptr k' o else .ptr j o
 | z=>z
def BV.gC (k k':Nat):BV → BV
 | .row j=>if j == k then .row k' else .row j
 | .ptr j o=>if j == k then .ptr k' o else .ptr j o
 | .gh j o=>if j == k then .gh k' o else .gh j o
 | .part j a b c d=>if j == k then .part k' a b c d else .part j a b c d
 | .C' j a b c=>if j == k then .C' k' a b c else .C' j a b c
 | .cD f fs cs=>.cD f (fs.map (·.gC k k')) (cs.map (·.gC k k'))
 | .xa cs=>.xa (cs.map (·.gC k k'))
 | z=>z
def SV.gC (k k':Nat):SV → SV
 | .b z=>.b (z.gC k k')
 | .kU l=>.kU (l.map (·.gC k k'))
 | .jX l=>.jX (l.map (·.gC k k'))
 | .opt c z=>.opt c (z.gC k k')
def renS (k k':Nat) (l:List (Nat × SV)):List (Nat × SV):=l.map fun p=>(p.1,p.2.gC k k')
theorem CV.iH {h:PH} {ρ ρ':RM} {k k':Nat} (hk:ρ' k' = ρ k) {z:CV} (ho:∀ j,j ≠ k → z.bd j = true → ρ' j = ρ j) {v:Value} (hz:z.rel h ρ v):(z.gC k k').rel h ρ' v:=by
 cases z with
 | row j=>
  by_cases e:j = k
  ·subst e; simpa [CV.gC,CV.rel,hk] using hz
  ·have:=ho j e (by simp [CV.bd]); simpa [CV.gC,CV.rel,e,this] using hz
 | ptr j o=>
  by_cases e:j = k
  ·subst e; simpa [CV.gC,CV.rel,hk] using hz
  ·have:=ho j e (by simp [CV.bd]); simpa [CV.gC,CV.rel,e,this] using hz
 | one p=>exact hz
theorem CV.IG {h:PH} {ρ ρ':RM} {k k':Nat} (hk:ρ' k' = ρ k):∀ {l:List CV} {vs:List Value},(∀ j,j ≠ k → l.any (·.bd j) = true → ρ' j = ρ j) → aQ (fun (x:CV) v=>x.rel h ρ v) l vs → aQ (fun (x:CV) v=>x.rel h ρ' v) (l.map (·.gC k k')) vs
 | _,_,_,.nil=>.nil
 | _,_,ho,.cons h1 t=>.cons (CV.iH hk (fun j hj hu=>ho j hj (by simp [hu])) h1) (CV.IG hk (fun j hj hu=>ho j hj (by simp only [List.any_cons,hu,Bool.or_true])) t)
theorem CV.renAX {h:PH} {ρ ρ':RM} {k k':Nat} (hk:ρ' k' = ρ k):∀ {l:List CV} {vs:List Value},(∀ j,j ≠ k → l.any (·.bd j) = true → ρ' j = ρ j) → aQ (fun (x:CV) v=>x.rel h ρ v ∧ v.oneCell' = true) l vs → aQ (fun (x:CV) v=>x.rel h ρ' v ∧ v.oneCell' = true) (l.map (·.gC k k')) vs
 | _,_,_,.nil=>.nil
 | _,_,ho,.cons h1 t=>.cons ⟨CV.iH hk (fun j hj hu=>ho j hj (by simp [hu])) h1.1,h1.2⟩ (CV.renAX hk (fun j hj hu=>ho j hj (by simp only [List.any_cons,hu,Bool.or_true])) t)
theorem BV.iH {h:PH} {ρ ρ':RM} {k k':Nat} (hk:ρ' k' = ρ k) {z:BV} (ho:∀ j,j ≠ k → z.bd j = true → ρ' j = ρ j) {v:Value} (hz:z.rel h ρ v):(z.gC k k').rel h ρ' v:=by
 cases z with
 | row j=>
  by_cases e:j = k
  ·subst e; simpa [BV.gC,BV.rel,hk] using hz
  ·have:=ho j e (by simp [BV.bd]); simpa [BV.gC,BV.rel,e,this] using hz
 | ptr j o=>
  by_cases e:j = k
  ·subst e; simpa [BV.gC,BV.rel,hk] using hz
  ·have:=ho j e (by simp [BV.bd]); simpa [BV.gC,BV.rel,e,this] using hz
 | gh j o=>
  by_cases e:j = k
  ·subst e; simpa [BV.gC,BV.rel,hk] using hz
  ·have:=ho j e (by simp [BV.bd]); simpa [BV.gC,BV.rel,e,this] using hz
 | part j a b c d=>
  by_cases e:j = k
  ·subst e; simpa [BV.gC,BV.rel,hk] using hz
  ·have:=ho j e (by simp [BV.bd]); simpa [BV.gC,BV.rel,e,this] using hz
 | C' j a b c=>
  by_cases e:j = k
  ·subst e; simpa [BV.gC,BV.rel,hk] using hz
  ·have:=ho j e (by simp [BV.bd]); simpa [BV.gC,BV.rel,e,this] using hz
 | one p=>exact hz
 | agg ps=>exact hz
 | jY ps=>exact hz
 | xa cs=>
  obtain ⟨a,e,h1⟩:=hz
  exact ⟨a,e,CV.renAX hk (fun j hj hu=>ho j hj hu) h1⟩
 | cD f fs cs=>
  obtain ⟨a,b,e,h1,h2⟩:=hz
  exact ⟨a,b,e,CV.IG hk (fun j hj hu=>ho j hj (by simp only [BV.bd,hu,Bool.true_or])) h1,CV.IG hk (fun j hj hu=>ho j hj (by simp only [BV.bd,hu,Bool.or_true])) h2⟩
theorem SV.iH {h:PH} {ρ ρ':RM} {k k':Nat} (hk:ρ' k' = ρ k) {z:SV} (ho:∀ j,j ≠ k → z.bd j = true → ρ' j = ρ j) {v:Value} (hz:z.rel h ρ v):(z.gC k k').rel h ρ' v:=by
 cases z with
 | b z=>exact BV.iH hk ho hz
 | opt c z=>exact ⟨fun e=>BV.iH hk ho (hz.1 e),hz.2⟩
 | kU zs=>
  obtain ⟨vs,e,ha⟩:=hz
  refine ⟨vs,e,?_⟩
  clear e
  have ho':∀ j,j ≠ k → zs.any (·.bd j) = true → ρ' j = ρ j:=ho
  clear ho
  generalize vs.toList = vl at ha
  induction ha with
  | nil=>exact .nil
  | cons h1 t ih=>
   refine .cons (BV.iH hk (fun j hj hu=>ho' j hj (by simp [hu])) h1) (ih fun j hj hu=>ho' j hj (by simp only [List.any_cons,hu,Bool.or_true]))
 | jX zs=>
  obtain ⟨vs,e,ha⟩:=hz
  refine ⟨vs,e,?_⟩
  clear e
  have ho':∀ j,j ≠ k → zs.any (·.bd j) = true → ρ' j = ρ j:=ho
  clear ho
  generalize vs.toList = vl at ha
  induction ha with
  | nil=>exact .nil
  | cons h1 t ih=>
   refine .cons ⟨BV.iH hk (fun j hj hu=>ho' j hj (by simp [hu])) h1.1,h1.2⟩ (ih fun j hj hu=>ho' j hj (by simp only [List.any_cons,hu,Bool.or_true]))
def OC.gC (k k':Nat):OC → OC
 | .ba T cs=>.ba T (cs.map (·.gC k k'))
 | .mp es=>.mp (es.map fun q=>(q.1,q.2.gC k k'))
 | .AR j m rest cur=>.AR (if j == k then k' else j) m rest cur
 | c=>c
def renO (k k':Nat) (l:List (Nat × OC)):List (Nat × OC):=l.map fun p=>(p.1,p.2.gC k k')
theorem OC.renA_ok {h:PH} {ρ ρ':RM} {k k':Nat} (hk:ρ' k' = ρ k) {c:OC} (ho:∀ j,j ≠ k → c.bd j = true → ρ' j = ρ j) {v:Value} {w:World} (hc:c.ok h ρ v w):(c.gC k k').ok h ρ' v w:=by
 cases c with
 | box T ps=>exact hc
 | row T size es=>exact hc
 | oe T size es=>exact hc
 | B3 T size es=>exact hc
 | sit q pos=>exact hc
 | mq m=>exact hc
 | rr=>exact hc
 | AR j m rest cur=>
  obtain ⟨b,ms,clk,D,seen,x⟩:=hc
  refine ⟨b,ms,clk,D,seen,x.ptr,x.it,?_,x.obj,x.ents,x.born,x.left,x.at_⟩
  by_cases e:j = k
  ·subst e; simpa using hk.trans x.map
  ·simpa [e] using (ho j e (by simp [OC.bd])).trans x.map
 | mp es=>
  obtain ⟨b,ms,clk,e1,e2,ha,e3⟩:=hc
  refine ⟨b,ms,clk,e1,e2,?_,e3⟩
  clear e2 e3
  have ho':∀ j,j ≠ k → (es.any (·.2.bd j)) = true → ρ' j = ρ j:=ho
  clear ho
  unfold pF at ha ⊢
  generalize ms.toList = l at ha
  induction ha with
  | nil=>exact .nil
  | cons h1 t ih=>exact .cons ⟨h1.1,BV.iH hk (fun j hj hu=>ho' j hj (by simp [hu])) h1.2⟩ (ih fun j hj hu=>ho' j hj (by simp only [List.any_cons,hu,Bool.or_true]))
 | ba T cs=>
  obtain ⟨b,cur,e1,e2,ha⟩:=hc
  refine ⟨b,cur,e1,e2,?_⟩
  clear e2
  have ho':∀ j,j ≠ k → (cs.any (·.bd j)) = true → ρ' j = ρ j:=ho
  clear ho
  generalize cur.toList = l at ha
  induction ha with
  | nil=>exact .nil
  | cons h1 t ih=>exact .cons ⟨BV.iH hk (fun j hj hu=>ho' j hj (by simp [hu])) h1.1,h1.2⟩ (ih fun j hj hu=>ho' j hj (by simp only [List.any_cons,hu,Bool.or_true]))
theorem OC.xg {k k':Nat} {c:OC} {v:Value} {w:World} {b:Nat}:(c.gC k k').du v w b ↔ c.du v w b:=by cases c <;> exact Iff.rfl
theorem R.rename {a:Act} {w:World} {c:OC} (hr:R E n s a w) (k k':Nat) (hk:lk s.own k = some c) (hne:k' ≠ k) (hfx:n.fix.contains k' = false) (hnu:di k' s.own = true):R E n ⟨renS k k' (cn k' s.slots),ins k' (c.gC k k') (renO k k' (del k s.own))⟩ a w:=by
 obtain ⟨hd,hn,h,ρ,hw,hs⟩:=hr
 have hfx':k' ∉ n.fix:=by simpa using hfx
 refine ⟨hd,hn,h,oy ρ k' (ρ k),⟨hw.agree,hw.le,hw.fresh,hw.size,hw.same,fun j hj=>?_,hw.os,hw.out,hw.nl,?_⟩,?_⟩
 ·have hjk:j ≠ k':=fun e=>by subst e; exact hfx' hj
  rw [eX _ _ hjk]; exact hw.fixed j hj
 ·have hkm:=bh hk
  have Da:∀ j x,(j,x) ∈ ins k' (c.gC k k') (renO k k' (del k s.own)) → ∃ i y,(i,y) ∈ s.own ∧ x = y.gC k k' ∧ oy ρ k' (ρ k) j = ρ i ∧ (j = k' → i = k) ∧ (j ≠ k' → i = j ∧ j ≠ k):=fun j x hj=>by
   rcases iu hj with ⟨rfl,rfl⟩ | ⟨h1,h2⟩
   ·exact ⟨k,c,hkm,rfl,cG _ _ _,fun _=>rfl,fun e=>absurd rfl e⟩
   ·obtain ⟨⟨j0,y⟩,h3,he⟩:=List.mem_map.1 h2
    obtain ⟨rfl,rfl⟩:=Prod.mk.inj he
    obtain ⟨h4,h5⟩:=b9 h3
    exact ⟨_,y,h4,rfl,eX _ _ h1,fun e=>absurd e h1,fun _=>⟨rfl,h5⟩⟩
  intro j x hj
  obtain ⟨i,y,hi,rfl,hρ,hi1,hi2⟩:=Da j x hj
  obtain ⟨e1,e2,e3⟩:=hw.owned i y hi
  rw [hρ]
  refine ⟨OC.renA_ok (cG _ _ _) (fun q _ hu=>eX _ _ fun e=>?_) e1,fun b hb=>e2 b (OC.xg.1 hb),fun j' x' hj' hne' b hb=>?_⟩
  ·subst e
   rw [qE hnu hi] at hu
   simp at hu
  obtain ⟨i',y',hi',rfl,hρ',hi1',hi2'⟩:=Da j' x' hj'
  rw [hρ']
  refine fun hb'=>e3 i' y' hi' (fun e=>hne' ?_) b (OC.xg.1 hb) (OC.xg.1 hb')
  by_cases h1:j = k'
  ·by_cases h2:j' = k'
   ·rw [h1,h2]
   ·have:=hi1 h1; have h3:=hi2' h2; omega
  ·have h3:=hi2 h1
   by_cases h2:j' = k'
   ·have:=hi1' h2; omega
   ·have:=hi2' h2; omega
 ·intro i z hz
  obtain ⟨⟨i0,z0⟩,hm,he⟩:=List.mem_map.1 hz
  obtain ⟨rfl,rfl⟩:=Prod.mk.inj he
  obtain ⟨hm1,hm2⟩:=fF hm
  obtain ⟨v,hv,hrel⟩:=hs _ _ hm1
  refine ⟨v,hv,SV.iH (cG _ _ _) (fun j _ hu=>eX _ _ fun e=>?_) hrel⟩
  subst e
  rw [hm2] at hu
  simp at hu
theorem Fin.rename {e:Exit} (k k':Nat) {c:OC} (hk:lk s.own k = some c) (hne:k' ≠ k) (hfx:n.fix.contains k' = false) (h:Fin E n e ⟨renS k k' (cn k' s.slots),ins k' (c.gC k k') (renO k k' (del k s.own))⟩ Q) (hnu:di k' s.own = true:=by rfl):Fin E n e s Q:=fun a w hr=>h a w (hr.rename k k' hk hne hfx hnu)
theorem ah.rename (k k':Nat) {c:OC} (hk:lk s.own k = some c) (hne:k' ≠ k) (hfx:n.fix.contains k' = false) (h:ah P E n cd ⟨renS k k' (cn k' s.slots),ins k' (c.gC k k') (renO k k' (del k s.own))⟩ Q) (hnu:di k' s.own = true:=by rfl):ah P E n cd s Q:=fun a w hr=>h a w (hr.rename k k' hk hne hfx hnu)
end
end Go.Sk
namespace Go.Sk
set_option linter.unusedSimpArgs false
set_option linter.unusedVariables false
open Go Go.BigFrame
section
variable {P:Program} {TB:aF} {E:Env TB} {n:Sh} {s s':St} {dst:Option Nat} {t ty yt:TypeId} {pos:String} {after:Array Edge} {g:Option (Nat × Bool)} {x y c:Operand} {ops:Array Oper} {l:List Oper} {Q:bF} {cd:Code}
def BV.cv:BV → Option CV
 | .one p=>some (.one p)
 | .ptr k o=>some (.ptr k o)
 | .row k=>some (.row k)
 | _=>none
def CV.bv:CV → BV
 | .one p=>.one p
 | .ptr k o=>.ptr k o
 | .row k=>.row k
theorem BV.Jw {h:PH} {ρ:RM} {z:BV} {q:CV} (hq:z.cv = some q) {v:Value} (hv:z.rel h ρ v):q.rel h ρ v:=by
 cases z <;> simp [BV.cv] at hq <;> subst hq <;> exact hv
theorem CV.JE {h:PH} {ρ:RM} {q:CV} {v:Value} (hv:q.rel h ρ v):q.bv.rel h ρ v:=by cases q <;> exact hv
def CR (h:PH) (ρ:RM) (z:BV) (u:Value):Prop:=z.rel h ρ u ∧ u.oneCell' = true
def BV.mo (own:List (Nat × OC)):BV → Bool
 | .one _=>true
 | .ptr _ _=>true
 | .cD _ _ _=>true
 | .row j=>match lk own j with
  | some (.row _ _ _)=>true
  | some (.mq _)=>true
  | _=>false
 | _=>false
theorem CV.bvX {h:PH} {ρ:RM}:∀ {l:List CV} {vs:List Value},aQ (fun (x:CV) v=>x.rel h ρ v ∧ v.oneCell' = true) l vs → aQ (CR h ρ) (l.map CV.bv) vs
 | _,_,.nil=>.nil
 | _,_,.cons h1 t=>.cons ⟨CV.JE h1.1,h1.2⟩ (CV.bvX t)
theorem cell_of {own:List (Nat × OC)} {h:PH} {ρ:RM} {w:World} (hw:WR E n own h ρ w) {z:BV} (hz:z.mo own = true) {v:Value} (hv:z.rel h ρ v):CR h ρ z v:=by
 refine ⟨hv,?_⟩
 cases z with
 | one p=>exact p.one hv
 | ptr k off=>obtain ⟨b,_,rfl⟩:=hv; rfl
 | cD f fs cs=>obtain ⟨a,b,rfl,_⟩:=hv; rfl
 | row j=>
  have hv':v = ρ j:=hv
  simp only [BV.mo] at hz
  cases e:lk own j with
  | none=>rw [e] at hz; simp at hz
  | some c=>
   rw [e] at hz
   cases c with
   | row T size es=>
    obtain ⟨_,_,hf⟩:=mP hw e
    rcases hf with ⟨h1,_⟩ | ⟨b,cap,cur,h1,_⟩ <;> rw [hv',h1] <;> rfl
   | mq m=>
    obtain ⟨b,ms,clk,h1,_⟩:=(hw.owned j _ (bh e)).1
    rw [hv',h1]
    rfl
   | _=>simp at hz
 | _=>simp [BV.mo] at hz
theorem oM (ρ:RM) (k:Nat):oy ρ k (ρ k) = ρ:=by funext j; simp only [oy]; split <;> simp_all
theorem WR.Io {own:List (Nat × OC)} {h:PH} {ρ:RM} {w:World} (hw:WR E n own h ρ w) {k:Nat} {c0 c':OC} (hk:lk own k = some c0) (hc:c'.ok h ρ (ρ k) w) (hpl:c'.plain = true:=by rfl):WR E n (ins k c' own) h ρ w:=by
 have:=hw.step (w':=w) k (ρ k) c' (aZ (ρ k)) (fun b e=>⟨c0,bh hk,e⟩) (Nat.le_refl _) rfl rfl (fun _ _ _=>rfl) (by rw [oM]; exact hc) (fun b hb=>.inl hb) (.inl rfl) (.inl rfl) hpl
 rwa [oM] at this
theorem fe {own:List (Nat × OC)} {h:PH} {ρ:RM} {w:World} (hw:WR E n own h ρ w) {k:Nat} {T:TypeId} {cs:List BV} (hk:lk own k = some (.ba T cs)) :
  ∃ b cur,ρ k = .pointer (some ⟨b,0,none⟩) ∧ w.heap[b]? = some (.cells cur T (0,0)) ∧ aQ (CR h ρ) cs cur.toList:=(hw.owned k _ (bh hk)).1
theorem vS {h:PH} {ρ:RM}:∀ {ps:List CP} {vs:List Value},aA h ps vs → aQ (CR h ρ) (ps.map BV.one) vs
 | [],_,h=>by cases h; exact .nil
 | p :: ps,_,h=>by cases h with | cons h1 h2=>exact .cons ⟨h1,p.one h1⟩ (vS h2)
theorem DN {h:PH} {ρ:RM}:∀ {ps:List CP} {vs:List Value},aQ (CR h ρ) (ps.map BV.one) vs → aA h ps vs
 | [],_,h=>by cases h; exact .nil
 | p :: ps,_,h=>by cases h with | cons h1 h2=>exact .cons h1.1 (DN h2)
theorem R.Ib {a:Act} {w:World} (hr:R E n s a w) (k:Nat) {T:TypeId} {ps:List CP} (hk:lk s.own k = some (.box T ps)):R E n ⟨s.slots,ins k (.ba T (ps.map .one)) s.own⟩ a w:=by
 obtain ⟨hd,hn,h,ρ,hw,hs⟩:=hr
 obtain ⟨b,cur,e1,e2,e3⟩:=hX hw hk
 exact ⟨hd,hn,h,ρ,hw.Io hk ⟨b,cur,e1,e2,vS e3⟩,hs⟩
def uM:List BV → Option (List CP)
 | []=>some []
 | .one p :: l=>(uM l).map (p :: ·)
 | _ :: _=>none
theorem GV:∀ {cs:List BV} {ps:List CP},uM cs = some ps → cs = ps.map BV.one
 | [],ps,h=>by simp [uM] at h; subst h; rfl
 | z :: cs,ps,h=>by
  cases z with
  | one p=>
   simp only [uM,Option.map_eq_some_iff] at h
   obtain ⟨q,hq,rfl⟩:=h
   rw [GV hq]; rfl
  | _=>simp [uM] at h
theorem R.F7 {a:Act} {w:World} (hr:R E n s a w) (k:Nat) {T:TypeId} {cs:List BV} {ps:List CP} (hk:lk s.own k = some (.ba T cs)) (ho:uM cs = some ps):R E n ⟨s.slots,ins k (.box T ps) s.own⟩ a w:=by
 obtain ⟨hd,hn,h,ρ,hw,hs⟩:=hr
 obtain ⟨b,cur,e1,e2,e3⟩:=fe hw hk
 rw [GV ho] at e3
 exact ⟨hd,hn,h,ρ,hw.Io hk ⟨b,cur,e1,e2,DN e3⟩,hs⟩
theorem R.forget {a:Act} {w:World} (hr:R E n s a w) (k off:Nat) {T:TypeId} {cs:List BV} (hk:lk s.own k = some (.ba T cs)):R E n ⟨s.slots,ins k (.ba T (cs.set off (.one .any))) s.own⟩ a w:=by
 obtain ⟨hd,hn,h,ρ,hw,hs⟩:=hr
 obtain ⟨b,cur,e1,e2,e3⟩:=fe hw hk
 refine ⟨hd,hn,h,ρ,hw.Io hk ⟨b,cur,e1,e2,?_⟩,hs⟩
 have:∀ {cs:List BV} {vs:List Value} (i:Nat),aQ (CR h ρ) cs vs → aQ (CR h ρ) (cs.set i (.one .any)) vs:=by
  intro cs vs i ha
  induction ha generalizing i with
  | nil=>simp; exact .nil
  | cons h1 t ih=>cases i with
   | zero=>simp; exact .cons ⟨h1.2,h1.2⟩ t
   | succ i=>simp; exact .cons h1 (ih i)
 exact this off e3
theorem ah.Ib (k:Nat) {T:TypeId} {ps:List CP} (hk:lk s.own k = some (.box T ps)) (h:ah P E n cd ⟨s.slots,ins k (.ba T (ps.map .one)) s.own⟩ Q):ah P E n cd s Q:=fun a w hr=>h a w (hr.Ib k hk)
theorem aj.Ib (k:Nat) {T:TypeId} {ps:List CP} (hk:lk s.own k = some (.box T ps)) (h:aj P E n ops l ⟨s.slots,ins k (.ba T (ps.map .one)) s.own⟩ Q):aj P E n ops l s Q:=fun a w hr=>h a w (hr.Ib k hk)
theorem Fin.Ib {e:Exit} (k:Nat) {T:TypeId} {ps:List CP} (hk:lk s.own k = some (.box T ps)) (h:Fin E n e ⟨s.slots,ins k (.ba T (ps.map .one)) s.own⟩ Q):Fin E n e s Q:=fun a w hr=>h a w (hr.Ib k hk)
theorem ah.F7 (k:Nat) {T:TypeId} {cs:List BV} {ps:List CP} (hk:lk s.own k = some (.ba T cs)) (ho:uM cs = some ps) (h:ah P E n cd ⟨s.slots,ins k (.box T ps) s.own⟩ Q):ah P E n cd s Q:=fun a w hr=>h a w (hr.F7 k hk ho)
theorem aj.F7 (k:Nat) {T:TypeId} {cs:List BV} {ps:List CP} (hk:lk s.own k = some (.ba T cs)) (ho:uM cs = some ps) (h:aj P E n ops l ⟨s.slots,ins k (.box T ps) s.own⟩ Q):aj P E n ops l s Q:=fun a w hr=>h a w (hr.F7 k hk ho)
theorem Fin.F7 {e:Exit} (k:Nat) {T:TypeId} {cs:List BV} {ps:List CP} (hk:lk s.own k = some (.ba T cs)) (ho:uM cs = some ps) (h:Fin E n e ⟨s.slots,ins k (.box T ps) s.own⟩ Q):Fin E n e s Q:=fun a w hr=>h a w (hr.F7 k hk ho)
theorem ah.forget (k off:Nat) {T:TypeId} {cs:List BV} (hk:lk s.own k = some (.ba T cs)) (h:ah P E n cd ⟨s.slots,ins k (.ba T (cs.set off (.one .any))) s.own⟩ Q):ah P E n cd s Q:=fun a w hr=>h a w (hr.forget k off hk)
theorem aj.forget (k off:Nat) {T:TypeId} {cs:List BV} (hk:lk s.own k = some (.ba T cs)) (h:aj P E n ops l ⟨s.slots,ins k (.ba T (cs.set off (.one .any))) s.own⟩ Q):aj P E n ops l s Q:=fun a w hr=>h a w (hr.forget k off hk)
theorem Fin.forget {e:Exit} (k off:Nat) {T:TypeId} {cs:List BV} (hk:lk s.own k = some (.ba T cs)) (h:Fin E n e ⟨s.slots,ins k (.ba T (cs.set off (.one .any))) s.own⟩ Q):Fin E n e s Q:=fun a w hr=>h a w (hr.forget k off hk)
theorem cy {k off:Nat} {T:TypeId} {cs:List BV} {z:BV} (ht:cS P t) (hx:s.ev x = some (.b (.ptr k off))) (hk:lk s.own k = some (.ba T cs)) (hp:cs[off]? = some z) :
  aR P E n ⟨dst,.load t x,ty,pos,after,g⟩ s (s.put n dst (.b z)) :=
 aR.val (o:=⟨dst,.load t x,ty,pos,after,g⟩) fun ac w h ρ hw hs=>by
  obtain ⟨b,he,hv⟩:=(aC hs hx:BV.rel h ρ (.ptr k off) _)
  obtain ⟨b',cur,hb1,hb2,hb3⟩:=fe hw hk
  have:b' = b:=by rw [hb1] at he; simpa using he
  subst this
  obtain ⟨u,hu,hpu⟩:=hb3.get off z hp
  have:=jx ht (w:=w) (b:=b') (o:=off) (v:=u) (by rw [gr hb2]; simpa using hu)
  refine ⟨u,?_,hpu.1⟩
  simp only [execOp,hv,Instr.loadAt,Instr.sureAddr]
  simp [this]
theorem FK {k off m:Nat} {T:TypeId} {cs zs:List BV} (ht:gg P t m) (hx:s.ev x = some (.b (.ptr k off))) (hk:lk s.own k = some (.ba T cs)) (hp:(cs.drop off).take m = zs) (hq:zs.length = m) :
  aR P E n ⟨dst,.load t x,ty,pos,after,g⟩ s (s.put n dst (.jX zs)) :=
 aR.val (o:=⟨dst,.load t x,ty,pos,after,g⟩) fun ac w h ρ hw hs=>by
  obtain ⟨b,he,hv⟩:=(aC hs hx:BV.rel h ρ (.ptr k off) _)
  obtain ⟨b',cur,hb1,hb2,hb3⟩:=fe hw hk
  have:b' = b:=by rw [hb1] at he; simpa using he
  subst this
  have hc:aQ (CR h ρ) zs ((cur.toList.drop off).take m):=by rw [← hp]; exact aQ.take (aQ.drop hb3 off) m
  refine ⟨.agg ((cur.toList.drop off).take m).toArray,?_,_,rfl,hc⟩
  have:=jy ht (w:=w) (b:=b') (o:=off) (cs:=(cur.toList.drop off).take m) (by rw [← hc.length,hq]) (fun j v hv=>by
   rw [gr hb2]
   rw [List.getElem?_take] at hv
   split at hv
   ·simpa using hv
   ·simp at hv)
  simp only [execOp,hv,Instr.loadAt,Instr.sureAddr]
  simp [this]
theorem WR.setX {h:PH} {ρ:RM} {own:List (Nat × OC)} {w:World} (hw:WR E n own h ρ w) {k b:Nat} {T:TypeId} {ps ps':List BV} {cur:Array Value} {cs:List Value} (hk:lk own k = some (.ba T ps)) (hρ:ρ k = .pointer (some ⟨b,0,none⟩))
  (hb:w.heap[b]? = some (.cells cur T (0,0))) (hr:aQ (CR h ρ) ps' cs):WR E n (ins k (.ba T ps') own) h ρ (w.setRow b cs.toArray):=by
 have hst:=hw.step (w':=w.setRow b cs.toArray) k (ρ k) (.ba T ps') (some b) (fun b' e=>by cases e; exact ⟨_,bh hk,by rw [hρ]; rfl⟩) (by simp) rfl rfl
  (fun b' _ hne=>setRow_other _ _ _ _ (fun e=>hne (by rw [e]))) (by rw [oM]; exact ⟨b,cs.toArray,hρ,setRow_heap _ _ _ _ _ _ hb,hr⟩) (fun b' hb'=>by rw [hρ] at hb'; simp [aZ] at hb'; exact .inl (by rw [hb'])) (.inl rfl) (.inl rfl)
 rwa [oM] at hst
theorem xC {v:Value} (h:v.oneCell' = true):v.cells = #[v]:=by cases v <;> first | rfl | simp [Value.oneCell'] at h
theorem eU {k off:Nat} {T:TypeId} {cs cs':List BV} {z:BV} (ht:cS P t) (hx:s.ev x = some (.b (.ptr k off))) (hk:lk s.own k = some (.ba T cs)) (hy:s.ev y = some (.b z)) (hz:z.mo s.own = true) (hlt:off < cs.length) (hps:cs.set off z = cs') :
  aR P E n ⟨none,.store t x y,ty,pos,after,g⟩ s ⟨s.slots,ins k (.ba T cs') s.own⟩ :=
 aR.store (o:=⟨none,.store t x y,ty,pos,after,g⟩) rfl fun ac w h ρ hw hs=>by
  obtain ⟨b,he,hv⟩:=(aC hs hx:BV.rel h ρ (.ptr k off) _)
  obtain ⟨b',cur,hb1,hb2,hb3⟩:=fe hw hk
  have:b' = b:=by rw [hb1] at he; simpa using he
  subst this
  have hp:CR h ρ z (ac.eval y):=cell_of hw hz (aC hs hy)
  obtain ⟨i,hi,hm⟩:=ht.size
  have hcells:=xC hp.2
  have hlen:=hb3.length
  have hrun:=ju (P:=P) (t:=t) hi hm hb2 (v:=ac.eval y) (o:=off) (by rw [hcells]; rfl) (by simp at hlen; omega) (by rw [hcells]; simpa using hp.2)
  refine ⟨_,by simp only [execOp,hv,Instr.storeAt,Instr.sureAddr]; simp [hrun]; rfl,?_⟩
  refine hw.setX hk hb1 hb2 ?_
  rw [← hps]
  have hset:Sk.aN cur.toList off (ac.eval y).cells.toList = cur.toList.set off (ac.eval y):=by
   rw [hcells]
   have:off < cur.toList.length:=by rw [← hlen]; exact hlt
   simp only [Sk.aN,List.length_cons,List.length_nil]
   rw [List.set_eq_take_append_cons_drop,if_pos this]; simp
  rw [hset]
  exact aQ.set hb3 off hp
theorem BG {T k:Nat} {z:BV} (hx:s.ev x = some (.b z)) (hz:z.mo s.own = true) (hfx:n.fix.contains k = false) (hself:z.bd k = false) (hnu:di k s.own = true:=by rfl):aR P E n ⟨dst,.box T x,ty,pos,after,g⟩ s ((⟨cn k s.slots,ins k (.ba T [z]) s.own⟩:St).put n dst (.b (.ptr k 0))) :=
 aR.make (hfx:=hfx) (hnu:=hnu) (o:=⟨dst,.box T x,ty,pos,after,g⟩) fun ac w h ρ hw hs=>by
  have hr:CR h ρ z (ac.eval x):=cell_of hw hz (aC hs hx)
  have hcells:=xC hr.2
  refine ⟨.pointer (some ⟨w.heap.size,0,none⟩),.pointer (some ⟨w.heap.size,0,none⟩),w.alloc (.cells #[ac.eval x] T),none,?_,fun b e=>by simp at e,by simp,rfl,rfl,fun b hb _=>heap_alloc_old w _ hb,OC.ok.Ij (c:=.ba T [z]) ⟨w.heap.size,#[ac.eval x],rfl,heap_alloc_new w _,.cons hr .nil⟩ fun j hj=>eX _ _ fun e=>by subst e; simp [OC.bd,hself] at hj,
   fun b e=>by simp [aZ] at e; subst e; exact .inr (Nat.le_refl _),w.heap.size,cG _ _ _,rfl⟩
  simp only [execOp]
  simp [Instr.box,newVar,newRow,hcells]
def SV.uO (own:List (Nat × OC)):SV → Option (List BV)
 | .b (.agg ps)=>some (ps.map .one)
 | .b (.xa cs)=>some (cs.map CV.bv)
 | .b z=>if z.mo own = true then some [z] else none
 | .jX l=>some l
 | _=>none
theorem SV.Ab {own:List (Nat × OC)} {h:PH} {ρ:RM} {w:World} (hw:WR E n own h ρ w) {z:SV} {ps:List BV} {v:Value} (hz:z.uO own = some ps) (hv:z.rel h ρ v):aQ (CR h ρ) ps v.cells.toList:=by
 cases z with
 | b z=>
  have one:∀ z:BV,(if z.mo own = true then some [z] else none) = some ps → z.rel h ρ v → aQ (CR h ρ) ps v.cells.toList:=fun z hz hv=>by
   split at hz
   ·next hc=>
    simp at hz; subst hz
    have hcr:=cell_of hw hc hv
    rw [xC hcr.2]; exact .cons hcr .nil
   ·simp at hz
  cases z with
  | agg qs=>simp [SV.uO] at hz; subst hz; obtain ⟨cs,rfl,hr⟩:=hv; exact vS hr
  | xa cs=>simp [SV.uO] at hz; subst hz; obtain ⟨vs,rfl,hr⟩:=hv; exact CV.bvX hr
  | one p=>exact one (.one p) hz hv
  | ptr k o=>exact one (.ptr k o) hz hv
  | row k=>exact one (.row k) hz hv
  | gh k o=>exact one (.gh k o) hz hv
  | part k a b c d=>exact one (.part k a b c d) hz hv
  | jY ps=>exact one (.jY ps) hz hv
  | C' k a b c=>exact one (.C' k a b c) hz hv
  | cD f fs cs=>exact one (.cD f fs cs) hz hv
 | jX l=>simp [SV.uO] at hz; subst hz; obtain ⟨cs,rfl,hr⟩:=hv; exact hr
 | _=>simp [SV.uO] at hz
def sL (s:St):List (Nat × Operand) → Option (List (Nat × List BV))
 | []=>some []
 | (i,x) :: l=>(s.ev x).bind fun z=>(z.uO s.own).bind fun ps=>(sL s l).map fun r=>(i,ps) :: r
def Dp (place:Nat → Option (Nat × Nat)) (zs:List BV):List (Nat × List BV) → Option (List BV)
 | []=>some zs
 | (i,qs) :: r=>(place i).bind fun q=>if qs.length = q.2 ∧ q.1 + qs.length ≤ zs.length then Dp place (aN zs q.1 qs) r else none
theorem Bw {h:PH} {ρ:RM} {w:World} (hw:WR E n s.own h ρ w) {ac:Act} (hs:bp h ρ s.slots ac.tmps) (place:Nat → Option (Nat × Nat)):∀ (parts:List (Nat × Operand)) (cps:List (Nat × List BV)) (zs qs:List BV) (zc:Array Value),
  sL s parts = some cps → Dp place zs cps = some qs → aQ (CR h ρ) zs zc.toList → ∃ cs,Instr.fill place zc (parts.map fun p=>(p.1,ac.eval p.2)) = some cs ∧ aQ (CR h ρ) qs cs.toList
 | [],cps,zs,qs,zc,he,hf,hz=>by
  simp [sL] at he; subst he
  simp [Dp] at hf; subst hf
  exact ⟨zc,rfl,hz⟩
 | (i,x) :: l,cps,zs,qs,zc,he,hf,hz=>by
  unfold sL at he
  simp only [Option.bind_eq_some_iff,Option.map_eq_some_iff] at he
  obtain ⟨z,hz1,ps,hps,r,hr,rfl⟩:=he
  unfold Dp at hf
  simp only [Option.bind_eq_some_iff] at hf
  obtain ⟨⟨off,size⟩,hpl,hf⟩:=hf
  split at hf
  ·rename_i hc
   obtain ⟨hc1,hc2⟩:=hc
   have hrel:=SV.Ab hw hps (aC hs hz1)
   have hl:=hrel.length
   have hzl:=hz.length
   simp only [Array.length_toList] at hl hzl
   dsimp only at hc1 hc2 hf
   have hsp:((ac.eval x).cells.zipIdx.foldl (fun cs (p:Value × Nat)=>cs.setIfInBounds (off + p.2) p.1) zc).toList = aN zc.toList off (ac.eval x).cells.toList:=by
    have:=zY off (ac.eval x).cells.toList 0 zc (by simp; omega)
    rw [Nat.add_zero] at this
    rw [← this,← Array.foldl_toList]
    congr 2
    simp
   obtain ⟨cs,h1,h2⟩:=Bw hw hs place l r (aN zs off ps) qs _ hr hf (by rw [hsp]; exact aQ.aN hz hrel off)
   refine ⟨cs,?_,h2⟩
   simp only [List.map_cons,Instr.fill,hpl]
   rw [if_neg (by simp; omega)]
   exact h1
  ·simp at hf
def mk? {α:Type} (z:α) (len cap:Int):Option (List α):=if 0 ≤ len ∧ len ≤ cap ∧ cap ≤ 1000000000 then some (List.replicate len.toNat z) else none
theorem mk_ok {α:Type} {z:α} {len cap:Int} {r:List α} (h:mk? z len cap = some r):0 ≤ len ∧ len ≤ cap ∧ cap ≤ 1000000000 ∧ List.replicate len.toNat z = r:=by
 unfold mk? at h; split at h
 ·next hh=>exact ⟨hh.1,hh.2.1,hh.2.2,by simpa using h⟩
 ·simp at h
theorem Cp {zs:List CP} {size n:Nat} (h:zs.length = size):cb size (List.replicate n zs):=fun ps hp=>by rw [(List.mem_replicate.1 hp).2]; exact h
theorem Kb {h:PH} {zs:List CP} {zc:Array Value} {size:Nat} (hz:aA h zs zc.toList) (hs:zs.length = size) (hp:0 < size) (n m:Nat) (hnm:n ≤ m) :
  aA h (List.replicate n zs).flatten ((madeCells zc (m * size)).toList.take (n * size)):=by
 have hzl:zc.size = size:=by have:=hz.length; simp at this; omega
 have hle:n * size ≤ m * size:=Nat.mul_le_mul_right _ hnm
 have hfl:=gF (Cp (n:=n) hs)
 have hms:(madeCells zc (m * size)).toList.length = m * size:=by simp [madeCells]
 refine aQ.zk (by rw [hfl,List.length_replicate,List.length_take,hms]; omega) fun j a b ha hb=>?_
 have hj:j < n * size:=by
  have:=(List.getElem?_eq_some_iff.1 ha).1
  rw [hfl] at this; simpa using this
 have hd:j / size < n:=by rw [Nat.div_lt_iff_lt_mul hp]; exact hj
 have hm:j % size < size:=Nat.mod_lt _ hp
 have hjj:j / size * size + j % size = j:=by rw [Nat.mul_comm]; exact Nat.div_add_mod _ _
 have h1:=kO (Cp (n:=n) hs) (j / size) zs (by simp [hd]) (j % size) hm
 rw [hjj,ha] at h1
 rw [List.getElem?_take,if_pos hj] at hb
 have h2:(madeCells zc (m * size)).toList[j]? = zc[j % size]?:=by
  have hlt:j < m * size:=by omega
  simp only [madeCells,Array.getElem?_toList]
  rw [Array.getElem?_map,Array.getElem?_range]
  simp only [hlt,if_true,Option.map_some,hzl]
  have:j % size < zc.size:=by omega
  simp [this]
 rw [h2] at hb
 obtain ⟨u,hu,hr⟩:=hz.get (j % size) a h1.symm
 rw [Array.getElem?_toList,hb] at hu
 cases hu
 exact hr
def ZC (a b:CP):Prop:=∀ h v,a.rel h v → b.rel h v
theorem ZC.refl {a:CP}:ZC a a:=fun _ _ x=>x
theorem ZC.cB {size:Nat} (h:0 < size):ZC .nil (.sl size []):=fun _ v x=>⟨fun ps hp=>by simp at hp,h,.inl ⟨x.1,rfl⟩⟩
theorem IS {h:PH}:∀ {zs qs:List CP} {vs:List Value},aQ ZC zs qs → aA h zs vs → aA h qs vs
 | [],_,_,h1,h2=>by cases h1; cases h2; exact .nil
 | _ :: _,_,_,h1,h2=>by cases h1 with | cons a b=>cases h2 with | cons c d=>exact .cons (a _ _ c) (IS b d)
theorem CS {k size bytes:Nat} {e:TypeId} {zs:List CP} {lo co:Operand} {kl kc:IntKind} {α:Type} {z0:α} {enc:α → List CP} {a b:Int} {r:List α} (ht:kV P t e size bytes zs) (hm:mk? z0 a b = some r) (hbb:bytes ≤ 281474) (hz0:aQ ZC zs (enc z0))
  (hx:s.ev lo = some (.b (.one (.int kl a)))) (hy:s.ev co = some (.b (.one (.int kc b)))) (hfx:n.fix.contains k = false) (hnu:di k s.own = true:=by rfl) :
  aR P E n ⟨dst,.makeSlice t lo co,ty,pos,after,g⟩ s ((⟨cn k s.slots,ins k (.row e size (r.map enc)) s.own⟩:St).put n dst (.b (.row k))) :=
 aR.make (hfx:=hfx) (hnu:=hnu) (o:=⟨dst,.makeSlice t lo co,ty,pos,after,g⟩) fun ac w h ρ hw hs=>by
  obtain ⟨i,z,h1,h2,h3,h4,h5,h6,h7⟩:=ht.info
  obtain ⟨q0,q1,q2,rfl⟩:=mk_ok hm
  have hzr:=oo h h7
  have hzr:aA h (enc z0) z.cells.toList:=IS hz0 hzr
  have hzl:(enc z0).length = size:=by rw [hzr.length]; simpa using h5
  have hbytes:(i.bytes:Int) * b ≤ 281474976710656:=by
   rw [h3]
   have e1:(bytes:Int) ≤ 281474:=by omega
   calc (bytes:Int) * b ≤ 281474 * b:=Int.mul_le_mul_of_nonneg_right e1 (by omega)
    _ ≤ _:=by omega
  have hrun:=run_make (P:=P) w t e i z ht.und h1 h4 kl kc a b q0 q1 hbytes (by omega)
  rw [h2] at hrun
  refine ⟨.slice (some ⟨w.heap.size,0,none⟩) a.toNat b.toNat,.slice (some ⟨w.heap.size,0,none⟩) a.toNat b.toNat,w.alloc (.cells (madeCells z.cells (b.toNat * size)) e),none,?_,fun b e=>by simp at e,by simp,rfl,rfl,fun b hb _=>heap_alloc_old w _ hb,?_,
   fun b e=>by simp [aZ] at e; subst e; exact .inr (Nat.le_refl _),(cG _ _ _).symm⟩
  ·simp only [execOp,(bG hs hx).1,(bG hs hy).1]
   simp [hrun]
  ·have hle:a.toNat ≤ b.toNat:=by omega
   have hmap:(List.replicate a.toNat z0).map enc = List.replicate a.toNat (enc z0):=by rw [List.map_replicate]
   rw [hmap]
   refine ⟨Cp hzl,h6,(madeCells z.cells (b.toNat * size)).toList.take (a.toNat * size),⟨?_,.inr ⟨w.heap.size,b.toNat,_,?_,Nat.zero_le _,heap_alloc_new w _,?_,?_,?_,?_⟩⟩,Kb hzr hzl h6 _ _ hle⟩
   ·have:a.toNat * size ≤ b.toNat * size:=Nat.mul_le_mul_right _ hle
    have hms:(madeCells z.cells (b.toNat * size)).toList.length = b.toNat * size:=by simp [madeCells]
    rw [List.length_take,hms,List.length_replicate]; omega
   ·simp
   ·simpa using hle
   ·rw [c7]; omega
   ·simp [madeCells]
   ·simp
end
end Go.Sk
namespace Go.Sk
set_option linter.unusedSimpArgs false
set_option linter.unusedVariables false
open Go Go.BigFrame
def swp (a b k:Nat):Nat:=if k == a then b else if k == b then a else k
theorem gK (a b k:Nat):swp a b (swp a b k) = k:=by
 unfold swp
 by_cases h1:k = a
 ·subst h1
  by_cases h2:b = k <;> simp [h2]
 ·by_cases h2:k = b
  ·subst h2
   simp [h1]
  ·simp [h1,h2]
def CV.gk (f:Nat → Nat):CV → CV
 | .row j=>.row (f j)
 | .ptr j o=>.ptr (f j) o
 | z=>z
def BV.gk (f:Nat → Nat):BV → BV
 | .cD g fs cs=>.cD g (fs.map (·.gk f)) (cs.map (·.gk f))
 | .xa cs=>.xa (cs.map (·.gk f))
 | .row j=>.row (f j)
 | .ptr j o=>.ptr (f j) o
 | .gh j o=>.gh (f j) o
 | .part j a b c d=>.part (f j) a b c d
 | .C' j a b c=>.C' (f j) a b c
 | z=>z
def SV.gk (f:Nat → Nat):SV → SV
 | .b z=>.b (z.gk f)
 | .kU l=>.kU (l.map (·.gk f))
 | .opt c z=>.opt c (z.gk f)
 | .jX l=>.jX (l.map (·.gk f))
def OC.gk (f:Nat → Nat):OC → OC
 | .ba T cs=>.ba T (cs.map (·.gk f))
 | .mp es=>.mp (es.map fun q=>(q.1,q.2.gk f))
 | .AR j m rest cur=>.AR (f j) m rest cur
 | c=>c
def bq (f:Nat → Nat) (l:List (Nat × OC)):List (Nat × OC):=l.map fun p=>(f p.1,p.2.gk f)
theorem iI {α β γ:Type} {r:β → γ → Prop} (g:α → β):∀ {l:List α} {vs:List γ},aQ r (l.map g) vs ↔ aQ (fun a u=>r (g a) u) l vs
 | [],vs=>⟨fun h=>by cases h; exact .nil,fun h=>by cases h; exact .nil⟩
 | a :: l,vs=>⟨fun h=>by cases h with | cons h1 h2=>exact .cons h1 ((iI g).1 h2),fun h=>by cases h with | cons h1 h2=>exact .cons h1 ((iI g).2 h2)⟩
theorem ll {α γ:Type} {r r':α → γ → Prop} {l:List α} {vs:List γ} (h:∀ a u,r a u ↔ r' a u):aQ r l vs ↔ aQ r' l vs:=⟨fun x=>x.mono fun a u=>(h a u).1,fun x=>x.mono fun a u=>(h a u).2⟩
theorem CV.fH {f:Nat → Nat} {h:PH} {ρ:RM} {z:CV} {v:Value}:(z.gk f).rel h ρ v ↔ z.rel h (fun k=>ρ (f k)) v:=by cases z <;> exact Iff.rfl
theorem BV.fH {f:Nat → Nat} {h:PH} {ρ:RM} {z:BV} {v:Value}:(z.gk f).rel h ρ v ↔ z.rel h (fun k=>ρ (f k)) v:=by
 cases z with
 | xa cs=>exact exists_congr fun a=>and_congr Iff.rfl ((iI _).trans (ll fun a u=>and_congr CV.fH Iff.rfl))
 | cD g fs cs=>exact exists_congr fun a=>exists_congr fun b=>and_congr Iff.rfl (and_congr ((iI _).trans (ll fun a u=>CV.fH)) ((iI _).trans (ll fun a u=>CV.fH)))
 | _=>exact Iff.rfl
theorem SV.fH {f:Nat → Nat} {h:PH} {ρ:RM} {z:SV} {v:Value}:(z.gk f).rel h ρ v ↔ z.rel h (fun k=>ρ (f k)) v:=by
 cases z with
 | b z=>exact BV.fH
 | opt c z=>exact and_congr (imp_congr Iff.rfl BV.fH) Iff.rfl
 | kU l=>exact exists_congr fun vs=>and_congr Iff.rfl ((iI _).trans (ll fun a u=>BV.fH))
 | jX l=>exact exists_congr fun vs=>and_congr Iff.rfl ((iI _).trans (ll fun a u=>and_congr BV.fH Iff.rfl))
theorem OC.Cs {f:Nat → Nat} {h:PH} {ρ:RM} {c:OC} {v:Value} {w:World}:(c.gk f).ok h ρ v w ↔ c.ok h (fun k=>ρ (f k)) v w:=by
 cases c with
 | box T ps=>exact Iff.rfl
 | row T size es=>exact Iff.rfl
 | oe T size es=>exact Iff.rfl
 | B3 T size es=>exact Iff.rfl
 | sit q pos=>exact Iff.rfl
 | mq m=>exact Iff.rfl
 | rr=>exact Iff.rfl
 | AR j m rest cur=>exact exists_congr fun _=>exists_congr fun _=>exists_congr fun _=>exists_congr fun _=>exists_congr fun _=>⟨fun x=>⟨x.ptr,x.it,x.map,x.obj,x.ents,x.born,x.left,x.at_⟩,fun x=>⟨x.ptr,x.it,x.map,x.obj,x.ents,x.born,x.left,x.at_⟩⟩
 | mp es=>exact exists_congr fun b=>exists_congr fun ms=>exists_congr fun clk=>and_congr Iff.rfl (and_congr Iff.rfl (and_congr ((iI _).trans (ll fun a u=>and_congr Iff.rfl BV.fH)) Iff.rfl))
 | ba T cs=>exact exists_congr fun b=>exists_congr fun cur=>and_congr Iff.rfl (and_congr Iff.rfl ((iI _).trans (ll fun a u=>and_congr BV.fH Iff.rfl)))
theorem OC.jq {f:Nat → Nat} {c:OC} {v:Value} {w:World} {b:Nat}:(c.gk f).du v w b ↔ c.du v w b:=by cases c <;> exact Iff.rfl
theorem DZ {f:Nat → Nat} {l:List (Nat × OC)} {k:Nat} {c:OC} (h:(k,c) ∈ bq f l):∃ k0 c0,(k0,c0) ∈ l ∧ k = f k0 ∧ c = c0.gk f:=by
 obtain ⟨⟨k0,c0⟩,hm,he⟩:=List.mem_map.1 h
 obtain ⟨rfl,rfl⟩:=Prod.mk.inj he
 exact ⟨k0,c0,hm,rfl,rfl⟩
theorem pO {f:Nat → Nat} {l:List (Nat × OC)}:ai (bq f l) = (ai l).map f:=by simp [ai,bq]
theorem F0 {f:Nat → Nat} {c:OC}:(c.gk f).vt = c.vt:=by cases c <;> rfl
theorem rG {f:Nat → Nat}:∀ {l:List (Nat × OC)},aq (bq f l) = (aq l).map f
 | []=>rfl
 | (k,c) :: l=>by
  have ih:=rG (f:=f) (l:=l)
  show (if (c.gk f).vt = true then f k :: aq (bq f l) else aq (bq f l)) = _
  rw [F0,ih]
  cases hb:c.vt <;> simp [aq,hb]
theorem aG.sw {P:Program} {TB:aF} {f:FuncId} {own own':List (Nat × OC)} {args:List BV} {res:SV} (hm:aG P TB f own args (Is own' res)) (a b:Nat) :
  aG P TB f (bq (swp a b) own) (args.map (·.gk (swp a b))) (Is (bq (swp a b) own') (res.gk (swp a b))):=by
 intro w h ρ vals tb hag hlent hargs
 have hss:(fun k=>ρ (swp a b (swp a b k))) = ρ:=by funext k; rw [gK]
 have hinj:∀ {i j:Nat},swp a b i = swp a b j → i = j:=fun {i j} e=>by have:=congrArg (swp a b) e; rwa [gK,gK] at this
 have hl:B9 own h (fun k=>ρ (swp a b k)) w:=fun k c hk=>by
  obtain ⟨e1,e2,e3⟩:=hlent (swp a b k) (c.gk (swp a b)) (List.mem_map.2 ⟨(k,c),hk,rfl⟩)
  exact ⟨OC.Cs.1 e1,fun b hb=>e2 b (OC.jq.2 hb),fun k' c' hk' hne b' hb' hb2=>e3 (swp a b k') (c'.gk (swp a b)) (List.mem_map.2 ⟨(k',c'),hk',rfl⟩) (fun e=>hne (hinj e)) b' (OC.jq.2 hb') (OC.jq.2 hb2)⟩
 have ha:aQ (fun (x:BV) v=>x.rel h (fun k=>ρ (swp a b k)) v) args vals:=((iI _).trans (ll fun a u=>BV.fH)).1 hargs
 refine (hm w h _ vals tb hag hl ha).mono ?_
 rintro e w' ⟨v,own1,res1,h',ρ',rfl,⟨rfl,rfl⟩,hw,hres⟩
 have hlt:∀ b',qR (TB:=TB) ⟨w,h,fun k=>ρ (swp a b k),tb⟩ ⟨0,aq own,ai own,[]⟩ b' ↔ qR (TB:=TB) ⟨w,h,ρ,tb⟩ ⟨0,aq (bq (swp a b) own),ai (bq (swp a b) own),[]⟩ b':=fun b'=>by
  constructor
  ·rintro ⟨k,hk,hb⟩
   exact ⟨swp a b k,by show _ ∈ ai _; rw [pO]; exact List.mem_map.2 ⟨k,hk,rfl⟩,hb⟩
  ·rintro ⟨k,hk,hb⟩
   have hk':k ∈ (ai own).map (swp a b):=by rw [← pO]; exact hk
   obtain ⟨k0,hk0,rfl⟩:=List.mem_map.1 hk'
   exact ⟨k0,hk0,hb⟩
 refine ⟨v,_,_,h',fun k=>ρ' (swp a b k),rfl,⟨rfl,rfl⟩,⟨hw.agree,hw.le,fun b' hb' hn=>hw.fresh b' hb' fun hh=>hn ((hlt b').1 hh),hw.size,fun b' hb' hn=>hw.same b' hb' fun hh=>hn ((hlt b').1 hh),fun k hk=>?_,hw.os,hw.out,fun b' hn o=>hw.nl b' ((hlt b').2 hn) o,fun k c hk=>?_⟩,?_⟩
 ·have hk':k ∈ (aq own).map (swp a b):=by rw [← rG]; exact hk
  obtain ⟨k0,hk0,rfl⟩:=List.mem_map.1 hk'
  show ρ' (swp a b (swp a b k0)) = _
  rw [gK]; exact hw.fixed k0 hk0
 ·obtain ⟨k0,c0,hk0,rfl,rfl⟩:=DZ hk
  obtain ⟨e1,e2,e3⟩:=hw.owned k0 c0 hk0
  have hss':(fun k=>ρ' (swp a b (swp a b k))) = ρ':=by funext k; rw [gK]
  refine ⟨OC.Cs.2 (by rw [gK]; exact (congrArg (fun r=>c0.ok h' r (ρ' k0) w') hss').mpr e1),fun b' hb'=>?_,fun k' c' hk' hne b' hb'=>?_⟩
  ·have hb2:c0.du (ρ' k0) w' b':=by
    have:=OC.jq.1 hb'
    rwa [gK] at this
   exact ⟨(e2 b' hb2).1.imp_right (hlt b').1,(e2 b' hb2).2⟩
  ·obtain ⟨k1,c1,hk1,rfl,rfl⟩:=DZ hk'
   have hb2:c0.du (ρ' k0) w' b':=by
    have:=OC.jq.1 hb'
    rwa [gK] at this
   intro hb3
   have hb4:c1.du (ρ' k1) w' b':=by
    have:=OC.jq.1 hb3
    rwa [gK] at this
   exact e3 k1 c1 hk1 (fun e=>hne (by rw [e])) b' hb2 hb4
 ·have hss':(fun k=>ρ' (swp a b (swp a b k))) = ρ':=by funext k; rw [gK]
  exact SV.fH.2 (by rw [hss']; exact hres)
section
variable {P:Program} {TB:aF} {E:Env TB} {n:Sh} {s s':St} {dst:Option Nat} {t ty yt:TypeId} {pos:String} {after:Array Edge} {g:Option (Nat × Bool)} {x y c:Operand} {ops:Array Oper} {l:List Oper} {Q:bF} {cd:Code}
theorem gN {α:Type} {k:Nat} {c:α}:∀ {l:List (Nat × α)} {j:Nat} {x:α},(j,x) ∈ l → j ≠ k → (j,x) ∈ ins k c l
 | (i,y) :: l,j,x,h,hne=>by
  unfold ins
  split
  ·next e=>
   have e':k = i:=by simpa using e
   subst e'
   cases List.mem_cons.1 h with
   | inl e=>obtain ⟨rfl,rfl⟩:=Prod.mk.inj e; exact absurd rfl hne
   | inr e=>exact List.mem_cons_of_mem _ (cV e hne)
  ·cases List.mem_cons.1 h with
   | inl e=>rw [e]; exact List.mem_cons_self
   | inr e=>exact List.mem_cons_of_mem _ (gN e hne)
theorem WR.repl' {own:List (Nat × OC)} {h:PH} {ρ:RM} {w:World} (hw:WR E n own h ρ w) {k:Nat} {c0 c':OC} (hk:(k,c0) ∈ own) (hc:c'.ok h ρ (ρ k) w) (hpl:c'.plain = true:=by rfl):WR E n (ins k c' own) h ρ w:=by
 have:=hw.step (w':=w) k (ρ k) c' (aZ (ρ k)) (fun b e=>⟨c0,hk,e⟩) (Nat.le_refl _) rfl rfl (fun _ _ _=>rfl) (by rw [oM]; exact hc) (fun b hb=>.inl hb) (.inl rfl) (.inl rfl) hpl
 rwa [oM] at this
theorem R.pE {a:Act} {w:World} (hr:R E n s a w) (kb off k size:Nat) (T:TypeId) {T2:TypeId} {cs:List BV} (hk:lk s.own kb = some (.ba T2 cs)) (hi:cs[off]? = some (.one .nil)) (hz:0 < size) (hne:kb ≠ k) (hfx:n.fix.contains k = false) (hnu:di k s.own = true) :
  R E n ⟨cn k s.slots,ins kb (.ba T2 (cs.set off (.row k))) (ins k (.row T size []) s.own)⟩ a w:=by
 obtain ⟨h1,h2,h,ρ,hw,hs⟩:=hr
 obtain ⟨b,cur,e1,e2,e3⟩:=fe hw hk
 have hst:=hw.step (w':=w) k (.slice none 0 0) (.row T size []) none (fun b e=>by simp at e) (Nat.le_refl _) rfl rfl (fun _ _ _=>rfl)
  ⟨fun ps hps=>by simp at hps,hz,[],⟨by simp,.inl ⟨rfl,rfl⟩⟩,.nil⟩ (fun b hb=>by simp [aZ] at hb) (.inr fun e=>by simp at hfx; exact hfx e) (.inr hnu)
 have hm:=gN (c:=OC.row T size []) (bh hk) hne
 have hcs:aQ (CR h (oy ρ k (.slice none 0 0))) (cs.set off (.row k)) cur.toList:=by
  have hno:∀ j,(cs.any (·.bd j)) = true → oy ρ k (.slice none 0 0) j = ρ j:=fun j hj=>eX _ _ fun e=>by
   subst e
   have:=qE hnu (bh hk)
   simp only [OC.bd] at this
   rw [this] at hj; simp at hj
  clear hst hm hk e2
  generalize cur.toList = vl at e3
  induction e3 generalizing off with
  | nil=>simp at hi
  | @cons z u cs vl h3 t ih=>
   have hno':∀ j,(cs.any (·.bd j)) = true → oy ρ k (.slice none 0 0) j = ρ j:=fun j hj=>hno j (by simp only [List.any_cons,hj,Bool.or_true])
   have hu:∀ j,z.bd j = true → oy ρ k (.slice none 0 0) j = ρ j:=fun j hj=>hno j (by simp [hj])
   have hrest:∀ {cs:List BV} {vl:List Value},(∀ j,(cs.any (·.bd j)) = true → oy ρ k (.slice none 0 0) j = ρ j) → aQ (fun (z:BV) u=>z.rel h ρ u ∧ u.oneCell' = true) cs vl → aQ (CR h (oy ρ k (.slice none 0 0))) cs vl:=by
    intro cs vl hn ha
    induction ha with
    | nil=>exact .nil
    | cons h4 _ ih2=>exact .cons ⟨BV.mono (PH.le_refl _) (fun j hj=>hn j (by simp [hj])) h4.1,h4.2⟩ (ih2 fun j hj=>hn j (by simp only [List.any_cons,hj,Bool.or_true]))
   cases off with
   | zero=>
    simp at hi
    subst hi
    have hv:u = .slice none 0 0:=h3.1.1
    exact .cons ⟨by rw [hv]; exact (cG _ _ _).symm,h3.2⟩ (hrest hno' t)
   | succ off=>exact .cons ⟨BV.mono (PH.le_refl _) hu h3.1,h3.2⟩ (ih off (by simpa using hi) hno')
 refine ⟨h1,h2,h,_,WR.repl' hst hm ⟨b,cur,by rw [eX _ _ hne]; exact e1,e2,hcs⟩,hs.cn k _⟩
theorem ah.pE (kb off k size:Nat) (T:TypeId) {T2:TypeId} {cs:List BV} (hk:lk s.own kb = some (.ba T2 cs)) (hi:cs[off]? = some (.one .nil)) (hz:0 < size) (hne:kb ≠ k) (hfx:n.fix.contains k = false) (h:ah P E n cd ⟨cn k s.slots,ins kb (.ba T2 (cs.set off (.row k))) (ins k (.row T size []) s.own)⟩ Q) (hnu:di k s.own = true:=by rfl):ah P E n cd s Q:=fun a w hr=>h a w (hr.pE kb off k size T hk hi hz hne hfx hnu)
theorem aj.pE (kb off k size:Nat) (T:TypeId) {T2:TypeId} {cs:List BV} (hk:lk s.own kb = some (.ba T2 cs)) (hi:cs[off]? = some (.one .nil)) (hz:0 < size) (hne:kb ≠ k) (hfx:n.fix.contains k = false) (h:aj P E n ops l ⟨cn k s.slots,ins kb (.ba T2 (cs.set off (.row k))) (ins k (.row T size []) s.own)⟩ Q) (hnu:di k s.own = true:=by rfl):aj P E n ops l s Q:=fun a w hr=>h a w (hr.pE kb off k size T hk hi hz hne hfx hnu)
theorem Fin.pE {e:Exit} (kb off k size:Nat) (T:TypeId) {T2:TypeId} {cs:List BV} (hk:lk s.own kb = some (.ba T2 cs)) (hi:cs[off]? = some (.one .nil)) (hz:0 < size) (hne:kb ≠ k) (hfx:n.fix.contains k = false) (h:Fin E n e ⟨cn k s.slots,ins kb (.ba T2 (cs.set off (.row k))) (ins k (.row T size []) s.own)⟩ Q) (hnu:di k s.own = true:=by rfl):Fin E n e s Q:=fun a w hr=>h a w (hr.pE kb off k size T hk hi hz hne hfx hnu)
end
end Go.Sk
namespace Go.Sk
set_option linter.unusedSimpArgs false
set_option linter.unusedVariables false
open Go
end Go.Sk
namespace Go.Sk
end Go.Sk
namespace Go.Sk
set_option linter.unusedSimpArgs false
set_option linter.unusedVariables false
open Go Go.BigFrame
structure uf where
 done:List Bool
 base:List (Nat × SV)
 own:List (Nat × OC)
 live:List Bool
 must:List Nat
 nots:List Nat
def nb (l:List Bool) (i:Nat):Bool:=l.getD i false
def nL:List uf → List Bool → Option uf
 | [],_=>none
 | σ :: tab,d=>if σ.done == d then some σ else nL tab d
theorem kC:∀ {tab:List uf} {d:List Bool} {σ:uf},nL tab d = some σ → σ.done = d ∧ σ ∈ tab
 | σ0 :: tab,d,σ,h=>by
  unfold nL at h
  split at h
  ·next e=>cases h; exact ⟨by simpa using e,List.mem_cons_self⟩
  ·exact ⟨(kC h).1,List.mem_cons_of_mem _ (kC h).2⟩
def cC (p:Nat → Bool) (l:List Oper) (Fs:List SV):List Edge → List (Nat × SV)
 | []=>[]
 | e :: es=>if Region.binds .any e && p e.on then
   match l[e.on]?,Fs[e.on]? with
   | some o,some x=>(match o.dst with | some d=>(d,x) :: cC p l Fs es | none=>cC p l Fs es)
   | _,_=>cC p l Fs es
  else cC p l Fs es
theorem uz {p:Nat → Bool} {l:List Oper} {Fs:List SV}:∀ {es:List Edge} {q:Nat × SV},q ∈ cC p l Fs es → ∃ e,e ∈ es ∧ Region.binds .any e = true ∧ p e.on = true ∧ ∃ o,l[e.on]? = some o ∧ o.dst = some q.1 ∧ Fs[e.on]? = some q.2
 | [],q,h=>by simp [cC] at h
 | e :: es,q,h=>by
  have hrec:q ∈ cC p l Fs es → ∃ e',e' ∈ e :: es ∧ Region.binds .any e' = true ∧ p e'.on = true ∧ ∃ o,l[e'.on]? = some o ∧ o.dst = some q.1 ∧ Fs[e'.on]? = some q.2:=fun h=>by
   obtain ⟨e',h1,h2⟩:=uz h
   exact ⟨e',List.mem_cons_of_mem _ h1,h2⟩
  unfold cC at h
  split at h
  ·rename_i hb
   simp only [Bool.and_eq_true] at hb
   split at h
   ·rename_i o x ho hx
    split at h
    ·rename_i d hd
     cases List.mem_cons.1 h with
     | inl e'=>subst e'; exact ⟨e,List.mem_cons_self,hb.1,hb.2,o,ho,hd,hx⟩
     | inr e'=>exact hrec e'
    ·exact hrec h
   ·exact hrec h
  ·exact hrec h
def iq:List Nat → List (Nat × SV) → List (Nat × SV)
 | [],l=>l
 | k :: ks,l=>iq ks (cn k l)
def kZ:List Nat → SV → Bool
 | [],_=>false
 | k :: ks,x=>x.bd k || kZ ks x
theorem uy {q:Nat × SV}:∀ {key:List Nat} {l:List (Nat × SV)},q ∈ iq key l → q ∈ l ∧ kZ key q.2 = false
 | [],l,h=>⟨h,rfl⟩
 | k :: ks,l,h=>by
  obtain ⟨h1,h2⟩:=uy (key:=ks) h
  obtain ⟨h3,h4⟩:=fF h1
  exact ⟨h3,by simp [kZ,h4,h2]⟩
def Ju (o:Oper) (j:Nat):Bool:=o.after.toList.any fun e=>Region.binds .any e && e.on == j
section
variable {P:Program} {TB:aF} {E:Env TB} {n:Sh} {s s':St} {l:List Oper} {Q:bF} {o:Oper}
def may (isW:List Bool) (σ:uf) (i:Nat) (o:Oper):Bool:=!nb σ.done i && !σ.must.contains i && !σ.nots.contains i && (o.after.toList.all fun e=>!Region.binds .any e || !nb isW e.on || nb σ.done e.on)
def Fb (isW:List Bool) (l:List Oper) (σ:uf):Bool:=σ.must.all fun j=>(nb isW j && nb σ.done j) || (σ.must.any fun i=>decide (j < i) && (match l[i]? with | some o=>Ju o j | none=>false))
def delD:Option Nat → List (Nat × SV) → List (Nat × SV)
 | some d,l=>del d l
 | none,l=>l
def FB (isW:List Bool) (l:List Oper) (σ:uf):Bool:=(List.range l.length).all fun j=>(nb isW j && !nb σ.done j) || (match l[j]? with
 | some o=>(match o.dst with
  | some d=>σ.base.all fun p=>p.1 != d
  | none=>true)
 | none=>true)
def Gg (isW:List Bool) (l:List Oper) (σ:uf):Bool:=σ.nots.all fun j=>match l[j]? with
 | some o=>o.after.toList.any fun e=>Region.binds .any e && ((nb isW e.on && !nb σ.done e.on) || (decide (e.on < j) && σ.nots.contains e.on))
 | none=>false
theorem b6.to {ops:Array Oper} {s1 s2:St} (h:b6 P E n ops o s s1) (e:s1 = s2):b6 P E n ops o s s2:=e ▸ h
def E6 (P:Program) {TB:aF} (E:Env TB) (n:Sh) (isW:List Bool) (tab:List uf) (l:List Oper) (Fs:List SV) (σ:uf):Nat → List Oper → Prop
 | _,[]=>True
 | i,o :: r=>(if may isW σ i o = true then
   (if nb isW i = true then ∃ τ key x,nL tab (σ.done.set i true) = some τ ∧ (o.dst.isSome = true → Fs[i]? = some x) ∧ τ.base = delD o.dst (iq key σ.base) ∧ ((List.range l.length).all fun j=>!nb τ.live j || j == i || σ.nots.contains j || (nb σ.live j && (match Fs[j]? with | some y=>!kZ key y | none=>true))) = true ∧
     ∀ extra,b6 P E n l.toArray o ⟨cC (nb σ.live) l Fs o.after.toList ++ (σ.base ++ extra),σ.own⟩ (St.put n o.dst x ⟨iq key (cC (nb σ.live) l Fs o.after.toList ++ (σ.base ++ extra)),τ.own⟩)
    else ∃ x,(o.dst.isSome = true → Fs[i]? = some x) ∧ ∀ extra,b6 P E n l.toArray o ⟨cC (nb σ.live) l Fs o.after.toList ++ (σ.base ++ extra),σ.own⟩ (St.put n o.dst x ⟨cC (nb σ.live) l Fs o.after.toList ++ (σ.base ++ extra),σ.own⟩))
   else True) ∧ E6 P E n isW tab l Fs σ (i + 1) r
def B8 (P:Program) {TB:aF} (E:Env TB) (n:Sh) (isW:List Bool) (tab:List uf) (l:List Oper) (Fs:List SV):List uf → Prop
 | []=>True
 | σ :: r=>(Fb isW l σ && Gg isW l σ && ((List.range l.length).all fun i=>!nb σ.done i || nb isW i) && FB isW l σ && (σ.done.length == l.length)) = true ∧ E6 P E n isW tab l Fs σ 0 l ∧ B8 P E n isW tab l Fs r
theorem E6.get {isW:List Bool} {tab:List uf} {l0:List Oper} {Fs:List SV} {σ:uf}:∀ {r:List Oper} {k:Nat},E6 P E n isW tab l0 Fs σ k r → ∀ (i:Nat) (o:Oper),r[i]? = some o → may isW σ (k + i) o = true →
      (if nb isW (k + i) = true then ∃ τ key x,nL tab (σ.done.set (k + i) true) = some τ ∧ (o.dst.isSome = true → Fs[k + i]? = some x) ∧ τ.base = delD o.dst (iq key σ.base) ∧ ((List.range l0.length).all fun j=>!nb τ.live j || j == k + i || σ.nots.contains j || (nb σ.live j && (match Fs[j]? with | some y=>!kZ key y | none=>true))) = true ∧
          ∀ extra,b6 P E n l0.toArray o ⟨cC (nb σ.live) l0 Fs o.after.toList ++ (σ.base ++ extra),σ.own⟩ (St.put n o.dst x ⟨iq key (cC (nb σ.live) l0 Fs o.after.toList ++ (σ.base ++ extra)),τ.own⟩)
        else ∃ x,(o.dst.isSome = true → Fs[k + i]? = some x) ∧ ∀ extra,b6 P E n l0.toArray o ⟨cC (nb σ.live) l0 Fs o.after.toList ++ (σ.base ++ extra),σ.own⟩ (St.put n o.dst x ⟨cC (nb σ.live) l0 Fs o.after.toList ++ (σ.base ++ extra),σ.own⟩))
  | [],k,h,i,o,ho,_=>by simp at ho
  | p :: r,k,h,i,o,ho,hm=>by
    obtain ⟨h1,h2⟩:=h
    cases i with
    | zero=>
      simp at ho; subst ho
      rw [Nat.add_zero] at hm ⊢
      rw [if_pos hm] at h1
      exact h1
    | succ i=>
      have:=E6.get h2 i o (by simpa using ho) (by rw [← hm]; congr 1; omega)
      have e:k + 1 + i = k + (i + 1):=by omega
      rwa [e] at this
theorem B8.get {isW:List Bool} {tab:List uf} {Fs:List SV}:∀ {r:List uf},B8 P E n isW tab l Fs r → ∀ σ ∈ r,(Fb isW l σ && Gg isW l σ && ((List.range l.length).all fun i=>!nb σ.done i || nb isW i) && FB isW l σ && (σ.done.length == l.length)) = true ∧ E6 P E n isW tab l Fs σ 0 l
 | σ :: r,h,τ,hm=>by
  cases List.mem_cons.1 hm with
  | inl e=>subst e; exact ⟨h.1,h.2.1⟩
  | inr e=>exact B8.get h.2.2 τ e
theorem Ka {d:Option Nat} {l:List (Nat × SV)} {k:Nat} {y:SV} (h:(k,y) ∈ delD d l):(k,y) ∈ l ∧ ∀ d',d = some d' → k ≠ d':=by
 cases d with
 | none=>exact ⟨h,fun d' e=>by cases e⟩
 | some d=>exact ⟨(b9 h).1,fun d' e=>by cases e; exact (b9 h).2⟩
theorem H' {isW:List Bool} {σ:uf} {i d:Nat} {o:Oper} (h:FB isW l σ = true) (hi:i < l.length) (ho:l[i]? = some o) (hd:o.dst = some d) (hw:nb isW i = false ∨ nb σ.done i = true) {k:Nat} {y:SV} (hy:(k,y) ∈ σ.base):k ≠ d:=by
 have:=List.all_eq_true.1 h i (List.mem_range.2 hi)
 rw [ho] at this
 simp only [hd,Bool.or_eq_true,Bool.and_eq_true,Bool.not_eq_true'] at this
 rcases this with ⟨h1,h2⟩ | h1
 ·rcases hw with hw | hw
  ·rw [hw] at h1; simp at h1
  ·rw [hw] at h2; simp at h2
 ·have:=List.all_eq_true.1 h1 (k,y) hy
  simpa using this
theorem jz {k:Nat} {q:Nat × SV} (hu:q.2.bd k = false):∀ {l:List (Nat × SV)},q ∈ l → q ∈ cn k l
 | (i,x) :: l,h=>by
  show q ∈ (if x.bd k = true then cn k l else (i,x) :: cn k l)
  cases List.mem_cons.1 h with
  | inl e=>
   subst e
   rw [if_neg (by rw [hu]; simp)]
   exact List.mem_cons_self
  | inr e=>
   split
   ·exact jz hu e
   ·exact List.mem_cons_of_mem _ (jz hu e)
theorem oB {q:Nat × SV}:∀ {key:List Nat} {l:List (Nat × SV)},q ∈ l → kZ key q.2 = false → q ∈ iq key l
 | [],l,h,_=>h
 | k :: ks,l,h,hu=>by
  simp only [kZ,Bool.or_eq_false_iff] at hu
  exact oB (key:=ks) (jz hu.1 h) hu.2
theorem nb_eq {a b:List Bool} (hl:a.length = b.length) (h:∀ i,nb a i = nb b i):a = b:=by
 refine List.ext_getElem hl fun i h1 h2=>?_
 have:=h i
 simpa [nb,List.getD,List.getElem?_eq_getElem h1,List.getElem?_eq_getElem h2] using this
theorem nb_set {a:List Bool} {i j:Nat}:nb (a.set i true) j = if j = i ∧ i < a.length then true else nb a j:=by
 unfold nb
 simp only [List.getD,List.getElem?_set]
 by_cases h:i = j
 ·subst h
  by_cases h2:i < a.length <;> simp [h2]
 ·have h':¬ j = i:=fun e=>h e.symm
  simp [h,h']
theorem ED {isW:List Bool} {σ:uf} {listed:Array Bool} (hm:Fb isW l σ = true) (hw:∀ i,nb isW i = true → listed.getD i false = nb σ.done i) (hcl:∀ (i:Nat) (p:Oper),l[i]? = some p → listed.getD i false = true → ∀ e ∈ p.after.toList,Region.binds .any e = true → listed.getD e.on false = true) :
  ∀ m j,l.length - j = m → j ∈ σ.must → listed.getD j false = true:=by
 intro m
 induction m using Nat.strongRecOn with
 | _ m ih=>
  intro j hm' hj
  have:=List.all_eq_true.1 hm j hj
  simp only [Bool.or_eq_true,Bool.and_eq_true,List.any_eq_true,decide_eq_true_eq] at this
  rcases this with ⟨h1,h2⟩ | ⟨i,hi,hji,hp⟩
  ·rw [hw j h1]; exact h2
  ·cases hpi:l[i]? with
   | none=>rw [hpi] at hp; simp at hp
   | some p=>
    rw [hpi] at hp
    have hil:=(List.getElem?_eq_some_iff.1 hpi).1
    simp only [Ju,List.any_eq_true,Bool.and_eq_true,beq_iff_eq] at hp
    obtain ⟨e,he,hb,hon⟩:=hp
    have:=hcl i p hpi (ih (l.length - i) (by omega) i rfl hi) e he hb
    rwa [hon] at this
theorem Ap {isW:List Bool} {σ:uf} {listed:Array Bool} (hm:Gg isW l σ = true) (hw:∀ i,nb isW i = true → listed.getD i false = nb σ.done i) (hcl:∀ (i:Nat) (p:Oper),l[i]? = some p → listed.getD i false = true → ∀ e ∈ p.after.toList,Region.binds .any e = true → listed.getD e.on false = true) :
  ∀ j,j ∈ σ.nots → listed.getD j false = false:=by
 intro j
 induction j using Nat.strongRecOn with
 | _ j ih=>
  intro hj
  cases hl:listed.getD j false with
  | false=>rfl
  | true=>
   exfalso
   have:=List.all_eq_true.1 hm j hj
   cases hpi:l[j]? with
   | none=>rw [hpi] at this; simp at this
   | some p=>
    rw [hpi] at this
    simp only [List.any_eq_true,Bool.and_eq_true,Bool.or_eq_true,decide_eq_true_eq,Bool.not_eq_true'] at this
    obtain ⟨e,he,hb,h2⟩:=this
    have h3:=hcl j p hpi hl e he hb
    rcases h2 with ⟨h4,h5⟩ | ⟨h4,h5⟩
    ·rw [hw _ h4,h5] at h3; simp at h3
    ·rw [ih _ h4 (by simpa using h5)] at h3; simp at h3
theorem HY {isW:List Bool} {σ:uf} {listed:Array Bool} (hm:Gg isW l σ = true) (hw:∀ i,nb isW i = true → listed.getD i false = nb σ.done i) (hcl:∀ (i:Nat) (p:Oper),l[i]? = some p → listed.getD i false = true → ∀ e ∈ p.after.toList,Region.binds .any e = true → listed.getD e.on false = true)
  {j:Nat} {p:Oper} (hj:j ∈ σ.nots) (hp:l[j]? = some p) (hr:∀ e ∈ p.after.toList,Region.binds .any e = true → listed.getD e.on false = true):False:=by
 have:=List.all_eq_true.1 hm j hj
 rw [hp] at this
 simp only [List.any_eq_true,Bool.and_eq_true,Bool.or_eq_true,decide_eq_true_eq,Bool.not_eq_true'] at this
 obtain ⟨e,he,hb,h2⟩:=this
 have h3:=hr e he hb
 rcases h2 with ⟨h4,h5⟩ | ⟨h4,h5⟩
 ·rw [hw _ h4,h5] at h3; simp at h3
 ·rw [Ap hm hw hcl _ (by simpa using h5)] at h3; simp at h3
theorem anyW {isW:List Bool} {tab:List uf} {Fs:List SV} (hok:(iv 0 l && gp (jK l) && (jK l).all (· < n.n) && (isW.length == l.length)) = true) (htab:B8 P E n isW tab l Fs tab)
  (hfin:∀ σ,nL tab isW = some σ → Fin E n .normal ⟨σ.base ++ aY (nb σ.live) 0 l Fs,σ.own⟩ Q):∀ (fuel:Nat) (listed:Array Bool) (σ:uf) (a:Act) (w:World),
  listed.size = l.length → nL tab σ.done = some σ → (∀ i,nb isW i = true → listed.getD i false = nb σ.done i) → (∀ (i:Nat) (p:Oper),l[i]? = some p → listed.getD i false = true → ∀ e ∈ p.after.toList,Region.binds .any e = true → listed.getD e.on false = true) →
  l.length ≤ fuel + (listed.toList.filter id).length → R E n ⟨σ.base ++ aY (fun i=>listed.getD i false && nb σ.live i) 0 l Fs,σ.own⟩ a w → wpAny P .any l.toArray Q fuel listed a w:=by
 simp only [Bool.and_eq_true,beq_iff_eq] at hok
 obtain ⟨⟨⟨hedges,hnd⟩,hlt⟩,hWl⟩:=hok
 simp only [List.all_eq_true] at hlt
 have hcount:∀ (L:List Bool) (i:Nat) (hi:i < L.length),L[i] = false → ((L.set i true).filter id).length = (L.filter id).length + 1:=by
  intro L
  induction L with
  | nil=>intro i hi; simp at hi
  | cons b L ihL=>
   intro i hi hb
   cases i with
   | zero=>simp at hb; subst hb; simp
   | succ i=>
    have:=ihL i (by simpa using hi) (by simpa using hb)
    cases b <;> simp [this]
 have hready:∀ (listed:Array Bool),listed.size = l.length → Region.ready .any l.toArray listed = [] → ∀ j,j < l.length → listed.getD j false = true:=by
  intro listed hsz hr j hj
  induction j using Nat.strongRecOn with
  | _ j ih=>
   cases hb:listed.getD j false with
   | true=>rfl
   | false=>
    exfalso
    have hjs:j < listed.size:=by omega
    have hjr:j ∈ Region.ready .any l.toArray listed:=by
     rw [mem_ready]
     have hlj:listed.getD j true = false:=by
      simp only [Array.getD_eq_getD_getElem?,Array.getElem?_eq_getElem hjs,Option.getD_some] at hb ⊢
      exact hb
     refine ⟨hlj,l[j],by simp [hj],fun e he hbd=>?_⟩
     have:=rA hedges j l[j] (by simp) e he hbd
     exact ih e.on (by omega) (by omega)
    rw [hr] at hjr
    simp at hjr
 have hdone:∀ (listed:Array Bool) (σ:uf) (a:Act) (w:World),listed.size = l.length → nL tab σ.done = some σ → (∀ i,nb isW i = true → listed.getD i false = nb σ.done i) → Region.ready .any l.toArray listed = [] →
   R E n ⟨σ.base ++ aY (fun i=>listed.getD i false && nb σ.live i) 0 l Fs,σ.own⟩ a w → Q .normal a w:=by
  intro listed σ a w hsz hσ hwl hr hR
  have hall:=hready listed hsz hr
  obtain ⟨hσ1,hσ2⟩:=kC hσ
  obtain ⟨hc,_⟩:=htab.get σ hσ2
  simp only [Bool.and_eq_true,List.all_eq_true,List.mem_range,Bool.or_eq_true,Bool.not_eq_true',beq_iff_eq] at hc
  obtain ⟨⟨⟨⟨_,_⟩,hc2⟩,_⟩,hc4⟩:=hc
  have he:σ.done = isW:=by
   refine nb_eq (by omega) fun i=>?_
   by_cases hi:i < l.length
   ·cases hw:nb isW i with
    | true=>rw [← hwl i hw]; exact hall i hi
    | false=>
     rcases hc2 i hi with h | h
     ·exact h
     ·rw [hw] at h; simp at h
   ·have h1:nb σ.done i = false:=by simp [nb,List.getD,List.getElem?_eq_none (show σ.done.length ≤ i by omega)]
    have h2:nb isW i = false:=by simp [nb,List.getD,List.getElem?_eq_none (show isW.length ≤ i by omega)]
    rw [h1,h2]
  refine hfin σ (by rw [← he]; exact hσ) a w ?_
  obtain ⟨h1,h2,h,ρ,hw,hs⟩:=hR
  refine ⟨h1,h2,h,ρ,hw,fun k x hx=>hs k x ?_⟩
  rcases List.mem_append.1 hx with hx | hx
  ·exact List.mem_append.2 (.inl hx)
  ·refine List.mem_append.2 (.inr ?_)
   rw [bR] at hx ⊢
   obtain ⟨j,oj,hj,hd,hF,hl⟩:=hx
   rw [Nat.zero_add] at hl
   exact ⟨j,oj,hj,hd,hF,by rw [Nat.zero_add,hall j (List.getElem?_eq_some_iff.1 hj).1,hl]; rfl⟩
 intro fuel
 induction fuel with
 | zero=>
  intro listed σ a w hsz hσ hwl hcl hf hR
  have hnr:Region.ready .any l.toArray listed = []:=by
   apply List.eq_nil_iff_forall_not_mem.2
   intro j hj
   rw [mem_ready] at hj
   obtain ⟨hj1,oj,hoj,_⟩:=hj
   have hjl:j < l.length:=by
    have:=(Array.getElem?_eq_some_iff.1 hoj).1
    simpa using this
   have hjs:j < listed.size:=by omega
   have hz':listed.toList[j]'(by simpa using hjs) = false:=by simpa [Array.getD_eq_getD_getElem?,Array.getElem?_eq_getElem hjs] using hj1
   have h1:=hcount listed.toList j (by simpa using hjs) hz'
   have h2:=List.length_filter_le id (listed.toList.set j true)
   simp at h1 h2 hf
   omega
  exact ⟨hnr,hdone listed σ a w hsz hσ hwl hnr hR⟩
 | succ fuel ih=>
  intro listed σ a w hsz hσ hwl hcl hf hR
  refine ⟨fun hr=>hdone listed σ a w hsz hσ hwl hr hR,fun i hi=>?_⟩
  rw [mem_ready] at hi
  obtain ⟨hi1,o',ho,hdeps⟩:=hi
  have hil:i < l.length:=by
   have:=(Array.getElem?_eq_some_iff.1 ho).1
   simpa using this
  have hol:l[i]? = some o':=by simpa using ho
  have his:i < listed.size:=by omega
  have hi1':listed[i] = false:=by simpa [Array.getD_eq_getD_getElem?,Array.getElem?_eq_getElem his] using hi1
  have hi2:listed.getD i false = false:=by simp [Array.getD_eq_getD_getElem?,Array.getElem?_eq_getElem his,hi1']
  obtain ⟨hσ1,hσ2⟩:=kC hσ
  obtain ⟨hc,hops⟩:=htab.get σ hσ2
  simp only [Bool.and_eq_true,List.all_eq_true,List.mem_range,Bool.or_eq_true,Bool.not_eq_true',beq_iff_eq] at hc
  obtain ⟨⟨⟨⟨hc1,hc0⟩,hc2⟩,hc3⟩,hc4⟩:=hc
  have hnot:=Ap (l:=l) (σ:=σ) (isW:=isW) hc0 hwl hcl
  have hmust:=ED (l:=l) (σ:=σ) (isW:=isW) hc1 hwl hcl
  have hmay:may isW σ i o' = true:=by
   simp only [may,Bool.and_eq_true,Bool.not_eq_true',List.all_eq_true,Bool.or_eq_true]
   refine ⟨⟨⟨?_,?_⟩,?_⟩,fun e he=>?_⟩
   ·cases hd:nb σ.done i with
    | false=>rfl
    | true=>
     rcases hc2 i hil with h | h
     ·rw [hd] at h; simp at h
     ·rw [hwl i h,hd] at hi2; simp at hi2
   ·cases hd:σ.must.contains i with
    | false=>rfl
    | true=>
     have:=hmust _ i rfl (by simpa using hd)
     rw [hi2] at this; simp at this
   ·cases hd:σ.nots.contains i with
    | false=>rfl
    | true=>exact (HY (l:=l) (σ:=σ) (isW:=isW) hc0 hwl hcl (by simpa using hd) hol (fun e he hb=>hdeps e (by simpa using he) hb)).elim
   ·cases hb:Region.binds .any e with
    | false=>simp
    | true=>
     have:=hdeps e (by simpa using he) hb
     cases hw:nb isW e.on with
     | false=>simp
     | true=>rw [hwl _ hw] at this; simp [this]
  have hstep:=E6.get hops i o' hol (by rw [Nat.zero_add]; exact hmay)
  simp only [Nat.zero_add] at hstep
  have hR2:R E n ⟨cC (nb σ.live) l Fs o'.after.toList ++ (σ.base ++ aY (fun i=>listed.getD i false && nb σ.live i) 0 l Fs),σ.own⟩ a w:=by
   obtain ⟨h1,h2,h,ρ,hw,hs⟩:=hR
   refine ⟨h1,h2,h,ρ,hw,fun k y hy=>?_⟩
   rcases List.mem_append.1 hy with hy | hy
   ·obtain ⟨e,he,hb,hp,o'',ho',hd',hF'⟩:=uz hy
    refine hs k y (List.mem_append.2 (.inr ?_))
    rw [bR]
    exact ⟨e.on,o'',ho',hd',hF',by rw [Nat.zero_add,hdeps e (by simpa using he) hb,hp]; rfl⟩
   ·exact hs k y hy
  have hcl':∀ (j:Nat) (p:Oper),l[j]? = some p → (listed.setIfInBounds i true).getD j false = true → ∀ e ∈ p.after.toList,Region.binds .any e = true → (listed.setIfInBounds i true).getD e.on false = true:=by
   intro j p hj hlj e he hb
   have hset:∀ q,listed.getD q false = true → (listed.setIfInBounds i true).getD q false = true:=fun q hq=>by
    by_cases e:q = i
    ·subst e; simp [Array.getD_eq_getD_getElem?,his]
    ·rw [getD_set_ne false (fun h=>e h.symm)]; exact hq
   by_cases e':j = i
   ·subst e'
    rw [hol] at hj; cases hj
    exact hset _ (hdeps e (by simpa using he) hb)
   ·rw [getD_set_ne false (fun h=>e' h.symm)] at hlj
    exact hset _ (hcl j p hj hlj e he hb)
  have hcnt:l.length ≤ fuel + ((listed.setIfInBounds i true).toList.filter id).length:=by
   have:=hcount listed.toList i (by simpa using his) (by simpa using hi1')
   rw [Array.toList_setIfInBounds]
   omega
  have hsz':(listed.setIfInBounds i true).size = l.length:=by simpa using hsz
  have hnext:∀ (τ:uf) (key:List Nat) (x:SV) (a':Act) (w':World),(o'.dst.isSome = true → Fs[i]? = some x) → (∀ k y,(k,y) ∈ τ.base → (k,y) ∈ iq key σ.base ∧ ∀ d,o'.dst = some d → k ≠ d) →
    (∀ j,j < l.length → nb τ.live j = true → j = i ∨ j ∈ σ.nots ∨ (nb σ.live j = true ∧ ∀ y,Fs[j]? = some y → kZ key y = false)) →
    R E n (St.put n o'.dst x ⟨iq key (cC (nb σ.live) l Fs o'.after.toList ++ (σ.base ++ aY (fun i=>listed.getD i false && nb σ.live i) 0 l Fs)),τ.own⟩) a' w' →
    R E n ⟨τ.base ++ aY (fun i'=>(listed.setIfInBounds i true).getD i' false && nb τ.live i') 0 l Fs,τ.own⟩ a' w':=by
   intro τ key x a' w' hx hbase hlive hR'
   obtain ⟨h1,h2,h,ρ,hw,hs⟩:=hR'
   have hown:(St.put n o'.dst x ⟨iq key (cC (nb σ.live) l Fs o'.after.toList ++ (σ.base ++ aY (fun i=>listed.getD i false && nb σ.live i) 0 l Fs)),τ.own⟩).own = τ.own:=by
    cases hd:o'.dst with
    | none=>rfl
    | some d=>simp only [St.put,St.set]; split <;> rfl
   rw [hown] at hw
   refine ⟨h1,h2,h,ρ,hw,fun k y hy=>?_⟩
   have hold:(∀ d,o'.dst = some d → k ≠ d) → (k,y) ∈ iq key (cC (nb σ.live) l Fs o'.after.toList ++ (σ.base ++ aY (fun i=>listed.getD i false && nb σ.live i) 0 l Fs)) → ∃ v,a'.tmps[k]? = some v ∧ y.rel h ρ v:=by
    intro hkd hm
    refine hs k y ?_
    cases hd:o'.dst with
    | none=>exact hm
    | some d=>
     simp only [St.put,St.set]
     split
     ·exact List.mem_cons_of_mem _ (cV hm (hkd d hd))
     ·exact hm
   rcases List.mem_append.1 hy with hy | hy
   ·obtain ⟨hy,hkd⟩:=hbase k y hy
    have hy2:(k,y) ∈ σ.base ∧ kZ key y = false:=uy hy
    exact hold hkd (oB (List.mem_append.2 (.inr (List.mem_append.2 (.inl hy2.1)))) hy2.2)
   ·rw [bR] at hy
    obtain ⟨j,oj,hj,hd',hF',hl'⟩:=hy
    rw [Nat.zero_add] at hl'
    simp only [Bool.and_eq_true] at hl'
    have hjl:=(List.getElem?_eq_some_iff.1 hj).1
    by_cases hji:j = i
    ·subst hji
     rw [hol] at hj; cases hj
     have hxy:x = y:=by
      have:=hx (by rw [hd']; rfl)
      rw [this] at hF'; exact Option.some.inj hF'
     subst hxy
     refine hs k x ?_
     have hk:k < n.n:=by simpa using hlt k (mQ hol hd')
     simp only [hd',St.put,St.set,hk,if_true]
     exact List.mem_cons_self
    ·rcases hlive j hjl hl'.2 with h | h | ⟨h3,h4⟩
     ·exact absurd h hji
     ·exfalso
      have:=hl'.1
      rw [getD_set_ne false (fun e=>hji e.symm),hnot j h] at this
      simp at this
     ·have hl2:listed.getD j false = true:=by
       have:=hl'.1
       rwa [getD_set_ne false (fun e=>hji e.symm)] at this
      refine hold (fun d hd e=>hji (vX hnd hj hol (e ▸ hd') hd)) (oB (List.mem_append.2 (.inr (List.mem_append.2 (.inr ?_)))) (h4 y hF'))
      rw [bR]
      exact ⟨j,oj,hj,hd',hF',by rw [Nat.zero_add,hl2,h3]; rfl⟩
  unfold wpOp
  rw [ho]
  dsimp only
  have fin:∀ (K:Act → World → Prop),(if Region.wanted o' (yielded l.toArray a.tmps) = true then o'.wp P a w K Q else K (a.put o'.dst undef) w) → (∀ a' w',K a' w' → wpAny P .any l.toArray Q fuel (listed.setIfInBounds i true) a' w') → (if Region.wanted o' (yielded l.toArray a.tmps) = true then (o'.wp P a w (wpAny P .any l.toArray Q fuel (listed.setIfInBounds i true)) Q ∨ False) else wpAny P .any l.toArray Q fuel (listed.setIfInBounds i true) (a.put o'.dst undef) w):=by
   intro K hK hk
   split
   ·rename_i hw'
    simp only [hw',if_true] at hK
    exact .inl (Oper.wp_mono hk hK)
   ·rename_i hw'
    simp only [hw'] at hK
    exact hk _ _ hK
  by_cases hw:nb isW i = true
  ·rw [if_pos hw] at hstep
   obtain ⟨τ,key,x,hτ,hx,hbase,hlive,hst⟩:=hstep
   obtain ⟨hτ1,hτ2⟩:=kC hτ
   have key1:=hst (aY (fun i=>listed.getD i false && nb σ.live i) 0 l Fs) a w hR2 (wpAny P .any l.toArray Q fuel (listed.setIfInBounds i true)) Q (fun a' w' hR'=>by
    refine ih _ τ a' w' hsz' (by rw [hτ1]; exact hτ) ?_ hcl' hcnt (hnext τ key x a' w' hx (fun k y hy=>by rw [hbase] at hy; exact Ka hy) ?_ hR')
    ·intro j hj
     rw [hτ1,nb_set]
     by_cases e:j = i
     ·subst e
      rw [if_pos ⟨rfl,by omega⟩]
      simp [Array.getD_eq_getD_getElem?,his]
     ·rw [if_neg (fun h=>e h.1),getD_set_ne false (fun h=>e h.symm)]
      exact hwl j hj
    ·intro j hjl hlj
     have:=List.all_eq_true.1 hlive j (List.mem_range.2 hjl)
     simp only [Bool.or_eq_true,Bool.not_eq_true',beq_iff_eq,Bool.and_eq_true] at this
     rcases this with ((h | h) | h) | ⟨h,h'⟩
     ·rw [hlj] at h; simp at h
     ·exact .inl h
     ·exact .inr (.inl (by simpa using h))
     ·refine .inr (.inr ⟨h,fun y hy=>?_⟩)
      rw [hy] at h'
      simpa using h')
   split
   ·rename_i hw'
    simp only [hw',if_true] at key1
    exact .inl key1
   ·rename_i hw'
    simp only [hw'] at key1
    exact key1
  ·rw [if_neg hw] at hstep
   obtain ⟨x,hx,hst⟩:=hstep
   have key1:=hst (aY (fun i=>listed.getD i false && nb σ.live i) 0 l Fs) a w hR2 (wpAny P .any l.toArray Q fuel (listed.setIfInBounds i true)) Q (fun a' w' hR'=>by
    refine ih _ σ a' w' hsz' hσ ?_ hcl' hcnt (hnext σ [] x a' w' hx (fun k y hy=>⟨hy,fun d hd e=>H' hc3 hil hol hd (.inl (by simpa using hw)) hy e⟩) (fun j _ hlj=>.inr (.inr ⟨hlj,fun _ _=>rfl⟩)) hR')
    intro j hj
    by_cases e:j = i
    ·subst e; exact absurd hj hw
    ·rw [getD_set_ne false (fun h=>e h.symm)]
     exact hwl j hj)
   split
   ·rename_i hw'
    simp only [hw',if_true] at key1
    exact .inl key1
   ·rename_i hw'
    simp only [hw'] at key1
    exact key1
theorem uN.W {ops:List Oper} (isW:List Bool) (Fs:List SV) (tab:List uf) {σ0 σf:uf} (hok:(iv 0 ops && gp (jK ops) && (jK ops).all (· < n.n) && (isW.length == ops.length)) = true)
  (htab:B8 P E n isW tab ops Fs tab) (h0:nL tab (List.replicate ops.length false) = some σ0) (hs0:s = ⟨σ0.base,σ0.own⟩) (hf:nL tab isW = some σf) (ks kos:List Nat)
  (hs:(⟨σf.base ++ aY (nb σf.live) 0 ops Fs,σf.own⟩:St).keep ks kos = s') (h:Fin E n .normal s' Q):uN P E n ops.toArray s Q:=by
 subst hs0
 intro a w hr
 refine anyW hok htab (Fs:=Fs) (fun σ hσ=>?_) _ _ σ0 _ _ (by simp) (by rw [(kC h0).1]; exact h0) ?_ ?_ (by simp) ?_
 ·rw [hf] at hσ; cases hσ
  exact fun a w hr=>h a w (hs ▸ hr.keep ks kos)
 ·intro i _
  rw [(kC h0).1]
  by_cases hi:i < ops.length <;> simp [nb,List.getD,Array.getD_eq_getD_getElem?,hi]
 ·intro i p hi hl
  exfalso
  simp only [Array.getD_eq_getD_getElem?,Array.getElem?_replicate] at hl
  split at hl <;> simp at hl
 ·have hr':=hr.drawn
  obtain ⟨h1,h2,hh,ρ,hw,hsl⟩:=hr'
  refine ⟨h1,h2,hh,ρ,hw,fun k x hx=>hsl k x ?_⟩
  rcases List.mem_append.1 hx with hx | hx
  ·exact hx
  ·rw [bR] at hx
   obtain ⟨j,o,hj,_,_,hl⟩:=hx
   simp only [Nat.zero_add,Array.getD_eq_getD_getElem?,Array.getElem?_replicate,Bool.and_eq_true] at hl
   have:=hl.1
   split at this <;> simp at this
theorem ah.vO {rid:Nat} {ops:List Oper} (hm:P.follows .mixedOrders = true) (isW:List Bool) (Fs:List SV) (tab:List uf) {σ0 σf:uf} (hok:(iv 0 ops && gp (jK ops) && (jK ops).all (· < n.n) && (isW.length == ops.length)) = true)
  (htab:B8 P E n isW tab ops Fs tab) (h0:nL tab (List.replicate ops.length false) = some σ0) (hs0:s = ⟨σ0.base,σ0.own⟩) (hf:nL tab isW = some σf) (ks kos:List Nat)
  (hs:(⟨σf.base ++ aY (nb σf.live) 0 ops Fs,σf.own⟩:St).keep ks kos = s') (h:Fin E n .normal s' Q):ah P E n (.region rid ops.toArray true) s Q:=ah.ofA hm (uN.W isW Fs tab hok htab h0 hs0 hf ks kos hs h)
theorem ah.yV {rid:Nat} {ops:List Oper} {y:Code} (hm:P.follows .mixedOrders = true) (isW:List Bool) (Fs:List SV) (tab:List uf) {σ0 σf:uf} (hok:(iv 0 ops && gp (jK ops) && (jK ops).all (· < n.n) && (isW.length == ops.length)) = true)
  (htab:B8 P E n isW tab ops Fs tab) (h0:nL tab (List.replicate ops.length false) = some σ0) (hs0:s = ⟨σ0.base,σ0.own⟩) (hf:nL tab isW = some σf) (ks kos:List Nat)
  (hs:(⟨σf.base ++ aY (nb σf.live) 0 ops Fs,σf.own⟩:St).keep ks kos = s') (h:ah P E n y s' Q):ah P E n (.region rid ops.toArray true) s (Exit.then (y.wp P Q) Q) :=
 ah.vO hm isW Fs tab hok htab h0 hs0 hf ks kos hs (Fin.then h)
end
end Go.Sk
namespace Go.Sk
open Go
end Go.Sk
namespace Go.Sk
set_option linter.unusedSimpArgs false
set_option linter.unusedVariables false
open Go Go.BigFrame
def toStr (l:List Int):Str:=l.map fun n=>UInt8.ofNat n.toNat
section
variable {P:Program} {TB:aF} {E:Env TB} {n:Sh} {s s2:St} {dst:Option Nat} {t ty yt:TypeId} {pos:String} {after:Array Edge} {g:Option (Nat × Bool)} {x y c:Operand} {k:IntKind} {a b:Int} {ops:Array Oper} {o:Oper}
theorem A0 {src d e:TypeId} {xs:List Int} (hsrc:P.underlying src = some (.slice e)) (he:P.underlying e = some (.int .u8)) (hd:P.underlying d = some .string) (hx:s.ev x = some (.b (.one (.sl 1 (xs.map (eK .u8)))))) :
  aR P E n ⟨dst,.convert src d x,ty,pos,after,g⟩ s (s.put n dst (.b (.one (.str (toStr xs))))) :=
 aR.val (o:=⟨dst,.convert src d x,ty,pos,after,g⟩) fun ac w h ρ hw hs=>by
  obtain ⟨hu,hz,hv⟩:=(aC hs hx:(CP.sl 1 (xs.map (eK .u8))).rel h _)
  rcases hv with ⟨hv,he0⟩ | ⟨bl,o,cp,hv,h1,h2,h3⟩ | ⟨ad,hv,he0⟩
  ·have hxs:xs = []:=by simpa using he0
   subst hxs
   refine ⟨.string ⟨⟨[]⟩⟩,?_,rfl,Nat.zero_le _⟩
   simp only [execOp,hv]
   have:=run_convert_bytes_nil (P:=P) w src e hsrc he 0 0 d hd
   simp only [Sem.run_bind,this]
   rfl
  ·have hlen:(xs.map (eK .u8)).length = xs.length:=by simp
   have hfl:(xs.map (eK .u8)).flatten = xs.map (CP.int .u8):=by
    clear hx hu hv h1 h2 h3 hlen
    induction xs with
    | nil=>rfl
    | cons a l ih=>simp only [List.map_cons,List.flatten_cons,ih,eK]; rfl
   refine ⟨.string ⟨⟨toStr xs⟩⟩,?_,rfl,by simp only [toStr,List.length_map] at h1 ⊢; omega⟩
   have hc:∀ i,i < xs.length → w.cell? ⟨bl,o + i,none⟩ = some (.int .u8 (xs.getD i 0)):=fun i hi=>by
    obtain ⟨u,hu1,hu2⟩:=h3 i (CP.int .u8 xs[i]) (by rw [hfl]; simp [hi])
    rw [hw.agree.cell hu1 (CP.one _ hu2),hu2.1]
    simp [List.getD,List.getElem?_eq_getElem hi]
   have:=run_convert_bytes_arg (P:=P) w src e hsrc he bl o xs.length cp xs rfl hc d hd
   simp only [execOp,hv,hlen]
   simp only [Sem.run_bind,this]
   rfl
  ·have hxs:xs = []:=by simpa using he0
   subst hxs
   refine ⟨.string ⟨⟨[]⟩⟩,?_,rfl,Nat.zero_le _⟩
   simp only [execOp,hv]
   have:(convert src d (.slice (some ad) 0 0)).run P w = .ok (.string ByteArray.empty) w:=by
    rw [run_convert_bytes_string w src d e _ 0 0 hsrc he hd]
    simp [Conv.bytesToString,loadCells]
    rfl
   simp only [Sem.run_bind,this]
   rfl
theorem b6.forget (kb off:Nat) {T:TypeId} {cs:List BV} (hk:lk s.own kb = some (.ba T cs)) (h:b6 P E n ops o ⟨s.slots,ins kb (.ba T (cs.set off (.one .any))) s.own⟩ s2):b6 P E n ops o s s2 :=
 fun a w hr=>h a w (hr.forget kb off hk)
end
end Go.Sk
namespace Go.Sk
set_option linter.unusedSimpArgs false
set_option linter.unusedVariables false
open Go
end Go.Sk
namespace Go.Sk
set_option linter.unusedSimpArgs false
set_option linter.unusedVariables false
open Go Go.BigFrame
def eA (k:IntKind) (l:List Int):List CP:=l.map (.int k)
@[simp] theorem eA_len (k:IntKind) (l:List Int):(eA k l).length = l.length:=by simp [eA]
theorem CI {cs post:List CP} {l:List Int} {k:IntKind} {i z:Int} {m o:Nat} (pre:List CP) (h:aH l i = some z) (hm:pre.length = m) (hcs:cs = pre ++ (l.map (.int k) ++ post)) (ho:m + i.toNat * 1 = o):cs[o]? = some (.int k z):=by
 subst ho hm hcs
 have h0:=fa h
 have h1:=mO h
 rw [List.getElem?_append_right (by omega),List.getElem?_append_left (by rw [List.length_map]; omega)]
 have e:pre.length + i.toNat * 1 - pre.length = i.toNat:=by omega
 rw [e,List.getElem?_map,oL h]
 rfl
theorem JG {cs post:List CP} {l:List Int} {k:IntKind} {i z:Int} {m o:Nat} (pre:List CP) (h:aH l i = some z) (hm:pre.length = m) (hcs:cs = pre ++ (l.map (.int k) ++ post)) (ho:m + i.toNat * 1 = o):o < cs.length:=by
 subst ho hm hcs
 have h0:=fa h
 have h1:=mO h
 rw [List.length_append,List.length_append,List.length_map]
 omega
theorem Hq {cs cs' post:List CP} {l l':List Int} {k:IntKind} {i z x:Int} {m o:Nat} (pre:List CP) (h:aH l i = some z) (hm:pre.length = m) (hcs:cs = pre ++ (l.map (.int k) ++ post)) (hl:l' = l.set i.toNat x)
  (hcs':cs' = pre ++ (l'.map (.int k) ++ post)) (ho:m + i.toNat * 1 = o):cs.set o (.int k x) = cs':=by
 subst ho hm hcs hcs' hl
 have h0:=fa h
 have h1:=mO h
 rw [List.set_append_right _ _ (by omega),List.set_append_left _ _ (by rw [List.length_map]; omega)]
 have e:pre.length + i.toNat * 1 - pre.length = i.toNat:=by omega
 rw [e,List.map_set]
section
variable {P:Program} {t:TypeId}
def cq (P:Program) (d:Nat) (t:TypeId) (m:Nat) (ps qs:List CP) (r:Bool):Prop :=
 ∀ (h:PH) (w:World) (A B:Array Value) (off:Nat),aA h ps ((A.toList.drop off).take m) → aA h qs ((B.toList.drop off).take m) → ps.length = m → qs.length = m →
  ∃ a b,(part t A off).run P w = .ok a w ∧ (part t B off).run P w = .ok b w ∧ (Op.equalIn d t a b).run P w = .ok r w
theorem jv (ht:cS P t) {A:Array Value} {off:Nat} {v:Value} (hv:A[off]? = some v) (w:World):(part t A off).run P w = .ok v w:=by
 obtain ⟨d,hd,ha⟩:=ht.und
 unfold part
 rw [Sem.run_bind,mr hd,Result.andThen,ha]
 simp [hv]
theorem jw {m:Nat} (ht:gg P t m) {A:Array Value} {off:Nat} (w:World):(part t A off).run P w = .ok (.agg (A.extract off (off + m))) w:=by
 obtain ⟨d,hd,ha⟩:=ht.und
 obtain ⟨i,hi,hn⟩:=ht.size
 unfold part
 rw [Sem.run_bind,mr hd,Result.andThen,ha]
 simp [run_sizeOf hi,hn]
theorem ye {h:PH} {p:CP} {A:Array Value} {off:Nat} (hr:aA h [p] ((A.toList.drop off).take 1)):∃ u,A[off]? = some u ∧ p.rel h u:=by
 obtain ⟨u,hu,hp⟩:=hr.get 0 p rfl
 rw [List.getElem?_take] at hu
 simp at hu
 exact ⟨u,hu,hp⟩
theorem cq.one {d:Nat} {p q:CP} {r:Bool} (ht:cS P t) (hrun:∀ (h:PH) (u v:Value) (w:World),p.rel h u → q.rel h v → (Op.equalIn d t u v).run P w = .ok r w):cq P d t 1 [p] [q] r:=by
 intro h w A B off ha hb _ _
 obtain ⟨u,hu,hp⟩:=ye ha
 obtain ⟨v,hv,hq⟩:=ye hb
 exact ⟨u,v,jv ht hu w,jv ht hv w,hrun h u v w hp hq⟩
theorem cq.int {d:Nat} {k k':IntKind} {a b:Int} (h1:cS P t) (hu:P.underlying t = some (.int k')):cq P (d + 1) t 1 [.int k a] [.int k b] (decide (a = b)) :=
 .one h1 fun h u v w hp hq=>by rw [hp.1,hq.1,run_equalIn_int w d t k k' a b hu,vC]
theorem cq.str {d:Nat} {a b:Str} (h1:cS P t) (hu:P.underlying t = some .string):cq P (d + 1) t 1 [.str a] [.str b] (decide (a = b)) :=
 .one h1 fun h u v w hp hq=>by rw [hp.1,hq.1,run_equalIn_string w d t _ _ hu,yT]
theorem cq.bool {d:Nat} {a b:Bool} (h1:cS P t) (hu:P.underlying t = some .bool):cq P (d + 1) t 1 [.bool a] [.bool b] (a == b) :=
 .one h1 fun h u v w hp hq=>by rw [show u = .bool a from hp,show v = .bool b from hq,run_equalIn_bool' w d t a b hu]
def EqFs (P:Program) (d:Nat) (ps qs:List CP):List Field → List Bool → Prop
 | [],[]=>True
 | f :: fs,r :: rs=>f.name ≠ "_" ∧ (∃ m p' q',(ps.drop f.offset).take m = p' ∧ (qs.drop f.offset).take m = q' ∧ p'.length = m ∧ q'.length = m ∧ cq P d f.type m p' q' r) ∧ EqFs P d ps qs fs rs
 | _,_=>False
theorem D8 {d:Nat} {h:PH} {ps qs:List CP} {A B:Array Value} (hp:aA h ps A.toList) (hq:aA h qs B.toList) (w:World):∀ {fs:List Field} {rs:List Bool},EqFs P d ps qs fs rs → (Op.eqFields d A B fs).run P w = .ok (rs.all id) w
 | [],[],_=>rfl
 | [],_ :: _,h=>h.elim
 | _ :: _,[],h=>h.elim
 | f :: fs,r :: rs,⟨h1,⟨m,p',q',e1,e2,l1,l2,he⟩,h3⟩=>by
  have ih:=D8 hp hq w h3
  obtain ⟨a,b,r1,r2,r3⟩:=he h w A B f.offset (by rw [← e1]; exact aQ.take (aQ.drop hp _) _) (by rw [← e2]; exact aQ.take (aQ.drop hq _) _) l1 l2
  unfold Op.eqFields
  rw [if_pos h1]
  rw [Sem.run_bind,r1,Result.andThen,Sem.run_bind,r2,Result.andThen,Sem.run_bind,r3,Result.andThen]
  cases r
  ·simp
  ·simpa using ih
theorem jC {A:Array Value} {off m:Nat}:(A.extract off (off + m)).toList = (A.toList.drop off).take m:=by
 rw [Array.toList_extract]
 show (A.toList.drop off).take (off + m - off) = _
 rw [Nat.add_sub_cancel_left]
theorem cq.struct {d m:Nat} {ps qs:List CP} {fs:Array Field} {rs:List Bool} {r:Bool} (ta:gg P t m) (hh:P.stoodInHeld t = false) (hu:P.underlying t = some (.struct fs)) (hc:EqFs P d ps qs fs.toList rs) (hr:rs.all id = r):cq P (d + 1) t m ps qs r:=by
 intro h w A B off ha hb l1 l2
 have hf:P.fieldsOf t = fs:=by simp [Program.fieldsOf,hu]
 refine ⟨_,_,jw ta w,jw ta w,?_⟩
 rw [run_equalIn_struct w d t _ _ (by rw [hf]; exact hu) hh,hf,D8 (by rw [jC]; exact ha) (by rw [jC]; exact hb) w hc,hr]
theorem ym {d k':Nat} {e:TypeId} {k ke:IntKind} {h:PH} {l l':List Int} {A B:Array Value} (h1:cS P e) (hu:P.underlying e = some (.int ke)) (ha:aA h (l.map (.int k)) A.toList) (hb:aA h (l'.map (.int k)) B.toList) (hl:l.length = l'.length) (w:World) :
  ∀ (is:List Nat),(∀ i ∈ is,i < l.length) → (Op.eqItems (d + 1) e 1 A B is).run P w = .ok (is.all fun i=>decide (l[i]? = l'[i]?)) w
 | [],_=>rfl
 | i :: is,hi=>by
  have ih:=ym (d:=d) (k':=k') h1 hu ha hb hl w is (fun j hj=>hi j (by simp [hj]))
  have hi0:=hi i (by simp)
  obtain ⟨u,hu1,hu2⟩:=ha.get i (.int k l[i]) (by rw [List.getElem?_map,List.getElem?_eq_getElem hi0]; rfl)
  obtain ⟨v,hv1,hv2⟩:=hb.get i (.int k (l'[i]'(by omega))) (by rw [List.getElem?_map,List.getElem?_eq_getElem (by omega)]; rfl)
  have p1:=jv h1 (A:=A) (off:=i * 1) (v:=u) (by rw [Nat.mul_one]; simpa using hu1) w
  have p2:=jv h1 (A:=B) (off:=i * 1) (v:=v) (by rw [Nat.mul_one]; simpa using hv1) w
  have p3:(Op.equalIn (d + 1) e u v).run P w = .ok (decide (l[i] = l'[i]'(by omega))) w:=by rw [hu2.1,hv2.1,run_equalIn_int w d e k ke _ _ hu,vC]
  unfold Op.eqItems
  rw [Sem.run_bind,p1,Result.andThen,Sem.run_bind,p2,Result.andThen,Sem.run_bind,p3,Result.andThen]
  have e0:decide (l[i]? = l'[i]?) = decide (l[i] = l'[i]'(by omega)):=by
   rw [List.getElem?_eq_getElem hi0,List.getElem?_eq_getElem (show i < l'.length by omega),Bool.eq_iff_iff]; simp
  rw [List.all_cons,e0]
  cases decide (l[i] = l'[i]'(by omega))
  ·simp
  ·simpa using ih
theorem cq.arr {d m:Nat} {e:TypeId} {k ke:IntKind} {l l':List Int} (ta:gg P t m) (hu:P.underlying t = some (.array m e)) (he:cS P e) (hue:P.underlying e = some (.int ke)):cq P (d + 2) t m (l.map (.int k)) (l'.map (.int k)) (decide (l = l')):=by
 intro h w A B off ha hb l1 l2
 rw [List.length_map] at l1 l2
 obtain ⟨i,hi,hs⟩:=he.size
 refine ⟨_,_,jw ta w,jw ta w,?_⟩
 have hc:P.cellsOf e = 1:=by simp [Program.cellsOf,hi,hs]
 rw [run_equalIn_array w (d + 1) _ _ hu hi,hc,ym (k':=0) he hue (by rw [jC]; exact ha) (by rw [jC]; exact hb) (by omega) w _ (fun j hj=>by rw [l1]; simpa using hj)]
 congr 1
 rw [Bool.eq_iff_iff]
 simp only [List.all_eq_true,List.mem_range,decide_eq_true_eq]
 refine ⟨fun hh=>List.ext_getElem? fun j=>?_,fun e j _=>by rw [e]⟩
 by_cases hj:j < m
 ·exact hh j hj
 ·rw [List.getElem?_eq_none (by omega),List.getElem?_eq_none (by omega)]
theorem iF.uS {m:Nat} {ps qs:List CP} {r:Bool} (hg:P.eqGuardType P.depth t = false) (ta:gg P t m) (hp:cq P 10000 t m ps qs r) (l1:ps.length = m) (l2:qs.length = m):iF P t ps qs r :=
 ⟨hg,fun h cs ds w ha hb=>by
  have e1:cs.toList.length = m:=by rw [← l1]; exact ha.length.symm
  have e2:ds.toList.length = m:=by rw [← l2]; exact hb.length.symm
  obtain ⟨a,b,p1,p2,p3⟩:=hp h w cs ds 0 (by rw [List.drop_zero,List.take_of_length_le (by omega)]; exact ha) (by rw [List.drop_zero,List.take_of_length_le (by omega)]; exact hb) l1 l2
  rw [jw ta w] at p1 p2
  have x1:cs.extract 0 (0 + m) = cs:=by
   apply Array.ext'
   rw [jC,List.drop_zero,List.take_of_length_le (by omega)]
  have x2:ds.extract 0 (0 + m) = ds:=by
   apply Array.ext'
   rw [jC,List.drop_zero,List.take_of_length_le (by omega)]
  rw [x1] at p1
  rw [x2] at p2
  injection p1 with p1
  injection p2 with p2
  subst p1 p2
  exact p3⟩
theorem cq.cast {d m:Nat} {ps qs:List CP} {r r':Bool} (h:cq P d t m ps qs r) (e:r = r'):cq P d t m ps qs r':=e ▸ h
end
structure wb (P:Program) (t:TypeId) (size:Nat) (zs:List CP):Prop where
 info:∃ it z m e ie,P.info? t = some it ∧ it.zero = some z ∧ F9 z.cells.toList = some zs ∧ P.underlying t = some (.array m e) ∧ P.info? e = some ie ∧ ie.size = size
section
variable {P:Program} {TB:aF} {E:Env TB} {n:Sh} {s s':St} {dst:Option Nat} {t ty yt:TypeId} {pos:String} {after:Array Edge} {g:Option (Nat × Bool)} {x y c:Operand} {ops:Array Oper} {l:List Oper} {Q:bF} {cd:Code} {o:Oper}
theorem BF {size:Nat} {zs qs:List CP} {parts:Array (Nat × Operand)} {cps:List (Nat × List CP)} (ht:wb P t size zs) (hp:eE s parts.toList = some cps) (hf:ir (fun i=>some (i * size,size)) zs cps = some qs) :
  aR P E n ⟨dst,.build t parts,ty,pos,after,g⟩ s (s.put n dst (.b (.agg qs))) :=
 aR.val (o:=⟨dst,.build t parts,ty,pos,after,g⟩) fun ac w h ρ hw hs=>by
  obtain ⟨it,z,m,e,ie,h1,h2,h3,h4,h5,h6⟩:=ht.info
  obtain ⟨cs,hc1,hc2⟩:=oP hs (fun i=>some (i * size,size)) parts.toList cps zs qs z.cells hp hf (oo h h3)
  refine ⟨.agg cs,?_,cs,rfl,hc2⟩
  have hb:P.built t (parts.map fun (i,x)=>(i,ac.eval x)).toList = some cs:=by
   simp only [Program.built,h1,h4,h2,h5,h6]
   rw [← hc1]
   simp
  have:=run_build (P:=P) w t _ cs hb
  simp only [execOp]
  simp [this]
theorem Es {e:TypeId} {m k off:Nat} {kk:IntKind} {i:Int} {yo:Operand} (ht:k7 P t e m 1) (h0:0 ≤ i) (h1:i < m) (hx:s.ev x = some (.b (.ptr k off))) (hy:s.ev yo = some (.b (.one (.int kk i)))) :
  aR P E n ⟨dst,.slice t x (some yo) none none,ty,pos,after,g⟩ s (s.put n dst (.b (.C' k (off + i.toNat) (m - i.toNat) (m - i.toNat)))) :=
 aR.val (o:=⟨dst,.slice t x (some yo) none none,ty,pos,after,g⟩) fun ac w h ρ hw hs=>by
  obtain ⟨b,hb,hv⟩:=(aC hs hx:BV.rel h ρ (.ptr k off) _)
  obtain ⟨inf,hi,hsz⟩:=ht.info
  have e1:P.arrayLen t = m:=by simp [Program.arrayLen,ht.und]
  have e2:P.elem t = e:=by simp [Program.elem,ht.und]
  have hu:P.underlying t = some (.array (P.arrayLen t) (P.elem t)):=by rw [e1,e2]; exact ht.und
  refine ⟨.slice (some ⟨b,off + i.toNat,none⟩) (m - i.toNat) (m - i.toNat),?_,b,hb,rfl⟩
  simp only [execOp,hv,Option.map_none,Option.map_some,(bG hs hy).1]
  rw [Sem.run_bind,run_sliceAt_array_l w t _ hu kk i h0 (by rw [e1]; omega),e2,run_sizeOf hi,Result.andThen,hsz]
  have hne:¬ m = i.toNat:=by omega
  simp [slicedAt,e1,iJ,hne]
theorem Et {e:TypeId} {m k off:Nat} {kk:IntKind} {i:Int} {yo:Operand} (ht:k7 P t e m 1) (h0:0 ≤ i) (h1:i ≤ m) (hx:s.ev x = some (.b (.ptr k off))) (hy:s.ev yo = some (.b (.one (.int kk i)))) :
  aR P E n ⟨dst,.slice t x none (some yo) none,ty,pos,after,g⟩ s (s.put n dst (.b (.C' k off i.toNat m))) :=
 aR.val (o:=⟨dst,.slice t x none (some yo) none,ty,pos,after,g⟩) fun ac w h ρ hw hs=>by
  obtain ⟨b,hb,hv⟩:=(aC hs hx:BV.rel h ρ (.ptr k off) _)
  obtain ⟨inf,hi,hsz⟩:=ht.info
  have e1:P.arrayLen t = m:=by simp [Program.arrayLen,ht.und]
  have e2:P.elem t = e:=by simp [Program.elem,ht.und]
  have hu:P.underlying t = some (.array (P.arrayLen t) (P.elem t)):=by rw [e1,e2]; exact ht.und
  refine ⟨.slice (some ⟨b,off,none⟩) i.toNat m,?_,b,hb,rfl⟩
  simp only [execOp,hv,Option.map_none,Option.map_some,(bG hs hy).1]
  rw [Sem.run_bind,run_sliceAt_array_h w t _ hu kk i h0 (by rw [e1]; omega),e2,run_sizeOf hi,Result.andThen,hsz]
  simp [slicedAt,e1,iJ]
theorem DQ {e:TypeId} {m size k off len cap:Nat} (ht:k7 P t e m size) (h1:m ≤ len) (hx:s.ev x = some (.b (.C' k off len cap))) :
  aR P E n ⟨dst,.sliceToArrayPointer t x,ty,pos,after,g⟩ s (s.put n dst (.b (.ptr k off))) :=
 aR.val (o:=⟨dst,.sliceToArrayPointer t x,ty,pos,after,g⟩) fun ac w h ρ hw hs=>by
  obtain ⟨b,hb,hv⟩:=(aC hs hx:BV.rel h ρ (.C' k off len cap) _)
  refine ⟨.pointer (some ⟨b,off,none⟩),?_,b,hb,rfl⟩
  simp only [execOp,hv]
  have hne:¬ len < m:=by omega
  simp [Instr.arrayAt,run_underlying ht.und,hne]
theorem aj.consA {α β:Type} (en:β → List CP) {a:β} {K:β → Option α} {r:α} (h:bN a K = some r) (hg:o.guard = none) (h1:aR P E n o s (s.put n o.dst (.b (.agg (en a)))))
  (H:∀ z,K z = some r → aj P E n ops l (s.put n o.dst (.b (.agg (en z)))) Q):aj P E n ops (o :: l) s Q:=aj.cons hg h1 (H a h)
end
def iand (k:IntKind) (a b:Int):Int:=k.wrap ((BitVec.ofInt k.bits a &&& BitVec.ofInt k.bits b).toNat:Int)
def ior (k:IntKind) (a b:Int):Int:=k.wrap ((BitVec.ofInt k.bits a ||| BitVec.ofInt k.bits b).toNat:Int)
def ixor (k:IntKind) (a b:Int):Int:=k.wrap ((BitVec.ofInt k.bits a ^^^ BitVec.ofInt k.bits b).toNat:Int)
def Gm (k:IntKind) (a b:Int):Int:=k.wrap ((BitVec.ofInt k.bits a &&& ~~~BitVec.ofInt k.bits b).toNat:Int)
def Di (k:IntKind) (a n:Int):Option Int:=if n < 0 then none else some (k.wrap (a * 2 ^ (min n.toNat k.bits)))
def zb (k:IntKind) (a n:Int):Option Int:=if n < 0 then none else some (a / 2 ^ (min n.toNat k.bits))
def Dh {α:Type} (xs:List α) (i j:Int):Option (List α):=if 0 ≤ i ∧ i ≤ j ∧ j ≤ xs.length then some ((xs.take j.toNat).drop i.toNat) else none
def ofStr (l:Str):List Int:=l.map fun c=>(c.toNat:Int)
theorem shl_ok {k:IntKind} {a n z:Int} (h:Di k a n = some z):¬ n < 0 ∧ k.wrap (a * 2 ^ (min n.toNat k.bits)) = z:=by
 unfold Di at h; split at h
 ·simp at h
 ·exact ⟨by assumption,by simpa using h⟩
theorem shr_ok {k:IntKind} {a n z:Int} (h:zb k a n = some z):¬ n < 0 ∧ a / 2 ^ (min n.toNat k.bits) = z:=by
 unfold zb at h; split at h
 ·simp at h
 ·exact ⟨by assumption,by simpa using h⟩
theorem qU {α:Type} {xs z:List α} {i j:Int} (h:Dh xs i j = some z):0 ≤ i ∧ i ≤ j ∧ j ≤ xs.length ∧ (xs.take j.toNat).drop i.toNat = z:=by
 unfold Dh at h; split at h
 ·next hh=>exact ⟨hh.1,hh.2.1,hh.2.2,by simpa using h⟩
 ·simp at h
theorem shr_inR {k:IntKind} {a:Int} (m:Nat) (hra:kX k a):kX k (a / 2 ^ m):=by
 have hpos:(0:Int) < 2 ^ m:=Int.pow_pos (by decide)
 unfold kX at hra ⊢
 have h5:k.min ≤ 0:=by cases k <;> simp [IntKind.min,IntKind.signed,IntKind.bits]
 have h6:0 ≤ k.max:=by cases k <;> simp [IntKind.max,IntKind.signed,IntKind.bits]
 by_cases h0:0 ≤ a
 ·have h1:0 ≤ a / 2 ^ m:=Int.ediv_nonneg h0 (Int.le_of_lt hpos)
  have h2:a / 2 ^ m ≤ a:=Int.ediv_le_self _ h0
  omega
 ·have h1:a / 2 ^ m ≤ 0:=by
   have:=Int.ediv_neg_of_neg_of_pos (by omega:a < 0) hpos; omega
  have h2:a ≤ a / 2 ^ m:=by
   refine (Int.le_ediv_iff_mul_le hpos).2 ?_
   have h3:(1:Int) ≤ 2 ^ m:=hpos
   have h4:(-a) * 1 ≤ (-a) * 2 ^ m:=Int.mul_le_mul_of_nonneg_left h3 (by omega)
   have e:(-a) * 2 ^ m = -(a * 2 ^ m):=Int.neg_mul _ _
   omega
  omega
section
variable {P:Program} {TB:aF} {E:Env TB} {n:Sh} {s s':St} {dst:Option Nat} {t ty yt:TypeId} {pos:String} {after:Array Edge} {g:Option (Nat × Bool)} {x y c:Operand} {k:IntKind} {a b:Int} {ops:Array Oper} {l:List Oper} {Q:bF} {cd:Code} {o:Oper}
theorem yY {op:BinOp} {f:Int → Int → Int} (hf:∀ a b,kX k (f a b)) (hop:(do eqGuard op t x y (.int k a) (.int k b); binOp op t (.int k a) (.int k b):Sem Value) = (pure (.int k (f a b)):Sem Value)) (hx:s.ev x = some (.b (.one (.int k a)))) (hy:s.ev y = some (.b (.one (.int k b)))) :
  aR P E n ⟨dst,.binOp op t x y yt,ty,pos,after,g⟩ s (s.put n dst (.b (.one (.int k (f a b))))) :=
 aR.val (o:=⟨dst,.binOp op t x y yt,ty,pos,after,g⟩) fun ac w h ρ hw hs=>by
  refine ⟨.int k (f a b),?_,rfl,hf _ _⟩
  simp only [execOp,(bG hs hx).1,(bG hs hy).1]
  rw [Sem.run_bind,hop]; rfl
theorem op_and (hx:s.ev x = some (.b (.one (.int k a)))) (hy:s.ev y = some (.b (.one (.int k b)))):aR P E n ⟨dst,.binOp .and t x y yt,ty,pos,after,g⟩ s (s.put n dst (.b (.one (.int k (iand k a b))))) :=
 yY (f:=iand k) (fun _ _=>lj _ _) (by simp [eqGuard,binOp,Op.intBits,iand]) hx hy
theorem op_or (hx:s.ev x = some (.b (.one (.int k a)))) (hy:s.ev y = some (.b (.one (.int k b)))):aR P E n ⟨dst,.binOp .or t x y yt,ty,pos,after,g⟩ s (s.put n dst (.b (.one (.int k (ior k a b))))) :=
 yY (f:=ior k) (fun _ _=>lj _ _) (by simp [eqGuard,binOp,Op.intBits,ior]) hx hy
theorem op_xor (hx:s.ev x = some (.b (.one (.int k a)))) (hy:s.ev y = some (.b (.one (.int k b)))):aR P E n ⟨dst,.binOp .xor t x y yt,ty,pos,after,g⟩ s (s.put n dst (.b (.one (.int k (ixor k a b))))) :=
 yY (f:=ixor k) (fun _ _=>lj _ _) (by simp [eqGuard,binOp,Op.intBits,ixor]) hx hy
theorem op_andn (hx:s.ev x = some (.b (.one (.int k a)))) (hy:s.ev y = some (.b (.one (.int k b)))):aR P E n ⟨dst,.binOp .andNot t x y yt,ty,pos,after,g⟩ s (s.put n dst (.b (.one (.int k (Gm k a b))))) :=
 yY (f:=Gm k) (fun _ _=>lj _ _) (by simp [eqGuard,binOp,Op.intBits,Gm]) hx hy
theorem op_shl {k2:IntKind} {m z:Int} (h:Di k a m = some z) (hx:s.ev x = some (.b (.one (.int k a)))) (hy:s.ev y = some (.b (.one (.int k2 m)))) :
  aR P E n ⟨dst,.binOp .shl t x y yt,ty,pos,after,g⟩ s (s.put n dst (.b (.one (.int k z)))) :=
 aR.val (o:=⟨dst,.binOp .shl t x y yt,ty,pos,after,g⟩) fun ac w h' ρ hw hs=>by
  obtain ⟨h1,rfl⟩:=shl_ok h
  refine ⟨_,?_,rfl,lj _ _⟩
  simp only [execOp,(bG hs hx).1,(bG hs hy).1]
  simp [eqGuard,binOp,Op.shift,h1]
theorem op_shr3 {k2:IntKind} {m z:Int} (h:zb k a m = some z) (hx:s.ev x = some (.b (.one (.int k a)))) (hy:s.ev y = some (.b (.one (.int k2 m)))) :
  aR P E n ⟨dst,.binOp .shr t x y yt,ty,pos,after,g⟩ s (s.put n dst (.b (.one (.int k z)))) :=
 aR.val (o:=⟨dst,.binOp .shr t x y yt,ty,pos,after,g⟩) fun ac w h' ρ hw hs=>by
  obtain ⟨h1,rfl⟩:=shr_ok h
  refine ⟨_,?_,rfl,shr_inR _ (bG hs hx).2⟩
  have hd:∀ q:Nat,a.fdiv (2 ^ q) = a / 2 ^ q:=fun q=>Int.fdiv_eq_ediv_of_nonneg _ (Int.pow_nonneg (by decide))
  simp only [execOp,(bG hs hx).1,(bG hs hy).1]
  simp [eqGuard,binOp,Op.shift,h1,hd]
theorem ou {z:Str} {k1 k2:IntKind} {i j:Int} {lo hi:Operand} {r:Str} (ht:P.underlying t = some .string) (h:Dh z i j = some r) (hx:s.ev x = some (.b (.one (.str z)))) (hl:s.ev lo = some (.b (.one (.int k1 i)))) (hh:s.ev hi = some (.b (.one (.int k2 j)))) :
  aR P E n ⟨dst,.slice t x (some lo) (some hi) none,ty,pos,after,g⟩ s (s.put n dst (.b (.one (.str r)))) :=
 aR.val (o:=⟨dst,.slice t x (some lo) (some hi) none,ty,pos,after,g⟩) fun ac w h' ρ hw hs=>by
  obtain ⟨h0,h1,h2,rfl⟩:=qU h
  obtain ⟨hv,hln⟩:=la hs hx
  refine ⟨.string ⟨⟨(z.take j.toNat).drop i.toNat⟩⟩,?_,rfl,by simp; omega⟩
  simp only [execOp,hv,Option.map_some,Option.map_none,(bG hs hl).1,(bG hs hh).1]
  rw [Sem.run_bind,run_sliceAt_string w t _ _ _ _ ht,run_slice_string (P:=P) (w:=w) t ⟨⟨z⟩⟩ k1 k2 i j ht h0 h1 (by simpa [tt] using h2)]
  show Result.ok _ w = Result.ok _ w
  congr 4
  have e:i.toNat + (j.toNat - i.toNat) = j.toNat:=by omega
  simp [ByteArray.extract,ByteArray.copySlice,List.take_drop,e]
theorem oX {z:Str} {k1:IntKind} {i:Int} {lo:Operand} {r:Str} (ht:P.underlying t = some .string) (h:rR z i = some r) (hx:s.ev x = some (.b (.one (.str z)))) (hl:s.ev lo = some (.b (.one (.int k1 i)))) :
  aR P E n ⟨dst,.slice t x (some lo) none none,ty,pos,after,g⟩ s (s.put n dst (.b (.one (.str r)))) :=
 aR.val (o:=⟨dst,.slice t x (some lo) none none,ty,pos,after,g⟩) fun ac w h' ρ hw hs=>by
  obtain ⟨h0,h1,rfl⟩:=Hi h
  obtain ⟨hv,hln⟩:=la hs hx
  refine ⟨.string ⟨⟨z.drop i.toNat⟩⟩,?_,rfl,by simp; omega⟩
  simp only [execOp,hv,Option.map_some,Option.map_none,(bG hs hl).1]
  rw [Sem.run_bind,run_sliceAt_string w t _ _ _ _ ht,run_slice_string_l (P:=P) (w:=w) (t:=t) (s:=⟨⟨z⟩⟩) ht k1 i h0 (by simpa [tt] using h1)]
  show Result.ok _ w = Result.ok _ w
  congr 4
  simp [ByteArray.extract,ByteArray.copySlice,ByteArray.size,List.take_of_length_le]
theorem AD {z:Str} {k1:IntKind} {i:Int} {hi:Operand} {r:Str} (ht:P.underlying t = some .string) (h:sA z i = some r) (hx:s.ev x = some (.b (.one (.str z)))) (hl:s.ev hi = some (.b (.one (.int k1 i)))) :
  aR P E n ⟨dst,.slice t x none (some hi) none,ty,pos,after,g⟩ s (s.put n dst (.b (.one (.str r)))) :=
 aR.val (o:=⟨dst,.slice t x none (some hi) none,ty,pos,after,g⟩) fun ac w h' ρ hw hs=>by
  obtain ⟨h0,h1,rfl⟩:=GK h
  obtain ⟨hv,hln⟩:=la hs hx
  refine ⟨.string ⟨⟨z.take i.toNat⟩⟩,?_,rfl,by simp; omega⟩
  simp only [execOp,hv,Option.map_some,Option.map_none,(bG hs hl).1]
  rw [Sem.run_bind,run_sliceAt_string w t _ _ _ _ ht,run_slice_string_h (P:=P) (w:=w) (t:=t) (s:=⟨⟨z⟩⟩) ht k1 i h0 (by simpa [tt] using h1)]
  show Result.ok _ w = Result.ok _ w
  congr 4
  simp [ByteArray.extract,ByteArray.copySlice]
theorem WR.newP {h:PH} {ρ:RM} {own:List (Nat × OC)} {w w':World} (hw:WR E n own h ρ w) (cs:List Value) (hold:∀ b,b < w.heap.size → w'.heap[b]? = w.heap[b]?) (hsz:w.heap.size ≤ w'.heap.size) (hos:w'.os = w.os) (hout:w'.output = w.output)
  (hnew:∀ o v,cs[o]? = some v → w'.cell? ⟨w.heap.size,o,none⟩ = some v) (hone:∀ v ∈ cs,v.oneCell' = true):h.le (c9 h w.heap.size cs) ∧ WR E n own (c9 h w.heap.size cs) ρ w':=by
 have hnone:∀ o,h w.heap.size o = none:=fun o=>by
  cases e:h w.heap.size o with
  | none=>rfl
  | some u=>have:=gM (hw.agree _ o u e); omega
 have hle:h.le (c9 h w.heap.size cs):=fun b o v hv=>by
  unfold c9
  split
  ·rename_i e; subst e; rw [hnone o] at hv; simp at hv
  ·exact hv
 refine ⟨hle,?_,PH.le_trans hw.le hle,?_,by have:=hw.size; omega,?_,hw.fixed,hos.trans hw.os,hout.trans hw.out,hw.nl,?_⟩
 ·intro b o v hv
  unfold c9 at hv
  split at hv
  ·rename_i e; subst e
   exact gR (hnew o v hv) (hone v (List.mem_of_getElem? hv))
  ·have hc:=hw.agree b o v hv
   rw [mD (hold b (gM hc))]; exact hc
 ·intro b hb hnl
  rw [← hw.fresh b hb hnl]
  funext o
  unfold c9
  rw [if_neg (by have:=hw.size; omega)]
 ·intro b hb hl
  rw [hold b (Nat.lt_of_lt_of_le hb hw.size)]; exact hw.same b hb hl
 ·intro j c hj
  obtain ⟨e1,e2,e3⟩:=hw.owned j c hj
  have hft:∀ i x,(i,x) ∈ own → ∀ b,x.du (ρ i) _ b → x.du (ρ i) w b:=fun i x hi b=>OC.du.congr fun b hb=>hold b ((hw.owned i x hi).1.lt (.inl hb))
  refine ⟨(e1.congr fun b hb=>hold b (e1.lt hb)).mono hle,fun b hb=>⟨(e2 b (hft j c hj b hb)).1,fun o=>?_⟩,fun i x hi hij b hb hb'=>e3 i x hi hij b (hft j c hj b hb) (hft i x hi b hb')⟩
  have:=e1.lt (hft j c hj b hb)
  unfold c9
  rw [if_neg (by omega)]
  exact (e2 b (hft j c hj b hb)).2 o
theorem Hg:∀ (l:List Int),(l.map (eK k)).flatten = l.map (CP.int k)
 | []=>rfl
 | a :: l=>by simp only [List.map_cons,List.flatten_cons,Hg l,eK]; rfl
theorem yc {src d e:TypeId} {z:Str} (hs:P.underlying src = some .string) (hd:P.underlying d = some (.slice e)) (he:P.underlying e = some (.int .u8)) (hx:s.ev x = some (.b (.one (.str z)))) :
  aR P E n ⟨dst,.convert src d x,ty,pos,after,g⟩ s (s.put n dst (.b (.one (.sl 1 ((ofStr z).map (eK .u8)))))):=by
 intro a w ⟨hdf,hn,h,ρ,hw,hsl⟩ next Q hnext
 obtain ⟨hv,hl⟩:=la hsl hx
 have hrun':(execOp a.eval ⟨dst,.convert src d x,ty,pos,after,g⟩).run P w = .ok (.value (.slice (some ⟨w.heap.size,0,none⟩) z.length (grownCap w z.length 0 e))) (Lib.bytesWorld w e ⟨⟨z⟩⟩):=by
  simp only [execOp,hv]
  rw [Sem.run_bind,Lib.run_convert_string_bytes w src d e ⟨⟨z⟩⟩ hs hd he]
  rfl
 unfold Oper.wp
 rw [hrun']
 obtain ⟨hle,hwp⟩:=hw.newP (w':=Lib.bytesWorld w e ⟨⟨z⟩⟩) (z.map fun c=>Value.int .u8 c.toNat) (fun b hb=>Lib.bytesWorld_at_old w e _ b hb) (by rw [Lib.bytesWorld_size]; omega) (by simp [Lib.bytesWorld,World.freeze,World.alloc,World.drew,-World.alloc_eq,-World.drew_eq]) (by simp [Lib.bytesWorld,World.freeze,World.alloc,World.drew,-World.alloc_eq,-World.drew_eq])
  (fun o v hv=>by
   rw [List.getElem?_map] at hv
   simp only [Option.map_eq_some_iff] at hv
   obtain ⟨c,hc,rfl⟩:=hv
   have hlt:=(List.getElem?_eq_some_iff.1 hc).1
   rw [Lib.bytesWorld_cell w e ⟨⟨z⟩⟩ o hlt]
   simp [List.getD,hc]) (fun v hv=>by obtain ⟨c,_,rfl⟩:=List.mem_map.1 hv; rfl)
 refine hnext _ _ (R.put (s:=s) hdf hn hwp (hsl.mono hle) ?_)
 have hlen:((ofStr z).map (eK .u8)).length = z.length:=by simp [ofStr]
 refine ⟨fun ps hps=>?_,by decide,.inr (.inl ⟨w.heap.size,0,grownCap w z.length 0 e,by rw [hlen],by rw [hlen]; exact grownCap_ge w _ _ _,grownCap_le_maxLen w _ _ _ hl,fun j c hc=>?_⟩)⟩
 ·obtain ⟨q,_,rfl⟩:=List.mem_map.1 hps; rfl
 ·rw [Hg] at hc
  simp only [ofStr,List.map_map,List.getElem?_map,Option.map_eq_some_iff] at hc
  obtain ⟨b,hb,rfl⟩:=hc
  refine ⟨.int .u8 b.toNat,by simp [c9,hb],rfl,?_⟩
  have:=b.toNat_lt
  simp [kX,IntKind.min,IntKind.max,IntKind.signed,IntKind.bits]
  omega
end
end Go.Sk
namespace Go.Sk
set_option linter.unusedSimpArgs false
set_option linter.unusedVariables false
open Go Go.BigFrame
section
variable {P:Program} {TB:aF} {E:Env TB} {n:Sh} {s s' s2:St} {l:List Oper} {L:List Oper} {Q:bF} {o:Oper}
def Iy (L:List Oper) (i j:Nat):Bool:=match L[i]? with
 | some o=>o.after.toList.any fun e=>Region.binds .any e && e.on == j
 | none=>false
theorem tI {L:List Oper} {i j:Nat} (h:Iy L i j = true):∃ o,L[i]? = some o ∧ ∃ e,e ∈ o.after ∧ Region.binds .any e = true ∧ e.on = j:=by
 unfold Iy at h
 split at h
 ·next o ho=>
  simp only [List.any_eq_true,Bool.and_eq_true,beq_iff_eq] at h
  obtain ⟨e,he,h1,h2⟩:=h
  exact ⟨o,ho,e,by simpa using he,h1,h2⟩
 ·simp at h
theorem s5:∀ (L:List Bool) (i:Nat) (hi:i < L.length),L[i] = false → ((L.set i true).filter id).length = (L.filter id).length + 1
 | [],i,hi,_=>by simp at hi
 | b :: L,0,hi,hb=>by simp at hb; subst hb; simp
 | b :: L,i + 1,hi,hb=>by
  have:=s5 L i (by simpa using hi) (by simpa using hb)
  cases b <;> simp [this]
def Cj (L:List Oper) (listed:Array Bool):Prop:=∀ (i:Nat) (o:Oper),L[i]? = some o → listed.getD i false = true → ∀ e ∈ o.after,Region.binds .any e = true → listed.getD e.on false = true
theorem anyG (Inv:Array Bool → Act → World → Prop) (hed:iv 0 L = true)
  (hstep:∀ (listed:Array Bool) a w (i:Nat) (o:Oper),listed.size = L.length → Cj L listed → L[i]? = some o → listed.getD i false = false → (∀ e ∈ o.after,Region.binds .any e = true → listed.getD e.on false = true) → Inv listed a w →
   ∀ K:Act → World → Prop,(∀ a' w',Inv (listed.setIfInBounds i true) a' w' → K a' w') → if Region.wanted o (yielded L.toArray a.tmps) then o.wp P a w K Q else K (a.put o.dst undef) w)
  (hend:∀ (listed:Array Bool) a w,listed.size = L.length → (∀ j,j < L.length → listed.getD j false = true) → Inv listed a w → Q .normal a w) :
  ∀ (fuel:Nat) (listed:Array Bool) (a:Act) (w:World),listed.size = L.length → Cj L listed → L.length ≤ fuel + (listed.toList.filter id).length → Inv listed a w → wpAny P .any L.toArray Q fuel listed a w:=by
 have hready:∀ (listed:Array Bool),listed.size = L.length → Region.ready .any L.toArray listed = [] → ∀ j,j < L.length → listed.getD j false = true:=by
  intro listed hsz hr j hj
  induction j using Nat.strongRecOn with
  | _ j ih=>
   cases hb:listed.getD j false with
   | true=>rfl
   | false=>
    exfalso
    have hjr:j ∈ Region.ready .any L.toArray listed:=by
     rw [mem_ready]
     refine ⟨?_,L[j],by simp [hj],fun e he hbd=>?_⟩
     ·have:j < listed.size:=by omega
      simp only [Array.getD_eq_getD_getElem?,Array.getElem?_eq_getElem this,Option.getD_some] at hb ⊢
      exact hb
     ·have:=rA hed j L[j] (by simp) e he hbd
      exact ih e.on (by omega) (by omega)
    rw [hr] at hjr
    simp at hjr
 intro fuel
 induction fuel with
 | zero=>
  intro listed a w hsz hcl hf hR
  have hall:∀ j,j < L.length → listed.getD j false = true:=by
   intro j hj
   have hfl:(listed.toList.filter id).length = listed.toList.length:=by
    have:=List.length_filter_le id listed.toList
    simp at this ⊢; omega
   have hall2:=List.filter_eq_self.1 (List.filter_sublist.eq_of_length hfl)
   have hjs:j < listed.size:=by omega
   have:=hall2 listed[j] (by simp)
   simp only [Array.getD_eq_getD_getElem?,Array.getElem?_eq_getElem hjs,Option.getD_some]
   simpa using this
  have hr:Region.ready .any L.toArray listed = []:=by
   apply List.eq_nil_iff_forall_not_mem.2
   intro j hj
   rw [mem_ready] at hj
   obtain ⟨hj1,o,ho,_⟩:=hj
   have hjl:j < L.length:=by simpa using (Array.getElem?_eq_some_iff.1 ho).1
   have hjs:j < listed.size:=by omega
   have:=hall j hjl
   simp only [Array.getD_eq_getD_getElem?,Array.getElem?_eq_getElem hjs,Option.getD_some] at this hj1
   rw [this] at hj1; simp at hj1
  exact ⟨hr,hend listed a w hsz hall hR⟩
 | succ fuel ih=>
  intro listed a w hsz hcl hf hR
  refine ⟨fun hr=>hend listed a w hsz (hready listed hsz hr) hR,fun i hi=>?_⟩
  rw [mem_ready] at hi
  obtain ⟨hi1,o,ho,hdeps⟩:=hi
  have hol:L[i]? = some o:=by simpa using ho
  have hil:i < L.length:=(List.getElem?_eq_some_iff.1 hol).1
  have his:i < listed.size:=by omega
  have hi1':listed[i] = false:=by simpa [Array.getD_eq_getD_getElem?,Array.getElem?_eq_getElem his] using hi1
  have hi2:listed.getD i false = false:=by simp [Array.getD_eq_getD_getElem?,Array.getElem?_eq_getElem his,hi1']
  have key:=hstep listed a w i o hsz hcl hol hi2 hdeps hR (wpAny P .any L.toArray Q fuel (listed.setIfInBounds i true)) (fun a' w' hR'=>by
   have hset:∀ q,listed.getD q false = true → (listed.setIfInBounds i true).getD q false = true:=fun q hq=>by
    by_cases e:q = i
    ·subst e; simp [Array.getD_eq_getD_getElem?,his]
    ·rw [getD_set_ne false (fun h=>e h.symm)]; exact hq
   refine ih _ a' w' (by simpa using hsz) ?_ ?_ hR'
   ·intro j p hj hlj e he hb
    by_cases e':j = i
    ·subst e'
     rw [hol] at hj; cases hj
     exact hset _ (hdeps e he hb)
    ·rw [getD_set_ne false (fun h=>e' h.symm)] at hlj
     exact hset _ (hcl j p hj hlj e he hb)
   ·have:=s5 listed.toList i (by simpa using his) (by simpa using hi1')
    rw [Array.toList_setIfInBounds]
    omega)
  unfold wpOp
  rw [ho]
  dsimp only
  split
  ·rename_i hw'
   simp only [hw',if_true] at key
   exact .inl key
  ·rename_i hw'
   simp only [hw'] at key
   exact key
def kz (l:List Oper) (j:Nat) (sl:List (Nat × SV)):List (Nat × SV):=sl.filter fun p=>(List.range l.length).all fun i=>((l[i]?).bind (·.dst)) != some p.1 || i == j || Iy l i j
def hit (l:List Oper) (listed:Array Bool) (d:Nat):Bool:=(List.range l.length).any fun i=>listed.getD i false && ((l[i]?).bind (·.dst)) == some d
def Ic (s:St) (l:List Oper) (Fs:List SV) (listed:Array Bool):St:=⟨(s.slots.filter fun p=>!hit l listed p.1) ++ aY (fun i=>listed.getD i false) 0 l Fs,s.own⟩
def q4 (P:Program) {TB:aF} (E:Env TB) (n:Sh) (ops:Array Oper) (s:St) (l:List Oper) (Fs:List SV):Nat → List Oper → List SV → Prop
 | _,[],[]=>True
 | j,o :: r,x :: xs=>(∀ extra,b6 P E n ops o ⟨eJ l Fs o.after.toList ++ (kz l j s.slots ++ extra),s.own⟩ (St.put n o.dst x ⟨eJ l Fs o.after.toList ++ (kz l j s.slots ++ extra),s.own⟩)) ∧ q4 P E n ops s l Fs (j + 1) r xs
 | _,_,_=>False
theorem uX {ops:Array Oper} {Fs:List SV} {l0:List Oper}:∀ {r:List Oper} {xs:List SV} {j:Nat},q4 P E n ops s l0 Fs j r xs → r.length = xs.length ∧ ∀ (i:Nat) (o:Oper),r[i]? = some o → ∃ x,xs[i]? = some x ∧ ∀ extra,b6 P E n ops o ⟨eJ l0 Fs o.after.toList ++ (kz l0 (j + i) s.slots ++ extra),s.own⟩ (St.put n o.dst x ⟨eJ l0 Fs o.after.toList ++ (kz l0 (j + i) s.slots ++ extra),s.own⟩)
 | [],[],j,_=>⟨rfl,fun i o h=>by simp at h⟩
 | o :: r,x :: xs,j,h=>by
  obtain ⟨h1,h2⟩:=h
  obtain ⟨h3,h4⟩:=uX h2
  refine ⟨by simp [h3],fun i o' ho=>?_⟩
  cases i with
  | zero=>simp at ho; subst ho; exact ⟨x,by simp,h1⟩
  | succ i=>
   obtain ⟨y,hy,hz⟩:=h4 i o' (by simpa using ho)
   exact ⟨y,by simpa using hy,by rw [← Nat.add_assoc,Nat.add_right_comm]; exact hz⟩
 | [],_ :: _,j,h=>h.elim
 | _ :: _,[],j,h=>h.elim
def xQ (P:Program) {TB:aF} (E:Env TB) (n:Sh) (ops:Array Oper):List Oper → St → St → Prop
 | [],s,s'=>s = s'
 | o :: r,s,s'=>∃ s1,b6 P E n ops o s s1 ∧ xQ P E n ops r s1 s'
def Fx (L:List Oper) (q:Nat):Bool:=(List.range q).all fun j=>Iy L q j || (List.range q).any fun i=>decide (j < i) && Iy L i j
def okX (l tl:List Oper) (m:Nat):Bool:=iv 0 (l ++ tl) && gp (jK l) && (jK l).all (· < m) && (List.range tl.length).all fun k=>Fx (l ++ tl) (l.length + k)
theorem covered {listed:Array Bool} {q:Nat} {o:Oper} (hcl:Cj L listed) (hq:L[q]? = some o) (hd:∀ e ∈ o.after,Region.binds .any e = true → listed.getD e.on false = true) (hc:Fx L q = true):∀ j,j < q → listed.getD j false = true:=by
 simp only [Fx,List.all_eq_true,List.mem_range,Bool.or_eq_true,List.any_eq_true,Bool.and_eq_true,decide_eq_true_eq] at hc
 have key:∀ m j,q - j = m → j < q → listed.getD j false = true:=by
  intro m
  induction m using Nat.strongRecOn with
  | _ m ihm=>
   intro j hm hj
   rcases hc j hj with h | ⟨i,hi,hji,hp⟩
   ·obtain ⟨o',ho',e,he,hb,hon⟩:=tI h
    rw [hq] at ho'; cases ho'
    have:=hd e he hb
    rwa [hon] at this
   ·obtain ⟨o',ho',e,he,hb,hon⟩:=tI hp
    have h1:=ihm (q - i) (by omega) i rfl hi
    have:=hcl i o' ho' h1 e he hb
    rwa [hon] at this
 exact fun j hj=>key _ j rfl hj
def InvX (P:Program) {TB:aF} (E:Env TB) (n:Sh) (ops:Array Oper) (s:St) (l tl:List Oper) (Fs:List SV) (s2:St) (listed:Array Bool) (a:Act) (w:World):Prop :=
 ((∀ j,l.length ≤ j → listed.getD j false = false) ∧ R E n (Ic s l Fs listed) a w) ∨
 ∃ k sk,k < tl.length ∧ (∀ j,j ≤ l.length + k → listed.getD j false = true) ∧ (∀ j,l.length + k < j → listed.getD j false = false) ∧ xQ P E n ops (tl.drop (k + 1)) sk s2 ∧ R E n sk a w
theorem uN.X {ops:List Oper} (l tl:List Oper) (hops:l ++ tl = ops) (Fs:List SV) (ks kos:List Nat) (hok:okX l tl n.n = true) (hst:q4 P E n ops.toArray s l Fs 0 l Fs)
  (htl:xQ P E n ops.toArray tl ⟨(s.slots.filter fun p=>!(jK l).contains p.1) ++ aY (fun _=>true) 0 l Fs,s.own⟩ s2) (hs:s2.keep ks kos = s') (h:Fin E n .normal s' Q):uN P E n ops.toArray s Q:=by
 subst hops
 simp only [okX,Bool.and_eq_true,List.all_eq_true,List.mem_range] at hok
 obtain ⟨⟨⟨hedges,hnd⟩,hlt⟩,hcov⟩:=hok
 obtain ⟨hlen,hsteps⟩:=uX (Fs:=Fs) hst
 intro a w hr
 have hgetl:∀ {i:Nat} {o:Oper},(l ++ tl)[i]? = some o → i < l.length → l[i]? = some o:=fun h hi=>by rwa [List.getElem?_append_left hi] at h
 have hS0:∀ {listed:Array Bool} {a:Act} {w:World},(∀ j,j < l.length → listed.getD j false = true) → R E n (Ic s l Fs listed) a w → R E n ⟨(s.slots.filter fun p=>!(jK l).contains p.1) ++ aY (fun _=>true) 0 l Fs,s.own⟩ a w:=by
  intro listed a w hall hR
  obtain ⟨h1,h2,h,ρ,hw,hs⟩:=hR
  refine ⟨h1,h2,h,ρ,hw,fun k x hx=>hs k x ?_⟩
  simp only [Ic,List.mem_append] at hx ⊢
  rcases hx with hx | hx
  ·left
   simp only [List.mem_filter,Bool.not_eq_true',List.contains_eq_mem,decide_eq_false_iff_not] at hx ⊢
   refine ⟨hx.1,?_⟩
   cases hh:hit l listed k with
   | false=>rfl
   | true=>
    exfalso
    simp only [hit,List.any_eq_true,List.mem_range,Bool.and_eq_true,beq_iff_eq,Option.bind_eq_some_iff] at hh
    obtain ⟨i,hi,_,o',ho',hd'⟩:=hh
    exact hx.2 (mQ ho' hd')
  ·right
   rw [bR] at hx ⊢
   obtain ⟨j,oj,hj,hd,hF,_⟩:=hx
   exact ⟨j,oj,hj,hd,hF,by rw [Nat.zero_add]; exact hall j (List.getElem?_eq_some_iff.1 hj).1⟩
 refine anyG (L:=l ++ tl) (InvX P E n (l ++ tl).toArray s l tl Fs s2) hedges ?_ ?_ _ _ _ _ (by simp) ?_ (by simp) (.inl ⟨fun j hj=>?_,?_⟩)
 ·
  intro listed a w i o hsz hcl hio hil hdeps hInv K hK
  have hin:i < (l ++ tl).length:=(List.getElem?_eq_some_iff.1 hio).1
  have his:i < listed.size:=by omega
  have hset:∀ q,listed.getD q false = true → (listed.setIfInBounds i true).getD q false = true:=fun q hq=>by
   by_cases e:q = i
   ·subst e; simp [Array.getD_eq_getD_getElem?,his]
   ·rw [getD_set_ne false (fun h=>e h.symm)]; exact hq
  have hseti:(listed.setIfInBounds i true).getD i false = true:=by simp [Array.getD_eq_getD_getElem?,his]
  by_cases hi:i < l.length
  ·
   have hInv':(∀ j,l.length ≤ j → listed.getD j false = false) ∧ R E n (Ic s l Fs listed) a w:=by
    rcases hInv with h | ⟨k,sk,hk,hyes,_⟩
    ·exact h
    ·have:=hyes i (by omega); rw [hil] at this; simp at this
   obtain ⟨hno,hR⟩:=hInv'
   have hol:=hgetl hio hi
   obtain ⟨x,hx,hstep⟩:=hsteps i o hol
   rw [Nat.zero_add] at hstep
   have hnohit:∀ p,p ∈ kz l i s.slots → p ∈ s.slots ∧ hit l listed p.1 = false:=by
    intro p hp
    simp only [kz,List.mem_filter,List.all_eq_true,List.mem_range,Bool.or_eq_true,bne_iff_ne,beq_iff_eq] at hp
    refine ⟨hp.1,?_⟩
    cases hh:hit l listed p.1 with
    | false=>rfl
    | true=>
     exfalso
     simp only [hit,List.any_eq_true,List.mem_range,Bool.and_eq_true,beq_iff_eq] at hh
     obtain ⟨q,hq,hlq,hdq⟩:=hh
     rcases hp.2 q hq with (h | h) | h
     ·exact h hdq
     ·subst h; rw [hil] at hlq; simp at hlq
     ·obtain ⟨o',ho',e,he,hb,hon⟩:=tI h
      have:=hcl q o' (by rw [List.getElem?_append_left hq]; exact ho') hlq e he hb
      rw [hon,hil] at this; simp at this
   have hR2:R E n ⟨eJ l Fs o.after.toList ++ (kz l i s.slots ++ ((s.slots.filter fun p=>!hit l listed p.1) ++ aY (fun i=>listed.getD i false) 0 l Fs)),s.own⟩ a w:=by
    obtain ⟨h1,h2,h,ρ,hw,hs⟩:=hR
    refine ⟨h1,h2,h,ρ,hw,fun k y hy=>hs k y ?_⟩
    rcases List.mem_append.1 hy with hy | hy
    ·obtain ⟨e,he,hb,o',ho',hd',hF'⟩:=rq hy
     refine List.mem_append.2 (.inr ?_)
     rw [bR]
     exact ⟨e.on,o',ho',hd',hF',by rw [Nat.zero_add]; exact hdeps e (by simpa using he) hb⟩
    ·rcases List.mem_append.1 hy with hy | hy
     ·obtain ⟨h1,h2⟩:=hnohit _ hy
      exact List.mem_append.2 (.inl (List.mem_filter.2 ⟨h1,by simp [h2]⟩))
     ·exact hy
   refine hstep _ a w hR2 K Q (fun a' w' hR'=>hK a' w' (.inl ⟨fun j hj=>?_,?_⟩))
   ·rw [getD_set_ne false (by omega)]; exact hno j hj
   ·obtain ⟨h1,h2,h,ρ,hw,hs⟩:=hR'
    have hown:∀ sl,(St.put n o.dst x ⟨sl,s.own⟩).own = s.own:=fun sl=>by
     cases hd:o.dst with
     | none=>rfl
     | some d=>simp only [St.put,St.set]; split <;> rfl
    rw [hown] at hw
    refine ⟨h1,h2,h,ρ,hw,fun k y hy=>?_⟩
    have hold:(k,y) ∈ (s.slots.filter fun p=>!hit l listed p.1) ++ aY (fun i=>listed.getD i false) 0 l Fs → (∀ d,o.dst = some d → k ≠ d) → ∃ v,a'.tmps[k]? = some v ∧ y.rel h ρ v:=by
     intro hm hkd
     refine hs k y ?_
     have hm':(k,y) ∈ eJ l Fs o.after.toList ++ (kz l i s.slots ++ ((s.slots.filter fun p=>!hit l listed p.1) ++ aY (fun i=>listed.getD i false) 0 l Fs)):=List.mem_append.2 (.inr (List.mem_append.2 (.inr hm)))
     cases hd:o.dst with
     | none=>simp only [St.put]; exact hm'
     | some d=>
      simp only [St.put,St.set]
      split
      ·exact List.mem_cons_of_mem _ (cV hm' (hkd d hd))
      ·exact hm'
    simp only [Ic] at hy
    rcases List.mem_append.1 hy with hy | hy
    ·obtain ⟨hy1,hy2⟩:=List.mem_filter.1 hy
     have hy2':hit l (listed.setIfInBounds i true) k = false:=by simpa using hy2
     refine hold (List.mem_append.2 (.inl (List.mem_filter.2 ⟨hy1,?_⟩))) (fun d hd e=>?_)
     ·cases hh:hit l listed k with
      | false=>rfl
      | true=>
       exfalso
       simp only [hit,List.any_eq_true,List.mem_range,Bool.and_eq_true,beq_iff_eq] at hh
       obtain ⟨q,hq,hlq,hdq⟩:=hh
       have:hit l (listed.setIfInBounds i true) k = true:=by
        simp only [hit,List.any_eq_true,List.mem_range,Bool.and_eq_true,beq_iff_eq]
        exact ⟨q,hq,hset q hlq,hdq⟩
       rw [hy2'] at this; simp at this
     ·subst e
      have:hit l (listed.setIfInBounds i true) k = true:=by
       simp only [hit,List.any_eq_true,List.mem_range,Bool.and_eq_true,beq_iff_eq]
       exact ⟨i,hi,hseti,by rw [hol]; exact hd⟩
      rw [hy2'] at this; simp at this
    ·rw [bR] at hy
     obtain ⟨j,oj,hj,hd',hF',hl'⟩:=hy
     rw [Nat.zero_add] at hl'
     by_cases hji:j = i
     ·subst hji
      rw [hol] at hj; cases hj
      rw [hx] at hF'; cases hF'
      refine hs k y ?_
      have hk:k < n.n:=by
       have:=hlt k (mQ hol hd')
       simpa using this
      simp only [hd',St.put,St.set,hk,if_true]
      exact List.mem_cons_self
     ·have hl2:listed.getD j false = true:=by
       rw [getD_set_ne false (fun e=>hji e.symm)] at hl'
       exact hl'
      refine hold (List.mem_append.2 (.inr ?_)) (fun d hd e=>?_)
      ·rw [bR]
       exact ⟨j,oj,hj,hd',hF',by rw [Nat.zero_add]; exact hl2⟩
      ·subst e
       exact hji (vX hnd hj hol hd' hd)
  ·
   have hit':i - l.length < tl.length:=by simp only [List.length_append] at hin; omega
   have hcv:=covered hcl hio hdeps (by have:=hcov (i - l.length) hit'; rwa [show l.length + (i - l.length) = i by omega] at this)
   have hoi:tl[i - l.length]? = some o:=by rwa [List.getElem?_append_right (by omega)] at hio
   rcases hInv with ⟨hno,hR⟩ | ⟨k,sk,hk,hyes,hno,hT,hR⟩
   ·have ei:i = l.length:=by
     rcases Nat.lt_or_ge l.length i with h | h
     ·have:=hcv l.length h; rw [hno _ (Nat.le_refl _)] at this; simp at this
     ·omega
    have hR0:=hS0 (fun j hj=>hcv j (by omega)) hR
    rw [show i - l.length = 0 by omega] at hoi
    have h0:0 < tl.length:=by omega
    have hdr:tl.drop 0 = o :: tl.drop (0 + 1):=by
     rw [List.drop_eq_getElem_cons h0]
     congr 1
     rw [List.getElem?_eq_getElem h0] at hoi
     simpa using hoi
    have hT:xQ P E n (l ++ tl).toArray (tl.drop 0) ⟨(s.slots.filter fun p=>!(jK l).contains p.1) ++ aY (fun _=>true) 0 l Fs,s.own⟩ s2:=by rw [List.drop_zero]; exact htl
    rw [hdr] at hT
    obtain ⟨s1,hs1,hr1⟩:=hT
    refine hs1 a w hR0 K Q (fun a' w' hR'=>hK a' w' (.inr ⟨0,s1,h0,fun j hj=>?_,fun j hj=>?_,hr1,hR'⟩))
    ·by_cases e:j = i
     ·subst e; exact hseti
     ·exact hset j (hcv j (by omega))
    ·rw [getD_set_ne false (by omega)]; exact hno j (by omega)
   ·have ei:i = l.length + (k + 1):=by
     rcases Nat.lt_or_ge (l.length + (k + 1)) i with h | h
     ·have:=hcv _ h; rw [hno _ (by omega)] at this; simp at this
     ·rcases Nat.lt_or_ge i (l.length + (k + 1)) with h' | h'
      ·have:=hyes i (by omega); rw [hil] at this; simp at this
      ·omega
    rw [show i - l.length = k + 1 by omega] at hoi
    have hdr:tl.drop (k + 1) = o :: tl.drop (k + 1 + 1):=by
     have hlt2:k + 1 < tl.length:=by omega
     rw [List.drop_eq_getElem_cons hlt2]
     congr 1
     rw [List.getElem?_eq_getElem hlt2] at hoi
     simpa using hoi
    rw [hdr] at hT
    obtain ⟨s1,hs1,hr1⟩:=hT
    refine hs1 a w hR K Q (fun a' w' hR'=>hK a' w' (.inr ⟨k + 1,s1,by omega,fun j hj=>?_,fun j hj=>?_,hr1,hR'⟩))
    ·by_cases e:j = i
     ·subst e; exact hseti
     ·exact hset j (hyes j (by omega))
    ·rw [getD_set_ne false (by omega)]; exact hno j (by omega)
 ·
  intro listed a w hsz hall hInv
  rcases hInv with ⟨hno,hR⟩ | ⟨k,sk,hk,hyes,hno,hT,hR⟩
  ·have e:tl = []:=by
    cases htl':tl with
    | nil=>rfl
    | cons o0 r=>
     have:=hall l.length (by rw [htl']; simp)
     rw [hno _ (Nat.le_refl _)] at this; simp at this
   subst e
   have hR0:=hS0 (fun j hj=>hall j (by simpa using hj)) hR
   have e2:_ = s2:=htl
   rw [e2] at hR0
   exact h a w (hs ▸ hR0.keep ks kos)
  ·have e:k + 1 = tl.length:=by
    rcases Nat.lt_or_ge (k + 1) tl.length with h' | h'
    ·have:=hall (l.length + (k + 1)) (by simp only [List.length_append]; omega)
     rw [hno _ (by omega)] at this; simp at this
    ·omega
   rw [e,List.drop_length] at hT
   have e2:sk = s2:=hT
   subst e2
   exact h a w (hs ▸ hR.keep ks kos)
 ·intro i p hi hl
  exfalso
  simp only [Array.getD_eq_getD_getElem?,Array.getElem?_replicate] at hl
  split at hl <;> simp at hl
 ·simp only [Array.getD_eq_getD_getElem?,Array.getElem?_replicate]
  split <;> simp
 ·obtain ⟨h1,h2,h,ρ,hw,hsl⟩:=hr.drawn
  refine ⟨h1,h2,h,ρ,hw,fun k x hx=>hsl k x ?_⟩
  simp only [Ic] at hx
  rcases List.mem_append.1 hx with hx | hx
  ·exact (List.mem_filter.1 hx).1
  ·rw [bR] at hx
   obtain ⟨j,o,hj,_,_,hl⟩:=hx
   simp only [Nat.zero_add,Array.getD_eq_getD_getElem?,Array.getElem?_replicate] at hl
   split at hl <;> simp at hl
theorem ah.J2 {rid:Nat} {ops:List Oper} (hm:P.follows .mixedOrders = true) (l tl:List Oper) (hops:l ++ tl = ops) (Fs:List SV) (ks kos:List Nat) (hok:okX l tl n.n = true) (hst:q4 P E n ops.toArray s l Fs 0 l Fs)
  (htl:xQ P E n ops.toArray tl ⟨(s.slots.filter fun p=>!(jK l).contains p.1) ++ aY (fun _=>true) 0 l Fs,s.own⟩ s2) (hs:s2.keep ks kos = s') (h:Fin E n .normal s' Q):ah P E n (.region rid ops.toArray true) s Q:=ah.ofA hm (uN.X l tl hops Fs ks kos hok hst htl hs h)
theorem ah.DO {rid:Nat} {ops:List Oper} (hm:P.follows .mixedOrders = true) (m:Nat) (Fs:List SV) (ks kos:List Nat) (hok:okX (ops.take m) (ops.drop m) n.n = true) (hst:q4 P E n ops.toArray s (ops.take m) Fs 0 (ops.take m) Fs)
  (htl:xQ P E n ops.toArray (ops.drop m) ⟨(s.slots.filter fun p=>!(jK (ops.take m)).contains p.1) ++ aY (fun _=>true) 0 (ops.take m) Fs,s.own⟩ s2) (hs:s2.keep ks kos = s') (h:Fin E n .normal s' Q):ah P E n (.region rid ops.toArray true) s Q :=
 ah.J2 hm _ _ (List.take_append_drop m ops) Fs ks kos hok hst htl hs h
theorem ah.og {rid:Nat} {ops:List Oper} {y:Code} (hm:P.follows .mixedOrders = true) (m:Nat) (Fs:List SV) (ks kos:List Nat) (hok:okX (ops.take m) (ops.drop m) n.n = true) (hst:q4 P E n ops.toArray s (ops.take m) Fs 0 (ops.take m) Fs)
  (htl:xQ P E n ops.toArray (ops.drop m) ⟨(s.slots.filter fun p=>!(jK (ops.take m)).contains p.1) ++ aY (fun _=>true) 0 (ops.take m) Fs,s.own⟩ s2) (hs:s2.keep ks kos = s') (h:ah P E n y s' Q):ah P E n (.region rid ops.toArray true) s (Exit.then (y.wp P Q) Q) :=
 ah.DO hm m Fs ks kos hok hst htl hs (Fin.then h)
end
end Go.Sk
namespace Go.Sk
set_option linter.unusedSimpArgs false
set_option linter.unusedVariables false
open Go Go.BigFrame Go.RowKit
section
variable {P:Program} {TB:aF} {E:Env TB} {n:Sh} {s s' s0 s2:St} {dst:Option Nat} {t ty yt:TypeId} {pos:String} {after:Array Edge} {g:Option (Nat × Bool)} {x y c:Operand} {ops:Array Oper} {o:Oper}
theorem b6.jL (i k size:Nat) (T:TypeId) (hi:s.get i = some (.b (.one .nil))) (hz:0 < size) (hfx:n.fix.contains k = false) (h:b6 P E n ops o ⟨(i,.b (.row k)) :: del i (cn k s.slots),ins k (.row T size []) s.own⟩ s2) (hnu:di k s.own = true:=by rfl):b6 P E n ops o s s2 :=
 fun a w hr=>h a w (hr.jL hi hz hfx hnu)
theorem b6.cB (i size:Nat) (hi:s.get i = some (.b (.one .nil))) (hz:0 < size) (h:b6 P E n ops o ⟨(i,.b (.one (.sl size []))) :: del i s.slots,s.own⟩ s2):b6 P E n ops o s s2 :=
 fun a w hr=>h a w (hr.cB hi hz)
theorem b6.gL (k:Nat) {size:Nat} {T:TypeId} {es:List (List CP)} (hk:lk s.own k = some (.row T size es)) (h:b6 P E n ops o ⟨qv k (.sl size es) s.slots,oH k (.sl size es) (del k s.own)⟩ s2):b6 P E n ops o s s2:=fun a w hr=>h a w (hr.gL hk)
theorem b6.Ib (k:Nat) {T:TypeId} {ps:List CP} (hk:lk s.own k = some (.box T ps)) (h:b6 P E n ops o ⟨s.slots,ins k (.ba T (ps.map .one)) s.own⟩ s2):b6 P E n ops o s s2:=fun a w hr=>h a w (hr.Ib k hk)
theorem b6.F7 (k:Nat) {T:TypeId} {cs:List BV} {ps:List CP} (hk:lk s.own k = some (.ba T cs)) (ho:uM cs = some ps) (h:b6 P E n ops o ⟨s.slots,ins k (.box T ps) s.own⟩ s2):b6 P E n ops o s s2:=fun a w hr=>h a w (hr.F7 k hk ho)
theorem b6.Hr (kos:List Nat) {s1:St} (h:b6 P E n ops o s s1) (e:(⟨s1.slots,rQ kos s1.own⟩:St) = s2):b6 P E n ops o s s2:=fun a w hr K Q hk=>h a w hr K Q fun a' w' hr'=>hk a' w' (by
 rw [← e]
 obtain ⟨hd,hn,h,ρ,hw,hs⟩:=hr'
 exact ⟨hd,hn,h,ρ,hw.sub fun _ hp=>mw hp,hs⟩)
theorem R.toF {a:Act} {w:World} (hr:R E n s a w) (k:Nat) {T:TypeId} {size:Nat} {es:List (List CP)} (hk:lk s.own k = some (.row T size es)):R E n ⟨s.slots,ins k (.oe T size es) s.own⟩ a w:=by
 obtain ⟨hd,hn,h,ρ,hw,hs⟩:=hr
 exact ⟨hd,hn,h,ρ,hw.Io hk (hw.owned k _ (bh hk)).1,hs⟩
theorem R.unF {a:Act} {w:World} (hr:R E n s a w) (k:Nat) {T:TypeId} {size:Nat} {es:List (List CP)} (hk:lk s.own k = some (.oe T size es)):R E n ⟨s.slots,ins k (.row T size es) s.own⟩ a w:=by
 obtain ⟨hd,hn,h,ρ,hw,hs⟩:=hr
 exact ⟨hd,hn,h,ρ,hw.Io hk (hw.owned k _ (bh hk)).1,hs⟩
theorem aj.toF {l:List Oper} {Q:bF} (k:Nat) {T:TypeId} {size:Nat} {es:List (List CP)} (hk:lk s.own k = some (.row T size es)) (h:aj P E n ops l ⟨s.slots,ins k (.oe T size es) s.own⟩ Q):aj P E n ops l s Q:=fun a w hr=>h a w (hr.toF k hk)
theorem aj.unF {l:List Oper} {Q:bF} (k:Nat) {T:TypeId} {size:Nat} {es:List (List CP)} (hk:lk s.own k = some (.oe T size es)) (h:aj P E n ops l ⟨s.slots,ins k (.row T size es) s.own⟩ Q):aj P E n ops l s Q:=fun a w hr=>h a w (hr.unF k hk)
theorem ah.unF {cd:Code} {Q:bF} (k:Nat) {T:TypeId} {size:Nat} {es:List (List CP)} (hk:lk s.own k = some (.oe T size es)) (h:ah P E n cd ⟨s.slots,ins k (.row T size es) s.own⟩ Q):ah P E n cd s Q:=fun a w hr=>h a w (hr.unF k hk)
theorem ah.toF {cd:Code} {Q:bF} (k:Nat) {T:TypeId} {size:Nat} {es:List (List CP)} (hk:lk s.own k = some (.row T size es)) (h:ah P E n cd ⟨s.slots,ins k (.oe T size es) s.own⟩ Q):ah P E n cd s Q:=fun a w hr=>h a w (hr.toF k hk)
theorem Fin.toF {e:Exit} {Q:bF} (k:Nat) {T:TypeId} {size:Nat} {es:List (List CP)} (hk:lk s.own k = some (.row T size es)) (h:Fin E n e ⟨s.slots,ins k (.oe T size es) s.own⟩ Q):Fin E n e s Q:=fun a w hr=>h a w (hr.toF k hk)
theorem Fin.unF {e:Exit} {Q:bF} (k:Nat) {T:TypeId} {size:Nat} {es:List (List CP)} (hk:lk s.own k = some (.oe T size es)) (h:Fin E n e ⟨s.slots,ins k (.row T size es) s.own⟩ Q):Fin E n e s Q:=fun a w hr=>h a w (hr.unF k hk)
theorem b6.toF (k:Nat) {T:TypeId} {size:Nat} {es:List (List CP)} (hk:lk s.own k = some (.row T size es)) (h:b6 P E n ops o ⟨s.slots,ins k (.oe T size es) s.own⟩ s2):b6 P E n ops o s s2:=fun a w hr=>h a w (hr.toF k hk)
theorem b6.unF (k:Nat) {T:TypeId} {size:Nat} {es:List (List CP)} (hk:lk s.own k = some (.oe T size es)) (h:b6 P E n ops o ⟨s.slots,ins k (.row T size es) s.own⟩ s2):b6 P E n ops o s s2:=fun a w hr=>h a w (hr.unF k hk)
end
theorem aG.lib {P:Program} {TB:aF} {f:FuncId} {args:List BV} {res:BV}
  (H:∀ (w:World) (h:PH) (ρ:RM) (vals:List Value),cx TB h w → oI h w → aQ (fun (x:BV) v=>x.rel h ρ v) args vals → Calls P f vals.toArray w fun e w'=>∃ v,e = .returned v ∧ Below w.heap.size w w' ∧ res.rel h ρ v):aG P TB f [] args (Is [] (.b res)):=by
 intro w h ρ vals tb hag hl ha
 refine (H w h ρ vals tb hag ha).mono ?_
 rintro e w' ⟨v,rfl,hb,hr⟩
 refine ⟨v,[],.b res,h,ρ,rfl,⟨rfl,rfl⟩,⟨fun b o u hu=>?_,PH.le_refl _,fun _ _ _=>rfl,hb.size,fun b hb' _=>hb.block b hb',fun k hk=>by simp [aq] at hk,hb.os,hb.output,fun b hb'=>?_,fun k c hk=>by simp at hk⟩,hr⟩
 ·have hc:=hag b o u hu
  have hlt:b < w.heap.size:=gM hc
  rw [mD (hb.block b hlt)]; exact hc
 ·obtain ⟨k,hk,_⟩:=hb'
  simp [ai] at hk
theorem Eg {r:BV → Value → Prop} {a:BV} {vals:List Value} (h:aQ r [a] vals):∃ v,vals = [v] ∧ r a v:=by
 cases h with
 | cons h1 h2=>cases h2; exact ⟨_,rfl,h1⟩
theorem sP {r:BV → Value → Prop} {a b:BV} {vals:List Value} (h:aQ r [a,b] vals):∃ v u,vals = [v,u] ∧ r a v ∧ r b u:=by
 cases h with
 | cons h1 h2=>
  obtain ⟨u,rfl,hu⟩:=Eg h2
  exact ⟨_,u,rfl,h1,hu⟩
section
variable {P:Program} {TB:aF} {E:Env TB} {n:Sh} {s:St} {dst:Option Nat} {t ty yt:TypeId} {pos:String} {after:Array Edge} {g:Option (Nat × Bool)} {x y c:Operand}
theorem Cm {h:PH} {size:Nat} {es fs:List (List CP)} {a:Option Addr} {b o c lo len cap:Nat} (hz:0 < size) (hu:cb size es) (hr:Reads h b o es.flatten) (hc:es.length ≤ c) (hm:c ≤ maxLen) (hfs:fs = (es.take (lo + len)).drop lo) (hl:lo + len ≤ es.length) (hcap:cap = c - lo) (ha:a = if c = lo then some ⟨b,o,none⟩ else some ⟨b,o + lo * size,none⟩) :
  (CP.sl size fs).rel h (.slice a len cap):=by
 have hfl:fs.length = len:=by rw [hfs]; simp; omega
 have huf:cb size fs:=fun ps hp=>hu ps (by rw [hfs] at hp; exact List.mem_of_mem_take (List.mem_of_mem_drop hp))
 refine ⟨huf,hz,?_⟩
 subst ha hcap
 by_cases e:c = lo
 ·rw [if_pos e]
  have h0:len = 0:=by omega
  have hn:fs = []:=List.eq_nil_of_length_eq_zero (by omega)
  exact .inr (.inl ⟨b,o,c - lo,by rw [hfl],by omega,by omega,fun j q hq=>by rw [hn] at hq; simp at hq⟩)
 ·rw [if_neg e]
  refine .inr (.inl ⟨b,o + lo * size,c - lo,by rw [hfl],by omega,by omega,?_⟩)
  have:fs.flatten = (es.flatten.drop (lo * size)).take (len * size):=by
   rw [hfs,wB (fun ps hp=>hu ps (List.mem_of_mem_take hp)),wh hu,List.drop_take]
   congr 1
   rw [Nat.add_mul]; omega
  rw [this]
  intro j q hq
  rw [List.getElem?_take] at hq
  split at hq
  ·exact hr.drop (lo * size) j q hq
  ·simp at hq
theorem Ep {α:Type} {xs z:List α} {enc:α → List CP} {size bytes:Nat} {e:TypeId} {zs:List CP} {yo:Operand} {kk:IntKind} {i:Int} (ht:kV P t e size bytes zs) (h:rR xs i = some z) (hx:s.ev x = some (.b (.one (.sl size (xs.map enc))))) (hy:s.ev yo = some (.b (.one (.int kk i)))) :
  aR P E n ⟨dst,.slice t x (some yo) none none,ty,pos,after,g⟩ s (s.put n dst (.b (.one (.sl size (z.map enc))))) :=
 aR.val (o:=⟨dst,.slice t x (some yo) none none,ty,pos,after,g⟩) fun ac w hh ρ hw hs=>by
  obtain ⟨h0,h1,rfl⟩:=Hi h
  obtain ⟨hu,hz,hv⟩:=(aC hs hx:(CP.sl size (xs.map enc)).rel hh _)
  obtain ⟨inf,zz,hi,hsz,_⟩:=ht.info
  have hel:P.elem t = e:=by simp [Program.elem,ht.und]
  have hund:P.underlying t = some (.slice (P.elem t)):=by rw [hel]; exact ht.und
  rcases hv with ⟨hv,he⟩ | ⟨b,o,c,hv,h3,h4,h5⟩ | ⟨ad,hv,he⟩
  ·have hxs:xs = []:=by simpa using he
   subst hxs
   have hi0:i = 0:=by simp at h1; omega
   subst hi0
   have hb:=run_slice_l (P:=P) (w:=w) (t:=t) (a:=none) (len:=0) (cap:=0) hund kk 0 (by decide) (by decide)
   refine ⟨sliced none (Int.toNat 0) 0 0 size,?_,?_⟩
   ·simp only [execOp,hv,Option.map_some,Option.map_none,(bG hs hy).1]
    rw [Sem.run_bind,run_sliceAt_slice w t _ _ _ _ hund,hb,run_sizeOf (i:=inf) (by rw [hel]; exact hi),hsz]
    rfl
   ·exact ⟨fun ps hps=>by simp at hps,hz,.inl ⟨by simp [sliced],by simp⟩⟩
  ·have hlen:(xs.map enc).length = xs.length:=by simp
   have hb:=run_slice_l (P:=P) (w:=w) (t:=t) (a:=some ⟨b,o,none⟩) (len:=(xs.map enc).length) (cap:=c) hund kk i h0 (by rw [hlen]; exact h1)
   refine ⟨sliced (some ⟨b,o,none⟩) i.toNat (xs.map enc).length c size,?_,?_⟩
   ·simp only [execOp,hv,Option.map_some,Option.map_none,(bG hs hy).1]
    rw [Sem.run_bind,run_sliceAt_slice w t _ _ _ _ hund,hb,run_sizeOf (i:=inf) (by rw [hel]; exact hi),hsz]
    rfl
   ·unfold sliced
    refine Cm (lo:=i.toNat) hz hu h5 h3 h4 ?_ (by rw [hlen]; omega) rfl (by split <;> simp [iJ])
    have:i.toNat + ((xs.map enc).length - i.toNat) = (xs.map enc).length:=by rw [hlen]; omega
    rw [this,List.take_length,List.map_drop]
  ·have hxs:xs = []:=by simpa using he
   subst hxs
   have hi0:i = 0:=by simp at h1; omega
   subst hi0
   have hb:=run_slice_l (P:=P) (w:=w) (t:=t) (a:=some ad) (len:=0) (cap:=0) hund kk 0 (by decide) (by decide)
   refine ⟨sliced (some ad) (Int.toNat 0) 0 0 size,?_,?_⟩
   ·simp only [execOp,hv,Option.map_some,Option.map_none,(bG hs hy).1]
    rw [Sem.run_bind,run_sliceAt_slice w t _ _ _ _ hund,hb,run_sizeOf (i:=inf) (by rw [hel]; exact hi),hsz]
    rfl
   ·exact ⟨fun ps hps=>by simp at hps,hz,.inr (.inr ⟨ad,by simp [sliced],by simp⟩)⟩
theorem Er {α:Type} {xs z:List α} {enc:α → List CP} {size bytes:Nat} {e:TypeId} {zs:List CP} {yo:Operand} {kk:IntKind} {i:Int} (ht:kV P t e size bytes zs) (h:sA xs i = some z) (hx:s.ev x = some (.b (.one (.sl size (xs.map enc))))) (hy:s.ev yo = some (.b (.one (.int kk i)))) :
  aR P E n ⟨dst,.slice t x none (some yo) none,ty,pos,after,g⟩ s (s.put n dst (.b (.one (.sl size (z.map enc))))) :=
 aR.val (o:=⟨dst,.slice t x none (some yo) none,ty,pos,after,g⟩) fun ac w hh ρ hw hs=>by
  obtain ⟨h0,h1,rfl⟩:=GK h
  obtain ⟨hu,hz,hv⟩:=(aC hs hx:(CP.sl size (xs.map enc)).rel hh _)
  obtain ⟨inf,zz,hi,hsz,_⟩:=ht.info
  have hel:P.elem t = e:=by simp [Program.elem,ht.und]
  have hund:P.underlying t = some (.slice (P.elem t)):=by rw [hel]; exact ht.und
  rcases hv with ⟨hv,he⟩ | ⟨b,o,c,hv,h3,h4,h5⟩ | ⟨ad,hv,he⟩
  ·have hxs:xs = []:=by simpa using he
   subst hxs
   have hi0:i = 0:=by simp at h1; omega
   subst hi0
   have hb:=run_slice_h (P:=P) (w:=w) (t:=t) (a:=none) (len:=0) (cap:=0) hund kk 0 (by decide) (by decide)
   refine ⟨sliced none 0 (Int.toNat 0) 0 size,?_,?_⟩
   ·simp only [execOp,hv,Option.map_some,Option.map_none,(bG hs hy).1]
    rw [Sem.run_bind,run_sliceAt_slice w t _ _ _ _ hund,hb,run_sizeOf (i:=inf) (by rw [hel]; exact hi),hsz]
    rfl
   ·exact ⟨fun ps hps=>by simp at hps,hz,.inl ⟨by simp [sliced],by simp⟩⟩
  ·have hlen:(xs.map enc).length = xs.length:=by simp
   have hb:=run_slice_h (P:=P) (w:=w) (t:=t) (a:=some ⟨b,o,none⟩) (len:=(xs.map enc).length) (cap:=c) hund kk i h0 (by rw [hlen] at h3; omega)
   refine ⟨sliced (some ⟨b,o,none⟩) 0 i.toNat c size,?_,?_⟩
   ·simp only [execOp,hv,Option.map_some,Option.map_none,(bG hs hy).1]
    rw [Sem.run_bind,run_sliceAt_slice w t _ _ _ _ hund,hb,run_sizeOf (i:=inf) (by rw [hel]; exact hi),hsz]
    rfl
   ·unfold sliced
    refine Cm (lo:=0) hz hu h5 h3 h4 ?_ (by rw [hlen]; omega) rfl (by split <;> simp [iJ])
    simp [List.map_take]
  ·have hxs:xs = []:=by simpa using he
   subst hxs
   have hi0:i = 0:=by simp at h1; omega
   subst hi0
   have hb:=run_slice_h (P:=P) (w:=w) (t:=t) (a:=some ad) (len:=0) (cap:=0) hund kk 0 (by decide) (by decide)
   refine ⟨sliced (some ad) 0 (Int.toNat 0) 0 size,?_,?_⟩
   ·simp only [execOp,hv,Option.map_some,Option.map_none,(bG hs hy).1]
    rw [Sem.run_bind,run_sliceAt_slice w t _ _ _ _ hund,hb,run_sizeOf (i:=inf) (by rw [hel]; exact hi),hsz]
    rfl
   ·exact ⟨fun ps hps=>by simp at hps,hz,.inr (.inr ⟨ad,by simp [sliced],by simp⟩)⟩
theorem FI {α:Type} {xs z:List α} {enc:α → List CP} {size bytes:Nat} {e:TypeId} {zs:List CP} {yl yo:Operand} {k1 k2:IntKind} {i j:Int} (ht:kV P t e size bytes zs) (h:Dh xs i j = some z) (hx:s.ev x = some (.b (.one (.sl size (xs.map enc))))) (hl:s.ev yl = some (.b (.one (.int k1 i)))) (hy:s.ev yo = some (.b (.one (.int k2 j)))) :
  aR P E n ⟨dst,.slice t x (some yl) (some yo) none,ty,pos,after,g⟩ s (s.put n dst (.b (.one (.sl size (z.map enc))))) :=
 aR.val (o:=⟨dst,.slice t x (some yl) (some yo) none,ty,pos,after,g⟩) fun ac w hh ρ hw hs=>by
  obtain ⟨h0,h01,h1,rfl⟩:=qU h
  obtain ⟨hu,hz,hv⟩:=(aC hs hx:(CP.sl size (xs.map enc)).rel hh _)
  obtain ⟨inf,zz,hi,hsz,_⟩:=ht.info
  have hel:P.elem t = e:=by simp [Program.elem,ht.und]
  have hund:P.underlying t = some (.slice (P.elem t)):=by rw [hel]; exact ht.und
  rcases hv with ⟨hv,he⟩ | ⟨b,o,c,hv,h3,h4,h5⟩ | ⟨ad,hv,he⟩
  ·have hxs:xs = []:=by simpa using he
   subst hxs
   have hj0:j = 0:=by simp at h1; omega
   have hi0:i = 0:=by omega
   subst hi0 hj0
   have hb:=run_slice_lh (P:=P) (w:=w) (t:=t) (a:=none) (len:=0) (cap:=0) hund k1 k2 0 0 (by decide) (by decide) (by decide)
   refine ⟨sliced none (Int.toNat 0) (Int.toNat 0) 0 size,?_,?_⟩
   ·simp only [execOp,hv,Option.map_some,Option.map_none,(bG hs hy).1,(bG hs hl).1]
    rw [Sem.run_bind,run_sliceAt_slice w t _ _ _ _ hund,hb,run_sizeOf (i:=inf) (by rw [hel]; exact hi),hsz]
    rfl
   ·exact ⟨fun ps hps=>by simp at hps,hz,.inl ⟨by simp [sliced],by simp⟩⟩
  ·have hlen:(xs.map enc).length = xs.length:=by simp
   have hb:=run_slice_lh (P:=P) (w:=w) (t:=t) (a:=some ⟨b,o,none⟩) (len:=(xs.map enc).length) (cap:=c) hund k1 k2 i j h0 h01 (by rw [hlen] at h3; omega)
   refine ⟨sliced (some ⟨b,o,none⟩) i.toNat j.toNat c size,?_,?_⟩
   ·simp only [execOp,hv,Option.map_some,Option.map_none,(bG hs hy).1,(bG hs hl).1]
    rw [Sem.run_bind,run_sliceAt_slice w t _ _ _ _ hund,hb,run_sizeOf (i:=inf) (by rw [hel]; exact hi),hsz]
    rfl
   ·unfold sliced
    refine Cm (lo:=i.toNat) hz hu h5 h3 h4 ?_ (by rw [hlen]; omega) rfl (by split <;> simp [iJ])
    have:i.toNat + (j.toNat - i.toNat) = j.toNat:=by omega
    rw [this,List.map_drop,List.map_take]
  ·have hxs:xs = []:=by simpa using he
   subst hxs
   have hj0:j = 0:=by simp at h1; omega
   have hi0:i = 0:=by omega
   subst hi0 hj0
   have hb:=run_slice_lh (P:=P) (w:=w) (t:=t) (a:=some ad) (len:=0) (cap:=0) hund k1 k2 0 0 (by decide) (by decide) (by decide)
   refine ⟨sliced (some ad) (Int.toNat 0) (Int.toNat 0) 0 size,?_,?_⟩
   ·simp only [execOp,hv,Option.map_some,Option.map_none,(bG hs hy).1,(bG hs hl).1]
    rw [Sem.run_bind,run_sliceAt_slice w t _ _ _ _ hund,hb,run_sizeOf (i:=inf) (by rw [hel]; exact hi),hsz]
    rfl
   ·exact ⟨fun ps hps=>by simp at hps,hz,.inr (.inr ⟨ad,by simp [sliced],by simp⟩)⟩
end
end Go.Sk
namespace Go.Sk
set_option linter.unusedSimpArgs false
set_option linter.unusedVariables false
open Go Go.ChangeShapes Go.WideShapes Go.ChangeAt Go.RowKit
theorem lb.arr {P:Program} {t el:TypeId} {n:Nat} {k:IntKind} {α:Type} {e:α → List CP} (g:List Int → α) (ht:P.underlying t = some (.array n el)) (hel:P.underlying el = some (.int k)) (hce:P.cellsOf el = 1) (hct:P.cellsOf t = n)
  (hl:∀ a,(e a).length = n) (hg:∀ l:List Int,l.length = n → e (g l) = l.map (.int k)):lb P t e where
 len a:=by rw [hl,hct]
 op {H enc W sp held fuel cs x} _ h:=by
  obtain ⟨xs,m,_,_,hcl,hxl,hv⟩:=DataW.trod_array ht h
  rw [hct] at hcl
  rw [hce] at hv
  obtain ⟨l,hll,hp⟩:=mM (p:=fun i z=>cs[i]? = some (.int k z) ∧ kX k z) n fun i hi=>by
   have h1:=hv i hi
   rw [List.getElem?_eq_getElem (by omega)] at h1
   obtain ⟨z,hz,_,hw⟩:=DataW.trod_int hel h1
   have h0:((cs.drop (i * 1)).take 1)[0]? = some (.int k z):=by rw [hz]; rfl
   rw [List.getElem?_take,List.getElem?_drop] at h0
   simp at h0
   exact ⟨z,h0,BM hw⟩
  refine ⟨g l,?_⟩
  rw [hg l hll]
  refine aQ.zk (by simp; omega) fun i a b ha hb=>?_
  rw [List.getElem?_map] at ha
  simp only [Option.map_eq_some_iff] at ha
  obtain ⟨z,hz,rfl⟩:=ha
  obtain ⟨h1,h2⟩:=hp i z hz
  rw [hb] at h1
  exact ⟨Option.some.inj h1,h2⟩
theorem cx.nil {h:PH} {w:World}:cx [] h w:=fun g cs hm=>by cases hm
theorem cx.cons {P:Program} {TB:aF} {W:World} {name:String} {k:IntKind} {zs:List Int} {g:Nat} (hg:P.globalNamed name = some g) (h:Lib.TabIs P W name k zs) (h0:0 < zs.length) (r:cx TB (Go.Sk.full W) W):cx ((g,zs.map fun z=>Value.int k z) :: TB) (Go.Sk.full W) W:=fun g' cs hm=>by
 rcases List.mem_cons.1 hm with e | hm
 ·obtain ⟨rfl,rfl⟩:=Prod.mk.inj e
  unfold Lib.TabIs World.var? at h
  rw [hg] at h
  simp only [Option.bind_some] at h
  split at h
  ·next cs T fz hh=>
   have:=Option.some.inj h
   subst this
   refine ⟨by simpa using h0,fun o v hv=>?_,T,fz,hh⟩
   show look W g' o = some v
   refine gR ?_ (by
    have hm:=List.mem_of_getElem? hv
    obtain ⟨z,_,rfl⟩:=List.mem_map.1 hm
    rfl)
   simp only [World.cell?,hh]
   simpa using hv
  ·simp at h
 ·exact r g' cs hm
theorem jB {P:Program} {W:World} {x:String × DataW Unit} {l:List (String × DataW Unit)} (h:laidMet P (x :: l) W):laidMet P l W:=by
 obtain ⟨ps,⟨g',t',cs,fuel,p,q,_,_,_,_,hr,rfl⟩,hn,hc⟩:=h
 exact ⟨q,hr,(List.nodup_append.1 hn).2.1,fun b off hp=>hc b off (List.mem_append_right _ hp)⟩
end Go.Sk
namespace Go.Sk
open Go Go.Proofs
section
variable {P:Program} {TB:aF} {E:Env TB} {n:Sh} {ops:Array Oper} {l:List Oper} {s:St} {Q:bF} {c:Code}
def St.only (s' s:St):St:=s.keep (s'.slots.map (·.1)) (s'.own.map (·.1))
theorem aj.aV {y:Code} (s':St) (hs:s'.only s = s') (h:ah P E n y s' Q):aj P E n ops [] s (Exit.then (y.wp P Q) Q):=aj.nilK _ _ hs h
theorem aj.aD (s':St) (hs:s'.only s = s') (h:aj P E n ops l s' Q):aj P E n ops l s Q:=aj.keep _ _ hs h
theorem ah.aD (s':St) (hs:s'.only s = s') (h:ah P E n c s' Q):ah P E n c s Q:=ah.keep _ _ hs h
theorem Fin.aD {e:Exit} (s':St) (hs:s'.only s = s') (h:Fin E n e s' Q):Fin E n e s Q:=Fin.keep _ _ hs h
theorem ah.scope (h:ah P E n c s (Exit.noGoto Q)):ah P E n (.scope c) s Q:=fun a w hr=>wp_scope_straight (h a w hr)
theorem ah.label {l:Nat} (h:Fin E n .normal s Q):ah P E n (.label l) s Q:=fun a w hr=>wp_label (h a w hr)
theorem Fin.scope (h:Fin E n .normal s Q):Fin E n .normal s (Exit.noGoto Q):=fun a w hr=>h a w hr
end
theorem cx.open1 {P:Program} {W:World} {g:Nat} {t:TypeId} {zero:Array Value} {k:IntKind}
  (h:W.ShapedOpen P) (hg:g < P.globals.size) (h0:((begin P (fun _ _=>0) default).world.heap[g]?).bind Obj.row? = some (zero,t)) (hz:zero.size = 1)
  (hb:P.buildable t = true) (hc:P.cellTypes P.depth t = some [t]) (hu:P.underlying t = some (.int k)) :
  ∃ m,∀ {TB:aF},cx TB (Go.Sk.full W) W → cx (TB ++ [(g,[.int k m])]) (Go.Sk.full W) W:=by
 obtain ⟨m,hm⟩:=cell_of_shapedOpen_int h hg h0 hz hb hc hu
 obtain ⟨cs,hh,hs,_⟩:=h.1 g zero t hg h0
 have h1:cs.size = 1:=by omega
 have hcell:cs = #[.int k m]:=by
  have:cs[0]? = some (.int k m):=by simpa [World.cell?,hh] using hm
  refine Array.ext (by simpa using h1) fun i hi hj=>?_
  have:i = 0:=by omega
  subst this
  simp_all
 refine ⟨m,fun {TB} r g' c' hm'=>?_⟩
 rcases List.mem_append.1 hm' with e | e
 ·exact r g' c' e
 ·rw [List.mem_singleton] at e
  obtain ⟨rfl,rfl⟩:=Prod.mk.inj e
  refine ⟨by simp,fun o v hv=>?_,t,_,by rw [hh,hcell]⟩
  have:o = 0 ∧ v = .int k m:=by
   cases o with
   | zero=>simp at hv; exact ⟨rfl,hv.symm⟩
   | succ o=>simp at hv
  obtain ⟨rfl,rfl⟩:=this
  exact gR hm rfl
section
variable {P:Program} {TB:aF} {E:Env TB} {n:Sh} {ops:Array Oper} {l:List Oper} {s s':St} {Q:bF} {o:Oper} {dst:Option Nat} {t ty:TypeId} {pos:String} {after:Array Edge} {g:Option (Nat × Bool)} {x:Operand}
theorem Oc (h1:aR P E n o s s') (h2:aj P E n ops l s' Q) (hg:o.guard = none:=by rfl):aj P E n ops (o :: l) s Q:=aj.cons hg h1 h2
theorem b6.p (h:aR P E n o s s') (hg:o.guard = none:=by rfl):b6 P E n ops o s s':=.plain hg h
theorem om {z:SV} (hx:s.ev x = some z:=by rfl):aR P E n ⟨dst,.move x,ty,pos,after,g⟩ s (s.put n dst z):=cE hx
theorem oa {z:SV} (hx:s.ev x = some z:=by rfl):aR P E n ⟨dst,.assign x,ty,pos,after,g⟩ s (s.put n dst z):=xk hx
theorem lp {k off:Nat} {T:TypeId} {ps qs:List CP} {m:Nat} (ht:gg P t m) (hx:s.ev x = some (.b (.ptr k off)):=by rfl) (hk:lk s.own k = some (.box T ps):=by rfl) (hp:(ps.drop off).take m = qs:=by rfl) (hq:qs.length = m:=by rfl) :
  aR P E n ⟨dst,.load t x,ty,pos,after,g⟩ s (s.put n dst (.b (.agg qs))):=tF ht hx hk hp hq
theorem Ih {j t:Nat} {b:Bool} {z:BV} (gd':Bool) (ks:List Nat) (hc:gd' = true → eI 99 ks s.slots) (h1:gd' = true → aR P E n o (s.px 99 ks) ((s.px 99 ks).put n o.dst (.b z))) (h2:aj P E n ops l (s.put n o.dst (.opt gd' z)) Q)
  (hg:o.guard = some (j,true):=by rfl) (hj:(ops[j]?).bind (·.dst) = some t:=by rfl) (hb:s.get t = some (.b (.one (.bool b))):=by rfl) (hgd:b = gd':=by rfl):aj P E n ops (o :: l) s Q :=
 aj.pA gd' 99 ks (.plain hb) ((ji _).trans hgd) hg hj hc h1 h2
theorem AT {j t:Nat} {b:Bool} {z:BV} (gd':Bool) (ks:List Nat) (hc:gd' = true → eI 99 ks s.slots) (h1:gd' = true → aR P E n o (s.px 99 ks) ((s.px 99 ks).put n o.dst (.b z))) (h2:aj P E n ops l (s.put n o.dst (.opt gd' z)) Q)
  (hg:o.guard = some (j,false):=by rfl) (hj:(ops[j]?).bind (·.dst) = some t:=by rfl) (hb:s.get t = some (.b (.one (.bool b))):=by rfl) (hgd:(!b) = gd':=by rfl):aj P E n ops (o :: l) s Q :=
 aj.pA gd' 99 ks (.plain hb) ((eq_f _).trans hgd) hg hj hc h1 h2
end
abbrev Pt (k:Nat) (o:Nat):SV:=.b (.ptr k o)
end Go.Sk
namespace Go.Sk
set_option linter.unusedSimpArgs false
set_option linter.unusedVariables false
open Go Go.BigFrame
section
variable {P:Program} {TB:aF} {E:Env TB} {n:Sh} {s:St} {dst:Option Nat} {t ty yt:TypeId} {pos:String} {after:Array Edge} {g:Option (Nat × Bool)} {x y c:Operand}
theorem CV.bvL {h:PH} {ρ:RM}:∀ {l:List CV} {vs:List Value},aQ (fun (x:CV) v=>x.rel h ρ v) l vs → aQ (fun (x:BV) v=>x.rel h ρ v) (l.map CV.bv) vs
 | _,_,.nil=>.nil
 | _,_,.cons h1 t=>.cons (CV.JE h1) (CV.bvL t)
def evCV (s:St) (x:Operand):Option CV:=(evB s x).bind BV.cv
def vv (s:St):List Operand → Option (List CV)
 | []=>some []
 | x :: l=>(evCV s x).bind fun z=>(vv s l).map fun r=>z :: r
theorem evB_rel {h:PH} {ρ:RM} {a:Act} (hs:bp h ρ s.slots a.tmps) {x:Operand} {z:BV} (hz:evB s x = some z):z.rel h ρ (a.eval x):=by
 unfold evB at hz
 split at hz
 ·rename_i z' hz'
  simp at hz; subst hz
  exact aC hs hz'
 ·simp at hz
theorem xA {h:PH} {ρ:RM} {a:Act} (hs:bp h ρ s.slots a.tmps):∀ {l:List Operand} {zs:List CV},vv s l = some zs → aQ (fun (x:CV) v=>x.rel h ρ v) zs (l.map a.eval)
 | [],zs,e=>by simp [vv] at e; subst e; exact .nil
 | x :: l,zs,e=>by
  unfold vv at e
  simp only [Option.bind_eq_some_iff,Option.map_eq_some_iff] at e
  obtain ⟨z,hz,r,hr,rfl⟩:=e
  unfold evCV at hz
  simp only [Option.bind_eq_some_iff] at hz
  obtain ⟨q,hq,hz⟩:=hz
  exact .cons (BV.Jw hz (evB_rel hs hq)) (xA hs hr)
theorem eg {f:FuncId} {xs ys:Array Operand} {fs cs:List CV} (hf:vv s xs.toList = some fs) (hc:vv s ys.toList = some cs) :
  aR P E n ⟨dst,.makeFunc (.func f) xs ys,ty,pos,after,g⟩ s (s.put n dst (.b (.cD f fs cs))) :=
 aR.val (o:=⟨dst,.makeFunc (.func f) xs ys,ty,pos,after,g⟩) fun ac w h ρ hw hs=>by
  refine ⟨.func (.func f) (xs.map ac.eval) (ys.map ac.eval),by simp [execOp,Instr.makeFunc],_,_,rfl,?_,?_⟩
  ·simpa using xA hs hf
  ·simpa using xA hs hc
theorem vf {o:Oper} {f:FuncId} {own_a:List (Nat × OC)} {args:List BV} {post:dQ} (hspec:aG P TB f own_a args post)
  (hrun:∀ (a:Act) (w:World) (h:PH) (ρ:RM),WR E n s.own h ρ w → bp h ρ s.slots a.tmps → ∃ vals:List Value,(execOp a.eval o).run P w = .ok (.enter f vals.toArray) w ∧ aQ (fun (x:BV) v=>x.rel h ρ v) args vals)
  (hl:fE s.own own_a) {a:Act} {w:World} (hr:R E n s a w) {next:Act → World → Prop} {Q:bF}
  (hnext:∀ own' res,post own' res → gD n own_a own' = true ∧ hJ s.own own_a own' = true ∧ res.bm own' = true ∧ ∀ a' w',R E n (s.aft n own_a own' o.dst res) a' w' → next a' w'):o.wp P a w next Q:=by
 obtain ⟨hdf,hn,h,ρ,hw,hs⟩:=hr
 obtain ⟨vals,hr0,hra⟩:=hrun a w h ρ hw hs
 unfold Oper.wp
 rw [hr0]
 show Calls P f _ w _
 have hla:=kN hl
 refine (hspec w h ρ _ hw.aw hw.agree (tu hw hla (jA hl)) hra).mono ?_
 rintro e w' ⟨v,own',res,h',ρ',rfl,hp,hc,hres⟩
 obtain ⟨hok,hcl,hki,hnx⟩:=hnext own' res hp
 have hwc:=hw.call hla hc hok hcl
 refine hnx _ _ (R.put (s:=⟨jm own_a own' s.slots,bL own' (dv own_a s.own)⟩) hdf hn hwc ?_ ?_)
 ·intro k x hx
  obtain ⟨h1,h2⟩:=mS hx
  obtain ⟨u,hu,hrel⟩:=hs k x h1
  refine ⟨u,hu,SV.mono hc.le (fun j hj=>?_) hrel⟩
  by_cases hin:j ∈ ai own'
  ·rw [jn hin]
   by_cases hia:j ∈ aq own_a
   ·exact hc.fixed j hia
   ·have:=h2 j hin hia; simp [this] at hj
  ·exact j4 hin
 ·exact SV.mono (PH.le_refl _) (fun j hj=>jn (SV.cw hki hj)) hres
theorem kP {α β:Type} {r:α → β → Prop} {a:List α} {b:List β} {c:List α} {d:List β} (h:aQ r a b) (h':aQ r c d):aQ r (a ++ c) (b ++ d):=h.append h'
theorem sH {f:FuncId} {fs cs:List CV} {own_a own':List (Nat × OC)} {args zs:List BV} {xs:Array Operand} {ats:Array TypeId} {res:SV} (hspec:aG P TB f own_a args (Is own' res)) (hf:dw P f) (hx:s.ev x = some (.b (.cD f fs cs))) (ha:gI s xs.toList = some zs)
  (hz:fs.map CV.bv ++ zs ++ cs.map CV.bv = args) (hl:fE s.own own_a)
  (hok:gD n own_a own' = true) (hki:res.bm own' = true) (hcl:hJ s.own own_a own' = true:=by rfl):aR P E n ⟨dst,.call ⟨.value x,xs,ats⟩,ty,pos,after,g⟩ s (s.aft n own_a own' dst res) :=
 fun _ _ hr _ _ hnext=>vf hspec (fun a w h ρ hw hs=>by
  obtain ⟨va,vb,hv,h1,h2⟩:=(aC hs hx:BV.rel h ρ (.cD f fs cs) _)
  refine ⟨va.toList ++ xs.toList.map a.eval ++ vb.toList,?_,?_⟩
  ·have e1:execOp a.eval ⟨dst,.call ⟨.value x,xs,ats⟩,ty,pos,after,g⟩ = (do let d ← Deferred.ofValue (a.eval x) (xs.map a.eval); invoke d.target d.args):=rfl
   rw [e1,hv]
   have e2:(do let d ← Deferred.ofValue (.func (.func f) va vb) (xs.map a.eval); invoke d.target d.args:Sem Next) = callFunc f (va ++ xs.map a.eval ++ vb):=rfl
   rw [e2,hf.run]
   congr 2
   apply Array.ext'
   simp
  ·rw [← hz]
   exact kP (kP (CV.bvL h1) (mE hs ha)) (CV.bvL h2)) hl hr fun _ _ hp=>by
  obtain ⟨rfl,rfl⟩:=hp
  exact ⟨hok,hcl,hki,hnext⟩
end
end Go.Sk
namespace Go.Sk
set_option linter.unusedSimpArgs false
set_option linter.unusedVariables false
open Go Go.BigFrame
structure TyMap (P:Program) (t kt et:TypeId) (kd:IntKind) (z:CP):Prop where
 und:P.underlying t = some (.map kt et)
 key:P.underlying kt = some (.int kd)
 zero:∃ i v,P.info? et = some i ∧ i.zero = some v ∧ ∀ h,z.rel h v
section
variable {P:Program} {TB:aF} {E:Env TB} {n:Sh} {s:St} {dst:Option Nat} {t ty yt:TypeId} {pos:String} {after:Array Edge} {g:Option (Nat × Bool)} {x y c:Operand}
theorem zR {h:PH} {ρ:RM} {own:List (Nat × OC)} {w:World} (hw:WR E n own h ρ w) {k:Nat} {es:List (CP × BV)} (hk:lk own k = some (.mp es)) :
  ∃ b ms clk,ρ k = .map (some b) ∧ w.heap[b]? = some (.map ms clk) ∧ pF h ρ es ms.toList ∧ zw clk ms.toList:=(hw.owned k _ (bh hk)).1
theorem nK {w:World} {kt:TypeId} {d:TypeDesc} (hd:P.underlying kt = some d) {k:Value} {es:List MapEntry} {r:Option (Nat × Value)} (hf:Instr.findNow d k es 0 = some r):(Instr.findKey kt k es).run P w = .ok r w:=by
 unfold Instr.findKey
 simp [Sem.run_bind,run_underlying hd,Result.andThen,hf]
theorem xG {w:World} {kt:TypeId} {kd:IntKind} (hd:P.underlying kt = some (.int kd)) (k:Int) (e:Bool) (m:Nat):(Instr.checkKey e (m + 1) kt (.int kd k)).run P w = .ok () w:=by
 unfold Instr.checkKey
 simp [Sem.run_bind,run_underlying hd,Result.andThen]
theorem DL {w:World} {et:TypeId} {i:TypeInfo} {v:Value} (hi:P.info? et = some i) (hz:i.zero = some v):(zeroValue et).run P w = .ok v w:=by
 simp [zeroValue,typeInfo,hi,hz]
theorem u0 {kt et:TypeId} {k:Nat} (hu:P.underlying t = some (.map kt et)) (hfx:n.fix.contains k = false) (hnu:di k s.own = true:=by rfl) :
  aR P E n ⟨dst,.makeMap t none,ty,pos,after,g⟩ s ((⟨cn k s.slots,ins k (.mp []) s.own⟩:St).put n dst (.b (.row k))) :=
 aR.make (hfx:=hfx) (hnu:=hnu) (o:=⟨dst,.makeMap t none,ty,pos,after,g⟩) fun ac w h ρ hw hs=>by
  refine ⟨.map (some w.heap.size),.map (some w.heap.size),w.alloc (.map #[] 0),none,?_,fun b e=>by simp at e,by simp,rfl,rfl,fun b hb _=>heap_alloc_old w _ hb,⟨w.heap.size,#[],0,rfl,heap_alloc_new w _,.nil,fun e he=>by simp at he,by simp⟩,
   fun b e=>by simp [aZ] at e; subst e; exact .inr (Nat.le_refl _),(cG _ _ _).symm⟩
  simp [execOp,Instr.makeMap,newObj,Sem.run,Result.andThen]
theorem WR.setMap {h:PH} {ρ:RM} {own:List (Nat × OC)} {w:World} (hw:WR E n own h ρ w) {k b:Nat} {es es':List (CP × BV)} {ms ms':Array MapEntry} {clk clk':Nat} (hk:lk own k = some (.mp es)) (hρ:ρ k = .map (some b))
  (hb:w.heap[b]? = some (.map ms clk)) (hr:pF h ρ es' ms'.toList) (ho:zw clk' ms'.toList):WR E n (ins k (.mp es') own) h ρ { w with heap:=w.heap.setIfInBounds b (.map ms' clk') }:=by
 have hlt:b < w.heap.size:=by
  rcases Nat.lt_or_ge b w.heap.size with h | h
  ·exact h
  ·simp [Array.getElem?_eq_none h] at hb
 have hst:=hw.step (w':={ w with heap:=w.heap.setIfInBounds b (.map ms' clk') }) k (ρ k) (.mp es') (some b) (fun b' e=>by cases e; exact ⟨_,bh hk,by rw [hρ]; rfl⟩) (by simp) rfl rfl
  (fun b' _ hne=>by
   have:b ≠ b':=fun e=>hne (by rw [e])
   simp [Array.getElem?_setIfInBounds,this]) ⟨b,ms',clk',hρ,by simp [Array.getElem?_setIfInBounds,hlt],by rw [oM]; exact hr,ho⟩ (fun b' hb'=>by rw [hρ] at hb'; simp [aZ] at hb'; exact .inl (by rw [hb'])) (.inl rfl) (.inl rfl)
 have:oy ρ k (ρ k) = ρ:=by funext j; simp only [oy]; split <;> simp_all
 rwa [this] at hst
end
end Go.Sk
namespace Go.Sk
set_option linter.unusedSimpArgs false
set_option linter.unusedVariables false
open Go Go.BigFrame
section
variable {P:Program} {TB:aF} {E:Env TB} {n:Sh} {s s':St} {dst:Option Nat} {t ty yt:TypeId} {pos:String} {after:Array Edge} {g:Option (Nat × Bool)} {x y c:Operand} {ops:Array Oper} {l:List Oper} {Q:bF} {a b:Code}
theorem aj.ite {α:Type} {d:Bool} {A B:Option α} {r:α} (h:(if d = true then A else B) = some r) (h1:d = true → A = some r → aj P E n ops l s Q) (h2:d = false → B = some r → aj P E n ops l s Q):aj P E n ops l s Q:=by
 cases d
 ·exact h2 rfl h
 ·exact h1 rfl h
theorem ah.condT {k:Nat} (hs:s.get k = some (.b (.one (.bool true)))) (h:ah P E n a s Q):ah P E n (.cond (.tmp k) a b) s Q:=ah.cond hs (fun _=>h) (fun e=>by cases e)
theorem ah.condF {k:Nat} (hs:s.get k = some (.b (.one (.bool false)))) (h:ah P E n b s Q):ah P E n (.cond (.tmp k) a b) s Q:=ah.cond hs (fun e=>by cases e) (fun _=>h)
theorem CU {f:FuncId}:aR P E n ⟨dst,.makeFunc (.func f) #[] #[],ty,pos,after,g⟩ s (s.put n dst (.b (.one (.raw (.func (.func f) #[] #[]))))) :=
 aR.val (o:=⟨dst,.makeFunc (.func f) #[] #[],ty,pos,after,g⟩) fun ac w h ρ hw hs=>⟨.func (.func f) #[] #[],by simp [execOp,Instr.makeFunc],rfl,rfl⟩
theorem Ey {e:TypeId} {m:Nat} {ps:List CP} {p:CP} {k:IntKind} {i:Int} (ht:k7 P t e m 1) (h1:cS P e) (hx:s.ev x = some (.b (.agg ps))) (hy:s.ev y = some (.b (.one (.int k i)))) (h0:0 ≤ i) (hi:i < m) (hp:ps[i.toNat]? = some p) :
  aR P E n ⟨dst,.index t x y,ty,pos,after,g⟩ s (s.put n dst (.b (.one p))) :=
 aR.val (o:=⟨dst,.index t x y,ty,pos,after,g⟩) fun ac w h ρ hw hs=>by
  obtain ⟨cs,hv,ha⟩:=(aC hs hx:BV.rel h ρ (.agg ps) _)
  obtain ⟨u,hu,hr⟩:=ha.get _ p hp
  have hcu:cs[i.toNat * 1]? = some u:=by rw [Nat.mul_one]; simpa using hu
  obtain ⟨inf,hin,hsz⟩:=ht.info
  refine ⟨u,?_,hr⟩
  have hpt:=jv h1 (A:=cs) (off:=i.toNat * 1) (v:=u) hcu w
  simp only [execOp,hv,(bG hs hy).1]
  simp [Instr.index,run_underlying ht.und,asIntOf,h0,hi,sizeOf,typeInfo,hin,hsz] at hpt ⊢
  simp [hpt]
theorem Ex {e:TypeId} {m size:Nat} {ps qs:List CP} {k:IntKind} {i:Int} (ht:k7 P t e m size) (h1:gg P e size) (hx:s.ev x = some (.b (.agg ps))) (hy:s.ev y = some (.b (.one (.int k i)))) (h0:0 ≤ i) (hi:i < m) (hq:(ps.drop (i.toNat * size)).take size = qs) :
  aR P E n ⟨dst,.index t x y,ty,pos,after,g⟩ s (s.put n dst (.b (.agg qs))) :=
 aR.val (o:=⟨dst,.index t x y,ty,pos,after,g⟩) fun ac w h ρ hw hs=>by
  obtain ⟨cs,hv,ha⟩:=(aC hs hx:BV.rel h ρ (.agg ps) _)
  obtain ⟨inf,hin,hsz⟩:=ht.info
  have hr:aA h qs ((cs.toList.drop (i.toNat * size)).take size):=by rw [← hq]; exact aQ.take (aQ.drop ha _) size
  have hex:(cs.extract (i.toNat * size) (i.toNat * size + size)).toList = (cs.toList.drop (i.toNat * size)).take size:=by simp [List.take_drop]
  refine ⟨.agg (cs.extract (i.toNat * size) (i.toNat * size + size)),?_,_,rfl,by rw [hex]; exact hr⟩
  have hpt:=jw h1 (A:=cs) (off:=i.toNat * size) w
  simp only [execOp,hv,(bG hs hy).1]
  simp [Instr.index,run_underlying ht.und,asIntOf,h0,hi,sizeOf,typeInfo,hin,hsz] at hpt ⊢
  simp [hpt]
theorem D3 {α:Type} {e:α → List CP} {sz:Nat} (hu:∀ x,(e x).length = sz) {z:α}:∀ {xs:List α} {i:Nat},xs[i]? = some z → ((xs.map e).flatten.drop (i * sz)).take sz = e z
 | [],i,h=>by simp at h
 | a :: xs,0,h=>by
  have e1:a = z:=by simpa using h
  subst e1
  rw [Nat.zero_mul,List.drop_zero,List.map_cons,List.flatten_cons,List.take_left' (hu a)]
 | a :: xs,i + 1,h=>by
  have h1:xs[i]? = some z:=by simpa using h
  have e1:(i + 1) * sz = (e a).length + i * sz:=by rw [hu a,Nat.add_mul]; omega
  rw [List.map_cons,List.flatten_cons,e1,← List.drop_drop,List.drop_left]
  exact D3 hu h1
theorem Cv {α:Type} [Inhabited α] {xs:List α} {e:α → List CP} {sz:Nat} (hu:∀ x,(e x).length = sz) {i:Int} {z:α} (h:aH xs i = some z):((xs.map e).flatten.drop (i.toNat * sz)).take sz = e z:=D3 hu (oL h)
end
end Go.Sk
namespace Go.Sk
set_option linter.unusedSimpArgs false
set_option linter.unusedVariables false
open Go Go.ChangeShapes Go.WideShapes Go.ChangeAt Go.RowKit
def zh {H:Type}:Nat → DataW H → List Value
 | _,.lit (.int k n)=>[.int k n]
 | _,.lit (.string l)=>[.string ⟨⟨l⟩⟩]
 | n + 1,.agg ds=>(ds.map (zh n)).flatten
 | _,_=>[]
structure iG (P:Program) (t:TypeId) (n:Nat):Prop where
 op:∀ {H:Type} {enc:TypeId × Value → H} {W:World} {sp:Nat → Bool} {held:Bool} {fuel:Nat} {cs:List Value} {x:DataW H × List MemPlace},DataW.trod enc P W 0 sp held fuel t cs = some x → zh n x.1 = cs
theorem iG.int {P:Program} {t:TypeId} {k:IntKind} {n:Nat} (ht:P.underlying t = some (.int k)):iG P t n where
 op h:=by obtain ⟨m,rfl,rfl,_⟩:=DataW.trod_int ht h; cases n <;> rfl
theorem iG.str {P:Program} {t:TypeId} {n:Nat} (ht:P.underlying t = some .string):iG P t n where
 op h:=by
  obtain ⟨s,rfl,rfl,_⟩:=DataW.trod_string ht h
  cases s with | mk d=>cases d; cases n <;> rfl
inductive w7 (P:Program) (fs:Array Field) (T d:Nat):Nat → Nat → Prop where
 | nil {i:Nat} (hi:fs.size ≤ i):w7 P fs T d i T
 | cons {i o:Nat} {f:Field} (hf:fs[i]? = some f) (ho:f.offset = o) (hr:iG P f.type d) (h:w7 P fs T d (i + 1) (o + P.cellsOf f.type)):w7 P fs T d i o
theorem w7.op {P:Program} {fs:Array Field} {T d i o:Nat} (h:w7 P fs T d i o) {H:Type} {enc:TypeId × Value → H} {W:World} {sp:Nat → Bool} {held:Bool} {n:Nat} {cs:List Value} {xs:List (DataW H × List MemPlace)} (hl:cs.length = T)
  (hx:xs.length = fs.size) (hv:∀ (j:Nat) (f:Field),fs[j]? = some f → DataW.trod enc P W 0 sp held n f.type ((cs.drop f.offset).take (P.cellsOf f.type)) = xs[j]?):((xs.drop i).map fun x=>zh d x.1).flatten = cs.drop o:=by
 induction h with
 | nil hi=>rw [List.drop_of_length_le (by omega),List.drop_of_length_le (by omega)]; rfl
 | @cons i o f hf ho hr h ih=>
  have hi:i < xs.length:=by
   rw [hx]
   exact (Array.getElem?_eq_some_iff.1 hf).1
  have h1:=hv i f hf
  rw [List.getElem?_eq_getElem hi] at h1
  have h2:=hr.op h1
  rw [List.drop_eq_getElem_cons hi,List.map_cons,List.flatten_cons,ih,h2,ho,← List.drop_drop,List.take_append_drop]
theorem iG.struct {P:Program} {t:TypeId} {fs:Array Field} (ht:P.underlying t = some (.struct fs)) {d:Nat} (h:w7 P fs (P.cellsOf t) d 0 0):iG P t (d + 1) where
 op hd:=by
  obtain ⟨xs,m,_,rfl,hl,hlen,hf⟩:=DataW.trod_struct ht hd
  have:=h.op (xs:=xs) hl hlen hf
  simp only [zh,List.map_map]
  rw [List.drop_zero,List.drop_zero] at this
  exact this
theorem Ed {sz:Nat}:∀ {n:Nat} {cs:List Value},cs.length = n * sz → ((List.range n).map fun i=>(cs.drop (i * sz)).take sz).flatten = cs
 | 0,cs,h=>by
  rw [Nat.zero_mul] at h
  rw [List.length_eq_zero_iff.1 h]; rfl
 | n + 1,cs,h=>by
  have h2:(cs.drop sz).length = n * sz:=by rw [List.length_drop,h,Nat.add_mul]; omega
  have ih:=Ed h2
  rw [List.range_succ_eq_map,List.map_cons,List.flatten_cons,Nat.zero_mul,List.drop_zero,List.map_map]
  have e:((fun i=>(cs.drop (i * sz)).take sz) ∘ Nat.succ) = fun i=>((cs.drop sz).drop (i * sz)).take sz:=by
   funext i
   simp only [Function.comp,List.drop_drop,Nat.succ_mul,Nat.add_comm sz]
  rw [e,ih,List.take_append_drop]
theorem iG.arr {P:Program} {t e:TypeId} {n d:Nat} (ht:P.underlying t = some (.array n e)) (hc:P.cellsOf t = n * P.cellsOf e) (he:iG P e d):iG P t (d + 1) where
 op {H enc W sp held fuel cs x} h:=by
  cases fuel with
  | zero=>simp [DataW.trod] at h
  | succ fuel=>
   simp only [DataW.trod,ht] at h
   split at h
   ·rename_i hl
    obtain ⟨xs,hm,rfl⟩:=Option.map_eq_some_iff.1 h
    have hxl:xs.length = n:=by simpa using Lib.mapM_length hm
    simp only [zh,List.map_map]
    have e1:(xs.map (zh d ∘ fun x=>x.1)) = (List.range n).map fun i=>(cs.drop (i * P.cellsOf e)).take (P.cellsOf e):=by
     refine List.ext_getElem? fun i=>?_
     by_cases hi:i < n
     ·obtain ⟨b,hb,hf⟩:=Lib.mapM_at hm i i (by simp [hi])
      rw [List.getElem?_map,hb,List.getElem?_map,List.getElem?_range hi]
      simp only [Option.map_some,Function.comp]
      rw [he.op hf]
     ·rw [List.getElem?_eq_none (by simp; omega),List.getElem?_eq_none (by simp; omega)]
    rw [e1,Ed (by rw [hl,hc])]
   ·cases h
theorem cx.consV {P:Program} {TB:aF} {W:World} {name:String} {d:DataW Unit} {rest:List (String × DataW Unit)} {cs:List Value} {g n:Nat} {t:TypeId} (hg:P.globalNamed name = some g) (hty:(P.globals[g]?).map (·.type) = some t) (ht:iG P t n) (h:laidMet P ((name,d) :: rest) W) (hd:zh n d = cs) (h0:0 < cs.length) (r:cx TB (Go.Sk.full W) W) (hone:cs.all (·.oneCell') = true:=by decide):cx ((g,cs) :: TB) (Go.Sk.full W) W:=fun g' cs' hm=>by
 rcases List.mem_cons.1 hm with e | hm
 ·obtain ⟨rfl,rfl⟩:=Prod.mk.inj e
  obtain ⟨ps,⟨g2,t',vs,fuel,p,q,hg',ht',hvar,hdd,_,_⟩,_⟩:=h
  obtain rfl:=Option.some.inj (hg.symm.trans hg')
  obtain rfl:=Option.some.inj (hty.symm.trans ht')
  have e2:=ht.op hdd
  rw [hd] at e2
  unfold World.var? at hvar
  rw [hg] at hvar
  simp only [Option.bind_some] at hvar
  split at hvar
  ·next cs T fz hh=>
   have:=Option.some.inj hvar
   subst this
   subst e2
   refine ⟨h0,fun o v hv=>?_,T,fz,by simpa using hh⟩
   show look W _ o = some v
   refine gR ?_ (List.all_eq_true.1 hone v (List.mem_of_getElem? hv))
   simp only [World.cell?,hh]
   simpa using hv
  ·simp at hvar
 ·exact r g' cs' hm
end Go.Sk
namespace Go.Sk
set_option linter.unusedSimpArgs false
set_option linter.unusedVariables false
open Go Go.BigFrame
variable {P:Program} {TB:aF} {E:Env TB} {n:Sh} {s:St} {dst:Option (Nat)} {t ty:TypeId} {pos:String} {after:Array Edge} {g:Option (Nat × Bool)} {x y:Operand}
theorem xU {size f:Nat} {qs:List CP} (hf:f + qs.length ≤ size):∀ {es:List (List CP)},cb size es → ∀ (i:Nat) (ps:List CP),es[i]? = some ps → aN es.flatten (i * size + f) qs = (es.set i (aN ps f qs)).flatten
 | [],_,i,ps,h=>by simp at h
 | p :: es,hu,0,ps,h=>by
  have hp:p.length = size:=hu p (by simp)
  simp at h; subst h
  simp only [aN,Nat.zero_mul,Nat.zero_add,List.set_cons_zero,List.flatten_cons]
  rw [List.take_append_of_le_length (by omega),List.drop_append_of_le_length (by omega)]
  simp [List.append_assoc]
 | p :: es,hu,i + 1,ps,h=>by
  have hp:p.length = size:=hu p (by simp)
  have ih:=xU hf (es:=es) (fun q hq=>hu q (by simp [hq])) i ps (by simpa using h)
  have e:(i + 1) * size + f = p.length + (i * size + f):=by rw [Nat.add_mul,hp]; omega
  simp only [aN,List.flatten_cons,List.set_cons_succ] at ih ⊢
  rw [← ih,e,Nat.add_assoc,List.take_length_add_append,List.drop_length_add_append]
  simp [List.append_assoc]
theorem rW {h:PH} {ρ:RM} {w:World} (hw:WR E n s.own h ρ w) {k i f m size:Nat} {T:TypeId} {es:List (List CP)} {ps qs:List CP} {u:Value} {b mm q:Nat} {inf:TypeInfo} (hi:P.info? t = some inf) (hm:inf.size = m) (hk:lk s.own k = some (.row T size es))
  (he:ρ k = .slice (some ⟨b,0,none⟩) mm q) (hps:es[i]? = some ps) (hf:f + m ≤ size) (hcr:aA h qs u.cells.toList) (hq:qs.length = m) :
  ∃ w',(storeVar t ⟨b,i * size + f,none⟩ u).run P w = .ok () w' ∧ WR E n (ins k (.row T size (es.set i (aN ps f qs))) s.own) h ρ w':=by
 obtain ⟨hu,hz,cap,cur,h1,h2,h3,h4,h5,h6⟩:=vN hw hk he
 have hlt:=(List.getElem?_eq_some_iff.1 hps).1
 have hpl:ps.length = size:=hu ps (List.mem_of_getElem? hps)
 have hl:=hcr.length
 simp only [Array.length_toList] at hl
 have hle:(i + 1) * size ≤ es.length * size:=Nat.mul_le_mul_right _ hlt
 rw [Nat.add_mul] at hle
 have hcap:es.length * size ≤ cap * size:=Nat.mul_le_mul_right _ h3
 have hrun:=ju (P:=P) (t:=t) hi hm h2 (v:=u) (o:=i * size + f) (by omega) (by omega) hcr.one
 refine ⟨_,hrun,?_⟩
 have hspl:(aN cur.toList (i * size + f) u.cells.toList).length = cur.size:=by simp [aN]; omega
 have hst:=hw.step (w':=w.setRow b (aN cur.toList (i * size + f) u.cells.toList).toArray) k (ρ k) (.row T size (es.set i (aN ps f qs))) (some b) (fun b' e=>by cases e; exact ⟨_,bh hk,by rw [he]; rfl⟩) (by simp) rfl rfl
  (fun b' _ hne=>setRow_other _ _ _ _ (fun e=>hne (by rw [e]))) ?_ (fun b' hb'=>by rw [he] at hb'; simp [aZ] at hb'; exact .inl (by rw [hb'])) (.inl rfl) (.inl rfl)
 ·have:oy ρ k (ρ k) = ρ:=by funext j; simp only [oy]; split <;> simp_all
  rwa [this] at hst
 ·have hu':cb size (es.set i (aN ps f qs)):=fun p hp=>by
   rcases List.mem_or_eq_of_mem_set hp with h | h
   ·exact hu p h
   ·rw [h]; simp [aN]; omega
  refine ⟨hu',hz,_,⟨?_,.inr ⟨b,cap,(aN cur.toList (i * size + f) u.cells.toList).toArray,by rw [h1,List.length_set],Nat.zero_le _,setRow_heap _ _ _ _ _ _ h2,by rw [List.length_set]; exact h3,h4,by simp [hspl,h5],rfl⟩⟩,?_⟩
  ·simp only [List.length_take,List.length_set,hspl]; omega
  ·rw [List.length_set,← xU (by omega) hu i ps hps]
   have e1:(aN cur.toList (i * size + f) u.cells.toList).take (es.length * size) = aN (cur.toList.take (es.length * size)) (i * size + f) u.cells.toList:=by
    simp only [aN,Array.length_toList]
    rw [List.take_append,List.take_append]
    simp only [List.length_take,List.length_append,Array.length_toList]
    rw [List.take_take,List.take_take,List.take_of_length_le (l:=u.cells.toList) (by simp; omega),List.drop_take]
    congr 1
    ·congr 2
     omega
    ·congr 1
     omega
   rw [e1]
   exact aQ.aN h6 hcr _
theorem En {k o i f m size:Nat} {T:TypeId} {es es':List (List CP)} {ps qs:List CP} (ht:gg P t m) (hx:s.ev x = some (.b (.gh k o))) (hk:lk s.own k = some (.row T size es)) (hy:s.ev y = some (.b (.agg qs))) (ho:o = i * size + f) (hi:es[i]? = some ps) (hf:f + m ≤ size) (he:es.set i (aN ps f qs) = es')
  (hq:qs.length = m:=by rfl) :
  aR P E n ⟨none,.store t x y,ty,pos,after,g⟩ s ⟨s.slots,ins k (.row T size es') s.own⟩ :=
 aR.store (o:=⟨none,.store t x y,ty,pos,after,g⟩) rfl fun ac w h ρ hw hs=>by
  obtain ⟨b,mm,q,hρ,hv⟩:=(aC hs hx:BV.rel h ρ (.gh k o) _)
  obtain ⟨cs,hcv,hcr⟩:=(aC hs hy:BV.rel h ρ (.agg qs) _)
  obtain ⟨i',hi',hm⟩:=ht.size
  obtain ⟨w',hrun,hwr⟩:=rW hw (u:=.agg cs) hi' hm hk hρ hi hf hcr hq
  subst he
  refine ⟨w',?_,hwr⟩
  simp only [execOp,hv,hcv,Instr.storeAt,Instr.sureAddr,ho]
  simp [hrun]
theorem CO {k o i f size:Nat} {T:TypeId} {es es':List (List CP)} {ps:List CP} {p:CP} (ht:cS P t) (hx:s.ev x = some (.b (.gh k o))) (hk:lk s.own k = some (.row T size es)) (hy:s.ev y = some (.b (.one p))) (ho:o = i * size + f) (hi:es[i]? = some ps) (hf:f < size) (he:es.set i (aN ps f [p]) = es') :
  aR P E n ⟨none,.store t x y,ty,pos,after,g⟩ s ⟨s.slots,ins k (.row T size es') s.own⟩ :=
 aR.store (o:=⟨none,.store t x y,ty,pos,after,g⟩) rfl fun ac w h ρ hw hs=>by
  obtain ⟨b,mm,q,hρ,hv⟩:=(aC hs hx:BV.rel h ρ (.gh k o) _)
  have hp:p.rel h (ac.eval y):=aC hs hy
  have h1:=p.one hp
  have hcells:(ac.eval y).cells = #[ac.eval y]:=by cases hq:ac.eval y <;> first | rfl | (rw [hq] at h1; simp [Value.oneCell'] at h1)
  obtain ⟨i',hi',hm⟩:=ht.size
  obtain ⟨w',hrun,hwr⟩:=rW hw (u:=ac.eval y) (qs:=[p]) (f:=f) (m:=1) hi' hm hk hρ hi (by omega) (by rw [hcells]; exact .cons hp .nil) rfl
  subst he
  refine ⟨w',?_,hwr⟩
  simp only [execOp,hv,Instr.storeAt,Instr.sureAddr,ho]
  simp [hrun]
theorem Reads.take {h:PH} {b o:Nat} {ps:List CP} (x:Reads h b o ps) (n:Nat):Reads h b o (ps.take n):=by
 intro j c hc
 rw [List.getElem?_take] at hc
 split at hc
 ·exact x j c hc
 ·cases hc
theorem Ew {e:TypeId} {m size:Nat} {ps qs:List CP} {k:IntKind} {i:Int} (ht:k7 P t e m size) (h0:0 ≤ i) (h1:i < m) (hx:s.ev x = some (.b (.jY ps))) (hy:s.ev y = some (.b (.one (.int k i)))) (hq:(ps.drop (i.toNat * size)).take size = qs) :
  aR P E n ⟨dst,.indexAddr t x y,ty,pos,after,g⟩ s (s.put n dst (.b (.jY qs))) :=
 aR.val (o:=⟨dst,.indexAddr t x y,ty,pos,after,g⟩) fun ac w h ρ hw hs=>by
  obtain ⟨b,o,hv,hr⟩:=(aC hs hx:BV.rel h ρ (.jY ps) _)
  obtain ⟨inf,hi,hsz⟩:=ht.info
  refine ⟨.pointer (some ⟨b,o + i.toNat * size,none⟩),?_,b,o + i.toNat * size,rfl,?_⟩
  ·simp only [execOp,hv,(bG hs hy).1]
   simp [nJ ht.und hi hsz w b o k i h0 h1]
  ·rw [← hq]; exact (hr.drop _).take _
theorem ah.condTc {a b:Code} {Q:bF} (h:ah P E n a s Q):ah P E n (.cond (.const (.bool true)) a b) s Q:=fun ac w hr=>wp_cond_true rfl (h ac w hr)
theorem ah.condFc {a b:Code} {Q:bF} (h:ah P E n b s Q):ah P E n (.cond (.const (.bool false)) a b) s Q:=fun ac w hr=>wp_cond_false rfl (h ac w hr)
end Go.Sk
namespace Go.Sk
set_option linter.unusedSimpArgs false
set_option linter.unusedVariables false
open Go Go.BigFrame Go.RowKit Go.Proofs Go.Shelf
variable {P:Program} {TB:aF} {ρ:Ren}
theorem DG {own:List (Nat × OC)} {w:World} {h:PH} {ρ:RM} (tb:cx TB h w) (hag:oI h w) (hl:B9 own h ρ w):WR (⟨w,h,ρ,tb⟩:Env TB) ⟨0,aq own,ai own,[]⟩ own h ρ w:=by
 refine ⟨hag,PH.le_refl h,fun _ _ _=>rfl,Nat.le_refl _,fun _ _ _=>rfl,fun _ _=>rfl,rfl,rfl,?_,?_⟩
 ·rintro b ⟨k,hk,hb⟩ o
  obtain ⟨⟨k',c⟩,hm',rfl⟩:=List.mem_map.1 hk
  exact ((hl k' c hm').2.1 b (.inl hb)).2 o
 ·intro k c hc
  obtain ⟨h1,h3,h4⟩:=hl k c hc
  exact ⟨h1,fun b hb=>⟨.inr ⟨k,List.mem_map.2 ⟨(k,c),hc,rfl⟩,(h3 b hb).1⟩,(h3 b hb).2⟩,h4⟩
end Go.Sk
namespace Go.Sk
set_option linter.unusedSimpArgs false
set_option linter.unusedVariables false
open Go Go.BigFrame
abbrev MapI:=List (Int × Int)
variable {P:Program} {TB:aF} {E:Env TB} {n:Sh} {s:St} {dst:Option Nat} {t ty yt:TypeId} {pos:String} {after:Array Edge} {g:Option (Nat × Bool)} {x y c:Operand}
end Go.Sk
namespace Go.Sk
set_option linter.unusedSimpArgs false
set_option linter.unusedVariables false
open Go Go.BigFrame
variable {P:Program} {TB:aF} {E:Env TB} {n:Sh} {s:St} {dst:Option Nat} {t ty yt:TypeId} {pos:String} {after:Array Edge} {g:Option (Nat × Bool)} {x y c:Operand} {ops:Array Oper} {l:List Oper} {Q:bF} {cd:Code}
end Go.Sk
namespace Go.Sk
set_option linter.unusedSimpArgs false
set_option linter.unusedVariables false
open Go Go.BigFrame
def uh (o:Oper):Bool:=match o.op with
 | .defer _=>false
 | _=>true
theorem J' {o:Oper} (h:uh o = true):∀ c,o.op ≠ .defer c:=fun c e=>by simp [uh,e] at h
abbrev rnd (l:Nat):Fence:=Fence.wide.inRound l
section
variable {P:Program} {TB:aF} {E:Env TB} {n:Sh} {ops:Array Oper} {is:List Nat} {s s':St} {Q:bF} {i:Nat} {o:Oper} {c x y:Code} {l₀:Nat}
theorem HO {F:Fence} (hf:F = Fence.wide ∨ ∃ l,F = rnd l) {m:Nat} {row:String} {args:Array Value} {w:World} {R:Value → World → Prop} (h:Rows P row args w R):RowsIn F m P row args w R:=by
 intro c cs _
 obtain ⟨v,w',hr,hs⟩:=h c cs
 rcases hf with rfl | ⟨l,rfl⟩
 ·exact ⟨v,w',hr,stepsIn_wide.2 hs⟩
 ·exact ⟨v,w',hr,stepsIn_wide.2 hs⟩
theorem F4 {F:Fence} (hf:F = Fence.wide ∨ ∃ l,F = rnd l) {m:Nat} {f:FuncId} {args:Array Value} {w:World} {R:Ending → World → Prop} (h:Calls P f args w R):CallsIn F m P f args w R:=by
 rcases hf with rfl | ⟨l,rfl⟩
 ·exact callsIn_wide.2 h
 ·exact CallsIn.inRound l (callsIn_wide.2 h)
theorem Cq {F:Fence} (hf:F = Fence.wide ∨ ∃ l,F = rnd l) (hd:uh o = true) {a:Act} {w:World} {K K':Act → World → Prop} (hk:∀ a w,K a w → K' a w) (h:o.wp P a w K Q):o.wpIn F 0 P a w K' Q:=by
 have hdep:F.depth = none:=by rcases hf with rfl | ⟨l,rfl⟩ <;> rfl
 refine ⟨fun f _=>by rcases hf with rfl | ⟨l,rfl⟩ <;> trivial,?_⟩
 rw [Oper.semAt_eq _ _ _ (J' hd)]
 unfold Oper.wp at h
 generalize (execOp a.eval o).run P w = r at *
 have hdn:F.depth.isSome = true → 1 ≤ 0:=fun e=>by rw [hdep] at e; simp at e
 cases r with
 | ok nx w'=>
  cases nx with
  | value v=>exact hk _ _ h
  | skip=>exact hk _ _ h
  | defer d=>exact hk _ _ h
  | enter f args=>
   refine ⟨hdn,F4 hf (Calls.mono h fun e w'' he=>?_)⟩
   cases e with
   | returned v=>exact hk _ _ he
   | panicked ch=>exact he
   | outgrown=>exact he
  | row row args=>exact ⟨hdn,HO hf (Rows.mono h fun _ _ he=>hk _ _ he)⟩
  | _=>exact h.elim
 | halt q w'=>cases q <;> first | exact h | exact h.elim
theorem sF {F:Fence} (hf:F = Fence.wide ∨ ∃ l,F = rnd l) (hd:∀ (i:Nat) (o:Oper),ops[i]? = some o → uh o = true) (hQ:¬ LetsOut Q):∀ (is:List Nat) (a:Act) (w:World),wpOps P ops Q is a w → wpOpsIn F 0 P ops Q is a w
 | [],a,w,h=>h
 | i :: is,a,w,h=>by
  simp only [wpOps] at h
  simp only [wpOpsIn]
  cases ho:ops[i]? with
  | none=>simp only [ho] at h; exact sF hf hd hQ is a w h
  | some o=>
   simp only [ho] at h
   simp only
   split
   ·rename_i hw
    simp only [hw,if_true] at h
    rcases h with h | h
    ·exact Cq hf (hd i o ho) (fun a w=>sF hf hd hQ is a w) h
    ·exact absurd h.2 hQ
   ·rename_i hw
    simp only [hw] at h
    refine ⟨fun f _=>by rcases hf with rfl | ⟨l,rfl⟩ <;> trivial,sF hf hd hQ is _ w h⟩
def fW (P:Program) {TB:aF} (E:Env TB) (n:Sh) (F:Fence) (c:Code) (s:St) (Q:bF):Prop:=¬ LetsOut Q → ∀ a w,R E n s a w → c.wpIn F 0 P Q a w
variable {F:Fence}
theorem zT {K:Act → World → Prop} (h:¬ LetsOut Q):¬ LetsOut (Exit.then K Q):=fun ⟨a,w,hq⟩=>h ⟨a,w,hq⟩
theorem H2 {id:Nat} (h:¬ LetsOut Q):¬ LetsOut (Exit.inBlock id Q):=fun ⟨a,w,hq⟩=>h ⟨a,w,hq⟩
theorem fW.keep (ks kos:List Nat) (hs:s.keep ks kos = s') (h:fW P E n F c s' Q):fW P E n F c s Q:=fun hq a w hr=>h hq a w (hs ▸ hr.keep ks kos)
theorem fW.seq (h:fW P E n F x s (Exit.then (y.wpIn F 0 P Q) Q)):fW P E n F (.seq x y) s Q:=fun hq a w hr=>wpIn_seq (h (zT hq) a w hr)
theorem fW.skip (h:Fin E n .normal s Q):fW P E n F .skip s Q:=fun _ a w hr=>wpIn_skip (h a w hr)
theorem fW.ret (h:Fin E n .ret s Q):fW P E n F .ret s Q:=fun _ a w hr=>wpIn_ret (h a w hr)
theorem fW.exit {id:Nat} (h:Fin E n (.exit id) s Q):fW P E n F (.exit id) s Q:=fun _ a w hr=>wpIn_exit (h a w hr)
theorem fW.block {id:Nat} (h:fW P E n F c s (Exit.inBlock id Q)):fW P E n F (.block id c) s Q:=fun hq a w hr=>wpIn_block (h (H2 hq) a w hr)
theorem fW.cond {t:Nat} {b:Bool} (hs:s.get t = some (.b (.one (.bool b)))) (h1:b = true → fW P E n F x s Q) (h2:b = false → fW P E n F y s Q):fW P E n F (.cond (.tmp t) x y) s Q:=by
 intro hq a w hr
 obtain ⟨hdf,hn,h,ρ,hw,hsl⟩:=id hr
 have:a.eval (.tmp t) = .bool b:=aC hsl (o:=.tmp t) hs
 exact wpIn_cond_split this (fun e=>h1 e hq a w hr) (fun e=>h2 e hq a w hr)
theorem fW.ite {α:Type} {t:Nat} {b:Bool} {p q:Option α} {r:α} (h:(if b = true then p else q) = some r) (hs:s.get t = some (.b (.one (.bool b)))) (h1:b = true → p = some r → fW P E n F x s Q) (h2:b = false → q = some r → fW P E n F y s Q):fW P E n F (.cond (.tmp t) x y) s Q :=
 fW.cond hs (fun e=>h1 e (by rw [if_pos e] at h; exact h)) (fun e=>h2 e (by rw [if_neg (by simp [e])] at h; exact h))
theorem fW.ab {id:Nat} {l:List Oper} (hf:F = Fence.wide ∨ ∃ l,F = rnd l) (h:aj P E n l.toArray l s Q) (hd:l.all uh = true:=by rfl):fW P E n F (.region id l.toArray false) s Q:=by
 intro hq a w hr
 refine wpIn_region ?_
 have:=oq (P:=P) (ops:=l.toArray) (Q:=Q) l 0 (fun j=>by simp) a w (h a w hr)
 refine sF hf (fun i o ho=>?_) hq _ a w (by simpa [List.range_eq_range'] using this)
 exact List.all_eq_true.1 hd o (by simpa using List.mem_of_getElem? (by simpa using ho))
theorem fW.ofA {id:Nat} {l:List Oper} (hf:F = Fence.wide ∨ ∃ l,F = rnd l) (hm:P.follows .mixedOrders = true) (h:uN P E n l.toArray s Q) (hd:l.all uh = true:=by rfl):fW P E n F (.region id l.toArray true) s Q:=by
 intro hq a w hr
 refine wpIn_region_draw fun t=>?_
 refine sF hf (fun i o ho=>?_) hq _ a _ ?_
 ·exact List.all_eq_true.1 hd o (by simpa using List.mem_of_getElem? (by simpa using ho))
 ·simp only [Region.schedule,hm,Bool.true_or,if_true]
  exact wpAny_sound _ t _ a _ (h a w hr)
theorem fW.DO {rid:Nat} {ops:List Oper} (hf:F = Fence.wide ∨ ∃ l,F = rnd l) (hm:P.follows .mixedOrders = true) (m:Nat) (Fs:List SV) (ks kos:List Nat) (hok:okX (ops.take m) (ops.drop m) n.n = true) (hst:q4 P E n ops.toArray s (ops.take m) Fs 0 (ops.take m) Fs)
  {s2:St} (htl:xQ P E n ops.toArray (ops.drop m) ⟨(s.slots.filter fun p=>!(jK (ops.take m)).contains p.1) ++ aY (fun _=>true) 0 (ops.take m) Fs,s.own⟩ s2) (hs:s2.keep ks kos = s') (h:Fin E n .normal s' Q) (hd:ops.all uh = true:=by rfl):fW P E n F (.region rid ops.toArray true) s Q :=
 fW.ofA hf hm (uN.X _ _ (List.take_append_drop m ops) Fs ks kos hok hst htl hs h) hd
theorem fW.vO {rid:Nat} {ops:List Oper} (hf:F = Fence.wide ∨ ∃ l,F = rnd l) (hm:P.follows .mixedOrders = true) (isW:List Bool) (Fs:List SV) (tab:List uf) {σ0 σf:uf} (hok:(iv 0 ops && gp (jK ops) && (jK ops).all (· < n.n) && (isW.length == ops.length)) = true)
  (htab:B8 P E n isW tab ops Fs tab) (h0:nL tab (List.replicate ops.length false) = some σ0) (hs0:s = ⟨σ0.base,σ0.own⟩) (hf':nL tab isW = some σf) (ks kos:List Nat)
  (hs:(⟨σf.base ++ aY (nb σf.live) 0 ops Fs,σf.own⟩:St).keep ks kos = s') (h:Fin E n .normal s' Q) (hd:ops.all uh = true:=by rfl):fW P E n F (.region rid ops.toArray true) s Q :=
 fW.ofA hf hm (uN.W isW Fs tab hok htab h0 hs0 hf' ks kos hs h) hd
end
end Go.Sk
namespace Go.Sk
set_option linter.unusedSimpArgs false
set_option linter.unusedVariables false
open Go Go.BigFrame
def Fj:Obj → Bool
 | .deferred _=>true
 | .loop _=>true
 | _=>false
section
variable {P:Program} {TB:aF} {E:Env TB} {n:Sh} {own own':List (Nat × OC)} {h h':PH} {ρ ρ':RM} {w w':World}
theorem OC.ok.J9 {c:OC} {v:Value} (hc:c.ok h ρ v w) {b:Nat} (hf:c.du v w b) {o:Obj} (ho:w.heap[b]? = some o):Fj o = false:=by
 have hrow:∀ {e:TypeId} {size n:Nat} {u:Value} {xs:List Value},w.ownsRow 0 e size u n xs → aZ u = some b → Fj o = false:=fun {e size n u xs} hh hb=>by
  rcases hh.2 with ⟨rfl,_⟩ | ⟨g,cap,cur,rfl,h1,h2,h3⟩
  ·simp [aZ] at hb
  ·simp [aZ] at hb; subst hb; rw [h2] at ho; cases ho; rfl
 rcases hf with hb | hi
 rotate_left
 ·cases c with
  | rr T e size hole ess=>
   obtain ⟨us,x⟩:=hc
   obtain ⟨i,u,h1,h2,h3⟩:=x.inner.1 hi
   obtain ⟨es,hes⟩:∃ es,ess[i]? = some es:=by
    have h4:i < us.length:=(List.getElem?_eq_some_iff.1 h1).1
    have h5:=x.out.1
    exact ⟨_,List.getElem?_eq_getElem (by omega)⟩
   obtain ⟨xs,h6,_⟩:=(x.rows i u es h1 hes h2).row
   exact hrow h6 h3
  | AR j m rest cur=>
   obtain ⟨b',ms,clk,D,seen,x⟩:=hc
   obtain ⟨D',s1,s2,s3,h1,h2⟩:=hi
   rw [x.ptr] at h1
   cases h1
   rw [x.it] at h2
   cases h2
   rw [x.obj] at ho
   cases ho
   rfl
  | _=>exact hi.elim
 cases c with
 | rr T e size hole ess=>obtain ⟨us,x⟩:=hc; exact hrow x.out hb
 | AR j m rest cur=>obtain ⟨b',ms,clk,D,seen,x⟩:=hc; rw [x.ptr] at hb; cases hb; rw [x.it] at ho; cases ho; rfl
 | box T ps=>obtain ⟨b',cur,rfl,h2,h3⟩:=hc; simp [aZ] at hb; subst hb; rw [h2] at ho; cases ho; rfl
 | sit q pos=>obtain ⟨b',rfl,h2,h3⟩:=hc; simp [aZ] at hb; subst hb; rw [h2] at ho; cases ho; rfl
 | mp es=>obtain ⟨b',ms,clk,rfl,h2,h3⟩:=hc; simp [aZ] at hb; subst hb; rw [h2] at ho; cases ho; rfl
 | mq m=>obtain ⟨b',ms,clk,rfl,h2,h3⟩:=hc; simp [aZ] at hb; subst hb; rw [h2] at ho; cases ho; rfl
 | ba T ps=>obtain ⟨b',cur,rfl,h2,h3⟩:=hc; simp [aZ] at hb; subst hb; rw [h2] at ho; cases ho; rfl
 | row T size es=>
  obtain ⟨hu,hz,xs,⟨hl,hh⟩,hr⟩:=hc
  rcases hh with ⟨rfl,_⟩ | ⟨g,cap,cur,rfl,h1,h2,h3⟩
  ·simp [aZ] at hb
  ·simp [aZ] at hb; subst hb; rw [h2] at ho; cases ho; rfl
 | oe T size es=>
  obtain ⟨hu,hz,xs,⟨hl,hh⟩,hr⟩:=hc
  rcases hh with ⟨rfl,_⟩ | ⟨g,cap,cur,rfl,h1,h2,h3⟩
  ·simp [aZ] at hb
  ·simp [aZ] at hb; subst hb; rw [h2] at ho; cases ho; rfl
 | B3 T size es=>
  obtain ⟨hu,hz,xs,⟨hl,hh⟩,hr⟩:=hc
  rcases hh with ⟨rfl,_⟩ | ⟨g,off,cap,cur,rfl,h2,h3⟩
  ·simp [aZ] at hb
  ·simp [aZ] at hb; subst hb; rw [h2] at ho; cases ho; rfl
def Br (fx:List Nat) (own:List (Nat × OC)):Bool:=(fx.all fun k=>(aq own).contains k) && own.all fun p=>p.2.plain
theorem BP {fx:List Nat} {own:List (Nat × OC)} (h:Br fx own = true):∀ k,k ∈ fx → k ∈ aq own:=fun k hk=>by
 simp only [Br,Bool.and_eq_true,List.all_eq_true] at h
 simpa using h.1 k hk
theorem yj {fx:List Nat} {own:List (Nat × OC)} (h:Br fx own = true):∀ k c,(k,c) ∈ own → c.plain = true:=fun k c hk=>by
 simp only [Br,Bool.and_eq_true,List.all_eq_true] at h
 exact h.2 _ hk
theorem WR.self (hw:WR E n own h ρ w) (hp:∀ k c,(k,c) ∈ own → c.plain = true) (m:Nat) (d:List Deferred):WR (⟨w,h,ρ,hw.aw⟩:Env TB) ⟨m,aq own,ai own,d⟩ own h ρ w :=
 WR.sh (n:=⟨0,aq own,ai own,[]⟩) rfl rfl (DG hw.aw hw.agree (tu hw (fun _ _ hk=>hk) hp))
theorem WR.all {tb:cx TB h w} {m:Nat} {d:List Deferred} (hw:WR E n own h ρ w) (hc:WR (⟨w,h,ρ,tb⟩:Env TB) ⟨m,aq own,ai own,d⟩ own' h' ρ' w') (hf:∀ k,k ∈ n.fix → k ∈ aq own):WR E n own' h' ρ' w':=by
 have hlent:∀ b,qR (⟨w,h,ρ,tb⟩:Env TB) ⟨m,aq own,ai own,d⟩ b → E.w0.heap.size ≤ b ∨ qR E n b:=fun b ⟨k,hk,hb⟩=>by
  obtain ⟨⟨k',c⟩,hm,rfl⟩:=List.mem_map.1 hk
  exact ((hw.owned k' c hm).2.1 b (.inl hb)).1
 have hnl:∀ b,b < E.w0.heap.size → ¬ qR E n b → ¬ qR (⟨w,h,ρ,tb⟩:Env TB) ⟨m,aq own,ai own,d⟩ b:=fun b hb hl hl'=>by
  rcases hlent b hl' with h1 | h1
  ·omega
  ·exact hl h1
 refine ⟨hc.agree,PH.le_trans hw.le hc.le,fun b hb hl=>?_,Nat.le_trans hw.size hc.size,fun b hb hl=>?_,fun k hk=>?_,hc.os.trans hw.os,hc.out.trans hw.out,hw.nl,fun k c hk=>?_⟩
 ·exact (hc.fresh b (Nat.lt_of_lt_of_le hb hw.size) (hnl b hb hl)).trans (hw.fresh b hb hl)
 ·exact (hc.same b (Nat.lt_of_lt_of_le hb hw.size) (hnl b hb hl)).trans (hw.same b hb hl)
 ·exact (hc.fixed k (hf k hk)).trans (hw.fixed k hk)
 ·obtain ⟨e1,e2,e3⟩:=hc.owned k c hk
  refine ⟨e1,fun b hb=>⟨?_,(e2 b hb).2⟩,e3⟩
  rcases (e2 b hb).1 with h1 | h1
  ·exact .inl (Nat.le_trans hw.size h1)
  ·exact hlent b h1
theorem WR.none {tb:cx TB h w} {m:Nat} {d:List Deferred} {ρ1:RM} (hw:WR E n own h ρ w) (hc:WR (⟨w,h,ρ1,tb⟩:Env TB) ⟨m,[],[],d⟩ own' h' ρ' w'):WR E n own h' ρ w':=by
 have hnl:∀ b,¬ qR (⟨w,h,ρ1,tb⟩:Env TB) ⟨m,[],[],d⟩ b:=fun b ⟨k,hk,_⟩=>by simp at hk
 refine ⟨hc.agree,PH.le_trans hw.le hc.le,fun b hb hl=>?_,Nat.le_trans hw.size hc.size,fun b hb hl=>?_,hw.fixed,hc.os.trans hw.os,hc.out.trans hw.out,hw.nl,fun k c hk=>?_⟩
 ·exact (hc.fresh b (Nat.lt_of_lt_of_le hb hw.size) (hnl b)).trans (hw.fresh b hb hl)
 ·exact (hc.same b (Nat.lt_of_lt_of_le hb hw.size) (hnl b)).trans (hw.same b hb hl)
 ·obtain ⟨e1,e2,e3⟩:=hw.owned k c hk
  have hft:∀ j x,(j,x) ∈ own → ∀ b,x.du (ρ j) w' b → x.du (ρ j) w b:=fun j x hj b=>OC.du.congr fun b hb=>hc.same b ((hw.owned j x hj).1.lt (.inl hb)) (hnl b)
  refine ⟨(e1.congr fun b hb=>hc.same b (e1.lt hb) (hnl b)).mono hc.le,fun b hb=>⟨(e2 b (hft k c hk b hb)).1,fun o=>?_⟩,fun j x hj hjk b hb hb'=>e3 j x hj hjk b (hft k c hk b hb) (hft j x hj b hb')⟩
  have e:=hc.fresh b (e1.lt (hft k c hk b hb)) (hnl b)
  rw [e]
  exact (e2 b (hft k c hk b hb)).2 o
end
end Go.Sk
namespace Go.Sk
set_option linter.unusedSimpArgs false
set_option linter.unusedVariables false
open Go Go.BigFrame
def each {α ι β:Type} (B:ι → α → Option (ι ⊕ β)):List α → ι → Option (ι ⊕ β)
 | [],v=>some (.inl v)
 | x :: xs,v=>match B v x with
  | none=>none
  | some (.inl v')=>each B xs v'
  | some (.inr y)=>some (.inr y)
def mark (D:Nat):Deferred:={ target:=.collected D,args:=#[] }
section
variable {P:Program} {TB:aF} {E:Env TB} {n:Sh} {s s':St} {Q:bF} {x y assign body:Code}
theorem AG {own:List (Nat × OC)} {h:PH} {ρ:RM} {w:World} (hw:WR E n own h ρ w) {D:Nat} {o:Obj} (hD:w.heap[D]? = some o) (hi:Fj o = true) {tb:cx TB h w} {m:Nat} {bk:List Nat} {d:List Deferred}:¬ qR (⟨w,h,ρ,tb⟩:Env TB) ⟨m,bk,ai own,d⟩ D:=fun ⟨k,hk,hb⟩=>by
 obtain ⟨⟨k',c⟩,hm,rfl⟩:=List.mem_map.1 hk
 have:=(hw.owned k' c hm).1.J9 (.inl hb) hD
 rw [this] at hi
 simp at hi
theorem H0 {w:World} {D:Nat} {o:Obj} (hD:w.heap[D]? = some o):D < w.heap.size:=(Array.getElem?_eq_some_iff.1 hD).1
def RD {TB:aF} (E:Env TB) (n:Sh) (D:Nat) (s:St) (a:Act) (w:World):Prop :=
 a.defers = [mark D] ∧ a.tmps.size = n.n ∧ w.heap[D]? = some (.deferred (some [])) ∧ E.w0.heap.size ≤ D ∧ ∃ h ρ,WR E n s.own h ρ w ∧ bp h ρ s.slots a.tmps
end
end Go.Sk
namespace Go.Sk
set_option linter.unusedSimpArgs false
set_option linter.unusedVariables false
open Go Go.BigFrame
section
variable {P:Program} {TB:aF} {E:Env TB} {n:Sh} {s s':St} {Q:bF} {x y assign body cd:Code}
def RetM (P:Program) (fn:Func) {TB:aF} (E:Env TB) (n:Sh) (post:dQ):bF
 | .normal,a,w=>∃ D,a.defers = [mark D] ∧ w.heap[D]? = some (.deferred (some [])) ∧ E.w0.heap.size ≤ D ∧ ∃ v,(∀ w₂,bI w w₂ → (results fn a.tmps).run P w₂ = .ok v w₂) ∧ iD E n post (.returned v) w
 | .ret,a,w=>∃ D,a.defers = [mark D] ∧ w.heap[D]? = some (.deferred (some [])) ∧ E.w0.heap.size ≤ D ∧ ∃ v,(∀ w₂,bI w w₂ → (results fn a.tmps).run P w₂ = .ok v w₂) ∧ iD E n post (.returned v) w
 | _,_,_=>False
theorem RD.rest {fn:Func} {post:dQ} {D:Nat} {a:Act} {w:World} (hr:RD E n D s a w) (hf:Br n.fix s.own = true) (h:∀ E':Env TB,ah P E' ⟨n.n,aq s.own,ai s.own,[mark D]⟩ y s (yP P fn E' ⟨n.n,aq s.own,ai s.own,[mark D]⟩ post)):y.wp P (RetM P fn E n post) a w:=by
 obtain ⟨h1,h2,h3,h4,hh,ρ,hw,hs⟩:=hr
 refine wp_mono (h ⟨w,hh,ρ,hw.aw⟩ a w ⟨h1,h2,hh,ρ,hw.self (yj hf) _ _,hs⟩) ?_
 have key:∀ (a':Act) (w':World),(a'.defers = [mark D] ∧ ∃ v,(∀ w₂,bI w' w₂ → (results fn a'.tmps).run P w₂ = .ok v w₂) ∧ iD (⟨w,hh,ρ,hw.aw⟩:Env TB) ⟨n.n,aq s.own,ai s.own,[mark D]⟩ post (.returned v) w') →
   ∃ D,a'.defers = [mark D] ∧ w'.heap[D]? = some (.deferred (some [])) ∧ E.w0.heap.size ≤ D ∧ ∃ v,(∀ w₂,bI w' w₂ → (results fn a'.tmps).run P w₂ = .ok v w₂) ∧ iD E n post (.returned v) w':=by
  rintro a' w' ⟨g1,v,g2,v',own',res,h',ρ',e1,e2,e3,e4⟩
  refine ⟨D,g1,(e3.same D (H0 h3) (AG hw h3 rfl)).trans h3,h4,v,g2,v',own',res,h',ρ',e1,e2,hw.all e3 fun k hk=>?_,e4⟩
  exact BP hf k hk
 rintro (_ | _ | _ | _ | _ | _) a' w' h'
 all_goals first | exact key a' w' h' | exact h'.elim
theorem RD.ret {fn:Func} {post:dQ} {D:Nat} {a:Act} {w:World} (hr:RD E n D s a w) (hf:Br n.fix s.own = true) (h:∀ E':Env TB,Fin E' ⟨n.n,aq s.own,ai s.own,[mark D]⟩ .ret s (yP P fn E' ⟨n.n,aq s.own,ai s.own,[mark D]⟩ post)):RetM P fn E n post .ret a w:=by
 obtain ⟨h1,h2,h3,h4,hh,ρ,hw,hs⟩:=hr
 obtain ⟨g1,v,g2,v',own',res,h',ρ',e1,e2,e3,e4⟩:=h ⟨w,hh,ρ,hw.aw⟩ a w ⟨h1,h2,hh,ρ,hw.self (yj hf) _ _,hs⟩
 refine ⟨D,h1,h3,h4,v,g2,v',own',res,h',ρ',e1,e2,hw.all e3 fun k hk=>?_,e4⟩
 exact BP hf k hk
end
section
variable {P:Program} {TB:aF} {E:Env TB} {n:Sh} {s:St} {dst:Option Nat} {t ty yt:TypeId} {pos:String} {after:Array Edge} {g:Option (Nat × Bool)} {x y c:Operand}
end
end Go.Sk
namespace Go.Sk
set_option linter.unusedSimpArgs false
set_option linter.unusedVariables false
open Go Go.BigFrame
def Ik (P:Program) (F:Fence) (ops:Array Oper) (Q:bF):List Oper → Act → World → Prop
 | [],a,w=>Q .normal a w
 | o :: rest,a,w=>if Region.wanted o (yielded ops a.tmps) then o.wpIn F 0 P a w (Ik P F ops Q rest) Q else Ik P F ops Q rest (a.put o.dst undef) w
def vp (P:Program) {TB:aF} (E:Env TB) (n:Sh) (F:Fence) (ops:Array Oper) (l:List Oper) (s:St) (Q:bF):Prop:=∀ a w,R E n s a w → Ik P F ops Q l a w
section
variable {P:Program} {TB:aF} {E:Env TB} {n:Sh} {ops:Array Oper} {l:List Oper} {s s':St} {Q:bF} {o:Oper} {F:Fence} {c:Code}
theorem vp.nil (h:Fin E n .normal s Q):vp P E n F ops [] s Q:=fun a w hr=>h a w hr
theorem vp.keep (ks kos:List Nat) (hs:s.keep ks kos = s') (h:vp P E n F ops l s' Q):vp P E n F ops l s Q:=fun a w hr=>h a w (hs ▸ hr.keep ks kos)
theorem vp.cons (hf:F = Fence.wide ∨ ∃ l,F = rnd l) (hg:o.guard = none) (h1:aR P E n o s s') (h2:vp P E n F ops l s' Q) (hd:uh o = true:=by rfl):vp P E n F ops (o :: l) s Q:=by
 intro a w hr
 unfold Ik
 have:Region.wanted o (yielded ops a.tmps) = true:=by simp [Region.wanted,hg]
 simp only [this,if_true]
 exact Cq hf hd (fun a w h=>h) (h1 a w hr _ _ fun a' w' hr'=>h2 a' w' hr')
theorem vp.Ds {j t:Nat} {want gd:Bool} (hf:F = Fence.wide ∨ ∃ l,F = rnd l) (hG:mK s t want gd) (hgd:gd = true) (hg:o.guard = some (j,want)) (hj:(ops[j]?).bind (·.dst) = some t) (h1:aR P E n o s s') (h2:vp P E n F ops l s' Q) (hd:uh o = true:=by rfl):vp P E n F ops (o :: l) s Q:=by
 intro a w hr
 unfold Ik
 have:=hG.wanted hg hj hr
 rw [hgd] at this
 simp only [this,if_true]
 exact Cq hf hd (fun a w h=>h) (h1 a w hr _ _ fun a' w' hr'=>h2 a' w' hr')
theorem vp.opt (k:Nat) {z:BV} (hk:lk s.slots k = some (.b z)) (h:vp P E n F ops l ⟨(k,.opt true z) :: del k s.slots,s.own⟩ Q):vp P E n F ops l s Q:=by
 rintro a w ⟨h1,hn,hh,ρ,hw,hs⟩
 refine h a w ⟨h1,hn,hh,ρ,hw,fun j x hx=>?_⟩
 rcases List.mem_cons.1 hx with e | hx
 ·obtain ⟨rfl,rfl⟩:=Prod.mk.inj e
  obtain ⟨v,hv,hr⟩:=hs _ _ (bh hk)
  exact ⟨v,hv,fun _=>hr,fun e=>by simp at e⟩
 ·exact hs j x (b9 hx).1
theorem R.fresh {h:PH} {ρ:RM} {w:World} {slots:List (Nat × SV)} {a:Act} {m:Nat} (tb:cx TB h w) (hag:oI h w) (hd:a.defers = []) (hn:a.tmps.size = m) (hs:bp h ρ slots a.tmps):R (⟨w,h,ρ,tb⟩:Env TB) ⟨m,[],[],[]⟩ ⟨slots,[]⟩ a w :=
 ⟨hd,hn,h,ρ,WR.sh (n:=⟨0,aq [],ai [],[]⟩) rfl rfl (DG tb hag fun k c hk=>by simp at hk),hs⟩
end
section
variable {P:Program} {TB:aF} {E:Env TB} {n:Sh} {s:St} {dst:Option Nat} {t ty yt:TypeId} {pos:String} {after:Array Edge} {g:Option (Nat × Bool)} {x y c:Operand}
end
section
variable {P:Program} {t:TypeId}
end
end Go.Sk
namespace Go.Sk
set_option linter.unusedSimpArgs false
set_option linter.unusedVariables false
open Go Go.BigFrame
def nM (k:Nat) (ps:List CP):List (Nat × SV) → List (Nat × SV)
 | []=>[]
 | (j,x) :: l=>match x with
  | .b (.ptr k' o)=>if k' = k then (j,.b (.jY (ps.drop o))) :: nM k ps l else (j,x) :: nM k ps l
  | _=>(j,x) :: nM k ps l
theorem xo {k:Nat} {ps:List CP}:∀ {l:List (Nat × SV)} {j:Nat} {x:SV},(j,x) ∈ nM k ps l → (j,x) ∈ l ∨ ∃ o,x = .b (.jY (ps.drop o)) ∧ (j,.b (.ptr k o)) ∈ l
 | [],j,x,h=>by simp [nM] at h
 | (i,y) :: l,j,x,h=>by
  have keep:(j,x) ∈ (i,y) :: nM k ps l → (j,x) ∈ (i,y) :: l ∨ ∃ o,x = .b (.jY (ps.drop o)) ∧ (j,.b (.ptr k o)) ∈ (i,y) :: l:=fun h=>by
   rcases List.mem_cons.1 h with e | h
   ·exact .inl (e ▸ List.mem_cons_self)
   ·rcases xo h with h | ⟨o,e,h⟩
    ·exact .inl (List.mem_cons_of_mem _ h)
    ·exact .inr ⟨o,e,List.mem_cons_of_mem _ h⟩
  unfold nM at h
  split at h
  ·rename_i k' o
   split at h
   ·rename_i hk
    subst hk
    rcases List.mem_cons.1 h with e | h
    ·obtain ⟨rfl,rfl⟩:=Prod.mk.inj e
     exact .inr ⟨o,rfl,List.mem_cons_self⟩
    ·rcases xo h with h | ⟨o,e,h⟩
     ·exact .inl (List.mem_cons_of_mem _ h)
     ·exact .inr ⟨o,e,List.mem_cons_of_mem _ h⟩
   ·exact keep h
  ·exact keep h
section
variable {P:Program} {TB:aF} {E:Env TB} {n:Sh} {s:St} {ops:Array Oper} {l:List Oper} {Q:bF} {cd:Code}
theorem R.oN {k:Nat} {T:TypeId} {ps:List CP} {a:Act} {w:World} (hr:R E n s a w) (hk:lk s.own k = some (.box T ps)):R E n ⟨nM k ps s.slots,del k s.own⟩ a w:=by
 obtain ⟨h1,h2,h,ρ,hw,hs⟩:=hr
 obtain ⟨g,cur,hρ,hh,hc⟩:=hX hw hk
 have hown:=hw.owned k _ (bh hk)
 have hg:=hown.2.1 g (.inl (by rw [hρ]; rfl))
 have hle:h.le (c9 h g cur.toList):=fun b o v hv=>by
  unfold c9
  split
  ·rename_i e; subst e; rw [hg.2 o] at hv; simp at hv
  ·exact hv
 have hrd:Reads (c9 h g cur.toList) g 0 ps:=fun j c hj=>by
  obtain ⟨u,hu,hp⟩:=hc.get j c hj
  exact ⟨u,by simp only [c9,if_true,Nat.zero_add]; exact hu,c.mono hle hp⟩
 refine ⟨h1,h2,c9 h g cur.toList,ρ,⟨?_,PH.le_trans hw.le hle,?_,hw.size,hw.same,hw.fixed,hw.os,hw.out,hw.nl,?_⟩,?_⟩
 ·intro b o v hv
  unfold c9 at hv
  split at hv
  ·rename_i e; subst e
   exact rj hh (by simpa using hv) (hc.one v (List.mem_of_getElem? hv))
  ·exact hw.agree b o v hv
 ·intro b hb hnl
  rw [← hw.fresh b hb hnl]
  funext o
  unfold c9
  rw [if_neg fun e=>by
   subst e
   rcases hg.1 with h | h
   ·omega
   ·exact hnl h]
 ·intro j c hj
  obtain ⟨hj1,hj2⟩:=b9 hj
  obtain ⟨e1,e2,e3⟩:=hw.owned j c hj1
  refine ⟨e1.mono hle,fun b hb=>⟨(e2 b hb).1,fun o=>?_⟩,fun j' c' hj'=>e3 j' c' (b9 hj').1⟩
  have hbg:b ≠ g:=fun e=>by
   subst e
   exact e3 k _ (bh hk) (fun e=>hj2 e.symm) b hb (.inl (by rw [hρ]; rfl))
  unfold c9
  rw [if_neg hbg]
  exact (e2 b hb).2 o
 ·intro j x hx
  rcases xo hx with hx2 | ⟨o,rfl,hx2⟩
  ·obtain ⟨v,hv,hrel⟩:=hs j x hx2
   exact ⟨v,hv,SV.mono hle (fun _ _=>rfl) hrel⟩
  ·obtain ⟨v,hv,b,e1,e2⟩:=hs j _ hx2
   rw [hρ] at e1
   have:g = b:=by simpa using e1
   subst this
   exact ⟨v,hv,g,o,e2,by have:=hrd.drop o; rwa [Nat.zero_add] at this⟩
theorem ah.oN (k:Nat) {T:TypeId} {ps:List CP} (hk:lk s.own k = some (.box T ps)) (h:ah P E n cd ⟨nM k ps s.slots,del k s.own⟩ Q):ah P E n cd s Q:=fun a w hr=>h a w (hr.oN hk)
theorem aj.oN (k:Nat) {T:TypeId} {ps:List CP} (hk:lk s.own k = some (.box T ps)) (h:aj P E n ops l ⟨nM k ps s.slots,del k s.own⟩ Q):aj P E n ops l s Q:=fun a w hr=>h a w (hr.oN hk)
theorem Fin.oN {e:Exit} (k:Nat) {T:TypeId} {ps:List CP} (hk:lk s.own k = some (.box T ps)) (h:Fin E n e ⟨nM k ps s.slots,del k s.own⟩ Q):Fin E n e s Q:=fun a w hr=>h a w (hr.oN hk)
end
end Go.Sk
namespace Go.Sk
set_option linter.unusedSimpArgs false
set_option linter.unusedVariables false
open Go Go.BigFrame
section
variable {P:Program} {TB:aF} {E:Env TB} {n:Sh} {s:St} {dst:Option Nat} {ty:TypeId} {pos:String} {after:Array Edge} {g:Option (Nat × Bool)} {x y:Operand}
end
end Go.Sk
namespace Go.Sk
set_option linter.unusedSimpArgs false
set_option linter.unusedVariables false
open Go Go.BigFrame
section
variable {P:Program} {TB:aF} {E:Env TB} {n:Sh} {s:St} {dst:Option Nat} {t ty yt:TypeId} {pos:String} {after:Array Edge} {g:Option (Nat × Bool)} {x y c:Operand} {Q:bF} {cd:Code} {ops:Array Oper} {l:List Oper}
variable {own:List (Nat × OC)} {h:PH} {ρ:RM} {w:World} {k kp i size bytes:Nat} {T e:TypeId} {hole:Dm} {ess:List (List (List CP))} {us:List Value} {v:Value}
theorem ze.len (x:ze h v w T e size hole ess us):us.length = ess.length:=by have:=x.out.1; omega
theorem ze.at (x:ze h v w T e size hole ess us) {i:Nat} {u:Value} (hi:us[i]? = some u):∃ es,ess[i]? = some es:=by
 have h4:i < us.length:=(List.getElem?_eq_some_iff.1 hi).1
 exact ⟨_,List.getElem?_eq_getElem (by rw [← x.len]; exact h4)⟩
theorem ze.du (x:ze h v w T e size hole ess us) {b:Nat}:(OC.rr T e size hole ess).du v w b ↔ aZ v = some b ∨ ∃ (i:Nat) (u:Value),us[i]? = some u ∧ ¬ hole.has i ∧ aZ u = some b:=or_congr Iff.rfl x.inner
theorem ze.lt (x:ze h v w T e size hole ess us) {i b:Nat} {u:Value} (h1:us[i]? = some u) (h2:¬ hole.has i) (h3:aZ u = some b):b < w.heap.size:=by
 obtain ⟨es,hes⟩:=x.at h1
 obtain ⟨xs,h6,_⟩:=(x.rows i u es h1 hes h2).row
 exact uY h6 h3
end
end Go.Sk
namespace Go.Sk
set_option linter.unusedSimpArgs false
set_option linter.unusedVariables false
open Go Go.BigFrame
section
variable {P:Program} {TB:aF} {E:Env TB} {n:Sh} {s:St} {dst:Option Nat} {t ty yt:TypeId} {pos:String} {after:Array Edge} {g:Option (Nat × Bool)} {x y c:Operand} {Q:bF} {cd:Code} {ops:Array Oper} {l:List Oper} {o:Oper}
variable {own:List (Nat × OC)} {h:PH} {ρ:RM} {w:World} {k kp i size bytes:Nat} {T e:TypeId} {hole:Dm} {ess:List (List (List CP))} {us:List Value} {v:Value}
variable {j ki:Nat} {m rest:MapI} {cur:Option (Int × Int)}
def xcv:List BV → Option (List CV)
 | []=>some []
 | z :: l=>(BV.cv z).bind fun q=>(xcv l).map fun r=>q :: r
theorem Gz:∀ {zs:List BV} {cs:List CV} {vs:List Value},xcv zs = some cs → aQ (fun (x:BV) u=>x.rel h ρ u ∧ u.oneCell' = true) zs vs → aQ (fun (x:CV) u=>x.rel h ρ u ∧ u.oneCell' = true) cs vs
 | [],cs,_,hc,.nil=>by cases hc; exact .nil
 | z :: zs,cs,_,hc,.cons h1 t=>by
  unfold xcv at hc
  simp only [Option.bind_eq_some_iff,Option.map_eq_some_iff] at hc
  obtain ⟨q,hq,r,hr,rfl⟩:=hc
  exact .cons ⟨BV.Jw hq h1.1,h1.2⟩ (Gz hr t)
theorem aR.res {s1:St} {d:Option Nat} {z z':SV} (h1:aR P E n o s (s1.put n d z)) (hz:∀ h ρ v,z.rel h ρ v → z'.rel h ρ v):aR P E n o s (s1.put n d z'):=fun a w hr next Q hn=>h1 a w hr next Q fun a' w' hr'=>hn a' w' (by
 cases d with
 | none=>exact hr'
 | some d=>
  simp only [St.put,St.set] at hr' ⊢
  split at hr'
  ·next hd=>
   rw [if_pos hd]
   obtain ⟨h1,h2,h,ρ,hw,hs⟩:=hr'
   refine ⟨h1,h2,h,ρ,hw,fun j q hq=>?_⟩
   cases List.mem_cons.1 hq with
   | inl e=>
    obtain ⟨rfl,rfl⟩:=Prod.mk.inj e
    obtain ⟨u,hu,hrel⟩:=hs j z List.mem_cons_self
    exact ⟨u,hu,hz _ _ _ hrel⟩
   | inr e=>exact hs j q (List.mem_cons_of_mem _ e)
  ·next hd=>rw [if_neg hd]; exact hr')
theorem Em {k off m:Nat} {T:TypeId} {cs cs':List BV} {z:SV} {qs:List BV} (ht:gg P t m) (hx:s.ev x = some (.b (.ptr k off))) (hk:lk s.own k = some (.ba T cs)) (hy:s.ev y = some z) (hz:z.uO s.own = some qs) (hq:qs.length = m) (hlt:off + m ≤ cs.length) (hps:Sk.aN cs off qs = cs') :
  aR P E n ⟨none,.store t x y,ty,pos,after,g⟩ s ⟨s.slots,ins k (.ba T cs') s.own⟩ :=
 aR.store (o:=⟨none,.store t x y,ty,pos,after,g⟩) rfl fun ac w h ρ hw hs=>by
  obtain ⟨b,he,hv⟩:=(aC hs hx:BV.rel h ρ (.ptr k off) _)
  obtain ⟨b',cur,hb1,hb2,hb3⟩:=fe hw hk
  have:b' = b:=by rw [hb1] at he; simpa using he
  subst this
  have hcr:=SV.Ab hw hz (aC hs hy)
  obtain ⟨i,hi,hm⟩:=ht.size
  have hlen:=hb3.length
  have hlen2:=hcr.length
  have hone:∀ u ∈ (ac.eval y).cells.toList,u.oneCell' = true:=fun u hu=>by
   obtain ⟨q,_,hq⟩:=aQ.BI hcr hu
   exact hq.2
  have hrun:=ju (P:=P) (t:=t) hi hm hb2 (v:=ac.eval y) (o:=off) (by simp at hlen2; omega) (by simp at hlen; omega) hone
  refine ⟨_,by simp only [execOp,hv,Instr.storeAt,Instr.sureAddr]; simp [hrun]; rfl,?_⟩
  refine hw.setX hk hb1 hb2 ?_
  rw [← hps]
  exact aQ.aN hb3 hcr off
end
end Go.Sk
namespace Go.Sk
set_option linter.unusedSimpArgs false
set_option linter.unusedVariables false
open Go
def pd {α:Type} (m:Option α) (Q:α → Prop):Prop:=∃ x,m = some x ∧ Q x
section
variable {α β γ δ ε:Type} {m:Option α} {Q:β → Prop} {P:α → Prop}
theorem pd.some {x:β} (h:Q x):pd (some x) Q:=⟨x,rfl,h⟩
theorem pd.bind {k:α → Option β} (h:pd m P) (h2:∀ x,P x → pd (k x) Q):pd (m.bind k) Q:=by
 obtain ⟨x,rfl,hp⟩:=h
 exact h2 x hp
theorem pd.ite {c:Bool} {A B:Option β} (h1:c = true → pd A Q) (h2:c = false → pd B Q):pd (if c = true then A else B) Q:=by
 cases c
 ·exact h2 rfl
 ·exact h1 rfl
theorem pd.eq {x:α} (h:pd m (· = x)):m = Option.some x:=by obtain ⟨y,h1,h2⟩:=h; rw [h1,h2]
theorem pd.of {x:α} (h:m = Option.some x):pd m (· = x):=⟨x,h,rfl⟩
theorem pd.mono {P':α → Prop} (h:pd m P) (h2:∀ x,P x → P' x):pd m P':=by obtain ⟨x,h1,h3⟩:=h; exact ⟨x,h1,h2 x h3⟩
theorem pd.idx [Inhabited α] {l:List α} {i:Int} {k:α → Option β} (h0:0 ≤ i) (h1:i < l.length) (h:pd (k (idx l i)) Q):pd ((aH l i).bind k) Q:=by
 rw [idx?_eq h0 h1]; exact h
theorem pd.g1 [Inhabited α] {g:Bool} {k:α → Option β} (hg:g = true) (h:pd (m.bind k) Q):pd ((bo g m).bind k) Q:=by subst hg; exact h
theorem pd.g0 [Inhabited α] {g:Bool} {k:α → Option β} (hg:g = false) (h:pd (k default) Q):pd ((bo g m).bind k) Q:=by subst hg; exact h
theorem pd.quo {kd:IntKind} {a b:Int} {k:Int → Option β} (h0:b ≠ 0) (h:pd (k (kd.wrap (a.tdiv b))) Q):pd ((oF kd a b).bind k) Q:=by
 simp only [oF,h0,if_false]; exact h
theorem pd.rem {a b:Int} {k:Int → Option β} (h0:b ≠ 0) (h:pd (k (a.tmod b)) Q):pd ((nD a b).bind k) Q:=by
 simp only [nD,h0,if_false]; exact h
theorem pd.take {xs:List α} {i:Int} {k:List α → Option β} (h0:0 ≤ i) (h1:i ≤ xs.length) (h:pd (k (xs.take i.toNat)) Q):pd ((sA xs i).bind k) Q:=by
 simp only [sA,h0,h1,and_self,if_true]; exact h
theorem pd.drop {xs:List α} {i:Int} {k:List α → Option β} (h0:0 ≤ i) (h1:i ≤ xs.length) (h:pd (k (xs.drop i.toNat)) Q):pd ((rR xs i).bind k) Q:=by
 simp only [rR,h0,h1,and_self,if_true]; exact h
theorem pd.rounds {σ τ:Type} {body:σ → Option (σ ⊕ τ)} {Q:τ → Prop} (n:Nat) (I:Nat → σ → Prop) {s:σ} {F:Nat} (hF:n < F) (h0:I 0 s)
  (step:∀ k s,k ≤ n → I k s → pd (body s) fun o=>(∃ s',o = .inl s' ∧ I (k + 1) s' ∧ k < n) ∨ ∃ t,o = .inr t ∧ Q t):pd (iter F body s) Q:=by
 have key:∀ d F k s,k + d = n → d < F → I k s → pd (iter F body s) Q:=by
  intro d
  induction d with
  | zero=>
   intro F k s hk hF hI
   obtain ⟨F,rfl⟩:∃ f,F = f + 1:=⟨F - 1,by omega⟩
   obtain ⟨o,ho,h⟩:=step k s (by omega) hI
   rw [oC,ho]
   rcases h with ⟨s',rfl,_,hlt⟩ | ⟨t,rfl,hq⟩
   ·omega
   ·exact ⟨t,rfl,hq⟩
  | succ d ih=>
   intro F k s hk hF hI
   obtain ⟨F,rfl⟩:∃ f,F = f + 1:=⟨F - 1,by omega⟩
   obtain ⟨o,ho,h⟩:=step k s (by omega) hI
   rw [oC,ho]
   rcases h with ⟨s',rfl,hI',_⟩ | ⟨t,rfl,hq⟩
   ·exact ih F (k + 1) s' (by omega) (by omega) hI'
   ·exact ⟨t,rfl,hq⟩
 exact key n F 0 s (by omega) hF h0
theorem pd.loop {σ τ:Type} {body:σ → Option (σ ⊕ τ)} {Q:τ → Prop} (I:σ → Prop) (μ:σ → Nat) {s:σ} {F:Nat} (h0:I s) (hF:μ s < F)
  (step:∀ s,I s → pd (body s) fun o=>(∃ s',o = .inl s' ∧ I s' ∧ μ s' < μ s) ∨ ∃ t,o = .inr t ∧ Q t):pd (iter F body s) Q:=by
 refine H3 I μ Q (fun s hI=>?_) F s h0 hF
 obtain ⟨o,ho,h⟩:=step s hI
 refine ⟨o,ho,fun s' e=>?_,fun t e=>?_⟩
 ·subst e
  rcases h with ⟨s'',e,h1,h2⟩ | ⟨t,e,_⟩
  ·cases e; exact ⟨h1,h2⟩
  ·cases e
 ·subst e
  rcases h with ⟨s'',e,_⟩ | ⟨t',e,h1⟩
  ·cases e
  ·cases e; exact h1
end
def ds (b:Int) (f:Nat → Int):Nat → Int
 | 0=>0
 | n + 1=>ds b f n + f n * b ^ n
def nd (b z:Int) (i:Nat):Int:=z / b ^ i % b
end Go.Sk
namespace Go.Sk
set_option linter.unusedSimpArgs false
set_option linter.unusedVariables false
open Go Go.BigFrame
@[reducible] def un9 {A1 A2 A3 A4 A5 A6 A7 A8 A9 γ:Type} (f:A1 → A2 → A3 → A4 → A5 → A6 → A7 → A8 → A9 → γ) (z:A1 × A2 × A3 × A4 × A5 × A6 × A7 × A8 × A9):γ:=f z.1 z.2.1 z.2.2.1 z.2.2.2.1 z.2.2.2.2.1 z.2.2.2.2.2.1 z.2.2.2.2.2.2.1 z.2.2.2.2.2.2.2.1 z.2.2.2.2.2.2.2.2
@[reducible] def un10 {A1 A2 A3 A4 A5 A6 A7 A8 A9 A10 γ:Type} (f:A1 → A2 → A3 → A4 → A5 → A6 → A7 → A8 → A9 → A10 → γ) (z:A1 × A2 × A3 × A4 × A5 × A6 × A7 × A8 × A9 × A10):γ:=f z.1 z.2.1 z.2.2.1 z.2.2.2.1 z.2.2.2.2.1 z.2.2.2.2.2.1 z.2.2.2.2.2.2.1 z.2.2.2.2.2.2.2.1 z.2.2.2.2.2.2.2.2.1 z.2.2.2.2.2.2.2.2.2
@[reducible] def un11 {A1 A2 A3 A4 A5 A6 A7 A8 A9 A10 A11 γ:Type} (f:A1 → A2 → A3 → A4 → A5 → A6 → A7 → A8 → A9 → A10 → A11 → γ) (z:A1 × A2 × A3 × A4 × A5 × A6 × A7 × A8 × A9 × A10 × A11):γ:=f z.1 z.2.1 z.2.2.1 z.2.2.2.1 z.2.2.2.2.1 z.2.2.2.2.2.1 z.2.2.2.2.2.2.1 z.2.2.2.2.2.2.2.1 z.2.2.2.2.2.2.2.2.1 z.2.2.2.2.2.2.2.2.2.1 z.2.2.2.2.2.2.2.2.2.2
@[reducible] def un12 {A1 A2 A3 A4 A5 A6 A7 A8 A9 A10 A11 A12 γ:Type} (f:A1 → A2 → A3 → A4 → A5 → A6 → A7 → A8 → A9 → A10 → A11 → A12 → γ) (z:A1 × A2 × A3 × A4 × A5 × A6 × A7 × A8 × A9 × A10 × A11 × A12):γ:=f z.1 z.2.1 z.2.2.1 z.2.2.2.1 z.2.2.2.2.1 z.2.2.2.2.2.1 z.2.2.2.2.2.2.1 z.2.2.2.2.2.2.2.1 z.2.2.2.2.2.2.2.2.1 z.2.2.2.2.2.2.2.2.2.1 z.2.2.2.2.2.2.2.2.2.2.1 z.2.2.2.2.2.2.2.2.2.2.2
@[reducible] def un13 {A1 A2 A3 A4 A5 A6 A7 A8 A9 A10 A11 A12 A13 γ:Type} (f:A1 → A2 → A3 → A4 → A5 → A6 → A7 → A8 → A9 → A10 → A11 → A12 → A13 → γ) (z:A1 × A2 × A3 × A4 × A5 × A6 × A7 × A8 × A9 × A10 × A11 × A12 × A13):γ:=f z.1 z.2.1 z.2.2.1 z.2.2.2.1 z.2.2.2.2.1 z.2.2.2.2.2.1 z.2.2.2.2.2.2.1 z.2.2.2.2.2.2.2.1 z.2.2.2.2.2.2.2.2.1 z.2.2.2.2.2.2.2.2.2.1 z.2.2.2.2.2.2.2.2.2.2.1 z.2.2.2.2.2.2.2.2.2.2.2.1 z.2.2.2.2.2.2.2.2.2.2.2.2
@[reducible] def un14 {A1 A2 A3 A4 A5 A6 A7 A8 A9 A10 A11 A12 A13 A14 γ:Type} (f:A1 → A2 → A3 → A4 → A5 → A6 → A7 → A8 → A9 → A10 → A11 → A12 → A13 → A14 → γ) (z:A1 × A2 × A3 × A4 × A5 × A6 × A7 × A8 × A9 × A10 × A11 × A12 × A13 × A14):γ:=f z.1 z.2.1 z.2.2.1 z.2.2.2.1 z.2.2.2.2.1 z.2.2.2.2.2.1 z.2.2.2.2.2.2.1 z.2.2.2.2.2.2.2.1 z.2.2.2.2.2.2.2.2.1 z.2.2.2.2.2.2.2.2.2.1 z.2.2.2.2.2.2.2.2.2.2.1 z.2.2.2.2.2.2.2.2.2.2.2.1 z.2.2.2.2.2.2.2.2.2.2.2.2.1 z.2.2.2.2.2.2.2.2.2.2.2.2.2
@[reducible] def un15 {A1 A2 A3 A4 A5 A6 A7 A8 A9 A10 A11 A12 A13 A14 A15 γ:Type} (f:A1 → A2 → A3 → A4 → A5 → A6 → A7 → A8 → A9 → A10 → A11 → A12 → A13 → A14 → A15 → γ) (z:A1 × A2 × A3 × A4 × A5 × A6 × A7 × A8 × A9 × A10 × A11 × A12 × A13 × A14 × A15):γ:=f z.1 z.2.1 z.2.2.1 z.2.2.2.1 z.2.2.2.2.1 z.2.2.2.2.2.1 z.2.2.2.2.2.2.1 z.2.2.2.2.2.2.2.1 z.2.2.2.2.2.2.2.2.1 z.2.2.2.2.2.2.2.2.2.1 z.2.2.2.2.2.2.2.2.2.2.1 z.2.2.2.2.2.2.2.2.2.2.2.1 z.2.2.2.2.2.2.2.2.2.2.2.2.1 z.2.2.2.2.2.2.2.2.2.2.2.2.2.1 z.2.2.2.2.2.2.2.2.2.2.2.2.2.2
@[reducible] def un16 {A1 A2 A3 A4 A5 A6 A7 A8 A9 A10 A11 A12 A13 A14 A15 aX γ:Type} (f:A1 → A2 → A3 → A4 → A5 → A6 → A7 → A8 → A9 → A10 → A11 → A12 → A13 → A14 → A15 → aX → γ) (z:A1 × A2 × A3 × A4 × A5 × A6 × A7 × A8 × A9 × A10 × A11 × A12 × A13 × A14 × A15 × aX):γ:=f z.1 z.2.1 z.2.2.1 z.2.2.2.1 z.2.2.2.2.1 z.2.2.2.2.2.1 z.2.2.2.2.2.2.1 z.2.2.2.2.2.2.2.1 z.2.2.2.2.2.2.2.2.1 z.2.2.2.2.2.2.2.2.2.1 z.2.2.2.2.2.2.2.2.2.2.1 z.2.2.2.2.2.2.2.2.2.2.2.1 z.2.2.2.2.2.2.2.2.2.2.2.2.1 z.2.2.2.2.2.2.2.2.2.2.2.2.2.1 z.2.2.2.2.2.2.2.2.2.2.2.2.2.2.1 z.2.2.2.2.2.2.2.2.2.2.2.2.2.2.2
section
variable {P:Program} {TB:aF} {E:Env TB} {n:Sh} {s:St} {dst:Option Nat} {t ty yt:TypeId} {pos:String} {after:Array Edge} {g:Option (Nat × Bool)} {x y c:Operand} {Q:bF} {cd:Code} {ops:Array Oper} {l:List Oper} {o:Oper}
variable {k kp i size bytes:Nat} {T e:TypeId} {hole:Dm} {ess:List (List (List CP))} {q:List (List CP)}
theorem aG.Gf {P:Program} {TB:aF} {f:FuncId} {args:List BV} {own_a own':List (Nat × OC)} {T:TypeId} {size:Nat} {es:List (List CP)} {res:SV} (h:aG P TB f own_a args (Is own' res)) (k0:Nat) (hk:lk own' k0 = some (.row T size es)):aG P TB f own_a args (Is (oH k0 (.sl size es) (del k0 own')) (res.dc k0 (.sl size es))):=by
 intro w hh ρ vals tb hag hl hargs
 refine (h w hh ρ vals tb hag hl hargs).mono ?_
 rintro e w' ⟨v,own',res,h',ρ',rfl,⟨rfl,rfl⟩,hw,hres⟩
 have hR:R ⟨w,hh,ρ,tb⟩ ⟨1,aq own_a,ai own_a,[]⟩ ⟨[(0,res)],own'⟩ ⟨#[v],[]⟩ w':=⟨rfl,rfl,h',ρ',WR.sh (n:=⟨0,aq own_a,ai own_a,[]⟩) (n':=⟨1,aq own_a,ai own_a,[]⟩) rfl rfl hw,fun k x hx=>by
  simp only [List.mem_singleton,Prod.mk.injEq] at hx
  obtain ⟨rfl,rfl⟩:=hx
  exact ⟨v,by simp,hres⟩⟩
 obtain ⟨_,_,h'',ρ'',hw'',hs''⟩:=hR.gL (k:=k0) hk
 obtain ⟨u,hu,hur⟩:=hs'' 0 (res.dc k0 (.sl size es)) (by simp [qv])
 have huv:u = v:=by simpa using hu.symm
 subst huv
 exact ⟨u,_,_,h'',ρ'',rfl,⟨rfl,rfl⟩,WR.sh (n:=⟨1,aq own_a,ai own_a,[]⟩) (n':=⟨0,aq own_a,ai own_a,[]⟩) rfl rfl hw'',hur⟩
theorem aR.then' {s1 s2:St} (h1:aR P E n o s s1) (h:∀ a w,R E n s1 a w → R E n s2 a w):aR P E n o s s2:=fun a w hr next Q hn=>h1 a w hr next Q fun a' w' hr'=>hn a' w' (h a' w' hr')
theorem aR.Hr (kos:List Nat) {s1 s2:St} (h1:aR P E n o s s1) (e:(⟨s1.slots,rQ kos s1.own⟩:St) = s2):aR P E n o s s2:=h1.then' fun a w hr=>e ▸ (by
 obtain ⟨hd,hn,h,ρ,hw,hs⟩:=hr
 exact ⟨hd,hn,h,ρ,hw.sub fun _ hp=>mw hp,hs⟩)
theorem aR.dc (k:Nat) {s1:St} {es:List (List CP)} (h1:aR P E n o s s1) (hk:lk s1.own k = some (.row T size es)):aR P E n o s ⟨qv k (.sl size es) s1.slots,oH k (.sl size es) (del k s1.own)⟩:=h1.then' fun a w hr=>hr.gL hk
theorem CE {α:Type} (k:Nat):∀ l:List (Nat × α),del k (del k l) = del k l
 | []=>rfl
 | (j,x) :: l=>by
  by_cases h:k == j
  ·simp only [del,h,if_true]; exact CE k l
  ·simp [del,h,CE k l]
theorem G2 {α:Type} (k:Nat) (c c0:α):∀ l:List (Nat × α),ins k c (ins k c0 l) = ins k c l
 | []=>by simp [ins,del]
 | (j,x) :: l=>by
  by_cases h:k == j
  ·simp only [ins,h,if_true]; simp [ins,CE]
  ·simp [ins,h,G2 k c c0 l]
theorem qd {α:Type} (k:Nat) (c:α):∀ l:List (Nat × α),lk (ins k c l) k = some c
 | []=>by simp [ins,lk]
 | (j,x) :: l=>by
  by_cases h:k == j
  ·simp [ins,h,lk]
  ·simp [ins,lk,h,qd k c l]
theorem ah.oK (k i size:Nat) {T:TypeId} {ps:List CP} (hk:lk s.own k = some (.box T ps)) (hi:ps[i]? = some .nil) (hz:0 < size) (h:ah P E n cd ⟨s.slots,ins k (.box T (ps.set i (.sl size []))) s.own⟩ Q):ah P E n cd s Q:=fun a w hr=>h a w (hr.oK hk hi hz)
theorem aj.oK (k i size:Nat) {T:TypeId} {ps:List CP} (hk:lk s.own k = some (.box T ps)) (hi:ps[i]? = some .nil) (hz:0 < size) (h:aj P E n ops l ⟨s.slots,ins k (.box T (ps.set i (.sl size []))) s.own⟩ Q):aj P E n ops l s Q:=fun a w hr=>h a w (hr.oK hk hi hz)
inductive vx:List CP → List CP → Prop
 | nil:vx [] []
 | same {p:CP} {ps qs:List CP}:vx ps qs → vx (p :: ps) (p :: qs)
 | sl {size:Nat} {ps qs:List CP}:0 < size → vx ps qs → vx (.nil :: ps) (.sl size [] :: qs)
inductive q5:List BV → List BV → Prop
 | nil:q5 [] []
 | same {p:BV} {ps qs:List BV}:q5 ps qs → q5 (p :: ps) (p :: qs)
 | sl {size:Nat} {ps qs:List BV}:0 < size → q5 ps qs → q5 (.one .nil :: ps) (.one (.sl size []) :: qs)
theorem Jd {h:PH} {size:Nat} {v:Value} (hz:0 < size) (hr:CP.nil.rel h v):(CP.sl size []).rel h v:=⟨fun ps hps=>by simp at hps,hz,.inl ⟨hr.1,rfl⟩⟩
theorem vx.rel {h:PH}:∀ {ps qs:List CP} {vs:List Value},vx ps qs → aA h ps vs → aA h qs vs
 | _,_,_,.nil,hr=>hr
 | _,_,_,.same hn,.cons a b=>.cons a (vx.rel hn b)
 | _,_,_,.sl hz hn,.cons a b=>.cons (Jd hz a) (vx.rel hn b)
theorem q5.rel {h:PH} {ρ:RM}:∀ {ps qs:List BV} {vs:List Value},q5 ps qs → aQ (fun (x:BV) u=>x.rel h ρ u ∧ u.oneCell' = true) ps vs → aQ (fun (x:BV) u=>x.rel h ρ u ∧ u.oneCell' = true) qs vs
 | _,_,_,.nil,hr=>hr
 | _,_,_,.same hn,.cons a b=>.cons a (q5.rel hn b)
 | _,_,_,.sl hz hn,.cons a b=>.cons ⟨Jd hz a.1,a.2⟩ (q5.rel hn b)
theorem aR.weak {s1:St} {x x':SV} (h1:aR P E n o s (s1.put n o.dst x)) (hx:∀ (h:PH) (ρ:RM) (v:Value),x.rel h ρ v → x'.rel h ρ v):aR P E n o s (s1.put n o.dst x'):=h1.then' fun a w hr=>by
 obtain ⟨hd,hn,h,ρ,hw,hs⟩:=hr
 have hown:∀ (x:SV),(s1.put n o.dst x).own = s1.own:=fun x=>by
  unfold St.put; split
  ·unfold St.set; split <;> rfl
  ·rfl
 refine ⟨hd,hn,h,ρ,by rw [hown] at hw ⊢; exact hw,fun j y hy=>?_⟩
 cases hdst:o.dst with
 | none=>rw [hdst] at hy hs; exact hs j y hy
 | some d=>
  rw [hdst] at hy hs
  simp only [St.put,St.set] at hy hs
  split at hy
  ·next hlt=>
   simp only [hlt,if_true] at hs
   cases List.mem_cons.1 hy with
   | inl e=>
    obtain ⟨rfl,rfl⟩:=Prod.mk.inj e
    obtain ⟨v,hv,hrel⟩:=hs j x List.mem_cons_self
    exact ⟨v,hv,hx h ρ v hrel⟩
   | inr e=>exact hs j y (List.mem_cons_of_mem _ e)
  ·next hlt=>
   simp only [hlt,if_false] at hs
   exact hs j y hy
end
section
variable {P:Program} {TB:aF} {E:Env TB} {n:Sh} {s:St} {Q:bF} {cd:Code} {ops:Array Oper} {l:List Oper}
end
section
variable {P:Program} {TB:aF} {E:Env TB} {n:Sh} {s:St} {dst:Option Nat} {t ty yt:TypeId} {pos:String} {after:Array Edge} {g:Option (Nat × Bool)} {x y c:Operand}
end
section
open Go Go.BigFrame Go.RowKit Go.Proofs Go.Shelf
variable {P:Program} {TB:aF} {ρ:Ren}
end
end Go.Sk
namespace Go.Sk
set_option linter.unusedSimpArgs false
set_option linter.unusedVariables false
open Go Go.ChangeShapes Go.WideShapes Go.ChangeAt Go.RowKit Go.Deep
theorem lb.sl {P:Program} {t el:TypeId} {α:Type} {e:α → List CP} {size:Nat} (ht:P.underlying t = some (.slice el)) (hc:P.cellsOf t = 1) (hr:lb P el e) (hs:P.cellsOf el = size) (hpos:0 < size):lb P t (eL size e) where
 len _:=by simp [hc,eL]
 op {H enc W sp held fuel cs x} hsp hf:=by
  subst hs
  have hu:∀ l:List α,cb (P.cellsOf el) (l.map e):=fun l=>ko fun x=>hr.len x
  rcases open_slice ht hf with ⟨h1,hx0⟩ | ⟨a,len,cap,m,n,D,Pl,h1,hb,hl,hm,hmm,hx,hi⟩
  ·subst h1
   exact ⟨[],.cons ⟨hu [],hpos,.inl ⟨rfl,rfl⟩⟩ .nil⟩
  ·subst h1
   rw [hsp,if_pos rfl] at hmm
   subst hmm
   by_cases hm0:m = 0
   ·subst hm0
    have:len = 0:=by omega
    subst this
    exact ⟨[],.cons ⟨hu [],hpos,.inr (.inr ⟨a,rfl,rfl⟩)⟩ .nil⟩
   ·obtain ⟨l,hll,hp⟩:=mM (p:=fun i a'=>aA (full W) (e a') ((W.cells? 0 (a.add (i * P.cellsOf el)) (P.cellsOf el)).getD [])) len fun i hil=>by
     obtain ⟨cs',h2,h3⟩:=hi i (by omega)
     obtain ⟨a',ha'⟩:=hr.op hsp h3
     exact ⟨a',by rw [h2]; exact ha'⟩
    have hspot:a.spot = none:=by
     obtain ⟨cs',h2,_⟩:=hi 0 (by omega)
     obtain ⟨_,hcl,hcell⟩:=World.cells?_some h2
     have h3:=hcell 0 hpos
     rw [Nat.zero_mul] at h3
     have e0:(a.add 0).add 0 = a:=by simp [Addr.add]
     rw [e0] at h3
     have hlt:0 < cs'.length:=by omega
     rw [List.getElem?_eq_getElem hlt] at h3
     unfold World.cell? at h3
     split at h3
     ·split at h3
      ·cases h3
      ·next hns=>simpa using hns
     ·cases h3
    obtain ⟨b,o,s⟩:=a
    simp only at hspot
    subst hspot
    refine ⟨l,.cons ⟨hu l,hpos,.inr (.inl ⟨b,o,m,by simp [hll],by simp [hll]; omega,hm,?_⟩)⟩ .nil⟩
    intro j c hj
    have hjl:j < (l.map e).flatten.length:=(List.getElem?_eq_some_iff.1 hj).1
    rw [gF (hu l),List.length_map,hll] at hjl
    have hi':j / P.cellsOf el < len:=by
     rw [Nat.div_lt_iff_lt_mul hpos]; exact hjl
    have hj':j % P.cellsOf el < P.cellsOf el:=Nat.mod_lt _ hpos
    have hdm:=Nat.div_add_mod j (P.cellsOf el)
    obtain ⟨cs',h2,h3⟩:=hi (j / P.cellsOf el) (by omega)
    have hli:l[j / P.cellsOf el]? = some (l[j / P.cellsOf el]'(by omega)):=List.getElem?_eq_getElem (by omega)
    have hrel:=hp _ _ hli
    rw [h2] at hrel
    have hget:=kO (hu l) (j / P.cellsOf el) (e (l[j / P.cellsOf el]'(by omega))) (by rw [List.getElem?_map,hli]; rfl) (j % P.cellsOf el) hj'
    have ej:j / P.cellsOf el * P.cellsOf el + j % P.cellsOf el = j:=by rw [Nat.mul_comm]; omega
    rw [ej,hj] at hget
    obtain ⟨u,hu1,hu2⟩:=aQ.get hrel _ _ hget.symm
    refine ⟨u,?_,hu2⟩
    obtain ⟨_,hcl,hcell⟩:=World.cells?_some h2
    have:=hcell _ hj'
    simp only [Option.getD_some] at hu1
    have ea:((⟨b,o,none⟩:Addr).add (j / P.cellsOf el * P.cellsOf el)).add (j % P.cellsOf el) = ⟨b,o + j,none⟩:=by
     rw [iJ,iJ,Nat.add_assoc,ej]
    rw [hu1,ea] at this
    exact gR this (CP.one _ hu2)
end Go.Sk
namespace Go.Sk
set_option linter.unusedSimpArgs false
set_option linter.unusedVariables false
open Go
end Go.Sk
namespace Go.Sk
set_option linter.unusedSimpArgs false
set_option linter.unusedVariables false
open Go Go.ChangeShapes Go.WideShapes Go.ChangeAt Go.RowKit Go.Deep
structure BkOk {H:Type} (bk:DataW H → Nat):Prop where
 len:∀ els sp,els.length ≤ bk (.slice els sp)
 sl:∀ els sp d,d ∈ els → bk d ≤ bk (.slice els sp)
 agg:∀ ps d,d ∈ ps → bk d ≤ bk (.agg ps)
 str:∀ b:List UInt8,b.length ≤ bk (.lit (.string b))
structure pH (P:Program) (t:TypeId) {α:Type} (e:α → List CP) (B:α → Nat → Prop):Prop where
 len:∀ a,(e a).length = P.cellsOf t
 mono:∀ a n m,B a n → n ≤ m → B a m
 op:∀ {H:Type} {enc:TypeId × Value → H} {W:World} {sp:Nat → Bool} {held:Bool} {fuel:Nat} {cs:List Value} {x:DataW H × List MemPlace},(∀ b,sp b = true) → DataW.trod enc P W 0 sp held fuel t cs = some x → ∃ a,aA (full W) (e a) cs ∧ ∀ bk:DataW H → Nat,BkOk bk → B a (bk x.1)
theorem pH.sl {P:Program} {t el:TypeId} {α:Type} {e:α → List CP} {B:α → Nat → Prop} {size:Nat} (ht:P.underlying t = some (.slice el)) (hc:P.cellsOf t = 1) (hr:pH P el e B) (hs:P.cellsOf el = size) (hpos:0 < size):pH P t (eL size e) (fun l n=>l.length ≤ n ∧ ∀ a ∈ l,B a n) where
 len _:=by simp [hc,eL]
 mono l n m h hnm:=⟨by have:=h.1; omega,fun a ha=>hr.mono a n m (h.2 a ha) hnm⟩
 op {H enc W sp held fuel cs x} hsp hf:=by
  subst hs
  have hu:∀ l:List α,cb (P.cellsOf el) (l.map e):=fun l=>ko fun x=>hr.len x
  rcases open_slice ht hf with ⟨h1,hx0⟩ | ⟨a,len,cap,m,n,D,Pl,h1,hb,hl,hm,hmm,hx,hi⟩
  ·subst h1
   exact ⟨[],.cons ⟨hu [],hpos,.inl ⟨rfl,rfl⟩⟩ .nil,fun bk hbk=>⟨Nat.zero_le _,by simp⟩⟩
  ·subst h1
   rw [hsp,if_pos rfl] at hmm
   subst hmm
   by_cases hm0:m = 0
   ·subst hm0
    have:len = 0:=by omega
    subst this
    exact ⟨[],.cons ⟨hu [],hpos,.inr (.inr ⟨a,rfl,rfl⟩)⟩ .nil,fun bk hbk=>⟨Nat.zero_le _,by simp⟩⟩
   ·obtain ⟨l,hll,hp⟩:=mM (p:=fun i a'=>aA (full W) (e a') ((W.cells? 0 (a.add (i * P.cellsOf el)) (P.cellsOf el)).getD []) ∧ ∀ bk:DataW H → Nat,BkOk bk → B a' (bk (D i))) len fun i hil=>by
     obtain ⟨cs',h2,h3⟩:=hi i (by omega)
     obtain ⟨a',ha',hB⟩:=hr.op hsp h3
     exact ⟨a',by rw [h2]; exact ha',hB⟩
    have hspot:a.spot = none:=by
     obtain ⟨cs',h2,_⟩:=hi 0 (by omega)
     obtain ⟨_,hcl,hcell⟩:=World.cells?_some h2
     have h3:=hcell 0 hpos
     rw [Nat.zero_mul] at h3
     have e0:(a.add 0).add 0 = a:=by simp [Addr.add]
     rw [e0] at h3
     have hlt:0 < cs'.length:=by omega
     rw [List.getElem?_eq_getElem hlt] at h3
     unfold World.cell? at h3
     split at h3
     ·split at h3
      ·cases h3
      ·next hns=>simpa using hns
     ·cases h3
    obtain ⟨b,o,s⟩:=a
    simp only at hspot
    subst hspot
    refine ⟨l,.cons ⟨hu l,hpos,.inr (.inl ⟨b,o,m,by simp [hll],by simp [hll]; omega,hm,?_⟩)⟩ .nil,fun bk hbk=>?_⟩
    ·intro j c hj
     have hjl:j < (l.map e).flatten.length:=(List.getElem?_eq_some_iff.1 hj).1
     rw [gF (hu l),List.length_map,hll] at hjl
     have hi':j / P.cellsOf el < len:=by
      rw [Nat.div_lt_iff_lt_mul hpos]; exact hjl
     have hj':j % P.cellsOf el < P.cellsOf el:=Nat.mod_lt _ hpos
     have hdm:=Nat.div_add_mod j (P.cellsOf el)
     obtain ⟨cs',h2,h3⟩:=hi (j / P.cellsOf el) (by omega)
     have hli:l[j / P.cellsOf el]? = some (l[j / P.cellsOf el]'(by omega)):=List.getElem?_eq_getElem (by omega)
     have hrel:=(hp _ _ hli).1
     rw [h2] at hrel
     have hget:=kO (hu l) (j / P.cellsOf el) (e (l[j / P.cellsOf el]'(by omega))) (by rw [List.getElem?_map,hli]; rfl) (j % P.cellsOf el) hj'
     have ej:j / P.cellsOf el * P.cellsOf el + j % P.cellsOf el = j:=by rw [Nat.mul_comm]; omega
     rw [ej,hj] at hget
     obtain ⟨u,hu1,hu2⟩:=aQ.get hrel _ _ hget.symm
     refine ⟨u,?_,hu2⟩
     obtain ⟨_,hcl,hcell⟩:=World.cells?_some h2
     have:=hcell _ hj'
     simp only [Option.getD_some] at hu1
     have ea:((⟨b,o,none⟩:Addr).add (j / P.cellsOf el * P.cellsOf el)).add (j % P.cellsOf el) = ⟨b,o + j,none⟩:=by
      rw [iJ,iJ,Nat.add_assoc,ej]
     rw [hu1,ea] at this
     exact gR this (CP.one _ hu2)
    ·subst hx
     refine ⟨?_,fun a' ha'=>?_⟩
     ·show l.length ≤ bk (.slice ((List.range len).map D) ((List.range (m - len)).map fun j=>D (len + j)))
      have:=hbk.len ((List.range len).map D) ((List.range (m - len)).map fun j=>D (len + j))
      simp only [List.length_map,List.length_range] at this
      omega
     ·obtain ⟨i,hil,rfl⟩:=List.getElem_of_mem ha'
      have h6:=(hp i _ (List.getElem?_eq_getElem hil)).2 bk hbk
      exact hr.mono _ _ _ h6 (hbk.sl _ _ _ (List.mem_map.2 ⟨i,List.mem_range.2 (by omega),rfl⟩))
inductive tB (P:Program) (fs:Array Field) (T:Nat):Nat → Nat → {β:Type} → (β → List CP) → (β → Nat → Prop) → Prop where
 | nil {i:Nat} (hi:fs.size ≤ i):tB P fs T i T (fun _:Unit=>[]) (fun _ _=>True)
 | cons {i o:Nat} {α β:Type} {e:α → List CP} {B:α → Nat → Prop} {es:β → List CP} {Bs:β → Nat → Prop} {f:Field} (hf:fs[i]? = some f) (ho:f.offset = o) (hr:pH P f.type e B) (h:tB P fs T (i + 1) (o + P.cellsOf f.type) es Bs):tB P fs T i o (fun x:α × β=>e x.1 ++ es x.2) (fun x n=>B x.1 n ∧ Bs x.2 n)
theorem tB.op {P:Program} {fs:Array Field} {T i o:Nat} {β:Type} {es:β → List CP} {Bs:β → Nat → Prop} (h:tB P fs T i o es Bs) {H:Type} {enc:TypeId × Value → H} {W:World} {sp:Nat → Bool} {held:Bool} {n:Nat} {cs:List Value} {xs:List (DataW H × List MemPlace)} (hsp:∀ b,sp b = true) (hl:cs.length = T)
  (hx:xs.length = fs.size) (hv:∀ (j:Nat) (f:Field),fs[j]? = some f → DataW.trod enc P W 0 sp held n f.type ((cs.drop f.offset).take (P.cellsOf f.type)) = xs[j]?):∃ b,aA (full W) (es b) (cs.drop o) ∧ ∀ bk:DataW H → Nat,BkOk bk → Bs b (bk (.agg (xs.map (·.1)))):=by
 induction h with
 | nil hi=>exact ⟨(),by rw [List.drop_of_length_le (by omega)]; exact .nil,fun _ _=>trivial⟩
 | @cons i o α β e B es Bs f hf ho hr h ih=>
  obtain ⟨b,hb,hB⟩:=ih
  have hi:i < xs.length:=by
   rw [hx]
   exact (Array.getElem?_eq_some_iff.1 hf).1
  have h1:=hv i f hf
  rw [List.getElem?_eq_getElem hi] at h1
  obtain ⟨a,ha,hA⟩:=hr.op hsp h1
  refine ⟨(a,b),?_,fun bk hbk=>⟨hr.mono _ _ _ (hA bk hbk) (hbk.agg _ _ (List.mem_map.2 ⟨xs[i],List.getElem_mem hi,rfl⟩)),hB bk hbk⟩⟩
  have e1:cs.drop o = (cs.drop o).take (P.cellsOf f.type) ++ cs.drop (o + P.cellsOf f.type):=by
   rw [← List.drop_drop,List.take_append_drop]
  rw [e1]
  subst ho
  exact aQ.append ha hb
theorem pH.struct {P:Program} {t:TypeId} {fs:Array Field} {α β:Type} {e:α → List CP} {es:β → List CP} {B:α → Nat → Prop} {Bs:β → Nat → Prop} (g:β → α) (ht:P.underlying t = some (.struct fs)) (h:tB P fs (P.cellsOf t) 0 0 es Bs) (hl:∀ a,(e a).length = P.cellsOf t) (he:∀ b,e (g b) = es b) (hB:∀ b n,Bs b n → B (g b) n) (hm:∀ a n m,B a n → n ≤ m → B a m):pH P t e B where
 len:=hl
 mono:=hm
 op hsp hh:=by
  obtain ⟨xs,n,_,hx,hcl,hxl,hv⟩:=DataW.trod_struct ht hh
  obtain ⟨b,hb,hB'⟩:=h.op hsp hcl hxl hv
  refine ⟨g b,by rw [he]; exact hb,fun bk hbk=>?_⟩
  rw [hx]
  exact hB _ _ (hB' bk hbk)
theorem pH.str {P:Program} {t:TypeId} (ht:P.underlying t = some .string) (hc:P.cellsOf t = 1):pH P t eS (fun x n=>x.length ≤ n) where
 len _:=by simp [hc,eS]
 mono _ _ _ h hnm:=Nat.le_trans h hnm
 op _ h:=by
  obtain ⟨s,rfl,rfl,hs⟩:=DataW.trod_string ht h
  refine ⟨s.data.toList,.cons ⟨?_,?_⟩ .nil,fun bk hbk=>hbk.str _⟩
  ·cases s with | mk d=>cases d; rfl
  ·simpa using hs
section
variable {P:Program} {TB:aF} {E:Env TB} {n:Sh} {s s':St}
inductive sE (P:Program) (s:St):ResultVar → BV → Prop
 | Da {rv:ResultVar} {z:BV} (h:pC P s rv z):sE P s rv z
 | xa {t k off m:Nat} {T T':TypeId} {cs zs:List BV} {qs:List CV} (ht:gg P T m) (h:s.get t = some (.b (.ptr k off))) (hk:lk s.own k = some (.ba T' cs)) (hp:(cs.drop off).take m = zs) (hq:zs.length = m) (hc:xcv zs = some qs):sE P s (.cell t T) (.xa qs)
 | x1 {t k off:Nat} {T T':TypeId} {cs:List BV} {z:BV} (ht:cS P T) (h:s.get t = some (.b (.ptr k off))) (hk:lk s.own k = some (.ba T' cs)) (hp:cs[off]? = some z):sE P s (.cell t T) z
theorem sE.run {rv:ResultVar} {z:BV} (hr:sE P s rv z) {a:Act} {w:World} {h:PH} {ρ:RM} (hw:WR E n s.own h ρ w) (hs:bp h ρ s.slots a.tmps) :
  ∃ v,(∀ w₂,bI w w₂ → (jk a.tmps rv).run P w₂ = .ok v w₂) ∧ z.rel h ρ v:=by
 cases hr with
 | Da h=>exact h.run hw hs
 | @xa t' k off m T T' cs zs qs ht h' hk hp hq hc=>
  obtain ⟨v,hv,b,he,hv'⟩:=hs _ _ (bh (show lk s.slots _ = some _ from h'))
  obtain ⟨b',cur,hb1,hb2,hb3⟩:=fe hw hk
  have:b' = b:=by rw [hb1] at he; simpa using he
  subst this
  have hcr:aQ (CR h ρ) zs ((cur.toList.drop off).take m):=by rw [← hp]; exact aQ.take (aQ.drop hb3 off) m
  have hrun:=fun w₂ (hle:bI w w₂)=>jy ht (w:=w₂) (b:=b') (o:=off) (cs:=(cur.toList.drop off).take m) (by rw [← hcr.length,hq]) (fun j v hv=>by
   refine hle _ _ _ ?_
   rw [gr hb2]
   rw [List.getElem?_take] at hv
   split at hv
   ·simpa using hv
   ·simp at hv)
  have hg:a.tmps.getD t' undef = .pointer (some ⟨b',off,none⟩):=by simp [Array.getD_eq_getD_getElem?,hv,hv']
  refine ⟨.agg ((cur.toList.drop off).take m).toArray,fun w₂ hle=>?_,_,rfl,Gz hc (by rw [show (List.take m (List.drop off cur.toList)).toArray.toList = _ from rfl]; exact hcr)⟩
  simp only [jk,hg]
  simp [asAddr,hrun w₂ hle]
 | @x1 t' k off T T' cs z ht h' hk hp=>
  obtain ⟨v,hv,b,he,hv'⟩:=hs _ _ (bh (show lk s.slots _ = some _ from h'))
  obtain ⟨b',cur,hb1,hb2,hb3⟩:=fe hw hk
  have:b' = b:=by rw [hb1] at he; simpa using he
  subst this
  obtain ⟨u,hu,hpu⟩:=hb3.get off z hp
  have hrun:=fun w₂ (hle:bI w w₂)=>jx ht (w:=w₂) (b:=b') (o:=off) (v:=u) (hle _ _ _ (by rw [gr hb2]; simpa using hu))
  have hg:a.tmps.getD t' undef = .pointer (some ⟨b',off,none⟩):=by simp [Array.getD_eq_getD_getElem?,hv,hv']
  refine ⟨u,fun w₂ hle=>?_,hpu.1⟩
  simp only [jk,hg]
  simp [asAddr,hrun w₂ hle]
theorem CM {fn:Func} {zs:List BV} (hr:aQ (sE P s) fn.results.toList zs) {a:Act} {w:World} {h:PH} {ρ:RM} (hw:WR E n s.own h ρ w) (hs:bp h ρ s.slots a.tmps) :
  ∃ v,(∀ w₂,bI w w₂ → (results fn a.tmps).run P w₂ = .ok v w₂) ∧ (vq zs).rel h ρ v:=by
 have key:∀ (rs:List ResultVar) (zs:List BV),aQ (sE P s) rs zs → ∃ vs,(∀ w₂,bI w w₂ → (rs.mapM (jk a.tmps)).run P w₂ = .ok vs w₂) ∧ aQ (fun (x:BV) u=>x.rel h ρ u) zs vs:=by
  intro rs zs hh
  induction hh with
  | nil=>exact ⟨[],fun _ _=>by simp,.nil⟩
  | cons h' _ ih=>
   obtain ⟨v,hv,hrel⟩:=h'.run hw hs
   obtain ⟨vs,hvs,hall⟩:=ih
   refine ⟨v :: vs,fun w₂ hle=>?_,.cons hrel hall⟩
   rw [List.mapM_cons,Sem.run_bind,hv w₂ hle,Result.andThen,Sem.run_bind,hvs w₂ hle]
   rfl
 obtain ⟨vs,hvs,hall⟩:=key _ _ hr
 have hm:∀ w₂,bI w w₂ → (fn.results.mapM (jk a.tmps)).run P w₂ = .ok vs.toArray w₂:=fun w₂ hle=>by
  rw [Array.mapM_eq_mapM_toList]
  simp [hvs w₂ hle]
 cases hall with
 | nil=>exact ⟨.tuple #[],fun w₂ hle=>by rw [mA,Sem.run_bind,hm w₂ hle,Result.andThen]; simp,_,rfl,.nil⟩
 | @cons z v zs' vs' h1 h2=>
  cases h2 with
  | nil=>exact ⟨v,fun w₂ hle=>by rw [mA,Sem.run_bind,hm w₂ hle,Result.andThen]; simp,h1⟩
  | @cons z2 v2 zs2 vs2 h3 h4=>
   exact ⟨.tuple (v :: v2 :: vs2).toArray,fun w₂ hle=>by rw [mA,Sem.run_bind,hm w₂ hle,Result.andThen]; simp,_,rfl,by simpa using .cons h1 (.cons h3 h4)⟩
theorem Fin.q7 {fn:Func} {post:dQ} {e:Exit} {rs:List ResultVar} (ks:List Nat) (zs:List BV) (he:e = .ret ∨ e = .normal) (hrs:fn.results.toList = rs) (hr:aQ (sE P s) rs zs) (hp:post (rQ ks s.own) (vq zs)):Fin E n e s (yP P fn E n post):=by
 intro a w ⟨h1,h2,h,ρ,hw,hs⟩
 obtain ⟨v,hv,hrel⟩:=CM (fn:=fn) (hrs ▸ hr) hw hs
 have:a.defers = n.dfs ∧ ∃ v,(∀ w₂,bI w w₂ → (results fn a.tmps).run P w₂ = .ok v w₂) ∧ iD E n post (.returned v) w:=⟨h1,v,hv,v,rQ ks s.own,_,h,ρ,rfl,hp,hw.sub fun _ hp=>mw hp,hrel⟩
 rcases he with rfl | rfl <;> exact this
end
end Go.Sk
namespace Go.Sk
set_option linter.unusedSimpArgs false
set_option linter.unusedVariables false
open Go Go.ChangeShapes Go.WideShapes Go.ChangeAt Go.RowKit Go.Deep Go.BigFrame
section
variable {P:Program} {TB:aF} {E:Env TB} {n:Sh} {s s':St} {dst:Option Nat} {t ty yt:TypeId} {pos:String} {after:Array Edge} {g:Option (Nat × Bool)} {x y c:Operand} {ops:Array Oper} {l:List Oper} {Q:bF} {cd:Code}
end
section
variable {P:Program} {TB:aF} {E:Env TB} {n:Sh} {s s':St} {dst:Option Nat} {t ty yt:TypeId} {pos:String} {after:Array Edge} {g:Option (Nat × Bool)} {x y c:Operand} {ops:Array Oper} {l:List Oper} {Q:bF} {cd:Code}
variable {own:List (Nat × OC)} {h:PH} {ρ:RM} {w:World} {k kp i size bytes:Nat} {T e:TypeId} {ess:List (List (List CP))} {us:List Value} {v:Value}
end
end Go.Sk
namespace Go.Sk
set_option linter.unusedSimpArgs false
set_option linter.unusedVariables false
open Go Go.ChangeShapes Go.WideShapes Go.ChangeAt Go.RowKit Go.Deep Go.BigFrame
section
variable {P:Program} {TB:aF} {E:Env TB} {n:Sh} {s s':St} {dst:Option Nat} {t ty yt:TypeId} {pos:String} {after:Array Edge} {g:Option (Nat × Bool)} {x y c:Operand} {ops:Array Oper} {l:List Oper} {Q:bF} {cd:Code}
theorem Gl {α:Type} {c:Bool} {A B:Option α} {r:α} {G:Prop} (h:(if c = true then A else B) = some r) (h1:c = true → A = some r → G) (h2:c = false → B = some r → G):G:=by
 cases c
 ·exact h2 rfl h
 ·exact h1 rfl h
theorem aG.cast {f:FuncId} {own own2 own' own2':List (Nat × OC)} {args args2:List BV} {res res2:SV} (h:aG P TB f own args (Is own' res)) (h1:own = own2) (h2:args = args2) (h3:own' = own2') (h4:res = res2):aG P TB f own2 args2 (Is own2' res2):=by
 subst h1 h2 h3 h4; exact h
end
end Go.Sk
namespace Go.Sk
set_option linter.unusedSimpArgs false
set_option linter.unusedVariables false
open Go Go.BigFrame
inductive Tre (α:Type) where
 | leaf
 | node (a:α) (l r:Tre α)
 deriving DecidableEq
instance {α:Type}:Inhabited (Tre α):=⟨.leaf⟩
section
variable {α:Type} {P:Program} {TB:aF} {E:Env TB} {n:Sh} {s s':St} {ops:Array Oper} {l:List Oper} {Q:bF} {cd:Code} {enc:α → List CP} {dst:Option Nat} {t ty yt:TypeId} {pos:String} {after:Array Edge} {g:Option (Nat × Bool)} {x y:Operand}
end
end Go.Sk
namespace Go.Sk
set_option linter.unusedSimpArgs false
set_option linter.unusedVariables false
open Go Go.BigFrame
section
variable {P:Program} {TB:aF} {E:Env TB} {n:Sh} {s s':St} {ops:Array Oper} {l:List Oper} {Q:bF} {cd:Code} {dst:Option Nat} {t ty yt:TypeId} {pos:String} {after:Array Edge} {g:Option (Nat × Bool)} {x y:Operand}
end
end Go.Sk
namespace Go.Sk
set_option linter.unusedSimpArgs false
set_option linter.unusedVariables false
open Go Go.BigFrame
section
variable {P:Program} {TB:aF} {E:Env TB} {n:Sh} {s s':St} {ops:Array Oper} {l:List Oper} {Q:bF} {cd:Code} {dst:Option Nat} {t ty yt:TypeId} {pos:String} {after:Array Edge} {g:Option (Nat × Bool)} {x y:Operand}
end
end Go.Sk
