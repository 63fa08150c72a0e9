/- part of the proof: the framework -/
import Derived.Test.YtnpddoaeoefcnaaF1
import Derived.Laws.BytesArg
import Derived.ChangeKeysEq
import Derived.Lib.ConvBytes
import Derived.Below
import Derived.Lib.LaidTab
import Derived.Scope
import Derived.Shelf.Vars
import Derived.MapKept
import Derived.Shelf.Sort.Plain
import Derived.Shelf.Slices.CompactI
import Derived.RangeFuncNested
import Derived.RangeFuncLeaves
import Derived.LoopNIn
import Derived.Maps.RangeRun
namespace Go.Sk
set_option linter.unusedSimpArgs false
set_option linter.unusedVariables false
open Go
section
variable {P:Program} {TB:b5} {E:Env TB} {n:Sh} {s s':St} {dst:Option Nat} {t ty yt:TypeId} {pos:String} {after:Array Edge} {g:Option (Nat × Bool)} {x y c:Operand} {k:IntKind} {a b:Int} {ops:Array Oper} {l:List Oper} {Q:dN} {cd:Code}
theorem jy {src d:TypeId} {k k0:IntKind} {a:Int} (hsrc:P.underlying src = some (.int k0)) (ht:P.underlying d = some (.int k)) (hx:s.ev x = some (.b (.one (.int k0 a)))) :
  bD P E n ⟨dst,.convert src d x,ty,pos,after,g⟩ s (s.put n dst (.b (.one (.int k (k.wrap a))))) :=
 bD.val (o:=⟨dst,.convert src d x,ty,pos,after,g⟩) fun ac w h' ρ hw hs=>by
  refine ⟨.int k (k.wrap a),?_,rfl,tN _ _⟩
  simp only [execOp,(eV hs hx).1]
  simp [convert,run_underlying hsrc,run_underlying ht,Conv.intToInt]
theorem q9 {k2:IntKind} {m:Nat} (hm:m ≤ k.bits) (hx:s.ev x = some (.b (.one (.int k a)))) (hy:s.ev y = some (.b (.one (.int k2 (m:Int))))) {q:Int} (hq:a / 2 ^ m = q) :
  bD P E n ⟨dst,.binOp .shr t x y yt,ty,pos,after,g⟩ s (s.put n dst (.b (.one (.int k q)))) :=
 bD.val (o:=⟨dst,.binOp .shr t x y yt,ty,pos,after,g⟩) fun ac w h' ρ hw hs=>by
  have hra:=(eV hs hx).2
  have hpos:(0:Int) < 2 ^ m:=Int.pow_pos (by decide)
  refine ⟨.int k q,?_,rfl,?_⟩
  ·have hmin:min m k.bits = m:=Nat.min_eq_left hm
   have hd:a.fdiv (2 ^ m) = q:=by rw [← hq,Int.fdiv_eq_ediv_of_nonneg _ (Int.pow_nonneg (by decide))]
   simp only [execOp,(eV hs hx).1,(eV hs hy).1]
   have hneg:¬ ((m:Int) < 0):=by omega
   simp [eqGuard,binOp,Op.shift,hmin,hd,hneg]
  ·unfold si at hra ⊢
   have h5:k.min ≤ 0:=by cases k <;> simp [IntKind.min,IntKind.signed,IntKind.bits]
   have h6:0 ≤ k.max:=by cases k <;> simp [IntKind.max,IntKind.signed,IntKind.bits]
   subst hq
   by_cases h0:0 ≤ a
   ·have h1:0 ≤ a / 2 ^ m:=Int.ediv_nonneg h0 (Int.le_of_lt hpos)
    have h2:a / 2 ^ m ≤ a:=Int.ediv_le_self _ h0
    omega
   ·have h1:a / 2 ^ m ≤ 0:=by
     have:=Int.ediv_neg_of_neg_of_pos (by omega:a < 0) hpos; omega
    have h2:a ≤ a / 2 ^ m:=by
     rw [Int.le_ediv_iff_mul_le hpos]
     have h3:(1:Int) ≤ 2 ^ m:=by omega
     have h4:a * 2 ^ m ≤ a * 1:=Int.mul_le_mul_of_nonpos_left (by omega) h3
     omega
    omega
def CV.gv (k k':Nat):CV → CV
 | .row j=>if j == k then .row k' else .row j
 | .ptr j o=>if j == k then .ptr k' o else .ptr j o
 | z=>z
def BV.gv (k k':Nat):BV → BV
 | .row j=>if j == k then .row k' else .row j
 | .ptr j o=>if j == k then .ptr k' o else .ptr j o
 | .eQ j o=>if j == k then .eQ k' o else .eQ j o
 | .part j a b c d=>if j == k then .part k' a b c d else .part j a b c d
 | .wK j a b c=>if j == k then .wK k' a b c else .wK j a b c
 | .iK f fs cs=>.iK f (fs.map (·.gv k k')) (cs.map (·.gv k k'))
 | .xa cs=>.xa (cs.map (·.gv k k'))
 | z=>z
def SV.gv (k k':Nat):SV → SV
 | .b z=>.b (z.gv k k')
 | .gR l=>.gR (l.map (·.gv k k'))
 | .gw l=>.gw (l.map (·.gv k k'))
 | .opt c z=>.opt c (z.gv k k')
def renS (k k':Nat) (l:List (Nat × SV)):List (Nat × SV):=l.map fun p=>(p.1,p.2.gv k k')
theorem CV.hJ {h:PH} {ρ ρ':RM} {k k':Nat} (hk:ρ' k' = ρ k) {z:CV} (ho:∀ j,j ≠ k → z.bU j = true → ρ' j = ρ j) {v:Value} (hz:z.rel h ρ v):(z.gv k k').rel h ρ' v:=by
 cases z with
 | row j=>
  by_cases e:j = k
  ·subst e; simpa [CV.gv,CV.rel,hk] using hz
  ·have:=ho j e (by simp [CV.bU]); simpa [CV.gv,CV.rel,e,this] using hz
 | ptr j o=>
  by_cases e:j = k
  ·subst e; simpa [CV.gv,CV.rel,hk] using hz
  ·have:=ho j e (by simp [CV.bU]); simpa [CV.gv,CV.rel,e,this] using hz
 | one p=>exact hz
theorem CV.xw {h:PH} {ρ ρ':RM} {k k':Nat} (hk:ρ' k' = ρ k):∀ {l:List CV} {vs:List Value},(∀ j,j ≠ k → l.any (·.bU j) = true → ρ' j = ρ j) → bl (fun (x:CV) v=>x.rel h ρ v) l vs → bl (fun (x:CV) v=>x.rel h ρ' v) (l.map (·.gv k k')) vs
 | _,_,_,.nil=>.nil
 | _,_,ho,.cons h1 t=>.cons (CV.hJ hk (fun j hj hu=>ho j hj (by simp [hu])) h1) (CV.xw hk (fun j hj hu=>ho j hj (by simp only [List.any_cons,hu,Bool.or_true])) t)
theorem CV.renAX {h:PH} {ρ ρ':RM} {k k':Nat} (hk:ρ' k' = ρ k):∀ {l:List CV} {vs:List Value},(∀ j,j ≠ k → l.any (·.bU j) = true → ρ' j = ρ j) → bl (fun (x:CV) v=>x.rel h ρ v ∧ v.oneCell' = true) l vs → bl (fun (x:CV) v=>x.rel h ρ' v ∧ v.oneCell' = true) (l.map (·.gv k k')) vs
 | _,_,_,.nil=>.nil
 | _,_,ho,.cons h1 t=>.cons ⟨CV.hJ hk (fun j hj hu=>ho j hj (by simp [hu])) h1.1,h1.2⟩ (CV.renAX hk (fun j hj hu=>ho j hj (by simp only [List.any_cons,hu,Bool.or_true])) t)
theorem BV.hJ {h:PH} {ρ ρ':RM} {k k':Nat} (hk:ρ' k' = ρ k) {z:BV} (ho:∀ j,j ≠ k → z.bU j = true → ρ' j = ρ j) {v:Value} (hz:z.rel h ρ v):(z.gv k k').rel h ρ' v:=by
 cases z with
 | row j=>
  by_cases e:j = k
  ·subst e; simpa [BV.gv,BV.rel,hk] using hz
  ·have:=ho j e (by simp [BV.bU]); simpa [BV.gv,BV.rel,e,this] using hz
 | ptr j o=>
  by_cases e:j = k
  ·subst e; simpa [BV.gv,BV.rel,hk] using hz
  ·have:=ho j e (by simp [BV.bU]); simpa [BV.gv,BV.rel,e,this] using hz
 | eQ j o=>
  by_cases e:j = k
  ·subst e; simpa [BV.gv,BV.rel,hk] using hz
  ·have:=ho j e (by simp [BV.bU]); simpa [BV.gv,BV.rel,e,this] using hz
 | part j a b c d=>
  by_cases e:j = k
  ·subst e; simpa [BV.gv,BV.rel,hk] using hz
  ·have:=ho j e (by simp [BV.bU]); simpa [BV.gv,BV.rel,e,this] using hz
 | wK j a b c=>
  by_cases e:j = k
  ·subst e; simpa [BV.gv,BV.rel,hk] using hz
  ·have:=ho j e (by simp [BV.bU]); simpa [BV.gv,BV.rel,e,this] using hz
 | one p=>exact hz
 | agg ps=>exact hz
 | cx ps=>exact hz
 | xa cs=>
  obtain ⟨a,e,h1⟩:=hz
  exact ⟨a,e,CV.renAX hk (fun j hj hu=>ho j hj hu) h1⟩
 | iK f fs cs=>
  obtain ⟨a,b,e,h1,h2⟩:=hz
  exact ⟨a,b,e,CV.xw hk (fun j hj hu=>ho j hj (by simp only [BV.bU,hu,Bool.true_or])) h1,CV.xw hk (fun j hj hu=>ho j hj (by simp only [BV.bU,hu,Bool.or_true])) h2⟩
theorem SV.hJ {h:PH} {ρ ρ':RM} {k k':Nat} (hk:ρ' k' = ρ k) {z:SV} (ho:∀ j,j ≠ k → z.bU j = true → ρ' j = ρ j) {v:Value} (hz:z.rel h ρ v):(z.gv k k').rel h ρ' v:=by
 cases z with
 | b z=>exact BV.hJ hk ho hz
 | opt c z=>exact ⟨fun e=>BV.hJ hk ho (hz.1 e),hz.2⟩
 | gR zs=>
  obtain ⟨vs,e,ha⟩:=hz
  refine ⟨vs,e,?_⟩
  clear e
  have ho':∀ j,j ≠ k → zs.any (·.bU j) = true → ρ' j = ρ j:=ho
  clear ho
  generalize vs.toList = vl at ha
  induction ha with
  | nil=>exact .nil
  | cons h1 t ih=>
   refine .cons (BV.hJ hk (fun j hj hu=>ho' j hj (by simp [hu])) h1) (ih fun j hj hu=>ho' j hj (by simp only [List.any_cons,hu,Bool.or_true]))
 | gw zs=>
  obtain ⟨vs,e,ha⟩:=hz
  refine ⟨vs,e,?_⟩
  clear e
  have ho':∀ j,j ≠ k → zs.any (·.bU j) = true → ρ' j = ρ j:=ho
  clear ho
  generalize vs.toList = vl at ha
  induction ha with
  | nil=>exact .nil
  | cons h1 t ih=>
   refine .cons ⟨BV.hJ hk (fun j hj hu=>ho' j hj (by simp [hu])) h1.1,h1.2⟩ (ih fun j hj hu=>ho' j hj (by simp only [List.any_cons,hu,Bool.or_true]))
def OC.gv (k k':Nat):OC → OC
 | .aW T cs=>.aW T (cs.map (·.gv k k'))
 | .mp es=>.mp (es.map fun q=>(q.1,q.2.gv k k'))
 | .ly j m rest cur=>.ly (if j == k then k' else j) m rest cur
 | c=>c
def renO (k k':Nat) (l:List (Nat × OC)):List (Nat × OC):=l.map fun p=>(p.1,p.2.gv k k')
theorem OC.renA_ok {h:PH} {ρ ρ':RM} {k k':Nat} (hk:ρ' k' = ρ k) {c:OC} (ho:∀ j,j ≠ k → c.bU j = true → ρ' j = ρ j) {v:Value} {w:World} (hc:c.ok h ρ v w):(c.gv k k').ok h ρ' v w:=by
 cases c with
 | box T ps=>exact hc
 | row T size es=>exact hc
 | jI T size es=>exact hc
 | sit q pos=>exact hc
 | mq m=>exact hc
 | rr=>exact hc
 | ly j m rest cur=>
  obtain ⟨b,ms,clk,D,seen,x⟩:=hc
  refine ⟨b,ms,clk,D,seen,x.ptr,x.it,?_,x.obj,x.ents,x.born,x.left,x.at_⟩
  by_cases e:j = k
  ·subst e; simpa using hk.trans x.map
  ·simpa [e] using (ho j e (by simp [OC.bU])).trans x.map
 | mp es=>
  obtain ⟨b,ms,clk,e1,e2,ha,e3⟩:=hc
  refine ⟨b,ms,clk,e1,e2,?_,e3⟩
  clear e2 e3
  have ho':∀ j,j ≠ k → (es.any (·.2.bU j)) = true → ρ' j = ρ j:=ho
  clear ho
  unfold iw at ha ⊢
  generalize ms.toList = l at ha
  induction ha with
  | nil=>exact .nil
  | cons h1 t ih=>exact .cons ⟨h1.1,BV.hJ hk (fun j hj hu=>ho' j hj (by simp [hu])) h1.2⟩ (ih fun j hj hu=>ho' j hj (by simp only [List.any_cons,hu,Bool.or_true]))
 | aW T cs=>
  obtain ⟨b,cur,e1,e2,ha⟩:=hc
  refine ⟨b,cur,e1,e2,?_⟩
  clear e2
  have ho':∀ j,j ≠ k → (cs.any (·.bU j)) = true → ρ' j = ρ j:=ho
  clear ho
  generalize cur.toList = l at ha
  induction ha with
  | nil=>exact .nil
  | cons h1 t ih=>exact .cons ⟨BV.hJ hk (fun j hj hu=>ho' j hj (by simp [hu])) h1.1,h1.2⟩ (ih fun j hj hu=>ho' j hj (by simp only [List.any_cons,hu,Bool.or_true]))
theorem OC.qj {k k':Nat} {c:OC} {v:Value} {w:World} {b:Nat}:(c.gv k k').cu v w b ↔ c.cu v w b:=by cases c <;> exact Iff.rfl
theorem R.rename {a:Act} {w:World} {c:OC} (hr:R E n s a w) (k k':Nat) (hk:lk s.own k = some c) (hne:k' ≠ k) (hfx:n.fix.contains k' = false) (hnu:dx k' s.own = true):R E n ⟨renS k k' (bT k' s.slots),ins k' (c.gv k k') (renO k k' (del k s.own))⟩ a w:=by
 obtain ⟨hd,hn,h,ρ,hw,hs⟩:=hr
 have hfx':k' ∉ n.fix:=by simpa using hfx
 refine ⟨hd,hn,h,kM ρ k' (ρ k),⟨hw.agree,hw.le,hw.fresh,hw.size,hw.same,fun j hj=>?_,hw.os,hw.out,hw.nl,?_⟩,?_⟩
 ·have hjk:j ≠ k':=fun e=>by subst e; exact hfx' hj
  rw [bx _ _ hjk]; exact hw.fixed j hj
 ·have hkm:=bn hk
  have old:∀ j x,(j,x) ∈ ins k' (c.gv k k') (renO k k' (del k s.own)) → ∃ i y,(i,y) ∈ s.own ∧ x = y.gv k k' ∧ kM ρ k' (ρ k) j = ρ i ∧ (j = k' → i = k) ∧ (j ≠ k' → i = j ∧ j ≠ k):=fun j x hj=>by
   rcases gf hj with ⟨rfl,rfl⟩ | ⟨h1,h2⟩
   ·exact ⟨k,c,hkm,rfl,bC _ _ _,fun _=>rfl,fun e=>absurd rfl e⟩
   ·obtain ⟨⟨j0,y⟩,h3,he⟩:=List.mem_map.1 h2
    obtain ⟨rfl,rfl⟩:=Prod.mk.inj he
    obtain ⟨h4,h5⟩:=cV h3
    exact ⟨_,y,h4,rfl,bx _ _ h1,fun e=>absurd e h1,fun _=>⟨rfl,h5⟩⟩
  intro j x hj
  obtain ⟨i,y,hi,rfl,hρ,hi1,hi2⟩:=old j x hj
  obtain ⟨e1,e2,e3⟩:=hw.owned i y hi
  rw [hρ]
  refine ⟨OC.renA_ok (bC _ _ _) (fun q _ hu=>bx _ _ fun e=>?_) e1,fun b hb=>e2 b (OC.qj.1 hb),fun j' x' hj' hne' b hb=>?_⟩
  ·subst e
   rw [jM hnu hi] at hu
   simp at hu
  obtain ⟨i',y',hi',rfl,hρ',hi1',hi2'⟩:=old j' x' hj'
  rw [hρ']
  refine fun hb'=>e3 i' y' hi' (fun e=>hne' ?_) b (OC.qj.1 hb) (OC.qj.1 hb')
  by_cases h1:j = k'
  ·by_cases h2:j' = k'
   ·rw [h1,h2]
   ·have:=hi1 h1; have h3:=hi2' h2; omega
  ·have h3:=hi2 h1
   by_cases h2:j' = k'
   ·have:=hi1' h2; omega
   ·have:=hi2' h2; omega
 ·intro i z hz
  obtain ⟨⟨i0,z0⟩,hm,he⟩:=List.mem_map.1 hz
  obtain ⟨rfl,rfl⟩:=Prod.mk.inj he
  obtain ⟨hm1,hm2⟩:=fm hm
  obtain ⟨v,hv,hrel⟩:=hs _ _ hm1
  refine ⟨v,hv,SV.hJ (bC _ _ _) (fun j _ hu=>bx _ _ fun e=>?_) hrel⟩
  subst e
  rw [hm2] at hu
  simp at hu
theorem Fin.rename {e:Exit} (k k':Nat) {c:OC} (hk:lk s.own k = some c) (hne:k' ≠ k) (hfx:n.fix.contains k' = false) (h:Fin E n e ⟨renS k k' (bT k' s.slots),ins k' (c.gv k k') (renO k k' (del k s.own))⟩ Q) (hnu:dx k' s.own = true:=by rfl):Fin E n e s Q:=fun a w hr=>h a w (hr.rename k k' hk hne hfx hnu)
theorem ab.rename (k k':Nat) {c:OC} (hk:lk s.own k = some c) (hne:k' ≠ k) (hfx:n.fix.contains k' = false) (h:ab P E n cd ⟨renS k k' (bT k' s.slots),ins k' (c.gv k k') (renO k k' (del k s.own))⟩ Q) (hnu:dx k' s.own = true:=by rfl):ab P E n cd s Q:=fun a w hr=>h a w (hr.rename k k' hk hne hfx hnu)
end
end Go.Sk
namespace Go.Sk
set_option linter.unusedSimpArgs false
set_option linter.unusedVariables false
open Go Go.BigFrame
section
variable {P:Program} {TB:b5} {E:Env TB} {n:Sh} {s s':St} {dst:Option Nat} {t ty yt:TypeId} {pos:String} {after:Array Edge} {g:Option (Nat × Bool)} {x y c:Operand} {ops:Array Oper} {l:List Oper} {Q:dN} {cd:Code}
def BV.cv:BV → Option CV
 | .one p=>some (.one p)
 | .ptr k o=>some (.ptr k o)
 | .row k=>some (.row k)
 | _=>none
def CV.bv:CV → BV
 | .one p=>.one p
 | .ptr k o=>.ptr k o
 | .row k=>.row k
theorem BV.yh {h:PH} {ρ:RM} {z:BV} {q:CV} (hq:z.cv = some q) {v:Value} (hv:z.rel h ρ v):q.rel h ρ v:=by
 cases z <;> simp [BV.cv] at hq <;> subst hq <;> exact hv
theorem CV.yi {h:PH} {ρ:RM} {q:CV} {v:Value} (hv:q.rel h ρ v):q.bv.rel h ρ v:=by cases q <;> exact hv
def CR (h:PH) (ρ:RM) (z:BV) (u:Value):Prop:=z.rel h ρ u ∧ u.oneCell' = true
def BV.qf (own:List (Nat × OC)):BV → Bool
 | .one _=>true
 | .ptr _ _=>true
 | .iK _ _ _=>true
 | .row j=>match lk own j with
  | some (.row _ _ _)=>true
  | some (.mq _)=>true
  | _=>false
 | _=>false
theorem CV.bvX {h:PH} {ρ:RM}:∀ {l:List CV} {vs:List Value},bl (fun (x:CV) v=>x.rel h ρ v ∧ v.oneCell' = true) l vs → bl (CR h ρ) (l.map CV.bv) vs
 | _,_,.nil=>.nil
 | _,_,.cons h1 t=>.cons ⟨CV.yi h1.1,h1.2⟩ (CV.bvX t)
theorem cell_of {own:List (Nat × OC)} {h:PH} {ρ:RM} {w:World} (hw:WR E n own h ρ w) {z:BV} (hz:z.qf own = true) {v:Value} (hv:z.rel h ρ v):CR h ρ z v:=by
 refine ⟨hv,?_⟩
 cases z with
 | one p=>exact p.one hv
 | ptr k off=>obtain ⟨b,_,rfl⟩:=hv; rfl
 | iK f fs cs=>obtain ⟨a,b,rfl,_⟩:=hv; rfl
 | row j=>
  have hv':v = ρ j:=hv
  simp only [BV.qf] at hz
  cases e:lk own j with
  | none=>rw [e] at hz; simp at hz
  | some c=>
   rw [e] at hz
   cases c with
   | row T size es=>
    obtain ⟨_,_,hf⟩:=iP hw e
    rcases hf with ⟨h1,_⟩ | ⟨b,cap,cur,h1,_⟩ <;> rw [hv',h1] <;> rfl
   | mq m=>
    obtain ⟨b,ms,clk,h1,_⟩:=(hw.owned j _ (bn e)).1
    rw [hv',h1]
    rfl
   | _=>simp at hz
 | _=>simp [BV.qf] at hz
theorem gE (ρ:RM) (k:Nat):kM ρ k (ρ k) = ρ:=by funext j; simp only [kM]; split <;> simp_all
theorem WR.uG {own:List (Nat × OC)} {h:PH} {ρ:RM} {w:World} (hw:WR E n own h ρ w) {k:Nat} {c0 c':OC} (hk:lk own k = some c0) (hc:c'.ok h ρ (ρ k) w) (hpl:c'.plain = true:=by rfl):WR E n (ins k c' own) h ρ w:=by
 have:=hw.step (w':=w) k (ρ k) c' (bf (ρ k)) (fun b e=>⟨c0,bn hk,e⟩) (Nat.le_refl _) rfl rfl (fun _ _ _=>rfl) (by rw [gE]; exact hc) (fun b hb=>.inl hb) (.inl rfl) (.inl rfl) hpl
 rwa [gE] at this
theorem jO {own:List (Nat × OC)} {h:PH} {ρ:RM} {w:World} (hw:WR E n own h ρ w) {k:Nat} {T:TypeId} {cs:List BV} (hk:lk own k = some (.aW T cs)) :
  ∃ b cur,ρ k = .pointer (some ⟨b,0,none⟩) ∧ w.heap[b]? = some (.cells cur T (0,0)) ∧ bl (CR h ρ) cs cur.toList:=(hw.owned k _ (bn hk)).1
theorem pN {h:PH} {ρ:RM}:∀ {ps:List CP} {vs:List Value},aS h ps vs → bl (CR h ρ) (ps.map BV.one) vs
 | [],_,h=>by cases h; exact .nil
 | p :: ps,_,h=>by cases h with | cons h1 h2=>exact .cons ⟨h1,p.one h1⟩ (pN h2)
theorem tQ {h:PH} {ρ:RM}:∀ {ps:List CP} {vs:List Value},bl (CR h ρ) (ps.map BV.one) vs → aS h ps vs
 | [],_,h=>by cases h; exact .nil
 | p :: ps,_,h=>by cases h with | cons h1 h2=>exact .cons h1.1 (tQ h2)
theorem R.uF {a:Act} {w:World} (hr:R E n s a w) (k:Nat) {T:TypeId} {ps:List CP} (hk:lk s.own k = some (.box T ps)):R E n ⟨s.slots,ins k (.aW T (ps.map .one)) s.own⟩ a w:=by
 obtain ⟨hd,hn,h,ρ,hw,hs⟩:=hr
 obtain ⟨b,cur,e1,e2,e3⟩:=jN hw hk
 exact ⟨hd,hn,h,ρ,hw.uG hk ⟨b,cur,e1,e2,pN e3⟩,hs⟩
def wN:List BV → Option (List CP)
 | []=>some []
 | .one p :: l=>(wN l).map (p :: ·)
 | _ :: _=>none
theorem wo:∀ {cs:List BV} {ps:List CP},wN cs = some ps → cs = ps.map BV.one
 | [],ps,h=>by simp [wN] at h; subst h; rfl
 | z :: cs,ps,h=>by
  cases z with
  | one p=>
   simp only [wN,Option.map_eq_some_iff] at h
   obtain ⟨q,hq,rfl⟩:=h
   rw [wo hq]; rfl
  | _=>simp [wN] at h
theorem R.forget {a:Act} {w:World} (hr:R E n s a w) (k off:Nat) {T:TypeId} {cs:List BV} (hk:lk s.own k = some (.aW T cs)):R E n ⟨s.slots,ins k (.aW T (cs.set off (.one .any))) s.own⟩ a w:=by
 obtain ⟨hd,hn,h,ρ,hw,hs⟩:=hr
 obtain ⟨b,cur,e1,e2,e3⟩:=jO hw hk
 refine ⟨hd,hn,h,ρ,hw.uG hk ⟨b,cur,e1,e2,?_⟩,hs⟩
 have:∀ {cs:List BV} {vs:List Value} (i:Nat),bl (CR h ρ) cs vs → bl (CR h ρ) (cs.set i (.one .any)) vs:=by
  intro cs vs i ha
  induction ha generalizing i with
  | nil=>simp; exact .nil
  | cons h1 t ih=>cases i with
   | zero=>simp; exact .cons ⟨h1.2,h1.2⟩ t
   | succ i=>simp; exact .cons h1 (ih i)
 exact this off e3
theorem ab.uF (k:Nat) {T:TypeId} {ps:List CP} (hk:lk s.own k = some (.box T ps)) (h:ab P E n cd ⟨s.slots,ins k (.aW T (ps.map .one)) s.own⟩ Q):ab P E n cd s Q:=fun a w hr=>h a w (hr.uF k hk)
theorem af.uF (k:Nat) {T:TypeId} {ps:List CP} (hk:lk s.own k = some (.box T ps)) (h:af P E n ops l ⟨s.slots,ins k (.aW T (ps.map .one)) s.own⟩ Q):af P E n ops l s Q:=fun a w hr=>h a w (hr.uF k hk)
theorem Fin.uF {e:Exit} (k:Nat) {T:TypeId} {ps:List CP} (hk:lk s.own k = some (.box T ps)) (h:Fin E n e ⟨s.slots,ins k (.aW T (ps.map .one)) s.own⟩ Q):Fin E n e s Q:=fun a w hr=>h a w (hr.uF k hk)
theorem ab.forget (k off:Nat) {T:TypeId} {cs:List BV} (hk:lk s.own k = some (.aW T cs)) (h:ab P E n cd ⟨s.slots,ins k (.aW T (cs.set off (.one .any))) s.own⟩ Q):ab P E n cd s Q:=fun a w hr=>h a w (hr.forget k off hk)
theorem af.forget (k off:Nat) {T:TypeId} {cs:List BV} (hk:lk s.own k = some (.aW T cs)) (h:af P E n ops l ⟨s.slots,ins k (.aW T (cs.set off (.one .any))) s.own⟩ Q):af P E n ops l s Q:=fun a w hr=>h a w (hr.forget k off hk)
theorem Fin.forget {e:Exit} (k off:Nat) {T:TypeId} {cs:List BV} (hk:lk s.own k = some (.aW T cs)) (h:Fin E n e ⟨s.slots,ins k (.aW T (cs.set off (.one .any))) s.own⟩ Q):Fin E n e s Q:=fun a w hr=>h a w (hr.forget k off hk)
theorem aX {k off:Nat} {T:TypeId} {cs:List BV} {z:BV} (ht:fq P t) (hx:s.ev x = some (.b (.ptr k off))) (hk:lk s.own k = some (.aW T cs)) (hp:cs[off]? = some z) :
  bD P E n ⟨dst,.load t x,ty,pos,after,g⟩ s (s.put n dst (.b z)) :=
 bD.val (o:=⟨dst,.load t x,ty,pos,after,g⟩) fun ac w h ρ hw hs=>by
  obtain ⟨b,he,hv⟩:=(ba hs hx:BV.rel h ρ (.ptr k off) _)
  obtain ⟨b',cur,hb1,hb2,hb3⟩:=jO hw hk
  have:b' = b:=by rw [hb1] at he; simpa using he
  subst this
  obtain ⟨u,hu,hpu⟩:=hb3.get off z hp
  have:=iD ht (w:=w) (b:=b') (o:=off) (v:=u) (by rw [gF hb2]; simpa using hu)
  refine ⟨u,?_,hpu.1⟩
  simp only [execOp,hv,Instr.loadAt,Instr.sureAddr]
  simp [this]
theorem hU {k off m:Nat} {T:TypeId} {cs zs:List BV} (ht:j9 P t m) (hx:s.ev x = some (.b (.ptr k off))) (hk:lk s.own k = some (.aW T cs)) (hp:(cs.drop off).take m = zs) (hq:zs.length = m) :
  bD P E n ⟨dst,.load t x,ty,pos,after,g⟩ s (s.put n dst (.gw zs)) :=
 bD.val (o:=⟨dst,.load t x,ty,pos,after,g⟩) fun ac w h ρ hw hs=>by
  obtain ⟨b,he,hv⟩:=(ba hs hx:BV.rel h ρ (.ptr k off) _)
  obtain ⟨b',cur,hb1,hb2,hb3⟩:=jO hw hk
  have:b' = b:=by rw [hb1] at he; simpa using he
  subst this
  have hc:bl (CR h ρ) zs ((cur.toList.drop off).take m):=by rw [← hp]; exact bl.take (bl.drop hb3 off) m
  refine ⟨.agg ((cur.toList.drop off).take m).toArray,?_,_,rfl,hc⟩
  have:=jx ht (w:=w) (b:=b') (o:=off) (cs:=(cur.toList.drop off).take m) (by rw [← hc.length,hq]) (fun j v hv=>by
   rw [gF hb2]
   rw [List.getElem?_take] at hv
   split at hv
   ·simpa using hv
   ·simp at hv)
  simp only [execOp,hv,Instr.loadAt,Instr.sureAddr]
  simp [this]
theorem ld {k off m:Nat} {T:TypeId} {cs:List BV} {qs:List CP} (ht:j9 P t m) (hx:s.ev x = some (.b (.ptr k off))) (hk:lk s.own k = some (.aW T cs)) (hp:wN ((cs.drop off).take m) = some qs) (hq:qs.length = m) :
  bD P E n ⟨dst,.load t x,ty,pos,after,g⟩ s (s.put n dst (.b (.agg qs))):=by
 intro a w hr next Q hnext
 refine hU ht hx hk (wo hp) (by simpa using hq) a w hr next Q fun a' w' hr'=>hnext a' w' ?_
 obtain ⟨hd,hn,h,ρ,hw,hs⟩:=hr'
 refine ⟨hd,hn,h,ρ,?_,?_⟩
 ·cases dst with
  | none=>exact hw
  | some d=>
   simp only [St.put,St.set] at hw ⊢
   split at hw
   ·rename_i hdn; simp only [hdn,if_true]; exact hw
   ·rename_i hdn; simp only [hdn,if_false]; exact hw
 ·cases dst with
  | none=>exact hs
  | some d=>
   simp only [St.put,St.set] at hs ⊢
   split at hs
   ·rename_i hdn
    simp only [hdn,if_true]
    intro j y hy
    cases List.mem_cons.1 hy with
    | inl e=>
     obtain ⟨rfl,rfl⟩:=Prod.mk.inj e
     obtain ⟨v,hv,vs,e2,ha⟩:=hs j _ List.mem_cons_self
     exact ⟨v,hv,vs,e2,tQ ha⟩
    | inr e=>exact hs j y (List.mem_cons_of_mem _ e)
   ·rename_i hdn
    simp only [hdn,if_false]
    exact hs
theorem WR.setX {h:PH} {ρ:RM} {own:List (Nat × OC)} {w:World} (hw:WR E n own h ρ w) {k b:Nat} {T:TypeId} {ps ps':List BV} {cur:Array Value} {cs:List Value} (hk:lk own k = some (.aW T ps)) (hρ:ρ k = .pointer (some ⟨b,0,none⟩))
  (hb:w.heap[b]? = some (.cells cur T (0,0))) (hr:bl (CR h ρ) ps' cs):WR E n (ins k (.aW T ps') own) h ρ (w.setRow b cs.toArray):=by
 have hst:=hw.step (w':=w.setRow b cs.toArray) k (ρ k) (.aW T ps') (some b) (fun b' e=>by cases e; exact ⟨_,bn hk,by rw [hρ]; rfl⟩) (by simp) rfl rfl
  (fun b' _ hne=>setRow_other _ _ _ _ (fun e=>hne (by rw [e]))) (by rw [gE]; exact ⟨b,cs.toArray,hρ,setRow_heap _ _ _ _ _ _ hb,hr⟩) (fun b' hb'=>by rw [hρ] at hb'; simp [bf] at hb'; exact .inl (by rw [hb'])) (.inl rfl) (.inl rfl)
 rwa [gE] at hst
theorem sR {v:Value} (h:v.oneCell' = true):v.cells = #[v]:=by cases v <;> first | rfl | simp [Value.oneCell'] at h
theorem fU {k off:Nat} {T:TypeId} {cs cs':List BV} {z:BV} (ht:fq P t) (hx:s.ev x = some (.b (.ptr k off))) (hk:lk s.own k = some (.aW T cs)) (hy:s.ev y = some (.b z)) (hz:z.qf s.own = true) (hlt:off < cs.length) (hps:cs.set off z = cs') :
  bD P E n ⟨none,.store t x y,ty,pos,after,g⟩ s ⟨s.slots,ins k (.aW T cs') s.own⟩ :=
 bD.store (o:=⟨none,.store t x y,ty,pos,after,g⟩) rfl fun ac w h ρ hw hs=>by
  obtain ⟨b,he,hv⟩:=(ba hs hx:BV.rel h ρ (.ptr k off) _)
  obtain ⟨b',cur,hb1,hb2,hb3⟩:=jO hw hk
  have:b' = b:=by rw [hb1] at he; simpa using he
  subst this
  have hp:CR h ρ z (ac.eval y):=cell_of hw hz (ba hs hy)
  obtain ⟨i,hi,hm⟩:=ht.size
  have hcells:=sR hp.2
  have hlen:=hb3.length
  have hrun:=iC (P:=P) (t:=t) hi hm hb2 (v:=ac.eval y) (o:=off) (by rw [hcells]; rfl) (by simp at hlen; omega) (by rw [hcells]; simpa using hp.2)
  refine ⟨_,by simp only [execOp,hv,Instr.storeAt,Instr.sureAddr]; simp [hrun]; rfl,?_⟩
  refine hw.setX hk hb1 hb2 ?_
  rw [← hps]
  have hset:Sk.b7 cur.toList off (ac.eval y).cells.toList = cur.toList.set off (ac.eval y):=by
   rw [hcells]
   have:off < cur.toList.length:=by rw [← hlen]; exact hlt
   simp only [Sk.b7,List.length_cons,List.length_nil]
   rw [List.set_eq_take_append_cons_drop,if_pos this]; simp
  rw [hset]
  exact bl.set hb3 off hp
theorem yB {T k:Nat} {zs:List BV} (hx:s.ev x = some (.gw zs)) (hfx:n.fix.contains k = false) (hself:(zs.any (·.bU k)) = false) (hnu:dx k s.own = true:=by rfl):bD P E n ⟨dst,.box T x,ty,pos,after,g⟩ s ((⟨bT k s.slots,ins k (.aW T zs) s.own⟩:St).put n dst (.b (.ptr k 0))) :=
 bD.make (hfx:=hfx) (hnu:=hnu) (o:=⟨dst,.box T x,ty,pos,after,g⟩) fun ac w h ρ hw hs=>by
  obtain ⟨cs,hv,hr⟩:=(ba hs hx:SV.rel h ρ (.gw zs) _)
  refine ⟨.pointer (some ⟨w.heap.size,0,none⟩),.pointer (some ⟨w.heap.size,0,none⟩),w.alloc (.cells cs T),none,?_,fun b e=>by simp at e,by simp,rfl,rfl,fun b hb _=>heap_alloc_old w _ hb,OC.ok.tE (c:=.aW T zs) ⟨w.heap.size,cs,rfl,heap_alloc_new w _,hr⟩ fun j hj=>bx _ _ fun e=>by subst e; simp only [OC.bU] at hj; rw [hself] at hj; simp at hj,
   fun b e=>by simp [bf] at e; subst e; exact .inr (Nat.le_refl _),w.heap.size,bC _ _ _,rfl⟩
  simp only [execOp,hv]
  simp [Instr.box,newVar,newRow,Value.cells]
def SV.oY (own:List (Nat × OC)):SV → Option (List BV)
 | .b (.agg ps)=>some (ps.map .one)
 | .b (.xa cs)=>some (cs.map CV.bv)
 | .b z=>if z.qf own = true then some [z] else none
 | .gw l=>some l
 | _=>none
theorem SV.rF {own:List (Nat × OC)} {h:PH} {ρ:RM} {w:World} (hw:WR E n own h ρ w) {z:SV} {ps:List BV} {v:Value} (hz:z.oY own = some ps) (hv:z.rel h ρ v):bl (CR h ρ) ps v.cells.toList:=by
 cases z with
 | b z=>
  have one:∀ z:BV,(if z.qf own = true then some [z] else none) = some ps → z.rel h ρ v → bl (CR h ρ) ps v.cells.toList:=fun z hz hv=>by
   split at hz
   ·next hc=>
    simp at hz; subst hz
    have hcr:=cell_of hw hc hv
    rw [sR hcr.2]; exact .cons hcr .nil
   ·simp at hz
  cases z with
  | agg qs=>simp [SV.oY] at hz; subst hz; obtain ⟨cs,rfl,hr⟩:=hv; exact pN hr
  | xa cs=>simp [SV.oY] at hz; subst hz; obtain ⟨vs,rfl,hr⟩:=hv; exact CV.bvX hr
  | one p=>exact one (.one p) hz hv
  | ptr k o=>exact one (.ptr k o) hz hv
  | row k=>exact one (.row k) hz hv
  | eQ k o=>exact one (.eQ k o) hz hv
  | part k a b c d=>exact one (.part k a b c d) hz hv
  | cx ps=>exact one (.cx ps) hz hv
  | wK k a b c=>exact one (.wK k a b c) hz hv
  | iK f fs cs=>exact one (.iK f fs cs) hz hv
 | gw l=>simp [SV.oY] at hz; subst hz; obtain ⟨cs,rfl,hr⟩:=hv; exact hr
 | _=>simp [SV.oY] at hz
def nL (s:St):List (Nat × Operand) → Option (List (Nat × List BV))
 | []=>some []
 | (i,x) :: l=>(s.ev x).bind fun z=>(z.oY s.own).bind fun ps=>(nL s l).map fun r=>(i,ps) :: r
def tI (place:Nat → Option (Nat × Nat)) (zs:List BV):List (Nat × List BV) → Option (List BV)
 | []=>some zs
 | (i,qs) :: r=>(place i).bind fun q=>if qs.length = q.2 ∧ q.1 + qs.length ≤ zs.length then tI place (b7 zs q.1 qs) r else none
theorem sz {h:PH} {ρ:RM} {w:World} (hw:WR E n s.own h ρ w) {ac:Act} (hs:bM h ρ s.slots ac.tmps) (place:Nat → Option (Nat × Nat)):∀ (parts:List (Nat × Operand)) (cps:List (Nat × List BV)) (zs qs:List BV) (zc:Array Value),
  nL s parts = some cps → tI place zs cps = some qs → bl (CR h ρ) zs zc.toList → ∃ cs,Instr.fill place zc (parts.map fun p=>(p.1,ac.eval p.2)) = some cs ∧ bl (CR h ρ) qs cs.toList
 | [],cps,zs,qs,zc,he,hf,hz=>by
  simp [nL] at he; subst he
  simp [tI] at hf; subst hf
  exact ⟨zc,rfl,hz⟩
 | (i,x) :: l,cps,zs,qs,zc,he,hf,hz=>by
  unfold nL at he
  simp only [Option.bind_eq_some_iff,Option.map_eq_some_iff] at he
  obtain ⟨z,hz1,ps,hps,r,hr,rfl⟩:=he
  unfold tI at hf
  simp only [Option.bind_eq_some_iff] at hf
  obtain ⟨⟨off,size⟩,hpl,hf⟩:=hf
  split at hf
  ·rename_i hc
   obtain ⟨hc1,hc2⟩:=hc
   have hrel:=SV.rF hw hps (ba hs hz1)
   have hl:=hrel.length
   have hzl:=hz.length
   simp only [Array.length_toList] at hl hzl
   dsimp only at hc1 hc2 hf
   have hsp:((ac.eval x).cells.zipIdx.foldl (fun cs (p:Value × Nat)=>cs.setIfInBounds (off + p.2) p.1) zc).toList = b7 zc.toList off (ac.eval x).cells.toList:=by
    have:=rC off (ac.eval x).cells.toList 0 zc (by simp; omega)
    rw [Nat.add_zero] at this
    rw [← this,← Array.foldl_toList]
    congr 2
    simp
   obtain ⟨cs,h1,h2⟩:=sz hw hs place l r (b7 zs off ps) qs _ hr hf (by rw [hsp]; exact bl.b7 hz hrel off)
   refine ⟨cs,?_,h2⟩
   simp only [List.map_cons,Instr.fill,hpl]
   rw [if_neg (by simp; omega)]
   exact h1
  ·simp at hf
theorem lf {pl:List (Nat × Nat)} {zs:List CP} {qs:List BV} {parts:Array (Nat × Operand)} {cps:List (Nat × List BV)} (ht:lS P t pl zs) (hp:nL s parts.toList = some cps) (hf:tI (pl.toArray[·]?) (zs.map .one) cps = some qs) :
  bD P E n ⟨dst,.build t parts,ty,pos,after,g⟩ s (s.put n dst (.gw qs)) :=
 bD.val (o:=⟨dst,.build t parts,ty,pos,after,g⟩) fun ac w h ρ hw hs=>by
  obtain ⟨it,z,fs,h1,h2,h3,h4,h5⟩:=ht.info
  obtain ⟨cs,hc1,hc2⟩:=sz hw hs (pl.toArray[·]?) parts.toList cps (zs.map .one) qs z.cells hp hf (pN (lQ h h3))
  refine ⟨.agg cs,?_,cs,rfl,hc2⟩
  have hb:P.built t (parts.map fun (i,x)=>(i,ac.eval x)).toList = some cs:=by
   simp only [Program.built,h1,h4,h2,h5]
   rw [← hc1]
   simp
  have:=run_build (P:=P) w t _ cs hb
  simp only [execOp]
  simp [this]
def mk? {α:Type} (z:α) (len cap:Int):Option (List α):=if 0 ≤ len ∧ len ≤ cap ∧ cap ≤ 1000000000 then some (List.replicate len.toNat z) else none
theorem mk_ok {α:Type} {z:α} {len cap:Int} {r:List α} (h:mk? z len cap = some r):0 ≤ len ∧ len ≤ cap ∧ cap ≤ 1000000000 ∧ List.replicate len.toNat z = r:=by
 unfold mk? at h; split at h
 ·next hh=>exact ⟨hh.1,hh.2.1,hh.2.2,by simpa using h⟩
 ·simp at h
theorem tj {zs:List CP} {size n:Nat} (h:zs.length = size):cQ size (List.replicate n zs):=fun ps hp=>by rw [(List.mem_replicate.1 hp).2]; exact h
theorem yI {h:PH} {zs:List CP} {zc:Array Value} {size:Nat} (hz:aS h zs zc.toList) (hs:zs.length = size) (hp:0 < size) (n m:Nat) (hnm:n ≤ m) :
  aS h (List.replicate n zs).flatten ((madeCells zc (m * size)).toList.take (n * size)):=by
 have hzl:zc.size = size:=by have:=hz.length; simp at this; omega
 have hle:n * size ≤ m * size:=Nat.mul_le_mul_right _ hnm
 have hfl:=fj (tj (n:=n) hs)
 have hms:(madeCells zc (m * size)).toList.length = m * size:=by simp [madeCells]
 refine bl.s5 (by rw [hfl,List.length_replicate,List.length_take,hms]; omega) fun j a b ha hb=>?_
 have hj:j < n * size:=by
  have:=(List.getElem?_eq_some_iff.1 ha).1
  rw [hfl] at this; simpa using this
 have hd:j / size < n:=by rw [Nat.div_lt_iff_lt_mul hp]; exact hj
 have hm:j % size < size:=Nat.mod_lt _ hp
 have hjj:j / size * size + j % size = j:=by rw [Nat.mul_comm]; exact Nat.div_add_mod _ _
 have h1:=ic (tj (n:=n) hs) (j / size) zs (by simp [hd]) (j % size) hm
 rw [hjj,ha] at h1
 rw [List.getElem?_take,if_pos hj] at hb
 have h2:(madeCells zc (m * size)).toList[j]? = zc[j % size]?:=by
  have hlt:j < m * size:=by omega
  simp only [madeCells,Array.getElem?_toList]
  rw [Array.getElem?_map,Array.getElem?_range]
  simp only [hlt,if_true,Option.map_some,hzl]
  have:j % size < zc.size:=by omega
  simp [this]
 rw [h2] at hb
 obtain ⟨u,hu,hr⟩:=hz.get (j % size) a h1.symm
 rw [Array.getElem?_toList,hb] at hu
 cases hu
 exact hr
def ZC (a b:CP):Prop:=∀ h v,a.rel h v → b.rel h v
theorem ZC.refl {a:CP}:ZC a a:=fun _ _ x=>x
theorem xG {h:PH}:∀ {zs qs:List CP} {vs:List Value},bl ZC zs qs → aS h zs vs → aS h qs vs
 | [],_,_,h1,h2=>by cases h1; cases h2; exact .nil
 | _ :: _,_,_,h1,h2=>by cases h1 with | cons a b=>cases h2 with | cons c d=>exact .cons (a _ _ c) (xG b d)
theorem cA {k size bytes:Nat} {e:TypeId} {zs:List CP} {lo co:Operand} {kl kc:IntKind} {α:Type} {z0:α} {enc:α → List CP} {a b:Int} {r:List α} (ht:jJ P t e size bytes zs) (hm:mk? z0 a b = some r) (hbb:bytes ≤ 281474) (hz0:bl ZC zs (enc z0))
  (hx:s.ev lo = some (.b (.one (.int kl a)))) (hy:s.ev co = some (.b (.one (.int kc b)))) (hfx:n.fix.contains k = false) (hnu:dx k s.own = true:=by rfl) :
  bD P E n ⟨dst,.makeSlice t lo co,ty,pos,after,g⟩ s ((⟨bT k s.slots,ins k (.row e size (r.map enc)) s.own⟩:St).put n dst (.b (.row k))) :=
 bD.make (hfx:=hfx) (hnu:=hnu) (o:=⟨dst,.makeSlice t lo co,ty,pos,after,g⟩) fun ac w h ρ hw hs=>by
  obtain ⟨i,z,h1,h2,h3,h4,h5,h6,h7⟩:=ht.info
  obtain ⟨q0,q1,q2,rfl⟩:=mk_ok hm
  have hzr:=lQ h h7
  have hzr:aS h (enc z0) z.cells.toList:=xG hz0 hzr
  have hzl:(enc z0).length = size:=by rw [hzr.length]; simpa using h5
  have hbytes:(i.bytes:Int) * b ≤ 281474976710656:=by
   rw [h3]
   have e1:(bytes:Int) ≤ 281474:=by omega
   calc (bytes:Int) * b ≤ 281474 * b:=Int.mul_le_mul_of_nonneg_right e1 (by omega)
    _ ≤ _:=by omega
  have hrun:=run_make (P:=P) w t e i z ht.und h1 h4 kl kc a b q0 q1 hbytes (by omega)
  rw [h2] at hrun
  refine ⟨.slice (some ⟨w.heap.size,0,none⟩) a.toNat b.toNat,.slice (some ⟨w.heap.size,0,none⟩) a.toNat b.toNat,w.alloc (.cells (madeCells z.cells (b.toNat * size)) e),none,?_,fun b e=>by simp at e,by simp,rfl,rfl,fun b hb _=>heap_alloc_old w _ hb,?_,
   fun b e=>by simp [bf] at e; subst e; exact .inr (Nat.le_refl _),(bC _ _ _).symm⟩
  ·simp only [execOp,(eV hs hx).1,(eV hs hy).1]
   simp [hrun]
  ·have hle:a.toNat ≤ b.toNat:=by omega
   have hmap:(List.replicate a.toNat z0).map enc = List.replicate a.toNat (enc z0):=by rw [List.map_replicate]
   rw [hmap]
   refine ⟨tj hzl,h6,(madeCells z.cells (b.toNat * size)).toList.take (a.toNat * size),⟨?_,.inr ⟨w.heap.size,b.toNat,_,?_,Nat.zero_le _,heap_alloc_new w _,?_,?_,?_,?_⟩⟩,yI hzr hzl h6 _ _ hle⟩
   ·have:a.toNat * size ≤ b.toNat * size:=Nat.mul_le_mul_right _ hle
    have hms:(madeCells z.cells (b.toNat * size)).toList.length = b.toNat * size:=by simp [madeCells]
    rw [List.length_take,hms,List.length_replicate]; omega
   ·simp
   ·simpa using hle
   ·rw [fO]; omega
   ·simp [madeCells]
   ·simp
end
end Go.Sk
namespace Go.Sk
set_option linter.unusedSimpArgs false
set_option linter.unusedVariables false
open Go Go.BigFrame
def swp (a b k:Nat):Nat:=if k == a then b else if k == b then a else k
theorem jY (a b k:Nat):swp a b (swp a b k) = k:=by
 unfold swp
 by_cases h1:k = a
 ·subst h1
  by_cases h2:b = k <;> simp [h2]
 ·by_cases h2:k = b
  ·subst h2
   simp [h1]
  ·simp [h1,h2]
def CV.kr (f:Nat → Nat):CV → CV
 | .row j=>.row (f j)
 | .ptr j o=>.ptr (f j) o
 | z=>z
def BV.kr (f:Nat → Nat):BV → BV
 | .iK g fs cs=>.iK g (fs.map (·.kr f)) (cs.map (·.kr f))
 | .xa cs=>.xa (cs.map (·.kr f))
 | .row j=>.row (f j)
 | .ptr j o=>.ptr (f j) o
 | .eQ j o=>.eQ (f j) o
 | .part j a b c d=>.part (f j) a b c d
 | .wK j a b c=>.wK (f j) a b c
 | z=>z
def SV.kr (f:Nat → Nat):SV → SV
 | .b z=>.b (z.kr f)
 | .gR l=>.gR (l.map (·.kr f))
 | .opt c z=>.opt c (z.kr f)
 | .gw l=>.gw (l.map (·.kr f))
def OC.kr (f:Nat → Nat):OC → OC
 | .aW T cs=>.aW T (cs.map (·.kr f))
 | .mp es=>.mp (es.map fun q=>(q.1,q.2.kr f))
 | .ly j m rest cur=>.ly (f j) m rest cur
 | c=>c
def r7 (f:Nat → Nat) (l:List (Nat × OC)):List (Nat × OC):=l.map fun p=>(f p.1,p.2.kr f)
theorem hO {α β γ:Type} {r:β → γ → Prop} (g:α → β):∀ {l:List α} {vs:List γ},bl r (l.map g) vs ↔ bl (fun a u=>r (g a) u) l vs
 | [],vs=>⟨fun h=>by cases h; exact .nil,fun h=>by cases h; exact .nil⟩
 | a :: l,vs=>⟨fun h=>by cases h with | cons h1 h2=>exact .cons h1 ((hO g).1 h2),fun h=>by cases h with | cons h1 h2=>exact .cons h1 ((hO g).2 h2)⟩
theorem jw {α γ:Type} {r r':α → γ → Prop} {l:List α} {vs:List γ} (h:∀ a u,r a u ↔ r' a u):bl r l vs ↔ bl r' l vs:=⟨fun x=>x.mono fun a u=>(h a u).1,fun x=>x.mono fun a u=>(h a u).2⟩
theorem CV.gm {f:Nat → Nat} {h:PH} {ρ:RM} {z:CV} {v:Value}:(z.kr f).rel h ρ v ↔ z.rel h (fun k=>ρ (f k)) v:=by cases z <;> exact Iff.rfl
theorem BV.gm {f:Nat → Nat} {h:PH} {ρ:RM} {z:BV} {v:Value}:(z.kr f).rel h ρ v ↔ z.rel h (fun k=>ρ (f k)) v:=by
 cases z with
 | xa cs=>exact exists_congr fun a=>and_congr Iff.rfl ((hO _).trans (jw fun a u=>and_congr CV.gm Iff.rfl))
 | iK g fs cs=>exact exists_congr fun a=>exists_congr fun b=>and_congr Iff.rfl (and_congr ((hO _).trans (jw fun a u=>CV.gm)) ((hO _).trans (jw fun a u=>CV.gm)))
 | _=>exact Iff.rfl
theorem SV.gm {f:Nat → Nat} {h:PH} {ρ:RM} {z:SV} {v:Value}:(z.kr f).rel h ρ v ↔ z.rel h (fun k=>ρ (f k)) v:=by
 cases z with
 | b z=>exact BV.gm
 | opt c z=>exact and_congr (imp_congr Iff.rfl BV.gm) Iff.rfl
 | gR l=>exact exists_congr fun vs=>and_congr Iff.rfl ((hO _).trans (jw fun a u=>BV.gm))
 | gw l=>exact exists_congr fun vs=>and_congr Iff.rfl ((hO _).trans (jw fun a u=>and_congr BV.gm Iff.rfl))
theorem OC.wv {f:Nat → Nat} {h:PH} {ρ:RM} {c:OC} {v:Value} {w:World}:(c.kr f).ok h ρ v w ↔ c.ok h (fun k=>ρ (f k)) v w:=by
 cases c with
 | box T ps=>exact Iff.rfl
 | row T size es=>exact Iff.rfl
 | jI T size es=>exact Iff.rfl
 | sit q pos=>exact Iff.rfl
 | mq m=>exact Iff.rfl
 | rr=>exact Iff.rfl
 | ly j m rest cur=>exact exists_congr fun _=>exists_congr fun _=>exists_congr fun _=>exists_congr fun _=>exists_congr fun _=>⟨fun x=>⟨x.ptr,x.it,x.map,x.obj,x.ents,x.born,x.left,x.at_⟩,fun x=>⟨x.ptr,x.it,x.map,x.obj,x.ents,x.born,x.left,x.at_⟩⟩
 | mp es=>exact exists_congr fun b=>exists_congr fun ms=>exists_congr fun clk=>and_congr Iff.rfl (and_congr Iff.rfl (and_congr ((hO _).trans (jw fun a u=>and_congr Iff.rfl BV.gm)) Iff.rfl))
 | aW T cs=>exact exists_congr fun b=>exists_congr fun cur=>and_congr Iff.rfl (and_congr Iff.rfl ((hO _).trans (jw fun a u=>and_congr BV.gm Iff.rfl)))
theorem OC.kT {f:Nat → Nat} {c:OC} {v:Value} {w:World} {b:Nat}:(c.kr f).cu v w b ↔ c.cu v w b:=by cases c <;> exact Iff.rfl
theorem tW {f:Nat → Nat} {l:List (Nat × OC)} {k:Nat} {c:OC} (h:(k,c) ∈ r7 f l):∃ k0 c0,(k0,c0) ∈ l ∧ k = f k0 ∧ c = c0.kr f:=by
 obtain ⟨⟨k0,c0⟩,hm,he⟩:=List.mem_map.1 h
 obtain ⟨rfl,rfl⟩:=Prod.mk.inj he
 exact ⟨k0,c0,hm,rfl,rfl⟩
theorem qO {f:Nat → Nat} {l:List (Nat × OC)}:aH (r7 f l) = (aH l).map f:=by simp [aH,r7]
theorem vF {f:Nat → Nat} {c:OC}:(c.kr f).pA = c.pA:=by cases c <;> rfl
theorem pX {f:Nat → Nat}:∀ {l:List (Nat × OC)},bj (r7 f l) = (bj l).map f
 | []=>rfl
 | (k,c) :: l=>by
  have ih:=pX (f:=f) (l:=l)
  show (if (c.kr f).pA = true then f k :: bj (r7 f l) else bj (r7 f l)) = _
  rw [vF,ih]
  cases hb:c.pA <;> simp [bj,hb]
theorem aA.sw {P:Program} {TB:b5} {f:FuncId} {own own':List (Nat × OC)} {args:List BV} {res:SV} (hm:aA P TB f own args (Is own' res)) (a b:Nat) :
  aA P TB f (r7 (swp a b) own) (args.map (·.kr (swp a b))) (Is (r7 (swp a b) own') (res.kr (swp a b))):=by
 intro w h ρ vals tb hag hlent hargs
 have hss:(fun k=>ρ (swp a b (swp a b k))) = ρ:=by funext k; rw [jY]
 have hinj:∀ {i j:Nat},swp a b i = swp a b j → i = j:=fun {i j} e=>by have:=congrArg (swp a b) e; rwa [jY,jY] at this
 have hl:Lent own h (fun k=>ρ (swp a b k)) w:=fun k c hk=>by
  obtain ⟨e1,e2,e3⟩:=hlent (swp a b k) (c.kr (swp a b)) (List.mem_map.2 ⟨(k,c),hk,rfl⟩)
  exact ⟨OC.wv.1 e1,fun b hb=>e2 b (OC.kT.2 hb),fun k' c' hk' hne b' hb' hb2=>e3 (swp a b k') (c'.kr (swp a b)) (List.mem_map.2 ⟨(k',c'),hk',rfl⟩) (fun e=>hne (hinj e)) b' (OC.kT.2 hb') (OC.kT.2 hb2)⟩
 have ha:bl (fun (x:BV) v=>x.rel h (fun k=>ρ (swp a b k)) v) args vals:=((hO _).trans (jw fun a u=>BV.gm)).1 hargs
 refine (hm w h _ vals tb hag hl ha).mono ?_
 rintro e w' ⟨v,own1,res1,h',ρ',rfl,⟨rfl,rfl⟩,hw,hres⟩
 have hlt:∀ b',nC (TB:=TB) ⟨w,h,fun k=>ρ (swp a b k),tb⟩ ⟨0,bj own,aH own,[]⟩ b' ↔ nC (TB:=TB) ⟨w,h,ρ,tb⟩ ⟨0,bj (r7 (swp a b) own),aH (r7 (swp a b) own),[]⟩ b':=fun b'=>by
  constructor
  ·rintro ⟨k,hk,hb⟩
   exact ⟨swp a b k,by show _ ∈ aH _; rw [qO]; exact List.mem_map.2 ⟨k,hk,rfl⟩,hb⟩
  ·rintro ⟨k,hk,hb⟩
   have hk':k ∈ (aH own).map (swp a b):=by rw [← qO]; exact hk
   obtain ⟨k0,hk0,rfl⟩:=List.mem_map.1 hk'
   exact ⟨k0,hk0,hb⟩
 refine ⟨v,_,_,h',fun k=>ρ' (swp a b k),rfl,⟨rfl,rfl⟩,⟨hw.agree,hw.le,fun b' hb' hn=>hw.fresh b' hb' fun hh=>hn ((hlt b').1 hh),hw.size,fun b' hb' hn=>hw.same b' hb' fun hh=>hn ((hlt b').1 hh),fun k hk=>?_,hw.os,hw.out,fun b' hn o=>hw.nl b' ((hlt b').2 hn) o,fun k c hk=>?_⟩,?_⟩
 ·have hk':k ∈ (bj own).map (swp a b):=by rw [← pX]; exact hk
  obtain ⟨k0,hk0,rfl⟩:=List.mem_map.1 hk'
  show ρ' (swp a b (swp a b k0)) = _
  rw [jY]; exact hw.fixed k0 hk0
 ·obtain ⟨k0,c0,hk0,rfl,rfl⟩:=tW hk
  obtain ⟨e1,e2,e3⟩:=hw.owned k0 c0 hk0
  have hss':(fun k=>ρ' (swp a b (swp a b k))) = ρ':=by funext k; rw [jY]
  refine ⟨OC.wv.2 (by rw [jY]; exact (congrArg (fun r=>c0.ok h' r (ρ' k0) w') hss').mpr e1),fun b' hb'=>?_,fun k' c' hk' hne b' hb'=>?_⟩
  ·have hb2:c0.cu (ρ' k0) w' b':=by
    have:=OC.kT.1 hb'
    rwa [jY] at this
   exact ⟨(e2 b' hb2).1.imp_right (hlt b').1,(e2 b' hb2).2⟩
  ·obtain ⟨k1,c1,hk1,rfl,rfl⟩:=tW hk'
   have hb2:c0.cu (ρ' k0) w' b':=by
    have:=OC.kT.1 hb'
    rwa [jY] at this
   intro hb3
   have hb4:c1.cu (ρ' k1) w' b':=by
    have:=OC.kT.1 hb3
    rwa [jY] at this
   exact e3 k1 c1 hk1 (fun e=>hne (by rw [e])) b' hb2 hb4
 ·have hss':(fun k=>ρ' (swp a b (swp a b k))) = ρ':=by funext k; rw [jY]
  exact SV.gm.2 (by rw [hss']; exact hres)
section
variable {P:Program} {TB:b5} {E:Env TB} {n:Sh} {s s':St} {dst:Option Nat} {t ty yt:TypeId} {pos:String} {after:Array Edge} {g:Option (Nat × Bool)} {x y c:Operand} {ops:Array Oper} {l:List Oper} {Q:dN} {cd:Code}
theorem lh {α:Type} {k:Nat} {c:α}:∀ {l:List (Nat × α)} {j:Nat} {x:α},(j,x) ∈ l → j ≠ k → (j,x) ∈ ins k c l
 | (i,y) :: l,j,x,h,hne=>by
  unfold ins
  split
  ·next e=>
   have e':k = i:=by simpa using e
   subst e'
   cases List.mem_cons.1 h with
   | inl e=>obtain ⟨rfl,rfl⟩:=Prod.mk.inj e; exact absurd rfl hne
   | inr e=>exact List.mem_cons_of_mem _ (fW e hne)
  ·cases List.mem_cons.1 h with
   | inl e=>rw [e]; exact List.mem_cons_self
   | inr e=>exact List.mem_cons_of_mem _ (lh e hne)
theorem WR.repl' {own:List (Nat × OC)} {h:PH} {ρ:RM} {w:World} (hw:WR E n own h ρ w) {k:Nat} {c0 c':OC} (hk:(k,c0) ∈ own) (hc:c'.ok h ρ (ρ k) w) (hpl:c'.plain = true:=by rfl):WR E n (ins k c' own) h ρ w:=by
 have:=hw.step (w':=w) k (ρ k) c' (bf (ρ k)) (fun b e=>⟨c0,hk,e⟩) (Nat.le_refl _) rfl rfl (fun _ _ _=>rfl) (by rw [gE]; exact hc) (fun b hb=>.inl hb) (.inl rfl) (.inl rfl) hpl
 rwa [gE] at this
theorem R.iW {a:Act} {w:World} (hr:R E n s a w) (kb off k size:Nat) (T:TypeId) {T2:TypeId} {cs:List BV} (hk:lk s.own kb = some (.aW T2 cs)) (hi:cs[off]? = some (.one .nil)) (hz:0 < size) (hne:kb ≠ k) (hfx:n.fix.contains k = false) (hnu:dx k s.own = true) :
  R E n ⟨bT k s.slots,ins kb (.aW T2 (cs.set off (.row k))) (ins k (.row T size []) s.own)⟩ a w:=by
 obtain ⟨h1,h2,h,ρ,hw,hs⟩:=hr
 obtain ⟨b,cur,e1,e2,e3⟩:=jO hw hk
 have hst:=hw.step (w':=w) k (.slice none 0 0) (.row T size []) none (fun b e=>by simp at e) (Nat.le_refl _) rfl rfl (fun _ _ _=>rfl)
  ⟨fun ps hps=>by simp at hps,hz,[],⟨by simp,.inl ⟨rfl,rfl⟩⟩,.nil⟩ (fun b hb=>by simp [bf] at hb) (.inr fun e=>by simp at hfx; exact hfx e) (.inr hnu)
 have hm:=lh (c:=OC.row T size []) (bn hk) hne
 have hcs:bl (CR h (kM ρ k (.slice none 0 0))) (cs.set off (.row k)) cur.toList:=by
  have hno:∀ j,(cs.any (·.bU j)) = true → kM ρ k (.slice none 0 0) j = ρ j:=fun j hj=>bx _ _ fun e=>by
   subst e
   have:=jM hnu (bn hk)
   simp only [OC.bU] at this
   rw [this] at hj; simp at hj
  clear hst hm hk e2
  generalize cur.toList = vl at e3
  induction e3 generalizing off with
  | nil=>simp at hi
  | @cons z u cs vl h3 t ih=>
   have hno':∀ j,(cs.any (·.bU j)) = true → kM ρ k (.slice none 0 0) j = ρ j:=fun j hj=>hno j (by simp only [List.any_cons,hj,Bool.or_true])
   have hu:∀ j,z.bU j = true → kM ρ k (.slice none 0 0) j = ρ j:=fun j hj=>hno j (by simp [hj])
   have hrest:∀ {cs:List BV} {vl:List Value},(∀ j,(cs.any (·.bU j)) = true → kM ρ k (.slice none 0 0) j = ρ j) → bl (fun (z:BV) u=>z.rel h ρ u ∧ u.oneCell' = true) cs vl → bl (CR h (kM ρ k (.slice none 0 0))) cs vl:=by
    intro cs vl hn ha
    induction ha with
    | nil=>exact .nil
    | cons h4 _ ih2=>exact .cons ⟨BV.mono (PH.le_refl _) (fun j hj=>hn j (by simp [hj])) h4.1,h4.2⟩ (ih2 fun j hj=>hn j (by simp only [List.any_cons,hj,Bool.or_true]))
   cases off with
   | zero=>
    simp at hi
    subst hi
    have hv:u = .slice none 0 0:=h3.1.1
    exact .cons ⟨by rw [hv]; exact (bC _ _ _).symm,h3.2⟩ (hrest hno' t)
   | succ off=>exact .cons ⟨BV.mono (PH.le_refl _) hu h3.1,h3.2⟩ (ih off (by simpa using hi) hno')
 refine ⟨h1,h2,h,_,WR.repl' hst hm ⟨b,cur,by rw [bx _ _ hne]; exact e1,e2,hcs⟩,hs.bT k _⟩
theorem ab.iW (kb off k size:Nat) (T:TypeId) {T2:TypeId} {cs:List BV} (hk:lk s.own kb = some (.aW T2 cs)) (hi:cs[off]? = some (.one .nil)) (hz:0 < size) (hne:kb ≠ k) (hfx:n.fix.contains k = false) (h:ab P E n cd ⟨bT k s.slots,ins kb (.aW T2 (cs.set off (.row k))) (ins k (.row T size []) s.own)⟩ Q) (hnu:dx k s.own = true:=by rfl):ab P E n cd s Q:=fun a w hr=>h a w (hr.iW kb off k size T hk hi hz hne hfx hnu)
theorem af.iW (kb off k size:Nat) (T:TypeId) {T2:TypeId} {cs:List BV} (hk:lk s.own kb = some (.aW T2 cs)) (hi:cs[off]? = some (.one .nil)) (hz:0 < size) (hne:kb ≠ k) (hfx:n.fix.contains k = false) (h:af P E n ops l ⟨bT k s.slots,ins kb (.aW T2 (cs.set off (.row k))) (ins k (.row T size []) s.own)⟩ Q) (hnu:dx k s.own = true:=by rfl):af P E n ops l s Q:=fun a w hr=>h a w (hr.iW kb off k size T hk hi hz hne hfx hnu)
theorem Fin.iW {e:Exit} (kb off k size:Nat) (T:TypeId) {T2:TypeId} {cs:List BV} (hk:lk s.own kb = some (.aW T2 cs)) (hi:cs[off]? = some (.one .nil)) (hz:0 < size) (hne:kb ≠ k) (hfx:n.fix.contains k = false) (h:Fin E n e ⟨bT k s.slots,ins kb (.aW T2 (cs.set off (.row k))) (ins k (.row T size []) s.own)⟩ Q) (hnu:dx k s.own = true:=by rfl):Fin E n e s Q:=fun a w hr=>h a w (hr.iW kb off k size T hk hi hz hne hfx hnu)
end
end Go.Sk
namespace Go.Sk
set_option linter.unusedSimpArgs false
set_option linter.unusedVariables false
open Go
end Go.Sk
namespace Go.Sk
end Go.Sk
namespace Go.Sk
set_option linter.unusedSimpArgs false
set_option linter.unusedVariables false
open Go Go.BigFrame
structure oK where
 done:List Bool
 base:List (Nat × SV)
 own:List (Nat × OC)
 live:List Bool
 must:List Nat
 nots:List Nat
def nb (l:List Bool) (i:Nat):Bool:=l.getD i false
def kA:List oK → List Bool → Option oK
 | [],_=>none
 | σ :: tab,d=>if σ.done == d then some σ else kA tab d
theorem ja:∀ {tab:List oK} {d:List Bool} {σ:oK},kA tab d = some σ → σ.done = d ∧ σ ∈ tab
 | σ0 :: tab,d,σ,h=>by
  unfold kA at h
  split at h
  ·next e=>cases h; exact ⟨by simpa using e,List.mem_cons_self⟩
  ·exact ⟨(ja h).1,List.mem_cons_of_mem _ (ja h).2⟩
def dv (p:Nat → Bool) (l:List Oper) (Fs:List SV):List Edge → List (Nat × SV)
 | []=>[]
 | e :: es=>if Region.binds .any e && p e.on then
   match l[e.on]?,Fs[e.on]? with
   | some o,some x=>(match o.dst with | some d=>(d,x) :: dv p l Fs es | none=>dv p l Fs es)
   | _,_=>dv p l Fs es
  else dv p l Fs es
theorem oV {p:Nat → Bool} {l:List Oper} {Fs:List SV}:∀ {es:List Edge} {q:Nat × SV},q ∈ dv p l Fs es → ∃ e,e ∈ es ∧ Region.binds .any e = true ∧ p e.on = true ∧ ∃ o,l[e.on]? = some o ∧ o.dst = some q.1 ∧ Fs[e.on]? = some q.2
 | [],q,h=>by simp [dv] at h
 | e :: es,q,h=>by
  have hrec:q ∈ dv p l Fs es → ∃ e',e' ∈ e :: es ∧ Region.binds .any e' = true ∧ p e'.on = true ∧ ∃ o,l[e'.on]? = some o ∧ o.dst = some q.1 ∧ Fs[e'.on]? = some q.2:=fun h=>by
   obtain ⟨e',h1,h2⟩:=oV h
   exact ⟨e',List.mem_cons_of_mem _ h1,h2⟩
  unfold dv at h
  split at h
  ·rename_i hb
   simp only [Bool.and_eq_true] at hb
   split at h
   ·rename_i o x ho hx
    split at h
    ·rename_i d hd
     cases List.mem_cons.1 h with
     | inl e'=>subst e'; exact ⟨e,List.mem_cons_self,hb.1,hb.2,o,ho,hd,hx⟩
     | inr e'=>exact hrec e'
    ·exact hrec h
   ·exact hrec h
  ·exact hrec h
def jt:List Nat → List (Nat × SV) → List (Nat × SV)
 | [],l=>l
 | k :: ks,l=>jt ks (bT k l)
def nu:List Nat → SV → Bool
 | [],_=>false
 | k :: ks,x=>x.bU k || nu ks x
theorem j7 {q:Nat × SV}:∀ {key:List Nat} {l:List (Nat × SV)},q ∈ jt key l → q ∈ l ∧ nu key q.2 = false
 | [],l,h=>⟨h,rfl⟩
 | k :: ks,l,h=>by
  obtain ⟨h1,h2⟩:=j7 (key:=ks) h
  obtain ⟨h3,h4⟩:=fm h1
  exact ⟨h3,by simp [nu,h4,h2]⟩
def yg (o:Oper) (j:Nat):Bool:=o.after.toList.any fun e=>Region.binds .any e && e.on == j
section
variable {P:Program} {TB:b5} {E:Env TB} {n:Sh} {s s':St} {l:List Oper} {Q:dN} {o:Oper}
def may (isW:List Bool) (σ:oK) (i:Nat) (o:Oper):Bool:=!nb σ.done i && !σ.must.contains i && !σ.nots.contains i && (o.after.toList.all fun e=>!Region.binds .any e || !nb isW e.on || nb σ.done e.on)
def uP (isW:List Bool) (l:List Oper) (σ:oK):Bool:=σ.must.all fun j=>(nb isW j && nb σ.done j) || (σ.must.any fun i=>decide (j < i) && (match l[i]? with | some o=>yg o j | none=>false))
def delD:Option Nat → List (Nat × SV) → List (Nat × SV)
 | some d,l=>del d l
 | none,l=>l
def vi (isW:List Bool) (l:List Oper) (σ:oK):Bool:=(List.range l.length).all fun j=>(nb isW j && !nb σ.done j) || (match l[j]? with
 | some o=>(match o.dst with
  | some d=>σ.base.all fun p=>p.1 != d
  | none=>true)
 | none=>true)
def vV (isW:List Bool) (l:List Oper) (σ:oK):Bool:=σ.nots.all fun j=>match l[j]? with
 | some o=>o.after.toList.any fun e=>Region.binds .any e && ((nb isW e.on && !nb σ.done e.on) || (decide (e.on < j) && σ.nots.contains e.on))
 | none=>false
theorem dJ.to {ops:Array Oper} {s1 s2:St} (h:dJ P E n ops o s s1) (e:s1 = s2):dJ P E n ops o s s2:=e ▸ h
def uI (P:Program) {TB:b5} (E:Env TB) (n:Sh) (isW:List Bool) (tab:List oK) (l:List Oper) (Fs:List SV) (σ:oK):Nat → List Oper → Prop
 | _,[]=>True
 | i,o :: r=>(if may isW σ i o = true then
   (if nb isW i = true then ∃ τ key x,kA tab (σ.done.set i true) = some τ ∧ (o.dst.isSome = true → Fs[i]? = some x) ∧ τ.base = delD o.dst (jt key σ.base) ∧ ((List.range l.length).all fun j=>!nb τ.live j || j == i || σ.nots.contains j || (nb σ.live j && (match Fs[j]? with | some y=>!nu key y | none=>true))) = true ∧
     ∀ extra,dJ P E n l.toArray o ⟨dv (nb σ.live) l Fs o.after.toList ++ (σ.base ++ extra),σ.own⟩ (St.put n o.dst x ⟨jt key (dv (nb σ.live) l Fs o.after.toList ++ (σ.base ++ extra)),τ.own⟩)
    else ∃ x,(o.dst.isSome = true → Fs[i]? = some x) ∧ ∀ extra,dJ P E n l.toArray o ⟨dv (nb σ.live) l Fs o.after.toList ++ (σ.base ++ extra),σ.own⟩ (St.put n o.dst x ⟨dv (nb σ.live) l Fs o.after.toList ++ (σ.base ++ extra),σ.own⟩))
   else True) ∧ uI P E n isW tab l Fs σ (i + 1) r
def sY (P:Program) {TB:b5} (E:Env TB) (n:Sh) (isW:List Bool) (tab:List oK) (l:List Oper) (Fs:List SV):List oK → Prop
 | []=>True
 | σ :: r=>(uP isW l σ && vV isW l σ && ((List.range l.length).all fun i=>!nb σ.done i || nb isW i) && vi isW l σ && (σ.done.length == l.length)) = true ∧ uI P E n isW tab l Fs σ 0 l ∧ sY P E n isW tab l Fs r
theorem uI.get {isW:List Bool} {tab:List oK} {l0:List Oper} {Fs:List SV} {σ:oK}:∀ {r:List Oper} {k:Nat},uI P E n isW tab l0 Fs σ k r → ∀ (i:Nat) (o:Oper),r[i]? = some o → may isW σ (k + i) o = true →
      (if nb isW (k + i) = true then ∃ τ key x,kA tab (σ.done.set (k + i) true) = some τ ∧ (o.dst.isSome = true → Fs[k + i]? = some x) ∧ τ.base = delD o.dst (jt key σ.base) ∧ ((List.range l0.length).all fun j=>!nb τ.live j || j == k + i || σ.nots.contains j || (nb σ.live j && (match Fs[j]? with | some y=>!nu key y | none=>true))) = true ∧
          ∀ extra,dJ P E n l0.toArray o ⟨dv (nb σ.live) l0 Fs o.after.toList ++ (σ.base ++ extra),σ.own⟩ (St.put n o.dst x ⟨jt key (dv (nb σ.live) l0 Fs o.after.toList ++ (σ.base ++ extra)),τ.own⟩)
        else ∃ x,(o.dst.isSome = true → Fs[k + i]? = some x) ∧ ∀ extra,dJ P E n l0.toArray o ⟨dv (nb σ.live) l0 Fs o.after.toList ++ (σ.base ++ extra),σ.own⟩ (St.put n o.dst x ⟨dv (nb σ.live) l0 Fs o.after.toList ++ (σ.base ++ extra),σ.own⟩))
  | [],k,h,i,o,ho,_=>by simp at ho
  | p :: r,k,h,i,o,ho,hm=>by
    obtain ⟨h1,h2⟩:=h
    cases i with
    | zero=>
      simp at ho; subst ho
      rw [Nat.add_zero] at hm ⊢
      rw [if_pos hm] at h1
      exact h1
    | succ i=>
      have:=uI.get h2 i o (by simpa using ho) (by rw [← hm]; congr 1; omega)
      have e:k + 1 + i = k + (i + 1):=by omega
      rwa [e] at this
theorem sY.get {isW:List Bool} {tab:List oK} {Fs:List SV}:∀ {r:List oK},sY P E n isW tab l Fs r → ∀ σ ∈ r,(uP isW l σ && vV isW l σ && ((List.range l.length).all fun i=>!nb σ.done i || nb isW i) && vi isW l σ && (σ.done.length == l.length)) = true ∧ uI P E n isW tab l Fs σ 0 l
 | σ :: r,h,τ,hm=>by
  cases List.mem_cons.1 hm with
  | inl e=>subst e; exact ⟨h.1,h.2.1⟩
  | inr e=>exact sY.get h.2.2 τ e
theorem yH {d:Option Nat} {l:List (Nat × SV)} {k:Nat} {y:SV} (h:(k,y) ∈ delD d l):(k,y) ∈ l ∧ ∀ d',d = some d' → k ≠ d':=by
 cases d with
 | none=>exact ⟨h,fun d' e=>by cases e⟩
 | some d=>exact ⟨(cV h).1,fun d' e=>by cases e; exact (cV h).2⟩
theorem xn {isW:List Bool} {σ:oK} {i d:Nat} {o:Oper} (h:vi isW l σ = true) (hi:i < l.length) (ho:l[i]? = some o) (hd:o.dst = some d) (hw:nb isW i = false ∨ nb σ.done i = true) {k:Nat} {y:SV} (hy:(k,y) ∈ σ.base):k ≠ d:=by
 have:=List.all_eq_true.1 h i (List.mem_range.2 hi)
 rw [ho] at this
 simp only [hd,Bool.or_eq_true,Bool.and_eq_true,Bool.not_eq_true'] at this
 rcases this with ⟨h1,h2⟩ | h1
 ·rcases hw with hw | hw
  ·rw [hw] at h1; simp at h1
  ·rw [hw] at h2; simp at h2
 ·have:=List.all_eq_true.1 h1 (k,y) hy
  simpa using this
theorem nf {k:Nat} {q:Nat × SV} (hu:q.2.bU k = false):∀ {l:List (Nat × SV)},q ∈ l → q ∈ bT k l
 | (i,x) :: l,h=>by
  show q ∈ (if x.bU k = true then bT k l else (i,x) :: bT k l)
  cases List.mem_cons.1 h with
  | inl e=>
   subst e
   rw [if_neg (by rw [hu]; simp)]
   exact List.mem_cons_self
  | inr e=>
   split
   ·exact nf hu e
   ·exact List.mem_cons_of_mem _ (nf hu e)
theorem mH {q:Nat × SV}:∀ {key:List Nat} {l:List (Nat × SV)},q ∈ l → nu key q.2 = false → q ∈ jt key l
 | [],l,h,_=>h
 | k :: ks,l,h,hu=>by
  simp only [nu,Bool.or_eq_false_iff] at hu
  exact mH (key:=ks) (nf hu.1 h) hu.2
theorem rX {a:Act} {w:World} {m:Nat} {ks keys:List Nat} {dst:Option Nat} {b:Bool} {z:BV} (hb:b = true) (hc:eE m ks s.slots) (hr:R E n ((⟨jt keys (kX m ks s.slots),s.own⟩:St).put n dst (.b z)) a w):R E n ((⟨jt keys s.slots,s.own⟩:St).put n dst (.opt b z)) a w:=by
 obtain ⟨h1,h2,h,ρ,hw,hs⟩:=hr
 have hback:∀ {L l:List (Nat × SV)},bM h ρ L a.tmps → (∀ p,p ∈ l → p ∈ L ∨ ∃ c z,p.2 = .opt c z ∧ c = true ∧ (p.1,.b z) ∈ L) → bM h ρ l a.tmps:=fun {L l} hl hsub k y hy=>by
  rcases hsub _ hy with hm | ⟨c,z,hyz,hct,hm⟩
  ·exact hl k y hm
  ·obtain ⟨v,hv,hrel⟩:=hl k _ hm
   have hy2:y = .opt c z:=hyz
   exact ⟨v,hv,by rw [hy2,hct]; exact ⟨fun _=>hrel,fun e=>by simp at e⟩⟩
 have hmem:∀ p,p ∈ jt keys s.slots → p ∈ jt keys (kX m ks s.slots) ∨ ∃ c z,p.2 = .opt c z ∧ c = true ∧ (p.1,.b z) ∈ jt keys (kX m ks s.slots):=fun p hp=>by
  obtain ⟨g1,g2⟩:=j7 hp
  rcases la (m:=m) (ks:=ks) (k:=p.1) (y:=p.2) g1 hc with hm | ⟨c,z',h3,hct,hm⟩
  ·exact .inl (mH hm g2)
  ·refine .inr ⟨c,z',h3,hct,mH hm ?_⟩
   rw [h3] at g2
   have:∀ kk:List Nat,nu kk (.opt c z') = nu kk (.b z'):=fun kk=>by
    induction kk with
    | nil=>rfl
    | cons q qs ih=>simp only [nu,ih]; rfl
   rw [← this]; exact g2
 cases dst with
 | none=>exact ⟨h1,h2,h,ρ,hw,hback hs hmem⟩
 | some d=>
  simp only [St.put,St.set] at hw hs ⊢
  split at hs
  ·rename_i hdn
   simp only [hdn,if_true] at hw ⊢
   refine ⟨h1,h2,h,ρ,hw,?_⟩
   refine hback hs fun p hp=>?_
   cases List.mem_cons.1 hp with
   | inl e=>subst e; exact .inr ⟨b,z,rfl,hb,List.mem_cons_self⟩
   | inr e=>
    obtain ⟨e1,e2⟩:=cV e
    rcases hmem p e1 with hm | ⟨c,z',h3,hct,hm⟩
    ·exact .inl (List.mem_cons_of_mem _ (fW hm e2))
    ·exact .inr ⟨c,z',h3,hct,List.mem_cons_of_mem _ (fW hm e2)⟩
  ·rename_i hdn
   simp only [hdn,if_false] at hw ⊢
   exact ⟨h1,h2,h,ρ,hw,hback hs hmem⟩
theorem dJ.guardD {ops:Array Oper} {j t:Nat} {want gd:Bool} {z:BV} (keys:List Nat) (gd':Bool) (m:Nat) (ks:List Nat) (hG:m7 s t want gd) (hgd:gd = gd') (hg:o.guard = some (j,want)) (hj:(ops[j]?).bind (·.dst) = some t)
  (hc:gd' = true → eE m ks s.slots) (h1:gd' = true → bD P E n o (s.kz m ks) ((⟨jt keys (kX m ks s.slots),s.own⟩:St).put n o.dst (.b z))):dJ P E n ops o s ((⟨jt keys s.slots,s.own⟩:St).put n o.dst (.opt gd' z)):=by
 subst hgd
 intro a w hr K Q hk
 have hwant:=hG.wanted hg hj hr
 cases hb:gd with
 | true=>
  rw [hb] at hwant
  simp only [hwant,if_true]
  exact h1 hb a w (hr.kz (hc hb)) _ _ fun a' w' hr'=>hk a' w' (rX hb (hc hb) hr')
 | false=>
  rw [hb] at hwant
  simp only [hwant,Bool.false_eq_true,if_false]
  refine hk _ _ ?_
  rw [hb]
  obtain ⟨hdf,hn,h,ρ,hw,hsl⟩:=hr
  exact R.put (s:=⟨jt keys s.slots,s.own⟩) hdf hn hw (fun j y hy=>hsl j y (j7 hy).1) ⟨fun e=>by simp at e,fun _=>rfl⟩
theorem nb_eq {a b:List Bool} (hl:a.length = b.length) (h:∀ i,nb a i = nb b i):a = b:=by
 refine List.ext_getElem hl fun i h1 h2=>?_
 have:=h i
 simpa [nb,List.getD,List.getElem?_eq_getElem h1,List.getElem?_eq_getElem h2] using this
theorem nb_set {a:List Bool} {i j:Nat}:nb (a.set i true) j = if j = i ∧ i < a.length then true else nb a j:=by
 unfold nb
 simp only [List.getD,List.getElem?_set]
 by_cases h:i = j
 ·subst h
  by_cases h2:i < a.length <;> simp [h2]
 ·have h':¬ j = i:=fun e=>h e.symm
  simp [h,h']
theorem uw {isW:List Bool} {σ:oK} {listed:Array Bool} (hm:uP isW l σ = true) (hw:∀ i,nb isW i = true → listed.getD i false = nb σ.done i) (hcl:∀ (i:Nat) (p:Oper),l[i]? = some p → listed.getD i false = true → ∀ e ∈ p.after.toList,Region.binds .any e = true → listed.getD e.on false = true) :
  ∀ m j,l.length - j = m → j ∈ σ.must → listed.getD j false = true:=by
 intro m
 induction m using Nat.strongRecOn with
 | _ m ih=>
  intro j hm' hj
  have:=List.all_eq_true.1 hm j hj
  simp only [Bool.or_eq_true,Bool.and_eq_true,List.any_eq_true,decide_eq_true_eq] at this
  rcases this with ⟨h1,h2⟩ | ⟨i,hi,hji,hp⟩
  ·rw [hw j h1]; exact h2
  ·cases hpi:l[i]? with
   | none=>rw [hpi] at hp; simp at hp
   | some p=>
    rw [hpi] at hp
    have hil:=(List.getElem?_eq_some_iff.1 hpi).1
    simp only [yg,List.any_eq_true,Bool.and_eq_true,beq_iff_eq] at hp
    obtain ⟨e,he,hb,hon⟩:=hp
    have:=hcl i p hpi (ih (l.length - i) (by omega) i rfl hi) e he hb
    rwa [hon] at this
theorem rK {isW:List Bool} {σ:oK} {listed:Array Bool} (hm:vV isW l σ = true) (hw:∀ i,nb isW i = true → listed.getD i false = nb σ.done i) (hcl:∀ (i:Nat) (p:Oper),l[i]? = some p → listed.getD i false = true → ∀ e ∈ p.after.toList,Region.binds .any e = true → listed.getD e.on false = true) :
  ∀ j,j ∈ σ.nots → listed.getD j false = false:=by
 intro j
 induction j using Nat.strongRecOn with
 | _ j ih=>
  intro hj
  cases hl:listed.getD j false with
  | false=>rfl
  | true=>
   exfalso
   have:=List.all_eq_true.1 hm j hj
   cases hpi:l[j]? with
   | none=>rw [hpi] at this; simp at this
   | some p=>
    rw [hpi] at this
    simp only [List.any_eq_true,Bool.and_eq_true,Bool.or_eq_true,decide_eq_true_eq,Bool.not_eq_true'] at this
    obtain ⟨e,he,hb,h2⟩:=this
    have h3:=hcl j p hpi hl e he hb
    rcases h2 with ⟨h4,h5⟩ | ⟨h4,h5⟩
    ·rw [hw _ h4,h5] at h3; simp at h3
    ·rw [ih _ h4 (by simpa using h5)] at h3; simp at h3
theorem w7 {isW:List Bool} {σ:oK} {listed:Array Bool} (hm:vV isW l σ = true) (hw:∀ i,nb isW i = true → listed.getD i false = nb σ.done i) (hcl:∀ (i:Nat) (p:Oper),l[i]? = some p → listed.getD i false = true → ∀ e ∈ p.after.toList,Region.binds .any e = true → listed.getD e.on false = true)
  {j:Nat} {p:Oper} (hj:j ∈ σ.nots) (hp:l[j]? = some p) (hr:∀ e ∈ p.after.toList,Region.binds .any e = true → listed.getD e.on false = true):False:=by
 have:=List.all_eq_true.1 hm j hj
 rw [hp] at this
 simp only [List.any_eq_true,Bool.and_eq_true,Bool.or_eq_true,decide_eq_true_eq,Bool.not_eq_true'] at this
 obtain ⟨e,he,hb,h2⟩:=this
 have h3:=hr e he hb
 rcases h2 with ⟨h4,h5⟩ | ⟨h4,h5⟩
 ·rw [hw _ h4,h5] at h3; simp at h3
 ·rw [rK hm hw hcl _ (by simpa using h5)] at h3; simp at h3
theorem anyW {isW:List Bool} {tab:List oK} {Fs:List SV} (hok:(j5 0 l && kY (jq l) && (jq l).all (· < n.n) && (isW.length == l.length)) = true) (htab:sY P E n isW tab l Fs tab)
  (hfin:∀ σ,kA tab isW = some σ → Fin E n .normal ⟨σ.base ++ bz (nb σ.live) 0 l Fs,σ.own⟩ Q):∀ (fuel:Nat) (listed:Array Bool) (σ:oK) (a:Act) (w:World),
  listed.size = l.length → kA tab σ.done = some σ → (∀ i,nb isW i = true → listed.getD i false = nb σ.done i) → (∀ (i:Nat) (p:Oper),l[i]? = some p → listed.getD i false = true → ∀ e ∈ p.after.toList,Region.binds .any e = true → listed.getD e.on false = true) →
  l.length ≤ fuel + (listed.toList.filter id).length → R E n ⟨σ.base ++ bz (fun i=>listed.getD i false && nb σ.live i) 0 l Fs,σ.own⟩ a w → wpAny P .any l.toArray Q fuel listed a w:=by
 simp only [Bool.and_eq_true,beq_iff_eq] at hok
 obtain ⟨⟨⟨hedges,hnd⟩,hlt⟩,hWl⟩:=hok
 simp only [List.all_eq_true] at hlt
 have hcount:∀ (L:List Bool) (i:Nat) (hi:i < L.length),L[i] = false → ((L.set i true).filter id).length = (L.filter id).length + 1:=by
  intro L
  induction L with
  | nil=>intro i hi; simp at hi
  | cons b L ihL=>
   intro i hi hb
   cases i with
   | zero=>simp at hb; subst hb; simp
   | succ i=>
    have:=ihL i (by simpa using hi) (by simpa using hb)
    cases b <;> simp [this]
 have hready:∀ (listed:Array Bool),listed.size = l.length → Region.ready .any l.toArray listed = [] → ∀ j,j < l.length → listed.getD j false = true:=by
  intro listed hsz hr j hj
  induction j using Nat.strongRecOn with
  | _ j ih=>
   cases hb:listed.getD j false with
   | true=>rfl
   | false=>
    exfalso
    have hjs:j < listed.size:=by omega
    have hjr:j ∈ Region.ready .any l.toArray listed:=by
     rw [mem_ready]
     have hlj:listed.getD j true = false:=by
      simp only [Array.getD_eq_getD_getElem?,Array.getElem?_eq_getElem hjs,Option.getD_some] at hb ⊢
      exact hb
     refine ⟨hlj,l[j],by simp [hj],fun e he hbd=>?_⟩
     have:=ni hedges j l[j] (by simp) e he hbd
     exact ih e.on (by omega) (by omega)
    rw [hr] at hjr
    simp at hjr
 have hdone:∀ (listed:Array Bool) (σ:oK) (a:Act) (w:World),listed.size = l.length → kA tab σ.done = some σ → (∀ i,nb isW i = true → listed.getD i false = nb σ.done i) → Region.ready .any l.toArray listed = [] →
   R E n ⟨σ.base ++ bz (fun i=>listed.getD i false && nb σ.live i) 0 l Fs,σ.own⟩ a w → Q .normal a w:=by
  intro listed σ a w hsz hσ hwl hr hR
  have hall:=hready listed hsz hr
  obtain ⟨hσ1,hσ2⟩:=ja hσ
  obtain ⟨hc,_⟩:=htab.get σ hσ2
  simp only [Bool.and_eq_true,List.all_eq_true,List.mem_range,Bool.or_eq_true,Bool.not_eq_true',beq_iff_eq] at hc
  obtain ⟨⟨⟨⟨_,_⟩,hc2⟩,_⟩,hc4⟩:=hc
  have he:σ.done = isW:=by
   refine nb_eq (by omega) fun i=>?_
   by_cases hi:i < l.length
   ·cases hw:nb isW i with
    | true=>rw [← hwl i hw]; exact hall i hi
    | false=>
     rcases hc2 i hi with h | h
     ·exact h
     ·rw [hw] at h; simp at h
   ·have h1:nb σ.done i = false:=by simp [nb,List.getD,List.getElem?_eq_none (show σ.done.length ≤ i by omega)]
    have h2:nb isW i = false:=by simp [nb,List.getD,List.getElem?_eq_none (show isW.length ≤ i by omega)]
    rw [h1,h2]
  refine hfin σ (by rw [← he]; exact hσ) a w ?_
  obtain ⟨h1,h2,h,ρ,hw,hs⟩:=hR
  refine ⟨h1,h2,h,ρ,hw,fun k x hx=>hs k x ?_⟩
  rcases List.mem_append.1 hx with hx | hx
  ·exact List.mem_append.2 (.inl hx)
  ·refine List.mem_append.2 (.inr ?_)
   rw [dM] at hx ⊢
   obtain ⟨j,oj,hj,hd,hF,hl⟩:=hx
   rw [Nat.zero_add] at hl
   exact ⟨j,oj,hj,hd,hF,by rw [Nat.zero_add,hall j (List.getElem?_eq_some_iff.1 hj).1,hl]; rfl⟩
 intro fuel
 induction fuel with
 | zero=>
  intro listed σ a w hsz hσ hwl hcl hf hR
  have hnr:Region.ready .any l.toArray listed = []:=by
   apply List.eq_nil_iff_forall_not_mem.2
   intro j hj
   rw [mem_ready] at hj
   obtain ⟨hj1,oj,hoj,_⟩:=hj
   have hjl:j < l.length:=by
    have:=(Array.getElem?_eq_some_iff.1 hoj).1
    simpa using this
   have hjs:j < listed.size:=by omega
   have hz':listed.toList[j]'(by simpa using hjs) = false:=by simpa [Array.getD_eq_getD_getElem?,Array.getElem?_eq_getElem hjs] using hj1
   have h1:=hcount listed.toList j (by simpa using hjs) hz'
   have h2:=List.length_filter_le id (listed.toList.set j true)
   simp at h1 h2 hf
   omega
  exact ⟨hnr,hdone listed σ a w hsz hσ hwl hnr hR⟩
 | succ fuel ih=>
  intro listed σ a w hsz hσ hwl hcl hf hR
  refine ⟨fun hr=>hdone listed σ a w hsz hσ hwl hr hR,fun i hi=>?_⟩
  rw [mem_ready] at hi
  obtain ⟨hi1,o',ho,hdeps⟩:=hi
  have hil:i < l.length:=by
   have:=(Array.getElem?_eq_some_iff.1 ho).1
   simpa using this
  have hol:l[i]? = some o':=by simpa using ho
  have his:i < listed.size:=by omega
  have hi1':listed[i] = false:=by simpa [Array.getD_eq_getD_getElem?,Array.getElem?_eq_getElem his] using hi1
  have hi2:listed.getD i false = false:=by simp [Array.getD_eq_getD_getElem?,Array.getElem?_eq_getElem his,hi1']
  obtain ⟨hσ1,hσ2⟩:=ja hσ
  obtain ⟨hc,hops⟩:=htab.get σ hσ2
  simp only [Bool.and_eq_true,List.all_eq_true,List.mem_range,Bool.or_eq_true,Bool.not_eq_true',beq_iff_eq] at hc
  obtain ⟨⟨⟨⟨hc1,hc0⟩,hc2⟩,hc3⟩,hc4⟩:=hc
  have hnot:=rK (l:=l) (σ:=σ) (isW:=isW) hc0 hwl hcl
  have hmust:=uw (l:=l) (σ:=σ) (isW:=isW) hc1 hwl hcl
  have hmay:may isW σ i o' = true:=by
   simp only [may,Bool.and_eq_true,Bool.not_eq_true',List.all_eq_true,Bool.or_eq_true]
   refine ⟨⟨⟨?_,?_⟩,?_⟩,fun e he=>?_⟩
   ·cases hd:nb σ.done i with
    | false=>rfl
    | true=>
     rcases hc2 i hil with h | h
     ·rw [hd] at h; simp at h
     ·rw [hwl i h,hd] at hi2; simp at hi2
   ·cases hd:σ.must.contains i with
    | false=>rfl
    | true=>
     have:=hmust _ i rfl (by simpa using hd)
     rw [hi2] at this; simp at this
   ·cases hd:σ.nots.contains i with
    | false=>rfl
    | true=>exact (w7 (l:=l) (σ:=σ) (isW:=isW) hc0 hwl hcl (by simpa using hd) hol (fun e he hb=>hdeps e (by simpa using he) hb)).elim
   ·cases hb:Region.binds .any e with
    | false=>simp
    | true=>
     have:=hdeps e (by simpa using he) hb
     cases hw:nb isW e.on with
     | false=>simp
     | true=>rw [hwl _ hw] at this; simp [this]
  have hstep:=uI.get hops i o' hol (by rw [Nat.zero_add]; exact hmay)
  simp only [Nat.zero_add] at hstep
  have hR2:R E n ⟨dv (nb σ.live) l Fs o'.after.toList ++ (σ.base ++ bz (fun i=>listed.getD i false && nb σ.live i) 0 l Fs),σ.own⟩ a w:=by
   obtain ⟨h1,h2,h,ρ,hw,hs⟩:=hR
   refine ⟨h1,h2,h,ρ,hw,fun k y hy=>?_⟩
   rcases List.mem_append.1 hy with hy | hy
   ·obtain ⟨e,he,hb,hp,o'',ho',hd',hF'⟩:=oV hy
    refine hs k y (List.mem_append.2 (.inr ?_))
    rw [dM]
    exact ⟨e.on,o'',ho',hd',hF',by rw [Nat.zero_add,hdeps e (by simpa using he) hb,hp]; rfl⟩
   ·exact hs k y hy
  have hcl':∀ (j:Nat) (p:Oper),l[j]? = some p → (listed.setIfInBounds i true).getD j false = true → ∀ e ∈ p.after.toList,Region.binds .any e = true → (listed.setIfInBounds i true).getD e.on false = true:=by
   intro j p hj hlj e he hb
   have hset:∀ q,listed.getD q false = true → (listed.setIfInBounds i true).getD q false = true:=fun q hq=>by
    by_cases e:q = i
    ·subst e; simp [Array.getD_eq_getD_getElem?,his]
    ·rw [getD_set_ne false (fun h=>e h.symm)]; exact hq
   by_cases e':j = i
   ·subst e'
    rw [hol] at hj; cases hj
    exact hset _ (hdeps e (by simpa using he) hb)
   ·rw [getD_set_ne false (fun h=>e' h.symm)] at hlj
    exact hset _ (hcl j p hj hlj e he hb)
  have hcnt:l.length ≤ fuel + ((listed.setIfInBounds i true).toList.filter id).length:=by
   have:=hcount listed.toList i (by simpa using his) (by simpa using hi1')
   rw [Array.toList_setIfInBounds]
   omega
  have hsz':(listed.setIfInBounds i true).size = l.length:=by simpa using hsz
  have hnext:∀ (τ:oK) (key:List Nat) (x:SV) (a':Act) (w':World),(o'.dst.isSome = true → Fs[i]? = some x) → (∀ k y,(k,y) ∈ τ.base → (k,y) ∈ jt key σ.base ∧ ∀ d,o'.dst = some d → k ≠ d) →
    (∀ j,j < l.length → nb τ.live j = true → j = i ∨ j ∈ σ.nots ∨ (nb σ.live j = true ∧ ∀ y,Fs[j]? = some y → nu key y = false)) →
    R E n (St.put n o'.dst x ⟨jt key (dv (nb σ.live) l Fs o'.after.toList ++ (σ.base ++ bz (fun i=>listed.getD i false && nb σ.live i) 0 l Fs)),τ.own⟩) a' w' →
    R E n ⟨τ.base ++ bz (fun i'=>(listed.setIfInBounds i true).getD i' false && nb τ.live i') 0 l Fs,τ.own⟩ a' w':=by
   intro τ key x a' w' hx hbase hlive hR'
   obtain ⟨h1,h2,h,ρ,hw,hs⟩:=hR'
   have hown:(St.put n o'.dst x ⟨jt key (dv (nb σ.live) l Fs o'.after.toList ++ (σ.base ++ bz (fun i=>listed.getD i false && nb σ.live i) 0 l Fs)),τ.own⟩).own = τ.own:=by
    cases hd:o'.dst with
    | none=>rfl
    | some d=>simp only [St.put,St.set]; split <;> rfl
   rw [hown] at hw
   refine ⟨h1,h2,h,ρ,hw,fun k y hy=>?_⟩
   have hold:(∀ d,o'.dst = some d → k ≠ d) → (k,y) ∈ jt key (dv (nb σ.live) l Fs o'.after.toList ++ (σ.base ++ bz (fun i=>listed.getD i false && nb σ.live i) 0 l Fs)) → ∃ v,a'.tmps[k]? = some v ∧ y.rel h ρ v:=by
    intro hkd hm
    refine hs k y ?_
    cases hd:o'.dst with
    | none=>exact hm
    | some d=>
     simp only [St.put,St.set]
     split
     ·exact List.mem_cons_of_mem _ (fW hm (hkd d hd))
     ·exact hm
   rcases List.mem_append.1 hy with hy | hy
   ·obtain ⟨hy,hkd⟩:=hbase k y hy
    have hy2:(k,y) ∈ σ.base ∧ nu key y = false:=j7 hy
    exact hold hkd (mH (List.mem_append.2 (.inr (List.mem_append.2 (.inl hy2.1)))) hy2.2)
   ·rw [dM] at hy
    obtain ⟨j,oj,hj,hd',hF',hl'⟩:=hy
    rw [Nat.zero_add] at hl'
    simp only [Bool.and_eq_true] at hl'
    have hjl:=(List.getElem?_eq_some_iff.1 hj).1
    by_cases hji:j = i
    ·subst hji
     rw [hol] at hj; cases hj
     have hxy:x = y:=by
      have:=hx (by rw [hd']; rfl)
      rw [this] at hF'; exact Option.some.inj hF'
     subst hxy
     refine hs k x ?_
     have hk:k < n.n:=by simpa using hlt k (mC hol hd')
     simp only [hd',St.put,St.set,hk,if_true]
     exact List.mem_cons_self
    ·rcases hlive j hjl hl'.2 with h | h | ⟨h3,h4⟩
     ·exact absurd h hji
     ·exfalso
      have:=hl'.1
      rw [getD_set_ne false (fun e=>hji e.symm),hnot j h] at this
      simp at this
     ·have hl2:listed.getD j false = true:=by
       have:=hl'.1
       rwa [getD_set_ne false (fun e=>hji e.symm)] at this
      refine hold (fun d hd e=>hji (rD hnd hj hol (e ▸ hd') hd)) (mH (List.mem_append.2 (.inr (List.mem_append.2 (.inr ?_)))) (h4 y hF'))
      rw [dM]
      exact ⟨j,oj,hj,hd',hF',by rw [Nat.zero_add,hl2,h3]; rfl⟩
  unfold wpOp
  rw [ho]
  dsimp only
  have fin:∀ (K:Act → World → Prop),(if Region.wanted o' (yielded l.toArray a.tmps) = true then o'.wp P a w K Q else K (a.put o'.dst undef) w) → (∀ a' w',K a' w' → wpAny P .any l.toArray Q fuel (listed.setIfInBounds i true) a' w') → (if Region.wanted o' (yielded l.toArray a.tmps) = true then (o'.wp P a w (wpAny P .any l.toArray Q fuel (listed.setIfInBounds i true)) Q ∨ False) else wpAny P .any l.toArray Q fuel (listed.setIfInBounds i true) (a.put o'.dst undef) w):=by
   intro K hK hk
   split
   ·rename_i hw'
    simp only [hw',if_true] at hK
    exact .inl (Oper.wp_mono hk hK)
   ·rename_i hw'
    simp only [hw'] at hK
    exact hk _ _ hK
  by_cases hw:nb isW i = true
  ·rw [if_pos hw] at hstep
   obtain ⟨τ,key,x,hτ,hx,hbase,hlive,hst⟩:=hstep
   obtain ⟨hτ1,hτ2⟩:=ja hτ
   have key1:=hst (bz (fun i=>listed.getD i false && nb σ.live i) 0 l Fs) a w hR2 (wpAny P .any l.toArray Q fuel (listed.setIfInBounds i true)) Q (fun a' w' hR'=>by
    refine ih _ τ a' w' hsz' (by rw [hτ1]; exact hτ) ?_ hcl' hcnt (hnext τ key x a' w' hx (fun k y hy=>by rw [hbase] at hy; exact yH hy) ?_ hR')
    ·intro j hj
     rw [hτ1,nb_set]
     by_cases e:j = i
     ·subst e
      rw [if_pos ⟨rfl,by omega⟩]
      simp [Array.getD_eq_getD_getElem?,his]
     ·rw [if_neg (fun h=>e h.1),getD_set_ne false (fun h=>e h.symm)]
      exact hwl j hj
    ·intro j hjl hlj
     have:=List.all_eq_true.1 hlive j (List.mem_range.2 hjl)
     simp only [Bool.or_eq_true,Bool.not_eq_true',beq_iff_eq,Bool.and_eq_true] at this
     rcases this with ((h | h) | h) | ⟨h,h'⟩
     ·rw [hlj] at h; simp at h
     ·exact .inl h
     ·exact .inr (.inl (by simpa using h))
     ·refine .inr (.inr ⟨h,fun y hy=>?_⟩)
      rw [hy] at h'
      simpa using h')
   split
   ·rename_i hw'
    simp only [hw',if_true] at key1
    exact .inl key1
   ·rename_i hw'
    simp only [hw'] at key1
    exact key1
  ·rw [if_neg hw] at hstep
   obtain ⟨x,hx,hst⟩:=hstep
   have key1:=hst (bz (fun i=>listed.getD i false && nb σ.live i) 0 l Fs) a w hR2 (wpAny P .any l.toArray Q fuel (listed.setIfInBounds i true)) Q (fun a' w' hR'=>by
    refine ih _ σ a' w' hsz' hσ ?_ hcl' hcnt (hnext σ [] x a' w' hx (fun k y hy=>⟨hy,fun d hd e=>xn hc3 hil hol hd (.inl (by simpa using hw)) hy e⟩) (fun j _ hlj=>.inr (.inr ⟨hlj,fun _ _=>rfl⟩)) hR')
    intro j hj
    by_cases e:j = i
    ·subst e; exact absurd hj hw
    ·rw [getD_set_ne false (fun h=>e h.symm)]
     exact hwl j hj)
   split
   ·rename_i hw'
    simp only [hw',if_true] at key1
    exact .inl key1
   ·rename_i hw'
    simp only [hw'] at key1
    exact key1
theorem r8.W {ops:List Oper} (isW:List Bool) (Fs:List SV) (tab:List oK) {σ0 σf:oK} (hok:(j5 0 ops && kY (jq ops) && (jq ops).all (· < n.n) && (isW.length == ops.length)) = true)
  (htab:sY P E n isW tab ops Fs tab) (h0:kA tab (List.replicate ops.length false) = some σ0) (hs0:s = ⟨σ0.base,σ0.own⟩) (hf:kA tab isW = some σf) (ks kos:List Nat)
  (hs:(⟨σf.base ++ bz (nb σf.live) 0 ops Fs,σf.own⟩:St).keep ks kos = s') (h:Fin E n .normal s' Q):r8 P E n ops.toArray s Q:=by
 subst hs0
 intro a w hr
 refine anyW hok htab (Fs:=Fs) (fun σ hσ=>?_) _ _ σ0 _ _ (by simp) (by rw [(ja h0).1]; exact h0) ?_ ?_ (by simp) ?_
 ·rw [hf] at hσ; cases hσ
  exact fun a w hr=>h a w (hs ▸ hr.keep ks kos)
 ·intro i _
  rw [(ja h0).1]
  by_cases hi:i < ops.length <;> simp [nb,List.getD,Array.getD_eq_getD_getElem?,hi]
 ·intro i p hi hl
  exfalso
  simp only [Array.getD_eq_getD_getElem?,Array.getElem?_replicate] at hl
  split at hl <;> simp at hl
 ·have hr':=hr.drawn
  obtain ⟨h1,h2,hh,ρ,hw,hsl⟩:=hr'
  refine ⟨h1,h2,hh,ρ,hw,fun k x hx=>hsl k x ?_⟩
  rcases List.mem_append.1 hx with hx | hx
  ·exact hx
  ·rw [dM] at hx
   obtain ⟨j,o,hj,_,_,hl⟩:=hx
   simp only [Nat.zero_add,Array.getD_eq_getD_getElem?,Array.getElem?_replicate,Bool.and_eq_true] at hl
   have:=hl.1
   split at this <;> simp at this
theorem ab.nJ {rid:Nat} {ops:List Oper} (hm:P.follows .mixedOrders = true) (isW:List Bool) (Fs:List SV) (tab:List oK) {σ0 σf:oK} (hok:(j5 0 ops && kY (jq ops) && (jq ops).all (· < n.n) && (isW.length == ops.length)) = true)
  (htab:sY P E n isW tab ops Fs tab) (h0:kA tab (List.replicate ops.length false) = some σ0) (hs0:s = ⟨σ0.base,σ0.own⟩) (hf:kA tab isW = some σf) (ks kos:List Nat)
  (hs:(⟨σf.base ++ bz (nb σf.live) 0 ops Fs,σf.own⟩:St).keep ks kos = s') (h:Fin E n .normal s' Q):ab P E n (.region rid ops.toArray true) s Q:=ab.ofA hm (r8.W isW Fs tab hok htab h0 hs0 hf ks kos hs h)
theorem ab.ff {rid:Nat} {ops:List Oper} {y:Code} (hm:P.follows .mixedOrders = true) (isW:List Bool) (Fs:List SV) (tab:List oK) {σ0 σf:oK} (hok:(j5 0 ops && kY (jq ops) && (jq ops).all (· < n.n) && (isW.length == ops.length)) = true)
  (htab:sY P E n isW tab ops Fs tab) (h0:kA tab (List.replicate ops.length false) = some σ0) (hs0:s = ⟨σ0.base,σ0.own⟩) (hf:kA tab isW = some σf) (ks kos:List Nat)
  (hs:(⟨σf.base ++ bz (nb σf.live) 0 ops Fs,σf.own⟩:St).keep ks kos = s') (h:ab P E n y s' Q):ab P E n (.region rid ops.toArray true) s (Exit.then (y.wp P Q) Q) :=
 ab.nJ hm isW Fs tab hok htab h0 hs0 hf ks kos hs (Fin.then h)
end
end Go.Sk
namespace Go.Sk
open Go
theorem aA.jH {P:Program} {TB:b5} {f:FuncId} {own:List (Nat × OC)} {args:List BV} {post:ka} {size:Nat} (i:Nat) (hz:0 < size) (h:aA P TB f own args post) (hi:args[i]? = some (.one (.sl size []))):aA P TB f own (args.set i (.one .nil)) post:=by
 intro w hh ρ vals tb h1 h2 h3
 refine h w hh ρ vals tb h1 h2 ?_
 clear h h1 h2
 induction args generalizing i vals with
 | nil=>simp at hi
 | cons z args ih=>
  cases i with
  | zero=>
   simp at hi
   subst hi
   cases h3 with
   | cons a b=>exact .cons ⟨fun ps hp=>by simp at hp,hz,.inl ⟨a.1,rfl⟩⟩ b
  | succ i=>
   cases h3 with
   | cons a b=>exact .cons a (ih i (by simpa using hi) _ b)
end Go.Sk
namespace Go.Sk
set_option linter.unusedSimpArgs false
set_option linter.unusedVariables false
open Go Go.BigFrame
section
variable {P:Program} {TB:b5} {E:Env TB} {n:Sh} {s s2:St} {dst:Option Nat} {t ty yt:TypeId} {pos:String} {after:Array Edge} {g:Option (Nat × Bool)} {x y c:Operand} {k:IntKind} {a b:Int} {ops:Array Oper} {o:Oper}
theorem dJ.forget (kb off:Nat) {T:TypeId} {cs:List BV} (hk:lk s.own kb = some (.aW T cs)) (h:dJ P E n ops o ⟨s.slots,ins kb (.aW T (cs.set off (.one .any))) s.own⟩ s2):dJ P E n ops o s s2 :=
 fun a w hr=>h a w (hr.forget kb off hk)
end
end Go.Sk
namespace Go.Sk
set_option linter.unusedSimpArgs false
set_option linter.unusedVariables false
open Go
theorem lP {α:Type} [Inhabited α] (l:List α) (i:Nat) (h:i < l.length):idx l (i:Int) = l[i]:=by
 simp [idx,List.getD,List.getElem?_eq_getElem h]
theorem kE {α:Type} [Inhabited α] {l:List α} {i:Int} (h0:0 ≤ i) (h1:i < l.length):idx l i ∈ l:=List.mem_of_getElem? (idx_eq h0 h1)
end Go.Sk
namespace Go.Sk
set_option linter.unusedSimpArgs false
set_option linter.unusedVariables false
open Go Go.BigFrame
def eA (k:IntKind) (l:List Int):List CP:=l.map (.int k)
@[simp] theorem eA_len (k:IntKind) (l:List Int):(eA k l).length = l.length:=by simp [eA]
section
variable {P:Program} {t:TypeId}
def k5 (P:Program) (d:Nat) (t:TypeId) (m:Nat) (ps qs:List CP) (r:Bool):Prop :=
 ∀ (h:PH) (w:World) (A B:Array Value) (off:Nat),aS h ps ((A.toList.drop off).take m) → aS h qs ((B.toList.drop off).take m) → ps.length = m → qs.length = m →
  ∃ a b,(part t A off).run P w = .ok a w ∧ (part t B off).run P w = .ok b w ∧ (Op.equalIn d t a b).run P w = .ok r w
theorem pR (ht:fq P t) {A:Array Value} {off:Nat} {v:Value} (hv:A[off]? = some v) (w:World):(part t A off).run P w = .ok v w:=by
 obtain ⟨d,hd,ha⟩:=ht.und
 unfold part
 rw [Sem.run_bind,mF hd,Result.andThen,ha]
 simp [hv]
theorem pS {m:Nat} (ht:j9 P t m) {A:Array Value} {off:Nat} (w:World):(part t A off).run P w = .ok (.agg (A.extract off (off + m))) w:=by
 obtain ⟨d,hd,ha⟩:=ht.und
 obtain ⟨i,hi,hn⟩:=ht.size
 unfold part
 rw [Sem.run_bind,mF hd,Result.andThen,ha]
 simp [run_sizeOf hi,hn]
theorem qN {h:PH} {p:CP} {A:Array Value} {off:Nat} (hr:aS h [p] ((A.toList.drop off).take 1)):∃ u,A[off]? = some u ∧ p.rel h u:=by
 obtain ⟨u,hu,hp⟩:=hr.get 0 p rfl
 rw [List.getElem?_take] at hu
 simp at hu
 exact ⟨u,hu,hp⟩
theorem k5.one {d:Nat} {p q:CP} {r:Bool} (ht:fq P t) (hrun:∀ (h:PH) (u v:Value) (w:World),p.rel h u → q.rel h v → (Op.equalIn d t u v).run P w = .ok r w):k5 P d t 1 [p] [q] r:=by
 intro h w A B off ha hb _ _
 obtain ⟨u,hu,hp⟩:=qN ha
 obtain ⟨v,hv,hq⟩:=qN hb
 exact ⟨u,v,pR ht hu w,pR ht hv w,hrun h u v w hp hq⟩
theorem k5.int {d:Nat} {k k':IntKind} {a b:Int} (h1:fq P t) (hu:P.underlying t = some (.int k')):k5 P (d + 1) t 1 [.int k a] [.int k b] (decide (a = b)) :=
 .one h1 fun h u v w hp hq=>by rw [hp.1,hq.1,run_equalIn_int w d t k k' a b hu,ra]
theorem k5.str {d:Nat} {a b:de} (h1:fq P t) (hu:P.underlying t = some .string):k5 P (d + 1) t 1 [.str a] [.str b] (decide (a = b)) :=
 .one h1 fun h u v w hp hq=>by rw [hp.1,hq.1,run_equalIn_string w d t _ _ hu,q7]
theorem k5.bool {d:Nat} {a b:Bool} (h1:fq P t) (hu:P.underlying t = some .bool):k5 P (d + 1) t 1 [.bool a] [.bool b] (a == b) :=
 .one h1 fun h u v w hp hq=>by rw [show u = .bool a from hp,show v = .bool b from hq,run_equalIn_bool' w d t a b hu]
def EqFs (P:Program) (d:Nat) (ps qs:List CP):List Field → List Bool → Prop
 | [],[]=>True
 | f :: fs,r :: rs=>f.name ≠ "_" ∧ (∃ m p' q',(ps.drop f.offset).take m = p' ∧ (qs.drop f.offset).take m = q' ∧ p'.length = m ∧ q'.length = m ∧ k5 P d f.type m p' q' r) ∧ EqFs P d ps qs fs rs
 | _,_=>False
theorem ud {d:Nat} {h:PH} {ps qs:List CP} {A B:Array Value} (hp:aS h ps A.toList) (hq:aS h qs B.toList) (w:World):∀ {fs:List Field} {rs:List Bool},EqFs P d ps qs fs rs → (Op.eqFields d A B fs).run P w = .ok (rs.all id) w
 | [],[],_=>rfl
 | [],_ :: _,h=>h.elim
 | _ :: _,[],h=>h.elim
 | f :: fs,r :: rs,⟨h1,⟨m,p',q',e1,e2,l1,l2,he⟩,h3⟩=>by
  have ih:=ud hp hq w h3
  obtain ⟨a,b,r1,r2,r3⟩:=he h w A B f.offset (by rw [← e1]; exact bl.take (bl.drop hp _) _) (by rw [← e2]; exact bl.take (bl.drop hq _) _) l1 l2
  unfold Op.eqFields
  rw [if_pos h1]
  rw [Sem.run_bind,r1,Result.andThen,Sem.run_bind,r2,Result.andThen,Sem.run_bind,r3,Result.andThen]
  cases r
  ·simp
  ·simpa using ih
theorem pV {A:Array Value} {off m:Nat}:(A.extract off (off + m)).toList = (A.toList.drop off).take m:=by
 rw [Array.toList_extract]
 show (A.toList.drop off).take (off + m - off) = _
 rw [Nat.add_sub_cancel_left]
theorem k5.struct {d m:Nat} {ps qs:List CP} {fs:Array Field} {rs:List Bool} {r:Bool} (ta:j9 P t m) (hh:P.stoodInHeld t = false) (hu:P.underlying t = some (.struct fs)) (hc:EqFs P d ps qs fs.toList rs) (hr:rs.all id = r):k5 P (d + 1) t m ps qs r:=by
 intro h w A B off ha hb l1 l2
 have hf:P.fieldsOf t = fs:=by simp [Program.fieldsOf,hu]
 refine ⟨_,_,pS ta w,pS ta w,?_⟩
 rw [run_equalIn_struct w d t _ _ (by rw [hf]; exact hu) hh,hf,ud (by rw [pV]; exact ha) (by rw [pV]; exact hb) w hc,hr]
end
structure TyBuildA (P:Program) (t:TypeId) (size:Nat) (zs:List CP):Prop where
 info:∃ it z m e ie,P.info? t = some it ∧ it.zero = some z ∧ cvs z.cells.toList = some zs ∧ P.underlying t = some (.array m e) ∧ P.info? e = some ie ∧ ie.size = size
section
variable {P:Program} {TB:b5} {E:Env TB} {n:Sh} {s s':St} {dst:Option Nat} {t ty yt:TypeId} {pos:String} {after:Array Edge} {g:Option (Nat × Bool)} {x y c:Operand} {ops:Array Oper} {l:List Oper} {Q:dN} {cd:Code} {o:Oper}
theorem af.rm {α β:Type} (en:β → List CP) {a:β} {K:β → Option α} {r:α} (h:bu a K = some r) (hg:o.guard = none) (h1:bD P E n o s (s.put n o.dst (.b (.agg (en a)))))
  (H:∀ z,K z = some r → af P E n ops l (s.put n o.dst (.b (.agg (en z)))) Q):af P E n ops (o :: l) s Q:=af.cons hg h1 (H a h)
end
section
variable {P:Program} {TB:b5} {E:Env TB} {n:Sh} {s s':St} {dst:Option Nat} {t ty yt:TypeId} {pos:String} {after:Array Edge} {g:Option (Nat × Bool)} {x y c:Operand} {k:IntKind} {a b:Int} {ops:Array Oper} {l:List Oper} {Q:dN} {cd:Code} {o:Oper}
end
end Go.Sk
namespace Go.Sk
set_option linter.unusedSimpArgs false
set_option linter.unusedVariables false
open Go Go.BigFrame
section
variable {P:Program} {TB:b5} {E:Env TB} {n:Sh} {s s' s2:St} {l:List Oper} {L:List Oper} {Q:dN} {o:Oper}
def xt (L:List Oper) (i j:Nat):Bool:=match L[i]? with
 | some o=>o.after.toList.any fun e=>Region.binds .any e && e.on == j
 | none=>false
theorem qx {L:List Oper} {i j:Nat} (h:xt L i j = true):∃ o,L[i]? = some o ∧ ∃ e,e ∈ o.after ∧ Region.binds .any e = true ∧ e.on = j:=by
 unfold xt at h
 split at h
 ·next o ho=>
  simp only [List.any_eq_true,Bool.and_eq_true,beq_iff_eq] at h
  obtain ⟨e,he,h1,h2⟩:=h
  exact ⟨o,ho,e,by simpa using he,h1,h2⟩
 ·simp at h
theorem nY:∀ (L:List Bool) (i:Nat) (hi:i < L.length),L[i] = false → ((L.set i true).filter id).length = (L.filter id).length + 1
 | [],i,hi,_=>by simp at hi
 | b :: L,0,hi,hb=>by simp at hb; subst hb; simp
 | b :: L,i + 1,hi,hb=>by
  have:=nY L i (by simpa using hi) (by simpa using hb)
  cases b <;> simp [this]
def vj (L:List Oper) (listed:Array Bool):Prop:=∀ (i:Nat) (o:Oper),L[i]? = some o → listed.getD i false = true → ∀ e ∈ o.after,Region.binds .any e = true → listed.getD e.on false = true
theorem anyG (Inv:Array Bool → Act → World → Prop) (hed:j5 0 L = true)
  (hstep:∀ (listed:Array Bool) a w (i:Nat) (o:Oper),listed.size = L.length → vj L listed → L[i]? = some o → listed.getD i false = false → (∀ e ∈ o.after,Region.binds .any e = true → listed.getD e.on false = true) → Inv listed a w →
   ∀ K:Act → World → Prop,(∀ a' w',Inv (listed.setIfInBounds i true) a' w' → K a' w') → if Region.wanted o (yielded L.toArray a.tmps) then o.wp P a w K Q else K (a.put o.dst undef) w)
  (hend:∀ (listed:Array Bool) a w,listed.size = L.length → (∀ j,j < L.length → listed.getD j false = true) → Inv listed a w → Q .normal a w) :
  ∀ (fuel:Nat) (listed:Array Bool) (a:Act) (w:World),listed.size = L.length → vj L listed → L.length ≤ fuel + (listed.toList.filter id).length → Inv listed a w → wpAny P .any L.toArray Q fuel listed a w:=by
 have hready:∀ (listed:Array Bool),listed.size = L.length → Region.ready .any L.toArray listed = [] → ∀ j,j < L.length → listed.getD j false = true:=by
  intro listed hsz hr j hj
  induction j using Nat.strongRecOn with
  | _ j ih=>
   cases hb:listed.getD j false with
   | true=>rfl
   | false=>
    exfalso
    have hjr:j ∈ Region.ready .any L.toArray listed:=by
     rw [mem_ready]
     refine ⟨?_,L[j],by simp [hj],fun e he hbd=>?_⟩
     ·have:j < listed.size:=by omega
      simp only [Array.getD_eq_getD_getElem?,Array.getElem?_eq_getElem this,Option.getD_some] at hb ⊢
      exact hb
     ·have:=ni hed j L[j] (by simp) e he hbd
      exact ih e.on (by omega) (by omega)
    rw [hr] at hjr
    simp at hjr
 intro fuel
 induction fuel with
 | zero=>
  intro listed a w hsz hcl hf hR
  have hall:∀ j,j < L.length → listed.getD j false = true:=by
   intro j hj
   have hfl:(listed.toList.filter id).length = listed.toList.length:=by
    have:=List.length_filter_le id listed.toList
    simp at this ⊢; omega
   have hall2:=List.filter_eq_self.1 (List.filter_sublist.eq_of_length hfl)
   have hjs:j < listed.size:=by omega
   have:=hall2 listed[j] (by simp)
   simp only [Array.getD_eq_getD_getElem?,Array.getElem?_eq_getElem hjs,Option.getD_some]
   simpa using this
  have hr:Region.ready .any L.toArray listed = []:=by
   apply List.eq_nil_iff_forall_not_mem.2
   intro j hj
   rw [mem_ready] at hj
   obtain ⟨hj1,o,ho,_⟩:=hj
   have hjl:j < L.length:=by simpa using (Array.getElem?_eq_some_iff.1 ho).1
   have hjs:j < listed.size:=by omega
   have:=hall j hjl
   simp only [Array.getD_eq_getD_getElem?,Array.getElem?_eq_getElem hjs,Option.getD_some] at this hj1
   rw [this] at hj1; simp at hj1
  exact ⟨hr,hend listed a w hsz hall hR⟩
 | succ fuel ih=>
  intro listed a w hsz hcl hf hR
  refine ⟨fun hr=>hend listed a w hsz (hready listed hsz hr) hR,fun i hi=>?_⟩
  rw [mem_ready] at hi
  obtain ⟨hi1,o,ho,hdeps⟩:=hi
  have hol:L[i]? = some o:=by simpa using ho
  have hil:i < L.length:=(List.getElem?_eq_some_iff.1 hol).1
  have his:i < listed.size:=by omega
  have hi1':listed[i] = false:=by simpa [Array.getD_eq_getD_getElem?,Array.getElem?_eq_getElem his] using hi1
  have hi2:listed.getD i false = false:=by simp [Array.getD_eq_getD_getElem?,Array.getElem?_eq_getElem his,hi1']
  have key:=hstep listed a w i o hsz hcl hol hi2 hdeps hR (wpAny P .any L.toArray Q fuel (listed.setIfInBounds i true)) (fun a' w' hR'=>by
   have hset:∀ q,listed.getD q false = true → (listed.setIfInBounds i true).getD q false = true:=fun q hq=>by
    by_cases e:q = i
    ·subst e; simp [Array.getD_eq_getD_getElem?,his]
    ·rw [getD_set_ne false (fun h=>e h.symm)]; exact hq
   refine ih _ a' w' (by simpa using hsz) ?_ ?_ hR'
   ·intro j p hj hlj e he hb
    by_cases e':j = i
    ·subst e'
     rw [hol] at hj; cases hj
     exact hset _ (hdeps e he hb)
    ·rw [getD_set_ne false (fun h=>e' h.symm)] at hlj
     exact hset _ (hcl j p hj hlj e he hb)
   ·have:=nY listed.toList i (by simpa using his) (by simpa using hi1')
    rw [Array.toList_setIfInBounds]
    omega)
  unfold wpOp
  rw [ho]
  dsimp only
  split
  ·rename_i hw'
   simp only [hw',if_true] at key
   exact .inl key
  ·rename_i hw'
   simp only [hw'] at key
   exact key
def lR (l:List Oper) (j:Nat) (sl:List (Nat × SV)):List (Nat × SV):=sl.filter fun p=>(List.range l.length).all fun i=>((l[i]?).bind (·.dst)) != some p.1 || i == j || xt l i j
def uE (l:List Oper) (listed:Array Bool) (d:Nat):Bool:=(List.range l.length).any fun i=>listed.getD i false && ((l[i]?).bind (·.dst)) == some d
def stE (s:St) (l:List Oper) (Fs:List SV) (listed:Array Bool):St:=⟨(s.slots.filter fun p=>!uE l listed p.1) ++ bz (fun i=>listed.getD i false) 0 l Fs,s.own⟩
def pb (P:Program) {TB:b5} (E:Env TB) (n:Sh) (ops:Array Oper) (s:St) (l:List Oper) (Fs:List SV):Nat → List Oper → List SV → Prop
 | _,[],[]=>True
 | j,o :: r,x :: xs=>(∀ extra,dJ P E n ops o ⟨fT l Fs o.after.toList ++ (lR l j s.slots ++ extra),s.own⟩ (St.put n o.dst x ⟨fT l Fs o.after.toList ++ (lR l j s.slots ++ extra),s.own⟩)) ∧ pb P E n ops s l Fs (j + 1) r xs
 | _,_,_=>False
theorem rG {ops:Array Oper} {Fs:List SV} {l0:List Oper}:∀ {r:List Oper} {xs:List SV} {j:Nat},pb P E n ops s l0 Fs j r xs → r.length = xs.length ∧ ∀ (i:Nat) (o:Oper),r[i]? = some o → ∃ x,xs[i]? = some x ∧ ∀ extra,dJ P E n ops o ⟨fT l0 Fs o.after.toList ++ (lR l0 (j + i) s.slots ++ extra),s.own⟩ (St.put n o.dst x ⟨fT l0 Fs o.after.toList ++ (lR l0 (j + i) s.slots ++ extra),s.own⟩)
 | [],[],j,_=>⟨rfl,fun i o h=>by simp at h⟩
 | o :: r,x :: xs,j,h=>by
  obtain ⟨h1,h2⟩:=h
  obtain ⟨h3,h4⟩:=rG h2
  refine ⟨by simp [h3],fun i o' ho=>?_⟩
  cases i with
  | zero=>simp at ho; subst ho; exact ⟨x,by simp,h1⟩
  | succ i=>
   obtain ⟨y,hy,hz⟩:=h4 i o' (by simpa using ho)
   exact ⟨y,by simpa using hy,by rw [← Nat.add_assoc,Nat.add_right_comm]; exact hz⟩
 | [],_ :: _,j,h=>h.elim
 | _ :: _,[],j,h=>h.elim
def qH (P:Program) {TB:b5} (E:Env TB) (n:Sh) (ops:Array Oper):List Oper → St → St → Prop
 | [],s,s'=>s = s'
 | o :: r,s,s'=>∃ s1,dJ P E n ops o s s1 ∧ qH P E n ops r s1 s'
def vh (L:List Oper) (q:Nat):Bool:=(List.range q).all fun j=>xt L q j || (List.range q).any fun i=>decide (j < i) && xt L i j
def okX (l tl:List Oper) (m:Nat):Bool:=j5 0 (l ++ tl) && kY (jq l) && (jq l).all (· < m) && (List.range tl.length).all fun k=>vh (l ++ tl) (l.length + k)
theorem covered {listed:Array Bool} {q:Nat} {o:Oper} (hcl:vj L listed) (hq:L[q]? = some o) (hd:∀ e ∈ o.after,Region.binds .any e = true → listed.getD e.on false = true) (hc:vh L q = true):∀ j,j < q → listed.getD j false = true:=by
 simp only [vh,List.all_eq_true,List.mem_range,Bool.or_eq_true,List.any_eq_true,Bool.and_eq_true,decide_eq_true_eq] at hc
 have key:∀ m j,q - j = m → j < q → listed.getD j false = true:=by
  intro m
  induction m using Nat.strongRecOn with
  | _ m ihm=>
   intro j hm hj
   rcases hc j hj with h | ⟨i,hi,hji,hp⟩
   ·obtain ⟨o',ho',e,he,hb,hon⟩:=qx h
    rw [hq] at ho'; cases ho'
    have:=hd e he hb
    rwa [hon] at this
   ·obtain ⟨o',ho',e,he,hb,hon⟩:=qx hp
    have h1:=ihm (q - i) (by omega) i rfl hi
    have:=hcl i o' ho' h1 e he hb
    rwa [hon] at this
 exact fun j hj=>key _ j rfl hj
def InvX (P:Program) {TB:b5} (E:Env TB) (n:Sh) (ops:Array Oper) (s:St) (l tl:List Oper) (Fs:List SV) (s2:St) (listed:Array Bool) (a:Act) (w:World):Prop :=
 ((∀ j,l.length ≤ j → listed.getD j false = false) ∧ R E n (stE s l Fs listed) a w) ∨
 ∃ k sk,k < tl.length ∧ (∀ j,j ≤ l.length + k → listed.getD j false = true) ∧ (∀ j,l.length + k < j → listed.getD j false = false) ∧ qH P E n ops (tl.drop (k + 1)) sk s2 ∧ R E n sk a w
theorem r8.X {ops:List Oper} (l tl:List Oper) (hops:l ++ tl = ops) (Fs:List SV) (ks kos:List Nat) (hok:okX l tl n.n = true) (hst:pb P E n ops.toArray s l Fs 0 l Fs)
  (htl:qH P E n ops.toArray tl ⟨(s.slots.filter fun p=>!(jq l).contains p.1) ++ bz (fun _=>true) 0 l Fs,s.own⟩ s2) (hs:s2.keep ks kos = s') (h:Fin E n .normal s' Q):r8 P E n ops.toArray s Q:=by
 subst hops
 simp only [okX,Bool.and_eq_true,List.all_eq_true,List.mem_range] at hok
 obtain ⟨⟨⟨hedges,hnd⟩,hlt⟩,hcov⟩:=hok
 obtain ⟨hlen,hsteps⟩:=rG (Fs:=Fs) hst
 intro a w hr
 have hgetl:∀ {i:Nat} {o:Oper},(l ++ tl)[i]? = some o → i < l.length → l[i]? = some o:=fun h hi=>by rwa [List.getElem?_append_left hi] at h
 have hS0:∀ {listed:Array Bool} {a:Act} {w:World},(∀ j,j < l.length → listed.getD j false = true) → R E n (stE s l Fs listed) a w → R E n ⟨(s.slots.filter fun p=>!(jq l).contains p.1) ++ bz (fun _=>true) 0 l Fs,s.own⟩ a w:=by
  intro listed a w hall hR
  obtain ⟨h1,h2,h,ρ,hw,hs⟩:=hR
  refine ⟨h1,h2,h,ρ,hw,fun k x hx=>hs k x ?_⟩
  simp only [stE,List.mem_append] at hx ⊢
  rcases hx with hx | hx
  ·left
   simp only [List.mem_filter,Bool.not_eq_true',List.contains_eq_mem,decide_eq_false_iff_not] at hx ⊢
   refine ⟨hx.1,?_⟩
   cases hh:uE l listed k with
   | false=>rfl
   | true=>
    exfalso
    simp only [uE,List.any_eq_true,List.mem_range,Bool.and_eq_true,beq_iff_eq,Option.bind_eq_some_iff] at hh
    obtain ⟨i,hi,_,o',ho',hd'⟩:=hh
    exact hx.2 (mC ho' hd')
  ·right
   rw [dM] at hx ⊢
   obtain ⟨j,oj,hj,hd,hF,_⟩:=hx
   exact ⟨j,oj,hj,hd,hF,by rw [Nat.zero_add]; exact hall j (List.getElem?_eq_some_iff.1 hj).1⟩
 refine anyG (L:=l ++ tl) (InvX P E n (l ++ tl).toArray s l tl Fs s2) hedges ?_ ?_ _ _ _ _ (by simp) ?_ (by simp) (.inl ⟨fun j hj=>?_,?_⟩)
 ·
  intro listed a w i o hsz hcl hio hil hdeps hInv K hK
  have hin:i < (l ++ tl).length:=(List.getElem?_eq_some_iff.1 hio).1
  have his:i < listed.size:=by omega
  have hset:∀ q,listed.getD q false = true → (listed.setIfInBounds i true).getD q false = true:=fun q hq=>by
   by_cases e:q = i
   ·subst e; simp [Array.getD_eq_getD_getElem?,his]
   ·rw [getD_set_ne false (fun h=>e h.symm)]; exact hq
  have hseti:(listed.setIfInBounds i true).getD i false = true:=by simp [Array.getD_eq_getD_getElem?,his]
  by_cases hi:i < l.length
  ·
   have hInv':(∀ j,l.length ≤ j → listed.getD j false = false) ∧ R E n (stE s l Fs listed) a w:=by
    rcases hInv with h | ⟨k,sk,hk,hyes,_⟩
    ·exact h
    ·have:=hyes i (by omega); rw [hil] at this; simp at this
   obtain ⟨hno,hR⟩:=hInv'
   have hol:=hgetl hio hi
   obtain ⟨x,hx,hstep⟩:=hsteps i o hol
   rw [Nat.zero_add] at hstep
   have hnohit:∀ p,p ∈ lR l i s.slots → p ∈ s.slots ∧ uE l listed p.1 = false:=by
    intro p hp
    simp only [lR,List.mem_filter,List.all_eq_true,List.mem_range,Bool.or_eq_true,bne_iff_ne,beq_iff_eq] at hp
    refine ⟨hp.1,?_⟩
    cases hh:uE l listed p.1 with
    | false=>rfl
    | true=>
     exfalso
     simp only [uE,List.any_eq_true,List.mem_range,Bool.and_eq_true,beq_iff_eq] at hh
     obtain ⟨q,hq,hlq,hdq⟩:=hh
     rcases hp.2 q hq with (h | h) | h
     ·exact h hdq
     ·subst h; rw [hil] at hlq; simp at hlq
     ·obtain ⟨o',ho',e,he,hb,hon⟩:=qx h
      have:=hcl q o' (by rw [List.getElem?_append_left hq]; exact ho') hlq e he hb
      rw [hon,hil] at this; simp at this
   have hR2:R E n ⟨fT l Fs o.after.toList ++ (lR l i s.slots ++ ((s.slots.filter fun p=>!uE l listed p.1) ++ bz (fun i=>listed.getD i false) 0 l Fs)),s.own⟩ a w:=by
    obtain ⟨h1,h2,h,ρ,hw,hs⟩:=hR
    refine ⟨h1,h2,h,ρ,hw,fun k y hy=>hs k y ?_⟩
    rcases List.mem_append.1 hy with hy | hy
    ·obtain ⟨e,he,hb,o',ho',hd',hF'⟩:=pT hy
     refine List.mem_append.2 (.inr ?_)
     rw [dM]
     exact ⟨e.on,o',ho',hd',hF',by rw [Nat.zero_add]; exact hdeps e (by simpa using he) hb⟩
    ·rcases List.mem_append.1 hy with hy | hy
     ·obtain ⟨h1,h2⟩:=hnohit _ hy
      exact List.mem_append.2 (.inl (List.mem_filter.2 ⟨h1,by simp [h2]⟩))
     ·exact hy
   refine hstep _ a w hR2 K Q (fun a' w' hR'=>hK a' w' (.inl ⟨fun j hj=>?_,?_⟩))
   ·rw [getD_set_ne false (by omega)]; exact hno j hj
   ·obtain ⟨h1,h2,h,ρ,hw,hs⟩:=hR'
    have hown:∀ sl,(St.put n o.dst x ⟨sl,s.own⟩).own = s.own:=fun sl=>by
     cases hd:o.dst with
     | none=>rfl
     | some d=>simp only [St.put,St.set]; split <;> rfl
    rw [hown] at hw
    refine ⟨h1,h2,h,ρ,hw,fun k y hy=>?_⟩
    have hold:(k,y) ∈ (s.slots.filter fun p=>!uE l listed p.1) ++ bz (fun i=>listed.getD i false) 0 l Fs → (∀ d,o.dst = some d → k ≠ d) → ∃ v,a'.tmps[k]? = some v ∧ y.rel h ρ v:=by
     intro hm hkd
     refine hs k y ?_
     have hm':(k,y) ∈ fT l Fs o.after.toList ++ (lR l i s.slots ++ ((s.slots.filter fun p=>!uE l listed p.1) ++ bz (fun i=>listed.getD i false) 0 l Fs)):=List.mem_append.2 (.inr (List.mem_append.2 (.inr hm)))
     cases hd:o.dst with
     | none=>simp only [St.put]; exact hm'
     | some d=>
      simp only [St.put,St.set]
      split
      ·exact List.mem_cons_of_mem _ (fW hm' (hkd d hd))
      ·exact hm'
    simp only [stE] at hy
    rcases List.mem_append.1 hy with hy | hy
    ·obtain ⟨hy1,hy2⟩:=List.mem_filter.1 hy
     have hy2':uE l (listed.setIfInBounds i true) k = false:=by simpa using hy2
     refine hold (List.mem_append.2 (.inl (List.mem_filter.2 ⟨hy1,?_⟩))) (fun d hd e=>?_)
     ·cases hh:uE l listed k with
      | false=>rfl
      | true=>
       exfalso
       simp only [uE,List.any_eq_true,List.mem_range,Bool.and_eq_true,beq_iff_eq] at hh
       obtain ⟨q,hq,hlq,hdq⟩:=hh
       have:uE l (listed.setIfInBounds i true) k = true:=by
        simp only [uE,List.any_eq_true,List.mem_range,Bool.and_eq_true,beq_iff_eq]
        exact ⟨q,hq,hset q hlq,hdq⟩
       rw [hy2'] at this; simp at this
     ·subst e
      have:uE l (listed.setIfInBounds i true) k = true:=by
       simp only [uE,List.any_eq_true,List.mem_range,Bool.and_eq_true,beq_iff_eq]
       exact ⟨i,hi,hseti,by rw [hol]; exact hd⟩
      rw [hy2'] at this; simp at this
    ·rw [dM] at hy
     obtain ⟨j,oj,hj,hd',hF',hl'⟩:=hy
     rw [Nat.zero_add] at hl'
     by_cases hji:j = i
     ·subst hji
      rw [hol] at hj; cases hj
      rw [hx] at hF'; cases hF'
      refine hs k y ?_
      have hk:k < n.n:=by
       have:=hlt k (mC hol hd')
       simpa using this
      simp only [hd',St.put,St.set,hk,if_true]
      exact List.mem_cons_self
     ·have hl2:listed.getD j false = true:=by
       rw [getD_set_ne false (fun e=>hji e.symm)] at hl'
       exact hl'
      refine hold (List.mem_append.2 (.inr ?_)) (fun d hd e=>?_)
      ·rw [dM]
       exact ⟨j,oj,hj,hd',hF',by rw [Nat.zero_add]; exact hl2⟩
      ·subst e
       exact hji (rD hnd hj hol hd' hd)
  ·
   have hit':i - l.length < tl.length:=by simp only [List.length_append] at hin; omega
   have hcv:=covered hcl hio hdeps (by have:=hcov (i - l.length) hit'; rwa [show l.length + (i - l.length) = i by omega] at this)
   have hoi:tl[i - l.length]? = some o:=by rwa [List.getElem?_append_right (by omega)] at hio
   rcases hInv with ⟨hno,hR⟩ | ⟨k,sk,hk,hyes,hno,hT,hR⟩
   ·have ei:i = l.length:=by
     rcases Nat.lt_or_ge l.length i with h | h
     ·have:=hcv l.length h; rw [hno _ (Nat.le_refl _)] at this; simp at this
     ·omega
    have hR0:=hS0 (fun j hj=>hcv j (by omega)) hR
    rw [show i - l.length = 0 by omega] at hoi
    have h0:0 < tl.length:=by omega
    have hdr:tl.drop 0 = o :: tl.drop (0 + 1):=by
     rw [List.drop_eq_getElem_cons h0]
     congr 1
     rw [List.getElem?_eq_getElem h0] at hoi
     simpa using hoi
    have hT:qH P E n (l ++ tl).toArray (tl.drop 0) ⟨(s.slots.filter fun p=>!(jq l).contains p.1) ++ bz (fun _=>true) 0 l Fs,s.own⟩ s2:=by rw [List.drop_zero]; exact htl
    rw [hdr] at hT
    obtain ⟨s1,hs1,hr1⟩:=hT
    refine hs1 a w hR0 K Q (fun a' w' hR'=>hK a' w' (.inr ⟨0,s1,h0,fun j hj=>?_,fun j hj=>?_,hr1,hR'⟩))
    ·by_cases e:j = i
     ·subst e; exact hseti
     ·exact hset j (hcv j (by omega))
    ·rw [getD_set_ne false (by omega)]; exact hno j (by omega)
   ·have ei:i = l.length + (k + 1):=by
     rcases Nat.lt_or_ge (l.length + (k + 1)) i with h | h
     ·have:=hcv _ h; rw [hno _ (by omega)] at this; simp at this
     ·rcases Nat.lt_or_ge i (l.length + (k + 1)) with h' | h'
      ·have:=hyes i (by omega); rw [hil] at this; simp at this
      ·omega
    rw [show i - l.length = k + 1 by omega] at hoi
    have hdr:tl.drop (k + 1) = o :: tl.drop (k + 1 + 1):=by
     have hlt2:k + 1 < tl.length:=by omega
     rw [List.drop_eq_getElem_cons hlt2]
     congr 1
     rw [List.getElem?_eq_getElem hlt2] at hoi
     simpa using hoi
    rw [hdr] at hT
    obtain ⟨s1,hs1,hr1⟩:=hT
    refine hs1 a w hR K Q (fun a' w' hR'=>hK a' w' (.inr ⟨k + 1,s1,by omega,fun j hj=>?_,fun j hj=>?_,hr1,hR'⟩))
    ·by_cases e:j = i
     ·subst e; exact hseti
     ·exact hset j (hyes j (by omega))
    ·rw [getD_set_ne false (by omega)]; exact hno j (by omega)
 ·
  intro listed a w hsz hall hInv
  rcases hInv with ⟨hno,hR⟩ | ⟨k,sk,hk,hyes,hno,hT,hR⟩
  ·have e:tl = []:=by
    cases htl':tl with
    | nil=>rfl
    | cons o0 r=>
     have:=hall l.length (by rw [htl']; simp)
     rw [hno _ (Nat.le_refl _)] at this; simp at this
   subst e
   have hR0:=hS0 (fun j hj=>hall j (by simpa using hj)) hR
   have e2:_ = s2:=htl
   rw [e2] at hR0
   exact h a w (hs ▸ hR0.keep ks kos)
  ·have e:k + 1 = tl.length:=by
    rcases Nat.lt_or_ge (k + 1) tl.length with h' | h'
    ·have:=hall (l.length + (k + 1)) (by simp only [List.length_append]; omega)
     rw [hno _ (by omega)] at this; simp at this
    ·omega
   rw [e,List.drop_length] at hT
   have e2:sk = s2:=hT
   subst e2
   exact h a w (hs ▸ hR.keep ks kos)
 ·intro i p hi hl
  exfalso
  simp only [Array.getD_eq_getD_getElem?,Array.getElem?_replicate] at hl
  split at hl <;> simp at hl
 ·simp only [Array.getD_eq_getD_getElem?,Array.getElem?_replicate]
  split <;> simp
 ·obtain ⟨h1,h2,h,ρ,hw,hsl⟩:=hr.drawn
  refine ⟨h1,h2,h,ρ,hw,fun k x hx=>hsl k x ?_⟩
  simp only [stE] at hx
  rcases List.mem_append.1 hx with hx | hx
  ·exact (List.mem_filter.1 hx).1
  ·rw [dM] at hx
   obtain ⟨j,o,hj,_,_,hl⟩:=hx
   simp only [Nat.zero_add,Array.getD_eq_getD_getElem?,Array.getElem?_replicate] at hl
   split at hl <;> simp at hl
theorem ab.yx {rid:Nat} {ops:List Oper} (hm:P.follows .mixedOrders = true) (l tl:List Oper) (hops:l ++ tl = ops) (Fs:List SV) (ks kos:List Nat) (hok:okX l tl n.n = true) (hst:pb P E n ops.toArray s l Fs 0 l Fs)
  (htl:qH P E n ops.toArray tl ⟨(s.slots.filter fun p=>!(jq l).contains p.1) ++ bz (fun _=>true) 0 l Fs,s.own⟩ s2) (hs:s2.keep ks kos = s') (h:Fin E n .normal s' Q):ab P E n (.region rid ops.toArray true) s Q:=ab.ofA hm (r8.X l tl hops Fs ks kos hok hst htl hs h)
theorem ab.fy {rid:Nat} {ops:List Oper} (hm:P.follows .mixedOrders = true) (m:Nat) (Fs:List SV) (ks kos:List Nat) (hok:okX (ops.take m) (ops.drop m) n.n = true) (hst:pb P E n ops.toArray s (ops.take m) Fs 0 (ops.take m) Fs)
  (htl:qH P E n ops.toArray (ops.drop m) ⟨(s.slots.filter fun p=>!(jq (ops.take m)).contains p.1) ++ bz (fun _=>true) 0 (ops.take m) Fs,s.own⟩ s2) (hs:s2.keep ks kos = s') (h:Fin E n .normal s' Q):ab P E n (.region rid ops.toArray true) s Q :=
 ab.yx hm _ _ (List.take_append_drop m ops) Fs ks kos hok hst htl hs h
theorem ab.eX {rid:Nat} {ops:List Oper} {y:Code} (hm:P.follows .mixedOrders = true) (m:Nat) (Fs:List SV) (ks kos:List Nat) (hok:okX (ops.take m) (ops.drop m) n.n = true) (hst:pb P E n ops.toArray s (ops.take m) Fs 0 (ops.take m) Fs)
  (htl:qH P E n ops.toArray (ops.drop m) ⟨(s.slots.filter fun p=>!(jq (ops.take m)).contains p.1) ++ bz (fun _=>true) 0 (ops.take m) Fs,s.own⟩ s2) (hs:s2.keep ks kos = s') (h:ab P E n y s' Q):ab P E n (.region rid ops.toArray true) s (Exit.then (y.wp P Q) Q) :=
 ab.fy hm m Fs ks kos hok hst htl hs (Fin.then h)
end
end Go.Sk
namespace Go.Sk
set_option linter.unusedSimpArgs false
set_option linter.unusedVariables false
open Go Go.BigFrame Go.RowKit
section
variable {P:Program} {TB:b5} {E:Env TB} {n:Sh} {s s' s0 s2:St} {dst:Option Nat} {t ty yt:TypeId} {pos:String} {after:Array Edge} {g:Option (Nat × Bool)} {x y c:Operand} {ops:Array Oper} {o:Oper}
theorem dJ.dc (i k size:Nat) (T:TypeId) (hi:s.get i = some (.b (.one .nil))) (hz:0 < size) (hfx:n.fix.contains k = false) (h:dJ P E n ops o ⟨(i,.b (.row k)) :: del i (bT k s.slots),ins k (.row T size []) s.own⟩ s2) (hnu:dx k s.own = true:=by rfl):dJ P E n ops o s s2 :=
 fun a w hr=>h a w (hr.dc hi hz hfx hnu)
theorem dJ.bg (k:Nat) {size:Nat} {T:TypeId} {es:List (List CP)} (hk:lk s.own k = some (.row T size es)) (h:dJ P E n ops o ⟨iO k (.sl size es) s.slots,jf k (.sl size es) (del k s.own)⟩ s2):dJ P E n ops o s s2:=fun a w hr=>h a w (hr.bg hk)
theorem dJ.uF (k:Nat) {T:TypeId} {ps:List CP} (hk:lk s.own k = some (.box T ps)) (h:dJ P E n ops o ⟨s.slots,ins k (.aW T (ps.map .one)) s.own⟩ s2):dJ P E n ops o s s2:=fun a w hr=>h a w (hr.uF k hk)
theorem dJ.jG (kos:List Nat) {s1:St} (h:dJ P E n ops o s s1) (e:(⟨s1.slots,pz kos s1.own⟩:St) = s2):dJ P E n ops o s s2:=fun a w hr K Q hk=>h a w hr K Q fun a' w' hr'=>hk a' w' (by
 rw [← e]
 obtain ⟨hd,hn,h,ρ,hw,hs⟩:=hr'
 exact ⟨hd,hn,h,ρ,hw.sub fun _ hp=>kR hp,hs⟩)
theorem R.toF {a:Act} {w:World} (hr:R E n s a w) (k:Nat) {T:TypeId} {size:Nat} {es:List (List CP)} (hk:lk s.own k = some (.row T size es)):R E n ⟨s.slots,ins k (.jI T size es) s.own⟩ a w:=by
 obtain ⟨hd,hn,h,ρ,hw,hs⟩:=hr
 exact ⟨hd,hn,h,ρ,hw.uG hk (hw.owned k _ (bn hk)).1,hs⟩
theorem R.unF {a:Act} {w:World} (hr:R E n s a w) (k:Nat) {T:TypeId} {size:Nat} {es:List (List CP)} (hk:lk s.own k = some (.jI T size es)):R E n ⟨s.slots,ins k (.row T size es) s.own⟩ a w:=by
 obtain ⟨hd,hn,h,ρ,hw,hs⟩:=hr
 exact ⟨hd,hn,h,ρ,hw.uG hk (hw.owned k _ (bn hk)).1,hs⟩
theorem af.toF {l:List Oper} {Q:dN} (k:Nat) {T:TypeId} {size:Nat} {es:List (List CP)} (hk:lk s.own k = some (.row T size es)) (h:af P E n ops l ⟨s.slots,ins k (.jI T size es) s.own⟩ Q):af P E n ops l s Q:=fun a w hr=>h a w (hr.toF k hk)
theorem af.unF {l:List Oper} {Q:dN} (k:Nat) {T:TypeId} {size:Nat} {es:List (List CP)} (hk:lk s.own k = some (.jI T size es)) (h:af P E n ops l ⟨s.slots,ins k (.row T size es) s.own⟩ Q):af P E n ops l s Q:=fun a w hr=>h a w (hr.unF k hk)
theorem ab.unF {cd:Code} {Q:dN} (k:Nat) {T:TypeId} {size:Nat} {es:List (List CP)} (hk:lk s.own k = some (.jI T size es)) (h:ab P E n cd ⟨s.slots,ins k (.row T size es) s.own⟩ Q):ab P E n cd s Q:=fun a w hr=>h a w (hr.unF k hk)
theorem ab.toF {cd:Code} {Q:dN} (k:Nat) {T:TypeId} {size:Nat} {es:List (List CP)} (hk:lk s.own k = some (.row T size es)) (h:ab P E n cd ⟨s.slots,ins k (.jI T size es) s.own⟩ Q):ab P E n cd s Q:=fun a w hr=>h a w (hr.toF k hk)
theorem Fin.toF {e:Exit} {Q:dN} (k:Nat) {T:TypeId} {size:Nat} {es:List (List CP)} (hk:lk s.own k = some (.row T size es)) (h:Fin E n e ⟨s.slots,ins k (.jI T size es) s.own⟩ Q):Fin E n e s Q:=fun a w hr=>h a w (hr.toF k hk)
theorem Fin.unF {e:Exit} {Q:dN} (k:Nat) {T:TypeId} {size:Nat} {es:List (List CP)} (hk:lk s.own k = some (.jI T size es)) (h:Fin E n e ⟨s.slots,ins k (.row T size es) s.own⟩ Q):Fin E n e s Q:=fun a w hr=>h a w (hr.unF k hk)
theorem dJ.toF (k:Nat) {T:TypeId} {size:Nat} {es:List (List CP)} (hk:lk s.own k = some (.row T size es)) (h:dJ P E n ops o ⟨s.slots,ins k (.jI T size es) s.own⟩ s2):dJ P E n ops o s s2:=fun a w hr=>h a w (hr.toF k hk)
theorem dJ.unF (k:Nat) {T:TypeId} {size:Nat} {es:List (List CP)} (hk:lk s.own k = some (.jI T size es)) (h:dJ P E n ops o ⟨s.slots,ins k (.row T size es) s.own⟩ s2):dJ P E n ops o s s2:=fun a w hr=>h a w (hr.unF k hk)
end
theorem ug {r:BV → Value → Prop} {a:BV} {vals:List Value} (h:bl r [a] vals):∃ v,vals = [v] ∧ r a v:=by
 cases h with
 | cons h1 h2=>cases h2; exact ⟨_,rfl,h1⟩
section
variable {P:Program} {TB:b5} {E:Env TB} {n:Sh} {s:St} {dst:Option Nat} {t ty yt:TypeId} {pos:String} {after:Array Edge} {g:Option (Nat × Bool)} {x y c:Operand}
theorem sl_part {h:PH} {size:Nat} {es fs:List (List CP)} {a:Option Addr} {b o c lo len cap:Nat} (hz:0 < size) (hu:cQ size es) (hr:Reads h b o es.flatten) (hc:es.length ≤ c) (hm:c ≤ maxLen) (hfs:fs = (es.take (lo + len)).drop lo) (hl:lo + len ≤ es.length) (hcap:cap = c - lo) (ha:a = if c = lo then some ⟨b,o,none⟩ else some ⟨b,o + lo * size,none⟩) :
  (CP.sl size fs).rel h (.slice a len cap):=by
 have hfl:fs.length = len:=by rw [hfs]; simp; omega
 have huf:cQ size fs:=fun ps hp=>hu ps (by rw [hfs] at hp; exact List.mem_of_mem_take (List.mem_of_mem_drop hp))
 refine ⟨huf,hz,?_⟩
 subst ha hcap
 by_cases e:c = lo
 ·rw [if_pos e]
  have h0:len = 0:=by omega
  have hn:fs = []:=List.eq_nil_of_length_eq_zero (by omega)
  exact .inr (.inl ⟨b,o,c - lo,by rw [hfl],by omega,by omega,fun j q hq=>by rw [hn] at hq; simp at hq⟩)
 ·rw [if_neg e]
  refine .inr (.inl ⟨b,o + lo * size,c - lo,by rw [hfl],by omega,by omega,?_⟩)
  have:fs.flatten = (es.flatten.drop (lo * size)).take (len * size):=by
   rw [hfs,nj (fun ps hp=>hu ps (List.mem_of_mem_take hp)),kH hu,List.drop_take]
   congr 1
   rw [Nat.add_mul]; omega
  rw [this]
  intro j q hq
  rw [List.getElem?_take] at hq
  split at hq
  ·exact hr.drop (lo * size) j q hq
  ·simp at hq
theorem uq {α:Type} {xs z:List α} {enc:α → List CP} {size bytes:Nat} {e:TypeId} {zs:List CP} {yo:Operand} {kk:IntKind} {i:Int} (ht:jJ P t e size bytes zs) (h:sv xs i = some z) (hx:s.ev x = some (.b (.one (.sl size (xs.map enc))))) (hy:s.ev yo = some (.b (.one (.int kk i)))) :
  bD P E n ⟨dst,.slice t x (some yo) none none,ty,pos,after,g⟩ s (s.put n dst (.b (.one (.sl size (z.map enc))))) :=
 bD.val (o:=⟨dst,.slice t x (some yo) none none,ty,pos,after,g⟩) fun ac w hh ρ hw hs=>by
  obtain ⟨h0,h1,rfl⟩:=drop_ok h
  obtain ⟨hu,hz,hv⟩:=(ba hs hx:(CP.sl size (xs.map enc)).rel hh _)
  obtain ⟨inf,zz,hi,hsz,_⟩:=ht.info
  have hel:P.elem t = e:=by simp [Program.elem,ht.und]
  have hund:P.underlying t = some (.slice (P.elem t)):=by rw [hel]; exact ht.und
  rcases hv with ⟨hv,he⟩ | ⟨b,o,c,hv,h3,h4,h5⟩ | ⟨ad,hv,he⟩
  ·have hxs:xs = []:=by simpa using he
   subst hxs
   have hi0:i = 0:=by simp at h1; omega
   subst hi0
   have hb:=run_slice_l (P:=P) (w:=w) (t:=t) (a:=none) (len:=0) (cap:=0) hund kk 0 (by decide) (by decide)
   refine ⟨sliced none (Int.toNat 0) 0 0 size,?_,?_⟩
   ·simp only [execOp,hv,Option.map_some,Option.map_none,(eV hs hy).1]
    rw [Sem.run_bind,run_sliceAt_slice w t _ _ _ _ hund,hb,run_sizeOf (i:=inf) (by rw [hel]; exact hi),hsz]
    rfl
   ·exact ⟨fun ps hps=>by simp at hps,hz,.inl ⟨by simp [sliced],by simp⟩⟩
  ·have hlen:(xs.map enc).length = xs.length:=by simp
   have hb:=run_slice_l (P:=P) (w:=w) (t:=t) (a:=some ⟨b,o,none⟩) (len:=(xs.map enc).length) (cap:=c) hund kk i h0 (by rw [hlen]; exact h1)
   refine ⟨sliced (some ⟨b,o,none⟩) i.toNat (xs.map enc).length c size,?_,?_⟩
   ·simp only [execOp,hv,Option.map_some,Option.map_none,(eV hs hy).1]
    rw [Sem.run_bind,run_sliceAt_slice w t _ _ _ _ hund,hb,run_sizeOf (i:=inf) (by rw [hel]; exact hi),hsz]
    rfl
   ·unfold sliced
    refine sl_part (lo:=i.toNat) hz hu h5 h3 h4 ?_ (by rw [hlen]; omega) rfl (by split <;> simp [kj])
    have:i.toNat + ((xs.map enc).length - i.toNat) = (xs.map enc).length:=by rw [hlen]; omega
    rw [this,List.take_length,List.map_drop]
  ·have hxs:xs = []:=by simpa using he
   subst hxs
   have hi0:i = 0:=by simp at h1; omega
   subst hi0
   have hb:=run_slice_l (P:=P) (w:=w) (t:=t) (a:=some ad) (len:=0) (cap:=0) hund kk 0 (by decide) (by decide)
   refine ⟨sliced (some ad) (Int.toNat 0) 0 0 size,?_,?_⟩
   ·simp only [execOp,hv,Option.map_some,Option.map_none,(eV hs hy).1]
    rw [Sem.run_bind,run_sliceAt_slice w t _ _ _ _ hund,hb,run_sizeOf (i:=inf) (by rw [hel]; exact hi),hsz]
    rfl
   ·exact ⟨fun ps hps=>by simp at hps,hz,.inr (.inr ⟨ad,by simp [sliced],by simp⟩)⟩
end
end Go.Sk
namespace Go.Sk
set_option linter.unusedSimpArgs false
set_option linter.unusedVariables false
open Go Go.ChangeShapes Go.WideShapes Go.ChangeAt Go.RowKit
theorem gy.nil {h:PH} {w:World}:gy [] h w:=fun g cs hm=>by cases hm
theorem gy.cons {P:Program} {TB:b5} {W:World} {name:String} {k:IntKind} {zs:List Int} {g:Nat} (hg:P.globalNamed name = some g) (h:Lib.TabIs P W name k zs) (h0:0 < zs.length) (r:gy TB (Go.Sk.full W) W):gy ((g,zs.map fun z=>Value.int k z) :: TB) (Go.Sk.full W) W:=fun g' cs hm=>by
 rcases List.mem_cons.1 hm with e | hm
 ·obtain ⟨rfl,rfl⟩:=Prod.mk.inj e
  unfold Lib.TabIs World.var? at h
  rw [hg] at h
  simp only [Option.bind_some] at h
  split at h
  ·next cs T fz hh=>
   have:=Option.some.inj h
   subst this
   refine ⟨by simpa using h0,fun o v hv=>?_,T,fz,hh⟩
   show look W g' o = some v
   refine jA ?_ (by
    have hm:=List.mem_of_getElem? hv
    obtain ⟨z,_,rfl⟩:=List.mem_map.1 hm
    rfl)
   simp only [World.cell?,hh]
   simpa using hv
  ·simp at h
 ·exact r g' cs hm
end Go.Sk
namespace Go.Sk
open Go Go.Proofs
section
variable {P:Program} {TB:b5} {E:Env TB} {n:Sh} {ops:Array Oper} {l:List Oper} {s:St} {Q:dN} {c:Code}
def St.only (s' s:St):St:=s.keep (s'.slots.map (·.1)) (s'.own.map (·.1))
theorem af.ak {y:Code} (s':St) (hs:s'.only s = s') (h:ab P E n y s' Q):af P E n ops [] s (Exit.then (y.wp P Q) Q):=af.nilK _ _ hs h
theorem af.ai (s':St) (hs:s'.only s = s') (h:af P E n ops l s' Q):af P E n ops l s Q:=af.keep _ _ hs h
theorem ab.ai (s':St) (hs:s'.only s = s') (h:ab P E n c s' Q):ab P E n c s Q:=ab.keep _ _ hs h
theorem Fin.ai {e:Exit} (s':St) (hs:s'.only s = s') (h:Fin E n e s' Q):Fin E n e s Q:=Fin.keep _ _ hs h
end
section
variable {P:Program} {TB:b5} {E:Env TB} {n:Sh} {ops:Array Oper} {l:List Oper} {s s':St} {Q:dN} {o:Oper} {dst:Option Nat} {t ty:TypeId} {pos:String} {after:Array Edge} {g:Option (Nat × Bool)} {x:Operand}
theorem Oc (h1:bD P E n o s s') (h2:af P E n ops l s' Q) (hg:o.guard = none:=by rfl):af P E n ops (o :: l) s Q:=af.cons hg h1 h2
theorem dJ.p (h:bD P E n o s s') (hg:o.guard = none:=by rfl):dJ P E n ops o s s':=.plain hg h
theorem om {z:SV} (hx:s.ev x = some z:=by rfl):bD P E n ⟨dst,.move x,ty,pos,after,g⟩ s (s.put n dst z):=ax hx
theorem oa {z:SV} (hx:s.ev x = some z:=by rfl):bD P E n ⟨dst,.assign x,ty,pos,after,g⟩ s (s.put n dst z):=dH hx
theorem lp {k off:Nat} {T:TypeId} {ps qs:List CP} {m:Nat} (ht:j9 P t m) (hx:s.ev x = some (.b (.ptr k off)):=by rfl) (hk:lk s.own k = some (.box T ps):=by rfl) (hp:(ps.drop off).take m = qs:=by rfl) (hq:qs.length = m:=by rfl) :
  bD P E n ⟨dst,.load t x,ty,pos,after,g⟩ s (s.put n dst (.b (.agg qs))):=ji ht hx hk hp hq
theorem dt {j t:Nat} {b:Bool} {z:BV} (gd':Bool) (ks:List Nat) (hc:gd' = true → eE 99 ks s.slots) (h1:gd' = true → bD P E n o (s.kz 99 ks) ((s.kz 99 ks).put n o.dst (.b z))) (h2:af P E n ops l (s.put n o.dst (.opt gd' z)) Q)
  (hg:o.guard = some (j,true):=by rfl) (hj:(ops[j]?).bind (·.dst) = some t:=by rfl) (hb:s.get t = some (.b (.one (.bool b))):=by rfl) (hgd:b = gd':=by rfl):af P E n ops (o :: l) s Q :=
 af.consG gd' 99 ks (.plain hb) ((dq _).trans hgd) hg hj hc h1 h2
theorem bF {j t:Nat} {b:Bool} {z:BV} (gd':Bool) (ks:List Nat) (hc:gd' = true → eE 99 ks s.slots) (h1:gd' = true → bD P E n o (s.kz 99 ks) ((s.kz 99 ks).put n o.dst (.b z))) (h2:af P E n ops l (s.put n o.dst (.opt gd' z)) Q)
  (hg:o.guard = some (j,false):=by rfl) (hj:(ops[j]?).bind (·.dst) = some t:=by rfl) (hb:s.get t = some (.b (.one (.bool b))):=by rfl) (hgd:(!b) = gd':=by rfl):af P E n ops (o :: l) s Q :=
 af.consG gd' 99 ks (.plain hb) ((dQ _).trans hgd) hg hj hc h1 h2
end
abbrev Pt (k:Nat) (o:Nat):SV:=.b (.ptr k o)
end Go.Sk
namespace Go.Sk
set_option linter.unusedSimpArgs false
set_option linter.unusedVariables false
open Go Go.BigFrame
section
variable {P:Program} {TB:b5} {E:Env TB} {n:Sh} {s:St} {dst:Option Nat} {t ty yt:TypeId} {pos:String} {after:Array Edge} {g:Option (Nat × Bool)} {x y c:Operand}
theorem CV.bvL {h:PH} {ρ:RM}:∀ {l:List CV} {vs:List Value},bl (fun (x:CV) v=>x.rel h ρ v) l vs → bl (fun (x:BV) v=>x.rel h ρ v) (l.map CV.bv) vs
 | _,_,.nil=>.nil
 | _,_,.cons h1 t=>.cons (CV.yi h1) (CV.bvL t)
def evCV (s:St) (x:Operand):Option CV:=(evB s x).bind BV.cv
def su (s:St):List Operand → Option (List CV)
 | []=>some []
 | x :: l=>(evCV s x).bind fun z=>(su s l).map fun r=>z :: r
theorem evB_rel {h:PH} {ρ:RM} {a:Act} (hs:bM h ρ s.slots a.tmps) {x:Operand} {z:BV} (hz:evB s x = some z):z.rel h ρ (a.eval x):=by
 unfold evB at hz
 split at hz
 ·rename_i z' hz'
  simp at hz; subst hz
  exact ba hs hz'
 ·simp at hz
theorem qw {h:PH} {ρ:RM} {a:Act} (hs:bM h ρ s.slots a.tmps):∀ {l:List Operand} {zs:List CV},su s l = some zs → bl (fun (x:CV) v=>x.rel h ρ v) zs (l.map a.eval)
 | [],zs,e=>by simp [su] at e; subst e; exact .nil
 | x :: l,zs,e=>by
  unfold su at e
  simp only [Option.bind_eq_some_iff,Option.map_eq_some_iff] at e
  obtain ⟨z,hz,r,hr,rfl⟩:=e
  unfold evCV at hz
  simp only [Option.bind_eq_some_iff] at hz
  obtain ⟨q,hq,hz⟩:=hz
  exact .cons (BV.yh hz (evB_rel hs hq)) (qw hs hr)
theorem hZ {f:FuncId} {xs ys:Array Operand} {fs cs:List CV} (hf:su s xs.toList = some fs) (hc:su s ys.toList = some cs) :
  bD P E n ⟨dst,.makeFunc (.func f) xs ys,ty,pos,after,g⟩ s (s.put n dst (.b (.iK f fs cs))) :=
 bD.val (o:=⟨dst,.makeFunc (.func f) xs ys,ty,pos,after,g⟩) fun ac w h ρ hw hs=>by
  refine ⟨.func (.func f) (xs.map ac.eval) (ys.map ac.eval),by simp [execOp,Instr.makeFunc],_,_,rfl,?_,?_⟩
  ·simpa using qw hs hf
  ·simpa using qw hs hc
theorem vM {o:Oper} {f:FuncId} {own_a:List (Nat × OC)} {args:List BV} {post:ka} (hspec:aA P TB f own_a args post)
  (hrun:∀ (a:Act) (w:World) (h:PH) (ρ:RM),WR E n s.own h ρ w → bM h ρ s.slots a.tmps → ∃ vals:List Value,(execOp a.eval o).run P w = .ok (.enter f vals.toArray) w ∧ bl (fun (x:BV) v=>x.rel h ρ v) args vals)
  (hl:nF s.own own_a) {a:Act} {w:World} (hr:R E n s a w) {next:Act → World → Prop} {Q:dN}
  (hnext:∀ own' res,post own' res → px n own_a own' = true ∧ pv s.own own_a own' = true ∧ res.ed own' = true ∧ ∀ a' w',R E n (s.aft n own_a own' o.dst res) a' w' → next a' w'):o.wp P a w next Q:=by
 obtain ⟨hdf,hn,h,ρ,hw,hs⟩:=hr
 obtain ⟨vals,hr0,hra⟩:=hrun a w h ρ hw hs
 unfold Oper.wp
 rw [hr0]
 show Calls P f _ w _
 have hla:=nS hl
 refine (hspec w h ρ _ hw.tG hw.agree (tr hw hla (nh hl)) hra).mono ?_
 rintro e w' ⟨v,own',res,h',ρ',rfl,hp,hc,hres⟩
 obtain ⟨hok,hcl,hki,hnx⟩:=hnext own' res hp
 have hwc:=hw.call hla hc hok hcl
 refine hnx _ _ (R.put (s:=⟨pE own_a own' s.slots,qc own' (l6 own_a s.own)⟩) hdf hn hwc ?_ ?_)
 ·intro k x hx
  obtain ⟨h1,h2⟩:=nQ hx
  obtain ⟨u,hu,hrel⟩:=hs k x h1
  refine ⟨u,hu,SV.mono hc.le (fun j hj=>?_) hrel⟩
  by_cases hin:j ∈ aH own'
  ·rw [j6 hin]
   by_cases hia:j ∈ bj own_a
   ·exact hc.fixed j hia
   ·have:=h2 j hin hia; simp [this] at hj
  ·exact k9 hin
 ·exact SV.mono (PH.le_refl _) (fun j hj=>j6 (SV.dz hki hj)) hres
theorem qU {α β:Type} {r:α → β → Prop} {a:List α} {b:List β} {c:List α} {d:List β} (h:bl r a b) (h':bl r c d):bl r (a ++ c) (b ++ d):=h.append h'
theorem kg {f:FuncId} {fs cs:List CV} {own_a own':List (Nat × OC)} {args zs:List BV} {xs:Array Operand} {ats:Array TypeId} {res:SV} (hspec:aA P TB f own_a args (Is own' res)) (hf:cK P f) (hx:s.ev x = some (.b (.iK f fs cs))) (ha:m5 s xs.toList = some zs)
  (hz:fs.map CV.bv ++ zs ++ cs.map CV.bv = args) (hl:nF s.own own_a)
  (hok:px n own_a own' = true) (hki:res.ed own' = true) (hcl:pv s.own own_a own' = true:=by rfl):bD P E n ⟨dst,.call ⟨.value x,xs,ats⟩,ty,pos,after,g⟩ s (s.aft n own_a own' dst res) :=
 fun _ _ hr _ _ hnext=>vM hspec (fun a w h ρ hw hs=>by
  obtain ⟨va,vb,hv,h1,h2⟩:=(ba hs hx:BV.rel h ρ (.iK f fs cs) _)
  refine ⟨va.toList ++ xs.toList.map a.eval ++ vb.toList,?_,?_⟩
  ·have e1:execOp a.eval ⟨dst,.call ⟨.value x,xs,ats⟩,ty,pos,after,g⟩ = (do let d ← Deferred.ofValue (a.eval x) (xs.map a.eval); invoke d.target d.args):=rfl
   rw [e1,hv]
   have e2:(do let d ← Deferred.ofValue (.func (.func f) va vb) (xs.map a.eval); invoke d.target d.args:Sem Next) = callFunc f (va ++ xs.map a.eval ++ vb):=rfl
   rw [e2,hf.run]
   congr 2
   apply Array.ext'
   simp
  ·rw [← hz]
   exact qU (qU (CV.bvL h1) (pn hs ha)) (CV.bvL h2)) hl hr fun _ _ hp=>by
  obtain ⟨rfl,rfl⟩:=hp
  exact ⟨hok,hcl,hki,hnext⟩
end
end Go.Sk
namespace Go.Sk
set_option linter.unusedSimpArgs false
set_option linter.unusedVariables false
open Go Go.BigFrame
def gS {α:Type}:List (Int × α) → Int → Option α
 | [],_=>none
 | (a,b) :: r,k=>if k = a then some b else gS r k
def gi {α:Type}:List (Int × α) → Int → α → List (Int × α)
 | [],k,v=>[(k,v)]
 | (a,b) :: r,k,v=>if k = a then (a,v) :: r else (a,b) :: gi r k v
theorem qq {α:Type} (k j:Int) (v:α):∀ l:List (Int × α),gS (gi l k v) j = if j = k then some v else gS l j
 | []=>by unfold gi gS; rfl
 | (a,b) :: r=>by
  unfold gi
  by_cases h:k = a
  ·rw [if_pos h]
   subst h
   unfold gS
   split <;> rfl
  ·rw [if_neg h]
   unfold gS
   rw [qq k j v r]
   by_cases h2:j = a
   ·rw [if_pos h2,if_pos h2,if_neg (fun e=>h (by rw [← e,h2]))]
   ·rw [if_neg h2,if_neg h2]
def eM (kd:IntKind) (l:List (Int × BV)):List (CP × BV):=l.map fun p=>(.int kd p.1,p.2)
theorem nV {h:PH} {ρ:RM} {kd:IntKind} (k:Int):∀ {l:List (Int × BV)} {ms:List MapEntry},iw h ρ (eM kd l) ms → ∀ i:Nat,
  (gS l k = none ∧ Instr.findNow (.int kd) (.int kd k) ms i = some none) ∨ ∃ j e v,ms[j]? = some e ∧ e.key = .int kd k ∧ gS l k = some v ∧ v.rel h ρ e.val ∧ Instr.findNow (.int kd) (.int kd k) ms i = some (some (i + j,e.val)) ∧
   ∀ v',gi l k v' = l.set j (k,v')
 | [],_,.nil,i=>.inl ⟨rfl,rfl⟩
 | (a,b) :: r,e :: es,.cons h1 h2,i=>by
  have hk:e.key = .int kd a ∧ si kd a:=h1.1
  unfold gS Instr.findNow
  rw [hk.1]
  by_cases hka:k = a
  ·subst hka
   refine .inr ⟨0,e,b,rfl,hk.1,if_pos rfl,h1.2,by simp [Instr.sameNow],fun v'=>by simp [gi]⟩
  ·have hne:Instr.sameNow (.int kd) (.int kd k) (.int kd a) = some false:=by simp [Instr.sameNow,hka]
   simp only [hne,if_neg hka]
   rcases nV k h2 (i + 1) with ⟨g1,g2⟩ | ⟨j,e',v,g1,g2,g3,g4,g5,g6⟩
   ·exact .inl ⟨g1,g2⟩
   ·refine .inr ⟨j + 1,e',v,by simpa using g1,g2,g3,g4,by rw [g5]; congr 3; omega,fun v'=>?_⟩
    unfold gi
    rw [if_neg hka,g6]; rfl
structure oO (P:Program) (t kt et:TypeId) (kd:IntKind) (z:CP):Prop where
 und:P.underlying t = some (.map kt et)
 key:P.underlying kt = some (.int kd)
 zero:∃ i v,P.info? et = some i ∧ i.zero = some v ∧ ∀ h,z.rel h v
theorem rL {α:Type} {l:List α} {j:Nat} {e:α} (h:l[j]? = some e) (f:α → α):l.modify j f = l.set j (f e):=by
 refine List.ext_getElem? fun i=>?_
 rw [List.getElem?_modify,List.getElem?_set]
 by_cases hij:j = i
 ·subst hij
  have hj:j < l.length:=by
   rcases Nat.lt_or_ge j l.length with g | g
   ·exact g
   ·rw [List.getElem?_eq_none g] at h; cases h
  rw [h,if_pos rfl,if_pos hj]
  show some (if j = j then f e else e) = _
  rw [if_pos rfl]
 ·rw [if_neg hij]
  cases l[i]? with
  | none=>rfl
  | some a=>show some (if j = i then f a else a) = _; rw [if_neg hij]
section
variable {P:Program} {TB:b5} {E:Env TB} {n:Sh} {s:St} {dst:Option Nat} {t ty yt:TypeId} {pos:String} {after:Array Edge} {g:Option (Nat × Bool)} {x y c:Operand}
theorem tV {h:PH} {ρ:RM} {own:List (Nat × OC)} {w:World} (hw:WR E n own h ρ w) {k:Nat} {es:List (CP × BV)} (hk:lk own k = some (.mp es)) :
  ∃ b ms clk,ρ k = .map (some b) ∧ w.heap[b]? = some (.map ms clk) ∧ iw h ρ es ms.toList ∧ l7 clk ms.toList:=(hw.owned k _ (bn hk)).1
theorem iY {w:World} {kt:TypeId} {d:TypeDesc} (hd:P.underlying kt = some d) {k:Value} {es:List MapEntry} {r:Option (Nat × Value)} (hf:Instr.findNow d k es 0 = some r):(Instr.findKey kt k es).run P w = .ok r w:=by
 unfold Instr.findKey
 simp [Sem.run_bind,run_underlying hd,Result.andThen,hf]
theorem mL {w:World} {kt:TypeId} {kd:IntKind} (hd:P.underlying kt = some (.int kd)) (k:Int) (e:Bool) (m:Nat):(Instr.checkKey e (m + 1) kt (.int kd k)).run P w = .ok () w:=by
 unfold Instr.checkKey
 simp [Sem.run_bind,run_underlying hd,Result.andThen]
theorem yu {w:World} {et:TypeId} {i:TypeInfo} {v:Value} (hi:P.info? et = some i) (hz:i.zero = some v):(zeroValue et).run P w = .ok v w:=by
 simp [zeroValue,typeInfo,hi,hz]
theorem nR {h:PH} {ρ:RM} {w:World} {kt et:TypeId} {kd:IntKind} {z:CP} (ht:oO P t kt et kd z) {l:List (Int × BV)} {b:Nat} {ms:Array MapEntry} {clk:Nat}
  (hb:w.heap[b]? = some (.map ms clk)) (he:iw h ρ (eM kd l) ms.toList) (k:Int) :
  ∃ v,((gS l k).getD (.one z)).rel h ρ v ∧ (Instr.lookup t (.map (some b)) (.int kd k) true).run P w = .ok (.tuple #[v,.bool (gS l k).isSome]) w ∧ (Instr.lookup t (.map (some b)) (.int kd k) false).run P w = .ok v w:=by
 obtain ⟨i,zz,hi,hzz,hzr⟩:=ht.zero
 have hck:=fun e=>mL (P:=P) (w:=w) ht.key k e 9999
 rcases nV k he 0 with ⟨g1,g2⟩ | ⟨j,e,v,g1,g2,g3,g4,g5,g6⟩
 ·have hf:=iY (P:=P) (w:=w) ht.key g2
  have hzv:=yu (P:=P) (w:=w) hi hzz
  refine ⟨zz,by rw [g1]; exact hzr h,?_,?_⟩
  ·simp [Instr.lookup,run_underlying ht.und,MapKept.run_getObj_map hb,hck,hf,hzv,Result.andThen,g1]
  ·simp [Instr.lookup,run_underlying ht.und,MapKept.run_getObj_map hb,hck,hf,hzv,Result.andThen]
 ·have hf:=iY (P:=P) (w:=w) ht.key g5
  refine ⟨e.val,by rw [g3]; exact g4,?_,?_⟩
  ·simp [Instr.lookup,run_underlying ht.und,MapKept.run_getObj_map hb,hck,hf,Result.andThen,g3]
  ·simp [Instr.lookup,run_underlying ht.und,MapKept.run_getObj_map hb,hck,hf,Result.andThen]
theorem pM {kt et:TypeId} {kd:IntKind} {z:CP} {l:List (Int × BV)} {j:Nat} {k:Int} {r:BV} (ht:oO P t kt et kd z) (hx:s.ev x = some (.b (.row j))) (hk:lk s.own j = some (.mp (eM kd l))) (hy:s.ev y = some (.b (.one (.int kd k)))) (hr:(gS l k).getD (.one z) = r) :
  bD P E n ⟨dst,.lookup t x y false,ty,pos,after,g⟩ s (s.put n dst (.b r)) :=
 bD.val (o:=⟨dst,.lookup t x y false,ty,pos,after,g⟩) fun ac w h ρ hw hs=>by
  have hv:ac.eval x = ρ j:=(ba hs hx:BV.rel h ρ (.row j) _)
  obtain ⟨b,ms,clk,h1,h2,h3,h4⟩:=tV hw hk
  obtain ⟨v,g1,_,g2⟩:=nR ht h2 h3 k
  refine ⟨_,?_,hr ▸ g1⟩
  simp only [execOp,hv,h1,(eV hs hy).1]
  simp [g2]
theorem vz {kt et:TypeId} {k:Nat} (hu:P.underlying t = some (.map kt et)) (hfx:n.fix.contains k = false) (hnu:dx k s.own = true:=by rfl) :
  bD P E n ⟨dst,.makeMap t none,ty,pos,after,g⟩ s ((⟨bT k s.slots,ins k (.mp []) s.own⟩:St).put n dst (.b (.row k))) :=
 bD.make (hfx:=hfx) (hnu:=hnu) (o:=⟨dst,.makeMap t none,ty,pos,after,g⟩) fun ac w h ρ hw hs=>by
  refine ⟨.map (some w.heap.size),.map (some w.heap.size),w.alloc (.map #[] 0),none,?_,fun b e=>by simp at e,by simp,rfl,rfl,fun b hb _=>heap_alloc_old w _ hb,⟨w.heap.size,#[],0,rfl,heap_alloc_new w _,.nil,fun e he=>by simp at he,by simp⟩,
   fun b e=>by simp [bf] at e; subst e; exact .inr (Nat.le_refl _),(bC _ _ _).symm⟩
  simp [execOp,Instr.makeMap,newObj,Sem.run,Result.andThen]
theorem WR.setMap {h:PH} {ρ:RM} {own:List (Nat × OC)} {w:World} (hw:WR E n own h ρ w) {k b:Nat} {es es':List (CP × BV)} {ms ms':Array MapEntry} {clk clk':Nat} (hk:lk own k = some (.mp es)) (hρ:ρ k = .map (some b))
  (hb:w.heap[b]? = some (.map ms clk)) (hr:iw h ρ es' ms'.toList) (ho:l7 clk' ms'.toList):WR E n (ins k (.mp es') own) h ρ { w with heap:=w.heap.setIfInBounds b (.map ms' clk') }:=by
 have hlt:b < w.heap.size:=by
  rcases Nat.lt_or_ge b w.heap.size with h | h
  ·exact h
  ·simp [Array.getElem?_eq_none h] at hb
 have hst:=hw.step (w':={ w with heap:=w.heap.setIfInBounds b (.map ms' clk') }) k (ρ k) (.mp es') (some b) (fun b' e=>by cases e; exact ⟨_,bn hk,by rw [hρ]; rfl⟩) (by simp) rfl rfl
  (fun b' _ hne=>by
   have:b ≠ b':=fun e=>hne (by rw [e])
   simp [Array.getElem?_setIfInBounds,this]) ⟨b,ms',clk',hρ,by simp [Array.getElem?_setIfInBounds,hlt],by rw [gE]; exact hr,ho⟩ (fun b' hb'=>by rw [hρ] at hb'; simp [bf] at hb'; exact .inl (by rw [hb'])) (.inl rfl) (.inl rfl)
 have:kM ρ k (ρ k) = ρ:=by funext j; simp only [kM]; split <;> simp_all
 rwa [this] at hst
theorem run_keyThatStays {w:World} {kd:IntKind} (k:Int):(Instr.keyThatStays (.int kd k) (.int kd k)).run P w = .ok (.int kd k) w:=by
 simp [Instr.keyThatStays,Instr.sameBits]
theorem qI {h:PH} {ρ:RM} {w:World} {kt et:TypeId} {kd:IntKind} {z:CP} (ht:oO P t kt et kd z) {l:List (Int × BV)} {b:Nat} {ms:Array MapEntry} {clk:Nat}
  (hb:w.heap[b]? = some (.map ms clk)) (he:iw h ρ (eM kd l) ms.toList) (ho:l7 clk ms.toList) (k:Int) (hk:si kd k) {v:BV} {u:Value} (hu:v.rel h ρ u) :
  ∃ ms' clk',(Instr.mapUpdate t (.map (some b)) (.int kd k) u).run P w = .ok () { w with heap:=w.heap.setIfInBounds b (.map ms' clk') } ∧ iw h ρ (eM kd (gi l k v)) ms'.toList ∧ l7 clk' ms'.toList:=by
 have hck:=mL (P:=P) (w:=w) ht.key k false 9999
 rcases nV k he 0 with ⟨g1,g2⟩ | ⟨j,e,v0,g1,g2,g3,g4,g5,g6⟩
 ·have hf:=iY (P:=P) (w:=w) ht.key g2
  refine ⟨ms.push { key:=.int kd k,val:=u,born:=clk },clk + 1,?_,?_,?_⟩
  ·simp [Instr.mapUpdate,run_underlying ht.und,MapKept.run_getObj_map hb,hck,hf,MapKept.run_setObj_map _ hb,Result.andThen]
  ·have e1:gi l k v = l ++ [(k,v)]:=by
    clear he hf g2
    induction l with
    | nil=>rfl
    | cons p r ih=>
     obtain ⟨a,c⟩:=p
     unfold gS at g1
     split at g1
     ·cases g1
     ·next hne=>unfold gi; rw [if_neg hne,ih g1]; rfl
   rw [e1]
   unfold eM
   rw [List.map_append,Array.toList_push]
   exact bl.append he (.cons ⟨⟨rfl,hk⟩,hu⟩ .nil)
  ·rw [Array.toList_push]
   refine ⟨fun e he'=>?_,?_⟩
   ·rcases List.mem_append.1 he' with h1 | h1
    ·have:=ho.1 e h1; omega
    ·rw [List.mem_singleton] at h1; subst h1; exact Nat.lt_succ_self _
   ·rw [List.map_append,List.nodup_append]
    refine ⟨ho.2,by simp,fun a ha b hb'=>?_⟩
    obtain ⟨e,he1,rfl⟩:=List.mem_map.1 ha
    have:=ho.1 e he1
    simp at hb'
    omega
 ·have hf:=iY (P:=P) (w:=w) ht.key g5
  have hj:j < ms.size:=by
   rcases Nat.lt_or_ge j ms.size with h | h
   ·exact h
   ·rw [List.getElem?_eq_none (by simpa using h)] at g1; cases g1
  have hje:ms[j]? = some e:=by simpa using g1
  have hks:=run_keyThatStays (P:=P) (w:=w) (kd:=kd) k
  refine ⟨ms.modify j fun e=>{ e with key:=.int kd k,val:=u },clk,?_,?_,?_⟩
  ·simp [Instr.mapUpdate,run_underlying ht.und,MapKept.run_getObj_map hb,hck,hf,hje,g2,hks,MapKept.run_setObj_map _ hb,Result.andThen]
  ·rw [g6]
   unfold eM
   rw [List.map_set,Array.toList_modify]
   have e1:ms.toList.modify j (fun e=>{ e with key:=.int kd k,val:=u }) = ms.toList.set j { e with key:=.int kd k,val:=u }:=by
    exact rL g1 _
   rw [e1]
   exact bl.set he j ⟨⟨rfl,hk⟩,hu⟩
  ·have e1:ms.toList.modify j (fun e=>{ e with key:=.int kd k,val:=u }) = ms.toList.set j { e with key:=.int kd k,val:=u }:=by
    exact rL g1 _
   have e2:(ms.toList.set j { e with key:=.int kd k,val:=u }).map (·.born) = ms.toList.map (·.born):=by
    rw [List.map_set]
    refine List.ext_getElem? fun i=>?_
    rw [List.getElem?_set]
    split
    ·next hij=>subst hij; rw [List.getElem?_map,g1]; simp [hj]
    ·rfl
   rw [Array.toList_modify,e1]
   refine ⟨fun e' he'=>?_,by rw [e2]; exact ho.2⟩
   have h1:e'.born ∈ ms.toList.map (·.born):=by rw [← e2]; exact List.mem_map_of_mem he'
   obtain ⟨e3,h2,h3⟩:=List.mem_map.1 h1
   rw [← h3]; exact ho.1 e3 h2
theorem op_mset {kt et:TypeId} {kd:IntKind} {z:CP} {l:List (Int × BV)} {j:Nat} {k:Int} {v:BV} (ht:oO P t kt et kd z) (hx:s.ev x = some (.b (.row j))) (hk:lk s.own j = some (.mp (eM kd l))) (hy:s.ev y = some (.b (.one (.int kd k)))) (hc:s.ev c = some (.b v)) :
  bD P E n ⟨none,.mapUpdate t x y c,ty,pos,after,g⟩ s ⟨s.slots,ins j (.mp (eM kd (gi l k v))) s.own⟩ :=
 bD.store (o:=⟨none,.mapUpdate t x y c,ty,pos,after,g⟩) rfl fun ac w h ρ hw hs=>by
  have hv:ac.eval x = ρ j:=(ba hs hx:BV.rel h ρ (.row j) _)
  obtain ⟨b,ms,clk,h1,h2,h3,h4⟩:=tV hw hk
  obtain ⟨hy1,hy2⟩:=eV hs hy
  have hcr:v.rel h ρ (ac.eval c):=ba hs hc
  obtain ⟨ms',clk',g1,g2,g3⟩:=qI ht h2 h3 h4 k hy2 hcr
  refine ⟨_,?_,hw.setMap hk h1 h2 g2 g3⟩
  simp only [execOp,hv,h1,hy1]
  simp [g1]
theorem tm {kt et:TypeId} {kd:IntKind} {z:CP} {l:List (Int × BV)} {j:Nat} {k:Int} {v:BV} (ht:oO P t kt et kd z) (hx:s.ev x = some (.b (.row j))) (hk:lk s.own j = some (.mp (eM kd l))) (hy:s.ev y = some (.b (.one (.int kd k)))) (hc:s.ev c = some (.b v)) :
  bD P E n ⟨none,.insert t x y c,ty,pos,after,g⟩ s ⟨s.slots,ins j (.mp (eM kd (gi l k v))) s.own⟩ :=
 op_mset (ty:=ty) (pos:=pos) (after:=after) (g:=g) ht hx hk hy hc
end
end Go.Sk
namespace Go.Sk
set_option linter.unusedSimpArgs false
set_option linter.unusedVariables false
open Go Go.BigFrame
section
variable {P:Program} {TB:b5} {E:Env TB} {n:Sh} {s s':St} {dst:Option Nat} {t ty yt:TypeId} {pos:String} {after:Array Edge} {g:Option (Nat × Bool)} {x y c:Operand} {ops:Array Oper} {l:List Oper} {Q:dN} {a b:Code}
theorem af.ite {α:Type} {d:Bool} {A B:Option α} {r:α} (h:(if d = true then A else B) = some r) (h1:d = true → A = some r → af P E n ops l s Q) (h2:d = false → B = some r → af P E n ops l s Q):af P E n ops l s Q:=by
 cases d
 ·exact h2 rfl h
 ·exact h1 rfl h
theorem ab.tL {k:Nat} (hs:s.get k = some (.b (.one (.bool true)))) (h:ab P E n a s Q):ab P E n (.cond (.tmp k) a b) s Q:=ab.cond hs (fun _=>h) (fun e=>by cases e)
theorem ab.xE {k:Nat} (hs:s.get k = some (.b (.one (.bool false)))) (h:ab P E n b s Q):ab P E n (.cond (.tmp k) a b) s Q:=ab.cond hs (fun e=>by cases e) (fun _=>h)
theorem rI {w:World} {ps rs:Array TypeId} {v:Bool} {u:Value} {b:Bool} (hu:P.underlying t = some (.func ps rs v)) (hv:(∃ f a c,u = .func f a c ∧ b = false) ∨ (u = .nilFunc ∧ b = true)) :
  (Op.equal t u .nilFunc).run P w = .ok b w:=by
 unfold Op.equal Op.maxDepth Op.equalIn
 rcases hv with ⟨f,a,c,rfl,rfl⟩ | ⟨rfl,rfl⟩ <;> simp [run_underlying hu,Result.andThen]
theorem rB {a k:Int} {v z:BV} {r:List (Int × BV)} (h:decide (k = a) = true):(gS ((a,v) :: r) k).getD z = v:=by
 have e:k = a:=by simpa using h
 unfold gS; rw [if_pos e]; rfl
theorem kQ {a k:Int} {v z q:BV} {r:List (Int × BV)} (h:decide (k = a) = false) (hr:(gS r k).getD z = q):(gS ((a,v) :: r) k).getD z = q:=by
 have e:¬ k = a:=by simpa using h
 unfold gS; rw [if_neg e]; exact hr
end
end Go.Sk
namespace Go.Sk
set_option linter.unusedSimpArgs false
set_option linter.unusedVariables false
open Go Go.ChangeShapes Go.WideShapes Go.ChangeAt Go.RowKit
def vX {H:Type}:Nat → DataW H → List Value
 | _,.lit (.int k n)=>[.int k n]
 | _,.lit (.string l)=>[.string ⟨⟨l⟩⟩]
 | n + 1,.agg ds=>(ds.map (vX n)).flatten
 | _,_=>[]
structure pa (P:Program) (t:TypeId) (n:Nat):Prop where
 op:∀ {H:Type} {enc:TypeId × Value → H} {W:World} {sp:Nat → Bool} {held:Bool} {fuel:Nat} {cs:List Value} {x:DataW H × List MemPlace},DataW.trod enc P W 0 sp held fuel t cs = some x → vX n x.1 = cs
theorem pa.int {P:Program} {t:TypeId} {k:IntKind} {n:Nat} (ht:P.underlying t = some (.int k)):pa P t n where
 op h:=by obtain ⟨m,rfl,rfl,_⟩:=DataW.trod_int ht h; cases n <;> rfl
theorem pa.str {P:Program} {t:TypeId} {n:Nat} (ht:P.underlying t = some .string):pa P t n where
 op h:=by
  obtain ⟨s,rfl,rfl,_⟩:=DataW.trod_string ht h
  cases s with | mk d=>cases d; cases n <;> rfl
inductive qg (P:Program) (fs:Array Field) (T d:Nat):Nat → Nat → Prop where
 | nil {i:Nat} (hi:fs.size ≤ i):qg P fs T d i T
 | cons {i o:Nat} {f:Field} (hf:fs[i]? = some f) (ho:f.offset = o) (hr:pa P f.type d) (h:qg P fs T d (i + 1) (o + P.cellsOf f.type)):qg P fs T d i o
theorem qg.op {P:Program} {fs:Array Field} {T d i o:Nat} (h:qg P fs T d i o) {H:Type} {enc:TypeId × Value → H} {W:World} {sp:Nat → Bool} {held:Bool} {n:Nat} {cs:List Value} {xs:List (DataW H × List MemPlace)} (hl:cs.length = T)
  (hx:xs.length = fs.size) (hv:∀ (j:Nat) (f:Field),fs[j]? = some f → DataW.trod enc P W 0 sp held n f.type ((cs.drop f.offset).take (P.cellsOf f.type)) = xs[j]?):((xs.drop i).map fun x=>vX d x.1).flatten = cs.drop o:=by
 induction h with
 | nil hi=>rw [List.drop_of_length_le (by omega),List.drop_of_length_le (by omega)]; rfl
 | @cons i o f hf ho hr h ih=>
  have hi:i < xs.length:=by
   rw [hx]
   exact (Array.getElem?_eq_some_iff.1 hf).1
  have h1:=hv i f hf
  rw [List.getElem?_eq_getElem hi] at h1
  have h2:=hr.op h1
  rw [List.drop_eq_getElem_cons hi,List.map_cons,List.flatten_cons,ih,h2,ho,← List.drop_drop,List.take_append_drop]
theorem pa.struct {P:Program} {t:TypeId} {fs:Array Field} (ht:P.underlying t = some (.struct fs)) {d:Nat} (h:qg P fs (P.cellsOf t) d 0 0):pa P t (d + 1) where
 op hd:=by
  obtain ⟨xs,m,_,rfl,hl,hlen,hf⟩:=DataW.trod_struct ht hd
  have:=h.op (xs:=xs) hl hlen hf
  simp only [vX,List.map_map]
  rw [List.drop_zero,List.drop_zero] at this
  exact this
end Go.Sk
namespace Go.Sk
set_option linter.unusedSimpArgs false
set_option linter.unusedVariables false
open Go Go.BigFrame
variable {P:Program} {TB:b5} {E:Env TB} {n:Sh} {s:St} {dst:Option (Nat)} {t ty:TypeId} {pos:String} {after:Array Edge} {g:Option (Nat × Bool)} {x y:Operand}
theorem Reads.take {h:PH} {b o:Nat} {ps:List CP} (x:Reads h b o ps) (n:Nat):Reads h b o (ps.take n):=by
 intro j c hc
 rw [List.getElem?_take] at hc
 split at hc
 ·exact x j c hc
 ·cases hc
theorem ab.condFc {a b:Code} {Q:dN} (h:ab P E n b s Q):ab P E n (.cond (.const (.bool false)) a b) s Q:=fun ac w hr=>wp_cond_false rfl (h ac w hr)
end Go.Sk
namespace Go.Sk
set_option linter.unusedSimpArgs false
set_option linter.unusedVariables false
open Go Go.BigFrame Go.RowKit Go.Proofs Go.Shelf
variable {P:Program} {TB:b5} {ρ:Ren}
theorem pG {own:List (Nat × OC)} {w:World} {h:PH} {ρ:RM} (tb:gy TB h w) (hag:pB h w) (hl:Lent own h ρ w):WR (⟨w,h,ρ,tb⟩:Env TB) ⟨0,bj own,aH own,[]⟩ own h ρ w:=by
 refine ⟨hag,PH.le_refl h,fun _ _ _=>rfl,Nat.le_refl _,fun _ _ _=>rfl,fun _ _=>rfl,rfl,rfl,?_,?_⟩
 ·rintro b ⟨k,hk,hb⟩ o
  obtain ⟨⟨k',c⟩,hm',rfl⟩:=List.mem_map.1 hk
  exact ((hl k' c hm').2.1 b (.inl hb)).2 o
 ·intro k c hc
  obtain ⟨h1,h3,h4⟩:=hl k c hc
  exact ⟨h1,fun b hb=>⟨.inr ⟨k,List.mem_map.2 ⟨(k,c),hc,rfl⟩,(h3 b hb).1⟩,(h3 b hb).2⟩,h4⟩
def sorted (zs:List Int):List Int:=zs.mergeSort fun x y=>decide (x ≤ y)
theorem ua {h:PH} {zs:List Int} {xs:List Value} (hr:aS h (zs.map eI).flatten xs):xs = zs.map (Value.int .i64) ∧ ∀ z ∈ zs,si .i64 z:=by
 have e:(zs.map eI).flatten = zs.map CP.i:=by
  clear hr
  induction zs with
  | nil=>rfl
  | cons z zs ih=>simp only [List.map_cons,List.flatten_cons,ih]; rfl
 rw [e] at hr
 clear e
 induction zs generalizing xs with
 | nil=>cases hr; exact ⟨rfl,fun z hz=>by cases hz⟩
 | cons z zs ih=>
  cases hr with
  | cons h1 t=>
   obtain ⟨e1,e2⟩:=ih t
   have h1':_ = Value.int .i64 z ∧ si .i64 z:=h1
   refine ⟨by rw [h1'.1,e1]; rfl,fun y hy=>?_⟩
   rcases List.mem_cons.1 hy with rfl | hy
   ·exact h1'.2
   ·exact e2 y hy
theorem tR {h:PH} {zs:List Int} (H:∀ z ∈ zs,si .i64 z):aS h (zs.map eI).flatten (zs.map (Value.int .i64)):=by
 induction zs with
 | nil=>exact .nil
 | cons z zs ih=>exact .cons ⟨rfl,H z (by simp)⟩ (ih fun y hy=>H y (by simp [hy]))
theorem uni_I (zs:List Int):cQ 1 (zs.map eI):=bc fun _=>rfl
theorem oW {w:World} {b:Nat} {f:Array Value → Array Value} {cur:Array Value} {T:TypeId} {fr:Nat × Nat} (hb:w.heap[b]? = some (.cells cur T fr)):(Sort.mapBlock w b f).heap[b]? = some (.cells (f cur) T fr):=by
 unfold Sort.mapBlock
 simp only [Array.getElem?_modify,if_pos rfl,hb,Option.map_some]
 rfl
theorem kC {w:World} {b c:Nat} {f:Array Value → Array Value} (h:c ≠ b):(Sort.mapBlock w b f).heap[c]? = w.heap[c]?:=by
 unfold Sort.mapBlock
 simp only [Array.getElem?_modify,if_neg (Ne.symm h)]
theorem oS {d:List Int} {cur:Array Value} (h:d.length ≤ cur.size):(Sort.putCells (Value.int .i64) 0 d.toArray cur).toList.take d.length = d.map (Value.int .i64):=by
 apply List.ext_getElem?
 intro i
 unfold Sort.putCells
 rw [List.getElem?_take]
 by_cases hi:i < d.length
 ·rw [if_pos hi,Array.getElem?_toList,Array.getElem?_mapIdx,Array.getElem?_eq_getElem (by omega),Option.map_some,if_pos ⟨by omega,by simpa using hi⟩,List.getElem?_map,List.getElem?_eq_getElem hi,Option.map_some]
  simp [hi]
 ·rw [if_neg hi,List.getElem?_map,List.getElem?_eq_none (by omega)]; rfl
theorem xi {TB:b5} {E:Env TB} {n:Sh} {h:PH} {ρ:RM} {own:List (Nat × OC)} {w:World} (hw:WR E n own h ρ w) {k:Nat} {T:TypeId} {size:Nat} {es:List (List CP)} (hk:lk own k = some (.jI T size es)) :
  cQ size es ∧ 0 < size ∧ ((ρ k = .slice none 0 0 ∧ es = []) ∨ ∃ b cap cur,ρ k = .slice (some ⟨b,0,none⟩) es.length cap ∧ w.heap[b]? = some (.cells cur T (0,0)) ∧ es.length ≤ cap ∧ cap ≤ maxLen ∧ cur.size = cap * size ∧
   aS h es.flatten (cur.toList.take (es.length * size))):=by
 obtain ⟨hu,hz,xs,⟨hl,how⟩,hr⟩:=(hw.owned k _ (bn hk)).1
 refine ⟨hu,hz,?_⟩
 rcases how with ⟨h1,he⟩ | ⟨b,cap,cur,h1,_,h3,h4,h5,h6,h7⟩
 ·exact .inl ⟨h1,by cases es <;> simp_all⟩
 ·exact .inr ⟨b,cap,cur,h1,h3,h4,h5,h6,by rw [h7]; exact hr⟩
theorem rR {w:World} {b:Nat} {cur:Array Value} {T:TypeId} {zs:List Int} (hb:w.heap[b]? = some (.cells cur T (0,0))) (ht:cur.toList.take zs.length = zs.map (Value.int .i64)):Sort.Holds (Value.int .i64) w b 0 zs.toArray:=by
 intro j hj
 have hj':j < zs.length:=by simpa using hj
 refine ⟨?_,?_⟩
 ·rw [gF hb,Nat.zero_add]
  have:=congrArg (·[j]?) ht
  simp only [List.getElem?_take,if_pos hj',List.getElem?_map,List.getElem?_eq_getElem hj',Option.map_some,Array.getElem?_toList] at this
  rw [this]; simp [hj']
 ·unfold World.frozen?
  rw [hb]; simp
theorem uC (zs:List Int):(Lib.compact zs).length ≤ zs.length:=by
 unfold Lib.compact Lib.compactUpTo
 rw [List.length_map]
 exact Nat.le_trans (List.length_filter_le _ _) (by simp)
theorem uB {zs:List Int}:∀ z ∈ Lib.compact zs,z ∈ zs:=by
 intro z hz
 unfold Lib.compact Lib.compactUpTo at hz
 obtain ⟨j,hj,rfl⟩:=List.mem_map.1 hz
 have hlt:j < zs.length:=List.mem_range.1 (List.mem_filter.1 hj).1
 simp [hlt]
def oz (zs:List Int):Option (List Int):=if 0 < zs.length ∧ zs.length < 1000000000 then some (Lib.compact zs) else none
theorem rW (L:Lays2.n20 P ρ) {T:TypeId} {zs r:List Int} (hr:oz zs = some r):aA P TB (ρ.f 20) [(1,.row T 1 (zs.map eI))] [.row 1] (Is [(1,.row T 1 (r.map eI))] (.b (.row 1))):=by
 unfold oz at hr
 split at hr
 ·next hl=>
  cases hr
  intro w h ρ' vals tb hag hlent hargs
  obtain ⟨v,rfl,hv⟩:=ug hargs
  have hv':v = ρ' 1:=hv
  subst hv'
  have hw:=pG tb hag hlent
  obtain ⟨_,_,hf⟩:=iP hw (k:=1) rfl
  rcases hf with ⟨_,h0⟩ | ⟨b,cap,cur,h1,h2,h3,h4,h5,h6⟩
  ·have:=congrArg List.length h0; simp at this; subst this; simp at hl
  rw [List.length_map] at h1 h3 h6
  rw [Nat.mul_one] at h5 h6
  obtain ⟨e1,e2⟩:=ua h6
  have hcl:=uC zs
  have hbl:b < w.heap.size:=(Array.getElem?_eq_some_iff.1 h2).1
  rw [h1]
  refine (Any.slices_Compact_int L b 0 cap zs w (rR h2 e1) (by omega) h3).mono ?_
  rintro e w' ⟨rfl,q,rfl⟩
  generalize hd:Lib.compact zs ++ List.replicate (zs.length - (Lib.compact zs).length) (0:Int) = d
  have hdl:d.length = zs.length:=by rw [← hd]; simp; omega
  have hdt:d.take (Lib.compact zs).length = Lib.compact zs:=by rw [← hd,List.take_left]
  have hsz:(Sort.putRow (Value.int .i64) (Sort.ahead w q) b 0 d.toArray).heap.size = w.heap.size:=by simp [Sort.putRow,Sort.mapBlock,Sort.ahead]
  have hst:=hw.step (w':=Sort.putRow (Value.int .i64) (Sort.ahead w q) b 0 d.toArray) 1 (.slice (some ⟨b,0,none⟩) (Lib.compact zs).length cap) (.row T 1 ((Lib.compact zs).map eI)) (some b) (fun b' e=>by cases e; exact ⟨.row T 1 (zs.map eI),List.mem_cons_self,by rw [h1]; rfl⟩)
   (by rw [hsz]; exact Nat.le_refl _) rfl rfl (fun c hc hne=>kC (w:=Sort.ahead w q) (fun e=>hne (by rw [e]))) ?_ (fun b' hb'=>by simp [bf] at hb'; exact .inl (by rw [hb'])) (.inr (by simp [bj,OC.pA])) (.inr rfl)
  ·exact ⟨_,_,_,h,_,rfl,⟨rfl,rfl⟩,hst,(bC ..).symm⟩
  ·refine ⟨uni_I _,by decide,(Lib.compact zs).map (Value.int .i64),⟨by simp,.inr ⟨b,cap,Sort.putCells (Value.int .i64) 0 d.toArray cur,by rw [List.length_map],Nat.zero_le _,oW (w:=Sort.ahead w q) h2,by rw [List.length_map]; omega,h4,?_,?_⟩⟩,tR fun z hz=>e2 z (uB z hz)⟩
   ·simp [Sort.putCells,h5]
   ·rw [List.length_map,Nat.mul_one]
    have:=congrArg (List.take (Lib.compact zs).length) (oS (d:=d) (cur:=cur) (by rw [h5,hdl]; exact h3))
    rw [List.take_take,Nat.min_eq_left (by omega),← List.map_take,hdt] at this
    exact this
 ·simp at hr
end Go.Sk
namespace Go.Sk
set_option linter.unusedSimpArgs false
set_option linter.unusedVariables false
open Go Go.BigFrame
abbrev cZ:=List (Int × Int)
def mI (m:cZ):List (Int × BV):=m.map fun p=>(p.1,.one (.i p.2))
def fP (m:cZ) (k:Int):Int:=(gS m k).getD 0
def eT (m:cZ) (k:Int):Bool:=(gS m k).isSome
theorem tq (k:Int):∀ m:cZ,gS (mI m) k = (gS m k).map fun v=>BV.one (.i v)
 | []=>rfl
 | (a,b) :: r=>by
  show (if k = a then some (BV.one (.i b)) else gS (mI r) k) = (if k = a then some b else gS r k).map _
  split
  ·rfl
  ·exact tq k r
theorem wq (k v:Int):∀ m:cZ,gi (mI m) k (.one (.i v)) = mI (gi m k v)
 | []=>rfl
 | (a,b) :: r=>by
  show (if k = a then (a,BV.one (.i v)) :: mI r else (a,.one (.i b)) :: gi (mI r) k (.one (.i v))) = mI (if k = a then (a,v) :: r else (a,b) :: gi r k v)
  split
  ·rfl
  ·rw [wq k v r]; rfl
theorem ue {h:PH} {ρ:RM} {m:cZ} {ms:List MapEntry}:iw h ρ (eM .i64 (mI m)) ms ↔ rl m ms:=by
 unfold iw rl eM mI
 rw [List.map_map]
 exact (hO _).trans (jw fun a u=>Iff.rfl)
variable {P:Program} {TB:b5} {E:Env TB} {n:Sh} {s:St} {dst:Option Nat} {t ty yt:TypeId} {pos:String} {after:Array Edge} {g:Option (Nat × Bool)} {x y c:Operand}
theorem tp {h:PH} {ρ:RM} {own:List (Nat × OC)} {w:World} (hw:WR E n own h ρ w) {k:Nat} {m:cZ} (hk:lk own k = some (.mq m)) :
  ∃ b ms clk,ρ k = .map (some b) ∧ w.heap[b]? = some (.map ms clk) ∧ iw h ρ (eM .i64 (mI m)) ms.toList ∧ l7 clk ms.toList:=by
 obtain ⟨b,ms,clk,h1,h2,h3,h4⟩:=(hw.owned k _ (bn hk)).1
 exact ⟨b,ms,clk,h1,h2,ue.2 h3,h4⟩
theorem w4 {kt et:TypeId} {m:cZ} {j:Nat} {k:Int} (ht:oO P t kt et .i64 (.i 0)) (hx:s.ev x = some (.b (.row j))) (hk:lk s.own j = some (.mq m)) (hy:s.ev y = some (.b (.one (.int .i64 k)))) :
  bD P E n ⟨dst,.lookup t x y true,ty,pos,after,g⟩ s (s.put n dst (.gR [.one (.i (fP m k)),.one (.bool (eT m k))])) :=
 bD.val (o:=⟨dst,.lookup t x y true,ty,pos,after,g⟩) fun ac w h ρ hw hs=>by
  have hv:ac.eval x = ρ j:=(ba hs hx:BV.rel h ρ (.row j) _)
  obtain ⟨b,ms,clk,h1,h2,h3,h4⟩:=tp hw hk
  obtain ⟨v,g1,g2,_⟩:=nR ht h2 h3 k
  rw [tq] at g1 g2
  have e1:((gS m k).map fun v=>BV.one (.i v)).getD (.one (.i 0)) = .one (.i (fP m k)):=by unfold fP; cases gS m k <;> rfl
  have e2:((gS m k).map fun v=>BV.one (.i v)).isSome = eT m k:=by unfold eT; cases gS m k <;> rfl
  rw [e1] at g1
  rw [e2] at g2
  refine ⟨_,?_,_,rfl,.cons g1 (.cons rfl .nil)⟩
  simp only [execOp,hv,h1,(eV hs hy).1]
  simp [g2]
theorem ow {kt et:TypeId} {m:cZ} {j:Nat} {k:Int} (ht:oO P t kt et .i64 (.i 0)) (hx:s.ev x = some (.b (.row j))) (hk:lk s.own j = some (.mq m)) (hy:s.ev y = some (.b (.one (.int .i64 k)))) :
  bD P E n ⟨dst,.lookup t x y false,ty,pos,after,g⟩ s (s.put n dst (.b (.one (.i (fP m k))))) :=
 bD.val (o:=⟨dst,.lookup t x y false,ty,pos,after,g⟩) fun ac w h ρ hw hs=>by
  have hv:ac.eval x = ρ j:=(ba hs hx:BV.rel h ρ (.row j) _)
  obtain ⟨b,ms,clk,h1,h2,h3,h4⟩:=tp hw hk
  obtain ⟨v,g1,_,g2⟩:=nR ht h2 h3 k
  rw [tq] at g1
  have e1:((gS m k).map fun v=>BV.one (.i v)).getD (.one (.i 0)) = .one (.i (fP m k)):=by unfold fP; cases gS m k <;> rfl
  rw [e1] at g1
  refine ⟨_,?_,g1⟩
  simp only [execOp,hv,h1,(eV hs hy).1]
  simp [g2]
theorem qL {kt et:TypeId} {k:Nat} (hu:P.underlying t = some (.map kt et)) (hfx:n.fix.contains k = false) (hnu:dx k s.own = true:=by rfl) :
  bD P E n ⟨dst,.makeMap t none,ty,pos,after,g⟩ s ((⟨bT k s.slots,ins k (.mq []) s.own⟩:St).put n dst (.b (.row k))) :=
 bD.make (hfx:=hfx) (hnu:=hnu) (o:=⟨dst,.makeMap t none,ty,pos,after,g⟩) fun ac w h ρ hw hs=>by
  refine ⟨.map (some w.heap.size),.map (some w.heap.size),w.alloc (.map #[] 0),none,?_,fun b e=>by simp at e,by simp,rfl,rfl,fun b hb _=>heap_alloc_old w _ hb,⟨w.heap.size,#[],0,rfl,heap_alloc_new w _,.nil,fun e he=>by simp at he,by simp⟩,
   fun b e=>by simp [bf] at e; subst e; exact .inr (Nat.le_refl _),(bC _ _ _).symm⟩
  simp [execOp,Instr.makeMap,newObj,Sem.run,Result.andThen]
theorem WR.setMapI {h:PH} {ρ:RM} {own:List (Nat × OC)} {w:World} (hw:WR E n own h ρ w) {k b:Nat} {m m':cZ} {ms ms':Array MapEntry} {clk clk':Nat} (hk:lk own k = some (.mq m)) (hρ:ρ k = .map (some b))
  (hb:w.heap[b]? = some (.map ms clk)) (hr:rl m' ms'.toList) (ho:l7 clk' ms'.toList):WR E n (ins k (.mq m') own) h ρ { w with heap:=w.heap.setIfInBounds b (.map ms' clk') }:=by
 have hlt:b < w.heap.size:=by
  rcases Nat.lt_or_ge b w.heap.size with h | h
  ·exact h
  ·simp [Array.getElem?_eq_none h] at hb
 have hst:=hw.step (w':={ w with heap:=w.heap.setIfInBounds b (.map ms' clk') }) k (ρ k) (.mq m') (some b) (fun b' e=>by cases e; exact ⟨_,bn hk,by rw [hρ]; rfl⟩) (by simp) rfl rfl
  (fun b' _ hne=>by
   have:b ≠ b':=fun e=>hne (by rw [e])
   simp [Array.getElem?_setIfInBounds,this]) ⟨b,ms',clk',hρ,by simp [Array.getElem?_setIfInBounds,hlt],hr,ho⟩ (fun b' hb'=>by rw [hρ] at hb'; simp [bf] at hb'; exact .inl (by rw [hb'])) (.inl rfl) (.inl rfl)
 have:kM ρ k (ρ k) = ρ:=by funext j; simp only [kM]; split <;> simp_all
 rwa [this] at hst
theorem pL {kt et:TypeId} {m:cZ} {j:Nat} {k v:Int} (ht:oO P t kt et .i64 (.i 0)) (hx:s.ev x = some (.b (.row j))) (hk:lk s.own j = some (.mq m)) (hy:s.ev y = some (.b (.one (.int .i64 k)))) (hc:s.ev c = some (.b (.one (.int .i64 v)))) :
  bD P E n ⟨none,.mapUpdate t x y c,ty,pos,after,g⟩ s ⟨s.slots,ins j (.mq (gi m k v)) s.own⟩ :=
 bD.store (o:=⟨none,.mapUpdate t x y c,ty,pos,after,g⟩) rfl fun ac w h ρ hw hs=>by
  have hv:ac.eval x = ρ j:=(ba hs hx:BV.rel h ρ (.row j) _)
  obtain ⟨b,ms,clk,h1,h2,h3,h4⟩:=tp hw hk
  obtain ⟨hy1,hy2⟩:=eV hs hy
  have hcr:(BV.one (.i v)).rel h ρ (ac.eval c):=ba hs hc
  obtain ⟨ms',clk',g1,g2,g3⟩:=qI ht h2 h3 h4 k hy2 hcr
  rw [wq] at g2
  refine ⟨_,?_,hw.setMapI hk h1 h2 (ue.1 g2) g3⟩
  simp only [execOp,hv,h1,hy1]
  simp [g1]
end Go.Sk
namespace Go.Sk
set_option linter.unusedSimpArgs false
set_option linter.unusedVariables false
open Go Go.BigFrame
variable {P:Program} {TB:b5} {E:Env TB} {n:Sh} {s:St} {dst:Option Nat} {t ty yt:TypeId} {pos:String} {after:Array Edge} {g:Option (Nat × Bool)} {x y c:Operand} {ops:Array Oper} {l:List Oper} {Q:dN} {cd:Code}
end Go.Sk
namespace Go.Sk
set_option linter.unusedSimpArgs false
set_option linter.unusedVariables false
open Go Go.BigFrame
def py (o:Oper):Bool:=match o.op with
 | .defer _=>false
 | _=>true
theorem yD {o:Oper} (h:py o = true):∀ c,o.op ≠ .defer c:=fun c e=>by simp [py,e] at h
abbrev rnd (l:Nat):Fence:=Fence.wide.inRound l
section
variable {P:Program} {TB:b5} {E:Env TB} {n:Sh} {ops:Array Oper} {is:List Nat} {s s':St} {Q:dN} {i:Nat} {o:Oper} {c x y:Code} {l₀:Nat}
theorem wV {F:Fence} (hf:F = Fence.wide ∨ ∃ l,F = rnd l) {m:Nat} {row:String} {args:Array Value} {w:World} {R:Value → World → Prop} (h:Rows P row args w R):RowsIn F m P row args w R:=by
 intro c cs _
 obtain ⟨v,w',hr,hs⟩:=h c cs
 rcases hf with rfl | ⟨l,rfl⟩
 ·exact ⟨v,w',hr,stepsIn_wide.2 hs⟩
 ·exact ⟨v,w',hr,stepsIn_wide.2 hs⟩
theorem vL {F:Fence} (hf:F = Fence.wide ∨ ∃ l,F = rnd l) {m:Nat} {f:FuncId} {args:Array Value} {w:World} {R:Ending → World → Prop} (h:Calls P f args w R):CallsIn F m P f args w R:=by
 rcases hf with rfl | ⟨l,rfl⟩
 ·exact callsIn_wide.2 h
 ·exact CallsIn.inRound l (callsIn_wide.2 h)
theorem wm {F:Fence} (hf:F = Fence.wide ∨ ∃ l,F = rnd l) (hd:py o = true) {a:Act} {w:World} {K K':Act → World → Prop} (hk:∀ a w,K a w → K' a w) (h:o.wp P a w K Q):o.wpIn F 0 P a w K' Q:=by
 have hdep:F.depth = none:=by rcases hf with rfl | ⟨l,rfl⟩ <;> rfl
 refine ⟨fun f _=>by rcases hf with rfl | ⟨l,rfl⟩ <;> trivial,?_⟩
 rw [Oper.semAt_eq _ _ _ (yD hd)]
 unfold Oper.wp at h
 generalize (execOp a.eval o).run P w = r at *
 have hdn:F.depth.isSome = true → 1 ≤ 0:=fun e=>by rw [hdep] at e; simp at e
 cases r with
 | ok nx w'=>
  cases nx with
  | value v=>exact hk _ _ h
  | skip=>exact hk _ _ h
  | defer d=>exact hk _ _ h
  | enter f args=>
   refine ⟨hdn,vL hf (Calls.mono h fun e w'' he=>?_)⟩
   cases e with
   | returned v=>exact hk _ _ he
   | panicked ch=>exact he
   | outgrown=>exact he
  | row row args=>exact ⟨hdn,wV hf (Rows.mono h fun _ _ he=>hk _ _ he)⟩
  | _=>exact h.elim
 | halt q w'=>cases q <;> first | exact h | exact h.elim
theorem nH {F:Fence} (hf:F = Fence.wide ∨ ∃ l,F = rnd l) (hd:∀ (i:Nat) (o:Oper),ops[i]? = some o → py o = true) (hQ:¬ LetsOut Q):∀ (is:List Nat) (a:Act) (w:World),wpOps P ops Q is a w → wpOpsIn F 0 P ops Q is a w
 | [],a,w,h=>h
 | i :: is,a,w,h=>by
  simp only [wpOps] at h
  simp only [wpOpsIn]
  cases ho:ops[i]? with
  | none=>simp only [ho] at h; exact nH hf hd hQ is a w h
  | some o=>
   simp only [ho] at h
   simp only
   split
   ·rename_i hw
    simp only [hw,if_true] at h
    rcases h with h | h
    ·exact wm hf (hd i o ho) (fun a w=>nH hf hd hQ is a w) h
    ·exact absurd h.2 hQ
   ·rename_i hw
    simp only [hw] at h
    refine ⟨fun f _=>by rcases hf with rfl | ⟨l,rfl⟩ <;> trivial,nH hf hd hQ is _ w h⟩
def iu (P:Program) {TB:b5} (E:Env TB) (n:Sh) (F:Fence) (c:Code) (s:St) (Q:dN):Prop:=¬ LetsOut Q → ∀ a w,R E n s a w → c.wpIn F 0 P Q a w
variable {F:Fence}
theorem yJ {K:Act → World → Prop} (h:¬ LetsOut Q):¬ LetsOut (Exit.then K Q):=fun ⟨a,w,hq⟩=>h ⟨a,w,hq⟩
theorem xc {id:Nat} (h:¬ LetsOut Q):¬ LetsOut (Exit.inBlock id Q):=fun ⟨a,w,hq⟩=>h ⟨a,w,hq⟩
theorem iu.keep (ks kos:List Nat) (hs:s.keep ks kos = s') (h:iu P E n F c s' Q):iu P E n F c s Q:=fun hq a w hr=>h hq a w (hs ▸ hr.keep ks kos)
theorem iu.seq (h:iu P E n F x s (Exit.then (y.wpIn F 0 P Q) Q)):iu P E n F (.seq x y) s Q:=fun hq a w hr=>wpIn_seq (h (yJ hq) a w hr)
theorem iu.skip (h:Fin E n .normal s Q):iu P E n F .skip s Q:=fun _ a w hr=>wpIn_skip (h a w hr)
theorem iu.ret (h:Fin E n .ret s Q):iu P E n F .ret s Q:=fun _ a w hr=>wpIn_ret (h a w hr)
theorem iu.exit {id:Nat} (h:Fin E n (.exit id) s Q):iu P E n F (.exit id) s Q:=fun _ a w hr=>wpIn_exit (h a w hr)
theorem iu.block {id:Nat} (h:iu P E n F c s (Exit.inBlock id Q)):iu P E n F (.block id c) s Q:=fun hq a w hr=>wpIn_block (h (xc hq) a w hr)
theorem iu.cond {t:Nat} {b:Bool} (hs:s.get t = some (.b (.one (.bool b)))) (h1:b = true → iu P E n F x s Q) (h2:b = false → iu P E n F y s Q):iu P E n F (.cond (.tmp t) x y) s Q:=by
 intro hq a w hr
 obtain ⟨hdf,hn,h,ρ,hw,hsl⟩:=id hr
 have:a.eval (.tmp t) = .bool b:=ba hsl (o:=.tmp t) hs
 exact wpIn_cond_split this (fun e=>h1 e hq a w hr) (fun e=>h2 e hq a w hr)
theorem iu.ite {α:Type} {t:Nat} {b:Bool} {p q:Option α} {r:α} (h:(if b = true then p else q) = some r) (hs:s.get t = some (.b (.one (.bool b)))) (h1:b = true → p = some r → iu P E n F x s Q) (h2:b = false → q = some r → iu P E n F y s Q):iu P E n F (.cond (.tmp t) x y) s Q :=
 iu.cond hs (fun e=>h1 e (by rw [if_pos e] at h; exact h)) (fun e=>h2 e (by rw [if_neg (by simp [e])] at h; exact h))
theorem iu.aa {id:Nat} {l:List Oper} (hf:F = Fence.wide ∨ ∃ l,F = rnd l) (h:af P E n l.toArray l s Q) (hd:l.all py = true:=by rfl):iu P E n F (.region id l.toArray false) s Q:=by
 intro hq a w hr
 refine wpIn_region ?_
 have:=kG (P:=P) (ops:=l.toArray) (Q:=Q) l 0 (fun j=>by simp) a w (h a w hr)
 refine nH hf (fun i o ho=>?_) hq _ a w (by simpa [List.range_eq_range'] using this)
 exact List.all_eq_true.1 hd o (by simpa using List.mem_of_getElem? (by simpa using ho))
theorem iu.ofA {id:Nat} {l:List Oper} (hf:F = Fence.wide ∨ ∃ l,F = rnd l) (hm:P.follows .mixedOrders = true) (h:r8 P E n l.toArray s Q) (hd:l.all py = true:=by rfl):iu P E n F (.region id l.toArray true) s Q:=by
 intro hq a w hr
 refine wpIn_region_draw fun t=>?_
 refine nH hf (fun i o ho=>?_) hq _ a _ ?_
 ·exact List.all_eq_true.1 hd o (by simpa using List.mem_of_getElem? (by simpa using ho))
 ·simp only [Region.schedule,hm,Bool.true_or,if_true]
  exact wpAny_sound _ t _ a _ (h a w hr)
theorem iu.fy {rid:Nat} {ops:List Oper} (hf:F = Fence.wide ∨ ∃ l,F = rnd l) (hm:P.follows .mixedOrders = true) (m:Nat) (Fs:List SV) (ks kos:List Nat) (hok:okX (ops.take m) (ops.drop m) n.n = true) (hst:pb P E n ops.toArray s (ops.take m) Fs 0 (ops.take m) Fs)
  {s2:St} (htl:qH P E n ops.toArray (ops.drop m) ⟨(s.slots.filter fun p=>!(jq (ops.take m)).contains p.1) ++ bz (fun _=>true) 0 (ops.take m) Fs,s.own⟩ s2) (hs:s2.keep ks kos = s') (h:Fin E n .normal s' Q) (hd:ops.all py = true:=by rfl):iu P E n F (.region rid ops.toArray true) s Q :=
 iu.ofA hf hm (r8.X _ _ (List.take_append_drop m ops) Fs ks kos hok hst htl hs h) hd
theorem iu.nJ {rid:Nat} {ops:List Oper} (hf:F = Fence.wide ∨ ∃ l,F = rnd l) (hm:P.follows .mixedOrders = true) (isW:List Bool) (Fs:List SV) (tab:List oK) {σ0 σf:oK} (hok:(j5 0 ops && kY (jq ops) && (jq ops).all (· < n.n) && (isW.length == ops.length)) = true)
  (htab:sY P E n isW tab ops Fs tab) (h0:kA tab (List.replicate ops.length false) = some σ0) (hs0:s = ⟨σ0.base,σ0.own⟩) (hf':kA tab isW = some σf) (ks kos:List Nat)
  (hs:(⟨σf.base ++ bz (nb σf.live) 0 ops Fs,σf.own⟩:St).keep ks kos = s') (h:Fin E n .normal s' Q) (hd:ops.all py = true:=by rfl):iu P E n F (.region rid ops.toArray true) s Q :=
 iu.ofA hf hm (r8.W isW Fs tab hok htab h0 hs0 hf' ks kos hs h) hd
end
end Go.Sk
namespace Go.Sk
set_option linter.unusedSimpArgs false
set_option linter.unusedVariables false
open Go Go.BigFrame
def uW:Obj → Bool
 | .deferred _=>true
 | .loop _=>true
 | _=>false
section
variable {P:Program} {TB:b5} {E:Env TB} {n:Sh} {own own':List (Nat × OC)} {h h':PH} {ρ ρ':RM} {w w':World}
theorem OC.ok.yC {c:OC} {v:Value} (hc:c.ok h ρ v w) {b:Nat} (hf:c.cu v w b) {o:Obj} (ho:w.heap[b]? = some o):uW o = false:=by
 have hrow:∀ {e:TypeId} {size n:Nat} {u:Value} {xs:List Value},w.ownsRow 0 e size u n xs → bf u = some b → uW o = false:=fun {e size n u xs} hh hb=>by
  rcases hh.2 with ⟨rfl,_⟩ | ⟨g,cap,cur,rfl,h1,h2,h3⟩
  ·simp [bf] at hb
  ·simp [bf] at hb; subst hb; rw [h2] at ho; cases ho; rfl
 rcases hf with hb | hi
 rotate_left
 ·cases c with
  | rr T e size hole ess=>
   obtain ⟨us,x⟩:=hc
   obtain ⟨i,u,h1,h2,h3⟩:=x.inner.1 hi
   obtain ⟨es,hes⟩:∃ es,ess[i]? = some es:=by
    have h4:i < us.length:=(List.getElem?_eq_some_iff.1 h1).1
    have h5:=x.out.1
    exact ⟨_,List.getElem?_eq_getElem (by omega)⟩
   obtain ⟨xs,h6,_⟩:=(x.rows i u es h1 hes h2).row
   exact hrow h6 h3
  | ly j m rest cur=>
   obtain ⟨b',ms,clk,D,seen,x⟩:=hc
   obtain ⟨D',s1,s2,s3,h1,h2⟩:=hi
   rw [x.ptr] at h1
   cases h1
   rw [x.it] at h2
   cases h2
   rw [x.obj] at ho
   cases ho
   rfl
  | _=>exact hi.elim
 cases c with
 | rr T e size hole ess=>obtain ⟨us,x⟩:=hc; exact hrow x.out hb
 | ly j m rest cur=>obtain ⟨b',ms,clk,D,seen,x⟩:=hc; rw [x.ptr] at hb; cases hb; rw [x.it] at ho; cases ho; rfl
 | box T ps=>obtain ⟨b',cur,rfl,h2,h3⟩:=hc; simp [bf] at hb; subst hb; rw [h2] at ho; cases ho; rfl
 | sit q pos=>obtain ⟨b',rfl,h2,h3⟩:=hc; simp [bf] at hb; subst hb; rw [h2] at ho; cases ho; rfl
 | mp es=>obtain ⟨b',ms,clk,rfl,h2,h3⟩:=hc; simp [bf] at hb; subst hb; rw [h2] at ho; cases ho; rfl
 | mq m=>obtain ⟨b',ms,clk,rfl,h2,h3⟩:=hc; simp [bf] at hb; subst hb; rw [h2] at ho; cases ho; rfl
 | aW T ps=>obtain ⟨b',cur,rfl,h2,h3⟩:=hc; simp [bf] at hb; subst hb; rw [h2] at ho; cases ho; rfl
 | row T size es=>
  obtain ⟨hu,hz,xs,⟨hl,hh⟩,hr⟩:=hc
  rcases hh with ⟨rfl,_⟩ | ⟨g,cap,cur,rfl,h1,h2,h3⟩
  ·simp [bf] at hb
  ·simp [bf] at hb; subst hb; rw [h2] at ho; cases ho; rfl
 | jI T size es=>
  obtain ⟨hu,hz,xs,⟨hl,hh⟩,hr⟩:=hc
  rcases hh with ⟨rfl,_⟩ | ⟨g,cap,cur,rfl,h1,h2,h3⟩
  ·simp [bf] at hb
  ·simp [bf] at hb; subst hb; rw [h2] at ho; cases ho; rfl
def ss (fx:List Nat) (own:List (Nat × OC)):Bool:=(fx.all fun k=>(bj own).contains k) && own.all fun p=>p.2.plain
theorem sQ {fx:List Nat} {own:List (Nat × OC)} (h:ss fx own = true):∀ k,k ∈ fx → k ∈ bj own:=fun k hk=>by
 simp only [ss,Bool.and_eq_true,List.all_eq_true] at h
 simpa using h.1 k hk
theorem qR {fx:List Nat} {own:List (Nat × OC)} (h:ss fx own = true):∀ k c,(k,c) ∈ own → c.plain = true:=fun k c hk=>by
 simp only [ss,Bool.and_eq_true,List.all_eq_true] at h
 exact h.2 _ hk
theorem WR.self (hw:WR E n own h ρ w) (hp:∀ k c,(k,c) ∈ own → c.plain = true) (m:Nat) (d:List Deferred):WR (⟨w,h,ρ,hw.tG⟩:Env TB) ⟨m,bj own,aH own,d⟩ own h ρ w :=
 WR.sh (n:=⟨0,bj own,aH own,[]⟩) rfl rfl (pG hw.tG hw.agree (tr hw (fun _ _ hk=>hk) hp))
theorem WR.all {tb:gy TB h w} {m:Nat} {d:List Deferred} (hw:WR E n own h ρ w) (hc:WR (⟨w,h,ρ,tb⟩:Env TB) ⟨m,bj own,aH own,d⟩ own' h' ρ' w') (hf:∀ k,k ∈ n.fix → k ∈ bj own):WR E n own' h' ρ' w':=by
 have hlent:∀ b,nC (⟨w,h,ρ,tb⟩:Env TB) ⟨m,bj own,aH own,d⟩ b → E.w0.heap.size ≤ b ∨ nC E n b:=fun b ⟨k,hk,hb⟩=>by
  obtain ⟨⟨k',c⟩,hm,rfl⟩:=List.mem_map.1 hk
  exact ((hw.owned k' c hm).2.1 b (.inl hb)).1
 have hnl:∀ b,b < E.w0.heap.size → ¬ nC E n b → ¬ nC (⟨w,h,ρ,tb⟩:Env TB) ⟨m,bj own,aH own,d⟩ b:=fun b hb hl hl'=>by
  rcases hlent b hl' with h1 | h1
  ·omega
  ·exact hl h1
 refine ⟨hc.agree,PH.le_trans hw.le hc.le,fun b hb hl=>?_,Nat.le_trans hw.size hc.size,fun b hb hl=>?_,fun k hk=>?_,hc.os.trans hw.os,hc.out.trans hw.out,hw.nl,fun k c hk=>?_⟩
 ·exact (hc.fresh b (Nat.lt_of_lt_of_le hb hw.size) (hnl b hb hl)).trans (hw.fresh b hb hl)
 ·exact (hc.same b (Nat.lt_of_lt_of_le hb hw.size) (hnl b hb hl)).trans (hw.same b hb hl)
 ·exact (hc.fixed k (hf k hk)).trans (hw.fixed k hk)
 ·obtain ⟨e1,e2,e3⟩:=hc.owned k c hk
  refine ⟨e1,fun b hb=>⟨?_,(e2 b hb).2⟩,e3⟩
  rcases (e2 b hb).1 with h1 | h1
  ·exact .inl (Nat.le_trans hw.size h1)
  ·exact hlent b h1
theorem WR.none {tb:gy TB h w} {m:Nat} {d:List Deferred} {ρ1:RM} (hw:WR E n own h ρ w) (hc:WR (⟨w,h,ρ1,tb⟩:Env TB) ⟨m,[],[],d⟩ own' h' ρ' w'):WR E n own h' ρ w':=by
 have hnl:∀ b,¬ nC (⟨w,h,ρ1,tb⟩:Env TB) ⟨m,[],[],d⟩ b:=fun b ⟨k,hk,_⟩=>by simp at hk
 refine ⟨hc.agree,PH.le_trans hw.le hc.le,fun b hb hl=>?_,Nat.le_trans hw.size hc.size,fun b hb hl=>?_,hw.fixed,hc.os.trans hw.os,hc.out.trans hw.out,hw.nl,fun k c hk=>?_⟩
 ·exact (hc.fresh b (Nat.lt_of_lt_of_le hb hw.size) (hnl b)).trans (hw.fresh b hb hl)
 ·exact (hc.same b (Nat.lt_of_lt_of_le hb hw.size) (hnl b)).trans (hw.same b hb hl)
 ·obtain ⟨e1,e2,e3⟩:=hw.owned k c hk
  have hft:∀ j x,(j,x) ∈ own → ∀ b,x.cu (ρ j) w' b → x.cu (ρ j) w b:=fun j x hj b=>OC.cu.congr fun b hb=>hc.same b ((hw.owned j x hj).1.lt (.inl hb)) (hnl b)
  refine ⟨(e1.congr fun b hb=>hc.same b (e1.lt hb) (hnl b)).mono hc.le,fun b hb=>⟨(e2 b (hft k c hk b hb)).1,fun o=>?_⟩,fun j x hj hjk b hb hb'=>e3 j x hj hjk b (hft k c hk b hb) (hft j x hj b hb')⟩
  have e:=hc.fresh b (e1.lt (hft k c hk b hb)) (hnl b)
  rw [e]
  exact (e2 b (hft k c hk b hb)).2 o
end
end Go.Sk
namespace Go.Sk
set_option linter.unusedSimpArgs false
set_option linter.unusedVariables false
open Go Go.BigFrame
def each {α ι β:Type} (B:ι → α → Option (ι ⊕ β)):List α → ι → Option (ι ⊕ β)
 | [],v=>some (.inl v)
 | x :: xs,v=>match B v x with
  | none=>none
  | some (.inl v')=>each B xs v'
  | some (.inr y)=>some (.inr y)
def mark (D:Nat):Deferred:={ target:=.collected D,args:=#[] }
section
variable {P:Program} {TB:b5} {E:Env TB} {n:Sh} {s s':St} {Q:dN} {x y assign body:Code}
theorem rV {own:List (Nat × OC)} {h:PH} {ρ:RM} {w:World} (hw:WR E n own h ρ w) {D:Nat} {o:Obj} (hD:w.heap[D]? = some o) (hi:uW o = true) {tb:gy TB h w} {m:Nat} {bk:List Nat} {d:List Deferred}:¬ nC (⟨w,h,ρ,tb⟩:Env TB) ⟨m,bk,aH own,d⟩ D:=fun ⟨k,hk,hb⟩=>by
 obtain ⟨⟨k',c⟩,hm,rfl⟩:=List.mem_map.1 hk
 have:=(hw.owned k' c hm).1.yC (.inl hb) hD
 rw [this] at hi
 simp at hi
theorem xb {w:World} {D:Nat} {o:Obj} (hD:w.heap[D]? = some o):D < w.heap.size:=(Array.getElem?_eq_some_iff.1 hD).1
def RD {TB:b5} (E:Env TB) (n:Sh) (D:Nat) (s:St) (a:Act) (w:World):Prop :=
 a.defers = [mark D] ∧ a.tmps.size = n.n ∧ w.heap[D]? = some (.deferred (some [])) ∧ E.w0.heap.size ≤ D ∧ ∃ h ρ,WR E n s.own h ρ w ∧ bM h ρ s.slots a.tmps
end
end Go.Sk
namespace Go.Sk
set_option linter.unusedSimpArgs false
set_option linter.unusedVariables false
open Go Go.BigFrame
section
variable {P:Program} {TB:b5} {E:Env TB} {n:Sh} {s s':St} {Q:dN} {x y assign body cd:Code}
def RetM (P:Program) (fn:Func) {TB:b5} (E:Env TB) (n:Sh) (post:ka):dN
 | .normal,a,w=>∃ D,a.defers = [mark D] ∧ w.heap[D]? = some (.deferred (some [])) ∧ E.w0.heap.size ≤ D ∧ ∃ v,(∀ w₂,fh w w₂ → (results fn a.tmps).run P w₂ = .ok v w₂) ∧ qV E n post (.returned v) w
 | .ret,a,w=>∃ D,a.defers = [mark D] ∧ w.heap[D]? = some (.deferred (some [])) ∧ E.w0.heap.size ≤ D ∧ ∃ v,(∀ w₂,fh w w₂ → (results fn a.tmps).run P w₂ = .ok v w₂) ∧ qV E n post (.returned v) w
 | _,_,_=>False
theorem RD.rest {fn:Func} {post:ka} {D:Nat} {a:Act} {w:World} (hr:RD E n D s a w) (hf:ss n.fix s.own = true) (h:∀ E':Env TB,ab P E' ⟨n.n,bj s.own,aH s.own,[mark D]⟩ y s (Ret P fn E' ⟨n.n,bj s.own,aH s.own,[mark D]⟩ post)):y.wp P (RetM P fn E n post) a w:=by
 obtain ⟨h1,h2,h3,h4,hh,ρ,hw,hs⟩:=hr
 refine wp_mono (h ⟨w,hh,ρ,hw.tG⟩ a w ⟨h1,h2,hh,ρ,hw.self (qR hf) _ _,hs⟩) ?_
 have key:∀ (a':Act) (w':World),(a'.defers = [mark D] ∧ ∃ v,(∀ w₂,fh w' w₂ → (results fn a'.tmps).run P w₂ = .ok v w₂) ∧ qV (⟨w,hh,ρ,hw.tG⟩:Env TB) ⟨n.n,bj s.own,aH s.own,[mark D]⟩ post (.returned v) w') →
   ∃ D,a'.defers = [mark D] ∧ w'.heap[D]? = some (.deferred (some [])) ∧ E.w0.heap.size ≤ D ∧ ∃ v,(∀ w₂,fh w' w₂ → (results fn a'.tmps).run P w₂ = .ok v w₂) ∧ qV E n post (.returned v) w':=by
  rintro a' w' ⟨g1,v,g2,v',own',res,h',ρ',e1,e2,e3,e4⟩
  refine ⟨D,g1,(e3.same D (xb h3) (rV hw h3 rfl)).trans h3,h4,v,g2,v',own',res,h',ρ',e1,e2,hw.all e3 fun k hk=>?_,e4⟩
  exact sQ hf k hk
 rintro (_ | _ | _ | _ | _ | _) a' w' h'
 all_goals first | exact key a' w' h' | exact h'.elim
theorem RD.ret {fn:Func} {post:ka} {D:Nat} {a:Act} {w:World} (hr:RD E n D s a w) (hf:ss n.fix s.own = true) (h:∀ E':Env TB,Fin E' ⟨n.n,bj s.own,aH s.own,[mark D]⟩ .ret s (Ret P fn E' ⟨n.n,bj s.own,aH s.own,[mark D]⟩ post)):RetM P fn E n post .ret a w:=by
 obtain ⟨h1,h2,h3,h4,hh,ρ,hw,hs⟩:=hr
 obtain ⟨g1,v,g2,v',own',res,h',ρ',e1,e2,e3,e4⟩:=h ⟨w,hh,ρ,hw.tG⟩ a w ⟨h1,h2,hh,ρ,hw.self (qR hf) _ _,hs⟩
 refine ⟨D,h1,h3,h4,v,g2,v',own',res,h',ρ',e1,e2,hw.all e3 fun k hk=>?_,e4⟩
 exact sQ hf k hk
end
section
variable {P:Program} {TB:b5} {E:Env TB} {n:Sh} {s:St} {dst:Option Nat} {t ty yt:TypeId} {pos:String} {after:Array Edge} {g:Option (Nat × Bool)} {x y c:Operand}
end
end Go.Sk
namespace Go.Sk
set_option linter.unusedSimpArgs false
set_option linter.unusedVariables false
open Go Go.BigFrame
def wpLI (P:Program) (F:Fence) (ops:Array Oper) (Q:dN):List Oper → Act → World → Prop
 | [],a,w=>Q .normal a w
 | o :: rest,a,w=>if Region.wanted o (yielded ops a.tmps) then o.wpIn F 0 P a w (wpLI P F ops Q rest) Q else wpLI P F ops Q rest (a.put o.dst undef) w
def rj (P:Program) {TB:b5} (E:Env TB) (n:Sh) (F:Fence) (ops:Array Oper) (l:List Oper) (s:St) (Q:dN):Prop:=∀ a w,R E n s a w → wpLI P F ops Q l a w
section
variable {P:Program} {TB:b5} {E:Env TB} {n:Sh} {ops:Array Oper} {l:List Oper} {s s':St} {Q:dN} {o:Oper} {F:Fence} {c:Code}
theorem rj.nil (h:Fin E n .normal s Q):rj P E n F ops [] s Q:=fun a w hr=>h a w hr
theorem rj.keep (ks kos:List Nat) (hs:s.keep ks kos = s') (h:rj P E n F ops l s' Q):rj P E n F ops l s Q:=fun a w hr=>h a w (hs ▸ hr.keep ks kos)
theorem rj.cons (hf:F = Fence.wide ∨ ∃ l,F = rnd l) (hg:o.guard = none) (h1:bD P E n o s s') (h2:rj P E n F ops l s' Q) (hd:py o = true:=by rfl):rj P E n F ops (o :: l) s Q:=by
 intro a w hr
 unfold wpLI
 have:Region.wanted o (yielded ops a.tmps) = true:=by simp [Region.wanted,hg]
 simp only [this,if_true]
 exact wm hf hd (fun a w h=>h) (h1 a w hr _ _ fun a' w' hr'=>h2 a' w' hr')
theorem rj.opt (k:Nat) {z:BV} (hk:lk s.slots k = some (.b z)) (h:rj P E n F ops l ⟨(k,.opt true z) :: del k s.slots,s.own⟩ Q):rj P E n F ops l s Q:=by
 rintro a w ⟨h1,hn,hh,ρ,hw,hs⟩
 refine h a w ⟨h1,hn,hh,ρ,hw,fun j x hx=>?_⟩
 rcases List.mem_cons.1 hx with e | hx
 ·obtain ⟨rfl,rfl⟩:=Prod.mk.inj e
  obtain ⟨v,hv,hr⟩:=hs _ _ (bn hk)
  exact ⟨v,hv,fun _=>hr,fun e=>by simp at e⟩
 ·exact hs j x (cV hx).1
theorem R.fresh {h:PH} {ρ:RM} {w:World} {slots:List (Nat × SV)} {a:Act} {m:Nat} (tb:gy TB h w) (hag:pB h w) (hd:a.defers = []) (hn:a.tmps.size = m) (hs:bM h ρ slots a.tmps):R (⟨w,h,ρ,tb⟩:Env TB) ⟨m,[],[],[]⟩ ⟨slots,[]⟩ a w :=
 ⟨hd,hn,h,ρ,WR.sh (n:=⟨0,bj [],aH [],[]⟩) rfl rfl (pG tb hag fun k c hk=>by simp at hk),hs⟩
end
section
variable {P:Program} {TB:b5} {E:Env TB} {n:Sh} {s:St} {dst:Option Nat} {t ty yt:TypeId} {pos:String} {after:Array Edge} {g:Option (Nat × Bool)} {x y c:Operand}
end
section
variable {P:Program} {t:TypeId}
end
end Go.Sk
namespace Go.Sk
set_option linter.unusedSimpArgs false
set_option linter.unusedVariables false
open Go Go.BigFrame
section
variable {P:Program} {TB:b5} {E:Env TB} {n:Sh} {s:St} {ops:Array Oper} {l:List Oper} {Q:dN} {cd:Code}
end
end Go.Sk
namespace Go.Sk
set_option linter.unusedSimpArgs false
set_option linter.unusedVariables false
open Go Go.BigFrame
section
variable {P:Program} {TB:b5} {E:Env TB} {n:Sh} {s:St} {dst:Option Nat} {ty:TypeId} {pos:String} {after:Array Edge} {g:Option (Nat × Bool)} {x y:Operand}
end
end Go.Sk
namespace Go.Sk
set_option linter.unusedSimpArgs false
set_option linter.unusedVariables false
open Go Go.BigFrame
theorem bl.unapp {α β:Type} {r:α → β → Prop}:∀ {xs xs':List α} {bs:List β},bl r (xs ++ xs') bs → ∃ b1 b2,bs = b1 ++ b2 ∧ bl r xs b1 ∧ bl r xs' b2
 | [],_,bs,h=>⟨[],bs,rfl,.nil,h⟩
 | a :: l,_,_,.cons h t=>by
  obtain ⟨b1,b2,rfl,h1,h2⟩:=bl.unapp (xs:=l) t
  exact ⟨_ :: b1,b2,rfl,.cons h h1,h2⟩
theorem flat1 {size:Nat}:∀ ess:List (List (List CP)),(ess.map fun es=>[CP.sl size es]).flatten = ess.map fun es=>CP.sl size es
 | []=>rfl
 | a :: l=>by simp only [List.map_cons,List.flatten_cons,flat1 l]; rfl
theorem tS {h:PH}:∀ {us:List Value},(∀ u ∈ us,u.oneCell' = true) → aS h (us.map fun u=>[CP.raw u]).flatten us
 | [],_=>.nil
 | u :: us,h1=>.cons ⟨rfl,h1 u List.mem_cons_self⟩ (tS fun x hx=>h1 x (List.mem_cons_of_mem _ hx))
theorem wh {h:PH}:∀ {us xs:List Value},aS h (us.map fun u=>[CP.raw u]).flatten xs → xs = us
 | [],_,.nil=>rfl
 | u :: us,_,.cons h1 t=>by rw [h1.1,wh t]
section
variable {P:Program} {TB:b5} {E:Env TB} {n:Sh} {s:St} {dst:Option Nat} {t ty yt:TypeId} {pos:String} {after:Array Edge} {g:Option (Nat × Bool)} {x y c:Operand} {Q:dN} {cd:Code} {ops:Array Oper} {l:List Oper}
variable {own:List (Nat × OC)} {h:PH} {ρ:RM} {w:World} {k kp i size bytes:Nat} {T e:TypeId} {hole:Option Nat} {ess:List (List (List CP))} {us:List Value} {v:Value}
theorem nz.len (x:nz h v w T e size hole ess us):us.length = ess.length:=by have:=x.out.1; omega
theorem nz.at (x:nz h v w T e size hole ess us) {i:Nat} {u:Value} (hi:us[i]? = some u):∃ es,ess[i]? = some es:=by
 have h4:i < us.length:=(List.getElem?_eq_some_iff.1 hi).1
 exact ⟨_,List.getElem?_eq_getElem (by rw [← x.len]; exact h4)⟩
theorem nz.cu (x:nz h v w T e size hole ess us) {b:Nat}:(OC.rr T e size hole ess).cu v w b ↔ bf v = some b ∨ ∃ (i:Nat) (u:Value),us[i]? = some u ∧ some i ≠ hole ∧ bf u = some b:=or_congr Iff.rfl x.inner
theorem nz.lt (x:nz h v w T e size hole ess us) {i b:Nat} {u:Value} (h1:us[i]? = some u) (h2:some i ≠ hole) (h3:bf u = some b):b < w.heap.size:=by
 obtain ⟨es,hes⟩:=x.at h1
 obtain ⟨xs,h6,_⟩:=(x.rows i u es h1 hes h2).row
 exact pf h6 h3
theorem wW (hz:0 < size):tM h w e size (.slice none 0 0) []:=⟨fun ps hps=>by simp at hps,[],⟨by simp,.inl ⟨rfl,rfl⟩⟩,.nil⟩
theorem R.rk {a:Act} (hr:R E n s a w) {i k size:Nat} {T e:TypeId} (hi:s.get i = some (.b (.one .nil))) (hz:0 < size) (hfx:n.fix.contains k = false) (hnu:dx k s.own = true):R E n ⟨(i,.b (.row k)) :: del i (bT k s.slots),ins k (.rr T e size none []) s.own⟩ a w:=by
 obtain ⟨h1,h2,h,ρ,hw,hs⟩:=hr
 have hok:nz h (.slice none 0 0) w T e size none [] []:=⟨hz,⟨rfl,.inl ⟨rfl,rfl⟩⟩,by simp,by simp,by simp,by simp⟩
 refine ⟨h1,h2,h,kM ρ k (.slice none 0 0),hw.sm (w':=w) k (.slice none 0 0) (.rr T e size none []) none (fun b e=>by simp at e) (Nat.le_refl _) rfl rfl (fun _ _ _=>rfl) ⟨[],hok⟩ (fun b hb=>by
  rcases hok.cu.1 hb with h1 | ⟨i,u,h1,_,h3⟩
  ·simp [bf] at h1
  ·simp at h1) (.inr fun e=>by simp at hfx; exact hfx e) (.inr hnu),?_⟩
 intro j z hz'
 cases List.mem_cons.1 hz' with
 | inl e=>
  obtain ⟨rfl,rfl⟩:=Prod.mk.inj e
  obtain ⟨u,hu,hrel⟩:=hs _ _ (bn (show lk s.slots _ = some _ from hi))
  exact ⟨u,hu,by
   have:u = .slice none 0 0:=hrel.1
   show u = kM ρ k _ k
   rw [bC,this]⟩
 | inr e=>exact hs.bT k _ j z (cV e).1
theorem rZ (hw:WR E n own h ρ w) {zs:List CP} {e2:TypeId} (ht:jJ P t e 1 bytes zs) (hk:lk own k = some (.rr e e2 size none ess)) (hsrc:Src w v h 1 [[.nil]])
  (hb:(ess.length + 1) * bytes ≤ 140737488355328) (hm:ess.length + 1 ≤ maxLen) :
  ∃ v' w',(Builtin.append_ #[t,t] ty #[ρ k,v]).run P w = .ok v' w' ∧ w.heap.size ≤ w'.heap.size ∧ w'.os = w.os ∧ w'.output = w.output ∧ (∀ b,b < w.heap.size → some b ≠ bf (ρ k) → w'.heap[b]? = w.heap[b]?) ∧
   (OC.rr e e2 size none (ess ++ [[]])).ok h ρ v' w' ∧ (∀ b,(OC.rr e e2 size none (ess ++ [[]])).cu v' w' b → (∃ c,(k,c) ∈ own ∧ c.cu (ρ k) w b) ∨ w.heap.size ≤ b):=by
 obtain ⟨us,x⟩:=(hw.owned k _ (bn hk)).1
 have hlen:=x.len
 have hok0:(OC.row e 1 (us.map fun u=>[CP.raw u])).ok h ρ (ρ k) w:=⟨fun ps hps=>by obtain ⟨u,_,rfl⟩:=List.mem_map.1 hps; rfl,by decide,us,by rw [List.length_map,hlen]; exact x.out,tS x.one⟩
 obtain ⟨v',w',hrun,h1,h2,h3,h4,⟨_,_,xs,ho,hr⟩,h6⟩:=pY (ty:=ty) ht hok0 rfl hsrc (by simpa [hlen] using hb) (by simpa [hlen] using hm)
 rw [List.flatten_append] at hr
 obtain ⟨b1,b2,rfl,hr1,hr2⟩:=hr.unapp
 cases wh hr1
 obtain ⟨u0,rfl,hu0⟩:∃ u0,b2 = [u0] ∧ u0 = Value.slice none 0 0:=by
  cases hr2 with
  | cons a b=>cases b; exact ⟨_,rfl,a.1⟩
 subst hu0
 have hsm:∀ i u b,us[i]? = some u → bf u = some b → w'.heap[b]? = w.heap[b]?:=fun i u b hi hb=>h4 b (x.lt hi (by simp) hb) fun e=>x.self i u b hi (by simp) hb e.symm
 have hget:∀ i u,(us ++ [Value.slice none 0 0])[i]? = some u → (us[i]? = some u ∧ i < us.length) ∨ (u = .slice none 0 0 ∧ i = us.length):=fun i u hi=>by
  rw [List.getElem?_append] at hi
  split at hi
  ·next hlt=>exact .inl ⟨hi,hlt⟩
  ·next hge=>
   have:i - us.length = 0:=by
    have:=(List.getElem?_eq_some_iff.1 hi).1
    simp at this; omega
   rw [this] at hi
   simp at hi
   exact .inr ⟨hi.symm,by omega⟩
 have hok:nz h v' w' e e2 size none (ess ++ [[]]) (us ++ [.slice none 0 0]):=by
  refine ⟨x.pos,by simpa [hlen] using ho,fun u hm=>?_,fun i u es hi hes hn=>?_,fun i j u u' b hi hj _ _ hij hb hb'=>?_,fun i u b hi _ hb hb'=>?_⟩
  ·rcases List.mem_append.1 hm with hm | hm
   ·exact x.one u hm
   ·cases List.mem_singleton.1 hm; rfl
  ·rcases hget i u hi with ⟨hi,hlt⟩ | ⟨rfl,rfl⟩
   ·rw [List.getElem?_append_left (by omega)] at hes
    exact (x.rows i u es hi hes hn).congr fun b hb=>hsm i u b hi hb
   ·rw [hlen,List.getElem?_append_right (Nat.le_refl _)] at hes
    simp at hes
    subst hes
    exact wW x.pos
  ·rcases hget i u hi with ⟨hi,_⟩ | ⟨rfl,_⟩
   ·rcases hget j u' hj with ⟨hj,_⟩ | ⟨rfl,_⟩
    ·exact x.sep i j u u' b hi hj (by simp) (by simp) hij hb hb'
    ·simp [bf] at hb'
   ·simp [bf] at hb
  ·rcases hget i u hi with ⟨hi,_⟩ | ⟨rfl,_⟩
   ·rcases h6 b hb' with h7 | h7
    ·exact x.self i u b hi (by simp) hb h7
    ·have:=x.lt hi (by simp) hb; omega
   ·simp [bf] at hb
 refine ⟨v',w',hrun,h1,h2,h3,h4,⟨_,hok⟩,fun b hb=>?_⟩
 rcases hok.cu.1 hb with h7 | ⟨i,u,hi,_,h8⟩
 ·rcases h6 b h7 with h7 | h7
  ·exact .inl ⟨_,bn hk,.inl h7⟩
  ·exact .inr h7
 ·rcases hget i u hi with ⟨hi,_⟩ | ⟨rfl,_⟩
  ·exact .inl ⟨_,bn hk,x.cu.2 (.inr ⟨i,u,hi,by simp,h8⟩)⟩
  ·simp [bf] at h8
theorem bD.makeF {o:Oper} {k:Nat} {c':OC} {res:SV} (H:∀ (a:Act) (w:World) (h:PH) (ρ:RM),WR E n s.own h ρ w → bM h ρ s.slots a.tmps →
      ∃ v' vk w' row,(execOp a.eval o).run P w = .ok (.value v') w' ∧ (∀ b,row = some b → ∃ c,(k,c) ∈ s.own ∧ c.cu (ρ k) w b) ∧ w.heap.size ≤ w'.heap.size ∧ w'.os = w.os ∧ w'.output = w.output ∧
        (∀ b,b < w.heap.size → some b ≠ row → w'.heap[b]? = w.heap[b]?) ∧ c'.ok h (kM ρ k vk) vk w' ∧ (∀ b,c'.cu vk w' b → (∃ c,(k,c) ∈ s.own ∧ c.cu (ρ k) w b) ∨ w.heap.size ≤ b) ∧ res.rel h (kM ρ k vk) v') (hfx:n.fix.contains k = false) (hnu:dx k s.own = true:=by rfl) :
    bD P E n o s ((⟨bT k s.slots,ins k c' s.own⟩:St).put n o.dst res):=by
  intro a w ⟨hdf,hn,h,ρ,hw,hs⟩ next Q hnext
  obtain ⟨v',vk,w',row,hv,h1,h2,h3,h4,h5,h6,h7,h8⟩:=H a w h ρ hw hs
  unfold Oper.wp
  rw [hv]
  exact hnext _ _ (R.put (s:=⟨bT k s.slots,ins k c' s.own⟩) hdf hn (hw.sm k vk c' row h1 h2 h3 h4 h5 h6 h7 (.inr fun e=>by simp at hfx; exact hfx e) (.inr hnu)) (hs.bT k vk) h8)
theorem rU {j:Nat} {zs:List CP} {e2:TypeId} {ess':List (List (List CP))} (ht:jJ P t e 1 bytes zs) (hb:(ess.length + 1) * bytes ≤ 140737488355328) (hm:ess.length + 1 ≤ 9223372036854775807)
  (hx:s.ev x = some (.b (.row k))) (hk:lk s.own k = some (.rr e e2 size none ess)) (hy:s.ev y = some (.b (.row j))) (hj:lk s.own j = some (.row e 1 [[.nil]])) (he:ess ++ [[]] = ess') (hfx:n.fix.contains k = false) (hnu:dx k s.own = true:=by rfl) :
  bD P E n ⟨dst,.call ⟨.builtin .append,#[x,y],#[t,t]⟩,ty,pos,after,g⟩ s ((⟨bT k s.slots,ins k (.rr e e2 size none ess') s.own⟩:St).put n dst (.b (.row k))) :=
 bD.makeF (hfx:=hfx) (hnu:=hnu) (o:=⟨dst,.call ⟨.builtin .append,#[x,y],#[t,t]⟩,ty,pos,after,g⟩) fun ac w h ρ hw hs=>by
  have hv:ac.eval x = ρ k:=(ba hs hx:BV.rel h ρ (.row k) _)
  have hu:ac.eval y = ρ j:=(ba hs hy:BV.rel h ρ (.row j) _)
  obtain ⟨v',w',hrun,h1,h2,h3,h4,h5,h6⟩:=rZ (ty:=ty) hw ht hk (Src.xL hw hj) hb (by rw [fO]; exact hm)
  subst he
  refine ⟨v',v',w',bf (ρ k),?_,fun b hb=>⟨_,bn hk,.inl hb⟩,h1,h2,h3,h4,h5,h6,(bC _ _ _).symm⟩
  rw [execOp_builtin,builtin_append]
  simp [hv,hu,hrun]
theorem w5 (ht:P.underlying t = some (.slice yt)) (hx:s.ev x = some (.b (.row k))) (hk:lk s.own k = some (.rr T e size hole ess)) :
  bD P E n ⟨dst,.call ⟨.builtin .len,#[x],#[t]⟩,ty,pos,after,g⟩ s (s.put n dst (I (ess.length:Int))) :=
 bD.val (o:=⟨dst,.call ⟨.builtin .len,#[x],#[t]⟩,ty,pos,after,g⟩) fun ac w h ρ hw hs=>by
  have hv:ac.eval x = ρ k:=(ba hs hx:BV.rel h ρ (.row k) _)
  obtain ⟨us,x⟩:=(hw.owned k _ (bn hk)).1
  rw [execOp_builtin,builtin_len]
  rcases x.out.2 with ⟨h1,h2⟩ | ⟨b,cap,cur,h1,_,_,h2,h3,_⟩
  ·exact ⟨.int .i64 0,by simp [hv,h1,Builtin.len_,run_underlying ht,goInt],by rw [h2]; rfl,by rw [h2]; exact oe (m:=0) (Nat.zero_le _)⟩
  ·exact ⟨.int .i64 ess.length,by simp [hv,h1,Builtin.len_,run_underlying ht,goInt],rfl,oe (by omega)⟩
theorem qM {bytes o:Nat} {zs:List CP} {kd:IntKind} {i:Int} {e2:TypeId} (ht:jJ P t e 1 bytes zs) (h0:0 ≤ i) (h1:i < ess.length)
  (hx:s.ev x = some (.b (.row k))) (hk:lk s.own k = some (.rr T e2 size hole ess)) (hy:s.ev y = some (.b (.one (.int kd i)))) (ho:i.toNat = o) :
  bD P E n ⟨dst,.indexAddr t x y,ty,pos,after,g⟩ s (s.put n dst (.b (.eQ k o))) :=
 bD.val (o:=⟨dst,.indexAddr t x y,ty,pos,after,g⟩) fun ac w h ρ hw hs=>by
  have hv:ac.eval x = ρ k:=(ba hs hx:BV.rel h ρ (.row k) _)
  obtain ⟨us,q⟩:=(hw.owned k _ (bn hk)).1
  rcases q.out.2 with ⟨_,he⟩ | ⟨b,cap,cur,hρ,_,hb,hc1,hc2,hc3,hc4⟩
  ·omega
  ·refine ⟨.pointer (some ⟨b,i.toNat * 1,none⟩),?_,b,ess.length,cap,hρ,by rw [← ho,Nat.mul_one]⟩
   simp only [execOp,hv,hρ,(eV hs hy).1]
   simp [lj ht w b 0 ess.length cap kd i h0 (by omega)]
theorem yk (hw:WR E n own h ρ w) {es:List (List CP)} {u:Value} (hk:lk own k = some (.rr T e size none ess)) (x:nz h (ρ k) w T e size none ess us) (hu:us[i]? = some u) (hi:ess[i]? = some es) (hne:kp ≠ k) (hfx:kp ∉ n.fix) (hnu:dx kp own = true) :
  WR E n (ins kp (.row e size es) (ins k (.rr T e size (some i) ess) own)) h (kM ρ kp u) w:=by
 have hkm:=bn hk
 obtain ⟨e1,e2,e3⟩:=hw.owned k _ hkm
 have hro:=x.rows i u es hu hi (by simp)
 have x':nz h (ρ k) w T e size (some i) ess us:=⟨x.pos,x.out,x.one,fun j u' es' h1 h2 _=>x.rows j u' es' h1 h2 (by simp),fun a b u1 u2 bb h1 h2 _ _=>x.sep a b u1 u2 bb h1 h2 (by simp) (by simp),fun j u' b h1 _=>x.self j u' b h1 (by simp)⟩
 have fu:∀ b,bf u = some b → (OC.rr T e size none ess).cu (ρ k) w b:=fun b hb=>x.cu.2 (.inr ⟨i,u,hu,by simp,hb⟩)
 have fk:∀ b,(OC.rr T e size (some i) ess).cu (ρ k) w b → (OC.rr T e size none ess).cu (ρ k) w b:=fun b hb=>by
  rcases x'.cu.1 hb with h1 | ⟨j,u',h1,_,h3⟩
  ·exact .inl h1
  ·exact x.cu.2 (.inr ⟨j,u',h1,by simp,h3⟩)
 have sep:∀ b,bf u = some b → ¬ (OC.rr T e size (some i) ess).cu (ρ k) w b:=fun b hb hf=>by
  rcases x'.cu.1 hf with h1 | ⟨j,u',h1,h2,h3⟩
  ·exact x.self i u b hu (by simp) hb h1
  ·exact x.sep j i u' u b h1 hu (by simp) (by simp) (fun e=>h2 (by rw [e])) h3 hb
 have old:∀ j z,(j,z) ∈ ins kp (OC.row e size es) (ins k (OC.rr T e size (some i) ess) own) → (j = kp ∧ z = .row e size es) ∨ (j = k ∧ z = .rr T e size (some i) ess) ∨ (j ≠ kp ∧ j ≠ k ∧ (j,z) ∈ own):=fun j z hj=>by
  rcases gf hj with ⟨rfl,rfl⟩ | ⟨h1,hj⟩
  ·exact .inl ⟨rfl,rfl⟩
  ·rcases gf hj with ⟨rfl,rfl⟩ | ⟨h2,hj⟩
   ·exact .inr (.inl ⟨rfl,rfl⟩)
   ·exact .inr (.inr ⟨h1,h2,hj⟩)
 have hρk:kM ρ kp u k = ρ k:=bx _ _ fun e=>hne e.symm
 refine ⟨hw.agree,hw.le,hw.fresh,hw.size,hw.same,fun j hj=>?_,hw.os,hw.out,hw.nl,fun j z hj=>?_⟩
 ·rw [bx _ _ fun e=>hfx (by rw [← e]; exact hj)]; exact hw.fixed j hj
 ·rcases old j z hj with ⟨rfl,rfl⟩ | ⟨rfl,rfl⟩ | ⟨j1,j2,j3⟩
  ·rw [bC]
   obtain ⟨xs,hx1,hx2⟩:=hro.row
   refine ⟨⟨hro.uni,x.pos,xs,hx1,hx2⟩,fun b hb=>e2 b (fu b (hb.k7 rfl)),fun j' z' hj' hne' b hb hb'=>?_⟩
   have hb:=hb.k7 rfl
   rcases old j' z' hj' with ⟨rfl,rfl⟩ | ⟨rfl,rfl⟩ | ⟨i1,i2,i3⟩
   ·exact hne' rfl
   ·rw [hρk] at hb'; exact sep b hb hb'
   ·rw [bx _ _ i1] at hb'; exact e3 j' z' i3 i2 b (fu b hb) hb'
  ·rw [hρk]
   refine ⟨⟨us,x'⟩,fun b hb=>e2 b (fk b hb),fun j' z' hj' hne' b hb hb'=>?_⟩
   rcases old j' z' hj' with ⟨rfl,rfl⟩ | ⟨rfl,rfl⟩ | ⟨i1,i2,i3⟩
   ·rw [bC] at hb'; exact sep b (hb'.k7 rfl) hb
   ·exact hne' rfl
   ·rw [bx _ _ i1] at hb'; exact e3 j' z' i3 i2 b (fk b hb) hb'
  ·rw [bx _ _ j1]
   obtain ⟨g1,g2,g3⟩:=hw.owned j z j3
   refine ⟨g1.tE fun q hq=>bx _ _ fun e=>?_,g2,fun j' z' hj' hne' b hb hb'=>?_⟩
   ·subst e; rw [jM hnu j3] at hq; simp at hq
   rcases old j' z' hj' with ⟨rfl,rfl⟩ | ⟨rfl,rfl⟩ | ⟨i1,i2,i3⟩
   ·rw [bC] at hb'; exact g3 k _ hkm (fun e=>j2 e.symm) b hb (fu b (hb'.k7 rfl))
   ·rw [hρk] at hb'; exact g3 _ _ hkm (fun e=>j2 e.symm) b hb (fk b hb')
   ·rw [bx _ _ i1] at hb'; exact g3 j' z' i3 hne' b hb hb'
theorem vA {o:Nat} {es:List (List CP)} (kp:Nat) (ht:fq P t) (hx:s.ev x = some (.b (.eQ k o))) (hk:lk s.own k = some (.rr T e size none ess)) (ho:o = i) (hi:ess[i]? = some es)
  (hne:kp ≠ k) (hfx:n.fix.contains kp = false) (hnu:dx kp s.own = true) :
  bD P E n ⟨dst,.load t x,ty,pos,after,g⟩ s ((⟨bT kp s.slots,ins kp (.row e size es) (ins k (.rr T e size (some i) ess) s.own)⟩:St).put n dst (.b (.row kp))):=by
 intro a w ⟨hdf,hn,h,ρ,hw,hs⟩ next Q hnext
 subst ho
 obtain ⟨b,mm,q,he,hv⟩:=(ba hs hx:BV.rel h ρ (.eQ k o) _)
 obtain ⟨us,z⟩:=(hw.owned k _ (bn hk)).1
 have hlt:o < us.length:=by rw [z.len]; exact (List.getElem?_eq_some_iff.1 hi).1
 have hlen:=z.len
 obtain ⟨u,hu⟩:∃ u,us[o]? = some u:=⟨_,List.getElem?_eq_getElem hlt⟩
 rcases z.out.2 with ⟨h1,_⟩ | ⟨b',cap,cur,h1,_,h2,h3,h4,h5,h6⟩
 ·rw [h1] at he; cases he
 rw [h1] at he
 cases he
 have hcell:w.cell? ⟨b,o,none⟩ = some u:=by
  rw [gF h2]
  rw [← h6,List.getElem?_take,if_pos (by omega)] at hu
  simpa using hu
 have hrun:=iD ht (w:=w) hcell
 have hrun':(execOp a.eval ⟨dst,.load t x,ty,pos,after,g⟩).run P w = .ok (.value u) w:=by
  simp only [execOp,hv,Instr.loadAt,Instr.sureAddr]
  simp [hrun]
 unfold Oper.wp
 rw [hrun']
 refine hnext _ _ (R.put (s:=⟨bT kp s.slots,ins kp (.row e size es) (ins k (.rr T e size (some o) ess) s.own)⟩) hdf hn (yk hw hk z hu hi hne (fun e=>by simp at hfx; exact hfx e) hnu) (hs.bT kp u) ?_)
 exact (bC _ _ _).symm
theorem wr_rrIn (hw:WR E n own h ρ w) {es:List (List CP)} (hkm:(k,OC.rr T e size (some i) ess) ∈ own) (x:nz h (ρ k) w T e size (some i) ess us) (hu:us[i]? = some (ρ kp)) (hpm:(kp,OC.row e size es) ∈ own) (hne:kp ≠ k) :
  WR E n (del kp (ins k (.rr T e size none (ess.set i es)) own)) h ρ w:=by
 obtain ⟨e1,e2,e3⟩:=hw.owned k _ hkm
 obtain ⟨p1,p2,p3⟩:=hw.owned kp _ hpm
 obtain ⟨q1,q2,xs,q3,q4⟩:=p1
 have hinner:∀ j u b,us[j]? = some u → j ≠ i → bf u = some b → (OC.rr T e size (some i) ess).cu (ρ k) w b:=fun j u b h1 h2 h3=>x.cu.2 (.inr ⟨j,u,h1,by simpa using h2,h3⟩)
 have x':nz h (ρ k) w T e size none (ess.set i es) us:=by
  refine ⟨x.pos,by rw [List.length_set]; exact x.out,x.one,fun j u es' h1 h2 _=>?_,fun a b u1 u2 bb h1 h2 _ _ hab hb hb'=>?_,fun j u b h1 _ hb hb'=>?_⟩
  ·by_cases e0:j = i
   ·subst e0
    rw [hu] at h1
    cases h1
    rw [List.getElem?_set] at h2
    simp only [if_true] at h2
    split at h2
    ·cases h2; exact ⟨q1,xs,q3,q4⟩
    ·cases h2
   ·rw [List.getElem?_set_ne (fun e=>e0 e.symm)] at h2
    exact x.rows j u es' h1 h2 (by simpa using e0)
  ·by_cases a0:a = i
   ·subst a0
    rw [hu] at h1; cases h1
    exact e3 kp _ hpm hne bb (hinner b u2 bb h2 (fun e=>hab e.symm) hb') (.inl hb)
   ·by_cases b0:b = i
    ·subst b0
     rw [hu] at h2; cases h2
     exact e3 kp _ hpm hne bb (hinner a u1 bb h1 a0 hb) (.inl hb')
    ·exact x.sep a b u1 u2 bb h1 h2 (by simpa using a0) (by simpa using b0) hab hb hb'
  ·by_cases j0:j = i
   ·subst j0
    rw [hu] at h1; cases h1
    exact e3 kp _ hpm hne b (.inl hb') (.inl hb)
   ·exact x.self j u b h1 (by simpa using j0) hb hb'
 have fk:∀ b,(OC.rr T e size none (ess.set i es)).cu (ρ k) w b → (OC.rr T e size (some i) ess).cu (ρ k) w b ∨ bf (ρ kp) = some b:=fun b hb=>by
  rcases x'.cu.1 hb with h1 | ⟨j,u',h1,_,h3⟩
  ·exact .inl (.inl h1)
  ·by_cases j0:j = i
   ·subst j0
    rw [hu] at h1; cases h1
    exact .inr h3
   ·exact .inl (hinner j u' b h1 j0 h3)
 have old:∀ j z,(j,z) ∈ del kp (ins k (OC.rr T e size none (ess.set i es)) own) → (j = k ∧ z = .rr T e size none (ess.set i es)) ∨ (j ≠ kp ∧ j ≠ k ∧ (j,z) ∈ own):=fun j z hj=>by
  obtain ⟨h1,h2⟩:=cV hj
  rcases gf h1 with ⟨rfl,rfl⟩ | ⟨h3,hj⟩
  ·exact .inl ⟨rfl,rfl⟩
  ·exact .inr ⟨h2,h3,hj⟩
 refine ⟨hw.agree,hw.le,hw.fresh,hw.size,hw.same,hw.fixed,hw.os,hw.out,hw.nl,fun j z hj=>?_⟩
 rcases old j z hj with ⟨rfl,rfl⟩ | ⟨j1,j2,j3⟩
 ·refine ⟨⟨us,x'⟩,fun b hb=>(fk b hb).elim (e2 b) fun hb=>p2 b (.inl hb),fun j' z' hj' hne' b hb hb'=>?_⟩
  rcases old j' z' hj' with ⟨rfl,rfl⟩ | ⟨i1,i2,i3⟩
  ·exact hne' rfl
  ·rcases fk b hb with hb | hb
   ·exact e3 j' z' i3 i2 b hb hb'
   ·exact p3 j' z' i3 i1 b (.inl hb) hb'
 ·obtain ⟨g1,g2,g3⟩:=hw.owned j z j3
  refine ⟨g1,g2,fun j' z' hj' hne' b hb hb'=>?_⟩
  rcases old j' z' hj' with ⟨rfl,rfl⟩ | ⟨i1,i2,i3⟩
  ·rcases fk b hb' with hb' | hb'
   ·exact g3 _ _ hkm (fun e=>j2 e.symm) b hb hb'
   ·exact g3 _ _ hpm (fun e=>j1 e.symm) b hb (.inl hb')
  ·exact g3 j' z' i3 hne' b hb hb'
theorem uo {o:Nat} {es:List (List CP)} {ess':List (List (List CP))} (ht:fq P t) (hx:s.ev x = some (.b (.eQ k o))) (hk:lk s.own k = some (.rr T e size (some i) ess)) (hy:s.ev y = some (.b (.row kp))) (hkp:lk s.own kp = some (.row e size es))
  (ho:o = i) (hi:i < ess.length) (hne:kp ≠ k) (he:ess.set i es = ess') :
  bD P E n ⟨none,.store t x y,ty,pos,after,g⟩ s ⟨bT kp s.slots,del kp (ins k (.rr T e size none ess') s.own)⟩:=by
 intro a w ⟨hdf,hn,h,ρ,hw,hs⟩ next Q hnext
 subst ho
 subst he
 obtain ⟨b,mm,q,hρ,hv⟩:=(ba hs hx:BV.rel h ρ (.eQ k o) _)
 have hy':a.eval y = ρ kp:=(ba hs hy:BV.rel h ρ (.row kp) _)
 obtain ⟨us,z⟩:=(hw.owned k _ (bn hk)).1
 have hlen:=z.len
 have hone:(ρ kp).oneCell' = true:=by
  obtain ⟨_,_,hf⟩:=iP hw hkp
  rcases hf with ⟨h1,_⟩ | ⟨b,cap,cur,h1,_⟩ <;> rw [h1] <;> rfl
 obtain ⟨i',hi',hm⟩:=ht.size
 rcases z.out.2 with ⟨h1,_⟩ | ⟨b',cap,cur,h1,_,h2,h3,h4,h5,h6⟩
 ·rw [h1] at hρ; cases hρ
 rw [h1] at hρ
 cases hρ
 have hcells:(ρ kp).cells = #[ρ kp]:=by cases hq:ρ kp <;> first | rfl | (rw [hq] at hone; simp [Value.oneCell'] at hone)
 have hrun:=iC (P:=P) (t:=t) hi' hm h2 (v:=ρ kp) (o:=o) (by rw [hcells]; rfl) (by omega) (by rw [hcells]; simpa using hone)
 have hrun':(execOp a.eval ⟨none,.store t x y,ty,pos,after,g⟩).run P w = .ok .skip (w.setRow b (Sk.b7 cur.toList o (ρ kp).cells.toList).toArray):=by
  simp only [execOp,hv,hy',Instr.storeAt,Instr.sureAddr]
  simp [hrun]
 have hset:Sk.b7 cur.toList o (ρ kp).cells.toList = cur.toList.set o (ρ kp):=by
  rw [hcells]
  have:o < cur.toList.length:=by simp; omega
  simp only [Sk.b7,List.length_cons,List.length_nil]
  rw [List.set_eq_take_append_cons_drop,if_pos this]
  simp
 rw [hset] at hrun'
 unfold Oper.wp
 rw [hrun']
 have hz':nz h (ρ k) (w.setRow b (cur.toList.set o (ρ kp)).toArray) T e size (some o) ess (us.set o (ρ kp)):=by
  refine ⟨z.pos,⟨by rw [List.length_set]; exact z.out.1,.inr ⟨b,q,_,h1,Nat.zero_le _,setRow_heap _ _ _ _ _ _ h2,h3,h4,by simp [h5],?_⟩⟩,fun u hu=>?_,fun j u es' g1 g2 g3=>?_,fun c d u1 u2 bb g1 g2 g3 g4=>?_,fun j u bb g1 g2=>?_⟩
  ·rw [← h6]
   show (cur.toList.set o (ρ kp)).take _ = _
   rw [List.take_set]
  ·rcases List.mem_or_eq_of_mem_set hu with hu | rfl
   ·exact z.one u hu
   ·exact hone
  ·have j0:o ≠ j:=fun e=>g3 (by rw [e])
   rw [List.getElem?_set_ne j0] at g1
   exact (z.rows j u es' g1 g2 g3).congr fun bb hb=>setRow_other _ _ _ _ fun e=>z.self j u bb g1 g3 hb (by rw [h1,← e]; rfl)
  ·have c0:o ≠ c:=fun e=>g3 (by rw [e])
   have d0:o ≠ d:=fun e=>g4 (by rw [e])
   rw [List.getElem?_set_ne c0] at g1
   rw [List.getElem?_set_ne d0] at g2
   exact z.sep c d u1 u2 bb g1 g2 g3 g4
  ·have j0:o ≠ j:=fun e=>g2 (by rw [e])
   rw [List.getElem?_set_ne j0] at g1
   exact z.self j u bb g1 g2
 have hst:=hw.sm (w':=w.setRow b (cur.toList.set o (ρ kp)).toArray) k (ρ k) (.rr T e size (some o) ess) (some b) (fun b' e=>by cases e; exact ⟨_,bn hk,.inl (by rw [h1]; rfl)⟩) (by simp) rfl rfl
  (fun b' _ hne=>setRow_other _ _ _ _ (fun e=>hne (by rw [e]))) ⟨_,hz'⟩ (fun bb hb=>.inl ⟨_,bn hk,by
   rcases hz'.cu.1 hb with g1 | ⟨j,u,g1,g2,g3⟩
   ·exact .inl g1
   ·have j0:o ≠ j:=fun e=>g2 (by rw [e])
    rw [List.getElem?_set_ne j0] at g1
    exact z.cu.2 (.inr ⟨j,u,g1,g2,g3⟩)⟩) (.inl rfl) (.inl rfl)
 rw [gE] at hst
 have hself:∀ {c:OC} {l:List (Nat × OC)},(k,c) ∈ ins k c l:=fun {c l}=>by
  induction l with
  | nil=>simp [ins]
  | cons p l ih=>
   obtain ⟨j,d⟩:=p
   unfold ins
   split
   ·exact List.mem_cons_self
   ·exact List.mem_cons_of_mem _ ih
 have hin:=(wr_rrIn (kp:=kp) hst hself hz' (by rw [List.getElem?_set,if_pos rfl,if_pos (by omega)]) (lh (bn hkp) hne) hne).sub (own':=del kp (ins k (.rr T e size none (ess.set o es)) s.own)) fun p hp=>by
  obtain ⟨j,z⟩:=p
  obtain ⟨g1,g2⟩:=cV hp
  refine fW ?_ g2
  rcases gf g1 with ⟨rfl,rfl⟩ | ⟨g3,g4⟩
  ·exact hself
  ·exact lh (lh g4 g3) g3
 exact hnext _ _ ⟨hdf,hn,h,ρ,hin,fun j q hq=>hs j q (fm hq).1⟩
theorem R.iA {a:Act} (hr:R E n s a w) (hk:lk s.own k = some (.rr T e size none ess)):R E n ⟨iO k (.sl 1 (ess.map fun es=>[.sl size es])) s.slots,jf k (.sl 1 (ess.map fun es=>[.sl size es])) (del k s.own)⟩ a w:=by
 obtain ⟨h1,h2,h,ρ,hw,hs⟩:=hr
 obtain ⟨e1,e2,e3⟩:=hw.owned k _ (bn hk)
 obtain ⟨us,x⟩:=id e1
 classical
 obtain ⟨h',hh'⟩:∃ h':PH,∀ b o,h' b o = if (OC.rr T e size none ess).cu (ρ k) w b then look w b o else h b o:=⟨fun b o=>if (OC.rr T e size none ess).cu (ρ k) w b then look w b o else h b o,fun _ _=>rfl⟩
 have hle:h.le h':=fun b o v hv=>by
  rw [hh']
  split
  ·next hf=>rw [(e2 b hf).2 o] at hv; cases hv
  ·exact hv
 have hrows:∀ (i:Nat) u es,us[i]? = some u → ess[i]? = some es → (CP.sl size es).rel h' u:=fun i u es hu hes=>by
  obtain ⟨q1,xs,q2,q3⟩:=x.rows i u es hu hes (by simp)
  refine ⟨q1,x.pos,?_⟩
  rcases q2.2 with ⟨rfl,h4⟩ | ⟨g,cap,cur,rfl,_,h5,h6,h7,h8,h9⟩
  ·exact .inl ⟨rfl,List.length_eq_zero_iff.1 h4⟩
  ·refine .inr (.inl ⟨g,0,cap,rfl,h6,h7,fun j c hc=>?_⟩)
   obtain ⟨z,hz,hcz⟩:=q3.get j c hc
   refine ⟨z,?_,c.mono hle hcz⟩
   rw [hh',if_pos (x.cu.2 (.inr ⟨i,_,hu,by simp,rfl⟩)),Nat.zero_add]
   refine lg h5 ?_ (c.one hcz)
   rw [← h9,List.getElem?_take] at hz
   split at hz
   ·simpa using hz
   ·cases hz
 have hsl:(CP.sl 1 (ess.map fun es=>[.sl size es])).rel h' (ρ k):=by
  refine ⟨fun ps hps=>by obtain ⟨_,_,rfl⟩:=List.mem_map.1 hps; rfl,by decide,?_⟩
  have hlen:=x.len
  rcases x.out.2 with ⟨hv,h4⟩ | ⟨g,cap,cur,hv,_,h5,h6,h7,h8,h9⟩
  ·exact .inl ⟨hv,by rw [List.length_eq_zero_iff.1 h4]; rfl⟩
  ·refine .inr (.inl ⟨g,0,cap,by rw [List.length_map]; exact hv,by simpa using h6,h7,fun j c hc=>?_⟩)
   have hfl:(ess.map fun es=>[CP.sl size es]).flatten = ess.map fun es=>CP.sl size es:=by
    exact flat1 ess
   rw [hfl,List.getElem?_map] at hc
   obtain ⟨es,hes,rfl⟩:=Option.map_eq_some_iff.1 hc
   have hj:j < us.length:=by rw [hlen]; exact (List.getElem?_eq_some_iff.1 hes).1
   obtain ⟨u,hu⟩:∃ u,us[j]? = some u:=⟨_,List.getElem?_eq_getElem hj⟩
   refine ⟨u,?_,hrows j u es hu hes⟩
   rw [hh',if_pos (x.cu.2 (.inl (by rw [hv]; rfl))),Nat.zero_add]
   refine lg h5 ?_ (x.one u (List.mem_of_getElem? hu))
   rw [← h9,List.getElem?_take] at hu
   split at hu
   ·simpa using hu
   ·cases hu
 refine ⟨h1,h2,h',ρ,WR.jf (k:=k) (p:=.sl 1 (ess.map fun es=>[.sl size es])) (own:=del k s.own) ⟨fun b o v hv=>?_,PH.le_trans hw.le hle,fun b hb hnl=>?_,hw.size,hw.same,hw.fixed,hw.os,hw.out,hw.nl,fun j c hj=>?_⟩ hsl,?_⟩
 ·rw [hh'] at hv
  split at hv
  ·exact hv
  ·exact hw.agree b o v hv
 ·rw [← hw.fresh b hb hnl]
  funext o
  rw [hh',if_neg fun hf=>by
   rcases (e2 b hf).1 with h | h
   ·omega
   ·exact hnl h]
 ·obtain ⟨hj1,hj2⟩:=cV hj
  obtain ⟨g1,g2,g3⟩:=hw.owned j c hj1
  refine ⟨g1.mono hle,fun b hb=>⟨(g2 b hb).1,fun o=>?_⟩,fun j' c' hj'=>g3 j' c' (cV hj').1⟩
  rw [hh',if_neg fun hf=>g3 k _ (bn hk) (fun e=>hj2 e.symm) b hb hf]
  exact (g2 b hb).2 o
 ·intro j q hq
  obtain ⟨y,hy,rfl⟩:=ox hq
  obtain ⟨v,hv,hrel⟩:=hs j y hy
  exact ⟨v,hv,SV.gl hsl (SV.mono hle (fun _ _=>rfl) hrel)⟩
end
end Go.Sk
namespace Go.Sk
set_option linter.unusedSimpArgs false
set_option linter.unusedVariables false
open Go Go.BigFrame
theorem bl.xH {α β:Type} {r:α → β → Prop}:∀ {xs:List α} {bs bs':List β},bl r xs (bs ++ bs') → ∃ a1 a2,xs = a1 ++ a2 ∧ bl r a1 bs ∧ bl r a2 bs'
 | xs,[],_,h=>⟨[],xs,rfl,.nil,h⟩
 | _ :: _,_ :: _,_,.cons h t=>by
  obtain ⟨a1,a2,rfl,h1,h2⟩:=bl.xH t
  exact ⟨_ :: a1,a2,rfl,.cons h h1,h2⟩
section
variable {P:Program} {TB:b5} {E:Env TB} {n:Sh} {s:St} {dst:Option Nat} {t ty yt:TypeId} {pos:String} {after:Array Edge} {g:Option (Nat × Bool)} {x y c:Operand} {Q:dN} {cd:Code} {ops:Array Oper} {l:List Oper} {o:Oper}
variable {own:List (Nat × OC)} {h:PH} {ρ:RM} {w:World} {k kp i size bytes:Nat} {T e:TypeId} {hole:Option Nat} {ess:List (List (List CP))} {us:List Value} {v:Value}
variable {j ki:Nat} {m rest:cZ} {cur:Option (Int × Int)}
theorem ab.rk (i k size:Nat) (T e:TypeId) (hi:s.get i = some (.b (.one .nil))) (hz:0 < size) (hfx:n.fix.contains k = false) (hc:ab P E n cd ⟨(i,.b (.row k)) :: del i (bT k s.slots),ins k (.rr T e size none []) s.own⟩ Q) (hnu:dx k s.own = true:=by rfl):ab P E n cd s Q:=fun a w hr=>hc a w (hr.rk hi hz hfx hnu)
theorem af.rk (i k size:Nat) (T e:TypeId) (hi:s.get i = some (.b (.one .nil))) (hz:0 < size) (hfx:n.fix.contains k = false) (hc:af P E n ops l ⟨(i,.b (.row k)) :: del i (bT k s.slots),ins k (.rr T e size none []) s.own⟩ Q) (hnu:dx k s.own = true:=by rfl):af P E n ops l s Q:=fun a w hr=>hc a w (hr.rk hi hz hfx hnu)
theorem Fin.rk {ex:Exit} (i k size:Nat) (T e:TypeId) (hi:s.get i = some (.b (.one .nil))) (hz:0 < size) (hfx:n.fix.contains k = false) (hc:Fin E n ex ⟨(i,.b (.row k)) :: del i (bT k s.slots),ins k (.rr T e size none []) s.own⟩ Q) (hnu:dx k s.own = true:=by rfl):Fin E n ex s Q:=fun a w hr=>hc a w (hr.rk hi hz hfx hnu)
theorem ab.iA (k:Nat) (hk:lk s.own k = some (.rr T e size none ess)) (hc:ab P E n cd ⟨iO k (.sl 1 (ess.map fun es=>[.sl size es])) s.slots,jf k (.sl 1 (ess.map fun es=>[.sl size es])) (del k s.own)⟩ Q):ab P E n cd s Q:=fun a w hr=>hc a w (hr.iA hk)
theorem af.iA (k:Nat) (hk:lk s.own k = some (.rr T e size none ess)) (hc:af P E n ops l ⟨iO k (.sl 1 (ess.map fun es=>[.sl size es])) s.slots,jf k (.sl 1 (ess.map fun es=>[.sl size es])) (del k s.own)⟩ Q):af P E n ops l s Q:=fun a w hr=>hc a w (hr.iA hk)
theorem Fin.iA {ex:Exit} (k:Nat) (hk:lk s.own k = some (.rr T e size none ess)) (hc:Fin E n ex ⟨iO k (.sl 1 (ess.map fun es=>[.sl size es])) s.slots,jf k (.sl 1 (ess.map fun es=>[.sl size es])) (del k s.own)⟩ Q):Fin E n ex s Q:=fun a w hr=>hc a w (hr.iA hk)
def xcv:List BV → Option (List CV)
 | []=>some []
 | z :: l=>(BV.cv z).bind fun q=>(xcv l).map fun r=>q :: r
theorem vZ:∀ {zs:List BV} {cs:List CV} {vs:List Value},xcv zs = some cs → bl (fun (x:BV) u=>x.rel h ρ u ∧ u.oneCell' = true) zs vs → bl (fun (x:CV) u=>x.rel h ρ u ∧ u.oneCell' = true) cs vs
 | [],cs,_,hc,.nil=>by cases hc; exact .nil
 | z :: zs,cs,_,hc,.cons h1 t=>by
  unfold xcv at hc
  simp only [Option.bind_eq_some_iff,Option.map_eq_some_iff] at hc
  obtain ⟨q,hq,r,hr,rfl⟩:=hc
  exact .cons ⟨BV.yh hq h1.1,h1.2⟩ (vZ hr t)
theorem bD.res {s1:St} {d:Option Nat} {z z':SV} (h1:bD P E n o s (s1.put n d z)) (hz:∀ h ρ v,z.rel h ρ v → z'.rel h ρ v):bD P E n o s (s1.put n d z'):=fun a w hr next Q hn=>h1 a w hr next Q fun a' w' hr'=>hn a' w' (by
 cases d with
 | none=>exact hr'
 | some d=>
  simp only [St.put,St.set] at hr' ⊢
  split at hr'
  ·next hd=>
   rw [if_pos hd]
   obtain ⟨h1,h2,h,ρ,hw,hs⟩:=hr'
   refine ⟨h1,h2,h,ρ,hw,fun j q hq=>?_⟩
   cases List.mem_cons.1 hq with
   | inl e=>
    obtain ⟨rfl,rfl⟩:=Prod.mk.inj e
    obtain ⟨u,hu,hrel⟩:=hs j z List.mem_cons_self
    exact ⟨u,hu,hz _ _ _ hrel⟩
   | inr e=>exact hs j q (List.mem_cons_of_mem _ e)
  ·next hd=>rw [if_neg hd]; exact hr')
theorem bD.tF {s1:St} {d:Option Nat} {zs:List BV} {cs:List CV} (h1:bD P E n o s (s1.put n d (.gw zs))) (hc:xcv zs = some cs):bD P E n o s (s1.put n d (.b (.xa cs))) :=
 h1.res fun h ρ v ⟨vs,e,ha⟩=>⟨vs,e,vZ hc ha⟩
theorem qp {T k:Nat} {cs:List CV} {zs:List BV} (hx:s.ev x = some (.b (.xa cs))) (hz:cs.map CV.bv = zs) (hfx:n.fix.contains k = false) (hself:(zs.any (·.bU k)) = false) (hnu:dx k s.own = true:=by rfl):bD P E n ⟨dst,.box T x,ty,pos,after,g⟩ s ((⟨bT k s.slots,ins k (.aW T zs) s.own⟩:St).put n dst (.b (.ptr k 0))) :=
 bD.make (hfx:=hfx) (hnu:=hnu) (o:=⟨dst,.box T x,ty,pos,after,g⟩) fun ac w h ρ hw hs=>by
  obtain ⟨vs,hv,hr⟩:=(ba hs hx:BV.rel h ρ (.xa cs) _)
  have hr:=CV.bvX hr
  rw [hz] at hr
  refine ⟨.pointer (some ⟨w.heap.size,0,none⟩),.pointer (some ⟨w.heap.size,0,none⟩),w.alloc (.cells vs T),none,?_,fun b e=>by simp at e,by simp,rfl,rfl,fun b hb _=>heap_alloc_old w _ hb,OC.ok.tE (c:=.aW T zs) ⟨w.heap.size,vs,rfl,heap_alloc_new w _,hr⟩ fun j hj=>bx _ _ fun e=>by subst e; simp only [OC.bU] at hj; rw [hself] at hj; simp at hj,
   fun b e=>by simp [bf] at e; subst e; exact .inr (Nat.le_refl _),w.heap.size,bC _ _ _,rfl⟩
  simp only [execOp,hv]
  simp [Instr.box,newVar,newRow,Value.cells]
theorem qK {k off m:Nat} {T:TypeId} {cs cs':List BV} {z:SV} {qs:List BV} (ht:j9 P t m) (hx:s.ev x = some (.b (.ptr k off))) (hk:lk s.own k = some (.aW T cs)) (hy:s.ev y = some z) (hz:z.oY s.own = some qs) (hq:qs.length = m) (hlt:off + m ≤ cs.length) (hps:Sk.b7 cs off qs = cs') :
  bD P E n ⟨none,.store t x y,ty,pos,after,g⟩ s ⟨s.slots,ins k (.aW T cs') s.own⟩ :=
 bD.store (o:=⟨none,.store t x y,ty,pos,after,g⟩) rfl fun ac w h ρ hw hs=>by
  obtain ⟨b,he,hv⟩:=(ba hs hx:BV.rel h ρ (.ptr k off) _)
  obtain ⟨b',cur,hb1,hb2,hb3⟩:=jO hw hk
  have:b' = b:=by rw [hb1] at he; simpa using he
  subst this
  have hcr:=SV.rF hw hz (ba hs hy)
  obtain ⟨i,hi,hm⟩:=ht.size
  have hlen:=hb3.length
  have hlen2:=hcr.length
  have hone:∀ u ∈ (ac.eval y).cells.toList,u.oneCell' = true:=fun u hu=>by
   obtain ⟨q,_,hq⟩:=bl.sK hcr hu
   exact hq.2
  have hrun:=iC (P:=P) (t:=t) hi hm hb2 (v:=ac.eval y) (o:=off) (by simp at hlen2; omega) (by simp at hlen; omega) hone
  refine ⟨_,by simp only [execOp,hv,Instr.storeAt,Instr.sureAddr]; simp [hrun]; rfl,?_⟩
  refine hw.setX hk hb1 hb2 ?_
  rw [← hps]
  exact bl.b7 hb3 hcr off
theorem ym (hw:WR E n own h ρ w) (hk:lk own j = some (.mq m)) {b clk:Nat} {ms:Array MapEntry} (hρ:ρ j = .map (some b)) (hb:w.heap[b]? = some (.map ms clk)) (he:rl m ms.toList) (ho:l7 clk ms.toList) (hne:ki ≠ j) (hfx:ki ∉ n.fix) (hnu:dx ki own = true) :
  WR E n (ins ki (.ly j m m none) (del j own)) h (kM ρ ki (.pointer (some ⟨w.heap.size,0,none⟩))) (w.alloc (.mapIter (some b) clk #[] clk)):=by
 have hjm:=bn hk
 obtain ⟨e1,e2,e3⟩:=hw.owned j _ hjm
 have hold:∀ b,b < w.heap.size → (w.alloc (.mapIter (some b) clk #[] clk)).heap[b]? = w.heap[b]?:=fun b hb=>heap_alloc_old w _ hb
 have holdg:∀ b0 b,b < w.heap.size → (w.alloc (.mapIter (some b0) clk #[] clk)).heap[b]? = w.heap[b]?:=fun b0 b hb=>heap_alloc_old w _ hb
 have hnew:(w.alloc (.mapIter (some b) clk #[] clk)).heap[w.heap.size]? = some (.mapIter (some b) clk #[] clk):=heap_alloc_new w _
 have hρj:kM ρ ki (.pointer (some ⟨w.heap.size,0,none⟩)) j = ρ j:=bx _ _ fun e=>hne e.symm
 have hblt:b < w.heap.size:=e1.lt (.inl (by rw [hρ]; rfl))
 have hx:xF (kM ρ ki (.pointer (some ⟨w.heap.size,0,none⟩))) (.pointer (some ⟨w.heap.size,0,none⟩)) (w.alloc (.mapIter (some b) clk #[] clk)) j m m none b ms clk w.heap.size #[] :=
  ⟨rfl,hnew,hρj.trans hρ,by rw [holdg b b hblt]; exact hb,he,ho,by
   have:(ms.toList.filter fun e=>!(#[]:Array Nat).contains e.born) = ms.toList:=List.filter_eq_self.2 fun e _=>by simp
   rw [this]; exact he,fun p hp=>by cases hp⟩
 have hfoot:∀ b',(OC.ly j m m none).cu (.pointer (some ⟨w.heap.size,0,none⟩)) (w.alloc (.mapIter (some b) clk #[] clk)) b' → b' = w.heap.size ∨ b' = b:=fun b' hf=>by
  rcases hf with h1 | ⟨D,s1,s2,s3,h1,h2⟩
  ·cases h1; exact .inl rfl
  ·cases h1
   rw [hnew] at h2
   cases h2
   exact .inr rfl
 have hnone:∀ o,h w.heap.size o = none:=fun o=>by
  cases e:h w.heap.size o with
  | none=>rfl
  | some u=>have:=jb (hw.agree _ o u e); omega
 have old:∀ q z,(q,z) ∈ ins ki (OC.ly j m m none) (del j own) → (q = ki ∧ z = .ly j m m none) ∨ (q ≠ ki ∧ q ≠ j ∧ (q,z) ∈ own):=fun q z hq=>by
  rcases gf hq with ⟨rfl,rfl⟩ | ⟨h1,hq⟩
  ·exact .inl ⟨rfl,rfl⟩
  ·exact .inr ⟨h1,(cV hq).2,(cV hq).1⟩
 have hft:∀ q z,(q,z) ∈ own → ∀ b',z.cu (ρ q) (w.alloc (.mapIter (some b) clk #[] clk)) b' → z.cu (ρ q) w b':=fun q z hq b'=>OC.cu.congr fun b2 hb2=>holdg b b2 ((hw.owned q z hq).1.lt (.inl hb2))
 refine ⟨fun b' o u hu=>?_,hw.le,hw.fresh,Nat.le_trans hw.size (by simp),fun b' hb' hl=>?_,fun q hq=>?_,hw.os,hw.out,hw.nl,fun q z hq=>?_⟩
 ·have:=hw.agree b' o u hu
  rw [na (holdg b b' (jb this))]; exact this
 ·rw [holdg b b' (Nat.lt_of_lt_of_le hb' hw.size)]; exact hw.same b' hb' hl
 ·rw [bx _ _ fun e=>hfx (by rw [← e]; exact hq)]; exact hw.fixed q hq
 ·rcases old q z hq with ⟨rfl,rfl⟩ | ⟨q1,q2,q3⟩
  ·rw [bC]
   refine ⟨⟨b,ms,clk,w.heap.size,#[],hx⟩,fun b' hb'=>?_,fun q' z' hq' hne' b' hb' hb2=>?_⟩
   ·rcases hfoot b' hb' with e0 | e0
    ·rw [e0]; exact ⟨.inl hw.size,hnone⟩
    ·exact e2 b' (.inl (by rw [hρ,e0]; rfl))
   ·rcases old q' z' hq' with ⟨rfl,rfl⟩ | ⟨i1,i2,i3⟩
    ·exact hne' rfl
    ·rw [bx _ _ i1] at hb2
     have hb3:=hft q' z' i3 b' hb2
     rcases hfoot b' hb' with e0 | e0
     ·have:=(hw.owned q' z' i3).1.lt hb3; omega
     ·exact e3 q' z' i3 i2 b' (.inl (by rw [hρ,e0]; rfl)) hb3
  ·rw [bx _ _ q1]
   obtain ⟨g1,g2,g3⟩:=hw.owned q z q3
   refine ⟨(g1.congr fun b' hb'=>holdg b b' (g1.lt hb')).tE fun r hr=>bx _ _ fun e=>?_,fun b' hb'=>g2 b' (hft q z q3 b' hb'),fun q' z' hq' hne' b' hb' hb2=>?_⟩
   ·subst e; rw [jM hnu q3] at hr; simp at hr
   have hb3:=hft q z q3 b' hb'
   rcases old q' z' hq' with ⟨rfl,rfl⟩ | ⟨i1,i2,i3⟩
   ·rw [bC] at hb2
    rcases hfoot b' hb2 with e0 | e0
    ·have:=g1.lt hb3; omega
    ·exact g3 j _ hjm (fun e=>q2 e.symm) b' hb3 (.inl (by rw [hρ,e0]; rfl))
   ·rw [bx _ _ i1] at hb2
    exact g3 q' z' i3 hne' b' hb3 (hft q' z' i3 b' hb2)
theorem tz {kt et:TypeId} (ki:Nat) (hu:P.underlying t = some (.map kt et)) (hx:s.ev x = some (.b (.row j))) (hk:lk s.own j = some (.mq m)) (hne:ki ≠ j) (hfx:n.fix.contains ki = false) (hnu:dx ki s.own = true) :
  bD P E n ⟨dst,.range t x,ty,pos,after,g⟩ s ((⟨bT ki s.slots,ins ki (.ly j m m none) (del j s.own)⟩:St).put n dst (.b (.ptr ki 0))):=by
 intro a w ⟨hdf,hn,h,ρ,hw,hs⟩ next Q hnext
 have hv:a.eval x = ρ j:=(ba hs hx:BV.rel h ρ (.row j) _)
 obtain ⟨b,ms,clk,h1,h2,h3,h4⟩:=(hw.owned j _ (bn hk)).1
 have hrun:(execOp a.eval ⟨dst,.range t x,ty,pos,after,g⟩).run P w = .ok (.value (.pointer (some ⟨w.heap.size,0,none⟩))) (w.alloc (.mapIter (some b) clk #[] clk)):=by
  simp only [execOp,hv,h1]
  simp [Instr.range,run_underlying hu,newObj,getObj,Sem.run,Result.andThen,h2]
 unfold Oper.wp
 rw [hrun]
 exact hnext _ _ (R.put (s:=⟨bT ki s.slots,ins ki (.ly j m m none) (del j s.own)⟩) hdf hn (ym hw hk h1 h2 h3 h4 hne (fun e=>by simp at hfx; exact hfx e) hnu) (hs.bT ki _) ⟨w.heap.size,bC _ _ _,rfl⟩)
theorem filter_push {ms:List MapEntry} {seen:Array Nat} {x:Nat}:(ms.filter fun e=>!(seen.push x).contains e.born) = (ms.filter fun e=>!seen.contains e.born).filter fun e=>decide (e.born ≠ x):=by
 rw [List.filter_filter]
 refine List.filter_congr fun e _=>?_
 by_cases h:e.born = x
 ·subst h; simp
 ·simp [h]
theorem vI {l1 l2:List MapEntry} {e:MapEntry} (hn:((l1 ++ e :: l2).map (·.born)).Nodup):((l1 ++ e :: l2).filter fun x=>decide (x.born ≠ e.born)) = l1 ++ l2:=by
 rw [List.map_append,List.map_cons,List.nodup_append] at hn
 obtain ⟨h1,h2,h3⟩:=hn
 rw [List.nodup_cons] at h2
 rw [List.filter_append,List.filter_cons]
 have e1:l1.filter (fun x=>decide (x.born ≠ e.born)) = l1:=List.filter_eq_self.2 fun x hx=>decide_eq_true fun he=>h3 x.born (List.mem_map.2 ⟨x,hx,rfl⟩) e.born List.mem_cons_self he
 have e2:l2.filter (fun x=>decide (x.born ≠ e.born)) = l2:=List.filter_eq_self.2 fun x hx=>decide_eq_true fun he=>h2.1 (List.mem_map.2 ⟨x,hx,he⟩)
 rw [e1,e2]
 simp
theorem af.nextM (hx:s.ev x = some (.b (.ptr ki 0))) (hk:lk s.own ki = some (.ly j m rest cur)) (hnj:(ki == j) = false)
  (h1:rest = [] → af P E n ops l (s.put n dst (.gR [.one (.bool false)])) Q)
  (h2:∀ p r1 r2,rest = r1 ++ p :: r2 → af P E n ops l ((⟨s.slots,ins ki (.ly j m (r1 ++ r2) (some p)) s.own⟩:St).put n dst (.gR [.one (.bool true),.one (.i p.1),.one (.i p.2)])) Q) :
  af P E n ops (⟨dst,.next x false,ty,pos,after,none⟩ :: l) s Q:=by
 intro a w hr
 unfold xq
 have:∀ tmps,Region.wanted ⟨dst,.next x false,ty,pos,after,none⟩ (yielded ops tmps) = true:=fun _=>rfl
 simp only [this,if_true]
 obtain ⟨hdf,hn,h,ρ,hw,hs⟩:=id hr
 obtain ⟨D',he,hv⟩:=(ba hs hx:BV.rel h ρ (.ptr ki 0) _)
 obtain ⟨b,ms,clk,D,seen,q⟩:=(hw.owned ki _ (bn hk)).1
 have:D' = D:=by have:=q.ptr; rw [this] at he; cases he; rfl
 subst this
 rcases run_next_at (P:=P) w ty D' b clk clk seen ms clk q.it q.obj (fun e he=>q.born.1 e he) (Nat.le_refl _) with ⟨g1,g2⟩ | ⟨e,hm,w1,hw1,g2⟩
 ·have hr0:rest = []:=by
   have hlen:=q.left.length
   have:(ms.toList.filter fun e=>!seen.contains e.born).length = 0:=by
    have:(leftOf ms seen).toList = ms.toList.filter fun e=>!seen.contains e.born:=by unfold leftOf; rw [Array.toList_filter]
    rw [← this]
    simpa using g1
   rw [this] at hlen
   exact List.length_eq_zero_iff.1 hlen
  unfold Oper.wp
  have hrun:(execOp a.eval ⟨dst,.next x false,ty,pos,after,none⟩).run P w = .ok (.value (.tuple #[.bool false])) w:=by
   simp only [execOp,hv]
   rw [Sem.run_bind,g2]
   rfl
  rw [hrun]
  exact h1 hr0 _ _ (R.put (s:=s) hdf hn hw hs ⟨_,rfl,.cons rfl .nil⟩)
 ·have hm':e ∈ ms.toList.filter fun e=>!seen.contains e.born:=by
   have:(leftOf ms seen).toList = ms.toList.filter fun e=>!seen.contains e.born:=by unfold leftOf; rw [Array.toList_filter]
   rw [← this]; exact hm
  obtain ⟨l1,l2,hl⟩:=List.append_of_mem hm'
  have hleft:=q.left
  rw [hl] at hleft
  obtain ⟨r1,r2',rfl,hr1,hr2⟩:=bl.xH hleft
  cases hr2 with
  | @cons p _ r2 _ hp hr2=>
  have hnd:((ms.toList.filter fun e=>!seen.contains e.born).map (·.born)).Nodup:=List.Pairwise.sublist (List.Sublist.map _ List.filter_sublist) q.born.2
  have hem:e ∈ ms.toList:=(List.mem_filter.1 hm').1
  have hheap:w1.heap = w.heap:=by rcases hw1 with rfl | rfl <;> rfl
  have hos:w1.os = w.os:=by rcases hw1 with rfl | rfl <;> rfl
  have hout:w1.output = w.output:=by rcases hw1 with rfl | rfl <;> rfl
  have hDlt:D' < w.heap.size:=by
   rcases Nat.lt_or_ge D' w.heap.size with h | h
   ·exact h
   ·have:=q.it; simp [Array.getElem?_eq_none h] at this
  have hsame:∀ b',b' ≠ D' → (ChangeMaps.setBlock w1 D' (.mapIter (some b) clk (seen.push e.born) clk)).heap[b']? = w.heap[b']?:=fun b' hb'=>by
   show (w1.heap.setIfInBounds D' _)[b']? = _
   rw [hheap,Array.getElem?_setIfInBounds_ne (fun e=>hb' e.symm)]
  have hnew:(ChangeMaps.setBlock w1 D' (.mapIter (some b) clk (seen.push e.born) clk)).heap[D']? = some (.mapIter (some b) clk (seen.push e.born) clk):=by
   show (w1.heap.setIfInBounds D' _)[D']? = _
   rw [hheap]; simp [hDlt]
  have hbD:b ≠ D':=fun e=>by have h1:=q.obj; have h2:=q.it; rw [e,h2] at h1; cases h1
  have hq:xF ρ (ρ ki) (ChangeMaps.setBlock w1 D' (.mapIter (some b) clk (seen.push e.born) clk)) j m (r1 ++ r2) (some p) b ms clk D' (seen.push e.born):=by
   refine ⟨q.ptr,hnew,q.map,by rw [hsame b hbD]; exact q.obj,q.ents,q.born,?_,fun p' hp'=>?_⟩
   ·rw [filter_push,hl,vI (hl ▸ hnd)]
    exact bl.append hr1 hr2
   ·cases hp'
    exact ⟨e,seen,hem,rfl,hp.1,hp.2⟩
  have hupd:kM ρ ki (ρ ki) = ρ:=gE ρ ki
  have hst:=hw.sm (w':=ChangeMaps.setBlock w1 D' (.mapIter (some b) clk (seen.push e.born) clk)) ki (ρ ki) (.ly j m (r1 ++ r2) (some p)) (some D') (fun b' eb=>by cases eb; exact ⟨_,bn hk,.inl (by rw [q.ptr]; rfl)⟩)
   (by show _ ≤ (w1.heap.setIfInBounds D' _).size; rw [hheap]; simp) hos hout (fun b' _ hne=>hsame b' fun eb=>hne (by rw [eb])) (by rw [hupd]; exact ⟨b,ms,clk,D',_,hq⟩)
   (fun b' hb'=>.inl ⟨_,bn hk,by
    rcases hb' with h1 | ⟨D2,s1,s2,s3,h1,h2⟩
    ·exact .inl h1
    ·rw [q.ptr] at h1
     cases h1
     rw [hnew] at h2
     cases h2
     exact .inr ⟨D',clk,seen,clk,by rw [q.ptr]; rfl,q.it⟩⟩) (.inl rfl) (.inl rfl)
  rw [hupd] at hst
  have hrun:(execOp a.eval ⟨dst,.next x false,ty,pos,after,none⟩).run P w = .ok (.value (.tuple #[.bool true,e.key,e.val])) (ChangeMaps.setBlock w1 D' (.mapIter (some b) clk (seen.push e.born) clk)):=by
   simp only [execOp,hv]
   rw [Sem.run_bind,g2]
   rfl
  unfold Oper.wp
  rw [hrun]
  exact h2 p r1 r2 rfl _ _ (R.put (s:=⟨s.slots,ins ki (.ly j m (r1 ++ r2) (some p)) s.own⟩) hdf hn hst hs ⟨_,rfl,.cons rfl (.cons hp.1 (.cons hp.2 .nil))⟩)
theorem tB {p:Int × Int} (hx:s.ev x = some (.b (.ptr ki 0))) (hk:lk s.own ki = some (.ly j m rest (some p))) :
  bD P E n ⟨dst,.entry x,ty,pos,after,g⟩ s (s.put n dst (.gR [.one (.i p.1),.one (.i p.2)])) :=
 bD.val (o:=⟨dst,.entry x,ty,pos,after,g⟩) fun ac w h ρ hw hs=>by
  obtain ⟨D',he,hv⟩:=(ba hs hx:BV.rel h ρ (.ptr ki 0) _)
  obtain ⟨b,ms,clk,D,seen,q⟩:=(hw.owned ki _ (bn hk)).1
  have:D' = D:=by have:=q.ptr; rw [this] at he; cases he; rfl
  subst this
  obtain ⟨e,seen',h1,rfl,h3,h4⟩:=q.at_ p rfl
  have hrun:=run_entry_at (P:=P) w D' b clk seen' ms clk e q.it q.obj h1 q.born.2
  refine ⟨.tuple #[e.key,e.val],?_,_,rfl,.cons h3 (.cons h4 .nil)⟩
  simp only [execOp,hv]
  rw [Sem.run_bind,hrun]
  rfl
theorem R.uQ {a:Act} (hr:R E n s a w) (hk:lk s.own ki = some (.ly j m rest cur)):R E n ⟨s.slots,ins ki (.ly j m rest none) s.own⟩ a w:=by
 obtain ⟨h1,h2,h,ρ,hw,hs⟩:=hr
 obtain ⟨b,ms,clk,D,seen,q⟩:=(hw.owned ki _ (bn hk)).1
 have hst:=hw.sm (w':=w) ki (ρ ki) (.ly j m rest none) none (fun b e=>by cases e) (Nat.le_refl _) rfl rfl (fun _ _ _=>rfl) (by rw [gE]; exact ⟨b,ms,clk,D,seen,q.ptr,q.it,q.map,q.obj,q.ents,q.born,q.left,fun p hp=>by cases hp⟩)
  (fun b' hb'=>.inl ⟨_,bn hk,hb'⟩) (.inl rfl) (.inl rfl)
 rw [gE] at hst
 exact ⟨h1,h2,h,ρ,hst,hs⟩
theorem Fin.uQ {ex:Exit} (ki:Nat) (hk:lk s.own ki = some (.ly j m rest cur)) (hc:Fin E n ex ⟨s.slots,ins ki (.ly j m rest none) s.own⟩ Q):Fin E n ex s Q:=fun a w hr=>hc a w (hr.uQ hk)
theorem R.uR {a:Act} (hr:R E n s a w) (hk:lk s.own ki = some (.ly j m rest cur)) (hne:(ki == j) = false):R E n ⟨bT ki s.slots,ins j (.mq m) (del ki s.own)⟩ a w:=by
 obtain ⟨h1,h2,h,ρ,hw,hs⟩:=hr
 have hkm:=bn hk
 obtain ⟨e1,e2,e3⟩:=hw.owned ki _ hkm
 obtain ⟨b,ms,clk,D,seen,q⟩:=id e1
 have hnk:ki ≠ j:=by simpa using hne
 have hfj:∀ b',(OC.mq m).cu (ρ j) w b' → (OC.ly j m rest cur).cu (ρ ki) w b':=fun b' hb'=>by
  have:=hb'.k7 rfl
  rw [q.map] at this
  cases this
  exact .inr ⟨D,clk,seen,clk,by rw [q.ptr]; rfl,q.it⟩
 have old:∀ r z,(r,z) ∈ ins j (OC.mq m) (del ki s.own) → (r = j ∧ z = .mq m) ∨ (r ≠ j ∧ r ≠ ki ∧ (r,z) ∈ s.own):=fun r z hq=>by
  rcases gf hq with ⟨rfl,rfl⟩ | ⟨h1,hq⟩
  ·exact .inl ⟨rfl,rfl⟩
  ·exact .inr ⟨h1,(cV hq).2,(cV hq).1⟩
 refine ⟨h1,h2,h,ρ,⟨hw.agree,hw.le,hw.fresh,hw.size,hw.same,hw.fixed,hw.os,hw.out,hw.nl,fun r z hq=>?_⟩,fun r z hz=>hs r z (fm hz).1⟩
 rcases old r z hq with ⟨rfl,rfl⟩ | ⟨q1,q2,q3⟩
 ·refine ⟨⟨b,ms,clk,q.map,q.obj,q.ents,q.born⟩,fun b' hb'=>e2 b' (hfj b' hb'),fun r' z' hq' hne' b' hb' hb2=>?_⟩
  rcases old r' z' hq' with ⟨rfl,rfl⟩ | ⟨i1,i2,i3⟩
  ·exact hne' rfl
  ·exact e3 r' z' i3 i2 b' (hfj b' hb') hb2
 ·obtain ⟨g1,g2,g3⟩:=hw.owned r z q3
  refine ⟨g1,g2,fun r' z' hq' hne' b' hb' hb2=>?_⟩
  rcases old r' z' hq' with ⟨rfl,rfl⟩ | ⟨i1,i2,i3⟩
  ·exact g3 ki _ hkm (fun e=>q2 e.symm) b' hb' (hfj b' hb2)
  ·exact g3 r' z' i3 hne' b' hb' hb2
theorem Fin.uR {ex:Exit} (ki:Nat) (hk:lk s.own ki = some (.ly j m rest cur)) (hne:(ki == j) = false) (hc:Fin E n ex ⟨bT ki s.slots,ins j (.mq m) (del ki s.own)⟩ Q):Fin E n ex s Q:=fun a w hr=>hc a w (hr.uR hk hne)
def s7 (m:cZ):Option (List Int):=if m.length ≤ 1000000000 then some (m.map (·.1)) else none
theorem yE {m:cZ} {ks:List Int} (h:s7 m = some ks):m.length ≤ 1000000000 ∧ ks = m.map (·.1):=by
 unfold s7 at h
 split at h
 ·next hh=>exact ⟨hh,(Option.some.inj h).symm⟩
 ·cases h
end
end Go.Sk
namespace Go.Sk
set_option linter.unusedSimpArgs false
set_option linter.unusedVariables false
open Go
def aj {α:Type} (m:Option α) (Q:α → Prop):Prop:=∃ x,m = some x ∧ Q x
section
variable {α β γ δ ε:Type} {m:Option α} {Q:β → Prop} {P:α → Prop}
theorem aj.some {x:β} (h:Q x):aj (some x) Q:=⟨x,rfl,h⟩
theorem aj.bind {k:α → Option β} (h:aj m P) (h2:∀ x,P x → aj (k x) Q):aj (m.bind k) Q:=by
 obtain ⟨x,rfl,hp⟩:=h
 exact h2 x hp
theorem aj.aC {k:α → Option β} {x:α} (h:m = Option.some x) (h2:aj (k x) Q):aj (m.bind k) Q:=by
 subst h; exact h2
theorem aj.ite {c:Bool} {A B:Option β} (h1:c = true → aj A Q) (h2:c = false → aj B Q):aj (if c = true then A else B) Q:=by
 cases c
 ·exact h2 rfl
 ·exact h1 rfl
theorem aj.nw {c:Bool} {A B:Option β} (h:c = true) (h1:aj A Q):aj (if c = true then A else B) Q:=by rw [if_pos h]; exact h1
theorem aj.iff {c:Bool} {A B:Option β} (h:c = false) (h1:aj B Q):aj (if c = true then A else B) Q:=by rw [h]; exact h1
theorem aj.ln {a:γ} {k:γ → Option β} (h:aj (k a) Q):aj (bu a k) Q:=h
theorem aj.qX {a:γ} {k:γ → Option β} (b:γ) (e:a = b) (h:aj (k b) Q):aj (bu a k) Q:=by subst e; exact h
theorem aj.eq {x:α} (h:aj m (· = x)):m = Option.some x:=by obtain ⟨y,h1,h2⟩:=h; rw [h1,h2]
theorem aj.of {x:α} (h:m = Option.some x):aj m (· = x):=⟨x,h,rfl⟩
theorem aj.mono {P':α → Prop} (h:aj m P) (h2:∀ x,P x → P' x):aj m P':=by obtain ⟨x,h1,h3⟩:=h; exact ⟨x,h1,h2 x h3⟩
theorem aj.idx [Inhabited α] {l:List α} {i:Int} {k:α → Option β} (h0:0 ≤ i) (h1:i < l.length) (h:aj (k (idx l i)) Q):aj ((aV l i).bind k) Q:=by
 rw [iv h0 h1]; exact h
theorem aj.g1 [Inhabited α] {g:Bool} {k:α → Option β} (hg:g = true) (h:aj (m.bind k) Q):aj ((aK g m).bind k) Q:=by subst hg; exact h
theorem aj.g0 [Inhabited α] {g:Bool} {k:α → Option β} (hg:g = false) (h:aj (k default) Q):aj ((aK g m).bind k) Q:=by subst hg; exact h
theorem aj.app {xs ys:List α} {k:List α → Option β} (h0:xs.length + ys.length ≤ 1000000000) (h:aj (k (xs ++ ys)) Q):aj ((eF xs ys).bind k) Q:=by
 rw [ix h0]; exact h
theorem aj.take {xs:List α} {i:Int} {k:List α → Option β} (h0:0 ≤ i) (h1:i ≤ xs.length) (h:aj (k (xs.take i.toNat)) Q):aj ((take? xs i).bind k) Q:=by
 simp only [take?,h0,h1,and_self,if_true]; exact h
theorem aj.drop {xs:List α} {i:Int} {k:List α → Option β} (h0:0 ≤ i) (h1:i ≤ xs.length) (h:aj (k (xs.drop i.toNat)) Q):aj ((sv xs i).bind k) Q:=by
 simp only [sv,h0,h1,and_self,if_true]; exact h
theorem aj.rounds {σ τ:Type} {body:σ → Option (σ ⊕ τ)} {Q:τ → Prop} (n:Nat) (I:Nat → σ → Prop) {s:σ} {F:Nat} (hF:n < F) (h0:I 0 s)
  (step:∀ k s,k ≤ n → I k s → aj (body s) fun o=>(∃ s',o = .inl s' ∧ I (k + 1) s' ∧ k < n) ∨ ∃ t,o = .inr t ∧ Q t):aj (iter F body s) Q:=by
 have key:∀ d F k s,k + d = n → d < F → I k s → aj (iter F body s) Q:=by
  intro d
  induction d with
  | zero=>
   intro F k s hk hF hI
   obtain ⟨F,rfl⟩:∃ f,F = f + 1:=⟨F - 1,by omega⟩
   obtain ⟨o,ho,h⟩:=step k s (by omega) hI
   rw [jk,ho]
   rcases h with ⟨s',rfl,_,hlt⟩ | ⟨t,rfl,hq⟩
   ·omega
   ·exact ⟨t,rfl,hq⟩
  | succ d ih=>
   intro F k s hk hF hI
   obtain ⟨F,rfl⟩:∃ f,F = f + 1:=⟨F - 1,by omega⟩
   obtain ⟨o,ho,h⟩:=step k s (by omega) hI
   rw [jk,ho]
   rcases h with ⟨s',rfl,hI',_⟩ | ⟨t,rfl,hq⟩
   ·exact ih F (k + 1) s' (by omega) (by omega) hI'
   ·exact ⟨t,rfl,hq⟩
 exact key n F 0 s (by omega) hF h0
theorem aj.loop {σ τ:Type} {body:σ → Option (σ ⊕ τ)} {Q:τ → Prop} (I:σ → Prop) (μ:σ → Nat) {s:σ} {F:Nat} (h0:I s) (hF:μ s < F)
  (step:∀ s,I s → aj (body s) fun o=>(∃ s',o = .inl s' ∧ I s' ∧ μ s' < μ s) ∨ ∃ t,o = .inr t ∧ Q t):aj (iter F body s) Q:=by
 refine xe I μ Q (fun s hI=>?_) F s h0 hF
 obtain ⟨o,ho,h⟩:=step s hI
 refine ⟨o,ho,fun s' e=>?_,fun t e=>?_⟩
 ·subst e
  rcases h with ⟨s'',e,h1,h2⟩ | ⟨t,e,_⟩
  ·cases e; exact ⟨h1,h2⟩
  ·cases e
 ·subst e
  rcases h with ⟨s'',e,_⟩ | ⟨t',e,h1⟩
  ·cases e
  ·cases e; exact h1
end
theorem wi64 (z:Int):IntKind.i64.wrap z = (z + 9223372036854775808) % 18446744073709551616 - 9223372036854775808:=by
 simp [IntKind.wrap,IntKind.signed,IntKind.bits]; split <;> omega
theorem oM {z:Int} (h1:-9223372036854775808 ≤ z) (h2:z ≤ 9223372036854775807):IntKind.i64.wrap z = z:=by rw [wi64]; omega
def ds (b:Int) (f:Nat → Int):Nat → Int
 | 0=>0
 | n + 1=>ds b f n + f n * b ^ n
def nd (b z:Int) (i:Nat):Int:=z / b ^ i % b
end Go.Sk
