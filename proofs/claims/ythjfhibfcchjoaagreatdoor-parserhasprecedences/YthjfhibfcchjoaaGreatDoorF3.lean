/- part of the proof: the framework -/
import Derived.Test.YthjfhibfcchjoaaGreatDoorF2
import Derived.Recover
import Derived.LoopN
import Derived.Laws.LoneSync
import Derived.Lib.AppendStr
import Derived.Shelf.Strconv.Itoa3
import Derived.Shelf.Strings.OnBuilder
import Derived.Shelf.Strings.Repeat
import Derived.Shelf.Spec.TrailingZeros
import Derived.Shelf.Strings.Cut
import Derived.Shelf.Strings.Prefix
import Derived.Shelf.LaysM
import Derived.Shelf.Strings.Search1
import Derived.Shelf.Strings.Count
set_option linter.unusedSectionVars false
set_option linter.unusedSimpArgs false
set_option linter.unusedVariables false
open Go.IntKind (i8 i16 i32 i64 u8 u16 u32 u64)
namespace Go.Sk
open Go Go.BigFrame
def CP.never:CP:=⟨fun _ _=>False,fun _ x=>x,fun x=>x.elim⟩
def St.never:St:=⟨[(0,.b (.one .never))],[]⟩
def Aw (P:Program) {TB:aH} (E:Env TB) (n:Sh) (Q:bH) (ops:Array Oper) (o:Oper) (s s':St):Prop :=
 ∀ a w,R E n s a w->∀ (K:Act->World->Prop),(∀ a' w',R E n s' a' w'->K a' w')->if Region.wanted o (yielded ops a.tmps) then o.wp P a w K Q else K (a.put o.dst undef) w
def Av (P:Program) {TB:aH} (E:Env TB) (n:Sh) (Q:bH) (ops:Array Oper):List Oper->St->St->Prop
 | [],s,s'=>s=s'
 | o::r,s,s'=>∃ s1,Aw P E n Q ops o s s1/\Av P E n Q ops r s1 s'
section
variable {P:Program} {TB:aH} {E:Env TB} {n:Sh} {s s' s2:St} {l:List Oper} {L:List Oper} {Q:bH} {o:Oper}
theorem Fin.never {e:Exit}:Fin E n e St.never Q:=fun a w hr=>by
 obtain⟨_,_,h,ρ,_,hs⟩:=hr
 obtain⟨v,_,hf⟩:=hs 0 _ List.mem_cons_self
 exact hf.elim
theorem Aw.of {ops:Array Oper} {o:Oper} (h:cb P E n ops o s s'):Aw P E n Q ops o s s':=fun a w hr K hk=>h a w hr K Q hk
theorem Aw.iE {ops:Array Oper} {f:FuncId} {own_a:List (Nat×OC)} {args:List BV} {xs:Array Operand} {ats:Array TypeId} {pv:Value} {ok:Prop} {dst:Option Nat} {ty:TypeId} {pos:String} {after:Array Edge} (b0:ij P TB f own_a args pv ok) (hf:dM P f) (ha:ig s xs.toList=some args) (hl:gf s.own own_a)
 (hq:ok->Fin E n (.panic (Et pv)) ⟨s.slots,dL own_a s.own⟩ Q):Aw P E n Q ops ⟨dst,.call ⟨.value (.func f),xs,ats⟩,ty,pos,after,none⟩ s St.never:=by
 intro a w hr K hk
 have:Region.wanted ⟨dst,.call ⟨.value (.func f),xs,ats⟩,ty,pos,after,none⟩ (yielded ops a.tmps)=true:=rfl
 simp only[this,if_true]
 exact wO b0 (fun a w h ρ hw hs=>⟨_,q6 hf a w,mY hs ha⟩) hl hr hq
def InvXQ (P:Program) {TB:aH} (E:Env TB) (n:Sh) (Q:bH) (ops:Array Oper) (s:St) (l tl:List Oper) (Fs:List SV) (s2:St) (listed:Array Bool) (a:Act) (w:World):Prop :=
 ((∀ j,l.length<=j->listed.getD j false=false)/\R E n (JI s l Fs listed) a w) ∨
 ∃ k sk,k<tl.length/\(∀ j,j<=l.length+k->listed.getD j false=true)/\(∀ j,l.length+k<j->listed.getD j false=false)/\Av P E n Q ops (tl.drop (k+1)) sk s2/\R E n sk a w
theorem vv.XQ {ops:List Oper} (l tl:List Oper) (k5:l++tl=ops) (Fs:List SV) (ks kos:List Nat) (hok:okX l tl n.n=true) (hst:rH P E n ops.toArray s l Fs 0 l Fs)
 (htl:Av P E n Q ops.toArray tl ⟨(s.slots.filter fun p=>!(km l).contains p.1)++aZ (fun _=>true) 0 l Fs,s.own⟩ s2) (hs:s2.keep ks kos=s') (h:Fin E n .normal s' Q):vv P E n ops.toArray s Q:=by
 subst k5
 simp only[okX,Bool.and_eq_true,List.all_eq_true,List.mem_range] at hok
 obtain⟨⟨⟨c5,hnd⟩,hlt⟩,k6⟩:=hok
 obtain⟨hlen,c6⟩:=vE (Fs:=Fs) hst
 intro a w hr
 have e3:∀ {i:Nat} {o:Oper},(l++tl)[i]?=some o->i<l.length->l[i]?=some o:=fun h hi=>by rwa [List.getElem?_append_left hi] at h
 have hS0:∀ {listed:Array Bool} {a:Act} {w:World},(∀ j,j<l.length->listed.getD j false=true)->R E n (JI s l Fs listed) a w->R E n ⟨(s.slots.filter fun p=>!(km l).contains p.1)++aZ (fun _=>true) 0 l Fs,s.own⟩ a w:=by
  intro listed a w b0 hR
  obtain⟨h1,h2,h,ρ,hw,hs⟩:=hR
  refine⟨h1,h2,h,ρ,hw,fun k x hx=>hs k x ?_⟩
  simp only[JI,List.mem_append] at hx ⊢
  rcases hx with hx|hx
  left
  simp only[List.mem_filter,Bool.not_eq_true',List.contains_eq_mem,decide_eq_false_iff_not] at hx ⊢
  refine⟨hx.1,?_⟩
  cases hh:hit l listed k with
  | false=>rfl
  | true=>
   exfalso
   simp only[hit,List.any_eq_true,List.mem_range,Bool.and_eq_true,beq_iff_eq,Option.bind_eq_some_iff] at hh
   obtain⟨i,hi,_,o',e4,c2⟩:=hh
   exact hx.2 (ns e4 c2)
  right
  rw[bT] at hx ⊢
  obtain⟨j,oj,hj,hd,hF,_⟩:=hx
  exact⟨j,oj,hj,hd,hF,by rw[Nat.zero_add];exact b0 j (List.getElem?_eq_some_iff.1 hj).1⟩
 refine anyG (L:=l++tl) (InvXQ P E n Q (l++tl).toArray s l tl Fs s2) c5 ?_ ?_ _ _ _ _ (by simp) ?_ (by simp) (.inl ⟨fun j hj=>?_,?_⟩)
 
 intro listed a w i o hsz hcl k0 k1 c3 hInv K hK
 have hin:i<(l++tl).length:=(List.getElem?_eq_some_iff.1 k0).1
 have his:i<listed.size:=by omega
 have c7:∀ q,listed.getD q false=true->(listed.setIfInBounds i true).getD q false=true:=fun q hq=>by
  by_cases e:q=i
  subst e;simp[Array.getD_eq_getD_getElem?,his]
  rw[getD_set_ne false (fun h=>e h.symm)];exact hq
 have b1:(listed.setIfInBounds i true).getD i false=true:=by simp[Array.getD_eq_getD_getElem?,his]
 by_cases hi:i<l.length
 
 have e5:(∀ j,l.length<=j->listed.getD j false=false)/\R E n (JI s l Fs listed) a w:=by
  rcases hInv with h|⟨k,sk,hk,b2,_⟩
  exact h
  have:=b2 i (by omega);rw[k1] at this;simp at this
 obtain⟨b3,hR⟩:=e5
 have e6:=e3 k0 hi
 obtain⟨x,hx,c4⟩:=c6 i o e6
 rw[Nat.zero_add] at c4
 have e0:∀ p,p∈kZ l i s.slots->p∈s.slots/\hit l listed p.1=false:=by
  intro p hp
  simp only[kZ,List.mem_filter,List.all_eq_true,List.mem_range,Bool.or_eq_true,bne_iff_ne,beq_iff_eq] at hp
  refine⟨hp.1,?_⟩
  cases hh:hit l listed p.1 with
  | false=>rfl
  | true=>
   exfalso
   simp only[hit,List.any_eq_true,List.mem_range,Bool.and_eq_true,beq_iff_eq] at hh
   obtain⟨q,hq,e7,l1⟩:=hh
   rcases hp.2 q hq with (h|h)|h
   exact h l1
   subst h;rw[k1] at e7;simp at e7
   obtain⟨o',e4,e,he,hb,hon⟩:=uy h
   have:=hcl q o' (by rw[List.getElem?_append_left hq];exact e4) e7 e he hb
   rw[hon,k1] at this;simp at this
 have hR2:R E n ⟨fb l Fs o.after.toList++(kZ l i s.slots++((s.slots.filter fun p=>!hit l listed p.1)++aZ (fun i=>listed.getD i false) 0 l Fs)),s.own⟩ a w:=by
  obtain⟨h1,h2,h,ρ,hw,hs⟩:=hR
  refine⟨h1,h2,h,ρ,hw,fun k y hy=>hs k y ?_⟩
  rcases List.mem_append.1 hy with hy|hy
  obtain⟨e,he,hb,o',e4,c2,e8⟩:=rY hy
  refine List.mem_append.2 (.inr ?_)
  rw[bT]
  exact⟨e.on,o',e4,c2,e8,by rw[Nat.zero_add];exact c3 e (by simpa using he) hb⟩
  rcases List.mem_append.1 hy with hy|hy
  obtain⟨h1,h2⟩:=e0 _ hy
  exact List.mem_append.2 (.inl (List.mem_filter.2 ⟨h1,by simp[h2]⟩))
  exact hy
 refine c4 _ a w hR2 K Q (fun a' w' e9=>hK a' w' (.inl ⟨fun j hj=>?_,?_⟩))
 rw[getD_set_ne false (by omega)];exact b3 j hj
 obtain⟨h1,h2,h,ρ,hw,hs⟩:=e9
 have l2:∀ sl,(St.put n o.dst x ⟨sl,s.own⟩).own=s.own:=fun sl=>by
  cases hd:o.dst with
  | none=>rfl
  | some d=>simp only[St.put,St.set];split<;>rfl
 rw[l2] at hw
 refine⟨h1,h2,h,ρ,hw,fun k y hy=>?_⟩
 have hold:(k,y)∈(s.slots.filter fun p=>!hit l listed p.1)++aZ (fun i=>listed.getD i false) 0 l Fs->(∀ d,o.dst=some d->k≠d)->∃ v,a'.tmps[k]?=some v/\y.rel h ρ v:=by
  intro hm hkd
  refine hs k y ?_
  have l3:(k,y)∈fb l Fs o.after.toList++(kZ l i s.slots++((s.slots.filter fun p=>!hit l listed p.1)++aZ (fun i=>listed.getD i false) 0 l Fs)):=List.mem_append.2 (.inr (List.mem_append.2 (.inr hm)))
  cases hd:o.dst with
  | none=>simp only[St.put];exact l3
  | some d=>
   simp only[St.put,St.set]
   split
   exact List.mem_cons_of_mem _ (db l3 (hkd d hd))
   exact l3
 simp only[JI] at hy
 rcases List.mem_append.1 hy with hy|hy
 obtain⟨hy1,hy2⟩:=List.mem_filter.1 hy
 have j0:hit l (listed.setIfInBounds i true) k=false:=by simpa using hy2
 refine hold (List.mem_append.2 (.inl (List.mem_filter.2 ⟨hy1,?_⟩))) (fun d hd e=>?_)
 cases hh:hit l listed k with
 | false=>rfl
 | true=>
  exfalso
  simp only[hit,List.any_eq_true,List.mem_range,Bool.and_eq_true,beq_iff_eq] at hh
  obtain⟨q,hq,e7,l1⟩:=hh
  have:hit l (listed.setIfInBounds i true) k=true:=by
   simp only[hit,List.any_eq_true,List.mem_range,Bool.and_eq_true,beq_iff_eq]
   exact⟨q,hq,c7 q e7,l1⟩
  rw[j0] at this;simp at this
 subst e
 have:hit l (listed.setIfInBounds i true) k=true:=by
  simp only[hit,List.any_eq_true,List.mem_range,Bool.and_eq_true,beq_iff_eq]
  exact⟨i,hi,b1,by rw[e6];exact hd⟩
 rw[j0] at this;simp at this
 rw[bT] at hy
 obtain⟨j,oj,hj,c2,e8,l4⟩:=hy
 rw[Nat.zero_add] at l4
 by_cases l5:j=i
 subst l5
 rw[e6] at hj;cases hj
 rw[hx] at e8;cases e8
 refine hs k y ?_
 have hk:k<n.n:=by
  have:=hlt k (ns e6 c2)
  simpa using this
 simp only[c2,St.put,St.set,hk,if_true]
 exact List.mem_cons_self
 have hl2:listed.getD j false=true:=by
  rw[getD_set_ne false (fun e=>l5 e.symm)] at l4
  exact l4
 refine hold (List.mem_append.2 (.inr ?_)) (fun d hd e=>?_)
 rw[bT]
 exact⟨j,oj,hj,c2,e8,by rw[Nat.zero_add];exact hl2⟩
 subst e
 exact l5 (wW hnd hj e6 c2 hd)
 
 have o1:i-l.length<tl.length:=by simp only[List.length_append] at hin;omega
 have k3:=covered hcl k0 c3 (by have:=k6 (i-l.length) o1;rwa [show l.length+(i-l.length)=i by omega] at this)
 have e1:tl[i-l.length]?=some o:=by rwa [List.getElem?_append_right (by omega)] at k0
 rcases hInv with ⟨b3,hR⟩|⟨k,sk,hk,b2,b3,hT,hR⟩
 have ei:i=l.length:=by
  rcases Nat.lt_or_ge l.length i with h|h
  have:=k3 l.length h;rw[b3 _ (Nat.le_refl _)] at this;simp at this
  omega
 have k4:=hS0 (fun j hj=>k3 j (by omega)) hR
 rw[show i-l.length=0 by omega] at e1
 have h0:0<tl.length:=by omega
 have o3:tl.drop 0=o::tl.drop (0+1):=by
  rw[List.drop_eq_getElem_cons h0]
  congr 1
  rw[List.getElem?_eq_getElem h0] at e1
  simpa using e1
 have hT:Av P E n Q (l++tl).toArray (tl.drop 0) ⟨(s.slots.filter fun p=>!(km l).contains p.1)++aZ (fun _=>true) 0 l Fs,s.own⟩ s2:=by rw[List.drop_zero];exact htl
 rw[o3] at hT
 obtain⟨s1,o4,o7⟩:=hT
 refine o4 a w k4 K (fun a' w' e9=>hK a' w' (.inr ⟨0,s1,h0,fun j hj=>?_,fun j hj=>?_,o7,e9⟩))
 by_cases e:j=i
 subst e;exact b1
 exact c7 j (k3 j (by omega))
 rw[getD_set_ne false (by omega)];exact b3 j (by omega)
 have ei:i=l.length+(k+1):=by
  rcases Nat.lt_or_ge (l.length+(k+1)) i with h|h
  have:=k3 _ h;rw[b3 _ (by omega)] at this;simp at this
  rcases Nat.lt_or_ge i (l.length+(k+1)) with h'|h'
  have:=b2 i (by omega);rw[k1] at this;simp at this
  omega
 rw[show i-l.length=k+1 by omega] at e1
 have o3:tl.drop (k+1)=o::tl.drop (k+1+1):=by
  have j1:k+1<tl.length:=by omega
  rw[List.drop_eq_getElem_cons j1]
  congr 1
  rw[List.getElem?_eq_getElem j1] at e1
  simpa using e1
 rw[o3] at hT
 obtain⟨s1,o4,o7⟩:=hT
 refine o4 a w hR K (fun a' w' e9=>hK a' w' (.inr ⟨k+1,s1,by omega,fun j hj=>?_,fun j hj=>?_,o7,e9⟩))
 by_cases e:j=i
 subst e;exact b1
 exact c7 j (b2 j (by omega))
 rw[getD_set_ne false (by omega)];exact b3 j (by omega)
 
 intro listed a w hsz b0 hInv
 rcases hInv with ⟨b3,hR⟩|⟨k,sk,hk,b2,b3,hT,hR⟩
 have e:tl=[]:=by
  cases p0:tl with
  | nil=>rfl
  | cons o0 r=>
   have:=b0 l.length (by rw[p0];simp)
   rw[b3 _ (Nat.le_refl _)] at this;simp at this
 subst e
 have k4:=hS0 (fun j hj=>b0 j (by simpa using hj)) hR
 have e2:_=s2:=htl
 rw[e2] at k4
 exact h a w (hs▸k4.keep ks kos)
 have e:k+1=tl.length:=by
  rcases Nat.lt_or_ge (k+1) tl.length with h'|h'
  have:=b0 (l.length+(k+1)) (by simp only[List.length_append];omega)
  rw[b3 _ (by omega)] at this;simp at this
  omega
 rw[e,List.drop_length] at hT
 have e2:sk=s2:=hT
 subst e2
 exact h a w (hs▸hR.keep ks kos)
 intro i p hi hl
 exfalso
 simp only[Array.getD_eq_getD_getElem?,Array.getElem?_replicate] at hl
 split at hl<;>simp at hl
 simp only[Array.getD_eq_getD_getElem?,Array.getElem?_replicate]
 split<;>simp
 obtain⟨h1,h2,h,ρ,hw,hsl⟩:=hr.drawn
 refine⟨h1,h2,h,ρ,hw,fun k x hx=>hsl k x ?_⟩
 simp only[JI] at hx
 rcases List.mem_append.1 hx with hx|hx
 exact (List.mem_filter.1 hx).1
 rw[bT] at hx
 obtain⟨j,o,hj,_,_,hl⟩:=hx
 simp only[Nat.zero_add,Array.getD_eq_getD_getElem?,Array.getElem?_replicate] at hl
 split at hl<;>simp at hl
theorem ah.regionP {rid:Nat} {ops:List Oper} (hm:P.follows .mixedOrders=true) (m:Nat) (Fs:List SV) (hok:okX (ops.take m) (ops.drop m) n.n=true) (hst:rH P E n ops.toArray s (ops.take m) Fs 0 (ops.take m) Fs)
 (htl:Av P E n Q ops.toArray (ops.drop m) ⟨(s.slots.filter fun p=>!(km (ops.take m)).contains p.1)++aZ (fun _=>true) 0 (ops.take m) Fs,s.own⟩ St.never):ah P E n (.region rid ops.toArray true) s Q :=
 ah.ofA hm (vv.XQ _ _ (List.take_append_drop m ops) Fs [0] [] hok hst htl (s':=St.never) rfl Fin.never)
theorem qj {t e:TypeId} {m:Nat} {zs:List BV} {z:BV} {k:IntKind} {i:Int} {q:Nat} {x y:Operand} {dst:Option Nat} {ty:TypeId} {pos:String} {after:Array Edge} {g:Option (Nat×Bool)} (ht:lI P t e m 1) (ho:c8 P e) (hi:i=(q:Int)) (hq:q<m) (hx:s.ev x=some (.kF zs)) (hy:s.ev y=some (.b (.one (.int k i)))) (hz:zs[q]?=some z) :
 aR P E n ⟨dst,.index t x y,ty,pos,after,g⟩ s (s.put n dst (.b z)) :=
 aR.val (o:=⟨dst,.index t x y,ty,pos,after,g⟩) fun ac w h ρ hw hs=>by
  obtain⟨cs,hv,ha⟩:=(aE hs hx:SV.rel h ρ (.kF zs) _)
  have hz':=ha.get q z hz
  obtain⟨u,hu,hr⟩:=hz'
  subst hi
  have hcu:cs[(q:Int).toNat*1]?=some u:=by rw[Nat.mul_one];simpa using hu
  obtain⟨inf,hin,hsz⟩:=ht.info
  refine⟨u,?_,hr.1⟩
  have hpt:=jY ho (A:=cs) (off:=(q:Int).toNat*1) (v:=u) hcu w
  have h0:(0:Int)<=(q:Int):=by omega
  have hi:(q:Int)<m:=by omega
  simp only[execOp,hv,(bI hs hy).1]
  simp[Instr.index,run_underlying ht.und,asIntOf,h0,hi,hq,sizeOf,typeInfo,hin,hsz] at hpt ⊢
  simp[hpt]
end
end Go.Sk
namespace Go.Sk
open Go Go.BigFrame
theorem AJ {P:Program} {TB:aH} {E:Env TB} {n:Sh} {s:St} {dst:Option Nat} {ty:TypeId} {pos:String} {after:Array Edge} {g:Option (Nat×Bool)} {f:FuncId} {own_a own':List (Nat×OC)} {args:List BV} {xs:Array Operand} {ats:Array TypeId} {z:BV} (b0:aI P TB f own_a args (Is own' (.b z))) (hf:dM P f) (ha:ig s xs.toList=some args) (hl:gf s.own own_a)
 (hok:hZ n own_a own'=true) (hki:(SV.b z).bn own'=true) (hcl:iG s.own own_a own'=true) (hsl:jQ own_a own' s.slots=s.slots) (b1:ss (ai s.own) (bN own' (dL own_a s.own))=s.own):aR P E n ⟨dst,.call ⟨.value (.func f),xs,ats⟩,ty,pos,after,g⟩ s (s.put n dst (.b z)):=by
 have h:=dN (ats:=ats) (E:=E) (n:=n) (dst:=dst) (ty:=ty) (pos:=pos) (after:=after) (g:=g) b0 hf ha hl hok hki hcl
 unfold St.aft at h
 rw[hsl] at h
 refine h.IP (ai s.own) ?_
 have e2:∀ (O:List (Nat×OC)),((⟨s.slots,O⟩:St).put n dst (.b z)).own=O:=fun O=>by
  unfold St.put;split
  unfold St.set;split<;>rfl
  rfl
 have e3:∀ (O:List (Nat×OC)),(⟨((⟨s.slots,O⟩:St).put n dst (.b z)).slots,s.own⟩:St)=s.put n dst (.b z):=fun O=>by
  unfold St.put;split
  unfold St.set;split<;>rfl
  rfl
 rw[e2,b1,e3]
def J3 (P:Program) (fn:Func) {TB:aH} (E:Env TB) (n:Sh) (post:er):bH:=bodyPostD P fn (jf E n post)
def z7 (f:FuncId) (vals:List Value):Deferred:={ target:=.fn (.func f) vals.toArray,args:=#[] }
theorem aI.Gv {P:Program} {TB:aH} {f:FuncId} {fn:Func} {c:Code} {own:List (Nat×OC)} {args:List BV} {post:er} (m:Nat) (hf:P.funcs[f]?=some fn) (hm:fn.ntmps=m) (hb:fn.body=some c) (hl:args.length<=m)
 (b2:∀ E:Env TB,ah P E ⟨m,aq own,ai own,[]⟩ c ⟨gm 0 args,own⟩ (J3 P fn E ⟨m,aq own,ai own,[]⟩ post)):aI P TB f own args post:=by
 intro w h ρ vals tb hag b0 b1
 have hlen:=b1.length
 refine (calls_of_wp_defers (R:=jf ⟨w,h,ρ,tb⟩ ⟨m,aq own,ai own,[]⟩ post) hf hb (b2 ⟨w,h,ρ,tb⟩ _ w ⟨rfl,?_,h,ρ,⟨hag,PH.le_refl h,fun _ _ _=>rfl,Nat.le_refl _,fun _ _ _=>rfl,fun _ _=>rfl,rfl,rfl,?_,?_⟩,?_⟩)).mono ?_
 simp[hm];omega
 rintro b ⟨k,hk,hb⟩ o
 obtain⟨⟨k',c⟩,hm',rfl⟩:=List.mem_map.1 hk
 exact ((b0 k' c hm').2.1 b (.inl hb)).2 o
 intro k c hc
 obtain⟨h1,h3,h4⟩:=b0 k c hc
 exact⟨h1,fun b hb=>⟨.inr ⟨k,List.mem_map.2 ⟨(k,c),hc,rfl⟩,(h3 b hb).1⟩,(h3 b hb).2⟩,h4⟩
 intro k x hx
 obtain⟨j,z,rfl,hz,rfl⟩:=iw hx
 obtain⟨v,hv,hr⟩:=b1.get j z hz
 refine⟨v,?_,hr⟩
 have hj:=(List.getElem?_eq_some_iff.1 hv).1
 rw[Nat.zero_add,Array.getElem?_append_left (by simpa using hj)]
 simpa using hv
 rintro e w' ⟨v,own',res,h',ρ',e1,e2,e3,e4⟩
 exact⟨v,own',res,h',ρ',e1,e2,WR.sh (n:=⟨m,aq own,ai own,[]⟩) (n':=⟨0,aq own,ai own,[]⟩) rfl rfl e3,e4⟩
def EH (P:Program) (f:FuncId) (m:Nat):Prop:=∀ (vals:List Value) (w:World),vals.length=m->CallsD P f vals.toArray .returning w fun e u' w'=>(∃ v,e=.returned v)/\u'=.returning/\w'=w
def rN (P:Program) (TB:aH) (f:FuncId) (own:List (Nat×OC)) (args:List BV) (pv:Value) (own':List (Nat×OC)):Prop :=
 ∀ (w:World) (h:PH) (ρ:RM) (vals:List Value) (tb:cC TB h w),pc h w->C5 own h ρ w->aO (fun (x:BV) v=>x.rel h ρ v) args vals ->
  CallsD P f vals.toArray (.panicking (Et pv)) w fun e u' w'=>u'=.panicking [{ v:=pv,recovered:=true }]/\jf ⟨w,h,ρ,tb⟩ ⟨0,aq own,ai own,[]⟩ (Is own' (.lC [])) e w'
section
variable {P:Program} {TB:aH} {E E':Env TB} {n:Sh} {s s':St} {dst:Option Nat} {t ty yt:TypeId} {pos:String} {after:Array Edge} {g:Option (Nat×Bool)} {x y c:Operand} {ops:Array Oper} {l:List Oper} {Q:bH} {cd:Code}
theorem Fin.retD {fn:Func} {post:er} {e:Exit} (he:e=.ret∨e=.normal) (hd:n.dfs=[]) (h:Fin E n e s (zI P fn E n post)):Fin E n e s (J3 P fn E n post):=by
 rcases he with rfl|rfl
 intro a w hr
 obtain⟨h1,v,h2,h3⟩:=h a w hr
 show Leaves P fn a.tmps _ a.defers .returning w
 rw[h1,hd]
 exact⟨v,h2 w (bL.refl w),h3⟩
 intro a w hr
 obtain⟨h1,v,h2,h3⟩:=h a w hr
 show Leaves P fn a.tmps _ a.defers .returning w
 rw[h1,hd]
 exact⟨v,h2 w (bL.refl w),h3⟩
theorem aj.defer {f:FuncId} {cs:List CV} (hn:n.dfs=[]) (hx:s.ev x=some (.b (.cJ f [] cs))) (hp:s.own.all (fun p=>p.2.plain)=true)
 (h:∀ (E':Env TB) (vals:List Value),WR E n s.own E'.h0 E'.ρ0 E'.w0->aO (fun (c:CV) v=>c.rel E'.h0 E'.ρ0 v) cs vals->aj P E' ⟨n.n,aq s.own,ai s.own,[z7 f vals]⟩ ops l s Q) :
 aj P E n ops (⟨none,.defer ⟨.value x,#[],#[]⟩,ty,pos,after,none⟩::l) s Q:=by
 intro a w hr
 unfold zk
 have:∀ tmps,Region.wanted ⟨none,.defer ⟨.value x,#[],#[]⟩,ty,pos,after,none⟩ (yielded ops tmps)=true:=fun _=>rfl
 simp only[this,if_true]
 obtain⟨hdf,hsz,h1,ρ,hw,hs⟩:=hr
 obtain⟨va,vb,hv,h2,h3⟩:=(aE hs hx:BV.rel h1 ρ (.cJ f [] cs) _)
 have hva:va=#[]:=by
  cases va with
  | mk l=>cases h2;rfl
 subst hva
 have b0:(execOp a.eval ⟨none,.defer ⟨.value x,#[],#[]⟩,ty,pos,after,none⟩).run P w=.ok (.defer (z7 f vb.toList)) w:=by
  have e1:execOp a.eval ⟨none,.defer ⟨.value x,#[],#[]⟩,ty,pos,after,none⟩=(do pure (.defer (← Deferred.ofValue (a.eval x) ((#[]:Array Operand).map a.eval)))):=rfl
  rw[e1,hv]
  have e2:(do pure (.defer (← Deferred.ofValue (.func (.func f) #[] vb) ((#[]:Array Operand).map a.eval))):Sem Next)=pure (.defer { target:=.fn (.func f) vb,args:=#[]++(#[]:Array Operand).map a.eval }):=rfl
  rw[e2]
  simp[z7]
 unfold Oper.wp
 rw[b0]
 show zk P ops Q l { a with defers:=z7 f vb.toList::a.defers } w
 rw[List.all_eq_true] at hp
 refine h ⟨w,h1,ρ,hw.ax⟩ vb.toList hw h3 _ w ⟨by show z7 f vb.toList::a.defers=_;rw[hdf,hn],hsz,h1,ρ,⟨hw.agree,PH.le_refl _,fun _ _ _=>rfl,Nat.le_refl _,fun _ _ _=>rfl,fun _ _=>rfl,rfl,rfl,?_,?_⟩,hs⟩
 rintro b ⟨k,hk,hb⟩ o
 obtain⟨⟨k',c⟩,hm',rfl⟩:=List.mem_map.1 hk
 exact ((hw.owned k' c hm').2.1 b (.inl hb)).2 o
 intro k c b1
 obtain⟨e1,e2,e3⟩:=hw.owned k c b1
 exact⟨e1,fun b hb=>⟨.inr ⟨k,List.mem_map.2 ⟨(k,c),b1,rfl⟩,hb.AN (hp _ b1)⟩,(e2 b hb).2⟩,e3⟩
theorem vO {f:FuncId} (hf:dM P f) (vals:List Value) (w:World):(invoke (.fn (.func f) vals.toArray) #[]).run P w=.ok (.enter f vals.toArray) w:=by
 have e2:invoke (.fn (.func f) vals.toArray) #[]=callFunc f (#[]++vals.toArray):=rfl
 rw[e2,hf.run]
 congr 2
 simp
theorem jf.back {b0:List (Nat×OC)} {ds:List Deferred} {post post':er} {v:Value} {w:World} (b1:WR E n b0 E'.h0 E'.ρ0 E'.w0) (b2:∀ o r,post' o r->hZ n b0 o=true/\iG b0 b0 o=true/\bN o (dL b0 b0)=o/\r.bn o=true/\post o r)
 (h:jf E' ⟨n.n,aq b0,ai b0,ds⟩ post' (.returned v) w):jf E n post (.returned v) w:=by
 obtain⟨v',own',res,h',ρ',e1,hp,hwr,b3⟩:=h
 cases e1
 obtain⟨g1,g2,g3,hk,hp'⟩:=b2 _ _ hp
 obtain⟨w0,h0,ρ0,tb⟩:=E'
 have hc:=b1.call (own_a:=b0) (own':=own') (tb:=tb) (fun _ _ h=>h) (WR.sh (n:=⟨n.n,aq b0,ai b0,ds⟩) (n':=⟨0,aq b0,ai b0,[]⟩) rfl rfl hwr) g1 g2
 rw[g3] at hc
 exact⟨v,own',res,h',_,rfl,hp',hc,SV.mono (PH.le_refl _) (fun j hj=>jR (SV.cB hk hj)) b3⟩
theorem Fin.doorRet {fn:Func} {post post':er} {e:Exit} {f:FuncId} {vals:List Value} {b0:List (Nat×OC)} {m:Nat} (b1:WR E n b0 E'.h0 E'.ρ0 E'.w0) (hi:EH P f m) (hm:vals.length=m) (hg:dM P f) (he:e=.ret∨e=.normal)
 (b2:∀ o r,post' o r->hZ n b0 o=true/\iG b0 b0 o=true/\bN o (dL b0 b0)=o/\r.bn o=true/\post o r) (h:Fin E' ⟨n.n,aq b0,ai b0,[z7 f vals]⟩ e s (zI P fn E' ⟨n.n,aq b0,ai b0,[z7 f vals]⟩ post')) :
 Fin E' ⟨n.n,aq b0,ai b0,[z7 f vals]⟩ e s (J3 P fn E n post):=by
 have key:∀ (a:Act) (w:World),(a.defers=[z7 f vals]/\∃ v,(∀ w₂,bL w w₂->(results fn a.tmps).run P w₂=.ok v w₂)/\jf E' ⟨n.n,aq b0,ai b0,[z7 f vals]⟩ post' (.returned v) w)->Leaves P fn a.tmps (jf E n post) a.defers .returning w:=by
  rintro a w ⟨h1,v,h2,h3⟩
  rw[h1]
  refine leaves_cons (by simp) (vO hg vals w) ((hi vals w hm).mono ?_)
  rintro e u' w' ⟨⟨v',rfl⟩,rfl,rfl⟩
  exact⟨v,h2 _ (bL.refl _),jf.back b1 b2 h3⟩
 rcases he with rfl|rfl<;>exact fun a w hr=>key a w (h a w hr)
theorem CV.GL {h0 h1:PH} {ρ0 ρ:RM} {ks:List Nat} (hf:∀ k,k∈ks->ρ k=ρ0 k):∀ {cs:List CV} {vals:List Value},aO (fun (c:CV) v=>c.rel h0 ρ0 v) cs vals->cs.all (fun c=>match c with|.ptr k _=>ks.contains k|_=>false)=true->aO (fun (c:CV) v=>c.rel h1 ρ v) cs vals
 | _,_,.nil,_=>.nil
 | c::cs,_,.cons h4 h5,hk=>by
  rw[List.all_cons,Bool.and_eq_true] at hk
  refine .cons ?_ (CV.GL hf h5 hk.2)
  have hkc:=hk.1
  cases c with
  | ptr k o=>
   obtain⟨b,e1,e2⟩:=h4
   refine⟨b,?_,e2⟩
   rw[hf k (by simpa using hkc)];exact e1
  | _=>simp at hkc
theorem Fin.ug {fn:Func} {post post':er} {f:FuncId} {cs:List CV} {vals:List Value} {b0 own_c own_c':List (Nat×OC)} {args:List BV} {pv:Value} (b1:WR E n b0 E'.h0 E'.ρ0 E'.w0) (b2:aO (fun (c:CV) v=>c.rel E'.h0 E'.ρ0 v) cs vals)
 (hc:rN P TB f own_c args pv own_c') (hg:dM P f) (hcs:cs.map CV.bv=args) (hk:cs.all (fun c=>match c with|.ptr k _=>(aq b0).contains k|_=>false)=true) (hl:gf s.own own_c)
 (hok:hZ ⟨n.n,aq b0,ai b0,[z7 f vals]⟩ own_c own_c'=true) (hcl:iG s.own own_c own_c'=true)
 (b3:∀ o r,post' o r->hZ n b0 o=true/\iG b0 b0 o=true/\bN o (dL b0 b0)=o/\r.bn o=true/\post o r)
 (h:Fin E' ⟨n.n,aq b0,ai b0,[z7 f vals]⟩ .ret ⟨jQ own_c own_c' s.slots,bN own_c' (dL own_c s.own)⟩ (zI P fn E' ⟨n.n,aq b0,ai b0,[z7 f vals]⟩ post')) :
 Fin E' ⟨n.n,aq b0,ai b0,[z7 f vals]⟩ (.panic (Et pv)) s (J3 P fn E n post):=by
 intro a w hr
 obtain⟨hdf,hsz,h1,ρ,hw,hs⟩:=hr
 show Leaves P fn a.tmps (jf E n post) a.defers (.panicking (Et pv)) w
 have c4:a.defers=[z7 f vals]:=hdf
 rw[c4]
 refine leaves_cons (by simp) (vO hg vals w) ?_
 have c2:aO (fun (x:BV) v=>x.rel h1 ρ v) args vals:=by
  rw[← hcs]
  exact CV.bvL (CV.GL hw.fixed b2 hk)
 have hla:=lq hl
 refine (hc w h1 ρ vals hw.ax hw.agree (uc hw hla (j5 hl)) c2).mono ?_
 rintro e u' w' ⟨rfl,v,own',res,h',ρ',rfl,⟨rfl,rfl⟩,c5,c3⟩
 have hwc:=hw.call hla c5 hok hcl
 have hR:R E' ⟨n.n,aq b0,ai b0,[z7 f vals]⟩ ⟨jQ own_c own' s.slots,bN own' (dL own_c s.own)⟩ a w':=by
  refine⟨hdf,hsz,h',_,hwc,fun k x hx=>?_⟩
  obtain⟨h1,h2⟩:=nu hx
  obtain⟨u,hu,c3⟩:=hs k x h1
  refine⟨u,hu,SV.mono c5.le (fun j hj=>?_) c3⟩
  by_cases c6:j∈ai own'
  rw[jR c6]
  by_cases hia:j∈aq own_c
  exact c5.fixed j hia
  have:=h2 j c6 hia;simp[this] at hj
  exact kK c6
 obtain⟨_,v2,h5,h6⟩:=h a w' hR
 exact⟨v2,h5 _ (bL.refl _),jf.back b1 b3 h6⟩
end
end Go.Sk
namespace Go.Sk
open Go Go.BigFrame
theorem ij.sw {P:Program} {TB:aH} {f:FuncId} {own:List (Nat×OC)} {args:List BV} {pv:Value} {ok:Prop} (hm:ij P TB f own args pv ok) (a b:Nat) :
 ij P TB f (bw (swp a b) own) (args.map (·.gS (swp a b))) pv ok:=by
 intro w h ρ vals tb hag b1 b2
 have c2:∀ {i j:Nat},swp a b i=swp a b j->i=j:=fun {i j} e=>by have:=congrArg (swp a b) e;rwa [il,il] at this
 have hl:C5 own h (fun k=>ρ (swp a b k)) w:=fun k c hk=>by
  obtain⟨e1,e2,e3⟩:=b1 (swp a b k) (c.gS (swp a b)) (List.mem_map.2 ⟨(k,c),hk,rfl⟩)
  exact⟨OC.Dv.1 e1,fun b hb=>e2 b (OC.jT.2 hb),fun k' c' b3 hne b' b0 hb2=>e3 (swp a b k') (c'.gS (swp a b)) (List.mem_map.2 ⟨(k',c'),b3,rfl⟩) (fun e=>hne (c2 e)) b' (OC.jT.2 b0) (OC.jT.2 hb2)⟩
 have ha:aO (fun (x:BV) v=>x.rel h (fun k=>ρ (swp a b k)) v) args vals:=((jl _).trans (lQ fun a u=>BV.gk)).1 b2
 refine (hm w h _ vals tb hag hl ha).mono ?_
 rintro e w' (⟨v,own1,res1,h',ρ',_,hp,_⟩|⟨pv',rfl,hpv,h',ρ',hw⟩)
 exact hp.elim
 have c3:∀ b',ry (TB:=TB) ⟨w,h,fun k=>ρ (swp a b k),tb⟩ ⟨0,aq own,ai own,[]⟩ b'↔ry (TB:=TB) ⟨w,h,ρ,tb⟩ ⟨0,aq (bw (swp a b) own),ai (bw (swp a b) own),[]⟩ b':=fun b'=>by
  constructor
  rintro⟨k,hk,hb⟩
  exact⟨swp a b k,by show _∈ai _;rw[qm];exact List.mem_map.2 ⟨k,hk,rfl⟩,hb⟩
  rintro⟨k,hk,hb⟩
  have b3:k∈(ai own).map (swp a b):=by rw[← qm];exact hk
  obtain⟨k0,c4,rfl⟩:=List.mem_map.1 b3
  exact⟨k0,c4,hb⟩
 refine .inr ⟨pv',rfl,hpv,h',fun k=>ρ' (swp a b k),⟨hw.agree,hw.le,fun b' b0 hn=>hw.fresh b' b0 fun hh=>hn ((c3 b').1 hh),hw.size,fun b' b0 hn=>hw.same b' b0 fun hh=>hn ((c3 b').1 hh),fun k hk=>?_,hw.os,hw.out,fun b' b0=>hw.nl b' ((c3 b').2 b0),fun k c hk=>by simp at hk⟩⟩
 have b3:k∈(aq own).map (swp a b):=by rw[← sc];exact hk
 obtain⟨k0,c4,rfl⟩:=List.mem_map.1 b3
 show ρ' (swp a b (swp a b k0))=_
 rw[il];exact hw.fixed k0 c4
theorem rE {n:Sh} {b0 own':List (Nat×OC)} {res:SV} (h1:hZ n b0 own'=true) (h2:iG b0 b0 own'=true) (h3:bN own' (dL b0 b0)=own') (hk:res.bn own'=true):∀ o r,Is own' res o r->hZ n b0 o=true/\iG b0 b0 o=true/\bN o (dL b0 b0)=o/\r.bn o=true/\Is own' res o r:=fun o r h=>by
 obtain⟨rfl,rfl⟩:=h
 exact⟨h1,h2,h3,hk,rfl,rfl⟩
section
variable {P:Program} {TB:aH} {E:Env TB} {n:Sh} {s s':St} {dst:Option Nat} {t ty yt:TypeId} {pos:String} {after:Array Edge} {g:Option (Nat×Bool)} {x y c:Operand} {ops:Array Oper} {l:List Oper} {Q:bH} {cd:Code}
theorem Bl {T:TypeId} {ps:List CP} {ms:Array (String×TypeId)} (hi:P.underlying t=some (.interface ms)) (hx:s.ev x=some (.b (.one (.zl T ps)))):aR P E n ⟨dst,.binOp .neq t x (.const .nilIface) yt,ty,pos,after,g⟩ s (s.put n dst (B true)) :=
 aR.val (o:=⟨dst,.binOp .neq t x (.const .nilIface) yt,ty,pos,after,g⟩) fun ac w h ρ hw hs=>by
  obtain⟨cs,e,_⟩:=(aE hs hx:(CP.zl _ _).rel h _)
  refine⟨.bool true,?_,rfl⟩
  have h1:∀ d:Nat,(Op.equalIn (d+1) t (.iface T (.agg cs)) .nilIface).run P w=.ok false w:=fun d=>by simp[Op.equalIn,run_underlying hi]
  have h2:(Op.equal t (.iface T (.agg cs)) .nilIface).run P w=.ok false w:=h1 _
  have h0:eqGuard .neq t x (.const .nilIface) (.iface T (.agg cs)) .nilIface=pure ():=rfl
  simp only[execOp,e,show ac.eval (.const .nilIface)=.nilIface from rfl,h0]
  simp[binOp,h2,Result.andThen]
theorem vc {T st:TypeId} {ps:List CP} {d:TypeDesc} (hu:P.underlying T=some d) (hd:(match d with|.interface _=>false|_=>true)=true) (hx:s.ev x=some (.b (.one (.zl T ps)))):aR P E n ⟨dst,.typeAssert x st T false,ty,pos,after,g⟩ s (s.put n dst (.b (.agg ps))) :=
 aR.val (o:=⟨dst,.typeAssert x st T false,ty,pos,after,g⟩) fun ac w h ρ hw hs=>by
  obtain⟨cs,e,hc⟩:=(aE hs hx:(CP.zl _ _).rel h _)
  refine⟨.agg cs,?_,cs,rfl,hc⟩
  simp only[execOp,e]
  unfold Instr.typeAssert
  rw[Sem.run_bind,Sem.run_bind,run_underlying hu]
  cases d<;>simp at hd<;>simp[Result.andThen]
theorem FM {size:Nat} {zs:List CP} {qs:List BV} {parts:Array (Nat×Operand)} {cps:List (Nat×List BV)} (ht:w3 P t size zs) (hp:tq s parts.toList=some cps) (hf:EA (fun i=>some (i*size,size)) (zs.map .one) cps=some qs) :
 aR P E n ⟨dst,.build t parts,ty,pos,after,g⟩ s (s.put n dst (.kF qs)) :=
 aR.val (o:=⟨dst,.build t parts,ty,pos,after,g⟩) fun ac w h ρ hw hs=>by
  obtain⟨it,z,m,e,ie,h1,h2,h3,h4,h5,h6⟩:=ht.info
  obtain⟨cs,hc1,hc2⟩:=Cr hw hs (fun i=>some (i*size,size)) parts.toList cps (zs.map .one) qs z.cells hp hf (wQ (oR h h3))
  refine⟨.agg cs,?_,cs,rfl,hc2⟩
  have hb:P.built t (parts.map fun (i,x)=>(i,ac.eval x)).toList=some cs:=by
   simp only[Program.built,h1,h4,h2,h5,h6]
   rw[← hc1]
   simp
  have:=run_build (P:=P) w t _ cs hb
  simp only[execOp]
  simp[this]
end
def mJ (k k2:Nat) (t1 t2:TypeId) (p1 p2:String) (a1 a2:Array Edge):Array Oper:=#[⟨some k,.call ⟨.builtin .recover,#[],#[]⟩,t1,p1,a1,none⟩,⟨some k2,.assign (.tmp k),t2,p2,a2,none⟩]
theorem rec_pan {P:Program} {k k2:Nat} {t1 t2:TypeId} {p1 p2:String} {a1 a2:Array Edge} {pv:Value} {c₀:Frame} {cs:List Frame} (hu:c₀.mode=.panicking (Et pv)) {Q:Exit->Act->List Frame->World->Prop} {a:Act} {w:World}
 (h:Q .normal ((a.put (some k) pv).put (some k2) ((a.put (some k) pv).eval (.tmp k))) ({ c₀ with mode:=.panicking [{ v:=pv,recovered:=true }] }::cs) w):wpOpsS P (mJ k k2 t1 t2 p1 p2 a1 a2) Q [0,1] a (c₀::cs) w:=by
 have e1:(execOp a.eval ⟨some k,.call ⟨.builtin .recover,#[],#[]⟩,t1,p1,a1,none⟩).run P w=.ok .recover w:=rfl
 have e2:recoverD (c₀::cs)=some (pv,{ c₀ with mode:=.panicking [{ v:=pv,recovered:=true }] }::cs):=by
  simp[recoverD,hu,Et]
 have w1:∀ tmps,Region.wanted (⟨some k,.call ⟨.builtin .recover,#[],#[]⟩,t1,p1,a1,none⟩:Oper) (yielded (mJ k k2 t1 t2 p1 p2 a1 a2) tmps)=true:=fun _=>rfl
 have w2:∀ tmps,Region.wanted (⟨some k2,.assign (.tmp k),t2,p2,a2,none⟩:Oper) (yielded (mJ k k2 t1 t2 p1 p2 a1 a2) tmps)=true:=fun _=>rfl
 have o0:(mJ k k2 t1 t2 p1 p2 a1 a2)[0]?=some ⟨some k,.call ⟨.builtin .recover,#[],#[]⟩,t1,p1,a1,none⟩:=rfl
 have o1:(mJ k k2 t1 t2 p1 p2 a1 a2)[1]?=some ⟨some k2,.assign (.tmp k),t2,p2,a2,none⟩:=rfl
 simp only[wpOpsS,o0,o1,w1,w2,if_true,e1,e2]
 exact h
theorem E0 {P:Program} {k k2:Nat} {t1 t2:TypeId} {p1 p2:String} {a1 a2:Array Edge} {c₀:Frame} {cs:List Frame} (hu:c₀.mode=.returning) {Q:Exit->Act->List Frame->World->Prop} {a:Act} {w:World}
 (h:Q .normal ((a.put (some k) .nilIface).put (some k2) ((a.put (some k) .nilIface).eval (.tmp k))) (c₀::cs) w):wpOpsS P (mJ k k2 t1 t2 p1 p2 a1 a2) Q [0,1] a (c₀::cs) w:=by
 have e1:(execOp a.eval ⟨some k,.call ⟨.builtin .recover,#[],#[]⟩,t1,p1,a1,none⟩).run P w=.ok .recover w:=rfl
 have e2:recoverD (c₀::cs)=none:=by simp[recoverD,hu]
 have w1:∀ tmps,Region.wanted (⟨some k,.call ⟨.builtin .recover,#[],#[]⟩,t1,p1,a1,none⟩:Oper) (yielded (mJ k k2 t1 t2 p1 p2 a1 a2) tmps)=true:=fun _=>rfl
 have w2:∀ tmps,Region.wanted (⟨some k2,.assign (.tmp k),t2,p2,a2,none⟩:Oper) (yielded (mJ k k2 t1 t2 p1 p2 a1 a2) tmps)=true:=fun _=>rfl
 have o0:(mJ k k2 t1 t2 p1 p2 a1 a2)[0]?=some ⟨some k,.call ⟨.builtin .recover,#[],#[]⟩,t1,p1,a1,none⟩:=rfl
 have o1:(mJ k k2 t1 t2 p1 p2 a1 a2)[1]?=some ⟨some k2,.assign (.tmp k),t2,p2,a2,none⟩:=rfl
 simp only[wpOpsS,o0,o1,w1,w2,if_true,e1,e2]
 exact h
theorem qa {a:Act} {k:Nat} {v:Value} (h:k<a.tmps.size):(a.put (some k) v).tmps[k]?=some v:=by
 show (a.tmps.setIfInBounds k v)[k]?=some v
 simp[h]
theorem zO {a:Act} {k j:Nat} {v:Value} (h:k≠j):(a.put (some k) v).tmps[j]?=a.tmps[j]?:=by
 show (a.tmps.setIfInBounds k v)[j]?=_
 simp[h]
theorem kJ {a:Act} {k:Nat} {v:Value}:(a.put (some k) v).tmps.size=a.tmps.size:=by
 show (a.tmps.setIfInBounds k v).size=_
 simp
theorem q4 {a:Act} {k:Nat} {v:Value} (h:a.tmps[k]?=some v):a.eval (.tmp k)=v:=by
 simp[Act.eval,h]
theorem rN.intro {P:Program} {TB:aH} {f:FuncId} {fn:Func} {rid k k2:Nat} {t1 t2:TypeId} {p1 p2:String} {a1 a2:Array Edge} {c:Code} {own own':List (Nat×OC)} {args:List BV} {pv:Value} {z:BV} (m:Nat) (hf:P.funcs[f]?=some fn) (hm:fn.ntmps=m)
 (hb:fn.body=some (.seq (.region rid (mJ k k2 t1 t2 p1 p2 a1 a2) false) c)) (hl:args.length<=k2) (hk:k2<k) (hkm:k<m) (hz:∀ h ρ,z.rel h ρ pv)
 (b2:∀ E:Env TB,ah P E ⟨m,aq own,ai own,[]⟩ c ⟨(k2,.b z)::gm 0 args,own⟩ (zI P fn E ⟨m,aq own,ai own,[]⟩ (Is own' (.lC [])))):rN P TB f own args pv own':=by
 intro w h ρ vals tb hag b0 b1
 have hlen:=b1.length
 refine (callsD_of_wpS (R:=fun e u' w'=>u'=.panicking [{ v:=pv,recovered:=true }]/\jf ⟨w,h,ρ,tb⟩ ⟨m,aq own,ai own,[]⟩ (Is own' (.lC [])) e w') hf hb fun c₀ cs hu=>?_).mono ?_
 apply wpS_seq
 apply wpS_region
 show wpOpsS P _ _ [0,1] _ _ _
 refine rec_pan hu ?_
 have hsz:(vals.toArray++Array.replicate (fn.ntmps-vals.toArray.size) undef).size=m:=by simp[hm];omega
 generalize ha:({ tmps:=vals.toArray++Array.replicate (fn.ntmps-vals.toArray.size) undef,defers:=[] }:Act)=a0
 have c3:a0.tmps.size=m:=by rw[← ha];exact hsz
 have hg:∀ j:Nat,∀ v,vals[j]?=some v->a0.tmps[j]?=some v:=by
  intro j v hv
  have hj:=(List.getElem?_eq_some_iff.1 hv).1
  rw[← ha]
  show (vals.toArray++_)[j]?=_
  rw[Array.getElem?_append_left (by simpa using hj)]
  simpa using hv
 have e1:(a0.put (some k) pv).tmps[k]?=some pv:=qa (by omega)
 rw[q4 e1]
 show Exit.thenS _ _ _ _ _ _
 refine wpS_of_wp (Code.wp_mono (fun e a' w' he=>?_) (b2 ⟨w,h,ρ,tb⟩ _ w ⟨?_,?_,h,ρ,⟨hag,PH.le_refl h,fun _ _ _=>rfl,Nat.le_refl _,fun _ _ _=>rfl,fun _ _=>rfl,rfl,rfl,?_,?_⟩,?_⟩))
 cases e with
 | normal=>obtain⟨h1,v,h2,h3⟩:=he;exact⟨h1,_,rfl,v,h2 _ (bL.refl _),rfl,h3⟩
 | ret=>obtain⟨h1,v,h2,h3⟩:=he;exact⟨h1,_,rfl,v,h2 _ (bL.refl _),rfl,h3⟩
 | exit _=>exact he.elim
 | goto _=>exact he.elim
 | panic _=>exact he.elim
 | outgrown=>exact he.elim
 rw[← ha];rfl
 rw[kJ,kJ];exact c3
 rintro b ⟨q,hq,c2⟩ o
 obtain⟨⟨q',c'⟩,hm',rfl⟩:=List.mem_map.1 hq
 exact ((b0 q' c' hm').2.1 b (.inl c2)).2 o
 intro q c' hc'
 obtain⟨h1,h3,h4⟩:=b0 q c' hc'
 exact⟨h1,fun b c2=>⟨.inr ⟨q,List.mem_map.2 ⟨(q,c'),hc',rfl⟩,(h3 b c2).1⟩,(h3 b c2).2⟩,h4⟩
 intro q x hx
 rcases List.mem_cons.1 hx with hx|hx
 cases hx
 exact⟨pv,qa (by rw[kJ];omega),hz h ρ⟩
 obtain⟨j,z',rfl,hz',rfl⟩:=iw hx
 obtain⟨v,hv,hr⟩:=b1.get j z' hz'
 have hj:=(List.getElem?_eq_some_iff.1 hz').1
 refine⟨v,?_,hr⟩
 rw[zO (by omega),zO (by omega)]
 rw[Nat.zero_add]
 exact hg j v hv
 rintro e u' w' ⟨rfl,v,b3,res,h',ρ',e1,e2,e3,e4⟩
 exact⟨rfl,v,b3,res,h',ρ',e1,e2,WR.sh (n:=⟨m,aq own,ai own,[]⟩) (n':=⟨0,aq own,ai own,[]⟩) rfl rfl e3,e4⟩
theorem EH.intro {P:Program} {f:FuncId} {fn:Func} {rid b3 k k2 k3 k4 m:Nat} {t1 t2 t3 t4 t5 t6:TypeId} {p1 p2 p3 p4:String} {a1 a2 a3 a4:Array Edge} {c:Code} (hf:P.funcs[f]?=some fn) (hr:fn.results=#[])
 (hb:fn.body=some (.seq (.region rid (mJ k k2 t1 t2 p1 p2 a1 a2) false) (.seq (.region b3 #[⟨some k3,.move (.tmp k2),t3,p3,a3,none⟩,⟨some k4,.binOp .neq t4 (.tmp k3) (.const .nilIface) t5,t6,p4,a4,none⟩] false) (.cond (.tmp k4) c .skip))))
 {ms:Array (String×TypeId)} (hi:P.underlying t4=some (.interface ms)) (hm:m<=fn.ntmps) (h1:k<fn.ntmps) (h2:k2<fn.ntmps) (h3:k3<fn.ntmps) (h4:k4<fn.ntmps):EH P f m:=by
 intro vals w hlen
 refine callsD_of_wpS hf hb fun c₀ cs hu=>?_
 have hsz:(vals.toArray++Array.replicate (fn.ntmps-vals.toArray.size) undef).size=fn.ntmps:=by simp;omega
 generalize ha:({ tmps:=vals.toArray++Array.replicate (fn.ntmps-vals.toArray.size) undef,defers:=[] }:Act)=a0
 have c2:a0.tmps.size=fn.ntmps:=by rw[← ha];exact hsz
 have hd0:a0.defers=[]:=by rw[← ha]
 apply wpS_seq
 apply wpS_region
 show wpOpsS P _ _ [0,1] _ _ _
 refine E0 hu ?_
 have e1:(a0.put (some k) .nilIface).tmps[k]?=some .nilIface:=qa (by omega)
 rw[q4 e1]
 generalize c3:(a0.put (some k) .nilIface).put (some k2) .nilIface=b0
 have c4:b0.tmps.size=fn.ntmps:=by rw[← c3,kJ,kJ];exact c2
 have hd1:b0.defers=[]:=by rw[← c3];exact hd0
 have g1:b0.tmps[k2]?=some .nilIface:=by rw[← c3];exact qa (by rw[kJ];omega)
 refine wpS_of_wp ?_
 apply wp_seq
 apply wp_region
 show wpOps P _ _ [0,1] b0 w
 have r1:(execOp b0.eval ⟨some k3,.move (.tmp k2),t3,p3,a3,none⟩).run P w=.ok (.value .nilIface) w:=by
  show (pure (Next.value (b0.eval (.tmp k2))):Sem Next).run P w=_
  rw[q4 g1];rfl
 generalize b2:b0.put (some k3) .nilIface=b1
 have hsz2:b1.tmps.size=fn.ntmps:=by rw[← b2,kJ];exact c4
 have hd2:b1.defers=[]:=by rw[← b2];exact hd1
 have g2:b1.tmps[k3]?=some .nilIface:=by rw[← b2];exact qa (by omega)
 have r2:(execOp b1.eval ⟨some k4,.binOp .neq t4 (.tmp k3) (.const .nilIface) t5,t6,p4,a4,none⟩).run P w=.ok (.value (.bool false)) w:=by
  have h1:∀ d:Nat,(Op.equalIn (d+1) t4 .nilIface .nilIface).run P w=.ok true w:=fun d=>by simp[Op.equalIn,run_underlying hi]
  have h2:(Op.equal t4 .nilIface .nilIface).run P w=.ok true w:=h1 _
  simp only[execOp,q4 g2,show b1.eval (.const .nilIface)=.nilIface from rfl,eqGuard_nil_constR]
  simp[binOp,h2,Result.andThen]
 have w1:∀ tmps,Region.wanted (⟨some k3,.move (.tmp k2),t3,p3,a3,none⟩:Oper) tmps=true:=fun _=>rfl
 have w2:∀ tmps,Region.wanted (⟨some k4,.binOp .neq t4 (.tmp k3) (.const .nilIface) t5,t6,p4,a4,none⟩:Oper) tmps=true:=fun _=>rfl
 simp only[wpOps,List.getElem?_toArray,List.getElem?_cons_zero,List.getElem?_cons_succ,w1,w2,if_true,Oper.wp,r1,Oper.upon,b2,r2]
 have g3:(b1.put (some k4) (.bool false)).tmps[k4]?=some (.bool false):=qa (by omega)
 refine .inl (.inl ?_)
 show Code.wp P (.cond (.tmp k4) c .skip) _ _ _
 refine wp_cond (t:=false) (q4 g3) ?_
 refine wp_skip ?_
 refine⟨hd2,.returning,?_,.tuple #[],?_,⟨_,rfl⟩,rfl,rfl⟩
 rw[← hu]
 simp[results,hr]
end Go.Sk
namespace Go.Sk
open Go Go.BigFrame
structure ExtF (P:Program) (f:FuncId) (e:Array Value->Sem Value):Prop where
 info:∃ fn,P.funcs[f]?=some fn/\(fn.name == "runtime.NumGoroutine")=false/\fn.body.isNone=true/\Extern.findNext fn=none/\Extern.find fn=some e
section
variable {P:Program} {TB:aH} {E:Env TB} {n:Sh} {s s':St} {dst:Option Nat} {t ty yt:TypeId} {pos:String} {after:Array Edge} {g:Option (Nat×Bool)} {x y z c:Operand} {ops:Array Oper} {l:List Oper} {Q:bH} {cd:Code}
theorem ext_run {f:FuncId} {xs:Array Operand} {ats:Array TypeId} (a:Act) (w:World):(execOp a.eval ⟨dst,.call ⟨.value (.func f),xs,ats⟩,ty,pos,after,g⟩).run P w=(callFunc f (xs.toList.map a.eval).toArray).run P w:=by
 rw[show execOp a.eval ⟨dst,.call ⟨.value (.func f),xs,ats⟩,ty,pos,after,g⟩=callFunc f (#[]++xs.map a.eval++#[]) from rfl]
 congr 2
 apply Array.ext'
 simp
theorem aR.cell {o:Oper} {own':List (Nat×OC)} {res:SV}
 (H:∀ (a:Act) (w:World) (h:PH) (ρ:RM),WR E n s.own h ρ w->bt h ρ s.slots a.tmps->∃ v w',(execOp a.eval o).run P w=.ok (.value v) w'/\WR E n own' h ρ w'/\res.rel h ρ v):aR P E n o s ((⟨s.slots,own'⟩:St).put n o.dst res):=by
 intro a w ⟨hdf,hn,h,ρ,hw,hs⟩ next Q b0
 obtain⟨v,w',hv,hw',hr⟩:=H a w h ρ hw hs
 unfold Oper.wp
 rw[hv]
 exact b0 _ _ (R.put (s:=⟨s.slots,own'⟩) hdf hn hw' hs hr)
theorem Fin.round {m:Nat} (h:ah P E n cd s (Exit.then (Code.rounds P cd Q m) Q)):Fin E n .normal s (Exit.then (Code.rounds P cd Q (m+1)) Q):=fun a w hr=>h a w hr
end
def Lg (P:Program) (TB:aH) (f:FuncId) (own:List (Nat×OC)) (args:List BV) (own':List (Nat×OC)):Prop :=
 ∀ (w:World) (h:PH) (ρ:RM) (vals:List Value) (tb:cC TB h w),pc h w->C5 own h ρ w->aO (fun (x:BV) v=>x.rel h ρ v) args vals ->
  ∀ u,CallsD P f vals.toArray u w fun e u' w'=>u'=u/\jf ⟨w,h,ρ,tb⟩ ⟨0,aq own,ai own,[]⟩ (Is own' (.lC [])) e w'
theorem Lg.intro {P:Program} {TB:aH} {f:FuncId} {fn:Func} {c:Code} {own own':List (Nat×OC)} {args:List BV} (m:Nat) (hf:P.funcs[f]?=some fn) (hm:fn.ntmps=m) (hb:fn.body=some c) (hl:args.length<=m)
 (b2:∀ E:Env TB,ah P E ⟨m,aq own,ai own,[]⟩ c ⟨gm 0 args,own⟩ (zI P fn E ⟨m,aq own,ai own,[]⟩ (Is own' (.lC [])))):Lg P TB f own args own':=by
 intro w h ρ vals tb hag b0 b1 u
 have hlen:=b1.length
 refine (callsD_of_wp (R:=jf ⟨w,h,ρ,tb⟩ ⟨m,aq own,ai own,[]⟩ (Is own' (.lC []))) hf hb (wp_mono (b2 ⟨w,h,ρ,tb⟩ _ w ⟨rfl,?_,h,ρ,⟨hag,PH.le_refl h,fun _ _ _=>rfl,Nat.le_refl _,fun _ _ _=>rfl,fun _ _=>rfl,rfl,rfl,?_,?_⟩,?_⟩) (zI.body rfl))).mono ?_
 simp[hm];omega
 rintro b ⟨k,hk,hb⟩ o
 obtain⟨⟨k',c⟩,hm',rfl⟩:=List.mem_map.1 hk
 exact ((b0 k' c hm').2.1 b (.inl hb)).2 o
 intro k c hc
 obtain⟨h1,h3,h4⟩:=b0 k c hc
 exact⟨h1,fun b hb=>⟨.inr ⟨k,List.mem_map.2 ⟨(k,c),hc,rfl⟩,(h3 b hb).1⟩,(h3 b hb).2⟩,h4⟩
 intro k x hx
 obtain⟨j,z,rfl,hz,rfl⟩:=iw hx
 obtain⟨v,hv,hr⟩:=b1.get j z hz
 refine⟨v,?_,hr⟩
 have hj:=(List.getElem?_eq_some_iff.1 hv).1
 rw[Nat.zero_add,Array.getElem?_append_left (by simpa using hj)]
 simpa using hv
 rintro e u' w' ⟨e0,v,own',res,h',ρ',e1,e2,e3,e4⟩
 exact⟨e0,v,own',res,h',ρ',e1,e2,WR.sh (n:=⟨m,aq own,ai own,[]⟩) (n':=⟨0,aq own,ai own,[]⟩) rfl rfl e3,e4⟩
inductive DA where
 | ptr (k off:Nat)
 | bool (b:Bool)
def DA.bv:DA->BV
 | .ptr k off=>.ptr k off
 | .bool b=>.one (.bool b)
def DA.val {TB:aH} (E:Env TB):DA->Value
 | .ptr k off=>match E.ρ0 k with
  | .pointer (some a)=>.pointer (some ⟨a.block,off,none⟩)
  | v=>v
 | .bool b=>.bool b
def DA.ok (fix:List Nat) (own:List (Nat×OC)):DA->Bool
 | .ptr k _=>fix.contains k&&(match lk own k with|some (.box _ _)=>true|_=>false)
 | .bool _=>true
theorem DA.rel {TB:aH} {E:Env TB} {n:Sh} {own:List (Nat×OC)} {h:PH} {ρ:RM} {w:World} (hw:WR E n own h ρ w):∀ {l:List DA},l.all (DA.ok n.fix own)=true->aO (fun (x:BV) v=>x.rel h ρ v) (l.map DA.bv) (l.map (DA.val E))
 | [],_=>.nil
 | x::l,hk=>by
  rw[List.all_cons,Bool.and_eq_true] at hk
  refine .cons ?_ (DA.rel hw hk.2)
  have h1:=hk.1
  cases x with
  | bool b=>rfl
  | ptr k off=>
   simp only[DA.ok,Bool.and_eq_true] at h1
   obtain⟨h2,h3⟩:=h1
   split at h3
   next T ps e=>
    obtain⟨b,cur,hb1,hb2,hb3⟩:=iL hw e
    refine⟨b,hb1,?_⟩
    have:=hw.fixed k (by simpa using h2)
    simp only[DA.val,← this,hb1]
   cases h3
theorem DA.eq {TB:aH} {E:Env TB} {n:Sh} {own:List (Nat×OC)} {h:PH} {ρ:RM} {w:World} (hw:WR E n own h ρ w):∀ {l:List DA} {vs:List Value},l.all (DA.ok n.fix own)=true->aO (fun (x:BV) v=>x.rel h ρ v) (l.map DA.bv) vs->vs=l.map (DA.val E)
 | [],_,_,.nil=>rfl
 | x::l,v::vs,hk,hr=>by
  rw[List.all_cons,Bool.and_eq_true] at hk
  cases hr with
  | cons h0 h4=>
  rw[DA.eq hw hk.2 h4,List.map_cons]
  congr 1
  have h1:=hk.1
  cases x with
  | bool b=>exact h0
  | ptr k off=>
   simp only[DA.ok,Bool.and_eq_true] at h1
   obtain⟨b,hb1,rfl⟩:=h0
   have:=hw.fixed k (by simpa using h1.1)
   simp only[DA.val,← this,hb1]
section
variable {P:Program} {TB:aH} {E:Env TB} {n:Sh} {s s':St} {dst:Option Nat} {t ty yt:TypeId} {pos:String} {after:Array Edge} {g:Option (Nat×Bool)} {x y z c:Operand} {ops:Array Oper} {l:List Oper} {Q:bH} {cd:Code}
end
end Go.Sk
namespace Go.Sk
open Go Go.BigFrame
section
variable {P:Program} {TB:aH} {E:Env TB} {n:Sh} {s s':St} {dst:Option Nat} {t ty yt:TypeId} {pos:String} {after:Array Edge} {g:Option (Nat×Bool)} {x y z c:Operand} {ops:Array Oper} {l:List Oper} {Q:bH} {cd:Code}
theorem B3 {ps:List CP} (hx:s.ev x=some (.b (.kG ps))):aR P E n ⟨dst,.nilCheck x,ty,pos,after,g⟩ s (s.put n dst (.b (.kG ps))) :=
 aR.val (o:=⟨dst,.nilCheck x,ty,pos,after,g⟩) fun ac w h ρ hw hs=>by
  obtain⟨b,o,hv,hr⟩:=(aE hs hx:BV.rel h ρ (.kG ps) _)
  exact⟨_,by simp only[execOp,hv];rfl,b,o,rfl,hr⟩
theorem FO {k size bytes:Nat} {e:TypeId} {zs:List CP} {news:List (List CP)} (ht:lD P t e size bytes zs) (hz:0<size) (hb:news.length*bytes<=140737488355328) (hm:news.length<=9223372036854775807)
 (hy:s.ev y=some (.b (.one (.sl size news)))) (hfx:n.fix.contains k=false) (hnu:dy k s.own=true:=by rfl) :
 aR P E n ⟨dst,.call ⟨.builtin .append,#[.const (.slice none 0 0),y],#[t,t]⟩,ty,pos,after,g⟩ s ((⟨cu k s.slots,ins k (.row e size news) s.own⟩:St).put n dst (.b (.row k))) :=
 aR.make (hfx:=hfx) (hnu:=hnu) (o:=⟨dst,.call ⟨.builtin .append,#[.const (.slice none 0 0),y],#[t,t]⟩,ty,pos,after,g⟩) fun ac w h ρ hw hs=>by
  have hu:=(aE hs hy:(CP.sl size news).rel h _)
  obtain⟨v',w',b0,h1,h2,h3,h4,h5,h6⟩:=xy (ρ:=ρ) (ty:=ty) (v0:=.slice none 0 0) (es:=[]) ht ⟨fun ps hps=>by simp at hps,hz,[],⟨by simp,.inl ⟨rfl,rfl⟩⟩,.nil⟩ rfl (Src.of_sl hw hu) (by simpa using hb) (by rw[dk];simpa using hm)
  refine⟨v',v',w',none,?_,fun b hb=>by simp at hb,h1,h2,h3,fun b hb hne=>h4 b hb (by simp[ba]),?_,fun b hb=>?_,(cL _ _ _).symm⟩
  rw[execOp_builtin,builtin_append]
  simp[show ac.eval (.const (.slice none 0 0))=.slice none 0 0 from rfl,b0]
  have h7:(OC.row e size news).ok h ρ v' w':=by simpa using h5
  exact h7
  rcases h6 b hb with h|h
  simp[ba] at h
  exact .inr h
end
end Go.Sk
namespace Go.Sk
open Go Go.BigFrame
section
variable {P:Program} {TB:aH} {E:Env TB} {n:Sh} {s s':St} {dst:Option Nat} {t ty yt:TypeId} {pos:String} {after:Array Edge} {g:Option (Nat×Bool)} {x y z c:Operand} {ops:Array Oper} {l:List Oper} {Q:bH} {cd:Code}
structure q7 (P:Program) (t:TypeId) (pl:List (Nat×Nat)) (zs:List CP):Prop where
 info:∃ it z fs,P.info? t=some it/\it.zero=some z/\(∀ h,aB h zs z.cells.toList)/\P.underlying t=some (.struct fs)/\fs.toList.mapM (fun f=>(P.info? f.type).map fun i=>(f.offset,i.size))=some pl
theorem vL {pl:List (Nat×Nat)} {zs qs:List CP} {parts:Array (Nat×Operand)} {cps:List (Nat×List CP)} (ht:q7 P t pl zs) (hp:eV s parts.toList=some cps) (hf:iV (pl.toArray[·]?) zs cps=some qs) :
 aR P E n ⟨dst,.build t parts,ty,pos,after,g⟩ s (s.put n dst (.b (.agg qs))) :=
 aR.val (o:=⟨dst,.build t parts,ty,pos,after,g⟩) fun ac w h ρ hw hs=>by
  obtain⟨it,z,fs,h1,h2,h3,h4,h5⟩:=ht.info
  obtain⟨cs,hc1,hc2⟩:=py hs (pl.toArray[·]?) parts.toList cps zs qs z.cells hp hf (h3 h)
  refine⟨.agg cs,?_,cs,rfl,hc2⟩
  have hb:P.built t (parts.map fun (i,x)=>(i,ac.eval x)).toList=some cs:=by
   simp only[Program.built,h1,h4,h2,h5]
   rw[← hc1]
   simp
  have:=run_build (P:=P) w t _ cs hb
  simp only[execOp]
  simp[this]
end
end Go.Sk
namespace Go.Sk
open Go Go.BigFrame Go.Lib Go.Proofs Go.RowKit
structure Au (P:Program) (e:TypeId):Prop where
 info:∃ i,P.info? e=some i/\i.zero=some (.int .u8 0)/\i.size=1/\i.bytes=1
theorem w8 {h:PH}:∀ (q:Str),aB h ((ofStr q).map (eK .u8)).flatten (q.map fun b=>Value.int .u8 b.toNat)
 | []=>.nil
 | c::q=>.cons ⟨rfl,inR_u8 (by show (0:Int)<=(c.toNat:Int);omega) (by have:=c.toNat_lt;show (c.toNat:Int)<=255;omega)⟩ (w8 q)
section
variable {P:Program} {TB:aH} {E:Env TB} {n:Sh} {s s':St} {dst:Option Nat} {t u ty yt:TypeId} {pos:String} {after:Array Edge} {g:Option (Nat×Bool)} {x y z c:Operand} {ops:Array Oper} {l:List Oper} {Q:bH} {cd:Code}
theorem zG {h:PH} {ρ:RM} {w:World} {v0:Value} {e:TypeId} {es:List (List CP)} {q:Str} (ht:P.underlying t=some (.slice e)) (hu:P.underlying u=some .string) (hb:Au P e)
 (hok:(OC.row e 1 es).ok h ρ v0 w) (hm:es.length+q.length<=140737488355328) :
 ∃ v' w',(Builtin.append_ #[t,u] ty #[v0,.string ⟨⟨q⟩⟩]).run P w=.ok v' w'/\w.heap.size<=w'.heap.size/\w'.os=w.os/\w'.output=w.output/\(∀ b,b<w.heap.size->some b≠ba v0->w'.heap[b]?=w.heap[b]?) /\
  (OC.row e 1 (es++(ofStr q).map (eK .u8))).ok h ρ v' w'/\(∀ b,ba v'=some b->ba v0=some b∨w.heap.size<=b):=by
 obtain⟨i,h1,h2,h3,h4⟩:=hb.info
 have hnp:=Bi hok
 obtain⟨hun,hz,xs,how,hr⟩:=id hok
 have b1:(⟨⟨q⟩⟩:ByteArray).size=q.length:=rfl
 have b2:w.ownsRow 0 e 1 v0 es.length xs:=how
 obtain⟨v',w',b0,c3,hg,c4⟩:=run_append_own_string (P:=P) (w:=w) 0 t u ty e i ht hu h1 h2 h3 h4 v0 es.length xs b2 ⟨⟨q⟩⟩ (by rw[b1,dk];omega) (by rw[b1];omega) (Nat.zero_le _)
 have hlen:(es++(ofStr q).map (eK .u8)).length=es.length+q.length:=by simp[ofStr]
 refine⟨v',w',b0,hg.size,hg.os,hg.output,fun b hb hne=>hg.block b hb (by rw[yX hnp];exact hne),⟨?_,hz,xs++(q.map fun b=>Value.int .u8 b.toNat),?_,?_⟩,?_⟩
 intro ps hps
 rcases List.mem_append.1 hps with h5|h5
 exact hun ps h5
 obtain⟨a,_,rfl⟩:=List.mem_map.1 h5;rfl
 rw[hlen];exact c3
 rw[List.flatten_append];exact aO.append hr (w8 q)
 rcases b2.2 with ⟨hv,hn0⟩|⟨gb,cap,cur,hv,_,hh,hn1,hn2,hn3,hn4⟩
 by_cases hm0:q.length=0
 have:=c4.2 ⟨hv,by rw[b1];exact hm0⟩
 rw[this];intro b hb;simp[ba] at hb
 have b3:=run_append_nil_string (P:=P) (w:=w) t u ty e i (.int .u8 0) ht hu h1 h2 ⟨⟨q⟩⟩ (by rw[b1];omega) (by rw[b1];omega) (by rw[b1,h4];omega)
 rw[hv,b3] at b0
 cases b0
 intro b hb;simp[ba] at hb;subst hb;exact .inr (Nat.le_refl _)
 by_cases c2:es.length+q.length<=cap
 have b3:=run_append_room_string (P:=P) (w:=w) t u ty e i ht hu h1 h3 gb es.length cap cur hh ⟨⟨q⟩⟩ c2 (by rw[b1];simp at hn3;omega)
 rw[hv,b3] at b0
 cases b0
 intro b hb;simp[ba] at hb;subst hb;rw[hv];exact .inl rfl
 have hold:∀ j u,xs[j]?=some u->w.cell? ((⟨gb,0,none⟩:Addr).add j)=some u:=b2.cells (g:=gb) (by rw[hv];rfl)
 have b3:=run_append_grow_string (P:=P) (w:=w) t u ty e i (.int .u8 0) ht hu h1 h2 ⟨gb,0,none⟩ es.length cap xs (by rw[h3];exact b2.1) hold ⟨⟨q⟩⟩ (by rw[b1];omega) (by rw[b1];omega) (by rw[b1,h4];exact growslice_fits (by omega) (by omega))
 rw[hv,b3] at b0
 cases b0
 intro b hb;simp[ba] at hb;subst hb;exact .inr (Nat.le_refl _)
def Cp (xs:List Int) (q:Str):Option (List Int):=if xs.length+q.length<=140737488355328 then some (xs++ofStr q) else none
theorem appS_ok {xs:List Int} {q:Str} {r:List Int} (h:Cp xs q=some r):xs.length+q.length<=140737488355328/\xs++ofStr q=r:=by
 unfold Cp at h;split at h
 next hh=>exact⟨hh,by simpa using h⟩
 simp at h
theorem B5 {k:Nat} {e:TypeId} {xs r:List Int} {q:Str} (ht:P.underlying t=some (.slice e)) (hu:P.underlying u=some .string) (hb:Au P e) (h:Cp xs q=some r)
 (hx:s.ev x=some (.b (.row k))) (hk:lk s.own k=some (.row e 1 (xs.map (eK .u8)))) (hy:s.ev y=some (.b (.one (.str q)))) (hfx:n.fix.contains k=false) (hnu:dy k s.own=true:=by rfl) :
 aR P E n ⟨dst,.call ⟨.builtin .append,#[x,y],#[t,u]⟩,ty,pos,after,g⟩ s ((⟨cu k s.slots,ins k (.row e 1 (r.map (eK .u8))) s.own⟩:St).put n dst (.b (.row k))) :=
 aR.make (hfx:=hfx) (hnu:=hnu) (o:=⟨dst,.call ⟨.builtin .append,#[x,y],#[t,u]⟩,ty,pos,after,g⟩) fun ac w h' ρ hw hs=>by
  obtain⟨hm,rfl⟩:=appS_ok h
  have hv:ac.eval x=ρ k:=(aE hs hx:BV.rel h' ρ (.row k) _)
  obtain⟨hq,_⟩:ac.eval y=.string ⟨⟨q⟩⟩/\q.length<=maxLen:=(aE hs hy:(CP.str q).rel h' _)
  obtain⟨v',w',b0,h1,h2,h3,h4,h5,h6⟩:=zG (ty:=ty) ht hu hb (hw.owned k _ (bj hk)).1 (by rw[List.length_map];exact hm)
  rw[List.map_append]
  refine⟨v',v',w',ba (ρ k),?_,fun b hb=>⟨_,bj hk,hb⟩,h1,h2,h3,h4,h5,h6,(cL _ _ _).symm⟩
  rw[execOp_builtin,builtin_append]
  simp[hv,hq,b0]
end
end Go.Sk
namespace Go.Sk
open Go Go.BigFrame Go.RowKit Go.Proofs Go.Shelf
def Ki (n:Int):Option Str:=if (Lib.itoa n).length<=1000000000 then some (Lib.itoa n) else none
def Dq (s:Str) (c:Int):Option Str:=if 0<=c/\c<=1000000000/\s.length*c.toNat<=1000000000 then some (Lib.repeatL s c.toNat) else none
def Kh (xs:List Str) (sep:Str):Option Str:=if xs.length<=1000000000/\(Lib.join xs sep).length<=1000000000 then some (Lib.join xs sep) else none
variable {P:Program} {TB:aH} {ρ:Ren}
theorem Lr {name:String} {gb:Nat} {k:IntKind} {zs:List Int} (hg:P.globalNamed name=some gb) (hm:(gb,zs.map fun z=>Value.int k z)∈TB) {h:PH} {w:World} (tb:cC TB h w):Lib.TabIs P w name k zs:=by
 obtain⟨_,_,T,fz,h3⟩:=tb gb _ hm
 simp only[Lib.TabIs,World.var?,hg,Option.bind_some,h3]
theorem G6 (L:LaysM.n171 P ρ) {gb:Nat} (hg:P.globalNamed "internal/strconv.uint64pow10"=some gb) (hm:(gb,Lib.pow10Tab.map fun z=>Value.int .u64 z)∈TB) {n:Int} {r:Str} (h:Ki n=some r):aI P TB (ρ.f 171) [] [.one (.int .i64 n)] (Is [] (.b (.one (.str r)))):=by
 unfold Ki at h
 split at h
 next hl=>
  cases h
  refine aI.lib fun w h ρ' vals tb hag ha=>?_
  obtain⟨v,rfl,hv⟩:=Ft ha
  have hv':v=.int .i64 n/\mf .i64 n:=hv
  obtain⟨rfl,hr⟩:=hv'
  obtain⟨h0,h1⟩:=FZ.1 hr
  refine (Any.strconv_Itoa L n h0 h1 w (Lr hg hm tb)).mono ?_
  rintro e w' ⟨rfl,k,os,rfl⟩
  refine⟨_,rfl,?_,rfl,by rw[dk];omega⟩
  refine⟨rfl,rfl,rfl,by simp[Sort.grow,World.drewN],fun b hb=>?_⟩
  have hb':b<(w.drewN k).heap.size:=hb
  simp[Sort.grow,Array.getElem?_append,hb']
  intro hh;exact absurd hb' (by omega)
 simp at h
theorem D8 (L:Lays.n105 P ρ) (X:Builder.Extra P ρ) {s:Str} {c:Int} {r:Str} (h:Dq s c=some r):aI P TB (ρ.f 105) [] [.one (.str s),.one (.int .i64 c)] (Is [] (.b (.one (.str r)))):=by
 unfold Dq at h
 split at h
 next hl=>
  cases h
  refine aI.lib fun w h ρ' vals tb hag ha=>?_
  obtain⟨v,u,rfl,hv,hu⟩:=tu ha
  have hv':v=.string ⟨⟨s⟩⟩/\s.length<=maxLen:=hv
  have hu':u=.int .i64 c/\mf .i64 c:=hu
  obtain⟨rfl,_⟩:=hv'
  obtain⟨rfl,_⟩:=hu'
  obtain⟨c0,rfl⟩:∃ m:Nat,c=m:=⟨c.toNat,by omega⟩
  simp only[Int.toNat_natCast] at hl ⊢
  refine (Any.strings_Repeat L X ⟨⟨s⟩⟩ c0 w (by omega) (by rw[ub];omega)).mono ?_
  rintro e w' ⟨rfl,hb⟩
  refine⟨_,rfl,hb,rfl,?_⟩
  rw[Lib.repeatL_length,dk,Nat.mul_comm];omega
 simp at h
theorem G5 (L:Lays.n156 P ρ) (X:Builder.Extra P ρ) {xs:List Str} {sep r:Str} (h:Kh xs sep=some r):aI P TB (ρ.f 156) [] [.one (.sl 1 (xs.map eS)),.one (.str sep)] (Is [] (.b (.one (.str r)))):=by
 unfold Kh at h
 split at h
 ·next hl=>
  cases h
  refine aI.lib fun w h ρ' vals tb hag ha=>?_
  obtain⟨v,u,rfl,hv,hu⟩:=tu ha
  have hu':u=.string ⟨⟨sep⟩⟩/\sep.length<=maxLen:=hu
  obtain⟨rfl,_⟩:=hu'
  obtain⟨_,_,hv⟩:=(hv:(CP.sl 1 (xs.map eS)).rel h v)
  have b3:∀ {x:Str},Lib.join [x] sep=x:=fun {x}=>Lib.join_one x sep
  have hfl:∀ l:List Str,(l.map eS).flatten=l.map CP.str:=fun l=>by
   induction l with
   | nil=>rfl
   | cons a l ih=>simp only[List.map_cons,List.flatten_cons,ih,eS];rfl
  have b1:(Lib.join xs sep).length<=maxLen:=by rw[dk];omega
  rcases hv with ⟨rfl,hn⟩|⟨b,o,c,rfl,h1,h2,h3⟩|⟨ad,rfl,hn⟩
  rotate_left 2
  ·have hx:xs=[]:=by simpa using hn
   subst hx
   exact (Any.strings_Join_none L X (some ad) 0 ⟨⟨sep⟩⟩ w).mono fun e w' ⟨he,hw⟩=>⟨_,he,hw▸Below.refl _ _,rfl,b1⟩
  ·have hx:xs=[]:=by simpa using hn
   subst hx
   exact (Any.strings_Join_none L X none 0 ⟨⟨sep⟩⟩ w).mono fun e w' ⟨he,hw⟩=>⟨_,he,hw▸Below.refl _ _,rfl,b1⟩
  ·rw[hfl] at h3
   have b0:∀ (j:Nat) (x:Str),xs[j]?=some x->w.cell? ⟨b,o+j,none⟩=some (.string ⟨⟨x⟩⟩):=fun j x hx=>by
    obtain⟨u,hu1,hu2⟩:=h3 j (CP.str x) (by rw[List.getElem?_map,hx];rfl)
    rw[hag.cell hu1 (CP.one _ hu2),hu2.1]
   rw[List.length_map] at h1 ⊢
   match xs,hl,b1,h1,b0 with
   | [],_,b1,_,_=>exact (Any.strings_Join_none L X _ c ⟨⟨sep⟩⟩ w).mono fun e w' ⟨he,hw⟩=>⟨_,he,hw▸Below.refl _ _,rfl,b1⟩
   | [x],_,b1,_,b0=>
    refine (Any.strings_Join_one L X b o c ⟨⟨x⟩⟩ ⟨⟨sep⟩⟩ w (by simpa using b0 0 x rfl)).mono fun e w' ⟨he,hw⟩=>⟨_,he,hw▸Below.refl _ _,?_,b1⟩
    rw[b3]
   | x::y::r,hl,b1,h1,b0=>
    have b2:((x::y::r).map fun l=>(⟨⟨l⟩⟩:ByteArray)).map (·.data.toList)=x::y::r:=by
     rw[List.map_map]
     exact List.map_id' _
    have c2:b<w.heap.size:=G9 (b0 0 x rfl)
    have:=Any.strings_Join_many L X b o c ((x::y::r).map fun l=>(⟨⟨l⟩⟩:ByteArray)) ⟨⟨sep⟩⟩ w (fun j z hz=>by
     rw[List.getElem?_map] at hz
     simp only[Option.map_eq_some_iff] at hz
     obtain⟨l,hl',rfl⟩:=hz
     exact b0 j l hl') c2 (by simp) (by rw[List.length_map];omega) (by rw[List.length_map];exact h1) (by rw[b2];show (Lib.join _ sep).length<=_;omega)
    rw[b2,List.length_map] at this
    exact this.mono fun e w' ⟨he,hw⟩=>⟨_,he,hw,rfl,b1⟩
 ·simp at h
end Go.Sk
namespace Go.Sk
open Go Go.BigFrame Go.RowKit Go.Proofs Go.Shelf
def cut? (s sep:Str):Option (Str×Str×Bool):=if s.length<1000000000 then some (Lib.cut s sep) else none
variable {P:Program} {TB:aH} {ρ:Ren}
theorem cut_len (s sep:Str):(Lib.cut s sep).1.length<=s.length/\(Lib.cut s sep).2.1.length<=s.length:=by
 unfold Lib.cut
 split<;>simp<;>omega
theorem aI.libS {P:Program} {TB:aH} {f:FuncId} {args:List BV} {res:SV}
 (H:∀ (w:World) (h:PH) (ρ:RM) (vals:List Value),cC TB h w->pc h w->aO (fun (x:BV) v=>x.rel h ρ v) args vals->Calls P f vals.toArray w fun e w'=>∃ v,e=.returned v/\Below w.heap.size w w'/\res.rel h ρ v):aI P TB f [] args (Is [] res):=by
 intro w h ρ vals tb hag hl ha
 refine (H w h ρ vals tb hag ha).mono ?_
 rintro e w' ⟨v,rfl,hb,hr⟩
 refine⟨v,[],res,h,ρ,rfl,⟨rfl,rfl⟩,⟨fun b o u hu=>?_,PH.le_refl _,fun _ _ _=>rfl,hb.size,fun b b0 _=>hb.block b b0,fun k hk=>by simp[aq] at hk,hb.os,hb.output,fun b b0=>?_,fun k c hk=>by simp at hk⟩,hr⟩
 have hc:=hag b o u hu
 have hlt:b<w.heap.size:=iq hc
 rw[mX (hb.block b hlt)];exact hc
 obtain⟨k,hk,_⟩:=b0
 simp[ai] at hk
theorem Jr (L:LaysM.n145 P ρ) {m:Int} (hm:(ρ.g 1,[Value.int .i64 m])∈TB) {s sep:Str} {r:Str×Str×Bool} (h:cut? s sep=some r):aI P TB (ρ.f 145) [] [.one (.str s),.one (.str sep)] (Is [] (.lC [.one (.str r.1),.one (.str r.2.1),.one (.bool r.2.2)])):=by
 unfold cut? at h
 split at h
 next hl=>
  cases h
  refine aI.libS fun w h ρ' vals tb hag ha=>?_
  obtain⟨v,u,rfl,hv,hu⟩:=tu ha
  have hv':v=.string ⟨⟨s⟩⟩/\s.length<=maxLen:=hv
  have hu':u=.string ⟨⟨sep⟩⟩/\sep.length<=maxLen:=hu
  obtain⟨rfl,_⟩:=hv'
  obtain⟨rfl,_⟩:=hu'
  have hc:w.cell? ⟨ρ.g 1,0,none⟩=some (.int .i64 m):=hag.cell ((tb _ _ hm).2.1 0 _ rfl) rfl
  refine (Any.strings_Cut { L with } ⟨⟨s⟩⟩ ⟨⟨sep⟩⟩ m w (by rw[ub];omega) hc).mono ?_
  rintro e w' ⟨rfl,k,rfl⟩
  have hcl:=cut_len s sep
  refine⟨_,rfl,?_,?_⟩
  exact⟨rfl,rfl,rfl,by simp[World.drewN],fun b hb=>rfl⟩
  exact⟨_,rfl,.cons ⟨rfl,by rw[dk];omega⟩ (.cons ⟨rfl,by rw[dk];omega⟩ (.cons rfl .nil))⟩
 simp at h
theorem zu (L:Lays.n99 P ρ) {s p:Str} {r:Bool} (h:some (Lib.hasPrefix s p)=some r):aI P TB (ρ.f 99) [] [.one (.str s),.one (.str p)] (Is [] (.b (.one (.bool r)))):=by
 obtain rfl:=zaa h
 refine aI.lib fun w h ρ' vals tb hag ha=>?_
 obtain⟨v,u,rfl,hv,hu⟩:=tu ha
 have hv':v=.string ⟨⟨s⟩⟩/\s.length<=maxLen:=hv
 have hu':u=.string ⟨⟨p⟩⟩/\p.length<=maxLen:=hu
 obtain⟨rfl,_⟩:=hv'
 obtain⟨rfl,_⟩:=hu'
 exact (Any.strings_HasPrefix L ⟨⟨s⟩⟩ ⟨⟨p⟩⟩ w).mono fun e w' ⟨he,hw⟩=>⟨_,he,hw▸Below.refl _ _,rfl⟩
end Go.Sk
namespace Go.Sk
open Go Go.BigFrame Go.RowKit Go.Proofs Go.Shelf
def vP (s:Str) (c:Int):Option Int:=some (Lib.indexByte s c.toNat.toUInt8)
variable {P:Program} {TB:aH} {ρ:Ren}
theorem Eh (l:List UInt8) (c:UInt8):Lib.indexByte l c<=l.length:=by
 induction l with
 | nil=>simp[Lib.indexByte]
 | cons x l ih=>
  unfold Lib.indexByte
  split
  simp
  omega
  try split
  all_goals simp only[List.length_cons];omega
theorem zr (L:Lays.n217 P ρ) {s:Str} {c r:Int} (h:vP s c=some r):aI P TB (ρ.f 217) [] [.one (.str s),.one (.int .u8 c)] (Is [] (I r)):=by
 obtain rfl:=zaa h
 refine aI.lib fun w h ρ' vals tb hag ha=>?_
 obtain⟨v,u,rfl,hv,hu⟩:=tu ha
 have hv':v=.string ⟨⟨s⟩⟩/\s.length<=maxLen:=hv
 have hu':u=.int .u8 c/\_:=hu
 obtain⟨rfl,hl⟩:=hv'
 obtain⟨rfl,_⟩:=hu'
 have h1:=Lib.indexByte_ge s c.toNat.toUInt8
 have h2:=Eh s c.toNat.toUInt8
 refine (Any.stringslite_IndexByte L ⟨⟨s⟩⟩ c w).mono fun e w' ⟨he,hw⟩=>⟨_,he,hw▸Below.refl _ _,rfl,?_⟩
 rw[dk] at hl
 exact Io (by omega) (by omega)
end Go.Sk
