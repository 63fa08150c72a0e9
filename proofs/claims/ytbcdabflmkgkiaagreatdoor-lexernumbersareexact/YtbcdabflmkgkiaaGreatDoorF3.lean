/- part of the proof: the framework -/
import Derived.Test.YtbcdabflmkgkiaaGreatDoorF2
import Derived.Recover
import Derived.LoopN
import Derived.Laws.LoneSync
import Derived.Lib.AppendStr
namespace Go.Sk
set_option linter.unusedSimpArgs false
set_option linter.unusedVariables false
open Go Go.BigFrame
def CP.never:CP:=⟨fun _ _=>False,fun _ x=>x,fun x=>x.elim⟩
def St.never:St:=⟨[(0,.b (.one .never))],[]⟩
def tX (P:Program) {TB:aV} (E:Env TB) (n:Sh) (Q:cj) (ops:Array Oper) (o:Oper) (s s':St):Prop :=
 ∀ a w,R E n s a w → ∀ (K:Act → World → Prop),(∀ a' w',R E n s' a' w' → K a' w') → if Region.wanted o (yielded ops a.tmps) then o.wp P a w K Q else K (a.put o.dst undef) w
def tW (P:Program) {TB:aV} (E:Env TB) (n:Sh) (Q:cj) (ops:Array Oper):List Oper → St → St → Prop
 | [],s,s'=>s = s'
 | o :: r,s,s'=>∃ s1,tX P E n Q ops o s s1 ∧ tW P E n Q ops r s1 s'
section
variable {P:Program} {TB:aV} {E:Env TB} {n:Sh} {s s' s2:St} {l:List Oper} {L:List Oper} {Q:cj} {o:Oper}
theorem Fin.never {e:Exit}:Fin E n e St.never Q:=fun a w hr=>by
 obtain ⟨_,_,h,ρ,_,hs⟩:=hr
 obtain ⟨v,_,hf⟩:=hs 0 _ List.mem_cons_self
 exact hf.elim
theorem tX.of {ops:Array Oper} {o:Oper} (h:dh P E n ops o s s'):tX P E n Q ops o s s':=fun a w hr K hk=>h a w hr K Q hk
theorem tX.nZ {ops:Array Oper} {f:FuncId} {own_a:List (Nat × OC)} {args:List BV} {xs:Array Operand} {ats:Array TypeId} {pv:Value} {ok:Prop} {dst:Option Nat} {ty:TypeId} {pos:String} {after:Array Edge} (hspec:jf P TB f own_a args pv ok) (hf:bB P f) (ha:gw s xs.toList = some args) (hl:gv s.own own_a)
  (hq:ok → Fin E n (.panic (AO pv)) ⟨s.slots,ep own_a s.own⟩ Q):tX P E n Q ops ⟨dst,.call ⟨.value (.func f),xs,ats⟩,ty,pos,after,none⟩ s St.never:=by
 intro a w hr K hk
 have:Region.wanted ⟨dst,.call ⟨.value (.func f),xs,ats⟩,ty,pos,after,none⟩ (yielded ops a.tmps) = true:=rfl
 simp only [this,if_true]
 exact ub hspec (fun a w h ρ hw hs=>⟨_,oE hf a w,gF hs ha⟩) hl hr hq
def InvXQ (P:Program) {TB:aV} (E:Env TB) (n:Sh) (Q:cj) (ops:Array Oper) (s:St) (l tl:List Oper) (Fs:List SV) (s2:St) (listed:Array Bool) (a:Act) (w:World):Prop :=
 ((∀ j,l.length ≤ j → listed.getD j false = false) ∧ R E n (BU s l Fs listed) a w) ∨
 ∃ k sk,k < tl.length ∧ (∀ j,j ≤ l.length + k → listed.getD j false = true) ∧ (∀ j,l.length + k < j → listed.getD j false = false) ∧ tW P E n Q ops (tl.drop (k + 1)) sk s2 ∧ R E n sk a w
theorem rK.XQ {ops:List Oper} (l tl:List Oper) (hops:l ++ tl = ops) (Fs:List SV) (ks kos:List Nat) (hok:okX l tl n.n = true) (hst:nh P E n ops.toArray s l Fs 0 l Fs)
  (htl:tW P E n Q ops.toArray tl ⟨(s.slots.filter fun p=>!(iu l).contains p.1) ++ aX (fun _=>true) 0 l Fs,s.own⟩ s2) (hs:s2.keep ks kos = s') (h:Fin E n .normal s' Q):rK P E n ops.toArray s Q:=by
 subst hops
 simp only [okX,Bool.and_eq_true,List.all_eq_true,List.mem_range] at hok
 obtain ⟨⟨⟨hedges,hnd⟩,hlt⟩,hcov⟩:=hok
 obtain ⟨hlen,hsteps⟩:=qq (Fs:=Fs) hst
 intro a w hr
 have hgetl:∀ {i:Nat} {o:Oper},(l ++ tl)[i]? = some o → i < l.length → l[i]? = some o:=fun h hi=>by rwa [List.getElem?_append_left hi] at h
 have hS0:∀ {listed:Array Bool} {a:Act} {w:World},(∀ j,j < l.length → listed.getD j false = true) → R E n (BU s l Fs listed) a w → R E n ⟨(s.slots.filter fun p=>!(iu l).contains p.1) ++ aX (fun _=>true) 0 l Fs,s.own⟩ a w:=by
  intro listed a w hall hR
  obtain ⟨h1,h2,h,ρ,hw,hs⟩:=hR
  refine ⟨h1,h2,h,ρ,hw,fun k x hx=>hs k x ?_⟩
  simp only [BU,List.mem_append] at hx ⊢
  rcases hx with hx | hx
  ·left
   simp only [List.mem_filter,Bool.not_eq_true',List.contains_eq_mem,decide_eq_false_iff_not] at hx ⊢
   refine ⟨hx.1,?_⟩
   cases hh:hit l listed k with
   | false=>rfl
   | true=>
    exfalso
    simp only [hit,List.any_eq_true,List.mem_range,Bool.and_eq_true,beq_iff_eq,Option.bind_eq_some_iff] at hh
    obtain ⟨i,hi,_,o',ho',hd'⟩:=hh
    exact hx.2 (kg ho' hd')
  ·right
   rw [bU] at hx ⊢
   obtain ⟨j,oj,hj,hd,hF,_⟩:=hx
   exact ⟨j,oj,hj,hd,hF,by rw [Nat.zero_add]; exact hall j (List.getElem?_eq_some_iff.1 hj).1⟩
 refine anyG (L:=l ++ tl) (InvXQ P E n Q (l ++ tl).toArray s l tl Fs s2) hedges ?_ ?_ _ _ _ _ (by simp) ?_ (by simp) (.inl ⟨fun j hj=>?_,?_⟩)
 ·
  intro listed a w i o hsz hcl hio hil hdeps hInv K hK
  have hin:i < (l ++ tl).length:=(List.getElem?_eq_some_iff.1 hio).1
  have his:i < listed.size:=by omega
  have hset:∀ q,listed.getD q false = true → (listed.setIfInBounds i true).getD q false = true:=fun q hq=>by
   by_cases e:q = i
   ·subst e; simp [Array.getD_eq_getD_getElem?,his]
   ·rw [getD_set_ne false (fun h=>e h.symm)]; exact hq
  have hseti:(listed.setIfInBounds i true).getD i false = true:=by simp [Array.getD_eq_getD_getElem?,his]
  by_cases hi:i < l.length
  ·
   have hInv':(∀ j,l.length ≤ j → listed.getD j false = false) ∧ R E n (BU s l Fs listed) a w:=by
    rcases hInv with h | ⟨k,sk,hk,hyes,_⟩
    ·exact h
    ·have:=hyes i (by omega); rw [hil] at this; simp at this
   obtain ⟨hno,hR⟩:=hInv'
   have hol:=hgetl hio hi
   obtain ⟨x,hx,hstep⟩:=hsteps i o hol
   rw [Nat.zero_add] at hstep
   have hnohit:∀ p,p ∈ iJ l i s.slots → p ∈ s.slots ∧ hit l listed p.1 = false:=by
    intro p hp
    simp only [iJ,List.mem_filter,List.all_eq_true,List.mem_range,Bool.or_eq_true,bne_iff_ne,beq_iff_eq] at hp
    refine ⟨hp.1,?_⟩
    cases hh:hit l listed p.1 with
    | false=>rfl
    | true=>
     exfalso
     simp only [hit,List.any_eq_true,List.mem_range,Bool.and_eq_true,beq_iff_eq] at hh
     obtain ⟨q,hq,hlq,hdq⟩:=hh
     rcases hp.2 q hq with (h | h) | h
     ·exact h hdq
     ·subst h; rw [hil] at hlq; simp at hlq
     ·obtain ⟨o',ho',e,he,hb,hon⟩:=pF h
      have:=hcl q o' (by rw [List.getElem?_append_left hq]; exact ho') hlq e he hb
      rw [hon,hil] at this; simp at this
   have hR2:R E n ⟨dS l Fs o.after.toList ++ (iJ l i s.slots ++ ((s.slots.filter fun p=>!hit l listed p.1) ++ aX (fun i=>listed.getD i false) 0 l Fs)),s.own⟩ a w:=by
    obtain ⟨h1,h2,h,ρ,hw,hs⟩:=hR
    refine ⟨h1,h2,h,ρ,hw,fun k y hy=>hs k y ?_⟩
    rcases List.mem_append.1 hy with hy | hy
    ·obtain ⟨e,he,hb,o',ho',hd',hF'⟩:=nN hy
     refine List.mem_append.2 (.inr ?_)
     rw [bU]
     exact ⟨e.on,o',ho',hd',hF',by rw [Nat.zero_add]; exact hdeps e (by simpa using he) hb⟩
    ·rcases List.mem_append.1 hy with hy | hy
     ·obtain ⟨h1,h2⟩:=hnohit _ hy
      exact List.mem_append.2 (.inl (List.mem_filter.2 ⟨h1,by simp [h2]⟩))
     ·exact hy
   refine hstep _ a w hR2 K Q (fun a' w' hR'=>hK a' w' (.inl ⟨fun j hj=>?_,?_⟩))
   ·rw [getD_set_ne false (by omega)]; exact hno j hj
   ·obtain ⟨h1,h2,h,ρ,hw,hs⟩:=hR'
    have hown:∀ sl,(St.put n o.dst x ⟨sl,s.own⟩).own = s.own:=fun sl=>by
     cases hd:o.dst with
     | none=>rfl
     | some d=>simp only [St.put,St.set]; split <;> rfl
    rw [hown] at hw
    refine ⟨h1,h2,h,ρ,hw,fun k y hy=>?_⟩
    have hold:(k,y) ∈ (s.slots.filter fun p=>!hit l listed p.1) ++ aX (fun i=>listed.getD i false) 0 l Fs → (∀ d,o.dst = some d → k ≠ d) → ∃ v,a'.tmps[k]? = some v ∧ y.rel h ρ v:=by
     intro hm hkd
     refine hs k y ?_
     have hm':(k,y) ∈ dS l Fs o.after.toList ++ (iJ l i s.slots ++ ((s.slots.filter fun p=>!hit l listed p.1) ++ aX (fun i=>listed.getD i false) 0 l Fs)):=List.mem_append.2 (.inr (List.mem_append.2 (.inr hm)))
     cases hd:o.dst with
     | none=>simp only [St.put]; exact hm'
     | some d=>
      simp only [St.put,St.set]
      split
      ·exact List.mem_cons_of_mem _ (gG hm' (hkd d hd))
      ·exact hm'
    simp only [BU] at hy
    rcases List.mem_append.1 hy with hy | hy
    ·obtain ⟨hy1,hy2⟩:=List.mem_filter.1 hy
     have hy2':hit l (listed.setIfInBounds i true) k = false:=by simpa using hy2
     refine hold (List.mem_append.2 (.inl (List.mem_filter.2 ⟨hy1,?_⟩))) (fun d hd e=>?_)
     ·cases hh:hit l listed k with
      | false=>rfl
      | true=>
       exfalso
       simp only [hit,List.any_eq_true,List.mem_range,Bool.and_eq_true,beq_iff_eq] at hh
       obtain ⟨q,hq,hlq,hdq⟩:=hh
       have:hit l (listed.setIfInBounds i true) k = true:=by
        simp only [hit,List.any_eq_true,List.mem_range,Bool.and_eq_true,beq_iff_eq]
        exact ⟨q,hq,hset q hlq,hdq⟩
       rw [hy2'] at this; simp at this
     ·subst e
      have:hit l (listed.setIfInBounds i true) k = true:=by
       simp only [hit,List.any_eq_true,List.mem_range,Bool.and_eq_true,beq_iff_eq]
       exact ⟨i,hi,hseti,by rw [hol]; exact hd⟩
      rw [hy2'] at this; simp at this
    ·rw [bU] at hy
     obtain ⟨j,oj,hj,hd',hF',hl'⟩:=hy
     rw [Nat.zero_add] at hl'
     by_cases hji:j = i
     ·subst hji
      rw [hol] at hj; cases hj
      rw [hx] at hF'; cases hF'
      refine hs k y ?_
      have hk:k < n.n:=by
       have:=hlt k (kg hol hd')
       simpa using this
      simp only [hd',St.put,St.set,hk,if_true]
      exact List.mem_cons_self
     ·have hl2:listed.getD j false = true:=by
       rw [getD_set_ne false (fun e=>hji e.symm)] at hl'
       exact hl'
      refine hold (List.mem_append.2 (.inr ?_)) (fun d hd e=>?_)
      ·rw [bU]
       exact ⟨j,oj,hj,hd',hF',by rw [Nat.zero_add]; exact hl2⟩
      ·subst e
       exact hji (q4 hnd hj hol hd' hd)
  ·
   have hit':i - l.length < tl.length:=by simp only [List.length_append] at hin; omega
   have hcv:=covered hcl hio hdeps (by have:=hcov (i - l.length) hit'; rwa [show l.length + (i - l.length) = i by omega] at this)
   have hoi:tl[i - l.length]? = some o:=by rwa [List.getElem?_append_right (by omega)] at hio
   rcases hInv with ⟨hno,hR⟩ | ⟨k,sk,hk,hyes,hno,hT,hR⟩
   ·have ei:i = l.length:=by
     rcases Nat.lt_or_ge l.length i with h | h
     ·have:=hcv l.length h; rw [hno _ (Nat.le_refl _)] at this; simp at this
     ·omega
    have hR0:=hS0 (fun j hj=>hcv j (by omega)) hR
    rw [show i - l.length = 0 by omega] at hoi
    have h0:0 < tl.length:=by omega
    have hdr:tl.drop 0 = o :: tl.drop (0 + 1):=by
     rw [List.drop_eq_getElem_cons h0]
     congr 1
     rw [List.getElem?_eq_getElem h0] at hoi
     simpa using hoi
    have hT:tW P E n Q (l ++ tl).toArray (tl.drop 0) ⟨(s.slots.filter fun p=>!(iu l).contains p.1) ++ aX (fun _=>true) 0 l Fs,s.own⟩ s2:=by rw [List.drop_zero]; exact htl
    rw [hdr] at hT
    obtain ⟨s1,hs1,hr1⟩:=hT
    refine hs1 a w hR0 K (fun a' w' hR'=>hK a' w' (.inr ⟨0,s1,h0,fun j hj=>?_,fun j hj=>?_,hr1,hR'⟩))
    ·by_cases e:j = i
     ·subst e; exact hseti
     ·exact hset j (hcv j (by omega))
    ·rw [getD_set_ne false (by omega)]; exact hno j (by omega)
   ·have ei:i = l.length + (k + 1):=by
     rcases Nat.lt_or_ge (l.length + (k + 1)) i with h | h
     ·have:=hcv _ h; rw [hno _ (by omega)] at this; simp at this
     ·rcases Nat.lt_or_ge i (l.length + (k + 1)) with h' | h'
      ·have:=hyes i (by omega); rw [hil] at this; simp at this
      ·omega
    rw [show i - l.length = k + 1 by omega] at hoi
    have hdr:tl.drop (k + 1) = o :: tl.drop (k + 1 + 1):=by
     have hlt2:k + 1 < tl.length:=by omega
     rw [List.drop_eq_getElem_cons hlt2]
     congr 1
     rw [List.getElem?_eq_getElem hlt2] at hoi
     simpa using hoi
    rw [hdr] at hT
    obtain ⟨s1,hs1,hr1⟩:=hT
    refine hs1 a w hR K (fun a' w' hR'=>hK a' w' (.inr ⟨k + 1,s1,by omega,fun j hj=>?_,fun j hj=>?_,hr1,hR'⟩))
    ·by_cases e:j = i
     ·subst e; exact hseti
     ·exact hset j (hyes j (by omega))
    ·rw [getD_set_ne false (by omega)]; exact hno j (by omega)
 ·
  intro listed a w hsz hall hInv
  rcases hInv with ⟨hno,hR⟩ | ⟨k,sk,hk,hyes,hno,hT,hR⟩
  ·have e:tl = []:=by
    cases htl':tl with
    | nil=>rfl
    | cons o0 r=>
     have:=hall l.length (by rw [htl']; simp)
     rw [hno _ (Nat.le_refl _)] at this; simp at this
   subst e
   have hR0:=hS0 (fun j hj=>hall j (by simpa using hj)) hR
   have e2:_ = s2:=htl
   rw [e2] at hR0
   exact h a w (hs ▸ hR0.keep ks kos)
  ·have e:k + 1 = tl.length:=by
    rcases Nat.lt_or_ge (k + 1) tl.length with h' | h'
    ·have:=hall (l.length + (k + 1)) (by simp only [List.length_append]; omega)
     rw [hno _ (by omega)] at this; simp at this
    ·omega
   rw [e,List.drop_length] at hT
   have e2:sk = s2:=hT
   subst e2
   exact h a w (hs ▸ hR.keep ks kos)
 ·intro i p hi hl
  exfalso
  simp only [Array.getD_eq_getD_getElem?,Array.getElem?_replicate] at hl
  split at hl <;> simp at hl
 ·simp only [Array.getD_eq_getD_getElem?,Array.getElem?_replicate]
  split <;> simp
 ·obtain ⟨h1,h2,h,ρ,hw,hsl⟩:=hr.drawn
  refine ⟨h1,h2,h,ρ,hw,fun k x hx=>hsl k x ?_⟩
  simp only [BU] at hx
  rcases List.mem_append.1 hx with hx | hx
  ·exact (List.mem_filter.1 hx).1
  ·rw [bU] at hx
   obtain ⟨j,o,hj,_,_,hl⟩:=hx
   simp only [Nat.zero_add,Array.getD_eq_getD_getElem?,Array.getElem?_replicate] at hl
   split at hl <;> simp at hl
theorem ab.regionP {rid:Nat} {ops:List Oper} (hm:P.follows .mixedOrders = true) (m:Nat) (Fs:List SV) (hok:okX (ops.take m) (ops.drop m) n.n = true) (hst:nh P E n ops.toArray s (ops.take m) Fs 0 (ops.take m) Fs)
  (htl:tW P E n Q ops.toArray (ops.drop m) ⟨(s.slots.filter fun p=>!(iu (ops.take m)).contains p.1) ++ aX (fun _=>true) 0 (ops.take m) Fs,s.own⟩ St.never):ab P E n (.region rid ops.toArray true) s Q :=
 ab.ofA hm (rK.XQ _ _ (List.take_append_drop m ops) Fs [0] [] hok hst htl (s':=St.never) rfl Fin.never)
theorem lV {t e:TypeId} {m:Nat} {zs:List BV} {z:BV} {k:IntKind} {i:Int} {q:Nat} {x y:Operand} {dst:Option Nat} {ty:TypeId} {pos:String} {after:Array Edge} {g:Option (Nat × Bool)} (ht:kE P t e m 1) (ho:dx P e) (hi:i = (q:Int)) (hq:q < m) (hx:s.ev x = some (.gT zs)) (hy:s.ev y = some (.b (.one (.int k i)))) (hz:zs[q]? = some z) :
  br P E n ⟨dst,.index t x y,ty,pos,after,g⟩ s (s.put n dst (.b z)) :=
 br.val (o:=⟨dst,.index t x y,ty,pos,after,g⟩) fun ac w h ρ hw hs=>by
  obtain ⟨cs,hv,ha⟩:=(aP hs hx:SV.rel h ρ (.gT zs) _)
  have hz':=ha.get q z hz
  obtain ⟨u,hu,hr⟩:=hz'
  subst hi
  have hcu:cs[(q:Int).toNat * 1]? = some u:=by rw [Nat.mul_one]; simpa using hu
  obtain ⟨inf,hin,hsz⟩:=ht.info
  refine ⟨u,?_,hr.1⟩
  have hpt:=jr ho (A:=cs) (off:=(q:Int).toNat * 1) (v:=u) hcu w
  have h0:(0:Int) ≤ (q:Int):=by omega
  have hi:(q:Int) < m:=by omega
  simp only [execOp,hv,(bX hs hy).1]
  simp [Instr.index,run_underlying ht.und,asIntOf,h0,hi,hq,sizeOf,typeInfo,hin,hsz] at hpt ⊢
  simp [hpt]
end
end Go.Sk
namespace Go.Sk
set_option linter.unusedSimpArgs false
set_option linter.unusedVariables false
open Go Go.BigFrame
theorem ud {P:Program} {TB:aV} {E:Env TB} {n:Sh} {s:St} {dst:Option Nat} {ty:TypeId} {pos:String} {after:Array Edge} {g:Option (Nat × Bool)} {f:FuncId} {own_a own':List (Nat × OC)} {args:List BV} {xs:Array Operand} {ats:Array TypeId} {z:BV} (hspec:ax P TB f own_a args (Is own' (.b z))) (hf:bB P f) (ha:gw s xs.toList = some args) (hl:gv s.own own_a)
  (hok:jb n own_a own' = true) (hki:(SV.b z).cx own' = true) (hcl:iQ s.own own_a own' = true) (hsl:kO own_a own' s.slots = s.slots) (hown:n5 (aH s.own) (iM own' (ep own_a s.own)) = s.own):br P E n ⟨dst,.call ⟨.value (.func f),xs,ats⟩,ty,pos,after,g⟩ s (s.put n dst (.b z)):=by
 have h:=cz (ats:=ats) (E:=E) (n:=n) (dst:=dst) (ty:=ty) (pos:=pos) (after:=after) (g:=g) hspec hf ha hl hok hki hcl
 unfold St.aft at h
 rw [hsl] at h
 refine h.l5 (aH s.own) ?_
 have e2:∀ (O:List (Nat × OC)),((⟨s.slots,O⟩:St).put n dst (.b z)).own = O:=fun O=>by
  unfold St.put; split
  ·unfold St.set; split <;> rfl
  ·rfl
 have e3:∀ (O:List (Nat × OC)),(⟨((⟨s.slots,O⟩:St).put n dst (.b z)).slots,s.own⟩:St) = s.put n dst (.b z):=fun O=>by
  unfold St.put; split
  ·unfold St.set; split <;> rfl
  ·rfl
 rw [e2,hown,e3]
def AS (P:Program) (fn:Func) {TB:aV} (E:Env TB) (n:Sh) (post:dN):cj:=bodyPostD P fn (ja E n post)
def yA (f:FuncId) (vals:List Value):Deferred:={ target:=.fn (.func f) vals.toArray,args:=#[] }
theorem ax.CA {P:Program} {TB:aV} {f:FuncId} {fn:Func} {c:Code} {own:List (Nat × OC)} {args:List BV} {post:dN} (m:Nat) (hf:P.funcs[f]? = some fn) (hm:fn.ntmps = m) (hb:fn.body = some c) (hl:args.length ≤ m)
  (hbody:∀ E:Env TB,ab P E ⟨m,aG own,aH own,[]⟩ c ⟨jm 0 args,own⟩ (AS P fn E ⟨m,aG own,aH own,[]⟩ post)):ax P TB f own args post:=by
 intro w h ρ vals tb hag hlent hargs
 have hlen:=hargs.length
 refine (calls_of_wp_defers (R:=ja ⟨w,h,ρ,tb⟩ ⟨m,aG own,aH own,[]⟩ post) hf hb (hbody ⟨w,h,ρ,tb⟩ _ w ⟨rfl,?_,h,ρ,⟨hag,PH.le_refl h,fun _ _ _=>rfl,Nat.le_refl _,fun _ _ _=>rfl,fun _ _=>rfl,rfl,rfl,?_,?_⟩,?_⟩)).mono ?_
 ·simp [hm]; omega
 ·rintro b ⟨k,hk,hb⟩ o
  obtain ⟨⟨k',c⟩,hm',rfl⟩:=List.mem_map.1 hk
  exact ((hlent k' c hm').2.1 b (.inl hb)).2 o
 ·intro k c hc
  obtain ⟨h1,h3,h4⟩:=hlent k c hc
  exact ⟨h1,fun b hb=>⟨.inr ⟨k,List.mem_map.2 ⟨(k,c),hc,rfl⟩,(h3 b hb).1⟩,(h3 b hb).2⟩,h4⟩
 ·intro k x hx
  obtain ⟨j,z,rfl,hz,rfl⟩:=ic hx
  obtain ⟨v,hv,hr⟩:=hargs.get j z hz
  refine ⟨v,?_,hr⟩
  have hj:=(List.getElem?_eq_some_iff.1 hv).1
  rw [Nat.zero_add,Array.getElem?_append_left (by simpa using hj)]
  simpa using hv
 ·rintro e w' ⟨v,own',res,h',ρ',e1,e2,e3,e4⟩
  exact ⟨v,own',res,h',ρ',e1,e2,WR.sh (n:=⟨m,aG own,aH own,[]⟩) (n':=⟨0,aG own,aH own,[]⟩) rfl rfl e3,e4⟩
def xp (P:Program) (f:FuncId) (m:Nat):Prop:=∀ (vals:List Value) (w:World),vals.length = m → CallsD P f vals.toArray .returning w fun e u' w'=>(∃ v,e = .returned v) ∧ u' = .returning ∧ w' = w
def qS (P:Program) (TB:aV) (f:FuncId) (own:List (Nat × OC)) (args:List BV) (pv:Value) (own':List (Nat × OC)):Prop :=
 ∀ (w:World) (h:PH) (ρ:RM) (vals:List Value) (tb:cS TB h w),lM h w → xg own h ρ w → aY (fun (x:BV) v=>x.rel h ρ v) args vals →
  CallsD P f vals.toArray (.panicking (AO pv)) w fun e u' w'=>u' = .panicking [{ v:=pv,recovered:=true }] ∧ ja ⟨w,h,ρ,tb⟩ ⟨0,aG own,aH own,[]⟩ (Is own' (.fG [])) e w'
section
variable {P:Program} {TB:aV} {E E':Env TB} {n:Sh} {s s':St} {dst:Option Nat} {t ty yt:TypeId} {pos:String} {after:Array Edge} {g:Option (Nat × Bool)} {x y c:Operand} {ops:Array Oper} {l:List Oper} {Q:cj} {cd:Code}
theorem Fin.retD {fn:Func} {post:dN} {e:Exit} (he:e = .ret ∨ e = .normal) (hd:n.dfs = []) (h:Fin E n e s (yB P fn E n post)):Fin E n e s (AS P fn E n post):=by
 rcases he with rfl | rfl
 ·intro a w hr
  obtain ⟨h1,v,h2,h3⟩:=h a w hr
  show Leaves P fn a.tmps _ a.defers .returning w
  rw [h1,hd]
  exact ⟨v,h2 w (bW.refl w),h3⟩
 ·intro a w hr
  obtain ⟨h1,v,h2,h3⟩:=h a w hr
  show Leaves P fn a.tmps _ a.defers .returning w
  rw [h1,hd]
  exact ⟨v,h2 w (bW.refl w),h3⟩
theorem ae.defer {f:FuncId} {cs:List CV} (hn:n.dfs = []) (hx:s.ev x = some (.b (.dq f [] cs))) (hp:s.own.all (fun p=>p.2.plain) = true)
  (h:∀ (E':Env TB) (vals:List Value),WR E n s.own E'.h0 E'.ρ0 E'.w0 → aY (fun (c:CV) v=>c.rel E'.h0 E'.ρ0 v) cs vals → ae P E' ⟨n.n,aG s.own,aH s.own,[yA f vals]⟩ ops l s Q) :
  ae P E n ops (⟨none,.defer ⟨.value x,#[],#[]⟩,ty,pos,after,none⟩ :: l) s Q:=by
 intro a w hr
 unfold yC
 have:∀ tmps,Region.wanted ⟨none,.defer ⟨.value x,#[],#[]⟩,ty,pos,after,none⟩ (yielded ops tmps) = true:=fun _=>rfl
 simp only [this,if_true]
 obtain ⟨hdf,hsz,h1,ρ,hw,hs⟩:=hr
 obtain ⟨va,vb,hv,h2,h3⟩:=(aP hs hx:BV.rel h1 ρ (.dq f [] cs) _)
 have hva:va = #[]:=by
  cases va with
  | mk l=>cases h2; rfl
 subst hva
 have hrun:(execOp a.eval ⟨none,.defer ⟨.value x,#[],#[]⟩,ty,pos,after,none⟩).run P w = .ok (.defer (yA f vb.toList)) w:=by
  have e1:execOp a.eval ⟨none,.defer ⟨.value x,#[],#[]⟩,ty,pos,after,none⟩ = (do pure (.defer (← Deferred.ofValue (a.eval x) ((#[]:Array Operand).map a.eval)))):=rfl
  rw [e1,hv]
  have e2:(do pure (.defer (← Deferred.ofValue (.func (.func f) #[] vb) ((#[]:Array Operand).map a.eval))):Sem Next) = pure (.defer { target:=.fn (.func f) vb,args:=#[] ++ (#[]:Array Operand).map a.eval }):=rfl
  rw [e2]
  simp [yA]
 unfold Oper.wp
 rw [hrun]
 show yC P ops Q l { a with defers:=yA f vb.toList :: a.defers } w
 rw [List.all_eq_true] at hp
 refine h ⟨w,h1,ρ,hw.bh⟩ vb.toList hw h3 _ w ⟨by show yA f vb.toList :: a.defers = _; rw [hdf,hn],hsz,h1,ρ,⟨hw.agree,PH.le_refl _,fun _ _ _=>rfl,Nat.le_refl _,fun _ _ _=>rfl,fun _ _=>rfl,rfl,rfl,?_,?_⟩,hs⟩
 ·rintro b ⟨k,hk,hb⟩ o
  obtain ⟨⟨k',c⟩,hm',rfl⟩:=List.mem_map.1 hk
  exact ((hw.owned k' c hm').2.1 b (.inl hb)).2 o
 ·intro k c hkc
  obtain ⟨e1,e2,e3⟩:=hw.owned k c hkc
  exact ⟨e1,fun b hb=>⟨.inr ⟨k,List.mem_map.2 ⟨(k,c),hkc,rfl⟩,hb.uf (hp _ hkc)⟩,(e2 b hb).2⟩,e3⟩
theorem uO {f:FuncId} (hf:bB P f) (vals:List Value) (w:World):(invoke (.fn (.func f) vals.toArray) #[]).run P w = .ok (.enter f vals.toArray) w:=by
 have e2:invoke (.fn (.func f) vals.toArray) #[] = callFunc f (#[] ++ vals.toArray):=rfl
 rw [e2,hf.run]
 congr 2
 simp
theorem ja.back {own0:List (Nat × OC)} {ds:List Deferred} {post post':dN} {v:Value} {w:World} (hlink:WR E n own0 E'.h0 E'.ρ0 E'.w0) (hpost:∀ o r,post' o r → jb n own0 o = true ∧ iQ own0 own0 o = true ∧ iM o (ep own0 own0) = o ∧ r.cx o = true ∧ post o r)
  (h:ja E' ⟨n.n,aG own0,aH own0,ds⟩ post' (.returned v) w):ja E n post (.returned v) w:=by
 obtain ⟨v',own',res,h',ρ',e1,hp,hwr,hrel⟩:=h
 cases e1
 obtain ⟨g1,g2,g3,hk,hp'⟩:=hpost _ _ hp
 obtain ⟨w0,h0,ρ0,tb⟩:=E'
 have hc:=hlink.call (own_a:=own0) (own':=own') (tb:=tb) (fun _ _ h=>h) (WR.sh (n:=⟨n.n,aG own0,aH own0,ds⟩) (n':=⟨0,aG own0,aH own0,[]⟩) rfl rfl hwr) g1 g2
 rw [g3] at hc
 exact ⟨v,own',res,h',_,rfl,hp',hc,SV.mono (PH.le_refl _) (fun j hj=>gX (SV.cE hk hj)) hrel⟩
theorem Fin.doorRet {fn:Func} {post post':dN} {e:Exit} {f:FuncId} {vals:List Value} {own0:List (Nat × OC)} {m:Nat} (hlink:WR E n own0 E'.h0 E'.ρ0 E'.w0) (hi:xp P f m) (hm:vals.length = m) (hg:bB P f) (he:e = .ret ∨ e = .normal)
  (hpost:∀ o r,post' o r → jb n own0 o = true ∧ iQ own0 own0 o = true ∧ iM o (ep own0 own0) = o ∧ r.cx o = true ∧ post o r) (h:Fin E' ⟨n.n,aG own0,aH own0,[yA f vals]⟩ e s (yB P fn E' ⟨n.n,aG own0,aH own0,[yA f vals]⟩ post')) :
  Fin E' ⟨n.n,aG own0,aH own0,[yA f vals]⟩ e s (AS P fn E n post):=by
 have key:∀ (a:Act) (w:World),(a.defers = [yA f vals] ∧ ∃ v,(∀ w₂,bW w w₂ → (results fn a.tmps).run P w₂ = .ok v w₂) ∧ ja E' ⟨n.n,aG own0,aH own0,[yA f vals]⟩ post' (.returned v) w) → Leaves P fn a.tmps (ja E n post) a.defers .returning w:=by
  rintro a w ⟨h1,v,h2,h3⟩
  rw [h1]
  refine leaves_cons (by simp) (uO hg vals w) ((hi vals w hm).mono ?_)
  rintro e u' w' ⟨⟨v',rfl⟩,rfl,rfl⟩
  exact ⟨v,h2 _ (bW.refl _),ja.back hlink hpost h3⟩
 rcases he with rfl | rfl <;> exact fun a w hr=>key a w (h a w hr)
theorem CV.Dc {h0 h1:PH} {ρ0 ρ:RM} {ks:List Nat} (hf:∀ k,k ∈ ks → ρ k = ρ0 k):∀ {cs:List CV} {vals:List Value},aY (fun (c:CV) v=>c.rel h0 ρ0 v) cs vals → cs.all (fun c=>match c with | .ptr k _=>ks.contains k | _=>false) = true → aY (fun (c:CV) v=>c.rel h1 ρ v) cs vals
 | _,_,.nil,_=>.nil
 | c :: cs,_,.cons h4 h5,hk=>by
  rw [List.all_cons,Bool.and_eq_true] at hk
  refine .cons ?_ (CV.Dc hf h5 hk.2)
  have hkc:=hk.1
  cases c with
  | ptr k o=>
   obtain ⟨b,e1,e2⟩:=h4
   refine ⟨b,?_,e2⟩
   rw [hf k (by simpa using hkc)]; exact e1
  | _=>simp at hkc
theorem Fin.tu {fn:Func} {post post':dN} {f:FuncId} {cs:List CV} {vals:List Value} {own0 own_c own_c':List (Nat × OC)} {args:List BV} {pv:Value} (hlink:WR E n own0 E'.h0 E'.ρ0 E'.w0) (hvals:aY (fun (c:CV) v=>c.rel E'.h0 E'.ρ0 v) cs vals)
  (hc:qS P TB f own_c args pv own_c') (hg:bB P f) (hcs:cs.map CV.bv = args) (hk:cs.all (fun c=>match c with | .ptr k _=>(aG own0).contains k | _=>false) = true) (hl:gv s.own own_c)
  (hok:jb ⟨n.n,aG own0,aH own0,[yA f vals]⟩ own_c own_c' = true) (hcl:iQ s.own own_c own_c' = true)
  (hpost:∀ o r,post' o r → jb n own0 o = true ∧ iQ own0 own0 o = true ∧ iM o (ep own0 own0) = o ∧ r.cx o = true ∧ post o r)
  (h:Fin E' ⟨n.n,aG own0,aH own0,[yA f vals]⟩ .ret ⟨kO own_c own_c' s.slots,iM own_c' (ep own_c s.own)⟩ (yB P fn E' ⟨n.n,aG own0,aH own0,[yA f vals]⟩ post')) :
  Fin E' ⟨n.n,aG own0,aH own0,[yA f vals]⟩ (.panic (AO pv)) s (AS P fn E n post):=by
 intro a w hr
 obtain ⟨hdf,hsz,h1,ρ,hw,hs⟩:=hr
 show Leaves P fn a.tmps (ja E n post) a.defers (.panicking (AO pv)) w
 have hdf':a.defers = [yA f vals]:=hdf
 rw [hdf']
 refine leaves_cons (by simp) (uO hg vals w) ?_
 have hargs:aY (fun (x:BV) v=>x.rel h1 ρ v) args vals:=by
  rw [← hcs]
  exact CV.bvL (CV.Dc hw.fixed hvals hk)
 have hla:=iT hl
 refine (hc w h1 ρ vals hw.bh hw.agree (pe hw hla (ig hl)) hargs).mono ?_
 rintro e u' w' ⟨rfl,v,own',res,h',ρ',rfl,⟨rfl,rfl⟩,hwr,hrel⟩
 have hwc:=hw.call hla hwr hok hcl
 have hR:R E' ⟨n.n,aG own0,aH own0,[yA f vals]⟩ ⟨kO own_c own' s.slots,iM own' (ep own_c s.own)⟩ a w':=by
  refine ⟨hdf,hsz,h',_,hwc,fun k x hx=>?_⟩
  obtain ⟨h1,h2⟩:=ko hx
  obtain ⟨u,hu,hrel⟩:=hs k x h1
  refine ⟨u,hu,SV.mono hwr.le (fun j hj=>?_) hrel⟩
  by_cases hin:j ∈ aH own'
  ·rw [gX hin]
   by_cases hia:j ∈ aG own_c
   ·exact hwr.fixed j hia
   ·have:=h2 j hin hia; simp [this] at hj
  ·exact iC hin
 obtain ⟨_,v2,h5,h6⟩:=h a w' hR
 exact ⟨v2,h5 _ (bW.refl _),ja.back hlink hpost h6⟩
end
end Go.Sk
namespace Go.Sk
set_option linter.unusedSimpArgs false
set_option linter.unusedVariables false
open Go Go.BigFrame
theorem jf.sw {P:Program} {TB:aV} {f:FuncId} {own:List (Nat × OC)} {args:List BV} {pv:Value} {ok:Prop} (hm:jf P TB f own args pv ok) (a b:Nat) :
  jf P TB f (rJ (swp a b) own) (args.map (·.jw (swp a b))) pv ok:=by
 intro w h ρ vals tb hag hlent hargs
 have hinj:∀ {i j:Nat},swp a b i = swp a b j → i = j:=fun {i j} e=>by have:=congrArg (swp a b) e; rwa [gU,gU] at this
 have hl:xg own h (fun k=>ρ (swp a b k)) w:=fun k c hk=>by
  obtain ⟨e1,e2,e3⟩:=hlent (swp a b k) (c.jw (swp a b)) (List.mem_map.2 ⟨(k,c),hk,rfl⟩)
  exact ⟨OC.wC.1 e1,fun b hb=>e2 b (OC.hC.2 hb),fun k' c' hk' hne b' hb' hb2=>e3 (swp a b k') (c'.jw (swp a b)) (List.mem_map.2 ⟨(k',c'),hk',rfl⟩) (fun e=>hne (hinj e)) b' (OC.hC.2 hb') (OC.hC.2 hb2)⟩
 have ha:aY (fun (x:BV) v=>x.rel h (fun k=>ρ (swp a b k)) v) args vals:=((gC _).trans (jo fun a u=>BV.eX)).1 hargs
 refine (hm w h _ vals tb hag hl ha).mono ?_
 rintro e w' (⟨v,own1,res1,h',ρ',_,hp,_⟩ | ⟨pv',rfl,hpv,h',ρ',hw⟩)
 ·exact hp.elim
 have hlt:∀ b',mY (TB:=TB) ⟨w,h,fun k=>ρ (swp a b k),tb⟩ ⟨0,aG own,aH own,[]⟩ b' ↔ mY (TB:=TB) ⟨w,h,ρ,tb⟩ ⟨0,aG (rJ (swp a b) own),aH (rJ (swp a b) own),[]⟩ b':=fun b'=>by
  constructor
  ·rintro ⟨k,hk,hb⟩
   exact ⟨swp a b k,by show _ ∈ aH _; rw [lX]; exact List.mem_map.2 ⟨k,hk,rfl⟩,hb⟩
  ·rintro ⟨k,hk,hb⟩
   have hk':k ∈ (aH own).map (swp a b):=by rw [← lX]; exact hk
   obtain ⟨k0,hk0,rfl⟩:=List.mem_map.1 hk'
   exact ⟨k0,hk0,hb⟩
 refine .inr ⟨pv',rfl,hpv,h',fun k=>ρ' (swp a b k),⟨hw.agree,hw.le,fun b' hb' hn=>hw.fresh b' hb' fun hh=>hn ((hlt b').1 hh),hw.size,fun b' hb' hn=>hw.same b' hb' fun hh=>hn ((hlt b').1 hh),fun k hk=>?_,hw.os,hw.out,fun b' hb'=>hw.nl b' ((hlt b').2 hb'),fun k c hk=>by simp at hk⟩⟩
 have hk':k ∈ (aG own).map (swp a b):=by rw [← nS]; exact hk
 obtain ⟨k0,hk0,rfl⟩:=List.mem_map.1 hk'
 show ρ' (swp a b (swp a b k0)) = _
 rw [gU]; exact hw.fixed k0 hk0
theorem tN {n:Sh} {own0 own':List (Nat × OC)} {res:SV} (h1:jb n own0 own' = true) (h2:iQ own0 own0 own' = true) (h3:iM own' (ep own0 own0) = own') (hk:res.cx own' = true):∀ o r,Is own' res o r → jb n own0 o = true ∧ iQ own0 own0 o = true ∧ iM o (ep own0 own0) = o ∧ r.cx o = true ∧ Is own' res o r:=fun o r h=>by
 obtain ⟨rfl,rfl⟩:=h
 exact ⟨h1,h2,h3,hk,rfl,rfl⟩
section
variable {P:Program} {TB:aV} {E:Env TB} {n:Sh} {s s':St} {dst:Option Nat} {t ty yt:TypeId} {pos:String} {after:Array Edge} {g:Option (Nat × Bool)} {x y c:Operand} {ops:Array Oper} {l:List Oper} {Q:cj} {cd:Code}
theorem zt {T:TypeId} {ps:List CP} {ms:Array (String × TypeId)} (hi:P.underlying t = some (.interface ms)) (hx:s.ev x = some (.b (.one (.yy T ps)))):br P E n ⟨dst,.binOp .neq t x (.const .nilIface) yt,ty,pos,after,g⟩ s (s.put n dst (B true)) :=
 br.val (o:=⟨dst,.binOp .neq t x (.const .nilIface) yt,ty,pos,after,g⟩) fun ac w h ρ hw hs=>by
  obtain ⟨cs,e,_⟩:=(aP hs hx:(CP.yy _ _).rel h _)
  refine ⟨.bool true,?_,rfl⟩
  have h1:∀ d:Nat,(Op.equalIn (d + 1) t (.iface T (.agg cs)) .nilIface).run P w = .ok false w:=fun d=>by simp [Op.equalIn,run_underlying hi]
  have h2:(Op.equal t (.iface T (.agg cs)) .nilIface).run P w = .ok false w:=h1 _
  have h0:eqGuard .neq t x (.const .nilIface) (.iface T (.agg cs)) .nilIface = pure ():=rfl
  simp only [execOp,e,show ac.eval (.const .nilIface) = .nilIface from rfl,h0]
  simp [binOp,h2,Result.andThen]
theorem pY {T st:TypeId} {ps:List CP} {d:TypeDesc} (hu:P.underlying T = some d) (hd:(match d with | .interface _=>false | _=>true) = true) (hx:s.ev x = some (.b (.one (.yy T ps)))):br P E n ⟨dst,.typeAssert x st T false,ty,pos,after,g⟩ s (s.put n dst (.b (.agg ps))) :=
 br.val (o:=⟨dst,.typeAssert x st T false,ty,pos,after,g⟩) fun ac w h ρ hw hs=>by
  obtain ⟨cs,e,hc⟩:=(aP hs hx:(CP.yy _ _).rel h _)
  refine ⟨.agg cs,?_,cs,rfl,hc⟩
  simp only [execOp,e]
  unfold Instr.typeAssert
  rw [Sem.run_bind,Sem.run_bind,run_underlying hu]
  cases d <;> simp at hd <;> simp [Result.andThen]
theorem yg {size:Nat} {zs:List CP} {qs:List BV} {parts:Array (Nat × Operand)} {cps:List (Nat × List BV)} (ht:q9 P t size zs) (hp:mH s parts.toList = some cps) (hf:ve (fun i=>some (i * size,size)) (zs.map .one) cps = some qs) :
  br P E n ⟨dst,.build t parts,ty,pos,after,g⟩ s (s.put n dst (.gT qs)) :=
 br.val (o:=⟨dst,.build t parts,ty,pos,after,g⟩) fun ac w h ρ hw hs=>by
  obtain ⟨it,z,m,e,ie,h1,h2,h3,h4,h5,h6⟩:=ht.info
  obtain ⟨cs,hc1,hc2⟩:=r4 hw hs (fun i=>some (i * size,size)) parts.toList cps (zs.map .one) qs z.cells hp hf (oB (jY h h3))
  refine ⟨.agg cs,?_,cs,rfl,hc2⟩
  have hb:P.built t (parts.map fun (i,x)=>(i,ac.eval x)).toList = some cs:=by
   simp only [Program.built,h1,h4,h2,h5,h6]
   rw [← hc1]
   simp
  have:=run_build (P:=P) w t _ cs hb
  simp only [execOp]
  simp [this]
end
def kv (k k2:Nat) (t1 t2:TypeId) (p1 p2:String) (a1 a2:Array Edge):Array Oper:=#[⟨some k,.call ⟨.builtin .recover,#[],#[]⟩,t1,p1,a1,none⟩,⟨some k2,.assign (.tmp k),t2,p2,a2,none⟩]
theorem rec_pan {P:Program} {k k2:Nat} {t1 t2:TypeId} {p1 p2:String} {a1 a2:Array Edge} {pv:Value} {c₀:Frame} {cs:List Frame} (hu:c₀.mode = .panicking (AO pv)) {Q:Exit → Act → List Frame → World → Prop} {a:Act} {w:World}
  (h:Q .normal ((a.put (some k) pv).put (some k2) ((a.put (some k) pv).eval (.tmp k))) ({ c₀ with mode:=.panicking [{ v:=pv,recovered:=true }] } :: cs) w):wpOpsS P (kv k k2 t1 t2 p1 p2 a1 a2) Q [0,1] a (c₀ :: cs) w:=by
 have e1:(execOp a.eval ⟨some k,.call ⟨.builtin .recover,#[],#[]⟩,t1,p1,a1,none⟩).run P w = .ok .recover w:=rfl
 have e2:recoverD (c₀ :: cs) = some (pv,{ c₀ with mode:=.panicking [{ v:=pv,recovered:=true }] } :: cs):=by
  simp [recoverD,hu,AO]
 have w1:∀ tmps,Region.wanted (⟨some k,.call ⟨.builtin .recover,#[],#[]⟩,t1,p1,a1,none⟩:Oper) (yielded (kv k k2 t1 t2 p1 p2 a1 a2) tmps) = true:=fun _=>rfl
 have w2:∀ tmps,Region.wanted (⟨some k2,.assign (.tmp k),t2,p2,a2,none⟩:Oper) (yielded (kv k k2 t1 t2 p1 p2 a1 a2) tmps) = true:=fun _=>rfl
 have o0:(kv k k2 t1 t2 p1 p2 a1 a2)[0]? = some ⟨some k,.call ⟨.builtin .recover,#[],#[]⟩,t1,p1,a1,none⟩:=rfl
 have o1:(kv k k2 t1 t2 p1 p2 a1 a2)[1]? = some ⟨some k2,.assign (.tmp k),t2,p2,a2,none⟩:=rfl
 simp only [wpOpsS,o0,o1,w1,w2,if_true,e1,e2]
 exact h
theorem Dw {P:Program} {k k2:Nat} {t1 t2:TypeId} {p1 p2:String} {a1 a2:Array Edge} {c₀:Frame} {cs:List Frame} (hu:c₀.mode = .returning) {Q:Exit → Act → List Frame → World → Prop} {a:Act} {w:World}
  (h:Q .normal ((a.put (some k) .nilIface).put (some k2) ((a.put (some k) .nilIface).eval (.tmp k))) (c₀ :: cs) w):wpOpsS P (kv k k2 t1 t2 p1 p2 a1 a2) Q [0,1] a (c₀ :: cs) w:=by
 have e1:(execOp a.eval ⟨some k,.call ⟨.builtin .recover,#[],#[]⟩,t1,p1,a1,none⟩).run P w = .ok .recover w:=rfl
 have e2:recoverD (c₀ :: cs) = none:=by simp [recoverD,hu]
 have w1:∀ tmps,Region.wanted (⟨some k,.call ⟨.builtin .recover,#[],#[]⟩,t1,p1,a1,none⟩:Oper) (yielded (kv k k2 t1 t2 p1 p2 a1 a2) tmps) = true:=fun _=>rfl
 have w2:∀ tmps,Region.wanted (⟨some k2,.assign (.tmp k),t2,p2,a2,none⟩:Oper) (yielded (kv k k2 t1 t2 p1 p2 a1 a2) tmps) = true:=fun _=>rfl
 have o0:(kv k k2 t1 t2 p1 p2 a1 a2)[0]? = some ⟨some k,.call ⟨.builtin .recover,#[],#[]⟩,t1,p1,a1,none⟩:=rfl
 have o1:(kv k k2 t1 t2 p1 p2 a1 a2)[1]? = some ⟨some k2,.assign (.tmp k),t2,p2,a2,none⟩:=rfl
 simp only [wpOpsS,o0,o1,w1,w2,if_true,e1,e2]
 exact h
theorem pc {a:Act} {k:Nat} {v:Value} (h:k < a.tmps.size):(a.put (some k) v).tmps[k]? = some v:=by
 show (a.tmps.setIfInBounds k v)[k]? = some v
 simp [h]
theorem Af {a:Act} {k j:Nat} {v:Value} (h:k ≠ j):(a.put (some k) v).tmps[j]? = a.tmps[j]?:=by
 show (a.tmps.setIfInBounds k v)[j]? = _
 simp [h]
theorem k8 {a:Act} {k:Nat} {v:Value}:(a.put (some k) v).tmps.size = a.tmps.size:=by
 show (a.tmps.setIfInBounds k v).size = _
 simp
theorem oD {a:Act} {k:Nat} {v:Value} (h:a.tmps[k]? = some v):a.eval (.tmp k) = v:=by
 simp [Act.eval,h]
theorem qS.intro {P:Program} {TB:aV} {f:FuncId} {fn:Func} {rid k k2:Nat} {t1 t2:TypeId} {p1 p2:String} {a1 a2:Array Edge} {c:Code} {own own':List (Nat × OC)} {args:List BV} {pv:Value} {z:BV} (m:Nat) (hf:P.funcs[f]? = some fn) (hm:fn.ntmps = m)
  (hb:fn.body = some (.seq (.region rid (kv k k2 t1 t2 p1 p2 a1 a2) false) c)) (hl:args.length ≤ k2) (hk:k2 < k) (hkm:k < m) (hz:∀ h ρ,z.rel h ρ pv)
  (hbody:∀ E:Env TB,ab P E ⟨m,aG own,aH own,[]⟩ c ⟨(k2,.b z) :: jm 0 args,own⟩ (yB P fn E ⟨m,aG own,aH own,[]⟩ (Is own' (.fG [])))):qS P TB f own args pv own':=by
 intro w h ρ vals tb hag hlent hargs
 have hlen:=hargs.length
 refine (callsD_of_wpS (R:=fun e u' w'=>u' = .panicking [{ v:=pv,recovered:=true }] ∧ ja ⟨w,h,ρ,tb⟩ ⟨m,aG own,aH own,[]⟩ (Is own' (.fG [])) e w') hf hb fun c₀ cs hu=>?_).mono ?_
 ·apply wpS_seq
  apply wpS_region
  show wpOpsS P _ _ [0,1] _ _ _
  refine rec_pan hu ?_
  have hsz:(vals.toArray ++ Array.replicate (fn.ntmps - vals.toArray.size) undef).size = m:=by simp [hm]; omega
  generalize ha:({ tmps:=vals.toArray ++ Array.replicate (fn.ntmps - vals.toArray.size) undef,defers:=[] }:Act) = a0
  have hsz0:a0.tmps.size = m:=by rw [← ha]; exact hsz
  have hg:∀ j:Nat,∀ v,vals[j]? = some v → a0.tmps[j]? = some v:=by
   intro j v hv
   have hj:=(List.getElem?_eq_some_iff.1 hv).1
   rw [← ha]
   show (vals.toArray ++ _)[j]? = _
   rw [Array.getElem?_append_left (by simpa using hj)]
   simpa using hv
  have e1:(a0.put (some k) pv).tmps[k]? = some pv:=pc (by omega)
  rw [oD e1]
  show Exit.thenS _ _ _ _ _ _
  refine wpS_of_wp (Code.wp_mono (fun e a' w' he=>?_) (hbody ⟨w,h,ρ,tb⟩ _ w ⟨?_,?_,h,ρ,⟨hag,PH.le_refl h,fun _ _ _=>rfl,Nat.le_refl _,fun _ _ _=>rfl,fun _ _=>rfl,rfl,rfl,?_,?_⟩,?_⟩))
  ·cases e with
   | normal=>obtain ⟨h1,v,h2,h3⟩:=he; exact ⟨h1,_,rfl,v,h2 _ (bW.refl _),rfl,h3⟩
   | ret=>obtain ⟨h1,v,h2,h3⟩:=he; exact ⟨h1,_,rfl,v,h2 _ (bW.refl _),rfl,h3⟩
   | exit _=>exact he.elim
   | goto _=>exact he.elim
   | panic _=>exact he.elim
   | outgrown=>exact he.elim
  ·rw [← ha]; rfl
  ·rw [k8,k8]; exact hsz0
  ·rintro b ⟨q,hq,hb'⟩ o
   obtain ⟨⟨q',c'⟩,hm',rfl⟩:=List.mem_map.1 hq
   exact ((hlent q' c' hm').2.1 b (.inl hb')).2 o
  ·intro q c' hc'
   obtain ⟨h1,h3,h4⟩:=hlent q c' hc'
   exact ⟨h1,fun b hb'=>⟨.inr ⟨q,List.mem_map.2 ⟨(q,c'),hc',rfl⟩,(h3 b hb').1⟩,(h3 b hb').2⟩,h4⟩
  ·intro q x hx
   rcases List.mem_cons.1 hx with hx | hx
   ·cases hx
    exact ⟨pv,pc (by rw [k8]; omega),hz h ρ⟩
   ·obtain ⟨j,z',rfl,hz',rfl⟩:=ic hx
    obtain ⟨v,hv,hr⟩:=hargs.get j z' hz'
    have hj:=(List.getElem?_eq_some_iff.1 hz').1
    refine ⟨v,?_,hr⟩
    rw [Af (by omega),Af (by omega)]
    rw [Nat.zero_add]
    exact hg j v hv
 ·rintro e u' w' ⟨rfl,v,own'',res,h',ρ',e1,e2,e3,e4⟩
  exact ⟨rfl,v,own'',res,h',ρ',e1,e2,WR.sh (n:=⟨m,aG own,aH own,[]⟩) (n':=⟨0,aG own,aH own,[]⟩) rfl rfl e3,e4⟩
theorem xp.intro {P:Program} {f:FuncId} {fn:Func} {rid rid2 k k2 k3 k4 m:Nat} {t1 t2 t3 t4 t5 t6:TypeId} {p1 p2 p3 p4:String} {a1 a2 a3 a4:Array Edge} {c:Code} (hf:P.funcs[f]? = some fn) (hr:fn.results = #[])
  (hb:fn.body = some (.seq (.region rid (kv k k2 t1 t2 p1 p2 a1 a2) false) (.seq (.region rid2 #[⟨some k3,.move (.tmp k2),t3,p3,a3,none⟩,⟨some k4,.binOp .neq t4 (.tmp k3) (.const .nilIface) t5,t6,p4,a4,none⟩] false) (.cond (.tmp k4) c .skip))))
  {ms:Array (String × TypeId)} (hi:P.underlying t4 = some (.interface ms)) (hm:m ≤ fn.ntmps) (h1:k < fn.ntmps) (h2:k2 < fn.ntmps) (h3:k3 < fn.ntmps) (h4:k4 < fn.ntmps):xp P f m:=by
 intro vals w hlen
 refine callsD_of_wpS hf hb fun c₀ cs hu=>?_
 have hsz:(vals.toArray ++ Array.replicate (fn.ntmps - vals.toArray.size) undef).size = fn.ntmps:=by simp; omega
 generalize ha:({ tmps:=vals.toArray ++ Array.replicate (fn.ntmps - vals.toArray.size) undef,defers:=[] }:Act) = a0
 have hsz0:a0.tmps.size = fn.ntmps:=by rw [← ha]; exact hsz
 have hd0:a0.defers = []:=by rw [← ha]
 apply wpS_seq
 apply wpS_region
 show wpOpsS P _ _ [0,1] _ _ _
 refine Dw hu ?_
 have e1:(a0.put (some k) .nilIface).tmps[k]? = some .nilIface:=pc (by omega)
 rw [oD e1]
 generalize ha1:(a0.put (some k) .nilIface).put (some k2) .nilIface = a1'
 have hsz1:a1'.tmps.size = fn.ntmps:=by rw [← ha1,k8,k8]; exact hsz0
 have hd1:a1'.defers = []:=by rw [← ha1]; exact hd0
 have g1:a1'.tmps[k2]? = some .nilIface:=by rw [← ha1]; exact pc (by rw [k8]; omega)
 refine wpS_of_wp ?_
 apply wp_seq
 apply wp_region
 show wpOps P _ _ [0,1] a1' w
 have r1:(execOp a1'.eval ⟨some k3,.move (.tmp k2),t3,p3,a3,none⟩).run P w = .ok (.value .nilIface) w:=by
  show (pure (Next.value (a1'.eval (.tmp k2))):Sem Next).run P w = _
  rw [oD g1]; rfl
 generalize ha2:a1'.put (some k3) .nilIface = a2'
 have hsz2:a2'.tmps.size = fn.ntmps:=by rw [← ha2,k8]; exact hsz1
 have hd2:a2'.defers = []:=by rw [← ha2]; exact hd1
 have g2:a2'.tmps[k3]? = some .nilIface:=by rw [← ha2]; exact pc (by omega)
 have r2:(execOp a2'.eval ⟨some k4,.binOp .neq t4 (.tmp k3) (.const .nilIface) t5,t6,p4,a4,none⟩).run P w = .ok (.value (.bool false)) w:=by
  have h1:∀ d:Nat,(Op.equalIn (d + 1) t4 .nilIface .nilIface).run P w = .ok true w:=fun d=>by simp [Op.equalIn,run_underlying hi]
  have h2:(Op.equal t4 .nilIface .nilIface).run P w = .ok true w:=h1 _
  simp only [execOp,oD g2,show a2'.eval (.const .nilIface) = .nilIface from rfl,eqGuard_nil_constR]
  simp [binOp,h2,Result.andThen]
 have w1:∀ tmps,Region.wanted (⟨some k3,.move (.tmp k2),t3,p3,a3,none⟩:Oper) tmps = true:=fun _=>rfl
 have w2:∀ tmps,Region.wanted (⟨some k4,.binOp .neq t4 (.tmp k3) (.const .nilIface) t5,t6,p4,a4,none⟩:Oper) tmps = true:=fun _=>rfl
 simp only [wpOps,List.getElem?_toArray,List.getElem?_cons_zero,List.getElem?_cons_succ,w1,w2,if_true,Oper.wp,r1,Oper.upon,ha2,r2]
 have g3:(a2'.put (some k4) (.bool false)).tmps[k4]? = some (.bool false):=pc (by omega)
 refine .inl (.inl ?_)
 show Code.wp P (.cond (.tmp k4) c .skip) _ _ _
 refine wp_cond (t:=false) (oD g3) ?_
 refine wp_skip ?_
 refine ⟨hd2,.returning,?_,.tuple #[],?_,⟨_,rfl⟩,rfl,rfl⟩
 ·rw [← hu]
 ·simp [results,hr]
end Go.Sk
namespace Go.Sk
set_option linter.unusedSimpArgs false
set_option linter.unusedVariables false
open Go Go.BigFrame
structure qA (P:Program) (f:FuncId) (e:Array Value → Sem Value):Prop where
 info:∃ fn,P.funcs[f]? = some fn ∧ (fn.name == "runtime.NumGoroutine") = false ∧ fn.body.isNone = true ∧ Extern.findNext fn = none ∧ Extern.find fn = some e
theorem frozen0 {w:World} {b o:Nat} {cur:Array Value} {T:TypeId} (hb:w.heap[b]? = some (.cells cur T (0,0))):w.frozen? ⟨b,o,none⟩ = false:=by
 simp [World.frozen?,hb]
theorem oH {w:World} {b o:Nat} {cur:Array Value} {T:TypeId} (hb:w.heap[b]? = some (.cells cur T (0,0))) (v:Value):w.setCell ⟨b,o,none⟩ v = w.setRow b (cur.toList.set o v).toArray:=by
 have h1:(cur.toList.set o v).toArray = cur.setIfInBounds o v:=by
  apply Array.ext'; simp
 rw [h1]
 unfold World.setCell World.setRow
 congr 1
 apply Array.ext_getElem?
 intro i
 simp only [Array.getElem?_modify]
 split
 ·next e=>subst e; simp [hb]
 ·rfl
section
variable {P:Program} {TB:aV} {E:Env TB} {n:Sh} {s s':St} {dst:Option Nat} {t ty yt:TypeId} {pos:String} {after:Array Edge} {g:Option (Nat × Bool)} {x y z c:Operand} {ops:Array Oper} {l:List Oper} {Q:cj} {cd:Code}
theorem pg {f:FuncId} {xs:Array Operand} {ats:Array TypeId} (a:Act) (w:World):(execOp a.eval ⟨dst,.call ⟨.value (.func f),xs,ats⟩,ty,pos,after,g⟩).run P w = (callFunc f (xs.toList.map a.eval).toArray).run P w:=by
 rw [show execOp a.eval ⟨dst,.call ⟨.value (.func f),xs,ats⟩,ty,pos,after,g⟩ = callFunc f (#[] ++ xs.map a.eval ++ #[]) from rfl]
 congr 2
 apply Array.ext'
 simp
theorem qZ {f:FuncId} {m:Mark} {ats:Array TypeId} (hf:qA P f (fun _=>do _root_.Go.mark m; pure Extern.Race.none_)):br P E n ⟨dst,.call ⟨.value (.func f),#[],ats⟩,ty,pos,after,g⟩ s (s.put n dst (.fG [])) :=
 br.val (o:=⟨dst,.call ⟨.value (.func f),#[],ats⟩,ty,pos,after,g⟩) fun ac w h ρ hw hs=>by
  obtain ⟨fn,h1,h2,h3,h4,h5⟩:=hf.info
  exact ⟨.tuple #[],by rw [pg]; exact run_call_mark0 h1 h2 h3 h4 m h5 w,_,rfl,.nil⟩
theorem vA {f:FuncId} {m:Addr → Mark} {ats:Array TypeId} {k o:Nat} (hf:qA P f (Extern.Race.marked m)) (hx:s.ev x = some (.b (.ptr k o))):br P E n ⟨dst,.call ⟨.value (.func f),#[x],ats⟩,ty,pos,after,g⟩ s (s.put n dst (.fG [])) :=
 br.val (o:=⟨dst,.call ⟨.value (.func f),#[x],ats⟩,ty,pos,after,g⟩) fun ac w h ρ hw hs=>by
  obtain ⟨fn,h1,h2,h3,h4,h5⟩:=hf.info
  obtain ⟨b,he,hv⟩:=(aP hs hx:BV.rel h ρ (.ptr k o) _)
  refine ⟨.tuple #[],?_,_,rfl,.nil⟩
  rw [pg]
  simp only [List.map_cons,List.map_nil,hv]
  exact run_call_marked h1 h2 h3 h4 m h5 _ w
theorem vz {src d t0:TypeId} {k o:Nat} {T:TypeId} {ps:List CP} {p:CP} (h1:P.underlying src = some (.pointer t0)) (h2:P.underlying d = some .unsafePointer) (h3:(P.info? t0).map (fun i=>decide (i.size = 0)) = some false) (hx:s.ev x = some (.b (.ptr k o))) (hk:lk s.own k = some (.box T ps)) (hp:ps[o]? = some p) :
  br P E n ⟨dst,.convert src d x,ty,pos,after,g⟩ s (s.put n dst (.b (.ptr k o))) :=
 br.val (o:=⟨dst,.convert src d x,ty,pos,after,g⟩) fun ac w h ρ hw hs=>by
  obtain ⟨b,he,hv⟩:=(aP hs hx:BV.rel h ρ (.ptr k o) _)
  obtain ⟨b',cur,hb1,hb2,hb3⟩:=dr hw hk
  have:b' = b:=by rw [hb1] at he; simpa using he
  subst this
  obtain ⟨u,hu,hpu⟩:=hb3.get o p hp
  refine ⟨.pointer (some ⟨b',o,none⟩),?_,b',he,rfl⟩
  simp only [execOp,hv]
  have:=run_convert_to_unsafe (P:=P) h1 h2 h3 (a:=⟨b',o,none⟩) (w:=w) (v:=u) (by rw [dJ hb2]; simpa using hu)
  simp [this]
theorem DE {f:FuncId} {ats:Array TypeId} {k o:Nat} {kk:IntKind} {i:Int} {T:TypeId} {ps:List CP} (hf:qA P f (Extern.Atomic.loadT (.int kk))) (hx:s.ev x = some (.b (.ptr k o))) (hk:lk s.own k = some (.box T ps)) (hp:ps[o]? = some (.int kk i)) :
  br P E n ⟨dst,.call ⟨.value (.func f),#[x],ats⟩,ty,pos,after,g⟩ s (s.put n dst (.b (.one (.int kk i)))) :=
 br.val (o:=⟨dst,.call ⟨.value (.func f),#[x],ats⟩,ty,pos,after,g⟩) fun ac w h ρ hw hs=>by
  obtain ⟨fn,h1,h2,h3,h4,h5⟩:=hf.info
  obtain ⟨b,he,hv⟩:=(aP hs hx:BV.rel h ρ (.ptr k o) _)
  obtain ⟨b',cur,hb1,hb2,hb3⟩:=dr hw hk
  have:b' = b:=by rw [hb1] at he; simpa using he
  subst this
  obtain ⟨u,hu,hpu⟩:=hb3.get o _ hp
  obtain ⟨rfl,hr⟩:u = .int kk i ∧ jU kk i:=hpu
  refine ⟨.int kk i,?_,rfl,hr⟩
  rw [pg]
  simp only [List.map_cons,List.map_nil,hv]
  exact run_call_load h1 h2 h3 h4 kk h5 (by rw [dJ hb2]; simpa using hu)
theorem br.cell {o:Oper} {own':List (Nat × OC)} {res:SV}
  (H:∀ (a:Act) (w:World) (h:PH) (ρ:RM),WR E n s.own h ρ w → bI h ρ s.slots a.tmps → ∃ v w',(execOp a.eval o).run P w = .ok (.value v) w' ∧ WR E n own' h ρ w' ∧ res.rel h ρ v):br P E n o s ((⟨s.slots,own'⟩:St).put n o.dst res):=by
 intro a w ⟨hdf,hn,h,ρ,hw,hs⟩ next Q hnext
 obtain ⟨v,w',hv,hw',hr⟩:=H a w h ρ hw hs
 unfold Oper.wp
 rw [hv]
 exact hnext _ _ (R.put (s:=⟨s.slots,own'⟩) hdf hn hw' hs hr)
theorem op_cas {f:FuncId} {ats:Array TypeId} {k o:Nat} {kk:IntKind} {i j:Int} {T:TypeId} {ps ps':List CP} (hf:qA P f (Extern.Atomic.casT (.int kk))) (hx:s.ev x = some (.b (.ptr k o))) (hk:lk s.own k = some (.box T ps)) (hp:ps[o]? = some (.int kk i)) (hy:s.ev y = some (.b (.one (.int kk i)))) (hz:s.ev z = some (.b (.one (.int kk j)))) (hps:ps.set o (.int kk j) = ps') :
  br P E n ⟨dst,.call ⟨.value (.func f),#[x,y,z],ats⟩,ty,pos,after,g⟩ s ((⟨s.slots,ins k (.box T ps') s.own⟩:St).put n dst (B true)) :=
 br.cell (o:=⟨dst,.call ⟨.value (.func f),#[x,y,z],ats⟩,ty,pos,after,g⟩) fun ac w h ρ hw hs=>by
  obtain ⟨fn,h1,h2,h3,h4,h5⟩:=hf.info
  obtain ⟨b,he,hv⟩:=(aP hs hx:BV.rel h ρ (.ptr k o) _)
  obtain ⟨b',cur,hb1,hb2,hb3⟩:=dr hw hk
  have:b' = b:=by rw [hb1] at he; simpa using he
  subst this
  obtain ⟨u,hu,hpu⟩:=hb3.get o _ hp
  obtain ⟨rfl,hr⟩:u = .int kk i ∧ jU kk i:=hpu
  refine ⟨.bool true,w.setCell ⟨b',o,none⟩ (.int kk j),?_,?_,rfl⟩
  ·rw [pg]
   simp only [List.map_cons,List.map_nil,hv,(bX hs hy).1,(bX hs hz).1]
   exact run_call_cas_hit h1 h2 h3 h4 kk h5 (y:=j) (by rw [dJ hb2]; simpa using hu) (frozen0 hb2)
  ·rw [oH hb2]
   refine hw.tJ hk hb1 hb2 ?_
   rw [← hps]
   exact aY.set hb3 o ⟨rfl,(bX hs hz).2⟩
theorem op_aadd {f:FuncId} {ats:Array TypeId} {k o:Nat} {kk:IntKind} {i j r:Int} {T:TypeId} {ps ps':List CP} (hf:qA P f (Extern.Atomic.update (Op.intArith .add) kk true)) (hx:s.ev x = some (.b (.ptr k o))) (hk:lk s.own k = some (.box T ps)) (hp:ps[o]? = some (.int kk i)) (hy:s.ev y = some (.b (.one (.int kk j)))) (hr:kk.wrap (i + j) = r) (hin:jU kk r) (hps:ps.set o (.int kk r) = ps') :
  br P E n ⟨dst,.call ⟨.value (.func f),#[x,y],ats⟩,ty,pos,after,g⟩ s ((⟨s.slots,ins k (.box T ps') s.own⟩:St).put n dst (.b (.one (.int kk r)))) :=
 br.cell (o:=⟨dst,.call ⟨.value (.func f),#[x,y],ats⟩,ty,pos,after,g⟩) fun ac w h ρ hw hs=>by
  obtain ⟨fn,h1,h2,h3,h4,h5⟩:=hf.info
  obtain ⟨b,he,hv⟩:=(aP hs hx:BV.rel h ρ (.ptr k o) _)
  obtain ⟨b',cur,hb1,hb2,hb3⟩:=dr hw hk
  have:b' = b:=by rw [hb1] at he; simpa using he
  subst this
  obtain ⟨u,hu,hpu⟩:=hb3.get o _ hp
  obtain ⟨rfl,hri⟩:u = .int kk i ∧ jU kk i:=hpu
  refine ⟨.int kk r,w.setCell ⟨b',o,none⟩ (.int kk r),?_,?_,rfl,hin⟩
  ·rw [pg]
   simp only [List.map_cons,List.map_nil,hv,(bX hs hy).1]
   exact run_call_add h1 h2 h3 h4 kk h5 (y:=j) (s:=r) (by rw [dJ hb2]; simpa using hu) (frozen0 hb2) (by rw [← hr]; rfl)
  ·rw [oH hb2]
   refine hw.tJ hk hb1 hb2 ?_
   rw [← hps]
   exact aY.set hb3 o ⟨rfl,hin⟩
theorem Bt {f:FuncId} {ats:Array TypeId} {k o:Nat} {kk:IntKind} {j:Int} {T:TypeId} {ps ps':List CP} {p:CP} (hf:qA P f Extern.Atomic.storeT) (hx:s.ev x = some (.b (.ptr k o))) (hk:lk s.own k = some (.box T ps)) (hp:ps[o]? = some p) (hy:s.ev y = some (.b (.one (.int kk j)))) (hps:ps.set o (.int kk j) = ps') :
  br P E n ⟨dst,.call ⟨.value (.func f),#[x,y],ats⟩,ty,pos,after,g⟩ s ((⟨s.slots,ins k (.box T ps') s.own⟩:St).put n dst (.fG [])) :=
 br.cell (o:=⟨dst,.call ⟨.value (.func f),#[x,y],ats⟩,ty,pos,after,g⟩) fun ac w h ρ hw hs=>by
  obtain ⟨fn,h1,h2,h3,h4,h5⟩:=hf.info
  obtain ⟨b,he,hv⟩:=(aP hs hx:BV.rel h ρ (.ptr k o) _)
  obtain ⟨b',cur,hb1,hb2,hb3⟩:=dr hw hk
  have:b' = b:=by rw [hb1] at he; simpa using he
  subst this
  obtain ⟨u,hu,hpu⟩:=hb3.get o _ hp
  refine ⟨.tuple #[],w.setCell ⟨b',o,none⟩ (.int kk j),?_,?_,_,rfl,.nil⟩
  ·rw [pg]
   simp only [List.map_cons,List.map_nil,hv,(bX hs hy).1]
   exact run_call_store h1 h2 h3 h4 h5 (u:=u) (by rw [dJ hb2]; simpa using hu) (frozen0 hb2)
  ·rw [oH hb2]
   refine hw.tJ hk hb1 hb2 ?_
   rw [← hps]
   exact aY.set hb3 o ⟨rfl,(bX hs hy).2⟩
theorem ab.loopN (m:Nat) (h:ab P E n cd s (Exit.then (Code.rounds P cd Q m) Q)):ab P E n (.loop cd) s Q:=fun a w hr=>wp_loop_rounds (m + 1) (h a w hr)
theorem Fin.round {m:Nat} (h:ab P E n cd s (Exit.then (Code.rounds P cd Q m) Q)):Fin E n .normal s (Exit.then (Code.rounds P cd Q (m + 1)) Q):=fun a w hr=>h a w hr
def CP.vS (T:TypeId) (ps:List CP):CP:=⟨fun h v=>∃ u,v = .iface T u ∧ (CP.rp ps).rel h u,fun hl ⟨u,e,hr⟩=>⟨u,e,(CP.rp ps).mono hl hr⟩,fun ⟨u,e,_⟩=>by rw [e]; rfl⟩
theorem zx {T:TypeId} {ps:List CP} (hc:P.concrete T = true) (hx:s.ev x = some (.b (.cW ps))):br P E n ⟨dst,.makeInterface T x,ty,pos,after,g⟩ s (s.put n dst (.b (.one (.vS T ps)))) :=
 br.val (o:=⟨dst,.makeInterface T x,ty,pos,after,g⟩) fun ac w h ρ hw hs=>by
  have hr:=(aP hs hx:BV.rel h ρ (.cW ps) _)
  refine ⟨.iface T (ac.eval x),?_,_,rfl,hr⟩
  show (do let v ← Instr.makeInterface T (ac.eval x); pure (Next.value v):Sem Next).run P w = _
  rw [Sem.run_bind,run_makeInterface _ _ _ hc]
  rfl
theorem DD {f:FuncId} {T:TypeId} {ps:List CP} {nm:String} {own_a own':List (Nat × OC)} {zs:List BV} {xs:Array Operand} {ats:Array TypeId} {res:SV} (hspec:ax P TB f own_a (.cW ps :: zs) (Is own' res)) (hm:∀ (u:Value) (args:Array Value) (w:World),(callMethod (.iface T u) nm args).run P w = .ok (.enter f (#[u] ++ args)) w) (hx:s.ev x = some (.b (.one (.vS T ps)))) (ha:gw s xs.toList = some zs) (hl:gv s.own own_a)
  (hok:jb n own_a own' = true) (hki:res.cx own' = true) (hcl:iQ s.own own_a own' = true:=by rfl):br P E n ⟨dst,.call ⟨.invoke x nm,xs,ats⟩,ty,pos,after,g⟩ s (s.aft n own_a own' dst res) :=
 fun _ _ hr _ _ hnext=>uR hspec (fun a w h ρ hw hs=>by
  obtain ⟨u,hv,hu⟩:=(aP hs hx:(CP.vS T ps).rel h _)
  refine ⟨u :: xs.toList.map a.eval,?_,.cons hu (gF hs ha)⟩
  have e1:execOp a.eval ⟨dst,.call ⟨.invoke x nm,xs,ats⟩,ty,pos,after,g⟩ = invoke (.fn (.method nm) #[]) (#[a.eval x] ++ xs.map a.eval):=rfl
  rw [e1,hv]
  have e2:invoke (.fn (.method nm) #[]) (#[.iface T u] ++ xs.map a.eval) = callMethod (.iface T u) nm (xs.map a.eval):=by
   have h0:(#[Value.iface T u] ++ xs.map a.eval)[0]? = some (.iface T u):=by
    rw [Array.getElem?_append_left (by simp)]; rfl
   have h3:(#[Value.iface T u] ++ xs.map a.eval).extract 1 (#[Value.iface T u] ++ xs.map a.eval).size = xs.map a.eval:=by
    apply Array.ext'
    simp [Array.toList_extract,List.extract]
    exact List.take_of_length_le (by simp)
   unfold invoke
   simp only [h0,h3]
  rw [e2,hm]
  congr 2
  apply Array.ext'
  simp) hl hr fun _ _ hp=>by
  obtain ⟨rfl,rfl⟩:=hp
  exact ⟨hok,hcl,hki,hnext⟩
end
def qk (P:Program) (TB:aV) (f:FuncId) (own:List (Nat × OC)) (args:List BV) (own':List (Nat × OC)):Prop :=
 ∀ (w:World) (h:PH) (ρ:RM) (vals:List Value) (tb:cS TB h w),lM h w → xg own h ρ w → aY (fun (x:BV) v=>x.rel h ρ v) args vals →
  ∀ u,CallsD P f vals.toArray u w fun e u' w'=>u' = u ∧ ja ⟨w,h,ρ,tb⟩ ⟨0,aG own,aH own,[]⟩ (Is own' (.fG [])) e w'
theorem qk.intro {P:Program} {TB:aV} {f:FuncId} {fn:Func} {c:Code} {own own':List (Nat × OC)} {args:List BV} (m:Nat) (hf:P.funcs[f]? = some fn) (hm:fn.ntmps = m) (hb:fn.body = some c) (hl:args.length ≤ m)
  (hbody:∀ E:Env TB,ab P E ⟨m,aG own,aH own,[]⟩ c ⟨jm 0 args,own⟩ (yB P fn E ⟨m,aG own,aH own,[]⟩ (Is own' (.fG [])))):qk P TB f own args own':=by
 intro w h ρ vals tb hag hlent hargs u
 have hlen:=hargs.length
 refine (callsD_of_wp (R:=ja ⟨w,h,ρ,tb⟩ ⟨m,aG own,aH own,[]⟩ (Is own' (.fG []))) hf hb (wp_mono (hbody ⟨w,h,ρ,tb⟩ _ w ⟨rfl,?_,h,ρ,⟨hag,PH.le_refl h,fun _ _ _=>rfl,Nat.le_refl _,fun _ _ _=>rfl,fun _ _=>rfl,rfl,rfl,?_,?_⟩,?_⟩) (yB.body rfl))).mono ?_
 ·simp [hm]; omega
 ·rintro b ⟨k,hk,hb⟩ o
  obtain ⟨⟨k',c⟩,hm',rfl⟩:=List.mem_map.1 hk
  exact ((hlent k' c hm').2.1 b (.inl hb)).2 o
 ·intro k c hc
  obtain ⟨h1,h3,h4⟩:=hlent k c hc
  exact ⟨h1,fun b hb=>⟨.inr ⟨k,List.mem_map.2 ⟨(k,c),hc,rfl⟩,(h3 b hb).1⟩,(h3 b hb).2⟩,h4⟩
 ·intro k x hx
  obtain ⟨j,z,rfl,hz,rfl⟩:=ic hx
  obtain ⟨v,hv,hr⟩:=hargs.get j z hz
  refine ⟨v,?_,hr⟩
  have hj:=(List.getElem?_eq_some_iff.1 hv).1
  rw [Nat.zero_add,Array.getElem?_append_left (by simpa using hj)]
  simpa using hv
 ·rintro e u' w' ⟨e0,v,own',res,h',ρ',e1,e2,e3,e4⟩
  exact ⟨e0,v,own',res,h',ρ',e1,e2,WR.sh (n:=⟨m,aG own,aH own,[]⟩) (n':=⟨0,aG own,aH own,[]⟩) rfl rfl e3,e4⟩
inductive DA where
 | ptr (k off:Nat)
 | bool (b:Bool)
def DA.bv:DA → BV
 | .ptr k off=>.ptr k off
 | .bool b=>.one (.bool b)
def DA.val {TB:aV} (E:Env TB):DA → Value
 | .ptr k off=>match E.ρ0 k with
  | .pointer (some a)=>.pointer (some ⟨a.block,off,none⟩)
  | v=>v
 | .bool b=>.bool b
def DA.ok (fix:List Nat) (own:List (Nat × OC)):DA → Bool
 | .ptr k _=>fix.contains k && (match lk own k with | some (.box _ _)=>true | _=>false)
 | .bool _=>true
theorem DA.rel {TB:aV} {E:Env TB} {n:Sh} {own:List (Nat × OC)} {h:PH} {ρ:RM} {w:World} (hw:WR E n own h ρ w):∀ {l:List DA},l.all (DA.ok n.fix own) = true → aY (fun (x:BV) v=>x.rel h ρ v) (l.map DA.bv) (l.map (DA.val E))
 | [],_=>.nil
 | x :: l,hk=>by
  rw [List.all_cons,Bool.and_eq_true] at hk
  refine .cons ?_ (DA.rel hw hk.2)
  have h1:=hk.1
  cases x with
  | bool b=>rfl
  | ptr k off=>
   simp only [DA.ok,Bool.and_eq_true] at h1
   obtain ⟨h2,h3⟩:=h1
   split at h3
   ·next T ps e=>
    obtain ⟨b,cur,hb1,hb2,hb3⟩:=dr hw e
    refine ⟨b,hb1,?_⟩
    have:=hw.fixed k (by simpa using h2)
    simp only [DA.val,← this,hb1]
   ·cases h3
theorem DA.eq {TB:aV} {E:Env TB} {n:Sh} {own:List (Nat × OC)} {h:PH} {ρ:RM} {w:World} (hw:WR E n own h ρ w):∀ {l:List DA} {vs:List Value},l.all (DA.ok n.fix own) = true → aY (fun (x:BV) v=>x.rel h ρ v) (l.map DA.bv) vs → vs = l.map (DA.val E)
 | [],_,_,.nil=>rfl
 | x :: l,v :: vs,hk,hr=>by
  rw [List.all_cons,Bool.and_eq_true] at hk
  cases hr with
  | cons h0 h4=>
  rw [DA.eq hw hk.2 h4,List.map_cons]
  congr 1
  have h1:=hk.1
  cases x with
  | bool b=>exact h0
  | ptr k off=>
   simp only [DA.ok,Bool.and_eq_true] at h1
   obtain ⟨b,hb1,rfl⟩:=h0
   have:=hw.fixed k (by simpa using h1.1)
   simp only [DA.val,← this,hb1]
section
variable {P:Program} {TB:aV} {E:Env TB} {n:Sh} {s s':St} {dst:Option Nat} {t ty yt:TypeId} {pos:String} {after:Array Edge} {g:Option (Nat × Bool)} {x y z c:Operand} {ops:Array Oper} {l:List Oper} {Q:cj} {cd:Code}
theorem ae.C8 {f:FuncId} {das:List DA} {xs:Array Operand} {ats:Array TypeId} (hk:das.all (DA.ok n.fix s.own) = true) (ha:gw s xs.toList = some (das.map DA.bv))
  (h:ae P E ⟨n.n,n.fix,n.lnd,⟨.fn (.func f) #[],(das.map (DA.val E)).toArray⟩ :: n.dfs⟩ ops l s Q):ae P E n ops (⟨none,.defer ⟨.value (.func f),xs,ats⟩,ty,pos,after,none⟩ :: l) s Q:=by
 intro a w hr
 unfold yC
 have:∀ tmps,Region.wanted ⟨none,.defer ⟨.value (.func f),xs,ats⟩,ty,pos,after,none⟩ (yielded ops tmps) = true:=fun _=>rfl
 simp only [this,if_true]
 obtain ⟨hdf,hsz,h1,ρ,hw,hs⟩:=hr
 have hv:=DA.eq hw hk (gF hs ha)
 have hrun:(execOp a.eval ⟨none,.defer ⟨.value (.func f),xs,ats⟩,ty,pos,after,none⟩).run P w = .ok (.defer ⟨.fn (.func f) #[],(das.map (DA.val E)).toArray⟩) w:=by
  have e1:execOp a.eval ⟨none,.defer ⟨.value (.func f),xs,ats⟩,ty,pos,after,none⟩ = (pure (.defer ⟨.fn (.func f) #[],#[] ++ xs.map a.eval⟩):Sem Next):=rfl
  rw [e1,← hv]
  have e2:(#[] ++ xs.map a.eval) = (xs.toList.map a.eval).toArray:=by apply Array.ext'; simp
  rw [e2]
  rfl
 unfold Oper.wp
 rw [hrun]
 refine h { a with defers:=⟨.fn (.func f) #[],(das.map (DA.val E)).toArray⟩ :: a.defers } w ⟨?_,hsz,h1,ρ,WR.sh (n:=n) (n':=⟨n.n,n.fix,n.lnd,_⟩) rfl rfl hw,hs⟩
 show _ :: a.defers = _
 rw [hdf]
theorem Fin.runD {fn:Func} {post:dN} {e:Exit} {f:FuncId} {das:List DA} {own_a own':List (Nat × OC)} {ds:List Deferred} {m:Nat} {fix lnd:List Nat} (he:e = .ret ∨ e = .normal) (hm:qk P TB f own_a (das.map DA.bv) own') (hg:bB P f) (hk:das.all (DA.ok fix s.own) = true) (hl:gv s.own own_a)
  (hok:jb ⟨m,fix,lnd,[]⟩ own_a own' = true) (hcl:iQ s.own own_a own' = true)
  (h:Fin E ⟨m,fix,lnd,ds⟩ .ret ⟨kO own_a own' s.slots,iM own' (ep own_a s.own)⟩ (AS P fn E ⟨m,fix,lnd,[]⟩ post)) :
  Fin E ⟨m,fix,lnd,⟨.fn (.func f) #[],(das.map (DA.val E)).toArray⟩ :: ds⟩ e s (AS P fn E ⟨m,fix,lnd,[]⟩ post):=by
 have key:∀ (a:Act) (w:World),R E ⟨m,fix,lnd,⟨.fn (.func f) #[],(das.map (DA.val E)).toArray⟩ :: ds⟩ s a w → Leaves P fn a.tmps (ja E ⟨m,fix,lnd,[]⟩ post) a.defers .returning w:=by
  rintro a w ⟨hdf,hsz,h1,ρ,hw0,hs⟩
  have hw:WR E ⟨m,fix,lnd,[]⟩ s.own h1 ρ w:=WR.sh (n:=⟨m,fix,lnd,(⟨.fn (.func f) #[],(das.map (DA.val E)).toArray⟩:Deferred) :: ds⟩) (n':=⟨m,fix,lnd,[]⟩) rfl rfl hw0
  rw [show a.defers = _ from hdf]
  refine leaves_cons (f:=f) (args:=(das.map (DA.val E)).toArray) (by simp) ?_ ?_
  ·have e1:invoke (.fn (.func f) #[]) (das.map (DA.val E)).toArray = callFunc f ((das.map (DA.val E)).toArray ++ #[]):=rfl
   rw [e1,hg.run]
   simp
  have hla:=iT hl
  refine (hm w h1 ρ _ hw.bh hw.agree (pe hw hla (ig hl)) (DA.rel hw hk) .returning).mono ?_
  rintro e' u' w' ⟨rfl,v,own1,res,h',ρ',rfl,⟨rfl,rfl⟩,hwr,hrel⟩
  have hwc:=hw.call hla hwr hok hcl
  refine h { a with defers:=ds } w' ⟨rfl,hsz,h',_,WR.sh (n:=⟨m,fix,lnd,[]⟩) (n':=⟨m,fix,lnd,ds⟩) rfl rfl hwc,fun k x hx=>?_⟩
  obtain ⟨h3,h2⟩:=ko hx
  obtain ⟨u,hu,hrel⟩:=hs k x h3
  refine ⟨u,hu,SV.mono hwr.le (fun j hj=>?_) hrel⟩
  by_cases hin:j ∈ aH own1
  ·rw [gX hin]
   by_cases hia:j ∈ aG own_a
   ·exact hwr.fixed j hia
   ·have:=h2 j hin hia; simp [this] at hj
  ·exact iC hin
 rcases he with rfl | rfl <;> exact key
end
end Go.Sk
namespace Go.Sk
set_option linter.unusedSimpArgs false
set_option linter.unusedVariables false
open Go Go.BigFrame
def CP.slb (xs:List Int):CP:=⟨fun h v=>(CP.sl 1 (xs.map (eK .u8))).rel h v ∧ (xs = [] → v = .slice none 0 0),fun hl x=>⟨(CP.sl 1 (xs.map (eK .u8))).mono hl x.1,x.2⟩,fun x=>(CP.sl 1 (xs.map (eK .u8))).one x.1⟩
def eO (f:Nat → List Int) (rest:List CP):List CP:=(List.range 256).map (fun i=>CP.slb (f i)) ++ rest
theorem xu {f:Nat → List Int} {rest:List CP} {i:Nat} (h:i < 256):(eO f rest)[i]? = some (.slb (f i)):=by
 unfold eO
 rw [List.getElem?_append_left (by simp; exact h)]
 simp [h]
theorem vw {f:Nat → List Int} {rest:List CP}:(eO f rest).drop 256 = rest:=by
 unfold eO
 rw [List.drop_append_of_le_length (by simp)]
 simp
def cA (i:Nat):List Int:=if i = 34 then ofStr [92,34] else if i = 92 then ofStr [92,92] else []
theorem lit_get {m a b:Nat} {A B:CP} {rest:List CP} {j:Nat} (hj:j < m):(((List.replicate m CP.nil).set a A).set b B ++ rest)[j]? = some (if b = j then B else if a = j then A else CP.nil):=by
 rw [List.getElem?_append_left (by simpa using hj),List.getElem?_set,List.getElem?_set]
 split
 ·next e=>subst e; simp [hj]
 ·split
  ·next e=>subst e; simp [hj]
  ·simp [hj]
theorem DO {m a b:Nat} {A B:CP} {rest:List CP} {j:Nat} (hj:m ≤ j):(((List.replicate m CP.nil).set a A).set b B ++ rest)[j]? = rest[j - m]?:=by
 rw [List.getElem?_append_right (by simpa using hj)]
 simp
theorem Bf {f:Nat → List Int} {rest:List CP} {j:Nat} (hj:256 ≤ j):(eO f rest)[j]? = rest[j - 256]?:=by
 unfold eO
 rw [List.getElem?_append_right (by rw [List.length_map,List.length_range]; exact hj),List.length_map,List.length_range]
theorem tab_rel {T:TypeId} {rest:List CP} {h:PH} {ρ:RM} {v:Value} (hv:SV.rel h ρ (.b (.one (.vS T (((List.replicate 256 CP.nil).set 34 (.sl 1 ((ofStr [92,34]).map (eK .u8)))).set 92 (.sl 1 ((ofStr [92,92]).map (eK .u8))) ++ rest)))) v):SV.rel h ρ (.b (.one (.vS T (eO cA rest)))) v:=by
 obtain ⟨u,e,b,o,e2,hr⟩:=hv
 refine ⟨u,e,b,o,e2,fun j c hc=>?_⟩
 by_cases hj:j < 256
 ·rw [xu hj] at hc
  cases hc
  obtain ⟨x,hx,hrel⟩:=hr j _ (lit_get hj)
  refine ⟨x,hx,?_⟩
  unfold cA
  by_cases h1:92 = j
  ·subst h1
   rw [if_pos rfl] at hrel
   exact ⟨hrel,fun he=>absurd he (by decide)⟩
  ·rw [if_neg h1] at hrel
   by_cases h2:34 = j
   ·subst h2
    rw [if_pos rfl] at hrel
    exact ⟨hrel,fun he=>absurd he (by decide)⟩
   ·rw [if_neg h2] at hrel
    have hx2:x = .slice none 0 0:=hrel.1
    rw [if_neg (fun h=>h2 h.symm),if_neg (fun h=>h1 h.symm)]
    exact ⟨⟨fun ps hps=>by simp at hps,Nat.one_pos,.inl ⟨hx2,rfl⟩⟩,fun _=>hx2⟩
 ·obtain ⟨x,hx,hrel⟩:=hr j c (by rw [DO (by omega)]; rw [Bf (by omega)] at hc; exact hc)
  exact ⟨x,hx,hrel⟩
section
variable {P:Program} {TB:aV} {E:Env TB} {n:Sh} {s s':St} {dst:Option Nat} {t ty yt:TypeId} {pos:String} {after:Array Edge} {g:Option (Nat × Bool)} {x y z c:Operand} {ops:Array Oper} {l:List Oper} {Q:cj} {cd:Code}
theorem tK {e:TypeId} {f:Nat → List Int} {rest:List CP} {i:Int} (ht:kE P t e 256 1) (hx:s.ev x = some (.b (.cW (eO f rest)))) (hy:s.ev y = some (.b (.one (.int .u8 i)))) :
  br P E n ⟨dst,.indexAddr t x y,ty,pos,after,g⟩ s (s.put n dst (.b (.cW [.slb (f i.toNat)]))) :=
 br.val (o:=⟨dst,.indexAddr t x y,ty,pos,after,g⟩) fun ac w h ρ hw hs=>by
  obtain ⟨b,o,hv,hr⟩:=(aP hs hx:BV.rel h ρ (.cW (eO f rest)) _)
  obtain ⟨inf,hi,hsz⟩:=ht.info
  have hin:=(bX hs hy).2
  have h0:0 ≤ i ∧ i ≤ 255:=by simpa [jU,IntKind.min,IntKind.max,IntKind.signed,IntKind.bits] using hin
  refine ⟨.pointer (some ⟨b,o + i.toNat * 1,none⟩),?_,b,o + i.toNat * 1,rfl,fun j c hc=>?_⟩
  ·simp only [execOp,hv,(bX hs hy).1]
   simp [kB ht.und hi hsz w b o .u8 i h0.1 (by omega)]
  ·cases j with
   | zero=>
    obtain ⟨u,hu,hrel⟩:=hr i.toNat _ (xu (by omega))
    have:c = .slb (f i.toNat):=by simpa using hc.symm
    subst this
    exact ⟨u,by rw [Nat.mul_one,Nat.add_zero]; exact hu,hrel⟩
   | succ j=>simp at hc
theorem yQ {xs:List Int} {h:PH} {ρ:RM} {v:Value} (hv:SV.rel h ρ (.b (.one (.slb xs))) v):SV.rel h ρ (.b (.one (.sl 1 (xs.map (eK .u8))))) v:=hv.1
theorem uH {e:TypeId} {xs:List Int} (ht:P.underlying t = some (.slice e)) (hx:s.ev x = some (.b (.one (.slb xs)))) :
  br P E n ⟨dst,.binOp .neq t x (.const (.slice none 0 0)) yt,ty,pos,after,g⟩ s (s.put n dst (B (decide (xs ≠ [])))) :=
 br.val (o:=⟨dst,.binOp .neq t x (.const (.slice none 0 0)) yt,ty,pos,after,g⟩) fun ac w h ρ hw hs=>by
  have hr:=(aP hs hx:(CP.slb xs).rel h _)
  obtain ⟨⟨h1,h2,h3⟩,h4⟩:=hr
  have hq:∀ ad m q,(Op.equal t (.slice ad m q) (.slice none 0 0)).run P w = .ok ad.isNone w:=fun ad m q=>pV ht w ad m q
  have hcst:ac.eval (.const (.slice none 0 0)) = .slice none 0 0:=rfl
  by_cases he:xs = []
  ·have hv:=h4 he
   refine ⟨.bool (decide (xs ≠ [])),?_,rfl⟩
   simp only [execOp,hv,hcst]
   simp [eqGuard,binOp,hq,he,Result.andThen]
  ·rcases h3 with ⟨_,h5⟩ | ⟨b,o,cp,hv,_⟩ | ⟨_,_,h5⟩
   ·exact absurd (List.map_eq_nil_iff.1 h5) he
   ·refine ⟨.bool (decide (xs ≠ [])),?_,rfl⟩
    simp only [execOp,hv,hcst]
    simp [eqGuard,binOp,hq,he,Result.andThen]
   ·exact absurd (List.map_eq_nil_iff.1 h5) he
theorem fi {ps:List CP} (hx:s.ev x = some (.b (.cW ps))):br P E n ⟨dst,.nilCheck x,ty,pos,after,g⟩ s (s.put n dst (.b (.cW ps))) :=
 br.val (o:=⟨dst,.nilCheck x,ty,pos,after,g⟩) fun ac w h ρ hw hs=>by
  obtain ⟨b,o,hv,hr⟩:=(aP hs hx:BV.rel h ρ (.cW ps) _)
  exact ⟨_,by simp only [execOp,hv]; rfl,b,o,rfl,hr⟩
theorem yh {k size bytes:Nat} {e:TypeId} {zs:List CP} {news:List (List CP)} (ht:lA P t e size bytes zs) (hz:0 < size) (hb:news.length * bytes ≤ 140737488355328) (hm:news.length ≤ 9223372036854775807)
  (hy:s.ev y = some (.b (.one (.sl size news)))) (hfx:n.fix.contains k = false) (hnu:fw k s.own = true:=by rfl) :
  br P E n ⟨dst,.call ⟨.builtin .append,#[.const (.slice none 0 0),y],#[t,t]⟩,ty,pos,after,g⟩ s ((⟨dt k s.slots,ins k (.row e size news) s.own⟩:St).put n dst (.b (.row k))) :=
 br.make (hfx:=hfx) (hnu:=hnu) (o:=⟨dst,.call ⟨.builtin .append,#[.const (.slice none 0 0),y],#[t,t]⟩,ty,pos,after,g⟩) fun ac w h ρ hw hs=>by
  have hu:=(aP hs hy:(CP.sl size news).rel h _)
  obtain ⟨v',w',hrun,h1,h2,h3,h4,h5,h6⟩:=rB (ρ:=ρ) (ty:=ty) (v0:=.slice none 0 0) (es:=[]) ht ⟨fun ps hps=>by simp at hps,hz,[],⟨by simp,.inl ⟨rfl,rfl⟩⟩,.nil⟩ rfl (Src.of_sl hw hu) (by simpa using hb) (by rw [cU]; simpa using hm)
  refine ⟨v',v',w',none,?_,fun b hb=>by simp at hb,h1,h2,h3,fun b hb hne=>h4 b hb (by simp [bj]),?_,fun b hb=>?_,(dI _ _ _).symm⟩
  ·rw [execOp_builtin,builtin_append]
   simp [show ac.eval (.const (.slice none 0 0)) = .slice none 0 0 from rfl,hrun]
  ·have h7:(OC.row e size news).ok h ρ v' w':=by simpa using h5
   exact h7
  ·rcases h6 b hb with h | h
   ·simp [bj] at h
   ·exact .inr h
end
end Go.Sk
namespace Go.Sk
set_option linter.unusedSimpArgs false
set_option linter.unusedVariables false
open Go Go.BigFrame
def u6 {α:Type} (xs ys:List α) (j:Int):Option (List α):=if 0 ≤ j ∧ 0 < ys.length ∧ j.toNat + ys.length ≤ xs.length ∧ xs.length ≤ 9223372036854775807 then some (aS xs j.toNat ys) else none
theorem wm {α:Type} {xs ys z:List α} {j:Int} (h:u6 xs ys j = some z):(0 ≤ j ∧ 0 < ys.length ∧ j.toNat + ys.length ≤ xs.length ∧ xs.length ≤ 9223372036854775807) ∧ aS xs j.toNat ys = z:=by
 unfold u6 at h; split at h
 ·next hh=>exact ⟨hh,by simpa using h⟩
 ·simp at h
theorem cpy_pos {α:Type} {xs ys z:List α} {j:Int} {enc:α → List CP} (h:u6 xs ys j = some z):0 < (xs.map enc).length:=by
 rw [List.length_map]; have:=(wm h).1; omega
theorem AJ {α:Type} {xs ys z:List α} {j:Int} {enc:α → List CP} (h:u6 xs ys j = some z):(xs.map enc).length = (z.map enc).length:=by
 obtain ⟨h1,rfl⟩:=wm h
 simp only [List.length_map,aS,List.length_append,List.length_take,List.length_drop]
 omega
section
variable {P:Program} {TB:aV} {E:Env TB} {n:Sh} {s s':St} {dst:Option Nat} {t ty yt:TypeId} {pos:String} {after:Array Edge} {g:Option (Nat × Bool)} {x y z c:Operand} {ops:Array Oper} {l:List Oper} {Q:cj} {cd:Code}
theorem ab.gq (k:Nat) {size:Nat} {T:TypeId} {es:List (List CP)} (hk:lk s.own k = some (.row T size es)) (hne:0 < es.length) (h:∀ cap:Nat,es.length ≤ cap → cap ≤ 9223372036854775807 → ab P E n cd ⟨zS k size es.length cap s.slots,s.own⟩ Q):ab P E n cd s Q:=fun a w hr=>by
 obtain ⟨cap,h1,h2,hr'⟩:=hr.gq hk hne
 exact h cap h1 h2 a w hr'
theorem ab.nu (i k:Nat) {size m cap:Nat} {T:TypeId} {es:List (List CP)} (hi:s.get i = some (.b (.part k size 0 m cap))) (hk:lk s.own k = some (.row T size es)) (hm:m = es.length) (h:ab P E n cd ⟨(i,.b (.row k)) :: del i s.slots,s.own⟩ Q):ab P E n cd s Q:=fun a w hr=>h a w (hr.nu hi hk hm)
theorem wW {α:Type} {enc:α → List CP} {xs ys r:List α} {j:Int} {k size bytes cap:Nat} {e:TypeId} {zs:List CP} {yo:Operand} {kk:IntKind} (ht:lA P t e size bytes zs) (h:u6 xs ys j = some r) (hc:(xs.map enc).length ≤ cap) (hx:s.ev x = some (.b (.part k size 0 (xs.map enc).length cap))) (hy:s.ev yo = some (.b (.one (.int kk j)))) :
  br P E n ⟨dst,.slice t x (some yo) none none,ty,pos,after,g⟩ s (s.put n dst (.b (.part k size (0 + j.toNat) ((xs.map enc).length - j.toNat) cap))):=by
 have h1:=(wm h).1
 refine x9 ht h1.1 ?_ ?_ hx hy
 ·rw [List.length_map]; omega
 ·rw [List.length_map] at hc; omega
theorem wZ {k size bytes lo dlen cap m:Nat} {T e:TypeId} {zs:List CP} {es es' news:List (List CP)} (ht:lA P t e size bytes zs) (hk:lk s.own k = some (.row T size es)) (hlo:lo ≤ es.length) (hcap:lo + m ≤ cap) (he:aS es lo news = es') (hx:s.ev x = some (.b (.part k size lo dlen cap))) (hsame:(aS es lo news).length = es.length) (hpos:0 < es.length) (hfx:n.fix.contains k = false) (hnu:fw k s.own = true)
  (hm:news.length = m) (hml:m ≤ 9223372036854775807)
  (hsrc:∀ (ac:Act) (w:World) (h:PH) (ρ:RM),WR E n s.own h ρ w → bI h ρ s.slots ac.tmps → ∃ sb so slen sc cs,ac.eval y = .slice (some ⟨sb,so,none⟩) slen sc ∧ min slen dlen = m ∧ cJ size news ∧ aL h news.flatten cs ∧ ∀ j u,cs[j]? = some u → w.cell? ⟨sb,so + j,none⟩ = some u) :
  br P E n ⟨dst,.call ⟨.builtin .copy,#[x,y],#[t,yt]⟩,ty,pos,after,g⟩ s ((⟨s.slots,ins k (.row T size es') s.own⟩:St).put n dst (I (m:Int))):=by
 intro a w hr next Q hnext
 obtain ⟨hdf,hn,h,ρ,hw,hs⟩:=hr
 obtain ⟨b,nn,hρ,hv,hle⟩:=(aP hs hx:BV.rel h ρ (.part k size lo dlen cap) _)
 obtain ⟨sb,so,slen,sc,cs,hy,hmin,hun,hcr,hcell⟩:=hsrc a w h ρ hw hs
 obtain ⟨w',hrun,h1,h2,h3,h4,h5⟩:=BN (ty:=ty) (yt:=yt) (dcap:=cap - lo) (sc:=sc) hw ht hk hρ (by rw [hmin,hm]) hun hcr hcell hlo (by rw [hm]; exact hcap)
 have hst:=hw.step (w':=w') k (.slice (some ⟨b,0,none⟩) (aS es lo news).length cap) (.row T size (aS es lo news)) (some b) (fun b' e=>by cases e; exact ⟨_,cq hk,by rw [hρ]; rfl⟩) (by omega) h2 h3
  (fun b' _ hne=>h4 b' (fun e=>hne (by rw [e]))) h5 (fun b' hb'=>by simp [bj] at hb'; exact .inl (by rw [hb'])) (.inr fun e=>by simp at hfx; exact hfx e) (.inr hnu)
 have hrun':(execOp a.eval (⟨dst,.call ⟨.builtin .copy,#[x,y],#[t,yt]⟩,ty,pos,after,g⟩:Oper)).run P w = .ok (.value (.int .i64 m)) w':=by
  rw [execOp_builtin]
  show Sem.run _ _ _ = _
  simp only [builtin,List.map_toArray,List.map_cons,List.map_nil,hv,hy]
  rw [Sem.run_bind,hrun,hm]
  rfl
 unfold Oper.wp
 rw [hrun']
 subst he
 have hup:p7 ρ k (.slice (some ⟨b,0,none⟩) (aS es lo news).length cap) = ρ:=by
  obtain ⟨_,_,hf⟩:=ka hw hk
  rcases hf with ⟨_,h6⟩ | ⟨b2,cap2,cur,h6,_⟩
  ·rw [h6] at hpos; simp at hpos
  ·rw [hρ] at h6
   simp only [Value.slice.injEq,Option.some.injEq,Addr.mk.injEq] at h6
   funext q
   simp only [p7]
   split
   ·next e=>subst e; rw [hρ,hsame,h6.2.1]
   ·rfl
 rw [hup] at hst
 refine hnext _ _ (R.put (s:=⟨s.slots,ins k (.row T size (aS es lo news)) s.own⟩) hdf hn hst (fun j z hz=>?_) ⟨rfl,pf (by rw [cU]; exact hml)⟩)
 obtain ⟨v,hv',hrel⟩:=hs j z hz
 exact ⟨v,hv',hrel⟩
theorem ye {k size bytes lo dlen cap:Nat} {T e:TypeId} {zs:List CP} {es es' news:List (List CP)} (ht:lA P t e size bytes zs) (hlo:lo ≤ es.length) (hcap:lo + news.length ≤ cap) (hd:news.length ≤ dlen) (hne:0 < news.length) (hx:s.ev x = some (.b (.part k size lo dlen cap))) (hk:lk s.own k = some (.row T size es)) (hy:s.ev y = some (.b (.one (.sl size news)))) (he:aS es lo news = es') (hsame:(aS es lo news).length = es.length) (hpos:0 < es.length) (hfx:n.fix.contains k = false) (hml:news.length ≤ 9223372036854775807) (hnu:fw k s.own = true:=by rfl) :
  br P E n ⟨dst,.call ⟨.builtin .copy,#[x,y],#[t,yt]⟩,ty,pos,after,g⟩ s ((⟨s.slots,ins k (.row T size es') s.own⟩:St).put n dst (I (news.length:Int))) :=
 wZ ht hk hlo hcap he hx hsame hpos hfx hnu rfl hml fun ac w h ρ hw hs=>by
  obtain ⟨hu,hz,hf⟩:=(aP hs hy:(CP.sl size news).rel h _)
  rcases hf with ⟨_,he0⟩ | ⟨sb,so,sc,hv,h1,h2,h3⟩ | ⟨_,_,he0⟩
  ·rw [he0] at hne; simp at hne
  ·obtain ⟨cs,hc1,hc2⟩:=h3.list
   exact ⟨sb,so,news.length,sc,cs,hv,by omega,hu,hc1,fun j u hu=>hw.agree.cell (hc2 j u hu) (hc1.one u (List.mem_of_getElem? hu))⟩
  ·rw [he0] at hne; simp at hne
theorem op_cpy {α:Type} {enc:α → List CP} {xs ys r:List α} {j:Int} {k size bytes cap:Nat} {T e:TypeId} {zs:List CP} (ht:lA P t e size bytes zs) (h:u6 xs ys j = some r) (hc:(xs.map enc).length ≤ cap) (hx:s.ev x = some (.b (.part k size (0 + j.toNat) ((xs.map enc).length - j.toNat) cap))) (hk:lk s.own k = some (.row T size (xs.map enc))) (hy:s.ev y = some (.b (.one (.sl size (ys.map enc)))))
  (hfx:n.fix.contains k = false) (hnu:fw k s.own = true:=by rfl) :
  br P E n ⟨dst,.call ⟨.builtin .copy,#[x,y],#[t,yt]⟩,ty,pos,after,g⟩ s ((⟨s.slots,ins k (.row T size (r.map enc)) s.own⟩:St).put n dst (I (ys.length:Int))):=by
 obtain ⟨h1,rfl⟩:=wm h
 rw [List.length_map] at hc
 have:=ye (E:=E) (n:=n) (dst:=dst) (ty:=ty) (yt:=yt) (pos:=pos) (after:=after) (g:=g) (es':=(aS xs j.toNat ys).map enc) ht (by rw [List.length_map]; omega) (by rw [List.length_map]; omega) (by rw [List.length_map,List.length_map]; omega) (by rw [List.length_map]; exact h1.2.1) hx hk hy (by rw [Nat.zero_add]; exact sR _ _ _ _) (by rw [Nat.zero_add,sR]; exact (AJ (by unfold u6; rw [if_pos h1])).symm) (by rw [List.length_map]; omega) hfx (by rw [List.length_map]; omega) hnu
 rw [List.length_map] at this
 exact this
structure xP (P:Program) (t:TypeId) (pl:List (Nat × Nat)) (zs:List CP):Prop where
 info:∃ it z fs,P.info? t = some it ∧ it.zero = some z ∧ (∀ h,aL h zs z.cells.toList) ∧ P.underlying t = some (.struct fs) ∧ fs.toList.mapM (fun f=>(P.info? f.type).map fun i=>(f.offset,i.size)) = some pl
theorem zz {pl:List (Nat × Nat)} {zs qs:List CP} {parts:Array (Nat × Operand)} {cps:List (Nat × List CP)} (ht:xP P t pl zs) (hp:kN s parts.toList = some cps) (hf:qG (pl.toArray[·]?) zs cps = some qs) :
  br P E n ⟨dst,.build t parts,ty,pos,after,g⟩ s (s.put n dst (.b (.agg qs))) :=
 br.val (o:=⟨dst,.build t parts,ty,pos,after,g⟩) fun ac w h ρ hw hs=>by
  obtain ⟨it,z,fs,h1,h2,h3,h4,h5⟩:=ht.info
  obtain ⟨cs,hc1,hc2⟩:=mG hs (pl.toArray[·]?) parts.toList cps zs qs z.cells hp hf (h3 h)
  refine ⟨.agg cs,?_,cs,rfl,hc2⟩
  have hb:P.built t (parts.map fun (i,x)=>(i,ac.eval x)).toList = some cs:=by
   simp only [Program.built,h1,h4,h2,h5]
   rw [← hc1]
   simp
  have:=run_build (P:=P) w t _ cs hb
  simp only [execOp]
  simp [this]
theorem Dy:br P E n ⟨dst,.assign (.const .nilIface),ty,pos,after,g⟩ s (s.put n dst (.b (.one (.raw .nilIface)))) :=
 br.val (o:=⟨dst,.assign (.const .nilIface),ty,pos,after,g⟩) fun ac w h ρ hw hs=>⟨.nilIface,rfl,rfl,rfl⟩
theorem um {h:PH} {k:IntKind} (hd:jU k 0):(CP.int k 0).rel h (.int k 0):=⟨rfl,hd⟩
theorem xN {h:PH} {v:Value} (hv:v.oneCell' = true):(CP.raw v).rel h v:=⟨rfl,hv⟩
end
end Go.Sk
namespace Go.Sk
set_option linter.unusedSimpArgs false
set_option linter.unusedVariables false
open Go Go.BigFrame Go.Lib Go.Proofs Go.RowKit
structure TyByte (P:Program) (e:TypeId):Prop where
 info:∃ i,P.info? e = some i ∧ i.zero = some (.int .u8 0) ∧ i.size = 1 ∧ i.bytes = 1
section
variable {P:Program} {TB:aV} {E:Env TB} {n:Sh} {s s':St} {dst:Option Nat} {t u ty yt:TypeId} {pos:String} {after:Array Edge} {g:Option (Nat × Bool)} {x y z c:Operand} {ops:Array Oper} {l:List Oper} {Q:cj} {cd:Code}
end
end Go.Sk
namespace Go.Sk
open Go
set_option linter.unusedVariables false
set_option linter.unusedSimpArgs false
section
variable {σ σ1 σ2 σ3 τ:Type}
theorem aw.up1 {A:Int → Option (Int ⊕ τ)} {g:τ} {n:Int} {Q:τ → Prop} {F:Nat} (N:Nat) (I:Nat → Prop) (hn:n = N) (hF:N < F) (h0:I 0)
  (step:∀ k:Nat,k < N → I k → aw (A k) fun o=>(o = .inl ((k:Int) + 1) ∧ I (k + 1)) ∨ ∃ t,o = .inr t ∧ Q t) (fin:I N → Q g) :
  aw (iter F (fun i=>if decide (i < n) = true then A i else Option.some (.inr g)) 0) Q:=by
 refine aw.rounds (n:=N) (I:=fun k s=>s = (k:Int) ∧ I k) hF ⟨rfl,h0⟩ ?_
 rintro k s hk ⟨rfl,hI⟩
 refine aw.ite (fun hc=>?_) (fun hc=>?_)
 ·have hc:=of_decide_eq_true hc
  refine (step k (by omega) hI).mono fun o ho=>?_
  rcases ho with ⟨rfl,h⟩ | h
  ·exact .inl ⟨_,rfl,⟨by push_cast; rfl,h⟩,by omega⟩
  ·exact .inr h
 ·have hc:=of_decide_eq_false hc
  have:k = N:=by omega
  subst this
  exact aw.some (.inr ⟨_,rfl,fin hI⟩)
end
theorem jI (m:rL) (k v j:Int):iz (rI m k v) j = (decide (j = k) || iz m j):=by
 unfold iz; rw [sf]; by_cases h:j = k <;> simp [h]
theorem gj (m:rL) (k v j:Int):u4 (rI m k v) j = if j = k then v else u4 m j:=by
 unfold u4; rw [sf]; by_cases h:j = k <;> simp [h]
theorem vH (a b j:Int) (m:rL):iz ((a,b) :: m) j = (decide (j = a) || iz m j):=by
 unfold iz; show (if j = a then some b else p9 m j).isSome = _
 by_cases h:j = a <;> simp [h]
theorem xB (j:Int):∀ m:rL,iz m j = true ↔ j ∈ m.map (·.1)
 | []=>by simp [iz,p9]
 | (a,b) :: m=>by rw [vH]; simp [xB j m]
theorem vF (k v:Int):∀ m:rL,(rI m k v).map (·.1) = if iz m k then m.map (·.1) else m.map (·.1) ++ [k]
 | []=>by simp [iz,p9,rI]
 | (a,b) :: m=>by
  rw [vH]
  unfold rI
  by_cases h:k = a
  ·simp [h]
  ·rw [if_neg h,List.map_cons,vF k v m]
   by_cases h2:iz m k <;> simp [h,h2]
abbrev Asd (l:List Int):Prop:=l.Pairwise (· < ·)
def u7 {α:Type} (κ:α → Int) (n:α) (l out:List α) (placed:Bool):Prop :=
 ∃ A B,l = A ++ B ∧ (∀ a ∈ A,κ a < κ n) ∧ (∀ b ∈ B,κ n < κ b) ∧ ((placed = false ∧ B = [] ∧ out = A) ∨ (placed = true ∧ B ≠ [] ∧ out = A ++ n :: B))
theorem u7.zero {α:Type} {κ:α → Int} {n:α}:u7 κ n [] [] false:=⟨[],[],rfl,by simp,by simp,.inl ⟨rfl,rfl,rfl⟩⟩
theorem u7.put {α:Type} {κ:α → Int} {n x:α} {l out:List α} (h:u7 κ n l out false) (hx:κ n < κ x):u7 κ n (l ++ [x]) (out ++ [n] ++ [x]) true:=by
 obtain ⟨A,B,hl,hA,hB,h | h⟩:=h
 ·obtain ⟨_,h2,h3⟩:=h
  subst h2 h3 hl
  refine ⟨out,[x],by simp,hA,by simp [hx],.inr ⟨rfl,by simp,by simp⟩⟩
 ·exact absurd h.1 (by simp)
theorem u7.next {α:Type} {κ:α → Int} {n x:α} {l out:List α} {p:Bool} (h:u7 κ n l out p) (hp:p = true ∨ κ x ≤ κ n) (hne:κ x ≠ κ n) (hs:∀ a ∈ l,κ a < κ x):u7 κ n (l ++ [x]) (out ++ [x]) p:=by
 obtain ⟨A,B,rfl,hA,hB,h | h⟩:=h
 ·obtain ⟨rfl,rfl,rfl⟩:=h
  refine ⟨out ++ [x],[],by simp,fun a ha=>?_,by simp,.inl ⟨rfl,rfl,rfl⟩⟩
  rcases List.mem_append.1 ha with ha | ha
  ·exact hA a ha
  ·rw [List.mem_singleton.1 ha]
   rcases hp with hp | hp
   ·exact absurd hp (by simp)
   ·omega
 ·obtain ⟨rfl,hne',rfl⟩:=h
  refine ⟨A,B ++ [x],by simp,hA,fun b hb=>?_,.inr ⟨rfl,by simp,by simp⟩⟩
  rcases List.mem_append.1 hb with hb | hb
  ·exact hB b hb
  ·rw [List.mem_singleton.1 hb]
   obtain ⟨b,B',rfl⟩:=List.exists_cons_of_ne_nil hne'
   have h1:=hB b (List.mem_cons_self ..)
   have h2:=hs b (by simp)
   omega
theorem u7.fin {α:Type} {κ:α → Int} {n:α} {l out:List α} {p:Bool} (h:u7 κ n l out p) (hs:l.Pairwise fun a b=>κ a < κ b) :
  (if !p then out ++ [n] else out).Pairwise (fun a b=>κ a < κ b) ∧ (if !p then out ++ [n] else out).Perm (n :: l):=by
 obtain ⟨A,B,rfl,hA,hB,h⟩:=h
 have key:(A ++ n :: B).Pairwise (fun a b=>κ a < κ b):=by
  rw [List.pairwise_append] at hs ⊢
  refine ⟨hs.1,List.pairwise_cons.2 ⟨hB,hs.2.1⟩,fun a ha b hb=>?_⟩
  rcases List.mem_cons.1 hb with rfl | hb
  ·exact hA a ha
  ·exact hs.2.2 a ha b hb
 rcases h with ⟨rfl,rfl,rfl⟩ | ⟨rfl,_,rfl⟩
 ·refine ⟨by simpa using key,?_⟩
  simp only [Bool.not_false,if_true,List.append_nil]
  exact List.perm_append_singleton n out
 ·refine ⟨by simpa using key,?_⟩
  simp only [Bool.not_true,if_false]
  exact List.perm_middle
inductive qz (P:Int → Int → Prop):Int → Int → Prop
 | rfl (a):qz P a a
 | of {a b}:P a b → qz P a b
 | symm {a b}:qz P a b → qz P b a
 | trans {a b c}:qz P a b → qz P b c → qz P a c
theorem qz.lift {P:Int → Int → Prop} {E:Int → Int → Prop} (h1:∀ a,E a a) (h2:∀ a b,E a b → E b a) (h3:∀ a b c,E a b → E b c → E a c) (h:∀ a b,P a b → E a b) {a b:Int} (hc:qz P a b):E a b:=by
 induction hc with
 | rfl a=>exact h1 a
 | of h'=>exact h _ _ h'
 | symm _ ih=>exact h2 _ _ ih
 | trans _ _ i1 i2=>exact h3 _ _ _ i1 i2
theorem qz.mono {P Q:Int → Int → Prop} (h:∀ a b,P a b → qz Q a b) {a b:Int} (hc:qz P a b):qz Q a b :=
 hc.lift (fun a=>.rfl a) (fun _ _ h=>.symm h) (fun _ _ _ h1 h2=>.trans h1 h2) h
theorem qz.congr {P Q:Int → Int → Prop} (h:∀ a b,P a b → qz Q a b) (h':∀ a b,Q a b → qz P a b) (a b:Int):qz P a b ↔ qz Q a b:=⟨.mono h,.mono h'⟩
def jn (r:Int → Int) (x y z:Int):Int:=if r z = max (r x) (r y) then min (r x) (r y) else r z
structure UpM (m:rL) (r:Int → Int):Prop where
 out:∀ x,iz m x = false → r x = x
 has:∀ x,iz m x = true → iz m (u4 m x) = true
 le:∀ x,iz m x = true → u4 m x ≤ x
 step:∀ x,iz m x = true → r (u4 m x) = r x
 fix:∀ x,iz m x = true → u4 m x = x → r x = x
 low:∀ x,iz m x = true → r x ≤ x ∧ iz m (r x) = true ∧ u4 m (r x) = r x
 nd:(m.map (·.1)).Nodup
theorem UpM.nil:UpM [] (fun x=>x):=⟨fun _ _=>rfl,by simp [iz,p9],by simp [iz,p9],fun _ _=>by simp_all [iz,p9],fun _ _ _=>rfl,by simp [iz,p9],by simp⟩
theorem UpM.idem {m:rL} {r:Int → Int} (h:UpM m r) (z:Int):r (r z) = r z:=by
 cases hz:iz m z with
 | false=>rw [h.out z hz,h.out z hz]
 | true=>
  obtain ⟨_,h2,h3⟩:=h.low z hz
  exact h.fix _ h2 h3
theorem uM {m:rL} {k v:Int} (h:(m.map (·.1)).Nodup):((rI m k v).map (·.1)).Nodup:=by
 rw [vF]
 split
 ·exact h
 ·next hn=>
  rw [List.nodup_append]
  refine ⟨h,by simp,fun a ha b hb=>?_⟩
  rw [List.mem_singleton.1 hb]
  rintro rfl
  exact hn ((xB a m).2 ha)
theorem UpM.add {m:rL} {r:Int → Int} (h:UpM m r) {x:Int} (hx:iz m x = false):UpM (rI m x x) r:=by
 have e:=h.out x hx
 have hne:∀ z,iz m z = true → z ≠ x:=fun z hz e=>by rw [e,hx] at hz; cases hz
 refine ⟨fun z hz=>?_,fun z hz=>?_,fun z hz=>?_,fun z hz=>?_,fun z hz=>?_,fun z hz=>?_,uM h.nd⟩
 ·rw [jI,Bool.or_eq_false_iff] at hz
  exact h.out z hz.2
 ·rw [jI] at hz ⊢
  rw [gj]
  by_cases hzx:z = x
  ·simp [hzx]
  ·simp only [hzx,decide_false,Bool.false_or] at hz
   simp [hzx,h.has z hz]
 ·rw [jI] at hz
  rw [gj]
  by_cases hzx:z = x
  ·simp [hzx]
  ·simp only [hzx,decide_false,Bool.false_or] at hz
   simp [hzx,h.le z hz]
 ·rw [jI] at hz
  rw [gj]
  by_cases hzx:z = x
  ·simp [hzx]
  ·simp only [hzx,decide_false,Bool.false_or] at hz
   simp [hzx,h.step z hz]
 ·rw [jI] at hz
  rw [gj]
  by_cases hzx:z = x
  ·simp [hzx,e]
  ·simp only [hzx,decide_false,Bool.false_or] at hz
   simpa [hzx] using h.fix z hz
 ·rw [jI] at hz ⊢
  rw [gj]
  by_cases hzx:z = x
  ·simp [hzx,e]
  ·simp only [hzx,decide_false,Bool.false_or] at hz
   obtain ⟨h1,h2,h3⟩:=h.low z hz
   simp [h1,h2,hne _ h2,h3]
theorem UpM.join {m:rL} {r:Int → Int} (h:UpM m r) {x y:Int} (hx:iz m x = true) (hy:iz m y = true) (hne:r x ≠ r y):UpM (rI m (max (r x) (r y)) (min (r x) (r y))) (jn r x y):=by
 obtain ⟨a1,a2,a3⟩:=h.low x hx
 obtain ⟨b1,b2,b3⟩:=h.low y hy
 have ia:=h.idem x
 have ib:=h.idem y
 have hM:∃ M N,max (r x) (r y) = M ∧ min (r x) (r y) = N ∧ N < M ∧ iz m M = true ∧ iz m N = true ∧ u4 m M = M ∧ u4 m N = N ∧ r M = M ∧ r N = N:=by
  by_cases hl:r x ≤ r y
  ·exact ⟨r y,r x,Int.max_eq_right hl,Int.min_eq_left hl,by omega,b2,a2,b3,a3,ib,ia⟩
  ·have hl':r y ≤ r x:=by omega
   exact ⟨r x,r y,Int.max_eq_left hl',Int.min_eq_right hl',by omega,a2,b2,a3,b3,ia,ib⟩
 obtain ⟨M,N,eM,eN,hlt,hM,hN,gM,gN,rM,rN⟩:=hM
 have ej:∀ z,jn r x y z = if r z = M then N else r z:=fun z=>by unfold jn; rw [eM,eN]
 rw [eM,eN]
 have hh:∀ z,iz (rI m M N) z = iz m z:=fun z=>by
  rw [jI]; by_cases e:z = M <;> simp [e,hM]
 refine ⟨fun z hz=>?_,fun z hz=>?_,fun z hz=>?_,fun z hz=>?_,fun z hz=>?_,fun z hz=>?_,uM h.nd⟩
 ·rw [hh] at hz
  have:r z = z:=h.out z hz
  rw [ej,this,if_neg]
  rintro rfl
  rw [hM] at hz; cases hz
 ·rw [hh] at hz ⊢
  rw [gj]
  split
  ·exact hN
  ·exact h.has z hz
 ·rw [hh] at hz
  rw [gj]
  split
  ·omega
  ·exact h.le z hz
 ·rw [hh] at hz
  rw [gj,ej,ej]
  split
  ·next e=>rw [e,rN,rM,if_pos rfl]; simp
  ·rw [h.step z hz]
 ·rw [hh] at hz
  rw [gj,ej]
  split
  ·next e=>intro e2; omega
  ·next e=>
   intro e2
   have:=h.fix z hz e2
   rw [this,if_neg e]
 ·rw [hh] at hz
  rw [hh,ej,gj]
  obtain ⟨h1,h2,h3⟩:=h.low z hz
  by_cases e:r z = M
  ·rw [if_pos e,if_neg (by omega)]
   exact ⟨by omega,hN,gN⟩
  ·rw [if_neg e,if_neg e]
   exact ⟨h1,h2,h3⟩
def hd (c:List Int):Int:=c.headD 0
structure IsPt (P:Int → Int → Prop) (D:Int → Prop) (out:List (List Int)):Prop where
 asd:∀ c ∈ out,c ≠ [] ∧ Asd c
 dj:out.Pairwise fun c d=>∀ z ∈ c,z ∉ d
 dom:∀ a,D a ↔ ∃ c ∈ out,a ∈ c
 con:∀ c ∈ out,∀ a ∈ c,∀ b ∈ c,qz P a b
 cl:∀ c ∈ out,∀ a b,P a b → (a ∈ c ↔ b ∈ c)
abbrev HdL (out:List (List Int)):Prop:=out.Pairwise fun c d=>hd c < hd d
structure Part (P:Int → Int → Prop) (D:Int → Prop) (out:List (List Int)):Prop extends IsPt P D out where
 srt:HdL out
theorem IsPt.cls {P:Int → Int → Prop} {D:Int → Prop} {out:List (List Int)} (h:IsPt P D out) {c:List Int} (hc:c ∈ out) {a b:Int} (hab:qz P a b):a ∈ c ↔ b ∈ c :=
 hab.lift (E:=fun a b=>a ∈ c ↔ b ∈ c) (fun _=>.rfl) (fun _ _ h=>h.symm) (fun _ _ _ h1 h2=>h1.trans h2) (h.cl c hc)
theorem IsPt.mem {P:Int → Int → Prop} {D:Int → Prop} {out:List (List Int)} (h:IsPt P D out) {c:List Int} (hc:c ∈ out) {a:Int} (ha:a ∈ c) (b:Int):b ∈ c ↔ qz P a b :=
 ⟨fun hb=>h.con c hc a ha b hb,fun hb=>(h.cls hc hb).1 ha⟩
theorem IsPt.congr {P Q:Int → Int → Prop} {D E:Int → Prop} {out:List (List Int)} (h:IsPt P D out) (hP:∀ a b,qz P a b ↔ qz Q a b) (hD:∀ a,D a ↔ E a):IsPt Q E out :=
 ⟨h.asd,h.dj,fun a=>(hD a).symm.trans (h.dom a),fun c hc a ha b hb=>(hP _ _).1 (h.con c hc a ha b hb),fun c hc a b hab=>h.cls hc ((hP _ _).2 (.of hab))⟩
theorem Part.congr {P Q:Int → Int → Prop} {D E:Int → Prop} {out:List (List Int)} (h:Part P D out) (hP:∀ a b,qz P a b ↔ qz Q a b) (hD:∀ a,D a ↔ E a):Part Q E out :=
 { toIsPt:=h.toIsPt.congr hP hD,srt:=h.srt }
theorem IsPt.add {P Q:Int → Int → Prop} {D E:Int → Prop} {out:List (List Int)} (h:IsPt P D out) {x y:List Int} (hPD:∀ a b,P a b → D a ∧ D b) (hx:x ≠ []) (hy:Asd y)
  (hmem:∀ z,z ∈ y ↔ z ∈ x ∨ ∃ c ∈ out,(∃ u ∈ c,u ∈ x) ∧ z ∈ c) (hQ:∀ a b,Q a b ↔ P a b ∨ (a ∈ x ∧ b ∈ x)) (hE:∀ a,E a ↔ D a ∨ a ∈ x)
  {rest:List (List Int)} (hrest:rest = out.filter fun c=>!(c.any fun u=>x.contains u)):IsPt Q E (rest ++ [y]):=by
 have hr:∀ c,c ∈ rest ↔ c ∈ out ∧ ∀ u ∈ c,u ∉ x:=fun c=>by
  rw [hrest,List.mem_filter]; simp
 have up:∀ {a b},qz P a b → qz Q a b:=fun h=>h.mono fun a b h=>.of ((hQ a b).2 (.inl h))
 have inx:∀ z ∈ y,∃ u ∈ x,qz Q u z:=fun z hz=>by
  rcases (hmem z).1 hz with hz | ⟨c,hc,⟨u,hu,hux⟩,hzc⟩
  ·exact ⟨z,hz,.rfl z⟩
  ·exact ⟨u,hux,up (h.con c hc u hu z hzc)⟩
 refine ⟨fun c hc=>?_,?_,fun a=>?_,fun c hc a ha b hb=>?_,fun c hc a b hab=>?_⟩
 ·rcases List.mem_append.1 hc with hc | hc
  ·exact h.asd c ((hr c).1 hc).1
  ·rw [List.mem_singleton.1 hc]
   obtain ⟨u,x',rfl⟩:=List.exists_cons_of_ne_nil hx
   exact ⟨List.ne_nil_of_mem ((hmem u).2 (.inl (List.mem_cons_self ..))),hy⟩
 ·refine List.pairwise_append.2 ⟨?_,by simp,fun c hc d hd z hz hzd=>?_⟩
  ·rw [hrest]; exact h.dj.filter _
  ·rw [List.mem_singleton.1 hd] at hzd
   obtain ⟨hc1,hc2⟩:=(hr c).1 hc
   rcases (hmem z).1 hzd with hzx | ⟨d',hd',⟨u,hu,hux⟩,hzd'⟩
   ·exact hc2 z hz hzx
   ·have:u ∈ c:=(h.cls hc1 (h.con d' hd' z hzd' u hu)).1 hz
    exact hc2 u this hux
 ·rw [hE a,h.dom a]
  constructor
  ·rintro (⟨c,hc,ha⟩ | ha)
   ·by_cases hm:∃ u ∈ c,u ∈ x
    ·exact ⟨y,by simp,(hmem a).2 (.inr ⟨c,hc,hm,ha⟩)⟩
    ·exact ⟨c,List.mem_append.2 (.inl ((hr c).2 ⟨hc,fun u hu hux=>hm ⟨u,hu,hux⟩⟩)),ha⟩
   ·exact ⟨y,by simp,(hmem a).2 (.inl ha)⟩
  ·rintro ⟨c,hc,ha⟩
   rcases List.mem_append.1 hc with hc | hc
   ·exact .inl ⟨c,((hr c).1 hc).1,ha⟩
   ·rw [List.mem_singleton.1 hc] at ha
    rcases (hmem a).1 ha with ha | ⟨d,hd,_,had⟩
    ·exact .inr ha
    ·exact .inl ⟨d,hd,had⟩
 ·rcases List.mem_append.1 hc with hc | hc
  ·exact up (h.con c ((hr c).1 hc).1 a ha b hb)
  ·rw [List.mem_singleton.1 hc] at ha hb
   obtain ⟨u,hu,h1⟩:=inx a ha
   obtain ⟨v,hv,h2⟩:=inx b hb
   exact .trans (.symm h1) (.trans (.of ((hQ u v).2 (.inr ⟨hu,hv⟩))) h2)
 ·rcases List.mem_append.1 hc with hc | hc
  ·obtain ⟨hc1,hc2⟩:=(hr c).1 hc
   rcases (hQ a b).1 hab with hp | ⟨ha,hb⟩
   ·exact h.cl c hc1 a b hp
   ·exact ⟨fun hac=>absurd ha (hc2 a hac),fun hbc=>absurd hb (hc2 b hbc)⟩
  ·rw [List.mem_singleton.1 hc]
   rcases (hQ a b).1 hab with hp | ⟨ha,hb⟩
   ·have hcl:∀ {a b},qz P a b → (∃ c ∈ out,a ∈ c) → a ∈ y → b ∈ y:=fun {a b} hp hDa ha=>by
     rcases (hmem a).1 ha with hax | ⟨d,hd,hm,had⟩
     ·obtain ⟨c,hc,hac⟩:=hDa
      exact (hmem b).2 (.inr ⟨c,hc,⟨a,hac,hax⟩,(h.cls hc hp).1 hac⟩)
     ·exact (hmem b).2 (.inr ⟨d,hd,hm,(h.cls hd hp).1 had⟩)
    obtain ⟨da,db⟩:=hPD a b hp
    exact ⟨hcl (.of hp) ((h.dom a).1 da),hcl (.symm (.of hp)) ((h.dom b).1 db)⟩
   ·exact ⟨fun _=>(hmem b).2 (.inl hb),fun _=>(hmem a).2 (.inl ha)⟩
end Go.Sk
namespace Go.Sk
open Go
set_option linter.unusedVariables false
section
variable {α σ σ1 σ2 σ3 τ:Type} [Inhabited α]
private theorem ea_aux {l:List α} {S:Type} {body:S × Int → Option ((S × Int) ⊕ τ)} {Q:τ → Prop} {F:Nat} {s0:S} (I:List α → S → Prop) (hF:l.length < F) (hL:l.length ≤ 9223372036854775807) (h0:I [] s0)
  (step:∀ pre x post s,l = pre ++ x :: post → aZ l (pre.length:Int) = Option.some x → I pre s → aw (body (s,(pre.length:Int))) fun o=>(∃ s',o = .inl (s',IntKind.i64.wrap ((pre.length:Int) + 1)) ∧ I (pre ++ [x]) s') ∨ ∃ t,o = .inr t ∧ Q t)
  (fin:∀ s,I l s → aw (body (s,(l.length:Int))) fun o=>∃ t,o = .inr t ∧ Q t):aw (iter F body (s0,0)) Q:=by
 refine aw.rounds (n:=l.length) (I:=fun k s=>k ≤ l.length ∧ s.2 = (k:Int) ∧ I (l.take k) s.1) hF ⟨Nat.zero_le _,rfl,by simpa using h0⟩ ?_
 rintro k ⟨s,i⟩ hk ⟨hk',hi,hI⟩
 simp only at hi hI
 subst hi
 by_cases hc:k < l.length
 ·have e:l = l.take k ++ l[k] :: l.drop (k + 1):=by rw [← List.drop_eq_getElem_cons hc,List.take_append_drop]
  have hl:(l.take k).length = k:=by rw [List.length_take]; omega
  have hx:aZ l ((l.take k).length:Int) = Option.some l[k]:=by
   rw [hl,qP (by omega) (by omega),wG _ _ hc]
  have h:=step (l.take k) l[k] (l.drop (k + 1)) s e hx hI
  rw [hl] at h
  refine h.mono fun o ho=>?_
  rcases ho with ⟨s',rfl,h⟩ | h
  ·refine .inl ⟨_,rfl,⟨by omega,?_,?_⟩,hc⟩
   ·show IntKind.i64.wrap ((k:Int) + 1) = _
    rw [n2 (by omega) (by omega)]; push_cast; rfl
   ·rw [List.take_succ_eq_append_getElem hc]; exact h
  ·exact .inr h
 ·have:k = l.length:=by omega
  subst this
  rw [List.take_length] at hI
  refine (fin s hI).mono fun o ho=>.inr ho
theorem aw.ea1 {l:List α} {A:Int → Option (Int ⊕ τ)} {g:τ} {Q:τ → Prop} {F:Nat} (I:List α → Prop) (hF:l.length < F) (hL:l.length ≤ 9223372036854775807) (h0:I [])
  (step:∀ pre x post,l = pre ++ x :: post → aZ l (pre.length:Int) = Option.some x → I pre → aw (A (pre.length:Int)) fun o=>(o = .inl (IntKind.i64.wrap ((pre.length:Int) + 1)) ∧ I (pre ++ [x])) ∨ ∃ t,o = .inr t ∧ Q t)
  (fin:I l → Q g):aw (iter F (fun i=>if decide (i < (l.length:Int)) = true then A i else Option.some (.inr g)) 0) Q:=by
 refine aw.rounds (n:=l.length) (I:=fun k s=>k ≤ l.length ∧ s = (k:Int) ∧ I (l.take k)) hF ⟨Nat.zero_le _,rfl,by simpa using h0⟩ ?_
 rintro k _ hk ⟨hk',rfl,hI⟩
 by_cases hc:k < l.length
 ·have e:l = l.take k ++ l[k] :: l.drop (k + 1):=by rw [← List.drop_eq_getElem_cons hc,List.take_append_drop]
  have hl:(l.take k).length = k:=by rw [List.length_take]; omega
  have hx:aZ l ((l.take k).length:Int) = Option.some l[k]:=by
   rw [hl,qP (by omega) (by omega),wG _ _ hc]
  have h:=step (l.take k) l[k] (l.drop (k + 1)) e hx hI
  rw [hl] at h
  rw [if_pos (by simpa using hc)]
  refine h.mono fun o ho=>?_
  rcases ho with ⟨rfl,h⟩ | h
  ·refine .inl ⟨_,rfl,⟨by omega,?_,?_⟩,hc⟩
   ·rw [n2 (by omega) (by omega)]; push_cast; rfl
   ·rw [List.take_succ_eq_append_getElem hc]; exact h
  ·exact .inr h
 ·have:k = l.length:=by omega
  subst this
  rw [List.take_length] at hI
  rw [if_neg (by simp)]
  exact aw.some (.inr ⟨_,rfl,fin hI⟩)
private theorem sum_id {A B:Type} (o:Option (A ⊕ B)):o.map (eh (fun s=>Sum.inl s) Sum.inr) = o:=by
 cases o with
 | none=>rfl
 | some o=>cases o <;> rfl
theorem aw.find {υ:Type} {l:List α} {c:α → Bool} {r:α → υ} {Q:Unit ⊕ υ → Prop} {F:Nat} (hF:l.length < F) (hL:l.length ≤ 9223372036854775807) (h1:(∀ x ∈ l,c x = false) → Q (.inl ())) (h2:∀ pre x post,l = pre ++ x :: post → (∀ y ∈ pre,c y = false) → c x = true → Q (.inr (r x))) {A:Int → Option (Int ⊕ (Unit ⊕ υ))}
  (hA:∀ (i:Int) x,aZ l i = Option.some x → A i = if c x = true then Option.some (.inr (.inr (r x))) else Option.some (.inl (IntKind.i64.wrap (i + 1)))) :
  aw (iter F (fun i=>if decide (i < (l.length:Int)) = true then A i else Option.some (.inr (.inl ()))) 0) Q:=by
 refine aw.ea1 (fun pre=>∀ x ∈ pre,c x = false) hF hL (by simp) (fun pre x post e hx hI=>?_) fun h=>h1 h
 rw [hA _ x hx]
 refine aw.ite (fun h=>aw.some (.inr ⟨_,rfl,h2 pre x post e hI h⟩)) fun h=>aw.some (.inl ⟨rfl,fun y hy=>?_⟩)
 rcases List.mem_append.1 hy with hy | hy
 ·exact hI y hy
 ·rw [List.mem_singleton.1 hy]; exact h
end
end Go.Sk
namespace Go.Sk
open Go
set_option linter.unusedVariables false
def Le {α:Type} (a b:Option α):Prop:=∀ x,a = some x → b = some x
section
variable {α β γ σ τ:Type}
theorem Le.rfl (a:Option α):Le a a:=fun _ h=>h
theorem Le.none (a:Option α):Le Option.none a:=fun _ h=>by cases h
theorem Le.bind {a b:Option α} {k k':α → Option β} (h:Le a b) (hk:∀ x,Le (k x) (k' x)):Le (a.bind k) (b.bind k'):=fun y hy=>by
 cases a with
 | none=>cases hy
 | some x=>rw [h x (Eq.refl _)]; exact hk x y hy
theorem Le.ite {c:Prop} [Decidable c] {a b a' b':Option α} (h1:Le a a') (h2:Le b b'):Le (if c then a else b) (if c then a' else b'):=by
 split
 ·exact h1
 ·exact h2
theorem Le.bx [Inhabited α] {g:Bool} {a b:Option α} (h:Le a b):Le (bx g a) (bx g b):=by
 unfold Go.Sk.bx
 split
 ·exact h
 ·exact Le.rfl _
theorem Le.cu {a:γ} {k k':γ → Option α} (h:∀ a,Le (k a) (k' a)):Le (Go.Sk.cu a k) (Go.Sk.cu a k'):=h a
theorem Le.eh {f f':α → Option γ} {g g':β → Option γ} (h1:∀ x,Le (f x) (f' x)) (h2:∀ x,Le (g x) (g' x)) (z:α ⊕ β):Le (Go.Sk.eh f g z) (Go.Sk.eh f' g' z):=by
 cases z with
 | inl x=>exact h1 x
 | inr x=>exact h2 x
theorem Le.iter {F F':Nat} (hF:F ≤ F') {f f':σ → Option (σ ⊕ τ)} (h:∀ s,Le (f s) (f' s)) (s:σ):Le (Go.Sk.iter F f s) (Go.Sk.iter F' f' s):=by
 induction F generalizing F' s with
 | zero=>exact Le.none _
 | succ F ih=>
  obtain ⟨F',rfl⟩:∃ g,F' = g + 1:=⟨F' - 1,by omega⟩
  rw [eo,eo]
  exact Le.bind (h s) (Le.eh (fun x=>ih (by omega) x) fun x=>Le.rfl _)
end
end Go.Sk
