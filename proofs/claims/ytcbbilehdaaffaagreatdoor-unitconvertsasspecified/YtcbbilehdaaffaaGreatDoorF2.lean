/- part of the proof: the framework -/
import Derived.Test.YtcbbilehdaaffaaGreatDoorF1
import Derived.Laws.BytesArg
import Derived.ChangeKeysEq
import Derived.Lib.ConvBytes
import Derived.Below
import Derived.Lib.LaidTab
import Derived.Scope
import Derived.Shelf.Vars
import Derived.MapKept
namespace Go.Sk
set_option linter.unusedSimpArgs false
set_option linter.unusedVariables false
open Go Go.BigFrame
structure tA where
 done:List Bool
 base:List (Nat × SV)
 own:List (Nat × OC)
 live:List Bool
 must:List Nat
def nb (l:List Bool) (i:Nat):Bool:=l.getD i false
def nZ:List tA → List Bool → Option tA
 | [],_=>none
 | σ :: tab,d=>if σ.done == d then some σ else nZ tab d
theorem jd:∀ {tab:List tA} {d:List Bool} {σ:tA},nZ tab d = some σ → σ.done = d ∧ σ ∈ tab
 | σ0 :: tab,d,σ,h=>by
  unfold nZ at h
  split at h
  ·next e=>cases h; exact ⟨by simpa using e,List.mem_cons_self⟩
  ·exact ⟨(jd h).1,List.mem_cons_of_mem _ (jd h).2⟩
def cQ (p:Nat → Bool) (l:List Oper) (Fs:List SV):List Edge → List (Nat × SV)
 | []=>[]
 | e :: es=>if Region.binds .any e && p e.on then
   match l[e.on]?,Fs[e.on]? with
   | some o,some x=>(match o.dst with | some d=>(d,x) :: cQ p l Fs es | none=>cQ p l Fs es)
   | _,_=>cQ p l Fs es
  else cQ p l Fs es
theorem qh {p:Nat → Bool} {l:List Oper} {Fs:List SV}:∀ {es:List Edge} {q:Nat × SV},q ∈ cQ p l Fs es → ∃ e,e ∈ es ∧ Region.binds .any e = true ∧ p e.on = true ∧ ∃ o,l[e.on]? = some o ∧ o.dst = some q.1 ∧ Fs[e.on]? = some q.2
 | [],q,h=>by simp [cQ] at h
 | e :: es,q,h=>by
  have hrec:q ∈ cQ p l Fs es → ∃ e',e' ∈ e :: es ∧ Region.binds .any e' = true ∧ p e'.on = true ∧ ∃ o,l[e'.on]? = some o ∧ o.dst = some q.1 ∧ Fs[e'.on]? = some q.2:=fun h=>by
   obtain ⟨e',h1,h2⟩:=qh h
   exact ⟨e',List.mem_cons_of_mem _ h1,h2⟩
  unfold cQ at h
  split at h
  ·rename_i hb
   simp only [Bool.and_eq_true] at hb
   split at h
   ·rename_i o x ho hx
    split at h
    ·rename_i d hd
     cases List.mem_cons.1 h with
     | inl e'=>subst e'; exact ⟨e,List.mem_cons_self,hb.1,hb.2,o,ho,hd,hx⟩
     | inr e'=>exact hrec e'
    ·exact hrec h
   ·exact hrec h
  ·exact hrec h
def qS:Option Nat → List (Nat × SV) → List (Nat × SV)
 | some k,l=>eJ k l
 | none,l=>l
def xa:Option Nat → SV → Bool
 | some k,x=>x.cI k
 | none,_=>false
def C7 (o:Oper) (j:Nat):Bool:=o.after.toList.any fun e=>Region.binds .any e && e.on == j
section
variable {P:Program} {TB:cG} {E:Env TB} {n:Sh} {s s':St} {l:List Oper} {Q:fi} {o:Oper}
def may (isW:List Bool) (σ:tA) (i:Nat) (o:Oper):Bool:=!nb σ.done i && !σ.must.contains i && (o.after.toList.all fun e=>!Region.binds .any e || !nb isW e.on || nb σ.done e.on)
def yO (isW:List Bool) (l:List Oper) (σ:tA):Bool:=σ.must.all fun j=>(nb isW j && nb σ.done j) || (σ.must.any fun i=>decide (j < i) && (match l[i]? with | some o=>C7 o j | none=>false))
theorem dN.to {ops:Array Oper} {s1 s2:St} (h:dN P E n ops o s s1) (e:s1 = s2):dN P E n ops o s s2:=e ▸ h
def yH (P:Program) {TB:cG} (E:Env TB) (n:Sh) (isW:List Bool) (tab:List tA) (l:List Oper) (Fs:List SV) (σ:tA):Nat → List Oper → Prop
 | _,[]=>True
 | i,o :: r=>(if may isW σ i o = true then
   (if nb isW i = true then ∃ τ key x,nZ tab (σ.done.set i true) = some τ ∧ (o.dst.isSome = true → Fs[i]? = some x) ∧ τ.base = qS key σ.base ∧ ((List.range l.length).all fun j=>!nb τ.live j || j == i || (nb σ.live j && (match Fs[j]? with | some y=>!xa key y | none=>true))) = true ∧
     ∀ extra,dN P E n l.toArray o ⟨cQ (nb σ.live) l Fs o.after.toList ++ (σ.base ++ extra),σ.own⟩ (St.put n o.dst x ⟨qS key (cQ (nb σ.live) l Fs o.after.toList ++ (σ.base ++ extra)),τ.own⟩)
    else ∃ x,(o.dst.isSome = true → Fs[i]? = some x) ∧ ∀ extra,dN P E n l.toArray o ⟨cQ (nb σ.live) l Fs o.after.toList ++ (σ.base ++ extra),σ.own⟩ (St.put n o.dst x ⟨cQ (nb σ.live) l Fs o.after.toList ++ (σ.base ++ extra),σ.own⟩))
   else True) ∧ yH P E n isW tab l Fs σ (i + 1) r
def yG (P:Program) {TB:cG} (E:Env TB) (n:Sh) (isW:List Bool) (tab:List tA) (l:List Oper) (Fs:List SV):List tA → Prop
 | []=>True
 | σ :: r=>(yO isW l σ && ((List.range l.length).all fun i=>!nb σ.done i || nb isW i) && (σ.base.all fun p=>!(ko l).contains p.1) && (σ.done.length == l.length)) = true ∧ yH P E n isW tab l Fs σ 0 l ∧ yG P E n isW tab l Fs r
theorem yH.get {isW:List Bool} {tab:List tA} {l0:List Oper} {Fs:List SV} {σ:tA}:∀ {r:List Oper} {k:Nat},yH P E n isW tab l0 Fs σ k r → ∀ (i:Nat) (o:Oper),r[i]? = some o → may isW σ (k + i) o = true →
      (if nb isW (k + i) = true then ∃ τ key x,nZ tab (σ.done.set (k + i) true) = some τ ∧ (o.dst.isSome = true → Fs[k + i]? = some x) ∧ τ.base = qS key σ.base ∧ ((List.range l0.length).all fun j=>!nb τ.live j || j == k + i || (nb σ.live j && (match Fs[j]? with | some y=>!xa key y | none=>true))) = true ∧
          ∀ extra,dN P E n l0.toArray o ⟨cQ (nb σ.live) l0 Fs o.after.toList ++ (σ.base ++ extra),σ.own⟩ (St.put n o.dst x ⟨qS key (cQ (nb σ.live) l0 Fs o.after.toList ++ (σ.base ++ extra)),τ.own⟩)
        else ∃ x,(o.dst.isSome = true → Fs[k + i]? = some x) ∧ ∀ extra,dN P E n l0.toArray o ⟨cQ (nb σ.live) l0 Fs o.after.toList ++ (σ.base ++ extra),σ.own⟩ (St.put n o.dst x ⟨cQ (nb σ.live) l0 Fs o.after.toList ++ (σ.base ++ extra),σ.own⟩))
  | [],k,h,i,o,ho,_=>by simp at ho
  | p :: r,k,h,i,o,ho,hm=>by
    obtain ⟨h1,h2⟩:=h
    cases i with
    | zero=>
      simp at ho; subst ho
      rw [Nat.add_zero] at hm ⊢
      rw [if_pos hm] at h1
      exact h1
    | succ i=>
      have:=yH.get h2 i o (by simpa using ho) (by rw [← hm]; congr 1; omega)
      have e:k + 1 + i = k + (i + 1):=by omega
      rwa [e] at this
theorem yG.get {isW:List Bool} {tab:List tA} {Fs:List SV}:∀ {r:List tA},yG P E n isW tab l Fs r → ∀ σ ∈ r,(yO isW l σ && ((List.range l.length).all fun i=>!nb σ.done i || nb isW i) && (σ.base.all fun p=>!(ko l).contains p.1) && (σ.done.length == l.length)) = true ∧ yH P E n isW tab l Fs σ 0 l
 | σ :: r,h,τ,hm=>by
  cases List.mem_cons.1 hm with
  | inl e=>subst e; exact ⟨h.1,h.2.1⟩
  | inr e=>exact yG.get h.2.2 τ e
theorem vy {key:Option Nat} {l:List (Nat × SV)} {q:Nat × SV} (h:q ∈ l) (hu:xa key q.2 = false):q ∈ qS key l:=by
 cases key with
 | none=>exact h
 | some k=>
  show q ∈ eJ k l
  have hu':q.2.cI k = false:=hu
  clear hu
  induction l with
  | nil=>simp at h
  | cons p l ih=>
   obtain ⟨i,x⟩:=p
   show q ∈ (if x.cI k = true then eJ k l else (i,x) :: eJ k l)
   cases List.mem_cons.1 h with
   | inl e=>
    subst e
    rw [if_neg (by rw [hu']; simp)]
    exact List.mem_cons_self
   | inr e=>
    split
    ·exact ih e
    ·exact List.mem_cons_of_mem _ (ih e)
theorem nb_eq {a b:List Bool} (hl:a.length = b.length) (h:∀ i,nb a i = nb b i):a = b:=by
 refine List.ext_getElem hl fun i h1 h2=>?_
 have:=h i
 simpa [nb,List.getD,List.getElem?_eq_getElem h1,List.getElem?_eq_getElem h2] using this
theorem nb_set {a:List Bool} {i j:Nat}:nb (a.set i true) j = if j = i ∧ i < a.length then true else nb a j:=by
 unfold nb
 simp only [List.getD,List.getElem?_set]
 by_cases h:i = j
 ·subst h
  by_cases h2:i < a.length <;> simp [h2]
 ·have h':¬ j = i:=fun e=>h e.symm
  simp [h,h']
theorem yr {isW:List Bool} {σ:tA} {listed:Array Bool} (hm:yO isW l σ = true) (hw:∀ i,nb isW i = true → listed.getD i false = nb σ.done i) (hcl:∀ (i:Nat) (p:Oper),l[i]? = some p → listed.getD i false = true → ∀ e ∈ p.after.toList,Region.binds .any e = true → listed.getD e.on false = true) :
  ∀ m j,l.length - j = m → j ∈ σ.must → listed.getD j false = true:=by
 intro m
 induction m using Nat.strongRecOn with
 | _ m ih=>
  intro j hm' hj
  have:=List.all_eq_true.1 hm j hj
  simp only [Bool.or_eq_true,Bool.and_eq_true,List.any_eq_true,decide_eq_true_eq] at this
  rcases this with ⟨h1,h2⟩ | ⟨i,hi,hji,hp⟩
  ·rw [hw j h1]; exact h2
  ·cases hpi:l[i]? with
   | none=>rw [hpi] at hp; simp at hp
   | some p=>
    rw [hpi] at hp
    have hil:=(List.getElem?_eq_some_iff.1 hpi).1
    simp only [C7,List.any_eq_true,Bool.and_eq_true,beq_iff_eq] at hp
    obtain ⟨e,he,hb,hon⟩:=hp
    have:=hcl i p hpi (ih (l.length - i) (by omega) i rfl hi) e he hb
    rwa [hon] at this
theorem anyW {isW:List Bool} {tab:List tA} {Fs:List SV} (hok:(l8 0 l && ng (ko l) && (ko l).all (· < n.n) && (isW.length == l.length)) = true) (htab:yG P E n isW tab l Fs tab)
  (hfin:∀ σ,nZ tab isW = some σ → Fin E n .normal ⟨σ.base ++ bI (nb σ.live) 0 l Fs,σ.own⟩ Q):∀ (fuel:Nat) (listed:Array Bool) (σ:tA) (a:Act) (w:World),
  listed.size = l.length → nZ tab σ.done = some σ → (∀ i,nb isW i = true → listed.getD i false = nb σ.done i) → (∀ (i:Nat) (p:Oper),l[i]? = some p → listed.getD i false = true → ∀ e ∈ p.after.toList,Region.binds .any e = true → listed.getD e.on false = true) →
  l.length ≤ fuel + (listed.toList.filter id).length → R E n ⟨σ.base ++ bI (fun i=>listed.getD i false && nb σ.live i) 0 l Fs,σ.own⟩ a w → wpAny P .any l.toArray Q fuel listed a w:=by
 simp only [Bool.and_eq_true,beq_iff_eq] at hok
 obtain ⟨⟨⟨hedges,hnd⟩,hlt⟩,hWl⟩:=hok
 simp only [List.all_eq_true] at hlt
 have hcount:∀ (L:List Bool) (i:Nat) (hi:i < L.length),L[i] = false → ((L.set i true).filter id).length = (L.filter id).length + 1:=by
  intro L
  induction L with
  | nil=>intro i hi; simp at hi
  | cons b L ihL=>
   intro i hi hb
   cases i with
   | zero=>simp at hb; subst hb; simp
   | succ i=>
    have:=ihL i (by simpa using hi) (by simpa using hb)
    cases b <;> simp [this]
 have hready:∀ (listed:Array Bool),listed.size = l.length → Region.ready .any l.toArray listed = [] → ∀ j,j < l.length → listed.getD j false = true:=by
  intro listed hsz hr j hj
  induction j using Nat.strongRecOn with
  | _ j ih=>
   cases hb:listed.getD j false with
   | true=>rfl
   | false=>
    exfalso
    have hjs:j < listed.size:=by omega
    have hjr:j ∈ Region.ready .any l.toArray listed:=by
     rw [mem_ready]
     have hlj:listed.getD j true = false:=by
      simp only [Array.getD_eq_getD_getElem?,Array.getElem?_eq_getElem hjs,Option.getD_some] at hb ⊢
      exact hb
     refine ⟨hlj,l[j],by simp [hj],fun e he hbd=>?_⟩
     have:=nW hedges j l[j] (by simp) e he hbd
     exact ih e.on (by omega) (by omega)
    rw [hr] at hjr
    simp at hjr
 have hdone:∀ (listed:Array Bool) (σ:tA) (a:Act) (w:World),listed.size = l.length → nZ tab σ.done = some σ → (∀ i,nb isW i = true → listed.getD i false = nb σ.done i) → Region.ready .any l.toArray listed = [] →
   R E n ⟨σ.base ++ bI (fun i=>listed.getD i false && nb σ.live i) 0 l Fs,σ.own⟩ a w → Q .normal a w:=by
  intro listed σ a w hsz hσ hwl hr hR
  have hall:=hready listed hsz hr
  obtain ⟨hσ1,hσ2⟩:=jd hσ
  obtain ⟨hc,_⟩:=htab.get σ hσ2
  simp only [Bool.and_eq_true,List.all_eq_true,List.mem_range,Bool.or_eq_true,Bool.not_eq_true',beq_iff_eq] at hc
  obtain ⟨⟨⟨_,hc2⟩,_⟩,hc4⟩:=hc
  have he:σ.done = isW:=by
   refine nb_eq (by omega) fun i=>?_
   by_cases hi:i < l.length
   ·cases hw:nb isW i with
    | true=>rw [← hwl i hw]; exact hall i hi
    | false=>
     rcases hc2 i hi with h | h
     ·exact h
     ·rw [hw] at h; simp at h
   ·have h1:nb σ.done i = false:=by simp [nb,List.getD,List.getElem?_eq_none (show σ.done.length ≤ i by omega)]
    have h2:nb isW i = false:=by simp [nb,List.getD,List.getElem?_eq_none (show isW.length ≤ i by omega)]
    rw [h1,h2]
  refine hfin σ (by rw [← he]; exact hσ) a w ?_
  obtain ⟨h1,h2,h,ρ,hw,hs⟩:=hR
  refine ⟨h1,h2,h,ρ,hw,fun k x hx=>hs k x ?_⟩
  rcases List.mem_append.1 hx with hx | hx
  ·exact List.mem_append.2 (.inl hx)
  ·refine List.mem_append.2 (.inr ?_)
   rw [dd] at hx ⊢
   obtain ⟨j,oj,hj,hd,hF,hl⟩:=hx
   rw [Nat.zero_add] at hl
   exact ⟨j,oj,hj,hd,hF,by rw [Nat.zero_add,hall j (List.getElem?_eq_some_iff.1 hj).1,hl]; rfl⟩
 intro fuel
 induction fuel with
 | zero=>
  intro listed σ a w hsz hσ hwl hcl hf hR
  have hnr:Region.ready .any l.toArray listed = []:=by
   apply List.eq_nil_iff_forall_not_mem.2
   intro j hj
   rw [mem_ready] at hj
   obtain ⟨hj1,oj,hoj,_⟩:=hj
   have hjl:j < l.length:=by
    have:=(Array.getElem?_eq_some_iff.1 hoj).1
    simpa using this
   have hjs:j < listed.size:=by omega
   have hz':listed.toList[j]'(by simpa using hjs) = false:=by simpa [Array.getD_eq_getD_getElem?,Array.getElem?_eq_getElem hjs] using hj1
   have h1:=hcount listed.toList j (by simpa using hjs) hz'
   have h2:=List.length_filter_le id (listed.toList.set j true)
   simp at h1 h2 hf
   omega
  exact ⟨hnr,hdone listed σ a w hsz hσ hwl hnr hR⟩
 | succ fuel ih=>
  intro listed σ a w hsz hσ hwl hcl hf hR
  refine ⟨fun hr=>hdone listed σ a w hsz hσ hwl hr hR,fun i hi=>?_⟩
  rw [mem_ready] at hi
  obtain ⟨hi1,o',ho,hdeps⟩:=hi
  have hil:i < l.length:=by
   have:=(Array.getElem?_eq_some_iff.1 ho).1
   simpa using this
  have hol:l[i]? = some o':=by simpa using ho
  have his:i < listed.size:=by omega
  have hi1':listed[i] = false:=by simpa [Array.getD_eq_getD_getElem?,Array.getElem?_eq_getElem his] using hi1
  have hi2:listed.getD i false = false:=by simp [Array.getD_eq_getD_getElem?,Array.getElem?_eq_getElem his,hi1']
  obtain ⟨hσ1,hσ2⟩:=jd hσ
  obtain ⟨hc,hops⟩:=htab.get σ hσ2
  simp only [Bool.and_eq_true,List.all_eq_true,List.mem_range,Bool.or_eq_true,Bool.not_eq_true',beq_iff_eq] at hc
  obtain ⟨⟨⟨hc1,hc2⟩,hc3⟩,hc4⟩:=hc
  have hmust:=yr (l:=l) (σ:=σ) (isW:=isW) hc1 hwl hcl
  have hmay:may isW σ i o' = true:=by
   simp only [may,Bool.and_eq_true,Bool.not_eq_true',List.all_eq_true,Bool.or_eq_true]
   refine ⟨⟨?_,?_⟩,fun e he=>?_⟩
   ·cases hd:nb σ.done i with
    | false=>rfl
    | true=>
     rcases hc2 i hil with h | h
     ·rw [hd] at h; simp at h
     ·rw [hwl i h,hd] at hi2; simp at hi2
   ·cases hd:σ.must.contains i with
    | false=>rfl
    | true=>
     have:=hmust _ i rfl (by simpa using hd)
     rw [hi2] at this; simp at this
   ·cases hb:Region.binds .any e with
    | false=>simp
    | true=>
     have:=hdeps e (by simpa using he) hb
     cases hw:nb isW e.on with
     | false=>simp
     | true=>rw [hwl _ hw] at this; simp [this]
  have hstep:=yH.get hops i o' hol (by rw [Nat.zero_add]; exact hmay)
  simp only [Nat.zero_add] at hstep
  have hR2:R E n ⟨cQ (nb σ.live) l Fs o'.after.toList ++ (σ.base ++ bI (fun i=>listed.getD i false && nb σ.live i) 0 l Fs),σ.own⟩ a w:=by
   obtain ⟨h1,h2,h,ρ,hw,hs⟩:=hR
   refine ⟨h1,h2,h,ρ,hw,fun k y hy=>?_⟩
   rcases List.mem_append.1 hy with hy | hy
   ·obtain ⟨e,he,hb,hp,o'',ho',hd',hF'⟩:=qh hy
    refine hs k y (List.mem_append.2 (.inr ?_))
    rw [dd]
    exact ⟨e.on,o'',ho',hd',hF',by rw [Nat.zero_add,hdeps e (by simpa using he) hb,hp]; rfl⟩
   ·exact hs k y hy
  have hcl':∀ (j:Nat) (p:Oper),l[j]? = some p → (listed.setIfInBounds i true).getD j false = true → ∀ e ∈ p.after.toList,Region.binds .any e = true → (listed.setIfInBounds i true).getD e.on false = true:=by
   intro j p hj hlj e he hb
   have hset:∀ q,listed.getD q false = true → (listed.setIfInBounds i true).getD q false = true:=fun q hq=>by
    by_cases e:q = i
    ·subst e; simp [Array.getD_eq_getD_getElem?,his]
    ·rw [getD_set_ne false (fun h=>e h.symm)]; exact hq
   by_cases e':j = i
   ·subst e'
    rw [hol] at hj; cases hj
    exact hset _ (hdeps e (by simpa using he) hb)
   ·rw [getD_set_ne false (fun h=>e' h.symm)] at hlj
    exact hset _ (hcl j p hj hlj e he hb)
  have hcnt:l.length ≤ fuel + ((listed.setIfInBounds i true).toList.filter id).length:=by
   have:=hcount listed.toList i (by simpa using his) (by simpa using hi1')
   rw [Array.toList_setIfInBounds]
   omega
  have hsz':(listed.setIfInBounds i true).size = l.length:=by simpa using hsz
  have hnext:∀ (τ:tA) (key:Option Nat) (x:SV) (a':Act) (w':World),(o'.dst.isSome = true → Fs[i]? = some x) → τ.base = qS key σ.base →
    (∀ j,j < l.length → nb τ.live j = true → j = i ∨ (nb σ.live j = true ∧ ∀ y,Fs[j]? = some y → xa key y = false)) →
    R E n (St.put n o'.dst x ⟨qS key (cQ (nb σ.live) l Fs o'.after.toList ++ (σ.base ++ bI (fun i=>listed.getD i false && nb σ.live i) 0 l Fs)),τ.own⟩) a' w' →
    R E n ⟨τ.base ++ bI (fun i'=>(listed.setIfInBounds i true).getD i' false && nb τ.live i') 0 l Fs,τ.own⟩ a' w':=by
   intro τ key x a' w' hx hbase hlive hR'
   obtain ⟨h1,h2,h,ρ,hw,hs⟩:=hR'
   have hown:(St.put n o'.dst x ⟨qS key (cQ (nb σ.live) l Fs o'.after.toList ++ (σ.base ++ bI (fun i=>listed.getD i false && nb σ.live i) 0 l Fs)),τ.own⟩).own = τ.own:=by
    cases hd:o'.dst with
    | none=>rfl
    | some d=>simp only [St.put,St.set]; split <;> rfl
   rw [hown] at hw
   refine ⟨h1,h2,h,ρ,hw,fun k y hy=>?_⟩
   have hold:(∀ d,o'.dst = some d → k ≠ d) → (k,y) ∈ qS key (cQ (nb σ.live) l Fs o'.after.toList ++ (σ.base ++ bI (fun i=>listed.getD i false && nb σ.live i) 0 l Fs)) → ∃ v,a'.tmps[k]? = some v ∧ y.rel h ρ v:=by
    intro hkd hm
    refine hs k y ?_
    cases hd:o'.dst with
    | none=>exact hm
    | some d=>
     simp only [St.put,St.set]
     split
     ·exact List.mem_cons_of_mem _ (jP hm (hkd d hd))
     ·exact hm
   rcases List.mem_append.1 hy with hy | hy
   ·rw [hbase] at hy
    have hy2:(k,y) ∈ σ.base ∧ xa key y = false:=by
     cases key with
     | none=>exact ⟨hy,rfl⟩
     | some q=>exact gS hy
    refine hold (fun d hd e=>?_) (vy (List.mem_append.2 (.inr (List.mem_append.2 (.inl hy2.1)))) hy2.2)
    have:=hc3 (k,y) hy2.1
    simp only [List.contains_eq_mem,decide_eq_false_iff_not] at this
    exact this (by rw [e]; exact lC hol hd)
   ·rw [dd] at hy
    obtain ⟨j,oj,hj,hd',hF',hl'⟩:=hy
    rw [Nat.zero_add] at hl'
    simp only [Bool.and_eq_true] at hl'
    have hjl:=(List.getElem?_eq_some_iff.1 hj).1
    by_cases hji:j = i
    ·subst hji
     rw [hol] at hj; cases hj
     have hxy:x = y:=by
      have:=hx (by rw [hd']; rfl)
      rw [this] at hF'; exact Option.some.inj hF'
     subst hxy
     refine hs k x ?_
     have hk:k < n.n:=by simpa using hlt k (lC hol hd')
     simp only [hd',St.put,St.set,hk,if_true]
     exact List.mem_cons_self
    ·rcases hlive j hjl hl'.2 with h | ⟨h3,h4⟩
     ·exact absurd h hji
     ·have hl2:listed.getD j false = true:=by
       have:=hl'.1
       rwa [getD_set_ne false (fun e=>hji e.symm)] at this
      refine hold (fun d hd e=>hji (um hnd hj hol (e ▸ hd') hd)) (vy (List.mem_append.2 (.inr (List.mem_append.2 (.inr ?_)))) (h4 y hF'))
      rw [dd]
      exact ⟨j,oj,hj,hd',hF',by rw [Nat.zero_add,hl2,h3]; rfl⟩
  unfold wpOp
  rw [ho]
  dsimp only
  have fin:∀ (K:Act → World → Prop),(if Region.wanted o' (yielded l.toArray a.tmps) = true then o'.wp P a w K Q else K (a.put o'.dst undef) w) → (∀ a' w',K a' w' → wpAny P .any l.toArray Q fuel (listed.setIfInBounds i true) a' w') → (if Region.wanted o' (yielded l.toArray a.tmps) = true then (o'.wp P a w (wpAny P .any l.toArray Q fuel (listed.setIfInBounds i true)) Q ∨ False) else wpAny P .any l.toArray Q fuel (listed.setIfInBounds i true) (a.put o'.dst undef) w):=by
   intro K hK hk
   split
   ·rename_i hw'
    simp only [hw',if_true] at hK
    exact .inl (Oper.wp_mono hk hK)
   ·rename_i hw'
    simp only [hw'] at hK
    exact hk _ _ hK
  by_cases hw:nb isW i = true
  ·rw [if_pos hw] at hstep
   obtain ⟨τ,key,x,hτ,hx,hbase,hlive,hst⟩:=hstep
   obtain ⟨hτ1,hτ2⟩:=jd hτ
   have key1:=hst (bI (fun i=>listed.getD i false && nb σ.live i) 0 l Fs) a w hR2 (wpAny P .any l.toArray Q fuel (listed.setIfInBounds i true)) Q (fun a' w' hR'=>by
    refine ih _ τ a' w' hsz' (by rw [hτ1]; exact hτ) ?_ hcl' hcnt (hnext τ key x a' w' hx hbase ?_ hR')
    ·intro j hj
     rw [hτ1,nb_set]
     by_cases e:j = i
     ·subst e
      rw [if_pos ⟨rfl,by omega⟩]
      simp [Array.getD_eq_getD_getElem?,his]
     ·rw [if_neg (fun h=>e h.1),getD_set_ne false (fun h=>e h.symm)]
      exact hwl j hj
    ·intro j hjl hlj
     have:=List.all_eq_true.1 hlive j (List.mem_range.2 hjl)
     simp only [Bool.or_eq_true,Bool.not_eq_true',beq_iff_eq,Bool.and_eq_true] at this
     rcases this with (h | h) | ⟨h,h'⟩
     ·rw [hlj] at h; simp at h
     ·exact .inl h
     ·refine .inr ⟨h,fun y hy=>?_⟩
      rw [hy] at h'
      simpa using h')
   split
   ·rename_i hw'
    simp only [hw',if_true] at key1
    exact .inl key1
   ·rename_i hw'
    simp only [hw'] at key1
    exact key1
  ·rw [if_neg hw] at hstep
   obtain ⟨x,hx,hst⟩:=hstep
   have key1:=hst (bI (fun i=>listed.getD i false && nb σ.live i) 0 l Fs) a w hR2 (wpAny P .any l.toArray Q fuel (listed.setIfInBounds i true)) Q (fun a' w' hR'=>by
    refine ih _ σ a' w' hsz' hσ ?_ hcl' hcnt (hnext σ none x a' w' hx rfl (fun j _ hlj=>.inr ⟨hlj,fun _ _=>rfl⟩) hR')
    intro j hj
    by_cases e:j = i
    ·subst e; exact absurd hj hw
    ·rw [getD_set_ne false (fun h=>e h.symm)]
     exact hwl j hj)
   split
   ·rename_i hw'
    simp only [hw',if_true] at key1
    exact .inl key1
   ·rename_i hw'
    simp only [hw'] at key1
    exact key1
theorem ab.xu {rid:Nat} {ops:List Oper} (hm:P.follows .mixedOrders = true) (isW:List Bool) (Fs:List SV) (tab:List tA) {σ0 σf:tA} (hok:(l8 0 ops && ng (ko ops) && (ko ops).all (· < n.n) && (isW.length == ops.length)) = true)
  (htab:yG P E n isW tab ops Fs tab) (h0:nZ tab (List.replicate ops.length false) = some σ0) (hs0:s = ⟨σ0.base,σ0.own⟩) (hf:nZ tab isW = some σf) (ks kos:List Nat)
  (hs:(⟨σf.base ++ bI (nb σf.live) 0 ops Fs,σf.own⟩:St).ik ks kos = s') (h:Fin E n .normal s' Q):ab P E n (.region rid ops.toArray true) s Q:=by
 subst hs0
 intro a w hr
 refine wp_region_any hm ?_
 refine anyW hok htab (Fs:=Fs) (fun σ hσ=>?_) _ _ σ0 _ _ (by simp) (by rw [(jd h0).1]; exact h0) ?_ ?_ (by simp) ?_
 ·rw [hf] at hσ; cases hσ
  exact fun a w hr=>h a w (hs ▸ hr.ik ks kos)
 ·intro i _
  rw [(jd h0).1]
  by_cases hi:i < ops.length <;> simp [nb,List.getD,Array.getD_eq_getD_getElem?,hi]
 ·intro i p hi hl
  exfalso
  simp only [Array.getD_eq_getD_getElem?,Array.getElem?_replicate] at hl
  split at hl <;> simp at hl
 ·have hr':=hr.drawn
  obtain ⟨h1,h2,hh,ρ,hw,hsl⟩:=hr'
  refine ⟨h1,h2,hh,ρ,hw,fun k x hx=>hsl k x ?_⟩
  rcases List.mem_append.1 hx with hx | hx
  ·exact hx
  ·rw [dd] at hx
   obtain ⟨j,o,hj,_,_,hl⟩:=hx
   simp only [Nat.zero_add,Array.getD_eq_getD_getElem?,Array.getElem?_replicate,Bool.and_eq_true] at hl
   have:=hl.1
   split at this <;> simp at this
theorem ab.pz {rid:Nat} {ops:List Oper} {y:Code} (hm:P.follows .mixedOrders = true) (isW:List Bool) (Fs:List SV) (tab:List tA) {σ0 σf:tA} (hok:(l8 0 ops && ng (ko ops) && (ko ops).all (· < n.n) && (isW.length == ops.length)) = true)
  (htab:yG P E n isW tab ops Fs tab) (h0:nZ tab (List.replicate ops.length false) = some σ0) (hs0:s = ⟨σ0.base,σ0.own⟩) (hf:nZ tab isW = some σf) (ks kos:List Nat)
  (hs:(⟨σf.base ++ bI (nb σf.live) 0 ops Fs,σf.own⟩:St).ik ks kos = s') (h:ab P E n y s' Q):ab P E n (.region rid ops.toArray true) s (Exit.then (y.wp P Q) Q) :=
 ab.xu hm isW Fs tab hok htab h0 hs0 hf ks kos hs (Fin.then h)
end
end Go.Sk
namespace Go.Sk
open Go
end Go.Sk
namespace Go.Sk
set_option linter.unusedSimpArgs false
set_option linter.unusedVariables false
open Go Go.BigFrame
section
variable {P:Program} {TB:cG} {E:Env TB} {n:Sh} {s s2:St} {dst:Option Nat} {t ty yt:TypeId} {pos:String} {after:Array Edge} {g:Option (Nat × Bool)} {x y c:Operand} {k:IntKind} {a b:Int} {ops:Array Oper} {o:Oper}
end
end Go.Sk
namespace Go.Sk
set_option linter.unusedSimpArgs false
set_option linter.unusedVariables false
open Go
end Go.Sk
namespace Go.Sk
set_option linter.unusedSimpArgs false
set_option linter.unusedVariables false
open Go Go.BigFrame
def eA (k:IntKind) (l:List Int):List CP:=l.map (.int k)
@[simp] theorem eA_len (k:IntKind) (l:List Int):(eA k l).length = l.length:=by simp [eA]
theorem cc {cs post:List CP} {l:List Int} {k:IntKind} {i z:Int} {m o:Nat} (pre:List CP) (h:bB l i = some z) (hm:pre.length = m) (hcs:cs = pre ++ (l.map (.int k) ++ post)) (ho:m + i.toNat * 1 = o):cs[o]? = some (.int k z):=by
 subst ho hm hcs
 have h0:=bp h
 have h1:=b9 h
 rw [List.getElem?_append_right (by omega),List.getElem?_append_left (by rw [List.length_map]; omega)]
 have e:pre.length + i.toNat * 1 - pre.length = i.toNat:=by omega
 rw [e,List.getElem?_map,gf h]
 rfl
theorem jr {cs post:List CP} {l:List Int} {k:IntKind} {i z:Int} {m o:Nat} (pre:List CP) (h:bB l i = some z) (hm:pre.length = m) (hcs:cs = pre ++ (l.map (.int k) ++ post)) (ho:m + i.toNat * 1 = o):o < cs.length:=by
 subst ho hm hcs
 have h0:=bp h
 have h1:=b9 h
 rw [List.length_append,List.length_append,List.length_map]
 omega
theorem gW {cs cs' post:List CP} {l l':List Int} {k:IntKind} {i z x:Int} {m o:Nat} (pre:List CP) (h:bB l i = some z) (hm:pre.length = m) (hcs:cs = pre ++ (l.map (.int k) ++ post)) (hl:l' = l.set i.toNat x)
  (hcs':cs' = pre ++ (l'.map (.int k) ++ post)) (ho:m + i.toNat * 1 = o):cs.set o (.int k x) = cs':=by
 subst ho hm hcs hcs' hl
 have h0:=bp h
 have h1:=b9 h
 rw [List.set_append_right _ _ (by omega),List.set_append_left _ _ (by rw [List.length_map]; omega)]
 have e:pre.length + i.toNat * 1 - pre.length = i.toNat:=by omega
 rw [e,List.map_set]
section
variable {P:Program} {t:TypeId}
def dx (P:Program) (d:Nat) (t:TypeId) (m:Nat) (ps qs:List CP) (r:Bool):Prop :=
 ∀ (h:PH) (w:World) (A B:Array Value) (off:Nat),bd h ps ((A.toList.drop off).take m) → bd h qs ((B.toList.drop off).take m) → ps.length = m → qs.length = m →
  ∃ a b,(part t A off).run P w = .ok a w ∧ (part t B off).run P w = .ok b w ∧ (Op.equalIn d t a b).run P w = .ok r w
theorem jD (ht:fG P t) {A:Array Value} {off:Nat} {v:Value} (hv:A[off]? = some v) (w:World):(part t A off).run P w = .ok v w:=by
 obtain ⟨d,hd,ha⟩:=ht.und
 unfold part
 rw [Sem.run_bind,mN hd,Result.andThen,ha]
 simp [hv]
theorem iB {m:Nat} (ht:gJ P t m) {A:Array Value} {off:Nat} (w:World):(part t A off).run P w = .ok (.agg (A.extract off (off + m))) w:=by
 obtain ⟨d,hd,ha⟩:=ht.und
 obtain ⟨i,hi,hn⟩:=ht.size
 unfold part
 rw [Sem.run_bind,mN hd,Result.andThen,ha]
 simp [run_sizeOf hi,hn]
theorem sM {h:PH} {p:CP} {A:Array Value} {off:Nat} (hr:bd h [p] ((A.toList.drop off).take 1)):∃ u,A[off]? = some u ∧ p.rel h u:=by
 obtain ⟨u,hu,hp⟩:=hr.get 0 p rfl
 rw [List.getElem?_take] at hu
 simp at hu
 exact ⟨u,hu,hp⟩
theorem dx.one {d:Nat} {p q:CP} {r:Bool} (ht:fG P t) (hrun:∀ (h:PH) (u v:Value) (w:World),p.rel h u → q.rel h v → (Op.equalIn d t u v).run P w = .ok r w):dx P d t 1 [p] [q] r:=by
 intro h w A B off ha hb _ _
 obtain ⟨u,hu,hp⟩:=sM ha
 obtain ⟨v,hv,hq⟩:=sM hb
 exact ⟨u,v,jD ht hu w,jD ht hv w,hrun h u v w hp hq⟩
theorem dx.int {d:Nat} {k k':IntKind} {a b:Int} (h1:fG P t) (hu:P.underlying t = some (.int k')):dx P (d + 1) t 1 [.int k a] [.int k b] (decide (a = b)) :=
 .one h1 fun h u v w hp hq=>by rw [hp.1,hq.1,run_equalIn_int w d t k k' a b hu,q9]
theorem dx.str {d:Nat} {a b:bg} (h1:fG P t) (hu:P.underlying t = some .string):dx P (d + 1) t 1 [.str a] [.str b] (decide (a = b)) :=
 .one h1 fun h u v w hp hq=>by rw [hp.1,hq.1,run_equalIn_string w d t _ _ hu,te]
theorem dx.bool {d:Nat} {a b:Bool} (h1:fG P t) (hu:P.underlying t = some .bool):dx P (d + 1) t 1 [.bool a] [.bool b] (a == b) :=
 .one h1 fun h u v w hp hq=>by rw [show u = .bool a from hp,show v = .bool b from hq,run_equalIn_bool' w d t a b hu]
def EqFs (P:Program) (d:Nat) (ps qs:List CP):List Field → List Bool → Prop
 | [],[]=>True
 | f :: fs,r :: rs=>f.name ≠ "_" ∧ (∃ m p' q',(ps.drop f.offset).take m = p' ∧ (qs.drop f.offset).take m = q' ∧ p'.length = m ∧ q'.length = m ∧ dx P d f.type m p' q' r) ∧ EqFs P d ps qs fs rs
 | _,_=>False
theorem xN {d:Nat} {h:PH} {ps qs:List CP} {A B:Array Value} (hp:bd h ps A.toList) (hq:bd h qs B.toList) (w:World):∀ {fs:List Field} {rs:List Bool},EqFs P d ps qs fs rs → (Op.eqFields d A B fs).run P w = .ok (rs.all id) w
 | [],[],_=>rfl
 | [],_ :: _,h=>h.elim
 | _ :: _,[],h=>h.elim
 | f :: fs,r :: rs,⟨h1,⟨m,p',q',e1,e2,l1,l2,he⟩,h3⟩=>by
  have ih:=xN hp hq w h3
  obtain ⟨a,b,r1,r2,r3⟩:=he h w A B f.offset (by rw [← e1]; exact bT.take (bT.drop hp _) _) (by rw [← e2]; exact bT.take (bT.drop hq _) _) l1 l2
  unfold Op.eqFields
  rw [if_pos h1]
  rw [Sem.run_bind,r1,Result.andThen,Sem.run_bind,r2,Result.andThen,Sem.run_bind,r3,Result.andThen]
  cases r
  ·simp
  ·simpa using ih
theorem iF {A:Array Value} {off m:Nat}:(A.extract off (off + m)).toList = (A.toList.drop off).take m:=by
 rw [Array.toList_extract]
 show (A.toList.drop off).take (off + m - off) = _
 rw [Nat.add_sub_cancel_left]
theorem dx.struct {d m:Nat} {ps qs:List CP} {fs:Array Field} {rs:List Bool} {r:Bool} (ta:gJ P t m) (hh:P.stoodInHeld t = false) (hu:P.underlying t = some (.struct fs)) (hc:EqFs P d ps qs fs.toList rs) (hr:rs.all id = r):dx P (d + 1) t m ps qs r:=by
 intro h w A B off ha hb l1 l2
 have hf:P.fieldsOf t = fs:=by simp [Program.fieldsOf,hu]
 refine ⟨_,_,iB ta w,iB ta w,?_⟩
 rw [run_equalIn_struct w d t _ _ (by rw [hf]; exact hu) hh,hf,xN (by rw [iF]; exact ha) (by rw [iF]; exact hb) w hc,hr]
theorem sS {d k':Nat} {e:TypeId} {k ke:IntKind} {h:PH} {l l':List Int} {A B:Array Value} (h1:fG P e) (hu:P.underlying e = some (.int ke)) (ha:bd h (l.map (.int k)) A.toList) (hb:bd h (l'.map (.int k)) B.toList) (hl:l.length = l'.length) (w:World) :
  ∀ (is:List Nat),(∀ i ∈ is,i < l.length) → (Op.eqItems (d + 1) e 1 A B is).run P w = .ok (is.all fun i=>decide (l[i]? = l'[i]?)) w
 | [],_=>rfl
 | i :: is,hi=>by
  have ih:=sS (d:=d) (k':=k') h1 hu ha hb hl w is (fun j hj=>hi j (by simp [hj]))
  have hi0:=hi i (by simp)
  obtain ⟨u,hu1,hu2⟩:=ha.get i (.int k l[i]) (by rw [List.getElem?_map,List.getElem?_eq_getElem hi0]; rfl)
  obtain ⟨v,hv1,hv2⟩:=hb.get i (.int k (l'[i]'(by omega))) (by rw [List.getElem?_map,List.getElem?_eq_getElem (by omega)]; rfl)
  have p1:=jD h1 (A:=A) (off:=i * 1) (v:=u) (by rw [Nat.mul_one]; simpa using hu1) w
  have p2:=jD h1 (A:=B) (off:=i * 1) (v:=v) (by rw [Nat.mul_one]; simpa using hv1) w
  have p3:(Op.equalIn (d + 1) e u v).run P w = .ok (decide (l[i] = l'[i]'(by omega))) w:=by rw [hu2.1,hv2.1,run_equalIn_int w d e k ke _ _ hu,q9]
  unfold Op.eqItems
  rw [Sem.run_bind,p1,Result.andThen,Sem.run_bind,p2,Result.andThen,Sem.run_bind,p3,Result.andThen]
  have e0:decide (l[i]? = l'[i]?) = decide (l[i] = l'[i]'(by omega)):=by
   rw [List.getElem?_eq_getElem hi0,List.getElem?_eq_getElem (show i < l'.length by omega),Bool.eq_iff_iff]; simp
  rw [List.all_cons,e0]
  cases decide (l[i] = l'[i]'(by omega))
  ·simp
  ·simpa using ih
theorem dx.arr {d m:Nat} {e:TypeId} {k ke:IntKind} {l l':List Int} (ta:gJ P t m) (hu:P.underlying t = some (.array m e)) (he:fG P e) (hue:P.underlying e = some (.int ke)):dx P (d + 2) t m (l.map (.int k)) (l'.map (.int k)) (decide (l = l')):=by
 intro h w A B off ha hb l1 l2
 rw [List.length_map] at l1 l2
 obtain ⟨i,hi,hs⟩:=he.size
 refine ⟨_,_,iB ta w,iB ta w,?_⟩
 have hc:P.cellsOf e = 1:=by simp [Program.cellsOf,hi,hs]
 rw [run_equalIn_array w (d + 1) _ _ hu hi,hc,sS (k':=0) he hue (by rw [iF]; exact ha) (by rw [iF]; exact hb) (by omega) w _ (fun j hj=>by rw [l1]; simpa using hj)]
 congr 1
 rw [Bool.eq_iff_iff]
 simp only [List.all_eq_true,List.mem_range,decide_eq_true_eq]
 refine ⟨fun hh=>List.ext_getElem? fun j=>?_,fun e j _=>by rw [e]⟩
 by_cases hj:j < m
 ·exact hh j hj
 ·rw [List.getElem?_eq_none (by omega),List.getElem?_eq_none (by omega)]
theorem kD.tO {m:Nat} {ps qs:List CP} {r:Bool} (hg:P.eqGuardType P.depth t = false) (ta:gJ P t m) (hp:dx P 10000 t m ps qs r) (l1:ps.length = m) (l2:qs.length = m):kD P t ps qs r :=
 ⟨hg,fun h cs ds w ha hb=>by
  have e1:cs.toList.length = m:=by rw [← l1]; exact ha.length.symm
  have e2:ds.toList.length = m:=by rw [← l2]; exact hb.length.symm
  obtain ⟨a,b,p1,p2,p3⟩:=hp h w cs ds 0 (by rw [List.drop_zero,List.take_of_length_le (by omega)]; exact ha) (by rw [List.drop_zero,List.take_of_length_le (by omega)]; exact hb) l1 l2
  rw [iB ta w] at p1 p2
  have x1:cs.extract 0 (0 + m) = cs:=by
   apply Array.ext'
   rw [iF,List.drop_zero,List.take_of_length_le (by omega)]
  have x2:ds.extract 0 (0 + m) = ds:=by
   apply Array.ext'
   rw [iF,List.drop_zero,List.take_of_length_le (by omega)]
  rw [x1] at p1
  rw [x2] at p2
  injection p1 with p1
  injection p2 with p2
  subst p1 p2
  exact p3⟩
theorem dx.cast {d m:Nat} {ps qs:List CP} {r r':Bool} (h:dx P d t m ps qs r) (e:r = r'):dx P d t m ps qs r':=e ▸ h
end
structure rA (P:Program) (t:TypeId) (size:Nat) (zs:List CP):Prop where
 info:∃ it z m e ie,P.info? t = some it ∧ it.zero = some z ∧ cvs z.cells.toList = some zs ∧ P.underlying t = some (.array m e) ∧ P.info? e = some ie ∧ ie.size = size
section
variable {P:Program} {TB:cG} {E:Env TB} {n:Sh} {s s':St} {dst:Option Nat} {t ty yt:TypeId} {pos:String} {after:Array Edge} {g:Option (Nat × Bool)} {x y c:Operand} {ops:Array Oper} {l:List Oper} {Q:fi} {cd:Code} {o:Oper}
theorem fg {size:Nat} {zs qs:List CP} {parts:Array (Nat × Operand)} {cps:List (Nat × List CP)} (ht:rA P t size zs) (hp:l7 s parts.toList = some cps) (hf:sy (fun i=>some (i * size,size)) zs cps = some qs) :
  bY P E n ⟨dst,.build t parts,ty,pos,after,g⟩ s (s.put n dst (.b (.agg qs))) :=
 bY.val (o:=⟨dst,.build t parts,ty,pos,after,g⟩) fun ac w h ρ hw hs=>by
  obtain ⟨it,z,m,e,ie,h1,h2,h3,h4,h5,h6⟩:=ht.info
  obtain ⟨cs,hc1,hc2⟩:=oM hs (fun i=>some (i * size,size)) parts.toList cps zs qs z.cells hp hf (mb h h3)
  refine ⟨.agg cs,?_,cs,rfl,hc2⟩
  have hb:P.built t (parts.map fun (i,x)=>(i,ac.eval x)).toList = some cs:=by
   simp only [Program.built,h1,h4,h2,h5,h6]
   rw [← hc1]
   simp
  have:=run_build (P:=P) w t _ cs hb
  simp only [execOp]
  simp [this]
theorem uA {e:TypeId} {m k off:Nat} (ht:mC P t e m 1) (hm:0 < m) (hx:s.ev x = some (.b (.ptr k off))) :
  bY P E n ⟨dst,.slice t x none none none,ty,pos,after,g⟩ s (s.put n dst (.b (.s9 k off m m))) :=
 bY.val (o:=⟨dst,.slice t x none none none,ty,pos,after,g⟩) fun ac w h ρ hw hs=>by
  obtain ⟨b,hb,hv⟩:=(bC hs hx:BV.rel h ρ (.ptr k off) _)
  obtain ⟨i,hi,hsz⟩:=ht.info
  have e1:P.arrayLen t = m:=by simp [Program.arrayLen,ht.und]
  have e2:P.elem t = e:=by simp [Program.elem,ht.und]
  have hu:P.underlying t = some (.array (P.arrayLen t) (P.elem t)):=by rw [e1,e2]; exact ht.und
  refine ⟨.slice (some ⟨b,off,none⟩) m m,?_,b,hb,rfl⟩
  simp only [execOp,hv,Option.map_none]
  rw [Sem.run_bind,run_sliceAt_array_all w t _ hu,e2,run_sizeOf hi,Result.andThen]
  simp [slicedAt,e1,oR]
theorem ym {e:TypeId} {m k off:Nat} {kk:IntKind} {i:Int} {yo:Operand} (ht:mC P t e m 1) (h0:0 ≤ i) (h1:i < m) (hx:s.ev x = some (.b (.ptr k off))) (hy:s.ev yo = some (.b (.one (.int kk i)))) :
  bY P E n ⟨dst,.slice t x (some yo) none none,ty,pos,after,g⟩ s (s.put n dst (.b (.s9 k (off + i.toNat) (m - i.toNat) (m - i.toNat)))) :=
 bY.val (o:=⟨dst,.slice t x (some yo) none none,ty,pos,after,g⟩) fun ac w h ρ hw hs=>by
  obtain ⟨b,hb,hv⟩:=(bC hs hx:BV.rel h ρ (.ptr k off) _)
  obtain ⟨inf,hi,hsz⟩:=ht.info
  have e1:P.arrayLen t = m:=by simp [Program.arrayLen,ht.und]
  have e2:P.elem t = e:=by simp [Program.elem,ht.und]
  have hu:P.underlying t = some (.array (P.arrayLen t) (P.elem t)):=by rw [e1,e2]; exact ht.und
  refine ⟨.slice (some ⟨b,off + i.toNat,none⟩) (m - i.toNat) (m - i.toNat),?_,b,hb,rfl⟩
  simp only [execOp,hv,Option.map_none,Option.map_some,(cj hs hy).1]
  rw [Sem.run_bind,run_sliceAt_array_l w t _ hu kk i h0 (by rw [e1]; omega),e2,run_sizeOf hi,Result.andThen,hsz]
  have hne:¬ m = i.toNat:=by omega
  simp [slicedAt,e1,oR,hne]
theorem sI {e:TypeId} {m k off:Nat} {kk:IntKind} {i:Int} {yo:Operand} (ht:mC P t e m 1) (h0:0 ≤ i) (h1:i ≤ m) (hx:s.ev x = some (.b (.ptr k off))) (hy:s.ev yo = some (.b (.one (.int kk i)))) :
  bY P E n ⟨dst,.slice t x none (some yo) none,ty,pos,after,g⟩ s (s.put n dst (.b (.s9 k off i.toNat m))) :=
 bY.val (o:=⟨dst,.slice t x none (some yo) none,ty,pos,after,g⟩) fun ac w h ρ hw hs=>by
  obtain ⟨b,hb,hv⟩:=(bC hs hx:BV.rel h ρ (.ptr k off) _)
  obtain ⟨inf,hi,hsz⟩:=ht.info
  have e1:P.arrayLen t = m:=by simp [Program.arrayLen,ht.und]
  have e2:P.elem t = e:=by simp [Program.elem,ht.und]
  have hu:P.underlying t = some (.array (P.arrayLen t) (P.elem t)):=by rw [e1,e2]; exact ht.und
  refine ⟨.slice (some ⟨b,off,none⟩) i.toNat m,?_,b,hb,rfl⟩
  simp only [execOp,hv,Option.map_none,Option.map_some,(cj hs hy).1]
  rw [Sem.run_bind,run_sliceAt_array_h w t _ hu kk i h0 (by rw [e1]; omega),e2,run_sizeOf hi,Result.andThen,hsz]
  simp [slicedAt,e1,oR]
theorem ug {e:TypeId} {m size k off len cap:Nat} (ht:mC P t e m size) (h1:m ≤ len) (hx:s.ev x = some (.b (.s9 k off len cap))) :
  bY P E n ⟨dst,.sliceToArrayPointer t x,ty,pos,after,g⟩ s (s.put n dst (.b (.ptr k off))) :=
 bY.val (o:=⟨dst,.sliceToArrayPointer t x,ty,pos,after,g⟩) fun ac w h ρ hw hs=>by
  obtain ⟨b,hb,hv⟩:=(bC hs hx:BV.rel h ρ (.s9 k off len cap) _)
  refine ⟨.pointer (some ⟨b,off,none⟩),?_,b,hb,rfl⟩
  simp only [execOp,hv]
  have hne:¬ len < m:=by omega
  simp [Instr.arrayAt,run_underlying ht.und,hne]
theorem yq {k k2 off off2 len len2 cap cap2 m bytes:Nat} {e T T2:TypeId} {zs cs cs2 cs':List CP} (ht:og P t e 1 bytes zs) (hm:min len2 len = m) (hml:m ≤ 9223372036854775807) (hx:s.ev x = some (.b (.s9 k off len cap))) (hy:s.ev y = some (.b (.s9 k2 off2 len2 cap2)))
  (hk:lk s.own k = some (.box T cs)) (hk2:lk s.own k2 = some (.box T2 cs2)) (h1:off + m ≤ cs.length) (h2:off2 + m ≤ cs2.length) (he:cP cs off ((cs2.drop off2).take m) = cs') :
  bY P E n ⟨dst,.call ⟨.builtin .copy,#[x,y],#[t,yt]⟩,ty,pos,after,g⟩ s ((⟨s.slots,ins k (.box T cs') s.own⟩:St).put n dst (I (m:Int))):=by
 intro a w hr next Q hnext
 obtain ⟨hdf,hn,h,ρ,hw,hs⟩:=hr
 obtain ⟨b,hρ,hv⟩:=(bC hs hx:BV.rel h ρ (.s9 k off len cap) _)
 obtain ⟨b2,hρ2,hv2⟩:=(bC hs hy:BV.rel h ρ (.s9 k2 off2 len2 cap2) _)
 obtain ⟨c1,cur,q1,q2,q3⟩:=jk hw hk
 obtain ⟨c2,cur2,r1,r2,r3⟩:=jk hw hk2
 have:c1 = b:=by rw [hρ] at q1; simpa using q1.symm
 subst this
 have:c2 = b2:=by rw [hρ2] at r1; simpa using r1.symm
 subst this
 obtain ⟨inf,z,hi,hsz,_⟩:=ht.info
 have l1:cs.length = cur.size:=by simpa using q3.length
 have l2:cs2.length = cur2.size:=by simpa using r3.length
 have hcr:bd h ((cs2.drop off2).take m) ((cur2.toList.drop off2).take m):=bT.take (bT.drop r3 off2) m
 have hcl:((cur2.toList.drop off2).take m).length = m:=by simp; omega
 generalize hvs:(cur2.toList.drop off2).take m = vs at hcr hcl
 have hl:=run_loadCells_list (P:=P) (w:=w) ⟨c2,off2,none⟩ vs fun j v hj=>by
  rw [oR,hO r2]
  rw [← hvs,List.getElem?_take] at hj
  split at hj
  ·simpa using hj
  ·simp at hj
 have hst:=run_storeCells_at P c1 off T vs 0 cur w q2 (by omega) hcr.one
 rw [Nat.add_zero] at hst
 change _ = Result.ok () (w.setRow c1 (cP cur.toList off vs).toArray) at hst
 have hrel:bd h cs' (cP cur.toList off vs):=by rw [← he]; exact bT.cP q3 hcr off
 have hstep:=hw.step (w':=w.setRow c1 (cP cur.toList off vs).toArray) k (ρ k) (.box T cs') (some c1) (fun b' e=>by cases e; exact ⟨_,dl hk,by rw [hρ]; rfl⟩) (by simp) rfl rfl
  (fun b' _ hne=>setRow_other _ _ _ _ (fun e=>hne (by rw [e]))) (by rw [oB]; exact ⟨c1,_,hρ,setRow_heap _ _ _ _ _ _ q2,by simpa using hrel⟩) (fun b' hb'=>by rw [hρ] at hb'; simp [cq] at hb'; exact .inl (by rw [hb'])) (.inl rfl) (.inl rfl)
 rw [oB] at hstep
 have hrun':(execOp a.eval (⟨dst,.call ⟨.builtin .copy,#[x,y],#[t,yt]⟩,ty,pos,after,g⟩:Oper)).run P w = .ok (.value (.int .i64 m)) (w.setRow c1 (cP cur.toList off vs).toArray):=by
  rw [execOp_builtin]
  show Sem.run _ _ _ = _
  simp only [builtin,List.map_toArray,List.map_cons,List.map_nil,hv,hv2]
  rw [hcl] at hl
  simp [Builtin.copy_,run_underlying ht.und,Builtin.lenOf,Builtin.firstCells,sizeOf,typeInfo,hi,hsz,hm,hl,hst,goInt]
 unfold Oper.wp
 rw [hrun']
 exact hnext _ _ (R.put (s:=⟨s.slots,ins k (.box T cs') s.own⟩) hdf hn hstep hs ⟨rfl,rc (by rw [dZ]; exact hml)⟩)
theorem zy {cs cs2 cs' post post2:List CP} {l l2 l':List Int} {kd:IntKind} {lo lo2 m a a2 off off2:Nat} (pre pre2:List CP) (h1:pre.length = a) (h2:pre2.length = a2) (e1:cs = pre ++ (l.map (.int kd) ++ post)) (e2:cs2 = pre2 ++ (l2.map (.int kd) ++ post2))
  (o1:a + lo = off) (o2:a2 + lo2 = off2) (b1:lo + m ≤ l.length) (b2:lo2 + m ≤ l2.length) (hl:l' = bV l lo ((l2.drop lo2).take m)) (e':cs' = pre ++ (l'.map (.int kd) ++ post)):cP cs off ((cs2.drop off2).take m) = cs':=by
 subst e1 e2 o1 o2 e' h1 h2 hl
 rw [List.drop_append,List.drop_of_length_le (by omega),List.nil_append]
 have x1:pre2.length + lo2 - pre2.length = lo2:=by omega
 rw [x1,List.drop_append_of_le_length (by rw [List.length_map]; omega),List.take_append_of_le_length (by rw [List.length_drop,List.length_map]; omega)]
 have hlen:(((l2.map (CP.int kd)).drop lo2).take m).length = m:=by simp; omega
 unfold cP bV
 rw [hlen,List.take_append,List.take_of_length_le (by omega),List.drop_append,List.drop_of_length_le (l:=pre) (by omega)]
 have x2:pre.length + lo - pre.length = lo:=by omega
 have x3:pre.length + lo + m - pre.length = lo + m:=by omega
 rw [x2,x3,List.take_append_of_le_length (by rw [List.length_map]; omega),List.drop_append_of_le_length (by rw [List.length_map]; omega)]
 have x4:((l2.drop lo2).take m).length = m:=by simp; omega
 rw [x4]
 simp [List.map_take,List.map_drop]
theorem ad.ek {α β:Type} (en:β → List CP) {a:β} {K:β → Option α} {r:α} (h:bD a K = some r) (hg:o.guard = none) (h1:bY P E n o s (s.put n o.dst (.b (.agg (en a)))))
  (H:∀ z,K z = some r → ad P E n ops l (s.put n o.dst (.b (.agg (en z)))) Q):ad P E n ops (o :: l) s Q:=ad.cons hg h1 (H a h)
end
def lU (k:IntKind) (a b:Int):Int:=k.wrap ((BitVec.ofInt k.bits a ||| BitVec.ofInt k.bits b).toNat:Int)
def w8 (k:IntKind) (a n:Int):Option Int:=if n < 0 then none else some (k.wrap (a * 2 ^ (min n.toNat k.bits)))
def Bs (k:IntKind) (a n:Int):Option Int:=if n < 0 then none else some (a / 2 ^ (min n.toNat k.bits))
def Br {α:Type} (xs:List α) (i j:Int):Option (List α):=if 0 ≤ i ∧ i ≤ j ∧ j ≤ xs.length then some ((xs.take j.toNat).drop i.toNat) else none
def ofStr (l:bg):List Int:=l.map fun c=>(c.toNat:Int)
theorem shl_ok {k:IntKind} {a n z:Int} (h:w8 k a n = some z):¬ n < 0 ∧ k.wrap (a * 2 ^ (min n.toNat k.bits)) = z:=by
 unfold w8 at h; split at h
 ·simp at h
 ·exact ⟨by assumption,by simpa using h⟩
theorem shr_ok {k:IntKind} {a n z:Int} (h:Bs k a n = some z):¬ n < 0 ∧ a / 2 ^ (min n.toNat k.bits) = z:=by
 unfold Bs at h; split at h
 ·simp at h
 ·exact ⟨by assumption,by simpa using h⟩
theorem sub_ok {α:Type} {xs z:List α} {i j:Int} (h:Br xs i j = some z):0 ≤ i ∧ i ≤ j ∧ j ≤ xs.length ∧ (xs.take j.toNat).drop i.toNat = z:=by
 unfold Br at h; split at h
 ·next hh=>exact ⟨hh.1,hh.2.1,hh.2.2,by simpa using h⟩
 ·simp at h
theorem shr_inR {k:IntKind} {a:Int} (m:Nat) (hra:rW k a):rW k (a / 2 ^ m):=by
 have hpos:(0:Int) < 2 ^ m:=Int.pow_pos (by decide)
 unfold rW at hra ⊢
 have h5:k.min ≤ 0:=by cases k <;> simp [IntKind.min,IntKind.signed,IntKind.bits]
 have h6:0 ≤ k.max:=by cases k <;> simp [IntKind.max,IntKind.signed,IntKind.bits]
 by_cases h0:0 ≤ a
 ·have h1:0 ≤ a / 2 ^ m:=Int.ediv_nonneg h0 (Int.le_of_lt hpos)
  have h2:a / 2 ^ m ≤ a:=Int.ediv_le_self _ h0
  omega
 ·have h1:a / 2 ^ m ≤ 0:=by
   have:=Int.ediv_neg_of_neg_of_pos (by omega:a < 0) hpos; omega
  have h2:a ≤ a / 2 ^ m:=by
   refine (Int.le_ediv_iff_mul_le hpos).2 ?_
   have h3:(1:Int) ≤ 2 ^ m:=hpos
   have h4:(-a) * 1 ≤ (-a) * 2 ^ m:=Int.mul_le_mul_of_nonneg_left h3 (by omega)
   have e:(-a) * 2 ^ m = -(a * 2 ^ m):=Int.neg_mul _ _
   omega
  omega
section
variable {P:Program} {TB:cG} {E:Env TB} {n:Sh} {s s':St} {dst:Option Nat} {t ty yt:TypeId} {pos:String} {after:Array Edge} {g:Option (Nat × Bool)} {x y c:Operand} {k:IntKind} {a b:Int} {ops:Array Oper} {l:List Oper} {Q:fi} {cd:Code} {o:Oper}
theorem op_bits {op:BinOp} {f:Int → Int → Int} (hf:∀ a b,rW k (f a b)) (hop:(do eqGuard op t x y (.int k a) (.int k b); binOp op t (.int k a) (.int k b):Sem Value) = (pure (.int k (f a b)):Sem Value)) (hx:s.ev x = some (.b (.one (.int k a)))) (hy:s.ev y = some (.b (.one (.int k b)))) :
  bY P E n ⟨dst,.binOp op t x y yt,ty,pos,after,g⟩ s (s.put n dst (.b (.one (.int k (f a b))))) :=
 bY.val (o:=⟨dst,.binOp op t x y yt,ty,pos,after,g⟩) fun ac w h ρ hw hs=>by
  refine ⟨.int k (f a b),?_,rfl,hf _ _⟩
  simp only [execOp,(cj hs hx).1,(cj hs hy).1]
  rw [Sem.run_bind,hop]; rfl
theorem ss (hx:s.ev x = some (.b (.one (.int k a)))) (hy:s.ev y = some (.b (.one (.int k b)))):bY P E n ⟨dst,.binOp .or t x y yt,ty,pos,after,g⟩ s (s.put n dst (.b (.one (.int k (lU k a b))))) :=
 op_bits (f:=lU k) (fun _ _=>mD _ _) (by simp [eqGuard,binOp,Op.intBits,lU]) hx hy
theorem CK {k2:IntKind} {m z:Int} (h:w8 k a m = some z) (hx:s.ev x = some (.b (.one (.int k a)))) (hy:s.ev y = some (.b (.one (.int k2 m)))) :
  bY P E n ⟨dst,.binOp .shl t x y yt,ty,pos,after,g⟩ s (s.put n dst (.b (.one (.int k z)))) :=
 bY.val (o:=⟨dst,.binOp .shl t x y yt,ty,pos,after,g⟩) fun ac w h' ρ hw hs=>by
  obtain ⟨h1,rfl⟩:=shl_ok h
  refine ⟨_,?_,rfl,mD _ _⟩
  simp only [execOp,(cj hs hx).1,(cj hs hy).1]
  simp [eqGuard,binOp,Op.shift,h1]
theorem op_shr3 {k2:IntKind} {m z:Int} (h:Bs k a m = some z) (hx:s.ev x = some (.b (.one (.int k a)))) (hy:s.ev y = some (.b (.one (.int k2 m)))) :
  bY P E n ⟨dst,.binOp .shr t x y yt,ty,pos,after,g⟩ s (s.put n dst (.b (.one (.int k z)))) :=
 bY.val (o:=⟨dst,.binOp .shr t x y yt,ty,pos,after,g⟩) fun ac w h' ρ hw hs=>by
  obtain ⟨h1,rfl⟩:=shr_ok h
  refine ⟨_,?_,rfl,shr_inR _ (cj hs hx).2⟩
  have hd:∀ q:Nat,a.fdiv (2 ^ q) = a / 2 ^ q:=fun q=>Int.fdiv_eq_ediv_of_nonneg _ (Int.pow_nonneg (by decide))
  simp only [execOp,(cj hs hx).1,(cj hs hy).1]
  simp [eqGuard,binOp,Op.shift,h1,hd]
theorem ns {k2:IntKind} {m:Nat} (hm:m ≤ k.bits) (hx:s.ev x = some (.b (.one (.int k a)))) (hy:s.ev y = some (.b (.one (.int k2 (m:Int))))) {q:Int} (hq:(2:Int) ^ m = q) :
  bY P E n ⟨dst,.binOp .shl t x y yt,ty,pos,after,g⟩ s (s.put n dst (.b (.one (.int k (k.wrap (a * q)))))):=by
 have:w8 k a (m:Int) = some (k.wrap (a * q)):=by
  have hneg:¬ ((m:Int) < 0):=by omega
  simp only [w8,hneg,if_false,Int.toNat_natCast,Nat.min_eq_left hm,hq]
 exact CK this hx hy
theorem wX {z:bg} {k1 k2:IntKind} {i j:Int} {lo hi:Operand} {r:bg} (ht:P.underlying t = some .string) (h:Br z i j = some r) (hx:s.ev x = some (.b (.one (.str z)))) (hl:s.ev lo = some (.b (.one (.int k1 i)))) (hh:s.ev hi = some (.b (.one (.int k2 j)))) :
  bY P E n ⟨dst,.slice t x (some lo) (some hi) none,ty,pos,after,g⟩ s (s.put n dst (.b (.one (.str r)))) :=
 bY.val (o:=⟨dst,.slice t x (some lo) (some hi) none,ty,pos,after,g⟩) fun ac w h' ρ hw hs=>by
  obtain ⟨h0,h1,h2,rfl⟩:=sub_ok h
  obtain ⟨hv,hln⟩:=kw hs hx
  refine ⟨.string ⟨⟨(z.take j.toNat).drop i.toNat⟩⟩,?_,rfl,by simp; omega⟩
  simp only [execOp,hv,Option.map_some,Option.map_none,(cj hs hl).1,(cj hs hh).1]
  rw [Sem.run_bind,run_sliceAt_string w t _ _ _ _ ht,run_slice_string (P:=P) (w:=w) t ⟨⟨z⟩⟩ k1 k2 i j ht h0 h1 (by simpa [pD] using h2)]
  show Result.ok _ w = Result.ok _ w
  congr 4
  have e:i.toNat + (j.toNat - i.toNat) = j.toNat:=by omega
  simp [ByteArray.extract,ByteArray.copySlice,List.take_drop,e]
theorem gk {z:bg} {k1:IntKind} {i:Int} {lo:Operand} {r:bg} (ht:P.underlying t = some .string) (h:ld z i = some r) (hx:s.ev x = some (.b (.one (.str z)))) (hl:s.ev lo = some (.b (.one (.int k1 i)))) :
  bY P E n ⟨dst,.slice t x (some lo) none none,ty,pos,after,g⟩ s (s.put n dst (.b (.one (.str r)))) :=
 bY.val (o:=⟨dst,.slice t x (some lo) none none,ty,pos,after,g⟩) fun ac w h' ρ hw hs=>by
  obtain ⟨h0,h1,rfl⟩:=drop_ok h
  obtain ⟨hv,hln⟩:=kw hs hx
  refine ⟨.string ⟨⟨z.drop i.toNat⟩⟩,?_,rfl,by simp; omega⟩
  simp only [execOp,hv,Option.map_some,Option.map_none,(cj hs hl).1]
  rw [Sem.run_bind,run_sliceAt_string w t _ _ _ _ ht,run_slice_string_l (P:=P) (w:=w) (t:=t) (s:=⟨⟨z⟩⟩) ht k1 i h0 (by simpa [pD] using h1)]
  show Result.ok _ w = Result.ok _ w
  congr 4
  simp [ByteArray.extract,ByteArray.copySlice,ByteArray.size,List.take_of_length_le]
theorem lL {z:bg} {k1:IntKind} {i:Int} {hi:Operand} {r:bg} (ht:P.underlying t = some .string) (h:oh z i = some r) (hx:s.ev x = some (.b (.one (.str z)))) (hl:s.ev hi = some (.b (.one (.int k1 i)))) :
  bY P E n ⟨dst,.slice t x none (some hi) none,ty,pos,after,g⟩ s (s.put n dst (.b (.one (.str r)))) :=
 bY.val (o:=⟨dst,.slice t x none (some hi) none,ty,pos,after,g⟩) fun ac w h' ρ hw hs=>by
  obtain ⟨h0,h1,rfl⟩:=Am h
  obtain ⟨hv,hln⟩:=kw hs hx
  refine ⟨.string ⟨⟨z.take i.toNat⟩⟩,?_,rfl,by simp; omega⟩
  simp only [execOp,hv,Option.map_some,Option.map_none,(cj hs hl).1]
  rw [Sem.run_bind,run_sliceAt_string w t _ _ _ _ ht,run_slice_string_h (P:=P) (w:=w) (t:=t) (s:=⟨⟨z⟩⟩) ht k1 i h0 (by simpa [pD] using h1)]
  show Result.ok _ w = Result.ok _ w
  congr 4
  simp [ByteArray.extract,ByteArray.copySlice]
theorem WR.newP {h:PH} {ρ:RM} {own:List (Nat × OC)} {w w':World} (hw:WR E n own h ρ w) (cs:List Value) (hold:∀ b,b < w.heap.size → w'.heap[b]? = w.heap[b]?) (hsz:w.heap.size ≤ w'.heap.size) (hos:w'.os = w.os) (hout:w'.output = w.output)
  (hnew:∀ o v,cs[o]? = some v → w'.cell? ⟨w.heap.size,o,none⟩ = some v):h.le (eX h w.heap.size cs) ∧ WR E n own (eX h w.heap.size cs) ρ w':=by
 have hnone:∀ o,h w.heap.size o = none:=fun o=>by
  cases e:h w.heap.size o with
  | none=>rfl
  | some u=>have:=fQ (hw.agree _ o u e); omega
 have hle:h.le (eX h w.heap.size cs):=fun b o v hv=>by
  unfold eX
  split
  ·rename_i e; subst e; rw [hnone o] at hv; simp at hv
  ·exact hv
 refine ⟨hle,?_,PH.le_trans hw.le hle,?_,by have:=hw.size; omega,?_,hw.fixed,hos.trans hw.os,hout.trans hw.out,hw.nl,?_⟩
 ·intro b o v hv
  unfold eX at hv
  split at hv
  ·rename_i e; subst e
   exact hnew o v hv
  ·have hc:=hw.agree b o v hv
   rw [cell_of_heap (hold b (fQ hc))]; exact hc
 ·intro b hb hnl
  rw [← hw.fresh b hb hnl]
  funext o
  unfold eX
  rw [if_neg (by have:=hw.size; omega)]
 ·intro b hb hl
  rw [hold b (Nat.lt_of_lt_of_le hb hw.size)]; exact hw.same b hb hl
 ·intro j c hj
  obtain ⟨e1,e2,e3⟩:=hw.owned j c hj
  refine ⟨(e1.congr fun b hb=>hold b (e1.lt hb)).mono hle,fun b hb=>⟨(e2 b hb).1,fun o=>?_⟩,e3⟩
  have:=e1.lt hb
  unfold eX
  rw [if_neg (by omega)]
  exact (e2 b hb).2 o
theorem A7:∀ (l:List Int),(l.map (eK k)).flatten = l.map (CP.int k)
 | []=>rfl
 | a :: l=>by simp only [List.map_cons,List.flatten_cons,A7 l,eK]; rfl
theorem sL {src d e:TypeId} {z:bg} (hs:P.underlying src = some .string) (hd:P.underlying d = some (.slice e)) (he:P.underlying e = some (.int .u8)) (hx:s.ev x = some (.b (.one (.str z)))) :
  bY P E n ⟨dst,.convert src d x,ty,pos,after,g⟩ s (s.put n dst (.b (.one (.sl 1 ((ofStr z).map (eK .u8)))))):=by
 intro a w ⟨hdf,hn,h,ρ,hw,hsl⟩ next Q hnext
 obtain ⟨hv,hl⟩:=kw hsl hx
 have hrun':(execOp a.eval ⟨dst,.convert src d x,ty,pos,after,g⟩).run P w = .ok (.value (.slice (some ⟨w.heap.size,0,none⟩) z.length (grownCap w z.length 0 e))) (Lib.bytesWorld w e ⟨⟨z⟩⟩):=by
  simp only [execOp,hv]
  rw [Sem.run_bind,Lib.run_convert_string_bytes w src d e ⟨⟨z⟩⟩ hs hd he]
  rfl
 unfold Oper.wp
 rw [hrun']
 obtain ⟨hle,hwp⟩:=hw.newP (w':=Lib.bytesWorld w e ⟨⟨z⟩⟩) (z.map fun c=>Value.int .u8 c.toNat) (fun b hb=>Lib.bytesWorld_at_old w e _ b hb) (by rw [Lib.bytesWorld_size]; omega) (by simp [Lib.bytesWorld,World.freeze,World.alloc,World.drew,-World.alloc_eq,-World.drew_eq]) (by simp [Lib.bytesWorld,World.freeze,World.alloc,World.drew,-World.alloc_eq,-World.drew_eq])
  (fun o v hv=>by
   rw [List.getElem?_map] at hv
   simp only [Option.map_eq_some_iff] at hv
   obtain ⟨c,hc,rfl⟩:=hv
   have hlt:=(List.getElem?_eq_some_iff.1 hc).1
   rw [Lib.bytesWorld_cell w e ⟨⟨z⟩⟩ o hlt]
   simp [List.getD,hc])
 refine hnext _ _ (R.put (s:=s) hdf hn hwp (hsl.mono hle) ?_)
 have hlen:((ofStr z).map (eK .u8)).length = z.length:=by simp [ofStr]
 refine ⟨fun ps hps=>?_,by decide,.inr ⟨w.heap.size,0,grownCap w z.length 0 e,by rw [hlen],by rw [hlen]; exact grownCap_ge w _ _ _,grownCap_le_maxLen w _ _ _ hl,fun j c hc=>?_⟩⟩
 ·obtain ⟨q,_,rfl⟩:=List.mem_map.1 hps; rfl
 ·rw [A7] at hc
  simp only [ofStr,List.map_map,List.getElem?_map,Option.map_eq_some_iff] at hc
  obtain ⟨b,hb,rfl⟩:=hc
  refine ⟨.int .u8 b.toNat,by simp [eX,hb],rfl,?_⟩
  have:=b.toNat_lt
  simp [rW,IntKind.min,IntKind.max,IntKind.signed,IntKind.bits]
  omega
end
theorem wS {l l2:List Int} {N lo lo2 m:Nat} (h:l.length = N) (h1:lo + m ≤ N) (h2:lo2 + m ≤ l2.length):(bV l lo ((l2.drop lo2).take m)).length = N:=by
 simp only [bV,List.length_append,List.length_take,List.length_drop]
 omega
end Go.Sk
namespace Go.Sk
set_option linter.unusedSimpArgs false
set_option linter.unusedVariables false
open Go Go.BigFrame
section
variable {P:Program} {TB:cG} {E:Env TB} {n:Sh} {s s' s2:St} {l:List Oper} {L:List Oper} {Q:fi} {o:Oper}
def Cc (L:List Oper) (i j:Nat):Bool:=match L[i]? with
 | some o=>o.after.toList.any fun e=>Region.binds .any e && e.on == j
 | none=>false
theorem si {L:List Oper} {i j:Nat} (h:Cc L i j = true):∃ o,L[i]? = some o ∧ ∃ e,e ∈ o.after ∧ Region.binds .any e = true ∧ e.on = j:=by
 unfold Cc at h
 split at h
 ·next o ho=>
  simp only [List.any_eq_true,Bool.and_eq_true,beq_iff_eq] at h
  obtain ⟨e,he,h1,h2⟩:=h
  exact ⟨o,ho,e,by simpa using he,h1,h2⟩
 ·simp at h
theorem pp:∀ (L:List Bool) (i:Nat) (hi:i < L.length),L[i] = false → ((L.set i true).filter id).length = (L.filter id).length + 1
 | [],i,hi,_=>by simp at hi
 | b :: L,0,hi,hb=>by simp at hb; subst hb; simp
 | b :: L,i + 1,hi,hb=>by
  have:=pp L i (by simpa using hi) (by simpa using hb)
  cases b <;> simp [this]
def zm (L:List Oper) (listed:Array Bool):Prop:=∀ (i:Nat) (o:Oper),L[i]? = some o → listed.getD i false = true → ∀ e ∈ o.after,Region.binds .any e = true → listed.getD e.on false = true
theorem anyG (Inv:Array Bool → Act → World → Prop) (hed:l8 0 L = true)
  (hstep:∀ (listed:Array Bool) a w (i:Nat) (o:Oper),listed.size = L.length → zm L listed → L[i]? = some o → listed.getD i false = false → (∀ e ∈ o.after,Region.binds .any e = true → listed.getD e.on false = true) → Inv listed a w →
   ∀ K:Act → World → Prop,(∀ a' w',Inv (listed.setIfInBounds i true) a' w' → K a' w') → if Region.wanted o (yielded L.toArray a.tmps) then o.wp P a w K Q else K (a.put o.dst undef) w)
  (hend:∀ (listed:Array Bool) a w,listed.size = L.length → (∀ j,j < L.length → listed.getD j false = true) → Inv listed a w → Q .normal a w) :
  ∀ (fuel:Nat) (listed:Array Bool) (a:Act) (w:World),listed.size = L.length → zm L listed → L.length ≤ fuel + (listed.toList.filter id).length → Inv listed a w → wpAny P .any L.toArray Q fuel listed a w:=by
 have hready:∀ (listed:Array Bool),listed.size = L.length → Region.ready .any L.toArray listed = [] → ∀ j,j < L.length → listed.getD j false = true:=by
  intro listed hsz hr j hj
  induction j using Nat.strongRecOn with
  | _ j ih=>
   cases hb:listed.getD j false with
   | true=>rfl
   | false=>
    exfalso
    have hjr:j ∈ Region.ready .any L.toArray listed:=by
     rw [mem_ready]
     refine ⟨?_,L[j],by simp [hj],fun e he hbd=>?_⟩
     ·have:j < listed.size:=by omega
      simp only [Array.getD_eq_getD_getElem?,Array.getElem?_eq_getElem this,Option.getD_some] at hb ⊢
      exact hb
     ·have:=nW hed j L[j] (by simp) e he hbd
      exact ih e.on (by omega) (by omega)
    rw [hr] at hjr
    simp at hjr
 intro fuel
 induction fuel with
 | zero=>
  intro listed a w hsz hcl hf hR
  have hall:∀ j,j < L.length → listed.getD j false = true:=by
   intro j hj
   have hfl:(listed.toList.filter id).length = listed.toList.length:=by
    have:=List.length_filter_le id listed.toList
    simp at this ⊢; omega
   have hall2:=List.filter_eq_self.1 (List.filter_sublist.eq_of_length hfl)
   have hjs:j < listed.size:=by omega
   have:=hall2 listed[j] (by simp)
   simp only [Array.getD_eq_getD_getElem?,Array.getElem?_eq_getElem hjs,Option.getD_some]
   simpa using this
  have hr:Region.ready .any L.toArray listed = []:=by
   apply List.eq_nil_iff_forall_not_mem.2
   intro j hj
   rw [mem_ready] at hj
   obtain ⟨hj1,o,ho,_⟩:=hj
   have hjl:j < L.length:=by simpa using (Array.getElem?_eq_some_iff.1 ho).1
   have hjs:j < listed.size:=by omega
   have:=hall j hjl
   simp only [Array.getD_eq_getD_getElem?,Array.getElem?_eq_getElem hjs,Option.getD_some] at this hj1
   rw [this] at hj1; simp at hj1
  exact ⟨hr,hend listed a w hsz hall hR⟩
 | succ fuel ih=>
  intro listed a w hsz hcl hf hR
  refine ⟨fun hr=>hend listed a w hsz (hready listed hsz hr) hR,fun i hi=>?_⟩
  rw [mem_ready] at hi
  obtain ⟨hi1,o,ho,hdeps⟩:=hi
  have hol:L[i]? = some o:=by simpa using ho
  have hil:i < L.length:=(List.getElem?_eq_some_iff.1 hol).1
  have his:i < listed.size:=by omega
  have hi1':listed[i] = false:=by simpa [Array.getD_eq_getD_getElem?,Array.getElem?_eq_getElem his] using hi1
  have hi2:listed.getD i false = false:=by simp [Array.getD_eq_getD_getElem?,Array.getElem?_eq_getElem his,hi1']
  have key:=hstep listed a w i o hsz hcl hol hi2 hdeps hR (wpAny P .any L.toArray Q fuel (listed.setIfInBounds i true)) (fun a' w' hR'=>by
   have hset:∀ q,listed.getD q false = true → (listed.setIfInBounds i true).getD q false = true:=fun q hq=>by
    by_cases e:q = i
    ·subst e; simp [Array.getD_eq_getD_getElem?,his]
    ·rw [getD_set_ne false (fun h=>e h.symm)]; exact hq
   refine ih _ a' w' (by simpa using hsz) ?_ ?_ hR'
   ·intro j p hj hlj e he hb
    by_cases e':j = i
    ·subst e'
     rw [hol] at hj; cases hj
     exact hset _ (hdeps e he hb)
    ·rw [getD_set_ne false (fun h=>e' h.symm)] at hlj
     exact hset _ (hcl j p hj hlj e he hb)
   ·have:=pp listed.toList i (by simpa using his) (by simpa using hi1')
    rw [Array.toList_setIfInBounds]
    omega)
  unfold wpOp
  rw [ho]
  dsimp only
  split
  ·rename_i hw'
   simp only [hw',if_true] at key
   exact .inl key
  ·rename_i hw'
   simp only [hw'] at key
   exact key
def mc (l:List Oper) (j:Nat) (sl:List (Nat × SV)):List (Nat × SV):=sl.filter fun p=>(List.range l.length).all fun i=>((l[i]?).bind (·.dst)) != some p.1 || i == j || Cc l i j
def hit (l:List Oper) (listed:Array Bool) (d:Nat):Bool:=(List.range l.length).any fun i=>listed.getD i false && ((l[i]?).bind (·.dst)) == some d
def stE (s:St) (l:List Oper) (Fs:List SV) (listed:Array Bool):St:=⟨(s.slots.filter fun p=>!hit l listed p.1) ++ bI (fun i=>listed.getD i false) 0 l Fs,s.own⟩
def ua (P:Program) {TB:cG} (E:Env TB) (n:Sh) (ops:Array Oper) (s:St) (l:List Oper) (Fs:List SV):Nat → List Oper → List SV → Prop
 | _,[],[]=>True
 | j,o :: r,x :: xs=>(∀ extra,dN P E n ops o ⟨fK l Fs o.after.toList ++ (mc l j s.slots ++ extra),s.own⟩ (St.put n o.dst x ⟨fK l Fs o.after.toList ++ (mc l j s.slots ++ extra),s.own⟩)) ∧ ua P E n ops s l Fs (j + 1) r xs
 | _,_,_=>False
theorem uu {ops:Array Oper} {Fs:List SV} {l0:List Oper}:∀ {r:List Oper} {xs:List SV} {j:Nat},ua P E n ops s l0 Fs j r xs → r.length = xs.length ∧ ∀ (i:Nat) (o:Oper),r[i]? = some o → ∃ x,xs[i]? = some x ∧ ∀ extra,dN P E n ops o ⟨fK l0 Fs o.after.toList ++ (mc l0 (j + i) s.slots ++ extra),s.own⟩ (St.put n o.dst x ⟨fK l0 Fs o.after.toList ++ (mc l0 (j + i) s.slots ++ extra),s.own⟩)
 | [],[],j,_=>⟨rfl,fun i o h=>by simp at h⟩
 | o :: r,x :: xs,j,h=>by
  obtain ⟨h1,h2⟩:=h
  obtain ⟨h3,h4⟩:=uu h2
  refine ⟨by simp [h3],fun i o' ho=>?_⟩
  cases i with
  | zero=>simp at ho; subst ho; exact ⟨x,by simp,h1⟩
  | succ i=>
   obtain ⟨y,hy,hz⟩:=h4 i o' (by simpa using ho)
   exact ⟨y,by simpa using hy,by rw [← Nat.add_assoc,Nat.add_right_comm]; exact hz⟩
 | [],_ :: _,j,h=>h.elim
 | _ :: _,[],j,h=>h.elim
def vf (P:Program) {TB:cG} (E:Env TB) (n:Sh) (ops:Array Oper):List Oper → St → St → Prop
 | [],s,s'=>s = s'
 | o :: r,s,s'=>∃ s1,dN P E n ops o s s1 ∧ vf P E n ops r s1 s'
def zg (L:List Oper) (q:Nat):Bool:=(List.range q).all fun j=>Cc L q j || (List.range q).any fun i=>decide (j < i) && Cc L i j
def okX (l tl:List Oper) (m:Nat):Bool:=l8 0 (l ++ tl) && ng (ko l) && (ko l).all (· < m) && (List.range tl.length).all fun k=>zg (l ++ tl) (l.length + k)
theorem covered {listed:Array Bool} {q:Nat} {o:Oper} (hcl:zm L listed) (hq:L[q]? = some o) (hd:∀ e ∈ o.after,Region.binds .any e = true → listed.getD e.on false = true) (hc:zg L q = true):∀ j,j < q → listed.getD j false = true:=by
 simp only [zg,List.all_eq_true,List.mem_range,Bool.or_eq_true,List.any_eq_true,Bool.and_eq_true,decide_eq_true_eq] at hc
 have key:∀ m j,q - j = m → j < q → listed.getD j false = true:=by
  intro m
  induction m using Nat.strongRecOn with
  | _ m ihm=>
   intro j hm hj
   rcases hc j hj with h | ⟨i,hi,hji,hp⟩
   ·obtain ⟨o',ho',e,he,hb,hon⟩:=si h
    rw [hq] at ho'; cases ho'
    have:=hd e he hb
    rwa [hon] at this
   ·obtain ⟨o',ho',e,he,hb,hon⟩:=si hp
    have h1:=ihm (q - i) (by omega) i rfl hi
    have:=hcl i o' ho' h1 e he hb
    rwa [hon] at this
 exact fun j hj=>key _ j rfl hj
def InvX (P:Program) {TB:cG} (E:Env TB) (n:Sh) (ops:Array Oper) (s:St) (l tl:List Oper) (Fs:List SV) (s2:St) (listed:Array Bool) (a:Act) (w:World):Prop :=
 ((∀ j,l.length ≤ j → listed.getD j false = false) ∧ R E n (stE s l Fs listed) a w) ∨
 ∃ k sk,k < tl.length ∧ (∀ j,j ≤ l.length + k → listed.getD j false = true) ∧ (∀ j,l.length + k < j → listed.getD j false = false) ∧ vf P E n ops (tl.drop (k + 1)) sk s2 ∧ R E n sk a w
theorem ab.Dq {rid:Nat} {ops:List Oper} (hm:P.follows .mixedOrders = true) (l tl:List Oper) (hops:l ++ tl = ops) (Fs:List SV) (ks kos:List Nat) (hok:okX l tl n.n = true) (hst:ua P E n ops.toArray s l Fs 0 l Fs)
  (htl:vf P E n ops.toArray tl ⟨(s.slots.filter fun p=>!(ko l).contains p.1) ++ bI (fun _=>true) 0 l Fs,s.own⟩ s2) (hs:s2.ik ks kos = s') (h:Fin E n .normal s' Q):ab P E n (.region rid ops.toArray true) s Q:=by
 subst hops
 simp only [okX,Bool.and_eq_true,List.all_eq_true,List.mem_range] at hok
 obtain ⟨⟨⟨hedges,hnd⟩,hlt⟩,hcov⟩:=hok
 obtain ⟨hlen,hsteps⟩:=uu (Fs:=Fs) hst
 intro a w hr
 refine wp_region_any hm ?_
 have hgetl:∀ {i:Nat} {o:Oper},(l ++ tl)[i]? = some o → i < l.length → l[i]? = some o:=fun h hi=>by rwa [List.getElem?_append_left hi] at h
 have hS0:∀ {listed:Array Bool} {a:Act} {w:World},(∀ j,j < l.length → listed.getD j false = true) → R E n (stE s l Fs listed) a w → R E n ⟨(s.slots.filter fun p=>!(ko l).contains p.1) ++ bI (fun _=>true) 0 l Fs,s.own⟩ a w:=by
  intro listed a w hall hR
  obtain ⟨h1,h2,h,ρ,hw,hs⟩:=hR
  refine ⟨h1,h2,h,ρ,hw,fun k x hx=>hs k x ?_⟩
  simp only [stE,List.mem_append] at hx ⊢
  rcases hx with hx | hx
  ·left
   simp only [List.mem_filter,Bool.not_eq_true',List.contains_eq_mem,decide_eq_false_iff_not] at hx ⊢
   refine ⟨hx.1,?_⟩
   cases hh:hit l listed k with
   | false=>rfl
   | true=>
    exfalso
    simp only [hit,List.any_eq_true,List.mem_range,Bool.and_eq_true,beq_iff_eq,Option.bind_eq_some_iff] at hh
    obtain ⟨i,hi,_,o',ho',hd'⟩:=hh
    exact hx.2 (lC ho' hd')
  ·right
   rw [dd] at hx ⊢
   obtain ⟨j,oj,hj,hd,hF,_⟩:=hx
   exact ⟨j,oj,hj,hd,hF,by rw [Nat.zero_add]; exact hall j (List.getElem?_eq_some_iff.1 hj).1⟩
 refine anyG (L:=l ++ tl) (InvX P E n (l ++ tl).toArray s l tl Fs s2) hedges ?_ ?_ _ _ _ _ (by simp) ?_ (by simp) (.inl ⟨fun j hj=>?_,?_⟩)
 ·
  intro listed a w i o hsz hcl hio hil hdeps hInv K hK
  have hin:i < (l ++ tl).length:=(List.getElem?_eq_some_iff.1 hio).1
  have his:i < listed.size:=by omega
  have hset:∀ q,listed.getD q false = true → (listed.setIfInBounds i true).getD q false = true:=fun q hq=>by
   by_cases e:q = i
   ·subst e; simp [Array.getD_eq_getD_getElem?,his]
   ·rw [getD_set_ne false (fun h=>e h.symm)]; exact hq
  have hseti:(listed.setIfInBounds i true).getD i false = true:=by simp [Array.getD_eq_getD_getElem?,his]
  by_cases hi:i < l.length
  ·
   have hInv':(∀ j,l.length ≤ j → listed.getD j false = false) ∧ R E n (stE s l Fs listed) a w:=by
    rcases hInv with h | ⟨k,sk,hk,hyes,_⟩
    ·exact h
    ·have:=hyes i (by omega); rw [hil] at this; simp at this
   obtain ⟨hno,hR⟩:=hInv'
   have hol:=hgetl hio hi
   obtain ⟨x,hx,hstep⟩:=hsteps i o hol
   rw [Nat.zero_add] at hstep
   have hnohit:∀ p,p ∈ mc l i s.slots → p ∈ s.slots ∧ hit l listed p.1 = false:=by
    intro p hp
    simp only [mc,List.mem_filter,List.all_eq_true,List.mem_range,Bool.or_eq_true,bne_iff_ne,beq_iff_eq] at hp
    refine ⟨hp.1,?_⟩
    cases hh:hit l listed p.1 with
    | false=>rfl
    | true=>
     exfalso
     simp only [hit,List.any_eq_true,List.mem_range,Bool.and_eq_true,beq_iff_eq] at hh
     obtain ⟨q,hq,hlq,hdq⟩:=hh
     rcases hp.2 q hq with (h | h) | h
     ·exact h hdq
     ·subst h; rw [hil] at hlq; simp at hlq
     ·obtain ⟨o',ho',e,he,hb,hon⟩:=si h
      have:=hcl q o' (by rw [List.getElem?_append_left hq]; exact ho') hlq e he hb
      rw [hon,hil] at this; simp at this
   have hR2:R E n ⟨fK l Fs o.after.toList ++ (mc l i s.slots ++ ((s.slots.filter fun p=>!hit l listed p.1) ++ bI (fun i=>listed.getD i false) 0 l Fs)),s.own⟩ a w:=by
    obtain ⟨h1,h2,h,ρ,hw,hs⟩:=hR
    refine ⟨h1,h2,h,ρ,hw,fun k y hy=>hs k y ?_⟩
    rcases List.mem_append.1 hy with hy | hy
    ·obtain ⟨e,he,hb,o',ho',hd',hF'⟩:=rM hy
     refine List.mem_append.2 (.inr ?_)
     rw [dd]
     exact ⟨e.on,o',ho',hd',hF',by rw [Nat.zero_add]; exact hdeps e (by simpa using he) hb⟩
    ·rcases List.mem_append.1 hy with hy | hy
     ·obtain ⟨h1,h2⟩:=hnohit _ hy
      exact List.mem_append.2 (.inl (List.mem_filter.2 ⟨h1,by simp [h2]⟩))
     ·exact hy
   refine hstep _ a w hR2 K Q (fun a' w' hR'=>hK a' w' (.inl ⟨fun j hj=>?_,?_⟩))
   ·rw [getD_set_ne false (by omega)]; exact hno j hj
   ·obtain ⟨h1,h2,h,ρ,hw,hs⟩:=hR'
    have hown:∀ sl,(St.put n o.dst x ⟨sl,s.own⟩).own = s.own:=fun sl=>by
     cases hd:o.dst with
     | none=>rfl
     | some d=>simp only [St.put,St.set]; split <;> rfl
    rw [hown] at hw
    refine ⟨h1,h2,h,ρ,hw,fun k y hy=>?_⟩
    have hold:(k,y) ∈ (s.slots.filter fun p=>!hit l listed p.1) ++ bI (fun i=>listed.getD i false) 0 l Fs → (∀ d,o.dst = some d → k ≠ d) → ∃ v,a'.tmps[k]? = some v ∧ y.rel h ρ v:=by
     intro hm hkd
     refine hs k y ?_
     have hm':(k,y) ∈ fK l Fs o.after.toList ++ (mc l i s.slots ++ ((s.slots.filter fun p=>!hit l listed p.1) ++ bI (fun i=>listed.getD i false) 0 l Fs)):=List.mem_append.2 (.inr (List.mem_append.2 (.inr hm)))
     cases hd:o.dst with
     | none=>simp only [St.put]; exact hm'
     | some d=>
      simp only [St.put,St.set]
      split
      ·exact List.mem_cons_of_mem _ (jP hm' (hkd d hd))
      ·exact hm'
    simp only [stE] at hy
    rcases List.mem_append.1 hy with hy | hy
    ·obtain ⟨hy1,hy2⟩:=List.mem_filter.1 hy
     have hy2':hit l (listed.setIfInBounds i true) k = false:=by simpa using hy2
     refine hold (List.mem_append.2 (.inl (List.mem_filter.2 ⟨hy1,?_⟩))) (fun d hd e=>?_)
     ·cases hh:hit l listed k with
      | false=>rfl
      | true=>
       exfalso
       simp only [hit,List.any_eq_true,List.mem_range,Bool.and_eq_true,beq_iff_eq] at hh
       obtain ⟨q,hq,hlq,hdq⟩:=hh
       have:hit l (listed.setIfInBounds i true) k = true:=by
        simp only [hit,List.any_eq_true,List.mem_range,Bool.and_eq_true,beq_iff_eq]
        exact ⟨q,hq,hset q hlq,hdq⟩
       rw [hy2'] at this; simp at this
     ·subst e
      have:hit l (listed.setIfInBounds i true) k = true:=by
       simp only [hit,List.any_eq_true,List.mem_range,Bool.and_eq_true,beq_iff_eq]
       exact ⟨i,hi,hseti,by rw [hol]; exact hd⟩
      rw [hy2'] at this; simp at this
    ·rw [dd] at hy
     obtain ⟨j,oj,hj,hd',hF',hl'⟩:=hy
     rw [Nat.zero_add] at hl'
     by_cases hji:j = i
     ·subst hji
      rw [hol] at hj; cases hj
      rw [hx] at hF'; cases hF'
      refine hs k y ?_
      have hk:k < n.n:=by
       have:=hlt k (lC hol hd')
       simpa using this
      simp only [hd',St.put,St.set,hk,if_true]
      exact List.mem_cons_self
     ·have hl2:listed.getD j false = true:=by
       rw [getD_set_ne false (fun e=>hji e.symm)] at hl'
       exact hl'
      refine hold (List.mem_append.2 (.inr ?_)) (fun d hd e=>?_)
      ·rw [dd]
       exact ⟨j,oj,hj,hd',hF',by rw [Nat.zero_add]; exact hl2⟩
      ·subst e
       exact hji (um hnd hj hol hd' hd)
  ·
   have hit':i - l.length < tl.length:=by simp only [List.length_append] at hin; omega
   have hcv:=covered hcl hio hdeps (by have:=hcov (i - l.length) hit'; rwa [show l.length + (i - l.length) = i by omega] at this)
   have hoi:tl[i - l.length]? = some o:=by rwa [List.getElem?_append_right (by omega)] at hio
   rcases hInv with ⟨hno,hR⟩ | ⟨k,sk,hk,hyes,hno,hT,hR⟩
   ·have ei:i = l.length:=by
     rcases Nat.lt_or_ge l.length i with h | h
     ·have:=hcv l.length h; rw [hno _ (Nat.le_refl _)] at this; simp at this
     ·omega
    have hR0:=hS0 (fun j hj=>hcv j (by omega)) hR
    rw [show i - l.length = 0 by omega] at hoi
    have h0:0 < tl.length:=by omega
    have hdr:tl.drop 0 = o :: tl.drop (0 + 1):=by
     rw [List.drop_eq_getElem_cons h0]
     congr 1
     rw [List.getElem?_eq_getElem h0] at hoi
     simpa using hoi
    have hT:vf P E n (l ++ tl).toArray (tl.drop 0) ⟨(s.slots.filter fun p=>!(ko l).contains p.1) ++ bI (fun _=>true) 0 l Fs,s.own⟩ s2:=by rw [List.drop_zero]; exact htl
    rw [hdr] at hT
    obtain ⟨s1,hs1,hr1⟩:=hT
    refine hs1 a w hR0 K Q (fun a' w' hR'=>hK a' w' (.inr ⟨0,s1,h0,fun j hj=>?_,fun j hj=>?_,hr1,hR'⟩))
    ·by_cases e:j = i
     ·subst e; exact hseti
     ·exact hset j (hcv j (by omega))
    ·rw [getD_set_ne false (by omega)]; exact hno j (by omega)
   ·have ei:i = l.length + (k + 1):=by
     rcases Nat.lt_or_ge (l.length + (k + 1)) i with h | h
     ·have:=hcv _ h; rw [hno _ (by omega)] at this; simp at this
     ·rcases Nat.lt_or_ge i (l.length + (k + 1)) with h' | h'
      ·have:=hyes i (by omega); rw [hil] at this; simp at this
      ·omega
    rw [show i - l.length = k + 1 by omega] at hoi
    have hdr:tl.drop (k + 1) = o :: tl.drop (k + 1 + 1):=by
     have hlt2:k + 1 < tl.length:=by omega
     rw [List.drop_eq_getElem_cons hlt2]
     congr 1
     rw [List.getElem?_eq_getElem hlt2] at hoi
     simpa using hoi
    rw [hdr] at hT
    obtain ⟨s1,hs1,hr1⟩:=hT
    refine hs1 a w hR K Q (fun a' w' hR'=>hK a' w' (.inr ⟨k + 1,s1,by omega,fun j hj=>?_,fun j hj=>?_,hr1,hR'⟩))
    ·by_cases e:j = i
     ·subst e; exact hseti
     ·exact hset j (hyes j (by omega))
    ·rw [getD_set_ne false (by omega)]; exact hno j (by omega)
 ·
  intro listed a w hsz hall hInv
  rcases hInv with ⟨hno,hR⟩ | ⟨k,sk,hk,hyes,hno,hT,hR⟩
  ·have e:tl = []:=by
    cases htl':tl with
    | nil=>rfl
    | cons o0 r=>
     have:=hall l.length (by rw [htl']; simp)
     rw [hno _ (Nat.le_refl _)] at this; simp at this
   subst e
   have hR0:=hS0 (fun j hj=>hall j (by simpa using hj)) hR
   have e2:_ = s2:=htl
   rw [e2] at hR0
   exact h a w (hs ▸ hR0.ik ks kos)
  ·have e:k + 1 = tl.length:=by
    rcases Nat.lt_or_ge (k + 1) tl.length with h' | h'
    ·have:=hall (l.length + (k + 1)) (by simp only [List.length_append]; omega)
     rw [hno _ (by omega)] at this; simp at this
    ·omega
   rw [e,List.drop_length] at hT
   have e2:sk = s2:=hT
   subst e2
   exact h a w (hs ▸ hR.ik ks kos)
 ·intro i p hi hl
  exfalso
  simp only [Array.getD_eq_getD_getElem?,Array.getElem?_replicate] at hl
  split at hl <;> simp at hl
 ·simp only [Array.getD_eq_getD_getElem?,Array.getElem?_replicate]
  split <;> simp
 ·obtain ⟨h1,h2,h,ρ,hw,hsl⟩:=hr.drawn
  refine ⟨h1,h2,h,ρ,hw,fun k x hx=>hsl k x ?_⟩
  simp only [stE] at hx
  rcases List.mem_append.1 hx with hx | hx
  ·exact (List.mem_filter.1 hx).1
  ·rw [dd] at hx
   obtain ⟨j,o,hj,_,_,hl⟩:=hx
   simp only [Nat.zero_add,Array.getD_eq_getD_getElem?,Array.getElem?_replicate] at hl
   split at hl <;> simp at hl
theorem ab.jy {rid:Nat} {ops:List Oper} (hm:P.follows .mixedOrders = true) (m:Nat) (Fs:List SV) (ks kos:List Nat) (hok:okX (ops.take m) (ops.drop m) n.n = true) (hst:ua P E n ops.toArray s (ops.take m) Fs 0 (ops.take m) Fs)
  (htl:vf P E n ops.toArray (ops.drop m) ⟨(s.slots.filter fun p=>!(ko (ops.take m)).contains p.1) ++ bI (fun _=>true) 0 (ops.take m) Fs,s.own⟩ s2) (hs:s2.ik ks kos = s') (h:Fin E n .normal s' Q):ab P E n (.region rid ops.toArray true) s Q :=
 ab.Dq hm _ _ (List.take_append_drop m ops) Fs ks kos hok hst htl hs h
theorem ab.bP {rid:Nat} {ops:List Oper} {y:Code} (hm:P.follows .mixedOrders = true) (m:Nat) (Fs:List SV) (ks kos:List Nat) (hok:okX (ops.take m) (ops.drop m) n.n = true) (hst:ua P E n ops.toArray s (ops.take m) Fs 0 (ops.take m) Fs)
  (htl:vf P E n ops.toArray (ops.drop m) ⟨(s.slots.filter fun p=>!(ko (ops.take m)).contains p.1) ++ bI (fun _=>true) 0 (ops.take m) Fs,s.own⟩ s2) (hs:s2.ik ks kos = s') (h:ab P E n y s' Q):ab P E n (.region rid ops.toArray true) s (Exit.then (y.wp P Q) Q) :=
 ab.jy hm m Fs ks kos hok hst htl hs (Fin.then h)
end
end Go.Sk
namespace Go.Sk
set_option linter.unusedSimpArgs false
set_option linter.unusedVariables false
open Go Go.BigFrame Go.RowKit
section
variable {P:Program} {TB:cG} {E:Env TB} {n:Sh} {s s' s0 s2:St} {dst:Option Nat} {t ty yt:TypeId} {pos:String} {after:Array Edge} {g:Option (Nat × Bool)} {x y c:Operand} {ops:Array Oper} {o:Oper}
theorem dN.kq (i k size:Nat) (T:TypeId) (hi:s.get i = some (.b (.one .nil))) (hz:0 < size) (hfx:n.fix.contains k = false) (h:dN P E n ops o ⟨(i,.b (.row k)) :: del i (eJ k s.slots),ins k (.row T size []) s.own⟩ s2) (hnu:jo k s.own = true:=by rfl):dN P E n ops o s s2 :=
 fun a w hr=>h a w (hr.kq hi hz hfx hnu)
theorem dN.p5 (i size:Nat) (hi:s.get i = some (.b (.one .nil))) (hz:0 < size) (h:dN P E n ops o ⟨(i,.b (.one (.sl size []))) :: del i s.slots,s.own⟩ s2):dN P E n ops o s s2 :=
 fun a w hr=>h a w (hr.p5 hi hz)
theorem dN.eY (k:Nat) {size:Nat} {T:TypeId} {es:List (List CP)} (hk:lk s.own k = some (.row T size es)) (h:dN P E n ops o ⟨qQ k (.sl size es) s.slots,qR k (.sl size es) (del k s.own)⟩ s2):dN P E n ops o s s2:=fun a w hr=>h a w (hr.eY hk)
theorem dN.qP (kos:List Nat) {s1:St} (h:dN P E n ops o s s1) (e:(⟨s1.slots,sx kos s1.own⟩:St) = s2):dN P E n ops o s s2:=fun a w hr K Q hk=>h a w hr K Q fun a' w' hr'=>hk a' w' (by
 rw [← e]
 obtain ⟨hd,hn,h,ρ,hw,hs⟩:=hr'
 exact ⟨hd,hn,h,ρ,hw.sub fun _ hp=>mT hp,hs⟩)
theorem R.toF {a:Act} {w:World} (hr:R E n s a w) (k:Nat) {T:TypeId} {size:Nat} {es:List (List CP)} (hk:lk s.own k = some (.row T size es)):R E n ⟨s.slots,ins k (.k9 T size es) s.own⟩ a w:=by
 obtain ⟨hd,hn,h,ρ,hw,hs⟩:=hr
 exact ⟨hd,hn,h,ρ,hw.repl hk (hw.owned k _ (dl hk)).1,hs⟩
theorem R.unF {a:Act} {w:World} (hr:R E n s a w) (k:Nat) {T:TypeId} {size:Nat} {es:List (List CP)} (hk:lk s.own k = some (.k9 T size es)):R E n ⟨s.slots,ins k (.row T size es) s.own⟩ a w:=by
 obtain ⟨hd,hn,h,ρ,hw,hs⟩:=hr
 exact ⟨hd,hn,h,ρ,hw.repl hk (hw.owned k _ (dl hk)).1,hs⟩
theorem ad.toF {l:List Oper} {Q:fi} (k:Nat) {T:TypeId} {size:Nat} {es:List (List CP)} (hk:lk s.own k = some (.row T size es)) (h:ad P E n ops l ⟨s.slots,ins k (.k9 T size es) s.own⟩ Q):ad P E n ops l s Q:=fun a w hr=>h a w (hr.toF k hk)
theorem ad.unF {l:List Oper} {Q:fi} (k:Nat) {T:TypeId} {size:Nat} {es:List (List CP)} (hk:lk s.own k = some (.k9 T size es)) (h:ad P E n ops l ⟨s.slots,ins k (.row T size es) s.own⟩ Q):ad P E n ops l s Q:=fun a w hr=>h a w (hr.unF k hk)
theorem ab.unF {cd:Code} {Q:fi} (k:Nat) {T:TypeId} {size:Nat} {es:List (List CP)} (hk:lk s.own k = some (.k9 T size es)) (h:ab P E n cd ⟨s.slots,ins k (.row T size es) s.own⟩ Q):ab P E n cd s Q:=fun a w hr=>h a w (hr.unF k hk)
theorem ab.toF {cd:Code} {Q:fi} (k:Nat) {T:TypeId} {size:Nat} {es:List (List CP)} (hk:lk s.own k = some (.row T size es)) (h:ab P E n cd ⟨s.slots,ins k (.k9 T size es) s.own⟩ Q):ab P E n cd s Q:=fun a w hr=>h a w (hr.toF k hk)
theorem Fin.toF {e:Exit} {Q:fi} (k:Nat) {T:TypeId} {size:Nat} {es:List (List CP)} (hk:lk s.own k = some (.row T size es)) (h:Fin E n e ⟨s.slots,ins k (.k9 T size es) s.own⟩ Q):Fin E n e s Q:=fun a w hr=>h a w (hr.toF k hk)
theorem Fin.unF {e:Exit} {Q:fi} (k:Nat) {T:TypeId} {size:Nat} {es:List (List CP)} (hk:lk s.own k = some (.k9 T size es)) (h:Fin E n e ⟨s.slots,ins k (.row T size es) s.own⟩ Q):Fin E n e s Q:=fun a w hr=>h a w (hr.unF k hk)
theorem dN.toF (k:Nat) {T:TypeId} {size:Nat} {es:List (List CP)} (hk:lk s.own k = some (.row T size es)) (h:dN P E n ops o ⟨s.slots,ins k (.k9 T size es) s.own⟩ s2):dN P E n ops o s s2:=fun a w hr=>h a w (hr.toF k hk)
theorem dN.unF (k:Nat) {T:TypeId} {size:Nat} {es:List (List CP)} (hk:lk s.own k = some (.k9 T size es)) (h:dN P E n ops o ⟨s.slots,ins k (.row T size es) s.own⟩ s2):dN P E n ops o s s2:=fun a w hr=>h a w (hr.unF k hk)
end
theorem az.lib {P:Program} {TB:cG} {f:FuncId} {args:List BV} {res:BV}
  (H:∀ (w:World) (h:PH) (ρ:RM) (vals:List Value),dR TB h w → tK h w → bT (fun (x:BV) v=>x.rel h ρ v) args vals → Calls P f vals.toArray w fun e w'=>∃ v,e = .returned v ∧ Below w.heap.size w w' ∧ res.rel h ρ v):az P TB f [] args (Is [] (.b res)):=by
 intro w h ρ vals tb hag hl ha
 refine (H w h ρ vals tb hag ha).mono ?_
 rintro e w' ⟨v,rfl,hb,hr⟩
 refine ⟨v,[],.b res,h,ρ,rfl,⟨rfl,rfl⟩,⟨fun b o u hu=>?_,PH.le_refl _,fun _ _ _=>rfl,hb.size,fun b hb' _=>hb.block b hb',fun k hk=>by simp [cx] at hk,hb.os,hb.output,fun b hb'=>?_,fun k c hk=>by simp at hk⟩,hr⟩
 ·have hc:=hag b o u hu
  have hlt:b < w.heap.size:=fQ hc
  rw [cell_of_heap (hb.block b hlt)]; exact hc
 ·obtain ⟨k,hk,_⟩:=hb'
  simp [bL] at hk
theorem xU {r:BV → Value → Prop} {a:BV} {vals:List Value} (h:bT r [a] vals):∃ v,vals = [v] ∧ r a v:=by
 cases h with
 | cons h1 h2=>cases h2; exact ⟨_,rfl,h1⟩
theorem rz {r:BV → Value → Prop} {a b:BV} {vals:List Value} (h:bT r [a,b] vals):∃ v u,vals = [v,u] ∧ r a v ∧ r b u:=by
 cases h with
 | cons h1 h2=>
  obtain ⟨u,rfl,hu⟩:=xU h2
  exact ⟨_,u,rfl,h1,hu⟩
section
variable {P:Program} {TB:cG} {E:Env TB} {n:Sh} {s:St} {dst:Option Nat} {t ty yt:TypeId} {pos:String} {after:Array Edge} {g:Option (Nat × Bool)} {x y c:Operand}
theorem sl_part {h:PH} {size:Nat} {es fs:List (List CP)} {a:Option Addr} {b o c lo len cap:Nat} (hz:0 < size) (hu:eC size es) (hr:Reads h b o es.flatten) (hc:es.length ≤ c) (hm:c ≤ maxLen) (hfs:fs = (es.take (lo + len)).drop lo) (hl:lo + len ≤ es.length) (hcap:cap = c - lo) (ha:a = if c = lo then some ⟨b,o,none⟩ else some ⟨b,o + lo * size,none⟩) :
  (CP.sl size fs).rel h (.slice a len cap):=by
 have hfl:fs.length = len:=by rw [hfs]; simp; omega
 have huf:eC size fs:=fun ps hp=>hu ps (by rw [hfs] at hp; exact List.mem_of_mem_take (List.mem_of_mem_drop hp))
 refine ⟨huf,hz,?_⟩
 subst ha hcap
 by_cases e:c = lo
 ·rw [if_pos e]
  have h0:len = 0:=by omega
  have hn:fs = []:=List.eq_nil_of_length_eq_zero (by omega)
  exact .inr ⟨b,o,c - lo,by rw [hfl],by omega,by omega,fun j q hq=>by rw [hn] at hq; simp at hq⟩
 ·rw [if_neg e]
  refine .inr ⟨b,o + lo * size,c - lo,by rw [hfl],by omega,by omega,?_⟩
  have:fs.flatten = (es.flatten.drop (lo * size)).take (len * size):=by
   rw [hfs,rQ (fun ps hp=>hu ps (List.mem_of_mem_take hp)),rH hu,List.drop_take]
   congr 1
   rw [Nat.add_mul]; omega
  rw [this]
  intro j q hq
  rw [List.getElem?_take] at hq
  split at hq
  ·exact hr.drop (lo * size) j q hq
  ·simp at hq
theorem yl {α:Type} {xs z:List α} {enc:α → List CP} {size bytes:Nat} {e:TypeId} {zs:List CP} {yo:Operand} {kk:IntKind} {i:Int} (ht:og P t e size bytes zs) (h:oh xs i = some z) (hx:s.ev x = some (.b (.one (.sl size (xs.map enc))))) (hy:s.ev yo = some (.b (.one (.int kk i)))) :
  bY P E n ⟨dst,.slice t x none (some yo) none,ty,pos,after,g⟩ s (s.put n dst (.b (.one (.sl size (z.map enc))))) :=
 bY.val (o:=⟨dst,.slice t x none (some yo) none,ty,pos,after,g⟩) fun ac w hh ρ hw hs=>by
  obtain ⟨h0,h1,rfl⟩:=Am h
  obtain ⟨hu,hz,hv⟩:=(bC hs hx:(CP.sl size (xs.map enc)).rel hh _)
  obtain ⟨inf,zz,hi,hsz,_⟩:=ht.info
  have hel:P.elem t = e:=by simp [Program.elem,ht.und]
  have hund:P.underlying t = some (.slice (P.elem t)):=by rw [hel]; exact ht.und
  rcases hv with ⟨hv,he⟩ | ⟨b,o,c,hv,h3,h4,h5⟩
  ·have hxs:xs = []:=by simpa using he
   subst hxs
   have hi0:i = 0:=by simp at h1; omega
   subst hi0
   have hb:=run_slice_h (P:=P) (w:=w) (t:=t) (a:=none) (len:=0) (cap:=0) hund kk 0 (by decide) (by decide)
   refine ⟨sliced none 0 (Int.toNat 0) 0 size,?_,?_⟩
   ·simp only [execOp,hv,Option.map_some,Option.map_none,(cj hs hy).1]
    rw [Sem.run_bind,run_sliceAt_slice w t _ _ _ _ hund,hb,run_sizeOf (i:=inf) (by rw [hel]; exact hi),hsz]
    rfl
   ·exact ⟨fun ps hps=>by simp at hps,hz,.inl ⟨by simp [sliced],by simp⟩⟩
  ·have hlen:(xs.map enc).length = xs.length:=by simp
   have hb:=run_slice_h (P:=P) (w:=w) (t:=t) (a:=some ⟨b,o,none⟩) (len:=(xs.map enc).length) (cap:=c) hund kk i h0 (by rw [hlen] at h3; omega)
   refine ⟨sliced (some ⟨b,o,none⟩) 0 i.toNat c size,?_,?_⟩
   ·simp only [execOp,hv,Option.map_some,Option.map_none,(cj hs hy).1]
    rw [Sem.run_bind,run_sliceAt_slice w t _ _ _ _ hund,hb,run_sizeOf (i:=inf) (by rw [hel]; exact hi),hsz]
    rfl
   ·unfold sliced
    refine sl_part (lo:=0) hz hu h5 h3 h4 ?_ (by rw [hlen]; omega) rfl (by split <;> simp [oR])
    simp [List.map_take]
end
end Go.Sk
namespace Go.Sk
set_option linter.unusedSimpArgs false
set_option linter.unusedVariables false
open Go Go.ChangeShapes Go.WideShapes Go.ChangeAt Go.RowKit
theorem eo.arr {P:Program} {t el:TypeId} {n:Nat} {k:IntKind} {α:Type} {e:α → List CP} (g:List Int → α) (ht:P.underlying t = some (.array n el)) (hel:P.underlying el = some (.int k)) (hce:P.cellsOf el = 1) (hct:P.cellsOf t = n)
  (hl:∀ a,(e a).length = n) (hg:∀ l:List Int,l.length = n → e (g l) = l.map (.int k)):eo P t e where
 len a:=by rw [hl,hct]
 op {H enc W sp held fuel cs x} h:=by
  obtain ⟨xs,m,_,_,hcl,hxl,hv⟩:=DataW.trod_array ht h
  rw [hct] at hcl
  rw [hce] at hv
  obtain ⟨l,hll,hp⟩:=qj (p:=fun i z=>cs[i]? = some (.int k z) ∧ rW k z) n fun i hi=>by
   have h1:=hv i hi
   rw [List.getElem?_eq_getElem (by omega)] at h1
   obtain ⟨z,hz,_,hw⟩:=DataW.trod_int hel h1
   have h0:((cs.drop (i * 1)).take 1)[0]? = some (.int k z):=by rw [hz]; rfl
   rw [List.getElem?_take,List.getElem?_drop] at h0
   simp at h0
   exact ⟨z,h0,vA hw⟩
  refine ⟨g l,?_⟩
  rw [hg l hll]
  refine bT.tN (by simp; omega) fun i a b ha hb=>?_
  rw [List.getElem?_map] at ha
  simp only [Option.map_eq_some_iff] at ha
  obtain ⟨z,hz,rfl⟩:=ha
  obtain ⟨h1,h2⟩:=hp i z hz
  rw [hb] at h1
  exact ⟨Option.some.inj h1,h2⟩
theorem dR.nil {h:PH} {w:World}:dR [] h w:=fun g cs hm=>by cases hm
theorem dR.cons {P:Program} {TB:cG} {W:World} {name:String} {k:IntKind} {zs:List Int} {g:Nat} (hg:P.globalNamed name = some g) (h:Lib.TabIs P W name k zs) (h0:0 < zs.length) (r:dR TB (Go.Sk.full W) W):dR ((g,zs.map fun z=>Value.int k z) :: TB) (Go.Sk.full W) W:=fun g' cs hm=>by
 rcases List.mem_cons.1 hm with e | hm
 ·obtain ⟨rfl,rfl⟩:=Prod.mk.inj e
  unfold Lib.TabIs World.var? at h
  rw [hg] at h
  simp only [Option.bind_some] at h
  split at h
  ·next cs T fz hh=>
   have:=Option.some.inj h
   subst this
   refine ⟨by simpa using h0,fun o v hv=>?_,T,fz,hh⟩
   show World.cell? W ⟨g',o,none⟩ = some v
   simp only [World.cell?,hh]
   simpa using hv
  ·simp at h
 ·exact r g' cs hm
theorem nV {P:Program} {W:World} {x:String × DataW Unit} {l:List (String × DataW Unit)} (h:laidMet P (x :: l) W):laidMet P l W:=by
 obtain ⟨ps,⟨g',t',cs,fuel,p,q,_,_,_,_,hr,rfl⟩,hn,hc⟩:=h
 exact ⟨q,hr,(List.nodup_append.1 hn).2.1,fun b off hp=>hc b off (List.mem_append_right _ hp)⟩
end Go.Sk
namespace Go.Sk
open Go Go.Proofs
section
variable {P:Program} {TB:cG} {E:Env TB} {n:Sh} {ops:Array Oper} {l:List Oper} {s:St} {Q:fi} {c:Code}
def St.only (s' s:St):St:=s.ik (s'.slots.map (·.1)) (s'.own.map (·.1))
theorem ad.aj {y:Code} (s':St) (hs:s'.only s = s') (h:ab P E n y s' Q):ad P E n ops [] s (Exit.then (y.wp P Q) Q):=ad.nilK _ _ hs h
theorem ad.ah (s':St) (hs:s'.only s = s') (h:ad P E n ops l s' Q):ad P E n ops l s Q:=ad.ik _ _ hs h
theorem ab.ah (s':St) (hs:s'.only s = s') (h:ab P E n c s' Q):ab P E n c s Q:=ab.ik _ _ hs h
theorem Fin.ah {e:Exit} (s':St) (hs:s'.only s = s') (h:Fin E n e s' Q):Fin E n e s Q:=Fin.ik _ _ hs h
end
theorem dR.open1 {P:Program} {W:World} {g:Nat} {t:TypeId} {zero:Array Value} {k:IntKind}
  (h:W.ShapedOpen P) (hg:g < P.globals.size) (h0:((begin P (fun _ _=>0) default).world.heap[g]?).bind Obj.row? = some (zero,t)) (hz:zero.size = 1)
  (hb:P.buildable t = true) (hc:P.cellTypes P.depth t = some [t]) (hu:P.underlying t = some (.int k)) :
  ∃ m,∀ {TB:cG},dR TB (Go.Sk.full W) W → dR (TB ++ [(g,[.int k m])]) (Go.Sk.full W) W:=by
 obtain ⟨m,hm⟩:=cell_of_shapedOpen_int h hg h0 hz hb hc hu
 obtain ⟨cs,hh,hs,_⟩:=h.1 g zero t hg h0
 have h1:cs.size = 1:=by omega
 have hcell:cs = #[.int k m]:=by
  have:cs[0]? = some (.int k m):=by simpa [World.cell?,hh] using hm
  refine Array.ext (by simpa using h1) fun i hi hj=>?_
  have:i = 0:=by omega
  subst this
  simp_all
 refine ⟨m,fun {TB} r g' c' hm'=>?_⟩
 rcases List.mem_append.1 hm' with e | e
 ·exact r g' c' e
 ·rw [List.mem_singleton] at e
  obtain ⟨rfl,rfl⟩:=Prod.mk.inj e
  refine ⟨by simp,fun o v hv=>?_,t,_,by rw [hh,hcell]⟩
  have:o = 0 ∧ v = .int k m:=by
   cases o with
   | zero=>simp at hv; exact ⟨rfl,hv.symm⟩
   | succ o=>simp at hv
  obtain ⟨rfl,rfl⟩:=this
  exact hm
section
variable {P:Program} {TB:cG} {E:Env TB} {n:Sh} {ops:Array Oper} {l:List Oper} {s s':St} {Q:fi} {o:Oper} {dst:Option Nat} {t ty:TypeId} {pos:String} {after:Array Edge} {g:Option (Nat × Bool)} {x:Operand}
theorem Oc (h1:bY P E n o s s') (h2:ad P E n ops l s' Q) (hg:o.guard = none:=by rfl):ad P E n ops (o :: l) s Q:=ad.cons hg h1 h2
theorem dN.p (h:bY P E n o s s') (hg:o.guard = none:=by rfl):dN P E n ops o s s':=.plain hg h
theorem om {z:SV} (hx:s.ev x = some z:=by rfl):bY P E n ⟨dst,.move x,ty,pos,after,g⟩ s (s.put n dst z):=fW hx
theorem oa {z:SV} (hx:s.ev x = some z:=by rfl):bY P E n ⟨dst,.assign x,ty,pos,after,g⟩ s (s.put n dst z):=vr hx
theorem lp {k off:Nat} {T:TypeId} {ps qs:List CP} {m:Nat} (ht:gJ P t m) (hx:s.ev x = some (.b (.ptr k off)):=by rfl) (hk:lk s.own k = some (.box T ps):=by rfl) (hp:(ps.drop off).take m = qs:=by rfl) (hq:qs.length = m:=by rfl) :
  bY P E n ⟨dst,.load t x,ty,pos,after,g⟩ s (s.put n dst (.b (.agg qs))):=aQ ht hx hk hp hq
theorem bU {j t:Nat} {b:Bool} {z:BV} (gd':Bool) (ks:List Nat) (hc:gd' = true → eP 99 ks s.slots) (h1:gd' = true → bY P E n o (s.lW 99 ks) ((s.lW 99 ks).put n o.dst (.b z))) (h2:ad P E n ops l (s.put n o.dst (.dA gd' z)) Q)
  (hg:o.guard = some (j,true):=by rfl) (hj:(ops[j]?).bind (·.dst) = some t:=by rfl) (hb:s.get t = some (.b (.one (.bool b))):=by rfl) (hgd:b = gd':=by rfl):ad P E n ops (o :: l) s Q :=
 ad.dy gd' 99 ks (.plain hb) ((ob _).trans hgd) hg hj hc h1 h2
theorem cN {j t:Nat} {b:Bool} {z:BV} (gd':Bool) (ks:List Nat) (hc:gd' = true → eP 99 ks s.slots) (h1:gd' = true → bY P E n o (s.lW 99 ks) ((s.lW 99 ks).put n o.dst (.b z))) (h2:ad P E n ops l (s.put n o.dst (.dA gd' z)) Q)
  (hg:o.guard = some (j,false):=by rfl) (hj:(ops[j]?).bind (·.dst) = some t:=by rfl) (hb:s.get t = some (.b (.one (.bool b))):=by rfl) (hgd:(!b) = gd':=by rfl):ad P E n ops (o :: l) s Q :=
 ad.dy gd' 99 ks (.plain hb) ((eq_f _).trans hgd) hg hj hc h1 h2
end
abbrev Pt (k:Nat) (o:Nat):SV:=.b (.ptr k o)
end Go.Sk
namespace Go.Sk
set_option linter.unusedSimpArgs false
set_option linter.unusedVariables false
open Go Go.BigFrame
section
variable {P:Program} {TB:cG} {E:Env TB} {n:Sh} {s:St} {dst:Option Nat} {t ty yt:TypeId} {pos:String} {after:Array Edge} {g:Option (Nat × Bool)} {x y c:Operand}
def BV.cv:BV → Option CV
 | .one p=>some (.one p)
 | .ptr k o=>some (.ptr k o)
 | .row k=>some (.row k)
 | _=>none
def CV.bv:CV → BV
 | .one p=>.one p
 | .ptr k o=>.ptr k o
 | .row k=>.row k
theorem BV.cv_rel {h:PH} {ρ:RM} {z:BV} {q:CV} (hq:z.cv = some q) {v:Value} (hv:z.rel h ρ v):q.rel h ρ v:=by
 cases z <;> simp [BV.cv] at hq <;> subst hq <;> exact hv
theorem CV.bv_rel {h:PH} {ρ:RM} {q:CV} {v:Value} (hv:q.rel h ρ v):q.bv.rel h ρ v:=by cases q <;> exact hv
theorem CV.bvL {h:PH} {ρ:RM}:∀ {l:List CV} {vs:List Value},bT (fun (x:CV) v=>x.rel h ρ v) l vs → bT (fun (x:BV) v=>x.rel h ρ v) (l.map CV.bv) vs
 | _,_,.nil=>.nil
 | _,_,.cons h1 t=>.cons (CV.bv_rel h1) (CV.bvL t)
def evCV (s:St) (x:Operand):Option CV:=(evB s x).bind BV.cv
def vc (s:St):List Operand → Option (List CV)
 | []=>some []
 | x :: l=>(evCV s x).bind fun z=>(vc s l).map fun r=>z :: r
theorem evB_rel {h:PH} {ρ:RM} {a:Act} (hs:ck h ρ s.slots a.tmps) {x:Operand} {z:BV} (hz:evB s x = some z):z.rel h ρ (a.eval x):=by
 unfold evB at hz
 split at hz
 ·rename_i z' hz'
  simp at hz; subst hz
  exact bC hs hz'
 ·simp at hz
theorem sf {h:PH} {ρ:RM} {a:Act} (hs:ck h ρ s.slots a.tmps):∀ {l:List Operand} {zs:List CV},vc s l = some zs → bT (fun (x:CV) v=>x.rel h ρ v) zs (l.map a.eval)
 | [],zs,e=>by simp [vc] at e; subst e; exact .nil
 | x :: l,zs,e=>by
  unfold vc at e
  simp only [Option.bind_eq_some_iff,Option.map_eq_some_iff] at e
  obtain ⟨z,hz,r,hr,rfl⟩:=e
  unfold evCV at hz
  simp only [Option.bind_eq_some_iff] at hz
  obtain ⟨q,hq,hz⟩:=hz
  exact .cons (BV.cv_rel hz (evB_rel hs hq)) (sf hs hr)
theorem sJ {f:FuncId} {xs ys:Array Operand} {fs cs:List CV} (hf:vc s xs.toList = some fs) (hc:vc s ys.toList = some cs) :
  bY P E n ⟨dst,.makeFunc (.func f) xs ys,ty,pos,after,g⟩ s (s.put n dst (.b (.pY f fs cs))) :=
 bY.val (o:=⟨dst,.makeFunc (.func f) xs ys,ty,pos,after,g⟩) fun ac w h ρ hw hs=>by
  refine ⟨.func (.func f) (xs.map ac.eval) (ys.map ac.eval),by simp [execOp,Instr.makeFunc],_,_,rfl,?_,?_⟩
  ·simpa using sf hs hf
  ·simpa using sf hs hc
theorem zS {o:Oper} {f:FuncId} {own_a:List (Nat × OC)} {args:List BV} {post:oq} (hspec:az P TB f own_a args post)
  (hrun:∀ (a:Act) (w:World) (h:PH) (ρ:RM),WR E n s.own h ρ w → ck h ρ s.slots a.tmps → ∃ vals:List Value,(execOp a.eval o).run P w = .ok (.enter f vals.toArray) w ∧ bT (fun (x:BV) v=>x.rel h ρ v) args vals)
  (hl:ou s.own own_a) {a:Act} {w:World} (hr:R E n s a w) {next:Act → World → Prop} {Q:fi}
  (hnext:∀ own' res,post own' res → p4 n own_a own' = true ∧ pZ s.own own_a own' = true ∧ res.dC own' = true ∧ ∀ a' w',R E n (s.aft n own_a own' o.dst res) a' w' → next a' w'):o.wp P a w next Q:=by
 obtain ⟨hdf,hn,h,ρ,hw,hs⟩:=hr
 obtain ⟨vals,hr0,hra⟩:=hrun a w h ρ hw hs
 unfold Oper.wp
 rw [hr0]
 show Calls P f _ w _
 have hla:=pd hl
 refine (hspec w h ρ _ hw.bj hw.agree (AG hw hla) hra).mono ?_
 rintro e w' ⟨v,own',res,h',ρ',rfl,hp,hc,hres⟩
 obtain ⟨hok,hcl,hki,hnx⟩:=hnext own' res hp
 have hwc:=hw.call hla hc hok hcl
 refine hnx _ _ (R.put (s:=⟨rj own_a own' s.slots,r6 own' (mu own_a s.own)⟩) hdf hn hwc ?_ ?_)
 ·intro k x hx
  obtain ⟨h1,h2⟩:=pc hx
  obtain ⟨u,hu,hrel⟩:=hs k x h1
  refine ⟨u,hu,SV.mono hc.le (fun j hj=>?_) hrel⟩
  by_cases hin:j ∈ bL own'
  ·rw [jX hin]
   by_cases hia:j ∈ cx own_a
   ·exact hc.fixed j hia
   ·have:=h2 j hin hia; simp [this] at hj
  ·exact lD hin
 ·exact SV.mono (PH.le_refl _) (fun j hj=>jX (SV.c7 hki hj)) hres
theorem sW {α β:Type} {r:α → β → Prop} {a:List α} {b:List β} {c:List α} {d:List β} (h:bT r a b) (h':bT r c d):bT r (a ++ c) (b ++ d):=h.append h'
theorem xx {f:FuncId} {fs cs:List CV} {own_a own':List (Nat × OC)} {args zs:List BV} {xs:Array Operand} {ats:Array TypeId} {res:SV} (hspec:az P TB f own_a args (Is own' res)) (hf:bn P f) (hx:s.ev x = some (.b (.pY f fs cs))) (ha:lj s xs.toList = some zs)
  (hz:fs.map CV.bv ++ zs ++ cs.map CV.bv = args) (hl:ou s.own own_a)
  (hok:p4 n own_a own' = true) (hki:res.dC own' = true) (hcl:pZ s.own own_a own' = true:=by rfl):bY P E n ⟨dst,.call ⟨.value x,xs,ats⟩,ty,pos,after,g⟩ s (s.aft n own_a own' dst res) :=
 fun _ _ hr _ _ hnext=>zS hspec (fun a w h ρ hw hs=>by
  obtain ⟨va,vb,hv,h1,h2⟩:=(bC hs hx:BV.rel h ρ (.pY f fs cs) _)
  refine ⟨va.toList ++ xs.toList.map a.eval ++ vb.toList,?_,?_⟩
  ·have e1:execOp a.eval ⟨dst,.call ⟨.value x,xs,ats⟩,ty,pos,after,g⟩ = (do let d ← Deferred.ofValue (a.eval x) (xs.map a.eval); invoke d.target d.args):=rfl
   rw [e1,hv]
   have e2:(do let d ← Deferred.ofValue (.func (.func f) va vb) (xs.map a.eval); invoke d.target d.args:Sem Next) = callFunc f (va ++ xs.map a.eval ++ vb):=rfl
   rw [e2,hf.run]
   congr 2
   apply Array.ext'
   simp
  ·rw [← hz]
   exact sW (sW (CV.bvL h1) (qM hs ha)) (CV.bvL h2)) hl hr fun _ _ hp=>by
  obtain ⟨rfl,rfl⟩:=hp
  exact ⟨hok,hcl,hki,hnext⟩
theorem nU {q:bg} {k:Nat} (hu:P.underlying t = some .string) (hx:s.ev x = some (.b (.one (.str q)))) (hfx:n.fix.contains k = false) (hnu:jo k s.own = true:=by rfl) :
  bY P E n ⟨dst,.range t x,ty,pos,after,g⟩ s ((⟨eJ k s.slots,ins k (.s8 q 0) s.own⟩:St).put n dst (.b (.ptr k 0))) :=
 bY.make (hfx:=hfx) (hnu:=hnu) (o:=⟨dst,.range t x,ty,pos,after,g⟩) fun ac w h ρ hw hs=>by
  obtain ⟨hv,hql⟩:ac.eval x = .string ⟨⟨q⟩⟩ ∧ q.length ≤ maxLen:=(bC hs hx:(CP.str q).rel h _)
  refine ⟨.pointer (some ⟨w.heap.size,0,none⟩),.pointer (some ⟨w.heap.size,0,none⟩),w.alloc (.stringIter ⟨⟨q⟩⟩ 0),none,?_,fun b e=>by simp at e,by simp,rfl,rfl,fun b hb _=>heap_alloc_old w _ hb,⟨w.heap.size,rfl,heap_alloc_new w _,hql⟩,
   fun b e=>by simp [cq] at e; subst e; exact .inr (Nat.le_refl _),?_⟩
  ·simp only [execOp,hv]
   simp [Instr.range,run_underlying hu,newObj,Sem.run,Result.andThen]
  ·exact ⟨w.heap.size,eN _ _ _,rfl⟩
def gx (q:bg) (i:Nat):Int:=((Utf8.decode ⟨⟨q⟩⟩ i).1:Int)
def fY (q:bg) (i:Nat):Nat:=i + (Utf8.decode ⟨⟨q⟩⟩ i).2
theorem decode_le (q:ByteArray) (i:Nat):(Utf8.decode q i).1 ≤ 1114111:=by
 unfold Utf8.decode
 simp only []
 repeat' split
 all_goals first | (simp only [Utf8.runeError]; omega) | skip
 all_goals (simp only [Utf8.valid,Bool.and_eq_true,Bool.or_eq_true,decide_eq_true_eq] at *; omega)
theorem oZ {q:bg} {k i:Nat} (hx:s.ev x = some (.b (.ptr k 0))) (hk:lk s.own k = some (.s8 q i)) (hi:i < q.length) :
  bY P E n ⟨dst,.next x true,ty,pos,after,g⟩ s ((⟨s.slots,ins k (.s8 q (fY q i)) s.own⟩:St).put n dst (.fE [.one (.bool true),.one (.int .i64 (i:Int)),.one (.int .i32 (gx q i))])):=by
 intro ac w ⟨hdf,hn,h,ρ,hw,hs⟩ next Q hnext
 obtain ⟨b,he,hv⟩:=(bC hs hx:BV.rel h ρ (.ptr k 0) _)
 obtain ⟨b',hρ,hb,hl⟩:=(hw.owned k _ (dl hk)).1
 have:b' = b:=by rw [hρ] at he; simpa using he
 subst this
 have hlt:b' < w.heap.size:=by
  rcases Nat.lt_or_ge b' w.heap.size with h | h
  ·exact h
  ·simp [Array.getElem?_eq_none h] at hb
 have hrun:(execOp ac.eval ⟨dst,.next x true,ty,pos,after,g⟩).run P w = .ok (.value (.tuple #[.bool true,.int .i64 (i:Int),.int .i32 (gx q i)])) { w with heap:=w.heap.setIfInBounds b' (.stringIter ⟨⟨q⟩⟩ (fY q i)) }:=by
  have hs2:i < (⟨⟨q⟩⟩:ByteArray).size:=by show i < (q.toArray).size; simpa using hi
  simp only [execOp,hv]
  rw [Sem.run_bind]
  have h1:(Instr.next (.pointer (some ⟨b',0,none⟩)) true ty).run P w = .ok (.tuple #[.bool true,.int .i64 (i:Int),.int .i32 (gx q i)]) { w with heap:=w.heap.setIfInBounds b' (.stringIter ⟨⟨q⟩⟩ (fY q i)) }:=by
   simp only [Instr.next,getObj,setObj,Sem.run_bind,Sem.run,hb,Result.andThen,hs2,if_true]
   rfl
  rw [h1]; rfl
 unfold Oper.wp
 rw [hrun]
 have hst:=hw.step (w':={ w with heap:=w.heap.setIfInBounds b' (.stringIter ⟨⟨q⟩⟩ (fY q i)) }) k (ρ k) (.s8 q (fY q i)) (some b') (fun b e=>by cases e; exact ⟨_,dl hk,by rw [hρ]; rfl⟩) (by simp) rfl rfl
  (fun b _ hne=>by
   have:b' ≠ b:=fun e=>hne (by rw [e])
   simp [Array.getElem?_setIfInBounds,this]) ⟨b',hρ,by simp [Array.getElem?_setIfInBounds,hlt],hl⟩ (fun b hb'=>by rw [hρ] at hb'; simp [cq] at hb'; exact .inl (by rw [hb'])) (.inl rfl) (.inl rfl)
 have hupd:tx ρ k (ρ k) = ρ:=by funext j; simp only [tx]; split <;> simp_all
 rw [hupd] at hst
 refine hnext _ _ (R.put (s:=⟨s.slots,ins k (.s8 q (fY q i)) s.own⟩) hdf hn hst hs ?_)
 refine ⟨_,rfl,.cons rfl (.cons ⟨rfl,?_⟩ (.cons ⟨rfl,?_⟩ .nil))⟩
 ·have hm:maxLen ≤ 9223372036854775807:=by decide
  constructor <;> simp only [IntKind.min,IntKind.max] <;> first | omega | (simp [IntKind.bits,IntKind.signed]; done) | (simp [IntKind.bits,IntKind.signed]; omega)
 ·have:=decode_le ⟨⟨q⟩⟩ i
  unfold gx
  constructor <;> simp only [IntKind.min,IntKind.max] <;> first | omega | (simp [IntKind.bits,IntKind.signed]; done) | (simp [IntKind.bits,IntKind.signed]; omega)
theorem oY {q:bg} {k i:Nat} (hx:s.ev x = some (.b (.ptr k 0))) (hk:lk s.own k = some (.s8 q i)) (hi:q.length ≤ i) :
  bY P E n ⟨dst,.next x true,ty,pos,after,g⟩ s (s.put n dst (.fE [.one (.bool false)])) :=
 bY.val (o:=⟨dst,.next x true,ty,pos,after,g⟩) fun ac w h ρ hw hs=>by
  obtain ⟨b,he,hv⟩:=(bC hs hx:BV.rel h ρ (.ptr k 0) _)
  obtain ⟨b',hρ,hb,hl⟩:=(hw.owned k _ (dl hk)).1
  have:b' = b:=by rw [hρ] at he; simpa using he
  subst this
  have hs2:¬ i < (⟨⟨q⟩⟩:ByteArray).size:=by show ¬ i < (q.toArray).size; simpa using hi
  refine ⟨.tuple #[.bool false],?_,_,rfl,.cons rfl .nil⟩
  simp only [execOp,hv]
  rw [Sem.run_bind]
  have h1:(Instr.next (.pointer (some ⟨b',0,none⟩)) true ty).run P w = .ok (.tuple #[.bool false]) w:=by
   simp only [Instr.next,getObj,setObj,Sem.run_bind,Sem.run,hb,Result.andThen,hs2,if_false]
   rfl
  rw [h1]; rfl
end
end Go.Sk
namespace Go.Sk
set_option linter.unusedSimpArgs false
set_option linter.unusedVariables false
open Go Go.BigFrame
def rY {α:Type}:List (Int × α) → Int → Option α
 | [],_=>none
 | (a,b) :: r,k=>if k = a then some b else rY r k
def vH {α:Type}:List (Int × α) → Int → α → List (Int × α)
 | [],k,v=>[(k,v)]
 | (a,b) :: r,k,v=>if k = a then (a,v) :: r else (a,b) :: vH r k v
def eM (kd:IntKind) (l:List (Int × BV)):List (CP × BV):=l.map fun p=>(.int kd p.1,p.2)
theorem pe {h:PH} {ρ:RM} {kd:IntKind} (k:Int):∀ {l:List (Int × BV)} {ms:List MapEntry},jW h ρ (eM kd l) ms → ∀ i:Nat,
  (rY l k = none ∧ Instr.findNow (.int kd) (.int kd k) ms i = some none) ∨ ∃ j e v,ms[j]? = some e ∧ e.key = .int kd k ∧ rY l k = some v ∧ v.rel h ρ e.val ∧ Instr.findNow (.int kd) (.int kd k) ms i = some (some (i + j,e.val)) ∧
   ∀ v',vH l k v' = l.set j (k,v')
 | [],_,.nil,i=>.inl ⟨rfl,rfl⟩
 | (a,b) :: r,e :: es,.cons h1 h2,i=>by
  have hk:e.key = .int kd a ∧ rW kd a:=h1.1
  unfold rY Instr.findNow
  rw [hk.1]
  by_cases hka:k = a
  ·subst hka
   refine .inr ⟨0,e,b,rfl,hk.1,if_pos rfl,h1.2,by simp [Instr.sameNow],fun v'=>by simp [vH]⟩
  ·have hne:Instr.sameNow (.int kd) (.int kd k) (.int kd a) = some false:=by simp [Instr.sameNow,hka]
   simp only [hne,if_neg hka]
   rcases pe k h2 (i + 1) with ⟨g1,g2⟩ | ⟨j,e',v,g1,g2,g3,g4,g5,g6⟩
   ·exact .inl ⟨g1,g2⟩
   ·refine .inr ⟨j + 1,e',v,by simpa using g1,g2,g3,g4,by rw [g5]; congr 3; omega,fun v'=>?_⟩
    unfold vH
    rw [if_neg hka,g6]; rfl
structure ve (P:Program) (t kt et:TypeId) (kd:IntKind) (z:CP):Prop where
 und:P.underlying t = some (.map kt et)
 key:P.underlying kt = some (.int kd)
 zero:∃ i v,P.info? et = some i ∧ i.zero = some v ∧ ∀ h,z.rel h v
theorem uD {α:Type} {l:List α} {j:Nat} {e:α} (h:l[j]? = some e) (f:α → α):l.modify j f = l.set j (f e):=by
 refine List.ext_getElem? fun i=>?_
 rw [List.getElem?_modify,List.getElem?_set]
 by_cases hij:j = i
 ·subst hij
  have hj:j < l.length:=by
   rcases Nat.lt_or_ge j l.length with g | g
   ·exact g
   ·rw [List.getElem?_eq_none g] at h; cases h
  rw [h,if_pos rfl,if_pos hj]
  show some (if j = j then f e else e) = _
  rw [if_pos rfl]
 ·rw [if_neg hij]
  cases l[i]? with
  | none=>rfl
  | some a=>show some (if j = i then f a else a) = _; rw [if_neg hij]
section
variable {P:Program} {TB:cG} {E:Env TB} {n:Sh} {s:St} {dst:Option Nat} {t ty yt:TypeId} {pos:String} {after:Array Edge} {g:Option (Nat × Bool)} {x y c:Operand}
theorem xB {h:PH} {ρ:RM} {own:List (Nat × OC)} {w:World} (hw:WR E n own h ρ w) {k:Nat} {es:List (CP × BV)} (hk:lk own k = some (.mp es)) :
  ∃ b ms clk,ρ k = .map (some b) ∧ w.heap[b]? = some (.map ms clk) ∧ jW h ρ es ms.toList ∧ tZ clk ms.toList:=(hw.owned k _ (dl hk)).1
theorem iY {w:World} {kt:TypeId} {d:TypeDesc} (hd:P.underlying kt = some d) {k:Value} {es:List MapEntry} {r:Option (Nat × Value)} (hf:Instr.findNow d k es 0 = some r):(Instr.findKey kt k es).run P w = .ok r w:=by
 unfold Instr.findKey
 simp [Sem.run_bind,run_underlying hd,Result.andThen,hf]
theorem mW {w:World} {kt:TypeId} {kd:IntKind} (hd:P.underlying kt = some (.int kd)) (k:Int) (e:Bool) (m:Nat):(Instr.checkKey e (m + 1) kt (.int kd k)).run P w = .ok () w:=by
 unfold Instr.checkKey
 simp [Sem.run_bind,run_underlying hd,Result.andThen]
theorem Dl {w:World} {et:TypeId} {i:TypeInfo} {v:Value} (hi:P.info? et = some i) (hz:i.zero = some v):(zeroValue et).run P w = .ok v w:=by
 simp [zeroValue,typeInfo,hi,hz]
theorem yu {h:PH} {ρ:RM} {w:World} {kt et:TypeId} {kd:IntKind} {z:CP} (ht:ve P t kt et kd z) {l:List (Int × BV)} {b:Nat} {ms:Array MapEntry} {clk:Nat}
  (hb:w.heap[b]? = some (.map ms clk)) (he:jW h ρ (eM kd l) ms.toList) (k:Int) :
  ∃ v,((rY l k).getD (.one z)).rel h ρ v ∧ (Instr.lookup t (.map (some b)) (.int kd k) true).run P w = .ok (.tuple #[v,.bool (rY l k).isSome]) w ∧ (Instr.lookup t (.map (some b)) (.int kd k) false).run P w = .ok v w:=by
 obtain ⟨i,zz,hi,hzz,hzr⟩:=ht.zero
 have hck:=fun e=>mW (P:=P) (w:=w) ht.key k e 9999
 rcases pe k he 0 with ⟨g1,g2⟩ | ⟨j,e,v,g1,g2,g3,g4,g5,g6⟩
 ·have hf:=iY (P:=P) (w:=w) ht.key g2
  have hzv:=Dl (P:=P) (w:=w) hi hzz
  refine ⟨zz,by rw [g1]; exact hzr h,?_,?_⟩
  ·simp [Instr.lookup,run_underlying ht.und,MapKept.run_getObj_map hb,hck,hf,hzv,Result.andThen,g1]
  ·simp [Instr.lookup,run_underlying ht.und,MapKept.run_getObj_map hb,hck,hf,hzv,Result.andThen]
 ·have hf:=iY (P:=P) (w:=w) ht.key g5
  refine ⟨e.val,by rw [g3]; exact g4,?_,?_⟩
  ·simp [Instr.lookup,run_underlying ht.und,MapKept.run_getObj_map hb,hck,hf,Result.andThen,g3]
  ·simp [Instr.lookup,run_underlying ht.und,MapKept.run_getObj_map hb,hck,hf,Result.andThen]
theorem uh {kt et:TypeId} {kd:IntKind} {z:CP} {l:List (Int × BV)} {j:Nat} {k:Int} {r:BV} (ht:ve P t kt et kd z) (hx:s.ev x = some (.b (.row j))) (hk:lk s.own j = some (.mp (eM kd l))) (hy:s.ev y = some (.b (.one (.int kd k)))) (hr:(rY l k).getD (.one z) = r) :
  bY P E n ⟨dst,.lookup t x y false,ty,pos,after,g⟩ s (s.put n dst (.b r)) :=
 bY.val (o:=⟨dst,.lookup t x y false,ty,pos,after,g⟩) fun ac w h ρ hw hs=>by
  have hv:ac.eval x = ρ j:=(bC hs hx:BV.rel h ρ (.row j) _)
  obtain ⟨b,ms,clk,h1,h2,h3,h4⟩:=xB hw hk
  obtain ⟨v,g1,_,g2⟩:=yu ht h2 h3 k
  refine ⟨_,?_,hr ▸ g1⟩
  simp only [execOp,hv,h1,(cj hs hy).1]
  simp [g2]
theorem zF {kt et:TypeId} {k:Nat} (hu:P.underlying t = some (.map kt et)) (hfx:n.fix.contains k = false) (hnu:jo k s.own = true:=by rfl) :
  bY P E n ⟨dst,.makeMap t none,ty,pos,after,g⟩ s ((⟨eJ k s.slots,ins k (.mp []) s.own⟩:St).put n dst (.b (.row k))) :=
 bY.make (hfx:=hfx) (hnu:=hnu) (o:=⟨dst,.makeMap t none,ty,pos,after,g⟩) fun ac w h ρ hw hs=>by
  refine ⟨.map (some w.heap.size),.map (some w.heap.size),w.alloc (.map #[] 0),none,?_,fun b e=>by simp at e,by simp,rfl,rfl,fun b hb _=>heap_alloc_old w _ hb,⟨w.heap.size,#[],0,rfl,heap_alloc_new w _,.nil,fun e he=>by simp at he,by simp⟩,
   fun b e=>by simp [cq] at e; subst e; exact .inr (Nat.le_refl _),(eN _ _ _).symm⟩
  simp [execOp,Instr.makeMap,newObj,Sem.run,Result.andThen]
theorem WR.setMap {h:PH} {ρ:RM} {own:List (Nat × OC)} {w:World} (hw:WR E n own h ρ w) {k b:Nat} {es es':List (CP × BV)} {ms ms':Array MapEntry} {clk clk':Nat} (hk:lk own k = some (.mp es)) (hρ:ρ k = .map (some b))
  (hb:w.heap[b]? = some (.map ms clk)) (hr:jW h ρ es' ms'.toList) (ho:tZ clk' ms'.toList):WR E n (ins k (.mp es') own) h ρ { w with heap:=w.heap.setIfInBounds b (.map ms' clk') }:=by
 have hlt:b < w.heap.size:=by
  rcases Nat.lt_or_ge b w.heap.size with h | h
  ·exact h
  ·simp [Array.getElem?_eq_none h] at hb
 have hst:=hw.step (w':={ w with heap:=w.heap.setIfInBounds b (.map ms' clk') }) k (ρ k) (.mp es') (some b) (fun b' e=>by cases e; exact ⟨_,dl hk,by rw [hρ]; rfl⟩) (by simp) rfl rfl
  (fun b' _ hne=>by
   have:b ≠ b':=fun e=>hne (by rw [e])
   simp [Array.getElem?_setIfInBounds,this]) ⟨b,ms',clk',hρ,by simp [Array.getElem?_setIfInBounds,hlt],by rw [oB]; exact hr,ho⟩ (fun b' hb'=>by rw [hρ] at hb'; simp [cq] at hb'; exact .inl (by rw [hb'])) (.inl rfl) (.inl rfl)
 have:tx ρ k (ρ k) = ρ:=by funext j; simp only [tx]; split <;> simp_all
 rwa [this] at hst
theorem run_keyThatStays {w:World} {kd:IntKind} (k:Int):(Instr.keyThatStays (.int kd k) (.int kd k)).run P w = .ok (.int kd k) w:=by
 simp [Instr.keyThatStays,Instr.sameBits]
theorem x6 {h:PH} {ρ:RM} {w:World} {kt et:TypeId} {kd:IntKind} {z:CP} (ht:ve P t kt et kd z) {l:List (Int × BV)} {b:Nat} {ms:Array MapEntry} {clk:Nat}
  (hb:w.heap[b]? = some (.map ms clk)) (he:jW h ρ (eM kd l) ms.toList) (ho:tZ clk ms.toList) (k:Int) (hk:rW kd k) {v:BV} {u:Value} (hu:v.rel h ρ u) :
  ∃ ms' clk',(Instr.mapUpdate t (.map (some b)) (.int kd k) u).run P w = .ok () { w with heap:=w.heap.setIfInBounds b (.map ms' clk') } ∧ jW h ρ (eM kd (vH l k v)) ms'.toList ∧ tZ clk' ms'.toList:=by
 have hck:=mW (P:=P) (w:=w) ht.key k false 9999
 rcases pe k he 0 with ⟨g1,g2⟩ | ⟨j,e,v0,g1,g2,g3,g4,g5,g6⟩
 ·have hf:=iY (P:=P) (w:=w) ht.key g2
  refine ⟨ms.push { key:=.int kd k,val:=u,born:=clk },clk + 1,?_,?_,?_⟩
  ·simp [Instr.mapUpdate,run_underlying ht.und,MapKept.run_getObj_map hb,hck,hf,MapKept.run_setObj_map _ hb,Result.andThen]
  ·have e1:vH l k v = l ++ [(k,v)]:=by
    clear he hf g2
    induction l with
    | nil=>rfl
    | cons p r ih=>
     obtain ⟨a,c⟩:=p
     unfold rY at g1
     split at g1
     ·cases g1
     ·next hne=>unfold vH; rw [if_neg hne,ih g1]; rfl
   rw [e1]
   unfold eM
   rw [List.map_append,Array.toList_push]
   exact bT.append he (.cons ⟨⟨rfl,hk⟩,hu⟩ .nil)
  ·rw [Array.toList_push]
   refine ⟨fun e he'=>?_,?_⟩
   ·rcases List.mem_append.1 he' with h1 | h1
    ·have:=ho.1 e h1; omega
    ·rw [List.mem_singleton] at h1; subst h1; exact Nat.lt_succ_self _
   ·rw [List.map_append,List.nodup_append]
    refine ⟨ho.2,by simp,fun a ha b hb'=>?_⟩
    obtain ⟨e,he1,rfl⟩:=List.mem_map.1 ha
    have:=ho.1 e he1
    simp at hb'
    omega
 ·have hf:=iY (P:=P) (w:=w) ht.key g5
  have hj:j < ms.size:=by
   rcases Nat.lt_or_ge j ms.size with h | h
   ·exact h
   ·rw [List.getElem?_eq_none (by simpa using h)] at g1; cases g1
  have hje:ms[j]? = some e:=by simpa using g1
  have hks:=run_keyThatStays (P:=P) (w:=w) (kd:=kd) k
  refine ⟨ms.modify j fun e=>{ e with key:=.int kd k,val:=u },clk,?_,?_,?_⟩
  ·simp [Instr.mapUpdate,run_underlying ht.und,MapKept.run_getObj_map hb,hck,hf,hje,g2,hks,MapKept.run_setObj_map _ hb,Result.andThen]
  ·rw [g6]
   unfold eM
   rw [List.map_set,Array.toList_modify]
   have e1:ms.toList.modify j (fun e=>{ e with key:=.int kd k,val:=u }) = ms.toList.set j { e with key:=.int kd k,val:=u }:=by
    exact uD g1 _
   rw [e1]
   exact bT.set he j ⟨⟨rfl,hk⟩,hu⟩
  ·have e1:ms.toList.modify j (fun e=>{ e with key:=.int kd k,val:=u }) = ms.toList.set j { e with key:=.int kd k,val:=u }:=by
    exact uD g1 _
   have e2:(ms.toList.set j { e with key:=.int kd k,val:=u }).map (·.born) = ms.toList.map (·.born):=by
    rw [List.map_set]
    refine List.ext_getElem? fun i=>?_
    rw [List.getElem?_set]
    split
    ·next hij=>subst hij; rw [List.getElem?_map,g1]; simp [hj]
    ·rfl
   rw [Array.toList_modify,e1]
   refine ⟨fun e' he'=>?_,by rw [e2]; exact ho.2⟩
   have h1:e'.born ∈ ms.toList.map (·.born):=by rw [← e2]; exact List.mem_map_of_mem he'
   obtain ⟨e3,h2,h3⟩:=List.mem_map.1 h1
   rw [← h3]; exact ho.1 e3 h2
theorem op_mset {kt et:TypeId} {kd:IntKind} {z:CP} {l:List (Int × BV)} {j:Nat} {k:Int} {v:BV} (ht:ve P t kt et kd z) (hx:s.ev x = some (.b (.row j))) (hk:lk s.own j = some (.mp (eM kd l))) (hy:s.ev y = some (.b (.one (.int kd k)))) (hc:s.ev c = some (.b v)) :
  bY P E n ⟨none,.mapUpdate t x y c,ty,pos,after,g⟩ s ⟨s.slots,ins j (.mp (eM kd (vH l k v))) s.own⟩ :=
 bY.store (o:=⟨none,.mapUpdate t x y c,ty,pos,after,g⟩) rfl fun ac w h ρ hw hs=>by
  have hv:ac.eval x = ρ j:=(bC hs hx:BV.rel h ρ (.row j) _)
  obtain ⟨b,ms,clk,h1,h2,h3,h4⟩:=xB hw hk
  obtain ⟨hy1,hy2⟩:=cj hs hy
  have hcr:v.rel h ρ (ac.eval c):=bC hs hc
  obtain ⟨ms',clk',g1,g2,g3⟩:=x6 ht h2 h3 h4 k hy2 hcr
  refine ⟨_,?_,hw.setMap hk h1 h2 g2 g3⟩
  simp only [execOp,hv,h1,hy1]
  simp [g1]
theorem Av {kt et:TypeId} {kd:IntKind} {z:CP} {l:List (Int × BV)} {j:Nat} {k:Int} {v:BV} (ht:ve P t kt et kd z) (hx:s.ev x = some (.b (.row j))) (hk:lk s.own j = some (.mp (eM kd l))) (hy:s.ev y = some (.b (.one (.int kd k)))) (hc:s.ev c = some (.b v)) :
  bY P E n ⟨none,.insert t x y c,ty,pos,after,g⟩ s ⟨s.slots,ins j (.mp (eM kd (vH l k v))) s.own⟩ :=
 op_mset (ty:=ty) (pos:=pos) (after:=after) (g:=g) ht hx hk hy hc
end
end Go.Sk
namespace Go.Sk
set_option linter.unusedSimpArgs false
set_option linter.unusedVariables false
open Go Go.BigFrame
section
variable {P:Program} {TB:cG} {E:Env TB} {n:Sh} {s s':St} {dst:Option Nat} {t ty yt:TypeId} {pos:String} {after:Array Edge} {g:Option (Nat × Bool)} {x y c:Operand} {ops:Array Oper} {l:List Oper} {Q:fi} {a b:Code}
theorem ad.ite {α:Type} {d:Bool} {A B:Option α} {r:α} (h:(if d = true then A else B) = some r) (h1:d = true → A = some r → ad P E n ops l s Q) (h2:d = false → B = some r → ad P E n ops l s Q):ad P E n ops l s Q:=by
 cases d
 ·exact h2 rfl h
 ·exact h1 rfl h
theorem ab.Ae {k:Nat} (hs:s.get k = some (.b (.one (.bool true)))) (h:ab P E n a s Q):ab P E n (.cond (.tmp k) a b) s Q:=ab.cond hs (fun _=>h) (fun e=>by cases e)
theorem ab.xj {k:Nat} (hs:s.get k = some (.b (.one (.bool false)))) (h:ab P E n b s Q):ab P E n (.cond (.tmp k) a b) s Q:=ab.cond hs (fun e=>by cases e) (fun _=>h)
theorem o9 {e:TypeId} {m:Nat} {ps:List CP} {p:CP} {k:IntKind} {i:Int} (ht:mC P t e m 1) (h1:fG P e) (hx:s.ev x = some (.b (.agg ps))) (hy:s.ev y = some (.b (.one (.int k i)))) (h0:0 ≤ i) (hi:i < m) (hp:ps[i.toNat]? = some p) :
  bY P E n ⟨dst,.index t x y,ty,pos,after,g⟩ s (s.put n dst (.b (.one p))) :=
 bY.val (o:=⟨dst,.index t x y,ty,pos,after,g⟩) fun ac w h ρ hw hs=>by
  obtain ⟨cs,hv,ha⟩:=(bC hs hx:BV.rel h ρ (.agg ps) _)
  obtain ⟨u,hu,hr⟩:=ha.get _ p hp
  have hcu:cs[i.toNat * 1]? = some u:=by rw [Nat.mul_one]; simpa using hu
  obtain ⟨inf,hin,hsz⟩:=ht.info
  refine ⟨u,?_,hr⟩
  have hpt:=jD h1 (A:=cs) (off:=i.toNat * 1) (v:=u) hcu w
  simp only [execOp,hv,(cj hs hy).1]
  simp [Instr.index,run_underlying ht.und,asIntOf,h0,hi,sizeOf,typeInfo,hin,hsz] at hpt ⊢
  simp [hpt]
theorem yn {e:TypeId} {m size:Nat} {ps qs:List CP} {k:IntKind} {i:Int} (ht:mC P t e m size) (h1:gJ P e size) (hx:s.ev x = some (.b (.agg ps))) (hy:s.ev y = some (.b (.one (.int k i)))) (h0:0 ≤ i) (hi:i < m) (hq:(ps.drop (i.toNat * size)).take size = qs) :
  bY P E n ⟨dst,.index t x y,ty,pos,after,g⟩ s (s.put n dst (.b (.agg qs))) :=
 bY.val (o:=⟨dst,.index t x y,ty,pos,after,g⟩) fun ac w h ρ hw hs=>by
  obtain ⟨cs,hv,ha⟩:=(bC hs hx:BV.rel h ρ (.agg ps) _)
  obtain ⟨inf,hin,hsz⟩:=ht.info
  have hr:bd h qs ((cs.toList.drop (i.toNat * size)).take size):=by rw [← hq]; exact bT.take (bT.drop ha _) size
  have hex:(cs.extract (i.toNat * size) (i.toNat * size + size)).toList = (cs.toList.drop (i.toNat * size)).take size:=by simp [List.take_drop]
  refine ⟨.agg (cs.extract (i.toNat * size) (i.toNat * size + size)),?_,_,rfl,by rw [hex]; exact hr⟩
  have hpt:=iB h1 (A:=cs) (off:=i.toNat * size) w
  simp only [execOp,hv,(cj hs hy).1]
  simp [Instr.index,run_underlying ht.und,asIntOf,h0,hi,sizeOf,typeInfo,hin,hsz] at hpt ⊢
  simp [hpt]
theorem uv {w:World} {ps rs:Array TypeId} {v:Bool} {u:Value} {b:Bool} (hu:P.underlying t = some (.func ps rs v)) (hv:(∃ f a c,u = .func f a c ∧ b = false) ∨ (u = .nilFunc ∧ b = true)) :
  (Op.equal t u .nilFunc).run P w = .ok b w:=by
 unfold Op.equal Op.maxDepth Op.equalIn
 rcases hv with ⟨f,a,c,rfl,rfl⟩ | ⟨rfl,rfl⟩ <;> simp [run_underlying hu,Result.andThen]
theorem vq {f:Nat} {fs cs:List CV} (hu:∃ ps rs v,P.underlying t = some (.func ps rs v)) (hx:s.ev x = some (.b (.pY f fs cs))) :
  bY P E n ⟨dst,.binOp .eql t x (.const .nilFunc) yt,ty,pos,after,g⟩ s (s.put n dst (B false)) :=
 bY.val (o:=⟨dst,.binOp .eql t x (.const .nilFunc) yt,ty,pos,after,g⟩) fun ac w h ρ hw hs=>by
  obtain ⟨_,_,_,hu⟩:=hu
  obtain ⟨va,vb,hv,_⟩:=(bC hs hx:BV.rel h ρ (.pY f fs cs) _)
  refine ⟨.bool false,?_,rfl⟩
  have:=uv (w:=w) (u:=ac.eval x) hu (.inl ⟨_,_,_,hv,rfl⟩)
  rw [hv] at this
  simp only [execOp,hv,show ac.eval (.const .nilFunc) = .nilFunc from rfl]
  simp [eqGuard,binOp,this]
theorem yp (hu:∃ ps rs v,P.underlying t = some (.func ps rs v)) (hx:s.ev x = some (.b (.one (.raw .nilFunc)))) :
  bY P E n ⟨dst,.binOp .eql t x (.const .nilFunc) yt,ty,pos,after,g⟩ s (s.put n dst (B true)) :=
 bY.val (o:=⟨dst,.binOp .eql t x (.const .nilFunc) yt,ty,pos,after,g⟩) fun ac w h ρ hw hs=>by
  obtain ⟨_,_,_,hu⟩:=hu
  have hv:ac.eval x = .nilFunc:=(bC hs hx:(CP.raw _).rel h _).1
  refine ⟨.bool true,?_,rfl⟩
  have:=uv (w:=w) (u:=ac.eval x) hu (.inr ⟨hv,rfl⟩)
  rw [hv] at this
  simp only [execOp,hv,show ac.eval (.const .nilFunc) = .nilFunc from rfl]
  simp [eqGuard,binOp,this]
theorem xA {a k:Int} {v z:BV} {r:List (Int × BV)} (h:decide (k = a) = true):(rY ((a,v) :: r) k).getD z = v:=by
 have e:k = a:=by simpa using h
 unfold rY; rw [if_pos e]; rfl
theorem sc {a k:Int} {v z q:BV} {r:List (Int × BV)} (h:decide (k = a) = false) (hr:(rY r k).getD z = q):(rY ((a,v) :: r) k).getD z = q:=by
 have e:¬ k = a:=by simpa using h
 unfold rY; rw [if_neg e]; exact hr
theorem xD {α:Type} {e:α → List CP} {sz:Nat} (hu:∀ x,(e x).length = sz) {z:α}:∀ {xs:List α} {i:Nat},xs[i]? = some z → ((xs.map e).flatten.drop (i * sz)).take sz = e z
 | [],i,h=>by simp at h
 | a :: xs,0,h=>by
  have e1:a = z:=by simpa using h
  subst e1
  rw [Nat.zero_mul,List.drop_zero,List.map_cons,List.flatten_cons,List.take_left' (hu a)]
 | a :: xs,i + 1,h=>by
  have h1:xs[i]? = some z:=by simpa using h
  have e1:(i + 1) * sz = (e a).length + i * sz:=by rw [hu a,Nat.add_mul]; omega
  rw [List.map_cons,List.flatten_cons,e1,← List.drop_drop,List.drop_left]
  exact xD hu h1
theorem ix_flat {α:Type} [Inhabited α] {xs:List α} {e:α → List CP} {sz:Nat} (hu:∀ x,(e x).length = sz) {i:Int} {z:α} (h:bB xs i = some z):((xs.map e).flatten.drop (i.toNat * sz)).take sz = e z:=xD hu (gf h)
theorem zG {gb m:Nat} {cs:List Value} {ps:List CP} (ht:gJ P t m) (hm:(gb,cs) ∈ TB) (hr:∀ h,bd h ps cs) (hl:cs.length = m) :
  bY P E n ⟨dst,.load t (.global gb),ty,pos,after,g⟩ s (s.put n dst (.b (.agg ps))) :=
 bY.val (o:=⟨dst,.load t (.global gb),ty,pos,after,g⟩) fun ac w h ρ hw hs=>by
  refine ⟨.agg cs.toArray,?_,_,rfl,by simpa using hr h⟩
  have:=kO ht (w:=w) (b:=gb) (o:=0) (cs:=cs) hl (fun j v hv=>by rw [Nat.zero_add]; exact hw.agree _ _ _ ((hw.bj gb cs hm).2.1 j v hv))
  simp only [execOp,show ac.eval (.global gb) = .pointer (some ⟨gb,0,none⟩) from rfl,Instr.loadAt,Instr.sureAddr]
  simp [this]
end
end Go.Sk
namespace Go.Sk
set_option linter.unusedSimpArgs false
set_option linter.unusedVariables false
open Go Go.ChangeShapes Go.WideShapes Go.ChangeAt Go.RowKit
def tH {H:Type}:Nat → DataW H → List Value
 | _,.lit (.int k n)=>[.int k n]
 | _,.lit (.string l)=>[.string ⟨⟨l⟩⟩]
 | n + 1,.agg ds=>(ds.map (tH n)).flatten
 | _,_=>[]
structure fO (P:Program) (t:TypeId) (n:Nat):Prop where
 op:∀ {H:Type} {enc:TypeId × Value → H} {W:World} {sp:Nat → Bool} {held:Bool} {fuel:Nat} {cs:List Value} {x:DataW H × List MemPlace},DataW.trod enc P W 0 sp held fuel t cs = some x → tH n x.1 = cs
theorem fO.int {P:Program} {t:TypeId} {k:IntKind} {n:Nat} (ht:P.underlying t = some (.int k)):fO P t n where
 op h:=by obtain ⟨m,rfl,rfl,_⟩:=DataW.trod_int ht h; cases n <;> rfl
theorem fO.str {P:Program} {t:TypeId} {n:Nat} (ht:P.underlying t = some .string):fO P t n where
 op h:=by
  obtain ⟨s,rfl,rfl,_⟩:=DataW.trod_string ht h
  cases s with | mk d=>cases d; cases n <;> rfl
inductive r9 (P:Program) (fs:Array Field) (T d:Nat):Nat → Nat → Prop where
 | nil {i:Nat} (hi:fs.size ≤ i):r9 P fs T d i T
 | cons {i o:Nat} {f:Field} (hf:fs[i]? = some f) (ho:f.offset = o) (hr:fO P f.type d) (h:r9 P fs T d (i + 1) (o + P.cellsOf f.type)):r9 P fs T d i o
theorem r9.op {P:Program} {fs:Array Field} {T d i o:Nat} (h:r9 P fs T d i o) {H:Type} {enc:TypeId × Value → H} {W:World} {sp:Nat → Bool} {held:Bool} {n:Nat} {cs:List Value} {xs:List (DataW H × List MemPlace)} (hl:cs.length = T)
  (hx:xs.length = fs.size) (hv:∀ (j:Nat) (f:Field),fs[j]? = some f → DataW.trod enc P W 0 sp held n f.type ((cs.drop f.offset).take (P.cellsOf f.type)) = xs[j]?):((xs.drop i).map fun x=>tH d x.1).flatten = cs.drop o:=by
 induction h with
 | nil hi=>rw [List.drop_of_length_le (by omega),List.drop_of_length_le (by omega)]; rfl
 | @cons i o f hf ho hr h ih=>
  have hi:i < xs.length:=by
   rw [hx]
   exact (Array.getElem?_eq_some_iff.1 hf).1
  have h1:=hv i f hf
  rw [List.getElem?_eq_getElem hi] at h1
  have h2:=hr.op h1
  rw [List.drop_eq_getElem_cons hi,List.map_cons,List.flatten_cons,ih,h2,ho,← List.drop_drop,List.take_append_drop]
theorem fO.struct {P:Program} {t:TypeId} {fs:Array Field} (ht:P.underlying t = some (.struct fs)) {d:Nat} (h:r9 P fs (P.cellsOf t) d 0 0):fO P t (d + 1) where
 op hd:=by
  obtain ⟨xs,m,_,rfl,hl,hlen,hf⟩:=DataW.trod_struct ht hd
  have:=h.op (xs:=xs) hl hlen hf
  simp only [tH,List.map_map]
  rw [List.drop_zero,List.drop_zero] at this
  exact this
theorem xT {sz:Nat}:∀ {n:Nat} {cs:List Value},cs.length = n * sz → ((List.range n).map fun i=>(cs.drop (i * sz)).take sz).flatten = cs
 | 0,cs,h=>by
  rw [Nat.zero_mul] at h
  rw [List.length_eq_zero_iff.1 h]; rfl
 | n + 1,cs,h=>by
  have h2:(cs.drop sz).length = n * sz:=by rw [List.length_drop,h,Nat.add_mul]; omega
  have ih:=xT h2
  rw [List.range_succ_eq_map,List.map_cons,List.flatten_cons,Nat.zero_mul,List.drop_zero,List.map_map]
  have e:((fun i=>(cs.drop (i * sz)).take sz) ∘ Nat.succ) = fun i=>((cs.drop sz).drop (i * sz)).take sz:=by
   funext i
   simp only [Function.comp,List.drop_drop,Nat.succ_mul,Nat.add_comm sz]
  rw [e,ih,List.take_append_drop]
theorem fO.arr {P:Program} {t e:TypeId} {n d:Nat} (ht:P.underlying t = some (.array n e)) (hc:P.cellsOf t = n * P.cellsOf e) (he:fO P e d):fO P t (d + 1) where
 op {H enc W sp held fuel cs x} h:=by
  cases fuel with
  | zero=>simp [DataW.trod] at h
  | succ fuel=>
   simp only [DataW.trod,ht] at h
   split at h
   ·rename_i hl
    obtain ⟨xs,hm,rfl⟩:=Option.map_eq_some_iff.1 h
    have hxl:xs.length = n:=by simpa using Lib.mapM_length hm
    simp only [tH,List.map_map]
    have e1:(xs.map (tH d ∘ fun x=>x.1)) = (List.range n).map fun i=>(cs.drop (i * P.cellsOf e)).take (P.cellsOf e):=by
     refine List.ext_getElem? fun i=>?_
     by_cases hi:i < n
     ·obtain ⟨b,hb,hf⟩:=Lib.mapM_at hm i i (by simp [hi])
      rw [List.getElem?_map,hb,List.getElem?_map,List.getElem?_range hi]
      simp only [Option.map_some,Function.comp]
      rw [he.op hf]
     ·rw [List.getElem?_eq_none (by simp; omega),List.getElem?_eq_none (by simp; omega)]
    rw [e1,xT (by rw [hl,hc])]
   ·cases h
theorem dR.consV {P:Program} {TB:cG} {W:World} {name:String} {d:DataW Unit} {rest:List (String × DataW Unit)} {cs:List Value} {g n:Nat} {t:TypeId} (hg:P.globalNamed name = some g) (hty:(P.globals[g]?).map (·.type) = some t) (ht:fO P t n) (h:laidMet P ((name,d) :: rest) W) (hd:tH n d = cs) (h0:0 < cs.length) (r:dR TB (Go.Sk.full W) W):dR ((g,cs) :: TB) (Go.Sk.full W) W:=fun g' cs' hm=>by
 rcases List.mem_cons.1 hm with e | hm
 ·obtain ⟨rfl,rfl⟩:=Prod.mk.inj e
  obtain ⟨ps,⟨g2,t',vs,fuel,p,q,hg',ht',hvar,hdd,_,_⟩,_⟩:=h
  obtain rfl:=Option.some.inj (hg.symm.trans hg')
  obtain rfl:=Option.some.inj (hty.symm.trans ht')
  have e2:=ht.op hdd
  rw [hd] at e2
  unfold World.var? at hvar
  rw [hg] at hvar
  simp only [Option.bind_some] at hvar
  split at hvar
  ·next cs T fz hh=>
   have:=Option.some.inj hvar
   subst this
   subst e2
   refine ⟨h0,fun o v hv=>?_,T,fz,by simpa using hh⟩
   show World.cell? W ⟨_,o,none⟩ = some v
   simp only [World.cell?,hh]
   simpa using hv
  ·simp at hvar
 ·exact r g' cs' hm
end Go.Sk
