/- the plain law -/
import Derived.Test.YtgojigdbelkgoaaW2
namespace Go.Proofs.Ytgojigdbelkgoaa
open Go Go.Sk
set_option maxRecDepth 100000
set_option linter.unusedVariables false
set_option linter.unusedSimpArgs false
def og (x:Int):List Int → List Int
 | []=>[x]
 | y :: l=>if x ≤ y then x :: y :: l else y :: og x l
def mE:List Int → List Int
 | []=>[]
 | x :: l=>og x (mE l)
theorem lg (x:Int):∀ l:List Int,(og x l).Perm (x :: l)
 | []=>.refl _
 | y :: l=>by
  unfold og
  split
  ·exact .refl _
  ·exact .trans (.cons y (lg x l)) (.swap x y l)
theorem mb:∀ l:List Int,(mE l).Perm l
 | []=>.refl _
 | x :: l=>(lg x (mE l)).trans (.cons x (mb l))
theorem pk (x:Int):∀ l:List Int,l.Pairwise (· ≤ ·) → (og x l).Pairwise (· ≤ ·)
 | [],_=>by simp [og]
 | y :: l,h=>by
  unfold og
  have h1:=List.pairwise_cons.1 h
  split
  ·next hc=>
   refine List.pairwise_cons.2 ⟨fun z hz=>?_,h⟩
   rcases List.mem_cons.1 hz with rfl | hz
   ·exact hc
   ·exact Int.le_trans hc (h1.1 z hz)
  ·next hc=>
   refine List.pairwise_cons.2 ⟨fun z hz=>?_,pk x l h1.2⟩
   rcases List.mem_cons.1 ((lg x l).mem_iff.1 hz) with rfl | hz
   ·omega
   ·exact h1.1 z hz
theorem nS:∀ l:List Int,(mE l).Pairwise (· ≤ ·)
 | []=>.nil
 | x :: l=>pk x _ (nS l)
theorem sorted_perm (l:List Int):(sorted l).Perm l:=List.mergeSort_perm _ _
theorem pv (l:List Int):(sorted l).Pairwise (· ≤ ·) :=
 (List.pairwise_mergeSort (le:=fun x y:Int=>decide (x ≤ y)) (fun a b c h1 h2=>by simp only [decide_eq_true_eq] at *; omega) (fun a b=>by simp only [Bool.or_eq_true,decide_eq_true_eq]; omega) l).imp fun h=>of_decide_eq_true h
theorem px (l:List Int):sorted l = mE l :=
 List.Perm.eq_of_pairwise (fun a b _ _ h1 h2=>Int.le_antisymm h1 h2) (pv l) (nS l) ((sorted_perm l).trans (mb l).symm)
def sort2 (F:Nat) (zs:List Int):Option (List Int):=if zs.length < 1000000000 then some (mE zs) else none
theorem sort_eq:cz = sort2:=by
 funext F zs
 unfold cz iN sort2
 rw [px]
theorem k3:bw 2000 = some true:=by
 unfold bw eH dK fi dO eG cR dJ bo ck
 rw [sort_eq]
 decide +kernel
end Go.Proofs.Ytgojigdbelkgoaa
namespace Go.Proofs.Ytgojigdbelkgoaa
open Go Go.Sk
set_option linter.unusedVariables false
set_option linter.unusedSimpArgs false
section
variable {F:Nat} (hF:F ≤ 1000000000)
include hF
end
theorem asd_cls {P D:_} {s:List (List Int)} {B:List Int} (h:IsPt P D s) (hB:∀ a,D a → a ∈ B) {c:List Int} (hc:c ∈ s):c.length ≤ B.length :=
 asd_len (h.asd c hc).2 fun a ha=>hB a ((h.dom a).2 ⟨c,hc,ha⟩)
theorem pt_len {P D:_} {s:List (List Int)} {B:List Int} (h:IsPt P D s) (hB:∀ a,D a → a ∈ B):s.length ≤ B.length:=by
 have:(s.map hd).Nodup:=List.pairwise_map.2 (List.Pairwise.imp_of_mem (fun {c d} hc hd' h' e=>h' _ (m5 (h.asd c hc).1) (e ▸ m5 (h.asd d hd').1)) h.dj)
 have h2:=oq (m:=B) this fun a ha=>by
  obtain ⟨c,hc,rfl⟩:=List.mem_map.1 ha
  exact hB _ ((h.dom _).2 ⟨c,hc,m5 (h.asd c hc).1⟩)
 simpa using h2
end Go.Proofs.Ytgojigdbelkgoaa
namespace Go.Proofs.Ytgojigdbelkgoaa
open Go Go.Sk
set_option linter.unusedVariables false
set_option linter.unusedSimpArgs false
def aj (m:a6):List Int:=m.map (·.1)
def cnt (m:a6) (x:Int):Nat:=((aj m).filter fun z=>decide (z < x)).length
theorem cnt_le (m:a6) (x:Int):cnt m x ≤ m.length:=by
 unfold cnt aj; refine Nat.le_trans (List.length_filter_le _ _) ?_; simp
theorem cnt_lt {m:a6} {u x:Int} (hu:cg m u = true) (h:u < x):cnt m u < cnt m x:=by
 have hm:=(gT u m).1 hu
 unfold cnt
 have:∀ ks:List Int,(∀ z,z ∈ ks → True) → (ks.filter fun z=>decide (z < u)).length ≤ (ks.filter fun z=>decide (z < x)).length ∧ (u ∈ ks → (ks.filter fun z=>decide (z < u)).length < (ks.filter fun z=>decide (z < x)).length):=fun ks _=>by
  induction ks with
  | nil=>simp
  | cons a ks ih=>
   have ih:=ih (fun _ _=>trivial)
   simp only [List.filter_cons,List.mem_cons]
   by_cases h1:a < u
   ·have h2:a < x:=by omega
    simp only [h1,h2,decide_true,if_true,List.length_cons]
    refine ⟨by omega,?_⟩
    rintro (rfl | h')
    ·omega
    ·have:=ih.2 h'; omega
   ·by_cases h2:a < x
    ·simp only [h1,h2,decide_true,decide_false,if_true,List.length_cons]
     refine ⟨by have:=ih.1; simp; omega,fun _=>by have:=ih.1; simp; omega⟩
    ·simp only [h1,h2,decide_false]
     refine ⟨by simpa using ih.1,?_⟩
     rintro (rfl | h')
     ·omega
     ·simpa using ih.2 h'
 exact (this (aj m) fun _ _=>trivial).2 hm
theorem o1 {F:Nat}:∀ (n:Nat) {m:a6} {r:Int → Int} {x:Int},kN m r → cnt m x < n → aN (bU F n x m) fun z=>z.1 = r x ∧ kN z.2 r ∧ aj z.2 = if cg m x then aj m else aj m ++ [x]
 | 0,m,r,x,h,hn=>by omega
 | n + 1,m,r,x,h,hn=>by
  show aN (if (!(cg m x)) = true then _ else _) _
  refine aN.ite (fun hc=>?_) fun hc=>?_
  ·have hc:cg m x = false:=by simpa using hc
   refine aN.some ⟨(h.out x hc).symm,h.add hc,?_⟩
   simp only [aj]
   rw [gY]
  ·have hc:cg m x = true:=by simpa using hc
   refine aN.ite (fun he=>aN.some ⟨(h.fix x hc (of_decide_eq_true he)).symm,h,by simp [hc]⟩) fun he=>?_
   have he:=of_decide_eq_false he
   have hu:=h.has x hc
   have hl:bX m x < x:=by have:=h.le x hc; omega
   refine aN.bind (o1 n (x:=bX m x) h (by have:=cnt_lt hu hl; omega)) ?_
   rintro ⟨a,m'⟩ ⟨h1,h2,h3⟩
   simp only at h1 h2 h3
   rw [hu,if_pos rfl] at h3
   have e:a = r x:=by rw [h1,h.step x hc]
   have hx':cg m' x = true:=by rw [gT]; show x ∈ aj m'; rw [h3]; exact (gT x m).1 hc
   refine aN.some ⟨e,?_,?_⟩
   ·simp only; rw [e]; exact h2.short hx'
   ·simp only [aj]
    rw [gY,hx',hc]
    exact h3
theorem gb {m:a6} {x:Int}:cg m x = true ↔ x ∈ aj m:=gT x m
theorem mX {F:Nat} {m:a6} {r:Int → Int} {x:Int} (h:kN m r) (hF:m.length < F):aN (bp F x m) fun z=>z.1 = r x ∧ kN z.2 r ∧ (∀ y,y ∈ aj z.2 ↔ y = x ∨ y ∈ aj m) ∧ z.2.length ≤ m.length + 1 ∧ (cg m x = true → aj z.2 = aj m):=by
 refine (o1 F h (by have:=cnt_le m x; omega)).mono ?_
 rintro ⟨a,m'⟩ ⟨h1,h2,h3⟩
 simp only at h1 h2 h3 ⊢
 have hl:(aj m').length = m'.length:=by simp [aj]
 have hl2:(aj m).length = m.length:=by simp [aj]
 refine ⟨h1,h2,fun y=>?_,?_,fun hh=>by rw [h3,hh]; rfl⟩
 ·rw [h3]
  split
  ·next hc=>
   constructor
   ·exact .inr
   ·rintro (rfl | h)
    ·exact gb.1 hc
    ·exact h
  ·simp [or_comm]
 ·rw [← hl,h3]; split <;> simp [hl2]
theorem join_S {F:Nat} {m:a6} {r:Int → Int} {x y:Int} (h:kN m r) (hF:m.length + 1 < F):aN (bC F x y m) fun z=>z.1 = decide (r x ≠ r y) ∧ kN z.2 (jn r x y) ∧ (∀ u,u ∈ aj z.2 ↔ u = x ∨ u = y ∨ u ∈ aj m) ∧ z.2.length ≤ m.length + 2:=by
 unfold bC
 refine aN.bind (mX h (by omega)) ?_
 rintro ⟨a,m1⟩ ⟨rfl,h1,k1,l1,_⟩
 simp only at h1 k1 l1 ⊢
 refine aN.bind (mX h1 (by simp only; omega)) ?_
 rintro ⟨b,m2⟩ ⟨rfl,h2,k2,l2,_⟩
 simp only at h2 k2 l2 ⊢
 have kk:∀ u,u ∈ aj m2 ↔ u = x ∨ u = y ∨ u ∈ aj m:=fun u=>by
  rw [k2,k1]; constructor
  ·rintro (h | h | h)
   ·exact .inr (.inl h)
   ·exact .inl h
   ·exact .inr (.inr h)
  ·rintro (h | h | h)
   ·exact .inr (.inl h)
   ·exact .inl h
   ·exact .inr (.inr h)
 refine aN.ite (fun hc=>?_) fun hc=>?_
 ·have hc:r x = r y:=of_decide_eq_true hc
  have ej:jn r x y = r:=funext fun z=>by unfold jn; rw [hc,Int.max_self,Int.min_self]; split <;> simp_all
  rw [ej]
  exact aN.some ⟨by simp [hc],h2,kk,by simp only; omega⟩
 ·have hc:r x ≠ r y:=of_decide_eq_false hc
  have hx:cg m2 x = true:=gb.2 ((kk x).2 (.inl rfl))
  have hy:cg m2 y = true:=gb.2 ((kk y).2 (.inr (.inl rfl)))
  have hM:cg m2 (max (r x) (r y)) = true:=by
   have a:=(h2.low x hx).2.1
   have b:=(h2.low y hy).2.1
   by_cases hl:r x ≤ r y
   ·rw [Int.max_eq_right hl]; exact b
   ·rw [Int.max_eq_left (by omega)]; exact a
  have ek:aj (cT m2 (max (r x) (r y)) (min (r x) (r y))) = aj m2:=by
   unfold aj; rw [gY,hM]; rfl
  refine aN.some ⟨by simp [hc],h2.join hx hy hc,fun u=>by simp only; rw [ek]; exact kk u,?_⟩
  have:(aj (cT m2 (max (r x) (r y)) (min (r x) (r y)))).length = (aj m2).length:=by rw [ek]
  simp only [aj,List.length_map] at this
  simp only; omega
def dM (ps:List (Int × Int)):Int → Int:=ps.foldl (fun r p=>jn r p.1 p.2) fun x=>x
theorem k4 (ps:List (Int × Int)) (x y:Int):dM (ps ++ [(x,y)]) = jn (dM ps) x y:=by simp [dM]
theorem pA (ps:List (Int × Int)) (z:Int):dM ps (dM ps z) = dM ps z:=by
 have:∀ (ps:List (Int × Int)) (r:Int → Int),(∀ z,r (r z) = r z) → ∀ z,ps.foldl (fun r p=>jn r p.1 p.2) r (ps.foldl (fun r p=>jn r p.1 p.2) r z) = ps.foldl (fun r p=>jn r p.1 p.2) r z:=fun ps=>by
  induction ps with
  | nil=>exact fun r h=>h
  | cons p ps ih=>exact fun r h=>ih _ (jn_idem h p.1 p.2)
 exact this ps _ (fun _=>rfl) z
theorem qH:∀ (ps:List (Int × Int)) (a b:Int),dM ps a = dM ps b ↔ gE (fun u v=>(u,v) ∈ ps) a b:=fun ps=>by
 have key:∀ (qs:List (Int × Int)),(∀ a b,dM qs a = dM qs b ↔ gE (fun u v=>(u,v) ∈ qs) a b) → ∀ ps a b,dM (qs ++ ps) a = dM (qs ++ ps) b ↔ gE (fun u v=>(u,v) ∈ qs ++ ps) a b:=fun qs h ps=>by
  induction ps generalizing qs with
  | nil=>simpa using h
  | cons p ps ih=>
   have e:qs ++ p :: ps = (qs ++ [p]) ++ ps:=by simp
   rw [e]
   refine ih _ fun a b=>?_
   rw [show p = (p.1,p.2) from rfl,k4,jn_con (pA qs) h]
   refine gE.congr (fun u v h=>.of ?_) (fun u v h=>.of ?_) a b
   ·rcases h with h | ⟨rfl,rfl⟩ <;> simp_all
   ·rcases List.mem_append.1 h with h | h
    ·exact .inl h
    ·have:=List.mem_singleton.1 h; simp only [Prod.mk.injEq] at this; exact .inr this
 refine key [] (fun a b=>?_) ps
 refine ⟨fun h=>by show gE _ a b; have:a = b:=h; rw [this]; exact .rfl b,fun h=>?_⟩
 refine h.lift (E:=fun a b=>dM [] a = dM [] b) (fun _=>rfl) (fun _ _ h=>h.symm) (fun _ _ _ h1 h2=>h1.trans h2) fun a b h=>by cases h
structure St (m:a6) (ps:List (Int × Int)):Prop where
 up:kN m (dM ps)
 keys:∀ u,u ∈ aj m ↔ ∃ p ∈ ps,u = p.1 ∨ u = p.2
 len:m.length ≤ 2 * ps.length
theorem St.nil:St [] []:=⟨kN.nil,by simp [aj],by simp⟩
theorem St.join {F:Nat} {m:a6} {ps:List (Int × Int)} {x y:Int} (h:St m ps) (hF:2 * ps.length + 1 < F):aN (bC F x y m) fun z=>z.1 = decide (dM ps x ≠ dM ps y) ∧ St z.2 (ps ++ [(x,y)]):=by
 refine (join_S h.up (x:=x) (y:=y) (by have:=h.len; omega)).mono ?_
 rintro ⟨b,m'⟩ ⟨h1,h2,h3,h4⟩
 refine ⟨h1,by rw [k4]; exact h2,fun u=>?_,by have:=h.len; simp at h4 ⊢; omega⟩
 rw [h3,h.keys]
 constructor
 ·rintro (h | h | ⟨p,hp,h⟩)
  ·exact ⟨(x,y),by simp,.inl h⟩
  ·exact ⟨(x,y),by simp,.inr h⟩
  ·exact ⟨p,by simp [hp],h⟩
 ·rintro ⟨p,hp,h⟩
  rcases List.mem_append.1 hp with hp | hp
  ·exact .inr (.inr ⟨p,hp,h⟩)
  ·rw [List.mem_singleton.1 hp] at h
   rcases h with h | h
   ·exact .inl h
   ·exact .inr (.inl h)
structure Row (r:Int → Int) (ts:List Int) (at':a6) (out:List (List Int)):Prop where
 len:out.length = (ts.filter fun x=>decide (r x = x)).length
 get:∀ j (h:j < (ts.filter fun x=>decide (r x = x)).length),out[j]? = some (ts.filter fun z=>decide (r z = (ts.filter fun x=>decide (r x = x))[j])) ∧ bX at' ((ts.filter fun x=>decide (r x = x))[j]) = (j:Int)
theorem Row.eq {r:Int → Int} {ts:List Int} {at':a6} {out:List (List Int)} (h:Row r ts at' out):out = canon r ts:=by
 refine List.ext_getElem? fun j=>?_
 unfold canon
 by_cases hj:j < (ts.filter fun x=>decide (r x = x)).length
 ·rw [(h.get j hj).1,List.getElem?_map,List.getElem?_eq_getElem hj]; rfl
 ·rw [List.getElem?_eq_none (by have:=h.len; omega),List.getElem?_eq_none (by rw [List.length_map]; omega)]
theorem Row.step {r:Int → Int} {ts:List Int} {at':a6} {out:List (List Int)} (h:Row r ts at' out) {x:Int} (hx:∀ t ∈ ts,t < x) (hle:∀ z,r z ≤ z) (hi:∀ z,r (r z) = r z) (hr:r x = x ∨ r x ∈ ts) :
  ∃ at2 o2,(at2,o2) = (if r x = x then (cT at' x (out.length:Int),out ++ [[]]) else (at',out)) ∧ ∃ k:Nat,bX at2 (r x) = (k:Int) ∧ k < o2.length ∧ ∃ row,o2[k]? = some row ∧ Row r (ts ++ [x]) at2 (o2.set k (row ++ [x])):=by
 rcases hr with hr | hr
 ·refine ⟨cT at' x (out.length:Int),out ++ [[]],by rw [if_pos hr],out.length,by rw [hr,bS,if_pos rfl],by simp,[],by simp,?_⟩
  have e:(ts ++ [x]).filter (fun y=>decide (r y = y)) = ts.filter (fun y=>decide (r y = y)) ++ [x]:=by simp [List.filter_append,hr]
  have hno:ts.filter (fun z=>decide (r z = x)) = []:=by
   rw [List.filter_eq_nil_iff]
   intro z hz
   have:=hx z hz; have:=hle z
   simp only [decide_eq_true_eq]; omega
  refine ⟨by rw [e]; simp [h.len],fun j hj=>?_⟩
  simp only [e,List.length_append,List.length_singleton] at hj
  by_cases hj2:j < (ts.filter fun y=>decide (r y = y)).length
  ·have hm:(ts.filter fun y=>decide (r y = y))[j] ∈ ts:=(List.mem_filter.1 (List.getElem_mem hj2)).1
   have hne:(ts.filter fun y=>decide (r y = y))[j] ≠ x:=Int.ne_of_lt (hx _ hm)
   simp only [e,List.getElem_append_left hj2]
   obtain ⟨h1,h2⟩:=h.get j hj2
   have hjl:j < out.length:=by have:=h.len; omega
   refine ⟨?_,by rw [bS,if_neg hne]; exact h2⟩
   rw [List.getElem?_set,if_neg (by omega),List.getElem?_append_left hjl,h1,List.filter_append]
   have:¬ r x = (ts.filter fun y=>decide (r y = y))[j]:=by rw [hr]; exact fun e=>hne e.symm
   simp [this]
  ·have hj3:j = (ts.filter fun y=>decide (r y = y)).length:=by omega
   subst hj3
   have eg:∀ hh,((ts ++ [x]).filter fun y=>decide (r y = y))[(ts.filter fun y=>decide (r y = y)).length]'hh = x:=fun hh=>by
    simp only [e,List.getElem_append_right (Nat.le_refl _),Nat.sub_self]; rfl
   rw [eg]
   refine ⟨?_,by rw [bS,if_pos rfl,h.len]⟩
   rw [List.getElem?_set,if_pos (by rw [h.len]),if_pos (by simp [h.len]),List.filter_append,hno]
   simp [hr]
 ·have hne:r x ≠ x:=fun e=>by have:=hx _ hr; omega
  have hm:r x ∈ ts.filter fun y=>decide (r y = y):=List.mem_filter.2 ⟨hr,by simpa using hi x⟩
  obtain ⟨k,hk,ek⟩:=List.getElem_of_mem hm
  obtain ⟨h1,h2⟩:=h.get k hk
  have hkl:k < out.length:=by have:=h.len; omega
  refine ⟨at',out,by rw [if_neg hne],k,by rw [← ek]; exact h2,hkl,_,h1,?_⟩
  have e:(ts ++ [x]).filter (fun y=>decide (r y = y)) = ts.filter (fun y=>decide (r y = y)):=by simp [List.filter_append,hne]
  refine ⟨by rw [e,List.length_set,h.len],fun j hj=>?_⟩
  simp only [e] at hj ⊢
  obtain ⟨g1,g2⟩:=h.get j hj
  refine ⟨?_,g2⟩
  rw [List.getElem?_set,List.filter_append]
  by_cases hjk:k = j
  ·subst hjk
   have:r x = (ts.filter fun y=>decide (r y = y))[k]:=ek.symm
   rw [if_pos rfl,if_pos hkl]
   simp [this]
  ·rw [if_neg hjk,g1]
   have hnd:(ts.filter fun y=>decide (r y = y))[j] ≠ r x:=fun e2=>by
    have:=(h.get j hj).2
    rw [e2,← ek,h2] at this
    omega
   have:¬ r x = (ts.filter fun y=>decide (r y = y))[j]:=fun e=>hnd e.symm
   simp [this]
theorem sets_S {F:Nat} (hF:F ≤ 100000000) {m:a6} {r:Int → Int} (h:kN m r) (hl:m.length < F):aN (bo F m) fun z=>z.1 = canon r (sorted (aj m)) ∧ kN z.2 r ∧ aj z.2 = aj m:=by
 unfold bo
 have hkl:(aj m).length = m.length:=by simp [aj]
 refine aN.dp (x:=aj m) (by unfold lS; rw [if_pos (by omega)]; rfl) (aN.dp (x:=sorted (aj m)) (by unfold cz iN; rw [if_pos (by omega)]) ?_)
 have hsl:(sorted (aj m)).length = m.length:=by rw [(lU _).length_eq,hkl]
 have hasd:Asd (sorted (aj m)):=oZ h.nd
 refine aN.bind (P:=fun z:List (List Int) × a6=>z.1 = canon r (sorted (aj m)) ∧ kN z.2 r ∧ aj z.2 = aj m) ?_ fun z hz=>aN.some hz
 refine aN.ea4 (I:=fun pre up at' out=>kN up r ∧ aj up = aj m ∧ Row r pre at' out) (by omega) (by omega) ⟨h,rfl,by simp,by simp⟩ ?_ fun up at' out hI=>⟨hI.2.2.eq,hI.1,hI.2.1⟩
 rintro pre x post up at' out e hx ⟨h1,h2,h3⟩
 have hul:up.length = m.length:=by rw [← hkl,← h2]; simp [aj]
 have hxs:x ∈ sorted (aj m):=by rw [e]; simp
 have hxk:cg up x = true:=gb.2 (by rw [h2]; exact ku.1 hxs)
 have hlt:∀ t ∈ pre,t < x:=fun t ht=>(List.pairwise_append.1 (e ▸ hasd)).2.2 t ht x (List.mem_cons_self ..)
 have hr:r x = x ∨ r x ∈ pre:=by
  by_cases hc:r x = x
  ·exact .inl hc
  ·have hm:r x ∈ sorted (aj m):=ku.2 (by rw [← h2]; exact gb.1 (h1.low x hxk).2.1)
   rw [e] at hm
   have hlx:r x < x:=by have:=h.rle x; omega
   rcases List.mem_append.1 hm with hm | hm
   ·exact .inr hm
   ·rcases List.mem_cons.1 hm with hm | hm
    ·exact absurd hm hc
    ·have:=(List.pairwise_cons.1 (List.pairwise_append.1 (e ▸ hasd)).2.1).1 _ hm
     omega
 have hol:out.length ≤ pre.length:=by rw [h3.len]; exact List.length_filter_le _ _
 have hpl:pre.length < m.length:=by rw [← hsl,e]; simp
 refine aN.bind (P:=fun z:a6 × a6 × List (List Int)=>kN z.1 r ∧ aj z.1 = aj m ∧ Row r (pre ++ [x]) z.2.1 z.2.2) ?_ fun z hz=>aN.some (.inl ⟨_,_,_,rfl,hz⟩)
 refine aN.dp hx (aN.bind (mX h1 (by omega)) ?_)
 rintro ⟨a,up2⟩ ⟨rfl,g1,_,_,g2⟩
 simp only at g1 g2 ⊢
 obtain ⟨at2,o2,e2,k,hk,hk2,row,hrow,hR⟩:=h3.step hlt h.rle h.idem hr
 have hbl:out.length + 1 ≤ 1000000000:=by omega
 refine aN.bind (P:=(· = (at2,o2))) ?_ ?_
 ·rw [e2]
  refine aN.ite (fun hc=>?_) fun hc=>?_
  ·have hc:=of_decide_eq_true hc
   exact aN.app (by simp only [List.length_singleton]; omega) (aN.some (by rw [if_pos hc]))
  ·have hc:=of_decide_eq_false hc
   exact aN.some (by rw [if_neg hc])
 ·rintro z rfl
  simp only
  have hix:aM o2 (bX at2 (r x)) = some row:=by
   rw [hk,dE (by omega) (by omega),ig _ _ hk2]
   rw [List.getElem?_eq_getElem hk2] at hrow; exact hrow
  have hrl:row.length ≤ pre.length:=by
   have:o2.set k (row ++ [x]) = canon r (pre ++ [x]):=hR.eq
   have h4:row ++ [x] ∈ canon r (pre ++ [x]):=by
    rw [← this]; exact List.mem_iff_getElem?.2 ⟨k,by rw [List.getElem?_set,if_pos rfl,if_pos hk2]⟩
   unfold canon at h4
   obtain ⟨q,_,hq⟩:=List.mem_map.1 h4
   have h5:=congrArg List.length hq
   have h6:=List.length_filter_le (fun z=>decide (r z = q)) (pre ++ [x])
   simp only [List.length_append,List.length_singleton] at h5 h6
   omega
  refine aN.dp hix (aN.app (by simp only [List.length_singleton]; omega) (aN.dp hix (aN.some ⟨g1,by rw [g2 hxk]; exact h2,?_⟩)))
  simp only
  rw [hk,Int.toNat_natCast]
  exact hR
theorem py {F:Nat} (hF:F ≤ 100000000) {m:a6} {ps:List (Int × Int)} (h:St m ps) (hl:2 * ps.length < F):aN (bo F m) fun z=>Part (fun a b=>(a,b) ∈ ps) (fun a=>∃ p ∈ ps,a = p.1 ∨ a = p.2) z.1 ∧ St z.2 ps:=by
 refine (sets_S hF h.up (by have:=h.len; omega)).mono ?_
 rintro ⟨o,m'⟩ ⟨h1,h2,h3⟩
 simp only at h1 h2 h3 ⊢
 have hk:∀ u,u ∈ sorted (aj m) ↔ ∃ p ∈ ps,u = p.1 ∨ u = p.2:=fun u=>by rw [ku,h.keys]
 refine ⟨?_,h2,fun u=>by rw [h3,h.keys],?_⟩
 ·rw [h1]
  have hp:=oO (r:=dM ps) (P:=fun a b=>(a,b) ∈ ps) (oZ h.up.nd) h.up.rle h.up.idem (fun z hz=>?_) (qH ps) fun a b hab=>?_
  ·exact hp.congr (fun _ _=>.rfl) hk
  ·exact ku.2 (gb.1 (h.up.low z (gb.2 (ku.1 hz))).2.1)
  ·exact ⟨fun _=>(hk b).2 ⟨(a,b),hab,.inr rfl⟩,fun _=>(hk a).2 ⟨(a,b),hab,.inl rfl⟩⟩
 ·have:(aj m').length = (aj m).length:=by rw [h3]
  simp only [aj,List.length_map] at this
  have:=h.len
  omega
theorem aN.pass {τ:Type} {A:Int → Option (Int ⊕ τ)} {g:τ} {N st:Int} {F:Nat} {Q:τ → Prop} (h0:0 ≤ st) (hN:N ≤ 1000000000) (hF:(N - st).toNat < F) (h:∀ k,st ≤ k → k < N → A k = Option.some (.inl (IntKind.i64.wrap (k + 1)))) (hq:Q g):aN (iter F (fun i=>if decide (i < N) = true then A i else Option.some (.inr g)) st) Q:=by
 refine aN.rounds (n:=(N - st).toNat) (I:=fun k s=>s = st + (k:Int)) hF (by simp) ?_
 rintro k s hk rfl
 refine aN.ite (fun hc=>?_) fun hc=>?_
 ·have hc:=of_decide_eq_true hc
  rw [h _ (by omega) hc]
  refine aN.some (.inl ⟨_,rfl,?_,by omega⟩)
  rw [mD (by omega) (by omega)]; push_cast; omega
 ·exact aN.some (.inr ⟨_,rfl,hq⟩)
theorem lL {α:Type} [Inhabited α] {l:List α} {i j:Int} {x:α} (h0:0 ≤ i) (h1:i < l.length) (h2:0 ≤ j):idx (l.set i.toNat x) j = if j = i then x else idx l j:=by
 unfold idx
 rw [List.getD_eq_getElem?_getD,List.getD_eq_getElem?_getD,List.getElem?_set]
 by_cases e:j = i
 ·subst e; rw [if_pos rfl,if_pos (by omega),if_pos rfl]; rfl
 ·rw [if_neg (by omega),if_neg e]
theorem idx_rep {α:Type} [Inhabited α] {n:Nat} {x:α} {j:Int} (h0:0 ≤ j) (h1:j < n):idx (List.replicate n x) j = x:=by
 obtain ⟨m,rfl⟩:∃ m:Nat,j = m:=⟨j.toNat,by omega⟩
 rw [ig _ _ (by simp; omega)]; simp
def Lnk (n:Nat) (l:A2):Prop:=0 ≤ l.a0 ∧ l.a0 < n ∧ 0 ≤ l.a1 ∧ l.a1 < n ∧ l.a0 ≠ l.a1
instance (n:Nat) (l:A2):Decidable (Lnk n l):=inferInstanceAs (Decidable (_ ∧ _))
def Gr (fx:List Bool) (ls:List A2):Prop:=fx.length ≤ 401 ∧ ∀ l ∈ ls,Lnk fx.length l
theorem pK {F:Nat} {fx:List Bool} {l:A2}:cE F l fx = some (!decide (Lnk fx.length l)):=by
 unfold cE cF
 refine aN.eq (aN.dp rfl ?_)
 by_cases h1:((decide (l.a0 < 0)) || (decide ((fx.length:Int) ≤ l.a0))) = true
 ·refine aN.g0 (by rw [h1]; rfl) (aN.some ?_)
  rw [h1]
  simp only [Bool.true_or]
  simp only [Bool.or_eq_true,decide_eq_true_eq] at h1
  have:¬ Lnk fx.length l:=fun h=>by obtain ⟨a,b,_⟩:=h; omega
  simp [this]
 ·have h1:((decide (l.a0 < 0)) || (decide ((fx.length:Int) ≤ l.a0))) = false:=by simpa using h1
  refine aN.g1 (by rw [h1]; rfl) (aN.dp rfl (aN.some ?_))
  rw [h1]
  simp only [Bool.false_or]
  simp only [Bool.or_eq_false_iff,decide_eq_false_iff_not] at h1
  by_cases hl:Lnk fx.length l
  ·obtain ⟨a1,a2,a3,a4,a5⟩:=id hl
   simp [hl,a5]; omega
  ·have h2:l.a1 < 0 ∨ (fx.length:Int) ≤ l.a1 ∨ l.a0 = l.a1:=by
    by_cases e:l.a1 < 0
    ·exact .inl e
    ·by_cases e2:(fx.length:Int) ≤ l.a1
     ·exact .inr (.inl e2)
     ·by_cases e3:l.a0 = l.a1
      ·exact .inr (.inr e3)
      ·exact absurd (show Lnk fx.length l from ⟨by omega,by omega,by omega,by omega,e3⟩) hl
   simp only [hl,decide_false,Bool.not_false]
   simp only [Bool.or_eq_true,decide_eq_true_eq]
   rcases h2 with h | h | h
   ·exact .inl (.inl h)
   ·exact .inl (.inr h)
   ·exact .inr h
theorem qV {F:Nat} {fx:List Bool} {ls:List A2} (hF:ls.length < F) (hL:ls.length ≤ 9223372036854775807):aN (bx F fx ls) fun r=>(r = true ↔ Gr fx ls):=by
 unfold bx
 by_cases hc:(decide ((fx.length:Int) ≤ 401)) = true
 ·refine aN.g1 hc ?_
  unfold cG de
  have hc':fx.length ≤ 401:=by have:=of_decide_eq_true hc; omega
  refine aN.bind (P:=fun r=>(r = false ↔ Gr fx ls)) ?_ fun r hr=>aN.some (by rw [hc]; cases r <;> simp_all)
  refine aN.bind (P:=fun r:Int=>(r < 0 ↔ Gr fx ls)) ?_ fun r hr=>aN.some (by rw [← hr]; simp)
  refine aN.bind (P:=fun o=>(o = .inl () ∧ Gr fx ls) ∨ ∃ i:Int,o = .inr i ∧ 0 ≤ i ∧ ¬ Gr fx ls) ?_ ?_
  ·refine aN.ea1 (fun pre=>∀ l ∈ pre,Lnk fx.length l) hF hL (by simp) (fun pre x post e hx hI=>?_) fun h=>.inl ⟨rfl,hc',h⟩
   refine aN.dp hx (aN.dp pK (aN.ite (fun h=>aN.some (.inr ⟨_,rfl,.inr ⟨_,rfl,by omega,fun hg=>?_⟩⟩)) (fun h=>aN.some (.inl ⟨rfl,fun l hl=>?_⟩))))
   ·have:=hg.2 x (by rw [e]; simp); simp [this] at h
   ·rcases List.mem_append.1 hl with hl | hl
    ·exact hI l hl
    ·rw [List.mem_singleton.1 hl]; simpa using h
  ·rintro o (⟨rfl,h⟩ | ⟨i,rfl,h1,h2⟩)
   ·exact aN.some ⟨fun _=>h,fun _=>by omega⟩
   ·exact aN.some ⟨fun _=>by omega,fun h=>absurd h h2⟩
 ·have hc:(decide ((fx.length:Int) ≤ 401)) = false:=by simpa using hc
  refine aN.g0 hc (aN.some ?_)
  rw [hc]
  refine ⟨fun h=>by simp at h,fun h=>?_⟩
  have:=of_decide_eq_false hc
  have:=h.1
  omega
def Mov (fx:List Bool) (l:A2):Prop:=idx fx l.a0 = false ∧ idx fx l.a1 = false
instance (fx:List Bool) (l:A2):Decidable (Mov fx l):=inferInstanceAs (Decidable (_ ∧ _))
def pQ (fx:List Bool) (ls:List A2):List Int:=((List.range ls.length).filter fun i:Nat=>decide (Mov fx (idx ls (i:Int)))).map fun i:Nat=>(i:Int)
theorem gD (p:Nat → Bool) (n:Nat):(List.range (n + 1)).filter p = (List.range n).filter p ++ if p n then [n] else []:=by
 rw [List.range_succ,List.filter_append]; congr 1; simp [List.filter]; split <;> simp_all
theorem mvs_ok {F:Nat} {fx:List Bool} {ls:List A2} (hF:ls.length < F) (hL:ls.length ≤ 1000000) (hg:Gr fx ls):cL F fx ls = some (pQ fx ls):=by
 refine aN.eq ?_
 unfold cL
 refine aN.bind (P:=(· = pQ fx ls)) ?_ fun o ho=>by rw [ho]; exact aN.some rfl
 refine aN.ea2 (fun pre s=>s = ((List.range pre.length).filter fun i:Nat=>decide (Mov fx (idx ls (i:Int)))).map fun i:Nat=>(i:Int)) hF (by omega) rfl (fun pre x post s e hx hI=>?_) fun s hs=>hs
 have hxi:idx ls (pre.length:Int) = x:=pX hx
 obtain ⟨a1,a2,a3,a4,a5⟩:=hg.2 x (by rw [e]; simp)
 subst hI
 have hlen:(((List.range pre.length).filter fun i:Nat=>decide (Mov fx (idx ls (i:Int)))).map fun i:Nat=>(i:Int)).length ≤ pre.length:=by
  rw [List.length_map]; refine Nat.le_trans (List.length_filter_le _ _) ?_; simp
 have hpl:pre.length ≤ ls.length:=by rw [e]; simp
 refine aN.bind (P:=(· = ((List.range (pre ++ [x]).length).filter fun i:Nat=>decide (Mov fx (idx ls (i:Int)))).map fun i:Nat=>(i:Int))) ?_ fun o ho=>by rw [ho]; exact aN.some (.inl ⟨_,rfl,rfl⟩)
 rw [List.length_append,List.length_singleton,gD,hxi]
 refine aN.dp hx (aN.idx a1 (by omega) ?_)
 by_cases h0:idx fx x.a0 = true
 ·refine aN.g0 (by rw [h0]; rfl) (aN.iff (by rw [h0]; rfl) (aN.some ?_))
  rw [if_neg (by simp [Mov,h0])]; simp
 ·have h0:idx fx x.a0 = false:=by simpa using h0
  refine aN.g1 (by rw [h0]; rfl) (aN.idx a3 (by omega) ?_)
  by_cases h1:idx fx x.a1 = true
  ·refine aN.iff (by rw [h0,h1]; rfl) (aN.some ?_)
   rw [if_neg (by simp [Mov,h1])]; simp
  ·have h1:idx fx x.a1 = false:=by simpa using h1
   refine aN.ift (by rw [h0,h1]; rfl) (aN.app (by simp only [List.length_singleton]; omega) (aN.some ?_))
   rw [if_pos (by simp [Mov,h0,h1])]; simp
theorem jn_self (r:Int → Int) (x:Int):jn r x x = r:=by
 funext z
 unfold jn
 rw [show max (r x) (r x) = r x by omega,show min (r x) (r x) = r x by omega]
 split
 ·next h=>exact h.symm
 ·rfl
theorem St.root {F:Nat} {m:a6} {ps:List (Int × Int)} {x:Int} (h:St m ps) (hF:2 * ps.length < F):aN (bp F x m) fun z=>St z.2 (ps ++ [(x,x)]):=by
 refine (mX h.up (x:=x) (by have:=h.len; omega)).mono ?_
 rintro ⟨b,m'⟩ ⟨h1,h2,h3,h4,_⟩
 refine ⟨by rw [k4,jn_self]; exact h2,fun u=>?_,by have:=h.len; simp at h4 ⊢; omega⟩
 simp only at h3 ⊢
 rw [h3,h.keys]
 constructor
 ·rintro (h | ⟨p,hp,h⟩)
  ·exact ⟨(x,x),by simp,.inl h⟩
  ·exact ⟨p,by simp [hp],h⟩
 ·rintro ⟨p,hp,h⟩
  rcases List.mem_append.1 hp with hp | hp
  ·exact .inr ⟨p,hp,h⟩
  ·rw [List.mem_singleton.1 hp] at h
   exact .inl (by rcases h with h | h <;> exact h)
def lG (fx:List Bool) (n:Nat):List (Int × Int):=((List.range n).filter fun i:Nat=>decide (idx fx (i:Int) = false)).map fun i:Nat=>((i:Int),(i:Int))
theorem ns (fx:List Bool) (n:Nat):(lG fx n).length ≤ n:=by
 unfold lG; rw [List.length_map]; refine Nat.le_trans (List.length_filter_le _ _) (by simp)
theorem qY (fx:List Bool) (n:Nat):lG fx (n + 1) = lG fx n ++ if idx fx (n:Int) = false then [((n:Int),(n:Int))] else []:=by
 unfold lG; rw [gD,List.map_append]; congr 1
 by_cases h:idx fx (n:Int) = false <;> simp [h]
def j7 (ls:List A2) (i:Int):Int × Int:=((idx ls i).a0,(idx ls i).a1)
def oS (ls:List A2) (base:List (Int × Int)) (is:List Int):List (Int × Int) × List Int :=
 is.foldl (fun acc i=>(acc.1 ++ [j7 ls i],if dM acc.1 (j7 ls i).1 = dM acc.1 (j7 ls i).2 then acc.2 else acc.2 ++ [i])) (base,[])
theorem qW (ls:List A2) (base:List (Int × Int)) (is:List Int) (i:Int):oS ls base (is ++ [i]) = ((oS ls base is).1 ++ [j7 ls i],if dM (oS ls base is).1 (j7 ls i).1 = dM (oS ls base is).1 (j7 ls i).2 then (oS ls base is).2 else (oS ls base is).2 ++ [i]):=by
 unfold oS; rw [List.foldl_append]; rfl
theorem nq (ls:List A2):∀ (is:List Int) (acc:List (Int × Int) × List Int),(is.foldl (fun acc i=>(acc.1 ++ [j7 ls i],if dM acc.1 (j7 ls i).1 = dM acc.1 (j7 ls i).2 then acc.2 else acc.2 ++ [i])) acc).1 = acc.1 ++ is.map (j7 ls) ∧
  (is.foldl (fun acc i=>(acc.1 ++ [j7 ls i],if dM acc.1 (j7 ls i).1 = dM acc.1 (j7 ls i).2 then acc.2 else acc.2 ++ [i])) acc).2.length ≤ acc.2.length + is.length
 | [],acc=>by simp
 | i :: is,acc=>by
  obtain ⟨h1,h2⟩:=nq ls is (acc.1 ++ [j7 ls i],if dM acc.1 (j7 ls i).1 = dM acc.1 (j7 ls i).2 then acc.2 else acc.2 ++ [i])
  rw [List.foldl_cons]
  refine ⟨by rw [h1]; simp,Nat.le_trans h2 ?_⟩
  simp only [List.length_cons]
  split <;> simp <;> omega
theorem frs_fst (ls:List A2) (base:List (Int × Int)) (is:List Int):(oS ls base is).1 = base ++ is.map (j7 ls):=(nq ls is (base,[])).1
theorem frs_len (ls:List A2) (base:List (Int × Int)) (is:List Int):(oS ls base is).2.length ≤ is.length:=by
 have h:=(nq ls is (base,[])).2
 rw [List.length_nil,Nat.zero_add] at h
 exact h
theorem pd (fx:List Bool) (ls:List A2):(pQ fx ls).length ≤ ls.length:=by
 unfold pQ; rw [List.length_map]; refine Nat.le_trans (List.length_filter_le _ _) (by simp)
theorem pf {fx:List Bool} {ls:List A2} {i:Int}:i ∈ pQ fx ls ↔ 0 ≤ i ∧ i < ls.length ∧ Mov fx (idx ls i):=by
 simp only [pQ,List.mem_map,List.mem_filter,List.mem_range,decide_eq_true_eq]
 constructor
 ·rintro ⟨k,⟨h1,h2⟩,rfl⟩; exact ⟨by omega,by omega,h2⟩
 ·rintro ⟨h1,h2,h3⟩; exact ⟨i.toNat,⟨by omega,by rw [show ((i.toNat:Nat):Int) = i by omega]; exact h3⟩,by omega⟩
def aps (fx:List Bool) (ls:List A2):List (Int × Int):=lG fx fx.length ++ (pQ fx ls).map (j7 ls)
theorem pH {F:Nat} {fx:List Bool} {ls:List A2} (hF:2 * (fx.length + ls.length) + 1 < F) (hL:ls.length ≤ 1000000) (hg:Gr fx ls):aN (cu F fx ls) fun z=>St z.1 (aps fx ls) ∧ z.2 = (oS ls (lG fx fx.length) (pQ fx ls)).2:=by
 have hx:=hg.1
 unfold cu
 refine aN.bind (P:=fun up=>St up (lG fx fx.length)) ?_ fun up hup=>?_
 ·refine aN.ea2 (fun pre up=>St up (lG fx pre.length)) (by omega) (by omega) (by simpa [lG] using St.nil) (fun pre x post up e hxi hI=>?_) fun up h=>h
  have hxe:idx fx (pre.length:Int) = x:=pX hxi
  have hpl:pre.length < fx.length:=by rw [e]; simp
  refine aN.bind (P:=fun up'=>St up' (lG fx (pre ++ [x]).length)) ?_ fun up' h=>aN.some (.inl ⟨up',rfl,h⟩)
  rw [List.length_append,List.length_singleton,qY,hxe]
  refine aN.dp hxi (aN.ite (fun hc=>?_) (fun hc=>?_))
  ·have hc:x = false:=by simpa using hc
   refine aN.bind (hI.root (x:=(pre.length:Int)) (by have:=ns fx pre.length; omega)) ?_
   rintro ⟨a,m'⟩ h
   exact aN.some (by rw [if_pos hc]; exact h)
  ·have hc:x = true:=by simpa using hc
   exact aN.some (by rw [if_neg (by simp [hc]),List.append_nil]; exact hI)
 ·refine aN.bind (P:=fun z=>St z.1 (aps fx ls) ∧ z.2 = (oS ls (lG fx fx.length) (pQ fx ls)).2) ?_ (by rintro ⟨a,b⟩ h; exact aN.some h)
  refine aN.dp (mvs_ok (by omega) hL hg) ?_
  have hml:=pd fx ls
  have hal:=ns fx fx.length
  refine aN.ea3 (fun pre up out=>St up (lG fx fx.length ++ pre.map (j7 ls)) ∧ out = (oS ls (lG fx fx.length) pre).2) (by omega) (by omega) ⟨by simpa using hup,by simp [oS]⟩ (fun pre x post up out e hxi hI=>?_) fun up out h=>h
  obtain ⟨hI,ho⟩:=hI
  have hxm:x ∈ pQ fx ls:=by rw [e]; simp
  obtain ⟨i1,i2,i3⟩:=pf.1 hxm
  have hpl:pre.length < (pQ fx ls).length:=by rw [e]; simp
  refine aN.bind (P:=fun z=>St z.1 (lG fx fx.length ++ (pre ++ [x]).map (j7 ls)) ∧ z.2 = (oS ls (lG fx fx.length) (pre ++ [x])).2) ?_ (by rintro ⟨a,b⟩ h; exact aN.some (.inl ⟨a,b,rfl,h⟩))
  refine aN.dp hxi (aN.idx i1 (by omega) (aN.idx i1 (by omega) ?_))
  refine aN.bind (hI.join (x:=(idx ls x).a0) (y:=(idx ls x).a1) (by simp; omega)) ?_
  rintro ⟨b,m'⟩ ⟨h1,h2⟩
  simp only at h1 h2
  have hps:lG fx fx.length ++ (pre ++ [x]).map (j7 ls) = lG fx fx.length ++ pre.map (j7 ls) ++ [((idx ls x).a0,(idx ls x).a1)]:=by simp [j7]
  have hfl:=frs_len ls (lG fx fx.length) pre
  rw [hps,qW,frs_fst]
  subst h1
  refine aN.ite (fun hc=>?_) (fun hc=>?_)
  ·have hc:=of_decide_eq_true hc
   refine aN.app (by rw [ho]; simp only [List.length_singleton]; omega) (aN.some ⟨h2,?_⟩)
   rw [ho]; exact (if_neg hc).symm
  ·have hc:=of_decide_eq_false hc
   have hc:dM (lG fx fx.length ++ pre.map (j7 ls)) (idx ls x).a0 = dM (lG fx fx.length ++ pre.map (j7 ls)) (idx ls x).a1:=by
    by_cases e:dM (lG fx fx.length ++ pre.map (j7 ls)) (idx ls x).a0 = dM (lG fx fx.length ++ pre.map (j7 ls)) (idx ls x).a1
    ·exact e
    ·exact absurd e hc
   refine aN.some ⟨h2,?_⟩
   rw [ho]; exact (if_pos hc).symm
def Lk (fx:List Bool) (ls:List A2) (a b:Int):Prop:=∃ l ∈ ls,Mov fx l ∧ l.a0 = a ∧ l.a1 = b
def Mv (fx:List Bool) (a:Int):Prop:=0 ≤ a ∧ a < fx.length ∧ idx fx a = false
theorem nm {fx:List Bool} {p:Int × Int}:p ∈ lG fx fx.length ↔ Mv fx p.1 ∧ p.2 = p.1:=by
 obtain ⟨a,b⟩:=p
 simp only [lG,List.mem_map,List.mem_filter,List.mem_range,decide_eq_true_eq,Prod.mk.injEq,Mv]
 constructor
 ·rintro ⟨k,⟨h1,h2⟩,rfl,rfl⟩; exact ⟨⟨by omega,by omega,h2⟩,rfl⟩
 ·rintro ⟨⟨h1,h2,h3⟩,rfl⟩; exact ⟨b.toNat,⟨by omega,by rw [show ((b.toNat:Nat):Int) = b by omega]; exact h3⟩,by omega,by omega⟩
theorem nk {fx:List Bool} {ls:List A2} {a b:Int}:(a,b) ∈ (pQ fx ls).map (j7 ls) ↔ Lk fx ls a b:=by
 simp only [List.mem_map,pf,j7,Prod.mk.injEq,Lk]
 constructor
 ·rintro ⟨i,⟨h1,h2,h3⟩,rfl,rfl⟩; exact ⟨idx ls i,np h1 h2,h3,rfl,rfl⟩
 ·rintro ⟨l,hl,h3,rfl,rfl⟩
  obtain ⟨k,hk,e⟩:=List.getElem_of_mem hl
  have:idx ls (k:Int) = l:=by rw [ig _ _ hk]; exact e
  exact ⟨(k:Int),⟨by omega,by omega,by rw [this]; exact h3⟩,by rw [this],by rw [this]⟩
theorem find_ok {F:Nat} {fx:List Bool} {ls:List A2} (hF:2 * (fx.length + ls.length) + 1 < F) (hF2:F ≤ 100000000) (hL:ls.length ≤ 1000000):aN (cR F fx ls) fun z=>(Gr fx ls ∧ z.2 = 0 ∧ Part (Lk fx ls) (Mv fx) z.1) ∨ (¬ Gr fx ls ∧ z = ([],1)):=by
 unfold cR
 refine aN.bind (qV (by omega) (by omega)) fun r hr=>?_
 refine aN.ite (fun hc=>aN.some (.inr ⟨fun h=>by simp [hr.2 h] at hc,rfl⟩)) (fun hc=>?_)
 have hg:Gr fx ls:=hr.1 (by simpa using hc)
 refine aN.bind (pH hF hL hg) ?_
 rintro ⟨m,out⟩ ⟨h1,h2⟩
 have hlen:(aps fx ls).length ≤ fx.length + ls.length:=by
  unfold aps; rw [List.length_append,List.length_map]; have:=ns fx fx.length; have:=pd fx ls; omega
 refine aN.bind (py hF2 h1 (by omega)) ?_
 rintro ⟨o,m'⟩ ⟨hp,_⟩
 refine aN.some (.inl ⟨hg,rfl,hp.congr (gE.congr (fun a b hab=>?_) (fun a b hab=>?_)) fun a=>?_⟩)
 ·rcases List.mem_append.1 hab with hab | hab
  ·have:=(nm.1 hab).2
   simp only at this; subst this; exact .rfl _
  ·exact .of (nk.1 hab)
 ·exact .of (List.mem_append.2 (.inr (nk.2 hab)))
 ·constructor
  ·rintro ⟨p,hp,h⟩
   rcases List.mem_append.1 hp with hp | hp
   ·obtain ⟨h3,h4⟩:=nm.1 hp
    rcases h with h | h
    ·rw [h]; exact h3
    ·rw [h,h4]; exact h3
   ·obtain ⟨l,hl,⟨m1,m2⟩,e1,e2⟩:=nk.1 (show (p.1,p.2) ∈ _ from hp)
    obtain ⟨a1,a2,a3,a4,_⟩:=hg.2 l hl
    rcases h with h | h
    ·rw [h,← e1]; exact ⟨a1,a2,m1⟩
    ·rw [h,← e2]; exact ⟨a3,a4,m2⟩
  ·intro h
   exact ⟨(a,a),List.mem_append.2 (.inl (nm.2 ⟨h,rfl⟩)),.inl rfl⟩
theorem few_ok (F:Nat) (fx:List Bool) (ls:List A2):∃ b,cW F fx ls = some b ∧ (b = true → fx.length ≤ 408 ∧ ls.length ≤ 60):=by
 refine ⟨_,rfl,fun h=>?_⟩
 simp only [Bool.and_eq_true,Bool.or_eq_true,decide_eq_true_eq] at h
 omega
def Wh (n:Nat) (Q:List (List Int)) (w:List Int):Prop:=w.length = n ∧ (∀ (j:Nat) (hj:j < Q.length),∀ a ∈ Q[j],idx w a = (j:Int) + 1) ∧ ∀ b:Int,0 ≤ b → b < n → (∀ c ∈ Q,b ∉ c) → idx w b = 0
theorem qK {fx:List Bool} {P:Int → Int → Prop} {Q:List (List Int)} (hp:Part P (Mv fx) Q):Q.length ≤ fx.length ∧ ∀ c ∈ Q,c.length ≤ fx.length:=by
 have hB:∀ a,Mv fx a → a ∈ (List.range fx.length).map fun i:Nat=>(i:Int):=fun a ⟨h0,h1,_⟩=>List.mem_map.2 ⟨a.toNat,List.mem_range.2 (by omega),by omega⟩
 have h1:=pt_len hp.toIsPt hB
 refine ⟨by simpa using h1,fun c hc=>?_⟩
 have:=asd_cls hp.toIsPt hB hc
 simpa using this
theorem mx (fx:List Bool) (ls:List A2):bE 2000 fx ls = some true:=by
 refine aN.eq ?_
 unfold bE
 obtain ⟨b,hb,hfew⟩:=few_ok 2000 fx ls
 refine aN.dp hb (aN.ite (fun hc=>aN.dp k3 (aN.some rfl)) (fun hc=>?_))
 obtain ⟨hfx,hls⟩:=hfew (by simpa using hc)
 refine aN.bind (find_ok (by omega) (by omega) (by omega)) ?_
 rintro ⟨Q,e⟩ (⟨hg,he,hP⟩ | ⟨hg,he⟩)
 rotate_left
 ·cases he
  exact aN.ift rfl (aN.dp k3 (aN.some rfl))
 simp only at he hP
 subst he
 obtain ⟨q1,q2⟩:=qK hP
 have hhd:∀ {c:List Int},c ∈ Q → c ≠ [] → idx c 0 = hd c:=fun {c} hc hne=>by
  cases c with
  | nil=>exact absurd rfl hne
  | cons a t=>rfl
 refine aN.iff rfl (aN.dp (x:=List.replicate fx.length 0) (by unfold mk?; rw [if_pos (by omega)]; rfl) ?_)
 refine aN.bind (P:=fun o:List Int ⊕ Bool=>∃ w,o = .inl w ∧ Wh fx.length Q w) ?_ ?_
 ·refine aN.ea2 (l:=Q) (I:=fun pre w=>Wh fx.length pre w) (by omega) (by omega) ⟨by simp,by simp,fun b h0 h1 _=>idx_rep h0 (by omega)⟩ ?_ fun w hw=>⟨w,rfl,hw⟩
  rintro pre c post w eQ hc hW
  have hcm:c ∈ Q:=by rw [eQ]; simp
  have hne:c ≠ []:=(hP.asd c hcm).1
  have hca:=(hP.asd c hcm).2
  have hcl:=q2 c hcm
  have hpl:pre.length < Q.length:=by rw [eQ]; simp
  have hc0:0 < c.length:=List.length_pos_iff.2 hne
  refine aN.bind (P:=fun o:List Int ⊕ Bool=>∃ w,o = .inl w ∧ Wh fx.length (pre ++ [c]) w) ?_ ?_
  rotate_left
  ·rintro o ⟨w',rfl,hw'⟩
   exact aN.some (.inl ⟨w',rfl,hw'⟩)
  refine aN.dp hc ?_
  have e0:decide ((c.length:Int) = 0) = false:=decide_eq_false (by omega)
  rw [e0]
  simp only [Bool.not_false,Bool.true_and,Bool.false_or]
  have main:aN (Option.bind (iter 2000 (cq fun where_17 k_18=>Option.bind (aM Q (pre.length:Int)) (fun x_20=>if (decide (k_18 < (x_20.length:Int))) = true then (Option.bind (aM Q (pre.length:Int)) (fun x_21=>Option.bind (aM x_21 k_18) (fun x_22=>eu ((decide (x_22 < 0)) || (decide ((fx.length:Int) ≤ x_22))) fun x_23=>Option.bind (ca (!x_23) (aM where_17 x_22)) (fun x_24=>Option.bind (ca ((!(x_23 || (decide (x_24 ≠ 0)))) && (decide (0 < k_18))) (aM Q (pre.length:Int))) (fun x_25=>Option.bind (ca ((!(x_23 || (decide (x_24 ≠ 0)))) && (decide (0 < k_18))) (aM x_25 (IntKind.i64.wrap (k_18 - 1)))) (fun x_26=>eu ((x_23 || (decide (x_24 ≠ 0))) || ((decide (0 < k_18)) && (decide (x_22 ≤ x_26)))) fun x_27=>if x_27 = true then (some (.inr (.inr false))) else (Option.bind (aM where_17 x_22) (fun x_28=>some (.inl (where_17.set (x_22:Int).toNat (IntKind.i64.wrap ((pre.length:Int) + 1)),IntKind.i64.wrap (k_18 + 1))))))))))) else (some (.inr (.inl where_17))))) (w,0)) (gF (fun where_19=>some (.inl where_19)) (fun y:Bool=>some (.inr y)))) (fun o:List Int ⊕ Bool=>∃ w,o = .inl w ∧ Wh fx.length (pre ++ [c]) w):=by
   simp only [hc,Option.bind_some]
   refine aN.bind (P:=fun o:List Int ⊕ Bool=>∃ w,o = .inl w ∧ Wh fx.length (pre ++ [c]) w) ?_ (by rintro o ⟨w',rfl,hw'⟩; exact aN.some ⟨w',rfl,hw'⟩)
   refine aN.ea2 (l:=c) (I:=fun q w=>w.length = fx.length ∧ (∀ (j:Nat) (hj:j < pre.length),∀ a ∈ pre[j],idx w a = (j:Int) + 1) ∧ (∀ a ∈ q,idx w a = (pre.length:Int) + 1) ∧ (∀ b:Int,0 ≤ b → b < fx.length → (∀ d ∈ pre,b ∉ d) → b ∉ q → idx w b = 0)) (by omega) (by omega) ⟨hW.1,hW.2.1,by simp,fun b h0 h1 h2 _=>hW.2.2 b h0 h1 h2⟩ ?_ ?_
   ·rintro q b post' w eC hbx ⟨w1,w2,w3,w4⟩
    have hbm:b ∈ c:=by rw [eC]; simp
    obtain ⟨g1,g2,g3⟩:Mv fx b:=(hP.dom b).2 ⟨c,hcm,hbm⟩
    have hpw:=List.pairwise_append.1 (eC ▸ hca)
    have hbq:b ∉ q:=fun hbq=>by have:=hpw.2.2 b hbq b (List.mem_cons_self ..); omega
    have hbp:∀ d ∈ pre,b ∉ d:=fun d hd=>by
     intro hbd
     have hdj:List.Pairwise (fun c d:List Int=>∀ z ∈ c,z ∉ d) (pre ++ c :: post):=eQ ▸ hP.dj
     exact (List.pairwise_append.1 hdj).2.2 d hd c (List.mem_cons_self ..) b hbd hbm
    have hw0:=w4 b g1 g2 hbp hbq
    refine aN.dp hbx ?_
    have e1:(decide (b < 0) || decide ((fx.length:Int) ≤ b)) = false:=by simp; omega
    rw [e1]
    refine aN.ln (aN.g1 rfl (aN.dp (dE g1 (by omega)) ?_))
    rw [hw0]
    simp only [decide_not,ne_eq,not_true_eq_false,decide_true,Bool.not_true,decide_false,Bool.not_false,Bool.false_or,Bool.true_and]
    have hfin:aN (Option.bind (aM w b) (fun x_28=>some (.inl (w.set (b:Int).toNat (IntKind.i64.wrap ((pre.length:Int) + 1)),IntKind.i64.wrap ((q.length:Int) + 1))))) fun o:(List Int × Int) ⊕ (List Int ⊕ Bool)=>(∃ s',o = .inl (s',IntKind.i64.wrap ((q.length:Int) + 1)) ∧ (s'.length = fx.length ∧ (∀ (j:Nat) (hj:j < pre.length),∀ a ∈ pre[j],idx s' a = (j:Int) + 1) ∧ (∀ a ∈ q ++ [b],idx s' a = (pre.length:Int) + 1) ∧ (∀ b':Int,0 ≤ b' → b' < fx.length → (∀ d ∈ pre,b' ∉ d) → b' ∉ q ++ [b] → idx s' b' = 0))) ∨ ∃ t,o = .inr t ∧ ∃ w,t = .inl w ∧ Wh fx.length (pre ++ [c]) w:=by
     refine aN.dp (dE g1 (by omega)) (aN.some (.inl ⟨_,rfl,by rw [List.length_set]; exact w1,?_,?_,?_⟩))
     ·intro j hj a ha
      obtain ⟨k1,k2,_⟩:Mv fx a:=(hP.dom a).2 ⟨pre[j],by rw [eQ]; exact List.mem_append.2 (.inl (List.getElem_mem hj)),ha⟩
      rw [lL g1 (by omega) k1,if_neg (fun e:a = b=>hbp pre[j] (List.getElem_mem hj) (by rw [← e]; exact ha)),w2 j hj a ha]
     ·intro a ha
      rcases List.mem_append.1 ha with ha | ha
      ·obtain ⟨k1,k2,_⟩:Mv fx a:=(hP.dom a).2 ⟨c,hcm,by rw [eC]; exact List.mem_append.2 (.inl ha)⟩
       rw [lL g1 (by omega) k1,if_neg (fun e:a = b=>hbq (by rw [← e]; exact ha)),w3 a ha]
      ·rw [List.mem_singleton.1 ha,lL g1 (by omega) g1,if_pos rfl,mD (by omega) (by omega)]
     ·intro b' h0 h1 h2 h3
      rw [lL g1 (by omega) h0,if_neg (fun e=>h3 (by rw [e]; simp)),w4 b' h0 h1 h2 (fun h=>h3 (List.mem_append.2 (.inl h)))]
    by_cases hq:q = []
    ·subst hq
     refine aN.g0 (by simp) (aN.g0 (by simp) (aN.ln (aN.iff (by simp) hfin)))
    ·have hql:0 < q.length:=List.length_pos_iff.2 hq
     have hqc:q.length < c.length:=by rw [eC]; simp
     have e3:IntKind.i64.wrap ((q.length:Int) - 1) = (q.length:Int) - 1:=mD (by omega) (by omega)
     have hd0:decide (0 < (q.length:Int)) = true:=decide_eq_true (by omega)
     rw [hd0,e3]
     refine aN.g1 rfl (aN.dp rfl (aN.g1 rfl (aN.idx (by omega) (by omega) (aN.ln (aN.iff ?_ hfin)))))
     have hlt:idx c ((q.length:Int) - 1) < b:=by
      have hm:q.length - 1 < q.length:=by omega
      have:idx c ((q.length:Int) - 1) = q[q.length - 1]:=by
       rw [show (q.length:Int) - 1 = ((q.length - 1:Nat):Int) by omega,ig _ _ (by omega)]
       simp only [eC]
       rw [List.getElem_append_left hm]
      rw [this]
      exact hpw.2.2 _ (List.getElem_mem hm) b (List.mem_cons_self ..)
     simp; omega
   ·rintro w ⟨w1,w2,w3,w4⟩
    refine ⟨w,rfl,w1,fun j hj a ha=>?_,fun b h0 h1 h2=>w4 b h0 h1 (fun d hd=>h2 d (by simp [hd])) (h2 c (by simp))⟩
    by_cases hj':j < pre.length
    ·rw [List.getElem_append_left hj'] at ha; exact w2 j hj' a ha
    ·have:j = pre.length:=by simp at hj; omega
     subst this
     rw [List.getElem_append_right (Nat.le_refl _)] at ha
     simp at ha
     exact w3 a ha
  by_cases hp:pre = []
  ·subst hp
   refine aN.g0 (by simp) (aN.g0 (by simp) (aN.g0 (by simp) (aN.g0 (by simp) (aN.iff (by simp) main))))
  ·have hpl0:0 < pre.length:=List.length_pos_iff.2 hp
   have hd0:decide (0 < (pre.length:Int)) = true:=decide_eq_true (by omega)
   have e3:IntKind.i64.wrap ((pre.length:Int) - 1) = (pre.length:Int) - 1:=mD (by omega) (by omega)
   rw [hd0,e3]
   have hm:pre.length - 1 < pre.length:=by omega
   have hid:idx Q ((pre.length:Int) - 1) = pre[pre.length - 1]:=by
    rw [show (pre.length:Int) - 1 = ((pre.length - 1:Nat):Int) by omega,ig _ _ (by omega)]
    simp only [eQ]
    rw [List.getElem_append_left hm]
   have hdm:pre[pre.length - 1] ∈ Q:=by rw [eQ]; exact List.mem_append.2 (.inl (List.getElem_mem hm))
   have hdn:=(hP.asd _ hdm).1
   have hd0':0 < (pre[pre.length - 1]).length:=List.length_pos_iff.2 hdn
   have hsr:List.Pairwise (fun c d:List Int=>hd c < hd d) (pre ++ c :: post):=eQ ▸ hP.srt
   have hlt:=(List.pairwise_append.1 hsr).2.2 _ (List.getElem_mem hm) c (List.mem_cons_self ..)
   refine aN.g1 rfl (aN.dp hc (aN.g1 rfl (aN.idx (by omega) (by omega) (aN.g1 rfl (aN.idx (by omega) (by omega) (aN.g1 rfl ?_))))))
   rw [hid]
   refine aN.idx (by omega) (by omega) (aN.iff ?_ main)
   rw [hhd hcm hne,hhd hdm hdn]
   simp; omega
 ·rintro o ⟨w,rfl,hW1,hW2,hW3⟩
  have hwm:∀ a,Mv fx a → ∃ j:Nat,∃ hj:j < Q.length,a ∈ Q[j] ∧ idx w a = (j:Int) + 1:=fun a ha=>by
   obtain ⟨c,hc,hac⟩:=(hP.dom a).1 ha
   obtain ⟨j,hj,rfl⟩:=List.getElem_of_mem hc
   exact ⟨j,hj,hac,hW2 j hj a hac⟩
  refine aN.bind (P:=(· = .inl ())) ?_ ?_
  ·refine aN.pass (by omega) (by omega) (by omega) (fun k h1 h2=>?_) rfl
   rw [dE h1 h2,dE h1 (by omega)]
   simp only [Option.bind_some]
   rw [if_neg]
   by_cases hk:idx fx k = true
   ·have:idx w k = 0:=hW3 k h1 (by omega) fun c hc hkc=>by
     have:=((hP.dom k).2 ⟨c,hc,hkc⟩).2.2
     rw [hk] at this; cases this
    simp [hk,this]
   ·have hk:idx fx k = false:=by simpa using hk
    obtain ⟨j,hj,_,e⟩:=hwm k ⟨h1,h2,hk⟩
    rw [hk,e]; simp; omega
  ·rintro o rfl
   refine aN.bind (P:=(· = .inl ())) ?_ (by rintro o rfl; exact aN.dp k3 (aN.some rfl))
   refine aN.pass (by omega) (by omega) (by omega) (fun k h1 h2=>?_) rfl
   obtain ⟨a1,a2,a3,a4,a5⟩:=hg.2 _ (np h1 h2)
   rw [dE h1 h2]
   simp only [Option.bind_some]
   rw [dE a1 (by omega)]
   simp only [Option.bind_some]
   by_cases m0:idx fx (idx ls k).a0 = true
   ·rw [m0]; simp [ca]
   ·have m0:idx fx (idx ls k).a0 = false:=by simpa using m0
    rw [m0,dE a3 (by omega)]
    by_cases m1:idx fx (idx ls k).a1 = true
    ·rw [m1]; simp [ca]
    ·have m1:idx fx (idx ls k).a1 = false:=by simpa using m1
     rw [m1,dE a1 (by omega),dE a3 (by omega)]
     simp only [ca,Bool.not_false,Bool.and_self,if_true,Option.bind_some,m1,Bool.true_and]
     rw [if_neg]
     obtain ⟨j,hj,hjm,e⟩:=hwm _ ⟨a1,a2,m0⟩
     have hb:(idx ls k).a1 ∈ Q[j]:=(hP.cl _ (List.getElem_mem hj) _ _ ⟨idx ls k,np h1 h2,⟨m0,m1⟩,rfl,rfl⟩).1 hjm
     rw [e,hW2 j hj _ hb]
     simp
end Go.Proofs.Ytgojigdbelkgoaa
namespace Go.Proofs.Ytgojigdbelkgoaa
open Go Go.Sk
theorem my (x0:List Bool) (x1:List A2):ax Try.prog [] 6 [] [.one (.sl 1 (x0.map eB)),.one (.sl 2 (x1.map (cm .i64)))] (Is [] (.b (.one (.bool true)))) :=
 dS (mx x0 x1)
end Go.Proofs.Ytgojigdbelkgoaa
