/- the plain law -/
import Derived.Test.YtgojigdbelkgoaaW3
namespace Go.Proofs.Ytgojigdbelkgoaa
open Go Go.Sk
set_option maxRecDepth 100000
set_option linter.unusedVariables false
set_option linter.unusedSimpArgs false
def o6 (x:Int):List Int → List Int
 | []=>[x]
 | y :: l=>if x ≤ y then x :: y :: l else y :: o6 x l
def na:List Int → List Int
 | []=>[]
 | x :: l=>o6 x (na l)
theorem lK (x:Int):∀ l:List Int,(o6 x l).Perm (x :: l)
 | []=>.refl _
 | y :: l=>by
  unfold o6
  split
  ·exact .refl _
  ·exact .trans (.cons y (lK x l)) (.swap x y l)
theorem mO:∀ l:List Int,(na l).Perm l
 | []=>.refl _
 | x :: l=>(lK x (na l)).trans (.cons x (mO l))
theorem qc (x:Int):∀ l:List Int,l.Pairwise (· ≤ ·) → (o6 x l).Pairwise (· ≤ ·)
 | [],_=>by simp [o6]
 | y :: l,h=>by
  unfold o6
  have h1:=List.pairwise_cons.1 h
  split
  ·next hc=>
   refine List.pairwise_cons.2 ⟨fun z hz=>?_,h⟩
   rcases List.mem_cons.1 hz with rfl | hz
   ·exact hc
   ·exact Int.le_trans hc (h1.1 z hz)
  ·next hc=>
   refine List.pairwise_cons.2 ⟨fun z hz=>?_,qc x l h1.2⟩
   rcases List.mem_cons.1 ((lK x l).mem_iff.1 hz) with rfl | hz
   ·omega
   ·exact h1.1 z hz
theorem oD:∀ l:List Int,(na l).Pairwise (· ≤ ·)
 | []=>.nil
 | x :: l=>qc x _ (oD l)
theorem sorted_perm (l:List Int):(sorted l).Perm l:=List.mergeSort_perm _ _
theorem qn (l:List Int):(sorted l).Pairwise (· ≤ ·) :=
 (List.pairwise_mergeSort (le:=fun x y:Int=>decide (x ≤ y)) (fun a b c h1 h2=>by simp only [decide_eq_true_eq] at *; omega) (fun a b=>by simp only [Bool.or_eq_true,decide_eq_true_eq]; omega) l).imp fun h=>of_decide_eq_true h
theorem qo (l:List Int):sorted l = na l :=
 List.Perm.eq_of_pairwise (fun a b _ _ h1 h2=>Int.le_antisymm h1 h2) (qn l) (oD l) ((sorted_perm l).trans (mO l).symm)
def sort2 (F:Nat) (zs:List Int):Option (List Int):=if zs.length < 1000000000 then some (na zs) else none
theorem sort_eq:cV = sort2:=by
 funext F zs
 unfold cV jg sort2
 rw [qo]
theorem jJ:bL 2000 = some true:=by
 unfold bL cw en fK eC fm bN eh bG cI
 rw [sort_eq]
 decide +kernel
end Go.Proofs.Ytgojigdbelkgoaa
namespace Go.Proofs.Ytgojigdbelkgoaa
open Go Go.Sk
set_option linter.unusedVariables false
set_option linter.unusedSimpArgs false
section
variable {F:Nat} (hF:F ≤ 1000000000)
include hF
theorem has35 {l:List Int} {n:Int} (hl:l.length < F):dr F l n = some (decide (n ∈ l)):=by
 refine av.eq ?_
 unfold dr
 refine av.bind (P:=fun o:Unit ⊕ Bool=>(o = .inl () ∧ ¬ n ∈ l) ∨ (o = .inr true ∧ n ∈ l)) ?_ ?_
 ·refine av.find (c:=fun x=>decide (x = n)) (r:=fun _=>true) hl (by omega) (fun h=>.inl ⟨rfl,fun hm=>by have:=h n hm; simp at this⟩) (fun pre x post e _ hc=>.inr ⟨rfl,by rw [e,← of_decide_eq_true hc]; simp⟩) fun i x hx=>by rw [hx]; rfl
 ·rintro o (⟨rfl,h⟩ | ⟨rfl,h⟩)
  ·exact av.some (by simp [h])
  ·exact av.some (by simp [h])
theorem with35 {l:List Int} {n:Int} (hl:l.length < F) (hs:nz l):av (dV F l n) fun o=>nz o ∧ ∀ z,z ∈ o ↔ z = n ∨ z ∈ l:=by
 unfold dV
 refine av.cj (has35 hF hl) (av.ite (fun h=>av.some ⟨hs,fun z=>⟨.inr,?_⟩⟩) fun h=>?_)
 ·have h:=of_decide_eq_true h
  rintro (rfl | h')
  ·exact h
  ·exact h'
 have hn:n ∉ l:=of_decide_eq_false h
 refine av.bind (P:=fun o:List Int × Bool=>ig (fun x:Int=>x) n l o.1 o.2) ?_ ?_
 ·refine av.ea3 (I:=fun pre out p=>ig (fun x:Int=>x) n pre out p ∧ out.length ≤ pre.length + 1) hl (by omega) ⟨ig.zero,by simp⟩ ?_ fun a b h=>h.1
  rintro pre x post out p e hx ⟨hI,hlen⟩
  have hlt:∀ a ∈ pre,a < x:=fun a ha=>(List.pairwise_append.1 (e ▸ hs)).2.2 a ha x (List.mem_cons_self ..)
  have hxn:x ≠ n:=fun e'=>hn (by rw [e,← e']; simp)
  have hpl:pre.length < l.length:=by rw [e]; simp
  refine av.bind (P:=fun z:List Int × Bool=>ig (fun x:Int=>x) n (pre ++ [x]) z.1 z.2 ∧ z.1.length ≤ pre.length + 2) ?_ fun z hz=>av.some (.inl ⟨_,_,rfl,hz.1,by simpa using hz.2⟩)
  refine av.bind (P:=fun z:List Int × Bool=>ig (fun x:Int=>x) n (pre ++ [x]) (z.1 ++ [x]) z.2 ∧ z.1.length ≤ pre.length + 1) ?_ ?_
  ·cases p with
   | true=>exact av.g0 rfl (av.iff rfl (av.some ⟨hI.next (.inl rfl) hxn hlt,hlen⟩))
   | false=>
    refine av.g1 rfl (av.cj hx (av.ite (fun hc=>?_) fun hc=>?_))
    ·have hc:n < x:=by simpa using hc
     obtain ⟨A,B,h1,_,_,h | h⟩:=id hI
     ·refine av.app (by simp only [List.length_singleton]; omega) (av.some ⟨hI.put hc,?_⟩)
      obtain ⟨_,rfl,rfl⟩:=h
      simp [h1]
     ·exact absurd h.1 (by simp)
    ·have hc:¬ n < x:=by simpa using hc
     exact av.some ⟨hI.next (.inr (by omega)) hxn hlt,hlen⟩
  ·rintro ⟨o,p'⟩ ⟨h1,h2⟩
   simp only at h1 h2
   exact av.cj hx (av.app (by simp only [List.length_singleton]; omega) (av.some ⟨h1,by simp; omega⟩))
 ·rintro ⟨o,p⟩ hI
  obtain ⟨h1,h2⟩:=hI.fin hs
  simp only at h1 h2 ⊢
  refine av.bind (P:=(· = if (!p) = true then o ++ [n] else o)) ?_ fun z hz=>av.some ?_
  ·obtain ⟨A,B,h3,_,_,h | h⟩:=hI
   ·obtain ⟨rfl,rfl,h4⟩:=h
    simp only at h4
    refine av.qL rfl (av.app (by rw [h4]; simp only [List.length_singleton]; simp at h3; rw [← h3]; omega) (av.some rfl))
   ·obtain ⟨rfl,_,_⟩:=h
    exact av.iff rfl (av.some rfl)
  ·rw [hz]
   refine ⟨h1,fun z=>?_⟩
   rw [h2.mem_iff,List.mem_cons]
theorem pS {a b B:List Int} (hb:b.length < F) (hs:nz a) (hB:B.length < F) (hsub:∀ z,(z ∈ a ∨ z ∈ b) → z ∈ B):av (c8 F a b) fun o=>nz o ∧ ∀ z,z ∈ o ↔ z ∈ a ∨ z ∈ b:=by
 unfold c8
 refine av.bind ?_ (fun o ho=>av.some ho)
 refine av.ea2 (I:=fun pre o=>nz o ∧ ∀ z,z ∈ o ↔ z ∈ a ∨ z ∈ pre) hb (by omega) ⟨hs,by simp⟩ ?_ fun s h=>h
 rintro pre x post o e hx ⟨h1,h2⟩
 have hol:o.length < F:=by
  have:o.length ≤ B.length:=nZ h1 fun z hz=>hsub z (((h2 z).1 hz).imp_right fun h=>by rw [e]; simp [h])
  omega
 refine av.cj hx (av.bind (with35 hF hol h1) fun o' ho'=>av.some (.inl ⟨_,rfl,ho'.1,fun z=>?_⟩))
 rw [ho'.2,h2,List.mem_append,List.mem_singleton]
 constructor
 ·rintro (h | h | h)
  ·exact .inr (.inr h)
  ·exact .inl h
  ·exact .inr (.inl h)
 ·rintro (h | h | h)
  ·exact .inr (.inl h)
  ·exact .inr (.inr h)
  ·exact .inl h
theorem meets35 {a b:List Int} (ha:a.length < F) (hb:b.length < F):dK F a b = some (a.any fun u=>b.contains u):=by
 refine av.eq ?_
 unfold dK
 refine av.bind (P:=fun o:Unit ⊕ Bool=>(o = .inl () ∧ ∀ x ∈ a,b.contains x = false) ∨ (o = .inr true ∧ ∃ x ∈ a,b.contains x = true)) ?_ ?_
 ·refine av.find (c:=fun x=>b.contains x) (r:=fun _=>true) ha (by omega) (fun h=>.inl ⟨rfl,h⟩) (fun pre x post e _ hc=>.inr ⟨rfl,x,by rw [e]; simp,hc⟩) fun i x hx=>by
   rw [hx,Option.bind_some,has35 hF hb,List.contains_eq_mem]; rfl
 ·rintro o (⟨rfl,h⟩ | ⟨rfl,h⟩)
  ·refine av.some (Eq.symm ?_)
   rw [List.any_eq_false]; intro x hx; rw [h x hx]; simp
  ·exact av.some (Eq.symm (List.any_eq_true.2 h))
theorem put35 {l:List (List Int)} {x:List Int} (hl:l.length < F) (hn:∀ c ∈ l,c ≠ []) (hx:x ≠ []) (hs:HdL l) (hd':∀ c ∈ l,hd c ≠ hd x):av (ew F l x) fun o=>HdL o ∧ o.Perm (x :: l):=by
 unfold ew
 have h0:∀ c:List Int,c ≠ [] → aO c 0 = some (hd c):=fun c hc=>by
  cases c with
  | nil=>exact absurd rfl hc
  | cons a c=>exact qe [] c a
 refine av.bind (P:=fun o:List (List Int) × Bool=>ig hd x l o.1 o.2) ?_ ?_
 ·refine av.ea3 (I:=fun pre out p=>ig hd x pre out p ∧ out.length ≤ pre.length + 1) hl (by omega) ⟨ig.zero,by simp⟩ ?_ fun a b h=>h.1
  rintro pre y post out p e hy ⟨hI,hlen⟩
  have hlt:∀ a ∈ pre,hd a < hd y:=fun a ha=>(List.pairwise_append.1 (e ▸ hs)).2.2 a ha y (List.mem_cons_self ..)
  have hym:y ∈ l:=by rw [e]; simp
  have hpl:pre.length < l.length:=by rw [e]; simp
  refine av.bind (P:=fun z:List (List Int) × Bool=>ig hd x (pre ++ [y]) z.1 z.2 ∧ z.1.length ≤ pre.length + 2) ?_ fun z hz=>av.some (.inl ⟨_,_,rfl,hz.1,by simpa using hz.2⟩)
  refine av.bind (P:=fun z:List (List Int) × Bool=>ig hd x (pre ++ [y]) (z.1 ++ [y]) z.2 ∧ z.1.length ≤ pre.length + 1) ?_ ?_
  ·cases p with
   | true=>exact av.g0 rfl (av.g0 rfl (av.g0 rfl (av.iff rfl (av.some ⟨hI.next (.inl rfl) (hd' y hym) hlt,hlen⟩))))
   | false=>
    refine av.g1 rfl (av.cj hy (av.g1 rfl (av.cj (h0 y (hn y hym)) (av.g1 rfl (av.cj (h0 x hx) (av.ite (fun hc=>?_) fun hc=>?_))))))
    ·have hc:hd x < hd y:=by simpa using hc
     obtain ⟨A,B,h1,_,_,h | h⟩:=id hI
     ·refine av.app (by simp only [List.length_singleton]; omega) (av.some ⟨hI.put hc,?_⟩)
      obtain ⟨_,rfl,rfl⟩:=h
      simp [h1]
     ·exact absurd h.1 (by simp)
    ·have hc:¬ hd x < hd y:=by simpa using hc
     exact av.some ⟨hI.next (.inr (by omega)) (hd' y hym) hlt,hlen⟩
  ·rintro ⟨o,p'⟩ ⟨h1,h2⟩
   simp only at h1 h2
   exact av.cj hy (av.app (by simp only [List.length_singleton]; omega) (av.some ⟨h1,by simp; omega⟩))
 ·rintro ⟨o,p⟩ hI
  obtain ⟨h1,h2⟩:=hI.fin hs
  simp only at h1 h2 ⊢
  refine av.bind (P:=(· = if (!p) = true then o ++ [x] else o)) ?_ fun z hz=>av.some ?_
  ·obtain ⟨A,B,h3,_,_,h | h⟩:=hI
   ·obtain ⟨rfl,rfl,h4⟩:=h
    simp only at h4
    refine av.qL rfl (av.app (by rw [h4]; simp only [List.length_singleton]; simp at h3; rw [← h3]; omega) (av.some rfl))
   ·obtain ⟨rfl,_,_⟩:=h
    exact av.iff rfl (av.some rfl)
  ·rw [hz]
   exact ⟨h1,h2⟩
end
def pr (L:List (List Int)) (a b:Int):Prop:=∃ c ∈ L,a ∈ c ∧ b ∈ c
def dm (L:List (List Int)) (a:Int):Prop:=∃ c ∈ L,a ∈ c
theorem pr_dm {L:List (List Int)} (a b:Int) (h:pr L a b):dm L a ∧ dm L b:=by
 obtain ⟨c,hc,h1,h2⟩:=h; exact ⟨⟨c,hc,h1⟩,c,hc,h2⟩
theorem nX {L:List (List Int)} (a:Int):dm L a ↔ a ∈ L.flatten:=by
 unfold dm; rw [List.mem_flatten]
theorem qh {P D:_} {s:List (List Int)} {B:List Int} (h:IsPt P D s) (hB:∀ a,D a → a ∈ B) {c:List Int} (hc:c ∈ s):c.length ≤ B.length :=
 nZ (h.asd c hc).2 fun a ha=>hB a ((h.dom a).2 ⟨c,hc,ha⟩)
theorem pc {P D:_} {s:List (List Int)} {B:List Int} (h:IsPt P D s) (hB:∀ a,D a → a ∈ B):s.length ≤ B.length:=by
 have:(s.map hd).Nodup:=List.pairwise_map.2 (List.Pairwise.imp_of_mem (fun {c d} hc hd' h' e=>h' _ (fw (h.asd c hc).1) (e ▸ fw (h.asd d hd').1)) h.dj)
 have h2:=nE (m:=B) this fun a ha=>by
  obtain ⟨c,hc,rfl⟩:=List.mem_map.1 ha
  exact hB _ ((h.dom _).2 ⟨c,hc,fw (h.asd c hc).1⟩)
 simpa using h2
theorem p8 {F:Nat} (hF:F ≤ 100000000) {L:List (List Int)} (hl:L.length < F) (hB:L.flatten.length < F):av (cD F L) (Part (pr L) (dm L)):=by
 have hF':F ≤ 1000000000:=by omega
 unfold cD
 refine av.bind (P:=fun s=>IsPt (pr L) (dm L) s) ?_ ?_
 ·refine av.ea2 (I:=fun pre s=>IsPt (pr pre) (dm pre) s) hl (by omega) ⟨by simp,by simp,by simp [dm],by simp,by simp⟩ ?_ fun s h=>h
  rintro pre x0 post s e hx hI
  refine av.bind (P:=fun s'=>IsPt (pr (pre ++ [x0])) (dm (pre ++ [x0])) s') ?_ fun s' h=>av.some (.inl ⟨_,rfl,h⟩)
  have hx0:∀ z ∈ x0,z ∈ L.flatten:=fun z hz=>(nX z).1 ⟨x0,by rw [e]; simp,hz⟩
  have hpre:∀ z,dm pre z → z ∈ L.flatten:=fun z ⟨c,hc,hz⟩=>(nX z).1 ⟨c,by rw [e]; simp [hc],hz⟩
  have hx0l:x0.length < F:=by
   have:x0.length ≤ L.flatten.length:=by rw [e]; simp; omega
   omega
  have hsl:s.length < F:=by have:=pc hI hpre; omega
  refine av.cj hx (av.bind (pS hF' (B:=L.flatten) hx0l List.Pairwise.nil hB (by simpa using hx0)) ?_)
  rintro x ⟨hxa,hxm⟩
  simp only [List.not_mem_nil,false_or] at hxm
  refine av.ite (fun hc=>av.some ?_) fun hc=>?_
  ·have:x0 = []:=by
    have hc:=of_decide_eq_true hc
    have hx':x = []:=List.length_eq_zero_iff.1 (by omega)
    cases x0 with
    | nil=>rfl
    | cons a x0=>have:=(hxm a).2 (List.mem_cons_self ..); rw [hx'] at this; cases this
   subst this
   refine hI.congr (fv.congr (fun a b ⟨c,hc,h⟩=>.of ⟨c,by simp [hc],h⟩) fun a b ⟨c,hc,h⟩=>.of ⟨c,?_,h⟩) fun a=>⟨fun ⟨c,hc,h⟩=>⟨c,by simp [hc],h⟩,fun ⟨c,hc,h⟩=>⟨c,?_,h⟩⟩
   ·rcases List.mem_append.1 hc with hc | hc
    ·exact hc
    ·rw [List.mem_singleton.1 hc] at h; exact absurd h.1 (by simp)
   ·rcases List.mem_append.1 hc with hc | hc
    ·exact hc
    ·rw [List.mem_singleton.1 hc] at h; exact absurd h (by simp)
  ·have hxne:x ≠ []:=by
    rintro rfl; simp at hc
   refine av.bind (P:=fun o:List Int × List (List Int)=>nz o.1 ∧ (∀ z,z ∈ o.1 ↔ z ∈ x ∨ ∃ c ∈ s,(∃ u ∈ c,u ∈ x) ∧ z ∈ c) ∧ o.2 = s.filter fun c=>!(c.any fun u=>x.contains u)) ?_ ?_
   ·refine av.ea3 (I:=fun q y rest=>nz y ∧ (∀ z,z ∈ y ↔ z ∈ x ∨ ∃ c ∈ q,(∃ u ∈ c,u ∈ x) ∧ z ∈ c) ∧ rest = q.filter fun c=>!(c.any fun u=>x.contains u)) hsl (by omega) ⟨hxa,by simp,rfl⟩ ?_ fun a b h=>h
    rintro q c post' y rest e' hc' ⟨h1,h2,h3⟩
    have hcs:c ∈ s:=by rw [e']; simp
    have hq:∀ d ∈ q,d ∈ s:=fun d hd=>by rw [e']; simp [hd]
    have hdj:∀ d ∈ q,∀ z ∈ d,z ∉ c:=fun d hd=>(List.pairwise_append.1 (e' ▸ hI.dj)).2.2 d hd c (List.mem_cons_self ..)
    have hcl:c.length < F:=by have:=qh hI hpre hcs; omega
    have hyB:∀ z ∈ y,z ∈ L.flatten:=fun z hz=>by
     rcases (h2 z).1 hz with hz | ⟨d,hd,_,hz⟩
     ·exact hx0 z ((hxm z).1 hz)
     ·exact hpre z ((hI.dom z).2 ⟨d,hq d hd,hz⟩)
    have hyl:y.length < F:=by have:=nZ h1 hyB; omega
    have hmt:(c.any fun u=>y.contains u) = c.any fun u=>x.contains u:=by
     rw [Bool.eq_iff_iff,List.any_eq_true,List.any_eq_true]
     simp only [List.contains_eq_mem,decide_eq_true_eq]
     constructor
     ·rintro ⟨u,hu,huy⟩
      rcases (h2 u).1 huy with h | ⟨d,hd,_,hud⟩
      ·exact ⟨u,hu,h⟩
      ·exact absurd hu (hdj d hd u hud)
     ·rintro ⟨u,hu,hux⟩; exact ⟨u,hu,(h2 u).2 (.inl hux)⟩
    refine av.bind (P:=fun o:List Int × List (List Int)=>nz o.1 ∧ (∀ z,z ∈ o.1 ↔ z ∈ x ∨ ∃ d ∈ q ++ [c],(∃ u ∈ d,u ∈ x) ∧ z ∈ d) ∧ o.2 = (q ++ [c]).filter fun c=>!(c.any fun u=>x.contains u)) ?_ fun o ho=>av.some (.inl ⟨_,_,rfl,ho⟩)
    refine av.cj hc' (av.cj (meets35 hF' hcl hyl) ?_)
    rw [hmt]
    refine av.ite (fun hm=>?_) fun hm=>?_
    ·have hm':∃ u ∈ c,u ∈ x:=by simpa using hm
     refine av.cj hc' (av.bind (pS hF' hcl h1 hB (B:=L.flatten) ?_) fun y' hy'=>av.some ⟨hy'.1,fun z=>?_,?_⟩)
     ·rintro z (hz | hz)
      ·exact hyB z hz
      ·exact hpre z ((hI.dom z).2 ⟨c,hcs,hz⟩)
     ·rw [hy'.2,h2]
      constructor
      ·rintro ((h | ⟨d,hd,h⟩) | h)
       ·exact .inl h
       ·exact .inr ⟨d,by simp [hd],h⟩
       ·exact .inr ⟨c,by simp,hm',h⟩
      ·rintro (h | ⟨d,hd,h⟩)
       ·exact .inl (.inl h)
       ·rcases List.mem_append.1 hd with hd | hd
        ·exact .inl (.inr ⟨d,hd,h⟩)
        ·rw [List.mem_singleton.1 hd] at h; exact .inr h.2
     ·rw [h3,List.filter_append]
      simp only [List.filter_cons,List.filter_nil,hm]
      simp
    ·have hm':¬ ∃ u ∈ c,u ∈ x:=by simpa using hm
     have hrl:rest.length ≤ s.length:=by
      rw [h3]; refine Nat.le_trans (List.length_filter_le _ _) ?_
      rw [e']; simp
     refine av.cj hc' (av.app (by simp only [List.length_singleton]; omega) (av.some ⟨h1,fun z=>?_,?_⟩))
     ·rw [h2]
      constructor
      ·rintro (h | ⟨d,hd,h⟩)
       ·exact .inl h
       ·exact .inr ⟨d,by simp [hd],h⟩
      ·rintro (h | ⟨d,hd,h⟩)
       ·exact .inl h
       ·rcases List.mem_append.1 hd with hd | hd
        ·exact .inr ⟨d,hd,h⟩
        ·rw [List.mem_singleton.1 hd] at h; exact absurd h.1 hm'
     ·rw [h3,List.filter_append]
      simp only [List.filter_cons,List.filter_nil,hm]
      simp
   ·rintro ⟨y,rest⟩ ⟨h1,h2,h3⟩
    simp only at h1 h2 h3
    have hrl:rest.length ≤ s.length:=by rw [h3]; exact List.length_filter_le _ _
    refine av.app (by simp only [List.length_singleton]; omega) (av.some ?_)
    refine hI.add (x:=x) pr_dm hxne h1 h2 (fun a b=>?_) (fun a=>?_) h3
    ·unfold pr
     simp only [List.mem_append,List.mem_singleton]
     constructor
     ·rintro ⟨c,hc | rfl,h⟩
      ·exact .inl ⟨c,hc,h⟩
      ·exact .inr ⟨(hxm a).2 h.1,(hxm b).2 h.2⟩
     ·rintro (⟨c,hc,h⟩ | ⟨h,h'⟩)
      ·exact ⟨c,.inl hc,h⟩
      ·exact ⟨x0,.inr rfl,(hxm a).1 h,(hxm b).1 h'⟩
    ·unfold dm
     simp only [List.mem_append,List.mem_singleton]
     constructor
     ·rintro ⟨c,hc | rfl,h⟩
      ·exact .inl ⟨c,hc,h⟩
      ·exact .inr ((hxm a).2 h)
     ·rintro (⟨c,hc,h⟩ | h)
      ·exact ⟨c,.inl hc,h⟩
      ·exact ⟨x0,.inr rfl,(hxm a).1 h⟩
 ·intro s hs
  have hsl:s.length < F:=by have:=pc hs (fun a=>(nX a).1); omega
  refine av.bind ?_ (fun o ho=>av.some ho)
  refine av.ea2 (I:=fun q o=>HdL o ∧ o.Perm q) hsl (by omega) ⟨List.Pairwise.nil,.refl _⟩ ?_ ?_
  ·rintro q c post o e hc ⟨h1,h2⟩
   have hcs:c ∈ s:=by rw [e]; simp
   have hq:∀ d ∈ q,d ∈ s:=fun d hd=>by rw [e]; simp [hd]
   have hol:o.length < F:=by
    rw [h2.length_eq]
    have:q.length < s.length:=by rw [e]; simp
    omega
   have hdj:∀ d ∈ q,∀ z ∈ d,z ∉ c:=fun d hd=>(List.pairwise_append.1 (e ▸ hs.dj)).2.2 d hd c (List.mem_cons_self ..)
   refine av.cj hc (av.bind (put35 hF' hol (fun d hd=>(hs.asd d (hq d (h2.mem_iff.1 hd))).1) (hs.asd c hcs).1 h1 fun d hd e=>?_) fun o' ho'=>av.some (.inl ⟨_,rfl,ho'.1,?_⟩))
   ·have hd':=h2.mem_iff.1 hd
    exact hdj d hd' _ (fw (hs.asd d (hq d hd')).1) (e ▸ fw (hs.asd c hcs).1)
   ·exact ho'.2.trans ((List.Perm.cons c h2).trans (List.perm_append_singleton c q).symm)
  ·rintro o ⟨h1,h2⟩
   exact { asd:=fun c hc=>hs.asd c (h2.mem_iff.1 hc),dj:=(h2.pairwise_iff (fun {a b} h z hz hza=>h z hza hz)).2 hs.dj,dom:=fun a=>by rw [hs.dom]; simp only [h2.mem_iff],con:=fun c hc=>hs.con c (h2.mem_iff.1 hc),cl:=fun c hc=>hs.cl c (h2.mem_iff.1 hc),srt:=h1 }
end Go.Proofs.Ytgojigdbelkgoaa
namespace Go.Proofs.Ytgojigdbelkgoaa
open Go Go.Sk
set_option linter.unusedVariables false
set_option linter.unusedSimpArgs false
def ao (m:bo):List Int:=m.map (·.1)
def cnt (m:bo) (x:Int):Nat:=((ao m).filter fun z=>decide (z < x)).length
theorem cnt_le (m:bo) (x:Int):cnt m x ≤ m.length:=by
 unfold cnt ao; refine Nat.le_trans (List.length_filter_le _ _) ?_; simp
theorem cnt_lt {m:bo} {u x:Int} (hu:cH m u = true) (h:u < x):cnt m u < cnt m x:=by
 have hm:=(ir u m).1 hu
 unfold cnt
 have:∀ ks:List Int,(∀ z,z ∈ ks → True) → (ks.filter fun z=>decide (z < u)).length ≤ (ks.filter fun z=>decide (z < x)).length ∧ (u ∈ ks → (ks.filter fun z=>decide (z < u)).length < (ks.filter fun z=>decide (z < x)).length):=fun ks _=>by
  induction ks with
  | nil=>simp
  | cons a ks ih=>
   have ih:=ih (fun _ _=>trivial)
   simp only [List.filter_cons,List.mem_cons]
   by_cases h1:a < u
   ·have h2:a < x:=by omega
    simp only [h1,h2,decide_true,if_true,List.length_cons]
    refine ⟨by omega,?_⟩
    rintro (rfl | h')
    ·omega
    ·have:=ih.2 h'; omega
   ·by_cases h2:a < x
    ·simp only [h1,h2,decide_true,decide_false,if_true,List.length_cons]
     refine ⟨by have:=ih.1; simp; omega,fun _=>by have:=ih.1; simp; omega⟩
    ·simp only [h1,h2,decide_false]
     refine ⟨by simpa using ih.1,?_⟩
     rintro (rfl | h')
     ·omega
     ·simpa using ih.2 h'
 exact (this (ao m) fun _ _=>trivial).2 hm
theorem pX {F:Nat}:∀ (n:Nat) {m:bo} {r:Int → Int} {x:Int},lb m r → cnt m x < n → av (cg F n x m) fun z=>z.1 = r x ∧ lb z.2 r ∧ ao z.2 = if cH m x then ao m else ao m ++ [x]
 | 0,m,r,x,h,hn=>by omega
 | n + 1,m,r,x,h,hn=>by
  show av (if (!(cH m x)) = true then _ else _) _
  refine av.ite (fun hc=>?_) fun hc=>?_
  ·have hc:cH m x = false:=by simpa using hc
   refine av.some ⟨(h.out x hc).symm,h.add hc,?_⟩
   simp only [ao]
   rw [iy]
  ·have hc:cH m x = true:=by simpa using hc
   refine av.ite (fun he=>av.some ⟨(h.fix x hc (of_decide_eq_true he)).symm,h,by simp [hc]⟩) fun he=>?_
   have he:=of_decide_eq_false he
   have hu:=h.has x hc
   have hl:cn m x < x:=by have:=h.le x hc; omega
   refine av.bind (pX n (x:=cn m x) h (by have:=cnt_lt hu hl; omega)) ?_
   rintro ⟨a,m'⟩ ⟨h1,h2,h3⟩
   simp only at h1 h2 h3
   rw [hu,if_pos rfl] at h3
   have e:a = r x:=by rw [h1,h.step x hc]
   have hx':cH m' x = true:=by rw [ir]; show x ∈ ao m'; rw [h3]; exact (ir x m).1 hc
   refine av.some ⟨e,?_,?_⟩
   ·simp only; rw [e]; exact h2.short hx'
   ·simp only [ao]
    rw [iy,hx',hc]
    exact h3
theorem gy {m:bo} {x:Int}:cH m x = true ↔ x ∈ ao m:=ir x m
theorem nB {F:Nat} {m:bo} {r:Int → Int} {x:Int} (h:lb m r) (hF:m.length < F):av (bH F x m) fun z=>z.1 = r x ∧ lb z.2 r ∧ (∀ y,y ∈ ao z.2 ↔ y = x ∨ y ∈ ao m) ∧ z.2.length ≤ m.length + 1 ∧ (cH m x = true → ao z.2 = ao m):=by
 refine (pX F h (by have:=cnt_le m x; omega)).mono ?_
 rintro ⟨a,m'⟩ ⟨h1,h2,h3⟩
 simp only at h1 h2 h3 ⊢
 have hl:(ao m').length = m'.length:=by simp [ao]
 have hl2:(ao m).length = m.length:=by simp [ao]
 refine ⟨h1,h2,fun y=>?_,?_,fun hh=>by rw [h3,hh]; rfl⟩
 ·rw [h3]
  split
  ·next hc=>
   constructor
   ·exact .inr
   ·rintro (rfl | h)
    ·exact gy.1 hc
    ·exact h
  ·simp [or_comm]
 ·rw [← hl,h3]; split <;> simp [hl2]
theorem join_S {F:Nat} {m:bo} {r:Int → Int} {x y:Int} (h:lb m r) (hF:m.length + 1 < F):av (bR F x y m) fun z=>z.1 = decide (r x ≠ r y) ∧ lb z.2 (jn r x y) ∧ (∀ u,u ∈ ao z.2 ↔ u = x ∨ u = y ∨ u ∈ ao m) ∧ z.2.length ≤ m.length + 2:=by
 unfold bR
 refine av.bind (nB h (by omega)) ?_
 rintro ⟨a,m1⟩ ⟨rfl,h1,k1,l1,_⟩
 simp only at h1 k1 l1 ⊢
 refine av.bind (nB h1 (by simp only; omega)) ?_
 rintro ⟨b,m2⟩ ⟨rfl,h2,k2,l2,_⟩
 simp only at h2 k2 l2 ⊢
 have kk:∀ u,u ∈ ao m2 ↔ u = x ∨ u = y ∨ u ∈ ao m:=fun u=>by
  rw [k2,k1]; constructor
  ·rintro (h | h | h)
   ·exact .inr (.inl h)
   ·exact .inl h
   ·exact .inr (.inr h)
  ·rintro (h | h | h)
   ·exact .inr (.inl h)
   ·exact .inl h
   ·exact .inr (.inr h)
 refine av.ite (fun hc=>?_) fun hc=>?_
 ·have hc:r x = r y:=of_decide_eq_true hc
  have ej:jn r x y = r:=funext fun z=>by unfold jn; rw [hc,Int.max_self,Int.min_self]; split <;> simp_all
  rw [ej]
  exact av.some ⟨by simp [hc],h2,kk,by simp only; omega⟩
 ·have hc:r x ≠ r y:=of_decide_eq_false hc
  have hx:cH m2 x = true:=gy.2 ((kk x).2 (.inl rfl))
  have hy:cH m2 y = true:=gy.2 ((kk y).2 (.inr (.inl rfl)))
  have hM:cH m2 (max (r x) (r y)) = true:=by
   have a:=(h2.low x hx).2.1
   have b:=(h2.low y hy).2.1
   by_cases hl:r x ≤ r y
   ·rw [Int.max_eq_right hl]; exact b
   ·rw [Int.max_eq_left (by omega)]; exact a
  have ek:ao (dq m2 (max (r x) (r y)) (min (r x) (r y))) = ao m2:=by
   unfold ao; rw [iy,hM]; rfl
  refine av.some ⟨by simp [hc],h2.join hx hy hc,fun u=>by simp only; rw [ek]; exact kk u,?_⟩
  have:(ao (dq m2 (max (r x) (r y)) (min (r x) (r y)))).length = (ao m2).length:=by rw [ek]
  simp only [ao,List.length_map] at this
  simp only; omega
def ey (ps:List (Int × Int)):Int → Int:=ps.foldl (fun r p=>jn r p.1 p.2) fun x=>x
theorem lA (ps:List (Int × Int)) (x y:Int):ey (ps ++ [(x,y)]) = jn (ey ps) x y:=by simp [ey]
theorem qq (ps:List (Int × Int)) (z:Int):ey ps (ey ps z) = ey ps z:=by
 have:∀ (ps:List (Int × Int)) (r:Int → Int),(∀ z,r (r z) = r z) → ∀ z,ps.foldl (fun r p=>jn r p.1 p.2) r (ps.foldl (fun r p=>jn r p.1 p.2) r z) = ps.foldl (fun r p=>jn r p.1 p.2) r z:=fun ps=>by
  induction ps with
  | nil=>exact fun r h=>h
  | cons p ps ih=>exact fun r h=>ih _ (jn_idem h p.1 p.2)
 exact this ps _ (fun _=>rfl) z
theorem rW:∀ (ps:List (Int × Int)) (a b:Int),ey ps a = ey ps b ↔ fv (fun u v=>(u,v) ∈ ps) a b:=fun ps=>by
 have key:∀ (qs:List (Int × Int)),(∀ a b,ey qs a = ey qs b ↔ fv (fun u v=>(u,v) ∈ qs) a b) → ∀ ps a b,ey (qs ++ ps) a = ey (qs ++ ps) b ↔ fv (fun u v=>(u,v) ∈ qs ++ ps) a b:=fun qs h ps=>by
  induction ps generalizing qs with
  | nil=>simpa using h
  | cons p ps ih=>
   have e:qs ++ p :: ps = (qs ++ [p]) ++ ps:=by simp
   rw [e]
   refine ih _ fun a b=>?_
   rw [show p = (p.1,p.2) from rfl,lA,jn_con (qq qs) h]
   refine fv.congr (fun u v h=>.of ?_) (fun u v h=>.of ?_) a b
   ·rcases h with h | ⟨rfl,rfl⟩ <;> simp_all
   ·rcases List.mem_append.1 h with h | h
    ·exact .inl h
    ·have:=List.mem_singleton.1 h; simp only [Prod.mk.injEq] at this; exact .inr this
 refine key [] (fun a b=>?_) ps
 refine ⟨fun h=>by show fv _ a b; have:a = b:=h; rw [this]; exact .rfl b,fun h=>?_⟩
 refine h.lift (E:=fun a b=>ey [] a = ey [] b) (fun _=>rfl) (fun _ _ h=>h.symm) (fun _ _ _ h1 h2=>h1.trans h2) fun a b h=>by cases h
def m9 (L:List (List Int)):List (Int × Int):=(L.map fun c=>c.map fun n=>(hd c,n)).flatten
theorem kN {L:List (List Int)} {a b:Int}:(a,b) ∈ m9 L ↔ ∃ c ∈ L,hd c = a ∧ b ∈ c:=by
 unfold m9
 rw [List.mem_flatten]
 constructor
 ·rintro ⟨l,hl,h⟩
  obtain ⟨c,hc,rfl⟩:=List.mem_map.1 hl
  obtain ⟨n,hn,h⟩:=List.mem_map.1 h
  simp only [Prod.mk.injEq] at h
  exact ⟨c,hc,h.1,h.2 ▸ hn⟩
 ·rintro ⟨c,hc,rfl,h⟩
  exact ⟨_,List.mem_map.2 ⟨c,hc,rfl⟩,List.mem_map.2 ⟨b,h,rfl⟩⟩
theorem con_prs (L:List (List Int)) (a b:Int):fv (fun u v=>(u,v) ∈ m9 L) a b ↔ fv (pr L) a b:=by
 refine fv.congr (fun u v h=>?_) (fun u v h=>?_) a b
 ·obtain ⟨c,hc,rfl,h'⟩:=kN.1 h
  exact .of ⟨c,hc,fw (List.ne_nil_of_mem h'),h'⟩
 ·obtain ⟨c,hc,h1,h2⟩:=h
  exact .trans (.symm (.of (kN.2 ⟨c,hc,rfl,h1⟩))) (.of (kN.2 ⟨c,hc,rfl,h2⟩))
theorem pD (L M:List (List Int)):m9 (L ++ M) = m9 L ++ m9 M:=by simp [m9]
theorem pZ (L:List (List Int)):(m9 L).length = L.flatten.length:=by
 unfold m9
 rw [List.length_flatten,List.length_flatten,List.map_map]
 congr 1
 refine List.map_congr_left fun c _=>?_
 simp
structure St (m:bo) (ps:List (Int × Int)):Prop where
 up:lb m (ey ps)
 keys:∀ u,u ∈ ao m ↔ ∃ p ∈ ps,u = p.1 ∨ u = p.2
 len:m.length ≤ 2 * ps.length
theorem St.nil:St [] []:=⟨lb.nil,by simp [ao],by simp⟩
theorem St.join {F:Nat} {m:bo} {ps:List (Int × Int)} {x y:Int} (h:St m ps) (hF:2 * ps.length + 1 < F):av (bR F x y m) fun z=>z.1 = decide (ey ps x ≠ ey ps y) ∧ St z.2 (ps ++ [(x,y)]):=by
 refine (join_S h.up (x:=x) (y:=y) (by have:=h.len; omega)).mono ?_
 rintro ⟨b,m'⟩ ⟨h1,h2,h3,h4⟩
 refine ⟨h1,by rw [lA]; exact h2,fun u=>?_,by have:=h.len; simp at h4 ⊢; omega⟩
 rw [h3,h.keys]
 constructor
 ·rintro (h | h | ⟨p,hp,h⟩)
  ·exact ⟨(x,y),by simp,.inl h⟩
  ·exact ⟨(x,y),by simp,.inr h⟩
  ·exact ⟨p,by simp [hp],h⟩
 ·rintro ⟨p,hp,h⟩
  rcases List.mem_append.1 hp with hp | hp
  ·exact .inr (.inr ⟨p,hp,h⟩)
  ·rw [List.mem_singleton.1 hp] at h
   rcases h with h | h
   ·exact .inl h
   ·exact .inr (.inl h)
structure Row (r:Int → Int) (ts:List Int) (at':bo) (out:List (List Int)):Prop where
 len:out.length = (ts.filter fun x=>decide (r x = x)).length
 get:∀ j (h:j < (ts.filter fun x=>decide (r x = x)).length),out[j]? = some (ts.filter fun z=>decide (r z = (ts.filter fun x=>decide (r x = x))[j])) ∧ cn at' ((ts.filter fun x=>decide (r x = x))[j]) = (j:Int)
theorem Row.eq {r:Int → Int} {ts:List Int} {at':bo} {out:List (List Int)} (h:Row r ts at' out):out = canon r ts:=by
 refine List.ext_getElem? fun j=>?_
 unfold canon
 by_cases hj:j < (ts.filter fun x=>decide (r x = x)).length
 ·rw [(h.get j hj).1,List.getElem?_map,List.getElem?_eq_getElem hj]; rfl
 ·rw [List.getElem?_eq_none (by have:=h.len; omega),List.getElem?_eq_none (by rw [List.length_map]; omega)]
theorem Row.step {r:Int → Int} {ts:List Int} {at':bo} {out:List (List Int)} (h:Row r ts at' out) {x:Int} (hx:∀ t ∈ ts,t < x) (hle:∀ z,r z ≤ z) (hi:∀ z,r (r z) = r z) (hr:r x = x ∨ r x ∈ ts) :
  ∃ at2 o2,(at2,o2) = (if r x = x then (dq at' x (out.length:Int),out ++ [[]]) else (at',out)) ∧ ∃ k:Nat,cn at2 (r x) = (k:Int) ∧ k < o2.length ∧ ∃ row,o2[k]? = some row ∧ Row r (ts ++ [x]) at2 (o2.set k (row ++ [x])):=by
 rcases hr with hr | hr
 ·refine ⟨dq at' x (out.length:Int),out ++ [[]],by rw [if_pos hr],out.length,by rw [hr,cf,if_pos rfl],by simp,[],by simp,?_⟩
  have e:(ts ++ [x]).filter (fun y=>decide (r y = y)) = ts.filter (fun y=>decide (r y = y)) ++ [x]:=by simp [List.filter_append,hr]
  have hno:ts.filter (fun z=>decide (r z = x)) = []:=by
   rw [List.filter_eq_nil_iff]
   intro z hz
   have:=hx z hz; have:=hle z
   simp only [decide_eq_true_eq]; omega
  refine ⟨by rw [e]; simp [h.len],fun j hj=>?_⟩
  simp only [e,List.length_append,List.length_singleton] at hj
  by_cases hj2:j < (ts.filter fun y=>decide (r y = y)).length
  ·have hm:(ts.filter fun y=>decide (r y = y))[j] ∈ ts:=(List.mem_filter.1 (List.getElem_mem hj2)).1
   have hne:(ts.filter fun y=>decide (r y = y))[j] ≠ x:=Int.ne_of_lt (hx _ hm)
   simp only [e,List.getElem_append_left hj2]
   obtain ⟨h1,h2⟩:=h.get j hj2
   have hjl:j < out.length:=by have:=h.len; omega
   refine ⟨?_,by rw [cf,if_neg hne]; exact h2⟩
   rw [List.getElem?_set,if_neg (by omega),List.getElem?_append_left hjl,h1,List.filter_append]
   have:¬ r x = (ts.filter fun y=>decide (r y = y))[j]:=by rw [hr]; exact fun e=>hne e.symm
   simp [this]
  ·have hj3:j = (ts.filter fun y=>decide (r y = y)).length:=by omega
   subst hj3
   have eg:∀ hh,((ts ++ [x]).filter fun y=>decide (r y = y))[(ts.filter fun y=>decide (r y = y)).length]'hh = x:=fun hh=>by
    simp only [e,List.getElem_append_right (Nat.le_refl _),Nat.sub_self]; rfl
   rw [eg]
   refine ⟨?_,by rw [cf,if_pos rfl,h.len]⟩
   rw [List.getElem?_set,if_pos (by rw [h.len]),if_pos (by simp [h.len]),List.filter_append,hno]
   simp [hr]
 ·have hne:r x ≠ x:=fun e=>by have:=hx _ hr; omega
  have hm:r x ∈ ts.filter fun y=>decide (r y = y):=List.mem_filter.2 ⟨hr,by simpa using hi x⟩
  obtain ⟨k,hk,ek⟩:=List.getElem_of_mem hm
  obtain ⟨h1,h2⟩:=h.get k hk
  have hkl:k < out.length:=by have:=h.len; omega
  refine ⟨at',out,by rw [if_neg hne],k,by rw [← ek]; exact h2,hkl,_,h1,?_⟩
  have e:(ts ++ [x]).filter (fun y=>decide (r y = y)) = ts.filter (fun y=>decide (r y = y)):=by simp [List.filter_append,hne]
  refine ⟨by rw [e,List.length_set,h.len],fun j hj=>?_⟩
  simp only [e] at hj ⊢
  obtain ⟨g1,g2⟩:=h.get j hj
  refine ⟨?_,g2⟩
  rw [List.getElem?_set,List.filter_append]
  by_cases hjk:k = j
  ·subst hjk
   have:r x = (ts.filter fun y=>decide (r y = y))[k]:=ek.symm
   rw [if_pos rfl,if_pos hkl]
   simp [this]
  ·rw [if_neg hjk,g1]
   have hnd:(ts.filter fun y=>decide (r y = y))[j] ≠ r x:=fun e2=>by
    have:=(h.get j hj).2
    rw [e2,← ek,h2] at this
    omega
   have:¬ r x = (ts.filter fun y=>decide (r y = y))[j]:=fun e=>hnd e.symm
   simp [this]
theorem sets_S {F:Nat} (hF:F ≤ 100000000) {m:bo} {r:Int → Int} (h:lb m r) (hl:m.length < F):av (bG F m) fun z=>z.1 = canon r (sorted (ao m)) ∧ lb z.2 r ∧ ao z.2 = ao m:=by
 unfold bG
 have hkl:(ao m).length = m.length:=by simp [ao]
 refine av.cj (x:=ao m) (by unfold mw; rw [if_pos (by omega)]; rfl) (av.cj (x:=sorted (ao m)) (by unfold cV jg; rw [if_pos (by omega)]) ?_)
 have hsl:(sorted (ao m)).length = m.length:=by rw [(mA _).length_eq,hkl]
 have hasd:nz (sorted (ao m)):=pW h.nd
 refine av.bind (P:=fun z:List (List Int) × bo=>z.1 = canon r (sorted (ao m)) ∧ lb z.2 r ∧ ao z.2 = ao m) ?_ fun z hz=>av.some hz
 refine av.ea4 (I:=fun pre up at' out=>lb up r ∧ ao up = ao m ∧ Row r pre at' out) (by omega) (by omega) ⟨h,rfl,by simp,by simp⟩ ?_ fun up at' out hI=>⟨hI.2.2.eq,hI.1,hI.2.1⟩
 rintro pre x post up at' out e hx ⟨h1,h2,h3⟩
 have hul:up.length = m.length:=by rw [← hkl,← h2]; simp [ao]
 have hxs:x ∈ sorted (ao m):=by rw [e]; simp
 have hxk:cH up x = true:=gy.2 (by rw [h2]; exact kM.1 hxs)
 have hlt:∀ t ∈ pre,t < x:=fun t ht=>(List.pairwise_append.1 (e ▸ hasd)).2.2 t ht x (List.mem_cons_self ..)
 have hr:r x = x ∨ r x ∈ pre:=by
  by_cases hc:r x = x
  ·exact .inl hc
  ·have hm:r x ∈ sorted (ao m):=kM.2 (by rw [← h2]; exact gy.1 (h1.low x hxk).2.1)
   rw [e] at hm
   have hlx:r x < x:=by have:=h.rle x; omega
   rcases List.mem_append.1 hm with hm | hm
   ·exact .inr hm
   ·rcases List.mem_cons.1 hm with hm | hm
    ·exact absurd hm hc
    ·have:=(List.pairwise_cons.1 (List.pairwise_append.1 (e ▸ hasd)).2.1).1 _ hm
     omega
 have hol:out.length ≤ pre.length:=by rw [h3.len]; exact List.length_filter_le _ _
 have hpl:pre.length < m.length:=by rw [← hsl,e]; simp
 refine av.bind (P:=fun z:bo × bo × List (List Int)=>lb z.1 r ∧ ao z.1 = ao m ∧ Row r (pre ++ [x]) z.2.1 z.2.2) ?_ fun z hz=>av.some (.inl ⟨_,_,_,rfl,hz⟩)
 refine av.cj hx (av.bind (nB h1 (by omega)) ?_)
 rintro ⟨a,up2⟩ ⟨rfl,g1,_,_,g2⟩
 simp only at g1 g2 ⊢
 obtain ⟨at2,o2,e2,k,hk,hk2,row,hrow,hR⟩:=h3.step hlt h.rle h.idem hr
 have hbl:out.length + 1 ≤ 1000000000:=by omega
 refine av.bind (P:=(· = (at2,o2))) ?_ ?_
 ·rw [e2]
  refine av.ite (fun hc=>?_) fun hc=>?_
  ·have hc:=of_decide_eq_true hc
   exact av.app (by simp only [List.length_singleton]; omega) (av.some (by rw [if_pos hc]))
  ·have hc:=of_decide_eq_false hc
   exact av.some (by rw [if_neg hc])
 ·rintro z rfl
  simp only
  have hix:aO o2 (cn at2 (r x)) = some row:=by
   rw [hk,iH (by omega) (by omega),iG _ _ hk2]
   rw [List.getElem?_eq_getElem hk2] at hrow; exact hrow
  have hrl:row.length ≤ pre.length:=by
   have:o2.set k (row ++ [x]) = canon r (pre ++ [x]):=hR.eq
   have h4:row ++ [x] ∈ canon r (pre ++ [x]):=by
    rw [← this]; exact List.mem_iff_getElem?.2 ⟨k,by rw [List.getElem?_set,if_pos rfl,if_pos hk2]⟩
   unfold canon at h4
   obtain ⟨q,_,hq⟩:=List.mem_map.1 h4
   have h5:=congrArg List.length hq
   have h6:=List.length_filter_le (fun z=>decide (r z = q)) (pre ++ [x])
   simp only [List.length_append,List.length_singleton] at h5 h6
   omega
  refine av.cj hix (av.app (by simp only [List.length_singleton]; omega) (av.cj hix (av.some ⟨g1,by rw [g2 hxk]; exact h2,?_⟩)))
  simp only
  rw [hk,Int.toNat_natCast]
  exact hR
theorem nm {F:Nat} (hF:F ≤ 100000000) {m:bo} {ps:List (Int × Int)} (h:St m ps) (hl:2 * ps.length < F):av (bG F m) fun z=>Part (fun a b=>(a,b) ∈ ps) (fun a=>∃ p ∈ ps,a = p.1 ∨ a = p.2) z.1 ∧ St z.2 ps:=by
 refine (sets_S hF h.up (by have:=h.len; omega)).mono ?_
 rintro ⟨o,m'⟩ ⟨h1,h2,h3⟩
 simp only at h1 h2 h3 ⊢
 have hk:∀ u,u ∈ sorted (ao m) ↔ ∃ p ∈ ps,u = p.1 ∨ u = p.2:=fun u=>by rw [kM,h.keys]
 refine ⟨?_,h2,fun u=>by rw [h3,h.keys],?_⟩
 ·rw [h1]
  have hp:=pK (r:=ey ps) (P:=fun a b=>(a,b) ∈ ps) (pW h.up.nd) h.up.rle h.up.idem (fun z hz=>?_) (rW ps) fun a b hab=>?_
  ·exact hp.congr (fun _ _=>.rfl) hk
  ·exact kM.2 (gy.1 (h.up.low z (gy.2 (kM.1 hz))).2.1)
  ·exact ⟨fun _=>(hk b).2 ⟨(a,b),hab,.inr rfl⟩,fun _=>(hk a).2 ⟨(a,b),hab,.inl rfl⟩⟩
 ·have:(ao m').length = (ao m).length:=by rw [h3]
  simp only [ao,List.length_map] at this
  have:=h.len
  omega
theorem sa {F:Nat} (hF:F ≤ 100000000) {Ls:List (List (List Int))} (h1:Ls.length < F) (h2:Ls.flatten.length < F) (h3:2 * Ls.flatten.flatten.length + 1 < F):av (cw F Ls) (Part (pr Ls.flatten) (dm Ls.flatten)):=by
 unfold cw
 refine av.bind (P:=fun m=>St m (m9 Ls.flatten)) ?_ ?_
 ·refine av.ea2 (I:=fun pre m=>St m (m9 pre.flatten)) h1 (by omega) St.nil ?_ fun s h=>h
  rintro pre L post m e hL hI
  have eL:Ls.flatten = pre.flatten ++ L ++ post.flatten:=by rw [e]; simp
  have hLl:L.length ≤ Ls.flatten.length:=by rw [eL]; simp only [List.length_append]; omega
  refine av.bind (P:=fun m'=>St m' (m9 (pre ++ [L]).flatten)) ?_ fun m' h=>av.some (.inl ⟨_,rfl,h⟩)
  refine av.cj hL (av.bind ?_ fun m' h=>av.some h)
  refine av.ea2 (I:=fun q m=>St m (m9 (pre.flatten ++ q))) (by omega) (by omega) (by simpa using hI) ?_ fun s h=>by simpa using h
  rintro q c post' m e' hc hI
  have eL2:Ls.flatten = (pre.flatten ++ q) ++ c :: (post' ++ post.flatten):=by rw [eL,e']; simp
  have hlen:(m9 (pre.flatten ++ q)).length + c.length ≤ Ls.flatten.flatten.length:=by
   rw [pZ,eL2]; simp; omega
  refine av.bind (P:=fun m'=>St m' (m9 (pre.flatten ++ (q ++ [c])))) ?_ fun m' h=>av.some (.inl ⟨_,rfl,h⟩)
  refine av.cj hc (av.bind (P:=fun m'=>St m' (m9 (pre.flatten ++ (q ++ [c])))) ?_ fun m' h=>av.some h)
  refine av.ea2 (I:=fun t m=>St m (m9 (pre.flatten ++ q) ++ t.map fun n=>(hd c,n))) (by omega) (by omega) (by simpa using hI) ?_ fun s h=>?_
  ·rintro t n post'' m e'' hn hI
   have hc0:aO c 0 = some (hd c):=by
    cases c with
    | nil=>simp at e''
    | cons a c=>exact qe [] c a
   have htl:t.length < c.length:=by rw [e'']; simp
   refine av.cj hn (av.cj hc0 (av.bind (hI.join (x:=hd c) (y:=n) (by simp only [List.length_append,List.length_map]; omega)) ?_))
   rintro ⟨b,m'⟩ ⟨_,hs⟩
   refine av.some (.inl ⟨_,rfl,?_⟩)
   simpa [List.map_append] using hs
  ·have:m9 (pre.flatten ++ (q ++ [c])) = m9 (pre.flatten ++ q) ++ c.map fun n=>(hd c,n):=by
    rw [← List.append_assoc,pD]; simp [m9]
   rw [this]; exact h
 ·intro m hm
  refine av.bind (nm hF hm (by rw [pZ]; omega)) ?_
  rintro ⟨o,m'⟩ ⟨hp,_⟩
  refine av.some (hp.congr (con_prs _) fun a=>?_)
  unfold dm
  constructor
  ·rintro ⟨⟨u,v⟩,hp,h⟩
   obtain ⟨c,hc,rfl,hv⟩:=kN.1 hp
   rcases h with h | h
   ·exact ⟨c,hc,by simp only at h; rw [h]; exact fw (List.ne_nil_of_mem hv)⟩
   ·exact ⟨c,hc,by simp only at h; rw [h]; exact hv⟩
  ·rintro ⟨c,hc,h⟩
   exact ⟨(hd c,a),kN.2 ⟨c,hc,rfl,h⟩,.inr rfl⟩
theorem r9 {F:Nat} (hF:F ≤ 100000000) {Ls:List (List (List Int))} (h1:Ls.length < F) (h2:Ls.flatten.length < F) (h3:2 * Ls.flatten.flatten.length + 1 < F):cw F Ls = cD F Ls.flatten:=by
 obtain ⟨a,e1,p1⟩:=sa hF h1 h2 h3
 obtain ⟨b,e2,p2⟩:=p8 hF h2 (by omega)
 rw [e1,e2,p1.uniq p2]
theorem same_ok {l:List Int} (hl:l.length ≤ 1000):bu 2000 l l = some true:=by
 refine av.eq ?_
 unfold bu
 refine av.iff (by simp) ?_
 refine av.bind (P:=(· = .inl ())) ?_ ?_
 ·refine av.rounds (n:=l.length) (I:=fun k s=>s = (k:Int)) (by omega) rfl ?_
  rintro k s hk rfl
  refine av.ite (fun hc=>?_) (fun hc=>?_)
  ·have hc:(k:Int) < l.length:=of_decide_eq_true hc
   rw [lS (by omega) (by omega)]
   refine av.idx (by omega) hc (av.idx (by omega) hc (av.iff (by simp) (av.some (.inl ⟨_,rfl,by push_cast; rfl,by omega⟩))))
  ·exact av.some (.inr ⟨_,rfl,rfl⟩)
 ·rintro o rfl
  exact av.some rfl
theorem av.pass {τ:Type} {A:Int → Option (Int ⊕ τ)} {g:τ} {N st:Int} {F:Nat} {Q:τ → Prop} (h0:0 ≤ st) (hN:N ≤ 1000000000) (hF:(N - st).toNat < F) (h:∀ k,st ≤ k → k < N → A k = Option.some (.inl (IntKind.i64.wrap (k + 1)))) (hq:Q g):av (iter F (fun i=>if decide (i < N) = true then A i else Option.some (.inr g)) st) Q:=by
 refine av.rounds (n:=(N - st).toNat) (I:=fun k s=>s = st + (k:Int)) hF (by simp) ?_
 rintro k s hk rfl
 refine av.ite (fun hc=>?_) fun hc=>?_
 ·have hc:=of_decide_eq_true hc
  rw [h _ (by omega) hc]
  refine av.some (.inl ⟨_,rfl,?_,by omega⟩)
  rw [lS (by omega) (by omega)]; push_cast; omega
 ·exact av.some (.inr ⟨_,rfl,hq⟩)
theorem sets_ok {l:List (List Int)} (hl:l.length ≤ 1000) (hc:∀ c ∈ l,c.length ≤ 1000):bE 2000 l l = some true:=by
 refine av.eq ?_
 unfold bE
 refine av.iff (by simp) (av.bind (P:=(· = .inl ())) ?_ (fun o ho=>by rw [ho]; exact av.some rfl))
 refine av.pass (by omega) (by omega) (by omega) (fun k h1 h2=>?_) rfl
 rw [iH h1 h2]
 simp only [Option.bind_some]
 rw [same_ok (hc _ (mf h1 h2))]; rfl
def mg (L:List (List Int)):List (List Int):=(cD 2000 L).getD []
def Sz (L:List (List Int)):Prop:=L.length < 990 ∧ L.flatten.length < 990
theorem nT {L:List (List Int)} (h:Sz L):cD 2000 L = some (mg L) ∧ Part (pr L) (dm L) (mg L):=by
 obtain ⟨h1,h2⟩:=h
 obtain ⟨o,e,p⟩:=p8 (F:=2000) (by omega) (L:=L) (by omega) (by omega)
 unfold mg
 rw [e]
 exact ⟨rfl,p⟩
theorem mg_own {Ls:List (List (List Int))} (h:Sz Ls.flatten) (hl:Ls.length < 2000):cw 2000 Ls = some (mg Ls.flatten):=by
 rw [r9 (by omega) hl (by have:=h.1; omega) (by have:=h.2; omega)]
 exact (nT h).1
theorem p7 {L:List (List Int)} {o:List (List Int)} (h:Sz L) (hp:Part (pr L) (dm L) o):mg L = o:=(nT h).2.uniq hp
def Lnk (n:Nat) (l:A2):Prop:=0 ≤ l.a0 ∧ l.a0 < n ∧ 0 ≤ l.a1 ∧ l.a1 < n ∧ l.a0 ≠ l.a1
instance (n:Nat) (l:A2):Decidable (Lnk n l):=inferInstanceAs (Decidable (_ ∧ _))
def Gr (fx:List Bool) (ls:List A2):Prop:=fx.length ≤ 401 ∧ ∀ l ∈ ls,Lnk fx.length l
theorem qF {F:Nat} {fx:List Bool} {l:A2}:c4 F l fx = some (!decide (Lnk fx.length l)):=by
 unfold c4 c5
 refine av.eq (av.cj rfl ?_)
 by_cases h1:((decide (l.a0 < 0)) || (decide ((fx.length:Int) ≤ l.a0))) = true
 ·refine av.g0 (by rw [h1]; rfl) (av.some ?_)
  rw [h1]
  simp only [Bool.true_or]
  simp only [Bool.or_eq_true,decide_eq_true_eq] at h1
  have:¬ Lnk fx.length l:=fun h=>by obtain ⟨a,b,_⟩:=h; omega
  simp [this]
 ·have h1:((decide (l.a0 < 0)) || (decide ((fx.length:Int) ≤ l.a0))) = false:=by simpa using h1
  refine av.g1 (by rw [h1]; rfl) (av.cj rfl (av.some ?_))
  rw [h1]
  simp only [Bool.false_or]
  simp only [Bool.or_eq_false_iff,decide_eq_false_iff_not] at h1
  by_cases hl:Lnk fx.length l
  ·obtain ⟨a1,a2,a3,a4,a5⟩:=id hl
   simp [hl,a5]; omega
  ·have h2:l.a1 < 0 ∨ (fx.length:Int) ≤ l.a1 ∨ l.a0 = l.a1:=by
    by_cases e:l.a1 < 0
    ·exact .inl e
    ·by_cases e2:(fx.length:Int) ≤ l.a1
     ·exact .inr (.inl e2)
     ·by_cases e3:l.a0 = l.a1
      ·exact .inr (.inr e3)
      ·exact absurd (show Lnk fx.length l from ⟨by omega,by omega,by omega,by omega,e3⟩) hl
   simp only [hl,decide_false,Bool.not_false]
   simp only [Bool.or_eq_true,decide_eq_true_eq]
   rcases h2 with h | h | h
   ·exact .inl (.inl h)
   ·exact .inl (.inr h)
   ·exact .inr h
theorem sf {F:Nat} {fx:List Bool} {ls:List A2} (hF:ls.length < F) (hL:ls.length ≤ 9223372036854775807):av (bO F fx ls) fun r=>(r = true ↔ Gr fx ls):=by
 unfold bO
 by_cases hc:(decide ((fx.length:Int) ≤ 401)) = true
 ·refine av.g1 hc ?_
  unfold c7 dE
  have hc':fx.length ≤ 401:=by have:=of_decide_eq_true hc; omega
  refine av.bind (P:=fun r=>(r = false ↔ Gr fx ls)) ?_ fun r hr=>av.some (by rw [hc]; cases r <;> simp_all)
  refine av.bind (P:=fun r:Int=>(r < 0 ↔ Gr fx ls)) ?_ fun r hr=>av.some (by rw [← hr]; simp)
  refine av.bind (P:=fun o=>(o = .inl () ∧ Gr fx ls) ∨ ∃ i:Int,o = .inr i ∧ 0 ≤ i ∧ ¬ Gr fx ls) ?_ ?_
  ·refine av.ea1 (fun pre=>∀ l ∈ pre,Lnk fx.length l) hF hL (by simp) (fun pre x post e hx hI=>?_) fun h=>.inl ⟨rfl,hc',h⟩
   refine av.cj hx (av.cj qF (av.ite (fun h=>av.some (.inr ⟨_,rfl,.inr ⟨_,rfl,by omega,fun hg=>?_⟩⟩)) (fun h=>av.some (.inl ⟨rfl,fun l hl=>?_⟩))))
   ·have:=hg.2 x (by rw [e]; simp); simp [this] at h
   ·rcases List.mem_append.1 hl with hl | hl
    ·exact hI l hl
    ·rw [List.mem_singleton.1 hl]; simpa using h
  ·rintro o (⟨rfl,h⟩ | ⟨i,rfl,h1,h2⟩)
   ·exact av.some ⟨fun _=>h,fun _=>by omega⟩
   ·exact av.some ⟨fun _=>by omega,fun h=>absurd h h2⟩
 ·have hc:(decide ((fx.length:Int) ≤ 401)) = false:=by simpa using hc
  refine av.g0 hc (av.some ?_)
  rw [hc]
  refine ⟨fun h=>by simp at h,fun h=>?_⟩
  have:=of_decide_eq_false hc
  have:=h.1
  omega
def qN (fx:List Bool) (l:A2):Prop:=idx fx l.a0 = false ∧ idx fx l.a1 = false
instance (fx:List Bool) (l:A2):Decidable (qN fx l):=inferInstanceAs (Decidable (_ ∧ _))
def qk (fx:List Bool) (ls:List A2):List Int:=((List.range ls.length).filter fun i:Nat=>decide (qN fx (idx ls (i:Int)))).map fun i:Nat=>(i:Int)
theorem gZ (p:Nat → Bool) (n:Nat):(List.range (n + 1)).filter p = (List.range n).filter p ++ if p n then [n] else []:=by
 rw [List.range_succ,List.filter_append]; congr 1; simp [List.filter]; split <;> simp_all
theorem mvs_ok {F:Nat} {fx:List Bool} {ls:List A2} (hF:ls.length < F) (hL:ls.length ≤ 1000000) (hg:Gr fx ls):de F fx ls = some (qk fx ls):=by
 refine av.eq ?_
 unfold de
 refine av.bind (P:=(· = qk fx ls)) ?_ fun o ho=>by rw [ho]; exact av.some rfl
 refine av.ea2 (fun pre s=>s = ((List.range pre.length).filter fun i:Nat=>decide (qN fx (idx ls (i:Int)))).map fun i:Nat=>(i:Int)) hF (by omega) rfl (fun pre x post s e hx hI=>?_) fun s hs=>hs
 have hxi:idx ls (pre.length:Int) = x:=qU hx
 obtain ⟨a1,a2,a3,a4,a5⟩:=hg.2 x (by rw [e]; simp)
 subst hI
 have hlen:(((List.range pre.length).filter fun i:Nat=>decide (qN fx (idx ls (i:Int)))).map fun i:Nat=>(i:Int)).length ≤ pre.length:=by
  rw [List.length_map]; refine Nat.le_trans (List.length_filter_le _ _) ?_; simp
 have hpl:pre.length ≤ ls.length:=by rw [e]; simp
 refine av.bind (P:=(· = ((List.range (pre ++ [x]).length).filter fun i:Nat=>decide (qN fx (idx ls (i:Int)))).map fun i:Nat=>(i:Int))) ?_ fun o ho=>by rw [ho]; exact av.some (.inl ⟨_,rfl,rfl⟩)
 rw [List.length_append,List.length_singleton,gZ,hxi]
 refine av.cj hx (av.idx a1 (by omega) ?_)
 by_cases h0:idx fx x.a0 = true
 ·refine av.g0 (by rw [h0]; rfl) (av.iff (by rw [h0]; rfl) (av.some ?_))
  rw [if_neg (by simp [qN,h0])]; simp
 ·have h0:idx fx x.a0 = false:=by simpa using h0
  refine av.g1 (by rw [h0]; rfl) (av.idx a3 (by omega) ?_)
  by_cases h1:idx fx x.a1 = true
  ·refine av.iff (by rw [h0,h1]; rfl) (av.some ?_)
   rw [if_neg (by simp [qN,h1])]; simp
  ·have h1:idx fx x.a1 = false:=by simpa using h1
   refine av.qL (by rw [h0,h1]; rfl) (av.app (by simp only [List.length_singleton]; omega) (av.some ?_))
   rw [if_pos (by simp [qN,h0,h1])]; simp
theorem jn_self (r:Int → Int) (x:Int):jn r x x = r:=by
 funext z
 unfold jn
 rw [show max (r x) (r x) = r x by omega,show min (r x) (r x) = r x by omega]
 split
 ·next h=>exact h.symm
 ·rfl
theorem St.root {F:Nat} {m:bo} {ps:List (Int × Int)} {x:Int} (h:St m ps) (hF:2 * ps.length < F):av (bH F x m) fun z=>St z.2 (ps ++ [(x,x)]):=by
 refine (nB h.up (x:=x) (by have:=h.len; omega)).mono ?_
 rintro ⟨b,m'⟩ ⟨h1,h2,h3,h4,_⟩
 refine ⟨by rw [lA,jn_self]; exact h2,fun u=>?_,by have:=h.len; simp at h4 ⊢; omega⟩
 simp only at h3 ⊢
 rw [h3,h.keys]
 constructor
 ·rintro (h | ⟨p,hp,h⟩)
  ·exact ⟨(x,x),by simp,.inl h⟩
  ·exact ⟨p,by simp [hp],h⟩
 ·rintro ⟨p,hp,h⟩
  rcases List.mem_append.1 hp with hp | hp
  ·exact .inr ⟨p,hp,h⟩
  ·rw [List.mem_singleton.1 hp] at h
   exact .inl (by rcases h with h | h <;> exact h)
def lR (fx:List Bool) (n:Nat):List (Int × Int):=((List.range n).filter fun i:Nat=>decide (idx fx (i:Int) = false)).map fun i:Nat=>((i:Int),(i:Int))
theorem mh (fx:List Bool) (n:Nat):(lR fx n).length ≤ n:=by
 unfold lR; rw [List.length_map]; refine Nat.le_trans (List.length_filter_le _ _) (by simp)
theorem sn (fx:List Bool) (n:Nat):lR fx (n + 1) = lR fx n ++ if idx fx (n:Int) = false then [((n:Int),(n:Int))] else []:=by
 unfold lR; rw [gZ,List.map_append]; congr 1
 by_cases h:idx fx (n:Int) = false <;> simp [h]
def kC (ls:List A2) (i:Int):Int × Int:=((idx ls i).a0,(idx ls i).a1)
def pO (ls:List A2) (base:List (Int × Int)) (is:List Int):List (Int × Int) × List Int :=
 is.foldl (fun acc i=>(acc.1 ++ [kC ls i],if ey acc.1 (kC ls i).1 = ey acc.1 (kC ls i).2 then acc.2 else acc.2 ++ [i])) (base,[])
theorem sg (ls:List A2) (base:List (Int × Int)) (is:List Int) (i:Int):pO ls base (is ++ [i]) = ((pO ls base is).1 ++ [kC ls i],if ey (pO ls base is).1 (kC ls i).1 = ey (pO ls base is).1 (kC ls i).2 then (pO ls base is).2 else (pO ls base is).2 ++ [i]):=by
 unfold pO; rw [List.foldl_append]; rfl
theorem nW (ls:List A2):∀ (is:List Int) (acc:List (Int × Int) × List Int),(is.foldl (fun acc i=>(acc.1 ++ [kC ls i],if ey acc.1 (kC ls i).1 = ey acc.1 (kC ls i).2 then acc.2 else acc.2 ++ [i])) acc).1 = acc.1 ++ is.map (kC ls) ∧
  (is.foldl (fun acc i=>(acc.1 ++ [kC ls i],if ey acc.1 (kC ls i).1 = ey acc.1 (kC ls i).2 then acc.2 else acc.2 ++ [i])) acc).2.length ≤ acc.2.length + is.length
 | [],acc=>by simp
 | i :: is,acc=>by
  obtain ⟨h1,h2⟩:=nW ls is (acc.1 ++ [kC ls i],if ey acc.1 (kC ls i).1 = ey acc.1 (kC ls i).2 then acc.2 else acc.2 ++ [i])
  rw [List.foldl_cons]
  refine ⟨by rw [h1]; simp,Nat.le_trans h2 ?_⟩
  simp only [List.length_cons]
  split <;> simp <;> omega
theorem frs_fst (ls:List A2) (base:List (Int × Int)) (is:List Int):(pO ls base is).1 = base ++ is.map (kC ls):=(nW ls is (base,[])).1
theorem frs_len (ls:List A2) (base:List (Int × Int)) (is:List Int):(pO ls base is).2.length ≤ is.length:=by
 have h:=(nW ls is (base,[])).2
 rw [List.length_nil,Nat.zero_add] at h
 exact h
theorem nQ (fx:List Bool) (ls:List A2):(qk fx ls).length ≤ ls.length:=by
 unfold qk; rw [List.length_map]; refine Nat.le_trans (List.length_filter_le _ _) (by simp)
theorem me {fx:List Bool} {ls:List A2} {i:Int}:i ∈ qk fx ls ↔ 0 ≤ i ∧ i < ls.length ∧ qN fx (idx ls i):=by
 simp only [qk,List.mem_map,List.mem_filter,List.mem_range,decide_eq_true_eq]
 constructor
 ·rintro ⟨k,⟨h1,h2⟩,rfl⟩; exact ⟨by omega,by omega,h2⟩
 ·rintro ⟨h1,h2,h3⟩; exact ⟨i.toNat,⟨by omega,by rw [show ((i.toNat:Nat):Int) = i by omega]; exact h3⟩,by omega⟩
def aps (fx:List Bool) (ls:List A2):List (Int × Int):=lR fx fx.length ++ (qk fx ls).map (kC ls)
theorem qC {F:Nat} {fx:List Bool} {ls:List A2} (hF:2 * (fx.length + ls.length) + 1 < F) (hL:ls.length ≤ 1000000) (hg:Gr fx ls):av (cQ F fx ls) fun z=>St z.1 (aps fx ls) ∧ z.2 = (pO ls (lR fx fx.length) (qk fx ls)).2:=by
 have hx:=hg.1
 unfold cQ
 refine av.bind (P:=fun up=>St up (lR fx fx.length)) ?_ fun up hup=>?_
 ·refine av.ea2 (fun pre up=>St up (lR fx pre.length)) (by omega) (by omega) (by simpa [lR] using St.nil) (fun pre x post up e hxi hI=>?_) fun up h=>h
  have hxe:idx fx (pre.length:Int) = x:=qU hxi
  have hpl:pre.length < fx.length:=by rw [e]; simp
  refine av.bind (P:=fun up'=>St up' (lR fx (pre ++ [x]).length)) ?_ fun up' h=>av.some (.inl ⟨up',rfl,h⟩)
  rw [List.length_append,List.length_singleton,sn,hxe]
  refine av.cj hxi (av.ite (fun hc=>?_) (fun hc=>?_))
  ·have hc:x = false:=by simpa using hc
   refine av.bind (hI.root (x:=(pre.length:Int)) (by have:=mh fx pre.length; omega)) ?_
   rintro ⟨a,m'⟩ h
   exact av.some (by rw [if_pos hc]; exact h)
  ·have hc:x = true:=by simpa using hc
   exact av.some (by rw [if_neg (by simp [hc]),List.append_nil]; exact hI)
 ·refine av.bind (P:=fun z=>St z.1 (aps fx ls) ∧ z.2 = (pO ls (lR fx fx.length) (qk fx ls)).2) ?_ (by rintro ⟨a,b⟩ h; exact av.some h)
  refine av.cj (mvs_ok (by omega) hL hg) ?_
  have hml:=nQ fx ls
  have hal:=mh fx fx.length
  refine av.ea3 (fun pre up out=>St up (lR fx fx.length ++ pre.map (kC ls)) ∧ out = (pO ls (lR fx fx.length) pre).2) (by omega) (by omega) ⟨by simpa using hup,by simp [pO]⟩ (fun pre x post up out e hxi hI=>?_) fun up out h=>h
  obtain ⟨hI,ho⟩:=hI
  have hxm:x ∈ qk fx ls:=by rw [e]; simp
  obtain ⟨i1,i2,i3⟩:=me.1 hxm
  have hpl:pre.length < (qk fx ls).length:=by rw [e]; simp
  refine av.bind (P:=fun z=>St z.1 (lR fx fx.length ++ (pre ++ [x]).map (kC ls)) ∧ z.2 = (pO ls (lR fx fx.length) (pre ++ [x])).2) ?_ (by rintro ⟨a,b⟩ h; exact av.some (.inl ⟨a,b,rfl,h⟩))
  refine av.cj hxi (av.idx i1 (by omega) (av.idx i1 (by omega) ?_))
  refine av.bind (hI.join (x:=(idx ls x).a0) (y:=(idx ls x).a1) (by simp; omega)) ?_
  rintro ⟨b,m'⟩ ⟨h1,h2⟩
  simp only at h1 h2
  have hps:lR fx fx.length ++ (pre ++ [x]).map (kC ls) = lR fx fx.length ++ pre.map (kC ls) ++ [((idx ls x).a0,(idx ls x).a1)]:=by simp [kC]
  have hfl:=frs_len ls (lR fx fx.length) pre
  rw [hps,sg,frs_fst]
  subst h1
  refine av.ite (fun hc=>?_) (fun hc=>?_)
  ·have hc:=of_decide_eq_true hc
   refine av.app (by rw [ho]; simp only [List.length_singleton]; omega) (av.some ⟨h2,?_⟩)
   rw [ho]; exact (if_neg hc).symm
  ·have hc:=of_decide_eq_false hc
   have hc:ey (lR fx fx.length ++ pre.map (kC ls)) (idx ls x).a0 = ey (lR fx fx.length ++ pre.map (kC ls)) (idx ls x).a1:=by
    by_cases e:ey (lR fx fx.length ++ pre.map (kC ls)) (idx ls x).a0 = ey (lR fx fx.length ++ pre.map (kC ls)) (idx ls x).a1
    ·exact e
    ·exact absurd e hc
   refine av.some ⟨h2,?_⟩
   rw [ho]; exact (if_pos hc).symm
def Lk (fx:List Bool) (ls:List A2) (a b:Int):Prop:=∃ l ∈ ls,qN fx l ∧ l.a0 = a ∧ l.a1 = b
def Mv (fx:List Bool) (a:Int):Prop:=0 ≤ a ∧ a < fx.length ∧ idx fx a = false
theorem kP {fx:List Bool} {p:Int × Int}:p ∈ lR fx fx.length ↔ Mv fx p.1 ∧ p.2 = p.1:=by
 obtain ⟨a,b⟩:=p
 simp only [lR,List.mem_map,List.mem_filter,List.mem_range,decide_eq_true_eq,Prod.mk.injEq,Mv]
 constructor
 ·rintro ⟨k,⟨h1,h2⟩,rfl,rfl⟩; exact ⟨⟨by omega,by omega,h2⟩,rfl⟩
 ·rintro ⟨⟨h1,h2,h3⟩,rfl⟩; exact ⟨b.toNat,⟨by omega,by rw [show ((b.toNat:Nat):Int) = b by omega]; exact h3⟩,by omega,by omega⟩
theorem nU {fx:List Bool} {ls:List A2} {a b:Int}:(a,b) ∈ (qk fx ls).map (kC ls) ↔ Lk fx ls a b:=by
 simp only [List.mem_map,me,kC,Prod.mk.injEq,Lk]
 constructor
 ·rintro ⟨i,⟨h1,h2,h3⟩,rfl,rfl⟩; exact ⟨idx ls i,mf h1 h2,h3,rfl,rfl⟩
 ·rintro ⟨l,hl,h3,rfl,rfl⟩
  obtain ⟨k,hk,e⟩:=List.getElem_of_mem hl
  have:idx ls (k:Int) = l:=by rw [iG _ _ hk]; exact e
  exact ⟨(k:Int),⟨by omega,by omega,by rw [this]; exact h3⟩,by rw [this],by rw [this]⟩
theorem find_ok {F:Nat} {fx:List Bool} {ls:List A2} (hF:2 * (fx.length + ls.length) + 1 < F) (hF2:F ≤ 100000000) (hL:ls.length ≤ 1000000):av (bN F fx ls) fun z=>(Gr fx ls ∧ z.2 = 0 ∧ Part (Lk fx ls) (Mv fx) z.1) ∨ (¬ Gr fx ls ∧ z = ([],1)):=by
 unfold bN
 refine av.bind (sf (by omega) (by omega)) fun r hr=>?_
 refine av.ite (fun hc=>av.some (.inr ⟨fun h=>by simp [hr.2 h] at hc,rfl⟩)) (fun hc=>?_)
 have hg:Gr fx ls:=hr.1 (by simpa using hc)
 refine av.bind (qC hF hL hg) ?_
 rintro ⟨m,out⟩ ⟨h1,h2⟩
 have hlen:(aps fx ls).length ≤ fx.length + ls.length:=by
  unfold aps; rw [List.length_append,List.length_map]; have:=mh fx fx.length; have:=nQ fx ls; omega
 refine av.bind (nm hF2 h1 (by omega)) ?_
 rintro ⟨o,m'⟩ ⟨hp,_⟩
 refine av.some (.inl ⟨hg,rfl,hp.congr (fv.congr (fun a b hab=>?_) (fun a b hab=>?_)) fun a=>?_⟩)
 ·rcases List.mem_append.1 hab with hab | hab
  ·have:=(kP.1 hab).2
   simp only at this; subst this; exact .rfl _
  ·exact .of (nU.1 hab)
 ·exact .of (List.mem_append.2 (.inr (nU.2 hab)))
 ·constructor
  ·rintro ⟨p,hp,h⟩
   rcases List.mem_append.1 hp with hp | hp
   ·obtain ⟨h3,h4⟩:=kP.1 hp
    rcases h with h | h
    ·rw [h]; exact h3
    ·rw [h,h4]; exact h3
   ·obtain ⟨l,hl,⟨m1,m2⟩,e1,e2⟩:=nU.1 (show (p.1,p.2) ∈ _ from hp)
    obtain ⟨a1,a2,a3,a4,_⟩:=hg.2 l hl
    rcases h with h | h
    ·rw [h,← e1]; exact ⟨a1,a2,m1⟩
    ·rw [h,← e2]; exact ⟨a3,a4,m2⟩
  ·intro h
   exact ⟨(a,a),List.mem_append.2 (.inl (kP.2 ⟨h,rfl⟩)),.inl rfl⟩
theorem ox {fx:List Bool} {P:Int → Int → Prop} {Q:List (List Int)} (hp:Part P (Mv fx) Q):Q.length ≤ fx.length ∧ ∀ c ∈ Q,c.length ≤ fx.length:=by
 have hB:∀ a,Mv fx a → a ∈ (List.range fx.length).map fun i:Nat=>(i:Int):=fun a ⟨h0,h1,_⟩=>List.mem_map.2 ⟨a.toNat,List.mem_range.2 (by omega),by omega⟩
 have h1:=pc hp.toIsPt hB
 refine ⟨by simpa using h1,fun c hc=>?_⟩
 have:=qh hp.toIsPt hB hc
 simpa using this
def iY (fx:List Bool) (ls:List A2):List (List Int):=(lR fx fx.length).map (fun p=>[p.1]) ++ (qk fx ls).map fun i=>[(idx ls i).a0,(idx ls i).a1]
theorem kO {fx:List Bool} {ls:List A2} {c:List Int}:c ∈ iY fx ls ↔ (∃ a,Mv fx a ∧ c = [a]) ∨ ∃ l ∈ ls,qN fx l ∧ c = [l.a0,l.a1]:=by
 unfold iY
 rw [List.mem_append,List.mem_map,List.mem_map]
 constructor
 ·rintro (⟨p,hp,rfl⟩ | ⟨i,hi,rfl⟩)
  ·exact .inl ⟨p.1,(kP.1 hp).1,rfl⟩
  ·obtain ⟨h1,h2,h3⟩:=me.1 hi
   exact .inr ⟨idx ls i,mf h1 h2,h3,rfl⟩
 ·rintro (⟨a,ha,rfl⟩ | ⟨l,hl,hm,rfl⟩)
  ·exact .inl ⟨(a,a),kP.2 ⟨ha,rfl⟩,rfl⟩
  ·obtain ⟨k,hk,e⟩:=List.getElem_of_mem hl
   have e':idx ls (k:Int) = l:=by rw [iG _ _ hk]; exact e
   exact .inr ⟨(k:Int),me.2 ⟨by omega,by omega,by rw [e']; exact hm⟩,by rw [e']⟩
theorem oE {fx:List Bool} {ls:List A2} (hg:Gr fx ls) {o:List (List Int)}:Part (pr (iY fx ls)) (dm (iY fx ls)) o ↔ Part (Lk fx ls) (Mv fx) o:=by
 have h1:∀ a b,pr (iY fx ls) a b → fv (Lk fx ls) a b:=by
  rintro a b ⟨c,hc,ha,hb⟩
  rcases kO.1 hc with ⟨x,_,rfl⟩ | ⟨l,hl,hm,rfl⟩
  ·rw [List.mem_singleton.1 ha,List.mem_singleton.1 hb]; exact .rfl _
  ·have hlk:fv (Lk fx ls) l.a0 l.a1:=.of ⟨l,hl,hm,rfl,rfl⟩
   simp only [List.mem_cons,List.not_mem_nil,or_false] at ha hb
   rcases ha with rfl | rfl <;> rcases hb with rfl | rfl
   ·exact .rfl _
   ·exact hlk
   ·exact hlk.symm
   ·exact .rfl _
 have h2:∀ a b,Lk fx ls a b → fv (pr (iY fx ls)) a b:=by
  rintro a b ⟨l,hl,hm,rfl,rfl⟩
  exact .of ⟨[l.a0,l.a1],kO.2 (.inr ⟨l,hl,hm,rfl⟩),by simp,by simp⟩
 have h3:∀ a,dm (iY fx ls) a ↔ Mv fx a:=fun a=>by
  constructor
  ·rintro ⟨c,hc,ha⟩
   rcases kO.1 hc with ⟨x,hx,rfl⟩ | ⟨l,hl,⟨m1,m2⟩,rfl⟩
   ·rw [List.mem_singleton.1 ha]; exact hx
   ·obtain ⟨a1,a2,a3,a4,_⟩:=hg.2 l hl
    simp only [List.mem_cons,List.not_mem_nil,or_false] at ha
    rcases ha with rfl | rfl
    ·exact ⟨a1,a2,m1⟩
    ·exact ⟨a3,a4,m2⟩
  ·exact fun h=>⟨[a],kO.2 (.inl ⟨a,h,rfl⟩),by simp⟩
 exact ⟨fun h=>h.congr (fv.congr h1 h2) h3,fun h=>h.congr (fv.congr h2 h1) fun a=>(h3 a).symm⟩
theorem ils_len (fx:List Bool) (ls:List A2):(iY fx ls).length ≤ fx.length + ls.length:=by
 unfold iY
 rw [List.length_append,List.length_map,List.length_map]
 have:=mh fx fx.length; have:=nQ fx ls; omega
theorem oG:∀ {L:List (List Int)},(∀ c ∈ L,c.length ≤ 2) → L.flatten.length ≤ 2 * L.length
 | [],_=>by simp
 | c :: L,h=>by
  have:=oG (L:=L) fun d hd=>h d (List.mem_cons_of_mem _ hd)
  have:=h c (List.mem_cons_self ..)
  simp only [List.flatten_cons,List.length_append,List.length_cons]; omega
theorem re {fx:List Bool} {ls:List A2} (h:fx.length + ls.length < 490):Sz (iY fx ls):=by
 have h1:=ils_len fx ls
 have h2:=oG (L:=iY fx ls) fun c hc=>by
  rcases kO.1 hc with ⟨a,_,rfl⟩ | ⟨l,_,_,rfl⟩ <;> simp
 exact ⟨by omega,by omega⟩
theorem kX {fx:List Bool} {ls:List A2} (h:fx.length + ls.length < 490) (hg:Gr fx ls):Part (Lk fx ls) (Mv fx) (mg (iY fx ls)):=(oE hg).1 (nT (re h)).2
open Classical in
theorem oH {fx:List Bool} {ls:List A2} (h:fx.length + ls.length < 490):bN 2000 fx ls = some (if Gr fx ls then (mg (iY fx ls),0) else ([],1)):=by
 obtain ⟨z,e,hz⟩:=find_ok (F:=2000) (fx:=fx) (ls:=ls) (by omega) (by omega) (by omega)
 rw [e]
 rcases hz with ⟨hg,h0,hp⟩ | ⟨hg,rfl⟩
 ·rw [if_pos hg,p7 (re h) ((oE hg).2 hp),← h0]
 ·rw [if_neg hg]
open Classical in
theorem few3 (F:Nat) (fx:List Bool) (ls:List A2):∃ b,dt F fx ls = some b ∧ (b = true → (fx.length ≤ 40 ∨ (402 ≤ fx.length ∧ fx.length ≤ 408)) ∧ ls.length ≤ 60):=by
 refine ⟨_,rfl,fun h=>?_⟩
 simp only [Bool.and_eq_true,Bool.or_eq_true,decide_eq_true_eq] at h
 omega
theorem si {fx:List Bool} {P:Int → Int → Prop} {Q:List (List Int)} (hp:Part P (Mv fx) Q):Q.flatten.length ≤ fx.length:=by
 have:=nE (l:=Q.flatten) (m:=(List.range fx.length).map fun i:Nat=>(i:Int)) ?_ fun a ha=>?_
 ·simpa using this
 ·refine List.pairwise_flatten.2 ⟨fun c hc=>ny (hp.asd c hc).2,hp.dj.imp fun h=>?_⟩
  intro a ha b hb e
  exact h a ha (e ▸ hb)
 ·obtain ⟨c,hc,hac⟩:=List.mem_flatten.1 ha
  obtain ⟨h0,h1,_⟩:=(hp.dom a).2 ⟨c,hc,hac⟩
  exact List.mem_map.2 ⟨a.toNat,List.mem_range.2 (by omega),by omega⟩
structure Dv (pre a b c d:List A2):Prop where
 mem:∀ l,l ∈ pre ↔ l ∈ a ∨ l ∈ b ∨ l ∈ c ∨ l ∈ d
 len:a.length + b.length + c.length + d.length = 2 * pre.length
theorem qv {fx:List Bool} {ls:List A2} (hg:Gr fx ls) (hs:fx.length + ls.length < 490) {As:List (List A2)} (hm:∀ l,l ∈ ls ↔ ∃ a ∈ As,l ∈ a) (hne:As ≠ []) (hl:∀ a ∈ As,fx.length + a.length < 490) :
  Part (pr (As.map fun a=>mg (iY fx a)).flatten) (dm (As.map fun a=>mg (iY fx a)).flatten) (mg (iY fx ls)):=by
 have hga:∀ a ∈ As,Gr fx a:=fun a ha=>⟨hg.1,fun l hl=>hg.2 l ((hm l).2 ⟨a,ha,hl⟩)⟩
 have hp:∀ a ∈ As,Part (Lk fx a) (Mv fx) (mg (iY fx a)):=fun a ha=>kX (hl a ha) (hga a ha)
 have hmem:∀ c,c ∈ (As.map fun a=>mg (iY fx a)).flatten ↔ ∃ a ∈ As,c ∈ mg (iY fx a):=fun c=>by
  rw [List.mem_flatten]
  constructor
  ·rintro ⟨l,hl,hc⟩
   obtain ⟨a,ha,rfl⟩:=List.mem_map.1 hl
   exact ⟨a,ha,hc⟩
  ·rintro ⟨a,ha,hc⟩
   exact ⟨_,List.mem_map.2 ⟨a,ha,rfl⟩,hc⟩
 refine (kX hs hg).congr (fv.congr (fun a b hab=>?_) (fun a b hab=>?_)) fun a=>?_
 ·obtain ⟨l,hl',hmv,rfl,rfl⟩:=hab
  obtain ⟨A,hA,hlA⟩:=(hm l).1 hl'
  obtain ⟨g1,g2,g3,g4,_⟩:=hg.2 l hl'
  obtain ⟨c,hc,hac⟩:=((hp A hA).dom l.a0).1 ⟨g1,g2,hmv.1⟩
  have hbc:=((hp A hA).cl c hc _ _ ⟨l,hlA,hmv,rfl,rfl⟩).1 hac
  exact .of ⟨c,(hmem c).2 ⟨A,hA,hc⟩,hac,hbc⟩
 ·obtain ⟨c,hc,ha,hb⟩:=hab
  obtain ⟨A,hA,hcA⟩:=(hmem c).1 hc
  refine fv.mono (fun u v h=>?_) ((hp A hA).con c hcA a ha b hb)
  obtain ⟨l,hl',h⟩:=h
  exact .of ⟨l,(hm l).2 ⟨A,hA,hl'⟩,h⟩
 ·constructor
  ·intro ha
   obtain ⟨A,As',rfl⟩:=List.exists_cons_of_ne_nil hne
   obtain ⟨c,hc,hac⟩:=((hp A (by simp)).dom a).1 ha
   exact ⟨c,(hmem c).2 ⟨A,by simp,hc⟩,hac⟩
  ·rintro ⟨c,hc,ha⟩
   obtain ⟨A,hA,hcA⟩:=(hmem c).1 hc
   exact ((hp A hA).dom a).2 ⟨c,hcA,ha⟩
theorem Dv.two {pre a b c d a' b' c' d':List A2} {x:A2} (h:Dv pre a b c d) (hm:∀ l,(l ∈ a' ∨ l ∈ b' ∨ l ∈ c' ∨ l ∈ d') ↔ (l ∈ a ∨ l ∈ b ∨ l ∈ c ∨ l ∈ d) ∨ l = x) (hl:a'.length + b'.length + c'.length + d'.length = a.length + b.length + c.length + d.length + 2):Dv (pre ++ [x]) a' b' c' d' :=
 ⟨fun l=>by rw [hm,List.mem_append,List.mem_singleton,h.mem],by rw [hl,h.len]; simp; omega⟩
theorem qt (fx:List Bool) (ls:List A2) (part:List Int) (hb:∀ y ∈ part,0 ≤ y ∧ y ≤ 255):bM 2000 fx ls part = some true:=by
 refine av.eq ?_
 unfold bM
 obtain ⟨b,hbb,hfew⟩:=few3 2000 fx ls
 refine av.cj hbb (av.ite (fun hc=>av.cj jJ (av.some rfl)) (fun hc=>?_))
 obtain ⟨hfx,hls⟩:=hfew (by simpa using hc)
 have hs:fx.length + ls.length < 490:=by omega
 refine av.cj (oH hs) ?_
 by_cases hg:Gr fx ls
 rotate_left
 ·rw [if_neg hg]
  exact av.qL (by simp) (av.cj jJ (av.some rfl))
 rw [if_pos hg]
 simp only [cA]
 refine av.ite (fun _=>av.cj jJ (av.some rfl)) (fun hc=>?_)
 have hp0:0 < part.length:=by
  simp only [ne_eq,not_true_eq_false,decide_false,Bool.false_or,decide_eq_false_iff_not] at hc
  omega
 clear hc
 refine av.bind (P:=fun z:List A2 × List A2 × List A2 × List A2=>Dv ls z.1 z.2.1 z.2.2.1 z.2.2.2) ?_ ?_
 ·refine av.rounds (n:=ls.length) (I:=fun k z=>z.2.2.2.2 = (k:Int) ∧ Dv (ls.take k) z.1 z.2.1 z.2.2.1 z.2.2.2.1) (by omega) ⟨rfl,⟨by simp,by simp⟩⟩ ?_
  rintro k ⟨a,b,c,d,i⟩ hk ⟨hi,hD⟩
  simp only at hi hD
  subst hi
  simp only [un5]
  refine av.ite (fun hc=>?_) (fun hc=>?_)
  ·have hc:=of_decide_eq_true hc
   have hkl:k < ls.length:=by omega
   have hr:=Int.emod_nonneg (k:Int) (show (part.length:Int) ≠ 0 by omega)
   have hr2:=Int.emod_lt_of_pos (k:Int) (show (0:Int) < part.length by omega)
   have ht:ls.take (k + 1) = ls.take k ++ [ls[k]]:=by rw [List.take_succ_eq_append_getElem hkl]
   have hx:aO ls (k:Int) = some ls[k]:=by rw [iH (by omega) (by omega),iG _ _ hkl]
   have hlen:=hD.len
   have htl:(ls.take k).length ≤ 60:=by rw [List.length_take]; omega
   refine av.rem (by omega) ?_
   rw [mz (by omega)]
   refine av.idx hr hr2 ?_
   obtain ⟨y,hy⟩:∃ y,idx part ((k:Int) % (part.length:Int)) = y:=⟨_,rfl⟩
   have hyb:=hb y (by rw [← hy]; exact mf hr hr2)
   rw [hy,lS (z:=y) (by omega) (by omega),mz hyb.1,rS hyb.1,lS (z:=y / 4) (by omega) (by omega),mz (a:=y / 4) (by omega)]
   have wk:IntKind.i64.wrap ((k:Int) + 1) = ((k + 1:Nat):Int):=by rw [lS (by omega) (by omega)]; push_cast; rfl
   rw [wk,hx]
   have fin:∀ a' b' c' d',Dv (ls.take k ++ [ls[k]]) a' b' c' d' → av (some (Sum.inl (a',b',c',d',((k + 1:Nat):Int)))) fun o:(List A2 × List A2 × List A2 × List A2 × Int) ⊕ (List A2 × List A2 × List A2 × List A2)=>(∃ s',o = .inl s' ∧ (s'.2.2.2.2 = ((k + 1:Nat):Int) ∧ Dv (ls.take (k + 1)) s'.1 s'.2.1 s'.2.2.1 s'.2.2.2.1) ∧ k < ls.length) ∨ ∃ t,o = .inr t ∧ Dv ls t.1 t.2.1 t.2.2.1 t.2.2.2:=by
    intro a' b' c' d' h
    exact av.some (.inl ⟨_,rfl,⟨rfl,by rw [ht]; exact h⟩,hkl⟩)
   obtain ⟨p,hp⟩:∃ p,y % 4 = p:=⟨_,rfl⟩
   obtain ⟨q,hq⟩:∃ q,y / 4 % 4 = q:=⟨_,rfl⟩
   rw [hp,hq]
   have hp4:p = 0 ∨ p = 1 ∨ p = 2 ∨ p = 3:=by omega
   have hq4:q = 0 ∨ q = 1 ∨ q = 2 ∨ q = 3:=by omega
   clear hp hq hy
   rcases hp4 with rfl | rfl | rfl | rfl <;> rcases hq4 with rfl | rfl | rfl | rfl <;>
   ·simp only [Int.reduceEq,decide_false,decide_true,Bool.false_eq_true,if_false,if_true,Option.bind_some]
    refine av.app (by simp only [List.length_singleton]; omega) (av.app (by simp only [List.length_singleton,List.length_append]; omega) (fin _ _ _ _ (hD.two (fun l=>?_) ?_)))
    ·simp only [List.mem_append,List.mem_singleton]
     grind
    ·simp only [List.length_append,List.length_singleton]; omega
  ·have hc:=of_decide_eq_false hc
   have:k = ls.length:=by omega
   subst this
   rw [List.take_length] at hD
   exact av.some (.inr ⟨_,rfl,hD⟩)
 rintro ⟨a,b,c,d⟩ hD
 simp only at hD
 simp only [qK]
 have hlen:=hD.len
 have hf:∀ x ∈ [a,b,c,d],Gr fx x ∧ fx.length + x.length < 490:=fun x hx=>by
  simp only [List.mem_cons,List.not_mem_nil,or_false] at hx
  refine ⟨⟨hg.1,fun l hl=>hg.2 l ((hD.mem l).2 ?_)⟩,?_⟩
  ·rcases hx with rfl | rfl | rfl | rfl
   ·exact .inl hl
   ·exact .inr (.inl hl)
   ·exact .inr (.inr (.inl hl))
   ·exact .inr (.inr (.inr hl))
  ·rcases hx with rfl | rfl | rfl | rfl <;> have:=hg.1 <;> omega
 have hfind:∀ x ∈ [a,b,c,d],bN 2000 fx x = some (mg (iY fx x),0):=fun x hx=>by
  rw [oH (hf x hx).2,if_pos (hf x hx).1]
 refine av.bind (P:=(· = .inl ⟨mg (iY fx a),mg (iY fx b),mg (iY fx c),mg (iY fx d)⟩)) ?_ ?_
 ·refine av.rounds (n:=4) (I:=fun k z=>z = (a,b,c,d,if 0 < k then mg (iY fx a) else [],if 1 < k then mg (iY fx b) else [],if 2 < k then mg (iY fx c) else [],if 3 < k then mg (iY fx d) else [],(k:Int))) (by omega) rfl ?_
  rintro k z hk rfl
  simp only [un9]
  have hk':k = 0 ∨ k = 1 ∨ k = 2 ∨ k = 3 ∨ k = 4:=by omega
  have w:∀ j:Nat,j < 4 → IntKind.i64.wrap ((j:Int) + 1) = ((j + 1:Nat):Int):=fun j hj=>by rw [lS (by omega) (by omega)]; push_cast; rfl
  rcases hk' with rfl | rfl | rfl | rfl | rfl
  ·exact av.qL rfl (av.qL rfl (av.cj (hfind a (by simp)) (av.iff rfl (av.some (.inl ⟨_,rfl,by rw [w 0 (by omega)]; rfl,by omega⟩)))))
  ·exact av.qL rfl (av.iff rfl (av.qL rfl (av.cj (hfind b (by simp)) (av.iff rfl (av.some (.inl ⟨_,rfl,by rw [w 1 (by omega)]; rfl,by omega⟩))))))
  ·exact av.qL rfl (av.iff rfl (av.iff rfl (av.qL rfl (av.cj (hfind c (by simp)) (av.iff rfl (av.some (.inl ⟨_,rfl,by rw [w 2 (by omega)]; rfl,by omega⟩)))))))
  ·exact av.qL rfl (av.iff rfl (av.iff rfl (av.iff rfl (av.qL rfl (av.cj (hfind d (by simp)) (av.iff rfl (av.some (.inl ⟨_,rfl,by rw [w 3 (by omega)]; rfl,by omega⟩))))))))
  ·exact av.iff rfl (av.some (.inr ⟨_,rfl,rfl⟩))
 rintro _ rfl
 simp only [iC]
 have hpt:=fun x hx=>kX (hf x hx).2 (hf x hx).1
 have hsm:=fun x hx=>ox (hpt x hx)
 have hfl:=fun x hx=>si (hpt x hx)
 obtain ⟨m1,m2⟩:=ox (kX hs hg)
 have hx:=hg.1
 have hsz:Sz ([mg (iY fx a),mg (iY fx b),mg (iY fx c),mg (iY fx d)].flatten):=by
  have a1:=(hsm a (by simp)).1
  have a2:=(hsm b (by simp)).1
  have a3:=(hsm c (by simp)).1
  have a4:=(hsm d (by simp)).1
  have b1:=hfl a (by simp)
  have b2:=hfl b (by simp)
  have b3:=hfl c (by simp)
  have b4:=hfl d (by simp)
  constructor
  ·simp only [List.flatten_cons,List.flatten_nil,List.length_append,List.length_nil]; omega
  ·simp only [List.flatten_cons,List.flatten_nil,List.flatten_append,List.length_append,List.length_nil]; omega
 have hpp:=qv hg hs (As:=[a,b,c,d]) (fun l=>by rw [hD.mem]; simp) (by simp) fun x hx=>(hf x hx).2
 refine av.cj jJ (av.g1 rfl (av.cj (mg_own hsz (by simp)) (av.g1 rfl ?_)))
 rw [show mg ([mg (iY fx a),mg (iY fx b),mg (iY fx c),mg (iY fx d)].flatten) = mg (iY fx ls) from p7 hsz hpp]
 exact av.cj (sets_ok (by omega) fun c hc=>by have:=m2 c hc; omega) (av.some rfl)
end Go.Proofs.Ytgojigdbelkgoaa
namespace Go.Proofs.Ytgojigdbelkgoaa
open Go Go.Sk
theorem sm {h:PH} {v:Value} {l:List Int} (hv:(CP.sl 1 (l.map (eK .u8))).rel h v) {x:Int} (hx:x ∈ l):0 ≤ x ∧ x ≤ 255:=by
 obtain ⟨u,hu⟩:=pB hv (List.mem_map.2 ⟨x,hx,rfl⟩) (p:=.int .u8 x) (by simp [eK])
 have:=hu.2
 unfold l8 at this
 simpa [IntKind.min,IntKind.max,IntKind.signed,IntKind.bits] using this
theorem qu (x0:List Bool) (x1:List A2) (x2:List Int) (hx2:∀ y ∈ x2,0 ≤ y ∧ y ≤ 255):aC Try.prog [] 7 [] [.one (.sl 1 (x0.map eB)),.one (.sl 2 (x1.map (ah .i64))),.one (.sl 1 (x2.map (eK .u8)))] (Is [] (.b (.one (.bool true)))) :=
 eo (qt x0 x1 x2 hx2)
end Go.Proofs.Ytgojigdbelkgoaa
