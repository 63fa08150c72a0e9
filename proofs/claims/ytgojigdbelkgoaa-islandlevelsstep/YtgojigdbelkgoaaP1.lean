/- the plain law -/
import Derived.Test.YtgojigdbelkgoaaW2
namespace Go.Proofs.Ytgojigdbelkgoaa
open Go Go.Sk
set_option maxRecDepth 100000
set_option linter.unusedVariables false
set_option linter.unusedSimpArgs false
def pT (x:Int):List Int → List Int
 | []=>[x]
 | y :: l=>if x ≤ y then x :: y :: l else y :: pT x l
def nJ:List Int → List Int
 | []=>[]
 | x :: l=>pT x (nJ l)
theorem mc (x:Int):∀ l:List Int,(pT x l).Perm (x :: l)
 | []=>.refl _
 | y :: l=>by
  unfold pT
  split
  ·exact .refl _
  ·exact .trans (.cons y (mc x l)) (.swap x y l)
theorem np:∀ l:List Int,(nJ l).Perm l
 | []=>.refl _
 | x :: l=>(mc x (nJ l)).trans (.cons x (np l))
theorem qS (x:Int):∀ l:List Int,l.Pairwise (· ≤ ·) → (pT x l).Pairwise (· ≤ ·)
 | [],_=>by simp [pT]
 | y :: l,h=>by
  unfold pT
  have h1:=List.pairwise_cons.1 h
  split
  ·next hc=>
   refine List.pairwise_cons.2 ⟨fun z hz=>?_,h⟩
   rcases List.mem_cons.1 hz with rfl | hz
   ·exact hc
   ·exact Int.le_trans hc (h1.1 z hz)
  ·next hc=>
   refine List.pairwise_cons.2 ⟨fun z hz=>?_,qS x l h1.2⟩
   rcases List.mem_cons.1 ((mc x l).mem_iff.1 hz) with rfl | hz
   ·omega
   ·exact h1.1 z hz
theorem pq:∀ l:List Int,(nJ l).Pairwise (· ≤ ·)
 | []=>.nil
 | x :: l=>qS x _ (pq l)
theorem sorted_perm (l:List Int):(sorted l).Perm l:=List.mergeSort_perm _ _
theorem q7 (l:List Int):(sorted l).Pairwise (· ≤ ·) :=
 (List.pairwise_mergeSort (le:=fun x y:Int=>decide (x ≤ y)) (fun a b c h1 h2=>by simp only [decide_eq_true_eq] at *; omega) (fun a b=>by simp only [Bool.or_eq_true,decide_eq_true_eq]; omega) l).imp fun h=>of_decide_eq_true h
theorem q8 (l:List Int):sorted l = nJ l :=
 List.Perm.eq_of_pairwise (fun a b _ _ h1 h2=>Int.le_antisymm h1 h2) (q7 l) (pq l) ((sorted_perm l).trans (np l).symm)
def sort2 (F:Nat) (zs:List Int):Option (List Int):=if zs.length < 1000000000 then some (nJ zs) else none
theorem sort_eq:cW = sort2:=by
 funext F zs
 unfold cW jz sort2
 rw [q8]
theorem lX:bE 2000 = some true:=by
 unfold bE fy ep fU eF cq cI dA bt cL
 rw [sort_eq]
 decide +kernel
end Go.Proofs.Ytgojigdbelkgoaa
namespace Go.Proofs.Ytgojigdbelkgoaa
open Go Go.Sk
set_option linter.unusedVariables false
set_option linter.unusedSimpArgs false
section
variable {F:Nat} (hF:F ≤ 1000000000)
include hF
theorem rQ {l:List Int} {n:Int} (hl:l.length < F):bZ F l n = some (decide (n ∈ l)):=by
 refine af.eq ?_
 unfold bZ
 refine af.bind (P:=fun o:Unit ⊕ Bool=>(o = .inl () ∧ ¬ n ∈ l) ∨ (o = .inr true ∧ n ∈ l)) ?_ ?_
 ·refine af.find (c:=fun x=>decide (x = n)) (r:=fun _=>true) hl (by omega) (fun h=>.inl ⟨rfl,fun hm=>by have:=h n hm; simp at this⟩) (fun pre x post e _ hc=>.inr ⟨rfl,by rw [e,← of_decide_eq_true hc]; simp⟩) fun i x hx=>by rw [hx]; rfl
 ·rintro o (⟨rfl,h⟩ | ⟨rfl,h⟩)
  ·exact af.some (by simp [h])
  ·exact af.some (by simp [h])
theorem with35 {l:List Int} {n:Int} (hl:l.length < F) (hs:nI l):af (dZ F l n) fun o=>nI o ∧ ∀ z,z ∈ o ↔ z = n ∨ z ∈ l:=by
 unfold dZ
 refine af.bp (rQ hF hl) (af.ite (fun h=>af.some ⟨hs,fun z=>⟨.inr,?_⟩⟩) fun h=>?_)
 ·have h:=of_decide_eq_true h
  rintro (rfl | h')
  ·exact h
  ·exact h'
 have hn:n ∉ l:=of_decide_eq_false h
 refine af.bind (P:=fun o:List Int × Bool=>iC (fun x:Int=>x) n l o.1 o.2) ?_ ?_
 ·refine af.ea3 (I:=fun pre out p=>iC (fun x:Int=>x) n pre out p ∧ out.length ≤ pre.length + 1) hl (by omega) ⟨iC.zero,by simp⟩ ?_ fun a b h=>h.1
  rintro pre x post out p e hx ⟨hI,hlen⟩
  have hlt:∀ a ∈ pre,a < x:=fun a ha=>(List.pairwise_append.1 (e ▸ hs)).2.2 a ha x (List.mem_cons_self ..)
  have hxn:x ≠ n:=fun e'=>hn (by rw [e,← e']; simp)
  have hpl:pre.length < l.length:=by rw [e]; simp
  refine af.bind (P:=fun z:List Int × Bool=>iC (fun x:Int=>x) n (pre ++ [x]) z.1 z.2 ∧ z.1.length ≤ pre.length + 2) ?_ fun z hz=>af.some (.inl ⟨_,_,rfl,hz.1,by simpa using hz.2⟩)
  refine af.bind (P:=fun z:List Int × Bool=>iC (fun x:Int=>x) n (pre ++ [x]) (z.1 ++ [x]) z.2 ∧ z.1.length ≤ pre.length + 1) ?_ ?_
  ·cases p with
   | true=>exact af.g0 rfl (af.iff rfl (af.some ⟨hI.next (.inl rfl) hxn hlt,hlen⟩))
   | false=>
    refine af.g1 rfl (af.bp hx (af.ite (fun hc=>?_) fun hc=>?_))
    ·have hc:n < x:=by simpa using hc
     obtain ⟨A,B,h1,_,_,h | h⟩:=id hI
     ·refine af.app (by simp only [List.length_singleton]; omega) (af.some ⟨hI.put hc,?_⟩)
      obtain ⟨_,rfl,rfl⟩:=h
      simp [h1]
     ·exact absurd h.1 (by simp)
    ·have hc:¬ n < x:=by simpa using hc
     exact af.some ⟨hI.next (.inr (by omega)) hxn hlt,hlen⟩
  ·rintro ⟨o,p'⟩ ⟨h1,h2⟩
   simp only at h1 h2
   exact af.bp hx (af.app (by simp only [List.length_singleton]; omega) (af.some ⟨h1,by simp; omega⟩))
 ·rintro ⟨o,p⟩ hI
  obtain ⟨h1,h2⟩:=hI.fin hs
  simp only at h1 h2 ⊢
  refine af.bind (P:=(· = if (!p) = true then o ++ [n] else o)) ?_ fun z hz=>af.some ?_
  ·obtain ⟨A,B,h3,_,_,h | h⟩:=hI
   ·obtain ⟨rfl,rfl,h4⟩:=h
    simp only at h4
    refine af.qw rfl (af.app (by rw [h4]; simp only [List.length_singleton]; simp at h3; rw [← h3]; omega) (af.some rfl))
   ·obtain ⟨rfl,_,_⟩:=h
    exact af.iff rfl (af.some rfl)
  ·rw [hz]
   refine ⟨h1,fun z=>?_⟩
   rw [h2.mem_iff,List.mem_cons]
theorem qC {a b B:List Int} (hb:b.length < F) (hs:nI a) (hB:B.length < F) (hsub:∀ z,(z ∈ a ∨ z ∈ b) → z ∈ B):af (dc F a b) fun o=>nI o ∧ ∀ z,z ∈ o ↔ z ∈ a ∨ z ∈ b:=by
 unfold dc
 refine af.bind ?_ (fun o ho=>af.some ho)
 refine af.rC (I:=fun pre o=>nI o ∧ ∀ z,z ∈ o ↔ z ∈ a ∨ z ∈ pre) hb (by omega) ⟨hs,by simp⟩ ?_ fun s h=>h
 rintro pre x post o e hx ⟨h1,h2⟩
 have hol:o.length < F:=by
  have:o.length ≤ B.length:=oJ h1 fun z hz=>hsub z (((h2 z).1 hz).imp_right fun h=>by rw [e]; simp [h])
  omega
 refine af.bp hx (af.bind (with35 hF hol h1) fun o' ho'=>af.some (.inl ⟨_,rfl,ho'.1,fun z=>?_⟩))
 rw [ho'.2,h2,List.mem_append,List.mem_singleton]
 constructor
 ·rintro (h | h | h)
  ·exact .inr (.inr h)
  ·exact .inl h
  ·exact .inr (.inl h)
 ·rintro (h | h | h)
  ·exact .inr (.inl h)
  ·exact .inr (.inr h)
  ·exact .inl h
theorem meets35 {a b:List Int} (ha:a.length < F) (hb:b.length < F):dN F a b = some (a.any fun u=>b.contains u):=by
 refine af.eq ?_
 unfold dN
 refine af.bind (P:=fun o:Unit ⊕ Bool=>(o = .inl () ∧ ∀ x ∈ a,b.contains x = false) ∨ (o = .inr true ∧ ∃ x ∈ a,b.contains x = true)) ?_ ?_
 ·refine af.find (c:=fun x=>b.contains x) (r:=fun _=>true) ha (by omega) (fun h=>.inl ⟨rfl,h⟩) (fun pre x post e _ hc=>.inr ⟨rfl,x,by rw [e]; simp,hc⟩) fun i x hx=>by
   rw [hx,Option.bind_some,rQ hF hb,List.contains_eq_mem]; rfl
 ·rintro o (⟨rfl,h⟩ | ⟨rfl,h⟩)
  ·refine af.some (Eq.symm ?_)
   rw [List.any_eq_false]; intro x hx; rw [h x hx]; simp
  ·exact af.some (Eq.symm (List.any_eq_true.2 h))
theorem put35 {l:List (List Int)} {x:List Int} (hl:l.length < F) (hn:∀ c ∈ l,c ≠ []) (hx:x ≠ []) (hs:HdL l) (hd':∀ c ∈ l,hd c ≠ hd x):af (ey F l x) fun o=>HdL o ∧ o.Perm (x :: l):=by
 unfold ey
 have h0:∀ c:List Int,c ≠ [] → av c 0 = some (hd c):=fun c hc=>by
  cases c with
  | nil=>exact absurd rfl hc
  | cons a c=>exact idx?_at [] c a
 refine af.bind (P:=fun o:List (List Int) × Bool=>iC hd x l o.1 o.2) ?_ ?_
 ·refine af.ea3 (I:=fun pre out p=>iC hd x pre out p ∧ out.length ≤ pre.length + 1) hl (by omega) ⟨iC.zero,by simp⟩ ?_ fun a b h=>h.1
  rintro pre y post out p e hy ⟨hI,hlen⟩
  have hlt:∀ a ∈ pre,hd a < hd y:=fun a ha=>(List.pairwise_append.1 (e ▸ hs)).2.2 a ha y (List.mem_cons_self ..)
  have hym:y ∈ l:=by rw [e]; simp
  have hpl:pre.length < l.length:=by rw [e]; simp
  refine af.bind (P:=fun z:List (List Int) × Bool=>iC hd x (pre ++ [y]) z.1 z.2 ∧ z.1.length ≤ pre.length + 2) ?_ fun z hz=>af.some (.inl ⟨_,_,rfl,hz.1,by simpa using hz.2⟩)
  refine af.bind (P:=fun z:List (List Int) × Bool=>iC hd x (pre ++ [y]) (z.1 ++ [y]) z.2 ∧ z.1.length ≤ pre.length + 1) ?_ ?_
  ·cases p with
   | true=>exact af.g0 rfl (af.g0 rfl (af.g0 rfl (af.iff rfl (af.some ⟨hI.next (.inl rfl) (hd' y hym) hlt,hlen⟩))))
   | false=>
    refine af.g1 rfl (af.bp hy (af.g1 rfl (af.bp (h0 y (hn y hym)) (af.g1 rfl (af.bp (h0 x hx) (af.ite (fun hc=>?_) fun hc=>?_))))))
    ·have hc:hd x < hd y:=by simpa using hc
     obtain ⟨A,B,h1,_,_,h | h⟩:=id hI
     ·refine af.app (by simp only [List.length_singleton]; omega) (af.some ⟨hI.put hc,?_⟩)
      obtain ⟨_,rfl,rfl⟩:=h
      simp [h1]
     ·exact absurd h.1 (by simp)
    ·have hc:¬ hd x < hd y:=by simpa using hc
     exact af.some ⟨hI.next (.inr (by omega)) (hd' y hym) hlt,hlen⟩
  ·rintro ⟨o,p'⟩ ⟨h1,h2⟩
   simp only at h1 h2
   exact af.bp hy (af.app (by simp only [List.length_singleton]; omega) (af.some ⟨h1,by simp; omega⟩))
 ·rintro ⟨o,p⟩ hI
  obtain ⟨h1,h2⟩:=hI.fin hs
  simp only at h1 h2 ⊢
  refine af.bind (P:=(· = if (!p) = true then o ++ [x] else o)) ?_ fun z hz=>af.some ?_
  ·obtain ⟨A,B,h3,_,_,h | h⟩:=hI
   ·obtain ⟨rfl,rfl,h4⟩:=h
    simp only at h4
    refine af.qw rfl (af.app (by rw [h4]; simp only [List.length_singleton]; simp at h3; rw [← h3]; omega) (af.some rfl))
   ·obtain ⟨rfl,_,_⟩:=h
    exact af.iff rfl (af.some rfl)
  ·rw [hz]
   exact ⟨h1,h2⟩
end
def pr (L:List (List Int)) (a b:Int):Prop:=∃ c ∈ L,a ∈ c ∧ b ∈ c
def dm (L:List (List Int)) (a:Int):Prop:=∃ c ∈ L,a ∈ c
theorem pr_dm {L:List (List Int)} (a b:Int) (h:pr L a b):dm L a ∧ dm L b:=by
 obtain ⟨c,hc,h1,h2⟩:=h; exact ⟨⟨c,hc,h1⟩,c,hc,h2⟩
theorem oH {L:List (List Int)} (a:Int):dm L a ↔ a ∈ L.flatten:=by
 unfold dm; rw [List.mem_flatten]
theorem qW {P D:_} {s:List (List Int)} {B:List Int} (h:IsPt P D s) (hB:∀ a,D a → a ∈ B) {c:List Int} (hc:c ∈ s):c.length ≤ B.length :=
 oJ (h.asd c hc).2 fun a ha=>hB a ((h.dom a).2 ⟨c,hc,ha⟩)
theorem pV {P D:_} {s:List (List Int)} {B:List Int} (h:IsPt P D s) (hB:∀ a,D a → a ∈ B):s.length ≤ B.length:=by
 have:(s.map hd).Nodup:=List.pairwise_map.2 (List.Pairwise.imp_of_mem (fun {c d} hc hd' h' e=>h' _ (gR (h.asd c hc).1) (e ▸ gR (h.asd d hd').1)) h.dj)
 have h2:=mZ (m:=B) this fun a ha=>by
  obtain ⟨c,hc,rfl⟩:=List.mem_map.1 ha
  exact hB _ ((h.dom _).2 ⟨c,hc,gR (h.asd c hc).1⟩)
 simpa using h2
theorem merge35 {F:Nat} (hF:F ≤ 100000000) {L:List (List Int)} (hl:L.length < F) (hB:L.flatten.length < F):af (cF F L) (Part (pr L) (dm L)):=by
 have hF':F ≤ 1000000000:=by omega
 unfold cF
 refine af.bind (P:=fun s=>IsPt (pr L) (dm L) s) ?_ ?_
 ·refine af.rC (I:=fun pre s=>IsPt (pr pre) (dm pre) s) hl (by omega) ⟨by simp,by simp,by simp [dm],by simp,by simp⟩ ?_ fun s h=>h
  rintro pre x0 post s e hx hI
  refine af.bind (P:=fun s'=>IsPt (pr (pre ++ [x0])) (dm (pre ++ [x0])) s') ?_ fun s' h=>af.some (.inl ⟨_,rfl,h⟩)
  have hx0:∀ z ∈ x0,z ∈ L.flatten:=fun z hz=>(oH z).1 ⟨x0,by rw [e]; simp,hz⟩
  have hpre:∀ z,dm pre z → z ∈ L.flatten:=fun z ⟨c,hc,hz⟩=>(oH z).1 ⟨c,by rw [e]; simp [hc],hz⟩
  have hx0l:x0.length < F:=by
   have:x0.length ≤ L.flatten.length:=by rw [e]; simp; omega
   omega
  have hsl:s.length < F:=by have:=pV hI hpre; omega
  refine af.bp hx (af.bind (qC hF' (B:=L.flatten) hx0l List.Pairwise.nil hB (by simpa using hx0)) ?_)
  rintro x ⟨hxa,hxm⟩
  simp only [List.not_mem_nil,false_or] at hxm
  refine af.ite (fun hc=>af.some ?_) fun hc=>?_
  ·have:x0 = []:=by
    have hc:=of_decide_eq_true hc
    have hx':x = []:=List.length_eq_zero_iff.1 (by omega)
    cases x0 with
    | nil=>rfl
    | cons a x0=>have:=(hxm a).2 (List.mem_cons_self ..); rw [hx'] at this; cases this
   subst this
   refine hI.congr (gk.congr (fun a b ⟨c,hc,h⟩=>.of ⟨c,by simp [hc],h⟩) fun a b ⟨c,hc,h⟩=>.of ⟨c,?_,h⟩) fun a=>⟨fun ⟨c,hc,h⟩=>⟨c,by simp [hc],h⟩,fun ⟨c,hc,h⟩=>⟨c,?_,h⟩⟩
   ·rcases List.mem_append.1 hc with hc | hc
    ·exact hc
    ·rw [List.mem_singleton.1 hc] at h; exact absurd h.1 (by simp)
   ·rcases List.mem_append.1 hc with hc | hc
    ·exact hc
    ·rw [List.mem_singleton.1 hc] at h; exact absurd h (by simp)
  ·have hxne:x ≠ []:=by
    rintro rfl; simp at hc
   refine af.bind (P:=fun o:List Int × List (List Int)=>nI o.1 ∧ (∀ z,z ∈ o.1 ↔ z ∈ x ∨ ∃ c ∈ s,(∃ u ∈ c,u ∈ x) ∧ z ∈ c) ∧ o.2 = s.filter fun c=>!(c.any fun u=>x.contains u)) ?_ ?_
   ·refine af.ea3 (I:=fun q y rest=>nI y ∧ (∀ z,z ∈ y ↔ z ∈ x ∨ ∃ c ∈ q,(∃ u ∈ c,u ∈ x) ∧ z ∈ c) ∧ rest = q.filter fun c=>!(c.any fun u=>x.contains u)) hsl (by omega) ⟨hxa,by simp,rfl⟩ ?_ fun a b h=>h
    rintro q c post' y rest e' hc' ⟨h1,h2,h3⟩
    have hcs:c ∈ s:=by rw [e']; simp
    have hq:∀ d ∈ q,d ∈ s:=fun d hd=>by rw [e']; simp [hd]
    have hdj:∀ d ∈ q,∀ z ∈ d,z ∉ c:=fun d hd=>(List.pairwise_append.1 (e' ▸ hI.dj)).2.2 d hd c (List.mem_cons_self ..)
    have hcl:c.length < F:=by have:=qW hI hpre hcs; omega
    have hyB:∀ z ∈ y,z ∈ L.flatten:=fun z hz=>by
     rcases (h2 z).1 hz with hz | ⟨d,hd,_,hz⟩
     ·exact hx0 z ((hxm z).1 hz)
     ·exact hpre z ((hI.dom z).2 ⟨d,hq d hd,hz⟩)
    have hyl:y.length < F:=by have:=oJ h1 hyB; omega
    have hmt:(c.any fun u=>y.contains u) = c.any fun u=>x.contains u:=by
     rw [Bool.eq_iff_iff,List.any_eq_true,List.any_eq_true]
     simp only [List.contains_eq_mem,decide_eq_true_eq]
     constructor
     ·rintro ⟨u,hu,huy⟩
      rcases (h2 u).1 huy with h | ⟨d,hd,_,hud⟩
      ·exact ⟨u,hu,h⟩
      ·exact absurd hu (hdj d hd u hud)
     ·rintro ⟨u,hu,hux⟩; exact ⟨u,hu,(h2 u).2 (.inl hux)⟩
    refine af.bind (P:=fun o:List Int × List (List Int)=>nI o.1 ∧ (∀ z,z ∈ o.1 ↔ z ∈ x ∨ ∃ d ∈ q ++ [c],(∃ u ∈ d,u ∈ x) ∧ z ∈ d) ∧ o.2 = (q ++ [c]).filter fun c=>!(c.any fun u=>x.contains u)) ?_ fun o ho=>af.some (.inl ⟨_,_,rfl,ho⟩)
    refine af.bp hc' (af.bp (meets35 hF' hcl hyl) ?_)
    rw [hmt]
    refine af.ite (fun hm=>?_) fun hm=>?_
    ·have hm':∃ u ∈ c,u ∈ x:=by simpa using hm
     refine af.bp hc' (af.bind (qC hF' hcl h1 hB (B:=L.flatten) ?_) fun y' hy'=>af.some ⟨hy'.1,fun z=>?_,?_⟩)
     ·rintro z (hz | hz)
      ·exact hyB z hz
      ·exact hpre z ((hI.dom z).2 ⟨c,hcs,hz⟩)
     ·rw [hy'.2,h2]
      constructor
      ·rintro ((h | ⟨d,hd,h⟩) | h)
       ·exact .inl h
       ·exact .inr ⟨d,by simp [hd],h⟩
       ·exact .inr ⟨c,by simp,hm',h⟩
      ·rintro (h | ⟨d,hd,h⟩)
       ·exact .inl (.inl h)
       ·rcases List.mem_append.1 hd with hd | hd
        ·exact .inl (.inr ⟨d,hd,h⟩)
        ·rw [List.mem_singleton.1 hd] at h; exact .inr h.2
     ·rw [h3,List.filter_append]
      simp only [List.filter_cons,List.filter_nil,hm]
      simp
    ·have hm':¬ ∃ u ∈ c,u ∈ x:=by simpa using hm
     have hrl:rest.length ≤ s.length:=by
      rw [h3]; refine Nat.le_trans (List.length_filter_le _ _) ?_
      rw [e']; simp
     refine af.bp hc' (af.app (by simp only [List.length_singleton]; omega) (af.some ⟨h1,fun z=>?_,?_⟩))
     ·rw [h2]
      constructor
      ·rintro (h | ⟨d,hd,h⟩)
       ·exact .inl h
       ·exact .inr ⟨d,by simp [hd],h⟩
      ·rintro (h | ⟨d,hd,h⟩)
       ·exact .inl h
       ·rcases List.mem_append.1 hd with hd | hd
        ·exact .inr ⟨d,hd,h⟩
        ·rw [List.mem_singleton.1 hd] at h; exact absurd h.1 hm'
     ·rw [h3,List.filter_append]
      simp only [List.filter_cons,List.filter_nil,hm]
      simp
   ·rintro ⟨y,rest⟩ ⟨h1,h2,h3⟩
    simp only at h1 h2 h3
    have hrl:rest.length ≤ s.length:=by rw [h3]; exact List.length_filter_le _ _
    refine af.app (by simp only [List.length_singleton]; omega) (af.some ?_)
    refine hI.add (x:=x) pr_dm hxne h1 h2 (fun a b=>?_) (fun a=>?_) h3
    ·unfold pr
     simp only [List.mem_append,List.mem_singleton]
     constructor
     ·rintro ⟨c,hc | rfl,h⟩
      ·exact .inl ⟨c,hc,h⟩
      ·exact .inr ⟨(hxm a).2 h.1,(hxm b).2 h.2⟩
     ·rintro (⟨c,hc,h⟩ | ⟨h,h'⟩)
      ·exact ⟨c,.inl hc,h⟩
      ·exact ⟨x0,.inr rfl,(hxm a).1 h,(hxm b).1 h'⟩
    ·unfold dm
     simp only [List.mem_append,List.mem_singleton]
     constructor
     ·rintro ⟨c,hc | rfl,h⟩
      ·exact .inl ⟨c,hc,h⟩
      ·exact .inr ((hxm a).2 h)
     ·rintro (⟨c,hc,h⟩ | h)
      ·exact ⟨c,.inl hc,h⟩
      ·exact ⟨x0,.inr rfl,(hxm a).1 h⟩
 ·intro s hs
  have hsl:s.length < F:=by have:=pV hs (fun a=>(oH a).1); omega
  refine af.bind ?_ (fun o ho=>af.some ho)
  refine af.rC (I:=fun q o=>HdL o ∧ o.Perm q) hsl (by omega) ⟨List.Pairwise.nil,.refl _⟩ ?_ ?_
  ·rintro q c post o e hc ⟨h1,h2⟩
   have hcs:c ∈ s:=by rw [e]; simp
   have hq:∀ d ∈ q,d ∈ s:=fun d hd=>by rw [e]; simp [hd]
   have hol:o.length < F:=by
    rw [h2.length_eq]
    have:q.length < s.length:=by rw [e]; simp
    omega
   have hdj:∀ d ∈ q,∀ z ∈ d,z ∉ c:=fun d hd=>(List.pairwise_append.1 (e ▸ hs.dj)).2.2 d hd c (List.mem_cons_self ..)
   refine af.bp hc (af.bind (put35 hF' hol (fun d hd=>(hs.asd d (hq d (h2.mem_iff.1 hd))).1) (hs.asd c hcs).1 h1 fun d hd e=>?_) fun o' ho'=>af.some (.inl ⟨_,rfl,ho'.1,?_⟩))
   ·have hd':=h2.mem_iff.1 hd
    exact hdj d hd' _ (gR (hs.asd d (hq d hd')).1) (e ▸ gR (hs.asd c hcs).1)
   ·exact ho'.2.trans ((List.Perm.cons c h2).trans (List.perm_append_singleton c q).symm)
  ·rintro o ⟨h1,h2⟩
   exact { asd:=fun c hc=>hs.asd c (h2.mem_iff.1 hc),dj:=(h2.pairwise_iff (fun {a b} h z hz hza=>h z hza hz)).2 hs.dj,dom:=fun a=>by rw [hs.dom]; simp only [h2.mem_iff],con:=fun c hc=>hs.con c (h2.mem_iff.1 hc),cl:=fun c hc=>hs.cl c (h2.mem_iff.1 hc),srt:=h1 }
end Go.Proofs.Ytgojigdbelkgoaa
namespace Go.Proofs.Ytgojigdbelkgoaa
open Go Go.Sk
set_option linter.unusedVariables false
set_option linter.unusedSimpArgs false
def ao (m:ba):List Int:=m.map (·.1)
def cnt (m:ba) (x:Int):Nat:=((ao m).filter fun z=>decide (z < x)).length
theorem cnt_le (m:ba) (x:Int):cnt m x ≤ m.length:=by
 unfold cnt ao; refine Nat.le_trans (List.length_filter_le _ _) ?_; simp
theorem cnt_lt {m:ba} {u x:Int} (hu:cH m u = true) (h:u < x):cnt m u < cnt m x:=by
 have hm:=(iG u m).1 hu
 unfold cnt
 have:∀ ks:List Int,(∀ z,z ∈ ks → True) → (ks.filter fun z=>decide (z < u)).length ≤ (ks.filter fun z=>decide (z < x)).length ∧ (u ∈ ks → (ks.filter fun z=>decide (z < u)).length < (ks.filter fun z=>decide (z < x)).length):=fun ks _=>by
  induction ks with
  | nil=>simp
  | cons a ks ih=>
   have ih:=ih (fun _ _=>trivial)
   simp only [List.filter_cons,List.mem_cons]
   by_cases h1:a < u
   ·have h2:a < x:=by omega
    simp only [h1,h2,decide_true,if_true,List.length_cons]
    refine ⟨by omega,?_⟩
    rintro (rfl | h')
    ·omega
    ·have:=ih.2 h'; omega
   ·by_cases h2:a < x
    ·simp only [h1,h2,decide_true,decide_false,if_true,List.length_cons]
     refine ⟨by have:=ih.1; simp; omega,fun _=>by have:=ih.1; simp; omega⟩
    ·simp only [h1,h2,decide_false]
     refine ⟨by simpa using ih.1,?_⟩
     rintro (rfl | h')
     ·omega
     ·simpa using ih.2 h'
 exact (this (ao m) fun _ _=>trivial).2 hm
theorem qH {F:Nat}:∀ (n:Nat) {m:ba} {r:Int → Int} {x:Int},lE m r → cnt m x < n → af (b7 F n x m) fun z=>z.1 = r x ∧ lE z.2 r ∧ ao z.2 = if cH m x then ao m else ao m ++ [x]
 | 0,m,r,x,h,hn=>by omega
 | n + 1,m,r,x,h,hn=>by
  show af (if (!(cH m x)) = true then _ else _) _
  refine af.ite (fun hc=>?_) fun hc=>?_
  ·have hc:cH m x = false:=by simpa using hc
   refine af.some ⟨(h.out x hc).symm,h.add hc,?_⟩
   simp only [ao]
   rw [iK]
  ·have hc:cH m x = true:=by simpa using hc
   refine af.ite (fun he=>af.some ⟨(h.fix x hc (of_decide_eq_true he)).symm,h,by simp [hc]⟩) fun he=>?_
   have he:=of_decide_eq_false he
   have hu:=h.has x hc
   have hl:ca m x < x:=by have:=h.le x hc; omega
   refine af.bind (qH n (x:=ca m x) h (by have:=cnt_lt hu hl; omega)) ?_
   rintro ⟨a,m'⟩ ⟨h1,h2,h3⟩
   simp only at h1 h2 h3
   rw [hu,if_pos rfl] at h3
   have e:a = r x:=by rw [h1,h.step x hc]
   have hx':cH m' x = true:=by rw [iG]; show x ∈ ao m'; rw [h3]; exact (iG x m).1 hc
   refine af.some ⟨e,?_,?_⟩
   ·simp only; rw [e]; exact h2.short hx'
   ·simp only [ao]
    rw [iK,hx',hc]
    exact h3
theorem gU {m:ba} {x:Int}:cH m x = true ↔ x ∈ ao m:=iG x m
theorem oc {F:Nat} {m:ba} {r:Int → Int} {x:Int} (h:lE m r) (hF:m.length < F):af (bu F x m) fun z=>z.1 = r x ∧ lE z.2 r ∧ (∀ y,y ∈ ao z.2 ↔ y = x ∨ y ∈ ao m) ∧ z.2.length ≤ m.length + 1 ∧ (cH m x = true → ao z.2 = ao m):=by
 refine (qH F h (by have:=cnt_le m x; omega)).mono ?_
 rintro ⟨a,m'⟩ ⟨h1,h2,h3⟩
 simp only at h1 h2 h3 ⊢
 have hl:(ao m').length = m'.length:=by simp [ao]
 have hl2:(ao m).length = m.length:=by simp [ao]
 refine ⟨h1,h2,fun y=>?_,?_,fun hh=>by rw [h3,hh]; rfl⟩
 ·rw [h3]
  split
  ·next hc=>
   constructor
   ·exact .inr
   ·rintro (rfl | h)
    ·exact gU.1 hc
    ·exact h
  ·simp [or_comm]
 ·rw [← hl,h3]; split <;> simp [hl2]
theorem join_S {F:Nat} {m:ba} {r:Int → Int} {x y:Int} (h:lE m r) (hF:m.length + 1 < F):af (bI F x y m) fun z=>z.1 = decide (r x ≠ r y) ∧ lE z.2 (jn r x y) ∧ (∀ u,u ∈ ao z.2 ↔ u = x ∨ u = y ∨ u ∈ ao m) ∧ z.2.length ≤ m.length + 2:=by
 unfold bI
 refine af.bind (oc h (by omega)) ?_
 rintro ⟨a,m1⟩ ⟨rfl,h1,k1,l1,_⟩
 simp only at h1 k1 l1 ⊢
 refine af.bind (oc h1 (by simp only; omega)) ?_
 rintro ⟨b,m2⟩ ⟨rfl,h2,k2,l2,_⟩
 simp only at h2 k2 l2 ⊢
 have kk:∀ u,u ∈ ao m2 ↔ u = x ∨ u = y ∨ u ∈ ao m:=fun u=>by
  rw [k2,k1]; constructor
  ·rintro (h | h | h)
   ·exact .inr (.inl h)
   ·exact .inl h
   ·exact .inr (.inr h)
  ·rintro (h | h | h)
   ·exact .inr (.inl h)
   ·exact .inl h
   ·exact .inr (.inr h)
 refine af.ite (fun hc=>?_) fun hc=>?_
 ·have hc:r x = r y:=of_decide_eq_true hc
  have ej:jn r x y = r:=funext fun z=>by unfold jn; rw [hc,Int.max_self,Int.min_self]; split <;> simp_all
  rw [ej]
  exact af.some ⟨by simp [hc],h2,kk,by simp only; omega⟩
 ·have hc:r x ≠ r y:=of_decide_eq_false hc
  have hx:cH m2 x = true:=gU.2 ((kk x).2 (.inl rfl))
  have hy:cH m2 y = true:=gU.2 ((kk y).2 (.inr (.inl rfl)))
  have hM:cH m2 (max (r x) (r y)) = true:=by
   have a:=(h2.low x hx).2.1
   have b:=(h2.low y hy).2.1
   by_cases hl:r x ≤ r y
   ·rw [Int.max_eq_right hl]; exact b
   ·rw [Int.max_eq_left (by omega)]; exact a
  have ek:ao (dp m2 (max (r x) (r y)) (min (r x) (r y))) = ao m2:=by
   unfold ao; rw [iK,hM]; rfl
  refine af.some ⟨by simp [hc],h2.join hx hy hc,fun u=>by simp only; rw [ek]; exact kk u,?_⟩
  have:(ao (dp m2 (max (r x) (r y)) (min (r x) (r y)))).length = (ao m2).length:=by rw [ek]
  simp only [ao,List.length_map] at this
  simp only; omega
def eC (ps:List (Int × Int)):Int → Int:=ps.foldl (fun r p=>jn r p.1 p.2) fun x=>x
theorem lY (ps:List (Int × Int)) (x y:Int):eC (ps ++ [(x,y)]) = jn (eC ps) x y:=by simp [eC]
theorem rb (ps:List (Int × Int)) (z:Int):eC ps (eC ps z) = eC ps z:=by
 have:∀ (ps:List (Int × Int)) (r:Int → Int),(∀ z,r (r z) = r z) → ∀ z,ps.foldl (fun r p=>jn r p.1 p.2) r (ps.foldl (fun r p=>jn r p.1 p.2) r z) = ps.foldl (fun r p=>jn r p.1 p.2) r z:=fun ps=>by
  induction ps with
  | nil=>exact fun r h=>h
  | cons p ps ih=>exact fun r h=>ih _ (jn_idem h p.1 p.2)
 exact this ps _ (fun _=>rfl) z
theorem sM:∀ (ps:List (Int × Int)) (a b:Int),eC ps a = eC ps b ↔ gk (fun u v=>(u,v) ∈ ps) a b:=fun ps=>by
 have key:∀ (qs:List (Int × Int)),(∀ a b,eC qs a = eC qs b ↔ gk (fun u v=>(u,v) ∈ qs) a b) → ∀ ps a b,eC (qs ++ ps) a = eC (qs ++ ps) b ↔ gk (fun u v=>(u,v) ∈ qs ++ ps) a b:=fun qs h ps=>by
  induction ps generalizing qs with
  | nil=>simpa using h
  | cons p ps ih=>
   have e:qs ++ p :: ps = (qs ++ [p]) ++ ps:=by simp
   rw [e]
   refine ih _ fun a b=>?_
   rw [show p = (p.1,p.2) from rfl,lY,jn_con (rb qs) h]
   refine gk.congr (fun u v h=>.of ?_) (fun u v h=>.of ?_) a b
   ·rcases h with h | ⟨rfl,rfl⟩ <;> simp_all
   ·rcases List.mem_append.1 h with h | h
    ·exact .inl h
    ·have:=List.mem_singleton.1 h; simp only [Prod.mk.injEq] at this; exact .inr this
 refine key [] (fun a b=>?_) ps
 refine ⟨fun h=>by show gk _ a b; have:a = b:=h; rw [this]; exact .rfl b,fun h=>?_⟩
 refine h.lift (E:=fun a b=>eC [] a = eC [] b) (fun _=>rfl) (fun _ _ h=>h.symm) (fun _ _ _ h1 h2=>h1.trans h2) fun a b h=>by cases h
structure St (m:ba) (ps:List (Int × Int)):Prop where
 up:lE m (eC ps)
 keys:∀ u,u ∈ ao m ↔ ∃ p ∈ ps,u = p.1 ∨ u = p.2
 len:m.length ≤ 2 * ps.length
theorem St.nil:St [] []:=⟨lE.nil,by simp [ao],by simp⟩
theorem St.join {F:Nat} {m:ba} {ps:List (Int × Int)} {x y:Int} (h:St m ps) (hF:2 * ps.length + 1 < F):af (bI F x y m) fun z=>z.1 = decide (eC ps x ≠ eC ps y) ∧ St z.2 (ps ++ [(x,y)]):=by
 refine (join_S h.up (x:=x) (y:=y) (by have:=h.len; omega)).mono ?_
 rintro ⟨b,m'⟩ ⟨h1,h2,h3,h4⟩
 refine ⟨h1,by rw [lY]; exact h2,fun u=>?_,by have:=h.len; simp at h4 ⊢; omega⟩
 rw [h3,h.keys]
 constructor
 ·rintro (h | h | ⟨p,hp,h⟩)
  ·exact ⟨(x,y),by simp,.inl h⟩
  ·exact ⟨(x,y),by simp,.inr h⟩
  ·exact ⟨p,by simp [hp],h⟩
 ·rintro ⟨p,hp,h⟩
  rcases List.mem_append.1 hp with hp | hp
  ·exact .inr (.inr ⟨p,hp,h⟩)
  ·rw [List.mem_singleton.1 hp] at h
   rcases h with h | h
   ·exact .inl h
   ·exact .inr (.inl h)
structure Row (r:Int → Int) (ts:List Int) (at':ba) (out:List (List Int)):Prop where
 len:out.length = (ts.filter fun x=>decide (r x = x)).length
 get:∀ j (h:j < (ts.filter fun x=>decide (r x = x)).length),out[j]? = some (ts.filter fun z=>decide (r z = (ts.filter fun x=>decide (r x = x))[j])) ∧ ca at' ((ts.filter fun x=>decide (r x = x))[j]) = (j:Int)
theorem Row.eq {r:Int → Int} {ts:List Int} {at':ba} {out:List (List Int)} (h:Row r ts at' out):out = canon r ts:=by
 refine List.ext_getElem? fun j=>?_
 unfold canon
 by_cases hj:j < (ts.filter fun x=>decide (r x = x)).length
 ·rw [(h.get j hj).1,List.getElem?_map,List.getElem?_eq_getElem hj]; rfl
 ·rw [List.getElem?_eq_none (by have:=h.len; omega),List.getElem?_eq_none (by rw [List.length_map]; omega)]
theorem Row.step {r:Int → Int} {ts:List Int} {at':ba} {out:List (List Int)} (h:Row r ts at' out) {x:Int} (hx:∀ t ∈ ts,t < x) (hle:∀ z,r z ≤ z) (hi:∀ z,r (r z) = r z) (hr:r x = x ∨ r x ∈ ts) :
  ∃ at2 o2,(at2,o2) = (if r x = x then (dp at' x (out.length:Int),out ++ [[]]) else (at',out)) ∧ ∃ k:Nat,ca at2 (r x) = (k:Int) ∧ k < o2.length ∧ ∃ row,o2[k]? = some row ∧ Row r (ts ++ [x]) at2 (o2.set k (row ++ [x])):=by
 rcases hr with hr | hr
 ·refine ⟨dp at' x (out.length:Int),out ++ [[]],by rw [if_pos hr],out.length,by rw [hr,b6,if_pos rfl],by simp,[],by simp,?_⟩
  have e:(ts ++ [x]).filter (fun y=>decide (r y = y)) = ts.filter (fun y=>decide (r y = y)) ++ [x]:=by simp [List.filter_append,hr]
  have hno:ts.filter (fun z=>decide (r z = x)) = []:=by
   rw [List.filter_eq_nil_iff]
   intro z hz
   have:=hx z hz; have:=hle z
   simp only [decide_eq_true_eq]; omega
  refine ⟨by rw [e]; simp [h.len],fun j hj=>?_⟩
  simp only [e,List.length_append,List.length_singleton] at hj
  by_cases hj2:j < (ts.filter fun y=>decide (r y = y)).length
  ·have hm:(ts.filter fun y=>decide (r y = y))[j] ∈ ts:=(List.mem_filter.1 (List.getElem_mem hj2)).1
   have hne:(ts.filter fun y=>decide (r y = y))[j] ≠ x:=Int.ne_of_lt (hx _ hm)
   simp only [e,List.getElem_append_left hj2]
   obtain ⟨h1,h2⟩:=h.get j hj2
   have hjl:j < out.length:=by have:=h.len; omega
   refine ⟨?_,by rw [b6,if_neg hne]; exact h2⟩
   rw [List.getElem?_set,if_neg (by omega),List.getElem?_append_left hjl,h1,List.filter_append]
   have:¬ r x = (ts.filter fun y=>decide (r y = y))[j]:=by rw [hr]; exact fun e=>hne e.symm
   simp [this]
  ·have hj3:j = (ts.filter fun y=>decide (r y = y)).length:=by omega
   subst hj3
   have eg:∀ hh,((ts ++ [x]).filter fun y=>decide (r y = y))[(ts.filter fun y=>decide (r y = y)).length]'hh = x:=fun hh=>by
    simp only [e,List.getElem_append_right (Nat.le_refl _),Nat.sub_self]; rfl
   rw [eg]
   refine ⟨?_,by rw [b6,if_pos rfl,h.len]⟩
   rw [List.getElem?_set,if_pos (by rw [h.len]),if_pos (by simp [h.len]),List.filter_append,hno]
   simp [hr]
 ·have hne:r x ≠ x:=fun e=>by have:=hx _ hr; omega
  have hm:r x ∈ ts.filter fun y=>decide (r y = y):=List.mem_filter.2 ⟨hr,by simpa using hi x⟩
  obtain ⟨k,hk,ek⟩:=List.getElem_of_mem hm
  obtain ⟨h1,h2⟩:=h.get k hk
  have hkl:k < out.length:=by have:=h.len; omega
  refine ⟨at',out,by rw [if_neg hne],k,by rw [← ek]; exact h2,hkl,_,h1,?_⟩
  have e:(ts ++ [x]).filter (fun y=>decide (r y = y)) = ts.filter (fun y=>decide (r y = y)):=by simp [List.filter_append,hne]
  refine ⟨by rw [e,List.length_set,h.len],fun j hj=>?_⟩
  simp only [e] at hj ⊢
  obtain ⟨g1,g2⟩:=h.get j hj
  refine ⟨?_,g2⟩
  rw [List.getElem?_set,List.filter_append]
  by_cases hjk:k = j
  ·subst hjk
   have:r x = (ts.filter fun y=>decide (r y = y))[k]:=ek.symm
   rw [if_pos rfl,if_pos hkl]
   simp [this]
  ·rw [if_neg hjk,g1]
   have hnd:(ts.filter fun y=>decide (r y = y))[j] ≠ r x:=fun e2=>by
    have:=(h.get j hj).2
    rw [e2,← ek,h2] at this
    omega
   have:¬ r x = (ts.filter fun y=>decide (r y = y))[j]:=fun e=>hnd e.symm
   simp [this]
theorem sets_S {F:Nat} (hF:F ≤ 100000000) {m:ba} {r:Int → Int} (h:lE m r) (hl:m.length < F):af (bt F m) fun z=>z.1 = canon r (sorted (ao m)) ∧ lE z.2 r ∧ ao z.2 = ao m:=by
 unfold bt
 have hkl:(ao m).length = m.length:=by simp [ao]
 refine af.bp (x:=ao m) (by unfold m3; rw [if_pos (by omega)]; rfl) (af.bp (x:=sorted (ao m)) (by unfold cW jz; rw [if_pos (by omega)]) ?_)
 have hsl:(sorted (ao m)).length = m.length:=by rw [(m5 _).length_eq,hkl]
 have hasd:nI (sorted (ao m)):=qG h.nd
 refine af.bind (P:=fun z:List (List Int) × ba=>z.1 = canon r (sorted (ao m)) ∧ lE z.2 r ∧ ao z.2 = ao m) ?_ fun z hz=>af.some hz
 refine af.ea4 (I:=fun pre up at' out=>lE up r ∧ ao up = ao m ∧ Row r pre at' out) (by omega) (by omega) ⟨h,rfl,by simp,by simp⟩ ?_ fun up at' out hI=>⟨hI.2.2.eq,hI.1,hI.2.1⟩
 rintro pre x post up at' out e hx ⟨h1,h2,h3⟩
 have hul:up.length = m.length:=by rw [← hkl,← h2]; simp [ao]
 have hxs:x ∈ sorted (ao m):=by rw [e]; simp
 have hxk:cH up x = true:=gU.2 (by rw [h2]; exact la.1 hxs)
 have hlt:∀ t ∈ pre,t < x:=fun t ht=>(List.pairwise_append.1 (e ▸ hasd)).2.2 t ht x (List.mem_cons_self ..)
 have hr:r x = x ∨ r x ∈ pre:=by
  by_cases hc:r x = x
  ·exact .inl hc
  ·have hm:r x ∈ sorted (ao m):=la.2 (by rw [← h2]; exact gU.1 (h1.low x hxk).2.1)
   rw [e] at hm
   have hlx:r x < x:=by have:=h.rle x; omega
   rcases List.mem_append.1 hm with hm | hm
   ·exact .inr hm
   ·rcases List.mem_cons.1 hm with hm | hm
    ·exact absurd hm hc
    ·have:=(List.pairwise_cons.1 (List.pairwise_append.1 (e ▸ hasd)).2.1).1 _ hm
     omega
 have hol:out.length ≤ pre.length:=by rw [h3.len]; exact List.length_filter_le _ _
 have hpl:pre.length < m.length:=by rw [← hsl,e]; simp
 refine af.bind (P:=fun z:ba × ba × List (List Int)=>lE z.1 r ∧ ao z.1 = ao m ∧ Row r (pre ++ [x]) z.2.1 z.2.2) ?_ fun z hz=>af.some (.inl ⟨_,_,_,rfl,hz⟩)
 refine af.bp hx (af.bind (oc h1 (by omega)) ?_)
 rintro ⟨a,up2⟩ ⟨rfl,g1,_,_,g2⟩
 simp only at g1 g2 ⊢
 obtain ⟨at2,o2,e2,k,hk,hk2,row,hrow,hR⟩:=h3.step hlt h.rle h.idem hr
 have hbl:out.length + 1 ≤ 1000000000:=by omega
 refine af.bind (P:=(· = (at2,o2))) ?_ ?_
 ·rw [e2]
  refine af.ite (fun hc=>?_) fun hc=>?_
  ·have hc:=of_decide_eq_true hc
   exact af.app (by simp only [List.length_singleton]; omega) (af.some (by rw [if_pos hc]))
  ·have hc:=of_decide_eq_false hc
   exact af.some (by rw [if_neg hc])
 ·rintro z rfl
  simp only
  have hix:av o2 (ca at2 (r x)) = some row:=by
   rw [hk,dt (by omega) (by omega),dF _ _ hk2]
   rw [List.getElem?_eq_getElem hk2] at hrow; exact hrow
  have hrl:row.length ≤ pre.length:=by
   have:o2.set k (row ++ [x]) = canon r (pre ++ [x]):=hR.eq
   have h4:row ++ [x] ∈ canon r (pre ++ [x]):=by
    rw [← this]; exact List.mem_iff_getElem?.2 ⟨k,by rw [List.getElem?_set,if_pos rfl,if_pos hk2]⟩
   unfold canon at h4
   obtain ⟨q,_,hq⟩:=List.mem_map.1 h4
   have h5:=congrArg List.length hq
   have h6:=List.length_filter_le (fun z=>decide (r z = q)) (pre ++ [x])
   simp only [List.length_append,List.length_singleton] at h5 h6
   omega
  refine af.bp hix (af.app (by simp only [List.length_singleton]; omega) (af.bp hix (af.some ⟨g1,by rw [g2 hxk]; exact h2,?_⟩)))
  simp only
  rw [hk,Int.toNat_natCast]
  exact hR
theorem q9 {F:Nat} (hF:F ≤ 100000000) {m:ba} {ps:List (Int × Int)} (h:St m ps) (hl:2 * ps.length < F):af (bt F m) fun z=>Part (fun a b=>(a,b) ∈ ps) (fun a=>∃ p ∈ ps,a = p.1 ∨ a = p.2) z.1 ∧ St z.2 ps:=by
 refine (sets_S hF h.up (by have:=h.len; omega)).mono ?_
 rintro ⟨o,m'⟩ ⟨h1,h2,h3⟩
 simp only at h1 h2 h3 ⊢
 have hk:∀ u,u ∈ sorted (ao m) ↔ ∃ p ∈ ps,u = p.1 ∨ u = p.2:=fun u=>by rw [la,h.keys]
 refine ⟨?_,h2,fun u=>by rw [h3,h.keys],?_⟩
 ·rw [h1]
  have hp:=qq (r:=eC ps) (P:=fun a b=>(a,b) ∈ ps) (qG h.up.nd) h.up.rle h.up.idem (fun z hz=>?_) (sM ps) fun a b hab=>?_
  ·exact hp.congr (fun _ _=>.rfl) hk
  ·exact la.2 (gU.1 (h.up.low z (gU.2 (la.1 hz))).2.1)
  ·exact ⟨fun _=>(hk b).2 ⟨(a,b),hab,.inr rfl⟩,fun _=>(hk a).2 ⟨(a,b),hab,.inl rfl⟩⟩
 ·have:(ao m').length = (ao m).length:=by rw [h3]
  simp only [ao,List.length_map] at this
  have:=h.len
  omega
theorem af.pass {τ:Type} {A:Int → Option (Int ⊕ τ)} {g:τ} {N st:Int} {F:Nat} {Q:τ → Prop} (h0:0 ≤ st) (hN:N ≤ 1000000000) (hF:(N - st).toNat < F) (h:∀ k,st ≤ k → k < N → A k = Option.some (.inl (IntKind.i64.wrap (k + 1)))) (hq:Q g):af (iter F (fun i=>if decide (i < N) = true then A i else Option.some (.inr g)) st) Q:=by
 refine af.rounds (n:=(N - st).toNat) (I:=fun k s=>s = st + (k:Int)) hF (by simp) ?_
 rintro k s hk rfl
 refine af.ite (fun hc=>?_) fun hc=>?_
 ·have hc:=of_decide_eq_true hc
  rw [h _ (by omega) hc]
  refine af.some (.inl ⟨_,rfl,?_,by omega⟩)
  rw [bW (by omega) (by omega)]; push_cast; omega
 ·exact af.some (.inr ⟨_,rfl,hq⟩)
theorem gu {α:Type} [Inhabited α] {l:List α} {i j:Int} {x:α} (h0:0 ≤ i) (h1:i < l.length) (h2:0 ≤ j):idx (l.set i.toNat x) j = if j = i then x else idx l j:=by
 unfold idx
 rw [List.getD_eq_getElem?_getD,List.getD_eq_getElem?_getD,List.getElem?_set]
 by_cases e:j = i
 ·subst e; rw [if_pos rfl,if_pos (by omega),if_pos rfl]; rfl
 ·rw [if_neg (by omega),if_neg e]
theorem oF {α:Type} [Inhabited α] {n:Nat} {x:α} {j:Int} (h0:0 ≤ j) (h1:j < n):idx (List.replicate n x) j = x:=by
 obtain ⟨m,rfl⟩:∃ m:Nat,j = m:=⟨j.toNat,by omega⟩
 rw [dF _ _ (by simp; omega)]; simp
def mg (L:List (List Int)):List (List Int):=(cF 2000 L).getD []
def Sz (L:List (List Int)):Prop:=L.length < 990 ∧ L.flatten.length < 990
theorem qN {L:List (List Int)} (h:Sz L):cF 2000 L = some (mg L) ∧ Part (pr L) (dm L) (mg L):=by
 obtain ⟨h1,h2⟩:=h
 obtain ⟨o,e,p⟩:=merge35 (F:=2000) (by omega) (L:=L) (by omega) (by omega)
 unfold mg
 rw [e]
 exact ⟨rfl,p⟩
theorem mg_uniq {L:List (List Int)} {o:List (List Int)} (h:Sz L) (hp:Part (pr L) (dm L) o):mg L = o:=(qN h).2.uniq hp
def Lnk (n:Nat) (l:A2):Prop:=0 ≤ l.a0 ∧ l.a0 < n ∧ 0 ≤ l.a1 ∧ l.a1 < n ∧ l.a0 ≠ l.a1
instance (n:Nat) (l:A2):Decidable (Lnk n l):=inferInstanceAs (Decidable (_ ∧ _))
def Gr (fx:List Bool) (ls:List A2):Prop:=fx.length ≤ 401 ∧ ∀ l ∈ ls,Lnk fx.length l
theorem ru {F:Nat} {fx:List Bool} {l:A2}:c6 F l fx = some (!decide (Lnk fx.length l)):=by
 unfold c6 c7
 refine af.eq (af.bp rfl ?_)
 by_cases h1:((decide (l.a0 < 0)) || (decide ((fx.length:Int) ≤ l.a0))) = true
 ·refine af.g0 (by rw [h1]; rfl) (af.some ?_)
  rw [h1]
  simp only [Bool.true_or]
  simp only [Bool.or_eq_true,decide_eq_true_eq] at h1
  have:¬ Lnk fx.length l:=fun h=>by obtain ⟨a,b,_⟩:=h; omega
  simp [this]
 ·have h1:((decide (l.a0 < 0)) || (decide ((fx.length:Int) ≤ l.a0))) = false:=by simpa using h1
  refine af.g1 (by rw [h1]; rfl) (af.bp rfl (af.some ?_))
  rw [h1]
  simp only [Bool.false_or]
  simp only [Bool.or_eq_false_iff,decide_eq_false_iff_not] at h1
  by_cases hl:Lnk fx.length l
  ·obtain ⟨a1,a2,a3,a4,a5⟩:=id hl
   simp [hl,a5]; omega
  ·have h2:l.a1 < 0 ∨ (fx.length:Int) ≤ l.a1 ∨ l.a0 = l.a1:=by
    by_cases e:l.a1 < 0
    ·exact .inl e
    ·by_cases e2:(fx.length:Int) ≤ l.a1
     ·exact .inr (.inl e2)
     ·by_cases e3:l.a0 = l.a1
      ·exact .inr (.inr e3)
      ·exact absurd (show Lnk fx.length l from ⟨by omega,by omega,by omega,by omega,e3⟩) hl
   simp only [hl,decide_false,Bool.not_false]
   simp only [Bool.or_eq_true,decide_eq_true_eq]
   rcases h2 with h | h | h
   ·exact .inl (.inl h)
   ·exact .inl (.inr h)
   ·exact .inr h
theorem px {F:Nat} {fx:List Bool} {ls:List A2} (hF:ls.length < F) (hL:ls.length ≤ 9223372036854775807):af (bG F fx ls) fun r=>(r = true ↔ Gr fx ls):=by
 unfold bG
 by_cases hc:(decide ((fx.length:Int) ≤ 401)) = true
 ·refine af.g1 hc ?_
  unfold c9 dI
  have hc':fx.length ≤ 401:=by have:=of_decide_eq_true hc; omega
  refine af.bind (P:=fun r=>(r = false ↔ Gr fx ls)) ?_ fun r hr=>af.some (by rw [hc]; cases r <;> simp_all)
  refine af.bind (P:=fun r:Int=>(r < 0 ↔ Gr fx ls)) ?_ fun r hr=>af.some (by rw [← hr]; simp)
  refine af.bind (P:=fun o=>(o = .inl () ∧ Gr fx ls) ∨ ∃ i:Int,o = .inr i ∧ 0 ≤ i ∧ ¬ Gr fx ls) ?_ ?_
  ·refine af.ea1 (fun pre=>∀ l ∈ pre,Lnk fx.length l) hF hL (by simp) (fun pre x post e hx hI=>?_) fun h=>.inl ⟨rfl,hc',h⟩
   refine af.bp hx (af.bp ru (af.ite (fun h=>af.some (.inr ⟨_,rfl,.inr ⟨_,rfl,by omega,fun hg=>?_⟩⟩)) (fun h=>af.some (.inl ⟨rfl,fun l hl=>?_⟩))))
   ·have:=hg.2 x (by rw [e]; simp); simp [this] at h
   ·rcases List.mem_append.1 hl with hl | hl
    ·exact hI l hl
    ·rw [List.mem_singleton.1 hl]; simpa using h
  ·rintro o (⟨rfl,h⟩ | ⟨i,rfl,h1,h2⟩)
   ·exact af.some ⟨fun _=>h,fun _=>by omega⟩
   ·exact af.some ⟨fun _=>by omega,fun h=>absurd h h2⟩
 ·have hc:(decide ((fx.length:Int) ≤ 401)) = false:=by simpa using hc
  refine af.g0 hc (af.some ?_)
  rw [hc]
  refine ⟨fun h=>by simp at h,fun h=>?_⟩
  have:=of_decide_eq_false hc
  have:=h.1
  omega
def rF (fx:List Bool) (l:A2):Prop:=idx fx l.a0 = false ∧ idx fx l.a1 = false
instance (fx:List Bool) (l:A2):Decidable (rF fx l):=inferInstanceAs (Decidable (_ ∧ _))
def qZ (fx:List Bool) (ls:List A2):List Int:=((List.range ls.length).filter fun i:Nat=>decide (rF fx (idx ls (i:Int)))).map fun i:Nat=>(i:Int)
theorem iu (p:Nat → Bool) (n:Nat):(List.range (n + 1)).filter p = (List.range n).filter p ++ if p n then [n] else []:=by
 rw [List.range_succ,List.filter_append]; congr 1; simp [List.filter]; split <;> simp_all
theorem mvs_ok {F:Nat} {fx:List Bool} {ls:List A2} (hF:ls.length < F) (hL:ls.length ≤ 1000000) (hg:Gr fx ls):dg F fx ls = some (qZ fx ls):=by
 refine af.eq ?_
 unfold dg
 refine af.bind (P:=(· = qZ fx ls)) ?_ fun o ho=>by rw [ho]; exact af.some rfl
 refine af.rC (fun pre s=>s = ((List.range pre.length).filter fun i:Nat=>decide (rF fx (idx ls (i:Int)))).map fun i:Nat=>(i:Int)) hF (by omega) rfl (fun pre x post s e hx hI=>?_) fun s hs=>hs
 have hxi:idx ls (pre.length:Int) = x:=qA hx
 obtain ⟨a1,a2,a3,a4,a5⟩:=hg.2 x (by rw [e]; simp)
 subst hI
 have hlen:(((List.range pre.length).filter fun i:Nat=>decide (rF fx (idx ls (i:Int)))).map fun i:Nat=>(i:Int)).length ≤ pre.length:=by
  rw [List.length_map]; refine Nat.le_trans (List.length_filter_le _ _) ?_; simp
 have hpl:pre.length ≤ ls.length:=by rw [e]; simp
 refine af.bind (P:=(· = ((List.range (pre ++ [x]).length).filter fun i:Nat=>decide (rF fx (idx ls (i:Int)))).map fun i:Nat=>(i:Int))) ?_ fun o ho=>by rw [ho]; exact af.some (.inl ⟨_,rfl,rfl⟩)
 rw [List.length_append,List.length_singleton,iu,hxi]
 refine af.bp hx (af.idx a1 (by omega) ?_)
 by_cases h0:idx fx x.a0 = true
 ·refine af.g0 (by rw [h0]; rfl) (af.iff (by rw [h0]; rfl) (af.some ?_))
  rw [if_neg (by simp [rF,h0])]; simp
 ·have h0:idx fx x.a0 = false:=by simpa using h0
  refine af.g1 (by rw [h0]; rfl) (af.idx a3 (by omega) ?_)
  by_cases h1:idx fx x.a1 = true
  ·refine af.iff (by rw [h0,h1]; rfl) (af.some ?_)
   rw [if_neg (by simp [rF,h1])]; simp
  ·have h1:idx fx x.a1 = false:=by simpa using h1
   refine af.qw (by rw [h0,h1]; rfl) (af.app (by simp only [List.length_singleton]; omega) (af.some ?_))
   rw [if_pos (by simp [rF,h0,h1])]; simp
theorem jn_self (r:Int → Int) (x:Int):jn r x x = r:=by
 funext z
 unfold jn
 rw [show max (r x) (r x) = r x by omega,show min (r x) (r x) = r x by omega]
 split
 ·next h=>exact h.symm
 ·rfl
theorem St.root {F:Nat} {m:ba} {ps:List (Int × Int)} {x:Int} (h:St m ps) (hF:2 * ps.length < F):af (bu F x m) fun z=>St z.2 (ps ++ [(x,x)]):=by
 refine (oc h.up (x:=x) (by have:=h.len; omega)).mono ?_
 rintro ⟨b,m'⟩ ⟨h1,h2,h3,h4,_⟩
 refine ⟨by rw [lY,jn_self]; exact h2,fun u=>?_,by have:=h.len; simp at h4 ⊢; omega⟩
 simp only at h3 ⊢
 rw [h3,h.keys]
 constructor
 ·rintro (h | ⟨p,hp,h⟩)
  ·exact ⟨(x,x),by simp,.inl h⟩
  ·exact ⟨p,by simp [hp],h⟩
 ·rintro ⟨p,hp,h⟩
  rcases List.mem_append.1 hp with hp | hp
  ·exact .inr ⟨p,hp,h⟩
  ·rw [List.mem_singleton.1 hp] at h
   exact .inl (by rcases h with h | h <;> exact h)
def mn (fx:List Bool) (n:Nat):List (Int × Int):=((List.range n).filter fun i:Nat=>decide (idx fx (i:Int) = false)).map fun i:Nat=>((i:Int),(i:Int))
theorem mS (fx:List Bool) (n:Nat):(mn fx n).length ≤ n:=by
 unfold mn; rw [List.length_map]; refine Nat.le_trans (List.length_filter_le _ _) (by simp)
theorem s6 (fx:List Bool) (n:Nat):mn fx (n + 1) = mn fx n ++ if idx fx (n:Int) = false then [((n:Int),(n:Int))] else []:=by
 unfold mn; rw [iu,List.map_append]; congr 1
 by_cases h:idx fx (n:Int) = false <;> simp [h]
def kY (ls:List A2) (i:Int):Int × Int:=((idx ls i).a0,(idx ls i).a1)
def qx (ls:List A2) (base:List (Int × Int)) (is:List Int):List (Int × Int) × List Int :=
 is.foldl (fun acc i=>(acc.1 ++ [kY ls i],if eC acc.1 (kY ls i).1 = eC acc.1 (kY ls i).2 then acc.2 else acc.2 ++ [i])) (base,[])
theorem s4 (ls:List A2) (base:List (Int × Int)) (is:List Int) (i:Int):qx ls base (is ++ [i]) = ((qx ls base is).1 ++ [kY ls i],if eC (qx ls base is).1 (kY ls i).1 = eC (qx ls base is).1 (kY ls i).2 then (qx ls base is).2 else (qx ls base is).2 ++ [i]):=by
 unfold qx; rw [List.foldl_append]; rfl
theorem oG (ls:List A2):∀ (is:List Int) (acc:List (Int × Int) × List Int),(is.foldl (fun acc i=>(acc.1 ++ [kY ls i],if eC acc.1 (kY ls i).1 = eC acc.1 (kY ls i).2 then acc.2 else acc.2 ++ [i])) acc).1 = acc.1 ++ is.map (kY ls) ∧
  (is.foldl (fun acc i=>(acc.1 ++ [kY ls i],if eC acc.1 (kY ls i).1 = eC acc.1 (kY ls i).2 then acc.2 else acc.2 ++ [i])) acc).2.length ≤ acc.2.length + is.length
 | [],acc=>by simp
 | i :: is,acc=>by
  obtain ⟨h1,h2⟩:=oG ls is (acc.1 ++ [kY ls i],if eC acc.1 (kY ls i).1 = eC acc.1 (kY ls i).2 then acc.2 else acc.2 ++ [i])
  rw [List.foldl_cons]
  refine ⟨by rw [h1]; simp,Nat.le_trans h2 ?_⟩
  simp only [List.length_cons]
  split <;> simp <;> omega
theorem frs_fst (ls:List A2) (base:List (Int × Int)) (is:List Int):(qx ls base is).1 = base ++ is.map (kY ls):=(oG ls is (base,[])).1
theorem frs_len (ls:List A2) (base:List (Int × Int)) (is:List Int):(qx ls base is).2.length ≤ is.length:=by
 have h:=(oG ls is (base,[])).2
 rw [List.length_nil,Nat.zero_add] at h
 exact h
theorem oz (fx:List Bool) (ls:List A2):(qZ fx ls).length ≤ ls.length:=by
 unfold qZ; rw [List.length_map]; refine Nat.le_trans (List.length_filter_le _ _) (by simp)
theorem mQ {fx:List Bool} {ls:List A2} {i:Int}:i ∈ qZ fx ls ↔ 0 ≤ i ∧ i < ls.length ∧ rF fx (idx ls i):=by
 simp only [qZ,List.mem_map,List.mem_filter,List.mem_range,decide_eq_true_eq]
 constructor
 ·rintro ⟨k,⟨h1,h2⟩,rfl⟩; exact ⟨by omega,by omega,h2⟩
 ·rintro ⟨h1,h2,h3⟩; exact ⟨i.toNat,⟨by omega,by rw [show ((i.toNat:Nat):Int) = i by omega]; exact h3⟩,by omega⟩
def aps (fx:List Bool) (ls:List A2):List (Int × Int):=mn fx fx.length ++ (qZ fx ls).map (kY ls)
theorem rm {F:Nat} {fx:List Bool} {ls:List A2} (hF:2 * (fx.length + ls.length) + 1 < F) (hL:ls.length ≤ 1000000) (hg:Gr fx ls):af (cP F fx ls) fun z=>St z.1 (aps fx ls) ∧ z.2 = (qx ls (mn fx fx.length) (qZ fx ls)).2:=by
 have hx:=hg.1
 unfold cP
 refine af.bind (P:=fun up=>St up (mn fx fx.length)) ?_ fun up hup=>?_
 ·refine af.rC (fun pre up=>St up (mn fx pre.length)) (by omega) (by omega) (by simpa [mn] using St.nil) (fun pre x post up e hxi hI=>?_) fun up h=>h
  have hxe:idx fx (pre.length:Int) = x:=qA hxi
  have hpl:pre.length < fx.length:=by rw [e]; simp
  refine af.bind (P:=fun up'=>St up' (mn fx (pre ++ [x]).length)) ?_ fun up' h=>af.some (.inl ⟨up',rfl,h⟩)
  rw [List.length_append,List.length_singleton,s6,hxe]
  refine af.bp hxi (af.ite (fun hc=>?_) (fun hc=>?_))
  ·have hc:x = false:=by simpa using hc
   refine af.bind (hI.root (x:=(pre.length:Int)) (by have:=mS fx pre.length; omega)) ?_
   rintro ⟨a,m'⟩ h
   exact af.some (by rw [if_pos hc]; exact h)
  ·have hc:x = true:=by simpa using hc
   exact af.some (by rw [if_neg (by simp [hc]),List.append_nil]; exact hI)
 ·refine af.bind (P:=fun z=>St z.1 (aps fx ls) ∧ z.2 = (qx ls (mn fx fx.length) (qZ fx ls)).2) ?_ (by rintro ⟨a,b⟩ h; exact af.some h)
  refine af.bp (mvs_ok (by omega) hL hg) ?_
  have hml:=oz fx ls
  have hal:=mS fx fx.length
  refine af.ea3 (fun pre up out=>St up (mn fx fx.length ++ pre.map (kY ls)) ∧ out = (qx ls (mn fx fx.length) pre).2) (by omega) (by omega) ⟨by simpa using hup,by simp [qx]⟩ (fun pre x post up out e hxi hI=>?_) fun up out h=>h
  obtain ⟨hI,ho⟩:=hI
  have hxm:x ∈ qZ fx ls:=by rw [e]; simp
  obtain ⟨i1,i2,i3⟩:=mQ.1 hxm
  have hpl:pre.length < (qZ fx ls).length:=by rw [e]; simp
  refine af.bind (P:=fun z=>St z.1 (mn fx fx.length ++ (pre ++ [x]).map (kY ls)) ∧ z.2 = (qx ls (mn fx fx.length) (pre ++ [x])).2) ?_ (by rintro ⟨a,b⟩ h; exact af.some (.inl ⟨a,b,rfl,h⟩))
  refine af.bp hxi (af.idx i1 (by omega) (af.idx i1 (by omega) ?_))
  refine af.bind (hI.join (x:=(idx ls x).a0) (y:=(idx ls x).a1) (by simp; omega)) ?_
  rintro ⟨b,m'⟩ ⟨h1,h2⟩
  simp only at h1 h2
  have hps:mn fx fx.length ++ (pre ++ [x]).map (kY ls) = mn fx fx.length ++ pre.map (kY ls) ++ [((idx ls x).a0,(idx ls x).a1)]:=by simp [kY]
  have hfl:=frs_len ls (mn fx fx.length) pre
  rw [hps,s4,frs_fst]
  subst h1
  refine af.ite (fun hc=>?_) (fun hc=>?_)
  ·have hc:=of_decide_eq_true hc
   refine af.app (by rw [ho]; simp only [List.length_singleton]; omega) (af.some ⟨h2,?_⟩)
   rw [ho]; exact (if_neg hc).symm
  ·have hc:=of_decide_eq_false hc
   have hc:eC (mn fx fx.length ++ pre.map (kY ls)) (idx ls x).a0 = eC (mn fx fx.length ++ pre.map (kY ls)) (idx ls x).a1:=by
    by_cases e:eC (mn fx fx.length ++ pre.map (kY ls)) (idx ls x).a0 = eC (mn fx fx.length ++ pre.map (kY ls)) (idx ls x).a1
    ·exact e
    ·exact absurd e hc
   refine af.some ⟨h2,?_⟩
   rw [ho]; exact (if_pos hc).symm
def Lk (fx:List Bool) (ls:List A2) (a b:Int):Prop:=∃ l ∈ ls,rF fx l ∧ l.a0 = a ∧ l.a1 = b
def Mv (fx:List Bool) (a:Int):Prop:=0 ≤ a ∧ a < fx.length ∧ idx fx a = false
theorem ld {fx:List Bool} {p:Int × Int}:p ∈ mn fx fx.length ↔ Mv fx p.1 ∧ p.2 = p.1:=by
 obtain ⟨a,b⟩:=p
 simp only [mn,List.mem_map,List.mem_filter,List.mem_range,decide_eq_true_eq,Prod.mk.injEq,Mv]
 constructor
 ·rintro ⟨k,⟨h1,h2⟩,rfl,rfl⟩; exact ⟨⟨by omega,by omega,h2⟩,rfl⟩
 ·rintro ⟨⟨h1,h2,h3⟩,rfl⟩; exact ⟨b.toNat,⟨by omega,by rw [show ((b.toNat:Nat):Int) = b by omega]; exact h3⟩,by omega,by omega⟩
theorem oD {fx:List Bool} {ls:List A2} {a b:Int}:(a,b) ∈ (qZ fx ls).map (kY ls) ↔ Lk fx ls a b:=by
 simp only [List.mem_map,mQ,kY,Prod.mk.injEq,Lk]
 constructor
 ·rintro ⟨i,⟨h1,h2,h3⟩,rfl,rfl⟩; exact ⟨idx ls i,mR h1 h2,h3,rfl,rfl⟩
 ·rintro ⟨l,hl,h3,rfl,rfl⟩
  obtain ⟨k,hk,e⟩:=List.getElem_of_mem hl
  have:idx ls (k:Int) = l:=by rw [dF _ _ hk]; exact e
  exact ⟨(k:Int),⟨by omega,by omega,by rw [this]; exact h3⟩,by rw [this],by rw [this]⟩
theorem find_ok {F:Nat} {fx:List Bool} {ls:List A2} (hF:2 * (fx.length + ls.length) + 1 < F) (hF2:F ≤ 100000000) (hL:ls.length ≤ 1000000):af (cI F fx ls) fun z=>(Gr fx ls ∧ z.2 = 0 ∧ Part (Lk fx ls) (Mv fx) z.1) ∨ (¬ Gr fx ls ∧ z = ([],1)):=by
 unfold cI
 refine af.bind (px (by omega) (by omega)) fun r hr=>?_
 refine af.ite (fun hc=>af.some (.inr ⟨fun h=>by simp [hr.2 h] at hc,rfl⟩)) (fun hc=>?_)
 have hg:Gr fx ls:=hr.1 (by simpa using hc)
 refine af.bind (rm hF hL hg) ?_
 rintro ⟨m,out⟩ ⟨h1,h2⟩
 have hlen:(aps fx ls).length ≤ fx.length + ls.length:=by
  unfold aps; rw [List.length_append,List.length_map]; have:=mS fx fx.length; have:=oz fx ls; omega
 refine af.bind (q9 hF2 h1 (by omega)) ?_
 rintro ⟨o,m'⟩ ⟨hp,_⟩
 refine af.some (.inl ⟨hg,rfl,hp.congr (gk.congr (fun a b hab=>?_) (fun a b hab=>?_)) fun a=>?_⟩)
 ·rcases List.mem_append.1 hab with hab | hab
  ·have:=(ld.1 hab).2
   simp only at this; subst this; exact .rfl _
  ·exact .of (oD.1 hab)
 ·exact .of (List.mem_append.2 (.inr (oD.2 hab)))
 ·constructor
  ·rintro ⟨p,hp,h⟩
   rcases List.mem_append.1 hp with hp | hp
   ·obtain ⟨h3,h4⟩:=ld.1 hp
    rcases h with h | h
    ·rw [h]; exact h3
    ·rw [h,h4]; exact h3
   ·obtain ⟨l,hl,⟨m1,m2⟩,e1,e2⟩:=oD.1 (show (p.1,p.2) ∈ _ from hp)
    obtain ⟨a1,a2,a3,a4,_⟩:=hg.2 l hl
    rcases h with h | h
    ·rw [h,← e1]; exact ⟨a1,a2,m1⟩
    ·rw [h,← e2]; exact ⟨a3,a4,m2⟩
  ·intro h
   exact ⟨(a,a),List.mem_append.2 (.inl (ld.2 ⟨h,rfl⟩)),.inl rfl⟩
def oT (fx:List Bool) (ls:List A2):List (List Int):=(mn fx fx.length).map (fun p=>[p.1]) ++ (qZ fx ls).map fun i=>[(idx ls i).a0,(idx ls i).a1]
theorem lb {fx:List Bool} {ls:List A2} {c:List Int}:c ∈ oT fx ls ↔ (∃ a,Mv fx a ∧ c = [a]) ∨ ∃ l ∈ ls,rF fx l ∧ c = [l.a0,l.a1]:=by
 unfold oT
 rw [List.mem_append,List.mem_map,List.mem_map]
 constructor
 ·rintro (⟨p,hp,rfl⟩ | ⟨i,hi,rfl⟩)
  ·exact .inl ⟨p.1,(ld.1 hp).1,rfl⟩
  ·obtain ⟨h1,h2,h3⟩:=mQ.1 hi
   exact .inr ⟨idx ls i,mR h1 h2,h3,rfl⟩
 ·rintro (⟨a,ha,rfl⟩ | ⟨l,hl,hm,rfl⟩)
  ·exact .inl ⟨(a,a),ld.2 ⟨ha,rfl⟩,rfl⟩
  ·obtain ⟨k,hk,e⟩:=List.getElem_of_mem hl
   have e':idx ls (k:Int) = l:=by rw [dF _ _ hk]; exact e
   exact .inr ⟨(k:Int),mQ.2 ⟨by omega,by omega,by rw [e']; exact hm⟩,by rw [e']⟩
theorem pt {fx:List Bool} {ls:List A2} (hg:Gr fx ls) {o:List (List Int)}:Part (pr (oT fx ls)) (dm (oT fx ls)) o ↔ Part (Lk fx ls) (Mv fx) o:=by
 have h1:∀ a b,pr (oT fx ls) a b → gk (Lk fx ls) a b:=by
  rintro a b ⟨c,hc,ha,hb⟩
  rcases lb.1 hc with ⟨x,_,rfl⟩ | ⟨l,hl,hm,rfl⟩
  ·rw [List.mem_singleton.1 ha,List.mem_singleton.1 hb]; exact .rfl _
  ·have hlk:gk (Lk fx ls) l.a0 l.a1:=.of ⟨l,hl,hm,rfl,rfl⟩
   simp only [List.mem_cons,List.not_mem_nil,or_false] at ha hb
   rcases ha with rfl | rfl <;> rcases hb with rfl | rfl
   ·exact .rfl _
   ·exact hlk
   ·exact hlk.symm
   ·exact .rfl _
 have h2:∀ a b,Lk fx ls a b → gk (pr (oT fx ls)) a b:=by
  rintro a b ⟨l,hl,hm,rfl,rfl⟩
  exact .of ⟨[l.a0,l.a1],lb.2 (.inr ⟨l,hl,hm,rfl⟩),by simp,by simp⟩
 have h3:∀ a,dm (oT fx ls) a ↔ Mv fx a:=fun a=>by
  constructor
  ·rintro ⟨c,hc,ha⟩
   rcases lb.1 hc with ⟨x,hx,rfl⟩ | ⟨l,hl,⟨m1,m2⟩,rfl⟩
   ·rw [List.mem_singleton.1 ha]; exact hx
   ·obtain ⟨a1,a2,a3,a4,_⟩:=hg.2 l hl
    simp only [List.mem_cons,List.not_mem_nil,or_false] at ha
    rcases ha with rfl | rfl
    ·exact ⟨a1,a2,m1⟩
    ·exact ⟨a3,a4,m2⟩
  ·exact fun h=>⟨[a],lb.2 (.inl ⟨a,h,rfl⟩),by simp⟩
 exact ⟨fun h=>h.congr (gk.congr h1 h2) h3,fun h=>h.congr (gk.congr h2 h1) fun a=>(h3 a).symm⟩
theorem valid35 {F:Nat} {fx:List Bool} {ls:List A2} (hF:ls.length < F) (hL:ls.length ≤ 9223372036854775807):af (cE F fx ls) fun r=>(r = true ↔ Gr fx ls):=by
 unfold cE
 refine af.ite (fun hc=>af.some ?_) (fun hc=>?_)
 ·have:=of_decide_eq_true hc
  exact ⟨fun h=>(by cases h),fun h=>absurd h.1 (by omega)⟩
 ·have hc:=of_decide_eq_false hc
  refine af.bind (P:=fun o=>(o = .inl () ∧ Gr fx ls) ∨ (o = .inr false ∧ ¬ Gr fx ls)) ?_ ?_
  ·refine af.ea1 (fun pre=>∀ l ∈ pre,Lnk fx.length l) hF hL (by simp) (fun pre x post e hx hI=>?_) fun h=>.inl ⟨rfl,by omega,h⟩
   refine af.bp hx (af.bp hx (af.ln (af.ln (af.ite (fun h=>af.some (.inr ⟨_,rfl,.inr ⟨rfl,fun hg=>?_⟩⟩)) (fun h=>af.some (.inl ⟨rfl,fun l hl=>?_⟩))))))
   ·obtain ⟨a1,a2,a3,a4,a5⟩:=hg.2 x (by rw [e]; simp)
    simp only [Bool.or_eq_true,decide_eq_true_eq] at h
    omega
   ·rcases List.mem_append.1 hl with hl | hl
    ·exact hI l hl
    ·rw [List.mem_singleton.1 hl]
     simp only [Bool.or_eq_false_iff,decide_eq_false_iff_not] at h
     exact ⟨by omega,by omega,by omega,by omega,h.2⟩
  ·rintro o (⟨rfl,h⟩ | ⟨rfl,h⟩)
   ·exact af.some ⟨fun _=>h,fun _=>rfl⟩
   ·exact af.some ⟨fun h'=>(by cases h'),fun h'=>absurd h' h⟩
theorem ils_len (fx:List Bool) (ls:List A2):(oT fx ls).length ≤ fx.length + ls.length:=by
 unfold oT
 rw [List.length_append,List.length_map,List.length_map]
 have:=mS fx fx.length; have:=oz fx ls; omega
theorem pA:∀ {L:List (List Int)},(∀ c ∈ L,c.length ≤ 2) → L.flatten.length ≤ 2 * L.length
 | [],_=>by simp
 | c :: L,h=>by
  have:=pA (L:=L) fun d hd=>h d (List.mem_cons_of_mem _ hd)
  have:=h c (List.mem_cons_self ..)
  simp only [List.flatten_cons,List.length_append,List.length_cons]; omega
theorem r8 {fx:List Bool} {ls:List A2} (h:fx.length + ls.length < 490):Sz (oT fx ls):=by
 have h1:=ils_len fx ls
 have h2:=pA (L:=oT fx ls) fun c hc=>by
  rcases lb.1 hc with ⟨a,_,rfl⟩ | ⟨l,_,_,rfl⟩ <;> simp
 exact ⟨by omega,by omega⟩
theorem jJ {fx:List Bool} {ls:List A2} (h:fx.length + ls.length < 490) (hg:Gr fx ls):Part (Lk fx ls) (Mv fx) (mg (oT fx ls)):=(pt hg).1 (qN (r8 h)).2
open Classical in
theorem m9 {fx:List Bool} {ls:List A2} (h:fx.length + ls.length < 490):cI 2000 fx ls = some (if Gr fx ls then (mg (oT fx ls),0) else ([],1)):=by
 obtain ⟨z,e,hz⟩:=find_ok (F:=2000) (fx:=fx) (ls:=ls) (by omega) (by omega) (by omega)
 rw [e]
 rcases hz with ⟨hg,h0,hp⟩ | ⟨hg,rfl⟩
 ·rw [if_pos hg,mg_uniq (r8 h) ((pt hg).2 hp),← h0]
 ·rw [if_neg hg]
open Classical in
def gq (ls:List A2) (a b:Int):Prop:=∃ l ∈ ls,(l.a0 = a ∧ l.a1 = b) ∨ (l.a0 = b ∧ l.a1 = a)
theorem gq.symm {ls:List A2} {a b:Int} (h:gq ls a b):gq ls b a:=by
 obtain ⟨l,hl,h⟩:=h; exact ⟨l,hl,h.symm⟩
theorem gq.nH {fx:List Bool} {ls:List A2} {a b:Int} (hg:Gr fx ls) (h:gq ls a b):0 ≤ a ∧ a < fx.length ∧ 0 ≤ b ∧ b < fx.length ∧ a ≠ b:=by
 obtain ⟨l,hl,h⟩:=h
 obtain ⟨a1,a2,a3,a4,a5⟩:=hg.2 l hl
 rcases h with ⟨rfl,rfl⟩ | ⟨rfl,rfl⟩
 ·exact ⟨a1,a2,a3,a4,a5⟩
 ·exact ⟨a3,a4,a1,a2,Ne.symm a5⟩
def Ends (ls:List A2) (i a b:Int):Prop:=((idx ls i).a0 = a ∧ (idx ls i).a1 = b) ∨ ((idx ls i).a0 = b ∧ (idx ls i).a1 = a)
theorem Ends.symm {ls:List A2} {i a b:Int} (h:Ends ls i a b):Ends ls i b a:=Or.symm h
structure Nr (n:Nat) (ls:List A2) (is:List Int) (near:List (List jr)):Prop where
 len:near.length = n
 mem:∀ v:Int,0 ≤ v → v < n → ∀ e,e ∈ idx near v ↔ e.pos ∈ is ∧ Ends ls e.pos v e.to
 nd:∀ v:Int,0 ≤ v → v < n → ((idx near v).map (·.pos)).Nodup
theorem Nr.le {n:Nat} {ls:List A2} {is:List Int} {near:List (List jr)} (h:Nr n ls is near) {v:Int} (h0:0 ≤ v) (h1:v < n):(idx near v).length ≤ is.length:=by
 have:=mZ (h.nd v h0 h1) (m:=is) fun a ha=>by
  obtain ⟨e,he,rfl⟩:=List.mem_map.1 ha
  exact ((h.mem v h0 h1 e).1 he).1
 simpa using this
theorem near_ok {F n:Nat} {ls:List A2} {is:List Int} (hF:is.length < F) (hL:is.length ≤ 1000000) (hn:n ≤ 1000000) (hin:∀ i ∈ is,0 ≤ i ∧ i < ls.length ∧ Lnk n (idx ls i)) (hnd:is.Nodup):af (cu F (n:Int) ls is) (Nr n ls is):=by
 unfold cu
 refine af.bp (x:=List.replicate n []) (by unfold mk?; rw [if_pos (by omega)]; rfl) (af.bind (P:=Nr n ls is) ?_ fun _ h=>af.some h)
 refine af.rC (fun pre s=>Nr n ls pre s) hF (by omega) ⟨by simp,fun v h0 h1 e=>by rw [oF h0 h1]; simp,fun v h0 h1=>by rw [oF h0 h1]; simp⟩ (fun pre x post out e hxi hI=>?_) fun s h=>h
 obtain ⟨i1,i2,a1,a2,a3,a4,a5⟩:=hin x (by rw [e]; simp)
 have hxp:x ∉ pre:=fun h=>by
  have:=(List.nodup_append.1 (e ▸ hnd)).2.2 x h x (List.mem_cons_self ..)
  exact this rfl
 have hpl:pre.length < is.length:=by rw [e]; simp
 have l0:=hI.le a1 a2
 have l1:=hI.le a3 a4
 have hl:=hI.len
 have e1:idx (out.set (idx ls x).a0.toNat (idx out (idx ls x).a0 ++ [⟨(idx ls x).a1,x⟩])) (idx ls x).a1 = idx out (idx ls x).a1:=by
  rw [gu a1 (by omega) a3,if_neg (fun h=>a5 h.symm)]
 refine af.bp hxi (af.idx i1 i2 (af.idx i1 i2 (af.idx a1 (by omega) (af.app (by simp only [List.length_singleton]; omega) (af.idx a1 (by omega) (af.idx a3 (by rw [List.length_set]; omega) ?_))))))
 rw [e1]
 refine af.app (by simp only [List.length_singleton]; omega) (af.idx a3 (by rw [List.length_set]; omega) (af.some (.inl ⟨_,rfl,?_⟩)))
 have ei:∀ v:Int,0 ≤ v → idx ((out.set (idx ls x).a0.toNat (idx out (idx ls x).a0 ++ [⟨(idx ls x).a1,x⟩])).set (idx ls x).a1.toNat (idx out (idx ls x).a1 ++ [⟨(idx ls x).a0,x⟩])) v = if v = (idx ls x).a1 then idx out v ++ [⟨(idx ls x).a0,x⟩] else if v = (idx ls x).a0 then idx out v ++ [⟨(idx ls x).a1,x⟩] else idx out v:=fun v h0=>by
  rw [gu a3 (by rw [List.length_set]; omega) h0,gu a1 (by omega) h0]
  by_cases c:v = (idx ls x).a1
  ·rw [if_pos c,if_pos c,c]
  ·rw [if_neg c,if_neg c]
   by_cases c:v = (idx ls x).a0
   ·rw [if_pos c,if_pos c,c]
   ·rw [if_neg c,if_neg c]
 have hnp:∀ v:Int,0 ≤ v → v < n → ∀ t,((idx out v ++ [(⟨t,x⟩:jr)]).map (·.pos)).Nodup:=fun v h0 h1 t=>by
  rw [List.map_append,List.nodup_append]
  refine ⟨hI.nd v h0 h1,by simp,fun p hp q hq=>?_⟩
  simp only [List.map_cons,List.map_nil,List.mem_singleton] at hq
  rw [hq]
  rintro rfl
  obtain ⟨e2,he,rfl⟩:=List.mem_map.1 hp
  exact hxp ((hI.mem v h0 h1 e2).1 he).1
 refine ⟨by rw [List.length_set,List.length_set]; exact hl,fun v h0 h1 d=>?_,fun v h0 h1=>?_⟩
 ·rw [ei v h0]
  have hm:=hI.mem v h0 h1 d
  have hends:d.pos = x → (Ends ls d.pos v d.to ↔ (v = (idx ls x).a1 ∧ d.to = (idx ls x).a0) ∨ (v = (idx ls x).a0 ∧ d.to = (idx ls x).a1)):=fun h=>by
   unfold Ends; rw [h]
   constructor
   ·rintro (⟨h1,h2⟩ | ⟨h1,h2⟩)
    ·exact .inr ⟨h1.symm,h2.symm⟩
    ·exact .inl ⟨h2.symm,h1.symm⟩
   ·rintro (⟨h1,h2⟩ | ⟨h1,h2⟩)
    ·exact .inr ⟨h2.symm,h1.symm⟩
    ·exact .inl ⟨h1.symm,h2.symm⟩
  have key:(d.pos ∈ pre ++ [x] ∧ Ends ls d.pos v d.to) ↔ d ∈ idx out v ∨ (d.pos = x ∧ ((v = (idx ls x).a1 ∧ d.to = (idx ls x).a0) ∨ (v = (idx ls x).a0 ∧ d.to = (idx ls x).a1))):=by
   rw [hm,List.mem_append,List.mem_singleton]
   constructor
   ·rintro ⟨h | h,he⟩
    ·exact .inl ⟨h,he⟩
    ·exact .inr ⟨h,(hends h).1 he⟩
   ·rintro (⟨h,he⟩ | ⟨h,he⟩)
    ·exact ⟨.inl h,he⟩
    ·exact ⟨.inr h,(hends h).2 he⟩
  rw [key]
  have hex:∀ t,d = (⟨t,x⟩:jr) ↔ d.pos = x ∧ d.to = t:=fun t=>by
   cases d; simp; exact and_comm
  split
  ·next c=>rw [List.mem_append,List.mem_singleton,hex,c]; simp [Ne.symm a5]
  ·next c=>
   split
   ·next c'=>rw [List.mem_append,List.mem_singleton,hex,c']; simp [a5]
   ·next c'=>simp [c,c']
 ·rw [ei v h0]
  split
  ·exact hnp v h0 h1 _
  ·split
   ·exact hnp v h0 h1 _
   ·exact hI.nd v h0 h1
structure Lv (fx:List Bool) (ls:List A2) (o:List Int):Prop where
 len:o.length = fx.length
 low:∀ v:Int,0 ≤ v → v < fx.length → -1 ≤ idx o v
 fix:∀ v:Int,0 ≤ v → v < fx.length → (idx fx v = true ↔ idx o v = 0)
 prev:∀ v:Int,0 ≤ v → v < fx.length → 0 < idx o v → ∃ u,gq ls v u ∧ idx o u = idx o v - 1
 next:∀ a b,gq ls a b → 0 ≤ idx o a → 0 ≤ idx o b ∧ idx o b ≤ idx o a + 1
theorem chain {fx:List Bool} {ls:List A2} {o:List Int} (hg:Gr fx ls) (prev:∀ v:Int,0 ≤ v → v < fx.length → 0 < idx o v → ∃ u,gq ls v u ∧ idx o u = idx o v - 1) :
  ∀ (k:Nat) (v:Int),0 ≤ v → v < fx.length → idx o v = k → ∃ L:List Int,L.length = k + 1 ∧ L.Nodup ∧ ∀ a ∈ L,0 ≤ a ∧ a < fx.length ∧ idx o a ≤ k
 | 0,v,h0,h1,h=>⟨[v],rfl,by simp,fun a ha=>by rw [List.mem_singleton.1 ha]; exact ⟨h0,h1,by omega⟩⟩
 | k + 1,v,h0,h1,h=>by
  obtain ⟨u,hu,e⟩:=prev v h0 h1 (by omega)
  obtain ⟨r1,r2,r3,r4,_⟩:=hu.nH hg
  obtain ⟨L,l1,l2,l3⟩:=chain hg prev k u r3 r4 (by omega)
  refine ⟨v :: L,by simp [l1],List.nodup_cons.2 ⟨fun hv=>?_,l2⟩,fun a ha=>?_⟩
  ·have:=(l3 v hv).2.2; omega
  ·rcases List.mem_cons.1 ha with rfl | ha
   ·exact ⟨h0,h1,by omega⟩
   ·obtain ⟨p1,p2,p3⟩:=l3 a ha; exact ⟨p1,p2,by omega⟩
theorem mO {L:List Int} {n:Nat} (hn:L.Nodup) (h:∀ a ∈ L,0 ≤ a ∧ a < n):L.length ≤ n:=by
 have:=mZ hn (m:=(List.range n).map fun i:Nat=>(i:Int)) fun a ha=>by
  obtain ⟨h0,h1⟩:=h a ha
  exact List.mem_map.2 ⟨a.toNat,List.mem_range.2 (by omega),by omega⟩
 simpa using this
theorem oX {fx:List Bool} {ls:List A2} {o:List Int} (hg:Gr fx ls) (prev:∀ v:Int,0 ≤ v → v < fx.length → 0 < idx o v → ∃ u,gq ls v u ∧ idx o u = idx o v - 1) {v:Int} (h0:0 ≤ v) (h1:v < fx.length):idx o v < fx.length:=by
 by_cases c:0 ≤ idx o v
 ·obtain ⟨L,l1,l2,l3⟩:=chain hg prev (idx o v).toNat v h0 h1 (by omega)
  have:=mO l2 fun a ha=>⟨(l3 a ha).1,(l3 a ha).2.1⟩
  omega
 ·omega
theorem Lv.le {fx:List Bool} {ls:List A2} {o p:List Int} (hg:Gr fx ls) (ho:Lv fx ls o) (hp:Lv fx ls p):∀ (k:Nat) (v:Int),0 ≤ v → v < fx.length → idx o v = k → 0 ≤ idx p v ∧ idx p v ≤ k
 | 0,v,h0,h1,h=>by
  have:=(hp.fix v h0 h1).1 ((ho.fix v h0 h1).2 h); omega
 | k + 1,v,h0,h1,h=>by
  obtain ⟨u,hu,e⟩:=ho.prev v h0 h1 (by omega)
  obtain ⟨r1,r2,r3,r4,_⟩:=hu.nH hg
  obtain ⟨q1,q2⟩:=Lv.le hg ho hp k u r3 r4 (by omega)
  have:=hp.next u v hu.symm q1
  omega
theorem Lv.uniq {fx:List Bool} {ls:List A2} {o p:List Int} (hg:Gr fx ls) (ho:Lv fx ls o) (hp:Lv fx ls p):o = p:=by
 refine List.ext_getElem (by rw [ho.len,hp.len]) fun i h1 h2=>?_
 have hl:=ho.len
 rw [← dF _ _ h1,← dF _ _ h2]
 have b1:=ho.low i (by omega) (by omega)
 have b2:=hp.low i (by omega) (by omega)
 by_cases c:0 ≤ idx o (i:Int)
 ·have r1:=Lv.le hg ho hp (idx o (i:Int)).toNat i (by omega) (by omega) (by omega)
  have r2:=Lv.le hg hp ho (idx p (i:Int)).toNat i (by omega) (by omega) (by omega)
  omega
 ·by_cases c':0 ≤ idx p (i:Int)
  ·have r2:=Lv.le hg hp ho (idx p (i:Int)).toNat i (by omega) (by omega) (by omega)
   omega
  ·omega
structure Bf (fx:List Bool) (ls:List A2) (D q out:List Int):Prop where
 len:out.length = fx.length
 low:∀ v:Int,0 ≤ v → v < fx.length → -1 ≤ idx out v
 fix:∀ v:Int,0 ≤ v → v < fx.length → (idx fx v = true ↔ idx out v = 0)
 prev:∀ v:Int,0 ≤ v → v < fx.length → 0 < idx out v → ∃ u,gq ls v u ∧ idx out u = idx out v - 1
 seen:∀ v:Int,0 ≤ v → v < fx.length → (0 ≤ idx out v ↔ v ∈ D ++ q)
 nH:∀ v ∈ D ++ q,0 ≤ v ∧ v < fx.length
 nd:(D ++ q).Nodup
 don:∀ v ∈ D,∀ w,gq ls v w → 0 ≤ idx out w ∧ idx out w ≤ idx out v + 1
 srt:q.Pairwise fun a b=>idx out a ≤ idx out b
 top:∀ w ∈ D ++ q,∀ a ∈ q,idx out w ≤ idx out a + 1
theorem Bf.push {fx:List Bool} {ls:List A2} {D q out:List Int} {v w:Int} (hg:Gr fx ls) (h:Bf fx ls D (v :: q) out) (hw:idx out w < 0) (ha:gq ls v w):Bf fx ls D (v :: (q ++ [w])) (out.set w.toNat (idx out v + 1)) ∧ idx (out.set w.toNat (idx out v + 1)) v = idx out v:=by
 obtain ⟨r1,r2,r3,r4,r5⟩:=ha.nH hg
 have hl:=h.len
 have ei:∀ u:Int,0 ≤ u → idx (out.set w.toNat (idx out v + 1)) u = if u = w then idx out v + 1 else idx out u:=fun u hu=>gu r3 (by omega) hu
 have hv0:0 ≤ idx out v:=(h.seen v r1 r2).2 (by simp)
 have hwn:w ∉ D ++ v :: q:=fun hm=>by have:=(h.seen w r3 r4).2 hm; omega
 have es:∀ u ∈ D ++ v :: q,idx (out.set w.toNat (idx out v + 1)) u = idx out u:=fun u hu=>by
  rw [ei u (h.nH u hu).1,if_neg (by rintro rfl; exact hwn hu)]
 have ew:idx (out.set w.toNat (idx out v + 1)) w = idx out v + 1:=by rw [ei w r3,if_pos rfl]
 have hm:∀ u,u ∈ D ++ v :: (q ++ [w]) ↔ u ∈ D ++ v :: q ∨ u = w:=fun u=>by simp [or_assoc]
 refine ⟨⟨by rw [List.length_set]; exact hl,fun u h0 h1=>?_,fun u h0 h1=>?_,fun u h0 h1 hp=>?_,fun u h0 h1=>?_,fun u hu=>?_,?_,fun u hu z hz=>?_,?_,fun u hu a haq=>?_⟩,es v (by simp)⟩
 ·rw [ei u h0]; split
  ·omega
  ·exact h.low u h0 h1
 ·rw [ei u h0]; split
  ·next e=>
   subst e
   have:=h.fix u h0 h1
   exact ⟨fun hx=>by have:=this.1 hx; omega,fun hx=>by omega⟩
  ·exact h.fix u h0 h1
 ·by_cases c:u = w
  ·subst c
   exact ⟨v,ha.symm,by rw [es v (by simp),ew]; omega⟩
  ·rw [ei u h0,if_neg c] at hp ⊢
   obtain ⟨z,hz,e⟩:=h.prev u h0 h1 hp
   obtain ⟨_,_,z3,z4,_⟩:=hz.nH hg
   exact ⟨z,hz,by rw [ei z z3,if_neg (by rintro rfl; omega)]; exact e⟩
 ·rw [ei u h0,hm]; split
  ·next e=>exact ⟨fun _=>.inr e,fun _=>by omega⟩
  ·next e=>rw [h.seen u h0 h1]; simp [e]
 ·rcases (hm u).1 hu with hu | rfl
  ·exact h.nH u hu
  ·exact ⟨r3,r4⟩
 ·have:D ++ v :: (q ++ [w]) = (D ++ v :: q) ++ [w]:=by simp
  rw [this,List.nodup_append]
  exact ⟨h.nd,by simp,fun a ham b hb=>by rw [List.mem_singleton.1 hb]; rintro rfl; exact hwn ham⟩
 ·have h1:=h.don u hu z hz
  obtain ⟨z1,z2,z3,z4,_⟩:=hz.nH hg
  rw [es u (by simp [hu]),ei z z3,if_neg (by rintro rfl; omega)]
  exact h1
 ·have e:v :: (q ++ [w]) = (v :: q) ++ [w]:=rfl
  rw [e,List.pairwise_append]
  refine ⟨h.srt.imp_of_mem ?_,by simp,fun a ha' b hb=>?_⟩
  ·intro a b ha hb hab
   rw [es a (by simp only [List.mem_append]; exact .inr ha),es b (by simp only [List.mem_append]; exact .inr hb)]; exact hab
  ·rw [List.mem_singleton.1 hb,ew,es a (by simp only [List.mem_append]; exact .inr ha')]
   exact h.top a (by simp only [List.mem_append]; exact .inr ha') v (by simp)
 ·have hq:∀ a ∈ v :: q,idx out v ≤ idx out a:=fun a ha=>by
   rcases List.mem_cons.1 ha with rfl | ha
   ·exact Int.le_refl _
   ·exact (List.pairwise_cons.1 h.srt).1 a ha
  have haq:a ∈ v :: q ∨ a = w:=by
   rcases List.mem_cons.1 haq with rfl | h
   ·exact .inl (by simp)
   ·rcases List.mem_append.1 h with h | h
    ·exact .inl (by simp [h])
    ·exact .inr (by simpa using h)
  rcases (hm u).1 hu with hu' | rfl
  ·rw [es u hu']
   rcases haq with haq | rfl
   ·rw [es a (by simp only [List.mem_append]; exact .inr haq)]; exact h.top u hu' a haq
   ·rw [ew]; have:=h.top u hu' v (by simp); omega
  ·rw [ew]
   rcases haq with haq | rfl
   ·rw [es a (by simp only [List.mem_append]; exact .inr haq)]; have:=hq a haq; omega
   ·rw [ew]; omega
theorem Bf.pop {fx:List Bool} {ls:List A2} {D q out:List Int} {v:Int} (h:Bf fx ls D (v :: q) out) (hn:∀ w,gq ls v w → 0 ≤ idx out w ∧ idx out w ≤ idx out v + 1):Bf fx ls (D ++ [v]) q out:=by
 have e:D ++ [v] ++ q = D ++ v :: q:=by simp
 refine ⟨h.len,h.low,h.fix,h.prev,by rw [e]; exact h.seen,by rw [e]; exact h.nH,by rw [e]; exact h.nd,fun u hu=>?_,(List.pairwise_cons.1 h.srt).2,by rw [e]; exact fun w hw a ha=>h.top w hw a (List.mem_cons_of_mem _ ha)⟩
 rcases List.mem_append.1 hu with hu | hu
 ·exact h.don u hu
 ·rw [List.mem_singleton.1 hu]; exact hn
theorem Bf.lv {fx:List Bool} {ls:List A2} {D out:List Int} (hg:Gr fx ls) (h:Bf fx ls D [] out):Lv fx ls out :=
 ⟨h.len,h.low,h.fix,h.prev,fun a b hab h0=>by
  obtain ⟨r1,r2,_⟩:=hab.nH hg
  exact h.don a (by simpa using (h.seen a r1 r2).1 h0) b hab⟩
def rgI (n:Nat):List Int:=(List.range n).map fun i:Nat=>(i:Int)
theorem oC {n:Nat} {i:Int}:i ∈ rgI n ↔ 0 ≤ i ∧ i < n:=by
 simp only [rgI,List.mem_map,List.mem_range]
 exact ⟨by rintro ⟨k,hk,rfl⟩; omega,fun ⟨h0,h1⟩=>⟨i.toNat,by omega,by omega⟩⟩
theorem rgI_nd (n:Nat):(rgI n).Nodup:=by
 unfold rgI
 exact List.pairwise_map.2 (List.nodup_range.imp fun h e=>h (by omega))
theorem mz {α:Type} {l:List α} {x y:α}:(l ++ [x]).set l.length y = l ++ [y]:=by
 rw [List.set_append_right _ _ (Nat.le_refl _)]; simp
def kG (l:List Bool):List Int:=l.map fun b=>if b = true then 0 else -1
theorem qP {l:List Bool} {v:Int} (h0:0 ≤ v) (h1:v < l.length):idx (kG l) v = if idx l v = true then 0 else -1:=by
 obtain ⟨k,rfl⟩:∃ k:Nat,v = k:=⟨v.toNat,by omega⟩
 rw [dF _ _ (by simp [kG]; omega),dF _ _ (by omega)]; simp [kG]
theorem nX {fx:List Bool} {ls:List A2} (hs:fx.length + ls.length < 490):af (bF 2000 fx ls) fun z=>(Gr fx ls ∧ z.2 = 0 ∧ Lv fx ls z.1) ∨ (¬ Gr fx ls ∧ z = ([],1)):=by
 unfold bF
 refine af.bind (px (by omega) (by omega)) fun r hr=>?_
 refine af.ite (fun hc=>af.some (.inr ⟨fun h=>by simp [hr.2 h] at hc,rfl⟩)) (fun hc=>?_)
 have hg:Gr fx ls:=hr.1 (by simpa using hc)
 have hx:=hg.1
 refine af.bp (x:=List.replicate ls.length 0) (by unfold mk?; rw [if_pos (by omega)]; rfl) ?_
 refine af.bind (P:=(· = rgI ls.length)) ?_ ?_
 ·refine af.rC (l:=List.replicate ls.length (0:Int)) (I:=fun pre s=>s.length = ls.length ∧ ∀ j:Int,0 ≤ j → j < pre.length → idx s j = j) (by simp; omega) (by simp; omega) ⟨by simp,fun j h0 h1=>by simp at h1; omega⟩ (fun pre x post s e hxi hI=>?_) ?_
  ·have hpl:pre.length < ls.length:=by have:=congrArg List.length e; simp at this; omega
   obtain ⟨h1,h2⟩:=hI
   refine af.idx (by omega) (by omega) (af.some (.inl ⟨_,rfl,by rw [List.length_set]; exact h1,fun j h0 hj=>?_⟩))
   rw [List.length_append,List.length_singleton] at hj
   rw [gu (by omega) (by omega) h0]
   split
   ·next e=>exact e.symm
   ·exact h2 j h0 (by omega)
  ·rintro s ⟨h1,h2⟩
   refine List.ext_getElem (by simp [rgI,h1]) fun i i1 i2=>?_
   have:=h2 (i:Int) (by omega) (by simp; omega)
   rw [dF _ _ i1] at this
   rw [this]; simp [rgI]
 rintro places rfl
 refine af.bind (near_ok (n:=fx.length) (by simp [rgI]; omega) (by simp [rgI]; omega) (by omega) (fun i hi=>?_) (rgI_nd _)) fun near hnr=>?_
 ·obtain ⟨h0,h1⟩:=oC.1 hi
  exact ⟨h0,h1,hg.2 _ (mR h0 h1)⟩
 have hnear:∀ v:Int,0 ≤ v → v < fx.length → ∀ w,(∃ e ∈ idx near v,e.to = w) ↔ gq ls v w:=fun v h0 h1 w=>by
  constructor
  ·rintro ⟨e,he,rfl⟩
   obtain ⟨p1,p2⟩:=(hnr.mem v h0 h1 e).1 he
   obtain ⟨q0,q1⟩:=oC.1 p1
   exact ⟨idx ls e.pos,mR q0 q1,p2⟩
  ·rintro ⟨l,hl,h⟩
   obtain ⟨k,hk,e⟩:=List.getElem_of_mem hl
   have e':idx ls (k:Int) = l:=by rw [dF _ _ hk]; exact e
   exact ⟨⟨w,(k:Int)⟩,(hnr.mem v h0 h1 _).2 ⟨oC.2 (by simp only; omega),by unfold Ends; rw [e']; exact h⟩,rfl⟩
 refine af.bind (P:=fun z=>z.1 = kG fx ∧ z.2.Nodup ∧ ∀ v:Int,v ∈ z.2 ↔ 0 ≤ v ∧ v < fx.length ∧ idx fx v = true) ?_ ?_
 ·refine af.ea3 (fun pre out q=>out = kG pre ∧ q.Nodup ∧ (q.length ≤ pre.length) ∧ ∀ v:Int,v ∈ q ↔ 0 ≤ v ∧ v < pre.length ∧ idx fx v = true) (by omega) (by omega) ⟨rfl,by simp,by simp,fun v=>by simp; omega⟩ (fun pre x post out q e hxi hI=>?_) fun out q h=>⟨h.1,h.2.1,h.2.2.2⟩
  obtain ⟨ho,hq,hl,hm⟩:=hI
  have hxe:idx fx (pre.length:Int) = x:=qA hxi
  have hpl:pre.length < fx.length:=by rw [e]; simp
  have hol:out.length = pre.length:=by rw [ho]; simp [kG]
  refine af.bind (P:=fun z=>z.1 = kG (pre ++ [x]) ∧ z.2.Nodup ∧ (z.2.length ≤ (pre ++ [x]).length) ∧ ∀ v:Int,v ∈ z.2 ↔ 0 ≤ v ∧ v < (pre ++ [x]).length ∧ idx fx v = true) ?_ (by rintro ⟨a,b⟩ h; exact af.some (.inl ⟨a,b,rfl,h⟩))
  have hlv:kG (pre ++ [x]) = kG pre ++ [if x = true then 0 else -1]:=by simp [kG]
  have hlast:∀ v:Int,v < (pre ++ [x]).length ↔ v < pre.length ∨ v = pre.length:=fun v=>by simp; omega
  refine af.bp hxi (af.app (by simp only [List.length_singleton]; omega) (af.ite (fun hc=>?_) (fun hc=>?_)))
  ·refine af.idx (by omega) (by simp; omega) (af.app (by simp only [List.length_singleton]; omega) (af.some ⟨?_,?_,by simp; omega,fun v=>?_⟩))
   ·have:(pre.length:Int).toNat = out.length:=by omega
    rw [this,mz,hlv,if_pos hc,ho]
   ·rw [List.nodup_append]
    refine ⟨hq,by simp,fun a ha b hb=>?_⟩
    rw [List.mem_singleton.1 hb]
    have:=((hm a).1 ha).2.1
    omega
   ·rw [List.mem_append,List.mem_singleton,hm v,hlast]
    constructor
    ·rintro (⟨h1,h2,h3⟩ | rfl)
     ·exact ⟨h1,.inl h2,h3⟩
     ·exact ⟨by omega,.inr rfl,by rw [hxe]; exact hc⟩
    ·rintro ⟨h1,h2 | h2,h3⟩
     ·exact .inl ⟨h1,h2,h3⟩
     ·exact .inr h2
  ·refine af.some ⟨by rw [hlv,if_neg (by rw [hc]; simp),ho],hq,by simp; omega,fun v=>?_⟩
   rw [hm v,hlast]
   constructor
   ·rintro ⟨h1,h2,h3⟩; exact ⟨h1,.inl h2,h3⟩
   ·rintro ⟨h1,h2 | h2,h3⟩
    ·exact ⟨h1,h2,h3⟩
    ·rw [h2,hxe,hc] at h3; cases h3
 rintro ⟨out0,q0⟩ ⟨ho,hq,hm⟩
 simp only at ho hq hm
 subst ho
 simp only [bL]
 refine af.bind (P:=Lv fx ls) ?_ fun o ho=>af.some (.inl ⟨hg,rfl,ho⟩)
 refine af.rounds (n:=fx.length) (I:=fun k z=>∃ D:List Int,D.length = k ∧ Bf fx ls D z.2 z.1) (by omega) ⟨[],rfl,?_⟩ ?_
 ·have hz:∀ v:Int,0 ≤ v → v < fx.length → (0 ≤ idx (kG fx) v ↔ idx fx v = true) ∧ idx (kG fx) v ≤ 0 ∧ -1 ≤ idx (kG fx) v:=fun v h0 h1=>by
   rw [qP h0 h1]; by_cases c:idx fx v = true <;> simp [c]
  have hq0:∀ v ∈ q0,idx (kG fx) v = 0:=fun v hv=>by
   obtain ⟨h0,h1,h2⟩:=(hm v).1 hv
   obtain ⟨z1,z2,_⟩:=hz v h0 h1
   have:=z1.2 h2; omega
  refine ⟨by simp [kG],fun v h0 h1=>(hz v h0 h1).2.2,fun v h0 h1=>?_,fun v h0 h1 hp=>?_,fun v h0 h1=>?_,fun v hv=>?_,by simpa using hq,by simp,?_,fun w hw a ha=>?_⟩
  ·obtain ⟨z1,z2,z3⟩:=hz v h0 h1
   rw [← z1]; simp only; omega
  ·have:=(hz v h0 h1).2.1; simp only at hp; omega
  ·rw [(hz v h0 h1).1]
   show _ ↔ v ∈ q0
   rw [hm v]; simp [h0,h1]
  ·obtain ⟨h0,h1,_⟩:=(hm v).1 (by simpa using hv); exact ⟨h0,h1⟩
  ·refine List.Pairwise.imp_of_mem (R:=fun _ _=>True) (fun {a b} ha hb _=>?_) (List.pairwise_of_forall (fun _ _=>trivial))
   show idx (kG fx) a ≤ idx (kG fx) b
   rw [hq0 a ha,hq0 b hb]; exact Int.le_refl _
  ·show idx (kG fx) w ≤ idx (kG fx) a + 1
   rw [hq0 a ha,hq0 w (by simpa using hw)]; omega
 ·rintro k ⟨out,queue⟩ hk ⟨D,hD,hB⟩
  simp only at hB
  simp only [bL]
  cases queue with
  | nil=>exact af.iff (by simp) (af.some (.inr ⟨_,rfl,hB.lv hg⟩))
  | cons v q=>
   obtain ⟨v0,v1⟩:=hB.nH v (by simp)
   have hDq:=mO hB.nd hB.nH
   rw [List.length_append,List.length_cons] at hDq
   refine af.qw (by simp) (af.idx (by omega) (by simp) (af.drop (by omega) (by simp; omega) ?_))
   have e0:idx (v :: q) 0 = v:=rfl
   rw [e0]
   refine af.idx v0 (by rw [hnr.len]; exact v1) ?_
   have hnl:=hnr.le v0 v1
   simp only [rgI,List.length_map,List.length_range] at hnl
   refine af.bind (P:=fun z=>Bf fx ls D (v :: z.2) z.1 ∧ ∀ e ∈ idx near v,0 ≤ idx z.1 e.to ∧ idx z.1 e.to ≤ idx z.1 v + 1) ?_ ?_
   ·refine af.ea3 (fun pre out q=>Bf fx ls D (v :: q) out ∧ ∀ e ∈ pre,0 ≤ idx out e.to ∧ idx out e.to ≤ idx out v + 1) (by omega) (by omega) ⟨hB,by simp⟩ (fun pre x post out q e hxi hI=>?_) fun out q h=>h
    obtain ⟨hI,hpre⟩:=hI
    have hxm:x ∈ idx near v:=by rw [e]; simp
    have hadj:gq ls v x.to:=(hnear v v0 v1 x.to).1 ⟨x,hxm,rfl⟩
    obtain ⟨_,_,r3,r4,_⟩:=hadj.nH hg
    have hol:=hI.len
    have hql:=mO hI.nd hI.nH
    rw [List.length_append,List.length_cons] at hql
    refine af.bind (P:=fun z=>Bf fx ls D (v :: z.2) z.1 ∧ ∀ e ∈ pre ++ [x],0 ≤ idx z.1 e.to ∧ idx z.1 e.to ≤ idx z.1 v + 1) ?_ (by rintro ⟨a,b⟩ h; exact af.some (.inl ⟨a,b,rfl,h⟩))
    refine af.bp hxi (af.idx r3 (by omega) (af.ite (fun hc=>?_) (fun hc=>?_)))
    ·have hc:=of_decide_eq_true hc
     have hlt:=oX hg hI.prev v0 v1
     have hvl:=hI.low v v0 v1
     refine af.idx v0 (by omega) (af.idx r3 (by omega) (af.app (by simp only [List.length_singleton]; omega) (af.some ?_)))
     rw [bW (by omega) (by omega)]
     obtain ⟨p1,p2⟩:=hI.push hg hc hadj
     refine ⟨p1,fun d hd=>?_⟩
     simp only
     rw [p2]
     have hv00:0 ≤ idx out v:=(hI.seen v v0 v1).2 (by simp)
     rcases List.mem_append.1 hd with hd | hd
     ·obtain ⟨d1,d2⟩:=hpre d hd
      have hda:gq ls v d.to:=(hnear v v0 v1 d.to).1 ⟨d,by rw [e]; simp [hd],rfl⟩
      obtain ⟨_,_,t3,t4,_⟩:=hda.nH hg
      rw [gu r3 (by omega) t3]
      split
      ·omega
      ·exact ⟨d1,d2⟩
     ·rw [List.mem_singleton.1 hd,gu r3 (by omega) r3,if_pos rfl]; omega
    ·have hc:=of_decide_eq_false hc
     refine af.some ⟨hI,fun d hd=>?_⟩
     rcases List.mem_append.1 hd with hd | hd
     ·exact hpre d hd
     ·rw [List.mem_singleton.1 hd]
      have hs:=(hI.seen x.to r3 r4).1 (by omega)
      have:=hI.top x.to hs v (by simp)
      exact ⟨by simp only; omega,this⟩
   ·rintro ⟨o',q'⟩ ⟨h1,h2⟩
    refine af.some (.inl ⟨(o',q'),rfl,⟨D ++ [v],by simp [hD],h1.pop fun w hw=>?_⟩,by omega⟩)
    obtain ⟨e,he,rfl⟩:=(hnear v v0 v1 w).2 hw
    exact h2 e he
structure Rf (fx:List Bool) (ls:List A2) (k:Nat) (out:List Int):Prop where
 len:out.length = fx.length
 low:∀ v:Int,0 ≤ v → v < fx.length → -1 ≤ idx out v
 fix:∀ v:Int,0 ≤ v → v < fx.length → (idx fx v = true ↔ idx out v = 0)
 prev:∀ v:Int,0 ≤ v → v < fx.length → 0 < idx out v → ∃ u,gq ls v u ∧ idx out u = idx out v - 1
 ub:∀ v:Int,0 ≤ v → v < fx.length → idx out v ≤ k
 next:∀ a b,gq ls a b → 0 ≤ idx out a → idx out a < k → 0 ≤ idx out b ∧ idx out b ≤ idx out a + 1
theorem Rf.zero (fx:List Bool) (ls:List A2):Rf fx ls 0 (kG fx):=by
 have hz:∀ v:Int,0 ≤ v → v < fx.length → (0 ≤ idx (kG fx) v ↔ idx fx v = true) ∧ idx (kG fx) v ≤ 0 ∧ -1 ≤ idx (kG fx) v:=fun v h0 h1=>by
  rw [qP h0 h1]; by_cases c:idx fx v = true <;> simp [c]
 refine ⟨by simp [kG],fun v h0 h1=>(hz v h0 h1).2.2,fun v h0 h1=>?_,fun v h0 h1 hp=>?_,fun v h0 h1=>by have:=(hz v h0 h1).2.1; omega,fun a b _ h0 h1=>by omega⟩
 ·obtain ⟨z1,z2,z3⟩:=hz v h0 h1
  rw [← z1]; omega
 ·have:=(hz v h0 h1).2.1; omega
open Classical in
theorem Rf.step {fx:List Bool} {ls:List A2} {k:Nat} {o p:List Int} (hg:Gr fx ls) (h:Rf fx ls k o) (hl:p.length = fx.length) (hp:∀ v:Int,0 ≤ v → v < fx.length → idx p v = if idx o v < 0 ∧ (∃ u,gq ls v u ∧ idx o u = k) then (k:Int) + 1 else idx o v):Rf fx ls (k + 1) p:=by
 have keep:∀ v:Int,0 ≤ v → v < fx.length → 0 ≤ idx o v → idx p v = idx o v:=fun v h0 h1 hv=>by
  rw [hp v h0 h1,if_neg (fun h=>by omega)]
 refine ⟨hl,fun v h0 h1=>?_,fun v h0 h1=>?_,fun v h0 h1 hpv=>?_,fun v h0 h1=>?_,fun a b hab h0 h1=>?_⟩
 ·rw [hp v h0 h1]; split
  ·omega
  ·exact h.low v h0 h1
 ·rw [hp v h0 h1]; split
  ·next c=>rw [h.fix v h0 h1]; omega
  ·exact h.fix v h0 h1
 ·rw [hp v h0 h1] at hpv ⊢
  split
  ·next c=>
   obtain ⟨_,u,hu,e⟩:=c
   obtain ⟨_,_,u3,u4,_⟩:=hu.nH hg
   exact ⟨u,hu,by rw [keep u u3 u4 (by omega)]; omega⟩
  ·next c=>
   rw [if_neg c] at hpv
   obtain ⟨u,hu,e⟩:=h.prev v h0 h1 hpv
   obtain ⟨_,_,u3,u4,_⟩:=hu.nH hg
   exact ⟨u,hu,by rw [keep u u3 u4 (by omega)]; exact e⟩
 ·rw [hp v h0 h1]; split
  ·push_cast; omega
  ·have:=h.ub v h0 h1; push_cast; omega
 ·obtain ⟨a1,a2,b1,b2,_⟩:=hab.nH hg
  have hua:=h.ub a a1 a2
  have hub:=h.ub b b1 b2
  have ea:idx p a = idx o a:=by
   rw [hp a a1 a2] at h0 h1 ⊢
   split
   ·next c=>rw [if_pos c] at h1; push_cast at h1; omega
   ·rfl
  rw [ea] at h0 h1 ⊢
  push_cast at h1
  by_cases c:idx o a < k
  ·obtain ⟨n1,n2⟩:=h.next a b hab h0 c
   rw [keep b b1 b2 n1]; exact ⟨n1,n2⟩
  ·by_cases c':0 ≤ idx o b
   ·rw [keep b b1 b2 c']; omega
   ·rw [hp b b1 b2,if_pos ⟨by omega,a,hab.symm,by omega⟩]; omega
theorem Rf.lv {fx:List Bool} {ls:List A2} {o:List Int} (hg:Gr fx ls) (h:Rf fx ls fx.length o):Lv fx ls o :=
 ⟨h.len,h.low,h.fix,h.prev,fun a b hab h0=>by
  obtain ⟨a1,a2,_⟩:=hab.nH hg
  exact h.next a b hab h0 (oX hg h.prev a1 a2)⟩
theorem gq.nil {a b:Int}:¬ gq [] a b:=by rintro ⟨l,hl,_⟩; cases hl
theorem gq.snoc {ls:List A2} {x:A2} {a b:Int}:gq (ls ++ [x]) a b ↔ gq ls a b ∨ (x.a0 = a ∧ x.a1 = b) ∨ (x.a0 = b ∧ x.a1 = a):=by
 unfold gq
 simp only [List.mem_append,List.mem_singleton]
 constructor
 ·rintro ⟨l,hl | rfl,h⟩
  ·exact .inl ⟨l,hl,h⟩
  ·exact .inr h
 ·rintro (⟨l,hl,h⟩ | h)
  ·exact ⟨l,.inl hl,h⟩
  ·exact ⟨x,.inr rfl,h⟩
open Classical in
theorem lvstep {F:Nat} {fx:List Bool} {ls:List A2} {o:List Int} {k:Nat} {K:Int} (hF:ls.length < F) (hL:ls.length ≤ 1000000) (hg:Gr fx ls) (ho:o.length = fx.length) (hK:K = (k:Int) + 1) (hk:k ≤ 1000) :
    af (iter F (bL fun next_16 i_17=>if (decide (i_17 < (ls.length:Int))) = true then (Option.bind (Option.bind (av ls i_17) (fun x_20=>Option.bind (av ls i_17) (fun x_21=>Option.bind (Option.bind (av o x_20.a0) (fun x_23=>Option.bind (bx (decide (x_23 = (IntKind.i64.wrap (K - 1)))) (av o x_21.a1)) (fun x_24=>dq ((decide (x_23 = (IntKind.i64.wrap (K - 1)))) && (decide (x_24 < 0))) fun x_25=>if x_25 = true then (Option.bind (av next_16 x_21.a1) (fun x_26=>some (next_16.set (x_21.a1:Int).toNat K))) else (some next_16)))) (fun next_22=>Option.bind (av o x_21.a1) (fun x_27=>Option.bind (bx (decide (x_27 = (IntKind.i64.wrap (K - 1)))) (av o x_20.a0)) (fun x_28=>dq ((decide (x_27 = (IntKind.i64.wrap (K - 1)))) && (decide (x_28 < 0))) fun x_29=>if x_29 = true then (Option.bind (av next_22 x_20.a0) (fun x_30=>some (next_22.set (x_20.a0:Int).toNat K))) else (some next_22))))))) (fun next_19=>some (.inl (next_19,IntKind.i64.wrap (i_17 + 1))))) else (some (.inr next_16))) (o,0))
      (fun p:List Int=>p.length = fx.length ∧ ∀ v:Int,0 ≤ v → v < fx.length → idx p v = if idx o v < 0 ∧ (∃ u,gq ls v u ∧ idx o u = k) then (k:Int) + 1 else idx o v):=by
  have hw:IntKind.i64.wrap (K - 1) = (k:Int):=by rw [bW (by omega) (by omega)]; omega
  rw [hw,hK]
  refine af.rC (fun pre p=>p.length = fx.length ∧ ∀ v:Int,0 ≤ v → v < fx.length → idx p v = if idx o v < 0 ∧ (∃ u,gq pre v u ∧ idx o u = k) then (k:Int) + 1 else idx o v) hF (by omega) ⟨ho,fun v h0 h1=>?_⟩ (fun pre x post p e hxi hI=>?_) fun s h=>h
  · rw [if_neg]; rintro ⟨_,u,hu,_⟩; exact gq.nil hu
  obtain ⟨pl,pv⟩:=hI
  obtain ⟨a1,a2,a3,a4,a5⟩:=hg.2 x (by rw [e]; simp)
  have half:∀ (p:List Int) (R:Int → Prop) (a b:Int),0 ≤ a → a < fx.length → 0 ≤ b → b < fx.length → p.length = fx.length → (∀ v:Int,0 ≤ v → v < fx.length → idx p v = if idx o v < 0 ∧ R v then (k:Int) + 1 else idx o v) →
      af (Option.bind (av o a) (fun x_23=>Option.bind (bx (decide (x_23 = (k:Int))) (av o b)) (fun x_24=>dq ((decide (x_23 = (k:Int))) && (decide (x_24 < 0))) fun x_25=>if x_25 = true then (Option.bind (av p b) (fun x_26=>some (p.set (b:Int).toNat ((k:Int) + 1)))) else (some p))))
        fun q:List Int=>q.length = fx.length ∧ ∀ v:Int,0 ≤ v → v < fx.length → idx q v = if idx o v < 0 ∧ (R v ∨ (v = b ∧ idx o a = k)) then (k:Int) + 1 else idx o v:=by
    intro p R a b a1 a2 b1 b2 hp hv
    refine af.idx a1 (by omega) ?_
    by_cases c:idx o a = (k:Int)
    · refine af.g1 (by simpa using c) (af.idx b1 (by omega) (af.ln (af.ite (fun hc=>?_) (fun hc=>?_))))
      · simp only [Bool.and_eq_true,decide_eq_true_eq] at hc
        refine af.idx b1 (by omega) (af.some ⟨by rw [List.length_set]; exact hp,fun v h0 h1=>?_⟩)
        rw [gu b1 (by omega) h0]
        by_cases e:v = b
        · rw [if_pos e,if_pos ⟨by rw [e]; exact hc.2,.inr ⟨e,c⟩⟩]
        · rw [if_neg e,hv v h0 h1]; simp [e]
      · simp only [Bool.and_eq_false_iff,decide_eq_false_iff_not] at hc
        have hc:¬ idx o b < 0:=by rcases hc with h | h
                                  · exact absurd c h
                                  · exact h
        refine af.some ⟨hp,fun v h0 h1=>?_⟩
        rw [hv v h0 h1]
        by_cases e:v = b
        · rw [if_neg (fun h=>hc (e ▸ h.1)),if_neg (fun h=>hc (e ▸ h.1))]
        · simp [e]
    · refine af.g0 (by simpa using c) (af.ln (af.iff (by simp [c]) (af.some ⟨hp,fun v h0 h1=>?_⟩)))
      rw [hv v h0 h1]; simp [c]
  refine af.bind (P:=fun p=>p.length = fx.length ∧ ∀ v:Int,0 ≤ v → v < fx.length → idx p v = if idx o v < 0 ∧ (∃ u,gq (pre ++ [x]) v u ∧ idx o u = k) then (k:Int) + 1 else idx o v) ?_ fun q hq=>af.some (.inl ⟨q,rfl,hq⟩)
  refine af.bp hxi (af.bp hxi (af.bind (half p _ x.a0 x.a1 a1 a2 a3 a4 pl pv) fun q hq=>(half q (fun v=>(∃ u,gq pre v u ∧ idx o u = k) ∨ (v = x.a1 ∧ idx o x.a0 = k)) x.a1 x.a0 a3 a4 a1 a2 hq.1 (fun v h0 h1=>by rw [hq.2 v h0 h1]; congr)).mono fun r hr=>⟨hr.1,fun v h0 h1=>?_⟩))
  rw [hr.2 v h0 h1]
  have:((∃ u,gq pre v u ∧ idx o u = k) ∨ (v = x.a1 ∧ idx o x.a0 = k)) ∨ (v = x.a0 ∧ idx o x.a1 = k) ↔ ∃ u,gq (pre ++ [x]) v u ∧ idx o u = k:=by
    constructor
    · rintro ((⟨u,hu,h⟩ | ⟨rfl,h⟩) | ⟨rfl,h⟩)
      · exact ⟨u,gq.snoc.2 (.inl hu),h⟩
      · exact ⟨x.a0,gq.snoc.2 (.inr (.inr ⟨rfl,rfl⟩)),h⟩
      · exact ⟨x.a1,gq.snoc.2 (.inr (.inl ⟨rfl,rfl⟩)),h⟩
    · rintro ⟨u,hu,h⟩
      rcases gq.snoc.1 hu with hu | ⟨rfl,rfl⟩ | ⟨rfl,rfl⟩
      · exact .inl (.inl ⟨u,hu,h⟩)
      · exact .inr ⟨rfl,h⟩
      · exact .inl (.inr ⟨rfl,h⟩)
  simp only [this]
theorem sX {fx:List Bool} {ls:List A2} (hs:fx.length + ls.length < 490) (hg:Gr fx ls):af (ct 2000 fx ls) (Lv fx ls):=by
 have hx:=hg.1
 unfold ct
 refine af.bind (P:=(· = kG fx)) ?_ ?_
 ·refine af.rC (fun pre out=>out = kG pre) (by omega) (by omega) rfl (fun pre x post out e hxi hI=>?_) fun out h=>h
  have hpl:pre.length < fx.length:=by rw [e]; simp
  have hol:out.length = pre.length:=by rw [hI]; simp [kG]
  have hlv:kG (pre ++ [x]) = kG pre ++ [if x = true then 0 else -1]:=by simp [kG]
  refine af.bind (P:=(· = kG (pre ++ [x]))) ?_ (by rintro a rfl; exact af.some (.inl ⟨_,rfl,rfl⟩))
  refine af.app (by simp only [List.length_singleton]; omega) (af.bp hxi (af.ite (fun hc=>?_) (fun hc=>?_)))
  ·refine af.idx (by omega) (by simp; omega) (af.some ?_)
   have:(pre.length:Int).toNat = out.length:=by omega
   rw [this,mz,hlv,if_pos hc,hI]
  ·exact af.some (by rw [hlv,if_neg (by rw [hc]; simp),hI])
 rintro o rfl
 refine af.bind (P:=Lv fx ls) ?_ fun o h=>af.some h
 refine af.rounds (n:=fx.length) (I:=fun k z=>z.2 = (k:Int) + 1 ∧ Rf fx ls k z.1) (by omega) ⟨rfl,Rf.zero fx ls⟩ ?_
 rintro k ⟨o,K⟩ hk ⟨hK,hR⟩
 simp only at hK hR
 subst hK
 simp only [bL]
 refine af.ite (fun hc=>?_) (fun hc=>?_)
 ·have hc:=of_decide_eq_true hc
  have hol:=hR.len
  refine af.bind (P:=Rf fx ls (k + 1)) ?_ fun p hp=>af.some (.inl ⟨_,rfl,⟨?_,hp⟩,by omega⟩)
  ·refine af.app (by simp; omega) (af.bind (lvstep (by omega) (by omega) hg hR.len rfl (by omega)) fun p hp=>af.some (hR.step hg hp.1 hp.2))
  ·simp only; rw [bW (by omega) (by omega)]; push_cast; omega
 ·have hc:=of_decide_eq_false hc
  have:k = fx.length:=by omega
  subst this
  exact af.some (.inr ⟨_,rfl,hR.lv hg⟩)
def kv (lv:List Int) (x:Int):Int:=IntKind.u64.wrap (idx lv x)
def KK (lv:List Int) (x:Int):Int:=kv lv x * 1000000 + x
abbrev SK (lv l:List Int):Prop:=l.Pairwise fun x y=>KK lv x < KK lv y
def rD (lv l:List Int):Prop:=∀ x ∈ l,0 ≤ x ∧ x < lv.length ∧ x < 1000000
def Ok2 (lv X Y:List Int):Prop:=∀ x ∈ X,∀ y ∈ Y,kv lv x = kv lv y → x < y
theorem ord1 {F:Nat} {lv:List Int} {a b:Int} (ha:0 ≤ a ∧ a < lv.length ∧ a < 1000000) (hb:0 ≤ b ∧ b < lv.length ∧ b < 1000000):∃ c,bT F a b lv = some c ∧ decide (c < 0) = decide (kv lv a < kv lv b):=by
 unfold bT
 rw [dt ha.1 ha.2.1,dt hb.1 hb.2.1]
 simp only [Option.bind_some,fV,gf]
 simp only [ne_eq,not_true_eq_false,decide_false,Option.bind_some,Bool.false_eq_true,if_false]
 show ∃ c,(Option.bind (if decide (kv lv a < kv lv b) = true then some (-1) else if decide (kv lv b < kv lv a) = true then some 1 else some 0) fun x=>some x) = some c ∧ _
 by_cases c:kv lv a < kv lv b
 ·exact ⟨-1,by rw [if_pos (by simpa using c)]; rfl,by simp [c]⟩
 ·rw [if_neg (by simpa using c)]
  by_cases c':kv lv b < kv lv a
  ·exact ⟨1,by rw [if_pos (by simpa using c')]; rfl,by simp [c]⟩
  ·exact ⟨0,by rw [if_neg (by simpa using c')]; rfl,by simp [c]⟩
theorem jB {lv:List Int} {x y:Int} (hx:0 ≤ x ∧ x < 1000000) (hy:0 ≤ y ∧ y < 1000000):KK lv x < KK lv y ↔ kv lv x < kv lv y ∨ (kv lv x = kv lv y ∧ x < y):=by
 unfold KK; omega
theorem fo {α:Type} [Inhabited α] {A B:List α} {x:α} {i:Int} (hi:i = A.length):idx (A ++ x :: B) i = x:=by
 subst hi; rw [dF _ _ (by simp)]; simp
theorem lJ {α:Type} {A B:List α} {x y:α} {i:Nat} (hi:i = A.length):(A ++ x :: B).set i y = A ++ y :: B:=by
 subst hi; rw [List.set_append_right _ _ (Nat.le_refl _)]; simp
theorem swp {α:Type} {A B:List α} {x y:α} {i j:Nat} (hi:i = A.length) (hj:j = i + 1):((A ++ x :: y :: B).set j x).set i y = A ++ y :: x :: B:=by
 have:A ++ x :: y :: B = (A ++ [x]) ++ y :: B:=by simp
 rw [this,lJ (by simp; omega)]
 have:A ++ [x] ++ x :: B = A ++ x :: x :: B:=by simp
 rw [this,lJ hi]
theorem swp' {α:Type} {A B:List α} {x y:α} {i j:Nat} (hi:i = A.length) (hj:j = i + 1):((A ++ x :: y :: B).set i y).set j x = A ++ y :: x :: B:=by
 rw [lJ hi]
 have:A ++ y :: y :: B = (A ++ [y]) ++ y :: B:=by simp
 rw [this,lJ (by simp; omega)]; simp
theorem insOne {F:Nat} {lv A S R:List Int} {x a:Int} (ha:a = A.length) (hA:A.length + S.length ≤ 1000000) (hF:S.length < F) (hS:SK lv S) (hok:Ok2 lv S [x]) (hin:rD lv S) (hx:0 ≤ x ∧ x < lv.length ∧ x < 1000000) {i:Int} (hi:i = a + S.length) {d:List Int} (hd:d = A ++ S ++ x :: R) :
  af (iter F (bL fun data_5 j_6=>Option.bind (bx (decide (a < j_6)) (av data_5 j_6)) (fun x_8=>Option.bind (bx (decide (a < j_6)) (av data_5 (IntKind.i64.wrap (j_6 - 1)))) (fun x_9=>Option.bind (bx (decide (a < j_6)) (bT F x_8 x_9 lv)) (fun x_10=>if ((decide (a < j_6)) && (decide (x_10 < 0))) = true then (Option.bind (av data_5 (IntKind.i64.wrap (j_6 - 1))) (fun x_11=>Option.bind (av data_5 j_6) (fun x_12=>Option.bind (av data_5 j_6) (fun x_13=>Option.bind (av (data_5.set (j_6:Int).toNat x_11) (IntKind.i64.wrap (j_6 - 1))) (fun x_14=>some (.inl ((data_5.set (j_6:Int).toNat x_11).set (IntKind.i64.wrap (j_6 - 1):Int).toNat x_12,IntKind.i64.wrap (j_6 - 1)))))))) else (some (.inr data_5)))))) (d,i))
   fun d'=>∃ S',d' = A ++ S' ++ R ∧ SK lv S' ∧ S'.Perm (S ++ [x]):=by
 subst ha hi hd
 refine af.rounds (n:=S.length) (I:=fun k z=>∃ S1 S2,S = S1 ++ S2 ∧ S2.length = k ∧ z.1 = A ++ S1 ++ x :: S2 ++ R ∧ z.2 = (A.length:Int) + S1.length ∧ ∀ s ∈ S2,KK lv x < KK lv s) hF ⟨S,[],by simp,rfl,by simp,rfl,by simp⟩ ?_
 rintro k ⟨d,j⟩ hk ⟨S1,S2,e,hl,hd,hj,hS2⟩
 simp only at hd hj
 subst hd hj
 simp only [bL]
 rcases List.eq_nil_or_concat S1 with rfl | ⟨S1',y,rfl⟩
 ·have e0:decide ((A.length:Int) < (A.length:Int) + ([]:List Int).length) = false:=by simp
  rw [e0]
  refine af.g0 rfl (af.g0 rfl (af.g0 rfl (af.iff rfl (af.some (.inr ⟨_,rfl,x :: S2,by simp,?_,?_⟩)))))
  ·rw [e,List.nil_append] at hS
   exact List.pairwise_cons.2 ⟨hS2,hS⟩
  ·rw [e,List.nil_append]; exact (List.perm_append_singleton x S2).symm
 ·have hll:(S1'.concat y).length = S1'.length + 1:=by simp
  have hyS:y ∈ S:=by rw [e]; simp
  have hy:=hin y hyS
  have e0:decide ((A.length:Int) < (A.length:Int) + (S1'.concat y).length) = true:=by simp; omega
  have ew:IntKind.i64.wrap ((A.length:Int) + (S1'.concat y).length - 1) = (A.length:Int) + S1'.length:=by
   rw [hll]; have:=congrArg List.length e; simp at this; rw [bW (by omega) (by omega)]; push_cast; omega
  have ej:idx (A ++ S1'.concat y ++ x :: S2 ++ R) ((A.length:Int) + (S1'.concat y).length) = x:=by
   have:A ++ S1'.concat y ++ x :: S2 ++ R = (A ++ S1'.concat y) ++ x :: (S2 ++ R):=by simp
   rw [this]; exact fo (by simp)
  have ej1:idx (A ++ S1'.concat y ++ x :: S2 ++ R) ((A.length:Int) + S1'.length) = y:=by
   have:A ++ S1'.concat y ++ x :: S2 ++ R = (A ++ S1') ++ y :: (x :: S2 ++ R):=by simp
   rw [this]; exact fo (by simp)
  have b1:(A.length:Int) + (S1'.concat y).length < (A ++ S1'.concat y ++ x :: S2 ++ R).length:=by simp; omega
  have b2:(A.length:Int) + S1'.length < (A ++ S1'.concat y ++ x :: S2 ++ R).length:=by simp; omega
  rw [e0,ew]
  refine af.g1 rfl (af.idx (by omega) b1 (af.g1 rfl (af.idx (by omega) b2 ?_)))
  rw [ej,ej1]
  obtain ⟨c,hc,hcc⟩:=ord1 (F:=F) (lv:=lv) hx hy
  refine af.g1 rfl (af.bp hc ?_)
  rw [hcc,Bool.true_and]
  have hkk:=jB (lv:=lv) (x:=x) (y:=y) ⟨hx.1,hx.2.2⟩ ⟨hy.1,hy.2.2⟩
  have hkk':=jB (lv:=lv) (x:=y) (y:=x) ⟨hy.1,hy.2.2⟩ ⟨hx.1,hx.2.2⟩
  refine af.ite (fun h=>?_) (fun h=>?_)
  ·have h:=of_decide_eq_true h
   refine af.idx (by omega) b2 (af.idx (by omega) b1 (af.idx (by omega) b1 (af.idx (by omega) (by rw [List.length_set]; exact b2) (af.some (.inl ⟨_,rfl,⟨S1',y :: S2,by rw [e]; simp,by simp [hl],?_,rfl,fun s hs=>?_⟩,?_⟩)))))
   ·rw [ej,ej1]
    have:A ++ S1'.concat y ++ x :: S2 ++ R = (A ++ S1') ++ y :: x :: (S2 ++ R):=by simp
    rw [this,swp (by simp; omega) (by simp; omega)]; simp
   ·rcases List.mem_cons.1 hs with rfl | hs
    ·exact hkk.2 (.inl h)
    ·exact hS2 s hs
   ·have:=congrArg List.length e; simp at this; omega
  ·have h:=of_decide_eq_false h
   refine af.some (.inr ⟨_,rfl,S1'.concat y ++ x :: S2,by simp,?_,?_⟩)
   ·have hyx:KK lv y < KK lv x:=hkk'.2 (by
     have:=hok y hyS x (by simp)
     omega)
    rw [e] at hS
    have hS':=List.pairwise_append.1 hS
    refine List.pairwise_append.2 ⟨hS'.1,List.pairwise_cons.2 ⟨hS2,hS'.2.1⟩,fun p hp q hq=>?_⟩
    rcases List.mem_cons.1 hq with rfl | hq
    ·rw [List.concat_eq_append] at hp hS'
     rcases List.mem_append.1 hp with hp | hp
     ·have:=(List.pairwise_append.1 hS'.1).2.2 p hp y (by simp); omega
     ·rw [List.mem_singleton.1 hp]; exact hyx
    ·exact hS'.2.2 p hp q hq
   ·rw [e]
    have:(S1'.concat y ++ x :: S2).Perm (x :: (S1'.concat y ++ S2)):=List.perm_middle
    exact this.trans (List.perm_append_singleton x _).symm
abbrev Stb (lv l:List Int):Prop:=l.Pairwise fun a b=>kv lv a = kv lv b → a < b
theorem rG {F:Nat} {lv A M B:List Int} {a b:Int} (ha:a = A.length) (hb:b = a + M.length) (hA:A.length + M.length ≤ 1000000) (hF:M.length < F) (hst:Stb lv M) (hin:rD lv M) {d:List Int} (hd:d = A ++ M ++ B) :
  af (aP F a b lv d) fun d'=>∃ S,d' = A ++ S ++ B ∧ SK lv S ∧ S.Perm M:=by
 unfold aP
 subst ha hb hd
 rw [bW (by omega) (by omega)]
 refine af.bind (P:=fun d'=>∃ S,d' = A ++ S ++ B ∧ SK lv S ∧ S.Perm M) ?_ fun _ h=>af.some h
 cases M with
 | nil=>
  refine af.rounds (n:=0) (I:=fun k z=>z.1 = A ++ [] ++ B ∧ z.2 = (A.length:Int) + 1) (by omega) ⟨rfl,rfl⟩ ?_
  rintro k ⟨d,i⟩ hk ⟨rfl,rfl⟩
  exact af.iff (by simp; omega) (af.some (.inr ⟨_,rfl,[],rfl,by simp,.refl _⟩))
 | cons x0 M'=>
  refine af.rounds (n:=M'.length) (I:=fun k z=>∃ S0 R S,x0 :: M' = S0 ++ R ∧ S0.length = k + 1 ∧ S.Perm S0 ∧ SK lv S ∧ z.1 = A ++ S ++ (R ++ B) ∧ z.2 = (A.length:Int) + 1 + k) (by simp at hF; omega) ⟨[x0],M',[x0],rfl,rfl,.refl _,by simp,by simp,by simp⟩ ?_
  rintro k ⟨d,i⟩ hk ⟨S0,R,S,e,h0,hp,hs,hd,hi⟩
  simp only at hd hi
  subst hd hi
  simp only [bL]
  have hSl:=hp.length_eq
  have hel:=congrArg List.length e
  simp only [List.length_cons,List.length_append] at hel hA hF
  cases R with
  | nil=>
   refine af.iff (by simp at hel ⊢; omega) (af.some (.inr ⟨_,rfl,S,by simp,hs,?_⟩))
   rw [e,List.append_nil]; exact hp
  | cons x R=>
   rw [List.length_cons] at hel
   refine af.qw (by simp; omega) ?_
   have hst':=List.pairwise_append.1 (e ▸ hst)
   refine af.bind (P:=fun d'=>∃ S',d' = A ++ S' ++ (R ++ B) ∧ SK lv S' ∧ S'.Perm (S ++ [x])) (af.bind (insOne (lv:=lv) (A:=A) (S:=S) (R:=R ++ B) (x:=x) rfl (by omega) (by omega) hs (fun s hs' y hy=>?_) (fun s hs'=>hin s (by rw [e]; simp [hp.mem_iff.1 hs'])) (hin x (by rw [e]; simp)) (by omega) (by simp)) fun d' h=>af.some h) ?_
   ·rw [List.mem_singleton.1 hy]
    exact hst'.2.2 s (hp.mem_iff.1 hs') x (by simp)
   ·rintro d' ⟨S',rfl,hs',hp'⟩
    refine af.some (.inl ⟨_,rfl,⟨S0 ++ [x],R,S',by rw [e]; simp,by simp [h0],hp'.trans (hp.append_right [x]),hs',rfl,?_⟩,by omega⟩)
    simp only; rw [bW (by omega) (by omega)]; push_cast; omega
theorem rJ {F:Nat} {lv A X M Y B:List Int} {a b n:Int} (ha:a = A.length) (hb:b = a + X.length + M.length) (hn:n = X.length) (hXY:X.length = Y.length) (hF:X.length < F) (hL:A.length + X.length + M.length + Y.length ≤ 1000000) {d:List Int} (hd:d = A ++ X ++ M ++ Y ++ B) :
  bq F a b n lv d = some (A ++ Y ++ M ++ X ++ B):=by
 refine af.eq ?_
 unfold bq
 subst ha hb hn hd
 refine af.bind (P:=(· = A ++ Y ++ M ++ X ++ B)) ?_ (by rintro _ rfl; exact af.some rfl)
 refine af.rounds (n:=X.length) (I:=fun k z=>z.2 = (k:Int) ∧ ∃ X1 X2 Y1 Y2,X = X1 ++ X2 ∧ Y = Y1 ++ Y2 ∧ X1.length = k ∧ Y1.length = k ∧ z.1 = A ++ Y1 ++ X2 ++ M ++ X1 ++ Y2 ++ B) hF ⟨rfl,[],X,[],Y,rfl,rfl,rfl,rfl,by simp⟩ ?_
 rintro k ⟨d,i⟩ hk ⟨hi,X1,X2,Y1,Y2,eX,eY,l1,l2,hd⟩
 simp only at hi hd
 subst hi hd
 simp only [bL]
 have hXl:=congrArg List.length eX
 have hYl:=congrArg List.length eY
 rw [List.length_append] at hXl hYl
 cases X2 with
 | nil=>
  have:Y2 = []:=List.eq_nil_of_length_eq_zero (by simp at hXl; omega)
  subst this
  refine af.iff (by simp at hXl ⊢; omega) (af.some (.inr ⟨_,rfl,?_⟩))
  rw [eX,eY]; simp
 | cons x X2=>
  cases Y2 with
  | nil=>simp at hXl hYl; omega
  | cons y Y2=>
   rw [List.length_cons] at hXl hYl
   have w1:IntKind.i64.wrap ((A.length:Int) + X.length + M.length + k) = ((A.length + X.length + M.length + k:Nat):Int):=by rw [bW (by omega) (by omega)]; push_cast; rfl
   have w2:IntKind.i64.wrap ((A.length:Int) + k) = ((A.length + k:Nat):Int):=by rw [bW (by omega) (by omega)]; push_cast; rfl
   have f1:A ++ Y1 ++ x :: X2 ++ M ++ X1 ++ y :: Y2 ++ B = (A ++ Y1 ++ x :: X2 ++ M ++ X1) ++ y :: (Y2 ++ B):=by simp
   have f2:A ++ Y1 ++ x :: X2 ++ M ++ X1 ++ y :: Y2 ++ B = (A ++ Y1) ++ x :: (X2 ++ M ++ X1 ++ y :: Y2 ++ B):=by simp
   have g1:idx (A ++ Y1 ++ x :: X2 ++ M ++ X1 ++ y :: Y2 ++ B) ((A.length + X.length + M.length + k:Nat):Int) = y:=by
    rw [f1]; exact fo (by simp; omega)
   have g2:idx (A ++ Y1 ++ x :: X2 ++ M ++ X1 ++ y :: Y2 ++ B) ((A.length + k:Nat):Int) = x:=by
    rw [f2]; exact fo (by simp; omega)
   refine af.qw (by simp; omega) ?_
   rw [w1,w2]
   refine af.idx (by omega) (by simp; omega) (af.idx (by omega) (by simp; omega) (af.idx (by omega) (by simp; omega) (af.idx (by omega) (by simp; omega) (af.some (.inl ⟨_,rfl,⟨?_,X1 ++ [x],X2,Y1 ++ [y],Y2,by rw [eX]; simp,by rw [eY]; simp,by simp [l1],by simp [l2],?_⟩,by omega⟩)))))
   ·simp only; rw [bW (by omega) (by omega)]; push_cast; rfl
   ·simp only
    rw [g1,g2,f2,lJ (by simp; omega)]
    have f3:(A ++ Y1) ++ y :: (X2 ++ M ++ X1 ++ y :: Y2 ++ B) = (A ++ Y1 ++ y :: X2 ++ M ++ X1) ++ y :: (Y2 ++ B):=by simp
    rw [f3,lJ (by simp; omega)]; simp
theorem rot {F:Nat} {lv A X Y B:List Int} {a m b:Int} (ha:a = A.length) (hm:m = a + X.length) (hb:b = m + Y.length) (hX:X ≠ []) (hY:Y ≠ []) (hF:X.length + Y.length < F) (hL:A.length + X.length + Y.length ≤ 1000000) {d:List Int} (hd:d = A ++ X ++ Y ++ B) :
  cr F a m b lv d = some (A ++ Y ++ X ++ B):=by
 refine af.eq ?_
 unfold cr
 subst ha hm hb hd
 have hX0:=List.length_pos_iff.2 hX
 have hY0:=List.length_pos_iff.2 hY
 rw [show IntKind.i64.wrap ((A.length:Int) + X.length - A.length) = (X.length:Int) by rw [bW (by omega) (by omega)]; omega,show IntKind.i64.wrap ((A.length:Int) + X.length + Y.length - ((A.length:Int) + X.length)) = (Y.length:Int) by rw [bW (by omega) (by omega)]; omega]
 refine af.bind (P:=fun z=>∃ A1 X1 Y1 B1,A1 ++ Y1 ++ X1 ++ B1 = A ++ Y ++ X ++ B ∧ z.1 = A1 ++ X1 ++ Y1 ++ B1 ∧ z.2 = (X1.length:Int) ∧ X1.length = Y1.length ∧ A1.length + X1.length = A.length + X.length ∧ X1.length ≤ X.length + Y.length ∧ A1.length + X1.length + Y1.length ≤ 1000000) ?_ ?_
 ·refine af.loop (fun z=>∃ A1 X1 Y1 B1,A1 ++ Y1 ++ X1 ++ B1 = A ++ Y ++ X ++ B ∧ z.1 = A1 ++ X1 ++ Y1 ++ B1 ∧ z.2.1 = (X1.length:Int) ∧ z.2.2 = (Y1.length:Int) ∧ 0 < X1.length ∧ 0 < Y1.length ∧ A1.length + X1.length = A.length + X.length ∧ X1.length + Y1.length ≤ X.length + Y.length ∧ A1.length + X1.length + Y1.length ≤ 1000000) (fun z=>(z.2.1 + z.2.2).toNat) ⟨A,X,Y,B,rfl,rfl,rfl,rfl,hX0,hY0,rfl,by omega,by omega⟩ (by simp only; omega) ?_
  rintro ⟨d,i,j⟩ ⟨A1,X1,Y1,B1,e,hd,hi,hj,h1,h2,h3,h4,h5⟩
  simp only at hd hi hj
  subst hd hi hj
  simp only [ku]
  refine af.ite (fun hc=>?_) (fun hc=>?_)
  ·have hne:(X1.length:Int) ≠ Y1.length:=of_decide_eq_true hc
   have w1:IntKind.i64.wrap ((A.length:Int) + X.length - X1.length) = (A1.length:Int):=by rw [bW (by omega) (by omega)]; omega
   refine af.ite (fun hc=>?_) (fun hc=>?_)
   ·have hlt:=of_decide_eq_true hc
    have hx:X1 = X1.take Y1.length ++ X1.drop Y1.length:=(List.take_append_drop _ _).symm
    have hxt:(X1.take Y1.length).length = Y1.length:=by rw [List.length_take]; omega
    have hxd:(X1.drop Y1.length).length = X1.length - Y1.length:=by rw [List.length_drop]
    rw [w1]
    refine af.bp (rJ (A:=A1) (X:=X1.take Y1.length) (M:=X1.drop Y1.length) (Y:=Y1) (B:=B1) rfl (by omega) (by omega) hxt (by omega) (by omega) (by rw [List.append_assoc A1 (List.take _ X1),List.take_append_drop])) (af.some (.inl ⟨_,rfl,⟨A1 ++ Y1,X1.drop Y1.length,X1.take Y1.length,B1,?_,by simp only,?_,?_,by omega,by omega,by rw [List.length_append]; omega,by omega,by rw [List.length_append]; omega⟩,?_⟩))
    ·rw [← e]; rw [List.append_assoc (A1 ++ Y1),List.take_append_drop]
    ·simp only; rw [bW (by omega) (by omega)]; omega
    ·simp only; omega
    ·simp only; rw [bW (by omega) (by omega)]; omega
   ·have hge:=of_decide_eq_false hc
    have hy:Y1 = Y1.take (Y1.length - X1.length) ++ Y1.drop (Y1.length - X1.length):=(List.take_append_drop _ _).symm
    have hyt:(Y1.take (Y1.length - X1.length)).length = Y1.length - X1.length:=by rw [List.length_take]; omega
    have hyd:(Y1.drop (Y1.length - X1.length)).length = X1.length:=by rw [List.length_drop]; omega
    have w2:IntKind.i64.wrap (IntKind.i64.wrap ((A.length:Int) + X.length + Y1.length) - X1.length) = (A.length:Int) + X.length + Y1.length - X1.length:=by rw [bW (z:=_ + (Y1.length:Int)) (by omega) (by omega),bW (by omega) (by omega)]
    rw [w1]
    refine af.lnE _ w2 (af.bp (rJ (A:=A1) (X:=X1) (M:=Y1.take (Y1.length - X1.length)) (Y:=Y1.drop (Y1.length - X1.length)) (B:=B1) rfl (by omega) (by omega) (by omega) (by omega) (by omega) (by rw [List.append_assoc (A1 ++ X1) (List.take _ Y1),List.take_append_drop])) (af.some (.inl ⟨_,rfl,⟨A1,Y1.drop (Y1.length - X1.length),Y1.take (Y1.length - X1.length),X1 ++ B1,?_,by simp,?_,?_,by omega,by omega,by omega,by omega,by omega⟩,?_⟩)))
    ·rw [← e,List.append_assoc A1 (Y1.take _),List.take_append_drop]; simp
    ·simp only; omega
    ·simp only; rw [bW (by omega) (by omega)]; omega
    ·simp only; rw [bW (by omega) (by omega)]; omega
  ·have heq:(X1.length:Int) = Y1.length:=by simpa using hc
   exact af.some (.inr ⟨_,rfl,A1,X1,Y1,B1,e,rfl,rfl,by omega,h3,by omega,h5⟩)
 ·rintro ⟨d,i⟩ ⟨A1,X1,Y1,B1,e,hd,hi,h1,h3,h4,h5⟩
  simp only at hd hi
  subst hd hi
  simp only [bL]
  have w1:IntKind.i64.wrap ((A.length:Int) + X.length - X1.length) = (A1.length:Int):=by rw [bW (by omega) (by omega)]; omega
  rw [w1]
  refine af.bp (rJ (A:=A1) (X:=X1) (M:=[]) (Y:=Y1) (B:=B1) rfl (by simp; omega) rfl h1 (by omega) (by simp; omega) (by simp)) (af.some ?_)
  rw [← e]; simp
theorem half {i j:Int} (h0:0 ≤ i) (h1:i ≤ 10000000) (h2:0 ≤ j) (h3:j ≤ 10000000):IntKind.u64.wrap (IntKind.i64.wrap (i + j)) = i + j ∧ IntKind.i64.wrap ((i + j) / 2) = (i + j) / 2:=by
 rw [bW (by omega) (by omega),bW (by omega) (by omega),wu64]
 exact ⟨by omega,rfl⟩
theorem bsr {F:Nat} {body:Int × Int → Option ((Int × Int) ⊕ Int)} {p:Int → Bool} {lo hi:Int} (h0:lo ≤ hi) (hF:(hi - lo).toNat < F)
  (hb:∀ i j,lo ≤ i → i ≤ j → j ≤ hi → body (i,j) = if i < j then (if p ((i + j) / 2) = true then some (.inl ((i + j) / 2 + 1,j)) else some (.inl (i,(i + j) / 2))) else some (.inr i)) :
  af (iter F body (lo,hi)) fun s=>lo ≤ s ∧ s ≤ hi ∧ (s = lo ∨ p (s - 1) = true) ∧ (s = hi ∨ p s = false):=by
 refine af.loop (fun z=>lo ≤ z.1 ∧ z.1 ≤ z.2 ∧ z.2 ≤ hi ∧ (z.1 = lo ∨ p (z.1 - 1) = true) ∧ (z.2 = hi ∨ p z.2 = false)) (fun z=>(z.2 - z.1).toNat) ⟨Int.le_refl _,h0,Int.le_refl _,.inl rfl,.inl rfl⟩ hF ?_
 rintro ⟨i,j⟩ ⟨h1,h2,h3,h4,h5⟩
 simp only at h1 h2 h3 h4 h5
 rw [hb i j h1 h2 h3]
 by_cases c:i < j
 ·rw [if_pos c]
  by_cases cp:p ((i + j) / 2) = true
  ·rw [if_pos cp]
   refine af.some (.inl ⟨_,rfl,⟨by simp only; omega,by simp only; omega,h3,.inr ?_,h5⟩,by simp only; omega⟩)
   simp only; rw [show (i + j) / 2 + 1 - 1 = (i + j) / 2 by omega]; exact cp
  ·rw [if_neg cp]
   exact af.some (.inl ⟨_,rfl,⟨h1,by simp only; omega,by simp only; omega,h4,.inr (by simpa using cp)⟩,by simp only; omega⟩)
 ·rw [if_neg c]
  have:i = j:=by omega
  subst this
  exact af.some (.inr ⟨_,rfl,h1,h3,h4,h5⟩)
theorem goUp {F:Nat} {A M B:List Int} {x a e:Int} (ha:a = A.length) (he:e = a + M.length) (hF:M.length < F) (hL:A.length + M.length ≤ 1000000) {d:List Int} (hd:d = A ++ x :: M ++ B) :
  af (iter F (bL fun data_11 k_12=>if (decide (k_12 < e)) = true then (Option.bind (av data_11 (IntKind.i64.wrap (k_12 + 1))) (fun x_14=>Option.bind (av data_11 k_12) (fun x_15=>Option.bind (av data_11 k_12) (fun x_16=>Option.bind (av (data_11.set (k_12:Int).toNat x_14) (IntKind.i64.wrap (k_12 + 1))) (fun x_17=>some (.inl ((data_11.set (k_12:Int).toNat x_14).set (IntKind.i64.wrap (k_12 + 1):Int).toNat x_15,IntKind.i64.wrap (k_12 + 1)))))))) else (some (.inr data_11))) (d,a)) (· = A ++ M ++ x :: B):=by
 subst ha he hd
 refine af.rounds (n:=M.length) (I:=fun k z=>z.2 = (A.length:Int) + k ∧ ∃ M1 M2,M = M1 ++ M2 ∧ M1.length = k ∧ z.1 = A ++ M1 ++ x :: M2 ++ B) hF ⟨by simp,[],M,rfl,rfl,by simp⟩ ?_
 rintro k ⟨d,i⟩ hk ⟨hi,M1,M2,e,hl,hd⟩
 simp only at hi hd
 subst hi hd
 simp only [bL]
 have hel:=congrArg List.length e
 rw [List.length_append] at hel
 cases M2 with
 | nil=>
  refine af.iff (by simp at hel ⊢; omega) (af.some (.inr ⟨_,rfl,?_⟩))
  rw [e]; simp
 | cons y M2=>
  rw [List.length_cons] at hel
  have w1:IntKind.i64.wrap ((A.length:Int) + k + 1) = (A.length:Int) + k + 1:=bW (by omega) (by omega)
  have f1:A ++ M1 ++ x :: y :: M2 ++ B = (A ++ M1) ++ x :: (y :: M2 ++ B):=by simp
  have f2:A ++ M1 ++ x :: y :: M2 ++ B = (A ++ M1 ++ [x]) ++ y :: (M2 ++ B):=by simp
  have g1:idx (A ++ M1 ++ x :: y :: M2 ++ B) ((A.length:Int) + k) = x:=by rw [f1]; exact fo (by simp; omega)
  have g2:idx (A ++ M1 ++ x :: y :: M2 ++ B) ((A.length:Int) + k + 1) = y:=by rw [f2]; exact fo (by simp; omega)
  refine af.qw (by simp; omega) ?_
  rw [w1]
  refine af.idx (by omega) (by simp; omega) (af.idx (by omega) (by simp; omega) (af.idx (by omega) (by simp; omega) (af.idx (by omega) (by simp; omega) (af.some (.inl ⟨_,rfl,⟨by push_cast; omega,M1 ++ [y],M2,by rw [e]; simp,by simp [hl],?_⟩,by omega⟩)))))
  rw [g1,g2]
  have f3:A ++ M1 ++ x :: y :: M2 ++ B = (A ++ M1) ++ x :: y :: (M2 ++ B):=by simp
  rw [f3,swp' (by simp; omega) (by omega)]; simp
theorem goDown {F:Nat} {A M B:List Int} {x a e:Int} (ha:a = A.length) (he:e = a + M.length) (hF:M.length < F) (hL:A.length + M.length ≤ 1000000) {d:List Int} (hd:d = A ++ M ++ x :: B) :
  af (iter F (bL fun data_28 k_29=>if (decide (a < k_29)) = true then (Option.bind (av data_28 (IntKind.i64.wrap (k_29 - 1))) (fun x_31=>Option.bind (av data_28 k_29) (fun x_32=>Option.bind (av data_28 k_29) (fun x_33=>Option.bind (av (data_28.set (k_29:Int).toNat x_31) (IntKind.i64.wrap (k_29 - 1))) (fun x_34=>some (.inl ((data_28.set (k_29:Int).toNat x_31).set (IntKind.i64.wrap (k_29 - 1):Int).toNat x_32,IntKind.i64.wrap (k_29 - 1)))))))) else (some (.inr data_28))) (d,e)) (· = A ++ x :: M ++ B):=by
 subst ha he hd
 refine af.rounds (n:=M.length) (I:=fun k z=>z.2 = (A.length:Int) + M.length - k ∧ ∃ M1 M2,M = M1 ++ M2 ∧ M2.length = k ∧ z.1 = A ++ M1 ++ x :: M2 ++ B) hF ⟨by simp,M,[],by simp,rfl,by simp⟩ ?_
 rintro k ⟨d,i⟩ hk ⟨hi,M1,M2,e,hl,hd⟩
 simp only at hi hd
 subst hi hd
 simp only [bL]
 have hel:=congrArg List.length e
 rw [List.length_append] at hel
 rcases List.eq_nil_or_concat M1 with rfl | ⟨M1',y,rfl⟩
 ·refine af.iff (by simp at hel ⊢; omega) (af.some (.inr ⟨_,rfl,?_⟩))
  rw [e]; simp
 ·simp only [List.length_concat] at hel
  have w1:IntKind.i64.wrap ((A.length:Int) + M.length - k - 1) = (A.length:Int) + M.length - k - 1:=bW (by omega) (by omega)
  have f1:A ++ M1'.concat y ++ x :: M2 ++ B = (A ++ M1') ++ y :: (x :: M2 ++ B):=by simp
  have f2:A ++ M1'.concat y ++ x :: M2 ++ B = (A ++ M1' ++ [y]) ++ x :: (M2 ++ B):=by simp
  have g1:idx (A ++ M1'.concat y ++ x :: M2 ++ B) ((A.length:Int) + M.length - k - 1) = y:=by rw [f1]; exact fo (by simp; omega)
  have g2:idx (A ++ M1'.concat y ++ x :: M2 ++ B) ((A.length:Int) + M.length - k) = x:=by rw [f2]; exact fo (by simp; omega)
  refine af.qw (by simp; omega) ?_
  rw [w1]
  refine af.idx (by omega) (by simp; omega) (af.idx (by omega) (by simp; omega) (af.idx (by omega) (by simp; omega) (af.idx (by omega) (by simp; omega) (af.some (.inl ⟨_,rfl,⟨by push_cast; omega,M1',y :: M2,by rw [e]; simp,by simp [hl],?_⟩,by omega⟩)))))
  rw [g1,g2]
  have f3:A ++ M1'.concat y ++ x :: M2 ++ B = (A ++ M1') ++ y :: x :: (M2 ++ B):=by simp
  rw [f3,swp (by simp; omega) (by omega)]; simp
theorem cut {α:Type} (l:List α) {n:Nat} (h:n ≤ l.length):∃ P Q,l = P ++ Q ∧ P.length = n :=
 ⟨l.take n,l.drop n,(List.take_append_drop _ _).symm,by rw [List.length_take]; omega⟩
theorem lj {lv P Q:List Int} (h:SK lv (P ++ Q)):SK lv P ∧ SK lv Q ∧ ∀ p ∈ P,∀ q ∈ Q,KK lv p < KK lv q:=List.pairwise_append.1 h
theorem jZ {lv P Q:List Int} (hP:SK lv P) (hQ:SK lv Q) (h:P = [] ∨ Q = [] ∨ ∃ P' p q Q',P = P' ++ [p] ∧ Q = q :: Q' ∧ KK lv p < KK lv q):∀ p ∈ P,∀ q ∈ Q,KK lv p < KK lv q:=by
 rcases h with rfl | rfl | ⟨P',p,q,Q',rfl,rfl,hpq⟩
 ·intro p hp; cases hp
 ·intro p _ q hq; cases hq
 ·intro u hu v hv
  have h1:KK lv u ≤ KK lv p:=by
   rcases List.mem_append.1 hu with hu | hu
   ·exact Int.le_of_lt ((List.pairwise_append.1 hP).2.2 u hu p (by simp))
   ·rw [List.mem_singleton.1 hu]; exact Int.le_refl _
  have h2:KK lv q ≤ KK lv v:=by
   rcases List.mem_cons.1 hv with rfl | hv
   ·exact Int.le_refl _
   ·exact Int.le_of_lt ((List.pairwise_cons.1 hQ).1 v hv)
  omega
theorem pY {lv:List Int} {x y:Int} (hx:0 ≤ x ∧ x < lv.length ∧ x < 1000000) (hy:0 ≤ y ∧ y < lv.length ∧ y < 1000000) (h:kv lv x = kv lv y → x < y):(kv lv y < kv lv x → KK lv y < KK lv x) ∧ (¬ kv lv y < kv lv x → KK lv x < KK lv y):=by
 have h1:=jB (lv:=lv) (x:=y) (y:=x) ⟨hy.1,hy.2.2⟩ ⟨hx.1,hx.2.2⟩
 have h2:=jB (lv:=lv) (x:=x) (y:=y) ⟨hx.1,hx.2.2⟩ ⟨hy.1,hy.2.2⟩
 refine ⟨fun h=>h1.2 (.inl h),fun h'=>h2.2 ?_⟩
 omega
theorem rD.get {lv l:List Int} (h:rD lv l) {x:Int} (hx:x ∈ l):0 ≤ x ∧ x < lv.length ∧ x < 1000000:=h x hx
set_option maxHeartbeats 2000000 in
theorem symM {F:Nat} {lv:List Int} (hFF:F ≤ 10000000):∀ (n:Nat) {A L1 L2 B d:List Int} {a m b:Int},a = A.length → m = a + L1.length → b = m + L2.length → L1 ≠ [] → L2 ≠ [] → L1.length + L2.length ≤ n → L1.length + L2.length + 2 < F → A.length + L1.length + L2.length ≤ 1000000 →
  d = A ++ L1 ++ L2 ++ B → SK lv L1 → SK lv L2 → rD lv L1 → rD lv L2 → Ok2 lv L1 L2 → af (bj F n a m b lv d) fun d'=>∃ L,d' = A ++ L ++ B ∧ SK lv L ∧ L.Perm (L1 ++ L2)
 | 0,A,L1,L2,B,d,a,m,b,ha,hm,hb,h1,h2,hn,hF,hL,hd,s1,s2,i1,i2,ok=>by
  have:=List.length_pos_iff.2 h1; omega
 | n + 1,A,L1,L2,B,d,a,m,b,ha,hm,hb,h1,h2,hn,hF,hL,hd,s1,s2,i1,i2,ok=>by
  have p1:=List.length_pos_iff.2 h1
  have p2:=List.length_pos_iff.2 h2
  have dl:d.length = A.length + L1.length + L2.length + B.length:=by rw [hd]; simp; omega
  unfold bj
  rw [show IntKind.i64.wrap (m - a) = (L1.length:Int) by rw [bW (by omega) (by omega)]; omega,show IntKind.i64.wrap (b - m) = (L2.length:Int) by rw [bW (by omega) (by omega)]; omega]
  by_cases c1:L1.length = 1
  ·obtain ⟨x,rfl⟩:=List.length_eq_one_iff.1 c1
   have hx:=i1 x (by simp)
   have dx:idx d a = x:=by
    have:d = A ++ x :: (L2 ++ B):=by rw [hd]; simp
    rw [this]; exact fo ha
   have dm:∀ P y Q,L2 = P ++ y :: Q → idx d (m + P.length) = y:=fun P y Q e=>by
    have:d = (A ++ [x] ++ P) ++ y :: (Q ++ B):=by rw [hd,e]; simp
    rw [this]; exact fo (by simp at hm ⊢; omega)
   refine af.bind (P:=fun o=>∃ L,o = .inr (A ++ L ++ B) ∧ SK lv L ∧ L.Perm ([x] ++ L2)) (af.qw (by simp) ?_) (by rintro o ⟨L,rfl,hs,hp⟩; exact af.some ⟨L,rfl,hs,hp⟩)
   have hmem:∀ h:Int,m ≤ h → h < b → idx d h ∈ L2:=fun h q1 q2=>by
    obtain ⟨P,Q,e,hl⟩:=cut L2 (n:=(h - m).toNat) (by omega)
    cases Q with
    | nil=>have:=congrArg List.length e; simp at this; omega
    | cons y Q=>
     have:=dm P y Q e
     rw [show m + (P.length:Int) = h by omega] at this
     rw [this,e]; simp
   refine af.bind (bsr (p:=fun h=>decide (kv lv (idx d h) < kv lv x)) (by omega) (by omega) fun i j q1 q2 q3=>?_) ?_
   ·simp only [bL]
    by_cases c:i < j
    ·rw [if_pos (by simpa using c),if_pos c]
     obtain ⟨w1,w2⟩:=half (i:=i) (j:=j) (by omega) (by omega) (by omega) (by omega)
     simp only [dq]
     rw [w1,w2,dt (by omega) (by omega),dt (by omega) (by omega),dx]
     simp only [Option.bind_some]
     obtain ⟨cc,hc,hcc⟩:=ord1 (F:=F) (lv:=lv) (i2 _ (hmem ((i + j) / 2) (by omega) (by omega))) hx
     rw [hc]
     simp only [Option.bind_some]
     rw [hcc,bW (z:=(i + j) / 2 + 1) (by omega) (by omega)]
    ·rw [if_neg (by simpa using c),if_neg c]
   ·rintro s ⟨b1,b2,b3,b4⟩
    obtain ⟨P,Q,e,hl⟩:=cut L2 (n:=(s - m).toNat) (by omega)
    have hel:=congrArg List.length e
    rw [List.length_append] at hel
    have hw:IntKind.i64.wrap (s - 1) = s - 1:=bW (by omega) (by omega)
    rw [hw]
    simp only [List.length_cons,List.length_nil] at *
    have hd':d = A ++ x :: P ++ (Q ++ B):=by rw [hd,e]; simp
    refine af.bind (goUp (A:=A) (M:=P) (B:=Q ++ B) (x:=x) ha (by omega) (by omega) (by omega) hd') ?_
    rintro _ rfl
    refine af.some ⟨P ++ x :: Q,by simp,?_,?_⟩
    ·obtain ⟨t1,t2,t3⟩:=lj (e ▸ s2)
     have u1:∀ p ∈ P,KK lv p < KK lv x:=fun p hp=>by
      refine jZ (P:=P) (Q:=[x]) t1 (by simp) ?_ p hp x (by simp)
      rcases List.eq_nil_or_concat P with rfl | ⟨P',y,rfl⟩
      ·exact .inl rfl
      ·refine .inr (.inr ⟨P',y,x,[],by simp,rfl,?_⟩)
       rcases b3 with b3 | b3
       ·simp at hl; omega
       ·have hy:idx d (s - 1) = y:=by
         have:=dm P' y Q (by rw [e]; simp)
         rw [show m + (P'.length:Int) = s - 1 by simp at hl; omega] at this
         exact this
        rw [hy] at b3
        exact (jB (lv:=lv) ⟨(i2 y (by rw [e]; simp)).1,(i2 y (by rw [e]; simp)).2.2⟩ ⟨hx.1,hx.2.2⟩).2 (.inl (of_decide_eq_true b3))
     have u2:∀ q ∈ Q,KK lv x < KK lv q:=fun q hq=>by
      refine jZ (P:=[x]) (Q:=Q) (by simp) t2 ?_ x (by simp) q hq
      cases Q with
      | nil=>exact .inr (.inl rfl)
      | cons y Q=>
       refine .inr (.inr ⟨[],x,y,Q,rfl,rfl,?_⟩)
       rcases b4 with b4 | b4
       ·simp at hel; omega
       ·have hy:idx d s = y:=by
         have:=dm P y Q e
         rw [show m + (P.length:Int) = s by omega] at this
         exact this
        rw [hy] at b4
        exact (pY hx (i2 y (by rw [e]; simp)) (ok x (by simp) y (by rw [e]; simp))).2 (of_decide_eq_false b4)
     refine List.pairwise_append.2 ⟨t1,List.pairwise_cons.2 ⟨u2,t2⟩,fun p hp q hq=>?_⟩
     rcases List.mem_cons.1 hq with rfl | hq
     ·exact u1 p hp
     ·exact t3 p hp q hq
    ·rw [e]; exact List.perm_middle
  ·refine af.bind (P:=(· = .inl ())) (af.iff (by simp; omega) (af.some rfl)) ?_
   rintro o rfl
   simp only [fH]
   by_cases c2:L2.length = 1
   ·obtain ⟨x,rfl⟩:=List.length_eq_one_iff.1 c2
    have hx:=i2 x (by simp)
    have dx:idx d m = x:=by
     have:d = (A ++ L1) ++ x :: B:=by rw [hd]; simp
     rw [this]; exact fo (by simp; omega)
    have dm:∀ P y Q,L1 = P ++ y :: Q → idx d (a + P.length) = y:=fun P y Q e=>by
     have:d = (A ++ P) ++ y :: (Q ++ [x] ++ B):=by rw [hd,e]; simp
     rw [this]; exact fo (by simp; omega)
    refine af.bind (P:=fun o=>∃ L,o = .inr (A ++ L ++ B) ∧ SK lv L ∧ L.Perm (L1 ++ [x])) (af.qw (by simp) ?_) (by rintro o ⟨L,rfl,hs,hp⟩; exact af.some ⟨L,rfl,hs,hp⟩)
    have hmem:∀ h:Int,a ≤ h → h < m → idx d h ∈ L1:=fun h q1 q2=>by
     obtain ⟨P,Q,e,hl⟩:=cut L1 (n:=(h - a).toNat) (by omega)
     cases Q with
     | nil=>have:=congrArg List.length e; simp at this; omega
     | cons y Q=>
      have:=dm P y Q e
      rw [show a + (P.length:Int) = h by omega] at this
      rw [this,e]; simp
    refine af.bind (bsr (p:=fun h=>!decide (kv lv x < kv lv (idx d h))) (by omega) (by omega) fun i j q1 q2 q3=>?_) ?_
    ·simp only [bL]
     by_cases c:i < j
     ·rw [if_pos (by simpa using c),if_pos c]
      obtain ⟨w1,w2⟩:=half (i:=i) (j:=j) (by omega) (by omega) (by omega) (by omega)
      simp only [dq]
      rw [w1,w2,dt (i:=m) (by omega) (by omega),dt (i:=(i + j) / 2) (by omega) (by omega),dx]
      simp only [Option.bind_some]
      obtain ⟨cc,hc,hcc⟩:=ord1 (F:=F) (lv:=lv) hx (i1 _ (hmem ((i + j) / 2) (by omega) (by omega)))
      rw [hc]
      simp only [Option.bind_some]
      rw [hcc,bW (z:=(i + j) / 2 + 1) (by omega) (by omega)]
     ·rw [if_neg (by simpa using c),if_neg c]
    ·rintro s ⟨b1,b2,b3,b4⟩
     obtain ⟨P,Q,e,hl⟩:=cut L1 (n:=(s - a).toNat) (by omega)
     have hel:=congrArg List.length e
     rw [List.length_append] at hel
     have hd':d = (A ++ P) ++ Q ++ x :: B:=by rw [hd,e]; simp
     refine af.bind (goDown (A:=A ++ P) (M:=Q) (B:=B) (x:=x) (by rw [List.length_append]; omega) (by omega) (by omega) (by rw [List.length_append]; omega) hd') ?_
     rintro _ rfl
     refine af.some ⟨P ++ x :: Q,by simp,?_,?_⟩
     ·obtain ⟨t1,t2,t3⟩:=lj (e ▸ s1)
      have u1:∀ p ∈ P,KK lv p < KK lv x:=fun p hp=>by
       refine jZ (P:=P) (Q:=[x]) t1 (by simp) ?_ p hp x (by simp)
       rcases List.eq_nil_or_concat P with rfl | ⟨P',y,rfl⟩
       ·exact .inl rfl
       ·refine .inr (.inr ⟨P',y,x,[],by simp,rfl,?_⟩)
        rcases b3 with b3 | b3
        ·simp at hl; omega
        ·have hy:idx d (s - 1) = y:=by
          have:=dm P' y Q (by rw [e]; simp)
          rw [show a + (P'.length:Int) = s - 1 by simp at hl; omega] at this
          exact this
         rw [hy] at b3
         exact (pY (i1 y (by rw [e]; simp)) hx (ok y (by rw [e]; simp) x (by simp))).2 (by simpa using b3)
      have u2:∀ q ∈ Q,KK lv x < KK lv q:=fun q hq=>by
       refine jZ (P:=[x]) (Q:=Q) (by simp) t2 ?_ x (by simp) q hq
       cases Q with
       | nil=>exact .inr (.inl rfl)
       | cons y Q=>
        refine .inr (.inr ⟨[],x,y,Q,rfl,rfl,?_⟩)
        rcases b4 with b4 | b4
        ·simp at hel; omega
        ·have hy:idx d s = y:=by
          have:=dm P y Q e
          rw [show a + (P.length:Int) = s by omega] at this
          exact this
         rw [hy] at b4
         have hyi:=i1 y (by rw [e]; simp)
         exact (jB (lv:=lv) ⟨hx.1,hx.2.2⟩ ⟨hyi.1,hyi.2.2⟩).2 (.inl (by simpa using b4))
      refine List.pairwise_append.2 ⟨t1,List.pairwise_cons.2 ⟨u2,t2⟩,fun p hp q hq=>?_⟩
      rcases List.mem_cons.1 hq with rfl | hq
      ·exact u1 p hp
      ·exact t3 p hp q hq
     ·rw [e,List.append_assoc]
      exact (List.perm_append_singleton x Q).symm.append_left P
   ·refine af.bind (P:=(· = .inl ())) (af.iff (by simp; omega) (af.some rfl)) ?_
    rintro o rfl
    simp only [fH]
    obtain ⟨w1,w2⟩:=half (i:=a) (j:=b) (by omega) (by omega) (by omega) (by omega)
    obtain ⟨mid,hmid⟩:∃ mid,(a + b) / 2 = mid:=⟨_,rfl⟩
    have m1:2 * mid ≤ a + b:=by omega
    have m2:a + b ≤ 2 * mid + 1:=by omega
    refine af.lnE _ w1 ?_
    rw [w2,hmid]
    refine af.lnE (mid + m) (bW (by omega) (by omega)) ?_
    have d1:∀ P y Q,L1 = P ++ y :: Q → idx d (a + P.length) = y:=fun P y Q e=>by
     have:d = (A ++ P) ++ y :: (Q ++ L2 ++ B):=by rw [hd,e]; simp
     rw [this]; exact fo (by simp; omega)
    have d2:∀ P y Q,L2 = P ++ y :: Q → idx d (m + P.length) = y:=fun P y Q e=>by
     have:d = (A ++ L1 ++ P) ++ y :: (Q ++ B):=by rw [hd,e]; simp
     rw [this]; exact fo (by simp; omega)
    have e1:∀ h:Int,a ≤ h → h < m → idx d h ∈ L1:=fun h q1 q2=>by
     obtain ⟨P,Q,e,hl⟩:=cut L1 (n:=(h - a).toNat) (by omega)
     cases Q with
     | nil=>have:=congrArg List.length e; simp at this; omega
     | cons y Q=>
      have:=d1 P y Q e
      rw [show a + (P.length:Int) = h by omega] at this
      rw [this,e]; simp
    have e2:∀ h:Int,m ≤ h → h < b → idx d h ∈ L2:=fun h q1 q2=>by
     obtain ⟨P,Q,e,hl⟩:=cut L2 (n:=(h - m).toNat) (by omega)
     cases Q with
     | nil=>have:=congrArg List.length e; simp at this; omega
     | cons y Q=>
      have:=d2 P y Q e
      rw [show m + (P.length:Int) = h by omega] at this
      rw [this,e]; simp
    refine af.bind (P:=fun z=>(z = (mid + m - b,mid) ∧ mid < m) ∨ (z = (a,m) ∧ m ≤ mid)) (af.ite (fun hc=>?_) (fun hc=>?_)) ?_
    ·have hc:=of_decide_eq_true hc
     exact af.some (.inl ⟨by rw [bW (by omega) (by omega)],hc⟩)
    ·have hc:=of_decide_eq_false hc
     exact af.some (.inr ⟨rfl,by omega⟩)
    rintro ⟨lo,hi⟩ hlh
    have hlh':(lo = mid + m - b ∧ hi = mid ∧ mid < m) ∨ (lo = a ∧ hi = m ∧ m ≤ mid):=by
     rcases hlh with ⟨h,h'⟩ | ⟨h,h'⟩
     ·cases h; exact .inl ⟨rfl,rfl,h'⟩
     ·cases h; exact .inr ⟨rfl,rfl,h'⟩
    clear hlh
    simp only [bL]
    refine af.bind (bsr (p:=fun c=>!decide (kv lv (idx d (mid + m - 1 - c)) < kv lv (idx d c))) (by omega) (by omega) fun i j q1 q2 q3=>?_) ?_
    ·simp only [bL]
     by_cases c:i < j
     ·rw [if_pos (by simpa using c),if_pos c]
      obtain ⟨v1,v2⟩:=half (i:=i) (j:=j) (by omega) (by omega) (by omega) (by omega)
      simp only [dq]
      have v3:IntKind.i64.wrap (IntKind.i64.wrap (mid + m - 1) - (i + j) / 2) = mid + m - 1 - (i + j) / 2:=by rw [bW (z:=mid + m - 1) (by omega) (by omega),bW (by omega) (by omega)]
      rw [v1,v2,v3,dt (i:=mid + m - 1 - (i + j) / 2) (by omega) (by omega),dt (i:=(i + j) / 2) (by omega) (by omega)]
      simp only [Option.bind_some]
      obtain ⟨cc,hc,hcc⟩:=ord1 (F:=F) (lv:=lv) (i2 _ (e2 (mid + m - 1 - (i + j) / 2) (by omega) (by omega))) (i1 _ (e1 ((i + j) / 2) (by omega) (by omega)))
      rw [hc]
      simp only [Option.bind_some]
      rw [hcc,bW (z:=(i + j) / 2 + 1) (by omega) (by omega)]
     ·rw [if_neg (by simpa using c),if_neg c]
    rintro s ⟨b1,b2,b3,b4⟩
    obtain ⟨P,Q,eP,lP⟩:=cut L1 (n:=(s - a).toNat) (by omega)
    obtain ⟨R,S,eR,lR⟩:=cut L2 (n:=(mid + m - s - m).toNat) (by omega)
    have hel:=congrArg List.length eP
    have her:=congrArg List.length eR
    rw [List.length_append] at hel her
    obtain ⟨t1,t2,t3⟩:=lj (eP ▸ s1)
    obtain ⟨u1,u2,u3⟩:=lj (eR ▸ s2)
    have PS:∀ p ∈ P,∀ q ∈ S,KK lv p < KK lv q:=by
     refine jZ t1 u2 ?_
     rcases List.eq_nil_or_concat P with rfl | ⟨P',y,rfl⟩
     ·exact .inl rfl
     cases S with
     | nil=>exact .inr (.inl rfl)
     | cons z S=>
      refine .inr (.inr ⟨P',y,z,S,by simp,rfl,?_⟩)
      simp only [List.length_concat,List.length_cons] at lP hel her
      rcases b3 with b3 | b3
      ·omega
      ·have hy:idx d (s - 1) = y:=by
        have:=d1 P' y Q (by rw [eP]; simp)
        rw [show a + (P'.length:Int) = s - 1 by omega] at this
        exact this
       have hz:idx d (mid + m - 1 - (s - 1)) = z:=by
        have:=d2 R z S eR
        rw [show m + (R.length:Int) = mid + m - 1 - (s - 1) by omega] at this
        exact this
       rw [hy,hz] at b3
       exact (pY (i1 y (by rw [eP]; simp)) (i2 z (by rw [eR]; simp)) (ok y (by rw [eP]; simp) z (by rw [eR]; simp))).2 (by simpa using b3)
    have RQ:∀ p ∈ R,∀ q ∈ Q,KK lv p < KK lv q:=by
     refine jZ u1 t2 ?_
     rcases List.eq_nil_or_concat R with rfl | ⟨R',y,rfl⟩
     ·exact .inl rfl
     cases Q with
     | nil=>exact .inr (.inl rfl)
     | cons z Q=>
      refine .inr (.inr ⟨R',y,z,Q,by simp,rfl,?_⟩)
      simp only [List.length_concat,List.length_cons] at lR hel her
      rcases b4 with b4 | b4
      ·omega
      ·have hy:idx d (mid + m - 1 - s) = y:=by
        have:=d2 R' y S (by rw [eR]; simp)
        rw [show m + (R'.length:Int) = mid + m - 1 - s by omega] at this
        exact this
       have hz:idx d s = z:=by
        have:=d1 P z Q eP
        rw [show a + (P.length:Int) = s by omega] at this
        exact this
       rw [hy,hz] at b4
       have hyi:=i2 y (by rw [eR]; simp)
       have hzi:=i1 z (by rw [eP]; simp)
       exact (jB (lv:=lv) ⟨hyi.1,hyi.2.2⟩ ⟨hzi.1,hzi.2.2⟩).2 (.inl (by simpa using b4))
    have we:IntKind.i64.wrap (mid + m - s) = mid + m - s:=bW (by omega) (by omega)
    rw [we]
    refine af.bind (P:=(· = A ++ P ++ R ++ (Q ++ S ++ B))) ?_ ?_
    ·refine af.ln (af.ite (fun hc=>?_) (fun hc=>?_))
     ·simp only [Bool.and_eq_true,decide_eq_true_eq] at hc
      refine af.bp (rot (A:=A ++ P) (X:=Q) (Y:=R) (B:=S ++ B) (by rw [List.length_append]; omega) (by omega) (by omega) (fun h=>?_) (fun h=>?_) (by omega) (by rw [List.length_append]; omega) (by rw [hd,eP,eR]; simp)) (af.some (by simp))
      ·subst h; simp at hel; omega
      ·subst h; simp at lR; omega
     ·simp only [Bool.and_eq_false_iff,decide_eq_false_iff_not] at hc
      refine af.some ?_
      have:Q = [] ∨ R = []:=by
       rcases hc with hc | hc
       ·exact .inl (List.eq_nil_of_length_eq_zero (by omega))
       ·exact .inr (List.eq_nil_of_length_eq_zero (by omega))
      rcases this with rfl | rfl
      ·rw [hd,eP,eR]; simp
      ·rw [hd,eP,eR]; simp
    rintro _ rfl
    refine af.bind (P:=fun d'=>∃ L,d' = A ++ L ++ (Q ++ S ++ B) ∧ SK lv L ∧ L.Perm (P ++ R)) ?_ ?_
    ·refine af.ln (af.ite (fun hc=>?_) (fun hc=>?_))
     ·simp only [Bool.and_eq_true,decide_eq_true_eq] at hc
      refine af.bind (symM hFF n (A:=A) (L1:=P) (L2:=R) (B:=Q ++ S ++ B) ha (by omega) (by omega) (fun h=>?_) (fun h=>?_) (by omega) (by omega) (by omega) rfl t1 u1 (fun x hx=>i1 x (by rw [eP]; simp [hx])) (fun x hx=>i2 x (by rw [eR]; simp [hx])) (fun x hx y hy=>ok x (by rw [eP]; simp [hx]) y (by rw [eR]; simp [hy]))) fun d' h=>af.some h
      ·subst h; simp at lP; omega
      ·subst h; simp at lR; omega
     ·simp only [Bool.and_eq_false_iff,decide_eq_false_iff_not] at hc
      refine af.some ⟨P ++ R,by simp,?_,.refl _⟩
      have:P = [] ∨ R = []:=by
       rcases hc with hc | hc
       ·exact .inl (List.eq_nil_of_length_eq_zero (by omega))
       ·exact .inr (List.eq_nil_of_length_eq_zero (by omega))
      rcases this with rfl | rfl
      ·simpa using u1
      ·simpa using t1
    rintro _ ⟨L,rfl,sL,pL⟩
    have lL:=pL.length_eq
    rw [List.length_append] at lL
    refine af.mono (P:=fun d'=>∃ L',d' = A ++ L ++ L' ++ B ∧ SK lv L' ∧ L'.Perm (Q ++ S)) ?_ ?_
    ·refine af.ln (af.ite (fun hc=>?_) (fun hc=>?_))
     ·simp only [Bool.and_eq_true,decide_eq_true_eq] at hc
      refine af.bind (symM hFF n (A:=A ++ L) (L1:=Q) (L2:=S) (B:=B) (by rw [List.length_append]; omega) (by omega) (by omega) (fun h=>?_) (fun h=>?_) (by omega) (by omega) (by rw [List.length_append]; omega) (by simp) t2 u2 (fun x hx=>i1 x (by rw [eP]; simp [hx])) (fun x hx=>i2 x (by rw [eR]; simp [hx])) (fun x hx y hy=>ok x (by rw [eP]; simp [hx]) y (by rw [eR]; simp [hy]))) fun d' h=>af.some h
      ·subst h; simp at hel; omega
      ·subst h; simp at her; omega
     ·simp only [Bool.and_eq_false_iff,decide_eq_false_iff_not] at hc
      refine af.some ⟨Q ++ S,by simp,?_,.refl _⟩
      have:Q = [] ∨ S = []:=by
       rcases hc with hc | hc
       ·exact .inl (List.eq_nil_of_length_eq_zero (by omega))
       ·exact .inr (List.eq_nil_of_length_eq_zero (by omega))
      rcases this with rfl | rfl
      ·simpa using u2
      ·simpa using t2
    rintro _ ⟨L',rfl,sL',pL'⟩
    refine ⟨L ++ L',by simp,List.pairwise_append.2 ⟨sL,sL',fun x hx y hy=>?_⟩,?_⟩
    ·rcases List.mem_append.1 (pL.mem_iff.1 hx) with hx | hx
     ·rcases List.mem_append.1 (pL'.mem_iff.1 hy) with hy | hy
      ·exact t3 x hx y hy
      ·exact PS x hx y hy
     ·rcases List.mem_append.1 (pL'.mem_iff.1 hy) with hy | hy
      ·exact RQ x hx y hy
      ·exact u3 x hx y hy
    ·refine (pL.append pL').trans ?_
     rw [eP,eR]
     have:(P ++ R ++ (Q ++ S)).Perm (P ++ (Q ++ (R ++ S))):=by
      rw [List.append_assoc]
      refine List.Perm.append_left P ?_
      rw [← List.append_assoc,← List.append_assoc]
      exact List.perm_append_comm.append_right S
     rw [List.append_assoc P Q]
     exact this
theorem q6 {lv M:List Int} (hl:M.length ≤ 40) (hst:Stb lv M) (hin:rD lv M):af (cg 2000 lv M) fun S=>SK lv S ∧ S.Perm M:=by
 unfold cg
 refine af.bind ?_ fun _ h=>af.some h
 unfold cV
 have fin:∀ {s:List Int} {Q:List Int → Prop},SK lv s ∧ s.Perm M → af (some s) fun S=>SK lv S ∧ S.Perm M:=fun h=>af.some h
 by_cases c:M.length < 20
 ·refine af.bind (P:=(· = (M,0))) (af.rounds (n:=0) (I:=fun k z=>z = (M,0,20)) (by omega) rfl ?_) ?_
  ·rintro k z _ rfl
   exact af.iff (by simp; omega) (af.some (.inr ⟨_,rfl,rfl⟩))
  ·rintro _ rfl
   simp only [bL]
   refine af.bind (rG (A:=[]) (M:=M) (B:=[]) rfl (by simp) (by simp; omega) (by omega) hst hin (by simp)) ?_
   rintro _ ⟨S,rfl,hs,hp⟩
   simp only [List.nil_append,List.append_nil]
   refine af.bind (P:=(· = S)) (af.rounds (n:=0) (I:=fun k z=>z = (S,20)) (by omega) rfl ?_) (by rintro _ rfl; exact af.some ⟨hs,hp⟩)
   rintro k z _ rfl
   exact af.iff (by simp; omega) (af.some (.inr ⟨_,rfl,rfl⟩))
 ·obtain ⟨M1,M2,e,l1⟩:=cut M (n:=20) (by omega)
  have hel:=congrArg List.length e
  rw [List.length_append] at hel
  obtain ⟨st1,st2,st3⟩:=List.pairwise_append.1 (e ▸ hst)
  have in1:rD lv M1:=fun x hx=>hin x (by rw [e]; simp [hx])
  have in2:rD lv M2:=fun x hx=>hin x (by rw [e]; simp [hx])
  have blocks:af (Option.bind (iter 2000 (ku fun data_3 a_4 b_5=>if (decide (b_5 ≤ (M.length:Int))) = true then (Option.bind (aP 2000 a_4 b_5 lv data_3) (fun x_8=>some (.inl (x_8,b_5,IntKind.i64.wrap (b_5 + 20))))) else (some (.inr (data_3,a_4)))) (M,0,20)) (bL fun data_1 a_2=>aP 2000 a_2 (M.length:Int) lv data_1)) fun d=>∃ S1 S2,d = S1 ++ S2 ∧ SK lv S1 ∧ SK lv S2 ∧ S1.Perm M1 ∧ S2.Perm M2:=by
   refine af.bind (P:=fun z=>(∃ S1,z = (S1 ++ M2,20) ∧ SK lv S1 ∧ S1.Perm M1 ∧ M2.length < 20) ∨ (∃ S1 S2,z = (S1 ++ S2,40) ∧ SK lv S1 ∧ S1.Perm M1 ∧ SK lv S2 ∧ S2.Perm M2 ∧ M2.length = 20)) ?_ ?_
   ·refine af.rounds (n:=2) (I:=fun k z=>(k = 0 ∧ z = (M,0,20)) ∨ (k = 1 ∧ ∃ S1,z = (S1 ++ M2,20,40) ∧ SK lv S1 ∧ S1.Perm M1) ∨ (k = 2 ∧ M2.length = 20 ∧ ∃ S1 S2,z = (S1 ++ S2,40,60) ∧ SK lv S1 ∧ S1.Perm M1 ∧ SK lv S2 ∧ S2.Perm M2)) (by omega) (.inl ⟨rfl,rfl⟩) ?_
    rintro k z hk (⟨rfl,rfl⟩ | ⟨rfl,S1,rfl,s1,p1⟩ | ⟨rfl,h20,S1,S2,rfl,s1,p1,s2,p2⟩)
    ·refine af.qw (by simp; omega) (af.bind (rG (A:=[]) (M:=M1) (B:=M2) rfl (by simp [l1]) (by simp; omega) (by omega) st1 in1 (by simp [e])) ?_)
     rintro _ ⟨S,rfl,hs,hp⟩
     exact af.some (.inl ⟨_,rfl,.inr (.inl ⟨rfl,S,by simp [IntKind.wrap,IntKind.signed,IntKind.bits],hs,hp⟩),by omega⟩)
    ·have:=p1.length_eq
     simp only [ku]
     refine af.ite (fun hc=>?_) (fun hc=>?_)
     ·have hc:=of_decide_eq_true hc
      refine af.bind (rG (A:=S1) (M:=M2) (B:=[]) (by omega) (by omega) (by omega) (by omega) st2 in2 (by simp)) ?_
      rintro _ ⟨S,rfl,hs,hp⟩
      exact af.some (.inl ⟨_,rfl,.inr (.inr ⟨by trivial,by omega,S1,S,by simp [IntKind.wrap,IntKind.signed,IntKind.bits],s1,p1,hs,hp⟩),by omega⟩)
     ·have hc:=of_decide_eq_false hc
      exact af.some (.inr ⟨_,rfl,.inl ⟨S1,rfl,s1,p1,by omega⟩⟩)
    ·exact af.iff (by simp; omega) (af.some (.inr ⟨_,rfl,.inr ⟨S1,S2,rfl,s1,p1,s2,p2,h20⟩⟩))
   ·rintro z (⟨S1,rfl,s1,p1,h⟩ | ⟨S1,S2,rfl,s1,p1,s2,p2,h⟩)
    ·have:=p1.length_eq
     refine (rG (A:=S1) (M:=M2) (B:=[]) (by omega) (by omega) (by omega) (by omega) st2 in2 (by simp)).mono ?_
     rintro _ ⟨S,rfl,hs,hp⟩
     exact ⟨S1,S,by simp,s1,hs,p1,hp⟩
    ·have:=p1.length_eq
     have:=p2.length_eq
     refine (rG (A:=S1 ++ S2) (M:=[]) (B:=[]) (by simp; omega) (by simp; omega) (by simp; omega) (by simp) .nil (by simp [rD]) (by simp)).mono ?_
     rintro _ ⟨S,rfl,hs,hp⟩
     have:S = []:=List.perm_nil.1 hp
     subst this
     exact ⟨S1,S2,by simp,s1,s2,p1,p2⟩
  obtain ⟨d,hd,S1,S2,rfl,s1,s2,p1,p2⟩:=blocks
  have q1:=p1.length_eq
  have q2:=p2.length_eq
  cases n8:iter 2000 (ku fun data_3 a_4 b_5=>if (decide (b_5 ≤ (M.length:Int))) = true then (Option.bind (aP 2000 a_4 b_5 lv data_3) (fun x_8=>some (.inl (x_8,b_5,IntKind.i64.wrap (b_5 + 20))))) else (some (.inr (data_3,a_4)))) (M,0,20) with
  | none=>rw [n8] at hd; cases hd
  | some z=>
   obtain ⟨d0,a0⟩:=z
   rw [n8] at hd
   simp only [Option.bind_some,bL] at hd ⊢
   rw [hd]
   simp only [Option.bind_some]
   have hpm:(S1 ++ S2).Perm M:=by rw [e]; exact p1.append p2
   have okk:Ok2 lv S1 S2:=fun x hx y hy=>st3 x (p1.mem_iff.1 hx) y (p2.mem_iff.1 hy)
   have merge:M2 ≠ [] → ∀ b:Int,b = (M.length:Int) → af (cJ 2000 0 20 b lv (S1 ++ S2)) fun S=>SK lv S ∧ S.Perm M:=fun hne b hb=>by
    have hn2:=List.length_pos_iff.2 hne
    refine (symM (F:=2000) (by omega) 2000 (A:=[]) (L1:=S1) (L2:=S2) (B:=[]) rfl (by simp; omega) (by omega) (fun h=>by subst h; simp at q1; omega) (fun h=>by subst h; simp at q2; omega) (by omega) (by omega) (by simp; omega) (by simp) s1 s2 (fun x hx=>in1 x (p1.mem_iff.1 hx)) (fun x hx=>in2 x (p2.mem_iff.1 hx)) okk).mono ?_
    rintro _ ⟨L,rfl,hs,hp⟩
    exact ⟨by simpa using hs,by simpa using hp.trans hpm⟩
   refine af.bind (P:=fun S=>SK lv S ∧ S.Perm M) ?_ fun _ h=>af.some h
   by_cases c3:M2 = []
   ·refine af.rounds (n:=0) (I:=fun k z=>z = (S1 ++ S2,20)) (by omega) rfl ?_
    rintro k z _ rfl
    subst c3
    have:S2 = []:=List.perm_nil.1 p2
    subst this
    refine af.iff (by simp at hel ⊢; omega) (af.some (.inr ⟨_,rfl,by simpa using s1,hpm⟩))
   ·have hn2:=List.length_pos_iff.2 c3
    refine af.rounds (n:=1) (I:=fun k z=>(k = 0 ∧ z = (S1 ++ S2,20)) ∨ (k = 1 ∧ z.2 = 40 ∧ SK lv z.1 ∧ z.1.Perm M)) (by omega) (.inl ⟨rfl,rfl⟩) ?_
    rintro k z hk (⟨rfl,rfl⟩ | ⟨rfl,hz,hs,hp⟩)
    ·refine af.qw (by simp; omega) ?_
     refine af.bind (P:=fun z=>(z = (S1 ++ S2,0) ∧ M.length < 40) ∨ (SK lv z.1 ∧ z.1.Perm M ∧ z.2 = 40 ∧ M.length = 40)) ?_ ?_
     ·refine af.rounds (n:=1) (I:=fun k z=>(k = 0 ∧ z = (S1 ++ S2,0,40)) ∨ (k = 1 ∧ SK lv z.1 ∧ z.1.Perm M ∧ z.2.1 = 40 ∧ z.2.2 = 80 ∧ M.length = 40)) (by omega) (.inl ⟨rfl,by simp [IntKind.wrap,IntKind.signed,IntKind.bits]⟩) ?_
      rintro k z hk (⟨rfl,rfl⟩ | ⟨rfl,hs,hp,h40,h80,hM⟩)
      ·simp only [ku]
       refine af.ite (fun hc=>?_) (fun hc=>?_)
       ·have hc:=of_decide_eq_true hc
        refine af.lnE 20 (by simp [IntKind.wrap,IntKind.signed,IntKind.bits]) (af.bind (merge c3 40 (by omega)) fun S hS=>af.ln (af.some (.inl ⟨_,rfl,.inr ⟨by trivial,hS.1,hS.2,rfl,by simp [IntKind.wrap,IntKind.signed,IntKind.bits],by omega⟩,by omega⟩)))
       ·have hc:=of_decide_eq_false hc
        exact af.some (.inr ⟨_,rfl,.inl ⟨rfl,by omega⟩⟩)
      ·obtain ⟨d,x,y⟩:=z
       simp only at hs hp h40 h80
       subst h40 h80
       exact af.iff (by simp; omega) (af.some (.inr ⟨_,rfl,.inr ⟨hs,hp,rfl,hM⟩⟩))
     ·rintro ⟨d,x⟩ (⟨h,hM⟩ | ⟨hs,hp,h40,hM⟩)
      ·cases h
       simp only [bL]
       refine af.bind (P:=fun S=>SK lv S ∧ S.Perm M) (af.lnE 20 (by simp [IntKind.wrap,IntKind.signed,IntKind.bits]) (af.qw (by simp; omega) (af.bind (merge c3 _ rfl) fun S hS=>af.some hS))) fun S hS=>af.some (.inl ⟨_,rfl,.inr ⟨by trivial,by simp [IntKind.wrap,IntKind.signed,IntKind.bits],hS.1,hS.2⟩,by omega⟩)
      ·simp only at hs hp h40
       subst h40
       simp only [bL]
       refine af.bind (P:=fun S=>SK lv S ∧ S.Perm M) (af.lnE 60 (by simp [IntKind.wrap,IntKind.signed,IntKind.bits]) (af.iff (by simp; omega) (af.some ⟨hs,hp⟩))) fun S hS=>af.some (.inl ⟨_,rfl,.inr ⟨by trivial,by simp [IntKind.wrap,IntKind.signed,IntKind.bits],hS.1,hS.2⟩,by omega⟩)
    ·obtain ⟨d,x⟩:=z
     simp only at hs hp hz
     subst hz
     exact af.iff (by simp; omega) (af.some (.inr ⟨_,rfl,hs,hp⟩))
theorem pf {fx:List Bool} {P:Int → Int → Prop} {Q:List (List Int)} (hp:Part P (Mv fx) Q):Q.length ≤ fx.length ∧ ∀ c ∈ Q,c.length ≤ fx.length:=by
 have hB:∀ a,Mv fx a → a ∈ (List.range fx.length).map fun i:Nat=>(i:Int):=fun a ⟨h0,h1,_⟩=>List.mem_map.2 ⟨a.toNat,List.mem_range.2 (by omega),by omega⟩
 have h1:=pV hp.toIsPt hB
 refine ⟨by simpa using h1,fun c hc=>?_⟩
 have:=qW hp.toIsPt hB hc
 simpa using this
def n9 (lv c:List Int):List Int:=c.mergeSort fun a b=>decide (KK lv a ≤ KK lv b)
theorem ef (lv c:List Int):(n9 lv c).Perm c:=List.mergeSort_perm _ _
theorem srtK_eq {lv S c:List Int} (h:SK lv S) (hp:S.Perm c) (hin:rD lv c):S = n9 lv c:=by
 refine List.Perm.eq_of_pairwise (le:=fun a b=>KK lv a ≤ KK lv b) (fun a b ha hb h1 h2=>?_) (h.imp fun h=>Int.le_of_lt h) ?_ (hp.trans (ef lv c).symm)
 ·have a1:=hin a (hp.mem_iff.1 ha)
  have b1:=hin b ((ef lv c).mem_iff.1 hb)
  unfold KK at h1 h2
  omega
 ·exact (List.pairwise_mergeSort (le:=fun a b:Int=>decide (KK lv a ≤ KK lv b)) (fun a b c h1 h2=>by simp only [decide_eq_true_eq] at *; omega) (fun a b=>by simp only [Bool.or_eq_true,decide_eq_true_eq]; omega) c).imp fun h=>of_decide_eq_true h
theorem few2 (F:Nat) (fx:List Bool) (ls:List A2):∃ b,du F fx ls = some b ∧ (b = true → (fx.length ≤ 40 ∨ (402 ≤ fx.length ∧ fx.length ≤ 408)) ∧ ls.length ≤ 60):=by
 refine ⟨_,rfl,fun h=>?_⟩
 simp only [Bool.and_eq_true,Bool.or_eq_true,decide_eq_true_eq] at h
 omega
def eU (lv:List Int) (sets:List (List Int)):List Int:=(sets.map (n9 lv)).flatten
theorem nU (lv:List Int) (sets:List (List Int)) (c:List Int):eU lv (sets ++ [c]) = eU lv sets ++ n9 lv c:=by simp [eU]
theorem pg (lv:List Int) (sets:List (List Int)):(eU lv sets).length = sets.flatten.length:=by
 unfold eU
 induction sets with
 | nil=>rfl
 | cons c s ih=>simp only [List.map_cons,List.flatten_cons,List.length_append,ih,(ef lv c).length_eq]
structure nO (fx:List Bool) (lv c:List Int):Prop where
 asd:nI c
 mv:∀ x ∈ c,Mv fx x
 ne:c ≠ []
theorem nO.inr {fx:List Bool} {ls:List A2} {lv c:List Int} (hx:fx.length ≤ 401) (hl:Lv fx ls lv) (h:nO fx lv c):rD lv c:=fun x hx'=>by
 obtain ⟨a,b,_⟩:=h.mv x hx'
 have:=hl.len
 omega
theorem nO.stb {fx:List Bool} {lv c:List Int} (h:nO fx lv c):Stb lv c:=by
 refine List.Pairwise.imp ?_ h.asd
 intro a b h _; exact h
theorem pz {fx:List Bool} {P:Int → Int → Prop} {Q:List (List Int)} (hp:Part P (Mv fx) Q):Q.flatten.length ≤ fx.length:=by
 refine mO ?_ fun a ha=>?_
 ·refine List.pairwise_flatten.2 ⟨fun c hc=>mh (hp.asd c hc).2,hp.dj.imp fun h=>?_⟩
  intro a ha b hb e
  exact h a ha (e ▸ hb)
 ·obtain ⟨c,hc,hac⟩:=List.mem_flatten.1 ha
  obtain ⟨h0,h1,_⟩:=(hp.dom a).2 ⟨c,hc,hac⟩
  exact ⟨h0,h1⟩
theorem nY {fx:List Bool} {ls:List A2} {lv:List Int} (h:fx.length + ls.length < 490) (hg:Gr fx ls) {c:List Int} (hc:c ∈ mg (oT fx ls)):nO fx lv c :=
 ⟨((jJ h hg).asd c hc).2,fun x hx=>((jJ h hg).dom x).2 ⟨c,hc,hx⟩,((jJ h hg).asd c hc).1⟩
theorem lv_ex {fx:List Bool} {ls:List A2} (h:fx.length + ls.length < 490) (hg:Gr fx ls):∃ lv,Lv fx ls lv ∧ bF 2000 fx ls = some (lv,0) ∧ ct 2000 fx ls = some lv:=by
 obtain ⟨⟨lv,e⟩,h1,h2⟩:=nX h
 obtain ⟨lv',h3,h4⟩:=sX h hg
 rcases h2 with ⟨_,he,hl⟩ | ⟨hn,_⟩
 ·simp only at he hl
  subst he
  exact ⟨lv,hl,h1,by rw [h3,Lv.uniq hg h4 hl]⟩
 ·exact absurd hg hn
theorem find_rr (F:Nat) (fx:List Bool) (ls:List A2):dA F fx ls = cI F fx ls:=rfl
theorem re {fx:List Bool} {ls:List A2} {lv:List Int} (h:fx.length + ls.length < 490) (h40:fx.length ≤ 40) (hg:Gr fx ls) (hl:Lv fx ls lv) (he:bF 2000 fx ls = some (lv,0)):cq 2000 fx ls = some (eU lv (mg (oT fx ls)),0):=by
 refine af.eq ?_
 unfold cq
 refine af.bp he (af.iff (by simp) ?_)
 rw [find_rr]
 refine af.bp (by rw [m9 h,if_pos hg]) ?_
 have hp:=jJ h hg
 obtain ⟨q1,q2⟩:=pf hp
 have hfl:=pz hp
 simp only [bL]
 refine af.bind (P:=(· = eU lv (mg (oT fx ls)))) ?_ (by rintro _ rfl; exact af.some rfl)
 refine af.rC (fun pre out=>out = eU lv pre) (by omega) (by omega) rfl (fun pre c post out e hxi hI=>?_) fun out h=>h
 have hc:c ∈ mg (oT fx ls):=by rw [e]; simp
 have hso:=nY (lv:=lv) h hg hc
 subst hI
 have hfl2:pre.flatten.length + c.length ≤ fx.length:=by
  rw [e] at hfl; simp only [List.flatten_append,List.flatten_cons,List.length_append] at hfl; omega
 refine af.bp hxi (af.bind (q6 (by have:=q2 c hc; omega) hso.stb (hso.inr hg.1 hl)) fun S hS=>?_)
 rw [srtK_eq hS.1 hS.2 (hso.inr hg.1 hl)]
 refine af.app (by rw [pg,(ef lv c).length_eq]; omega) (af.some (.inl ⟨_,rfl,(nU lv pre c).symm⟩))
theorem kv_pos {lv:List Int} {x:Int} (h0:0 ≤ idx lv x) (h1:idx lv x ≤ 1000000):kv lv x = idx lv x:=by unfold kv; rw [wu64]; omega
theorem kv_neg {lv:List Int} {x:Int} (h:idx lv x = -1):kv lv x = 18446744073709551615:=by unfold kv; rw [wu64]; omega
open Classical in
theorem qm {fx:List Bool} {ls:List A2} (h:fx.length + ls.length < 490) (hg:¬ Gr fx ls):bF 2000 fx ls = some ([],1) ∧ fA 2000 fx ls = some ⟨[],1⟩ ∧ cq 2000 fx ls = some ([],1) ∧ fF 2000 fx ls = some ⟨[],1⟩:=by
 have h1:bF 2000 fx ls = some ([],1):=by
  obtain ⟨z,hz,h2⟩:=nX h
  rcases h2 with ⟨h3,_⟩ | ⟨_,rfl⟩
  ·exact absurd h3 hg
  ·exact hz
 have hv:cE 2000 fx ls = some false:=by
  obtain ⟨r,e,hr⟩:=valid35 (F:=2000) (fx:=fx) (ls:=ls) (by omega) (by omega)
  rw [e]
  cases r with
  | true=>exact absurd (hr.1 rfl) hg
  | false=>rfl
 refine ⟨h1,?_,?_,?_⟩
 ·unfold fA; rw [hv]; rfl
 ·unfold cq; rw [h1]; rfl
 ·unfold fF; rw [hv]; rfl
def jq (n:Nat) (lv:List Int) (x:Int):Int:=if idx lv x < 0 then (n:Int) + 1 else idx lv x
theorem adj_lv {fx:List Bool} {ls:List A2} {lv:List Int} (hg:Gr fx ls) (hl:Lv fx ls lv) {a b:Int} (h:gq ls a b):(decide (idx lv a < 0) = decide (idx lv b < 0)) ∧ idx lv a - idx lv b ≤ 1 ∧ idx lv b - idx lv a ≤ 1 ∧ -1 ≤ idx lv a ∧ -1 ≤ idx lv b ∧ idx lv a < fx.length ∧ idx lv b < fx.length:=by
 obtain ⟨a1,a2,b1,b2,_⟩:=h.nH hg
 have h1:=hl.next a b h
 have h2:=hl.next b a h.symm
 have h3:=hl.low a a1 a2
 have h4:=hl.low b b1 b2
 have h5:=oX hg hl.prev a1 a2
 have h6:=oX hg hl.prev b1 b2
 refine ⟨?_,by omega,by omega,h3,h4,h5,h6⟩
 rw [Bool.eq_iff_iff]; simp only [decide_eq_true_eq]; omega
theorem m7 {l:List Bool} {i j:Int} {x:Bool} (h0:0 ≤ i) (h1:i < l.length) (h2:0 ≤ j):idx (l.set i.toNat x) j = if j = i then x else idx l j:=gu h0 h1 h2
theorem sG (fx:List Bool) (ls:List A2):bK 2000 fx ls = some true:=by
 refine af.eq ?_
 unfold bK
 obtain ⟨b,hb,hfew⟩:=few2 2000 fx ls
 refine af.bp hb (af.ite (fun hc=>af.bp lX (af.some rfl)) (fun hc=>?_))
 obtain ⟨hfx,hls⟩:=hfew (by simpa using hc)
 have hs:fx.length + ls.length < 490:=by omega
 by_cases hg:Gr fx ls
 rotate_left
 ·obtain ⟨b1,b2,b3,b4⟩:=qm hs hg
  refine af.bp b1 (af.bp b3 (af.bp (by rw [m9 hs,if_neg hg]) ?_))
  exact af.ln (af.qw (by simp) (af.bp lX (af.some rfl)))
 have h40:fx.length ≤ 40:=by have:=hg.1; omega
 obtain ⟨lv,hl,e1,e2⟩:=lv_ex hs hg
 have hp:=jJ hs hg
 obtain ⟨q1,q2⟩:=pf hp
 have hfl:=pz hp
 have hlen:=hl.len
 refine af.bp e1 (af.bp (re hs h40 hg hl e1) (af.bp (by rw [m9 hs,if_pos hg]) ?_))
 obtain ⟨sets,hsets⟩:∃ s,mg (oT fx ls) = s:=⟨_,rfl⟩
 rw [hsets]
 rw [hsets] at hp q1 q2 hfl
 have hso:∀ c ∈ sets,nO fx lv c:=fun c hc=>nY hs hg (by rw [hsets]; exact hc)
 simp only [bL]
 refine af.ln (af.iff (by simp [hlen]) (af.bp (x:=List.replicate fx.length false) (by unfold mk?; rw [if_pos (by omega)]; rfl) ?_))
 refine af.bind (P:=fun o=>∃ below:List Bool,o = .inl below ∧ below.length = fx.length ∧ ∀ v:Int,0 ≤ v → v < fx.length → (idx below v = true ↔ ∃ u,gq ls v u ∧ idx lv u = idx lv v - 1)) ?_ ?_
 ·refine af.rC (fun pre below=>below.length = fx.length ∧ ∀ v:Int,0 ≤ v → v < fx.length → (idx below v = true ↔ ∃ u,gq pre v u ∧ idx lv u = idx lv v - 1)) (by omega) (by omega) ⟨by simp,fun v h0 h1=>?_⟩ (fun pre x post below e hxi hI=>?_) fun s h=>⟨s,rfl,h⟩
  ·rw [oF h0 h1]
   constructor
   ·intro h; cases h
   ·rintro ⟨u,hu,_⟩; exact absurd hu gq.nil
  obtain ⟨hb1,hb2⟩:=hI
  have hxm:x ∈ ls:=by rw [e]; simp
  obtain ⟨a1,a2,a3,a4,a5⟩:=hg.2 x hxm
  obtain ⟨d1,d2,d3,d4,d5,d6,d7⟩:=adj_lv hg hl (a:=x.a0) (b:=x.a1) ⟨x,hxm,.inl ⟨rfl,rfl⟩⟩
  have c1:((decide (idx lv x.a0 < 0)) != (decide (idx lv x.a1 < 0))) = false:=by rw [d1]; simp
  have w1:IntKind.i64.wrap (idx lv x.a0 - idx lv x.a1) = idx lv x.a0 - idx lv x.a1:=bW (by omega) (by omega)
  have w2:IntKind.i64.wrap (idx lv x.a1 - idx lv x.a0) = idx lv x.a1 - idx lv x.a0:=bW (by omega) (by omega)
  have w3:IntKind.i64.wrap (idx lv x.a0 - 1) = idx lv x.a0 - 1:=bW (by omega) (by omega)
  have w4:IntKind.i64.wrap (idx lv x.a1 - 1) = idx lv x.a1 - 1:=bW (by omega) (by omega)
  refine af.bp hxi (af.bp hxi (af.idx a1 (by omega) (af.idx a3 (by omega) ?_)))
  rw [c1]
  refine af.g1 rfl (af.idx a1 (by omega) (af.g1 rfl (af.idx a3 (by omega) ?_)))
  rw [w1]
  have c2:decide (1 < idx lv x.a0 - idx lv x.a1) = false:=decide_eq_false (by omega)
  have c3:decide (1 < idx lv x.a1 - idx lv x.a0) = false:=decide_eq_false (by omega)
  rw [c2]
  refine af.g1 rfl (af.idx a3 (by omega) (af.g1 rfl (af.idx a1 (by omega) ?_)))
  rw [w2,c3]
  refine af.iff rfl (af.idx a1 (by omega) ?_)
  have fin:∀ (p q:Bool),(p = true ↔ idx below x.a0 = true ∨ idx lv x.a1 = idx lv x.a0 - 1) → (q = true ↔ idx below x.a1 = true ∨ idx lv x.a0 = idx lv x.a1 - 1) →
    (((below.set x.a0.toNat p).set x.a1.toNat q).length = fx.length ∧ ∀ v:Int,0 ≤ v → v < fx.length → (idx ((below.set x.a0.toNat p).set x.a1.toNat q) v = true ↔ ∃ u,gq (pre ++ [x]) v u ∧ idx lv u = idx lv v - 1)):=by
   intro p q hp hq
   refine ⟨by simp [hb1],fun v h0 h1=>?_⟩
   rw [m7 a3 (by simp; omega) h0,m7 a1 (by omega) h0]
   have key:(∃ u,gq (pre ++ [x]) v u ∧ idx lv u = idx lv v - 1) ↔ (∃ u,gq pre v u ∧ idx lv u = idx lv v - 1) ∨ (v = x.a0 ∧ idx lv x.a1 = idx lv v - 1) ∨ (v = x.a1 ∧ idx lv x.a0 = idx lv v - 1):=by
    constructor
    ·rintro ⟨u,hu,h⟩
     rcases gq.snoc.1 hu with hu | ⟨rfl,rfl⟩ | ⟨rfl,rfl⟩
     ·exact .inl ⟨u,hu,h⟩
     ·exact .inr (.inl ⟨rfl,h⟩)
     ·exact .inr (.inr ⟨rfl,h⟩)
    ·rintro (⟨u,hu,h⟩ | ⟨rfl,h⟩ | ⟨rfl,h⟩)
     ·exact ⟨u,gq.snoc.2 (.inl hu),h⟩
     ·exact ⟨_,gq.snoc.2 (.inr (.inl ⟨rfl,rfl⟩)),h⟩
     ·exact ⟨_,gq.snoc.2 (.inr (.inr ⟨rfl,rfl⟩)),h⟩
   rw [key,← hb2 v h0 h1]
   split
   ·next c=>subst c; rw [hq]; simp [Ne.symm a5]
   ·next c=>
    split
    ·next c'=>subst c'; rw [hp]; simp [a5]
    ·next c'=>simp [c,c']
  have second:∀ p:Bool,(p = true ↔ idx below x.a0 = true ∨ idx lv x.a1 = idx lv x.a0 - 1) → af (Option.bind (av below x.a0) (fun x_27=>Option.bind (av (below.set (x.a0:Int).toNat p) x.a1) (fun x_28=>Option.bind (bx (!x_28) (av lv x.a0)) (fun x_29=>Option.bind (bx (!x_28) (av lv x.a1)) (fun x_30=>Option.bind (av (below.set (x.a0:Int).toNat p) x.a1) (fun x_31=>some (.inl ((below.set (x.a0:Int).toNat p).set (x.a1:Int).toNat (x_28 || (decide (x_29 = (IntKind.i64.wrap (x_30 - 1))))),IntKind.i64.wrap ((pre.length:Int) + 1)))))))))
    fun o:(List Bool × Int) ⊕ (List Bool ⊕ Bool)=>(∃ s',o = .inl (s',IntKind.i64.wrap ((pre.length:Int) + 1)) ∧ (s'.length = fx.length ∧ ∀ v:Int,0 ≤ v → v < fx.length → (idx s' v = true ↔ ∃ u,gq (pre ++ [x]) v u ∧ idx lv u = idx lv v - 1))) ∨ ∃ t,o = .inr t ∧ ∃ below:List Bool,t = .inl below ∧ below.length = fx.length ∧ ∀ v:Int,0 ≤ v → v < fx.length → (idx below v = true ↔ ∃ u,gq ls v u ∧ idx lv u = idx lv v - 1):=by
   intro p hp
   have e0:idx (below.set x.a0.toNat p) x.a1 = idx below x.a1:=by rw [m7 a1 (by omega) a3,if_neg (fun h=>a5 h.symm)]
   refine af.idx a1 (by omega) (af.idx a3 (by simp; omega) ?_)
   rw [e0]
   by_cases cb:idx below x.a1 = true
   ·rw [cb]
    exact af.g0 rfl (af.g0 rfl (af.idx a3 (by simp; omega) (af.some (.inl ⟨_,rfl,fin p _ hp (by simp [cb])⟩))))
   ·have cb:idx below x.a1 = false:=by simpa using cb
    rw [cb]
    refine af.g1 rfl (af.idx a1 (by omega) (af.g1 rfl (af.idx a3 (by omega) (af.idx a3 (by simp; omega) (af.some (.inl ⟨_,rfl,fin p _ hp ?_⟩))))))
    rw [w4]; simp [cb]
  by_cases cb:idx below x.a0 = true
  ·rw [cb]
   exact af.g0 rfl (af.g0 rfl (second _ (by simp [cb])))
  ·have cb:idx below x.a0 = false:=by simpa using cb
   rw [cb]
   refine af.g1 rfl (af.idx a3 (by omega) (af.g1 rfl (af.idx a1 (by omega) (second _ ?_))))
   rw [w3]; simp [cb]
 rintro o ⟨below,rfl,hb1,hb2⟩
 simp only [fH]
 refine af.bind (P:=(· = .inl ())) ?_ ?_
 ·refine af.pass (by omega) (by omega) (by omega) (fun k h1 h2=>?_) rfl
  have hf:=hl.fix k h1 h2
  have c1:((idx fx k) != (decide (idx lv k = 0))) = false:=by
   by_cases c:idx lv k = 0
   ·rw [hf.2 c]; simp [c]
   ·have:idx fx k = false:=by
     cases h:idx fx k with
     | false=>rfl
     | true=>exact absurd (hf.1 h) c
    rw [this]; simp [c]
  rw [dt h1 h2,dt h1 (by omega)]
  simp only [Option.bind_some]
  rw [c1]
  simp only [bx,Bool.not_false,if_true,Option.bind_some,Bool.true_and,Bool.false_or]
  by_cases c:0 < idx lv k
  ·obtain ⟨u,hu,e⟩:=hl.prev k h1 h2 c
   have:idx below k = true:=(hb2 k h1 h2).2 ⟨u,hu,e⟩
   rw [dt h1 (by omega)]
   simp [c,this]
  ·simp [c]
 rintro o rfl
 obtain ⟨n,hn⟩:∃ n,fx.length = n:=⟨_,rfl⟩
 have keyr:∀ c ∈ sets,∀ x ∈ c,0 ≤ x ∧ x < fx.length ∧ ((0 < idx lv x ∧ idx lv x < fx.length) ∨ idx lv x = -1):=fun c hc x hx=>by
  obtain ⟨a,b,d⟩:=(hso c hc).mv x hx
  have h0:idx lv x ≠ 0:=fun h=>by
   have:=(hl.fix x a b).2 h
   rw [d] at this; cases this
  have:=hl.low x a b
  have:=oX hg hl.prev a b
  exact ⟨a,b,by omega⟩
 refine af.bind (P:=(· = .inl ((eU lv sets).length:Int))) ?_ ?_
 ·refine af.rC (fun pre at'=>at' = ((eU lv pre).length:Int)) (by omega) (by omega) rfl (fun pre c post at' e hxi hI=>?_) fun s h=>by rw [h]
  subst hI
  have hc:c ∈ sets:=by rw [e]; simp
  have hin:=(hso c hc).inr hg.1 hl
  have eO:eU lv sets = eU lv pre ++ n9 lv c ++ eU lv post:=by rw [e]; simp [eU]
  have hsl:=(ef lv c).length_eq
  have hol:(eU lv sets).length ≤ fx.length:=by rw [pg]; exact hfl
  have hol2:=congrArg List.length eO
  rw [List.length_append,List.length_append] at hol2
  have hsk:SK lv (n9 lv c):=by
   have h1:(n9 lv c).Nodup:=(ef lv c).nodup_iff.2 (mh (hso c hc).asd)
   have h2:(n9 lv c).Pairwise fun a b=>KK lv a ≤ KK lv b:=(List.pairwise_mergeSort (le:=fun a b:Int=>decide (KK lv a ≤ KK lv b)) (fun a b c h1 h2=>by simp only [decide_eq_true_eq] at *; omega) (fun a b=>by simp only [Bool.or_eq_true,decide_eq_true_eq]; omega) c).imp fun h=>of_decide_eq_true h
   refine List.Pairwise.imp_of_mem (fun {a b} ha hb hab=>?_) (List.pairwise_and_iff.2 ⟨h1,h2⟩)
   obtain ⟨hne,hle⟩:=hab
   have a1:=hin a ((ef lv c).mem_iff.1 ha)
   have b1:=hin b ((ef lv c).mem_iff.1 hb)
   unfold KK at hle ⊢
   omega
  obtain ⟨S,hS⟩:∃ S,n9 lv c = S:=⟨_,rfl⟩
  have hSm:∀ x ∈ S,x ∈ c:=fun x hx=>(ef lv c).mem_iff.1 (hS ▸ hx)
  rw [hS] at hsl hsk eO hol2
  have hnext:(eU lv (pre ++ [c])).length = (eU lv pre).length + S.length:=by rw [nU,List.length_append,hS]
  have hSo:∀ k:Nat,∀ hk:k < S.length,idx (eU lv sets) (((eU lv pre).length:Int) + k) = S[k]:=fun k hk=>by
   rw [eO,show ((eU lv pre).length:Int) + k = (((eU lv pre).length + k:Nat):Int) by push_cast; rfl,dF _ _ (by simp; omega),List.getElem_append_left (by simp; omega),List.getElem_append_right (by omega)]
   simp
  have hcl:=q2 c hc
  refine af.bind (P:=(· = .inl (((eU lv pre).length:Int) + S.length))) (af.bind (P:=(· = .inl (((eU lv pre).length:Int) + S.length))) ?_ (by rintro _ rfl; exact af.some rfl)) (by rintro _ rfl; exact af.some (.inl ⟨_,rfl,by rw [hnext]; push_cast; rfl⟩))
  refine af.rounds (n:=S.length) (I:=fun k z=>z.1 = ((eU lv pre).length:Int) + k ∧ z.2.2 = (k:Int) ∧ ((k = 0 ∧ z.2.1 = 0) ∨ ∃ h:k - 1 < S.length,0 < k ∧ z.2.1 = jq fx.length lv S[k-1])) (by omega) ⟨by simp,rfl,.inl ⟨rfl,rfl⟩⟩ ?_
  rintro k ⟨at',last,k'⟩ hk ⟨h1,h2,h3⟩
  simp only at h1 h2 h3
  subst h1 h2
  simp only [ku]
  refine af.bp hxi (af.ite (fun hc'=>?_) (fun hc'=>?_))
  ·have hkc:=of_decide_eq_true hc'
   have hkS:k < S.length:=by omega
   have hox:=hSo k hkS
   have r1:0 ≤ ((eU lv pre).length:Int) + k:=by omega
   have r2:((eU lv pre).length:Int) + k < (eU lv sets).length:=by omega
   have g1:decide (((eU lv sets).length:Int) ≤ ((eU lv pre).length:Int) + k) = false:=decide_eq_false (by omega)
   have hxc:=hSm S[k] (List.getElem_mem hkS)
   obtain ⟨x1,x2,x3⟩:=keyr c hc S[k] hxc
   refine af.bind (P:=fun o=>o = .inl (jq fx.length lv S[k])) ?_ ?_
   ·rw [g1]
    refine af.g1 rfl (af.bp hxi (af.g1 rfl (af.idx r1 r2 ?_)))
    rw [hox]
    refine af.g1 rfl (af.bp (rQ (F:=2000) (by omega) (by omega)) ?_)
    have hdm:decide (S[k] ∈ c) = true:=decide_eq_true hxc
    rw [hdm]
    have hnow:∀ {τ:Type} {K:Int → Option τ} {Q:τ → Prop},af (K (jq fx.length lv S[k])) Q → af (Option.bind (if (decide (idx lv S[k] < 0)) = true then (dq (IntKind.i64.wrap ((fx.length:Int) + 1)) fun x_56=>some x_56) else (some (idx lv S[k]))) K) Q:=by
     intro τ K Q h
     unfold jq at h
     by_cases cx:idx lv S[k] < 0
     ·rw [if_pos cx] at h
      rw [if_pos (by simpa using cx)]
      simp only [dq]
      rw [bW (by omega) (by omega)]; exact h
     ·rw [if_neg cx] at h
      rw [if_neg (by simpa using cx)]; exact h
    rcases h3 with ⟨rfl,hlast⟩ | ⟨hk1,hk0,hlast⟩
    ·rw [hlast]
     refine af.g0 (by simp) (af.g0 (by simp) (af.iff (by simp) (af.idx r1 r2 ?_)))
     rw [hox]
     refine af.idx x1 (by omega) (hnow ?_)
     have hk00:decide (jq fx.length lv S[0] < 0) = false:=decide_eq_false (by unfold jq; split <;> omega)
     rw [hk00]
     exact af.g0 (by simp) (af.g0 (by simp) (af.iff (by simp) (af.some rfl)))
    ·have w1:IntKind.i64.wrap (((eU lv pre).length:Int) + k - 1) = ((eU lv pre).length:Int) + ((k - 1:Nat):Int):=by rw [bW (by omega) (by omega)]; omega
     have hox1:=hSo (k - 1) hk1
     have hd0:decide (0 < (k:Int)) = true:=decide_eq_true (by omega)
     have hlt:KK lv S[k-1] < KK lv S[k]:=List.pairwise_iff_getElem.1 hsk (k - 1) k hk1 hkS (by omega)
     obtain ⟨y1,y2,y3⟩:=keyr c hc S[k-1] (hSm _ (List.getElem_mem hk1))
     have hkv:∀ x:Int,((0 < idx lv x ∧ idx lv x < fx.length) ∨ idx lv x = -1) → (idx lv x = -1 ∧ kv lv x = 18446744073709551615 ∧ jq fx.length lv x = (fx.length:Int) + 1) ∨ (0 < idx lv x ∧ idx lv x < fx.length ∧ kv lv x = idx lv x ∧ jq fx.length lv x = idx lv x):=fun x hx=>by
      rcases hx with hx | hx
      ·refine .inr ⟨hx.1,hx.2,kv_pos (by omega) (by omega),?_⟩
       unfold jq; rw [if_neg (by omega)]
      ·refine .inl ⟨hx,kv_neg hx,?_⟩
       unfold jq; rw [if_pos (by omega)]
     have hkx:=hkv _ x3
     have hky:=hkv _ y3
     have i1:=hin _ (hSm _ (List.getElem_mem hkS))
     have i2:=hin _ (hSm _ (List.getElem_mem hk1))
     have ht:=(jB (lv:=lv) ⟨i2.1,i2.2.2⟩ ⟨i1.1,i1.2.2⟩).1 hlt
     rw [hd0]
     refine af.g1 rfl (af.idx r1 r2 (af.g1 rfl ?_))
     rw [w1]
     refine af.idx (by omega) (by omega) ?_
     rw [hox,hox1]
     have hne:¬ S[k] = S[k-1]:=fun h=>by rw [h] at hlt; omega
     refine af.iff (by rw [decide_eq_false hne]; rfl) (af.idx r1 r2 ?_)
     rw [hox]
     refine af.idx x1 (by omega) (hnow ?_)
     rw [hlast]
     have c1:decide (jq fx.length lv S[k] < jq fx.length lv S[k-1]) = false:=decide_eq_false (by omega)
     rw [c1]
     by_cases ce:jq fx.length lv S[k] = jq fx.length lv S[k-1]
     ·have c2:decide (jq fx.length lv S[k] = jq fx.length lv S[k-1]) = true:=decide_eq_true ce
      rw [c2]
      refine af.g1 rfl (af.idx r1 r2 (af.g1 rfl (af.idx (by omega) (by omega) ?_)))
      rw [hox,hox1]
      refine af.iff ?_ (af.some rfl)
      simp; omega
     ·have c2:decide (jq fx.length lv S[k] = jq fx.length lv S[k-1]) = false:=decide_eq_false ce
      rw [c2]
      exact af.g0 rfl (af.g0 rfl (af.iff rfl (af.some rfl)))
   ·rintro _ rfl
    refine af.some (.inl ⟨_,rfl,⟨?_,?_,.inr ⟨by simpa using hkS,by omega,by simp⟩⟩,by omega⟩)
    ·simp only; rw [bW (by omega) (by omega)]; push_cast; omega
    ·simp only; rw [bW (by omega) (by omega)]; push_cast; rfl
  ·have hkc:=of_decide_eq_false hc'
   have:k = S.length:=by omega
   subst this
   exact af.some (.inr ⟨_,rfl,rfl⟩)
 ·rintro _ rfl
  exact af.bp lX (af.some (by simp))
end Go.Proofs.Ytgojigdbelkgoaa
namespace Go.Proofs.Ytgojigdbelkgoaa
open Go Go.Sk
theorem sH (x0:List Bool) (x1:List A2):aA Try.prog [] 9 [] [.one (.sl 1 (x0.map eB)),.one (.sl 2 (x1.map (cR .i64)))] (Is [] (.b (.one (.bool true)))) :=
 eK (sG x0 x1)
end Go.Proofs.Ytgojigdbelkgoaa
