/- the plain law -/
import Derived.Test.YtgojigdbelkgoaaW2
namespace Go.Proofs.Ytgojigdbelkgoaa
open Go Go.Sk
set_option maxRecDepth 100000
set_option linter.unusedVariables false
set_option linter.unusedSimpArgs false
def oB (x:Int):List Int → List Int
 | []=>[x]
 | y :: l=>if x ≤ y then x :: y :: l else y :: oB x l
def mM:List Int → List Int
 | []=>[]
 | x :: l=>oB x (mM l)
theorem lx (x:Int):∀ l:List Int,(oB x l).Perm (x :: l)
 | []=>.refl _
 | y :: l=>by
  unfold oB
  split
  ·exact .refl _
  ·exact .trans (.cons y (lx x l)) (.swap x y l)
theorem mn:∀ l:List Int,(mM l).Perm l
 | []=>.refl _
 | x :: l=>(lx x (mM l)).trans (.cons x (mn l))
theorem pM (x:Int):∀ l:List Int,l.Pairwise (· ≤ ·) → (oB x l).Pairwise (· ≤ ·)
 | [],_=>by simp [oB]
 | y :: l,h=>by
  unfold oB
  have h1:=List.pairwise_cons.1 h
  split
  ·next hc=>
   refine List.pairwise_cons.2 ⟨fun z hz=>?_,h⟩
   rcases List.mem_cons.1 hz with rfl | hz
   ·exact hc
   ·exact Int.le_trans hc (h1.1 z hz)
  ·next hc=>
   refine List.pairwise_cons.2 ⟨fun z hz=>?_,pM x l h1.2⟩
   rcases List.mem_cons.1 ((lx x l).mem_iff.1 hz) with rfl | hz
   ·omega
   ·exact h1.1 z hz
theorem n7:∀ l:List Int,(mM l).Pairwise (· ≤ ·)
 | []=>.nil
 | x :: l=>pM x _ (n7 l)
theorem sorted_perm (l:List Int):(sorted l).Perm l:=List.mergeSort_perm _ _
theorem pX (l:List Int):(sorted l).Pairwise (· ≤ ·) :=
 (List.pairwise_mergeSort (le:=fun x y:Int=>decide (x ≤ y)) (fun a b c h1 h2=>by simp only [decide_eq_true_eq] at *; omega) (fun a b=>by simp only [Bool.or_eq_true,decide_eq_true_eq]; omega) l).imp fun h=>of_decide_eq_true h
theorem pY (l:List Int):sorted l = mM l :=
 List.Perm.eq_of_pairwise (fun a b _ _ h1 h2=>Int.le_antisymm h1 h2) (pX l) (n7 l) ((sorted_perm l).trans (mn l).symm)
def sort2 (F:Nat) (zs:List Int):Option (List Int):=if zs.length < 1000000000 then some (mM zs) else none
theorem sort_eq:cL = sort2:=by
 funext F zs
 unfold cL iQ sort2
 rw [pY]
theorem lf:bF 2000 = some true:=by
 unfold bF a8 dO fw dR eQ fy dN bz cu
 rw [sort_eq]
 decide +kernel
end Go.Proofs.Ytgojigdbelkgoaa
namespace Go.Proofs.Ytgojigdbelkgoaa
open Go Go.Sk
set_option linter.unusedVariables false
set_option linter.unusedSimpArgs false
section
variable {F:Nat} (hF:F ≤ 1000000000)
include hF
theorem has35 {l:List Int} {n:Int} (hl:l.length < F):ck F l n = some (decide (n ∈ l)):=by
 refine aC.eq ?_
 unfold ck
 refine aC.bind (P:=fun o:Unit ⊕ Bool=>(o = .inl () ∧ ¬ n ∈ l) ∨ (o = .inr true ∧ n ∈ l)) ?_ ?_
 ·refine aC.find (c:=fun x=>decide (x = n)) (r:=fun _=>true) hl (by omega) (fun h=>.inl ⟨rfl,fun hm=>by have:=h n hm; simp at this⟩) (fun pre x post e _ hc=>.inr ⟨rfl,by rw [e,← of_decide_eq_true hc]; simp⟩) fun i x hx=>by rw [hx]; rfl
 ·rintro o (⟨rfl,h⟩ | ⟨rfl,h⟩)
  ·exact aC.some (by simp [h])
  ·exact aC.some (by simp [h])
theorem with35 {l:List Int} {n:Int} (hl:l.length < F) (hs:nf l):aC (cy F l n) fun o=>nf o ∧ ∀ z,z ∈ o ↔ z = n ∨ z ∈ l:=by
 unfold cy
 refine aC.cn (has35 hF hl) (aC.ite (fun h=>aC.some ⟨hs,fun z=>⟨.inr,?_⟩⟩) fun h=>?_)
 ·have h:=of_decide_eq_true h
  rintro (rfl | h')
  ·exact h
  ·exact h'
 have hn:n ∉ l:=of_decide_eq_false h
 refine aC.bind (P:=fun o:List Int × Bool=>gS (fun x:Int=>x) n l o.1 o.2) ?_ ?_
 ·refine aC.ea3 (I:=fun pre out p=>gS (fun x:Int=>x) n pre out p ∧ out.length ≤ pre.length + 1) hl (by omega) ⟨gS.zero,by simp⟩ ?_ fun a b h=>h.1
  rintro pre x post out p e hx ⟨hI,hlen⟩
  have hlt:∀ a ∈ pre,a < x:=fun a ha=>(List.pairwise_append.1 (e ▸ hs)).2.2 a ha x (List.mem_cons_self ..)
  have hxn:x ≠ n:=fun e'=>hn (by rw [e,← e']; simp)
  have hpl:pre.length < l.length:=by rw [e]; simp
  refine aC.bind (P:=fun z:List Int × Bool=>gS (fun x:Int=>x) n (pre ++ [x]) z.1 z.2 ∧ z.1.length ≤ pre.length + 2) ?_ fun z hz=>aC.some (.inl ⟨_,_,rfl,hz.1,by simpa using hz.2⟩)
  refine aC.bind (P:=fun z:List Int × Bool=>gS (fun x:Int=>x) n (pre ++ [x]) (z.1 ++ [x]) z.2 ∧ z.1.length ≤ pre.length + 1) ?_ ?_
  ·cases p with
   | true=>exact aC.g0 rfl (aC.iff rfl (aC.some ⟨hI.next (.inl rfl) hxn hlt,hlen⟩))
   | false=>
    refine aC.g1 rfl (aC.cn hx (aC.ite (fun hc=>?_) fun hc=>?_))
    ·have hc:n < x:=by simpa using hc
     obtain ⟨A,B,h1,_,_,h | h⟩:=id hI
     ·refine aC.app (by simp only [List.length_singleton]; omega) (aC.some ⟨hI.put hc,?_⟩)
      obtain ⟨_,rfl,rfl⟩:=h
      simp [h1]
     ·exact absurd h.1 (by simp)
    ·have hc:¬ n < x:=by simpa using hc
     exact aC.some ⟨hI.next (.inr (by omega)) hxn hlt,hlen⟩
  ·rintro ⟨o,p'⟩ ⟨h1,h2⟩
   simp only at h1 h2
   exact aC.cn hx (aC.app (by simp only [List.length_singleton]; omega) (aC.some ⟨h1,by simp; omega⟩))
 ·rintro ⟨o,p⟩ hI
  obtain ⟨h1,h2⟩:=hI.fin hs
  simp only at h1 h2 ⊢
  refine aC.bind (P:=(· = if (!p) = true then o ++ [n] else o)) ?_ fun z hz=>aC.some ?_
  ·obtain ⟨A,B,h3,_,_,h | h⟩:=hI
   ·obtain ⟨rfl,rfl,h4⟩:=h
    simp only at h4
    refine aC.ift rfl (aC.app (by rw [h4]; simp only [List.length_singleton]; simp at h3; rw [← h3]; omega) (aC.some rfl))
   ·obtain ⟨rfl,_,_⟩:=h
    exact aC.iff rfl (aC.some rfl)
  ·rw [hz]
   refine ⟨h1,fun z=>?_⟩
   rw [h2.mem_iff,List.mem_cons]
theorem pt {a b B:List Int} (hb:b.length < F) (hs:nf a) (hB:B.length < F) (hsub:∀ z,(z ∈ a ∨ z ∈ b) → z ∈ B):aC (b5 F a b) fun o=>nf o ∧ ∀ z,z ∈ o ↔ z ∈ a ∨ z ∈ b:=by
 unfold b5
 refine aC.bind ?_ (fun o ho=>aC.some ho)
 refine aC.ea2 (I:=fun pre o=>nf o ∧ ∀ z,z ∈ o ↔ z ∈ a ∨ z ∈ pre) hb (by omega) ⟨hs,by simp⟩ ?_ fun s h=>h
 rintro pre x post o e hx ⟨h1,h2⟩
 have hol:o.length < F:=by
  have:o.length ≤ B.length:=nE h1 fun z hz=>hsub z (((h2 z).1 hz).imp_right fun h=>by rw [e]; simp [h])
  omega
 refine aC.cn hx (aC.bind (with35 hF hol h1) fun o' ho'=>aC.some (.inl ⟨_,rfl,ho'.1,fun z=>?_⟩))
 rw [ho'.2,h2,List.mem_append,List.mem_singleton]
 constructor
 ·rintro (h | h | h)
  ·exact .inr (.inr h)
  ·exact .inl h
  ·exact .inr (.inl h)
 ·rintro (h | h | h)
  ·exact .inr (.inl h)
  ·exact .inr (.inr h)
  ·exact .inl h
theorem meets35 {a b:List Int} (ha:a.length < F) (hb:b.length < F):cq F a b = some (a.any fun u=>b.contains u):=by
 refine aC.eq ?_
 unfold cq
 refine aC.bind (P:=fun o:Unit ⊕ Bool=>(o = .inl () ∧ ∀ x ∈ a,b.contains x = false) ∨ (o = .inr true ∧ ∃ x ∈ a,b.contains x = true)) ?_ ?_
 ·refine aC.find (c:=fun x=>b.contains x) (r:=fun _=>true) ha (by omega) (fun h=>.inl ⟨rfl,h⟩) (fun pre x post e _ hc=>.inr ⟨rfl,x,by rw [e]; simp,hc⟩) fun i x hx=>by
   rw [hx,Option.bind_some,has35 hF hb,List.contains_eq_mem]; rfl
 ·rintro o (⟨rfl,h⟩ | ⟨rfl,h⟩)
  ·refine aC.some (Eq.symm ?_)
   rw [List.any_eq_false]; intro x hx; rw [h x hx]; simp
  ·exact aC.some (Eq.symm (List.any_eq_true.2 h))
theorem put35 {l:List (List Int)} {x:List Int} (hl:l.length < F) (hn:∀ c ∈ l,c ≠ []) (hx:x ≠ []) (hs:HdL l) (hd':∀ c ∈ l,hd c ≠ hd x):aC (cJ F l x) fun o=>HdL o ∧ o.Perm (x :: l):=by
 unfold cJ
 have h0:∀ c:List Int,c ≠ [] → aV c 0 = some (hd c):=fun c hc=>by
  cases c with
  | nil=>exact absurd rfl hc
  | cons a c=>exact pO [] c a
 refine aC.bind (P:=fun o:List (List Int) × Bool=>gS hd x l o.1 o.2) ?_ ?_
 ·refine aC.ea3 (I:=fun pre out p=>gS hd x pre out p ∧ out.length ≤ pre.length + 1) hl (by omega) ⟨gS.zero,by simp⟩ ?_ fun a b h=>h.1
  rintro pre y post out p e hy ⟨hI,hlen⟩
  have hlt:∀ a ∈ pre,hd a < hd y:=fun a ha=>(List.pairwise_append.1 (e ▸ hs)).2.2 a ha y (List.mem_cons_self ..)
  have hym:y ∈ l:=by rw [e]; simp
  have hpl:pre.length < l.length:=by rw [e]; simp
  refine aC.bind (P:=fun z:List (List Int) × Bool=>gS hd x (pre ++ [y]) z.1 z.2 ∧ z.1.length ≤ pre.length + 2) ?_ fun z hz=>aC.some (.inl ⟨_,_,rfl,hz.1,by simpa using hz.2⟩)
  refine aC.bind (P:=fun z:List (List Int) × Bool=>gS hd x (pre ++ [y]) (z.1 ++ [y]) z.2 ∧ z.1.length ≤ pre.length + 1) ?_ ?_
  ·cases p with
   | true=>exact aC.g0 rfl (aC.g0 rfl (aC.g0 rfl (aC.iff rfl (aC.some ⟨hI.next (.inl rfl) (hd' y hym) hlt,hlen⟩))))
   | false=>
    refine aC.g1 rfl (aC.cn hy (aC.g1 rfl (aC.cn (h0 y (hn y hym)) (aC.g1 rfl (aC.cn (h0 x hx) (aC.ite (fun hc=>?_) fun hc=>?_))))))
    ·have hc:hd x < hd y:=by simpa using hc
     obtain ⟨A,B,h1,_,_,h | h⟩:=id hI
     ·refine aC.app (by simp only [List.length_singleton]; omega) (aC.some ⟨hI.put hc,?_⟩)
      obtain ⟨_,rfl,rfl⟩:=h
      simp [h1]
     ·exact absurd h.1 (by simp)
    ·have hc:¬ hd x < hd y:=by simpa using hc
     exact aC.some ⟨hI.next (.inr (by omega)) (hd' y hym) hlt,hlen⟩
  ·rintro ⟨o,p'⟩ ⟨h1,h2⟩
   simp only at h1 h2
   exact aC.cn hy (aC.app (by simp only [List.length_singleton]; omega) (aC.some ⟨h1,by simp; omega⟩))
 ·rintro ⟨o,p⟩ hI
  obtain ⟨h1,h2⟩:=hI.fin hs
  simp only at h1 h2 ⊢
  refine aC.bind (P:=(· = if (!p) = true then o ++ [x] else o)) ?_ fun z hz=>aC.some ?_
  ·obtain ⟨A,B,h3,_,_,h | h⟩:=hI
   ·obtain ⟨rfl,rfl,h4⟩:=h
    simp only at h4
    refine aC.ift rfl (aC.app (by rw [h4]; simp only [List.length_singleton]; simp at h3; rw [← h3]; omega) (aC.some rfl))
   ·obtain ⟨rfl,_,_⟩:=h
    exact aC.iff rfl (aC.some rfl)
  ·rw [hz]
   exact ⟨h1,h2⟩
end
def pr (L:List (List Int)) (a b:Int):Prop:=∃ c ∈ L,a ∈ c ∧ b ∈ c
def dm (L:List (List Int)) (a:Int):Prop:=∃ c ∈ L,a ∈ c
theorem pr_dm {L:List (List Int)} (a b:Int) (h:pr L a b):dm L a ∧ dm L b:=by
 obtain ⟨c,hc,h1,h2⟩:=h; exact ⟨⟨c,hc,h1⟩,c,hc,h2⟩
theorem js {L:List (List Int)} (a:Int):dm L a ↔ a ∈ L.flatten:=by
 unfold dm; rw [List.mem_flatten]
theorem pS {P D:_} {s:List (List Int)} {B:List Int} (h:IsPt P D s) (hB:∀ a,D a → a ∈ B) {c:List Int} (hc:c ∈ s):c.length ≤ B.length :=
 nE (h.asd c hc).2 fun a ha=>hB a ((h.dom a).2 ⟨c,hc,ha⟩)
theorem oE {P D:_} {s:List (List Int)} {B:List Int} (h:IsPt P D s) (hB:∀ a,D a → a ∈ B):s.length ≤ B.length:=by
 have:(s.map hd).Nodup:=List.pairwise_map.2 (List.Pairwise.imp_of_mem (fun {c d} hc hd' h' e=>h' _ (fa (h.asd c hc).1) (e ▸ fa (h.asd d hd').1)) h.dj)
 have h2:=nm (m:=B) this fun a ha=>by
  obtain ⟨c,hc,rfl⟩:=List.mem_map.1 ha
  exact hB _ ((h.dom _).2 ⟨c,hc,fa (h.asd c hc).1⟩)
 simpa using h2
theorem pI {F:Nat} (hF:F ≤ 100000000) {L:List (List Int)} (hl:L.length < F) (hB:L.flatten.length < F):aC (bx F L) (Part (pr L) (dm L)):=by
 have hF':F ≤ 1000000000:=by omega
 unfold bx
 refine aC.bind (P:=fun s=>IsPt (pr L) (dm L) s) ?_ ?_
 ·refine aC.ea2 (I:=fun pre s=>IsPt (pr pre) (dm pre) s) hl (by omega) ⟨by simp,by simp,by simp [dm],by simp,by simp⟩ ?_ fun s h=>h
  rintro pre x0 post s e hx hI
  refine aC.bind (P:=fun s'=>IsPt (pr (pre ++ [x0])) (dm (pre ++ [x0])) s') ?_ fun s' h=>aC.some (.inl ⟨_,rfl,h⟩)
  have hx0:∀ z ∈ x0,z ∈ L.flatten:=fun z hz=>(js z).1 ⟨x0,by rw [e]; simp,hz⟩
  have hpre:∀ z,dm pre z → z ∈ L.flatten:=fun z ⟨c,hc,hz⟩=>(js z).1 ⟨c,by rw [e]; simp [hc],hz⟩
  have hx0l:x0.length < F:=by
   have:x0.length ≤ L.flatten.length:=by rw [e]; simp; omega
   omega
  have hsl:s.length < F:=by have:=oE hI hpre; omega
  refine aC.cn hx (aC.bind (pt hF' (B:=L.flatten) hx0l List.Pairwise.nil hB (by simpa using hx0)) ?_)
  rintro x ⟨hxa,hxm⟩
  simp only [List.not_mem_nil,false_or] at hxm
  refine aC.ite (fun hc=>aC.some ?_) fun hc=>?_
  ·have:x0 = []:=by
    have hc:=of_decide_eq_true hc
    have hx':x = []:=List.length_eq_zero_iff.1 (by omega)
    cases x0 with
    | nil=>rfl
    | cons a x0=>have:=(hxm a).2 (List.mem_cons_self ..); rw [hx'] at this; cases this
   subst this
   refine hI.congr (fM.congr (fun a b ⟨c,hc,h⟩=>.of ⟨c,by simp [hc],h⟩) fun a b ⟨c,hc,h⟩=>.of ⟨c,?_,h⟩) fun a=>⟨fun ⟨c,hc,h⟩=>⟨c,by simp [hc],h⟩,fun ⟨c,hc,h⟩=>⟨c,?_,h⟩⟩
   ·rcases List.mem_append.1 hc with hc | hc
    ·exact hc
    ·rw [List.mem_singleton.1 hc] at h; exact absurd h.1 (by simp)
   ·rcases List.mem_append.1 hc with hc | hc
    ·exact hc
    ·rw [List.mem_singleton.1 hc] at h; exact absurd h (by simp)
  ·have hxne:x ≠ []:=by
    rintro rfl; simp at hc
   refine aC.bind (P:=fun o:List Int × List (List Int)=>nf o.1 ∧ (∀ z,z ∈ o.1 ↔ z ∈ x ∨ ∃ c ∈ s,(∃ u ∈ c,u ∈ x) ∧ z ∈ c) ∧ o.2 = s.filter fun c=>!(c.any fun u=>x.contains u)) ?_ ?_
   ·refine aC.ea3 (I:=fun q y rest=>nf y ∧ (∀ z,z ∈ y ↔ z ∈ x ∨ ∃ c ∈ q,(∃ u ∈ c,u ∈ x) ∧ z ∈ c) ∧ rest = q.filter fun c=>!(c.any fun u=>x.contains u)) hsl (by omega) ⟨hxa,by simp,rfl⟩ ?_ fun a b h=>h
    rintro q c post' y rest e' hc' ⟨h1,h2,h3⟩
    have hcs:c ∈ s:=by rw [e']; simp
    have hq:∀ d ∈ q,d ∈ s:=fun d hd=>by rw [e']; simp [hd]
    have hdj:∀ d ∈ q,∀ z ∈ d,z ∉ c:=fun d hd=>(List.pairwise_append.1 (e' ▸ hI.dj)).2.2 d hd c (List.mem_cons_self ..)
    have hcl:c.length < F:=by have:=pS hI hpre hcs; omega
    have hyB:∀ z ∈ y,z ∈ L.flatten:=fun z hz=>by
     rcases (h2 z).1 hz with hz | ⟨d,hd,_,hz⟩
     ·exact hx0 z ((hxm z).1 hz)
     ·exact hpre z ((hI.dom z).2 ⟨d,hq d hd,hz⟩)
    have hyl:y.length < F:=by have:=nE h1 hyB; omega
    have hmt:(c.any fun u=>y.contains u) = c.any fun u=>x.contains u:=by
     rw [Bool.eq_iff_iff,List.any_eq_true,List.any_eq_true]
     simp only [List.contains_eq_mem,decide_eq_true_eq]
     constructor
     ·rintro ⟨u,hu,huy⟩
      rcases (h2 u).1 huy with h | ⟨d,hd,_,hud⟩
      ·exact ⟨u,hu,h⟩
      ·exact absurd hu (hdj d hd u hud)
     ·rintro ⟨u,hu,hux⟩; exact ⟨u,hu,(h2 u).2 (.inl hux)⟩
    refine aC.bind (P:=fun o:List Int × List (List Int)=>nf o.1 ∧ (∀ z,z ∈ o.1 ↔ z ∈ x ∨ ∃ d ∈ q ++ [c],(∃ u ∈ d,u ∈ x) ∧ z ∈ d) ∧ o.2 = (q ++ [c]).filter fun c=>!(c.any fun u=>x.contains u)) ?_ fun o ho=>aC.some (.inl ⟨_,_,rfl,ho⟩)
    refine aC.cn hc' (aC.cn (meets35 hF' hcl hyl) ?_)
    rw [hmt]
    refine aC.ite (fun hm=>?_) fun hm=>?_
    ·have hm':∃ u ∈ c,u ∈ x:=by simpa using hm
     refine aC.cn hc' (aC.bind (pt hF' hcl h1 hB (B:=L.flatten) ?_) fun y' hy'=>aC.some ⟨hy'.1,fun z=>?_,?_⟩)
     ·rintro z (hz | hz)
      ·exact hyB z hz
      ·exact hpre z ((hI.dom z).2 ⟨c,hcs,hz⟩)
     ·rw [hy'.2,h2]
      constructor
      ·rintro ((h | ⟨d,hd,h⟩) | h)
       ·exact .inl h
       ·exact .inr ⟨d,by simp [hd],h⟩
       ·exact .inr ⟨c,by simp,hm',h⟩
      ·rintro (h | ⟨d,hd,h⟩)
       ·exact .inl (.inl h)
       ·rcases List.mem_append.1 hd with hd | hd
        ·exact .inl (.inr ⟨d,hd,h⟩)
        ·rw [List.mem_singleton.1 hd] at h; exact .inr h.2
     ·rw [h3,List.filter_append]
      simp only [List.filter_cons,List.filter_nil,hm]
      simp
    ·have hm':¬ ∃ u ∈ c,u ∈ x:=by simpa using hm
     have hrl:rest.length ≤ s.length:=by
      rw [h3]; refine Nat.le_trans (List.length_filter_le _ _) ?_
      rw [e']; simp
     refine aC.cn hc' (aC.app (by simp only [List.length_singleton]; omega) (aC.some ⟨h1,fun z=>?_,?_⟩))
     ·rw [h2]
      constructor
      ·rintro (h | ⟨d,hd,h⟩)
       ·exact .inl h
       ·exact .inr ⟨d,by simp [hd],h⟩
      ·rintro (h | ⟨d,hd,h⟩)
       ·exact .inl h
       ·rcases List.mem_append.1 hd with hd | hd
        ·exact .inr ⟨d,hd,h⟩
        ·rw [List.mem_singleton.1 hd] at h; exact absurd h.1 hm'
     ·rw [h3,List.filter_append]
      simp only [List.filter_cons,List.filter_nil,hm]
      simp
   ·rintro ⟨y,rest⟩ ⟨h1,h2,h3⟩
    simp only at h1 h2 h3
    have hrl:rest.length ≤ s.length:=by rw [h3]; exact List.length_filter_le _ _
    refine aC.app (by simp only [List.length_singleton]; omega) (aC.some ?_)
    refine hI.add (x:=x) pr_dm hxne h1 h2 (fun a b=>?_) (fun a=>?_) h3
    ·unfold pr
     simp only [List.mem_append,List.mem_singleton]
     constructor
     ·rintro ⟨c,hc | rfl,h⟩
      ·exact .inl ⟨c,hc,h⟩
      ·exact .inr ⟨(hxm a).2 h.1,(hxm b).2 h.2⟩
     ·rintro (⟨c,hc,h⟩ | ⟨h,h'⟩)
      ·exact ⟨c,.inl hc,h⟩
      ·exact ⟨x0,.inr rfl,(hxm a).1 h,(hxm b).1 h'⟩
    ·unfold dm
     simp only [List.mem_append,List.mem_singleton]
     constructor
     ·rintro ⟨c,hc | rfl,h⟩
      ·exact .inl ⟨c,hc,h⟩
      ·exact .inr ((hxm a).2 h)
     ·rintro (⟨c,hc,h⟩ | h)
      ·exact ⟨c,.inl hc,h⟩
      ·exact ⟨x0,.inr rfl,(hxm a).1 h⟩
 ·intro s hs
  have hsl:s.length < F:=by have:=oE hs (fun a=>(js a).1); omega
  refine aC.bind ?_ (fun o ho=>aC.some ho)
  refine aC.ea2 (I:=fun q o=>HdL o ∧ o.Perm q) hsl (by omega) ⟨List.Pairwise.nil,.refl _⟩ ?_ ?_
  ·rintro q c post o e hc ⟨h1,h2⟩
   have hcs:c ∈ s:=by rw [e]; simp
   have hq:∀ d ∈ q,d ∈ s:=fun d hd=>by rw [e]; simp [hd]
   have hol:o.length < F:=by
    rw [h2.length_eq]
    have:q.length < s.length:=by rw [e]; simp
    omega
   have hdj:∀ d ∈ q,∀ z ∈ d,z ∉ c:=fun d hd=>(List.pairwise_append.1 (e ▸ hs.dj)).2.2 d hd c (List.mem_cons_self ..)
   refine aC.cn hc (aC.bind (put35 hF' hol (fun d hd=>(hs.asd d (hq d (h2.mem_iff.1 hd))).1) (hs.asd c hcs).1 h1 fun d hd e=>?_) fun o' ho'=>aC.some (.inl ⟨_,rfl,ho'.1,?_⟩))
   ·have hd':=h2.mem_iff.1 hd
    exact hdj d hd' _ (fa (hs.asd d (hq d hd')).1) (e ▸ fa (hs.asd c hcs).1)
   ·exact ho'.2.trans ((List.Perm.cons c h2).trans (List.perm_append_singleton c q).symm)
  ·rintro o ⟨h1,h2⟩
   exact { asd:=fun c hc=>hs.asd c (h2.mem_iff.1 hc),dj:=(h2.pairwise_iff (fun {a b} h z hz hza=>h z hza hz)).2 hs.dj,dom:=fun a=>by rw [hs.dom]; simp only [h2.mem_iff],con:=fun c hc=>hs.con c (h2.mem_iff.1 hc),cl:=fun c hc=>hs.cl c (h2.mem_iff.1 hc),srt:=h1 }
end Go.Proofs.Ytgojigdbelkgoaa
namespace Go.Proofs.Ytgojigdbelkgoaa
open Go Go.Sk
set_option linter.unusedVariables false
set_option linter.unusedSimpArgs false
def aj (m:bf):List Int:=m.map (·.1)
def cnt (m:bf) (x:Int):Nat:=((aj m).filter fun z=>decide (z < x)).length
theorem cnt_le (m:bf) (x:Int):cnt m x ≤ m.length:=by
 unfold cnt aj; refine Nat.le_trans (List.length_filter_le _ _) ?_; simp
theorem cnt_lt {m:bf} {u x:Int} (hu:ct m u = true) (h:u < x):cnt m u < cnt m x:=by
 have hm:=(gX u m).1 hu
 unfold cnt
 have:∀ ks:List Int,(∀ z,z ∈ ks → True) → (ks.filter fun z=>decide (z < u)).length ≤ (ks.filter fun z=>decide (z < x)).length ∧ (u ∈ ks → (ks.filter fun z=>decide (z < u)).length < (ks.filter fun z=>decide (z < x)).length):=fun ks _=>by
  induction ks with
  | nil=>simp
  | cons a ks ih=>
   have ih:=ih (fun _ _=>trivial)
   simp only [List.filter_cons,List.mem_cons]
   by_cases h1:a < u
   ·have h2:a < x:=by omega
    simp only [h1,h2,decide_true,if_true,List.length_cons]
    refine ⟨by omega,?_⟩
    rintro (rfl | h')
    ·omega
    ·have:=ih.2 h'; omega
   ·by_cases h2:a < x
    ·simp only [h1,h2,decide_true,decide_false,if_true,List.length_cons]
     refine ⟨by have:=ih.1; simp; omega,fun _=>by have:=ih.1; simp; omega⟩
    ·simp only [h1,h2,decide_false]
     refine ⟨by simpa using ih.1,?_⟩
     rintro (rfl | h')
     ·omega
     ·simpa using ih.2 h'
 exact (this (aj m) fun _ _=>trivial).2 hm
theorem pA {F:Nat}:∀ (n:Nat) {m:bf} {r:Int → Int} {x:Int},kT m r → cnt m x < n → aC (b6 F n x m) fun z=>z.1 = r x ∧ kT z.2 r ∧ aj z.2 = if ct m x then aj m else aj m ++ [x]
 | 0,m,r,x,h,hn=>by omega
 | n + 1,m,r,x,h,hn=>by
  show aC (if (!(ct m x)) = true then _ else _) _
  refine aC.ite (fun hc=>?_) fun hc=>?_
  ·have hc:ct m x = false:=by simpa using hc
   refine aC.some ⟨(h.out x hc).symm,h.add hc,?_⟩
   simp only [aj]
   rw [hC]
  ·have hc:ct m x = true:=by simpa using hc
   refine aC.ite (fun he=>aC.some ⟨(h.fix x hc (of_decide_eq_true he)).symm,h,by simp [hc]⟩) fun he=>?_
   have he:=of_decide_eq_false he
   have hu:=h.has x hc
   have hl:ca m x < x:=by have:=h.le x hc; omega
   refine aC.bind (pA n (x:=ca m x) h (by have:=cnt_lt hu hl; omega)) ?_
   rintro ⟨a,m'⟩ ⟨h1,h2,h3⟩
   simp only at h1 h2 h3
   rw [hu,if_pos rfl] at h3
   have e:a = r x:=by rw [h1,h.step x hc]
   have hx':ct m' x = true:=by rw [gX]; show x ∈ aj m'; rw [h3]; exact (gX x m).1 hc
   refine aC.some ⟨e,?_,?_⟩
   ·simp only; rw [e]; exact h2.short hx'
   ·simp only [aj]
    rw [hC,hx',hc]
    exact h3
theorem gi {m:bf} {x:Int}:ct m x = true ↔ x ∈ aj m:=gX x m
theorem oD {F:Nat} {m:bf} {r:Int → Int} {x:Int} (h:kT m r) (hF:m.length < F):aC (bJ F x m) fun z=>z.1 = r x ∧ kT z.2 r ∧ (∀ y,y ∈ aj z.2 ↔ y = x ∨ y ∈ aj m) ∧ z.2.length ≤ m.length + 1 ∧ (ct m x = true → aj z.2 = aj m):=by
 refine (pA F h (by have:=cnt_le m x; omega)).mono ?_
 rintro ⟨a,m'⟩ ⟨h1,h2,h3⟩
 simp only at h1 h2 h3 ⊢
 have hl:(aj m').length = m'.length:=by simp [aj]
 have hl2:(aj m).length = m.length:=by simp [aj]
 refine ⟨h1,h2,fun y=>?_,?_,fun hh=>by rw [h3,hh]; rfl⟩
 ·rw [h3]
  split
  ·next hc=>
   constructor
   ·exact .inr
   ·rintro (rfl | h)
    ·exact gi.1 hc
    ·exact h
  ·simp [or_comm]
 ·rw [← hl,h3]; split <;> simp [hl2]
theorem join_S {F:Nat} {m:bf} {r:Int → Int} {x y:Int} (h:kT m r) (hF:m.length + 1 < F):aC (bK F x y m) fun z=>z.1 = decide (r x ≠ r y) ∧ kT z.2 (jn r x y) ∧ (∀ u,u ∈ aj z.2 ↔ u = x ∨ u = y ∨ u ∈ aj m) ∧ z.2.length ≤ m.length + 2:=by
 unfold bK
 refine aC.bind (oD h (by omega)) ?_
 rintro ⟨a,m1⟩ ⟨rfl,h1,k1,l1,_⟩
 simp only at h1 k1 l1 ⊢
 refine aC.bind (oD h1 (by simp only; omega)) ?_
 rintro ⟨b,m2⟩ ⟨rfl,h2,k2,l2,_⟩
 simp only at h2 k2 l2 ⊢
 have kk:∀ u,u ∈ aj m2 ↔ u = x ∨ u = y ∨ u ∈ aj m:=fun u=>by
  rw [k2,k1]; constructor
  ·rintro (h | h | h)
   ·exact .inr (.inl h)
   ·exact .inl h
   ·exact .inr (.inr h)
  ·rintro (h | h | h)
   ·exact .inr (.inl h)
   ·exact .inl h
   ·exact .inr (.inr h)
 refine aC.ite (fun hc=>?_) fun hc=>?_
 ·have hc:r x = r y:=of_decide_eq_true hc
  have ej:jn r x y = r:=funext fun z=>by unfold jn; rw [hc,Int.max_self,Int.min_self]; split <;> simp_all
  rw [ej]
  exact aC.some ⟨by simp [hc],h2,kk,by simp only; omega⟩
 ·have hc:r x ≠ r y:=of_decide_eq_false hc
  have hx:ct m2 x = true:=gi.2 ((kk x).2 (.inl rfl))
  have hy:ct m2 y = true:=gi.2 ((kk y).2 (.inr (.inl rfl)))
  have hM:ct m2 (max (r x) (r y)) = true:=by
   have a:=(h2.low x hx).2.1
   have b:=(h2.low y hy).2.1
   by_cases hl:r x ≤ r y
   ·rw [Int.max_eq_right hl]; exact b
   ·rw [Int.max_eq_left (by omega)]; exact a
  have ek:aj (cZ m2 (max (r x) (r y)) (min (r x) (r y))) = aj m2:=by
   unfold aj; rw [hC,hM]; rfl
  refine aC.some ⟨by simp [hc],h2.join hx hy hc,fun u=>by simp only; rw [ek]; exact kk u,?_⟩
  have:(aj (cZ m2 (max (r x) (r y)) (min (r x) (r y)))).length = (aj m2).length:=by rw [ek]
  simp only [aj,List.length_map] at this
  simp only; omega
def iG (ps:List (Int × Int)):Int → Int:=ps.foldl (fun r p=>jn r p.1 p.2) fun x=>x
theorem mU (ps:List (Int × Int)) (x y:Int):iG (ps ++ [(x,y)]) = jn (iG ps) x y:=by simp [iG]
theorem p5 (ps:List (Int × Int)) (z:Int):iG ps (iG ps z) = iG ps z:=by
 have:∀ (ps:List (Int × Int)) (r:Int → Int),(∀ z,r (r z) = r z) → ∀ z,ps.foldl (fun r p=>jn r p.1 p.2) r (ps.foldl (fun r p=>jn r p.1 p.2) r z) = ps.foldl (fun r p=>jn r p.1 p.2) r z:=fun ps=>by
  induction ps with
  | nil=>exact fun r h=>h
  | cons p ps ih=>exact fun r h=>ih _ (jn_idem h p.1 p.2)
 exact this ps _ (fun _=>rfl) z
theorem rh:∀ (ps:List (Int × Int)) (a b:Int),iG ps a = iG ps b ↔ fM (fun u v=>(u,v) ∈ ps) a b:=fun ps=>by
 have key:∀ (qs:List (Int × Int)),(∀ a b,iG qs a = iG qs b ↔ fM (fun u v=>(u,v) ∈ qs) a b) → ∀ ps a b,iG (qs ++ ps) a = iG (qs ++ ps) b ↔ fM (fun u v=>(u,v) ∈ qs ++ ps) a b:=fun qs h ps=>by
  induction ps generalizing qs with
  | nil=>simpa using h
  | cons p ps ih=>
   have e:qs ++ p :: ps = (qs ++ [p]) ++ ps:=by simp
   rw [e]
   refine ih _ fun a b=>?_
   rw [show p = (p.1,p.2) from rfl,mU,jn_con (p5 qs) h]
   refine fM.congr (fun u v h=>.of ?_) (fun u v h=>.of ?_) a b
   ·rcases h with h | ⟨rfl,rfl⟩ <;> simp_all
   ·rcases List.mem_append.1 h with h | h
    ·exact .inl h
    ·have:=List.mem_singleton.1 h; simp only [Prod.mk.injEq] at this; exact .inr this
 refine key [] (fun a b=>?_) ps
 refine ⟨fun h=>by show fM _ a b; have:a = b:=h; rw [this]; exact .rfl b,fun h=>?_⟩
 refine h.lift (E:=fun a b=>iG [] a = iG [] b) (fun _=>rfl) (fun _ _ h=>h.symm) (fun _ _ _ h1 h2=>h1.trans h2) fun a b h=>by cases h
def mL (L:List (List Int)):List (Int × Int):=(L.map fun c=>c.map fun n=>(hd c,n)).flatten
theorem ky {L:List (List Int)} {a b:Int}:(a,b) ∈ mL L ↔ ∃ c ∈ L,hd c = a ∧ b ∈ c:=by
 unfold mL
 rw [List.mem_flatten]
 constructor
 ·rintro ⟨l,hl,h⟩
  obtain ⟨c,hc,rfl⟩:=List.mem_map.1 hl
  obtain ⟨n,hn,h⟩:=List.mem_map.1 h
  simp only [Prod.mk.injEq] at h
  exact ⟨c,hc,h.1,h.2 ▸ hn⟩
 ·rintro ⟨c,hc,rfl,h⟩
  exact ⟨_,List.mem_map.2 ⟨c,hc,rfl⟩,List.mem_map.2 ⟨b,h,rfl⟩⟩
theorem con_prs (L:List (List Int)) (a b:Int):fM (fun u v=>(u,v) ∈ mL L) a b ↔ fM (pr L) a b:=by
 refine fM.congr (fun u v h=>?_) (fun u v h=>?_) a b
 ·obtain ⟨c,hc,rfl,h'⟩:=ky.1 h
  exact .of ⟨c,hc,fa (List.ne_nil_of_mem h'),h'⟩
 ·obtain ⟨c,hc,h1,h2⟩:=h
  exact .trans (.symm (.of (ky.2 ⟨c,hc,rfl,h1⟩))) (.of (ky.2 ⟨c,hc,rfl,h2⟩))
theorem oV (L M:List (List Int)):mL (L ++ M) = mL L ++ mL M:=by simp [mL]
theorem pC (L:List (List Int)):(mL L).length = L.flatten.length:=by
 unfold mL
 rw [List.length_flatten,List.length_flatten,List.map_map]
 congr 1
 refine List.map_congr_left fun c _=>?_
 simp
structure St (m:bf) (ps:List (Int × Int)):Prop where
 up:kT m (iG ps)
 keys:∀ u,u ∈ aj m ↔ ∃ p ∈ ps,u = p.1 ∨ u = p.2
 len:m.length ≤ 2 * ps.length
theorem St.nil:St [] []:=⟨kT.nil,by simp [aj],by simp⟩
theorem St.join {F:Nat} {m:bf} {ps:List (Int × Int)} {x y:Int} (h:St m ps) (hF:2 * ps.length + 1 < F):aC (bK F x y m) fun z=>z.1 = decide (iG ps x ≠ iG ps y) ∧ St z.2 (ps ++ [(x,y)]):=by
 refine (join_S h.up (x:=x) (y:=y) (by have:=h.len; omega)).mono ?_
 rintro ⟨b,m'⟩ ⟨h1,h2,h3,h4⟩
 refine ⟨h1,by rw [mU]; exact h2,fun u=>?_,by have:=h.len; simp at h4 ⊢; omega⟩
 rw [h3,h.keys]
 constructor
 ·rintro (h | h | ⟨p,hp,h⟩)
  ·exact ⟨(x,y),by simp,.inl h⟩
  ·exact ⟨(x,y),by simp,.inr h⟩
  ·exact ⟨p,by simp [hp],h⟩
 ·rintro ⟨p,hp,h⟩
  rcases List.mem_append.1 hp with hp | hp
  ·exact .inr (.inr ⟨p,hp,h⟩)
  ·rw [List.mem_singleton.1 hp] at h
   rcases h with h | h
   ·exact .inl h
   ·exact .inr (.inl h)
structure Row (r:Int → Int) (ts:List Int) (at':bf) (out:List (List Int)):Prop where
 len:out.length = (ts.filter fun x=>decide (r x = x)).length
 get:∀ j (h:j < (ts.filter fun x=>decide (r x = x)).length),out[j]? = some (ts.filter fun z=>decide (r z = (ts.filter fun x=>decide (r x = x))[j])) ∧ ca at' ((ts.filter fun x=>decide (r x = x))[j]) = (j:Int)
theorem Row.eq {r:Int → Int} {ts:List Int} {at':bf} {out:List (List Int)} (h:Row r ts at' out):out = canon r ts:=by
 refine List.ext_getElem? fun j=>?_
 unfold canon
 by_cases hj:j < (ts.filter fun x=>decide (r x = x)).length
 ·rw [(h.get j hj).1,List.getElem?_map,List.getElem?_eq_getElem hj]; rfl
 ·rw [List.getElem?_eq_none (by have:=h.len; omega),List.getElem?_eq_none (by rw [List.length_map]; omega)]
theorem Row.step {r:Int → Int} {ts:List Int} {at':bf} {out:List (List Int)} (h:Row r ts at' out) {x:Int} (hx:∀ t ∈ ts,t < x) (hle:∀ z,r z ≤ z) (hi:∀ z,r (r z) = r z) (hr:r x = x ∨ r x ∈ ts) :
  ∃ at2 o2,(at2,o2) = (if r x = x then (cZ at' x (out.length:Int),out ++ [[]]) else (at',out)) ∧ ∃ k:Nat,ca at2 (r x) = (k:Int) ∧ k < o2.length ∧ ∃ row,o2[k]? = some row ∧ Row r (ts ++ [x]) at2 (o2.set k (row ++ [x])):=by
 rcases hr with hr | hr
 ·refine ⟨cZ at' x (out.length:Int),out ++ [[]],by rw [if_pos hr],out.length,by rw [hr,b4,if_pos rfl],by simp,[],by simp,?_⟩
  have e:(ts ++ [x]).filter (fun y=>decide (r y = y)) = ts.filter (fun y=>decide (r y = y)) ++ [x]:=by simp [List.filter_append,hr]
  have hno:ts.filter (fun z=>decide (r z = x)) = []:=by
   rw [List.filter_eq_nil_iff]
   intro z hz
   have:=hx z hz; have:=hle z
   simp only [decide_eq_true_eq]; omega
  refine ⟨by rw [e]; simp [h.len],fun j hj=>?_⟩
  simp only [e,List.length_append,List.length_singleton] at hj
  by_cases hj2:j < (ts.filter fun y=>decide (r y = y)).length
  ·have hm:(ts.filter fun y=>decide (r y = y))[j] ∈ ts:=(List.mem_filter.1 (List.getElem_mem hj2)).1
   have hne:(ts.filter fun y=>decide (r y = y))[j] ≠ x:=Int.ne_of_lt (hx _ hm)
   simp only [e,List.getElem_append_left hj2]
   obtain ⟨h1,h2⟩:=h.get j hj2
   have hjl:j < out.length:=by have:=h.len; omega
   refine ⟨?_,by rw [b4,if_neg hne]; exact h2⟩
   rw [List.getElem?_set,if_neg (by omega),List.getElem?_append_left hjl,h1,List.filter_append]
   have:¬ r x = (ts.filter fun y=>decide (r y = y))[j]:=by rw [hr]; exact fun e=>hne e.symm
   simp [this]
  ·have hj3:j = (ts.filter fun y=>decide (r y = y)).length:=by omega
   subst hj3
   have eg:∀ hh,((ts ++ [x]).filter fun y=>decide (r y = y))[(ts.filter fun y=>decide (r y = y)).length]'hh = x:=fun hh=>by
    simp only [e,List.getElem_append_right (Nat.le_refl _),Nat.sub_self]; rfl
   rw [eg]
   refine ⟨?_,by rw [b4,if_pos rfl,h.len]⟩
   rw [List.getElem?_set,if_pos (by rw [h.len]),if_pos (by simp [h.len]),List.filter_append,hno]
   simp [hr]
 ·have hne:r x ≠ x:=fun e=>by have:=hx _ hr; omega
  have hm:r x ∈ ts.filter fun y=>decide (r y = y):=List.mem_filter.2 ⟨hr,by simpa using hi x⟩
  obtain ⟨k,hk,ek⟩:=List.getElem_of_mem hm
  obtain ⟨h1,h2⟩:=h.get k hk
  have hkl:k < out.length:=by have:=h.len; omega
  refine ⟨at',out,by rw [if_neg hne],k,by rw [← ek]; exact h2,hkl,_,h1,?_⟩
  have e:(ts ++ [x]).filter (fun y=>decide (r y = y)) = ts.filter (fun y=>decide (r y = y)):=by simp [List.filter_append,hne]
  refine ⟨by rw [e,List.length_set,h.len],fun j hj=>?_⟩
  simp only [e] at hj ⊢
  obtain ⟨g1,g2⟩:=h.get j hj
  refine ⟨?_,g2⟩
  rw [List.getElem?_set,List.filter_append]
  by_cases hjk:k = j
  ·subst hjk
   have:r x = (ts.filter fun y=>decide (r y = y))[k]:=ek.symm
   rw [if_pos rfl,if_pos hkl]
   simp [this]
  ·rw [if_neg hjk,g1]
   have hnd:(ts.filter fun y=>decide (r y = y))[j] ≠ r x:=fun e2=>by
    have:=(h.get j hj).2
    rw [e2,← ek,h2] at this
    omega
   have:¬ r x = (ts.filter fun y=>decide (r y = y))[j]:=fun e=>hnd e.symm
   simp [this]
theorem sets_S {F:Nat} (hF:F ≤ 100000000) {m:bf} {r:Int → Int} (h:kT m r) (hl:m.length < F):aC (bz F m) fun z=>z.1 = canon r (sorted (aj m)) ∧ kT z.2 r ∧ aj z.2 = aj m:=by
 unfold bz
 have hkl:(aj m).length = m.length:=by simp [aj]
 refine aC.cn (x:=aj m) (by unfold l4; rw [if_pos (by omega)]; rfl) (aC.cn (x:=sorted (aj m)) (by unfold cL iQ; rw [if_pos (by omega)]) ?_)
 have hsl:(sorted (aj m)).length = m.length:=by rw [(l7 _).length_eq,hkl]
 have hasd:nf (sorted (aj m)):=pz h.nd
 refine aC.bind (P:=fun z:List (List Int) × bf=>z.1 = canon r (sorted (aj m)) ∧ kT z.2 r ∧ aj z.2 = aj m) ?_ fun z hz=>aC.some hz
 refine aC.ea4 (I:=fun pre up at' out=>kT up r ∧ aj up = aj m ∧ Row r pre at' out) (by omega) (by omega) ⟨h,rfl,by simp,by simp⟩ ?_ fun up at' out hI=>⟨hI.2.2.eq,hI.1,hI.2.1⟩
 rintro pre x post up at' out e hx ⟨h1,h2,h3⟩
 have hul:up.length = m.length:=by rw [← hkl,← h2]; simp [aj]
 have hxs:x ∈ sorted (aj m):=by rw [e]; simp
 have hxk:ct up x = true:=gi.2 (by rw [h2]; exact kx.1 hxs)
 have hlt:∀ t ∈ pre,t < x:=fun t ht=>(List.pairwise_append.1 (e ▸ hasd)).2.2 t ht x (List.mem_cons_self ..)
 have hr:r x = x ∨ r x ∈ pre:=by
  by_cases hc:r x = x
  ·exact .inl hc
  ·have hm:r x ∈ sorted (aj m):=kx.2 (by rw [← h2]; exact gi.1 (h1.low x hxk).2.1)
   rw [e] at hm
   have hlx:r x < x:=by have:=h.rle x; omega
   rcases List.mem_append.1 hm with hm | hm
   ·exact .inr hm
   ·rcases List.mem_cons.1 hm with hm | hm
    ·exact absurd hm hc
    ·have:=(List.pairwise_cons.1 (List.pairwise_append.1 (e ▸ hasd)).2.1).1 _ hm
     omega
 have hol:out.length ≤ pre.length:=by rw [h3.len]; exact List.length_filter_le _ _
 have hpl:pre.length < m.length:=by rw [← hsl,e]; simp
 refine aC.bind (P:=fun z:bf × bf × List (List Int)=>kT z.1 r ∧ aj z.1 = aj m ∧ Row r (pre ++ [x]) z.2.1 z.2.2) ?_ fun z hz=>aC.some (.inl ⟨_,_,_,rfl,hz⟩)
 refine aC.cn hx (aC.bind (oD h1 (by omega)) ?_)
 rintro ⟨a,up2⟩ ⟨rfl,g1,_,_,g2⟩
 simp only at g1 g2 ⊢
 obtain ⟨at2,o2,e2,k,hk,hk2,row,hrow,hR⟩:=h3.step hlt h.rle h.idem hr
 have hbl:out.length + 1 ≤ 1000000000:=by omega
 refine aC.bind (P:=(· = (at2,o2))) ?_ ?_
 ·rw [e2]
  refine aC.ite (fun hc=>?_) fun hc=>?_
  ·have hc:=of_decide_eq_true hc
   exact aC.app (by simp only [List.length_singleton]; omega) (aC.some (by rw [if_pos hc]))
  ·have hc:=of_decide_eq_false hc
   exact aC.some (by rw [if_neg hc])
 ·rintro z rfl
  simp only
  have hix:aV o2 (ca at2 (r x)) = some row:=by
   rw [hk,jq (by omega) (by omega),lT _ _ hk2]
   rw [List.getElem?_eq_getElem hk2] at hrow; exact hrow
  have hrl:row.length ≤ pre.length:=by
   have:o2.set k (row ++ [x]) = canon r (pre ++ [x]):=hR.eq
   have h4:row ++ [x] ∈ canon r (pre ++ [x]):=by
    rw [← this]; exact List.mem_iff_getElem?.2 ⟨k,by rw [List.getElem?_set,if_pos rfl,if_pos hk2]⟩
   unfold canon at h4
   obtain ⟨q,_,hq⟩:=List.mem_map.1 h4
   have h5:=congrArg List.length hq
   have h6:=List.length_filter_le (fun z=>decide (r z = q)) (pre ++ [x])
   simp only [List.length_append,List.length_singleton] at h5 h6
   omega
  refine aC.cn hix (aC.app (by simp only [List.length_singleton]; omega) (aC.cn hix (aC.some ⟨g1,by rw [g2 hxk]; exact h2,?_⟩)))
  simp only
  rw [hk,Int.toNat_natCast]
  exact hR
theorem pZ {F:Nat} (hF:F ≤ 100000000) {m:bf} {ps:List (Int × Int)} (h:St m ps) (hl:2 * ps.length < F):aC (bz F m) fun z=>Part (fun a b=>(a,b) ∈ ps) (fun a=>∃ p ∈ ps,a = p.1 ∨ a = p.2) z.1 ∧ St z.2 ps:=by
 refine (sets_S hF h.up (by have:=h.len; omega)).mono ?_
 rintro ⟨o,m'⟩ ⟨h1,h2,h3⟩
 simp only at h1 h2 h3 ⊢
 have hk:∀ u,u ∈ sorted (aj m) ↔ ∃ p ∈ ps,u = p.1 ∨ u = p.2:=fun u=>by rw [kx,h.keys]
 refine ⟨?_,h2,fun u=>by rw [h3,h.keys],?_⟩
 ·rw [h1]
  have hp:=pf (r:=iG ps) (P:=fun a b=>(a,b) ∈ ps) (pz h.up.nd) h.up.rle h.up.idem (fun z hz=>?_) (rh ps) fun a b hab=>?_
  ·exact hp.congr (fun _ _=>.rfl) hk
  ·exact kx.2 (gi.1 (h.up.low z (gi.2 (kx.1 hz))).2.1)
  ·exact ⟨fun _=>(hk b).2 ⟨(a,b),hab,.inr rfl⟩,fun _=>(hk a).2 ⟨(a,b),hab,.inl rfl⟩⟩
 ·have:(aj m').length = (aj m).length:=by rw [h3]
  simp only [aj,List.length_map] at this
  have:=h.len
  omega
theorem rz {F:Nat} (hF:F ≤ 100000000) {Ls:List (List (List Int))} (h1:Ls.length < F) (h2:Ls.flatten.length < F) (h3:2 * Ls.flatten.flatten.length + 1 < F):aC (a8 F Ls) (Part (pr Ls.flatten) (dm Ls.flatten)):=by
 unfold a8
 refine aC.bind (P:=fun m=>St m (mL Ls.flatten)) ?_ ?_
 ·refine aC.ea2 (I:=fun pre m=>St m (mL pre.flatten)) h1 (by omega) St.nil ?_ fun s h=>h
  rintro pre L post m e hL hI
  have eL:Ls.flatten = pre.flatten ++ L ++ post.flatten:=by rw [e]; simp
  have hLl:L.length ≤ Ls.flatten.length:=by rw [eL]; simp only [List.length_append]; omega
  refine aC.bind (P:=fun m'=>St m' (mL (pre ++ [L]).flatten)) ?_ fun m' h=>aC.some (.inl ⟨_,rfl,h⟩)
  refine aC.cn hL (aC.bind ?_ fun m' h=>aC.some h)
  refine aC.ea2 (I:=fun q m=>St m (mL (pre.flatten ++ q))) (by omega) (by omega) (by simpa using hI) ?_ fun s h=>by simpa using h
  rintro q c post' m e' hc hI
  have eL2:Ls.flatten = (pre.flatten ++ q) ++ c :: (post' ++ post.flatten):=by rw [eL,e']; simp
  have hlen:(mL (pre.flatten ++ q)).length + c.length ≤ Ls.flatten.flatten.length:=by
   rw [pC,eL2]; simp; omega
  refine aC.bind (P:=fun m'=>St m' (mL (pre.flatten ++ (q ++ [c])))) ?_ fun m' h=>aC.some (.inl ⟨_,rfl,h⟩)
  refine aC.cn hc (aC.bind (P:=fun m'=>St m' (mL (pre.flatten ++ (q ++ [c])))) ?_ fun m' h=>aC.some h)
  refine aC.ea2 (I:=fun t m=>St m (mL (pre.flatten ++ q) ++ t.map fun n=>(hd c,n))) (by omega) (by omega) (by simpa using hI) ?_ fun s h=>?_
  ·rintro t n post'' m e'' hn hI
   have hc0:aV c 0 = some (hd c):=by
    cases c with
    | nil=>simp at e''
    | cons a c=>exact pO [] c a
   have htl:t.length < c.length:=by rw [e'']; simp
   refine aC.cn hn (aC.cn hc0 (aC.bind (hI.join (x:=hd c) (y:=n) (by simp only [List.length_append,List.length_map]; omega)) ?_))
   rintro ⟨b,m'⟩ ⟨_,hs⟩
   refine aC.some (.inl ⟨_,rfl,?_⟩)
   simpa [List.map_append] using hs
  ·have:mL (pre.flatten ++ (q ++ [c])) = mL (pre.flatten ++ q) ++ c.map fun n=>(hd c,n):=by
    rw [← List.append_assoc,oV]; simp [mL]
   rw [this]; exact h
 ·intro m hm
  refine aC.bind (pZ hF hm (by rw [pC]; omega)) ?_
  rintro ⟨o,m'⟩ ⟨hp,_⟩
  refine aC.some (hp.congr (con_prs _) fun a=>?_)
  unfold dm
  constructor
  ·rintro ⟨⟨u,v⟩,hp,h⟩
   obtain ⟨c,hc,rfl,hv⟩:=ky.1 hp
   rcases h with h | h
   ·exact ⟨c,hc,by simp only at h; rw [h]; exact fa (List.ne_nil_of_mem hv)⟩
   ·exact ⟨c,hc,by simp only at h; rw [h]; exact hv⟩
  ·rintro ⟨c,hc,h⟩
   exact ⟨(hd c,a),ky.2 ⟨c,hc,rfl,h⟩,.inr rfl⟩
theorem ry {F:Nat} (hF:F ≤ 100000000) {Ls:List (List (List Int))} (h1:Ls.length < F) (h2:Ls.flatten.length < F) (h3:2 * Ls.flatten.flatten.length + 1 < F):a8 F Ls = bx F Ls.flatten:=by
 obtain ⟨a,e1,p1⟩:=rz hF h1 h2 h3
 obtain ⟨b,e2,p2⟩:=pI hF h2 (by omega)
 rw [e1,e2,p1.uniq p2]
theorem same_ok {l:List Int} (hl:l.length ≤ 1000):bo 2000 l l = some true:=by
 refine aC.eq ?_
 unfold bo
 refine aC.iff (by simp) ?_
 refine aC.bind (P:=(· = .inl ())) ?_ ?_
 ·refine aC.rounds (n:=l.length) (I:=fun k s=>s = (k:Int)) (by omega) rfl ?_
  rintro k s hk rfl
  refine aC.ite (fun hc=>?_) (fun hc=>?_)
  ·have hc:(k:Int) < l.length:=of_decide_eq_true hc
   rw [nQ (by omega) (by omega)]
   refine aC.idx (by omega) hc (aC.idx (by omega) hc (aC.iff (by simp) (aC.some (.inl ⟨_,rfl,by push_cast; rfl,by omega⟩))))
  ·exact aC.some (.inr ⟨_,rfl,rfl⟩)
 ·rintro o rfl
  exact aC.some rfl
theorem aC.pass {τ:Type} {A:Int → Option (Int ⊕ τ)} {g:τ} {N st:Int} {F:Nat} {Q:τ → Prop} (h0:0 ≤ st) (hN:N ≤ 1000000000) (hF:(N - st).toNat < F) (h:∀ k,st ≤ k → k < N → A k = Option.some (.inl (IntKind.i64.wrap (k + 1)))) (hq:Q g):aC (iter F (fun i=>if decide (i < N) = true then A i else Option.some (.inr g)) st) Q:=by
 refine aC.rounds (n:=(N - st).toNat) (I:=fun k s=>s = st + (k:Int)) hF (by simp) ?_
 rintro k s hk rfl
 refine aC.ite (fun hc=>?_) fun hc=>?_
 ·have hc:=of_decide_eq_true hc
  rw [h _ (by omega) hc]
  refine aC.some (.inl ⟨_,rfl,?_,by omega⟩)
  rw [nQ (by omega) (by omega)]; push_cast; omega
 ·exact aC.some (.inr ⟨_,rfl,hq⟩)
theorem sets_ok {l:List (List Int)} (hl:l.length ≤ 1000) (hc:∀ c ∈ l,c.length ≤ 1000):aL 2000 l l = some true:=by
 refine aC.eq ?_
 unfold aL
 refine aC.iff (by simp) (aC.bind (P:=(· = .inl ())) ?_ (fun o ho=>by rw [ho]; exact aC.some rfl))
 refine aC.pass (by omega) (by omega) (by omega) (fun k h1 h2=>?_) rfl
 rw [jq h1 h2]
 simp only [Option.bind_some]
 rw [same_ok (hc _ (idx_mem h1 h2))]; rfl
def mg (L:List (List Int)):List (List Int):=(bx 2000 L).getD []
def Sz (L:List (List Int)):Prop:=L.length < 990 ∧ L.flatten.length < 990
theorem fo {L:List (List Int)} (h:Sz L):bx 2000 L = some (mg L) ∧ Part (pr L) (dm L) (mg L):=by
 obtain ⟨h1,h2⟩:=h
 obtain ⟨o,e,p⟩:=pI (F:=2000) (by omega) (L:=L) (by omega) (by omega)
 unfold mg
 rw [e]
 exact ⟨rfl,p⟩
theorem l5 {Ls:List (List (List Int))} (h:Sz Ls.flatten) (hl:Ls.length < 2000):a8 2000 Ls = some (mg Ls.flatten):=by
 rw [ry (by omega) hl (by have:=h.1; omega) (by have:=h.2; omega)]
 exact (fo h).1
theorem pH {L:List (List Int)} {o:List (List Int)} (h:Sz L) (hp:Part (pr L) (dm L) o):mg L = o:=(fo h).2.uniq hp
theorem mg_sz {L:List (List Int)} (h:Sz L):(mg L).length ≤ L.flatten.length ∧ (∀ c ∈ mg L,c.length ≤ L.flatten.length) :=
 ⟨oE (fo h).2.toIsPt fun a=>(js a).1,fun c hc=>pS (fo h).2.toIsPt (fun a=>(js a).1) hc⟩
theorem mg_dom {L:List (List Int)} (h:Sz L) (a:Int):(∃ c ∈ mg L,a ∈ c) ↔ dm L a:=((fo h).2.dom a).symm
theorem flat8:∀ {L:List (List Int)},(∀ c ∈ L,c.length ≤ 8) → L.flatten.length ≤ 8 * L.length
 | [],_=>by simp
 | c :: L,h=>by
  have:=flat8 (L:=L) fun d hd=>h d (List.mem_cons_of_mem _ hd)
  have:=h c (List.mem_cons_self ..)
  simp only [List.flatten_cons,List.length_append,List.length_cons]; omega
theorem dm_perm {L M:List (List Int)} (h:∀ c,c ∈ L ↔ c ∈ M) (a:Int):dm L a ↔ dm M a:=⟨fun ⟨c,h1,h2⟩=>⟨c,(h c).1 h1,h2⟩,fun ⟨c,h1,h2⟩=>⟨c,(h c).2 h1,h2⟩⟩
theorem pD {L M:List (List Int)} (h:∀ c,c ∈ L ↔ c ∈ M) (a b:Int):pr L a b ↔ pr M a b:=⟨fun ⟨c,h1,h2⟩=>⟨c,(h c).1 h1,h2⟩,fun ⟨c,h1,h2⟩=>⟨c,(h c).2 h1,h2⟩⟩
theorem mg_perm {L M:List (List Int)} (hL:Sz L) (hM:Sz M) (h:∀ c,c ∈ L ↔ c ∈ M):mg L = mg M :=
 pH hL ((fo hM).2.congr (fM.congr (fun a b hab=>.of ((pD h a b).2 hab)) (fun a b hab=>.of ((pD h a b).1 hab))) fun a=>(dm_perm h a).symm)
theorem mg_idem {L:List (List Int)} (hL:Sz L) (hM:Sz (mg L)):mg (mg L) = mg L:=by
 have hp:=(fo hL).2
 refine pH hM (hp.congr (fM.congr (fun a b ⟨c,hc,ha,hb⟩=>?_) (fun a b ⟨c,hc,ha,hb⟩=>hp.con c hc a ha b hb)) fun a=>?_)
 ·obtain ⟨d,hd,had⟩:=(hp.dom a).1 ⟨c,hc,ha⟩
  exact .of ⟨d,hd,had,(hp.cl d hd a b ⟨c,hc,ha,hb⟩).1 had⟩
 ·exact hp.dom a
theorem sub_at {l:List (List Int)} {i:Int} (h0:0 ≤ i) (h1:i < l.length):pV l i (i + 1) = some [idx l i]:=by
 unfold pV
 rw [if_pos ⟨h0,by omega,by omega⟩]
 congr 1
 have h2:=idx_eq h0 h1
 have h3:i.toNat < l.length:=by omega
 rw [show (i + 1).toNat = i.toNat + 1 by omega,List.take_add_one,h2,Option.toList_some,List.drop_append_of_le_length (by rw [List.length_take]; omega),List.drop_eq_nil_of_le (by rw [List.length_take]; omega)]
 rfl
theorem mW (l:List (List Int)):(l.map fun c=>[c]).flatten = l:=by induction l with
 | nil=>rfl
 | cons a l ih=>simp [ih]
theorem o6 (a b:List (List Int)) (hab:a.length + b.length ≤ 1000000000):ba 2000 a b = some true:=by
 refine aC.eq ?_
 unfold ba
 refine aC.app (by simp; omega) (aC.app (by simpa using hab) (aC.ln ?_))
 simp only [List.nil_append]
 refine aC.ite (fun hc=>aC.cn lf (aC.some rfl)) (fun hc=>?_)
 simp only [Bool.or_eq_false_iff,decide_eq_false_iff_not] at hc
 have hl:(a ++ b).length ≤ 40:=by rw [List.length_append]; omega
 refine aC.bind (P:=fun o=>(o = .inl (a ++ b,(a ++ b).map fun c=>[c]) ∧ ∀ c ∈ a ++ b,c.length ≤ 8) ∨ o = .inr true) ?_ ?_
 ·refine aC.rounds (n:=(a ++ b).length) (I:=fun k s=>s = (a ++ b,((a ++ b).take k).map (fun c=>[c]),(k:Int)) ∧ ∀ c ∈ (a ++ b).take k,c.length ≤ 8) (by omega) ⟨by simp,by simp⟩ ?_
  rintro k s hk ⟨rfl,hI⟩
  simp only [kj]
  refine aC.ite (fun hc=>?_) (fun hc=>?_)
  ·have hc:(k:Int) < (a ++ b).length:=of_decide_eq_true hc
   refine aC.idx (by omega) hc ?_
   refine aC.ite (fun h8=>aC.cn lf (aC.some (.inr ⟨_,rfl,.inr rfl⟩))) (fun h8=>?_)
   have h8:¬ 8 < ((idx (a ++ b) (k:Int)).length:Int):=of_decide_eq_false h8
   rw [nQ (by omega) (by omega)]
   refine aC.cn (sub_at (by omega) hc) (aC.app (by simp; omega) (aC.some (.inl ⟨_,rfl,⟨?_,?_⟩,by omega⟩)))
   ·have h2:=idx_eq (xs:=a ++ b) (by omega:0 ≤ (k:Int)) hc
    rw [List.take_add_one,show (a ++ b)[k]? = some (idx (a ++ b) (k:Int)) from h2]
    simp
   ·have h2:=idx_eq (xs:=a ++ b) (by omega:0 ≤ (k:Int)) hc
    intro c hcm
    rw [List.take_add_one,show (a ++ b)[k]? = some (idx (a ++ b) (k:Int)) from h2] at hcm
    rcases List.mem_append.1 hcm with hcm | hcm
    ·exact hI c hcm
    ·simp at hcm; subst hcm; omega
  ·have hc:¬ (k:Int) < (a ++ b).length:=of_decide_eq_false hc
   have:k = (a ++ b).length:=by omega
   subst this
   rw [List.take_length] at hI
   exact aC.some (.inr ⟨_,rfl,.inl ⟨by rw [List.take_length],hI⟩⟩)
 ·rintro o (⟨rfl,h8⟩ | rfl)
  ·have hf:=flat8 h8
   have hz:Sz (a ++ b):=⟨by omega,by omega⟩
   have hz2:Sz (b ++ a):=by
    refine ⟨by rw [List.length_append] at hl ⊢; omega,?_⟩
    have:=hz.2
    rw [List.flatten_append,List.length_append] at this ⊢; omega
   have hsz:=mg_sz hz
   have hz3:Sz (mg (a ++ b)):=by
    refine ⟨by have:=hz.2; omega,?_⟩
    have hd:(mg (a ++ b)).flatten.Nodup:=by
     exact List.pairwise_flatten.2 ⟨fun c hc=>nc ((fo hz).2.asd c hc).2,(fo hz).2.dj.imp fun {c d} h=>fun x hx y hy=>fun (e:x = y)=>h x hx (by rw [e]; exact hy)⟩
    have:=nm hd (m:=(a ++ b).flatten) fun z hz'=>(js z).1 ((mg_dom hz z).1 (by obtain ⟨c,h1,h2⟩:=List.mem_flatten.1 hz'; exact ⟨c,h1,h2⟩))
    have:=hz.2
    omega
   have hs:aL 2000 (mg (a ++ b)) (mg (a ++ b)) = some true:=sets_ok (by have:=hz3.1; omega) (fun c hc=>by have:=hsz.2 c hc; have:=hz.2; omega)
   have m1:a8 2000 [a,b] = some (mg (a ++ b)):=by
    have:=l5 (Ls:=[a,b]) (by simpa using hz) (by simp); simpa using this
   have m2:a8 2000 [b,a] = some (mg (a ++ b)):=by
    have:=l5 (Ls:=[b,a]) (by simpa using hz2) (by simp)
    rw [this]; simp only [List.flatten_cons,List.flatten_nil,List.append_nil]
    rw [mg_perm hz2 hz (fun c=>by simp [or_comm])]
   have m3:a8 2000 [a ++ b] = some (mg (a ++ b)):=by
    have:=l5 (Ls:=[a ++ b]) (by simpa using hz) (by simp); simpa using this
   have m4:a8 2000 ((a ++ b).map fun c=>[c]) = some (mg (a ++ b)):=by
    have:=l5 (Ls:=(a ++ b).map fun c=>[c]) (by rw [mW]; exact hz) (by rw [List.length_map]; omega)
    rwa [mW] at this
   have m5:a8 2000 [mg (a ++ b)] = some (mg (a ++ b)):=by
    have:=l5 (Ls:=[mg (a ++ b)]) (by simpa using hz3) (by simp)
    rw [this]; simp only [List.flatten_cons,List.flatten_nil,List.append_nil]
    rw [mg_idem hz hz3]
   refine aC.cn (fo hz).1 (aC.cn lf ?_)
   exact aC.g1 rfl (aC.cn m1 (aC.g1 rfl (aC.cn hs (aC.g1 rfl (aC.cn m2 (aC.g1 rfl (aC.cn hs (aC.g1 rfl (aC.cn m3 (aC.g1 rfl (aC.cn hs (aC.g1 rfl (aC.cn m4 (aC.g1 rfl (aC.cn hs (aC.g1 rfl (aC.cn m5 (aC.g1 rfl (aC.cn hs (aC.some rfl))))))))))))))))))))
  ·exact aC.some rfl
theorem pa (a b:List (List Int)) (ha:a.length ≤ 1048576) (hb:b.length ≤ 1048576):ba 2000 a b = some true:=o6 a b (by omega)
theorem ld {H:Type}:∀ {l:List (DataW H)} {d:DataW H},d ∈ l → Rows.uptoBulk d ≤ Rows.uptoBulkAll l
 | a :: l,d,h=>by
  rw [Rows.uptoBulkAll]
  rcases List.mem_cons.1 h with rfl | h
  ·omega
  ·have:=ld h; omega
theorem mZ {H:Type}:∀ (l:List (DataW H)),l.length ≤ Rows.uptoBulkAll l
 | []=>by simp
 | a :: l=>by
  rw [Rows.uptoBulkAll,List.length_cons]
  have:=mZ l
  have:1 ≤ Rows.uptoBulk a:=by cases a with
   | lit x=>cases x <;> simp [Rows.uptoBulk]
   | _=>simp [Rows.uptoBulk]
  omega
theorem pQ {H:Type}:qn (H:=H) Rows.uptoBulk where
 len els sp:=by rw [Rows.uptoBulk]; have:=mZ els; omega
 sl els sp d hd:=by rw [Rows.uptoBulk]; have:=ld hd; omega
 agg ps d hd:=by rw [Rows.uptoBulk]; have:=ld hd; omega
theorem mu {H:Type} {ds:List (DataW H)} (h:Rows.uptoSmall H ds = true):Rows.uptoBulkAll ds ≤ 1048576:=of_decide_eq_true h
end Go.Proofs.Ytgojigdbelkgoaa
namespace Go.Proofs.Ytgojigdbelkgoaa
open Go Go.Sk
theorem pb (x0:List (List Int)) (x1:List (List Int)) (hx0:x0.length ≤ 1048576) (hx1:x1.length ≤ 1048576):ar Try.prog [] 5 [] [.one (.sl 1 (x0.map (eL 1 eI))),.one (.sl 1 (x1.map (eL 1 eI)))] (Is [] (.b (.one (.bool true)))) :=
 dr (pa x0 x1 hx0 hx1)
end Go.Proofs.Ytgojigdbelkgoaa
