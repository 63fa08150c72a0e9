/- the plain law -/
import Derived.Test.YtgojigdbelkgoaaW2
namespace Go.Proofs.Ytgojigdbelkgoaa
open Go Go.Sk
set_option maxRecDepth 100000
set_option linter.unusedVariables false
set_option linter.unusedSimpArgs false
def qk (x:Int):List Int → List Int
 | []=>[x]
 | y :: l=>if x ≤ y then x :: y :: l else y :: qk x l
def n7:List Int → List Int
 | []=>[]
 | x :: l=>qk x (n7 l)
theorem mK (x:Int):∀ l:List Int,(qk x l).Perm (x :: l)
 | []=>.refl _
 | y :: l=>by
  unfold qk
  split
  ·exact .refl _
  ·exact .trans (.cons y (mK x l)) (.swap x y l)
theorem nL:∀ l:List Int,(n7 l).Perm l
 | []=>.refl _
 | x :: l=>(mK x (n7 l)).trans (.cons x (nL l))
theorem rz (x:Int):∀ l:List Int,l.Pairwise (· ≤ ·) → (qk x l).Pairwise (· ≤ ·)
 | [],_=>by simp [qk]
 | y :: l,h=>by
  unfold qk
  have h1:=List.pairwise_cons.1 h
  split
  ·next hc=>
   refine List.pairwise_cons.2 ⟨fun z hz=>?_,h⟩
   rcases List.mem_cons.1 hz with rfl | hz
   ·exact hc
   ·exact Int.le_trans hc (h1.1 z hz)
  ·next hc=>
   refine List.pairwise_cons.2 ⟨fun z hz=>?_,rz x l h1.2⟩
   rcases List.mem_cons.1 ((mK x l).mem_iff.1 hz) with rfl | hz
   ·omega
   ·exact h1.1 z hz
theorem pR:∀ l:List Int,(n7 l).Pairwise (· ≤ ·)
 | []=>.nil
 | x :: l=>rz x _ (pR l)
theorem sorted_perm (l:List Int):(sorted l).Perm l:=List.mergeSort_perm _ _
theorem rL (l:List Int):(sorted l).Pairwise (· ≤ ·) :=
 (List.pairwise_mergeSort (le:=fun x y:Int=>decide (x ≤ y)) (fun a b c h1 h2=>by simp only [decide_eq_true_eq] at *; omega) (fun a b=>by simp only [Bool.or_eq_true,decide_eq_true_eq]; omega) l).imp fun h=>of_decide_eq_true h
theorem rO (l:List Int):sorted l = n7 l :=
 List.Perm.eq_of_pairwise (fun a b _ _ h1 h2=>Int.le_antisymm h1 h2) (rL l) (pR l) ((sorted_perm l).trans (nL l).symm)
def sort2 (F:Nat) (zs:List Int):Option (List Int):=if zs.length < 1000000000 then some (n7 zs) else none
theorem sort_eq:dh = sort2:=by
 funext F zs
 unfold dh jN sort2
 rw [rO]
theorem my:ca 2000 = some true:=by
 unfold ca fH eH gg eW cB cP dL bH cR
 rw [sort_eq]
 decide +kernel
end Go.Proofs.Ytgojigdbelkgoaa
namespace Go.Proofs.Ytgojigdbelkgoaa
open Go Go.Sk
set_option linter.unusedVariables false
set_option linter.unusedSimpArgs false
section
variable {F:Nat} (hF:F ≤ 1000000000)
include hF
theorem has35 {l:List Int} {n:Int} (hl:l.length < F):cD F l n = some (decide (n ∈ l)):=by
 refine ah.eq ?_
 unfold cD
 refine ah.bind (P:=fun o:Unit ⊕ Bool=>(o = .inl () ∧ ¬ n ∈ l) ∨ (o = .inr true ∧ n ∈ l)) ?_ ?_
 ·refine ah.find (c:=fun x=>decide (x = n)) (r:=fun _=>true) hl (by omega) (fun h=>.inl ⟨rfl,fun hm=>by have:=h n hm; simp at this⟩) (fun pre x post e _ hc=>.inr ⟨rfl,by rw [e,← of_decide_eq_true hc]; simp⟩) fun i x hx=>by rw [hx]; rfl
 ·rintro o (⟨rfl,h⟩ | ⟨rfl,h⟩)
  ·exact ah.some (by simp [h])
  ·exact ah.some (by simp [h])
theorem with35 {l:List Int} {n:Int} (hl:l.length < F) (hs:n5 l):ah (cV F l n) fun o=>n5 o ∧ ∀ z,z ∈ o ↔ z = n ∨ z ∈ l:=by
 unfold cV
 refine ah.a8 (has35 hF hl) (ah.ite (fun h=>ah.some ⟨hs,fun z=>⟨.inr,?_⟩⟩) fun h=>?_)
 ·have h:=of_decide_eq_true h
  rintro (rfl | h')
  ·exact h
  ·exact h'
 have hn:n ∉ l:=of_decide_eq_false h
 refine ah.bind (P:=fun o:List Int × Bool=>iN (fun x:Int=>x) n l o.1 o.2) ?_ ?_
 ·refine ah.ea3 (I:=fun pre out p=>iN (fun x:Int=>x) n pre out p ∧ out.length ≤ pre.length + 1) hl (by omega) ⟨iN.zero,by simp⟩ ?_ fun a b h=>h.1
  rintro pre x post out p e hx ⟨hI,hlen⟩
  have hlt:∀ a ∈ pre,a < x:=fun a ha=>(List.pairwise_append.1 (e ▸ hs)).2.2 a ha x (List.mem_cons_self ..)
  have hxn:x ≠ n:=fun e'=>hn (by rw [e,← e']; simp)
  have hpl:pre.length < l.length:=by rw [e]; simp
  refine ah.bind (P:=fun z:List Int × Bool=>iN (fun x:Int=>x) n (pre ++ [x]) z.1 z.2 ∧ z.1.length ≤ pre.length + 2) ?_ fun z hz=>ah.some (.inl ⟨_,_,rfl,hz.1,by simpa using hz.2⟩)
  refine ah.bind (P:=fun z:List Int × Bool=>iN (fun x:Int=>x) n (pre ++ [x]) (z.1 ++ [x]) z.2 ∧ z.1.length ≤ pre.length + 1) ?_ ?_
  ·cases p with
   | true=>exact ah.g0 rfl (ah.iff rfl (ah.some ⟨hI.next (.inl rfl) hxn hlt,hlen⟩))
   | false=>
    refine ah.g1 rfl (ah.a8 hx (ah.ite (fun hc=>?_) fun hc=>?_))
    ·have hc:n < x:=by simpa using hc
     obtain ⟨A,B,h1,_,_,h | h⟩:=id hI
     ·refine ah.app (by simp only [List.length_singleton]; omega) (ah.some ⟨hI.put hc,?_⟩)
      obtain ⟨_,rfl,rfl⟩:=h
      simp [h1]
     ·exact absurd h.1 (by simp)
    ·have hc:¬ n < x:=by simpa using hc
     exact ah.some ⟨hI.next (.inr (by omega)) hxn hlt,hlen⟩
  ·rintro ⟨o,p'⟩ ⟨h1,h2⟩
   simp only at h1 h2
   exact ah.a8 hx (ah.app (by simp only [List.length_singleton]; omega) (ah.some ⟨h1,by simp; omega⟩))
 ·rintro ⟨o,p⟩ hI
  obtain ⟨h1,h2⟩:=hI.fin hs
  simp only at h1 h2 ⊢
  refine ah.bind (P:=(· = if (!p) = true then o ++ [n] else o)) ?_ fun z hz=>ah.some ?_
  ·obtain ⟨A,B,h3,_,_,h | h⟩:=hI
   ·obtain ⟨rfl,rfl,h4⟩:=h
    simp only at h4
    refine ah.qi rfl (ah.app (by rw [h4]; simp only [List.length_singleton]; simp at h3; rw [← h3]; omega) (ah.some rfl))
   ·obtain ⟨rfl,_,_⟩:=h
    exact ah.iff rfl (ah.some rfl)
  ·rw [hz]
   refine ⟨h1,fun z=>?_⟩
   rw [h2.mem_iff,List.mem_cons]
theorem q6 {a b B:List Int} (hb:b.length < F) (hs:n5 a) (hB:B.length < F) (hsub:∀ z,(z ∈ a ∨ z ∈ b) → z ∈ B):ah (cm F a b) fun o=>n5 o ∧ ∀ z,z ∈ o ↔ z ∈ a ∨ z ∈ b:=by
 unfold cm
 refine ah.bind ?_ (fun o ho=>ah.some ho)
 refine ah.qX (I:=fun pre o=>n5 o ∧ ∀ z,z ∈ o ↔ z ∈ a ∨ z ∈ pre) hb (by omega) ⟨hs,by simp⟩ ?_ fun s h=>h
 rintro pre x post o e hx ⟨h1,h2⟩
 have hol:o.length < F:=by
  have:o.length ≤ B.length:=ph h1 fun z hz=>hsub z (((h2 z).1 hz).imp_right fun h=>by rw [e]; simp [h])
  omega
 refine ah.a8 hx (ah.bind (with35 hF hol h1) fun o' ho'=>ah.some (.inl ⟨_,rfl,ho'.1,fun z=>?_⟩))
 rw [ho'.2,h2,List.mem_append,List.mem_singleton]
 constructor
 ·rintro (h | h | h)
  ·exact .inr (.inr h)
  ·exact .inl h
  ·exact .inr (.inl h)
 ·rintro (h | h | h)
  ·exact .inr (.inl h)
  ·exact .inr (.inr h)
  ·exact .inl h
theorem meets35 {a b:List Int} (ha:a.length < F) (hb:b.length < F):cL F a b = some (a.any fun u=>b.contains u):=by
 refine ah.eq ?_
 unfold cL
 refine ah.bind (P:=fun o:Unit ⊕ Bool=>(o = .inl () ∧ ∀ x ∈ a,b.contains x = false) ∨ (o = .inr true ∧ ∃ x ∈ a,b.contains x = true)) ?_ ?_
 ·refine ah.find (c:=fun x=>b.contains x) (r:=fun _=>true) ha (by omega) (fun h=>.inl ⟨rfl,h⟩) (fun pre x post e _ hc=>.inr ⟨rfl,x,by rw [e]; simp,hc⟩) fun i x hx=>by
   rw [hx,Option.bind_some,has35 hF hb,List.contains_eq_mem]; rfl
 ·rintro o (⟨rfl,h⟩ | ⟨rfl,h⟩)
  ·refine ah.some (Eq.symm ?_)
   rw [List.any_eq_false]; intro x hx; rw [h x hx]; simp
  ·exact ah.some (Eq.symm (List.any_eq_true.2 h))
theorem put35 {l:List (List Int)} {x:List Int} (hl:l.length < F) (hn:∀ c ∈ l,c ≠ []) (hx:x ≠ []) (hs:HdL l) (hd':∀ c ∈ l,hd c ≠ hd x):ah (dc F l x) fun o=>HdL o ∧ o.Perm (x :: l):=by
 unfold dc
 have h0:∀ c:List Int,c ≠ [] → aE c 0 = some (hd c):=fun c hc=>by
  cases c with
  | nil=>exact absurd rfl hc
  | cons a c=>exact idx?_at [] c a
 refine ah.bind (P:=fun o:List (List Int) × Bool=>iN hd x l o.1 o.2) ?_ ?_
 ·refine ah.ea3 (I:=fun pre out p=>iN hd x pre out p ∧ out.length ≤ pre.length + 1) hl (by omega) ⟨iN.zero,by simp⟩ ?_ fun a b h=>h.1
  rintro pre y post out p e hy ⟨hI,hlen⟩
  have hlt:∀ a ∈ pre,hd a < hd y:=fun a ha=>(List.pairwise_append.1 (e ▸ hs)).2.2 a ha y (List.mem_cons_self ..)
  have hym:y ∈ l:=by rw [e]; simp
  have hpl:pre.length < l.length:=by rw [e]; simp
  refine ah.bind (P:=fun z:List (List Int) × Bool=>iN hd x (pre ++ [y]) z.1 z.2 ∧ z.1.length ≤ pre.length + 2) ?_ fun z hz=>ah.some (.inl ⟨_,_,rfl,hz.1,by simpa using hz.2⟩)
  refine ah.bind (P:=fun z:List (List Int) × Bool=>iN hd x (pre ++ [y]) (z.1 ++ [y]) z.2 ∧ z.1.length ≤ pre.length + 1) ?_ ?_
  ·cases p with
   | true=>exact ah.g0 rfl (ah.g0 rfl (ah.g0 rfl (ah.iff rfl (ah.some ⟨hI.next (.inl rfl) (hd' y hym) hlt,hlen⟩))))
   | false=>
    refine ah.g1 rfl (ah.a8 hy (ah.g1 rfl (ah.a8 (h0 y (hn y hym)) (ah.g1 rfl (ah.a8 (h0 x hx) (ah.ite (fun hc=>?_) fun hc=>?_))))))
    ·have hc:hd x < hd y:=by simpa using hc
     obtain ⟨A,B,h1,_,_,h | h⟩:=id hI
     ·refine ah.app (by simp only [List.length_singleton]; omega) (ah.some ⟨hI.put hc,?_⟩)
      obtain ⟨_,rfl,rfl⟩:=h
      simp [h1]
     ·exact absurd h.1 (by simp)
    ·have hc:¬ hd x < hd y:=by simpa using hc
     exact ah.some ⟨hI.next (.inr (by omega)) (hd' y hym) hlt,hlen⟩
  ·rintro ⟨o,p'⟩ ⟨h1,h2⟩
   simp only at h1 h2
   exact ah.a8 hy (ah.app (by simp only [List.length_singleton]; omega) (ah.some ⟨h1,by simp; omega⟩))
 ·rintro ⟨o,p⟩ hI
  obtain ⟨h1,h2⟩:=hI.fin hs
  simp only at h1 h2 ⊢
  refine ah.bind (P:=(· = if (!p) = true then o ++ [x] else o)) ?_ fun z hz=>ah.some ?_
  ·obtain ⟨A,B,h3,_,_,h | h⟩:=hI
   ·obtain ⟨rfl,rfl,h4⟩:=h
    simp only at h4
    refine ah.qi rfl (ah.app (by rw [h4]; simp only [List.length_singleton]; simp at h3; rw [← h3]; omega) (ah.some rfl))
   ·obtain ⟨rfl,_,_⟩:=h
    exact ah.iff rfl (ah.some rfl)
  ·rw [hz]
   exact ⟨h1,h2⟩
end
def pr (L:List (List Int)) (a b:Int):Prop:=∃ c ∈ L,a ∈ c ∧ b ∈ c
def dm (L:List (List Int)) (a:Int):Prop:=∃ c ∈ L,a ∈ c
theorem pr_dm {L:List (List Int)} (a b:Int) (h:pr L a b):dm L a ∧ dm L b:=by
 obtain ⟨c,hc,h1,h2⟩:=h; exact ⟨⟨c,hc,h1⟩,c,hc,h2⟩
theorem pf {L:List (List Int)} (a:Int):dm L a ↔ a ∈ L.flatten:=by
 unfold dm; rw [List.mem_flatten]
theorem rE {P D:_} {s:List (List Int)} {B:List Int} (h:IsPt P D s) (hB:∀ a,D a → a ∈ B) {c:List Int} (hc:c ∈ s):c.length ≤ B.length :=
 ph (h.asd c hc).2 fun a ha=>hB a ((h.dom a).2 ⟨c,hc,ha⟩)
theorem qm {P D:_} {s:List (List Int)} {B:List Int} (h:IsPt P D s) (hB:∀ a,D a → a ∈ B):s.length ≤ B.length:=by
 have:(s.map hd).Nodup:=List.pairwise_map.2 (List.Pairwise.imp_of_mem (fun {c d} hc hd' h' e=>h' _ (gV (h.asd c hc).1) (e ▸ gV (h.asd d hd').1)) h.dj)
 have h2:=mi (m:=B) this fun a ha=>by
  obtain ⟨c,hc,rfl⟩:=List.mem_map.1 ha
  exact hB _ ((h.dom _).2 ⟨c,hc,gV (h.asd c hc).1⟩)
 simpa using h2
theorem merge35 {F:Nat} (hF:F ≤ 100000000) {L:List (List Int)} (hl:L.length < F) (hB:L.flatten.length < F):ah (bn F L) (Part (pr L) (dm L)):=by
 have hF':F ≤ 1000000000:=by omega
 unfold bn
 refine ah.bind (P:=fun s=>IsPt (pr L) (dm L) s) ?_ ?_
 ·refine ah.qX (I:=fun pre s=>IsPt (pr pre) (dm pre) s) hl (by omega) ⟨by simp,by simp,by simp [dm],by simp,by simp⟩ ?_ fun s h=>h
  rintro pre x0 post s e hx hI
  refine ah.bind (P:=fun s'=>IsPt (pr (pre ++ [x0])) (dm (pre ++ [x0])) s') ?_ fun s' h=>ah.some (.inl ⟨_,rfl,h⟩)
  have hx0:∀ z ∈ x0,z ∈ L.flatten:=fun z hz=>(pf z).1 ⟨x0,by rw [e]; simp,hz⟩
  have hpre:∀ z,dm pre z → z ∈ L.flatten:=fun z ⟨c,hc,hz⟩=>(pf z).1 ⟨c,by rw [e]; simp [hc],hz⟩
  have hx0l:x0.length < F:=by
   have:x0.length ≤ L.flatten.length:=by rw [e]; simp; omega
   omega
  have hsl:s.length < F:=by have:=qm hI hpre; omega
  refine ah.a8 hx (ah.bind (q6 hF' (B:=L.flatten) hx0l List.Pairwise.nil hB (by simpa using hx0)) ?_)
  rintro x ⟨hxa,hxm⟩
  simp only [List.not_mem_nil,false_or] at hxm
  refine ah.ite (fun hc=>ah.some ?_) fun hc=>?_
  ·have:x0 = []:=by
    have hc:=of_decide_eq_true hc
    have hx':x = []:=List.length_eq_zero_iff.1 (by omega)
    cases x0 with
    | nil=>rfl
    | cons a x0=>have:=(hxm a).2 (List.mem_cons_self ..); rw [hx'] at this; cases this
   subst this
   refine hI.congr (gw.congr (fun a b ⟨c,hc,h⟩=>.of ⟨c,by simp [hc],h⟩) fun a b ⟨c,hc,h⟩=>.of ⟨c,?_,h⟩) fun a=>⟨fun ⟨c,hc,h⟩=>⟨c,by simp [hc],h⟩,fun ⟨c,hc,h⟩=>⟨c,?_,h⟩⟩
   ·rcases List.mem_append.1 hc with hc | hc
    ·exact hc
    ·rw [List.mem_singleton.1 hc] at h; exact absurd h.1 (by simp)
   ·rcases List.mem_append.1 hc with hc | hc
    ·exact hc
    ·rw [List.mem_singleton.1 hc] at h; exact absurd h (by simp)
  ·have hxne:x ≠ []:=by
    rintro rfl; simp at hc
   refine ah.bind (P:=fun o:List Int × List (List Int)=>n5 o.1 ∧ (∀ z,z ∈ o.1 ↔ z ∈ x ∨ ∃ c ∈ s,(∃ u ∈ c,u ∈ x) ∧ z ∈ c) ∧ o.2 = s.filter fun c=>!(c.any fun u=>x.contains u)) ?_ ?_
   ·refine ah.ea3 (I:=fun q y rest=>n5 y ∧ (∀ z,z ∈ y ↔ z ∈ x ∨ ∃ c ∈ q,(∃ u ∈ c,u ∈ x) ∧ z ∈ c) ∧ rest = q.filter fun c=>!(c.any fun u=>x.contains u)) hsl (by omega) ⟨hxa,by simp,rfl⟩ ?_ fun a b h=>h
    rintro q c post' y rest e' hc' ⟨h1,h2,h3⟩
    have hcs:c ∈ s:=by rw [e']; simp
    have hq:∀ d ∈ q,d ∈ s:=fun d hd=>by rw [e']; simp [hd]
    have hdj:∀ d ∈ q,∀ z ∈ d,z ∉ c:=fun d hd=>(List.pairwise_append.1 (e' ▸ hI.dj)).2.2 d hd c (List.mem_cons_self ..)
    have hcl:c.length < F:=by have:=rE hI hpre hcs; omega
    have hyB:∀ z ∈ y,z ∈ L.flatten:=fun z hz=>by
     rcases (h2 z).1 hz with hz | ⟨d,hd,_,hz⟩
     ·exact hx0 z ((hxm z).1 hz)
     ·exact hpre z ((hI.dom z).2 ⟨d,hq d hd,hz⟩)
    have hyl:y.length < F:=by have:=ph h1 hyB; omega
    have hmt:(c.any fun u=>y.contains u) = c.any fun u=>x.contains u:=by
     rw [Bool.eq_iff_iff,List.any_eq_true,List.any_eq_true]
     simp only [List.contains_eq_mem,decide_eq_true_eq]
     constructor
     ·rintro ⟨u,hu,huy⟩
      rcases (h2 u).1 huy with h | ⟨d,hd,_,hud⟩
      ·exact ⟨u,hu,h⟩
      ·exact absurd hu (hdj d hd u hud)
     ·rintro ⟨u,hu,hux⟩; exact ⟨u,hu,(h2 u).2 (.inl hux)⟩
    refine ah.bind (P:=fun o:List Int × List (List Int)=>n5 o.1 ∧ (∀ z,z ∈ o.1 ↔ z ∈ x ∨ ∃ d ∈ q ++ [c],(∃ u ∈ d,u ∈ x) ∧ z ∈ d) ∧ o.2 = (q ++ [c]).filter fun c=>!(c.any fun u=>x.contains u)) ?_ fun o ho=>ah.some (.inl ⟨_,_,rfl,ho⟩)
    refine ah.a8 hc' (ah.a8 (meets35 hF' hcl hyl) ?_)
    rw [hmt]
    refine ah.ite (fun hm=>?_) fun hm=>?_
    ·have hm':∃ u ∈ c,u ∈ x:=by simpa using hm
     refine ah.a8 hc' (ah.bind (q6 hF' hcl h1 hB (B:=L.flatten) ?_) fun y' hy'=>ah.some ⟨hy'.1,fun z=>?_,?_⟩)
     ·rintro z (hz | hz)
      ·exact hyB z hz
      ·exact hpre z ((hI.dom z).2 ⟨c,hcs,hz⟩)
     ·rw [hy'.2,h2]
      constructor
      ·rintro ((h | ⟨d,hd,h⟩) | h)
       ·exact .inl h
       ·exact .inr ⟨d,by simp [hd],h⟩
       ·exact .inr ⟨c,by simp,hm',h⟩
      ·rintro (h | ⟨d,hd,h⟩)
       ·exact .inl (.inl h)
       ·rcases List.mem_append.1 hd with hd | hd
        ·exact .inl (.inr ⟨d,hd,h⟩)
        ·rw [List.mem_singleton.1 hd] at h; exact .inr h.2
     ·rw [h3,List.filter_append]
      simp only [List.filter_cons,List.filter_nil,hm]
      simp
    ·have hm':¬ ∃ u ∈ c,u ∈ x:=by simpa using hm
     have hrl:rest.length ≤ s.length:=by
      rw [h3]; refine Nat.le_trans (List.length_filter_le _ _) ?_
      rw [e']; simp
     refine ah.a8 hc' (ah.app (by simp only [List.length_singleton]; omega) (ah.some ⟨h1,fun z=>?_,?_⟩))
     ·rw [h2]
      constructor
      ·rintro (h | ⟨d,hd,h⟩)
       ·exact .inl h
       ·exact .inr ⟨d,by simp [hd],h⟩
      ·rintro (h | ⟨d,hd,h⟩)
       ·exact .inl h
       ·rcases List.mem_append.1 hd with hd | hd
        ·exact .inr ⟨d,hd,h⟩
        ·rw [List.mem_singleton.1 hd] at h; exact absurd h.1 hm'
     ·rw [h3,List.filter_append]
      simp only [List.filter_cons,List.filter_nil,hm]
      simp
   ·rintro ⟨y,rest⟩ ⟨h1,h2,h3⟩
    simp only at h1 h2 h3
    have hrl:rest.length ≤ s.length:=by rw [h3]; exact List.length_filter_le _ _
    refine ah.app (by simp only [List.length_singleton]; omega) (ah.some ?_)
    refine hI.add (x:=x) pr_dm hxne h1 h2 (fun a b=>?_) (fun a=>?_) h3
    ·unfold pr
     simp only [List.mem_append,List.mem_singleton]
     constructor
     ·rintro ⟨c,hc | rfl,h⟩
      ·exact .inl ⟨c,hc,h⟩
      ·exact .inr ⟨(hxm a).2 h.1,(hxm b).2 h.2⟩
     ·rintro (⟨c,hc,h⟩ | ⟨h,h'⟩)
      ·exact ⟨c,.inl hc,h⟩
      ·exact ⟨x0,.inr rfl,(hxm a).1 h,(hxm b).1 h'⟩
    ·unfold dm
     simp only [List.mem_append,List.mem_singleton]
     constructor
     ·rintro ⟨c,hc | rfl,h⟩
      ·exact .inl ⟨c,hc,h⟩
      ·exact .inr ((hxm a).2 h)
     ·rintro (⟨c,hc,h⟩ | h)
      ·exact ⟨c,.inl hc,h⟩
      ·exact ⟨x0,.inr rfl,(hxm a).1 h⟩
 ·intro s hs
  have hsl:s.length < F:=by have:=qm hs (fun a=>(pf a).1); omega
  refine ah.bind ?_ (fun o ho=>ah.some ho)
  refine ah.qX (I:=fun q o=>HdL o ∧ o.Perm q) hsl (by omega) ⟨List.Pairwise.nil,.refl _⟩ ?_ ?_
  ·rintro q c post o e hc ⟨h1,h2⟩
   have hcs:c ∈ s:=by rw [e]; simp
   have hq:∀ d ∈ q,d ∈ s:=fun d hd=>by rw [e]; simp [hd]
   have hol:o.length < F:=by
    rw [h2.length_eq]
    have:q.length < s.length:=by rw [e]; simp
    omega
   have hdj:∀ d ∈ q,∀ z ∈ d,z ∉ c:=fun d hd=>(List.pairwise_append.1 (e ▸ hs.dj)).2.2 d hd c (List.mem_cons_self ..)
   refine ah.a8 hc (ah.bind (put35 hF' hol (fun d hd=>(hs.asd d (hq d (h2.mem_iff.1 hd))).1) (hs.asd c hcs).1 h1 fun d hd e=>?_) fun o' ho'=>ah.some (.inl ⟨_,rfl,ho'.1,?_⟩))
   ·have hd':=h2.mem_iff.1 hd
    exact hdj d hd' _ (gV (hs.asd d (hq d hd')).1) (e ▸ gV (hs.asd c hcs).1)
   ·exact ho'.2.trans ((List.Perm.cons c h2).trans (List.perm_append_singleton c q).symm)
  ·rintro o ⟨h1,h2⟩
   exact { asd:=fun c hc=>hs.asd c (h2.mem_iff.1 hc),dj:=(h2.pairwise_iff (fun {a b} h z hz hza=>h z hza hz)).2 hs.dj,dom:=fun a=>by rw [hs.dom]; simp only [h2.mem_iff],con:=fun c hc=>hs.con c (h2.mem_iff.1 hc),cl:=fun c hc=>hs.cl c (h2.mem_iff.1 hc),srt:=h1 }
end Go.Proofs.Ytgojigdbelkgoaa
namespace Go.Proofs.Ytgojigdbelkgoaa
open Go Go.Sk
set_option linter.unusedVariables false
set_option linter.unusedSimpArgs false
def an (m:bm):List Int:=m.map (·.1)
def cnt (m:bm) (x:Int):Nat:=((an m).filter fun z=>decide (z < x)).length
theorem cnt_le (m:bm) (x:Int):cnt m x ≤ m.length:=by
 unfold cnt an; refine Nat.le_trans (List.length_filter_le _ _) ?_; simp
theorem cnt_lt {m:bm} {u x:Int} (hu:cO m u = true) (h:u < x):cnt m u < cnt m x:=by
 have hm:=(iR u m).1 hu
 unfold cnt
 have:∀ ks:List Int,(∀ z,z ∈ ks → True) → (ks.filter fun z=>decide (z < u)).length ≤ (ks.filter fun z=>decide (z < x)).length ∧ (u ∈ ks → (ks.filter fun z=>decide (z < u)).length < (ks.filter fun z=>decide (z < x)).length):=fun ks _=>by
  induction ks with
  | nil=>simp
  | cons a ks ih=>
   have ih:=ih (fun _ _=>trivial)
   simp only [List.filter_cons,List.mem_cons]
   by_cases h1:a < u
   ·have h2:a < x:=by omega
    simp only [h1,h2,decide_true,if_true,List.length_cons]
    refine ⟨by omega,?_⟩
    rintro (rfl | h')
    ·omega
    ·have:=ih.2 h'; omega
   ·by_cases h2:a < x
    ·simp only [h1,h2,decide_true,decide_false,if_true,List.length_cons]
     refine ⟨by have:=ih.1; simp; omega,fun _=>by have:=ih.1; simp; omega⟩
    ·simp only [h1,h2,decide_false]
     refine ⟨by simpa using ih.1,?_⟩
     rintro (rfl | h')
     ·omega
     ·simpa using ih.2 h'
 exact (this (an m) fun _ _=>trivial).2 hm
theorem rh {F:Nat}:∀ (n:Nat) {m:bm} {r:Int → Int} {x:Int},l9 m r → cnt m x < n → ah (cn F n x m) fun z=>z.1 = r x ∧ l9 z.2 r ∧ an z.2 = if cO m x then an m else an m ++ [x]
 | 0,m,r,x,h,hn=>by omega
 | n + 1,m,r,x,h,hn=>by
  show ah (if (!(cO m x)) = true then _ else _) _
  refine ah.ite (fun hc=>?_) fun hc=>?_
  ·have hc:cO m x = false:=by simpa using hc
   refine ah.some ⟨(h.out x hc).symm,h.add hc,?_⟩
   simp only [an]
   rw [iW]
  ·have hc:cO m x = true:=by simpa using hc
   refine ah.ite (fun he=>ah.some ⟨(h.fix x hc (of_decide_eq_true he)).symm,h,by simp [hc]⟩) fun he=>?_
   have he:=of_decide_eq_false he
   have hu:=h.has x hc
   have hl:ct m x < x:=by have:=h.le x hc; omega
   refine ah.bind (rh n (x:=ct m x) h (by have:=cnt_lt hu hl; omega)) ?_
   rintro ⟨a,m'⟩ ⟨h1,h2,h3⟩
   simp only at h1 h2 h3
   rw [hu,if_pos rfl] at h3
   have e:a = r x:=by rw [h1,h.step x hc]
   have hx':cO m' x = true:=by rw [iR]; show x ∈ an m'; rw [h3]; exact (iR x m).1 hc
   refine ah.some ⟨e,?_,?_⟩
   ·simp only; rw [e]; exact h2.short hx'
   ·simp only [an]
    rw [iW,hx',hc]
    exact h3
theorem gZ {m:bm} {x:Int}:cO m x = true ↔ x ∈ an m:=iR x m
theorem oI {F:Nat} {m:bm} {r:Int → Int} {x:Int} (h:l9 m r) (hF:m.length < F):ah (bI F x m) fun z=>z.1 = r x ∧ l9 z.2 r ∧ (∀ y,y ∈ an z.2 ↔ y = x ∨ y ∈ an m) ∧ z.2.length ≤ m.length + 1 ∧ (cO m x = true → an z.2 = an m):=by
 refine (rh F h (by have:=cnt_le m x; omega)).mono ?_
 rintro ⟨a,m'⟩ ⟨h1,h2,h3⟩
 simp only at h1 h2 h3 ⊢
 have hl:(an m').length = m'.length:=by simp [an]
 have hl2:(an m).length = m.length:=by simp [an]
 refine ⟨h1,h2,fun y=>?_,?_,fun hh=>by rw [h3,hh]; rfl⟩
 ·rw [h3]
  split
  ·next hc=>
   constructor
   ·exact .inr
   ·rintro (rfl | h)
    ·exact gZ.1 hc
    ·exact h
  ·simp [or_comm]
 ·rw [← hl,h3]; split <;> simp [hl2]
theorem join_S {F:Nat} {m:bm} {r:Int → Int} {x y:Int} (h:l9 m r) (hF:m.length + 1 < F):ah (bU F x y m) fun z=>z.1 = decide (r x ≠ r y) ∧ l9 z.2 (jn r x y) ∧ (∀ u,u ∈ an z.2 ↔ u = x ∨ u = y ∨ u ∈ an m) ∧ z.2.length ≤ m.length + 2:=by
 unfold bU
 refine ah.bind (oI h (by omega)) ?_
 rintro ⟨a,m1⟩ ⟨rfl,h1,k1,l1,_⟩
 simp only at h1 k1 l1 ⊢
 refine ah.bind (oI h1 (by simp only; omega)) ?_
 rintro ⟨b,m2⟩ ⟨rfl,h2,k2,l2,_⟩
 simp only at h2 k2 l2 ⊢
 have kk:∀ u,u ∈ an m2 ↔ u = x ∨ u = y ∨ u ∈ an m:=fun u=>by
  rw [k2,k1]; constructor
  ·rintro (h | h | h)
   ·exact .inr (.inl h)
   ·exact .inl h
   ·exact .inr (.inr h)
  ·rintro (h | h | h)
   ·exact .inr (.inl h)
   ·exact .inl h
   ·exact .inr (.inr h)
 refine ah.ite (fun hc=>?_) fun hc=>?_
 ·have hc:r x = r y:=of_decide_eq_true hc
  have ej:jn r x y = r:=funext fun z=>by unfold jn; rw [hc,Int.max_self,Int.min_self]; split <;> simp_all
  rw [ej]
  exact ah.some ⟨by simp [hc],h2,kk,by simp only; omega⟩
 ·have hc:r x ≠ r y:=of_decide_eq_false hc
  have hx:cO m2 x = true:=gZ.2 ((kk x).2 (.inl rfl))
  have hy:cO m2 y = true:=gZ.2 ((kk y).2 (.inr (.inl rfl)))
  have hM:cO m2 (max (r x) (r y)) = true:=by
   have a:=(h2.low x hx).2.1
   have b:=(h2.low y hy).2.1
   by_cases hl:r x ≤ r y
   ·rw [Int.max_eq_right hl]; exact b
   ·rw [Int.max_eq_left (by omega)]; exact a
  have ek:an (dE m2 (max (r x) (r y)) (min (r x) (r y))) = an m2:=by
   unfold an; rw [iW,hM]; rfl
  refine ah.some ⟨by simp [hc],h2.join hx hy hc,fun u=>by simp only; rw [ek]; exact kk u,?_⟩
  have:(an (dE m2 (max (r x) (r y)) (min (r x) (r y)))).length = (an m2).length:=by rw [ek]
  simp only [an,List.length_map] at this
  simp only; omega
def eU (ps:List (Int × Int)):Int → Int:=ps.foldl (fun r p=>jn r p.1 p.2) fun x=>x
theorem mz (ps:List (Int × Int)) (x y:Int):eU (ps ++ [(x,y)]) = jn (eU ps) x y:=by simp [eU]
theorem rR (ps:List (Int × Int)) (z:Int):eU ps (eU ps z) = eU ps z:=by
 have:∀ (ps:List (Int × Int)) (r:Int → Int),(∀ z,r (r z) = r z) → ∀ z,ps.foldl (fun r p=>jn r p.1 p.2) r (ps.foldl (fun r p=>jn r p.1 p.2) r z) = ps.foldl (fun r p=>jn r p.1 p.2) r z:=fun ps=>by
  induction ps with
  | nil=>exact fun r h=>h
  | cons p ps ih=>exact fun r h=>ih _ (jn_idem h p.1 p.2)
 exact this ps _ (fun _=>rfl) z
theorem tB:∀ (ps:List (Int × Int)) (a b:Int),eU ps a = eU ps b ↔ gw (fun u v=>(u,v) ∈ ps) a b:=fun ps=>by
 have key:∀ (qs:List (Int × Int)),(∀ a b,eU qs a = eU qs b ↔ gw (fun u v=>(u,v) ∈ qs) a b) → ∀ ps a b,eU (qs ++ ps) a = eU (qs ++ ps) b ↔ gw (fun u v=>(u,v) ∈ qs ++ ps) a b:=fun qs h ps=>by
  induction ps generalizing qs with
  | nil=>simpa using h
  | cons p ps ih=>
   have e:qs ++ p :: ps = (qs ++ [p]) ++ ps:=by simp
   rw [e]
   refine ih _ fun a b=>?_
   rw [show p = (p.1,p.2) from rfl,mz,jn_con (rR qs) h]
   refine gw.congr (fun u v h=>.of ?_) (fun u v h=>.of ?_) a b
   ·rcases h with h | ⟨rfl,rfl⟩ <;> simp_all
   ·rcases List.mem_append.1 h with h | h
    ·exact .inl h
    ·have:=List.mem_singleton.1 h; simp only [Prod.mk.injEq] at this; exact .inr this
 refine key [] (fun a b=>?_) ps
 refine ⟨fun h=>by show gw _ a b; have:a = b:=h; rw [this]; exact .rfl b,fun h=>?_⟩
 refine h.lift (E:=fun a b=>eU [] a = eU [] b) (fun _=>rfl) (fun _ _ h=>h.symm) (fun _ _ _ h1 h2=>h1.trans h2) fun a b h=>by cases h
structure St (m:bm) (ps:List (Int × Int)):Prop where
 up:l9 m (eU ps)
 keys:∀ u,u ∈ an m ↔ ∃ p ∈ ps,u = p.1 ∨ u = p.2
 len:m.length ≤ 2 * ps.length
theorem St.nil:St [] []:=⟨l9.nil,by simp [an],by simp⟩
theorem St.join {F:Nat} {m:bm} {ps:List (Int × Int)} {x y:Int} (h:St m ps) (hF:2 * ps.length + 1 < F):ah (bU F x y m) fun z=>z.1 = decide (eU ps x ≠ eU ps y) ∧ St z.2 (ps ++ [(x,y)]):=by
 refine (join_S h.up (x:=x) (y:=y) (by have:=h.len; omega)).mono ?_
 rintro ⟨b,m'⟩ ⟨h1,h2,h3,h4⟩
 refine ⟨h1,by rw [mz]; exact h2,fun u=>?_,by have:=h.len; simp at h4 ⊢; omega⟩
 rw [h3,h.keys]
 constructor
 ·rintro (h | h | ⟨p,hp,h⟩)
  ·exact ⟨(x,y),by simp,.inl h⟩
  ·exact ⟨(x,y),by simp,.inr h⟩
  ·exact ⟨p,by simp [hp],h⟩
 ·rintro ⟨p,hp,h⟩
  rcases List.mem_append.1 hp with hp | hp
  ·exact .inr (.inr ⟨p,hp,h⟩)
  ·rw [List.mem_singleton.1 hp] at h
   rcases h with h | h
   ·exact .inl h
   ·exact .inr (.inl h)
structure Row (r:Int → Int) (ts:List Int) (at':bm) (out:List (List Int)):Prop where
 len:out.length = (ts.filter fun x=>decide (r x = x)).length
 get:∀ j (h:j < (ts.filter fun x=>decide (r x = x)).length),out[j]? = some (ts.filter fun z=>decide (r z = (ts.filter fun x=>decide (r x = x))[j])) ∧ ct at' ((ts.filter fun x=>decide (r x = x))[j]) = (j:Int)
theorem Row.eq {r:Int → Int} {ts:List Int} {at':bm} {out:List (List Int)} (h:Row r ts at' out):out = canon r ts:=by
 refine List.ext_getElem? fun j=>?_
 unfold canon
 by_cases hj:j < (ts.filter fun x=>decide (r x = x)).length
 ·rw [(h.get j hj).1,List.getElem?_map,List.getElem?_eq_getElem hj]; rfl
 ·rw [List.getElem?_eq_none (by have:=h.len; omega),List.getElem?_eq_none (by rw [List.length_map]; omega)]
theorem Row.step {r:Int → Int} {ts:List Int} {at':bm} {out:List (List Int)} (h:Row r ts at' out) {x:Int} (hx:∀ t ∈ ts,t < x) (hle:∀ z,r z ≤ z) (hi:∀ z,r (r z) = r z) (hr:r x = x ∨ r x ∈ ts) :
  ∃ at2 o2,(at2,o2) = (if r x = x then (dE at' x (out.length:Int),out ++ [[]]) else (at',out)) ∧ ∃ k:Nat,ct at2 (r x) = (k:Int) ∧ k < o2.length ∧ ∃ row,o2[k]? = some row ∧ Row r (ts ++ [x]) at2 (o2.set k (row ++ [x])):=by
 rcases hr with hr | hr
 ·refine ⟨dE at' x (out.length:Int),out ++ [[]],by rw [if_pos hr],out.length,by rw [hr,ck,if_pos rfl],by simp,[],by simp,?_⟩
  have e:(ts ++ [x]).filter (fun y=>decide (r y = y)) = ts.filter (fun y=>decide (r y = y)) ++ [x]:=by simp [List.filter_append,hr]
  have hno:ts.filter (fun z=>decide (r z = x)) = []:=by
   rw [List.filter_eq_nil_iff]
   intro z hz
   have:=hx z hz; have:=hle z
   simp only [decide_eq_true_eq]; omega
  refine ⟨by rw [e]; simp [h.len],fun j hj=>?_⟩
  simp only [e,List.length_append,List.length_singleton] at hj
  by_cases hj2:j < (ts.filter fun y=>decide (r y = y)).length
  ·have hm:(ts.filter fun y=>decide (r y = y))[j] ∈ ts:=(List.mem_filter.1 (List.getElem_mem hj2)).1
   have hne:(ts.filter fun y=>decide (r y = y))[j] ≠ x:=Int.ne_of_lt (hx _ hm)
   simp only [e,List.getElem_append_left hj2]
   obtain ⟨h1,h2⟩:=h.get j hj2
   have hjl:j < out.length:=by have:=h.len; omega
   refine ⟨?_,by rw [ck,if_neg hne]; exact h2⟩
   rw [List.getElem?_set,if_neg (by omega),List.getElem?_append_left hjl,h1,List.filter_append]
   have:¬ r x = (ts.filter fun y=>decide (r y = y))[j]:=by rw [hr]; exact fun e=>hne e.symm
   simp [this]
  ·have hj3:j = (ts.filter fun y=>decide (r y = y)).length:=by omega
   subst hj3
   have eg:∀ hh,((ts ++ [x]).filter fun y=>decide (r y = y))[(ts.filter fun y=>decide (r y = y)).length]'hh = x:=fun hh=>by
    simp only [e,List.getElem_append_right (Nat.le_refl _),Nat.sub_self]; rfl
   rw [eg]
   refine ⟨?_,by rw [ck,if_pos rfl,h.len]⟩
   rw [List.getElem?_set,if_pos (by rw [h.len]),if_pos (by simp [h.len]),List.filter_append,hno]
   simp [hr]
 ·have hne:r x ≠ x:=fun e=>by have:=hx _ hr; omega
  have hm:r x ∈ ts.filter fun y=>decide (r y = y):=List.mem_filter.2 ⟨hr,by simpa using hi x⟩
  obtain ⟨k,hk,ek⟩:=List.getElem_of_mem hm
  obtain ⟨h1,h2⟩:=h.get k hk
  have hkl:k < out.length:=by have:=h.len; omega
  refine ⟨at',out,by rw [if_neg hne],k,by rw [← ek]; exact h2,hkl,_,h1,?_⟩
  have e:(ts ++ [x]).filter (fun y=>decide (r y = y)) = ts.filter (fun y=>decide (r y = y)):=by simp [List.filter_append,hne]
  refine ⟨by rw [e,List.length_set,h.len],fun j hj=>?_⟩
  simp only [e] at hj ⊢
  obtain ⟨g1,g2⟩:=h.get j hj
  refine ⟨?_,g2⟩
  rw [List.getElem?_set,List.filter_append]
  by_cases hjk:k = j
  ·subst hjk
   have:r x = (ts.filter fun y=>decide (r y = y))[k]:=ek.symm
   rw [if_pos rfl,if_pos hkl]
   simp [this]
  ·rw [if_neg hjk,g1]
   have hnd:(ts.filter fun y=>decide (r y = y))[j] ≠ r x:=fun e2=>by
    have:=(h.get j hj).2
    rw [e2,← ek,h2] at this
    omega
   have:¬ r x = (ts.filter fun y=>decide (r y = y))[j]:=fun e=>hnd e.symm
   simp [this]
theorem sets_S {F:Nat} (hF:F ≤ 100000000) {m:bm} {r:Int → Int} (h:l9 m r) (hl:m.length < F):ah (bH F m) fun z=>z.1 = canon r (sorted (an m)) ∧ l9 z.2 r ∧ an z.2 = an m:=by
 unfold bH
 have hkl:(an m).length = m.length:=by simp [an]
 refine ah.a8 (x:=an m) (by unfold nr; rw [if_pos (by omega)]; rfl) (ah.a8 (x:=sorted (an m)) (by unfold dh jN; rw [if_pos (by omega)]) ?_)
 have hsl:(sorted (an m)).length = m.length:=by rw [(nt _).length_eq,hkl]
 have hasd:n5 (sorted (an m)):=rb h.nd
 refine ah.bind (P:=fun z:List (List Int) × bm=>z.1 = canon r (sorted (an m)) ∧ l9 z.2 r ∧ an z.2 = an m) ?_ fun z hz=>ah.some hz
 refine ah.ea4 (I:=fun pre up at' out=>l9 up r ∧ an up = an m ∧ Row r pre at' out) (by omega) (by omega) ⟨h,rfl,by simp,by simp⟩ ?_ fun up at' out hI=>⟨hI.2.2.eq,hI.1,hI.2.1⟩
 rintro pre x post up at' out e hx ⟨h1,h2,h3⟩
 have hul:up.length = m.length:=by rw [← hkl,← h2]; simp [an]
 have hxs:x ∈ sorted (an m):=by rw [e]; simp
 have hxk:cO up x = true:=gZ.2 (by rw [h2]; exact lG.1 hxs)
 have hlt:∀ t ∈ pre,t < x:=fun t ht=>(List.pairwise_append.1 (e ▸ hasd)).2.2 t ht x (List.mem_cons_self ..)
 have hr:r x = x ∨ r x ∈ pre:=by
  by_cases hc:r x = x
  ·exact .inl hc
  ·have hm:r x ∈ sorted (an m):=lG.2 (by rw [← h2]; exact gZ.1 (h1.low x hxk).2.1)
   rw [e] at hm
   have hlx:r x < x:=by have:=h.rle x; omega
   rcases List.mem_append.1 hm with hm | hm
   ·exact .inr hm
   ·rcases List.mem_cons.1 hm with hm | hm
    ·exact absurd hm hc
    ·have:=(List.pairwise_cons.1 (List.pairwise_append.1 (e ▸ hasd)).2.1).1 _ hm
     omega
 have hol:out.length ≤ pre.length:=by rw [h3.len]; exact List.length_filter_le _ _
 have hpl:pre.length < m.length:=by rw [← hsl,e]; simp
 refine ah.bind (P:=fun z:bm × bm × List (List Int)=>l9 z.1 r ∧ an z.1 = an m ∧ Row r (pre ++ [x]) z.2.1 z.2.2) ?_ fun z hz=>ah.some (.inl ⟨_,_,_,rfl,hz⟩)
 refine ah.a8 hx (ah.bind (oI h1 (by omega)) ?_)
 rintro ⟨a,up2⟩ ⟨rfl,g1,_,_,g2⟩
 simp only at g1 g2 ⊢
 obtain ⟨at2,o2,e2,k,hk,hk2,row,hrow,hR⟩:=h3.step hlt h.rle h.idem hr
 have hbl:out.length + 1 ≤ 1000000000:=by omega
 refine ah.bind (P:=(· = (at2,o2))) ?_ ?_
 ·rw [e2]
  refine ah.ite (fun hc=>?_) fun hc=>?_
  ·have hc:=of_decide_eq_true hc
   exact ah.app (by simp only [List.length_singleton]; omega) (ah.some (by rw [if_pos hc]))
  ·have hc:=of_decide_eq_false hc
   exact ah.some (by rw [if_neg hc])
 ·rintro z rfl
  simp only
  have hix:aE o2 (ct at2 (r x)) = some row:=by
   rw [hk,dZ (by omega) (by omega),dY _ _ hk2]
   rw [List.getElem?_eq_getElem hk2] at hrow; exact hrow
  have hrl:row.length ≤ pre.length:=by
   have:o2.set k (row ++ [x]) = canon r (pre ++ [x]):=hR.eq
   have h4:row ++ [x] ∈ canon r (pre ++ [x]):=by
    rw [← this]; exact List.mem_iff_getElem?.2 ⟨k,by rw [List.getElem?_set,if_pos rfl,if_pos hk2]⟩
   unfold canon at h4
   obtain ⟨q,_,hq⟩:=List.mem_map.1 h4
   have h5:=congrArg List.length hq
   have h6:=List.length_filter_le (fun z=>decide (r z = q)) (pre ++ [x])
   simp only [List.length_append,List.length_singleton] at h5 h6
   omega
  refine ah.a8 hix (ah.app (by simp only [List.length_singleton]; omega) (ah.a8 hix (ah.some ⟨g1,by rw [g2 hxk]; exact h2,?_⟩)))
  simp only
  rw [hk,Int.toNat_natCast]
  exact hR
theorem rP {F:Nat} (hF:F ≤ 100000000) {m:bm} {ps:List (Int × Int)} (h:St m ps) (hl:2 * ps.length < F):ah (bH F m) fun z=>Part (fun a b=>(a,b) ∈ ps) (fun a=>∃ p ∈ ps,a = p.1 ∨ a = p.2) z.1 ∧ St z.2 ps:=by
 refine (sets_S hF h.up (by have:=h.len; omega)).mono ?_
 rintro ⟨o,m'⟩ ⟨h1,h2,h3⟩
 simp only at h1 h2 h3 ⊢
 have hk:∀ u,u ∈ sorted (an m) ↔ ∃ p ∈ ps,u = p.1 ∨ u = p.2:=fun u=>by rw [lG,h.keys]
 refine ⟨?_,h2,fun u=>by rw [h3,h.keys],?_⟩
 ·rw [h1]
  have hp:=qR (r:=eU ps) (P:=fun a b=>(a,b) ∈ ps) (rb h.up.nd) h.up.rle h.up.idem (fun z hz=>?_) (tB ps) fun a b hab=>?_
  ·exact hp.congr (fun _ _=>.rfl) hk
  ·exact lG.2 (gZ.1 (h.up.low z (gZ.2 (lG.1 hz))).2.1)
  ·exact ⟨fun _=>(hk b).2 ⟨(a,b),hab,.inr rfl⟩,fun _=>(hk a).2 ⟨(a,b),hab,.inl rfl⟩⟩
 ·have:(an m').length = (an m).length:=by rw [h3]
  simp only [an,List.length_map] at this
  have:=h.len
  omega
theorem lE {l:List Int} (hl:l.length ≤ 1000):bd 2000 l l = some true:=by
 refine ah.eq ?_
 unfold bd
 refine ah.iff (by simp) ?_
 refine ah.bind (P:=(· = .inl ())) ?_ ?_
 ·refine ah.rounds (n:=l.length) (I:=fun k s=>s = (k:Int)) (by omega) rfl ?_
  rintro k s hk rfl
  refine ah.ite (fun hc=>?_) (fun hc=>?_)
  ·have hc:(k:Int) < l.length:=of_decide_eq_true hc
   rw [cx (by omega) (by omega)]
   refine ah.idx (by omega) hc (ah.idx (by omega) hc (ah.iff (by simp) (ah.some (.inl ⟨_,rfl,by push_cast; rfl,by omega⟩))))
  ·exact ah.some (.inr ⟨_,rfl,rfl⟩)
 ·rintro o rfl
  exact ah.some rfl
theorem ah.pass {τ:Type} {A:Int → Option (Int ⊕ τ)} {g:τ} {N st:Int} {F:Nat} {Q:τ → Prop} (h0:0 ≤ st) (hN:N ≤ 1000000000) (hF:(N - st).toNat < F) (h:∀ k,st ≤ k → k < N → A k = Option.some (.inl (IntKind.i64.wrap (k + 1)))) (hq:Q g):ah (iter F (fun i=>if decide (i < N) = true then A i else Option.some (.inr g)) st) Q:=by
 refine ah.rounds (n:=(N - st).toNat) (I:=fun k s=>s = st + (k:Int)) hF (by simp) ?_
 rintro k s hk rfl
 refine ah.ite (fun hc=>?_) fun hc=>?_
 ·have hc:=of_decide_eq_true hc
  rw [h _ (by omega) hc]
  refine ah.some (.inl ⟨_,rfl,?_,by omega⟩)
  rw [cx (by omega) (by omega)]; push_cast; omega
 ·exact ah.some (.inr ⟨_,rfl,hq⟩)
theorem iv {α:Type} [Inhabited α] {l:List α} {i j:Int} {x:α} (h0:0 ≤ i) (h1:i < l.length) (h2:0 ≤ j):idx (l.set i.toNat x) j = if j = i then x else idx l j:=by
 unfold idx
 rw [List.getD_eq_getElem?_getD,List.getD_eq_getElem?_getD,List.getElem?_set]
 by_cases e:j = i
 ·subst e; rw [if_pos rfl,if_pos (by omega),if_pos rfl]; rfl
 ·rw [if_neg (by omega),if_neg e]
theorem rB {α:Type} [Inhabited α] {n:Nat} {x:α} {j:Int} (h0:0 ≤ j) (h1:j < n):idx (List.replicate n x) j = x:=by
 obtain ⟨m,rfl⟩:∃ m:Nat,j = m:=⟨j.toNat,by omega⟩
 rw [dY _ _ (by simp; omega)]; simp
theorem rf {l:List (List Int)} (hl:l.length ≤ 1000) (hc:∀ c ∈ l,c.length ≤ 1000):bE 2000 l l = some true:=by
 refine ah.eq ?_
 unfold bE
 refine ah.iff (by simp) (ah.bind (P:=(· = .inl ())) ?_ (fun o ho=>by rw [ho]; exact ah.some rfl))
 refine ah.pass (by omega) (by omega) (by omega) (fun k h1 h2=>?_) rfl
 rw [dZ h1 h2]
 simp only [Option.bind_some]
 rw [lE (hc _ (lK h1 h2))]; rfl
def mg (L:List (List Int)):List (List Int):=(bn 2000 L).getD []
def Sz (L:List (List Int)):Prop:=L.length < 990 ∧ L.flatten.length < 990
theorem pa {L:List (List Int)} (h:Sz L):bn 2000 L = some (mg L) ∧ Part (pr L) (dm L) (mg L):=by
 obtain ⟨h1,h2⟩:=h
 obtain ⟨o,e,p⟩:=merge35 (F:=2000) (by omega) (L:=L) (by omega) (by omega)
 unfold mg
 rw [e]
 exact ⟨rfl,p⟩
theorem mg_uniq {L:List (List Int)} {o:List (List Int)} (h:Sz L) (hp:Part (pr L) (dm L) o):mg L = o:=(pa h).2.uniq hp
def Lnk (n:Nat) (l:A2):Prop:=0 ≤ l.a0 ∧ l.a0 < n ∧ 0 ≤ l.a1 ∧ l.a1 < n ∧ l.a0 ≠ l.a1
instance (n:Nat) (l:A2):Decidable (Lnk n l):=inferInstanceAs (Decidable (_ ∧ _))
def Gr (fx:List Bool) (ls:List A2):Prop:=fx.length ≤ 401 ∧ ∀ l ∈ ls,Lnk fx.length l
theorem sc {F:Nat} {fx:List Bool} {l:A2}:dn F l fx = some (!decide (Lnk fx.length l)):=by
 unfold dn dp
 refine ah.eq (ah.a8 rfl ?_)
 by_cases h1:((decide (l.a0 < 0)) || (decide ((fx.length:Int) ≤ l.a0))) = true
 ·refine ah.g0 (by rw [h1]; rfl) (ah.some ?_)
  rw [h1]
  simp only [Bool.true_or]
  simp only [Bool.or_eq_true,decide_eq_true_eq] at h1
  have:¬ Lnk fx.length l:=fun h=>by obtain ⟨a,b,_⟩:=h; omega
  simp [this]
 ·have h1:((decide (l.a0 < 0)) || (decide ((fx.length:Int) ≤ l.a0))) = false:=by simpa using h1
  refine ah.g1 (by rw [h1]; rfl) (ah.a8 rfl (ah.some ?_))
  rw [h1]
  simp only [Bool.false_or]
  simp only [Bool.or_eq_false_iff,decide_eq_false_iff_not] at h1
  by_cases hl:Lnk fx.length l
  ·obtain ⟨a1,a2,a3,a4,a5⟩:=id hl
   simp [hl,a5]; omega
  ·have h2:l.a1 < 0 ∨ (fx.length:Int) ≤ l.a1 ∨ l.a0 = l.a1:=by
    by_cases e:l.a1 < 0
    ·exact .inl e
    ·by_cases e2:(fx.length:Int) ≤ l.a1
     ·exact .inr (.inl e2)
     ·by_cases e3:l.a0 = l.a1
      ·exact .inr (.inr e3)
      ·exact absurd (show Lnk fx.length l from ⟨by omega,by omega,by omega,by omega,e3⟩) hl
   simp only [hl,decide_false,Bool.not_false]
   simp only [Bool.or_eq_true,decide_eq_true_eq]
   rcases h2 with h | h | h
   ·exact .inl (.inl h)
   ·exact .inl (.inr h)
   ·exact .inr h
theorem pT {F:Nat} {fx:List Bool} {ls:List A2} (hF:ls.length < F) (hL:ls.length ≤ 9223372036854775807):ah (bR F fx ls) fun r=>(r = true ↔ Gr fx ls):=by
 unfold bR
 by_cases hc:(decide ((fx.length:Int) ≤ 401)) = true
 ·refine ah.g1 hc ?_
  unfold dr dR
  have hc':fx.length ≤ 401:=by have:=of_decide_eq_true hc; omega
  refine ah.bind (P:=fun r=>(r = false ↔ Gr fx ls)) ?_ fun r hr=>ah.some (by rw [hc]; cases r <;> simp_all)
  refine ah.bind (P:=fun r:Int=>(r < 0 ↔ Gr fx ls)) ?_ fun r hr=>ah.some (by rw [← hr]; simp)
  refine ah.bind (P:=fun o=>(o = .inl () ∧ Gr fx ls) ∨ ∃ i:Int,o = .inr i ∧ 0 ≤ i ∧ ¬ Gr fx ls) ?_ ?_
  ·refine ah.ea1 (fun pre=>∀ l ∈ pre,Lnk fx.length l) hF hL (by simp) (fun pre x post e hx hI=>?_) fun h=>.inl ⟨rfl,hc',h⟩
   refine ah.a8 hx (ah.a8 sc (ah.ite (fun h=>ah.some (.inr ⟨_,rfl,.inr ⟨_,rfl,by omega,fun hg=>?_⟩⟩)) (fun h=>ah.some (.inl ⟨rfl,fun l hl=>?_⟩))))
   ·have:=hg.2 x (by rw [e]; simp); simp [this] at h
   ·rcases List.mem_append.1 hl with hl | hl
    ·exact hI l hl
    ·rw [List.mem_singleton.1 hl]; simpa using h
  ·rintro o (⟨rfl,h⟩ | ⟨i,rfl,h1,h2⟩)
   ·exact ah.some ⟨fun _=>h,fun _=>by omega⟩
   ·exact ah.some ⟨fun _=>by omega,fun h=>absurd h h2⟩
 ·have hc:(decide ((fx.length:Int) ≤ 401)) = false:=by simpa using hc
  refine ah.g0 hc (ah.some ?_)
  rw [hc]
  refine ⟨fun h=>by simp at h,fun h=>?_⟩
  have:=of_decide_eq_false hc
  have:=h.1
  omega
def pA (fx:List Bool) (l:A2):Prop:=idx fx l.a0 = false ∧ idx fx l.a1 = false
instance (fx:List Bool) (l:A2):Decidable (pA fx l):=inferInstanceAs (Decidable (_ ∧ _))
def qV (fx:List Bool) (ls:List A2):List Int:=((List.range ls.length).filter fun i:Nat=>decide (pA fx (idx ls (i:Int)))).map fun i:Nat=>(i:Int)
theorem fI (p:Nat → Bool) (n:Nat):(List.range (n + 1)).filter p = (List.range n).filter p ++ if p n then [n] else []:=by
 rw [List.range_succ,List.filter_append]; congr 1; simp [List.filter]; split <;> simp_all
theorem mvs_ok {F:Nat} {fx:List Bool} {ls:List A2} (hF:ls.length < F) (hL:ls.length ≤ 1000000) (hg:Gr fx ls):du F fx ls = some (qV fx ls):=by
 refine ah.eq ?_
 unfold du
 refine ah.bind (P:=(· = qV fx ls)) ?_ fun o ho=>by rw [ho]; exact ah.some rfl
 refine ah.qX (fun pre s=>s = ((List.range pre.length).filter fun i:Nat=>decide (pA fx (idx ls (i:Int)))).map fun i:Nat=>(i:Int)) hF (by omega) rfl (fun pre x post s e hx hI=>?_) fun s hs=>hs
 have hxi:idx ls (pre.length:Int) = x:=n6 hx
 obtain ⟨a1,a2,a3,a4,a5⟩:=hg.2 x (by rw [e]; simp)
 subst hI
 have hlen:(((List.range pre.length).filter fun i:Nat=>decide (pA fx (idx ls (i:Int)))).map fun i:Nat=>(i:Int)).length ≤ pre.length:=by
  rw [List.length_map]; refine Nat.le_trans (List.length_filter_le _ _) ?_; simp
 have hpl:pre.length ≤ ls.length:=by rw [e]; simp
 refine ah.bind (P:=(· = ((List.range (pre ++ [x]).length).filter fun i:Nat=>decide (pA fx (idx ls (i:Int)))).map fun i:Nat=>(i:Int))) ?_ fun o ho=>by rw [ho]; exact ah.some (.inl ⟨_,rfl,rfl⟩)
 rw [List.length_append,List.length_singleton,fI,hxi]
 refine ah.a8 hx (ah.idx a1 (by omega) ?_)
 by_cases h0:idx fx x.a0 = true
 ·refine ah.g0 (by rw [h0]; rfl) (ah.iff (by rw [h0]; rfl) (ah.some ?_))
  rw [if_neg (by simp [pA,h0])]; simp
 ·have h0:idx fx x.a0 = false:=by simpa using h0
  refine ah.g1 (by rw [h0]; rfl) (ah.idx a3 (by omega) ?_)
  by_cases h1:idx fx x.a1 = true
  ·refine ah.iff (by rw [h0,h1]; rfl) (ah.some ?_)
   rw [if_neg (by simp [pA,h1])]; simp
  ·have h1:idx fx x.a1 = false:=by simpa using h1
   refine ah.qi (by rw [h0,h1]; rfl) (ah.app (by simp only [List.length_singleton]; omega) (ah.some ?_))
   rw [if_pos (by simp [pA,h0,h1])]; simp
theorem jn_self (r:Int → Int) (x:Int):jn r x x = r:=by
 funext z
 unfold jn
 rw [show max (r x) (r x) = r x by omega,show min (r x) (r x) = r x by omega]
 split
 ·next h=>exact h.symm
 ·rfl
theorem St.root {F:Nat} {m:bm} {ps:List (Int × Int)} {x:Int} (h:St m ps) (hF:2 * ps.length < F):ah (bI F x m) fun z=>St z.2 (ps ++ [(x,x)]):=by
 refine (oI h.up (x:=x) (by have:=h.len; omega)).mono ?_
 rintro ⟨b,m'⟩ ⟨h1,h2,h3,h4,_⟩
 refine ⟨by rw [mz,jn_self]; exact h2,fun u=>?_,by have:=h.len; simp at h4 ⊢; omega⟩
 simp only at h3 ⊢
 rw [h3,h.keys]
 constructor
 ·rintro (h | ⟨p,hp,h⟩)
  ·exact ⟨(x,x),by simp,.inl h⟩
  ·exact ⟨p,by simp [hp],h⟩
 ·rintro ⟨p,hp,h⟩
  rcases List.mem_append.1 hp with hp | hp
  ·exact .inr ⟨p,hp,h⟩
  ·rw [List.mem_singleton.1 hp] at h
   exact .inl (by rcases h with h | h <;> exact h)
def kI (fx:List Bool) (n:Nat):List (Int × Int):=((List.range n).filter fun i:Nat=>decide (idx fx (i:Int) = false)).map fun i:Nat=>((i:Int),(i:Int))
theorem lO (fx:List Bool) (n:Nat):(kI fx n).length ≤ n:=by
 unfold kI; rw [List.length_map]; refine Nat.le_trans (List.length_filter_le _ _) (by simp)
theorem p5 (fx:List Bool) (n:Nat):kI fx (n + 1) = kI fx n ++ if idx fx (n:Int) = false then [((n:Int),(n:Int))] else []:=by
 unfold kI; rw [fI,List.map_append]; congr 1
 by_cases h:idx fx (n:Int) = false <;> simp [h]
def lu (ls:List A2) (i:Int):Int × Int:=((idx ls i).a0,(idx ls i).a1)
def qW (ls:List A2) (base:List (Int × Int)) (is:List Int):List (Int × Int) × List Int :=
 is.foldl (fun acc i=>(acc.1 ++ [lu ls i],if eU acc.1 (lu ls i).1 = eU acc.1 (lu ls i).2 then acc.2 else acc.2 ++ [i])) (base,[])
theorem tP (ls:List A2) (base:List (Int × Int)) (is:List Int) (i:Int):qW ls base (is ++ [i]) = ((qW ls base is).1 ++ [lu ls i],if eU (qW ls base is).1 (lu ls i).1 = eU (qW ls base is).1 (lu ls i).2 then (qW ls base is).2 else (qW ls base is).2 ++ [i]):=by
 unfold qW; rw [List.foldl_append]; rfl
theorem pe (ls:List A2):∀ (is:List Int) (acc:List (Int × Int) × List Int),(is.foldl (fun acc i=>(acc.1 ++ [lu ls i],if eU acc.1 (lu ls i).1 = eU acc.1 (lu ls i).2 then acc.2 else acc.2 ++ [i])) acc).1 = acc.1 ++ is.map (lu ls) ∧
  (is.foldl (fun acc i=>(acc.1 ++ [lu ls i],if eU acc.1 (lu ls i).1 = eU acc.1 (lu ls i).2 then acc.2 else acc.2 ++ [i])) acc).2.length ≤ acc.2.length + is.length
 | [],acc=>by simp
 | i :: is,acc=>by
  obtain ⟨h1,h2⟩:=pe ls is (acc.1 ++ [lu ls i],if eU acc.1 (lu ls i).1 = eU acc.1 (lu ls i).2 then acc.2 else acc.2 ++ [i])
  rw [List.foldl_cons]
  refine ⟨by rw [h1]; simp,Nat.le_trans h2 ?_⟩
  simp only [List.length_cons]
  split <;> simp <;> omega
theorem frs_fst (ls:List A2) (base:List (Int × Int)) (is:List Int):(qW ls base is).1 = base ++ is.map (lu ls):=(pe ls is (base,[])).1
theorem frs_len (ls:List A2) (base:List (Int × Int)) (is:List Int):(qW ls base is).2.length ≤ is.length:=by
 have h:=(pe ls is (base,[])).2
 rw [List.length_nil,Nat.zero_add] at h
 exact h
theorem ng (fx:List Bool) (ls:List A2):(qV fx ls).length ≤ ls.length:=by
 unfold qV; rw [List.length_map]; refine Nat.le_trans (List.length_filter_le _ _) (by simp)
theorem nh {fx:List Bool} {ls:List A2} {i:Int}:i ∈ qV fx ls ↔ 0 ≤ i ∧ i < ls.length ∧ pA fx (idx ls i):=by
 simp only [qV,List.mem_map,List.mem_filter,List.mem_range,decide_eq_true_eq]
 constructor
 ·rintro ⟨k,⟨h1,h2⟩,rfl⟩; exact ⟨by omega,by omega,h2⟩
 ·rintro ⟨h1,h2,h3⟩; exact ⟨i.toNat,⟨by omega,by rw [show ((i.toNat:Nat):Int) = i by omega]; exact h3⟩,by omega⟩
def aps (fx:List Bool) (ls:List A2):List (Int × Int):=kI fx fx.length ++ (qV fx ls).map (lu ls)
theorem r8 {F:Nat} {fx:List Bool} {ls:List A2} (hF:2 * (fx.length + ls.length) + 1 < F) (hL:ls.length ≤ 1000000) (hg:Gr fx ls):ah (c7 F fx ls) fun z=>St z.1 (aps fx ls) ∧ z.2 = (qW ls (kI fx fx.length) (qV fx ls)).2:=by
 have hx:=hg.1
 unfold c7
 refine ah.bind (P:=fun up=>St up (kI fx fx.length)) ?_ fun up hup=>?_
 ·refine ah.qX (fun pre up=>St up (kI fx pre.length)) (by omega) (by omega) (by simpa [kI] using St.nil) (fun pre x post up e hxi hI=>?_) fun up h=>h
  have hxe:idx fx (pre.length:Int) = x:=n6 hxi
  have hpl:pre.length < fx.length:=by rw [e]; simp
  refine ah.bind (P:=fun up'=>St up' (kI fx (pre ++ [x]).length)) ?_ fun up' h=>ah.some (.inl ⟨up',rfl,h⟩)
  rw [List.length_append,List.length_singleton,p5,hxe]
  refine ah.a8 hxi (ah.ite (fun hc=>?_) (fun hc=>?_))
  ·have hc:x = false:=by simpa using hc
   refine ah.bind (hI.root (x:=(pre.length:Int)) (by have:=lO fx pre.length; omega)) ?_
   rintro ⟨a,m'⟩ h
   exact ah.some (by rw [if_pos hc]; exact h)
  ·have hc:x = true:=by simpa using hc
   exact ah.some (by rw [if_neg (by simp [hc]),List.append_nil]; exact hI)
 ·refine ah.bind (P:=fun z=>St z.1 (aps fx ls) ∧ z.2 = (qW ls (kI fx fx.length) (qV fx ls)).2) ?_ (by rintro ⟨a,b⟩ h; exact ah.some h)
  refine ah.a8 (mvs_ok (by omega) hL hg) ?_
  have hml:=ng fx ls
  have hal:=lO fx fx.length
  refine ah.ea3 (fun pre up out=>St up (kI fx fx.length ++ pre.map (lu ls)) ∧ out = (qW ls (kI fx fx.length) pre).2) (by omega) (by omega) ⟨by simpa using hup,by simp [qW]⟩ (fun pre x post up out e hxi hI=>?_) fun up out h=>h
  obtain ⟨hI,ho⟩:=hI
  have hxm:x ∈ qV fx ls:=by rw [e]; simp
  obtain ⟨i1,i2,i3⟩:=nh.1 hxm
  have hpl:pre.length < (qV fx ls).length:=by rw [e]; simp
  refine ah.bind (P:=fun z=>St z.1 (kI fx fx.length ++ (pre ++ [x]).map (lu ls)) ∧ z.2 = (qW ls (kI fx fx.length) (pre ++ [x])).2) ?_ (by rintro ⟨a,b⟩ h; exact ah.some (.inl ⟨a,b,rfl,h⟩))
  refine ah.a8 hxi (ah.idx i1 (by omega) (ah.idx i1 (by omega) ?_))
  refine ah.bind (hI.join (x:=(idx ls x).a0) (y:=(idx ls x).a1) (by simp; omega)) ?_
  rintro ⟨b,m'⟩ ⟨h1,h2⟩
  simp only at h1 h2
  have hps:kI fx fx.length ++ (pre ++ [x]).map (lu ls) = kI fx fx.length ++ pre.map (lu ls) ++ [((idx ls x).a0,(idx ls x).a1)]:=by simp [lu]
  have hfl:=frs_len ls (kI fx fx.length) pre
  rw [hps,tP,frs_fst]
  subst h1
  refine ah.ite (fun hc=>?_) (fun hc=>?_)
  ·have hc:=of_decide_eq_true hc
   refine ah.app (by rw [ho]; simp only [List.length_singleton]; omega) (ah.some ⟨h2,?_⟩)
   rw [ho]; exact (if_neg hc).symm
  ·have hc:=of_decide_eq_false hc
   have hc:eU (kI fx fx.length ++ pre.map (lu ls)) (idx ls x).a0 = eU (kI fx fx.length ++ pre.map (lu ls)) (idx ls x).a1:=by
    by_cases e:eU (kI fx fx.length ++ pre.map (lu ls)) (idx ls x).a0 = eU (kI fx fx.length ++ pre.map (lu ls)) (idx ls x).a1
    ·exact e
    ·exact absurd e hc
   refine ah.some ⟨h2,?_⟩
   rw [ho]; exact (if_pos hc).symm
def Lk (fx:List Bool) (ls:List A2) (a b:Int):Prop:=∃ l ∈ ls,pA fx l ∧ l.a0 = a ∧ l.a1 = b
def Mv (fx:List Bool) (a:Int):Prop:=0 ≤ a ∧ a < fx.length ∧ idx fx a = false
theorem lI {fx:List Bool} {p:Int × Int}:p ∈ kI fx fx.length ↔ Mv fx p.1 ∧ p.2 = p.1:=by
 obtain ⟨a,b⟩:=p
 simp only [kI,List.mem_map,List.mem_filter,List.mem_range,decide_eq_true_eq,Prod.mk.injEq,Mv]
 constructor
 ·rintro ⟨k,⟨h1,h2⟩,rfl,rfl⟩; exact ⟨⟨by omega,by omega,h2⟩,rfl⟩
 ·rintro ⟨⟨h1,h2,h3⟩,rfl⟩; exact ⟨b.toNat,⟨by omega,by rw [show ((b.toNat:Nat):Int) = b by omega]; exact h3⟩,by omega,by omega⟩
theorem pc {fx:List Bool} {ls:List A2} {a b:Int}:(a,b) ∈ (qV fx ls).map (lu ls) ↔ Lk fx ls a b:=by
 simp only [List.mem_map,nh,lu,Prod.mk.injEq,Lk]
 constructor
 ·rintro ⟨i,⟨h1,h2,h3⟩,rfl,rfl⟩; exact ⟨idx ls i,lK h1 h2,h3,rfl,rfl⟩
 ·rintro ⟨l,hl,h3,rfl,rfl⟩
  obtain ⟨k,hk,e⟩:=List.getElem_of_mem hl
  have:idx ls (k:Int) = l:=by rw [dY _ _ hk]; exact e
  exact ⟨(k:Int),⟨by omega,by omega,by rw [this]; exact h3⟩,by rw [this],by rw [this]⟩
theorem find_ok {F:Nat} {fx:List Bool} {ls:List A2} (hF:2 * (fx.length + ls.length) + 1 < F) (hF2:F ≤ 100000000) (hL:ls.length ≤ 1000000):ah (cP F fx ls) fun z=>(Gr fx ls ∧ z.2 = 0 ∧ Part (Lk fx ls) (Mv fx) z.1) ∨ (¬ Gr fx ls ∧ z = ([],1)):=by
 unfold cP
 refine ah.bind (pT (by omega) (by omega)) fun r hr=>?_
 refine ah.ite (fun hc=>ah.some (.inr ⟨fun h=>by simp [hr.2 h] at hc,rfl⟩)) (fun hc=>?_)
 have hg:Gr fx ls:=hr.1 (by simpa using hc)
 refine ah.bind (r8 hF hL hg) ?_
 rintro ⟨m,out⟩ ⟨h1,h2⟩
 have hlen:(aps fx ls).length ≤ fx.length + ls.length:=by
  unfold aps; rw [List.length_append,List.length_map]; have:=lO fx fx.length; have:=ng fx ls; omega
 refine ah.bind (rP hF2 h1 (by omega)) ?_
 rintro ⟨o,m'⟩ ⟨hp,_⟩
 refine ah.some (.inl ⟨hg,rfl,hp.congr (gw.congr (fun a b hab=>?_) (fun a b hab=>?_)) fun a=>?_⟩)
 ·rcases List.mem_append.1 hab with hab | hab
  ·have:=(lI.1 hab).2
   simp only at this; subst this; exact .rfl _
  ·exact .of (pc.1 hab)
 ·exact .of (List.mem_append.2 (.inr (pc.2 hab)))
 ·constructor
  ·rintro ⟨p,hp,h⟩
   rcases List.mem_append.1 hp with hp | hp
   ·obtain ⟨h3,h4⟩:=lI.1 hp
    rcases h with h | h
    ·rw [h]; exact h3
    ·rw [h,h4]; exact h3
   ·obtain ⟨l,hl,⟨m1,m2⟩,e1,e2⟩:=pc.1 (show (p.1,p.2) ∈ _ from hp)
    obtain ⟨a1,a2,a3,a4,_⟩:=hg.2 l hl
    rcases h with h | h
    ·rw [h,← e1]; exact ⟨a1,a2,m1⟩
    ·rw [h,← e2]; exact ⟨a3,a4,m2⟩
  ·intro h
   exact ⟨(a,a),List.mem_append.2 (.inl (lI.2 ⟨h,rfl⟩)),.inl rfl⟩
def l8 (fx:List Bool) (ls:List A2):List (List Int):=(kI fx fx.length).map (fun p=>[p.1]) ++ (qV fx ls).map fun i=>[(idx ls i).a0,(idx ls i).a1]
theorem lH {fx:List Bool} {ls:List A2} {c:List Int}:c ∈ l8 fx ls ↔ (∃ a,Mv fx a ∧ c = [a]) ∨ ∃ l ∈ ls,pA fx l ∧ c = [l.a0,l.a1]:=by
 unfold l8
 rw [List.mem_append,List.mem_map,List.mem_map]
 constructor
 ·rintro (⟨p,hp,rfl⟩ | ⟨i,hi,rfl⟩)
  ·exact .inl ⟨p.1,(lI.1 hp).1,rfl⟩
  ·obtain ⟨h1,h2,h3⟩:=nh.1 hi
   exact .inr ⟨idx ls i,lK h1 h2,h3,rfl⟩
 ·rintro (⟨a,ha,rfl⟩ | ⟨l,hl,hm,rfl⟩)
  ·exact .inl ⟨(a,a),lI.2 ⟨ha,rfl⟩,rfl⟩
  ·obtain ⟨k,hk,e⟩:=List.getElem_of_mem hl
   have e':idx ls (k:Int) = l:=by rw [dY _ _ hk]; exact e
   exact .inr ⟨(k:Int),nh.2 ⟨by omega,by omega,by rw [e']; exact hm⟩,by rw [e']⟩
theorem pS {fx:List Bool} {ls:List A2} (hg:Gr fx ls) {o:List (List Int)}:Part (pr (l8 fx ls)) (dm (l8 fx ls)) o ↔ Part (Lk fx ls) (Mv fx) o:=by
 have h1:∀ a b,pr (l8 fx ls) a b → gw (Lk fx ls) a b:=by
  rintro a b ⟨c,hc,ha,hb⟩
  rcases lH.1 hc with ⟨x,_,rfl⟩ | ⟨l,hl,hm,rfl⟩
  ·rw [List.mem_singleton.1 ha,List.mem_singleton.1 hb]; exact .rfl _
  ·have hlk:gw (Lk fx ls) l.a0 l.a1:=.of ⟨l,hl,hm,rfl,rfl⟩
   simp only [List.mem_cons,List.not_mem_nil,or_false] at ha hb
   rcases ha with rfl | rfl <;> rcases hb with rfl | rfl
   ·exact .rfl _
   ·exact hlk
   ·exact hlk.symm
   ·exact .rfl _
 have h2:∀ a b,Lk fx ls a b → gw (pr (l8 fx ls)) a b:=by
  rintro a b ⟨l,hl,hm,rfl,rfl⟩
  exact .of ⟨[l.a0,l.a1],lH.2 (.inr ⟨l,hl,hm,rfl⟩),by simp,by simp⟩
 have h3:∀ a,dm (l8 fx ls) a ↔ Mv fx a:=fun a=>by
  constructor
  ·rintro ⟨c,hc,ha⟩
   rcases lH.1 hc with ⟨x,hx,rfl⟩ | ⟨l,hl,⟨m1,m2⟩,rfl⟩
   ·rw [List.mem_singleton.1 ha]; exact hx
   ·obtain ⟨a1,a2,a3,a4,_⟩:=hg.2 l hl
    simp only [List.mem_cons,List.not_mem_nil,or_false] at ha
    rcases ha with rfl | rfl
    ·exact ⟨a1,a2,m1⟩
    ·exact ⟨a3,a4,m2⟩
  ·exact fun h=>⟨[a],lH.2 (.inl ⟨a,h,rfl⟩),by simp⟩
 exact ⟨fun h=>h.congr (gw.congr h1 h2) h3,fun h=>h.congr (gw.congr h2 h1) fun a=>(h3 a).symm⟩
theorem m8 {F:Nat} {fx:List Bool} {ls:List A2} (hF:ls.length < F) (hL:ls.length ≤ 9223372036854775807):ah (bG F fx ls) fun r=>(r = true ↔ Gr fx ls):=by
 unfold bG
 refine ah.ite (fun hc=>ah.some ?_) (fun hc=>?_)
 ·have:=of_decide_eq_true hc
  exact ⟨fun h=>(by cases h),fun h=>absurd h.1 (by omega)⟩
 ·have hc:=of_decide_eq_false hc
  refine ah.bind (P:=fun o=>(o = .inl () ∧ Gr fx ls) ∨ (o = .inr false ∧ ¬ Gr fx ls)) ?_ ?_
  ·refine ah.ea1 (fun pre=>∀ l ∈ pre,Lnk fx.length l) hF hL (by simp) (fun pre x post e hx hI=>?_) fun h=>.inl ⟨rfl,by omega,h⟩
   refine ah.a8 hx (ah.a8 hx (ah.ln (ah.ln (ah.ite (fun h=>ah.some (.inr ⟨_,rfl,.inr ⟨rfl,fun hg=>?_⟩⟩)) (fun h=>ah.some (.inl ⟨rfl,fun l hl=>?_⟩))))))
   ·obtain ⟨a1,a2,a3,a4,a5⟩:=hg.2 x (by rw [e]; simp)
    simp only [Bool.or_eq_true,decide_eq_true_eq] at h
    omega
   ·rcases List.mem_append.1 hl with hl | hl
    ·exact hI l hl
    ·rw [List.mem_singleton.1 hl]
     simp only [Bool.or_eq_false_iff,decide_eq_false_iff_not] at h
     exact ⟨by omega,by omega,by omega,by omega,h.2⟩
  ·rintro o (⟨rfl,h⟩ | ⟨rfl,h⟩)
   ·exact ah.some ⟨fun _=>h,fun _=>rfl⟩
   ·exact ah.some ⟨fun h'=>(by cases h'),fun h'=>absurd h' h⟩
theorem sb {F:Nat} {fx:List Bool} {ls:List A2} (hF:fx.length + ls.length < F) (hL:ls.length ≤ 1000000) (hg:Gr fx ls):bL F fx ls = bn F (l8 fx ls):=by
 have hx:=hg.1
 obtain ⟨r,hr⟩:∃ r,bn F (l8 fx ls) = r:=⟨_,rfl⟩
 unfold bL
 have al:=lO fx
 have h1:(iter F (bK fun l_2 i_3=>if (decide (i_3 < (fx.length:Int))) = true then (Option.bind (Option.bind (aE fx i_3) (fun x_6=>if (!x_6) = true then (Option.bind (dv l_2 [[i_3]]) (fun x_7=>some x_7)) else (some l_2))) (fun l_5=>some (.inl (l_5,IntKind.i64.wrap (i_3 + 1))))) else (some (.inr l_2))) ([],0)) = some ((kI fx fx.length).map fun p=>[p.1]):=by
  refine ah.eq (ah.qX (fun pre s=>s = (kI fx pre.length).map fun p=>[p.1]) (by omega) (by omega) (by simp [kI]) (fun pre x post s e hxi hI=>?_) fun s h=>h)
  have hxe:idx fx (pre.length:Int) = x:=n6 hxi
  have hpl:pre.length < fx.length:=by rw [e]; simp
  have:=al pre.length
  subst hI
  refine ah.bind (P:=(· = (kI fx (pre ++ [x]).length).map fun p=>[p.1])) ?_ fun s hs=>by rw [hs]; exact ah.some (.inl ⟨_,rfl,rfl⟩)
  rw [List.length_append,List.length_singleton,p5,hxe]
  refine ah.a8 hxi (ah.ite (fun hc=>?_) (fun hc=>?_))
  ·have hc:x = false:=by simpa using hc
   exact ah.app (by simp only [List.length_map,List.length_singleton]; omega) (ah.some (by rw [if_pos hc]; simp))
  ·have hc:x = true:=by simpa using hc
   exact ah.some (by rw [if_neg (by simp [hc])]; simp)
 rw [h1]
 simp only [Option.bind_some]
 have ml:=ng fx ls
 have h2:(iter F (bK fun l_9 i_10=>if (decide (i_10 < (ls.length:Int))) = true then (Option.bind (Option.bind (aE ls i_10) (fun x_13=>Option.bind (aE fx x_13.a0) (fun x_14=>Option.bind (cy (!x_14) (aE ls i_10)) (fun x_15=>Option.bind (cy (!x_14) (aE fx x_15.a1)) (fun x_16=>if ((!x_14) && (!x_16)) = true then (Option.bind (aE ls i_10) (fun x_17=>Option.bind (aE ls i_10) (fun x_18=>Option.bind (dv l_9 [[x_17.a0,x_18.a1]]) (fun x_19=>some x_19)))) else (some l_9)))))) (fun l_12=>some (.inl (l_12,IntKind.i64.wrap (i_10 + 1))))) else (some (.inr l_9))) ((kI fx fx.length).map fun p=>[p.1],0)) = some (l8 fx ls):=by
  refine ah.eq (ah.qX (fun pre s=>s = (kI fx fx.length).map (fun p=>[p.1]) ++ (((List.range pre.length).filter fun i:Nat=>decide (pA fx (idx ls (i:Int)))).map fun i:Nat=>[(idx ls (i:Int)).a0,(idx ls (i:Int)).a1])) (by omega) (by omega) (by simp) (fun pre x post s e hxi hI=>?_) fun s h=>?_)
  rotate_left
  ·rw [h]; unfold l8 qV; rw [List.map_map]; rfl
  have hxe:idx ls (pre.length:Int) = x:=n6 hxi
  have hpl:pre.length < ls.length:=by rw [e]; simp
  obtain ⟨a1,a2,a3,a4,a5⟩:=hg.2 x (by rw [e]; simp)
  have:=al fx.length
  have hfl:((List.range pre.length).filter fun i:Nat=>decide (pA fx (idx ls (i:Int)))).length ≤ pre.length:=by refine Nat.le_trans (List.length_filter_le _ _) (by simp)
  subst hI
  refine ah.bind (P:=(· = (kI fx fx.length).map (fun p=>[p.1]) ++ (((List.range (pre ++ [x]).length).filter fun i:Nat=>decide (pA fx (idx ls (i:Int)))).map fun i:Nat=>[(idx ls (i:Int)).a0,(idx ls (i:Int)).a1]))) ?_ fun s hs=>by rw [hs]; exact ah.some (.inl ⟨_,rfl,rfl⟩)
  rw [List.length_append,List.length_singleton,fI,hxe]
  refine ah.a8 hxi (ah.idx a1 (by omega) ?_)
  by_cases m0:idx fx x.a0 = true
  ·refine ah.g0 (by rw [m0]; rfl) (ah.g0 (by rw [m0]; rfl) (ah.iff (by rw [m0]; rfl) (ah.some ?_)))
   rw [if_neg (by simp [pA,m0])]; simp
  ·have m0:idx fx x.a0 = false:=by simpa using m0
   refine ah.g1 (by rw [m0]; rfl) (ah.a8 hxi (ah.g1 (by rw [m0]; rfl) (ah.idx a3 (by omega) ?_)))
   by_cases m1:idx fx x.a1 = true
   ·refine ah.iff (by rw [m0,m1]; rfl) (ah.some ?_)
    rw [if_neg (by simp [pA,m1])]; simp
   ·have m1:idx fx x.a1 = false:=by simpa using m1
    refine ah.qi (by rw [m0,m1]; rfl) (ah.a8 hxi (ah.a8 hxi (ah.app (by simp only [List.length_append,List.length_map,List.length_singleton]; omega) (ah.some ?_))))
    rw [if_pos (by simp [pA,m0,m1])]
    simp [hxe]
 rw [h2]
 simp only [Option.bind_some]
 cases bn F (l8 fx ls) <;> rfl
theorem ils_len (fx:List Bool) (ls:List A2):(l8 fx ls).length ≤ fx.length + ls.length:=by
 unfold l8
 rw [List.length_append,List.length_map,List.length_map]
 have:=lO fx fx.length; have:=ng fx ls; omega
theorem pV:∀ {L:List (List Int)},(∀ c ∈ L,c.length ≤ 2) → L.flatten.length ≤ 2 * L.length
 | [],_=>by simp
 | c :: L,h=>by
  have:=pV (L:=L) fun d hd=>h d (List.mem_cons_of_mem _ hd)
  have:=h c (List.mem_cons_self ..)
  simp only [List.flatten_cons,List.length_append,List.length_cons]; omega
theorem qw {fx:List Bool} {ls:List A2} (h:fx.length + ls.length < 490):Sz (l8 fx ls):=by
 have h1:=ils_len fx ls
 have h2:=pV (L:=l8 fx ls) fun c hc=>by
  rcases lH.1 hc with ⟨a,_,rfl⟩ | ⟨l,_,_,rfl⟩ <;> simp
 exact ⟨by omega,by omega⟩
theorem sC {fx:List Bool} {ls:List A2} (h:fx.length + ls.length < 490) (hg:Gr fx ls):bL 2000 fx ls = some (mg (l8 fx ls)):=by
 rw [sb (by omega) (by omega) hg]; exact (pa (qw h)).1
theorem iS {fx:List Bool} {ls:List A2} (h:fx.length + ls.length < 490) (hg:Gr fx ls):Part (Lk fx ls) (Mv fx) (mg (l8 fx ls)):=(pS hg).1 (pa (qw h)).2
open Classical in
theorem nA {fx:List Bool} {ls:List A2} (h:fx.length + ls.length < 490):cP 2000 fx ls = some (if Gr fx ls then (mg (l8 fx ls),0) else ([],1)):=by
 obtain ⟨z,e,hz⟩:=find_ok (F:=2000) (fx:=fx) (ls:=ls) (by omega) (by omega) (by omega)
 rw [e]
 rcases hz with ⟨hg,h0,hp⟩ | ⟨hg,rfl⟩
 ·rw [if_pos hg,mg_uniq (qw h) ((pS hg).2 hp),← h0]
 ·rw [if_neg hg]
open Classical in
theorem pW {fx:List Bool} {ls:List A2} (h:fx.length + ls.length < 490):cW 2000 fx ls = some (if Gr fx ls then ⟨mg (l8 fx ls),0⟩ else ⟨[],1⟩):=by
 refine ah.eq ?_
 unfold cW
 refine ah.bind (m8 (by omega) (by omega)) fun r hr=>?_
 by_cases hg:Gr fx ls
 ·rw [if_pos hg]
  have:r = true:=hr.2 hg
  subst this
  first
   | exact ah.iff rfl (ah.a8 (sC h hg) (ah.some rfl))
   | exact ah.qi rfl (ah.a8 (sC h hg) (ah.some rfl))
 ·rw [if_neg hg]
  have:r = false:=by cases r <;> simp_all
  subst this
  first
   | exact ah.qi rfl (ah.some rfl)
   | exact ah.iff rfl (ah.some rfl)
def jH (ls:List A2) (a b:Int):Prop:=∃ l ∈ ls,(l.a0 = a ∧ l.a1 = b) ∨ (l.a0 = b ∧ l.a1 = a)
theorem jH.symm {ls:List A2} {a b:Int} (h:jH ls a b):jH ls b a:=by
 obtain ⟨l,hl,h⟩:=h; exact ⟨l,hl,h.symm⟩
theorem jH.oF {fx:List Bool} {ls:List A2} {a b:Int} (hg:Gr fx ls) (h:jH ls a b):0 ≤ a ∧ a < fx.length ∧ 0 ≤ b ∧ b < fx.length ∧ a ≠ b:=by
 obtain ⟨l,hl,h⟩:=h
 obtain ⟨a1,a2,a3,a4,a5⟩:=hg.2 l hl
 rcases h with ⟨rfl,rfl⟩ | ⟨rfl,rfl⟩
 ·exact ⟨a1,a2,a3,a4,a5⟩
 ·exact ⟨a3,a4,a1,a2,Ne.symm a5⟩
def Ends (ls:List A2) (i a b:Int):Prop:=((idx ls i).a0 = a ∧ (idx ls i).a1 = b) ∨ ((idx ls i).a0 = b ∧ (idx ls i).a1 = a)
theorem Ends.symm {ls:List A2} {i a b:Int} (h:Ends ls i a b):Ends ls i b a:=Or.symm h
structure Nr (n:Nat) (ls:List A2) (is:List Int) (near:List (List jE)):Prop where
 len:near.length = n
 mem:∀ v:Int,0 ≤ v → v < n → ∀ e,e ∈ idx near v ↔ e.pos ∈ is ∧ Ends ls e.pos v e.to
 nd:∀ v:Int,0 ≤ v → v < n → ((idx near v).map (·.pos)).Nodup
theorem Nr.le {n:Nat} {ls:List A2} {is:List Int} {near:List (List jE)} (h:Nr n ls is near) {v:Int} (h0:0 ≤ v) (h1:v < n):(idx near v).length ≤ is.length:=by
 have:=mi (h.nd v h0 h1) (m:=is) fun a ha=>by
  obtain ⟨e,he,rfl⟩:=List.mem_map.1 ha
  exact ((h.mem v h0 h1 e).1 he).1
 simpa using this
theorem near_ok {F n:Nat} {ls:List A2} {is:List Int} (hF:is.length < F) (hL:is.length ≤ 1000000) (hn:n ≤ 1000000) (hin:∀ i ∈ is,0 ≤ i ∧ i < ls.length ∧ Lnk n (idx ls i)) (hnd:is.Nodup):ah (cE F (n:Int) ls is) (Nr n ls is):=by
 unfold cE
 refine ah.a8 (x:=List.replicate n []) (by unfold mk?; rw [if_pos (by omega)]; rfl) (ah.bind (P:=Nr n ls is) ?_ fun _ h=>ah.some h)
 refine ah.qX (fun pre s=>Nr n ls pre s) hF (by omega) ⟨by simp,fun v h0 h1 e=>by rw [rB h0 h1]; simp,fun v h0 h1=>by rw [rB h0 h1]; simp⟩ (fun pre x post out e hxi hI=>?_) fun s h=>h
 obtain ⟨i1,i2,a1,a2,a3,a4,a5⟩:=hin x (by rw [e]; simp)
 have hxp:x ∉ pre:=fun h=>by
  have:=(List.nodup_append.1 (e ▸ hnd)).2.2 x h x (List.mem_cons_self ..)
  exact this rfl
 have hpl:pre.length < is.length:=by rw [e]; simp
 have l0:=hI.le a1 a2
 have l1:=hI.le a3 a4
 have hl:=hI.len
 have e1:idx (out.set (idx ls x).a0.toNat (idx out (idx ls x).a0 ++ [⟨(idx ls x).a1,x⟩])) (idx ls x).a1 = idx out (idx ls x).a1:=by
  rw [iv a1 (by omega) a3,if_neg (fun h=>a5 h.symm)]
 refine ah.a8 hxi (ah.idx i1 i2 (ah.idx i1 i2 (ah.idx a1 (by omega) (ah.app (by simp only [List.length_singleton]; omega) (ah.idx a1 (by omega) (ah.idx a3 (by rw [List.length_set]; omega) ?_))))))
 rw [e1]
 refine ah.app (by simp only [List.length_singleton]; omega) (ah.idx a3 (by rw [List.length_set]; omega) (ah.some (.inl ⟨_,rfl,?_⟩)))
 have ei:∀ v:Int,0 ≤ v → idx ((out.set (idx ls x).a0.toNat (idx out (idx ls x).a0 ++ [⟨(idx ls x).a1,x⟩])).set (idx ls x).a1.toNat (idx out (idx ls x).a1 ++ [⟨(idx ls x).a0,x⟩])) v = if v = (idx ls x).a1 then idx out v ++ [⟨(idx ls x).a0,x⟩] else if v = (idx ls x).a0 then idx out v ++ [⟨(idx ls x).a1,x⟩] else idx out v:=fun v h0=>by
  rw [iv a3 (by rw [List.length_set]; omega) h0,iv a1 (by omega) h0]
  by_cases c:v = (idx ls x).a1
  ·rw [if_pos c,if_pos c,c]
  ·rw [if_neg c,if_neg c]
   by_cases c:v = (idx ls x).a0
   ·rw [if_pos c,if_pos c,c]
   ·rw [if_neg c,if_neg c]
 have hnp:∀ v:Int,0 ≤ v → v < n → ∀ t,((idx out v ++ [(⟨t,x⟩:jE)]).map (·.pos)).Nodup:=fun v h0 h1 t=>by
  rw [List.map_append,List.nodup_append]
  refine ⟨hI.nd v h0 h1,by simp,fun p hp q hq=>?_⟩
  simp only [List.map_cons,List.map_nil,List.mem_singleton] at hq
  rw [hq]
  rintro rfl
  obtain ⟨e2,he,rfl⟩:=List.mem_map.1 hp
  exact hxp ((hI.mem v h0 h1 e2).1 he).1
 refine ⟨by rw [List.length_set,List.length_set]; exact hl,fun v h0 h1 d=>?_,fun v h0 h1=>?_⟩
 ·rw [ei v h0]
  have hm:=hI.mem v h0 h1 d
  have hends:d.pos = x → (Ends ls d.pos v d.to ↔ (v = (idx ls x).a1 ∧ d.to = (idx ls x).a0) ∨ (v = (idx ls x).a0 ∧ d.to = (idx ls x).a1)):=fun h=>by
   unfold Ends; rw [h]
   constructor
   ·rintro (⟨h1,h2⟩ | ⟨h1,h2⟩)
    ·exact .inr ⟨h1.symm,h2.symm⟩
    ·exact .inl ⟨h2.symm,h1.symm⟩
   ·rintro (⟨h1,h2⟩ | ⟨h1,h2⟩)
    ·exact .inr ⟨h2.symm,h1.symm⟩
    ·exact .inl ⟨h1.symm,h2.symm⟩
  have key:(d.pos ∈ pre ++ [x] ∧ Ends ls d.pos v d.to) ↔ d ∈ idx out v ∨ (d.pos = x ∧ ((v = (idx ls x).a1 ∧ d.to = (idx ls x).a0) ∨ (v = (idx ls x).a0 ∧ d.to = (idx ls x).a1))):=by
   rw [hm,List.mem_append,List.mem_singleton]
   constructor
   ·rintro ⟨h | h,he⟩
    ·exact .inl ⟨h,he⟩
    ·exact .inr ⟨h,(hends h).1 he⟩
   ·rintro (⟨h,he⟩ | ⟨h,he⟩)
    ·exact ⟨.inl h,he⟩
    ·exact ⟨.inr h,(hends h).2 he⟩
  rw [key]
  have hex:∀ t,d = (⟨t,x⟩:jE) ↔ d.pos = x ∧ d.to = t:=fun t=>by
   cases d; simp; exact and_comm
  split
  ·next c=>rw [List.mem_append,List.mem_singleton,hex,c]; simp [Ne.symm a5]
  ·next c=>
   split
   ·next c'=>rw [List.mem_append,List.mem_singleton,hex,c']; simp [a5]
   ·next c'=>simp [c,c']
 ·rw [ei v h0]
  split
  ·exact hnp v h0 h1 _
  ·split
   ·exact hnp v h0 h1 _
   ·exact hI.nd v h0 h1
structure Lv (fx:List Bool) (ls:List A2) (o:List Int):Prop where
 len:o.length = fx.length
 low:∀ v:Int,0 ≤ v → v < fx.length → -1 ≤ idx o v
 fix:∀ v:Int,0 ≤ v → v < fx.length → (idx fx v = true ↔ idx o v = 0)
 prev:∀ v:Int,0 ≤ v → v < fx.length → 0 < idx o v → ∃ u,jH ls v u ∧ idx o u = idx o v - 1
 next:∀ a b,jH ls a b → 0 ≤ idx o a → 0 ≤ idx o b ∧ idx o b ≤ idx o a + 1
theorem chain {fx:List Bool} {ls:List A2} {o:List Int} (hg:Gr fx ls) (prev:∀ v:Int,0 ≤ v → v < fx.length → 0 < idx o v → ∃ u,jH ls v u ∧ idx o u = idx o v - 1) :
  ∀ (k:Nat) (v:Int),0 ≤ v → v < fx.length → idx o v = k → ∃ L:List Int,L.length = k + 1 ∧ L.Nodup ∧ ∀ a ∈ L,0 ≤ a ∧ a < fx.length ∧ idx o a ≤ k
 | 0,v,h0,h1,h=>⟨[v],rfl,by simp,fun a ha=>by rw [List.mem_singleton.1 ha]; exact ⟨h0,h1,by omega⟩⟩
 | k + 1,v,h0,h1,h=>by
  obtain ⟨u,hu,e⟩:=prev v h0 h1 (by omega)
  obtain ⟨r1,r2,r3,r4,_⟩:=hu.oF hg
  obtain ⟨L,l1,l2,l3⟩:=chain hg prev k u r3 r4 (by omega)
  refine ⟨v :: L,by simp [l1],List.nodup_cons.2 ⟨fun hv=>?_,l2⟩,fun a ha=>?_⟩
  ·have:=(l3 v hv).2.2; omega
  ·rcases List.mem_cons.1 ha with rfl | ha
   ·exact ⟨h0,h1,by omega⟩
   ·obtain ⟨p1,p2,p3⟩:=l3 a ha; exact ⟨p1,p2,by omega⟩
theorem nc {L:List Int} {n:Nat} (hn:L.Nodup) (h:∀ a ∈ L,0 ≤ a ∧ a < n):L.length ≤ n:=by
 have:=mi hn (m:=(List.range n).map fun i:Nat=>(i:Int)) fun a ha=>by
  obtain ⟨h0,h1⟩:=h a ha
  exact List.mem_map.2 ⟨a.toNat,List.mem_range.2 (by omega),by omega⟩
 simpa using this
theorem sA {fx:List Bool} {ls:List A2} {o:List Int} (hg:Gr fx ls) (prev:∀ v:Int,0 ≤ v → v < fx.length → 0 < idx o v → ∃ u,jH ls v u ∧ idx o u = idx o v - 1) {v:Int} (h0:0 ≤ v) (h1:v < fx.length):idx o v < fx.length:=by
 by_cases c:0 ≤ idx o v
 ·obtain ⟨L,l1,l2,l3⟩:=chain hg prev (idx o v).toNat v h0 h1 (by omega)
  have:=nc l2 fun a ha=>⟨(l3 a ha).1,(l3 a ha).2.1⟩
  omega
 ·omega
theorem Lv.le {fx:List Bool} {ls:List A2} {o p:List Int} (hg:Gr fx ls) (ho:Lv fx ls o) (hp:Lv fx ls p):∀ (k:Nat) (v:Int),0 ≤ v → v < fx.length → idx o v = k → 0 ≤ idx p v ∧ idx p v ≤ k
 | 0,v,h0,h1,h=>by
  have:=(hp.fix v h0 h1).1 ((ho.fix v h0 h1).2 h); omega
 | k + 1,v,h0,h1,h=>by
  obtain ⟨u,hu,e⟩:=ho.prev v h0 h1 (by omega)
  obtain ⟨r1,r2,r3,r4,_⟩:=hu.oF hg
  obtain ⟨q1,q2⟩:=Lv.le hg ho hp k u r3 r4 (by omega)
  have:=hp.next u v hu.symm q1
  omega
theorem Lv.uniq {fx:List Bool} {ls:List A2} {o p:List Int} (hg:Gr fx ls) (ho:Lv fx ls o) (hp:Lv fx ls p):o = p:=by
 refine List.ext_getElem (by rw [ho.len,hp.len]) fun i h1 h2=>?_
 have hl:=ho.len
 rw [← dY _ _ h1,← dY _ _ h2]
 have b1:=ho.low i (by omega) (by omega)
 have b2:=hp.low i (by omega) (by omega)
 by_cases c:0 ≤ idx o (i:Int)
 ·have r1:=Lv.le hg ho hp (idx o (i:Int)).toNat i (by omega) (by omega) (by omega)
  have r2:=Lv.le hg hp ho (idx p (i:Int)).toNat i (by omega) (by omega) (by omega)
  omega
 ·by_cases c':0 ≤ idx p (i:Int)
  ·have r2:=Lv.le hg hp ho (idx p (i:Int)).toNat i (by omega) (by omega) (by omega)
   omega
  ·omega
structure Bf (fx:List Bool) (ls:List A2) (D q out:List Int):Prop where
 len:out.length = fx.length
 low:∀ v:Int,0 ≤ v → v < fx.length → -1 ≤ idx out v
 fix:∀ v:Int,0 ≤ v → v < fx.length → (idx fx v = true ↔ idx out v = 0)
 prev:∀ v:Int,0 ≤ v → v < fx.length → 0 < idx out v → ∃ u,jH ls v u ∧ idx out u = idx out v - 1
 seen:∀ v:Int,0 ≤ v → v < fx.length → (0 ≤ idx out v ↔ v ∈ D ++ q)
 oF:∀ v ∈ D ++ q,0 ≤ v ∧ v < fx.length
 nd:(D ++ q).Nodup
 don:∀ v ∈ D,∀ w,jH ls v w → 0 ≤ idx out w ∧ idx out w ≤ idx out v + 1
 srt:q.Pairwise fun a b=>idx out a ≤ idx out b
 top:∀ w ∈ D ++ q,∀ a ∈ q,idx out w ≤ idx out a + 1
theorem Bf.push {fx:List Bool} {ls:List A2} {D q out:List Int} {v w:Int} (hg:Gr fx ls) (h:Bf fx ls D (v :: q) out) (hw:idx out w < 0) (ha:jH ls v w):Bf fx ls D (v :: (q ++ [w])) (out.set w.toNat (idx out v + 1)) ∧ idx (out.set w.toNat (idx out v + 1)) v = idx out v:=by
 obtain ⟨r1,r2,r3,r4,r5⟩:=ha.oF hg
 have hl:=h.len
 have ei:∀ u:Int,0 ≤ u → idx (out.set w.toNat (idx out v + 1)) u = if u = w then idx out v + 1 else idx out u:=fun u hu=>iv r3 (by omega) hu
 have hv0:0 ≤ idx out v:=(h.seen v r1 r2).2 (by simp)
 have hwn:w ∉ D ++ v :: q:=fun hm=>by have:=(h.seen w r3 r4).2 hm; omega
 have es:∀ u ∈ D ++ v :: q,idx (out.set w.toNat (idx out v + 1)) u = idx out u:=fun u hu=>by
  rw [ei u (h.oF u hu).1,if_neg (by rintro rfl; exact hwn hu)]
 have ew:idx (out.set w.toNat (idx out v + 1)) w = idx out v + 1:=by rw [ei w r3,if_pos rfl]
 have hm:∀ u,u ∈ D ++ v :: (q ++ [w]) ↔ u ∈ D ++ v :: q ∨ u = w:=fun u=>by simp [or_assoc]
 refine ⟨⟨by rw [List.length_set]; exact hl,fun u h0 h1=>?_,fun u h0 h1=>?_,fun u h0 h1 hp=>?_,fun u h0 h1=>?_,fun u hu=>?_,?_,fun u hu z hz=>?_,?_,fun u hu a haq=>?_⟩,es v (by simp)⟩
 ·rw [ei u h0]; split
  ·omega
  ·exact h.low u h0 h1
 ·rw [ei u h0]; split
  ·next e=>
   subst e
   have:=h.fix u h0 h1
   exact ⟨fun hx=>by have:=this.1 hx; omega,fun hx=>by omega⟩
  ·exact h.fix u h0 h1
 ·by_cases c:u = w
  ·subst c
   exact ⟨v,ha.symm,by rw [es v (by simp),ew]; omega⟩
  ·rw [ei u h0,if_neg c] at hp ⊢
   obtain ⟨z,hz,e⟩:=h.prev u h0 h1 hp
   obtain ⟨_,_,z3,z4,_⟩:=hz.oF hg
   exact ⟨z,hz,by rw [ei z z3,if_neg (by rintro rfl; omega)]; exact e⟩
 ·rw [ei u h0,hm]; split
  ·next e=>exact ⟨fun _=>.inr e,fun _=>by omega⟩
  ·next e=>rw [h.seen u h0 h1]; simp [e]
 ·rcases (hm u).1 hu with hu | rfl
  ·exact h.oF u hu
  ·exact ⟨r3,r4⟩
 ·have:D ++ v :: (q ++ [w]) = (D ++ v :: q) ++ [w]:=by simp
  rw [this,List.nodup_append]
  exact ⟨h.nd,by simp,fun a ham b hb=>by rw [List.mem_singleton.1 hb]; rintro rfl; exact hwn ham⟩
 ·have h1:=h.don u hu z hz
  obtain ⟨z1,z2,z3,z4,_⟩:=hz.oF hg
  rw [es u (by simp [hu]),ei z z3,if_neg (by rintro rfl; omega)]
  exact h1
 ·have e:v :: (q ++ [w]) = (v :: q) ++ [w]:=rfl
  rw [e,List.pairwise_append]
  refine ⟨h.srt.imp_of_mem ?_,by simp,fun a ha' b hb=>?_⟩
  ·intro a b ha hb hab
   rw [es a (by simp only [List.mem_append]; exact .inr ha),es b (by simp only [List.mem_append]; exact .inr hb)]; exact hab
  ·rw [List.mem_singleton.1 hb,ew,es a (by simp only [List.mem_append]; exact .inr ha')]
   exact h.top a (by simp only [List.mem_append]; exact .inr ha') v (by simp)
 ·have hq:∀ a ∈ v :: q,idx out v ≤ idx out a:=fun a ha=>by
   rcases List.mem_cons.1 ha with rfl | ha
   ·exact Int.le_refl _
   ·exact (List.pairwise_cons.1 h.srt).1 a ha
  have haq:a ∈ v :: q ∨ a = w:=by
   rcases List.mem_cons.1 haq with rfl | h
   ·exact .inl (by simp)
   ·rcases List.mem_append.1 h with h | h
    ·exact .inl (by simp [h])
    ·exact .inr (by simpa using h)
  rcases (hm u).1 hu with hu' | rfl
  ·rw [es u hu']
   rcases haq with haq | rfl
   ·rw [es a (by simp only [List.mem_append]; exact .inr haq)]; exact h.top u hu' a haq
   ·rw [ew]; have:=h.top u hu' v (by simp); omega
  ·rw [ew]
   rcases haq with haq | rfl
   ·rw [es a (by simp only [List.mem_append]; exact .inr haq)]; have:=hq a haq; omega
   ·rw [ew]; omega
theorem Bf.pop {fx:List Bool} {ls:List A2} {D q out:List Int} {v:Int} (h:Bf fx ls D (v :: q) out) (hn:∀ w,jH ls v w → 0 ≤ idx out w ∧ idx out w ≤ idx out v + 1):Bf fx ls (D ++ [v]) q out:=by
 have e:D ++ [v] ++ q = D ++ v :: q:=by simp
 refine ⟨h.len,h.low,h.fix,h.prev,by rw [e]; exact h.seen,by rw [e]; exact h.oF,by rw [e]; exact h.nd,fun u hu=>?_,(List.pairwise_cons.1 h.srt).2,by rw [e]; exact fun w hw a ha=>h.top w hw a (List.mem_cons_of_mem _ ha)⟩
 rcases List.mem_append.1 hu with hu | hu
 ·exact h.don u hu
 ·rw [List.mem_singleton.1 hu]; exact hn
theorem Bf.lv {fx:List Bool} {ls:List A2} {D out:List Int} (hg:Gr fx ls) (h:Bf fx ls D [] out):Lv fx ls out :=
 ⟨h.len,h.low,h.fix,h.prev,fun a b hab h0=>by
  obtain ⟨r1,r2,_⟩:=hab.oF hg
  exact h.don a (by simpa using (h.seen a r1 r2).1 h0) b hab⟩
def rgI (n:Nat):List Int:=(List.range n).map fun i:Nat=>(i:Int)
theorem pb {n:Nat} {i:Int}:i ∈ rgI n ↔ 0 ≤ i ∧ i < n:=by
 simp only [rgI,List.mem_map,List.mem_range]
 exact ⟨by rintro ⟨k,hk,rfl⟩; omega,fun ⟨h0,h1⟩=>⟨i.toNat,by omega,by omega⟩⟩
theorem rgI_nd (n:Nat):(rgI n).Nodup:=by
 unfold rgI
 exact List.pairwise_map.2 (List.nodup_range.imp fun h e=>h (by omega))
theorem mW {α:Type} {l:List α} {x y:α}:(l ++ [x]).set l.length y = l ++ [y]:=by
 rw [List.set_append_right _ _ (Nat.le_refl _)]; simp
def kZ (l:List Bool):List Int:=l.map fun b=>if b = true then 0 else -1
theorem rq {l:List Bool} {v:Int} (h0:0 ≤ v) (h1:v < l.length):idx (kZ l) v = if idx l v = true then 0 else -1:=by
 obtain ⟨k,rfl⟩:∃ k:Nat,v = k:=⟨v.toNat,by omega⟩
 rw [dY _ _ (by simp [kZ]; omega),dY _ _ (by omega)]; simp [kZ]
theorem ox {fx:List Bool} {ls:List A2} (hs:fx.length + ls.length < 490):ah (bQ 2000 fx ls) fun z=>(Gr fx ls ∧ z.2 = 0 ∧ Lv fx ls z.1) ∨ (¬ Gr fx ls ∧ z = ([],1)):=by
 unfold bQ
 refine ah.bind (pT (by omega) (by omega)) fun r hr=>?_
 refine ah.ite (fun hc=>ah.some (.inr ⟨fun h=>by simp [hr.2 h] at hc,rfl⟩)) (fun hc=>?_)
 have hg:Gr fx ls:=hr.1 (by simpa using hc)
 have hx:=hg.1
 refine ah.a8 (x:=List.replicate ls.length 0) (by unfold mk?; rw [if_pos (by omega)]; rfl) ?_
 refine ah.bind (P:=(· = rgI ls.length)) ?_ ?_
 ·refine ah.qX (l:=List.replicate ls.length (0:Int)) (I:=fun pre s=>s.length = ls.length ∧ ∀ j:Int,0 ≤ j → j < pre.length → idx s j = j) (by simp; omega) (by simp; omega) ⟨by simp,fun j h0 h1=>by simp at h1; omega⟩ (fun pre x post s e hxi hI=>?_) ?_
  ·have hpl:pre.length < ls.length:=by have:=congrArg List.length e; simp at this; omega
   obtain ⟨h1,h2⟩:=hI
   refine ah.idx (by omega) (by omega) (ah.some (.inl ⟨_,rfl,by rw [List.length_set]; exact h1,fun j h0 hj=>?_⟩))
   rw [List.length_append,List.length_singleton] at hj
   rw [iv (by omega) (by omega) h0]
   split
   ·next e=>exact e.symm
   ·exact h2 j h0 (by omega)
  ·rintro s ⟨h1,h2⟩
   refine List.ext_getElem (by simp [rgI,h1]) fun i i1 i2=>?_
   have:=h2 (i:Int) (by omega) (by simp; omega)
   rw [dY _ _ i1] at this
   rw [this]; simp [rgI]
 rintro places rfl
 refine ah.bind (near_ok (n:=fx.length) (by simp [rgI]; omega) (by simp [rgI]; omega) (by omega) (fun i hi=>?_) (rgI_nd _)) fun near hnr=>?_
 ·obtain ⟨h0,h1⟩:=pb.1 hi
  exact ⟨h0,h1,hg.2 _ (lK h0 h1)⟩
 have hnear:∀ v:Int,0 ≤ v → v < fx.length → ∀ w,(∃ e ∈ idx near v,e.to = w) ↔ jH ls v w:=fun v h0 h1 w=>by
  constructor
  ·rintro ⟨e,he,rfl⟩
   obtain ⟨p1,p2⟩:=(hnr.mem v h0 h1 e).1 he
   obtain ⟨q0,q1⟩:=pb.1 p1
   exact ⟨idx ls e.pos,lK q0 q1,p2⟩
  ·rintro ⟨l,hl,h⟩
   obtain ⟨k,hk,e⟩:=List.getElem_of_mem hl
   have e':idx ls (k:Int) = l:=by rw [dY _ _ hk]; exact e
   exact ⟨⟨w,(k:Int)⟩,(hnr.mem v h0 h1 _).2 ⟨pb.2 (by simp only; omega),by unfold Ends; rw [e']; exact h⟩,rfl⟩
 refine ah.bind (P:=fun z=>z.1 = kZ fx ∧ z.2.Nodup ∧ ∀ v:Int,v ∈ z.2 ↔ 0 ≤ v ∧ v < fx.length ∧ idx fx v = true) ?_ ?_
 ·refine ah.ea3 (fun pre out q=>out = kZ pre ∧ q.Nodup ∧ (q.length ≤ pre.length) ∧ ∀ v:Int,v ∈ q ↔ 0 ≤ v ∧ v < pre.length ∧ idx fx v = true) (by omega) (by omega) ⟨rfl,by simp,by simp,fun v=>by simp; omega⟩ (fun pre x post out q e hxi hI=>?_) fun out q h=>⟨h.1,h.2.1,h.2.2.2⟩
  obtain ⟨ho,hq,hl,hm⟩:=hI
  have hxe:idx fx (pre.length:Int) = x:=n6 hxi
  have hpl:pre.length < fx.length:=by rw [e]; simp
  have hol:out.length = pre.length:=by rw [ho]; simp [kZ]
  refine ah.bind (P:=fun z=>z.1 = kZ (pre ++ [x]) ∧ z.2.Nodup ∧ (z.2.length ≤ (pre ++ [x]).length) ∧ ∀ v:Int,v ∈ z.2 ↔ 0 ≤ v ∧ v < (pre ++ [x]).length ∧ idx fx v = true) ?_ (by rintro ⟨a,b⟩ h; exact ah.some (.inl ⟨a,b,rfl,h⟩))
  have hlv:kZ (pre ++ [x]) = kZ pre ++ [if x = true then 0 else -1]:=by simp [kZ]
  have hlast:∀ v:Int,v < (pre ++ [x]).length ↔ v < pre.length ∨ v = pre.length:=fun v=>by simp; omega
  refine ah.a8 hxi (ah.app (by simp only [List.length_singleton]; omega) (ah.ite (fun hc=>?_) (fun hc=>?_)))
  ·refine ah.idx (by omega) (by simp; omega) (ah.app (by simp only [List.length_singleton]; omega) (ah.some ⟨?_,?_,by simp; omega,fun v=>?_⟩))
   ·have:(pre.length:Int).toNat = out.length:=by omega
    rw [this,mW,hlv,if_pos hc,ho]
   ·rw [List.nodup_append]
    refine ⟨hq,by simp,fun a ha b hb=>?_⟩
    rw [List.mem_singleton.1 hb]
    have:=((hm a).1 ha).2.1
    omega
   ·rw [List.mem_append,List.mem_singleton,hm v,hlast]
    constructor
    ·rintro (⟨h1,h2,h3⟩ | rfl)
     ·exact ⟨h1,.inl h2,h3⟩
     ·exact ⟨by omega,.inr rfl,by rw [hxe]; exact hc⟩
    ·rintro ⟨h1,h2 | h2,h3⟩
     ·exact .inl ⟨h1,h2,h3⟩
     ·exact .inr h2
  ·refine ah.some ⟨by rw [hlv,if_neg (by rw [hc]; simp),ho],hq,by simp; omega,fun v=>?_⟩
   rw [hm v,hlast]
   constructor
   ·rintro ⟨h1,h2,h3⟩; exact ⟨h1,.inl h2,h3⟩
   ·rintro ⟨h1,h2 | h2,h3⟩
    ·exact ⟨h1,h2,h3⟩
    ·rw [h2,hxe,hc] at h3; cases h3
 rintro ⟨out0,q0⟩ ⟨ho,hq,hm⟩
 simp only at ho hq hm
 subst ho
 simp only [bK]
 refine ah.bind (P:=Lv fx ls) ?_ fun o ho=>ah.some (.inl ⟨hg,rfl,ho⟩)
 refine ah.rounds (n:=fx.length) (I:=fun k z=>∃ D:List Int,D.length = k ∧ Bf fx ls D z.2 z.1) (by omega) ⟨[],rfl,?_⟩ ?_
 ·have hz:∀ v:Int,0 ≤ v → v < fx.length → (0 ≤ idx (kZ fx) v ↔ idx fx v = true) ∧ idx (kZ fx) v ≤ 0 ∧ -1 ≤ idx (kZ fx) v:=fun v h0 h1=>by
   rw [rq h0 h1]; by_cases c:idx fx v = true <;> simp [c]
  have hq0:∀ v ∈ q0,idx (kZ fx) v = 0:=fun v hv=>by
   obtain ⟨h0,h1,h2⟩:=(hm v).1 hv
   obtain ⟨z1,z2,_⟩:=hz v h0 h1
   have:=z1.2 h2; omega
  refine ⟨by simp [kZ],fun v h0 h1=>(hz v h0 h1).2.2,fun v h0 h1=>?_,fun v h0 h1 hp=>?_,fun v h0 h1=>?_,fun v hv=>?_,by simpa using hq,by simp,?_,fun w hw a ha=>?_⟩
  ·obtain ⟨z1,z2,z3⟩:=hz v h0 h1
   rw [← z1]; simp only; omega
  ·have:=(hz v h0 h1).2.1; simp only at hp; omega
  ·rw [(hz v h0 h1).1]
   show _ ↔ v ∈ q0
   rw [hm v]; simp [h0,h1]
  ·obtain ⟨h0,h1,_⟩:=(hm v).1 (by simpa using hv); exact ⟨h0,h1⟩
  ·refine List.Pairwise.imp_of_mem (R:=fun _ _=>True) (fun {a b} ha hb _=>?_) (List.pairwise_of_forall (fun _ _=>trivial))
   show idx (kZ fx) a ≤ idx (kZ fx) b
   rw [hq0 a ha,hq0 b hb]; exact Int.le_refl _
  ·show idx (kZ fx) w ≤ idx (kZ fx) a + 1
   rw [hq0 a ha,hq0 w (by simpa using hw)]; omega
 ·rintro k ⟨out,queue⟩ hk ⟨D,hD,hB⟩
  simp only at hB
  simp only [bK]
  cases queue with
  | nil=>exact ah.iff (by simp) (ah.some (.inr ⟨_,rfl,hB.lv hg⟩))
  | cons v q=>
   obtain ⟨v0,v1⟩:=hB.oF v (by simp)
   have hDq:=nc hB.nd hB.oF
   rw [List.length_append,List.length_cons] at hDq
   refine ah.qi (by simp) (ah.idx (by omega) (by simp) (ah.drop (by omega) (by simp; omega) ?_))
   have e0:idx (v :: q) 0 = v:=rfl
   rw [e0]
   refine ah.idx v0 (by rw [hnr.len]; exact v1) ?_
   have hnl:=hnr.le v0 v1
   simp only [rgI,List.length_map,List.length_range] at hnl
   refine ah.bind (P:=fun z=>Bf fx ls D (v :: z.2) z.1 ∧ ∀ e ∈ idx near v,0 ≤ idx z.1 e.to ∧ idx z.1 e.to ≤ idx z.1 v + 1) ?_ ?_
   ·refine ah.ea3 (fun pre out q=>Bf fx ls D (v :: q) out ∧ ∀ e ∈ pre,0 ≤ idx out e.to ∧ idx out e.to ≤ idx out v + 1) (by omega) (by omega) ⟨hB,by simp⟩ (fun pre x post out q e hxi hI=>?_) fun out q h=>h
    obtain ⟨hI,hpre⟩:=hI
    have hxm:x ∈ idx near v:=by rw [e]; simp
    have hadj:jH ls v x.to:=(hnear v v0 v1 x.to).1 ⟨x,hxm,rfl⟩
    obtain ⟨_,_,r3,r4,_⟩:=hadj.oF hg
    have hol:=hI.len
    have hql:=nc hI.nd hI.oF
    rw [List.length_append,List.length_cons] at hql
    refine ah.bind (P:=fun z=>Bf fx ls D (v :: z.2) z.1 ∧ ∀ e ∈ pre ++ [x],0 ≤ idx z.1 e.to ∧ idx z.1 e.to ≤ idx z.1 v + 1) ?_ (by rintro ⟨a,b⟩ h; exact ah.some (.inl ⟨a,b,rfl,h⟩))
    refine ah.a8 hxi (ah.idx r3 (by omega) (ah.ite (fun hc=>?_) (fun hc=>?_)))
    ·have hc:=of_decide_eq_true hc
     have hlt:=sA hg hI.prev v0 v1
     have hvl:=hI.low v v0 v1
     refine ah.idx v0 (by omega) (ah.idx r3 (by omega) (ah.app (by simp only [List.length_singleton]; omega) (ah.some ?_)))
     rw [cx (by omega) (by omega)]
     obtain ⟨p1,p2⟩:=hI.push hg hc hadj
     refine ⟨p1,fun d hd=>?_⟩
     simp only
     rw [p2]
     have hv00:0 ≤ idx out v:=(hI.seen v v0 v1).2 (by simp)
     rcases List.mem_append.1 hd with hd | hd
     ·obtain ⟨d1,d2⟩:=hpre d hd
      have hda:jH ls v d.to:=(hnear v v0 v1 d.to).1 ⟨d,by rw [e]; simp [hd],rfl⟩
      obtain ⟨_,_,t3,t4,_⟩:=hda.oF hg
      rw [iv r3 (by omega) t3]
      split
      ·omega
      ·exact ⟨d1,d2⟩
     ·rw [List.mem_singleton.1 hd,iv r3 (by omega) r3,if_pos rfl]; omega
    ·have hc:=of_decide_eq_false hc
     refine ah.some ⟨hI,fun d hd=>?_⟩
     rcases List.mem_append.1 hd with hd | hd
     ·exact hpre d hd
     ·rw [List.mem_singleton.1 hd]
      have hs:=(hI.seen x.to r3 r4).1 (by omega)
      have:=hI.top x.to hs v (by simp)
      exact ⟨by simp only; omega,this⟩
   ·rintro ⟨o',q'⟩ ⟨h1,h2⟩
    refine ah.some (.inl ⟨(o',q'),rfl,⟨D ++ [v],by simp [hD],h1.pop fun w hw=>?_⟩,by omega⟩)
    obtain ⟨e,he,rfl⟩:=(hnear v v0 v1 w).2 hw
    exact h2 e he
structure Rf (fx:List Bool) (ls:List A2) (k:Nat) (out:List Int):Prop where
 len:out.length = fx.length
 low:∀ v:Int,0 ≤ v → v < fx.length → -1 ≤ idx out v
 fix:∀ v:Int,0 ≤ v → v < fx.length → (idx fx v = true ↔ idx out v = 0)
 prev:∀ v:Int,0 ≤ v → v < fx.length → 0 < idx out v → ∃ u,jH ls v u ∧ idx out u = idx out v - 1
 ub:∀ v:Int,0 ≤ v → v < fx.length → idx out v ≤ k
 next:∀ a b,jH ls a b → 0 ≤ idx out a → idx out a < k → 0 ≤ idx out b ∧ idx out b ≤ idx out a + 1
theorem Rf.zero (fx:List Bool) (ls:List A2):Rf fx ls 0 (kZ fx):=by
 have hz:∀ v:Int,0 ≤ v → v < fx.length → (0 ≤ idx (kZ fx) v ↔ idx fx v = true) ∧ idx (kZ fx) v ≤ 0 ∧ -1 ≤ idx (kZ fx) v:=fun v h0 h1=>by
  rw [rq h0 h1]; by_cases c:idx fx v = true <;> simp [c]
 refine ⟨by simp [kZ],fun v h0 h1=>(hz v h0 h1).2.2,fun v h0 h1=>?_,fun v h0 h1 hp=>?_,fun v h0 h1=>by have:=(hz v h0 h1).2.1; omega,fun a b _ h0 h1=>by omega⟩
 ·obtain ⟨z1,z2,z3⟩:=hz v h0 h1
  rw [← z1]; omega
 ·have:=(hz v h0 h1).2.1; omega
open Classical in
theorem Rf.step {fx:List Bool} {ls:List A2} {k:Nat} {o p:List Int} (hg:Gr fx ls) (h:Rf fx ls k o) (hl:p.length = fx.length) (hp:∀ v:Int,0 ≤ v → v < fx.length → idx p v = if idx o v < 0 ∧ (∃ u,jH ls v u ∧ idx o u = k) then (k:Int) + 1 else idx o v):Rf fx ls (k + 1) p:=by
 have keep:∀ v:Int,0 ≤ v → v < fx.length → 0 ≤ idx o v → idx p v = idx o v:=fun v h0 h1 hv=>by
  rw [hp v h0 h1,if_neg (fun h=>by omega)]
 refine ⟨hl,fun v h0 h1=>?_,fun v h0 h1=>?_,fun v h0 h1 hpv=>?_,fun v h0 h1=>?_,fun a b hab h0 h1=>?_⟩
 ·rw [hp v h0 h1]; split
  ·omega
  ·exact h.low v h0 h1
 ·rw [hp v h0 h1]; split
  ·next c=>rw [h.fix v h0 h1]; omega
  ·exact h.fix v h0 h1
 ·rw [hp v h0 h1] at hpv ⊢
  split
  ·next c=>
   obtain ⟨_,u,hu,e⟩:=c
   obtain ⟨_,_,u3,u4,_⟩:=hu.oF hg
   exact ⟨u,hu,by rw [keep u u3 u4 (by omega)]; omega⟩
  ·next c=>
   rw [if_neg c] at hpv
   obtain ⟨u,hu,e⟩:=h.prev v h0 h1 hpv
   obtain ⟨_,_,u3,u4,_⟩:=hu.oF hg
   exact ⟨u,hu,by rw [keep u u3 u4 (by omega)]; exact e⟩
 ·rw [hp v h0 h1]; split
  ·push_cast; omega
  ·have:=h.ub v h0 h1; push_cast; omega
 ·obtain ⟨a1,a2,b1,b2,_⟩:=hab.oF hg
  have hua:=h.ub a a1 a2
  have hub:=h.ub b b1 b2
  have ea:idx p a = idx o a:=by
   rw [hp a a1 a2] at h0 h1 ⊢
   split
   ·next c=>rw [if_pos c] at h1; push_cast at h1; omega
   ·rfl
  rw [ea] at h0 h1 ⊢
  push_cast at h1
  by_cases c:idx o a < k
  ·obtain ⟨n1,n2⟩:=h.next a b hab h0 c
   rw [keep b b1 b2 n1]; exact ⟨n1,n2⟩
  ·by_cases c':0 ≤ idx o b
   ·rw [keep b b1 b2 c']; omega
   ·rw [hp b b1 b2,if_pos ⟨by omega,a,hab.symm,by omega⟩]; omega
theorem Rf.lv {fx:List Bool} {ls:List A2} {o:List Int} (hg:Gr fx ls) (h:Rf fx ls fx.length o):Lv fx ls o :=
 ⟨h.len,h.low,h.fix,h.prev,fun a b hab h0=>by
  obtain ⟨a1,a2,_⟩:=hab.oF hg
  exact h.next a b hab h0 (sA hg h.prev a1 a2)⟩
theorem jH.nil {a b:Int}:¬ jH [] a b:=by rintro ⟨l,hl,_⟩; cases hl
theorem jH.snoc {ls:List A2} {x:A2} {a b:Int}:jH (ls ++ [x]) a b ↔ jH ls a b ∨ (x.a0 = a ∧ x.a1 = b) ∨ (x.a0 = b ∧ x.a1 = a):=by
 unfold jH
 simp only [List.mem_append,List.mem_singleton]
 constructor
 ·rintro ⟨l,hl | rfl,h⟩
  ·exact .inl ⟨l,hl,h⟩
  ·exact .inr h
 ·rintro (⟨l,hl,h⟩ | h)
  ·exact ⟨l,.inl hl,h⟩
  ·exact ⟨x,.inr rfl,h⟩
open Classical in
theorem lvstep {F:Nat} {fx:List Bool} {ls:List A2} {o:List Int} {k:Nat} {K:Int} (hF:ls.length < F) (hL:ls.length ≤ 1000000) (hg:Gr fx ls) (ho:o.length = fx.length) (hK:K = (k:Int) + 1) (hk:k ≤ 1000) :
    ah (iter F (bK fun next_16 i_17=>if (decide (i_17 < (ls.length:Int))) = true then (Option.bind (Option.bind (aE ls i_17) (fun x_20=>Option.bind (aE ls i_17) (fun x_21=>Option.bind (Option.bind (aE o x_20.a0) (fun x_23=>Option.bind (cy (decide (x_23 = (IntKind.i64.wrap (K - 1)))) (aE o x_21.a1)) (fun x_24=>dI ((decide (x_23 = (IntKind.i64.wrap (K - 1)))) && (decide (x_24 < 0))) fun x_25=>if x_25 = true then (Option.bind (aE next_16 x_21.a1) (fun x_26=>some (next_16.set (x_21.a1:Int).toNat K))) else (some next_16)))) (fun next_22=>Option.bind (aE o x_21.a1) (fun x_27=>Option.bind (cy (decide (x_27 = (IntKind.i64.wrap (K - 1)))) (aE o x_20.a0)) (fun x_28=>dI ((decide (x_27 = (IntKind.i64.wrap (K - 1)))) && (decide (x_28 < 0))) fun x_29=>if x_29 = true then (Option.bind (aE next_22 x_20.a0) (fun x_30=>some (next_22.set (x_20.a0:Int).toNat K))) else (some next_22))))))) (fun next_19=>some (.inl (next_19,IntKind.i64.wrap (i_17 + 1))))) else (some (.inr next_16))) (o,0))
      (fun p:List Int=>p.length = fx.length ∧ ∀ v:Int,0 ≤ v → v < fx.length → idx p v = if idx o v < 0 ∧ (∃ u,jH ls v u ∧ idx o u = k) then (k:Int) + 1 else idx o v):=by
  have hw:IntKind.i64.wrap (K - 1) = (k:Int):=by rw [cx (by omega) (by omega)]; omega
  rw [hw,hK]
  refine ah.qX (fun pre p=>p.length = fx.length ∧ ∀ v:Int,0 ≤ v → v < fx.length → idx p v = if idx o v < 0 ∧ (∃ u,jH pre v u ∧ idx o u = k) then (k:Int) + 1 else idx o v) hF (by omega) ⟨ho,fun v h0 h1=>?_⟩ (fun pre x post p e hxi hI=>?_) fun s h=>h
  · rw [if_neg]; rintro ⟨_,u,hu,_⟩; exact jH.nil hu
  obtain ⟨pl,pv⟩:=hI
  obtain ⟨a1,a2,a3,a4,a5⟩:=hg.2 x (by rw [e]; simp)
  have half:∀ (p:List Int) (R:Int → Prop) (a b:Int),0 ≤ a → a < fx.length → 0 ≤ b → b < fx.length → p.length = fx.length → (∀ v:Int,0 ≤ v → v < fx.length → idx p v = if idx o v < 0 ∧ R v then (k:Int) + 1 else idx o v) →
      ah (Option.bind (aE o a) (fun x_23=>Option.bind (cy (decide (x_23 = (k:Int))) (aE o b)) (fun x_24=>dI ((decide (x_23 = (k:Int))) && (decide (x_24 < 0))) fun x_25=>if x_25 = true then (Option.bind (aE p b) (fun x_26=>some (p.set (b:Int).toNat ((k:Int) + 1)))) else (some p))))
        fun q:List Int=>q.length = fx.length ∧ ∀ v:Int,0 ≤ v → v < fx.length → idx q v = if idx o v < 0 ∧ (R v ∨ (v = b ∧ idx o a = k)) then (k:Int) + 1 else idx o v:=by
    intro p R a b a1 a2 b1 b2 hp hv
    refine ah.idx a1 (by omega) ?_
    by_cases c:idx o a = (k:Int)
    · refine ah.g1 (by simpa using c) (ah.idx b1 (by omega) (ah.ln (ah.ite (fun hc=>?_) (fun hc=>?_))))
      · simp only [Bool.and_eq_true,decide_eq_true_eq] at hc
        refine ah.idx b1 (by omega) (ah.some ⟨by rw [List.length_set]; exact hp,fun v h0 h1=>?_⟩)
        rw [iv b1 (by omega) h0]
        by_cases e:v = b
        · rw [if_pos e,if_pos ⟨by rw [e]; exact hc.2,.inr ⟨e,c⟩⟩]
        · rw [if_neg e,hv v h0 h1]; simp [e]
      · simp only [Bool.and_eq_false_iff,decide_eq_false_iff_not] at hc
        have hc:¬ idx o b < 0:=by rcases hc with h | h
                                  · exact absurd c h
                                  · exact h
        refine ah.some ⟨hp,fun v h0 h1=>?_⟩
        rw [hv v h0 h1]
        by_cases e:v = b
        · rw [if_neg (fun h=>hc (e ▸ h.1)),if_neg (fun h=>hc (e ▸ h.1))]
        · simp [e]
    · refine ah.g0 (by simpa using c) (ah.ln (ah.iff (by simp [c]) (ah.some ⟨hp,fun v h0 h1=>?_⟩)))
      rw [hv v h0 h1]; simp [c]
  refine ah.bind (P:=fun p=>p.length = fx.length ∧ ∀ v:Int,0 ≤ v → v < fx.length → idx p v = if idx o v < 0 ∧ (∃ u,jH (pre ++ [x]) v u ∧ idx o u = k) then (k:Int) + 1 else idx o v) ?_ fun q hq=>ah.some (.inl ⟨q,rfl,hq⟩)
  refine ah.a8 hxi (ah.a8 hxi (ah.bind (half p _ x.a0 x.a1 a1 a2 a3 a4 pl pv) fun q hq=>(half q (fun v=>(∃ u,jH pre v u ∧ idx o u = k) ∨ (v = x.a1 ∧ idx o x.a0 = k)) x.a1 x.a0 a3 a4 a1 a2 hq.1 (fun v h0 h1=>by rw [hq.2 v h0 h1]; congr)).mono fun r hr=>⟨hr.1,fun v h0 h1=>?_⟩))
  rw [hr.2 v h0 h1]
  have:((∃ u,jH pre v u ∧ idx o u = k) ∨ (v = x.a1 ∧ idx o x.a0 = k)) ∨ (v = x.a0 ∧ idx o x.a1 = k) ↔ ∃ u,jH (pre ++ [x]) v u ∧ idx o u = k:=by
    constructor
    · rintro ((⟨u,hu,h⟩ | ⟨rfl,h⟩) | ⟨rfl,h⟩)
      · exact ⟨u,jH.snoc.2 (.inl hu),h⟩
      · exact ⟨x.a0,jH.snoc.2 (.inr (.inr ⟨rfl,rfl⟩)),h⟩
      · exact ⟨x.a1,jH.snoc.2 (.inr (.inl ⟨rfl,rfl⟩)),h⟩
    · rintro ⟨u,hu,h⟩
      rcases jH.snoc.1 hu with hu | ⟨rfl,rfl⟩ | ⟨rfl,rfl⟩
      · exact .inl (.inl ⟨u,hu,h⟩)
      · exact .inr ⟨rfl,h⟩
      · exact .inl (.inr ⟨rfl,h⟩)
  simp only [this]
theorem tM {fx:List Bool} {ls:List A2} (hs:fx.length + ls.length < 490) (hg:Gr fx ls):ah (bC 2000 fx ls) (Lv fx ls):=by
 have hx:=hg.1
 unfold bC
 refine ah.bind (P:=(· = kZ fx)) ?_ ?_
 ·refine ah.qX (fun pre out=>out = kZ pre) (by omega) (by omega) rfl (fun pre x post out e hxi hI=>?_) fun out h=>h
  have hpl:pre.length < fx.length:=by rw [e]; simp
  have hol:out.length = pre.length:=by rw [hI]; simp [kZ]
  have hlv:kZ (pre ++ [x]) = kZ pre ++ [if x = true then 0 else -1]:=by simp [kZ]
  refine ah.bind (P:=(· = kZ (pre ++ [x]))) ?_ (by rintro a rfl; exact ah.some (.inl ⟨_,rfl,rfl⟩))
  refine ah.app (by simp only [List.length_singleton]; omega) (ah.a8 hxi (ah.ite (fun hc=>?_) (fun hc=>?_)))
  ·refine ah.idx (by omega) (by simp; omega) (ah.some ?_)
   have:(pre.length:Int).toNat = out.length:=by omega
   rw [this,mW,hlv,if_pos hc,hI]
  ·exact ah.some (by rw [hlv,if_neg (by rw [hc]; simp),hI])
 rintro o rfl
 refine ah.bind (P:=Lv fx ls) ?_ fun o h=>ah.some h
 refine ah.rounds (n:=fx.length) (I:=fun k z=>z.2 = (k:Int) + 1 ∧ Rf fx ls k z.1) (by omega) ⟨rfl,Rf.zero fx ls⟩ ?_
 rintro k ⟨o,K⟩ hk ⟨hK,hR⟩
 simp only at hK hR
 subst hK
 simp only [bK]
 refine ah.ite (fun hc=>?_) (fun hc=>?_)
 ·have hc:=of_decide_eq_true hc
  have hol:=hR.len
  refine ah.bind (P:=Rf fx ls (k + 1)) ?_ fun p hp=>ah.some (.inl ⟨_,rfl,⟨?_,hp⟩,by omega⟩)
  ·refine ah.app (by simp; omega) (ah.bind (lvstep (by omega) (by omega) hg hR.len rfl (by omega)) fun p hp=>ah.some (hR.step hg hp.1 hp.2))
  ·simp only; rw [cx (by omega) (by omega)]; push_cast; omega
 ·have hc:=of_decide_eq_false hc
  have:k = fx.length:=by omega
  subst this
  exact ah.some (.inr ⟨_,rfl,hR.lv hg⟩)
def kv (lv:List Int) (x:Int):Int:=IntKind.u64.wrap (idx lv x)
def KK (lv:List Int) (x:Int):Int:=kv lv x * 1000000 + x
abbrev SK (lv l:List Int):Prop:=l.Pairwise fun x y=>KK lv x < KK lv y
def sm (lv l:List Int):Prop:=∀ x ∈ l,0 ≤ x ∧ x < lv.length ∧ x < 1000000
def Ok2 (lv X Y:List Int):Prop:=∀ x ∈ X,∀ y ∈ Y,kv lv x = kv lv y → x < y
theorem ord1 {F:Nat} {lv:List Int} {a b:Int} (ha:0 ≤ a ∧ a < lv.length ∧ a < 1000000) (hb:0 ≤ b ∧ b < lv.length ∧ b < 1000000):∃ c,b9 F a b lv = some c ∧ decide (c < 0) = decide (kv lv a < kv lv b):=by
 unfold b9
 rw [dZ ha.1 ha.2.1,dZ hb.1 hb.2.1]
 simp only [Option.bind_some,gh,gp]
 simp only [ne_eq,not_true_eq_false,decide_false,Option.bind_some,Bool.false_eq_true,if_false]
 show ∃ c,(Option.bind (if decide (kv lv a < kv lv b) = true then some (-1) else if decide (kv lv b < kv lv a) = true then some 1 else some 0) fun x=>some x) = some c ∧ _
 by_cases c:kv lv a < kv lv b
 ·exact ⟨-1,by rw [if_pos (by simpa using c)]; rfl,by simp [c]⟩
 ·rw [if_neg (by simpa using c)]
  by_cases c':kv lv b < kv lv a
  ·exact ⟨1,by rw [if_pos (by simpa using c')]; rfl,by simp [c]⟩
  ·exact ⟨0,by rw [if_neg (by simpa using c')]; rfl,by simp [c]⟩
theorem lb {lv:List Int} {x y:Int} (hx:0 ≤ x ∧ x < 1000000) (hy:0 ≤ y ∧ y < 1000000):KK lv x < KK lv y ↔ kv lv x < kv lv y ∨ (kv lv x = kv lv y ∧ x < y):=by
 unfold KK; omega
theorem fC {α:Type} [Inhabited α] {A B:List α} {x:α} {i:Int} (hi:i = A.length):idx (A ++ x :: B) i = x:=by
 subst hi; rw [dY _ _ (by simp)]; simp
theorem me {α:Type} {A B:List α} {x y:α} {i:Nat} (hi:i = A.length):(A ++ x :: B).set i y = A ++ y :: B:=by
 subst hi; rw [List.set_append_right _ _ (Nat.le_refl _)]; simp
theorem swp {α:Type} {A B:List α} {x y:α} {i j:Nat} (hi:i = A.length) (hj:j = i + 1):((A ++ x :: y :: B).set j x).set i y = A ++ y :: x :: B:=by
 have:A ++ x :: y :: B = (A ++ [x]) ++ y :: B:=by simp
 rw [this,me (by simp; omega)]
 have:A ++ [x] ++ x :: B = A ++ x :: x :: B:=by simp
 rw [this,me hi]
theorem swp' {α:Type} {A B:List α} {x y:α} {i j:Nat} (hi:i = A.length) (hj:j = i + 1):((A ++ x :: y :: B).set i y).set j x = A ++ y :: x :: B:=by
 rw [me hi]
 have:A ++ y :: y :: B = (A ++ [y]) ++ y :: B:=by simp
 rw [this,me (by simp; omega)]; simp
theorem insOne {F:Nat} {lv A S R:List Int} {x a:Int} (ha:a = A.length) (hA:A.length + S.length ≤ 1000000) (hF:S.length < F) (hS:SK lv S) (hok:Ok2 lv S [x]) (hin:sm lv S) (hx:0 ≤ x ∧ x < lv.length ∧ x < 1000000) {i:Int} (hi:i = a + S.length) {d:List Int} (hd:d = A ++ S ++ x :: R) :
  ah (iter F (bK fun data_5 j_6=>Option.bind (cy (decide (a < j_6)) (aE data_5 j_6)) (fun x_8=>Option.bind (cy (decide (a < j_6)) (aE data_5 (IntKind.i64.wrap (j_6 - 1)))) (fun x_9=>Option.bind (cy (decide (a < j_6)) (b9 F x_8 x_9 lv)) (fun x_10=>if ((decide (a < j_6)) && (decide (x_10 < 0))) = true then (Option.bind (aE data_5 (IntKind.i64.wrap (j_6 - 1))) (fun x_11=>Option.bind (aE data_5 j_6) (fun x_12=>Option.bind (aE data_5 j_6) (fun x_13=>Option.bind (aE (data_5.set (j_6:Int).toNat x_11) (IntKind.i64.wrap (j_6 - 1))) (fun x_14=>some (.inl ((data_5.set (j_6:Int).toNat x_11).set (IntKind.i64.wrap (j_6 - 1):Int).toNat x_12,IntKind.i64.wrap (j_6 - 1)))))))) else (some (.inr data_5)))))) (d,i))
   fun d'=>∃ S',d' = A ++ S' ++ R ∧ SK lv S' ∧ S'.Perm (S ++ [x]):=by
 subst ha hi hd
 refine ah.rounds (n:=S.length) (I:=fun k z=>∃ S1 S2,S = S1 ++ S2 ∧ S2.length = k ∧ z.1 = A ++ S1 ++ x :: S2 ++ R ∧ z.2 = (A.length:Int) + S1.length ∧ ∀ s ∈ S2,KK lv x < KK lv s) hF ⟨S,[],by simp,rfl,by simp,rfl,by simp⟩ ?_
 rintro k ⟨d,j⟩ hk ⟨S1,S2,e,hl,hd,hj,hS2⟩
 simp only at hd hj
 subst hd hj
 simp only [bK]
 rcases List.eq_nil_or_concat S1 with rfl | ⟨S1',y,rfl⟩
 ·have e0:decide ((A.length:Int) < (A.length:Int) + ([]:List Int).length) = false:=by simp
  rw [e0]
  refine ah.g0 rfl (ah.g0 rfl (ah.g0 rfl (ah.iff rfl (ah.some (.inr ⟨_,rfl,x :: S2,by simp,?_,?_⟩)))))
  ·rw [e,List.nil_append] at hS
   exact List.pairwise_cons.2 ⟨hS2,hS⟩
  ·rw [e,List.nil_append]; exact (List.perm_append_singleton x S2).symm
 ·have hll:(S1'.concat y).length = S1'.length + 1:=by simp
  have hyS:y ∈ S:=by rw [e]; simp
  have hy:=hin y hyS
  have e0:decide ((A.length:Int) < (A.length:Int) + (S1'.concat y).length) = true:=by simp; omega
  have ew:IntKind.i64.wrap ((A.length:Int) + (S1'.concat y).length - 1) = (A.length:Int) + S1'.length:=by
   rw [hll]; have:=congrArg List.length e; simp at this; rw [cx (by omega) (by omega)]; push_cast; omega
  have ej:idx (A ++ S1'.concat y ++ x :: S2 ++ R) ((A.length:Int) + (S1'.concat y).length) = x:=by
   have:A ++ S1'.concat y ++ x :: S2 ++ R = (A ++ S1'.concat y) ++ x :: (S2 ++ R):=by simp
   rw [this]; exact fC (by simp)
  have ej1:idx (A ++ S1'.concat y ++ x :: S2 ++ R) ((A.length:Int) + S1'.length) = y:=by
   have:A ++ S1'.concat y ++ x :: S2 ++ R = (A ++ S1') ++ y :: (x :: S2 ++ R):=by simp
   rw [this]; exact fC (by simp)
  have b1:(A.length:Int) + (S1'.concat y).length < (A ++ S1'.concat y ++ x :: S2 ++ R).length:=by simp; omega
  have b2:(A.length:Int) + S1'.length < (A ++ S1'.concat y ++ x :: S2 ++ R).length:=by simp; omega
  rw [e0,ew]
  refine ah.g1 rfl (ah.idx (by omega) b1 (ah.g1 rfl (ah.idx (by omega) b2 ?_)))
  rw [ej,ej1]
  obtain ⟨c,hc,hcc⟩:=ord1 (F:=F) (lv:=lv) hx hy
  refine ah.g1 rfl (ah.a8 hc ?_)
  rw [hcc,Bool.true_and]
  have hkk:=lb (lv:=lv) (x:=x) (y:=y) ⟨hx.1,hx.2.2⟩ ⟨hy.1,hy.2.2⟩
  have hkk':=lb (lv:=lv) (x:=y) (y:=x) ⟨hy.1,hy.2.2⟩ ⟨hx.1,hx.2.2⟩
  refine ah.ite (fun h=>?_) (fun h=>?_)
  ·have h:=of_decide_eq_true h
   refine ah.idx (by omega) b2 (ah.idx (by omega) b1 (ah.idx (by omega) b1 (ah.idx (by omega) (by rw [List.length_set]; exact b2) (ah.some (.inl ⟨_,rfl,⟨S1',y :: S2,by rw [e]; simp,by simp [hl],?_,rfl,fun s hs=>?_⟩,?_⟩)))))
   ·rw [ej,ej1]
    have:A ++ S1'.concat y ++ x :: S2 ++ R = (A ++ S1') ++ y :: x :: (S2 ++ R):=by simp
    rw [this,swp (by simp; omega) (by simp; omega)]; simp
   ·rcases List.mem_cons.1 hs with rfl | hs
    ·exact hkk.2 (.inl h)
    ·exact hS2 s hs
   ·have:=congrArg List.length e; simp at this; omega
  ·have h:=of_decide_eq_false h
   refine ah.some (.inr ⟨_,rfl,S1'.concat y ++ x :: S2,by simp,?_,?_⟩)
   ·have hyx:KK lv y < KK lv x:=hkk'.2 (by
     have:=hok y hyS x (by simp)
     omega)
    rw [e] at hS
    have hS':=List.pairwise_append.1 hS
    refine List.pairwise_append.2 ⟨hS'.1,List.pairwise_cons.2 ⟨hS2,hS'.2.1⟩,fun p hp q hq=>?_⟩
    rcases List.mem_cons.1 hq with rfl | hq
    ·rw [List.concat_eq_append] at hp hS'
     rcases List.mem_append.1 hp with hp | hp
     ·have:=(List.pairwise_append.1 hS'.1).2.2 p hp y (by simp); omega
     ·rw [List.mem_singleton.1 hp]; exact hyx
    ·exact hS'.2.2 p hp q hq
   ·rw [e]
    have:(S1'.concat y ++ x :: S2).Perm (x :: (S1'.concat y ++ S2)):=List.perm_middle
    exact this.trans (List.perm_append_singleton x _).symm
abbrev Stb (lv l:List Int):Prop:=l.Pairwise fun a b=>kv lv a = kv lv b → a < b
theorem sr {F:Nat} {lv A M B:List Int} {a b:Int} (ha:a = A.length) (hb:b = a + M.length) (hA:A.length + M.length ≤ 1000000) (hF:M.length < F) (hst:Stb lv M) (hin:sm lv M) {d:List Int} (hd:d = A ++ M ++ B) :
  ah (aV F a b lv d) fun d'=>∃ S,d' = A ++ S ++ B ∧ SK lv S ∧ S.Perm M:=by
 unfold aV
 subst ha hb hd
 rw [cx (by omega) (by omega)]
 refine ah.bind (P:=fun d'=>∃ S,d' = A ++ S ++ B ∧ SK lv S ∧ S.Perm M) ?_ fun _ h=>ah.some h
 cases M with
 | nil=>
  refine ah.rounds (n:=0) (I:=fun k z=>z.1 = A ++ [] ++ B ∧ z.2 = (A.length:Int) + 1) (by omega) ⟨rfl,rfl⟩ ?_
  rintro k ⟨d,i⟩ hk ⟨rfl,rfl⟩
  exact ah.iff (by simp; omega) (ah.some (.inr ⟨_,rfl,[],rfl,by simp,.refl _⟩))
 | cons x0 M'=>
  refine ah.rounds (n:=M'.length) (I:=fun k z=>∃ S0 R S,x0 :: M' = S0 ++ R ∧ S0.length = k + 1 ∧ S.Perm S0 ∧ SK lv S ∧ z.1 = A ++ S ++ (R ++ B) ∧ z.2 = (A.length:Int) + 1 + k) (by simp at hF; omega) ⟨[x0],M',[x0],rfl,rfl,.refl _,by simp,by simp,by simp⟩ ?_
  rintro k ⟨d,i⟩ hk ⟨S0,R,S,e,h0,hp,hs,hd,hi⟩
  simp only at hd hi
  subst hd hi
  simp only [bK]
  have hSl:=hp.length_eq
  have hel:=congrArg List.length e
  simp only [List.length_cons,List.length_append] at hel hA hF
  cases R with
  | nil=>
   refine ah.iff (by simp at hel ⊢; omega) (ah.some (.inr ⟨_,rfl,S,by simp,hs,?_⟩))
   rw [e,List.append_nil]; exact hp
  | cons x R=>
   rw [List.length_cons] at hel
   refine ah.qi (by simp; omega) ?_
   have hst':=List.pairwise_append.1 (e ▸ hst)
   refine ah.bind (P:=fun d'=>∃ S',d' = A ++ S' ++ (R ++ B) ∧ SK lv S' ∧ S'.Perm (S ++ [x])) (ah.bind (insOne (lv:=lv) (A:=A) (S:=S) (R:=R ++ B) (x:=x) rfl (by omega) (by omega) hs (fun s hs' y hy=>?_) (fun s hs'=>hin s (by rw [e]; simp [hp.mem_iff.1 hs'])) (hin x (by rw [e]; simp)) (by omega) (by simp)) fun d' h=>ah.some h) ?_
   ·rw [List.mem_singleton.1 hy]
    exact hst'.2.2 s (hp.mem_iff.1 hs') x (by simp)
   ·rintro d' ⟨S',rfl,hs',hp'⟩
    refine ah.some (.inl ⟨_,rfl,⟨S0 ++ [x],R,S',by rw [e]; simp,by simp [h0],hp'.trans (hp.append_right [x]),hs',rfl,?_⟩,by omega⟩)
    simp only; rw [cx (by omega) (by omega)]; push_cast; omega
theorem sv {F:Nat} {lv A X M Y B:List Int} {a b n:Int} (ha:a = A.length) (hb:b = a + X.length + M.length) (hn:n = X.length) (hXY:X.length = Y.length) (hF:X.length < F) (hL:A.length + X.length + M.length + Y.length ≤ 1000000) {d:List Int} (hd:d = A ++ X ++ M ++ Y ++ B) :
  bz F a b n lv d = some (A ++ Y ++ M ++ X ++ B):=by
 refine ah.eq ?_
 unfold bz
 subst ha hb hn hd
 refine ah.bind (P:=(· = A ++ Y ++ M ++ X ++ B)) ?_ (by rintro _ rfl; exact ah.some rfl)
 refine ah.rounds (n:=X.length) (I:=fun k z=>z.2 = (k:Int) ∧ ∃ X1 X2 Y1 Y2,X = X1 ++ X2 ∧ Y = Y1 ++ Y2 ∧ X1.length = k ∧ Y1.length = k ∧ z.1 = A ++ Y1 ++ X2 ++ M ++ X1 ++ Y2 ++ B) hF ⟨rfl,[],X,[],Y,rfl,rfl,rfl,rfl,by simp⟩ ?_
 rintro k ⟨d,i⟩ hk ⟨hi,X1,X2,Y1,Y2,eX,eY,l1,l2,hd⟩
 simp only at hi hd
 subst hi hd
 simp only [bK]
 have hXl:=congrArg List.length eX
 have hYl:=congrArg List.length eY
 rw [List.length_append] at hXl hYl
 cases X2 with
 | nil=>
  have:Y2 = []:=List.eq_nil_of_length_eq_zero (by simp at hXl; omega)
  subst this
  refine ah.iff (by simp at hXl ⊢; omega) (ah.some (.inr ⟨_,rfl,?_⟩))
  rw [eX,eY]; simp
 | cons x X2=>
  cases Y2 with
  | nil=>simp at hXl hYl; omega
  | cons y Y2=>
   rw [List.length_cons] at hXl hYl
   have w1:IntKind.i64.wrap ((A.length:Int) + X.length + M.length + k) = ((A.length + X.length + M.length + k:Nat):Int):=by rw [cx (by omega) (by omega)]; push_cast; rfl
   have w2:IntKind.i64.wrap ((A.length:Int) + k) = ((A.length + k:Nat):Int):=by rw [cx (by omega) (by omega)]; push_cast; rfl
   have f1:A ++ Y1 ++ x :: X2 ++ M ++ X1 ++ y :: Y2 ++ B = (A ++ Y1 ++ x :: X2 ++ M ++ X1) ++ y :: (Y2 ++ B):=by simp
   have f2:A ++ Y1 ++ x :: X2 ++ M ++ X1 ++ y :: Y2 ++ B = (A ++ Y1) ++ x :: (X2 ++ M ++ X1 ++ y :: Y2 ++ B):=by simp
   have g1:idx (A ++ Y1 ++ x :: X2 ++ M ++ X1 ++ y :: Y2 ++ B) ((A.length + X.length + M.length + k:Nat):Int) = y:=by
    rw [f1]; exact fC (by simp; omega)
   have g2:idx (A ++ Y1 ++ x :: X2 ++ M ++ X1 ++ y :: Y2 ++ B) ((A.length + k:Nat):Int) = x:=by
    rw [f2]; exact fC (by simp; omega)
   refine ah.qi (by simp; omega) ?_
   rw [w1,w2]
   refine ah.idx (by omega) (by simp; omega) (ah.idx (by omega) (by simp; omega) (ah.idx (by omega) (by simp; omega) (ah.idx (by omega) (by simp; omega) (ah.some (.inl ⟨_,rfl,⟨?_,X1 ++ [x],X2,Y1 ++ [y],Y2,by rw [eX]; simp,by rw [eY]; simp,by simp [l1],by simp [l2],?_⟩,by omega⟩)))))
   ·simp only; rw [cx (by omega) (by omega)]; push_cast; rfl
   ·simp only
    rw [g1,g2,f2,me (by simp; omega)]
    have f3:(A ++ Y1) ++ y :: (X2 ++ M ++ X1 ++ y :: Y2 ++ B) = (A ++ Y1 ++ y :: X2 ++ M ++ X1) ++ y :: (Y2 ++ B):=by simp
    rw [f3,me (by simp; omega)]; simp
theorem rot {F:Nat} {lv A X Y B:List Int} {a m b:Int} (ha:a = A.length) (hm:m = a + X.length) (hb:b = m + Y.length) (hX:X ≠ []) (hY:Y ≠ []) (hF:X.length + Y.length < F) (hL:A.length + X.length + Y.length ≤ 1000000) {d:List Int} (hd:d = A ++ X ++ Y ++ B) :
  cC F a m b lv d = some (A ++ Y ++ X ++ B):=by
 refine ah.eq ?_
 unfold cC
 subst ha hm hb hd
 have hX0:=List.length_pos_iff.2 hX
 have hY0:=List.length_pos_iff.2 hY
 rw [show IntKind.i64.wrap ((A.length:Int) + X.length - A.length) = (X.length:Int) by rw [cx (by omega) (by omega)]; omega,show IntKind.i64.wrap ((A.length:Int) + X.length + Y.length - ((A.length:Int) + X.length)) = (Y.length:Int) by rw [cx (by omega) (by omega)]; omega]
 refine ah.bind (P:=fun z=>∃ A1 X1 Y1 B1,A1 ++ Y1 ++ X1 ++ B1 = A ++ Y ++ X ++ B ∧ z.1 = A1 ++ X1 ++ Y1 ++ B1 ∧ z.2 = (X1.length:Int) ∧ X1.length = Y1.length ∧ A1.length + X1.length = A.length + X.length ∧ X1.length ≤ X.length + Y.length ∧ A1.length + X1.length + Y1.length ≤ 1000000) ?_ ?_
 ·refine ah.loop (fun z=>∃ A1 X1 Y1 B1,A1 ++ Y1 ++ X1 ++ B1 = A ++ Y ++ X ++ B ∧ z.1 = A1 ++ X1 ++ Y1 ++ B1 ∧ z.2.1 = (X1.length:Int) ∧ z.2.2 = (Y1.length:Int) ∧ 0 < X1.length ∧ 0 < Y1.length ∧ A1.length + X1.length = A.length + X.length ∧ X1.length + Y1.length ≤ X.length + Y.length ∧ A1.length + X1.length + Y1.length ≤ 1000000) (fun z=>(z.2.1 + z.2.2).toNat) ⟨A,X,Y,B,rfl,rfl,rfl,rfl,hX0,hY0,rfl,by omega,by omega⟩ (by simp only; omega) ?_
  rintro ⟨d,i,j⟩ ⟨A1,X1,Y1,B1,e,hd,hi,hj,h1,h2,h3,h4,h5⟩
  simp only at hd hi hj
  subst hd hi hj
  simp only [kO]
  refine ah.ite (fun hc=>?_) (fun hc=>?_)
  ·have hne:(X1.length:Int) ≠ Y1.length:=of_decide_eq_true hc
   have w1:IntKind.i64.wrap ((A.length:Int) + X.length - X1.length) = (A1.length:Int):=by rw [cx (by omega) (by omega)]; omega
   refine ah.ite (fun hc=>?_) (fun hc=>?_)
   ·have hlt:=of_decide_eq_true hc
    have hx:X1 = X1.take Y1.length ++ X1.drop Y1.length:=(List.take_append_drop _ _).symm
    have hxt:(X1.take Y1.length).length = Y1.length:=by rw [List.length_take]; omega
    have hxd:(X1.drop Y1.length).length = X1.length - Y1.length:=by rw [List.length_drop]
    rw [w1]
    refine ah.a8 (sv (A:=A1) (X:=X1.take Y1.length) (M:=X1.drop Y1.length) (Y:=Y1) (B:=B1) rfl (by omega) (by omega) hxt (by omega) (by omega) (by rw [List.append_assoc A1 (List.take _ X1),List.take_append_drop])) (ah.some (.inl ⟨_,rfl,⟨A1 ++ Y1,X1.drop Y1.length,X1.take Y1.length,B1,?_,by simp only,?_,?_,by omega,by omega,by rw [List.length_append]; omega,by omega,by rw [List.length_append]; omega⟩,?_⟩))
    ·rw [← e]; rw [List.append_assoc (A1 ++ Y1),List.take_append_drop]
    ·simp only; rw [cx (by omega) (by omega)]; omega
    ·simp only; omega
    ·simp only; rw [cx (by omega) (by omega)]; omega
   ·have hge:=of_decide_eq_false hc
    have hy:Y1 = Y1.take (Y1.length - X1.length) ++ Y1.drop (Y1.length - X1.length):=(List.take_append_drop _ _).symm
    have hyt:(Y1.take (Y1.length - X1.length)).length = Y1.length - X1.length:=by rw [List.length_take]; omega
    have hyd:(Y1.drop (Y1.length - X1.length)).length = X1.length:=by rw [List.length_drop]; omega
    have w2:IntKind.i64.wrap (IntKind.i64.wrap ((A.length:Int) + X.length + Y1.length) - X1.length) = (A.length:Int) + X.length + Y1.length - X1.length:=by rw [cx (z:=_ + (Y1.length:Int)) (by omega) (by omega),cx (by omega) (by omega)]
    rw [w1]
    refine ah.lnE _ w2 (ah.a8 (sv (A:=A1) (X:=X1) (M:=Y1.take (Y1.length - X1.length)) (Y:=Y1.drop (Y1.length - X1.length)) (B:=B1) rfl (by omega) (by omega) (by omega) (by omega) (by omega) (by rw [List.append_assoc (A1 ++ X1) (List.take _ Y1),List.take_append_drop])) (ah.some (.inl ⟨_,rfl,⟨A1,Y1.drop (Y1.length - X1.length),Y1.take (Y1.length - X1.length),X1 ++ B1,?_,by simp,?_,?_,by omega,by omega,by omega,by omega,by omega⟩,?_⟩)))
    ·rw [← e,List.append_assoc A1 (Y1.take _),List.take_append_drop]; simp
    ·simp only; omega
    ·simp only; rw [cx (by omega) (by omega)]; omega
    ·simp only; rw [cx (by omega) (by omega)]; omega
  ·have heq:(X1.length:Int) = Y1.length:=by simpa using hc
   exact ah.some (.inr ⟨_,rfl,A1,X1,Y1,B1,e,rfl,rfl,by omega,h3,by omega,h5⟩)
 ·rintro ⟨d,i⟩ ⟨A1,X1,Y1,B1,e,hd,hi,h1,h3,h4,h5⟩
  simp only at hd hi
  subst hd hi
  simp only [bK]
  have w1:IntKind.i64.wrap ((A.length:Int) + X.length - X1.length) = (A1.length:Int):=by rw [cx (by omega) (by omega)]; omega
  rw [w1]
  refine ah.a8 (sv (A:=A1) (X:=X1) (M:=[]) (Y:=Y1) (B:=B1) rfl (by simp; omega) rfl h1 (by omega) (by simp; omega) (by simp)) (ah.some ?_)
  rw [← e]; simp
theorem half {i j:Int} (h0:0 ≤ i) (h1:i ≤ 10000000) (h2:0 ≤ j) (h3:j ≤ 10000000):IntKind.u64.wrap (IntKind.i64.wrap (i + j)) = i + j ∧ IntKind.i64.wrap ((i + j) / 2) = (i + j) / 2:=by
 rw [cx (by omega) (by omega),cx (by omega) (by omega),wu64]
 exact ⟨by omega,rfl⟩
theorem bsr {F:Nat} {body:Int × Int → Option ((Int × Int) ⊕ Int)} {p:Int → Bool} {lo hi:Int} (h0:lo ≤ hi) (hF:(hi - lo).toNat < F)
  (hb:∀ i j,lo ≤ i → i ≤ j → j ≤ hi → body (i,j) = if i < j then (if p ((i + j) / 2) = true then some (.inl ((i + j) / 2 + 1,j)) else some (.inl (i,(i + j) / 2))) else some (.inr i)) :
  ah (iter F body (lo,hi)) fun s=>lo ≤ s ∧ s ≤ hi ∧ (s = lo ∨ p (s - 1) = true) ∧ (s = hi ∨ p s = false):=by
 refine ah.loop (fun z=>lo ≤ z.1 ∧ z.1 ≤ z.2 ∧ z.2 ≤ hi ∧ (z.1 = lo ∨ p (z.1 - 1) = true) ∧ (z.2 = hi ∨ p z.2 = false)) (fun z=>(z.2 - z.1).toNat) ⟨Int.le_refl _,h0,Int.le_refl _,.inl rfl,.inl rfl⟩ hF ?_
 rintro ⟨i,j⟩ ⟨h1,h2,h3,h4,h5⟩
 simp only at h1 h2 h3 h4 h5
 rw [hb i j h1 h2 h3]
 by_cases c:i < j
 ·rw [if_pos c]
  by_cases cp:p ((i + j) / 2) = true
  ·rw [if_pos cp]
   refine ah.some (.inl ⟨_,rfl,⟨by simp only; omega,by simp only; omega,h3,.inr ?_,h5⟩,by simp only; omega⟩)
   simp only; rw [show (i + j) / 2 + 1 - 1 = (i + j) / 2 by omega]; exact cp
  ·rw [if_neg cp]
   exact ah.some (.inl ⟨_,rfl,⟨h1,by simp only; omega,by simp only; omega,h4,.inr (by simpa using cp)⟩,by simp only; omega⟩)
 ·rw [if_neg c]
  have:i = j:=by omega
  subst this
  exact ah.some (.inr ⟨_,rfl,h1,h3,h4,h5⟩)
theorem goUp {F:Nat} {A M B:List Int} {x a e:Int} (ha:a = A.length) (he:e = a + M.length) (hF:M.length < F) (hL:A.length + M.length ≤ 1000000) {d:List Int} (hd:d = A ++ x :: M ++ B) :
  ah (iter F (bK fun data_11 k_12=>if (decide (k_12 < e)) = true then (Option.bind (aE data_11 (IntKind.i64.wrap (k_12 + 1))) (fun x_14=>Option.bind (aE data_11 k_12) (fun x_15=>Option.bind (aE data_11 k_12) (fun x_16=>Option.bind (aE (data_11.set (k_12:Int).toNat x_14) (IntKind.i64.wrap (k_12 + 1))) (fun x_17=>some (.inl ((data_11.set (k_12:Int).toNat x_14).set (IntKind.i64.wrap (k_12 + 1):Int).toNat x_15,IntKind.i64.wrap (k_12 + 1)))))))) else (some (.inr data_11))) (d,a)) (· = A ++ M ++ x :: B):=by
 subst ha he hd
 refine ah.rounds (n:=M.length) (I:=fun k z=>z.2 = (A.length:Int) + k ∧ ∃ M1 M2,M = M1 ++ M2 ∧ M1.length = k ∧ z.1 = A ++ M1 ++ x :: M2 ++ B) hF ⟨by simp,[],M,rfl,rfl,by simp⟩ ?_
 rintro k ⟨d,i⟩ hk ⟨hi,M1,M2,e,hl,hd⟩
 simp only at hi hd
 subst hi hd
 simp only [bK]
 have hel:=congrArg List.length e
 rw [List.length_append] at hel
 cases M2 with
 | nil=>
  refine ah.iff (by simp at hel ⊢; omega) (ah.some (.inr ⟨_,rfl,?_⟩))
  rw [e]; simp
 | cons y M2=>
  rw [List.length_cons] at hel
  have w1:IntKind.i64.wrap ((A.length:Int) + k + 1) = (A.length:Int) + k + 1:=cx (by omega) (by omega)
  have f1:A ++ M1 ++ x :: y :: M2 ++ B = (A ++ M1) ++ x :: (y :: M2 ++ B):=by simp
  have f2:A ++ M1 ++ x :: y :: M2 ++ B = (A ++ M1 ++ [x]) ++ y :: (M2 ++ B):=by simp
  have g1:idx (A ++ M1 ++ x :: y :: M2 ++ B) ((A.length:Int) + k) = x:=by rw [f1]; exact fC (by simp; omega)
  have g2:idx (A ++ M1 ++ x :: y :: M2 ++ B) ((A.length:Int) + k + 1) = y:=by rw [f2]; exact fC (by simp; omega)
  refine ah.qi (by simp; omega) ?_
  rw [w1]
  refine ah.idx (by omega) (by simp; omega) (ah.idx (by omega) (by simp; omega) (ah.idx (by omega) (by simp; omega) (ah.idx (by omega) (by simp; omega) (ah.some (.inl ⟨_,rfl,⟨by push_cast; omega,M1 ++ [y],M2,by rw [e]; simp,by simp [hl],?_⟩,by omega⟩)))))
  rw [g1,g2]
  have f3:A ++ M1 ++ x :: y :: M2 ++ B = (A ++ M1) ++ x :: y :: (M2 ++ B):=by simp
  rw [f3,swp' (by simp; omega) (by omega)]; simp
theorem goDown {F:Nat} {A M B:List Int} {x a e:Int} (ha:a = A.length) (he:e = a + M.length) (hF:M.length < F) (hL:A.length + M.length ≤ 1000000) {d:List Int} (hd:d = A ++ M ++ x :: B) :
  ah (iter F (bK fun data_28 k_29=>if (decide (a < k_29)) = true then (Option.bind (aE data_28 (IntKind.i64.wrap (k_29 - 1))) (fun x_31=>Option.bind (aE data_28 k_29) (fun x_32=>Option.bind (aE data_28 k_29) (fun x_33=>Option.bind (aE (data_28.set (k_29:Int).toNat x_31) (IntKind.i64.wrap (k_29 - 1))) (fun x_34=>some (.inl ((data_28.set (k_29:Int).toNat x_31).set (IntKind.i64.wrap (k_29 - 1):Int).toNat x_32,IntKind.i64.wrap (k_29 - 1)))))))) else (some (.inr data_28))) (d,e)) (· = A ++ x :: M ++ B):=by
 subst ha he hd
 refine ah.rounds (n:=M.length) (I:=fun k z=>z.2 = (A.length:Int) + M.length - k ∧ ∃ M1 M2,M = M1 ++ M2 ∧ M2.length = k ∧ z.1 = A ++ M1 ++ x :: M2 ++ B) hF ⟨by simp,M,[],by simp,rfl,by simp⟩ ?_
 rintro k ⟨d,i⟩ hk ⟨hi,M1,M2,e,hl,hd⟩
 simp only at hi hd
 subst hi hd
 simp only [bK]
 have hel:=congrArg List.length e
 rw [List.length_append] at hel
 rcases List.eq_nil_or_concat M1 with rfl | ⟨M1',y,rfl⟩
 ·refine ah.iff (by simp at hel ⊢; omega) (ah.some (.inr ⟨_,rfl,?_⟩))
  rw [e]; simp
 ·simp only [List.length_concat] at hel
  have w1:IntKind.i64.wrap ((A.length:Int) + M.length - k - 1) = (A.length:Int) + M.length - k - 1:=cx (by omega) (by omega)
  have f1:A ++ M1'.concat y ++ x :: M2 ++ B = (A ++ M1') ++ y :: (x :: M2 ++ B):=by simp
  have f2:A ++ M1'.concat y ++ x :: M2 ++ B = (A ++ M1' ++ [y]) ++ x :: (M2 ++ B):=by simp
  have g1:idx (A ++ M1'.concat y ++ x :: M2 ++ B) ((A.length:Int) + M.length - k - 1) = y:=by rw [f1]; exact fC (by simp; omega)
  have g2:idx (A ++ M1'.concat y ++ x :: M2 ++ B) ((A.length:Int) + M.length - k) = x:=by rw [f2]; exact fC (by simp; omega)
  refine ah.qi (by simp; omega) ?_
  rw [w1]
  refine ah.idx (by omega) (by simp; omega) (ah.idx (by omega) (by simp; omega) (ah.idx (by omega) (by simp; omega) (ah.idx (by omega) (by simp; omega) (ah.some (.inl ⟨_,rfl,⟨by push_cast; omega,M1',y :: M2,by rw [e]; simp,by simp [hl],?_⟩,by omega⟩)))))
  rw [g1,g2]
  have f3:A ++ M1'.concat y ++ x :: M2 ++ B = (A ++ M1') ++ y :: x :: (M2 ++ B):=by simp
  rw [f3,swp (by simp; omega) (by omega)]; simp
theorem cut {α:Type} (l:List α) {n:Nat} (h:n ≤ l.length):∃ P Q,l = P ++ Q ∧ P.length = n :=
 ⟨l.take n,l.drop n,(List.take_append_drop _ _).symm,by rw [List.length_take]; omega⟩
theorem lS {lv P Q:List Int} (h:SK lv (P ++ Q)):SK lv P ∧ SK lv Q ∧ ∀ p ∈ P,∀ q ∈ Q,KK lv p < KK lv q:=List.pairwise_append.1 h
theorem kr {lv P Q:List Int} (hP:SK lv P) (hQ:SK lv Q) (h:P = [] ∨ Q = [] ∨ ∃ P' p q Q',P = P' ++ [p] ∧ Q = q :: Q' ∧ KK lv p < KK lv q):∀ p ∈ P,∀ q ∈ Q,KK lv p < KK lv q:=by
 rcases h with rfl | rfl | ⟨P',p,q,Q',rfl,rfl,hpq⟩
 ·intro p hp; cases hp
 ·intro p _ q hq; cases hq
 ·intro u hu v hv
  have h1:KK lv u ≤ KK lv p:=by
   rcases List.mem_append.1 hu with hu | hu
   ·exact Int.le_of_lt ((List.pairwise_append.1 hP).2.2 u hu p (by simp))
   ·rw [List.mem_singleton.1 hu]; exact Int.le_refl _
  have h2:KK lv q ≤ KK lv v:=by
   rcases List.mem_cons.1 hv with rfl | hv
   ·exact Int.le_refl _
   ·exact Int.le_of_lt ((List.pairwise_cons.1 hQ).1 v hv)
  omega
theorem qp {lv:List Int} {x y:Int} (hx:0 ≤ x ∧ x < lv.length ∧ x < 1000000) (hy:0 ≤ y ∧ y < lv.length ∧ y < 1000000) (h:kv lv x = kv lv y → x < y):(kv lv y < kv lv x → KK lv y < KK lv x) ∧ (¬ kv lv y < kv lv x → KK lv x < KK lv y):=by
 have h1:=lb (lv:=lv) (x:=y) (y:=x) ⟨hy.1,hy.2.2⟩ ⟨hx.1,hx.2.2⟩
 have h2:=lb (lv:=lv) (x:=x) (y:=y) ⟨hx.1,hx.2.2⟩ ⟨hy.1,hy.2.2⟩
 refine ⟨fun h=>h1.2 (.inl h),fun h'=>h2.2 ?_⟩
 omega
theorem sm.get {lv l:List Int} (h:sm lv l) {x:Int} (hx:x ∈ l):0 ≤ x ∧ x < lv.length ∧ x < 1000000:=h x hx
set_option maxHeartbeats 2000000 in
theorem symM {F:Nat} {lv:List Int} (hFF:F ≤ 10000000):∀ (n:Nat) {A L1 L2 B d:List Int} {a m b:Int},a = A.length → m = a + L1.length → b = m + L2.length → L1 ≠ [] → L2 ≠ [] → L1.length + L2.length ≤ n → L1.length + L2.length + 2 < F → A.length + L1.length + L2.length ≤ 1000000 →
  d = A ++ L1 ++ L2 ++ B → SK lv L1 → SK lv L2 → sm lv L1 → sm lv L2 → Ok2 lv L1 L2 → ah (bt F n a m b lv d) fun d'=>∃ L,d' = A ++ L ++ B ∧ SK lv L ∧ L.Perm (L1 ++ L2)
 | 0,A,L1,L2,B,d,a,m,b,ha,hm,hb,h1,h2,hn,hF,hL,hd,s1,s2,i1,i2,ok=>by
  have:=List.length_pos_iff.2 h1; omega
 | n + 1,A,L1,L2,B,d,a,m,b,ha,hm,hb,h1,h2,hn,hF,hL,hd,s1,s2,i1,i2,ok=>by
  have p1:=List.length_pos_iff.2 h1
  have p2:=List.length_pos_iff.2 h2
  have dl:d.length = A.length + L1.length + L2.length + B.length:=by rw [hd]; simp; omega
  unfold bt
  rw [show IntKind.i64.wrap (m - a) = (L1.length:Int) by rw [cx (by omega) (by omega)]; omega,show IntKind.i64.wrap (b - m) = (L2.length:Int) by rw [cx (by omega) (by omega)]; omega]
  by_cases c1:L1.length = 1
  ·obtain ⟨x,rfl⟩:=List.length_eq_one_iff.1 c1
   have hx:=i1 x (by simp)
   have dx:idx d a = x:=by
    have:d = A ++ x :: (L2 ++ B):=by rw [hd]; simp
    rw [this]; exact fC ha
   have dm:∀ P y Q,L2 = P ++ y :: Q → idx d (m + P.length) = y:=fun P y Q e=>by
    have:d = (A ++ [x] ++ P) ++ y :: (Q ++ B):=by rw [hd,e]; simp
    rw [this]; exact fC (by simp at hm ⊢; omega)
   refine ah.bind (P:=fun o=>∃ L,o = .inr (A ++ L ++ B) ∧ SK lv L ∧ L.Perm ([x] ++ L2)) (ah.qi (by simp) ?_) (by rintro o ⟨L,rfl,hs,hp⟩; exact ah.some ⟨L,rfl,hs,hp⟩)
   have hmem:∀ h:Int,m ≤ h → h < b → idx d h ∈ L2:=fun h q1 q2=>by
    obtain ⟨P,Q,e,hl⟩:=cut L2 (n:=(h - m).toNat) (by omega)
    cases Q with
    | nil=>have:=congrArg List.length e; simp at this; omega
    | cons y Q=>
     have:=dm P y Q e
     rw [show m + (P.length:Int) = h by omega] at this
     rw [this,e]; simp
   refine ah.bind (bsr (p:=fun h=>decide (kv lv (idx d h) < kv lv x)) (by omega) (by omega) fun i j q1 q2 q3=>?_) ?_
   ·simp only [bK]
    by_cases c:i < j
    ·rw [if_pos (by simpa using c),if_pos c]
     obtain ⟨w1,w2⟩:=half (i:=i) (j:=j) (by omega) (by omega) (by omega) (by omega)
     simp only [dI]
     rw [w1,w2,dZ (by omega) (by omega),dZ (by omega) (by omega),dx]
     simp only [Option.bind_some]
     obtain ⟨cc,hc,hcc⟩:=ord1 (F:=F) (lv:=lv) (i2 _ (hmem ((i + j) / 2) (by omega) (by omega))) hx
     rw [hc]
     simp only [Option.bind_some]
     rw [hcc,cx (z:=(i + j) / 2 + 1) (by omega) (by omega)]
    ·rw [if_neg (by simpa using c),if_neg c]
   ·rintro s ⟨b1,b2,b3,b4⟩
    obtain ⟨P,Q,e,hl⟩:=cut L2 (n:=(s - m).toNat) (by omega)
    have hel:=congrArg List.length e
    rw [List.length_append] at hel
    have hw:IntKind.i64.wrap (s - 1) = s - 1:=cx (by omega) (by omega)
    rw [hw]
    simp only [List.length_cons,List.length_nil] at *
    have hd':d = A ++ x :: P ++ (Q ++ B):=by rw [hd,e]; simp
    refine ah.bind (goUp (A:=A) (M:=P) (B:=Q ++ B) (x:=x) ha (by omega) (by omega) (by omega) hd') ?_
    rintro _ rfl
    refine ah.some ⟨P ++ x :: Q,by simp,?_,?_⟩
    ·obtain ⟨t1,t2,t3⟩:=lS (e ▸ s2)
     have u1:∀ p ∈ P,KK lv p < KK lv x:=fun p hp=>by
      refine kr (P:=P) (Q:=[x]) t1 (by simp) ?_ p hp x (by simp)
      rcases List.eq_nil_or_concat P with rfl | ⟨P',y,rfl⟩
      ·exact .inl rfl
      ·refine .inr (.inr ⟨P',y,x,[],by simp,rfl,?_⟩)
       rcases b3 with b3 | b3
       ·simp at hl; omega
       ·have hy:idx d (s - 1) = y:=by
         have:=dm P' y Q (by rw [e]; simp)
         rw [show m + (P'.length:Int) = s - 1 by simp at hl; omega] at this
         exact this
        rw [hy] at b3
        exact (lb (lv:=lv) ⟨(i2 y (by rw [e]; simp)).1,(i2 y (by rw [e]; simp)).2.2⟩ ⟨hx.1,hx.2.2⟩).2 (.inl (of_decide_eq_true b3))
     have u2:∀ q ∈ Q,KK lv x < KK lv q:=fun q hq=>by
      refine kr (P:=[x]) (Q:=Q) (by simp) t2 ?_ x (by simp) q hq
      cases Q with
      | nil=>exact .inr (.inl rfl)
      | cons y Q=>
       refine .inr (.inr ⟨[],x,y,Q,rfl,rfl,?_⟩)
       rcases b4 with b4 | b4
       ·simp at hel; omega
       ·have hy:idx d s = y:=by
         have:=dm P y Q e
         rw [show m + (P.length:Int) = s by omega] at this
         exact this
        rw [hy] at b4
        exact (qp hx (i2 y (by rw [e]; simp)) (ok x (by simp) y (by rw [e]; simp))).2 (of_decide_eq_false b4)
     refine List.pairwise_append.2 ⟨t1,List.pairwise_cons.2 ⟨u2,t2⟩,fun p hp q hq=>?_⟩
     rcases List.mem_cons.1 hq with rfl | hq
     ·exact u1 p hp
     ·exact t3 p hp q hq
    ·rw [e]; exact List.perm_middle
  ·refine ah.bind (P:=(· = .inl ())) (ah.iff (by simp; omega) (ah.some rfl)) ?_
   rintro o rfl
   simp only [iM]
   by_cases c2:L2.length = 1
   ·obtain ⟨x,rfl⟩:=List.length_eq_one_iff.1 c2
    have hx:=i2 x (by simp)
    have dx:idx d m = x:=by
     have:d = (A ++ L1) ++ x :: B:=by rw [hd]; simp
     rw [this]; exact fC (by simp; omega)
    have dm:∀ P y Q,L1 = P ++ y :: Q → idx d (a + P.length) = y:=fun P y Q e=>by
     have:d = (A ++ P) ++ y :: (Q ++ [x] ++ B):=by rw [hd,e]; simp
     rw [this]; exact fC (by simp; omega)
    refine ah.bind (P:=fun o=>∃ L,o = .inr (A ++ L ++ B) ∧ SK lv L ∧ L.Perm (L1 ++ [x])) (ah.qi (by simp) ?_) (by rintro o ⟨L,rfl,hs,hp⟩; exact ah.some ⟨L,rfl,hs,hp⟩)
    have hmem:∀ h:Int,a ≤ h → h < m → idx d h ∈ L1:=fun h q1 q2=>by
     obtain ⟨P,Q,e,hl⟩:=cut L1 (n:=(h - a).toNat) (by omega)
     cases Q with
     | nil=>have:=congrArg List.length e; simp at this; omega
     | cons y Q=>
      have:=dm P y Q e
      rw [show a + (P.length:Int) = h by omega] at this
      rw [this,e]; simp
    refine ah.bind (bsr (p:=fun h=>!decide (kv lv x < kv lv (idx d h))) (by omega) (by omega) fun i j q1 q2 q3=>?_) ?_
    ·simp only [bK]
     by_cases c:i < j
     ·rw [if_pos (by simpa using c),if_pos c]
      obtain ⟨w1,w2⟩:=half (i:=i) (j:=j) (by omega) (by omega) (by omega) (by omega)
      simp only [dI]
      rw [w1,w2,dZ (i:=m) (by omega) (by omega),dZ (i:=(i + j) / 2) (by omega) (by omega),dx]
      simp only [Option.bind_some]
      obtain ⟨cc,hc,hcc⟩:=ord1 (F:=F) (lv:=lv) hx (i1 _ (hmem ((i + j) / 2) (by omega) (by omega)))
      rw [hc]
      simp only [Option.bind_some]
      rw [hcc,cx (z:=(i + j) / 2 + 1) (by omega) (by omega)]
     ·rw [if_neg (by simpa using c),if_neg c]
    ·rintro s ⟨b1,b2,b3,b4⟩
     obtain ⟨P,Q,e,hl⟩:=cut L1 (n:=(s - a).toNat) (by omega)
     have hel:=congrArg List.length e
     rw [List.length_append] at hel
     have hd':d = (A ++ P) ++ Q ++ x :: B:=by rw [hd,e]; simp
     refine ah.bind (goDown (A:=A ++ P) (M:=Q) (B:=B) (x:=x) (by rw [List.length_append]; omega) (by omega) (by omega) (by rw [List.length_append]; omega) hd') ?_
     rintro _ rfl
     refine ah.some ⟨P ++ x :: Q,by simp,?_,?_⟩
     ·obtain ⟨t1,t2,t3⟩:=lS (e ▸ s1)
      have u1:∀ p ∈ P,KK lv p < KK lv x:=fun p hp=>by
       refine kr (P:=P) (Q:=[x]) t1 (by simp) ?_ p hp x (by simp)
       rcases List.eq_nil_or_concat P with rfl | ⟨P',y,rfl⟩
       ·exact .inl rfl
       ·refine .inr (.inr ⟨P',y,x,[],by simp,rfl,?_⟩)
        rcases b3 with b3 | b3
        ·simp at hl; omega
        ·have hy:idx d (s - 1) = y:=by
          have:=dm P' y Q (by rw [e]; simp)
          rw [show a + (P'.length:Int) = s - 1 by simp at hl; omega] at this
          exact this
         rw [hy] at b3
         exact (qp (i1 y (by rw [e]; simp)) hx (ok y (by rw [e]; simp) x (by simp))).2 (by simpa using b3)
      have u2:∀ q ∈ Q,KK lv x < KK lv q:=fun q hq=>by
       refine kr (P:=[x]) (Q:=Q) (by simp) t2 ?_ x (by simp) q hq
       cases Q with
       | nil=>exact .inr (.inl rfl)
       | cons y Q=>
        refine .inr (.inr ⟨[],x,y,Q,rfl,rfl,?_⟩)
        rcases b4 with b4 | b4
        ·simp at hel; omega
        ·have hy:idx d s = y:=by
          have:=dm P y Q e
          rw [show a + (P.length:Int) = s by omega] at this
          exact this
         rw [hy] at b4
         have hyi:=i1 y (by rw [e]; simp)
         exact (lb (lv:=lv) ⟨hx.1,hx.2.2⟩ ⟨hyi.1,hyi.2.2⟩).2 (.inl (by simpa using b4))
      refine List.pairwise_append.2 ⟨t1,List.pairwise_cons.2 ⟨u2,t2⟩,fun p hp q hq=>?_⟩
      rcases List.mem_cons.1 hq with rfl | hq
      ·exact u1 p hp
      ·exact t3 p hp q hq
     ·rw [e,List.append_assoc]
      exact (List.perm_append_singleton x Q).symm.append_left P
   ·refine ah.bind (P:=(· = .inl ())) (ah.iff (by simp; omega) (ah.some rfl)) ?_
    rintro o rfl
    simp only [iM]
    obtain ⟨w1,w2⟩:=half (i:=a) (j:=b) (by omega) (by omega) (by omega) (by omega)
    obtain ⟨mid,hmid⟩:∃ mid,(a + b) / 2 = mid:=⟨_,rfl⟩
    have m1:2 * mid ≤ a + b:=by omega
    have m2:a + b ≤ 2 * mid + 1:=by omega
    refine ah.lnE _ w1 ?_
    rw [w2,hmid]
    refine ah.lnE (mid + m) (cx (by omega) (by omega)) ?_
    have d1:∀ P y Q,L1 = P ++ y :: Q → idx d (a + P.length) = y:=fun P y Q e=>by
     have:d = (A ++ P) ++ y :: (Q ++ L2 ++ B):=by rw [hd,e]; simp
     rw [this]; exact fC (by simp; omega)
    have d2:∀ P y Q,L2 = P ++ y :: Q → idx d (m + P.length) = y:=fun P y Q e=>by
     have:d = (A ++ L1 ++ P) ++ y :: (Q ++ B):=by rw [hd,e]; simp
     rw [this]; exact fC (by simp; omega)
    have e1:∀ h:Int,a ≤ h → h < m → idx d h ∈ L1:=fun h q1 q2=>by
     obtain ⟨P,Q,e,hl⟩:=cut L1 (n:=(h - a).toNat) (by omega)
     cases Q with
     | nil=>have:=congrArg List.length e; simp at this; omega
     | cons y Q=>
      have:=d1 P y Q e
      rw [show a + (P.length:Int) = h by omega] at this
      rw [this,e]; simp
    have e2:∀ h:Int,m ≤ h → h < b → idx d h ∈ L2:=fun h q1 q2=>by
     obtain ⟨P,Q,e,hl⟩:=cut L2 (n:=(h - m).toNat) (by omega)
     cases Q with
     | nil=>have:=congrArg List.length e; simp at this; omega
     | cons y Q=>
      have:=d2 P y Q e
      rw [show m + (P.length:Int) = h by omega] at this
      rw [this,e]; simp
    refine ah.bind (P:=fun z=>(z = (mid + m - b,mid) ∧ mid < m) ∨ (z = (a,m) ∧ m ≤ mid)) (ah.ite (fun hc=>?_) (fun hc=>?_)) ?_
    ·have hc:=of_decide_eq_true hc
     exact ah.some (.inl ⟨by rw [cx (by omega) (by omega)],hc⟩)
    ·have hc:=of_decide_eq_false hc
     exact ah.some (.inr ⟨rfl,by omega⟩)
    rintro ⟨lo,hi⟩ hlh
    have hlh':(lo = mid + m - b ∧ hi = mid ∧ mid < m) ∨ (lo = a ∧ hi = m ∧ m ≤ mid):=by
     rcases hlh with ⟨h,h'⟩ | ⟨h,h'⟩
     ·cases h; exact .inl ⟨rfl,rfl,h'⟩
     ·cases h; exact .inr ⟨rfl,rfl,h'⟩
    clear hlh
    simp only [bK]
    refine ah.bind (bsr (p:=fun c=>!decide (kv lv (idx d (mid + m - 1 - c)) < kv lv (idx d c))) (by omega) (by omega) fun i j q1 q2 q3=>?_) ?_
    ·simp only [bK]
     by_cases c:i < j
     ·rw [if_pos (by simpa using c),if_pos c]
      obtain ⟨v1,v2⟩:=half (i:=i) (j:=j) (by omega) (by omega) (by omega) (by omega)
      simp only [dI]
      have v3:IntKind.i64.wrap (IntKind.i64.wrap (mid + m - 1) - (i + j) / 2) = mid + m - 1 - (i + j) / 2:=by rw [cx (z:=mid + m - 1) (by omega) (by omega),cx (by omega) (by omega)]
      rw [v1,v2,v3,dZ (i:=mid + m - 1 - (i + j) / 2) (by omega) (by omega),dZ (i:=(i + j) / 2) (by omega) (by omega)]
      simp only [Option.bind_some]
      obtain ⟨cc,hc,hcc⟩:=ord1 (F:=F) (lv:=lv) (i2 _ (e2 (mid + m - 1 - (i + j) / 2) (by omega) (by omega))) (i1 _ (e1 ((i + j) / 2) (by omega) (by omega)))
      rw [hc]
      simp only [Option.bind_some]
      rw [hcc,cx (z:=(i + j) / 2 + 1) (by omega) (by omega)]
     ·rw [if_neg (by simpa using c),if_neg c]
    rintro s ⟨b1,b2,b3,b4⟩
    obtain ⟨P,Q,eP,lP⟩:=cut L1 (n:=(s - a).toNat) (by omega)
    obtain ⟨R,S,eR,lR⟩:=cut L2 (n:=(mid + m - s - m).toNat) (by omega)
    have hel:=congrArg List.length eP
    have her:=congrArg List.length eR
    rw [List.length_append] at hel her
    obtain ⟨t1,t2,t3⟩:=lS (eP ▸ s1)
    obtain ⟨u1,u2,u3⟩:=lS (eR ▸ s2)
    have PS:∀ p ∈ P,∀ q ∈ S,KK lv p < KK lv q:=by
     refine kr t1 u2 ?_
     rcases List.eq_nil_or_concat P with rfl | ⟨P',y,rfl⟩
     ·exact .inl rfl
     cases S with
     | nil=>exact .inr (.inl rfl)
     | cons z S=>
      refine .inr (.inr ⟨P',y,z,S,by simp,rfl,?_⟩)
      simp only [List.length_concat,List.length_cons] at lP hel her
      rcases b3 with b3 | b3
      ·omega
      ·have hy:idx d (s - 1) = y:=by
        have:=d1 P' y Q (by rw [eP]; simp)
        rw [show a + (P'.length:Int) = s - 1 by omega] at this
        exact this
       have hz:idx d (mid + m - 1 - (s - 1)) = z:=by
        have:=d2 R z S eR
        rw [show m + (R.length:Int) = mid + m - 1 - (s - 1) by omega] at this
        exact this
       rw [hy,hz] at b3
       exact (qp (i1 y (by rw [eP]; simp)) (i2 z (by rw [eR]; simp)) (ok y (by rw [eP]; simp) z (by rw [eR]; simp))).2 (by simpa using b3)
    have RQ:∀ p ∈ R,∀ q ∈ Q,KK lv p < KK lv q:=by
     refine kr u1 t2 ?_
     rcases List.eq_nil_or_concat R with rfl | ⟨R',y,rfl⟩
     ·exact .inl rfl
     cases Q with
     | nil=>exact .inr (.inl rfl)
     | cons z Q=>
      refine .inr (.inr ⟨R',y,z,Q,by simp,rfl,?_⟩)
      simp only [List.length_concat,List.length_cons] at lR hel her
      rcases b4 with b4 | b4
      ·omega
      ·have hy:idx d (mid + m - 1 - s) = y:=by
        have:=d2 R' y S (by rw [eR]; simp)
        rw [show m + (R'.length:Int) = mid + m - 1 - s by omega] at this
        exact this
       have hz:idx d s = z:=by
        have:=d1 P z Q eP
        rw [show a + (P.length:Int) = s by omega] at this
        exact this
       rw [hy,hz] at b4
       have hyi:=i2 y (by rw [eR]; simp)
       have hzi:=i1 z (by rw [eP]; simp)
       exact (lb (lv:=lv) ⟨hyi.1,hyi.2.2⟩ ⟨hzi.1,hzi.2.2⟩).2 (.inl (by simpa using b4))
    have we:IntKind.i64.wrap (mid + m - s) = mid + m - s:=cx (by omega) (by omega)
    rw [we]
    refine ah.bind (P:=(· = A ++ P ++ R ++ (Q ++ S ++ B))) ?_ ?_
    ·refine ah.ln (ah.ite (fun hc=>?_) (fun hc=>?_))
     ·simp only [Bool.and_eq_true,decide_eq_true_eq] at hc
      refine ah.a8 (rot (A:=A ++ P) (X:=Q) (Y:=R) (B:=S ++ B) (by rw [List.length_append]; omega) (by omega) (by omega) (fun h=>?_) (fun h=>?_) (by omega) (by rw [List.length_append]; omega) (by rw [hd,eP,eR]; simp)) (ah.some (by simp))
      ·subst h; simp at hel; omega
      ·subst h; simp at lR; omega
     ·simp only [Bool.and_eq_false_iff,decide_eq_false_iff_not] at hc
      refine ah.some ?_
      have:Q = [] ∨ R = []:=by
       rcases hc with hc | hc
       ·exact .inl (List.eq_nil_of_length_eq_zero (by omega))
       ·exact .inr (List.eq_nil_of_length_eq_zero (by omega))
      rcases this with rfl | rfl
      ·rw [hd,eP,eR]; simp
      ·rw [hd,eP,eR]; simp
    rintro _ rfl
    refine ah.bind (P:=fun d'=>∃ L,d' = A ++ L ++ (Q ++ S ++ B) ∧ SK lv L ∧ L.Perm (P ++ R)) ?_ ?_
    ·refine ah.ln (ah.ite (fun hc=>?_) (fun hc=>?_))
     ·simp only [Bool.and_eq_true,decide_eq_true_eq] at hc
      refine ah.bind (symM hFF n (A:=A) (L1:=P) (L2:=R) (B:=Q ++ S ++ B) ha (by omega) (by omega) (fun h=>?_) (fun h=>?_) (by omega) (by omega) (by omega) rfl t1 u1 (fun x hx=>i1 x (by rw [eP]; simp [hx])) (fun x hx=>i2 x (by rw [eR]; simp [hx])) (fun x hx y hy=>ok x (by rw [eP]; simp [hx]) y (by rw [eR]; simp [hy]))) fun d' h=>ah.some h
      ·subst h; simp at lP; omega
      ·subst h; simp at lR; omega
     ·simp only [Bool.and_eq_false_iff,decide_eq_false_iff_not] at hc
      refine ah.some ⟨P ++ R,by simp,?_,.refl _⟩
      have:P = [] ∨ R = []:=by
       rcases hc with hc | hc
       ·exact .inl (List.eq_nil_of_length_eq_zero (by omega))
       ·exact .inr (List.eq_nil_of_length_eq_zero (by omega))
      rcases this with rfl | rfl
      ·simpa using u1
      ·simpa using t1
    rintro _ ⟨L,rfl,sL,pL⟩
    have lL:=pL.length_eq
    rw [List.length_append] at lL
    refine ah.mono (P:=fun d'=>∃ L',d' = A ++ L ++ L' ++ B ∧ SK lv L' ∧ L'.Perm (Q ++ S)) ?_ ?_
    ·refine ah.ln (ah.ite (fun hc=>?_) (fun hc=>?_))
     ·simp only [Bool.and_eq_true,decide_eq_true_eq] at hc
      refine ah.bind (symM hFF n (A:=A ++ L) (L1:=Q) (L2:=S) (B:=B) (by rw [List.length_append]; omega) (by omega) (by omega) (fun h=>?_) (fun h=>?_) (by omega) (by omega) (by rw [List.length_append]; omega) (by simp) t2 u2 (fun x hx=>i1 x (by rw [eP]; simp [hx])) (fun x hx=>i2 x (by rw [eR]; simp [hx])) (fun x hx y hy=>ok x (by rw [eP]; simp [hx]) y (by rw [eR]; simp [hy]))) fun d' h=>ah.some h
      ·subst h; simp at hel; omega
      ·subst h; simp at her; omega
     ·simp only [Bool.and_eq_false_iff,decide_eq_false_iff_not] at hc
      refine ah.some ⟨Q ++ S,by simp,?_,.refl _⟩
      have:Q = [] ∨ S = []:=by
       rcases hc with hc | hc
       ·exact .inl (List.eq_nil_of_length_eq_zero (by omega))
       ·exact .inr (List.eq_nil_of_length_eq_zero (by omega))
      rcases this with rfl | rfl
      ·simpa using u2
      ·simpa using t2
    rintro _ ⟨L',rfl,sL',pL'⟩
    refine ⟨L ++ L',by simp,List.pairwise_append.2 ⟨sL,sL',fun x hx y hy=>?_⟩,?_⟩
    ·rcases List.mem_append.1 (pL.mem_iff.1 hx) with hx | hx
     ·rcases List.mem_append.1 (pL'.mem_iff.1 hy) with hy | hy
      ·exact t3 x hx y hy
      ·exact PS x hx y hy
     ·rcases List.mem_append.1 (pL'.mem_iff.1 hy) with hy | hy
      ·exact RQ x hx y hy
      ·exact u3 x hx y hy
    ·refine (pL.append pL').trans ?_
     rw [eP,eR]
     have:(P ++ R ++ (Q ++ S)).Perm (P ++ (Q ++ (R ++ S))):=by
      rw [List.append_assoc]
      refine List.Perm.append_left P ?_
      rw [← List.append_assoc,← List.append_assoc]
      exact List.perm_append_comm.append_right S
     rw [List.append_assoc P Q]
     exact this
theorem rK {lv M:List Int} (hl:M.length ≤ 40) (hst:Stb lv M) (hin:sm lv M):ah (cu 2000 lv M) fun S=>SK lv S ∧ S.Perm M:=by
 unfold cu
 refine ah.bind ?_ fun _ h=>ah.some h
 unfold df
 have fin:∀ {s:List Int} {Q:List Int → Prop},SK lv s ∧ s.Perm M → ah (some s) fun S=>SK lv S ∧ S.Perm M:=fun h=>ah.some h
 by_cases c:M.length < 20
 ·refine ah.bind (P:=(· = (M,0))) (ah.rounds (n:=0) (I:=fun k z=>z = (M,0,20)) (by omega) rfl ?_) ?_
  ·rintro k z _ rfl
   exact ah.iff (by simp; omega) (ah.some (.inr ⟨_,rfl,rfl⟩))
  ·rintro _ rfl
   simp only [bK]
   refine ah.bind (sr (A:=[]) (M:=M) (B:=[]) rfl (by simp) (by simp; omega) (by omega) hst hin (by simp)) ?_
   rintro _ ⟨S,rfl,hs,hp⟩
   simp only [List.nil_append,List.append_nil]
   refine ah.bind (P:=(· = S)) (ah.rounds (n:=0) (I:=fun k z=>z = (S,20)) (by omega) rfl ?_) (by rintro _ rfl; exact ah.some ⟨hs,hp⟩)
   rintro k z _ rfl
   exact ah.iff (by simp; omega) (ah.some (.inr ⟨_,rfl,rfl⟩))
 ·obtain ⟨M1,M2,e,l1⟩:=cut M (n:=20) (by omega)
  have hel:=congrArg List.length e
  rw [List.length_append] at hel
  obtain ⟨st1,st2,st3⟩:=List.pairwise_append.1 (e ▸ hst)
  have in1:sm lv M1:=fun x hx=>hin x (by rw [e]; simp [hx])
  have in2:sm lv M2:=fun x hx=>hin x (by rw [e]; simp [hx])
  have blocks:ah (Option.bind (iter 2000 (kO fun data_3 a_4 b_5=>if (decide (b_5 ≤ (M.length:Int))) = true then (Option.bind (aV 2000 a_4 b_5 lv data_3) (fun x_8=>some (.inl (x_8,b_5,IntKind.i64.wrap (b_5 + 20))))) else (some (.inr (data_3,a_4)))) (M,0,20)) (bK fun data_1 a_2=>aV 2000 a_2 (M.length:Int) lv data_1)) fun d=>∃ S1 S2,d = S1 ++ S2 ∧ SK lv S1 ∧ SK lv S2 ∧ S1.Perm M1 ∧ S2.Perm M2:=by
   refine ah.bind (P:=fun z=>(∃ S1,z = (S1 ++ M2,20) ∧ SK lv S1 ∧ S1.Perm M1 ∧ M2.length < 20) ∨ (∃ S1 S2,z = (S1 ++ S2,40) ∧ SK lv S1 ∧ S1.Perm M1 ∧ SK lv S2 ∧ S2.Perm M2 ∧ M2.length = 20)) ?_ ?_
   ·refine ah.rounds (n:=2) (I:=fun k z=>(k = 0 ∧ z = (M,0,20)) ∨ (k = 1 ∧ ∃ S1,z = (S1 ++ M2,20,40) ∧ SK lv S1 ∧ S1.Perm M1) ∨ (k = 2 ∧ M2.length = 20 ∧ ∃ S1 S2,z = (S1 ++ S2,40,60) ∧ SK lv S1 ∧ S1.Perm M1 ∧ SK lv S2 ∧ S2.Perm M2)) (by omega) (.inl ⟨rfl,rfl⟩) ?_
    rintro k z hk (⟨rfl,rfl⟩ | ⟨rfl,S1,rfl,s1,p1⟩ | ⟨rfl,h20,S1,S2,rfl,s1,p1,s2,p2⟩)
    ·refine ah.qi (by simp; omega) (ah.bind (sr (A:=[]) (M:=M1) (B:=M2) rfl (by simp [l1]) (by simp; omega) (by omega) st1 in1 (by simp [e])) ?_)
     rintro _ ⟨S,rfl,hs,hp⟩
     exact ah.some (.inl ⟨_,rfl,.inr (.inl ⟨rfl,S,by simp [IntKind.wrap,IntKind.signed,IntKind.bits],hs,hp⟩),by omega⟩)
    ·have:=p1.length_eq
     simp only [kO]
     refine ah.ite (fun hc=>?_) (fun hc=>?_)
     ·have hc:=of_decide_eq_true hc
      refine ah.bind (sr (A:=S1) (M:=M2) (B:=[]) (by omega) (by omega) (by omega) (by omega) st2 in2 (by simp)) ?_
      rintro _ ⟨S,rfl,hs,hp⟩
      exact ah.some (.inl ⟨_,rfl,.inr (.inr ⟨by trivial,by omega,S1,S,by simp [IntKind.wrap,IntKind.signed,IntKind.bits],s1,p1,hs,hp⟩),by omega⟩)
     ·have hc:=of_decide_eq_false hc
      exact ah.some (.inr ⟨_,rfl,.inl ⟨S1,rfl,s1,p1,by omega⟩⟩)
    ·exact ah.iff (by simp; omega) (ah.some (.inr ⟨_,rfl,.inr ⟨S1,S2,rfl,s1,p1,s2,p2,h20⟩⟩))
   ·rintro z (⟨S1,rfl,s1,p1,h⟩ | ⟨S1,S2,rfl,s1,p1,s2,p2,h⟩)
    ·have:=p1.length_eq
     refine (sr (A:=S1) (M:=M2) (B:=[]) (by omega) (by omega) (by omega) (by omega) st2 in2 (by simp)).mono ?_
     rintro _ ⟨S,rfl,hs,hp⟩
     exact ⟨S1,S,by simp,s1,hs,p1,hp⟩
    ·have:=p1.length_eq
     have:=p2.length_eq
     refine (sr (A:=S1 ++ S2) (M:=[]) (B:=[]) (by simp; omega) (by simp; omega) (by simp; omega) (by simp) .nil (by simp [sm]) (by simp)).mono ?_
     rintro _ ⟨S,rfl,hs,hp⟩
     have:S = []:=List.perm_nil.1 hp
     subst this
     exact ⟨S1,S2,by simp,s1,s2,p1,p2⟩
  obtain ⟨d,hd,S1,S2,rfl,s1,s2,p1,p2⟩:=blocks
  have q1:=p1.length_eq
  have q2:=p2.length_eq
  cases oG:iter 2000 (kO fun data_3 a_4 b_5=>if (decide (b_5 ≤ (M.length:Int))) = true then (Option.bind (aV 2000 a_4 b_5 lv data_3) (fun x_8=>some (.inl (x_8,b_5,IntKind.i64.wrap (b_5 + 20))))) else (some (.inr (data_3,a_4)))) (M,0,20) with
  | none=>rw [oG] at hd; cases hd
  | some z=>
   obtain ⟨d0,a0⟩:=z
   rw [oG] at hd
   simp only [Option.bind_some,bK] at hd ⊢
   rw [hd]
   simp only [Option.bind_some]
   have hpm:(S1 ++ S2).Perm M:=by rw [e]; exact p1.append p2
   have okk:Ok2 lv S1 S2:=fun x hx y hy=>st3 x (p1.mem_iff.1 hx) y (p2.mem_iff.1 hy)
   have merge:M2 ≠ [] → ∀ b:Int,b = (M.length:Int) → ah (cQ 2000 0 20 b lv (S1 ++ S2)) fun S=>SK lv S ∧ S.Perm M:=fun hne b hb=>by
    have hn2:=List.length_pos_iff.2 hne
    refine (symM (F:=2000) (by omega) 2000 (A:=[]) (L1:=S1) (L2:=S2) (B:=[]) rfl (by simp; omega) (by omega) (fun h=>by subst h; simp at q1; omega) (fun h=>by subst h; simp at q2; omega) (by omega) (by omega) (by simp; omega) (by simp) s1 s2 (fun x hx=>in1 x (p1.mem_iff.1 hx)) (fun x hx=>in2 x (p2.mem_iff.1 hx)) okk).mono ?_
    rintro _ ⟨L,rfl,hs,hp⟩
    exact ⟨by simpa using hs,by simpa using hp.trans hpm⟩
   refine ah.bind (P:=fun S=>SK lv S ∧ S.Perm M) ?_ fun _ h=>ah.some h
   by_cases c3:M2 = []
   ·refine ah.rounds (n:=0) (I:=fun k z=>z = (S1 ++ S2,20)) (by omega) rfl ?_
    rintro k z _ rfl
    subst c3
    have:S2 = []:=List.perm_nil.1 p2
    subst this
    refine ah.iff (by simp at hel ⊢; omega) (ah.some (.inr ⟨_,rfl,by simpa using s1,hpm⟩))
   ·have hn2:=List.length_pos_iff.2 c3
    refine ah.rounds (n:=1) (I:=fun k z=>(k = 0 ∧ z = (S1 ++ S2,20)) ∨ (k = 1 ∧ z.2 = 40 ∧ SK lv z.1 ∧ z.1.Perm M)) (by omega) (.inl ⟨rfl,rfl⟩) ?_
    rintro k z hk (⟨rfl,rfl⟩ | ⟨rfl,hz,hs,hp⟩)
    ·refine ah.qi (by simp; omega) ?_
     refine ah.bind (P:=fun z=>(z = (S1 ++ S2,0) ∧ M.length < 40) ∨ (SK lv z.1 ∧ z.1.Perm M ∧ z.2 = 40 ∧ M.length = 40)) ?_ ?_
     ·refine ah.rounds (n:=1) (I:=fun k z=>(k = 0 ∧ z = (S1 ++ S2,0,40)) ∨ (k = 1 ∧ SK lv z.1 ∧ z.1.Perm M ∧ z.2.1 = 40 ∧ z.2.2 = 80 ∧ M.length = 40)) (by omega) (.inl ⟨rfl,by simp [IntKind.wrap,IntKind.signed,IntKind.bits]⟩) ?_
      rintro k z hk (⟨rfl,rfl⟩ | ⟨rfl,hs,hp,h40,h80,hM⟩)
      ·simp only [kO]
       refine ah.ite (fun hc=>?_) (fun hc=>?_)
       ·have hc:=of_decide_eq_true hc
        refine ah.lnE 20 (by simp [IntKind.wrap,IntKind.signed,IntKind.bits]) (ah.bind (merge c3 40 (by omega)) fun S hS=>ah.ln (ah.some (.inl ⟨_,rfl,.inr ⟨by trivial,hS.1,hS.2,rfl,by simp [IntKind.wrap,IntKind.signed,IntKind.bits],by omega⟩,by omega⟩)))
       ·have hc:=of_decide_eq_false hc
        exact ah.some (.inr ⟨_,rfl,.inl ⟨rfl,by omega⟩⟩)
      ·obtain ⟨d,x,y⟩:=z
       simp only at hs hp h40 h80
       subst h40 h80
       exact ah.iff (by simp; omega) (ah.some (.inr ⟨_,rfl,.inr ⟨hs,hp,rfl,hM⟩⟩))
     ·rintro ⟨d,x⟩ (⟨h,hM⟩ | ⟨hs,hp,h40,hM⟩)
      ·cases h
       simp only [bK]
       refine ah.bind (P:=fun S=>SK lv S ∧ S.Perm M) (ah.lnE 20 (by simp [IntKind.wrap,IntKind.signed,IntKind.bits]) (ah.qi (by simp; omega) (ah.bind (merge c3 _ rfl) fun S hS=>ah.some hS))) fun S hS=>ah.some (.inl ⟨_,rfl,.inr ⟨by trivial,by simp [IntKind.wrap,IntKind.signed,IntKind.bits],hS.1,hS.2⟩,by omega⟩)
      ·simp only at hs hp h40
       subst h40
       simp only [bK]
       refine ah.bind (P:=fun S=>SK lv S ∧ S.Perm M) (ah.lnE 60 (by simp [IntKind.wrap,IntKind.signed,IntKind.bits]) (ah.iff (by simp; omega) (ah.some ⟨hs,hp⟩))) fun S hS=>ah.some (.inl ⟨_,rfl,.inr ⟨by trivial,by simp [IntKind.wrap,IntKind.signed,IntKind.bits],hS.1,hS.2⟩,by omega⟩)
    ·obtain ⟨d,x⟩:=z
     simp only at hs hp hz
     subst hz
     exact ah.iff (by simp; omega) (ah.some (.inr ⟨_,rfl,hs,hp⟩))
theorem nu {fx:List Bool} {P:Int → Int → Prop} {Q:List (List Int)} (hp:Part P (Mv fx) Q):Q.length ≤ fx.length ∧ ∀ c ∈ Q,c.length ≤ fx.length:=by
 have hB:∀ a,Mv fx a → a ∈ (List.range fx.length).map fun i:Nat=>(i:Int):=fun a ⟨h0,h1,_⟩=>List.mem_map.2 ⟨a.toNat,List.mem_range.2 (by omega),by omega⟩
 have h1:=qm hp.toIsPt hB
 refine ⟨by simpa using h1,fun c hc=>?_⟩
 have:=rE hp.toIsPt hB hc
 simpa using this
def so (lv c:List Int):List Int:=c.mergeSort fun a b=>decide (KK lv a ≤ KK lv b)
theorem kC (lv c:List Int):(so lv c).Perm c:=List.mergeSort_perm _ _
theorem re {lv S c:List Int} (h:SK lv S) (hp:S.Perm c) (hin:sm lv c):S = so lv c:=by
 refine List.Perm.eq_of_pairwise (le:=fun a b=>KK lv a ≤ KK lv b) (fun a b ha hb h1 h2=>?_) (h.imp fun h=>Int.le_of_lt h) ?_ (hp.trans (kC lv c).symm)
 ·have a1:=hin a (hp.mem_iff.1 ha)
  have b1:=hin b ((kC lv c).mem_iff.1 hb)
  unfold KK at h1 h2
  omega
 ·exact (List.pairwise_mergeSort (le:=fun a b:Int=>decide (KK lv a ≤ KK lv b)) (fun a b c h1 h2=>by simp only [decide_eq_true_eq] at *; omega) (fun a b=>by simp only [Bool.or_eq_true,decide_eq_true_eq]; omega) c).imp fun h=>of_decide_eq_true h
theorem few2 (F:Nat) (fx:List Bool) (ls:List A2):∃ b,dG F fx ls = some b ∧ (b = true → (fx.length ≤ 40 ∨ (402 ≤ fx.length ∧ fx.length ≤ 408)) ∧ ls.length ≤ 60):=by
 refine ⟨_,rfl,fun h=>?_⟩
 simp only [Bool.and_eq_true,Bool.or_eq_true,decide_eq_true_eq] at h
 omega
def nj (lv:List Int) (sets:List (List Int)):List Int:=(sets.map (so lv)).flatten
theorem ou (lv:List Int) (sets:List (List Int)) (c:List Int):nj lv (sets ++ [c]) = nj lv sets ++ so lv c:=by simp [nj]
theorem nv (lv:List Int) (sets:List (List Int)):(nj lv sets).length = sets.flatten.length:=by
 unfold nj
 induction sets with
 | nil=>rfl
 | cons c s ih=>simp only [List.map_cons,List.flatten_cons,List.length_append,ih,(kC lv c).length_eq]
structure od (fx:List Bool) (lv c:List Int):Prop where
 asd:n5 c
 mv:∀ x ∈ c,Mv fx x
 ne:c ≠ []
theorem od.inr {fx:List Bool} {ls:List A2} {lv c:List Int} (hx:fx.length ≤ 401) (hl:Lv fx ls lv) (h:od fx lv c):sm lv c:=fun x hx'=>by
 obtain ⟨a,b,_⟩:=h.mv x hx'
 have:=hl.len
 omega
theorem od.stb {fx:List Bool} {lv c:List Int} (h:od fx lv c):Stb lv c:=by
 refine List.Pairwise.imp ?_ h.asd
 intro a b h _; exact h
theorem nz {fx:List Bool} {P:Int → Int → Prop} {Q:List (List Int)} (hp:Part P (Mv fx) Q):Q.flatten.length ≤ fx.length:=by
 refine nc ?_ fun a ha=>?_
 ·refine List.pairwise_flatten.2 ⟨fun c hc=>mN (hp.asd c hc).2,hp.dj.imp fun h=>?_⟩
  intro a ha b hb e
  exact h a ha (e ▸ hb)
 ·obtain ⟨c,hc,hac⟩:=List.mem_flatten.1 ha
  obtain ⟨h0,h1,_⟩:=(hp.dom a).2 ⟨c,hc,hac⟩
  exact ⟨h0,h1⟩
theorem oy {fx:List Bool} {ls:List A2} {lv:List Int} (h:fx.length + ls.length < 490) (hg:Gr fx ls) {c:List Int} (hc:c ∈ mg (l8 fx ls)):od fx lv c :=
 ⟨((iS h hg).asd c hc).2,fun x hx=>((iS h hg).dom x).2 ⟨c,hc,hx⟩,((iS h hg).asd c hc).1⟩
theorem lv_ex {fx:List Bool} {ls:List A2} (h:fx.length + ls.length < 490) (hg:Gr fx ls):∃ lv,Lv fx ls lv ∧ bQ 2000 fx ls = some (lv,0) ∧ bC 2000 fx ls = some lv:=by
 obtain ⟨⟨lv,e⟩,h1,h2⟩:=ox h
 obtain ⟨lv',h3,h4⟩:=tM h hg
 rcases h2 with ⟨_,he,hl⟩ | ⟨hn,_⟩
 ·simp only at he hl
  subst he
  exact ⟨lv,hl,h1,by rw [h3,Lv.uniq hg h4 hl]⟩
 ·exact absurd hg hn
theorem find_rr (F:Nat) (fx:List Bool) (ls:List A2):dL F fx ls = cP F fx ls:=rfl
theorem rT {fx:List Bool} {ls:List A2} {lv:List Int} (h:fx.length + ls.length < 490) (h40:fx.length ≤ 40) (hg:Gr fx ls) (hl:Lv fx ls lv) (he:bQ 2000 fx ls = some (lv,0)):cB 2000 fx ls = some (nj lv (mg (l8 fx ls)),0):=by
 refine ah.eq ?_
 unfold cB
 refine ah.a8 he (ah.iff (by simp) ?_)
 rw [find_rr]
 refine ah.a8 (by rw [nA h,if_pos hg]) ?_
 have hp:=iS h hg
 obtain ⟨q1,q2⟩:=nu hp
 have hfl:=nz hp
 simp only [bK]
 refine ah.bind (P:=(· = nj lv (mg (l8 fx ls)))) ?_ (by rintro _ rfl; exact ah.some rfl)
 refine ah.qX (fun pre out=>out = nj lv pre) (by omega) (by omega) rfl (fun pre c post out e hxi hI=>?_) fun out h=>h
 have hc:c ∈ mg (l8 fx ls):=by rw [e]; simp
 have hso:=oy (lv:=lv) h hg hc
 subst hI
 have hfl2:pre.flatten.length + c.length ≤ fx.length:=by
  rw [e] at hfl; simp only [List.flatten_append,List.flatten_cons,List.length_append] at hfl; omega
 refine ah.a8 hxi (ah.bind (rK (by have:=q2 c hc; omega) hso.stb (hso.inr hg.1 hl)) fun S hS=>?_)
 rw [re hS.1 hS.2 (hso.inr hg.1 hl)]
 refine ah.app (by rw [nv,(kC lv c).length_eq]; omega) (ah.some (.inl ⟨_,rfl,(ou lv pre c).symm⟩))
theorem sR {lv:List Int} {x:Int} (h0:0 ≤ idx lv x) (h1:idx lv x ≤ 1000000):kv lv x = idx lv x:=by unfold kv; rw [wu64]; omega
theorem sS {lv:List Int} {x:Int} (h:idx lv x = -1):kv lv x = 18446744073709551615:=by unfold kv; rw [wu64]; omega
theorem order1 {fx:List Bool} {ls:List A2} {lv c:List Int} {sets:List (List Int)} {i:Int} (hi:aE sets i = some c) (hg:Gr fx ls) (h40:fx.length ≤ 401) (hl:Lv fx ls lv) (hso:od fx lv c) (hcl:c.length ≤ 401) {out:List Int} (ho:out.length + c.length ≤ 1000000) :
  ah (iter 2000 (bK fun out_9 k_10=>dI (IntKind.i64.wrap ((fx.length:Int) + 1)) fun x_12=>if (decide (k_10 ≤ x_12)) = true then (Option.bind (Option.bind (if (decide ((fx.length:Int) < k_10)) = true then (some (-1)) else (some k_10)) (fun want_14=>Option.bind (iter 2000 (bK fun out_15 n_16=>Option.bind (aE sets i) (fun x_18=>if (decide (n_16 < (x_18.length:Int))) = true then (Option.bind (Option.bind (aE sets i) (fun x_20=>Option.bind (aE x_20 n_16) (fun x_21=>Option.bind (aE lv x_21) (fun x_22=>if (decide (x_22 = want_14)) = true then (Option.bind (aE sets i) (fun x_23=>Option.bind (aE x_23 n_16) (fun x_24=>Option.bind (dv out_15 [x_24]) (fun x_25=>some x_25)))) else (some out_15))))) (fun out_19=>some (.inl (out_19,IntKind.i64.wrap (n_16 + 1))))) else (some (.inr out_15)))) (out_9,0)) (fun out_17=>some out_17))) (fun out_13=>some (.inl (out_13,IntKind.i64.wrap (k_10 + 1))))) else (some (.inr out_9))) (out,1))
   (· = out ++ so lv c):=by
 have hlen:=hl.len
 have lev:∀ x ∈ c,0 ≤ x ∧ x < fx.length ∧ idx lv x ≠ 0 ∧ -1 ≤ idx lv x ∧ idx lv x < fx.length:=fun x hx=>by
  obtain ⟨a,b,d⟩:=hso.mv x hx
  refine ⟨a,b,fun h=>?_,hl.low x a b,sA hg hl.prev a b⟩
  have:=(hl.fix x a b).2 h
  rw [d] at this; cases this
 simp only [hi,Option.bind_some,dI]
 rw [cx (z:=(fx.length:Int) + 1) (by omega) (by omega)]
 have hb:∀ T:List Int,SK lv T → (∀ x,x ∈ T → x ∈ c) → T.length ≤ c.length:=fun T h1 h2=>mi (h1.imp fun h e=>by rw [e] at h; omega) h2
 refine ah.rounds (n:=fx.length + 1) (I:=fun k z=>z.2 = (k:Int) + 1 ∧ ∃ T,z.1 = out ++ T ∧ SK lv T ∧ ∀ x,x ∈ T ↔ x ∈ c ∧ (k = fx.length + 1 ∨ kv lv x ≤ k)) (by omega) ⟨rfl,[],by simp,by simp,fun x=>?_⟩ ?_
 ·constructor
  ·intro h; cases h
  ·rintro ⟨hx,h | h⟩
   ·omega
   ·obtain ⟨a,b,d,e,f⟩:=lev x hx
    by_cases c0:0 ≤ idx lv x
    ·rw [sR c0 (by omega)] at h; simp at h; omega
    ·rw [sS (by omega)] at h; simp at h
 rintro k ⟨o,K⟩ hk ⟨hK,T,hT,sT,mT⟩
 simp only at hK hT
 subst hK hT
 simp only [bK]
 have hTl:=hb T sT fun x hx=>((mT x).1 hx).1
 refine ah.ite (fun hc=>?_) (fun hc=>?_)
 ·have hc:=of_decide_eq_true hc
  have hkn:k ≤ fx.length:=by omega
  obtain ⟨want,hw,hw2⟩:∃ want:Int,(if (decide ((fx.length:Int) < (k:Int) + 1)) = true then (some (-1)) else (some ((k:Int) + 1))) = some want ∧ ((k = fx.length ∧ want = -1) ∨ (k < fx.length ∧ want = (k:Int) + 1)):=by
   by_cases e:k = fx.length
   ·exact ⟨-1,by rw [if_pos (by simp; omega)],.inl ⟨e,rfl⟩⟩
   ·exact ⟨(k:Int) + 1,by rw [if_neg (by simp; omega)],.inr ⟨by omega,rfl⟩⟩
  have hfl:∀ p:List Int,(p.filter fun x=>decide (idx lv x = want)).length ≤ p.length:=fun p=>List.length_filter_le _ _
  refine ah.bind (P:=(· = out ++ T ++ c.filter fun x=>decide (idx lv x = want))) (ah.a8 hw (ah.bind (P:=(· = out ++ T ++ c.filter fun x=>decide (idx lv x = want))) ?_ (by rintro _ rfl; exact ah.some rfl))) ?_
  ·refine ah.qX (fun pre o=>o = out ++ T ++ pre.filter fun x=>decide (idx lv x = want)) (by omega) (by omega) (by simp) (fun pre x post o e hxi hI=>?_) fun o h=>h
   have hxc:x ∈ c:=by rw [e]; simp
   obtain ⟨a,b,d,e',f⟩:=lev x hxc
   subst hI
   have hpl:pre.length < c.length:=by rw [e]; simp
   have:=hfl pre
   refine ah.bind (P:=(· = out ++ T ++ (pre ++ [x]).filter fun x=>decide (idx lv x = want))) ?_ (by rintro _ rfl; exact ah.some (.inl ⟨_,rfl,rfl⟩))
   refine ah.a8 hxi (ah.idx a (by omega) (ah.ite (fun hc=>?_) (fun hc=>?_)))
   ·refine ah.a8 hxi (ah.app (by simp only [List.length_append,List.length_singleton]; omega) (ah.some ?_))
    have hc:=of_decide_eq_true hc
    simp [List.filter_append,hc]
   ·refine ah.some ?_
    have hc:=of_decide_eq_false hc
    simp [List.filter_append,hc]
  ·rintro _ rfl
   have hkw:∀ x ∈ c,idx lv x = want ↔ (k = fx.length ∧ (fx.length:Int) < kv lv x) ∨ (k < fx.length ∧ kv lv x = (k:Int) + 1):=fun x hx=>by
    obtain ⟨a,b,d,e',f⟩:=lev x hx
    by_cases c0:0 ≤ idx lv x
    ·rw [sR c0 (by omega)]; omega
    ·rw [sS (by omega)]; omega
   refine ah.some (.inl ⟨_,rfl,⟨?_,T ++ c.filter fun x=>decide (idx lv x = want),by simp,?_,fun x=>?_⟩,by omega⟩)
   ·simp only; rw [cx (by omega) (by omega)]; push_cast; rfl
   ·refine List.pairwise_append.2 ⟨sT,?_,fun x hx y hy=>?_⟩
    ·refine List.Pairwise.imp_of_mem (fun {x y} hx hy hxy=>?_) (hso.asd.filter fun x=>decide (idx lv x = want))
     have ex:=of_decide_eq_true (List.mem_filter.1 hx).2
     have ey:=of_decide_eq_true (List.mem_filter.1 hy).2
     have:kv lv x = kv lv y:=by unfold kv; rw [ex,ey]
     unfold KK; omega
    ·obtain ⟨hxc,hx'⟩:=(mT x).1 hx
     obtain ⟨hyc,hy'⟩:=List.mem_filter.1 hy
     have:=(hkw y hyc).1 (of_decide_eq_true hy')
     obtain ⟨a,b,_⟩:=lev x hxc
     obtain ⟨a',b',_⟩:=lev y hyc
     unfold KK
     omega
   ·rw [List.mem_append,mT x,List.mem_filter,decide_eq_true_eq]
    constructor
    ·rintro (⟨h1,h2⟩ | ⟨h1,h2⟩)
     ·exact ⟨h1,by push_cast; omega⟩
     ·have:=(hkw x h1).1 h2
      exact ⟨h1,by push_cast; omega⟩
    ·rintro ⟨h1,h2⟩
     have:=hkw x h1
     push_cast at h2
     by_cases e:kv lv x ≤ k
     ·exact .inl ⟨h1,.inr e⟩
     ·exact .inr ⟨h1,this.2 (by omega)⟩
 ·have hc:=of_decide_eq_false hc
  refine ah.some (.inr ⟨_,rfl,?_⟩)
  have hk':k = fx.length + 1:=by omega
  rw [re sT ((List.perm_ext_iff_of_nodup (sT.imp fun h e=>by rw [e] at h; omega) (mN hso.asd)).2 fun x=>by rw [mT x]; simp [hk']) (hso.inr h40 hl)]
open Classical in
theorem rS {fx:List Bool} {ls:List A2} {lv:List Int} (h:fx.length + ls.length < 490) (hg:Gr fx ls) (hl:Lv fx ls lv) (he:bC 2000 fx ls = some lv):bT 2000 fx ls = some ⟨nj lv (mg (l8 fx ls)),0⟩:=by
 refine ah.eq ?_
 unfold bT
 refine ah.bind (m8 (by omega) (by omega)) fun r hr=>?_
 have:r = true:=hr.2 hg
 subst this
 refine ah.iff rfl (ah.a8 (sC h hg) (ah.a8 he ?_))
 have hp:=iS h hg
 obtain ⟨q1,q2⟩:=nu hp
 have hfl:=nz hp
 have hx:=hg.1
 refine ah.bind (P:=(· = nj lv (mg (l8 fx ls)))) ?_ (by rintro _ rfl; exact ah.some rfl)
 refine ah.qX (fun pre out=>out = nj lv pre) (by omega) (by omega) rfl (fun pre c post out e hxi hI=>?_) fun out h=>h
 have hc:c ∈ mg (l8 fx ls):=by rw [e]; simp
 subst hI
 have hfl2:pre.flatten.length + c.length ≤ fx.length:=by
  rw [e] at hfl; simp only [List.flatten_append,List.flatten_cons,List.length_append] at hfl; omega
 refine ah.bind (ah.bind (order1 hxi hg hg.1 hl (oy h hg hc) (by omega) (by rw [nv]; omega)) fun o ho=>ah.some ho) ?_
 rintro _ rfl
 exact ah.some (.inl ⟨_,rfl,(ou lv pre c).symm⟩)
theorem qN {fx:List Bool} {ls:List A2} (h:fx.length + ls.length < 490) (hg:¬ Gr fx ls):bQ 2000 fx ls = some ([],1) ∧ bP 2000 fx ls = some ⟨[],1⟩ ∧ cB 2000 fx ls = some ([],1) ∧ bT 2000 fx ls = some ⟨[],1⟩:=by
 have h1:bQ 2000 fx ls = some ([],1):=by
  obtain ⟨z,hz,h2⟩:=ox h
  rcases h2 with ⟨h3,_⟩ | ⟨_,rfl⟩
  ·exact absurd h3 hg
  ·exact hz
 have hv:bG 2000 fx ls = some false:=by
  obtain ⟨r,e,hr⟩:=m8 (F:=2000) (fx:=fx) (ls:=ls) (by omega) (by omega)
  rw [e]
  cases r with
  | true=>exact absurd (hr.1 rfl) hg
  | false=>rfl
 refine ⟨h1,?_,?_,?_⟩
 ·unfold bP; rw [hv]; rfl
 ·unfold cB; rw [h1]; rfl
 ·unfold bT; rw [hv]; rfl
theorem se (fx:List Bool) (ls:List A2):bD 2000 fx ls = some true:=by
 refine ah.eq ?_
 unfold bD
 obtain ⟨b,hb,hfew⟩:=few2 2000 fx ls
 refine ah.a8 hb (ah.ite (fun hc=>ah.a8 my (ah.some rfl)) (fun hc=>?_))
 obtain ⟨hfx,hls⟩:=hfew (by simpa using hc)
 have hs:fx.length + ls.length < 490:=by omega
 by_cases hg:Gr fx ls
 ·have h40:fx.length ≤ 40:=by have:=hg.1; omega
  obtain ⟨lv,hl,e1,e2⟩:=lv_ex hs hg
  have hp:=iS hs hg
  obtain ⟨q1,q2⟩:=nu hp
  have hfl:=nz hp
  have hlr:bP 2000 fx ls = some ⟨lv,0⟩:=by
   obtain ⟨r,e,hr⟩:=m8 (F:=2000) (fx:=fx) (ls:=ls) (by omega) (by omega)
   unfold bP; rw [e,hr.2 hg,e2]; rfl
  refine ah.a8 (by rw [nA hs,if_pos hg]) ?_
  refine ah.a8 e1 (ah.a8 (rT hs h40 hg hl e1) (ah.a8 (by rw [pW hs,if_pos hg]) (ah.a8 hlr (ah.a8 (rS hs hg hl e2) (ah.a8 my ?_)))))
  refine ah.g1 rfl (ah.a8 (rf (l:=mg (l8 fx ls)) (by omega) fun c hc=>by have:=q2 c hc; omega) (ah.g1 rfl (ah.a8 (lE (by rw [hl.len]; omega)) (ah.ln (ah.g1 rfl (ah.a8 (lE (by rw [nv]; omega)) (ah.some rfl)))))))
 ·obtain ⟨b1,b2,b3,b4⟩:=qN hs hg
  refine ah.a8 (by rw [nA hs,if_neg hg]) ?_
  refine ah.a8 b1 (ah.a8 b3 (ah.a8 (by rw [pW hs,if_neg hg]) (ah.a8 b2 (ah.a8 b4 (ah.a8 my ?_)))))
  refine ah.g1 rfl (ah.a8 (rf (by simp) (by simp)) (ah.g1 rfl (ah.a8 (lE (by simp)) (ah.ln (ah.g1 rfl (ah.a8 (lE (by simp)) (ah.some rfl)))))))
end Go.Proofs.Ytgojigdbelkgoaa
namespace Go.Proofs.Ytgojigdbelkgoaa
open Go Go.Sk
theorem sf (x0:List Bool) (x1:List A2):av Try.prog [] 3 [] [.one (.sl 1 (x0.map eB)),.one (.sl 2 (x1.map (bW .i64)))] (Is [] (.b (.one (.bool true)))) :=
 dV (se x0 x1)
end Go.Proofs.Ytgojigdbelkgoaa
