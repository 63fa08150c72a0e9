/- the plain law -/
import Derived.Test.YtgojigdbelkgoaaW2
namespace Go.Proofs.Ytgojigdbelkgoaa
open Go Go.Sk
set_option maxRecDepth 100000
set_option linter.unusedVariables false
set_option linter.unusedSimpArgs false
def qy (x:Int):List Int → List Int
 | []=>[x]
 | y :: l=>if x ≤ y then x :: y :: l else y :: qy x l
def oz:List Int → List Int
 | []=>[]
 | x :: l=>qy x (oz l)
theorem mV (x:Int):∀ l:List Int,(qy x l).Perm (x :: l)
 | []=>.refl _
 | y :: l=>by
  unfold qy
  split
  ·exact .refl _
  ·exact .trans (.cons y (mV x l)) (.swap x y l)
theorem n4:∀ l:List Int,(oz l).Perm l
 | []=>.refl _
 | x :: l=>(mV x (oz l)).trans (.cons x (n4 l))
theorem rG (x:Int):∀ l:List Int,l.Pairwise (· ≤ ·) → (qy x l).Pairwise (· ≤ ·)
 | [],_=>by simp [qy]
 | y :: l,h=>by
  unfold qy
  have h1:=List.pairwise_cons.1 h
  split
  ·next hc=>
   refine List.pairwise_cons.2 ⟨fun z hz=>?_,h⟩
   rcases List.mem_cons.1 hz with rfl | hz
   ·exact hc
   ·exact Int.le_trans hc (h1.1 z hz)
  ·next hc=>
   refine List.pairwise_cons.2 ⟨fun z hz=>?_,rG x l h1.2⟩
   rcases List.mem_cons.1 ((mV x l).mem_iff.1 hz) with rfl | hz
   ·omega
   ·exact h1.1 z hz
theorem p4:∀ l:List Int,(oz l).Pairwise (· ≤ ·)
 | []=>.nil
 | x :: l=>rG x _ (p4 l)
theorem sorted_perm (l:List Int):(sorted l).Perm l:=List.mergeSort_perm _ _
theorem rV (l:List Int):(sorted l).Pairwise (· ≤ ·) :=
 (List.pairwise_mergeSort (le:=fun x y:Int=>decide (x ≤ y)) (fun a b c h1 h2=>by simp only [decide_eq_true_eq] at *; omega) (fun a b=>by simp only [Bool.or_eq_true,decide_eq_true_eq]; omega) l).imp fun h=>of_decide_eq_true h
theorem rW (l:List Int):sorted l = oz l :=
 List.Perm.eq_of_pairwise (fun a b _ _ h1 h2=>Int.le_antisymm h1 h2) (rV l) (p4 l) ((sorted_perm l).trans (n4 l).symm)
def sort2 (F:Nat) (zs:List Int):Option (List Int):=if zs.length < 1000000000 then some (oz zs) else none
theorem sort_eq:cz = sort2:=by
 funext F zs
 unfold cz iF sort2
 rw [rW]
theorem mK:bJ 2000 = some true:=by
 unfold bJ fK bX cP dA fJ cr eH bB cQ
 rw [sort_eq]
 decide +kernel
end Go.Proofs.Ytgojigdbelkgoaa
namespace Go.Proofs.Ytgojigdbelkgoaa
open Go Go.Sk
set_option linter.unusedVariables false
set_option linter.unusedSimpArgs false
section
variable {F:Nat} (hF:F ≤ 1000000000)
include hF
theorem sF {l:List Int} {n:Int} (hl:l.length < F):b8 F l n = some (decide (n ∈ l)):=by
 refine ak.eq ?_
 unfold b8
 refine ak.bind (P:=fun o:Unit ⊕ Bool=>(o = .inl () ∧ ¬ n ∈ l) ∨ (o = .inr true ∧ n ∈ l)) ?_ ?_
 ·refine ak.find (c:=fun x=>decide (x = n)) (r:=fun _=>true) hl (by omega) (fun h=>.inl ⟨rfl,fun hm=>by have:=h n hm; simp at this⟩) (fun pre x post e _ hc=>.inr ⟨rfl,by rw [e,← of_decide_eq_true hc]; simp⟩) fun i x hx=>by rw [hx]; rfl
 ·rintro o (⟨rfl,h⟩ | ⟨rfl,h⟩)
  ·exact ak.some (by simp [h])
  ·exact ak.some (by simp [h])
theorem with35 {l:List Int} {n:Int} (hl:l.length < F) (hs:mn l):ak (dy F l n) fun o=>mn o ∧ ∀ z,z ∈ o ↔ z = n ∨ z ∈ l:=by
 unfold dy
 refine ak.bA (sF hF hl) (ak.ite (fun h=>ak.some ⟨hs,fun z=>⟨.inr,?_⟩⟩) fun h=>?_)
 ·have h:=of_decide_eq_true h
  rintro (rfl | h')
  ·exact h
  ·exact h'
 have hn:n ∉ l:=of_decide_eq_false h
 refine ak.bind (P:=fun o:List Int × Bool=>iQ (fun x:Int=>x) n l o.1 o.2) ?_ ?_
 ·refine ak.ea3 (I:=fun pre out p=>iQ (fun x:Int=>x) n pre out p ∧ out.length ≤ pre.length + 1) hl (by omega) ⟨iQ.zero,by simp⟩ ?_ fun a b h=>h.1
  rintro pre x post out p e hx ⟨hI,hlen⟩
  have hlt:∀ a ∈ pre,a < x:=fun a ha=>(List.pairwise_append.1 (e ▸ hs)).2.2 a ha x (List.mem_cons_self ..)
  have hxn:x ≠ n:=fun e'=>hn (by rw [e,← e']; simp)
  have hpl:pre.length < l.length:=by rw [e]; simp
  refine ak.bind (P:=fun z:List Int × Bool=>iQ (fun x:Int=>x) n (pre ++ [x]) z.1 z.2 ∧ z.1.length ≤ pre.length + 2) ?_ fun z hz=>ak.some (.inl ⟨_,_,rfl,hz.1,by simpa using hz.2⟩)
  refine ak.bind (P:=fun z:List Int × Bool=>iQ (fun x:Int=>x) n (pre ++ [x]) (z.1 ++ [x]) z.2 ∧ z.1.length ≤ pre.length + 1) ?_ ?_
  ·cases p with
   | true=>exact ak.g0 rfl (ak.iff rfl (ak.some ⟨hI.next (.inl rfl) hxn hlt,hlen⟩))
   | false=>
    refine ak.g1 rfl (ak.bA hx (ak.ite (fun hc=>?_) fun hc=>?_))
    ·have hc:n < x:=by simpa using hc
     obtain ⟨A,B,h1,_,_,h | h⟩:=id hI
     ·refine ak.app (by simp only [List.length_singleton]; omega) (ak.some ⟨hI.put hc,?_⟩)
      obtain ⟨_,rfl,rfl⟩:=h
      simp [h1]
     ·exact absurd h.1 (by simp)
    ·have hc:¬ n < x:=by simpa using hc
     exact ak.some ⟨hI.next (.inr (by omega)) hxn hlt,hlen⟩
  ·rintro ⟨o,p'⟩ ⟨h1,h2⟩
   simp only at h1 h2
   exact ak.bA hx (ak.app (by simp only [List.length_singleton]; omega) (ak.some ⟨h1,by simp; omega⟩))
 ·rintro ⟨o,p⟩ hI
  obtain ⟨h1,h2⟩:=hI.fin hs
  simp only at h1 h2 ⊢
  refine ak.bind (P:=(· = if (!p) = true then o ++ [n] else o)) ?_ fun z hz=>ak.some ?_
  ·obtain ⟨A,B,h3,_,_,h | h⟩:=hI
   ·obtain ⟨rfl,rfl,h4⟩:=h
    simp only at h4
    refine ak.ift rfl (ak.app (by rw [h4]; simp only [List.length_singleton]; simp at h3; rw [← h3]; omega) (ak.some rfl))
   ·obtain ⟨rfl,_,_⟩:=h
    exact ak.iff rfl (ak.some rfl)
  ·rw [hz]
   refine ⟨h1,fun z=>?_⟩
   rw [h2.mem_iff,List.mem_cons]
theorem rh {a b B:List Int} (hb:b.length < F) (hs:mn a) (hB:B.length < F) (hsub:∀ z,(z ∈ a ∨ z ∈ b) → z ∈ B):ak (dk F a b) fun o=>mn o ∧ ∀ z,z ∈ o ↔ z ∈ a ∨ z ∈ b:=by
 unfold dk
 refine ak.bind ?_ (fun o ho=>ak.some ho)
 refine ak.ea2 (I:=fun pre o=>mn o ∧ ∀ z,z ∈ o ↔ z ∈ a ∨ z ∈ pre) hb (by omega) ⟨hs,by simp⟩ ?_ fun s h=>h
 rintro pre x post o e hx ⟨h1,h2⟩
 have hol:o.length < F:=by
  have:o.length ≤ B.length:=px h1 fun z hz=>hsub z (((h2 z).1 hz).imp_right fun h=>by rw [e]; simp [h])
  omega
 refine ak.bA hx (ak.bind (with35 hF hol h1) fun o' ho'=>ak.some (.inl ⟨_,rfl,ho'.1,fun z=>?_⟩))
 rw [ho'.2,h2,List.mem_append,List.mem_singleton]
 constructor
 ·rintro (h | h | h)
  ·exact .inr (.inr h)
  ·exact .inl h
  ·exact .inr (.inl h)
 ·rintro (h | h | h)
  ·exact .inr (.inl h)
  ·exact .inr (.inr h)
  ·exact .inl h
theorem meets35 {a b:List Int} (ha:a.length < F) (hb:b.length < F):dZ F a b = some (a.any fun u=>b.contains u):=by
 refine ak.eq ?_
 unfold dZ
 refine ak.bind (P:=fun o:Unit ⊕ Bool=>(o = .inl () ∧ ∀ x ∈ a,b.contains x = false) ∨ (o = .inr true ∧ ∃ x ∈ a,b.contains x = true)) ?_ ?_
 ·refine ak.find (c:=fun x=>b.contains x) (r:=fun _=>true) ha (by omega) (fun h=>.inl ⟨rfl,h⟩) (fun pre x post e _ hc=>.inr ⟨rfl,x,by rw [e]; simp,hc⟩) fun i x hx=>by
   rw [hx,Option.bind_some,sF hF hb,List.contains_eq_mem]; rfl
 ·rintro o (⟨rfl,h⟩ | ⟨rfl,h⟩)
  ·refine ak.some (Eq.symm ?_)
   rw [List.any_eq_false]; intro x hx; rw [h x hx]; simp
  ·exact ak.some (Eq.symm (List.any_eq_true.2 h))
theorem put35 {l:List (List Int)} {x:List Int} (hl:l.length < F) (hn:∀ c ∈ l,c ≠ []) (hx:x ≠ []) (hs:HdL l) (hd':∀ c ∈ l,hd c ≠ hd x):ak (eQ F l x) fun o=>HdL o ∧ o.Perm (x :: l):=by
 unfold eQ
 have h0:∀ c:List Int,c ≠ [] → aE c 0 = some (hd c):=fun c hc=>by
  cases c with
  | nil=>exact absurd rfl hc
  | cons a c=>exact idx?_at [] c a
 refine ak.bind (P:=fun o:List (List Int) × Bool=>iQ hd x l o.1 o.2) ?_ ?_
 ·refine ak.ea3 (I:=fun pre out p=>iQ hd x pre out p ∧ out.length ≤ pre.length + 1) hl (by omega) ⟨iQ.zero,by simp⟩ ?_ fun a b h=>h.1
  rintro pre y post out p e hy ⟨hI,hlen⟩
  have hlt:∀ a ∈ pre,hd a < hd y:=fun a ha=>(List.pairwise_append.1 (e ▸ hs)).2.2 a ha y (List.mem_cons_self ..)
  have hym:y ∈ l:=by rw [e]; simp
  have hpl:pre.length < l.length:=by rw [e]; simp
  refine ak.bind (P:=fun z:List (List Int) × Bool=>iQ hd x (pre ++ [y]) z.1 z.2 ∧ z.1.length ≤ pre.length + 2) ?_ fun z hz=>ak.some (.inl ⟨_,_,rfl,hz.1,by simpa using hz.2⟩)
  refine ak.bind (P:=fun z:List (List Int) × Bool=>iQ hd x (pre ++ [y]) (z.1 ++ [y]) z.2 ∧ z.1.length ≤ pre.length + 1) ?_ ?_
  ·cases p with
   | true=>exact ak.g0 rfl (ak.g0 rfl (ak.g0 rfl (ak.iff rfl (ak.some ⟨hI.next (.inl rfl) (hd' y hym) hlt,hlen⟩))))
   | false=>
    refine ak.g1 rfl (ak.bA hy (ak.g1 rfl (ak.bA (h0 y (hn y hym)) (ak.g1 rfl (ak.bA (h0 x hx) (ak.ite (fun hc=>?_) fun hc=>?_))))))
    ·have hc:hd x < hd y:=by simpa using hc
     obtain ⟨A,B,h1,_,_,h | h⟩:=id hI
     ·refine ak.app (by simp only [List.length_singleton]; omega) (ak.some ⟨hI.put hc,?_⟩)
      obtain ⟨_,rfl,rfl⟩:=h
      simp [h1]
     ·exact absurd h.1 (by simp)
    ·have hc:¬ hd x < hd y:=by simpa using hc
     exact ak.some ⟨hI.next (.inr (by omega)) (hd' y hym) hlt,hlen⟩
  ·rintro ⟨o,p'⟩ ⟨h1,h2⟩
   simp only at h1 h2
   exact ak.bA hy (ak.app (by simp only [List.length_singleton]; omega) (ak.some ⟨h1,by simp; omega⟩))
 ·rintro ⟨o,p⟩ hI
  obtain ⟨h1,h2⟩:=hI.fin hs
  simp only at h1 h2 ⊢
  refine ak.bind (P:=(· = if (!p) = true then o ++ [x] else o)) ?_ fun z hz=>ak.some ?_
  ·obtain ⟨A,B,h3,_,_,h | h⟩:=hI
   ·obtain ⟨rfl,rfl,h4⟩:=h
    simp only at h4
    refine ak.ift rfl (ak.app (by rw [h4]; simp only [List.length_singleton]; simp at h3; rw [← h3]; omega) (ak.some rfl))
   ·obtain ⟨rfl,_,_⟩:=h
    exact ak.iff rfl (ak.some rfl)
  ·rw [hz]
   exact ⟨h1,h2⟩
end
def pr (L:List (List Int)) (a b:Int):Prop:=∃ c ∈ L,a ∈ c ∧ b ∈ c
def dm (L:List (List Int)) (a:Int):Prop:=∃ c ∈ L,a ∈ c
theorem pr_dm {L:List (List Int)} (a b:Int) (h:pr L a b):dm L a ∧ dm L b:=by
 obtain ⟨c,hc,h1,h2⟩:=h; exact ⟨⟨c,hc,h1⟩,c,hc,h2⟩
theorem pq {L:List (List Int)} (a:Int):dm L a ↔ a ∈ L.flatten:=by
 unfold dm; rw [List.mem_flatten]
theorem rP {P D:_} {s:List (List Int)} {B:List Int} (h:IsPt P D s) (hB:∀ a,D a → a ∈ B) {c:List Int} (hc:c ∈ s):c.length ≤ B.length :=
 px (h.asd c hc).2 fun a ha=>hB a ((h.dom a).2 ⟨c,hc,ha⟩)
theorem qA {P D:_} {s:List (List Int)} {B:List Int} (h:IsPt P D s) (hB:∀ a,D a → a ∈ B):s.length ≤ B.length:=by
 have:(s.map hd).Nodup:=List.pairwise_map.2 (List.Pairwise.imp_of_mem (fun {c d} hc hd' h' e=>h' _ (gW (h.asd c hc).1) (e ▸ gW (h.asd d hd').1)) h.dj)
 have h2:=my (m:=B) this fun a ha=>by
  obtain ⟨c,hc,rfl⟩:=List.mem_map.1 ha
  exact hB _ ((h.dom _).2 ⟨c,hc,gW (h.asd c hc).1⟩)
 simpa using h2
theorem merge35 {F:Nat} (hF:F ≤ 100000000) {L:List (List Int)} (hl:L.length < F) (hB:L.flatten.length < F):ak (cL F L) (Part (pr L) (dm L)):=by
 have hF':F ≤ 1000000000:=by omega
 unfold cL
 refine ak.bind (P:=fun s=>IsPt (pr L) (dm L) s) ?_ ?_
 ·refine ak.ea2 (I:=fun pre s=>IsPt (pr pre) (dm pre) s) hl (by omega) ⟨by simp,by simp,by simp [dm],by simp,by simp⟩ ?_ fun s h=>h
  rintro pre x0 post s e hx hI
  refine ak.bind (P:=fun s'=>IsPt (pr (pre ++ [x0])) (dm (pre ++ [x0])) s') ?_ fun s' h=>ak.some (.inl ⟨_,rfl,h⟩)
  have hx0:∀ z ∈ x0,z ∈ L.flatten:=fun z hz=>(pq z).1 ⟨x0,by rw [e]; simp,hz⟩
  have hpre:∀ z,dm pre z → z ∈ L.flatten:=fun z ⟨c,hc,hz⟩=>(pq z).1 ⟨c,by rw [e]; simp [hc],hz⟩
  have hx0l:x0.length < F:=by
   have:x0.length ≤ L.flatten.length:=by rw [e]; simp; omega
   omega
  have hsl:s.length < F:=by have:=qA hI hpre; omega
  refine ak.bA hx (ak.bind (rh hF' (B:=L.flatten) hx0l List.Pairwise.nil hB (by simpa using hx0)) ?_)
  rintro x ⟨hxa,hxm⟩
  simp only [List.not_mem_nil,false_or] at hxm
  refine ak.ite (fun hc=>ak.some ?_) fun hc=>?_
  ·have:x0 = []:=by
    have hc:=of_decide_eq_true hc
    have hx':x = []:=List.length_eq_zero_iff.1 (by omega)
    cases x0 with
    | nil=>rfl
    | cons a x0=>have:=(hxm a).2 (List.mem_cons_self ..); rw [hx'] at this; cases this
   subst this
   refine hI.congr (dN.congr (fun a b ⟨c,hc,h⟩=>.of ⟨c,by simp [hc],h⟩) fun a b ⟨c,hc,h⟩=>.of ⟨c,?_,h⟩) fun a=>⟨fun ⟨c,hc,h⟩=>⟨c,by simp [hc],h⟩,fun ⟨c,hc,h⟩=>⟨c,?_,h⟩⟩
   ·rcases List.mem_append.1 hc with hc | hc
    ·exact hc
    ·rw [List.mem_singleton.1 hc] at h; exact absurd h.1 (by simp)
   ·rcases List.mem_append.1 hc with hc | hc
    ·exact hc
    ·rw [List.mem_singleton.1 hc] at h; exact absurd h (by simp)
  ·have hxne:x ≠ []:=by
    rintro rfl; simp at hc
   refine ak.bind (P:=fun o:List Int × List (List Int)=>mn o.1 ∧ (∀ z,z ∈ o.1 ↔ z ∈ x ∨ ∃ c ∈ s,(∃ u ∈ c,u ∈ x) ∧ z ∈ c) ∧ o.2 = s.filter fun c=>!(c.any fun u=>x.contains u)) ?_ ?_
   ·refine ak.ea3 (I:=fun q y rest=>mn y ∧ (∀ z,z ∈ y ↔ z ∈ x ∨ ∃ c ∈ q,(∃ u ∈ c,u ∈ x) ∧ z ∈ c) ∧ rest = q.filter fun c=>!(c.any fun u=>x.contains u)) hsl (by omega) ⟨hxa,by simp,rfl⟩ ?_ fun a b h=>h
    rintro q c post' y rest e' hc' ⟨h1,h2,h3⟩
    have hcs:c ∈ s:=by rw [e']; simp
    have hq:∀ d ∈ q,d ∈ s:=fun d hd=>by rw [e']; simp [hd]
    have hdj:∀ d ∈ q,∀ z ∈ d,z ∉ c:=fun d hd=>(List.pairwise_append.1 (e' ▸ hI.dj)).2.2 d hd c (List.mem_cons_self ..)
    have hcl:c.length < F:=by have:=rP hI hpre hcs; omega
    have hyB:∀ z ∈ y,z ∈ L.flatten:=fun z hz=>by
     rcases (h2 z).1 hz with hz | ⟨d,hd,_,hz⟩
     ·exact hx0 z ((hxm z).1 hz)
     ·exact hpre z ((hI.dom z).2 ⟨d,hq d hd,hz⟩)
    have hyl:y.length < F:=by have:=px h1 hyB; omega
    have hmt:(c.any fun u=>y.contains u) = c.any fun u=>x.contains u:=by
     rw [Bool.eq_iff_iff,List.any_eq_true,List.any_eq_true]
     simp only [List.contains_eq_mem,decide_eq_true_eq]
     constructor
     ·rintro ⟨u,hu,huy⟩
      rcases (h2 u).1 huy with h | ⟨d,hd,_,hud⟩
      ·exact ⟨u,hu,h⟩
      ·exact absurd hu (hdj d hd u hud)
     ·rintro ⟨u,hu,hux⟩; exact ⟨u,hu,(h2 u).2 (.inl hux)⟩
    refine ak.bind (P:=fun o:List Int × List (List Int)=>mn o.1 ∧ (∀ z,z ∈ o.1 ↔ z ∈ x ∨ ∃ d ∈ q ++ [c],(∃ u ∈ d,u ∈ x) ∧ z ∈ d) ∧ o.2 = (q ++ [c]).filter fun c=>!(c.any fun u=>x.contains u)) ?_ fun o ho=>ak.some (.inl ⟨_,_,rfl,ho⟩)
    refine ak.bA hc' (ak.bA (meets35 hF' hcl hyl) ?_)
    rw [hmt]
    refine ak.ite (fun hm=>?_) fun hm=>?_
    ·have hm':∃ u ∈ c,u ∈ x:=by simpa using hm
     refine ak.bA hc' (ak.bind (rh hF' hcl h1 hB (B:=L.flatten) ?_) fun y' hy'=>ak.some ⟨hy'.1,fun z=>?_,?_⟩)
     ·rintro z (hz | hz)
      ·exact hyB z hz
      ·exact hpre z ((hI.dom z).2 ⟨c,hcs,hz⟩)
     ·rw [hy'.2,h2]
      constructor
      ·rintro ((h | ⟨d,hd,h⟩) | h)
       ·exact .inl h
       ·exact .inr ⟨d,by simp [hd],h⟩
       ·exact .inr ⟨c,by simp,hm',h⟩
      ·rintro (h | ⟨d,hd,h⟩)
       ·exact .inl (.inl h)
       ·rcases List.mem_append.1 hd with hd | hd
        ·exact .inl (.inr ⟨d,hd,h⟩)
        ·rw [List.mem_singleton.1 hd] at h; exact .inr h.2
     ·rw [h3,List.filter_append]
      simp only [List.filter_cons,List.filter_nil,hm]
      simp
    ·have hm':¬ ∃ u ∈ c,u ∈ x:=by simpa using hm
     have hrl:rest.length ≤ s.length:=by
      rw [h3]; refine Nat.le_trans (List.length_filter_le _ _) ?_
      rw [e']; simp
     refine ak.bA hc' (ak.app (by simp only [List.length_singleton]; omega) (ak.some ⟨h1,fun z=>?_,?_⟩))
     ·rw [h2]
      constructor
      ·rintro (h | ⟨d,hd,h⟩)
       ·exact .inl h
       ·exact .inr ⟨d,by simp [hd],h⟩
      ·rintro (h | ⟨d,hd,h⟩)
       ·exact .inl h
       ·rcases List.mem_append.1 hd with hd | hd
        ·exact .inr ⟨d,hd,h⟩
        ·rw [List.mem_singleton.1 hd] at h; exact absurd h.1 hm'
     ·rw [h3,List.filter_append]
      simp only [List.filter_cons,List.filter_nil,hm]
      simp
   ·rintro ⟨y,rest⟩ ⟨h1,h2,h3⟩
    simp only at h1 h2 h3
    have hrl:rest.length ≤ s.length:=by rw [h3]; exact List.length_filter_le _ _
    refine ak.app (by simp only [List.length_singleton]; omega) (ak.some ?_)
    refine hI.add (x:=x) pr_dm hxne h1 h2 (fun a b=>?_) (fun a=>?_) h3
    ·unfold pr
     simp only [List.mem_append,List.mem_singleton]
     constructor
     ·rintro ⟨c,hc | rfl,h⟩
      ·exact .inl ⟨c,hc,h⟩
      ·exact .inr ⟨(hxm a).2 h.1,(hxm b).2 h.2⟩
     ·rintro (⟨c,hc,h⟩ | ⟨h,h'⟩)
      ·exact ⟨c,.inl hc,h⟩
      ·exact ⟨x0,.inr rfl,(hxm a).1 h,(hxm b).1 h'⟩
    ·unfold dm
     simp only [List.mem_append,List.mem_singleton]
     constructor
     ·rintro ⟨c,hc | rfl,h⟩
      ·exact .inl ⟨c,hc,h⟩
      ·exact .inr ((hxm a).2 h)
     ·rintro (⟨c,hc,h⟩ | h)
      ·exact ⟨c,.inl hc,h⟩
      ·exact ⟨x0,.inr rfl,(hxm a).1 h⟩
 ·intro s hs
  have hsl:s.length < F:=by have:=qA hs (fun a=>(pq a).1); omega
  refine ak.bind ?_ (fun o ho=>ak.some ho)
  refine ak.ea2 (I:=fun q o=>HdL o ∧ o.Perm q) hsl (by omega) ⟨List.Pairwise.nil,.refl _⟩ ?_ ?_
  ·rintro q c post o e hc ⟨h1,h2⟩
   have hcs:c ∈ s:=by rw [e]; simp
   have hq:∀ d ∈ q,d ∈ s:=fun d hd=>by rw [e]; simp [hd]
   have hol:o.length < F:=by
    rw [h2.length_eq]
    have:q.length < s.length:=by rw [e]; simp
    omega
   have hdj:∀ d ∈ q,∀ z ∈ d,z ∉ c:=fun d hd=>(List.pairwise_append.1 (e ▸ hs.dj)).2.2 d hd c (List.mem_cons_self ..)
   refine ak.bA hc (ak.bind (put35 hF' hol (fun d hd=>(hs.asd d (hq d (h2.mem_iff.1 hd))).1) (hs.asd c hcs).1 h1 fun d hd e=>?_) fun o' ho'=>ak.some (.inl ⟨_,rfl,ho'.1,?_⟩))
   ·have hd':=h2.mem_iff.1 hd
    exact hdj d hd' _ (gW (hs.asd d (hq d hd')).1) (e ▸ gW (hs.asd c hcs).1)
   ·exact ho'.2.trans ((List.Perm.cons c h2).trans (List.perm_append_singleton c q).symm)
  ·rintro o ⟨h1,h2⟩
   exact { asd:=fun c hc=>hs.asd c (h2.mem_iff.1 hc),dj:=(h2.pairwise_iff (fun {a b} h z hz hza=>h z hza hz)).2 hs.dj,dom:=fun a=>by rw [hs.dom]; simp only [h2.mem_iff],con:=fun c hc=>hs.con c (h2.mem_iff.1 hc),cl:=fun c hc=>hs.cl c (h2.mem_iff.1 hc),srt:=h1 }
end Go.Proofs.Ytgojigdbelkgoaa
namespace Go.Proofs.Ytgojigdbelkgoaa
open Go Go.Sk
set_option linter.unusedVariables false
set_option linter.unusedSimpArgs false
def aj (m:a7):List Int:=m.map (·.1)
def cnt (m:a7) (x:Int):Nat:=((aj m).filter fun z=>decide (z < x)).length
theorem cnt_le (m:a7) (x:Int):cnt m x ≤ m.length:=by
 unfold cnt aj; refine Nat.le_trans (List.length_filter_le _ _) ?_; simp
theorem cnt_lt {m:a7} {u x:Int} (hu:cO m u = true) (h:u < x):cnt m u < cnt m x:=by
 have hm:=(iV u m).1 hu
 unfold cnt
 have:∀ ks:List Int,(∀ z,z ∈ ks → True) → (ks.filter fun z=>decide (z < u)).length ≤ (ks.filter fun z=>decide (z < x)).length ∧ (u ∈ ks → (ks.filter fun z=>decide (z < u)).length < (ks.filter fun z=>decide (z < x)).length):=fun ks _=>by
  induction ks with
  | nil=>simp
  | cons a ks ih=>
   have ih:=ih (fun _ _=>trivial)
   simp only [List.filter_cons,List.mem_cons]
   by_cases h1:a < u
   ·have h2:a < x:=by omega
    simp only [h1,h2,decide_true,if_true,List.length_cons]
    refine ⟨by omega,?_⟩
    rintro (rfl | h')
    ·omega
    ·have:=ih.2 h'; omega
   ·by_cases h2:a < x
    ·simp only [h1,h2,decide_true,decide_false,if_true,List.length_cons]
     refine ⟨by have:=ih.1; simp; omega,fun _=>by have:=ih.1; simp; omega⟩
    ·simp only [h1,h2,decide_false]
     refine ⟨by simpa using ih.1,?_⟩
     rintro (rfl | h')
     ·omega
     ·simpa using ih.2 h'
 exact (this (aj m) fun _ _=>trivial).2 hm
theorem rn {F:Nat}:∀ (n:Nat) {m:a7} {r:Int → Int} {x:Int},ml m r → cnt m x < n → ak (ck F n x m) fun z=>z.1 = r x ∧ ml z.2 r ∧ aj z.2 = if cO m x then aj m else aj m ++ [x]
 | 0,m,r,x,h,hn=>by omega
 | n + 1,m,r,x,h,hn=>by
  show ak (if (!(cO m x)) = true then _ else _) _
  refine ak.ite (fun hc=>?_) fun hc=>?_
  ·have hc:cO m x = false:=by simpa using hc
   refine ak.some ⟨(h.out x hc).symm,h.add hc,?_⟩
   simp only [aj]
   rw [ja]
  ·have hc:cO m x = true:=by simpa using hc
   refine ak.ite (fun he=>ak.some ⟨(h.fix x hc (of_decide_eq_true he)).symm,h,by simp [hc]⟩) fun he=>?_
   have he:=of_decide_eq_false he
   have hu:=h.has x hc
   have hl:cu m x < x:=by have:=h.le x hc; omega
   refine ak.bind (rn n (x:=cu m x) h (by have:=cnt_lt hu hl; omega)) ?_
   rintro ⟨a,m'⟩ ⟨h1,h2,h3⟩
   simp only at h1 h2 h3
   rw [hu,if_pos rfl] at h3
   have e:a = r x:=by rw [h1,h.step x hc]
   have hx':cO m' x = true:=by rw [iV]; show x ∈ aj m'; rw [h3]; exact (iV x m).1 hc
   refine ak.some ⟨e,?_,?_⟩
   ·simp only; rw [e]; exact h2.short hx'
   ·simp only [aj]
    rw [ja,hx',hc]
    exact h3
theorem gZ {m:a7} {x:Int}:cO m x = true ↔ x ∈ aj m:=iV x m
theorem oU {F:Nat} {m:a7} {r:Int → Int} {x:Int} (h:ml m r) (hF:m.length < F):ak (bC F x m) fun z=>z.1 = r x ∧ ml z.2 r ∧ (∀ y,y ∈ aj z.2 ↔ y = x ∨ y ∈ aj m) ∧ z.2.length ≤ m.length + 1 ∧ (cO m x = true → aj z.2 = aj m):=by
 refine (rn F h (by have:=cnt_le m x; omega)).mono ?_
 rintro ⟨a,m'⟩ ⟨h1,h2,h3⟩
 simp only at h1 h2 h3 ⊢
 have hl:(aj m').length = m'.length:=by simp [aj]
 have hl2:(aj m).length = m.length:=by simp [aj]
 refine ⟨h1,h2,fun y=>?_,?_,fun hh=>by rw [h3,hh]; rfl⟩
 ·rw [h3]
  split
  ·next hc=>
   constructor
   ·exact .inr
   ·rintro (rfl | h)
    ·exact gZ.1 hc
    ·exact h
  ·simp [or_comm]
 ·rw [← hl,h3]; split <;> simp [hl2]
theorem join_S {F:Nat} {m:a7} {r:Int → Int} {x y:Int} (h:ml m r) (hF:m.length + 1 < F):ak (bO F x y m) fun z=>z.1 = decide (r x ≠ r y) ∧ ml z.2 (jn r x y) ∧ (∀ u,u ∈ aj z.2 ↔ u = x ∨ u = y ∨ u ∈ aj m) ∧ z.2.length ≤ m.length + 2:=by
 unfold bO
 refine ak.bind (oU h (by omega)) ?_
 rintro ⟨a,m1⟩ ⟨rfl,h1,k1,l1,_⟩
 simp only at h1 k1 l1 ⊢
 refine ak.bind (oU h1 (by simp only; omega)) ?_
 rintro ⟨b,m2⟩ ⟨rfl,h2,k2,l2,_⟩
 simp only at h2 k2 l2 ⊢
 have kk:∀ u,u ∈ aj m2 ↔ u = x ∨ u = y ∨ u ∈ aj m:=fun u=>by
  rw [k2,k1]; constructor
  ·rintro (h | h | h)
   ·exact .inr (.inl h)
   ·exact .inl h
   ·exact .inr (.inr h)
  ·rintro (h | h | h)
   ·exact .inr (.inl h)
   ·exact .inl h
   ·exact .inr (.inr h)
 refine ak.ite (fun hc=>?_) fun hc=>?_
 ·have hc:r x = r y:=of_decide_eq_true hc
  have ej:jn r x y = r:=funext fun z=>by unfold jn; rw [hc,Int.max_self,Int.min_self]; split <;> simp_all
  rw [ej]
  exact ak.some ⟨by simp [hc],h2,kk,by simp only; omega⟩
 ·have hc:r x ≠ r y:=of_decide_eq_false hc
  have hx:cO m2 x = true:=gZ.2 ((kk x).2 (.inl rfl))
  have hy:cO m2 y = true:=gZ.2 ((kk y).2 (.inr (.inl rfl)))
  have hM:cO m2 (max (r x) (r y)) = true:=by
   have a:=(h2.low x hx).2.1
   have b:=(h2.low y hy).2.1
   by_cases hl:r x ≤ r y
   ·rw [Int.max_eq_right hl]; exact b
   ·rw [Int.max_eq_left (by omega)]; exact a
  have ek:aj (dD m2 (max (r x) (r y)) (min (r x) (r y))) = aj m2:=by
   unfold aj; rw [ja,hM]; rfl
  refine ak.some ⟨by simp [hc],h2.join hx hy hc,fun u=>by simp only; rw [ek]; exact kk u,?_⟩
  have:(aj (dD m2 (max (r x) (r y)) (min (r x) (r y)))).length = (aj m2).length:=by rw [ek]
  simp only [aj,List.length_map] at this
  simp only; omega
def cZ (ps:List (Int × Int)):Int → Int:=ps.foldl (fun r p=>jn r p.1 p.2) fun x=>x
theorem kI (ps:List (Int × Int)) (x y:Int):cZ (ps ++ [(x,y)]) = jn (cZ ps) x y:=by simp [cZ]
theorem iY (ps:List (Int × Int)) (z:Int):cZ ps (cZ ps z) = cZ ps z:=by
 have:∀ (ps:List (Int × Int)) (r:Int → Int),(∀ z,r (r z) = r z) → ∀ z,ps.foldl (fun r p=>jn r p.1 p.2) r (ps.foldl (fun r p=>jn r p.1 p.2) r z) = ps.foldl (fun r p=>jn r p.1 p.2) r z:=fun ps=>by
  induction ps with
  | nil=>exact fun r h=>h
  | cons p ps ih=>exact fun r h=>ih _ (jn_idem h p.1 p.2)
 exact this ps _ (fun _=>rfl) z
theorem eW:∀ (ps:List (Int × Int)) (a b:Int),cZ ps a = cZ ps b ↔ dN (fun u v=>(u,v) ∈ ps) a b:=fun ps=>by
 have key:∀ (qs:List (Int × Int)),(∀ a b,cZ qs a = cZ qs b ↔ dN (fun u v=>(u,v) ∈ qs) a b) → ∀ ps a b,cZ (qs ++ ps) a = cZ (qs ++ ps) b ↔ dN (fun u v=>(u,v) ∈ qs ++ ps) a b:=fun qs h ps=>by
  induction ps generalizing qs with
  | nil=>simpa using h
  | cons p ps ih=>
   have e:qs ++ p :: ps = (qs ++ [p]) ++ ps:=by simp
   rw [e]
   refine ih _ fun a b=>?_
   rw [show p = (p.1,p.2) from rfl,kI,jn_con (iY qs) h]
   refine dN.congr (fun u v h=>.of ?_) (fun u v h=>.of ?_) a b
   ·rcases h with h | ⟨rfl,rfl⟩ <;> simp_all
   ·rcases List.mem_append.1 h with h | h
    ·exact .inl h
    ·have:=List.mem_singleton.1 h; simp only [Prod.mk.injEq] at this; exact .inr this
 refine key [] (fun a b=>?_) ps
 refine ⟨fun h=>by show dN _ a b; have:a = b:=h; rw [this]; exact .rfl b,fun h=>?_⟩
 refine h.lift (E:=fun a b=>cZ [] a = cZ [] b) (fun _=>rfl) (fun _ _ h=>h.symm) (fun _ _ _ h1 h2=>h1.trans h2) fun a b h=>by cases h
structure St (m:a7) (ps:List (Int × Int)):Prop where
 up:ml m (cZ ps)
 keys:∀ u,u ∈ aj m ↔ ∃ p ∈ ps,u = p.1 ∨ u = p.2
 len:m.length ≤ 2 * ps.length
theorem St.nil:St [] []:=⟨ml.nil,by simp [aj],by simp⟩
theorem St.join {F:Nat} {m:a7} {ps:List (Int × Int)} {x y:Int} (h:St m ps) (hF:2 * ps.length + 1 < F):ak (bO F x y m) fun z=>z.1 = decide (cZ ps x ≠ cZ ps y) ∧ St z.2 (ps ++ [(x,y)]):=by
 refine (join_S h.up (x:=x) (y:=y) (by have:=h.len; omega)).mono ?_
 rintro ⟨b,m'⟩ ⟨h1,h2,h3,h4⟩
 refine ⟨h1,by rw [kI]; exact h2,fun u=>?_,by have:=h.len; simp at h4 ⊢; omega⟩
 rw [h3,h.keys]
 constructor
 ·rintro (h | h | ⟨p,hp,h⟩)
  ·exact ⟨(x,y),by simp,.inl h⟩
  ·exact ⟨(x,y),by simp,.inr h⟩
  ·exact ⟨p,by simp [hp],h⟩
 ·rintro ⟨p,hp,h⟩
  rcases List.mem_append.1 hp with hp | hp
  ·exact .inr (.inr ⟨p,hp,h⟩)
  ·rw [List.mem_singleton.1 hp] at h
   rcases h with h | h
   ·exact .inl h
   ·exact .inr (.inl h)
structure Row (r:Int → Int) (ts:List Int) (at':a7) (out:List (List Int)):Prop where
 len:out.length = (ts.filter fun x=>decide (r x = x)).length
 get:∀ j (h:j < (ts.filter fun x=>decide (r x = x)).length),out[j]? = some (ts.filter fun z=>decide (r z = (ts.filter fun x=>decide (r x = x))[j])) ∧ cu at' ((ts.filter fun x=>decide (r x = x))[j]) = (j:Int)
theorem Row.eq {r:Int → Int} {ts:List Int} {at':a7} {out:List (List Int)} (h:Row r ts at' out):out = canon r ts:=by
 refine List.ext_getElem? fun j=>?_
 unfold canon
 by_cases hj:j < (ts.filter fun x=>decide (r x = x)).length
 ·rw [(h.get j hj).1,List.getElem?_map,List.getElem?_eq_getElem hj]; rfl
 ·rw [List.getElem?_eq_none (by have:=h.len; omega),List.getElem?_eq_none (by rw [List.length_map]; omega)]
theorem Row.step {r:Int → Int} {ts:List Int} {at':a7} {out:List (List Int)} (h:Row r ts at' out) {x:Int} (hx:∀ t ∈ ts,t < x) (hle:∀ z,r z ≤ z) (hi:∀ z,r (r z) = r z) (hr:r x = x ∨ r x ∈ ts) :
  ∃ at2 o2,(at2,o2) = (if r x = x then (dD at' x (out.length:Int),out ++ [[]]) else (at',out)) ∧ ∃ k:Nat,cu at2 (r x) = (k:Int) ∧ k < o2.length ∧ ∃ row,o2[k]? = some row ∧ Row r (ts ++ [x]) at2 (o2.set k (row ++ [x])):=by
 rcases hr with hr | hr
 ·refine ⟨dD at' x (out.length:Int),out ++ [[]],by rw [if_pos hr],out.length,by rw [hr,cf,if_pos rfl],by simp,[],by simp,?_⟩
  have e:(ts ++ [x]).filter (fun y=>decide (r y = y)) = ts.filter (fun y=>decide (r y = y)) ++ [x]:=by simp [List.filter_append,hr]
  have hno:ts.filter (fun z=>decide (r z = x)) = []:=by
   rw [List.filter_eq_nil_iff]
   intro z hz
   have:=hx z hz; have:=hle z
   simp only [decide_eq_true_eq]; omega
  refine ⟨by rw [e]; simp [h.len],fun j hj=>?_⟩
  simp only [e,List.length_append,List.length_singleton] at hj
  by_cases hj2:j < (ts.filter fun y=>decide (r y = y)).length
  ·have hm:(ts.filter fun y=>decide (r y = y))[j] ∈ ts:=(List.mem_filter.1 (List.getElem_mem hj2)).1
   have hne:(ts.filter fun y=>decide (r y = y))[j] ≠ x:=Int.ne_of_lt (hx _ hm)
   simp only [e,List.getElem_append_left hj2]
   obtain ⟨h1,h2⟩:=h.get j hj2
   have hjl:j < out.length:=by have:=h.len; omega
   refine ⟨?_,by rw [cf,if_neg hne]; exact h2⟩
   rw [List.getElem?_set,if_neg (by omega),List.getElem?_append_left hjl,h1,List.filter_append]
   have:¬ r x = (ts.filter fun y=>decide (r y = y))[j]:=by rw [hr]; exact fun e=>hne e.symm
   simp [this]
  ·have hj3:j = (ts.filter fun y=>decide (r y = y)).length:=by omega
   subst hj3
   have eg:∀ hh,((ts ++ [x]).filter fun y=>decide (r y = y))[(ts.filter fun y=>decide (r y = y)).length]'hh = x:=fun hh=>by
    simp only [e,List.getElem_append_right (Nat.le_refl _),Nat.sub_self]; rfl
   rw [eg]
   refine ⟨?_,by rw [cf,if_pos rfl,h.len]⟩
   rw [List.getElem?_set,if_pos (by rw [h.len]),if_pos (by simp [h.len]),List.filter_append,hno]
   simp [hr]
 ·have hne:r x ≠ x:=fun e=>by have:=hx _ hr; omega
  have hm:r x ∈ ts.filter fun y=>decide (r y = y):=List.mem_filter.2 ⟨hr,by simpa using hi x⟩
  obtain ⟨k,hk,ek⟩:=List.getElem_of_mem hm
  obtain ⟨h1,h2⟩:=h.get k hk
  have hkl:k < out.length:=by have:=h.len; omega
  refine ⟨at',out,by rw [if_neg hne],k,by rw [← ek]; exact h2,hkl,_,h1,?_⟩
  have e:(ts ++ [x]).filter (fun y=>decide (r y = y)) = ts.filter (fun y=>decide (r y = y)):=by simp [List.filter_append,hne]
  refine ⟨by rw [e,List.length_set,h.len],fun j hj=>?_⟩
  simp only [e] at hj ⊢
  obtain ⟨g1,g2⟩:=h.get j hj
  refine ⟨?_,g2⟩
  rw [List.getElem?_set,List.filter_append]
  by_cases hjk:k = j
  ·subst hjk
   have:r x = (ts.filter fun y=>decide (r y = y))[k]:=ek.symm
   rw [if_pos rfl,if_pos hkl]
   simp [this]
  ·rw [if_neg hjk,g1]
   have hnd:(ts.filter fun y=>decide (r y = y))[j] ≠ r x:=fun e2=>by
    have:=(h.get j hj).2
    rw [e2,← ek,h2] at this
    omega
   have:¬ r x = (ts.filter fun y=>decide (r y = y))[j]:=fun e=>hnd e.symm
   simp [this]
theorem sets_S {F:Nat} (hF:F ≤ 100000000) {m:a7} {r:Int → Int} (h:ml m r) (hl:m.length < F):ak (bB F m) fun z=>z.1 = canon r (sorted (aj m)) ∧ ml z.2 r ∧ aj z.2 = aj m:=by
 unfold bB
 have hkl:(aj m).length = m.length:=by simp [aj]
 refine ak.bA (x:=aj m) (by unfold nJ; rw [if_pos (by omega)]; rfl) (ak.bA (x:=sorted (aj m)) (by unfold cz iF; rw [if_pos (by omega)]) ?_)
 have hsl:(sorted (aj m)).length = m.length:=by rw [(nL _).length_eq,hkl]
 have hasd:mn (sorted (aj m)):=ns h.nd
 refine ak.bind (P:=fun z:List (List Int) × a7=>z.1 = canon r (sorted (aj m)) ∧ ml z.2 r ∧ aj z.2 = aj m) ?_ fun z hz=>ak.some hz
 refine ak.ea4 (I:=fun pre up at' out=>ml up r ∧ aj up = aj m ∧ Row r pre at' out) (by omega) (by omega) ⟨h,rfl,by simp,by simp⟩ ?_ fun up at' out hI=>⟨hI.2.2.eq,hI.1,hI.2.1⟩
 rintro pre x post up at' out e hx ⟨h1,h2,h3⟩
 have hul:up.length = m.length:=by rw [← hkl,← h2]; simp [aj]
 have hxs:x ∈ sorted (aj m):=by rw [e]; simp
 have hxk:cO up x = true:=gZ.2 (by rw [h2]; exact jr.1 hxs)
 have hlt:∀ t ∈ pre,t < x:=fun t ht=>(List.pairwise_append.1 (e ▸ hasd)).2.2 t ht x (List.mem_cons_self ..)
 have hr:r x = x ∨ r x ∈ pre:=by
  by_cases hc:r x = x
  ·exact .inl hc
  ·have hm:r x ∈ sorted (aj m):=jr.2 (by rw [← h2]; exact gZ.1 (h1.low x hxk).2.1)
   rw [e] at hm
   have hlx:r x < x:=by have:=h.rle x; omega
   rcases List.mem_append.1 hm with hm | hm
   ·exact .inr hm
   ·rcases List.mem_cons.1 hm with hm | hm
    ·exact absurd hm hc
    ·have:=(List.pairwise_cons.1 (List.pairwise_append.1 (e ▸ hasd)).2.1).1 _ hm
     omega
 have hol:out.length ≤ pre.length:=by rw [h3.len]; exact List.length_filter_le _ _
 have hpl:pre.length < m.length:=by rw [← hsl,e]; simp
 refine ak.bind (P:=fun z:a7 × a7 × List (List Int)=>ml z.1 r ∧ aj z.1 = aj m ∧ Row r (pre ++ [x]) z.2.1 z.2.2) ?_ fun z hz=>ak.some (.inl ⟨_,_,_,rfl,hz⟩)
 refine ak.bA hx (ak.bind (oU h1 (by omega)) ?_)
 rintro ⟨a,up2⟩ ⟨rfl,g1,_,_,g2⟩
 simp only at g1 g2 ⊢
 obtain ⟨at2,o2,e2,k,hk,hk2,row,hrow,hR⟩:=h3.step hlt h.rle h.idem hr
 have hbl:out.length + 1 ≤ 1000000000:=by omega
 refine ak.bind (P:=(· = (at2,o2))) ?_ ?_
 ·rw [e2]
  refine ak.ite (fun hc=>?_) fun hc=>?_
  ·have hc:=of_decide_eq_true hc
   exact ak.app (by simp only [List.length_singleton]; omega) (ak.some (by rw [if_pos hc]))
  ·have hc:=of_decide_eq_false hc
   exact ak.some (by rw [if_neg hc])
 ·rintro z rfl
  simp only
  have hix:aE o2 (cu at2 (r x)) = some row:=by
   rw [hk,js (by omega) (by omega),cT _ _ hk2]
   rw [List.getElem?_eq_getElem hk2] at hrow; exact hrow
  have hrl:row.length ≤ pre.length:=by
   have:o2.set k (row ++ [x]) = canon r (pre ++ [x]):=hR.eq
   have h4:row ++ [x] ∈ canon r (pre ++ [x]):=by
    rw [← this]; exact List.mem_iff_getElem?.2 ⟨k,by rw [List.getElem?_set,if_pos rfl,if_pos hk2]⟩
   unfold canon at h4
   obtain ⟨q,_,hq⟩:=List.mem_map.1 h4
   have h5:=congrArg List.length hq
   have h6:=List.length_filter_le (fun z=>decide (r z = q)) (pre ++ [x])
   simp only [List.length_append,List.length_singleton] at h5 h6
   omega
  refine ak.bA hix (ak.app (by simp only [List.length_singleton]; omega) (ak.bA hix (ak.some ⟨g1,by rw [g2 hxk]; exact h2,?_⟩)))
  simp only
  rw [hk,Int.toNat_natCast]
  exact hR
theorem rX {F:Nat} (hF:F ≤ 100000000) {m:a7} {ps:List (Int × Int)} (h:St m ps) (hl:2 * ps.length < F):ak (bB F m) fun z=>Part (fun a b=>(a,b) ∈ ps) (fun a=>∃ p ∈ ps,a = p.1 ∨ a = p.2) z.1 ∧ St z.2 ps:=by
 refine (sets_S hF h.up (by have:=h.len; omega)).mono ?_
 rintro ⟨o,m'⟩ ⟨h1,h2,h3⟩
 simp only at h1 h2 h3 ⊢
 have hk:∀ u,u ∈ sorted (aj m) ↔ ∃ p ∈ ps,u = p.1 ∨ u = p.2:=fun u=>by rw [jr,h.keys]
 refine ⟨?_,h2,fun u=>by rw [h3,h.keys],?_⟩
 ·rw [h1]
  have hp:=n6 (r:=cZ ps) (P:=fun a b=>(a,b) ∈ ps) (ns h.up.nd) h.up.rle h.up.idem (fun z hz=>?_) (eW ps) fun a b hab=>?_
  ·exact hp.congr (fun _ _=>.rfl) hk
  ·exact jr.2 (gZ.1 (h.up.low z (gZ.2 (jr.1 hz))).2.1)
  ·exact ⟨fun _=>(hk b).2 ⟨(a,b),hab,.inr rfl⟩,fun _=>(hk a).2 ⟨(a,b),hab,.inl rfl⟩⟩
 ·have:(aj m').length = (aj m).length:=by rw [h3]
  simp only [aj,List.length_map] at this
  have:=h.len
  omega
theorem same_ok {l:List Int} (hl:l.length ≤ 1000):bj 2000 l l = some true:=by
 refine ak.eq ?_
 unfold bj
 refine ak.iff (by simp) ?_
 refine ak.bind (P:=(· = .inl ())) ?_ ?_
 ·refine ak.rounds (n:=l.length) (I:=fun k s=>s = (k:Int)) (by omega) rfl ?_
  rintro k s hk rfl
  refine ak.ite (fun hc=>?_) (fun hc=>?_)
  ·have hc:(k:Int) < l.length:=of_decide_eq_true hc
   rw [jG (by omega) (by omega)]
   refine ak.idx (by omega) hc (ak.idx (by omega) hc (ak.iff (by simp) (ak.some (.inl ⟨_,rfl,by push_cast; rfl,by omega⟩))))
  ·exact ak.some (.inr ⟨_,rfl,rfl⟩)
 ·rintro o rfl
  exact ak.some rfl
theorem ak.pass {τ:Type} {A:Int → Option (Int ⊕ τ)} {g:τ} {N st:Int} {F:Nat} {Q:τ → Prop} (h0:0 ≤ st) (hN:N ≤ 1000000000) (hF:(N - st).toNat < F) (h:∀ k,st ≤ k → k < N → A k = Option.some (.inl (IntKind.i64.wrap (k + 1)))) (hq:Q g):ak (iter F (fun i=>if decide (i < N) = true then A i else Option.some (.inr g)) st) Q:=by
 refine ak.rounds (n:=(N - st).toNat) (I:=fun k s=>s = st + (k:Int)) hF (by simp) ?_
 rintro k s hk rfl
 refine ak.ite (fun hc=>?_) fun hc=>?_
 ·have hc:=of_decide_eq_true hc
  rw [h _ (by omega) hc]
  refine ak.some (.inl ⟨_,rfl,?_,by omega⟩)
  rw [jG (by omega) (by omega)]; push_cast; omega
 ·exact ak.some (.inr ⟨_,rfl,hq⟩)
theorem fE {α:Type} [Inhabited α] {l:List α} {i j:Int} {x:α} (h0:0 ≤ i) (h1:i < l.length) (h2:0 ≤ j):idx (l.set i.toNat x) j = if j = i then x else idx l j:=by
 unfold idx
 rw [List.getD_eq_getElem?_getD,List.getD_eq_getElem?_getD,List.getElem?_set]
 by_cases e:j = i
 ·subst e; rw [if_pos rfl,if_pos (by omega),if_pos rfl]; rfl
 ·rw [if_neg (by omega),if_neg e]
theorem lQ {α:Type} [Inhabited α] {n:Nat} {x:α} {j:Int} (h0:0 ≤ j) (h1:j < n):idx (List.replicate n x) j = x:=by
 obtain ⟨m,rfl⟩:∃ m:Nat,j = m:=⟨j.toNat,by omega⟩
 rw [cT _ _ (by simp; omega)]; simp
theorem sets_ok {l:List (List Int)} (hl:l.length ≤ 1000) (hc:∀ c ∈ l,c.length ≤ 1000):bx 2000 l l = some true:=by
 refine ak.eq ?_
 unfold bx
 refine ak.iff (by simp) (ak.bind (P:=(· = .inl ())) ?_ (fun o ho=>by rw [ho]; exact ak.some rfl))
 refine ak.pass (by omega) (by omega) (by omega) (fun k h1 h2=>?_) rfl
 rw [js h1 h2]
 simp only [Option.bind_some]
 rw [same_ok (hc _ (du h1 h2))]; rfl
def mg (L:List (List Int)):List (List Int):=(cL 2000 L).getD []
def Sz (L:List (List Int)):Prop:=L.length < 990 ∧ L.flatten.length < 990
theorem rC {L:List (List Int)} (h:Sz L):cL 2000 L = some (mg L) ∧ Part (pr L) (dm L) (mg L):=by
 obtain ⟨h1,h2⟩:=h
 obtain ⟨o,e,p⟩:=merge35 (F:=2000) (by omega) (L:=L) (by omega) (by omega)
 unfold mg
 rw [e]
 exact ⟨rfl,p⟩
theorem mg_uniq {L:List (List Int)} {o:List (List Int)} (h:Sz L) (hp:Part (pr L) (dm L) o):mg L = o:=(rC h).2.uniq hp
def Lnk (n:Nat) (l:A2):Prop:=0 ≤ l.a0 ∧ l.a0 < n ∧ 0 ≤ l.a1 ∧ l.a1 < n ∧ l.a0 ≠ l.a1
instance (n:Nat) (l:A2):Decidable (Lnk n l):=inferInstanceAs (Decidable (_ ∧ _))
def Gr (fx:List Bool) (ls:List A2):Prop:=fx.length ≤ 401 ∧ ∀ l ∈ ls,Lnk fx.length l
theorem sg {F:Nat} {fx:List Bool} {l:A2}:df F l fx = some (!decide (Lnk fx.length l)):=by
 unfold df dg
 refine ak.eq (ak.bA rfl ?_)
 by_cases h1:((decide (l.a0 < 0)) || (decide ((fx.length:Int) ≤ l.a0))) = true
 ·refine ak.g0 (by rw [h1]; rfl) (ak.some ?_)
  rw [h1]
  simp only [Bool.true_or]
  simp only [Bool.or_eq_true,decide_eq_true_eq] at h1
  have:¬ Lnk fx.length l:=fun h=>by obtain ⟨a,b,_⟩:=h; omega
  simp [this]
 ·have h1:((decide (l.a0 < 0)) || (decide ((fx.length:Int) ≤ l.a0))) = false:=by simpa using h1
  refine ak.g1 (by rw [h1]; rfl) (ak.bA rfl (ak.some ?_))
  rw [h1]
  simp only [Bool.false_or]
  simp only [Bool.or_eq_false_iff,decide_eq_false_iff_not] at h1
  by_cases hl:Lnk fx.length l
  ·obtain ⟨a1,a2,a3,a4,a5⟩:=id hl
   simp [hl,a5]; omega
  ·have h2:l.a1 < 0 ∨ (fx.length:Int) ≤ l.a1 ∨ l.a0 = l.a1:=by
    by_cases e:l.a1 < 0
    ·exact .inl e
    ·by_cases e2:(fx.length:Int) ≤ l.a1
     ·exact .inr (.inl e2)
     ·by_cases e3:l.a0 = l.a1
      ·exact .inr (.inr e3)
      ·exact absurd (show Lnk fx.length l from ⟨by omega,by omega,by omega,by omega,e3⟩) hl
   simp only [hl,decide_false,Bool.not_false]
   simp only [Bool.or_eq_true,decide_eq_true_eq]
   rcases h2 with h | h | h
   ·exact .inl (.inl h)
   ·exact .inl (.inr h)
   ·exact .inr h
theorem p6 {F:Nat} {fx:List Bool} {ls:List A2} (hF:ls.length < F) (hL:ls.length ≤ 9223372036854775807):ak (bF F fx ls) fun r=>(r = true ↔ Gr fx ls):=by
 unfold bF
 by_cases hc:(decide ((fx.length:Int) ≤ 401)) = true
 ·refine ak.g1 hc ?_
  unfold di dT
  have hc':fx.length ≤ 401:=by have:=of_decide_eq_true hc; omega
  refine ak.bind (P:=fun r=>(r = false ↔ Gr fx ls)) ?_ fun r hr=>ak.some (by rw [hc]; cases r <;> simp_all)
  refine ak.bind (P:=fun r:Int=>(r < 0 ↔ Gr fx ls)) ?_ fun r hr=>ak.some (by rw [← hr]; simp)
  refine ak.bind (P:=fun o=>(o = .inl () ∧ Gr fx ls) ∨ ∃ i:Int,o = .inr i ∧ 0 ≤ i ∧ ¬ Gr fx ls) ?_ ?_
  ·refine ak.ea1 (fun pre=>∀ l ∈ pre,Lnk fx.length l) hF hL (by simp) (fun pre x post e hx hI=>?_) fun h=>.inl ⟨rfl,hc',h⟩
   refine ak.bA hx (ak.bA sg (ak.ite (fun h=>ak.some (.inr ⟨_,rfl,.inr ⟨_,rfl,by omega,fun hg=>?_⟩⟩)) (fun h=>ak.some (.inl ⟨rfl,fun l hl=>?_⟩))))
   ·have:=hg.2 x (by rw [e]; simp); simp [this] at h
   ·rcases List.mem_append.1 hl with hl | hl
    ·exact hI l hl
    ·rw [List.mem_singleton.1 hl]; simpa using h
  ·rintro o (⟨rfl,h⟩ | ⟨i,rfl,h1,h2⟩)
   ·exact ak.some ⟨fun _=>h,fun _=>by omega⟩
   ·exact ak.some ⟨fun _=>by omega,fun h=>absurd h h2⟩
 ·have hc:(decide ((fx.length:Int) ≤ 401)) = false:=by simpa using hc
  refine ak.g0 hc (ak.some ?_)
  rw [hc]
  refine ⟨fun h=>by simp at h,fun h=>?_⟩
  have:=of_decide_eq_false hc
  have:=h.1
  omega
def nm (fx:List Bool) (l:A2):Prop:=idx fx l.a0 = false ∧ idx fx l.a1 = false
instance (fx:List Bool) (l:A2):Decidable (nm fx l):=inferInstanceAs (Decidable (_ ∧ _))
def od (fx:List Bool) (ls:List A2):List Int:=((List.range ls.length).filter fun i:Nat=>decide (nm fx (idx ls (i:Int)))).map fun i:Nat=>(i:Int)
theorem fL (p:Nat → Bool) (n:Nat):(List.range (n + 1)).filter p = (List.range n).filter p ++ if p n then [n] else []:=by
 rw [List.range_succ,List.filter_append]; congr 1; simp [List.filter]; split <;> simp_all
theorem sU {F:Nat} {fx:List Bool} {ls:List A2} (hF:ls.length < F) (hL:ls.length ≤ 1000000) (hg:Gr fx ls):dt F fx ls = some (od fx ls):=by
 refine ak.eq ?_
 unfold dt
 refine ak.bind (P:=(· = od fx ls)) ?_ fun o ho=>by rw [ho]; exact ak.some rfl
 refine ak.ea2 (fun pre s=>s = ((List.range pre.length).filter fun i:Nat=>decide (nm fx (idx ls (i:Int)))).map fun i:Nat=>(i:Int)) hF (by omega) rfl (fun pre x post s e hx hI=>?_) fun s hs=>hs
 have hxi:idx ls (pre.length:Int) = x:=re hx
 obtain ⟨a1,a2,a3,a4,a5⟩:=hg.2 x (by rw [e]; simp)
 subst hI
 have hlen:(((List.range pre.length).filter fun i:Nat=>decide (nm fx (idx ls (i:Int)))).map fun i:Nat=>(i:Int)).length ≤ pre.length:=by
  rw [List.length_map]; refine Nat.le_trans (List.length_filter_le _ _) ?_; simp
 have hpl:pre.length ≤ ls.length:=by rw [e]; simp
 refine ak.bind (P:=(· = ((List.range (pre ++ [x]).length).filter fun i:Nat=>decide (nm fx (idx ls (i:Int)))).map fun i:Nat=>(i:Int))) ?_ fun o ho=>by rw [ho]; exact ak.some (.inl ⟨_,rfl,rfl⟩)
 rw [List.length_append,List.length_singleton,fL,hxi]
 refine ak.bA hx (ak.idx a1 (by omega) ?_)
 by_cases h0:idx fx x.a0 = true
 ·refine ak.g0 (by rw [h0]; rfl) (ak.iff (by rw [h0]; rfl) (ak.some ?_))
  rw [if_neg (by simp [nm,h0])]; simp
 ·have h0:idx fx x.a0 = false:=by simpa using h0
  refine ak.g1 (by rw [h0]; rfl) (ak.idx a3 (by omega) ?_)
  by_cases h1:idx fx x.a1 = true
  ·refine ak.iff (by rw [h0,h1]; rfl) (ak.some ?_)
   rw [if_neg (by simp [nm,h1])]; simp
  ·have h1:idx fx x.a1 = false:=by simpa using h1
   refine ak.ift (by rw [h0,h1]; rfl) (ak.app (by simp only [List.length_singleton]; omega) (ak.some ?_))
   rw [if_pos (by simp [nm,h0,h1])]; simp
theorem jn_self (r:Int → Int) (x:Int):jn r x x = r:=by
 funext z
 unfold jn
 rw [show max (r x) (r x) = r x by omega,show min (r x) (r x) = r x by omega]
 split
 ·next h=>exact h.symm
 ·rfl
theorem St.root {F:Nat} {m:a7} {ps:List (Int × Int)} {x:Int} (h:St m ps) (hF:2 * ps.length < F):ak (bC F x m) fun z=>St z.2 (ps ++ [(x,x)]):=by
 refine (oU h.up (x:=x) (by have:=h.len; omega)).mono ?_
 rintro ⟨b,m'⟩ ⟨h1,h2,h3,h4,_⟩
 refine ⟨by rw [kI,jn_self]; exact h2,fun u=>?_,by have:=h.len; simp at h4 ⊢; omega⟩
 simp only at h3 ⊢
 rw [h3,h.keys]
 constructor
 ·rintro (h | ⟨p,hp,h⟩)
  ·exact ⟨(x,x),by simp,.inl h⟩
  ·exact ⟨p,by simp [hp],h⟩
 ·rintro ⟨p,hp,h⟩
  rcases List.mem_append.1 hp with hp | hp
  ·exact .inr ⟨p,hp,h⟩
  ·rw [List.mem_singleton.1 hp] at h
   exact .inl (by rcases h with h | h <;> exact h)
def kB (fx:List Bool) (n:Nat):List (Int × Int):=((List.range n).filter fun i:Nat=>decide (idx fx (i:Int) = false)).map fun i:Nat=>((i:Int),(i:Int))
theorem nB (fx:List Bool) (n:Nat):(kB fx n).length ≤ n:=by
 unfold kB; rw [List.length_map]; refine Nat.le_trans (List.length_filter_le _ _) (by simp)
theorem tV (fx:List Bool) (n:Nat):kB fx (n + 1) = kB fx n ++ if idx fx (n:Int) = false then [((n:Int),(n:Int))] else []:=by
 unfold kB; rw [fL,List.map_append]; congr 1
 by_cases h:idx fx (n:Int) = false <;> simp [h]
def fP (ls:List A2) (i:Int):Int × Int:=((idx ls i).a0,(idx ls i).a1)
def pI (ls:List A2) (base:List (Int × Int)) (is:List Int):List (Int × Int) × List Int :=
 is.foldl (fun acc i=>(acc.1 ++ [fP ls i],if cZ acc.1 (fP ls i).1 = cZ acc.1 (fP ls i).2 then acc.2 else acc.2 ++ [i])) (base,[])
theorem p7 (ls:List A2) (base:List (Int × Int)) (is:List Int) (i:Int):pI ls base (is ++ [i]) = ((pI ls base is).1 ++ [fP ls i],if cZ (pI ls base is).1 (fP ls i).1 = cZ (pI ls base is).1 (fP ls i).2 then (pI ls base is).2 else (pI ls base is).2 ++ [i]):=by
 unfold pI; rw [List.foldl_append]; rfl
theorem po (ls:List A2):∀ (is:List Int) (acc:List (Int × Int) × List Int),(is.foldl (fun acc i=>(acc.1 ++ [fP ls i],if cZ acc.1 (fP ls i).1 = cZ acc.1 (fP ls i).2 then acc.2 else acc.2 ++ [i])) acc).1 = acc.1 ++ is.map (fP ls) ∧
  (is.foldl (fun acc i=>(acc.1 ++ [fP ls i],if cZ acc.1 (fP ls i).1 = cZ acc.1 (fP ls i).2 then acc.2 else acc.2 ++ [i])) acc).2.length ≤ acc.2.length + is.length
 | [],acc=>by simp
 | i :: is,acc=>by
  obtain ⟨h1,h2⟩:=po ls is (acc.1 ++ [fP ls i],if cZ acc.1 (fP ls i).1 = cZ acc.1 (fP ls i).2 then acc.2 else acc.2 ++ [i])
  rw [List.foldl_cons]
  refine ⟨by rw [h1]; simp,Nat.le_trans h2 ?_⟩
  simp only [List.length_cons]
  split <;> simp <;> omega
theorem rJ (ls:List A2) (base:List (Int × Int)) (is:List Int):(pI ls base is).1 = base ++ is.map (fP ls):=(po ls is (base,[])).1
theorem rI (ls:List A2) (base:List (Int × Int)) (is:List Int):(pI ls base is).2.length ≤ is.length:=by
 have h:=(po ls is (base,[])).2
 rw [List.length_nil,Nat.zero_add] at h
 exact h
theorem lN (fx:List Bool) (ls:List A2):(od fx ls).length ≤ ls.length:=by
 unfold od; rw [List.length_map]; refine Nat.le_trans (List.length_filter_le _ _) (by simp)
theorem dh {fx:List Bool} {ls:List A2} {i:Int}:i ∈ od fx ls ↔ 0 ≤ i ∧ i < ls.length ∧ nm fx (idx ls i):=by
 simp only [od,List.mem_map,List.mem_filter,List.mem_range,decide_eq_true_eq]
 constructor
 ·rintro ⟨k,⟨h1,h2⟩,rfl⟩; exact ⟨by omega,by omega,h2⟩
 ·rintro ⟨h1,h2,h3⟩; exact ⟨i.toNat,⟨by omega,by rw [show ((i.toNat:Nat):Int) = i by omega]; exact h3⟩,by omega⟩
def aps (fx:List Bool) (ls:List A2):List (Int × Int):=kB fx fx.length ++ (od fx ls).map (fP ls)
theorem oL {F:Nat} {fx:List Bool} {ls:List A2} (hF:2 * (fx.length + ls.length) + 1 < F) (hL:ls.length ≤ 1000000) (hg:Gr fx ls):ak (cW F fx ls) fun z=>St z.1 (aps fx ls) ∧ z.2 = (pI ls (kB fx fx.length) (od fx ls)).2:=by
 have hx:=hg.1
 unfold cW
 refine ak.bind (P:=fun up=>St up (kB fx fx.length)) ?_ fun up hup=>?_
 ·refine ak.ea2 (fun pre up=>St up (kB fx pre.length)) (by omega) (by omega) (by simpa [kB] using St.nil) (fun pre x post up e hxi hI=>?_) fun up h=>h
  have hxe:idx fx (pre.length:Int) = x:=re hxi
  have hpl:pre.length < fx.length:=by rw [e]; simp
  refine ak.bind (P:=fun up'=>St up' (kB fx (pre ++ [x]).length)) ?_ fun up' h=>ak.some (.inl ⟨up',rfl,h⟩)
  rw [List.length_append,List.length_singleton,tV,hxe]
  refine ak.bA hxi (ak.ite (fun hc=>?_) (fun hc=>?_))
  ·have hc:x = false:=by simpa using hc
   refine ak.bind (hI.root (x:=(pre.length:Int)) (by have:=nB fx pre.length; omega)) ?_
   rintro ⟨a,m'⟩ h
   exact ak.some (by rw [if_pos hc]; exact h)
  ·have hc:x = true:=by simpa using hc
   exact ak.some (by rw [if_neg (by simp [hc]),List.append_nil]; exact hI)
 ·refine ak.bind (P:=fun z=>St z.1 (aps fx ls) ∧ z.2 = (pI ls (kB fx fx.length) (od fx ls)).2) ?_ (by rintro ⟨a,b⟩ h; exact ak.some h)
  refine ak.bA (sU (by omega) hL hg) ?_
  have hml:=lN fx ls
  have hal:=nB fx fx.length
  refine ak.ea3 (fun pre up out=>St up (kB fx fx.length ++ pre.map (fP ls)) ∧ out = (pI ls (kB fx fx.length) pre).2) (by omega) (by omega) ⟨by simpa using hup,by simp [pI]⟩ (fun pre x post up out e hxi hI=>?_) fun up out h=>h
  obtain ⟨hI,ho⟩:=hI
  have hxm:x ∈ od fx ls:=by rw [e]; simp
  obtain ⟨i1,i2,i3⟩:=dh.1 hxm
  have hpl:pre.length < (od fx ls).length:=by rw [e]; simp
  refine ak.bind (P:=fun z=>St z.1 (kB fx fx.length ++ (pre ++ [x]).map (fP ls)) ∧ z.2 = (pI ls (kB fx fx.length) (pre ++ [x])).2) ?_ (by rintro ⟨a,b⟩ h; exact ak.some (.inl ⟨a,b,rfl,h⟩))
  refine ak.bA hxi (ak.idx i1 (by omega) (ak.idx i1 (by omega) ?_))
  refine ak.bind (hI.join (x:=(idx ls x).a0) (y:=(idx ls x).a1) (by simp; omega)) ?_
  rintro ⟨b,m'⟩ ⟨h1,h2⟩
  simp only at h1 h2
  have hps:kB fx fx.length ++ (pre ++ [x]).map (fP ls) = kB fx fx.length ++ pre.map (fP ls) ++ [((idx ls x).a0,(idx ls x).a1)]:=by simp [fP]
  have hfl:=rI ls (kB fx fx.length) pre
  rw [hps,p7,rJ]
  subst h1
  refine ak.ite (fun hc=>?_) (fun hc=>?_)
  ·have hc:=of_decide_eq_true hc
   refine ak.app (by rw [ho]; simp only [List.length_singleton]; omega) (ak.some ⟨h2,?_⟩)
   rw [ho]; exact (if_neg hc).symm
  ·have hc:=of_decide_eq_false hc
   have hc:cZ (kB fx fx.length ++ pre.map (fP ls)) (idx ls x).a0 = cZ (kB fx fx.length ++ pre.map (fP ls)) (idx ls x).a1:=by
    by_cases e:cZ (kB fx fx.length ++ pre.map (fP ls)) (idx ls x).a0 = cZ (kB fx fx.length ++ pre.map (fP ls)) (idx ls x).a1
    ·exact e
    ·exact absurd e hc
   refine ak.some ⟨h2,?_⟩
   rw [ho]; exact (if_pos hc).symm
def Lk (fx:List Bool) (ls:List A2) (a b:Int):Prop:=∃ l ∈ ls,nm fx l ∧ l.a0 = a ∧ l.a1 = b
def Mv (fx:List Bool) (a:Int):Prop:=0 ≤ a ∧ a < fx.length ∧ idx fx a = false
theorem gh {fx:List Bool} {p:Int × Int}:p ∈ kB fx fx.length ↔ Mv fx p.1 ∧ p.2 = p.1:=by
 obtain ⟨a,b⟩:=p
 simp only [kB,List.mem_map,List.mem_filter,List.mem_range,decide_eq_true_eq,Prod.mk.injEq,Mv]
 constructor
 ·rintro ⟨k,⟨h1,h2⟩,rfl,rfl⟩; exact ⟨⟨by omega,by omega,h2⟩,rfl⟩
 ·rintro ⟨⟨h1,h2,h3⟩,rfl⟩; exact ⟨b.toNat,⟨by omega,by rw [show ((b.toNat:Nat):Int) = b by omega]; exact h3⟩,by omega,by omega⟩
theorem gg {fx:List Bool} {ls:List A2} {a b:Int}:(a,b) ∈ (od fx ls).map (fP ls) ↔ Lk fx ls a b:=by
 simp only [List.mem_map,dh,fP,Prod.mk.injEq,Lk]
 constructor
 ·rintro ⟨i,⟨h1,h2,h3⟩,rfl,rfl⟩; exact ⟨idx ls i,du h1 h2,h3,rfl,rfl⟩
 ·rintro ⟨l,hl,h3,rfl,rfl⟩
  obtain ⟨k,hk,e⟩:=List.getElem_of_mem hl
  have:idx ls (k:Int) = l:=by rw [cT _ _ hk]; exact e
  exact ⟨(k:Int),⟨by omega,by omega,by rw [this]; exact h3⟩,by rw [this],by rw [this]⟩
theorem find_ok {F:Nat} {fx:List Bool} {ls:List A2} (hF:2 * (fx.length + ls.length) + 1 < F) (hF2:F ≤ 100000000) (hL:ls.length ≤ 1000000):ak (cr F fx ls) fun z=>(Gr fx ls ∧ z.2 = 0 ∧ Part (Lk fx ls) (Mv fx) z.1) ∨ (¬ Gr fx ls ∧ z = ([],1)):=by
 unfold cr
 refine ak.bind (p6 (by omega) (by omega)) fun r hr=>?_
 refine ak.ite (fun hc=>ak.some (.inr ⟨fun h=>by simp [hr.2 h] at hc,rfl⟩)) (fun hc=>?_)
 have hg:Gr fx ls:=hr.1 (by simpa using hc)
 refine ak.bind (oL hF hL hg) ?_
 rintro ⟨m,out⟩ ⟨h1,h2⟩
 have hlen:(aps fx ls).length ≤ fx.length + ls.length:=by
  unfold aps; rw [List.length_append,List.length_map]; have:=nB fx fx.length; have:=lN fx ls; omega
 refine ak.bind (rX hF2 h1 (by omega)) ?_
 rintro ⟨o,m'⟩ ⟨hp,_⟩
 refine ak.some (.inl ⟨hg,rfl,hp.congr (dN.congr (fun a b hab=>?_) (fun a b hab=>?_)) fun a=>?_⟩)
 ·rcases List.mem_append.1 hab with hab | hab
  ·have:=(gh.1 hab).2
   simp only at this; subst this; exact .rfl _
  ·exact .of (gg.1 hab)
 ·exact .of (List.mem_append.2 (.inr (gg.2 hab)))
 ·constructor
  ·rintro ⟨p,hp,h⟩
   rcases List.mem_append.1 hp with hp | hp
   ·obtain ⟨h3,h4⟩:=gh.1 hp
    rcases h with h | h
    ·rw [h]; exact h3
    ·rw [h,h4]; exact h3
   ·obtain ⟨l,hl,⟨m1,m2⟩,e1,e2⟩:=gg.1 (show (p.1,p.2) ∈ _ from hp)
    obtain ⟨a1,a2,a3,a4,_⟩:=hg.2 l hl
    rcases h with h | h
    ·rw [h,← e1]; exact ⟨a1,a2,m1⟩
    ·rw [h,← e2]; exact ⟨a3,a4,m2⟩
  ·intro h
   exact ⟨(a,a),List.mem_append.2 (.inl (gh.2 ⟨h,rfl⟩)),.inl rfl⟩
theorem tI {fx:List Bool} {P:Int → Int → Prop} {Q:List (List Int)} (hp:Part P (Mv fx) Q):Q.length ≤ fx.length ∧ ∀ c ∈ Q,c.length ≤ fx.length:=by
 have hB:∀ a,Mv fx a → a ∈ (List.range fx.length).map fun i:Nat=>(i:Int):=fun a ⟨h0,h1,_⟩=>List.mem_map.2 ⟨a.toNat,List.mem_range.2 (by omega),by omega⟩
 have h1:=qA hp.toIsPt hB
 refine ⟨by simpa using h1,fun c hc=>?_⟩
 have:=rP hp.toIsPt hB hc
 simpa using this
def oS (fx:List Bool) (ls:List A2):List (List Int):=(kB fx fx.length).map (fun p=>[p.1]) ++ (od fx ls).map fun i=>[(idx ls i).a0,(idx ls i).a1]
theorem lO {fx:List Bool} {ls:List A2} {c:List Int}:c ∈ oS fx ls ↔ (∃ a,Mv fx a ∧ c = [a]) ∨ ∃ l ∈ ls,nm fx l ∧ c = [l.a0,l.a1]:=by
 unfold oS
 rw [List.mem_append,List.mem_map,List.mem_map]
 constructor
 ·rintro (⟨p,hp,rfl⟩ | ⟨i,hi,rfl⟩)
  ·exact .inl ⟨p.1,(gh.1 hp).1,rfl⟩
  ·obtain ⟨h1,h2,h3⟩:=dh.1 hi
   exact .inr ⟨idx ls i,du h1 h2,h3,rfl⟩
 ·rintro (⟨a,ha,rfl⟩ | ⟨l,hl,hm,rfl⟩)
  ·exact .inl ⟨(a,a),gh.2 ⟨ha,rfl⟩,rfl⟩
  ·obtain ⟨k,hk,e⟩:=List.getElem_of_mem hl
   have e':idx ls (k:Int) = l:=by rw [cT _ _ hk]; exact e
   exact .inr ⟨(k:Int),dh.2 ⟨by omega,by omega,by rw [e']; exact hm⟩,by rw [e']⟩
theorem p5 {fx:List Bool} {ls:List A2} (hg:Gr fx ls) {o:List (List Int)}:Part (pr (oS fx ls)) (dm (oS fx ls)) o ↔ Part (Lk fx ls) (Mv fx) o:=by
 have h1:∀ a b,pr (oS fx ls) a b → dN (Lk fx ls) a b:=by
  rintro a b ⟨c,hc,ha,hb⟩
  rcases lO.1 hc with ⟨x,_,rfl⟩ | ⟨l,hl,hm,rfl⟩
  ·rw [List.mem_singleton.1 ha,List.mem_singleton.1 hb]; exact .rfl _
  ·have hlk:dN (Lk fx ls) l.a0 l.a1:=.of ⟨l,hl,hm,rfl,rfl⟩
   simp only [List.mem_cons,List.not_mem_nil,or_false] at ha hb
   rcases ha with rfl | rfl <;> rcases hb with rfl | rfl
   ·exact .rfl _
   ·exact hlk
   ·exact hlk.symm
   ·exact .rfl _
 have h2:∀ a b,Lk fx ls a b → dN (pr (oS fx ls)) a b:=by
  rintro a b ⟨l,hl,hm,rfl,rfl⟩
  exact .of ⟨[l.a0,l.a1],lO.2 (.inr ⟨l,hl,hm,rfl⟩),by simp,by simp⟩
 have h3:∀ a,dm (oS fx ls) a ↔ Mv fx a:=fun a=>by
  constructor
  ·rintro ⟨c,hc,ha⟩
   rcases lO.1 hc with ⟨x,hx,rfl⟩ | ⟨l,hl,⟨m1,m2⟩,rfl⟩
   ·rw [List.mem_singleton.1 ha]; exact hx
   ·obtain ⟨a1,a2,a3,a4,_⟩:=hg.2 l hl
    simp only [List.mem_cons,List.not_mem_nil,or_false] at ha
    rcases ha with rfl | rfl
    ·exact ⟨a1,a2,m1⟩
    ·exact ⟨a3,a4,m2⟩
  ·exact fun h=>⟨[a],lO.2 (.inl ⟨a,h,rfl⟩),by simp⟩
 exact ⟨fun h=>h.congr (dN.congr h1 h2) h3,fun h=>h.congr (dN.congr h2 h1) fun a=>(h3 a).symm⟩
theorem valid35 {F:Nat} {fx:List Bool} {ls:List A2} (hF:ls.length < F) (hL:ls.length ≤ 9223372036854775807):ak (cg F fx ls) fun r=>(r = true ↔ Gr fx ls):=by
 unfold cg
 refine ak.ite (fun hc=>ak.some ?_) (fun hc=>?_)
 ·have:=of_decide_eq_true hc
  exact ⟨fun h=>(by cases h),fun h=>absurd h.1 (by omega)⟩
 ·have hc:=of_decide_eq_false hc
  refine ak.bind (P:=fun o=>(o = .inl () ∧ Gr fx ls) ∨ (o = .inr false ∧ ¬ Gr fx ls)) ?_ ?_
  ·refine ak.ea1 (fun pre=>∀ l ∈ pre,Lnk fx.length l) hF hL (by simp) (fun pre x post e hx hI=>?_) fun h=>.inl ⟨rfl,by omega,h⟩
   refine ak.bA hx (ak.bA hx (ak.ln (ak.ln (ak.ite (fun h=>ak.some (.inr ⟨_,rfl,.inr ⟨rfl,fun hg=>?_⟩⟩)) (fun h=>ak.some (.inl ⟨rfl,fun l hl=>?_⟩))))))
   ·obtain ⟨a1,a2,a3,a4,a5⟩:=hg.2 x (by rw [e]; simp)
    simp only [Bool.or_eq_true,decide_eq_true_eq] at h
    omega
   ·rcases List.mem_append.1 hl with hl | hl
    ·exact hI l hl
    ·rw [List.mem_singleton.1 hl]
     simp only [Bool.or_eq_false_iff,decide_eq_false_iff_not] at h
     exact ⟨by omega,by omega,by omega,by omega,h.2⟩
  ·rintro o (⟨rfl,h⟩ | ⟨rfl,h⟩)
   ·exact ak.some ⟨fun _=>h,fun _=>rfl⟩
   ·exact ak.some ⟨fun h'=>(by cases h'),fun h'=>absurd h' h⟩
theorem ils_len (fx:List Bool) (ls:List A2):(oS fx ls).length ≤ fx.length + ls.length:=by
 unfold oS
 rw [List.length_append,List.length_map,List.length_map]
 have:=nB fx fx.length; have:=lN fx ls; omega
theorem p9:∀ {L:List (List Int)},(∀ c ∈ L,c.length ≤ 2) → L.flatten.length ≤ 2 * L.length
 | [],_=>by simp
 | c :: L,h=>by
  have:=p9 (L:=L) fun d hd=>h d (List.mem_cons_of_mem _ hd)
  have:=h c (List.mem_cons_self ..)
  simp only [List.flatten_cons,List.length_append,List.length_cons]; omega
theorem sV {fx:List Bool} {ls:List A2} (h:fx.length + ls.length < 490):Sz (oS fx ls):=by
 have h1:=ils_len fx ls
 have h2:=p9 (L:=oS fx ls) fun c hc=>by
  rcases lO.1 hc with ⟨a,_,rfl⟩ | ⟨l,_,_,rfl⟩ <;> simp
 exact ⟨by omega,by omega⟩
theorem lX {fx:List Bool} {ls:List A2} (h:fx.length + ls.length < 490) (hg:Gr fx ls):Part (Lk fx ls) (Mv fx) (mg (oS fx ls)):=(p5 hg).1 (rC (sV h)).2
open Classical in
theorem j6 {fx:List Bool} {ls:List A2} (h:fx.length + ls.length < 490):cr 2000 fx ls = some (if Gr fx ls then (mg (oS fx ls),0) else ([],1)):=by
 obtain ⟨z,e,hz⟩:=find_ok (F:=2000) (fx:=fx) (ls:=ls) (by omega) (by omega) (by omega)
 rw [e]
 rcases hz with ⟨hg,h0,hp⟩ | ⟨hg,rfl⟩
 ·rw [if_pos hg,mg_uniq (sV h) ((p5 hg).2 hp),← h0]
 ·rw [if_neg hg]
open Classical in
def sx (ls:List A2) (a b:Int):Prop:=∃ l ∈ ls,(l.a0 = a ∧ l.a1 = b) ∨ (l.a0 = b ∧ l.a1 = a)
theorem sx.symm {ls:List A2} {a b:Int} (h:sx ls a b):sx ls b a:=by
 obtain ⟨l,hl,h⟩:=h; exact ⟨l,hl,h.symm⟩
theorem sx.q8 {fx:List Bool} {ls:List A2} {a b:Int} (hg:Gr fx ls) (h:sx ls a b):0 ≤ a ∧ a < fx.length ∧ 0 ≤ b ∧ b < fx.length ∧ a ≠ b:=by
 obtain ⟨l,hl,h⟩:=h
 obtain ⟨a1,a2,a3,a4,a5⟩:=hg.2 l hl
 rcases h with ⟨rfl,rfl⟩ | ⟨rfl,rfl⟩
 ·exact ⟨a1,a2,a3,a4,a5⟩
 ·exact ⟨a3,a4,a1,a2,Ne.symm a5⟩
def Ends (ls:List A2) (i a b:Int):Prop:=((idx ls i).a0 = a ∧ (idx ls i).a1 = b) ∨ ((idx ls i).a0 = b ∧ (idx ls i).a1 = a)
theorem Ends.symm {ls:List A2} {i a b:Int} (h:Ends ls i a b):Ends ls i b a:=Or.symm h
structure Nr (n:Nat) (ls:List A2) (is:List Int) (near:List (List jh)):Prop where
 len:near.length = n
 mem:∀ v:Int,0 ≤ v → v < n → ∀ e,e ∈ idx near v ↔ e.pos ∈ is ∧ Ends ls e.pos v e.to
 nd:∀ v:Int,0 ≤ v → v < n → ((idx near v).map (·.pos)).Nodup
theorem Nr.le {n:Nat} {ls:List A2} {is:List Int} {near:List (List jh)} (h:Nr n ls is near) {v:Int} (h0:0 ≤ v) (h1:v < n):(idx near v).length ≤ is.length:=by
 have:=my (h.nd v h0 h1) (m:=is) fun a ha=>by
  obtain ⟨e,he,rfl⟩:=List.mem_map.1 ha
  exact ((h.mem v h0 h1 e).1 he).1
 simpa using this
theorem near_ok {F n:Nat} {ls:List A2} {is:List Int} (hF:is.length < F) (hL:is.length ≤ 1000000) (hn:n ≤ 1000000) (hin:∀ i ∈ is,0 ≤ i ∧ i < ls.length ∧ Lnk n (idx ls i)) (hnd:is.Nodup):ak (cC F (n:Int) ls is) (Nr n ls is):=by
 unfold cC
 refine ak.bA (x:=List.replicate n []) (by unfold mk?; rw [if_pos (by omega)]; rfl) (ak.bind (P:=Nr n ls is) ?_ fun _ h=>ak.some h)
 refine ak.ea2 (fun pre s=>Nr n ls pre s) hF (by omega) ⟨by simp,fun v h0 h1 e=>by rw [lQ h0 h1]; simp,fun v h0 h1=>by rw [lQ h0 h1]; simp⟩ (fun pre x post out e hxi hI=>?_) fun s h=>h
 obtain ⟨i1,i2,a1,a2,a3,a4,a5⟩:=hin x (by rw [e]; simp)
 have hxp:x ∉ pre:=fun h=>by
  have:=(List.nodup_append.1 (e ▸ hnd)).2.2 x h x (List.mem_cons_self ..)
  exact this rfl
 have hpl:pre.length < is.length:=by rw [e]; simp
 have l0:=hI.le a1 a2
 have l1:=hI.le a3 a4
 have hl:=hI.len
 have e1:idx (out.set (idx ls x).a0.toNat (idx out (idx ls x).a0 ++ [⟨(idx ls x).a1,x⟩])) (idx ls x).a1 = idx out (idx ls x).a1:=by
  rw [fE a1 (by omega) a3,if_neg (fun h=>a5 h.symm)]
 refine ak.bA hxi (ak.idx i1 i2 (ak.idx i1 i2 (ak.idx a1 (by omega) (ak.app (by simp only [List.length_singleton]; omega) (ak.idx a1 (by omega) (ak.idx a3 (by rw [List.length_set]; omega) ?_))))))
 rw [e1]
 refine ak.app (by simp only [List.length_singleton]; omega) (ak.idx a3 (by rw [List.length_set]; omega) (ak.some (.inl ⟨_,rfl,?_⟩)))
 have ei:∀ v:Int,0 ≤ v → idx ((out.set (idx ls x).a0.toNat (idx out (idx ls x).a0 ++ [⟨(idx ls x).a1,x⟩])).set (idx ls x).a1.toNat (idx out (idx ls x).a1 ++ [⟨(idx ls x).a0,x⟩])) v = if v = (idx ls x).a1 then idx out v ++ [⟨(idx ls x).a0,x⟩] else if v = (idx ls x).a0 then idx out v ++ [⟨(idx ls x).a1,x⟩] else idx out v:=fun v h0=>by
  rw [fE a3 (by rw [List.length_set]; omega) h0,fE a1 (by omega) h0]
  by_cases c:v = (idx ls x).a1
  ·rw [if_pos c,if_pos c,c]
  ·rw [if_neg c,if_neg c]
   by_cases c:v = (idx ls x).a0
   ·rw [if_pos c,if_pos c,c]
   ·rw [if_neg c,if_neg c]
 have hnp:∀ v:Int,0 ≤ v → v < n → ∀ t,((idx out v ++ [(⟨t,x⟩:jh)]).map (·.pos)).Nodup:=fun v h0 h1 t=>by
  rw [List.map_append,List.nodup_append]
  refine ⟨hI.nd v h0 h1,by simp,fun p hp q hq=>?_⟩
  simp only [List.map_cons,List.map_nil,List.mem_singleton] at hq
  rw [hq]
  rintro rfl
  obtain ⟨e2,he,rfl⟩:=List.mem_map.1 hp
  exact hxp ((hI.mem v h0 h1 e2).1 he).1
 refine ⟨by rw [List.length_set,List.length_set]; exact hl,fun v h0 h1 d=>?_,fun v h0 h1=>?_⟩
 ·rw [ei v h0]
  have hm:=hI.mem v h0 h1 d
  have hends:d.pos = x → (Ends ls d.pos v d.to ↔ (v = (idx ls x).a1 ∧ d.to = (idx ls x).a0) ∨ (v = (idx ls x).a0 ∧ d.to = (idx ls x).a1)):=fun h=>by
   unfold Ends; rw [h]
   constructor
   ·rintro (⟨h1,h2⟩ | ⟨h1,h2⟩)
    ·exact .inr ⟨h1.symm,h2.symm⟩
    ·exact .inl ⟨h2.symm,h1.symm⟩
   ·rintro (⟨h1,h2⟩ | ⟨h1,h2⟩)
    ·exact .inr ⟨h2.symm,h1.symm⟩
    ·exact .inl ⟨h1.symm,h2.symm⟩
  have key:(d.pos ∈ pre ++ [x] ∧ Ends ls d.pos v d.to) ↔ d ∈ idx out v ∨ (d.pos = x ∧ ((v = (idx ls x).a1 ∧ d.to = (idx ls x).a0) ∨ (v = (idx ls x).a0 ∧ d.to = (idx ls x).a1))):=by
   rw [hm,List.mem_append,List.mem_singleton]
   constructor
   ·rintro ⟨h | h,he⟩
    ·exact .inl ⟨h,he⟩
    ·exact .inr ⟨h,(hends h).1 he⟩
   ·rintro (⟨h,he⟩ | ⟨h,he⟩)
    ·exact ⟨.inl h,he⟩
    ·exact ⟨.inr h,(hends h).2 he⟩
  rw [key]
  have hex:∀ t,d = (⟨t,x⟩:jh) ↔ d.pos = x ∧ d.to = t:=fun t=>by
   cases d; simp; exact and_comm
  split
  ·next c=>rw [List.mem_append,List.mem_singleton,hex,c]; simp [Ne.symm a5]
  ·next c=>
   split
   ·next c'=>rw [List.mem_append,List.mem_singleton,hex,c']; simp [a5]
   ·next c'=>simp [c,c']
 ·rw [ei v h0]
  split
  ·exact hnp v h0 h1 _
  ·split
   ·exact hnp v h0 h1 _
   ·exact hI.nd v h0 h1
structure Lv (fx:List Bool) (ls:List A2) (o:List Int):Prop where
 len:o.length = fx.length
 low:∀ v:Int,0 ≤ v → v < fx.length → -1 ≤ idx o v
 fix:∀ v:Int,0 ≤ v → v < fx.length → (idx fx v = true ↔ idx o v = 0)
 prev:∀ v:Int,0 ≤ v → v < fx.length → 0 < idx o v → ∃ u,sx ls v u ∧ idx o u = idx o v - 1
 next:∀ a b,sx ls a b → 0 ≤ idx o a → 0 ≤ idx o b ∧ idx o b ≤ idx o a + 1
theorem chain {fx:List Bool} {ls:List A2} {o:List Int} (hg:Gr fx ls) (prev:∀ v:Int,0 ≤ v → v < fx.length → 0 < idx o v → ∃ u,sx ls v u ∧ idx o u = idx o v - 1) :
  ∀ (k:Nat) (v:Int),0 ≤ v → v < fx.length → idx o v = k → ∃ L:List Int,L.length = k + 1 ∧ L.Nodup ∧ ∀ a ∈ L,0 ≤ a ∧ a < fx.length ∧ idx o a ≤ k
 | 0,v,h0,h1,h=>⟨[v],rfl,by simp,fun a ha=>by rw [List.mem_singleton.1 ha]; exact ⟨h0,h1,by omega⟩⟩
 | k + 1,v,h0,h1,h=>by
  obtain ⟨u,hu,e⟩:=prev v h0 h1 (by omega)
  obtain ⟨r1,r2,r3,r4,_⟩:=hu.q8 hg
  obtain ⟨L,l1,l2,l3⟩:=chain hg prev k u r3 r4 (by omega)
  refine ⟨v :: L,by simp [l1],List.nodup_cons.2 ⟨fun hv=>?_,l2⟩,fun a ha=>?_⟩
  ·have:=(l3 v hv).2.2; omega
  ·rcases List.mem_cons.1 ha with rfl | ha
   ·exact ⟨h0,h1,by omega⟩
   ·obtain ⟨p1,p2,p3⟩:=l3 a ha; exact ⟨p1,p2,by omega⟩
theorem Lv.le {fx:List Bool} {ls:List A2} {o p:List Int} (hg:Gr fx ls) (ho:Lv fx ls o) (hp:Lv fx ls p):∀ (k:Nat) (v:Int),0 ≤ v → v < fx.length → idx o v = k → 0 ≤ idx p v ∧ idx p v ≤ k
 | 0,v,h0,h1,h=>by
  have:=(hp.fix v h0 h1).1 ((ho.fix v h0 h1).2 h); omega
 | k + 1,v,h0,h1,h=>by
  obtain ⟨u,hu,e⟩:=ho.prev v h0 h1 (by omega)
  obtain ⟨r1,r2,r3,r4,_⟩:=hu.q8 hg
  obtain ⟨q1,q2⟩:=Lv.le hg ho hp k u r3 r4 (by omega)
  have:=hp.next u v hu.symm q1
  omega
theorem Lv.uniq {fx:List Bool} {ls:List A2} {o p:List Int} (hg:Gr fx ls) (ho:Lv fx ls o) (hp:Lv fx ls p):o = p:=by
 refine List.ext_getElem (by rw [ho.len,hp.len]) fun i h1 h2=>?_
 have hl:=ho.len
 rw [← cT _ _ h1,← cT _ _ h2]
 have b1:=ho.low i (by omega) (by omega)
 have b2:=hp.low i (by omega) (by omega)
 by_cases c:0 ≤ idx o (i:Int)
 ·have r1:=Lv.le hg ho hp (idx o (i:Int)).toNat i (by omega) (by omega) (by omega)
  have r2:=Lv.le hg hp ho (idx p (i:Int)).toNat i (by omega) (by omega) (by omega)
  omega
 ·by_cases c':0 ≤ idx p (i:Int)
  ·have r2:=Lv.le hg hp ho (idx p (i:Int)).toNat i (by omega) (by omega) (by omega)
   omega
  ·omega
structure Bf (fx:List Bool) (ls:List A2) (D q out:List Int):Prop where
 len:out.length = fx.length
 low:∀ v:Int,0 ≤ v → v < fx.length → -1 ≤ idx out v
 fix:∀ v:Int,0 ≤ v → v < fx.length → (idx fx v = true ↔ idx out v = 0)
 prev:∀ v:Int,0 ≤ v → v < fx.length → 0 < idx out v → ∃ u,sx ls v u ∧ idx out u = idx out v - 1
 seen:∀ v:Int,0 ≤ v → v < fx.length → (0 ≤ idx out v ↔ v ∈ D ++ q)
 q8:∀ v ∈ D ++ q,0 ≤ v ∧ v < fx.length
 nd:(D ++ q).Nodup
 don:∀ v ∈ D,∀ w,sx ls v w → 0 ≤ idx out w ∧ idx out w ≤ idx out v + 1
 srt:q.Pairwise fun a b=>idx out a ≤ idx out b
 top:∀ w ∈ D ++ q,∀ a ∈ q,idx out w ≤ idx out a + 1
theorem Bf.push {fx:List Bool} {ls:List A2} {D q out:List Int} {v w:Int} (hg:Gr fx ls) (h:Bf fx ls D (v :: q) out) (hw:idx out w < 0) (ha:sx ls v w):Bf fx ls D (v :: (q ++ [w])) (out.set w.toNat (idx out v + 1)) ∧ idx (out.set w.toNat (idx out v + 1)) v = idx out v:=by
 obtain ⟨r1,r2,r3,r4,r5⟩:=ha.q8 hg
 have hl:=h.len
 have ei:∀ u:Int,0 ≤ u → idx (out.set w.toNat (idx out v + 1)) u = if u = w then idx out v + 1 else idx out u:=fun u hu=>fE r3 (by omega) hu
 have hv0:0 ≤ idx out v:=(h.seen v r1 r2).2 (by simp)
 have hwn:w ∉ D ++ v :: q:=fun hm=>by have:=(h.seen w r3 r4).2 hm; omega
 have es:∀ u ∈ D ++ v :: q,idx (out.set w.toNat (idx out v + 1)) u = idx out u:=fun u hu=>by
  rw [ei u (h.q8 u hu).1,if_neg (by rintro rfl; exact hwn hu)]
 have ew:idx (out.set w.toNat (idx out v + 1)) w = idx out v + 1:=by rw [ei w r3,if_pos rfl]
 have hm:∀ u,u ∈ D ++ v :: (q ++ [w]) ↔ u ∈ D ++ v :: q ∨ u = w:=fun u=>by simp [or_assoc]
 refine ⟨⟨by rw [List.length_set]; exact hl,fun u h0 h1=>?_,fun u h0 h1=>?_,fun u h0 h1 hp=>?_,fun u h0 h1=>?_,fun u hu=>?_,?_,fun u hu z hz=>?_,?_,fun u hu a haq=>?_⟩,es v (by simp)⟩
 ·rw [ei u h0]; split
  ·omega
  ·exact h.low u h0 h1
 ·rw [ei u h0]; split
  ·next e=>
   subst e
   have:=h.fix u h0 h1
   exact ⟨fun hx=>by have:=this.1 hx; omega,fun hx=>by omega⟩
  ·exact h.fix u h0 h1
 ·by_cases c:u = w
  ·subst c
   exact ⟨v,ha.symm,by rw [es v (by simp),ew]; omega⟩
  ·rw [ei u h0,if_neg c] at hp ⊢
   obtain ⟨z,hz,e⟩:=h.prev u h0 h1 hp
   obtain ⟨_,_,z3,z4,_⟩:=hz.q8 hg
   exact ⟨z,hz,by rw [ei z z3,if_neg (by rintro rfl; omega)]; exact e⟩
 ·rw [ei u h0,hm]; split
  ·next e=>exact ⟨fun _=>.inr e,fun _=>by omega⟩
  ·next e=>rw [h.seen u h0 h1]; simp [e]
 ·rcases (hm u).1 hu with hu | rfl
  ·exact h.q8 u hu
  ·exact ⟨r3,r4⟩
 ·have:D ++ v :: (q ++ [w]) = (D ++ v :: q) ++ [w]:=by simp
  rw [this,List.nodup_append]
  exact ⟨h.nd,by simp,fun a ham b hb=>by rw [List.mem_singleton.1 hb]; rintro rfl; exact hwn ham⟩
 ·have h1:=h.don u hu z hz
  obtain ⟨z1,z2,z3,z4,_⟩:=hz.q8 hg
  rw [es u (by simp [hu]),ei z z3,if_neg (by rintro rfl; omega)]
  exact h1
 ·have e:v :: (q ++ [w]) = (v :: q) ++ [w]:=rfl
  rw [e,List.pairwise_append]
  refine ⟨h.srt.imp_of_mem ?_,by simp,fun a ha' b hb=>?_⟩
  ·intro a b ha hb hab
   rw [es a (by simp only [List.mem_append]; exact .inr ha),es b (by simp only [List.mem_append]; exact .inr hb)]; exact hab
  ·rw [List.mem_singleton.1 hb,ew,es a (by simp only [List.mem_append]; exact .inr ha')]
   exact h.top a (by simp only [List.mem_append]; exact .inr ha') v (by simp)
 ·have hq:∀ a ∈ v :: q,idx out v ≤ idx out a:=fun a ha=>by
   rcases List.mem_cons.1 ha with rfl | ha
   ·exact Int.le_refl _
   ·exact (List.pairwise_cons.1 h.srt).1 a ha
  have haq:a ∈ v :: q ∨ a = w:=by
   rcases List.mem_cons.1 haq with rfl | h
   ·exact .inl (by simp)
   ·rcases List.mem_append.1 h with h | h
    ·exact .inl (by simp [h])
    ·exact .inr (by simpa using h)
  rcases (hm u).1 hu with hu' | rfl
  ·rw [es u hu']
   rcases haq with haq | rfl
   ·rw [es a (by simp only [List.mem_append]; exact .inr haq)]; exact h.top u hu' a haq
   ·rw [ew]; have:=h.top u hu' v (by simp); omega
  ·rw [ew]
   rcases haq with haq | rfl
   ·rw [es a (by simp only [List.mem_append]; exact .inr haq)]; have:=hq a haq; omega
   ·rw [ew]; omega
structure Gph (n:Nat) (E:Int → Int → Int → Prop):Prop where
 sym:∀ {i a b},E i a b → E i b a
 q8:∀ {i a b},E i a b → 0 ≤ a ∧ a < n
 ne:∀ {i a b},E i a b → a ≠ b
 pos:∀ {i a b},E i a b → 0 ≤ i
 uni:∀ {i a b c d},E i a b → E i c d → (c = a ∧ d = b) ∨ (c = b ∧ d = a)
abbrev CX (E:Int → Int → Int → Prop) (X:Int → Prop):=dN fun a b=>∃ i,E i a b ∧ X a ∧ X b
abbrev CV (E:Int → Int → Int → Prop) (v:Int):=dN fun a b=>∃ i,E i a b ∧ a ≠ v ∧ b ≠ v
abbrev CJ (E:Int → Int → Int → Prop) (j:Int):=dN fun a b=>∃ i,i ≠ j ∧ E i a b
def Cut (E:Int → Int → Int → Prop) (v:Int):Prop:=∃ x y i j,E i v x ∧ E j v y ∧ ¬ CV E v x y
def sr (E:Int → Int → Int → Prop) (i:Int):Prop:=∃ a b,E i a b ∧ ¬ CJ E i a b
theorem CX.mono {E:Int → Int → Int → Prop} {X Y:Int → Prop} (h:∀ a,X a → Y a) {a b:Int} (hc:CX E X a b):CX E Y a b :=
 dN.mono (fun a b ⟨i,e,x,y⟩=>.of ⟨i,e,h a x,h b y⟩) hc
theorem CX.cv {E:Int → Int → Int → Prop} {X:Int → Prop} {v:Int} (h:¬ X v) {a b:Int} (hc:CX E X a b):CV E v a b :=
 dN.mono (fun a b ⟨i,e,x,y⟩=>.of ⟨i,e,fun e=>h (e ▸ x),fun e=>h (e ▸ y)⟩) hc
theorem CX.cj {n:Nat} {E:Int → Int → Int → Prop} (G:Gph n E) {X:Int → Prop} {j a0 b0:Int} (hj:E j a0 b0) (h:¬ X a0) {a b:Int} (hc:CX E X a b):CJ E j a b :=
 dN.mono (fun a b ⟨i,e,x,y⟩=>.of ⟨i,fun e'=>by
  subst e'
  rcases G.uni hj e with ⟨rfl,rfl⟩ | ⟨rfl,rfl⟩
  ·exact h x
  ·exact h y,e⟩) hc
theorem fh {P:Int → Int → Prop} {X:Int → Prop} (h:∀ a b,P a b → (X a ↔ X b)) {a b:Int} (hc:dN P a b):X a ↔ X b :=
 hc.lift (E:=fun a b=>X a ↔ X b) (fun _=>.rfl) (fun _ _ h=>h.symm) (fun _ _ _ h1 h2=>h1.trans h2) h
def Sn (n:Nat) (seen:List Int) (x:Int):Prop:=0 ≤ x ∧ x < n ∧ 0 < idx seen x
def ni (n:Nat):List Int:=(List.range n).map fun i:Nat=>(i:Int)
theorem jq {n:Nat} {i:Int}:i ∈ ni n ↔ 0 ≤ i ∧ i < n:=by
 simp only [ni,List.mem_map,List.mem_range]
 exact ⟨by rintro ⟨k,hk,rfl⟩; omega,fun ⟨h0,h1⟩=>⟨i.toNat,by omega,by omega⟩⟩
theorem unI_nd (n:Nat):(ni n).Nodup:=by
 unfold ni
 exact List.pairwise_map.2 (List.nodup_range.imp fun h e=>h (by omega))
def un (n:Nat) (seen:List Int):Nat:=((ni n).filter fun x=>decide (idx seen x ≤ 0)).length
theorem sO {n:Nat} {seen:List Int} {v t:Int} (h0:0 ≤ v) (h1:v < n) (hl:seen.length = n) (hv:idx seen v ≤ 0) (ht:0 < t):un n (seen.set v.toNat t) + 1 = un n seen:=by
 have hm:v ∈ (ni n).filter fun x=>decide (idx seen x ≤ 0):=List.mem_filter.2 ⟨jq.2 ⟨h0,h1⟩,by simpa using hv⟩
 have e:((ni n).filter fun x=>decide (idx (seen.set v.toNat t) x ≤ 0)) = ((ni n).filter fun x=>decide (idx seen x ≤ 0)).erase v:=by
  rw [List.Nodup.erase_eq_filter ((unI_nd n).filter _),List.filter_filter]
  refine List.filter_congr fun z hz=>?_
  obtain ⟨z0,z1⟩:=jq.1 hz
  rw [fE h0 (by omega) z0,Bool.eq_iff_iff]
  simp only [decide_eq_true_eq,Bool.and_eq_true,bne_iff_ne,ne_eq]
  by_cases c:z = v
  ·simp [c]; omega
  ·simp [c]
 unfold un
 rw [e,List.length_erase_of_mem hm]
 have:=List.length_pos_of_mem hm
 omega
theorem un_pos {n:Nat} {seen:List Int} {v:Int} (h0:0 ≤ v) (h1:v < n) (hv:idx seen v ≤ 0):0 < un n seen :=
 List.length_pos_of_mem (List.mem_filter.2 ⟨jq.2 ⟨h0,h1⟩,by simpa using hv⟩:v ∈ _)
structure Ls (n:Nat) (seen low:List Int) (time:Int):Prop where
 l1:seen.length = n
 l2:low.length = n
 t0:0 ≤ time
 bd:∀ x:Int,0 ≤ x → x < n → 0 ≤ idx seen x ∧ idx seen x ≤ time
 tun:time + un n seen = n
structure sv (n:Nat) (E:Int → Int → Int → Prop) (K:Int → Prop) (v by':Int) (seen low:List Int) (time:Int):Prop extends Ls n seen low time where
 v0:0 ≤ v
 v1:v < n
 vS:¬ Sn n seen v
 p1:∀ u,Sn n seen u → ¬ K u → ∀ i w,E i u w → Sn n seen w
 p2:∀ u,K u → Sn n seen u
 p3:(by' < 0 ∧ ∀ u,¬ K u) ∨ ∃ p,0 ≤ by' ∧ K p ∧ E by' p v ∧ ∀ u,K u → CX E (Sn n seen) p u
def Tn (n:Nat) (seen seen':List Int) (x:Int):Prop:=Sn n seen' x ∧ ¬ Sn n seen x
structure bT (n:Nat) (E:Int → Int → Int → Prop) (v by':Int) (seen low:List Int) (time:Int) (br keys:List Int) (z:Int × List Int × List Int × List Int × List Int):Prop extends Ls n z.2.1 z.2.2.1 z.1 where
 inc:∀ x,Sn n seen x → Sn n z.2.1 x
 fj:∀ x,Sn n seen x → idx z.2.1 x = idx seen x ∧ idx z.2.2.1 x = idx low x
 new:∀ x,Tn n seen z.2.1 x → time < idx z.2.1 x
 hv:Tn n seen z.2.1 v ∧ idx z.2.1 v = time + 1
 cl:∀ u,Tn n seen z.2.1 u → ∀ i w,E i u w → Sn n z.2.1 w
 cn:∀ u,Tn n seen z.2.1 u → CX E (Tn n seen z.2.1) v u
 lw1:idx z.2.2.1 v ≤ time + 1
 lw2:∀ i u w,E i u w → Tn n seen z.2.1 u → Sn n seen w → i ≠ by' → idx z.2.2.1 v ≤ idx seen w
 lw3:idx z.2.2.1 v = time + 1 ∨ ∃ i u w,E i u w ∧ Tn n seen z.2.1 u ∧ Sn n seen w ∧ i ≠ by' ∧ idx z.2.2.1 v = idx seen w
 ks:∃ nk,z.2.2.2.2 = keys ++ nk ∧ nk.Nodup ∧ (∀ x,x ∈ nk ↔ Tn n seen z.2.1 x ∧ Cut E x) ∧ (nk.length:Int) ≤ z.1 - time
 bs:∃ nb,z.2.2.2.1 = br ++ nb ∧ nb.Nodup ∧ (∀ i,i ∈ nb ↔ sr E i ∧ i ≠ by' ∧ ∃ u w,E i u w ∧ Tn n seen z.2.1 u) ∧ (nb.length:Int) + 1 ≤ z.1 - time
structure Inv (n:Nat) (E:Int → Int → Int → Prop) (K:Int → Prop) (v by':Int) (seen low:List Int) (time:Int) (br keys:List Int) (pre:List Int) (sc lc:List Int) (tc:Int) (bc kc:List Int) (parts:Int):Prop extends Ls n sc lc tc where
 inc:∀ x,Sn n seen x → Sn n sc x
 inv:Sn n sc v ∧ idx sc v = time + 1
 fj:∀ x,Sn n seen x → idx sc x = idx seen x ∧ idx lc x = idx low x
 new:∀ x,Sn n sc x → ¬ Sn n seen x → x ≠ v → time + 1 < idx sc x
 don:∀ i ∈ pre,∀ w,E i v w → Sn n sc w
 cl:∀ u,Sn n sc u → ¬ Sn n seen u → u ≠ v → ∀ i w,E i u w → Sn n sc w
 con:∀ u,Sn n sc u → ¬ Sn n seen u → u ≠ v → ∃ c i,E i v c ∧ (Sn n sc c ∧ ¬ Sn n seen c ∧ c ≠ v) ∧ CX E (fun x=>Sn n sc x ∧ ¬ Sn n seen x ∧ x ≠ v) c u
 lw1:idx lc v ≤ time + 1
 lw2:∀ i u w,E i u w → ((Sn n sc u ∧ ¬ Sn n seen u ∧ u ≠ v) ∨ (u = v ∧ i ∈ pre ∧ i ≠ by')) → Sn n seen w → idx lc v ≤ idx seen w
 lw3:idx lc v = time + 1 ∨ ∃ i u w,E i u w ∧ ((Sn n sc u ∧ ¬ Sn n seen u ∧ u ≠ v) ∨ (u = v ∧ i ≠ by')) ∧ Sn n seen w ∧ idx lc v = idx seen w
 q:0 ≤ parts ∧ parts ≤ pre.length + 1
 q0:parts = 0 → by' < 0 ∧ ∀ u,Sn n sc u → ¬ Sn n seen u → u ≠ v → False
 q1:parts = 1 → ∃ b i,E i v b ∧ Sn n sc b ∧ b ≠ v ∧ (0 ≤ by' → ∀ u,K u → CX E (Sn n seen) b u) ∧ ∀ u,Sn n sc u → ¬ Sn n seen u → u ≠ v → CV E v b u
 q2:2 ≤ parts → Cut E v
 ks:∃ nk,kc = keys ++ nk ∧ nk.Nodup ∧ (∀ x,x ∈ nk ↔ (Sn n sc x ∧ ¬ Sn n seen x ∧ x ≠ v) ∧ Cut E x) ∧ (nk.length:Int) + 1 ≤ tc - time
 bs:∃ nb,bc = br ++ nb ∧ nb.Nodup ∧ (∀ i,i ∈ nb ↔ sr E i ∧ ∃ u w,E i u w ∧ (Sn n sc u ∧ ¬ Sn n seen u ∧ u ≠ v)) ∧ (nb.length:Int) + 1 ≤ tc - time
section
variable {n:Nat} {E:Int → Int → Int → Prop} {K:Int → Prop} {v by':Int} {seen low:List Int} {time:Int} {br keys:List Int}
theorem Inv.init (G:Gph n E) (P:sv n E K v by' seen low time):Inv n E K v by' seen low time br keys [] (seen.set v.toNat (time + 1)) (low.set v.toNat (time + 1)) (time + 1) br keys (if 0 ≤ by' then 1 else 0):=by
 have v0:=P.v0
 have v1:=P.v1
 have l1:=P.l1
 have l2:=P.l2
 have t0:=P.t0
 have hsv:idx seen v ≤ 0:=by
  by_cases c:0 < idx seen v
  ·exact absurd ⟨v0,v1,c⟩ P.vS
  ·omega
 have es:∀ x:Int,0 ≤ x → idx (seen.set v.toNat (time + 1)) x = if x = v then time + 1 else idx seen x:=fun x hx=>fE v0 (by omega) hx
 have el:∀ x:Int,0 ≤ x → idx (low.set v.toNat (time + 1)) x = if x = v then time + 1 else idx low x:=fun x hx=>fE v0 (by omega) hx
 have hS:∀ x,Sn n (seen.set v.toNat (time + 1)) x ↔ x = v ∨ Sn n seen x:=fun x=>by
  constructor
  ·rintro ⟨x0,x1,hx⟩
   by_cases c:x = v
   ·exact .inl c
   ·rw [es x x0,if_neg c] at hx; exact .inr ⟨x0,x1,hx⟩
  ·rintro (rfl | ⟨x0,x1,hx⟩)
   ·exact ⟨v0,v1,by rw [es _ v0,if_pos rfl]; omega⟩
   ·refine ⟨x0,x1,?_⟩
    rw [es x x0]; split <;> omega
 have hne:∀ x,Sn n seen x → x ≠ v:=fun x hx e=>P.vS (e ▸ hx)
 have hU:∀ x,Sn n (seen.set v.toNat (time + 1)) x → ¬ Sn n seen x → x ≠ v → False:=fun x h1 h2 h3=>by
  rcases (hS x).1 h1 with h | h
  ·exact h3 h
  ·exact h2 h
 refine { l1:=by simp [l1],l2:=by simp [l2],t0:=by omega,bd:=fun x x0 x1=>?_,tun:=?_,inc:=fun x hx=>(hS x).2 (.inr hx),inv:=⟨(hS v).2 (.inl rfl),by rw [es v v0,if_pos rfl]⟩,fj:=fun x hx=>?_,new:=fun x h1 h2 h3=>(hU x h1 h2 h3).elim,don:=by simp,cl:=fun u h1 h2 h3=>(hU u h1 h2 h3).elim,con:=fun u h1 h2 h3=>(hU u h1 h2 h3).elim,lw1:=?_,lw2:=?_,lw3:=?_,q:=?_,q0:=?_,q1:=?_,q2:=?_,ks:=⟨[],by simp,by simp,fun x=>?_,by simp; omega⟩,bs:=⟨[],by simp,by simp,fun i=>?_,by simp; omega⟩ }
 ·have:=P.bd x x0 x1
  rw [es x x0]; split <;> omega
 ·have h1:=sO (n:=n) (seen:=seen) (t:=time + 1) v0 v1 l1 hsv (by omega)
  have h2:=P.tun
  omega
 ·rw [es x hx.1,if_neg (hne x hx),el x hx.1,if_neg (hne x hx)]; exact ⟨rfl,rfl⟩
 ·rw [el v v0,if_pos rfl]; exact Int.le_refl _
 ·rintro i u w _ (⟨h1,h2,h3⟩ | ⟨_,h,_⟩) _
  ·exact (hU u h1 h2 h3).elim
  ·cases h
 ·exact .inl (by rw [el v v0,if_pos rfl])
 ·split <;> simp
 ·intro h
  split at h
  ·omega
  ·next c=>exact ⟨by omega,hU⟩
 ·intro h
  split at h
  ·next c=>
   rcases P.p3 with ⟨h',_⟩ | ⟨p,_,hp,he,hc⟩
   ·omega
   ·exact ⟨p,by',G.sym he,(hS p).2 (.inr (P.p2 p hp)),hne p (P.p2 p hp),fun _=>hc,fun u h1 h2 h3=>(hU u h1 h2 h3).elim⟩
  ·omega
 ·intro h
  split at h <;> omega
 ·constructor
  ·intro h; cases h
  ·rintro ⟨⟨h1,h2,h3⟩,_⟩; exact (hU x h1 h2 h3).elim
 ·constructor
  ·intro h; cases h
  ·rintro ⟨_,u,w,_,h1,h2,h3⟩; exact (hU u h1 h2 h3).elim
theorem sv.open_ (G:Gph n E) (P:sv n E K v by' seen low time) {i w:Int} (he:E i v w) (hw:Sn n seen w):K w:=by
 by_cases c:K w
 ·exact c
 ·exact absurd (P.p1 w hw c i v (G.sym he)) P.vS
theorem Inv.skip (G:Gph n E) (P:sv n E K v by' seen low time) {pre sc lc bc kc:List Int} {tc parts:Int} (I:Inv n E K v by' seen low time br keys pre sc lc tc bc kc parts) {i w:Int} (he:E i v w) (hi:i = by'):Inv n E K v by' seen low time br keys (pre ++ [i]) sc lc tc bc kc parts:=by
 have hw:Sn n seen w:=by
  subst hi
  rcases P.p3 with ⟨h,_⟩ | ⟨p,_,hp,hpe,_⟩
  ·have:=G.pos he; omega
  ·rcases G.uni hpe he with ⟨rfl,rfl⟩ | ⟨_,rfl⟩
   ·exact absurd (P.p2 _ hp) P.vS
   ·exact P.p2 _ hp
 refine { I with don:=fun j hj u hu=>?_,lw2:=fun j u z hj hu hz=>?_,q:=⟨I.q.1,by have:=I.q.2; simp; omega⟩ }
 ·rcases List.mem_append.1 hj with hj | hj
  ·exact I.don j hj u hu
  ·rw [List.mem_singleton.1 hj] at hu
   rcases G.uni he hu with ⟨_,rfl⟩ | ⟨rfl,rfl⟩
   ·exact I.inc _ hw
   ·exact absurd hw P.vS
 ·refine I.lw2 j u z hj ?_ hz
  rcases hu with hu | ⟨rfl,hj',hne⟩
  ·exact .inl hu
  ·rcases List.mem_append.1 hj' with hj' | hj'
   ·exact .inr ⟨rfl,hj',hne⟩
   ·exact absurd ((List.mem_singleton.1 hj').trans hi) hne
theorem Inv.back (G:Gph n E) (P:sv n E K v by' seen low time) {pre sc lc bc kc:List Int} {tc parts:Int} (I:Inv n E K v by' seen low time br keys pre sc lc tc bc kc parts) {i w:Int} (he:E i v w) (hi:i ≠ by') (hw:Sn n sc w):Inv n E K v by' seen low time br keys (pre ++ [i]) sc (lc.set v.toNat (min (idx lc v) (idx sc w))) tc bc kc parts:=by
 have v0:=P.v0
 have v1:=P.v1
 have l2:=I.l2
 have hwv:w ≠ v:=(G.ne he).symm
 have el:∀ x:Int,0 ≤ x → idx (lc.set v.toNat (min (idx lc v) (idx sc w))) x = if x = v then min (idx lc v) (idx sc w) else idx lc x:=fun x hx=>fE v0 (by omega) hx
 have ev:idx (lc.set v.toNat (min (idx lc v) (idx sc w))) v = min (idx lc v) (idx sc w):=by rw [el v v0,if_pos rfl]
 have h1:=I.lw1
 refine { I with l2:=by simp [l2],fj:=fun x hx=>?_,don:=fun j hj u hu=>?_,lw1:=by rw [ev]; omega,lw2:=fun j u z hj hu hz=>?_,lw3:=?_,q:=⟨I.q.1,by have:=I.q.2; simp; omega⟩ }
 ·rw [el x hx.1,if_neg (by rintro rfl; exact P.vS hx)]; exact I.fj x hx
 ·rcases List.mem_append.1 hj with hj | hj
  ·exact I.don j hj u hu
  ·rw [List.mem_singleton.1 hj] at hu
   rcases G.uni he hu with ⟨_,rfl⟩ | ⟨rfl,rfl⟩
   ·exact hw
   ·exact hw
 ·rw [ev]
  have key:idx lc v ≤ idx seen z ∨ idx sc w ≤ idx seen z:=by
   rcases hu with hu | ⟨rfl,hj',hne⟩
   ·exact .inl (I.lw2 j u z hj (.inl hu) hz)
   ·rcases List.mem_append.1 hj' with hj' | hj'
    ·exact .inl (I.lw2 j u z hj (.inr ⟨rfl,hj',hne⟩) hz)
    ·rw [List.mem_singleton.1 hj'] at hj
     rcases G.uni he hj with ⟨_,rfl⟩ | ⟨rfl,rfl⟩
     ·right; rw [(I.fj _ hz).1]; exact Int.le_refl _
     ·exact absurd rfl hwv
  omega
 ·rw [ev]
  by_cases c:idx lc v ≤ idx sc w
  ·rw [Int.min_eq_left c]; exact I.lw3
  ·rw [Int.min_eq_right (by omega)]
   by_cases hws:Sn n seen w
   ·exact .inr ⟨i,v,w,he,.inr ⟨rfl,hi⟩,hws,(I.fj w hws).1⟩
   ·have:=I.new w hw hws hwv
    omega
theorem Inv.pre (G:Gph n E) (P:sv n E K v by' seen low time) {pre sc lc bc kc:List Int} {tc parts:Int} (I:Inv n E K v by' seen low time br keys pre sc lc tc bc kc parts) {i c:Int} (he:E i v c) (hc:¬ Sn n sc c):sv n E (fun u=>K u ∨ u = v) c i sc lc tc:=by
 refine { I with v0:=(G.q8 (G.sym he)).1,v1:=(G.q8 (G.sym he)).2,vS:=hc,p1:=fun u hu hk j w hj=>?_,p2:=fun u hu=>?_,p3:=.inr ⟨v,G.pos he,.inr rfl,he,fun u hu=>?_⟩ }
 ·by_cases h:Sn n seen u
  ·exact I.inc w (P.p1 u h (fun k=>hk (.inl k)) j w hj)
  ·exact I.cl u hu h (fun e=>hk (.inr e)) j w hj
 ·rcases hu with hu | rfl
  ·exact I.inc u (P.p2 u hu)
  ·exact I.inv.1
 ·rcases hu with hu | rfl
  ·rcases P.p3 with ⟨_,h⟩ | ⟨p,_,hp,hpe,hpc⟩
   ·exact absurd hu (h u)
   ·exact .trans (.of ⟨by',G.sym hpe,I.inv.1,I.inc p (P.p2 p hp)⟩) ((hpc u hu).mono I.inc)
  ·exact .rfl _
theorem Inv.child (G:Gph n E) (P:sv n E K v by' seen low time) {pre sc lc bc kc:List Int} {tc parts:Int} (I:Inv n E K v by' seen low time br keys pre sc lc tc bc kc parts) {i c:Int} (he:E i v c) (hc:¬ Sn n sc c) {z:Int × List Int × List Int × List Int × List Int} (Q:bT n E c i sc lc tc bc kc z) :
  Inv n E K v by' seen low time br keys (pre ++ [i]) z.2.1 (z.2.2.1.set v.toNat (min (idx z.2.2.1 v) (idx z.2.2.1 c))) z.1 (if time + 1 < idx z.2.2.1 c then z.2.2.2.1 ++ [i] else z.2.2.2.1) z.2.2.2.2 (if time + 1 ≤ idx z.2.2.1 c then parts + 1 else parts):=by
 obtain ⟨t',s',l',b',k'⟩:=z
 simp only
 have v0:=P.v0
 have v1:=P.v1
 have PC:=I.pre G P he hc
 obtain ⟨hvs,hvt⟩:=I.inv
 have htc:=(I.bd v v0 v1).2
 obtain ⟨hvl,_⟩:=Q.fj v hvs
 simp only at hvl
 have q1:=Q.l1
 have q2:=Q.l2
 simp only at q1 q2
 obtain ⟨hTc,hct⟩:=Q.hv
 simp only at hTc hct
 have hcv:c ≠ v:=(G.ne he).symm
 have hS':∀ x,Sn n s' x ↔ Sn n sc x ∨ Tn n sc s' x:=fun x=>by
  constructor
  ·intro h
   by_cases hx:Sn n sc x
   ·exact .inl hx
   ·exact .inr ⟨h,hx⟩
  ·rintro (h | h)
   ·exact Q.inc x h
   ·exact h.1
 have Tv:∀ x,Tn n sc s' x → x ≠ v:=fun x hx e=>hx.2 (e ▸ hvs)
 have Ts:∀ x,Tn n sc s' x → ¬ Sn n seen x:=fun x hx h=>hx.2 (I.inc x h)
 have hU':∀ x,(Sn n s' x ∧ ¬ Sn n seen x ∧ x ≠ v) ↔ (Sn n sc x ∧ ¬ Sn n seen x ∧ x ≠ v) ∨ Tn n sc s' x:=fun x=>by
  constructor
  ·rintro ⟨h1,h2,h3⟩
   rcases (hS' x).1 h1 with h | h
   ·exact .inl ⟨h,h2,h3⟩
   ·exact .inr h
  ·rintro (⟨h1,h2,h3⟩ | h)
   ·exact ⟨(hS' x).2 (.inl h1),h2,h3⟩
   ·exact ⟨h.1,Ts x h,Tv x h⟩
 have iend:∀ {a b},E i a b → (a = v ∧ b = c) ∨ (a = c ∧ b = v):=fun h=>by
  rcases G.uni he h with h | h
  ·exact .inl h
  ·exact .inr h
 have F1:∀ {j u w},E j u w → Tn n sc s' u → Sn n sc w → w = v ∨ (K w ∧ Sn n seen w):=fun {j u w} hj hu hw=>by
  by_cases e:w = v
  ·exact .inl e
  ·by_cases hs:Sn n seen w
   ·by_cases hk:K w
    ·exact .inr ⟨hk,hs⟩
    ·exact absurd (I.inc u (P.p1 w hs hk j u (G.sym hj))) hu.2
   ·exact absurd (I.cl w hw hs e j u (G.sym hj)) hu.2
 have lw1:=Q.lw1
 have lw2:=Q.lw2
 have lw3:=Q.lw3
 simp only at lw1 lw2 lw3
 have olds:∀ x,Sn n sc x → idx s' x = idx sc x ∧ idx l' x = idx lc x:=Q.fj
 have hlv:idx l' v = idx lc v:=(olds v hvs).2
 have hne:∀ {j u w},E j u w → Tn n sc s' u → Sn n seen w → j ≠ i:=fun {j u w} hj hu hw e=>by
  subst e
  rcases iend hj with ⟨rfl,rfl⟩ | ⟨rfl,rfl⟩
  ·exact hc (I.inc _ hw)
  ·exact P.vS hw
 have sle:∀ {w},Sn n seen w → idx sc w = idx seen w ∧ idx seen w ≤ time:=fun {w} hw=>⟨(I.fj w hw).1,(P.bd w hw.1 hw.2.1).2⟩
 have iso:time + 1 ≤ idx l' c ↔ ∀ j u w,E j u w → Tn n sc s' u → ¬ Sn n seen w:=by
  constructor
  ·intro h j u w hj hu hw
   have h1:=lw2 j u w hj hu (I.inc w hw) (hne hj hu hw)
   obtain ⟨s1,s2⟩:=sle hw
   omega
  ·intro h
   rcases lw3 with h3 | ⟨j,u,w,hj,hu,hw,hji,h3⟩
   ·omega
   ·rcases F1 hj hu hw with rfl | ⟨_,hs⟩
    ·omega
    ·exact absurd hs (h j u w hj hu)
 have brd:time + 1 < idx l' c ↔ sr E i:=by
  constructor
  ·intro h
   refine ⟨v,c,he,fun hcon=>?_⟩
   have:=fh (X:=Tn n sc s') (fun a b hab=>?_) hcon
   ·exact (this.2 hTc).2 hvs
   ·obtain ⟨j,hji,hj⟩:=hab
    have one:∀ {a b},E j a b → Tn n sc s' a → Tn n sc s' b:=fun {a b} hj ha=>by
     rcases (hS' b).1 (Q.cl a ha j b hj) with hb | hb
     ·have h1:=lw2 j a b hj ha hb hji
      rcases F1 hj ha hb with rfl | ⟨_,hs⟩
      ·omega
      ·obtain ⟨s1,s2⟩:=sle hs; omega
     ·exact hb
    exact ⟨one hj,one (G.sym hj)⟩
  ·rintro ⟨a,b,hab,hn⟩
   by_cases h:time + 1 < idx l' c
   ·exact h
   ·exfalso
    have hvc:CJ E i v c:=by
     rcases lw3 with h3 | ⟨j,u,w,hj,hu,hw,hji,h3⟩
     ·omega
     ·have hkw:K w ∨ w = v:=by
       rcases F1 hj hu hw with h | h
       ·exact .inr h
       ·exact .inl h.1
      rcases PC.p3 with ⟨_,h'⟩ | ⟨p,_,hp,hpe,hpc⟩
      ·exact absurd hkw (h' w)
      ·have hpv:p = v:=by
        rcases iend hpe with ⟨rfl,_⟩ | ⟨rfl,_⟩
        ·rfl
        ·exact absurd (PC.p2 _ hp) hc
       subst hpv
       have w1:CJ E i p w:=CX.cj G (G.sym he) hc (hpc w hkw)
       have w2:CJ E i c u:=CX.cj G he (fun h:Tn n sc s' p=>h.2 hvs) (Q.cn u hu)
       exact .trans w1 (.trans (.of ⟨j,hji,G.sym hj⟩) (.symm w2))
    rcases iend hab with ⟨rfl,rfl⟩ | ⟨rfl,rfl⟩
    ·exact hn hvc
    ·exact hn (.symm hvc)
 have el:∀ x:Int,0 ≤ x → idx (l'.set v.toNat (min (idx l' v) (idx l' c))) x = if x = v then min (idx l' v) (idx l' c) else idx l' x:=fun x hx=>fE v0 (by omega) hx
 have ev:idx (l'.set v.toNat (min (idx l' v) (idx l' c))) v = min (idx lc v) (idx l' c):=by rw [el v v0,if_pos rfl,hlv]
 have Tcv:∀ {a b},CX E (Tn n sc s') a b → CV E v a b:=fun h=>h.cv (fun h:Tn n sc s' v=>h.2 hvs)
 obtain ⟨nk,ek,ndk,mk,lk⟩:=I.ks
 obtain ⟨nk2,ek2,ndk2,mk2,lk2⟩:=Q.ks
 obtain ⟨nb,eb,ndb,mb,lb⟩:=I.bs
 obtain ⟨nb2,eb2,ndb2,mb2,lb2⟩:=Q.bs
 simp only at ek2 eb2 mk2 mb2 lk2 lb2
 have hl1:=I.lw1
 have hq:=I.q
 refine { l1:=q1,l2:=by simp [q2],t0:=Q.t0,bd:=Q.bd,tun:=Q.tun,inc:=fun x hx=>(hS' x).2 (.inl (I.inc x hx)),inv:=⟨(hS' v).2 (.inl hvs),by rw [(olds v hvs).1]; exact hvt⟩,fj:=fun x hx=>?_,new:=fun x h1 h2 h3=>?_,don:=fun j hj w hw=>?_,cl:=fun u h1 h2 h3 j w hj=>?_,con:=fun u h1 h2 h3=>?_,lw1:=by rw [ev]; omega,lw2:=fun j u w hj hu hw=>?_,lw3:=?_,q:=?_,q0:=fun h=>?_,q1:=fun h=>?_,q2:=fun h=>?_,ks:=?_,bs:=?_ }
 ·obtain ⟨o1,o2⟩:=olds x (I.inc x hx)
  obtain ⟨o3,o4⟩:=I.fj x hx
  rw [el x hx.1,if_neg (by rintro rfl; exact P.vS hx),o1,o2]; exact ⟨o3,o4⟩
 ·rcases (hU' x).1 ⟨h1,h2,h3⟩ with h | h
  ·rw [(olds x h.1).1]; exact I.new x h.1 h.2.1 h.2.2
  ·have:=Q.new x h; simp only at this; omega
 ·rcases List.mem_append.1 hj with hj | hj
  ·exact (hS' w).2 (.inl (I.don j hj w hw))
  ·rw [List.mem_singleton.1 hj] at hw
   rcases iend hw with ⟨_,rfl⟩ | ⟨h,_⟩
   ·exact hTc.1
   ·exact absurd h.symm hcv
 ·rcases (hU' u).1 ⟨h1,h2,h3⟩ with h | h
  ·exact (hS' w).2 (.inl (I.cl u h.1 h.2.1 h.2.2 j w hj))
  ·exact Q.cl u h j w hj
 ·rcases (hU' u).1 ⟨h1,h2,h3⟩ with h | h
  ·obtain ⟨c0,j,e1,e2,e3⟩:=I.con u h.1 h.2.1 h.2.2
   exact ⟨c0,j,e1,(hU' c0).2 (.inl e2),e3.mono fun x hx=>(hU' x).2 (.inl hx)⟩
  ·exact ⟨c,i,he,(hU' c).2 (.inr hTc),(Q.cn u h).mono fun x hx=>(hU' x).2 (.inr hx)⟩
 ·rw [ev]
  have key:idx lc v ≤ idx seen w ∨ idx l' c ≤ idx seen w:=by
   rcases hu with hu | ⟨rfl,hj',hne'⟩
   ·rcases (hU' u).1 hu with h | h
    ·exact .inl (I.lw2 j u w hj (.inl h) hw)
    ·right
     have:=lw2 j u w hj h (I.inc w hw) (hne hj h hw)
     rw [(sle hw).1] at this; exact this
   ·rcases List.mem_append.1 hj' with hj' | hj'
    ·exact .inl (I.lw2 j u w hj (.inr ⟨rfl,hj',hne'⟩) hw)
    ·rw [List.mem_singleton.1 hj'] at hj
     rcases iend hj with ⟨_,rfl⟩ | ⟨h,_⟩
     ·exact absurd (I.inc _ hw) hc
     ·exact absurd h.symm hcv
  omega
 ·rw [ev]
  by_cases cc:idx lc v ≤ idx l' c
  ·rw [Int.min_eq_left cc]
   rcases I.lw3 with h | ⟨j,u,w,hj,hu,hw,h⟩
   ·exact .inl h
   ·refine .inr ⟨j,u,w,hj,?_,hw,h⟩
    rcases hu with hu | hu
    ·exact .inl ((hU' u).2 (.inl hu))
    ·exact .inr hu
  ·rw [Int.min_eq_right (by omega)]
   rcases lw3 with h | ⟨j,u,w,hj,hu,hw,hji,h⟩
   ·omega
   ·rcases F1 hj hu hw with rfl | ⟨_,hs⟩
    ·omega
    ·exact .inr ⟨j,u,w,hj,.inl ((hU' u).2 (.inr hu)),hs,by rw [h,(sle hs).1]⟩
 ·have:=hq.2
  rw [List.length_append,List.length_singleton]
  split <;> omega
 ·
  split at h
  ·omega
  ·next ci=>
   obtain ⟨b0,b1⟩:=I.q0 h
   exfalso
   refine ci (iso.2 fun j u w hj hu hw=>?_)
   rcases F1 hj hu (I.inc w hw) with rfl | ⟨hk,_⟩
   ·exact P.vS hw
   ·rcases P.p3 with ⟨_,h'⟩ | ⟨p,h',_⟩
    ·exact h' w hk
    ·omega
 ·split at h
  ·next ci=>
   have h0:parts = 0:=by omega
   obtain ⟨b0,b1⟩:=I.q0 h0
   refine ⟨c,i,he,hTc.1,hcv,fun h'=>by omega,fun u h1 h2 h3=>?_⟩
   rcases (hU' u).1 ⟨h1,h2,h3⟩ with h | h
   ·exact (b1 u h.1 h.2.1 h.2.2).elim
   ·exact Tcv (Q.cn u h)
  ·next ci=>
   obtain ⟨b,j0,e1,e2,e3,e4,e5⟩:=I.q1 h
   refine ⟨b,j0,e1,(hS' b).2 (.inl e2),e3,e4,fun u h1 h2 h3=>?_⟩
   rcases (hU' u).1 ⟨h1,h2,h3⟩ with h | h
   ·exact e5 u h.1 h.2.1 h.2.2
   ·have:∃ j u w,E j u w ∧ Tn n sc s' u ∧ Sn n seen w:=by
     refine Classical.byContradiction fun hno=>ci (iso.2 fun j u w hj hu hw=>hno ⟨j,u,w,hj,hu,hw⟩)
    obtain ⟨j,u',w,hj,hu',hw⟩:=this
    rcases F1 hj hu' (I.inc w hw) with rfl | ⟨hk,_⟩
    ·exact absurd hw P.vS
    ·rcases P.p3 with ⟨_,h'⟩ | ⟨p,h',_⟩
     ·exact absurd hk (h' w)
     ·have c1:CV E v b w:=(e4 h' w hk).cv P.vS
      have c2:CV E v w u':=.of ⟨j,G.sym hj,by rintro rfl; exact P.vS hw,Tv u' hu'⟩
      exact .trans c1 (.trans c2 (.trans (.symm (Tcv (Q.cn u' hu'))) (Tcv (Q.cn u h))))
 ·split at h
  ·next ci=>
   by_cases h2:2 ≤ parts
   ·exact I.q2 h2
   ·obtain ⟨b,j0,e1,e2,e3,e4,e5⟩:=I.q1 (by omega)
    refine ⟨b,c,j0,i,e1,he,fun hcon=>?_⟩
    have:=fh (X:=Tn n sc s') (fun a d had=>?_) hcon
    ·exact (this.2 hTc).2 e2
    ·obtain ⟨j,hj,na,nd⟩:=had
     have one:∀ {a b},E j a b → b ≠ v → Tn n sc s' a → Tn n sc s' b:=fun {a b} hj hb ha=>by
      rcases (hS' b).1 (Q.cl a ha j b hj) with hb' | hb'
      ·rcases F1 hj ha hb' with h | ⟨_,hs⟩
       ·exact absurd h hb
       ·exact absurd hs (iso.1 ci j a b hj ha)
      ·exact hb'
     exact ⟨one hj nd,one (G.sym hj) na⟩
  ·exact I.q2 h
 ·refine ⟨nk ++ nk2,by rw [ek2,ek,List.append_assoc],?_,fun x=>?_,by rw [List.length_append]; push_cast; omega⟩
  ·rw [List.nodup_append]
   refine ⟨ndk,ndk2,fun a ha b hb e=>?_⟩
   subst e
   exact ((mk2 a).1 hb).1.2 ((mk a).1 ha).1.1
  ·rw [List.mem_append,mk x,mk2 x,hU' x]
   constructor
   ·rintro (⟨h1,h2⟩ | ⟨h1,h2⟩)
    ·exact ⟨.inl h1,h2⟩
    ·exact ⟨.inr h1,h2⟩
   ·rintro ⟨h1 | h1,h2⟩
    ·exact .inl ⟨h1,h2⟩
    ·exact .inr ⟨h1,h2⟩
 ·have dj:∀ a ∈ nb,∀ b ∈ nb2,a ≠ b:=fun a ha b hb e=>by
   subst e
   obtain ⟨_,u,w,hj,hu⟩:=(mb a).1 ha
   obtain ⟨_,_,u',w',hj',hu'⟩:=(mb2 a).1 hb
   rcases G.uni hj hj' with ⟨rfl,rfl⟩ | ⟨rfl,rfl⟩
   ·exact hu'.2 hu.1
   ·exact hu'.2 (I.cl _ hu.1 hu.2.1 hu.2.2 a _ hj)
  have ndd:(nb ++ nb2).Nodup:=List.nodup_append.2 ⟨ndb,ndb2,dj⟩
  have hin:i ∉ nb ++ nb2:=fun h=>by
   rcases List.mem_append.1 h with h | h
   ·obtain ⟨_,u,w,hj,hu⟩:=(mb i).1 h
    rcases iend hj with ⟨rfl,_⟩ | ⟨rfl,_⟩
    ·exact hu.2.2 rfl
    ·exact hc hu.1
   ·exact ((mb2 i).1 h).2.1 rfl
  have mem:∀ j,(sr E j ∧ ∃ u w,E j u w ∧ (Sn n s' u ∧ ¬ Sn n seen u ∧ u ≠ v)) ↔ j ∈ nb ++ nb2 ∨ (sr E j ∧ j = i):=fun j=>by
   rw [List.mem_append,mb j,mb2 j]
   constructor
   ·rintro ⟨h1,u,w,hj,hu⟩
    rcases (hU' u).1 hu with h | h
    ·exact .inl (.inl ⟨h1,u,w,hj,h⟩)
    ·by_cases e:j = i
     ·exact .inr ⟨h1,e⟩
     ·exact .inl (.inr ⟨h1,e,u,w,hj,h⟩)
   ·rintro ((⟨h1,u,w,hj,hu⟩ | ⟨h1,_,u,w,hj,hu⟩) | ⟨h1,rfl⟩)
    ·exact ⟨h1,u,w,hj,(hU' u).2 (.inl hu)⟩
    ·exact ⟨h1,u,w,hj,(hU' u).2 (.inr hu)⟩
    ·exact ⟨h1,c,v,G.sym he,(hU' c).2 (.inr hTc)⟩
  split
  ·next cb=>
   refine ⟨nb ++ nb2 ++ [i],by rw [eb2,eb]; simp,?_,fun j=>?_,by rw [List.length_append,List.length_append,List.length_singleton]; push_cast; omega⟩
   ·rw [List.nodup_append]
    exact ⟨ndd,by simp,fun a ha b hb e=>by rw [List.mem_singleton.1 hb] at e; exact hin (e ▸ ha)⟩
   ·rw [mem j,List.mem_append (s:=nb ++ nb2),List.mem_singleton]
    constructor
    ·rintro (h | h)
     ·exact .inl h
     ·exact .inr ⟨h ▸ brd.1 cb,h⟩
    ·rintro (h | h)
     ·exact .inl h
     ·exact .inr h.2
  ·next cb=>
   refine ⟨nb ++ nb2,by rw [eb2,eb,List.append_assoc],ndd,fun j=>?_,by rw [List.length_append]; push_cast; omega⟩
   rw [mem j]
   constructor
   ·exact fun h=>.inl h
   ·rintro (h | ⟨h1,rfl⟩)
    ·exact h
    ·exact absurd (brd.2 h1) cb
theorem Inv.post (G:Gph n E) (P:sv n E K v by' seen low time) {pre sc lc bc kc:List Int} {tc parts:Int} (I:Inv n E K v by' seen low time br keys pre sc lc tc bc kc parts) (hall:∀ i w,E i v w → i ∈ pre) :
  bT n E v by' seen low time br keys (tc,sc,lc,bc,if 1 < parts then kc ++ [v] else kc):=by
 obtain ⟨hvs,hvt⟩:=I.inv
 have v0:=P.v0
 have v1:=P.v1
 have htc:=(I.bd v v0 v1).2
 have hT:∀ x,Tn n seen sc x ↔ x = v ∨ (Sn n sc x ∧ ¬ Sn n seen x ∧ x ≠ v):=fun x=>by
  constructor
  ·rintro ⟨h1,h2⟩
   by_cases e:x = v
   ·exact .inl e
   ·exact .inr ⟨h1,h2,e⟩
  ·rintro (rfl | ⟨h1,h2,_⟩)
   ·exact ⟨hvs,P.vS⟩
   ·exact ⟨h1,h2⟩
 have nbr:∀ {i w},E i v w → Sn n seen w ∨ (Sn n sc w ∧ ¬ Sn n seen w ∧ w ≠ v):=fun {i w} h=>by
  by_cases c:Sn n seen w
  ·exact .inl c
  ·exact .inr ⟨I.don i (hall i w h) w h,c,(G.ne h).symm⟩
 have byE:∀ {u w},E by' u w → ¬ (Sn n sc u ∧ ¬ Sn n seen u ∧ u ≠ v):=fun {u w} h hu=>by
  rcases P.p3 with ⟨h',_⟩ | ⟨p,_,hp,hpe,_⟩
  ·have:=G.pos h; omega
  ·rcases G.uni hpe h with ⟨rfl,_⟩ | ⟨rfl,_⟩
   ·exact hu.2.1 (P.p2 _ hp)
   ·exact hu.2.2 rfl
 have hcut:1 < parts ↔ Cut E v:=by
  constructor
  ·exact fun h=>I.q2 (by omega)
  ·rintro ⟨x,y,i,j,hx,hy,hn⟩
   refine Classical.byContradiction fun hp=>?_
   have h0:=I.q.1
   by_cases e:parts = 0
   ·obtain ⟨b0,b1⟩:=I.q0 e
    rcases nbr hx with h | h
    ·have hk:=P.open_ G hx h
     rcases P.p3 with ⟨_,h'⟩ | ⟨p,h',_⟩
     ·exact h' x hk
     ·omega
    ·exact b1 x h.1 h.2.1 h.2.2
   ·obtain ⟨b,j0,e1,e2,e3,e4,e5⟩:=I.q1 (by omega)
    have one:∀ {i x},E i v x → CV E v b x:=fun {i x} hx=>by
     rcases nbr hx with h | h
     ·have hk:=P.open_ G hx h
      rcases P.p3 with ⟨_,h'⟩ | ⟨p,h',_⟩
      ·exact absurd hk (h' x)
      ·exact (e4 h' x hk).cv P.vS
     ·exact e5 x h.1 h.2.1 h.2.2
    exact hn (.trans (.symm (one hx)) (one hy))
 obtain ⟨nk,ek,ndk,mk,lk⟩:=I.ks
 obtain ⟨nb,eb,ndb,mb,lb⟩:=I.bs
 refine { l1:=I.l1,l2:=I.l2,t0:=I.t0,bd:=I.bd,tun:=I.tun,inc:=I.inc,fj:=I.fj,new:=fun x hx=>?_,hv:=⟨(hT v).2 (.inl rfl),hvt⟩,cl:=fun u hu i w hi=>?_,cn:=fun u hu=>?_,lw1:=I.lw1,lw2:=fun i u w hi hu hw hne=>?_,lw3:=?_,ks:=?_,bs:=?_ }
 ·rcases (hT x).1 hx with rfl | h
  ·simp only; omega
  ·have:=I.new x h.1 h.2.1 h.2.2; simp only; omega
 ·rcases (hT u).1 hu with rfl | h
  ·exact I.don i (hall i w hi) w hi
  ·exact I.cl u h.1 h.2.1 h.2.2 i w hi
 ·rcases (hT u).1 hu with rfl | h
  ·exact .rfl _
  ·obtain ⟨c,i,e1,e2,e3⟩:=I.con u h.1 h.2.1 h.2.2
   exact .trans (.of ⟨i,e1,(hT v).2 (.inl rfl),(hT c).2 (.inr e2)⟩) (e3.mono fun x hx=>(hT x).2 (.inr hx))
 ·rcases (hT u).1 hu with rfl | h
  ·exact I.lw2 i u w hi (.inr ⟨rfl,hall i w hi,hne⟩) hw
  ·exact I.lw2 i u w hi (.inl h) hw
 ·rcases I.lw3 with h | ⟨i,u,w,hi,hu,hw,h⟩
  ·exact .inl h
  ·rcases hu with hu | ⟨rfl,hne⟩
   ·exact .inr ⟨i,u,w,hi,(hT u).2 (.inr hu),hw,fun e=>byE (e ▸ hi) hu,h⟩
   ·exact .inr ⟨i,u,w,hi,(hT u).2 (.inl rfl),hw,hne,h⟩
 ·simp only
  split
  ·next cp=>
   refine ⟨nk ++ [v],by rw [ek,List.append_assoc],?_,fun x=>?_,by rw [List.length_append,List.length_singleton]; push_cast; omega⟩
   ·rw [List.nodup_append]
    exact ⟨ndk,by simp,fun a ha b hb e=>by rw [List.mem_singleton.1 hb] at e; exact ((mk a).1 ha).1.2.2 e⟩
   ·rw [List.mem_append,mk x,List.mem_singleton,hT x]
    constructor
    ·rintro (⟨h1,h2⟩ | rfl)
     ·exact ⟨.inr h1,h2⟩
     ·exact ⟨.inl rfl,hcut.1 cp⟩
    ·rintro ⟨h1 | h1,h2⟩
     ·exact .inr h1
     ·exact .inl ⟨h1,h2⟩
  ·next cp=>
   refine ⟨nk,ek,ndk,fun x=>?_,by omega⟩
   rw [mk x,hT x]
   constructor
   ·rintro ⟨h1,h2⟩; exact ⟨.inr h1,h2⟩
   ·rintro ⟨rfl | h1,h2⟩
    ·exact absurd (hcut.2 h2) cp
    ·exact ⟨h1,h2⟩
 ·refine ⟨nb,eb,ndb,fun i=>?_,by simpa using lb⟩
  rw [mb i]
  constructor
  ·rintro ⟨h1,u,w,hi,hu⟩
   exact ⟨h1,fun e=>byE (e ▸ hi) hu,u,w,hi,(hT u).2 (.inr hu)⟩
  ·rintro ⟨h1,hne,u,w,hi,hu⟩
   refine ⟨h1,?_⟩
   rcases (hT u).1 hu with rfl | h
   ·rcases nbr hi with h | h
    ·exfalso
     have hk:=P.open_ G hi h
     rcases P.p3 with ⟨_,h'⟩ | ⟨p,_,hp,hpe,hpc⟩
     ·exact h' w hk
     ·have c1:CJ E i u w:=.trans (.of ⟨by',Ne.symm hne,G.sym hpe⟩) ((hpc w hk).cj G hi P.vS)
      obtain ⟨a,b,hab,hn⟩:=h1
      rcases G.uni hi hab with ⟨rfl,rfl⟩ | ⟨rfl,rfl⟩
      ·exact hn c1
      ·exact hn (.symm c1)
    ·exact ⟨w,u,G.sym hi,h⟩
   ·exact ⟨u,w,hi,h⟩
end
end Go.Proofs.Ytgojigdbelkgoaa
namespace Go.Proofs.Ytgojigdbelkgoaa
open Go Go.Sk
set_option linter.unusedVariables false
set_option linter.unusedSimpArgs false
theorem pO {F n:Nat} {E:Int → Int → Int → Prop} (G:Gph n E) (hn:n ≤ 1000000) {near:List (List jh)} (hl:near.length = n) (hm:∀ v:Int,0 ≤ v → v < n → ∀ e,e ∈ idx near v ↔ E e.pos v e.to) (hF:∀ v:Int,0 ≤ v → v < n → (idx near v).length < F ∧ (idx near v).length ≤ 1000000) :
  ∀ (k:Nat) {K:Int → Prop} {v by':Int} {seen low:List Int} {time:Int} {br keys:List Int},un n seen ≤ k → sv n E K v by' seen low time → (br.length:Int) + (n - time) ≤ 2000000 → (keys.length:Int) + (n - time) ≤ 2000000 →
   ak (cX F k v by' time seen low near br keys) (bT n E v by' seen low time br keys)
 | 0,K,v,by',seen,low,time,br,keys,hk,P,hb,hks=>by
  have hsv:idx seen v ≤ 0:=by
   by_cases c:0 < idx seen v
   ·exact absurd ⟨P.v0,P.v1,c⟩ P.vS
   ·omega
  have:=un_pos P.v0 P.v1 hsv
  omega
 | k + 1,K,v,by',seen,low,time,br,keys,hk,P,hb,hks=>by
  have v0:=P.v0
  have v1:=P.v1
  have l1:=P.l1
  have l2:=P.l2
  have t0:=P.t0
  have tun:=P.tun
  have hsv:idx seen v ≤ 0:=by
   by_cases c:0 < idx seen v
   ·exact absurd ⟨v0,v1,c⟩ P.vS
   ·omega
  obtain ⟨f1,f2⟩:=hF v v0 v1
  have w1:IntKind.i64.wrap (time + 1) = time + 1:=jG (by omega) (by omega)
  unfold cX
  refine ak.idx v0 (by omega) (ak.idx v0 (by omega) ?_)
  refine ak.bind (P:=(· = if 0 ≤ by' then (1:Int) else 0)) ?_ ?_
  ·by_cases c:0 ≤ by'
   ·exact ak.ift (by simpa using c) (ak.some (by rw [if_pos c]))
   ·exact ak.iff (by simpa using c) (ak.some (by rw [if_neg c]))
  rintro parts rfl
  rw [w1]
  refine ak.bind (P:=fun z:List Int × Int × Int × List Int × List Int × List Int=>Inv n E K v by' seen low time br keys ((idx near v).map (·.pos)) z.2.2.2.1 z.2.2.2.2.1 z.2.2.1 z.2.2.2.2.2 z.1 z.2.1) (ak.idx v0 (by omega) ?_) ?_
  ·obtain ⟨nv,hnv⟩:∃ nv,idx near v = nv:=⟨_,rfl⟩
   rw [hnv] at f1 f2 ⊢
   refine ak.rounds (n:=nv.length) (I:=fun j z=>z.2.2.2.2.2.2 = (j:Int) ∧ Inv n E K v by' seen low time br keys ((nv.take j).map (·.pos)) z.1 z.2.1 z.2.2.1 z.2.2.2.1 z.2.2.2.2.1 z.2.2.2.2.2.1) f1 ⟨rfl,Inv.init G P⟩ ?_
   rintro j ⟨sc,lc,tc,bc,kc,parts,i⟩ hj ⟨hi,I⟩
   simp only at hi I
   subst hi
   simp only [un7]
   refine ak.ite (fun hc=>?_) (fun hc=>?_)
   rotate_left
   ·have hc:=of_decide_eq_false hc
    have:j = nv.length:=by omega
    subst this
    rw [List.take_length] at I
    exact ak.some (.inr ⟨_,rfl,I⟩)
   have hc:=of_decide_eq_true hc
   have hjl:j < nv.length:=by omega
   have hx:aE nv (j:Int) = some nv[j]:=by rw [js (by omega) (by omega),cT _ _ hjl]
   have ht:((nv.take (j + 1)).map (·.pos)) = (nv.take j).map (·.pos) ++ [nv[j].pos]:=by rw [List.take_succ_eq_append_getElem hjl,List.map_append]; rfl
   have he:E nv[j].pos v nv[j].to:=(hm v v0 v1 _).1 (by rw [hnv]; exact List.getElem_mem hjl)
   obtain ⟨e,hee⟩:∃ e,nv[j] = e:=⟨_,rfl⟩
   rw [hee] at hx ht he
   obtain ⟨x0,x1⟩:=G.q8 (G.sym he)
   have s1:=I.l1
   have s2:=I.l2
   have hq:=I.q
   rw [List.length_map,List.length_take] at hq
   have htun:=I.tun
   have wj:IntKind.i64.wrap ((j:Int) + 1) = ((j + 1:Nat):Int):=by rw [jG (by omega) (by omega)]; push_cast; rfl
   refine ak.bind (P:=fun z:List Int × List Int × Int × List Int × List Int × Int=>Inv n E K v by' seen low time br keys ((nv.take (j + 1)).map (·.pos)) z.1 z.2.1 z.2.2.1 z.2.2.2.1 z.2.2.2.2.1 z.2.2.2.2.2) ?_ ?_
   rotate_left
   ·rintro ⟨a,b,c,d,e',f⟩ h
    exact ak.some (.inl ⟨_,rfl,⟨wj,h⟩,hjl⟩)
   rw [ht]
   refine ak.bA hx (ak.ite (fun hc=>ak.some (I.skip G P he (of_decide_eq_true hc))) (fun hc=>?_))
   have hby:=of_decide_eq_false hc
   refine ak.idx x0 (by omega) (ak.ite (fun hc=>?_) (fun hc=>?_))
   ·have hw:Sn n sc e.to:=⟨x0,x1,of_decide_eq_true hc⟩
    exact ak.idx v0 (by omega) (ak.idx x0 (by omega) (ak.idx v0 (by omega) (ak.some (I.back G P he hby hw))))
   ·have hc:=of_decide_eq_false hc
    have hw:¬ Sn n sc e.to:=fun h=>hc h.2.2
    have hunc:un n sc ≤ k:=by
     have h1:=sO (n:=n) (seen:=seen) (t:=time + 1) v0 v1 l1 hsv (by omega)
     have:=I.bd v v0 v1
     have hvt:=I.inv.2
     omega
    obtain ⟨nk,ek,_,_,lk⟩:=I.ks
    obtain ⟨nb,eb,_,_,lb⟩:=I.bs
    have kl:=congrArg List.length ek
    have bl:=congrArg List.length eb
    rw [List.length_append] at kl bl
    refine ak.bind (pO G hn hl hm hF k hunc (I.pre G P he hw) (by omega) (by omega)) ?_
    rintro ⟨t',s',l',b',k'⟩ Q
    have R:=I.child G P he hw Q
    have q1:=Q.l1
    have q2:=Q.l2
    have hev:idx s' v = time + 1:=by rw [(Q.fj v I.inv.1).1]; exact I.inv.2
    have hcv:e.to ≠ v:=(G.ne he).symm
    have hel:idx (l'.set v.toNat (min (idx l' v) (idx l' e.to))) e.to = idx l' e.to:=by
     simp only at q2
     rw [fE v0 (by omega) x0,if_neg hcv]
    simp only at q1 q2 R
    obtain ⟨nb2,eb2,_,_,lb2⟩:=Q.bs
    have htun':=Q.tun
    simp only at eb2 lb2 htun'
    have bl2:=congrArg List.length eb2
    rw [List.length_append] at bl2
    simp only [un5]
    refine ak.idx v0 (by omega) (ak.idx x0 (by omega) (ak.idx v0 (by omega) ?_))
    refine ak.bind (P:=(· = if time + 1 ≤ idx l' e.to then parts + 1 else parts)) ?_ ?_
    ·refine ak.idx x0 (by rw [List.length_set]; omega) (ak.idx v0 (by omega) ?_)
     rw [hel,hev]
     by_cases c:time + 1 ≤ idx l' e.to
     ·exact ak.ift (by simpa using c) (ak.some (by rw [if_pos c,jG (by omega) (by omega)]))
     ·exact ak.iff (by simpa using c) (ak.some (by rw [if_neg c]))
    rintro _ rfl
    refine ak.idx x0 (by rw [List.length_set]; omega) (ak.idx v0 (by omega) ?_)
    rw [hel,hev]
    by_cases c:time + 1 < idx l' e.to
    ·rw [if_pos c] at R
     exact ak.ift (by simpa using c) (ak.app (by simp only [List.length_singleton]; omega) (ak.some R))
    ·rw [if_neg c] at R
     exact ak.iff (by simpa using c) (ak.some R)
  ·rintro ⟨kc,parts,tc,sc,lc,bc⟩ I
   simp only at I
   have R:=I.post G P fun i w hi=>by
    have:=(hm v v0 v1 ⟨w,i⟩).2 hi
    exact List.mem_map.2 ⟨_,this,rfl⟩
   obtain ⟨nk,ek,_,_,lk⟩:=I.ks
   have kl:=congrArg List.length ek
   rw [List.length_append] at kl
   have htun:=I.tun
   simp only [un6]
   by_cases c:1 < parts
   ·rw [if_pos c] at R
    exact ak.ift (by simpa using c) (ak.app (by simp only [List.length_singleton]; omega) (ak.some R))
   ·rw [if_neg c] at R
    exact ak.iff (by simpa using c) (ak.some R)
def EG (fx:List Bool) (ls:List A2) (i a b:Int):Prop:=i ∈ od fx ls ∧ Ends ls i a b
theorem EG.mv {fx:List Bool} {ls:List A2} (hg:Gr fx ls) {i a b:Int} (h:EG fx ls i a b):Mv fx a ∧ Mv fx b:=by
 obtain ⟨h1,h2⟩:=h
 obtain ⟨i0,i1,m0,m1⟩:=dh.1 h1
 obtain ⟨a1,a2,a3,a4,_⟩:=hg.2 _ (du i0 i1)
 rcases h2 with ⟨rfl,rfl⟩ | ⟨rfl,rfl⟩
 ·exact ⟨⟨a1,a2,m0⟩,⟨a3,a4,m1⟩⟩
 ·exact ⟨⟨a3,a4,m1⟩,⟨a1,a2,m0⟩⟩
theorem EG.gph {fx:List Bool} {ls:List A2} (hg:Gr fx ls):Gph fx.length (EG fx ls) where
 sym:=fun h=>⟨h.1,h.2.symm⟩
 q8:=fun h=>⟨(h.mv hg).1.1,(h.mv hg).1.2.1⟩
 ne:=fun {i a b} h=>by
  obtain ⟨i0,i1,_⟩:=dh.1 h.1
  obtain ⟨_,_,_,_,hne⟩:=hg.2 _ (du i0 i1)
  rcases h.2 with ⟨rfl,rfl⟩ | ⟨rfl,rfl⟩
  ·exact hne
  ·exact hne.symm
 pos:=fun h=>(dh.1 h.1).1
 uni:=fun {i a b c d} h h'=>by
  rcases h.2 with ⟨rfl,rfl⟩ | ⟨rfl,rfl⟩ <;> rcases h'.2 with ⟨rfl,rfl⟩ | ⟨rfl,rfl⟩
  ·exact .inl ⟨rfl,rfl⟩
  ·exact .inr ⟨rfl,rfl⟩
  ·exact .inr ⟨rfl,rfl⟩
  ·exact .inl ⟨rfl,rfl⟩
theorem mvs_nd (fx:List Bool) (ls:List A2):(od fx ls).Nodup:=by
 unfold od
 exact List.pairwise_map.2 ((List.nodup_range.filter _).imp fun h e=>h (by omega))
structure Top (fx:List Bool) (ls:List A2) (m:Nat) (keys br seen:List Int) (time:Int) (low:List Int):Prop extends Ls fx.length seen low time where
 cl:∀ u,Sn fx.length seen u → ∀ i w,EG fx ls i u w → Sn fx.length seen w
 mv:∀ u,Sn fx.length seen u → Mv fx u
 all:∀ u,Mv fx u → u < m → Sn fx.length seen u
 kn:keys.Nodup
 km:∀ x,x ∈ keys ↔ Sn fx.length seen x ∧ Cut (EG fx ls) x
 kl:(keys.length:Int) ≤ time
 bn:br.Nodup
 bm:∀ i,i ∈ br ↔ sr (EG fx ls) i ∧ ∃ u w,EG fx ls i u w ∧ Sn fx.length seen u
 bl:(br.length:Int) ≤ time
theorem Top.pre {fx:List Bool} {ls:List A2} {m:Nat} {keys br seen low:List Int} {time:Int} (h:Top fx ls m keys br seen time low) {v:Int} (h0:Mv fx v) (hv:¬ Sn fx.length seen v):sv fx.length (EG fx ls) (fun _=>False) v (-1) seen low time :=
 { h.toLs with v0:=h0.1,v1:=h0.2.1,vS:=hv,p1:=fun u hu _ i w hi=>h.cl u hu i w hi,p2:=fun _ h=>h.elim,p3:=.inl ⟨by omega,fun _ h=>h⟩ }
theorem Top.step {fx:List Bool} {ls:List A2} (hg:Gr fx ls) {m:Nat} {keys br seen low:List Int} {time:Int} (h:Top fx ls m keys br seen time low) (h0:Mv fx (m:Int)) (hv:¬ Sn fx.length seen (m:Int)) {z:Int × List Int × List Int × List Int × List Int} (Q:bT fx.length (EG fx ls) (m:Int) (-1) seen low time br keys z) :
  Top fx ls (m + 1) z.2.2.2.2 z.2.2.2.1 z.2.1 z.1 z.2.2.1:=by
 obtain ⟨nk,ek,ndk,mk,lk⟩:=Q.ks
 obtain ⟨nb,eb,ndb,mb,lb⟩:=Q.bs
 have G:=EG.gph hg
 have hS:∀ x,Sn fx.length z.2.1 x ↔ Sn fx.length seen x ∨ Tn fx.length seen z.2.1 x:=fun x=>by
  constructor
  ·intro hx
   by_cases c:Sn fx.length seen x
   ·exact .inl c
   ·exact .inr ⟨hx,c⟩
  ·rintro (hx | hx)
   ·exact Q.inc x hx
   ·exact hx.1
 have kll:=congrArg List.length ek
 have bll:=congrArg List.length eb
 rw [List.length_append] at kll bll
 have:=h.kl
 have:=h.bl
 refine { Q.toLs with cl:=fun u hu i w hi=>?_,mv:=fun u hu=>?_,all:=fun u hu hlt=>?_,kn:=?_,km:=fun x=>?_,kl:=by omega,bn:=?_,bm:=fun i=>?_,bl:=by omega }
 ·rcases (hS u).1 hu with hu | hu
  ·exact Q.inc w (h.cl u hu i w hi)
  ·exact Q.cl u hu i w hi
 ·rcases (hS u).1 hu with hu | hu
  ·exact h.mv u hu
  ·exact (fh (X:=Mv fx) (fun a b ⟨i,hi,_⟩=>⟨fun _=>(hi.mv hg).2,fun _=>(hi.mv hg).1⟩) (Q.cn u hu)).1 h0
 ·by_cases e:u = (m:Int)
  ·rw [e]; exact Q.hv.1.1
  ·exact Q.inc u (h.all u hu (by push_cast at hlt; omega))
 ·rw [ek,List.nodup_append]
  refine ⟨h.kn,ndk,fun a ha b hb e=>?_⟩
  subst e
  exact ((mk a).1 hb).1.2 ((h.km a).1 ha).1
 ·rw [ek,List.mem_append,h.km x,mk x,hS x]
  constructor
  ·rintro (⟨h1,h2⟩ | ⟨h1,h2⟩)
   ·exact ⟨.inl h1,h2⟩
   ·exact ⟨.inr h1,h2⟩
  ·rintro ⟨h1 | h1,h2⟩
   ·exact .inl ⟨h1,h2⟩
   ·exact .inr ⟨h1,h2⟩
 ·rw [eb,List.nodup_append]
  refine ⟨h.bn,ndb,fun a ha b hb e=>?_⟩
  subst e
  obtain ⟨_,u,w,hi,hu⟩:=(h.bm a).1 ha
  obtain ⟨_,_,u',w',hi',hu'⟩:=(mb a).1 hb
  rcases G.uni hi hi' with ⟨rfl,rfl⟩ | ⟨rfl,rfl⟩
  ·exact hu'.2 hu
  ·exact hu'.2 (h.cl _ hu a _ hi)
 ·rw [eb,List.mem_append,h.bm i,mb i]
  constructor
  ·rintro (⟨h1,u,w,hi,hu⟩ | ⟨h1,_,u,w,hi,hu⟩)
   ·exact ⟨h1,u,w,hi,Q.inc u hu⟩
   ·exact ⟨h1,u,w,hi,hu.1⟩
  ·rintro ⟨h1,u,w,hi,hu⟩
   rcases (hS u).1 hu with hu | hu
   ·exact .inl ⟨h1,u,w,hi,hu⟩
   ·exact .inr ⟨h1,by have:=G.pos hi; omega,u,w,hi,hu⟩
theorem un_rep (n:Nat):un n (List.replicate n (0:Int)) = n:=by
 unfold un
 rw [List.filter_eq_self.2 fun x hx=>?_]
 ·simp [ni]
 ·obtain ⟨h0,h1⟩:=jq.1 hx
  rw [lQ h0 h1]; rfl
theorem held_ok {fx:List Bool} {ls:List A2} (hs:fx.length + ls.length < 490) (hg:Gr fx ls):ak (dA 2000 fx ls) fun z=>mn z.1 ∧ (∀ x,x ∈ z.1 ↔ Cut (EG fx ls) x) ∧ mn z.2 ∧ ∀ i,i ∈ z.2 ↔ sr (EG fx ls) i:=by
 have hx:=hg.1
 have G:=EG.gph hg
 have hml:=lN fx ls
 unfold dA
 refine ak.bA (sU (by omega) (by omega) hg) ?_
 refine ak.bind (near_ok (n:=fx.length) (by omega) (by omega) (by omega) (fun i hi=>?_) (mvs_nd fx ls)) fun near hnr=>?_
 ·obtain ⟨i0,i1,_⟩:=dh.1 hi
  exact ⟨i0,i1,hg.2 _ (du i0 i1)⟩
 have hF:∀ v:Int,0 ≤ v → v < fx.length → (idx near v).length < 2000 ∧ (idx near v).length ≤ 1000000:=fun v h0 h1=>by
  have:=hnr.le h0 h1; omega
 refine ak.bA (x:=List.replicate fx.length 0) (by unfold mk?; rw [if_pos (by omega)]; rfl) (ak.bA (x:=List.replicate fx.length 0) (by unfold mk?; rw [if_pos (by omega)]; rfl) ?_)
 refine ak.bind (P:=fun z:List Int × List Int=>z.1.Nodup ∧ (∀ x,x ∈ z.1 ↔ Cut (EG fx ls) x) ∧ z.2.Nodup ∧ (∀ i,i ∈ z.2 ↔ sr (EG fx ls) i) ∧ z.1.length ≤ 1000 ∧ z.2.length ≤ 1000) ?_ ?_
 ·refine ak.rounds (n:=fx.length) (I:=fun k z=>z.2.2.2.2.2 = (k:Int) ∧ Top fx ls k z.1 z.2.1 z.2.2.1 z.2.2.2.1 z.2.2.2.2.1) (by omega) ⟨rfl,?_⟩ ?_
  ·have hno:∀ u,¬ Sn fx.length (List.replicate fx.length (0:Int)) u:=fun u hu=>by
    have:=hu.2.2; rw [lQ hu.1 hu.2.1] at this; omega
   exact { l1:=by simp,l2:=by simp,t0:=by simp,bd:=fun x h0 h1=>by simp only; rw [lQ h0 h1]; simp,tun:=by simp only; rw [un_rep]; simp,cl:=fun u hu=>(hno u hu).elim,mv:=fun u hu=>(hno u hu).elim,all:=fun u hu h=>by have:=hu.1; simp at h; omega,kn:=by simp,km:=fun x=>⟨fun h=>(by cases h),fun h=>(hno x h.1).elim⟩,kl:=by simp,bn:=by simp,bm:=fun i=>⟨fun h=>(by cases h),fun ⟨_,u,w,_,hu⟩=>(hno u hu).elim⟩,bl:=by simp }
  rintro k ⟨keys,br,seen,time,low,i⟩ hk ⟨hi,T⟩
  simp only at hi T
  subst hi
  simp only [un6]
  have l1:=T.l1
  have tun:=T.tun
  refine ak.ite (fun hc=>?_) (fun hc=>?_)
  ·have hc:=of_decide_eq_true hc
   refine ak.bind (P:=fun z:List Int × List Int × List Int × Int × List Int=>Top fx ls (k + 1) z.1 z.2.1 z.2.2.1 z.2.2.2.1 z.2.2.2.2) ?_ ?_
   rotate_left
   ·rintro ⟨a,b,c,d,e⟩ h
    refine ak.some (.inl ⟨_,rfl,⟨?_,h⟩,by omega⟩)
    simp only; rw [jG (by omega) (by omega)]; push_cast; rfl
   have keep:(Mv fx (k:Int) → Sn fx.length seen (k:Int)) → Top fx ls (k + 1) keys br seen time low:=fun hkk=>by
    refine { T with all:=fun u hu h=>?_ }
    by_cases e:u = (k:Int)
    ·rw [e]; exact hkk (e ▸ hu)
    ·exact T.all u hu (by push_cast at h; omega)
   refine ak.idx (by omega) hc ?_
   by_cases hf:idx fx (k:Int) = true
   ·rw [hf]
    refine ak.g0 rfl (ak.iff rfl (ak.some (keep fun h=>?_)))
    exact absurd h.2.2 (by rw [hf]; simp)
   ·have hf:idx fx (k:Int) = false:=by simpa using hf
    rw [hf]
    refine ak.g1 rfl (ak.idx (by omega) (by omega) ?_)
    by_cases hz:idx seen (k:Int) = 0
    ·refine ak.ift (by simp [hz]) ?_
     have hmv:Mv fx (k:Int):=⟨by omega,hc,hf⟩
     have hns:¬ Sn fx.length seen (k:Int):=fun h=>by have:=h.2.2; omega
     have hkl:=T.kl
     have hbl:=T.bl
     have h1:un fx.length seen ≤ 2000:=by omega
     refine ak.bind (pO G (by omega) hnr.len hnr.mem hF 2000 h1 (T.pre hmv hns) (by omega) (by omega)) ?_
     rintro ⟨t',s',l',b',k'⟩ Q
     exact ak.some (T.step hg hmv hns Q)
    ·refine ak.iff (by simp [hz]) (ak.some (keep fun h=>?_))
     have:=T.bd (k:Int) (by omega) (by omega)
     exact ⟨by omega,hc,by omega⟩
  ·have hc:=of_decide_eq_false hc
   have:k = fx.length:=by omega
   subst this
   have hkl:=T.kl
   have hbl:=T.bl
   refine ak.some (.inr ⟨_,rfl,T.kn,fun x=>?_,T.bn,fun i=>?_,by simp only; omega,by simp only; omega⟩)
   ·rw [T.km x]
    refine ⟨fun h=>h.2,fun h=>⟨?_,h⟩⟩
    obtain ⟨a,b,i,j,hi,_⟩:=h
    have:=(hi.mv hg).1
    exact T.all x this this.2.1
   ·rw [T.bm i]
    refine ⟨fun h=>h.1,fun h=>⟨h,?_⟩⟩
    obtain ⟨a,b,hi,_⟩:=h
    have:=(hi.mv hg).1
    exact ⟨a,b,hi,T.all a this this.2.1⟩
 ·rintro ⟨keys,br⟩ ⟨k1,k2,b1,b2,k3,b3⟩
  simp only at k1 k2 b1 b2 k3 b3
  simp only [cm]
  refine ak.bA (x:=sorted keys) (by unfold cz iF; rw [if_pos (by omega)]) (ak.bA (x:=sorted br) (by unfold cz iF; rw [if_pos (by omega)]) (ak.some ⟨ns k1,fun x=>by rw [jr]; exact k2 x,ns b1,fun x=>by rw [jr]; exact b2 x⟩))
theorem jn_fix {r:Int → Int} (hi:∀ z,r (r z) = r z) {x y:Int} (hne:r x ≠ r y) (z:Int):jn r x y z = z ↔ r z = z ∧ z ≠ max (r x) (r y):=by
 unfold jn
 have hx:=hi x
 have hy:=hi y
 split
 ·next h=>
  constructor
  ·intro hz
   exfalso
   rcases Int.le_total (r x) (r y) with hl | hl
   ·rw [Int.max_eq_right hl] at h; rw [Int.min_eq_left hl] at hz; rw [← hz,hx] at h; exact hne h
   ·rw [Int.max_eq_left hl] at h; rw [Int.min_eq_right hl] at hz; rw [← hz,hy] at h; exact hne h.symm
  ·rintro ⟨h1,h2⟩; exact absurd (h1.symm.trans h) h2
 ·next h=>exact ⟨fun hz=>⟨hz,fun e=>h (by rw [hz]; exact e)⟩,fun hz=>hz.1⟩
theorem tF {r:Int → Int} (hi:∀ z,r (r z) = r z) {ks:List Int} (hn:ks.Nodup) {x y:Int} (hne:r x ≠ r y) (hx:r x ∈ ks) (hy:r y ∈ ks) :
  (ks.filter fun z=>decide (jn r x y z = z)).length + 1 = (ks.filter fun z=>decide (r z = z)).length:=by
 have hM:max (r x) (r y) ∈ ks.filter fun z=>decide (r z = z):=by
  rcases Int.le_total (r x) (r y) with hl | hl
  ·rw [Int.max_eq_right hl]; exact List.mem_filter.2 ⟨hy,by simp [hi]⟩
  ·rw [Int.max_eq_left hl]; exact List.mem_filter.2 ⟨hx,by simp [hi]⟩
 have e:(ks.filter fun z=>decide (jn r x y z = z)) = (ks.filter fun z=>decide (r z = z)).erase (max (r x) (r y)):=by
  rw [List.Nodup.erase_eq_filter (hn.filter _),List.filter_filter]
  refine List.filter_congr fun z _=>?_
  rw [Bool.eq_iff_iff]
  simp only [decide_eq_true_eq,Bool.and_eq_true,bne_iff_ne,ne_eq,jn_fix hi hne]
  exact and_comm
 rw [e,List.length_erase_of_mem hM]
 have:=List.length_pos_of_mem hM
 omega
theorem sn (r:Int → Int) (ks:List Int):(canon r ks).length = (ks.filter fun z=>decide (r z = z)).length:=by unfold canon; rw [List.length_map]
abbrev Cn (ps:List (Int × Int)):Int → Int → Prop:=dN fun u v=>(u,v) ∈ ps
def iP (ks:List Int) (ps:List (Int × Int)):Nat:=(ks.filter fun z=>decide (cZ ps z = z)).length
theorem jn_le {r:Int → Int} (h:∀ z,r z ≤ z) (x y z:Int):jn r x y z ≤ z:=by
 unfold jn
 have:=h z
 split <;> omega
theorem jn_eq {r:Int → Int} {x y:Int} (h:r x = r y):jn r x y = r:=by
 funext z
 unfold jn
 rw [h,show max (r y) (r y) = r y by omega,show min (r y) (r y) = r y by omega]
 split
 ·next h=>exact h.symm
 ·rfl
theorem rZ (Q:(Int → Int) → Prop) (h0:Q fun x=>x) (h1:∀ r x y,Q r → Q (jn r x y)) (ps:List (Int × Int)):Q (cZ ps):=by
 have:∀ (ps:List (Int × Int)) (r:Int → Int),Q r → Q (ps.foldl (fun r p=>jn r p.1 p.2) r):=fun ps=>by
  induction ps with
  | nil=>exact fun r h=>h
  | cons p ps ih=>exact fun r h=>ih _ (h1 _ _ _ h)
 exact this ps _ h0
theorem reps_le (ps:List (Int × Int)):∀ z,cZ ps z ≤ z:=rZ (fun r=>∀ z,r z ≤ z) (fun _=>Int.le_refl _) (fun r x y h=>jn_le h x y) ps
theorem nM {ks:List Int} {ps:List (Int × Int)} (h:∀ p ∈ ps,p.1 ∈ ks ∧ p.2 ∈ ks) {z:Int} (hz:z ∈ ks):cZ ps z ∈ ks:=by
 have hc:Cn ps z (cZ ps z):=(eW ps _ _).1 (iY ps z).symm
 exact (fh (X:=(· ∈ ks)) (fun a b hab=>⟨fun _=>(h _ hab).2,fun _=>(h _ hab).1⟩) hc).1 hz
theorem cnt_isl {P:Int → Int → Prop} {D:Int → Prop} {o:List (List Int)} {ks:List Int} {ps:List (Int × Int)} (hp:Part P D o) (hs:mn ks) (hD:∀ a,D a ↔ a ∈ ks) (hm:∀ p ∈ ps,p.1 ∈ ks ∧ p.2 ∈ ks) (hc:∀ a b,Cn ps a b ↔ dN P a b):o.length = iP ks ps:=by
 have h2:Part (fun u v=>(u,v) ∈ ps) (· ∈ ks) (canon (cZ ps) ks):=n6 hs (reps_le ps) (iY ps) (fun z hz=>nM hm hz) (fun a b=>eW ps a b) fun a b hab=>⟨fun _=>(hm _ hab).2,fun _=>(hm _ hab).1⟩
 rw [hp.uniq (h2.congr hc fun a=>(hD a).symm),sn]; rfl
theorem nA {ks:List Int} (hn:ks.Nodup) {ps:List (Int × Int)} (hm:∀ p ∈ ps,p.1 ∈ ks ∧ p.2 ∈ ks) {x y:Int} (hx:x ∈ ks) (hy:y ∈ ks):(Cn ps x y → iP ks (ps ++ [(x,y)]) = iP ks ps) ∧ (¬ Cn ps x y → iP ks (ps ++ [(x,y)]) + 1 = iP ks ps):=by
 unfold iP
 rw [kI]
 constructor
 ·intro h
  rw [jn_eq ((eW ps _ _).2 h)]
 ·intro h
  exact tF (iY ps) hn (fun e=>h ((eW ps _ _).1 e)) (nM hm hx) (nM hm hy)
theorem pv {ps:List (Int × Int)} {x y:Int} (h:Cn ps x y) (a b:Int):Cn (ps ++ [(x,y)]) a b ↔ Cn ps a b :=
 dN.congr (fun u v h'=>by
  rcases List.mem_append.1 h' with h' | h'
  ·exact .of h'
  ·have:=List.mem_singleton.1 h'
   simp only [Prod.mk.injEq] at this
   rw [this.1,this.2]; exact h) (fun u v h'=>.of (List.mem_append.2 (.inl h'))) a b
theorem nR {ks:List Int} (hn:ks.Nodup):∀ {qs ps:List (Int × Int)},(∀ p ∈ ps,p.1 ∈ ks ∧ p.2 ∈ ks) → (∀ p ∈ qs,p.1 ∈ ks ∧ p.2 ∈ ks) → iP ks (ps ++ qs) ≤ iP ks ps ∧ (iP ks (ps ++ qs) = iP ks ps ↔ ∀ q ∈ qs,Cn ps q.1 q.2)
 | [],ps,_,_=>by simp
 | q :: qs,ps,hm,hq=>by
  have e:ps ++ q :: qs = (ps ++ [(q.1,q.2)]) ++ qs:=by simp
  obtain ⟨q1,q2⟩:=hq q (by simp)
  obtain ⟨o1,o2⟩:=nA hn hm q1 q2
  obtain ⟨i1,i2⟩:=nR hn (qs:=qs) (ps:=ps ++ [(q.1,q.2)]) (fun p hp=>by
   rcases List.mem_append.1 hp with hp | hp
   ·exact hm p hp
   ·rw [List.mem_singleton.1 hp]; exact ⟨q1,q2⟩) fun p hp=>hq p (by simp [hp])
  rw [e]
  by_cases c:Cn ps q.1 q.2
  ·have:=o1 c
   refine ⟨by omega,?_⟩
   rw [this] at i2
   rw [i2]
   constructor
   ·intro h p hp
    rcases List.mem_cons.1 hp with rfl | hp
    ·exact c
    ·exact (pv c _ _).1 (h p hp)
   ·intro h p hp
    exact (pv c _ _).2 (h p (by simp [hp]))
  ·have:=o2 c
   refine ⟨by omega,fun h=>by omega,fun h=>absurd (h q (by simp)) c⟩
def ky (fx:List Bool):List Int:=(ni fx.length).filter fun z=>decide (idx fx z = false)
theorem cI {fx:List Bool} {z:Int}:z ∈ ky fx ↔ Mv fx z:=by
 unfold ky
 rw [List.mem_filter,jq,decide_eq_true_eq,Mv]
 exact and_assoc
theorem jo (fx:List Bool):mn (ky fx):=by
 unfold ky ni
 exact (List.pairwise_map.2 (List.pairwise_lt_range.imp fun h=>by omega)).filter _
def lA (fx:List Bool) (ls:List A2):List (Int × Int):=(od fx ls).map (fP ls)
theorem lL (fx:List Bool) (ls:List A2) (a b:Int):Cn (lA fx ls) a b ↔ dN (Lk fx ls) a b :=
 dN.congr (fun _ _ h=>.of (gg.1 h)) (fun _ _ h=>.of (gg.2 h)) a b
theorem lK {fx:List Bool} {ls:List A2} (hg:Gr fx ls):∀ p ∈ lA fx ls,p.1 ∈ ky fx ∧ p.2 ∈ ky fx:=by
 rintro ⟨a,b⟩ hp
 obtain ⟨l,hl,⟨m0,m1⟩,rfl,rfl⟩:=gg.1 hp
 obtain ⟨a1,a2,a3,a4,_⟩:=hg.2 l hl
 exact ⟨cI.2 ⟨a1,a2,m0⟩,cI.2 ⟨a3,a4,m1⟩⟩
def nI (fx:List Bool) (ls:List A2):Nat:=(mg (oS fx ls)).length
theorem oy {fx:List Bool} {ls:List A2} (hs:fx.length + ls.length < 490) (hg:Gr fx ls) {ps:List (Int × Int)} (hm:∀ p ∈ ps,p.1 ∈ ky fx ∧ p.2 ∈ ky fx) (hc:∀ a b,Cn ps a b ↔ dN (Lk fx ls) a b):nI fx ls = iP (ky fx) ps :=
 cnt_isl (lX hs hg) (jo fx) (fun a=>cI.symm) hm hc
def wo (ls:List A2) (i:Nat):List A2:=ls.take i ++ ls.drop (i + 1)
theorem mz {ls:List A2} {i:Nat} (hi:i < ls.length) {l:A2}:l ∈ wo ls i ↔ ∃ j:Int,0 ≤ j ∧ j < ls.length ∧ j ≠ i ∧ idx ls j = l:=by
 unfold wo
 rw [List.mem_append]
 constructor
 ·rintro (h | h)
  ·obtain ⟨k,hk,e⟩:=List.getElem_of_mem h
   rw [List.getElem_take] at e
   rw [List.length_take] at hk
   exact ⟨(k:Int),by omega,by omega,by omega,by rw [cT _ _ (by omega)]; exact e⟩
  ·obtain ⟨k,hk,e⟩:=List.getElem_of_mem h
   rw [List.getElem_drop] at e
   rw [List.length_drop] at hk
   exact ⟨((i + 1 + k:Nat):Int),by omega,by omega,by omega,by rw [cT _ _ (by omega)]; exact e⟩
 ·rintro ⟨j,h0,h1,h2,rfl⟩
  obtain ⟨k,rfl⟩:∃ k:Nat,j = k:=⟨j.toNat,by omega⟩
  rw [cT _ _ (by omega)]
  by_cases c:k < i
  ·exact .inl (List.mem_iff_getElem.2 ⟨k,by rw [List.length_take]; omega,by rw [List.getElem_take]⟩)
  ·exact .inr (List.mem_iff_getElem.2 ⟨k - (i + 1),by rw [List.length_drop]; omega,by rw [List.getElem_drop]; congr 1; omega⟩)
theorem ox {fx:List Bool} {ls:List A2} (hg:Gr fx ls) (i:Nat):Gr fx (wo ls i):=⟨hg.1,fun l hl=>hg.2 l (by
 rcases List.mem_append.1 hl with h | h
 ·exact List.mem_of_mem_take h
 ·exact List.mem_of_mem_drop h)⟩
theorem sM {ls:List A2} {i:Nat} (hi:i < ls.length):(wo ls i).length + 1 = ls.length:=by
 unfold wo; rw [List.length_append,List.length_take,List.length_drop]; omega
theorem wo_cj {fx:List Bool} {ls:List A2} {i:Nat} (hi:i < ls.length) (a b:Int):dN (Lk fx (wo ls i)) a b ↔ CJ (EG fx ls) i a b :=
 dN.congr (fun a b ⟨l,hl,hm,h0,h1⟩=>by
  obtain ⟨j,j0,j1,j2,rfl⟩:=(mz hi).1 hl
  exact .of ⟨j,j2,dh.2 ⟨j0,j1,hm⟩,.inl ⟨h0,h1⟩⟩) (fun a b ⟨j,hj,hm,he⟩=>by
  obtain ⟨j0,j1,jm⟩:=dh.1 hm
  have hl:idx ls j ∈ wo ls i:=(mz hi).2 ⟨j,j0,j1,hj,rfl⟩
  rcases he with ⟨rfl,rfl⟩ | ⟨rfl,rfl⟩
  ·exact .of ⟨_,hl,jm,rfl,rfl⟩
  ·exact .symm (.of ⟨_,hl,jm,rfl,rfl⟩)) a b
open Classical in
theorem brd_cnt {fx:List Bool} {ls:List A2} (hs:fx.length + ls.length < 490) (hg:Gr fx ls) {i:Nat} (hi:i < ls.length):nI fx (wo ls i) = nI fx ls + if sr (EG fx ls) (i:Int) then 1 else 0:=by
 have hwl:=sM hi
 have hw:nI fx (wo ls i) = iP (ky fx) (lA fx (wo ls i)):=oy (by omega) (ox hg i) (lK (ox hg i)) fun a b=>lL fx _ a b
 by_cases hm:(i:Int) ∈ od fx ls
 ·obtain ⟨i0,i1,im⟩:=dh.1 hm
  have hE:EG fx ls i (idx ls (i:Int)).a0 (idx ls (i:Int)).a1:=⟨hm,.inl ⟨rfl,rfl⟩⟩
  obtain ⟨ma,mb⟩:=hE.mv hg
  have hls:nI fx ls = iP (ky fx) (lA fx (wo ls i) ++ [((idx ls (i:Int)).a0,(idx ls (i:Int)).a1)]):=by
   refine oy hs hg (fun p hp=>?_) fun a b=>?_
   ·rcases List.mem_append.1 hp with hp | hp
    ·exact lK (ox hg i) p hp
    ·rw [List.mem_singleton.1 hp]; exact ⟨cI.2 ma,cI.2 mb⟩
   ·refine dN.congr (fun u v h=>?_) (fun u v h=>?_) a b
    ·rcases List.mem_append.1 h with h | h
     ·obtain ⟨l,hl,h⟩:=gg.1 h
      obtain ⟨j,j0,j1,_,rfl⟩:=(mz hi).1 hl
      exact .of ⟨_,du j0 j1,h⟩
     ·have:=List.mem_singleton.1 h
      simp only [Prod.mk.injEq] at this
      exact .of ⟨idx ls i,du i0 i1,im,this.1.symm,this.2.symm⟩
    ·obtain ⟨l,hl,hlm,rfl,rfl⟩:=h
     obtain ⟨k,hk,e⟩:=List.getElem_of_mem hl
     have e':idx ls (k:Int) = l:=by rw [cT _ _ hk]; exact e
     by_cases c:k = i
     ·subst c
      exact .of (List.mem_append.2 (.inr (by rw [e']; simp)))
     ·exact .of (List.mem_append.2 (.inl (gg.2 ⟨l,(mz hi).2 ⟨k,by omega,by omega,by omega,e'⟩,hlm,rfl,rfl⟩)))
  obtain ⟨o1,o2⟩:=nA (fX (jo fx)) (lK (ox hg i)) (cI.2 ma) (cI.2 mb)
  have hb:sr (EG fx ls) (i:Int) ↔ ¬ Cn (lA fx (wo ls i)) (idx ls (i:Int)).a0 (idx ls (i:Int)).a1:=by
   rw [lL,wo_cj hi]
   constructor
   ·rintro ⟨a,b,hab,hn⟩ hc
    rcases (EG.gph hg).uni hE hab with ⟨rfl,rfl⟩ | ⟨rfl,rfl⟩
    ·exact hn hc
    ·exact hn (.symm hc)
   ·exact fun h=>⟨_,_,hE,h⟩
  by_cases c:Cn (lA fx (wo ls i)) (idx ls (i:Int)).a0 (idx ls (i:Int)).a1
  ·have:=o1 c; rw [if_neg (fun h=>hb.1 h c)]; omega
  ·rw [if_pos (hb.2 c),hw,hls,o2 c]
 ·rw [if_neg (fun ⟨a,b,h,_⟩=>hm h.1),hw]
  refine (oy hs hg (lK (ox hg i)) fun a b=>?_).symm
  rw [lL]
  refine dN.congr (fun u v ⟨l,hl,h⟩=>?_) (fun u v ⟨l,hl,hlm,h⟩=>?_) a b
  ·obtain ⟨j,j0,j1,_,rfl⟩:=(mz hi).1 hl
   exact .of ⟨_,du j0 j1,h⟩
  ·obtain ⟨k,hk,e⟩:=List.getElem_of_mem hl
   have e':idx ls (k:Int) = l:=by rw [cT _ _ hk]; exact e
   refine .of ⟨l,(mz hi).2 ⟨k,by omega,by omega,fun c=>?_,e'⟩,hlm,h⟩
   rw [c] at e'
   exact hm (dh.2 ⟨by omega,by omega,by rw [e']; exact hlm⟩)
def kA (fx:List Bool) (v:Int):List Bool:=fx.set v.toNat true
theorem ny {fx:List Bool} {v z:Int} (hv:Mv fx v) (hz:0 ≤ z):idx (kA fx v) z = if z = v then true else idx fx z:=fE hv.1 hv.2.1 hz
theorem nw (fx:List Bool) (v:Int):(kA fx v).length = fx.length:=by simp [kA]
theorem fxd_mv {fx:List Bool} {v:Int} (hv:Mv fx v) (z:Int):Mv (kA fx v) z ↔ Mv fx z ∧ z ≠ v:=by
 unfold Mv
 rw [nw]
 constructor
 ·rintro ⟨h0,h1,h2⟩
  rw [ny hv h0] at h2
  by_cases c:z = v
  ·rw [if_pos c] at h2; cases h2
  ·rw [if_neg c] at h2; exact ⟨⟨h0,h1,h2⟩,c⟩
 ·rintro ⟨⟨h0,h1,h2⟩,c⟩
  exact ⟨h0,h1,by rw [ny hv h0,if_neg c]; exact h2⟩
theorem tg {fx:List Bool} {ls:List A2} (hg:Gr fx ls) (v:Int):Gr (kA fx v) ls:=by unfold Gr; rw [nw]; exact hg
theorem lR {fx:List Bool} {ls:List A2} (hg:Gr fx ls) {v:Int} (hv:Mv fx v) {l:A2} (hl:l ∈ ls):nm (kA fx v) l ↔ nm fx l ∧ l.a0 ≠ v ∧ l.a1 ≠ v:=by
 obtain ⟨a1,a2,a3,a4,_⟩:=hg.2 l hl
 unfold nm
 rw [ny hv a1,ny hv a3]
 by_cases c0:l.a0 = v <;> by_cases c1:l.a1 = v <;> simp [c0,c1]
theorem fxd_con {fx:List Bool} {ls:List A2} (hg:Gr fx ls) {v:Int} (hv:Mv fx v) (a b:Int):dN (Lk (kA fx v) ls) a b ↔ CV (EG fx ls) v a b :=
 dN.congr (fun a b ⟨l,hl,hm,h0,h1⟩=>by
  obtain ⟨m,n0,n1⟩:=(lR hg hv hl).1 hm
  obtain ⟨k,hk,e⟩:=List.getElem_of_mem hl
  have e':idx ls (k:Int) = l:=by rw [cT _ _ hk]; exact e
  subst h0 h1
  exact .of ⟨(k:Int),⟨dh.2 ⟨by omega,by omega,by rw [e']; exact m⟩,.inl (by rw [e']; exact ⟨rfl,rfl⟩)⟩,n0,n1⟩) (fun a b ⟨j,⟨hm,he⟩,na,nb⟩=>by
  obtain ⟨j0,j1,jm⟩:=dh.1 hm
  have hl:=du j0 j1
  rcases he with ⟨rfl,rfl⟩ | ⟨rfl,rfl⟩
  ·exact .of ⟨_,hl,(lR hg hv hl).2 ⟨jm,na,nb⟩,rfl,rfl⟩
  ·exact .symm (.of ⟨_,hl,(lR hg hv hl).2 ⟨jm,nb,na⟩,rfl,rfl⟩)) a b
theorem sj {ks:List Int} (hn:ks.Nodup) {v:Int} (hv:v ∈ ks) (p:Int → Bool) (hp:p v = true):((ks.filter fun z=>decide (z ≠ v)).filter p).length + 1 = (ks.filter p).length:=by
 have hm:v ∈ ks.filter p:=List.mem_filter.2 ⟨hv,hp⟩
 have e:(ks.filter fun z=>decide (z ≠ v)).filter p = (ks.filter p).erase v:=by
  rw [List.Nodup.erase_eq_filter (hn.filter _),List.filter_filter,List.filter_filter]
  refine List.filter_congr fun z _=>?_
  rw [Bool.eq_iff_iff]
  simp only [Bool.and_eq_true,decide_eq_true_eq,bne_iff_ne,ne_eq]
  exact and_comm
 rw [e,List.length_erase_of_mem hm]
 have:=List.length_pos_of_mem hm
 omega
theorem ph {fx:List Bool} {v:Int} (hv:Mv fx v):ky (kA fx v) = (ky fx).filter fun z=>decide (z ≠ v):=by
 refine py (jo _) ((jo fx).filter _) fun a=>?_
 rw [cI,fxd_mv hv,List.mem_filter,cI,decide_eq_true_eq]
theorem cut_cnt {fx:List Bool} {ls:List A2} (hs:fx.length + ls.length < 490) (hg:Gr fx ls) {v:Int} (hv:Mv fx v):Cut (EG fx ls) v ↔ nI fx ls < nI (kA fx v) ls:=by
 have hg':=tg hg v
 have G:=EG.gph hg
 have nd:=fX (jo fx)
 have hvk:=cI.2 hv
 have hps':=lK hg'
 have hps:∀ p ∈ lA (kA fx v) ls,p.1 ∈ ky fx ∧ p.2 ∈ ky fx:=fun p hp=>by
  obtain ⟨h1,h2⟩:=hps' p hp
  rw [ph hv] at h1 h2
  exact ⟨(List.mem_filter.1 h1).1,(List.mem_filter.1 h2).1⟩
 have hpv:∀ p ∈ lA (kA fx v) ls,p.1 ≠ v ∧ p.2 ≠ v:=fun p hp=>by
  obtain ⟨h1,h2⟩:=hps' p hp
  rw [ph hv] at h1 h2
  exact ⟨of_decide_eq_true (List.mem_filter.1 h1).2,of_decide_eq_true (List.mem_filter.1 h2).2⟩
 have hcn:∀ a b,Cn (lA (kA fx v) ls) a b ↔ CV (EG fx ls) v a b:=fun a b=>(lL _ _ a b).trans (fxd_con hg hv a b)
 have e1:nI (kA fx v) ls + 1 = iP (ky fx) (lA (kA fx v) ls):=by
  rw [oy (by rw [nw]; exact hs) hg' hps' fun a b=>lL _ _ a b]
  unfold iP
  rw [ph hv]
  refine sj nd hvk _ (decide_eq_true ?_)
  have hc:Cn (lA (kA fx v) ls) v (cZ (lA (kA fx v) ls) v):=(eW _ _ _).1 (iY _ v).symm
  exact (fh (X:=(· = v)) (fun a b hab=>⟨fun h=>absurd h (hpv _ hab).1,fun h=>absurd h (hpv _ hab).2⟩) hc).1 rfl
 obtain ⟨qs,hqs⟩:∃ qs:List (Int × Int),qs = ((od fx ls).filter fun i=>decide ((idx ls i).a0 = v ∨ (idx ls i).a1 = v)).map (fP ls):=⟨_,rfl⟩
 have mq:∀ p,p ∈ qs ↔ ∃ i,i ∈ od fx ls ∧ ((idx ls i).a0 = v ∨ (idx ls i).a1 = v) ∧ fP ls i = p:=fun p=>by
  rw [hqs,List.mem_map]
  constructor
  ·rintro ⟨i,hi,e⟩
   obtain ⟨h1,h2⟩:=List.mem_filter.1 hi
   exact ⟨i,h1,of_decide_eq_true h2,e⟩
  ·rintro ⟨i,h1,h2,e⟩
   exact ⟨i,List.mem_filter.2 ⟨h1,decide_eq_true h2⟩,e⟩
 have hq:∀ p ∈ qs,∃ i y,EG fx ls i v y ∧ (p = (v,y) ∨ p = (y,v)):=fun p hp=>by
  obtain ⟨i,hi,h,rfl⟩:=(mq p).1 hp
  rcases h with h | h
  ·exact ⟨i,(idx ls i).a1,⟨hi,.inl ⟨h,rfl⟩⟩,.inl (by simp [fP,h])⟩
  ·exact ⟨i,(idx ls i).a0,⟨hi,.inr ⟨rfl,h⟩⟩,.inr (by simp [fP,h])⟩
 have hq':∀ i y,EG fx ls i v y → (v,y) ∈ qs ∨ (y,v) ∈ qs:=fun i y h=>by
  rcases h.2 with ⟨h1,h2⟩ | ⟨h1,h2⟩
  ·exact .inl ((mq _).2 ⟨i,h.1,.inl h1,by simp [fP,h1,h2]⟩)
  ·exact .inr ((mq _).2 ⟨i,h.1,.inr h2,by simp [fP,h1,h2]⟩)
 have hqk:∀ p ∈ qs,p.1 ∈ ky fx ∧ p.2 ∈ ky fx:=fun p hp=>by
  obtain ⟨i,y,he,h⟩:=hq p hp
  obtain ⟨m1,m2⟩:=he.mv hg
  rcases h with rfl | rfl
  ·exact ⟨cI.2 m1,cI.2 m2⟩
  ·exact ⟨cI.2 m2,cI.2 m1⟩
 have e2:nI fx ls = iP (ky fx) (lA (kA fx v) ls ++ qs):=by
  refine oy hs hg (fun p hp=>?_) fun a b=>?_
  ·rcases List.mem_append.1 hp with hp | hp
   ·exact hps p hp
   ·exact hqk p hp
  ·refine dN.congr (fun u w h=>?_) (fun u w h=>?_) a b
   ·rcases List.mem_append.1 h with h | h
    ·obtain ⟨l,hl,hm,h⟩:=gg.1 h
     exact .of ⟨l,hl,((lR hg hv hl).1 hm).1,h⟩
    ·obtain ⟨i,hi,_,e⟩:=(mq _).1 h
     obtain ⟨i0,i1,im⟩:=dh.1 hi
     simp only [fP,Prod.mk.injEq] at e
     exact .of ⟨idx ls i,du i0 i1,im,e.1,e.2⟩
   ·obtain ⟨l,hl,hm,rfl,rfl⟩:=h
    by_cases c:l.a0 = v ∨ l.a1 = v
    ·obtain ⟨k,hk,e⟩:=List.getElem_of_mem hl
     have e':idx ls (k:Int) = l:=by rw [cT _ _ hk]; exact e
     exact .of (List.mem_append.2 (.inr ((mq _).2 ⟨(k:Int),dh.2 ⟨by omega,by omega,by rw [e']; exact hm⟩,by rw [e']; exact c,by simp [fP,e']⟩)))
    ·exact .of (List.mem_append.2 (.inl (gg.2 ⟨l,hl,(lR hg hv hl).2 ⟨hm,fun h=>c (.inl h),fun h=>c (.inr h)⟩,rfl,rfl⟩)))
 cases qs with
 | nil=>
  rw [List.append_nil] at e2
  constructor
  ·rintro ⟨x,y,i,j,hx,_⟩
   rcases hq' i x hx with h | h <;> cases h
  ·intro h; omega
 | cons q qs=>
  obtain ⟨i1,x1,hE1,hqe⟩:=hq q (by simp)
  obtain ⟨qa,qb⟩:=hqk q (by simp)
  have hx1:x1 ≠ v:=(G.ne hE1).symm
  have hnc:¬ Cn (lA (kA fx v) ls) q.1 q.2:=fun h=>by
   have:=fh (X:=(· = v)) (fun a b hab=>⟨fun h=>absurd h (hpv _ hab).1,fun h=>absurd h (hpv _ hab).2⟩) h
   rcases hqe with rfl | rfl
   ·exact hx1 (this.1 rfl)
   ·exact hx1 (this.2 rfl)
  have h1:=(nA nd hps qa qb).2 hnc
  have e3:lA (kA fx v) ls ++ q :: qs = (lA (kA fx v) ls ++ [(q.1,q.2)]) ++ qs:=by simp
  have hps1:∀ p ∈ lA (kA fx v) ls ++ [(q.1,q.2)],p.1 ∈ ky fx ∧ p.2 ∈ ky fx:=fun p hp=>by
   rcases List.mem_append.1 hp with hp | hp
   ·exact hps p hp
   ·rw [List.mem_singleton.1 hp]; exact ⟨qa,qb⟩
  obtain ⟨m1,m2⟩:=nR nd hps1 fun p hp=>hqk p (List.mem_cons_of_mem _ hp)
  rw [← e3,← e2] at m1 m2
  have hvx:Cn (lA (kA fx v) ls ++ [(q.1,q.2)]) v x1:=by
   have:Cn (lA (kA fx v) ls ++ [(q.1,q.2)]) q.1 q.2:=.of (by simp)
   rcases hqe with rfl | rfl
   ·exact this
   ·exact .symm this
  have up:∀ {a b},Cn (lA (kA fx v) ls) a b → Cn (lA (kA fx v) ls ++ [(q.1,q.2)]) a b:=fun h=>h.mono fun a b h=>.of (List.mem_append.2 (.inl h))
  have dn:∀ {y},y ≠ v → Cn (lA (kA fx v) ls ++ [(q.1,q.2)]) v y → Cn (lA (kA fx v) ls) x1 y:=fun {y} hy h=>by
   have:=fh (X:=fun z=>z = v ∨ Cn (lA (kA fx v) ls) x1 z) (fun a b hab=>?_) h
   ·rcases this.1 (.inl rfl) with h | h
    ·exact absurd h hy
    ·exact h
   ·rcases List.mem_append.1 hab with hab | hab
    ·obtain ⟨na,nb⟩:=hpv _ hab
     constructor
     ·rintro (h | h)
      ·exact absurd h na
      ·exact .inr (.trans h (.of hab))
     ·rintro (h | h)
      ·exact absurd h nb
      ·exact .inr (.trans h (.symm (.of hab)))
    ·have:=List.mem_singleton.1 hab
     simp only [Prod.mk.injEq] at this
     rw [this.1,this.2]
     rcases hqe with rfl | rfl
     ·exact ⟨fun _=>.inr (.rfl _),fun _=>.inl rfl⟩
     ·exact ⟨fun _=>.inl rfl,fun _=>.inr (.rfl _)⟩
  have key:Cut (EG fx ls) v ↔ ¬ ∀ p ∈ qs,Cn (lA (kA fx v) ls ++ [(q.1,q.2)]) p.1 p.2:=by
   constructor
   ·rintro ⟨x,y,i,j,hx,hy,hn⟩ hall
    have one:∀ i y,EG fx ls i v y → Cn (lA (kA fx v) ls) x1 y:=fun i y h=>by
     refine dn (G.ne h).symm ?_
     have base:∀ p ∈ q :: qs,Cn (lA (kA fx v) ls ++ [(q.1,q.2)]) p.1 p.2:=fun p hp=>by
      rcases List.mem_cons.1 hp with rfl | hp
      ·exact .of (by simp)
      ·exact hall p hp
     rcases hq' i y h with h | h
     ·exact base _ h
     ·exact .symm (base _ h)
    exact hn ((hcn x y).1 (.trans (.symm (one i x hx)) (one j y hy)))
   ·intro h
    refine Classical.byContradiction fun hc=>h fun p hp=>?_
    obtain ⟨i,y,he,hpe⟩:=hq p (List.mem_cons_of_mem _ hp)
    have hxy:Cn (lA (kA fx v) ls) x1 y:=(hcn x1 y).2 (Classical.byContradiction fun hn=>hc ⟨x1,y,i1,i,hE1,he,hn⟩)
    have:Cn (lA (kA fx v) ls ++ [(q.1,q.2)]) v y:=.trans hvx (up hxy)
    rcases hpe with rfl | rfl
    ·exact this
    ·exact .symm this
  rw [key,← m2]
  omega
theorem few4 (F:Nat) (fx:List Bool) (ls:List A2):∃ b,dF F fx ls = some b ∧ (b = true → (fx.length ≤ 40 ∨ (402 ≤ fx.length ∧ fx.length ≤ 408)) ∧ ls.length ≤ 60):=by
 refine ⟨_,rfl,fun h=>?_⟩
 simp only [Bool.and_eq_true,Bool.or_eq_true,decide_eq_true_eq] at h
 omega
theorem lv {fx:List Bool} {ls:List A2} (hs:fx.length + ls.length < 490):∃ r,bF 2000 fx ls = some r ∧ cg 2000 fx ls = some r ∧ (r = true ↔ Gr fx ls):=by
 obtain ⟨r,e,h⟩:=p6 (F:=2000) (fx:=fx) (ls:=ls) (by omega) (by omega)
 obtain ⟨r',e',h'⟩:=valid35 (F:=2000) (fx:=fx) (ls:=ls) (by omega) (by omega)
 have:r = r':=by rw [Bool.eq_iff_iff,h,h']
 subst this
 exact ⟨r,e,e',h⟩
def frL (fx:List Bool) (ls:List A2):List Int:=(pI ls (kB fx fx.length) (od fx ls)).2
theorem qY {fx:List Bool} {ls:List A2} (hs:fx.length + ls.length < 490) (hg:Gr fx ls):cH 2000 fx ls = some (frL fx ls,0):=by
 obtain ⟨r,e,_,h⟩:=lv hs
 obtain ⟨⟨m,o⟩,e2,_,h3⟩:=oL (F:=2000) (fx:=fx) (ls:=ls) (by omega) (by omega) hg
 unfold cH
 rw [e,h.2 hg,e2]
 simp only at h3
 subst h3
 rfl
theorem held_ex {fx:List Bool} {ls:List A2} (hs:fx.length + ls.length < 490) (hg:Gr fx ls):∃ kz bz,cP 2000 fx ls = some (kz,0) ∧ bX 2000 fx ls = some (bz,0) ∧ mn kz ∧ (∀ x,x ∈ kz ↔ Cut (EG fx ls) x) ∧ mn bz ∧ ∀ i,i ∈ bz ↔ sr (EG fx ls) i:=by
 obtain ⟨r,e,_,h⟩:=lv hs
 obtain ⟨⟨kz,bz⟩,e2,h1,h2,h3,h4⟩:=held_ok hs hg
 refine ⟨kz,bz,?_,?_,h1,h2,h3,h4⟩
 ·unfold cP; rw [e,h.2 hg,e2]; rfl
 ·unfold bX; rw [e,h.2 hg,e2]; rfl
theorem sf {fx:List Bool} {ls:List A2} (hs:fx.length + ls.length < 490) (hg:¬ Gr fx ls):cH 2000 fx ls = some ([],1) ∧ cP 2000 fx ls = some ([],1) ∧ bX 2000 fx ls = some ([],1) ∧ fM 2000 fx ls = some ⟨[],1⟩ ∧ gw 2000 fx ls = some ⟨[],1⟩ ∧ fB 2000 fx ls = some ⟨[],1⟩:=by
 obtain ⟨r,e,e',h⟩:=lv hs
 have:r = false:=by cases r with
  | true=>exact absurd (h.1 rfl) hg
  | false=>rfl
 subst this
 refine ⟨?_,?_,?_,?_,?_,?_⟩
 ·unfold cH; rw [e]; rfl
 ·unfold cP; rw [e]; rfl
 ·unfold bX; rw [e]; rfl
 ·unfold fM; rw [e']; rfl
 ·unfold gw; rw [e']; rfl
 ·unfold fB; rw [e']; rfl
def mvk (fx:List Bool) (ls:List A2) (k:Nat):List Int:=((List.range k).filter fun i:Nat=>decide (nm fx (idx ls (i:Int)))).map fun i:Nat=>(i:Int)
theorem nO (fx:List Bool) (ls:List A2) (k:Nat):mvk fx ls (k + 1) = mvk fx ls k ++ if nm fx (idx ls (k:Int)) then [(k:Int)] else []:=by
 unfold mvk; rw [fL,List.map_append]; congr 1
 by_cases h:nm fx (idx ls (k:Int)) <;> simp [h]
theorem iu {fx:List Bool} {ls:List A2} {k:Nat} {i:Int}:i ∈ mvk fx ls k ↔ 0 ≤ i ∧ i < k ∧ nm fx (idx ls i):=by
 simp only [mvk,List.mem_map,List.mem_filter,List.mem_range,decide_eq_true_eq]
 constructor
 ·rintro ⟨j,⟨h1,h2⟩,rfl⟩; exact ⟨by omega,by omega,h2⟩
 ·rintro ⟨h1,h2,h3⟩; exact ⟨i.toNat,⟨by omega,by rw [show ((i.toNat:Nat):Int) = i by omega]; exact h3⟩,by omega⟩
def nj (fx:List Bool) (ls:List A2) (k:Nat):List (Int × Int):=kB fx fx.length ++ (mvk fx ls k).map (fP ls)
theorem take_gr {fx:List Bool} {ls:List A2} (hg:Gr fx ls) (k:Nat):Gr fx (ls.take k):=⟨hg.1,fun l hl=>hg.2 l (List.mem_of_mem_take hl)⟩
theorem ru {fx:List Bool} {ls:List A2} (hg:Gr fx ls) {k:Nat} (hk:k ≤ ls.length):∀ p ∈ nj fx ls k,p.1 ∈ ky fx ∧ p.2 ∈ ky fx:=by
 rintro ⟨a,b⟩ hp
 rcases List.mem_append.1 hp with hp | hp
 ·obtain ⟨h1,h2⟩:=gh.1 hp
  simp only at h1 h2
  subst h2
  exact ⟨cI.2 h1,cI.2 h1⟩
 ·obtain ⟨i,hi,e⟩:=List.mem_map.1 hp
  obtain ⟨i0,i1,im⟩:=iu.1 hi
  obtain ⟨a1,a2,a3,a4,_⟩:=hg.2 _ (du i0 (by omega:i < ls.length))
  simp only [fP,Prod.mk.injEq] at e
  rw [← e.1,← e.2]
  exact ⟨cI.2 ⟨a1,a2,im.1⟩,cI.2 ⟨a3,a4,im.2⟩⟩
theorem pg {fx:List Bool} {ls:List A2} {k:Nat} (hk:k ≤ ls.length) (a b:Int):Cn (nj fx ls k) a b ↔ dN (Lk fx (ls.take k)) a b:=by
 have hidx:∀ i:Int,0 ≤ i → i < k → idx (ls.take k) i = idx ls i:=fun i h0 h1=>by
  obtain ⟨j,rfl⟩:∃ j:Nat,i = j:=⟨i.toNat,by omega⟩
  rw [cT _ _ (by rw [List.length_take]; omega),cT _ _ (by omega),List.getElem_take]
 refine dN.congr (fun u v h=>?_) (fun u v h=>?_) a b
 ·rcases List.mem_append.1 h with h | h
  ·have:=(gh.1 h).2
   simp only at this
   subst this; exact .rfl _
  ·obtain ⟨i,hi,e⟩:=List.mem_map.1 h
   obtain ⟨i0,i1,im⟩:=iu.1 hi
   simp only [fP,Prod.mk.injEq] at e
   exact .of ⟨idx (ls.take k) i,du i0 (by rw [List.length_take]; omega),by rw [hidx i i0 i1]; exact im,by rw [hidx i i0 i1]; exact e.1,by rw [hidx i i0 i1]; exact e.2⟩
 ·obtain ⟨l,hl,hm,rfl,rfl⟩:=h
  obtain ⟨j,hj,e⟩:=List.getElem_of_mem hl
  rw [List.length_take] at hj
  have e':idx ls (j:Int) = l:=by rw [← hidx _ (by omega) (by omega),cT _ _ (by rw [List.length_take]; omega)]; exact e
  exact .of (List.mem_append.2 (.inr (List.mem_map.2 ⟨(j:Int),iu.2 ⟨by omega,by omega,by rw [e']; exact hm⟩,by simp [fP,e']⟩)))
theorem pak_nI {fx:List Bool} {ls:List A2} (hs:fx.length + ls.length < 490) (hg:Gr fx ls) {k:Nat} (hk:k ≤ ls.length):nI fx (ls.take k) = iP (ky fx) (nj fx ls k) :=
 oy (by rw [List.length_take]; omega) (take_gr hg k) (ru hg hk) fun a b=>pg hk a b
theorem frs_pak (fx:List Bool) (ls:List A2) (k:Nat):(pI ls (kB fx fx.length) (mvk fx ls k)).1 = nj fx ls k:=rJ _ _ _
theorem pT {fx:List Bool} {ls:List A2} {k:Nat} (hm:nm fx (idx ls (k:Int))):nj fx ls (k + 1) = nj fx ls k ++ [((idx ls (k:Int)).a0,(idx ls (k:Int)).a1)]:=by
 unfold nj; rw [nO,if_pos hm]; simp [fP]
theorem frL_len (fx:List Bool) (ls:List A2):(frL fx ls).length ≤ ls.length:=Nat.le_trans (rI _ _ _) (lN _ _)
theorem tT {fx:List Bool} {ls:List A2} (hg:Gr fx ls) {kz bz:List Int} (h1:mn kz) (h2:∀ x,x ∈ kz ↔ Cut (EG fx ls) x) (h3:mn bz) (h4:∀ i,i ∈ bz ↔ sr (EG fx ls) i):kz.length ≤ fx.length ∧ bz.length ≤ ls.length:=by
 constructor
 ·have:=my (fX h1) (m:=ni fx.length) fun a ha=>by
   obtain ⟨_,_,i,_,hi,_⟩:=(h2 a).1 ha
   obtain ⟨h0,h1⟩:=(EG.gph hg).q8 hi
   exact jq.2 ⟨h0,h1⟩
  simpa [ni] using this
 ·have:=my (fX h3) (m:=ni ls.length) fun a ha=>by
   obtain ⟨_,_,hi,_⟩:=(h4 a).1 ha
   obtain ⟨h0,h1,_⟩:=dh.1 hi.1
   exact jq.2 ⟨h0,h1⟩
  simpa [ni] using this
def su (fx:List Bool) (ls:List A2) (k:Nat):List Int:=(pI ls (kB fx fx.length) (mvk fx ls k)).2
theorem lY {fx:List Bool} {ls:List A2} {k:Nat}:su fx ls (k + 1) = if nm fx (idx ls (k:Int)) ∧ ¬ cZ (nj fx ls k) (fP ls (k:Int)).1 = cZ (nj fx ls k) (fP ls (k:Int)).2 then su fx ls k ++ [(k:Int)] else su fx ls k:=by
 unfold su
 rw [nO]
 by_cases m:nm fx (idx ls (k:Int))
 ·rw [if_pos m,p7,frs_pak]
  by_cases c:cZ (nj fx ls k) (fP ls (k:Int)).1 = cZ (nj fx ls k) (fP ls (k:Int)).2
  ·rw [if_pos c,if_neg (fun h=>h.2 c)]
  ·rw [if_neg c,if_pos ⟨m,c⟩]
 ·rw [if_neg m,if_neg (fun h=>m h.1),List.append_nil]
theorem pU {fx:List Bool} {ls:List A2} {k:Nat} (hm:¬ nm fx (idx ls (k:Int))):nj fx ls (k + 1) = nj fx ls k:=by
 unfold nj; rw [nO,if_neg hm,List.append_nil]
theorem nz {fx:List Bool} {ls:List A2}:∀ {k:Nat} {i:Int},i ∈ su fx ls k → i ∈ mvk fx ls k
 | 0,i,h=>by cases h
 | k + 1,i,h=>by
  rw [lY] at h
  rw [iu]
  split at h
  ·next c=>
   rcases List.mem_append.1 h with h | h
   ·obtain ⟨a,b,d⟩:=iu.1 (nz h); exact ⟨a,by push_cast; omega,d⟩
   ·rw [List.mem_singleton.1 h]; exact ⟨by omega,by push_cast; omega,c.1⟩
  ·obtain ⟨a,b,d⟩:=iu.1 (nz h); exact ⟨a,by push_cast; omega,d⟩
theorem th {fx:List Bool} {ls:List A2} {j:Nat} (hm:nm fx (idx ls (j:Int))) (hn:¬ cZ (nj fx ls j) (fP ls (j:Int)).1 = cZ (nj fx ls j) (fP ls (j:Int)).2):∀ {k:Nat},j < k → (j:Int) ∈ su fx ls k
 | 0,h=>by omega
 | k + 1,h=>by
  rw [lY]
  by_cases e:j = k
  ·subst e; rw [if_pos ⟨hm,hn⟩]; simp
  ·have:=th hm hn (k:=k) (by omega)
   split
   ·exact List.mem_append.2 (.inl this)
   ·exact this
theorem rL {fx:List Bool} {ls:List A2}:∀ (k:Nat) (a b:Int),Cn (kB fx fx.length ++ (su fx ls k).map (fP ls)) a b ↔ Cn (nj fx ls k) a b
 | 0,a,b=>by
  have:su fx ls 0 = []:=rfl
  rw [this]; exact .rfl
 | k + 1,a,b=>by
  have ih:=rL (fx:=fx) (ls:=ls) k
  rw [lY]
  by_cases m:nm fx (idx ls (k:Int))
  ·rw [pT m]
   by_cases c:cZ (nj fx ls k) (fP ls (k:Int)).1 = cZ (nj fx ls k) (fP ls (k:Int)).2
   ·rw [if_neg (fun h=>h.2 c),ih a b]
    exact (pv ((eW _ _ _).1 c) a b).symm
   ·rw [if_pos ⟨m,c⟩,List.map_append,← List.append_assoc]
    refine dN.congr (fun u v h=>?_) (fun u v h=>?_) a b
    ·rcases List.mem_append.1 h with h | h
     ·exact dN.mono (fun u v h=>.of (List.mem_append.2 (.inl h))) ((ih u v).1 (.of h))
     ·exact .of (List.mem_append.2 (.inr (by simpa [fP] using h)))
    ·rcases List.mem_append.1 h with h | h
     ·exact dN.mono (fun u v h=>.of (List.mem_append.2 (.inl h))) ((ih u v).2 (.of h))
     ·exact .of (List.mem_append.2 (.inr (by simpa [fP] using h)))
  ·rw [pU m,if_neg (fun h=>m h.1),ih a b]
theorem alo_cnt (fx:List Bool):iP (ky fx) (kB fx fx.length) = (ky fx).length:=by
 have hq:∀ p ∈ kB fx fx.length,p.1 ∈ ky fx ∧ p.2 ∈ ky fx:=fun p hp=>by
  obtain ⟨h1,h2⟩:=gh.1 hp
  rw [h2]; exact ⟨cI.2 h1,cI.2 h1⟩
 have h:=(nR (fX (jo fx)) (ps:=[]) (by simp) hq).2.2 fun q hqm=>by
  rw [(gh.1 hqm).2]; exact .rfl _
 rw [List.nil_append] at h
 rw [h]
 unfold iP
 rw [List.filter_eq_self.2 fun x _=>by simp [cZ]]
theorem rK {fx:List Bool} {ls:List A2} (hg:Gr fx ls):∀ {k:Nat},k ≤ ls.length → (su fx ls k).length + iP (ky fx) (nj fx ls k) = (ky fx).length
 | 0,_=>by
  have h1:su fx ls 0 = []:=rfl
  have h2:nj fx ls 0 = kB fx fx.length:=by simp [nj,mvk]
  rw [h1,h2,alo_cnt]; simp
 | k + 1,hk=>by
  have ih:=rK hg (k:=k) (by omega)
  rw [lY]
  by_cases m:nm fx (idx ls (k:Int))
  ·obtain ⟨a1,a2,a3,a4,_⟩:=hg.2 _ (du (show (0:Int) ≤ k by omega) (show (k:Int) < ls.length by omega))
   obtain ⟨o1,o2⟩:=nA (fX (jo fx)) (ru hg (show k ≤ ls.length by omega)) (cI.2 ⟨a1,a2,m.1⟩) (cI.2 ⟨a3,a4,m.2⟩)
   rw [pT m]
   by_cases c:cZ (nj fx ls k) (fP ls (k:Int)).1 = cZ (nj fx ls k) (fP ls (k:Int)).2
   ·rw [if_neg (fun h=>h.2 c),o1 ((eW _ _ _).1 c)]; exact ih
   ·rw [if_pos ⟨m,c⟩,List.length_append,List.length_singleton]
    have:=o2 (fun h=>c ((eW _ _ _).2 h))
    omega
  ·rw [pU m,if_neg (fun h=>m h.1)]; exact ih
theorem qM (fx:List Bool) (ls:List A2):frL fx ls = su fx ls ls.length:=rfl
theorem tw (n:Nat):ni (n + 1) = ni n ++ [(n:Int)]:=by unfold ni; rw [List.range_succ,List.map_append]; rfl
theorem ri (n:Nat):(ni n).length = n:=by simp [ni]
theorem rT (fx:List Bool) (ls:List A2):bK 2000 fx ls = some true:=by
 refine ak.eq ?_
 unfold bK
 obtain ⟨b,hb,hfew⟩:=few4 2000 fx ls
 refine ak.bA hb (ak.ite (fun hc=>ak.bA mK (ak.some rfl)) (fun hc=>?_))
 obtain ⟨hfx,hls⟩:=hfew (by simpa using hc)
 have hs:fx.length + ls.length < 490:=by omega
 by_cases hg:Gr fx ls
 rotate_left
 ·obtain ⟨b1,b2,b3,b4,b5,b6⟩:=sf hs hg
  refine ak.bA (by rw [j6 hs,if_neg hg]) (ak.bA b1 (ak.bA b3 (ak.bA b2 ?_)))
  exact ak.ift (by simp) (ak.bA mK (ak.ln (ak.some rfl)))
 have h40:fx.length ≤ 40:=by have:=hg.1; omega
 obtain ⟨kz,bz,e1,e2,h1,h2,h3,h4⟩:=held_ex hs hg
 obtain ⟨hk,hbl⟩:=tT hg h1 h2 h3 h4
 have hfl:=frL_len fx ls
 have hp:=lX hs hg
 obtain ⟨q1,q2⟩:=tI hp
 refine ak.bA (by rw [j6 hs,if_pos hg]) (ak.bA (qY hs hg) (ak.bA e2 (ak.bA e1 ?_)))
 refine ak.iff (by simp) ?_
 simp only [cm]
 have hnI:nI fx ls = (mg (oS fx ls)).length:=rfl
 refine ak.bind (P:=(· = ((ky fx).length:Int))) ?_ ?_
 ·refine ak.ea2 (fun pre m=>m = (((ni pre.length).filter fun z=>decide (idx fx z = false)).length:Int)) (by omega) (by omega) rfl (fun pre x post m el hxi hI=>?_) fun m h=>h
  have hxe:idx fx (pre.length:Int) = x:=re hxi
  have hpl:pre.length < fx.length:=by rw [el]; simp
  have hml:((ni pre.length).filter fun z=>decide (idx fx z = false)).length ≤ pre.length:=by
   have:=List.length_filter_le (fun z=>decide (idx fx z = false)) (ni pre.length)
   rw [ri] at this; exact this
  subst hI
  refine ak.bind (P:=(· = (((ni (pre ++ [x]).length).filter fun z=>decide (idx fx z = false)).length:Int))) ?_ (by rintro _ rfl; exact ak.some (.inl ⟨_,rfl,rfl⟩))
  rw [List.length_append,List.length_singleton,tw,List.filter_append,List.length_append]
  refine ak.bA hxi (ak.ite (fun hc=>?_) (fun hc=>?_))
  ·have hc:x = false:=by simpa using hc
   refine ak.some ?_
   rw [jG (by omega) (by omega)]
   simp [hxe,hc]
  ·have hc:x = true:=by simpa using hc
   refine ak.some ?_
   simp [hxe,hc]
 rintro _ rfl
 have fm:∀ i ∈ frL fx ls,0 ≤ i ∧ i < ls.length:=fun i hi=>by
  obtain ⟨a,b,_⟩:=iu.1 (nz (qM fx ls ▸ hi)); exact ⟨a,b⟩
 refine ak.bind (P:=(· = (frL fx ls).map (idx ls))) ?_ ?_
 ·refine ak.ea2 (fun pre t=>t = pre.map (idx ls)) (by omega) (by omega) rfl (fun pre x post t el hxi hI=>?_) fun t h=>h
  subst hI
  obtain ⟨x0,x1⟩:=fm x (by rw [el]; simp)
  have hpl:pre.length < (frL fx ls).length:=by rw [el]; simp
  exact ak.bA hxi (ak.idx x0 x1 (ak.app (by simp; omega) (ak.some (.inl ⟨_,rfl,by simp⟩))))
 rintro _ rfl
 have hgt:Gr fx ((frL fx ls).map (idx ls)):=⟨hg.1,fun l hl=>by
  obtain ⟨i,hi,rfl⟩:=List.mem_map.1 hl
  obtain ⟨x0,x1⟩:=fm i hi
  exact hg.2 _ (du x0 x1)⟩
 have hst:fx.length + ((frL fx ls).map (idx ls)).length < 490:=by rw [List.length_map]; omega
 have hsame:mg (oS fx ((frL fx ls).map (idx ls))) = mg (oS fx ls):=by
  refine (lX hst hgt).uniq ((lX hs hg).congr (fun a b=>?_) fun _=>.rfl)
  have c1:dN (Lk fx ls) a b ↔ Cn (nj fx ls ls.length) a b:=by rw [pg (Nat.le_refl _),List.take_length]
  rw [c1,← rL]
  refine dN.congr (fun u v h=>?_) (fun u v h=>?_) a b
  ·rcases List.mem_append.1 h with h | h
   ·have:=(gh.1 h).2
    simp only at this
    subst this; exact .rfl _
   ·obtain ⟨i,hi,e⟩:=List.mem_map.1 h
    obtain ⟨i0,i1,im⟩:=iu.1 (nz hi)
    simp only [fP,Prod.mk.injEq] at e
    exact .of ⟨idx ls i,List.mem_map.2 ⟨i,hi,rfl⟩,im,e.1,e.2⟩
  ·obtain ⟨l,hl,hm,rfl,rfl⟩:=h
   obtain ⟨i,hi,rfl⟩:=List.mem_map.1 hl
   exact .of (List.mem_append.2 (.inr (List.mem_map.2 ⟨i,hi,rfl⟩)))
 have hcount:=rK hg (Nat.le_refl ls.length)
 rw [← qM,← pak_nI hs hg (Nat.le_refl _),List.take_length] at hcount
 refine ak.bA (j6 hst) ?_
 rw [if_pos hgt,hsame]
 simp only [cm]
 have w1:IntKind.i64.wrap (((ky fx).length:Int) - ((mg (oS fx ls)).length:Int)) = ((ky fx).length:Int) - ((mg (oS fx ls)).length:Int):=by
  have hml:(ky fx).length ≤ fx.length:=by
   have:=List.length_filter_le (fun z=>decide (idx fx z = false)) (ni fx.length)
   rw [ri] at this; exact this
  exact jG (by omega) (by omega)
 rw [w1]
 refine ak.lnE false (by simp; omega) (ak.g1 rfl (ak.bA (sets_ok (by omega) fun c hc=>by have:=q2 c hc; omega) (ak.iff rfl ?_)))
 refine ak.bind (P:=(· = .inl ())) ?_ ?_
 ·refine ak.pass (by omega) (by omega) (by omega) (fun k k0 k1=>?_) rfl
  obtain ⟨i,hi⟩:∃ i,idx bz k = i:=⟨_,rfl⟩
  have hib:i ∈ bz:=by rw [← hi]; exact du k0 k1
  have hbr:=(h4 i).1 hib
  obtain ⟨a,c,hac,hnc⟩:=id hbr
  obtain ⟨i0,i1,im⟩:=dh.1 hac.1
  obtain ⟨j,rfl⟩:∃ j:Nat,i = j:=⟨i.toNat,by omega⟩
  have hjl:j < ls.length:=by omega
  have hwl:=sM hjl
  have w2:IntKind.i64.wrap ((j:Int) + 1) = (j:Int) + 1:=jG (by omega) (by omega)
  have t1:((j:Int) + 1).toNat = j + 1:=by omega
  have t2:(j:Int).toNat = j:=by omega
  refine ak.eq ?_
  refine ak.idx k0 k1 ?_
  rw [hi]
  refine ak.take (by omega) (by omega) (ak.app (by simp; omega) (ak.idx k0 k1 ?_))
  rw [hi,w2]
  refine ak.drop (by omega) (by omega) (ak.app (by simp; omega) ?_)
  rw [t1,t2,List.nil_append]
  refine ak.bA (j6 (ls:=wo ls j) (by omega)) ?_
  rw [if_pos (ox hg j)]
  simp only [cm]
  refine ak.idx k0 k1 ?_
  rw [hi]
  refine ak.bA (sF (F:=2000) (by omega) (by omega)) ?_
  have hin:(j:Int) ∈ frL fx ls:=by
   rw [qM]
   refine th im (fun h=>?_) hjl
   have hE:EG fx ls (j:Int) (idx ls (j:Int)).a0 (idx ls (j:Int)).a1:=⟨hac.1,.inl ⟨rfl,rfl⟩⟩
   have h':=(pg (Nat.le_of_lt hjl) _ _).1 ((eW _ _ _).1 h)
   have h'':dN (Lk fx (wo ls j)) (idx ls (j:Int)).a0 (idx ls (j:Int)).a1:=dN.mono (fun u v ⟨l,hl,hh⟩=>.of ⟨l,List.mem_append.2 (.inl hl),hh⟩) h'
   rw [wo_cj hjl] at h''
   rcases (EG.gph hg).uni hE hac with ⟨rfl,rfl⟩ | ⟨rfl,rfl⟩
   ·exact hnc h''
   ·exact hnc (.symm h'')
  have hcnt:=brd_cnt hs hg hjl
  rw [if_pos hbr] at hcnt
  unfold nI at hcnt
  rw [decide_eq_true hin,hcnt]
  refine ak.lnE false ?_ (ak.iff rfl (ak.some rfl))
  rw [jG (by omega) (by omega)]; simp
 rintro _ rfl
 simp only [iE]
 refine ak.bind (P:=(· = .inl ())) ?_ (by rintro _ rfl; exact ak.bA mK (ak.some rfl))
 refine ak.pass (by omega) (by omega) (by omega) (fun k k0 k1=>?_) rfl
 obtain ⟨n,hn⟩:∃ n,idx kz k = n:=⟨_,rfl⟩
 have hnk:n ∈ kz:=by rw [← hn]; exact du k0 k1
 have hcut:=(h2 n).1 hnk
 have hmv:Mv fx n:=by
  obtain ⟨_,_,i,_,hi,_⟩:=id hcut
  exact (hi.mv hg).1
 obtain ⟨n0,n1,n2⟩:=id hmv
 have hlt:=(cut_cnt hs hg hmv).1 hcut
 unfold nI at hlt
 refine ak.eq ?_
 refine ak.app (by simp; omega) (ak.idx k0 k1 ?_)
 rw [hn,List.nil_append]
 refine ak.idx n0 n1 (ak.bA (j6 (fx:=kA fx n) (by rw [nw]; exact hs)) ?_)
 rw [if_pos (tg hg n)]
 simp only [cm]
 refine ak.idx k0 k1 ?_
 rw [hn]
 refine ak.idx n0 n1 (ak.iff ?_ (ak.some rfl))
 rw [n2]; simp; omega
end Go.Proofs.Ytgojigdbelkgoaa
namespace Go.Proofs.Ytgojigdbelkgoaa
open Go Go.Sk
theorem rU (x0:List Bool) (x1:List A2):ay Try.prog [] 8 [] [.one (.sl 1 (x0.map eB)),.one (.sl 2 (x1.map (cy .i64)))] (Is [] (.b (.one (.bool true)))) :=
 eT (rT x0 x1)
end Go.Proofs.Ytgojigdbelkgoaa
