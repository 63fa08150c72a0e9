/- the plain law -/
import Derived.Test.YtnpddoaeoefcnaaW3
import Derived.Lib.SlicesCompact
namespace Go.Proofs.Ytnpddoaeoefcnaa
open Go Go.Sk
set_option maxRecDepth 100000
def uH (x:Int):List Int → List Int
 | []=>[x]
 | y :: l=>if x ≤ y then x :: y :: l else y :: uH x l
def sq:List Int → List Int
 | []=>[]
 | x :: l=>uH x (sq l)
theorem qv (x:Int):∀ l:List Int,(uH x l).Perm (x :: l)
 | []=>.refl _
 | y :: l=>by
  unfold uH
  split
  ·exact .refl _
  ·exact .trans (.cons y (qv x l)) (.swap x y l)
theorem rP:∀ l:List Int,(sq l).Perm l
 | []=>.refl _
 | x :: l=>(qv x (sq l)).trans (.cons x (rP l))
theorem wz (x:Int):∀ l:List Int,l.Pairwise (· ≤ ·) → (uH x l).Pairwise (· ≤ ·)
 | [],_=>by simp [uH]
 | y :: l,h=>by
  unfold uH
  have h1:=List.pairwise_cons.1 h
  split
  ·next hc=>
   refine List.pairwise_cons.2 ⟨fun z hz=>?_,h⟩
   rcases List.mem_cons.1 hz with rfl | hz
   ·exact hc
   ·exact Int.le_trans hc (h1.1 z hz)
  ·next hc=>
   refine List.pairwise_cons.2 ⟨fun z hz=>?_,wz x l h1.2⟩
   rcases List.mem_cons.1 ((qv x l).mem_iff.1 hz) with rfl | hz
   ·omega
   ·exact h1.1 z hz
theorem tZ:∀ l:List Int,(sq l).Pairwise (· ≤ ·)
 | []=>.nil
 | x :: l=>wz x _ (tZ l)
theorem sorted_perm (l:List Int):(sorted l).Perm l:=List.mergeSort_perm _ _
theorem wR (l:List Int):(sorted l).Pairwise (· ≤ ·) :=
 (List.pairwise_mergeSort (le:=fun x y:Int=>decide (x ≤ y)) (fun a b c h1 h2=>by simp only [decide_eq_true_eq] at *; omega) (fun a b=>by simp only [Bool.or_eq_true,decide_eq_true_eq]; omega) l).imp fun h=>of_decide_eq_true h
theorem wS (l:List Int):sorted l = sq l :=
 List.Perm.eq_of_pairwise (fun a b _ _ h1 h2=>Int.le_antisymm h1 h2) (wR l) (tZ l) ((sorted_perm l).trans (rP l).symm)
def sort2 (F:Nat) (zs:List Int):Option (List Int):=if zs.length < 1000000000 then some (sq zs) else none
theorem sort_eq:dU = sort2:=by
 funext F zs
 unfold dU m0 sort2
 rw [wS]
theorem wU:bt 2000 = some true:=by
 unfold bt fX dL dG dr cX dW cT bX
 rw [sort_eq]
 decide +kernel
end Go.Proofs.Ytnpddoaeoefcnaa
namespace Go.Proofs.Ytnpddoaeoefcnaa
open Go Go.Sk
set_option linter.unusedVariables false
set_option linter.unusedSimpArgs false
def nE (h:List Int) (n:Int):Prop:=∀ i:Nat,i < h.length → -1 ≤ idx h i ∧ idx h i < n
theorem xh {h:List Int} {n:Int} (hl:h.length ≤ 400):aj (cE 2000 h n) (fun r=>(r = true ↔ nE h n)):=by
 unfold cE
 refine aj.iff (decide_eq_false (by omega)) ?_
 refine aj.bind (P:=fun o:Unit ⊕ Bool=>(o = .inl () ∧ nE h n) ∨ (o = .inr false ∧ ¬ nE h n)) ?_ ?_
 ·refine aj.rounds (n:=h.length) (I:=fun k s=>s = (k:Int) ∧ ∀ i:Nat,i < k → i < h.length → -1 ≤ idx h i ∧ idx h i < n) (by omega) ⟨rfl,fun i h1=>by omega⟩ ?_
  rintro k s hk ⟨rfl,hI⟩
  refine aj.ite (fun hc=>?_) (fun hc=>?_)
  ·have hc:=of_decide_eq_true hc
   rw [oM (by omega) (by omega)]
   refine aj.idx (by omega) (by omega) ?_
   by_cases h1:idx h (k:Int) < -1
   ·refine aj.g0 (by simp [h1]) (aj.nw (by simp [h1]) (aj.some (.inr ⟨_,rfl,.inr ⟨rfl,fun ha=>by have:=(ha k (by omega)).1; omega⟩⟩)))
   ·refine aj.g1 (by simp [h1]) (aj.idx (by omega) (by omega) (aj.ite (fun hq=>?_) (fun hq=>?_)))
    ·have hq:n ≤ idx h (k:Int):=by simpa [h1] using hq
     exact aj.some (.inr ⟨_,rfl,.inr ⟨rfl,fun ha=>by have:=(ha k (by omega)).2; omega⟩⟩)
    ·simp only [h1,decide_false,Bool.false_or,decide_eq_false_iff_not] at hq
     refine aj.some (.inl ⟨_,rfl,⟨by push_cast; rfl,fun i g1 g2=>?_⟩,by omega⟩)
     by_cases e:i < k
     ·exact hI i e g2
     ·have:i = k:=by omega
      subst this
      omega
  ·have hc:=of_decide_eq_false hc
   exact aj.some (.inr ⟨_,rfl,.inl ⟨rfl,fun i h1=>hI i (by omega) h1⟩⟩)
 ·rintro o (⟨rfl,h⟩ | ⟨rfl,h⟩)
  ·exact aj.some (by simp [h])
  ·exact aj.some (by simp [h])
theorem xf {h:List Int} {n:Int} (hl:h.length ≤ 400):aj (eW 2000 h n) (fun r=>(r = true ↔ nE h n)):=by
 unfold eW
 refine aj.g1 (decide_eq_true (by omega)) ?_
 unfold dk dP
 refine aj.bind (P:=fun r:Bool=>(r = true ↔ ¬ nE h n)) ?_ ?_
 ·refine aj.bind (P:=fun r:Int=>(0 ≤ r ↔ ¬ nE h n)) ?_ (fun r hr=>aj.some (by simpa using hr))
  refine aj.bind (P:=fun o:Unit ⊕ Int=>(o = .inl () ∧ nE h n) ∨ (∃ k:Int,o = .inr k ∧ 0 ≤ k ∧ ¬ nE h n)) ?_ ?_
  ·refine aj.rounds (n:=h.length) (I:=fun k s=>s = (k:Int) ∧ ∀ i:Nat,i < k → i < h.length → -1 ≤ idx h i ∧ idx h i < n) (by omega) ⟨rfl,fun i h1=>by omega⟩ ?_
   rintro k s hk ⟨rfl,hI⟩
   refine aj.ite (fun hc=>?_) (fun hc=>?_)
   ·have hc:=of_decide_eq_true hc
    rw [oM (by omega) (by omega)]
    refine aj.idx (by omega) (by omega) ?_
    unfold eO
    refine aj.aC rfl (aj.ite (fun h=>?_) (fun h=>?_))
    ·simp only [Bool.or_eq_true,decide_eq_true_eq] at h
     exact aj.some (.inr ⟨_,rfl,.inr ⟨k,rfl,by omega,fun ha=>by have:=ha k (by omega); omega⟩⟩)
    ·simp only [Bool.or_eq_false_iff,decide_eq_false_iff_not] at h
     refine aj.some (.inl ⟨_,rfl,⟨by push_cast; rfl,fun i g1 g2=>?_⟩,by omega⟩)
     by_cases e:i < k
     ·exact hI i e g2
     ·have:i = k:=by omega
      subst this
      omega
   ·have hc:=of_decide_eq_false hc
    exact aj.some (.inr ⟨_,rfl,.inl ⟨rfl,fun i h1=>hI i (by omega) h1⟩⟩)
  ·rintro o (⟨rfl,h⟩ | ⟨k,rfl,h0,h⟩)
   ·exact aj.some (by simp [h])
   ·exact aj.some (by simp [h,h0])
 ·intro r hr
  refine aj.some ?_
  have:decide ((h.length:Int) ≤ 401) = true:=decide_eq_true (by omega)
  rw [this]
  cases r <;> simp_all
theorem ob {l:List Int} (hl:l.length ≤ 1000):bA 2000 l l = some true:=by
 refine aj.eq ?_
 unfold bA
 refine aj.iff (by simp) ?_
 refine aj.bind (P:=(· = .inl ())) ?_ ?_
 ·refine aj.rounds (n:=l.length) (I:=fun k s=>s = (k:Int)) (by omega) rfl ?_
  rintro k s hk rfl
  refine aj.ite (fun hc=>?_) (fun hc=>?_)
  ·have hc:(k:Int) < l.length:=of_decide_eq_true hc
   rw [oM (by omega) (by omega)]
   refine aj.idx (by omega) hc (aj.idx (by omega) hc (aj.iff (by simp) (aj.some (.inl ⟨_,rfl,by push_cast; rfl,by omega⟩))))
  ·exact aj.some (.inr ⟨_,rfl,rfl⟩)
 ·rintro o rfl
  exact aj.some rfl
section
variable {F:Nat} (hF:F ≤ 1000000000)
include hF
theorem xC {l:List Int} {n:Int} (hl:l.length < F):ct F l n = some (decide (n ∈ l)):=by
 refine aj.eq ?_
 unfold ct
 refine aj.bind (P:=fun o:Unit ⊕ Bool=>(o = .inl () ∧ ¬ n ∈ l) ∨ (o = .inr true ∧ n ∈ l)) ?_ ?_
 ·refine aj.find (c:=fun x=>decide (x = n)) (r:=fun _=>true) hl (by omega) (fun h=>.inl ⟨rfl,fun hm=>by have:=h n hm; simp at this⟩) (fun pre x post e _ hc=>.inr ⟨rfl,by rw [e,← of_decide_eq_true hc]; simp⟩) fun i x hx=>by rw [hx]; rfl
 ·rintro o (⟨rfl,h⟩ | ⟨rfl,h⟩)
  ·exact aj.some (by simp [h])
  ·exact aj.some (by simp [h])
theorem with35 {l:List Int} {n:Int} (hl:l.length < F) (hs:ri l):aj (c7 F l n) fun o=>ri o ∧ ∀ z,z ∈ o ↔ z = n ∨ z ∈ l:=by
 unfold c7
 refine aj.aC (xC hF hl) (aj.ite (fun h=>aj.some ⟨hs,fun z=>⟨.inr,?_⟩⟩) fun h=>?_)
 ·have h:=of_decide_eq_true h
  rintro (rfl | h')
  ·exact h
  ·exact h'
 have hn:n ∉ l:=of_decide_eq_false h
 refine aj.bind (P:=fun o:List Int × Bool=>mA (fun x:Int=>x) n l o.1 o.2) ?_ ?_
 ·refine aj.ea3 (I:=fun pre out p=>mA (fun x:Int=>x) n pre out p ∧ out.length ≤ pre.length + 1) hl (by omega) ⟨mA.zero,by simp⟩ ?_ fun a b h=>h.1
  rintro pre x post out p e hx ⟨hI,hlen⟩
  have hlt:∀ a ∈ pre,a < x:=fun a ha=>(List.pairwise_append.1 (e ▸ hs)).2.2 a ha x (List.mem_cons_self ..)
  have hxn:x ≠ n:=fun e'=>hn (by rw [e,← e']; simp)
  have hpl:pre.length < l.length:=by rw [e]; simp
  refine aj.bind (P:=fun z:List Int × Bool=>mA (fun x:Int=>x) n (pre ++ [x]) z.1 z.2 ∧ z.1.length ≤ pre.length + 2) ?_ fun z hz=>aj.some (.inl ⟨_,_,rfl,hz.1,by simpa using hz.2⟩)
  refine aj.bind (P:=fun z:List Int × Bool=>mA (fun x:Int=>x) n (pre ++ [x]) (z.1 ++ [x]) z.2 ∧ z.1.length ≤ pre.length + 1) ?_ ?_
  ·cases p with
   | true=>exact aj.g0 rfl (aj.iff rfl (aj.some ⟨hI.next (.inl rfl) hxn hlt,hlen⟩))
   | false=>
    refine aj.g1 rfl (aj.aC hx (aj.ite (fun hc=>?_) fun hc=>?_))
    ·have hc:n < x:=by simpa using hc
     obtain ⟨A,B,h1,_,_,h | h⟩:=id hI
     ·refine aj.app (by simp only [List.length_singleton]; omega) (aj.some ⟨hI.put hc,?_⟩)
      obtain ⟨_,rfl,rfl⟩:=h
      simp [h1]
     ·exact absurd h.1 (by simp)
    ·have hc:¬ n < x:=by simpa using hc
     exact aj.some ⟨hI.next (.inr (by omega)) hxn hlt,hlen⟩
  ·rintro ⟨o,p'⟩ ⟨h1,h2⟩
   simp only at h1 h2
   exact aj.aC hx (aj.app (by simp only [List.length_singleton]; omega) (aj.some ⟨h1,by simp; omega⟩))
 ·rintro ⟨o,p⟩ hI
  obtain ⟨h1,h2⟩:=hI.fin hs
  simp only at h1 h2 ⊢
  refine aj.bind (P:=(· = if (!p) = true then o ++ [n] else o)) ?_ fun z hz=>aj.some ?_
  ·obtain ⟨A,B,h3,_,_,h | h⟩:=hI
   ·obtain ⟨rfl,rfl,h4⟩:=h
    simp only at h4
    refine aj.nw rfl (aj.app (by rw [h4]; simp only [List.length_singleton]; simp at h3; rw [← h3]; omega) (aj.some rfl))
   ·obtain ⟨rfl,_,_⟩:=h
    exact aj.iff rfl (aj.some rfl)
  ·rw [hz]
   refine ⟨h1,fun z=>?_⟩
   rw [h2.mem_iff,List.mem_cons]
theorem wa {a b B:List Int} (hb:b.length < F) (hs:ri a) (hB:B.length < F) (hsub:∀ z,(z ∈ a ∨ z ∈ b) → z ∈ B):aj (cm F a b) fun o=>ri o ∧ ∀ z,z ∈ o ↔ z ∈ a ∨ z ∈ b:=by
 unfold cm
 refine aj.bind ?_ (fun o ho=>aj.some ho)
 refine aj.qF (I:=fun pre o=>ri o ∧ ∀ z,z ∈ o ↔ z ∈ a ∨ z ∈ pre) hb (by omega) ⟨hs,by simp⟩ ?_ fun s h=>h
 rintro pre x post o e hx ⟨h1,h2⟩
 have hol:o.length < F:=by
  have:o.length ≤ B.length:=rb h1 fun z hz=>hsub z (((h2 z).1 hz).imp_right fun h=>by rw [e]; simp [h])
  omega
 refine aj.aC hx (aj.bind (with35 hF hol h1) fun o' ho'=>aj.some (.inl ⟨_,rfl,ho'.1,fun z=>?_⟩))
 rw [ho'.2,h2,List.mem_append,List.mem_singleton]
 constructor
 ·rintro (h | h | h)
  ·exact .inr (.inr h)
  ·exact .inl h
  ·exact .inr (.inl h)
 ·rintro (h | h | h)
  ·exact .inr (.inl h)
  ·exact .inr (.inr h)
  ·exact .inl h
theorem meets35 {a b:List Int} (ha:a.length < F) (hb:b.length < F):cO F a b = some (a.any fun u=>b.contains u):=by
 refine aj.eq ?_
 unfold cO
 refine aj.bind (P:=fun o:Unit ⊕ Bool=>(o = .inl () ∧ ∀ x ∈ a,b.contains x = false) ∨ (o = .inr true ∧ ∃ x ∈ a,b.contains x = true)) ?_ ?_
 ·refine aj.find (c:=fun x=>b.contains x) (r:=fun _=>true) ha (by omega) (fun h=>.inl ⟨rfl,h⟩) (fun pre x post e _ hc=>.inr ⟨rfl,x,by rw [e]; simp,hc⟩) fun i x hx=>by
   rw [hx,Option.bind_some,xC hF hb,List.contains_eq_mem]; rfl
 ·rintro o (⟨rfl,h⟩ | ⟨rfl,h⟩)
  ·refine aj.some (Eq.symm ?_)
   rw [List.any_eq_false]; intro x hx; rw [h x hx]; simp
  ·exact aj.some (Eq.symm (List.any_eq_true.2 h))
theorem put35 {l:List (List Int)} {x:List Int} (hl:l.length < F) (hn:∀ c ∈ l,c ≠ []) (hx:x ≠ []) (hs:HdL l) (hd':∀ c ∈ l,hd c ≠ hd x):aj (dg F l x) fun o=>HdL o ∧ o.Perm (x :: l):=by
 unfold dg
 have h0:∀ c:List Int,c ≠ [] → aV c 0 = some (hd c):=fun c hc=>by
  cases c with
  | nil=>exact absurd rfl hc
  | cons a c=>exact og [] c a
 refine aj.bind (P:=fun o:List (List Int) × Bool=>mA hd x l o.1 o.2) ?_ ?_
 ·refine aj.ea3 (I:=fun pre out p=>mA hd x pre out p ∧ out.length ≤ pre.length + 1) hl (by omega) ⟨mA.zero,by simp⟩ ?_ fun a b h=>h.1
  rintro pre y post out p e hy ⟨hI,hlen⟩
  have hlt:∀ a ∈ pre,hd a < hd y:=fun a ha=>(List.pairwise_append.1 (e ▸ hs)).2.2 a ha y (List.mem_cons_self ..)
  have hym:y ∈ l:=by rw [e]; simp
  have hpl:pre.length < l.length:=by rw [e]; simp
  refine aj.bind (P:=fun z:List (List Int) × Bool=>mA hd x (pre ++ [y]) z.1 z.2 ∧ z.1.length ≤ pre.length + 2) ?_ fun z hz=>aj.some (.inl ⟨_,_,rfl,hz.1,by simpa using hz.2⟩)
  refine aj.bind (P:=fun z:List (List Int) × Bool=>mA hd x (pre ++ [y]) (z.1 ++ [y]) z.2 ∧ z.1.length ≤ pre.length + 1) ?_ ?_
  ·cases p with
   | true=>exact aj.g0 rfl (aj.g0 rfl (aj.g0 rfl (aj.iff rfl (aj.some ⟨hI.next (.inl rfl) (hd' y hym) hlt,hlen⟩))))
   | false=>
    refine aj.g1 rfl (aj.aC hy (aj.g1 rfl (aj.aC (h0 y (hn y hym)) (aj.g1 rfl (aj.aC (h0 x hx) (aj.ite (fun hc=>?_) fun hc=>?_))))))
    ·have hc:hd x < hd y:=by simpa using hc
     obtain ⟨A,B,h1,_,_,h | h⟩:=id hI
     ·refine aj.app (by simp only [List.length_singleton]; omega) (aj.some ⟨hI.put hc,?_⟩)
      obtain ⟨_,rfl,rfl⟩:=h
      simp [h1]
     ·exact absurd h.1 (by simp)
    ·have hc:¬ hd x < hd y:=by simpa using hc
     exact aj.some ⟨hI.next (.inr (by omega)) (hd' y hym) hlt,hlen⟩
  ·rintro ⟨o,p'⟩ ⟨h1,h2⟩
   simp only at h1 h2
   exact aj.aC hy (aj.app (by simp only [List.length_singleton]; omega) (aj.some ⟨h1,by simp; omega⟩))
 ·rintro ⟨o,p⟩ hI
  obtain ⟨h1,h2⟩:=hI.fin hs
  simp only at h1 h2 ⊢
  refine aj.bind (P:=(· = if (!p) = true then o ++ [x] else o)) ?_ fun z hz=>aj.some ?_
  ·obtain ⟨A,B,h3,_,_,h | h⟩:=hI
   ·obtain ⟨rfl,rfl,h4⟩:=h
    simp only at h4
    refine aj.nw rfl (aj.app (by rw [h4]; simp only [List.length_singleton]; simp at h3; rw [← h3]; omega) (aj.some rfl))
   ·obtain ⟨rfl,_,_⟩:=h
    exact aj.iff rfl (aj.some rfl)
  ·rw [hz]
   exact ⟨h1,h2⟩
end
def pr (L:List (List Int)) (a b:Int):Prop:=∃ c ∈ L,a ∈ c ∧ b ∈ c
def dm (L:List (List Int)) (a:Int):Prop:=∃ c ∈ L,a ∈ c
theorem pr_dm {L:List (List Int)} (a b:Int) (h:pr L a b):dm L a ∧ dm L b:=by
 obtain ⟨c,hc,h1,h2⟩:=h; exact ⟨⟨c,hc,h1⟩,c,hc,h2⟩
theorem pF {L:List (List Int)} (a:Int):dm L a ↔ a ∈ L.flatten:=by
 unfold dm; rw [List.mem_flatten]
theorem wH {P D:_} {s:List (List Int)} {B:List Int} (h:IsPt P D s) (hB:∀ a,D a → a ∈ B) {c:List Int} (hc:c ∈ s):c.length ≤ B.length :=
 rb (h.asd c hc).2 fun a ha=>hB a ((h.dom a).2 ⟨c,hc,ha⟩)
theorem uN {P D:_} {s:List (List Int)} {B:List Int} (h:IsPt P D s) (hB:∀ a,D a → a ∈ B):s.length ≤ B.length:=by
 have:(s.map hd).Nodup:=List.pairwise_map.2 (List.Pairwise.imp_of_mem (fun {c d} hc hd' h' e=>h' _ (jK (h.asd c hc).1) (e ▸ jK (h.asd d hd').1)) h.dj)
 have h2:=s6 (m:=B) this fun a ha=>by
  obtain ⟨c,hc,rfl⟩:=List.mem_map.1 ha
  exact hB _ ((h.dom _).2 ⟨c,hc,jK (h.asd c hc).1⟩)
 simpa using h2
theorem wu {F:Nat} (hF:F ≤ 100000000) {L:List (List Int)} (hl:L.length < F) (hB:L.flatten.length < F):aj (bd F L) (Part (pr L) (dm L)):=by
 have hF':F ≤ 1000000000:=by omega
 unfold bd
 refine aj.bind (P:=fun s=>IsPt (pr L) (dm L) s) ?_ ?_
 ·refine aj.qF (I:=fun pre s=>IsPt (pr pre) (dm pre) s) hl (by omega) ⟨by simp,by simp,by simp [dm],by simp,by simp⟩ ?_ fun s h=>h
  rintro pre x0 post s e hx hI
  refine aj.bind (P:=fun s'=>IsPt (pr (pre ++ [x0])) (dm (pre ++ [x0])) s') ?_ fun s' h=>aj.some (.inl ⟨_,rfl,h⟩)
  have hx0:∀ z ∈ x0,z ∈ L.flatten:=fun z hz=>(pF z).1 ⟨x0,by rw [e]; simp,hz⟩
  have hpre:∀ z,dm pre z → z ∈ L.flatten:=fun z ⟨c,hc,hz⟩=>(pF z).1 ⟨c,by rw [e]; simp [hc],hz⟩
  have hx0l:x0.length < F:=by
   have:x0.length ≤ L.flatten.length:=by rw [e]; simp; omega
   omega
  have hsl:s.length < F:=by have:=uN hI hpre; omega
  refine aj.aC hx (aj.bind (wa hF' (B:=L.flatten) hx0l List.Pairwise.nil hB (by simpa using hx0)) ?_)
  rintro x ⟨hxa,hxm⟩
  simp only [List.not_mem_nil,false_or] at hxm
  refine aj.ite (fun hc=>aj.some ?_) fun hc=>?_
  ·have:x0 = []:=by
    have hc:=of_decide_eq_true hc
    have hx':x = []:=List.length_eq_zero_iff.1 (by omega)
    cases x0 with
    | nil=>rfl
    | cons a x0=>have:=(hxm a).2 (List.mem_cons_self ..); rw [hx'] at this; cases this
   subst this
   refine hI.congr (kV.congr (fun a b ⟨c,hc,h⟩=>.of ⟨c,by simp [hc],h⟩) fun a b ⟨c,hc,h⟩=>.of ⟨c,?_,h⟩) fun a=>⟨fun ⟨c,hc,h⟩=>⟨c,by simp [hc],h⟩,fun ⟨c,hc,h⟩=>⟨c,?_,h⟩⟩
   ·rcases List.mem_append.1 hc with hc | hc
    ·exact hc
    ·rw [List.mem_singleton.1 hc] at h; exact absurd h.1 (by simp)
   ·rcases List.mem_append.1 hc with hc | hc
    ·exact hc
    ·rw [List.mem_singleton.1 hc] at h; exact absurd h (by simp)
  ·have hxne:x ≠ []:=by
    rintro rfl; simp at hc
   refine aj.bind (P:=fun o:List Int × List (List Int)=>ri o.1 ∧ (∀ z,z ∈ o.1 ↔ z ∈ x ∨ ∃ c ∈ s,(∃ u ∈ c,u ∈ x) ∧ z ∈ c) ∧ o.2 = s.filter fun c=>!(c.any fun u=>x.contains u)) ?_ ?_
   ·refine aj.ea3 (I:=fun q y rest=>ri y ∧ (∀ z,z ∈ y ↔ z ∈ x ∨ ∃ c ∈ q,(∃ u ∈ c,u ∈ x) ∧ z ∈ c) ∧ rest = q.filter fun c=>!(c.any fun u=>x.contains u)) hsl (by omega) ⟨hxa,by simp,rfl⟩ ?_ fun a b h=>h
    rintro q c post' y rest e' hc' ⟨h1,h2,h3⟩
    have hcs:c ∈ s:=by rw [e']; simp
    have hq:∀ d ∈ q,d ∈ s:=fun d hd=>by rw [e']; simp [hd]
    have hdj:∀ d ∈ q,∀ z ∈ d,z ∉ c:=fun d hd=>(List.pairwise_append.1 (e' ▸ hI.dj)).2.2 d hd c (List.mem_cons_self ..)
    have hcl:c.length < F:=by have:=wH hI hpre hcs; omega
    have hyB:∀ z ∈ y,z ∈ L.flatten:=fun z hz=>by
     rcases (h2 z).1 hz with hz | ⟨d,hd,_,hz⟩
     ·exact hx0 z ((hxm z).1 hz)
     ·exact hpre z ((hI.dom z).2 ⟨d,hq d hd,hz⟩)
    have hyl:y.length < F:=by have:=rb h1 hyB; omega
    have hmt:(c.any fun u=>y.contains u) = c.any fun u=>x.contains u:=by
     rw [Bool.eq_iff_iff,List.any_eq_true,List.any_eq_true]
     simp only [List.contains_eq_mem,decide_eq_true_eq]
     constructor
     ·rintro ⟨u,hu,huy⟩
      rcases (h2 u).1 huy with h | ⟨d,hd,_,hud⟩
      ·exact ⟨u,hu,h⟩
      ·exact absurd hu (hdj d hd u hud)
     ·rintro ⟨u,hu,hux⟩; exact ⟨u,hu,(h2 u).2 (.inl hux)⟩
    refine aj.bind (P:=fun o:List Int × List (List Int)=>ri o.1 ∧ (∀ z,z ∈ o.1 ↔ z ∈ x ∨ ∃ d ∈ q ++ [c],(∃ u ∈ d,u ∈ x) ∧ z ∈ d) ∧ o.2 = (q ++ [c]).filter fun c=>!(c.any fun u=>x.contains u)) ?_ fun o ho=>aj.some (.inl ⟨_,_,rfl,ho⟩)
    refine aj.aC hc' (aj.aC (meets35 hF' hcl hyl) ?_)
    rw [hmt]
    refine aj.ite (fun hm=>?_) fun hm=>?_
    ·have hm':∃ u ∈ c,u ∈ x:=by simpa using hm
     refine aj.aC hc' (aj.bind (wa hF' hcl h1 hB (B:=L.flatten) ?_) fun y' hy'=>aj.some ⟨hy'.1,fun z=>?_,?_⟩)
     ·rintro z (hz | hz)
      ·exact hyB z hz
      ·exact hpre z ((hI.dom z).2 ⟨c,hcs,hz⟩)
     ·rw [hy'.2,h2]
      constructor
      ·rintro ((h | ⟨d,hd,h⟩) | h)
       ·exact .inl h
       ·exact .inr ⟨d,by simp [hd],h⟩
       ·exact .inr ⟨c,by simp,hm',h⟩
      ·rintro (h | ⟨d,hd,h⟩)
       ·exact .inl (.inl h)
       ·rcases List.mem_append.1 hd with hd | hd
        ·exact .inl (.inr ⟨d,hd,h⟩)
        ·rw [List.mem_singleton.1 hd] at h; exact .inr h.2
     ·rw [h3,List.filter_append]
      simp only [List.filter_cons,List.filter_nil,hm]
      simp
    ·have hm':¬ ∃ u ∈ c,u ∈ x:=by simpa using hm
     have hrl:rest.length ≤ s.length:=by
      rw [h3]; refine Nat.le_trans (List.length_filter_le _ _) ?_
      rw [e']; simp
     refine aj.aC hc' (aj.app (by simp only [List.length_singleton]; omega) (aj.some ⟨h1,fun z=>?_,?_⟩))
     ·rw [h2]
      constructor
      ·rintro (h | ⟨d,hd,h⟩)
       ·exact .inl h
       ·exact .inr ⟨d,by simp [hd],h⟩
      ·rintro (h | ⟨d,hd,h⟩)
       ·exact .inl h
       ·rcases List.mem_append.1 hd with hd | hd
        ·exact .inr ⟨d,hd,h⟩
        ·rw [List.mem_singleton.1 hd] at h; exact absurd h.1 hm'
     ·rw [h3,List.filter_append]
      simp only [List.filter_cons,List.filter_nil,hm]
      simp
   ·rintro ⟨y,rest⟩ ⟨h1,h2,h3⟩
    simp only at h1 h2 h3
    have hrl:rest.length ≤ s.length:=by rw [h3]; exact List.length_filter_le _ _
    refine aj.app (by simp only [List.length_singleton]; omega) (aj.some ?_)
    refine hI.add (x:=x) pr_dm hxne h1 h2 (fun a b=>?_) (fun a=>?_) h3
    ·unfold pr
     simp only [List.mem_append,List.mem_singleton]
     constructor
     ·rintro ⟨c,hc | rfl,h⟩
      ·exact .inl ⟨c,hc,h⟩
      ·exact .inr ⟨(hxm a).2 h.1,(hxm b).2 h.2⟩
     ·rintro (⟨c,hc,h⟩ | ⟨h,h'⟩)
      ·exact ⟨c,.inl hc,h⟩
      ·exact ⟨x0,.inr rfl,(hxm a).1 h,(hxm b).1 h'⟩
    ·unfold dm
     simp only [List.mem_append,List.mem_singleton]
     constructor
     ·rintro ⟨c,hc | rfl,h⟩
      ·exact .inl ⟨c,hc,h⟩
      ·exact .inr ((hxm a).2 h)
     ·rintro (⟨c,hc,h⟩ | h)
      ·exact ⟨c,.inl hc,h⟩
      ·exact ⟨x0,.inr rfl,(hxm a).1 h⟩
 ·intro s hs
  have hsl:s.length < F:=by have:=uN hs (fun a=>(pF a).1); omega
  refine aj.bind ?_ (fun o ho=>aj.some ho)
  refine aj.qF (I:=fun q o=>HdL o ∧ o.Perm q) hsl (by omega) ⟨List.Pairwise.nil,.refl _⟩ ?_ ?_
  ·rintro q c post o e hc ⟨h1,h2⟩
   have hcs:c ∈ s:=by rw [e]; simp
   have hq:∀ d ∈ q,d ∈ s:=fun d hd=>by rw [e]; simp [hd]
   have hol:o.length < F:=by
    rw [h2.length_eq]
    have:q.length < s.length:=by rw [e]; simp
    omega
   have hdj:∀ d ∈ q,∀ z ∈ d,z ∉ c:=fun d hd=>(List.pairwise_append.1 (e ▸ hs.dj)).2.2 d hd c (List.mem_cons_self ..)
   refine aj.aC hc (aj.bind (put35 hF' hol (fun d hd=>(hs.asd d (hq d (h2.mem_iff.1 hd))).1) (hs.asd c hcs).1 h1 fun d hd e=>?_) fun o' ho'=>aj.some (.inl ⟨_,rfl,ho'.1,?_⟩))
   ·have hd':=h2.mem_iff.1 hd
    exact hdj d hd' _ (jK (hs.asd d (hq d hd')).1) (e ▸ jK (hs.asd c hcs).1)
   ·exact ho'.2.trans ((List.Perm.cons c h2).trans (List.perm_append_singleton c q).symm)
  ·rintro o ⟨h1,h2⟩
   exact { asd:=fun c hc=>hs.asd c (h2.mem_iff.1 hc),dj:=(h2.pairwise_iff (fun {a b} h z hz hza=>h z hza hz)).2 hs.dj,dom:=fun a=>by rw [hs.dom]; simp only [h2.mem_iff],con:=fun c hc=>hs.con c (h2.mem_iff.1 hc),cl:=fun c hc=>hs.cl c (h2.mem_iff.1 hc),srt:=h1 }
end Go.Proofs.Ytnpddoaeoefcnaa
namespace Go.Proofs.Ytnpddoaeoefcnaa
open Go Go.Sk
set_option linter.unusedVariables false
set_option linter.unusedSimpArgs false
def aH (m:cZ):List Int:=m.map (·.1)
def cnt (m:cZ) (x:Int):Nat:=((aH m).filter fun z=>decide (z < x)).length
theorem cnt_le (m:cZ) (x:Int):cnt m x ≤ m.length:=by
 unfold cnt aH; refine Nat.le_trans (List.length_filter_le _ _) ?_; simp
theorem cnt_lt {m:cZ} {u x:Int} (hu:eT m u = true) (h:u < x):cnt m u < cnt m x:=by
 have hm:=(mD u m).1 hu
 unfold cnt
 have:∀ ks:List Int,(∀ z,z ∈ ks → True) → (ks.filter fun z=>decide (z < u)).length ≤ (ks.filter fun z=>decide (z < x)).length ∧ (u ∈ ks → (ks.filter fun z=>decide (z < u)).length < (ks.filter fun z=>decide (z < x)).length):=fun ks _=>by
  induction ks with
  | nil=>simp
  | cons a ks ih=>
   have ih:=ih (fun _ _=>trivial)
   simp only [List.filter_cons,List.mem_cons]
   by_cases h1:a < u
   ·have h2:a < x:=by omega
    simp only [h1,h2,decide_true,if_true,List.length_cons]
    refine ⟨by omega,?_⟩
    rintro (rfl | h')
    ·omega
    ·have:=ih.2 h'; omega
   ·by_cases h2:a < x
    ·simp only [h1,h2,decide_true,decide_false,if_true,List.length_cons]
     refine ⟨by have:=ih.1; simp; omega,fun _=>by have:=ih.1; simp; omega⟩
    ·simp only [h1,h2,decide_false]
     refine ⟨by simpa using ih.1,?_⟩
     rintro (rfl | h')
     ·omega
     ·simpa using ih.2 h'
 exact (this (aH m) fun _ _=>trivial).2 hm
theorem wg {F:Nat}:∀ (n:Nat) {m:cZ} {r:Int → Int} {x:Int},qa m r → cnt m x < n → aj (cn F n x m) fun z=>z.1 = r x ∧ qa z.2 r ∧ aH z.2 = if eT m x then aH m else aH m ++ [x]
 | 0,m,r,x,h,hn=>by omega
 | n + 1,m,r,x,h,hn=>by
  show aj (if (!(eT m x)) = true then _ else _) _
  refine aj.ite (fun hc=>?_) fun hc=>?_
  ·have hc:eT m x = false:=by simpa using hc
   refine aj.some ⟨(h.out x hc).symm,h.add hc,?_⟩
   simp only [aH]
   rw [mG]
  ·have hc:eT m x = true:=by simpa using hc
   refine aj.ite (fun he=>aj.some ⟨(h.fix x hc (of_decide_eq_true he)).symm,h,by simp [hc]⟩) fun he=>?_
   have he:=of_decide_eq_false he
   have hu:=h.has x hc
   have hl:fP m x < x:=by have:=h.le x hc; omega
   refine aj.bind (wg n (x:=fP m x) h (by have:=cnt_lt hu hl; omega)) ?_
   rintro ⟨a,m'⟩ ⟨h1,h2,h3⟩
   simp only at h1 h2 h3
   rw [hu,if_pos rfl] at h3
   have e:a = r x:=by rw [h1,h.step x hc]
   have hx':eT m' x = true:=by rw [mD]; show x ∈ aH m'; rw [h3]; exact (mD x m).1 hc
   refine aj.some ⟨e,?_,?_⟩
   ·simp only; rw [e]; exact h2.short hx'
   ·simp only [aH]
    rw [mG,hx',hc]
    exact h3
theorem k8 {m:cZ} {x:Int}:eT m x = true ↔ x ∈ aH m:=mD x m
theorem uM {F:Nat} {m:cZ} {r:Int → Int} {x:Int} (h:qa m r) (hF:m.length < F):aj (dp F x m) fun z=>z.1 = r x ∧ qa z.2 r ∧ (∀ y,y ∈ aH z.2 ↔ y = x ∨ y ∈ aH m) ∧ z.2.length ≤ m.length + 1 ∧ (eT m x = true → aH z.2 = aH m):=by
 refine (wg F h (by have:=cnt_le m x; omega)).mono ?_
 rintro ⟨a,m'⟩ ⟨h1,h2,h3⟩
 simp only at h1 h2 h3 ⊢
 have hl:(aH m').length = m'.length:=by simp [aH]
 have hl2:(aH m).length = m.length:=by simp [aH]
 refine ⟨h1,h2,fun y=>?_,?_,fun hh=>by rw [h3,hh]; rfl⟩
 ·rw [h3]
  split
  ·next hc=>
   constructor
   ·exact .inr
   ·rintro (rfl | h)
    ·exact k8.1 hc
    ·exact h
  ·simp [or_comm]
 ·rw [← hl,h3]; split <;> simp [hl2]
theorem join_S {F:Nat} {m:cZ} {r:Int → Int} {x y:Int} (h:qa m r) (hF:m.length + 1 < F):aj (cp F x y m) fun z=>z.1 = decide (r x ≠ r y) ∧ qa z.2 (jn r x y) ∧ (∀ u,u ∈ aH z.2 ↔ u = x ∨ u = y ∨ u ∈ aH m) ∧ z.2.length ≤ m.length + 2:=by
 unfold cp
 refine aj.bind (uM h (by omega)) ?_
 rintro ⟨a,m1⟩ ⟨rfl,h1,k1,l1,_⟩
 simp only at h1 k1 l1 ⊢
 refine aj.bind (uM h1 (by simp only; omega)) ?_
 rintro ⟨b,m2⟩ ⟨rfl,h2,k2,l2,_⟩
 simp only at h2 k2 l2 ⊢
 have kk:∀ u,u ∈ aH m2 ↔ u = x ∨ u = y ∨ u ∈ aH m:=fun u=>by
  rw [k2,k1]; constructor
  ·rintro (h | h | h)
   ·exact .inr (.inl h)
   ·exact .inl h
   ·exact .inr (.inr h)
  ·rintro (h | h | h)
   ·exact .inr (.inl h)
   ·exact .inl h
   ·exact .inr (.inr h)
 refine aj.ite (fun hc=>?_) fun hc=>?_
 ·have hc:r x = r y:=of_decide_eq_true hc
  have ej:jn r x y = r:=funext fun z=>by unfold jn; rw [hc,Int.max_self,Int.min_self]; split <;> simp_all
  rw [ej]
  exact aj.some ⟨by simp [hc],h2,kk,by simp only; omega⟩
 ·have hc:r x ≠ r y:=of_decide_eq_false hc
  have hx:eT m2 x = true:=k8.2 ((kk x).2 (.inl rfl))
  have hy:eT m2 y = true:=k8.2 ((kk y).2 (.inr (.inl rfl)))
  have hM:eT m2 (max (r x) (r y)) = true:=by
   have a:=(h2.low x hx).2.1
   have b:=(h2.low y hy).2.1
   by_cases hl:r x ≤ r y
   ·rw [Int.max_eq_right hl]; exact b
   ·rw [Int.max_eq_left (by omega)]; exact a
  have ek:aH (gi m2 (max (r x) (r y)) (min (r x) (r y))) = aH m2:=by
   unfold aH; rw [mG,hM]; rfl
  refine aj.some ⟨by simp [hc],h2.join hx hy hc,fun u=>by simp only; rw [ek]; exact kk u,?_⟩
  have:(aH (gi m2 (max (r x) (r y)) (min (r x) (r y)))).length = (aH m2).length:=by rw [ek]
  simp only [aH,List.length_map] at this
  simp only; omega
def ny (ps:List (Int × Int)):Int → Int:=ps.foldl (fun r p=>jn r p.1 p.2) fun x=>x
theorem sG (ps:List (Int × Int)) (x y:Int):ny (ps ++ [(x,y)]) = jn (ny ps) x y:=by simp [ny]
theorem wX (ps:List (Int × Int)) (z:Int):ny ps (ny ps z) = ny ps z:=by
 have:∀ (ps:List (Int × Int)) (r:Int → Int),(∀ z,r (r z) = r z) → ∀ z,ps.foldl (fun r p=>jn r p.1 p.2) r (ps.foldl (fun r p=>jn r p.1 p.2) r z) = ps.foldl (fun r p=>jn r p.1 p.2) r z:=fun ps=>by
  induction ps with
  | nil=>exact fun r h=>h
  | cons p ps ih=>exact fun r h=>ih _ (jn_idem h p.1 p.2)
 exact this ps _ (fun _=>rfl) z
theorem yw:∀ (ps:List (Int × Int)) (a b:Int),ny ps a = ny ps b ↔ kV (fun u v=>(u,v) ∈ ps) a b:=fun ps=>by
 have key:∀ (qs:List (Int × Int)),(∀ a b,ny qs a = ny qs b ↔ kV (fun u v=>(u,v) ∈ qs) a b) → ∀ ps a b,ny (qs ++ ps) a = ny (qs ++ ps) b ↔ kV (fun u v=>(u,v) ∈ qs ++ ps) a b:=fun qs h ps=>by
  induction ps generalizing qs with
  | nil=>simpa using h
  | cons p ps ih=>
   have e:qs ++ p :: ps = (qs ++ [p]) ++ ps:=by simp
   rw [e]
   refine ih _ fun a b=>?_
   rw [show p = (p.1,p.2) from rfl,sG,jn_con (wX qs) h]
   refine kV.congr (fun u v h=>.of ?_) (fun u v h=>.of ?_) a b
   ·rcases h with h | ⟨rfl,rfl⟩ <;> simp_all
   ·rcases List.mem_append.1 h with h | h
    ·exact .inl h
    ·have:=List.mem_singleton.1 h; simp only [Prod.mk.injEq] at this; exact .inr this
 refine key [] (fun a b=>?_) ps
 refine ⟨fun h=>by show kV _ a b; have:a = b:=h; rw [this]; exact .rfl b,fun h=>?_⟩
 refine h.lift (E:=fun a b=>ny [] a = ny [] b) (fun _=>rfl) (fun _ _ h=>h.symm) (fun _ _ _ h1 h2=>h1.trans h2) fun a b h=>by cases h
def sg (L:List (List Int)):List (Int × Int):=(L.map fun c=>c.map fun n=>(hd c,n)).flatten
theorem pD {L:List (List Int)} {a b:Int}:(a,b) ∈ sg L ↔ ∃ c ∈ L,hd c = a ∧ b ∈ c:=by
 unfold sg
 rw [List.mem_flatten]
 constructor
 ·rintro ⟨l,hl,h⟩
  obtain ⟨c,hc,rfl⟩:=List.mem_map.1 hl
  obtain ⟨n,hn,h⟩:=List.mem_map.1 h
  simp only [Prod.mk.injEq] at h
  exact ⟨c,hc,h.1,h.2 ▸ hn⟩
 ·rintro ⟨c,hc,rfl,h⟩
  exact ⟨_,List.mem_map.2 ⟨c,hc,rfl⟩,List.mem_map.2 ⟨b,h,rfl⟩⟩
theorem con_prs (L:List (List Int)) (a b:Int):kV (fun u v=>(u,v) ∈ sg L) a b ↔ kV (pr L) a b:=by
 refine kV.congr (fun u v h=>?_) (fun u v h=>?_) a b
 ·obtain ⟨c,hc,rfl,h'⟩:=pD.1 h
  exact .of ⟨c,hc,jK (List.ne_nil_of_mem h'),h'⟩
 ·obtain ⟨c,hc,h1,h2⟩:=h
  exact .trans (.symm (.of (pD.2 ⟨c,hc,rfl,h1⟩))) (.of (pD.2 ⟨c,hc,rfl,h2⟩))
theorem vx (L M:List (List Int)):sg (L ++ M) = sg L ++ sg M:=by simp [sg]
theorem wi (L:List (List Int)):(sg L).length = L.flatten.length:=by
 unfold sg
 rw [List.length_flatten,List.length_flatten,List.map_map]
 congr 1
 refine List.map_congr_left fun c _=>?_
 simp
structure St (m:cZ) (ps:List (Int × Int)):Prop where
 up:qa m (ny ps)
 keys:∀ u,u ∈ aH m ↔ ∃ p ∈ ps,u = p.1 ∨ u = p.2
 len:m.length ≤ 2 * ps.length
theorem St.nil:St [] []:=⟨qa.nil,by simp [aH],by simp⟩
theorem St.join {F:Nat} {m:cZ} {ps:List (Int × Int)} {x y:Int} (h:St m ps) (hF:2 * ps.length + 1 < F):aj (cp F x y m) fun z=>z.1 = decide (ny ps x ≠ ny ps y) ∧ St z.2 (ps ++ [(x,y)]):=by
 refine (join_S h.up (x:=x) (y:=y) (by have:=h.len; omega)).mono ?_
 rintro ⟨b,m'⟩ ⟨h1,h2,h3,h4⟩
 refine ⟨h1,by rw [sG]; exact h2,fun u=>?_,by have:=h.len; simp at h4 ⊢; omega⟩
 rw [h3,h.keys]
 constructor
 ·rintro (h | h | ⟨p,hp,h⟩)
  ·exact ⟨(x,y),by simp,.inl h⟩
  ·exact ⟨(x,y),by simp,.inr h⟩
  ·exact ⟨p,by simp [hp],h⟩
 ·rintro ⟨p,hp,h⟩
  rcases List.mem_append.1 hp with hp | hp
  ·exact .inr (.inr ⟨p,hp,h⟩)
  ·rw [List.mem_singleton.1 hp] at h
   rcases h with h | h
   ·exact .inl h
   ·exact .inr (.inl h)
structure Row (r:Int → Int) (ts:List Int) (at':cZ) (out:List (List Int)):Prop where
 len:out.length = (ts.filter fun x=>decide (r x = x)).length
 get:∀ j (h:j < (ts.filter fun x=>decide (r x = x)).length),out[j]? = some (ts.filter fun z=>decide (r z = (ts.filter fun x=>decide (r x = x))[j])) ∧ fP at' ((ts.filter fun x=>decide (r x = x))[j]) = (j:Int)
theorem Row.eq {r:Int → Int} {ts:List Int} {at':cZ} {out:List (List Int)} (h:Row r ts at' out):out = canon r ts:=by
 refine List.ext_getElem? fun j=>?_
 unfold canon
 by_cases hj:j < (ts.filter fun x=>decide (r x = x)).length
 ·rw [(h.get j hj).1,List.getElem?_map,List.getElem?_eq_getElem hj]; rfl
 ·rw [List.getElem?_eq_none (by have:=h.len; omega),List.getElem?_eq_none (by rw [List.length_map]; omega)]
theorem Row.step {r:Int → Int} {ts:List Int} {at':cZ} {out:List (List Int)} (h:Row r ts at' out) {x:Int} (hx:∀ t ∈ ts,t < x) (hle:∀ z,r z ≤ z) (hi:∀ z,r (r z) = r z) (hr:r x = x ∨ r x ∈ ts) :
  ∃ at2 o2,(at2,o2) = (if r x = x then (gi at' x (out.length:Int),out ++ [[]]) else (at',out)) ∧ ∃ k:Nat,fP at2 (r x) = (k:Int) ∧ k < o2.length ∧ ∃ row,o2[k]? = some row ∧ Row r (ts ++ [x]) at2 (o2.set k (row ++ [x])):=by
 rcases hr with hr | hr
 ·refine ⟨gi at' x (out.length:Int),out ++ [[]],by rw [if_pos hr],out.length,by rw [hr,dI,if_pos rfl],by simp,[],by simp,?_⟩
  have e:(ts ++ [x]).filter (fun y=>decide (r y = y)) = ts.filter (fun y=>decide (r y = y)) ++ [x]:=by simp [List.filter_append,hr]
  have hno:ts.filter (fun z=>decide (r z = x)) = []:=by
   rw [List.filter_eq_nil_iff]
   intro z hz
   have:=hx z hz; have:=hle z
   simp only [decide_eq_true_eq]; omega
  refine ⟨by rw [e]; simp [h.len],fun j hj=>?_⟩
  simp only [e,List.length_append,List.length_singleton] at hj
  by_cases hj2:j < (ts.filter fun y=>decide (r y = y)).length
  ·have hm:(ts.filter fun y=>decide (r y = y))[j] ∈ ts:=(List.mem_filter.1 (List.getElem_mem hj2)).1
   have hne:(ts.filter fun y=>decide (r y = y))[j] ≠ x:=Int.ne_of_lt (hx _ hm)
   simp only [e,List.getElem_append_left hj2]
   obtain ⟨h1,h2⟩:=h.get j hj2
   have hjl:j < out.length:=by have:=h.len; omega
   refine ⟨?_,by rw [dI,if_neg hne]; exact h2⟩
   rw [List.getElem?_set,if_neg (by omega),List.getElem?_append_left hjl,h1,List.filter_append]
   have:¬ r x = (ts.filter fun y=>decide (r y = y))[j]:=by rw [hr]; exact fun e=>hne e.symm
   simp [this]
  ·have hj3:j = (ts.filter fun y=>decide (r y = y)).length:=by omega
   subst hj3
   have eg:∀ hh,((ts ++ [x]).filter fun y=>decide (r y = y))[(ts.filter fun y=>decide (r y = y)).length]'hh = x:=fun hh=>by
    simp only [e,List.getElem_append_right (Nat.le_refl _),Nat.sub_self]; rfl
   rw [eg]
   refine ⟨?_,by rw [dI,if_pos rfl,h.len]⟩
   rw [List.getElem?_set,if_pos (by rw [h.len]),if_pos (by simp [h.len]),List.filter_append,hno]
   simp [hr]
 ·have hne:r x ≠ x:=fun e=>by have:=hx _ hr; omega
  have hm:r x ∈ ts.filter fun y=>decide (r y = y):=List.mem_filter.2 ⟨hr,by simpa using hi x⟩
  obtain ⟨k,hk,ek⟩:=List.getElem_of_mem hm
  obtain ⟨h1,h2⟩:=h.get k hk
  have hkl:k < out.length:=by have:=h.len; omega
  refine ⟨at',out,by rw [if_neg hne],k,by rw [← ek]; exact h2,hkl,_,h1,?_⟩
  have e:(ts ++ [x]).filter (fun y=>decide (r y = y)) = ts.filter (fun y=>decide (r y = y)):=by simp [List.filter_append,hne]
  refine ⟨by rw [e,List.length_set,h.len],fun j hj=>?_⟩
  simp only [e] at hj ⊢
  obtain ⟨g1,g2⟩:=h.get j hj
  refine ⟨?_,g2⟩
  rw [List.getElem?_set,List.filter_append]
  by_cases hjk:k = j
  ·subst hjk
   have:r x = (ts.filter fun y=>decide (r y = y))[k]:=ek.symm
   rw [if_pos rfl,if_pos hkl]
   simp [this]
  ·rw [if_neg hjk,g1]
   have hnd:(ts.filter fun y=>decide (r y = y))[j] ≠ r x:=fun e2=>by
    have:=(h.get j hj).2
    rw [e2,← ek,h2] at this
    omega
   have:¬ r x = (ts.filter fun y=>decide (r y = y))[j]:=fun e=>hnd e.symm
   simp [this]
theorem sets_S {F:Nat} (hF:F ≤ 100000000) {m:cZ} {r:Int → Int} (h:qa m r) (hl:m.length < F):aj (bX F m) fun z=>z.1 = canon r (sorted (aH m)) ∧ qa z.2 r ∧ aH z.2 = aH m:=by
 unfold bX
 have hkl:(aH m).length = m.length:=by simp [aH]
 refine aj.aC (x:=aH m) (by unfold s7; rw [if_pos (by omega)]; rfl) (aj.aC (x:=sorted (aH m)) (by unfold dU m0; rw [if_pos (by omega)]) ?_)
 have hsl:(sorted (aH m)).length = m.length:=by rw [(pJ _).length_eq,hkl]
 have hasd:ri (sorted (aH m)):=wc h.nd
 refine aj.bind (P:=fun z:List (List Int) × cZ=>z.1 = canon r (sorted (aH m)) ∧ qa z.2 r ∧ aH z.2 = aH m) ?_ fun z hz=>aj.some hz
 refine aj.ea4 (I:=fun pre up at' out=>qa up r ∧ aH up = aH m ∧ Row r pre at' out) (by omega) (by omega) ⟨h,rfl,by simp,by simp⟩ ?_ fun up at' out hI=>⟨hI.2.2.eq,hI.1,hI.2.1⟩
 rintro pre x post up at' out e hx ⟨h1,h2,h3⟩
 have hul:up.length = m.length:=by rw [← hkl,← h2]; simp [aH]
 have hxs:x ∈ sorted (aH m):=by rw [e]; simp
 have hxk:eT up x = true:=k8.2 (by rw [h2]; exact oc.1 hxs)
 have hlt:∀ t ∈ pre,t < x:=fun t ht=>(List.pairwise_append.1 (e ▸ hasd)).2.2 t ht x (List.mem_cons_self ..)
 have hr:r x = x ∨ r x ∈ pre:=by
  by_cases hc:r x = x
  ·exact .inl hc
  ·have hm:r x ∈ sorted (aH m):=oc.2 (by rw [← h2]; exact k8.1 (h1.low x hxk).2.1)
   rw [e] at hm
   have hlx:r x < x:=by have:=h.rle x; omega
   rcases List.mem_append.1 hm with hm | hm
   ·exact .inr hm
   ·rcases List.mem_cons.1 hm with hm | hm
    ·exact absurd hm hc
    ·have:=(List.pairwise_cons.1 (List.pairwise_append.1 (e ▸ hasd)).2.1).1 _ hm
     omega
 have hol:out.length ≤ pre.length:=by rw [h3.len]; exact List.length_filter_le _ _
 have hpl:pre.length < m.length:=by rw [← hsl,e]; simp
 refine aj.bind (P:=fun z:cZ × cZ × List (List Int)=>qa z.1 r ∧ aH z.1 = aH m ∧ Row r (pre ++ [x]) z.2.1 z.2.2) ?_ fun z hz=>aj.some (.inl ⟨_,_,_,rfl,hz⟩)
 refine aj.aC hx (aj.bind (uM h1 (by omega)) ?_)
 rintro ⟨a,up2⟩ ⟨rfl,g1,_,_,g2⟩
 simp only at g1 g2 ⊢
 obtain ⟨at2,o2,e2,k,hk,hk2,row,hrow,hR⟩:=h3.step hlt h.rle h.idem hr
 have hbl:out.length + 1 ≤ 1000000000:=by omega
 refine aj.bind (P:=(· = (at2,o2))) ?_ ?_
 ·rw [e2]
  refine aj.ite (fun hc=>?_) fun hc=>?_
  ·have hc:=of_decide_eq_true hc
   exact aj.app (by simp only [List.length_singleton]; omega) (aj.some (by rw [if_pos hc]))
  ·have hc:=of_decide_eq_false hc
   exact aj.some (by rw [if_neg hc])
 ·rintro z rfl
  simp only
  have hix:aV o2 (fP at2 (r x)) = some row:=by
   rw [hk,iv (by omega) (by omega),lP _ _ hk2]
   rw [List.getElem?_eq_getElem hk2] at hrow; exact hrow
  have hrl:row.length ≤ pre.length:=by
   have:o2.set k (row ++ [x]) = canon r (pre ++ [x]):=hR.eq
   have h4:row ++ [x] ∈ canon r (pre ++ [x]):=by
    rw [← this]; exact List.mem_iff_getElem?.2 ⟨k,by rw [List.getElem?_set,if_pos rfl,if_pos hk2]⟩
   unfold canon at h4
   obtain ⟨q,_,hq⟩:=List.mem_map.1 h4
   have h5:=congrArg List.length hq
   have h6:=List.length_filter_le (fun z=>decide (r z = q)) (pre ++ [x])
   simp only [List.length_append,List.length_singleton] at h5 h6
   omega
  refine aj.aC hix (aj.app (by simp only [List.length_singleton]; omega) (aj.aC hix (aj.some ⟨g1,by rw [g2 hxk]; exact h2,?_⟩)))
  simp only
  rw [hk,Int.toNat_natCast]
  exact hR
theorem wT {F:Nat} (hF:F ≤ 100000000) {m:cZ} {ps:List (Int × Int)} (h:St m ps) (hl:2 * ps.length < F):aj (bX F m) fun z=>Part (fun a b=>(a,b) ∈ ps) (fun a=>∃ p ∈ ps,a = p.1 ∨ a = p.2) z.1 ∧ St z.2 ps:=by
 refine (sets_S hF h.up (by have:=h.len; omega)).mono ?_
 rintro ⟨o,m'⟩ ⟨h1,h2,h3⟩
 simp only at h1 h2 h3 ⊢
 have hk:∀ u,u ∈ sorted (aH m) ↔ ∃ p ∈ ps,u = p.1 ∨ u = p.2:=fun u=>by rw [oc,h.keys]
 refine ⟨?_,h2,fun u=>by rw [h3,h.keys],?_⟩
 ·rw [h1]
  have hp:=vK (r:=ny ps) (P:=fun a b=>(a,b) ∈ ps) (wc h.up.nd) h.up.rle h.up.idem (fun z hz=>?_) (yw ps) fun a b hab=>?_
  ·exact hp.congr (fun _ _=>.rfl) hk
  ·exact oc.2 (k8.1 (h.up.low z (k8.2 (oc.1 hz))).2.1)
  ·exact ⟨fun _=>(hk b).2 ⟨(a,b),hab,.inr rfl⟩,fun _=>(hk a).2 ⟨(a,b),hab,.inl rfl⟩⟩
 ·have:(aH m').length = (aH m).length:=by rw [h3]
  simp only [aH,List.length_map] at this
  have:=h.len
  omega
theorem yG {F:Nat} (hF:F ≤ 100000000) {Ls:List (List (List Int))} (h1:Ls.length < F) (h2:Ls.flatten.length < F) (h3:2 * Ls.flatten.flatten.length + 1 < F):aj (cT F Ls) (Part (pr Ls.flatten) (dm Ls.flatten)):=by
 unfold cT
 refine aj.bind (P:=fun m=>St m (sg Ls.flatten)) ?_ ?_
 ·refine aj.qF (I:=fun pre m=>St m (sg pre.flatten)) h1 (by omega) St.nil ?_ fun s h=>h
  rintro pre L post m e hL hI
  have eL:Ls.flatten = pre.flatten ++ L ++ post.flatten:=by rw [e]; simp
  have hLl:L.length ≤ Ls.flatten.length:=by rw [eL]; simp only [List.length_append]; omega
  refine aj.bind (P:=fun m'=>St m' (sg (pre ++ [L]).flatten)) ?_ fun m' h=>aj.some (.inl ⟨_,rfl,h⟩)
  refine aj.aC hL (aj.bind ?_ fun m' h=>aj.some h)
  refine aj.qF (I:=fun q m=>St m (sg (pre.flatten ++ q))) (by omega) (by omega) (by simpa using hI) ?_ fun s h=>by simpa using h
  rintro q c post' m e' hc hI
  have eL2:Ls.flatten = (pre.flatten ++ q) ++ c :: (post' ++ post.flatten):=by rw [eL,e']; simp
  have hlen:(sg (pre.flatten ++ q)).length + c.length ≤ Ls.flatten.flatten.length:=by
   rw [wi,eL2]; simp; omega
  refine aj.bind (P:=fun m'=>St m' (sg (pre.flatten ++ (q ++ [c])))) ?_ fun m' h=>aj.some (.inl ⟨_,rfl,h⟩)
  refine aj.aC hc (aj.bind (P:=fun m'=>St m' (sg (pre.flatten ++ (q ++ [c])))) ?_ fun m' h=>aj.some h)
  refine aj.qF (I:=fun t m=>St m (sg (pre.flatten ++ q) ++ t.map fun n=>(hd c,n))) (by omega) (by omega) (by simpa using hI) ?_ fun s h=>?_
  ·rintro t n post'' m e'' hn hI
   have hc0:aV c 0 = some (hd c):=by
    cases c with
    | nil=>simp at e''
    | cons a c=>exact og [] c a
   have htl:t.length < c.length:=by rw [e'']; simp
   refine aj.aC hn (aj.aC hc0 (aj.bind (hI.join (x:=hd c) (y:=n) (by simp only [List.length_append,List.length_map]; omega)) ?_))
   rintro ⟨b,m'⟩ ⟨_,hs⟩
   refine aj.some (.inl ⟨_,rfl,?_⟩)
   simpa [List.map_append] using hs
  ·have:sg (pre.flatten ++ (q ++ [c])) = sg (pre.flatten ++ q) ++ c.map fun n=>(hd c,n):=by
    rw [← List.append_assoc,vx]; simp [sg]
   rw [this]; exact h
 ·intro m hm
  refine aj.bind (wT hF hm (by rw [wi]; omega)) ?_
  rintro ⟨o,m'⟩ ⟨hp,_⟩
  refine aj.some (hp.congr (con_prs _) fun a=>?_)
  unfold dm
  constructor
  ·rintro ⟨⟨u,v⟩,hp,h⟩
   obtain ⟨c,hc,rfl,hv⟩:=pD.1 hp
   rcases h with h | h
   ·exact ⟨c,hc,by simp only at h; rw [h]; exact jK (List.ne_nil_of_mem hv)⟩
   ·exact ⟨c,hc,by simp only at h; rw [h]; exact hv⟩
  ·rintro ⟨c,hc,h⟩
   exact ⟨(hd c,a),pD.2 ⟨c,hc,rfl,h⟩,.inr rfl⟩
theorem yF {F:Nat} (hF:F ≤ 100000000) {Ls:List (List (List Int))} (h1:Ls.length < F) (h2:Ls.flatten.length < F) (h3:2 * Ls.flatten.flatten.length + 1 < F):cT F Ls = bd F Ls.flatten:=by
 obtain ⟨a,e1,p1⟩:=yG hF h1 h2 h3
 obtain ⟨b,e2,p2⟩:=wu hF h2 (by omega)
 rw [e1,e2,p1.uniq p2]
theorem qT {zs:List Int} (h:zs.Pairwise (· ≤ ·)):ri (Lib.compact zs) ∧ ∀ a,a ∈ Lib.compact zs ↔ a ∈ zs:=by
 have key:∀ m,m ≤ zs.length → ri (Lib.compactUpTo zs.toArray m) ∧ ∀ a,a ∈ Lib.compactUpTo zs.toArray m ↔ a ∈ zs.take m:=fun m=>by
  induction m with
  | zero=>intro _; simp [Lib.compactUpTo]
  | succ m ih=>
   intro hm
   obtain ⟨h1,h2⟩:=ih (by omega)
   have hml:m < zs.length:=by omega
   have em:zs.toArray[m]! = zs[m]:=by simp [getElem!_pos,hml]
   rw [Lib.compactUpTo_succ,em]
   have et:zs.take (m + 1) = zs.take m ++ [zs[m]]:=List.take_succ_eq_append_getElem hml
   by_cases hk:Lib.keeps zs.toArray m = true
   ·rw [if_pos hk,et]
    refine ⟨List.pairwise_append.2 ⟨h1,by simp,fun a ha b hb=>?_⟩,fun a=>by rw [List.mem_append,List.mem_append,h2]⟩
    rw [List.mem_singleton.1 hb]
    have ha:=(h2 a).1 ha
    obtain ⟨j,hj,rfl⟩:=List.getElem_of_mem ha
    have hj':j < m:=by rw [List.length_take] at hj; omega
    rw [List.getElem_take]
    have e1:zs[j] ≤ zs[m - 1]:=by
     by_cases e:j = m - 1
     ·subst e; exact Int.le_refl _
     ·exact List.pairwise_iff_getElem.1 h j (m - 1) (by omega) (by omega) (by omega)
    have e2:zs[m - 1] ≤ zs[m]:=List.pairwise_iff_getElem.1 h (m - 1) m (by omega) (by omega) (by omega)
    have e3:zs[m] ≠ zs[m - 1]:=by
     unfold Lib.keeps at hk
     have:=of_decide_eq_true hk
     rcases this with h | h
     ·omega
     ·intro e; apply h
      rw [em,e]; simp [getElem!_pos,show m - 1 < zs.length by omega]
    omega
   ·rw [if_neg hk,List.append_nil,et]
    refine ⟨h1,fun a=>?_⟩
    rw [h2,List.mem_append,List.mem_singleton]
    have hne:¬ (m = 0 ∨ zs.toArray[m]! ≠ zs.toArray[m - 1]!):=fun h=>hk (by unfold Lib.keeps; exact decide_eq_true h)
    have h0:m ≠ 0:=fun e=>hne (.inl e)
    have e1:zs[m] = zs[m - 1]:=by
     have:zs.toArray[m]! = zs.toArray[m - 1]!:=Classical.byContradiction fun h=>hne (.inr h)
     rw [em] at this; rw [this]; simp [getElem!_pos,show m - 1 < zs.length by omega]
    refine ⟨.inl,?_⟩
    rintro (h | rfl)
    ·exact h
    ·rw [e1]
     exact List.mem_take_iff_getElem.2 ⟨m - 1,by omega,rfl⟩
 have:=key zs.length (Nat.le_refl _)
 rw [List.take_length] at this
 exact this
def n9 (h:List Int) (L:List (List Int)):Prop:=∀ c ∈ L,∀ a ∈ c,0 ≤ a ∧ a < h.length ∧ 0 ≤ idx h a
theorem sO {h c:List Int} (hl:c.length < 2000):aj (bO 2000 h c) fun r=>(r = true ↔ ∀ a ∈ c,0 ≤ a ∧ a < h.length ∧ 0 ≤ idx h a):=by
 unfold bO
 refine aj.bind (P:=fun o:Unit ⊕ Bool=>(o = .inl () ∧ ∀ a ∈ c,0 ≤ a ∧ a < h.length ∧ 0 ≤ idx h a) ∨ (o = .inr false ∧ ¬ ∀ a ∈ c,0 ≤ a ∧ a < h.length ∧ 0 ≤ idx h a)) ?_ ?_
 ·refine aj.find (c:=fun x:Int=>decide (¬ (0 ≤ x ∧ x < h.length ∧ 0 ≤ idx h x))) (r:=fun _=>false) hl (by omega) (fun hh=>.inl ⟨rfl,fun a ha=>by simpa using hh a ha⟩) (fun pre x post e _ hc=>.inr ⟨rfl,fun hh=>by have:=hh x (by rw [e]; simp); exact of_decide_eq_true hc this⟩) fun i x hx=>?_
  rw [hx]
  simp only [Option.bind_some,bu]
  by_cases h1:x < 0
  ·have:¬ (0 ≤ x ∧ x < h.length ∧ 0 ≤ idx h x):=by omega
   simp [h1,aK,this]
  ·by_cases h2:(h.length:Int) ≤ x
   ·have:¬ (0 ≤ x ∧ x < h.length ∧ 0 ≤ idx h x):=by omega
    have h4:¬ x < h.length:=by omega
    simp [h1,h4,aK,this]
   ·simp only [h1,h2,aK,decide_false,Bool.not_false,Bool.or_self,if_true,Option.bind_some,Bool.false_or,iv (show 0 ≤ x by omega) (show x < h.length by omega)]
    by_cases h3:idx h x < 0
    ·have:¬ (0 ≤ x ∧ x < h.length ∧ 0 ≤ idx h x):=by omega
     simp [h3,this]
    ·have:0 ≤ x ∧ x < h.length ∧ 0 ≤ idx h x:=by omega
     simp [h3,this]
 ·rintro o (⟨rfl,h⟩ | ⟨rfl,h⟩)
  ·exact aj.some (by simpa using h)
  ·exact aj.some (by simpa using h)
theorem sH {h:List Int} {L:List (List Int)} (hl:L.length < 2000) (hc:∀ c ∈ L,c.length < 2000):aj (bN 2000 h L) fun r=>(r = true ↔ n9 h L):=by
 unfold bN
 refine aj.bind (P:=fun o:Unit ⊕ Bool=>(o = .inl () ∧ n9 h L) ∨ (o = .inr false ∧ ¬ n9 h L)) ?_ ?_
 ·refine aj.wL (fun pre=>n9 h pre) hl (by omega) (by simp [n9]) (fun pre x post e hx hI=>?_) fun h=>.inl ⟨rfl,h⟩
  have hxm:x ∈ L:=by rw [e]; simp
  refine aj.aC hx (aj.bind (sO (hc x hxm)) fun r hr=>aj.ite (fun hq=>?_) fun hq=>?_)
  ·exact aj.some (.inr ⟨_,rfl,.inr ⟨rfl,fun hh=>by have:=hr.2 (hh x hxm); simp [this] at hq⟩⟩)
  ·refine aj.some (.inl ⟨rfl,fun c hc'=>?_⟩)
   rcases List.mem_append.1 hc' with h | h
   ·exact hI c h
   ·rw [List.mem_singleton.1 h]; exact hr.1 (by simpa using hq)
 ·rintro o (⟨rfl,h⟩ | ⟨rfl,h⟩)
  ·exact aj.some (by simpa using h)
  ·exact aj.some (by simpa using h)
theorem nU {h:List Int} {L:List (List Int)} (hl:L.length < 2000) (hc:∀ c ∈ L,c.length < 2000):aj (cU 2000 h L) fun r=>(r = true ↔ n9 h L):=by
 unfold cU
 refine aj.bind (P:=fun o:Unit ⊕ Bool=>(o = .inl () ∧ n9 h L) ∨ (o = .inr false ∧ ¬ n9 h L)) ?_ ?_
 ·refine aj.wL (fun pre=>n9 h pre) hl (by omega) (by simp [n9]) (fun pre x post e hx hI=>?_) fun h=>.inl ⟨rfl,h⟩
  have hxm:x ∈ L:=by rw [e]; simp
  refine aj.bind (P:=fun o:Unit ⊕ Bool=>(o = .inl () ∧ ∀ a ∈ x,0 ≤ a ∧ a < h.length ∧ 0 ≤ idx h a) ∨ (o = .inr false ∧ ¬ ∀ a ∈ x,0 ≤ a ∧ a < h.length ∧ 0 ≤ idx h a)) ?_ ?_
  ·refine aj.aC hx (aj.bind (P:=fun o:Unit ⊕ Bool=>(o = .inl () ∧ ∀ a ∈ x,0 ≤ a ∧ a < h.length ∧ 0 ≤ idx h a) ∨ (o = .inr false ∧ ¬ ∀ a ∈ x,0 ≤ a ∧ a < h.length ∧ 0 ≤ idx h a)) ?_ ?_)
   ·refine aj.find (c:=fun x:Int=>decide (¬ (0 ≤ x ∧ x < h.length ∧ 0 ≤ idx h x))) (r:=fun _=>false) (hc x hxm) (by have:=hc x hxm; omega) (fun hh=>.inl ⟨rfl,fun a ha=>by simpa using hh a ha⟩) (fun pre x post e _ hc=>.inr ⟨rfl,fun hh=>by have:=hh x (by rw [e]; simp); exact of_decide_eq_true hc this⟩) fun i x hx=>?_
    rw [hx]
    simp only [Option.bind_some,bu]
    by_cases h1:x < 0
    ·have:¬ (0 ≤ x ∧ x < h.length ∧ 0 ≤ idx h x):=by omega
     simp [h1,aK,this]
    ·by_cases h2:(h.length:Int) ≤ x
     ·have:¬ (0 ≤ x ∧ x < h.length ∧ 0 ≤ idx h x):=by omega
      simp [h1,h2,aK,this]
     ·simp only [h1,h2,aK,decide_false,Bool.not_false,Bool.or_self,if_true,Option.bind_some,Bool.false_or,iv (show 0 ≤ x by omega) (show x < h.length by omega)]
      by_cases h3:idx h x < 0
      ·have:¬ (0 ≤ x ∧ x < h.length ∧ 0 ≤ idx h x):=by omega
       simp [h3,this]
      ·have:0 ≤ x ∧ x < h.length ∧ 0 ≤ idx h x:=by omega
       simp [h3,this]
   ·rintro o (⟨rfl,h⟩ | ⟨rfl,h⟩)
    ·exact aj.some (.inl ⟨rfl,h⟩)
    ·exact aj.some (.inr ⟨rfl,h⟩)
  ·rintro o (⟨rfl,h'⟩ | ⟨rfl,h'⟩)
   ·refine aj.some (.inl ⟨rfl,fun c hc'=>?_⟩)
    rcases List.mem_append.1 hc' with h | h
    ·exact hI c h
    ·rw [List.mem_singleton.1 h]; exact h'
   ·exact aj.some (.inr ⟨_,rfl,.inr ⟨rfl,fun hh=>h' (hh x hxm)⟩⟩)
 ·rintro o (⟨rfl,h⟩ | ⟨rfl,h⟩)
  ·exact aj.some (by simpa using h)
  ·exact aj.some (by simpa using h)
def mg (L:List (List Int)):List (List Int):=(bd 2000 L).getD []
def Sz (L:List (List Int)):Prop:=L.length < 990 ∧ L.flatten.length < 990
theorem iX {L:List (List Int)} (h:Sz L):bd 2000 L = some (mg L) ∧ Part (pr L) (dm L) (mg L):=by
 obtain ⟨h1,h2⟩:=h
 obtain ⟨o,e,p⟩:=wu (F:=2000) (by omega) (L:=L) (by omega) (by omega)
 unfold mg
 rw [e]
 exact ⟨rfl,p⟩
theorem uS {Ls:List (List (List Int))} (h:Sz Ls.flatten) (hl:Ls.length < 2000):cT 2000 Ls = some (mg Ls.flatten):=by
 rw [yF (by omega) hl (by have:=h.1; omega) (by have:=h.2; omega)]
 exact (iX h).1
theorem mg_uniq {L:List (List Int)} {o:List (List Int)} (h:Sz L) (hp:Part (pr L) (dm L) o):mg L = o:=(iX h).2.uniq hp
theorem mg_sz {L:List (List Int)} (h:Sz L):(mg L).length ≤ L.flatten.length ∧ (∀ c ∈ mg L,c.length ≤ L.flatten.length) :=
 ⟨uN (iX h).2.toIsPt fun a=>(pF a).1,fun c hc=>wH (iX h).2.toIsPt (fun a=>(pF a).1) hc⟩
theorem mg_dom {L:List (List Int)} (h:Sz L) (a:Int):(∃ c ∈ mg L,a ∈ c) ↔ dm L a:=((iX h).2.dom a).symm
def alone (h:List Int):List (List Int):=((List.range h.length).filter fun b:Nat=>decide (0 ≤ idx h (b:Int))).map fun b:Nat=>[(b:Int)]
theorem xp (h:List Int):(alone h).length ≤ h.length:=by
 unfold alone; rw [List.length_map]; refine Nat.le_trans (List.length_filter_le _ _) ?_; simp
theorem vR (h:List Int):(alone h).flatten.length ≤ h.length:=by
 unfold alone
 rw [List.length_flatten,List.map_map]
 have:∀ l:List Nat,(l.map (List.length ∘ fun b:Nat=>[(b:Int)])).sum = l.length:=fun l=>by induction l <;> simp_all <;> omega
 rw [this]
 refine Nat.le_trans (List.length_filter_le _ _) ?_; simp
theorem w9 {h c:List Int}:c ∈ alone h ↔ ∃ b:Nat,b < h.length ∧ 0 ≤ idx h (b:Int) ∧ c = [(b:Int)]:=by
 unfold alone
 simp only [List.mem_map,List.mem_filter,List.mem_range,decide_eq_true_eq]
 constructor
 ·rintro ⟨b,⟨h1,h2⟩,rfl⟩; exact ⟨b,h1,h2,rfl⟩
 ·rintro ⟨b,h1,h2,rfl⟩; exact ⟨b,⟨h1,h2⟩,rfl⟩
theorem oy (h:List Int):n9 h (alone h):=by
 intro c hc a ha
 obtain ⟨b,h1,h2,rfl⟩:=w9.1 hc
 rw [List.mem_singleton.1 ha]
 exact ⟨by omega,by omega,h2⟩
theorem hY {h:List Int} {L M:List (List Int)} (h1:n9 h L) (h2:n9 h M):n9 h (L ++ M):=fun c hc=>by
 rcases List.mem_append.1 hc with hc | hc
 ·exact h1 c hc
 ·exact h2 c hc
theorem kv {h:List Int} {L:List (List Int)} (hs:Sz L) (h1:n9 h L):n9 h (mg L):=fun c hc a ha=>by
 obtain ⟨d,hd,h2⟩:=(mg_dom hs a).1 ⟨c,hc,ha⟩
 exact h1 d hd a h2
def rs (h c:List Int):List Int:=Lib.compact (sorted (c.map fun b=>idx h b))
theorem uL (h c:List Int):ri (rs h c):=(qT (uJ _)).1
theorem uT (h c:List Int) (v:Int):v ∈ rs h c ↔ ∃ b ∈ c,idx h b = v:=by
 unfold rs; rw [(qT (uJ _)).2,oc,List.mem_map]
theorem rs_ne {h c:List Int} (hc:c ≠ []):rs h c ≠ []:=by
 obtain ⟨a,c',rfl⟩:=List.exists_cons_of_ne_nil hc
 exact List.ne_nil_of_mem ((uT h _ (idx h a)).2 ⟨a,by simp,rfl⟩)
theorem uK (h c:List Int):(rs h c).length ≤ c.length:=by
 have:=rb (m:=c.map fun b=>idx h b) (uL h c) fun a ha=>by
  obtain ⟨b,hb,rfl⟩:=(uT h c a).1 ha
  exact List.mem_map.2 ⟨b,hb,rfl⟩
 simpa using this
def m3 (h c:List Int):Task:=⟨hd (rs h c),c,(rs h c).tail⟩
def rh (h:List Int) (L:List (List Int)):List Task:=(mg (L ++ alone h)).map (m3 h)
theorem pI {h:List Int} {L:List (List Int)} (hh:h.length ≤ 40) (h1:L.length ≤ 800) (h2:L.flatten.length ≤ 800):Sz (L ++ alone h):=by
 have a:=xp h; have b:=vR h
 refine ⟨by rw [List.length_append]; omega,by rw [List.flatten_append,List.length_append]; omega⟩
theorem wA {l pre post:List Int} {x:Int} (h:aV l (pre.length:Int) = some x):idx l (pre.length:Int) = x:=sn h
theorem jB (p:Nat → Bool) (n:Nat):(List.range (n + 1)).filter p = (List.range n).filter p ++ if p n then [n] else []:=by
 rw [List.range_succ,List.filter_append]; congr 1; by_cases h:p n <;> simp [h]
theorem w3 {h:List Int} {L:List (List Int)} (hh:h.length ≤ 40) (h1:L.length ≤ 800) (h2:L.flatten.length ≤ 800) (hs:n9 h L):dW 2000 h L = some (rh h L):=by
 have hz:=pI hh h1 h2
 have hsd:=kv hz (hY hs (oy h))
 obtain ⟨l1,l2⟩:=mg_sz hz
 have hz2:=hz.2
 refine aj.eq ?_
 unfold dW
 refine aj.bind (P:=(· = alone h)) ?_ ?_
 ·refine aj.qF (I:=fun pre s=>s = ((List.range pre.length).filter fun b:Nat=>decide (0 ≤ idx h (b:Int))).map fun b:Nat=>[(b:Int)]) (by omega) (by omega) rfl ?_ fun s h=>h
  rintro pre x post s e hx rfl
  have ex:=wA (post:=post) hx
  have hpl:pre.length < h.length:=by rw [e]; simp
  refine aj.bind (P:=fun s=>s = ((List.range (pre ++ [x]).length).filter fun b:Nat=>decide (0 ≤ idx h (b:Int))).map fun b:Nat=>[(b:Int)]) ?_ fun s h=>aj.some (.inl ⟨_,rfl,h⟩)
  rw [List.length_append,List.length_singleton,jB,ex]
  refine aj.aC hx (aj.ite (fun hc=>?_) fun hc=>?_)
  ·refine aj.app ?_ (aj.some (by rw [hc]; simp))
   have:=List.length_filter_le (fun b:Nat=>decide (0 ≤ idx h (b:Int))) (List.range pre.length)
   rw [List.length_range] at this
   simp only [List.length_map,List.length_singleton]; omega
  ·exact aj.some (by rw [hc]; simp)
 ·rintro _ rfl
  refine aj.bind (P:=(· = rh h L)) ?_ fun s h=>aj.some h
  refine aj.aC (uS (Ls:=[L,alone h]) (by simpa using hz) (by simp)) ?_
  rw [show [L,alone h].flatten = L ++ alone h by simp]
  refine aj.qF (I:=fun pre s=>s = pre.map (m3 h)) (by omega) (by omega) rfl ?_ fun s h=>h
  rintro pre c post s e hx rfl
  have hcm:c ∈ mg (L ++ alone h):=by rw [e]; simp
  have hcl:=l2 c hcm
  refine aj.bind (P:=fun s=>s = (pre ++ [c]).map (m3 h)) ?_ fun s h=>aj.some (.inl ⟨_,rfl,h⟩)
  refine aj.aC hx (aj.bind (P:=(· = c.map fun b=>idx h b)) ?_ ?_)
  ·refine aj.qF (I:=fun q s=>s = q.map fun b=>idx h b) (by omega) (by omega) rfl ?_ fun s h=>h
   rintro q b post' s e' hb rfl
   have hbm:b ∈ c:=by rw [e']; simp
   obtain ⟨g1,g2,g3⟩:=hsd c hcm b hbm
   have hql:q.length < c.length:=by rw [e']; simp
   exact aj.aC hb (aj.idx g1 g2 (aj.app (by simp only [List.length_map,List.length_singleton]; omega) (aj.some (.inl ⟨_,rfl,by simp⟩))))
  ·rintro _ rfl
   have hsl:(sorted (c.map fun b=>idx h b)).length = c.length:=by rw [(pJ _).length_eq,List.length_map]
   have hne:c ≠ []:=((iX hz).2.asd c hcm).1
   have hcp:0 < c.length:=List.length_pos_iff.2 hne
   refine aj.aC (x:=sorted (c.map fun b=>idx h b)) (by unfold dU m0; rw [if_pos (by simp; omega)]) (aj.aC (x:=rs h c) (by unfold fo oz; rw [if_pos (by omega)]; rfl) ?_)
   have hrl:=uK h c
   have hrn:=rs_ne (h:=h) hne
   have hpl:pre.length < (mg (L ++ alone h)).length:=by rw [e]; simp
   have hr0:aV (rs h c) 0 = some (hd (rs h c)):=by
    cases hr:rs h c with
    | nil=>exact absurd hr hrn
    | cons a t=>exact og [] t a
   refine aj.aC hr0 (aj.drop (by omega) (by have:=List.length_pos_iff.2 hrn; omega) (aj.app (by simp only [List.length_map,List.length_singleton]; omega) (aj.some ?_)))
   rw [List.map_append]
   simp [m3,List.drop_one]
theorem w8 {h c:List Int} (hl:c.length < 990):bd 2000 (c.map fun b=>[idx h b]) = some ((rs h c).map fun v=>[v]):=by
 have hz:Sz (c.map fun b=>[idx h b]):=by
  refine ⟨by simp; omega,?_⟩
  rw [List.length_flatten,List.map_map]
  have:∀ l:List Int,(l.map (List.length ∘ fun b=>[idx h b])).sum = l.length:=fun l=>by induction l <;> simp_all <;> omega
  rw [this]; omega
 have hd':∀ a,dm (c.map fun b=>[idx h b]) a ↔ a ∈ rs h c:=fun a=>by
  rw [uT]
  constructor
  ·rintro ⟨d,hd,ha⟩
   obtain ⟨b,hb,rfl⟩:=List.mem_map.1 hd
   exact ⟨b,hb,(List.mem_singleton.1 ha).symm⟩
  ·rintro ⟨b,hb,rfl⟩
   exact ⟨_,List.mem_map.2 ⟨b,hb,rfl⟩,by simp⟩
 have hq:∀ a b,pr (c.map fun b=>[idx h b]) a b → a = b:=fun a b ⟨d,hd,h1,h2⟩=>by
  obtain ⟨x,hx,rfl⟩:=List.mem_map.1 hd
  rw [List.mem_singleton.1 h1,List.mem_singleton.1 h2]
 rw [(iX hz).1,mg_uniq hz (o:=(rs h c).map fun v=>[v])]
 refine { asd:=fun d hd=>?_,dj:=?_,dom:=fun a=>?_,con:=fun d hd a ha b hb=>?_,cl:=fun d hd a b hab=>by rw [hq a b hab],srt:=?_ }
 ·obtain ⟨v,_,rfl⟩:=List.mem_map.1 hd; simp
 ·refine List.pairwise_map.2 ((uL h c).imp fun {a b} hab z h1 h2=>?_)
  rw [List.mem_singleton] at h1 h2; omega
 ·rw [hd']
  constructor
  ·intro h; exact ⟨[a],List.mem_map.2 ⟨a,h,rfl⟩,by simp⟩
  ·rintro ⟨d,hd,ha⟩
   obtain ⟨v,hv,rfl⟩:=List.mem_map.1 hd
   rw [List.mem_singleton.1 ha]; exact hv
 ·obtain ⟨v,_,rfl⟩:=List.mem_map.1 hd
  rw [List.mem_singleton.1 ha,List.mem_singleton.1 hb]; exact .rfl v
 ·exact List.pairwise_map.2 ((uL h c).imp fun h=>h)
theorem wY {h:List Int} {L:List (List Int)} (hh:h.length ≤ 40) (h1:L.length ≤ 800) (h2:L.flatten.length ≤ 800) (hs:n9 h L):cM 2000 h L = some (rh h L):=by
 have hz:=pI hh h1 h2
 have hsd:=kv hz (hY hs (oy h))
 obtain ⟨l1,l2⟩:=mg_sz hz
 have hz2:=hz.2
 refine aj.eq ?_
 unfold cM
 refine aj.app (by simp only [List.length_nil]; omega) ?_
 rw [List.nil_append]
 refine aj.bind (P:=(· = L ++ alone h)) ?_ ?_
 ·refine aj.qF (I:=fun pre s=>s = L ++ ((List.range pre.length).filter fun b:Nat=>decide (0 ≤ idx h (b:Int))).map fun b:Nat=>[(b:Int)]) (by omega) (by omega) (by simp) ?_ fun s h=>h
  rintro pre x post s e hx rfl
  have ex:=wA (post:=post) hx
  have hpl:pre.length < h.length:=by rw [e]; simp
  refine aj.bind (P:=fun s=>s = L ++ ((List.range (pre ++ [x]).length).filter fun b:Nat=>decide (0 ≤ idx h (b:Int))).map fun b:Nat=>[(b:Int)]) ?_ fun s h=>aj.some (.inl ⟨_,rfl,h⟩)
  rw [List.length_append,List.length_singleton,jB,ex]
  refine aj.aC hx (aj.ite (fun hc=>?_) fun hc=>?_)
  ·refine aj.app ?_ (aj.some (by rw [hc]; simp))
   have:=List.length_filter_le (fun b:Nat=>decide (0 ≤ idx h (b:Int))) (List.range pre.length)
   rw [List.length_range] at this
   simp only [List.length_map,List.length_singleton,List.length_append]; omega
  ·exact aj.some (by rw [hc]; simp)
 ·rintro _ rfl
  refine aj.aC (iX hz).1 (aj.bind (P:=(· = rh h L)) ?_ fun s h=>aj.some h)
  refine aj.qF (I:=fun pre s=>s = pre.map (m3 h)) (by omega) (by omega) rfl ?_ fun s h=>h
  rintro pre c post s e hx rfl
  have hcm:c ∈ mg (L ++ alone h):=by rw [e]; simp
  have hcl:=l2 c hcm
  have hpl:pre.length < (mg (L ++ alone h)).length:=by rw [e]; simp
  refine aj.bind (P:=fun s=>s = (pre ++ [c]).map (m3 h)) ?_ fun s h=>aj.some (.inl ⟨_,rfl,h⟩)
  simp only [hx,Option.bind_some]
  refine aj.bind (P:=(· = c.map fun b=>[idx h b])) ?_ ?_
  ·refine aj.qF (I:=fun q s=>s = q.map fun b=>[idx h b]) (by omega) (by omega) rfl ?_ fun s h=>h
   rintro q b post' s e' hb rfl
   have hbm:b ∈ c:=by rw [e']; simp
   obtain ⟨g1,g2,g3⟩:=hsd c hcm b hbm
   have hql:q.length < c.length:=by rw [e']; simp
   exact aj.aC hb (aj.idx g1 g2 (aj.app (by simp only [List.length_map,List.length_singleton]; omega) (aj.some (.inl ⟨_,rfl,by simp⟩))))
  ·rintro _ rfl
   have hne:c ≠ []:=((iX hz).2.asd c hcm).1
   have hrl:=uK h c
   have hrn:=rs_ne (h:=h) hne
   refine aj.aC (w8 (by omega)) ?_
   obtain ⟨v,t,hr⟩:=List.exists_cons_of_ne_nil hrn
   rw [hr,List.map_cons]
   rw [hr] at hrl
   simp only [List.length_cons] at hrl
   refine aj.aC (og [] _ [v]) (aj.aC (og [] _ v) ?_)
   refine aj.bind (P:=(· = m3 h c)) ?_ ?_
   ·refine aj.rounds (n:=t.length) (I:=fun k s=>s = ((⟨v,c,t.take k⟩:Task),(k:Int) + 1)) (by omega) rfl ?_
    rintro k s hk rfl
    refine aj.ite (fun hc=>?_) fun hc=>?_
    ·have hc:=of_decide_eq_true hc
     simp only [List.length_cons,List.length_map] at hc
     push_cast at hc
     have hkt:k < t.length:=by omega
     have hi:aV ([v] :: t.map fun v=>[v]) ((k:Int) + 1) = some [t[k]]:=by
      rw [iv (by omega) (by simp; omega),show (k:Int) + 1 = ((k + 1:Nat):Int) by push_cast; rfl,lP _ _ (by simp; omega)]
      simp
     refine aj.app (by simp only [List.length_nil,List.length_take]; omega) (aj.aC hi (aj.aC (og [] [] t[k]) (aj.app (by simp only [List.length_append,List.length_nil,List.length_take,List.length_singleton]; omega) (aj.some (.inl ⟨_,rfl,?_,hkt⟩)))))
     rw [oM (by simp only; omega) (by simp only; omega)]
     simp only [List.nil_append]
     rw [← List.take_succ_eq_append_getElem hkt]
     push_cast; rfl
    ·have hc:=of_decide_eq_false hc
     simp only [List.length_cons,List.length_map] at hc
     push_cast at hc
     refine aj.some (.inr ⟨_,rfl,?_⟩)
     simp only
     rw [List.take_of_length_le (by omega)]
     unfold m3; rw [hr]; rfl
   ·rintro _ rfl
    refine aj.app (by simp only [List.length_map,List.length_singleton]; omega) (aj.some ?_)
    rw [List.map_append]; simp
end Go.Proofs.Ytnpddoaeoefcnaa
namespace Go.Proofs.Ytnpddoaeoefcnaa
open Go Go.Sk
set_option maxHeartbeats 4000000
set_option maxRecDepth 100000
set_option linter.unusedVariables false
theorem mK {F F':Nat} (hF:F ≤ F'):∀ a0,Le (dU F a0) (dU F' a0):=fun a0=>by
 unfold dU
 repeat' (first | exact Le.rfl _ | refine Le.bind ?_ ?_ | refine Le.ite ?_ ?_ | refine Le.iter hF ?_ _ | refine Le.aK ?_ | refine Le.bu ?_ | refine Le.bG ?_ ?_ | intro _)
theorem oF {F F':Nat} (hF:F ≤ F'):∀ a0,Le (fo F a0) (fo F' a0):=fun a0=>by
 unfold fo
 repeat' (first | exact Le.rfl _ | refine Le.bind ?_ ?_ | refine Le.ite ?_ ?_ | refine Le.iter hF ?_ _ | refine Le.aK ?_ | refine Le.bu ?_ | refine Le.bG ?_ ?_ | intro _)
theorem n8 {F F':Nat} (hF:F ≤ F'):∀ a0 a1 a2,Le (eY F a0 a1 a2) (eY F' a0 a1 a2):=fun a0 a1 a2=>by
 unfold eY
 repeat' (first | exact Le.rfl _ | refine Le.bind ?_ ?_ | refine Le.ite ?_ ?_ | refine Le.iter hF ?_ _ | refine Le.aK ?_ | refine Le.bu ?_ | refine Le.bG ?_ ?_ | intro _)
theorem qz {F F':Nat} (hF:F ≤ F'):∀ a0 a1 a2,Le (gP F a0 a1 a2) (gP F' a0 a1 a2):=fun a0 a1 a2=>by
 unfold gP
 repeat' (first | exact Le.rfl _ | exact n8 hF _ _ _ | refine Le.bind ?_ ?_ | refine Le.ite ?_ ?_ | refine Le.iter hF ?_ _ | refine Le.aK ?_ | refine Le.bu ?_ | refine Le.bG ?_ ?_ | intro _)
theorem pq {F F':Nat} (hF:F ≤ F'):∀ a0 a1,Le (fb F a0 a1) (fb F' a0 a1):=fun a0 a1=>by
 unfold fb
 repeat' (first | exact Le.rfl _ | exact qz hF _ _ _ | refine Le.bind ?_ ?_ | refine Le.ite ?_ ?_ | refine Le.iter hF ?_ _ | refine Le.aK ?_ | refine Le.bu ?_ | refine Le.bG ?_ ?_ | intro _)
theorem qE {F F':Nat} (hF:F ≤ F'):∀ a0 a1 a2,Le (gQ F a0 a1 a2) (gQ F' a0 a1 a2):=fun a0 a1 a2=>by
 unfold gQ
 repeat' (first | exact Le.rfl _ | exact pq hF _ _ | refine Le.bind ?_ ?_ | refine Le.ite ?_ ?_ | refine Le.iter hF ?_ _ | refine Le.aK ?_ | refine Le.bu ?_ | refine Le.bG ?_ ?_ | intro _)
theorem gh {F F':Nat} (hF:F ≤ F'):∀ a0 a1,Le (cU F a0 a1) (cU F' a0 a1):=fun a0 a1=>by
 unfold cU
 repeat' (first | exact Le.rfl _ | refine Le.bind ?_ ?_ | refine Le.ite ?_ ?_ | refine Le.iter hF ?_ _ | refine Le.aK ?_ | refine Le.bu ?_ | refine Le.bG ?_ ?_ | intro _)
theorem iJ {F F':Nat} (hF:F ≤ F'):∀ (n n':Nat),n ≤ n' → ∀ a0 a1,Le (cn F n a0 a1) (cn F' n' a0 a1)
 | 0,_,_=>fun a0 a1=>Le.none _
 | n + 1,0,h=>absurd h (by omega)
 | n + 1,n' + 1,h=>fun a0 a1=>by
  unfold cn
  repeat' (first | exact Le.rfl _ | exact iJ hF n n' (by omega) _ _ | refine Le.bind ?_ ?_ | refine Le.ite ?_ ?_ | refine Le.iter hF ?_ _ | refine Le.aK ?_ | refine Le.bu ?_ | refine Le.bG ?_ ?_ | intro _)
theorem iV {F F':Nat} (hF:F ≤ F'):∀ a0 a1,Le (dp F a0 a1) (dp F' a0 a1):=fun a0 a1=>iJ hF _ _ hF _ _
theorem mx {F F':Nat} (hF:F ≤ F'):∀ a0 a1 a2,Le (cp F a0 a1 a2) (cp F' a0 a1 a2):=fun a0 a1 a2=>by
 unfold cp
 repeat' (first | exact Le.rfl _ | exact iV hF _ _ | refine Le.bind ?_ ?_ | refine Le.ite ?_ ?_ | refine Le.iter hF ?_ _ | refine Le.aK ?_ | refine Le.bu ?_ | refine Le.bG ?_ ?_ | intro _)
theorem mv {F F':Nat} (hF:F ≤ F'):∀ a0,Le (bX F a0) (bX F' a0):=fun a0=>by
 unfold bX
 repeat' (first | exact Le.rfl _ | exact iV hF _ _ | exact mK hF _ | refine Le.bind ?_ ?_ | refine Le.ite ?_ ?_ | refine Le.iter hF ?_ _ | refine Le.aK ?_ | refine Le.bu ?_ | refine Le.bG ?_ ?_ | intro _)
theorem jC {F F':Nat} (hF:F ≤ F'):∀ a0,Le (cT F a0) (cT F' a0):=fun a0=>by
 unfold cT
 repeat' (first | exact Le.rfl _ | exact mx hF _ _ _ | exact mv hF _ | refine Le.bind ?_ ?_ | refine Le.ite ?_ ?_ | refine Le.iter hF ?_ _ | refine Le.aK ?_ | refine Le.bu ?_ | refine Le.bG ?_ ?_ | intro _)
theorem mN {F F':Nat} (hF:F ≤ F'):∀ a0 a1,Le (dW F a0 a1) (dW F' a0 a1):=fun a0 a1=>by
 unfold dW
 repeat' (first | exact Le.rfl _ | exact jC hF _ | exact oF hF _ | exact mK hF _ | refine Le.bind ?_ ?_ | refine Le.ite ?_ ?_ | refine Le.iter hF ?_ _ | refine Le.aK ?_ | refine Le.bu ?_ | refine Le.bG ?_ ?_ | intro _)
theorem qC {F F':Nat} (hF:F ≤ F'):∀ a0 a1,Le (fX F a0 a1) (fX F' a0 a1):=fun a0 a1=>by
 unfold fX
 repeat' (first | exact Le.rfl _ | exact gh hF _ _ | exact mN hF _ _ | refine Le.bind ?_ ?_ | refine Le.ite ?_ ?_ | refine Le.iter hF ?_ _ | refine Le.aK ?_ | refine Le.bu ?_ | refine Le.bG ?_ ?_ | intro _)
theorem oJ {F F':Nat} (hF:F ≤ F'):∀ a0 a1,Le (eO F a0 a1) (eO F' a0 a1):=fun a0 a1=>by
 unfold eO
 repeat' (first | exact Le.rfl _ | refine Le.bind ?_ ?_ | refine Le.ite ?_ ?_ | refine Le.iter hF ?_ _ | refine Le.aK ?_ | refine Le.bu ?_ | refine Le.bG ?_ ?_ | intro _)
theorem nB {F F':Nat} (hF:F ≤ F'):∀ a0 a1,Le (dP F a0 a1) (dP F' a0 a1):=fun a0 a1=>by
 unfold dP
 repeat' (first | exact Le.rfl _ | exact oJ hF _ _ | refine Le.bind ?_ ?_ | refine Le.ite ?_ ?_ | refine Le.iter hF ?_ _ | refine Le.aK ?_ | refine Le.bu ?_ | refine Le.bG ?_ ?_ | intro _)
theorem mb {F F':Nat} (hF:F ≤ F'):∀ a0 a1,Le (dk F a0 a1) (dk F' a0 a1):=fun a0 a1=>by
 unfold dk
 repeat' (first | exact Le.rfl _ | exact nB hF _ _ | refine Le.bind ?_ ?_ | refine Le.ite ?_ ?_ | refine Le.iter hF ?_ _ | refine Le.aK ?_ | refine Le.bu ?_ | refine Le.bG ?_ ?_ | intro _)
theorem p9 {F F':Nat} (hF:F ≤ F'):∀ a0 a1,Le (eW F a0 a1) (eW F' a0 a1):=fun a0 a1=>by
 unfold eW
 repeat' (first | exact Le.rfl _ | exact mb hF _ _ | refine Le.bind ?_ ?_ | refine Le.ite ?_ ?_ | refine Le.iter hF ?_ _ | refine Le.aK ?_ | refine Le.bu ?_ | refine Le.bG ?_ ?_ | intro _)
theorem il {F F':Nat} (hF:F ≤ F'):∀ a0 a1 a2,Le (cW F a0 a1 a2) (cW F' a0 a1 a2):=fun a0 a1 a2=>by
 unfold cW
 repeat' (first | exact Le.rfl _ | refine Le.bind ?_ ?_ | refine Le.ite ?_ ?_ | refine Le.iter hF ?_ _ | refine Le.aK ?_ | refine Le.bu ?_ | refine Le.bG ?_ ?_ | intro _)
theorem p7 {F F':Nat} (hF:F ≤ F'):∀ a0 a1,Le (fB F a0 a1) (fB F' a0 a1):=fun a0 a1=>by
 unfold fB
 repeat' (first | exact Le.rfl _ | refine Le.bind ?_ ?_ | refine Le.ite ?_ ?_ | refine Le.iter hF ?_ _ | refine Le.aK ?_ | refine Le.bu ?_ | refine Le.bG ?_ ?_ | intro _)
theorem ij {F F':Nat} (hF:F ≤ F'):∀ a0 a1,Le (cB F a0 a1) (cB F' a0 a1):=fun a0 a1=>by
 unfold cB
 repeat' (first | exact Le.rfl _ | exact p7 hF _ _ | refine Le.bind ?_ ?_ | refine Le.ite ?_ ?_ | refine Le.iter hF ?_ _ | refine Le.aK ?_ | refine Le.bu ?_ | refine Le.bG ?_ ?_ | intro _)
theorem jd {F F':Nat} (hF:F ≤ F'):∀ a0 a1 a2 a3,Le (dB F a0 a1 a2 a3) (dB F' a0 a1 a2 a3):=fun a0 a1 a2 a3=>by
 unfold dB
 repeat' (first | exact Le.rfl _ | refine Le.bind ?_ ?_ | refine Le.ite ?_ ?_ | refine Le.iter hF ?_ _ | refine Le.aK ?_ | refine Le.bu ?_ | refine Le.bG ?_ ?_ | intro _)
theorem n6 {F F':Nat} (hF:F ≤ F'):∀ a0 a1 a2 a3,Le (eo F a0 a1 a2 a3) (eo F' a0 a1 a2 a3):=fun a0 a1 a2 a3=>by
 unfold eo
 repeat' (first | exact Le.rfl _ | refine Le.bind ?_ ?_ | refine Le.ite ?_ ?_ | refine Le.iter hF ?_ _ | refine Le.aK ?_ | refine Le.bu ?_ | refine Le.bG ?_ ?_ | intro _)
theorem jS {F F':Nat} (hF:F ≤ F'):∀ a0 a1,Le (dV F a0 a1) (dV F' a0 a1):=fun a0 a1=>by
 unfold dV
 repeat' (first | exact Le.rfl _ | refine Le.bind ?_ ?_ | refine Le.ite ?_ ?_ | refine Le.iter hF ?_ _ | refine Le.aK ?_ | refine Le.bu ?_ | refine Le.bG ?_ ?_ | intro _)
theorem ko {F F':Nat} (hF:F ≤ F'):∀ a0 a1,Le (cX F a0 a1) (cX F' a0 a1):=fun a0 a1=>by
 unfold cX
 repeat' (first | exact Le.rfl _ | exact jd hF _ _ _ _ | exact il hF _ _ _ | exact mN hF _ _ | exact jS hF _ _ | exact ij hF _ _ | refine Le.bind ?_ ?_ | refine Le.ite ?_ ?_ | refine Le.iter hF ?_ _ | refine Le.aK ?_ | refine Le.bu ?_ | refine Le.bG ?_ ?_ | intro _)
theorem mP {F F':Nat} (hF:F ≤ F'):∀ a0 a1 a2 a3 a4 a5,Le (dL F a0 a1 a2 a3 a4 a5) (dL F' a0 a1 a2 a3 a4 a5):=fun a0 a1 a2 a3 a4 a5=>by
 unfold dL
 repeat' (first | exact Le.rfl _ | exact jC hF _ | exact p9 hF _ _ | exact gh hF _ _ | exact ko hF _ _ | exact il hF _ _ _ | refine Le.bind ?_ ?_ | refine Le.ite ?_ ?_ | refine Le.iter hF ?_ _ | refine Le.aK ?_ | refine Le.bu ?_ | refine Le.bG ?_ ?_ | intro _)
theorem lX {F F':Nat} (hF:F ≤ F'):∀ a0,Le (ee F a0) (ee F' a0):=fun a0=>by
 unfold ee
 repeat' (first | exact Le.rfl _ | refine Le.bind ?_ ?_ | refine Le.ite ?_ ?_ | refine Le.iter hF ?_ _ | refine Le.aK ?_ | refine Le.bu ?_ | refine Le.bG ?_ ?_ | intro _)
theorem n4 {F F':Nat} (hF:F ≤ F'):∀ a0 a1 a2,Le (dr F a0 a1 a2) (dr F' a0 a1 a2):=fun a0 a1 a2=>by
 unfold dr
 repeat' (first | exact Le.rfl _ | exact jC hF _ | exact gh hF _ _ | exact ko hF _ _ | exact lX hF _ | refine Le.bind ?_ ?_ | refine Le.ite ?_ ?_ | refine Le.iter hF ?_ _ | refine Le.aK ?_ | refine Le.bu ?_ | refine Le.bG ?_ ?_ | intro _)
theorem oD {F F':Nat} (hF:F ≤ F'):∀ a0 a1,Le (eJ F a0 a1) (eJ F' a0 a1):=fun a0 a1=>by
 unfold eJ
 repeat' (first | exact Le.rfl _ | refine Le.bind ?_ ?_ | refine Le.ite ?_ ?_ | refine Le.iter hF ?_ _ | refine Le.aK ?_ | refine Le.bu ?_ | refine Le.bG ?_ ?_ | intro _)
theorem gB {F F':Nat} (hF:F ≤ F'):∀ a0 a1,Le (cr F a0 a1) (cr F' a0 a1):=fun a0 a1=>by
 unfold cr
 repeat' (first | exact Le.rfl _ | exact oD hF _ _ | refine Le.bind ?_ ?_ | refine Le.ite ?_ ?_ | refine Le.iter hF ?_ _ | refine Le.aK ?_ | refine Le.bu ?_ | refine Le.bG ?_ ?_ | intro _)
theorem jF {F F':Nat} (hF:F ≤ F'):∀ a0 a1 a2 a3,Le (cR F a0 a1 a2 a3) (cR F' a0 a1 a2 a3):=fun a0 a1 a2 a3=>by
 unfold cR
 repeat' (first | exact Le.rfl _ | exact gh hF _ _ | exact jd hF _ _ _ _ | exact gB hF _ _ | refine Le.bind ?_ ?_ | refine Le.ite ?_ ?_ | refine Le.iter hF ?_ _ | refine Le.aK ?_ | refine Le.bu ?_ | refine Le.bG ?_ ?_ | intro _)
theorem jU {F F':Nat} (hF:F ≤ F'):∀ a0 a1 a2,Le (dX F a0 a1 a2) (dX F' a0 a1 a2):=fun a0 a1 a2=>by
 unfold dX
 repeat' (first | exact Le.rfl _ | refine Le.bind ?_ ?_ | refine Le.ite ?_ ?_ | refine Le.iter hF ?_ _ | refine Le.aK ?_ | refine Le.bu ?_ | refine Le.bG ?_ ?_ | intro _)
theorem nt {F F':Nat} (hF:F ≤ F'):∀ a0 a1 a2,Le (dh F a0 a1 a2) (dh F' a0 a1 a2):=fun a0 a1 a2=>by
 unfold dh
 repeat' (first | exact Le.rfl _ | exact jU hF _ _ _ | exact jF hF _ _ _ _ | refine Le.bind ?_ ?_ | refine Le.ite ?_ ?_ | refine Le.iter hF ?_ _ | refine Le.aK ?_ | refine Le.bu ?_ | refine Le.bG ?_ ?_ | intro _)
theorem oB {F F':Nat} (hF:F ≤ F'):∀ a0 a1,Le (eH F a0 a1) (eH F' a0 a1):=fun a0 a1=>by
 unfold eH
 repeat' (first | exact Le.rfl _ | refine Le.bind ?_ ?_ | refine Le.ite ?_ ?_ | refine Le.iter hF ?_ _ | refine Le.aK ?_ | refine Le.bu ?_ | refine Le.bG ?_ ?_ | intro _)
theorem np {F F':Nat} (hF:F ≤ F'):∀ a0 a1,Le (df F a0 a1) (df F' a0 a1):=fun a0 a1=>by
 unfold df
 repeat' (first | exact Le.rfl _ | exact oB hF _ _ | refine Le.bind ?_ ?_ | refine Le.ite ?_ ?_ | refine Le.iter hF ?_ _ | refine Le.aK ?_ | refine Le.bu ?_ | refine Le.bG ?_ ?_ | intro _)
theorem lJ {F F':Nat} (hF:F ≤ F'):∀ a0 a1 a2 a3 a4 a5 a6 a7 a8,Le (cG F a0 a1 a2 a3 a4 a5 a6 a7 a8) (cG F' a0 a1 a2 a3 a4 a5 a6 a7 a8):=fun a0 a1 a2 a3 a4 a5 a6 a7 a8=>by
 unfold cG
 repeat' (first | exact Le.rfl _ | exact np hF _ _ | refine Le.bind ?_ ?_ | refine Le.ite ?_ ?_ | refine Le.iter hF ?_ _ | refine Le.aK ?_ | refine Le.bu ?_ | refine Le.bG ?_ ?_ | intro _)
theorem mS {F F':Nat} (hF:F ≤ F'):∀ a0 a1 a2 a3 a4 a5 a6 a7 a8,Le (dA F a0 a1 a2 a3 a4 a5 a6 a7 a8) (dA F' a0 a1 a2 a3 a4 a5 a6 a7 a8):=fun a0 a1 a2 a3 a4 a5 a6 a7 a8=>by
 unfold dA
 repeat' (first | exact Le.rfl _ | exact lJ hF _ _ _ _ _ _ _ _ _ | refine Le.bind ?_ ?_ | refine Le.ite ?_ ?_ | refine Le.iter hF ?_ _ | refine Le.aK ?_ | refine Le.bu ?_ | refine Le.bG ?_ ?_ | intro _)
theorem lx {F F':Nat} (hF:F ≤ F'):∀ a0 a1 a2 a3 a4 a5 a6 a7 a8,Le (cq F a0 a1 a2 a3 a4 a5 a6 a7 a8) (cq F' a0 a1 a2 a3 a4 a5 a6 a7 a8):=fun a0 a1 a2 a3 a4 a5 a6 a7 a8=>by
 unfold cq
 repeat' (first | exact Le.rfl _ | exact mS hF _ _ _ _ _ _ _ _ _ | refine Le.bind ?_ ?_ | refine Le.ite ?_ ?_ | refine Le.iter hF ?_ _ | refine Le.aK ?_ | refine Le.bu ?_ | refine Le.bG ?_ ?_ | intro _)
theorem mY {F F':Nat} (hF:F ≤ F'):∀ a0 a1 a2,Le (c8 F a0 a1 a2) (c8 F' a0 a1 a2):=fun a0 a1 a2=>by
 unfold c8
 repeat' (first | exact Le.rfl _ | exact jU hF _ _ _ | exact jF hF _ _ _ _ | exact ij hF _ _ | exact lx hF _ _ _ _ _ _ _ _ _ | refine Le.bind ?_ ?_ | refine Le.ite ?_ ?_ | refine Le.iter hF ?_ _ | refine Le.aK ?_ | refine Le.bu ?_ | refine Le.bG ?_ ?_ | intro _)
theorem nv {F F':Nat} (hF:F ≤ F'):∀ a0 a1,Le (dG F a0 a1) (dG F' a0 a1):=fun a0 a1=>by
 unfold dG
 repeat' (first | exact Le.rfl _ | exact mY hF _ _ _ | exact n4 hF _ _ _ | exact nt hF _ _ _ | refine Le.bind ?_ ?_ | refine Le.ite ?_ ?_ | refine Le.iter hF ?_ _ | refine Le.aK ?_ | refine Le.bu ?_ | refine Le.bG ?_ ?_ | intro _)
theorem lr {F F':Nat} (hF:F ≤ F'):∀ a0 a1,Le (dO F a0 a1) (dO F' a0 a1):=fun a0 a1=>by
 unfold dO
 repeat' (first | exact Le.rfl _ | exact jS hF _ _ | exact gB hF _ _ | refine Le.bind ?_ ?_ | refine Le.ite ?_ ?_ | refine Le.iter hF ?_ _ | refine Le.aK ?_ | refine Le.bu ?_ | refine Le.bG ?_ ?_ | intro _)
theorem mO {F F':Nat} (hF:F ≤ F'):∀ a0,Le (dY F a0) (dY F' a0):=fun a0=>by
 unfold dY
 repeat' (first | exact Le.rfl _ | exact lr hF _ _ | refine Le.bind ?_ ?_ | refine Le.ite ?_ ?_ | refine Le.iter hF ?_ _ | refine Le.aK ?_ | refine Le.bu ?_ | refine Le.bG ?_ ?_ | intro _)
theorem oH {F F':Nat} (hF:F ≤ F'):∀ a0,Le (eK F a0) (eK F' a0):=fun a0=>by
 unfold eK
 repeat' (first | exact Le.rfl _ | refine Le.bind ?_ ?_ | refine Le.ite ?_ ?_ | refine Le.iter hF ?_ _ | refine Le.aK ?_ | refine Le.bu ?_ | refine Le.bG ?_ ?_ | intro _)
theorem lZ {F F':Nat} (hF:F ≤ F'):∀ a0 a1 a2,Le (eh F a0 a1 a2) (eh F' a0 a1 a2):=fun a0 a1 a2=>by
 unfold eh
 repeat' (first | exact Le.rfl _ | exact lr hF _ _ | exact jU hF _ _ _ | exact jd hF _ _ _ _ | exact n6 hF _ _ _ _ | exact il hF _ _ _ | exact jS hF _ _ | exact lX hF _ | exact oH hF _ | exact gB hF _ _ | refine Le.bind ?_ ?_ | refine Le.ite ?_ ?_ | refine Le.iter hF ?_ _ | refine Le.aK ?_ | refine Le.bu ?_ | refine Le.bG ?_ ?_ | intro _)
theorem dS {F F':Nat} (hF:F ≤ F'):∀ a0 a1,Le (bA F a0 a1) (bA F' a0 a1):=fun a0 a1=>by
 unfold bA
 repeat' (first | exact Le.rfl _ | refine Le.bind ?_ ?_ | refine Le.ite ?_ ?_ | refine Le.iter hF ?_ _ | refine Le.aK ?_ | refine Le.bu ?_ | refine Le.bG ?_ ?_ | intro _)
theorem gK {F F':Nat} (hF:F ≤ F'):∀ a0 a1,Le (bJ F a0 a1) (bJ F' a0 a1):=fun a0 a1=>by
 unfold bJ
 repeat' (first | exact Le.rfl _ | exact dS hF _ _ | refine Le.bind ?_ ?_ | refine Le.ite ?_ ?_ | refine Le.iter hF ?_ _ | refine Le.aK ?_ | refine Le.bu ?_ | refine Le.bG ?_ ?_ | intro _)
theorem kB {F F':Nat} (hF:F ≤ F'):∀ a0,Le (cy F a0) (cy F' a0):=fun a0=>by
 unfold cy
 repeat' (first | exact Le.rfl _ | exact ij hF _ _ | refine Le.bind ?_ ?_ | refine Le.ite ?_ ?_ | refine Le.iter hF ?_ _ | refine Le.aK ?_ | refine Le.bu ?_ | refine Le.bG ?_ ?_ | intro _)
theorem lH {F F':Nat} (hF:F ≤ F'):Le (bt F ) (bt F' ):=by
 unfold bt
 repeat' (first | exact Le.rfl _ | exact lZ hF _ _ _ | exact mP hF _ _ _ _ _ _ | exact kB hF _ | exact nv hF _ _ | exact qE hF _ _ _ | exact mO hF _ | exact qC hF _ _ | exact gK hF _ _ | refine Le.bind ?_ ?_ | refine Le.ite ?_ ?_ | refine Le.iter hF ?_ _ | refine Le.aK ?_ | refine Le.bu ?_ | refine Le.bG ?_ ?_ | intro _)
theorem lE {F F':Nat} (hF:F ≤ F'):∀ a0 a1,Le (cE F a0 a1) (cE F' a0 a1):=fun a0 a1=>by
 unfold cE
 repeat' (first | exact Le.rfl _ | refine Le.bind ?_ ?_ | refine Le.ite ?_ ?_ | refine Le.iter hF ?_ _ | refine Le.aK ?_ | refine Le.bu ?_ | refine Le.bG ?_ ?_ | intro _)
theorem iI {F F':Nat} (hF:F ≤ F'):∀ a0 a1,Le (bO F a0 a1) (bO F' a0 a1):=fun a0 a1=>by
 unfold bO
 repeat' (first | exact Le.rfl _ | refine Le.bind ?_ ?_ | refine Le.ite ?_ ?_ | refine Le.iter hF ?_ _ | refine Le.aK ?_ | refine Le.bu ?_ | refine Le.bG ?_ ?_ | intro _)
theorem iG {F F':Nat} (hF:F ≤ F'):∀ a0 a1,Le (bN F a0 a1) (bN F' a0 a1):=fun a0 a1=>by
 unfold bN
 repeat' (first | exact Le.rfl _ | exact iI hF _ _ | refine Le.bind ?_ ?_ | refine Le.ite ?_ ?_ | refine Le.iter hF ?_ _ | refine Le.aK ?_ | refine Le.bu ?_ | refine Le.bG ?_ ?_ | intro _)
theorem gD {F F':Nat} (hF:F ≤ F'):∀ a0 a1,Le (ct F a0 a1) (ct F' a0 a1):=fun a0 a1=>by
 unfold ct
 repeat' (first | exact Le.rfl _ | refine Le.bind ?_ ?_ | refine Le.ite ?_ ?_ | refine Le.iter hF ?_ _ | refine Le.aK ?_ | refine Le.bu ?_ | refine Le.bG ?_ ?_ | intro _)
theorem mW {F F':Nat} (hF:F ≤ F'):∀ a0 a1,Le (c7 F a0 a1) (c7 F' a0 a1):=fun a0 a1=>by
 unfold c7
 repeat' (first | exact Le.rfl _ | exact gD hF _ _ | refine Le.bind ?_ ?_ | refine Le.ite ?_ ?_ | refine Le.iter hF ?_ _ | refine Le.aK ?_ | refine Le.bu ?_ | refine Le.bG ?_ ?_ | intro _)
theorem mn {F F':Nat} (hF:F ≤ F'):∀ a0 a1,Le (cm F a0 a1) (cm F' a0 a1):=fun a0 a1=>by
 unfold cm
 repeat' (first | exact Le.rfl _ | exact mW hF _ _ | refine Le.bind ?_ ?_ | refine Le.ite ?_ ?_ | refine Le.iter hF ?_ _ | refine Le.aK ?_ | refine Le.bu ?_ | refine Le.bG ?_ ?_ | intro _)
theorem mr {F F':Nat} (hF:F ≤ F'):∀ a0 a1,Le (cO F a0 a1) (cO F' a0 a1):=fun a0 a1=>by
 unfold cO
 repeat' (first | exact Le.rfl _ | exact gD hF _ _ | refine Le.bind ?_ ?_ | refine Le.ite ?_ ?_ | refine Le.iter hF ?_ _ | refine Le.aK ?_ | refine Le.bu ?_ | refine Le.bG ?_ ?_ | intro _)
theorem nr {F F':Nat} (hF:F ≤ F'):∀ a0 a1,Le (dg F a0 a1) (dg F' a0 a1):=fun a0 a1=>by
 unfold dg
 repeat' (first | exact Le.rfl _ | refine Le.bind ?_ ?_ | refine Le.ite ?_ ?_ | refine Le.iter hF ?_ _ | refine Le.aK ?_ | refine Le.bu ?_ | refine Le.bG ?_ ?_ | intro _)
theorem fZ {F F':Nat} (hF:F ≤ F'):∀ a0,Le (bd F a0) (bd F' a0):=fun a0=>by
 unfold bd
 repeat' (first | exact Le.rfl _ | exact mr hF _ _ | exact nr hF _ _ | exact mn hF _ _ | refine Le.bind ?_ ?_ | refine Le.ite ?_ ?_ | refine Le.iter hF ?_ _ | refine Le.aK ?_ | refine Le.bu ?_ | refine Le.bG ?_ ?_ | intro _)
theorem mf {F F':Nat} (hF:F ≤ F'):∀ a0 a1,Le (cM F a0 a1) (cM F' a0 a1):=fun a0 a1=>by
 unfold cM
 repeat' (first | exact Le.rfl _ | exact fZ hF _ | refine Le.bind ?_ ?_ | refine Le.ite ?_ ?_ | refine Le.iter hF ?_ _ | refine Le.aK ?_ | refine Le.bu ?_ | refine Le.bG ?_ ?_ | intro _)
theorem gU {F F':Nat} (hF:F ≤ F'):∀ a0 a1 a2,Le (cj F a0 a1 a2) (cj F' a0 a1 a2):=fun a0 a1 a2=>by
 unfold cj
 repeat' (first | exact Le.rfl _ | refine Le.bind ?_ ?_ | refine Le.ite ?_ ?_ | refine Le.iter hF ?_ _ | refine Le.aK ?_ | refine Le.bu ?_ | refine Le.bG ?_ ?_ | intro _)
theorem fI {F F':Nat} (hF:F ≤ F'):∀ a0 a1,Le (cb F a0 a1) (cb F' a0 a1):=fun a0 a1=>by
 unfold cb
 repeat' (first | exact Le.rfl _ | refine Le.bind ?_ ?_ | refine Le.ite ?_ ?_ | refine Le.iter hF ?_ _ | refine Le.aK ?_ | refine Le.bu ?_ | refine Le.bG ?_ ?_ | intro _)
theorem jo {F F':Nat} (hF:F ≤ F'):∀ a0,Le (cC F a0) (cC F' a0):=fun a0=>by
 unfold cC
 repeat' (first | exact Le.rfl _ | exact gU hF _ _ _ | exact fI hF _ _ | exact mf hF _ _ | refine Le.bind ?_ ?_ | refine Le.ite ?_ ?_ | refine Le.iter hF ?_ _ | refine Le.aK ?_ | refine Le.bu ?_ | refine Le.bG ?_ ?_ | intro _)
theorem iT {F F':Nat} (hF:F ≤ F'):∀ a0 a1 a2 a3 a4 a5,Le (bW F a0 a1 a2 a3 a4 a5) (bW F' a0 a1 a2 a3 a4 a5):=fun a0 a1 a2 a3 a4 a5=>by
 unfold bW
 repeat' (first | exact Le.rfl _ | exact fZ hF _ | exact lE hF _ _ | exact iG hF _ _ | exact jo hF _ | refine Le.bind ?_ ?_ | refine Le.ite ?_ ?_ | refine Le.iter hF ?_ _ | refine Le.aK ?_ | refine Le.bu ?_ | refine Le.bG ?_ ?_ | intro _)
theorem kx {F F':Nat} (hF:F ≤ F'):∀ a0 a1,Le (bI F a0 a1) (bI F' a0 a1):=fun a0 a1=>by
 unfold bI
 repeat' (first | exact Le.rfl _ | refine Le.bind ?_ ?_ | refine Le.ite ?_ ?_ | refine Le.iter hF ?_ _ | refine Le.aK ?_ | refine Le.bu ?_ | refine Le.bG ?_ ?_ | intro _)
theorem gX {F F':Nat} (hF:F ≤ F'):∀ a0 a1,Le (bQ F a0 a1) (bQ F' a0 a1):=fun a0 a1=>by
 unfold bQ
 repeat' (first | exact Le.rfl _ | exact dS hF _ _ | refine Le.bind ?_ ?_ | refine Le.ite ?_ ?_ | refine Le.iter hF ?_ _ | refine Le.aK ?_ | refine Le.bu ?_ | refine Le.bG ?_ ?_ | intro _)
theorem gH {F F':Nat} (hF:F ≤ F'):∀ a0 a1,Le (bw F a0 a1) (bw F' a0 a1):=fun a0 a1=>by
 unfold bw
 repeat' (first | exact Le.rfl _ | refine Le.bind ?_ ?_ | refine Le.ite ?_ ?_ | refine Le.iter hF ?_ _ | refine Le.aK ?_ | refine Le.bu ?_ | refine Le.bG ?_ ?_ | intro _)
theorem fe {F F':Nat} (hF:F ≤ F'):∀ a0 a1,Le (bo F a0 a1) (bo F' a0 a1):=fun a0 a1=>by
 unfold bo
 repeat' (first | exact Le.rfl _ | exact dS hF _ _ | exact gX hF _ _ | exact gK hF _ _ | exact kx hF _ _ | exact gH hF _ _ | refine Le.bind ?_ ?_ | refine Le.ite ?_ ?_ | refine Le.iter hF ?_ _ | refine Le.aK ?_ | refine Le.bu ?_ | refine Le.bG ?_ ?_ | intro _)
theorem eP {F F':Nat} (hF:F ≤ F'):∀ a0 a1,Le (bB F a0 a1) (bB F' a0 a1):=fun a0 a1=>by
 unfold bB
 repeat' (first | exact Le.rfl _ | exact dS hF _ _ | exact gX hF _ _ | exact gH hF _ _ | refine Le.bind ?_ ?_ | refine Le.ite ?_ ?_ | refine Le.iter hF ?_ _ | refine Le.aK ?_ | refine Le.bu ?_ | refine Le.bG ?_ ?_ | intro _)
theorem gr {F F':Nat} (hF:F ≤ F'):∀ a0 a1,Le (bS F a0 a1) (bS F' a0 a1):=fun a0 a1=>by
 unfold bS
 repeat' (first | exact Le.rfl _ | refine Le.bind ?_ ?_ | refine Le.ite ?_ ?_ | refine Le.iter hF ?_ _ | refine Le.aK ?_ | refine Le.bu ?_ | refine Le.bG ?_ ?_ | intro _)
theorem ir {F F':Nat} (hF:F ≤ F'):∀ a0 a1,Le (bV F a0 a1) (bV F' a0 a1):=fun a0 a1=>by
 unfold bV
 repeat' (first | exact Le.rfl _ | exact gr hF _ _ | exact fI hF _ _ | refine Le.bind ?_ ?_ | refine Le.ite ?_ ?_ | refine Le.iter hF ?_ _ | refine Le.aK ?_ | refine Le.bu ?_ | refine Le.bG ?_ ?_ | intro _)
theorem im {F F':Nat} (hF:F ≤ F'):∀ a0 a1 a2,Le (bH F a0 a1 a2) (bH F' a0 a1 a2):=fun a0 a1 a2=>by
 unfold bH
 repeat' (first | exact Le.rfl _ | refine Le.bind ?_ ?_ | refine Le.ite ?_ ?_ | refine Le.iter hF ?_ _ | refine Le.aK ?_ | refine Le.bu ?_ | refine Le.bG ?_ ?_ | intro _)
theorem lG {F F':Nat} (hF:F ≤ F'):∀ a0 a1 a2,Le (cF F a0 a1 a2) (cF F' a0 a1 a2):=fun a0 a1 a2=>by
 unfold cF
 repeat' (first | exact Le.rfl _ | exact gr hF _ _ | exact ir hF _ _ | exact im hF _ _ _ | exact gU hF _ _ _ | exact fI hF _ _ | refine Le.bind ?_ ?_ | refine Le.ite ?_ ?_ | refine Le.iter hF ?_ _ | refine Le.aK ?_ | refine Le.bu ?_ | refine Le.bG ?_ ?_ | intro _)
theorem iR {F F':Nat} (hF:F ≤ F'):∀ a0,Le (bK F a0) (bK F' a0):=fun a0=>by
 unfold bK
 repeat' (first | exact Le.rfl _ | refine Le.bind ?_ ?_ | refine Le.ite ?_ ?_ | refine Le.iter hF ?_ _ | refine Le.aK ?_ | refine Le.bu ?_ | refine Le.bG ?_ ?_ | intro _)
theorem mh {F F':Nat} (hF:F ≤ F'):∀ a0 a1 a2,Le (ck F a0 a1 a2) (ck F' a0 a1 a2):=fun a0 a1 a2=>by
 unfold ck
 repeat' (first | exact Le.rfl _ | exact iI hF _ _ | exact gU hF _ _ _ | refine Le.bind ?_ ?_ | refine Le.ite ?_ ?_ | refine Le.iter hF ?_ _ | refine Le.aK ?_ | refine Le.bu ?_ | refine Le.bG ?_ ?_ | intro _)
theorem lC {F F':Nat} (hF:F ≤ F'):∀ a0 a1 a2,Le (cD F a0 a1 a2) (cD F' a0 a1 a2):=fun a0 a1 a2=>by
 unfold cD
 repeat' (first | exact Le.rfl _ | exact gD hF _ _ | refine Le.bind ?_ ?_ | refine Le.ite ?_ ?_ | refine Le.iter hF ?_ _ | refine Le.aK ?_ | refine Le.bu ?_ | refine Le.bG ?_ ?_ | intro _)
theorem mU {F F':Nat} (hF:F ≤ F'):∀ a0 a1,Le (c6 F a0 a1) (c6 F' a0 a1):=fun a0 a1=>by
 unfold c6
 repeat' (first | exact Le.rfl _ | exact fZ hF _ | exact iG hF _ _ | exact gr hF _ _ | exact im hF _ _ _ | exact mh hF _ _ _ | exact jo hF _ | exact lC hF _ _ _ | exact iR hF _ | refine Le.bind ?_ ?_ | refine Le.ite ?_ ?_ | refine Le.iter hF ?_ _ | refine Le.aK ?_ | refine Le.bu ?_ | refine Le.bG ?_ ?_ | intro _)
theorem mj {F F':Nat} (hF:F ≤ F'):∀ a0,Le (cN F a0) (cN F' a0):=fun a0=>by
 unfold cN
 repeat' (first | exact Le.rfl _ | exact ir hF _ _ | refine Le.bind ?_ ?_ | refine Le.ite ?_ ?_ | refine Le.iter hF ?_ _ | refine Le.aK ?_ | refine Le.bu ?_ | refine Le.bG ?_ ?_ | intro _)
theorem kL {F F':Nat} (hF:F ≤ F'):∀ a0,Le (bP F a0) (bP F' a0):=fun a0=>by
 unfold bP
 repeat' (first | exact Le.rfl _ | exact iR hF _ | refine Le.bind ?_ ?_ | refine Le.ite ?_ ?_ | refine Le.iter hF ?_ _ | refine Le.aK ?_ | refine Le.bu ?_ | refine Le.bG ?_ ?_ | intro _)
end Go.Proofs.Ytnpddoaeoefcnaa
namespace Go.Proofs.Ytnpddoaeoefcnaa
open Go Go.Sk
set_option linter.unusedVariables false
set_option linter.unusedSimpArgs false
theorem aj.pass {τ:Type} {A:Int → Option (Int ⊕ τ)} {g:τ} {N st:Int} {F:Nat} {Q:τ → Prop} (h0:0 ≤ st) (hN:N ≤ 1000000000) (hF:(N - st).toNat < F) (h:∀ k,st ≤ k → k < N → A k = Option.some (.inl (IntKind.i64.wrap (k + 1)))) (hq:Q g):aj (iter F (fun i=>if decide (i < N) = true then A i else Option.some (.inr g)) st) Q:=by
 refine aj.rounds (n:=(N - st).toNat) (I:=fun k s=>s = st + (k:Int)) hF (by simp) ?_
 rintro k s hk rfl
 refine aj.ite (fun hc=>?_) fun hc=>?_
 ·have hc:=of_decide_eq_true hc
  rw [h _ (by omega) hc]
  refine aj.some (.inl ⟨_,rfl,?_,by omega⟩)
  rw [oM (by omega) (by omega)]; push_cast; omega
 ·exact aj.some (.inr ⟨_,rfl,hq⟩)
theorem idx_set {α:Type} [Inhabited α] {l:List α} {i j:Int} {x:α} (h0:0 ≤ i) (h1:i < l.length) (h2:0 ≤ j):idx (l.set i.toNat x) j = if j = i then x else idx l j:=by
 unfold idx
 rw [List.getD_eq_getElem?_getD,List.getD_eq_getElem?_getD,List.getElem?_set]
 by_cases e:j = i
 ·subst e; rw [if_pos rfl,if_pos (by omega),if_pos rfl]; rfl
 ·rw [if_neg (by omega),if_neg e]
theorem idx_rep {α:Type} [Inhabited α] {n:Nat} {x:α} {j:Int} (h0:0 ≤ j) (h1:j < n):idx (List.replicate n x) j = x:=by
 obtain ⟨m,rfl⟩:∃ m:Nat,j = m:=⟨j.toNat,by omega⟩
 rw [lP _ _ (by simp; omega)]; simp
theorem few_F {F:Nat} {L:List (List Int)} (hF:L.length < F) (hm:L.length ≤ 9223372036854775807):aj (eu F L) fun r=>(r = true → L.length ≤ 30 ∧ ∀ c ∈ L,c.length ≤ 8):=by
 unfold eu
 refine aj.bind (P:=fun o:Unit ⊕ Bool=>(o = .inl () ∧ ∀ c ∈ L,c.length ≤ 8) ∨ o = .inr false) ?_ ?_
 ·refine aj.find (c:=fun c:List Int=>decide (8 < (c.length:Int))) (r:=fun _=>false) hF hm (fun h=>.inl ⟨rfl,fun c hc=>by have:=of_decide_eq_false (h c hc); omega⟩) (fun pre x post e _ hc=>.inr rfl) fun i x hx=>by rw [hx]; rfl
 ·rintro o (⟨rfl,h⟩ | rfl)
  ·exact aj.some fun hh=>⟨by have:=of_decide_eq_true hh; omega,h⟩
  ·exact aj.some (by simp)
theorem sr:∀ {L:List (List Int)},(∀ c ∈ L,c.length ≤ 8) → L.flatten.length ≤ 8 * L.length
 | [],_=>by simp
 | c :: L,h=>by
  have:=sr (L:=L) fun d hd=>h d (List.mem_cons_of_mem _ hd)
  have:=h c (List.mem_cons_self ..)
  simp only [List.flatten_cons,List.length_append,List.length_cons]; omega
theorem yr {F:Nat} (h:2000 ≤ F):bt F = some true:=lH h _ wU
def lL (h l:List Int) (g:Int):List Int:=l.filter fun b=>decide (idx h b = g)
def pick (s:List de) (l:List Int):List de:=l.map fun b=>idx s b
def whole (l:List Bool):Bool:=l.all fun b=>b
def m4 (o:List de) (p:Int × de):List de:=if idx o p.1 = [] then o.set p.1.toNat p.2 else o
def js (old:List de) (bodies:List Int) (states:List de):List de:=(bodies.zip states).foldl m4 old
def lz (h:List Int) (L:List (List Int)):Bool:=L.all fun c=>c.all fun a=>decide (0 ≤ a ∧ a < h.length ∧ 0 ≤ idx h a)
theorem gn {h:List Int} {L:List (List Int)}:lz h L = true ↔ n9 h L:=by
 unfold lz n9; simp only [List.all_eq_true,decide_eq_true_eq]
def l4 (r:Round) (t:Task):Option aI :=
 if t.Owner ≠ r.Me ∧ 0 < (lL r.Home t.Bodies r.Me).length then some ⟨2,r.Step,r.Me,t.Owner,[],lL r.Home t.Bodies r.Me,pick r.States (lL r.Home t.Bodies r.Me)⟩ else none
def fg (r:Round) (T:List Task):List aI:=T.filterMap (l4 r)
def my (r:Round) (out:List aI):Round × List aI :=
 if whole r.Heard then ({ r with Tasks:=rh r.Home r.Sets,Done:=List.replicate (rh r.Home r.Sets).length false },out ++ fg r (rh r.Home r.Sets)) else (r,out)
def isFull (l:aI) (g:Int) (r:Round):Bool:=decide (l.Sets.length = 0) && decide (l.States.length = l.Bodies.length) && !(l.States.contains []) && lz r.Home [l.Bodies] && decide ((lL r.Home l.Bodies g).length = l.Bodies.length)
def big (l:aI):Bool:=decide (0 < IntKind.i64.wrap ((l.Bodies.length:Int) + l.States.length))
def iQ (r:Round) (l:aI):Round × List aI :=
 if (idx r.Heard l.From || big l) || !lz r.Home l.Sets then (r,[]) else my { r with Heard:=r.Heard.set l.From.toNat true,Sets:=mg (r.Sets ++ l.Sets) } []
def jQ (r:Round) (l:aI):Round:=if isFull l l.From r then { r with States:=js r.States l.Bodies l.States } else r
def gV (T:List Task) (l:List Int) (g:Int):Bool:=l.all fun b=>T.any fun t=>decide (t.Owner = g) && t.Bodies.contains b
def jl (r:Round) (l:aI):Round :=
 if !isFull l r.Me r || !whole r.Heard then r else if gV r.Tasks l.Bodies l.From then { r with Results:=js r.Results l.Bodies l.States } else r
def ours (r:Round) (l:aI):Bool:=(((decide (l.To ≠ r.Me) || decide (l.Step ≠ r.Step)) || decide (l.From = r.Me)) || decide (l.From < 0)) || decide (r.Regions ≤ l.From)
def sX (r:Round) (l:aI):Round × List aI :=
 if ours r l then (r,[]) else if l.Kind = 1 then iQ r l else if l.Kind = 2 then (jQ r l,[]) else if l.Kind = 3 then (jl r l,[]) else (r,[])
structure Wf (r:Round):Prop where
 hl:r.Home.length ≤ 40
 hs:nE r.Home r.Regions
 reg:1 ≤ r.Regions ∧ r.Regions ≤ 16
 me:0 ≤ r.Me ∧ r.Me < r.Regions
 heard:(r.Heard.length:Int) = r.Regions
 sets:n9 r.Home r.Sets
 sl:r.Sets.length ≤ 40
 sf:r.Sets.flatten.length ≤ 40
 st:r.States.length = r.Home.length
 re:r.Results.length = r.Home.length
 dn:r.Done.length = r.Tasks.length
 tsk:r.Tasks = if whole r.Heard then rh r.Home r.Sets else []
structure Lk (l:aI):Prop where
 b:l.Bodies.length ≤ 40
 s:l.Sets.length ≤ 30
 c:∀ c ∈ l.Sets,c.length ≤ 8
theorem vE (o:List de) (p:Int × de):(m4 o p).length = o.length:=by unfold m4; split <;> simp
theorem kU (old:List de) (b:List Int) (s:List de):(js old b s).length = old.length:=by
 unfold js
 generalize b.zip s = z
 induction z generalizing old with
 | nil=>rfl
 | cons p z ih=>rw [List.foldl_cons,ih,vE]
theorem vH {s:List (List Int)} (hd:s.Pairwise fun c d=>∀ z ∈ c,z ∉ d) (ha:∀ c ∈ s,ri c):s.flatten.Nodup:=by
 induction s with
 | nil=>simp
 | cons c s ih=>
  have h1:=List.pairwise_cons.1 hd
  rw [List.flatten_cons,List.nodup_append]
  refine ⟨sT (ha c (List.mem_cons_self ..)),ih h1.2 fun d hd=>ha d (List.mem_cons_of_mem _ hd),fun a hac b hb e=>?_⟩
  obtain ⟨d,hd,hbd⟩:=List.mem_flatten.1 hb
  exact h1.1 d hd a hac (e ▸ hbd)
theorem j4 {h:List Int} {L:List (List Int)} (hz:Sz L) (hs:n9 h L):(mg L).flatten.length ≤ h.length ∧ (mg L).length ≤ h.length:=by
 have hp:=(iX hz).2
 have hm:=kv hz hs
 have hnd:(mg L).flatten.Nodup:=vH hp.dj fun c hc=>(hp.asd c hc).2
 have h1:(mg L).flatten.length ≤ h.length:=by
  have:=s6 (m:=(List.range h.length).map fun n:Nat=>(n:Int)) hnd fun a ha=>by
   obtain ⟨c,hc,hac⟩:=List.mem_flatten.1 ha
   obtain ⟨g1,g2,_⟩:=hm c hc a hac
   exact List.mem_map.2 ⟨a.toNat,List.mem_range.2 (by omega),by omega⟩
  simpa using this
 refine ⟨h1,Nat.le_trans ?_ h1⟩
 have:∀ s:List (List Int),(∀ c ∈ s,c ≠ []) → s.length ≤ s.flatten.length:=fun s=>by
  induction s with
  | nil=>simp
  | cons c s ih=>
   intro hh
   have:=ih fun d hd=>hh d (List.mem_cons_of_mem _ hd)
   have h2:=List.length_pos_iff.2 (hh c (List.mem_cons_self ..))
   simp only [List.length_cons,List.flatten_cons,List.length_append]; omega
 exact this _ fun c hc=>(hp.asd c hc).1
theorem qY {h:List Int} {L:List (List Int)} (hh:h.length ≤ 40) (h1:L.length ≤ 800) (h2:L.flatten.length ≤ 800) (hs:n9 h L) {t:Task} (ht:t ∈ rh h L) :
  (∀ b ∈ t.Bodies,0 ≤ b ∧ b < h.length ∧ 0 ≤ idx h b) ∧ t.Bodies.length ≤ 40 ∧ t.Helpers.length ≤ 40 ∧ t = m3 h t.Bodies ∧ t.Bodies ∈ mg (L ++ alone h):=by
 have hz:=pI hh h1 h2
 obtain ⟨c,hc,rfl⟩:=List.mem_map.1 ht
 have hsd:=hY hs (oy h)
 have hm:=kv hz hsd c hc
 have hcl:c.length ≤ 40:=by
  have:=(j4 hz hsd).1
  have h3:c.length ≤ (mg (L ++ alone h)).flatten.length:=by
   have:∀ s:List (List Int),c ∈ s → c.length ≤ s.flatten.length:=fun s=>by
    induction s with
    | nil=>simp
    | cons d s ih=>
     intro hd
     rcases List.mem_cons.1 hd with rfl | hd
     ·simp
     ·have:=ih hd; simp only [List.flatten_cons,List.length_append]; omega
   exact this _ hc
  omega
 have:=uK h c
 exact ⟨hm,hcl,by show (rs h c).tail.length ≤ 40; rw [List.length_tail]; omega,rfl,hc⟩
theorem qZ {h:List Int} {L:List (List Int)} (hh:h.length ≤ 40) (h1:L.length ≤ 800) (h2:L.flatten.length ≤ 800) (hs:n9 h L):(rh h L).length ≤ 40:=by
 unfold rh
 rw [List.length_map]
 have:=(j4 (pI hh h1 h2) (hY hs (oy h))).2
 omega
theorem Wf.task {r:Round} (w:Wf r) {t:Task} (ht:t ∈ r.Tasks):(∀ b ∈ t.Bodies,0 ≤ b ∧ b < r.Home.length ∧ 0 ≤ idx r.Home b) ∧ t.Bodies.length ≤ 40 ∧ t.Helpers.length ≤ 40:=by
 rw [w.tsk] at ht
 split at ht
 ·have:=qY w.hl (by have:=w.sl; omega) (by have:=w.sf; omega) w.sets ht
  exact ⟨this.1,this.2.1,this.2.2.1⟩
 ·cases ht
theorem Wf.sV {r:Round} (w:Wf r):r.Tasks.length ≤ 40:=by
 rw [w.tsk]
 split
 ·exact qZ w.hl (by have:=w.sl; omega) (by have:=w.sf; omega) w.sets
 ·simp
theorem s4 {l:List Int} {g:Int} {r:Round} {out:List aI} (hl:l.length < 2000) (h:∀ b ∈ l,0 ≤ b ∧ b < r.Home.length):dB 2000 l g r out = some (lL r.Home l g):=by
 refine aj.eq ?_
 unfold dB
 refine aj.bind ?_ fun o ho=>aj.some ho
 refine aj.qF (I:=fun pre s=>s = lL r.Home pre g) hl (by omega) rfl ?_ fun s h=>h
 rintro pre x post s e hx rfl
 obtain ⟨g1,g2⟩:=h x (by rw [e]; simp)
 have hpl:(lL r.Home pre g).length ≤ l.length:=Nat.le_trans (List.length_filter_le _ _) (by rw [e]; simp)
 refine aj.bind (P:=fun s=>s = lL r.Home (pre ++ [x]) g) ?_ fun s h=>aj.some (.inl ⟨_,rfl,h⟩)
 have ef:lL r.Home (pre ++ [x]) g = lL r.Home pre g ++ if decide (idx r.Home x = g) then [x] else []:=by
  unfold lL; rw [List.filter_append]; simp only [List.filter_cons,List.filter_nil]
 rw [ef]
 refine aj.aC hx (aj.idx g1 g2 (aj.ite (fun hc=>?_) fun hc=>?_))
 ·exact aj.app (by simp only [List.length_singleton]; omega) (aj.some (by rw [hc]; rfl))
 ·exact aj.some (by rw [hc]; simp)
theorem ofv_own {l:List Int} {g:Int} {r:Round} {out:List aI} (hl:l.length < 2000) (h:∀ b ∈ l,0 ≤ b ∧ b < r.Home.length):eo 2000 l g r out = some (lL r.Home l g):=s4 (out:=out) hl h
theorem ou {s:List de} {l:List Int} (hl:l.length < 2000) (h:∀ b ∈ l,0 ≤ b ∧ b < s.length):dV 2000 s l = some (pick s l):=by
 refine aj.eq ?_
 unfold dV
 refine aj.bind ?_ fun o ho=>aj.some ho
 refine aj.qF (I:=fun pre o=>o = pick s pre) hl (by omega) rfl ?_ fun s h=>h
 rintro pre x post o e hx rfl
 obtain ⟨g1,g2⟩:=h x (by rw [e]; simp)
 have hpl:pre.length < l.length:=by rw [e]; simp
 exact aj.aC hx (aj.idx g1 g2 (aj.app (by simp only [pick,List.length_map,List.length_singleton]; omega) (aj.some (.inl ⟨_,rfl,by simp [pick]⟩))))
theorem od {h l:List Int} {g b:Int}:b ∈ lL h l g ↔ b ∈ l ∧ idx h b = g:=by simp [lL]
theorem lO (h l:List Int) (g:Int):(lL h l g).length ≤ l.length:=List.length_filter_le _ _
theorem kJ {l:List Bool} (hl:l.length < 2000):cB 2000 l false = some (!whole l):=by
 refine aj.eq ?_
 unfold cB fB
 refine aj.bind (P:=fun z:Int=>(0 ≤ z ↔ whole l = false)) ?_ fun z hz=>aj.some ?_
 ·refine aj.bind (P:=fun o:Unit ⊕ Int=>(o = .inl () ∧ whole l = true) ∨ ∃ k,o = .inr k ∧ 0 ≤ k ∧ whole l = false) ?_ ?_
  ·refine aj.wL (fun pre=>∀ b ∈ pre,b = true) hl (by omega) (by simp) (fun pre x post e hx hI=>?_) fun h=>.inl ⟨rfl,by simpa [whole] using h⟩
   refine aj.aC hx (aj.ite (fun h=>?_) fun h=>?_)
   ·have:x = false:=by simpa using h
    exact aj.some (.inr ⟨_,rfl,.inr ⟨_,rfl,by omega,by rw [e,this]; simp [whole]⟩⟩)
   ·have:x = true:=by simpa using h
    refine aj.some (.inl ⟨rfl,fun b hb=>?_⟩)
    rcases List.mem_append.1 hb with hb | hb
    ·exact hI b hb
    ·rw [List.mem_singleton.1 hb]; exact this
  ·rintro o (⟨rfl,h⟩ | ⟨k,rfl,h0,h⟩)
   ·exact aj.some (by rw [h]; simp)
   ·exact aj.some (by simp [h,h0])
 ·cases hw:whole l with
  | false=>simpa using hz.2 hw
  | true=>
   have:¬ 0 ≤ z:=fun h0=>by rw [hz.1 h0] at hw; cases hw
   simpa using this
theorem ry {l:aI} {r:Round} {out:List aI} (h:out.length < 1000000):cW 2000 l r out = some (out ++ [⟨l.Kind,r.Step,r.Me,l.To,l.Sets,l.Bodies,l.States⟩]):=by
 unfold cW
 rw [ix (by simp only [List.length_singleton]; omega)]; rfl
theorem tT {r:Round} {out:List aI} (hh:r.Home.length ≤ 40) (h1:r.Sets.length ≤ 800) (h2:r.Sets.flatten.length ≤ 800) (hs:n9 r.Home r.Sets) (hd:r.Heard.length < 2000) (hst:r.States.length = r.Home.length) (ho:out.length < 1000) :
  cX 2000 r out = some (my r out):=by
 refine aj.eq ?_
 unfold cX my
 refine aj.aC (kJ hd) ?_
 cases hw:whole r.Heard with
 | false=>exact aj.nw rfl (aj.some (by simp))
 | true=>
 refine aj.iff rfl (aj.aC (w3 hh h1 h2 hs) ?_)
 have hl:=qZ hh h1 h2 hs
 refine aj.aC (x:=List.replicate (rh r.Home r.Sets).length false) (by unfold mk?; rw [if_pos (by omega)]; rfl) ?_
 refine aj.bind (P:=(· = out ++ fg r (rh r.Home r.Sets))) ?_ fun o ho=>aj.some (by rw [ho]; simp)
 refine aj.qF (I:=fun pre s=>s = out ++ fg r pre) (by omega) (by omega) (by simp [fg]) ?_ fun s h=>h
 rintro pre t post s e hx rfl
 have ht:t ∈ rh r.Home r.Sets:=by rw [e]; simp
 obtain ⟨b1,b2,_⟩:=qY hh h1 h2 hs ht
 have hpl:pre.length < (rh r.Home r.Sets).length:=by rw [e]; simp
 have hll:(fg r pre).length ≤ pre.length:=List.length_filterMap_le _ _
 refine aj.bind (P:=fun s=>s = out ++ fg r (pre ++ [t])) ?_ fun s h=>aj.some (.inl ⟨_,rfl,h⟩)
 have el:fg r (pre ++ [t]) = fg r pre ++ (l4 r t).toList:=by
  unfold fg; rw [List.filterMap_append]
  cases hlt:l4 r t <;> simp [hlt]
 rw [el]
 refine aj.aC hx (aj.aC (s4 (by omega) fun b hb=>⟨(b1 b hb).1,(b1 b hb).2.1⟩) ?_)
 refine aj.ite (fun hc=>?_) fun hc=>?_
 ·have hc':t.Owner ≠ r.Me ∧ 0 < (lL r.Home t.Bodies r.Me).length:=by
   simp only [Bool.and_eq_true,decide_eq_true_eq] at hc
   exact ⟨hc.1,by omega⟩
  have hol:=lO r.Home t.Bodies r.Me
  refine aj.aC (ou (s:=r.States) (l:=lL r.Home t.Bodies r.Me) (by omega) fun b hb=>?_) (aj.aC (ry (by rw [List.length_append]; omega)) (aj.some ?_))
  ·have:=b1 b (od.1 hb).1
   exact ⟨this.1,by omega⟩
  ·unfold l4; rw [if_pos hc']; simp
 ·have hc':¬ (t.Owner ≠ r.Me ∧ 0 < (lL r.Home t.Bodies r.Me).length):=by
   intro h
   simp only [Bool.and_eq_false_iff,decide_eq_false_iff_not] at hc
   rcases hc with hc | hc
   ·exact hc h.1
   ·exact hc (by omega)
  refine aj.some ?_
  unfold l4; rw [if_neg hc']; simp
theorem l9 {l:List de} (hl:l.length < 2000):cr 2000 l [] = some (l.contains []):=by
 refine aj.eq ?_
 unfold cr eJ
 refine aj.bind (P:=fun z:Int=>(0 ≤ z ↔ ([]:de) ∈ l)) ?_ fun z hz=>aj.some ?_
 ·refine aj.bind (P:=fun o:Unit ⊕ Int=>(o = .inl () ∧ ([]:de) ∉ l) ∨ ∃ k,o = .inr k ∧ 0 ≤ k ∧ ([]:de) ∈ l) ?_ ?_
  ·refine aj.wL (fun pre=>([]:de) ∉ pre) hl (by omega) (by simp) (fun pre x post e hx hI=>?_) fun h=>.inl ⟨rfl,h⟩
   refine aj.aC hx (aj.ite (fun h=>?_) fun h=>?_)
   ·have:([]:de) = x:=of_decide_eq_true h
    exact aj.some (.inr ⟨_,rfl,.inr ⟨_,rfl,by omega,by rw [e,← this]; simp⟩⟩)
   ·have:¬ ([]:de) = x:=of_decide_eq_false h
    exact aj.some (.inl ⟨rfl,by simp only [List.mem_append,List.mem_singleton,not_or]; exact ⟨hI,this⟩⟩)
  ·rintro o (⟨rfl,h⟩ | ⟨k,rfl,h0,h⟩)
   ·exact aj.some (by simp [h])
   ·exact aj.some (by simp [h,h0])
 ·simp only [List.contains_eq_mem]
  exact decide_eq_decide.2 hz
theorem rQ {l:aI} {g:Int} {r:Round} {out:List aI} (hb:l.Bodies.length ≤ 40):cR 2000 l g r out = some (isFull l g r):=by
 refine aj.eq ?_
 unfold cR isFull
 have e1:decide ((l.Sets.length:Int) = 0) = decide (l.Sets.length = 0):=decide_eq_decide.2 (by omega)
 have e2:decide ((l.States.length:Int) = (l.Bodies.length:Int)) = decide (l.States.length = l.Bodies.length):=decide_eq_decide.2 (by omega)
 rw [e1,e2]
 by_cases h1:l.Sets.length = 0
 rotate_left
 ·rw [decide_eq_false h1]
  exact aj.g0 rfl (aj.g0 rfl (aj.g0 rfl (aj.some rfl)))
 rw [decide_eq_true h1]
 by_cases h2:l.States.length = l.Bodies.length
 rotate_left
 ·rw [decide_eq_false h2]
  exact aj.g0 rfl (aj.g0 rfl (aj.g0 rfl (aj.some rfl)))
 rw [decide_eq_true h2]
 refine aj.g1 rfl (aj.aC (l9 (by omega)) ?_)
 cases h3:l.States.contains [] with
 | true=>exact aj.g0 rfl (aj.g0 rfl (aj.some rfl))
 | false=>
 obtain ⟨q,eq,hq⟩:=nU (h:=r.Home) (L:=[l.Bodies]) (by simp) (fun c hc=>by rw [List.mem_singleton.1 hc]; omega)
 have:q = lz r.Home [l.Bodies]:=by
  cases hb:lz r.Home [l.Bodies] with
  | true=>exact hq.2 (gn.1 hb)
  | false=>
   cases q with
   | false=>rfl
   | true=>rw [gn.2 (hq.1 rfl)] at hb; cases hb
 refine aj.g1 rfl (aj.aC eq ?_)
 rw [this]
 cases h4:lz r.Home [l.Bodies] with
 | false=>exact aj.g0 rfl (aj.some rfl)
 | true=>
  have h5:=gn.1 h4 l.Bodies (by simp)
  refine aj.g1 rfl (aj.aC (s4 (by omega) fun b hb=>⟨(h5 b hb).1,(h5 b hb).2.1⟩) (aj.some ?_))
  simp
  omega
theorem yO {old:List de}:mz (List.replicate old.length ([]:de)) old = old:=by
 simp [mz]
theorem qt {old:List de} {b:List Int} {s:List de} (hb:b.length < 2000) (ho:old.length ≤ 1000) (hl:s.length = b.length) (h:∀ x ∈ b,0 ≤ x ∧ x < old.length):dX 2000 old b s = some (js old b s):=by
 refine aj.eq ?_
 unfold dX
 refine aj.aC (x:=List.replicate old.length []) (by unfold mk?; rw [if_pos (by omega)]; rfl) (aj.bind ?_ fun o ho=>aj.some ho)
 rw [yO]
 refine aj.qF (I:=fun pre o=>o = js old pre (s.take pre.length)) hb (by omega) (by simp [js]) ?_ fun o h=>by rw [h,← hl,List.take_length]
 rintro pre x post o e hx rfl
 obtain ⟨g1,g2⟩:=h x (by rw [e]; simp)
 have hpl:pre.length < b.length:=by rw [e]; simp
 have hsl:pre.length < s.length:=by omega
 have es:js old (pre ++ [x]) (s.take (pre ++ [x]).length) = m4 (js old pre (s.take pre.length)) (x,s[pre.length]):=by
  unfold js
  rw [List.length_append,List.length_singleton,List.take_succ_eq_append_getElem hsl,List.zip_append (by rw [List.length_take]; omega),List.foldl_append]
  rfl
 refine aj.bind (P:=fun o=>o = js old (pre ++ [x]) (s.take (pre ++ [x]).length)) ?_ fun o h=>aj.some (.inl ⟨_,rfl,h⟩)
 rw [es]
 have hll:=kU old pre (s.take pre.length)
 refine aj.aC hx (aj.idx g1 (by omega) (aj.ite (fun hc=>?_) fun hc=>?_))
 ·have hc:=of_decide_eq_true hc
  refine aj.idx (by omega) (by omega) (aj.idx g1 (by omega) (aj.some ?_))
  unfold m4; rw [if_pos hc,lP _ _ hsl]
 ·have hc:=of_decide_eq_false hc
  refine aj.some ?_
  unfold m4; rw [if_neg hc]
theorem nc {l:aI} {g:Int} {r:Round}:isFull l g r = true ↔ l.Sets = [] ∧ l.States.length = l.Bodies.length ∧ ([]:de) ∉ l.States ∧ (∀ a ∈ l.Bodies,0 ≤ a ∧ a < r.Home.length ∧ idx r.Home a = g ∧ 0 ≤ g):=by
 unfold isFull
 simp only [Bool.and_eq_true,decide_eq_true_eq,Bool.not_eq_true',List.length_eq_zero_iff,gn,List.contains_eq_mem,decide_eq_false_iff_not]
 constructor
 ·rintro ⟨⟨⟨⟨h1,h2⟩,h3⟩,h4⟩,h5⟩
  refine ⟨h1,h2,h3,fun a ha=>?_⟩
  have h6:=h4 l.Bodies (by simp) a ha
  have h7:idx r.Home a = g:=by simpa using List.length_filter_eq_length_iff.1 h5 a ha
  exact ⟨h6.1,h6.2.1,h7,by rw [← h7]; exact h6.2.2⟩
 ·rintro ⟨h1,h2,h3,h4⟩
  refine ⟨⟨⟨⟨h1,h2⟩,h3⟩,fun c hc a ha=>?_⟩,?_⟩
  ·rw [List.mem_singleton.1 hc] at ha
   obtain ⟨g1,g2,g3,g4⟩:=h4 a ha
   exact ⟨g1,g2,by rw [g3]; exact g4⟩
  ·exact List.length_filter_eq_length_iff.2 fun a ha=>by simpa using (h4 a ha).2.2.1
theorem vn {l:aI} {r:Round} {out:List aI} (w:Wf r) (k:Lk l):dh 2000 l r out = some (jQ r l):=by
 refine aj.eq ?_
 unfold dh jQ
 refine aj.aC (rQ k.b) (aj.ite (fun h=>?_) fun h=>aj.some (by rw [h]; simp))
 obtain ⟨h1,h2,h3,h4⟩:=nc.1 h
 refine aj.aC (qt (by have:=k.b; omega) (by have:=w.st; have:=w.hl; omega) h2 fun x hx=>?_) (aj.some (by rw [h]; simp))
 have:=h4 x hx; have:=w.st; omega
theorem sd {l:List Int} {n:Int} (hl:l.length < 2000):df 2000 l n = some (l.contains n):=by
 refine aj.eq ?_
 unfold df eH
 refine aj.bind (P:=fun z:Int=>(0 ≤ z ↔ n ∈ l)) ?_ fun z hz=>aj.some ?_
 ·refine aj.bind (P:=fun o:Unit ⊕ Int=>(o = .inl () ∧ n ∉ l) ∨ ∃ k,o = .inr k ∧ 0 ≤ k ∧ n ∈ l) ?_ ?_
  ·refine aj.wL (fun pre=>n ∉ pre) hl (by omega) (by simp) (fun pre x post e hx hI=>?_) fun h=>.inl ⟨rfl,h⟩
   refine aj.aC hx (aj.ite (fun h=>?_) fun h=>?_)
   ·have:n = x:=of_decide_eq_true h
    exact aj.some (.inr ⟨_,rfl,.inr ⟨_,rfl,by omega,by rw [e,← this]; simp⟩⟩)
   ·have:¬ n = x:=of_decide_eq_false h
    exact aj.some (.inl ⟨rfl,by simp only [List.mem_append,List.mem_singleton,not_or]; exact ⟨hI,this⟩⟩)
  ·rintro o (⟨rfl,h⟩ | ⟨k,rfl,h0,h⟩)
   ·exact aj.some (by simp [h])
   ·exact aj.some (by simp [h,h0])
 ·simp only [List.contains_eq_mem]
  exact decide_eq_decide.2 hz
theorem ui {T:List Task} {l:aI} {b:Int} (hT:T.length < 2000) (hb:∀ t ∈ T,t.Bodies.length < 2000):cq 2000 T l.Kind l.Step l.From l.To l.Sets l.Bodies l.States b = some (T.any fun t=>decide (t.Owner = l.From) && t.Bodies.contains b):=by
 refine aj.eq ?_
 unfold cq dA
 have h1:∀ t ∈ T,cG 2000 t l.Kind l.Step l.From l.To l.Sets l.Bodies l.States b = some (decide (t.Owner = l.From) && t.Bodies.contains b):=fun t ht=>by
  refine aj.eq ?_
  unfold cG
  cases decide (t.Owner = l.From) with
  | false=>exact aj.g0 rfl (aj.some rfl)
  | true=>exact aj.g1 rfl (aj.aC (sd (hb t ht)) (aj.some rfl))
 refine aj.bind (P:=fun z:Int=>(0 ≤ z ↔ (T.any fun t=>decide (t.Owner = l.From) && t.Bodies.contains b) = true)) ?_ fun z hz=>aj.some ?_
 ·refine aj.bind (P:=fun o:Unit ⊕ Int=>(o = .inl () ∧ ¬ (T.any fun t=>decide (t.Owner = l.From) && t.Bodies.contains b) = true) ∨ ∃ k,o = .inr k ∧ 0 ≤ k ∧ (T.any fun t=>decide (t.Owner = l.From) && t.Bodies.contains b) = true) ?_ ?_
  ·refine aj.wL (fun pre=>∀ t ∈ pre,¬ (decide (t.Owner = l.From) && t.Bodies.contains b) = true) hT (by omega) (by simp) (fun pre x post e hx hI=>?_) fun h=>.inl ⟨rfl,fun hh=>by obtain ⟨t,ht,h'⟩:=List.any_eq_true.1 hh; exact h t ht h'⟩
   have hxm:x ∈ T:=by rw [e]; simp
   refine aj.aC hx (aj.aC (h1 x hxm) (aj.ite (fun h=>?_) fun h=>?_))
   ·exact aj.some (.inr ⟨_,rfl,.inr ⟨_,rfl,by omega,List.any_eq_true.2 ⟨x,hxm,h⟩⟩⟩)
   ·refine aj.some (.inl ⟨rfl,fun t ht=>?_⟩)
    rcases List.mem_append.1 ht with ht | ht
    ·exact hI t ht
    ·rw [List.mem_singleton.1 ht,h]; simp
  ·rintro o (⟨rfl,h⟩ | ⟨k,rfl,h0,h⟩)
   ·exact aj.some (by simp only [h]; simp)
   ·exact aj.some (by simp only [h,h0])
 ·cases hh:(T.any fun t=>decide (t.Owner = l.From) && t.Bodies.contains b) with
  | true=>exact decide_eq_true (hz.2 hh)
  | false=>exact decide_eq_false fun h0=>by rw [hz.1 h0] at hh; cases hh
theorem uk {l:aI} {r:Round} {out:List aI} (w:Wf r) (k:Lk l):c8 2000 l r out = some (jl r l):=by
 refine aj.eq ?_
 unfold c8 jl
 refine aj.aC (rQ k.b) ?_
 cases hf:isFull l r.Me r with
 | false=>exact aj.g0 rfl (aj.nw rfl (aj.some (by simp)))
 | true=>
 refine aj.g1 rfl (aj.aC (kJ (by have:=w.heard; have:=w.reg; omega)) ?_)
 cases hw:whole r.Heard with
 | false=>exact aj.nw rfl (aj.some (by simp))
 | true=>
 refine aj.iff rfl ?_
 obtain ⟨h1,h2,h3,h4⟩:=nc.1 hf
 have kb:=k.b
 have hT:=w.sV
 refine aj.bind (P:=fun o:Unit ⊕ Round=>(o = .inl () ∧ gV r.Tasks l.Bodies l.From = true) ∨ (o = .inr r ∧ gV r.Tasks l.Bodies l.From = false)) ?_ ?_
 ·refine aj.wL (fun pre=>gV r.Tasks pre l.From = true) (by omega) (by omega) (by simp [gV]) (fun pre x post e hx hI=>?_) fun h=>.inl ⟨rfl,h⟩
  refine aj.aC hx (aj.aC (ui (by omega) fun t ht=>by have:=(w.task ht).2.1; omega) (aj.ite (fun h=>?_) fun h=>?_))
  ·refine aj.some (.inr ⟨_,rfl,.inr ⟨rfl,?_⟩⟩)
   unfold gV
   rw [List.all_eq_false]
   exact ⟨x,by rw [e]; simp,by rw [Bool.not_eq_true'] at h; rw [h]; simp⟩
  ·refine aj.some (.inl ⟨rfl,?_⟩)
   unfold gV at hI ⊢
   rw [Bool.not_eq_false'] at h
   rw [List.all_append,hI]
   simp only [List.all_cons,List.all_nil,h]; rfl
 ·rintro o (⟨rfl,h⟩ | ⟨rfl,h⟩)
  ·refine aj.aC (qt (by omega) (by have:=w.re; have:=w.hl; omega) h2 fun x hx=>?_) (aj.some (by simp [h]))
   have:=h4 x hx; have:=w.re; omega
  ·exact aj.some (by simp [h])
theorem ov {r:Round} {l:aI} (w:Wf r) (k:Lk l):Sz (r.Sets ++ l.Sets):=by
 have:=sr k.c; have:=k.s; have:=w.sl; have:=w.sf
 refine ⟨by rw [List.length_append]; omega,by rw [List.flatten_append,List.length_append]; omega⟩
theorem yq {l:aI} {r:Round} (w:Wf r) (k:Lk l) (h0:0 ≤ l.From) (h1:l.From < r.Regions):dr 2000 l r [] = some (iQ r l):=by
 refine aj.eq ?_
 unfold dr iQ
 have hhl:=w.heard; have hrg:=w.reg; have ks:=k.s
 have hz:=ov w k
 refine aj.idx h0 (by omega) ?_
 show aj (Option.bind (aK (!(idx r.Heard l.From || big l)) _) fun x_2=>if ((idx r.Heard l.From || big l) || !x_2) = true then _ else _) _
 cases hc:(idx r.Heard l.From || big l) with
 | true=>exact aj.g0 rfl (aj.nw rfl (aj.some (by simp)))
 | false=>
 obtain ⟨q,eq,hq⟩:=nU (h:=r.Home) (L:=l.Sets) (by omega) (fun c hc=>by have:=k.c c hc; omega)
 have:q = lz r.Home l.Sets:=by
  cases hb:lz r.Home l.Sets with
  | true=>exact hq.2 (gn.1 hb)
  | false=>
   cases q with
   | false=>rfl
   | true=>rw [gn.2 (hq.1 rfl)] at hb; cases hb
 subst this
 refine aj.g1 rfl (aj.aC eq ?_)
 cases hb:lz r.Home l.Sets with
 | false=>exact aj.nw rfl (aj.some (by simp))
 | true=>
 have hsd:n9 r.Home (r.Sets ++ l.Sets):=hY w.sets (gn.1 hb)
 obtain ⟨f1,f2⟩:=j4 hz hsd
 have hll:=w.hl
 refine aj.iff rfl (aj.aC (x:=r.Heard) (by unfold ee; rw [ix (by simp only [List.length_nil]; omega)]; rfl) (aj.idx h0 (by omega) ?_))
 refine aj.aC (uS (Ls:=[r.Sets,l.Sets]) (by simpa using hz) (by simp)) ?_
 rw [show [r.Sets,l.Sets].flatten = r.Sets ++ l.Sets by simp]
 refine aj.aC (tT (r:={ r with Heard:=r.Heard.set l.From.toNat true,Sets:=mg (r.Sets ++ l.Sets) }) w.hl (by simp only; omega) (by simp only; omega) (kv hz hsd) (by simp only [List.length_set]; omega) w.st (by simp)) (aj.some (by simp))
theorem yM {l:aI} {r:Round} (w:Wf r) (k:Lk l):dG 2000 r l = some (sX r l):=by
 refine aj.eq ?_
 unfold dG sX
 show aj (bu _ fun x_1=>bu _ fun x_2=>_) _
 refine aj.ln (aj.qX (ours r l) rfl (aj.ite (fun h=>aj.some (by rw [h]; simp)) fun h=>?_))
 rw [h]
 simp only [Bool.false_eq_true,if_false]
 have hf:0 ≤ l.From ∧ l.From < r.Regions:=by
  unfold ours at h
  simp only [Bool.or_eq_false_iff,decide_eq_false_iff_not] at h
  omega
 by_cases k1:l.Kind = 1
 ·simp only [k1,decide_true,if_true]
  rw [yq w k hf.1 hf.2]
  exact aj.some rfl
 by_cases k2:l.Kind = 2
 ·simp only [k2,decide_true,if_true]
  rw [vn w k]
  exact aj.some rfl
 by_cases k3:l.Kind = 3
 ·simp only [k3,decide_true,if_true]
  rw [uk w k]
  exact aj.some rfl
 ·simp only [k1,k2,k3,decide_false,Bool.false_eq_true,if_false]
  exact aj.some rfl
theorem w_idx {l:List Bool} {i:Int} (h:whole l = true) (h0:0 ≤ i) (h1:i < l.length):idx l i = true:=by
 unfold whole at h
 exact List.all_eq_true.1 h _ (kE h0 h1)
theorem wj {r:Round} {out:List aI} (hl:r.Home.length ≤ 40) (hs:nE r.Home r.Regions) (reg:1 ≤ r.Regions ∧ r.Regions ≤ 16) (me:0 ≤ r.Me ∧ r.Me < r.Regions) (heard:(r.Heard.length:Int) = r.Regions) (sets:n9 r.Home r.Sets) (sl:r.Sets.length ≤ 40) (sf:r.Sets.flatten.length ≤ 40)
  (st:r.States.length = r.Home.length) (re:r.Results.length = r.Home.length) (ht:r.Tasks = []) (hd:r.Done = []):Wf (my r out).1:=by
 unfold my
 split
 ·next hw=>exact ⟨hl,hs,reg,me,heard,sets,sl,sf,st,re,by simp,by simp [hw]⟩
 ·next hw=>exact ⟨hl,hs,reg,me,heard,sets,sl,sf,st,re,by rw [ht,hd]; rfl,by rw [ht,if_neg hw]⟩
theorem sI {r:Round} {l:aI} (h:ours r l = false):0 ≤ l.From ∧ l.From < r.Regions ∧ l.From ≠ r.Me ∧ l.To = r.Me ∧ l.Step = r.Step:=by
 unfold ours at h
 simp only [Bool.or_eq_false_iff,decide_eq_false_iff_not] at h
 exact ⟨by omega,by omega,h.1.1.2,by omega,by omega⟩
theorem wB {r:Round} {l:aI} (w:Wf r) (k:Lk l):Wf (sX r l).1:=by
 unfold sX
 split
 ·exact w
 ·next ho=>
  have ho:ours r l = false:=by simpa using ho
  obtain ⟨f0,f1,_⟩:=sI ho
  split
  ·unfold iQ
   split
   ·exact w
   ·next hc=>
    simp only [Bool.or_eq_true,Bool.not_eq_true',not_or,Bool.not_eq_true,Bool.not_eq_false] at hc
    have hz:=ov w k
    have hsd:n9 r.Home (r.Sets ++ l.Sets):=hY w.sets (gn.1 hc.2)
    obtain ⟨f1',f2'⟩:=j4 hz hsd
    have hl:=w.hl
    have hnw:whole r.Heard = false:=by
     cases hw:whole r.Heard with
     | false=>rfl
     | true=>have:=w_idx hw f0 (by rw [w.heard]; exact f1); rw [hc.1.1] at this; cases this
    have ht:r.Tasks = []:=by rw [w.tsk,hnw]; rfl
    have hd:r.Done = []:=List.length_eq_zero_iff.1 (by rw [w.dn,ht]; rfl)
    exact wj hl w.hs w.reg w.me (by simp only [List.length_set]; exact w.heard) (kv hz hsd) (by simp only; omega) (by simp only; omega) w.st w.re ht hd
  ·split
   ·unfold jQ
    split
    ·exact ⟨w.hl,w.hs,w.reg,w.me,w.heard,w.sets,w.sl,w.sf,by simp only [kU]; exact w.st,w.re,w.dn,w.tsk⟩
    ·exact w
   ·split
    ·unfold jl
     split
     ·exact w
     ·split
      ·exact ⟨w.hl,w.hs,w.reg,w.me,w.heard,w.sets,w.sl,w.sf,w.st,by simp only [kU]; exact w.re,w.dn,w.tsk⟩
      ·exact w
    ·exact w
def Valid (me regions step:Int) (home:List Int) (sets:List (List Int)) (states:List de):Prop :=
 (1 ≤ regions ∧ regions ≤ 16) ∧ (0 ≤ me ∧ me < regions) ∧ 0 ≤ step ∧ nE home regions ∧ n9 home sets ∧ states.length = home.length ∧ ∀ b:Nat,b < home.length → (idx states (b:Int) ≠ [] ↔ idx home (b:Int) = me)
def gT (me regions step:Int) (home:List Int) (sets:List (List Int)) (states:List de):Round :=
 ⟨me,regions,step,home,(List.replicate regions.toNat false).set me.toNat true,mg sets,states,[],[],List.replicate home.length []⟩
def b8 (me step:Int) (sets:List (List Int)) (n:Nat):List aI:=((List.range n).filter fun i:Nat=>decide ((i:Int) ≠ me)).map fun i:Nat=>⟨1,step,me,(i:Int),mg sets,[],[]⟩
theorem xm {me regions step:Int} {home:List Int} {sets:List (List Int)} {states:List de} (hh:home.length ≤ 40) (h1:sets.length ≤ 30) (h2:∀ c ∈ sets,c.length ≤ 8) :
  aj (dL 2000 me regions step home sets states) fun z=>(z = (⟨0,0,0,[],[],[],[],[],[],[]⟩,[],1) ∧ ¬ Valid me regions step home sets states) ∨ (Valid me regions step home sets states ∧ z = ((my (gT me regions step home sets states) (b8 me step sets regions.toNat)).1,(my (gT me regions step home sets states) (b8 me step sets regions.toNat)).2,0)):=by
 unfold dL
 have hfl:=sr h2
 by_cases c1:(1 ≤ regions ∧ regions ≤ 16) ∧ (0 ≤ me ∧ me < regions) ∧ 0 ≤ step
 rotate_left
 ·have e:(((((decide (regions < 1)) || (decide (16 < regions))) || (decide (me < 0))) || (decide (regions ≤ me))) || (decide (step < 0))) = true:=by
   simp only [Bool.or_eq_true,decide_eq_true_eq]
   omega
  refine aj.ln ?_
  rw [e]
  refine aj.g0 rfl (aj.qX true rfl (aj.g0 rfl (aj.qX true rfl (aj.nw rfl (aj.some (.inl ⟨rfl,fun hv=>c1 ⟨hv.1,hv.2.1,hv.2.2.1⟩⟩))))))
 obtain ⟨r1,r2,r3⟩:=c1
 have e:(((((decide (regions < 1)) || (decide (16 < regions))) || (decide (me < 0))) || (decide (regions ≤ me))) || (decide (step < 0))) = false:=by
  simp only [Bool.or_eq_false_iff,decide_eq_false_iff_not]
  omega
 refine aj.ln ?_
 rw [e]
 refine aj.g1 rfl (aj.bind (xf (by omega)) fun q1 hq1=>?_)
 refine aj.ln ?_
 cases q1 with
 | false=>exact aj.g0 rfl (aj.qX true rfl (aj.nw rfl (aj.some (.inl ⟨rfl,fun hv=>by simpa using hq1.2 hv.2.2.2.1⟩))))
 | true=>
 refine aj.g1 rfl (aj.bind (nU (by omega) fun c hc=>by have:=h2 c hc; omega) fun q2 hq2=>?_)
 cases q2 with
 | false=>exact aj.qX true rfl (aj.nw rfl (aj.some (.inl ⟨rfl,fun hv=>by simpa using hq2.2 hv.2.2.2.2.1⟩)))
 | true=>
 have hH:=hq1.1 rfl
 have hS:=hq2.1 rfl
 by_cases hlen:states.length = home.length
 rotate_left
 ·exact aj.qX true (by rw [decide_eq_true (by omega:(states.length:Int) ≠ home.length)]; rfl) (aj.nw rfl (aj.some (.inl ⟨rfl,fun hv=>hlen hv.2.2.2.2.2.1⟩)))
 refine aj.qX false (by rw [decide_eq_false (by omega:¬ (states.length:Int) ≠ home.length)]; rfl) (aj.iff rfl ?_)
 refine aj.bind (P:=fun o:Unit ⊕ (Round × List aI × Int)=>(o = .inl () ∧ ∀ b:Nat,b < home.length → (idx states (b:Int) ≠ [] ↔ idx home (b:Int) = me)) ∨ (o = .inr (⟨0,0,0,[],[],[],[],[],[],[]⟩,[],1) ∧ ¬ ∀ b:Nat,b < home.length → (idx states (b:Int) ≠ [] ↔ idx home (b:Int) = me))) ?_ ?_
 ·refine aj.wL (fun pre=>∀ b:Nat,b < pre.length → (idx states (b:Int) ≠ [] ↔ idx home (b:Int) = me)) (by omega) (by omega) (by simp) (fun pre x post e hx hI=>?_) fun h=>.inl ⟨rfl,h⟩
  have hpl:pre.length < home.length:=by rw [e]; simp
  have ex:=sn hx
  refine aj.aC hx (aj.idx (by omega) (by omega) (aj.ite (fun hc=>?_) fun hc=>?_))
  ·refine aj.some (.inr ⟨_,rfl,.inr ⟨rfl,fun hh=>?_⟩⟩)
   have:=hh pre.length hpl
   rw [ex] at this
   have e2:decide (idx states (pre.length:Int) ≠ []) = decide (x = me):=decide_eq_decide.2 this
   rw [e2] at hc
   simp at hc
  ·refine aj.some (.inl ⟨rfl,fun b hb=>?_⟩)
   by_cases hbp:b < pre.length
   ·exact hI b hbp
   ·have:b = pre.length:=by simp at hb; omega
    subst this
    rw [ex]
    have e2:decide (idx states (pre.length:Int) ≠ []) = decide (x = me):=bne_eq_false_iff_eq.1 hc
    exact decide_eq_decide.1 e2
 ·rintro o (⟨rfl,hst⟩ | ⟨rfl,hst⟩)
  rotate_left
  ·exact aj.some (.inl ⟨rfl,fun hv=>hst hv.2.2.2.2.2.2⟩)
  have hz:Sz sets:=⟨by omega,by omega⟩
  obtain ⟨f1,f2⟩:=j4 hz hS
  refine aj.aC (x:=List.replicate regions.toNat false) (by unfold mk?; rw [if_pos (by omega)]) (aj.aC (uS (Ls:=[sets]) (by simpa using hz) (by simp)) ?_)
  rw [show [sets].flatten = sets by simp]
  refine aj.aC (x:=List.replicate home.length []) (by unfold mk?; rw [if_pos (by omega)]; rfl) (aj.idx r2.1 (by simp; omega) ?_)
  refine aj.bind (P:=(· = ((List.replicate regions.toNat false).set me.toNat true,List.replicate home.length ([]:de),b8 me step sets regions.toNat))) ?_ ?_
  ·refine aj.rounds (n:=regions.toNat) (I:=fun k s=>k ≤ regions.toNat ∧ s = ((List.replicate regions.toNat false).set me.toNat true,List.replicate home.length ([]:de),b8 me step sets k,(k:Int))) (by omega) ⟨by omega,by simp [b8]⟩ ?_
   rintro k s hk ⟨_,rfl⟩
   have hbl:(b8 me step sets k).length ≤ k:=by
    unfold b8; rw [List.length_map]; refine Nat.le_trans (List.length_filter_le _ _) (by simp)
   refine aj.ite (fun hc=>?_) fun hc=>?_
   ·have hc:(k:Int) < regions:=of_decide_eq_true hc
    refine aj.bind (P:=(· = b8 me step sets (k + 1))) ?_ ?_
    ·have eb:b8 me step sets (k + 1) = b8 me step sets k ++ if decide ((k:Int) ≠ me) then [⟨1,step,me,(k:Int),mg sets,[],[]⟩] else []:=by
      unfold b8
      rw [List.range_succ,List.filter_append,List.map_append]
      simp only [List.filter_cons,List.filter_nil]
      split <;> rfl
     rw [eb]
     refine aj.ite (fun h=>?_) fun h=>?_
     ·refine aj.aC (ry (by simp only; omega)) (aj.some ?_)
      rw [h]; rfl
     ·refine aj.some ?_
      rw [h]; simp
    ·rintro _ rfl
     refine aj.some (.inl ⟨_,rfl,⟨by omega,?_⟩,by omega⟩)
     simp only
     rw [oM (by omega) (by omega)]; push_cast; rfl
   ·have hc:¬ (k:Int) < regions:=of_decide_eq_false hc
    have:k = regions.toNat:=by omega
    subst this
    exact aj.some (.inr ⟨_,rfl,rfl⟩)
  ·rintro _ rfl
   simp only [rf]
   have hbl:(b8 me step sets regions.toNat).length ≤ 16:=by
    unfold b8; rw [List.length_map]; refine Nat.le_trans (List.length_filter_le _ _) (by simp; omega)
   refine aj.aC (tT (r:=gT me regions step home sets states) hh (by show (mg sets).length ≤ 800; omega) (by show (mg sets).flatten.length ≤ 800; omega) (kv hz hS) (by show ((List.replicate regions.toNat false).set me.toNat true).length < 2000; simp; omega) hlen (by omega)) (aj.some (.inr ⟨⟨r1,r2,r3,hH,hS,hlen,hst⟩,rfl⟩))
theorem yR {me regions step:Int} {home:List Int} {sets:List (List Int)} {states:List de} {out:List aI} (hh:home.length ≤ 40) (h1:sets.length ≤ 30) (h2:∀ c ∈ sets,c.length ≤ 8) (hv:Valid me regions step home sets states):Wf (my (gT me regions step home sets states) out).1:=by
 have hfl:=sr h2
 have hz:Sz sets:=⟨by omega,by omega⟩
 obtain ⟨r1,r2,r3,hH,hS,hlen,hst⟩:=hv
 obtain ⟨f1,f2⟩:=j4 hz hS
 exact wj (r:=gT me regions step home sets states) hh hH r1 r2 (by show ((((List.replicate regions.toNat false).set me.toNat true).length:Nat):Int) = regions; simp; omega) (kv hz hS) (by show (mg sets).length ≤ 40; omega) (by show (mg sets).flatten.length ≤ 40; omega) hlen (by show (List.replicate home.length ([]:de)).length = home.length; simp) rfl rfl
theorem uf {l:List Bool} (hl:l.length ≤ 1000):bI 2000 l l = some true:=by
 refine aj.eq ?_
 unfold bI
 refine aj.iff (by simp) (aj.bind (P:=(· = .inl ())) ?_ (fun o ho=>by rw [ho]; exact aj.some rfl))
 refine aj.pass (by omega) (by omega) (by omega) (fun k h1 h2=>?_) rfl
 rw [iv h1 h2]; simp
theorem ru {l:List de} (hl:l.length ≤ 1000):bw 2000 l l = some true:=by
 refine aj.eq ?_
 unfold bw
 refine aj.iff (by simp) (aj.bind (P:=(· = .inl ())) ?_ (fun o ho=>by rw [ho]; exact aj.some rfl))
 refine aj.pass (by omega) (by omega) (by omega) (fun k h1 h2=>?_) rfl
 rw [iv h1 h2]; simp
theorem we {l:List (List Int)} (hl:l.length ≤ 1000) (hc:∀ c ∈ l,c.length ≤ 1000):bQ 2000 l l = some true:=by
 refine aj.eq ?_
 unfold bQ
 refine aj.iff (by simp) (aj.bind (P:=(· = .inl ())) ?_ (fun o ho=>by rw [ho]; exact aj.some rfl))
 refine aj.pass (by omega) (by omega) (by omega) (fun k h1 h2=>?_) rfl
 rw [iv h1 h2]
 simp only [Option.bind_some]
 rw [ob (hc _ (kE h1 h2))]; rfl
theorem yn {l:List Task} (hl:l.length ≤ 1000) (hc:∀ t ∈ l,t.Bodies.length ≤ 1000 ∧ t.Helpers.length ≤ 1000):bJ 2000 l l = some true:=by
 refine aj.eq ?_
 unfold bJ
 refine aj.iff (by simp) (aj.bind (P:=(· = .inl ())) ?_ (fun o ho=>by rw [ho]; exact aj.some rfl))
 refine aj.pass (by omega) (by omega) (by omega) (fun k h1 h2=>?_) rfl
 obtain ⟨g1,g2⟩:=hc _ (kE h1 h2)
 refine aj.eq ?_
 have e:=iv (xs:=l) h1 h2
 have e0:decide ((idx l k).Owner ≠ (idx l k).Owner) = false:=by simp
 refine aj.aC e (aj.aC e ?_)
 rw [e0]
 exact aj.g1 rfl (aj.aC e (aj.g1 rfl (aj.aC e (aj.g1 rfl (aj.aC (ob g1) (aj.g1 rfl (aj.aC e (aj.g1 rfl (aj.aC e (aj.g1 rfl (aj.aC (ob g2) (aj.iff rfl (aj.some rfl)))))))))))))
theorem wC {s:List (List Int)} {c:List Int} (hc:c ∈ s):c.length ≤ s.flatten.length:=by
 induction s with
 | nil=>cases hc
 | cons d s ih=>
  rcases List.mem_cons.1 hc with rfl | hc
  ·simp
  ·have:=ih hc; simp only [List.flatten_cons,List.length_append]; omega
theorem rz {r:Round} (w:Wf r):bo 2000 r r = some true:=by
 unfold bo
 have hl:=w.hl; have hr:=w.reg; have hh:=w.heard; have hst:=w.st; have hre:=w.re; have hdn:=w.dn; have hT:=w.sV
 rw [ob (by omega),uf (l:=r.Heard) (by omega),we (by have:=w.sl; omega) (fun c hc=>by have:=wC hc; have:=w.sf; omega),ru (l:=r.States) (by omega),yn (by omega) (fun t ht=>by have:=w.task ht; omega),uf (l:=r.Done) (by omega),ru (l:=r.Results) (by omega)]
 simp [bu,aK]
theorem lk_of {l:aI} (h:l.Bodies.length ≤ 40) (h2:l.Sets.length ≤ 30 ∧ ∀ c ∈ l.Sets,c.length ≤ 8):Lk l:=⟨h,h2.1,h2.2⟩
end Go.Proofs.Ytnpddoaeoefcnaa
namespace Go.Proofs.Ytnpddoaeoefcnaa
open Go Go.Sk
set_option linter.unusedVariables false
theorem xJ {α:Type} (f:α → Nat):∀ {l:List α} {y:α},y ∈ l → f y ≤ (l.map f).sum
 | a :: l,y,h=>by
  rw [List.map_cons,List.sum_cons]
  rcases List.mem_cons.1 h with rfl | h
  ·omega
  ·have:=xJ f h; omega
end Go.Proofs.Ytnpddoaeoefcnaa
namespace Go.Proofs.Ytnpddoaeoefcnaa
open Go Go.Sk
set_option linter.unusedVariables false
set_option linter.unusedSimpArgs false
def fS (r:Round) (k:Int):Bool:=(decide ((idx r.Tasks k).Owner = r.Me) && !(idx r.Done k)) && !((pick r.States (idx r.Tasks k).Bodies).contains [])
def ku (r:Round):List Int:=((List.range r.Tasks.length).filter fun k:Nat=>fS r k).map fun k:Nat=>(k:Int)
def finB (r:Round):Bool:=((List.range r.Tasks.length).all fun k:Nat=>!(decide ((idx r.Tasks (k:Int)).Owner = r.Me) && !(idx r.Done (k:Int)))) && ((List.range r.Home.length).all fun b:Nat=>!(decide (idx r.Home (b:Int) = r.Me) && decide (idx r.Results (b:Int) = []))) && whole r.Heard
abbrev oL:Round:=⟨0,0,0,[],[],[],[],[],[],[]⟩
def sW (all o:List de) (b:Int):List de:=o.set b.toNat (idx all b)
def jg (r:Round) (t:Task) (states:List de):List de:=js (List.replicate r.Home.length []) t.Bodies states
def kD (r:Round) (t:Task) (all:List de) (g:Int):aI:=⟨3,r.Step,r.Me,g,[],lL r.Home t.Bodies g,pick all (lL r.Home t.Bodies g)⟩
def answer (r:Round) (k:Int) (states:List de):Round × List aI × Int :=
 if decide (k < 0) || decide ((r.Tasks.length:Int) ≤ k) then (oL,[],5) else
 if idx r.Done k then (oL,[],6) else
 if !fS r k then (oL,[],4) else
 if decide (states.length ≠ (idx r.Tasks k).Bodies.length) || states.contains [] then (oL,[],1) else
 ({ r with Done:=r.Done.set k.toNat true,Results:=(lL r.Home (idx r.Tasks k).Bodies r.Me).foldl (sW (jg r (idx r.Tasks k) states)) r.Results },(idx r.Tasks k).Helpers.map (kD r (idx r.Tasks k) (jg r (idx r.Tasks k) states)),0)
theorem q8 (all:List de):∀ (l:List Int) (o:List de),(l.foldl (sW all) o).length = o.length
 | [],o=>rfl
 | b :: l,o=>by rw [List.foldl_cons,q8 all l]; simp [sW]
theorem qQ {r:Round} {k:Int} (w:Wf r) (h0:0 ≤ k) (h1:k < r.Tasks.length):dO 2000 r k = some (fS r k):=by
 refine aj.eq ?_
 unfold dO fS
 have ht:=w.task (kE h0 h1)
 have hd:=w.dn; have hst:=w.st
 refine aj.idx h0 h1 ?_
 cases decide ((idx r.Tasks k).Owner = r.Me) with
 | false=>exact aj.g0 rfl (aj.g0 rfl (aj.g0 rfl (aj.some rfl)))
 | true=>
 refine aj.g1 rfl (aj.idx h0 (by omega) ?_)
 cases idx r.Done k with
 | true=>exact aj.g0 rfl (aj.g0 rfl (aj.some rfl))
 | false=>exact aj.g1 rfl (aj.aC (ou (by omega) fun b hb=>by have:=ht.1 b hb; omega) (aj.g1 rfl (aj.aC (l9 (by rw [pick,List.length_map]; omega)) (aj.some rfl))))
theorem nX {β:Type} (p:Nat → Bool) (f:Nat → β) (n:Nat):((List.range (n + 1)).filter p).map f = ((List.range n).filter p).map f ++ if p n then [f n] else []:=by
 rw [jB,List.map_append]; split <;> rfl
theorem w2 {r:Round} (w:Wf r):dY 2000 r = some (ku r):=by
 refine aj.eq ?_
 unfold dY
 have hT:=w.sV
 refine aj.bind ?_ fun o ho=>aj.some ho
 refine aj.qF (I:=fun pre s=>s = ((List.range pre.length).filter fun k:Nat=>fS r k).map fun k:Nat=>(k:Int)) (by omega) (by omega) rfl ?_ fun s h=>h
 rintro pre t post s e hx rfl
 have hpl:pre.length < r.Tasks.length:=by rw [e]; simp
 refine aj.bind (P:=fun s=>s = ((List.range (pre ++ [t]).length).filter fun k:Nat=>fS r k).map fun k:Nat=>(k:Int)) ?_ fun s h=>aj.some (.inl ⟨_,rfl,h⟩)
 rw [List.length_append,List.length_singleton,nX]
 refine aj.aC (qQ w (by omega) (by omega)) (aj.ite (fun h=>?_) fun h=>?_)
 ·refine aj.app ?_ (aj.some (by rw [h]; rfl))
  have:=List.length_filter_le (fun k:Nat=>fS r k) (List.range pre.length)
  simp only [List.length_range] at this
  simp only [List.length_map,List.length_singleton]; omega
 ·exact aj.some (by rw [h]; simp)
theorem ll (p:Nat → Bool) (n:Nat):(List.range (n + 1)).all p = ((List.range n).all p && p n):=by rw [List.range_succ,List.all_append]; simp
theorem all_false {p:Nat → Bool} {n k:Nat} (hk:k < n) (h:p k = false):(List.range n).all p = false:=by
 rw [List.all_eq_false]; exact ⟨k,List.mem_range.2 hk,by rw [h]; simp⟩
theorem wD {r:Round} (w:Wf r):cy 2000 r = some (finB r):=by
 refine aj.eq ?_
 unfold cy finB
 have hT:=w.sV; have hd:=w.dn; have hl:=w.hl; have hre:=w.re
 refine aj.bind (P:=fun o:Unit ⊕ Bool=>(o = .inl () ∧ ((List.range r.Tasks.length).all fun k:Nat=>!(decide ((idx r.Tasks (k:Int)).Owner = r.Me) && !(idx r.Done (k:Int)))) = true) ∨ (o = .inr false ∧ ((List.range r.Tasks.length).all fun k:Nat=>!(decide ((idx r.Tasks (k:Int)).Owner = r.Me) && !(idx r.Done (k:Int)))) = false)) ?_ ?_
 ·refine aj.wL (fun pre=>((List.range pre.length).all fun k:Nat=>!(decide ((idx r.Tasks (k:Int)).Owner = r.Me) && !(idx r.Done (k:Int)))) = true) (by omega) (by omega) rfl (fun pre t post e hx hI=>?_) fun h=>.inl ⟨rfl,h⟩
  have hpl:pre.length < r.Tasks.length:=by rw [e]; simp
  have ex:=sn hx
  refine aj.aC hx ?_
  have fin:aj (if (decide (t.Owner = r.Me) && !(idx r.Done (pre.length:Int))) = true then (some (.inr (.inr false)):Option (Int ⊕ (Unit ⊕ Bool))) else some (.inl (IntKind.i64.wrap ((pre.length:Int) + 1)))) fun o=>(o = .inl (IntKind.i64.wrap ((pre.length:Int) + 1)) ∧ ((List.range (pre ++ [t]).length).all fun k:Nat=>!(decide ((idx r.Tasks (k:Int)).Owner = r.Me) && !(idx r.Done (k:Int)))) = true) ∨ ∃ z,o = .inr z ∧ ((z = .inl () ∧ ((List.range r.Tasks.length).all fun k:Nat=>!(decide ((idx r.Tasks (k:Int)).Owner = r.Me) && !(idx r.Done (k:Int)))) = true) ∨ (z = .inr false ∧ ((List.range r.Tasks.length).all fun k:Nat=>!(decide ((idx r.Tasks (k:Int)).Owner = r.Me) && !(idx r.Done (k:Int)))) = false)):=by
   refine aj.ite (fun h=>?_) fun h=>?_
   ·exact aj.some (.inr ⟨_,rfl,.inr ⟨rfl,all_false hpl (by rw [ex,h]; rfl)⟩⟩)
   ·refine aj.some (.inl ⟨rfl,?_⟩)
    rw [List.length_append,List.length_singleton,ll,hI,ex,h]; rfl
  cases hdo:decide (t.Owner = r.Me) with
  | false=>rw [hdo] at fin; exact aj.g0 rfl fin
  | true=>rw [hdo] at fin; exact aj.g1 rfl (aj.idx (by omega) (by omega) fin)
 ·rintro o (⟨rfl,h⟩ | ⟨rfl,h⟩)
  rotate_left
  ·exact aj.some (by rw [h]; simp)
  rw [h]
  refine aj.bind (P:=fun o:Unit ⊕ Bool=>(o = .inl () ∧ ((List.range r.Home.length).all fun b:Nat=>!(decide (idx r.Home (b:Int) = r.Me) && decide (idx r.Results (b:Int) = []))) = true) ∨ (o = .inr false ∧ ((List.range r.Home.length).all fun b:Nat=>!(decide (idx r.Home (b:Int) = r.Me) && decide (idx r.Results (b:Int) = []))) = false)) ?_ ?_
  ·refine aj.wL (fun pre=>((List.range pre.length).all fun b:Nat=>!(decide (idx r.Home (b:Int) = r.Me) && decide (idx r.Results (b:Int) = []))) = true) (by omega) (by omega) rfl (fun pre t post e hx hI=>?_) fun h=>.inl ⟨rfl,h⟩
   have hpl:pre.length < r.Home.length:=by rw [e]; simp
   have ex:=sn hx
   refine aj.aC hx ?_
   by_cases hdo:t = r.Me
   ·rw [decide_eq_true hdo]
    refine aj.g1 rfl (aj.idx (by omega) (by omega) (aj.ite (fun h=>?_) fun h=>?_))
    ·exact aj.some (.inr ⟨_,rfl,.inr ⟨rfl,all_false hpl (by rw [ex,decide_eq_true hdo,h]; rfl)⟩⟩)
    ·refine aj.some (.inl ⟨rfl,?_⟩)
     rw [List.length_append,List.length_singleton,ll,hI,ex,decide_eq_true hdo,h]; rfl
   ·rw [decide_eq_false hdo]
    refine aj.g0 rfl (aj.iff rfl (aj.some (.inl ⟨rfl,?_⟩)))
    rw [List.length_append,List.length_singleton,ll,hI,ex,decide_eq_false hdo]; rfl
  ·rintro o (⟨rfl,h⟩ | ⟨rfl,h⟩)
   ·rw [h]
    refine aj.aC (kJ (by have:=w.heard; have:=w.reg; omega)) (aj.some (by simp))
   ·exact aj.some (by rw [h]; simp)
theorem vQ {r:Round} {k:Int} {states:List de} (w:Wf r) (hs:states.length ≤ 9223372036854775807):eh 2000 r k states = some (answer r k states):=by
 refine aj.eq ?_
 unfold eh answer
 have hT:=w.sV; have hd:=w.dn; have hl:=w.hl; have hre:=w.re
 refine aj.ln ?_
 cases hc:(decide (k < 0) || decide ((r.Tasks.length:Int) ≤ k)) with
 | true=>exact aj.nw rfl (aj.some (by simp))
 | false=>
 simp only [Bool.or_eq_false_iff,decide_eq_false_iff_not] at hc
 have h0:0 ≤ k:=by omega
 have h1:k < r.Tasks.length:=by omega
 have ht:=w.task (kE h0 h1)
 refine aj.iff rfl (aj.idx h0 h1 (aj.idx h0 (by omega) ?_))
 cases hdk:idx r.Done k with
 | true=>exact aj.nw rfl (aj.some (by simp))
 | false=>
 refine aj.iff rfl (aj.aC (qQ w h0 h1) ?_)
 cases hrk:fS r k with
 | false=>exact aj.nw rfl (aj.some (by simp))
 | true=>
 refine aj.iff rfl ?_
 generalize idx r.Tasks k = t at ht
 by_cases hln:states.length = t.Bodies.length
 rotate_left
 ·rw [decide_eq_true (by omega:(states.length:Int) ≠ t.Bodies.length)]
  exact aj.g0 rfl (aj.qX true rfl (aj.nw rfl (aj.some (by rw [decide_eq_true hln]; simp))))
 rw [decide_eq_false (by omega:¬ (states.length:Int) ≠ t.Bodies.length)]
 refine aj.g1 rfl (aj.aC (l9 (by omega)) ?_)
 cases hcs:states.contains [] with
 | true=>exact aj.qX true rfl (aj.nw rfl (aj.some (by simp)))
 | false=>
 refine aj.qX false rfl (aj.iff rfl ?_)
 refine aj.aC (x:=r.Done) (by unfold ee; rw [ix (by simp only [List.length_nil]; omega)]; rfl) (aj.aC (x:=r.Results) (by unfold eK; rw [ix (by simp only [List.length_nil]; omega)]; rfl) (aj.idx h0 (by omega) ?_))
 refine aj.aC (x:=List.replicate r.Home.length []) (by unfold mk?; rw [if_pos (by omega)]; rfl) ?_
 refine aj.aC (x:=jg r t states) (qt (by omega) (by simp; omega) hln fun x hx=>by have:=ht.1 x hx; simp; omega) ?_
 have hal:(jg r t states).length = r.Home.length:=by unfold jg; rw [kU]; simp
 refine aj.bind (P:=(· = (lL r.Home t.Bodies r.Me).foldl (sW (jg r t states)) r.Results)) ?_ ?_
 ·refine aj.aC (x:=lL r.Home t.Bodies r.Me) (ofv_own (by omega) fun b hb=>⟨(ht.1 b hb).1,(ht.1 b hb).2.1⟩) ?_
  have hol:=lO r.Home t.Bodies r.Me
  refine aj.qF (I:=fun pre o=>o = pre.foldl (sW (jg r t states)) r.Results) (by omega) (by omega) rfl ?_ fun s h=>h
  rintro pre b post o e hb rfl
  have hbm:b ∈ t.Bodies:=(od.1 (show b ∈ lL r.Home t.Bodies r.Me by rw [e]; simp)).1
  obtain ⟨g1,g2,_⟩:=ht.1 b hbm
  have hpl:=q8 (jg r t states) pre r.Results
  exact aj.aC hb (aj.idx g1 (by omega) (aj.idx g1 (by omega) (aj.some (.inl ⟨_,rfl,by rw [List.foldl_append]; rfl⟩))))
 ·rintro _ rfl
  refine aj.bind (P:=(· = (r.Done.set k.toNat true,(lL r.Home t.Bodies r.Me).foldl (sW (jg r t states)) r.Results,t.Helpers.map (kD r t (jg r t states))))) ?_ ?_
  ·refine aj.ea4 (I:=fun pre a b o=>a = r.Done.set k.toNat true ∧ b = (lL r.Home t.Bodies r.Me).foldl (sW (jg r t states)) r.Results ∧ o = pre.map (kD r t (jg r t states))) (by omega) (by omega) ⟨rfl,rfl,rfl⟩ ?_ fun a b c h=>by obtain ⟨rfl,rfl,rfl⟩:=h; rfl
   rintro pre g post a b o e hg ⟨rfl,rfl,rfl⟩
   have hpl:pre.length < t.Helpers.length:=by rw [e]; simp
   have hol:=lO r.Home t.Bodies g
   refine aj.aC hg (aj.aC (s4 (by omega) fun b hb=>⟨(ht.1 b hb).1,(ht.1 b hb).2.1⟩) (aj.aC (ou (l:=lL r.Home t.Bodies g) (by omega) fun b hb=>?_) (aj.ln (aj.aC (ry (by rw [List.length_map]; omega)) (aj.some (.inl ⟨_,_,_,rfl,rfl,rfl,?_⟩))))))
   ·have:=ht.1 b (od.1 hb).1; omega
   ·rw [List.map_append]; rfl
  ·rintro _ rfl
   refine aj.some ?_
   simp only [hln,ne_eq,not_true_eq_false,decide_false,Bool.or_self,Bool.false_eq_true,Bool.not_true,if_false]
theorem sU {r:Round} {k:Int} {states:List de} (w:Wf r) (h:(answer r k states).2.2 = 0):Wf (answer r k states).1:=by
 unfold answer at h ⊢
 split at h
 ·cases h
 ·next c1=>
  rw [if_neg c1]
  split at h
  ·cases h
  ·next c2=>
   rw [if_neg c2]
   split at h
   ·cases h
   ·next c3=>
    rw [if_neg c3]
    split at h
    ·cases h
    ·next c4=>
     rw [if_neg c4]
     exact ⟨w.hl,w.hs,w.reg,w.me,w.heard,w.sets,w.sl,w.sf,w.st,by simp only [q8]; exact w.re,by simp only [List.length_set]; exact w.dn,w.tsk⟩
theorem sZ {h l:List Int} {g:Int} (hl:l.length < 2000) (hr:∀ b ∈ l,0 ≤ b ∧ b < h.length):cj 2000 h l g = some (lL h l g):=by
 refine aj.eq ?_
 unfold cj
 refine aj.bind ?_ fun o ho=>aj.some ho
 refine aj.qF (I:=fun pre s=>s = lL h pre g) hl (by omega) rfl ?_ fun s h=>h
 rintro pre x post s e hx rfl
 obtain ⟨g1,g2⟩:=hr x (by rw [e]; simp)
 have hpl:(lL h pre g).length ≤ l.length:=Nat.le_trans (List.length_filter_le _ _) (by rw [e]; simp)
 refine aj.bind (P:=fun s=>s = lL h (pre ++ [x]) g) ?_ fun s h=>aj.some (.inl ⟨_,rfl,h⟩)
 have ef:lL h (pre ++ [x]) g = lL h pre g ++ if decide (idx h x = g) then [x] else []:=by
  unfold lL; rw [List.filter_append]; simp only [List.filter_cons,List.filter_nil]
 rw [ef]
 refine aj.aC hx (aj.idx g1 g2 (aj.ite (fun hc=>?_) fun hc=>?_))
 ·exact aj.aC hx (aj.app (by simp only [List.length_singleton]; omega) (aj.some (by rw [hc]; rfl)))
 ·exact aj.some (by rw [hc]; simp)
theorem pe {s:List de} {l:List Int} (hl:l.length < 2000) (h:∀ b ∈ l,0 ≤ b ∧ b < s.length):cb 2000 s l = some (pick s l):=ou hl h
theorem xv {l:List Bool} (hl:l.length < 2000):bK 2000 l = some (whole l):=by
 refine aj.eq ?_
 unfold bK
 refine aj.bind (P:=fun o:Unit ⊕ Bool=>(o = .inl () ∧ whole l = true) ∨ (o = .inr false ∧ whole l = false)) ?_ ?_
 ·refine aj.find (c:=fun b:Bool=>!b) (r:=fun _=>false) hl (by omega) (fun h=>.inl ⟨rfl,?_⟩) (fun pre x post e _ hc=>.inr ⟨rfl,?_⟩) fun i x hx=>by rw [hx]; rfl
  ·unfold whole; rw [List.all_eq_true]; intro b hb; simpa using h b hb
  ·unfold whole; rw [List.all_eq_false]; exact ⟨x,by rw [e]; simp,by simpa using hc⟩
 ·rintro o (⟨rfl,h⟩ | ⟨rfl,h⟩)
  ·exact aj.some h.symm
  ·exact aj.some h.symm
theorem pO {l:List de} {n:Nat} (hn:n < 2000):bS 2000 l (n:Int) = some (decide (l.length = n) && !(l.contains [])):=by
 refine aj.eq ?_
 unfold bS
 by_cases hl:l.length = n
 rotate_left
 ·exact aj.nw (decide_eq_true (by omega)) (aj.some (by rw [decide_eq_false hl]; rfl))
 subst hl
 refine aj.iff (by simp) ?_
 refine aj.bind (P:=fun o:Unit ⊕ Bool=>(o = .inl () ∧ ([]:de) ∉ l) ∨ (o = .inr false ∧ ([]:de) ∈ l)) ?_ ?_
 ·refine aj.find (c:=fun b:de=>decide (b = [])) (r:=fun _=>false) hn (by omega) (fun h=>.inl ⟨rfl,fun hm=>by simpa using h _ hm⟩) (fun pre x post e _ hc=>.inr ⟨rfl,by rw [e,← of_decide_eq_true hc]; simp⟩) fun i x hx=>by rw [hx]; rfl
 ·rintro o (⟨rfl,h⟩ | ⟨rfl,h⟩)
  ·exact aj.some (by simp [h])
  ·exact aj.some (by simp [h])
theorem vG {h c:List Int} (hl:c.length < 2000):bO 2000 h c = some (lz h [c]):=by
 obtain ⟨r,e,hr⟩:=sO (h:=h) hl
 rw [e]
 congr 1
 have:r = true ↔ lz h [c] = true:=by rw [hr,gn]; unfold n9; simp
 cases r <;> cases hb:lz h [c] <;> simp_all
theorem vy {h:List Int} {L:List (List Int)} (hl:L.length < 2000) (hc:∀ c ∈ L,c.length < 2000):bN 2000 h L = some (lz h L):=by
 obtain ⟨r,e,hr⟩:=sH (h:=h) hl hc
 rw [e]
 congr 1
 have:r = true ↔ lz h L = true:=by rw [hr,gn]
 cases r <;> cases hb:lz h L <;> simp_all
theorem sM {h l:List Int} {g:Int} (hl:l.length < 2000):ck 2000 h l g = some (lz h [l] && decide ((lL h l g).length = l.length)):=by
 refine aj.eq ?_
 unfold ck
 refine aj.aC (vG hl) ?_
 cases hb:lz h [l] with
 | false=>exact aj.g0 rfl (aj.some rfl)
 | true=>
  have h5:=gn.1 hb l (by simp)
  refine aj.g1 rfl (aj.aC (sZ hl fun b hb=>⟨(h5 b hb).1,(h5 b hb).2.1⟩) (aj.some ?_))
  simp
  omega
theorem vp {T:List Task} {l:List Int} {g:Int} (hT:T.length < 2000) (hl:l.length < 2000) (hb:∀ t ∈ T,t.Bodies.length < 2000):cD 2000 T l g = some (gV T l g):=by
 refine aj.eq ?_
 unfold cD
 refine aj.bind (P:=fun o:Unit ⊕ Bool=>(o = .inl () ∧ gV T l g = true) ∨ (o = .inr false ∧ gV T l g = false)) ?_ ?_
 ·refine aj.wL (fun pre=>gV T pre g = true) hl (by omega) rfl (fun pre x post e hx hI=>?_) fun h=>.inl ⟨rfl,h⟩
  refine aj.bind (P:=fun o:Unit ⊕ Bool=>(o = .inl () ∧ (T.any fun t=>decide (t.Owner = g) && t.Bodies.contains x) = true) ∨ (o = .inr false ∧ (T.any fun t=>decide (t.Owner = g) && t.Bodies.contains x) = false)) ?_ ?_
  ·refine aj.bind (P:=(· = T.any fun t=>decide (t.Owner = g) && t.Bodies.contains x)) ?_ ?_
   ·refine aj.qF (I:=fun q s=>s = q.any fun t=>decide (t.Owner = g) && t.Bodies.contains x) hT (by omega) rfl ?_ fun s h=>h
    rintro q t post' s e' ht rfl
    have htm:t ∈ T:=by rw [e']; simp
    rw [List.any_append]
    simp only [List.any_cons,List.any_nil,Bool.or_false]
    cases q.any fun t=>decide (t.Owner = g) && t.Bodies.contains x with
    | true=>exact aj.g0 rfl (aj.g0 rfl (aj.g0 rfl (aj.g0 rfl (aj.some (.inl ⟨_,rfl,rfl⟩)))))
    | false=>
     refine aj.g1 rfl (aj.aC ht ?_)
     cases hdo:decide (t.Owner = g) with
     | false=>exact aj.g0 rfl (aj.g0 rfl (aj.g0 rfl (aj.some (.inl ⟨_,rfl,rfl⟩))))
     | true=>
      refine aj.g1 rfl (aj.aC ht (aj.g1 rfl (aj.aC hx (aj.g1 rfl (aj.aC (xC (by omega) (hb t htm)) (aj.some (.inl ⟨_,rfl,?_⟩)))))))
      simp
   ·rintro _ rfl
    refine aj.ite (fun h=>?_) fun h=>?_
    ·exact aj.some (.inr ⟨rfl,by simpa using h⟩)
    ·exact aj.some (.inl ⟨rfl,by simpa using h⟩)
  ·rintro o (⟨rfl,h⟩ | ⟨rfl,h⟩)
   ·refine aj.some (.inl ⟨rfl,?_⟩)
    unfold gV at hI ⊢
    rw [List.all_append,hI]
    simp only [List.all_cons,List.all_nil,h]; rfl
   ·refine aj.some (.inr ⟨_,rfl,.inr ⟨rfl,?_⟩⟩)
    unfold gV
    rw [List.all_eq_false]
    exact ⟨x,by rw [e]; simp,by rw [h]; simp⟩
 ·rintro o (⟨rfl,h⟩ | ⟨rfl,h⟩)
  ·exact aj.some h.symm
  ·exact aj.some h.symm
theorem nT {old:List de} {b:List Int} {s:List de} (hb:b.length < 2000) (ho:old.length ≤ 1000) (hl:s.length = b.length) (h:∀ x ∈ b,0 ≤ x ∧ x < old.length):bH 2000 old b s = some (js old b s):=by
 refine aj.eq ?_
 unfold bH
 refine aj.aC (x:=old) (by rw [ix (by simp only [List.length_nil]; omega)]; rfl) (aj.bind ?_ fun o ho=>aj.some ho)
 refine aj.qF (I:=fun pre o=>o = js old pre (s.take pre.length)) hb (by omega) (by simp [js]) ?_ fun o h=>by rw [h,← hl,List.take_length]
 rintro pre x post o e hx rfl
 obtain ⟨g1,g2⟩:=h x (by rw [e]; simp)
 have hpl:pre.length < b.length:=by rw [e]; simp
 have hsl:pre.length < s.length:=by omega
 have es:js old (pre ++ [x]) (s.take (pre ++ [x]).length) = m4 (js old pre (s.take pre.length)) (x,s[pre.length]):=by
  unfold js
  rw [List.length_append,List.length_singleton,List.take_succ_eq_append_getElem hsl,List.zip_append (by rw [List.length_take]; omega),List.foldl_append]
  rfl
 refine aj.bind (P:=fun o=>o = js old (pre ++ [x]) (s.take (pre ++ [x]).length)) ?_ fun o h=>aj.some (.inl ⟨_,rfl,h⟩)
 rw [es]
 have hll:=kU old pre (s.take pre.length)
 refine aj.aC hx (aj.idx g1 (by omega) (aj.ite (fun hc=>?_) fun hc=>?_))
 ·have hc:=of_decide_eq_true hc
  refine aj.aC hx (aj.idx (by omega) (by omega) (aj.idx g1 (by omega) (aj.some ?_)))
  unfold m4; rw [if_pos hc,lP _ _ hsl]
 ·have hc:=of_decide_eq_false hc
  refine aj.some ?_
  unfold m4; rw [if_neg hc]
theorem tX {r:Round} (hh:r.Home.length ≤ 40) (h1:r.Sets.length ≤ 800) (h2:r.Sets.flatten.length ≤ 800) (hs:n9 r.Home r.Sets) (hst:r.States.length = r.Home.length) :
  cC 2000 r = some ⟨{ r with Tasks:=rh r.Home r.Sets,Done:=List.replicate (rh r.Home r.Sets).length false },fg r (rh r.Home r.Sets),0⟩:=by
 refine aj.eq ?_
 unfold cC
 refine aj.aC (wY hh h1 h2 hs) ?_
 have hl:=qZ hh h1 h2 hs
 refine aj.aC (x:=List.replicate (rh r.Home r.Sets).length false) (by unfold mk?; rw [if_pos (by omega)]; rfl) ?_
 refine aj.bind (P:=(· = fg r (rh r.Home r.Sets))) ?_ fun o ho=>by rw [ho]; exact aj.ln (aj.some rfl)
 refine aj.qF (I:=fun pre s=>s = fg r pre) (by omega) (by omega) (by simp [fg]) ?_ fun s h=>h
 rintro pre t post s e hx rfl
 have ht:t ∈ rh r.Home r.Sets:=by rw [e]; simp
 obtain ⟨b1,b2,_⟩:=qY hh h1 h2 hs ht
 have hpl:pre.length < (rh r.Home r.Sets).length:=by rw [e]; simp
 have hll:(fg r pre).length ≤ pre.length:=List.length_filterMap_le _ _
 refine aj.bind (P:=fun s=>s = fg r (pre ++ [t])) ?_ fun s h=>aj.some (.inl ⟨_,rfl,h⟩)
 have el:fg r (pre ++ [t]) = fg r pre ++ (l4 r t).toList:=by
  unfold fg; rw [List.filterMap_append]
  cases hlt:l4 r t <;> simp [hlt]
 rw [el]
 refine aj.aC hx (aj.aC (sZ (by omega) fun b hb=>⟨(b1 b hb).1,(b1 b hb).2.1⟩) ?_)
 refine aj.ln (aj.ite (fun hc=>?_) fun hc=>?_)
 ·have hc':t.Owner ≠ r.Me ∧ 0 < (lL r.Home t.Bodies r.Me).length:=by
   simp only [Bool.and_eq_true,decide_eq_true_eq] at hc
   exact ⟨hc.1,by omega⟩
  have hol:=lO r.Home t.Bodies r.Me
  refine aj.aC (pe (s:=r.States) (l:=lL r.Home t.Bodies r.Me) (by omega) fun b hb=>?_) (aj.app (by simp only [List.length_singleton]; omega) (aj.some ?_))
  ·have:=b1 b (od.1 hb).1
   exact ⟨this.1,by omega⟩
  ·unfold l4; rw [if_pos hc']; simp
 ·have hc':¬ (t.Owner ≠ r.Me ∧ 0 < (lL r.Home t.Bodies r.Me).length):=by
   intro h
   simp only [Bool.and_eq_false_iff,decide_eq_false_iff_not] at hc
   rcases hc with hc | hc
   ·exact hc h.1
   ·exact hc (by omega)
  refine aj.some ?_
  unfold l4; rw [if_neg hc']; simp
theorem xl {me regions step:Int} {home:List Int} {sets:List (List Int)} {states:List de} (hh:home.length ≤ 40) (h1:sets.length ≤ 30) (h2:∀ c ∈ sets,c.length ≤ 8) :
  (¬ Valid me regions step home sets states → bW 2000 me regions step home sets states = some ⟨oL,[],1⟩) ∧
  (Valid me regions step home sets states → bW 2000 me regions step home sets states = some ⟨(my (gT me regions step home sets states) (b8 me step sets regions.toNat)).1,(my (gT me regions step home sets states) (b8 me step sets regions.toNat)).2,0⟩):=by
 have hfl:=sr h2
 have main:aj (bW 2000 me regions step home sets states) fun z=>(z = ⟨oL,[],1⟩ ∧ ¬ Valid me regions step home sets states) ∨ (Valid me regions step home sets states ∧ z = ⟨(my (gT me regions step home sets states) (b8 me step sets regions.toNat)).1,(my (gT me regions step home sets states) (b8 me step sets regions.toNat)).2,0⟩):=by
  unfold bW
  by_cases c1:(1 ≤ regions ∧ regions ≤ 16) ∧ (0 ≤ me ∧ me < regions) ∧ 0 ≤ step
  rotate_left
  ·have e:(((((decide (regions < 1)) || (decide (16 < regions))) || (decide (me < 0))) || (decide (regions ≤ me))) || (decide (step < 0))) = true:=by
    simp only [Bool.or_eq_true,decide_eq_true_eq]
    omega
   refine aj.ln ?_
   rw [e]
   refine aj.g0 rfl (aj.qX true rfl (aj.g0 rfl (aj.qX true rfl (aj.nw rfl (aj.some (.inl ⟨rfl,fun hv=>c1 ⟨hv.1,hv.2.1,hv.2.2.1⟩⟩))))))
  obtain ⟨r1,r2,r3⟩:=c1
  have e:(((((decide (regions < 1)) || (decide (16 < regions))) || (decide (me < 0))) || (decide (regions ≤ me))) || (decide (step < 0))) = false:=by
   simp only [Bool.or_eq_false_iff,decide_eq_false_iff_not]
   omega
  refine aj.ln ?_
  rw [e]
  refine aj.g1 rfl (aj.bind (xh (by omega)) fun q1 hq1=>?_)
  refine aj.ln ?_
  cases q1 with
  | false=>exact aj.g0 rfl (aj.qX true rfl (aj.nw rfl (aj.some (.inl ⟨rfl,fun hv=>by simpa using hq1.2 hv.2.2.2.1⟩))))
  | true=>
  refine aj.g1 rfl (aj.bind (sH (by omega) fun c hc=>by have:=h2 c hc; omega) fun q2 hq2=>?_)
  cases q2 with
  | false=>exact aj.qX true rfl (aj.nw rfl (aj.some (.inl ⟨rfl,fun hv=>by simpa using hq2.2 hv.2.2.2.2.1⟩)))
  | true=>
  have hH:=hq1.1 rfl
  have hS:=hq2.1 rfl
  by_cases hlen:states.length = home.length
  rotate_left
  ·exact aj.qX true (by rw [decide_eq_true (by omega:(states.length:Int) ≠ home.length)]; rfl) (aj.nw rfl (aj.some (.inl ⟨rfl,fun hv=>hlen hv.2.2.2.2.2.1⟩)))
  refine aj.qX false (by rw [decide_eq_false (by omega:¬ (states.length:Int) ≠ home.length)]; rfl) (aj.iff rfl ?_)
  refine aj.bind (P:=fun o:Unit ⊕ Step=>(o = .inl () ∧ ∀ b:Nat,b < home.length → (idx states (b:Int) ≠ [] ↔ idx home (b:Int) = me)) ∨ (o = .inr ⟨oL,[],1⟩ ∧ ¬ ∀ b:Nat,b < home.length → (idx states (b:Int) ≠ [] ↔ idx home (b:Int) = me))) ?_ ?_
  ·refine aj.wL (fun pre=>∀ b:Nat,b < pre.length → (idx states (b:Int) ≠ [] ↔ idx home (b:Int) = me)) (by omega) (by omega) (by simp) (fun pre x post e hx hI=>?_) fun h=>.inl ⟨rfl,h⟩
   have hpl:pre.length < home.length:=by rw [e]; simp
   have ex:=sn hx
   refine aj.idx (by omega) (by omega) (aj.aC hx (aj.ite (fun hc=>?_) fun hc=>?_))
   ·refine aj.some (.inr ⟨_,rfl,.inr ⟨rfl,fun hh=>?_⟩⟩)
    have:=hh pre.length hpl
    rw [ex] at this
    have e2:decide (idx states (pre.length:Int) ≠ []) = decide (x = me):=decide_eq_decide.2 this
    rw [e2] at hc
    simp at hc
   ·refine aj.some (.inl ⟨rfl,fun b hb=>?_⟩)
    by_cases hbp:b < pre.length
    ·exact hI b hbp
    ·have:b = pre.length:=by simp at hb; omega
     subst this
     rw [ex]
     have e2:decide (idx states (pre.length:Int) ≠ []) = decide (x = me):=bne_eq_false_iff_eq.1 hc
     exact decide_eq_decide.1 e2
  ·rintro o (⟨rfl,hst⟩ | ⟨rfl,hst⟩)
   rotate_left
   ·exact aj.some (.inl ⟨rfl,fun hv=>hst hv.2.2.2.2.2.2⟩)
   have hz:Sz sets:=⟨by omega,by omega⟩
   obtain ⟨f1,f2⟩:=j4 hz hS
   have hv:Valid me regions step home sets states:=⟨r1,r2,r3,hH,hS,hlen,hst⟩
   refine aj.aC (x:=List.replicate regions.toNat false) (by unfold mk?; rw [if_pos (by omega)]) (aj.aC (iX hz).1 ?_)
   refine aj.aC (x:=List.replicate home.length []) (by unfold mk?; rw [if_pos (by omega)]; rfl) (aj.idx r2.1 (by simp; omega) ?_)
   refine aj.bind (P:=(· = b8 me step sets regions.toNat)) ?_ ?_
   ·refine aj.rounds (n:=regions.toNat) (I:=fun k s=>k ≤ regions.toNat ∧ s = (b8 me step sets k,(k:Int))) (by omega) ⟨by omega,by simp [b8]⟩ ?_
    rintro k s hk ⟨_,rfl⟩
    have hbl:(b8 me step sets k).length ≤ k:=by
     unfold b8; rw [List.length_map]; refine Nat.le_trans (List.length_filter_le _ _) (by simp)
    refine aj.ite (fun hc=>?_) fun hc=>?_
    ·have hc:(k:Int) < regions:=of_decide_eq_true hc
     refine aj.bind (P:=(· = b8 me step sets (k + 1))) ?_ ?_
     ·have eb:b8 me step sets (k + 1) = b8 me step sets k ++ if decide ((k:Int) ≠ me) then [⟨1,step,me,(k:Int),mg sets,[],[]⟩] else []:=by
       unfold b8
       rw [List.range_succ,List.filter_append,List.map_append]
       simp only [List.filter_cons,List.filter_nil]
       split <;> rfl
      rw [eb]
      refine aj.ite (fun h=>?_) fun h=>?_
      ·refine aj.ln (aj.app (by simp only [List.length_singleton]; omega) (aj.some ?_))
       rw [h]; rfl
      ·refine aj.some ?_
       rw [h]; simp
     ·rintro _ rfl
      refine aj.some (.inl ⟨_,rfl,⟨by omega,?_⟩,by omega⟩)
      simp only
      rw [oM (by omega) (by omega)]; push_cast; rfl
    ·have hc:¬ (k:Int) < regions:=of_decide_eq_false hc
     have:k = regions.toNat:=by omega
     subst this
     exact aj.some (.inr ⟨_,rfl,rfl⟩)
   ·rintro _ rfl
    refine aj.ite (fun hc=>?_) fun hc=>?_
    ·have hc:=of_decide_eq_true hc
     refine aj.ln (aj.some (.inr ⟨hv,?_⟩))
     have hw:whole (gT me regions step home sets states).Heard = false:=by
      obtain ⟨j,hj0,hj1,hjm⟩:∃ j:Int,0 ≤ j ∧ j < regions ∧ j ≠ me:=by
       by_cases h:me = 0
       ·exact ⟨1,by omega,hc,by omega⟩
       ·exact ⟨0,by omega,by omega,by omega⟩
      cases hw:whole (gT me regions step home sets states).Heard with
      | false=>rfl
      | true=>
       have hlen':((gT me regions step home sets states).Heard.length:Int) = regions:=by show ((((List.replicate regions.toNat false).set me.toNat true).length:Nat):Int) = regions; simp; omega
       have h1:=w_idx hw hj0 (by rw [hlen']; exact hj1)
       have h2:idx (gT me regions step home sets states).Heard j = false:=by
        show idx ((List.replicate regions.toNat false).set me.toNat true) j = false
        rw [idx_set r2.1 (by simp; omega) hj0,if_neg hjm,idx_rep hj0 (by omega)]
       rw [h2] at h1; cases h1
     unfold my
     rw [hw]; rfl
    ·have hc:=of_decide_eq_false hc
     have hr1:regions = 1:=by omega
     have hm0:me = 0:=by omega
     refine aj.ln (aj.aC (tX (r:=gT me regions step home sets states) hh (by show (mg sets).length ≤ 800; omega) (by show (mg sets).flatten.length ≤ 800; omega) (kv hz hS) hlen) (aj.some (.inr ⟨hv,?_⟩)))
     have hw:whole (gT me regions step home sets states).Heard = true:=by
      show whole ((List.replicate regions.toNat false).set me.toNat true) = true
      rw [hr1,hm0]; rfl
     have hb:b8 me step sets regions.toNat = []:=by
      unfold b8; rw [hr1,hm0]; rfl
     unfold my
     rw [hw,hb]; rfl
 obtain ⟨z,ez,hz⟩:=main
 rcases hz with ⟨rfl,hn⟩ | ⟨hv,rfl⟩
 ·exact ⟨fun _=>ez,fun hv=>absurd hv hn⟩
 ·exact ⟨fun hn=>absurd hv hn,fun _=>ez⟩
theorem iE (l:aI) (g:Int) (r:Round):isFull l g r = ((decide ((l.Sets.length:Int) = 0) && (decide (l.States.length = l.Bodies.length) && !(l.States.contains []))) && (lz r.Home [l.Bodies] && decide ((lL r.Home l.Bodies g).length = l.Bodies.length))):=by
 unfold isFull
 have e1:decide ((l.Sets.length:Int) = 0) = decide (l.Sets.length = 0):=decide_eq_decide.2 (by omega)
 rw [e1]
 simp only [Bool.and_assoc]
theorem yL {l:aI} {r:Round} (w:Wf r) (k:Lk l) (hbig:big l = (decide (0 < (l.Bodies.length:Int)) || decide (0 < (l.States.length:Int)))):c6 2000 r l = some ⟨(sX r l).1,(sX r l).2,0⟩:=by
 refine aj.eq ?_
 unfold c6 sX
 refine aj.ln (aj.qX (ours r l) rfl (aj.ite (fun h=>aj.some (by rw [h]; simp)) fun h=>?_))
 rw [h]
 simp only [Bool.false_eq_true,if_false]
 obtain ⟨f0,f1,_⟩:=sI h
 have hhl:=w.heard; have hrg:=w.reg; have ks:=k.s; have kb:=k.b; have hst:=w.st; have hre:=w.re; have hll:=w.hl; have hsl:=w.sl
 by_cases k1:l.Kind = 1
 ·simp only [k1,decide_true,if_true]
  have hz:=ov w k
  refine aj.bind (P:=fun o:Round ⊕ Step=>o = .inr ⟨(iQ r l).1,(iQ r l).2,0⟩ ∨ (o = .inl (iQ r l).1 ∧ (iQ r l).2 = [])) ?_ ?_
  rotate_left
  ·rintro o (rfl | ⟨rfl,h⟩)
   ·exact aj.some rfl
   ·exact aj.some (by rw [h])
  refine aj.idx f0 (by omega) (aj.ln ?_)
  unfold iQ
  rw [hbig,Bool.or_assoc]
  cases hc:(idx r.Heard l.From || (decide (0 < (l.Bodies.length:Int)) || decide (0 < (l.States.length:Int)))) with
  | true=>exact aj.g0 rfl (aj.nw rfl (aj.some (.inl (by simp))))
  | false=>
  refine aj.g1 rfl (aj.aC (vy (by omega) fun c hc=>by have:=k.c c hc; omega) ?_)
  cases hb:lz r.Home l.Sets with
  | false=>exact aj.nw rfl (aj.some (.inl (by simp)))
  | true=>
  have hsd:n9 r.Home (r.Sets ++ l.Sets):=hY w.sets (gn.1 hb)
  obtain ⟨f1',f2'⟩:=j4 hz hsd
  refine aj.iff rfl (aj.aC (x:=r.Heard) (by rw [ix (by simp only [List.length_nil]; omega)]; rfl) (aj.idx f0 (by omega) ?_))
  refine aj.aC (x:=r.Sets) (by rw [ix (by simp only [List.length_nil]; omega)]; rfl) (aj.app (by omega) (aj.aC (iX hz).1 ?_))
  refine aj.aC (xv (by rw [List.length_set]; omega)) (aj.ite (fun hw=>?_) fun hw=>?_)
  ·refine aj.ln (aj.aC (tX (r:={ r with Heard:=r.Heard.set l.From.toNat true,Sets:=mg (r.Sets ++ l.Sets) }) w.hl (by simp only; omega) (by simp only; omega) (kv hz hsd) w.st) (aj.some (.inl ?_)))
   simp only [my,hw,Bool.false_or,Bool.not_true,Bool.false_eq_true,if_false,if_true,List.nil_append]
  ·refine aj.some (.inr ?_)
   simp only [my,hw,Bool.false_or,Bool.not_true,Bool.false_eq_true,if_false,and_self]
 by_cases k2:l.Kind = 2
 ·have n1:¬ (2:Int) = 1:=by decide
  simp only [k2,decide_true,if_true,n1,decide_false,Bool.false_eq_true,if_false]
  refine aj.bind (P:=fun o:Round ⊕ Step=>o = .inl (jQ r l)) ?_ (fun o ho=>by rw [ho]; exact aj.some rfl)
  unfold jQ
  rw [iE]
  cases c1:decide ((l.Sets.length:Int) = 0) with
  | false=>exact aj.g0 rfl (aj.g0 rfl (aj.iff rfl (aj.some rfl)))
  | true=>
  refine aj.g1 rfl (aj.aC (pO (by omega)) ?_)
  cases c2:(decide (l.States.length = l.Bodies.length) && !(l.States.contains [])) with
  | false=>exact aj.g0 rfl (aj.iff rfl (aj.some rfl))
  | true=>
  refine aj.g1 rfl (aj.aC (sM (by omega)) ?_)
  cases c3:(lz r.Home [l.Bodies] && decide ((lL r.Home l.Bodies l.From).length = l.Bodies.length)) with
  | false=>exact aj.iff rfl (aj.some rfl)
  | true=>
  have hf:isFull l l.From r = true:=by rw [iE,c1,c2,c3]; rfl
  obtain ⟨h1,h2,h3,h4⟩:=nc.1 hf
  refine aj.nw rfl (aj.aC (nT (by omega) (by omega) h2 fun x hx=>?_) (aj.some rfl))
  have:=h4 x hx; omega
 by_cases k3:l.Kind = 3
 ·have n1:¬ (3:Int) = 1:=by decide
  have n2:¬ (3:Int) = 2:=by decide
  simp only [k3,decide_true,if_true,n1,n2,decide_false,Bool.false_eq_true,if_false]
  refine aj.bind (P:=fun o:Round ⊕ Step=>o = .inl (jl r l)) ?_ (fun o ho=>by rw [ho]; exact aj.some rfl)
  unfold jl
  have hT:=w.sV
  cases c1:decide ((l.Sets.length:Int) = 0) with
  | false=>exact aj.g0 rfl (aj.g0 rfl (aj.g0 rfl (aj.qX false rfl (aj.g0 rfl (aj.iff rfl (aj.some (by rw [iE,c1]; rfl)))))))
  | true=>
  refine aj.g1 rfl (aj.aC (pO (by omega)) ?_)
  cases c2:(decide (l.States.length = l.Bodies.length) && !(l.States.contains [])) with
  | false=>exact aj.g0 rfl (aj.g0 rfl (aj.qX false rfl (aj.g0 rfl (aj.iff rfl (aj.some (by rw [iE,c1,c2]; rfl))))))
  | true=>
  refine aj.g1 rfl (aj.aC (sM (by omega)) ?_)
  cases c3:(lz r.Home [l.Bodies] && decide ((lL r.Home l.Bodies r.Me).length = l.Bodies.length)) with
  | false=>exact aj.g0 rfl (aj.qX false rfl (aj.g0 rfl (aj.iff rfl (aj.some (by rw [iE,c1,c2,c3]; rfl)))))
  | true=>
  have hf:isFull l r.Me r = true:=by rw [iE,c1,c2,c3]; rfl
  obtain ⟨h1,h2,h3,h4⟩:=nc.1 hf
  refine aj.g1 rfl (aj.aC (xv (by omega)) ?_)
  cases c4:whole r.Heard with
  | false=>exact aj.qX false rfl (aj.g0 rfl (aj.iff rfl (aj.some (by rw [hf]; rfl))))
  | true=>
  refine aj.qX true rfl (aj.g1 rfl (aj.aC (vp (by omega) (by omega) fun t ht=>by have:=(w.task ht).2.1; omega) ?_))
  cases c5:gV r.Tasks l.Bodies l.From with
  | false=>exact aj.iff rfl (aj.some (by rw [hf]; rfl))
  | true=>
  refine aj.nw rfl (aj.aC (nT (by omega) (by omega) h2 fun x hx=>?_) (aj.some (by rw [hf]; rfl)))
  have:=h4 x hx; omega
 ·simp only [k1,k2,k3,decide_false,Bool.false_eq_true,if_false]
  exact aj.some rfl
theorem qP {r:Round} {k:Int} (w:Wf r) (h0:0 ≤ k) (h1:k < r.Tasks.length):bV 2000 r k = some (fS r k):=by
 refine aj.eq ?_
 unfold bV fS
 have ht:=w.task (kE h0 h1)
 have hd:=w.dn; have hst:=w.st
 refine aj.idx h0 h1 ?_
 cases decide ((idx r.Tasks k).Owner = r.Me) with
 | false=>exact aj.g0 rfl (aj.g0 rfl (aj.g0 rfl (aj.some rfl)))
 | true=>
 refine aj.g1 rfl (aj.idx h0 (by omega) ?_)
 cases idx r.Done k with
 | true=>exact aj.g0 rfl (aj.g0 rfl (aj.some rfl))
 | false=>
  refine aj.g1 rfl (aj.aC (pe (by omega) fun b hb=>by have:=ht.1 b hb; omega) (aj.g1 rfl (aj.aC (pO (by omega)) (aj.some ?_))))
  simp [pick]
theorem wZ {r:Round} (w:Wf r):cN 2000 r = some (ku r):=by
 refine aj.eq ?_
 unfold cN
 have hT:=w.sV
 refine aj.bind ?_ fun o ho=>aj.some ho
 refine aj.qF (I:=fun pre s=>s = ((List.range pre.length).filter fun k:Nat=>fS r k).map fun k:Nat=>(k:Int)) (by omega) (by omega) rfl ?_ fun s h=>h
 rintro pre t post s e hx rfl
 have hpl:pre.length < r.Tasks.length:=by rw [e]; simp
 refine aj.bind (P:=fun s=>s = ((List.range (pre ++ [t]).length).filter fun k:Nat=>fS r k).map fun k:Nat=>(k:Int)) ?_ fun s h=>aj.some (.inl ⟨_,rfl,h⟩)
 rw [List.length_append,List.length_singleton,nX]
 refine aj.aC (qP w (by omega) (by omega)) (aj.ite (fun h=>?_) fun h=>?_)
 ·refine aj.app ?_ (aj.some (by rw [h]; rfl))
  have:=List.length_filter_le (fun k:Nat=>fS r k) (List.range pre.length)
  simp only [List.length_range] at this
  simp only [List.length_map,List.length_singleton]; omega
 ·exact aj.some (by rw [h]; simp)
theorem yN {r:Round}:(w:Wf r) → bP 2000 r = cy 2000 r:=fun w=>by
 have e:∀ (l:List Bool),l.length < 2000 → (Option.bind (bK 2000 l) fun x=>some x) = Option.bind (cB 2000 l false) fun x=>some (!x):=fun l hl=>by
  rw [xv hl,kJ hl]; simp
 unfold bP cy
 rw [e r.Heard (by have:=w.heard; have:=w.reg; omega)]
theorem fin_ref {r:Round} (w:Wf r):bP 2000 r = some (finB r):=by rw [yN w,wD w]
theorem vP {r:Round} {k:Int} {states:List de} (w:Wf r):cF 2000 r k states = some ⟨(answer r k states).1,(answer r k states).2.1,(answer r k states).2.2⟩:=by
 refine aj.eq ?_
 unfold cF answer
 have hT:=w.sV; have hd:=w.dn; have hl:=w.hl; have hre:=w.re
 refine aj.ln ?_
 cases hc:(decide (k < 0) || decide ((r.Tasks.length:Int) ≤ k)) with
 | true=>exact aj.nw rfl (aj.some (by simp))
 | false=>
 simp only [Bool.or_eq_false_iff,decide_eq_false_iff_not] at hc
 have h0:0 ≤ k:=by omega
 have h1:k < r.Tasks.length:=by omega
 have ht:=w.task (kE h0 h1)
 refine aj.iff rfl (aj.idx h0 h1 (aj.idx h0 (by omega) ?_))
 cases hdk:idx r.Done k with
 | true=>exact aj.nw rfl (aj.some (by simp))
 | false=>
 refine aj.iff rfl (aj.aC (qP w h0 h1) ?_)
 cases hrk:fS r k with
 | false=>exact aj.nw rfl (aj.some (by simp))
 | true=>
 refine aj.iff rfl ?_
 generalize idx r.Tasks k = t at ht
 refine aj.aC (pO (by omega)) ?_
 by_cases hln:states.length = t.Bodies.length
 rotate_left
 ·exact aj.nw (by rw [decide_eq_false hln]; rfl) (aj.some (by rw [decide_eq_true hln]; simp))
 cases hcs:states.contains [] with
 | true=>exact aj.nw (by rw [decide_eq_true hln]; rfl) (aj.some (by simp))
 | false=>
 refine aj.iff (by rw [decide_eq_true hln]; rfl) ?_
 refine aj.aC (x:=List.replicate r.Home.length []) (by unfold mk?; rw [if_pos (by omega)]; rfl) ?_
 refine aj.aC (x:=jg r t states) (nT (by omega) (by simp; omega) hln fun x hx=>by have:=ht.1 x hx; simp; omega) ?_
 have hal:(jg r t states).length = r.Home.length:=by unfold jg; rw [kU]; simp
 refine aj.aC (x:=r.Done) (by rw [ix (by simp only [List.length_nil]; omega)]; rfl) (aj.idx h0 (by omega) ?_)
 refine aj.aC (sZ (by omega) fun b hb=>⟨(ht.1 b hb).1,(ht.1 b hb).2.1⟩) (aj.aC (x:=r.Results) (by rw [ix (by simp only [List.length_nil]; omega)]; rfl) ?_)
 have hol:=lO r.Home t.Bodies r.Me
 refine aj.bind (P:=(· = (lL r.Home t.Bodies r.Me).foldl (sW (jg r t states)) r.Results)) ?_ ?_
 ·refine aj.qF (I:=fun pre o=>o = pre.foldl (sW (jg r t states)) r.Results) (by omega) (by omega) rfl ?_ fun s h=>h
  rintro pre b post o e hb rfl
  have hbm:b ∈ t.Bodies:=(od.1 (show b ∈ lL r.Home t.Bodies r.Me by rw [e]; simp)).1
  obtain ⟨g1,g2,_⟩:=ht.1 b hbm
  have hpl:=q8 (jg r t states) pre r.Results
  exact aj.aC hb (aj.aC hb (aj.idx g1 (by omega) (aj.idx g1 (by omega) (aj.some (.inl ⟨_,rfl,by rw [List.foldl_append]; rfl⟩)))))
 ·rintro _ rfl
  refine aj.bind (P:=(· = t.Helpers.map (kD r t (jg r t states)))) ?_ ?_
  ·refine aj.qF (I:=fun pre o=>o = pre.map (kD r t (jg r t states))) (by omega) (by omega) rfl ?_ fun s h=>h
   rintro pre g post o e hg rfl
   have hpl:pre.length < t.Helpers.length:=by rw [e]; simp
   have hol:=lO r.Home t.Bodies g
   refine aj.aC hg (aj.aC (sZ (by omega) fun b hb=>⟨(ht.1 b hb).1,(ht.1 b hb).2.1⟩) (aj.aC hg (aj.aC (pe (l:=lL r.Home t.Bodies g) (by omega) fun b hb=>?_) (aj.app (by simp only [List.length_map,List.length_singleton]; omega) (aj.some (.inl ⟨_,rfl,?_⟩))))))
   ·have:=ht.1 b (od.1 hb).1; omega
   ·rw [List.map_append]; rfl
  ·rintro _ rfl
   refine aj.ln (aj.some ?_)
   simp only [hln,ne_eq,not_true_eq_false,decide_false,Bool.or_self,Bool.false_eq_true,Bool.not_true,if_false]
structure tH (l:List aI):Prop where
 len:l.length ≤ 1000
 each:∀ n ∈ l,n.Sets.length ≤ 1000 ∧ (∀ c ∈ n.Sets,c.length ≤ 1000) ∧ n.Bodies.length ≤ 1000 ∧ n.States.length ≤ 1000
theorem ng {l:List aI} (h:tH l):bB 2000 l l = some true:=by
 refine aj.eq ?_
 unfold bB
 have hl:=h.len
 refine aj.iff (by simp) (aj.bind (P:=(· = .inl ())) ?_ (fun o ho=>by rw [ho]; exact aj.some rfl))
 refine aj.pass (by omega) (by omega) (by omega) (fun k h1 h2=>?_) rfl
 refine aj.eq ?_
 have e:=iv (xs:=l) h1 h2
 obtain ⟨g1,g2,g3,g4⟩:=h.each _ (kE h1 h2)
 refine aj.aC e (aj.aC e (aj.qX false (by simp) (aj.qX false (by simp) ?_)))
 exact aj.g1 rfl (aj.aC (we g1 g2) (aj.g1 rfl (aj.aC (ob g3) (aj.g1 rfl (aj.aC (ru g4) (aj.iff rfl (aj.some rfl)))))))
theorem kZ:tH []:=⟨by simp,by simp⟩
theorem wk {r:Round} {out:List aI} (hh:r.Home.length ≤ 40) (h1:r.Sets.length ≤ 40) (h2:r.Sets.flatten.length ≤ 40) (hs:n9 r.Home r.Sets) (ho:tH out) (hol:out.length ≤ 100):tH (my r out).2:=by
 unfold my
 split
 ·have hT:=qZ hh (by omega) (by omega) hs
  refine ⟨?_,fun n hn=>?_⟩
  ·have:(fg r (rh r.Home r.Sets)).length ≤ _:=List.length_filterMap_le _ _
   simp only [List.length_append]; omega
  ·rcases List.mem_append.1 hn with hn | hn
   ·exact ho.each n hn
   ·obtain ⟨t,ht,e⟩:=List.mem_filterMap.1 hn
    have:=(qY hh (by omega) (by omega) hs ht).2.1
    unfold l4 at e
    split at e
    ·cases e
     have:=lO r.Home t.Bodies r.Me
     refine ⟨by simp,by simp,by simp only; omega,by simp only [pick,List.length_map]; omega⟩
    ·cases e
 ·exact ho
theorem hear_lt {r:Round} {l:aI} (w:Wf r) (k:Lk l):tH (sX r l).2:=by
 unfold sX
 split
 ·exact kZ
 split
 ·unfold iQ
  split
  ·exact kZ
  ·next hc=>
   simp only [Bool.or_eq_true,Bool.not_eq_true',not_or,Bool.not_eq_true,Bool.not_eq_false] at hc
   have hz:=ov w k
   have hsd:n9 r.Home (r.Sets ++ l.Sets):=hY w.sets (gn.1 hc.2)
   obtain ⟨f1',f2'⟩:=j4 hz hsd
   have hl:=w.hl
   exact wk (r:={ r with Heard:=r.Heard.set l.From.toNat true,Sets:=mg (r.Sets ++ l.Sets) }) hl (by simp only; omega) (by simp only; omega) (kv hz hsd) kZ (by simp)
 split
 ·exact kZ
 split
 ·exact kZ
 ·exact kZ
theorem yS {me regions step:Int} {home:List Int} {sets:List (List Int)} {states:List de} (hh:home.length ≤ 40) (h1:sets.length ≤ 30) (h2:∀ c ∈ sets,c.length ≤ 8) (hv:Valid me regions step home sets states) :
  tH (my (gT me regions step home sets states) (b8 me step sets regions.toNat)).2:=by
 have hfl:=sr h2
 have hz:Sz sets:=⟨by omega,by omega⟩
 obtain ⟨r1,r2,r3,hH,hS,hlen,hst⟩:=hv
 obtain ⟨f1,f2⟩:=j4 hz hS
 have hbl:(b8 me step sets regions.toNat).length ≤ 16:=by
  unfold b8; rw [List.length_map]; refine Nat.le_trans (List.length_filter_le _ _) (by simp; omega)
 refine wk (r:=gT me regions step home sets states) hh (by show (mg sets).length ≤ 40; omega) (by show (mg sets).flatten.length ≤ 40; omega) (kv hz hS) ⟨by omega,fun n hn=>?_⟩ (by omega)
 obtain ⟨i,_,rfl⟩:=List.mem_map.1 hn
 exact ⟨by simp only; omega,fun c hc=>by have:c.length ≤ (mg sets).flatten.length:=wC hc; omega,by simp,by simp⟩
theorem xo {r:Round} {k:Int} {states:List de} (w:Wf r):tH (answer r k states).2.1:=by
 unfold answer
 split
 ·exact kZ
 split
 ·exact kZ
 split
 ·exact kZ
 split
 ·exact kZ
 ·next c1 _ _ _=>
  simp only [Bool.or_eq_true,decide_eq_true_eq,not_or] at c1
  have ht:=w.task (kE (l:=r.Tasks) (i:=k) (by omega) (by omega))
  refine ⟨by simp only [List.length_map]; omega,fun n hn=>?_⟩
  obtain ⟨g,_,rfl⟩:=List.mem_map.1 hn
  have:=lO r.Home (idx r.Tasks k).Bodies g
  exact ⟨by simp [kD],by simp [kD],by simp only [kD]; omega,by simp only [kD,pick,List.length_map]; omega⟩
theorem sy:bo 2000 oL oL = some true:=by decide +kernel
theorem vw (r:Round):(ku r).length ≤ r.Tasks.length:=by
 unfold ku; rw [List.length_map]; refine Nat.le_trans (List.length_filter_le _ _) (by simp)
theorem big_eq {l:aI} (hb:l.Bodies.length ≤ 40) (hs:l.States.length ≤ 1000000000):big l = (decide (0 < (l.Bodies.length:Int)) || decide (0 < (l.States.length:Int))):=by
 unfold big
 rw [oM (by omega) (by omega)]
 by_cases h1:0 < (l.Bodies.length:Int)
 ·rw [decide_eq_true h1,decide_eq_true (by omega)]; rfl
 ·rw [decide_eq_false h1]
  by_cases h2:0 < (l.States.length:Int)
  ·rw [decide_eq_true h2,decide_eq_true (by omega)]; rfl
  ·rw [decide_eq_false h2,decide_eq_false (by omega)]; rfl
theorem uD {r:Round} {k:Int} {states:List de} (h:(answer r k states).2.2 ≠ 0):(answer r k states).1 = oL:=by
 unfold answer at h ⊢
 split
 ·rfl
 ·next c1=>
  rw [if_neg c1] at h
  split
  ·rfl
  ·next c2=>
   rw [if_neg c2] at h
   split
   ·rfl
   ·next c3=>
    rw [if_neg c3] at h
    split
    ·rfl
    ·next c4=>rw [if_neg c4] at h; exact absurd rfl h
theorem vt (me regions step:Int) (home:List Int) (sets:List (List Int)) (states:List de) (l:List r9)
  (h1:sets.length ≤ 9223372036854775807) (h3:∀ y ∈ l,y.L.Sets.length ≤ 9223372036854775807) (h4:∀ y ∈ l,y.L.States.length ≤ 1000000000) (h5:∀ y ∈ l,y.States.length ≤ 9223372036854775807) {F:Nat} (hF:2000 ≤ F) (f1:sets.length < F) (f3:∀ y ∈ l,y.L.Sets.length < F) :
  b9 F me regions step home sets states l = some true:=by
 refine aj.eq ?_
 unfold b9
 have hsan:=yr hF
 by_cases hh:home.length ≤ 20
 rotate_left
 ·have e:decide (20 < (home.length:Int)) = true:=decide_eq_true (by omega)
  rw [e]
  exact aj.g0 rfl (aj.ln (aj.nw (by simp) (aj.aC hsan (aj.some rfl))))
 have e:decide (20 < (home.length:Int)) = false:=decide_eq_false (by omega)
 rw [e]
 refine aj.g1 rfl (aj.bind (few_F f1 h1) fun q hq=>?_)
 cases q with
 | false=>exact aj.ln (aj.nw (by simp) (aj.aC hsan (aj.some rfl)))
 | true=>
 obtain ⟨s1,s2⟩:=hq rfl
 refine aj.ln ?_
 cases c2:(((false || !true) || decide (22 < (states.length:Int))) || decide (20 < (l.length:Int))) with
 | true=>exact aj.nw rfl (aj.aC hsan (aj.some rfl))
 | false=>
 simp only [Bool.not_true,Bool.or_false,Bool.false_or,Bool.or_eq_false_iff,decide_eq_false_iff_not] at c2
 refine aj.iff rfl ?_
 obtain ⟨z,ez,hz⟩:=xm (me:=me) (regions:=regions) (step:=step) (home:=home) (sets:=sets) (states:=states) (by omega) s1 s2
 obtain ⟨b1,b2⟩:=xl (me:=me) (regions:=regions) (step:=step) (home:=home) (sets:=sets) (states:=states) (by omega) s1 s2
 refine aj.aC (mP hF _ _ _ _ _ _ _ ez) ?_
 have hzs:=fe hF _ _ _ sy
 rcases hz with ⟨rfl,hn⟩ | ⟨hv,rfl⟩
 ·refine aj.aC (iT hF _ _ _ _ _ _ _ (b1 hn)) ?_
  refine aj.aC hzs (aj.g1 rfl (aj.aC (eP hF _ _ _ (ng kZ)) (aj.iff rfl (aj.nw rfl (aj.aC hsan (aj.some rfl))))))
 refine aj.aC (iT hF _ _ _ _ _ _ _ (b2 hv)) ?_
 have w0:=yR (out:=b8 me step sets regions.toNat) (by omega) s1 s2 hv
 have l0:=yS (by omega) s1 s2 hv
 generalize my (gT me regions step home sets states) (b8 me step sets regions.toNat) = p at w0 l0
 refine aj.aC (fe hF _ _ _ (rz w0)) (aj.g1 rfl (aj.aC (eP hF _ _ _ (ng l0)) (aj.iff rfl (aj.iff rfl ?_))))
 refine aj.bind (P:=fun o:Unit ⊕ Bool=>o = .inr true ∨ o = .inl ()) ?_ ?_
 ·refine aj.qF (I:=fun _ r=>Wf r) (by omega) (by omega) w0 ?_ fun r h=>.inr rfl
  rintro pre y post r e hy w
  have hym:y ∈ l:=by rw [e]; simp
  refine aj.bind (P:=fun o:Round ⊕ Bool=>o = .inr true ∨ ∃ r,o = .inl r ∧ Wf r) ?_ ?_
  ·refine aj.aC hy ?_
   by_cases hb:y.L.Bodies.length ≤ 20
   rotate_left
   ·have e:decide (20 < (y.L.Bodies.length:Int)) = true:=decide_eq_true (by omega)
    rw [e]
    exact aj.g0 rfl (aj.g0 rfl (aj.nw rfl (aj.aC hsan (aj.some (.inl rfl)))))
   have e:decide (20 < (y.L.Bodies.length:Int)) = false:=decide_eq_false (by omega)
   rw [e]
   refine aj.g1 rfl (aj.aC hy (aj.g1 rfl (aj.bind (few_F (f3 y hym) (h3 y hym)) fun q hq=>?_)))
   cases q with
   | false=>exact aj.nw rfl (aj.aC hsan (aj.some (.inl rfl)))
   | true=>
   have ky:Lk y.L:=lk_of (by omega) (hq rfl)
   refine aj.iff rfl ?_
   refine aj.bind (P:=fun z:List aI × Int × Round × Step=>z.2.2.2 = ⟨z.2.2.1,z.1,z.2.1⟩ ∧ tH z.1 ∧ bo 2000 z.2.2.1 z.2.2.1 = some true ∧ (z.2.1 = 0 → Wf z.2.2.1)) ?_ ?_
   ·refine aj.aC hy (aj.ite (fun ha=>?_) fun ha=>?_)
    ·refine aj.aC hy (aj.aC hy (aj.aC (lZ hF _ _ _ _ (vQ w (h5 y hym))) ?_))
     refine aj.aC hy (aj.aC hy (aj.aC (lG hF _ _ _ _ (vP w)) (aj.some ⟨rfl,xo w,?_,sU w⟩)))
     simp only
     by_cases h0:(answer r y.Task y.States).2.2 = 0
     ·exact rz (sU w h0)
     ·rw [uD h0]; exact sy
    ·refine aj.aC hy (aj.aC (nv hF _ _ _ (yM w ky)) ?_)
     exact aj.aC hy (aj.aC (mU hF _ _ _ (yL w ky (big_eq (by omega) (h4 y hym)))) (aj.some ⟨rfl,hear_lt w ky,rz (wB w ky),fun _=>wB w ky⟩))
   ·rintro ⟨out,e',next,x⟩ ⟨g0,g1,g2,g3⟩
    simp only at g0 g1 g2 g3 ⊢
    subst g0
    refine aj.aC (fe hF _ _ _ g2) (aj.g1 rfl (aj.aC (eP hF _ _ _ (ng g1)) (aj.iff (by simp) ?_)))
    refine aj.bind (P:=fun r=>Wf r) ?_ ?_
    ·refine aj.ite (fun h=>aj.some (g3 (of_decide_eq_true h))) fun h=>aj.some w
    ·intro r' w'
     have hrl:=vw r'
     have hT:=w'.sV
     refine aj.aC (mO hF _ _ (w2 w')) (aj.aC (mj hF _ _ (wZ w')) (aj.aC (dS hF _ _ _ (ob (by omega))) ?_))
     refine aj.g1 rfl (aj.aC (kB hF _ _ (wD w')) (aj.g1 rfl (aj.aC (kL hF _ _ (fin_ref w')) (aj.iff (by simp) (aj.some (.inr ⟨_,rfl,w'⟩))))))
  ·rintro o (rfl | ⟨r',rfl,w'⟩)
   ·exact aj.some (.inr ⟨_,rfl,.inl rfl⟩)
   ·exact aj.some (.inl ⟨_,rfl,w'⟩)
 ·rintro o (rfl | rfl)
  ·exact aj.some rfl
  ·exact aj.aC hsan (aj.some rfl)
end Go.Proofs.Ytnpddoaeoefcnaa
namespace Go.Proofs.Ytnpddoaeoefcnaa
open Go Go.Sk
set_option linter.unusedVariables false
abbrev vW (sets:List (List Int)) (l:List r9):Nat:=2001 + sets.length + (l.map fun y=>y.L.Sets.length).sum
theorem vu (me regions step:Int) (home:List Int) (sets:List (List Int)) (states:List de) (l:List r9)
  (h1:sets.length ≤ 9223372036854775807) (h2:∀ y ∈ l,y.L.Sets.length ≤ 9223372036854775807 ∧ y.L.States.length ≤ 1000000000 ∧ y.States.length ≤ 9223372036854775807):b9 (vW sets l) me regions step home sets states l = some true :=
 vt me regions step home sets states l h1 (fun y hy=>(h2 y hy).1) (fun y hy=>(h2 y hy).2.1) (fun y hy=>(h2 y hy).2.2) (by unfold vW; omega) (by unfold vW; omega) fun y hy=>by
  have:=xJ (fun y:r9=>y.L.Sets.length) hy
  unfold vW; omega
theorem act_len {h:PH} {v:Value} {l:List r9} (hv:(CP.sl 10 (l.map dC)).rel h v) {y:r9} (hy:y ∈ l) (hs:y.L.States.length ≤ 1000000000):y.L.Sets.length ≤ 9223372036854775807 ∧ y.L.States.length ≤ 1000000000 ∧ y.States.length ≤ 9223372036854775807:=by
 have h1:=sF (rH hv (List.mem_map.2 ⟨y,hy,rfl⟩) (p:=.sl 1 (y.L.Sets.map (eL 1 eI))) (by simp [dC,ah]))
 have h2:=sF (rH hv (List.mem_map.2 ⟨y,hy,rfl⟩) (p:=.sl 1 (y.States.map eS)) (by simp [dC]))
 exact ⟨by simpa using h1,hs,by simpa using h2⟩
theorem qi {H:Type}:∀ {l:List (DataW H)} {d:DataW H},d ∈ l → Rows.uptoBulk d ≤ Rows.uptoBulkAll l
 | a :: l,d,h=>by
  rw [Rows.uptoBulkAll]
  rcases List.mem_cons.1 h with rfl | h
  ·omega
  ·have:=qi h; omega
theorem sN {H:Type}:∀ (l:List (DataW H)),l.length ≤ Rows.uptoBulkAll l
 | []=>by simp
 | a :: l=>by
  rw [Rows.uptoBulkAll,List.length_cons]
  have:=sN l
  have:1 ≤ Rows.uptoBulk a:=by cases a with
   | lit x=>cases x <;> simp [Rows.uptoBulk]
   | _=>simp [Rows.uptoBulk]
  omega
theorem bulk_ok {H:Type}:xu (H:=H) Rows.uptoBulk where
 len els sp:=by rw [Rows.uptoBulk]; have:=sN els; omega
 sl els sp d hd:=by rw [Rows.uptoBulk]; have:=qi hd; omega
 agg ps d hd:=by rw [Rows.uptoBulk]; have:=qi hd; omega
theorem vO {H:Type} {ds:List (DataW H)} (h:Rows.uptoSmall H ds = true):Rows.uptoBulkAll ds ≤ 1048576:=of_decide_eq_true h
end Go.Proofs.Ytnpddoaeoefcnaa
namespace Go.Proofs.Ytnpddoaeoefcnaa
open Go Go.Sk
theorem vv (x0:Int) (x1:Int) (x2:Int) (x3:List Int) (x4:List (List Int)) (x5:List de) (x6:List r9) (hx4:x4.length ≤ 9223372036854775807) (hx6:∀ y ∈ x6,y.L.Sets.length ≤ 9223372036854775807 ∧ y.L.States.length ≤ 1000000000 ∧ y.States.length ≤ 9223372036854775807):aA Try.prog [] 3 [] [.one (.i x0),.one (.i x1),.one (.i x2),.one (.sl 1 (x3.map eI)),.one (.sl 1 (x4.map (eL 1 eI))),.one (.sl 1 (x5.map eS)),.one (.sl 10 (x6.map dC))] (Is [] (.b (.one (.bool true)))) :=
 gY (vu x0 x1 x2 x3 x4 x5 x6 hx4 hx6)
end Go.Proofs.Ytnpddoaeoefcnaa
