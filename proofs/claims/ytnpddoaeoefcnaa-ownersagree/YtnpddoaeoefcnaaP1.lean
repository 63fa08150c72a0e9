/- the plain law -/
import Derived.Test.YtnpddoaeoefcnaaW3
import Derived.Lib.SlicesCompact
namespace Go.Proofs.Ytnpddoaeoefcnaa
open Go Go.Sk
set_option maxRecDepth 100000
set_option linter.unusedVariables false
set_option linter.unusedSimpArgs false
def ug (x:Int):List Int → List Int
 | []=>[x]
 | y :: l=>if x ≤ y then x :: y :: l else y :: ug x l
def rI:List Int → List Int
 | []=>[]
 | x :: l=>ug x (rI l)
theorem pK (x:Int):∀ l:List Int,(ug x l).Perm (x :: l)
 | []=>.refl _
 | y :: l=>by
  unfold ug
  split
  ·exact .refl _
  ·exact .trans (.cons y (pK x l)) (.swap x y l)
theorem qV:∀ l:List Int,(rI l).Perm l
 | []=>.refl _
 | x :: l=>(pK x (rI l)).trans (.cons x (qV l))
theorem vQ (x:Int):∀ l:List Int,l.Pairwise (· ≤ ·) → (ug x l).Pairwise (· ≤ ·)
 | [],_=>by simp [ug]
 | y :: l,h=>by
  unfold ug
  have h1:=List.pairwise_cons.1 h
  split
  ·next hc=>
   refine List.pairwise_cons.2 ⟨fun z hz=>?_,h⟩
   rcases List.mem_cons.1 hz with rfl | hz
   ·exact hc
   ·exact Int.le_trans hc (h1.1 z hz)
  ·next hc=>
   refine List.pairwise_cons.2 ⟨fun z hz=>?_,vQ x l h1.2⟩
   rcases List.mem_cons.1 ((pK x l).mem_iff.1 hz) with rfl | hz
   ·omega
   ·exact h1.1 z hz
theorem tB:∀ l:List Int,(rI l).Pairwise (· ≤ ·)
 | []=>.nil
 | x :: l=>vQ x _ (tB l)
theorem sorted_perm (l:List Int):(sorted l).Perm l:=List.mergeSort_perm _ _
theorem wh (l:List Int):(sorted l).Pairwise (· ≤ ·) :=
 (List.pairwise_mergeSort (le:=fun x y:Int=>decide (x ≤ y)) (fun a b c h1 h2=>by simp only [decide_eq_true_eq] at *; omega) (fun a b=>by simp only [Bool.or_eq_true,decide_eq_true_eq]; omega) l).imp fun h=>of_decide_eq_true h
theorem wi (l:List Int):sorted l = rI l :=
 List.Perm.eq_of_pairwise (fun a b _ _ h1 h2=>Int.le_antisymm h1 h2) (wh l) (tB l) ((sorted_perm l).trans (qV l).symm)
def sort2 (F:Nat) (zs:List Int):Option (List Int):=if zs.length < 1000000000 then some (rI zs) else none
theorem sort_eq:cU = sort2:=by
 funext F zs
 unfold cU lH sort2
 rw [wi]
theorem wm:bn 2000 = some true:=by
 unfold bn ey cL cD cn b8 cW bT bC
 rw [sort_eq]
 decide +kernel
end Go.Proofs.Ytnpddoaeoefcnaa
namespace Go.Proofs.Ytnpddoaeoefcnaa
open Go Go.Sk
set_option linter.unusedVariables false
set_option linter.unusedSimpArgs false
def ld (h:List Int) (n:Int):Prop:=∀ i:Nat,i < h.length → -1 ≤ idx h i ∧ idx h i < n
theorem wP {h:List Int} {n:Int} (hl:h.length ≤ 400):ai (bW 2000 h n) (fun r=>(r = true ↔ ld h n)):=by
 unfold bW
 refine ai.iff (decide_eq_false (by omega)) ?_
 refine ai.bind (P:=fun o:Unit ⊕ Bool=>(o = .inl () ∧ ld h n) ∨ (o = .inr false ∧ ¬ ld h n)) ?_ ?_
 ·refine ai.rounds (n:=h.length) (I:=fun k s=>s = (k:Int) ∧ ∀ i:Nat,i < k → i < h.length → -1 ≤ idx h i ∧ idx h i < n) (by omega) ⟨rfl,fun i h1=>by omega⟩ ?_
  rintro k s hk ⟨rfl,hI⟩
  refine ai.ite (fun hc=>?_) (fun hc=>?_)
  ·have hc:=of_decide_eq_true hc
   rw [jM (by omega) (by omega)]
   refine ai.idx (by omega) (by omega) ?_
   by_cases h1:idx h (k:Int) < -1
   ·refine ai.g0 (by simp [h1]) (ai.rn (by simp [h1]) (ai.some (.inr ⟨_,rfl,.inr ⟨rfl,fun ha=>by have:=(ha k (by omega)).1; omega⟩⟩)))
   ·refine ai.g1 (by simp [h1]) (ai.idx (by omega) (by omega) (ai.ite (fun hq=>?_) (fun hq=>?_)))
    ·have hq:n ≤ idx h (k:Int):=by simpa [h1] using hq
     exact ai.some (.inr ⟨_,rfl,.inr ⟨rfl,fun ha=>by have:=(ha k (by omega)).2; omega⟩⟩)
    ·simp only [h1,decide_false,Bool.false_or,decide_eq_false_iff_not] at hq
     refine ai.some (.inl ⟨_,rfl,⟨by push_cast; rfl,fun i g1 g2=>?_⟩,by omega⟩)
     by_cases e:i < k
     ·exact hI i e g2
     ·have:i = k:=by omega
      subst this
      omega
  ·have hc:=of_decide_eq_false hc
   exact ai.some (.inr ⟨_,rfl,.inl ⟨rfl,fun i h1=>hI i (by omega) h1⟩⟩)
 ·rintro o (⟨rfl,h⟩ | ⟨rfl,h⟩)
  ·exact ai.some (by simp [h])
  ·exact ai.some (by simp [h])
theorem wM {h:List Int} {n:Int} (hl:h.length ≤ 400):ai (dy 2000 h n) (fun r=>(r = true ↔ ld h n)):=by
 unfold dy
 refine ai.g1 (decide_eq_true (by omega)) ?_
 unfold cj cR
 refine ai.bind (P:=fun r:Bool=>(r = true ↔ ¬ ld h n)) ?_ ?_
 ·refine ai.bind (P:=fun r:Int=>(0 ≤ r ↔ ¬ ld h n)) ?_ (fun r hr=>ai.some (by simpa using hr))
  refine ai.bind (P:=fun o:Unit ⊕ Int=>(o = .inl () ∧ ld h n) ∨ (∃ k:Int,o = .inr k ∧ 0 ≤ k ∧ ¬ ld h n)) ?_ ?_
  ·refine ai.rounds (n:=h.length) (I:=fun k s=>s = (k:Int) ∧ ∀ i:Nat,i < k → i < h.length → -1 ≤ idx h i ∧ idx h i < n) (by omega) ⟨rfl,fun i h1=>by omega⟩ ?_
   rintro k s hk ⟨rfl,hI⟩
   refine ai.ite (fun hc=>?_) (fun hc=>?_)
   ·have hc:=of_decide_eq_true hc
    rw [jM (by omega) (by omega)]
    refine ai.idx (by omega) (by omega) ?_
    unfold dp
    refine ai.aF rfl (ai.ite (fun h=>?_) (fun h=>?_))
    ·simp only [Bool.or_eq_true,decide_eq_true_eq] at h
     exact ai.some (.inr ⟨_,rfl,.inr ⟨k,rfl,by omega,fun ha=>by have:=ha k (by omega); omega⟩⟩)
    ·simp only [Bool.or_eq_false_iff,decide_eq_false_iff_not] at h
     refine ai.some (.inl ⟨_,rfl,⟨by push_cast; rfl,fun i g1 g2=>?_⟩,by omega⟩)
     by_cases e:i < k
     ·exact hI i e g2
     ·have:i = k:=by omega
      subst this
      omega
   ·have hc:=of_decide_eq_false hc
    exact ai.some (.inr ⟨_,rfl,.inl ⟨rfl,fun i h1=>hI i (by omega) h1⟩⟩)
  ·rintro o (⟨rfl,h⟩ | ⟨k,rfl,h0,h⟩)
   ·exact ai.some (by simp [h])
   ·exact ai.some (by simp [h,h0])
 ·intro r hr
  refine ai.some ?_
  have:decide ((h.length:Int) ≤ 401) = true:=decide_eq_true (by omega)
  rw [this]
  cases r <;> simp_all
def told (L:List xo) (r z:Int):Bool:=L.any fun s=>decide (s.Body = z) && decide (s.To = r)
def kn (h:List Int) (L:List xo) (r:Int) (n:Nat):List Int:=((List.range n).filter fun k:Nat=>decide (idx h (k:Int) = r) || told L r k).map fun k:Nat=>(k:Int)
theorem sD {l:List Int} (hl:l.length ≤ 1000):bI 2000 l l = some true:=by
 refine ai.eq ?_
 unfold bI
 refine ai.iff (by simp) ?_
 refine ai.bind (P:=(· = .inl ())) ?_ ?_
 ·refine ai.rounds (n:=l.length) (I:=fun k s=>s = (k:Int)) (by omega) rfl ?_
  rintro k s hk rfl
  refine ai.ite (fun hc=>?_) (fun hc=>?_)
  ·have hc:(k:Int) < l.length:=of_decide_eq_true hc
   rw [jM (by omega) (by omega)]
   refine ai.idx (by omega) hc (ai.idx (by omega) hc (ai.iff (by simp) (ai.some (.inl ⟨_,rfl,by push_cast; rfl,by omega⟩))))
  ·exact ai.some (.inr ⟨_,rfl,rfl⟩)
 ·rintro o rfl
  exact ai.some rfl
section
variable {F:Nat} (hF:F ≤ 1000000000)
include hF
theorem has35 {l:List Int} {n:Int} (hl:l.length < F):eG F l n = some (decide (n ∈ l)):=by
 refine ai.eq ?_
 unfold eG
 refine ai.bind (P:=fun o:Unit ⊕ Bool=>(o = .inl () ∧ ¬ n ∈ l) ∨ (o = .inr true ∧ n ∈ l)) ?_ ?_
 ·refine ai.find (c:=fun x=>decide (x = n)) (r:=fun _=>true) hl (by omega) (fun h=>.inl ⟨rfl,fun hm=>by have:=h n hm; simp at this⟩) (fun pre x post e _ hc=>.inr ⟨rfl,by rw [e,← of_decide_eq_true hc]; simp⟩) fun i x hx=>by rw [hx]; rfl
 ·rintro o (⟨rfl,h⟩ | ⟨rfl,h⟩)
  ·exact ai.some (by simp [h])
  ·exact ai.some (by simp [h])
theorem with35 {l:List Int} {n:Int} (hl:l.length < F) (hs:ql l):ai (fV F l n) fun o=>ql o ∧ ∀ z,z ∈ o ↔ z = n ∨ z ∈ l:=by
 unfold fV
 refine ai.aF (has35 hF hl) (ai.ite (fun h=>ai.some ⟨hs,fun z=>⟨.inr,?_⟩⟩) fun h=>?_)
 ·have h:=of_decide_eq_true h
  rintro (rfl | h')
  ·exact h
  ·exact h'
 have hn:n ∉ l:=of_decide_eq_false h
 refine ai.bind (P:=fun o:List Int × Bool=>lb (fun x:Int=>x) n l o.1 o.2) ?_ ?_
 ·refine ai.ea3 (I:=fun pre out p=>lb (fun x:Int=>x) n pre out p ∧ out.length ≤ pre.length + 1) hl (by omega) ⟨lb.zero,by simp⟩ ?_ fun a b h=>h.1
  rintro pre x post out p e hx ⟨hI,hlen⟩
  have hlt:∀ a ∈ pre,a < x:=fun a ha=>(List.pairwise_append.1 (e ▸ hs)).2.2 a ha x (List.mem_cons_self ..)
  have hxn:x ≠ n:=fun e'=>hn (by rw [e,← e']; simp)
  have hpl:pre.length < l.length:=by rw [e]; simp
  refine ai.bind (P:=fun z:List Int × Bool=>lb (fun x:Int=>x) n (pre ++ [x]) z.1 z.2 ∧ z.1.length ≤ pre.length + 2) ?_ fun z hz=>ai.some (.inl ⟨_,_,rfl,hz.1,by simpa using hz.2⟩)
  refine ai.bind (P:=fun z:List Int × Bool=>lb (fun x:Int=>x) n (pre ++ [x]) (z.1 ++ [x]) z.2 ∧ z.1.length ≤ pre.length + 1) ?_ ?_
  ·cases p with
   | true=>exact ai.g0 rfl (ai.iff rfl (ai.some ⟨hI.next (.inl rfl) hxn hlt,hlen⟩))
   | false=>
    refine ai.g1 rfl (ai.aF hx (ai.ite (fun hc=>?_) fun hc=>?_))
    ·have hc:n < x:=by simpa using hc
     obtain ⟨A,B,h1,_,_,h | h⟩:=id hI
     ·refine ai.app (by simp only [List.length_singleton]; omega) (ai.some ⟨hI.put hc,?_⟩)
      obtain ⟨_,rfl,rfl⟩:=h
      simp [h1]
     ·exact absurd h.1 (by simp)
    ·have hc:¬ n < x:=by simpa using hc
     exact ai.some ⟨hI.next (.inr (by omega)) hxn hlt,hlen⟩
  ·rintro ⟨o,p'⟩ ⟨h1,h2⟩
   simp only at h1 h2
   exact ai.aF hx (ai.app (by simp only [List.length_singleton]; omega) (ai.some ⟨h1,by simp; omega⟩))
 ·rintro ⟨o,p⟩ hI
  obtain ⟨h1,h2⟩:=hI.fin hs
  simp only at h1 h2 ⊢
  refine ai.bind (P:=(· = if (!p) = true then o ++ [n] else o)) ?_ fun z hz=>ai.some ?_
  ·obtain ⟨A,B,h3,_,_,h | h⟩:=hI
   ·obtain ⟨rfl,rfl,h4⟩:=h
    simp only at h4
    refine ai.rn rfl (ai.app (by rw [h4]; simp only [List.length_singleton]; simp at h3; rw [← h3]; omega) (ai.some rfl))
   ·obtain ⟨rfl,_,_⟩:=h
    exact ai.iff rfl (ai.some rfl)
  ·rw [hz]
   refine ⟨h1,fun z=>?_⟩
   rw [h2.mem_iff,List.mem_cons]
theorem vz {a b B:List Int} (hb:b.length < F) (hs:ql a) (hB:B.length < F) (hsub:∀ z,(z ∈ a ∨ z ∈ b) → z ∈ B):ai (dQ F a b) fun o=>ql o ∧ ∀ z,z ∈ o ↔ z ∈ a ∨ z ∈ b:=by
 unfold dQ
 refine ai.bind ?_ (fun o ho=>ai.some ho)
 refine ai.r7 (I:=fun pre o=>ql o ∧ ∀ z,z ∈ o ↔ z ∈ a ∨ z ∈ pre) hb (by omega) ⟨hs,by simp⟩ ?_ fun s h=>h
 rintro pre x post o e hx ⟨h1,h2⟩
 have hol:o.length < F:=by
  have:o.length ≤ B.length:=oG h1 fun z hz=>hsub z (((h2 z).1 hz).imp_right fun h=>by rw [e]; simp [h])
  omega
 refine ai.aF hx (ai.bind (with35 hF hol h1) fun o' ho'=>ai.some (.inl ⟨_,rfl,ho'.1,fun z=>?_⟩))
 rw [ho'.2,h2,List.mem_append,List.mem_singleton]
 constructor
 ·rintro (h | h | h)
  ·exact .inr (.inr h)
  ·exact .inl h
  ·exact .inr (.inl h)
 ·rintro (h | h | h)
  ·exact .inr (.inl h)
  ·exact .inr (.inr h)
  ·exact .inl h
theorem meets35 {a b:List Int} (ha:a.length < F) (hb:b.length < F):fF F a b = some (a.any fun u=>b.contains u):=by
 refine ai.eq ?_
 unfold fF
 refine ai.bind (P:=fun o:Unit ⊕ Bool=>(o = .inl () ∧ ∀ x ∈ a,b.contains x = false) ∨ (o = .inr true ∧ ∃ x ∈ a,b.contains x = true)) ?_ ?_
 ·refine ai.find (c:=fun x=>b.contains x) (r:=fun _=>true) ha (by omega) (fun h=>.inl ⟨rfl,h⟩) (fun pre x post e _ hc=>.inr ⟨rfl,x,by rw [e]; simp,hc⟩) fun i x hx=>by
   rw [hx,Option.bind_some,has35 hF hb,List.contains_eq_mem]; rfl
 ·rintro o (⟨rfl,h⟩ | ⟨rfl,h⟩)
  ·refine ai.some (Eq.symm ?_)
   rw [List.any_eq_false]; intro x hx; rw [h x hx]; simp
  ·exact ai.some (Eq.symm (List.any_eq_true.2 h))
theorem put35 {l:List (List Int)} {x:List Int} (hl:l.length < F) (hn:∀ c ∈ l,c ≠ []) (hx:x ≠ []) (hs:HdL l) (hd':∀ c ∈ l,hd c ≠ hd x):ai (gw F l x) fun o=>HdL o ∧ o.Perm (x :: l):=by
 unfold gw
 have h0:∀ c:List Int,c ≠ [] → aT c 0 = some (hd c):=fun c hc=>by
  cases c with
  | nil=>exact absurd rfl hc
  | cons a c=>exact sN [] c a
 refine ai.bind (P:=fun o:List (List Int) × Bool=>lb hd x l o.1 o.2) ?_ ?_
 ·refine ai.ea3 (I:=fun pre out p=>lb hd x pre out p ∧ out.length ≤ pre.length + 1) hl (by omega) ⟨lb.zero,by simp⟩ ?_ fun a b h=>h.1
  rintro pre y post out p e hy ⟨hI,hlen⟩
  have hlt:∀ a ∈ pre,hd a < hd y:=fun a ha=>(List.pairwise_append.1 (e ▸ hs)).2.2 a ha y (List.mem_cons_self ..)
  have hym:y ∈ l:=by rw [e]; simp
  have hpl:pre.length < l.length:=by rw [e]; simp
  refine ai.bind (P:=fun z:List (List Int) × Bool=>lb hd x (pre ++ [y]) z.1 z.2 ∧ z.1.length ≤ pre.length + 2) ?_ fun z hz=>ai.some (.inl ⟨_,_,rfl,hz.1,by simpa using hz.2⟩)
  refine ai.bind (P:=fun z:List (List Int) × Bool=>lb hd x (pre ++ [y]) (z.1 ++ [y]) z.2 ∧ z.1.length ≤ pre.length + 1) ?_ ?_
  ·cases p with
   | true=>exact ai.g0 rfl (ai.g0 rfl (ai.g0 rfl (ai.iff rfl (ai.some ⟨hI.next (.inl rfl) (hd' y hym) hlt,hlen⟩))))
   | false=>
    refine ai.g1 rfl (ai.aF hy (ai.g1 rfl (ai.aF (h0 y (hn y hym)) (ai.g1 rfl (ai.aF (h0 x hx) (ai.ite (fun hc=>?_) fun hc=>?_))))))
    ·have hc:hd x < hd y:=by simpa using hc
     obtain ⟨A,B,h1,_,_,h | h⟩:=id hI
     ·refine ai.app (by simp only [List.length_singleton]; omega) (ai.some ⟨hI.put hc,?_⟩)
      obtain ⟨_,rfl,rfl⟩:=h
      simp [h1]
     ·exact absurd h.1 (by simp)
    ·have hc:¬ hd x < hd y:=by simpa using hc
     exact ai.some ⟨hI.next (.inr (by omega)) (hd' y hym) hlt,hlen⟩
  ·rintro ⟨o,p'⟩ ⟨h1,h2⟩
   simp only at h1 h2
   exact ai.aF hy (ai.app (by simp only [List.length_singleton]; omega) (ai.some ⟨h1,by simp; omega⟩))
 ·rintro ⟨o,p⟩ hI
  obtain ⟨h1,h2⟩:=hI.fin hs
  simp only at h1 h2 ⊢
  refine ai.bind (P:=(· = if (!p) = true then o ++ [x] else o)) ?_ fun z hz=>ai.some ?_
  ·obtain ⟨A,B,h3,_,_,h | h⟩:=hI
   ·obtain ⟨rfl,rfl,h4⟩:=h
    simp only at h4
    refine ai.rn rfl (ai.app (by rw [h4]; simp only [List.length_singleton]; simp at h3; rw [← h3]; omega) (ai.some rfl))
   ·obtain ⟨rfl,_,_⟩:=h
    exact ai.iff rfl (ai.some rfl)
  ·rw [hz]
   exact ⟨h1,h2⟩
end
def pr (L:List (List Int)) (a b:Int):Prop:=∃ c ∈ L,a ∈ c ∧ b ∈ c
def dm (L:List (List Int)) (a:Int):Prop:=∃ c ∈ L,a ∈ c
theorem pr_dm {L:List (List Int)} (a b:Int) (h:pr L a b):dm L a ∧ dm L b:=by
 obtain ⟨c,hc,h1,h2⟩:=h; exact ⟨⟨c,hc,h1⟩,c,hc,h2⟩
theorem oF {L:List (List Int)} (a:Int):dm L a ↔ a ∈ L.flatten:=by
 unfold dm; rw [List.mem_flatten]
theorem vW {P D:_} {s:List (List Int)} {B:List Int} (h:IsPt P D s) (hB:∀ a,D a → a ∈ B) {c:List Int} (hc:c ∈ s):c.length ≤ B.length :=
 oG (h.asd c hc).2 fun a ha=>hB a ((h.dom a).2 ⟨c,hc,ha⟩)
theorem uo {P D:_} {s:List (List Int)} {B:List Int} (h:IsPt P D s) (hB:∀ a,D a → a ∈ B):s.length ≤ B.length:=by
 have:(s.map hd).Nodup:=List.pairwise_map.2 (List.Pairwise.imp_of_mem (fun {c d} hc hd' h' e=>h' _ (il (h.asd c hc).1) (e ▸ il (h.asd d hd').1)) h.dj)
 have h2:=si (m:=B) this fun a ha=>by
  obtain ⟨c,hc,rfl⟩:=List.mem_map.1 ha
  exact hB _ ((h.dom _).2 ⟨c,hc,il (h.asd c hc).1⟩)
 simpa using h2
theorem vM {F:Nat} (hF:F ≤ 100000000) {L:List (List Int)} (hl:L.length < F) (hB:L.flatten.length < F):ai (df F L) (Part (pr L) (dm L)):=by
 have hF':F ≤ 1000000000:=by omega
 unfold df
 refine ai.bind (P:=fun s=>IsPt (pr L) (dm L) s) ?_ ?_
 ·refine ai.r7 (I:=fun pre s=>IsPt (pr pre) (dm pre) s) hl (by omega) ⟨by simp,by simp,by simp [dm],by simp,by simp⟩ ?_ fun s h=>h
  rintro pre x0 post s e hx hI
  refine ai.bind (P:=fun s'=>IsPt (pr (pre ++ [x0])) (dm (pre ++ [x0])) s') ?_ fun s' h=>ai.some (.inl ⟨_,rfl,h⟩)
  have hx0:∀ z ∈ x0,z ∈ L.flatten:=fun z hz=>(oF z).1 ⟨x0,by rw [e]; simp,hz⟩
  have hpre:∀ z,dm pre z → z ∈ L.flatten:=fun z ⟨c,hc,hz⟩=>(oF z).1 ⟨c,by rw [e]; simp [hc],hz⟩
  have hx0l:x0.length < F:=by
   have:x0.length ≤ L.flatten.length:=by rw [e]; simp; omega
   omega
  have hsl:s.length < F:=by have:=uo hI hpre; omega
  refine ai.aF hx (ai.bind (vz hF' (B:=L.flatten) hx0l List.Pairwise.nil hB (by simpa using hx0)) ?_)
  rintro x ⟨hxa,hxm⟩
  simp only [List.not_mem_nil,false_or] at hxm
  refine ai.ite (fun hc=>ai.some ?_) fun hc=>?_
  ·have:x0 = []:=by
    have hc:=of_decide_eq_true hc
    have hx':x = []:=List.length_eq_zero_iff.1 (by omega)
    cases x0 with
    | nil=>rfl
    | cons a x0=>have:=(hxm a).2 (List.mem_cons_self ..); rw [hx'] at this; cases this
   subst this
   refine hI.congr (gy.congr (fun a b ⟨c,hc,h⟩=>.of ⟨c,by simp [hc],h⟩) fun a b ⟨c,hc,h⟩=>.of ⟨c,?_,h⟩) fun a=>⟨fun ⟨c,hc,h⟩=>⟨c,by simp [hc],h⟩,fun ⟨c,hc,h⟩=>⟨c,?_,h⟩⟩
   ·rcases List.mem_append.1 hc with hc | hc
    ·exact hc
    ·rw [List.mem_singleton.1 hc] at h; exact absurd h.1 (by simp)
   ·rcases List.mem_append.1 hc with hc | hc
    ·exact hc
    ·rw [List.mem_singleton.1 hc] at h; exact absurd h (by simp)
  ·have hxne:x ≠ []:=by
    rintro rfl; simp at hc
   refine ai.bind (P:=fun o:List Int × List (List Int)=>ql o.1 ∧ (∀ z,z ∈ o.1 ↔ z ∈ x ∨ ∃ c ∈ s,(∃ u ∈ c,u ∈ x) ∧ z ∈ c) ∧ o.2 = s.filter fun c=>!(c.any fun u=>x.contains u)) ?_ ?_
   ·refine ai.ea3 (I:=fun q y rest=>ql y ∧ (∀ z,z ∈ y ↔ z ∈ x ∨ ∃ c ∈ q,(∃ u ∈ c,u ∈ x) ∧ z ∈ c) ∧ rest = q.filter fun c=>!(c.any fun u=>x.contains u)) hsl (by omega) ⟨hxa,by simp,rfl⟩ ?_ fun a b h=>h
    rintro q c post' y rest e' hc' ⟨h1,h2,h3⟩
    have hcs:c ∈ s:=by rw [e']; simp
    have hq:∀ d ∈ q,d ∈ s:=fun d hd=>by rw [e']; simp [hd]
    have hdj:∀ d ∈ q,∀ z ∈ d,z ∉ c:=fun d hd=>(List.pairwise_append.1 (e' ▸ hI.dj)).2.2 d hd c (List.mem_cons_self ..)
    have hcl:c.length < F:=by have:=vW hI hpre hcs; omega
    have hyB:∀ z ∈ y,z ∈ L.flatten:=fun z hz=>by
     rcases (h2 z).1 hz with hz | ⟨d,hd,_,hz⟩
     ·exact hx0 z ((hxm z).1 hz)
     ·exact hpre z ((hI.dom z).2 ⟨d,hq d hd,hz⟩)
    have hyl:y.length < F:=by have:=oG h1 hyB; omega
    have hmt:(c.any fun u=>y.contains u) = c.any fun u=>x.contains u:=by
     rw [Bool.eq_iff_iff,List.any_eq_true,List.any_eq_true]
     simp only [List.contains_eq_mem,decide_eq_true_eq]
     constructor
     ·rintro ⟨u,hu,huy⟩
      rcases (h2 u).1 huy with h | ⟨d,hd,_,hud⟩
      ·exact ⟨u,hu,h⟩
      ·exact absurd hu (hdj d hd u hud)
     ·rintro ⟨u,hu,hux⟩; exact ⟨u,hu,(h2 u).2 (.inl hux)⟩
    refine ai.bind (P:=fun o:List Int × List (List Int)=>ql o.1 ∧ (∀ z,z ∈ o.1 ↔ z ∈ x ∨ ∃ d ∈ q ++ [c],(∃ u ∈ d,u ∈ x) ∧ z ∈ d) ∧ o.2 = (q ++ [c]).filter fun c=>!(c.any fun u=>x.contains u)) ?_ fun o ho=>ai.some (.inl ⟨_,_,rfl,ho⟩)
    refine ai.aF hc' (ai.aF (meets35 hF' hcl hyl) ?_)
    rw [hmt]
    refine ai.ite (fun hm=>?_) fun hm=>?_
    ·have hm':∃ u ∈ c,u ∈ x:=by simpa using hm
     refine ai.aF hc' (ai.bind (vz hF' hcl h1 hB (B:=L.flatten) ?_) fun y' hy'=>ai.some ⟨hy'.1,fun z=>?_,?_⟩)
     ·rintro z (hz | hz)
      ·exact hyB z hz
      ·exact hpre z ((hI.dom z).2 ⟨c,hcs,hz⟩)
     ·rw [hy'.2,h2]
      constructor
      ·rintro ((h | ⟨d,hd,h⟩) | h)
       ·exact .inl h
       ·exact .inr ⟨d,by simp [hd],h⟩
       ·exact .inr ⟨c,by simp,hm',h⟩
      ·rintro (h | ⟨d,hd,h⟩)
       ·exact .inl (.inl h)
       ·rcases List.mem_append.1 hd with hd | hd
        ·exact .inl (.inr ⟨d,hd,h⟩)
        ·rw [List.mem_singleton.1 hd] at h; exact .inr h.2
     ·rw [h3,List.filter_append]
      simp only [List.filter_cons,List.filter_nil,hm]
      simp
    ·have hm':¬ ∃ u ∈ c,u ∈ x:=by simpa using hm
     have hrl:rest.length ≤ s.length:=by
      rw [h3]; refine Nat.le_trans (List.length_filter_le _ _) ?_
      rw [e']; simp
     refine ai.aF hc' (ai.app (by simp only [List.length_singleton]; omega) (ai.some ⟨h1,fun z=>?_,?_⟩))
     ·rw [h2]
      constructor
      ·rintro (h | ⟨d,hd,h⟩)
       ·exact .inl h
       ·exact .inr ⟨d,by simp [hd],h⟩
      ·rintro (h | ⟨d,hd,h⟩)
       ·exact .inl h
       ·rcases List.mem_append.1 hd with hd | hd
        ·exact .inr ⟨d,hd,h⟩
        ·rw [List.mem_singleton.1 hd] at h; exact absurd h.1 hm'
     ·rw [h3,List.filter_append]
      simp only [List.filter_cons,List.filter_nil,hm]
      simp
   ·rintro ⟨y,rest⟩ ⟨h1,h2,h3⟩
    simp only at h1 h2 h3
    have hrl:rest.length ≤ s.length:=by rw [h3]; exact List.length_filter_le _ _
    refine ai.app (by simp only [List.length_singleton]; omega) (ai.some ?_)
    refine hI.add (x:=x) pr_dm hxne h1 h2 (fun a b=>?_) (fun a=>?_) h3
    ·unfold pr
     simp only [List.mem_append,List.mem_singleton]
     constructor
     ·rintro ⟨c,hc | rfl,h⟩
      ·exact .inl ⟨c,hc,h⟩
      ·exact .inr ⟨(hxm a).2 h.1,(hxm b).2 h.2⟩
     ·rintro (⟨c,hc,h⟩ | ⟨h,h'⟩)
      ·exact ⟨c,.inl hc,h⟩
      ·exact ⟨x0,.inr rfl,(hxm a).1 h,(hxm b).1 h'⟩
    ·unfold dm
     simp only [List.mem_append,List.mem_singleton]
     constructor
     ·rintro ⟨c,hc | rfl,h⟩
      ·exact .inl ⟨c,hc,h⟩
      ·exact .inr ((hxm a).2 h)
     ·rintro (⟨c,hc,h⟩ | h)
      ·exact ⟨c,.inl hc,h⟩
      ·exact ⟨x0,.inr rfl,(hxm a).1 h⟩
 ·intro s hs
  have hsl:s.length < F:=by have:=uo hs (fun a=>(oF a).1); omega
  refine ai.bind ?_ (fun o ho=>ai.some ho)
  refine ai.r7 (I:=fun q o=>HdL o ∧ o.Perm q) hsl (by omega) ⟨List.Pairwise.nil,.refl _⟩ ?_ ?_
  ·rintro q c post o e hc ⟨h1,h2⟩
   have hcs:c ∈ s:=by rw [e]; simp
   have hq:∀ d ∈ q,d ∈ s:=fun d hd=>by rw [e]; simp [hd]
   have hol:o.length < F:=by
    rw [h2.length_eq]
    have:q.length < s.length:=by rw [e]; simp
    omega
   have hdj:∀ d ∈ q,∀ z ∈ d,z ∉ c:=fun d hd=>(List.pairwise_append.1 (e ▸ hs.dj)).2.2 d hd c (List.mem_cons_self ..)
   refine ai.aF hc (ai.bind (put35 hF' hol (fun d hd=>(hs.asd d (hq d (h2.mem_iff.1 hd))).1) (hs.asd c hcs).1 h1 fun d hd e=>?_) fun o' ho'=>ai.some (.inl ⟨_,rfl,ho'.1,?_⟩))
   ·have hd':=h2.mem_iff.1 hd
    exact hdj d hd' _ (il (hs.asd d (hq d hd')).1) (e ▸ il (hs.asd c hcs).1)
   ·exact ho'.2.trans ((List.Perm.cons c h2).trans (List.perm_append_singleton c q).symm)
  ·rintro o ⟨h1,h2⟩
   exact { asd:=fun c hc=>hs.asd c (h2.mem_iff.1 hc),dj:=(h2.pairwise_iff (fun {a b} h z hz hza=>h z hza hz)).2 hs.dj,dom:=fun a=>by rw [hs.dom]; simp only [h2.mem_iff],con:=fun c hc=>hs.con c (h2.mem_iff.1 hc),cl:=fun c hc=>hs.cl c (h2.mem_iff.1 hc),srt:=h1 }
end Go.Proofs.Ytnpddoaeoefcnaa
namespace Go.Proofs.Ytnpddoaeoefcnaa
open Go Go.Sk
set_option linter.unusedVariables false
set_option linter.unusedSimpArgs false
def aB (m:b9):List Int:=m.map (·.1)
def cnt (m:b9) (x:Int):Nat:=((aB m).filter fun z=>decide (z < x)).length
theorem cnt_le (m:b9) (x:Int):cnt m x ≤ m.length:=by
 unfold cnt aB; refine Nat.le_trans (List.length_filter_le _ _) ?_; simp
theorem cnt_lt {m:b9} {u x:Int} (hu:dq m u = true) (h:u < x):cnt m u < cnt m x:=by
 have hm:=(lg u m).1 hu
 unfold cnt
 have:∀ ks:List Int,(∀ z,z ∈ ks → True) → (ks.filter fun z=>decide (z < u)).length ≤ (ks.filter fun z=>decide (z < x)).length ∧ (u ∈ ks → (ks.filter fun z=>decide (z < u)).length < (ks.filter fun z=>decide (z < x)).length):=fun ks _=>by
  induction ks with
  | nil=>simp
  | cons a ks ih=>
   have ih:=ih (fun _ _=>trivial)
   simp only [List.filter_cons,List.mem_cons]
   by_cases h1:a < u
   ·have h2:a < x:=by omega
    simp only [h1,h2,decide_true,if_true,List.length_cons]
    refine ⟨by omega,?_⟩
    rintro (rfl | h')
    ·omega
    ·have:=ih.2 h'; omega
   ·by_cases h2:a < x
    ·simp only [h1,h2,decide_true,decide_false,if_true,List.length_cons]
     refine ⟨by have:=ih.1; simp; omega,fun _=>by have:=ih.1; simp; omega⟩
    ·simp only [h1,h2,decide_false]
     refine ⟨by simpa using ih.1,?_⟩
     rintro (rfl | h')
     ·omega
     ·simpa using ih.2 h'
 exact (this (aB m) fun _ _=>trivial).2 hm
theorem vD {F:Nat}:∀ (n:Nat) {m:b9} {r:Int → Int} {x:Int},pc m r → cnt m x < n → ai (bM F n x m) fun z=>z.1 = r x ∧ pc z.2 r ∧ aB z.2 = if dq m x then aB m else aB m ++ [x]
 | 0,m,r,x,h,hn=>by omega
 | n + 1,m,r,x,h,hn=>by
  show ai (if (!(dq m x)) = true then _ else _) _
  refine ai.ite (fun hc=>?_) fun hc=>?_
  ·have hc:dq m x = false:=by simpa using hc
   refine ai.some ⟨(h.out x hc).symm,h.add hc,?_⟩
   simp only [aB]
   rw [lq]
  ·have hc:dq m x = true:=by simpa using hc
   refine ai.ite (fun he=>ai.some ⟨(h.fix x hc (of_decide_eq_true he)).symm,h,by simp [hc]⟩) fun he=>?_
   have he:=of_decide_eq_false he
   have hu:=h.has x hc
   have hl:dZ m x < x:=by have:=h.le x hc; omega
   refine ai.bind (vD n (x:=dZ m x) h (by have:=cnt_lt hu hl; omega)) ?_
   rintro ⟨a,m'⟩ ⟨h1,h2,h3⟩
   simp only at h1 h2 h3
   rw [hu,if_pos rfl] at h3
   have e:a = r x:=by rw [h1,h.step x hc]
   have hx':dq m' x = true:=by rw [lg]; show x ∈ aB m'; rw [h3]; exact (lg x m).1 hc
   refine ai.some ⟨e,?_,?_⟩
   ·simp only; rw [e]; exact h2.short hx'
   ·simp only [aB]
    rw [lq,hx',hc]
    exact h3
theorem jU {m:b9} {x:Int}:dq m x = true ↔ x ∈ aB m:=lg x m
theorem um {F:Nat} {m:b9} {r:Int → Int} {x:Int} (h:pc m r) (hF:m.length < F):ai (ck F x m) fun z=>z.1 = r x ∧ pc z.2 r ∧ (∀ y,y ∈ aB z.2 ↔ y = x ∨ y ∈ aB m) ∧ z.2.length ≤ m.length + 1 ∧ (dq m x = true → aB z.2 = aB m):=by
 refine (vD F h (by have:=cnt_le m x; omega)).mono ?_
 rintro ⟨a,m'⟩ ⟨h1,h2,h3⟩
 simp only at h1 h2 h3 ⊢
 have hl:(aB m').length = m'.length:=by simp [aB]
 have hl2:(aB m).length = m.length:=by simp [aB]
 refine ⟨h1,h2,fun y=>?_,?_,fun hh=>by rw [h3,hh]; rfl⟩
 ·rw [h3]
  split
  ·next hc=>
   constructor
   ·exact .inr
   ·rintro (rfl | h)
    ·exact jU.1 hc
    ·exact h
  ·simp [or_comm]
 ·rw [← hl,h3]; split <;> simp [hl2]
theorem join_S {F:Nat} {m:b9} {r:Int → Int} {x y:Int} (h:pc m r) (hF:m.length + 1 < F):ai (bN F x y m) fun z=>z.1 = decide (r x ≠ r y) ∧ pc z.2 (jn r x y) ∧ (∀ u,u ∈ aB z.2 ↔ u = x ∨ u = y ∨ u ∈ aB m) ∧ z.2.length ≤ m.length + 2:=by
 unfold bN
 refine ai.bind (um h (by omega)) ?_
 rintro ⟨a,m1⟩ ⟨rfl,h1,k1,l1,_⟩
 simp only at h1 k1 l1 ⊢
 refine ai.bind (um h1 (by simp only; omega)) ?_
 rintro ⟨b,m2⟩ ⟨rfl,h2,k2,l2,_⟩
 simp only at h2 k2 l2 ⊢
 have kk:∀ u,u ∈ aB m2 ↔ u = x ∨ u = y ∨ u ∈ aB m:=fun u=>by
  rw [k2,k1]; constructor
  ·rintro (h | h | h)
   ·exact .inr (.inl h)
   ·exact .inl h
   ·exact .inr (.inr h)
  ·rintro (h | h | h)
   ·exact .inr (.inl h)
   ·exact .inl h
   ·exact .inr (.inr h)
 refine ai.ite (fun hc=>?_) fun hc=>?_
 ·have hc:r x = r y:=of_decide_eq_true hc
  have ej:jn r x y = r:=funext fun z=>by unfold jn; rw [hc,Int.max_self,Int.min_self]; split <;> simp_all
  rw [ej]
  exact ai.some ⟨by simp [hc],h2,kk,by simp only; omega⟩
 ·have hc:r x ≠ r y:=of_decide_eq_false hc
  have hx:dq m2 x = true:=jU.2 ((kk x).2 (.inl rfl))
  have hy:dq m2 y = true:=jU.2 ((kk y).2 (.inr (.inl rfl)))
  have hM:dq m2 (max (r x) (r y)) = true:=by
   have a:=(h2.low x hx).2.1
   have b:=(h2.low y hy).2.1
   by_cases hl:r x ≤ r y
   ·rw [Int.max_eq_right hl]; exact b
   ·rw [Int.max_eq_left (by omega)]; exact a
  have ek:aB (eO m2 (max (r x) (r y)) (min (r x) (r y))) = aB m2:=by
   unfold aB; rw [lq,hM]; rfl
  refine ai.some ⟨by simp [hc],h2.join hx hy hc,fun u=>by simp only; rw [ek]; exact kk u,?_⟩
  have:(aB (eO m2 (max (r x) (r y)) (min (r x) (r y)))).length = (aB m2).length:=by rw [ek]
  simp only [aB,List.length_map] at this
  simp only; omega
def mf (ps:List (Int × Int)):Int → Int:=ps.foldl (fun r p=>jn r p.1 p.2) fun x=>x
theorem rS (ps:List (Int × Int)) (x y:Int):mf (ps ++ [(x,y)]) = jn (mf ps) x y:=by simp [mf]
theorem wv (ps:List (Int × Int)) (z:Int):mf ps (mf ps z) = mf ps z:=by
 have:∀ (ps:List (Int × Int)) (r:Int → Int),(∀ z,r (r z) = r z) → ∀ z,ps.foldl (fun r p=>jn r p.1 p.2) r (ps.foldl (fun r p=>jn r p.1 p.2) r z) = ps.foldl (fun r p=>jn r p.1 p.2) r z:=fun ps=>by
  induction ps with
  | nil=>exact fun r h=>h
  | cons p ps ih=>exact fun r h=>ih _ (jn_idem h p.1 p.2)
 exact this ps _ (fun _=>rfl) z
theorem yc:∀ (ps:List (Int × Int)) (a b:Int),mf ps a = mf ps b ↔ gy (fun u v=>(u,v) ∈ ps) a b:=fun ps=>by
 have key:∀ (qs:List (Int × Int)),(∀ a b,mf qs a = mf qs b ↔ gy (fun u v=>(u,v) ∈ qs) a b) → ∀ ps a b,mf (qs ++ ps) a = mf (qs ++ ps) b ↔ gy (fun u v=>(u,v) ∈ qs ++ ps) a b:=fun qs h ps=>by
  induction ps generalizing qs with
  | nil=>simpa using h
  | cons p ps ih=>
   have e:qs ++ p :: ps = (qs ++ [p]) ++ ps:=by simp
   rw [e]
   refine ih _ fun a b=>?_
   rw [show p = (p.1,p.2) from rfl,rS,jn_con (wv qs) h]
   refine gy.congr (fun u v h=>.of ?_) (fun u v h=>.of ?_) a b
   ·rcases h with h | ⟨rfl,rfl⟩ <;> simp_all
   ·rcases List.mem_append.1 h with h | h
    ·exact .inl h
    ·have:=List.mem_singleton.1 h; simp only [Prod.mk.injEq] at this; exact .inr this
 refine key [] (fun a b=>?_) ps
 refine ⟨fun h=>by show gy _ a b; have:a = b:=h; rw [this]; exact .rfl b,fun h=>?_⟩
 refine h.lift (E:=fun a b=>mf [] a = mf [] b) (fun _=>rfl) (fun _ _ h=>h.symm) (fun _ _ _ h1 h2=>h1.trans h2) fun a b h=>by cases h
def rE (L:List (List Int)):List (Int × Int):=(L.map fun c=>c.map fun n=>(hd c,n)).flatten
theorem oD {L:List (List Int)} {a b:Int}:(a,b) ∈ rE L ↔ ∃ c ∈ L,hd c = a ∧ b ∈ c:=by
 unfold rE
 rw [List.mem_flatten]
 constructor
 ·rintro ⟨l,hl,h⟩
  obtain ⟨c,hc,rfl⟩:=List.mem_map.1 hl
  obtain ⟨n,hn,h⟩:=List.mem_map.1 h
  simp only [Prod.mk.injEq] at h
  exact ⟨c,hc,h.1,h.2 ▸ hn⟩
 ·rintro ⟨c,hc,rfl,h⟩
  exact ⟨_,List.mem_map.2 ⟨c,hc,rfl⟩,List.mem_map.2 ⟨b,h,rfl⟩⟩
theorem con_prs (L:List (List Int)) (a b:Int):gy (fun u v=>(u,v) ∈ rE L) a b ↔ gy (pr L) a b:=by
 refine gy.congr (fun u v h=>?_) (fun u v h=>?_) a b
 ·obtain ⟨c,hc,rfl,h'⟩:=oD.1 h
  exact .of ⟨c,hc,il (List.ne_nil_of_mem h'),h'⟩
 ·obtain ⟨c,hc,h1,h2⟩:=h
  exact .trans (.symm (.of (oD.2 ⟨c,hc,rfl,h1⟩))) (.of (oD.2 ⟨c,hc,rfl,h2⟩))
theorem uZ (L M:List (List Int)):rE (L ++ M) = rE L ++ rE M:=by simp [rE]
theorem vF (L:List (List Int)):(rE L).length = L.flatten.length:=by
 unfold rE
 rw [List.length_flatten,List.length_flatten,List.map_map]
 congr 1
 refine List.map_congr_left fun c _=>?_
 simp
structure St (m:b9) (ps:List (Int × Int)):Prop where
 up:pc m (mf ps)
 keys:∀ u,u ∈ aB m ↔ ∃ p ∈ ps,u = p.1 ∨ u = p.2
 len:m.length ≤ 2 * ps.length
theorem St.nil:St [] []:=⟨pc.nil,by simp [aB],by simp⟩
theorem St.join {F:Nat} {m:b9} {ps:List (Int × Int)} {x y:Int} (h:St m ps) (hF:2 * ps.length + 1 < F):ai (bN F x y m) fun z=>z.1 = decide (mf ps x ≠ mf ps y) ∧ St z.2 (ps ++ [(x,y)]):=by
 refine (join_S h.up (x:=x) (y:=y) (by have:=h.len; omega)).mono ?_
 rintro ⟨b,m'⟩ ⟨h1,h2,h3,h4⟩
 refine ⟨h1,by rw [rS]; exact h2,fun u=>?_,by have:=h.len; simp at h4 ⊢; omega⟩
 rw [h3,h.keys]
 constructor
 ·rintro (h | h | ⟨p,hp,h⟩)
  ·exact ⟨(x,y),by simp,.inl h⟩
  ·exact ⟨(x,y),by simp,.inr h⟩
  ·exact ⟨p,by simp [hp],h⟩
 ·rintro ⟨p,hp,h⟩
  rcases List.mem_append.1 hp with hp | hp
  ·exact .inr (.inr ⟨p,hp,h⟩)
  ·rw [List.mem_singleton.1 hp] at h
   rcases h with h | h
   ·exact .inl h
   ·exact .inr (.inl h)
structure Row (r:Int → Int) (ts:List Int) (at':b9) (out:List (List Int)):Prop where
 len:out.length = (ts.filter fun x=>decide (r x = x)).length
 get:∀ j (h:j < (ts.filter fun x=>decide (r x = x)).length),out[j]? = some (ts.filter fun z=>decide (r z = (ts.filter fun x=>decide (r x = x))[j])) ∧ dZ at' ((ts.filter fun x=>decide (r x = x))[j]) = (j:Int)
theorem Row.eq {r:Int → Int} {ts:List Int} {at':b9} {out:List (List Int)} (h:Row r ts at' out):out = canon r ts:=by
 refine List.ext_getElem? fun j=>?_
 unfold canon
 by_cases hj:j < (ts.filter fun x=>decide (r x = x)).length
 ·rw [(h.get j hj).1,List.getElem?_map,List.getElem?_eq_getElem hj]; rfl
 ·rw [List.getElem?_eq_none (by have:=h.len; omega),List.getElem?_eq_none (by rw [List.length_map]; omega)]
theorem Row.step {r:Int → Int} {ts:List Int} {at':b9} {out:List (List Int)} (h:Row r ts at' out) {x:Int} (hx:∀ t ∈ ts,t < x) (hle:∀ z,r z ≤ z) (hi:∀ z,r (r z) = r z) (hr:r x = x ∨ r x ∈ ts) :
  ∃ at2 o2,(at2,o2) = (if r x = x then (eO at' x (out.length:Int),out ++ [[]]) else (at',out)) ∧ ∃ k:Nat,dZ at2 (r x) = (k:Int) ∧ k < o2.length ∧ ∃ row,o2[k]? = some row ∧ Row r (ts ++ [x]) at2 (o2.set k (row ++ [x])):=by
 rcases hr with hr | hr
 ·refine ⟨eO at' x (out.length:Int),out ++ [[]],by rw [if_pos hr],out.length,by rw [hr,cI,if_pos rfl],by simp,[],by simp,?_⟩
  have e:(ts ++ [x]).filter (fun y=>decide (r y = y)) = ts.filter (fun y=>decide (r y = y)) ++ [x]:=by simp [List.filter_append,hr]
  have hno:ts.filter (fun z=>decide (r z = x)) = []:=by
   rw [List.filter_eq_nil_iff]
   intro z hz
   have:=hx z hz; have:=hle z
   simp only [decide_eq_true_eq]; omega
  refine ⟨by rw [e]; simp [h.len],fun j hj=>?_⟩
  simp only [e,List.length_append,List.length_singleton] at hj
  by_cases hj2:j < (ts.filter fun y=>decide (r y = y)).length
  ·have hm:(ts.filter fun y=>decide (r y = y))[j] ∈ ts:=(List.mem_filter.1 (List.getElem_mem hj2)).1
   have hne:(ts.filter fun y=>decide (r y = y))[j] ≠ x:=Int.ne_of_lt (hx _ hm)
   simp only [e,List.getElem_append_left hj2]
   obtain ⟨h1,h2⟩:=h.get j hj2
   have hjl:j < out.length:=by have:=h.len; omega
   refine ⟨?_,by rw [cI,if_neg hne]; exact h2⟩
   rw [List.getElem?_set,if_neg (by omega),List.getElem?_append_left hjl,h1,List.filter_append]
   have:¬ r x = (ts.filter fun y=>decide (r y = y))[j]:=by rw [hr]; exact fun e=>hne e.symm
   simp [this]
  ·have hj3:j = (ts.filter fun y=>decide (r y = y)).length:=by omega
   subst hj3
   have eg:∀ hh,((ts ++ [x]).filter fun y=>decide (r y = y))[(ts.filter fun y=>decide (r y = y)).length]'hh = x:=fun hh=>by
    simp only [e,List.getElem_append_right (Nat.le_refl _),Nat.sub_self]; rfl
   rw [eg]
   refine ⟨?_,by rw [cI,if_pos rfl,h.len]⟩
   rw [List.getElem?_set,if_pos (by rw [h.len]),if_pos (by simp [h.len]),List.filter_append,hno]
   simp [hr]
 ·have hne:r x ≠ x:=fun e=>by have:=hx _ hr; omega
  have hm:r x ∈ ts.filter fun y=>decide (r y = y):=List.mem_filter.2 ⟨hr,by simpa using hi x⟩
  obtain ⟨k,hk,ek⟩:=List.getElem_of_mem hm
  obtain ⟨h1,h2⟩:=h.get k hk
  have hkl:k < out.length:=by have:=h.len; omega
  refine ⟨at',out,by rw [if_neg hne],k,by rw [← ek]; exact h2,hkl,_,h1,?_⟩
  have e:(ts ++ [x]).filter (fun y=>decide (r y = y)) = ts.filter (fun y=>decide (r y = y)):=by simp [List.filter_append,hne]
  refine ⟨by rw [e,List.length_set,h.len],fun j hj=>?_⟩
  simp only [e] at hj ⊢
  obtain ⟨g1,g2⟩:=h.get j hj
  refine ⟨?_,g2⟩
  rw [List.getElem?_set,List.filter_append]
  by_cases hjk:k = j
  ·subst hjk
   have:r x = (ts.filter fun y=>decide (r y = y))[k]:=ek.symm
   rw [if_pos rfl,if_pos hkl]
   simp [this]
  ·rw [if_neg hjk,g1]
   have hnd:(ts.filter fun y=>decide (r y = y))[j] ≠ r x:=fun e2=>by
    have:=(h.get j hj).2
    rw [e2,← ek,h2] at this
    omega
   have:¬ r x = (ts.filter fun y=>decide (r y = y))[j]:=fun e=>hnd e.symm
   simp [this]
theorem sets_S {F:Nat} (hF:F ≤ 100000000) {m:b9} {r:Int → Int} (h:pc m r) (hl:m.length < F):ai (bC F m) fun z=>z.1 = canon r (sorted (aB m)) ∧ pc z.2 r ∧ aB z.2 = aB m:=by
 unfold bC
 have hkl:(aB m).length = m.length:=by simp [aB]
 refine ai.aF (x:=aB m) (by unfold sj; rw [if_pos (by omega)]; rfl) (ai.aF (x:=sorted (aB m)) (by unfold cU lH; rw [if_pos (by omega)]) ?_)
 have hsl:(sorted (aB m)).length = m.length:=by rw [(oK _).length_eq,hkl]
 have hasd:ql (sorted (aB m)):=vB h.nd
 refine ai.bind (P:=fun z:List (List Int) × b9=>z.1 = canon r (sorted (aB m)) ∧ pc z.2 r ∧ aB z.2 = aB m) ?_ fun z hz=>ai.some hz
 refine ai.ea4 (I:=fun pre up at' out=>pc up r ∧ aB up = aB m ∧ Row r pre at' out) (by omega) (by omega) ⟨h,rfl,by simp,by simp⟩ ?_ fun up at' out hI=>⟨hI.2.2.eq,hI.1,hI.2.1⟩
 rintro pre x post up at' out e hx ⟨h1,h2,h3⟩
 have hul:up.length = m.length:=by rw [← hkl,← h2]; simp [aB]
 have hxs:x ∈ sorted (aB m):=by rw [e]; simp
 have hxk:dq up x = true:=jU.2 (by rw [h2]; exact m5.1 hxs)
 have hlt:∀ t ∈ pre,t < x:=fun t ht=>(List.pairwise_append.1 (e ▸ hasd)).2.2 t ht x (List.mem_cons_self ..)
 have hr:r x = x ∨ r x ∈ pre:=by
  by_cases hc:r x = x
  ·exact .inl hc
  ·have hm:r x ∈ sorted (aB m):=m5.2 (by rw [← h2]; exact jU.1 (h1.low x hxk).2.1)
   rw [e] at hm
   have hlx:r x < x:=by have:=h.rle x; omega
   rcases List.mem_append.1 hm with hm | hm
   ·exact .inr hm
   ·rcases List.mem_cons.1 hm with hm | hm
    ·exact absurd hm hc
    ·have:=(List.pairwise_cons.1 (List.pairwise_append.1 (e ▸ hasd)).2.1).1 _ hm
     omega
 have hol:out.length ≤ pre.length:=by rw [h3.len]; exact List.length_filter_le _ _
 have hpl:pre.length < m.length:=by rw [← hsl,e]; simp
 refine ai.bind (P:=fun z:b9 × b9 × List (List Int)=>pc z.1 r ∧ aB z.1 = aB m ∧ Row r (pre ++ [x]) z.2.1 z.2.2) ?_ fun z hz=>ai.some (.inl ⟨_,_,_,rfl,hz⟩)
 refine ai.aF hx (ai.bind (um h1 (by omega)) ?_)
 rintro ⟨a,up2⟩ ⟨rfl,g1,_,_,g2⟩
 simp only at g1 g2 ⊢
 obtain ⟨at2,o2,e2,k,hk,hk2,row,hrow,hR⟩:=h3.step hlt h.rle h.idem hr
 have hbl:out.length + 1 ≤ 1000000000:=by omega
 refine ai.bind (P:=(· = (at2,o2))) ?_ ?_
 ·rw [e2]
  refine ai.ite (fun hc=>?_) fun hc=>?_
  ·have hc:=of_decide_eq_true hc
   exact ai.app (by simp only [List.length_singleton]; omega) (ai.some (by rw [if_pos hc]))
  ·have hc:=of_decide_eq_false hc
   exact ai.some (by rw [if_neg hc])
 ·rintro z rfl
  simp only
  have hix:aT o2 (dZ at2 (r x)) = some row:=by
   rw [hk,gf (by omega) (by omega),dd _ _ hk2]
   rw [List.getElem?_eq_getElem hk2] at hrow; exact hrow
  have hrl:row.length ≤ pre.length:=by
   have:o2.set k (row ++ [x]) = canon r (pre ++ [x]):=hR.eq
   have h4:row ++ [x] ∈ canon r (pre ++ [x]):=by
    rw [← this]; exact List.mem_iff_getElem?.2 ⟨k,by rw [List.getElem?_set,if_pos rfl,if_pos hk2]⟩
   unfold canon at h4
   obtain ⟨q,_,hq⟩:=List.mem_map.1 h4
   have h5:=congrArg List.length hq
   have h6:=List.length_filter_le (fun z=>decide (r z = q)) (pre ++ [x])
   simp only [List.length_append,List.length_singleton] at h5 h6
   omega
  refine ai.aF hix (ai.app (by simp only [List.length_singleton]; omega) (ai.aF hix (ai.some ⟨g1,by rw [g2 hxk]; exact h2,?_⟩)))
  simp only
  rw [hk,Int.toNat_natCast]
  exact hR
theorem wk {F:Nat} (hF:F ≤ 100000000) {m:b9} {ps:List (Int × Int)} (h:St m ps) (hl:2 * ps.length < F):ai (bC F m) fun z=>Part (fun a b=>(a,b) ∈ ps) (fun a=>∃ p ∈ ps,a = p.1 ∨ a = p.2) z.1 ∧ St z.2 ps:=by
 refine (sets_S hF h.up (by have:=h.len; omega)).mono ?_
 rintro ⟨o,m'⟩ ⟨h1,h2,h3⟩
 simp only at h1 h2 h3 ⊢
 have hk:∀ u,u ∈ sorted (aB m) ↔ ∃ p ∈ ps,u = p.1 ∨ u = p.2:=fun u=>by rw [m5,h.keys]
 refine ⟨?_,h2,fun u=>by rw [h3,h.keys],?_⟩
 ·rw [h1]
  have hp:=vf (r:=mf ps) (P:=fun a b=>(a,b) ∈ ps) (vB h.up.nd) h.up.rle h.up.idem (fun z hz=>?_) (yc ps) fun a b hab=>?_
  ·exact hp.congr (fun _ _=>.rfl) hk
  ·exact m5.2 (jU.1 (h.up.low z (jU.2 (m5.1 hz))).2.1)
  ·exact ⟨fun _=>(hk b).2 ⟨(a,b),hab,.inr rfl⟩,fun _=>(hk a).2 ⟨(a,b),hab,.inl rfl⟩⟩
 ·have:(aB m').length = (aB m).length:=by rw [h3]
  simp only [aB,List.length_map] at this
  have:=h.len
  omega
theorem yl {F:Nat} (hF:F ≤ 100000000) {Ls:List (List (List Int))} (h1:Ls.length < F) (h2:Ls.flatten.length < F) (h3:2 * Ls.flatten.flatten.length + 1 < F):ai (bT F Ls) (Part (pr Ls.flatten) (dm Ls.flatten)):=by
 unfold bT
 refine ai.bind (P:=fun m=>St m (rE Ls.flatten)) ?_ ?_
 ·refine ai.r7 (I:=fun pre m=>St m (rE pre.flatten)) h1 (by omega) St.nil ?_ fun s h=>h
  rintro pre L post m e hL hI
  have eL:Ls.flatten = pre.flatten ++ L ++ post.flatten:=by rw [e]; simp
  have hLl:L.length ≤ Ls.flatten.length:=by rw [eL]; simp only [List.length_append]; omega
  refine ai.bind (P:=fun m'=>St m' (rE (pre ++ [L]).flatten)) ?_ fun m' h=>ai.some (.inl ⟨_,rfl,h⟩)
  refine ai.aF hL (ai.bind ?_ fun m' h=>ai.some h)
  refine ai.r7 (I:=fun q m=>St m (rE (pre.flatten ++ q))) (by omega) (by omega) (by simpa using hI) ?_ fun s h=>by simpa using h
  rintro q c post' m e' hc hI
  have eL2:Ls.flatten = (pre.flatten ++ q) ++ c :: (post' ++ post.flatten):=by rw [eL,e']; simp
  have hlen:(rE (pre.flatten ++ q)).length + c.length ≤ Ls.flatten.flatten.length:=by
   rw [vF,eL2]; simp; omega
  refine ai.bind (P:=fun m'=>St m' (rE (pre.flatten ++ (q ++ [c])))) ?_ fun m' h=>ai.some (.inl ⟨_,rfl,h⟩)
  refine ai.aF hc (ai.bind (P:=fun m'=>St m' (rE (pre.flatten ++ (q ++ [c])))) ?_ fun m' h=>ai.some h)
  refine ai.r7 (I:=fun t m=>St m (rE (pre.flatten ++ q) ++ t.map fun n=>(hd c,n))) (by omega) (by omega) (by simpa using hI) ?_ fun s h=>?_
  ·rintro t n post'' m e'' hn hI
   have hc0:aT c 0 = some (hd c):=by
    cases c with
    | nil=>simp at e''
    | cons a c=>exact sN [] c a
   have htl:t.length < c.length:=by rw [e'']; simp
   refine ai.aF hn (ai.aF hc0 (ai.bind (hI.join (x:=hd c) (y:=n) (by simp only [List.length_append,List.length_map]; omega)) ?_))
   rintro ⟨b,m'⟩ ⟨_,hs⟩
   refine ai.some (.inl ⟨_,rfl,?_⟩)
   simpa [List.map_append] using hs
  ·have:rE (pre.flatten ++ (q ++ [c])) = rE (pre.flatten ++ q) ++ c.map fun n=>(hd c,n):=by
    rw [← List.append_assoc,uZ]; simp [rE]
   rw [this]; exact h
 ·intro m hm
  refine ai.bind (wk hF hm (by rw [vF]; omega)) ?_
  rintro ⟨o,m'⟩ ⟨hp,_⟩
  refine ai.some (hp.congr (con_prs _) fun a=>?_)
  unfold dm
  constructor
  ·rintro ⟨⟨u,v⟩,hp,h⟩
   obtain ⟨c,hc,rfl,hv⟩:=oD.1 hp
   rcases h with h | h
   ·exact ⟨c,hc,by simp only at h; rw [h]; exact il (List.ne_nil_of_mem hv)⟩
   ·exact ⟨c,hc,by simp only at h; rw [h]; exact hv⟩
  ·rintro ⟨c,hc,h⟩
   exact ⟨(hd c,a),oD.2 ⟨c,hc,rfl,h⟩,.inr rfl⟩
theorem yk {F:Nat} (hF:F ≤ 100000000) {Ls:List (List (List Int))} (h1:Ls.length < F) (h2:Ls.flatten.length < F) (h3:2 * Ls.flatten.flatten.length + 1 < F):bT F Ls = df F Ls.flatten:=by
 obtain ⟨a,e1,p1⟩:=yl hF h1 h2 h3
 obtain ⟨b,e2,p2⟩:=vM hF h2 (by omega)
 rw [e1,e2,p1.uniq p2]
theorem qb {zs:List Int} (h:zs.Pairwise (· ≤ ·)):ql (Lib.compact zs) ∧ ∀ a,a ∈ Lib.compact zs ↔ a ∈ zs:=by
 have key:∀ m,m ≤ zs.length → ql (Lib.compactUpTo zs.toArray m) ∧ ∀ a,a ∈ Lib.compactUpTo zs.toArray m ↔ a ∈ zs.take m:=fun m=>by
  induction m with
  | zero=>intro _; simp [Lib.compactUpTo]
  | succ m ih=>
   intro hm
   obtain ⟨h1,h2⟩:=ih (by omega)
   have hml:m < zs.length:=by omega
   have em:zs.toArray[m]! = zs[m]:=by simp [getElem!_pos,hml]
   rw [Lib.compactUpTo_succ,em]
   have et:zs.take (m + 1) = zs.take m ++ [zs[m]]:=List.take_succ_eq_append_getElem hml
   by_cases hk:Lib.keeps zs.toArray m = true
   ·rw [if_pos hk,et]
    refine ⟨List.pairwise_append.2 ⟨h1,by simp,fun a ha b hb=>?_⟩,fun a=>by rw [List.mem_append,List.mem_append,h2]⟩
    rw [List.mem_singleton.1 hb]
    have ha:=(h2 a).1 ha
    obtain ⟨j,hj,rfl⟩:=List.getElem_of_mem ha
    have hj':j < m:=by rw [List.length_take] at hj; omega
    rw [List.getElem_take]
    have e1:zs[j] ≤ zs[m - 1]:=by
     by_cases e:j = m - 1
     ·subst e; exact Int.le_refl _
     ·exact List.pairwise_iff_getElem.1 h j (m - 1) (by omega) (by omega) (by omega)
    have e2:zs[m - 1] ≤ zs[m]:=List.pairwise_iff_getElem.1 h (m - 1) m (by omega) (by omega) (by omega)
    have e3:zs[m] ≠ zs[m - 1]:=by
     unfold Lib.keeps at hk
     have:=of_decide_eq_true hk
     rcases this with h | h
     ·omega
     ·intro e; apply h
      rw [em,e]; simp [getElem!_pos,show m - 1 < zs.length by omega]
    omega
   ·rw [if_neg hk,List.append_nil,et]
    refine ⟨h1,fun a=>?_⟩
    rw [h2,List.mem_append,List.mem_singleton]
    have hne:¬ (m = 0 ∨ zs.toArray[m]! ≠ zs.toArray[m - 1]!):=fun h=>hk (by unfold Lib.keeps; exact decide_eq_true h)
    have h0:m ≠ 0:=fun e=>hne (.inl e)
    have e1:zs[m] = zs[m - 1]:=by
     have:zs.toArray[m]! = zs.toArray[m - 1]!:=Classical.byContradiction fun h=>hne (.inr h)
     rw [em] at this; rw [this]; simp [getElem!_pos,show m - 1 < zs.length by omega]
    refine ⟨.inl,?_⟩
    rintro (h | rfl)
    ·exact h
    ·rw [e1]
     exact List.mem_take_iff_getElem.2 ⟨m - 1,by omega,rfl⟩
 have:=key zs.length (Nat.le_refl _)
 rw [List.take_length] at this
 exact this
def l' (h:List Int) (L:List (List Int)):Prop:=∀ c ∈ L,∀ a ∈ c,0 ≤ a ∧ a < h.length ∧ 0 ≤ idx h a
theorem wO {h c:List Int} (hl:c.length < 2000):ai (bV 2000 h c) fun r=>(r = true ↔ ∀ a ∈ c,0 ≤ a ∧ a < h.length ∧ 0 ≤ idx h a):=by
 unfold bV
 refine ai.bind (P:=fun o:Unit ⊕ Bool=>(o = .inl () ∧ ∀ a ∈ c,0 ≤ a ∧ a < h.length ∧ 0 ≤ idx h a) ∨ (o = .inr false ∧ ¬ ∀ a ∈ c,0 ≤ a ∧ a < h.length ∧ 0 ≤ idx h a)) ?_ ?_
 ·refine ai.find (c:=fun x:Int=>decide (¬ (0 ≤ x ∧ x < h.length ∧ 0 ≤ idx h x))) (r:=fun _=>false) hl (by omega) (fun hh=>.inl ⟨rfl,fun a ha=>by simpa using hh a ha⟩) (fun pre x post e _ hc=>.inr ⟨rfl,fun hh=>by have:=hh x (by rw [e]; simp); exact of_decide_eq_true hc this⟩) fun i x hx=>?_
  rw [hx]
  simp only [Option.bind_some,bR]
  by_cases h1:x < 0
  ·have:¬ (0 ≤ x ∧ x < h.length ∧ 0 ≤ idx h x):=by omega
   simp [h1,aM,this]
  ·by_cases h2:(h.length:Int) ≤ x
   ·have:¬ (0 ≤ x ∧ x < h.length ∧ 0 ≤ idx h x):=by omega
    have h4:¬ x < h.length:=by omega
    simp [h1,h4,aM,this]
   ·simp only [h1,h2,aM,decide_false,Bool.not_false,Bool.or_self,if_true,Option.bind_some,Bool.false_or,gf (show 0 ≤ x by omega) (show x < h.length by omega)]
    by_cases h3:idx h x < 0
    ·have:¬ (0 ≤ x ∧ x < h.length ∧ 0 ≤ idx h x):=by omega
     simp [h3,this]
    ·have:0 ≤ x ∧ x < h.length ∧ 0 ≤ idx h x:=by omega
     simp [h3,this]
 ·rintro o (⟨rfl,h⟩ | ⟨rfl,h⟩)
  ·exact ai.some (by simpa using h)
  ·exact ai.some (by simpa using h)
theorem wz {h:List Int} {L:List (List Int)} (hl:L.length < 2000) (hc:∀ c ∈ L,c.length < 2000):ai (bU 2000 h L) fun r=>(r = true ↔ l' h L):=by
 unfold bU
 refine ai.bind (P:=fun o:Unit ⊕ Bool=>(o = .inl () ∧ l' h L) ∨ (o = .inr false ∧ ¬ l' h L)) ?_ ?_
 ·refine ai.vp (fun pre=>l' h pre) hl (by omega) (by simp [l']) (fun pre x post e hx hI=>?_) fun h=>.inl ⟨rfl,h⟩
  have hxm:x ∈ L:=by rw [e]; simp
  refine ai.aF hx (ai.bind (wO (hc x hxm)) fun r hr=>ai.ite (fun hq=>?_) fun hq=>?_)
  ·exact ai.some (.inr ⟨_,rfl,.inr ⟨rfl,fun hh=>by have:=hr.2 (hh x hxm); simp [this] at hq⟩⟩)
  ·refine ai.some (.inl ⟨rfl,fun c hc'=>?_⟩)
   rcases List.mem_append.1 hc' with h | h
   ·exact hI c h
   ·rw [List.mem_singleton.1 h]; exact hr.1 (by simpa using hq)
 ·rintro o (⟨rfl,h⟩ | ⟨rfl,h⟩)
  ·exact ai.some (by simpa using h)
  ·exact ai.some (by simpa using h)
theorem mP {h:List Int} {L:List (List Int)} (hl:L.length < 2000) (hc:∀ c ∈ L,c.length < 2000):ai (b4 2000 h L) fun r=>(r = true ↔ l' h L):=by
 unfold b4
 refine ai.bind (P:=fun o:Unit ⊕ Bool=>(o = .inl () ∧ l' h L) ∨ (o = .inr false ∧ ¬ l' h L)) ?_ ?_
 ·refine ai.vp (fun pre=>l' h pre) hl (by omega) (by simp [l']) (fun pre x post e hx hI=>?_) fun h=>.inl ⟨rfl,h⟩
  have hxm:x ∈ L:=by rw [e]; simp
  refine ai.bind (P:=fun o:Unit ⊕ Bool=>(o = .inl () ∧ ∀ a ∈ x,0 ≤ a ∧ a < h.length ∧ 0 ≤ idx h a) ∨ (o = .inr false ∧ ¬ ∀ a ∈ x,0 ≤ a ∧ a < h.length ∧ 0 ≤ idx h a)) ?_ ?_
  ·refine ai.aF hx (ai.bind (P:=fun o:Unit ⊕ Bool=>(o = .inl () ∧ ∀ a ∈ x,0 ≤ a ∧ a < h.length ∧ 0 ≤ idx h a) ∨ (o = .inr false ∧ ¬ ∀ a ∈ x,0 ≤ a ∧ a < h.length ∧ 0 ≤ idx h a)) ?_ ?_)
   ·refine ai.find (c:=fun x:Int=>decide (¬ (0 ≤ x ∧ x < h.length ∧ 0 ≤ idx h x))) (r:=fun _=>false) (hc x hxm) (by have:=hc x hxm; omega) (fun hh=>.inl ⟨rfl,fun a ha=>by simpa using hh a ha⟩) (fun pre x post e _ hc=>.inr ⟨rfl,fun hh=>by have:=hh x (by rw [e]; simp); exact of_decide_eq_true hc this⟩) fun i x hx=>?_
    rw [hx]
    simp only [Option.bind_some,bR]
    by_cases h1:x < 0
    ·have:¬ (0 ≤ x ∧ x < h.length ∧ 0 ≤ idx h x):=by omega
     simp [h1,aM,this]
    ·by_cases h2:(h.length:Int) ≤ x
     ·have:¬ (0 ≤ x ∧ x < h.length ∧ 0 ≤ idx h x):=by omega
      simp [h1,h2,aM,this]
     ·simp only [h1,h2,aM,decide_false,Bool.not_false,Bool.or_self,if_true,Option.bind_some,Bool.false_or,gf (show 0 ≤ x by omega) (show x < h.length by omega)]
      by_cases h3:idx h x < 0
      ·have:¬ (0 ≤ x ∧ x < h.length ∧ 0 ≤ idx h x):=by omega
       simp [h3,this]
      ·have:0 ≤ x ∧ x < h.length ∧ 0 ≤ idx h x:=by omega
       simp [h3,this]
   ·rintro o (⟨rfl,h⟩ | ⟨rfl,h⟩)
    ·exact ai.some (.inl ⟨rfl,h⟩)
    ·exact ai.some (.inr ⟨rfl,h⟩)
  ·rintro o (⟨rfl,h'⟩ | ⟨rfl,h'⟩)
   ·refine ai.some (.inl ⟨rfl,fun c hc'=>?_⟩)
    rcases List.mem_append.1 hc' with h | h
    ·exact hI c h
    ·rw [List.mem_singleton.1 h]; exact h'
   ·exact ai.some (.inr ⟨_,rfl,.inr ⟨rfl,fun hh=>h' (hh x hxm)⟩⟩)
 ·rintro o (⟨rfl,h⟩ | ⟨rfl,h⟩)
  ·exact ai.some (by simpa using h)
  ·exact ai.some (by simpa using h)
def mg (L:List (List Int)):List (List Int):=(df 2000 L).getD []
def Sz (L:List (List Int)):Prop:=L.length < 990 ∧ L.flatten.length < 990
theorem iY {L:List (List Int)} (h:Sz L):df 2000 L = some (mg L) ∧ Part (pr L) (dm L) (mg L):=by
 obtain ⟨h1,h2⟩:=h
 obtain ⟨o,e,p⟩:=vM (F:=2000) (by omega) (L:=L) (by omega) (by omega)
 unfold mg
 rw [e]
 exact ⟨rfl,p⟩
theorem sm {Ls:List (List (List Int))} (h:Sz Ls.flatten) (hl:Ls.length < 2000):bT 2000 Ls = some (mg Ls.flatten):=by
 rw [yk (by omega) hl (by have:=h.1; omega) (by have:=h.2; omega)]
 exact (iY h).1
theorem mg_uniq {L:List (List Int)} {o:List (List Int)} (h:Sz L) (hp:Part (pr L) (dm L) o):mg L = o:=(iY h).2.uniq hp
theorem mg_sz {L:List (List Int)} (h:Sz L):(mg L).length ≤ L.flatten.length ∧ (∀ c ∈ mg L,c.length ≤ L.flatten.length) :=
 ⟨uo (iY h).2.toIsPt fun a=>(oF a).1,fun c hc=>vW (iY h).2.toIsPt (fun a=>(oF a).1) hc⟩
theorem xD {L:List (List Int)} (h:Sz L) (a:Int):(∃ c ∈ mg L,a ∈ c) ↔ dm L a:=((iY h).2.dom a).symm
def alone (h:List Int):List (List Int):=((List.range h.length).filter fun b:Nat=>decide (0 ≤ idx h (b:Int))).map fun b:Nat=>[(b:Int)]
theorem np (h:List Int):(alone h).length ≤ h.length:=by
 unfold alone; rw [List.length_map]; refine Nat.le_trans (List.length_filter_le _ _) ?_; simp
theorem oe (h:List Int):(alone h).flatten.length ≤ h.length:=by
 unfold alone
 rw [List.length_flatten,List.map_map]
 have:∀ l:List Nat,(l.map (List.length ∘ fun b:Nat=>[(b:Int)])).sum = l.length:=fun l=>by induction l <;> simp_all <;> omega
 rw [this]
 refine Nat.le_trans (List.length_filter_le _ _) ?_; simp
theorem rV {h c:List Int}:c ∈ alone h ↔ ∃ b:Nat,b < h.length ∧ 0 ≤ idx h (b:Int) ∧ c = [(b:Int)]:=by
 unfold alone
 simp only [List.mem_map,List.mem_filter,List.mem_range,decide_eq_true_eq]
 constructor
 ·rintro ⟨b,⟨h1,h2⟩,rfl⟩; exact ⟨b,h1,h2,rfl⟩
 ·rintro ⟨b,h1,h2,rfl⟩; exact ⟨b,⟨h1,h2⟩,rfl⟩
theorem nk (h:List Int):l' h (alone h):=by
 intro c hc a ha
 obtain ⟨b,h1,h2,rfl⟩:=rV.1 hc
 rw [List.mem_singleton.1 ha]
 exact ⟨by omega,by omega,h2⟩
theorem gQ {h:List Int} {L M:List (List Int)} (h1:l' h L) (h2:l' h M):l' h (L ++ M):=fun c hc=>by
 rcases List.mem_append.1 hc with hc | hc
 ·exact h1 c hc
 ·exact h2 c hc
theorem jQ {h:List Int} {L:List (List Int)} (hs:Sz L) (h1:l' h L):l' h (mg L):=fun c hc a ha=>by
 obtain ⟨d,hd,h2⟩:=(xD hs a).1 ⟨c,hc,ha⟩
 exact h1 d hd a h2
def rs (h c:List Int):List Int:=Lib.compact (sorted (c.map fun b=>idx h b))
theorem uk (h c:List Int):ql (rs h c):=(qb (ui _)).1
theorem qy (h c:List Int) (v:Int):v ∈ rs h c ↔ ∃ b ∈ c,idx h b = v:=by
 unfold rs; rw [(qb (ui _)).2,m5,List.mem_map]
theorem vu {h c:List Int} (hc:c ≠ []):rs h c ≠ []:=by
 obtain ⟨a,c',rfl⟩:=List.exists_cons_of_ne_nil hc
 exact List.ne_nil_of_mem ((qy h _ (idx h a)).2 ⟨a,by simp,rfl⟩)
theorem uj (h c:List Int):(rs h c).length ≤ c.length:=by
 have:=oG (m:=c.map fun b=>idx h b) (uk h c) fun a ha=>by
  obtain ⟨b,hb,rfl⟩:=(qy h c a).1 ha
  exact List.mem_map.2 ⟨b,hb,rfl⟩
 simpa using this
def dw (h c:List Int):Task:=⟨hd (rs h c),c,(rs h c).tail⟩
def rD (h:List Int) (L:List (List Int)):List Task:=(mg (L ++ alone h)).map (dw h)
theorem qD {h:List Int} {L:List (List Int)} (hh:h.length ≤ 40) (h1:L.length ≤ 800) (h2:L.flatten.length ≤ 800):Sz (L ++ alone h):=by
 have a:=np h; have b:=oe h
 refine ⟨by rw [List.length_append]; omega,by rw [List.flatten_append,List.length_append]; omega⟩
theorem idx_pre {l pre post:List Int} {x:Int} (h:aT l (pre.length:Int) = some x):idx l (pre.length:Int) = x:=ox h
theorem ix (p:Nat → Bool) (n:Nat):(List.range (n + 1)).filter p = (List.range n).filter p ++ if p n then [n] else []:=by
 rw [List.range_succ,List.filter_append]; congr 1; by_cases h:p n <;> simp [h]
theorem wA {h:List Int} {L:List (List Int)} (hh:h.length ≤ 40) (h1:L.length ≤ 800) (h2:L.flatten.length ≤ 800) (hs:l' h L):cW 2000 h L = some (rD h L):=by
 have hz:=qD hh h1 h2
 have hsd:=jQ hz (gQ hs (nk h))
 obtain ⟨l1,l2⟩:=mg_sz hz
 have hz2:=hz.2
 refine ai.eq ?_
 unfold cW
 refine ai.bind (P:=(· = alone h)) ?_ ?_
 ·refine ai.r7 (I:=fun pre s=>s = ((List.range pre.length).filter fun b:Nat=>decide (0 ≤ idx h (b:Int))).map fun b:Nat=>[(b:Int)]) (by omega) (by omega) rfl ?_ fun s h=>h
  rintro pre x post s e hx rfl
  have ex:=idx_pre (post:=post) hx
  have hpl:pre.length < h.length:=by rw [e]; simp
  refine ai.bind (P:=fun s=>s = ((List.range (pre ++ [x]).length).filter fun b:Nat=>decide (0 ≤ idx h (b:Int))).map fun b:Nat=>[(b:Int)]) ?_ fun s h=>ai.some (.inl ⟨_,rfl,h⟩)
  rw [List.length_append,List.length_singleton,ix,ex]
  refine ai.aF hx (ai.ite (fun hc=>?_) fun hc=>?_)
  ·refine ai.app ?_ (ai.some (by rw [hc]; simp))
   have:=List.length_filter_le (fun b:Nat=>decide (0 ≤ idx h (b:Int))) (List.range pre.length)
   rw [List.length_range] at this
   simp only [List.length_map,List.length_singleton]; omega
  ·exact ai.some (by rw [hc]; simp)
 ·rintro _ rfl
  refine ai.bind (P:=(· = rD h L)) ?_ fun s h=>ai.some h
  refine ai.aF (sm (Ls:=[L,alone h]) (by simpa using hz) (by simp)) ?_
  rw [show [L,alone h].flatten = L ++ alone h by simp]
  refine ai.r7 (I:=fun pre s=>s = pre.map (dw h)) (by omega) (by omega) rfl ?_ fun s h=>h
  rintro pre c post s e hx rfl
  have hcm:c ∈ mg (L ++ alone h):=by rw [e]; simp
  have hcl:=l2 c hcm
  refine ai.bind (P:=fun s=>s = (pre ++ [c]).map (dw h)) ?_ fun s h=>ai.some (.inl ⟨_,rfl,h⟩)
  refine ai.aF hx (ai.bind (P:=(· = c.map fun b=>idx h b)) ?_ ?_)
  ·refine ai.r7 (I:=fun q s=>s = q.map fun b=>idx h b) (by omega) (by omega) rfl ?_ fun s h=>h
   rintro q b post' s e' hb rfl
   have hbm:b ∈ c:=by rw [e']; simp
   obtain ⟨g1,g2,g3⟩:=hsd c hcm b hbm
   have hql:q.length < c.length:=by rw [e']; simp
   exact ai.aF hb (ai.idx g1 g2 (ai.app (by simp only [List.length_map,List.length_singleton]; omega) (ai.some (.inl ⟨_,rfl,by simp⟩))))
  ·rintro _ rfl
   have hsl:(sorted (c.map fun b=>idx h b)).length = c.length:=by rw [(oK _).length_eq,List.length_map]
   have hne:c ≠ []:=((iY hz).2.asd c hcm).1
   have hcp:0 < c.length:=List.length_pos_iff.2 hne
   refine ai.aF (x:=sorted (c.map fun b=>idx h b)) (by unfold cU lH; rw [if_pos (by simp; omega)]) (ai.aF (x:=rs h c) (by unfold dK nm; rw [if_pos (by omega)]; rfl) ?_)
   have hrl:=uj h c
   have hrn:=vu (h:=h) hne
   have hpl:pre.length < (mg (L ++ alone h)).length:=by rw [e]; simp
   have hr0:aT (rs h c) 0 = some (hd (rs h c)):=by
    cases hr:rs h c with
    | nil=>exact absurd hr hrn
    | cons a t=>exact sN [] t a
   refine ai.aF hr0 (ai.drop (by omega) (by have:=List.length_pos_iff.2 hrn; omega) (ai.app (by simp only [List.length_map,List.length_singleton]; omega) (ai.some ?_)))
   rw [List.map_append]
   simp [dw,List.drop_one]
end Go.Proofs.Ytnpddoaeoefcnaa
namespace Go.Proofs.Ytnpddoaeoefcnaa
open Go Go.Sk
set_option maxHeartbeats 4000000
set_option maxRecDepth 100000
set_option linter.unusedVariables false
theorem lv {F F':Nat} (hF:F ≤ F'):∀ a0,Le (cU F a0) (cU F' a0):=fun a0=>by
 unfold cU
 repeat' (first | exact Le.rfl _ | refine Le.bind ?_ ?_ | refine Le.ite ?_ ?_ | refine Le.iter hF ?_ _ | refine Le.aM ?_ | refine Le.bR ?_ | refine Le.bH ?_ ?_ | intro _)
theorem ny {F F':Nat} (hF:F ≤ F'):∀ a0,Le (dK F a0) (dK F' a0):=fun a0=>by
 unfold dK
 repeat' (first | exact Le.rfl _ | refine Le.bind ?_ ?_ | refine Le.ite ?_ ?_ | refine Le.iter hF ?_ _ | refine Le.aM ?_ | refine Le.bR ?_ | refine Le.bH ?_ ?_ | intro _)
theorem m4 {F F':Nat} (hF:F ≤ F'):∀ a0 a1 a2,Le (dC F a0 a1 a2) (dC F' a0 a1 a2):=fun a0 a1 a2=>by
 unfold dC
 repeat' (first | exact Le.rfl _ | refine Le.bind ?_ ?_ | refine Le.ite ?_ ?_ | refine Le.iter hF ?_ _ | refine Le.aM ?_ | refine Le.bR ?_ | refine Le.bH ?_ ?_ | intro _)
theorem pO {F F':Nat} (hF:F ≤ F'):∀ a0 a1 a2,Le (fB F a0 a1 a2) (fB F' a0 a1 a2):=fun a0 a1 a2=>by
 unfold fB
 repeat' (first | exact Le.rfl _ | exact m4 hF _ _ _ | refine Le.bind ?_ ?_ | refine Le.ite ?_ ?_ | refine Le.iter hF ?_ _ | refine Le.aM ?_ | refine Le.bR ?_ | refine Le.bH ?_ ?_ | intro _)
theorem og {F F':Nat} (hF:F ≤ F'):∀ a0 a1,Le (dD F a0 a1) (dD F' a0 a1):=fun a0 a1=>by
 unfold dD
 repeat' (first | exact Le.rfl _ | exact pO hF _ _ _ | refine Le.bind ?_ ?_ | refine Le.ite ?_ ?_ | refine Le.iter hF ?_ _ | refine Le.aM ?_ | refine Le.bR ?_ | refine Le.bH ?_ ?_ | intro _)
theorem pT {F F':Nat} (hF:F ≤ F'):∀ a0 a1 a2,Le (fC F a0 a1 a2) (fC F' a0 a1 a2):=fun a0 a1 a2=>by
 unfold fC
 repeat' (first | exact Le.rfl _ | exact og hF _ _ | refine Le.bind ?_ ?_ | refine Le.ite ?_ ?_ | refine Le.iter hF ?_ _ | refine Le.aM ?_ | refine Le.bR ?_ | refine Le.bH ?_ ?_ | intro _)
theorem eJ {F F':Nat} (hF:F ≤ F'):∀ a0 a1,Le (b4 F a0 a1) (b4 F' a0 a1):=fun a0 a1=>by
 unfold b4
 repeat' (first | exact Le.rfl _ | refine Le.bind ?_ ?_ | refine Le.ite ?_ ?_ | refine Le.iter hF ?_ _ | refine Le.aM ?_ | refine Le.bR ?_ | refine Le.bH ?_ ?_ | intro _)
theorem gq {F F':Nat} (hF:F ≤ F'):∀ (n n':Nat),n ≤ n' → ∀ a0 a1,Le (bM F n a0 a1) (bM F' n' a0 a1)
 | 0,_,_=>fun a0 a1=>Le.none _
 | n + 1,0,h=>absurd h (by omega)
 | n + 1,n' + 1,h=>fun a0 a1=>by
  unfold bM
  repeat' (first | exact Le.rfl _ | exact gq hF n n' (by omega) _ _ | refine Le.bind ?_ ?_ | refine Le.ite ?_ ?_ | refine Le.iter hF ?_ _ | refine Le.aM ?_ | refine Le.bR ?_ | refine Le.bH ?_ ?_ | intro _)
theorem gE {F F':Nat} (hF:F ≤ F'):∀ a0 a1,Le (ck F a0 a1) (ck F' a0 a1):=fun a0 a1=>gq hF _ _ hF _ _
theorem k9 {F F':Nat} (hF:F ≤ F'):∀ a0 a1 a2,Le (bN F a0 a1 a2) (bN F' a0 a1 a2):=fun a0 a1 a2=>by
 unfold bN
 repeat' (first | exact Le.rfl _ | exact gE hF _ _ | refine Le.bind ?_ ?_ | refine Le.ite ?_ ?_ | refine Le.iter hF ?_ _ | refine Le.aM ?_ | refine Le.bR ?_ | refine Le.bH ?_ ?_ | intro _)
theorem k7 {F F':Nat} (hF:F ≤ F'):∀ a0,Le (bC F a0) (bC F' a0):=fun a0=>by
 unfold bC
 repeat' (first | exact Le.rfl _ | exact gE hF _ _ | exact lv hF _ | refine Le.bind ?_ ?_ | refine Le.ite ?_ ?_ | refine Le.iter hF ?_ _ | refine Le.aM ?_ | refine Le.bR ?_ | refine Le.bH ?_ ?_ | intro _)
theorem fI {F F':Nat} (hF:F ≤ F'):∀ a0,Le (bT F a0) (bT F' a0):=fun a0=>by
 unfold bT
 repeat' (first | exact Le.rfl _ | exact k9 hF _ _ _ | exact k7 hF _ | refine Le.bind ?_ ?_ | refine Le.ite ?_ ?_ | refine Le.iter hF ?_ _ | refine Le.aM ?_ | refine Le.bR ?_ | refine Le.bH ?_ ?_ | intro _)
theorem lz {F F':Nat} (hF:F ≤ F'):∀ a0 a1,Le (cW F a0 a1) (cW F' a0 a1):=fun a0 a1=>by
 unfold cW
 repeat' (first | exact Le.rfl _ | exact fI hF _ | exact ny hF _ | exact lv hF _ | refine Le.bind ?_ ?_ | refine Le.ite ?_ ?_ | refine Le.iter hF ?_ _ | refine Le.aM ?_ | refine Le.bR ?_ | refine Le.bH ?_ ?_ | intro _)
theorem pR {F F':Nat} (hF:F ≤ F'):∀ a0 a1,Le (ey F a0 a1) (ey F' a0 a1):=fun a0 a1=>by
 unfold ey
 repeat' (first | exact Le.rfl _ | exact eJ hF _ _ | exact lz hF _ _ | refine Le.bind ?_ ?_ | refine Le.ite ?_ ?_ | refine Le.iter hF ?_ _ | refine Le.aM ?_ | refine Le.bR ?_ | refine Le.bH ?_ ?_ | intro _)
theorem nC {F F':Nat} (hF:F ≤ F'):∀ a0 a1,Le (dp F a0 a1) (dp F' a0 a1):=fun a0 a1=>by
 unfold dp
 repeat' (first | exact Le.rfl _ | refine Le.bind ?_ ?_ | refine Le.ite ?_ ?_ | refine Le.iter hF ?_ _ | refine Le.aM ?_ | refine Le.bR ?_ | refine Le.bH ?_ ?_ | intro _)
theorem mj {F F':Nat} (hF:F ≤ F'):∀ a0 a1,Le (cR F a0 a1) (cR F' a0 a1):=fun a0 a1=>by
 unfold cR
 repeat' (first | exact Le.rfl _ | exact nC hF _ _ | refine Le.bind ?_ ?_ | refine Le.ite ?_ ?_ | refine Le.iter hF ?_ _ | refine Le.aM ?_ | refine Le.bR ?_ | refine Le.bH ?_ ?_ | intro _)
theorem kX {F F':Nat} (hF:F ≤ F'):∀ a0 a1,Le (cj F a0 a1) (cj F' a0 a1):=fun a0 a1=>by
 unfold cj
 repeat' (first | exact Le.rfl _ | exact mj hF _ _ | refine Le.bind ?_ ?_ | refine Le.ite ?_ ?_ | refine Le.iter hF ?_ _ | refine Le.aM ?_ | refine Le.bR ?_ | refine Le.bH ?_ ?_ | intro _)
theorem pb {F F':Nat} (hF:F ≤ F'):∀ a0 a1,Le (dy F a0 a1) (dy F' a0 a1):=fun a0 a1=>by
 unfold dy
 repeat' (first | exact Le.rfl _ | exact kX hF _ _ | refine Le.bind ?_ ?_ | refine Le.ite ?_ ?_ | refine Le.iter hF ?_ _ | refine Le.aM ?_ | refine Le.bR ?_ | refine Le.bH ?_ ?_ | intro _)
theorem fX {F F':Nat} (hF:F ≤ F'):∀ a0 a1 a2,Le (b7 F a0 a1 a2) (b7 F' a0 a1 a2):=fun a0 a1 a2=>by
 unfold b7
 repeat' (first | exact Le.rfl _ | refine Le.bind ?_ ?_ | refine Le.ite ?_ ?_ | refine Le.iter hF ?_ _ | refine Le.aM ?_ | refine Le.bR ?_ | refine Le.bH ?_ ?_ | intro _)
theorem o8 {F F':Nat} (hF:F ≤ F'):∀ a0 a1,Le (dP F a0 a1) (dP F' a0 a1):=fun a0 a1=>by
 unfold dP
 repeat' (first | exact Le.rfl _ | refine Le.bind ?_ ?_ | refine Le.ite ?_ ?_ | refine Le.iter hF ?_ _ | refine Le.aM ?_ | refine Le.bR ?_ | refine Le.bH ?_ ?_ | intro _)
theorem fU {F F':Nat} (hF:F ≤ F'):∀ a0 a1,Le (b6 F a0 a1) (b6 F' a0 a1):=fun a0 a1=>by
 unfold b6
 repeat' (first | exact Le.rfl _ | exact o8 hF _ _ | refine Le.bind ?_ ?_ | refine Le.ite ?_ ?_ | refine Le.iter hF ?_ _ | refine Le.aM ?_ | refine Le.bR ?_ | refine Le.bH ?_ ?_ | intro _)
theorem gS {F F':Nat} (hF:F ≤ F'):∀ a0 a1 a2 a3,Le (cA F a0 a1 a2 a3) (cA F' a0 a1 a2 a3):=fun a0 a1 a2 a3=>by
 unfold cA
 repeat' (first | exact Le.rfl _ | refine Le.bind ?_ ?_ | refine Le.ite ?_ ?_ | refine Le.iter hF ?_ _ | refine Le.aM ?_ | refine Le.bR ?_ | refine Le.bH ?_ ?_ | intro _)
theorem mZ {F F':Nat} (hF:F ≤ F'):∀ a0 a1 a2 a3,Le (c9 F a0 a1 a2 a3) (c9 F' a0 a1 a2 a3):=fun a0 a1 a2 a3=>by
 unfold c9
 repeat' (first | exact Le.rfl _ | refine Le.bind ?_ ?_ | refine Le.ite ?_ ?_ | refine Le.iter hF ?_ _ | refine Le.aM ?_ | refine Le.bR ?_ | refine Le.bH ?_ ?_ | intro _)
theorem iP {F F':Nat} (hF:F ≤ F'):∀ a0 a1,Le (cV F a0 a1) (cV F' a0 a1):=fun a0 a1=>by
 unfold cV
 repeat' (first | exact Le.rfl _ | refine Le.bind ?_ ?_ | refine Le.ite ?_ ?_ | refine Le.iter hF ?_ _ | refine Le.aM ?_ | refine Le.bR ?_ | refine Le.bH ?_ ?_ | intro _)
theorem jr {F F':Nat} (hF:F ≤ F'):∀ a0 a1,Le (b8 F a0 a1) (b8 F' a0 a1):=fun a0 a1=>by
 unfold b8
 repeat' (first | exact Le.rfl _ | exact gS hF _ _ _ _ | exact fX hF _ _ _ | exact lz hF _ _ | exact iP hF _ _ | exact fU hF _ _ | refine Le.bind ?_ ?_ | refine Le.ite ?_ ?_ | refine Le.iter hF ?_ _ | refine Le.aM ?_ | refine Le.bR ?_ | refine Le.bH ?_ ?_ | intro _)
theorem lB {F F':Nat} (hF:F ≤ F'):∀ a0 a1 a2 a3 a4 a5,Le (cL F a0 a1 a2 a3 a4 a5) (cL F' a0 a1 a2 a3 a4 a5):=fun a0 a1 a2 a3 a4 a5=>by
 unfold cL
 repeat' (first | exact Le.rfl _ | exact fI hF _ | exact pb hF _ _ | exact eJ hF _ _ | exact jr hF _ _ | exact fX hF _ _ _ | refine Le.bind ?_ ?_ | refine Le.ite ?_ ?_ | refine Le.iter hF ?_ _ | refine Le.aM ?_ | refine Le.bR ?_ | refine Le.bH ?_ ?_ | intro _)
theorem kM {F F':Nat} (hF:F ≤ F'):∀ a0,Le (c7 F a0) (c7 F' a0):=fun a0=>by
 unfold c7
 repeat' (first | exact Le.rfl _ | refine Le.bind ?_ ?_ | refine Le.ite ?_ ?_ | refine Le.iter hF ?_ _ | refine Le.aM ?_ | refine Le.bR ?_ | refine Le.bH ?_ ?_ | intro _)
theorem mX {F F':Nat} (hF:F ≤ F'):∀ a0 a1 a2,Le (cn F a0 a1 a2) (cn F' a0 a1 a2):=fun a0 a1 a2=>by
 unfold cn
 repeat' (first | exact Le.rfl _ | exact fI hF _ | exact eJ hF _ _ | exact jr hF _ _ | exact kM hF _ | refine Le.bind ?_ ?_ | refine Le.ite ?_ ?_ | refine Le.iter hF ?_ _ | refine Le.aM ?_ | refine Le.bR ?_ | refine Le.bH ?_ ?_ | intro _)
theorem nu {F F':Nat} (hF:F ≤ F'):∀ a0 a1,Le (di F a0 a1) (di F' a0 a1):=fun a0 a1=>by
 unfold di
 repeat' (first | exact Le.rfl _ | refine Le.bind ?_ ?_ | refine Le.ite ?_ ?_ | refine Le.iter hF ?_ _ | refine Le.aM ?_ | refine Le.bR ?_ | refine Le.bH ?_ ?_ | intro _)
theorem fj {F F':Nat} (hF:F ≤ F'):∀ a0 a1,Le (bP F a0 a1) (bP F' a0 a1):=fun a0 a1=>by
 unfold bP
 repeat' (first | exact Le.rfl _ | exact nu hF _ _ | refine Le.bind ?_ ?_ | refine Le.ite ?_ ?_ | refine Le.iter hF ?_ _ | refine Le.aM ?_ | refine Le.bR ?_ | refine Le.bH ?_ ?_ | intro _)
theorem iA {F F':Nat} (hF:F ≤ F'):∀ a0 a1 a2 a3,Le (bZ F a0 a1 a2 a3) (bZ F' a0 a1 a2 a3):=fun a0 a1 a2 a3=>by
 unfold bZ
 repeat' (first | exact Le.rfl _ | exact eJ hF _ _ | exact gS hF _ _ _ _ | exact fj hF _ _ | refine Le.bind ?_ ?_ | refine Le.ite ?_ ?_ | refine Le.iter hF ?_ _ | refine Le.aM ?_ | refine Le.bR ?_ | refine Le.bH ?_ ?_ | intro _)
theorem iR {F F':Nat} (hF:F ≤ F'):∀ a0 a1 a2,Le (cX F a0 a1 a2) (cX F' a0 a1 a2):=fun a0 a1 a2=>by
 unfold cX
 repeat' (first | exact Le.rfl _ | refine Le.bind ?_ ?_ | refine Le.ite ?_ ?_ | refine Le.iter hF ?_ _ | refine Le.aM ?_ | refine Le.bR ?_ | refine Le.bH ?_ ?_ | intro _)
theorem l9 {F F':Nat} (hF:F ≤ F'):∀ a0 a1 a2,Le (cg F a0 a1 a2) (cg F' a0 a1 a2):=fun a0 a1 a2=>by
 unfold cg
 repeat' (first | exact Le.rfl _ | exact iR hF _ _ _ | exact iA hF _ _ _ _ | refine Le.bind ?_ ?_ | refine Le.ite ?_ ?_ | refine Le.iter hF ?_ _ | refine Le.aM ?_ | refine Le.bR ?_ | refine Le.bH ?_ ?_ | intro _)
theorem ns {F F':Nat} (hF:F ≤ F'):∀ a0 a1,Le (dh F a0 a1) (dh F' a0 a1):=fun a0 a1=>by
 unfold dh
 repeat' (first | exact Le.rfl _ | refine Le.bind ?_ ?_ | refine Le.ite ?_ ?_ | refine Le.iter hF ?_ _ | refine Le.aM ?_ | refine Le.bR ?_ | refine Le.bH ?_ ?_ | intro _)
theorem l6 {F F':Nat} (hF:F ≤ F'):∀ a0 a1,Le (cf F a0 a1) (cf F' a0 a1):=fun a0 a1=>by
 unfold cf
 repeat' (first | exact Le.rfl _ | exact ns hF _ _ | refine Le.bind ?_ ?_ | refine Le.ite ?_ ?_ | refine Le.iter hF ?_ _ | refine Le.aM ?_ | refine Le.bR ?_ | refine Le.bH ?_ ?_ | intro _)
theorem kA {F F':Nat} (hF:F ≤ F'):∀ a0 a1 a2 a3 a4 a5 a6 a7 a8,Le (bX F a0 a1 a2 a3 a4 a5 a6 a7 a8) (bX F' a0 a1 a2 a3 a4 a5 a6 a7 a8):=fun a0 a1 a2 a3 a4 a5 a6 a7 a8=>by
 unfold bX
 repeat' (first | exact Le.rfl _ | exact l6 hF _ _ | refine Le.bind ?_ ?_ | refine Le.ite ?_ ?_ | refine Le.iter hF ?_ _ | refine Le.aM ?_ | refine Le.bR ?_ | refine Le.bH ?_ ?_ | intro _)
theorem lE {F F':Nat} (hF:F ≤ F'):∀ a0 a1 a2 a3 a4 a5 a6 a7 a8,Le (cz F a0 a1 a2 a3 a4 a5 a6 a7 a8) (cz F' a0 a1 a2 a3 a4 a5 a6 a7 a8):=fun a0 a1 a2 a3 a4 a5 a6 a7 a8=>by
 unfold cz
 repeat' (first | exact Le.rfl _ | exact kA hF _ _ _ _ _ _ _ _ _ | refine Le.bind ?_ ?_ | refine Le.ite ?_ ?_ | refine Le.iter hF ?_ _ | refine Le.aM ?_ | refine Le.bR ?_ | refine Le.bH ?_ ?_ | intro _)
theorem kg {F F':Nat} (hF:F ≤ F'):∀ a0 a1 a2 a3 a4 a5 a6 a7 a8,Le (bO F a0 a1 a2 a3 a4 a5 a6 a7 a8) (bO F' a0 a1 a2 a3 a4 a5 a6 a7 a8):=fun a0 a1 a2 a3 a4 a5 a6 a7 a8=>by
 unfold bO
 repeat' (first | exact Le.rfl _ | exact lE hF _ _ _ _ _ _ _ _ _ | refine Le.bind ?_ ?_ | refine Le.ite ?_ ?_ | refine Le.iter hF ?_ _ | refine Le.aM ?_ | refine Le.bR ?_ | refine Le.bH ?_ ?_ | intro _)
theorem lG {F F':Nat} (hF:F ≤ F'):∀ a0 a1 a2,Le (ca F a0 a1 a2) (ca F' a0 a1 a2):=fun a0 a1 a2=>by
 unfold ca
 repeat' (first | exact Le.rfl _ | exact iR hF _ _ _ | exact iA hF _ _ _ _ | exact fU hF _ _ | exact kg hF _ _ _ _ _ _ _ _ _ | refine Le.bind ?_ ?_ | refine Le.ite ?_ ?_ | refine Le.iter hF ?_ _ | refine Le.aM ?_ | refine Le.bR ?_ | refine Le.bH ?_ ?_ | intro _)
theorem mb {F F':Nat} (hF:F ≤ F'):∀ a0 a1,Le (cD F a0 a1) (cD F' a0 a1):=fun a0 a1=>by
 unfold cD
 repeat' (first | exact Le.rfl _ | exact lG hF _ _ _ | exact mX hF _ _ _ | exact l9 hF _ _ _ | refine Le.bind ?_ ?_ | refine Le.ite ?_ ?_ | refine Le.iter hF ?_ _ | refine Le.aM ?_ | refine Le.bR ?_ | refine Le.bH ?_ ?_ | intro _)
theorem j9 {F F':Nat} (hF:F ≤ F'):∀ a0 a1,Le (cP F a0 a1) (cP F' a0 a1):=fun a0 a1=>by
 unfold cP
 repeat' (first | exact Le.rfl _ | exact iP hF _ _ | exact fj hF _ _ | refine Le.bind ?_ ?_ | refine Le.ite ?_ ?_ | refine Le.iter hF ?_ _ | refine Le.aM ?_ | refine Le.bR ?_ | refine Le.bH ?_ ?_ | intro _)
theorem lA {F F':Nat} (hF:F ≤ F'):∀ a0,Le (cY F a0) (cY F' a0):=fun a0=>by
 unfold cY
 repeat' (first | exact Le.rfl _ | exact j9 hF _ _ | refine Le.bind ?_ ?_ | refine Le.ite ?_ ?_ | refine Le.iter hF ?_ _ | refine Le.aM ?_ | refine Le.bR ?_ | refine Le.bH ?_ ?_ | intro _)
theorem nA {F F':Nat} (hF:F ≤ F'):∀ a0,Le (dk F a0) (dk F' a0):=fun a0=>by
 unfold dk
 repeat' (first | exact Le.rfl _ | refine Le.bind ?_ ?_ | refine Le.ite ?_ ?_ | refine Le.iter hF ?_ _ | refine Le.aM ?_ | refine Le.bR ?_ | refine Le.bH ?_ ?_ | intro _)
theorem kN {F F':Nat} (hF:F ≤ F'):∀ a0 a1 a2,Le (c8 F a0 a1 a2) (c8 F' a0 a1 a2):=fun a0 a1 a2=>by
 unfold c8
 repeat' (first | exact Le.rfl _ | exact j9 hF _ _ | exact iR hF _ _ _ | exact gS hF _ _ _ _ | exact mZ hF _ _ _ _ | exact fX hF _ _ _ | exact iP hF _ _ | exact kM hF _ | exact nA hF _ | exact fj hF _ _ | refine Le.bind ?_ ?_ | refine Le.ite ?_ ?_ | refine Le.iter hF ?_ _ | refine Le.aM ?_ | refine Le.bR ?_ | refine Le.bH ?_ ?_ | intro _)
theorem hX {F F':Nat} (hF:F ≤ F'):∀ a0 a1,Le (bI F a0 a1) (bI F' a0 a1):=fun a0 a1=>by
 unfold bI
 repeat' (first | exact Le.rfl _ | refine Le.bind ?_ ?_ | refine Le.ite ?_ ?_ | refine Le.iter hF ?_ _ | refine Le.aM ?_ | refine Le.bR ?_ | refine Le.bH ?_ ?_ | intro _)
theorem fv {F F':Nat} (hF:F ≤ F'):∀ a0 a1,Le (bt F a0 a1) (bt F' a0 a1):=fun a0 a1=>by
 unfold bt
 repeat' (first | exact Le.rfl _ | exact hX hF _ _ | refine Le.bind ?_ ?_ | refine Le.ite ?_ ?_ | refine Le.iter hF ?_ _ | refine Le.aM ?_ | refine Le.bR ?_ | refine Le.bH ?_ ?_ | intro _)
theorem jw {F F':Nat} (hF:F ≤ F'):∀ a0,Le (cb F a0) (cb F' a0):=fun a0=>by
 unfold cb
 repeat' (first | exact Le.rfl _ | exact fU hF _ _ | refine Le.bind ?_ ?_ | refine Le.ite ?_ ?_ | refine Le.iter hF ?_ _ | refine Le.aM ?_ | refine Le.bR ?_ | refine Le.bH ?_ ?_ | intro _)
theorem ky {F F':Nat} (hF:F ≤ F'):Le (bn F ) (bn F' ):=by
 unfold bn
 repeat' (first | exact Le.rfl _ | exact kN hF _ _ _ | exact lB hF _ _ _ _ _ _ | exact jw hF _ | exact mb hF _ _ | exact pT hF _ _ _ | exact lA hF _ | exact pR hF _ _ | exact fv hF _ _ | refine Le.bind ?_ ?_ | refine Le.ite ?_ ?_ | refine Le.iter hF ?_ _ | refine Le.aM ?_ | refine Le.bR ?_ | refine Le.bH ?_ ?_ | intro _)
theorem kx {F F':Nat} (hF:F ≤ F'):∀ a0 a1,Le (bW F a0 a1) (bW F' a0 a1):=fun a0 a1=>by
 unfold bW
 repeat' (first | exact Le.rfl _ | refine Le.bind ?_ ?_ | refine Le.ite ?_ ?_ | refine Le.iter hF ?_ _ | refine Le.aM ?_ | refine Le.bR ?_ | refine Le.bH ?_ ?_ | intro _)
theorem ku {F F':Nat} (hF:F ≤ F'):∀ a0 a1,Le (bV F a0 a1) (bV F' a0 a1):=fun a0 a1=>by
 unfold bV
 repeat' (first | exact Le.rfl _ | refine Le.bind ?_ ?_ | refine Le.ite ?_ ?_ | refine Le.iter hF ?_ _ | refine Le.aM ?_ | refine Le.bR ?_ | refine Le.bH ?_ ?_ | intro _)
theorem kq {F F':Nat} (hF:F ≤ F'):∀ a0 a1,Le (bU F a0 a1) (bU F' a0 a1):=fun a0 a1=>by
 unfold bU
 repeat' (first | exact Le.rfl _ | exact ku hF _ _ | refine Le.bind ?_ ?_ | refine Le.ite ?_ ?_ | refine Le.iter hF ?_ _ | refine Le.aM ?_ | refine Le.bR ?_ | refine Le.bH ?_ ?_ | intro _)
theorem gD {F F':Nat} (hF:F ≤ F'):∀ a0,Le (bu F a0) (bu F' a0):=fun a0=>by
 unfold bu
 repeat' (first | exact Le.rfl _ | refine Le.bind ?_ ?_ | refine Le.ite ?_ ?_ | refine Le.iter hF ?_ _ | refine Le.aM ?_ | refine Le.bR ?_ | refine Le.bH ?_ ?_ | intro _)
theorem gp {F F':Nat} (hF:F ≤ F'):∀ a0,Le (bG F a0) (bG F' a0):=fun a0=>by
 unfold bG
 repeat' (first | exact Le.rfl _ | exact gD hF _ | refine Le.bind ?_ ?_ | refine Le.ite ?_ ?_ | refine Le.iter hF ?_ _ | refine Le.aM ?_ | refine Le.bR ?_ | refine Le.bH ?_ ?_ | intro _)
theorem kZ {F F':Nat} (hF:F ≤ F'):∀ a0 a1,Le (bL F a0 a1) (bL F' a0 a1):=fun a0 a1=>by
 unfold bL
 repeat' (first | exact Le.rfl _ | exact gD hF _ | refine Le.bind ?_ ?_ | refine Le.ite ?_ ?_ | refine Le.iter hF ?_ _ | refine Le.aM ?_ | refine Le.bR ?_ | refine Le.bH ?_ ?_ | intro _)
end Go.Proofs.Ytnpddoaeoefcnaa
namespace Go.Proofs.Ytnpddoaeoefcnaa
open Go Go.Sk
set_option linter.unusedVariables false
set_option linter.unusedSimpArgs false
theorem ai.pass {τ:Type} {A:Int → Option (Int ⊕ τ)} {g:τ} {N st:Int} {F:Nat} {Q:τ → Prop} (h0:0 ≤ st) (hN:N ≤ 1000000000) (hF:(N - st).toNat < F) (h:∀ k,st ≤ k → k < N → A k = Option.some (.inl (IntKind.i64.wrap (k + 1)))) (hq:Q g):ai (iter F (fun i=>if decide (i < N) = true then A i else Option.some (.inr g)) st) Q:=by
 refine ai.rounds (n:=(N - st).toNat) (I:=fun k s=>s = st + (k:Int)) hF (by simp) ?_
 rintro k s hk rfl
 refine ai.ite (fun hc=>?_) fun hc=>?_
 ·have hc:=of_decide_eq_true hc
  rw [h _ (by omega) hc]
  refine ai.some (.inl ⟨_,rfl,?_,by omega⟩)
  rw [jM (by omega) (by omega)]; push_cast; omega
 ·exact ai.some (.inr ⟨_,rfl,hq⟩)
theorem eF {α:Type} [Inhabited α] {l:List α} {i j:Int} {x:α} (h0:0 ≤ i) (h1:i < l.length) (h2:0 ≤ j):idx (l.set i.toNat x) j = if j = i then x else idx l j:=by
 unfold idx
 rw [List.getD_eq_getElem?_getD,List.getD_eq_getElem?_getD,List.getElem?_set]
 by_cases e:j = i
 ·subst e; rw [if_pos rfl,if_pos (by omega),if_pos rfl]; rfl
 ·rw [if_neg (by omega),if_neg e]
theorem lJ {α:Type} [Inhabited α] {n:Nat} {x:α} {j:Int} (h0:0 ≤ j) (h1:j < n):idx (List.replicate n x) j = x:=by
 obtain ⟨m,rfl⟩:∃ m:Nat,j = m:=⟨j.toNat,by omega⟩
 rw [dd _ _ (by simp; omega)]; simp
theorem few_F {F:Nat} {L:List (List Int)} (hF:L.length < F) (hm:L.length ≤ 9223372036854775807):ai (dG F L) fun r=>(r = true → L.length ≤ 30 ∧ ∀ c ∈ L,c.length ≤ 8):=by
 unfold dG
 refine ai.bind (P:=fun o:Unit ⊕ Bool=>(o = .inl () ∧ ∀ c ∈ L,c.length ≤ 8) ∨ o = .inr false) ?_ ?_
 ·refine ai.find (c:=fun c:List Int=>decide (8 < (c.length:Int))) (r:=fun _=>false) hF hm (fun h=>.inl ⟨rfl,fun c hc=>by have:=of_decide_eq_false (h c hc); omega⟩) (fun pre x post e _ hc=>.inr rfl) fun i x hx=>by rw [hx]; rfl
 ·rintro o (⟨rfl,h⟩ | rfl)
  ·exact ai.some fun hh=>⟨by have:=of_decide_eq_true hh; omega,h⟩
  ·exact ai.some (by simp)
theorem pU:∀ {L:List (List Int)},(∀ c ∈ L,c.length ≤ 8) → L.flatten.length ≤ 8 * L.length
 | [],_=>by simp
 | c :: L,h=>by
  have:=pU (L:=L) fun d hd=>h d (List.mem_cons_of_mem _ hd)
  have:=h c (List.mem_cons_self ..)
  simp only [List.flatten_cons,List.length_append,List.length_cons]; omega
theorem x8 {F:Nat} (h:2000 ≤ F):bn F = some true:=ky h _ wm
def fK (h l:List Int) (g:Int):List Int:=l.filter fun b=>decide (idx h b = g)
def pick (s:List Str) (l:List Int):List Str:=l.map fun b=>idx s b
def whole (l:List Bool):Bool:=l.all fun b=>b
def ik (o:List Str) (p:Int × Str):List Str:=if idx o p.1 = [] then o.set p.1.toNat p.2 else o
def gU (old:List Str) (bodies:List Int) (states:List Str):List Str:=(bodies.zip states).foldl ik old
def qm (h:List Int) (L:List (List Int)):Bool:=L.all fun c=>c.all fun a=>decide (0 ≤ a ∧ a < h.length ∧ 0 ≤ idx h a)
theorem gB {h:List Int} {L:List (List Int)}:qm h L = true ↔ l' h L:=by
 unfold qm l'; simp only [List.all_eq_true,decide_eq_true_eq]
def mv (r:Round) (t:Task):Option au :=
 if t.Owner ≠ r.Me ∧ 0 < (fK r.Home t.Bodies r.Me).length then some ⟨2,r.Step,r.Me,t.Owner,[],fK r.Home t.Bodies r.Me,pick r.States (fK r.Home t.Bodies r.Me)⟩ else none
def ga (r:Round) (T:List Task):List au:=T.filterMap (mv r)
def eZ (r:Round) (out:List au):Round × List au :=
 if whole r.Heard then ({ r with Tasks:=rD r.Home r.Sets,Done:=List.replicate (rD r.Home r.Sets).length false },out ++ ga r (rD r.Home r.Sets)) else (r,out)
def isFull (l:au) (g:Int) (r:Round):Bool:=decide (l.Sets.length = 0) && decide (l.States.length = l.Bodies.length) && !(l.States.contains []) && qm r.Home [l.Bodies] && decide ((fK r.Home l.Bodies g).length = l.Bodies.length)
def big (l:au):Bool:=decide (0 < IntKind.i64.wrap ((l.Bodies.length:Int) + l.States.length))
def gC (r:Round) (l:au):Round × List au :=
 if (idx r.Heard l.From || big l) || !qm r.Home l.Sets then (r,[]) else eZ { r with Heard:=r.Heard.set l.From.toNat true,Sets:=mg (r.Sets ++ l.Sets) } []
def j5 (r:Round) (l:au):Round:=if isFull l l.From r then { r with States:=gU r.States l.Bodies l.States } else r
def jz (T:List Task) (l:List Int) (g:Int):Bool:=l.all fun b=>T.any fun t=>decide (t.Owner = g) && t.Bodies.contains b
def jm (r:Round) (l:au):Round :=
 if !isFull l r.Me r || !whole r.Heard then r else if jz r.Tasks l.Bodies l.From then { r with Results:=gU r.Results l.Bodies l.States } else r
def ours (r:Round) (l:au):Bool:=(((decide (l.To ≠ r.Me) || decide (l.Step ≠ r.Step)) || decide (l.From = r.Me)) || decide (l.From < 0)) || decide (r.Regions ≤ l.From)
def je (r:Round) (l:au):Round × List au :=
 if ours r l then (r,[]) else if l.Kind = 1 then gC r l else if l.Kind = 2 then (j5 r l,[]) else if l.Kind = 3 then (jm r l,[]) else (r,[])
structure Wf (r:Round):Prop where
 hl:r.Home.length ≤ 40
 hs:ld r.Home r.Regions
 reg:1 ≤ r.Regions ∧ r.Regions ≤ 16
 me:0 ≤ r.Me ∧ r.Me < r.Regions
 heard:(r.Heard.length:Int) = r.Regions
 sets:l' r.Home r.Sets
 sl:r.Sets.length ≤ 40
 sf:r.Sets.flatten.length ≤ 40
 st:r.States.length = r.Home.length
 re:r.Results.length = r.Home.length
 dn:r.Done.length = r.Tasks.length
 tsk:r.Tasks = if whole r.Heard then rD r.Home r.Sets else []
structure Lk (l:au):Prop where
 b:l.Bodies.length ≤ 40
 s:l.Sets.length ≤ 30
 f:l.Sets.flatten.length ≤ 240
theorem sO {s:List (List Int)} {c:List Int} (hc:c ∈ s):c.length ≤ s.flatten.length:=by
 induction s with
 | nil=>cases hc
 | cons d s ih=>
  rcases List.mem_cons.1 hc with rfl | hc
  ·simp
  ·have:=ih hc; simp only [List.flatten_cons,List.length_append]; omega
theorem qU (o:List Str) (p:Int × Str):(ik o p).length = o.length:=by unfold ik; split <;> simp
theorem nj (old:List Str) (b:List Int) (s:List Str):(gU old b s).length = old.length:=by
 unfold gU
 generalize b.zip s = z
 induction z generalizing old with
 | nil=>rfl
 | cons p z ih=>rw [List.foldl_cons,ih,qU]
theorem vc {s:List (List Int)} (hd:s.Pairwise fun c d=>∀ z ∈ c,z ∉ d) (ha:∀ c ∈ s,ql c):s.flatten.Nodup:=by
 induction s with
 | nil=>simp
 | cons c s ih=>
  have h1:=List.pairwise_cons.1 hd
  rw [List.flatten_cons,List.nodup_append]
  refine ⟨r5 (ha c (List.mem_cons_self ..)),ih h1.2 fun d hd=>ha d (List.mem_cons_of_mem _ hd),fun a hac b hb e=>?_⟩
  obtain ⟨d,hd,hbd⟩:=List.mem_flatten.1 hb
  exact h1.1 d hd a hac (e ▸ hbd)
theorem fZ {h:List Int} {L:List (List Int)} (hz:Sz L) (hs:l' h L):(mg L).flatten.length ≤ h.length ∧ (mg L).length ≤ h.length:=by
 have hp:=(iY hz).2
 have hm:=jQ hz hs
 have hnd:(mg L).flatten.Nodup:=vc hp.dj fun c hc=>(hp.asd c hc).2
 have h1:(mg L).flatten.length ≤ h.length:=by
  have:=si (m:=(List.range h.length).map fun n:Nat=>(n:Int)) hnd fun a ha=>by
   obtain ⟨c,hc,hac⟩:=List.mem_flatten.1 ha
   obtain ⟨g1,g2,_⟩:=hm c hc a hac
   exact List.mem_map.2 ⟨a.toNat,List.mem_range.2 (by omega),by omega⟩
  simpa using this
 refine ⟨h1,Nat.le_trans ?_ h1⟩
 have:∀ s:List (List Int),(∀ c ∈ s,c ≠ []) → s.length ≤ s.flatten.length:=fun s=>by
  induction s with
  | nil=>simp
  | cons c s ih=>
   intro hh
   have:=ih fun d hd=>hh d (List.mem_cons_of_mem _ hd)
   have h2:=List.length_pos_iff.2 (hh c (List.mem_cons_self ..))
   simp only [List.length_cons,List.flatten_cons,List.length_append]; omega
 exact this _ fun c hc=>(hp.asd c hc).1
theorem sA {h:List Int} {L:List (List Int)} (hh:h.length ≤ 40) (h1:L.length ≤ 800) (h2:L.flatten.length ≤ 800) (hs:l' h L) {t:Task} (ht:t ∈ rD h L) :
  (∀ b ∈ t.Bodies,0 ≤ b ∧ b < h.length ∧ 0 ≤ idx h b) ∧ t.Bodies.length ≤ 40 ∧ t.Helpers.length ≤ 40 ∧ t = dw h t.Bodies ∧ t.Bodies ∈ mg (L ++ alone h):=by
 have hz:=qD hh h1 h2
 obtain ⟨c,hc,rfl⟩:=List.mem_map.1 ht
 have hsd:=gQ hs (nk h)
 have hm:=jQ hz hsd c hc
 have hcl:c.length ≤ 40:=by
  have:=(fZ hz hsd).1
  have h3:c.length ≤ (mg (L ++ alone h)).flatten.length:=by
   have:∀ s:List (List Int),c ∈ s → c.length ≤ s.flatten.length:=fun s=>by
    induction s with
    | nil=>simp
    | cons d s ih=>
     intro hd
     rcases List.mem_cons.1 hd with rfl | hd
     ·simp
     ·have:=ih hd; simp only [List.flatten_cons,List.length_append]; omega
   exact this _ hc
  omega
 have:=uj h c
 exact ⟨hm,hcl,by show (rs h c).tail.length ≤ 40; rw [List.length_tail]; omega,rfl,hc⟩
theorem sB {h:List Int} {L:List (List Int)} (hh:h.length ≤ 40) (h1:L.length ≤ 800) (h2:L.flatten.length ≤ 800) (hs:l' h L):(rD h L).length ≤ 40:=by
 unfold rD
 rw [List.length_map]
 have:=(fZ (qD hh h1 h2) (gQ hs (nk h))).2
 omega
theorem Wf.task {r:Round} (w:Wf r) {t:Task} (ht:t ∈ r.Tasks):(∀ b ∈ t.Bodies,0 ≤ b ∧ b < r.Home.length ∧ 0 ≤ idx r.Home b) ∧ t.Bodies.length ≤ 40 ∧ t.Helpers.length ≤ 40:=by
 rw [w.tsk] at ht
 split at ht
 ·have:=sA w.hl (by have:=w.sl; omega) (by have:=w.sf; omega) w.sets ht
  exact ⟨this.1,this.2.1,this.2.2.1⟩
 ·cases ht
theorem Wf.xd {r:Round} (w:Wf r):r.Tasks.length ≤ 40:=by
 rw [w.tsk]
 split
 ·exact sB w.hl (by have:=w.sl; omega) (by have:=w.sf; omega) w.sets
 ·simp
theorem se {l:List Int} {g:Int} {r:Round} {out:List au} (hl:l.length < 2000) (h:∀ b ∈ l,0 ≤ b ∧ b < r.Home.length):cA 2000 l g r out = some (fK r.Home l g):=by
 refine ai.eq ?_
 unfold cA
 refine ai.bind ?_ fun o ho=>ai.some ho
 refine ai.r7 (I:=fun pre s=>s = fK r.Home pre g) hl (by omega) rfl ?_ fun s h=>h
 rintro pre x post s e hx rfl
 obtain ⟨g1,g2⟩:=h x (by rw [e]; simp)
 have hpl:(fK r.Home pre g).length ≤ l.length:=Nat.le_trans (List.length_filter_le _ _) (by rw [e]; simp)
 refine ai.bind (P:=fun s=>s = fK r.Home (pre ++ [x]) g) ?_ fun s h=>ai.some (.inl ⟨_,rfl,h⟩)
 have ef:fK r.Home (pre ++ [x]) g = fK r.Home pre g ++ if decide (idx r.Home x = g) then [x] else []:=by
  unfold fK; rw [List.filter_append]; simp only [List.filter_cons,List.filter_nil]
 rw [ef]
 refine ai.aF hx (ai.idx g1 g2 (ai.ite (fun hc=>?_) fun hc=>?_))
 ·exact ai.app (by simp only [List.length_singleton]; omega) (ai.some (by rw [hc]; rfl))
 ·exact ai.some (by rw [hc]; simp)
theorem ofv_own {l:List Int} {g:Int} {r:Round} {out:List au} (hl:l.length < 2000) (h:∀ b ∈ l,0 ≤ b ∧ b < r.Home.length):c9 2000 l g r out = some (fK r.Home l g):=se (out:=out) hl h
theorem py {s:List Str} {l:List Int} (hl:l.length < 2000) (h:∀ b ∈ l,0 ≤ b ∧ b < s.length):cV 2000 s l = some (pick s l):=by
 refine ai.eq ?_
 unfold cV
 refine ai.bind ?_ fun o ho=>ai.some ho
 refine ai.r7 (I:=fun pre o=>o = pick s pre) hl (by omega) rfl ?_ fun s h=>h
 rintro pre x post o e hx rfl
 obtain ⟨g1,g2⟩:=h x (by rw [e]; simp)
 have hpl:pre.length < l.length:=by rw [e]; simp
 exact ai.aF hx (ai.idx g1 g2 (ai.app (by simp only [pick,List.length_map,List.length_singleton]; omega) (ai.some (.inl ⟨_,rfl,by simp [pick]⟩))))
theorem dA {h l:List Int} {g b:Int}:b ∈ fK h l g ↔ b ∈ l ∧ idx h b = g:=by simp [fK]
theorem jA (h l:List Int) (g:Int):(fK h l g).length ≤ l.length:=List.length_filter_le _ _
theorem lZ {l:List Bool} (hl:l.length < 2000):b6 2000 l false = some (!whole l):=by
 refine ai.eq ?_
 unfold b6 dP
 refine ai.bind (P:=fun z:Int=>(0 ≤ z ↔ whole l = false)) ?_ fun z hz=>ai.some ?_
 ·refine ai.bind (P:=fun o:Unit ⊕ Int=>(o = .inl () ∧ whole l = true) ∨ ∃ k,o = .inr k ∧ 0 ≤ k ∧ whole l = false) ?_ ?_
  ·refine ai.vp (fun pre=>∀ b ∈ pre,b = true) hl (by omega) (by simp) (fun pre x post e hx hI=>?_) fun h=>.inl ⟨rfl,by simpa [whole] using h⟩
   refine ai.aF hx (ai.ite (fun h=>?_) fun h=>?_)
   ·have:x = false:=by simpa using h
    exact ai.some (.inr ⟨_,rfl,.inr ⟨_,rfl,by omega,by rw [e,this]; simp [whole]⟩⟩)
   ·have:x = true:=by simpa using h
    refine ai.some (.inl ⟨rfl,fun b hb=>?_⟩)
    rcases List.mem_append.1 hb with hb | hb
    ·exact hI b hb
    ·rw [List.mem_singleton.1 hb]; exact this
  ·rintro o (⟨rfl,h⟩ | ⟨k,rfl,h0,h⟩)
   ·exact ai.some (by rw [h]; simp)
   ·exact ai.some (by simp [h,h0])
 ·cases hw:whole l with
  | false=>simpa using hz.2 hw
  | true=>
   have:¬ 0 ≤ z:=fun h0=>by rw [hz.1 h0] at hw; cases hw
   simpa using this
theorem qE {l:au} {r:Round} {out:List au} (h:out.length < 1000000):b7 2000 l r out = some (out ++ [⟨l.Kind,r.Step,r.Me,l.To,l.Sets,l.Bodies,l.States⟩]):=by
 unfold b7
 rw [kG (by simp only [List.length_singleton]; omega)]; rfl
theorem tu {r:Round} {out:List au} (hh:r.Home.length ≤ 40) (h1:r.Sets.length ≤ 800) (h2:r.Sets.flatten.length ≤ 800) (hs:l' r.Home r.Sets) (hd:r.Heard.length < 2000) (hst:r.States.length = r.Home.length) (ho:out.length < 1000) :
  b8 2000 r out = some (eZ r out):=by
 refine ai.eq ?_
 unfold b8 eZ
 refine ai.aF (lZ hd) ?_
 cases hw:whole r.Heard with
 | false=>exact ai.rn rfl (ai.some (by simp))
 | true=>
 refine ai.iff rfl (ai.aF (wA hh h1 h2 hs) ?_)
 have hl:=sB hh h1 h2 hs
 refine ai.aF (x:=List.replicate (rD r.Home r.Sets).length false) (by unfold mk?; rw [if_pos (by omega)]; rfl) ?_
 refine ai.bind (P:=(· = out ++ ga r (rD r.Home r.Sets))) ?_ fun o ho=>ai.some (by rw [ho]; simp)
 refine ai.r7 (I:=fun pre s=>s = out ++ ga r pre) (by omega) (by omega) (by simp [ga]) ?_ fun s h=>h
 rintro pre t post s e hx rfl
 have ht:t ∈ rD r.Home r.Sets:=by rw [e]; simp
 obtain ⟨b1,b2,_⟩:=sA hh h1 h2 hs ht
 have hpl:pre.length < (rD r.Home r.Sets).length:=by rw [e]; simp
 have hll:(ga r pre).length ≤ pre.length:=List.length_filterMap_le _ _
 refine ai.bind (P:=fun s=>s = out ++ ga r (pre ++ [t])) ?_ fun s h=>ai.some (.inl ⟨_,rfl,h⟩)
 have el:ga r (pre ++ [t]) = ga r pre ++ (mv r t).toList:=by
  unfold ga; rw [List.filterMap_append]
  cases hlt:mv r t <;> simp [hlt]
 rw [el]
 refine ai.aF hx (ai.aF (se (by omega) fun b hb=>⟨(b1 b hb).1,(b1 b hb).2.1⟩) ?_)
 refine ai.ite (fun hc=>?_) fun hc=>?_
 ·have hc':t.Owner ≠ r.Me ∧ 0 < (fK r.Home t.Bodies r.Me).length:=by
   simp only [Bool.and_eq_true,decide_eq_true_eq] at hc
   exact ⟨hc.1,by omega⟩
  have hol:=jA r.Home t.Bodies r.Me
  refine ai.aF (py (s:=r.States) (l:=fK r.Home t.Bodies r.Me) (by omega) fun b hb=>?_) (ai.aF (qE (by rw [List.length_append]; omega)) (ai.some ?_))
  ·have:=b1 b (dA.1 hb).1
   exact ⟨this.1,by omega⟩
  ·unfold mv; rw [if_pos hc']; simp
 ·have hc':¬ (t.Owner ≠ r.Me ∧ 0 < (fK r.Home t.Bodies r.Me).length):=by
   intro h
   simp only [Bool.and_eq_false_iff,decide_eq_false_iff_not] at hc
   rcases hc with hc | hc
   ·exact hc h.1
   ·exact hc (by omega)
  refine ai.some ?_
  unfold mv; rw [if_neg hc']; simp
theorem kU {l:List Str} (hl:l.length < 2000):bP 2000 l [] = some (l.contains []):=by
 refine ai.eq ?_
 unfold bP di
 refine ai.bind (P:=fun z:Int=>(0 ≤ z ↔ ([]:Str) ∈ l)) ?_ fun z hz=>ai.some ?_
 ·refine ai.bind (P:=fun o:Unit ⊕ Int=>(o = .inl () ∧ ([]:Str) ∉ l) ∨ ∃ k,o = .inr k ∧ 0 ≤ k ∧ ([]:Str) ∈ l) ?_ ?_
  ·refine ai.vp (fun pre=>([]:Str) ∉ pre) hl (by omega) (by simp) (fun pre x post e hx hI=>?_) fun h=>.inl ⟨rfl,h⟩
   refine ai.aF hx (ai.ite (fun h=>?_) fun h=>?_)
   ·have:([]:Str) = x:=of_decide_eq_true h
    exact ai.some (.inr ⟨_,rfl,.inr ⟨_,rfl,by omega,by rw [e,← this]; simp⟩⟩)
   ·have:¬ ([]:Str) = x:=of_decide_eq_false h
    exact ai.some (.inl ⟨rfl,by simp only [List.mem_append,List.mem_singleton,not_or]; exact ⟨hI,this⟩⟩)
  ·rintro o (⟨rfl,h⟩ | ⟨k,rfl,h0,h⟩)
   ·exact ai.some (by simp [h])
   ·exact ai.some (by simp [h,h0])
 ·simp only [List.contains_eq_mem]
  exact decide_eq_decide.2 hz
theorem qW {l:au} {g:Int} {r:Round} {out:List au} (hb:l.Bodies.length ≤ 40):bZ 2000 l g r out = some (isFull l g r):=by
 refine ai.eq ?_
 unfold bZ isFull
 have e1:decide ((l.Sets.length:Int) = 0) = decide (l.Sets.length = 0):=decide_eq_decide.2 (by omega)
 have e2:decide ((l.States.length:Int) = (l.Bodies.length:Int)) = decide (l.States.length = l.Bodies.length):=decide_eq_decide.2 (by omega)
 rw [e1,e2]
 by_cases h1:l.Sets.length = 0
 rotate_left
 ·rw [decide_eq_false h1]
  exact ai.g0 rfl (ai.g0 rfl (ai.g0 rfl (ai.some rfl)))
 rw [decide_eq_true h1]
 by_cases h2:l.States.length = l.Bodies.length
 rotate_left
 ·rw [decide_eq_false h2]
  exact ai.g0 rfl (ai.g0 rfl (ai.g0 rfl (ai.some rfl)))
 rw [decide_eq_true h2]
 refine ai.g1 rfl (ai.aF (kU (by omega)) ?_)
 cases h3:l.States.contains [] with
 | true=>exact ai.g0 rfl (ai.g0 rfl (ai.some rfl))
 | false=>
 obtain ⟨q,eq,hq⟩:=mP (h:=r.Home) (L:=[l.Bodies]) (by simp) (fun c hc=>by rw [List.mem_singleton.1 hc]; omega)
 have:q = qm r.Home [l.Bodies]:=by
  cases hb:qm r.Home [l.Bodies] with
  | true=>exact hq.2 (gB.1 hb)
  | false=>
   cases q with
   | false=>rfl
   | true=>rw [gB.2 (hq.1 rfl)] at hb; cases hb
 refine ai.g1 rfl (ai.aF eq ?_)
 rw [this]
 cases h4:qm r.Home [l.Bodies] with
 | false=>exact ai.g0 rfl (ai.some rfl)
 | true=>
  have h5:=gB.1 h4 l.Bodies (by simp)
  refine ai.g1 rfl (ai.aF (se (by omega) fun b hb=>⟨(h5 b hb).1,(h5 b hb).2.1⟩) (ai.some ?_))
  simp
  omega
theorem yw {old:List Str}:la (List.replicate old.length ([]:Str)) old = old:=by
 simp [la]
theorem pH {old:List Str} {b:List Int} {s:List Str} (hb:b.length < 2000) (ho:old.length ≤ 1000) (hl:s.length = b.length) (h:∀ x ∈ b,0 ≤ x ∧ x < old.length):cX 2000 old b s = some (gU old b s):=by
 refine ai.eq ?_
 unfold cX
 refine ai.aF (x:=List.replicate old.length []) (by unfold mk?; rw [if_pos (by omega)]; rfl) (ai.bind ?_ fun o ho=>ai.some ho)
 rw [yw]
 refine ai.r7 (I:=fun pre o=>o = gU old pre (s.take pre.length)) hb (by omega) (by simp [gU]) ?_ fun o h=>by rw [h,← hl,List.take_length]
 rintro pre x post o e hx rfl
 obtain ⟨g1,g2⟩:=h x (by rw [e]; simp)
 have hpl:pre.length < b.length:=by rw [e]; simp
 have hsl:pre.length < s.length:=by omega
 have es:gU old (pre ++ [x]) (s.take (pre ++ [x]).length) = ik (gU old pre (s.take pre.length)) (x,s[pre.length]):=by
  unfold gU
  rw [List.length_append,List.length_singleton,List.take_succ_eq_append_getElem hsl,List.zip_append (by rw [List.length_take]; omega),List.foldl_append]
  rfl
 refine ai.bind (P:=fun o=>o = gU old (pre ++ [x]) (s.take (pre ++ [x]).length)) ?_ fun o h=>ai.some (.inl ⟨_,rfl,h⟩)
 rw [es]
 have hll:=nj old pre (s.take pre.length)
 refine ai.aF hx (ai.idx g1 (by omega) (ai.ite (fun hc=>?_) fun hc=>?_))
 ·have hc:=of_decide_eq_true hc
  refine ai.idx (by omega) (by omega) (ai.idx g1 (by omega) (ai.some ?_))
  unfold ik; rw [if_pos hc,dd _ _ hsl]
 ·have hc:=of_decide_eq_false hc
  refine ai.some ?_
  unfold ik; rw [if_neg hc]
theorem lR {l:au} {g:Int} {r:Round}:isFull l g r = true ↔ l.Sets = [] ∧ l.States.length = l.Bodies.length ∧ ([]:Str) ∉ l.States ∧ (∀ a ∈ l.Bodies,0 ≤ a ∧ a < r.Home.length ∧ idx r.Home a = g ∧ 0 ≤ g):=by
 unfold isFull
 simp only [Bool.and_eq_true,decide_eq_true_eq,Bool.not_eq_true',List.length_eq_zero_iff,gB,List.contains_eq_mem,decide_eq_false_iff_not]
 constructor
 ·rintro ⟨⟨⟨⟨h1,h2⟩,h3⟩,h4⟩,h5⟩
  refine ⟨h1,h2,h3,fun a ha=>?_⟩
  have h6:=h4 l.Bodies (by simp) a ha
  have h7:idx r.Home a = g:=by simpa using List.length_filter_eq_length_iff.1 h5 a ha
  exact ⟨h6.1,h6.2.1,h7,by rw [← h7]; exact h6.2.2⟩
 ·rintro ⟨h1,h2,h3,h4⟩
  refine ⟨⟨⟨⟨h1,h2⟩,h3⟩,fun c hc a ha=>?_⟩,?_⟩
  ·rw [List.mem_singleton.1 hc] at ha
   obtain ⟨g1,g2,g3,g4⟩:=h4 a ha
   exact ⟨g1,g2,by rw [g3]; exact g4⟩
  ·exact List.length_filter_eq_length_iff.2 fun a ha=>by simpa using (h4 a ha).2.2.1
theorem uU {l:au} {r:Round} {out:List au} (w:Wf r) (k:Lk l):cg 2000 l r out = some (j5 r l):=by
 refine ai.eq ?_
 unfold cg j5
 refine ai.aF (qW k.b) (ai.ite (fun h=>?_) fun h=>ai.some (by rw [h]; simp))
 obtain ⟨h1,h2,h3,h4⟩:=lR.1 h
 refine ai.aF (pH (by have:=k.b; omega) (by have:=w.st; have:=w.hl; omega) h2 fun x hx=>?_) (ai.some (by rw [h]; simp))
 have:=h4 x hx; have:=w.st; omega
theorem rB {l:List Int} {n:Int} (hl:l.length < 2000):cf 2000 l n = some (l.contains n):=by
 refine ai.eq ?_
 unfold cf dh
 refine ai.bind (P:=fun z:Int=>(0 ≤ z ↔ n ∈ l)) ?_ fun z hz=>ai.some ?_
 ·refine ai.bind (P:=fun o:Unit ⊕ Int=>(o = .inl () ∧ n ∉ l) ∨ ∃ k,o = .inr k ∧ 0 ≤ k ∧ n ∈ l) ?_ ?_
  ·refine ai.vp (fun pre=>n ∉ pre) hl (by omega) (by simp) (fun pre x post e hx hI=>?_) fun h=>.inl ⟨rfl,h⟩
   refine ai.aF hx (ai.ite (fun h=>?_) fun h=>?_)
   ·have:n = x:=of_decide_eq_true h
    exact ai.some (.inr ⟨_,rfl,.inr ⟨_,rfl,by omega,by rw [e,← this]; simp⟩⟩)
   ·have:¬ n = x:=of_decide_eq_false h
    exact ai.some (.inl ⟨rfl,by simp only [List.mem_append,List.mem_singleton,not_or]; exact ⟨hI,this⟩⟩)
  ·rintro o (⟨rfl,h⟩ | ⟨k,rfl,h0,h⟩)
   ·exact ai.some (by simp [h])
   ·exact ai.some (by simp [h,h0])
 ·simp only [List.contains_eq_mem]
  exact decide_eq_decide.2 hz
theorem tK {T:List Task} {l:au} {b:Int} (hT:T.length < 2000) (hb:∀ t ∈ T,t.Bodies.length < 2000):bO 2000 T l.Kind l.Step l.From l.To l.Sets l.Bodies l.States b = some (T.any fun t=>decide (t.Owner = l.From) && t.Bodies.contains b):=by
 refine ai.eq ?_
 unfold bO cz
 have h1:∀ t ∈ T,bX 2000 t l.Kind l.Step l.From l.To l.Sets l.Bodies l.States b = some (decide (t.Owner = l.From) && t.Bodies.contains b):=fun t ht=>by
  refine ai.eq ?_
  unfold bX
  cases decide (t.Owner = l.From) with
  | false=>exact ai.g0 rfl (ai.some rfl)
  | true=>exact ai.g1 rfl (ai.aF (rB (hb t ht)) (ai.some rfl))
 refine ai.bind (P:=fun z:Int=>(0 ≤ z ↔ (T.any fun t=>decide (t.Owner = l.From) && t.Bodies.contains b) = true)) ?_ fun z hz=>ai.some ?_
 ·refine ai.bind (P:=fun o:Unit ⊕ Int=>(o = .inl () ∧ ¬ (T.any fun t=>decide (t.Owner = l.From) && t.Bodies.contains b) = true) ∨ ∃ k,o = .inr k ∧ 0 ≤ k ∧ (T.any fun t=>decide (t.Owner = l.From) && t.Bodies.contains b) = true) ?_ ?_
  ·refine ai.vp (fun pre=>∀ t ∈ pre,¬ (decide (t.Owner = l.From) && t.Bodies.contains b) = true) hT (by omega) (by simp) (fun pre x post e hx hI=>?_) fun h=>.inl ⟨rfl,fun hh=>by obtain ⟨t,ht,h'⟩:=List.any_eq_true.1 hh; exact h t ht h'⟩
   have hxm:x ∈ T:=by rw [e]; simp
   refine ai.aF hx (ai.aF (h1 x hxm) (ai.ite (fun h=>?_) fun h=>?_))
   ·exact ai.some (.inr ⟨_,rfl,.inr ⟨_,rfl,by omega,List.any_eq_true.2 ⟨x,hxm,h⟩⟩⟩)
   ·refine ai.some (.inl ⟨rfl,fun t ht=>?_⟩)
    rcases List.mem_append.1 ht with ht | ht
    ·exact hI t ht
    ·rw [List.mem_singleton.1 ht,h]; simp
  ·rintro o (⟨rfl,h⟩ | ⟨k,rfl,h0,h⟩)
   ·exact ai.some (by simp only [h]; simp)
   ·exact ai.some (by simp only [h,h0])
 ·cases hh:(T.any fun t=>decide (t.Owner = l.From) && t.Bodies.contains b) with
  | true=>exact decide_eq_true (hz.2 hh)
  | false=>exact decide_eq_false fun h0=>by rw [hz.1 h0] at hh; cases hh
theorem tM {l:au} {r:Round} {out:List au} (w:Wf r) (k:Lk l):ca 2000 l r out = some (jm r l):=by
 refine ai.eq ?_
 unfold ca jm
 refine ai.aF (qW k.b) ?_
 cases hf:isFull l r.Me r with
 | false=>exact ai.g0 rfl (ai.rn rfl (ai.some (by simp)))
 | true=>
 refine ai.g1 rfl (ai.aF (lZ (by have:=w.heard; have:=w.reg; omega)) ?_)
 cases hw:whole r.Heard with
 | false=>exact ai.rn rfl (ai.some (by simp))
 | true=>
 refine ai.iff rfl ?_
 obtain ⟨h1,h2,h3,h4⟩:=lR.1 hf
 have kb:=k.b
 have hT:=w.xd
 refine ai.bind (P:=fun o:Unit ⊕ Round=>(o = .inl () ∧ jz r.Tasks l.Bodies l.From = true) ∨ (o = .inr r ∧ jz r.Tasks l.Bodies l.From = false)) ?_ ?_
 ·refine ai.vp (fun pre=>jz r.Tasks pre l.From = true) (by omega) (by omega) (by simp [jz]) (fun pre x post e hx hI=>?_) fun h=>.inl ⟨rfl,h⟩
  refine ai.aF hx (ai.aF (tK (by omega) fun t ht=>by have:=(w.task ht).2.1; omega) (ai.ite (fun h=>?_) fun h=>?_))
  ·refine ai.some (.inr ⟨_,rfl,.inr ⟨rfl,?_⟩⟩)
   unfold jz
   rw [List.all_eq_false]
   exact ⟨x,by rw [e]; simp,by rw [Bool.not_eq_true'] at h; rw [h]; simp⟩
  ·refine ai.some (.inl ⟨rfl,?_⟩)
   unfold jz at hI ⊢
   rw [Bool.not_eq_false'] at h
   rw [List.all_append,hI]
   simp only [List.all_cons,List.all_nil,h]; rfl
 ·rintro o (⟨rfl,h⟩ | ⟨rfl,h⟩)
  ·refine ai.aF (pH (by omega) (by have:=w.re; have:=w.hl; omega) h2 fun x hx=>?_) (ai.some (by simp [h]))
   have:=h4 x hx; have:=w.re; omega
  ·exact ai.some (by simp [h])
theorem pz {r:Round} {l:au} (w:Wf r) (k:Lk l):Sz (r.Sets ++ l.Sets):=by
 have:=k.f; have:=k.s; have:=w.sl; have:=w.sf
 refine ⟨by rw [List.length_append]; omega,by rw [List.flatten_append,List.length_append]; omega⟩
theorem x7 {l:au} {r:Round} (w:Wf r) (k:Lk l) (h0:0 ≤ l.From) (h1:l.From < r.Regions):cn 2000 l r [] = some (gC r l):=by
 refine ai.eq ?_
 unfold cn gC
 have hhl:=w.heard; have hrg:=w.reg; have ks:=k.s
 have hz:=pz w k
 refine ai.idx h0 (by omega) ?_
 show ai (Option.bind (aM (!(idx r.Heard l.From || big l)) _) fun x_2=>if ((idx r.Heard l.From || big l) || !x_2) = true then _ else _) _
 cases hc:(idx r.Heard l.From || big l) with
 | true=>exact ai.g0 rfl (ai.rn rfl (ai.some (by simp)))
 | false=>
 obtain ⟨q,eq,hq⟩:=mP (h:=r.Home) (L:=l.Sets) (by omega) (fun c hc=>by have:=sO hc; have:=k.f; omega)
 have:q = qm r.Home l.Sets:=by
  cases hb:qm r.Home l.Sets with
  | true=>exact hq.2 (gB.1 hb)
  | false=>
   cases q with
   | false=>rfl
   | true=>rw [gB.2 (hq.1 rfl)] at hb; cases hb
 subst this
 refine ai.g1 rfl (ai.aF eq ?_)
 cases hb:qm r.Home l.Sets with
 | false=>exact ai.rn rfl (ai.some (by simp))
 | true=>
 have hsd:l' r.Home (r.Sets ++ l.Sets):=gQ w.sets (gB.1 hb)
 obtain ⟨f1,f2⟩:=fZ hz hsd
 have hll:=w.hl
 refine ai.iff rfl (ai.aF (x:=r.Heard) (by unfold c7; rw [kG (by simp only [List.length_nil]; omega)]; rfl) (ai.idx h0 (by omega) ?_))
 refine ai.aF (sm (Ls:=[r.Sets,l.Sets]) (by simpa using hz) (by simp)) ?_
 rw [show [r.Sets,l.Sets].flatten = r.Sets ++ l.Sets by simp]
 refine ai.aF (tu (r:={ r with Heard:=r.Heard.set l.From.toNat true,Sets:=mg (r.Sets ++ l.Sets) }) w.hl (by simp only; omega) (by simp only; omega) (jQ hz hsd) (by simp only [List.length_set]; omega) w.st (by simp)) (ai.some (by simp))
theorem yv {l:au} {r:Round} (w:Wf r) (k:Lk l):cD 2000 r l = some (je r l):=by
 refine ai.eq ?_
 unfold cD je
 show ai (bR _ fun x_1=>bR _ fun x_2=>_) _
 refine ai.ln (ai.lnE (ours r l) rfl (ai.ite (fun h=>ai.some (by rw [h]; simp)) fun h=>?_))
 rw [h]
 simp only [Bool.false_eq_true,if_false]
 have hf:0 ≤ l.From ∧ l.From < r.Regions:=by
  unfold ours at h
  simp only [Bool.or_eq_false_iff,decide_eq_false_iff_not] at h
  omega
 by_cases k1:l.Kind = 1
 ·simp only [k1,decide_true,if_true]
  rw [x7 w k hf.1 hf.2]
  exact ai.some rfl
 by_cases k2:l.Kind = 2
 ·simp only [k2,decide_true,if_true]
  rw [uU w k]
  exact ai.some rfl
 by_cases k3:l.Kind = 3
 ·simp only [k3,decide_true,if_true]
  rw [tM w k]
  exact ai.some rfl
 ·simp only [k1,k2,k3,decide_false,Bool.false_eq_true,if_false]
  exact ai.some rfl
theorem xf {l:List Bool} {i:Int} (h:whole l = true) (h0:0 ≤ i) (h1:i < l.length):idx l i = true:=by
 unfold whole at h
 exact List.all_eq_true.1 h _ (gb h0 h1)
theorem vG {r:Round} {out:List au} (hl:r.Home.length ≤ 40) (hs:ld r.Home r.Regions) (reg:1 ≤ r.Regions ∧ r.Regions ≤ 16) (me:0 ≤ r.Me ∧ r.Me < r.Regions) (heard:(r.Heard.length:Int) = r.Regions) (sets:l' r.Home r.Sets) (sl:r.Sets.length ≤ 40) (sf:r.Sets.flatten.length ≤ 40)
  (st:r.States.length = r.Home.length) (re:r.Results.length = r.Home.length) (ht:r.Tasks = []) (hd:r.Done = []):Wf (eZ r out).1:=by
 unfold eZ
 split
 ·next hw=>exact ⟨hl,hs,reg,me,heard,sets,sl,sf,st,re,by simp,by simp [hw]⟩
 ·next hw=>exact ⟨hl,hs,reg,me,heard,sets,sl,sf,st,re,by rw [ht,hd]; rfl,by rw [ht,if_neg hw]⟩
theorem wB {r:Round} {l:au} (h:ours r l = false):0 ≤ l.From ∧ l.From < r.Regions ∧ l.From ≠ r.Me ∧ l.To = r.Me ∧ l.Step = r.Step:=by
 unfold ours at h
 simp only [Bool.or_eq_false_iff,decide_eq_false_iff_not] at h
 exact ⟨by omega,by omega,h.1.1.2,by omega,by omega⟩
theorem vR {r:Round} {l:au} (w:Wf r) (k:Lk l):Wf (je r l).1:=by
 unfold je
 split
 ·exact w
 ·next ho=>
  have ho:ours r l = false:=by simpa using ho
  obtain ⟨f0,f1,_⟩:=wB ho
  split
  ·unfold gC
   split
   ·exact w
   ·next hc=>
    simp only [Bool.or_eq_true,Bool.not_eq_true',not_or,Bool.not_eq_true,Bool.not_eq_false] at hc
    have hz:=pz w k
    have hsd:l' r.Home (r.Sets ++ l.Sets):=gQ w.sets (gB.1 hc.2)
    obtain ⟨f1',f2'⟩:=fZ hz hsd
    have hl:=w.hl
    have hnw:whole r.Heard = false:=by
     cases hw:whole r.Heard with
     | false=>rfl
     | true=>have:=xf hw f0 (by rw [w.heard]; exact f1); rw [hc.1.1] at this; cases this
    have ht:r.Tasks = []:=by rw [w.tsk,hnw]; rfl
    have hd:r.Done = []:=List.length_eq_zero_iff.1 (by rw [w.dn,ht]; rfl)
    exact vG hl w.hs w.reg w.me (by simp only [List.length_set]; exact w.heard) (jQ hz hsd) (by simp only; omega) (by simp only; omega) w.st w.re ht hd
  ·split
   ·unfold j5
    split
    ·exact ⟨w.hl,w.hs,w.reg,w.me,w.heard,w.sets,w.sl,w.sf,by simp only [nj]; exact w.st,w.re,w.dn,w.tsk⟩
    ·exact w
   ·split
    ·unfold jm
     split
     ·exact w
     ·split
      ·exact ⟨w.hl,w.hs,w.reg,w.me,w.heard,w.sets,w.sl,w.sf,w.st,by simp only [nj]; exact w.re,w.dn,w.tsk⟩
      ·exact w
    ·exact w
theorem tN (r:Round) (out:List au):(eZ r out).1.Me = r.Me ∧ (eZ r out).1.Regions = r.Regions ∧ (eZ r out).1.Step = r.Step ∧ (eZ r out).1.Home = r.Home ∧ (eZ r out).1.Heard = r.Heard ∧ (eZ r out).1.Sets = r.Sets ∧ (eZ r out).1.States = r.States ∧ (eZ r out).1.Results = r.Results:=by
 unfold eZ; split <;> simp
def Valid (me regions step:Int) (home:List Int) (sets:List (List Int)) (states:List Str):Prop :=
 (1 ≤ regions ∧ regions ≤ 16) ∧ (0 ≤ me ∧ me < regions) ∧ 0 ≤ step ∧ ld home regions ∧ l' home sets ∧ states.length = home.length ∧ ∀ b:Nat,b < home.length → (idx states (b:Int) ≠ [] ↔ idx home (b:Int) = me)
def mx (me regions step:Int) (home:List Int) (sets:List (List Int)) (states:List Str):Round :=
 ⟨me,regions,step,home,(List.replicate regions.toNat false).set me.toNat true,mg sets,states,[],[],List.replicate home.length []⟩
def cF (me step:Int) (sets:List (List Int)) (n:Nat):List au:=((List.range n).filter fun i:Nat=>decide ((i:Int) ≠ me)).map fun i:Nat=>⟨1,step,me,(i:Int),mg sets,[],[]⟩
theorem wX {me regions step:Int} {home:List Int} {sets:List (List Int)} {states:List Str} (hh:home.length ≤ 40) (h1:sets.length ≤ 30) (h2:∀ c ∈ sets,c.length ≤ 8) :
  ai (cL 2000 me regions step home sets states) fun z=>(z = (⟨0,0,0,[],[],[],[],[],[],[]⟩,[],1) ∧ ¬ Valid me regions step home sets states) ∨ (Valid me regions step home sets states ∧ z = ((eZ (mx me regions step home sets states) (cF me step sets regions.toNat)).1,(eZ (mx me regions step home sets states) (cF me step sets regions.toNat)).2,0)):=by
 unfold cL
 have hfl:=pU h2
 by_cases c1:(1 ≤ regions ∧ regions ≤ 16) ∧ (0 ≤ me ∧ me < regions) ∧ 0 ≤ step
 rotate_left
 ·have e:(((((decide (regions < 1)) || (decide (16 < regions))) || (decide (me < 0))) || (decide (regions ≤ me))) || (decide (step < 0))) = true:=by
   simp only [Bool.or_eq_true,decide_eq_true_eq]
   omega
  refine ai.ln ?_
  rw [e]
  refine ai.g0 rfl (ai.lnE true rfl (ai.g0 rfl (ai.lnE true rfl (ai.rn rfl (ai.some (.inl ⟨rfl,fun hv=>c1 ⟨hv.1,hv.2.1,hv.2.2.1⟩⟩))))))
 obtain ⟨r1,r2,r3⟩:=c1
 have e:(((((decide (regions < 1)) || (decide (16 < regions))) || (decide (me < 0))) || (decide (regions ≤ me))) || (decide (step < 0))) = false:=by
  simp only [Bool.or_eq_false_iff,decide_eq_false_iff_not]
  omega
 refine ai.ln ?_
 rw [e]
 refine ai.g1 rfl (ai.bind (wM (by omega)) fun q1 hq1=>?_)
 refine ai.ln ?_
 cases q1 with
 | false=>exact ai.g0 rfl (ai.lnE true rfl (ai.rn rfl (ai.some (.inl ⟨rfl,fun hv=>by simpa using hq1.2 hv.2.2.2.1⟩))))
 | true=>
 refine ai.g1 rfl (ai.bind (mP (by omega) fun c hc=>by have:=h2 c hc; omega) fun q2 hq2=>?_)
 cases q2 with
 | false=>exact ai.lnE true rfl (ai.rn rfl (ai.some (.inl ⟨rfl,fun hv=>by simpa using hq2.2 hv.2.2.2.2.1⟩)))
 | true=>
 have hH:=hq1.1 rfl
 have hS:=hq2.1 rfl
 by_cases hlen:states.length = home.length
 rotate_left
 ·exact ai.lnE true (by rw [decide_eq_true (by omega:(states.length:Int) ≠ home.length)]; rfl) (ai.rn rfl (ai.some (.inl ⟨rfl,fun hv=>hlen hv.2.2.2.2.2.1⟩)))
 refine ai.lnE false (by rw [decide_eq_false (by omega:¬ (states.length:Int) ≠ home.length)]; rfl) (ai.iff rfl ?_)
 refine ai.bind (P:=fun o:Unit ⊕ (Round × List au × Int)=>(o = .inl () ∧ ∀ b:Nat,b < home.length → (idx states (b:Int) ≠ [] ↔ idx home (b:Int) = me)) ∨ (o = .inr (⟨0,0,0,[],[],[],[],[],[],[]⟩,[],1) ∧ ¬ ∀ b:Nat,b < home.length → (idx states (b:Int) ≠ [] ↔ idx home (b:Int) = me))) ?_ ?_
 ·refine ai.vp (fun pre=>∀ b:Nat,b < pre.length → (idx states (b:Int) ≠ [] ↔ idx home (b:Int) = me)) (by omega) (by omega) (by simp) (fun pre x post e hx hI=>?_) fun h=>.inl ⟨rfl,h⟩
  have hpl:pre.length < home.length:=by rw [e]; simp
  have ex:=ox hx
  refine ai.aF hx (ai.idx (by omega) (by omega) (ai.ite (fun hc=>?_) fun hc=>?_))
  ·refine ai.some (.inr ⟨_,rfl,.inr ⟨rfl,fun hh=>?_⟩⟩)
   have:=hh pre.length hpl
   rw [ex] at this
   have e2:decide (idx states (pre.length:Int) ≠ []) = decide (x = me):=decide_eq_decide.2 this
   rw [e2] at hc
   simp at hc
  ·refine ai.some (.inl ⟨rfl,fun b hb=>?_⟩)
   by_cases hbp:b < pre.length
   ·exact hI b hbp
   ·have:b = pre.length:=by simp at hb; omega
    subst this
    rw [ex]
    have e2:decide (idx states (pre.length:Int) ≠ []) = decide (x = me):=bne_eq_false_iff_eq.1 hc
    exact decide_eq_decide.1 e2
 ·rintro o (⟨rfl,hst⟩ | ⟨rfl,hst⟩)
  rotate_left
  ·exact ai.some (.inl ⟨rfl,fun hv=>hst hv.2.2.2.2.2.2⟩)
  have hz:Sz sets:=⟨by omega,by omega⟩
  obtain ⟨f1,f2⟩:=fZ hz hS
  refine ai.aF (x:=List.replicate regions.toNat false) (by unfold mk?; rw [if_pos (by omega)]) (ai.aF (sm (Ls:=[sets]) (by simpa using hz) (by simp)) ?_)
  rw [show [sets].flatten = sets by simp]
  refine ai.aF (x:=List.replicate home.length []) (by unfold mk?; rw [if_pos (by omega)]; rfl) (ai.idx r2.1 (by simp; omega) ?_)
  refine ai.bind (P:=(· = ((List.replicate regions.toNat false).set me.toNat true,List.replicate home.length ([]:Str),cF me step sets regions.toNat))) ?_ ?_
  ·refine ai.rounds (n:=regions.toNat) (I:=fun k s=>k ≤ regions.toNat ∧ s = ((List.replicate regions.toNat false).set me.toNat true,List.replicate home.length ([]:Str),cF me step sets k,(k:Int))) (by omega) ⟨by omega,by simp [cF]⟩ ?_
   rintro k s hk ⟨_,rfl⟩
   have hbl:(cF me step sets k).length ≤ k:=by
    unfold cF; rw [List.length_map]; refine Nat.le_trans (List.length_filter_le _ _) (by simp)
   refine ai.ite (fun hc=>?_) fun hc=>?_
   ·have hc:(k:Int) < regions:=of_decide_eq_true hc
    refine ai.bind (P:=(· = cF me step sets (k + 1))) ?_ ?_
    ·have eb:cF me step sets (k + 1) = cF me step sets k ++ if decide ((k:Int) ≠ me) then [⟨1,step,me,(k:Int),mg sets,[],[]⟩] else []:=by
      unfold cF
      rw [List.range_succ,List.filter_append,List.map_append]
      simp only [List.filter_cons,List.filter_nil]
      split <;> rfl
     rw [eb]
     refine ai.ite (fun h=>?_) fun h=>?_
     ·refine ai.aF (qE (by simp only; omega)) (ai.some ?_)
      rw [h]; rfl
     ·refine ai.some ?_
      rw [h]; simp
    ·rintro _ rfl
     refine ai.some (.inl ⟨_,rfl,⟨by omega,?_⟩,by omega⟩)
     simp only
     rw [jM (by omega) (by omega)]; push_cast; rfl
   ·have hc:¬ (k:Int) < regions:=of_decide_eq_false hc
    have:k = regions.toNat:=by omega
    subst this
    exact ai.some (.inr ⟨_,rfl,rfl⟩)
  ·rintro _ rfl
   simp only [ml]
   have hbl:(cF me step sets regions.toNat).length ≤ 16:=by
    unfold cF; rw [List.length_map]; refine Nat.le_trans (List.length_filter_le _ _) (by simp; omega)
   refine ai.aF (tu (r:=mx me regions step home sets states) hh (by show (mg sets).length ≤ 800; omega) (by show (mg sets).flatten.length ≤ 800; omega) (jQ hz hS) (by show ((List.replicate regions.toNat false).set me.toNat true).length < 2000; simp; omega) hlen (by omega)) (ai.some (.inr ⟨⟨r1,r2,r3,hH,hS,hlen,hst⟩,rfl⟩))
theorem x5 {l:List Task} (hl:l.length ≤ 1000) (hc:∀ t ∈ l,t.Bodies.length ≤ 1000 ∧ t.Helpers.length ≤ 1000):bt 2000 l l = some true:=by
 refine ai.eq ?_
 unfold bt
 refine ai.iff (by simp) (ai.bind (P:=(· = .inl ())) ?_ (fun o ho=>by rw [ho]; exact ai.some rfl))
 refine ai.pass (by omega) (by omega) (by omega) (fun k h1 h2=>?_) rfl
 obtain ⟨g1,g2⟩:=hc _ (gb h1 h2)
 refine ai.eq ?_
 have e:=gf (xs:=l) h1 h2
 have e0:decide ((idx l k).Owner ≠ (idx l k).Owner) = false:=by simp
 refine ai.aF e (ai.aF e ?_)
 rw [e0]
 exact ai.g1 rfl (ai.aF e (ai.g1 rfl (ai.aF e (ai.g1 rfl (ai.aF (sD g1) (ai.g1 rfl (ai.aF e (ai.g1 rfl (ai.aF e (ai.g1 rfl (ai.aF (sD g2) (ai.iff rfl (ai.some rfl)))))))))))))
end Go.Proofs.Ytnpddoaeoefcnaa
namespace Go.Proofs.Ytnpddoaeoefcnaa
open Go Go.Sk
set_option linter.unusedVariables false
theorem xv {α:Type} (f:α → Nat):∀ {l:List α} {y:α},y ∈ l → f y ≤ (l.map f).sum
 | a :: l,y,h=>by
  rw [List.map_cons,List.sum_cons]
  rcases List.mem_cons.1 h with rfl | h
  ·omega
  ·have:=xv f h; omega
end Go.Proofs.Ytnpddoaeoefcnaa
namespace Go.Proofs.Ytnpddoaeoefcnaa
open Go Go.Sk
set_option linter.unusedVariables false
set_option linter.unusedSimpArgs false
def cm (r:Round) (k:Int):Bool:=(decide ((idx r.Tasks k).Owner = r.Me) && !(idx r.Done k)) && !((pick r.States (idx r.Tasks k).Bodies).contains [])
def fM (r:Round):List Int:=((List.range r.Tasks.length).filter fun k:Nat=>cm r k).map fun k:Nat=>(k:Int)
def finB (r:Round):Bool:=((List.range r.Tasks.length).all fun k:Nat=>!(decide ((idx r.Tasks (k:Int)).Owner = r.Me) && !(idx r.Done (k:Int)))) && ((List.range r.Home.length).all fun b:Nat=>!(decide (idx r.Home (b:Int) = r.Me) && decide (idx r.Results (b:Int) = []))) && whole r.Heard
abbrev vq:Round:=⟨0,0,0,[],[],[],[],[],[],[]⟩
def nR (all o:List Str) (b:Int):List Str:=o.set b.toNat (idx all b)
def ig (r:Round) (t:Task) (states:List Str):List Str:=gU (List.replicate r.Home.length []) t.Bodies states
def iZ (r:Round) (t:Task) (all:List Str) (g:Int):au:=⟨3,r.Step,r.Me,g,[],fK r.Home t.Bodies g,pick all (fK r.Home t.Bodies g)⟩
def answer (r:Round) (k:Int) (states:List Str):Round × List au × Int :=
 if decide (k < 0) || decide ((r.Tasks.length:Int) ≤ k) then (vq,[],5) else
 if idx r.Done k then (vq,[],6) else
 if !cm r k then (vq,[],4) else
 if decide (states.length ≠ (idx r.Tasks k).Bodies.length) || states.contains [] then (vq,[],1) else
 ({ r with Done:=r.Done.set k.toNat true,Results:=(fK r.Home (idx r.Tasks k).Bodies r.Me).foldl (nR (ig r (idx r.Tasks k) states)) r.Results },(idx r.Tasks k).Helpers.map (iZ r (idx r.Tasks k) (ig r (idx r.Tasks k) states)),0)
theorem sF (all:List Str):∀ (l:List Int) (o:List Str),(l.foldl (nR all) o).length = o.length
 | [],o=>rfl
 | b :: l,o=>by rw [List.foldl_cons,sF all l]; simp [nR]
theorem p8 {r:Round} {k:Int} (w:Wf r) (h0:0 ≤ k) (h1:k < r.Tasks.length):cP 2000 r k = some (cm r k):=by
 refine ai.eq ?_
 unfold cP cm
 have ht:=w.task (gb h0 h1)
 have hd:=w.dn; have hst:=w.st
 refine ai.idx h0 h1 ?_
 cases decide ((idx r.Tasks k).Owner = r.Me) with
 | false=>exact ai.g0 rfl (ai.g0 rfl (ai.g0 rfl (ai.some rfl)))
 | true=>
 refine ai.g1 rfl (ai.idx h0 (by omega) ?_)
 cases idx r.Done k with
 | true=>exact ai.g0 rfl (ai.g0 rfl (ai.some rfl))
 | false=>exact ai.g1 rfl (ai.aF (py (by omega) fun b hb=>by have:=ht.1 b hb; omega) (ai.g1 rfl (ai.aF (kU (by rw [pick,List.length_map]; omega)) (ai.some rfl))))
theorem ra {β:Type} (p:Nat → Bool) (f:Nat → β) (n:Nat):((List.range (n + 1)).filter p).map f = ((List.range n).filter p).map f ++ if p n then [f n] else []:=by
 rw [ix,List.map_append]; split <;> rfl
theorem wx {r:Round} (w:Wf r):cY 2000 r = some (fM r):=by
 refine ai.eq ?_
 unfold cY
 have hT:=w.xd
 refine ai.bind ?_ fun o ho=>ai.some ho
 refine ai.r7 (I:=fun pre s=>s = ((List.range pre.length).filter fun k:Nat=>cm r k).map fun k:Nat=>(k:Int)) (by omega) (by omega) rfl ?_ fun s h=>h
 rintro pre t post s e hx rfl
 have hpl:pre.length < r.Tasks.length:=by rw [e]; simp
 refine ai.bind (P:=fun s=>s = ((List.range (pre ++ [t]).length).filter fun k:Nat=>cm r k).map fun k:Nat=>(k:Int)) ?_ fun s h=>ai.some (.inl ⟨_,rfl,h⟩)
 rw [List.length_append,List.length_singleton,ra]
 refine ai.aF (p8 w (by omega) (by omega)) (ai.ite (fun h=>?_) fun h=>?_)
 ·refine ai.app ?_ (ai.some (by rw [h]; rfl))
  have:=List.length_filter_le (fun k:Nat=>cm r k) (List.range pre.length)
  simp only [List.length_range] at this
  simp only [List.length_map,List.length_singleton]; omega
 ·exact ai.some (by rw [h]; simp)
theorem j7 (p:Nat → Bool) (n:Nat):(List.range (n + 1)).all p = ((List.range n).all p && p n):=by rw [List.range_succ,List.all_append]; simp
theorem all_false {p:Nat → Bool} {n k:Nat} (hk:k < n) (h:p k = false):(List.range n).all p = false:=by
 rw [List.all_eq_false]; exact ⟨k,List.mem_range.2 hk,by rw [h]; simp⟩
theorem fin_own {r:Round} (w:Wf r):cb 2000 r = some (finB r):=by
 refine ai.eq ?_
 unfold cb finB
 have hT:=w.xd; have hd:=w.dn; have hl:=w.hl; have hre:=w.re
 refine ai.bind (P:=fun o:Unit ⊕ Bool=>(o = .inl () ∧ ((List.range r.Tasks.length).all fun k:Nat=>!(decide ((idx r.Tasks (k:Int)).Owner = r.Me) && !(idx r.Done (k:Int)))) = true) ∨ (o = .inr false ∧ ((List.range r.Tasks.length).all fun k:Nat=>!(decide ((idx r.Tasks (k:Int)).Owner = r.Me) && !(idx r.Done (k:Int)))) = false)) ?_ ?_
 ·refine ai.vp (fun pre=>((List.range pre.length).all fun k:Nat=>!(decide ((idx r.Tasks (k:Int)).Owner = r.Me) && !(idx r.Done (k:Int)))) = true) (by omega) (by omega) rfl (fun pre t post e hx hI=>?_) fun h=>.inl ⟨rfl,h⟩
  have hpl:pre.length < r.Tasks.length:=by rw [e]; simp
  have ex:=ox hx
  refine ai.aF hx ?_
  have fin:ai (if (decide (t.Owner = r.Me) && !(idx r.Done (pre.length:Int))) = true then (some (.inr (.inr false)):Option (Int ⊕ (Unit ⊕ Bool))) else some (.inl (IntKind.i64.wrap ((pre.length:Int) + 1)))) fun o=>(o = .inl (IntKind.i64.wrap ((pre.length:Int) + 1)) ∧ ((List.range (pre ++ [t]).length).all fun k:Nat=>!(decide ((idx r.Tasks (k:Int)).Owner = r.Me) && !(idx r.Done (k:Int)))) = true) ∨ ∃ z,o = .inr z ∧ ((z = .inl () ∧ ((List.range r.Tasks.length).all fun k:Nat=>!(decide ((idx r.Tasks (k:Int)).Owner = r.Me) && !(idx r.Done (k:Int)))) = true) ∨ (z = .inr false ∧ ((List.range r.Tasks.length).all fun k:Nat=>!(decide ((idx r.Tasks (k:Int)).Owner = r.Me) && !(idx r.Done (k:Int)))) = false)):=by
   refine ai.ite (fun h=>?_) fun h=>?_
   ·exact ai.some (.inr ⟨_,rfl,.inr ⟨rfl,all_false hpl (by rw [ex,h]; rfl)⟩⟩)
   ·refine ai.some (.inl ⟨rfl,?_⟩)
    rw [List.length_append,List.length_singleton,j7,hI,ex,h]; rfl
  cases hdo:decide (t.Owner = r.Me) with
  | false=>rw [hdo] at fin; exact ai.g0 rfl fin
  | true=>rw [hdo] at fin; exact ai.g1 rfl (ai.idx (by omega) (by omega) fin)
 ·rintro o (⟨rfl,h⟩ | ⟨rfl,h⟩)
  rotate_left
  ·exact ai.some (by rw [h]; simp)
  rw [h]
  refine ai.bind (P:=fun o:Unit ⊕ Bool=>(o = .inl () ∧ ((List.range r.Home.length).all fun b:Nat=>!(decide (idx r.Home (b:Int) = r.Me) && decide (idx r.Results (b:Int) = []))) = true) ∨ (o = .inr false ∧ ((List.range r.Home.length).all fun b:Nat=>!(decide (idx r.Home (b:Int) = r.Me) && decide (idx r.Results (b:Int) = []))) = false)) ?_ ?_
  ·refine ai.vp (fun pre=>((List.range pre.length).all fun b:Nat=>!(decide (idx r.Home (b:Int) = r.Me) && decide (idx r.Results (b:Int) = []))) = true) (by omega) (by omega) rfl (fun pre t post e hx hI=>?_) fun h=>.inl ⟨rfl,h⟩
   have hpl:pre.length < r.Home.length:=by rw [e]; simp
   have ex:=ox hx
   refine ai.aF hx ?_
   by_cases hdo:t = r.Me
   ·rw [decide_eq_true hdo]
    refine ai.g1 rfl (ai.idx (by omega) (by omega) (ai.ite (fun h=>?_) fun h=>?_))
    ·exact ai.some (.inr ⟨_,rfl,.inr ⟨rfl,all_false hpl (by rw [ex,decide_eq_true hdo,h]; rfl)⟩⟩)
    ·refine ai.some (.inl ⟨rfl,?_⟩)
     rw [List.length_append,List.length_singleton,j7,hI,ex,decide_eq_true hdo,h]; rfl
   ·rw [decide_eq_false hdo]
    refine ai.g0 rfl (ai.iff rfl (ai.some (.inl ⟨rfl,?_⟩)))
    rw [List.length_append,List.length_singleton,j7,hI,ex,decide_eq_false hdo]; rfl
  ·rintro o (⟨rfl,h⟩ | ⟨rfl,h⟩)
   ·rw [h]
    refine ai.aF (lZ (by have:=w.heard; have:=w.reg; omega)) (ai.some (by simp))
   ·exact ai.some (by rw [h]; simp)
theorem vm {r:Round} {k:Int} {states:List Str} (w:Wf r) (hs:states.length ≤ 9223372036854775807):c8 2000 r k states = some (answer r k states):=by
 refine ai.eq ?_
 unfold c8 answer
 have hT:=w.xd; have hd:=w.dn; have hl:=w.hl; have hre:=w.re
 refine ai.ln ?_
 cases hc:(decide (k < 0) || decide ((r.Tasks.length:Int) ≤ k)) with
 | true=>exact ai.rn rfl (ai.some (by simp))
 | false=>
 simp only [Bool.or_eq_false_iff,decide_eq_false_iff_not] at hc
 have h0:0 ≤ k:=by omega
 have h1:k < r.Tasks.length:=by omega
 have ht:=w.task (gb h0 h1)
 refine ai.iff rfl (ai.idx h0 h1 (ai.idx h0 (by omega) ?_))
 cases hdk:idx r.Done k with
 | true=>exact ai.rn rfl (ai.some (by simp))
 | false=>
 refine ai.iff rfl (ai.aF (p8 w h0 h1) ?_)
 cases hrk:cm r k with
 | false=>exact ai.rn rfl (ai.some (by simp))
 | true=>
 refine ai.iff rfl ?_
 generalize idx r.Tasks k = t at ht
 by_cases hln:states.length = t.Bodies.length
 rotate_left
 ·rw [decide_eq_true (by omega:(states.length:Int) ≠ t.Bodies.length)]
  exact ai.g0 rfl (ai.lnE true rfl (ai.rn rfl (ai.some (by rw [decide_eq_true hln]; simp))))
 rw [decide_eq_false (by omega:¬ (states.length:Int) ≠ t.Bodies.length)]
 refine ai.g1 rfl (ai.aF (kU (by omega)) ?_)
 cases hcs:states.contains [] with
 | true=>exact ai.lnE true rfl (ai.rn rfl (ai.some (by simp)))
 | false=>
 refine ai.lnE false rfl (ai.iff rfl ?_)
 refine ai.aF (x:=r.Done) (by unfold c7; rw [kG (by simp only [List.length_nil]; omega)]; rfl) (ai.aF (x:=r.Results) (by unfold dk; rw [kG (by simp only [List.length_nil]; omega)]; rfl) (ai.idx h0 (by omega) ?_))
 refine ai.aF (x:=List.replicate r.Home.length []) (by unfold mk?; rw [if_pos (by omega)]; rfl) ?_
 refine ai.aF (x:=ig r t states) (pH (by omega) (by simp; omega) hln fun x hx=>by have:=ht.1 x hx; simp; omega) ?_
 have hal:(ig r t states).length = r.Home.length:=by unfold ig; rw [nj]; simp
 refine ai.bind (P:=(· = (fK r.Home t.Bodies r.Me).foldl (nR (ig r t states)) r.Results)) ?_ ?_
 ·refine ai.aF (x:=fK r.Home t.Bodies r.Me) (ofv_own (by omega) fun b hb=>⟨(ht.1 b hb).1,(ht.1 b hb).2.1⟩) ?_
  have hol:=jA r.Home t.Bodies r.Me
  refine ai.r7 (I:=fun pre o=>o = pre.foldl (nR (ig r t states)) r.Results) (by omega) (by omega) rfl ?_ fun s h=>h
  rintro pre b post o e hb rfl
  have hbm:b ∈ t.Bodies:=(dA.1 (show b ∈ fK r.Home t.Bodies r.Me by rw [e]; simp)).1
  obtain ⟨g1,g2,_⟩:=ht.1 b hbm
  have hpl:=sF (ig r t states) pre r.Results
  exact ai.aF hb (ai.idx g1 (by omega) (ai.idx g1 (by omega) (ai.some (.inl ⟨_,rfl,by rw [List.foldl_append]; rfl⟩))))
 ·rintro _ rfl
  refine ai.bind (P:=(· = (r.Done.set k.toNat true,(fK r.Home t.Bodies r.Me).foldl (nR (ig r t states)) r.Results,t.Helpers.map (iZ r t (ig r t states))))) ?_ ?_
  ·refine ai.ea4 (I:=fun pre a b o=>a = r.Done.set k.toNat true ∧ b = (fK r.Home t.Bodies r.Me).foldl (nR (ig r t states)) r.Results ∧ o = pre.map (iZ r t (ig r t states))) (by omega) (by omega) ⟨rfl,rfl,rfl⟩ ?_ fun a b c h=>by obtain ⟨rfl,rfl,rfl⟩:=h; rfl
   rintro pre g post a b o e hg ⟨rfl,rfl,rfl⟩
   have hpl:pre.length < t.Helpers.length:=by rw [e]; simp
   have hol:=jA r.Home t.Bodies g
   refine ai.aF hg (ai.aF (se (by omega) fun b hb=>⟨(ht.1 b hb).1,(ht.1 b hb).2.1⟩) (ai.aF (py (l:=fK r.Home t.Bodies g) (by omega) fun b hb=>?_) (ai.ln (ai.aF (qE (by rw [List.length_map]; omega)) (ai.some (.inl ⟨_,_,_,rfl,rfl,rfl,?_⟩))))))
   ·have:=ht.1 b (dA.1 hb).1; omega
   ·rw [List.map_append]; rfl
  ·rintro _ rfl
   refine ai.some ?_
   simp only [hln,ne_eq,not_true_eq_false,decide_false,Bool.or_self,Bool.false_eq_true,Bool.not_true,if_false]
theorem wZ {r:Round} {k:Int} {states:List Str} (w:Wf r) (h:(answer r k states).2.2 = 0):Wf (answer r k states).1:=by
 unfold answer at h ⊢
 split at h
 ·cases h
 ·next c1=>
  rw [if_neg c1]
  split at h
  ·cases h
  ·next c2=>
   rw [if_neg c2]
   split at h
   ·cases h
   ·next c3=>
    rw [if_neg c3]
    split at h
    ·cases h
    ·next c4=>
     rw [if_neg c4]
     exact ⟨w.hl,w.hs,w.reg,w.me,w.heard,w.sets,w.sl,w.sf,w.st,by simp only [sF]; exact w.re,by simp only [List.length_set]; exact w.dn,w.tsk⟩
structure wc (l:List au):Prop where
 len:l.length ≤ 1000
 each:∀ n ∈ l,n.Sets.length ≤ 1000 ∧ (∀ c ∈ n.Sets,c.length ≤ 1000) ∧ n.Bodies.length ≤ 1000 ∧ n.States.length ≤ 1000
theorem kP:wc []:=⟨by simp,by simp⟩
theorem vH {r:Round} {out:List au} (hh:r.Home.length ≤ 40) (h1:r.Sets.length ≤ 40) (h2:r.Sets.flatten.length ≤ 40) (hs:l' r.Home r.Sets) (ho:wc out) (hol:out.length ≤ 100):wc (eZ r out).2:=by
 unfold eZ
 split
 ·have hT:=sB hh (by omega) (by omega) hs
  refine ⟨?_,fun n hn=>?_⟩
  ·have:(ga r (rD r.Home r.Sets)).length ≤ _:=List.length_filterMap_le _ _
   simp only [List.length_append]; omega
  ·rcases List.mem_append.1 hn with hn | hn
   ·exact ho.each n hn
   ·obtain ⟨t,ht,e⟩:=List.mem_filterMap.1 hn
    have:=(sA hh (by omega) (by omega) hs ht).2.1
    unfold mv at e
    split at e
    ·cases e
     have:=jA r.Home t.Bodies r.Me
     refine ⟨by simp,by simp,by simp only; omega,by simp only [pick,List.length_map]; omega⟩
    ·cases e
 ·exact ho
theorem hear_lt {r:Round} {l:au} (w:Wf r) (k:Lk l):wc (je r l).2:=by
 unfold je
 split
 ·exact kP
 split
 ·unfold gC
  split
  ·exact kP
  ·next hc=>
   simp only [Bool.or_eq_true,Bool.not_eq_true',not_or,Bool.not_eq_true,Bool.not_eq_false] at hc
   have hz:=pz w k
   have hsd:l' r.Home (r.Sets ++ l.Sets):=gQ w.sets (gB.1 hc.2)
   obtain ⟨f1',f2'⟩:=fZ hz hsd
   have hl:=w.hl
   exact vH (r:={ r with Heard:=r.Heard.set l.From.toNat true,Sets:=mg (r.Sets ++ l.Sets) }) hl (by simp only; omega) (by simp only; omega) (jQ hz hsd) kP (by simp)
 split
 ·exact kP
 split
 ·exact kP
 ·exact kP
theorem yA {me regions step:Int} {home:List Int} {sets:List (List Int)} {states:List Str} (hh:home.length ≤ 40) (h1:sets.length ≤ 30) (h2:∀ c ∈ sets,c.length ≤ 8) (hv:Valid me regions step home sets states) :
  wc (eZ (mx me regions step home sets states) (cF me step sets regions.toNat)).2:=by
 have hfl:=pU h2
 have hz:Sz sets:=⟨by omega,by omega⟩
 obtain ⟨r1,r2,r3,hH,hS,hlen,hst⟩:=hv
 obtain ⟨f1,f2⟩:=fZ hz hS
 have hbl:(cF me step sets regions.toNat).length ≤ 16:=by
  unfold cF; rw [List.length_map]; refine Nat.le_trans (List.length_filter_le _ _) (by simp; omega)
 refine vH (r:=mx me regions step home sets states) hh (by show (mg sets).length ≤ 40; omega) (by show (mg sets).flatten.length ≤ 40; omega) (jQ hz hS) ⟨by omega,fun n hn=>?_⟩ (by omega)
 obtain ⟨i,_,rfl⟩:=List.mem_map.1 hn
 exact ⟨by simp only; omega,fun c hc=>by have:c.length ≤ (mg sets).flatten.length:=sO hc; omega,by simp,by simp⟩
theorem w6 {r:Round} {k:Int} {states:List Str} (w:Wf r):wc (answer r k states).2.1:=by
 unfold answer
 split
 ·exact kP
 split
 ·exact kP
 split
 ·exact kP
 split
 ·exact kP
 ·next c1 _ _ _=>
  simp only [Bool.or_eq_true,decide_eq_true_eq,not_or] at c1
  have ht:=w.task (gb (l:=r.Tasks) (i:=k) (by omega) (by omega))
  refine ⟨by simp only [List.length_map]; omega,fun n hn=>?_⟩
  obtain ⟨g,_,rfl⟩:=List.mem_map.1 hn
  have:=jA r.Home (idx r.Tasks k).Bodies g
  exact ⟨by simp [iZ],by simp [iZ],by simp only [iZ]; omega,by simp only [iZ,pick,List.length_map]; omega⟩
theorem uY (r:Round):(fM r).length ≤ r.Tasks.length:=by
 unfold fM; rw [List.length_map]; refine Nat.le_trans (List.length_filter_le _ _) (by simp)
theorem oP {L M:List (List Int)} (hL:Sz L) (hM:Sz M) (hc:∀ a b,gy (pr L) a b ↔ gy (pr M) a b) (hd:∀ a,dm L a ↔ dm M a):mg L = mg M :=
 mg_uniq hL ((iY hM).2.congr (fun a b=>(hc a b).symm) fun a=>(hd a).symm)
theorem uM {A:List (List Int)} (hA:Sz A) (a b:Int):gy (pr (mg A)) a b ↔ gy (pr A) a b:=by
 have hp:=(iY hA).2
 refine gy.congr (fun u v ⟨c,hc,h1,h2⟩=>hp.con c hc u h1 v h2) (fun u v h=>?_) a b
 obtain ⟨h1,h2⟩:=pr_dm u v h
 obtain ⟨c,hc,hu⟩:=(hp.dom u).1 h1
 exact .of ⟨c,hc,hu,(hp.cl c hc u v h).1 hu⟩
theorem r9 {A B:List (List Int)} {a b:Int}:pr (A ++ B) a b ↔ pr A a b ∨ pr B a b:=by
 unfold pr; constructor
 ·rintro ⟨c,hc,h⟩
  rcases List.mem_append.1 hc with hc | hc
  ·exact .inl ⟨c,hc,h⟩
  ·exact .inr ⟨c,hc,h⟩
 ·rintro (⟨c,hc,h⟩ | ⟨c,hc,h⟩)
  ·exact ⟨c,List.mem_append.2 (.inl hc),h⟩
  ·exact ⟨c,List.mem_append.2 (.inr hc),h⟩
theorem qA {A B:List (List Int)} {a:Int}:dm (A ++ B) a ↔ dm A a ∨ dm B a:=by
 unfold dm; constructor
 ·rintro ⟨c,hc,h⟩
  rcases List.mem_append.1 hc with hc | hc
  ·exact .inl ⟨c,hc,h⟩
  ·exact .inr ⟨c,hc,h⟩
 ·rintro (⟨c,hc,h⟩ | ⟨c,hc,h⟩)
  ·exact ⟨c,List.mem_append.2 (.inl hc),h⟩
  ·exact ⟨c,List.mem_append.2 (.inr hc),h⟩
theorem vV {A B A' B':List (List Int)} (hA:∀ a b,gy (pr A) a b ↔ gy (pr A') a b) (hB:∀ a b,gy (pr B) a b ↔ gy (pr B') a b) (a b:Int):gy (pr (A ++ B)) a b ↔ gy (pr (A' ++ B')) a b:=by
 have up:∀ {L M:List (List Int)} {u v},gy (pr L) u v → gy (pr (L ++ M)) u v:=fun h=>h.mono fun a b h=>.of (r9.2 (.inl h))
 have up':∀ {L M:List (List Int)} {u v},gy (pr M) u v → gy (pr (L ++ M)) u v:=fun h=>h.mono fun a b h=>.of (r9.2 (.inr h))
 refine gy.congr (fun u v h=>?_) (fun u v h=>?_) a b
 ·rcases r9.1 h with h | h
  ·exact up ((hA u v).1 (.of h))
  ·exact up' ((hB u v).1 (.of h))
 ·rcases r9.1 h with h | h
  ·exact up ((hA u v).2 (.of h))
  ·exact up' ((hB u v).2 (.of h))
theorem sQ {A B:List (List Int)} (h:∀ c,c ∈ A ↔ c ∈ B) (a b:Int):gy (pr A) a b ↔ gy (pr B) a b :=
 gy.congr (fun u v ⟨c,hc,h'⟩=>.of ⟨c,(h c).1 hc,h'⟩) (fun u v ⟨c,hc,h'⟩=>.of ⟨c,(h c).2 hc,h'⟩) a b
theorem uK {A B:List (List Int)} (h:∀ c,c ∈ A ↔ c ∈ B) (a:Int):dm A a ↔ dm B a :=
 ⟨fun ⟨c,hc,h'⟩=>⟨c,(h c).1 hc,h'⟩,fun ⟨c,hc,h'⟩=>⟨c,(h c).2 hc,h'⟩⟩
theorem xm {A:List (List Int)} (hA:Sz A) (a:Int):dm (mg A) a ↔ dm A a:=xD hA a
structure kO where
 R:Nat
 h:List Int
 fd:List (List (List Int))
structure kO.Ok (C:kO):Prop where
 r1:1 ≤ C.R
 r4:C.R ≤ 4
 hl:C.h.length ≤ 12
 hm:ld C.h (C.R:Int)
 fl:C.fd.length = C.R
 fw:∀ j:Nat,j < C.R → (idx C.fd (j:Int)).length ≤ 30 ∧ ∀ c ∈ idx C.fd (j:Int),c.length ≤ 8
 fp:∀ j:Nat,j < C.R → l' C.h (idx C.fd (j:Int))
def kO.hs (C:kO) (H:List Bool):List (List Int):=((List.range C.R).filter fun j:Nat=>idx H (j:Int)).flatMap fun j:Nat=>idx C.fd (j:Int)
def kO.A (C:kO):List (List Int):=C.fd.flatten
def kO.Q (C:kO):List (List Int):=mg (C.A ++ alone C.h)
def kO.T (C:kO):List Task:=C.Q.map (dw C.h)
variable {C:kO}
theorem qz {H:List Bool} {c:List Int}:c ∈ C.hs H ↔ ∃ j:Nat,j < C.R ∧ idx H (j:Int) = true ∧ c ∈ idx C.fd (j:Int):=by
 unfold kO.hs
 simp only [List.mem_flatMap,List.mem_filter,List.mem_range]
 constructor
 ·rintro ⟨j,⟨h1,h2⟩,h3⟩; exact ⟨j,h1,h2,h3⟩
 ·rintro ⟨j,h1,h2,h3⟩; exact ⟨j,⟨h1,h2⟩,h3⟩
theorem mem_A (ok:C.Ok) {c:List Int}:c ∈ C.A ↔ ∃ j:Nat,j < C.R ∧ c ∈ idx C.fd (j:Int):=by
 unfold kO.A
 rw [List.mem_flatten]
 have fl:=ok.fl
 constructor
 ·rintro ⟨l,hl,hc⟩
  obtain ⟨j,hj,rfl⟩:=List.getElem_of_mem hl
  exact ⟨j,by omega,by rw [dd _ _ hj]; exact hc⟩
 ·rintro ⟨j,hj,hc⟩
  have hj':j < C.fd.length:=by omega
  exact ⟨_,List.getElem_mem hj',by rw [← dd _ _ hj']; exact hc⟩
theorem mQ {f:Nat → List (List Int)}:∀ {l:List Nat},(∀ j ∈ l,(f j).length ≤ 30 ∧ ∀ c ∈ f j,c.length ≤ 8) → (l.flatMap f).length ≤ 30 * l.length ∧ (l.flatMap f).flatten.length ≤ 240 * l.length
 | [],_=>by simp
 | a :: l,h=>by
  obtain ⟨i1,i2⟩:=mQ (l:=l) fun j hj=>h j (List.mem_cons_of_mem _ hj)
  obtain ⟨g1,g2⟩:=h a (List.mem_cons_self ..)
  have:=pU g2
  simp only [List.flatMap_cons,List.length_append,List.flatten_append,List.length_cons]
  omega
theorem xH (ok:C.Ok) (H:List Bool):(C.hs H).length ≤ 120 ∧ (C.hs H).flatten.length ≤ 960:=by
 unfold kO.hs
 have h1:=List.length_filter_le (fun j:Nat=>idx H (j:Int)) (List.range C.R)
 rw [List.length_range] at h1
 have:=mQ (l:=(List.range C.R).filter fun j:Nat=>idx H (j:Int)) (f:=fun j:Nat=>idx C.fd (j:Int)) fun j hj=>ok.fw j (List.mem_range.1 (List.mem_filter.1 hj).1)
 have:=ok.r4
 omega
theorem oz (ok:C.Ok) (H:List Bool):Sz (C.hs H):=by have:=xH ok H; exact ⟨by omega,by omega⟩
theorem A_hs (ok:C.Ok):C.A = C.hs (List.replicate C.R true):=by
 unfold kO.A kO.hs
 have e1:((List.range C.R).filter fun j:Nat=>idx (List.replicate C.R true) (j:Int)) = List.range C.R:=List.filter_eq_self.2 fun j hj=>by
  rw [lJ (by omega) (by have:=List.mem_range.1 hj; omega)]
 rw [e1,List.flatMap_def]
 congr 1
 refine List.ext_getElem (by simp [ok.fl]) fun i h1 h2=>?_
 rw [List.getElem_map,List.getElem_range,dd _ _ h1]
theorem A_len (ok:C.Ok):C.A.length ≤ 120 ∧ C.A.flatten.length ≤ 960:=by rw [A_hs ok]; exact xH ok _
theorem A_sz (ok:C.Ok):Sz C.A:=by rw [A_hs ok]; exact oz ok _
theorem sn (ok:C.Ok) (H:List Bool):l' C.h (C.hs H):=fun c hc=>by
 obtain ⟨j,hj,_,h⟩:=qz.1 hc
 exact ok.fp j hj c h
theorem hsd_A (ok:C.Ok):l' C.h C.A:=by rw [A_hs ok]; exact sn ok _
theorem tn (ok:C.Ok):Sz (C.A ++ alone C.h):=by
 have:=A_len ok; have a:=np C.h; have b:=oe C.h; have:=ok.hl
 exact ⟨by rw [List.length_append]; omega,by rw [List.flatten_append,List.length_append]; omega⟩
theorem xG (ok:C.Ok):l' C.h (C.A ++ alone C.h):=gQ (hsd_A ok) (nk _)
theorem qB (ok:C.Ok):Part (pr (C.A ++ alone C.h)) (dm (C.A ++ alone C.h)) C.Q:=(iY (tn ok)).2
theorem ij (ok:C.Ok):l' C.h C.Q:=jQ (tn ok) (xG ok)
theorem rL (ok:C.Ok):C.Q.length ≤ 12 ∧ ∀ c ∈ C.Q,c.length ≤ 12:=by
 have:=fZ (tn ok) (xG ok)
 have:=ok.hl
 refine ⟨by unfold kO.Q; omega,fun c hc=>?_⟩
 have:c.length ≤ C.Q.flatten.length:=sO hc
 unfold kO.Q at this
 omega
theorem Q_mem (ok:C.Ok) {b:Int} (h0:0 ≤ b) (h1:b < C.h.length) (hb:0 ≤ idx C.h b):∃ c ∈ C.Q,b ∈ c :=
 ((qB ok).dom b).1 (qA.2 (.inr ⟨[b],rV.2 ⟨b.toNat,by omega,by rw [show ((b.toNat:Nat):Int) = b by omega]; exact hb,by rw [show ((b.toNat:Nat):Int) = b by omega]⟩,by simp⟩))
theorem uP (ok:C.Ok) {c d:List Int} (hc:c ∈ C.Q) (hd:d ∈ C.Q) {b:Int} (h1:b ∈ c) (h2:b ∈ d):c = d:=by
 have hp:=qB ok
 refine sR (hp.asd c hc).2 (hp.asd d hd).2 fun a=>?_
 rw [hp.mem hc h1,hp.mem hd h2]
theorem T_eq (ok:C.Ok):rD C.h (mg C.A) = C.T:=by
 unfold rD kO.T kO.Q
 congr 1
 have hz:Sz (mg C.A ++ alone C.h):=by
  have:=fZ (A_sz ok) (hsd_A ok)
  have a:=np C.h; have b:=oe C.h; have:=ok.hl
  exact ⟨by rw [List.length_append]; omega,by rw [List.flatten_append,List.length_append]; omega⟩
 refine oP hz (tn ok) (vV (uM (A_sz ok)) fun _ _=>.rfl) fun a=>?_
 rw [qA,qA,xm (A_sz ok)]
theorem tD (ok:C.Ok) {H:List Bool} (hl:H.length = C.R) (hw:whole H = true):mg (C.hs H) = mg C.A:=by
 have hmem:∀ c,c ∈ C.hs H ↔ c ∈ C.A:=fun c=>by
  rw [qz,mem_A ok]
  constructor
  ·rintro ⟨j,h1,_,h3⟩; exact ⟨j,h1,h3⟩
  ·rintro ⟨j,h1,h3⟩; exact ⟨j,h1,xf hw (by omega) (by omega),h3⟩
 exact oP (oz ok H) (A_sz ok) (sQ hmem) (uK hmem)
theorem hs_set (ok:C.Ok) {H:List Bool} (hl:H.length = C.R) {j:Nat} (hj:j < C.R):mg (mg (C.hs H) ++ mg (idx C.fd (j:Int))) = mg (C.hs (H.set j true)):=by
 have hmem:∀ c,c ∈ C.hs (H.set j true) ↔ c ∈ C.hs H ++ idx C.fd (j:Int):=fun c=>by
  rw [List.mem_append,qz,qz]
  have key:∀ i:Nat,idx (H.set j true) (i:Int) = if (i:Int) = (j:Int) then true else idx H (i:Int):=fun i=>by
   have:=eF (l:=H) (i:=(j:Int)) (j:=(i:Int)) (x:=true) (by omega) (by omega) (by omega)
   simpa using this
  constructor
  ·rintro ⟨i,h1,h2,h3⟩
   rw [key] at h2
   by_cases e:(i:Int) = (j:Int)
   ·have:i = j:=by omega
    subst this; exact .inr h3
   ·rw [if_neg e] at h2; exact .inl ⟨i,h1,h2,h3⟩
  ·rintro (⟨i,h1,h2,h3⟩ | h3)
   ·refine ⟨i,h1,?_,h3⟩
    rw [key]; split
    ·rfl
    ·exact h2
   ·exact ⟨j,hj,by rw [key,if_pos rfl],h3⟩
 obtain ⟨g1,g2⟩:=ok.fw j hj
 have hf:=pU g2
 have hzj:Sz (idx C.fd (j:Int)):=⟨by omega,by omega⟩
 have m1:=fZ (oz ok H) (sn ok H)
 have m2:=fZ hzj (ok.fp j hj)
 have:=ok.hl
 refine oP ⟨by rw [List.length_append]; omega,by rw [List.flatten_append,List.length_append]; omega⟩ (oz ok _) (fun a b=>?_) fun a=>?_
 ·rw [vV (uM (oz ok H)) (uM hzj),sQ hmem]
 ·rw [qA,xm (oz ok H),xm hzj,uK hmem,qA]
def nQ (b:Int):Str:=toStr [IntKind.u8.wrap (97 + IntKind.u8.wrap (Int.tmod b 26)),IntKind.u8.wrap (65 + IntKind.u8.wrap (IntKind.i64.wrap (b.tdiv 26)))]
theorem qx (b:Int):nQ b ≠ []:=by unfold nQ toStr; simp
theorem sC (b:Int):(nQ b).length = 2:=by unfold nQ toStr; simp
def wb (c:List Int):Str:=c.flatMap nQ
def rz (c:List Int) (b:Int):Str:=nQ b ++ [58] ++ wb c
theorem oo (c:List Int) (b:Int):rz c b ≠ []:=by unfold rz; simp
def r6 (c:List Int):List Str:=c.map (rz c)
theorem ng (F:Nat) (b:Int):bu F b = some (nQ b):=by
 unfold bu nQ bR te
 simp
theorem qJ:∀ c:List Int,(wb c).length = 2 * c.length
 | []=>rfl
 | b :: c=>by
  have:=qJ c
  unfold wb at this ⊢
  rw [List.flatMap_cons,List.length_append,this,sC,List.length_cons]; omega
theorem qM {c:List Int} (hc:c.length ≤ 40):bG 2000 c = some (r6 c):=by
 refine ai.eq ?_
 unfold bG
 refine ai.bind (P:=(· = wb c)) ?_ ?_
 ·refine ai.r7 (I:=fun pre s=>s = wb pre) (by omega) (by omega) rfl ?_ fun s h=>h
  rintro pre x post s e hx rfl
  have hpl:pre.length < c.length:=by rw [e]; simp
  have:=qJ pre; have:=sC x
  exact ai.aF hx (ai.aF (ng _ _) (ai.app (by omega) (ai.some (.inl ⟨_,rfl,by simp [wb]⟩))))
 ·rintro _ rfl
  refine ai.bind ?_ fun o ho=>ai.some ho
  refine ai.r7 (I:=fun pre s=>s = pre.map (rz c)) (by omega) (by omega) rfl ?_ fun s h=>h
  rintro pre x post s e hx rfl
  have hpl:pre.length < c.length:=by rw [e]; simp
  have:=qJ c; have:=sC x
  exact ai.aF hx (ai.aF (ng _ _) (ai.app (by simp only [List.length_singleton]; omega) (ai.app (by simp only [List.length_append,List.length_singleton]; omega) (ai.app (by simp only [List.length_map,List.length_singleton]; omega) (ai.some (.inl ⟨_,rfl,by simp [rz]⟩))))))
def own (C:kO) (c:List Int):Int:=hd (rs C.h c)
structure jh (C:kO) (m:Int) (r:Round):Prop where
 wf:Wf r
 me:r.Me = m
 rg:r.Regions = C.R
 sp:r.Step = 3
 hm:r.Home = C.h
 ss:r.Sets = mg (C.hs r.Heard)
 self:idx r.Heard m = true
 st1:∀ b:Int,0 ≤ b → b < C.h.length → idx r.States b = [] ∨ idx r.States b = nQ b
 st0:∀ b:Int,0 ≤ b → b < C.h.length → idx C.h b = m → idx r.States b = nQ b
 rs1:∀ c ∈ C.Q,∀ b ∈ c,idx r.Results b = [] ∨ idx r.Results b = rz c b
 dn:∀ k:Nat,k < r.Tasks.length → idx r.Done (k:Int) = true → (idx r.Tasks (k:Int)).Owner = m ∧ ∀ b ∈ (idx r.Tasks (k:Int)).Bodies,idx C.h b = m → idx r.Results b = rz (idx r.Tasks (k:Int)).Bodies b
theorem jh.tasks {m:Int} {r:Round} (ok:C.Ok) (g:jh C m r) (hw:whole r.Heard = true):r.Tasks = C.T:=by
 rw [g.wf.tsk,if_pos hw,g.hm,g.ss,tD ok (by have:=g.wf.heard; have:=g.rg; omega) hw,T_eq ok]
theorem jh.nw {m:Int} {r:Round} (g:jh C m r) {k:Nat} (hk:k < r.Tasks.length):whole r.Heard = true:=by
 cases hw:whole r.Heard with
 | true=>rfl
 | false=>rw [g.wf.tsk,hw] at hk; simp at hk
inductive mo (C:kO) (W:Int → Prop) (x:au):Prop
 | sets (j:Nat) (hj:j < C.R) (e:x = ⟨1,3,(j:Int),x.To,mg (idx C.fd (j:Int)),[],[]⟩) (ht:0 ≤ x.To ∧ x.To < C.R ∧ x.To ≠ (j:Int))
 | states (c:List Int) (hc:c ∈ C.Q) (m:Int) (e:x = ⟨2,3,m,own C c,[],fK C.h c m,(fK C.h c m).map nQ⟩) (hm:0 ≤ m ∧ m < C.R ∧ m ≠ own C c) (hw:W m)
 | results (c:List Int) (hc:c ∈ C.Q) (m:Int) (e:x = ⟨3,3,own C c,m,[],fK C.h c m,(fK C.h c m).map (rz c)⟩) (hm:0 ≤ m ∧ m < C.R ∧ m ≠ own C c) (hw:W m)
theorem mo.mono {W W':Int → Prop} {x:au} (h:mo C W x) (hW:∀ m,W m → W' m):mo C W' x:=by
 cases h with
 | sets j hj e ht=>exact .sets j hj e ht
 | states c hc m e hm hw=>exact .states c hc m e hm (hW m hw)
 | results c hc m e hm hw=>exact .results c hc m e hm (hW m hw)
theorem jG (ok:C.Ok) {c:List Int} (hc:c ∈ C.Q):0 ≤ own C c ∧ own C c < C.R:=by
 have hn:=vu (h:=C.h) ((qB ok).asd c hc).1
 obtain ⟨b,hb,e⟩:=(qy C.h c _).1 (il hn)
 obtain ⟨h0,h1,h2⟩:=ij ok c hc b hb
 have:=(ok.hm b.toNat (by omega)).2
 rw [show ((b.toNat:Nat):Int) = b by omega] at this
 unfold own
 omega
theorem mo.toIn (ok:C.Ok) {W:Int → Prop} {x:au} (h:mo C W x):0 ≤ x.To ∧ x.To < C.R ∧ 0 ≤ x.From ∧ x.From < C.R ∧ x.From ≠ x.To ∧ x.Step = 3:=by
 cases h with
 | sets j hj e ht=>have:=congrArg au.From e; have:=congrArg au.Step e; simp only at *; omega
 | states c hc m e hm hw=>have:=jG ok hc; have:=congrArg au.From e; have:=congrArg au.To e; have:=congrArg au.Step e; simp only at *; omega
 | results c hc m e hm hw=>have:=jG ok hc; have:=congrArg au.From e; have:=congrArg au.To e; have:=congrArg au.Step e; simp only at *; omega
theorem mo.lk (ok:C.Ok) {W:Int → Prop} {x:au} (h:mo C W x):Lk x:=by
 cases h with
 | sets j hj e ht=>
  rw [e]
  obtain ⟨g1,g2⟩:=ok.fw j hj
  have hf:=pU g2
  have hz:Sz (idx C.fd (j:Int)):=⟨by omega,by omega⟩
  have m2:=fZ hz (ok.fp j hj)
  have:=ok.hl
  exact ⟨by simp,by simp only; omega,by simp only; omega⟩
 | states c hc m e hm hw=>
  rw [e]; have:=jA C.h c m; have:=(rL ok).2 c hc
  exact ⟨by simp only; omega,by simp,by simp⟩
 | results c hc m e hm hw=>
  rw [e]; have:=jA C.h c m; have:=(rL ok).2 c hc
  exact ⟨by simp only; omega,by simp,by simp⟩
end Go.Proofs.Ytnpddoaeoefcnaa
namespace Go.Proofs.Ytnpddoaeoefcnaa
open Go Go.Sk
set_option linter.unusedVariables false
set_option linter.unusedSimpArgs false
variable {C:kO}
def ue (r:Round):Nat:=if whole r.Heard then 4 * r.Done.countP (fun b=>!b) else 60
structure tm (C:kO) (m:Int) (r:Round):Prop where
 mr:0 ≤ m ∧ m < C.R
 heard:(r.Heard.length:Int) = r.Regions
 st:r.States.length = r.Home.length
 re:r.Results.length = r.Home.length
 me:r.Me = m
 rg:r.Regions = C.R
 sp:r.Step = 3
 hm:r.Home = C.h
 ss:r.Sets = mg (C.hs r.Heard)
 self:idx r.Heard m = true
 st1:∀ b:Int,0 ≤ b → b < C.h.length → idx r.States b = [] ∨ idx r.States b = nQ b
 st0:∀ b:Int,0 ≤ b → b < C.h.length → idx C.h b = m → idx r.States b = nQ b
 rs1:∀ c ∈ C.Q,∀ b ∈ c,idx r.Results b = [] ∨ idx r.Results b = rz c b
 ht:r.Tasks = []
 hd:r.Done = []
theorem tm.wf (ok:C.Ok) {m:Int} {r:Round} (p:tm C m r) (out:List au):Wf (eZ r out).1:=by
 have hl:=ok.hl; have r1:=ok.r1; have r4:=ok.r4
 have m1:=fZ (oz ok r.Heard) (sn ok r.Heard)
 have hrg:=p.rg; have hmr:=p.mr; have hme:=p.me
 refine vG (by rw [p.hm]; omega) (by rw [p.hm,p.rg]; exact ok.hm) (by omega) (by omega) p.heard (by rw [p.hm,p.ss]; exact jQ (oz ok _) (sn ok _)) (by rw [p.ss]; omega) (by rw [p.ss]; omega) p.st p.re p.ht p.hd
theorem qt {t:Task}:t ∈ C.T ↔ ∃ c ∈ C.Q,t = dw C.h c:=by
 unfold kO.T; rw [List.mem_map]
 constructor
 ·rintro ⟨c,hc,rfl⟩; exact ⟨c,hc,rfl⟩
 ·rintro ⟨c,hc,rfl⟩; exact ⟨c,hc,rfl⟩
theorem sG (ok:C.Ok) {m:Int} {r:Round} (p:tm C m r) (out:List au) :
  jh C m (eZ r out).1 ∧ ((eZ r out).1.Heard = r.Heard ∧ (eZ r out).1.States = r.States ∧ (eZ r out).1.Results = r.Results) ∧ (∀ k:Nat,k < (eZ r out).1.Tasks.length → idx (eZ r out).1.Done (k:Int) = false) ∧
  ∃ ls,(eZ r out).2 = out ++ ls ∧ (∀ y ∈ ls,mo C (fun q=>q = m ∧ whole r.Heard = true) y) ∧ (whole r.Heard = true → ∀ c ∈ C.Q,own C c ≠ m → ∀ b ∈ c,idx C.h b = m → ∃ y ∈ ls,y.Kind = 2 ∧ y.To = own C c ∧ b ∈ y.Bodies) ∧ ls.length + ue (eZ r out).1 ≤ 60:=by
 have wf:=p.wf ok out
 have pf:=tN r out
 have hsl:(C.R:Int) = r.Heard.length:=by rw [p.heard,p.rg]
 have hT:whole r.Heard = true → rD r.Home r.Sets = C.T:=fun hw=>by rw [p.hm,p.ss,tD ok (by omega) hw,T_eq ok]
 have dnf:∀ k:Nat,k < (eZ r out).1.Tasks.length → idx (eZ r out).1.Done (k:Int) = false:=fun k hk=>by
  unfold eZ at hk ⊢
  split at hk
  ·next hw=>
   rw [if_pos hw]
   exact lJ (by omega) (by simp only at hk; omega)
  ·rw [p.ht] at hk; simp at hk
 refine ⟨⟨wf,by rw [pf.1,p.me],by rw [pf.2.1,p.rg],by rw [pf.2.2.1,p.sp],by rw [pf.2.2.2.1,p.hm],by rw [pf.2.2.2.2.2.1,pf.2.2.2.2.1,p.ss],by rw [pf.2.2.2.2.1,p.self],?_,?_,?_,fun k hk hd=>by rw [dnf k hk] at hd; cases hd⟩,⟨pf.2.2.2.2.1,pf.2.2.2.2.2.2.1,pf.2.2.2.2.2.2.2⟩,dnf,?_⟩
 ·rw [pf.2.2.2.2.2.2.1]; exact p.st1
 ·rw [pf.2.2.2.2.2.2.1]; exact p.st0
 ·rw [pf.2.2.2.2.2.2.2]; exact p.rs1
 ·cases hw:whole r.Heard with
  | false=>
   have e:eZ r out = (r,out):=by unfold eZ; rw [hw]; rfl
   rw [e]
   refine ⟨[],by simp,by simp,fun h=>(by cases h),?_⟩
   unfold ue; rw [hw]; simp
  | true=>
   have e:eZ r out = ({ r with Tasks:=rD r.Home r.Sets,Done:=List.replicate (rD r.Home r.Sets).length false },out ++ ga r (rD r.Home r.Sets)):=by unfold eZ; rw [hw]; rfl
   rw [e,hT hw]
   have hb:∀ c ∈ C.Q,mv r (dw C.h c) = if own C c ≠ m ∧ 0 < (fK C.h c m).length then some ⟨2,3,m,own C c,[],fK C.h c m,(fK C.h c m).map nQ⟩ else none:=fun c hc=>by
    unfold mv
    rw [p.me,p.sp,p.hm]
    show (if own C c ≠ m ∧ 0 < (fK C.h c m).length then some (⟨2,3,m,own C c,[],fK C.h c m,pick r.States (fK C.h c m)⟩:au) else none) = _
    have:pick r.States (fK C.h c m) = (fK C.h c m).map nQ:=List.map_congr_left fun b hb=>by
     obtain ⟨h1,h2⟩:=dA.1 hb
     obtain ⟨g1,g2,_⟩:=ij ok c hc b h1
     exact p.st0 b g1 g2 h2
    rw [this]
   refine ⟨ga r C.T,rfl,fun y hy=>?_,fun _ c hc hne b hbc hbm=>?_,?_⟩
   ·obtain ⟨t,ht,hl⟩:=List.mem_filterMap.1 hy
    obtain ⟨c,hc,rfl⟩:=qt.1 ht
    rw [hb c hc] at hl
    split at hl
    ·next h=>cases hl; exact .states c hc m rfl ⟨p.mr.1,p.mr.2,fun e=>h.1 e.symm⟩ ⟨rfl,rfl⟩
    ·cases hl
   ·have hm:b ∈ fK C.h c m:=dA.2 ⟨hbc,hbm⟩
    refine ⟨_,List.mem_filterMap.2 ⟨dw C.h c,qt.2 ⟨c,hc,rfl⟩,by rw [hb c hc,if_pos ⟨hne,List.length_pos_of_mem hm⟩]⟩,rfl,rfl,hm⟩
   ·have hq:=(rL ok).1
    have hTl:C.T.length = C.Q.length:=by unfold kO.T; simp
    have h1:(ga r C.T).length ≤ C.T.length:=List.length_filterMap_le _ _
    unfold ue
    simp only [hw,if_true,List.countP_replicate,Bool.not_false]
    omega
structure lM (C:kO) (m:Int) (r:Round) (x:au) (z:Round × List au):Prop where
 reg:jh C m z.1
 lets:∀ y ∈ z.2,mo C (fun q=>q = m ∧ whole z.1.Heard = true) y
 hmono:∀ j:Int,0 ≤ j → idx r.Heard j = true → idx z.1.Heard j = true
 wmono:whole r.Heard = true → whole z.1.Heard = true
 k1:x.Kind = 1 → idx z.1.Heard x.From = true
 smono:∀ b:Int,0 ≤ b → b < C.h.length → idx r.States b = nQ b → idx z.1.States b = nQ b
 k2:x.Kind = 2 → ∀ b ∈ x.Bodies,idx z.1.States b = nQ b
 snew:∀ b:Int,0 ≤ b → b < C.h.length → idx z.1.States b ≠ [] → idx r.States b ≠ [] ∨ (x.Kind = 2 ∧ b ∈ x.Bodies)
 rmono:∀ b:Int,0 ≤ b → b < C.h.length → idx r.Results b ≠ [] → idx z.1.Results b = idx r.Results b
 k3:x.Kind = 3 → ∀ c ∈ C.Q,∀ b ∈ c,b ∈ x.Bodies → idx z.1.Results b = rz c b
 neww:whole r.Heard = false → whole z.1.Heard = true → ∀ c ∈ C.Q,own C c ≠ m → ∀ b ∈ c,idx C.h b = m → ∃ y ∈ z.2,y.Kind = 2 ∧ y.To = own C c ∧ b ∈ y.Bodies
 old:whole r.Heard = true → z.1.Tasks = r.Tasks ∧ z.1.Done = r.Done
 newd:whole r.Heard = false → ∀ k:Nat,k < z.1.Tasks.length → idx z.1.Done (k:Int) = false
 pt:z.2.length + ue z.1 ≤ ue r
theorem lM.same {m:Int} {r:Round} {x:au} (g:jh C m r) (h1:x.Kind = 1 → idx r.Heard x.From = true) (h2:x.Kind ≠ 2) (h3:x.Kind ≠ 3):lM C m r x (r,[]) :=
 ⟨g,by simp,fun _ _ h=>h,id,h1,fun _ _ _ h=>h,fun e=>absurd e h2,fun _ _ _ h=>.inl h,fun _ _ _ _=>rfl,fun e=>absurd e h3,fun h1 h2=>(by rw [h1] at h2; cases h2),fun _=>⟨rfl,rfl⟩,fun h k hk=>(by have:=g.nw hk; rw [h] at this; cases this),by simp⟩
theorem jh.mr {m:Int} {r:Round} (ok:C.Ok) (g:jh C m r):0 ≤ m ∧ m < C.R:=by
 have:=g.wf.me; have:=g.me; have:=g.rg; omega
theorem wQ (ok:C.Ok) {m:Int} {r:Round} {x:au} (g:jh C m r) {j:Nat} (hj:j < C.R) (e:x = ⟨1,3,(j:Int),m,mg (idx C.fd (j:Int)),[],[]⟩) (hjm:m ≠ (j:Int)):lM C m r x (je r x):=by
 have hmr:=g.mr ok
 have hme:=g.me; have hrg:=g.rg; have hsp:=g.sp; have hhl:=g.wf.heard
 have ho:ours r x = false:=by
  rw [e]; unfold ours
  simp only [Bool.or_eq_false_iff,decide_eq_false_iff_not]
  omega
 have eh:je r x = gC r x:=by unfold je; rw [ho]; rw [e]; simp
 rw [eh]
 cases hh:idx r.Heard (j:Int) with
 | true=>
  have:gC r x = (r,[]):=by unfold gC; rw [e]; simp [hh]
  rw [this]
  exact lM.same g (fun _=>by rw [e]; exact hh) (by rw [e]; simp) (by rw [e]; simp)
 | false=>
 obtain ⟨g1,g2⟩:=ok.fw j hj
 have hf:=pU g2
 have hzj:Sz (idx C.fd (j:Int)):=⟨by omega,by omega⟩
 have hB:qm r.Home (mg (idx C.fd (j:Int))) = true:=by rw [g.hm]; exact gB.2 (jQ hzj (ok.fp j hj))
 have hbig:big x = false:=by rw [e]; unfold big; simp [wi64]
 have es:gC r x = eZ { r with Heard:=r.Heard.set j true,Sets:=mg (r.Sets ++ mg (idx C.fd (j:Int))) } []:=by
  unfold gC
  rw [hbig,e]
  simp only [hh,hB]
  simp
 rw [es]
 have hnw:whole r.Heard = false:=by
  cases hw:whole r.Heard with
  | false=>rfl
  | true=>have:=xf hw (i:=(j:Int)) (by omega) (by omega); rw [hh] at this; cases this
 have ht:r.Tasks = []:=by rw [g.wf.tsk,hnw]; rfl
 have hd:r.Done = []:=List.length_eq_zero_iff.1 (by rw [g.wf.dn,ht]; rfl)
 have hset:∀ q:Int,0 ≤ q → idx (r.Heard.set j true) q = if q = (j:Int) then true else idx r.Heard q:=fun q hq=>by
  have:=eF (l:=r.Heard) (i:=(j:Int)) (j:=q) (x:=true) (by omega) (by omega) hq
  simpa using this
 have p:tm C m { r with Heard:=r.Heard.set j true,Sets:=mg (r.Sets ++ mg (idx C.fd (j:Int))) } :=
  ⟨hmr,by simp only [List.length_set]; exact hhl,g.wf.st,g.wf.re,hme,hrg,hsp,g.hm,by simp only; rw [g.ss]; exact hs_set ok (by omega) hj,by simp only; rw [hset m hmr.1]; split; rfl; exact g.self,g.st1,g.st0,g.rs1,ht,hd⟩
 obtain ⟨q1,⟨q2,q3,q4⟩,q5,ls,q6,q7,q8,q9⟩:=sG ok p []
 rw [List.nil_append] at q6
 refine ⟨q1,fun y hy=>?_,fun i hi h=>?_,fun h=>(by rw [hnw] at h; cases h),fun _=>?_,fun b _ _ h=>by rw [q3]; exact h,fun k=>by rw [e] at k; simp at k,fun b _ _ h=>by rw [q3] at h; exact .inl h,fun b _ _ h=>by rw [q4],fun k=>by rw [e] at k; simp at k,fun _ hw c hc hne b hbc hbm=>?_,fun h=>(by rw [hnw] at h; cases h),fun _=>q5,?_⟩
 ·rw [q6] at hy; rw [q2]; exact q7 y hy
 ·rw [q2]; show idx (r.Heard.set j true) i = true; rw [hset i hi]; split; rfl; exact h
 ·rw [q2,e]; show idx (r.Heard.set j true) (j:Int) = true; rw [hset _ (by omega),if_pos rfl]
 ·rw [q2] at hw; rw [q6]; exact q8 hw c hc hne b hbc hbm
 ·rw [q6]; unfold ue at q9 ⊢; rw [hnw]; exact q9
theorem yq {z:List (Int × Str)}:∀ {o:List Str},(∀ p ∈ z,p.2 ≠ [] ∧ 0 ≤ p.1 ∧ p.1 < o.length) → ∀ x:Int,0 ≤ x → (idx (z.foldl ik o) x = idx o x ∧ (idx o x ≠ [] ∨ ∀ p ∈ z,p.1 ≠ x)) ∨ (idx o x = [] ∧ ∃ p ∈ z,p.1 = x ∧ idx (z.foldl ik o) x = p.2):=by
 induction z with
 | nil=>intro o _ x _; exact .inl ⟨rfl,.inr (by simp)⟩
 | cons p z ih=>
  intro o h x hx
  obtain ⟨g1,g2,g3⟩:=h p (List.mem_cons_self ..)
  have ih:=ih (o:=ik o p) (fun q hq=>by rw [qU]; exact h q (List.mem_cons_of_mem _ hq)) x hx
  rw [List.foldl_cons]
  by_cases he:idx o p.1 = []
  ·have e1:ik o p = o.set p.1.toNat p.2:=by unfold ik; rw [if_pos he]
   have e2:idx (ik o p) x = if x = p.1 then p.2 else idx o x:=by rw [e1]; exact eF g2 g3 hx
   by_cases hxp:x = p.1
   ·rw [if_pos hxp] at e2
    refine .inr ⟨by rw [hxp]; exact he,p,List.mem_cons_self ..,hxp.symm,?_⟩
    rcases ih with ⟨i1,_⟩ | ⟨i1,_⟩
    ·rw [i1,e2]
    ·rw [e2] at i1; exact absurd i1 g1
   ·rw [if_neg hxp] at e2
    rcases ih with ⟨i1,i2⟩ | ⟨i1,q,hq,i2,i3⟩
    ·refine .inl ⟨by rw [i1,e2],?_⟩
     rcases i2 with i2 | i2
     ·rw [e2] at i2; exact .inl i2
     ·refine .inr fun q hq=>?_
      rcases List.mem_cons.1 hq with rfl | hq
      ·exact fun e=>hxp e.symm
      ·exact i2 q hq
    ·exact .inr ⟨by rw [← e2]; exact i1,q,List.mem_cons_of_mem _ hq,i2,i3⟩
  ·have e1:ik o p = o:=by unfold ik; rw [if_neg he]
   rw [e1] at ih ⊢
   rcases ih with ⟨i1,i2⟩ | ⟨i1,q,hq,i2,i3⟩
   ·refine .inl ⟨i1,?_⟩
    by_cases hxp:p.1 = x
    ·exact .inl (by rw [← hxp]; exact he)
    ·rcases i2 with i2 | i2
     ·exact .inl i2
     ·refine .inr fun q hq=>?_
      rcases List.mem_cons.1 hq with rfl | hq
      ·exact hxp
      ·exact i2 q hq
   ·exact .inr ⟨i1,q,List.mem_cons_of_mem _ hq,i2,i3⟩
theorem kJ {f:Int → Str}:∀ {l:List Int} {p:Int × Str},p ∈ l.zip (l.map f) ↔ p.1 ∈ l ∧ p.2 = f p.1
 | [],p=>by simp
 | a :: l,p=>by
  rw [List.map_cons,List.zip_cons_cons,List.mem_cons,kJ,List.mem_cons]
  constructor
  ·rintro (rfl | ⟨h1,h2⟩)
   ·exact ⟨.inl rfl,rfl⟩
   ·exact ⟨.inr h1,h2⟩
  ·rintro ⟨h1 | h1,h2⟩
   ·left; exact Prod.ext h1 (by rw [h2,h1])
   ·exact .inr ⟨h1,h2⟩
theorem pI {f:Int → Str} (hf:∀ b,f b ≠ []) {o:List Str} {l:List Int} (hl:∀ b ∈ l,0 ≤ b ∧ b < o.length) {x:Int} (hx:0 ≤ x) :
  (x ∈ l ∧ idx o x = [] ∧ idx (gU o l (l.map f)) x = f x) ∨ ((x ∉ l ∨ idx o x ≠ []) ∧ idx (gU o l (l.map f)) x = idx o x):=by
 have:=yq (z:=l.zip (l.map f)) (o:=o) (fun p hp=>by
  obtain ⟨h1,h2⟩:=kJ.1 hp
  exact ⟨by rw [h2]; exact hf _,hl _ h1⟩) x hx
 rcases this with ⟨h1,h2⟩ | ⟨h1,p,hp,h2,h3⟩
 ·refine .inr ⟨?_,h1⟩
  rcases h2 with h2 | h2
  ·exact .inr h2
  ·exact .inl fun hm=>h2 (x,f x) (kJ.2 ⟨hm,rfl⟩) rfl
 ·obtain ⟨h4,h5⟩:=kJ.1 hp
  exact .inl ⟨h2 ▸ h4,h1,by unfold gU; rw [h3,h5,h2]⟩
theorem ua (ok:C.Ok) {m:Int} {r:Round} {x:au} (g:jh C m r) {c:List Int} (hc:c ∈ C.Q) {q:Int} (hm:m = own C c) (e:x = ⟨2,3,q,own C c,[],fK C.h c q,(fK C.h c q).map nQ⟩) (hq:0 ≤ q ∧ q < C.R ∧ q ≠ own C c):lM C m r x (je r x):=by
 have hmr:=g.mr ok
 have hme:=g.me; have hrg:=g.rg; have hsp:=g.sp; have hst:=g.wf.st; have hhm:=g.hm
 have ho:ours r x = false:=by
  rw [e]; unfold ours
  simp only [Bool.or_eq_false_iff,decide_eq_false_iff_not]
  omega
 have hfull:isFull x x.From r = true:=by
  rw [lR,e]
  refine ⟨rfl,by simp,fun hm=>?_,fun a ha=>?_⟩
  ·obtain ⟨b,_,hb⟩:=List.mem_map.1 hm; exact qx b hb
  ·obtain ⟨h1,h2⟩:=dA.1 ha
   obtain ⟨h3,h4,h5⟩:=ij ok c hc a h1
   rw [hhm]; exact ⟨h3,h4,h2,hq.1⟩
 have eh:je r x = ({ r with States:=gU r.States (fK C.h c q) ((fK C.h c q).map nQ) },[]):=by
  unfold je j5; rw [ho,hfull,e]; simp
 have kwf:=vR g.wf (l:=x) (by rw [e]; have:=jA C.h c q; have:=(rL ok).2 c hc; exact ⟨by simp only; omega,by simp,by simp⟩)
 rw [eh] at kwf ⊢
 have hin:∀ b ∈ fK C.h c q,0 ≤ b ∧ b < r.States.length:=fun b hb=>by
  obtain ⟨h3,h4,h5⟩:=ij ok c hc b (dA.1 hb).1
  rw [hst,hhm]; exact ⟨h3,h4⟩
 have L:=fun {b:Int} (h0:0 ≤ b)=>pI qx hin (x:=b) h0
 refine ⟨⟨kwf,hme,hrg,hsp,hhm,g.ss,g.self,fun b h0 h1=>?_,fun b h0 h1 hb=>?_,g.rs1,g.dn⟩,by simp,fun _ _ h=>h,id,fun k=>by rw [e] at k; simp at k,fun b h0 h1 h=>?_,fun _ b hb=>?_,fun b h0 h1 h=>?_,fun _ _ _ _=>rfl,fun k=>by rw [e] at k; simp at k,fun h1 h2=>(by rw [h1] at h2; cases h2),fun _=>⟨rfl,rfl⟩,fun h k hk=>(by have:=g.nw (k:=k) hk; rw [h] at this; cases this),by simp [ue]⟩
 ·rcases L h0 with ⟨_,_,h⟩ | ⟨_,h⟩
  ·exact .inr h
  ·rw [h]; exact g.st1 b h0 h1
 ·rcases L h0 with ⟨_,_,h⟩ | ⟨_,h⟩
  ·exact h
  ·rw [h]; exact g.st0 b h0 h1 hb
 ·rcases L h0 with ⟨_,_,h'⟩ | ⟨_,h'⟩
  ·exact h'
  ·exact h'.trans h
 ·rw [e] at hb
  simp only at hb
  have h0:=(hin b hb).1
  rcases L h0 with ⟨_,_,h⟩ | ⟨h2,h⟩
  ·exact h
  ·rw [h]
   have h1:b < C.h.length:=by have:=(hin b hb).2; rw [hst,hhm] at this; exact this
   rcases g.st1 b h0 h1 with h3 | h3
   ·rcases h2 with h2 | h2
    ·exact absurd hb h2
    ·exact absurd h3 h2
   ·exact h3
 ·rcases L h0 with ⟨h2,_,_⟩ | ⟨_,h2⟩
  ·rw [e]; exact .inr ⟨rfl,h2⟩
  ·rw [h2] at h; exact .inl h
theorem s7 (ok:C.Ok) {m:Int} {r:Round} {x:au} (g:jh C m r) {c:List Int} (hc:c ∈ C.Q) (hne:m ≠ own C c) (e:x = ⟨3,3,own C c,m,[],fK C.h c m,(fK C.h c m).map (rz c)⟩) (hw:whole r.Heard = true):lM C m r x (je r x):=by
 have hmr:=g.mr ok
 have hor:=jG ok hc
 have hme:=g.me; have hrg:=g.rg; have hsp:=g.sp; have hre:=g.wf.re; have hhm:=g.hm
 have ho:ours r x = false:=by
  rw [e]; unfold ours
  simp only [Bool.or_eq_false_iff,decide_eq_false_iff_not]
  omega
 have hfull:isFull x r.Me r = true:=by
  rw [lR,e]
  refine ⟨rfl,by simp,fun hm=>?_,fun a ha=>?_⟩
  ·obtain ⟨b,_,hb⟩:=List.mem_map.1 hm; exact oo c b hb
  ·obtain ⟨h1,h2⟩:=dA.1 ha
   obtain ⟨h3,h4,h5⟩:=ij ok c hc a h1
   rw [hhm,hme]; exact ⟨h3,h4,h2,hmr.1⟩
 have hsol:jz r.Tasks (fK C.h c m) (own C c) = true:=by
  unfold jz
  rw [List.all_eq_true]
  intro b hb
  rw [List.any_eq_true,g.tasks ok hw]
  refine ⟨dw C.h c,qt.2 ⟨c,hc,rfl⟩,?_⟩
  have:b ∈ c:=(dA.1 hb).1
  simp [dw,own,this]
 have eh:je r x = ({ r with Results:=gU r.Results (fK C.h c m) ((fK C.h c m).map (rz c)) },[]):=by
  unfold je jm; rw [ho,hfull,hw,e]; simp only [hsol]; simp
 have kwf:=vR g.wf (l:=x) (by rw [e]; have:=jA C.h c m; have:=(rL ok).2 c hc; exact ⟨by simp only; omega,by simp,by simp⟩)
 rw [eh] at kwf ⊢
 have hin:∀ b ∈ fK C.h c m,0 ≤ b ∧ b < r.Results.length:=fun b hb=>by
  obtain ⟨h3,h4,h5⟩:=ij ok c hc b (dA.1 hb).1
  rw [hre,hhm]; exact ⟨h3,h4⟩
 have L:=fun {b:Int} (h0:0 ≤ b)=>pI (oo c) hin (x:=b) h0
 have keep:∀ b:Int,0 ≤ b → idx r.Results b ≠ [] → idx (gU r.Results (fK C.h c m) ((fK C.h c m).map (rz c))) b = idx r.Results b:=fun b h0 hb=>by
  rcases L h0 with ⟨_,h,_⟩ | ⟨_,h⟩
  ·exact absurd h hb
  ·exact h
 refine ⟨⟨kwf,hme,hrg,hsp,hhm,g.ss,g.self,g.st1,g.st0,fun d hd b hb=>?_,fun k hk hdn=>?_⟩,by simp,fun _ _ h=>h,id,fun k=>by rw [e] at k; simp at k,fun b h0 h1 h=>h,fun k=>by rw [e] at k; simp at k,fun b h0 h1 h=>.inl h,fun b h0 _ h=>keep b h0 h,fun _ d hd b hb hbx=>?_,fun h1 h2=>(by rw [hw] at h1; cases h1),fun _=>⟨rfl,rfl⟩,fun h k hk=>(by rw [hw] at h; cases h),by simp [ue]⟩
 ·have h0:=(ij ok d hd b hb).1
  rcases L h0 with ⟨h1,_,h⟩ | ⟨_,h⟩
  ·have:c = d:=uP ok hc hd (dA.1 h1).1 hb
   rw [← this]; exact .inr h
  ·rw [h]; exact g.rs1 d hd b hb
 ·obtain ⟨h1,h2⟩:=g.dn k hk hdn
  refine ⟨h1,fun b hb hbm=>?_⟩
  have h3:=h2 b hb hbm
  have ht:=g.wf.task (gb (l:=r.Tasks) (i:=(k:Int)) (by omega) (by have:k < r.Tasks.length:=hk; omega))
  have h0:=(ht.1 b hb).1
  show idx (gU r.Results (fK C.h c m) ((fK C.h c m).map (rz c))) b = _
  rw [keep b h0 (by rw [h3]; exact oo _ _)]; exact h3
 ·rw [e] at hbx
  simp only at hbx
  have:c = d:=uP ok hc hd (dA.1 hbx).1 hb
  have h0:=(ij ok d hd b hb).1
  rcases L h0 with ⟨_,_,h⟩ | ⟨h2,h⟩
  ·rw [← this]; exact h
  ·show idx (gU r.Results (fK C.h c m) ((fK C.h c m).map (rz c))) b = _
   rw [h]
   rcases g.rs1 d hd b hb with h3 | h3
   ·rcases h2 with h2 | h2
    ·exact absurd hbx h2
    ·exact absurd h3 h2
   ·exact h3
theorem vS (ok:C.Ok) {m:Int} {r:Round} {x:au} {W:Int → Prop} (g:jh C m r) (hx:mo C W x) (ht:x.To = m) (hW:W m → whole r.Heard = true):lM C m r x (je r x):=by
 cases hx with
 | sets j hj e h=>rw [ht] at e h; exact wQ ok g hj e h.2.2
 | states c hc q e hq hw=>exact ua ok g hc (by rw [← ht,e]) e hq
 | results c hc q e hq hw=>
  have:q = m:=by rw [← ht,e]
  subst this
  exact s7 ok g hc hq.2.2 e (hW hw)
theorem xx (all:List Str):∀ (l:List Int) (o:List Str),(∀ b ∈ l,0 ≤ b ∧ b < o.length) → ∀ x:Int,0 ≤ x → idx (l.foldl (nR all) o) x = if x ∈ l then idx all x else idx o x
 | [],o,_,x,_=>by simp
 | b :: l,o,h,x,hx=>by
  obtain ⟨h0,h1⟩:=h b (List.mem_cons_self ..)
  have e1:idx (nR all o b) x = if x = b then idx all b else idx o x:=by unfold nR; exact eF h0 h1 hx
  rw [List.foldl_cons,xx all l (nR all o b) (fun c hc=>by unfold nR; rw [List.length_set]; exact h c (List.mem_cons_of_mem _ hc)) x hx,e1]
  by_cases hm:x ∈ l
  ·rw [if_pos hm,if_pos (List.mem_cons_of_mem _ hm)]
  ·rw [if_neg hm]
   by_cases hb:x = b
   ·rw [if_pos hb,if_pos (by rw [hb]; exact List.mem_cons_self ..),hb]
   ·rw [if_neg hb,if_neg (by rw [List.mem_cons,not_or]; exact ⟨hb,hm⟩)]
theorem count_set:∀ {l:List Bool} {i:Nat},i < l.length → l[i]? = some false → (l.set i true).countP (fun b=>!b) + 1 = l.countP (fun b=>!b)
 | a :: l,0,_,h=>by simp at h; subst h; simp
 | a :: l,i + 1,hi,h=>by
  have:=count_set (l:=l) (i:=i) (by simpa using hi) (by simpa using h)
  simp only [List.set_cons_succ,List.countP_cons]
  omega
theorem ya (ok:C.Ok) {c:List Int} (hc:c ∈ C.Q):(rs C.h c).length ≤ C.R:=by
 have:=oG (l:=rs C.h c) (m:=(List.range C.R).map fun n:Nat=>(n:Int)) (uk _ _) fun a ha=>by
  obtain ⟨b,hb,rfl⟩:=(qy C.h c a).1 ha
  obtain ⟨h0,h1,h2⟩:=ij ok c hc b hb
  have h3:=(ok.hm b.toNat (by omega)).2
  rw [show ((b.toNat:Nat):Int) = b by omega] at h3
  exact List.mem_map.2 ⟨(idx C.h b).toNat,List.mem_range.2 (by omega),by omega⟩
 simpa using this
theorem qY (ok:C.Ok) {c:List Int} (hc:c ∈ C.Q) (g:Int):g ∈ (dw C.h c).Helpers ↔ (∃ b ∈ c,idx C.h b = g) ∧ g ≠ own C c:=by
 have hn:=vu (h:=C.h) ((qB ok).asd c hc).1
 have ha:=uk C.h c
 rw [← qy C.h c g]
 show g ∈ (rs C.h c).tail ↔ g ∈ rs C.h c ∧ g ≠ hd (rs C.h c)
 obtain ⟨a,t,e⟩:=List.exists_cons_of_ne_nil hn
 rw [e] at ha ⊢
 have:=List.pairwise_cons.1 ha
 simp only [List.tail_cons,List.mem_cons]
 show g ∈ t ↔ (g = a ∨ g ∈ t) ∧ g ≠ a
 constructor
 ·intro h; exact ⟨.inr h,by have:=this.1 g h; omega⟩
 ·rintro ⟨h | h,h2⟩
  ·exact absurd h h2
  ·exact h
structure uR (C:kO) (m:Int) (r:Round) (k:Nat) (z:Round × List au × Int):Prop where
 e:z.2.2 = 0
 reg:jh C m z.1
 same:z.1.Heard = r.Heard ∧ z.1.States = r.States ∧ z.1.Tasks = r.Tasks ∧ z.1.Done = r.Done.set k true
 cls:∃ c ∈ C.Q,(idx r.Tasks (k:Int)).Bodies = c ∧ m = own C c ∧ (∀ b ∈ c,idx r.States b = nQ b) ∧
  (∀ y ∈ z.2.1,∃ g,y = ⟨3,3,own C c,g,[],fK C.h c g,(fK C.h c g).map (rz c)⟩ ∧ g ≠ own C c ∧ ∃ b ∈ c,idx C.h b = g) ∧
  (∀ b ∈ c,idx C.h b ≠ m → ∃ y ∈ z.2.1,y.Kind = 3 ∧ y.To = idx C.h b ∧ b ∈ y.Bodies)
 rmono:∀ b:Int,0 ≤ b → b < C.h.length → idx r.Results b ≠ [] → idx z.1.Results b = idx r.Results b
 pt:z.2.1.length + ue z.1 ≤ ue r
theorem w5 (ok:C.Ok) {m:Int} {r:Round} {k:Nat} (g:jh C m r) (hk:k < r.Tasks.length) (hr:cm r (k:Int) = true):uR C m r k (answer r (k:Int) (r6 (idx r.Tasks (k:Int)).Bodies)):=by
 have hmr:=g.mr ok
 have hw:=g.nw hk
 have hT:=g.tasks ok hw
 have hsp:=g.sp; have hme:=g.me; have hhm:=g.hm; have hre:=g.wf.re
 obtain ⟨c,hc,ht⟩:=qt.1 (show idx r.Tasks (k:Int) ∈ C.T from hT ▸ gb (by omega) (by omega))
 have hcb:(idx r.Tasks (k:Int)).Bodies = c:=by rw [ht]; rfl
 have hco:(idx r.Tasks (k:Int)).Owner = own C c:=by rw [ht]; rfl
 unfold cm at hr
 simp only [Bool.and_eq_true,decide_eq_true_eq,Bool.not_eq_true'] at hr
 obtain ⟨⟨r1,r2⟩,r3⟩:=hr
 have hm:m = own C c:=by rw [← hme,← r1,hco]
 have hcq:=ij ok c hc
 have hst:∀ b ∈ c,idx r.States b = nQ b:=fun b hb=>by
  obtain ⟨h0,h1,_⟩:=hcq b hb
  rcases g.st1 b h0 h1 with h | h
  ·rw [hcb,List.contains_eq_mem,decide_eq_false_iff_not] at r3
   exact absurd (List.mem_map.2 ⟨b,hb,h⟩) r3
  ·exact h
 have hsl:r6 c = c.map (rz c):=rfl
 have ea:answer r (k:Int) (r6 (idx r.Tasks (k:Int)).Bodies) = ({ r with Done:=r.Done.set k true,Results:=(fK r.Home c r.Me).foldl (nR (ig r (dw C.h c) (r6 c))) r.Results },(dw C.h c).Helpers.map (iZ r (dw C.h c) (ig r (dw C.h c) (r6 c))),0):=by
  unfold answer
  rw [if_neg (by simp; omega),if_neg (by rw [r2]; simp),if_neg (by unfold cm; simp only [r1,r2,r3]; simp),hcb,if_neg]
  ·rw [ht]; rfl
  ·simp only [Bool.or_eq_true,decide_eq_true_eq,hsl,List.length_map,not_true_eq_false,ne_eq,false_or,List.contains_eq_mem,List.mem_map,not_exists,not_and]
   intro x _; exact oo c x
 have hin:∀ b ∈ c,0 ≤ b ∧ b < (List.replicate r.Home.length ([]:Str)).length:=fun b hb=>by
  obtain ⟨h0,h1,_⟩:=hcq b hb
  rw [List.length_replicate,hhm]; exact ⟨h0,h1⟩
 have hall:∀ b ∈ c,idx (ig r (dw C.h c) (r6 c)) b = rz c b:=fun b hb=>by
  obtain ⟨h0,h1,_⟩:=hcq b hb
  rcases pI (oo c) hin (x:=b) h0 with ⟨_,_,h⟩ | ⟨h,_⟩
  ·exact h
  ·rcases h with h | h
   ·exact absurd hb h
   ·exact absurd (lJ h0 (by rw [hhm]; exact h1)) h
 have hres:∀ x:Int,0 ≤ x → idx ((fK r.Home c r.Me).foldl (nR (ig r (dw C.h c) (r6 c))) r.Results) x = if x ∈ fK C.h c m then rz c x else idx r.Results x:=fun x hx=>by
  rw [xx _ _ _ (fun b hb=>by obtain ⟨h0,h1,_⟩:=hcq b (dA.1 hb).1; rw [hre,hhm]; exact ⟨h0,h1⟩) x hx,hhm,hme]
  by_cases hxm:x ∈ fK C.h c m
  ·rw [if_pos hxm,if_pos hxm]; exact hall x (dA.1 hxm).1
  ·rw [if_neg hxm,if_neg hxm]
 have wf:=wZ (r:=r) (k:=(k:Int)) (states:=r6 (idx r.Tasks (k:Int)).Bodies) g.wf (by rw [ea])
 rw [ea] at wf ⊢
 have keep:∀ b:Int,0 ≤ b → b < C.h.length → idx r.Results b ≠ [] → idx ((fK r.Home c r.Me).foldl (nR (ig r (dw C.h c) (r6 c))) r.Results) b = idx r.Results b:=fun b h0 h1 hb=>by
  rw [hres b h0]
  split
  ·next hm'=>
   rcases g.rs1 c hc b (dA.1 hm').1 with h | h
   ·exact absurd h hb
   ·exact h.symm
  ·rfl
 have hletter:∀ gg:Int,iZ r (dw C.h c) (ig r (dw C.h c) (r6 c)) gg = ⟨3,3,own C c,gg,[],fK C.h c gg,(fK C.h c gg).map (rz c)⟩:=fun gg=>by
  unfold iZ
  rw [hsp,hme,hhm,hm]
  show (⟨3,3,own C c,gg,[],fK C.h c gg,pick (ig r (dw C.h c) (r6 c)) (fK C.h c gg)⟩:au) = _
  congr 1
  exact List.map_congr_left fun b hb=>hall b (dA.1 hb).1
 refine ⟨rfl,⟨wf,hme,g.rg,hsp,hhm,g.ss,g.self,g.st1,g.st0,fun d hd b hb=>?_,fun i hi hdi=>?_⟩,⟨rfl,rfl,rfl,rfl⟩,⟨c,hc,hcb,hm,hst,fun y hy=>?_,fun b hb hne=>?_⟩,keep,?_⟩
 ·have h0:=(ij ok d hd b hb).1
  show idx ((fK r.Home c r.Me).foldl _ r.Results) b = [] ∨ _
  rw [hres b h0]
  split
  ·next h=>rw [uP ok hc hd (dA.1 h).1 hb]; exact .inr rfl
  ·exact g.rs1 d hd b hb
 ·have hil:i < r.Tasks.length:=hi
  have hdl:=g.wf.dn
  have hdi':idx (r.Done.set k true) (i:Int) = true:=hdi
  have e2:idx (r.Done.set k true) (i:Int) = if (i:Int) = (k:Int) then true else idx r.Done (i:Int):=by
   have:=eF (l:=r.Done) (i:=(k:Int)) (j:=(i:Int)) (x:=true) (by omega) (by omega) (by omega)
   simpa using this
  rw [e2] at hdi'
  by_cases hik:(i:Int) = (k:Int)
  ·have:i = k:=by omega
   subst this
   refine ⟨by rw [hco,hm],fun b hb hbm=>?_⟩
   rw [hcb] at hb ⊢
   show idx ((fK r.Home c r.Me).foldl _ r.Results) b = _
   rw [hres b (hcq b hb).1,if_pos (dA.2 ⟨hb,hbm⟩)]
  ·rw [if_neg hik] at hdi'
   obtain ⟨h1,h2⟩:=g.dn i hil hdi'
   refine ⟨h1,fun b hb hbm=>?_⟩
   have h3:=h2 b hb hbm
   have htb:=(g.wf.task (gb (l:=r.Tasks) (i:=(i:Int)) (by omega) (by omega))).1 b hb
   rw [hhm] at htb
   show idx ((fK r.Home c r.Me).foldl _ r.Results) b = _
   rw [keep b htb.1 htb.2.1 (by rw [h3]; exact oo _ _)]; exact h3
 ·obtain ⟨gg,hg,rfl⟩:=List.mem_map.1 hy
  obtain ⟨h1,h2⟩:=(qY ok hc gg).1 hg
  exact ⟨gg,hletter gg,h2,h1⟩
 ·refine ⟨_,List.mem_map.2 ⟨idx C.h b,(qY ok hc _).2 ⟨⟨b,hb,rfl⟩,by rw [← hm]; exact hne⟩,rfl⟩,?_⟩
  rw [hletter]
  exact ⟨rfl,rfl,dA.2 ⟨hb,rfl⟩⟩
 ·have hdl:=g.wf.dn
  have h4:=count_set (l:=r.Done) (i:=k) (by omega) (by rw [List.getElem?_eq_getElem (by omega),← dd _ _ (by omega:k < r.Done.length),r2])
  have h5:=ya ok hc
  have h6:=ok.r4
  have hn:=List.length_pos_iff.2 (vu (h:=C.h) ((qB ok).asd c hc).1)
  have h7:(dw C.h c).Helpers.length = (rs C.h c).length - 1:=List.length_tail
  unfold ue
  simp only [hw,if_true,List.length_map]
  omega
def qk (rs:List Round) (m:Int):Prop:=whole (idx rs m).Heard = true
structure rm (C:kO) (rs:List Round) (way:List au):Prop where
 len:rs.length = C.R
 reg:∀ m:Int,0 ≤ m → m < C.R → jh C m (idx rs m)
 lets:∀ x ∈ way,mo C (qk rs) x
 o1:∀ m j:Int,0 ≤ m → m < C.R → 0 ≤ j → j < C.R → j ≠ m → idx (idx rs m).Heard j = true ∨ ∃ x ∈ way,x.Kind = 1 ∧ x.From = j ∧ x.To = m
 o2:∀ m:Int,0 ≤ m → m < C.R → qk rs m → ∀ c ∈ C.Q,own C c ≠ m → ∀ b ∈ c,idx C.h b = m → idx (idx rs (own C c)).States b = nQ b ∨ ∃ x ∈ way,x.Kind = 2 ∧ x.To = own C c ∧ b ∈ x.Bodies
 o3:∀ o:Int,0 ≤ o → o < C.R → ∀ k:Nat,k < (idx rs o).Tasks.length → idx (idx rs o).Done (k:Int) = true → ∀ b ∈ (idx (idx rs o).Tasks (k:Int)).Bodies,idx C.h b ≠ o → idx (idx rs (idx C.h b)).Results b = rz (idx (idx rs o).Tasks (k:Int)).Bodies b ∨ ∃ x ∈ way,x.Kind = 3 ∧ x.To = idx C.h b ∧ b ∈ x.Bodies
 o4:∀ o:Int,0 ≤ o → o < C.R → ∀ b:Int,0 ≤ b → b < C.h.length → idx (idx rs o).States b ≠ [] → idx C.h b ≠ o → qk rs (idx C.h b)
theorem mB (ok:C.Ok) {m:Int} {r:Round} (g:jh C m r) {k:Nat} (hk:k < r.Tasks.length):(idx r.Tasks (k:Int)).Bodies ∈ C.Q ∧ (idx r.Tasks (k:Int)).Owner = own C (idx r.Tasks (k:Int)).Bodies:=by
 obtain ⟨c,hc,ht⟩:=qt.1 (show idx r.Tasks (k:Int) ∈ C.T from g.tasks ok (g.nw hk) ▸ gb (by omega) (by omega))
 rw [ht]; exact ⟨hc,rfl⟩
theorem lS (ok:C.Ok) {c:List Int} (hc:c ∈ C.Q) {b:Int} (hb:b ∈ c):0 ≤ idx C.h b ∧ idx C.h b < C.R:=by
 obtain ⟨h0,h1,h2⟩:=ij ok c hc b hb
 have h3:=(ok.hm b.toNat (by omega)).2
 rw [show ((b.toNat:Nat):Int) = b by omega] at h3
 exact ⟨h2,h3⟩
theorem rm.je (ok:C.Ok) {rs:List Round} {way way':List au} (S:rm C rs way) {x:au} (hx:x ∈ way)
  (h1:∀ y ∈ way,y ∈ way' ∨ y = x) (h2:∀ y ∈ (je (idx rs x.To) x).2,y ∈ way') (h3:∀ y ∈ way',y ∈ way ∨ y ∈ (Go.Proofs.Ytnpddoaeoefcnaa.je (idx rs x.To) x).2):rm C (rs.set x.To.toNat (Go.Proofs.Ytnpddoaeoefcnaa.je (idx rs x.To) x).1) way':=by
 obtain ⟨t0,t1,f0,f1,hft,_⟩:=(S.lets x hx).toIn ok
 have hl:=S.len
 have H:=vS ok (S.reg x.To t0 t1) (S.lets x hx) rfl id
 generalize Go.Proofs.Ytnpddoaeoefcnaa.je (idx rs x.To) x = z at H h2 h3
 have hset:∀ q:Int,0 ≤ q → idx (rs.set x.To.toNat z.1) q = if q = x.To then z.1 else idx rs q:=fun q hq=>eF t0 (by omega) hq
 have hwm:∀ q:Int,0 ≤ q → qk rs q → qk (rs.set x.To.toNat z.1) q:=fun q hq hw=>by
  unfold qk at hw ⊢
  rw [hset q hq]; split
  ·next e=>rw [e] at hw; exact H.wmono hw
  ·exact hw
 have keepx:∀ {p:au → Prop},(∃ y ∈ way,p y) → (∃ y ∈ way',p y) ∨ p x:=fun {p} ⟨y,hy,hp⟩=>by
  rcases h1 y hy with h | rfl
  ·exact .inl ⟨y,h,hp⟩
  ·exact .inr hp
 refine ⟨by rw [List.length_set]; exact hl,fun m m0 m1=>?_,fun y hy=>?_,fun m j m0 m1 j0 j1 hne=>?_,fun m m0 m1 hw c hc hne b hbc hbm=>?_,fun o o0 o1 k hk hd b hb hne=>?_,fun o o0 o1 b b0 b1 hs hne=>?_⟩
 ·rw [hset m m0]; split
  ·next e=>rw [e]; exact H.reg
  ·exact S.reg m m0 m1
 ·rcases h3 y hy with h | h
  ·have hl:=S.lets y h
   cases hl with
   | sets j hj e ht=>exact .sets j hj e ht
   | states c hc m e hm hw=>exact .states c hc m e hm (hwm m hm.1 hw)
   | results c hc m e hm hw=>exact .results c hc m e hm (hwm m hm.1 hw)
  ·refine (H.lets y h).mono fun q hq=>?_
   unfold qk; rw [hq.1,hset x.To t0,if_pos rfl]; exact hq.2
 ·rw [hset m m0]
  by_cases e:m = x.To
  ·rw [if_pos e]
   rcases S.o1 m j m0 m1 j0 j1 hne with h | h
   ·rw [e] at h; exact .inl (H.hmono j j0 h)
   ·rcases keepx h with h | ⟨k1,k2,k3⟩
    ·exact .inr h
    ·left; rw [← k2]; exact H.k1 k1
  ·rw [if_neg e]
   rcases S.o1 m j m0 m1 j0 j1 hne with h | h
   ·exact .inl h
   ·rcases keepx h with h | ⟨k1,k2,k3⟩
    ·exact .inr h
    ·exact absurd k3.symm e
 ·have hor:=jG ok hc
  have hbq:=ij ok c hc b hbc
  have old:qk rs m → idx (idx (rs.set x.To.toNat z.1) (own C c)).States b = nQ b ∨ ∃ y ∈ way',y.Kind = 2 ∧ y.To = own C c ∧ b ∈ y.Bodies:=fun hw0=>by
   rw [hset _ hor.1]
   rcases S.o2 m m0 m1 hw0 c hc hne b hbc hbm with h | h
   ·left; split
    ·next e=>rw [e] at h; exact H.smono b hbq.1 hbq.2.1 h
    ·exact h
   ·rcases keepx h with h | ⟨k1,k2,k3⟩
    ·exact .inr h
    ·left; rw [if_pos k2.symm]; exact H.k2 k1 b k3
  by_cases e:m = x.To
  ·unfold qk at hw
   rw [hset m m0,if_pos e] at hw
   cases hw0:whole (idx rs x.To).Heard with
   | true=>exact old (by unfold qk; rw [e]; exact hw0)
   | false=>
    obtain ⟨y,hy,hp⟩:=H.neww hw0 hw c hc (by rw [← e]; exact hne) b hbc (by rw [← e]; exact hbm)
    exact .inr ⟨y,h2 y hy,hp⟩
  ·unfold qk at hw
   rw [hset m m0,if_neg e] at hw
   exact old hw
 ·have key:∀ B:List Int,B ∈ C.Q → b ∈ B → (idx (idx rs (idx C.h b)).Results b = rz B b ∨ ∃ x ∈ way,x.Kind = 3 ∧ x.To = idx C.h b ∧ b ∈ x.Bodies) → idx (idx (rs.set x.To.toNat z.1) (idx C.h b)).Results b = rz B b ∨ ∃ y ∈ way',y.Kind = 3 ∧ y.To = idx C.h b ∧ b ∈ y.Bodies:=fun B hB hbB h=>by
   have hr:=lS ok hB hbB
   have hbq:=ij ok B hB b hbB
   rw [hset _ hr.1]
   rcases h with h | h
   ·left; split
    ·next e=>rw [e] at h; rw [H.rmono b hbq.1 hbq.2.1 (by rw [h]; exact oo _ _)]; exact h
    ·exact h
   ·rcases keepx h with h | ⟨k1,k2,k3⟩
    ·exact .inr h
    ·left; rw [if_pos k2.symm]; exact H.k3 k1 B hB b hbB k3
  rw [hset o o0] at hk hd hb ⊢
  by_cases e:o = x.To
  ·rw [if_pos e] at hk hd hb ⊢
   cases hw0:whole (idx rs x.To).Heard with
   | false=>rw [H.newd hw0 k hk] at hd; cases hd
   | true=>
    obtain ⟨e1,e2⟩:=H.old hw0
    rw [e1] at hk hb ⊢
    rw [e2] at hd
    obtain ⟨hB,_⟩:=mB ok (S.reg x.To t0 t1) hk
    exact key _ hB hb (S.o3 x.To t0 t1 k hk hd b hb (by rw [← e]; exact hne))
  ·rw [if_neg e] at hk hd hb ⊢
   obtain ⟨hB,_⟩:=mB ok (S.reg o o0 o1) hk
   exact key _ hB hb (S.o3 o o0 o1 k hk hd b hb hne)
 ·rw [hset o o0] at hs
  by_cases e:o = x.To
  ·rw [if_pos e] at hs
   rcases H.snew b b0 b1 hs with h | ⟨k1,k2⟩
   ·have hw:=S.o4 x.To t0 t1 b b0 b1 h (by rw [← e]; exact hne)
    by_cases h0:0 ≤ idx C.h b
    ·exact hwm _ h0 hw
    ·
     have:=(ok.hm b.toNat (by omega)).1
     rw [show ((b.toNat:Nat):Int) = b by omega] at this
     have hm1:idx C.h b = -1:=by omega
     unfold qk at hw ⊢
     have e1:∀ l:List Round,idx l (idx C.h b) = idx l 0:=fun l=>by rw [hm1]; rfl
     rw [e1] at hw ⊢
     exact hwm 0 (by omega) hw
   ·cases S.lets x hx with
    | sets j hj e ht=>rw [e] at k1; simp at k1
    | states c hc m e' hm hw=>
     rw [e'] at k2
     rw [(dA.1 k2).2]
     exact hwm m hm.1 hw
    | results c hc m e' hm hw=>rw [e'] at k1; simp at k1
  ·rw [if_neg e] at hs
   have hw:=S.o4 o o0 o1 b b0 b1 hs hne
   by_cases h0:0 ≤ idx C.h b
   ·exact hwm _ h0 hw
   ·have:=(ok.hm b.toNat (by omega)).1
    rw [show ((b.toNat:Nat):Int) = b by omega] at this
    have hm1:idx C.h b = -1:=by omega
    unfold qk at hw ⊢
    have e1:∀ l:List Round,idx l (idx C.h b) = idx l 0:=fun l=>by rw [hm1]; rfl
    rw [e1] at hw ⊢
    exact hwm 0 (by omega) hw
theorem rm.answer (ok:C.Ok) {rs:List Round} {way:List au} (S:rm C rs way) {m:Int} (m0:0 ≤ m) (m1:m < C.R) {k:Nat} {z:Round × List au × Int} (hk:k < (idx rs m).Tasks.length) (H:uR C m (idx rs m) k z):rm C (rs.set m.toNat z.1) (way ++ z.2.1):=by
 have hl:=S.len
 have hset:∀ q:Int,0 ≤ q → idx (rs.set m.toNat z.1) q = if q = m then z.1 else idx rs q:=fun q hq=>eF m0 (by omega) hq
 obtain ⟨c,hc,hcb,hmc,hst,hly,hco⟩:=H.cls
 obtain ⟨s1,s2,s3,s4⟩:=H.same
 have hwm:∀ q:Int,0 ≤ q → (qk rs q ↔ qk (rs.set m.toNat z.1) q):=fun q hq=>by
  unfold qk
  rw [hset q hq]; split
  ·next e=>rw [e,s1]
  ·exact .rfl
 have hwn:∀ b:Int,0 ≤ b → b < C.h.length → qk rs (idx C.h b) → qk (rs.set m.toNat z.1) (idx C.h b):=fun b b0 b1 hw=>by
  by_cases h0:0 ≤ idx C.h b
  ·exact (hwm _ h0).1 hw
  ·have:=(ok.hm b.toNat (by omega)).1
   rw [show ((b.toNat:Nat):Int) = b by omega] at this
   have hm1:idx C.h b = -1:=by omega
   unfold qk at hw ⊢
   have e1:∀ l:List Round,idx l (idx C.h b) = idx l 0:=fun l=>by rw [hm1]; rfl
   rw [e1] at hw ⊢
   exact (hwm 0 (by omega)).1 hw
 refine ⟨by rw [List.length_set]; exact hl,fun q q0 q1=>?_,fun y hy=>?_,fun q j q0 q1 j0 j1 hne=>?_,fun q q0 q1 hw d hd hne b hbd hbq=>?_,fun o o0 o1 i hi hdi b hb hne=>?_,fun o o0 o1 b b0 b1 hs hne=>?_⟩
 ·rw [hset q q0]; split
  ·next e=>rw [e]; exact H.reg
  ·exact S.reg q q0 q1
 ·rcases List.mem_append.1 hy with h | h
  ·cases S.lets y h with
   | sets j hj e ht=>exact .sets j hj e ht
   | states c hc m e hm hw=>exact .states c hc m e hm ((hwm m hm.1).1 hw)
   | results c hc m e hm hw=>exact .results c hc m e hm ((hwm m hm.1).1 hw)
  ·obtain ⟨g,e,hg,b,hb,hbg⟩:=hly y h
   have hr:=lS ok hc hb
   have hbq:=ij ok c hc b hb
   rw [hbg] at hr
   refine .results c hc g e ⟨hr.1,hr.2,hg⟩ ?_
   have:=S.o4 m m0 m1 b hbq.1 hbq.2.1 (by rw [hst b hb]; exact qx b) (by rw [hbg,hmc]; exact hg)
   rw [hbg] at this
   exact (hwm g hr.1).1 this
 ·rw [hset q q0]
  rcases S.o1 q j q0 q1 j0 j1 hne with h | ⟨y,hy,hp⟩
  ·left; split
   ·next e=>rw [s1]; rw [e] at h; exact h
   ·exact h
  ·exact .inr ⟨y,List.mem_append.2 (.inl hy),hp⟩
 ·have hor:=jG ok hd
  rw [hset _ hor.1]
  rcases S.o2 q q0 q1 ((hwm q q0).2 hw) d hd hne b hbd hbq with h | ⟨y,hy,hp⟩
  ·left; split
   ·next e=>rw [s2]; rw [e] at h; exact h
   ·exact h
  ·exact .inr ⟨y,List.mem_append.2 (.inl hy),hp⟩
 ·have key:∀ B:List Int,B ∈ C.Q → b ∈ B → (idx (idx rs (idx C.h b)).Results b = rz B b ∨ ∃ x ∈ way,x.Kind = 3 ∧ x.To = idx C.h b ∧ b ∈ x.Bodies) → idx (idx (rs.set m.toNat z.1) (idx C.h b)).Results b = rz B b ∨ ∃ y ∈ way ++ z.2.1,y.Kind = 3 ∧ y.To = idx C.h b ∧ b ∈ y.Bodies:=fun B hB hbB h=>by
   have hr:=lS ok hB hbB
   have hbq:=ij ok B hB b hbB
   rw [hset _ hr.1]
   rcases h with h | ⟨y,hy,hp⟩
   ·left; split
    ·next e=>rw [e] at h; rw [H.rmono b hbq.1 hbq.2.1 (by rw [h]; exact oo _ _)]; exact h
    ·exact h
   ·exact .inr ⟨y,List.mem_append.2 (.inl hy),hp⟩
  rw [hset o o0] at hi hdi hb ⊢
  by_cases e:o = m
  ·rw [if_pos e] at hi hdi hb ⊢
   rw [s3] at hi hb ⊢
   rw [s4] at hdi
   have hdl:=(S.reg m m0 m1).wf.dn
   have e2:idx ((idx rs m).Done.set k true) (i:Int) = if (i:Int) = (k:Int) then true else idx (idx rs m).Done (i:Int):=by
    have:=eF (l:=(idx rs m).Done) (i:=(k:Int)) (j:=(i:Int)) (x:=true) (by omega) (by omega) (by omega)
    simpa using this
   rw [e2] at hdi
   by_cases hik:(i:Int) = (k:Int)
   ·rw [hik,hcb] at hb ⊢
    obtain ⟨y,hy,hp⟩:=hco b hb (by rw [← e]; exact hne)
    exact .inr ⟨y,List.mem_append.2 (.inr hy),hp⟩
   ·rw [if_neg hik] at hdi
    obtain ⟨hB,_⟩:=mB ok (S.reg m m0 m1) hi
    exact key _ hB hb (S.o3 m m0 m1 i hi hdi b hb (by rw [← e]; exact hne))
  ·rw [if_neg e] at hi hdi hb ⊢
   obtain ⟨hB,_⟩:=mB ok (S.reg o o0 o1) hi
   exact key _ hB hb (S.o3 o o0 o1 i hi hdi b hb hne)
 ·rw [hset o o0] at hs
  refine hwn b b0 b1 ?_
  by_cases e:o = m
  ·rw [if_pos e,s2] at hs
   exact S.o4 m m0 m1 b b0 b1 hs (by rw [← e]; exact hne)
  ·rw [if_neg e] at hs
   exact S.o4 o o0 o1 b b0 b1 hs hne
def NR (C:kO) (rs:List Round):Prop:=∀ m:Int,0 ≤ m → m < C.R → ∀ k:Nat,k < (idx rs m).Tasks.length → cm (idx rs m) (k:Int) = false
theorem rm.final (ok:C.Ok) {rs:List Round} (S:rm C rs []) (nr:NR C rs) {m:Int} (m0:0 ≤ m) (m1:m < C.R) :
  (idx rs m).Tasks = C.T ∧ finB (idx rs m) = true ∧ ∀ c ∈ C.Q,∀ b ∈ c,idx C.h b = m → idx (idx rs m).Results b = rz c b:=by
 have hw:∀ q:Int,0 ≤ q → q < C.R → qk rs q:=fun q q0 q1=>by
  unfold qk whole
  rw [List.all_eq_true]
  intro b hb
  obtain ⟨i,hi,rfl⟩:=List.getElem_of_mem hb
  have g:=S.reg q q0 q1
  have h1:=g.wf.heard; have h2:=g.rg
  rw [← dd _ _ hi]
  by_cases e:(i:Int) = q
  ·rw [e]; exact g.self
  ·rcases S.o1 q (i:Int) q0 q1 (by omega) (by omega) e with h | ⟨x,hx,_⟩
   ·exact h
   ·cases hx
 have hT:∀ q:Int,0 ≤ q → q < C.R → (idx rs q).Tasks = C.T:=fun q q0 q1=>(S.reg q q0 q1).tasks ok (hw q q0 q1)
 have hdone:∀ q:Int,0 ≤ q → q < C.R → ∀ k:Nat,k < (idx rs q).Tasks.length → (idx (idx rs q).Tasks (k:Int)).Owner = q → idx (idx rs q).Done (k:Int) = true:=fun q q0 q1 k hk ho=>by
  have g:=S.reg q q0 q1
  have hn:=nr q q0 q1 k hk
  obtain ⟨hB,hO⟩:=mB ok g hk
  cases hd:idx (idx rs q).Done (k:Int) with
  | true=>rfl
  | false=>
   exfalso
   have:cm (idx rs q) (k:Int) = true:=by
    unfold cm
    rw [hd,ho,g.me]
    simp only [decide_true,Bool.not_false,Bool.and_self,Bool.true_and,Bool.not_eq_true',List.contains_eq_mem,decide_eq_false_iff_not]
    intro hm
    obtain ⟨b,hb,he⟩:=List.mem_map.1 hm
    have hbq:=ij ok _ hB b hb
    have hr:=lS ok hB hb
    have:idx (idx rs q).States b = nQ b:=by
     by_cases hbo:idx C.h b = q
     ·exact g.st0 b hbq.1 hbq.2.1 hbo
     ·have hown:own C (idx (idx rs q).Tasks (k:Int)).Bodies = q:=by rw [← hO,ho]
      rcases S.o2 (idx C.h b) hr.1 hr.2 (hw _ hr.1 hr.2) _ hB (by rw [hown]; exact fun e=>hbo e.symm) b hb rfl with h | ⟨x,hx,_⟩
      ·rw [hown] at h; exact h
      ·cases hx
    rw [this] at he
    exact qx b he
   rw [hn] at this; cases this
 have hres:∀ c ∈ C.Q,∀ b ∈ c,idx C.h b = m → idx (idx rs m).Results b = rz c b:=fun c hc b hb hbm=>by
  have hor:=jG ok hc
  have ho:=S.reg _ hor.1 hor.2
  have hmt:dw C.h c ∈ (idx rs (own C c)).Tasks:=by rw [hT _ hor.1 hor.2]; exact qt.2 ⟨c,hc,rfl⟩
  obtain ⟨k,hk,ek⟩:=List.getElem_of_mem hmt
  have ei:idx (idx rs (own C c)).Tasks (k:Int) = dw C.h c:=by rw [dd _ _ hk,ek]
  have hd:=hdone _ hor.1 hor.2 k hk (by rw [ei]; rfl)
  by_cases e:own C c = m
  ·have:=(ho.dn k hk hd).2 b (by rw [ei]; exact hb) (by rw [e]; exact hbm)
   rw [ei] at this
   rw [← e]; exact this
  ·have:=S.o3 _ hor.1 hor.2 k hk hd b (by rw [ei]; exact hb) (by rw [hbm]; exact fun e'=>e e'.symm)
   rw [ei,hbm] at this
   rcases this with h | ⟨x,hx,_⟩
   ·exact h
   ·cases hx
 have g:=S.reg m m0 m1
 refine ⟨hT m m0 m1,?_,hres⟩
 unfold finB
 rw [show whole (idx rs m).Heard = true from hw m m0 m1,Bool.and_true,Bool.and_eq_true,List.all_eq_true,List.all_eq_true]
 refine ⟨fun k hk=>?_,fun b hb=>?_⟩
 ·have hk:=List.mem_range.1 hk
  rw [g.me]
  by_cases ho:(idx (idx rs m).Tasks (k:Int)).Owner = m
  ·rw [hdone m m0 m1 k hk ho]; simp
  ·simp [ho]
 ·have hb:=List.mem_range.1 hb
  rw [g.hm] at hb ⊢
  rw [g.me]
  by_cases ho:idx C.h (b:Int) = m
  ·obtain ⟨c,hc,hbc⟩:=Q_mem ok (b:=(b:Int)) (by omega) (by omega) (by omega)
   have:=hres c hc _ hbc ho
   rw [this]; simp [oo]
  ·simp [ho]
def xb (h:List Int) (m:Int):List Str:=(List.range h.length).map fun b:Nat=>if idx h (b:Int) = m then nQ b else []
theorem qh (h:List Int) (m:Int):(xb h m).length = h.length:=by simp [xb]
theorem oB {h:List Int} {m b:Int} (h0:0 ≤ b) (h1:b < h.length):idx (xb h m) b = if idx h b = m then nQ b else []:=by
 obtain ⟨n,rfl⟩:∃ n:Nat,b = n:=⟨b.toNat,by omega⟩
 rw [dd _ _ (by rw [qh]; omega)]
 simp [xb]
abbrev bg (C:kO) (m:Nat):Round:=mx (m:Int) (C.R:Int) 3 C.h (idx C.fd (m:Int)) (xb C.h m)
abbrev bo (C:kO) (m:Nat):List au:=cF (m:Int) 3 (idx C.fd (m:Int)) C.R
def rr (C:kO) (m:Nat):Round:=(eZ (bg C m) (bo C m)).1
def wo (C:kO) (m:Nat):List au:=(eZ (bg C m) (bo C m)).2
theorem xz (ok:C.Ok) {m:Nat} (hm:m < C.R):tm C (m:Int) (bg C m):=by
 have hl:=ok.hl
 obtain ⟨g1,g2⟩:=ok.fw m hm
 have hf:=pU g2
 have hz:Sz (idx C.fd (m:Int)):=⟨by omega,by omega⟩
 have hH:(bg C m).Heard = (List.replicate C.R false).set m true:=by
  show (List.replicate (C.R:Int).toNat false).set (m:Int).toNat true = _
  simp
 have hi:∀ j:Int,0 ≤ j → j < C.R → idx (bg C m).Heard j = decide (j = (m:Int)):=fun j j0 j1=>by
  rw [hH]
  have:=eF (l:=List.replicate C.R false) (i:=(m:Int)) (j:=j) (x:=true) (by omega) (by simp; omega) j0
  simp only [Int.toNat_natCast] at this
  rw [this]
  by_cases e:j = (m:Int)
  ·simp [e]
  ·simp [e,lJ j0 (show j < (C.R:Nat) by omega)]
 refine ⟨by omega,by rw [hH]; show _ = (C.R:Int); simp,by show (xb C.h m).length = C.h.length; exact qh _ _,by show (List.replicate C.h.length ([]:Str)).length = C.h.length; simp,rfl,rfl,rfl,rfl,?_,by rw [hi _ (by omega) (by omega)]; simp,fun b h0 h1=>?_,fun b h0 h1 hb=>?_,fun c hc b hb=>?_,rfl,rfl⟩
 ·show mg (idx C.fd (m:Int)) = mg (C.hs (bg C m).Heard)
  have hmem:∀ c,c ∈ idx C.fd (m:Int) ↔ c ∈ C.hs (bg C m).Heard:=fun c=>by
   rw [qz]
   constructor
   ·intro h; exact ⟨m,hm,by rw [hi _ (by omega) (by omega)]; simp,h⟩
   ·rintro ⟨j,hj,h2,h3⟩
    rw [hi _ (by omega) (by omega)] at h2
    have:=of_decide_eq_true h2
    have:j = m:=by omega
    subst this; exact h3
  exact oP hz (oz ok _) (sQ hmem) (uK hmem)
 ·have e:idx (bg C m).States b = if idx C.h b = (m:Int) then nQ b else []:=oB h0 h1
  rw [e]; split
  ·exact .inr rfl
  ·exact .inl rfl
 ·show idx (xb C.h m) b = _
  rw [oB h0 h1,if_pos hb]
 ·left
  show idx (List.replicate C.h.length ([]:Str)) b = []
  obtain ⟨h0,h1,_⟩:=ij ok c hc b hb
  exact lJ h0 h1
theorem bo_len (C:kO) (m:Nat):(bo C m).length ≤ C.R:=by
 unfold bo cF; rw [List.length_map]; refine Nat.le_trans (List.length_filter_le _ _) (by simp)
theorem rA {β:Type} [Inhabited β] (f:Nat → β) (n:Nat) {q:Int} (h0:0 ≤ q) (h1:q < n):idx ((List.range n).map f) q = f q.toNat:=by
 obtain ⟨k,rfl⟩:∃ k:Nat,q = k:=⟨q.toNat,by omega⟩
 rw [dd _ _ (by simp; omega)]; simp
theorem uS (ok:C.Ok):rm C ((List.range C.R).map (rr C)) ((List.range C.R).flatMap (wo C)):=by
 have hi:∀ q:Int,0 ≤ q → q < C.R → idx ((List.range C.R).map (rr C)) q = rr C q.toNat:=fun q h0 h1=>rA _ _ h0 h1
 have P:=fun (q:Int) (h0:0 ≤ q) (h1:q < C.R)=>by
  have:=sG ok (xz ok (m:=q.toNat) (by omega)) (bo C q.toNat)
  rw [show ((q.toNat:Nat):Int) = q by omega] at this
  exact this
 have hw:∀ q:Int,0 ≤ q → q < C.R → (qk ((List.range C.R).map (rr C)) q ↔ whole (bg C q.toNat).Heard = true):=fun q h0 h1=>by
  unfold qk
  rw [hi q h0 h1]
  unfold rr
  rw [(P q h0 h1).2.1.1]
 have hway:∀ (q:Int),0 ≤ q → q < C.R → ∀ y,y ∈ wo C q.toNat → y ∈ (List.range C.R).flatMap (wo C):=fun q h0 h1 y hy=>List.mem_flatMap.2 ⟨q.toNat,List.mem_range.2 (by omega),hy⟩
 refine ⟨by simp,fun m m0 m1=>?_,fun x hx=>?_,fun m j m0 m1 j0 j1 hne=>?_,fun m m0 m1 hw' c hc hne b hbc hbm=>?_,fun o o0 o1 k hk hd=>?_,fun o o0 o1 b b0 b1 hs hne=>?_⟩
 ·rw [hi m m0 m1]; exact (P m m0 m1).1
 ·obtain ⟨m,hm,hx⟩:=List.mem_flatMap.1 hx
  have hm:=List.mem_range.1 hm
  obtain ⟨_,_,_,ls,e,h2,_⟩:=P (m:Int) (by omega) (by omega)
  rw [Int.toNat_natCast] at e h2
  unfold wo at hx
  rw [e] at hx
  rcases List.mem_append.1 hx with hx | hx
  ·unfold bo cF at hx
   obtain ⟨i,hi',rfl⟩:=List.mem_map.1 hx
   obtain ⟨h3,h4⟩:=List.mem_filter.1 hi'
   have h3:=List.mem_range.1 h3
   have h4:(i:Int) ≠ (m:Int):=by simpa using h4
   exact .sets m hm rfl ⟨by simp,by simp; omega,by simpa using h4⟩
  ·refine (h2 x hx).mono fun q hq=>?_
   rw [hq.1,hw (m:Int) (by omega) (by omega)]; simpa using hq.2
 ·right
  obtain ⟨_,_,_,ls,e,_⟩:=P j j0 j1
  refine ⟨⟨1,3,j,m,mg (idx C.fd j),[],[]⟩,hway j j0 j1 _ ?_,rfl,rfl,rfl⟩
  unfold wo
  rw [e]
  refine List.mem_append.2 (.inl ?_)
  unfold bo cF
  rw [show ((j.toNat:Nat):Int) = j by omega]
  exact List.mem_map.2 ⟨m.toNat,List.mem_filter.2 ⟨List.mem_range.2 (by omega),by rw [show ((m.toNat:Nat):Int) = m by omega]; simpa using fun e=>hne e.symm⟩,by rw [show ((m.toNat:Nat):Int) = m by omega]⟩
 ·right
  obtain ⟨_,_,_,ls,e,_,h3,_⟩:=P m m0 m1
  obtain ⟨y,hy,hp⟩:=h3 ((hw m m0 m1).1 hw') c hc hne b hbc hbm
  exact ⟨y,hway m m0 m1 y (by unfold wo; rw [e]; exact List.mem_append.2 (.inr hy)),hp⟩
 ·rw [hi o o0 o1] at hk hd
  have:=(P o o0 o1).2.2.1 k hk
  unfold rr at hd
  rw [this] at hd; cases hd
 ·exfalso
  rw [hi o o0 o1] at hs
  unfold rr at hs
  rw [(P o o0 o1).2.1.2.1] at hs
  apply hs
  show idx (xb C.h (o.toNat:Int)) b = []
  rw [oB b0 b1,if_neg (by rw [show ((o.toNat:Nat):Int) = o by omega]; exact hne)]
def oh (rs:List Round):Nat:=(rs.map ue).sum
theorem vA {rs:List Round} {m:Int} (m0:0 ≤ m) (m1:m < rs.length) (z:Round):oh (rs.set m.toNat z) + ue (idx rs m) = oh rs + ue z:=by
 obtain ⟨n,rfl⟩:∃ n:Nat,m = n:=⟨m.toNat,by omega⟩
 have hn:n < rs.length:=by omega
 rw [Int.toNat_natCast,dd _ _ hn]
 unfold oh
 clear m0 m1
 induction rs generalizing n with
 | nil=>simp at hn
 | cons a rs ih=>
  cases n with
  | zero=>simp; omega
  | succ n=>
   have:=ih n (by simpa using hn)
   simp only [List.set_cons_succ,List.map_cons,List.sum_cons,List.getElem_cons_succ]
   omega
theorem wW (ok:C.Ok):((List.range C.R).flatMap (wo C)).length + oh ((List.range C.R).map (rr C)) ≤ 256:=by
 have key:∀ n,n ≤ C.R → ((List.range n).flatMap (wo C)).length + oh ((List.range n).map (rr C)) ≤ 64 * n:=fun n=>by
  induction n with
  | zero=>intro _; simp [oh]
  | succ n ih=>
   intro hn
   have ih:=ih (by omega)
   obtain ⟨_,_,_,ls,e,_,_,h4⟩:=sG ok (xz ok (m:=n) (by omega)) (bo C n)
   have h5:=bo_len C n
   have h6:=ok.r4
   have h7:(wo C n).length + ue (rr C n) ≤ 64:=by unfold wo rr; rw [e,List.length_append]; omega
   rw [List.range_succ,List.flatMap_append,List.map_append]
   unfold oh at ih ⊢
   simp only [List.flatMap_cons,List.flatMap_nil,List.append_nil,List.length_append,List.map_append,List.sum_append,List.map_cons,List.map_nil,List.sum_cons,List.sum_nil]
   omega
 have:=key C.R (Nat.le_refl _)
 have:=ok.r4
 omega
theorem yu (ok:C.Ok) {rs:List Round} {way:List au} (S:rm C rs way) {x:au} (hx:x ∈ way):(je (idx rs x.To) x).2.length + oh (rs.set x.To.toNat (je (idx rs x.To) x).1) ≤ oh rs:=by
 obtain ⟨t0,t1,_⟩:=(S.lets x hx).toIn ok
 have H:=vS ok (S.reg x.To t0 t1) (S.lets x hx) rfl id
 have:=H.pt
 have:=vA (rs:=rs) t0 (by rw [S.len]; exact t1) (je (idx rs x.To) x).1
 omega
theorem vj {rs:List Round} {way:List au} (S:rm C rs way) {m:Int} (m0:0 ≤ m) (m1:m < C.R) {k:Nat} {z:Round × List au × Int} (H:uR C m (idx rs m) k z):z.2.1.length + oh (rs.set m.toNat z.1) ≤ oh rs:=by
 have:=H.pt
 have:=vA (rs:=rs) m0 (by rw [S.len]; exact m1) z.1
 omega
theorem wJ {r:Round} {c:List Int} (hc:c.length ≤ 40) (h:∀ b ∈ c,0 ≤ b ∧ b < r.States.length ∧ idx r.States b = nQ b):bL 2000 r c = some true:=by
 refine ai.eq ?_
 unfold bL
 refine ai.bind (P:=(· = .inl ())) ?_ fun o ho=>by rw [ho]; exact ai.some rfl
 refine ai.vp (fun _=>True) (by omega) (by omega) trivial (fun pre x post e hx _=>?_) fun _=>rfl
 obtain ⟨h0,h1,h2⟩:=h x (by rw [e]; simp)
 refine ai.aF hx (ai.idx h0 h1 (ai.aF hx (ai.aF (ng _ _) (ai.iff ?_ (ai.some (.inl ⟨rfl,trivial⟩))))))
 rw [h2]; simp
theorem n3 {r:Round} {k:Int}:k ∈ fM r ↔ ∃ n:Nat,n < r.Tasks.length ∧ cm r (n:Int) = true ∧ k = n:=by
 unfold fM
 simp only [List.mem_map,List.mem_filter,List.mem_range]
 constructor
 ·rintro ⟨n,⟨h1,h2⟩,rfl⟩; exact ⟨n,h1,h2,rfl⟩
 ·rintro ⟨n,h1,h2,rfl⟩; exact ⟨n,⟨h1,h2⟩,rfl⟩
theorem sW (r:Round):(fM r).Nodup:=by
 unfold fM
 refine List.pairwise_map.2 ((List.nodup_range.filter _).imp fun {a b} h e=>h (by omega))
theorem oW {r s:Round} (h1:s.Tasks = r.Tasks) (h2:s.States = r.States) (h3:s.Me = r.Me) (k:Int) (h:idx s.Done k = idx r.Done k):cm s k = cm r k:=by unfold cm; rw [h1,h2,h3,h]
end Go.Proofs.Ytnpddoaeoefcnaa
namespace Go.Proofs.Ytnpddoaeoefcnaa
open Go Go.Sk
set_option linter.unusedVariables false
set_option linter.unusedSimpArgs false
theorem ext_idx {α:Type} [Inhabited α] {l m:List α} (h:l.length = m.length) (hi:∀ i:Int,0 ≤ i → i < l.length → idx l i = idx m i):l = m :=
 List.ext_getElem h fun i h1 h2=>by
  have:=hi (i:Int) (by omega) (by omega)
  rwa [dd _ _ h1,dd _ _ h2] at this
theorem xX {R:Int} {home:List Int} {sets:List (List Int)} {m:Nat} (h1:1 ≤ R) (h4:R ≤ 4) (hH:ld home R) (hp:l' home sets) (hm:(m:Int) < R):Valid (m:Int) R 3 home sets (xb home m):=by
 refine ⟨by omega,by omega,by omega,hH,hp,qh _ _,fun b hb=>?_⟩
 rw [oB (by omega) (by omega)]
 split
 ·next h=>exact ⟨fun _=>h,fun _=>qx _⟩
 ·next h=>exact ⟨fun h'=>absurd rfl h',fun h'=>absurd h' h⟩
theorem wy {β:Type} {f:Nat → β} {n:Nat}:(List.range (n + 1)).map f = (List.range n).map f ++ [f n]:=by rw [List.range_succ,List.map_append]; rfl
theorem lW {β:Type} {f:Nat → List β} {n:Nat}:(List.range (n + 1)).flatMap f = (List.range n).flatMap f ++ f n:=by rw [List.range_succ,List.flatMap_append]; simp
theorem w7 (regions:Int) (home:List Int) (found:List (List (List Int))) (l:List Int) (h1:∀ L ∈ found,L.length ≤ 9223372036854775807) (h2:∀ x ∈ l,0 ≤ x ∧ x ≤ 255) {F:Nat} (hF:2000 ≤ F) (f1:∀ L ∈ found,L.length < F) :
  cq F regions home found l = some true:=by
 refine ai.eq ?_
 unfold cq
 have hsan:=x8 hF
 refine ai.ln (ai.ln ?_)
 cases c0:(((((decide (regions < 1)) || (decide (4 < regions))) || (decide (12 < (home.length:Int)))) || (decide ((found.length:Int) ≠ regions))) || (decide (60 < (l.length:Int)))) with
 | true=>exact ai.g0 rfl (ai.rn rfl (ai.aF hsan (ai.some rfl)))
 | false=>
 simp only [Bool.or_eq_false_iff,decide_eq_false_iff_not,Classical.not_not] at c0
 obtain ⟨⟨⟨⟨c1,c2⟩,c3⟩,c4⟩,c5⟩:=c0
 refine ai.g1 rfl (ai.bind ((kx hF _ _).yld (wP (by omega))) fun q hq=>?_)
 cases q with
 | false=>exact ai.rn rfl (ai.aF hsan (ai.some rfl))
 | true=>
 have hH:=hq.1 rfl
 refine ai.iff rfl ?_
 generalize hC:(⟨regions.toNat,home,found⟩:kO) = C
 have eR:(C.R:Int) = regions:=by rw [← hC]; show ((regions.toNat:Nat):Int) = regions; omega
 have eh:C.h = home:=by rw [← hC]
 have ef:C.fd = found:=by rw [← hC]
 have hCR:C.R ≤ 4:=by omega
 refine ai.bind (P:=fun o:(List Round × List au × List (List Int)) ⊕ Bool=>o = .inr true ∨ (C.Ok ∧ o = .inl ((List.range C.R).map (rr C),(List.range C.R).flatMap (wo C),C.A))) ?_ ?_
 ·refine ai.rounds (n:=C.R) (I:=fun j s=>j ≤ C.R ∧ s = ((List.range j).map (rr C),(List.range j).flatMap (wo C),(List.range j).flatMap (fun i:Nat=>idx C.fd (i:Int)),(j:Int)) ∧ ((List.range j).flatMap (wo C)).length ≤ 1000 * j ∧ ∀ i:Nat,i < j → ((idx C.fd (i:Int)).length ≤ 30 ∧ ∀ c ∈ idx C.fd (i:Int),c.length ≤ 8) ∧ l' C.h (idx C.fd (i:Int))) (by omega) ⟨by omega,rfl,by simp,by omega⟩ ?_
  rintro j s hj ⟨_,rfl,hwl,hI⟩
  refine ai.ite (fun hc=>?_) fun hc=>?_
  ·have hc:(j:Int) < regions:=of_decide_eq_true hc
   have hfm:idx found (j:Int) ∈ found:=gb (by omega) (by omega)
   have hix:aT found (j:Int) = some (idx found (j:Int)):=gf (by omega) (by omega)
   refine ai.bind (P:=fun o:(List Round × List au × List (List Int)) ⊕ Bool=>o = .inr true ∨ (((idx C.fd (j:Int)).length ≤ 30 ∧ ∀ c ∈ idx C.fd (j:Int),c.length ≤ 8) ∧ l' C.h (idx C.fd (j:Int)) ∧ (wo C j).length ≤ 1000 ∧ o = .inl ((List.range (j + 1)).map (rr C),(List.range (j + 1)).flatMap (wo C),(List.range (j + 1)).flatMap (fun i:Nat=>idx C.fd (i:Int))))) ?_ ?_
   ·refine ai.aF hix (ai.bind (few_F (f1 _ hfm) (h1 _ hfm)) fun q hq=>?_)
    cases q with
    | false=>exact ai.g0 rfl (ai.g0 rfl (ai.rn rfl (ai.aF hsan (ai.some (.inl rfl)))))
    | true=>
    obtain ⟨s1,s2⟩:=hq rfl
    refine ai.g1 rfl (ai.aF hix (ai.g1 rfl (ai.bind ((kq hF _ _).yld (wz (by omega) fun c hc=>by have:=s2 c hc; omega)) fun q hq=>?_)))
    cases q with
    | false=>exact ai.rn rfl (ai.aF hsan (ai.some (.inl rfl)))
    | true=>
    have hp:=hq.1 rfl
    have hal:((List.range j).flatMap (fun i:Nat=>idx C.fd (i:Int))).length ≤ 30 * j:=by
     have:=mQ (l:=List.range j) (f:=fun i:Nat=>idx C.fd (i:Int)) fun i hi=>(hI i (List.mem_range.1 hi)).1
     simpa using this.1
    refine ai.iff rfl (ai.aF hix (ai.app (by simp only; omega) (ai.aF (x:=List.replicate home.length []) (by unfold mk?; rw [if_pos (by omega)]; rfl) ?_)))
    refine ai.bind (P:=(· = xb home (j:Int))) ?_ ?_
    ·refine ai.r7 (I:=fun pre s=>s.length = home.length ∧ ∀ b:Int,0 ≤ b → b < home.length → idx s b = if b < pre.length ∧ idx home b = (j:Int) then nQ b else []) (by omega) (by omega) ⟨by simp,fun b h0 h1=>by rw [lJ h0 h1,if_neg (by simp; omega)]⟩ ?_ ?_
     ·rintro pre x post s e hx ⟨k1,k2⟩
      have ex:=ox hx
      have hpl:pre.length < home.length:=by rw [e]; simp
      refine ai.bind (P:=fun s':List Str=>s'.length = home.length ∧ ∀ b:Int,0 ≤ b → b < home.length → idx s' b = if b < ((pre ++ [x]).length:Int) ∧ idx home b = (j:Int) then nQ b else []) ?_ fun s' h=>ai.some (.inl ⟨_,rfl,h⟩)
      refine ai.aF hx (ai.ite (fun hc=>?_) fun hc=>?_)
      ·have hc:=of_decide_eq_true hc
       refine ai.aF (ng _ _) (ai.idx (by omega) (by omega) (ai.some ⟨by rw [List.length_set]; exact k1,fun b h0 h1=>?_⟩))
       rw [eF (by omega) (by omega) h0]
       by_cases eb:b = (pre.length:Int)
       ·subst eb
        rw [if_pos rfl,if_pos ⟨by rw [List.length_append,List.length_singleton]; omega,by rw [ex]; exact hc⟩]
       ·rw [if_neg eb,k2 b h0 h1]
        have:(b < (pre.length:Int)) ↔ (b < ((pre ++ [x]).length:Int)):=by rw [List.length_append,List.length_singleton]; omega
        simp only [this]
      ·have hc:=of_decide_eq_false hc
       refine ai.some ⟨k1,fun b h0 h1=>?_⟩
       rw [k2 b h0 h1]
       by_cases eb:b = (pre.length:Int)
       ·subst eb
        rw [if_neg (by omega),if_neg (fun h=>hc (by rw [← ex]; exact h.2))]
       ·have:(b < (pre.length:Int)) ↔ (b < ((pre ++ [x]).length:Int)):=by rw [List.length_append,List.length_singleton]; omega
        simp only [this]
     ·rintro s ⟨k1,k2⟩
      refine ext_idx (by rw [k1,qh]) fun b h0 h1=>?_
      rw [k2 b h0 (by omega),oB h0 (by omega)]
      by_cases hb:idx home b = (j:Int)
      ·rw [if_pos ⟨by omega,hb⟩,if_pos hb]
      ·rw [if_neg (fun h=>hb h.2),if_neg hb]
    ·rintro _ rfl
     have hv:=xX (home:=home) (sets:=idx found (j:Int)) (m:=j) (by omega) (by omega) hH hp hc
     refine ai.aF hix (ai.bind ((lB hF _ _ _ _ _ _).yld (wX (by omega) s1 s2)) ?_)
     rintro z (⟨_,hn⟩ | ⟨_,rfl⟩)
     ·exact absurd hv hn
     have hlt:=yA (by omega) s1 s2 hv
     have e1:(eZ (mx (j:Int) regions 3 home (idx found (j:Int)) (xb home (j:Int))) (cF (j:Int) 3 (idx found (j:Int)) regions.toNat)).1 = rr C j:=by rw [← hC]; unfold rr bg bo; simp only; rw [show ((regions.toNat:Nat):Int) = regions by omega]
     have e2:(eZ (mx (j:Int) regions 3 home (idx found (j:Int)) (xb home (j:Int))) (cF (j:Int) 3 (idx found (j:Int)) regions.toNat)).2 = wo C j:=by rw [← hC]; unfold wo bg bo; simp only; rw [show ((regions.toNat:Nat):Int) = regions by omega]
     rw [e2] at hlt
     simp only [e1,e2,ml]
     have hwl':=hlt.len
     refine ai.iff rfl (ai.app (by simp only [List.length_map,List.length_range,List.length_singleton]; omega) (ai.app (by omega) (ai.some (.inr ⟨by rw [ef]; exact ⟨s1,s2⟩,by rw [ef,eh]; exact hp,hwl',?_⟩))))
     rw [wy,lW,lW,ef]
   ·rintro o (rfl | ⟨g1,g2,g3,rfl⟩)
    ·exact ai.some (.inr ⟨_,rfl,.inl rfl⟩)
    ·refine ai.some (.inl ⟨_,rfl,⟨by omega,?_,?_,fun i hi=>?_⟩,by omega⟩)
     ·simp only
      rw [jM (by omega) (by omega)]; push_cast; rfl
     ·rw [lW,List.length_append]; omega
     ·by_cases e:i < j
      ·exact hI i e
      ·have:i = j:=by omega
       subst this; exact ⟨g1,g2⟩
  ·have hc:¬ (j:Int) < regions:=of_decide_eq_false hc
   have:j = C.R:=by omega
   subst this
   have ok:C.Ok:=⟨by omega,hCR,by rw [eh]; omega,by rw [eh,eR]; exact hH,by rw [ef]; omega,fun i hi=>(hI i hi).1,fun i hi=>(hI i hi).2⟩
   refine ai.some (.inr ⟨_,rfl,.inr ⟨ok,?_⟩⟩)
   have:C.A = (List.range C.R).flatMap (fun i:Nat=>idx C.fd (i:Int)):=by
    rw [A_hs ok]
    unfold kO.hs
    rw [List.filter_eq_self.2 fun j hj=>by rw [lJ (by omega) (by have:=List.mem_range.1 hj; omega)]]
   rw [this]
 rintro o (rfl | ⟨ok,rfl⟩)
 ·exact ai.some rfl
 simp only [bH,ml]
 have Y0:=uS ok
 have T0:=wW ok
 refine ai.bind (P:=fun o:List Round ⊕ Bool=>∃ rs,o = .inl rs ∧ rm C rs [] ∧ NR C rs) ?_ ?_
 ·refine ai.loop (I:=fun s:List Round × List au × Int=>rm C s.1 s.2.1 ∧ 0 ≤ s.2.2 ∧ s.2.1.length + oh s.1 ≤ 256 ∧ s.2.2 + ((((l.length:Int) + 1 - s.2.2).toNat + s.2.1.length + oh s.1:Nat):Int) ≤ 400 ∧ ((l.length:Int) < s.2.2 → NR C s.1)) (μ:=fun s=>((l.length:Int) + 1 - s.2.2).toNat + s.2.1.length + oh s.1) ⟨Y0,Int.le_refl _,T0,by simp only; omega,fun h=>by simp only at h; omega⟩ (by simp only; omega) ?_
  rintro ⟨rs,way,i⟩ ⟨Y,i0,hB,hM,hN⟩
  simp only [ml] at Y i0 hB hM hN ⊢
  refine ai.ln (ai.ite (fun hc=>?_) fun hc=>?_)
  rotate_left
  ·simp only [Bool.or_eq_false_iff,decide_eq_false_iff_not] at hc
   have hwe:way = []:=List.length_eq_zero_iff.1 (by omega)
   subst hwe
   exact ai.some (.inr ⟨_,rfl,rs,rfl,Y,hN (by omega)⟩)
  have hgo:i ≤ l.length ∨ 0 < way.length:=by
   simp only [Bool.or_eq_true,decide_eq_true_eq] at hc
   omega
  refine ai.bind (P:=fun o:(List Round × List au) ⊕ Bool=>∃ rs' way',o = .inl (rs',way') ∧ rm C rs' way' ∧ way'.length + oh rs' + (if (l.length:Int) < i then 1 else 0) ≤ way.length + oh rs ∧ ((l.length:Int) ≤ i → NR C rs')) ?_ ?_
  rotate_left
  ·rintro o ⟨rs',way',rfl,Y',hB',hN'⟩
   refine ai.some (.inl ⟨_,rfl,⟨Y',?_,?_,?_,fun h=>?_⟩,?_⟩)
   all_goals simp only [jM (show -9223372036854775808 ≤ i + 1 by omega) (show i + 1 ≤ 9223372036854775807 by omega)]
   ·omega
   ·split at hB' <;> omega
   ·split at hB' <;> omega
   ·simp only [jM (show -9223372036854775808 ≤ i + 1 by omega) (show i + 1 ≤ 9223372036854775807 by omega)] at h
    exact hN' (by omega)
   ·split at hB' <;> omega
  refine ai.bind (P:=fun z:Int × Bool=>0 ≤ z.1 ∧ z.1 ≤ 255 ∧ ((l.length:Int) ≤ i → z.1 = 0 ∧ z.2 = false)) ?_ ?_
  ·refine ai.ite (fun h=>?_) fun h=>?_
   ·have h:=of_decide_eq_true h
    have hx:=h2 _ (gb (l:=l) (i:=i) i0 h)
    refine ai.idx i0 h (ai.some ⟨?_,?_,fun h'=>by omega⟩)
    all_goals simp only [jM (show -9223372036854775808 ≤ idx l i by omega) (show idx l i ≤ 9223372036854775807 by omega)]
    ·exact hx.1
    ·exact hx.2
   ·exact ai.some ⟨by decide,by decide,fun _=>⟨rfl,rfl⟩⟩
  rintro ⟨n,keep⟩ ⟨n0,n1,n2⟩
  simp only at n0 n1 n2
  refine ai.bind (P:=fun z:List Round × List au=>rm C z.1 z.2 ∧ z.2.length + oh z.1 + (if (l.length:Int) < i then 1 else 0) ≤ way.length + oh rs) ?_ ?_
  ·refine ai.ite (fun hw=>?_) fun hw=>?_
   ·have hw:0 < (way.length:Int):=of_decide_eq_true hw
    refine ai.quo (by decide) ?_
    have e1:IntKind.i64.wrap (n.tdiv 5) = n / 5:=by rw [x4 n0]; exact jM (by omega) (by omega)
    rw [e1]
    refine ai.rem (by omega) ?_
    rw [xZ (by omega)]
    have hk0:0 ≤ n / 5 % (way.length:Int):=Int.emod_nonneg _ (by omega)
    have hk1:n / 5 % (way.length:Int) < way.length:=Int.emod_lt_of_pos _ hw
    generalize n / 5 % (way.length:Int) = k at hk0 hk1
    refine ai.idx hk0 hk1 ?_
    have hxm:=gb (l:=way) hk0 hk1
    obtain ⟨kn,rfl⟩:∃ kn:Nat,k = kn:=⟨k.toNat,by omega⟩
    have hkl:kn < way.length:=by omega
    rw [dd _ _ hkl] at hxm ⊢
    have esplit:way = way.take kn ++ way[kn] :: way.drop (kn + 1):=by rw [← List.drop_eq_getElem_cons hkl,List.take_append_drop]
    generalize hxx:way[kn] = x at hxm esplit
    obtain ⟨t0,t1,_⟩:=(Y.lets x hxm).toIn ok
    have hyl:=Y.len
    have g:=Y.reg x.To t0 t1
    refine ai.idx t0 (by omega) (ai.aF (mb hF _ _ _ (yv g.wf ((Y.lets x hxm).lk ok))) (ai.idx t0 (by omega) ?_))
    have ht:=yu ok Y hxm
    have hol:=(hear_lt g.wf ((Y.lets x hxm).lk ok)).len
    refine ai.bind (P:=fun w:List au=>(∀ y ∈ way,y ∈ w ∨ y = x) ∧ (∀ y ∈ w,y ∈ way) ∧ w.length ≤ way.length ∧ (keep = false → w.length + 1 = way.length)) ?_ ?_
    ·refine ai.ite (fun hkp=>?_) fun hkp=>?_
     ·refine ai.take (by omega) (by omega) (ai.app (by simp only [List.length_nil,List.length_take]; omega) ?_)
      rw [jM (by omega) (by omega)]
      refine ai.drop (by omega) (by omega) (ai.app (by simp only [List.nil_append,List.length_take,List.length_drop]; omega) (ai.some ?_))
      have e3:((kn:Int) + 1).toNat = kn + 1:=by omega
      rw [e3,Int.toNat_natCast,List.nil_append]
      refine ⟨fun y hy=>?_,fun y hy=>?_,?_,fun _=>?_⟩
      ·rw [esplit] at hy
       rcases List.mem_append.1 hy with hy | hy
       ·exact .inl (List.mem_append.2 (.inl hy))
       ·rcases List.mem_cons.1 hy with hy | hy
        ·exact .inr hy
        ·exact .inl (List.mem_append.2 (.inr hy))
      ·rcases List.mem_append.1 hy with hy | hy
       ·exact List.mem_of_mem_take hy
       ·exact List.mem_of_mem_drop hy
      ·rw [List.length_append,List.length_take,List.length_drop]; omega
      ·rw [List.length_append,List.length_take,List.length_drop]; omega
     ·exact ai.some ⟨fun y hy=>.inl hy,fun y hy=>hy,Nat.le_refl _,fun hk=>by rw [hk] at hkp; cases hkp⟩
    ·rintro w ⟨w1,w2,w3,w4⟩
     have hSx:=rm.je ok Y hxm (way':=w ++ (je (idx rs x.To) x).2) (fun y hy=>(w1 y hy).imp_left fun h=>List.mem_append.2 (.inl h)) (fun y hy=>List.mem_append.2 (.inr hy)) (fun y hy=>(List.mem_append.1 hy).imp_left (w2 y))
     refine ai.app (by omega) (ai.some ⟨hSx,?_⟩)
     simp only [List.length_append]
     split
     ·next hil=>have:=w4 (n2 (by omega)).2; omega
     ·omega
   ·have hw:¬ 0 < (way.length:Int):=of_decide_eq_false hw
    refine ai.some ⟨Y,?_⟩
    rw [if_neg (by omega)]
    exact Nat.le_refl _
  rintro ⟨rs1,way1⟩ ⟨Y1,hB1⟩
  simp only at Y1 hB1
  have hB2:way1.length + oh rs1 ≤ 256:=by omega
  refine ai.ite (fun h3=>?_) fun h3=>?_
  rotate_left
  ·refine ai.some ⟨rs1,way1,rfl,Y1,hB1,fun hli=>?_⟩
   rw [(n2 hli).1] at h3
   simp at h3
  refine ai.bind (P:=fun o:(List Round × List au) ⊕ Bool=>∃ rs' way',o = .inl (rs',way') ∧ rm C rs' way' ∧ way'.length + oh rs' ≤ way1.length + oh rs1 ∧ NR C rs') ?_ ?_
  rotate_left
  ·rintro o ⟨rs',way',rfl,Y',hB',hN'⟩
   exact ai.some ⟨rs',way',rfl,Y',by omega,fun _=>hN'⟩
  refine ai.rounds (n:=C.R) (I:=fun j s=>s.2.2 = (j:Int) ∧ j ≤ C.R ∧ rm C s.1 s.2.1 ∧ s.2.1.length + oh s.1 ≤ way1.length + oh rs1 ∧ ∀ m:Int,0 ≤ m → m < (j:Int) → ∀ k:Nat,k < (idx s.1 m).Tasks.length → cm (idx s.1 m) (k:Int) = false) (by omega) ⟨rfl,by omega,Y1,Nat.le_refl _,fun m m0 m1=>by omega⟩ ?_
  rintro j ⟨rs2,way2,me⟩ hj ⟨hme,_,Y2,hB3,hN2⟩
  simp only [ml] at hme Y2 hB3 hN2 ⊢
  subst hme
  refine ai.ite (fun hc=>?_) fun hc=>?_
  rotate_left
  ·have hc:¬ (j:Int) < regions:=of_decide_eq_false hc
   refine ai.some (.inr ⟨_,rfl,rs2,way2,rfl,Y2,hB3,fun m m0 m1=>hN2 m m0 (by omega)⟩)
  have hc:(j:Int) < regions:=of_decide_eq_true hc
  have hyl:=Y2.len
  have g:=Y2.reg (j:Int) (by omega) (by omega)
  generalize hr0:idx rs2 (j:Int) = r0 at g
  refine ai.bind (P:=fun o:(List Round × List au) ⊕ Bool=>∃ rs' way',o = .inl (rs',way') ∧ rm C rs' way' ∧ way'.length + oh rs' ≤ way1.length + oh rs1 ∧ (∀ m:Int,0 ≤ m → m < C.R → m ≠ (j:Int) → idx rs' m = idx rs2 m) ∧ ∀ k:Nat,k < (idx rs' (j:Int)).Tasks.length → cm (idx rs' (j:Int)) (k:Int) = false) ?_ ?_
  rotate_left
  ·rintro o ⟨rs',way',rfl,Y',hB',hE,hR⟩
   refine ai.some (.inl ⟨_,rfl,⟨?_,by omega,Y',hB',fun m m0 m1=>?_⟩,by omega⟩)
   ·simp only
    rw [jM (by omega) (by omega)]; push_cast; rfl
   ·by_cases e:m = (j:Int)
    ·rw [e]; exact hR
    ·rw [hE m m0 (by omega) e]; exact hN2 m m0 (by omega)
  refine ai.aF (gf (by omega) (by omega)) ?_
  rw [hr0]
  have hrl:=uY r0
  have hT:=g.wf.xd
  refine ai.aF (lA hF _ _ (wx g.wf)) ?_
  refine ai.bind (P:=fun o:(List Round × List au) ⊕ Bool=>∃ rs' way',o = .inl (rs',way') ∧ rm C rs' way' ∧ way'.length + oh rs' ≤ way1.length + oh rs1 ∧ (∀ m:Int,0 ≤ m → m < C.R → m ≠ (j:Int) → idx rs' m = idx rs2 m) ∧ ∀ k:Nat,k < (idx rs' (j:Int)).Tasks.length → cm (idx rs' (j:Int)) (k:Int) = false) ?_ (fun o ho=>by obtain ⟨rs',way',rfl,h⟩:=ho; exact ai.some ⟨rs',way',rfl,h⟩)
  refine ai.ea3 (I:=fun pre rs' way'=>rm C rs' way' ∧ way'.length + oh rs' ≤ way1.length + oh rs1 ∧ (∀ m:Int,0 ≤ m → m < C.R → m ≠ (j:Int) → idx rs' m = idx rs2 m) ∧ (idx rs' (j:Int)).Tasks = r0.Tasks ∧ (idx rs' (j:Int)).States = r0.States ∧ (idx rs' (j:Int)).Me = r0.Me ∧ ∀ k:Nat,k < r0.Tasks.length → idx (idx rs' (j:Int)).Done (k:Int) = (idx r0.Done (k:Int) || decide ((k:Int) ∈ pre))) (by omega) (by omega) ⟨Y2,hB3,fun _ _ _ _=>rfl,by rw [hr0],by rw [hr0],by rw [hr0],fun k hk=>by rw [hr0]; simp⟩ ?_ ?_
  ·rintro pre x post rs3 way3 e hx ⟨Y3,hB4,k1,k2,k3,k4,k5⟩
   obtain ⟨n,hn,hrn,rfl⟩:=n3.1 (show x ∈ fM r0 by rw [e]; simp)
   have hnp:¬ (n:Int) ∈ pre:=fun h=>by
    have:=sW r0
    rw [e,List.nodup_append] at this
    exact this.2.2 _ h _ (List.mem_cons_self ..) rfl
   have hyl3:=Y3.len
   have g3:=Y3.reg (j:Int) (by omega) (by omega)
   have hix3:aT rs3 (j:Int) = some (idx rs3 (j:Int)):=gf (by omega) (by omega)
   have hrdy:cm (idx rs3 (j:Int)) (n:Int) = true:=by
    rw [oW k2 k3 k4 _ (by rw [k5 n hn]; simp [hnp])]; exact hrn
   have hn3:n < (idx rs3 (j:Int)).Tasks.length:=by rw [k2]; exact hn
   have A:=w5 ok g3 hn3 hrdy
   have htb:=g3.wf.task (gb (l:=(idx rs3 (j:Int)).Tasks) (i:=(n:Int)) (by omega) (by omega))
   refine ai.aF hix3 (ai.aF hx (ai.idx (by omega) (by omega) (ai.aF hix3 (ai.aF hx (ai.aF (gp hF _ _ (qM htb.2.1)) ?_)))))
   have hslen:(r6 (idx (idx rs3 (j:Int)).Tasks (n:Int)).Bodies).length ≤ 9223372036854775807:=by
    unfold r6; rw [List.length_map]; omega
   refine ai.aF (kN hF _ _ _ _ (vm g3.wf hslen)) ?_
   have hat:=vj Y3 (by omega) (by omega) A
   have hol:=(w6 (k:=(n:Int)) (states:=r6 (idx (idx rs3 (j:Int)).Tasks (n:Int)).Bodies) g3.wf).len
   have hS:=rm.answer ok Y3 (by omega) (by omega) hn3 A
   obtain ⟨c,hc',hcb,hmc,hst,_⟩:=A.cls
   have hst':=g3.wf.st
   have hhm':=g3.hm
   have hkn:bL 2000 (idx rs3 (j:Int)) (idx (idx rs3 (j:Int)).Tasks (n:Int)).Bodies = some true:=wJ htb.2.1 fun b hb=>by
    have:=htb.1 b hb
    exact ⟨this.1,by rw [hst']; exact this.2.1,hst b (by rw [← hcb]; exact hb)⟩
   generalize hz:answer (idx rs3 (j:Int)) (n:Int) (r6 (idx (idx rs3 (j:Int)).Tasks (n:Int)).Bodies) = z at A hat hol hS
   obtain ⟨z1,z2,z3⟩:=z
   have ez:z3 = 0:=A.e
   obtain ⟨s1,s2,s3,s4⟩:=A.same
   simp only at s1 s2 s3 s4 hat hol hS
   simp only [ml,ez]
   refine ai.g1 rfl (ai.aF hix3 (ai.g1 rfl (ai.aF (kZ hF _ _ _ hkn) (ai.iff rfl (ai.aF hix3 (ai.app (by omega) (ai.some (.inl ⟨_,_,rfl,hS,?_,fun m m0 m1 hne=>?_,?_,?_,?_,fun k hk=>?_⟩))))))))
   ·simp only [List.length_append]; omega
   ·rw [eF (by omega) (by omega) m0,if_neg hne]; exact k1 m m0 m1 hne
   ·rw [eF (by omega) (by omega) (by omega),if_pos rfl,s3,k2]
   ·rw [eF (by omega) (by omega) (by omega),if_pos rfl,s2,k3]
   ·rw [eF (by omega) (by omega) (by omega),if_pos rfl,A.reg.me,g.me]
   ·have hdl:=g3.wf.dn
    rw [eF (by omega) (by omega) (by omega),if_pos rfl,s4]
    have e2:idx ((idx rs3 (j:Int)).Done.set n true) (k:Int) = if (k:Int) = (n:Int) then true else idx (idx rs3 (j:Int)).Done (k:Int):=by
     have:=eF (l:=(idx rs3 (j:Int)).Done) (i:=(n:Int)) (j:=(k:Int)) (x:=true) (by omega) (by omega) (by omega)
     simpa using this
    rw [e2]
    by_cases ekn:(k:Int) = (n:Int)
    ·rw [if_pos ekn,ekn]; simp
    ·rw [if_neg ekn,k5 k hk]
     congr 1
     refine decide_eq_decide.2 ?_
     rw [List.mem_append,List.mem_singleton]
     exact ⟨.inl,fun h=>h.resolve_right ekn⟩
  ·rintro rs3 way3 ⟨Y3,hB4,k1,k2,k3,k4,k5⟩
   refine ⟨rs3,way3,rfl,Y3,hB4,k1,fun k hk=>?_⟩
   rw [k2] at hk
   cases hrk:cm r0 (k:Int) with
   | true=>
    have hd:=k5 k hk
    rw [decide_eq_true (n3.2 ⟨k,hk,hrk,rfl⟩),Bool.or_true] at hd
    unfold cm; rw [hd]; simp
   | false=>
    have hd:=k5 k hk
    have hnm:¬ (k:Int) ∈ fM r0:=fun h=>by
     obtain ⟨n,hn,h',e⟩:=n3.1 h
     have:k = n:=by omega
     subst this; rw [hrk] at h'; cases h'
    rw [decide_eq_false hnm,Bool.or_false] at hd
    rw [oW k2 k3 k4 _ hd]; exact hrk
 rintro o ⟨rs,rfl,Y,nr⟩
 simp only [bH]
 have hAl:=A_len ok
 have hal:=np home
 refine ai.bind (P:=(· = C.A ++ alone home)) ?_ ?_
 ·refine ai.r7 (I:=fun pre s=>s = C.A ++ ((List.range pre.length).filter fun b:Nat=>decide (0 ≤ idx home (b:Int))).map fun b:Nat=>[(b:Int)]) (by omega) (by omega) (by simp) ?_ fun s h=>h
  rintro pre x post s e hx rfl
  have ex:=ox hx
  have hpl:pre.length < home.length:=by rw [e]; simp
  refine ai.bind (P:=fun s=>s = C.A ++ ((List.range (pre ++ [x]).length).filter fun b:Nat=>decide (0 ≤ idx home (b:Int))).map fun b:Nat=>[(b:Int)]) ?_ fun s h=>ai.some (.inl ⟨_,rfl,h⟩)
  rw [List.length_append,List.length_singleton,ix,ex]
  refine ai.aF hx (ai.ite (fun hc=>?_) fun hc=>?_)
  ·refine ai.app ?_ (ai.some (by rw [hc]; simp))
   have:=List.length_filter_le (fun b:Nat=>decide (0 ≤ idx home (b:Int))) (List.range pre.length)
   rw [List.length_range] at this
   simp only [List.length_map,List.length_singleton,List.length_append]; omega
  ·exact ai.some (by rw [hc]; simp)
 rintro _ rfl
 have hz:=tn ok
 rw [eh] at hz
 have eQ:C.Q = mg (C.A ++ alone home):=by unfold kO.Q; rw [eh]
 refine ai.aF (fI hF _ _ (sm (Ls:=[C.A ++ alone home]) (by simpa using hz) (by simp))) ?_
 rw [show [C.A ++ alone home].flatten = C.A ++ alone home by simp,← eQ]
 obtain ⟨q1,q2⟩:=rL ok
 have hTl:C.T.length = C.Q.length:=by unfold kO.T; simp
 have hyl:=Y.len
 refine ai.bind (P:=(· = .inl ())) ?_ (fun o ho=>by rw [ho]; exact ai.aF hsan (ai.some rfl))
 refine ai.rounds (n:=C.R) (I:=fun j s=>s = (j:Int)) (by omega) rfl ?_
 rintro j s hj rfl
 refine ai.ite (fun hc=>?_) fun hc=>?_
 rotate_left
 ·exact ai.some (.inr ⟨_,rfl,rfl⟩)
 have hc:(j:Int) < regions:=of_decide_eq_true hc
 obtain ⟨t1,t2,t3⟩:=Y.final ok nr (m:=(j:Int)) (by omega) (by omega)
 obtain ⟨u1,_,_⟩:=Y.final ok nr (m:=0) (by omega) (by omega)
 have g:=Y.reg (j:Int) (by omega) (by omega)
 have hix:aT rs (j:Int) = some (idx rs (j:Int)):=gf (by omega) (by omega)
 have hix0:aT rs 0 = some (idx rs 0):=gf (by omega) (by omega)
 refine ai.bind (P:=(· = .inl ())) ?_ (fun o ho=>by rw [ho]; exact ai.some (.inl ⟨_,rfl,by rw [jM (by omega) (by omega)]; push_cast; rfl,by omega⟩))
 refine ai.aF hix (ai.aF (jw hF _ _ (by rw [fin_own g.wf,t2])) (ai.g1 rfl (ai.aF hix (ai.g1 rfl (ai.aF hix0 (ai.g1 rfl ?_))))))
 rw [t1,u1]
 refine ai.aF (fv hF _ _ _ (x5 (by omega) fun t ht=>?_)) (ai.g1 rfl (ai.aF hix ?_))
 ·obtain ⟨c,hc',rfl⟩:=qt.1 ht
  have h5:=uj C.h c
  have h6:=q2 c hc'
  refine ⟨by show c.length ≤ 1000; omega,by show (Go.Proofs.Ytnpddoaeoefcnaa.rs C.h c).tail.length ≤ 1000; rw [List.length_tail]; omega⟩
 rw [t1]
 refine ai.iff (by simp [hTl]) (ai.bind (P:=(· = .inl ())) ?_ (fun o ho=>by rw [ho]; exact ai.some rfl))
 refine ai.vp (fun _=>True) (by omega) (by omega) trivial (fun pre c post e hci _=>?_) fun _=>rfl
 have hcm:c ∈ C.Q:=by rw [e]; simp
 have hcl:=q2 c hcm
 have hpl:pre.length < C.Q.length:=by rw [e]; simp
 refine ai.bind (P:=(· = .inl ())) ?_ (fun o ho=>by rw [ho]; exact ai.some (.inl ⟨rfl,trivial⟩))
 have hcT:idx C.T (pre.length:Int) = dw C.h c:=by
  have h7:=ox hci
  unfold kO.T
  rw [dd _ _ (by simp; omega)]
  rw [dd _ _ hpl] at h7
  simp [h7]
 refine ai.aF hci (ai.aF (gp hF _ _ (qM (by omega))) (ai.aF hix ?_))
 rw [t1]
 refine ai.idx (by omega) (by omega) ?_
 rw [hcT]
 refine ai.aF hci (ai.aF (hX hF _ _ _ (sD (l:=c) (by omega))) (ai.iff rfl (ai.bind (P:=(· = .inl ())) ?_ (fun o ho=>by rw [ho]; exact ai.some rfl))))
 simp only [hci,Option.bind_some]
 refine ai.vp (fun _=>True) (by omega) (by omega) trivial (fun q b post' e' hb _=>?_) fun _=>rfl
 have hbm:b ∈ c:=by rw [e']; simp
 have hbq:=ij ok c hcm b hbm
 rw [eh] at hbq
 have hql:q.length < c.length:=by rw [e']; simp
 refine ai.aF hb (ai.idx hbq.1 hbq.2.1 ?_)
 by_cases hbj:idx home b = (j:Int)
 ·rw [decide_eq_true hbj]
  have hrl:=g.wf.re
  have hhm:=g.hm
  refine ai.g1 rfl (ai.aF hix (ai.g1 rfl (ai.idx hbq.1 (by rw [hrl,hhm,eh]; exact hbq.2.1) (ai.g1 rfl (ai.idx (by omega) (by unfold r6; rw [List.length_map]; omega) ?_)))))
  have h8:idx (r6 c) (q.length:Int) = rz c b:=by
   have h9:=ox hb
   unfold r6
   rw [dd _ _ (by simp; omega)]
   rw [dd _ _ hql] at h9
   simp [h9]
  rw [h8,t3 c hcm b hbm (by rw [eh]; exact hbj)]
  exact ai.iff (by simp) (ai.some (.inl ⟨rfl,trivial⟩))
 ·rw [decide_eq_false hbj]
  exact ai.g0 rfl (ai.g0 rfl (ai.g0 rfl (ai.iff rfl (ai.some (.inl ⟨rfl,trivial⟩)))))
end Go.Proofs.Ytnpddoaeoefcnaa
namespace Go.Proofs.Ytnpddoaeoefcnaa
open Go Go.Sk
set_option linter.unusedVariables false
abbrev xl (found:List (List (List Int))):Nat:=2001 + (found.map fun y=>y.length).sum
theorem w8 (regions:Int) (home:List Int) (found:List (List (List Int))) (l:List Int) (h1:∀ L ∈ found,L.length ≤ 9223372036854775807) (h2:∀ x ∈ l,0 ≤ x ∧ x ≤ 255):cq (xl found) regions home found l = some true :=
 w7 regions home found l h1 h2 (by unfold xl; omega) fun y hy=>by
  have:=xv (fun y:List (List Int)=>y.length) hy
  unfold xl; omega
theorem wS {h:PH} {v:Value} {l:List (List (List Int))} (hv:(CP.sl 1 (l.map (eL 1 (eL 1 eI)))).rel h v) {y:List (List Int)} (hy:y ∈ l):y.length ≤ 9223372036854775807:=by
 have:=wj (qN hv (List.mem_map.2 ⟨y,hy,rfl⟩) (p:=.sl 1 (y.map (eL 1 eI))) (by simp [eL]))
 simpa using this
theorem yz {h:PH} {v:Value} {l:List Int} (hv:(CP.sl 1 (l.map (eK .u8))).rel h v) {x:Int} (hx:x ∈ l):0 ≤ x ∧ x ≤ 255:=by
 obtain ⟨u,hu⟩:=qN hv (List.mem_map.2 ⟨x,hx,rfl⟩) (p:=.int .u8 x) (by simp [eK])
 have:=hu.2
 unfold rl at this
 simpa [IntKind.min,IntKind.max,IntKind.signed,IntKind.bits] using this
end Go.Proofs.Ytnpddoaeoefcnaa
namespace Go.Proofs.Ytnpddoaeoefcnaa
open Go Go.Sk
theorem w9 (x0:Int) (x1:List Int) (x2:List (List (List Int))) (x3:List Int) (hx2:∀ y ∈ x2,y.length ≤ 9223372036854775807) (hx3:∀ y ∈ x3,0 ≤ y ∧ y ≤ 255):aC Try.prog [] 5 [] [.one (.i x0),.one (.sl 1 (x1.map eI)),.one (.sl 1 (x2.map (eL 1 (eL 1 eI)))),.one (.sl 1 (x3.map (eK .u8)))] (Is [] (.b (.one (.bool true)))) :=
 iU (w8 x0 x1 x2 x3 hx2 hx3)
end Go.Proofs.Ytnpddoaeoefcnaa
