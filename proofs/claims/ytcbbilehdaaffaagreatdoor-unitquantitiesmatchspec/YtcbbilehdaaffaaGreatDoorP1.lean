/- the plain law -/
import Derived.Test.YtcbbilehdaaffaaGreatDoorW4
namespace Go.Sk
set_option linter.unusedSimpArgs false
set_option linter.unusedVariables false
def cM (b:Int) (l:List Int):Prop:=∀ i,0 ≤ dg l i ∧ dg l i < b
def MM:Int:=4294967296 ^ 16
theorem vv:MM = 13407807929942597099574024998205846127479365820592393377723561443721764030073546976801874298166903427690031858186486050853753882811946569946433649006084096:=by decide +kernel
theorem tO:0 < MM:=by rw [vv]; decide
def av (w:aU):Int:=ds 4294967296 (dg w.l) 16
def tC (z:Int):aU:=.of ((List.range 16).map fun i=>nd 4294967296 z i)
theorem toA_l (z:Int):(tC z).l = (List.range 16).map fun i=>nd 4294967296 z i:=aU.wS (by simp)
theorem Dy (z:Int) {i:Nat} (h:i < 16):dg (tC z).l i = nd 4294967296 z i:=by
 rw [toA_l]
 unfold dg
 rw [List.getD_eq_getElem?_getD,List.getElem?_map,List.getElem?_range h]
 rfl
theorem y8 (b z:Int) (hb:0 < b) (i:Nat):0 ≤ nd b z i ∧ nd b z i < b:=⟨Int.emod_nonneg _ (by omega),Int.emod_lt_of_pos _ hb⟩
theorem lx (z:Int):cM 4294967296 (tC z).l:=fun i=>by
 by_cases h:i < 16
 ·rw [Dy z h]; exact y8 _ _ (by decide) i
 ·rw [pU (by rw [aU.ck]; omega)]; decide
theorem jD (z:Int):av (tC z) = z % MM:=by
 unfold av
 rw [dy (g:=nd 4294967296 z) fun i hi=>Dy z hi,Dk (by decide)]
 rfl
theorem fA {w:aU} (h:cM 4294967296 w.l):0 ≤ av w ∧ av w < MM:=⟨dY (by decide) fun i _=>(h i).1,pS (by decide) fun i _=>h i⟩
theorem AI {v w:aU} (hv:cM 4294967296 v.l) (hw:cM 4294967296 w.l) (h:av v = av w):v = w:=by
 rw [← aU.w7]
 refine Eh rfl fun i hi=>?_
 exact AD (by decide) (fun i _=>hv i) (fun i _=>hw i) h i hi
theorem pY {w:aU} (h:cM 4294967296 w.l):tC (av w) = w:=by
 refine AI (lx _) h ?_
 rw [jD]
 exact Int.emod_eq_of_lt (fA h).1 (fA h).2
theorem x6 {w:aU} {z:Int} (h:cM 4294967296 w.l) (hz:av w = z):w = tC z:=by rw [← hz,pY h]
theorem Cj {w:aU} {z:Int} (h:cM 4294967296 w.l) (hz:av w = z % MM):w = tC z:=AI h (lx z) (by rw [hz,jD])
theorem j6:cM 4294967296 aU.zero.l:=fun i=>by
 have:aU.zero.l = List.replicate 16 0:=rfl
 rw [this,dj]; decide
theorem sY:av aU.zero = 0:=nq fun i _=>by
 have:aU.zero.l = List.replicate 16 0:=rfl
 rw [this,dj]
theorem zero_eq:aU.zero = tC 0:=x6 j6 sY
theorem mi {w:aU} (h:cM 4294967296 w.l):w = aU.zero ↔ av w = 0:=⟨fun e=>by rw [e,sY],fun e=>AI h j6 (by rw [e,sY])⟩
theorem jB {w:aU} {i x:Int} (h:cM 4294967296 w.l) (h0:0 ≤ i) (h1:i < 16) (hx:0 ≤ x ∧ x < 4294967296):cM 4294967296 (w.set i x).l:=fun j=>by
 rw [aU.jh,gP (by rw [aU.ck]; omega)]
 split
 ·exact hx
 ·exact h j
theorem fH {w:aU} {i x:Int} (h0:0 ≤ i) (h1:i < 16) (j:Nat):dg (w.set i x).l j = if j = i.toNat then x else dg w.l j:=by
 rw [aU.jh,gP (by rw [aU.ck]; omega)]
theorem x7 {b x:Int} {f g:Nat → Int} {k:Nat} (h:∀ i,g i = if i = k then x else f i):ds b g (k + 1) = ds b f k + x * b ^ k:=by
 show ds b g k + g k * b ^ k = _
 rw [dy (g:=f) fun i hi=>by rw [h i,if_neg (by omega)],h k,if_pos rfl]
theorem aU.sf {b:Int} {w:aU} {k:Nat} {x:Int} (h:k < 16):ds b (dg (w.set (k:Int) x).l) (k + 1) = ds b (dg w.l) k + x * b ^ k:=x7 fun i=>by rw [fH (by omega) (by omega),Int.toNat_natCast]
theorem wK {b A Bb O c x c' ak bk:Int} {k:Nat} (h:A + Bb = O + c * b ^ k) (e:c + ak + bk = x + c' * b):(A + ak * b ^ k) + (Bb + bk * b ^ k) = (O + x * b ^ k) + c' * b ^ (k + 1):=by
 rw [Int.pow_succ]
 grind
theorem uK {b A Bb O c x c' ak bk:Int} {k:Nat} (h:A + c * b ^ k = Bb + O) (e:ak - bk - c = x - c' * b):(A + ak * b ^ k) + c' * b ^ (k + 1) = (Bb + bk * b ^ k) + (O + x * b ^ k):=by
 rw [Int.pow_succ]
 grind
theorem Dl {b:Int} (hb:0 < b) {f:Nat → Int} {n m:Nat} (hf:∀ i,0 ≤ f i ∧ f i < b):ds b f (n + m) / b ^ n = ds b (fun i=>f (n + i)) m:=by
 have h1:=dY hb (f:=f) (n:=n) fun i _=>(hf i).1
 have h2:=pS hb (f:=f) (n:=n) fun i _=>hf i
 rw [gg,Int.add_mul_ediv_left _ _ (by have hp:0 < b ^ n:=Int.pow_pos hb; omega),Int.ediv_eq_zero_of_lt h1 h2,Int.zero_add]
theorem Eg {b:Int} (hb:0 < b) {f:Nat → Int} {n i:Nat} (hi:i < n) (hf:∀ i,0 ≤ f i ∧ f i < b):nd b (ds b f n) i = f i:=by
 obtain ⟨m,rfl⟩:∃ m,n = i + (m + 1):=⟨n - i - 1,by omega⟩
 unfold nd
 rw [Dl hb hf,ki]
 have h0:=hf (i + 0)
 rw [Int.add_mul_emod_self_left,Int.emod_eq_of_lt h0.1 h0.2]
 rfl
theorem qo {b:Int} (hb:1 ≤ b) {i j:Nat} (h:i ≤ j):b ^ i ≤ b ^ j:=by
 obtain ⟨d,rfl⟩:∃ d,j = i + d:=⟨j - i,by omega⟩
 have h1:0 < b ^ d:=Int.pow_pos (by omega)
 have h2:0 < b ^ i:=Int.pow_pos (by omega)
 rw [Int.pow_add]
 have h3:b ^ i * 1 ≤ b ^ i * b ^ d:=Int.mul_le_mul_of_nonneg_left (by omega) (by omega)
 omega
end Go.Sk
namespace Go.Proofs.YtcbbilehdaaffaaGreatDoor
open Go Go.Sk
set_option linter.unusedSimpArgs false
set_option linter.unusedVariables false
theorem plus_y {F:Nat} (hF:100 < F) {a b:aU} (ha:cM 4294967296 a.l) (hb:cM 4294967296 b.l):p9 F a b = some (tC (av a + av b),decide (av a + av b < MM)):=by
 refine ap.eq ?_
 unfold p9
 refine ap.bind (P:=fun r=>cM 4294967296 r.1.l ∧ 0 ≤ r.2 ∧ r.2 ≤ 1 ∧ av a + av b = av r.1 + r.2 * MM) (ap.rounds 16 (fun k s=>s.2.2 = (k:Int) ∧ cM 4294967296 s.1.l ∧ 0 ≤ s.2.1 ∧ s.2.1 ≤ 1 ∧ ds 4294967296 (dg a.l) k + ds 4294967296 (dg b.l) k = ds 4294967296 (dg s.1.l) k + s.2.1 * 4294967296 ^ k) (by omega) ⟨rfl,j6,by decide,by decide,rfl⟩ ?_) ?_
 ·rintro k ⟨out,c,i⟩ hk ⟨rfl,hin,hc0,hc1,hs⟩
  dsimp only at hin hc0 hc1 hs
  dsimp only [ky]
  refine ap.ite (fun h=>?_) (fun h=>?_)
  ·have hk':k < 16:=by have:=of_decide_eq_true h; omega
   refine ap.idx (by omega) (by rw [aU.ck]; omega) (ap.idx (by omega) (by rw [aU.ck]; omega) (ap.ln (ap.idx (by omega) (by rw [aU.ck]; omega) (ap.ln (ap.some (.inl ⟨_,rfl,?_,hk'⟩))))))
   have h1:=ha k
   have h2:=hb k
   simp only [dF,Int.toNat_natCast,gO,lL,cH]
   refine ⟨by omega,jB hin (by omega) (by omega) (by constructor <;> omega),by omega,by omega,?_⟩
   rw [dm,dm,aU.sf hk']
   exact wK hs (by omega)
  ·have hk':k = 16:=by have:=of_decide_eq_false h; omega
   subst hk'
   exact ap.some (.inr ⟨_,rfl,hin,hc0,hc1,hs⟩)
 ·rintro ⟨out,c⟩ ⟨hin,hc0,hc1,hs⟩
  dsimp only at hin hc0 hc1 hs
  have hr:=fA hin
  refine ap.some ?_
  have e1:out = tC (av a + av b):=Cj hin (by rw [hs,Int.add_mul_emod_self_right,Int.emod_eq_of_lt hr.1 hr.2])
  rw [← e1]
  congr 1
  rw [decide_eq_decide]
  rw [vv] at *
  omega
theorem yi {F:Nat} (hF:100 < F) {a b:aU} (ha:cM 4294967296 a.l) (hb:cM 4294967296 b.l) (hle:av b ≤ av a):jK F a b = some (tC (av a - av b)):=by
 refine ap.eq ?_
 unfold jK
 refine ap.bind (P:=fun r=>cM 4294967296 r.l ∧ ∃ c:Int,0 ≤ c ∧ c ≤ 1 ∧ av a + c * MM = av b + av r) (ap.rounds 16 (fun k s=>s.2.2 = (k:Int) ∧ cM 4294967296 s.1.l ∧ 0 ≤ s.2.1 ∧ s.2.1 ≤ 1 ∧ ds 4294967296 (dg a.l) k + s.2.1 * 4294967296 ^ k = ds 4294967296 (dg b.l) k + ds 4294967296 (dg s.1.l) k) (by omega) ⟨rfl,j6,by decide,by decide,rfl⟩ ?_) ?_
 ·rintro k ⟨out,c,i⟩ hk ⟨rfl,hin,hc0,hc1,hs⟩
  dsimp only at hin hc0 hc1 hs
  dsimp only [ky]
  refine ap.ite (fun h=>?_) (fun h=>?_)
  ·have hk':k < 16:=by have:=of_decide_eq_true h; omega
   refine ap.idx (by omega) (by rw [aU.ck]; omega) (ap.idx (by omega) (by rw [aU.ck]; omega) (ap.ln (ap.idx (by omega) (by rw [aU.ck]; omega) (ap.ln (ap.some (.inl ⟨_,rfl,?_,hk'⟩))))))
   have h1:=ha k
   have h2:=hb k
   simp only [dF,Int.toNat_natCast,gO,lL,cH]
   refine ⟨by omega,jB hin (by omega) (by omega) (by constructor <;> omega),by omega,by omega,?_⟩
   rw [dm,dm,aU.sf hk']
   exact uK hs (by omega)
  ·have hk':k = 16:=by have:=of_decide_eq_false h; omega
   subst hk'
   exact ap.some (.inr ⟨_,rfl,hin,_,hc0,hc1,hs⟩)
 ·rintro out ⟨hin,c,hc0,hc1,hs⟩
  have hr:=fA hin
  have ra:=fA ha
  have rb:=fA hb
  refine ap.some (x6 hin ?_)
  have:c = 0:=by
   rcases (by omega:c = 0 ∨ c = 1) with h | h
   ·exact h
   ·subst h; omega
  subst this
  omega
theorem s7 {b:Int} (hb:0 < b) {f g:Nat → Int} {n k:Nat} (hk:k < n) (hf:∀ i,0 ≤ f i ∧ f i < b) (hg:∀ i,0 ≤ g i ∧ g i < b) (he:∀ i,k < i → i < n → f i = g i) (hl:f k < g k):ds b f n < ds b g n:=by
 have e:n = (k + 1) + (n - (k + 1)):=by omega
 rw [e,gg,gg b g]
 have h1:ds b (fun i=>f (k + 1 + i)) (n - (k + 1)) = ds b (fun i=>g (k + 1 + i)) (n - (k + 1)):=dy fun i hi=>he _ (by omega) (by omega)
 rw [h1]
 have h2:ds b f (k + 1) < ds b g (k + 1):=by
  rw [dm,dm]
  have h3:=pS hb (n:=k) fun i _=>hf i
  have h4:=dY hb (n:=k) fun i _=>(hg i).1
  have h5:(f k + 1) * b ^ k ≤ g k * b ^ k:=Int.mul_le_mul_of_nonneg_right hl (Int.le_of_lt (Int.pow_pos hb))
  rw [Int.add_mul,Int.one_mul] at h5
  omega
 omega
theorem CN (F:Nat) (x y:Int):jq F x y = some (if x < y then -1 else if y < x then 1 else 0):=by
 unfold jq lm
 simp
 split
 ·rfl
 ·split <;> rfl
theorem u3 {F:Nat} (hF:100 < F) {a b:aU} (ha:cM 4294967296 a.l) (hb:cM 4294967296 b.l):jJ F a b = some (if av a < av b then -1 else if av b < av a then 1 else 0):=by
 refine ap.eq ?_
 unfold jJ
 refine ap.bind (P:=fun r=>match r with | .inl _=>a = b | .inr y=>y = if av a < av b then -1 else if av b < av a then 1 else 0) (ap.rounds 16 (fun k s=>s = 15 - (k:Int) ∧ ∀ i,15 < i + k → i < 16 → dg a.l i = dg b.l i) (by omega) ⟨rfl,fun i h1 h2=>by omega⟩ ?_) ?_
 ·rintro k i hk ⟨rfl,he⟩
  refine ap.ite (fun h=>?_) (fun h=>?_)
  ·have hk':k < 16:=by have:=of_decide_eq_true h; omega
   have et:(15 - (k:Int)).toNat = 15 - k:=by omega
   refine ap.idx (by omega) (by rw [aU.ck]; omega) (ap.idx (by omega) (by rw [aU.ck]; omega) (ap.ite (fun hne=>?_) (fun heq=>?_)))
   ·refine ap.idx (by omega) (by rw [aU.ck]; omega) (ap.idx (by omega) (by rw [aU.ck]; omega) (ap.ax (CN _ _ _) (ap.some (.inr ⟨_,rfl,?_⟩))))
    have hne':=of_decide_eq_true hne
    simp only [dF,et] at hne' ⊢
    rcases Int.lt_trichotomy (dg a.l (15 - k)) (dg b.l (15 - k)) with h1 | h1 | h1
    ·have:=s7 (b:=4294967296) (n:=16) (k:=15 - k) (by decide) (by omega) ha hb (fun i h2 h3=>he i (by omega) h3) h1
     have h':av a < av b:=this
     rw [if_pos h1,if_pos h']
    ·exact absurd h1 hne'
    ·have:=s7 (b:=4294967296) (n:=16) (k:=15 - k) (by decide) (by omega) hb ha (fun i h2 h3=>(he i (by omega) h3).symm) h1
     have h':av b < av a:=this
     rw [if_neg (by omega),if_pos h1,if_neg (by omega),if_pos h']
   ·have heq':idx a.l (15 - (k:Int)) = idx b.l (15 - (k:Int)):=by simpa using heq
    simp only [dF,et] at heq'
    refine ap.some (.inl ⟨_,rfl,⟨by rw [cH]; omega,fun i h1 h2=>?_⟩,hk'⟩)
    by_cases e:i = 15 - k
    ·rw [e]; exact heq'
    ·exact he i (by omega) h2
  ·have hk':k = 16:=by have:=of_decide_eq_false h; omega
   subst hk'
   refine ap.some (.inr ⟨_,rfl,?_⟩)
   show a = b
   rw [← aU.w7]
   exact Eh rfl fun i hi=>he i (by omega) hi
 ·rintro (u | y) h
  ·have h':a = b:=h
   subst h'
   exact ap.some (by simp)
  ·exact ap.some h
theorem r9 {F:Nat} (hF:100 < F) {w:aU}:ap (iI F w) fun n=>0 ≤ n ∧ n ≤ 16 ∧ (∀ i,n.toNat ≤ i → i < 16 → dg w.l i = 0) ∧ (0 < n → dg w.l (n.toNat - 1) ≠ 0):=by
 unfold iI
 refine ap.bind (P:=fun n=>0 ≤ n ∧ n ≤ 16 ∧ (∀ i,n.toNat ≤ i → i < 16 → dg w.l i = 0) ∧ (0 < n → dg w.l (n.toNat - 1) ≠ 0)) (ap.rounds 16 (fun k s=>s = 16 - (k:Int) ∧ ∀ i,16 - k ≤ i → i < 16 → dg w.l i = 0) (by omega) ⟨rfl,fun i h1 h2=>by omega⟩ ?_) (fun x h=>ap.some h)
 rintro k n hk ⟨rfl,he⟩
 by_cases hk':k < 16
 ·have hw:IntKind.i64.wrap (16 - (k:Int) - 1) = 15 - (k:Int):=by rw [cH]; omega
  have et:(15 - (k:Int)).toNat = 15 - k:=by omega
  have hd:decide (0 < 16 - (k:Int)) = true:=decide_eq_true (by omega)
  refine ap.g1 hd (ap.idx (by rw [hw]; omega) (by rw [hw,aU.ck]; omega) ?_)
  rw [hw,hd]
  simp only [dF,et,Bool.true_and]
  refine ap.ite (fun h=>?_) (fun h=>?_)
  ·have h':=of_decide_eq_true h
   refine ap.some (.inl ⟨_,rfl,⟨by omega,fun i h1 h2=>?_⟩,hk'⟩)
   by_cases e:i = 15 - k
   ·rw [e]; exact h'
   ·exact he i (by omega) h2
  ·have h':=of_decide_eq_false h
   refine ap.some (.inr ⟨_,rfl,by omega,by omega,fun i h1 h2=>he i (by omega) h2,fun _=>?_⟩)
   have:(16 - (k:Int)).toNat - 1 = 15 - k:=by omega
   rw [this]; exact h'
 ·have hk2:k = 16:=by omega
  subst hk2
  refine ap.g0 (by decide) ?_
  refine ap.iff (by simp) (ap.some (.inr ⟨_,rfl,by decide,by decide,fun i _ h2=>he i (by omega) h2,fun h=>by simp at h⟩))
end Go.Proofs.YtcbbilehdaaffaaGreatDoor
namespace Go.Sk
set_option linter.unusedSimpArgs false
set_option linter.unusedVariables false
def bad:br:=⟨true,false,aU.zero⟩
def cP (z:Int):br:=if -MM < z ∧ z < MM then ⟨false,decide (z < 0),tC (if z < 0 then -z else z)⟩ else bad
def ud:Option Int → br
 | some z=>cP z
 | none=>bad
def jX (x:br):Prop:=cM 4294967296 x.W.l
def gB (x:br):Bool:=!x.Bad && (!decide (x.W = aU.zero) || !x.Neg)
def sv (x:br):Int:=if x.Neg = true then -av x.W else av x.W
def iv (x:br):Option Int:=if gB x = true then some (sv x) else none
theorem tM:jX bad:=j6
theorem ba (z:Int):jX (cP z):=by
 unfold cP; split
 ·exact lx _
 ·exact tM
theorem xR:iv bad = none:=rfl
theorem lS {m:Int} (h0:0 ≤ m) (h1:m < MM):tC m = aU.zero ↔ m = 0:=by
 rw [mi (lx _),jD,Int.emod_eq_of_lt h0 h1]
theorem oe {z:Int} (h:-MM < z ∧ z < MM):gB (cP z) = true:=by
 unfold cP
 rw [if_pos h]
 by_cases hz:z < 0
 ·have:¬ tC (-z) = aU.zero:=by rw [lS (by omega) (by omega)]; omega
  simp [gB,hz,this]
 ·simp [gB,hz]
theorem fU {z:Int} (h:-MM < z ∧ z < MM):iv (cP z) = some z:=by
 unfold iv
 rw [if_pos (oe h)]
 unfold cP sv
 rw [if_pos h]
 by_cases hz:z < 0
 ·simp only [hz,decide_true,if_true]
  rw [jD,Int.emod_eq_of_lt (by omega) (by omega)]; simp
 ·simp only [hz,decide_false,if_false]
  rw [jD,Int.emod_eq_of_lt (by omega) (by omega)]; simp
theorem vh {z:Int} (h:¬ (-MM < z ∧ z < MM)):cP z = bad:=if_neg h
theorem yY {x:br} (h:jX x):-MM < sv x ∧ sv x < MM:=by
 have:=fA h
 unfold sv
 split <;> omega
theorem big_sv {x:br} (h:jX x) (hg:gB x = true):x = cP (sv x):=by
 have hr:=yY h
 have ha:=fA h
 unfold cP
 rw [if_pos hr]
 simp only [gB,Bool.and_eq_true,Bool.not_eq_true',Bool.or_eq_true,decide_eq_false_iff_not] at hg
 obtain ⟨hb,hz⟩:=hg
 cases x with
 | mk B N W=>
  dsimp only [sv] at *
  subst hb
  cases N with
  | false=>
   have h1:¬ av W < 0:=by omega
   simp only [Bool.false_eq_true,if_false,h1,decide_false]
   rw [pY h]
  | true=>
   have hw:¬ W = aU.zero:=by simpa using hz
   have h2:av W ≠ 0:=fun e=>hw ((mi h).2 e)
   have h1:-av W < 0:=by omega
   simp only [if_true,h1,decide_true]
   rw [Int.neg_neg,pY h]
theorem bZ {x:br} {z:Int} (h:jX x) (hz:iv x = some z):gB x = true ∧ x = cP z ∧ -MM < z ∧ z < MM:=by
 unfold iv at hz
 split at hz
 ·next hg=>
  cases hz
  exact ⟨hg,big_sv h hg,yY h⟩
 ·simp at hz
theorem b8 {x:br} (hz:iv x = none):gB x = false:=by
 unfold iv at hz
 split at hz
 ·simp at hz
 ·next hg=>simpa using hg
theorem Cp {z:Int}:(cP z).Bad = !decide (-MM < z ∧ z < MM):=by
 unfold cP
 split
 ·next h=>simp [h]
 ·next h=>simp [h,bad]
theorem Dx (o:Option Int):jX (ud o):=by cases o; exact tM; exact ba _
theorem Co {a b:Int} (ha:-MM < a ∧ a < MM) (hb:-MM < b ∧ b < MM):cP a = cP b ↔ a = b:=⟨fun h=>by
 have:=congrArg iv h
 rw [fU ha,fU hb] at this
 exact Option.some.inj this,fun h=>by rw [h]⟩
end Go.Sk
namespace Go.Proofs.YtcbbilehdaaffaaGreatDoor
open Go Go.Sk
set_option linter.unusedSimpArgs false
set_option linter.unusedVariables false
theorem Cs (F:Nat) (x:br):lY F x = some (if x.Bad = true then decide (x.W = aU.zero) && !x.Neg else !decide (x.W = aU.zero) || !x.Neg):=by
 unfold lY
 split <;> rfl
theorem DS {F:Nat} (l:List br) (hF:l.length < F) (hl:l.length ≤ 1000):ek F l = some (l.all gB):=by
 refine ap.eq ?_
 unfold ek
 refine ap.bind (P:=fun r=>match r with | .inl _=>l.all gB = true | .inr y=>y = false ∧ l.all gB = false) (ap.rounds l.length (fun k s=>s = (k:Int) ∧ (l.take k).all gB = true) hF ⟨rfl,by simp⟩ ?_) ?_
 ·rintro k i hk ⟨rfl,he⟩
  refine ap.ite (fun h=>?_) (fun h=>?_)
  ·have hk':k < l.length:=by have:=of_decide_eq_true h; omega
   refine ap.idx (by omega) (by omega) ?_
   have hx:idx l (k:Int) = l[k]:=by
    have:=idx_eq (xs:=l) (i:=(k:Int)) (by omega) (by omega)
    rw [Int.toNat_natCast,List.getElem?_eq_getElem hk'] at this
    exact (Option.some.inj this).symm
   rw [hx]
   have hstep:(l.take (k + 1)).all gB = ((l.take k).all gB && gB l[k]):=by
    rw [List.take_add_one,List.getElem?_eq_getElem hk',List.all_append]; simp
   have hall:gB l[k] = false → l.all gB = false:=fun hg=>by
    rw [List.all_eq_false]; exact ⟨l[k],List.getElem_mem hk',by simp [hg]⟩
   cases hb:l[k].Bad with
   | true=>
    refine ap.g0 (by rfl) (ap.eX (by simp) (ap.some (.inr ⟨_,rfl,rfl,hall (by simp [gB,hb])⟩)))
   | false=>
    refine ap.g1 (by rfl) (ap.ax (Cs _ _) ?_)
    have hg:gB l[k] = (!decide (l[k].W = aU.zero) || !l[k].Neg):=by simp [gB,hb]
    simp only [hb,Bool.false_eq_true,if_false,← hg]
    refine ap.ite (fun h=>?_) (fun h=>?_)
    ·exact ap.some (.inr ⟨_,rfl,rfl,hall (by simpa using h)⟩)
    ·refine ap.some (.inl ⟨_,rfl,⟨by rw [cH]; omega,?_⟩,hk'⟩)
     rw [hstep,he]; simpa using h
  ·have hk':k = l.length:=by have:=of_decide_eq_false h; omega
   subst hk'
   rw [List.take_length] at he
   exact ap.some (.inr ⟨_,rfl,he⟩)
 ·rintro (u | y) h
  ·exact ap.some h.symm
  ·exact ap.some (by rw [h.1,h.2])
theorem uk {F:Nat} (hF:100 < F) (x:br):ek F [x] = some (gB x):=by rw [DS _ (by simp; omega) (by simp)]; simp
theorem Bn {F:Nat} (hF:100 < F) (x y:br):ek F [x,y] = some (gB x && gB y):=by rw [DS _ (by simp; omega) (by simp)]; simp
theorem mb (F:Nat):gx F = some bad:=rfl
theorem hO (F:Nat) (neg:Bool) {w:aU} (h:cM 4294967296 w.l):c6 F neg w = some (cP (if neg = true then -av w else av w)):=by
 have hr:=fA h
 unfold c6 cP
 have hz:=mi h
 cases neg with
 | false=>
  have h1:¬ av w < 0:=by omega
  simp only [Bool.false_eq_true,if_false,h1,decide_false,Bool.false_and]
  rw [if_pos (by omega),pY h]
 | true=>
  simp only [if_true,Bool.true_and]
  rw [if_pos (by omega)]
  by_cases e:av w = 0
  ·have hw:=hz.2 e
   rw [e]
   simp [hw,zero_eq]
  ·have hw:¬ w = aU.zero:=fun h=>e (hz.1 h)
   have h1:-av w < 0:=by omega
   simp only [h1,decide_true,if_true,Int.neg_neg,pY h]
   simp [hw]
theorem cn {z:Int} (h:-MM < z ∧ z < MM):av (cP z).W = (if z < 0 then -z else z) ∧ (cP z).Neg = decide (z < 0):=by
 unfold cP
 rw [if_pos h]
 refine ⟨?_,rfl⟩
 dsimp only
 rw [jD,Int.emod_eq_of_lt] <;> split <;> omega
def two (f:Int → Int → Option Int) (x y:br):br:=match iv x,iv y with
 | some a,some b=>ud (f a b)
 | _,_=>bad
def one (f:Int → Option Int) (x:br):br:=match iv x with
 | some a=>ud (f a)
 | none=>bad
theorem oD {f:Int → Int → Option Int} {a b:Int} (ha:-MM < a ∧ a < MM) (hb:-MM < b ∧ b < MM):two f (cP a) (cP b) = ud (f a b):=by simp only [two,fU ha,fU hb]
theorem oH {f:Int → Option Int} {a:Int} (ha:-MM < a ∧ a < MM):one f (cP a) = ud (f a):=by simp only [one,fU ha]
theorem Add_y {F:Nat} (hF:100 < F) {x y:br} (hx:jX x) (hy:jX y):oB F x y = some (two (fun a b=>some (a + b)) x y):=by
 refine ap.eq ?_
 unfold oB two
 refine ap.ax (Bn hF x y) ?_
 cases ha:iv x with
 | none=>simp only [b8 ha,Bool.false_and,Bool.not_false,if_true]; exact ap.ax (mb F) (ap.some rfl)
 | some a=>
  cases hb:iv y with
  | none=>simp only [b8 hb,Bool.and_false,Bool.not_false,if_true]; exact ap.ax (mb F) (ap.some rfl)
  | some b=>
   obtain ⟨ga,rfl,ra⟩:=bZ hx ha
   obtain ⟨gb,rfl,rb⟩:=bZ hy hb
   obtain ⟨wa,na⟩:=cn ra
   obtain ⟨wb,nb⟩:=cn rb
   simp only [ga,gb,Bool.and_self,Bool.not_true,Bool.false_eq_true,if_false,ud]
   refine ap.ite (fun hn=>?_) (fun hn=>?_)
   ·have hn':(a < 0) = (b < 0):=by
     rw [na,nb] at hn
     exact propext (decide_eq_decide.1 (eq_of_beq hn))
    refine ap.ax (plus_y hF (ba a) (ba b)) ?_
    dsimp only [b9]
    rw [wa,wb]
    have hs:(if a < 0 then -a else a) + (if b < 0 then -b else b) = if a + b < 0 then -(a + b) else a + b:=by
     by_cases h1:a < 0
     ·have h2:b < 0:=by rw [← hn']; exact h1
      rw [if_pos h1,if_pos h2,if_pos (by omega)]; omega
     ·have h2:¬ b < 0:=by rw [← hn']; exact h1
      rw [if_neg h1,if_neg h2,if_neg (by omega)]
    rw [hs]
    refine ap.ite (fun h=>?_) (fun h=>?_)
    ·refine ap.ax (mb F) (ap.some ?_)
     have h':¬ (if a + b < 0 then -(a + b) else a + b) < MM:=by simpa using h
     exact (vh (by split at h' <;> omega)).symm
    ·have h':(if a + b < 0 then -(a + b) else a + b) < MM:=by simpa using h
     refine ap.ax (hO F _ (lx _)) (ap.some ?_)
     rw [jD,Int.emod_eq_of_lt (by split <;> omega) h',na]
     congr 1
     by_cases h1:a < 0
     ·have h2:b < 0:=by rw [← hn']; exact h1
      simp only [h1,decide_true,if_true]; rw [if_pos (by omega)]; omega
     ·have h2:¬ b < 0:=by rw [← hn']; exact h1
      simp only [h1,decide_false,Bool.false_eq_true,if_false]; rw [if_neg (by omega)]
   ·have hn':(a < 0) ≠ (b < 0):=by
     rw [na,nb] at hn
     intro e
     have:decide (a < 0) = decide (b < 0):=decide_eq_decide.2 (Iff.of_eq e)
     rw [this] at hn; simp at hn
    have hcase:(a < 0 ∧ ¬ b < 0) ∨ (¬ a < 0 ∧ b < 0):=by
     by_cases h1:a < 0
     ·by_cases h2:b < 0
      ·exact absurd (propext ⟨fun _=>h2,fun _=>h1⟩) hn'
      ·exact .inl ⟨h1,h2⟩
     ·by_cases h2:b < 0
      ·exact .inr ⟨h1,h2⟩
      ·exact absurd (propext ⟨fun h=>absurd h h1,fun h=>absurd h h2⟩) hn'
    refine ap.ax (u3 hF (ba a) (ba b)) ?_
    rw [wa,wb]
    refine ap.ite (fun h=>?_) (fun h=>?_)
    ·have h':=of_decide_eq_true h
     have hle:(if b < 0 then -b else b) ≤ (if a < 0 then -a else a):=by
      by_cases h3:(if a < 0 then -a else a) < (if b < 0 then -b else b)
      ·rw [if_pos h3] at h'; omega
      ·omega
     refine ap.ax (yi hF (ba a) (ba b) (by rw [wa,wb]; exact hle)) (ap.ax (hO F _ (lx _)) (ap.some ?_))
     rw [wa,wb,jD,Int.emod_eq_of_lt (by omega) (by split <;> split <;> omega),na]
     congr 1
     rcases hcase with ⟨h1,h2⟩ | ⟨h1,h2⟩
     ·simp only [h1,h2,if_true,if_false,decide_true]; omega
     ·simp only [h1,h2,if_true,if_false,decide_false,Bool.false_eq_true]; omega
    ·have h':=of_decide_eq_false h
     have hle:(if a < 0 then -a else a) ≤ (if b < 0 then -b else b):=by
      by_cases h3:(if a < 0 then -a else a) < (if b < 0 then -b else b)
      ·omega
      ·rw [if_neg h3] at h'; split at h' <;> omega
     refine ap.ax (yi hF (ba b) (ba a) (by rw [wa,wb]; exact hle)) (ap.ax (hO F _ (lx _)) (ap.some ?_))
     rw [wa,wb,jD,Int.emod_eq_of_lt (by omega) (by split <;> split <;> omega),nb]
     congr 1
     rcases hcase with ⟨h1,h2⟩ | ⟨h1,h2⟩
     ·simp only [h1,h2,if_true,if_false,decide_false,Bool.false_eq_true]; omega
     ·simp only [h1,h2,if_true,if_false,decide_true]; omega
end Go.Proofs.YtcbbilehdaaffaaGreatDoor
namespace Go.Sk
set_option linter.unusedSimpArgs false
set_option linter.unusedVariables false
theorem uZ {i j:Nat} (h:i ≤ j):(2:Int) ^ i ≤ 2 ^ j:=by
 have:=Nat.pow_le_pow_right (n:=2) (by decide) h
 exact_mod_cast this
def fT (m:Int):Int:=if m ≤ 0 then 0 else (Nat.log2 m.toNat:Int) + 1
theorem rC {m:Int} (h:0 < m):1 ≤ fT m ∧ 2 ^ ((fT m).toNat - 1) ≤ m ∧ m < 2 ^ (fT m).toNat:=by
 obtain ⟨k,rfl⟩:∃ k:Nat,m = k:=⟨m.toNat,by omega⟩
 have hk:k ≠ 0:=by omega
 have e:fT (k:Int) = (Nat.log2 k:Int) + 1:=by unfold fT; rw [if_neg (by omega),Int.toNat_natCast]
 rw [e]
 have e1:((Nat.log2 k:Int) + 1).toNat = Nat.log2 k + 1:=by omega
 rw [e1,Nat.add_sub_cancel]
 refine ⟨by omega,?_,?_⟩
 ·have:=Nat.log2_self_le hk
  exact_mod_cast this
 ·have:=@Nat.lt_log2_self k
  exact_mod_cast this
theorem Aa {m n:Int} (hn:1 ≤ n) (h1:2 ^ (n.toNat - 1) ≤ m) (h2:m < 2 ^ n.toNat):fT m = n:=by
 have hm:0 < m:=Int.lt_of_lt_of_le (Int.pow_pos (by decide)) h1
 obtain ⟨k,rfl⟩:∃ k:Nat,m = k:=⟨m.toNat,by omega⟩
 have hk:k ≠ 0:=by omega
 unfold fT
 rw [if_neg (by omega),Int.toNat_natCast]
 have a1:2 ^ (n.toNat - 1) ≤ k:=by exact_mod_cast h1
 have a2:k < 2 ^ n.toNat:=by exact_mod_cast h2
 have b1:=(Nat.le_log2 hk).2 a1
 have b2:=(Nat.log2_lt hk).2 a2
 omega
theorem CQ {m:Int} (h:m ≤ 0):fT m = 0:=if_pos h
theorem qN (m:Int):0 ≤ fT m:=by unfold fT; split <;> omega
theorem ri {m:Int} {k:Nat} (h:m < 2 ^ k):fT m ≤ k:=by
 by_cases h0:m ≤ 0
 ·rw [CQ h0]; omega
 ·have h1:=rC (by omega:0 < m)
  rcases (by omega:(k:Int) < fT m ∨ fT m ≤ k) with h2 | h2
  ·have h3:(2:Int) ^ k ≤ 2 ^ ((fT m).toNat - 1):=uZ (by omega)
   omega
  ·exact h2
theorem lt_blen {m:Int}:m < 2 ^ (fT m).toNat:=by
 by_cases h0:m ≤ 0
 ·have:(0:Int) < 2 ^ (fT m).toNat:=Int.pow_pos (by decide)
  omega
 ·exact (rC (by omega)).2.2
theorem yy {x v:Int} {k:Nat} (hv:x / 2 ^ k = v) (h0:0 < v):fT x = k + fT v:=by
 have hp:(0:Int) < 2 ^ k:=Int.pow_pos (by decide)
 obtain ⟨h1,h2,h3⟩:=rC h0
 have hx1:v * 2 ^ k ≤ x:=by rw [← hv]; exact Int.ediv_mul_le _ (by omega)
 have hx2:x < (v + 1) * 2 ^ k:=by rw [← hv]; exact Int.lt_ediv_add_one_mul_self _ hp
 refine Aa (by omega) ?_ ?_
 ·have e:(k + fT v).toNat - 1 = ((fT v).toNat - 1) + k:=by omega
  rw [e,Int.pow_add]
  exact Int.le_trans (Int.mul_le_mul_of_nonneg_right h2 (by omega)) hx1
 ·have e:(k + fT v).toNat = (fT v).toNat + k:=by omega
  rw [e,Int.pow_add]
  exact Int.lt_of_lt_of_le hx2 (Int.mul_le_mul_of_nonneg_right (by omega) (by omega))
theorem ior_nat (x y:Nat) (hx:x < 2 ^ 64) (hy:y < 2 ^ 64):mU .u64 (x:Int) (y:Int) = ((x ||| y:Nat):Int):=by
 have h:x ||| y < 2 ^ 64:=Nat.or_lt_two_pow hx hy
 unfold mU
 have e1:(BitVec.ofInt 64 (x:Int)).toNat = x:=by simp [BitVec.toNat_ofInt]; omega
 have e2:(BitVec.ofInt 64 (y:Int)).toNat = y:=by simp [BitVec.toNat_ofInt]; omega
 show IntKind.u64.wrap ((BitVec.ofInt 64 (x:Int) ||| BitVec.ofInt 64 (y:Int)).toNat:Int) = _
 rw [BitVec.toNat_or,e1,e2,gO]
 omega
theorem oJ {a b:Int} (k:Nat) (ha:0 ≤ a) (ha':a < 18446744073709551616) (hk:a % 2 ^ k = 0) (hb:0 ≤ b) (hb':b < 2 ^ k) (hb2:b < 18446744073709551616):mU .u64 a b = a + b:=by
 obtain ⟨x,rfl⟩:∃ x:Nat,a = x:=⟨a.toNat,by omega⟩
 obtain ⟨y,rfl⟩:∃ y:Nat,b = y:=⟨b.toNat,by omega⟩
 rw [ior_nat x y (by omega) (by omega)]
 have hy:y < 2 ^ k:=by exact_mod_cast hb'
 have hx:x % 2 ^ k = 0:=by exact_mod_cast hk
 have e:x = 2 ^ k * (x / 2 ^ k):=by have:=Nat.div_add_mod x (2 ^ k); omega
 rw [e,← Nat.two_pow_add_eq_or_of_lt hy]
 exact Int.natCast_add _ _
theorem EV (a b:Int):mU .u64 a b = mU .u64 b a:=by
 unfold mU
 rw [BitVec.or_comm]
theorem AH {a b:Int}:av ⟨a,b,0,0,0,0,0,0,0,0,0,0,0,0,0,0⟩ = a + b * 4294967296:=by
 simp [av,ds,dg,aU.l]
theorem Aq {a b:Int} (ha:0 ≤ a ∧ a < 4294967296) (hb:0 ≤ b ∧ b < 4294967296):cM 4294967296 (aU.l ⟨a,b,0,0,0,0,0,0,0,0,0,0,0,0,0,0⟩):=fun i=>by
 match i with
 | 0=>exact ha
 | 1=>exact hb
 | n + 2=>
  have:dg (aU.l ⟨a,b,0,0,0,0,0,0,0,0,0,0,0,0,0,0⟩) (n + 2) = dg (List.replicate 14 0) n:=rfl
  rw [this,dj]; decide
def rZ (z:Int):Int:=if z = 0 then 0 else if z < 0 then -1 else 1
def lM (a b:Int):Int:=if a < b then -1 else if b < a then 1 else 0
def aK (z:Int):Int:=if z < 0 then -z else z
theorem vT:18446744073709551616 < MM:=by rw [vv]; decide
end Go.Sk
namespace Go.Proofs.YtcbbilehdaaffaaGreatDoor
open Go Go.Sk
set_option linter.unusedSimpArgs false
set_option linter.unusedVariables false
theorem Dn {F:Nat} (hF:100 < F) {x:br} (hx:jX x):oy F x = some (one (fun a=>some (-a)) x):=by
 refine ap.eq ?_
 unfold oy one
 refine ap.ax (uk hF x) ?_
 cases ha:iv x with
 | none=>simp only [b8 ha,Bool.not_false,if_true]; exact ap.ax (mb F) (ap.some rfl)
 | some a=>
  obtain ⟨ga,rfl,ra⟩:=bZ hx ha
  obtain ⟨wa,na⟩:=cn ra
  simp only [ga,Bool.not_true,Bool.false_eq_true,if_false,ud]
  refine ap.ax (hO F _ (ba a)) (ap.some ?_)
  rw [wa,na]
  congr 1
  by_cases h:a < 0
  ·simp [h]
  ·simp [h]
theorem Abs_y {F:Nat} (hF:100 < F) {x:br} (hx:jX x):qX F x = some (one (fun a=>some (aK a)) x):=by
 refine ap.eq ?_
 unfold qX one
 refine ap.ax (uk hF x) ?_
 cases ha:iv x with
 | none=>simp only [b8 ha,Bool.not_false,if_true]; exact ap.ax (mb F) (ap.some rfl)
 | some a=>
  obtain ⟨ga,rfl,ra⟩:=bZ hx ha
  obtain ⟨wa,na⟩:=cn ra
  simp only [ga,Bool.not_true,Bool.false_eq_true,if_false,ud]
  refine ap.ax (hO F _ (ba a)) (ap.some ?_)
  simp only [wa,Bool.false_eq_true,if_false]
  rfl
theorem one_in (f:Int → Option Int) (x:br):jX (one f x):=by unfold one; split; exact Dx _; exact tM
theorem Dw (f:Int → Int → Option Int) (x y:br):jX (two f x y):=by unfold two; split; exact Dx _; exact tM
theorem Sub_y {F:Nat} (hF:100 < F) {x y:br} (hx:jX x) (hy:jX y):qU F x y = some (two (fun a b=>some (a - b)) x y):=by
 refine ap.eq ?_
 unfold qU
 refine ap.ax (Dn hF hy) (ap.ax (Add_y hF hx (one_in _ _)) (ap.some ?_))
 unfold two
 cases hb:iv y with
 | none=>
  have:one (fun a=>some (-a)) y = bad:=by simp only [one,hb]
  rw [this,xR]
  cases iv x <;> rfl
 | some b=>
  obtain ⟨gb,rfl,rb⟩:=bZ hy hb
  rw [oH rb]
  simp only [ud]
  rw [fU (by omega)]
  cases iv x with
  | none=>rfl
  | some a=>simp only [ud,Int.sub_eq_add_neg]
theorem Eo {F:Nat} (hF:100 < F) {x:br} (hx:jX x):gD F x = some (match iv x with | some a=>rZ a | none=>0):=by
 refine ap.eq ?_
 unfold gD
 refine ap.ax (uk hF x) ?_
 cases ha:iv x with
 | none=>simp only [b8 ha,Bool.not_false,Bool.true_or,if_true]; exact ap.some rfl
 | some a=>
  obtain ⟨ga,rfl,ra⟩:=bZ hx ha
  obtain ⟨wa,na⟩:=cn ra
  simp only [ga,Bool.not_true,Bool.false_or,mi (ba a),wa,na]
  refine ap.ite (fun h=>?_) (fun h=>?_)
  ·have h':=of_decide_eq_true h
   have:a = 0:=by split at h' <;> omega
   subst this
   exact ap.some rfl
  ·have h':=of_decide_eq_false h
   have h0:a ≠ 0:=fun e=>h' (by rw [e]; rfl)
   unfold rZ
   refine ap.ite (fun h=>?_) (fun h=>?_)
   ·have:=of_decide_eq_true h; exact ap.some (by rw [if_neg h0,if_pos this])
   ·have:=of_decide_eq_false h; exact ap.some (by rw [if_neg h0,if_neg this])
theorem Cmp_y {F:Nat} (hF:100 < F) {x y:br} (hx:jX x) (hy:jX y):qW F x y = some (match iv x,iv y with | some a,some b=>lM a b | none,some _=>-1 | some _,none=>1 | none,none=>0):=by
 refine ap.eq ?_
 unfold qW
 refine ap.ax (uk hF x) (ap.ax (uk hF y) ?_)
 cases ha:iv x with
 | none=>
  cases hb:iv y with
  | none=>simp only [b8 ha,b8 hb,Bool.not_false,Bool.and_self,if_true]; exact ap.some rfl
  | some b=>
   obtain ⟨gb,rfl,rb⟩:=bZ hy hb
   simp only [b8 ha,gb,Bool.not_false,Bool.not_true,Bool.and_false,Bool.false_eq_true,if_false,if_true]; exact ap.some rfl
 | some a=>
  obtain ⟨ga,rfl,ra⟩:=bZ hx ha
  cases hb:iv y with
  | none=>simp only [ga,b8 hb,Bool.not_false,Bool.not_true,Bool.false_and,Bool.false_eq_true,if_false,if_true]; exact ap.some rfl
  | some b=>
   obtain ⟨gb,rfl,rb⟩:=bZ hy hb
   obtain ⟨wa,na⟩:=cn ra
   obtain ⟨wb,nb⟩:=cn rb
   simp only [ga,gb,Bool.not_true,Bool.and_self,Bool.false_eq_true,if_false,na,nb]
   unfold lM
   refine ap.ite (fun h=>?_) (fun h=>?_)
   ·by_cases h1:a < 0
    ·simp only [h1,decide_true,if_true]
     have h2:¬ b < 0:=fun h2=>by simp [h1,h2] at h
     exact ap.some (by rw [if_pos (by omega)])
    ·simp only [h1,decide_false,Bool.false_eq_true,if_false]
     have h2:b < 0:=by
      rcases (by omega:b < 0 ∨ 0 ≤ b) with h2 | h2
      ·exact h2
      ·have h3:¬ b < 0:=by omega
       simp [h1,h3] at h
     exact ap.some (by rw [if_neg (by omega),if_pos (by omega)])
   ·by_cases h1:a < 0
    ·simp only [h1,decide_true,if_true]
     have h2:b < 0:=by
      rcases (by omega:b < 0 ∨ 0 ≤ b) with h2 | h2
      ·exact h2
      ·have h3:¬ b < 0:=by omega
       simp [h1,h3] at h
     refine ap.ax (u3 hF (ba b) (ba a)) (ap.some ?_)
     rw [wa,wb,if_pos h1,if_pos h2]
     by_cases h3:a < b
     ·rw [if_pos h3,if_pos (by omega)]
     ·rw [if_neg h3,if_neg (by omega)]
      by_cases h4:b < a
      ·rw [if_pos h4,if_pos (by omega)]
      ·rw [if_neg h4,if_neg (by omega)]
    ·simp only [h1,decide_false,Bool.false_eq_true,if_false]
     have h2:¬ b < 0:=fun h2=>by simp [h1,h2] at h
     refine ap.ax (u3 hF (ba a) (ba b)) (ap.some ?_)
     rw [wa,wb,if_neg h1,if_neg h2]
end Go.Proofs.YtcbbilehdaaffaaGreatDoor
namespace Go.Sk
set_option linter.unusedSimpArgs false
set_option linter.unusedVariables false
def len8:bA:=[0,1,2,2,3,3,3,3,4,4,4,4,4,4,4,4,5,5,5,5,5,5,5,5,5,5,5,5,5,5,5,5,6,6,6,6,6,6,6,6,6,6,6,6,6,6,6,6,6,6,6,6,6,6,6,6,6,6,6,6,6,6,6,6,7,7,7,7,7,7,7,7,7,7,7,7,7,7,7,7,7,7,7,7,7,7,7,7,7,7,7,7,7,7,7,7,7,7,7,7,7,7,7,7,7,7,7,7,7,7,7,7,7,7,7,7,7,7,7,7,7,7,7,7,7,7,7,7,8,8,8,8,8,8,8,8,8,8,8,8,8,8,8,8,8,8,8,8,8,8,8,8,8,8,8,8,8,8,8,8,8,8,8,8,8,8,8,8,8,8,8,8,8,8,8,8,8,8,8,8,8,8,8,8,8,8,8,8,8,8,8,8,8,8,8,8,8,8,8,8,8,8,8,8,8,8,8,8,8,8,8,8,8,8,8,8,8,8,8,8,8,8,8,8,8,8,8,8,8,8,8,8,8,8,8,8,8,8,8,8,8,8,8,8,8,8,8,8,8,8,8,8,8,8,8,8]
theorem EQ:∀ v:_root_.Fin 256,((len8.getD v.val 0).toNat:Int) = fT v.val:=by decide +kernel
theorem len8_at {v:Int} (h0:0 ≤ v) (h1:v < 256):((idx len8 v).toNat:Int) = fT v:=by
 obtain ⟨k,rfl⟩:∃ k:Nat,v = k:=⟨v.toNat,by omega⟩
 exact EQ ⟨k,by omega⟩
theorem EP:len8.length = 256:=by decide +kernel
theorem p8:(2:Int) ^ 8 = 256:=by decide
theorem Be:(2:Int) ^ 32 = 4294967296:=by decide
theorem p64:(2:Int) ^ 64 = 18446744073709551616:=by decide
theorem pow32 (m:Nat):(4294967296:Int) ^ m = 2 ^ (32 * m):=by rw [Int.pow_mul]; rfl
theorem iG.fH {w:iG} {i x:Int} (h0:0 ≤ i) (h1:i < 32) (j:Nat):dg (w.set i x).l j = if j = i.toNat then x else dg w.l j:=by
 rw [iG.jh,gP (by rw [iG.ck]; omega)]
theorem iG.sf {b:Int} {w:iG} {k:Nat} {x:Int} (h:k < 32):ds b (dg (w.set (k:Int) x).l) (k + 1) = ds b (dg w.l) k + x * b ^ k:=x7 fun i=>by rw [iG.fH (by omega) (by omega),Int.toNat_natCast]
theorem iG.jB {w:iG} {i x:Int} (h:cM 4294967296 w.l) (h0:0 ≤ i) (h1:i < 32) (hx:0 ≤ x ∧ x < 4294967296):cM 4294967296 (w.set i x).l:=fun j=>by
 rw [iG.fH h0 h1]
 split
 ·exact hx
 ·exact h j
theorem iG.j6:cM 4294967296 iG.zero.l:=fun i=>by
 have:iG.zero.l = List.replicate 32 0:=rfl
 rw [this,dj]; decide
theorem iG.Bs (i:Nat):dg iG.zero.l i = 0:=by
 have:iG.zero.l = List.replicate 32 0:=rfl
 rw [this,dj]
theorem l7 {a b m:Int} (ha:0 ≤ a ∧ a < m) (hb:0 ≤ b ∧ b < m):0 ≤ a * b ∧ a * b ≤ (m - 1) * (m - 1):=⟨Int.mul_nonneg ha.1 hb.1,Int.mul_le_mul (by omega) (by omega) hb.1 (by omega)⟩
theorem EL {b O0 O c x c' ai bk ok V:Int} {i k:Nat} (h:O + c * b ^ (i + k) = O0 + ai * b ^ i * V) (e:c + ai * bk + ok = x + c' * b):(O + x * b ^ (i + k)) + c' * b ^ (i + k + 1) = (O0 + ok * b ^ (i + k)) + ai * b ^ i * (V + bk * b ^ k):=by
 rw [Int.pow_succ]
 have e1:b ^ (i + k) = b ^ i * b ^ k:=Int.pow_add _ _ _
 rw [e1] at *
 grind
end Go.Sk
namespace Go.Proofs.YtcbbilehdaaffaaGreatDoor
open Go Go.Sk
set_option linter.unusedSimpArgs false
set_option linter.unusedVariables false
theorem Cu (F:Nat) {x:Int} (h0:0 ≤ x) (h1:x < 4294967296):jc F x = some (fT x):=by
 refine ap.eq ?_
 unfold jc
 refine ap.bind (P:=fun r=>0 ≤ r.1 ∧ r.1 < 65536 ∧ 0 ≤ r.2 ∧ r.2 ≤ 16 ∧ fT x = r.2 + fT r.1) ?_ ?_
 ·refine ap.ite (fun h=>?_) (fun h=>?_)
  ·have:=of_decide_eq_true h
   refine ap.some ⟨by omega,by omega,by omega,by omega,?_⟩
   exact yy (k:=16) rfl (by omega)
  ·have:=of_decide_eq_false h
   exact ap.some ⟨by omega,by omega,by omega,by omega,by dsimp only; omega⟩
 ·rintro ⟨y,n⟩ ⟨y0,y1,n0,n1,e⟩
  dsimp only at y0 y1 n0 n1 e
  refine ap.bind (P:=fun r=>0 ≤ r.1 ∧ r.1 < 256 ∧ 0 ≤ r.2 ∧ r.2 ≤ 24 ∧ fT x = r.2 + fT r.1) ?_ ?_
  ·refine ap.ite (fun h=>?_) (fun h=>?_)
   ·have:=of_decide_eq_true h
    have e2:=yy (x:=y) (v:=y / 256) (k:=8) rfl (by omega)
    refine ap.some ⟨by omega,by omega,?_,?_,?_⟩ <;> dsimp only <;> rw [cH] <;> omega
   ·have:=of_decide_eq_false h
    exact ap.some ⟨by omega,by omega,by omega,by omega,by dsimp only; omega⟩
  ·rintro ⟨z,m⟩ ⟨z0,z1,m0,m1,e2⟩
   dsimp only at z0 z1 m0 m1 e2
   have hw:IntKind.u8.wrap z = z:=by rw [wu8]; omega
   dsimp only [b9]
   rw [hw]
   refine ap.idx (l:=len8) z0 (by rw [EP]; omega) (ap.ln (ap.some ?_))
   rw [len8_at z0 z1]
   have hb:=ri (m:=z) (k:=8) (by rw [p8]; omega)
   have hb0:=qN z
   rw [fL (z:=fT z) (by omega) (by omega),cH] 
   omega
theorem E5 {m:Nat} {v:Int} (hm:m ≤ 15) (h0:0 ≤ v) (h1:v ≤ ((32:Nat):Int)):IntKind.i64.wrap (IntKind.i64.wrap (32 * (m:Int)) + v) = ((32 * m:Nat):Int) + v:=by
 simp only [cH]
 omega
theorem Bits_y {F:Nat} (hF:100 < F) {x:br} (hx:jX x):qa F x = some (match iv x with | some a=>fT (aK a) | none=>0):=by
 refine ap.eq ?_
 unfold qa
 refine ap.bind (r9 hF) fun n hn=>?_
 obtain ⟨n0,n1,nz,nt⟩:=hn
 refine ap.ax (uk hF x) ?_
 cases ha:iv x with
 | none=>simp only [b8 ha,Bool.not_false,Bool.true_or,if_true]; exact ap.some rfl
 | some a=>
  obtain ⟨ga,rfl,ra⟩:=bZ hx ha
  obtain ⟨wa,na⟩:=cn ra
  have hval:aK a = ds 4294967296 (dg (cP a).W.l) n.toNat:=by
   have h1:aK a = av (cP a).W:=by rw [wa]; rfl
   rw [h1]
   exact mh (by omega) nz
  simp only [ga,Bool.not_true,Bool.false_or]
  refine ap.ite (fun h=>?_) (fun h=>?_)
  ·have h':=of_decide_eq_true h
   subst h'
   refine ap.some ?_
   rw [hval]; rfl
  ·have h':=of_decide_eq_false h
   have hm:n.toNat = (n.toNat - 1) + 1:=by omega
   have hw:IntKind.i64.wrap (n - 1) = ((n.toNat - 1:Nat):Int):=by rw [cH]; omega
   rw [hw]
   have hd:=ba a (n.toNat - 1)
   have hd0:=nt (by omega)
   refine ap.ln (ap.idx (by omega) (by rw [aU.ck]; omega) ?_)
   rw [dF,Int.toNat_natCast]
   refine ap.ax (Cu F hd.1 hd.2) (ap.some ?_)
   have hb:=ri (m:=dg (cP a).W.l (n.toNat - 1)) (k:=32) (by rw [Be]; omega)
   have hb0:=qN (dg (cP a).W.l (n.toNat - 1))
   have key:fT (aK a) = ((32 * (n.toNat - 1):Nat):Int) + fT (dg (cP a).W.l (n.toNat - 1)):=by
    refine yy ?_ (by omega)
    have hp:(0:Int) < 2 ^ (32 * (n.toNat - 1)):=Int.pow_pos (by decide)
    have hlo:=pS (b:=4294967296) (by decide) (f:=dg (cP a).W.l) (n:=n.toNat - 1) fun i _=>ba a i
    have hlo0:=dY (b:=4294967296) (by decide) (f:=dg (cP a).W.l) (n:=n.toNat - 1) fun i _=>(ba a i).1
    rw [hval,hm,dm,pow32,Nat.add_sub_cancel]
    rw [pow32] at hlo
    rw [Int.add_mul_ediv_right _ _ (by omega),Int.ediv_eq_zero_of_lt hlo0 hlo,Int.zero_add]
   show IntKind.i64.wrap (IntKind.i64.wrap (32 * ((n.toNat - 1:Nat):Int)) + fT (dg (cP a).W.l (n.toNat - 1))) = fT (aK a)
   rw [key]
   exact E5 (by omega) hb0 hb
theorem Of_y (F:Nat) {n:Int} (h0:-9223372036854775808 ≤ n) (h1:n ≤ 9223372036854775807):jA F n = some (cP n):=by
 refine ap.eq ?_
 unfold jA
 refine ap.bind (P:=fun u=>u = aK n) ?_ ?_
 ·unfold aK
  refine ap.ite (fun h=>?_) (fun h=>?_)
  ·have:=of_decide_eq_true h
   refine ap.ln (ap.some ?_)
   rw [if_pos this]
   simp only [gO]; omega
  ·have:=of_decide_eq_false h
   refine ap.some ?_
   rw [if_neg this]
   simp only [gO]; omega
 ·rintro u rfl
  have hu:0 ≤ aK n ∧ aK n ≤ 9223372036854775808:=by unfold aK; split <;> omega
  refine ap.ln ?_
  refine ap.ax (hO F _ (Aq (by simp only [lL]; omega) (by simp only [lL]; omega))) (ap.some ?_)
  rw [AH]
  simp only [lL]
  congr 1
  unfold aK at *
  by_cases h:n < 0
  ·simp only [h,decide_true,if_true] at *; omega
  ·simp only [h,decide_false,Bool.false_eq_true,if_false] at *; omega
theorem CC {w:aU} (h:cM 4294967296 w.l) (hv:av w < 18446744073709551616):w.a0 + w.a1 * 4294967296 = av w:=by
 have e:=gg 4294967296 (dg w.l) 2 14
 have h2:ds 4294967296 (dg w.l) 2 = w.a0 + w.a1 * 4294967296:=by simp [ds,dg,aU.l]
 have h3:=dY (b:=4294967296) (by decide) (f:=fun i=>dg w.l (2 + i)) (n:=14) fun i _=>(h (2 + i)).1
 have a0:=h 0
 have a1:=h 1
 have e0:dg w.l 0 = w.a0:=rfl
 have e1:dg w.l 1 = w.a1:=rfl
 rw [e0] at a0
 rw [e1] at a1
 have hav:av w = ds 4294967296 (dg w.l) (2 + 14):=rfl
 rw [hav] at hv ⊢
 rw [e,h2] at hv ⊢
 have hp:(4294967296:Int) ^ 2 = 18446744073709551616:=by decide
 rw [hp] at hv ⊢
 omega
theorem Ct {F:Nat} (hF:100 < F) {x:br} (hx:jX x):jL F x = some (match iv x with | some a=>if -9223372036854775808 ≤ a ∧ a ≤ 9223372036854775807 then (a,true) else (0,false) | none=>(0,false)):=by
 refine ap.eq ?_
 unfold jL
 refine ap.ax (uk hF x) ?_
 cases ha:iv x with
 | none=>
  simp only [b8 ha]
  exact ap.g0 (by rfl) (ap.eX (by rfl) (ap.some rfl))
 | some a=>
  obtain ⟨ga,rfl,ra⟩:=bZ hx ha
  obtain ⟨wa,na⟩:=cn ra
  simp only [ga]
  refine ap.g1 (by rfl) (ap.ax (Bits_y hF (ba a)) ?_)
  rw [fU ra]
  simp only [Bool.not_true,Bool.false_or]
  refine ap.ite (fun h=>?_) (fun h=>?_)
  ·have h':=of_decide_eq_true h
   refine ap.some ?_
   rw [if_neg]
   intro hh
   have:=ri (m:=aK a) (k:=64) (by rw [p64]; unfold aK; split <;> omega)
   omega
  ·have h':=of_decide_eq_false h
   have hlt:aK a < 18446744073709551616:=by
    have h2:=lt_blen (m:=aK a)
    have h3:(2:Int) ^ (fT (aK a)).toNat ≤ 2 ^ 64:=uZ (by omega)
    rw [p64] at h3
    omega
   have hs:=CC (ba a) (by rw [wa]; exact hlt)
   rw [wa] at hs
   have b0:=ba a 0
   have b1:=ba a 1
   have e0:dg (cP a).W.l 0 = (cP a).W.a0:=rfl
   have e1:dg (cP a).W.l 1 = (cP a).W.a1:=rfl
   rw [e0] at b0
   rw [e1] at b1
   have habs:aK a = if a < 0 then -a else a:=rfl
   rw [← habs] at hs
   have habs0:0 ≤ aK a:=by unfold aK; split <;> omega
   refine ap.r4 ((cP a).W.a1 * 4294967296) (by simp only [gO]; omega) (ap.r4 (aK a) ?_ ?_)
   ·have e2:IntKind.u64.wrap (cP a).W.a0 = (cP a).W.a0:=by rw [gO]; omega
    rw [e2,oJ 32 (by omega) (by omega) (by rw [Be]; omega) b0.1 (by rw [Be]; omega) (by omega)]
    omega
   ·rw [na]
    refine ap.ite (fun h=>?_) (fun h=>?_)
    ·simp only [Bool.and_eq_true,decide_eq_true_eq] at h
     rw [if_pos h.1] at habs
     refine ap.ln (ap.some ?_)
     rw [if_pos (by omega)]
     simp only [gO,cH]
     congr 1
     omega
    ·refine ap.ite (fun h2=>?_) (fun h2=>?_)
     ·simp only [Bool.and_eq_true,Bool.not_eq_true',decide_eq_true_eq,decide_eq_false_iff_not] at h2
      rw [if_neg h2.1] at habs
      refine ap.some ?_
      rw [if_pos (by omega),cH]
      congr 1
      omega
     ·refine ap.some ?_
      rw [if_neg]
      intro hh
      by_cases h3:a < 0
      ·rw [if_pos h3] at habs
       simp only [h3,decide_true,Bool.true_and,decide_eq_false_iff_not] at h
       omega
      ·rw [if_neg h3] at habs
       simp only [h3,decide_false,Bool.not_false,Bool.true_and,decide_eq_false_iff_not] at h2
       omega
theorem ED {F:Nat} (hF:100000 < F) {x:br} (hx:jX x):mF F x = some (if x.Bad = true then decide (x.W = aU.zero) && !x.Neg else !decide (x.W = aU.zero) || !x.Neg):=by
 refine ap.eq ?_
 unfold mF
 refine ap.bind (P:=fun z=>z = decide (x.W = aU.zero)) (ap.rounds 16 (fun k s=>s.2 = (k:Int) ∧ (s.1 = true ↔ ∀ i,i < k → dg x.W.l i = 0)) (by omega) ⟨rfl,by simp⟩ ?_) ?_
 ·rintro k ⟨z,kx⟩ hk ⟨rfl,hz⟩
  dsimp only at hz
  dsimp only [b9]
  refine ap.ite (fun h=>?_) (fun h=>?_)
  ·have hk':k < 16:=by have:=of_decide_eq_true h; omega
   cases z with
   | true=>
    refine ap.g1 rfl (ap.idx (by omega) (by rw [aU.ck]; omega) (ap.some (.inl ⟨_,rfl,⟨by dsimp only; rw [cH]; omega,?_⟩,hk'⟩)))
    simp only [dF,Int.toNat_natCast,Bool.true_and]
    constructor
    ·intro h1 i hi
     by_cases e:i = k
     ·rw [e]; exact of_decide_eq_true h1
     ·exact hz.1 rfl i (by omega)
    ·intro h1; exact decide_eq_true (h1 k (by omega))
   | false=>
    refine ap.g0 rfl (ap.some (.inl ⟨_,rfl,⟨by dsimp only; rw [cH]; omega,?_⟩,hk'⟩))
    simp only [Bool.false_and,Bool.false_eq_true,false_iff]
    intro h1
    exact absurd (hz.2 fun i hi=>h1 i (by omega)) (by simp)
  ·have hk':k = 16:=by have:=of_decide_eq_false h; omega
   subst hk'
   refine ap.some (.inr ⟨_,rfl,?_⟩)
   rw [Bool.eq_iff_iff,hz,decide_eq_true_eq]
   constructor
   ·intro h1
    rw [mi hx]
    exact nq h1
   ·intro h1 i _
    rw [h1]
    have:aU.zero.l = List.replicate 16 0:=rfl
    rw [this,dj]
 ·rintro z rfl
  refine ap.ite (fun h=>?_) (fun h=>?_)
  ·rw [h]; exact ap.some rfl
  ·rw [h]; exact ap.some rfl
theorem dL {F:Nat} (hF:100000 < F) {x:br} (hx:jX x):cj F x = some (gB x):=by
 refine ap.eq ?_
 unfold cj
 refine ap.ax (ED hF hx) (ap.some ?_)
 unfold gB
 cases x.Bad <;> simp
end Go.Proofs.YtcbbilehdaaffaaGreatDoor
namespace Go.Sk
set_option linter.unusedSimpArgs false
set_option linter.unusedVariables false
theorem mulfin {c ai bk ok:Int} (h1:0 ≤ c ∧ c < 4294967296) (h2:0 ≤ ai * bk ∧ ai * bk ≤ 18446744065119617025) (h3:0 ≤ ok ∧ ok < 4294967296) (ha:0 ≤ ai ∧ ai < 4294967296) (hb:0 ≤ bk ∧ bk < 4294967296) :
  IntKind.u64.wrap (c + IntKind.u64.wrap (IntKind.u64.wrap (IntKind.u64.wrap ai * IntKind.u64.wrap bk) + IntKind.u64.wrap ok)) = c + ai * bk + ok:=by
 have e1:IntKind.u64.wrap ai = ai:=by rw [gO]; omega
 have e2:IntKind.u64.wrap bk = bk:=by rw [gO]; omega
 rw [e1,e2]
 generalize ai * bk = p at *
 simp only [gO]
 omega
def C3 (o:iG):aU:=⟨o.a0,o.a1,o.a2,o.a3,o.a4,o.a5,o.a6,o.a7,o.a8,o.a9,o.a10,o.a11,o.a12,o.a13,o.a14,o.a15⟩
def xE (o:iG):aU:=⟨o.Bf,o.a17,o.a18,o.a19,o.a20,o.a21,o.a22,o.a23,o.a24,o.a25,o.a26,o.a27,o.a28,o.a29,o.a30,o.a31⟩
theorem DL (o:iG):(C3 o).l = o.l.take 16:=rfl
theorem DR (o:iG):(xE o).l = o.l.drop 16:=rfl
theorem BQ {o:iG} (h:cM 4294967296 o.l):cM 4294967296 (C3 o).l:=fun i=>by
 rw [DL,oP]; split
 ·exact h i
 ·decide
theorem BU {o:iG} (h:cM 4294967296 o.l):cM 4294967296 (xE o).l:=fun i=>by
 rw [DR,Cl]; exact h _
theorem halves (o:iG):ds 4294967296 (dg o.l) 32 = av (C3 o) + MM * av (xE o):=by
 rw [show (32:Nat) = 16 + 16 from rfl,gg]
 have e1:ds 4294967296 (dg o.l) 16 = av (C3 o):=dy fun i hi=>by rw [DL,oP,if_pos hi]
 have e2:ds 4294967296 (fun i=>dg o.l (16 + i)) 16 = av (xE o):=dy fun i _=>by rw [DR,Cl]
 rw [e1,e2]
 rfl
theorem qy (a b:Int):aK (a * b) = aK a * aK b:=by
 unfold aK
 by_cases ha:a < 0
 ·by_cases hb:b < 0
  ·rw [if_pos ha,if_pos hb,if_neg (by have:=Int.mul_pos_of_neg_of_neg ha hb; omega),Int.neg_mul_neg]
  ·rw [if_pos ha,if_neg hb]
   have:=Int.mul_nonpos_of_nonpos_of_nonneg (Int.le_of_lt ha) (by omega:0 ≤ b)
   by_cases h0:a * b < 0
   ·rw [if_pos h0,Int.neg_mul]
   ·rw [if_neg h0,Int.neg_mul]; omega
 ·by_cases hb:b < 0
  ·rw [if_neg ha,if_pos hb]
   have:=Int.mul_nonpos_of_nonneg_of_nonpos (by omega:0 ≤ a) (Int.le_of_lt hb)
   by_cases h0:a * b < 0
   ·rw [if_pos h0,Int.mul_neg]
   ·rw [if_neg h0,Int.mul_neg]; omega
  ·rw [if_neg ha,if_neg hb,if_neg (by have:=Int.mul_nonneg (by omega:0 ≤ a) (by omega:0 ≤ b); omega)]
theorem BD {a b:Int} (h:(decide (a < 0) != decide (b < 0)) = true):a * b = -(aK a * aK b):=by
 rw [← qy]
 unfold aK
 by_cases ha:a < 0
 ·have hb:¬ b < 0:=fun hb=>by simp [ha,hb] at h
  have:=Int.mul_nonpos_of_nonpos_of_nonneg (Int.le_of_lt ha) (by omega:0 ≤ b)
  split <;> omega
 ·by_cases hb:b < 0
  ·have:=Int.mul_nonpos_of_nonneg_of_nonpos (by omega:0 ≤ a) (Int.le_of_lt hb)
   split <;> omega
  ·simp [ha,hb] at h
theorem yZ {a b:Int} (h:(decide (a < 0) != decide (b < 0)) = false):a * b = aK a * aK b:=by
 rw [← qy]
 unfold aK
 by_cases ha:a < 0
 ·by_cases hb:b < 0
  ·have:=Int.mul_pos_of_neg_of_neg ha hb
   rw [if_neg (by omega)]
  ·simp [ha,hb] at h
 ·have hb:¬ b < 0:=fun hb=>by simp [ha,hb] at h
  have:=Int.mul_nonneg (by omega:0 ≤ a) (by omega:0 ≤ b)
  rw [if_neg (by omega)]
theorem oT {a:Int} (h:-MM < a ∧ a < MM):0 ≤ aK a ∧ aK a < MM:=by unfold aK; split <;> omega
theorem yA {a:Int}:(-MM < a ∧ a < MM) ↔ aK a < MM:=by unfold aK; split <;> omega
end Go.Sk
namespace Go.Proofs.YtcbbilehdaaffaaGreatDoor
open Go Go.Sk
set_option linter.unusedSimpArgs false
set_option linter.unusedVariables false
theorem Mul_y {F:Nat} (hF:100 < F) {x y:br} (hx:jX x) (hy:jX y):j8 F x y = some (two (fun a b=>some (a * b)) x y):=by
  refine ap.eq ?_
  unfold j8 two
  refine ap.ax (Bn hF x y) ?_
  cases ha:iv x with
  | none=>simp only [b8 ha,Bool.false_and,Bool.not_false,if_true]; exact ap.ax (mb F) (ap.some rfl)
  | some a=>
    cases hb:iv y with
    | none=>simp only [b8 hb,Bool.and_false,Bool.not_false,if_true]; exact ap.ax (mb F) (ap.some rfl)
    | some b=>
      obtain ⟨ga,rfl,ra⟩:=bZ hx ha
      obtain ⟨gb,rfl,rb⟩:=bZ hy hb
      obtain ⟨wa,na⟩:=cn ra
      obtain ⟨wb,nb⟩:=cn rb
      have ia:cM 4294967296 (cP a).W.l:=ba a
      have ib:cM 4294967296 (cP b).W.l:=ba b
      have habs:av (cP a).W = aK a:=wa
      have hbbs:av (cP b).W = aK b:=wb
      clear wa wb ha hb hx hy
      simp only [ga,gb,Bool.and_self,Bool.not_true,Bool.false_eq_true,if_false,ud,na,nb]
      generalize (cP a).W = A at *
      generalize (cP b).W = B at *
      refine ap.bind (r9 hF) fun n hn=>ap.bind (r9 hF) fun m hm=>?_
      obtain ⟨n0,n1,nz,_⟩:=hn
      obtain ⟨m0,m1,mz,_⟩:=hm
      obtain ⟨N,rfl⟩:∃ N:Nat,n = N:=⟨n.toNat,by omega⟩
      obtain ⟨M,rfl⟩:∃ M:Nat,m = M:=⟨m.toNat,by omega⟩
      simp only [Int.toNat_natCast] at nz mz
      have hA:aK a = ds 4294967296 (dg A.l) N:=by rw [← habs]; exact mh (by omega) nz
      have hB:aK b = ds 4294967296 (dg B.l) M:=by rw [← hbbs]; exact mh (by omega) mz
      refine ap.bind (P:=fun out=>cM 4294967296 out.l ∧ ds 4294967296 (dg out.l) 32 = aK a * aK b) (ap.rounds N (fun i s=>s.2 = (i:Int) ∧ cM 4294967296 s.1.l ∧ (∀ j,i + M ≤ j → dg s.1.l j = 0) ∧ ds 4294967296 (dg s.1.l) (i + M) = ds 4294967296 (dg A.l) i * aK b) (by omega) ⟨rfl,iG.j6,fun j _=>iG.Bs j,?_⟩ ?_) ?_
      · show ds 4294967296 (dg iG.zero.l) (0 + M) = 0 * aK b
        rw [Int.zero_mul]
        exact nq fun j _=>iG.Bs j
      · rintro i ⟨o0,ix⟩ hi ⟨rfl,oin,oz,os⟩
        dsimp only at oin oz os
        dsimp only [b9]
        refine ap.ite (fun h=>?_) (fun h=>?_)
        · have hi':i < N:=by have:=of_decide_eq_true h; omega
          have hai:=ia i
          refine ap.bind (P:=fun o1=>cM 4294967296 o1.l ∧ (∀ j,i + 1 + M ≤ j → dg o1.l j = 0) ∧ ds 4294967296 (dg o1.l) (i + 1 + M) = ds 4294967296 (dg A.l) (i + 1) * aK b) ?_ ?_
          · refine ap.bind (P:=fun r=>cM 4294967296 r.1.l ∧ 0 ≤ r.2 ∧ r.2 < 4294967296 ∧ (∀ j,i + M ≤ j → dg r.1.l j = dg o0.l j) ∧ ds 4294967296 (dg r.1.l) (i + M) + r.2 * 4294967296 ^ (i + M) = ds 4294967296 (dg o0.l) (i + M) + dg A.l i * 4294967296 ^ i * ds 4294967296 (dg B.l) M)
              (ap.rounds M (fun k s=>s.2.2 = (k:Int) ∧ cM 4294967296 s.1.l ∧ 0 ≤ s.2.1 ∧ s.2.1 < 4294967296 ∧ (∀ j,i + k ≤ j → dg s.1.l j = dg o0.l j) ∧ ds 4294967296 (dg s.1.l) (i + k) + s.2.1 * 4294967296 ^ (i + k) = ds 4294967296 (dg o0.l) (i + k) + dg A.l i * 4294967296 ^ i * ds 4294967296 (dg B.l) k) (by omega) ⟨rfl,oin,Int.le_refl _,(by decide:(0:Int) < 4294967296),fun _ _=>rfl,?_⟩ ?_) ?_
            · show ds 4294967296 (dg o0.l) (i + 0) + 0 * 4294967296 ^ (i + 0) = ds 4294967296 (dg o0.l) (i + 0) + dg A.l i * 4294967296 ^ i * 0
              rw [Int.zero_mul,Int.mul_zero]
            · rintro k ⟨o,c,kx⟩ hk ⟨rfl,pin,c0,c1,pk,ps⟩
              dsimp only at pin c0 c1 pk ps
              dsimp only [ky]
              refine ap.ite (fun h2=>?_) (fun h2=>?_)
              · have hk':k < M:=by have:=of_decide_eq_true h2; omega
                have hw:IntKind.i64.wrap ((i:Int) + (k:Int)) = ((i + k:Nat):Int):=by rw [cH]; omega
                have hbk:=ib k
                have hok:=pin (i + k)
                rw [hw]
                have hmb:=l7 hai hbk
                have hfin:=mulfin ⟨c0,c1⟩ (by have e:((4294967296:Int) - 1) * (4294967296 - 1) = 18446744065119617025:=by decide
                                              rw [e] at hmb; exact hmb) hok hai hbk
                have hlt:c + dg A.l i * dg B.l k + dg o.l (i + k) ≤ 18446744073709551615:=by
                  have e:((4294967296:Int) - 1) * (4294967296 - 1) = 18446744065119617025:=by decide
                  rw [e] at hmb
                  omega
                refine ap.idx (by omega) (by rw [aU.ck]; omega) (ap.idx (by omega) (by rw [aU.ck]; omega) (ap.idx (by omega) (by rw [iG.ck]; omega) (ap.ln (ap.idx (by omega) (by rw [iG.ck]; omega) (ap.ln (ap.some (.inl ⟨_,rfl,?_,hk'⟩)))))))
                simp only [dF,Int.toNat_natCast]
                rw [hfin]
                generalize hp:dg A.l i * dg B.l k = p at *
                have hmb0:=hmb.1
                clear hfin hmb
                refine ⟨by rw [cH]; omega,iG.jB pin (by omega) (by omega) (by rw [lL]; omega),by omega,by omega,fun j hj=>?_,?_⟩
                · rw [iG.fH (by omega) (by omega),Int.toNat_natCast,if_neg (by omega)]
                  exact pk j (by omega)
                · have hok0:=pk (i + k) (Nat.le_refl _)
                  show ds 4294967296 (dg (iG.set o ((i + k:Nat):Int) _).l) (i + k + 1) + _ * 4294967296 ^ (i + k + 1) = ds 4294967296 (dg o0.l) (i + k + 1) + dg A.l i * 4294967296 ^ i * ds 4294967296 (dg B.l) (k + 1)
                  rw [iG.sf (by omega),dm 4294967296 (dg o0.l),dm 4294967296 (dg B.l),← hok0]
                  refine EL ps ?_
                  rw [hp,lL]
                  omega
              · have hk':k = M:=by have:=of_decide_eq_false h2; omega
                subst hk'
                exact ap.some (.inr ⟨_,rfl,pin,c0,c1,pk,ps⟩)
            · rintro ⟨o,c⟩ ⟨pin,c0,c1,pk,ps⟩
              dsimp only at pin c0 c1 pk ps
              dsimp only [b9]
              have hw:IntKind.i64.wrap ((i:Int) + (M:Int)) = ((i + M:Nat):Int):=by rw [cH]; omega
              rw [hw]
              refine ap.idx (by omega) (by rw [iG.ck]; omega) (ap.some ?_)
              have hwc:IntKind.u32.wrap c = c:=by rw [lL]; omega
              rw [hwc]
              refine ⟨iG.jB pin (by omega) (by omega) ⟨c0,c1⟩,fun j hj=>?_,?_⟩
              · rw [iG.fH (by omega) (by omega),Int.toNat_natCast,if_neg (by omega),pk j (by omega),oz j (by omega)]
              · have e:i + 1 + M = i + M + 1:=by omega
                rw [e,iG.sf (by omega),ps,os,dm,← hB,Int.add_mul]
          · rintro o1 ⟨h1,h2,h3⟩
            exact ap.some (.inl ⟨_,rfl,⟨by rw [cH]; omega,h1,h2,h3⟩,hi'⟩)
        · have hi':i = N:=by have:=of_decide_eq_false h; omega
          subst hi'
          refine ap.some (.inr ⟨_,rfl,oin,?_⟩)
          rw [hA,← os]
          exact mh (by omega) fun j h1 _=>oz j h1
      · rintro out ⟨oin,os⟩
        rw [halves] at os
        have rl:=fA (BQ oin)
        have rh:=fA (BU oin)
        refine ap.ln ?_
        show ap (if decide (xE out ≠ aU.zero) = true then _ else _) _
        refine ap.ite (fun h=>?_) (fun h=>?_)
        · have h':=of_decide_eq_true h
          have h1:av (xE out) ≠ 0:=fun e=>h' ((mi (BU oin)).2 e)
          refine ap.ax (mb F) (ap.some ?_)
          refine (vh ?_).symm
          rw [yA,qy,← os]
          have h2:MM * 1 ≤ MM * av (xE out):=Int.mul_le_mul_of_nonneg_left (by omega) (Int.le_of_lt tO)
          omega
        · have h':xE out = aU.zero:=by simpa using h
          have h1:av (xE out) = 0:=by rw [h',sY]
          rw [h1,Int.mul_zero,Int.add_zero] at os
          show ap (Option.bind (c6 F (decide (a < 0) != decide (b < 0)) (C3 out)) _) _
          refine ap.ax (hO F _ (BQ oin)) (ap.some ?_)
          rw [os]
          congr 1
          cases hs:(decide (a < 0) != decide (b < 0)) with
          | true=>rw [if_pos rfl,BD hs]
          | false=>rw [if_neg (by simp),yZ hs]
end Go.Proofs.YtcbbilehdaaffaaGreatDoor
namespace Go.Sk
set_option linter.unusedSimpArgs false
set_option linter.unusedVariables false
def lv (l:List Int):Int:=ds 65536 (dg l) l.length
def j2 (l:List Int):Prop:=0 < l.length → dg l (l.length - 1) ≠ 0
theorem vp {l:List Int} {n:Nat} (h:l.length ≤ n):ds 65536 (dg l) n = lv l:=mh h fun i h1 _=>pU h1
theorem DK:lv [] = 0:=rfl
theorem fg {l:List Int} (h:cM 65536 l):0 ≤ lv l:=dY (by decide) fun i _=>(h i).1
theorem ui {l:List Int} (h:cM 65536 l):lv l < 65536 ^ l.length:=pS (by decide) fun i _=>h i
theorem lv_ge {l:List Int} (h:cM 65536 l) (ht:j2 l) (h0:0 < l.length):65536 ^ (l.length - 1) ≤ lv l:=by
 have e:l.length = (l.length - 1) + 1:=by omega
 have h1:=ht h0
 have h2:=h (l.length - 1)
 have h3:=dY (b:=65536) (by decide) (f:=dg l) (n:=l.length - 1) fun i _=>(h i).1
 unfold lv
 rw [e,dm,Nat.add_sub_cancel]
 have h4:1 * (65536:Int) ^ (l.length - 1) ≤ dg l (l.length - 1) * 65536 ^ (l.length - 1):=Int.mul_le_mul_of_nonneg_right (by omega) (Int.le_of_lt (Int.pow_pos (by decide)))
 omega
theorem qp {i j:Nat} (h:i ≤ j):(65536:Int) ^ i ≤ 65536 ^ j:=qo (by decide) h
theorem u5 {l:List Int} {n:Nat} (h:cM 65536 l) (ht:j2 l) (hv:lv l < 65536 ^ n):l.length ≤ n:=by
 rcases Nat.lt_or_ge n l.length with h1 | h1
 ·have h2:=lv_ge h ht (by omega)
  have h3:=qp (show n ≤ l.length - 1 by omega)
  omega
 ·exact h1
theorem lv_pos {l:List Int} (h:cM 65536 l) (ht:j2 l):l = [] ↔ lv l = 0:=by
 constructor
 ·rintro rfl; rfl
 ·intro e
  have:=u5 (n:=0) h ht (by rw [e]; decide)
  exact List.eq_nil_of_length_eq_zero (by omega)
theorem ju {l:List Int} (h:cM 65536 l) (ht:j2 l):0 < l.length ↔ lv l ≠ 0:=by
 rw [ne_eq,← lv_pos h ht]
 constructor
 ·intro h1 e; subst e; simp at h1
 ·intro h1; exact List.length_pos_iff.2 h1
theorem xP:cM 65536 []:=fun i=>by rw [dg_nil]; decide
theorem AJ {l m:List Int} (hl:cM 65536 l) (hm:cM 65536 m):cM 65536 (l ++ m):=fun i=>by
 rw [og]; split
 ·exact hl i
 ·exact hm _
theorem sN {b x:Int} (hb:0 < b) (h:0 ≤ x ∧ x < b):cM b [x]:=fun i=>by
 cases i with
 | zero=>exact h
 | succ i=>exact ⟨Int.le_refl _,hb⟩
theorem ds_app {b:Int} (l m:List Int) (n:Nat):ds b (dg (l ++ m)) (l.length + n) = ds b (dg l) l.length + b ^ l.length * ds b (dg m) n:=by
 rw [gg]
 congr 1
 ·exact dy fun i hi=>by rw [og,if_pos hi]
 ·congr 1
  exact dy fun i _=>by rw [og,if_neg (by omega),Nat.add_sub_cancel_left]
theorem Ao (l m:List Int):lv (l ++ m) = lv l + 65536 ^ l.length * lv m:=by
 unfold lv
 rw [List.length_append,ds_app]
theorem vE (x:Int):lv [x] = x:=by simp [lv,ds,dg]
theorem take_in {b:Int} {l:List Int} {n:Nat} (hb:0 < b) (h:cM b l):cM b (l.take n):=fun i=>by
 rw [oP]; split
 ·exact h i
 ·exact ⟨Int.le_refl _,hb⟩
theorem Ej {w:aU} {k:Nat} {x:Int} (hk:k < 16):av (w.set (k:Int) x) = av w + (x - dg w.l k) * 4294967296 ^ k:=by
 unfold av
 have e:(16:Nat) = (k + 1) + (15 - k):=by omega
 rw [e,gg,gg 4294967296 (dg w.l),aU.sf hk,dm]
 have:ds 4294967296 (fun i=>dg (w.set (k:Int) x).l (k + 1 + i)) (15 - k) = ds 4294967296 (fun i=>dg w.l (k + 1 + i)) (15 - k):=dy fun i _=>by
  rw [fH (by omega) (by omega),Int.toNat_natCast,if_neg (by omega)]
 rw [this,Int.sub_mul]
 omega
theorem Bj (j:Nat):(65536:Int) ^ (2 * j) = 4294967296 ^ j:=by rw [Int.pow_mul]; rfl
theorem pow65' (j:Nat):(65536:Int) ^ (2 * j + 1) = 4294967296 ^ j * 65536:=by rw [Int.pow_succ,Bj]
theorem MM65:MM = 65536 ^ 32:=by unfold MM; rw [← Bj]
end Go.Sk
namespace Go.Proofs.YtcbbilehdaaffaaGreatDoor
open Go Go.Sk
set_option linter.unusedSimpArgs false
set_option linter.unusedVariables false
abbrev Trim (l c:List Int):Prop:=cM 65536 c ∧ j2 c ∧ lv c = lv l ∧ c.length ≤ l.length
theorem pX {F:Nat} {l:List Int} (hF:l.length < F) (hl:l.length ≤ 100000) (hin:cM 65536 l):ap (fW F l) (Trim l):=by
 unfold fW
 refine ap.bind (P:=fun (n:Int)=>0 ≤ n ∧ n ≤ l.length ∧ (∀ i,n.toNat ≤ i → dg l i = 0) ∧ (0 < n → dg l (n.toNat - 1) ≠ 0)) (ap.rounds l.length (fun k s=>s = (l.length:Int) - (k:Int) ∧ ∀ i,l.length ≤ i + k → dg l i = 0) hF ⟨by omega,fun i h1=>pU (by omega)⟩ ?_) ?_
 ·rintro k n hk ⟨rfl,he⟩
  by_cases hk':k < l.length
  ·have hw:IntKind.i64.wrap ((l.length:Int) - (k:Int) - 1) = ((l.length - 1 - k:Nat):Int):=by rw [cH]; omega
   have hd:decide (0 < (l.length:Int) - (k:Int)) = true:=decide_eq_true (by omega)
   refine ap.g1 hd (ap.idx (by rw [hw]; omega) (by rw [hw]; omega) ?_)
   rw [hw,hd]
   simp only [dF,Int.toNat_natCast,Bool.true_and]
   refine ap.ite (fun h=>?_) (fun h=>?_)
   ·have h':=of_decide_eq_true h
    refine ap.some (.inl ⟨_,rfl,⟨by omega,fun i h1=>?_⟩,hk'⟩)
    by_cases e:i = l.length - 1 - k
    ·rw [e]; exact h'
    ·exact he i (by omega)
   ·have h':=of_decide_eq_false h
    refine ap.some (.inr ⟨_,rfl,by omega,by omega,fun i h1=>he i (by omega),fun _=>?_⟩)
    have:((l.length:Int) - (k:Int)).toNat - 1 = l.length - 1 - k:=by omega
    rw [this]; exact h'
  ·have hk2:k = l.length:=by omega
   subst hk2
   refine ap.g0 (by simp) ?_
   refine ap.iff (by simp) (ap.some (.inr ⟨_,rfl,by omega,by omega,fun i _=>he i (by omega),fun h=>by omega⟩))
 ·rintro n ⟨n0,n1,nz,nt⟩
  refine ap.take n0 n1 (ap.some ?_)
  have hlen:(l.take n.toNat).length = n.toNat:=by simp; omega
  refine ⟨take_in (by decide) hin,fun h=>?_,?_,by omega⟩
  ·rw [hlen] at h ⊢
   rw [oP,if_pos (by omega)]
   exact nt (by omega)
  ·unfold lv
   rw [hlen]
   have e1:ds 65536 (dg (l.take n.toNat)) n.toNat = ds 65536 (dg l) n.toNat:=dy fun i hi=>by rw [oP,if_pos hi]
   rw [e1]
   exact (mh (by omega) fun i h1 _=>nz i h1).symm
theorem nu (F:Nat) {l:List Int} {k:Int} (h0:0 ≤ k):fm F l k = some (dg l k.toNat):=by
 refine ap.eq ?_
 unfold fm
 refine ap.ite (fun h=>?_) (fun h=>?_)
 ·have:=of_decide_eq_true h
  exact ap.idx h0 this (ap.some rfl)
 ·have:=of_decide_eq_false h
  exact ap.some (pU (by omega)).symm
theorem yc {F:Nat} (hF:100000 < F) {a b:List Int} (ha:cM 65536 a) (hb:cM 65536 b) (la:a.length ≤ 9999) (lb:b.length ≤ 9999) :
  ap (kE F a b) fun c=>cM 65536 c ∧ j2 c ∧ lv c = lv a + lv b ∧ c.length ≤ max a.length b.length + 1:=by
 unfold kE
 obtain ⟨m,hm⟩:∃ m:Nat,m = max a.length b.length:=⟨_,rfl⟩
 have hmi:(max (a.length:Int) (b.length:Int)) = (m:Int):=by omega
 have hw:IntKind.i64.wrap ((m:Int) + 1) = ((m + 1:Nat):Int):=by rw [cH]; omega
 refine ap.bind (P:=fun o=>cM 65536 o ∧ o.length = m + 1 ∧ lv o = lv a + lv b) (ap.rounds (m + 1) (fun k s=>s.2.2 = (k:Int) ∧ cM 65536 s.1 ∧ s.1.length = k ∧ 0 ≤ s.2.1 ∧ s.2.1 ≤ 1 ∧ ds 65536 (dg a) k + ds 65536 (dg b) k = lv s.1 + s.2.1 * 65536 ^ k) (by omega) ⟨rfl,xP,rfl,Int.le_refl _,(by decide:(0:Int) ≤ 1),rfl⟩ ?_) ?_
 ·rintro k ⟨o,c,kx⟩ hk ⟨rfl,oin,ol,c0,c1,os⟩
  dsimp only at oin ol c0 c1 os
  dsimp only [ky]
  refine ap.r4 (m:Int) hmi ?_
  rw [hw]
  refine ap.ite (fun h=>?_) (fun h=>?_)
  ·have hk':k < m + 1:=by have:=of_decide_eq_true h; omega
   have h1:=ha k
   have h2:=hb k
   refine ap.ax (nu F (by omega)) (ap.ax (nu F (by omega)) ?_)
   simp only [Int.toNat_natCast]
   refine ap.r4 (dg a k + dg b k + c) (by simp only [cH]; omega) ?_
   have ht:Int.tmod (dg a k + dg b k + c) 65536 = (dg a k + dg b k + c) % 65536:=eR (by omega)
   refine ap.rD (by simp; omega) (ap.quo (by decide) (ap.some (.inl ⟨_,rfl,?_,hk'⟩)))
   rw [ht,eo (by omega)]
   dsimp only
   refine ⟨by rw [cH]; omega,AJ oin (sN (by decide) (by omega)),by simp [ol],by rw [cH]; omega,by rw [cH]; omega,?_⟩
   rw [dm,dm,Ao,vE,ol]
   have hq:IntKind.i64.wrap ((dg a k + dg b k + c) / 65536) = (dg a k + dg b k + c) / 65536:=by rw [cH]; omega
   rw [hq,Int.mul_comm ((65536:Int) ^ k)]
   exact wK os (by omega)
  ·have hk':k = m + 1:=by have:=of_decide_eq_false h; omega
   subst hk'
   refine ap.some (.inr ⟨_,rfl,oin,ol,?_⟩)
   rw [vp (by omega),vp (by omega)] at os
   have r1:=ui ha
   have r2:=ui hb
   have p1:=qp (show a.length ≤ m by omega)
   have p2:=qp (show b.length ≤ m by omega)
   have p3:(65536:Int) ^ (m + 1) = 65536 ^ m * 65536:=Int.pow_succ _ _
   have r3:=fg oin
   have p0:(0:Int) < 65536 ^ m:=Int.pow_pos (by decide)
   have:c = 0:=by
    rcases (by omega:c = 0 ∨ c = 1) with h | h
    ·exact h
    ·subst h; omega
   subst this
   omega
 ·rintro o ⟨oin,ol,os⟩
  refine ap.bind (pX (by omega) (by omega) oin) fun c hc=>ap.some ⟨hc.1,hc.2.1,by rw [hc.2.2.1,os],by have:=hc.2.2.2; omega⟩
theorem qg {F:Nat} (hF:100000 < F) {a b:List Int} (ha:cM 65536 a) (hb:cM 65536 b) (la:a.length ≤ 9999) (lb:b.length ≤ 9999) (hle:lv b ≤ lv a) :
  ap (gU F a b) fun c=>cM 65536 c ∧ j2 c ∧ lv c = lv a - lv b ∧ c.length ≤ a.length:=by
 unfold gU
 have hbn:ds 65536 (dg b) a.length = lv b:=by
  have e:=gg 65536 (dg b) a.length b.length
  rw [vp (by omega)] at e
  have h1:=dY (b:=65536) (by decide) (f:=fun i=>dg b (a.length + i)) (n:=b.length) fun i _=>(hb _).1
  have h2:=dY (b:=65536) (by decide) (f:=dg b) (n:=a.length) fun i _=>(hb _).1
  have h3:=ui ha
  rcases (by omega:ds 65536 (fun i=>dg b (a.length + i)) b.length = 0 ∨ 1 ≤ ds 65536 (fun i=>dg b (a.length + i)) b.length) with h4 | h4
  ·rw [h4] at e; omega
  ·have h5:(65536:Int) ^ a.length * 1 ≤ 65536 ^ a.length * ds 65536 (fun i=>dg b (a.length + i)) b.length:=Int.mul_le_mul_of_nonneg_left h4 (Int.le_of_lt (Int.pow_pos (by decide)))
   omega
 refine ap.bind (P:=fun o=>cM 65536 o ∧ o.length = a.length ∧ lv o = lv a - lv b) (ap.rounds a.length (fun k s=>s.2.2 = (k:Int) ∧ cM 65536 s.1 ∧ s.1.length = k ∧ 0 ≤ s.2.1 ∧ s.2.1 ≤ 1 ∧ ds 65536 (dg a) k + s.2.1 * 65536 ^ k = ds 65536 (dg b) k + lv s.1) (by omega) ⟨rfl,xP,rfl,Int.le_refl _,(by decide:(0:Int) ≤ 1),rfl⟩ ?_) ?_
 ·rintro k ⟨o,c,kx⟩ hk ⟨rfl,oin,ol,c0,c1,os⟩
  dsimp only at oin ol c0 c1 os
  dsimp only [ky]
  refine ap.ite (fun h=>?_) (fun h=>?_)
  ·have hk':k < a.length:=by have:=of_decide_eq_true h; omega
   have h1:=ha k
   have h2:=hb k
   refine ap.bind (P:=fun r=>cM 65536 r.1 ∧ r.1.length = k + 1 ∧ 0 ≤ r.2 ∧ r.2 ≤ 1 ∧ ds 65536 (dg a) (k + 1) + r.2 * 65536 ^ (k + 1) = ds 65536 (dg b) (k + 1) + lv r.1) ?_ ?_
   ·refine ap.idx (by omega) (by omega) (ap.ax (nu F (by omega)) ?_)
    simp only [dF,Int.toNat_natCast]
    have e0:IntKind.i64.wrap (IntKind.i64.wrap (dg a k - dg b k) - c) = dg a k - dg b k - c:=by simp only [cH]; omega
    refine ap.bind (P:=fun r=>0 ≤ r.1 ∧ r.1 ≤ 1 ∧ 0 ≤ r.2 ∧ r.2 < 65536 ∧ dg a k - dg b k - c = r.2 - r.1 * 65536) ?_ ?_
    ·refine ap.r4 _ e0 (ap.ite (fun h3=>?_) (fun h3=>?_))
     ·have h3':=of_decide_eq_true h3
      refine ap.r4 _ e0 (ap.some ?_)
      refine ⟨(by decide:(0:Int) ≤ 1),(by decide:(1:Int) ≤ 1),?_,?_,?_⟩ <;> dsimp only <;> rw [cH] <;> omega
     ·have h3':=of_decide_eq_false h3
      refine ap.some ?_
      refine ⟨(by decide:(0:Int) ≤ 0),(by decide:(0:Int) ≤ 1),?_,?_,?_⟩ <;> dsimp only <;> rw [e0] <;> omega
    ·rintro ⟨bo,x⟩ ⟨b0,b1,x0,x1,e⟩
     dsimp only at b0 b1 x0 x1 e
     dsimp only [b9]
     refine ap.rD (by simp; omega) (ap.some ⟨AJ oin (sN (by decide) ⟨x0,x1⟩),by simp [ol],b0,b1,?_⟩)
     dsimp only
     rw [dm,dm,Ao,vE,ol,Int.mul_comm ((65536:Int) ^ k)]
     exact uK os e
   ·rintro ⟨o1,bo⟩ ⟨q1,q2,q3,q4,q5⟩
    exact ap.some (.inl ⟨_,rfl,⟨by dsimp only; rw [cH]; omega,q1,q2,q3,q4,q5⟩,hk'⟩)
  ·have hk':k = a.length:=by have:=of_decide_eq_false h; omega
   subst hk'
   refine ap.some (.inr ⟨_,rfl,oin,ol,?_⟩)
   rw [hbn] at os
   have r3:=ui oin
   rw [ol] at r3
   have hl:ds 65536 (dg a) a.length = lv a:=rfl
   rw [hl] at os
   have:c = 0:=by
    rcases (by omega:c = 0 ∨ c = 1) with h | h
    ·exact h
    ·subst h; omega
   subst this
   omega
 ·rintro o ⟨oin,ol,os⟩
  refine ap.bind (pX (by omega) (by omega) oin) fun c hc=>ap.some ⟨hc.1,hc.2.1,by rw [hc.2.2.1,os],by have:=hc.2.2.2; omega⟩
theorem xQ {F:Nat} (hF:100000 < F) {a b:List Int} (ha:cM 65536 a) (hb:cM 65536 b) (la:a.length ≤ 9999) (lb:b.length ≤ 9999):jN F a b = some (decide (lv a < lv b)):=by
 refine ap.eq ?_
 unfold jN
 obtain ⟨m,hm⟩:∃ m:Nat,m = max a.length b.length:=⟨_,rfl⟩
 have hmi:(max (a.length:Int) (b.length:Int)) = (m:Int):=by omega
 have hw:IntKind.i64.wrap ((m:Int) - 1) = (m:Int) - 1:=by rw [cH]; omega
 have va:ds 65536 (dg a) m = lv a:=vp (by omega)
 have vb:ds 65536 (dg b) m = lv b:=vp (by omega)
 refine ap.bind (P:=fun r=>match r with | .inl _=>lv a = lv b | .inr y=>y = decide (lv a < lv b)) ?_ ?_
 ·refine ap.r4 _ hmi ?_
  rw [hw]
  refine ap.rounds m (fun k s=>s = (m:Int) - 1 - (k:Int) ∧ ∀ i,m ≤ i + k → i < m → dg a i = dg b i) (by omega) ⟨by omega,fun i h1 h2=>by omega⟩ ?_
  rintro k i hk ⟨rfl,he⟩
  refine ap.ite (fun h=>?_) (fun h=>?_)
  ·have hk':k < m:=by have:=of_decide_eq_true h; omega
   have et:((m:Int) - 1 - (k:Int)).toNat = m - 1 - k:=by omega
   refine ap.ax (nu F (by omega)) (ap.ax (nu F (by omega)) (ap.ite (fun hne=>?_) (fun heq=>?_)))
   ·refine ap.ax (nu F (by omega)) (ap.ax (nu F (by omega)) (ap.some (.inr ⟨_,rfl,?_⟩)))
    have hne':=of_decide_eq_true hne
    rw [et] at hne' ⊢
    show decide _ = decide _
    rw [decide_eq_decide,← va,← vb]
    constructor
    ·intro h1
     exact s7 (by decide) (k:=m - 1 - k) (by omega) ha hb (fun i h2 h3=>he i (by omega) h3) h1
    ·intro h1
     rcases (by omega:dg a (m - 1 - k) < dg b (m - 1 - k) ∨ dg b (m - 1 - k) < dg a (m - 1 - k)) with h2 | h2
     ·exact h2
     ·have:=s7 (b:=65536) (by decide) (k:=m - 1 - k) (n:=m) (by omega) hb ha (fun i h2 h3=>(he i (by omega) h3).symm) h2
      omega
   ·have heq':dg a (m - 1 - k) = dg b (m - 1 - k):=by rw [et] at heq; simpa using heq
    refine ap.some (.inl ⟨_,rfl,⟨by rw [cH]; omega,fun i h1 h2=>?_⟩,hk'⟩)
    by_cases e:i = m - 1 - k
    ·rw [e]; exact heq'
    ·exact he i (by omega) h2
  ·have hk':k = m:=by have:=of_decide_eq_false h; omega
   subst hk'
   refine ap.some (.inr ⟨_,rfl,?_⟩)
   show lv a = lv b
   rw [← va,← vb]
   exact dy fun i hi=>he i (by omega) hi
 ·rintro (u | y) h
  ·have h':lv a = lv b:=h
   exact ap.some (by rw [h']; simp)
  ·exact ap.some h
end Go.Proofs.YtcbbilehdaaffaaGreatDoor
namespace Go.Sk
set_option linter.unusedSimpArgs false
set_option linter.unusedVariables false
theorem Ce {a b c d:Int} (ha:0 ≤ a ∧ a < 65536) (hb:0 ≤ b ∧ b < 65536) (hc:0 ≤ c ∧ c < 65536) (hd:0 ≤ d ∧ d < 65536):cM 65536 [a,b,c,d]:=fun i=>by
 match i with
 | 0=>exact ha
 | 1=>exact hb
 | 2=>exact hc
 | 3=>exact hd
 | n + 4=>exact ⟨Int.le_refl _,(by decide:(0:Int) < 65536)⟩
theorem BP (a b c d:Int):lv [a,b,c,d] = a + b * 65536 + c * 4294967296 + d * 281474976710656:=by simp [lv,ds,dg]
theorem two_inD {x y:Int} (hx:0 ≤ x ∧ x < 65536) (hy:0 ≤ y ∧ y < 65536):cM 65536 [x,y]:=fun i=>by
 match i with
 | 0=>exact hx
 | 1=>exact hy
 | n + 2=>exact ⟨Int.le_refl _,(by decide:(0:Int) < 65536)⟩
theorem lv_two (x y:Int):lv [x,y] = x + y * 65536:=by simp [lv,ds,dg]
end Go.Sk
namespace Go.Proofs.YtcbbilehdaaffaaGreatDoor
open Go Go.Sk
set_option linter.unusedSimpArgs false
set_option linter.unusedVariables false
theorem jC (F:Nat):gE F = some bad:=rfl
theorem E2 {F:Nat} (hF:100000 < F) {x:br} (hx:jX x):ap (bJ F x) fun c=>cM 65536 c ∧ j2 c ∧ lv c = av x.W ∧ c.length ≤ 32:=by
 unfold bJ
 refine ap.bind (P:=fun o=>cM 65536 o ∧ o.length = 32 ∧ lv o = av x.W) (ap.rounds 16 (fun k s=>s.2 = (k:Int) ∧ cM 65536 s.1 ∧ s.1.length = 2 * k ∧ lv s.1 = ds 4294967296 (dg x.W.l) k) (by omega) ⟨rfl,xP,rfl,rfl⟩ ?_) ?_
 ·rintro k ⟨o,kx⟩ hk ⟨rfl,oin,ol,os⟩
  dsimp only at oin ol os
  dsimp only [b9]
  refine ap.ite (fun h=>?_) (fun h=>?_)
  ·have hk':k < 16:=by have:=of_decide_eq_true h; omega
   have hd:=hx k
   refine ap.idx (by omega) (by rw [aU.ck]; omega) (ap.idx (by omega) (by rw [aU.ck]; omega) (ap.quo (by decide) ?_))
   simp only [dF,Int.toNat_natCast]
   have e1:IntKind.i64.wrap (Int.tmod (dg x.W.l k) 65536) = dg x.W.l k % 65536:=by rw [eR hd.1,cH]; omega
   have e2:IntKind.i64.wrap (IntKind.u32.wrap (Int.tdiv (dg x.W.l k) 65536)) = dg x.W.l k / 65536:=by rw [eo hd.1,lL,cH]; omega
   rw [e1,e2]
   refine ap.rD (by simp; omega) (ap.some (.inl ⟨_,rfl,⟨by dsimp only; rw [cH]; omega,AJ oin (two_inD (by omega) (by omega)),by simp [ol]; omega,?_⟩,hk'⟩))
   dsimp only
   rw [Ao,lv_two,os,dm,ol,Bj,Int.mul_comm ((4294967296:Int) ^ k)]
   congr 2
   omega
  ·have hk':k = 16:=by have:=of_decide_eq_false h; omega
   subst hk'
   exact ap.some (.inr ⟨_,rfl,oin,ol,os⟩)
 ·rintro o ⟨oin,ol,os⟩
  refine ap.bind (pX (by omega) (by omega) oin) fun c hc=>ap.some ⟨hc.1,hc.2.1,by rw [hc.2.2.1,os],by have:=hc.2.2.2; omega⟩
theorem we {F:Nat} (hF:100000 < F) (neg:Bool) {l:List Int} (hl:l.length ≤ 9999) (hin:cM 65536 l):c5 F neg l = some (if lv l < MM then cP (if neg = true then -lv l else lv l) else bad):=by
 refine ap.eq ?_
 unfold c5
 refine ap.bind (pX (by omega) (by omega) hin) ?_
 rintro c ⟨cin,ct,cv,cl⟩
 rw [← cv]
 have c0:=fg cin
 clear hin cv cl hl
 refine ap.ite (fun h=>?_) (fun h=>?_)
 ·have h':=of_decide_eq_true h
  refine ap.ax (jC F) (ap.some ?_)
  rw [if_neg]
  intro h1
  rw [MM65] at h1
  have:=u5 cin ct h1
  omega
 ·have h':=of_decide_eq_false h
  have hlt:lv c < MM:=by
   have h1:=ui cin
   have h2:=qp (show c.length ≤ 32 by omega)
   rw [MM65]; omega
  rw [if_pos hlt]
  refine ap.ln ?_
  refine ap.bind (P:=fun o=>o.Bad = false ∧ o.Neg = (neg && decide (0 < (c.length:Int))) ∧ cM 4294967296 o.W.l ∧ av o.W = lv c) (ap.rounds c.length (fun (k:Nat) (s:br × Int)=>s.2 = (k:Int) ∧ s.1.Bad = false ∧ s.1.Neg = (neg && decide (0 < (c.length:Int))) ∧ cM 4294967296 s.1.W.l ∧ (∀ j,k ≤ 2 * j → dg s.1.W.l j = 0) ∧ (∀ j,k ≤ 2 * j + 1 → dg s.1.W.l j < 65536) ∧ av s.1.W = ds 65536 (dg c) k) (by omega) ?_ ?_) ?_
  ·refine ⟨rfl,rfl,rfl,j6,fun j _=>?_,fun j _=>?_,sY⟩
   ·have:aU.zero.l = List.replicate 16 0:=rfl
    show dg aU.zero.l j = 0
    rw [this,dj]
   ·have:aU.zero.l = List.replicate 16 0:=rfl
    show dg aU.zero.l j < 65536
    rw [this,dj]; decide
  ·rintro k ⟨⟨Bd,Ng,w⟩,kx⟩ hk ⟨rfl,b0,n0,win,wz,wl,ws⟩
   dsimp only at b0 n0 win wz wl ws
   dsimp only [b9]
   refine ap.ite (fun h2=>?_) (fun h2=>?_)
   ·have hk':k < c.length:=by have:=of_decide_eq_true h2; omega
    have hk3:k < 32:=by omega
    have hd:=cin k
    have hdiv:IntKind.i64.wrap (Int.tdiv (k:Int) 2) = ((k / 2:Nat):Int):=by rw [eo (by omega),cH]; omega
    have hj16:k / 2 < 16:=by omega
    refine ap.bind (P:=fun o=>o.Bad = false ∧ o.Neg = (neg && decide (0 < (c.length:Int))) ∧ cM 4294967296 o.W.l ∧ (∀ j,k + 1 ≤ 2 * j → dg o.W.l j = 0) ∧ (∀ j,k + 1 ≤ 2 * j + 1 → dg o.W.l j < 65536) ∧ av o.W = ds 65536 (dg c) (k + 1)) ?_ ?_
    ·refine ap.ite (fun h3=>?_) (fun h3=>?_)
     ·have h3':=of_decide_eq_true h3
      rw [eR (by omega)] at h3'
      obtain ⟨j,rfl⟩:∃ j,k = 2 * j:=⟨k / 2,by omega⟩
      have hjj:2 * j / 2 = j:=by omega
      refine ap.quo (by decide) (ap.quo (by decide) ?_)
      rw [hdiv,hjj]
      refine ap.idx (by omega) (by rw [aU.ck]; omega) (ap.idx (by omega) (by omega) (ap.idx (by omega) (by rw [aU.ck]; omega) (ap.some ?_)))
      simp only [dF,Int.toNat_natCast]
      have hz:=wz j (by omega)
      have e1:IntKind.u32.wrap (dg w.l j + IntKind.u32.wrap (dg c (2 * j))) = dg c (2 * j):=by rw [hz]; simp only [lL]; omega
      rw [e1]
      refine ⟨b0,n0,jB win (by omega) (by omega) (by omega),fun i hi=>?_,fun i hi=>?_,?_⟩
      ·rw [fH (by omega) (by omega),Int.toNat_natCast,if_neg (by omega)]; exact wz i (by omega)
      ·rw [fH (by omega) (by omega),Int.toNat_natCast]
       split
       ·exact hd.2
       ·exact wl i (by omega)
      ·rw [Ej (by omega),hz,ws,dm,Bj,Int.sub_zero]
     ·have h3':=of_decide_eq_false h3
      rw [eR (by omega)] at h3'
      obtain ⟨j,rfl⟩:∃ j,k = 2 * j + 1:=⟨k / 2,by omega⟩
      have hjj:(2 * j + 1) / 2 = j:=by omega
      refine ap.quo (by decide) (ap.quo (by decide) ?_)
      rw [hdiv,hjj]
      refine ap.idx (by omega) (by rw [aU.ck]; omega) (ap.idx (by omega) (by omega) (ap.idx (by omega) (by rw [aU.ck]; omega) (ap.some ?_)))
      simp only [dF,Int.toNat_natCast]
      have hz:=wl j (by omega)
      have hz0:=(win j).1
      have e1:IntKind.u32.wrap (dg w.l j + IntKind.u32.wrap (IntKind.u32.wrap (dg c (2 * j + 1)) * 65536)) = dg w.l j + dg c (2 * j + 1) * 65536:=by simp only [lL]; omega
      rw [e1]
      refine ⟨b0,n0,jB win (by omega) (by omega) (by omega),fun i hi=>?_,fun i hi=>?_,?_⟩
      ·rw [fH (by omega) (by omega),Int.toNat_natCast,if_neg (by omega)]; exact wz i (by omega)
      ·rw [fH (by omega) (by omega),Int.toNat_natCast,if_neg (by omega)]; exact wl i (by omega)
      ·rw [Ej (by omega),ws,dm 65536 (dg c) (2 * j + 1),pow65']
       have:dg w.l j + dg c (2 * j + 1) * 65536 - dg w.l j = dg c (2 * j + 1) * 65536:=by omega
       rw [this,Int.mul_comm ((4294967296:Int) ^ j),← Int.mul_assoc]
    ·rintro o ⟨q1,q2,q3,q4,q5,q6⟩
     exact ap.some (.inl ⟨_,rfl,⟨by dsimp only; rw [cH]; omega,q1,q2,q3,q4,q5,q6⟩,hk'⟩)
   ·have hk':k = c.length:=by have:=of_decide_eq_false h2; omega
    subst hk'
    exact ap.some (.inr ⟨_,rfl,b0,n0,win,ws⟩)
  ·rintro ⟨Bd,Ng,w⟩ ⟨b0,n0,win,ws⟩
   dsimp only at b0 n0 win ws
   refine ap.some ?_
   subst b0 n0
   have hw:w = tC (lv c):=x6 win ws
   subst hw
   have hlen:=ju cin ct
   unfold cP
   cases neg with
   | false=>
    have h1:¬ lv c < 0:=by omega
    simp only [Bool.false_and,Bool.false_eq_true,if_false,h1,decide_false]
    rw [if_pos (by omega)]
   | true=>
    simp only [if_true,Bool.true_and]
    rw [if_pos (by omega)]
    by_cases e:lv c = 0
    ·have:¬ 0 < c.length:=fun h=>hlen.1 h e
     have h2:¬ ((0:Int) < c.length):=by omega
     rw [e,decide_eq_false h2]
     simp
    ·have:0 < c.length:=hlen.2 e
     have h2:((0:Int) < c.length):=by omega
     have h1:-lv c < 0:=by omega
     simp only [h1,h2,decide_true,if_true,Int.neg_neg]
theorem yg {neg:Bool} {m:Int} (h0:0 ≤ m):(if m < MM then cP (if neg = true then -m else m) else bad) = cP (if neg = true then -m else m):=by
 split
 ·rfl
 ·next h=>exact (vh (by split <;> omega)).symm
theorem word_y {F:Nat} (hF:100000 < F) {x:br} (hx:jX x):eF F x = some (match iv x with | some a=>if aK a < 4611686018427387904 then (a,true) else (0,false) | none=>(0,false)):=by
 refine ap.eq ?_
 unfold eF
 refine ap.ax (dL hF hx) ?_
 cases ha:iv x with
 | none=>simp only [b8 ha,Bool.not_false,Bool.true_or,if_true]; exact ap.some rfl
 | some a=>
  obtain ⟨ga,rfl,ra⟩:=bZ hx ha
  obtain ⟨wa,na⟩:=cn ra
  have ia:cM 4294967296 (cP a).W.l:=ba a
  have habs:av (cP a).W = aK a:=wa
  simp only [ga,Bool.not_true,Bool.false_or,na]
  generalize (cP a).W = A at *
  have a0:=ia 0
  have a1:=ia 1
  have e0:dg A.l 0 = A.a0:=rfl
  have e1:dg A.l 1 = A.a1:=rfl
  rw [e0] at a0
  rw [e1] at a1
  have hsum:aK a = A.a0 + A.a1 * 4294967296 + 18446744073709551616 * ds 4294967296 (fun i=>dg A.l (2 + i)) 14:=by
   rw [← habs]
   show ds 4294967296 (dg A.l) (2 + 14) = _
   rw [gg]
   have h2:ds 4294967296 (dg A.l) 2 = A.a0 + A.a1 * 4294967296:=by simp [ds,dg,aU.l]
   rw [h2]
   rfl
  have hrest:=dY (b:=4294967296) (by decide) (f:=fun i=>dg A.l (2 + i)) (n:=14) fun i _=>(ia (2 + i)).1
  refine ap.ite (fun h=>?_) (fun h=>?_)
  ·have h':=of_decide_eq_true h
   refine ap.some ?_
   rw [if_neg (by omega)]
  ·have h':=of_decide_eq_false h
   refine ap.bind (P:=fun r=>match r with | .inl _=>∀ i,i < 14 → dg A.l (2 + i) = 0 | .inr y=>y = (0,false) ∧ ∃ i,i < 14 ∧ dg A.l (2 + i) ≠ 0) (ap.rounds 14 (fun (k:Nat) (s:Int)=>s = ((2 + k:Nat):Int) ∧ ∀ i,i < k → dg A.l (2 + i) = 0) (by omega) ⟨rfl,fun i h=>absurd h (Nat.not_lt_zero i)⟩ ?_) ?_
   ·rintro k i hk ⟨rfl,hz⟩
    refine ap.ite (fun h=>?_) (fun h=>?_)
    ·have hk':k < 14:=by have:=of_decide_eq_true h; omega
     refine ap.idx (by omega) (by rw [aU.ck]; omega) ?_
     simp only [dF,Int.toNat_natCast]
     refine ap.ite (fun h=>?_) (fun h=>?_)
     ·exact ap.some (.inr ⟨_,rfl,rfl,k,hk',of_decide_eq_true h⟩)
     ·have h2:dg A.l (2 + k) = 0:=by have:=of_decide_eq_false h; omega
      refine ap.some (.inl ⟨_,rfl,⟨by rw [cH]; omega,fun i hi=>?_⟩,hk'⟩)
      by_cases e:i = k
      ·rw [e]; exact h2
      ·exact hz i (by omega)
    ·have hk':k = 14:=by have:=of_decide_eq_false h; omega
     subst hk'
     exact ap.some (.inr ⟨_,rfl,hz⟩)
   ·rintro (u | y) h
    ·have hz:ds 4294967296 (fun i=>dg A.l (2 + i)) 14 = 0:=nq h
     rw [hz,Int.mul_zero,Int.add_zero] at hsum
     have hlt:aK a < 4611686018427387904:=by omega
     rw [if_pos hlt]
     refine ap.r4 (A.a1 * 4294967296) (by simp only [cH]; omega) (ap.r4 (aK a) (by simp only [cH]; omega) ?_)
     unfold aK at *
     refine ap.ite (fun h=>?_) (fun h=>?_)
     ·have h1:=of_decide_eq_true h
      rw [if_pos h1] at *
      exact ap.some (by rw [fL (by omega) (by omega),Int.neg_neg])
     ·have h1:=of_decide_eq_false h
      rw [if_neg h1] at *
      exact ap.some rfl
    ·obtain ⟨rfl,i,hi,hne⟩:=h
     refine ap.some ?_
     have:1 ≤ ds 4294967296 (fun i=>dg A.l (2 + i)) 14:=by
      rcases (by omega:ds 4294967296 (fun i=>dg A.l (2 + i)) 14 = 0 ∨ 1 ≤ ds 4294967296 (fun i=>dg A.l (2 + i)) 14) with h | h
      ·have h0:ds 4294967296 (fun i=>dg A.l (2 + i)) 14 = ds 4294967296 (fun _=>0) 14:=by rw [h,nq]; intro _ _; rfl
       exact absurd (AD (by decide) (fun j _=>ia (2 + j)) (fun j _=>by decide) h0 i hi) hne
      ·exact h
     rw [if_neg (by omega)]
theorem w4 {F:Nat} (hF:100000 < F) {n:Int} (h0:-9223372036854775808 ≤ n) (h1:n ≤ 9223372036854775807):gQ F n = some (cP n):=by
 refine ap.eq ?_
 unfold gQ
 refine ap.ite (fun h=>?_) (fun h=>?_)
 ·have h':=of_decide_eq_true h
  refine ap.quo (by decide) (ap.quo (by decide) (ap.quo (by decide) ?_))
  have q1:IntKind.i64.wrap (Int.tdiv n 65536) = n / 65536:=by rw [eo h',cH]; omega
  have q2:IntKind.i64.wrap (Int.tdiv n 4294967296) = n / 4294967296:=by rw [eo h',cH]; omega
  have q3:IntKind.i64.wrap (Int.tdiv n 281474976710656) = n / 281474976710656:=by rw [eo h',cH]; omega
  rw [q1,q2,q3,eR h',eR (by omega),eR (by omega)]
  have hv:lv [n % 65536,n / 65536 % 65536,n / 4294967296 % 65536,n / 281474976710656] = n:=by rw [BP]; omega
  refine ap.ax (we hF false (by simp) (Ce (by omega) (by omega) (by omega) (by omega))) (ap.some ?_)
  rw [hv,yg h']
  simp
 ·have h':=of_decide_eq_false h
  refine ap.r4 (-(n + 1)) (by simp only [cH]; omega) ?_
  have hm:0 ≤ -(n + 1):=by omega
  generalize hmm:-(n + 1) = m at *
  refine ap.quo (by decide) (ap.quo (by decide) (ap.quo (by decide) ?_))
  have q1:IntKind.i64.wrap (Int.tdiv m 65536) = m / 65536:=by rw [eo hm,cH]; omega
  have q2:IntKind.i64.wrap (Int.tdiv m 4294967296) = m / 4294967296:=by rw [eo hm,cH]; omega
  have q3:IntKind.i64.wrap (Int.tdiv m 281474976710656) = m / 281474976710656:=by rw [eo hm,cH]; omega
  rw [q1,q2,q3,eR hm,eR (by omega),eR (by omega)]
  have hv:lv [m % 65536,m / 65536 % 65536,m / 4294967296 % 65536,m / 281474976710656] = m:=by rw [BP]; omega
  refine ap.bind (yc hF (Ce (by omega) (by omega) (by omega) (by omega)) (sN (by decide) (x:=1) (by decide)) (by simp) (by simp)) fun c hc=>?_
  obtain ⟨c1,_,c2,c3⟩:=hc
  rw [hv,vE] at c2
  refine ap.ax (we hF true (by simp at c3; omega) c1) (ap.some ?_)
  rw [c2,yg (by omega)]
  simp only [if_true]
  congr 1
  omega
end Go.Proofs.YtcbbilehdaaffaaGreatDoor
namespace Go.Sk
set_option linter.unusedSimpArgs false
set_option linter.unusedVariables false
def wd:Option Int → Int × Bool
 | some a=>if aK a < 4611686018427387904 then (a,true) else (0,false)
 | none=>(0,false)
theorem kQ {o:Option Int} {p:Int} (h:wd o = (p,true)):o = some p ∧ aK p < 4611686018427387904:=by
 unfold wd at h
 split at h
 ·split at h
  ·next h1=>simp only [Prod.mk.injEq,and_true] at h; subst h; exact ⟨rfl,h1⟩
  ·simp at h
 ·simp at h
theorem fS {a:Int}:aK a = if a < 0 then -a else a:=rfl
theorem vF {l:List Int} (h:cM 65536 l) (i:Nat):dg l i = lv l / 65536 ^ i % 65536:=by
 have h1:=vp (l:=l) (n:=l.length + (i + 1)) (by omega)
 have h2:=Eg (b:=65536) (by decide) (f:=dg l) (n:=l.length + (i + 1)) (i:=i) (by omega) h
 rw [h1] at h2
 exact h2.symm
end Go.Sk
namespace Go.Proofs.YtcbbilehdaaffaaGreatDoor
open Go Go.Sk
set_option linter.unusedSimpArgs false
set_option linter.unusedVariables false
theorem kP {F:Nat} (hF:100000 < F) {x:br} (hx:jX x):eF F x = some (wd (iv x)):=by
 rw [word_y hF hx]
 cases iv x <;> rfl
theorem ji {F:Nat} (hF:100000 < F) {a:Int} (ra:-MM < a ∧ a < MM):ap (bJ F (cP a)) fun c=>cM 65536 c ∧ j2 c ∧ lv c = aK a ∧ c.length ≤ 32:=by
 have h:=E2 hF (ba a)
 rw [(cn ra).1] at h
 exact h
theorem sF {F:Nat} (hF:100000 < F) (neg:Bool) {l:List Int} (hl:l.length ≤ 9999) (hin:cM 65536 l):c5 F neg l = some (cP (if neg = true then -lv l else lv l)):=by
 rw [we hF neg hl hin,yg (fg hin)]
theorem DC {F:Nat} (hF:100000 < F) {x:br} (hx:jX x):nY F x = some (one (fun a=>some (-a)) x):=by
 refine ap.eq ?_
 unfold nY one
 refine ap.ax (dL hF hx) ?_
 cases ha:iv x with
 | none=>simp only [b8 ha,Bool.not_false,if_true]; exact ap.ax (jC F) (ap.some rfl)
 | some a=>
  obtain ⟨ga,rfl,ra⟩:=bZ hx ha
  obtain ⟨wa,na⟩:=cn ra
  simp only [ga,Bool.not_true,Bool.false_eq_true,if_false,ud]
  refine ap.bind (ji hF ra) ?_
  rintro c ⟨c1,_,c2,c3⟩
  refine ap.ax (sF hF _ (by omega) c1) (ap.some ?_)
  rw [c2,na,fS]
  congr 1
  by_cases h:a < 0
  ·simp [h]
  ·simp [h]
theorem rAbs_y {F:Nat} (hF:100000 < F) {x:br} (hx:jX x):qn F x = some (one (fun a=>some (aK a)) x):=by
 refine ap.eq ?_
 unfold qn one
 refine ap.ax (dL hF hx) ?_
 cases ha:iv x with
 | none=>simp only [b8 ha,Bool.not_false,if_true]; exact ap.ax (jC F) (ap.some rfl)
 | some a=>
  obtain ⟨ga,rfl,ra⟩:=bZ hx ha
  simp only [ga,Bool.not_true,Bool.false_eq_true,if_false,ud]
  refine ap.bind (ji hF ra) ?_
  rintro c ⟨c1,_,c2,c3⟩
  refine ap.ax (sF hF _ (by omega) c1) (ap.some ?_)
  rw [c2]
  simp
theorem rAdd_y {F:Nat} (hF:100000 < F) {x y:br} (hx:jX x) (hy:jX y):qm F x y = some (two (fun a b=>some (a + b)) x y):=by
 refine ap.eq ?_
 unfold qm
 refine ap.ax (kP hF hx) ?_
 generalize hp:wd (iv x) = wx
 obtain ⟨p,p'⟩:=wx
 refine ap.ax (kP hF hy) ?_
 generalize hq:wd (iv y) = wy
 obtain ⟨q,q'⟩:=wy
 dsimp only [b9]
 refine ap.ite (fun h=>?_) (fun h=>?_)
 ·have hp':p' = true:=by cases p' <;> simp_all
  have hq':q' = true:=by cases q' <;> simp_all
  subst hp' hq'
  obtain ⟨ha,la⟩:=kQ hp
  obtain ⟨hb,lb⟩:=kQ hq
  have la':-4611686018427387904 < p ∧ p < 4611686018427387904:=by unfold aK at la; split at la <;> omega
  have lb':-4611686018427387904 < q ∧ q < 4611686018427387904:=by unfold aK at lb; split at lb <;> omega
  rw [fL (by omega) (by omega)]
  refine ap.ax (w4 hF (by omega) (by omega)) (ap.some ?_)
  simp only [two,ha,hb,ud]
 ·clear h hp hq
  unfold two
  refine ap.ax (dL hF hx) ?_
  cases ha:iv x with
  | none=>simp only [b8 ha,Bool.not_false,Bool.not_true]; exact ap.g0 rfl (ap.eX (by simp) (ap.ax (jC F) (ap.some rfl)))
  | some a=>
   obtain ⟨ga,rfl,ra⟩:=bZ hx ha
   refine ap.g1 (by rw [ga]; rfl) (ap.ax (dL hF hy) ?_)
   cases hb:iv y with
   | none=>simp only [b8 hb,Bool.not_false,Bool.or_true,if_true]; exact ap.ax (jC F) (ap.some rfl)
   | some b=>
    obtain ⟨gb,rfl,rb⟩:=bZ hy hb
    obtain ⟨wa,na⟩:=cn ra
    obtain ⟨wb,nb⟩:=cn rb
    simp only [ga,gb,Bool.not_true,Bool.or_self,Bool.false_eq_true,if_false,ud,na,nb]
    refine ap.bind (ji hF ra) ?_
    rintro c ⟨c1,c2,c3,c4⟩
    refine ap.bind (ji hF rb) ?_
    rintro d ⟨d1,d2,d3,d4⟩
    refine ap.ite (fun hn=>?_) (fun hn=>?_)
    ·have hn':decide (a < 0) = decide (b < 0):=eq_of_beq hn
     refine ap.bind (yc hF c1 d1 (by omega) (by omega)) ?_
     rintro e ⟨e1,_,e2,e3⟩
     refine ap.ax (sF hF _ (by omega) e1) (ap.some ?_)
     rw [e2,c3,d3,fS,fS]
     congr 1
     by_cases h1:a < 0
     ·have h2:b < 0:=by simpa [h1] using hn'
      simp only [h1,h2,decide_true,if_true]; omega
     ·have h2:¬ b < 0:=by simpa [h1] using hn'
      simp only [h1,h2,decide_false,if_false,Bool.false_eq_true]
    ·have hn':decide (a < 0) ≠ decide (b < 0):=by simpa using hn
     refine ap.ax (xQ hF c1 d1 (by omega) (by omega)) ?_
     refine ap.ite (fun h=>?_) (fun h=>?_)
     ·have h':=of_decide_eq_true h
      refine ap.bind (qg hF d1 c1 (by omega) (by omega) (by omega)) ?_
      rintro e ⟨e1,_,e2,e3⟩
      refine ap.ax (sF hF _ (by omega) e1) (ap.some ?_)
      rw [e2,c3,d3,fS,fS]
      congr 1
      by_cases h1:a < 0
      ·have h2:¬ b < 0:=by simpa [h1] using hn'
       simp only [h1,h2,decide_false,if_true,if_false,Bool.false_eq_true]; omega
      ·have h2:b < 0:=by
        by_cases h2:b < 0
        ·exact h2
        ·exact absurd (by simp [h1,h2]) hn'
       simp only [h1,h2,decide_true,if_true,if_false]; omega
     ·have h':=of_decide_eq_false h
      refine ap.bind (qg hF c1 d1 (by omega) (by omega) (by omega)) ?_
      rintro e ⟨e1,_,e2,e3⟩
      refine ap.ax (sF hF _ (by omega) e1) (ap.some ?_)
      rw [e2,c3,d3,fS,fS]
      congr 1
      by_cases h1:a < 0
      ·have h2:¬ b < 0:=by simpa [h1] using hn'
       simp only [h1,h2,decide_true,if_true,if_false]; omega
      ·have h2:b < 0:=by
        by_cases h2:b < 0
        ·exact h2
        ·exact absurd (by simp [h1,h2]) hn'
       simp only [h1,h2,decide_false,if_true,if_false,Bool.false_eq_true]; omega
theorem rSign_y {F:Nat} (hF:100000 < F) {x:br} (hx:jX x):fO F x = some (match iv x with | some a=>rZ a | none=>0):=by
 refine ap.eq ?_
 unfold fO
 refine ap.ax (dL hF hx) ?_
 cases ha:iv x with
 | none=>simp only [b8 ha]; exact ap.g0 rfl (ap.eX rfl (ap.some rfl))
 | some a=>
  obtain ⟨ga,rfl,ra⟩:=bZ hx ha
  obtain ⟨wa,na⟩:=cn ra
  refine ap.g1 (by rw [ga]; rfl) (ap.bind (ji hF ra) ?_)
  rintro c ⟨c1,c2,c3,c4⟩
  have hl:=ju c1 c2
  have habs:aK a = 0 ↔ a = 0:=by unfold aK; split <;> omega
  simp only [ga,Bool.not_true,Bool.false_or,na]
  unfold rZ
  refine ap.ite (fun h=>?_) (fun h=>?_)
  ·have h':=of_decide_eq_true h
   exact ap.some (by rw [if_pos]; rw [← habs,← c3]; by_cases e:lv c = 0; exact e; have:=hl.2 e; omega)
  ·have h':=of_decide_eq_false h
   have h0:a ≠ 0:=fun e=>by
    have:=hl.1 (by omega)
    rw [c3] at this
    exact this (habs.2 e)
   refine ap.ite (fun h=>?_) (fun h=>?_)
   ·have:=of_decide_eq_true h; exact ap.some (by rw [if_neg h0,if_pos this])
   ·have:=of_decide_eq_false h; exact ap.some (by rw [if_neg h0,if_neg this])
theorem xO {F:Nat} (hF:100000 < F) {x y:br} (hx:jX x) (hy:jX y):mr F x y = some (match iv x,iv y with | some a,some b=>lM a b | none,some _=>-1 | some _,none=>1 | none,none=>0):=by
 refine ap.eq ?_
 unfold mr
 refine ap.ax (dL hF hx) ?_
 cases ha:iv x with
 | none=>
  simp only [b8 ha]
  refine ap.g1 rfl (ap.ax (dL hF hy) ?_)
  cases hb:iv y with
  | none=>simp only [b8 hb]; exact ap.eX rfl (ap.some rfl)
  | some b=>
   obtain ⟨gb,rfl,rb⟩:=bZ hy hb
   simp only [gb]
   refine ap.iff rfl (ap.ax (dL hF hx) ?_)
   rw [b8 ha]
   exact ap.eX rfl (ap.some rfl)
 | some a=>
  obtain ⟨ga,rfl,ra⟩:=bZ hx ha
  simp only [ga]
  refine ap.g0 rfl (ap.iff rfl (ap.ax (dL hF hx) ?_))
  rw [ga]
  refine ap.iff rfl (ap.ax (dL hF hy) ?_)
  cases hb:iv y with
  | none=>simp only [b8 hb]; exact ap.eX rfl (ap.some rfl)
  | some b=>
   obtain ⟨gb,rfl,rb⟩:=bZ hy hb
   obtain ⟨wa,na⟩:=cn ra
   obtain ⟨wb,nb⟩:=cn rb
   simp only [gb,na,nb]
   refine ap.iff rfl ?_
   unfold lM
   refine ap.ite (fun h=>?_) (fun h=>?_)
   ·refine ap.ite (fun h1=>?_) (fun h1=>?_)
    ·have h1':=of_decide_eq_true h1
     have h2:¬ b < 0:=fun h2=>by simp [h1',h2] at h
     exact ap.some (by rw [if_pos (by omega)])
    ·have h1':=of_decide_eq_false h1
     have h2:b < 0:=by
      rcases (by omega:b < 0 ∨ 0 ≤ b) with h2 | h2
      ·exact h2
      ·have h3:¬ b < 0:=by omega
       simp [h1',h3] at h
     exact ap.some (by rw [if_neg (by omega),if_pos (by omega)])
   ·refine ap.bind (ji hF ra) ?_
    rintro c ⟨c1,c2,c3,c4⟩
    refine ap.bind (ji hF rb) ?_
    rintro d ⟨d1,d2,d3,d4⟩
    refine ap.bind (P:=fun p=>cM 65536 p.1 ∧ cM 65536 p.2 ∧ p.1.length ≤ 32 ∧ p.2.length ≤ 32 ∧ (lv p.1 < lv p.2 ↔ a < b) ∧ (lv p.2 < lv p.1 ↔ b < a)) ?_ ?_
    ·refine ap.ite (fun h1=>?_) (fun h1=>?_)
     ·have h1':=of_decide_eq_true h1
      have h2:b < 0:=by
       rcases (by omega:b < 0 ∨ 0 ≤ b) with h2 | h2
       ·exact h2
       ·have h3:¬ b < 0:=by omega
        simp [h1',h3] at h
      refine ap.bind (ji hF rb) ?_
      rintro d ⟨d1,d2,d3,d4⟩
      refine ap.bind (ji hF ra) ?_
      rintro c ⟨c1,c2,c3,c4⟩
      refine ap.some ⟨d1,c1,d4,c4,?_,?_⟩
      ·dsimp only; rw [c3,d3,fS,fS,if_pos h1',if_pos h2]; omega
      ·dsimp only; rw [c3,d3,fS,fS,if_pos h1',if_pos h2]; omega
     ·have h1':=of_decide_eq_false h1
      have h2:¬ b < 0:=fun h2=>by simp [h1',h2] at h
      refine ap.some ⟨c1,d1,c4,d4,?_,?_⟩
      ·dsimp only; rw [c3,d3,fS,fS,if_neg h1',if_neg h2]
      ·dsimp only; rw [c3,d3,fS,fS,if_neg h1',if_neg h2]
    ·rintro ⟨u,v⟩ ⟨u1,v1,lu,lv',e1,e2⟩
     dsimp only at u1 v1 lu lv' e1 e2
     dsimp only [b9]
     refine ap.ax (xQ hF u1 v1 (by omega) (by omega)) (ap.ax (xQ hF v1 u1 (by omega) (by omega)) ?_)
     simp only [e1,e2]
     refine ap.ite (fun h=>?_) (fun h=>?_)
     ·exact ap.some (by rw [if_pos (of_decide_eq_true h)])
     ·refine ap.ite (fun h3=>?_) (fun h3=>?_)
      ·exact ap.some (by rw [if_neg (of_decide_eq_false h),if_pos (of_decide_eq_true h3)])
      ·exact ap.some (by rw [if_neg (of_decide_eq_false h),if_neg (of_decide_eq_false h3)])
end Go.Proofs.YtcbbilehdaaffaaGreatDoor
namespace Go.Sk
set_option linter.unusedSimpArgs false
set_option linter.unusedVariables false
end Go.Sk
namespace Go.Proofs.YtcbbilehdaaffaaGreatDoor
open Go Go.Sk
set_option linter.unusedSimpArgs false
set_option linter.unusedVariables false
end Go.Proofs.YtcbbilehdaaffaaGreatDoor
namespace Go.Sk
set_option linter.unusedSimpArgs false
set_option linter.unusedVariables false
theorem ds_setl {b:Int} {l:List Int} {k n:Nat} {x:Int} (hk:k < n) (hl:k < l.length):ds b (dg (l.set k x)) n = ds b (dg l) n + (x - dg l k) * b ^ k:=by
 obtain ⟨m,rfl⟩:∃ m,n = k + 1 + m:=⟨n - k - 1,by omega⟩
 have e1:ds b (dg (l.set k x)) (k + 1) = ds b (dg l) k + x * b ^ k:=x7 fun i=>gP hl
 have e2:ds b (fun i=>dg (l.set k x) (k + 1 + i)) m = ds b (fun i=>dg l (k + 1 + i)) m:=dy fun i _=>by rw [gP hl,if_neg (by omega)]
 rw [gg b _ (k + 1),gg b _ (k + 1),e1,e2,dm]
 grind
theorem set_inl {b:Int} {l:List Int} {k:Nat} {x:Int} (hl:k < l.length) (h:cM b l) (hx:0 ≤ x ∧ x < b):cM b (l.set k x):=fun i=>by
 rw [gP hl]; split
 ·exact hx
 ·exact h i
theorem DA (n:Nat):cM 65536 (List.replicate n 0):=fun i=>by rw [dj]; decide
theorem lv_rep (n:Nat):lv (List.replicate n 0) = 0:=nq fun i _=>dj
theorem mul_fit {x y:Int} (hx:0 ≤ x ∧ x < 65536) (hy:0 ≤ y ∧ y < 65536):0 ≤ x * y ∧ x * y ≤ 4294836225:=by
 have:=l7 hx hy
 exact this
end Go.Sk
namespace Go.Proofs.YtcbbilehdaaffaaGreatDoor
open Go Go.Sk
set_option linter.unusedSimpArgs false
set_option linter.unusedVariables false
theorem Bx {F:Nat} (hF:100000 < F) {a b:List Int} (ha:cM 65536 a) (hb:cM 65536 b) (la:a.length ≤ 9999) (lb:b.length ≤ 9999) :
  ap (kI F a b) fun c=>cM 65536 c ∧ j2 c ∧ lv c = lv a * lv b ∧ c.length ≤ a.length + b.length + 1:=by
 unfold kI
 obtain ⟨n,hn⟩:∃ n:Nat,n = a.length + b.length + 1:=⟨_,rfl⟩
 refine ap.r4 ((a.length + b.length:Nat):Int) (by rw [cH]; omega) ?_
 have hw:IntKind.i64.wrap (((a.length + b.length:Nat):Int) + 1) = (n:Int):=by rw [cH]; omega
 rw [hw]
 have hmk:CW (0:Int) (n:Int) (n:Int) = some (List.replicate n 0):=by
  unfold CW
  rw [if_pos (by omega),Int.toNat_natCast]
 refine ap.ax hmk ?_
 refine ap.bind (P:=fun o=>cM 65536 o ∧ o.length = n ∧ lv o = lv a * lv b) (ap.rounds a.length (fun k s=>s.2 = (k:Int) ∧ cM 65536 s.1 ∧ s.1.length = n ∧ lv s.1 = ds 65536 (dg a) k * lv b) (by omega) ⟨rfl,DA n,by simp,by rw [lv_rep]; simp [ds]⟩ ?_) ?_
 ·rintro i ⟨o,ix⟩ hi ⟨rfl,oin,ol,os⟩
  dsimp only at oin ol os
  dsimp only [b9]
  refine ap.ite (fun h=>?_) (fun h=>?_)
  ·have hi':i < a.length:=by have:=of_decide_eq_true h; omega
   have hai:=ha i
   refine ap.bind (P:=fun o=>cM 65536 o ∧ o.length = n ∧ lv o = ds 65536 (dg a) (i + 1) * lv b) ?_ ?_
   ·refine ap.bind (P:=fun p=>(∀ j,0 ≤ dg p j ∧ dg p j < 4294967296) ∧ p.length = n ∧ ds 65536 (dg p) n = ds 65536 (dg a) (i + 1) * lv b) (ap.rounds b.length (fun k s=>s.2 = (k:Int) ∧ (∀ j,0 ≤ dg s.1 j ∧ dg s.1 j < 4294967296) ∧ (∀ j,i + k ≤ j → dg s.1 j < 65536) ∧ s.1.length = n ∧ ds 65536 (dg s.1) n = ds 65536 (dg a) i * lv b + dg a i * 65536 ^ i * ds 65536 (dg b) k) (by omega) ⟨rfl,fun j=>⟨(oin j).1,by have:=(oin j).2; dsimp only; omega⟩,fun j _=>(oin j).2,ol,?_⟩ ?_) ?_
    ·dsimp only
     rw [← ol]
     show lv o = _
     rw [os]; simp [ds]
    ·rintro k ⟨p,kx⟩ hk ⟨rfl,pin,phi,pl,ps⟩
     dsimp only at pin phi pl ps
     dsimp only [b9]
     refine ap.ite (fun h=>?_) (fun h=>?_)
     ·have hk':k < b.length:=by have:=of_decide_eq_true h; omega
      have hbk:=hb k
      have hwi:IntKind.i64.wrap ((i:Int) + (k:Int)) = ((i + k:Nat):Int):=by rw [cH]; omega
      rw [hwi]
      refine ap.idx (by omega) (by omega) (ap.idx (by omega) (by omega) (ap.idx (by omega) (by omega) (ap.idx (by omega) (by omega) ?_)))
      simp only [dF,Int.toNat_natCast]
      have hm:=mul_fit hai hbk
      have hp:=pin (i + k)
      have hp2:=phi (i + k) (by omega)
      have e1:IntKind.i64.wrap (dg p (i + k) + IntKind.i64.wrap (dg a i * dg b k)) = dg p (i + k) + dg a i * dg b k:=by
       rw [fL (z:=dg a i * dg b k) (by omega) (by omega),fL (by omega) (by omega)]
      rw [e1]
      refine ap.some (.inl ⟨_,rfl,⟨by dsimp only; rw [cH]; omega,fun j=>?_,fun j hj=>?_,by simp [pl],?_⟩,hk'⟩)
      ·dsimp only
       rw [gP (by omega)]
       split
       ·omega
       ·exact pin j
      ·dsimp only
       rw [gP (by omega),if_neg (by omega)]
       exact phi j (by omega)
      ·dsimp only
       rw [ds_setl (by omega) (by omega),ps,dm]
       have:(65536:Int) ^ (i + k) = 65536 ^ i * 65536 ^ k:=Int.pow_add _ _ _
       grind
     ·have hk':k = b.length:=by have:=of_decide_eq_false h; omega
      subst hk'
      refine ap.some (.inr ⟨_,rfl,pin,pl,?_⟩)
      rw [ps,dm]
      have:ds 65536 (dg b) b.length = lv b:=rfl
      rw [this]
      grind
    ·rintro p ⟨pin,pl,ps⟩
     have htot:ds 65536 (dg a) (i + 1) * lv b < 65536 ^ n:=by
      have h1:=pS (b:=65536) (by decide) (f:=dg a) (n:=i + 1) fun j _=>ha j
      have h2:=ui hb
      have h3:=fg hb
      have h4:=dY (b:=65536) (by decide) (f:=dg a) (n:=i + 1) fun j _=>(ha j).1
      have h5:ds 65536 (dg a) (i + 1) * lv b ≤ 65536 ^ (i + 1) * 65536 ^ b.length:=Int.mul_le_mul (by omega) (by omega) h3 (by omega)
      rw [← Int.pow_add] at h5
      have h6:(65536:Int) ^ (i + 1 + b.length) < 65536 ^ n:=by
       have h7:(65536:Int) ^ (i + 1 + b.length + 1) ≤ 65536 ^ n:=qp (by omega)
       have h8:(0:Int) < 65536 ^ (i + 1 + b.length):=Int.pow_pos (by decide)
       rw [Int.pow_succ] at h7
       omega
      omega
     refine ap.bind (P:=fun o=>cM 65536 o ∧ o.length = n ∧ lv o = ds 65536 (dg a) (i + 1) * lv b) (ap.rounds n (fun k s=>s.2.2 = (k:Int) ∧ 0 ≤ s.2.1 ∧ s.2.1 < 4294967296 ∧ (∀ j,0 ≤ dg s.1 j) ∧ (∀ j,j < k → dg s.1 j < 65536) ∧ (∀ j,k ≤ j → dg s.1 j = dg p j) ∧ s.1.length = n ∧ ds 65536 (dg s.1) k + s.2.1 * 65536 ^ k = ds 65536 (dg p) k) (by omega) ⟨rfl,Int.le_refl _,(by decide:(0:Int) < 4294967296),fun j=>(pin j).1,fun j h=>absurd h (Nat.not_lt_zero j),fun j _=>rfl,pl,by simp [ds]⟩ ?_) ?_
     ·rintro k ⟨o,c,kx⟩ hk ⟨rfl,c0,c1,o0,olo,ohi,ol,os⟩
      dsimp only at c0 c1 o0 olo ohi ol os
      dsimp only [ky]
      refine ap.ite (fun h=>?_) (fun h=>?_)
      ·have hk':k < n:=by have:=of_decide_eq_true h; omega
       have hpk:=pin k
       have hok:=ohi k (Nat.le_refl k)
       refine ap.idx (by omega) (by omega) ?_
       simp only [dF,Int.toNat_natCast,hok]
       rw [fL (by omega) (by omega),eR (by omega)]
       refine ap.ln (ap.idx (by omega) (by omega) (ap.quo (by decide) (ap.some (.inl ⟨_,rfl,?_,hk'⟩))))
       rw [eo (by omega)]
       have hq:IntKind.i64.wrap ((dg p k + c) / 65536) = (dg p k + c) / 65536:=by rw [cH]; omega
       rw [hq]
       dsimp only
       refine ⟨by rw [cH]; omega,by omega,by omega,fun j=>?_,fun j hj=>?_,fun j hj=>?_,by simp [ol],?_⟩
       ·rw [gP (by omega)]
        split
        ·omega
        ·exact o0 j
       ·rw [gP (by omega)]
        split
        ·omega
        ·exact olo j (by omega)
       ·rw [gP (by omega),if_neg (by omega)]; exact ohi j (by omega)
       ·have e1:ds 65536 (dg (o.set k ((dg p k + c) % 65536))) (k + 1) = ds 65536 (dg o) k + (dg p k + c) % 65536 * 65536 ^ k:=x7 fun i=>gP (by omega)
        rw [e1,dm,← os,Int.pow_succ]
        have e2:dg p k + c = (dg p k + c) % 65536 + (dg p k + c) / 65536 * 65536:=by omega
        generalize (dg p k + c) % 65536 = u at *
        generalize (dg p k + c) / 65536 = v at *
        have e3:dg p k = u + v * 65536 - c:=by omega
        rw [e3]
        grind
      ·have hk':k = n:=by have:=of_decide_eq_false h; omega
       subst hk'
       have oin':cM 65536 o:=fun j=>by
        by_cases hj:j < k
        ·exact ⟨o0 j,olo j hj⟩
        ·rw [pU (by omega)]; decide
       refine ap.some (.inr ⟨_,rfl,oin',ol,?_⟩)
       have hlo:=dY (b:=65536) (by decide) (f:=dg o) (n:=k) fun j _=>o0 j
       have hpw:(0:Int) < 65536 ^ k:=Int.pow_pos (by decide)
       rw [ps] at os
       have hc:c = 0:=by
        rcases (by omega:c = 0 ∨ 1 ≤ c) with h | h
        ·exact h
        ·have:1 * (65536:Int) ^ k ≤ c * 65536 ^ k:=Int.mul_le_mul_of_nonneg_right h (by omega)
         omega
       subst hc
       have:lv o = ds 65536 (dg o) k:=(vp (by omega)).symm
       omega
     ·rintro o ho
      exact ap.some ho
   ·rintro o ⟨o1,o2,o3⟩
    exact ap.some (.inl ⟨_,rfl,⟨by dsimp only; rw [cH]; omega,o1,o2,o3⟩,hi'⟩)
  ·have hi':i = a.length:=by have:=of_decide_eq_false h; omega
   subst hi'
   exact ap.some (.inr ⟨_,rfl,oin,ol,os⟩)
 ·rintro o ⟨oin,ol,os⟩
  refine ap.bind (pX (by omega) (by omega) oin) fun c hc=>ap.some ⟨hc.1,hc.2.1,by rw [hc.2.2.1,os],by have:=hc.2.2.2; omega⟩
end Go.Proofs.YtcbbilehdaaffaaGreatDoor
namespace Go.Sk
set_option linter.unusedSimpArgs false
set_option linter.unusedVariables false
theorem lv_cons (x:Int) (l:List Int):lv (x :: l) = x + 65536 * lv l:=by
 unfold lv
 rw [List.length_cons,ki]
 rfl
theorem cons_in {x:Int} {l:List Int} (hx:0 ≤ x ∧ x < 65536) (h:cM 65536 l):cM 65536 (x :: l):=fun i=>by
 cases i with
 | zero=>exact hx
 | succ i=>exact h i
theorem top3 {l:List Int} {n:Nat} (h:cM 65536 l) (hv:lv l < 65536 ^ (n + 3)):dg l (n + 2) * 4294967296 + dg l (n + 1) * 65536 + dg l n = lv l / 65536 ^ n:=by
 have h0:=fg h
 have hp:(0:Int) < 65536 ^ n:=Int.pow_pos (by decide)
 obtain ⟨X,hX⟩:∃ X,X = lv l / 65536 ^ n:=⟨_,rfl⟩
 have e1:lv l / 65536 ^ (n + 1) = X / 65536:=by rw [Int.pow_succ,← Int.ediv_ediv_of_nonneg (Int.le_of_lt hp),hX]
 have e2:lv l / 65536 ^ (n + 2) = X / 65536 / 65536:=by rw [show n + 2 = (n + 1) + 1 from rfl,Int.pow_succ,← Int.ediv_ediv_of_nonneg (Int.le_of_lt (Int.pow_pos (by decide))),e1]
 have hX0:0 ≤ X:=by rw [hX]; exact Int.ediv_nonneg h0 (Int.le_of_lt hp)
 have hX1:X < 281474976710656:=by
  rw [hX,Int.ediv_lt_iff_lt_mul hp]
  have:(65536:Int) ^ (n + 3) = 281474976710656 * 65536 ^ n:=by rw [Int.pow_add,Int.mul_comm]; rfl
  omega
 rw [vF h,vF h,vF h,e1,e2,← hX]
 omega
theorem top2 {l:List Int} {n:Nat} (h:cM 65536 l) (hv:lv l < 65536 ^ (n + 2)):dg l (n + 1) * 65536 + dg l n = lv l / 65536 ^ n:=by
 have h0:=fg h
 have hp:(0:Int) < 65536 ^ n:=Int.pow_pos (by decide)
 obtain ⟨X,hX⟩:∃ X,X = lv l / 65536 ^ n:=⟨_,rfl⟩
 have e1:lv l / 65536 ^ (n + 1) = X / 65536:=by rw [Int.pow_succ,← Int.ediv_ediv_of_nonneg (Int.le_of_lt hp),hX]
 have hX0:0 ≤ X:=by rw [hX]; exact Int.ediv_nonneg h0 (Int.le_of_lt hp)
 have hX1:X < 4294967296:=by
  rw [hX,Int.ediv_lt_iff_lt_mul hp]
  have:(65536:Int) ^ (n + 2) = 4294967296 * 65536 ^ n:=by rw [Int.pow_add,Int.mul_comm]; rfl
  omega
 rw [vF h,vF h,e1,← hX]
 omega
theorem est_ge {t B R P:Int} (hP:0 < P) (h0:0 ≤ t) (h:t * B ≤ R):t * (B / P) ≤ R / P:=by
 rw [Int.le_ediv_iff_mul_le hP,Int.mul_assoc]
 have:=Int.ediv_mul_le B (by omega:P ≠ 0)
 have:=Int.mul_le_mul_of_nonneg_left this h0
 omega
end Go.Sk
namespace Go.Proofs.YtcbbilehdaaffaaGreatDoor
open Go Go.Sk
set_option linter.unusedSimpArgs false
set_option linter.unusedVariables false
theorem at_y (F:Nat) (l:List Int) (k:Int):nc F l k = some (if k < 0 then 0 else dg l k.toNat):=by
 refine ap.eq ?_
 unfold nc
 refine ap.ite (fun h=>?_) (fun h=>?_)
 ·have:=of_decide_eq_true h; rw [if_pos this]; exact ap.some rfl
 ·have:=of_decide_eq_false h; rw [if_neg this]; exact ap.ax (nu F (by omega)) (ap.some rfl)
theorem est {B R t:Int} {b r:List Int} (hb:cM 65536 b) (hr:cM 65536 r) (htb:j2 b) (h0:0 < b.length) (hB:lv b = B) (hR:lv r = R) (hlt:R < 65536 * B) (ht0:0 ≤ t) (ht:t * B ≤ R) :
    t ≤ (dg r b.length * 4294967296 + dg r (b.length - 1) * 65536 + (if (b.length:Int) - 2 < 0 then 0 else dg r (b.length - 2))) / (dg b (b.length - 1) * 65536 + (if (b.length:Int) - 2 < 0 then 0 else dg b (b.length - 2))) ∧ 0 < dg b (b.length - 1) * 65536 + (if (b.length:Int) - 2 < 0 then 0 else dg b (b.length - 2)):=by
  have htop:=htb h0
  have hb1:=hb (b.length - 1)
  have hb2:=hb (b.length - 2)
  have hBl:=ui hb
  rw [hB] at hBl
  have hpos:0 < dg b (b.length - 1) * 65536 + (if (b.length:Int) - 2 < 0 then 0 else dg b (b.length - 2)):=by split <;> omega
  refine ⟨?_,hpos⟩
  rw [Int.le_ediv_iff_mul_le hpos]
  generalize hL:b.length = L at *
  by_cases h1:L = 1
  · subst h1
    have e1:lv b = dg b 0:=by unfold lv; rw [hL]; simp [ds]
    have hR2:lv r < 65536 ^ 2:=by rw [hR]; have:(65536:Int) ^ 2 = 65536 * 65536:=by decide
                                  have:(65536:Int) ^ 1 = 65536:=by decide
                                  omega
    have e2:dg r 1 * 65536 + dg r 0 = lv r / 65536 ^ 0:=top2 hr hR2
    have e3:lv r / 65536 ^ 0 = R:=by rw [hR]; simp
    have g1:(((1:Nat):Int) - 2 < 0):=by decide
    rw [if_pos g1,if_pos g1]
    show t * (dg b 0 * 65536 + 0) ≤ dg r 1 * 4294967296 + dg r 0 * 65536 + 0
    rw [Int.add_zero,Int.add_zero,← Int.mul_assoc,← e1,hB]
    omega
  · obtain ⟨m,hm⟩:∃ m,L = m + 2:=⟨L - 2,by omega⟩
    subst hm
    have g1:¬ (((m + 2:Nat):Int) - 2 < 0):=by omega
    rw [if_neg g1,if_neg g1]
    have hp:(0:Int) < 65536 ^ m:=Int.pow_pos (by decide)
    have hR2:lv r < 65536 ^ (m + 3):=by
      have:(65536:Int) ^ (m + 3) = 65536 ^ (m + 2) * 65536:=Int.pow_succ _ _
      omega
    have e1:=top3 hr hR2
    have e2:=top2 hb (by rw [hB]; exact hBl)
    show t * (dg b (m + 1) * 65536 + dg b m) ≤ dg r (m + 2) * 4294967296 + dg r (m + 1) * 65536 + dg r m
    rw [e1,e2,hB,hR]
    exact est_ge hp ht0 ht
theorem wj {F:Nat} (hF:100000 < F) {a b:List Int} (ha:cM 65536 a) (hb:cM 65536 b) (htb:j2 b) (h0:0 < b.length) (la:a.length ≤ 999) (lb:b.length ≤ 999) :
  ap (iO F a b) fun p=>(cM 65536 p.1 ∧ j2 p.1 ∧ p.1.length ≤ a.length) ∧ (cM 65536 p.2 ∧ j2 p.2 ∧ p.2.length ≤ b.length) ∧ lv a = lv p.1 * lv b + lv p.2 ∧ lv p.2 < lv b:=by
 unfold iO
 have hBpos:0 < lv b:=by have:=ju hb htb; have:=fg hb; omega
 have hBl:=ui hb
 have hmk:CW (0:Int) (a.length:Int) (a.length:Int) = some (List.replicate a.length 0):=by
  unfold CW
  rw [if_pos (by omega),Int.toNat_natCast]
 refine ap.ax hmk ?_
 have hw1:IntKind.i64.wrap ((b.length:Int) - 1) = ((b.length - 1:Nat):Int):=by rw [cH]; omega
 have hw2:IntKind.i64.wrap ((b.length:Int) - 2) = (b.length:Int) - 2:=by rw [cH]; omega
 have hw3:IntKind.i64.wrap ((a.length:Int) - 1) = (a.length:Int) - 1:=by rw [cH]; omega
 rw [hw1,hw2,hw3]
 refine ap.idx (by omega) (by omega) (ap.ax (at_y F b _) ?_)
 simp only [dF,Int.toNat_natCast]
 have t2:((b.length:Int) - 2).toNat = b.length - 2:=by omega
 rw [t2]
 refine ap.bind (P:=fun p=>(cM 65536 p.1 ∧ p.1.length = a.length) ∧ (cM 65536 p.2 ∧ j2 p.2 ∧ p.2.length ≤ b.length) ∧ lv a = lv p.1 * lv b + lv p.2 ∧ lv p.2 < lv b)
  (ap.rounds a.length (fun (k:Nat) (s:List Int × List Int × Int)=>s.2.2 = (a.length:Int) - 1 - (k:Int) ∧ (cM 65536 s.1 ∧ s.1.length = a.length) ∧ (cM 65536 s.2.1 ∧ j2 s.2.1) ∧ ds 65536 (fun i=>dg a (a.length - k + i)) k = ds 65536 (fun i=>dg s.1 (a.length - k + i)) k * lv b + lv s.2.1 ∧ lv s.2.1 < lv b ∧ ∀ i,i < a.length - k → dg s.1 i = 0) (by omega) ?_ ?_) ?_
 ·refine ⟨by dsimp only; omega,⟨DA _,by simp⟩,⟨xP,fun h=>absurd h (Nat.lt_irrefl 0)⟩,?_,?_,fun i _=>dj⟩
  ·dsimp only
   rw [DK]
   simp [ds]
  ·dsimp only
   rw [DK]; exact hBpos
 ·rintro k ⟨q,r,kx⟩ hk ⟨rfl,⟨qin,ql⟩,⟨rin,rt⟩,hs,hlt,qz⟩
  dsimp only at qin ql rin rt hs hlt qz
  dsimp only [ky]
  have hrl:r.length ≤ b.length:=u5 rin rt (by omega)
  refine ap.ite (fun h=>?_) (fun h=>?_)
  ·have hk':k < a.length:=by have:=of_decide_eq_true h; omega
   have et:((a.length:Int) - 1 - (k:Int)).toNat = a.length - 1 - k:=by omega
   have hai:=ha (a.length - 1 - k)
   obtain ⟨R,hR⟩:∃ R,R = dg a (a.length - 1 - k) + 65536 * lv r:=⟨_,rfl⟩
   have hr0:=fg rin
   have hR0:0 ≤ R:=by omega
   have hRlt:R < 65536 * lv b:=by omega
   obtain ⟨t,htd⟩:∃ t,t = R / lv b:=⟨_,rfl⟩
   have htB:t * lv b ≤ R:=by rw [htd]; exact Int.ediv_mul_le _ (by omega)
   have htB2:R < (t + 1) * lv b:=by rw [htd]; exact Int.lt_ediv_add_one_mul_self _ hBpos
   have ht0:0 ≤ t:=by rw [htd]; exact Int.ediv_nonneg hR0 (by omega)
   have ht1:t < 65536:=by rw [htd,Int.ediv_lt_iff_lt_mul hBpos]; exact hRlt
   refine ap.bind (P:=fun p=>p.1 = q.set (a.length - 1 - k) t ∧ cM 65536 p.2 ∧ j2 p.2 ∧ lv p.2 = R - t * lv b) ?_ ?_
   ·refine ap.idx (by omega) (by omega) ?_
    simp only [dF,et]
    refine ap.rD (by simp; omega) ?_
    have hcin:cM 65536 ([dg a (a.length - 1 - k)] ++ r):=cons_in hai rin
    have hcv:lv ([dg a (a.length - 1 - k)] ++ r) = R:=by rw [hR]; exact lv_cons _ _
    refine ap.bind (pX (by simp; omega) (by simp; omega) hcin) ?_
    rintro c ⟨cin,ct,cv,cl⟩
    rw [hcv] at cv
    have clen:c.length ≤ b.length + 1:=u5 cin ct (by rw [cv,Int.pow_succ]; omega)
    have he:=est hb cin htb h0 rfl cv hRlt ht0 htB
    refine ap.ax (at_y F c _) (ap.ln (ap.ax (at_y F c _) ?_))
    rw [if_neg (by omega),if_neg (by omega),Int.toNat_natCast,Int.toNat_natCast]
    have c1:=cin b.length
    have c2:=cin (b.length - 1)
    have c3:=cin (b.length - 2)
    have b1:=hb (b.length - 1)
    have b2:=hb (b.length - 2)
    refine ap.r4 (dg c b.length * 4294967296 + dg c (b.length - 1) * 65536) (by simp only [cH]; omega) (ap.ln (ap.ax (at_y F c _) ?_))
    rw [t2]
    generalize hg1:(if (b.length:Int) - 2 < 0 then 0 else dg c (b.length - 2)) = x3 at *
    generalize hg2:(if (b.length:Int) - 2 < 0 then 0 else dg b (b.length - 2)) = y3 at *
    have hx3:0 ≤ x3 ∧ x3 < 65536:=by rw [← hg1]; split <;> omega
    have hy3:0 ≤ y3 ∧ y3 < 65536:=by rw [← hg2]; split <;> omega
    refine ap.r4 (dg b (b.length - 1) * 65536 + y3) (by simp only [cH]; omega) (ap.quo (by omega) ?_)
    have hnw:IntKind.i64.wrap (dg c b.length * 4294967296 + dg c (b.length - 1) * 65536 + x3) = dg c b.length * 4294967296 + dg c (b.length - 1) * 65536 + x3:=by rw [cH]; omega
    rw [hnw]
    generalize hnum:dg c b.length * 4294967296 + dg c (b.length - 1) * 65536 + x3 = num at *
    have hnum0:0 ≤ num ∧ num < 281474976710656:=by omega
    rw [eo hnum0.1]
    generalize hden:dg b (b.length - 1) * 65536 + y3 = den at *
    have hq0:0 ≤ num / den:=Int.ediv_nonneg hnum0.1 (by omega)
    have hq1:num / den ≤ num:=Int.ediv_le_self _ hnum0.1
    rw [fL (by omega) (by omega)]
    obtain ⟨d,hd⟩:∃ d,d = min 65535 (num / den):=⟨_,rfl⟩
    have hd0:t ≤ d ∧ d ≤ 65535:=by omega
    rw [← hd]
    refine ap.bind (Bx hF hb (sN (by decide) (x:=d) (by omega)) (by omega) (by simp)) ?_
    rintro p0 ⟨p0in,p0t,p0v,p0l⟩
    rw [vE] at p0v
    refine ap.bind (P:=fun p=>p.1 = t ∧ cM 65536 p.2 ∧ p.2.length ≤ 9999 ∧ lv p.2 = t * lv b) (ap.loop (fun (s:Int × List Int)=>t ≤ s.1 ∧ s.1 ≤ 65535 ∧ cM 65536 s.2 ∧ s.2.length ≤ 9999 ∧ lv s.2 = s.1 * lv b) (fun s=>(s.1 - t).toNat) ⟨hd0.1,hd0.2,p0in,by simp at p0l; dsimp only; omega,by rw [p0v,Int.mul_comm]⟩ (by dsimp only; omega) ?_) ?_
    ·rintro ⟨d,pt⟩ ⟨d1,d2,pin,pl,pv⟩
     dsimp only at d1 d2 pin pl pv
     dsimp only [b9]
     refine ap.ax (xQ hF cin pin (by omega) pl) ?_
     rw [cv,pv]
     refine ap.ite (fun h=>?_) (fun h=>?_)
     ·have h':=of_decide_eq_true h
      have hdt:t < d:=by
       rcases (by omega:d = t ∨ t < d) with e | e
       ·subst e; omega
       ·exact e
      have hbd:lv b ≤ d * lv b:=by
       have:=Int.mul_le_mul_of_nonneg_right (show 1 ≤ d by omega) (show 0 ≤ lv b by omega)
       omega
      refine ap.bind (qg hF pin hb pl (by omega) (by rw [pv]; exact hbd)) ?_
      rintro e ⟨e1,e2,e3,e4⟩
      have hwd:IntKind.i64.wrap (d - 1) = d - 1:=by rw [cH]; omega
      rw [hwd]
      refine ap.some (.inl ⟨_,rfl,⟨by dsimp only; omega,by dsimp only; omega,e1,by dsimp only; omega,?_⟩,by dsimp only; omega⟩)
      dsimp only
      rw [e3,pv,Int.sub_mul,Int.one_mul]
     ·have h':=of_decide_eq_false h
      have hdt:d = t:=by
       rcases (by omega:d = t ∨ t + 1 ≤ d) with e | e
       ·exact e
       ·have:=Int.mul_le_mul_of_nonneg_right e (show 0 ≤ lv b by omega)
        omega
      subst hdt
      exact ap.some (.inr ⟨_,rfl,rfl,pin,pl,pv⟩)
    ·rintro ⟨d,pt⟩ ⟨rfl,pin,pl,pv⟩
     dsimp only at pin pl pv
     dsimp only [b9]
     refine ap.idx (by omega) (by omega) (ap.bind (qg hF cin pin (by omega) pl (by rw [cv,pv]; exact htB)) ?_)
     rintro e ⟨e1,e2,e3,e4⟩
     exact ap.some ⟨rfl,e1,e2,by rw [e3,cv,pv]⟩
   ·rintro ⟨q1,r1⟩ ⟨rfl,r1in,r1t,r1v⟩
    dsimp only at r1in r1t r1v
    dsimp only [b9]
    refine ap.some (.inl ⟨_,rfl,⟨by dsimp only; rw [cH]; omega,⟨set_inl (by omega) qin ⟨ht0,ht1⟩,by simp [ql]⟩,⟨r1in,r1t⟩,?_,?_,fun i hi=>?_⟩,hk'⟩)
    ·dsimp only
     have ea:∀ (f:Nat → Int),ds 65536 (fun i=>f (a.length - (k + 1) + i)) (k + 1) = f (a.length - 1 - k) + 65536 * ds 65536 (fun i=>f (a.length - k + i)) k:=fun f=>by
      rw [ki]
      have e1:a.length - (k + 1) + 0 = a.length - 1 - k:=by omega
      have e2:∀ i,a.length - (k + 1) + (i + 1) = a.length - k + i:=fun i=>by omega
      simp only [e1,e2]
     rw [ea (dg a),ea (dg (q.set (a.length - 1 - k) t)),r1v,hR]
     have e3:dg (q.set (a.length - 1 - k) t) (a.length - 1 - k) = t:=by rw [gP (by omega),if_pos rfl]
     have e4:ds 65536 (fun i=>dg (q.set (a.length - 1 - k) t) (a.length - k + i)) k = ds 65536 (fun i=>dg q (a.length - k + i)) k:=dy fun i _=>by rw [gP (by omega),if_neg (by omega)]
     rw [e3,e4,hs]
     grind
    ·dsimp only
     rw [r1v,Int.add_mul,Int.one_mul] at *
     omega
    ·dsimp only
     rw [gP (by omega),if_neg (by omega)]
     exact qz i (by omega)
  ·have hk':k = a.length:=by have:=of_decide_eq_false h; omega
   subst hk'
   refine ap.some (.inr ⟨_,rfl,⟨qin,ql⟩,⟨rin,rt,hrl⟩,?_,hlt⟩)
   have e1:∀ i,a.length - a.length + i = i:=fun i=>by omega
   simp only [e1] at hs
   have e2:ds 65536 (dg q) a.length = lv q:=by unfold lv; rw [ql]
   dsimp only
   rw [← e2]
   exact hs
 ·rintro ⟨q,r⟩ ⟨⟨qin,ql⟩,⟨rin,rt,rl⟩,hs,hlt⟩
  dsimp only at qin ql rin rt rl hs hlt
  dsimp only [b9]
  refine ap.bind (pX (by omega) (by omega) qin) ?_
  rintro c ⟨cin,ct,cv,cl⟩
  exact ap.some ⟨⟨cin,ct,by dsimp only; omega⟩,⟨rin,rt,rl⟩,by dsimp only; rw [cv]; exact hs,hlt⟩
end Go.Proofs.YtcbbilehdaaffaaGreatDoor
namespace Go.Sk
set_option linter.unusedSimpArgs false
set_option linter.unusedVariables false
def fq (a b:Int):Int:=if decide (a < 0) != decide (b < 0) then -(aK a / aK b + if aK a % aK b = 0 then 0 else 1) else aK a / aK b
def fr (a b:Int):Int :=
 let r:=aK a % aK b
 let r':=if (decide (a < 0) != decide (b < 0)) && !decide (r = 0) then aK b - r else r
 if b < 0 then -r' else r'
def wP (a b:Int):Option Int:=if b = 0 then none else some (fq a b)
def wO (a b:Int):Option Int:=if b = 0 then none else some (fr a b)
theorem lf {b:Int} (h:b ≠ 0):0 < aK b:=by unfold aK; split <;> omega
theorem dJ (b:Int):0 ≤ aK b:=by unfold aK; split <;> omega
theorem fq_fr {a b:Int} (h:b ≠ 0):a = b * fq a b + fr a b:=by
 have hp:=lf h
 have hd:=Int.mul_ediv_add_emod (aK a) (aK b)
 have h0:=Int.emod_nonneg (aK a) (show aK b ≠ 0 by omega)
 unfold fq fr
 dsimp only
 generalize aK a / aK b = q at *
 generalize aK a % aK b = r at *
 by_cases ha:a < 0
 ·have ea:aK a = -a:=if_pos ha
  by_cases hb:b < 0
  ·have eb:aK b = -b:=if_pos hb
   simp only [ha,hb,decide_true,bne_self_eq_false,Bool.false_eq_true,if_false,Bool.false_and,if_true]
   rw [ea,eb] at hd
   grind
  ·have eb:aK b = b:=if_neg hb
   have hx:(true != false) = true:=rfl
   simp only [ha,hb,decide_true,decide_false,hx,if_true,Bool.true_and,if_false]
   rw [ea,eb] at hd
   by_cases hr:r = 0
   ·subst hr; simp; grind
   ·simp [hr]; grind
 ·have ea:aK a = a:=if_neg ha
  by_cases hb:b < 0
  ·have eb:aK b = -b:=if_pos hb
   have hx:(false != true) = true:=rfl
   simp only [ha,hb,decide_true,decide_false,hx,if_true,Bool.true_and]
   rw [ea,eb] at hd
   by_cases hr:r = 0
   ·subst hr; simp; grind
   ·simp [hr]; grind
  ·have eb:aK b = b:=if_neg hb
   simp only [ha,hb,decide_false,bne_self_eq_false,Bool.false_eq_true,if_false,Bool.false_and]
   rw [ea,eb] at hd
   omega
theorem s6 {a b:Int} (h:b ≠ 0):aK (fr a b) < aK b ∧ (fr a b = 0 ∨ (decide (fr a b < 0) = decide (b < 0))):=by
 have hp:=lf h
 have h0:=Int.emod_nonneg (aK a) (show aK b ≠ 0 by omega)
 have h1:=Int.emod_lt_of_pos (aK a) hp
 unfold fr
 dsimp only
 generalize aK a % aK b = r at *
 have h2:∀ r',0 ≤ r' → r' < aK b → aK (if b < 0 then -r' else r') < aK b ∧ ((if b < 0 then -r' else r') = 0 ∨ decide ((if b < 0 then -r' else r') < 0) = decide (b < 0)):=fun r' g0 g1=>by
  by_cases hb:b < 0
  ·simp only [hb,if_true]
   refine ⟨by unfold aK at *; split <;> omega,?_⟩
   rcases (by omega:r' = 0 ∨ 0 < r') with e | e
   ·left; omega
   ·right; rw [decide_eq_decide]; simp; omega
  ·simp only [hb,if_false]
   refine ⟨by unfold aK at *; split <;> omega,?_⟩
   right; rw [decide_eq_decide]; simp; omega
 refine h2 _ ?_ ?_
 ·split <;> omega
 ·split
  ·next hc=>
   simp only [Bool.and_eq_true,Bool.not_eq_true',decide_eq_false_iff_not] at hc
   omega
  ·omega
theorem xx {a b q r:Int} (h:b ≠ 0) (e:a = b * q + r) (h1:aK r < aK b) (h2:r = 0 ∨ decide (r < 0) = decide (b < 0)):q = fq a b ∧ r = fr a b:=by
 have e2:=fq_fr (a:=a) h
 obtain ⟨g1,g2⟩:=s6 (a:=a) h
 generalize fq a b = Q at *
 generalize fr a b = S at *
 have e3:b * (q - Q) = S - r:=by rw [Int.mul_sub]; omega
 have h3:aK (S - r) < aK b:=by
  rw [decide_eq_decide] at h2 g2
  unfold aK at *
  split at h1 <;> split at g1 <;> split <;> split at h1 <;> omega
 have h4:q = Q:=by
  rw [← e3,qy] at h3
  have hb:=lf h
  rcases (by have:=dJ (q - Q); omega:aK (q - Q) = 0 ∨ 1 ≤ aK (q - Q)) with g | g
  ·unfold aK at g; split at g <;> omega
  ·have:=Int.mul_le_mul_of_nonneg_left g (Int.le_of_lt hb)
   omega
 refine ⟨h4,?_⟩
 rw [h4,Int.sub_self,Int.mul_zero] at e3
 omega
theorem su {A B q r:Int} (h:A = q * B + r) (h0:0 ≤ r) (h1:r < B):A / B = q ∧ A % B = r:=by
 have hB:B ≠ 0:=by omega
 have e:A = r + B * q:=by rw [h,Int.mul_comm]; omega
 constructor
 ·rw [e,Int.add_mul_ediv_left _ _ hB,Int.ediv_eq_zero_of_lt h0 h1,Int.zero_add]
 ·rw [e,Int.add_mul_emod_self_left,Int.emod_eq_of_lt h0 h1]
theorem kG {b:Int}:aK b = 0 ↔ b = 0:=by unfold aK; split <;> omega
set_option linter.unusedVariables false
theorem zh {p q:Int} (hq:q ≠ 0) (hp:aK p < 4611686018427387904):-4611686018427387905 < fq p q ∧ fq p q < 4611686018427387904:=by
 have hq0:0 ≤ aK p / aK q:=Int.ediv_nonneg (dJ p) (dJ q)
 have hq1:aK p / aK q ≤ aK p:=Int.ediv_le_self _ (dJ p)
 unfold fq
 split
 ·split <;> omega
 ·omega
theorem tq (n:Int) {m:Int} (hm:m ≠ 0):Int.tdiv n m = (if decide (n < 0) != decide (m < 0) then -(aK n / aK m) else aK n / aK m) ∧ Int.tmod n m = (if n < 0 then -(aK n % aK m) else aK n % aK m):=by
  have e:Int.tmod n m = if n < 0 then -(aK n % aK m) else aK n % aK m:=by
   by_cases h1:n < 0
   ·have e1:aK n = -n:=if_pos h1
    have e2:n = -(-n):=by omega
    rw [if_pos h1,e1]
    conv=>lhs; rw [e2]
    rw [Int.neg_tmod,eR (by omega)]
    congr 1
    by_cases h2:m < 0
    ·rw [show aK m = -m from if_pos h2,Int.emod_neg]
    ·rw [show aK m = m from if_neg h2]
   ·have e1:aK n = n:=if_neg h1
    rw [if_neg h1,e1,eR (by omega)]
    by_cases h2:m < 0
    ·rw [show aK m = -m from if_pos h2,Int.emod_neg]
    ·rw [show aK m = m from if_neg h2]
  refine ⟨?_,e⟩
  by_cases h1:n < 0
  ·have e1:aK n = -n:=if_pos h1
   have e2:n = -(-n):=by omega
   by_cases h2:m < 0
   ·rw [show aK m = -m from if_pos h2,e1]
    simp only [h1,h2,decide_true,bne_self_eq_false,Bool.false_eq_true,if_false]
    conv=>lhs; rw [e2]
    rw [Int.neg_tdiv,← Int.tdiv_neg,eo (by omega)]
   ·rw [show aK m = m from if_neg h2,e1]
    have hx:(true != false) = true:=rfl
    simp only [h1,h2,decide_true,decide_false,hx,if_true]
    conv=>lhs; rw [e2]
    rw [Int.neg_tdiv,eo (by omega)]
  ·have e1:aK n = n:=if_neg h1
   by_cases h2:m < 0
   ·rw [show aK m = -m from if_pos h2,e1]
    have hx:(false != true) = true:=rfl
    simp only [h1,h2,decide_true,decide_false,hx,if_true]
    rw [← Int.neg_neg m,Int.tdiv_neg,eo (by omega),Int.neg_neg]
   ·rw [show aK m = m from if_neg h2,e1]
    simp only [h1,h2,decide_false,bne_self_eq_false,Bool.false_eq_true,if_false]
    rw [eo (by omega)]
theorem Ed {a b:Int} (h:b ≠ 0):aK (fq a b) ≤ aK a:=by
 have hp:=lf h
 have hd:=Int.mul_ediv_add_emod (aK a) (aK b)
 have h0:=Int.emod_nonneg (aK a) (show aK b ≠ 0 by omega)
 have h1:=Int.emod_lt_of_pos (aK a) hp
 have hq0:0 ≤ aK a / aK b:=Int.ediv_nonneg (dJ a) (by omega)
 have hq1:aK a / aK b ≤ aK a:=Int.ediv_le_self _ (dJ a)
 have ha:=dJ a
 unfold fq
 generalize aK a / aK b = q at *
 generalize aK a % aK b = r at *
 by_cases hr:r = 0
 ·rw [if_pos hr]
  split <;> unfold aK at * <;> split <;> omega
 ·rw [if_neg hr]
  have:=Int.mul_le_mul_of_nonneg_right (show 2 ≤ aK b by omega) hq0
  split
  ·have e:aK (-(q + 1)) = q + 1:=by unfold aK; rw [if_pos (by omega)]; omega
   omega
  ·have e:aK q = q:=by unfold aK; rw [if_neg (by omega)]
   omega
theorem xZ {a b:Int} (h:b ≠ 0) (ra:-MM < a ∧ a < MM):-MM < fq a b ∧ fq a b < MM:=by
 have h1:=Ed (a:=a) h
 rw [yA] at ra ⊢
 omega
theorem vM {a b:Int} (h:b ≠ 0) (rb:-MM < b ∧ b < MM):-MM < fr a b ∧ fr a b < MM:=by
 have h1:=(s6 (a:=a) h).1
 rw [yA] at rb ⊢
 omega
end Go.Sk
namespace Go.Sk
set_option linter.unusedSimpArgs false
set_option linter.unusedVariables false
end Go.Sk
namespace Go.Proofs.YtcbbilehdaaffaaGreatDoor
open Go Go.Sk
set_option linter.unusedSimpArgs false
set_option linter.unusedVariables false
theorem rMul_y {F:Nat} (hF:100000 < F) {x y:br} (hx:jX x) (hy:jX y):jm F x y = some (two (fun a b=>some (a * b)) x y):=by
 refine ap.eq ?_
 unfold jm
 refine ap.ax (kP hF hx) ?_
 generalize hp:wd (iv x) = wx
 obtain ⟨p,p'⟩:=wx
 refine ap.ax (kP hF hy) ?_
 generalize hq:wd (iv y) = wy
 obtain ⟨q,q'⟩:=wy
 dsimp only [b9]
 have hg:∀ (g:Bool) (n:Int),bE g (ob F n) = some (g && (decide (n < 2147483648) && decide (-2147483648 < n))):=fun g n=>by cases g <;> rfl
 refine ap.ax (hg _ _) (ap.ax (hg _ _) ?_)
 refine ap.ite (fun h=>?_) (fun h=>?_)
 ·simp only [Bool.and_eq_true,decide_eq_true_eq] at h
  obtain ⟨⟨⟨rfl,rfl⟩,_,p2,p1⟩,_,q2,q1⟩:=h
  obtain ⟨ha,la⟩:=kQ hp
  obtain ⟨hb,lb⟩:=kQ hq
  have hm:-4611686018427387904 < p * q ∧ p * q < 4611686018427387904:=by
   have h1:aK p < 2147483648:=by unfold aK; split <;> omega
   have h2:aK q < 2147483648:=by unfold aK; split <;> omega
   have h3:=l7 ⟨dJ p,h1⟩ ⟨dJ q,h2⟩
   rw [← qy] at h3
   unfold aK at h3
   split at h3 <;> omega
  rw [fL (by omega) (by omega)]
  refine ap.ax (w4 hF (by omega) (by omega)) (ap.some ?_)
  simp only [two,ha,hb,ud]
 ·clear h hp hq
  unfold two
  refine ap.ax (dL hF hx) ?_
  cases ha:iv x with
  | none=>simp only [b8 ha,Bool.not_false,Bool.not_true]; exact ap.g0 rfl (ap.eX (by simp) (ap.ax (jC F) (ap.some rfl)))
  | some a=>
   obtain ⟨ga,rfl,ra⟩:=bZ hx ha
   refine ap.g1 (by rw [ga]; rfl) (ap.ax (dL hF hy) ?_)
   cases hb:iv y with
   | none=>simp only [b8 hb,Bool.not_false,Bool.or_true,if_true]; exact ap.ax (jC F) (ap.some rfl)
   | some b=>
    obtain ⟨gb,rfl,rb⟩:=bZ hy hb
    obtain ⟨wa,na⟩:=cn ra
    obtain ⟨wb,nb⟩:=cn rb
    simp only [ga,gb,Bool.not_true,Bool.or_self,Bool.false_eq_true,if_false,ud,na,nb]
    refine ap.bind (ji hF ra) ?_
    rintro c ⟨c1,c2,c3,c4⟩
    refine ap.bind (ji hF rb) ?_
    rintro d ⟨d1,d2,d3,d4⟩
    refine ap.bind (Bx hF c1 d1 (by omega) (by omega)) ?_
    rintro e ⟨e1,_,e2,e3⟩
    refine ap.ax (sF hF _ (by omega) e1) (ap.some ?_)
    rw [e2,c3,d3]
    congr 1
    cases hs:(decide (a < 0) != decide (b < 0)) with
    | true=>rw [if_pos rfl,BD hs]
    | false=>rw [if_neg (by simp),yZ hs]
theorem Cf (F:Nat) {n m:Int} (hm:m ≠ 0) (hn:-4611686018427387904 < n ∧ n < 4611686018427387904):kJ F n m = some (fq n m):=by
 refine ap.eq ?_
 unfold kJ
 have hb:=lf hm
 have hd:=Int.mul_ediv_add_emod (aK n) (aK m)
 have h0:=Int.emod_nonneg (aK n) (show aK m ≠ 0 by omega)
 have hq0:0 ≤ aK n / aK m:=Int.ediv_nonneg (dJ n) (by omega)
 have hq1:aK n / aK m ≤ aK n:=Int.ediv_le_self _ (dJ n)
 have hn2:aK n < 4611686018427387904:=by unfold aK; split <;> omega
 obtain ⟨k1,k3⟩:=tq n hm
 have k2:Int.tmod n m = 0 ↔ aK n % aK m = 0:=by rw [k3]; split <;> omega
 refine ap.quo hm ?_
 have hw:IntKind.i64.wrap (Int.tdiv n m) = Int.tdiv n m:=by rw [k1]; split <;> rw [fL (by omega) (by omega)]
 rw [hw]
 refine ap.bind (P:=(· = fq n m)) (ap.rem hm (ap.ln ?_)) (fun q hq=>ap.some hq)
 unfold fq
 rw [k1]
 refine ap.ite (fun h=>?_) (fun h=>?_)
 ·simp only [Bool.and_eq_true,decide_eq_true_eq] at h
  have h1:¬ aK n % aK m = 0:=fun e=>h.1 (k2.2 e)
  refine ap.some ?_
  rw [h.2,if_pos rfl,if_pos rfl,if_neg h1,fL (by omega) (by omega)]
  omega
 ·refine ap.some ?_
  cases hs:(decide (n < 0) != decide (m < 0)) with
  | false=>rfl
  | true=>
   have h1:aK n % aK m = 0:=by
    rw [hs] at h
    rw [← k2]
    simpa using h
   rw [if_pos rfl,if_pos rfl,if_pos h1]
   omega
end Go.Proofs.YtcbbilehdaaffaaGreatDoor
namespace Go.Sk
end Go.Sk
namespace Go.Proofs.YtcbbilehdaaffaaGreatDoor
open Go Go.Sk
set_option linter.unusedSimpArgs false
set_option linter.unusedVariables false
theorem rQuo_y {F:Nat} (hF:100000 < F) {x y:br} (hx:jX x) (hy:jX y):iJ F x y = some (two wP x y):=by
 refine ap.eq ?_
 unfold iJ
 refine ap.ax (kP hF hx) ?_
 generalize hp:wd (iv x) = wx
 obtain ⟨p,p'⟩:=wx
 refine ap.ax (kP hF hy) ?_
 generalize hq:wd (iv y) = wy
 obtain ⟨q,q'⟩:=wy
 dsimp only [b9]
 refine ap.ite (fun h=>?_) (fun h=>?_)
 ·simp only [Bool.and_eq_true,decide_eq_true_eq] at h
  obtain ⟨⟨rfl,rfl⟩,hq0⟩:=h
  obtain ⟨ha,la⟩:=kQ hp
  obtain ⟨hb,lb⟩:=kQ hq
  have hs:=zh hq0 la
  refine ap.ax (Cf F hq0 (by unfold aK at la; split at la <;> omega)) (ap.ax (w4 hF (by omega) (by omega)) (ap.some ?_))
  simp only [two,ha,hb,wP,hq0,if_false,ud]
 ·clear h hp hq
  unfold two
  refine ap.ax (dL hF hx) ?_
  cases ha:iv x with
  | none=>simp only [b8 ha,Bool.not_false,Bool.not_true]; exact ap.g0 rfl (ap.g0 (by simp) (ap.eX (by simp) (ap.ax (jC F) (ap.some rfl))))
  | some a=>
   obtain ⟨ga,rfl,ra⟩:=bZ hx ha
   refine ap.g1 (by rw [ga]; rfl) (ap.ax (dL hF hy) ?_)
   cases hb:iv y with
   | none=>simp only [b8 hb,Bool.not_false,Bool.or_true]; exact ap.g0 rfl (ap.eX (by simp) (ap.ax (jC F) (ap.some rfl)))
   | some b=>
    obtain ⟨gb,rfl,rb⟩:=bZ hy hb
    obtain ⟨wa,na⟩:=cn ra
    obtain ⟨wb,nb⟩:=cn rb
    simp only [ga,gb,Bool.not_true,Bool.or_self,Bool.false_or,Bool.not_false,na,nb]
    refine ap.g1 rfl (ap.bind (ji hF rb) ?_)
    rintro d0 ⟨d01,d02,d03,d04⟩
    have hd0:=ju d01 d02
    rw [d03] at hd0
    refine ap.ite (fun h=>?_) (fun h=>?_)
    ·have h':=of_decide_eq_true h
     have hz:b = 0:=by
      rw [← kG]
      by_cases e:aK b = 0
      ·exact e
      ·have:=hd0.2 e; omega
     refine ap.ax (jC F) (ap.some ?_)
     simp only [wP,hz,if_true,ud]
    ·have h':=of_decide_eq_false h
     have hz:b ≠ 0:=fun e=>hd0.1 (by omega) (kG.2 e)
     refine ap.bind (ji hF ra) ?_
     rintro c ⟨c1,c2,c3,c4⟩
     refine ap.bind (ji hF rb) ?_
     rintro d ⟨d1,d2,d3,d4⟩
     have hd:=ju d1 d2
     rw [d3] at hd
     refine ap.bind (wj hF c1 d1 d2 (hd.2 fun e=>hz (kG.1 e)) (by omega) (by omega)) ?_
     rintro ⟨q,r⟩ ⟨⟨q1,q2,q3⟩,⟨r1,r2,r3⟩,e1,e2⟩
     dsimp only at q1 q2 q3 r1 r2 r3 e1 e2
     dsimp only [b9]
     rw [c3,d3] at e1
     rw [d3] at e2
     obtain ⟨m1,m2⟩:=su e1 (fg r1) e2
     have hr:=ju r1 r2
     have hrl:(decide (0 < (r.length:Int))) = !decide (aK a % aK b = 0):=by
      have e0:(0 < (r.length:Int)) ↔ 0 < r.length:=by omega
      rw [m2,Bool.eq_iff_iff]
      simp only [decide_eq_true_eq,Bool.not_eq_true',decide_eq_false_iff_not]
      rw [e0]
      exact hr
     rw [hrl]
     refine ap.bind (P:=fun z=>cM 65536 z ∧ z.length ≤ 9999 ∧ lv z = aK a / aK b + (if ((decide (a < 0) != decide (b < 0)) && !decide (aK a % aK b = 0)) = true then 1 else 0)) (ap.ite (fun h=>?_) (fun h=>?_)) ?_
     ·refine ap.bind (yc hF q1 (sN (by decide) (x:=1) (by decide)) (by omega) (by simp)) ?_
      rintro e ⟨z1,_,z2,z3⟩
      refine ap.some ⟨z1,by simp at z3; omega,?_⟩
      rw [z2,vE,m1,if_pos h]
     ·refine ap.some ⟨q1,by omega,?_⟩
      rw [h,m1]; simp
     ·rintro z ⟨z1,z2,z3⟩
      refine ap.ax (sF hF _ z2 z1) (ap.some ?_)
      rw [z3]
      simp only [wP,hz,if_false,ud,fq]
      congr 1
      cases (decide (a < 0) != decide (b < 0)) with
      | false=>simp
      | true=>by_cases e:aK a % aK b = 0 <;> simp [e]
theorem rRem_y {F:Nat} (hF:100000 < F) {x y:br} (hx:jX x) (hy:jX y):mo F x y = some (two wO x y):=by
 refine ap.eq ?_
 unfold mo
 refine ap.ax (kP hF hx) ?_
 generalize hp:wd (iv x) = wx
 obtain ⟨p,p'⟩:=wx
 refine ap.ax (kP hF hy) ?_
 generalize hq:wd (iv y) = wy
 obtain ⟨q,q'⟩:=wy
 dsimp only [b9]
 refine ap.ite (fun h=>?_) (fun h=>?_)
 ·simp only [Bool.and_eq_true,decide_eq_true_eq] at h
  obtain ⟨⟨rfl,rfl⟩,hq0⟩:=h
  obtain ⟨ha,la⟩:=kQ hp
  obtain ⟨hb,lb⟩:=kQ hq
  have hs:=zh hq0 la
  have he:=fq_fr (a:=p) hq0
  obtain ⟨hr,_⟩:=s6 (a:=p) hq0
  have hrr:-4611686018427387904 < fr p q ∧ fr p q < 4611686018427387904:=by unfold aK at hr lb; split at hr <;> split at hr <;> (split at lb <;> omega)
  have hpp:-4611686018427387904 < p ∧ p < 4611686018427387904:=by unfold aK at la; split at la <;> omega
  refine ap.ax (Cf F hq0 hpp) ?_
  have hw:IntKind.i64.wrap (q * fq p q) = q * fq p q:=fL (by omega) (by omega)
  have hw2:IntKind.i64.wrap (p - q * fq p q) = fr p q:=by rw [fL (by omega) (by omega)]; omega
  rw [hw,hw2]
  refine ap.ln (ap.ax (w4 hF (by omega) (by omega)) (ap.some ?_))
  simp only [two,ha,hb,wO,hq0,if_false,ud]
 ·clear h hp hq
  unfold two
  refine ap.ax (dL hF hx) ?_
  cases ha:iv x with
  | none=>simp only [b8 ha,Bool.not_false,Bool.not_true]; exact ap.g0 rfl (ap.g0 (by simp) (ap.eX (by simp) (ap.ax (jC F) (ap.some rfl))))
  | some a=>
   obtain ⟨ga,rfl,ra⟩:=bZ hx ha
   refine ap.g1 (by rw [ga]; rfl) (ap.ax (dL hF hy) ?_)
   cases hb:iv y with
   | none=>simp only [b8 hb,Bool.not_false,Bool.or_true]; exact ap.g0 rfl (ap.eX (by simp) (ap.ax (jC F) (ap.some rfl)))
   | some b=>
    obtain ⟨gb,rfl,rb⟩:=bZ hy hb
    obtain ⟨wa,na⟩:=cn ra
    obtain ⟨wb,nb⟩:=cn rb
    simp only [ga,gb,Bool.not_true,Bool.or_self,Bool.false_or,Bool.not_false,na,nb]
    refine ap.g1 rfl (ap.bind (ji hF rb) ?_)
    rintro d0 ⟨d01,d02,d03,d04⟩
    have hd0:=ju d01 d02
    rw [d03] at hd0
    refine ap.ite (fun h=>?_) (fun h=>?_)
    ·have h':=of_decide_eq_true h
     have hz:b = 0:=by
      rw [← kG]
      by_cases e:aK b = 0
      ·exact e
      ·have:=hd0.2 e; omega
     refine ap.ax (jC F) (ap.some ?_)
     simp only [wO,hz,if_true,ud]
    ·have h':=of_decide_eq_false h
     have hz:b ≠ 0:=fun e=>hd0.1 (by omega) (kG.2 e)
     refine ap.bind (ji hF ra) ?_
     rintro c ⟨c1,c2,c3,c4⟩
     refine ap.bind (ji hF rb) ?_
     rintro d ⟨d1,d2,d3,d4⟩
     have hd:=ju d1 d2
     rw [d3] at hd
     refine ap.bind (wj hF c1 d1 d2 (hd.2 fun e=>hz (kG.1 e)) (by omega) (by omega)) ?_
     rintro ⟨q,r⟩ ⟨⟨q1,q2,q3⟩,⟨r1,r2,r3⟩,e1,e2⟩
     dsimp only at q1 q2 q3 r1 r2 r3 e1 e2
     dsimp only [b9]
     rw [c3,d3] at e1
     rw [d3] at e2
     obtain ⟨m1,m2⟩:=su e1 (fg r1) e2
     have hr:=ju r1 r2
     have hrl:(decide (0 < (r.length:Int))) = !decide (aK a % aK b = 0):=by
      have e0:(0 < (r.length:Int)) ↔ 0 < r.length:=by omega
      rw [m2,Bool.eq_iff_iff]
      simp only [decide_eq_true_eq,Bool.not_eq_true',decide_eq_false_iff_not]
      rw [e0]
      exact hr
     rw [hrl]
     refine ap.bind (P:=fun z=>cM 65536 z ∧ z.length ≤ 9999 ∧ lv z = (if ((decide (a < 0) != decide (b < 0)) && !decide (aK a % aK b = 0)) = true then aK b - aK a % aK b else aK a % aK b)) (ap.ite (fun h=>?_) (fun h=>?_)) ?_
     ·refine ap.bind (ji hF rb) ?_
      rintro f ⟨f1,f2,f3,f4⟩
      refine ap.bind (qg hF f1 r1 (by omega) (by omega) (by omega)) ?_
      rintro e ⟨z1,_,z2,z3⟩
      refine ap.some ⟨z1,by omega,?_⟩
      rw [z2,if_pos h,f3,m2]
     ·refine ap.some ⟨r1,by omega,?_⟩
      rw [h,m2]; simp
     ·rintro z ⟨z1,z2,z3⟩
      refine ap.ax (sF hF _ z2 z1) (ap.some ?_)
      rw [z3]
      simp only [wO,hz,if_false,ud,fr,decide_eq_true_eq]
end Go.Proofs.YtcbbilehdaaffaaGreatDoor
namespace Go.Sk
set_option linter.unusedSimpArgs false
set_option linter.unusedVariables false
theorem AB {b:Int} {f:Nat → Int} {n k:Nat} (h:∀ i,n ≤ i → f i = 0) (hk:n ≤ k):ds b f k = ds b f n:=mh hk fun i h1 _=>h i h1
theorem kh (n:Nat):(0:Int) < 2 ^ n:=Int.pow_pos (by decide)
theorem yf {n:Nat} (h:n ≤ 31):(2:Int) ^ n ≤ 2147483648:=by
 have:=uZ h
 have e:(2:Int) ^ 31 = 2147483648:=by decide
 omega
theorem shl_val {x:Int} {n:Nat} (hn:n ≤ 31) (hx:0 ≤ x ∧ x < 4294967296):yO .u64 x (n:Int) = some (x * 2 ^ n):=by
 unfold yO
 rw [if_neg (by omega)]
 have e4:min ((n:Int)).toNat IntKind.u64.bits = n:=by
  rw [Int.toNat_natCast]
  show min n 64 = _
  omega
 have hp:=kh n
 have hq:=yf hn
 have h1:=Int.mul_nonneg hx.1 (Int.le_of_lt hp)
 have h2:x * 2 ^ n ≤ 4294967295 * 2147483648:=Int.mul_le_mul (by omega) hq (Int.le_of_lt hp) (by omega)
 rw [e4,gO]
 congr 1
 omega
theorem mid_of {X:Int} {n:Nat} (hn:n ≤ 32):X % 18446744073709551616 / 2 ^ n % 4294967296 = X / 2 ^ n % 4294967296:=by
 have hp:=kh n
 have e:(18446744073709551616:Int) = 2 ^ n * (2 ^ (32 - n) * 4294967296):=by
  have:(18446744073709551616:Int) = 2 ^ (n + (32 - n) + 32):=by rw [show n + (32 - n) + 32 = 64 by omega]; decide
  rw [this,Int.pow_add,Int.pow_add,Int.mul_assoc]; rfl
 have e2:X = X % 18446744073709551616 + 2 ^ n * ((2 ^ (32 - n) * 4294967296) * (X / 18446744073709551616)):=by
  rw [← Int.mul_assoc,← e]; exact (Int.emod_add_mul_ediv X 18446744073709551616).symm
 have e3:X / 2 ^ n = X % 18446744073709551616 / 2 ^ n + 2 ^ (32 - n) * 4294967296 * (X / 18446744073709551616):=by
  rw [← Int.add_mul_ediv_left (X % 18446744073709551616) _ (by omega:(2:Int) ^ n ≠ 0),← e2]
 have e4:2 ^ (32 - n) * 4294967296 * (X / 18446744073709551616) = 4294967296 * (2 ^ (32 - n) * (X / 18446744073709551616)):=by grind
 rw [e3,e4,Int.add_mul_emod_self_left]
theorem av_pair {w:aU} (h:cM 4294967296 w.l) (i:Nat):dg w.l i + dg w.l (i + 1) * 4294967296 = av w / 4294967296 ^ i % 18446744073709551616:=by
 have h1:av w = ds 4294967296 (dg w.l) (16 + (i + 2)):=(AB (fun j hj=>pU (by rw [aU.ck]; exact hj)) (by omega)).symm
 have h2:16 + (i + 2) = i + (2 + 16):=by omega
 rw [h1,h2,Dl (by decide) h,gg]
 have e:ds 4294967296 (fun j=>dg w.l (i + j)) 2 = dg w.l i + dg w.l (i + 1) * 4294967296:=by simp [ds]
 have p:(4294967296:Int) ^ 2 = 18446744073709551616:=by decide
 have a:=h i
 have b:=h (i + 1)
 rw [e,p,Int.add_mul_emod_self_left]
 omega
theorem toA_ext {w:aU} {z:Int} (h:∀ i,i < 16 → dg w.l i = nd 4294967296 z i):w = tC z:=by
 have hin:cM 4294967296 w.l:=fun i=>by
  by_cases hi:i < 16
  ·rw [h i hi]; exact y8 _ _ (by decide) i
  ·rw [pU (by rw [aU.ck]; omega)]; decide
 refine Cj hin ?_
 unfold av
 rw [dy h,Dk (by decide)]
 rfl
end Go.Sk
namespace Go.Proofs.YtcbbilehdaaffaaGreatDoor
open Go Go.Sk
set_option linter.unusedSimpArgs false
set_option linter.unusedVariables false
theorem up_y {F:Nat} (hF:100 < F) {w:aU} (hw:cM 4294967296 w.l) {n:Nat} (hn:n ≤ 31):ap (tE F w (n:Int)) fun p=>cM 4294967296 p.1.l ∧ 0 ≤ p.2 ∧ p.2 < 2 ^ n ∧ av p.1 + p.2 * MM = av w * 2 ^ n:=by
 unfold tE
 have hp:=kh n
 have hq:=yf hn
 refine ap.bind (P:=fun p=>cM 4294967296 p.1.l ∧ 0 ≤ p.2 ∧ p.2 < 2 ^ n ∧ av p.1 + p.2 * MM = av w * 2 ^ n) (ap.rounds 16 (fun (k:Nat) (s:aU × Int × Int)=>s.2.2 = (k:Int) ∧ cM 4294967296 s.1.l ∧ 0 ≤ s.2.1 ∧ s.2.1 < 2 ^ n ∧ ds 4294967296 (dg s.1.l) k + s.2.1 * 4294967296 ^ k = ds 4294967296 (dg w.l) k * 2 ^ n) (by omega) ⟨rfl,j6,Int.le_refl _,hp,by simp [ds]⟩ ?_) ?_
 ·rintro k ⟨o,c,kx⟩ hk ⟨rfl,oin,c0,c1,os⟩
  dsimp only at oin c0 c1 os
  dsimp only [ky]
  refine ap.ite (fun h=>?_) (fun h=>?_)
  ·have hk':k < 16:=by have:=of_decide_eq_true h; omega
   have hd:=hw k
   refine ap.idx (by omega) (by rw [aU.ck]; omega) ?_
   simp only [dF,Int.toNat_natCast]
   have hu:IntKind.u64.wrap (dg w.l k) = dg w.l k:=by rw [gO]; omega
   rw [hu]
   refine ap.ax (shl_val hn hd) ?_
   have hv:dg w.l k * 2 ^ n ≤ 4294967295 * 2 ^ n:=Int.mul_le_mul_of_nonneg_right (by omega) (by omega)
   have hv0:0 ≤ dg w.l k * 2 ^ n:=Int.mul_nonneg hd.1 (by omega)
   have hior:mU .u64 c (dg w.l k * 2 ^ n) = dg w.l k * 2 ^ n + c:=by
    rw [EV]
    exact oJ n hv0 (by omega) (Int.mul_emod_left _ _) c0 c1 (by omega)
   rw [hior,lL]
   refine ap.ln (ap.idx (by omega) (by rw [aU.ck]; omega) (ap.some (.inl ⟨_,rfl,⟨by dsimp only; rw [cH]; omega,jB oin (by omega) (by omega) (by omega),by dsimp only; omega,by dsimp only; omega,?_⟩,hk'⟩)))
   dsimp only
   rw [aU.sf hk',dm,Int.add_mul,← os,Int.pow_succ]
   have e2:dg w.l k * 2 ^ n + c = (dg w.l k * 2 ^ n + c) % 4294967296 + (dg w.l k * 2 ^ n + c) / 4294967296 * 4294967296:=by omega
   generalize (dg w.l k * 2 ^ n + c) % 4294967296 = u at *
   generalize (dg w.l k * 2 ^ n + c) / 4294967296 = v at *
   have e3:dg w.l k * 2 ^ n = u + v * 4294967296 - c:=by omega
   have e4:dg w.l k * 4294967296 ^ k * 2 ^ n = (dg w.l k * 2 ^ n) * 4294967296 ^ k:=by grind
   rw [e4,e3]
   grind
  ·have hk':k = 16:=by have:=of_decide_eq_false h; omega
   subst hk'
   exact ap.some (.inr ⟨_,rfl,oin,c0,c1,os⟩)
 ·rintro ⟨o,c⟩ ⟨oin,c0,c1,os⟩
  dsimp only at oin c0 c1 os
  dsimp only [b9]
  have hu:IntKind.u32.wrap c = c:=by rw [lL]; omega
  rw [hu]
  exact ap.some ⟨oin,c0,c1,os⟩
theorem shr_val {x:Int} {n:Nat} (hn:n ≤ 31):Cv .u64 x (n:Int) = some (x / 2 ^ n):=by
 unfold Cv
 rw [if_neg (by omega)]
 have e4:min ((n:Int)).toNat IntKind.u64.bits = n:=by
  rw [Int.toNat_natCast]
  show min n 64 = _
  omega
 rw [e4]
theorem p32':(2:Int) ^ 32 = 4294967296:=by decide
theorem down_y {F:Nat} (hF:100 < F) {w:aU} (hw:cM 4294967296 w.l) {n:Nat} (hn:n ≤ 31):nV F w (n:Int) = some (tC (av w / 2 ^ n)):=by
 refine ap.eq ?_
 unfold nV
 have hp:=kh n
 refine ap.bind (P:=fun o=>o = tC (av w / 2 ^ n)) (ap.rounds 16 (fun (k:Nat) (s:aU × Int)=>s.2 = (k:Int) ∧ ∀ i,i < k → dg s.1.l i = nd 4294967296 (av w / 2 ^ n) i) (by omega) ⟨rfl,fun i h=>absurd h (Nat.not_lt_zero i)⟩ ?_) (fun o ho=>ap.some ho)
 rintro k ⟨o,kx⟩ hk ⟨rfl,os⟩
 dsimp only at os
 dsimp only [b9]
 refine ap.ite (fun h=>?_) (fun h=>?_)
 ·have hk':k < 16:=by have:=of_decide_eq_true h; omega
  have hd:=hw k
  have hd1:=hw (k + 1)
  have hw1:IntKind.i64.wrap ((k:Int) + 1) = ((k + 1:Nat):Int):=by rw [cH]; omega
  rw [hw1]
  refine ap.bind (P:=fun o'=>o' = o.set (k:Int) (nd 4294967296 (av w / 2 ^ n) k)) ?_ ?_
  ·refine ap.bind (P:=fun z=>z = dg w.l (k + 1)) ?_ ?_
   ·refine ap.ite (fun h=>?_) (fun h=>?_)
    ·have h':=of_decide_eq_true h
     refine ap.idx (by omega) (by rw [aU.ck]; omega) (ap.some ?_)
     simp only [dF,Int.toNat_natCast]
     rw [gO]; omega
    ·have h':=of_decide_eq_false h
     exact ap.some (pU (by rw [aU.ck]; omega)).symm
   ·rintro z rfl
    refine ap.r4 (dg w.l (k + 1) * 4294967296) (by rw [gO]; omega) (ap.idx (by omega) (by rw [aU.ck]; omega) ?_)
    simp only [dF,Int.toNat_natCast]
    have hu:IntKind.u64.wrap (dg w.l k) = dg w.l k:=by rw [gO]; omega
    have hior:mU .u64 (dg w.l (k + 1) * 4294967296) (dg w.l k) = dg w.l (k + 1) * 4294967296 + dg w.l k:=oJ 32 (by omega) (by omega) (by rw [p32']; omega) hd.1 (by rw [p32']; omega) (by omega)
    rw [hu,hior]
    refine ap.ax (shr_val hn) (ap.idx (by omega) (by rw [aU.ck]; omega) (ap.some ?_))
    congr 1
    have e:dg w.l (k + 1) * 4294967296 + dg w.l k = av w / 4294967296 ^ k % 18446744073709551616:=by rw [← av_pair hw]; omega
    rw [e,lL,mid_of (by omega)]
    unfold nd
    rw [Int.ediv_ediv_of_nonneg (Int.le_of_lt (Int.pow_pos (by decide))),Int.ediv_ediv_of_nonneg (by omega),Int.mul_comm]
  ·rintro o' rfl
   refine ap.some (.inl ⟨_,rfl,⟨rfl,fun i hi=>?_⟩,hk'⟩)
   dsimp only
   rw [fH (by omega) (by omega),Int.toNat_natCast]
   split
   ·next e=>rw [e]
   ·exact os i (by omega)
 ·have hk':k = 16:=by have:=of_decide_eq_false h; omega
  subst hk'
  exact ap.some (.inr ⟨_,rfl,toA_ext os⟩)
theorem BA {F:Nat} (hF:100 < F) {a:aU} (ha:cM 4294967296 a.l) {b:Int} (hb:0 < b ∧ b < 4294967296):lW F a b = some (tC (av a / b),av a % b):=by
 refine ap.eq ?_
 unfold lW
 have hub:IntKind.u64.wrap b = b:=by rw [gO]; omega
 rw [hub]
 refine ap.bind (P:=fun p=>p = (tC (av a / b),av a % b)) (ap.rounds 16 (fun (k:Nat) (s:aU × Int × Int)=>s.2.2 = 15 - (k:Int) ∧ cM 4294967296 s.1.l ∧ 0 ≤ s.2.1 ∧ s.2.1 < b ∧ ds 4294967296 (fun i=>dg a.l (16 - k + i)) k = ds 4294967296 (fun i=>dg s.1.l (16 - k + i)) k * b + s.2.1) (by omega) ⟨by decide,j6,Int.le_refl _,hb.1,by simp [ds]⟩ ?_) ?_
 ·rintro k ⟨q,r,kx⟩ hk ⟨rfl,qin,r0,r1,hs⟩
  dsimp only at qin r0 r1 hs
  dsimp only [ky]
  refine ap.ite (fun h=>?_) (fun h=>?_)
  ·have hk':k < 16:=by have:=of_decide_eq_true h; omega
   have et:(15 - (k:Int)).toNat = 15 - k:=by omega
   have hd:=ha (15 - k)
   refine ap.idx (by omega) (by rw [aU.ck]; omega) ?_
   simp only [dF,et]
   have hu:IntKind.u64.wrap (dg a.l (15 - k)) = dg a.l (15 - k):=by rw [gO]; omega
   have hr:IntKind.u64.wrap (r * 4294967296) = r * 4294967296:=by rw [gO]; omega
   have hior:mU .u64 (r * 4294967296) (dg a.l (15 - k)) = r * 4294967296 + dg a.l (15 - k):=oJ 32 (by omega) (by omega) (by rw [Be]; omega) hd.1 (by rw [Be]; omega) (by omega)
   rw [hu,hr,hior]
   obtain ⟨v,hv⟩:∃ v,v = r * 4294967296 + dg a.l (15 - k):=⟨_,rfl⟩
   rw [← hv]
   have hv0:0 ≤ v:=by omega
   have hd1:=Int.mul_ediv_add_emod v b
   have hm0:=Int.emod_nonneg v (show b ≠ 0 by omega)
   have hm1:=Int.emod_lt_of_pos v hb.1
   have hq0:0 ≤ v / b:=Int.ediv_nonneg hv0 (by omega)
   have hq1:v / b < 4294967296:=by rw [Int.ediv_lt_iff_lt_mul hb.1]; omega
   refine ap.ln (ap.quo (by omega) (ap.idx (by omega) (by rw [aU.ck]; omega) (ap.rem (by omega) (ap.some (.inl ⟨_,rfl,?_,hk'⟩)))))
   rw [eo hv0,eR hv0]
   have e1:IntKind.u32.wrap (IntKind.u64.wrap (v / b)) = v / b:=by simp only [lL,gO]; omega
   rw [e1]
   have ei:(15 - (k:Int)) = ((15 - k:Nat):Int):=by omega
   dsimp only
   refine ⟨by rw [cH]; omega,by rw [ei]; exact jB qin (by omega) (by omega) (by omega),hm0,hm1,?_⟩
   have ea:∀ (f:Nat → Int),ds 4294967296 (fun i=>f (16 - (k + 1) + i)) (k + 1) = f (15 - k) + 4294967296 * ds 4294967296 (fun i=>f (16 - k + i)) k:=fun f=>by
    rw [ki]
    have e1:16 - (k + 1) + 0 = 15 - k:=by omega
    have e2:∀ i,16 - (k + 1) + (i + 1) = 16 - k + i:=fun i=>by omega
    simp only [e1,e2]
   rw [ea (dg a.l),ea (dg (q.set (15 - (k:Int)) (v / b)).l),ei]
   have e3:dg (q.set ((15 - k:Nat):Int) (v / b)).l (15 - k) = v / b:=by rw [fH (by omega) (by omega),Int.toNat_natCast,if_pos rfl]
   have e4:ds 4294967296 (fun i=>dg (q.set ((15 - k:Nat):Int) (v / b)).l (16 - k + i)) k = ds 4294967296 (fun i=>dg q.l (16 - k + i)) k:=dy fun i _=>by rw [fH (by omega) (by omega),Int.toNat_natCast,if_neg (by omega)]
   rw [e3,e4,hs]
   generalize v / b = Q at *
   generalize v % b = M at *
   grind
  ·have hk':k = 16:=by have:=of_decide_eq_false h; omega
   subst hk'
   refine ap.some (.inr ⟨_,rfl,?_⟩)
   have e1:∀ i,16 - 16 + i = i:=fun i=>by omega
   simp only [e1] at hs
   have hs':av a = av q * b + r:=hs
   have hm:=Int.emod_emod_of_dvd
   have hB:b ≠ 0:=by omega
   have e:av a = r + b * av q:=by rw [hs',Int.mul_comm]; omega
   have q1:av a / b = av q:=by rw [e,Int.add_mul_ediv_left _ _ hB,Int.ediv_eq_zero_of_lt r0 r1,Int.zero_add]
   have q2:av a % b = r:=by rw [e,Int.add_mul_emod_self_left,Int.emod_eq_of_lt r0 r1]
   rw [q1,q2,pY qin]
 ·rintro ⟨q,r⟩ he
  dsimp only [b9]
  cases he
  refine ap.some ?_
  have hm0:=Int.emod_nonneg (av a) (show b ≠ 0 by omega)
  have hm1:=Int.emod_lt_of_pos (av a) hb.1
  have:IntKind.u32.wrap (av a % b) = av a % b:=by rw [lL]; omega
  rw [this]
end Go.Proofs.YtcbbilehdaaffaaGreatDoor
namespace Go.Sk
set_option linter.unusedSimpArgs false
set_option linter.unusedVariables false
theorem cQ.fH {w:cQ} {i x:Int} (h0:0 ≤ i) (h1:i < 17) (j:Nat):dg (w.set i x).l j = if j = i.toNat then x else dg w.l j:=by
 rw [cQ.jh,Go.Sk.gP (by rw [cQ.ck]; omega)]
theorem cQ.jB {w:cQ} {i x:Int} (h:cM 4294967296 w.l) (h0:0 ≤ i) (h1:i < 17) (hx:0 ≤ x ∧ x < 4294967296):cM 4294967296 (w.set i x).l:=fun j=>by
 rw [cQ.fH h0 h1]
 split
 ·exact hx
 ·exact h j
def win (l:List Int) (j n:Nat):Int:=ds 4294967296 (fun i=>dg l (j + i)) n
theorem fY (l:List Int) (j n:Nat):win l j (n + 1) = win l j n + dg l (j + n) * 4294967296 ^ n:=rfl
theorem gT {l:List Int} (h:cM 4294967296 l) (j n:Nat):0 ≤ win l j n:=dY (by decide) fun i _=>(h _).1
theorem vx {l:List Int} (h:cM 4294967296 l) (j n:Nat):win l j n < 4294967296 ^ n:=pS (by decide) fun i _=>h _
theorem xg {l m:List Int} {j n:Nat} (h:∀ i,j ≤ i → i < j + n → dg l i = dg m i):win l j n = win m j n:=dy fun i hi=>h _ (by omega) (by omega)
theorem win_div {l:List Int} (h:cM 4294967296 l) (j n k:Nat):win l j (n + k) / 4294967296 ^ n = win l (j + n) k:=by
 unfold win
 rw [Dl (by decide) fun i=>h _]
 simp only [Nat.add_assoc]
theorem win_cons (l:List Int) (j n:Nat):win l j (n + 1) = dg l j + 4294967296 * win l (j + 1) n:=by
 unfold win
 rw [ki]
 have e:∀ i,j + (i + 1) = j + 1 + i:=fun i=>by omega
 have e2:ds 4294967296 (fun i=>dg l (j + (i + 1))) n = ds 4294967296 (fun i=>dg l (j + 1 + i)) n:=dy fun i _=>by rw [e]
 rw [e2]
 rfl
structure Kn (B P v1 v2 V u2 u0 R t:Int):Prop where
 P0:0 < P
 v10:2147483648 ≤ v1
 v11:v1 < B
 v20:0 ≤ v2 ∧ v2 < B
 V0:(v1 * B + v2) * P ≤ V
 V1:V < (v1 * B + v2 + 1) * P
 u00:0 ≤ u0 ∧ u0 < B
 R0:(u2 * B + u0) * P ≤ R
 R1:R < (u2 * B + u0 + 1) * P
 Rt:t * V ≤ R
 tR:R < (t + 1) * V
 t0:0 ≤ t
 t1:t < B
theorem Kn.up {B P v1 v2 V u2 u0 R t:Int} (k:Kn B P v1 v2 V u2 u0 R t):t * (v1 * B + v2) ≤ u2 * B + u0:=by
 have h1:t * ((v1 * B + v2) * P) ≤ t * V:=Int.mul_le_mul_of_nonneg_left k.V0 k.t0
 have h2:(t * (v1 * B + v2)) * P < (u2 * B + u0 + 1) * P:=by
  have e:t * ((v1 * B + v2) * P) = (t * (v1 * B + v2)) * P:=by grind
  rw [e] at h1
  have:=k.Rt
  have:=k.R1
  omega
 have:=Int.lt_of_mul_lt_mul_right h2 (Int.le_of_lt k.P0)
 omega
theorem Kn.up1 {B P v1 v2 V u2 u0 R t:Int} (k:Kn B P v1 v2 V u2 u0 R t):t * v1 ≤ u2:=by
 have h:=k.up
 have h3:0 ≤ t * v2:=Int.mul_nonneg k.t0 k.v20.1
 have hB:0 < B:=by have:=k.v20; omega
 have h4:(t * v1) * B < (u2 + 1) * B:=by
  have e:t * (v1 * B + v2) = (t * v1) * B + t * v2:=by grind
  rw [e] at h
  have:=k.u00
  have e2:(u2 + 1) * B = u2 * B + B:=by grind
  omega
 have:=Int.lt_of_mul_lt_mul_right h4 (Int.le_of_lt hB)
 omega
theorem Kn.u2lt {B P v1 v2 V u2 u0 R t:Int} (k:Kn B P v1 v2 V u2 u0 R t):u2 < v1 * B + B:=by
 have hB:0 < B:=by have:=k.v20; omega
 have hP:=k.P0
 have hV:0 ≤ V:=by
  have h1:0 ≤ (v1 * B + v2) * P:=Int.mul_nonneg (by have:=Int.mul_nonneg (show 0 ≤ v1 by have:=k.v10; omega) (Int.le_of_lt hB); have:=k.v20; omega) (Int.le_of_lt hP)
  have:=k.V0
  omega
 have h1:(t + 1) * V ≤ B * V:=Int.mul_le_mul_of_nonneg_right (by have:=k.t1; omega) hV
 have h2:B * V ≤ B * ((v1 * B + v2 + 1) * P):=Int.mul_le_mul_of_nonneg_left (Int.le_of_lt k.V1) (Int.le_of_lt hB)
 have h3:(v1 * B + v2 + 1) * P ≤ (v1 * B + B) * P:=Int.mul_le_mul_of_nonneg_right (by have:=k.v20; omega) (Int.le_of_lt hP)
 have h4:B * ((v1 * B + v2 + 1) * P) ≤ B * ((v1 * B + B) * P):=Int.mul_le_mul_of_nonneg_left h3 (Int.le_of_lt hB)
 have h5:u2 * B * P ≤ (u2 * B + u0) * P:=Int.mul_le_mul_of_nonneg_right (by have:=k.u00; omega) (Int.le_of_lt hP)
 have h6:u2 * (B * P) < (v1 * B + B) * (B * P):=by
  have e1:u2 * (B * P) = u2 * B * P:=by grind
  have e2:(v1 * B + B) * (B * P) = B * ((v1 * B + B) * P):=by grind
  rw [e1,e2]
  have:=k.R0
  have:=k.tR
  omega
 exact Int.lt_of_mul_lt_mul_right h6 (Int.le_of_lt (Int.mul_pos hB hP))
theorem Kn.fin {B P v1 v2 V u2 u0 R t d:Int} (k:Kn B P v1 v2 V u2 u0 R t) (hd0:0 ≤ d) (h:d * (v1 * B + v2) ≤ u2 * B + u0) (hd:d < B):d ≤ t + 1:=by
 rcases (by omega:d ≤ t + 1 ∨ t + 1 ≤ d - 1) with g | g
 ·exact g
 ·have hB:0 < B:=by omega
  have hP:=k.P0
  have hv1:=k.v10
  have h5:B * P ≤ (v1 * B + v2) * P:=Int.mul_le_mul_of_nonneg_right (by have h:=Int.mul_le_mul_of_nonneg_right (show 1 ≤ v1 by omega) (Int.le_of_lt hB); have:=k.v20; omega) (Int.le_of_lt hP)
  have hV0:=k.V0
  have hBP:=Int.mul_pos hB hP
  have h1:(t + 1) * V ≤ (d - 1) * V:=Int.mul_le_mul_of_nonneg_right g (by omega)
  have h2:d * V ≤ d * ((v1 * B + v2 + 1) * P):=Int.mul_le_mul_of_nonneg_left (Int.le_of_lt k.V1) hd0
  have h3:d * (v1 * B + v2) * P ≤ (u2 * B + u0) * P:=Int.mul_le_mul_of_nonneg_right h (Int.le_of_lt hP)
  have e:d * ((v1 * B + v2 + 1) * P) = d * (v1 * B + v2) * P + d * P:=by grind
  have h4:d * P < B * P:=Int.mul_lt_mul_of_pos_right hd hP
  have e2:(d - 1) * V = d * V - V:=by grind
  have:=k.R0
  have:=k.tR
  omega
end Go.Sk
namespace Go.Proofs.YtcbbilehdaaffaaGreatDoor
open Go Go.Sk
set_option linter.unusedSimpArgs false
set_option linter.unusedVariables false
theorem guess_y {F:Nat} (hF:18446744073709551616 < F) {v:aU} {u:cQ} {n j:Nat} (hn:2 ≤ n ∧ n ≤ 16) (hj:j + n ≤ 16) (hv:cM 4294967296 v.l) (hu:cM 4294967296 u.l) {P V R t:Int}
  (K:Kn 4294967296 P (dg v.l (n - 1)) (dg v.l (n - 2)) V (dg u.l (j + n) * 4294967296 + dg u.l (j + n - 1)) (dg u.l (j + n - 2)) R t) :
  ap (lX F v (n:Int) (j:Int) u) fun d=>t ≤ d ∧ d ≤ t + 1 ∧ 0 ≤ d ∧ d < 4294967296:=by
 unfold lX
 have hw0:IntKind.i64.wrap ((j:Int) + (n:Int)) = ((j + n:Nat):Int):=by rw [cH]; omega
 have hw1:IntKind.i64.wrap (((j + n:Nat):Int) - 1) = ((j + n - 1:Nat):Int):=by rw [cH]; omega
 have hw2:IntKind.i64.wrap (((j + n:Nat):Int) - 2) = ((j + n - 2:Nat):Int):=by rw [cH]; omega
 have hw3:IntKind.i64.wrap ((n:Int) - 1) = ((n - 1:Nat):Int):=by rw [cH]; omega
 have hw4:IntKind.i64.wrap ((n:Int) - 2) = ((n - 2:Nat):Int):=by rw [cH]; omega
 simp only [hw0,hw1,hw2,hw3,hw4]
 refine ap.idx (by omega) (by rw [cQ.ck]; omega) (ap.idx (by omega) (by rw [cQ.ck]; omega) (ap.idx (by omega) (by rw [aU.ck]; omega) ?_))
 simp only [dF,Int.toNat_natCast]
 have a1:=hu (j + n)
 have a2:=hu (j + n - 1)
 have a3:=hu (j + n - 2)
 have b1:=hv (n - 1)
 have b2:=hv (n - 2)
 generalize hx1:dg u.l (j + n) = x1 at *
 generalize hx2:dg u.l (j + n - 1) = x2 at *
 generalize hx3:dg u.l (j + n - 2) = u0 at *
 generalize hy1:dg v.l (n - 1) = v1 at *
 generalize hy2:dg v.l (n - 2) = v2 at *
 have e1:IntKind.u64.wrap ((IntKind.u64.wrap x1) * 4294967296) = x1 * 4294967296:=by simp only [gO]; omega
 have e2:IntKind.u64.wrap x2 = x2:=by rw [gO]; omega
 have e3:IntKind.u64.wrap v1 = v1:=by rw [gO]; omega
 have hior:mU .u64 (x1 * 4294967296) x2 = x1 * 4294967296 + x2:=oJ 32 (by omega) (by omega) (by rw [Be]; omega) a2.1 (by rw [Be]; omega) (by omega)
 rw [e1,e2,e3,hior]
 obtain ⟨u2,hu2⟩:∃ u2,u2 = x1 * 4294967296 + x2:=⟨_,rfl⟩
 rw [← hu2] at K ⊢
 have hv1:=K.v10
 have h20:0 ≤ u2:=by omega
 have h21:u2 < 18446744073709551616:=by omega
 have hup1:=K.up1
 have hup:=K.up
 have hlt:=K.u2lt
 have ht0:=K.t0
 have ht1:=K.t1
 have hd1:=Int.mul_ediv_add_emod u2 v1
 have hm0:=Int.emod_nonneg u2 (show v1 ≠ 0 by omega)
 have hm1:=Int.emod_lt_of_pos u2 (show 0 < v1 by omega)
 have hq1:u2 / v1 ≤ u2:=Int.ediv_le_self _ h20
 have hqn:0 ≤ v1 * (u2 / v1):=Int.mul_nonneg (by omega) (Int.ediv_nonneg h20 (by omega))
 have hqt:t ≤ u2 / v1:=by rw [Int.le_ediv_iff_mul_le (by omega)]; exact hup1
 refine ap.quo (by omega) (ap.rem (by omega) ?_)
 rw [eo h20,eR h20]
 have e4:IntKind.u64.wrap (u2 / v1) = u2 / v1:=by rw [gO]; omega
 rw [e4]
 refine ap.bind (P:=fun d=>t ≤ d ∧ d ≤ t + 1 ∧ 0 ≤ d ∧ d < 4294967296) (ap.loop (fun (s:Int × Int)=>t ≤ s.1 ∧ s.1 ≤ u2 ∧ 0 ≤ s.2 ∧ s.2 ≤ u2 ∧ v1 * s.1 + s.2 = u2) (fun s=>s.1.toNat) ⟨hqt,hq1,hm0,by dsimp only; omega,hd1⟩ (by dsimp only; omega) ?_) (fun d hd=>ap.some hd)
 rintro ⟨d,r⟩ ⟨d0,d1,r0,r1,hs⟩
 dsimp only at d0 d1 r0 r1 hs
 dsimp only [b9]
 have hdn:0 ≤ d:=by omega
 have step:t ≤ d - 1 → r < 4294967296 → ap (bN (IntKind.u64.wrap (r + v1)) fun x_12=>(some (.inl (IntKind.u64.wrap (d - 1),x_12)):Option ((Int × Int) ⊕ Int))) fun o=>(∃ s',o = .inl s' ∧ (t ≤ s'.1 ∧ s'.1 ≤ u2 ∧ 0 ≤ s'.2 ∧ s'.2 ≤ u2 ∧ v1 * s'.1 + s'.2 = u2) ∧ s'.1.toNat < d.toNat) ∨ ∃ t',o = .inr t' ∧ t ≤ t' ∧ t' ≤ t + 1 ∧ 0 ≤ t' ∧ t' < 4294967296:=fun g hr=>by
  have e5:IntKind.u64.wrap (r + v1) = r + v1:=by rw [gO]; omega
  have e6:IntKind.u64.wrap (d - 1) = d - 1:=by rw [gO]; omega
  have e7:v1 * (d - 1) + (r + v1) = u2:=by rw [Int.mul_sub]; omega
  have e8:0 ≤ v1 * (d - 1):=Int.mul_nonneg (by omega) (by omega)
  rw [e5,e6]
  exact ap.ln (ap.some (.inl ⟨_,rfl,⟨g,by dsimp only; omega,by dsimp only; omega,by dsimp only; omega,e7⟩,by dsimp only; omega⟩))
 by_cases hr:r < 4294967296
 ·have hdr:decide (r < 4294967296) = true:=decide_eq_true hr
  by_cases hd:4294967296 ≤ d
  ·have hdd:decide (4294967296 ≤ d) = true:=decide_eq_true hd
   rw [hdr,hdd]
   refine ap.g0 rfl (ap.g0 rfl (ap.eX rfl ?_))
   exact step (by omega) hr
  ·have hdd:decide (4294967296 ≤ d) = false:=decide_eq_false hd
   rw [hdr,hdd]
   refine ap.g1 rfl (ap.idx (by omega) (by rw [aU.ck]; omega) (ap.g1 rfl (ap.idx (by omega) (by rw [cQ.ck]; omega) ?_)))
   simp only [dF,Int.toNat_natCast,hx3,hy2,Bool.true_and,Bool.false_or]
   have e5:IntKind.u64.wrap (r * 4294967296) = r * 4294967296:=by rw [gO]; omega
   have e6:IntKind.u64.wrap u0 = u0:=by rw [gO]; omega
   have e7:IntKind.u64.wrap v2 = v2:=by rw [gO]; omega
   have hm:=l7 (m:=4294967296) ⟨hdn,by omega⟩ b2
   have e8:IntKind.u64.wrap (d * v2) = d * v2:=by rw [gO]; omega
   have hior2:mU .u64 (r * 4294967296) u0 = r * 4294967296 + u0:=oJ 32 (by omega) (by omega) (by rw [Be]; omega) a3.1 (by rw [Be]; omega) (by omega)
   rw [e5,e6,e7,e8,hior2]
   have e9:d * (v1 * 4294967296 + v2) = (v1 * d) * 4294967296 + d * v2:=by grind
   refine ap.ite (fun h=>?_) (fun h=>?_)
   ·have h':=of_decide_eq_true h
    refine step ?_ hr
    rcases (by omega:d = t ∨ t ≤ d - 1) with e | e
    ·rw [← e,e9] at hup
     omega
    ·exact e
   ·have h':=of_decide_eq_false h
    exact ap.some (.inr ⟨_,rfl,d0,K.fin hdn (by rw [e9]; omega) (by omega),hdn,by omega⟩)
 ·have hdr:decide (r < 4294967296) = false:=decide_eq_false hr
  rw [hdr]
  refine ap.g0 rfl (ap.g0 rfl (ap.iff rfl ?_))
  have hdB:d < 4294967296:=by
   rcases (by omega:d < 4294967296 ∨ 4294967296 ≤ d) with e | e
   ·exact e
   ·have:=Int.mul_le_mul_of_nonneg_left e (show 0 ≤ v1 by omega)
    omega
  have hm:=l7 (m:=4294967296) ⟨hdn,hdB⟩ b2
  have e9:d * (v1 * 4294967296 + v2) = (v1 * d) * 4294967296 + d * v2:=by grind
  exact ap.some (.inr ⟨_,rfl,d0,K.fin hdn (by rw [e9]; omega) hdB,hdn,hdB⟩)
theorem uU {u:cQ} {j k:Nat} {x:Int} (h:j + k < 17):win (u.set ((j + k:Nat):Int) x).l j (k + 1) = win u.l j k + x * 4294967296 ^ k:=by
 rw [fY,cQ.fH (by omega) (by omega),Int.toNat_natCast,if_pos rfl]
 congr 1
 exact xg fun i h1 h2=>by rw [cQ.fH (by omega) (by omega),Int.toNat_natCast,if_neg (by omega)]
def sZ (u w:cQ) (j n:Nat):Prop:=∀ i,(i < j ∨ j + n < i) → dg w.l i = dg u.l i
theorem take_y {F:Nat} (hF:100 < F) {v:aU} {u:cQ} {n j:Nat} (hn:n ≤ 16) (hj:j + n ≤ 16) (hv:cM 4294967296 v.l) (hu:cM 4294967296 u.l) {d:Int} (hd:0 ≤ d ∧ d < 4294967296) :
  ap (nT F v (n:Int) (j:Int) d u) fun p=>cM 4294967296 p.2.l ∧ sZ u p.2 j n ∧ win u.l j (n + 1) + (if p.1 = true then 1 else 0) * 4294967296 ^ (n + 1) = win p.2.l j (n + 1) + d * win v.l 0 n:=by
 unfold nT
 have hw0:IntKind.i64.wrap ((j:Int) + (n:Int)) = ((j + n:Nat):Int):=by rw [cH]; omega
 rw [hw0]
 refine ap.bind (P:=fun (p:cQ × Int × Int)=>cM 4294967296 p.1.l ∧ (∀ i,(i < j ∨ j + n ≤ i) → dg p.1.l i = dg u.l i) ∧ (0 ≤ p.2.1 ∧ p.2.1 < 4294967296) ∧ (0 ≤ p.2.2 ∧ p.2.2 ≤ 1) ∧ win u.l j n + (p.2.1 + p.2.2) * 4294967296 ^ n = win p.1.l j n + d * win v.l 0 n)
  (ap.rounds n (fun (k:Nat) (s:cQ × Int × Int × Int)=>s.2.2.2 = (k:Int) ∧ cM 4294967296 s.1.l ∧ (∀ i,(i < j ∨ j + k ≤ i) → dg s.1.l i = dg u.l i) ∧ (0 ≤ s.2.1 ∧ s.2.1 < 4294967296) ∧ (0 ≤ s.2.2.1 ∧ s.2.2.1 ≤ 1) ∧ win u.l j k + (s.2.1 + s.2.2.1) * 4294967296 ^ k = win s.1.l j k + d * win v.l 0 k) (by omega) ⟨rfl,hu,fun i _=>rfl,⟨Int.le_refl _,(by decide:(0:Int) < 4294967296)⟩,⟨Int.le_refl _,(by decide:(0:Int) ≤ 1)⟩,by simp [win,ds]⟩ ?_) ?_
 ·rintro k ⟨w,c,b,kx⟩ hk ⟨rfl,win_,wo,⟨c0,c1⟩,⟨b0,b1⟩,hs⟩
  dsimp only at win_ wo c0 c1 b0 b1 hs
  dsimp only [un4]
  refine ap.ite (fun h=>?_) (fun h=>?_)
  ·have hk':k < n:=by have:=of_decide_eq_true h; omega
   have hwk:IntKind.i64.wrap ((j:Int) + (k:Int)) = ((j + k:Nat):Int):=by rw [cH]; omega
   rw [hwk]
   have hvk:=hv k
   have huk:=hu (j + k)
   have hwuk:=wo (j + k) (.inr (Nat.le_refl _))
   have hm:=l7 (m:=4294967296) hd hvk
   refine ap.idx (by omega) (by rw [aU.ck]; omega) ?_
   simp only [dF,Int.toNat_natCast]
   refine ap.r4 (d * dg v.l k) (by simp only [gO]; rw [Int.emod_eq_of_lt (a:=dg v.l k) (by omega) (by omega)]; omega) (ap.idx (by omega) (by rw [cQ.ck]; omega) ?_)
   simp only [dF,Int.toNat_natCast,hwuk]
   obtain ⟨p,hp⟩:∃ p,p = c + d * dg v.l k:=⟨_,rfl⟩
   have hp0:0 ≤ p ∧ p < 18446744073709551616:=by omega
   have hpw:IntKind.u64.wrap (c + d * dg v.l k) = p:=by rw [gO]; omega
   rw [hpw]
   generalize hU:dg u.l (j + k) = U at *
   refine ap.r4 (p % 4294967296) (by rw [lL]) ?_
   obtain ⟨τ,hτ⟩:∃ τ,τ = U - p % 4294967296 - b:=⟨_,rfl⟩
   refine ap.ln (ap.r4 (τ % 4294967296) (by simp only [lL,gO]; omega) (ap.idx (by omega) (by rw [cQ.ck]; omega) (ap.r4 (if τ < 0 then 1 else 0) (by simp only [gO]; split <;> omega) (ap.r4 (p / 4294967296) rfl (ap.some (.inl ⟨_,rfl,⟨by dsimp only; rw [cH]; omega,cQ.jB win_ (by omega) (by omega) (by omega),fun i hi=>?_,⟨by dsimp only; omega,by dsimp only; omega⟩,⟨by dsimp only; split <;> omega,by dsimp only; split <;> omega⟩,?_⟩,hk'⟩))))))
   ·dsimp only
    rw [cQ.fH (by omega) (by omega),Int.toNat_natCast,if_neg (by omega)]
    exact wo i (by omega)
   ·dsimp only
    rw [uU (by omega),fY,fY,hU,Nat.zero_add,Int.pow_succ]
    have e1:d * dg v.l k = p - c:=by omega
    have e2:p = p % 4294967296 + p / 4294967296 * 4294967296:=by omega
    have e3:U - p % 4294967296 - b = τ % 4294967296 - (if τ < 0 then 1 else 0) * 4294967296:=by rw [← hτ]; split <;> omega
    generalize p % 4294967296 = pl at *
    generalize p / 4294967296 = ph at *
    generalize (if τ < 0 then (1:Int) else 0) = bo at *
    generalize τ % 4294967296 = tl at *
    have e4:U = tl - bo * 4294967296 + pl + b:=by omega
    have e5:d * dg v.l k = pl + ph * 4294967296 - c:=by omega
    have e6:d * (win v.l 0 k + dg v.l k * 4294967296 ^ k) = d * win v.l 0 k + (d * dg v.l k) * 4294967296 ^ k:=by grind
    rw [e6,e5,e4]
    grind
  ·have hk':k = n:=by have:=of_decide_eq_false h; omega
   subst hk'
   exact ap.some (.inr ⟨_,rfl,win_,wo,⟨c0,c1⟩,⟨b0,b1⟩,hs⟩)
 ·rintro ⟨w,c,b⟩ ⟨win_,wo,⟨c0,c1⟩,⟨b0,b1⟩,hs⟩
  dsimp only at win_ wo c0 c1 b0 b1 hs
  dsimp only [ky]
  have huk:=hu (j + n)
  have hwuk:=wo (j + n) (.inr (Nat.le_refl _))
  refine ap.idx (by omega) (by rw [cQ.ck]; omega) ?_
  simp only [dF,Int.toNat_natCast,hwuk]
  generalize hU:dg u.l (j + n) = U at *
  obtain ⟨τ,hτ⟩:∃ τ,τ = U - c - b:=⟨_,rfl⟩
  refine ap.ln (ap.r4 (τ % 4294967296) (by simp only [lL,gO]; omega) (ap.idx (by omega) (by rw [cQ.ck]; omega) (ap.r4 (if τ < 0 then 1 else 0) (by simp only [gO]; split <;> omega) (ap.some ⟨cQ.jB win_ (by omega) (by omega) (by omega),fun i hi=>?_,?_⟩))))
  ·dsimp only
   rw [cQ.fH (by omega) (by omega),Int.toNat_natCast,if_neg (by omega)]
   exact wo i (by omega)
  ·dsimp only
   rw [uU (by omega),fY,hU,Int.pow_succ]
   have e3:U - c - b = τ % 4294967296 - (if τ < 0 then 1 else 0) * 4294967296:=by rw [← hτ]; split <;> omega
   have e7:(if decide ((if τ < 0 then (1:Int) else 0) = 1) = true then (1:Int) else 0) = if τ < 0 then 1 else 0:=by
    by_cases h:τ < 0
    ·rw [if_pos h]; rfl
    ·rw [if_neg h]; rfl
   rw [e7]
   generalize (if τ < 0 then (1:Int) else 0) = bo at *
   generalize τ % 4294967296 = tl at *
   have e4:U = tl - bo * 4294967296 + c + b:=by omega
   rw [e4]
   grind
theorem give_y {F:Nat} (hF:100 < F) {v:aU} {u:cQ} {n j:Nat} (hn:n ≤ 16) (hj:j + n ≤ 16) (hv:cM 4294967296 v.l) (hu:cM 4294967296 u.l) :
  ap (nU F v (n:Int) (j:Int) u) fun w=>cM 4294967296 w.l ∧ sZ u w j n ∧ win w.l j (n + 1) = (win u.l j (n + 1) + win v.l 0 n) % 4294967296 ^ (n + 1):=by
 unfold nU
 have hw0:IntKind.i64.wrap ((j:Int) + (n:Int)) = ((j + n:Nat):Int):=by rw [cH]; omega
 rw [hw0]
 refine ap.bind (P:=fun (p:cQ × Int)=>cM 4294967296 p.1.l ∧ (∀ i,(i < j ∨ j + n ≤ i) → dg p.1.l i = dg u.l i) ∧ (0 ≤ p.2 ∧ p.2 ≤ 1) ∧ win p.1.l j n + p.2 * 4294967296 ^ n = win u.l j n + win v.l 0 n)
  (ap.rounds n (fun (k:Nat) (s:cQ × Int × Int)=>s.2.2 = (k:Int) ∧ cM 4294967296 s.1.l ∧ (∀ i,(i < j ∨ j + k ≤ i) → dg s.1.l i = dg u.l i) ∧ (0 ≤ s.2.1 ∧ s.2.1 ≤ 1) ∧ win s.1.l j k + s.2.1 * 4294967296 ^ k = win u.l j k + win v.l 0 k) (by omega) ⟨rfl,hu,fun i _=>rfl,⟨Int.le_refl _,(by decide:(0:Int) ≤ 1)⟩,by simp [win,ds]⟩ ?_) ?_
 ·rintro k ⟨w,c,kx⟩ hk ⟨rfl,win_,wo,⟨c0,c1⟩,hs⟩
  dsimp only at win_ wo c0 c1 hs
  dsimp only [ky]
  refine ap.ite (fun h=>?_) (fun h=>?_)
  ·have hk':k < n:=by have:=of_decide_eq_true h; omega
   have hwk:IntKind.i64.wrap ((j:Int) + (k:Int)) = ((j + k:Nat):Int):=by rw [cH]; omega
   rw [hwk]
   have hvk:=hv k
   have huk:=hu (j + k)
   have hwuk:=wo (j + k) (.inr (Nat.le_refl _))
   refine ap.idx (by omega) (by rw [cQ.ck]; omega) (ap.idx (by omega) (by rw [aU.ck]; omega) ?_)
   simp only [dF,Int.toNat_natCast,hwuk]
   generalize hU:dg u.l (j + k) = U at *
   generalize hV:dg v.l k = V at *
   have e0:IntKind.u64.wrap (c + (IntKind.u64.wrap ((IntKind.u64.wrap U) + (IntKind.u64.wrap V)))) = c + (U + V):=by simp only [gO]; omega
   obtain ⟨p,hp⟩:∃ p,p = c + (U + V):=⟨_,rfl⟩
   refine ap.r4 p (by rw [e0,hp]) (ap.idx (by omega) (by rw [cQ.ck]; omega) (ap.r4 p (by rw [e0,hp]) ?_))
   rw [lL]
   refine ap.some (.inl ⟨_,rfl,⟨by dsimp only; rw [cH]; omega,cQ.jB win_ (by omega) (by omega) (by omega),fun i hi=>?_,⟨by dsimp only; omega,by dsimp only; omega⟩,?_⟩,hk'⟩)
   ·dsimp only
    rw [cQ.fH (by omega) (by omega),Int.toNat_natCast,if_neg (by omega)]
    exact wo i (by omega)
   ·dsimp only
    rw [uU (by omega),fY,fY,hU,Nat.zero_add,hV,Int.pow_succ]
    have e2:p = p % 4294967296 + p / 4294967296 * 4294967296:=by omega
    generalize p % 4294967296 = pl at *
    generalize p / 4294967296 = ph at *
    have e4:U = pl + ph * 4294967296 - c - V:=by omega
    rw [e4]
    grind
  ·have hk':k = n:=by have:=of_decide_eq_false h; omega
   subst hk'
   exact ap.some (.inr ⟨_,rfl,win_,wo,⟨c0,c1⟩,hs⟩)
 ·rintro ⟨w,c⟩ ⟨win_,wo,⟨c0,c1⟩,hs⟩
  dsimp only at win_ wo c0 c1 hs
  dsimp only [b9]
  have huk:=hu (j + n)
  have hwuk:=wo (j + n) (.inr (Nat.le_refl _))
  refine ap.idx (by omega) (by rw [cQ.ck]; omega) (ap.idx (by omega) (by rw [cQ.ck]; omega) ?_)
  simp only [dF,Int.toNat_natCast,hwuk]
  generalize hU:dg u.l (j + n) = U at *
  have e0:IntKind.u32.wrap (U + IntKind.u32.wrap c) = (U + c) % 4294967296:=by simp only [lL]; omega
  rw [e0]
  refine ap.some ⟨cQ.jB win_ (by omega) (by omega) (by omega),fun i hi=>?_,?_⟩
  ·rw [cQ.fH (by omega) (by omega),Int.toNat_natCast,if_neg (by omega)]
   exact wo i (by omega)
  ·rw [uU (by omega),fY,hU,Int.pow_succ]
   have e2:U + c = (U + c) % 4294967296 + (U + c) / 4294967296 * 4294967296:=by omega
   have hpw:(0:Int) < 4294967296 ^ n:=Int.pow_pos (by decide)
   have hlo:=gT win_ j n
   have hhi:=vx win_ j n
   have hx0:0 ≤ (U + c) % 4294967296 ∧ (U + c) % 4294967296 < 4294967296:=by omega
   generalize (U + c) % 4294967296 = x at *
   generalize (U + c) / 4294967296 = y at *
   have e3:win u.l j n + U * 4294967296 ^ n + win v.l 0 n = (win w.l j n + x * 4294967296 ^ n) + 4294967296 ^ n * 4294967296 * y:=by
    have e4:U = x + y * 4294967296 - c:=by omega
    rw [e4]
    grind
   have h1:x * 4294967296 ^ n ≤ 4294967295 * 4294967296 ^ n:=Int.mul_le_mul_of_nonneg_right (by omega) (by omega)
   have h2:0 ≤ x * 4294967296 ^ n:=Int.mul_nonneg hx0.1 (by omega)
   rw [e3,Int.add_mul_emod_self_left,Int.emod_eq_of_lt (by omega) (by omega)]
end Go.Proofs.YtcbbilehdaaffaaGreatDoor
namespace Go.Sk
set_option linter.unusedSimpArgs false
set_option linter.unusedVariables false
theorem EK {x:Int} (h:0 ≤ x ∧ x < 4294967296):cM 4294967296 [x]:=fun i=>by
 cases i with
 | zero=>exact h
 | succ i=>exact ⟨Int.le_refl _,(by decide:(0:Int) < 4294967296)⟩
theorem z7 {A B q r:Int} (h:A = q * B + r) (h0:0 ≤ r) (h1:r < B):A / B = q ∧ A % B = r:=by
 have hB:B ≠ 0:=by omega
 have e:A = r + B * q:=by rw [h,Int.mul_comm]; omega
 constructor
 ·rw [e,Int.add_mul_ediv_left _ _ hB,Int.ediv_eq_zero_of_lt h0 h1,Int.zero_add]
 ·rw [e,Int.add_mul_emod_self_left,Int.emod_eq_of_lt h0 h1]
def a17 (w:aU) (x:Int):cQ:=⟨w.a0,w.a1,w.a2,w.a3,w.a4,w.a5,w.a6,w.a7,w.a8,w.a9,w.a10,w.a11,w.a12,w.a13,w.a14,w.a15,x⟩
def Bf (u:cQ):aU:=⟨u.a0,u.a1,u.a2,u.a3,u.a4,u.a5,u.a6,u.a7,u.a8,u.a9,u.a10,u.a11,u.a12,u.a13,u.a14,u.a15⟩
theorem a17_l (w:aU) (x:Int):(a17 w x).l = w.l ++ [x]:=rfl
theorem a16_l (u:cQ):(Bf u).l = u.l.take 16:=rfl
theorem C0 (l:List Int) (n:Nat):win l 0 n = ds 4294967296 (dg l) n:=dy fun i _=>by rw [Nat.zero_add]
theorem sJ {l:List Int} {j n k:Nat} (h:∀ i,j + n ≤ i → dg l i = 0) (hk:n ≤ k):win l j k = win l j n:=AB (fun i hi=>h _ (by omega)) hk
theorem win_dig {l:List Int} (h:cM 4294967296 l) {n i:Nat} (hl:l.length ≤ n):dg l i = win l 0 n / 4294967296 ^ i % 4294967296:=by
 have e:win l 0 n = win l 0 (n + (i + 1)):=(sJ (fun k hk=>pU (by omega)) (by omega)).symm
 rw [e,C0]
 exact (Eg (b:=4294967296) (by decide) (by omega) h).symm
theorem win_zero {l:List Int} (h:cM 4294967296 l) {n k i:Nat} (hl:l.length ≤ n) (hv:win l 0 n < 4294967296 ^ k) (hi:k ≤ i):dg l i = 0:=by
 have h1:=gT h 0 n
 have h2:=qo (b:=4294967296) (by decide) hi
 rw [win_dig h hl,Int.ediv_eq_zero_of_lt h1 (by omega)]
 rfl
theorem win3 (l:List Int) (j m:Nat):win l j (m + 3) = win l j m + (dg l (j + m) + 4294967296 * (dg l (j + m + 1) + 4294967296 * dg l (j + m + 2))) * 4294967296 ^ m:=by
 rw [fY,fY,fY]
 have e1:(4294967296:Int) ^ (m + 1) = 4294967296 ^ m * 4294967296:=Int.pow_succ _ _
 have e2:(4294967296:Int) ^ (m + 1 + 1) = 4294967296 ^ m * 4294967296 * 4294967296:=by rw [Int.pow_succ,e1]
 rw [show m + 2 = m + 1 + 1 from rfl,e1,e2]
 show win l j m + dg l (j + m) * 4294967296 ^ m + dg l (j + m + 1) * (4294967296 ^ m * 4294967296) + dg l (j + m + 2) * (4294967296 ^ m * 4294967296 * 4294967296) = _
 grind
theorem win2 (l:List Int) (j m:Nat):win l j (m + 2) = win l j m + (dg l (j + m) + 4294967296 * dg l (j + m + 1)) * 4294967296 ^ m:=by
 rw [fY,fY]
 have e1:(4294967296:Int) ^ (m + 1) = 4294967296 ^ m * 4294967296:=Int.pow_succ _ _
 rw [e1]
 show win l j m + dg l (j + m) * 4294967296 ^ m + dg l (j + m + 1) * (4294967296 ^ m * 4294967296) = _
 grind
theorem MM32:MM = 4294967296 ^ 16:=rfl
theorem mc (n:Nat):(0:Int) < 4294967296 ^ n:=Int.pow_pos (by decide)
theorem norm_of {Bv x:Int} {m s:Nat} (hx:0 < x ∧ x < 4294967296) (hs:(s:Int) = 32 - fT x) (h0:x * 4294967296 ^ m ≤ Bv) (h1:Bv < (x + 1) * 4294967296 ^ m):s ≤ 31 ∧ 2147483648 * 4294967296 ^ m ≤ Bv * 2 ^ s ∧ Bv * 2 ^ s < 4294967296 ^ (m + 1):=by
 obtain ⟨b1,b2,b3⟩:=rC hx.1
 have b4:=ri (m:=x) (k:=32) (by rw [Be]; exact hx.2)
 have hp:=kh s
 have hq:=mc m
 refine ⟨by omega,?_,?_⟩
 ·have e:(2147483648:Int) = 2 ^ ((fT x).toNat - 1) * 2 ^ s:=by
   rw [← Int.pow_add]
   have:(fT x).toNat - 1 + s = 31:=by omega
   rw [this]; decide
  have g1:2 ^ ((fT x).toNat - 1) * 2 ^ s ≤ x * 2 ^ s:=Int.mul_le_mul_of_nonneg_right b2 (by omega)
  have g2:2147483648 * 4294967296 ^ m ≤ x * 2 ^ s * 4294967296 ^ m:=Int.mul_le_mul_of_nonneg_right (by omega) (by omega)
  have g3:x * 4294967296 ^ m * 2 ^ s ≤ Bv * 2 ^ s:=Int.mul_le_mul_of_nonneg_right h0 (by omega)
  have e2:x * 4294967296 ^ m * 2 ^ s = x * 2 ^ s * 4294967296 ^ m:=by grind
  omega
 ·have e:(4294967296:Int) = 2 ^ (fT x).toNat * 2 ^ s:=by
   rw [← Int.pow_add]
   have:(fT x).toNat + s = 32:=by omega
   rw [this]; decide
  have g1:(x + 1) * 2 ^ s ≤ 2 ^ (fT x).toNat * 2 ^ s:=Int.mul_le_mul_of_nonneg_right (by omega) (by omega)
  have g2:(x + 1) * 2 ^ s * 4294967296 ^ m ≤ 4294967296 * 4294967296 ^ m:=Int.mul_le_mul_of_nonneg_right (by omega) (by omega)
  have g3:Bv * 2 ^ s < (x + 1) * 4294967296 ^ m * 2 ^ s:=Int.mul_lt_mul_of_pos_right h1 hp
  have e2:(x + 1) * 4294967296 ^ m * 2 ^ s = (x + 1) * 2 ^ s * 4294967296 ^ m:=by grind
  rw [Int.pow_succ,Int.mul_comm (4294967296 ^ m)]
  omega
theorem kn_of {v:aU} {u:cQ} {m j:Nat} {V R t:Int} (hv:cM 4294967296 v.l) (hu:cM 4294967296 u.l) (hV:V = win v.l 0 (m + 2)) (hV2:2147483648 * 4294967296 ^ (m + 1) ≤ V) (hR:R = win u.l j (m + 3)) (hRV:R < 4294967296 * V) (ht:t = R / V) :
  Kn 4294967296 (4294967296 ^ m) (dg v.l (m + 1)) (dg v.l m) V (dg u.l (j + m + 2) * 4294967296 + dg u.l (j + m + 1)) (dg u.l (j + m)) R t:=by
 have hq:=mc m
 have hVp:0 < V:=by have:=mc (m + 1); omega
 have w2:=win2 v.l 0 m
 have w3:=win3 u.l j m
 rw [Nat.zero_add] at w2
 rw [← hV] at w2
 rw [← hR] at w3
 have l2:=gT hv 0 m
 have l3:=gT hu j m
 have g2:=vx hv 0 m
 have g3:=vx hu j m
 have a1:=hv m
 have a2:=hv (m + 1)
 have a3:=hu (j + m)
 have a4:=hu (j + m + 1)
 have a5:=hu (j + m + 2)
 have hR0:0 ≤ R:=by rw [hR]; exact gT hu _ _
 have e1:dg v.l m + 4294967296 * dg v.l (m + 1) = dg v.l (m + 1) * 4294967296 + dg v.l m:=by omega
 have e2:dg u.l (j + m) + 4294967296 * (dg u.l (j + m + 1) + 4294967296 * dg u.l (j + m + 2)) = (dg u.l (j + m + 2) * 4294967296 + dg u.l (j + m + 1)) * 4294967296 + dg u.l (j + m):=by omega
 rw [e1] at w2
 rw [e2] at w3
 have hpp:(4294967296:Int) ^ (m + 1) = 4294967296 ^ m * 4294967296:=Int.pow_succ _ _
 refine ⟨hq,?_,a2.2,a1,by omega,by rw [Int.add_mul (_ + _) 1]; omega,a3,by omega,by rw [Int.add_mul (_ + _) 1]; omega,by rw [ht]; exact Int.ediv_mul_le _ (by omega),by rw [ht]; exact Int.lt_ediv_add_one_mul_self _ hVp,by rw [ht]; exact Int.ediv_nonneg hR0 (by omega),by rw [ht,Int.ediv_lt_iff_lt_mul hVp]; exact hRV⟩
 rcases (by omega:2147483648 ≤ dg v.l (m + 1) ∨ dg v.l (m + 1) + 1 ≤ 2147483648) with g | g
 ·exact g
 ·have h1:(dg v.l (m + 1) + 1) * (4294967296 ^ m * 4294967296) ≤ 2147483648 * (4294967296 ^ m * 4294967296):=Int.mul_le_mul_of_nonneg_right g (by omega)
  have h2:(dg v.l m + 1) * 4294967296 ^ m ≤ 4294967296 * 4294967296 ^ m:=Int.mul_le_mul_of_nonneg_right (by omega) (by omega)
  have e3:(dg v.l (m + 1) * 4294967296 + dg v.l m) * 4294967296 ^ m = dg v.l (m + 1) * (4294967296 ^ m * 4294967296) + dg v.l m * 4294967296 ^ m:=by grind
  have e4:(dg v.l (m + 1) + 1) * (4294967296 ^ m * 4294967296) = dg v.l (m + 1) * (4294967296 ^ m * 4294967296) + 4294967296 ^ m * 4294967296:=by grind
  have e5:(dg v.l m + 1) * 4294967296 ^ m = dg v.l m * 4294967296 ^ m + 4294967296 ^ m:=by grind
  omega
end Go.Sk
namespace Go.Proofs.YtcbbilehdaaffaaGreatDoor
open Go Go.Sk
set_option linter.unusedSimpArgs false
set_option linter.unusedVariables false
theorem lz_y (F:Nat) {x:Int} (h0:0 ≤ x) (h1:x < 4294967296):eD F x = some (32 - fT x):=by
 refine ap.eq ?_
 unfold eD
 refine ap.ax (Cu F h0 h1) (ap.some ?_)
 have b4:=ri (m:=x) (k:=32) (by rw [Be]; exact h1)
 have b5:=qN x
 rw [cH]; omega
theorem z8 {F:Nat} (hF:18446744073709551616 < F) {v:aU} {u:cQ} {m j:Nat} {V R t:Int} (hm:m + 2 ≤ 16) (hj:j + (m + 2) ≤ 16) (hv:cM 4294967296 v.l) (hu:cM 4294967296 u.l) (hV:V = win v.l 0 (m + 2)) (hV2:2147483648 * 4294967296 ^ (m + 1) ≤ V) (hR:R = win u.l j (m + 3)) (hRV:R < 4294967296 * V) (ht:t = R / V) {β:Type} {k:cQ → Int → Option β} {Q:β → Prop} (hk:∀ w,cM 4294967296 w.l → sZ u w j (m + 2) → win w.l j (m + 3) = R - t * V → ap (k w t) Q) :
  ap (Option.bind (lX F v ((m + 2:Nat):Int) (j:Int) u) (fun x_22=>Option.bind (Option.bind (nT F v ((m + 2:Nat):Int) (j:Int) x_22 u) (b9 fun x_25 x_26=>if x_25 = true then (Option.bind (nU F v ((m + 2:Nat):Int) (j:Int) x_26) (fun x_27=>some (x_27,IntKind.u64.wrap (x_22 - 1)))) else (some (x_26,x_22)))) (b9 k))) Q:=by
 have K:=kn_of hv hu hV hV2 hR hRV ht
 have hVB:V < 4294967296 ^ (m + 3):=by
  have h1:=vx hv 0 (m + 2)
  have h2:=qo (b:=4294967296) (by decide) (show m + 2 ≤ m + 3 by omega)
  omega
 have hVp:0 < V:=by have:=mc (m + 1); omega
 refine ap.bind (guess_y hF (n:=m + 2) (j:=j) (by omega) hj hv hu (P:=4294967296 ^ m) (V:=V) (R:=R) (t:=t) ?_) ?_
 ·have e1:m + 2 - 1 = m + 1:=by omega
  have e2:m + 2 - 2 = m:=by omega
  have e3:j + (m + 2) = j + m + 2:=by omega
  have e4:j + (m + 2) - 1 = j + m + 1:=by omega
  have e5:j + (m + 2) - 2 = j + m:=by omega
  rw [e1,e2,e4,e5,e3]
  exact K
 ·rintro d ⟨d0,d1,d2,d3⟩
  have ht1:=K.t1
  have ht0:=K.t0
  have hRt:=K.Rt
  have hRt1:=K.tR
  have e9:(t + 1) * V = t * V + V:=by grind
  rw [e9] at hRt1
  refine ap.bind (P:=fun p=>p.2 = t ∧ cM 4294967296 p.1.l ∧ sZ u p.1 j (m + 2) ∧ win p.1.l j (m + 3) = R - t * V) (ap.bind (take_y (by omega) (n:=m + 2) (j:=j) hm hj hv hu ⟨d2,d3⟩) ?_) ?_
  ·rintro ⟨bw,w⟩ ⟨win_,wo,hs⟩
   dsimp only at win_ wo hs
   dsimp only [b9]
   rw [← hV] at hs
   have hs':R + (if bw = true then 1 else 0) * 4294967296 ^ (m + 3) = win w.l j (m + 3) + d * V:=by rw [hR]; exact hs
   clear hs
   have w0:=gT win_ j (m + 3)
   have w1:=vx win_ j (m + 3)
   rcases (by omega:d = t ∨ d = t + 1) with e | e
   ·subst e
    cases bw with
    | true=>
     simp only [if_true] at hs'
     omega
    | false=>
     refine ap.iff rfl (ap.some ⟨rfl,win_,wo,?_⟩)
     simp only [Bool.false_eq_true,if_false] at hs'
     dsimp only
     omega
   ·subst e
    rw [e9] at hs'
    cases bw with
    | false=>
     simp only [Bool.false_eq_true,if_false] at hs'
     omega
    | true=>
     simp only [if_true] at hs'
     refine ap.eX rfl (ap.bind (give_y (by omega) (n:=m + 2) (j:=j) hm hj hv win_) ?_)
     rintro z ⟨zin,zo,hz⟩
     have hz':win z.l j (m + 3) = (win w.l j (m + 3) + V) % 4294967296 ^ (m + 3):=by rw [hV]; exact hz
     have e10:win w.l j (m + 3) + V = (R - t * V) + 4294967296 ^ (m + 3) * 1:=by omega
     rw [e10,Int.add_mul_emod_self_left,Int.emod_eq_of_lt (by omega) (by omega)] at hz'
     refine ap.some ⟨?_,zin,fun i hi=>by rw [zo i hi,wo i hi],hz'⟩
     dsimp only
     rw [gO]; omega
  ·rintro ⟨w,d'⟩ ⟨rfl,h1,h2,h3⟩
   exact hk w h1 h2 h3
theorem wC {F:Nat} (hF:18446744073709551616 < F) {a b:aU} (ha:cM 4294967296 a.l) (hb:cM 4294967296 b.l) (h0:av b ≠ 0):iW F a b = some (tC (av a / av b),tC (av a % av b)):=by
 refine ap.eq ?_
 have hb0:=(fA hb).1
 have ha0:=(fA ha).1
 have hbp:0 < av b:=by omega
 unfold iW
 refine ap.bind (r9 (by omega)) ?_
 rintro nb ⟨nb0,nb1,nbz,nbt⟩
 refine ap.bind (r9 (by omega)) ?_
 rintro na ⟨na0,na1,naz,nat⟩
 refine ap.ax (u3 (by omega) ha hb) ?_
 obtain ⟨m,rfl⟩:∃ m:Nat,nb = m:=⟨nb.toNat,by omega⟩
 obtain ⟨l,rfl⟩:∃ l:Nat,na = l:=⟨na.toNat,by omega⟩
 rw [Int.toNat_natCast] at nbz nbt naz nat
 refine ap.ite (fun h=>?_) (fun h=>?_)
 ·have h':=of_decide_eq_true h
  have hlt:av a < av b:=by
   rcases (by omega:av a < av b ∨ ¬ av a < av b) with g | g
   ·exact g
   ·rw [if_neg g] at h'; split at h' <;> omega
  refine ap.some ?_
  rw [Int.ediv_eq_zero_of_lt ha0 hlt,Int.emod_eq_of_lt ha0 hlt,pY ha,← zero_eq]
 ·have h':=of_decide_eq_false h
  have hge:av b ≤ av a:=by
   rcases (by omega:av a < av b ∨ av b ≤ av a) with g | g
   ·rw [if_pos g] at h'; omega
   ·exact g
  clear h h'
  have hbm:av b = ds 4294967296 (dg b.l) m:=mh (by omega) fun i h1 h2=>nbz i h1 h2
  have ham:av a = ds 4294967296 (dg a.l) l:=mh (by omega) fun i h1 h2=>naz i h1 h2
  refine ap.ite (fun h=>?_) (fun h=>?_)
  ·have h1:m = 1:=by have:=of_decide_eq_true h; omega
   subst h1
   have e1:av b = b.a0:=by rw [hbm]; simp [ds]; rfl
   have hb1:=hb 0
   have e2:dg b.l 0 = b.a0:=rfl
   rw [e2] at hb1
   refine ap.ax (BA (by omega) ha (b:=b.a0) (by omega)) ?_
   dsimp only [b9]
   refine ap.ln (ap.some ?_)
   rw [e1]
   congr 1
   have hm0:=Int.emod_nonneg (av a) (show b.a0 ≠ 0 by omega)
   have hm1:=Int.emod_lt_of_pos (av a) (show 0 < b.a0 by omega)
   refine x6 (Aq (a:=av a % b.a0) (b:=0) ⟨hm0,by omega⟩ ⟨Int.le_refl _,by decide⟩) ?_
   rw [AH]
   omega
  ·have h1:m ≠ 1:=by have:=of_decide_eq_false h; omega
   clear h
   have hm0:m ≠ 0:=by
    rintro rfl
    rw [hbm] at hbp
    exact absurd hbp (by simp [ds])
   obtain ⟨m,rfl⟩:∃ m',m = m' + 2:=⟨m - 2,by omega⟩
   have hml:m + 2 ≤ l:=by
    rcases Nat.lt_or_ge l (m + 2) with g | g
    ·have g1:=pS (b:=4294967296) (by decide) (f:=dg a.l) (n:=l) fun i _=>ha i
     have g2:=nbt (by omega)
     have e3:m + 2 - 1 = m + 1:=by omega
     rw [e3] at g2
     have g3:=hb (m + 1)
     have g4:=dY (b:=4294967296) (by decide) (f:=dg b.l) (n:=m + 1) fun i _=>(hb i).1
     have g5:1 * (4294967296:Int) ^ (m + 1) ≤ dg b.l (m + 1) * 4294967296 ^ (m + 1):=Int.mul_le_mul_of_nonneg_right (by omega) (Int.le_of_lt (mc _))
     have g6:=qo (b:=4294967296) (by decide) (show l ≤ m + 1 by omega)
     rw [hbm,ham,dm] at hge
     omega
    ·exact g
   have hw1:IntKind.i64.wrap (((m + 2:Nat):Int) - 1) = ((m + 1:Nat):Int):=by rw [cH]; omega
   have hwl:IntKind.i64.wrap ((l:Int) - ((m + 2:Nat):Int)) = ((l - (m + 2):Nat):Int):=by rw [cH]; omega
   rw [hw1]
   refine ap.idx (by omega) (by rw [aU.ck]; omega) ?_
   simp only [dF,Int.toNat_natCast]
   have hx:=hb (m + 1)
   have hxt:dg b.l (m + 1) ≠ 0:=by
    have g2:=nbt (by omega)
    have e3:m + 2 - 1 = m + 1:=by omega
    rw [e3] at g2
    exact g2
   generalize hxx:dg b.l (m + 1) = x at *
   refine ap.ax (lz_y F hx.1 hx.2) ?_
   have b4:=ri (m:=x) (k:=32) (by rw [Be]; exact hx.2)
   obtain ⟨s,hs⟩:∃ s:Nat,(s:Int) = 32 - fT x:=⟨(32 - fT x).toNat,by omega⟩
   rw [← hs]
   have hlo:ds 4294967296 (dg b.l) (m + 1) < 4294967296 ^ (m + 1):=pS (by decide) fun i _=>hb i
   have hlo0:=dY (b:=4294967296) (by decide) (f:=dg b.l) (n:=m + 1) fun i _=>(hb i).1
   have hbs:av b = ds 4294967296 (dg b.l) (m + 1) + x * 4294967296 ^ (m + 1):=by rw [hbm,dm,hxx]
   obtain ⟨hs31,hn1,hn2⟩:=norm_of (Bv:=av b) (x:=x) (m:=m + 1) (s:=s) ⟨by omega,hx.2⟩ hs (by omega) (by rw [Int.add_mul x 1]; omega)
   refine ap.bind (up_y (by omega) hb hs31) ?_
   rintro ⟨v,cv⟩ ⟨vin,cv0,cv1,vs⟩
   dsimp only at vin cv0 cv1 vs
   refine ap.bind (up_y (by omega) ha hs31) ?_
   rintro ⟨w,cw⟩ ⟨win_,cw0,cw1,ws⟩
   dsimp only at win_ cw0 cw1 ws
   dsimp only [b9]
   have hp2:=kh s
   have hp31:=yf hs31
   have hvr:=fA vin
   have hcv:cv = 0:=by
    have g1:=qo (b:=4294967296) (by decide) (show m + 1 + 1 ≤ 16 by omega)
    rw [← MM32] at g1
    rcases (by omega:cv = 0 ∨ 1 ≤ cv) with g | g
    ·exact g
    ·have:=Int.mul_le_mul_of_nonneg_right g (show 0 ≤ MM by have:=tO; omega)
     omega
   subst hcv
   rw [Int.zero_mul,Int.add_zero] at vs
   obtain ⟨V,hVd⟩:∃ V,V = av v:=⟨_,rfl⟩
   have hVs:V = av b * 2 ^ s:=by rw [hVd,vs]
   have hVw:V = win v.l 0 (m + 2):=by
    have e1:V = win v.l 0 16:=by rw [hVd,C0]; rfl
    rw [e1]
    refine sJ (fun i hi=>win_zero vin (n:=16) (k:=m + 2) (by rw [aU.ck]; omega) ?_ (by omega)) (by omega)
    rw [← e1,hVs]; exact hn2
   have hVp:0 < V:=by rw [hVs]; exact Int.mul_pos hbp hp2
   rw [hwl]
   obtain ⟨J,hJ⟩:∃ J,J = l - (m + 2):=⟨_,rfl⟩
   rw [← hJ]
   have hcw:cw < 4294967296:=by omega
   show ap (Option.bind (iter F _ (aU.zero,a17 w cw,(J:Int))) _) _
   have uin0:cM 4294967296 (a17 w cw).l:=fun i=>by
    rw [a17_l,og]
    split
    ·exact win_ i
    ·exact EK ⟨cw0,hcw⟩ _
   obtain ⟨u0,hu0⟩:∃ u0,u0 = a17 w cw:=⟨_,rfl⟩
   rw [← hu0] at uin0 ⊢
   have hU:win u0.l 0 17 = av a * 2 ^ s:=by
    rw [fY,← ws,MM32]
    have e1:win u0.l 0 16 = av w:=by
     rw [hu0,C0]
     exact dy fun i hi=>by rw [a17_l,og,if_pos (by rw [aU.ck]; exact hi)]
    have e2:dg u0.l (0 + 16) = cw:=by rw [hu0]; rfl
    rw [e1,e2]
   have hUl:win u0.l 0 17 < 4294967296 ^ (J + 1) * (4294967296 ^ (m + 1) * 2 ^ s):=by
    have g1:=pS (b:=4294967296) (by decide) (f:=dg a.l) (n:=l) fun i _=>ha i
    rw [← ham] at g1
    have g2:=Int.mul_lt_mul_of_pos_right g1 hp2
    rw [hU,← Int.mul_assoc,← Int.pow_add]
    have e1:J + 1 + (m + 1) = l:=by omega
    rw [e1]; exact g2
   have hVge:4294967296 ^ (m + 1) * 2 ^ s ≤ V:=by
    have g1:1 * 4294967296 ^ (m + 1) ≤ x * 4294967296 ^ (m + 1):=Int.mul_le_mul_of_nonneg_right (by omega) (Int.le_of_lt (mc _))
    have g2:=Int.mul_le_mul_of_nonneg_right (show 4294967296 ^ (m + 1) ≤ av b by omega) (Int.le_of_lt hp2)
    rw [hVs]; exact g2
   have hUz:∀ i,J + 1 + (m + 2) ≤ i → dg u0.l i = 0:=fun i hi=>by
    refine win_zero uin0 (n:=17) (k:=J + 1 + (m + 2)) (by rw [cQ.ck]; omega) ?_ hi
    have g1:(4294967296:Int) ^ (m + 1) * 2 ^ s ≤ 4294967296 ^ (m + 1) * 4294967296:=Int.mul_le_mul_of_nonneg_left (by omega) (Int.le_of_lt (mc _))
    have g2:=Int.mul_le_mul_of_nonneg_left g1 (Int.le_of_lt (mc (J + 1)))
    rw [← Int.pow_succ,← Int.pow_add] at g2
    have g3:(4294967296:Int) ^ (J + 1 + (m + 1).succ) = 4294967296 ^ (J + 1 + (m + 2)):=rfl
    omega
   have hUt:win u0.l (J + 1) (m + 2) < V:=by
    have e1:win u0.l (J + 1) (m + 2) = win u0.l (0 + (J + 1)) (17 - (J + 1)):=by
     rw [Nat.zero_add]
     exact (sJ (fun i hi=>hUz i hi) (by omega)).symm
    have e2:17 = (J + 1) + (17 - (J + 1)):=by omega
    rw [e1,← win_div uin0,← e2,Int.ediv_lt_iff_lt_mul (mc _)]
    have g1:=Int.mul_le_mul_of_nonneg_left hVge (Int.le_of_lt (mc (J + 1)))
    rw [Int.mul_comm V]
    omega
   refine ap.bind (P:=fun (p:aU × cQ)=>cM 4294967296 p.1.l ∧ cM 4294967296 p.2.l ∧ win u0.l 0 17 = win p.1.l 0 17 * V + win p.2.l 0 (m + 2) ∧ win p.2.l 0 (m + 2) < V ∧ ∀ i,m + 2 ≤ i → dg p.2.l i = 0)
    (ap.rounds (J + 1) (fun (k:Nat) (st:aU × cQ × Int)=>st.2.2 = (J:Int) - (k:Int) ∧ cM 4294967296 st.1.l ∧ cM 4294967296 st.2.1.l ∧ (∀ i,i < J + 1 - k → dg st.2.1.l i = dg u0.l i) ∧ (∀ i,J + 1 - k + (m + 2) ≤ i → dg st.2.1.l i = 0) ∧ win st.2.1.l (J + 1 - k) (m + 2) < V ∧ win u0.l (J + 1 - k) (17 - (J + 1 - k)) = win st.1.l (J + 1 - k) (17 - (J + 1 - k)) * V + win st.2.1.l (J + 1 - k) (m + 2)) (by omega) ⟨by dsimp only; omega,j6,uin0,fun i _=>rfl,hUz,hUt,?_⟩ ?_) ?_
   ·dsimp only
    have e1:win aU.zero.l (J + 1 - 0) (17 - (J + 1 - 0)) = 0:=nq fun i _=>by
     have:aU.zero.l = List.replicate 16 0:=rfl
     rw [this,dj]
    rw [e1,Int.zero_mul,Int.zero_add]
    exact sJ (fun i hi=>hUz i hi) (by omega)
   ·rintro k ⟨q,u,jx⟩ hk ⟨rfl,qin,uin,ulo,uhi,ult,us⟩
    dsimp only at qin uin ulo uhi ult us
    dsimp only [ky]
    refine ap.ite (fun h=>?_) (fun h=>?_)
    ·have hk':k < J + 1:=by have:=of_decide_eq_true h; omega
     obtain ⟨j,hj⟩:∃ j,j = J - k:=⟨_,rfl⟩
     have ej:(J:Int) - (k:Int) = (j:Int):=by omega
     have ej1:J + 1 - k = j + 1:=by omega
     rw [ej]
     rw [ej1] at ulo uhi ult us
     obtain ⟨R,hR⟩:∃ R,R = win u.l j (m + 3):=⟨_,rfl⟩
     have hR2:R = dg u.l j + 4294967296 * win u.l (j + 1) (m + 2):=by rw [hR]; exact win_cons u.l j (m + 2)
     have hdj:=uin j
     have hRV:R < 4294967296 * V:=by omega
     have hR0:0 ≤ R:=by rw [hR]; exact gT uin _ _
     obtain ⟨t,ht⟩:∃ t,t = R / V:=⟨_,rfl⟩
     have ht0:0 ≤ t:=by rw [ht]; exact Int.ediv_nonneg hR0 (by omega)
     have ht1:t < 4294967296:=by rw [ht,Int.ediv_lt_iff_lt_mul hVp]; exact hRV
     have hRt:t * V ≤ R:=by rw [ht]; exact Int.ediv_mul_le _ (by omega)
     have hRt1:R < (t + 1) * V:=by rw [ht]; exact Int.lt_ediv_add_one_mul_self _ hVp
     have e9:(t + 1) * V = t * V + V:=by grind
     rw [e9] at hRt1
     refine ap.bind (P:=fun p=>p.1 = q.set (j:Int) t ∧ cM 4294967296 p.2.l ∧ sZ u p.2 j (m + 2) ∧ win p.2.l j (m + 3) = R - t * V) (z8 hF (j:=j) (by omega) (by omega) vin uin hVw (by rw [hVs]; exact hn1) hR hRV ht ?_) ?_
     ·intro w1 g1 g2 g3
      refine ap.idx (by omega) (by rw [aU.ck]; omega) (ap.some ⟨?_,g1,g2,g3⟩)
      dsimp only
      rw [lL]
      congr 1
      omega
     ·rintro ⟨q1,u1⟩ ⟨rfl,u1in,u1o,u1w⟩
      dsimp only at u1in u1o u1w
      dsimp only [b9]
      have hVB:V < 4294967296 ^ (m + 2):=by rw [hVs]; exact hn2
      have htop:dg u1.l (j + (m + 2)) = 0 ∧ win u1.l j (m + 2) = R - t * V:=by
       have e1:win u1.l j (m + 3) = win u1.l j (m + 2) + dg u1.l (j + (m + 2)) * 4294967296 ^ (m + 2):=fY _ _ _
       have g1:=gT u1in j (m + 2)
       have g2:=u1in (j + (m + 2))
       rcases (by omega:dg u1.l (j + (m + 2)) = 0 ∨ 1 ≤ dg u1.l (j + (m + 2))) with g | g
       ·rw [g] at e1
        exact ⟨g,by omega⟩
       ·have:=Int.mul_le_mul_of_nonneg_right g (Int.le_of_lt (mc (m + 2)))
        omega
      have ej2:J + 1 - (k + 1) = j:=by omega
      refine ap.some (.inl ⟨_,rfl,⟨by dsimp only; rw [cH]; omega,jB qin (by omega) (by omega) ⟨ht0,ht1⟩,u1in,fun i hi=>?_,fun i hi=>?_,?_,?_⟩,hk'⟩)
      ·dsimp only
       rw [ej2] at hi
       rw [u1o i (.inl hi),ulo i (by omega)]
      ·dsimp only
       rw [ej2] at hi
       by_cases e:i = j + (m + 2)
       ·rw [e]; exact htop.1
       ·rw [u1o i (.inr (by omega)),uhi i (by omega)]
      ·dsimp only
       rw [ej2,htop.2]; omega
      ·dsimp only
       rw [ej2,htop.2]
       have e1:17 - j = 17 - (j + 1) + 1:=by omega
       rw [e1,win_cons u0.l,win_cons (q.set (j:Int) t).l,us]
       have e2:dg (q.set (j:Int) t).l j = t:=by rw [fH (by omega) (by omega),Int.toNat_natCast,if_pos rfl]
       have e3:win (q.set (j:Int) t).l (j + 1) (17 - (j + 1)) = win q.l (j + 1) (17 - (j + 1)):=xg fun i h1 h2=>by rw [fH (by omega) (by omega),Int.toNat_natCast,if_neg (by omega)]
       rw [e2,e3,← ulo j (by omega),hR2]
       grind
    ·have hk':k = J + 1:=by have:=of_decide_eq_false h; omega
     subst hk'
     have e0:J + 1 - (J + 1) = 0:=by omega
     rw [e0] at uhi ult us
     exact ap.some (.inr ⟨_,rfl,qin,uin,us,ult,fun i hi=>uhi i (by omega)⟩)
   ·rintro ⟨q,u⟩ ⟨qin,uin,us,ult,uz⟩
    dsimp only at qin uin us ult uz
    dsimp only [b9]
    have hain:cM 4294967296 (Bf u).l:=fun i=>by
     rw [a16_l,oP]
     split
     ·exact uin i
     ·decide
    have hav:av (Bf u) = win u.l 0 (m + 2):=by
     rw [← sJ (k:=16) (fun i hi=>uz i (by omega)) (by omega),C0]
     exact dy fun i hi=>by rw [a16_l,oP,if_pos hi]
    have hq:win q.l 0 17 = av q:=by
     rw [C0]
     exact AB (fun i hi=>pU (by rw [aU.ck]; exact hi)) (by omega)
    rw [hU,hq,hVs] at us
    have hR0:0 ≤ win u.l 0 (m + 2):=gT uin _ _
    have hrs:win u.l 0 (m + 2) = (av a - av q * av b) * 2 ^ s:=by
     have e1:(av a - av q * av b) * 2 ^ s = av a * 2 ^ s - av q * (av b * 2 ^ s):=by grind
     omega
    have hdiv:win u.l 0 (m + 2) / 2 ^ s = av a - av q * av b:=by rw [hrs,Int.mul_ediv_cancel _ (by omega)]
    have hr0:0 ≤ av a - av q * av b:=by rw [← hdiv]; exact Int.ediv_nonneg hR0 (by omega)
    have hr1:av a - av q * av b < av b:=by
     rw [hrs,hVs] at ult
     exact Int.lt_of_mul_lt_mul_right ult (by omega)
    obtain ⟨d1,d2⟩:=z7 (A:=av a) (B:=av b) (q:=av q) (r:=av a - av q * av b) (by omega) hr0 hr1
    show ap (Option.bind (nV F (Bf u) (s:Int)) _) _
    refine ap.ax (down_y (by omega) hain hs31) (ap.some ?_)
    rw [hav,hdiv,d1,d2,pY qin]
theorem xy {F:Nat} (hF:18446744073709551616 < F) {x y:br} (hx:jX x) (hy:jX y):jQ F x y = some (two wP x y,two wO x y):=by
 refine ap.eq ?_
 unfold jQ two
 refine ap.ax (Bn (by omega) x y) ?_
 cases ha:iv x with
 | none=>simp only [b8 ha,Bool.false_and,Bool.not_false,Bool.not_true]; exact ap.g0 rfl (ap.eX (by simp) (ap.ax (mb F) (ap.ax (mb F) (ap.some rfl))))
 | some a=>
  cases hb:iv y with
  | none=>simp only [b8 hb,Bool.and_false,Bool.not_false,Bool.not_true]; exact ap.g0 rfl (ap.eX (by simp) (ap.ax (mb F) (ap.ax (mb F) (ap.some rfl))))
  | some b=>
   obtain ⟨ga,rfl,ra⟩:=bZ hx ha
   obtain ⟨gb,rfl,rb⟩:=bZ hy hb
   obtain ⟨wa,na⟩:=cn ra
   obtain ⟨wb,nb⟩:=cn rb
   have hsb:gD F (cP b) = some (rZ b):=by rw [Eo (by omega) (ba b),hb]
   simp only [ga,gb,Bool.and_self,Bool.not_true,Bool.not_false]
   refine ap.g1 rfl (ap.ax hsb ?_)
   have hsg:rZ b = 0 ↔ b = 0:=by unfold rZ; split <;> (try split) <;> omega
   rw [Bool.false_or]
   refine ap.ite (fun h=>?_) (fun h=>?_)
   ·have hz:b = 0:=hsg.1 (of_decide_eq_true h)
    refine ap.ax (mb F) (ap.ax (mb F) (ap.some ?_))
    simp only [wP,wO,hz,if_true,ud]
   ·have hz:b ≠ 0:=fun e=>(of_decide_eq_false h) (hsg.2 e)
    clear h
    simp only [wP,wO,hz,if_false,ud]
    obtain ⟨t1,t2⟩:=tq a hz
    have hB:=lf hz
    have hm0:=Int.emod_nonneg (aK a) (show aK b ≠ 0 by omega)
    have hm1:=Int.emod_lt_of_pos (aK a) hB
    have hq0:0 ≤ aK a / aK b:=Int.ediv_nonneg (dJ a) (by omega)
    have hq1:aK a / aK b ≤ aK a:=Int.ediv_le_self _ (dJ a)
    have hsa:jL F (cP a) = some (if -9223372036854775808 ≤ a ∧ a ≤ 9223372036854775807 then (a,true) else (0,false)):=by rw [Ct (by omega) (ba a),ha]
    have hsb2:jL F (cP b) = some (if -9223372036854775808 ≤ b ∧ b ≤ 9223372036854775807 then (b,true) else (0,false)):=by rw [Ct (by omega) (ba b),hb]
    refine ap.bind (P:=fun r=>match r with | .inl _=>True | .inr z=>z = (cP (fq a b),cP (fr a b))) ?_ ?_
    ·refine ap.ax hsa ?_
     by_cases h1:-9223372036854775808 ≤ a ∧ a ≤ 9223372036854775807
     ·rw [if_pos h1]
      dsimp only [b9]
      refine ap.ite (fun h=>?_) (fun h=>?_)
      ·have h2:a ≠ -9223372036854775808:=by simpa using h
       refine ap.ax hsb2 ?_
       by_cases h3:-9223372036854775808 ≤ b ∧ b ≤ 9223372036854775807
       ·rw [if_pos h3]
        dsimp only [b9]
        refine ap.ite (fun h=>?_) (fun h=>?_)
        ·have h4:b ≠ -9223372036854775808:=by simpa using h
         have habs:aK a ≤ 9223372036854775807:=by unfold aK; split <;> omega
         have hbbs:aK b ≤ 9223372036854775807:=by unfold aK; split <;> omega
         refine ap.quo hz (ap.rem hz ?_)
         have hw:IntKind.i64.wrap (Int.tdiv a b) = Int.tdiv a b:=by rw [t1]; split <;> rw [fL (by omega) (by omega)]
         rw [hw]
         have hf1:=Ed (a:=a) hz
         have hf2:=(s6 (a:=a) hz).1
         refine ap.bind (P:=fun p=>p = (fq a b,fr a b)) (ap.ln ?_) ?_
         ·unfold fq fr
          dsimp only
          rw [t1,t2]
          generalize aK a / aK b = q at *
          generalize aK a % aK b = r at *
          refine ap.ite (fun h=>?_) (fun h=>?_)
          ·simp only [Bool.and_eq_true,decide_eq_true_eq] at h
           obtain ⟨g1,g2⟩:=h
           have hr0:r ≠ 0:=by split at g1 <;> omega
           have e1:decide ((if a < 0 then -r else r) < 0) = decide (a < 0):=by rw [decide_eq_decide]; split <;> omega
           rw [e1] at g2
           refine ap.some ?_
           rw [g2,if_pos rfl,if_pos rfl,if_neg hr0]
           have e2:(true && !decide (r = 0)) = true:=by simp [hr0]
           rw [if_pos e2]
           by_cases hla:a < 0
           ·have hlb:¬ b < 0:=fun hlb=>by simp [hla,hlb] at g2
            have eb:aK b = b:=if_neg hlb
            rw [if_pos hla,if_neg hlb,fL (by omega) (by omega),fL (by omega) (by omega)]
            simp only [Prod.mk.injEq]
            omega
           ·have hlb:b < 0:=by
             by_cases hlb:b < 0
             ·exact hlb
             ·simp [hla,hlb] at g2
            have eb:aK b = -b:=if_pos hlb
            rw [if_neg hla,if_pos hlb,fL (by omega) (by omega),fL (by omega) (by omega)]
            simp only [Prod.mk.injEq]
            omega
          ·refine ap.some ?_
           by_cases hr0:r = 0
           ·subst hr0
            have e3:(if a < 0 then -(0:Int) else 0) = 0:=by split <;> rfl
            rw [e3]
            simp
           ·have e1:decide ((if a < 0 then -r else r) < 0) = decide (a < 0):=by rw [decide_eq_decide]; split <;> omega
            have e4:decide ((if a < 0 then -r else r) ≠ 0) = true:=decide_eq_true (by split <;> omega)
            rw [e1,e4,Bool.true_and] at h
            have hab:decide (a < 0) = decide (b < 0):=by simpa using h
            have hab2:(a < 0) = (b < 0):=propext (decide_eq_decide.1 hab)
            rw [h]
            simp only [Bool.false_eq_true,if_false,Bool.false_and,hab2]
         ·rintro ⟨q,r⟩ he
          cases he
          dsimp only [b9]
          have hA:-9223372036854775807 ≤ fq a b ∧ fq a b ≤ 9223372036854775807:=by unfold aK at hf1 habs; split at hf1 <;> (split at habs <;> omega)
          have hA2:-9223372036854775807 ≤ fr a b ∧ fr a b ≤ 9223372036854775807:=by unfold aK at hf2 hbbs; split at hf2 <;> (split at hbbs <;> omega)
          exact ap.ax (Of_y F (by omega) (by omega)) (ap.ax (Of_y F (by omega) (by omega)) (ap.some rfl))
        ·exact ap.some trivial
       ·rw [if_neg h3]
        exact ap.iff rfl (ap.some trivial)
      ·exact ap.some trivial
     ·rw [if_neg h1]
      exact ap.iff rfl (ap.some trivial)
    ·rintro (u | z) hz2
     ·clear hz2 hsa hsb2
      have hW0:av (cP b).W ≠ 0:=by rw [wb]; show aK b ≠ 0; omega
      refine ap.ax (wC hF (ba a) (ba b) hW0) ?_
      have wa':av (cP a).W = aK a:=wa
      have wb':av (cP b).W = aK b:=wb
      rw [wa',wb',na,nb]
      dsimp only [b9]
      have hla:=oT ra
      have hlb:=oT rb
      refine ap.ax (hO F _ (lx _)) ?_
      have hqm:aK a / aK b % MM = aK a / aK b:=Int.emod_eq_of_lt hq0 (by omega)
      have hrm:aK a % aK b % MM = aK a % aK b:=Int.emod_eq_of_lt hm0 (by omega)
      rw [jD,hqm]
      have hrz:decide (tC (aK a % aK b) ≠ aU.zero) = !decide (aK a % aK b = 0):=by
       rw [Bool.eq_iff_iff]
       simp only [decide_eq_true_eq,Bool.not_eq_true',decide_eq_false_iff_not]
       exact not_congr (lS hm0 (by omega))
      rw [hrz]
      refine ap.bind (P:=fun p=>p = (tC (if ((decide (a < 0) != decide (b < 0)) && !decide (aK a % aK b = 0)) = true then aK b - aK a % aK b else aK a % aK b),cP (fq a b))) ?_ ?_
      ·unfold fq
       generalize hQ:aK a / aK b = q at *
       generalize hR:aK a % aK b = r at *
       refine ap.ite (fun h=>?_) (fun h=>?_)
       ·simp only [Bool.and_eq_true,Bool.not_eq_true',decide_eq_false_iff_not] at h
        obtain ⟨g1,g2⟩:=h
        rw [g2,if_pos rfl,if_pos rfl,if_neg g1]
        have e2:(true && !decide (r = 0)) = true:=by simp [g1]
        rw [if_pos e2]
        refine ap.ax (Of_y F (by decide) (by decide)) ?_
        have hs1:qU F (cP (-q)) (cP 1) = some (cP (-q - 1)):=by
         rw [Sub_y (by omega) (ba _) (ba _),oD (by omega) (by have:=vT; omega)]; rfl
        refine ap.ax hs1 ?_
        have hmin:jK F (cP b).W (tC r) = some (tC (aK b - r)):=by
         rw [yi (by omega) (ba b) (lx r) (by rw [jD,hrm,wb']; omega),jD,hrm,wb']
        refine ap.ax hmin (ap.some ?_)
        have e5:-q - 1 = -(q + 1):=by omega
        rw [e5]
       ·refine ap.some ?_
        cases hs:(decide (a < 0) != decide (b < 0)) with
        | false=>simp
        | true=>
         have hr0:r = 0:=by rw [hs] at h; simpa using h
         subst hr0
         simp
      ·rintro ⟨r',q'⟩ he
       cases he
       dsimp only [b9]
       refine ap.ax (hO F _ (lx _)) (ap.some ?_)
       have hrr:0 ≤ (if ((decide (a < 0) != decide (b < 0)) && !decide (aK a % aK b = 0)) = true then aK b - aK a % aK b else aK a % aK b) ∧ (if ((decide (a < 0) != decide (b < 0)) && !decide (aK a % aK b = 0)) = true then aK b - aK a % aK b else aK a % aK b) < MM:=by split <;> omega
       rw [jD,Int.emod_eq_of_lt hrr.1 hrr.2]
       simp only [fr,decide_eq_true_eq]
     ·exact ap.some hz2
theorem Quo_y {F:Nat} (hF:18446744073709551616 < F) {x y:br} (hx:jX x) (hy:jX y):j7 F x y = some (two wP x y):=by
 unfold j7
 rw [xy hF hx hy]
 rfl
theorem Rem_y {F:Nat} (hF:18446744073709551616 < F) {x y:br} (hx:jX x) (hy:jX y):ox F x y = some (two wO x y):=by
 unfold ox
 rw [xy hF hx hy]
 rfl
end Go.Proofs.YtcbbilehdaaffaaGreatDoor
namespace Go.Sk
set_option linter.unusedSimpArgs false
set_option linter.unusedVariables false
theorem km (a:Int):aK a = (a.natAbs:Int):=by unfold aK; split <;> omega
theorem s5 (X Y:Nat):Nat.gcd X Y = Nat.gcd Y (X % Y):=by rw [Nat.gcd_comm X Y,Nat.gcd_rec Y X,Nat.gcd_comm]
theorem val2 {w:aU} (h:∀ i,2 ≤ i → i < 16 → dg w.l i = 0):av w = w.a0 + w.a1 * 4294967296:=by
 have e:av w = ds 4294967296 (dg w.l) 2:=mh (by omega) fun i h1 h2=>h i h1 h2
 rw [e]
 simp [ds]
 rfl
end Go.Sk
namespace Go.Proofs.YtcbbilehdaaffaaGreatDoor
open Go Go.Sk
set_option linter.unusedSimpArgs false
set_option linter.unusedVariables false
theorem Ec {F:Nat} (hF:18446744073709551616 < F):∀ (n:Nat) {a b:Int},-MM < a ∧ a < MM → -MM < b ∧ b < MM → b.natAbs < n → oA F n (cP a) (cP b) = some (cP (Nat.gcd a.natAbs b.natAbs:Nat))
 | 0,a,b,_,_,h=>absurd h (Nat.not_lt_zero _)
 | n + 1,a,b,ra,rb,hn=>by
  refine ap.eq ?_
  unfold oA
  obtain ⟨wa,na⟩:=cn ra
  obtain ⟨wb,nb⟩:=cn rb
  have wa':av (cP a).W = aK a:=wa
  have wb':av (cP b).W = aK b:=wb
  have ia:=ba a
  have ib:=ba b
  have hla:=oT ra
  have hlb:=oT rb
  refine ap.ax (Bn (by omega) _ _) ?_
  rw [oe ra,oe rb]
  refine ap.iff rfl ?_
  refine ap.bind (P:=fun r=>match r with | .inl _=>True | .inr z=>z = cP (Nat.gcd a.natAbs b.natAbs:Nat)) ?_ ?_
  ·refine ap.bind (r9 (by omega)) ?_
   rintro sa ⟨sa0,sa1,saz,_⟩
   by_cases h1:sa ≤ 2
   ·rw [decide_eq_true h1]
    refine ap.g1 rfl (ap.bind (r9 (by omega)) ?_)
    rintro sb ⟨sb0,sb1,sbz,_⟩
    refine ap.ite (fun h=>?_) (fun h=>ap.some trivial)
    have h2:sb ≤ 2:=by simpa using h
    have va:=val2 (w:=(cP a).W) fun i g1 g2=>saz i (by omega) g2
    have vb:=val2 (w:=(cP b).W) fun i g1 g2=>sbz i (by omega) g2
    rw [wa'] at va
    rw [wb'] at vb
    have a0:=ia 0
    have a1:=ia 1
    have b0:=ib 0
    have b1:=ib 1
    generalize (cP a).W = A at *
    generalize (cP b).W = B at *
    have e0:dg A.l 0 = A.a0:=rfl
    have e1:dg A.l 1 = A.a1:=rfl
    have e2:dg B.l 0 = B.a0:=rfl
    have e3:dg B.l 1 = B.a1:=rfl
    rw [e0] at a0
    rw [e1] at a1
    rw [e2] at b0
    rw [e3] at b1
    have wr:∀ x y:Int,0 ≤ x ∧ x < 4294967296 → 0 ≤ y ∧ y < 4294967296 → mU .u64 (IntKind.u64.wrap ((IntKind.u64.wrap y) * 4294967296)) (IntKind.u64.wrap x) = x + y * 4294967296:=fun x y hx hy=>by
     have q1:IntKind.u64.wrap ((IntKind.u64.wrap y) * 4294967296) = y * 4294967296:=by simp only [gO]; omega
     have q2:IntKind.u64.wrap x = x:=by rw [gO]; omega
     rw [q1,q2,oJ 32 (by omega) (by omega) (by rw [Be]; omega) hx.1 (by rw [Be]; omega) (by omega)]
     omega
    rw [wr _ _ a0 a1,wr _ _ b0 b1,← va,← vb]
    have la:aK a < 18446744073709551616:=by omega
    have lb:aK b < 18446744073709551616:=by omega
    rw [km] at la lb ⊢
    rw [km b]
    refine ap.bind (P:=fun x=>x = ((Nat.gcd a.natAbs b.natAbs:Nat):Int)) (ap.loop (fun (s:Int × Int)=>∃ X Y:Nat,s = ((X:Int),(Y:Int)) ∧ Nat.gcd X Y = Nat.gcd a.natAbs b.natAbs ∧ Y < 18446744073709551616) (fun s=>s.2.toNat) ⟨_,_,rfl,rfl,by omega⟩ (by dsimp only; omega) ?_) ?_
    ·rintro s ⟨X,Y,rfl,hg,hY⟩
     dsimp only [b9]
     refine ap.ite (fun h=>?_) (fun h=>?_)
     ·have hy:(Y:Int) ≠ 0:=of_decide_eq_true h
      refine ap.rem hy ?_
      rw [eR (by omega)]
      have hm:X % Y < Y:=Nat.mod_lt _ (by omega)
      refine ap.some (.inl ⟨_,rfl,⟨Y,X % Y,by rw [Int.natCast_emod],?_,by omega⟩,?_⟩)
      ·rw [← hg,← s5]
      ·dsimp only
       rw [← Int.natCast_emod]; omega
     ·have hy:(Y:Int) = 0:=by have:=of_decide_eq_false h; omega
      have hy0:Y = 0:=by omega
      subst hy0
      refine ap.some (.inr ⟨_,rfl,?_⟩)
      rw [← hg,Nat.gcd_zero_right]
    ·rintro x rfl
     have hgl:Nat.gcd a.natAbs b.natAbs < 18446744073709551616:=by
      by_cases e:a.natAbs = 0
      ·rw [e,Nat.gcd_zero_left]; omega
      ·have:=Nat.gcd_le_left b.natAbs (show 0 < a.natAbs by omega); omega
     generalize Nat.gcd a.natAbs b.natAbs = G at *
     have g1:IntKind.u32.wrap (G:Int) = (G:Int) % 4294967296:=lL _
     have g2:IntKind.u32.wrap ((G:Int) / 4294967296) = (G:Int) / 4294967296:=by rw [lL]; omega
     rw [g1,g2]
     refine ap.ln (ap.ax (hO F _ (Aq (by omega) (by omega))) (ap.some ?_))
     rw [AH]
     simp only [Bool.false_eq_true,if_false]
     congr 1
     omega
   ·rw [decide_eq_false h1]
    exact ap.g0 rfl (ap.iff rfl (ap.some trivial))
  ·rintro (u | z) hz
   ·have hz0:decide ((cP b).W ≠ aU.zero) = !decide (b = 0):=by
     rw [Bool.eq_iff_iff]
     simp only [decide_eq_true_eq,Bool.not_eq_true',decide_eq_false_iff_not]
     have:=mi ib
     rw [wb',kG] at this
     exact not_congr this
    show ap (if decide ((cP b).W ≠ aU.zero) = true then _ else _) _
    rw [hz0]
    refine ap.ite (fun h=>?_) (fun h=>?_)
    ·have hb0:b ≠ 0:=by simpa using h
     have hB:=lf hb0
     have hm0:=Int.emod_nonneg (aK a) (show aK b ≠ 0 by omega)
     have hm1:=Int.emod_lt_of_pos (aK a) hB
     refine ap.ax (wC hF ia ib (by rw [wb']; omega)) ?_
     dsimp only [b9]
     refine ap.ax (hO F _ ib) (ap.ax (hO F _ (lx _)) ?_)
     simp only [Bool.false_eq_true,if_false,wa',wb',jD]
     rw [Int.emod_eq_of_lt hm0 (by omega)]
     have hrec:=Ec hF n (a:=aK b) (b:=aK a % aK b) (by omega) (by omega) (by rw [km b] at *; omega)
     refine ap.ax hrec (ap.some ?_)
     have e1:(aK b).natAbs = b.natAbs:=by rw [km]; omega
     have e2:(aK a % aK b).natAbs = a.natAbs % b.natAbs:=by rw [km,km,← Int.natCast_emod]; omega
     rw [e1,e2,← s5]
    ·have hb0:b = 0:=by simpa using h
     subst hb0
     have habs:qX F (cP a) = some (cP (aK a)):=by rw [Abs_y (by omega) ia,oH ra]; rfl
     refine ap.ax habs (ap.some ?_)
     rw [km]
     simp
   ·exact ap.some hz
theorem Gcd_y {F:Nat} (hF:18446744073709551616 < F) {a b:Int} (ra:-MM < a ∧ a < MM) (rb:-MM < b ∧ b < MM) (hb:b.natAbs < F):qV F (cP a) (cP b) = some (cP (Nat.gcd a.natAbs b.natAbs:Nat)):=Ec hF F ra rb hb
end Go.Proofs.YtcbbilehdaaffaaGreatDoor
namespace Go.Sk
def C6:Nat → Nat → bA
 | 0,_=>[]
 | f + 1,u=>if u < 10 then [UInt8.ofNat (48 + u)] else C6 f (u / 10) ++ [UInt8.ofNat (48 + u % 10)]
theorem yx:∀ (f u:Nat),u < f → C6 f u = Lib.decDigits u
 | 0,u,h=>absurd h (Nat.not_lt_zero u)
 | f + 1,u,h=>by
  rw [Lib.decDigits]
  unfold C6
  split
  ·rfl
  ·rw [yx f (u / 10) (by omega)]
def yS (n:Int):bA:=if n < 0 then 45 :: C6 (n.natAbs + 1) n.natAbs else C6 (n.toNat + 1) n.toNat
theorem zg (n:Int):Lib.itoa n = yS n:=by
 unfold yS Lib.itoa
 rw [yx _ _ (Nat.lt_succ_self _),yx _ _ (Nat.lt_succ_self _)]
def Ap (n:Int):Option bA:=if (yS n).length ≤ 1000000000 then some (yS n) else none
theorem CJ:vq = Ap:=by
 funext n
 unfold vq Ap
 rw [zg]
end Go.Sk
namespace Go.Proofs.YtcbbilehdaaffaaGreatDoor
open Go Go.Sk
set_option maxRecDepth 100000
def FF:Nat:=13407807929942597099574024998205846127479365820592393377723561443721764030073546976801874298166903427690031858186486050853753882811946569946433649006084097
theorem FF1:100 < FF:=by decide +kernel
theorem xC:100000 < FF:=by decide +kernel
theorem EU:dA = fun _ n=>Ap n:=by
 funext F n
 unfold dA
 rw [CJ]
end Go.Proofs.YtcbbilehdaaffaaGreatDoor
namespace Go.Proofs.YtcbbilehdaaffaaGreatDoor
open Go Go.Sk
set_option linter.unusedSimpArgs false
set_option linter.unusedVariables false
theorem FFb:18446744073709551616 < FF:=by decide +kernel
theorem Dr:MM < FF:=by rw [vv]; decide +kernel
abbrev kO (a:Int):Prop:=-MM < a ∧ a < MM
theorem Cmp_v {a b:Int} (ra:kO a) (rb:kO b):qW FF (cP a) (cP b) = some (lM a b):=by rw [Cmp_y FF1 (ba a) (ba b),fU ra,fU rb]
theorem yV {a b:Int} (ra:kO a) (rb:kO b):j8 FF (cP a) (cP b) = some (cP (a * b)):=by rw [Mul_y FF1 (ba a) (ba b),oD ra rb]; rfl
theorem tN {a:Int} (ra:kO a):gD FF (cP a) = some (rZ a):=by rw [Eo FF1 (ba a),fU ra]
theorem xd {a b:Int} (ra:kO a) (rb:kO b) (h:b ≠ 0):j7 FF (cP a) (cP b) = some (cP (fq a b)):=by rw [Quo_y FFb (ba a) (ba b),oD ra rb]; simp only [wP,h,if_false]; rfl
theorem Rem_v {a b:Int} (ra:kO a) (rb:kO b) (h:b ≠ 0):ox FF (cP a) (cP b) = some (cP (fr a b)):=by rw [Rem_y FFb (ba a) (ba b),oD ra rb]; simp only [wO,h,if_false]; rfl
theorem Dq {a b:Int} (ra:kO a) (rb:kO b):qV FF (cP a) (cP b) = some (cP (Nat.gcd a.natAbs b.natAbs:Nat)):=Gcd_y FFb ra rb (by have:=Dr; omega)
theorem Of_v {n:Int} (h0:-9223372036854775808 ≤ n) (h1:n ≤ 9223372036854775807):jA FF n = some (cP n):=Of_y FF h0 h1
theorem u4:kO 1:=by have:=vT; constructor <;> omega
theorem yW:kO 0:=by have:=vT; constructor <;> omega
theorem EZ (n m:Int):Nat.gcd n.natAbs m.natAbs = Nat.gcd m.natAbs (n.tmod m).natAbs:=by
 rw [Int.natAbs_tmod]; exact s5 _ _
theorem tmod_lt {n m:Int} (h:m ≠ 0):(n.tmod m).natAbs < m.natAbs:=by
 rw [Int.natAbs_tmod]; exact Nat.mod_lt _ (by omega)
theorem Aj {a b:Int} (ra:kO a) (rb:kO b):mq FF (cP a) (cP b) = some (cP (Nat.gcd a.natAbs b.natAbs:Nat)):=by
 have hF:=xC
 have hFb:=FFb
 refine ap.eq ?_
 unfold mq
 refine ap.ax (kP hF (ba a)) ?_
 rw [fU ra]
 generalize hp:wd (some a) = wx
 obtain ⟨p,p'⟩:=wx
 refine ap.ax (kP hF (ba b)) ?_
 rw [fU rb]
 generalize hq:wd (some b) = wy
 obtain ⟨q,q'⟩:=wy
 dsimp only [b9]
 refine ap.bind (P:=fun o=>o = .inr (cP (Nat.gcd a.natAbs b.natAbs:Nat)) ∨ o = .inl ()) (ap.ite (fun h=>?_) (fun h=>?_)) ?_
 ·simp only [Bool.and_eq_true] at h
  obtain ⟨rfl,rfl⟩:=h
  obtain ⟨ea,la⟩:=kQ hp
  obtain ⟨eb,lb⟩:=kQ hq
  cases ea; cases eb
  have la':a.natAbs < 4611686018427387904:=by unfold aK at la; split at la <;> omega
  have lb':b.natAbs < 4611686018427387904:=by unfold aK at lb; split at lb <;> omega
  refine ap.bind (P:=fun z:Int=>z.natAbs = Nat.gcd a.natAbs b.natAbs ∧ z.natAbs < 4611686018427387904) (ap.loop (fun s:Int × Int=>Nat.gcd s.1.natAbs s.2.natAbs = Nat.gcd a.natAbs b.natAbs ∧ s.1.natAbs < 4611686018427387904 ∧ s.2.natAbs < 4611686018427387904) (fun s=>s.2.natAbs) ⟨rfl,la',lb'⟩ (by dsimp only; omega) ?_) ?_
  ·rintro ⟨n,m⟩ ⟨h1,h2,h3⟩
   dsimp only at h1 h2 h3
   dsimp only [b9]
   refine ap.ite (fun h=>?_) (fun h=>?_)
   ·have hm:m ≠ 0:=of_decide_eq_true h
    have:=tmod_lt (n:=n) hm
    refine ap.rem hm (ap.some (.inl ⟨_,rfl,⟨by dsimp only; rw [← EZ]; exact h1,h3,by dsimp only; omega⟩,this⟩))
   ·have hm:m = 0:=by have:=of_decide_eq_false h; omega
    subst hm
    refine ap.some (.inr ⟨_,rfl,?_,h2⟩)
    simpa using h1
  ·rintro z ⟨hz,hl⟩
   refine ap.ax (w4 hF (by omega) (by omega)) (ap.ax (x:=cP (Nat.gcd a.natAbs b.natAbs:Nat)) ?_ (ap.some (.inl rfl)))
   rw [rAbs_y hF (ba z),oH (by have:=vT; constructor <;> omega),← hz]
   unfold aK ud
   dsimp only
   congr 2
   split <;> omega
 ·exact ap.some (.inr rfl)
 ·rintro o (rfl | rfl)
  ·exact ap.some rfl
  ·dsimp only [ls]
   refine ap.ax (dL hF (ba a)) ?_
   rw [oe ra]
   refine ap.g1 rfl (ap.ax (dL hF (ba b)) ?_)
   rw [oe rb]
   refine ap.iff rfl (ap.bind (ji hF ra) ?_)
   rintro c ⟨c1,c2,c3,c4⟩
   refine ap.bind (ji hF rb) ?_
   rintro d ⟨d1,d2,d3,d4⟩
   have hm:(lv d).toNat < FF:=by
    have h1:=(oT rb).2
    have h2:=Dr
    rw [d3]; omega
   refine ap.bind (P:=fun x:List Int=>cM 65536 x ∧ x.length ≤ 99 ∧ lv x = (Nat.gcd a.natAbs b.natAbs:Nat)) (ap.loop (fun s:List Int × List Int=>(cM 65536 s.1 ∧ s.1.length ≤ 99) ∧ (cM 65536 s.2 ∧ j2 s.2 ∧ s.2.length ≤ 99) ∧ Nat.gcd (lv s.1).natAbs (lv s.2).natAbs = Nat.gcd a.natAbs b.natAbs) (fun s=>(lv s.2).toNat) ⟨⟨c1,by dsimp only; omega⟩,⟨d1,d2,by dsimp only; omega⟩,by dsimp only; rw [c3,d3,km,km]; rfl⟩ hm ?_) ?_
   ·rintro ⟨x,y⟩ ⟨⟨x1,x2⟩,⟨y1,y2,y3⟩,hg⟩
    dsimp only at x1 x2 y1 y2 y3 hg
    dsimp only [b9]
    have hy:=ju y1 y2
    have ny:=fg y1
    have nx:=fg x1
    refine ap.ite (fun h=>?_) (fun h=>?_)
    ·have h':=of_decide_eq_true h
     have hl:0 < y.length:=by omega
     refine ap.bind (wj hF x1 y1 y2 hl (by omega) (by omega)) ?_
     rintro ⟨q,r⟩ ⟨⟨q1,q2,q3⟩,⟨r1,r2,r3⟩,e1,e2⟩
     dsimp only at q1 q2 q3 r1 r2 r3 e1 e2
     dsimp only [b9]
     have nr:=fg r1
     obtain ⟨m1,m2⟩:=su e1 nr e2
     refine ap.some (.inl ⟨_,rfl,⟨⟨y1,y3⟩,⟨r1,r2,?_⟩,?_⟩,?_⟩)
     ·dsimp only; omega
     ·dsimp only
      rw [← hg,← m2,s5 (lv x).natAbs]
      congr 1
      have:=Int.natAbs_emod_of_nonneg (a:=lv x) (b:=lv y) nx
      omega
     ·dsimp only; omega
    ·have h':=of_decide_eq_false h
     have hz:lv y = 0:=by
      by_cases e:lv y = 0
      ·exact e
      ·have:=hy.2 e; omega
     refine ap.some (.inr ⟨_,rfl,x1,x2,?_⟩)
     rw [hz] at hg
     simp only [Int.natAbs_zero,Nat.gcd_zero_right] at hg
     omega
   ·rintro x ⟨x1,x2,x3⟩
    refine ap.ax (sF hF _ (by omega) x1) (ap.some ?_)
    rw [x3]; simp
end Go.Proofs.YtcbbilehdaaffaaGreatDoor
namespace Go.Sk
set_option linter.unusedSimpArgs false
set_option linter.unusedVariables false
theorem zI {n d g:Nat} (hg:g = Nat.gcd n d) (h0:0 < g):Nat.gcd (n / g) (d / g) = 1:=by
 obtain ⟨a,ha⟩:g ∣ n:=hg ▸ Nat.gcd_dvd_left n d
 obtain ⟨b,hb⟩:g ∣ d:=hg ▸ Nat.gcd_dvd_right n d
 have e1:n / g = a:=by rw [ha,Nat.mul_div_cancel_left _ h0]
 have e2:d / g = b:=by rw [hb,Nat.mul_div_cancel_left _ h0]
 rw [e1,e2]
 have e3:=Nat.gcd_mul_left g a b
 rw [← ha,← hb,← hg] at e3
 have e4:g * 1 = g * Nat.gcd a b:=by omega
 exact (Nat.eq_of_mul_eq_mul_left h0 e4).symm
theorem den_pos (r:Rat):(0:Int) < r.den:=by have:=r.den_nz; omega
theorem sx {n d:Int} (h0:0 < d) (hc:Nat.gcd n.natAbs d.natAbs = 1):(Rat.divInt n d).num = n ∧ ((Rat.divInt n d).den:Int) = d:=by
 have key:=Rat.num_divInt_den ⟨n,d.natAbs,by omega,hc⟩
 have e:((d.natAbs:Nat):Int) = d:=by omega
 dsimp only at key
 rw [e] at key
 rw [key]
 exact ⟨rfl,e⟩
def nH (n d:Int):Int:=if d < 0 then -(Nat.gcd n.natAbs d.natAbs:Nat) else (Nat.gcd n.natAbs d.natAbs:Nat)
theorem red {n d:Int} (hd:d ≠ 0):nH n d ≠ 0 ∧ (Rat.divInt n d).num * nH n d = n ∧ ((Rat.divInt n d).den:Int) * nH n d = d:=by
 have g0:0 < Nat.gcd n.natAbs d.natAbs:=Nat.gcd_pos_of_pos_right _ (by omega)
 have hc:=zI (n:=n.natAbs) (d:=d.natAbs) rfl g0
 have d1:=Nat.div_mul_cancel (Nat.gcd_dvd_left n.natAbs d.natAbs)
 have d2:=Nat.div_mul_cancel (Nat.gcd_dvd_right n.natAbs d.natAbs)
 generalize hg:Nat.gcd n.natAbs d.natAbs = g at *
 generalize n.natAbs / g = a at *
 generalize hb:d.natAbs / g = b at *
 have b0:0 < b:=by
  rcases Nat.eq_zero_or_pos b with e | e
  ·subst e; omega
  ·exact e
 have e0:nH n d = if d < 0 then -(g:Int) else g:=by unfold nH; rw [hg]
 have d1':(a:Int) * g = n.natAbs:=by rw [← d1]; simp
 have d2':(b:Int) * g = d.natAbs:=by rw [← d2]; simp
 obtain ⟨x,hx,hn⟩:∃ x:Int,x.natAbs = a ∧ x * nH n d = n:=by
  rw [e0]
  by_cases h1:d < 0
  ·by_cases h2:n < 0
   ·exact ⟨a,by omega,by rw [if_pos h1,Int.mul_neg,d1']; omega⟩
   ·exact ⟨-a,by omega,by rw [if_pos h1,Int.mul_neg,Int.neg_mul,d1']; omega⟩
  ·by_cases h2:n < 0
   ·exact ⟨-a,by omega,by rw [if_neg h1,Int.neg_mul,d1']; omega⟩
   ·exact ⟨a,by omega,by rw [if_neg h1,d1']; omega⟩
 have hdd:(b:Int) * nH n d = d:=by
  rw [e0]
  by_cases h1:d < 0
  ·rw [if_pos h1,Int.mul_neg,d2']; omega
  ·rw [if_neg h1,d2']; omega
 have hgs:nH n d ≠ 0:=by rw [e0]; split <;> omega
 have hq:Rat.divInt n d = Rat.divInt x b:=by
  rw [Rat.divInt_eq_divInt_iff hd (by omega)]
  generalize nH n d = G at *
  subst hn; subst hdd
  rw [Int.mul_assoc,Int.mul_comm G]
 have hcop:=sx (n:=x) (d:=b) (by omega) (by rw [hx]; exact hc)
 rw [hq,hcop.1,hcop.2]
 exact ⟨hgs,hn,hdd⟩
theorem qu (n d:Int):Rat.divInt n d = (n:Rat) / (d:Rat):=Rat.divInt_eq_div n d
theorem Bg (r:Rat):r = (r.num:Rat) / (r.den:Int):=by
 have:=Rat.num_divInt_den r
 rw [qu] at this
 exact this.symm
theorem DG (r s:Rat):(r * s).num = (Rat.divInt r.num s.den).num * (Rat.divInt s.num r.den).num ∧ (((r * s).den:Nat):Int) = (Rat.divInt r.num s.den).den * (Rat.divInt s.num r.den).den:=by
  have r0:=den_pos r
  have s0:=den_pos s
  obtain ⟨g1,a1,a2⟩:=red (n:=r.num) (d:=s.den) (by omega)
  obtain ⟨g2,b1,b2⟩:=red (n:=s.num) (d:=r.den) (by omega)
  have ca:=(Rat.divInt r.num s.den).reduced
  have cb:=(Rat.divInt s.num r.den).reduced
  have cr:=r.reduced
  have cs:=s.reduced
  have pa:=den_pos (Rat.divInt r.num s.den)
  have pb:=den_pos (Rat.divInt s.num r.den)
  have er:=Bg r
  have es:=Bg s
  generalize ha:Rat.divInt r.num s.den = a at *
  generalize hb:Rat.divInt s.num r.den = b at *
  have e:r * s = Rat.divInt (a.num * b.num) (a.den * b.den):=by
    rw [qu,Rat.intCast_mul,Rat.intCast_mul]
    have hab:r * s = a * b:=by
      rw [← ha,← hb,qu,qu]
      have h1:((r.den:Int):Rat) ≠ 0:=by have:(r.den:Int) ≠ 0:=by omega
                                        simpa using this
      have h2:((s.den:Int):Rat) ≠ 0:=by have:(s.den:Int) ≠ 0:=by omega
                                        simpa using this
      generalize ((r.den:Int):Rat) = D1 at *
      generalize ((s.den:Int):Rat) = D2 at *
      generalize (r.num:Rat) = N1 at *
      generalize (s.num:Rat) = N2 at *
      rw [er,es]
      grind
    have ea:=Bg a
    have eb:=Bg b
    rw [hab]
    have h1:((a.den:Int):Rat) ≠ 0:=by have:(a.den:Int) ≠ 0:=by omega
                                      simpa using this
    have h2:((b.den:Int):Rat) ≠ 0:=by have:(b.den:Int) ≠ 0:=by omega
                                      simpa using this
    generalize ((a.den:Int):Rat) = D1 at *
    generalize ((b.den:Int):Rat) = D2 at *
    generalize (a.num:Rat) = N1 at *
    generalize (b.num:Rat) = N2 at *
    rw [ea,eb]
    grind
  have k1:Nat.Coprime a.num.natAbs b.den:=by
    have hx:a.num.natAbs ∣ r.num.natAbs:=Int.natAbs_dvd_natAbs.2 ⟨_,a1.symm⟩
    have hy:b.den ∣ r.den:=by
      have:(b.den:Int) ∣ (r.den:Int):=⟨_,b2.symm⟩
      exact Int.natCast_dvd_natCast.1 this
    exact Nat.Coprime.coprime_dvd_left hx (Nat.Coprime.coprime_dvd_right hy cr)
  have k2:Nat.Coprime b.num.natAbs a.den:=by
    have hx:b.num.natAbs ∣ s.num.natAbs:=Int.natAbs_dvd_natAbs.2 ⟨_,b1.symm⟩
    have hy:a.den ∣ s.den:=by
      have:(a.den:Int) ∣ (s.den:Int):=⟨_,a2.symm⟩
      exact Int.natCast_dvd_natCast.1 this
    exact Nat.Coprime.coprime_dvd_left hx (Nat.Coprime.coprime_dvd_right hy cs)
  have hc:Nat.gcd (a.num * b.num).natAbs ((a.den:Int) * b.den).natAbs = 1:=by
    rw [Int.natAbs_mul,Int.natAbs_mul,Int.natAbs_natCast,Int.natAbs_natCast]
    exact Nat.Coprime.mul_left (Nat.Coprime.mul_right ca k1) (Nat.Coprime.mul_right k2 cb)
  rw [e]
  exact sx (Int.mul_pos pa pb) hc
def pV (p q r s:Int):Int:=lM (p * s) (r * q)
theorem uJ {p q r s:Int} (hq:0 < q) (hs:0 < s) (h:lM (p / q) (r / s) ≠ 0):pV p q r s = lM (p / q) (r / s):=by
 have a1:=Int.ediv_mul_le p (show q ≠ 0 by omega)
 have a2:=Int.lt_ediv_add_one_mul_self p hq
 have b1:=Int.ediv_mul_le r (show s ≠ 0 by omega)
 have b2:=Int.lt_ediv_add_one_mul_self r hs
 generalize p / q = m at *
 generalize r / s = n at *
 have key:∀ {m n p q r s:Int},0 < q → 0 < s → p < (m + 1) * q → n * s ≤ r → m < n → p * s < r * q:=fun {m n p q r s} hq hs h1 h2 h=>by
  have g1:=Int.mul_lt_mul_of_pos_right h1 hs
  have g2:=Int.mul_le_mul_of_nonneg_right h2 (Int.le_of_lt hq)
  have g3:=Int.mul_le_mul_of_nonneg_right (show m + 1 ≤ n by omega) (show 0 ≤ q * s from Int.mul_nonneg (Int.le_of_lt hq) (Int.le_of_lt hs))
  have e1:(m + 1) * q * s = (m + 1) * (q * s):=Int.mul_assoc _ _ _
  have e2:n * s * q = n * (q * s):=by rw [Int.mul_assoc,Int.mul_comm s]
  omega
 unfold pV lM at *
 by_cases h1:m < n
 ·have:=key hq hs a2 b1 h1
  rw [if_pos h1,if_pos this]
 ·rw [if_neg h1] at h ⊢
  by_cases h2:n < m
  ·have:=key hs hq b2 a1 h2
   rw [if_pos h2,if_neg (by omega),if_pos this]
  ·rw [if_neg h2] at h; exact absurd rfl h
theorem wJ {p q r s:Int} (h:p / q = r / s):pV p q r s = lM (p % q * s) (r % s * q):=by
 have e1:=Int.mul_ediv_add_emod p q
 have e2:=Int.mul_ediv_add_emod r s
 rw [← h] at e2
 generalize p / q = k at *
 generalize p % q = a at *
 generalize r % s = b at *
 have e3:p * s = a * s + k * q * s:=by rw [← e1]; grind
 have e4:r * q = b * q + k * q * s:=by rw [← e2]; grind
 unfold pV lM
 rw [e3,e4]
 have h1:(a * s + k * q * s < b * q + k * q * s) = (a * s < b * q):=propext (by omega)
 have h2:(b * q + k * q * s < a * s + k * q * s) = (b * q < a * s):=propext (by omega)
 simp only [h1,h2]
theorem xz {p q r s:Int} (hq:0 < q) (hs:0 < s) (h:p / q = r / s) (h0:p % q = 0 ∨ r % s = 0):pV p q r s = rZ (p % q) - rZ (r % s):=by
 rw [wJ h]
 have a0:=Int.emod_nonneg p (show q ≠ 0 by omega)
 have b0:=Int.emod_nonneg r (show s ≠ 0 by omega)
 generalize p % q = a at *
 generalize r % s = b at *
 unfold lM rZ
 rcases h0 with rfl | rfl
 ·rw [Int.zero_mul]
  rcases (by omega:b = 0 ∨ 0 < b) with rfl | g
  ·simp
  ·have:=Int.mul_pos g hq
   rw [if_pos this,if_pos rfl,if_neg (by omega),if_neg (by omega)]; rfl
 ·rw [Int.zero_mul]
  rcases (by omega:a = 0 ∨ 0 < a) with rfl | g
  ·simp
  ·have:=Int.mul_pos g hs
   rw [if_neg (by omega),if_pos this,if_neg (by omega),if_neg (by omega),if_pos rfl]; rfl
theorem A9 {p q r s:Int} (h:p / q = r / s):pV p q r s = -pV q (p % q) s (r % s):=by
 rw [wJ h]
 unfold pV
 rw [Int.mul_comm (p % q),Int.mul_comm (r % s)]
 generalize s * (p % q) = u
 generalize q * (r % s) = v
 unfold lM
 split <;> split <;> (try split) <;> omega
theorem rA (a:Int) {b:Int} (hb:0 < b):fq a b = a / b ∧ fr a b = a % b:=by
 have h0:=Int.emod_nonneg a (show b ≠ 0 by omega)
 have h1:=Int.emod_lt_of_pos a hb
 have eb:aK b = b:=if_neg (by omega)
 have er:aK (a % b) = a % b:=if_neg (by omega)
 have:=xx (a:=a) (b:=b) (q:=a / b) (r:=a % b) (by omega) (Int.mul_ediv_add_emod a b).symm (by rw [eb,er]; exact h1) (.inr (by rw [decide_eq_decide]; omega))
 exact ⟨this.1.symm,this.2.symm⟩
end Go.Sk
namespace Go.Proofs.YtcbbilehdaaffaaGreatDoor
open Go Go.Sk
set_option linter.unusedSimpArgs false
set_option linter.unusedVariables false
def bf:bz:=⟨bad,cP 1⟩
def fits (r:Rat):Prop:=kO r.num ∧ kO r.den
noncomputable instance (r:Rat):Decidable (fits r):=Classical.propDecidable _
def mk (r:Rat):bz:=⟨cP r.num,cP r.den⟩
noncomputable def CU (r:Rat):bz:=if fits r then mk r else bf
abbrev k5 (x:bz):Prop:=jX x.N ∧ jX x.D
def qF (x:bz):Option Rat:=match iv x.N,iv x.D with
 | some n,some d=>if 0 < d ∧ Nat.gcd n.natAbs d.natAbs = 1 then some (Rat.divInt n d) else none
 | _,_=>none
noncomputable def yN (n d:br):bz:=match iv n,iv d with
 | some a,some b=>if b = 0 then bf else CU (Rat.divInt a b)
 | _,_=>bf
theorem in_mk {N D:br} (h1:jX N) (h2:jX D):k5 ⟨N,D⟩:=And.intro h1 h2
theorem xa:k5 bf:=in_mk tM (ba 1)
theorem Bl (r:Rat):k5 (mk r):=in_mk (ba _) (ba _)
theorem vC (r:Rat):k5 (CU r):=by unfold CU; split; exact Bl r; exact xa
theorem Am (n d:br):k5 (yN n d):=by
 unfold yN; split
 ·split; exact xa; exact vC _
 ·exact xa
theorem gF {r:Rat} (h:fits r):CU r = mk r:=by unfold CU; rw [if_pos h]
theorem BK {r:Rat} (h:¬ fits r):CU r = bf:=by unfold CU; rw [if_neg h]
theorem qF_none {N D:br} (h:iv N = none):qF ⟨N,D⟩ = none:=by
 unfold qF
 dsimp only
 rw [h]
theorem Bi:qF bf = none:=by
 unfold bf
 exact qF_none xR
theorem qF_of {N D:br} {n d:Int} (hn:iv N = some n) (hd:iv D = some d) (h0:0 < d) (hc:Nat.gcd n.natAbs d.natAbs = 1):qF ⟨N,D⟩ = some (Rat.divInt n d):=by
 unfold qF
 dsimp only
 rw [hn,hd]
 dsimp only
 rw [if_pos ⟨h0,hc⟩]
theorem Bh {r:Rat} (h:fits r):qF (mk r) = some r:=by
 have hc:Nat.gcd r.num.natAbs ((r.den:Int)).natAbs = 1:=by rw [Int.natAbs_natCast]; exact r.reduced
 have:=qF_of (fU h.1) (fU h.2) (den_pos r) hc
 rw [Rat.num_divInt_den] at this
 exact this
theorem eZ {x:bz} {r:Rat} (hx:k5 x) (h:qF x = some r):fits r ∧ x = mk r:=by
 unfold qF at h
 split at h
 ·next n d hn hd=>
  obtain ⟨_,en,rn⟩:=bZ hx.1 hn
  obtain ⟨_,ed,rd⟩:=bZ hx.2 hd
  split at h
  ·next hc=>
   have e:=sx hc.1 hc.2
   cases h
   refine ⟨⟨by rw [e.1]; exact rn,by rw [e.2]; exact rd⟩,?_⟩
   unfold mk
   rw [e.1,e.2,← en,← ed]
  ·cases h
 ·cases h
theorem vN {q g:Int} (h:g ≠ 0):fq (q * g) g = q:=by
 refine (xx h (r:=0) (by rw [Int.mul_comm]; omega) ?_ (.inl rfl)).1.symm
 have:=lf h
 simpa [aK] using this
theorem qh {n d:Int} (hd:d ≠ 0) (rn:kO n) (rd:kO d):fits (Rat.divInt n d):=by
 obtain ⟨g0,e1,e2⟩:=red (n:=n) hd
 have key:∀ {a g m:Int},g ≠ 0 → a * g = m → kO m → kO a:=fun {a g m} hg e hm=>by
  have h1:a.natAbs * g.natAbs = m.natAbs:=by rw [← Int.natAbs_mul,e]
  have h2:a.natAbs * 1 ≤ a.natAbs * g.natAbs:=Nat.mul_le_mul_left _ (by omega)
  constructor <;> have:=hm.1 <;> have:=hm.2 <;> omega
 exact ⟨key g0 e1 rn,key g0 e2 rd⟩
theorem u6 {x:br}:ld FF x = some (gB x):=by
 refine ap.eq ?_
 unfold ld gB
 cases h:x.Bad with
 | true=>exact ap.g0 rfl (ap.some (by simp))
 | false=>exact ap.g1 rfl (ap.ax (Cs FF x) (ap.some (by simp [h])))
theorem Bk:lN FF = some (cP 1):=by
 unfold lN
 rw [Of_v (by decide) (by decide)]; rfl
theorem rN:iT FF = some bf:=by
 unfold iT
 rw [mb,Option.bind_some,Bk]; rfl
theorem BB {d:Int}:decide (0 < rZ d) = decide (0 < d):=by rw [decide_eq_decide]; unfold rZ; split <;> (try split) <;> omega
theorem BC {d:Int}:decide (rZ d < 0) = decide (d < 0):=by rw [decide_eq_decide]; unfold rZ; split <;> (try split) <;> omega
theorem vV {d:Int}:decide (rZ d = 0) = decide (d = 0):=by rw [decide_eq_decide]; unfold rZ; split <;> (try split) <;> omega
theorem j5 {x:bz} (hx:k5 x):dx FF x = some (qF x).isSome:=by
 refine ap.eq ?_
 unfold dx qF
 refine ap.ax u6 ?_
 cases hn:iv x.N with
 | none=>
  rw [b8 hn]
  exact ap.g0 rfl (ap.g0 rfl (ap.g0 rfl (ap.g0 rfl (ap.some rfl))))
 | some n=>
  obtain ⟨gn,en,rn⟩:=bZ hx.1 hn
  rw [gn]
  refine ap.g1 rfl (ap.ax u6 ?_)
  cases hd:iv x.D with
  | none=>
   rw [b8 hd]
   exact ap.g0 rfl (ap.g0 rfl (ap.g0 rfl (ap.some rfl)))
  | some d=>
   obtain ⟨gd,ed,rd⟩:=bZ hx.2 hd
   rw [gd,en,ed]
   refine ap.g1 rfl (ap.ax (tN rd) ?_)
   rw [BB]
   by_cases h0:0 < d
   ·rw [decide_eq_true h0]
    refine ap.g1 rfl (ap.ax (Dq rn rd) (ap.g1 rfl (ap.ax Bk (ap.some ?_))))
    have hg:kO (Nat.gcd n.natAbs d.natAbs:Nat):=by
     have:=Nat.gcd_le_right n.natAbs (show 0 < d.natAbs by omega)
     have:=rd.1; have:=rd.2
     constructor <;> omega
    have e:(cP (Nat.gcd n.natAbs d.natAbs:Nat) = cP 1) = (Nat.gcd n.natAbs d.natAbs = 1):=by
     rw [eq_iff_iff,Co hg u4]; omega
    simp only [e]
    by_cases h1:Nat.gcd n.natAbs d.natAbs = 1
    ·simp [h1,h0]
    ·simp [h1]
   ·rw [decide_eq_false h0]
    refine ap.g0 rfl (ap.g0 rfl (ap.some ?_))
    simp [h0]
theorem vS {n d:br} (hn:jX n) (hd:jX d):jn FF n d = some (yN n d):=by
 refine ap.eq ?_
 unfold jn yN
 refine ap.ax u6 ?_
 cases ha:iv n with
 | none=>
  rw [b8 ha]
  exact ap.g0 rfl (ap.g0 rfl (ap.eX rfl (ap.ax rN (ap.some rfl))))
 | some a=>
  obtain ⟨ga,rfl,ra⟩:=bZ hn ha
  rw [ga]
  refine ap.g1 rfl (ap.ax u6 ?_)
  cases hb:iv d with
  | none=>
   rw [b8 hb]
   exact ap.g0 rfl (ap.eX rfl (ap.ax rN (ap.some rfl)))
  | some b=>
   obtain ⟨gb,rfl,rb⟩:=bZ hd hb
   rw [gb]
   refine ap.g1 rfl (ap.ax (tN rb) ?_)
   rw [vV]
   by_cases h0:b = 0
   ·rw [decide_eq_true h0]
    exact ap.eX rfl (ap.ax rN (ap.some (by simp [h0])))
   ·rw [decide_eq_false h0]
    have hg:kO (Nat.gcd a.natAbs b.natAbs:Nat):=by
     have:=Nat.gcd_le_right a.natAbs (show 0 < b.natAbs by omega)
     have:=rb.1; have:=rb.2
     constructor <;> omega
    have hgs:kO (nH a b):=by unfold nH; split <;> (have:=hg.1; have:=hg.2; constructor <;> omega)
    obtain ⟨g0,e1,e2⟩:=red (n:=a) h0
    refine ap.iff rfl (ap.ax (Dq ra rb) (ap.bind (P:=fun g=>g = cP (nH a b)) (ap.ax (tN rb) ?_) ?_))
    ·rw [BC]
     unfold nH
     refine ap.ite (fun h=>?_) (fun h=>?_)
     ·rw [if_pos (of_decide_eq_true h),Dn FF1 (ba _),oH hg]; exact ap.some rfl
     ·rw [if_neg (of_decide_eq_false h)]; exact ap.some rfl
    ·rintro g rfl
     refine ap.ax (xd ra hgs g0) (ap.ax (xd rb hgs g0) (ap.some ?_))
     dsimp only
     rw [if_neg h0,gF (qh h0 ra rb)]
     unfold mk
     have f1:fq a (nH a b) = (Rat.divInt a b).num:=by
      have:=vN (q:=(Rat.divInt a b).num) g0
      rwa [e1] at this
     have f2:fq b (nH a b) = ((Rat.divInt a b).den:Int):=by
      have:=vN (q:=((Rat.divInt a b).den:Int)) g0
      rwa [e2] at this
     rw [f1,f2]
end Go.Proofs.YtcbbilehdaaffaaGreatDoor
