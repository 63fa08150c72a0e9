/- the plain law -/
import Derived.Test.YtcbbilehdaaffaaGreatDoorW3
namespace Go.Sk
set_option linter.unusedSimpArgs false
set_option linter.unusedVariables false
def cF (b:Int) (l:List Int):Prop:=∀ i,0 ≤ dg l i ∧ dg l i < b
def MM:Int:=4294967296 ^ 16
theorem vg:MM = 13407807929942597099574024998205846127479365820592393377723561443721764030073546976801874298166903427690031858186486050853753882811946569946433649006084096:=by decide +kernel
theorem zl:0 < MM:=by rw [vg]; decide
def av (w:aP):Int:=ds 4294967296 (dg w.l) 16
def rX (z:Int):aP:=.of ((List.range 16).map fun i=>nd 4294967296 z i)
theorem toA_l (z:Int):(rX z).l = (List.range 16).map fun i=>nd 4294967296 z i:=aP.uU (by simp)
theorem Cw (z:Int) {i:Nat} (h:i < 16):dg (rX z).l i = nd 4294967296 z i:=by
 rw [toA_l]
 unfold dg
 rw [List.getD_eq_getElem?_getD,List.getElem?_map,List.getElem?_range h]
 rfl
theorem xy (b z:Int) (hb:0 < b) (i:Nat):0 ≤ nd b z i ∧ nd b z i < b:=⟨Int.emod_nonneg _ (by omega),Int.emod_lt_of_pos _ hb⟩
theorem kp (z:Int):cF 4294967296 (rX z).l:=fun i=>by
 by_cases h:i < 16
 ·rw [Cw z h]; exact xy _ _ (by decide) i
 ·rw [oo (by rw [aP.bS]; omega)]; decide
theorem jc (z:Int):av (rX z) = z % MM:=by
 unfold av
 rw [dn (g:=nd 4294967296 z) fun i hi=>Cw z hi,Cn (by decide)]
 rfl
theorem eU {w:aP} (h:cF 4294967296 w.l):0 ≤ av w ∧ av w < MM:=⟨dK (by decide) fun i _=>(h i).1,oi (by decide) fun i _=>h i⟩
theorem zi {v w:aP} (hv:cF 4294967296 v.l) (hw:cF 4294967296 w.l) (h:av v = av w):v = w:=by
 rw [← aP.u6]
 refine Db rfl fun i hi=>?_
 exact zf (by decide) (fun i _=>hv i) (fun i _=>hw i) h i hi
theorem ot {w:aP} (h:cF 4294967296 w.l):rX (av w) = w:=by
 refine zi (kp _) h ?_
 rw [jc]
 exact Int.emod_eq_of_lt (eU h).1 (eU h).2
theorem vR {w:aP} {z:Int} (h:cF 4294967296 w.l) (hz:av w = z):w = rX z:=by rw [← hz,ot h]
theorem Ba {w:aP} {z:Int} (h:cF 4294967296 w.l) (hz:av w = z % MM):w = rX z:=zi h (kp z) (by rw [hz,jc])
theorem js:cF 4294967296 aP.zero.l:=fun i=>by
 have:aP.zero.l = List.replicate 16 0:=rfl
 rw [this,dk]; decide
theorem rm:av aP.zero = 0:=l9 fun i _=>by
 have:aP.zero.l = List.replicate 16 0:=rfl
 rw [this,dk]
theorem zero_eq:aP.zero = rX 0:=vR js rm
theorem lq {w:aP} (h:cF 4294967296 w.l):w = aP.zero ↔ av w = 0:=⟨fun e=>by rw [e,rm],fun e=>zi h js (by rw [e,rm])⟩
theorem jb {w:aP} {i x:Int} (h:cF 4294967296 w.l) (h0:0 ≤ i) (h1:i < 16) (hx:0 ≤ x ∧ x < 4294967296):cF 4294967296 (w.set i x).l:=fun j=>by
 rw [aP.iO,iK (by rw [aP.bS]; omega)]
 split
 ·exact hx
 ·exact h j
theorem eV {w:aP} {i x:Int} (h0:0 ≤ i) (h1:i < 16) (j:Nat):dg (w.set i x).l j = if j = i.toNat then x else dg w.l j:=by
 rw [aP.iO,iK (by rw [aP.bS]; omega)]
theorem vS {b x:Int} {f g:Nat → Int} {k:Nat} (h:∀ i,g i = if i = k then x else f i):ds b g (k + 1) = ds b f k + x * b ^ k:=by
 show ds b g k + g k * b ^ k = _
 rw [dn (g:=f) fun i hi=>by rw [h i,if_neg (by omega)],h k,if_pos rfl]
theorem aP.qw {b:Int} {w:aP} {k:Nat} {x:Int} (h:k < 16):ds b (dg (w.set (k:Int) x).l) (k + 1) = ds b (dg w.l) k + x * b ^ k:=vS fun i=>by rw [eV (by omega) (by omega),Int.toNat_natCast]
theorem uH {b A Bb O c x c' ak bk:Int} {k:Nat} (h:A + Bb = O + c * b ^ k) (e:c + ak + bk = x + c' * b):(A + ak * b ^ k) + (Bb + bk * b ^ k) = (O + x * b ^ k) + c' * b ^ (k + 1):=by
 rw [Int.pow_succ]
 grind
theorem sU {b A Bb O c x c' ak bk:Int} {k:Nat} (h:A + c * b ^ k = Bb + O) (e:ak - bk - c = x - c' * b):(A + ak * b ^ k) + c' * b ^ (k + 1) = (Bb + bk * b ^ k) + (O + x * b ^ k):=by
 rw [Int.pow_succ]
 grind
theorem Co {b:Int} (hb:0 < b) {f:Nat → Int} {n m:Nat} (hf:∀ i,0 ≤ f i ∧ f i < b):ds b f (n + m) / b ^ n = ds b (fun i=>f (n + i)) m:=by
 have h1:=dK hb (f:=f) (n:=n) fun i _=>(hf i).1
 have h2:=oi hb (f:=f) (n:=n) fun i _=>hf i
 rw [fJ,Int.add_mul_ediv_left _ _ (by have hp:0 < b ^ n:=Int.pow_pos hb; omega),Int.ediv_eq_zero_of_lt h1 h2,Int.zero_add]
theorem C' {b:Int} (hb:0 < b) {f:Nat → Int} {n i:Nat} (hi:i < n) (hf:∀ i,0 ≤ f i ∧ f i < b):nd b (ds b f n) i = f i:=by
 obtain ⟨m,rfl⟩:∃ m,n = i + (m + 1):=⟨n - i - 1,by omega⟩
 unfold nd
 rw [Co hb hf,kb]
 have h0:=hf (i + 0)
 rw [Int.add_mul_emod_self_left,Int.emod_eq_of_lt h0.1 h0.2]
 rfl
theorem oJ {b:Int} (hb:1 ≤ b) {i j:Nat} (h:i ≤ j):b ^ i ≤ b ^ j:=by
 obtain ⟨d,rfl⟩:∃ d,j = i + d:=⟨j - i,by omega⟩
 have h1:0 < b ^ d:=Int.pow_pos (by omega)
 have h2:0 < b ^ i:=Int.pow_pos (by omega)
 rw [Int.pow_add]
 have h3:b ^ i * 1 ≤ b ^ i * b ^ d:=Int.mul_le_mul_of_nonneg_left (by omega) (by omega)
 omega
end Go.Sk
namespace Go.Proofs.YtcbbilehdaaffaaGreatDoor
open Go Go.Sk
set_option linter.unusedSimpArgs false
set_option linter.unusedVariables false
theorem plus_y {F:Nat} (hF:100 < F) {a b:aP} (ha:cF 4294967296 a.l) (hb:cF 4294967296 b.l):oy F a b = some (rX (av a + av b),decide (av a + av b < MM)):=by
 refine an.eq ?_
 unfold oy
 refine an.bind (P:=fun r=>cF 4294967296 r.1.l ∧ 0 ≤ r.2 ∧ r.2 ≤ 1 ∧ av a + av b = av r.1 + r.2 * MM) (an.rounds 16 (fun k s=>s.2.2 = (k:Int) ∧ cF 4294967296 s.1.l ∧ 0 ≤ s.2.1 ∧ s.2.1 ≤ 1 ∧ ds 4294967296 (dg a.l) k + ds 4294967296 (dg b.l) k = ds 4294967296 (dg s.1.l) k + s.2.1 * 4294967296 ^ k) (by omega) ⟨rfl,js,by decide,by decide,rfl⟩ ?_) ?_
 ·rintro k ⟨out,c,i⟩ hk ⟨rfl,hin,hc0,hc1,hs⟩
  dsimp only at hin hc0 hc1 hs
  dsimp only [kA]
  refine an.ite (fun h=>?_) (fun h=>?_)
  ·have hk':k < 16:=by have:=of_decide_eq_true h; omega
   refine an.idx (by omega) (by rw [aP.bS]; omega) (an.idx (by omega) (by rw [aP.bS]; omega) (an.ln (an.idx (by omega) (by rw [aP.bS]; omega) (an.ln (an.some (.inl ⟨_,rfl,?_,hk'⟩))))))
   have h1:=ha k
   have h2:=hb k
   simp only [dw,Int.toNat_natCast,gq,kF,cn]
   refine ⟨by omega,jb hin (by omega) (by omega) (by constructor <;> omega),by omega,by omega,?_⟩
   rw [c6,c6,aP.qw hk']
   exact uH hs (by omega)
  ·have hk':k = 16:=by have:=of_decide_eq_false h; omega
   subst hk'
   exact an.some (.inr ⟨_,rfl,hin,hc0,hc1,hs⟩)
 ·rintro ⟨out,c⟩ ⟨hin,hc0,hc1,hs⟩
  dsimp only at hin hc0 hc1 hs
  have hr:=eU hin
  refine an.some ?_
  have e1:out = rX (av a + av b):=Ba hin (by rw [hs,Int.add_mul_emod_self_right,Int.emod_eq_of_lt hr.1 hr.2])
  rw [← e1]
  congr 1
  rw [decide_eq_decide]
  rw [vg] at *
  omega
theorem wj {F:Nat} (hF:100 < F) {a b:aP} (ha:cF 4294967296 a.l) (hb:cF 4294967296 b.l) (hle:av b ≤ av a):jg F a b = some (rX (av a - av b)):=by
 refine an.eq ?_
 unfold jg
 refine an.bind (P:=fun r=>cF 4294967296 r.l ∧ ∃ c:Int,0 ≤ c ∧ c ≤ 1 ∧ av a + c * MM = av b + av r) (an.rounds 16 (fun k s=>s.2.2 = (k:Int) ∧ cF 4294967296 s.1.l ∧ 0 ≤ s.2.1 ∧ s.2.1 ≤ 1 ∧ ds 4294967296 (dg a.l) k + s.2.1 * 4294967296 ^ k = ds 4294967296 (dg b.l) k + ds 4294967296 (dg s.1.l) k) (by omega) ⟨rfl,js,by decide,by decide,rfl⟩ ?_) ?_
 ·rintro k ⟨out,c,i⟩ hk ⟨rfl,hin,hc0,hc1,hs⟩
  dsimp only at hin hc0 hc1 hs
  dsimp only [kA]
  refine an.ite (fun h=>?_) (fun h=>?_)
  ·have hk':k < 16:=by have:=of_decide_eq_true h; omega
   refine an.idx (by omega) (by rw [aP.bS]; omega) (an.idx (by omega) (by rw [aP.bS]; omega) (an.ln (an.idx (by omega) (by rw [aP.bS]; omega) (an.ln (an.some (.inl ⟨_,rfl,?_,hk'⟩))))))
   have h1:=ha k
   have h2:=hb k
   simp only [dw,Int.toNat_natCast,gq,kF,cn]
   refine ⟨by omega,jb hin (by omega) (by omega) (by constructor <;> omega),by omega,by omega,?_⟩
   rw [c6,c6,aP.qw hk']
   exact sU hs (by omega)
  ·have hk':k = 16:=by have:=of_decide_eq_false h; omega
   subst hk'
   exact an.some (.inr ⟨_,rfl,hin,_,hc0,hc1,hs⟩)
 ·rintro out ⟨hin,c,hc0,hc1,hs⟩
  have hr:=eU hin
  have ra:=eU ha
  have rb:=eU hb
  refine an.some (vR hin ?_)
  have:c = 0:=by
   rcases (by omega:c = 0 ∨ c = 1) with h | h
   ·exact h
   ·subst h; omega
  subst this
  omega
theorem ry {b:Int} (hb:0 < b) {f g:Nat → Int} {n k:Nat} (hk:k < n) (hf:∀ i,0 ≤ f i ∧ f i < b) (hg:∀ i,0 ≤ g i ∧ g i < b) (he:∀ i,k < i → i < n → f i = g i) (hl:f k < g k):ds b f n < ds b g n:=by
 have e:n = (k + 1) + (n - (k + 1)):=by omega
 rw [e,fJ,fJ b g]
 have h1:ds b (fun i=>f (k + 1 + i)) (n - (k + 1)) = ds b (fun i=>g (k + 1 + i)) (n - (k + 1)):=dn fun i hi=>he _ (by omega) (by omega)
 rw [h1]
 have h2:ds b f (k + 1) < ds b g (k + 1):=by
  rw [c6,c6]
  have h3:=oi hb (n:=k) fun i _=>hf i
  have h4:=dK hb (n:=k) fun i _=>(hg i).1
  have h5:(f k + 1) * b ^ k ≤ g k * b ^ k:=Int.mul_le_mul_of_nonneg_right hl (Int.le_of_lt (Int.pow_pos hb))
  rw [Int.add_mul,Int.one_mul] at h5
  omega
 omega
theorem B2 (F:Nat) (x y:Int):iT F x y = some (if x < y then -1 else if y < x then 1 else 0):=by
 unfold iT kn
 simp
 split
 ·rfl
 ·split <;> rfl
theorem Au {F:Nat} (hF:100 < F) {a b:aP} (ha:cF 4294967296 a.l) (hb:cF 4294967296 b.l):kS F a b = some (if av a < av b then -1 else if av b < av a then 1 else 0):=by
 refine an.eq ?_
 unfold kS
 refine an.bind (P:=fun r=>match r with | .inl _=>a = b | .inr y=>y = if av a < av b then -1 else if av b < av a then 1 else 0) (an.rounds 16 (fun k s=>s = 15 - (k:Int) ∧ ∀ i,15 < i + k → i < 16 → dg a.l i = dg b.l i) (by omega) ⟨rfl,fun i h1 h2=>by omega⟩ ?_) ?_
 ·rintro k i hk ⟨rfl,he⟩
  refine an.ite (fun h=>?_) (fun h=>?_)
  ·have hk':k < 16:=by have:=of_decide_eq_true h; omega
   have et:(15 - (k:Int)).toNat = 15 - k:=by omega
   refine an.idx (by omega) (by rw [aP.bS]; omega) (an.idx (by omega) (by rw [aP.bS]; omega) (an.ite (fun hne=>?_) (fun heq=>?_)))
   ·refine an.idx (by omega) (by rw [aP.bS]; omega) (an.idx (by omega) (by rw [aP.bS]; omega) (an.aB (B2 _ _ _) (an.some (.inr ⟨_,rfl,?_⟩))))
    have hne':=of_decide_eq_true hne
    simp only [dw,et] at hne' ⊢
    rcases Int.lt_trichotomy (dg a.l (15 - k)) (dg b.l (15 - k)) with h1 | h1 | h1
    ·have:=ry (b:=4294967296) (n:=16) (k:=15 - k) (by decide) (by omega) ha hb (fun i h2 h3=>he i (by omega) h3) h1
     have h':av a < av b:=this
     rw [if_pos h1,if_pos h']
    ·exact absurd h1 hne'
    ·have:=ry (b:=4294967296) (n:=16) (k:=15 - k) (by decide) (by omega) hb ha (fun i h2 h3=>(he i (by omega) h3).symm) h1
     have h':av b < av a:=this
     rw [if_neg (by omega),if_pos h1,if_neg (by omega),if_pos h']
   ·have heq':idx a.l (15 - (k:Int)) = idx b.l (15 - (k:Int)):=by simpa using heq
    simp only [dw,et] at heq'
    refine an.some (.inl ⟨_,rfl,⟨by rw [cn]; omega,fun i h1 h2=>?_⟩,hk'⟩)
    by_cases e:i = 15 - k
    ·rw [e]; exact heq'
    ·exact he i (by omega) h2
  ·have hk':k = 16:=by have:=of_decide_eq_false h; omega
   subst hk'
   refine an.some (.inr ⟨_,rfl,?_⟩)
   show a = b
   rw [← aP.u6]
   exact Db rfl fun i hi=>he i (by omega) hi
 ·rintro (u | y) h
  ·have h':a = b:=h
   subst h'
   exact an.some (by simp)
  ·exact an.some h
theorem qu {F:Nat} (hF:100 < F) {w:aP}:an (hC F w) fun n=>0 ≤ n ∧ n ≤ 16 ∧ (∀ i,n.toNat ≤ i → i < 16 → dg w.l i = 0) ∧ (0 < n → dg w.l (n.toNat - 1) ≠ 0):=by
 unfold hC
 refine an.bind (P:=fun n=>0 ≤ n ∧ n ≤ 16 ∧ (∀ i,n.toNat ≤ i → i < 16 → dg w.l i = 0) ∧ (0 < n → dg w.l (n.toNat - 1) ≠ 0)) (an.rounds 16 (fun k s=>s = 16 - (k:Int) ∧ ∀ i,16 - k ≤ i → i < 16 → dg w.l i = 0) (by omega) ⟨rfl,fun i h1 h2=>by omega⟩ ?_) (fun x h=>an.some h)
 rintro k n hk ⟨rfl,he⟩
 by_cases hk':k < 16
 ·have hw:IntKind.i64.wrap (16 - (k:Int) - 1) = 15 - (k:Int):=by rw [cn]; omega
  have et:(15 - (k:Int)).toNat = 15 - k:=by omega
  have hd:decide (0 < 16 - (k:Int)) = true:=decide_eq_true (by omega)
  refine an.g1 hd (an.idx (by rw [hw]; omega) (by rw [hw,aP.bS]; omega) ?_)
  rw [hw,hd]
  simp only [dw,et,Bool.true_and]
  refine an.ite (fun h=>?_) (fun h=>?_)
  ·have h':=of_decide_eq_true h
   refine an.some (.inl ⟨_,rfl,⟨by omega,fun i h1 h2=>?_⟩,hk'⟩)
   by_cases e:i = 15 - k
   ·rw [e]; exact h'
   ·exact he i (by omega) h2
  ·have h':=of_decide_eq_false h
   refine an.some (.inr ⟨_,rfl,by omega,by omega,fun i h1 h2=>he i (by omega) h2,fun _=>?_⟩)
   have:(16 - (k:Int)).toNat - 1 = 15 - k:=by omega
   rw [this]; exact h'
 ·have hk2:k = 16:=by omega
  subst hk2
  refine an.g0 (by decide) ?_
  refine an.iff (by simp) (an.some (.inr ⟨_,rfl,by decide,by decide,fun i _ h2=>he i (by omega) h2,fun h=>by simp at h⟩))
end Go.Proofs.YtcbbilehdaaffaaGreatDoor
namespace Go.Sk
set_option linter.unusedSimpArgs false
set_option linter.unusedVariables false
def bad:bt:=⟨true,false,aP.zero⟩
def cm (z:Int):bt:=if -MM < z ∧ z < MM then ⟨false,decide (z < 0),rX (if z < 0 then -z else z)⟩ else bad
def uO:Option Int → bt
 | some z=>cm z
 | none=>bad
def kC (x:bt):Prop:=cF 4294967296 x.W.l
def fX (x:bt):Bool:=!x.Bad && (!decide (x.W = aP.zero) || !x.Neg)
def sv (x:bt):Int:=if x.Neg = true then -av x.W else av x.W
def iv (x:bt):Option Int:=if fX x = true then some (sv x) else none
theorem ow:kC bad:=js
theorem bc (z:Int):kC (cm z):=by
 unfold cm; split
 ·exact kp _
 ·exact ow
theorem yS:iv bad = none:=rfl
theorem kM {m:Int} (h0:0 ≤ m) (h1:m < MM):rX m = aP.zero ↔ m = 0:=by
 rw [lq (kp _),jc,Int.emod_eq_of_lt h0 h1]
theorem mU {z:Int} (h:-MM < z ∧ z < MM):fX (cm z) = true:=by
 unfold cm
 rw [if_pos h]
 by_cases hz:z < 0
 ·have:¬ rX (-z) = aP.zero:=by rw [kM (by omega) (by omega)]; omega
  simp [fX,hz,this]
 ·simp [fX,hz]
theorem gZ {z:Int} (h:-MM < z ∧ z < MM):iv (cm z) = some z:=by
 unfold iv
 rw [if_pos (mU h)]
 unfold cm sv
 rw [if_pos h]
 by_cases hz:z < 0
 ·simp only [hz,decide_true,if_true]
  rw [jc,Int.emod_eq_of_lt (by omega) (by omega)]; simp
 ·simp only [hz,decide_false,if_false]
  rw [jc,Int.emod_eq_of_lt (by omega) (by omega)]; simp
theorem kJ {z:Int} (h:¬ (-MM < z ∧ z < MM)):cm z = bad:=if_neg h
theorem xo {x:bt} (h:kC x):-MM < sv x ∧ sv x < MM:=by
 have:=eU h
 unfold sv
 split <;> omega
theorem big_sv {x:bt} (h:kC x) (hg:fX x = true):x = cm (sv x):=by
 have hr:=xo h
 have ha:=eU h
 unfold cm
 rw [if_pos hr]
 simp only [fX,Bool.and_eq_true,Bool.not_eq_true',Bool.or_eq_true,decide_eq_false_iff_not] at hg
 obtain ⟨hb,hz⟩:=hg
 cases x with
 | mk B N W=>
  dsimp only [sv] at *
  subst hb
  cases N with
  | false=>
   have h1:¬ av W < 0:=by omega
   simp only [Bool.false_eq_true,if_false,h1,decide_false]
   rw [ot h]
  | true=>
   have hw:¬ W = aP.zero:=by simpa using hz
   have h2:av W ≠ 0:=fun e=>hw ((lq h).2 e)
   have h1:-av W < 0:=by omega
   simp only [if_true,h1,decide_true]
   rw [Int.neg_neg,ot h]
theorem cu {x:bt} {z:Int} (h:kC x) (hz:iv x = some z):fX x = true ∧ x = cm z ∧ -MM < z ∧ z < MM:=by
 unfold iv at hz
 split at hz
 ·next hg=>
  cases hz
  exact ⟨hg,big_sv h hg,xo h⟩
 ·simp at hz
theorem cR {x:bt} (hz:iv x = none):fX x = false:=by
 unfold iv at hz
 split at hz
 ·simp at hz
 ·next hg=>simpa using hg
theorem wO {z:Int}:(cm z).Bad = !decide (-MM < z ∧ z < MM):=by
 unfold cm
 split
 ·next h=>simp [h]
 ·next h=>simp [h,bad]
theorem Cv (o:Option Int):kC (uO o):=by cases o; exact ow; exact bc _
theorem tw {a b:Int} (ha:-MM < a ∧ a < MM) (hb:-MM < b ∧ b < MM):cm a = cm b ↔ a = b:=⟨fun h=>by
 have:=congrArg iv h
 rw [gZ ha,gZ hb] at this
 exact Option.some.inj this,fun h=>by rw [h]⟩
end Go.Sk
namespace Go.Proofs.YtcbbilehdaaffaaGreatDoor
open Go Go.Sk
set_option linter.unusedSimpArgs false
set_option linter.unusedVariables false
theorem Bh (F:Nat) (x:bt):kU F x = some (if x.Bad = true then decide (x.W = aP.zero) && !x.Neg else !decide (x.W = aP.zero) || !x.Neg):=by
 unfold kU
 split <;> rfl
theorem CT {F:Nat} (l:List bt) (hF:l.length < F) (hl:l.length ≤ 1000):eL F l = some (l.all fX):=by
 refine an.eq ?_
 unfold eL
 refine an.bind (P:=fun r=>match r with | .inl _=>l.all fX = true | .inr y=>y = false ∧ l.all fX = false) (an.rounds l.length (fun k s=>s = (k:Int) ∧ (l.take k).all fX = true) hF ⟨rfl,by simp⟩ ?_) ?_
 ·rintro k i hk ⟨rfl,he⟩
  refine an.ite (fun h=>?_) (fun h=>?_)
  ·have hk':k < l.length:=by have:=of_decide_eq_true h; omega
   refine an.idx (by omega) (by omega) ?_
   have hx:idx l (k:Int) = l[k]:=by
    have:=idx_eq (xs:=l) (i:=(k:Int)) (by omega) (by omega)
    rw [Int.toNat_natCast,List.getElem?_eq_getElem hk'] at this
    exact (Option.some.inj this).symm
   rw [hx]
   have hstep:(l.take (k + 1)).all fX = ((l.take k).all fX && fX l[k]):=by
    rw [List.take_add_one,List.getElem?_eq_getElem hk',List.all_append]; simp
   have hall:fX l[k] = false → l.all fX = false:=fun hg=>by
    rw [List.all_eq_false]; exact ⟨l[k],List.getElem_mem hk',by simp [hg]⟩
   cases hb:l[k].Bad with
   | true=>
    refine an.g0 (by rfl) (an.fU (by simp) (an.some (.inr ⟨_,rfl,rfl,hall (by simp [fX,hb])⟩)))
   | false=>
    refine an.g1 (by rfl) (an.aB (Bh _ _) ?_)
    have hg:fX l[k] = (!decide (l[k].W = aP.zero) || !l[k].Neg):=by simp [fX,hb]
    simp only [hb,Bool.false_eq_true,if_false,← hg]
    refine an.ite (fun h=>?_) (fun h=>?_)
    ·exact an.some (.inr ⟨_,rfl,rfl,hall (by simpa using h)⟩)
    ·refine an.some (.inl ⟨_,rfl,⟨by rw [cn]; omega,?_⟩,hk'⟩)
     rw [hstep,he]; simpa using h
  ·have hk':k = l.length:=by have:=of_decide_eq_false h; omega
   subst hk'
   rw [List.take_length] at he
   exact an.some (.inr ⟨_,rfl,he⟩)
 ·rintro (u | y) h
  ·exact an.some h.symm
  ·exact an.some (by rw [h.1,h.2])
theorem u9 {F:Nat} (hF:100 < F) (x:bt):eL F [x] = some (fX x):=by rw [CT _ (by simp; omega) (by simp)]; simp
theorem Ac {F:Nat} (hF:100 < F) (x y:bt):eL F [x,y] = some (fX x && fX y):=by rw [CT _ (by simp; omega) (by simp)]; simp
theorem j6 (F:Nat):fV F = some bad:=rfl
theorem gg (F:Nat) (neg:Bool) {w:aP} (h:cF 4294967296 w.l):cL F neg w = some (cm (if neg = true then -av w else av w)):=by
 have hr:=eU h
 unfold cL cm
 have hz:=lq h
 cases neg with
 | false=>
  have h1:¬ av w < 0:=by omega
  simp only [Bool.false_eq_true,if_false,h1,decide_false,Bool.false_and]
  rw [if_pos (by omega),ot h]
 | true=>
  simp only [if_true,Bool.true_and]
  rw [if_pos (by omega)]
  by_cases e:av w = 0
  ·have hw:=hz.2 e
   rw [e]
   simp [hw,zero_eq]
  ·have hw:¬ w = aP.zero:=fun h=>e (hz.1 h)
   have h1:-av w < 0:=by omega
   simp only [h1,decide_true,if_true,Int.neg_neg,ot h]
   simp [hw]
theorem cT {z:Int} (h:-MM < z ∧ z < MM):av (cm z).W = (if z < 0 then -z else z) ∧ (cm z).Neg = decide (z < 0):=by
 unfold cm
 rw [if_pos h]
 refine ⟨?_,rfl⟩
 dsimp only
 rw [jc,Int.emod_eq_of_lt] <;> split <;> omega
def two (f:Int → Int → Option Int) (x y:bt):bt:=match iv x,iv y with
 | some a,some b=>uO (f a b)
 | _,_=>bad
def one (f:Int → Option Int) (x:bt):bt:=match iv x with
 | some a=>uO (f a)
 | none=>bad
theorem np {f:Int → Int → Option Int} {a b:Int} (ha:-MM < a ∧ a < MM) (hb:-MM < b ∧ b < MM):two f (cm a) (cm b) = uO (f a b):=by simp only [two,gZ ha,gZ hb]
theorem q8 {f:Int → Option Int} {a:Int} (ha:-MM < a ∧ a < MM):one f (cm a) = uO (f a):=by simp only [one,gZ ha]
theorem Add_y {F:Nat} (hF:100 < F) {x y:bt} (hx:kC x) (hy:kC y):nn F x y = some (two (fun a b=>some (a + b)) x y):=by
 refine an.eq ?_
 unfold nn two
 refine an.aB (Ac hF x y) ?_
 cases ha:iv x with
 | none=>simp only [cR ha,Bool.false_and,Bool.not_false,if_true]; exact an.aB (j6 F) (an.some rfl)
 | some a=>
  cases hb:iv y with
  | none=>simp only [cR hb,Bool.and_false,Bool.not_false,if_true]; exact an.aB (j6 F) (an.some rfl)
  | some b=>
   obtain ⟨ga,rfl,ra⟩:=cu hx ha
   obtain ⟨gb,rfl,rb⟩:=cu hy hb
   obtain ⟨wa,na⟩:=cT ra
   obtain ⟨wb,nb⟩:=cT rb
   simp only [ga,gb,Bool.and_self,Bool.not_true,Bool.false_eq_true,if_false,uO]
   refine an.ite (fun hn=>?_) (fun hn=>?_)
   ·have hn':(a < 0) = (b < 0):=by
     rw [na,nb] at hn
     exact propext (decide_eq_decide.1 (eq_of_beq hn))
    refine an.aB (plus_y hF (bc a) (bc b)) ?_
    dsimp only [b7]
    rw [wa,wb]
    have hs:(if a < 0 then -a else a) + (if b < 0 then -b else b) = if a + b < 0 then -(a + b) else a + b:=by
     by_cases h1:a < 0
     ·have h2:b < 0:=by rw [← hn']; exact h1
      rw [if_pos h1,if_pos h2,if_pos (by omega)]; omega
     ·have h2:¬ b < 0:=by rw [← hn']; exact h1
      rw [if_neg h1,if_neg h2,if_neg (by omega)]
    rw [hs]
    refine an.ite (fun h=>?_) (fun h=>?_)
    ·refine an.aB (j6 F) (an.some ?_)
     have h':¬ (if a + b < 0 then -(a + b) else a + b) < MM:=by simpa using h
     exact (kJ (by split at h' <;> omega)).symm
    ·have h':(if a + b < 0 then -(a + b) else a + b) < MM:=by simpa using h
     refine an.aB (gg F _ (kp _)) (an.some ?_)
     rw [jc,Int.emod_eq_of_lt (by split <;> omega) h',na]
     congr 1
     by_cases h1:a < 0
     ·have h2:b < 0:=by rw [← hn']; exact h1
      simp only [h1,decide_true,if_true]; rw [if_pos (by omega)]; omega
     ·have h2:¬ b < 0:=by rw [← hn']; exact h1
      simp only [h1,decide_false,Bool.false_eq_true,if_false]; rw [if_neg (by omega)]
   ·have hn':(a < 0) ≠ (b < 0):=by
     rw [na,nb] at hn
     intro e
     have:decide (a < 0) = decide (b < 0):=decide_eq_decide.2 (Iff.of_eq e)
     rw [this] at hn; simp at hn
    have hcase:(a < 0 ∧ ¬ b < 0) ∨ (¬ a < 0 ∧ b < 0):=by
     by_cases h1:a < 0
     ·by_cases h2:b < 0
      ·exact absurd (propext ⟨fun _=>h2,fun _=>h1⟩) hn'
      ·exact .inl ⟨h1,h2⟩
     ·by_cases h2:b < 0
      ·exact .inr ⟨h1,h2⟩
      ·exact absurd (propext ⟨fun h=>absurd h h1,fun h=>absurd h h2⟩) hn'
    refine an.aB (Au hF (bc a) (bc b)) ?_
    rw [wa,wb]
    refine an.ite (fun h=>?_) (fun h=>?_)
    ·have h':=of_decide_eq_true h
     have hle:(if b < 0 then -b else b) ≤ (if a < 0 then -a else a):=by
      by_cases h3:(if a < 0 then -a else a) < (if b < 0 then -b else b)
      ·rw [if_pos h3] at h'; omega
      ·omega
     refine an.aB (wj hF (bc a) (bc b) (by rw [wa,wb]; exact hle)) (an.aB (gg F _ (kp _)) (an.some ?_))
     rw [wa,wb,jc,Int.emod_eq_of_lt (by omega) (by split <;> split <;> omega),na]
     congr 1
     rcases hcase with ⟨h1,h2⟩ | ⟨h1,h2⟩
     ·simp only [h1,h2,if_true,if_false,decide_true]; omega
     ·simp only [h1,h2,if_true,if_false,decide_false,Bool.false_eq_true]; omega
    ·have h':=of_decide_eq_false h
     have hle:(if a < 0 then -a else a) ≤ (if b < 0 then -b else b):=by
      by_cases h3:(if a < 0 then -a else a) < (if b < 0 then -b else b)
      ·omega
      ·rw [if_neg h3] at h'; split at h' <;> omega
     refine an.aB (wj hF (bc b) (bc a) (by rw [wa,wb]; exact hle)) (an.aB (gg F _ (kp _)) (an.some ?_))
     rw [wa,wb,jc,Int.emod_eq_of_lt (by omega) (by split <;> split <;> omega),nb]
     congr 1
     rcases hcase with ⟨h1,h2⟩ | ⟨h1,h2⟩
     ·simp only [h1,h2,if_true,if_false,decide_false,Bool.false_eq_true]; omega
     ·simp only [h1,h2,if_true,if_false,decide_true]; omega
end Go.Proofs.YtcbbilehdaaffaaGreatDoor
namespace Go.Sk
set_option linter.unusedSimpArgs false
set_option linter.unusedVariables false
theorem th {i j:Nat} (h:i ≤ j):(2:Int) ^ i ≤ 2 ^ j:=by
 have:=Nat.pow_le_pow_right (n:=2) (by decide) h
 exact_mod_cast this
def fx (m:Int):Int:=if m ≤ 0 then 0 else (Nat.log2 m.toNat:Int) + 1
theorem pT {m:Int} (h:0 < m):1 ≤ fx m ∧ 2 ^ ((fx m).toNat - 1) ≤ m ∧ m < 2 ^ (fx m).toNat:=by
 obtain ⟨k,rfl⟩:∃ k:Nat,m = k:=⟨m.toNat,by omega⟩
 have hk:k ≠ 0:=by omega
 have e:fx (k:Int) = (Nat.log2 k:Int) + 1:=by unfold fx; rw [if_neg (by omega),Int.toNat_natCast]
 rw [e]
 have e1:((Nat.log2 k:Int) + 1).toNat = Nat.log2 k + 1:=by omega
 rw [e1,Nat.add_sub_cancel]
 refine ⟨by omega,?_,?_⟩
 ·have:=Nat.log2_self_le hk
  exact_mod_cast this
 ·have:=@Nat.lt_log2_self k
  exact_mod_cast this
theorem yA {m n:Int} (hn:1 ≤ n) (h1:2 ^ (n.toNat - 1) ≤ m) (h2:m < 2 ^ n.toNat):fx m = n:=by
 have hm:0 < m:=Int.lt_of_lt_of_le (Int.pow_pos (by decide)) h1
 obtain ⟨k,rfl⟩:∃ k:Nat,m = k:=⟨m.toNat,by omega⟩
 have hk:k ≠ 0:=by omega
 unfold fx
 rw [if_neg (by omega),Int.toNat_natCast]
 have a1:2 ^ (n.toNat - 1) ≤ k:=by exact_mod_cast h1
 have a2:k < 2 ^ n.toNat:=by exact_mod_cast h2
 have b1:=(Nat.le_log2 hk).2 a1
 have b2:=(Nat.log2_lt hk).2 a2
 omega
theorem B4 {m:Int} (h:m ≤ 0):fx m = 0:=if_pos h
theorem pg (m:Int):0 ≤ fx m:=by unfold fx; split <;> omega
theorem pJ {m:Int} {k:Nat} (h:m < 2 ^ k):fx m ≤ k:=by
 by_cases h0:m ≤ 0
 ·rw [B4 h0]; omega
 ·have h1:=pT (by omega:0 < m)
  rcases (by omega:(k:Int) < fx m ∨ fx m ≤ k) with h2 | h2
  ·have h3:(2:Int) ^ k ≤ 2 ^ ((fx m).toNat - 1):=th (by omega)
   omega
  ·exact h2
theorem lt_blen {m:Int}:m < 2 ^ (fx m).toNat:=by
 by_cases h0:m ≤ 0
 ·have:(0:Int) < 2 ^ (fx m).toNat:=Int.pow_pos (by decide)
  omega
 ·exact (pT (by omega)).2.2
theorem wN {x v:Int} {k:Nat} (hv:x / 2 ^ k = v) (h0:0 < v):fx x = k + fx v:=by
 have hp:(0:Int) < 2 ^ k:=Int.pow_pos (by decide)
 obtain ⟨h1,h2,h3⟩:=pT h0
 have hx1:v * 2 ^ k ≤ x:=by rw [← hv]; exact Int.ediv_mul_le _ (by omega)
 have hx2:x < (v + 1) * 2 ^ k:=by rw [← hv]; exact Int.lt_ediv_add_one_mul_self _ hp
 refine yA (by omega) ?_ ?_
 ·have e:(k + fx v).toNat - 1 = ((fx v).toNat - 1) + k:=by omega
  rw [e,Int.pow_add]
  exact Int.le_trans (Int.mul_le_mul_of_nonneg_right h2 (by omega)) hx1
 ·have e:(k + fx v).toNat = (fx v).toNat + k:=by omega
  rw [e,Int.pow_add]
  exact Int.lt_of_lt_of_le hx2 (Int.mul_le_mul_of_nonneg_right (by omega) (by omega))
theorem ior_nat (x y:Nat) (hx:x < 2 ^ 64) (hy:y < 2 ^ 64):lU .u64 (x:Int) (y:Int) = ((x ||| y:Nat):Int):=by
 have h:x ||| y < 2 ^ 64:=Nat.or_lt_two_pow hx hy
 unfold lU
 have e1:(BitVec.ofInt 64 (x:Int)).toNat = x:=by simp [BitVec.toNat_ofInt]; omega
 have e2:(BitVec.ofInt 64 (y:Int)).toNat = y:=by simp [BitVec.toNat_ofInt]; omega
 show IntKind.u64.wrap ((BitVec.ofInt 64 (x:Int) ||| BitVec.ofInt 64 (y:Int)).toNat:Int) = _
 rw [BitVec.toNat_or,e1,e2,gq]
 omega
theorem nw {a b:Int} (k:Nat) (ha:0 ≤ a) (ha':a < 18446744073709551616) (hk:a % 2 ^ k = 0) (hb:0 ≤ b) (hb':b < 2 ^ k) (hb2:b < 18446744073709551616):lU .u64 a b = a + b:=by
 obtain ⟨x,rfl⟩:∃ x:Nat,a = x:=⟨a.toNat,by omega⟩
 obtain ⟨y,rfl⟩:∃ y:Nat,b = y:=⟨b.toNat,by omega⟩
 rw [ior_nat x y (by omega) (by omega)]
 have hy:y < 2 ^ k:=by exact_mod_cast hb'
 have hx:x % 2 ^ k = 0:=by exact_mod_cast hk
 have e:x = 2 ^ k * (x / 2 ^ k):=by have:=Nat.div_add_mod x (2 ^ k); omega
 rw [e,← Nat.two_pow_add_eq_or_of_lt hy]
 exact Int.natCast_add _ _
theorem DP (a b:Int):lU .u64 a b = lU .u64 b a:=by
 unfold lU
 rw [BitVec.or_comm]
theorem zh {a b:Int}:av ⟨a,b,0,0,0,0,0,0,0,0,0,0,0,0,0,0⟩ = a + b * 4294967296:=by
 simp [av,ds,dg,aP.l]
theorem yU {a b:Int} (ha:0 ≤ a ∧ a < 4294967296) (hb:0 ≤ b ∧ b < 4294967296):cF 4294967296 (aP.l ⟨a,b,0,0,0,0,0,0,0,0,0,0,0,0,0,0⟩):=fun i=>by
 match i with
 | 0=>exact ha
 | 1=>exact hb
 | n + 2=>
  have:dg (aP.l ⟨a,b,0,0,0,0,0,0,0,0,0,0,0,0,0,0⟩) (n + 2) = dg (List.replicate 14 0) n:=rfl
  rw [this,dk]; decide
def yC (z:Int):Int:=if z = 0 then 0 else if z < 0 then -1 else 1
def cmpZ (a b:Int):Int:=if a < b then -1 else if b < a then 1 else 0
def aJ (z:Int):Int:=if z < 0 then -z else z
theorem qy:18446744073709551616 < MM:=by rw [vg]; decide
end Go.Sk
namespace Go.Proofs.YtcbbilehdaaffaaGreatDoor
open Go Go.Sk
set_option linter.unusedSimpArgs false
set_option linter.unusedVariables false
theorem Neg_y {F:Nat} (hF:100 < F) {x:bt} (hx:kC x):nk F x = some (one (fun a=>some (-a)) x):=by
 refine an.eq ?_
 unfold nk one
 refine an.aB (u9 hF x) ?_
 cases ha:iv x with
 | none=>simp only [cR ha,Bool.not_false,if_true]; exact an.aB (j6 F) (an.some rfl)
 | some a=>
  obtain ⟨ga,rfl,ra⟩:=cu hx ha
  obtain ⟨wa,na⟩:=cT ra
  simp only [ga,Bool.not_true,Bool.false_eq_true,if_false,uO]
  refine an.aB (gg F _ (bc a)) (an.some ?_)
  rw [wa,na]
  congr 1
  by_cases h:a < 0
  ·simp [h]
  ·simp [h]
theorem Abs_y {F:Nat} (hF:100 < F) {x:bt} (hx:kC x):py F x = some (one (fun a=>some (aJ a)) x):=by
 refine an.eq ?_
 unfold py one
 refine an.aB (u9 hF x) ?_
 cases ha:iv x with
 | none=>simp only [cR ha,Bool.not_false,if_true]; exact an.aB (j6 F) (an.some rfl)
 | some a=>
  obtain ⟨ga,rfl,ra⟩:=cu hx ha
  obtain ⟨wa,na⟩:=cT ra
  simp only [ga,Bool.not_true,Bool.false_eq_true,if_false,uO]
  refine an.aB (gg F _ (bc a)) (an.some ?_)
  simp only [wa,Bool.false_eq_true,if_false]
  rfl
theorem one_in (f:Int → Option Int) (x:bt):kC (one f x):=by unfold one; split; exact Cv _; exact ow
theorem two_in (f:Int → Int → Option Int) (x y:bt):kC (two f x y):=by unfold two; split; exact Cv _; exact ow
theorem Sub_y {F:Nat} (hF:100 < F) {x y:bt} (hx:kC x) (hy:kC y):pw F x y = some (two (fun a b=>some (a - b)) x y):=by
 refine an.eq ?_
 unfold pw
 refine an.aB (Neg_y hF hy) (an.aB (Add_y hF hx (one_in _ _)) (an.some ?_))
 unfold two
 cases hb:iv y with
 | none=>
  have:one (fun a=>some (-a)) y = bad:=by simp only [one,hb]
  rw [this,yS]
  cases iv x <;> rfl
 | some b=>
  obtain ⟨gb,rfl,rb⟩:=cu hy hb
  rw [q8 rb]
  simp only [uO]
  rw [gZ (by omega)]
  cases iv x with
  | none=>rfl
  | some a=>simp only [uO,Int.sub_eq_add_neg]
theorem Df {F:Nat} (hF:100 < F) {x:bt} (hx:kC x):hE F x = some (match iv x with | some a=>yC a | none=>0):=by
 refine an.eq ?_
 unfold hE
 refine an.aB (u9 hF x) ?_
 cases ha:iv x with
 | none=>simp only [cR ha,Bool.not_false,Bool.true_or,if_true]; exact an.some rfl
 | some a=>
  obtain ⟨ga,rfl,ra⟩:=cu hx ha
  obtain ⟨wa,na⟩:=cT ra
  simp only [ga,Bool.not_true,Bool.false_or,lq (bc a),wa,na]
  refine an.ite (fun h=>?_) (fun h=>?_)
  ·have h':=of_decide_eq_true h
   have:a = 0:=by split at h' <;> omega
   subst this
   exact an.some rfl
  ·have h':=of_decide_eq_false h
   have h0:a ≠ 0:=fun e=>h' (by rw [e]; rfl)
   unfold yC
   refine an.ite (fun h=>?_) (fun h=>?_)
   ·have:=of_decide_eq_true h; exact an.some (by rw [if_neg h0,if_pos this])
   ·have:=of_decide_eq_false h; exact an.some (by rw [if_neg h0,if_neg this])
end Go.Proofs.YtcbbilehdaaffaaGreatDoor
namespace Go.Sk
set_option linter.unusedSimpArgs false
set_option linter.unusedVariables false
def len8:bg:=[0,1,2,2,3,3,3,3,4,4,4,4,4,4,4,4,5,5,5,5,5,5,5,5,5,5,5,5,5,5,5,5,6,6,6,6,6,6,6,6,6,6,6,6,6,6,6,6,6,6,6,6,6,6,6,6,6,6,6,6,6,6,6,6,7,7,7,7,7,7,7,7,7,7,7,7,7,7,7,7,7,7,7,7,7,7,7,7,7,7,7,7,7,7,7,7,7,7,7,7,7,7,7,7,7,7,7,7,7,7,7,7,7,7,7,7,7,7,7,7,7,7,7,7,7,7,7,7,8,8,8,8,8,8,8,8,8,8,8,8,8,8,8,8,8,8,8,8,8,8,8,8,8,8,8,8,8,8,8,8,8,8,8,8,8,8,8,8,8,8,8,8,8,8,8,8,8,8,8,8,8,8,8,8,8,8,8,8,8,8,8,8,8,8,8,8,8,8,8,8,8,8,8,8,8,8,8,8,8,8,8,8,8,8,8,8,8,8,8,8,8,8,8,8,8,8,8,8,8,8,8,8,8,8,8,8,8,8,8,8,8,8,8,8,8,8,8,8,8,8,8,8,8,8,8,8]
theorem DG:∀ v:_root_.Fin 256,((len8.getD v.val 0).toNat:Int) = fx v.val:=by decide +kernel
theorem len8_at {v:Int} (h0:0 ≤ v) (h1:v < 256):((idx len8 v).toNat:Int) = fx v:=by
 obtain ⟨k,rfl⟩:∃ k:Nat,v = k:=⟨v.toNat,by omega⟩
 exact DG ⟨k,by omega⟩
theorem DF:len8.length = 256:=by decide +kernel
theorem p8:(2:Int) ^ 8 = 256:=by decide
theorem zW:(2:Int) ^ 32 = 4294967296:=by decide
theorem p64:(2:Int) ^ 64 = 18446744073709551616:=by decide
theorem pow32 (m:Nat):(4294967296:Int) ^ m = 2 ^ (32 * m):=by rw [Int.pow_mul]; rfl
theorem gY.eV {w:gY} {i x:Int} (h0:0 ≤ i) (h1:i < 32) (j:Nat):dg (w.set i x).l j = if j = i.toNat then x else dg w.l j:=by
 rw [gY.iO,iK (by rw [gY.bS]; omega)]
theorem gY.qw {b:Int} {w:gY} {k:Nat} {x:Int} (h:k < 32):ds b (dg (w.set (k:Int) x).l) (k + 1) = ds b (dg w.l) k + x * b ^ k:=vS fun i=>by rw [gY.eV (by omega) (by omega),Int.toNat_natCast]
theorem gY.jb {w:gY} {i x:Int} (h:cF 4294967296 w.l) (h0:0 ≤ i) (h1:i < 32) (hx:0 ≤ x ∧ x < 4294967296):cF 4294967296 (w.set i x).l:=fun j=>by
 rw [gY.eV h0 h1]
 split
 ·exact hx
 ·exact h j
theorem gY.js:cF 4294967296 gY.zero.l:=fun i=>by
 have:gY.zero.l = List.replicate 32 0:=rfl
 rw [this,dk]; decide
theorem gY.Ag (i:Nat):dg gY.zero.l i = 0:=by
 have:gY.zero.l = List.replicate 32 0:=rfl
 rw [this,dk]
theorem k6 {a b m:Int} (ha:0 ≤ a ∧ a < m) (hb:0 ≤ b ∧ b < m):0 ≤ a * b ∧ a * b ≤ (m - 1) * (m - 1):=⟨Int.mul_nonneg ha.1 hb.1,Int.mul_le_mul (by omega) (by omega) hb.1 (by omega)⟩
theorem DA {b O0 O c x c' ai bk ok V:Int} {i k:Nat} (h:O + c * b ^ (i + k) = O0 + ai * b ^ i * V) (e:c + ai * bk + ok = x + c' * b):(O + x * b ^ (i + k)) + c' * b ^ (i + k + 1) = (O0 + ok * b ^ (i + k)) + ai * b ^ i * (V + bk * b ^ k):=by
 rw [Int.pow_succ]
 have e1:b ^ (i + k) = b ^ i * b ^ k:=Int.pow_add _ _ _
 rw [e1] at *
 grind
end Go.Sk
namespace Go.Proofs.YtcbbilehdaaffaaGreatDoor
open Go Go.Sk
set_option linter.unusedSimpArgs false
set_option linter.unusedVariables false
theorem Bl (F:Nat) {x:Int} (h0:0 ≤ x) (h1:x < 4294967296):iG F x = some (fx x):=by
 refine an.eq ?_
 unfold iG
 refine an.bind (P:=fun r=>0 ≤ r.1 ∧ r.1 < 65536 ∧ 0 ≤ r.2 ∧ r.2 ≤ 16 ∧ fx x = r.2 + fx r.1) ?_ ?_
 ·refine an.ite (fun h=>?_) (fun h=>?_)
  ·have:=of_decide_eq_true h
   refine an.some ⟨by omega,by omega,by omega,by omega,?_⟩
   exact wN (k:=16) rfl (by omega)
  ·have:=of_decide_eq_false h
   exact an.some ⟨by omega,by omega,by omega,by omega,by dsimp only; omega⟩
 ·rintro ⟨y,n⟩ ⟨y0,y1,n0,n1,e⟩
  dsimp only at y0 y1 n0 n1 e
  refine an.bind (P:=fun r=>0 ≤ r.1 ∧ r.1 < 256 ∧ 0 ≤ r.2 ∧ r.2 ≤ 24 ∧ fx x = r.2 + fx r.1) ?_ ?_
  ·refine an.ite (fun h=>?_) (fun h=>?_)
   ·have:=of_decide_eq_true h
    have e2:=wN (x:=y) (v:=y / 256) (k:=8) rfl (by omega)
    refine an.some ⟨by omega,by omega,?_,?_,?_⟩ <;> dsimp only <;> rw [cn] <;> omega
   ·have:=of_decide_eq_false h
    exact an.some ⟨by omega,by omega,by omega,by omega,by dsimp only; omega⟩
  ·rintro ⟨z,m⟩ ⟨z0,z1,m0,m1,e2⟩
   dsimp only at z0 z1 m0 m1 e2
   have hw:IntKind.u8.wrap z = z:=by rw [wu8]; omega
   dsimp only [b7]
   rw [hw]
   refine an.idx (l:=len8) z0 (by rw [DF]; omega) (an.ln (an.some ?_))
   rw [len8_at z0 z1]
   have hb:=pJ (m:=z) (k:=8) (by rw [p8]; omega)
   have hb0:=pg z
   rw [dm (z:=fx z) (by omega) (by omega),cn] 
   omega
theorem D9 {m:Nat} {v:Int} (hm:m ≤ 15) (h0:0 ≤ v) (h1:v ≤ ((32:Nat):Int)):IntKind.i64.wrap (IntKind.i64.wrap (32 * (m:Int)) + v) = ((32 * m:Nat):Int) + v:=by
 simp only [cn]
 omega
theorem Bits_y {F:Nat} (hF:100 < F) {x:bt} (hx:kC x):oA F x = some (match iv x with | some a=>fx (aJ a) | none=>0):=by
 refine an.eq ?_
 unfold oA
 refine an.bind (qu hF) fun n hn=>?_
 obtain ⟨n0,n1,nz,nt⟩:=hn
 refine an.aB (u9 hF x) ?_
 cases ha:iv x with
 | none=>simp only [cR ha,Bool.not_false,Bool.true_or,if_true]; exact an.some rfl
 | some a=>
  obtain ⟨ga,rfl,ra⟩:=cu hx ha
  obtain ⟨wa,na⟩:=cT ra
  have hval:aJ a = ds 4294967296 (dg (cm a).W.l) n.toNat:=by
   have h1:aJ a = av (cm a).W:=by rw [wa]; rfl
   rw [h1]
   exact lm (by omega) nz
  simp only [ga,Bool.not_true,Bool.false_or]
  refine an.ite (fun h=>?_) (fun h=>?_)
  ·have h':=of_decide_eq_true h
   subst h'
   refine an.some ?_
   rw [hval]; rfl
  ·have h':=of_decide_eq_false h
   have hm:n.toNat = (n.toNat - 1) + 1:=by omega
   have hw:IntKind.i64.wrap (n - 1) = ((n.toNat - 1:Nat):Int):=by rw [cn]; omega
   rw [hw]
   have hd:=bc a (n.toNat - 1)
   have hd0:=nt (by omega)
   refine an.ln (an.idx (by omega) (by rw [aP.bS]; omega) ?_)
   rw [dw,Int.toNat_natCast]
   refine an.aB (Bl F hd.1 hd.2) (an.some ?_)
   have hb:=pJ (m:=dg (cm a).W.l (n.toNat - 1)) (k:=32) (by rw [zW]; omega)
   have hb0:=pg (dg (cm a).W.l (n.toNat - 1))
   have key:fx (aJ a) = ((32 * (n.toNat - 1):Nat):Int) + fx (dg (cm a).W.l (n.toNat - 1)):=by
    refine wN ?_ (by omega)
    have hp:(0:Int) < 2 ^ (32 * (n.toNat - 1)):=Int.pow_pos (by decide)
    have hlo:=oi (b:=4294967296) (by decide) (f:=dg (cm a).W.l) (n:=n.toNat - 1) fun i _=>bc a i
    have hlo0:=dK (b:=4294967296) (by decide) (f:=dg (cm a).W.l) (n:=n.toNat - 1) fun i _=>(bc a i).1
    rw [hval,hm,c6,pow32,Nat.add_sub_cancel]
    rw [pow32] at hlo
    rw [Int.add_mul_ediv_right _ _ (by omega),Int.ediv_eq_zero_of_lt hlo0 hlo,Int.zero_add]
   show IntKind.i64.wrap (IntKind.i64.wrap (32 * ((n.toNat - 1:Nat):Int)) + fx (dg (cm a).W.l (n.toNat - 1))) = fx (aJ a)
   rw [key]
   exact D9 (by omega) hb0 hb
theorem yJ (F:Nat) {n:Int} (h0:-9223372036854775808 ≤ n) (h1:n ≤ 9223372036854775807):ja F n = some (cm n):=by
 refine an.eq ?_
 unfold ja
 refine an.bind (P:=fun u=>u = aJ n) ?_ ?_
 ·unfold aJ
  refine an.ite (fun h=>?_) (fun h=>?_)
  ·have:=of_decide_eq_true h
   refine an.ln (an.some ?_)
   rw [if_pos this]
   simp only [gq]; omega
  ·have:=of_decide_eq_false h
   refine an.some ?_
   rw [if_neg this]
   simp only [gq]; omega
 ·rintro u rfl
  have hu:0 ≤ aJ n ∧ aJ n ≤ 9223372036854775808:=by unfold aJ; split <;> omega
  refine an.ln ?_
  refine an.aB (gg F _ (yU (by simp only [kF]; omega) (by simp only [kF]; omega))) (an.some ?_)
  rw [zh]
  simp only [kF]
  congr 1
  unfold aJ at *
  by_cases h:n < 0
  ·simp only [h,decide_true,if_true] at *; omega
  ·simp only [h,decide_false,Bool.false_eq_true,if_false] at *; omega
theorem BE {w:aP} (h:cF 4294967296 w.l) (hv:av w < 18446744073709551616):w.a0 + w.a1 * 4294967296 = av w:=by
 have e:=fJ 4294967296 (dg w.l) 2 14
 have h2:ds 4294967296 (dg w.l) 2 = w.a0 + w.a1 * 4294967296:=by simp [ds,dg,aP.l]
 have h3:=dK (b:=4294967296) (by decide) (f:=fun i=>dg w.l (2 + i)) (n:=14) fun i _=>(h (2 + i)).1
 have a0:=h 0
 have a1:=h 1
 have e0:dg w.l 0 = w.a0:=rfl
 have e1:dg w.l 1 = w.a1:=rfl
 rw [e0] at a0
 rw [e1] at a1
 have hav:av w = ds 4294967296 (dg w.l) (2 + 14):=rfl
 rw [hav] at hv ⊢
 rw [e,h2] at hv ⊢
 have hp:(4294967296:Int) ^ 2 = 18446744073709551616:=by decide
 rw [hp] at hv ⊢
 omega
theorem Bi {F:Nat} (hF:100 < F) {x:bt} (hx:kC x):jh F x = some (match iv x with | some a=>if -9223372036854775808 ≤ a ∧ a ≤ 9223372036854775807 then (a,true) else (0,false) | none=>(0,false)):=by
 refine an.eq ?_
 unfold jh
 refine an.aB (u9 hF x) ?_
 cases ha:iv x with
 | none=>
  simp only [cR ha]
  exact an.g0 (by rfl) (an.fU (by rfl) (an.some rfl))
 | some a=>
  obtain ⟨ga,rfl,ra⟩:=cu hx ha
  obtain ⟨wa,na⟩:=cT ra
  simp only [ga]
  refine an.g1 (by rfl) (an.aB (Bits_y hF (bc a)) ?_)
  rw [gZ ra]
  simp only [Bool.not_true,Bool.false_or]
  refine an.ite (fun h=>?_) (fun h=>?_)
  ·have h':=of_decide_eq_true h
   refine an.some ?_
   rw [if_neg]
   intro hh
   have:=pJ (m:=aJ a) (k:=64) (by rw [p64]; unfold aJ; split <;> omega)
   omega
  ·have h':=of_decide_eq_false h
   have hlt:aJ a < 18446744073709551616:=by
    have h2:=lt_blen (m:=aJ a)
    have h3:(2:Int) ^ (fx (aJ a)).toNat ≤ 2 ^ 64:=th (by omega)
    rw [p64] at h3
    omega
   have hs:=BE (bc a) (by rw [wa]; exact hlt)
   rw [wa] at hs
   have b0:=bc a 0
   have b1:=bc a 1
   have e0:dg (cm a).W.l 0 = (cm a).W.a0:=rfl
   have e1:dg (cm a).W.l 1 = (cm a).W.a1:=rfl
   rw [e0] at b0
   rw [e1] at b1
   have habs:aJ a = if a < 0 then -a else a:=rfl
   rw [← habs] at hs
   have habs0:0 ≤ aJ a:=by unfold aJ; split <;> omega
   refine an.jZ ((cm a).W.a1 * 4294967296) (by simp only [gq]; omega) (an.jZ (aJ a) ?_ ?_)
   ·have e2:IntKind.u64.wrap (cm a).W.a0 = (cm a).W.a0:=by rw [gq]; omega
    rw [e2,nw 32 (by omega) (by omega) (by rw [zW]; omega) b0.1 (by rw [zW]; omega) (by omega)]
    omega
   ·rw [na]
    refine an.ite (fun h=>?_) (fun h=>?_)
    ·simp only [Bool.and_eq_true,decide_eq_true_eq] at h
     rw [if_pos h.1] at habs
     refine an.ln (an.some ?_)
     rw [if_pos (by omega)]
     simp only [gq,cn]
     congr 1
     omega
    ·refine an.ite (fun h2=>?_) (fun h2=>?_)
     ·simp only [Bool.and_eq_true,Bool.not_eq_true',decide_eq_true_eq,decide_eq_false_iff_not] at h2
      rw [if_neg h2.1] at habs
      refine an.some ?_
      rw [if_pos (by omega),cn]
      congr 1
      omega
     ·refine an.some ?_
      rw [if_neg]
      intro hh
      by_cases h3:a < 0
      ·rw [if_pos h3] at habs
       simp only [h3,decide_true,Bool.true_and,decide_eq_false_iff_not] at h
       omega
      ·rw [if_neg h3] at habs
       simp only [h3,decide_false,Bool.not_false,Bool.true_and,decide_eq_false_iff_not] at h2
       omega
theorem Dr {F:Nat} (hF:100000 < F) {x:bt} (hx:kC x):lI F x = some (if x.Bad = true then decide (x.W = aP.zero) && !x.Neg else !decide (x.W = aP.zero) || !x.Neg):=by
 refine an.eq ?_
 unfold lI
 refine an.bind (P:=fun z=>z = decide (x.W = aP.zero)) (an.rounds 16 (fun k s=>s.2 = (k:Int) ∧ (s.1 = true ↔ ∀ i,i < k → dg x.W.l i = 0)) (by omega) ⟨rfl,by simp⟩ ?_) ?_
 ·rintro k ⟨z,kx⟩ hk ⟨rfl,hz⟩
  dsimp only at hz
  dsimp only [b7]
  refine an.ite (fun h=>?_) (fun h=>?_)
  ·have hk':k < 16:=by have:=of_decide_eq_true h; omega
   cases z with
   | true=>
    refine an.g1 rfl (an.idx (by omega) (by rw [aP.bS]; omega) (an.some (.inl ⟨_,rfl,⟨by dsimp only; rw [cn]; omega,?_⟩,hk'⟩)))
    simp only [dw,Int.toNat_natCast,Bool.true_and]
    constructor
    ·intro h1 i hi
     by_cases e:i = k
     ·rw [e]; exact of_decide_eq_true h1
     ·exact hz.1 rfl i (by omega)
    ·intro h1; exact decide_eq_true (h1 k (by omega))
   | false=>
    refine an.g0 rfl (an.some (.inl ⟨_,rfl,⟨by dsimp only; rw [cn]; omega,?_⟩,hk'⟩))
    simp only [Bool.false_and,Bool.false_eq_true,false_iff]
    intro h1
    exact absurd (hz.2 fun i hi=>h1 i (by omega)) (by simp)
  ·have hk':k = 16:=by have:=of_decide_eq_false h; omega
   subst hk'
   refine an.some (.inr ⟨_,rfl,?_⟩)
   rw [Bool.eq_iff_iff,hz,decide_eq_true_eq]
   constructor
   ·intro h1
    rw [lq hx]
    exact l9 h1
   ·intro h1 i _
    rw [h1]
    have:aP.zero.l = List.replicate 16 0:=rfl
    rw [this,dk]
 ·rintro z rfl
  refine an.ite (fun h=>?_) (fun h=>?_)
  ·rw [h]; exact an.some rfl
  ·rw [h]; exact an.some rfl
theorem gU {F:Nat} (hF:100000 < F) {x:bt} (hx:kC x):da F x = some (fX x):=by
 refine an.eq ?_
 unfold da
 refine an.aB (Dr hF hx) (an.some ?_)
 unfold fX
 cases x.Bad <;> simp
end Go.Proofs.YtcbbilehdaaffaaGreatDoor
namespace Go.Sk
set_option linter.unusedSimpArgs false
set_option linter.unusedVariables false
theorem mulfin {c ai bk ok:Int} (h1:0 ≤ c ∧ c < 4294967296) (h2:0 ≤ ai * bk ∧ ai * bk ≤ 18446744065119617025) (h3:0 ≤ ok ∧ ok < 4294967296) (ha:0 ≤ ai ∧ ai < 4294967296) (hb:0 ≤ bk ∧ bk < 4294967296) :
  IntKind.u64.wrap (c + IntKind.u64.wrap (IntKind.u64.wrap (IntKind.u64.wrap ai * IntKind.u64.wrap bk) + IntKind.u64.wrap ok)) = c + ai * bk + ok:=by
 have e1:IntKind.u64.wrap ai = ai:=by rw [gq]; omega
 have e2:IntKind.u64.wrap bk = bk:=by rw [gq]; omega
 rw [e1,e2]
 generalize ai * bk = p at *
 simp only [gq]
 omega
def Cb (o:gY):aP:=⟨o.a0,o.a1,o.a2,o.a3,o.a4,o.a5,o.a6,o.a7,o.a8,o.a9,o.a10,o.a11,o.a12,o.a13,o.a14,o.a15⟩
def vI (o:gY):aP:=⟨o.zX,o.a17,o.a18,o.a19,o.a20,o.a21,o.a22,o.a23,o.a24,o.a25,o.a26,o.a27,o.a28,o.a29,o.a30,o.a31⟩
theorem CN (o:gY):(Cb o).l = o.l.take 16:=rfl
theorem CS (o:gY):(vI o).l = o.l.drop 16:=rfl
theorem AF {o:gY} (h:cF 4294967296 o.l):cF 4294967296 (Cb o).l:=fun i=>by
 rw [CN,nG]; split
 ·exact h i
 ·decide
theorem AJ {o:gY} (h:cF 4294967296 o.l):cF 4294967296 (vI o).l:=fun i=>by
 rw [CS,Be]; exact h _
theorem halves (o:gY):ds 4294967296 (dg o.l) 32 = av (Cb o) + MM * av (vI o):=by
 rw [show (32:Nat) = 16 + 16 from rfl,fJ]
 have e1:ds 4294967296 (dg o.l) 16 = av (Cb o):=dn fun i hi=>by rw [CN,nG,if_pos hi]
 have e2:ds 4294967296 (fun i=>dg o.l (16 + i)) 16 = av (vI o):=dn fun i _=>by rw [CS,Be]
 rw [e1,e2]
 rfl
theorem oS (a b:Int):aJ (a * b) = aJ a * aJ b:=by
 unfold aJ
 by_cases ha:a < 0
 ·by_cases hb:b < 0
  ·rw [if_pos ha,if_pos hb,if_neg (by have:=Int.mul_pos_of_neg_of_neg ha hb; omega),Int.neg_mul_neg]
  ·rw [if_pos ha,if_neg hb]
   have:=Int.mul_nonpos_of_nonpos_of_nonneg (Int.le_of_lt ha) (by omega:0 ≤ b)
   by_cases h0:a * b < 0
   ·rw [if_pos h0,Int.neg_mul]
   ·rw [if_neg h0,Int.neg_mul]; omega
 ·by_cases hb:b < 0
  ·rw [if_neg ha,if_pos hb]
   have:=Int.mul_nonpos_of_nonneg_of_nonpos (by omega:0 ≤ a) (Int.le_of_lt hb)
   by_cases h0:a * b < 0
   ·rw [if_pos h0,Int.mul_neg]
   ·rw [if_neg h0,Int.mul_neg]; omega
  ·rw [if_neg ha,if_neg hb,if_neg (by have:=Int.mul_nonneg (by omega:0 ≤ a) (by omega:0 ≤ b); omega)]
theorem Ar {a b:Int} (h:(decide (a < 0) != decide (b < 0)) = true):a * b = -(aJ a * aJ b):=by
 rw [← oS]
 unfold aJ
 by_cases ha:a < 0
 ·have hb:¬ b < 0:=fun hb=>by simp [ha,hb] at h
  have:=Int.mul_nonpos_of_nonpos_of_nonneg (Int.le_of_lt ha) (by omega:0 ≤ b)
  split <;> omega
 ·by_cases hb:b < 0
  ·have:=Int.mul_nonpos_of_nonneg_of_nonpos (by omega:0 ≤ a) (Int.le_of_lt hb)
   split <;> omega
  ·simp [ha,hb] at h
theorem xq {a b:Int} (h:(decide (a < 0) != decide (b < 0)) = false):a * b = aJ a * aJ b:=by
 rw [← oS]
 unfold aJ
 by_cases ha:a < 0
 ·by_cases hb:b < 0
  ·have:=Int.mul_pos_of_neg_of_neg ha hb
   rw [if_neg (by omega)]
  ·simp [ha,hb] at h
 ·have hb:¬ b < 0:=fun hb=>by simp [ha,hb] at h
  have:=Int.mul_nonneg (by omega:0 ≤ a) (by omega:0 ≤ b)
  rw [if_neg (by omega)]
theorem pK {a:Int} (h:-MM < a ∧ a < MM):0 ≤ aJ a ∧ aJ a < MM:=by unfold aJ; split <;> omega
theorem absZ_in {a:Int}:(-MM < a ∧ a < MM) ↔ aJ a < MM:=by unfold aJ; split <;> omega
end Go.Sk
namespace Go.Proofs.YtcbbilehdaaffaaGreatDoor
open Go Go.Sk
set_option linter.unusedSimpArgs false
set_option linter.unusedVariables false
theorem Mul_y {F:Nat} (hF:100 < F) {x y:bt} (hx:kC x) (hy:kC y):jt F x y = some (two (fun a b=>some (a * b)) x y):=by
  refine an.eq ?_
  unfold jt two
  refine an.aB (Ac hF x y) ?_
  cases ha:iv x with
  | none=>simp only [cR ha,Bool.false_and,Bool.not_false,if_true]; exact an.aB (j6 F) (an.some rfl)
  | some a=>
    cases hb:iv y with
    | none=>simp only [cR hb,Bool.and_false,Bool.not_false,if_true]; exact an.aB (j6 F) (an.some rfl)
    | some b=>
      obtain ⟨ga,rfl,ra⟩:=cu hx ha
      obtain ⟨gb,rfl,rb⟩:=cu hy hb
      obtain ⟨wa,na⟩:=cT ra
      obtain ⟨wb,nb⟩:=cT rb
      have ia:cF 4294967296 (cm a).W.l:=bc a
      have ib:cF 4294967296 (cm b).W.l:=bc b
      have habs:av (cm a).W = aJ a:=wa
      have hbbs:av (cm b).W = aJ b:=wb
      clear wa wb ha hb hx hy
      simp only [ga,gb,Bool.and_self,Bool.not_true,Bool.false_eq_true,if_false,uO,na,nb]
      generalize (cm a).W = A at *
      generalize (cm b).W = B at *
      refine an.bind (qu hF) fun n hn=>an.bind (qu hF) fun m hm=>?_
      obtain ⟨n0,n1,nz,_⟩:=hn
      obtain ⟨m0,m1,mz,_⟩:=hm
      obtain ⟨N,rfl⟩:∃ N:Nat,n = N:=⟨n.toNat,by omega⟩
      obtain ⟨M,rfl⟩:∃ M:Nat,m = M:=⟨m.toNat,by omega⟩
      simp only [Int.toNat_natCast] at nz mz
      have hA:aJ a = ds 4294967296 (dg A.l) N:=by rw [← habs]; exact lm (by omega) nz
      have hB:aJ b = ds 4294967296 (dg B.l) M:=by rw [← hbbs]; exact lm (by omega) mz
      refine an.bind (P:=fun out=>cF 4294967296 out.l ∧ ds 4294967296 (dg out.l) 32 = aJ a * aJ b) (an.rounds N (fun i s=>s.2 = (i:Int) ∧ cF 4294967296 s.1.l ∧ (∀ j,i + M ≤ j → dg s.1.l j = 0) ∧ ds 4294967296 (dg s.1.l) (i + M) = ds 4294967296 (dg A.l) i * aJ b) (by omega) ⟨rfl,gY.js,fun j _=>gY.Ag j,?_⟩ ?_) ?_
      · show ds 4294967296 (dg gY.zero.l) (0 + M) = 0 * aJ b
        rw [Int.zero_mul]
        exact l9 fun j _=>gY.Ag j
      · rintro i ⟨o0,ix⟩ hi ⟨rfl,oin,oz,os⟩
        dsimp only at oin oz os
        dsimp only [b7]
        refine an.ite (fun h=>?_) (fun h=>?_)
        · have hi':i < N:=by have:=of_decide_eq_true h; omega
          have hai:=ia i
          refine an.bind (P:=fun o1=>cF 4294967296 o1.l ∧ (∀ j,i + 1 + M ≤ j → dg o1.l j = 0) ∧ ds 4294967296 (dg o1.l) (i + 1 + M) = ds 4294967296 (dg A.l) (i + 1) * aJ b) ?_ ?_
          · refine an.bind (P:=fun r=>cF 4294967296 r.1.l ∧ 0 ≤ r.2 ∧ r.2 < 4294967296 ∧ (∀ j,i + M ≤ j → dg r.1.l j = dg o0.l j) ∧ ds 4294967296 (dg r.1.l) (i + M) + r.2 * 4294967296 ^ (i + M) = ds 4294967296 (dg o0.l) (i + M) + dg A.l i * 4294967296 ^ i * ds 4294967296 (dg B.l) M)
              (an.rounds M (fun k s=>s.2.2 = (k:Int) ∧ cF 4294967296 s.1.l ∧ 0 ≤ s.2.1 ∧ s.2.1 < 4294967296 ∧ (∀ j,i + k ≤ j → dg s.1.l j = dg o0.l j) ∧ ds 4294967296 (dg s.1.l) (i + k) + s.2.1 * 4294967296 ^ (i + k) = ds 4294967296 (dg o0.l) (i + k) + dg A.l i * 4294967296 ^ i * ds 4294967296 (dg B.l) k) (by omega) ⟨rfl,oin,Int.le_refl _,(by decide:(0:Int) < 4294967296),fun _ _=>rfl,?_⟩ ?_) ?_
            · show ds 4294967296 (dg o0.l) (i + 0) + 0 * 4294967296 ^ (i + 0) = ds 4294967296 (dg o0.l) (i + 0) + dg A.l i * 4294967296 ^ i * 0
              rw [Int.zero_mul,Int.mul_zero]
            · rintro k ⟨o,c,kx⟩ hk ⟨rfl,pin,c0,c1,pk,ps⟩
              dsimp only at pin c0 c1 pk ps
              dsimp only [kA]
              refine an.ite (fun h2=>?_) (fun h2=>?_)
              · have hk':k < M:=by have:=of_decide_eq_true h2; omega
                have hw:IntKind.i64.wrap ((i:Int) + (k:Int)) = ((i + k:Nat):Int):=by rw [cn]; omega
                have hbk:=ib k
                have hok:=pin (i + k)
                rw [hw]
                have hmb:=k6 hai hbk
                have hfin:=mulfin ⟨c0,c1⟩ (by have e:((4294967296:Int) - 1) * (4294967296 - 1) = 18446744065119617025:=by decide
                                              rw [e] at hmb; exact hmb) hok hai hbk
                have hlt:c + dg A.l i * dg B.l k + dg o.l (i + k) ≤ 18446744073709551615:=by
                  have e:((4294967296:Int) - 1) * (4294967296 - 1) = 18446744065119617025:=by decide
                  rw [e] at hmb
                  omega
                refine an.idx (by omega) (by rw [aP.bS]; omega) (an.idx (by omega) (by rw [aP.bS]; omega) (an.idx (by omega) (by rw [gY.bS]; omega) (an.ln (an.idx (by omega) (by rw [gY.bS]; omega) (an.ln (an.some (.inl ⟨_,rfl,?_,hk'⟩)))))))
                simp only [dw,Int.toNat_natCast]
                rw [hfin]
                generalize hp:dg A.l i * dg B.l k = p at *
                have hmb0:=hmb.1
                clear hfin hmb
                refine ⟨by rw [cn]; omega,gY.jb pin (by omega) (by omega) (by rw [kF]; omega),by omega,by omega,fun j hj=>?_,?_⟩
                · rw [gY.eV (by omega) (by omega),Int.toNat_natCast,if_neg (by omega)]
                  exact pk j (by omega)
                · have hok0:=pk (i + k) (Nat.le_refl _)
                  show ds 4294967296 (dg (gY.set o ((i + k:Nat):Int) _).l) (i + k + 1) + _ * 4294967296 ^ (i + k + 1) = ds 4294967296 (dg o0.l) (i + k + 1) + dg A.l i * 4294967296 ^ i * ds 4294967296 (dg B.l) (k + 1)
                  rw [gY.qw (by omega),c6 4294967296 (dg o0.l),c6 4294967296 (dg B.l),← hok0]
                  refine DA ps ?_
                  rw [hp,kF]
                  omega
              · have hk':k = M:=by have:=of_decide_eq_false h2; omega
                subst hk'
                exact an.some (.inr ⟨_,rfl,pin,c0,c1,pk,ps⟩)
            · rintro ⟨o,c⟩ ⟨pin,c0,c1,pk,ps⟩
              dsimp only at pin c0 c1 pk ps
              dsimp only [b7]
              have hw:IntKind.i64.wrap ((i:Int) + (M:Int)) = ((i + M:Nat):Int):=by rw [cn]; omega
              rw [hw]
              refine an.idx (by omega) (by rw [gY.bS]; omega) (an.some ?_)
              have hwc:IntKind.u32.wrap c = c:=by rw [kF]; omega
              rw [hwc]
              refine ⟨gY.jb pin (by omega) (by omega) ⟨c0,c1⟩,fun j hj=>?_,?_⟩
              · rw [gY.eV (by omega) (by omega),Int.toNat_natCast,if_neg (by omega),pk j (by omega),oz j (by omega)]
              · have e:i + 1 + M = i + M + 1:=by omega
                rw [e,gY.qw (by omega),ps,os,c6,← hB,Int.add_mul]
          · rintro o1 ⟨h1,h2,h3⟩
            exact an.some (.inl ⟨_,rfl,⟨by rw [cn]; omega,h1,h2,h3⟩,hi'⟩)
        · have hi':i = N:=by have:=of_decide_eq_false h; omega
          subst hi'
          refine an.some (.inr ⟨_,rfl,oin,?_⟩)
          rw [hA,← os]
          exact lm (by omega) fun j h1 _=>oz j h1
      · rintro out ⟨oin,os⟩
        rw [halves] at os
        have rl:=eU (AF oin)
        have rh:=eU (AJ oin)
        refine an.ln ?_
        show an (if decide (vI out ≠ aP.zero) = true then _ else _) _
        refine an.ite (fun h=>?_) (fun h=>?_)
        · have h':=of_decide_eq_true h
          have h1:av (vI out) ≠ 0:=fun e=>h' ((lq (AJ oin)).2 e)
          refine an.aB (j6 F) (an.some ?_)
          refine (kJ ?_).symm
          rw [absZ_in,oS,← os]
          have h2:MM * 1 ≤ MM * av (vI out):=Int.mul_le_mul_of_nonneg_left (by omega) (Int.le_of_lt zl)
          omega
        · have h':vI out = aP.zero:=by simpa using h
          have h1:av (vI out) = 0:=by rw [h',rm]
          rw [h1,Int.mul_zero,Int.add_zero] at os
          show an (Option.bind (cL F (decide (a < 0) != decide (b < 0)) (Cb out)) _) _
          refine an.aB (gg F _ (AF oin)) (an.some ?_)
          rw [os]
          congr 1
          cases hs:(decide (a < 0) != decide (b < 0)) with
          | true=>rw [if_pos rfl,Ar hs]
          | false=>rw [if_neg (by simp),xq hs]
end Go.Proofs.YtcbbilehdaaffaaGreatDoor
namespace Go.Sk
set_option linter.unusedSimpArgs false
set_option linter.unusedVariables false
def lv (l:List Int):Int:=ds 65536 (dg l) l.length
def jJ (l:List Int):Prop:=0 < l.length → dg l (l.length - 1) ≠ 0
theorem tG {l:List Int} {n:Nat} (h:l.length ≤ n):ds 65536 (dg l) n = lv l:=lm h fun i h1 _=>oo h1
theorem CM:lv [] = 0:=rfl
theorem fC {l:List Int} (h:cF 65536 l):0 ≤ lv l:=dK (by decide) fun i _=>(h i).1
theorem su {l:List Int} (h:cF 65536 l):lv l < 65536 ^ l.length:=oi (by decide) fun i _=>h i
theorem lv_ge {l:List Int} (h:cF 65536 l) (ht:jJ l) (h0:0 < l.length):65536 ^ (l.length - 1) ≤ lv l:=by
 have e:l.length = (l.length - 1) + 1:=by omega
 have h1:=ht h0
 have h2:=h (l.length - 1)
 have h3:=dK (b:=65536) (by decide) (f:=dg l) (n:=l.length - 1) fun i _=>(h i).1
 unfold lv
 rw [e,c6,Nat.add_sub_cancel]
 have h4:1 * (65536:Int) ^ (l.length - 1) ≤ dg l (l.length - 1) * 65536 ^ (l.length - 1):=Int.mul_le_mul_of_nonneg_right (by omega) (Int.le_of_lt (Int.pow_pos (by decide)))
 omega
theorem oK {i j:Nat} (h:i ≤ j):(65536:Int) ^ i ≤ 65536 ^ j:=oJ (by decide) h
theorem ti {l:List Int} {n:Nat} (h:cF 65536 l) (ht:jJ l) (hv:lv l < 65536 ^ n):l.length ≤ n:=by
 rcases Nat.lt_or_ge n l.length with h1 | h1
 ·have h2:=lv_ge h ht (by omega)
  have h3:=oK (show n ≤ l.length - 1 by omega)
  omega
 ·exact h1
theorem lv_pos {l:List Int} (h:cF 65536 l) (ht:jJ l):l = [] ↔ lv l = 0:=by
 constructor
 ·rintro rfl; rfl
 ·intro e
  have:=ti (n:=0) h ht (by rw [e]; decide)
  exact List.eq_nil_of_length_eq_zero (by omega)
theorem nv {l:List Int} (h:cF 65536 l) (ht:jJ l):0 < l.length ↔ lv l ≠ 0:=by
 rw [ne_eq,← lv_pos h ht]
 constructor
 ·intro h1 e; subst e; simp at h1
 ·intro h1; exact List.length_pos_iff.2 h1
theorem vK:cF 65536 []:=fun i=>by rw [dg_nil]; decide
theorem zj {l m:List Int} (hl:cF 65536 l) (hm:cF 65536 m):cF 65536 (l ++ m):=fun i=>by
 rw [mV]; split
 ·exact hl i
 ·exact hm _
theorem q7 {b x:Int} (hb:0 < b) (h:0 ≤ x ∧ x < b):cF b [x]:=fun i=>by
 cases i with
 | zero=>exact h
 | succ i=>exact ⟨Int.le_refl _,hb⟩
theorem ds_app {b:Int} (l m:List Int) (n:Nat):ds b (dg (l ++ m)) (l.length + n) = ds b (dg l) l.length + b ^ l.length * ds b (dg m) n:=by
 rw [fJ]
 congr 1
 ·exact dn fun i hi=>by rw [mV,if_pos hi]
 ·congr 1
  exact dn fun i _=>by rw [mV,if_neg (by omega),Nat.add_sub_cancel_left]
theorem yR (l m:List Int):lv (l ++ m) = lv l + 65536 ^ l.length * lv m:=by
 unfold lv
 rw [List.length_append,ds_app]
theorem tP (x:Int):lv [x] = x:=by simp [lv,ds,dg]
theorem take_in {b:Int} {l:List Int} {n:Nat} (hb:0 < b) (h:cF b l):cF b (l.take n):=fun i=>by
 rw [nG]; split
 ·exact h i
 ·exact ⟨Int.le_refl _,hb⟩
theorem Dc {w:aP} {k:Nat} {x:Int} (hk:k < 16):av (w.set (k:Int) x) = av w + (x - dg w.l k) * 4294967296 ^ k:=by
 unfold av
 have e:(16:Nat) = (k + 1) + (15 - k):=by omega
 rw [e,fJ,fJ 4294967296 (dg w.l),aP.qw hk,c6]
 have:ds 4294967296 (fun i=>dg (w.set (k:Int) x).l (k + 1 + i)) (15 - k) = ds 4294967296 (fun i=>dg w.l (k + 1 + i)) (15 - k):=dn fun i _=>by
  rw [eV (by omega) (by omega),Int.toNat_natCast,if_neg (by omega)]
 rw [this,Int.sub_mul]
 omega
theorem z7 (j:Nat):(65536:Int) ^ (2 * j) = 4294967296 ^ j:=by rw [Int.pow_mul]; rfl
theorem pow65' (j:Nat):(65536:Int) ^ (2 * j + 1) = 4294967296 ^ j * 65536:=by rw [Int.pow_succ,z7]
theorem MM65:MM = 65536 ^ 32:=by unfold MM; rw [← z7]
end Go.Sk
namespace Go.Proofs.YtcbbilehdaaffaaGreatDoor
open Go Go.Sk
set_option linter.unusedSimpArgs false
set_option linter.unusedVariables false
abbrev Trim (l c:List Int):Prop:=cF 65536 c ∧ jJ c ∧ lv c = lv l ∧ c.length ≤ l.length
theorem qt {F:Nat} {l:List Int} (hF:l.length < F) (hl:l.length ≤ 100000) (hin:cF 65536 l):an (gj F l) (Trim l):=by
 unfold gj
 refine an.bind (P:=fun (n:Int)=>0 ≤ n ∧ n ≤ l.length ∧ (∀ i,n.toNat ≤ i → dg l i = 0) ∧ (0 < n → dg l (n.toNat - 1) ≠ 0)) (an.rounds l.length (fun k s=>s = (l.length:Int) - (k:Int) ∧ ∀ i,l.length ≤ i + k → dg l i = 0) hF ⟨by omega,fun i h1=>oo (by omega)⟩ ?_) ?_
 ·rintro k n hk ⟨rfl,he⟩
  by_cases hk':k < l.length
  ·have hw:IntKind.i64.wrap ((l.length:Int) - (k:Int) - 1) = ((l.length - 1 - k:Nat):Int):=by rw [cn]; omega
   have hd:decide (0 < (l.length:Int) - (k:Int)) = true:=decide_eq_true (by omega)
   refine an.g1 hd (an.idx (by rw [hw]; omega) (by rw [hw]; omega) ?_)
   rw [hw,hd]
   simp only [dw,Int.toNat_natCast,Bool.true_and]
   refine an.ite (fun h=>?_) (fun h=>?_)
   ·have h':=of_decide_eq_true h
    refine an.some (.inl ⟨_,rfl,⟨by omega,fun i h1=>?_⟩,hk'⟩)
    by_cases e:i = l.length - 1 - k
    ·rw [e]; exact h'
    ·exact he i (by omega)
   ·have h':=of_decide_eq_false h
    refine an.some (.inr ⟨_,rfl,by omega,by omega,fun i h1=>he i (by omega),fun _=>?_⟩)
    have:((l.length:Int) - (k:Int)).toNat - 1 = l.length - 1 - k:=by omega
    rw [this]; exact h'
  ·have hk2:k = l.length:=by omega
   subst hk2
   refine an.g0 (by simp) ?_
   refine an.iff (by simp) (an.some (.inr ⟨_,rfl,by omega,by omega,fun i _=>he i (by omega),fun h=>by omega⟩))
 ·rintro n ⟨n0,n1,nz,nt⟩
  refine an.take n0 n1 (an.some ?_)
  have hlen:(l.take n.toNat).length = n.toNat:=by simp; omega
  refine ⟨take_in (by decide) hin,fun h=>?_,?_,by omega⟩
  ·rw [hlen] at h ⊢
   rw [nG,if_pos (by omega)]
   exact nt (by omega)
  ·unfold lv
   rw [hlen]
   have e1:ds 65536 (dg (l.take n.toNat)) n.toNat = ds 65536 (dg l) n.toNat:=dn fun i hi=>by rw [nG,if_pos hi]
   rw [e1]
   exact (lm (by omega) fun i h1 _=>nz i h1).symm
theorem ma (F:Nat) {l:List Int} {k:Int} (h0:0 ≤ k):eF F l k = some (dg l k.toNat):=by
 refine an.eq ?_
 unfold eF
 refine an.ite (fun h=>?_) (fun h=>?_)
 ·have:=of_decide_eq_true h
  exact an.idx h0 this (an.some rfl)
 ·have:=of_decide_eq_false h
  exact an.some (oo (by omega)).symm
theorem As {F:Nat} (hF:100000 < F) {a b:List Int} (ha:cF 65536 a) (hb:cF 65536 b) (la:a.length ≤ 9999) (lb:b.length ≤ 9999) :
  an (k5 F a b) fun c=>cF 65536 c ∧ jJ c ∧ lv c = lv a + lv b ∧ c.length ≤ max a.length b.length + 1:=by
 unfold k5
 obtain ⟨m,hm⟩:∃ m:Nat,m = max a.length b.length:=⟨_,rfl⟩
 have hmi:(max (a.length:Int) (b.length:Int)) = (m:Int):=by omega
 have hw:IntKind.i64.wrap ((m:Int) + 1) = ((m + 1:Nat):Int):=by rw [cn]; omega
 refine an.bind (P:=fun o=>cF 65536 o ∧ o.length = m + 1 ∧ lv o = lv a + lv b) (an.rounds (m + 1) (fun k s=>s.2.2 = (k:Int) ∧ cF 65536 s.1 ∧ s.1.length = k ∧ 0 ≤ s.2.1 ∧ s.2.1 ≤ 1 ∧ ds 65536 (dg a) k + ds 65536 (dg b) k = lv s.1 + s.2.1 * 65536 ^ k) (by omega) ⟨rfl,vK,rfl,Int.le_refl _,(by decide:(0:Int) ≤ 1),rfl⟩ ?_) ?_
 ·rintro k ⟨o,c,kx⟩ hk ⟨rfl,oin,ol,c0,c1,os⟩
  dsimp only at oin ol c0 c1 os
  dsimp only [kA]
  refine an.jZ (m:Int) hmi ?_
  rw [hw]
  refine an.ite (fun h=>?_) (fun h=>?_)
  ·have hk':k < m + 1:=by have:=of_decide_eq_true h; omega
   have h1:=ha k
   have h2:=hb k
   refine an.aB (ma F (by omega)) (an.aB (ma F (by omega)) ?_)
   simp only [Int.toNat_natCast]
   refine an.jZ (dg a k + dg b k + c) (by simp only [cn]; omega) ?_
   have ht:Int.tmod (dg a k + dg b k + c) 65536 = (dg a k + dg b k + c) % 65536:=eO (by omega)
   refine an.B8 (by simp; omega) (an.quo (by decide) (an.some (.inl ⟨_,rfl,?_,hk'⟩)))
   rw [ht,ep (by omega)]
   dsimp only
   refine ⟨by rw [cn]; omega,zj oin (q7 (by decide) (by omega)),by simp [ol],by rw [cn]; omega,by rw [cn]; omega,?_⟩
   rw [c6,c6,yR,tP,ol]
   have hq:IntKind.i64.wrap ((dg a k + dg b k + c) / 65536) = (dg a k + dg b k + c) / 65536:=by rw [cn]; omega
   rw [hq,Int.mul_comm ((65536:Int) ^ k)]
   exact uH os (by omega)
  ·have hk':k = m + 1:=by have:=of_decide_eq_false h; omega
   subst hk'
   refine an.some (.inr ⟨_,rfl,oin,ol,?_⟩)
   rw [tG (by omega),tG (by omega)] at os
   have r1:=su ha
   have r2:=su hb
   have p1:=oK (show a.length ≤ m by omega)
   have p2:=oK (show b.length ≤ m by omega)
   have p3:(65536:Int) ^ (m + 1) = 65536 ^ m * 65536:=Int.pow_succ _ _
   have r3:=fC oin
   have p0:(0:Int) < 65536 ^ m:=Int.pow_pos (by decide)
   have:c = 0:=by
    rcases (by omega:c = 0 ∨ c = 1) with h | h
    ·exact h
    ·subst h; omega
   subst this
   omega
 ·rintro o ⟨oin,ol,os⟩
  refine an.bind (qt (by omega) (by omega) oin) fun c hc=>an.some ⟨hc.1,hc.2.1,by rw [hc.2.2.1,os],by have:=hc.2.2.2; omega⟩
theorem xt {F:Nat} (hF:100000 < F) {a b:List Int} (ha:cF 65536 a) (hb:cF 65536 b) (la:a.length ≤ 9999) (lb:b.length ≤ 9999) (hle:lv b ≤ lv a) :
  an (jO F a b) fun c=>cF 65536 c ∧ jJ c ∧ lv c = lv a - lv b ∧ c.length ≤ a.length:=by
 unfold jO
 have hbn:ds 65536 (dg b) a.length = lv b:=by
  have e:=fJ 65536 (dg b) a.length b.length
  rw [tG (by omega)] at e
  have h1:=dK (b:=65536) (by decide) (f:=fun i=>dg b (a.length + i)) (n:=b.length) fun i _=>(hb _).1
  have h2:=dK (b:=65536) (by decide) (f:=dg b) (n:=a.length) fun i _=>(hb _).1
  have h3:=su ha
  rcases (by omega:ds 65536 (fun i=>dg b (a.length + i)) b.length = 0 ∨ 1 ≤ ds 65536 (fun i=>dg b (a.length + i)) b.length) with h4 | h4
  ·rw [h4] at e; omega
  ·have h5:(65536:Int) ^ a.length * 1 ≤ 65536 ^ a.length * ds 65536 (fun i=>dg b (a.length + i)) b.length:=Int.mul_le_mul_of_nonneg_left h4 (Int.le_of_lt (Int.pow_pos (by decide)))
   omega
 refine an.bind (P:=fun o=>cF 65536 o ∧ o.length = a.length ∧ lv o = lv a - lv b) (an.rounds a.length (fun k s=>s.2.2 = (k:Int) ∧ cF 65536 s.1 ∧ s.1.length = k ∧ 0 ≤ s.2.1 ∧ s.2.1 ≤ 1 ∧ ds 65536 (dg a) k + s.2.1 * 65536 ^ k = ds 65536 (dg b) k + lv s.1) (by omega) ⟨rfl,vK,rfl,Int.le_refl _,(by decide:(0:Int) ≤ 1),rfl⟩ ?_) ?_
 ·rintro k ⟨o,c,kx⟩ hk ⟨rfl,oin,ol,c0,c1,os⟩
  dsimp only at oin ol c0 c1 os
  dsimp only [kA]
  refine an.ite (fun h=>?_) (fun h=>?_)
  ·have hk':k < a.length:=by have:=of_decide_eq_true h; omega
   have h1:=ha k
   have h2:=hb k
   refine an.bind (P:=fun r=>cF 65536 r.1 ∧ r.1.length = k + 1 ∧ 0 ≤ r.2 ∧ r.2 ≤ 1 ∧ ds 65536 (dg a) (k + 1) + r.2 * 65536 ^ (k + 1) = ds 65536 (dg b) (k + 1) + lv r.1) ?_ ?_
   ·refine an.idx (by omega) (by omega) (an.aB (ma F (by omega)) ?_)
    simp only [dw,Int.toNat_natCast]
    have e0:IntKind.i64.wrap (IntKind.i64.wrap (dg a k - dg b k) - c) = dg a k - dg b k - c:=by simp only [cn]; omega
    refine an.bind (P:=fun r=>0 ≤ r.1 ∧ r.1 ≤ 1 ∧ 0 ≤ r.2 ∧ r.2 < 65536 ∧ dg a k - dg b k - c = r.2 - r.1 * 65536) ?_ ?_
    ·refine an.jZ _ e0 (an.ite (fun h3=>?_) (fun h3=>?_))
     ·have h3':=of_decide_eq_true h3
      refine an.jZ _ e0 (an.some ?_)
      refine ⟨(by decide:(0:Int) ≤ 1),(by decide:(1:Int) ≤ 1),?_,?_,?_⟩ <;> dsimp only <;> rw [cn] <;> omega
     ·have h3':=of_decide_eq_false h3
      refine an.some ?_
      refine ⟨(by decide:(0:Int) ≤ 0),(by decide:(0:Int) ≤ 1),?_,?_,?_⟩ <;> dsimp only <;> rw [e0] <;> omega
    ·rintro ⟨bo,x⟩ ⟨b0,b1,x0,x1,e⟩
     dsimp only at b0 b1 x0 x1 e
     dsimp only [b7]
     refine an.B8 (by simp; omega) (an.some ⟨zj oin (q7 (by decide) ⟨x0,x1⟩),by simp [ol],b0,b1,?_⟩)
     dsimp only
     rw [c6,c6,yR,tP,ol,Int.mul_comm ((65536:Int) ^ k)]
     exact sU os e
   ·rintro ⟨o1,bo⟩ ⟨q1,q2,q3,q4,q5⟩
    exact an.some (.inl ⟨_,rfl,⟨by dsimp only; rw [cn]; omega,q1,q2,q3,q4,q5⟩,hk'⟩)
  ·have hk':k = a.length:=by have:=of_decide_eq_false h; omega
   subst hk'
   refine an.some (.inr ⟨_,rfl,oin,ol,?_⟩)
   rw [hbn] at os
   have r3:=su oin
   rw [ol] at r3
   have hl:ds 65536 (dg a) a.length = lv a:=rfl
   rw [hl] at os
   have:c = 0:=by
    rcases (by omega:c = 0 ∨ c = 1) with h | h
    ·exact h
    ·subst h; omega
   subst this
   omega
 ·rintro o ⟨oin,ol,os⟩
  refine an.bind (qt (by omega) (by omega) oin) fun c hc=>an.some ⟨hc.1,hc.2.1,by rw [hc.2.2.1,os],by have:=hc.2.2.2; omega⟩
theorem less_y {F:Nat} (hF:100000 < F) {a b:List Int} (ha:cF 65536 a) (hb:cF 65536 b) (la:a.length ≤ 9999) (lb:b.length ≤ 9999):mO F a b = some (decide (lv a < lv b)):=by
 refine an.eq ?_
 unfold mO
 obtain ⟨m,hm⟩:∃ m:Nat,m = max a.length b.length:=⟨_,rfl⟩
 have hmi:(max (a.length:Int) (b.length:Int)) = (m:Int):=by omega
 have hw:IntKind.i64.wrap ((m:Int) - 1) = (m:Int) - 1:=by rw [cn]; omega
 have va:ds 65536 (dg a) m = lv a:=tG (by omega)
 have vb:ds 65536 (dg b) m = lv b:=tG (by omega)
 refine an.bind (P:=fun r=>match r with | .inl _=>lv a = lv b | .inr y=>y = decide (lv a < lv b)) ?_ ?_
 ·refine an.jZ _ hmi ?_
  rw [hw]
  refine an.rounds m (fun k s=>s = (m:Int) - 1 - (k:Int) ∧ ∀ i,m ≤ i + k → i < m → dg a i = dg b i) (by omega) ⟨by omega,fun i h1 h2=>by omega⟩ ?_
  rintro k i hk ⟨rfl,he⟩
  refine an.ite (fun h=>?_) (fun h=>?_)
  ·have hk':k < m:=by have:=of_decide_eq_true h; omega
   have et:((m:Int) - 1 - (k:Int)).toNat = m - 1 - k:=by omega
   refine an.aB (ma F (by omega)) (an.aB (ma F (by omega)) (an.ite (fun hne=>?_) (fun heq=>?_)))
   ·refine an.aB (ma F (by omega)) (an.aB (ma F (by omega)) (an.some (.inr ⟨_,rfl,?_⟩)))
    have hne':=of_decide_eq_true hne
    rw [et] at hne' ⊢
    show decide _ = decide _
    rw [decide_eq_decide,← va,← vb]
    constructor
    ·intro h1
     exact ry (by decide) (k:=m - 1 - k) (by omega) ha hb (fun i h2 h3=>he i (by omega) h3) h1
    ·intro h1
     rcases (by omega:dg a (m - 1 - k) < dg b (m - 1 - k) ∨ dg b (m - 1 - k) < dg a (m - 1 - k)) with h2 | h2
     ·exact h2
     ·have:=ry (b:=65536) (by decide) (k:=m - 1 - k) (n:=m) (by omega) hb ha (fun i h2 h3=>(he i (by omega) h3).symm) h2
      omega
   ·have heq':dg a (m - 1 - k) = dg b (m - 1 - k):=by rw [et] at heq; simpa using heq
    refine an.some (.inl ⟨_,rfl,⟨by rw [cn]; omega,fun i h1 h2=>?_⟩,hk'⟩)
    by_cases e:i = m - 1 - k
    ·rw [e]; exact heq'
    ·exact he i (by omega) h2
  ·have hk':k = m:=by have:=of_decide_eq_false h; omega
   subst hk'
   refine an.some (.inr ⟨_,rfl,?_⟩)
   show lv a = lv b
   rw [← va,← vb]
   exact dn fun i hi=>he i (by omega) hi
 ·rintro (u | y) h
  ·have h':lv a = lv b:=h
   exact an.some (by rw [h']; simp)
  ·exact an.some h
end Go.Proofs.YtcbbilehdaaffaaGreatDoor
namespace Go.Sk
set_option linter.unusedSimpArgs false
set_option linter.unusedVariables false
theorem A6 {a b c d:Int} (ha:0 ≤ a ∧ a < 65536) (hb:0 ≤ b ∧ b < 65536) (hc:0 ≤ c ∧ c < 65536) (hd:0 ≤ d ∧ d < 65536):cF 65536 [a,b,c,d]:=fun i=>by
 match i with
 | 0=>exact ha
 | 1=>exact hb
 | 2=>exact hc
 | 3=>exact hd
 | n + 4=>exact ⟨Int.le_refl _,(by decide:(0:Int) < 65536)⟩
theorem AE (a b c d:Int):lv [a,b,c,d] = a + b * 65536 + c * 4294967296 + d * 281474976710656:=by simp [lv,ds,dg]
theorem two_inD {x y:Int} (hx:0 ≤ x ∧ x < 65536) (hy:0 ≤ y ∧ y < 65536):cF 65536 [x,y]:=fun i=>by
 match i with
 | 0=>exact hx
 | 1=>exact hy
 | n + 2=>exact ⟨Int.le_refl _,(by decide:(0:Int) < 65536)⟩
theorem lv_two (x y:Int):lv [x,y] = x + y * 65536:=by simp [lv,ds,dg]
end Go.Sk
namespace Go.Proofs.YtcbbilehdaaffaaGreatDoor
open Go Go.Sk
set_option linter.unusedSimpArgs false
set_option linter.unusedVariables false
theorem nc (F:Nat):iR F = some bad:=rfl
theorem D4 {F:Nat} (hF:100000 < F) {x:bt} (hx:kC x):an (cU F x) fun c=>cF 65536 c ∧ jJ c ∧ lv c = av x.W ∧ c.length ≤ 32:=by
 unfold cU
 refine an.bind (P:=fun o=>cF 65536 o ∧ o.length = 32 ∧ lv o = av x.W) (an.rounds 16 (fun k s=>s.2 = (k:Int) ∧ cF 65536 s.1 ∧ s.1.length = 2 * k ∧ lv s.1 = ds 4294967296 (dg x.W.l) k) (by omega) ⟨rfl,vK,rfl,rfl⟩ ?_) ?_
 ·rintro k ⟨o,kx⟩ hk ⟨rfl,oin,ol,os⟩
  dsimp only at oin ol os
  dsimp only [b7]
  refine an.ite (fun h=>?_) (fun h=>?_)
  ·have hk':k < 16:=by have:=of_decide_eq_true h; omega
   have hd:=hx k
   refine an.idx (by omega) (by rw [aP.bS]; omega) (an.idx (by omega) (by rw [aP.bS]; omega) (an.quo (by decide) ?_))
   simp only [dw,Int.toNat_natCast]
   have e1:IntKind.i64.wrap (Int.tmod (dg x.W.l k) 65536) = dg x.W.l k % 65536:=by rw [eO hd.1,cn]; omega
   have e2:IntKind.i64.wrap (IntKind.u32.wrap (Int.tdiv (dg x.W.l k) 65536)) = dg x.W.l k / 65536:=by rw [ep hd.1,kF,cn]; omega
   rw [e1,e2]
   refine an.B8 (by simp; omega) (an.some (.inl ⟨_,rfl,⟨by dsimp only; rw [cn]; omega,zj oin (two_inD (by omega) (by omega)),by simp [ol]; omega,?_⟩,hk'⟩))
   dsimp only
   rw [yR,lv_two,os,c6,ol,z7,Int.mul_comm ((4294967296:Int) ^ k)]
   congr 2
   omega
  ·have hk':k = 16:=by have:=of_decide_eq_false h; omega
   subst hk'
   exact an.some (.inr ⟨_,rfl,oin,ol,os⟩)
 ·rintro o ⟨oin,ol,os⟩
  refine an.bind (qt (by omega) (by omega) oin) fun c hc=>an.some ⟨hc.1,hc.2.1,by rw [hc.2.2.1,os],by have:=hc.2.2.2; omega⟩
theorem uj {F:Nat} (hF:100000 < F) (neg:Bool) {l:List Int} (hl:l.length ≤ 9999) (hin:cF 65536 l):dO F neg l = some (if lv l < MM then cm (if neg = true then -lv l else lv l) else bad):=by
 refine an.eq ?_
 unfold dO
 refine an.bind (qt (by omega) (by omega) hin) ?_
 rintro c ⟨cin,ct,cv,cl⟩
 rw [← cv]
 have c0:=fC cin
 clear hin cv cl hl
 refine an.ite (fun h=>?_) (fun h=>?_)
 ·have h':=of_decide_eq_true h
  refine an.aB (nc F) (an.some ?_)
  rw [if_neg]
  intro h1
  rw [MM65] at h1
  have:=ti cin ct h1
  omega
 ·have h':=of_decide_eq_false h
  have hlt:lv c < MM:=by
   have h1:=su cin
   have h2:=oK (show c.length ≤ 32 by omega)
   rw [MM65]; omega
  rw [if_pos hlt]
  refine an.ln ?_
  refine an.bind (P:=fun o=>o.Bad = false ∧ o.Neg = (neg && decide (0 < (c.length:Int))) ∧ cF 4294967296 o.W.l ∧ av o.W = lv c) (an.rounds c.length (fun (k:Nat) (s:bt × Int)=>s.2 = (k:Int) ∧ s.1.Bad = false ∧ s.1.Neg = (neg && decide (0 < (c.length:Int))) ∧ cF 4294967296 s.1.W.l ∧ (∀ j,k ≤ 2 * j → dg s.1.W.l j = 0) ∧ (∀ j,k ≤ 2 * j + 1 → dg s.1.W.l j < 65536) ∧ av s.1.W = ds 65536 (dg c) k) (by omega) ?_ ?_) ?_
  ·refine ⟨rfl,rfl,rfl,js,fun j _=>?_,fun j _=>?_,rm⟩
   ·have:aP.zero.l = List.replicate 16 0:=rfl
    show dg aP.zero.l j = 0
    rw [this,dk]
   ·have:aP.zero.l = List.replicate 16 0:=rfl
    show dg aP.zero.l j < 65536
    rw [this,dk]; decide
  ·rintro k ⟨⟨Bd,Ng,w⟩,kx⟩ hk ⟨rfl,b0,n0,win,wz,wl,ws⟩
   dsimp only at b0 n0 win wz wl ws
   dsimp only [b7]
   refine an.ite (fun h2=>?_) (fun h2=>?_)
   ·have hk':k < c.length:=by have:=of_decide_eq_true h2; omega
    have hk3:k < 32:=by omega
    have hd:=cin k
    have hdiv:IntKind.i64.wrap (Int.tdiv (k:Int) 2) = ((k / 2:Nat):Int):=by rw [ep (by omega),cn]; omega
    have hj16:k / 2 < 16:=by omega
    refine an.bind (P:=fun o=>o.Bad = false ∧ o.Neg = (neg && decide (0 < (c.length:Int))) ∧ cF 4294967296 o.W.l ∧ (∀ j,k + 1 ≤ 2 * j → dg o.W.l j = 0) ∧ (∀ j,k + 1 ≤ 2 * j + 1 → dg o.W.l j < 65536) ∧ av o.W = ds 65536 (dg c) (k + 1)) ?_ ?_
    ·refine an.ite (fun h3=>?_) (fun h3=>?_)
     ·have h3':=of_decide_eq_true h3
      rw [eO (by omega)] at h3'
      obtain ⟨j,rfl⟩:∃ j,k = 2 * j:=⟨k / 2,by omega⟩
      have hjj:2 * j / 2 = j:=by omega
      refine an.quo (by decide) (an.quo (by decide) ?_)
      rw [hdiv,hjj]
      refine an.idx (by omega) (by rw [aP.bS]; omega) (an.idx (by omega) (by omega) (an.idx (by omega) (by rw [aP.bS]; omega) (an.some ?_)))
      simp only [dw,Int.toNat_natCast]
      have hz:=wz j (by omega)
      have e1:IntKind.u32.wrap (dg w.l j + IntKind.u32.wrap (dg c (2 * j))) = dg c (2 * j):=by rw [hz]; simp only [kF]; omega
      rw [e1]
      refine ⟨b0,n0,jb win (by omega) (by omega) (by omega),fun i hi=>?_,fun i hi=>?_,?_⟩
      ·rw [eV (by omega) (by omega),Int.toNat_natCast,if_neg (by omega)]; exact wz i (by omega)
      ·rw [eV (by omega) (by omega),Int.toNat_natCast]
       split
       ·exact hd.2
       ·exact wl i (by omega)
      ·rw [Dc (by omega),hz,ws,c6,z7,Int.sub_zero]
     ·have h3':=of_decide_eq_false h3
      rw [eO (by omega)] at h3'
      obtain ⟨j,rfl⟩:∃ j,k = 2 * j + 1:=⟨k / 2,by omega⟩
      have hjj:(2 * j + 1) / 2 = j:=by omega
      refine an.quo (by decide) (an.quo (by decide) ?_)
      rw [hdiv,hjj]
      refine an.idx (by omega) (by rw [aP.bS]; omega) (an.idx (by omega) (by omega) (an.idx (by omega) (by rw [aP.bS]; omega) (an.some ?_)))
      simp only [dw,Int.toNat_natCast]
      have hz:=wl j (by omega)
      have hz0:=(win j).1
      have e1:IntKind.u32.wrap (dg w.l j + IntKind.u32.wrap (IntKind.u32.wrap (dg c (2 * j + 1)) * 65536)) = dg w.l j + dg c (2 * j + 1) * 65536:=by simp only [kF]; omega
      rw [e1]
      refine ⟨b0,n0,jb win (by omega) (by omega) (by omega),fun i hi=>?_,fun i hi=>?_,?_⟩
      ·rw [eV (by omega) (by omega),Int.toNat_natCast,if_neg (by omega)]; exact wz i (by omega)
      ·rw [eV (by omega) (by omega),Int.toNat_natCast,if_neg (by omega)]; exact wl i (by omega)
      ·rw [Dc (by omega),ws,c6 65536 (dg c) (2 * j + 1),pow65']
       have:dg w.l j + dg c (2 * j + 1) * 65536 - dg w.l j = dg c (2 * j + 1) * 65536:=by omega
       rw [this,Int.mul_comm ((4294967296:Int) ^ j),← Int.mul_assoc]
    ·rintro o ⟨q1,q2,q3,q4,q5,q6⟩
     exact an.some (.inl ⟨_,rfl,⟨by dsimp only; rw [cn]; omega,q1,q2,q3,q4,q5,q6⟩,hk'⟩)
   ·have hk':k = c.length:=by have:=of_decide_eq_false h2; omega
    subst hk'
    exact an.some (.inr ⟨_,rfl,b0,n0,win,ws⟩)
  ·rintro ⟨Bd,Ng,w⟩ ⟨b0,n0,win,ws⟩
   dsimp only at b0 n0 win ws
   refine an.some ?_
   subst b0 n0
   have hw:w = rX (lv c):=vR win ws
   subst hw
   have hlen:=nv cin ct
   unfold cm
   cases neg with
   | false=>
    have h1:¬ lv c < 0:=by omega
    simp only [Bool.false_and,Bool.false_eq_true,if_false,h1,decide_false]
    rw [if_pos (by omega)]
   | true=>
    simp only [if_true,Bool.true_and]
    rw [if_pos (by omega)]
    by_cases e:lv c = 0
    ·have:¬ 0 < c.length:=fun h=>hlen.1 h e
     have h2:¬ ((0:Int) < c.length):=by omega
     rw [e,decide_eq_false h2]
     simp
    ·have:0 < c.length:=hlen.2 e
     have h2:((0:Int) < c.length):=by omega
     have h1:-lv c < 0:=by omega
     simp only [h1,h2,decide_true,if_true,Int.neg_neg]
theorem wi {neg:Bool} {m:Int} (h0:0 ≤ m):(if m < MM then cm (if neg = true then -m else m) else bad) = cm (if neg = true then -m else m):=by
 split
 ·rfl
 ·next h=>exact (kJ (by split <;> omega)).symm
theorem word_y {F:Nat} (hF:100000 < F) {x:bt} (hx:kC x):gi F x = some (match iv x with | some a=>if aJ a < 4611686018427387904 then (a,true) else (0,false) | none=>(0,false)):=by
 refine an.eq ?_
 unfold gi
 refine an.aB (gU hF hx) ?_
 cases ha:iv x with
 | none=>simp only [cR ha,Bool.not_false,Bool.true_or,if_true]; exact an.some rfl
 | some a=>
  obtain ⟨ga,rfl,ra⟩:=cu hx ha
  obtain ⟨wa,na⟩:=cT ra
  have ia:cF 4294967296 (cm a).W.l:=bc a
  have habs:av (cm a).W = aJ a:=wa
  simp only [ga,Bool.not_true,Bool.false_or,na]
  generalize (cm a).W = A at *
  have a0:=ia 0
  have a1:=ia 1
  have e0:dg A.l 0 = A.a0:=rfl
  have e1:dg A.l 1 = A.a1:=rfl
  rw [e0] at a0
  rw [e1] at a1
  have hsum:aJ a = A.a0 + A.a1 * 4294967296 + 18446744073709551616 * ds 4294967296 (fun i=>dg A.l (2 + i)) 14:=by
   rw [← habs]
   show ds 4294967296 (dg A.l) (2 + 14) = _
   rw [fJ]
   have h2:ds 4294967296 (dg A.l) 2 = A.a0 + A.a1 * 4294967296:=by simp [ds,dg,aP.l]
   rw [h2]
   rfl
  have hrest:=dK (b:=4294967296) (by decide) (f:=fun i=>dg A.l (2 + i)) (n:=14) fun i _=>(ia (2 + i)).1
  refine an.ite (fun h=>?_) (fun h=>?_)
  ·have h':=of_decide_eq_true h
   refine an.some ?_
   rw [if_neg (by omega)]
  ·have h':=of_decide_eq_false h
   refine an.bind (P:=fun r=>match r with | .inl _=>∀ i,i < 14 → dg A.l (2 + i) = 0 | .inr y=>y = (0,false) ∧ ∃ i,i < 14 ∧ dg A.l (2 + i) ≠ 0) (an.rounds 14 (fun (k:Nat) (s:Int)=>s = ((2 + k:Nat):Int) ∧ ∀ i,i < k → dg A.l (2 + i) = 0) (by omega) ⟨rfl,fun i h=>absurd h (Nat.not_lt_zero i)⟩ ?_) ?_
   ·rintro k i hk ⟨rfl,hz⟩
    refine an.ite (fun h=>?_) (fun h=>?_)
    ·have hk':k < 14:=by have:=of_decide_eq_true h; omega
     refine an.idx (by omega) (by rw [aP.bS]; omega) ?_
     simp only [dw,Int.toNat_natCast]
     refine an.ite (fun h=>?_) (fun h=>?_)
     ·exact an.some (.inr ⟨_,rfl,rfl,k,hk',of_decide_eq_true h⟩)
     ·have h2:dg A.l (2 + k) = 0:=by have:=of_decide_eq_false h; omega
      refine an.some (.inl ⟨_,rfl,⟨by rw [cn]; omega,fun i hi=>?_⟩,hk'⟩)
      by_cases e:i = k
      ·rw [e]; exact h2
      ·exact hz i (by omega)
    ·have hk':k = 14:=by have:=of_decide_eq_false h; omega
     subst hk'
     exact an.some (.inr ⟨_,rfl,hz⟩)
   ·rintro (u | y) h
    ·have hz:ds 4294967296 (fun i=>dg A.l (2 + i)) 14 = 0:=l9 h
     rw [hz,Int.mul_zero,Int.add_zero] at hsum
     have hlt:aJ a < 4611686018427387904:=by omega
     rw [if_pos hlt]
     refine an.jZ (A.a1 * 4294967296) (by simp only [cn]; omega) (an.jZ (aJ a) (by simp only [cn]; omega) ?_)
     unfold aJ at *
     refine an.ite (fun h=>?_) (fun h=>?_)
     ·have h1:=of_decide_eq_true h
      rw [if_pos h1] at *
      exact an.some (by rw [dm (by omega) (by omega),Int.neg_neg])
     ·have h1:=of_decide_eq_false h
      rw [if_neg h1] at *
      exact an.some rfl
    ·obtain ⟨rfl,i,hi,hne⟩:=h
     refine an.some ?_
     have:1 ≤ ds 4294967296 (fun i=>dg A.l (2 + i)) 14:=by
      rcases (by omega:ds 4294967296 (fun i=>dg A.l (2 + i)) 14 = 0 ∨ 1 ≤ ds 4294967296 (fun i=>dg A.l (2 + i)) 14) with h | h
      ·have h0:ds 4294967296 (fun i=>dg A.l (2 + i)) 14 = ds 4294967296 (fun _=>0) 14:=by rw [h,l9]; intro _ _; rfl
       exact absurd (zf (by decide) (fun j _=>ia (2 + j)) (fun j _=>by decide) h0 i hi) hne
      ·exact h
     rw [if_neg (by omega)]
theorem z6 {F:Nat} (hF:100000 < F) {n:Int} (h0:-9223372036854775808 ≤ n) (h1:n ≤ 9223372036854775807):iV F n = some (cm n):=by
 refine an.eq ?_
 unfold iV
 refine an.ite (fun h=>?_) (fun h=>?_)
 ·have h':=of_decide_eq_true h
  refine an.quo (by decide) (an.quo (by decide) (an.quo (by decide) ?_))
  have q1:IntKind.i64.wrap (Int.tdiv n 65536) = n / 65536:=by rw [ep h',cn]; omega
  have q2:IntKind.i64.wrap (Int.tdiv n 4294967296) = n / 4294967296:=by rw [ep h',cn]; omega
  have q3:IntKind.i64.wrap (Int.tdiv n 281474976710656) = n / 281474976710656:=by rw [ep h',cn]; omega
  rw [q1,q2,q3,eO h',eO (by omega),eO (by omega)]
  have hv:lv [n % 65536,n / 65536 % 65536,n / 4294967296 % 65536,n / 281474976710656] = n:=by rw [AE]; omega
  refine an.aB (uj hF false (by simp) (A6 (by omega) (by omega) (by omega) (by omega))) (an.some ?_)
  rw [hv,wi h']
  simp
 ·have h':=of_decide_eq_false h
  refine an.jZ (-(n + 1)) (by simp only [cn]; omega) ?_
  have hm:0 ≤ -(n + 1):=by omega
  generalize hmm:-(n + 1) = m at *
  refine an.quo (by decide) (an.quo (by decide) (an.quo (by decide) ?_))
  have q1:IntKind.i64.wrap (Int.tdiv m 65536) = m / 65536:=by rw [ep hm,cn]; omega
  have q2:IntKind.i64.wrap (Int.tdiv m 4294967296) = m / 4294967296:=by rw [ep hm,cn]; omega
  have q3:IntKind.i64.wrap (Int.tdiv m 281474976710656) = m / 281474976710656:=by rw [ep hm,cn]; omega
  rw [q1,q2,q3,eO hm,eO (by omega),eO (by omega)]
  have hv:lv [m % 65536,m / 65536 % 65536,m / 4294967296 % 65536,m / 281474976710656] = m:=by rw [AE]; omega
  refine an.bind (As hF (A6 (by omega) (by omega) (by omega) (by omega)) (q7 (by decide) (x:=1) (by decide)) (by simp) (by simp)) fun c hc=>?_
  obtain ⟨c1,_,c2,c3⟩:=hc
  rw [hv,tP] at c2
  refine an.aB (uj hF true (by simp at c3; omega) c1) (an.some ?_)
  rw [c2,wi (by omega)]
  simp only [if_true]
  congr 1
  omega
end Go.Proofs.YtcbbilehdaaffaaGreatDoor
namespace Go.Sk
set_option linter.unusedSimpArgs false
set_option linter.unusedVariables false
def wd:Option Int → Int × Bool
 | some a=>if aJ a < 4611686018427387904 then (a,true) else (0,false)
 | none=>(0,false)
theorem pu {o:Option Int} {p:Int} (h:wd o = (p,true)):o = some p ∧ aJ p < 4611686018427387904:=by
 unfold wd at h
 split at h
 ·split at h
  ·next h1=>simp only [Prod.mk.injEq,and_true] at h; subst h; exact ⟨rfl,h1⟩
  ·simp at h
 ·simp at h
theorem Eb {a:Int}:aJ a = if a < 0 then -a else a:=rfl
theorem tQ {l:List Int} (h:cF 65536 l) (i:Nat):dg l i = lv l / 65536 ^ i % 65536:=by
 have h1:=tG (l:=l) (n:=l.length + (i + 1)) (by omega)
 have h2:=C' (b:=65536) (by decide) (f:=dg l) (n:=l.length + (i + 1)) (i:=i) (by omega) h
 rw [h1] at h2
 exact h2.symm
end Go.Sk
namespace Go.Proofs.YtcbbilehdaaffaaGreatDoor
open Go Go.Sk
set_option linter.unusedSimpArgs false
set_option linter.unusedVariables false
theorem pr {F:Nat} (hF:100000 < F) {x:bt} (hx:kC x):gi F x = some (wd (iv x)):=by
 rw [word_y hF hx]
 cases iv x <;> rfl
theorem p6 {F:Nat} (hF:100000 < F) {a:Int} (ra:-MM < a ∧ a < MM):an (cU F (cm a)) fun c=>cF 65536 c ∧ jJ c ∧ lv c = aJ a ∧ c.length ≤ 32:=by
 have h:=D4 hF (bc a)
 rw [(cT ra).1] at h
 exact h
theorem xe {F:Nat} (hF:100000 < F) (neg:Bool) {l:List Int} (hl:l.length ≤ 9999) (hin:cF 65536 l):dO F neg l = some (cm (if neg = true then -lv l else lv l)):=by
 rw [uj hF neg hl hin,wi (fC hin)]
theorem rNeg_y {F:Nat} (hF:100000 < F) {x:bt} (hx:kC x):oH F x = some (one (fun a=>some (-a)) x):=by
 refine an.eq ?_
 unfold oH one
 refine an.aB (gU hF hx) ?_
 cases ha:iv x with
 | none=>simp only [cR ha,Bool.not_false,if_true]; exact an.aB (nc F) (an.some rfl)
 | some a=>
  obtain ⟨ga,rfl,ra⟩:=cu hx ha
  obtain ⟨wa,na⟩:=cT ra
  simp only [ga,Bool.not_true,Bool.false_eq_true,if_false,uO]
  refine an.bind (p6 hF ra) ?_
  rintro c ⟨c1,_,c2,c3⟩
  refine an.aB (xe hF _ (by omega) c1) (an.some ?_)
  rw [c2,na,Eb]
  congr 1
  by_cases h:a < 0
  ·simp [h]
  ·simp [h]
theorem rAbs_y {F:Nat} (hF:100000 < F) {x:bt} (hx:kC x):oI F x = some (one (fun a=>some (aJ a)) x):=by
 refine an.eq ?_
 unfold oI one
 refine an.aB (gU hF hx) ?_
 cases ha:iv x with
 | none=>simp only [cR ha,Bool.not_false,if_true]; exact an.aB (nc F) (an.some rfl)
 | some a=>
  obtain ⟨ga,rfl,ra⟩:=cu hx ha
  simp only [ga,Bool.not_true,Bool.false_eq_true,if_false,uO]
  refine an.bind (p6 hF ra) ?_
  rintro c ⟨c1,_,c2,c3⟩
  refine an.aB (xe hF _ (by omega) c1) (an.some ?_)
  rw [c2]
  simp
theorem rSign_y {F:Nat} (hF:100000 < F) {x:bt} (hx:kC x):jj F x = some (match iv x with | some a=>yC a | none=>0):=by
 refine an.eq ?_
 unfold jj
 refine an.aB (gU hF hx) ?_
 cases ha:iv x with
 | none=>simp only [cR ha]; exact an.g0 rfl (an.fU rfl (an.some rfl))
 | some a=>
  obtain ⟨ga,rfl,ra⟩:=cu hx ha
  obtain ⟨wa,na⟩:=cT ra
  refine an.g1 (by rw [ga]; rfl) (an.bind (p6 hF ra) ?_)
  rintro c ⟨c1,c2,c3,c4⟩
  have hl:=nv c1 c2
  have habs:aJ a = 0 ↔ a = 0:=by unfold aJ; split <;> omega
  simp only [ga,Bool.not_true,Bool.false_or,na]
  unfold yC
  refine an.ite (fun h=>?_) (fun h=>?_)
  ·have h':=of_decide_eq_true h
   exact an.some (by rw [if_pos]; rw [← habs,← c3]; by_cases e:lv c = 0; exact e; have:=hl.2 e; omega)
  ·have h':=of_decide_eq_false h
   have h0:a ≠ 0:=fun e=>by
    have:=hl.1 (by omega)
    rw [c3] at this
    exact this (habs.2 e)
   refine an.ite (fun h=>?_) (fun h=>?_)
   ·have:=of_decide_eq_true h; exact an.some (by rw [if_neg h0,if_pos this])
   ·have:=of_decide_eq_false h; exact an.some (by rw [if_neg h0,if_neg this])
end Go.Proofs.YtcbbilehdaaffaaGreatDoor
namespace Go.Sk
set_option linter.unusedSimpArgs false
set_option linter.unusedVariables false
end Go.Sk
namespace Go.Proofs.YtcbbilehdaaffaaGreatDoor
open Go Go.Sk
set_option linter.unusedSimpArgs false
set_option linter.unusedVariables false
end Go.Proofs.YtcbbilehdaaffaaGreatDoor
namespace Go.Sk
set_option linter.unusedSimpArgs false
set_option linter.unusedVariables false
theorem ds_setl {b:Int} {l:List Int} {k n:Nat} {x:Int} (hk:k < n) (hl:k < l.length):ds b (dg (l.set k x)) n = ds b (dg l) n + (x - dg l k) * b ^ k:=by
 obtain ⟨m,rfl⟩:∃ m,n = k + 1 + m:=⟨n - k - 1,by omega⟩
 have e1:ds b (dg (l.set k x)) (k + 1) = ds b (dg l) k + x * b ^ k:=vS fun i=>iK hl
 have e2:ds b (fun i=>dg (l.set k x) (k + 1 + i)) m = ds b (fun i=>dg l (k + 1 + i)) m:=dn fun i _=>by rw [iK hl,if_neg (by omega)]
 rw [fJ b _ (k + 1),fJ b _ (k + 1),e1,e2,c6]
 grind
theorem set_inl {b:Int} {l:List Int} {k:Nat} {x:Int} (hl:k < l.length) (h:cF b l) (hx:0 ≤ x ∧ x < b):cF b (l.set k x):=fun i=>by
 rw [iK hl]; split
 ·exact hx
 ·exact h i
theorem CB (n:Nat):cF 65536 (List.replicate n 0):=fun i=>by rw [dk]; decide
theorem lv_rep (n:Nat):lv (List.replicate n 0) = 0:=l9 fun i _=>dk
theorem mul_fit {x y:Int} (hx:0 ≤ x ∧ x < 65536) (hy:0 ≤ y ∧ y < 65536):0 ≤ x * y ∧ x * y ≤ 4294836225:=by
 have:=k6 hx hy
 exact this
end Go.Sk
namespace Go.Proofs.YtcbbilehdaaffaaGreatDoor
open Go Go.Sk
set_option linter.unusedSimpArgs false
set_option linter.unusedVariables false
theorem Al {F:Nat} (hF:100000 < F) {a b:List Int} (ha:cF 65536 a) (hb:cF 65536 b) (la:a.length ≤ 9999) (lb:b.length ≤ 9999) :
  an (jN F a b) fun c=>cF 65536 c ∧ jJ c ∧ lv c = lv a * lv b ∧ c.length ≤ a.length + b.length + 1:=by
 unfold jN
 obtain ⟨n,hn⟩:∃ n:Nat,n = a.length + b.length + 1:=⟨_,rfl⟩
 refine an.jZ ((a.length + b.length:Nat):Int) (by rw [cn]; omega) ?_
 have hw:IntKind.i64.wrap (((a.length + b.length:Nat):Int) + 1) = (n:Int):=by rw [cn]; omega
 rw [hw]
 have hmk:mk? (0:Int) (n:Int) (n:Int) = some (List.replicate n 0):=by
  unfold mk?
  rw [if_pos (by omega),Int.toNat_natCast]
 refine an.aB hmk ?_
 refine an.bind (P:=fun o=>cF 65536 o ∧ o.length = n ∧ lv o = lv a * lv b) (an.rounds a.length (fun k s=>s.2 = (k:Int) ∧ cF 65536 s.1 ∧ s.1.length = n ∧ lv s.1 = ds 65536 (dg a) k * lv b) (by omega) ⟨rfl,CB n,by simp,by rw [lv_rep]; simp [ds]⟩ ?_) ?_
 ·rintro i ⟨o,ix⟩ hi ⟨rfl,oin,ol,os⟩
  dsimp only at oin ol os
  dsimp only [b7]
  refine an.ite (fun h=>?_) (fun h=>?_)
  ·have hi':i < a.length:=by have:=of_decide_eq_true h; omega
   have hai:=ha i
   refine an.bind (P:=fun o=>cF 65536 o ∧ o.length = n ∧ lv o = ds 65536 (dg a) (i + 1) * lv b) ?_ ?_
   ·refine an.bind (P:=fun p=>(∀ j,0 ≤ dg p j ∧ dg p j < 4294967296) ∧ p.length = n ∧ ds 65536 (dg p) n = ds 65536 (dg a) (i + 1) * lv b) (an.rounds b.length (fun k s=>s.2 = (k:Int) ∧ (∀ j,0 ≤ dg s.1 j ∧ dg s.1 j < 4294967296) ∧ (∀ j,i + k ≤ j → dg s.1 j < 65536) ∧ s.1.length = n ∧ ds 65536 (dg s.1) n = ds 65536 (dg a) i * lv b + dg a i * 65536 ^ i * ds 65536 (dg b) k) (by omega) ⟨rfl,fun j=>⟨(oin j).1,by have:=(oin j).2; dsimp only; omega⟩,fun j _=>(oin j).2,ol,?_⟩ ?_) ?_
    ·dsimp only
     rw [← ol]
     show lv o = _
     rw [os]; simp [ds]
    ·rintro k ⟨p,kx⟩ hk ⟨rfl,pin,phi,pl,ps⟩
     dsimp only at pin phi pl ps
     dsimp only [b7]
     refine an.ite (fun h=>?_) (fun h=>?_)
     ·have hk':k < b.length:=by have:=of_decide_eq_true h; omega
      have hbk:=hb k
      have hwi:IntKind.i64.wrap ((i:Int) + (k:Int)) = ((i + k:Nat):Int):=by rw [cn]; omega
      rw [hwi]
      refine an.idx (by omega) (by omega) (an.idx (by omega) (by omega) (an.idx (by omega) (by omega) (an.idx (by omega) (by omega) ?_)))
      simp only [dw,Int.toNat_natCast]
      have hm:=mul_fit hai hbk
      have hp:=pin (i + k)
      have hp2:=phi (i + k) (by omega)
      have e1:IntKind.i64.wrap (dg p (i + k) + IntKind.i64.wrap (dg a i * dg b k)) = dg p (i + k) + dg a i * dg b k:=by
       rw [dm (z:=dg a i * dg b k) (by omega) (by omega),dm (by omega) (by omega)]
      rw [e1]
      refine an.some (.inl ⟨_,rfl,⟨by dsimp only; rw [cn]; omega,fun j=>?_,fun j hj=>?_,by simp [pl],?_⟩,hk'⟩)
      ·dsimp only
       rw [iK (by omega)]
       split
       ·omega
       ·exact pin j
      ·dsimp only
       rw [iK (by omega),if_neg (by omega)]
       exact phi j (by omega)
      ·dsimp only
       rw [ds_setl (by omega) (by omega),ps,c6]
       have:(65536:Int) ^ (i + k) = 65536 ^ i * 65536 ^ k:=Int.pow_add _ _ _
       grind
     ·have hk':k = b.length:=by have:=of_decide_eq_false h; omega
      subst hk'
      refine an.some (.inr ⟨_,rfl,pin,pl,?_⟩)
      rw [ps,c6]
      have:ds 65536 (dg b) b.length = lv b:=rfl
      rw [this]
      grind
    ·rintro p ⟨pin,pl,ps⟩
     have htot:ds 65536 (dg a) (i + 1) * lv b < 65536 ^ n:=by
      have h1:=oi (b:=65536) (by decide) (f:=dg a) (n:=i + 1) fun j _=>ha j
      have h2:=su hb
      have h3:=fC hb
      have h4:=dK (b:=65536) (by decide) (f:=dg a) (n:=i + 1) fun j _=>(ha j).1
      have h5:ds 65536 (dg a) (i + 1) * lv b ≤ 65536 ^ (i + 1) * 65536 ^ b.length:=Int.mul_le_mul (by omega) (by omega) h3 (by omega)
      rw [← Int.pow_add] at h5
      have h6:(65536:Int) ^ (i + 1 + b.length) < 65536 ^ n:=by
       have h7:(65536:Int) ^ (i + 1 + b.length + 1) ≤ 65536 ^ n:=oK (by omega)
       have h8:(0:Int) < 65536 ^ (i + 1 + b.length):=Int.pow_pos (by decide)
       rw [Int.pow_succ] at h7
       omega
      omega
     refine an.bind (P:=fun o=>cF 65536 o ∧ o.length = n ∧ lv o = ds 65536 (dg a) (i + 1) * lv b) (an.rounds n (fun k s=>s.2.2 = (k:Int) ∧ 0 ≤ s.2.1 ∧ s.2.1 < 4294967296 ∧ (∀ j,0 ≤ dg s.1 j) ∧ (∀ j,j < k → dg s.1 j < 65536) ∧ (∀ j,k ≤ j → dg s.1 j = dg p j) ∧ s.1.length = n ∧ ds 65536 (dg s.1) k + s.2.1 * 65536 ^ k = ds 65536 (dg p) k) (by omega) ⟨rfl,Int.le_refl _,(by decide:(0:Int) < 4294967296),fun j=>(pin j).1,fun j h=>absurd h (Nat.not_lt_zero j),fun j _=>rfl,pl,by simp [ds]⟩ ?_) ?_
     ·rintro k ⟨o,c,kx⟩ hk ⟨rfl,c0,c1,o0,olo,ohi,ol,os⟩
      dsimp only at c0 c1 o0 olo ohi ol os
      dsimp only [kA]
      refine an.ite (fun h=>?_) (fun h=>?_)
      ·have hk':k < n:=by have:=of_decide_eq_true h; omega
       have hpk:=pin k
       have hok:=ohi k (Nat.le_refl k)
       refine an.idx (by omega) (by omega) ?_
       simp only [dw,Int.toNat_natCast,hok]
       rw [dm (by omega) (by omega),eO (by omega)]
       refine an.ln (an.idx (by omega) (by omega) (an.quo (by decide) (an.some (.inl ⟨_,rfl,?_,hk'⟩))))
       rw [ep (by omega)]
       have hq:IntKind.i64.wrap ((dg p k + c) / 65536) = (dg p k + c) / 65536:=by rw [cn]; omega
       rw [hq]
       dsimp only
       refine ⟨by rw [cn]; omega,by omega,by omega,fun j=>?_,fun j hj=>?_,fun j hj=>?_,by simp [ol],?_⟩
       ·rw [iK (by omega)]
        split
        ·omega
        ·exact o0 j
       ·rw [iK (by omega)]
        split
        ·omega
        ·exact olo j (by omega)
       ·rw [iK (by omega),if_neg (by omega)]; exact ohi j (by omega)
       ·have e1:ds 65536 (dg (o.set k ((dg p k + c) % 65536))) (k + 1) = ds 65536 (dg o) k + (dg p k + c) % 65536 * 65536 ^ k:=vS fun i=>iK (by omega)
        rw [e1,c6,← os,Int.pow_succ]
        have e2:dg p k + c = (dg p k + c) % 65536 + (dg p k + c) / 65536 * 65536:=by omega
        generalize (dg p k + c) % 65536 = u at *
        generalize (dg p k + c) / 65536 = v at *
        have e3:dg p k = u + v * 65536 - c:=by omega
        rw [e3]
        grind
      ·have hk':k = n:=by have:=of_decide_eq_false h; omega
       subst hk'
       have oin':cF 65536 o:=fun j=>by
        by_cases hj:j < k
        ·exact ⟨o0 j,olo j hj⟩
        ·rw [oo (by omega)]; decide
       refine an.some (.inr ⟨_,rfl,oin',ol,?_⟩)
       have hlo:=dK (b:=65536) (by decide) (f:=dg o) (n:=k) fun j _=>o0 j
       have hpw:(0:Int) < 65536 ^ k:=Int.pow_pos (by decide)
       rw [ps] at os
       have hc:c = 0:=by
        rcases (by omega:c = 0 ∨ 1 ≤ c) with h | h
        ·exact h
        ·have:1 * (65536:Int) ^ k ≤ c * 65536 ^ k:=Int.mul_le_mul_of_nonneg_right h (by omega)
         omega
       subst hc
       have:lv o = ds 65536 (dg o) k:=(tG (by omega)).symm
       omega
     ·rintro o ho
      exact an.some ho
   ·rintro o ⟨o1,o2,o3⟩
    exact an.some (.inl ⟨_,rfl,⟨by dsimp only; rw [cn]; omega,o1,o2,o3⟩,hi'⟩)
  ·have hi':i = a.length:=by have:=of_decide_eq_false h; omega
   subst hi'
   exact an.some (.inr ⟨_,rfl,oin,ol,os⟩)
 ·rintro o ⟨oin,ol,os⟩
  refine an.bind (qt (by omega) (by omega) oin) fun c hc=>an.some ⟨hc.1,hc.2.1,by rw [hc.2.2.1,os],by have:=hc.2.2.2; omega⟩
end Go.Proofs.YtcbbilehdaaffaaGreatDoor
namespace Go.Sk
set_option linter.unusedSimpArgs false
set_option linter.unusedVariables false
theorem lv_cons (x:Int) (l:List Int):lv (x :: l) = x + 65536 * lv l:=by
 unfold lv
 rw [List.length_cons,kb]
 rfl
theorem cons_in {x:Int} {l:List Int} (hx:0 ≤ x ∧ x < 65536) (h:cF 65536 l):cF 65536 (x :: l):=fun i=>by
 cases i with
 | zero=>exact hx
 | succ i=>exact h i
theorem top3 {l:List Int} {n:Nat} (h:cF 65536 l) (hv:lv l < 65536 ^ (n + 3)):dg l (n + 2) * 4294967296 + dg l (n + 1) * 65536 + dg l n = lv l / 65536 ^ n:=by
 have h0:=fC h
 have hp:(0:Int) < 65536 ^ n:=Int.pow_pos (by decide)
 obtain ⟨X,hX⟩:∃ X,X = lv l / 65536 ^ n:=⟨_,rfl⟩
 have e1:lv l / 65536 ^ (n + 1) = X / 65536:=by rw [Int.pow_succ,← Int.ediv_ediv_of_nonneg (Int.le_of_lt hp),hX]
 have e2:lv l / 65536 ^ (n + 2) = X / 65536 / 65536:=by rw [show n + 2 = (n + 1) + 1 from rfl,Int.pow_succ,← Int.ediv_ediv_of_nonneg (Int.le_of_lt (Int.pow_pos (by decide))),e1]
 have hX0:0 ≤ X:=by rw [hX]; exact Int.ediv_nonneg h0 (Int.le_of_lt hp)
 have hX1:X < 281474976710656:=by
  rw [hX,Int.ediv_lt_iff_lt_mul hp]
  have:(65536:Int) ^ (n + 3) = 281474976710656 * 65536 ^ n:=by rw [Int.pow_add,Int.mul_comm]; rfl
  omega
 rw [tQ h,tQ h,tQ h,e1,e2,← hX]
 omega
theorem top2 {l:List Int} {n:Nat} (h:cF 65536 l) (hv:lv l < 65536 ^ (n + 2)):dg l (n + 1) * 65536 + dg l n = lv l / 65536 ^ n:=by
 have h0:=fC h
 have hp:(0:Int) < 65536 ^ n:=Int.pow_pos (by decide)
 obtain ⟨X,hX⟩:∃ X,X = lv l / 65536 ^ n:=⟨_,rfl⟩
 have e1:lv l / 65536 ^ (n + 1) = X / 65536:=by rw [Int.pow_succ,← Int.ediv_ediv_of_nonneg (Int.le_of_lt hp),hX]
 have hX0:0 ≤ X:=by rw [hX]; exact Int.ediv_nonneg h0 (Int.le_of_lt hp)
 have hX1:X < 4294967296:=by
  rw [hX,Int.ediv_lt_iff_lt_mul hp]
  have:(65536:Int) ^ (n + 2) = 4294967296 * 65536 ^ n:=by rw [Int.pow_add,Int.mul_comm]; rfl
  omega
 rw [tQ h,tQ h,e1,← hX]
 omega
theorem est_ge {t B R P:Int} (hP:0 < P) (h0:0 ≤ t) (h:t * B ≤ R):t * (B / P) ≤ R / P:=by
 rw [Int.le_ediv_iff_mul_le hP,Int.mul_assoc]
 have:=Int.ediv_mul_le B (by omega:P ≠ 0)
 have:=Int.mul_le_mul_of_nonneg_left this h0
 omega
end Go.Sk
namespace Go.Proofs.YtcbbilehdaaffaaGreatDoor
open Go Go.Sk
set_option linter.unusedSimpArgs false
set_option linter.unusedVariables false
theorem at_y (F:Nat) (l:List Int) (k:Int):lY F l k = some (if k < 0 then 0 else dg l k.toNat):=by
 refine an.eq ?_
 unfold lY
 refine an.ite (fun h=>?_) (fun h=>?_)
 ·have:=of_decide_eq_true h; rw [if_pos this]; exact an.some rfl
 ·have:=of_decide_eq_false h; rw [if_neg this]; exact an.aB (ma F (by omega)) (an.some rfl)
theorem est {B R t:Int} {b r:List Int} (hb:cF 65536 b) (hr:cF 65536 r) (htb:jJ b) (h0:0 < b.length) (hB:lv b = B) (hR:lv r = R) (hlt:R < 65536 * B) (ht0:0 ≤ t) (ht:t * B ≤ R) :
    t ≤ (dg r b.length * 4294967296 + dg r (b.length - 1) * 65536 + (if (b.length:Int) - 2 < 0 then 0 else dg r (b.length - 2))) / (dg b (b.length - 1) * 65536 + (if (b.length:Int) - 2 < 0 then 0 else dg b (b.length - 2))) ∧ 0 < dg b (b.length - 1) * 65536 + (if (b.length:Int) - 2 < 0 then 0 else dg b (b.length - 2)):=by
  have htop:=htb h0
  have hb1:=hb (b.length - 1)
  have hb2:=hb (b.length - 2)
  have hBl:=su hb
  rw [hB] at hBl
  have hpos:0 < dg b (b.length - 1) * 65536 + (if (b.length:Int) - 2 < 0 then 0 else dg b (b.length - 2)):=by split <;> omega
  refine ⟨?_,hpos⟩
  rw [Int.le_ediv_iff_mul_le hpos]
  generalize hL:b.length = L at *
  by_cases h1:L = 1
  · subst h1
    have e1:lv b = dg b 0:=by unfold lv; rw [hL]; simp [ds]
    have hR2:lv r < 65536 ^ 2:=by rw [hR]; have:(65536:Int) ^ 2 = 65536 * 65536:=by decide
                                  have:(65536:Int) ^ 1 = 65536:=by decide
                                  omega
    have e2:dg r 1 * 65536 + dg r 0 = lv r / 65536 ^ 0:=top2 hr hR2
    have e3:lv r / 65536 ^ 0 = R:=by rw [hR]; simp
    have g1:(((1:Nat):Int) - 2 < 0):=by decide
    rw [if_pos g1,if_pos g1]
    show t * (dg b 0 * 65536 + 0) ≤ dg r 1 * 4294967296 + dg r 0 * 65536 + 0
    rw [Int.add_zero,Int.add_zero,← Int.mul_assoc,← e1,hB]
    omega
  · obtain ⟨m,hm⟩:∃ m,L = m + 2:=⟨L - 2,by omega⟩
    subst hm
    have g1:¬ (((m + 2:Nat):Int) - 2 < 0):=by omega
    rw [if_neg g1,if_neg g1]
    have hp:(0:Int) < 65536 ^ m:=Int.pow_pos (by decide)
    have hR2:lv r < 65536 ^ (m + 3):=by
      have:(65536:Int) ^ (m + 3) = 65536 ^ (m + 2) * 65536:=Int.pow_succ _ _
      omega
    have e1:=top3 hr hR2
    have e2:=top2 hb (by rw [hB]; exact hBl)
    show t * (dg b (m + 1) * 65536 + dg b m) ≤ dg r (m + 2) * 4294967296 + dg r (m + 1) * 65536 + dg r m
    rw [e1,e2,hB,hR]
    exact est_ge hp ht0 ht
theorem xO {F:Nat} (hF:100000 < F) {a b:List Int} (ha:cF 65536 a) (hb:cF 65536 b) (htb:jJ b) (h0:0 < b.length) (la:a.length ≤ 999) (lb:b.length ≤ 999) :
  an (jm F a b) fun p=>(cF 65536 p.1 ∧ jJ p.1 ∧ p.1.length ≤ a.length) ∧ (cF 65536 p.2 ∧ jJ p.2 ∧ p.2.length ≤ b.length) ∧ lv a = lv p.1 * lv b + lv p.2 ∧ lv p.2 < lv b:=by
 unfold jm
 have hBpos:0 < lv b:=by have:=nv hb htb; have:=fC hb; omega
 have hBl:=su hb
 have hmk:mk? (0:Int) (a.length:Int) (a.length:Int) = some (List.replicate a.length 0):=by
  unfold mk?
  rw [if_pos (by omega),Int.toNat_natCast]
 refine an.aB hmk ?_
 have hw1:IntKind.i64.wrap ((b.length:Int) - 1) = ((b.length - 1:Nat):Int):=by rw [cn]; omega
 have hw2:IntKind.i64.wrap ((b.length:Int) - 2) = (b.length:Int) - 2:=by rw [cn]; omega
 have hw3:IntKind.i64.wrap ((a.length:Int) - 1) = (a.length:Int) - 1:=by rw [cn]; omega
 rw [hw1,hw2,hw3]
 refine an.idx (by omega) (by omega) (an.aB (at_y F b _) ?_)
 simp only [dw,Int.toNat_natCast]
 have t2:((b.length:Int) - 2).toNat = b.length - 2:=by omega
 rw [t2]
 refine an.bind (P:=fun p=>(cF 65536 p.1 ∧ p.1.length = a.length) ∧ (cF 65536 p.2 ∧ jJ p.2 ∧ p.2.length ≤ b.length) ∧ lv a = lv p.1 * lv b + lv p.2 ∧ lv p.2 < lv b)
  (an.rounds a.length (fun (k:Nat) (s:List Int × List Int × Int)=>s.2.2 = (a.length:Int) - 1 - (k:Int) ∧ (cF 65536 s.1 ∧ s.1.length = a.length) ∧ (cF 65536 s.2.1 ∧ jJ s.2.1) ∧ ds 65536 (fun i=>dg a (a.length - k + i)) k = ds 65536 (fun i=>dg s.1 (a.length - k + i)) k * lv b + lv s.2.1 ∧ lv s.2.1 < lv b ∧ ∀ i,i < a.length - k → dg s.1 i = 0) (by omega) ?_ ?_) ?_
 ·refine ⟨by dsimp only; omega,⟨CB _,by simp⟩,⟨vK,fun h=>absurd h (Nat.lt_irrefl 0)⟩,?_,?_,fun i _=>dk⟩
  ·dsimp only
   rw [CM]
   simp [ds]
  ·dsimp only
   rw [CM]; exact hBpos
 ·rintro k ⟨q,r,kx⟩ hk ⟨rfl,⟨qin,ql⟩,⟨rin,rt⟩,hs,hlt,qz⟩
  dsimp only at qin ql rin rt hs hlt qz
  dsimp only [kA]
  have hrl:r.length ≤ b.length:=ti rin rt (by omega)
  refine an.ite (fun h=>?_) (fun h=>?_)
  ·have hk':k < a.length:=by have:=of_decide_eq_true h; omega
   have et:((a.length:Int) - 1 - (k:Int)).toNat = a.length - 1 - k:=by omega
   have hai:=ha (a.length - 1 - k)
   obtain ⟨R,hR⟩:∃ R,R = dg a (a.length - 1 - k) + 65536 * lv r:=⟨_,rfl⟩
   have hr0:=fC rin
   have hR0:0 ≤ R:=by omega
   have hRlt:R < 65536 * lv b:=by omega
   obtain ⟨t,htd⟩:∃ t,t = R / lv b:=⟨_,rfl⟩
   have htB:t * lv b ≤ R:=by rw [htd]; exact Int.ediv_mul_le _ (by omega)
   have htB2:R < (t + 1) * lv b:=by rw [htd]; exact Int.lt_ediv_add_one_mul_self _ hBpos
   have ht0:0 ≤ t:=by rw [htd]; exact Int.ediv_nonneg hR0 (by omega)
   have ht1:t < 65536:=by rw [htd,Int.ediv_lt_iff_lt_mul hBpos]; exact hRlt
   refine an.bind (P:=fun p=>p.1 = q.set (a.length - 1 - k) t ∧ cF 65536 p.2 ∧ jJ p.2 ∧ lv p.2 = R - t * lv b) ?_ ?_
   ·refine an.idx (by omega) (by omega) ?_
    simp only [dw,et]
    refine an.B8 (by simp; omega) ?_
    have hcin:cF 65536 ([dg a (a.length - 1 - k)] ++ r):=cons_in hai rin
    have hcv:lv ([dg a (a.length - 1 - k)] ++ r) = R:=by rw [hR]; exact lv_cons _ _
    refine an.bind (qt (by simp; omega) (by simp; omega) hcin) ?_
    rintro c ⟨cin,ct,cv,cl⟩
    rw [hcv] at cv
    have clen:c.length ≤ b.length + 1:=ti cin ct (by rw [cv,Int.pow_succ]; omega)
    have he:=est hb cin htb h0 rfl cv hRlt ht0 htB
    refine an.aB (at_y F c _) (an.ln (an.aB (at_y F c _) ?_))
    rw [if_neg (by omega),if_neg (by omega),Int.toNat_natCast,Int.toNat_natCast]
    have c1:=cin b.length
    have c2:=cin (b.length - 1)
    have c3:=cin (b.length - 2)
    have b1:=hb (b.length - 1)
    have b2:=hb (b.length - 2)
    refine an.jZ (dg c b.length * 4294967296 + dg c (b.length - 1) * 65536) (by simp only [cn]; omega) (an.ln (an.aB (at_y F c _) ?_))
    rw [t2]
    generalize hg1:(if (b.length:Int) - 2 < 0 then 0 else dg c (b.length - 2)) = x3 at *
    generalize hg2:(if (b.length:Int) - 2 < 0 then 0 else dg b (b.length - 2)) = y3 at *
    have hx3:0 ≤ x3 ∧ x3 < 65536:=by rw [← hg1]; split <;> omega
    have hy3:0 ≤ y3 ∧ y3 < 65536:=by rw [← hg2]; split <;> omega
    refine an.jZ (dg b (b.length - 1) * 65536 + y3) (by simp only [cn]; omega) (an.quo (by omega) ?_)
    have hnw:IntKind.i64.wrap (dg c b.length * 4294967296 + dg c (b.length - 1) * 65536 + x3) = dg c b.length * 4294967296 + dg c (b.length - 1) * 65536 + x3:=by rw [cn]; omega
    rw [hnw]
    generalize hnum:dg c b.length * 4294967296 + dg c (b.length - 1) * 65536 + x3 = num at *
    have hnum0:0 ≤ num ∧ num < 281474976710656:=by omega
    rw [ep hnum0.1]
    generalize hden:dg b (b.length - 1) * 65536 + y3 = den at *
    have hq0:0 ≤ num / den:=Int.ediv_nonneg hnum0.1 (by omega)
    have hq1:num / den ≤ num:=Int.ediv_le_self _ hnum0.1
    rw [dm (by omega) (by omega)]
    obtain ⟨d,hd⟩:∃ d,d = min 65535 (num / den):=⟨_,rfl⟩
    have hd0:t ≤ d ∧ d ≤ 65535:=by omega
    rw [← hd]
    refine an.bind (Al hF hb (q7 (by decide) (x:=d) (by omega)) (by omega) (by simp)) ?_
    rintro p0 ⟨p0in,p0t,p0v,p0l⟩
    rw [tP] at p0v
    refine an.bind (P:=fun p=>p.1 = t ∧ cF 65536 p.2 ∧ p.2.length ≤ 9999 ∧ lv p.2 = t * lv b) (an.loop (fun (s:Int × List Int)=>t ≤ s.1 ∧ s.1 ≤ 65535 ∧ cF 65536 s.2 ∧ s.2.length ≤ 9999 ∧ lv s.2 = s.1 * lv b) (fun s=>(s.1 - t).toNat) ⟨hd0.1,hd0.2,p0in,by simp at p0l; dsimp only; omega,by rw [p0v,Int.mul_comm]⟩ (by dsimp only; omega) ?_) ?_
    ·rintro ⟨d,pt⟩ ⟨d1,d2,pin,pl,pv⟩
     dsimp only at d1 d2 pin pl pv
     dsimp only [b7]
     refine an.aB (less_y hF cin pin (by omega) pl) ?_
     rw [cv,pv]
     refine an.ite (fun h=>?_) (fun h=>?_)
     ·have h':=of_decide_eq_true h
      have hdt:t < d:=by
       rcases (by omega:d = t ∨ t < d) with e | e
       ·subst e; omega
       ·exact e
      have hbd:lv b ≤ d * lv b:=by
       have:=Int.mul_le_mul_of_nonneg_right (show 1 ≤ d by omega) (show 0 ≤ lv b by omega)
       omega
      refine an.bind (xt hF pin hb pl (by omega) (by rw [pv]; exact hbd)) ?_
      rintro e ⟨e1,e2,e3,e4⟩
      have hwd:IntKind.i64.wrap (d - 1) = d - 1:=by rw [cn]; omega
      rw [hwd]
      refine an.some (.inl ⟨_,rfl,⟨by dsimp only; omega,by dsimp only; omega,e1,by dsimp only; omega,?_⟩,by dsimp only; omega⟩)
      dsimp only
      rw [e3,pv,Int.sub_mul,Int.one_mul]
     ·have h':=of_decide_eq_false h
      have hdt:d = t:=by
       rcases (by omega:d = t ∨ t + 1 ≤ d) with e | e
       ·exact e
       ·have:=Int.mul_le_mul_of_nonneg_right e (show 0 ≤ lv b by omega)
        omega
      subst hdt
      exact an.some (.inr ⟨_,rfl,rfl,pin,pl,pv⟩)
    ·rintro ⟨d,pt⟩ ⟨rfl,pin,pl,pv⟩
     dsimp only at pin pl pv
     dsimp only [b7]
     refine an.idx (by omega) (by omega) (an.bind (xt hF cin pin (by omega) pl (by rw [cv,pv]; exact htB)) ?_)
     rintro e ⟨e1,e2,e3,e4⟩
     exact an.some ⟨rfl,e1,e2,by rw [e3,cv,pv]⟩
   ·rintro ⟨q1,r1⟩ ⟨rfl,r1in,r1t,r1v⟩
    dsimp only at r1in r1t r1v
    dsimp only [b7]
    refine an.some (.inl ⟨_,rfl,⟨by dsimp only; rw [cn]; omega,⟨set_inl (by omega) qin ⟨ht0,ht1⟩,by simp [ql]⟩,⟨r1in,r1t⟩,?_,?_,fun i hi=>?_⟩,hk'⟩)
    ·dsimp only
     have ea:∀ (f:Nat → Int),ds 65536 (fun i=>f (a.length - (k + 1) + i)) (k + 1) = f (a.length - 1 - k) + 65536 * ds 65536 (fun i=>f (a.length - k + i)) k:=fun f=>by
      rw [kb]
      have e1:a.length - (k + 1) + 0 = a.length - 1 - k:=by omega
      have e2:∀ i,a.length - (k + 1) + (i + 1) = a.length - k + i:=fun i=>by omega
      simp only [e1,e2]
     rw [ea (dg a),ea (dg (q.set (a.length - 1 - k) t)),r1v,hR]
     have e3:dg (q.set (a.length - 1 - k) t) (a.length - 1 - k) = t:=by rw [iK (by omega),if_pos rfl]
     have e4:ds 65536 (fun i=>dg (q.set (a.length - 1 - k) t) (a.length - k + i)) k = ds 65536 (fun i=>dg q (a.length - k + i)) k:=dn fun i _=>by rw [iK (by omega),if_neg (by omega)]
     rw [e3,e4,hs]
     grind
    ·dsimp only
     rw [r1v,Int.add_mul,Int.one_mul] at *
     omega
    ·dsimp only
     rw [iK (by omega),if_neg (by omega)]
     exact qz i (by omega)
  ·have hk':k = a.length:=by have:=of_decide_eq_false h; omega
   subst hk'
   refine an.some (.inr ⟨_,rfl,⟨qin,ql⟩,⟨rin,rt,hrl⟩,?_,hlt⟩)
   have e1:∀ i,a.length - a.length + i = i:=fun i=>by omega
   simp only [e1] at hs
   have e2:ds 65536 (dg q) a.length = lv q:=by unfold lv; rw [ql]
   dsimp only
   rw [← e2]
   exact hs
 ·rintro ⟨q,r⟩ ⟨⟨qin,ql⟩,⟨rin,rt,rl⟩,hs,hlt⟩
  dsimp only at qin ql rin rt rl hs hlt
  dsimp only [b7]
  refine an.bind (qt (by omega) (by omega) qin) ?_
  rintro c ⟨cin,ct,cv,cl⟩
  exact an.some ⟨⟨cin,ct,by dsimp only; omega⟩,⟨rin,rt,rl⟩,by dsimp only; rw [cv]; exact hs,hlt⟩
end Go.Proofs.YtcbbilehdaaffaaGreatDoor
namespace Go.Sk
set_option linter.unusedSimpArgs false
set_option linter.unusedVariables false
def fq (a b:Int):Int:=if decide (a < 0) != decide (b < 0) then -(aJ a / aJ b + if aJ a % aJ b = 0 then 0 else 1) else aJ a / aJ b
def fr (a b:Int):Int :=
 let r:=aJ a % aJ b
 let r':=if (decide (a < 0) != decide (b < 0)) && !decide (r = 0) then aJ b - r else r
 if b < 0 then -r' else r'
def uR (a b:Int):Option Int:=if b = 0 then none else some (fq a b)
def remO (a b:Int):Option Int:=if b = 0 then none else some (fr a b)
theorem kf {b:Int} (h:b ≠ 0):0 < aJ b:=by unfold aJ; split <;> omega
theorem dq (b:Int):0 ≤ aJ b:=by unfold aJ; split <;> omega
theorem fq_fr {a b:Int} (h:b ≠ 0):a = b * fq a b + fr a b:=by
 have hp:=kf h
 have hd:=Int.mul_ediv_add_emod (aJ a) (aJ b)
 have h0:=Int.emod_nonneg (aJ a) (show aJ b ≠ 0 by omega)
 unfold fq fr
 dsimp only
 generalize aJ a / aJ b = q at *
 generalize aJ a % aJ b = r at *
 by_cases ha:a < 0
 ·have ea:aJ a = -a:=if_pos ha
  by_cases hb:b < 0
  ·have eb:aJ b = -b:=if_pos hb
   simp only [ha,hb,decide_true,bne_self_eq_false,Bool.false_eq_true,if_false,Bool.false_and,if_true]
   rw [ea,eb] at hd
   grind
  ·have eb:aJ b = b:=if_neg hb
   have hx:(true != false) = true:=rfl
   simp only [ha,hb,decide_true,decide_false,hx,if_true,Bool.true_and,if_false]
   rw [ea,eb] at hd
   by_cases hr:r = 0
   ·subst hr; simp; grind
   ·simp [hr]; grind
 ·have ea:aJ a = a:=if_neg ha
  by_cases hb:b < 0
  ·have eb:aJ b = -b:=if_pos hb
   have hx:(false != true) = true:=rfl
   simp only [ha,hb,decide_true,decide_false,hx,if_true,Bool.true_and]
   rw [ea,eb] at hd
   by_cases hr:r = 0
   ·subst hr; simp; grind
   ·simp [hr]; grind
  ·have eb:aJ b = b:=if_neg hb
   simp only [ha,hb,decide_false,bne_self_eq_false,Bool.false_eq_true,if_false,Bool.false_and]
   rw [ea,eb] at hd
   omega
theorem xI {a b:Int} (h:b ≠ 0):aJ (fr a b) < aJ b ∧ (fr a b = 0 ∨ (decide (fr a b < 0) = decide (b < 0))):=by
 have hp:=kf h
 have h0:=Int.emod_nonneg (aJ a) (show aJ b ≠ 0 by omega)
 have h1:=Int.emod_lt_of_pos (aJ a) hp
 unfold fr
 dsimp only
 generalize aJ a % aJ b = r at *
 have h2:∀ r',0 ≤ r' → r' < aJ b → aJ (if b < 0 then -r' else r') < aJ b ∧ ((if b < 0 then -r' else r') = 0 ∨ decide ((if b < 0 then -r' else r') < 0) = decide (b < 0)):=fun r' g0 g1=>by
  by_cases hb:b < 0
  ·simp only [hb,if_true]
   refine ⟨by unfold aJ at *; split <;> omega,?_⟩
   rcases (by omega:r' = 0 ∨ 0 < r') with e | e
   ·left; omega
   ·right; rw [decide_eq_decide]; simp; omega
  ·simp only [hb,if_false]
   refine ⟨by unfold aJ at *; split <;> omega,?_⟩
   right; rw [decide_eq_decide]; simp; omega
 refine h2 _ ?_ ?_
 ·split <;> omega
 ·split
  ·next hc=>
   simp only [Bool.and_eq_true,Bool.not_eq_true',decide_eq_false_iff_not] at hc
   omega
  ·omega
theorem BZ {a b q r:Int} (h:b ≠ 0) (e:a = b * q + r) (h1:aJ r < aJ b) (h2:r = 0 ∨ decide (r < 0) = decide (b < 0)):q = fq a b ∧ r = fr a b:=by
 have e2:=fq_fr (a:=a) h
 obtain ⟨g1,g2⟩:=xI (a:=a) h
 generalize fq a b = Q at *
 generalize fr a b = S at *
 have e3:b * (q - Q) = S - r:=by rw [Int.mul_sub]; omega
 have h3:aJ (S - r) < aJ b:=by
  rw [decide_eq_decide] at h2 g2
  unfold aJ at *
  split at h1 <;> split at g1 <;> split <;> split at h1 <;> omega
 have h4:q = Q:=by
  rw [← e3,oS] at h3
  have hb:=kf h
  rcases (by have:=dq (q - Q); omega:aJ (q - Q) = 0 ∨ 1 ≤ aJ (q - Q)) with g | g
  ·unfold aJ at g; split at g <;> omega
  ·have:=Int.mul_le_mul_of_nonneg_left g (Int.le_of_lt hb)
   omega
 refine ⟨h4,?_⟩
 rw [h4,Int.sub_self,Int.mul_zero] at e3
 omega
theorem uG {A B q r:Int} (h:A = q * B + r) (h0:0 ≤ r) (h1:r < B):A / B = q ∧ A % B = r:=by
 have hB:B ≠ 0:=by omega
 have e:A = r + B * q:=by rw [h,Int.mul_comm]; omega
 constructor
 ·rw [e,Int.add_mul_ediv_left _ _ hB,Int.ediv_eq_zero_of_lt h0 h1,Int.zero_add]
 ·rw [e,Int.add_mul_emod_self_left,Int.emod_eq_of_lt h0 h1]
theorem pU {b:Int}:aJ b = 0 ↔ b = 0:=by unfold aJ; split <;> omega
set_option linter.unusedVariables false
theorem DW {p q:Int} (hq:q ≠ 0) (hp:aJ p < 4611686018427387904):-4611686018427387905 < fq p q ∧ fq p q < 4611686018427387904:=by
 have hq0:0 ≤ aJ p / aJ q:=Int.ediv_nonneg (dq p) (dq q)
 have hq1:aJ p / aJ q ≤ aJ p:=Int.ediv_le_self _ (dq p)
 unfold fq
 split
 ·split <;> omega
 ·omega
theorem tq (n:Int) {m:Int} (hm:m ≠ 0):Int.tdiv n m = (if decide (n < 0) != decide (m < 0) then -(aJ n / aJ m) else aJ n / aJ m) ∧ Int.tmod n m = (if n < 0 then -(aJ n % aJ m) else aJ n % aJ m):=by
  have e:Int.tmod n m = if n < 0 then -(aJ n % aJ m) else aJ n % aJ m:=by
   by_cases h1:n < 0
   ·have e1:aJ n = -n:=if_pos h1
    have e2:n = -(-n):=by omega
    rw [if_pos h1,e1]
    conv=>lhs; rw [e2]
    rw [Int.neg_tmod,eO (by omega)]
    congr 1
    by_cases h2:m < 0
    ·rw [show aJ m = -m from if_pos h2,Int.emod_neg]
    ·rw [show aJ m = m from if_neg h2]
   ·have e1:aJ n = n:=if_neg h1
    rw [if_neg h1,e1,eO (by omega)]
    by_cases h2:m < 0
    ·rw [show aJ m = -m from if_pos h2,Int.emod_neg]
    ·rw [show aJ m = m from if_neg h2]
  refine ⟨?_,e⟩
  by_cases h1:n < 0
  ·have e1:aJ n = -n:=if_pos h1
   have e2:n = -(-n):=by omega
   by_cases h2:m < 0
   ·rw [show aJ m = -m from if_pos h2,e1]
    simp only [h1,h2,decide_true,bne_self_eq_false,Bool.false_eq_true,if_false]
    conv=>lhs; rw [e2]
    rw [Int.neg_tdiv,← Int.tdiv_neg,ep (by omega)]
   ·rw [show aJ m = m from if_neg h2,e1]
    have hx:(true != false) = true:=rfl
    simp only [h1,h2,decide_true,decide_false,hx,if_true]
    conv=>lhs; rw [e2]
    rw [Int.neg_tdiv,ep (by omega)]
  ·have e1:aJ n = n:=if_neg h1
   by_cases h2:m < 0
   ·rw [show aJ m = -m from if_pos h2,e1]
    have hx:(false != true) = true:=rfl
    simp only [h1,h2,decide_true,decide_false,hx,if_true]
    rw [← Int.neg_neg m,Int.tdiv_neg,ep (by omega),Int.neg_neg]
   ·rw [show aJ m = m from if_neg h2,e1]
    simp only [h1,h2,decide_false,bne_self_eq_false,Bool.false_eq_true,if_false]
    rw [ep (by omega)]
theorem fq_abs {a b:Int} (h:b ≠ 0):aJ (fq a b) ≤ aJ a:=by
 have hp:=kf h
 have hd:=Int.mul_ediv_add_emod (aJ a) (aJ b)
 have h0:=Int.emod_nonneg (aJ a) (show aJ b ≠ 0 by omega)
 have h1:=Int.emod_lt_of_pos (aJ a) hp
 have hq0:0 ≤ aJ a / aJ b:=Int.ediv_nonneg (dq a) (by omega)
 have hq1:aJ a / aJ b ≤ aJ a:=Int.ediv_le_self _ (dq a)
 have ha:=dq a
 unfold fq
 generalize aJ a / aJ b = q at *
 generalize aJ a % aJ b = r at *
 by_cases hr:r = 0
 ·rw [if_pos hr]
  split <;> unfold aJ at * <;> split <;> omega
 ·rw [if_neg hr]
  have:=Int.mul_le_mul_of_nonneg_right (show 2 ≤ aJ b by omega) hq0
  split
  ·have e:aJ (-(q + 1)) = q + 1:=by unfold aJ; rw [if_pos (by omega)]; omega
   omega
  ·have e:aJ q = q:=by unfold aJ; rw [if_neg (by omega)]
   omega
end Go.Sk
namespace Go.Sk
set_option linter.unusedSimpArgs false
set_option linter.unusedVariables false
end Go.Sk
namespace Go.Proofs.YtcbbilehdaaffaaGreatDoor
open Go Go.Sk
set_option linter.unusedSimpArgs false
set_option linter.unusedVariables false
theorem rMul_y {F:Nat} (hF:100000 < F) {x y:bt} (hx:kC x) (hy:kC y):lA F x y = some (two (fun a b=>some (a * b)) x y):=by
 refine an.eq ?_
 unfold lA
 refine an.aB (pr hF hx) ?_
 generalize hp:wd (iv x) = wx
 obtain ⟨p,p'⟩:=wx
 refine an.aB (pr hF hy) ?_
 generalize hq:wd (iv y) = wy
 obtain ⟨q,q'⟩:=wy
 dsimp only [b7]
 have hg:∀ (g:Bool) (n:Int),bA g (mP F n) = some (g && (decide (n < 2147483648) && decide (-2147483648 < n))):=fun g n=>by cases g <;> rfl
 refine an.aB (hg _ _) (an.aB (hg _ _) ?_)
 refine an.ite (fun h=>?_) (fun h=>?_)
 ·simp only [Bool.and_eq_true,decide_eq_true_eq] at h
  obtain ⟨⟨⟨rfl,rfl⟩,_,p2,p1⟩,_,q2,q1⟩:=h
  obtain ⟨ha,la⟩:=pu hp
  obtain ⟨hb,lb⟩:=pu hq
  have hm:-4611686018427387904 < p * q ∧ p * q < 4611686018427387904:=by
   have h1:aJ p < 2147483648:=by unfold aJ; split <;> omega
   have h2:aJ q < 2147483648:=by unfold aJ; split <;> omega
   have h3:=k6 ⟨dq p,h1⟩ ⟨dq q,h2⟩
   rw [← oS] at h3
   unfold aJ at h3
   split at h3 <;> omega
  rw [dm (by omega) (by omega)]
  refine an.aB (z6 hF (by omega) (by omega)) (an.some ?_)
  simp only [two,ha,hb,uO]
 ·clear h hp hq
  unfold two
  refine an.aB (gU hF hx) ?_
  cases ha:iv x with
  | none=>simp only [cR ha,Bool.not_false,Bool.not_true]; exact an.g0 rfl (an.fU (by simp) (an.aB (nc F) (an.some rfl)))
  | some a=>
   obtain ⟨ga,rfl,ra⟩:=cu hx ha
   refine an.g1 (by rw [ga]; rfl) (an.aB (gU hF hy) ?_)
   cases hb:iv y with
   | none=>simp only [cR hb,Bool.not_false,Bool.or_true,if_true]; exact an.aB (nc F) (an.some rfl)
   | some b=>
    obtain ⟨gb,rfl,rb⟩:=cu hy hb
    obtain ⟨wa,na⟩:=cT ra
    obtain ⟨wb,nb⟩:=cT rb
    simp only [ga,gb,Bool.not_true,Bool.or_self,Bool.false_eq_true,if_false,uO,na,nb]
    refine an.bind (p6 hF ra) ?_
    rintro c ⟨c1,c2,c3,c4⟩
    refine an.bind (p6 hF rb) ?_
    rintro d ⟨d1,d2,d3,d4⟩
    refine an.bind (Al hF c1 d1 (by omega) (by omega)) ?_
    rintro e ⟨e1,_,e2,e3⟩
    refine an.aB (xe hF _ (by omega) e1) (an.some ?_)
    rw [e2,c3,d3]
    congr 1
    cases hs:(decide (a < 0) != decide (b < 0)) with
    | true=>rw [if_pos rfl,Ar hs]
    | false=>rw [if_neg (by simp),xq hs]
theorem floor_y (F:Nat) {n m:Int} (hm:m ≠ 0) (hn:-4611686018427387904 < n ∧ n < 4611686018427387904):lH F n m = some (fq n m):=by
 refine an.eq ?_
 unfold lH
 have hb:=kf hm
 have hd:=Int.mul_ediv_add_emod (aJ n) (aJ m)
 have h0:=Int.emod_nonneg (aJ n) (show aJ m ≠ 0 by omega)
 have hq0:0 ≤ aJ n / aJ m:=Int.ediv_nonneg (dq n) (by omega)
 have hq1:aJ n / aJ m ≤ aJ n:=Int.ediv_le_self _ (dq n)
 have hn2:aJ n < 4611686018427387904:=by unfold aJ; split <;> omega
 obtain ⟨k1,k3⟩:=tq n hm
 have k2:Int.tmod n m = 0 ↔ aJ n % aJ m = 0:=by rw [k3]; split <;> omega
 refine an.quo hm ?_
 have hw:IntKind.i64.wrap (Int.tdiv n m) = Int.tdiv n m:=by rw [k1]; split <;> rw [dm (by omega) (by omega)]
 rw [hw]
 refine an.bind (P:=(· = fq n m)) (an.rem hm (an.ln ?_)) (fun q hq=>an.some hq)
 unfold fq
 rw [k1]
 refine an.ite (fun h=>?_) (fun h=>?_)
 ·simp only [Bool.and_eq_true,decide_eq_true_eq] at h
  have h1:¬ aJ n % aJ m = 0:=fun e=>h.1 (k2.2 e)
  refine an.some ?_
  rw [h.2,if_pos rfl,if_pos rfl,if_neg h1,dm (by omega) (by omega)]
  omega
 ·refine an.some ?_
  cases hs:(decide (n < 0) != decide (m < 0)) with
  | false=>rfl
  | true=>
   have h1:aJ n % aJ m = 0:=by
    rw [hs] at h
    rw [← k2]
    simpa using h
   rw [if_pos rfl,if_pos rfl,if_pos h1]
   omega
end Go.Proofs.YtcbbilehdaaffaaGreatDoor
namespace Go.Sk
end Go.Sk
namespace Go.Proofs.YtcbbilehdaaffaaGreatDoor
open Go Go.Sk
set_option linter.unusedSimpArgs false
set_option linter.unusedVariables false
theorem rQuo_y {F:Nat} (hF:100000 < F) {x y:bt} (hx:kC x) (hy:kC y):lz F x y = some (two uR x y):=by
 refine an.eq ?_
 unfold lz
 refine an.aB (pr hF hx) ?_
 generalize hp:wd (iv x) = wx
 obtain ⟨p,p'⟩:=wx
 refine an.aB (pr hF hy) ?_
 generalize hq:wd (iv y) = wy
 obtain ⟨q,q'⟩:=wy
 dsimp only [b7]
 refine an.ite (fun h=>?_) (fun h=>?_)
 ·simp only [Bool.and_eq_true,decide_eq_true_eq] at h
  obtain ⟨⟨rfl,rfl⟩,hq0⟩:=h
  obtain ⟨ha,la⟩:=pu hp
  obtain ⟨hb,lb⟩:=pu hq
  have hs:=DW hq0 la
  refine an.aB (floor_y F hq0 (by unfold aJ at la; split at la <;> omega)) (an.aB (z6 hF (by omega) (by omega)) (an.some ?_))
  simp only [two,ha,hb,uR,hq0,if_false,uO]
 ·clear h hp hq
  unfold two
  refine an.aB (gU hF hx) ?_
  cases ha:iv x with
  | none=>simp only [cR ha,Bool.not_false,Bool.not_true]; exact an.g0 rfl (an.g0 (by simp) (an.fU (by simp) (an.aB (nc F) (an.some rfl))))
  | some a=>
   obtain ⟨ga,rfl,ra⟩:=cu hx ha
   refine an.g1 (by rw [ga]; rfl) (an.aB (gU hF hy) ?_)
   cases hb:iv y with
   | none=>simp only [cR hb,Bool.not_false,Bool.or_true]; exact an.g0 rfl (an.fU (by simp) (an.aB (nc F) (an.some rfl)))
   | some b=>
    obtain ⟨gb,rfl,rb⟩:=cu hy hb
    obtain ⟨wa,na⟩:=cT ra
    obtain ⟨wb,nb⟩:=cT rb
    simp only [ga,gb,Bool.not_true,Bool.or_self,Bool.false_or,Bool.not_false,na,nb]
    refine an.g1 rfl (an.bind (p6 hF rb) ?_)
    rintro d0 ⟨d01,d02,d03,d04⟩
    have hd0:=nv d01 d02
    rw [d03] at hd0
    refine an.ite (fun h=>?_) (fun h=>?_)
    ·have h':=of_decide_eq_true h
     have hz:b = 0:=by
      rw [← pU]
      by_cases e:aJ b = 0
      ·exact e
      ·have:=hd0.2 e; omega
     refine an.aB (nc F) (an.some ?_)
     simp only [uR,hz,if_true,uO]
    ·have h':=of_decide_eq_false h
     have hz:b ≠ 0:=fun e=>hd0.1 (by omega) (pU.2 e)
     refine an.bind (p6 hF ra) ?_
     rintro c ⟨c1,c2,c3,c4⟩
     refine an.bind (p6 hF rb) ?_
     rintro d ⟨d1,d2,d3,d4⟩
     have hd:=nv d1 d2
     rw [d3] at hd
     refine an.bind (xO hF c1 d1 d2 (hd.2 fun e=>hz (pU.1 e)) (by omega) (by omega)) ?_
     rintro ⟨q,r⟩ ⟨⟨q1,q2,q3⟩,⟨r1,r2,r3⟩,e1,e2⟩
     dsimp only at q1 q2 q3 r1 r2 r3 e1 e2
     dsimp only [b7]
     rw [c3,d3] at e1
     rw [d3] at e2
     obtain ⟨m1,m2⟩:=uG e1 (fC r1) e2
     have hr:=nv r1 r2
     have hrl:(decide (0 < (r.length:Int))) = !decide (aJ a % aJ b = 0):=by
      have e0:(0 < (r.length:Int)) ↔ 0 < r.length:=by omega
      rw [m2,Bool.eq_iff_iff]
      simp only [decide_eq_true_eq,Bool.not_eq_true',decide_eq_false_iff_not]
      rw [e0]
      exact hr
     rw [hrl]
     refine an.bind (P:=fun z=>cF 65536 z ∧ z.length ≤ 9999 ∧ lv z = aJ a / aJ b + (if ((decide (a < 0) != decide (b < 0)) && !decide (aJ a % aJ b = 0)) = true then 1 else 0)) (an.ite (fun h=>?_) (fun h=>?_)) ?_
     ·refine an.bind (As hF q1 (q7 (by decide) (x:=1) (by decide)) (by omega) (by simp)) ?_
      rintro e ⟨z1,_,z2,z3⟩
      refine an.some ⟨z1,by simp at z3; omega,?_⟩
      rw [z2,tP,m1,if_pos h]
     ·refine an.some ⟨q1,by omega,?_⟩
      rw [h,m1]; simp
     ·rintro z ⟨z1,z2,z3⟩
      refine an.aB (xe hF _ z2 z1) (an.some ?_)
      rw [z3]
      simp only [uR,hz,if_false,uO,fq]
      congr 1
      cases (decide (a < 0) != decide (b < 0)) with
      | false=>simp
      | true=>by_cases e:aJ a % aJ b = 0 <;> simp [e]
end Go.Proofs.YtcbbilehdaaffaaGreatDoor
namespace Go.Sk
set_option linter.unusedSimpArgs false
set_option linter.unusedVariables false
theorem ze {b:Int} {f:Nat → Int} {n k:Nat} (h:∀ i,n ≤ i → f i = 0) (hk:n ≤ k):ds b f k = ds b f n:=lm hk fun i h1 _=>h i h1
theorem ka (n:Nat):(0:Int) < 2 ^ n:=Int.pow_pos (by decide)
theorem wh {n:Nat} (h:n ≤ 31):(2:Int) ^ n ≤ 2147483648:=by
 have:=th h
 have e:(2:Int) ^ 31 = 2147483648:=by decide
 omega
theorem shl_val {x:Int} {n:Nat} (hn:n ≤ 31) (hx:0 ≤ x ∧ x < 4294967296):w8 .u64 x (n:Int) = some (x * 2 ^ n):=by
 unfold w8
 rw [if_neg (by omega)]
 have e4:min ((n:Int)).toNat IntKind.u64.bits = n:=by
  rw [Int.toNat_natCast]
  show min n 64 = _
  omega
 have hp:=ka n
 have hq:=wh hn
 have h1:=Int.mul_nonneg hx.1 (Int.le_of_lt hp)
 have h2:x * 2 ^ n ≤ 4294967295 * 2147483648:=Int.mul_le_mul (by omega) hq (Int.le_of_lt hp) (by omega)
 rw [e4,gq]
 congr 1
 omega
theorem mid_of {X:Int} {n:Nat} (hn:n ≤ 32):X % 18446744073709551616 / 2 ^ n % 4294967296 = X / 2 ^ n % 4294967296:=by
 have hp:=ka n
 have e:(18446744073709551616:Int) = 2 ^ n * (2 ^ (32 - n) * 4294967296):=by
  have:(18446744073709551616:Int) = 2 ^ (n + (32 - n) + 32):=by rw [show n + (32 - n) + 32 = 64 by omega]; decide
  rw [this,Int.pow_add,Int.pow_add,Int.mul_assoc]; rfl
 have e2:X = X % 18446744073709551616 + 2 ^ n * ((2 ^ (32 - n) * 4294967296) * (X / 18446744073709551616)):=by
  rw [← Int.mul_assoc,← e]; exact (Int.emod_add_mul_ediv X 18446744073709551616).symm
 have e3:X / 2 ^ n = X % 18446744073709551616 / 2 ^ n + 2 ^ (32 - n) * 4294967296 * (X / 18446744073709551616):=by
  rw [← Int.add_mul_ediv_left (X % 18446744073709551616) _ (by omega:(2:Int) ^ n ≠ 0),← e2]
 have e4:2 ^ (32 - n) * 4294967296 * (X / 18446744073709551616) = 4294967296 * (2 ^ (32 - n) * (X / 18446744073709551616)):=by grind
 rw [e3,e4,Int.add_mul_emod_self_left]
theorem av_pair {w:aP} (h:cF 4294967296 w.l) (i:Nat):dg w.l i + dg w.l (i + 1) * 4294967296 = av w / 4294967296 ^ i % 18446744073709551616:=by
 have h1:av w = ds 4294967296 (dg w.l) (16 + (i + 2)):=(ze (fun j hj=>oo (by rw [aP.bS]; exact hj)) (by omega)).symm
 have h2:16 + (i + 2) = i + (2 + 16):=by omega
 rw [h1,h2,Co (by decide) h,fJ]
 have e:ds 4294967296 (fun j=>dg w.l (i + j)) 2 = dg w.l i + dg w.l (i + 1) * 4294967296:=by simp [ds]
 have p:(4294967296:Int) ^ 2 = 18446744073709551616:=by decide
 have a:=h i
 have b:=h (i + 1)
 rw [e,p,Int.add_mul_emod_self_left]
 omega
theorem toA_ext {w:aP} {z:Int} (h:∀ i,i < 16 → dg w.l i = nd 4294967296 z i):w = rX z:=by
 have hin:cF 4294967296 w.l:=fun i=>by
  by_cases hi:i < 16
  ·rw [h i hi]; exact xy _ _ (by decide) i
  ·rw [oo (by rw [aP.bS]; omega)]; decide
 refine Ba hin ?_
 unfold av
 rw [dn h,Cn (by decide)]
 rfl
end Go.Sk
namespace Go.Proofs.YtcbbilehdaaffaaGreatDoor
open Go Go.Sk
set_option linter.unusedSimpArgs false
set_option linter.unusedVariables false
theorem up_y {F:Nat} (hF:100 < F) {w:aP} (hw:cF 4294967296 w.l) {n:Nat} (hn:n ≤ 31):an (rZ F w (n:Int)) fun p=>cF 4294967296 p.1.l ∧ 0 ≤ p.2 ∧ p.2 < 2 ^ n ∧ av p.1 + p.2 * MM = av w * 2 ^ n:=by
 unfold rZ
 have hp:=ka n
 have hq:=wh hn
 refine an.bind (P:=fun p=>cF 4294967296 p.1.l ∧ 0 ≤ p.2 ∧ p.2 < 2 ^ n ∧ av p.1 + p.2 * MM = av w * 2 ^ n) (an.rounds 16 (fun (k:Nat) (s:aP × Int × Int)=>s.2.2 = (k:Int) ∧ cF 4294967296 s.1.l ∧ 0 ≤ s.2.1 ∧ s.2.1 < 2 ^ n ∧ ds 4294967296 (dg s.1.l) k + s.2.1 * 4294967296 ^ k = ds 4294967296 (dg w.l) k * 2 ^ n) (by omega) ⟨rfl,js,Int.le_refl _,hp,by simp [ds]⟩ ?_) ?_
 ·rintro k ⟨o,c,kx⟩ hk ⟨rfl,oin,c0,c1,os⟩
  dsimp only at oin c0 c1 os
  dsimp only [kA]
  refine an.ite (fun h=>?_) (fun h=>?_)
  ·have hk':k < 16:=by have:=of_decide_eq_true h; omega
   have hd:=hw k
   refine an.idx (by omega) (by rw [aP.bS]; omega) ?_
   simp only [dw,Int.toNat_natCast]
   have hu:IntKind.u64.wrap (dg w.l k) = dg w.l k:=by rw [gq]; omega
   rw [hu]
   refine an.aB (shl_val hn hd) ?_
   have hv:dg w.l k * 2 ^ n ≤ 4294967295 * 2 ^ n:=Int.mul_le_mul_of_nonneg_right (by omega) (by omega)
   have hv0:0 ≤ dg w.l k * 2 ^ n:=Int.mul_nonneg hd.1 (by omega)
   have hior:lU .u64 c (dg w.l k * 2 ^ n) = dg w.l k * 2 ^ n + c:=by
    rw [DP]
    exact nw n hv0 (by omega) (Int.mul_emod_left _ _) c0 c1 (by omega)
   rw [hior,kF]
   refine an.ln (an.idx (by omega) (by rw [aP.bS]; omega) (an.some (.inl ⟨_,rfl,⟨by dsimp only; rw [cn]; omega,jb oin (by omega) (by omega) (by omega),by dsimp only; omega,by dsimp only; omega,?_⟩,hk'⟩)))
   dsimp only
   rw [aP.qw hk',c6,Int.add_mul,← os,Int.pow_succ]
   have e2:dg w.l k * 2 ^ n + c = (dg w.l k * 2 ^ n + c) % 4294967296 + (dg w.l k * 2 ^ n + c) / 4294967296 * 4294967296:=by omega
   generalize (dg w.l k * 2 ^ n + c) % 4294967296 = u at *
   generalize (dg w.l k * 2 ^ n + c) / 4294967296 = v at *
   have e3:dg w.l k * 2 ^ n = u + v * 4294967296 - c:=by omega
   have e4:dg w.l k * 4294967296 ^ k * 2 ^ n = (dg w.l k * 2 ^ n) * 4294967296 ^ k:=by grind
   rw [e4,e3]
   grind
  ·have hk':k = 16:=by have:=of_decide_eq_false h; omega
   subst hk'
   exact an.some (.inr ⟨_,rfl,oin,c0,c1,os⟩)
 ·rintro ⟨o,c⟩ ⟨oin,c0,c1,os⟩
  dsimp only at oin c0 c1 os
  dsimp only [b7]
  have hu:IntKind.u32.wrap c = c:=by rw [kF]; omega
  rw [hu]
  exact an.some ⟨oin,c0,c1,os⟩
theorem shr_val {x:Int} {n:Nat} (hn:n ≤ 31):Bs .u64 x (n:Int) = some (x / 2 ^ n):=by
 unfold Bs
 rw [if_neg (by omega)]
 have e4:min ((n:Int)).toNat IntKind.u64.bits = n:=by
  rw [Int.toNat_natCast]
  show min n 64 = _
  omega
 rw [e4]
theorem p32':(2:Int) ^ 32 = 4294967296:=by decide
theorem down_y {F:Nat} (hF:100 < F) {w:aP} (hw:cF 4294967296 w.l) {n:Nat} (hn:n ≤ 31):mG F w (n:Int) = some (rX (av w / 2 ^ n)):=by
 refine an.eq ?_
 unfold mG
 have hp:=ka n
 refine an.bind (P:=fun o=>o = rX (av w / 2 ^ n)) (an.rounds 16 (fun (k:Nat) (s:aP × Int)=>s.2 = (k:Int) ∧ ∀ i,i < k → dg s.1.l i = nd 4294967296 (av w / 2 ^ n) i) (by omega) ⟨rfl,fun i h=>absurd h (Nat.not_lt_zero i)⟩ ?_) (fun o ho=>an.some ho)
 rintro k ⟨o,kx⟩ hk ⟨rfl,os⟩
 dsimp only at os
 dsimp only [b7]
 refine an.ite (fun h=>?_) (fun h=>?_)
 ·have hk':k < 16:=by have:=of_decide_eq_true h; omega
  have hd:=hw k
  have hd1:=hw (k + 1)
  have hw1:IntKind.i64.wrap ((k:Int) + 1) = ((k + 1:Nat):Int):=by rw [cn]; omega
  rw [hw1]
  refine an.bind (P:=fun o'=>o' = o.set (k:Int) (nd 4294967296 (av w / 2 ^ n) k)) ?_ ?_
  ·refine an.bind (P:=fun z=>z = dg w.l (k + 1)) ?_ ?_
   ·refine an.ite (fun h=>?_) (fun h=>?_)
    ·have h':=of_decide_eq_true h
     refine an.idx (by omega) (by rw [aP.bS]; omega) (an.some ?_)
     simp only [dw,Int.toNat_natCast]
     rw [gq]; omega
    ·have h':=of_decide_eq_false h
     exact an.some (oo (by rw [aP.bS]; omega)).symm
   ·rintro z rfl
    refine an.jZ (dg w.l (k + 1) * 4294967296) (by rw [gq]; omega) (an.idx (by omega) (by rw [aP.bS]; omega) ?_)
    simp only [dw,Int.toNat_natCast]
    have hu:IntKind.u64.wrap (dg w.l k) = dg w.l k:=by rw [gq]; omega
    have hior:lU .u64 (dg w.l (k + 1) * 4294967296) (dg w.l k) = dg w.l (k + 1) * 4294967296 + dg w.l k:=nw 32 (by omega) (by omega) (by rw [p32']; omega) hd.1 (by rw [p32']; omega) (by omega)
    rw [hu,hior]
    refine an.aB (shr_val hn) (an.idx (by omega) (by rw [aP.bS]; omega) (an.some ?_))
    congr 1
    have e:dg w.l (k + 1) * 4294967296 + dg w.l k = av w / 4294967296 ^ k % 18446744073709551616:=by rw [← av_pair hw]; omega
    rw [e,kF,mid_of (by omega)]
    unfold nd
    rw [Int.ediv_ediv_of_nonneg (Int.le_of_lt (Int.pow_pos (by decide))),Int.ediv_ediv_of_nonneg (by omega),Int.mul_comm]
  ·rintro o' rfl
   refine an.some (.inl ⟨_,rfl,⟨rfl,fun i hi=>?_⟩,hk'⟩)
   dsimp only
   rw [eV (by omega) (by omega),Int.toNat_natCast]
   split
   ·next e=>rw [e]
   ·exact os i (by omega)
 ·have hk':k = 16:=by have:=of_decide_eq_false h; omega
  subst hk'
  exact an.some (.inr ⟨_,rfl,toA_ext os⟩)
theorem Ao {F:Nat} (hF:100 < F) {a:aP} (ha:cF 4294967296 a.l) {b:Int} (hb:0 < b ∧ b < 4294967296):kR F a b = some (rX (av a / b),av a % b):=by
 refine an.eq ?_
 unfold kR
 have hub:IntKind.u64.wrap b = b:=by rw [gq]; omega
 rw [hub]
 refine an.bind (P:=fun p=>p = (rX (av a / b),av a % b)) (an.rounds 16 (fun (k:Nat) (s:aP × Int × Int)=>s.2.2 = 15 - (k:Int) ∧ cF 4294967296 s.1.l ∧ 0 ≤ s.2.1 ∧ s.2.1 < b ∧ ds 4294967296 (fun i=>dg a.l (16 - k + i)) k = ds 4294967296 (fun i=>dg s.1.l (16 - k + i)) k * b + s.2.1) (by omega) ⟨by decide,js,Int.le_refl _,hb.1,by simp [ds]⟩ ?_) ?_
 ·rintro k ⟨q,r,kx⟩ hk ⟨rfl,qin,r0,r1,hs⟩
  dsimp only at qin r0 r1 hs
  dsimp only [kA]
  refine an.ite (fun h=>?_) (fun h=>?_)
  ·have hk':k < 16:=by have:=of_decide_eq_true h; omega
   have et:(15 - (k:Int)).toNat = 15 - k:=by omega
   have hd:=ha (15 - k)
   refine an.idx (by omega) (by rw [aP.bS]; omega) ?_
   simp only [dw,et]
   have hu:IntKind.u64.wrap (dg a.l (15 - k)) = dg a.l (15 - k):=by rw [gq]; omega
   have hr:IntKind.u64.wrap (r * 4294967296) = r * 4294967296:=by rw [gq]; omega
   have hior:lU .u64 (r * 4294967296) (dg a.l (15 - k)) = r * 4294967296 + dg a.l (15 - k):=nw 32 (by omega) (by omega) (by rw [zW]; omega) hd.1 (by rw [zW]; omega) (by omega)
   rw [hu,hr,hior]
   obtain ⟨v,hv⟩:∃ v,v = r * 4294967296 + dg a.l (15 - k):=⟨_,rfl⟩
   rw [← hv]
   have hv0:0 ≤ v:=by omega
   have hd1:=Int.mul_ediv_add_emod v b
   have hm0:=Int.emod_nonneg v (show b ≠ 0 by omega)
   have hm1:=Int.emod_lt_of_pos v hb.1
   have hq0:0 ≤ v / b:=Int.ediv_nonneg hv0 (by omega)
   have hq1:v / b < 4294967296:=by rw [Int.ediv_lt_iff_lt_mul hb.1]; omega
   refine an.ln (an.quo (by omega) (an.idx (by omega) (by rw [aP.bS]; omega) (an.rem (by omega) (an.some (.inl ⟨_,rfl,?_,hk'⟩)))))
   rw [ep hv0,eO hv0]
   have e1:IntKind.u32.wrap (IntKind.u64.wrap (v / b)) = v / b:=by simp only [kF,gq]; omega
   rw [e1]
   have ei:(15 - (k:Int)) = ((15 - k:Nat):Int):=by omega
   dsimp only
   refine ⟨by rw [cn]; omega,by rw [ei]; exact jb qin (by omega) (by omega) (by omega),hm0,hm1,?_⟩
   have ea:∀ (f:Nat → Int),ds 4294967296 (fun i=>f (16 - (k + 1) + i)) (k + 1) = f (15 - k) + 4294967296 * ds 4294967296 (fun i=>f (16 - k + i)) k:=fun f=>by
    rw [kb]
    have e1:16 - (k + 1) + 0 = 15 - k:=by omega
    have e2:∀ i,16 - (k + 1) + (i + 1) = 16 - k + i:=fun i=>by omega
    simp only [e1,e2]
   rw [ea (dg a.l),ea (dg (q.set (15 - (k:Int)) (v / b)).l),ei]
   have e3:dg (q.set ((15 - k:Nat):Int) (v / b)).l (15 - k) = v / b:=by rw [eV (by omega) (by omega),Int.toNat_natCast,if_pos rfl]
   have e4:ds 4294967296 (fun i=>dg (q.set ((15 - k:Nat):Int) (v / b)).l (16 - k + i)) k = ds 4294967296 (fun i=>dg q.l (16 - k + i)) k:=dn fun i _=>by rw [eV (by omega) (by omega),Int.toNat_natCast,if_neg (by omega)]
   rw [e3,e4,hs]
   generalize v / b = Q at *
   generalize v % b = M at *
   grind
  ·have hk':k = 16:=by have:=of_decide_eq_false h; omega
   subst hk'
   refine an.some (.inr ⟨_,rfl,?_⟩)
   have e1:∀ i,16 - 16 + i = i:=fun i=>by omega
   simp only [e1] at hs
   have hs':av a = av q * b + r:=hs
   have hm:=Int.emod_emod_of_dvd
   have hB:b ≠ 0:=by omega
   have e:av a = r + b * av q:=by rw [hs',Int.mul_comm]; omega
   have q1:av a / b = av q:=by rw [e,Int.add_mul_ediv_left _ _ hB,Int.ediv_eq_zero_of_lt r0 r1,Int.zero_add]
   have q2:av a % b = r:=by rw [e,Int.add_mul_emod_self_left,Int.emod_eq_of_lt r0 r1]
   rw [q1,q2,ot qin]
 ·rintro ⟨q,r⟩ he
  dsimp only [b7]
  cases he
  refine an.some ?_
  have hm0:=Int.emod_nonneg (av a) (show b ≠ 0 by omega)
  have hm1:=Int.emod_lt_of_pos (av a) hb.1
  have:IntKind.u32.wrap (av a % b) = av a % b:=by rw [kF]; omega
  rw [this]
end Go.Proofs.YtcbbilehdaaffaaGreatDoor
namespace Go.Sk
set_option linter.unusedSimpArgs false
set_option linter.unusedVariables false
theorem cA.eV {w:cA} {i x:Int} (h0:0 ≤ i) (h1:i < 17) (j:Nat):dg (w.set i x).l j = if j = i.toNat then x else dg w.l j:=by
 rw [cA.iO,Go.Sk.iK (by rw [cA.bS]; omega)]
theorem cA.jb {w:cA} {i x:Int} (h:cF 4294967296 w.l) (h0:0 ≤ i) (h1:i < 17) (hx:0 ≤ x ∧ x < 4294967296):cF 4294967296 (w.set i x).l:=fun j=>by
 rw [cA.eV h0 h1]
 split
 ·exact hx
 ·exact h j
def win (l:List Int) (j n:Nat):Int:=ds 4294967296 (fun i=>dg l (j + i)) n
theorem fH (l:List Int) (j n:Nat):win l j (n + 1) = win l j n + dg l (j + n) * 4294967296 ^ n:=rfl
theorem gz {l:List Int} (h:cF 4294967296 l) (j n:Nat):0 ≤ win l j n:=dK (by decide) fun i _=>(h _).1
theorem tL {l:List Int} (h:cF 4294967296 l) (j n:Nat):win l j n < 4294967296 ^ n:=oi (by decide) fun i _=>h _
theorem vi {l m:List Int} {j n:Nat} (h:∀ i,j ≤ i → i < j + n → dg l i = dg m i):win l j n = win m j n:=dn fun i hi=>h _ (by omega) (by omega)
theorem win_div {l:List Int} (h:cF 4294967296 l) (j n k:Nat):win l j (n + k) / 4294967296 ^ n = win l (j + n) k:=by
 unfold win
 rw [Co (by decide) fun i=>h _]
 simp only [Nat.add_assoc]
theorem win_cons (l:List Int) (j n:Nat):win l j (n + 1) = dg l j + 4294967296 * win l (j + 1) n:=by
 unfold win
 rw [kb]
 have e:∀ i,j + (i + 1) = j + 1 + i:=fun i=>by omega
 have e2:ds 4294967296 (fun i=>dg l (j + (i + 1))) n = ds 4294967296 (fun i=>dg l (j + 1 + i)) n:=dn fun i _=>by rw [e]
 rw [e2]
 rfl
structure Kn (B P v1 v2 V u2 u0 R t:Int):Prop where
 P0:0 < P
 v10:2147483648 ≤ v1
 v11:v1 < B
 v20:0 ≤ v2 ∧ v2 < B
 V0:(v1 * B + v2) * P ≤ V
 V1:V < (v1 * B + v2 + 1) * P
 u00:0 ≤ u0 ∧ u0 < B
 R0:(u2 * B + u0) * P ≤ R
 R1:R < (u2 * B + u0 + 1) * P
 Rt:t * V ≤ R
 tR:R < (t + 1) * V
 t0:0 ≤ t
 t1:t < B
theorem Kn.up {B P v1 v2 V u2 u0 R t:Int} (k:Kn B P v1 v2 V u2 u0 R t):t * (v1 * B + v2) ≤ u2 * B + u0:=by
 have h1:t * ((v1 * B + v2) * P) ≤ t * V:=Int.mul_le_mul_of_nonneg_left k.V0 k.t0
 have h2:(t * (v1 * B + v2)) * P < (u2 * B + u0 + 1) * P:=by
  have e:t * ((v1 * B + v2) * P) = (t * (v1 * B + v2)) * P:=by grind
  rw [e] at h1
  have:=k.Rt
  have:=k.R1
  omega
 have:=Int.lt_of_mul_lt_mul_right h2 (Int.le_of_lt k.P0)
 omega
theorem Kn.up1 {B P v1 v2 V u2 u0 R t:Int} (k:Kn B P v1 v2 V u2 u0 R t):t * v1 ≤ u2:=by
 have h:=k.up
 have h3:0 ≤ t * v2:=Int.mul_nonneg k.t0 k.v20.1
 have hB:0 < B:=by have:=k.v20; omega
 have h4:(t * v1) * B < (u2 + 1) * B:=by
  have e:t * (v1 * B + v2) = (t * v1) * B + t * v2:=by grind
  rw [e] at h
  have:=k.u00
  have e2:(u2 + 1) * B = u2 * B + B:=by grind
  omega
 have:=Int.lt_of_mul_lt_mul_right h4 (Int.le_of_lt hB)
 omega
theorem Kn.u2lt {B P v1 v2 V u2 u0 R t:Int} (k:Kn B P v1 v2 V u2 u0 R t):u2 < v1 * B + B:=by
 have hB:0 < B:=by have:=k.v20; omega
 have hP:=k.P0
 have hV:0 ≤ V:=by
  have h1:0 ≤ (v1 * B + v2) * P:=Int.mul_nonneg (by have:=Int.mul_nonneg (show 0 ≤ v1 by have:=k.v10; omega) (Int.le_of_lt hB); have:=k.v20; omega) (Int.le_of_lt hP)
  have:=k.V0
  omega
 have h1:(t + 1) * V ≤ B * V:=Int.mul_le_mul_of_nonneg_right (by have:=k.t1; omega) hV
 have h2:B * V ≤ B * ((v1 * B + v2 + 1) * P):=Int.mul_le_mul_of_nonneg_left (Int.le_of_lt k.V1) (Int.le_of_lt hB)
 have h3:(v1 * B + v2 + 1) * P ≤ (v1 * B + B) * P:=Int.mul_le_mul_of_nonneg_right (by have:=k.v20; omega) (Int.le_of_lt hP)
 have h4:B * ((v1 * B + v2 + 1) * P) ≤ B * ((v1 * B + B) * P):=Int.mul_le_mul_of_nonneg_left h3 (Int.le_of_lt hB)
 have h5:u2 * B * P ≤ (u2 * B + u0) * P:=Int.mul_le_mul_of_nonneg_right (by have:=k.u00; omega) (Int.le_of_lt hP)
 have h6:u2 * (B * P) < (v1 * B + B) * (B * P):=by
  have e1:u2 * (B * P) = u2 * B * P:=by grind
  have e2:(v1 * B + B) * (B * P) = B * ((v1 * B + B) * P):=by grind
  rw [e1,e2]
  have:=k.R0
  have:=k.tR
  omega
 exact Int.lt_of_mul_lt_mul_right h6 (Int.le_of_lt (Int.mul_pos hB hP))
theorem Kn.fin {B P v1 v2 V u2 u0 R t d:Int} (k:Kn B P v1 v2 V u2 u0 R t) (hd0:0 ≤ d) (h:d * (v1 * B + v2) ≤ u2 * B + u0) (hd:d < B):d ≤ t + 1:=by
 rcases (by omega:d ≤ t + 1 ∨ t + 1 ≤ d - 1) with g | g
 ·exact g
 ·have hB:0 < B:=by omega
  have hP:=k.P0
  have hv1:=k.v10
  have h5:B * P ≤ (v1 * B + v2) * P:=Int.mul_le_mul_of_nonneg_right (by have h:=Int.mul_le_mul_of_nonneg_right (show 1 ≤ v1 by omega) (Int.le_of_lt hB); have:=k.v20; omega) (Int.le_of_lt hP)
  have hV0:=k.V0
  have hBP:=Int.mul_pos hB hP
  have h1:(t + 1) * V ≤ (d - 1) * V:=Int.mul_le_mul_of_nonneg_right g (by omega)
  have h2:d * V ≤ d * ((v1 * B + v2 + 1) * P):=Int.mul_le_mul_of_nonneg_left (Int.le_of_lt k.V1) hd0
  have h3:d * (v1 * B + v2) * P ≤ (u2 * B + u0) * P:=Int.mul_le_mul_of_nonneg_right h (Int.le_of_lt hP)
  have e:d * ((v1 * B + v2 + 1) * P) = d * (v1 * B + v2) * P + d * P:=by grind
  have h4:d * P < B * P:=Int.mul_lt_mul_of_pos_right hd hP
  have e2:(d - 1) * V = d * V - V:=by grind
  have:=k.R0
  have:=k.tR
  omega
end Go.Sk
namespace Go.Proofs.YtcbbilehdaaffaaGreatDoor
open Go Go.Sk
set_option linter.unusedSimpArgs false
set_option linter.unusedVariables false
theorem guess_y {F:Nat} (hF:18446744073709551616 < F) {v:aP} {u:cA} {n j:Nat} (hn:2 ≤ n ∧ n ≤ 16) (hj:j + n ≤ 16) (hv:cF 4294967296 v.l) (hu:cF 4294967296 u.l) {P V R t:Int}
  (K:Kn 4294967296 P (dg v.l (n - 1)) (dg v.l (n - 2)) V (dg u.l (j + n) * 4294967296 + dg u.l (j + n - 1)) (dg u.l (j + n - 2)) R t) :
  an (kT F v (n:Int) (j:Int) u) fun d=>t ≤ d ∧ d ≤ t + 1 ∧ 0 ≤ d ∧ d < 4294967296:=by
 unfold kT
 have hw0:IntKind.i64.wrap ((j:Int) + (n:Int)) = ((j + n:Nat):Int):=by rw [cn]; omega
 have hw1:IntKind.i64.wrap (((j + n:Nat):Int) - 1) = ((j + n - 1:Nat):Int):=by rw [cn]; omega
 have hw2:IntKind.i64.wrap (((j + n:Nat):Int) - 2) = ((j + n - 2:Nat):Int):=by rw [cn]; omega
 have hw3:IntKind.i64.wrap ((n:Int) - 1) = ((n - 1:Nat):Int):=by rw [cn]; omega
 have hw4:IntKind.i64.wrap ((n:Int) - 2) = ((n - 2:Nat):Int):=by rw [cn]; omega
 simp only [hw0,hw1,hw2,hw3,hw4]
 refine an.idx (by omega) (by rw [cA.bS]; omega) (an.idx (by omega) (by rw [cA.bS]; omega) (an.idx (by omega) (by rw [aP.bS]; omega) ?_))
 simp only [dw,Int.toNat_natCast]
 have a1:=hu (j + n)
 have a2:=hu (j + n - 1)
 have a3:=hu (j + n - 2)
 have b1:=hv (n - 1)
 have b2:=hv (n - 2)
 generalize hx1:dg u.l (j + n) = x1 at *
 generalize hx2:dg u.l (j + n - 1) = x2 at *
 generalize hx3:dg u.l (j + n - 2) = u0 at *
 generalize hy1:dg v.l (n - 1) = v1 at *
 generalize hy2:dg v.l (n - 2) = v2 at *
 have e1:IntKind.u64.wrap ((IntKind.u64.wrap x1) * 4294967296) = x1 * 4294967296:=by simp only [gq]; omega
 have e2:IntKind.u64.wrap x2 = x2:=by rw [gq]; omega
 have e3:IntKind.u64.wrap v1 = v1:=by rw [gq]; omega
 have hior:lU .u64 (x1 * 4294967296) x2 = x1 * 4294967296 + x2:=nw 32 (by omega) (by omega) (by rw [zW]; omega) a2.1 (by rw [zW]; omega) (by omega)
 rw [e1,e2,e3,hior]
 obtain ⟨u2,hu2⟩:∃ u2,u2 = x1 * 4294967296 + x2:=⟨_,rfl⟩
 rw [← hu2] at K ⊢
 have hv1:=K.v10
 have h20:0 ≤ u2:=by omega
 have h21:u2 < 18446744073709551616:=by omega
 have hup1:=K.up1
 have hup:=K.up
 have hlt:=K.u2lt
 have ht0:=K.t0
 have ht1:=K.t1
 have hd1:=Int.mul_ediv_add_emod u2 v1
 have hm0:=Int.emod_nonneg u2 (show v1 ≠ 0 by omega)
 have hm1:=Int.emod_lt_of_pos u2 (show 0 < v1 by omega)
 have hq1:u2 / v1 ≤ u2:=Int.ediv_le_self _ h20
 have hqn:0 ≤ v1 * (u2 / v1):=Int.mul_nonneg (by omega) (Int.ediv_nonneg h20 (by omega))
 have hqt:t ≤ u2 / v1:=by rw [Int.le_ediv_iff_mul_le (by omega)]; exact hup1
 refine an.quo (by omega) (an.rem (by omega) ?_)
 rw [ep h20,eO h20]
 have e4:IntKind.u64.wrap (u2 / v1) = u2 / v1:=by rw [gq]; omega
 rw [e4]
 refine an.bind (P:=fun d=>t ≤ d ∧ d ≤ t + 1 ∧ 0 ≤ d ∧ d < 4294967296) (an.loop (fun (s:Int × Int)=>t ≤ s.1 ∧ s.1 ≤ u2 ∧ 0 ≤ s.2 ∧ s.2 ≤ u2 ∧ v1 * s.1 + s.2 = u2) (fun s=>s.1.toNat) ⟨hqt,hq1,hm0,by dsimp only; omega,hd1⟩ (by dsimp only; omega) ?_) (fun d hd=>an.some hd)
 rintro ⟨d,r⟩ ⟨d0,d1,r0,r1,hs⟩
 dsimp only at d0 d1 r0 r1 hs
 dsimp only [b7]
 have hdn:0 ≤ d:=by omega
 have step:t ≤ d - 1 → r < 4294967296 → an (bD (IntKind.u64.wrap (r + v1)) fun x_12=>(some (.inl (IntKind.u64.wrap (d - 1),x_12)):Option ((Int × Int) ⊕ Int))) fun o=>(∃ s',o = .inl s' ∧ (t ≤ s'.1 ∧ s'.1 ≤ u2 ∧ 0 ≤ s'.2 ∧ s'.2 ≤ u2 ∧ v1 * s'.1 + s'.2 = u2) ∧ s'.1.toNat < d.toNat) ∨ ∃ t',o = .inr t' ∧ t ≤ t' ∧ t' ≤ t + 1 ∧ 0 ≤ t' ∧ t' < 4294967296:=fun g hr=>by
  have e5:IntKind.u64.wrap (r + v1) = r + v1:=by rw [gq]; omega
  have e6:IntKind.u64.wrap (d - 1) = d - 1:=by rw [gq]; omega
  have e7:v1 * (d - 1) + (r + v1) = u2:=by rw [Int.mul_sub]; omega
  have e8:0 ≤ v1 * (d - 1):=Int.mul_nonneg (by omega) (by omega)
  rw [e5,e6]
  exact an.ln (an.some (.inl ⟨_,rfl,⟨g,by dsimp only; omega,by dsimp only; omega,by dsimp only; omega,e7⟩,by dsimp only; omega⟩))
 by_cases hr:r < 4294967296
 ·have hdr:decide (r < 4294967296) = true:=decide_eq_true hr
  by_cases hd:4294967296 ≤ d
  ·have hdd:decide (4294967296 ≤ d) = true:=decide_eq_true hd
   rw [hdr,hdd]
   refine an.g0 rfl (an.g0 rfl (an.fU rfl ?_))
   exact step (by omega) hr
  ·have hdd:decide (4294967296 ≤ d) = false:=decide_eq_false hd
   rw [hdr,hdd]
   refine an.g1 rfl (an.idx (by omega) (by rw [aP.bS]; omega) (an.g1 rfl (an.idx (by omega) (by rw [cA.bS]; omega) ?_)))
   simp only [dw,Int.toNat_natCast,hx3,hy2,Bool.true_and,Bool.false_or]
   have e5:IntKind.u64.wrap (r * 4294967296) = r * 4294967296:=by rw [gq]; omega
   have e6:IntKind.u64.wrap u0 = u0:=by rw [gq]; omega
   have e7:IntKind.u64.wrap v2 = v2:=by rw [gq]; omega
   have hm:=k6 (m:=4294967296) ⟨hdn,by omega⟩ b2
   have e8:IntKind.u64.wrap (d * v2) = d * v2:=by rw [gq]; omega
   have hior2:lU .u64 (r * 4294967296) u0 = r * 4294967296 + u0:=nw 32 (by omega) (by omega) (by rw [zW]; omega) a3.1 (by rw [zW]; omega) (by omega)
   rw [e5,e6,e7,e8,hior2]
   have e9:d * (v1 * 4294967296 + v2) = (v1 * d) * 4294967296 + d * v2:=by grind
   refine an.ite (fun h=>?_) (fun h=>?_)
   ·have h':=of_decide_eq_true h
    refine step ?_ hr
    rcases (by omega:d = t ∨ t ≤ d - 1) with e | e
    ·rw [← e,e9] at hup
     omega
    ·exact e
   ·have h':=of_decide_eq_false h
    exact an.some (.inr ⟨_,rfl,d0,K.fin hdn (by rw [e9]; omega) (by omega),hdn,by omega⟩)
 ·have hdr:decide (r < 4294967296) = false:=decide_eq_false hr
  rw [hdr]
  refine an.g0 rfl (an.g0 rfl (an.iff rfl ?_))
  have hdB:d < 4294967296:=by
   rcases (by omega:d < 4294967296 ∨ 4294967296 ≤ d) with e | e
   ·exact e
   ·have:=Int.mul_le_mul_of_nonneg_left e (show 0 ≤ v1 by omega)
    omega
  have hm:=k6 (m:=4294967296) ⟨hdn,hdB⟩ b2
  have e9:d * (v1 * 4294967296 + v2) = (v1 * d) * 4294967296 + d * v2:=by grind
  exact an.some (.inr ⟨_,rfl,d0,K.fin hdn (by rw [e9]; omega) hdB,hdn,hdB⟩)
theorem td {u:cA} {j k:Nat} {x:Int} (h:j + k < 17):win (u.set ((j + k:Nat):Int) x).l j (k + 1) = win u.l j k + x * 4294967296 ^ k:=by
 rw [fH,cA.eV (by omega) (by omega),Int.toNat_natCast,if_pos rfl]
 congr 1
 exact vi fun i h1 h2=>by rw [cA.eV (by omega) (by omega),Int.toNat_natCast,if_neg (by omega)]
def rp (u w:cA) (j n:Nat):Prop:=∀ i,(i < j ∨ j + n < i) → dg w.l i = dg u.l i
theorem take_y {F:Nat} (hF:100 < F) {v:aP} {u:cA} {n j:Nat} (hn:n ≤ 16) (hj:j + n ≤ 16) (hv:cF 4294967296 v.l) (hu:cF 4294967296 u.l) {d:Int} (hd:0 ≤ d ∧ d < 4294967296) :
  an (mE F v (n:Int) (j:Int) d u) fun p=>cF 4294967296 p.2.l ∧ rp u p.2 j n ∧ win u.l j (n + 1) + (if p.1 = true then 1 else 0) * 4294967296 ^ (n + 1) = win p.2.l j (n + 1) + d * win v.l 0 n:=by
 unfold mE
 have hw0:IntKind.i64.wrap ((j:Int) + (n:Int)) = ((j + n:Nat):Int):=by rw [cn]; omega
 rw [hw0]
 refine an.bind (P:=fun (p:cA × Int × Int)=>cF 4294967296 p.1.l ∧ (∀ i,(i < j ∨ j + n ≤ i) → dg p.1.l i = dg u.l i) ∧ (0 ≤ p.2.1 ∧ p.2.1 < 4294967296) ∧ (0 ≤ p.2.2 ∧ p.2.2 ≤ 1) ∧ win u.l j n + (p.2.1 + p.2.2) * 4294967296 ^ n = win p.1.l j n + d * win v.l 0 n)
  (an.rounds n (fun (k:Nat) (s:cA × Int × Int × Int)=>s.2.2.2 = (k:Int) ∧ cF 4294967296 s.1.l ∧ (∀ i,(i < j ∨ j + k ≤ i) → dg s.1.l i = dg u.l i) ∧ (0 ≤ s.2.1 ∧ s.2.1 < 4294967296) ∧ (0 ≤ s.2.2.1 ∧ s.2.2.1 ≤ 1) ∧ win u.l j k + (s.2.1 + s.2.2.1) * 4294967296 ^ k = win s.1.l j k + d * win v.l 0 k) (by omega) ⟨rfl,hu,fun i _=>rfl,⟨Int.le_refl _,(by decide:(0:Int) < 4294967296)⟩,⟨Int.le_refl _,(by decide:(0:Int) ≤ 1)⟩,by simp [win,ds]⟩ ?_) ?_
 ·rintro k ⟨w,c,b,kx⟩ hk ⟨rfl,win_,wo,⟨c0,c1⟩,⟨b0,b1⟩,hs⟩
  dsimp only at win_ wo c0 c1 b0 b1 hs
  dsimp only [un4]
  refine an.ite (fun h=>?_) (fun h=>?_)
  ·have hk':k < n:=by have:=of_decide_eq_true h; omega
   have hwk:IntKind.i64.wrap ((j:Int) + (k:Int)) = ((j + k:Nat):Int):=by rw [cn]; omega
   rw [hwk]
   have hvk:=hv k
   have huk:=hu (j + k)
   have hwuk:=wo (j + k) (.inr (Nat.le_refl _))
   have hm:=k6 (m:=4294967296) hd hvk
   refine an.idx (by omega) (by rw [aP.bS]; omega) ?_
   simp only [dw,Int.toNat_natCast]
   refine an.jZ (d * dg v.l k) (by simp only [gq]; rw [Int.emod_eq_of_lt (a:=dg v.l k) (by omega) (by omega)]; omega) (an.idx (by omega) (by rw [cA.bS]; omega) ?_)
   simp only [dw,Int.toNat_natCast,hwuk]
   obtain ⟨p,hp⟩:∃ p,p = c + d * dg v.l k:=⟨_,rfl⟩
   have hp0:0 ≤ p ∧ p < 18446744073709551616:=by omega
   have hpw:IntKind.u64.wrap (c + d * dg v.l k) = p:=by rw [gq]; omega
   rw [hpw]
   generalize hU:dg u.l (j + k) = U at *
   refine an.jZ (p % 4294967296) (by rw [kF]) ?_
   obtain ⟨τ,hτ⟩:∃ τ,τ = U - p % 4294967296 - b:=⟨_,rfl⟩
   refine an.ln (an.jZ (τ % 4294967296) (by simp only [kF,gq]; omega) (an.idx (by omega) (by rw [cA.bS]; omega) (an.jZ (if τ < 0 then 1 else 0) (by simp only [gq]; split <;> omega) (an.jZ (p / 4294967296) rfl (an.some (.inl ⟨_,rfl,⟨by dsimp only; rw [cn]; omega,cA.jb win_ (by omega) (by omega) (by omega),fun i hi=>?_,⟨by dsimp only; omega,by dsimp only; omega⟩,⟨by dsimp only; split <;> omega,by dsimp only; split <;> omega⟩,?_⟩,hk'⟩))))))
   ·dsimp only
    rw [cA.eV (by omega) (by omega),Int.toNat_natCast,if_neg (by omega)]
    exact wo i (by omega)
   ·dsimp only
    rw [td (by omega),fH,fH,hU,Nat.zero_add,Int.pow_succ]
    have e1:d * dg v.l k = p - c:=by omega
    have e2:p = p % 4294967296 + p / 4294967296 * 4294967296:=by omega
    have e3:U - p % 4294967296 - b = τ % 4294967296 - (if τ < 0 then 1 else 0) * 4294967296:=by rw [← hτ]; split <;> omega
    generalize p % 4294967296 = pl at *
    generalize p / 4294967296 = ph at *
    generalize (if τ < 0 then (1:Int) else 0) = bo at *
    generalize τ % 4294967296 = tl at *
    have e4:U = tl - bo * 4294967296 + pl + b:=by omega
    have e5:d * dg v.l k = pl + ph * 4294967296 - c:=by omega
    have e6:d * (win v.l 0 k + dg v.l k * 4294967296 ^ k) = d * win v.l 0 k + (d * dg v.l k) * 4294967296 ^ k:=by grind
    rw [e6,e5,e4]
    grind
  ·have hk':k = n:=by have:=of_decide_eq_false h; omega
   subst hk'
   exact an.some (.inr ⟨_,rfl,win_,wo,⟨c0,c1⟩,⟨b0,b1⟩,hs⟩)
 ·rintro ⟨w,c,b⟩ ⟨win_,wo,⟨c0,c1⟩,⟨b0,b1⟩,hs⟩
  dsimp only at win_ wo c0 c1 b0 b1 hs
  dsimp only [kA]
  have huk:=hu (j + n)
  have hwuk:=wo (j + n) (.inr (Nat.le_refl _))
  refine an.idx (by omega) (by rw [cA.bS]; omega) ?_
  simp only [dw,Int.toNat_natCast,hwuk]
  generalize hU:dg u.l (j + n) = U at *
  obtain ⟨τ,hτ⟩:∃ τ,τ = U - c - b:=⟨_,rfl⟩
  refine an.ln (an.jZ (τ % 4294967296) (by simp only [kF,gq]; omega) (an.idx (by omega) (by rw [cA.bS]; omega) (an.jZ (if τ < 0 then 1 else 0) (by simp only [gq]; split <;> omega) (an.some ⟨cA.jb win_ (by omega) (by omega) (by omega),fun i hi=>?_,?_⟩))))
  ·dsimp only
   rw [cA.eV (by omega) (by omega),Int.toNat_natCast,if_neg (by omega)]
   exact wo i (by omega)
  ·dsimp only
   rw [td (by omega),fH,hU,Int.pow_succ]
   have e3:U - c - b = τ % 4294967296 - (if τ < 0 then 1 else 0) * 4294967296:=by rw [← hτ]; split <;> omega
   have e7:(if decide ((if τ < 0 then (1:Int) else 0) = 1) = true then (1:Int) else 0) = if τ < 0 then 1 else 0:=by
    by_cases h:τ < 0
    ·rw [if_pos h]; rfl
    ·rw [if_neg h]; rfl
   rw [e7]
   generalize (if τ < 0 then (1:Int) else 0) = bo at *
   generalize τ % 4294967296 = tl at *
   have e4:U = tl - bo * 4294967296 + c + b:=by omega
   rw [e4]
   grind
theorem give_y {F:Nat} (hF:100 < F) {v:aP} {u:cA} {n j:Nat} (hn:n ≤ 16) (hj:j + n ≤ 16) (hv:cF 4294967296 v.l) (hu:cF 4294967296 u.l) :
  an (mF F v (n:Int) (j:Int) u) fun w=>cF 4294967296 w.l ∧ rp u w j n ∧ win w.l j (n + 1) = (win u.l j (n + 1) + win v.l 0 n) % 4294967296 ^ (n + 1):=by
 unfold mF
 have hw0:IntKind.i64.wrap ((j:Int) + (n:Int)) = ((j + n:Nat):Int):=by rw [cn]; omega
 rw [hw0]
 refine an.bind (P:=fun (p:cA × Int)=>cF 4294967296 p.1.l ∧ (∀ i,(i < j ∨ j + n ≤ i) → dg p.1.l i = dg u.l i) ∧ (0 ≤ p.2 ∧ p.2 ≤ 1) ∧ win p.1.l j n + p.2 * 4294967296 ^ n = win u.l j n + win v.l 0 n)
  (an.rounds n (fun (k:Nat) (s:cA × Int × Int)=>s.2.2 = (k:Int) ∧ cF 4294967296 s.1.l ∧ (∀ i,(i < j ∨ j + k ≤ i) → dg s.1.l i = dg u.l i) ∧ (0 ≤ s.2.1 ∧ s.2.1 ≤ 1) ∧ win s.1.l j k + s.2.1 * 4294967296 ^ k = win u.l j k + win v.l 0 k) (by omega) ⟨rfl,hu,fun i _=>rfl,⟨Int.le_refl _,(by decide:(0:Int) ≤ 1)⟩,by simp [win,ds]⟩ ?_) ?_
 ·rintro k ⟨w,c,kx⟩ hk ⟨rfl,win_,wo,⟨c0,c1⟩,hs⟩
  dsimp only at win_ wo c0 c1 hs
  dsimp only [kA]
  refine an.ite (fun h=>?_) (fun h=>?_)
  ·have hk':k < n:=by have:=of_decide_eq_true h; omega
   have hwk:IntKind.i64.wrap ((j:Int) + (k:Int)) = ((j + k:Nat):Int):=by rw [cn]; omega
   rw [hwk]
   have hvk:=hv k
   have huk:=hu (j + k)
   have hwuk:=wo (j + k) (.inr (Nat.le_refl _))
   refine an.idx (by omega) (by rw [cA.bS]; omega) (an.idx (by omega) (by rw [aP.bS]; omega) ?_)
   simp only [dw,Int.toNat_natCast,hwuk]
   generalize hU:dg u.l (j + k) = U at *
   generalize hV:dg v.l k = V at *
   have e0:IntKind.u64.wrap (c + (IntKind.u64.wrap ((IntKind.u64.wrap U) + (IntKind.u64.wrap V)))) = c + (U + V):=by simp only [gq]; omega
   obtain ⟨p,hp⟩:∃ p,p = c + (U + V):=⟨_,rfl⟩
   refine an.jZ p (by rw [e0,hp]) (an.idx (by omega) (by rw [cA.bS]; omega) (an.jZ p (by rw [e0,hp]) ?_))
   rw [kF]
   refine an.some (.inl ⟨_,rfl,⟨by dsimp only; rw [cn]; omega,cA.jb win_ (by omega) (by omega) (by omega),fun i hi=>?_,⟨by dsimp only; omega,by dsimp only; omega⟩,?_⟩,hk'⟩)
   ·dsimp only
    rw [cA.eV (by omega) (by omega),Int.toNat_natCast,if_neg (by omega)]
    exact wo i (by omega)
   ·dsimp only
    rw [td (by omega),fH,fH,hU,Nat.zero_add,hV,Int.pow_succ]
    have e2:p = p % 4294967296 + p / 4294967296 * 4294967296:=by omega
    generalize p % 4294967296 = pl at *
    generalize p / 4294967296 = ph at *
    have e4:U = pl + ph * 4294967296 - c - V:=by omega
    rw [e4]
    grind
  ·have hk':k = n:=by have:=of_decide_eq_false h; omega
   subst hk'
   exact an.some (.inr ⟨_,rfl,win_,wo,⟨c0,c1⟩,hs⟩)
 ·rintro ⟨w,c⟩ ⟨win_,wo,⟨c0,c1⟩,hs⟩
  dsimp only at win_ wo c0 c1 hs
  dsimp only [b7]
  have huk:=hu (j + n)
  have hwuk:=wo (j + n) (.inr (Nat.le_refl _))
  refine an.idx (by omega) (by rw [cA.bS]; omega) (an.idx (by omega) (by rw [cA.bS]; omega) ?_)
  simp only [dw,Int.toNat_natCast,hwuk]
  generalize hU:dg u.l (j + n) = U at *
  have e0:IntKind.u32.wrap (U + IntKind.u32.wrap c) = (U + c) % 4294967296:=by simp only [kF]; omega
  rw [e0]
  refine an.some ⟨cA.jb win_ (by omega) (by omega) (by omega),fun i hi=>?_,?_⟩
  ·rw [cA.eV (by omega) (by omega),Int.toNat_natCast,if_neg (by omega)]
   exact wo i (by omega)
  ·rw [td (by omega),fH,hU,Int.pow_succ]
   have e2:U + c = (U + c) % 4294967296 + (U + c) / 4294967296 * 4294967296:=by omega
   have hpw:(0:Int) < 4294967296 ^ n:=Int.pow_pos (by decide)
   have hlo:=gz win_ j n
   have hhi:=tL win_ j n
   have hx0:0 ≤ (U + c) % 4294967296 ∧ (U + c) % 4294967296 < 4294967296:=by omega
   generalize (U + c) % 4294967296 = x at *
   generalize (U + c) / 4294967296 = y at *
   have e3:win u.l j n + U * 4294967296 ^ n + win v.l 0 n = (win w.l j n + x * 4294967296 ^ n) + 4294967296 ^ n * 4294967296 * y:=by
    have e4:U = x + y * 4294967296 - c:=by omega
    rw [e4]
    grind
   have h1:x * 4294967296 ^ n ≤ 4294967295 * 4294967296 ^ n:=Int.mul_le_mul_of_nonneg_right (by omega) (by omega)
   have h2:0 ≤ x * 4294967296 ^ n:=Int.mul_nonneg hx0.1 (by omega)
   rw [e3,Int.add_mul_emod_self_left,Int.emod_eq_of_lt (by omega) (by omega)]
end Go.Proofs.YtcbbilehdaaffaaGreatDoor
namespace Go.Sk
set_option linter.unusedSimpArgs false
set_option linter.unusedVariables false
theorem Dz {x:Int} (h:0 ≤ x ∧ x < 4294967296):cF 4294967296 [x]:=fun i=>by
 cases i with
 | zero=>exact h
 | succ i=>exact ⟨Int.le_refl _,(by decide:(0:Int) < 4294967296)⟩
theorem yx {A B q r:Int} (h:A = q * B + r) (h0:0 ≤ r) (h1:r < B):A / B = q ∧ A % B = r:=by
 have hB:B ≠ 0:=by omega
 have e:A = r + B * q:=by rw [h,Int.mul_comm]; omega
 constructor
 ·rw [e,Int.add_mul_ediv_left _ _ hB,Int.ediv_eq_zero_of_lt h0 h1,Int.zero_add]
 ·rw [e,Int.add_mul_emod_self_left,Int.emod_eq_of_lt h0 h1]
def a17 (w:aP) (x:Int):cA:=⟨w.a0,w.a1,w.a2,w.a3,w.a4,w.a5,w.a6,w.a7,w.a8,w.a9,w.a10,w.a11,w.a12,w.a13,w.a14,w.a15,x⟩
def zX (u:cA):aP:=⟨u.a0,u.a1,u.a2,u.a3,u.a4,u.a5,u.a6,u.a7,u.a8,u.a9,u.a10,u.a11,u.a12,u.a13,u.a14,u.a15⟩
theorem a17_l (w:aP) (x:Int):(a17 w x).l = w.l ++ [x]:=rfl
theorem a16_l (u:cA):(zX u).l = u.l.take 16:=rfl
theorem Ca (l:List Int) (n:Nat):win l 0 n = ds 4294967296 (dg l) n:=dn fun i _=>by rw [Nat.zero_add]
theorem qU {l:List Int} {j n k:Nat} (h:∀ i,j + n ≤ i → dg l i = 0) (hk:n ≤ k):win l j k = win l j n:=ze (fun i hi=>h _ (by omega)) hk
theorem win_dig {l:List Int} (h:cF 4294967296 l) {n i:Nat} (hl:l.length ≤ n):dg l i = win l 0 n / 4294967296 ^ i % 4294967296:=by
 have e:win l 0 n = win l 0 (n + (i + 1)):=(qU (fun k hk=>oo (by omega)) (by omega)).symm
 rw [e,Ca]
 exact (C' (b:=4294967296) (by decide) (by omega) h).symm
theorem win_zero {l:List Int} (h:cF 4294967296 l) {n k i:Nat} (hl:l.length ≤ n) (hv:win l 0 n < 4294967296 ^ k) (hi:k ≤ i):dg l i = 0:=by
 have h1:=gz h 0 n
 have h2:=oJ (b:=4294967296) (by decide) hi
 rw [win_dig h hl,Int.ediv_eq_zero_of_lt h1 (by omega)]
 rfl
theorem win3 (l:List Int) (j m:Nat):win l j (m + 3) = win l j m + (dg l (j + m) + 4294967296 * (dg l (j + m + 1) + 4294967296 * dg l (j + m + 2))) * 4294967296 ^ m:=by
 rw [fH,fH,fH]
 have e1:(4294967296:Int) ^ (m + 1) = 4294967296 ^ m * 4294967296:=Int.pow_succ _ _
 have e2:(4294967296:Int) ^ (m + 1 + 1) = 4294967296 ^ m * 4294967296 * 4294967296:=by rw [Int.pow_succ,e1]
 rw [show m + 2 = m + 1 + 1 from rfl,e1,e2]
 show win l j m + dg l (j + m) * 4294967296 ^ m + dg l (j + m + 1) * (4294967296 ^ m * 4294967296) + dg l (j + m + 2) * (4294967296 ^ m * 4294967296 * 4294967296) = _
 grind
theorem win2 (l:List Int) (j m:Nat):win l j (m + 2) = win l j m + (dg l (j + m) + 4294967296 * dg l (j + m + 1)) * 4294967296 ^ m:=by
 rw [fH,fH]
 have e1:(4294967296:Int) ^ (m + 1) = 4294967296 ^ m * 4294967296:=Int.pow_succ _ _
 rw [e1]
 show win l j m + dg l (j + m) * 4294967296 ^ m + dg l (j + m + 1) * (4294967296 ^ m * 4294967296) = _
 grind
theorem MM32:MM = 4294967296 ^ 16:=rfl
theorem lf (n:Nat):(0:Int) < 4294967296 ^ n:=Int.pow_pos (by decide)
theorem norm_of {Bv x:Int} {m s:Nat} (hx:0 < x ∧ x < 4294967296) (hs:(s:Int) = 32 - fx x) (h0:x * 4294967296 ^ m ≤ Bv) (h1:Bv < (x + 1) * 4294967296 ^ m):s ≤ 31 ∧ 2147483648 * 4294967296 ^ m ≤ Bv * 2 ^ s ∧ Bv * 2 ^ s < 4294967296 ^ (m + 1):=by
 obtain ⟨b1,b2,b3⟩:=pT hx.1
 have b4:=pJ (m:=x) (k:=32) (by rw [zW]; exact hx.2)
 have hp:=ka s
 have hq:=lf m
 refine ⟨by omega,?_,?_⟩
 ·have e:(2147483648:Int) = 2 ^ ((fx x).toNat - 1) * 2 ^ s:=by
   rw [← Int.pow_add]
   have:(fx x).toNat - 1 + s = 31:=by omega
   rw [this]; decide
  have g1:2 ^ ((fx x).toNat - 1) * 2 ^ s ≤ x * 2 ^ s:=Int.mul_le_mul_of_nonneg_right b2 (by omega)
  have g2:2147483648 * 4294967296 ^ m ≤ x * 2 ^ s * 4294967296 ^ m:=Int.mul_le_mul_of_nonneg_right (by omega) (by omega)
  have g3:x * 4294967296 ^ m * 2 ^ s ≤ Bv * 2 ^ s:=Int.mul_le_mul_of_nonneg_right h0 (by omega)
  have e2:x * 4294967296 ^ m * 2 ^ s = x * 2 ^ s * 4294967296 ^ m:=by grind
  omega
 ·have e:(4294967296:Int) = 2 ^ (fx x).toNat * 2 ^ s:=by
   rw [← Int.pow_add]
   have:(fx x).toNat + s = 32:=by omega
   rw [this]; decide
  have g1:(x + 1) * 2 ^ s ≤ 2 ^ (fx x).toNat * 2 ^ s:=Int.mul_le_mul_of_nonneg_right (by omega) (by omega)
  have g2:(x + 1) * 2 ^ s * 4294967296 ^ m ≤ 4294967296 * 4294967296 ^ m:=Int.mul_le_mul_of_nonneg_right (by omega) (by omega)
  have g3:Bv * 2 ^ s < (x + 1) * 4294967296 ^ m * 2 ^ s:=Int.mul_lt_mul_of_pos_right h1 hp
  have e2:(x + 1) * 4294967296 ^ m * 2 ^ s = (x + 1) * 2 ^ s * 4294967296 ^ m:=by grind
  rw [Int.pow_succ,Int.mul_comm (4294967296 ^ m)]
  omega
theorem kn_of {v:aP} {u:cA} {m j:Nat} {V R t:Int} (hv:cF 4294967296 v.l) (hu:cF 4294967296 u.l) (hV:V = win v.l 0 (m + 2)) (hV2:2147483648 * 4294967296 ^ (m + 1) ≤ V) (hR:R = win u.l j (m + 3)) (hRV:R < 4294967296 * V) (ht:t = R / V) :
  Kn 4294967296 (4294967296 ^ m) (dg v.l (m + 1)) (dg v.l m) V (dg u.l (j + m + 2) * 4294967296 + dg u.l (j + m + 1)) (dg u.l (j + m)) R t:=by
 have hq:=lf m
 have hVp:0 < V:=by have:=lf (m + 1); omega
 have w2:=win2 v.l 0 m
 have w3:=win3 u.l j m
 rw [Nat.zero_add] at w2
 rw [← hV] at w2
 rw [← hR] at w3
 have l2:=gz hv 0 m
 have l3:=gz hu j m
 have g2:=tL hv 0 m
 have g3:=tL hu j m
 have a1:=hv m
 have a2:=hv (m + 1)
 have a3:=hu (j + m)
 have a4:=hu (j + m + 1)
 have a5:=hu (j + m + 2)
 have hR0:0 ≤ R:=by rw [hR]; exact gz hu _ _
 have e1:dg v.l m + 4294967296 * dg v.l (m + 1) = dg v.l (m + 1) * 4294967296 + dg v.l m:=by omega
 have e2:dg u.l (j + m) + 4294967296 * (dg u.l (j + m + 1) + 4294967296 * dg u.l (j + m + 2)) = (dg u.l (j + m + 2) * 4294967296 + dg u.l (j + m + 1)) * 4294967296 + dg u.l (j + m):=by omega
 rw [e1] at w2
 rw [e2] at w3
 have hpp:(4294967296:Int) ^ (m + 1) = 4294967296 ^ m * 4294967296:=Int.pow_succ _ _
 refine ⟨hq,?_,a2.2,a1,by omega,by rw [Int.add_mul (_ + _) 1]; omega,a3,by omega,by rw [Int.add_mul (_ + _) 1]; omega,by rw [ht]; exact Int.ediv_mul_le _ (by omega),by rw [ht]; exact Int.lt_ediv_add_one_mul_self _ hVp,by rw [ht]; exact Int.ediv_nonneg hR0 (by omega),by rw [ht,Int.ediv_lt_iff_lt_mul hVp]; exact hRV⟩
 rcases (by omega:2147483648 ≤ dg v.l (m + 1) ∨ dg v.l (m + 1) + 1 ≤ 2147483648) with g | g
 ·exact g
 ·have h1:(dg v.l (m + 1) + 1) * (4294967296 ^ m * 4294967296) ≤ 2147483648 * (4294967296 ^ m * 4294967296):=Int.mul_le_mul_of_nonneg_right g (by omega)
  have h2:(dg v.l m + 1) * 4294967296 ^ m ≤ 4294967296 * 4294967296 ^ m:=Int.mul_le_mul_of_nonneg_right (by omega) (by omega)
  have e3:(dg v.l (m + 1) * 4294967296 + dg v.l m) * 4294967296 ^ m = dg v.l (m + 1) * (4294967296 ^ m * 4294967296) + dg v.l m * 4294967296 ^ m:=by grind
  have e4:(dg v.l (m + 1) + 1) * (4294967296 ^ m * 4294967296) = dg v.l (m + 1) * (4294967296 ^ m * 4294967296) + 4294967296 ^ m * 4294967296:=by grind
  have e5:(dg v.l m + 1) * 4294967296 ^ m = dg v.l m * 4294967296 ^ m + 4294967296 ^ m:=by grind
  omega
end Go.Sk
namespace Go.Proofs.YtcbbilehdaaffaaGreatDoor
open Go Go.Sk
set_option linter.unusedSimpArgs false
set_option linter.unusedVariables false
theorem lz_y (F:Nat) {x:Int} (h0:0 ≤ x) (h1:x < 4294967296):dX F x = some (32 - fx x):=by
 refine an.eq ?_
 unfold dX
 refine an.aB (Bl F h0 h1) (an.some ?_)
 have b4:=pJ (m:=x) (k:=32) (by rw [zW]; exact h1)
 have b5:=pg x
 rw [cn]; omega
theorem yy {F:Nat} (hF:18446744073709551616 < F) {v:aP} {u:cA} {m j:Nat} {V R t:Int} (hm:m + 2 ≤ 16) (hj:j + (m + 2) ≤ 16) (hv:cF 4294967296 v.l) (hu:cF 4294967296 u.l) (hV:V = win v.l 0 (m + 2)) (hV2:2147483648 * 4294967296 ^ (m + 1) ≤ V) (hR:R = win u.l j (m + 3)) (hRV:R < 4294967296 * V) (ht:t = R / V) {β:Type} {k:cA → Int → Option β} {Q:β → Prop} (hk:∀ w,cF 4294967296 w.l → rp u w j (m + 2) → win w.l j (m + 3) = R - t * V → an (k w t) Q) :
  an (Option.bind (kT F v ((m + 2:Nat):Int) (j:Int) u) (fun x_22=>Option.bind (Option.bind (mE F v ((m + 2:Nat):Int) (j:Int) x_22 u) (b7 fun x_25 x_26=>if x_25 = true then (Option.bind (mF F v ((m + 2:Nat):Int) (j:Int) x_26) (fun x_27=>some (x_27,IntKind.u64.wrap (x_22 - 1)))) else (some (x_26,x_22)))) (b7 k))) Q:=by
 have K:=kn_of hv hu hV hV2 hR hRV ht
 have hVB:V < 4294967296 ^ (m + 3):=by
  have h1:=tL hv 0 (m + 2)
  have h2:=oJ (b:=4294967296) (by decide) (show m + 2 ≤ m + 3 by omega)
  omega
 have hVp:0 < V:=by have:=lf (m + 1); omega
 refine an.bind (guess_y hF (n:=m + 2) (j:=j) (by omega) hj hv hu (P:=4294967296 ^ m) (V:=V) (R:=R) (t:=t) ?_) ?_
 ·have e1:m + 2 - 1 = m + 1:=by omega
  have e2:m + 2 - 2 = m:=by omega
  have e3:j + (m + 2) = j + m + 2:=by omega
  have e4:j + (m + 2) - 1 = j + m + 1:=by omega
  have e5:j + (m + 2) - 2 = j + m:=by omega
  rw [e1,e2,e4,e5,e3]
  exact K
 ·rintro d ⟨d0,d1,d2,d3⟩
  have ht1:=K.t1
  have ht0:=K.t0
  have hRt:=K.Rt
  have hRt1:=K.tR
  have e9:(t + 1) * V = t * V + V:=by grind
  rw [e9] at hRt1
  refine an.bind (P:=fun p=>p.2 = t ∧ cF 4294967296 p.1.l ∧ rp u p.1 j (m + 2) ∧ win p.1.l j (m + 3) = R - t * V) (an.bind (take_y (by omega) (n:=m + 2) (j:=j) hm hj hv hu ⟨d2,d3⟩) ?_) ?_
  ·rintro ⟨bw,w⟩ ⟨win_,wo,hs⟩
   dsimp only at win_ wo hs
   dsimp only [b7]
   rw [← hV] at hs
   have hs':R + (if bw = true then 1 else 0) * 4294967296 ^ (m + 3) = win w.l j (m + 3) + d * V:=by rw [hR]; exact hs
   clear hs
   have w0:=gz win_ j (m + 3)
   have w1:=tL win_ j (m + 3)
   rcases (by omega:d = t ∨ d = t + 1) with e | e
   ·subst e
    cases bw with
    | true=>
     simp only [if_true] at hs'
     omega
    | false=>
     refine an.iff rfl (an.some ⟨rfl,win_,wo,?_⟩)
     simp only [Bool.false_eq_true,if_false] at hs'
     dsimp only
     omega
   ·subst e
    rw [e9] at hs'
    cases bw with
    | false=>
     simp only [Bool.false_eq_true,if_false] at hs'
     omega
    | true=>
     simp only [if_true] at hs'
     refine an.fU rfl (an.bind (give_y (by omega) (n:=m + 2) (j:=j) hm hj hv win_) ?_)
     rintro z ⟨zin,zo,hz⟩
     have hz':win z.l j (m + 3) = (win w.l j (m + 3) + V) % 4294967296 ^ (m + 3):=by rw [hV]; exact hz
     have e10:win w.l j (m + 3) + V = (R - t * V) + 4294967296 ^ (m + 3) * 1:=by omega
     rw [e10,Int.add_mul_emod_self_left,Int.emod_eq_of_lt (by omega) (by omega)] at hz'
     refine an.some ⟨?_,zin,fun i hi=>by rw [zo i hi,wo i hi],hz'⟩
     dsimp only
     rw [gq]; omega
  ·rintro ⟨w,d'⟩ ⟨rfl,h1,h2,h3⟩
   exact hk w h1 h2 h3
theorem uw {F:Nat} (hF:18446744073709551616 < F) {a b:aP} (ha:cF 4294967296 a.l) (hb:cF 4294967296 b.l) (h0:av b ≠ 0):iz F a b = some (rX (av a / av b),rX (av a % av b)):=by
 refine an.eq ?_
 have hb0:=(eU hb).1
 have ha0:=(eU ha).1
 have hbp:0 < av b:=by omega
 unfold iz
 refine an.bind (qu (by omega)) ?_
 rintro nb ⟨nb0,nb1,nbz,nbt⟩
 refine an.bind (qu (by omega)) ?_
 rintro na ⟨na0,na1,naz,nat⟩
 refine an.aB (Au (by omega) ha hb) ?_
 obtain ⟨m,rfl⟩:∃ m:Nat,nb = m:=⟨nb.toNat,by omega⟩
 obtain ⟨l,rfl⟩:∃ l:Nat,na = l:=⟨na.toNat,by omega⟩
 rw [Int.toNat_natCast] at nbz nbt naz nat
 refine an.ite (fun h=>?_) (fun h=>?_)
 ·have h':=of_decide_eq_true h
  have hlt:av a < av b:=by
   rcases (by omega:av a < av b ∨ ¬ av a < av b) with g | g
   ·exact g
   ·rw [if_neg g] at h'; split at h' <;> omega
  refine an.some ?_
  rw [Int.ediv_eq_zero_of_lt ha0 hlt,Int.emod_eq_of_lt ha0 hlt,ot ha,← zero_eq]
 ·have h':=of_decide_eq_false h
  have hge:av b ≤ av a:=by
   rcases (by omega:av a < av b ∨ av b ≤ av a) with g | g
   ·rw [if_pos g] at h'; omega
   ·exact g
  clear h h'
  have hbm:av b = ds 4294967296 (dg b.l) m:=lm (by omega) fun i h1 h2=>nbz i h1 h2
  have ham:av a = ds 4294967296 (dg a.l) l:=lm (by omega) fun i h1 h2=>naz i h1 h2
  refine an.ite (fun h=>?_) (fun h=>?_)
  ·have h1:m = 1:=by have:=of_decide_eq_true h; omega
   subst h1
   have e1:av b = b.a0:=by rw [hbm]; simp [ds]; rfl
   have hb1:=hb 0
   have e2:dg b.l 0 = b.a0:=rfl
   rw [e2] at hb1
   refine an.aB (Ao (by omega) ha (b:=b.a0) (by omega)) ?_
   dsimp only [b7]
   refine an.ln (an.some ?_)
   rw [e1]
   congr 1
   have hm0:=Int.emod_nonneg (av a) (show b.a0 ≠ 0 by omega)
   have hm1:=Int.emod_lt_of_pos (av a) (show 0 < b.a0 by omega)
   refine vR (yU (a:=av a % b.a0) (b:=0) ⟨hm0,by omega⟩ ⟨Int.le_refl _,by decide⟩) ?_
   rw [zh]
   omega
  ·have h1:m ≠ 1:=by have:=of_decide_eq_false h; omega
   clear h
   have hm0:m ≠ 0:=by
    rintro rfl
    rw [hbm] at hbp
    exact absurd hbp (by simp [ds])
   obtain ⟨m,rfl⟩:∃ m',m = m' + 2:=⟨m - 2,by omega⟩
   have hml:m + 2 ≤ l:=by
    rcases Nat.lt_or_ge l (m + 2) with g | g
    ·have g1:=oi (b:=4294967296) (by decide) (f:=dg a.l) (n:=l) fun i _=>ha i
     have g2:=nbt (by omega)
     have e3:m + 2 - 1 = m + 1:=by omega
     rw [e3] at g2
     have g3:=hb (m + 1)
     have g4:=dK (b:=4294967296) (by decide) (f:=dg b.l) (n:=m + 1) fun i _=>(hb i).1
     have g5:1 * (4294967296:Int) ^ (m + 1) ≤ dg b.l (m + 1) * 4294967296 ^ (m + 1):=Int.mul_le_mul_of_nonneg_right (by omega) (Int.le_of_lt (lf _))
     have g6:=oJ (b:=4294967296) (by decide) (show l ≤ m + 1 by omega)
     rw [hbm,ham,c6] at hge
     omega
    ·exact g
   have hw1:IntKind.i64.wrap (((m + 2:Nat):Int) - 1) = ((m + 1:Nat):Int):=by rw [cn]; omega
   have hwl:IntKind.i64.wrap ((l:Int) - ((m + 2:Nat):Int)) = ((l - (m + 2):Nat):Int):=by rw [cn]; omega
   rw [hw1]
   refine an.idx (by omega) (by rw [aP.bS]; omega) ?_
   simp only [dw,Int.toNat_natCast]
   have hx:=hb (m + 1)
   have hxt:dg b.l (m + 1) ≠ 0:=by
    have g2:=nbt (by omega)
    have e3:m + 2 - 1 = m + 1:=by omega
    rw [e3] at g2
    exact g2
   generalize hxx:dg b.l (m + 1) = x at *
   refine an.aB (lz_y F hx.1 hx.2) ?_
   have b4:=pJ (m:=x) (k:=32) (by rw [zW]; exact hx.2)
   obtain ⟨s,hs⟩:∃ s:Nat,(s:Int) = 32 - fx x:=⟨(32 - fx x).toNat,by omega⟩
   rw [← hs]
   have hlo:ds 4294967296 (dg b.l) (m + 1) < 4294967296 ^ (m + 1):=oi (by decide) fun i _=>hb i
   have hlo0:=dK (b:=4294967296) (by decide) (f:=dg b.l) (n:=m + 1) fun i _=>(hb i).1
   have hbs:av b = ds 4294967296 (dg b.l) (m + 1) + x * 4294967296 ^ (m + 1):=by rw [hbm,c6,hxx]
   obtain ⟨hs31,hn1,hn2⟩:=norm_of (Bv:=av b) (x:=x) (m:=m + 1) (s:=s) ⟨by omega,hx.2⟩ hs (by omega) (by rw [Int.add_mul x 1]; omega)
   refine an.bind (up_y (by omega) hb hs31) ?_
   rintro ⟨v,cv⟩ ⟨vin,cv0,cv1,vs⟩
   dsimp only at vin cv0 cv1 vs
   refine an.bind (up_y (by omega) ha hs31) ?_
   rintro ⟨w,cw⟩ ⟨win_,cw0,cw1,ws⟩
   dsimp only at win_ cw0 cw1 ws
   dsimp only [b7]
   have hp2:=ka s
   have hp31:=wh hs31
   have hvr:=eU vin
   have hcv:cv = 0:=by
    have g1:=oJ (b:=4294967296) (by decide) (show m + 1 + 1 ≤ 16 by omega)
    rw [← MM32] at g1
    rcases (by omega:cv = 0 ∨ 1 ≤ cv) with g | g
    ·exact g
    ·have:=Int.mul_le_mul_of_nonneg_right g (show 0 ≤ MM by have:=zl; omega)
     omega
   subst hcv
   rw [Int.zero_mul,Int.add_zero] at vs
   obtain ⟨V,hVd⟩:∃ V,V = av v:=⟨_,rfl⟩
   have hVs:V = av b * 2 ^ s:=by rw [hVd,vs]
   have hVw:V = win v.l 0 (m + 2):=by
    have e1:V = win v.l 0 16:=by rw [hVd,Ca]; rfl
    rw [e1]
    refine qU (fun i hi=>win_zero vin (n:=16) (k:=m + 2) (by rw [aP.bS]; omega) ?_ (by omega)) (by omega)
    rw [← e1,hVs]; exact hn2
   have hVp:0 < V:=by rw [hVs]; exact Int.mul_pos hbp hp2
   rw [hwl]
   obtain ⟨J,hJ⟩:∃ J,J = l - (m + 2):=⟨_,rfl⟩
   rw [← hJ]
   have hcw:cw < 4294967296:=by omega
   show an (Option.bind (iter F _ (aP.zero,a17 w cw,(J:Int))) _) _
   have uin0:cF 4294967296 (a17 w cw).l:=fun i=>by
    rw [a17_l,mV]
    split
    ·exact win_ i
    ·exact Dz ⟨cw0,hcw⟩ _
   obtain ⟨u0,hu0⟩:∃ u0,u0 = a17 w cw:=⟨_,rfl⟩
   rw [← hu0] at uin0 ⊢
   have hU:win u0.l 0 17 = av a * 2 ^ s:=by
    rw [fH,← ws,MM32]
    have e1:win u0.l 0 16 = av w:=by
     rw [hu0,Ca]
     exact dn fun i hi=>by rw [a17_l,mV,if_pos (by rw [aP.bS]; exact hi)]
    have e2:dg u0.l (0 + 16) = cw:=by rw [hu0]; rfl
    rw [e1,e2]
   have hUl:win u0.l 0 17 < 4294967296 ^ (J + 1) * (4294967296 ^ (m + 1) * 2 ^ s):=by
    have g1:=oi (b:=4294967296) (by decide) (f:=dg a.l) (n:=l) fun i _=>ha i
    rw [← ham] at g1
    have g2:=Int.mul_lt_mul_of_pos_right g1 hp2
    rw [hU,← Int.mul_assoc,← Int.pow_add]
    have e1:J + 1 + (m + 1) = l:=by omega
    rw [e1]; exact g2
   have hVge:4294967296 ^ (m + 1) * 2 ^ s ≤ V:=by
    have g1:1 * 4294967296 ^ (m + 1) ≤ x * 4294967296 ^ (m + 1):=Int.mul_le_mul_of_nonneg_right (by omega) (Int.le_of_lt (lf _))
    have g2:=Int.mul_le_mul_of_nonneg_right (show 4294967296 ^ (m + 1) ≤ av b by omega) (Int.le_of_lt hp2)
    rw [hVs]; exact g2
   have hUz:∀ i,J + 1 + (m + 2) ≤ i → dg u0.l i = 0:=fun i hi=>by
    refine win_zero uin0 (n:=17) (k:=J + 1 + (m + 2)) (by rw [cA.bS]; omega) ?_ hi
    have g1:(4294967296:Int) ^ (m + 1) * 2 ^ s ≤ 4294967296 ^ (m + 1) * 4294967296:=Int.mul_le_mul_of_nonneg_left (by omega) (Int.le_of_lt (lf _))
    have g2:=Int.mul_le_mul_of_nonneg_left g1 (Int.le_of_lt (lf (J + 1)))
    rw [← Int.pow_succ,← Int.pow_add] at g2
    have g3:(4294967296:Int) ^ (J + 1 + (m + 1).succ) = 4294967296 ^ (J + 1 + (m + 2)):=rfl
    omega
   have hUt:win u0.l (J + 1) (m + 2) < V:=by
    have e1:win u0.l (J + 1) (m + 2) = win u0.l (0 + (J + 1)) (17 - (J + 1)):=by
     rw [Nat.zero_add]
     exact (qU (fun i hi=>hUz i hi) (by omega)).symm
    have e2:17 = (J + 1) + (17 - (J + 1)):=by omega
    rw [e1,← win_div uin0,← e2,Int.ediv_lt_iff_lt_mul (lf _)]
    have g1:=Int.mul_le_mul_of_nonneg_left hVge (Int.le_of_lt (lf (J + 1)))
    rw [Int.mul_comm V]
    omega
   refine an.bind (P:=fun (p:aP × cA)=>cF 4294967296 p.1.l ∧ cF 4294967296 p.2.l ∧ win u0.l 0 17 = win p.1.l 0 17 * V + win p.2.l 0 (m + 2) ∧ win p.2.l 0 (m + 2) < V ∧ ∀ i,m + 2 ≤ i → dg p.2.l i = 0)
    (an.rounds (J + 1) (fun (k:Nat) (st:aP × cA × Int)=>st.2.2 = (J:Int) - (k:Int) ∧ cF 4294967296 st.1.l ∧ cF 4294967296 st.2.1.l ∧ (∀ i,i < J + 1 - k → dg st.2.1.l i = dg u0.l i) ∧ (∀ i,J + 1 - k + (m + 2) ≤ i → dg st.2.1.l i = 0) ∧ win st.2.1.l (J + 1 - k) (m + 2) < V ∧ win u0.l (J + 1 - k) (17 - (J + 1 - k)) = win st.1.l (J + 1 - k) (17 - (J + 1 - k)) * V + win st.2.1.l (J + 1 - k) (m + 2)) (by omega) ⟨by dsimp only; omega,js,uin0,fun i _=>rfl,hUz,hUt,?_⟩ ?_) ?_
   ·dsimp only
    have e1:win aP.zero.l (J + 1 - 0) (17 - (J + 1 - 0)) = 0:=l9 fun i _=>by
     have:aP.zero.l = List.replicate 16 0:=rfl
     rw [this,dk]
    rw [e1,Int.zero_mul,Int.zero_add]
    exact qU (fun i hi=>hUz i hi) (by omega)
   ·rintro k ⟨q,u,jx⟩ hk ⟨rfl,qin,uin,ulo,uhi,ult,us⟩
    dsimp only at qin uin ulo uhi ult us
    dsimp only [kA]
    refine an.ite (fun h=>?_) (fun h=>?_)
    ·have hk':k < J + 1:=by have:=of_decide_eq_true h; omega
     obtain ⟨j,hj⟩:∃ j,j = J - k:=⟨_,rfl⟩
     have ej:(J:Int) - (k:Int) = (j:Int):=by omega
     have ej1:J + 1 - k = j + 1:=by omega
     rw [ej]
     rw [ej1] at ulo uhi ult us
     obtain ⟨R,hR⟩:∃ R,R = win u.l j (m + 3):=⟨_,rfl⟩
     have hR2:R = dg u.l j + 4294967296 * win u.l (j + 1) (m + 2):=by rw [hR]; exact win_cons u.l j (m + 2)
     have hdj:=uin j
     have hRV:R < 4294967296 * V:=by omega
     have hR0:0 ≤ R:=by rw [hR]; exact gz uin _ _
     obtain ⟨t,ht⟩:∃ t,t = R / V:=⟨_,rfl⟩
     have ht0:0 ≤ t:=by rw [ht]; exact Int.ediv_nonneg hR0 (by omega)
     have ht1:t < 4294967296:=by rw [ht,Int.ediv_lt_iff_lt_mul hVp]; exact hRV
     have hRt:t * V ≤ R:=by rw [ht]; exact Int.ediv_mul_le _ (by omega)
     have hRt1:R < (t + 1) * V:=by rw [ht]; exact Int.lt_ediv_add_one_mul_self _ hVp
     have e9:(t + 1) * V = t * V + V:=by grind
     rw [e9] at hRt1
     refine an.bind (P:=fun p=>p.1 = q.set (j:Int) t ∧ cF 4294967296 p.2.l ∧ rp u p.2 j (m + 2) ∧ win p.2.l j (m + 3) = R - t * V) (yy hF (j:=j) (by omega) (by omega) vin uin hVw (by rw [hVs]; exact hn1) hR hRV ht ?_) ?_
     ·intro w1 g1 g2 g3
      refine an.idx (by omega) (by rw [aP.bS]; omega) (an.some ⟨?_,g1,g2,g3⟩)
      dsimp only
      rw [kF]
      congr 1
      omega
     ·rintro ⟨q1,u1⟩ ⟨rfl,u1in,u1o,u1w⟩
      dsimp only at u1in u1o u1w
      dsimp only [b7]
      have hVB:V < 4294967296 ^ (m + 2):=by rw [hVs]; exact hn2
      have htop:dg u1.l (j + (m + 2)) = 0 ∧ win u1.l j (m + 2) = R - t * V:=by
       have e1:win u1.l j (m + 3) = win u1.l j (m + 2) + dg u1.l (j + (m + 2)) * 4294967296 ^ (m + 2):=fH _ _ _
       have g1:=gz u1in j (m + 2)
       have g2:=u1in (j + (m + 2))
       rcases (by omega:dg u1.l (j + (m + 2)) = 0 ∨ 1 ≤ dg u1.l (j + (m + 2))) with g | g
       ·rw [g] at e1
        exact ⟨g,by omega⟩
       ·have:=Int.mul_le_mul_of_nonneg_right g (Int.le_of_lt (lf (m + 2)))
        omega
      have ej2:J + 1 - (k + 1) = j:=by omega
      refine an.some (.inl ⟨_,rfl,⟨by dsimp only; rw [cn]; omega,jb qin (by omega) (by omega) ⟨ht0,ht1⟩,u1in,fun i hi=>?_,fun i hi=>?_,?_,?_⟩,hk'⟩)
      ·dsimp only
       rw [ej2] at hi
       rw [u1o i (.inl hi),ulo i (by omega)]
      ·dsimp only
       rw [ej2] at hi
       by_cases e:i = j + (m + 2)
       ·rw [e]; exact htop.1
       ·rw [u1o i (.inr (by omega)),uhi i (by omega)]
      ·dsimp only
       rw [ej2,htop.2]; omega
      ·dsimp only
       rw [ej2,htop.2]
       have e1:17 - j = 17 - (j + 1) + 1:=by omega
       rw [e1,win_cons u0.l,win_cons (q.set (j:Int) t).l,us]
       have e2:dg (q.set (j:Int) t).l j = t:=by rw [eV (by omega) (by omega),Int.toNat_natCast,if_pos rfl]
       have e3:win (q.set (j:Int) t).l (j + 1) (17 - (j + 1)) = win q.l (j + 1) (17 - (j + 1)):=vi fun i h1 h2=>by rw [eV (by omega) (by omega),Int.toNat_natCast,if_neg (by omega)]
       rw [e2,e3,← ulo j (by omega),hR2]
       grind
    ·have hk':k = J + 1:=by have:=of_decide_eq_false h; omega
     subst hk'
     have e0:J + 1 - (J + 1) = 0:=by omega
     rw [e0] at uhi ult us
     exact an.some (.inr ⟨_,rfl,qin,uin,us,ult,fun i hi=>uhi i (by omega)⟩)
   ·rintro ⟨q,u⟩ ⟨qin,uin,us,ult,uz⟩
    dsimp only at qin uin us ult uz
    dsimp only [b7]
    have hain:cF 4294967296 (zX u).l:=fun i=>by
     rw [a16_l,nG]
     split
     ·exact uin i
     ·decide
    have hav:av (zX u) = win u.l 0 (m + 2):=by
     rw [← qU (k:=16) (fun i hi=>uz i (by omega)) (by omega),Ca]
     exact dn fun i hi=>by rw [a16_l,nG,if_pos hi]
    have hq:win q.l 0 17 = av q:=by
     rw [Ca]
     exact ze (fun i hi=>oo (by rw [aP.bS]; exact hi)) (by omega)
    rw [hU,hq,hVs] at us
    have hR0:0 ≤ win u.l 0 (m + 2):=gz uin _ _
    have hrs:win u.l 0 (m + 2) = (av a - av q * av b) * 2 ^ s:=by
     have e1:(av a - av q * av b) * 2 ^ s = av a * 2 ^ s - av q * (av b * 2 ^ s):=by grind
     omega
    have hdiv:win u.l 0 (m + 2) / 2 ^ s = av a - av q * av b:=by rw [hrs,Int.mul_ediv_cancel _ (by omega)]
    have hr0:0 ≤ av a - av q * av b:=by rw [← hdiv]; exact Int.ediv_nonneg hR0 (by omega)
    have hr1:av a - av q * av b < av b:=by
     rw [hrs,hVs] at ult
     exact Int.lt_of_mul_lt_mul_right ult (by omega)
    obtain ⟨d1,d2⟩:=yx (A:=av a) (B:=av b) (q:=av q) (r:=av a - av q * av b) (by omega) hr0 hr1
    show an (Option.bind (mG F (zX u) (s:Int)) _) _
    refine an.aB (down_y (by omega) hain hs31) (an.some ?_)
    rw [hav,hdiv,d1,d2,ot qin]
theorem B1 {F:Nat} (hF:18446744073709551616 < F) {x y:bt} (hx:kC x) (hy:kC y):kg F x y = some (two uR x y,two remO x y):=by
 refine an.eq ?_
 unfold kg two
 refine an.aB (Ac (by omega) x y) ?_
 cases ha:iv x with
 | none=>simp only [cR ha,Bool.false_and,Bool.not_false,Bool.not_true]; exact an.g0 rfl (an.fU (by simp) (an.aB (j6 F) (an.aB (j6 F) (an.some rfl))))
 | some a=>
  cases hb:iv y with
  | none=>simp only [cR hb,Bool.and_false,Bool.not_false,Bool.not_true]; exact an.g0 rfl (an.fU (by simp) (an.aB (j6 F) (an.aB (j6 F) (an.some rfl))))
  | some b=>
   obtain ⟨ga,rfl,ra⟩:=cu hx ha
   obtain ⟨gb,rfl,rb⟩:=cu hy hb
   obtain ⟨wa,na⟩:=cT ra
   obtain ⟨wb,nb⟩:=cT rb
   have hsb:hE F (cm b) = some (yC b):=by rw [Df (by omega) (bc b),hb]
   simp only [ga,gb,Bool.and_self,Bool.not_true,Bool.not_false]
   refine an.g1 rfl (an.aB hsb ?_)
   have hsg:yC b = 0 ↔ b = 0:=by unfold yC; split <;> (try split) <;> omega
   rw [Bool.false_or]
   refine an.ite (fun h=>?_) (fun h=>?_)
   ·have hz:b = 0:=hsg.1 (of_decide_eq_true h)
    refine an.aB (j6 F) (an.aB (j6 F) (an.some ?_))
    simp only [uR,remO,hz,if_true,uO]
   ·have hz:b ≠ 0:=fun e=>(of_decide_eq_false h) (hsg.2 e)
    clear h
    simp only [uR,remO,hz,if_false,uO]
    obtain ⟨t1,t2⟩:=tq a hz
    have hB:=kf hz
    have hm0:=Int.emod_nonneg (aJ a) (show aJ b ≠ 0 by omega)
    have hm1:=Int.emod_lt_of_pos (aJ a) hB
    have hq0:0 ≤ aJ a / aJ b:=Int.ediv_nonneg (dq a) (by omega)
    have hq1:aJ a / aJ b ≤ aJ a:=Int.ediv_le_self _ (dq a)
    have hsa:jh F (cm a) = some (if -9223372036854775808 ≤ a ∧ a ≤ 9223372036854775807 then (a,true) else (0,false)):=by rw [Bi (by omega) (bc a),ha]
    have hsb2:jh F (cm b) = some (if -9223372036854775808 ≤ b ∧ b ≤ 9223372036854775807 then (b,true) else (0,false)):=by rw [Bi (by omega) (bc b),hb]
    refine an.bind (P:=fun r=>match r with | .inl _=>True | .inr z=>z = (cm (fq a b),cm (fr a b))) ?_ ?_
    ·refine an.aB hsa ?_
     by_cases h1:-9223372036854775808 ≤ a ∧ a ≤ 9223372036854775807
     ·rw [if_pos h1]
      dsimp only [b7]
      refine an.ite (fun h=>?_) (fun h=>?_)
      ·have h2:a ≠ -9223372036854775808:=by simpa using h
       refine an.aB hsb2 ?_
       by_cases h3:-9223372036854775808 ≤ b ∧ b ≤ 9223372036854775807
       ·rw [if_pos h3]
        dsimp only [b7]
        refine an.ite (fun h=>?_) (fun h=>?_)
        ·have h4:b ≠ -9223372036854775808:=by simpa using h
         have habs:aJ a ≤ 9223372036854775807:=by unfold aJ; split <;> omega
         have hbbs:aJ b ≤ 9223372036854775807:=by unfold aJ; split <;> omega
         refine an.quo hz (an.rem hz ?_)
         have hw:IntKind.i64.wrap (Int.tdiv a b) = Int.tdiv a b:=by rw [t1]; split <;> rw [dm (by omega) (by omega)]
         rw [hw]
         have hf1:=fq_abs (a:=a) hz
         have hf2:=(xI (a:=a) hz).1
         refine an.bind (P:=fun p=>p = (fq a b,fr a b)) (an.ln ?_) ?_
         ·unfold fq fr
          dsimp only
          rw [t1,t2]
          generalize aJ a / aJ b = q at *
          generalize aJ a % aJ b = r at *
          refine an.ite (fun h=>?_) (fun h=>?_)
          ·simp only [Bool.and_eq_true,decide_eq_true_eq] at h
           obtain ⟨g1,g2⟩:=h
           have hr0:r ≠ 0:=by split at g1 <;> omega
           have e1:decide ((if a < 0 then -r else r) < 0) = decide (a < 0):=by rw [decide_eq_decide]; split <;> omega
           rw [e1] at g2
           refine an.some ?_
           rw [g2,if_pos rfl,if_pos rfl,if_neg hr0]
           have e2:(true && !decide (r = 0)) = true:=by simp [hr0]
           rw [if_pos e2]
           by_cases hla:a < 0
           ·have hlb:¬ b < 0:=fun hlb=>by simp [hla,hlb] at g2
            have eb:aJ b = b:=if_neg hlb
            rw [if_pos hla,if_neg hlb,dm (by omega) (by omega),dm (by omega) (by omega)]
            simp only [Prod.mk.injEq]
            omega
           ·have hlb:b < 0:=by
             by_cases hlb:b < 0
             ·exact hlb
             ·simp [hla,hlb] at g2
            have eb:aJ b = -b:=if_pos hlb
            rw [if_neg hla,if_pos hlb,dm (by omega) (by omega),dm (by omega) (by omega)]
            simp only [Prod.mk.injEq]
            omega
          ·refine an.some ?_
           by_cases hr0:r = 0
           ·subst hr0
            have e3:(if a < 0 then -(0:Int) else 0) = 0:=by split <;> rfl
            rw [e3]
            simp
           ·have e1:decide ((if a < 0 then -r else r) < 0) = decide (a < 0):=by rw [decide_eq_decide]; split <;> omega
            have e4:decide ((if a < 0 then -r else r) ≠ 0) = true:=decide_eq_true (by split <;> omega)
            rw [e1,e4,Bool.true_and] at h
            have hab:decide (a < 0) = decide (b < 0):=by simpa using h
            have hab2:(a < 0) = (b < 0):=propext (decide_eq_decide.1 hab)
            rw [h]
            simp only [Bool.false_eq_true,if_false,Bool.false_and,hab2]
         ·rintro ⟨q,r⟩ he
          cases he
          dsimp only [b7]
          have hA:-9223372036854775807 ≤ fq a b ∧ fq a b ≤ 9223372036854775807:=by unfold aJ at hf1 habs; split at hf1 <;> (split at habs <;> omega)
          have hA2:-9223372036854775807 ≤ fr a b ∧ fr a b ≤ 9223372036854775807:=by unfold aJ at hf2 hbbs; split at hf2 <;> (split at hbbs <;> omega)
          exact an.aB (yJ F (by omega) (by omega)) (an.aB (yJ F (by omega) (by omega)) (an.some rfl))
        ·exact an.some trivial
       ·rw [if_neg h3]
        exact an.iff rfl (an.some trivial)
      ·exact an.some trivial
     ·rw [if_neg h1]
      exact an.iff rfl (an.some trivial)
    ·rintro (u | z) hz2
     ·clear hz2 hsa hsb2
      have hW0:av (cm b).W ≠ 0:=by rw [wb]; show aJ b ≠ 0; omega
      refine an.aB (uw hF (bc a) (bc b) hW0) ?_
      have wa':av (cm a).W = aJ a:=wa
      have wb':av (cm b).W = aJ b:=wb
      rw [wa',wb',na,nb]
      dsimp only [b7]
      have hla:=pK ra
      have hlb:=pK rb
      refine an.aB (gg F _ (kp _)) ?_
      have hqm:aJ a / aJ b % MM = aJ a / aJ b:=Int.emod_eq_of_lt hq0 (by omega)
      have hrm:aJ a % aJ b % MM = aJ a % aJ b:=Int.emod_eq_of_lt hm0 (by omega)
      rw [jc,hqm]
      have hrz:decide (rX (aJ a % aJ b) ≠ aP.zero) = !decide (aJ a % aJ b = 0):=by
       rw [Bool.eq_iff_iff]
       simp only [decide_eq_true_eq,Bool.not_eq_true',decide_eq_false_iff_not]
       exact not_congr (kM hm0 (by omega))
      rw [hrz]
      refine an.bind (P:=fun p=>p = (rX (if ((decide (a < 0) != decide (b < 0)) && !decide (aJ a % aJ b = 0)) = true then aJ b - aJ a % aJ b else aJ a % aJ b),cm (fq a b))) ?_ ?_
      ·unfold fq
       generalize hQ:aJ a / aJ b = q at *
       generalize hR:aJ a % aJ b = r at *
       refine an.ite (fun h=>?_) (fun h=>?_)
       ·simp only [Bool.and_eq_true,Bool.not_eq_true',decide_eq_false_iff_not] at h
        obtain ⟨g1,g2⟩:=h
        rw [g2,if_pos rfl,if_pos rfl,if_neg g1]
        have e2:(true && !decide (r = 0)) = true:=by simp [g1]
        rw [if_pos e2]
        refine an.aB (yJ F (by decide) (by decide)) ?_
        have hs1:pw F (cm (-q)) (cm 1) = some (cm (-q - 1)):=by
         rw [Sub_y (by omega) (bc _) (bc _),np (by omega) (by have:=qy; omega)]; rfl
        refine an.aB hs1 ?_
        have hmin:jg F (cm b).W (rX r) = some (rX (aJ b - r)):=by
         rw [wj (by omega) (bc b) (kp r) (by rw [jc,hrm,wb']; omega),jc,hrm,wb']
        refine an.aB hmin (an.some ?_)
        have e5:-q - 1 = -(q + 1):=by omega
        rw [e5]
       ·refine an.some ?_
        cases hs:(decide (a < 0) != decide (b < 0)) with
        | false=>simp
        | true=>
         have hr0:r = 0:=by rw [hs] at h; simpa using h
         subst hr0
         simp
      ·rintro ⟨r',q'⟩ he
       cases he
       dsimp only [b7]
       refine an.aB (gg F _ (kp _)) (an.some ?_)
       have hrr:0 ≤ (if ((decide (a < 0) != decide (b < 0)) && !decide (aJ a % aJ b = 0)) = true then aJ b - aJ a % aJ b else aJ a % aJ b) ∧ (if ((decide (a < 0) != decide (b < 0)) && !decide (aJ a % aJ b = 0)) = true then aJ b - aJ a % aJ b else aJ a % aJ b) < MM:=by split <;> omega
       rw [jc,Int.emod_eq_of_lt hrr.1 hrr.2]
       simp only [fr,decide_eq_true_eq]
     ·exact an.some hz2
theorem Quo_y {F:Nat} (hF:18446744073709551616 < F) {x y:bt} (hx:kC x) (hy:kC y):kG F x y = some (two uR x y):=by
 unfold kG
 rw [B1 hF hx hy]
 rfl
end Go.Proofs.YtcbbilehdaaffaaGreatDoor
namespace Go.Sk
set_option linter.unusedSimpArgs false
set_option linter.unusedVariables false
theorem jB (a:Int):aJ a = (a.natAbs:Int):=by unfold aJ; split <;> omega
theorem rr (X Y:Nat):Nat.gcd X Y = Nat.gcd Y (X % Y):=by rw [Nat.gcd_comm X Y,Nat.gcd_rec Y X,Nat.gcd_comm]
theorem val2 {w:aP} (h:∀ i,2 ≤ i → i < 16 → dg w.l i = 0):av w = w.a0 + w.a1 * 4294967296:=by
 have e:av w = ds 4294967296 (dg w.l) 2:=lm (by omega) fun i h1 h2=>h i h1 h2
 rw [e]
 simp [ds]
 rfl
end Go.Sk
namespace Go.Proofs.YtcbbilehdaaffaaGreatDoor
open Go Go.Sk
set_option linter.unusedSimpArgs false
set_option linter.unusedVariables false
theorem C4 {F:Nat} (hF:18446744073709551616 < F):∀ (n:Nat) {a b:Int},-MM < a ∧ a < MM → -MM < b ∧ b < MM → b.natAbs < n → nm F n (cm a) (cm b) = some (cm (Nat.gcd a.natAbs b.natAbs:Nat))
 | 0,a,b,_,_,h=>absurd h (Nat.not_lt_zero _)
 | n + 1,a,b,ra,rb,hn=>by
  refine an.eq ?_
  unfold nm
  obtain ⟨wa,na⟩:=cT ra
  obtain ⟨wb,nb⟩:=cT rb
  have wa':av (cm a).W = aJ a:=wa
  have wb':av (cm b).W = aJ b:=wb
  have ia:=bc a
  have ib:=bc b
  have hla:=pK ra
  have hlb:=pK rb
  refine an.aB (Ac (by omega) _ _) ?_
  rw [mU ra,mU rb]
  refine an.iff rfl ?_
  refine an.bind (P:=fun r=>match r with | .inl _=>True | .inr z=>z = cm (Nat.gcd a.natAbs b.natAbs:Nat)) ?_ ?_
  ·refine an.bind (qu (by omega)) ?_
   rintro sa ⟨sa0,sa1,saz,_⟩
   by_cases h1:sa ≤ 2
   ·rw [decide_eq_true h1]
    refine an.g1 rfl (an.bind (qu (by omega)) ?_)
    rintro sb ⟨sb0,sb1,sbz,_⟩
    refine an.ite (fun h=>?_) (fun h=>an.some trivial)
    have h2:sb ≤ 2:=by simpa using h
    have va:=val2 (w:=(cm a).W) fun i g1 g2=>saz i (by omega) g2
    have vb:=val2 (w:=(cm b).W) fun i g1 g2=>sbz i (by omega) g2
    rw [wa'] at va
    rw [wb'] at vb
    have a0:=ia 0
    have a1:=ia 1
    have b0:=ib 0
    have b1:=ib 1
    generalize (cm a).W = A at *
    generalize (cm b).W = B at *
    have e0:dg A.l 0 = A.a0:=rfl
    have e1:dg A.l 1 = A.a1:=rfl
    have e2:dg B.l 0 = B.a0:=rfl
    have e3:dg B.l 1 = B.a1:=rfl
    rw [e0] at a0
    rw [e1] at a1
    rw [e2] at b0
    rw [e3] at b1
    have wr:∀ x y:Int,0 ≤ x ∧ x < 4294967296 → 0 ≤ y ∧ y < 4294967296 → lU .u64 (IntKind.u64.wrap ((IntKind.u64.wrap y) * 4294967296)) (IntKind.u64.wrap x) = x + y * 4294967296:=fun x y hx hy=>by
     have q1:IntKind.u64.wrap ((IntKind.u64.wrap y) * 4294967296) = y * 4294967296:=by simp only [gq]; omega
     have q2:IntKind.u64.wrap x = x:=by rw [gq]; omega
     rw [q1,q2,nw 32 (by omega) (by omega) (by rw [zW]; omega) hx.1 (by rw [zW]; omega) (by omega)]
     omega
    rw [wr _ _ a0 a1,wr _ _ b0 b1,← va,← vb]
    have la:aJ a < 18446744073709551616:=by omega
    have lb:aJ b < 18446744073709551616:=by omega
    rw [jB] at la lb ⊢
    rw [jB b]
    refine an.bind (P:=fun x=>x = ((Nat.gcd a.natAbs b.natAbs:Nat):Int)) (an.loop (fun (s:Int × Int)=>∃ X Y:Nat,s = ((X:Int),(Y:Int)) ∧ Nat.gcd X Y = Nat.gcd a.natAbs b.natAbs ∧ Y < 18446744073709551616) (fun s=>s.2.toNat) ⟨_,_,rfl,rfl,by omega⟩ (by dsimp only; omega) ?_) ?_
    ·rintro s ⟨X,Y,rfl,hg,hY⟩
     dsimp only [b7]
     refine an.ite (fun h=>?_) (fun h=>?_)
     ·have hy:(Y:Int) ≠ 0:=of_decide_eq_true h
      refine an.rem hy ?_
      rw [eO (by omega)]
      have hm:X % Y < Y:=Nat.mod_lt _ (by omega)
      refine an.some (.inl ⟨_,rfl,⟨Y,X % Y,by rw [Int.natCast_emod],?_,by omega⟩,?_⟩)
      ·rw [← hg,← rr]
      ·dsimp only
       rw [← Int.natCast_emod]; omega
     ·have hy:(Y:Int) = 0:=by have:=of_decide_eq_false h; omega
      have hy0:Y = 0:=by omega
      subst hy0
      refine an.some (.inr ⟨_,rfl,?_⟩)
      rw [← hg,Nat.gcd_zero_right]
    ·rintro x rfl
     have hgl:Nat.gcd a.natAbs b.natAbs < 18446744073709551616:=by
      by_cases e:a.natAbs = 0
      ·rw [e,Nat.gcd_zero_left]; omega
      ·have:=Nat.gcd_le_left b.natAbs (show 0 < a.natAbs by omega); omega
     generalize Nat.gcd a.natAbs b.natAbs = G at *
     have g1:IntKind.u32.wrap (G:Int) = (G:Int) % 4294967296:=kF _
     have g2:IntKind.u32.wrap ((G:Int) / 4294967296) = (G:Int) / 4294967296:=by rw [kF]; omega
     rw [g1,g2]
     refine an.ln (an.aB (gg F _ (yU (by omega) (by omega))) (an.some ?_))
     rw [zh]
     simp only [Bool.false_eq_true,if_false]
     congr 1
     omega
   ·rw [decide_eq_false h1]
    exact an.g0 rfl (an.iff rfl (an.some trivial))
  ·rintro (u | z) hz
   ·have hz0:decide ((cm b).W ≠ aP.zero) = !decide (b = 0):=by
     rw [Bool.eq_iff_iff]
     simp only [decide_eq_true_eq,Bool.not_eq_true',decide_eq_false_iff_not]
     have:=lq ib
     rw [wb',pU] at this
     exact not_congr this
    show an (if decide ((cm b).W ≠ aP.zero) = true then _ else _) _
    rw [hz0]
    refine an.ite (fun h=>?_) (fun h=>?_)
    ·have hb0:b ≠ 0:=by simpa using h
     have hB:=kf hb0
     have hm0:=Int.emod_nonneg (aJ a) (show aJ b ≠ 0 by omega)
     have hm1:=Int.emod_lt_of_pos (aJ a) hB
     refine an.aB (uw hF ia ib (by rw [wb']; omega)) ?_
     dsimp only [b7]
     refine an.aB (gg F _ ib) (an.aB (gg F _ (kp _)) ?_)
     simp only [Bool.false_eq_true,if_false,wa',wb',jc]
     rw [Int.emod_eq_of_lt hm0 (by omega)]
     have hrec:=C4 hF n (a:=aJ b) (b:=aJ a % aJ b) (by omega) (by omega) (by rw [jB b] at *; omega)
     refine an.aB hrec (an.some ?_)
     have e1:(aJ b).natAbs = b.natAbs:=by rw [jB]; omega
     have e2:(aJ a % aJ b).natAbs = a.natAbs % b.natAbs:=by rw [jB,jB,← Int.natCast_emod]; omega
     rw [e1,e2,← rr]
    ·have hb0:b = 0:=by simpa using h
     subst hb0
     have habs:py F (cm a) = some (cm (aJ a)):=by rw [Abs_y (by omega) ia,q8 ra]; rfl
     refine an.aB habs (an.some ?_)
     rw [jB]
     simp
   ·exact an.some hz
theorem Gcd_y {F:Nat} (hF:18446744073709551616 < F) {a b:Int} (ra:-MM < a ∧ a < MM) (rb:-MM < b ∧ b < MM) (hb:b.natAbs < F):px F (cm a) (cm b) = some (cm (Nat.gcd a.natAbs b.natAbs:Nat)):=C4 hF F ra rb hb
end Go.Proofs.YtcbbilehdaaffaaGreatDoor
namespace Go.Sk
def Cd:Nat → Nat → bg
 | 0,_=>[]
 | f + 1,u=>if u < 10 then [UInt8.ofNat (48 + u)] else Cd f (u / 10) ++ [UInt8.ofNat (48 + u % 10)]
theorem wM:∀ (f u:Nat),u < f → Cd f u = Lib.decDigits u
 | 0,u,h=>absurd h (Nat.not_lt_zero u)
 | f + 1,u,h=>by
  rw [Lib.decDigits]
  unfold Cd
  split
  ·rfl
  ·rw [wM f (u / 10) (by omega)]
def Ab (n:Int):bg:=if n < 0 then 45 :: Cd (n.natAbs + 1) n.natAbs else Cd (n.toNat + 1) n.toNat
theorem DO (n:Int):Lib.itoa n = Ab n:=by
 unfold Ab Lib.itoa
 rw [wM _ _ (Nat.lt_succ_self _),wM _ _ (Nat.lt_succ_self _)]
def yT (n:Int):Option bg:=if (Ab n).length ≤ 1000000000 then some (Ab n) else none
theorem BS:u7 = yT:=by
 funext n
 unfold u7 yT
 rw [DO]
end Go.Sk
namespace Go.Proofs.YtcbbilehdaaffaaGreatDoor
open Go Go.Sk
set_option maxRecDepth 100000
def FF:Nat:=13407807929942597099574024998205846127479365820592393377723561443721764030073546976801874298166903427690031858186486050853753882811946569946433649006084097
theorem FF1:100 < FF:=by decide +kernel
theorem vE:100000 < FF:=by decide +kernel
theorem DN:fm = fun _ n=>yT n:=by
 funext F n
 unfold fm
 rw [BS]
end Go.Proofs.YtcbbilehdaaffaaGreatDoor
namespace Go.Proofs.YtcbbilehdaaffaaGreatDoor
open Go Go.Sk
set_option linter.unusedSimpArgs false
set_option linter.unusedVariables false
theorem FFb:18446744073709551616 < FF:=by decide +kernel
theorem FF_MM:MM < FF:=by rw [vg]; decide +kernel
abbrev lV (a:Int):Prop:=-MM < a ∧ a < MM
theorem Mul_v {a b:Int} (ra:lV a) (rb:lV b):jt FF (cm a) (cm b) = some (cm (a * b)):=by rw [Mul_y FF1 (bc a) (bc b),np ra rb]; rfl
theorem zk {a:Int} (ra:lV a):hE FF (cm a) = some (yC a):=by rw [Df FF1 (bc a),gZ ra]
theorem Quo_v {a b:Int} (ra:lV a) (rb:lV b) (h:b ≠ 0):kG FF (cm a) (cm b) = some (cm (fq a b)):=by rw [Quo_y FFb (bc a) (bc b),np ra rb]; simp only [uR,h,if_false]; rfl
theorem Gcd_v {a b:Int} (ra:lV a) (rb:lV b):px FF (cm a) (cm b) = some (cm (Nat.gcd a.natAbs b.natAbs:Nat)):=Gcd_y FFb ra rb (by have:=FF_MM; omega)
theorem Of_v {n:Int} (h0:-9223372036854775808 ≤ n) (h1:n ≤ 9223372036854775807):ja FF n = some (cm n):=yJ FF h0 h1
theorem pC:lV 1:=by have:=qy; constructor <;> omega
theorem xl:lV 0:=by have:=qy; constructor <;> omega
theorem DV (n m:Int):Nat.gcd n.natAbs m.natAbs = Nat.gcd m.natAbs (n.tmod m).natAbs:=by
 rw [Int.natAbs_tmod]; exact rr _ _
theorem tmod_lt {n m:Int} (h:m ≠ 0):(n.tmod m).natAbs < m.natAbs:=by
 rw [Int.natAbs_tmod]; exact Nat.mod_lt _ (by omega)
theorem CH {a b:Int} (ra:lV a) (rb:lV b):mI FF (cm a) (cm b) = some (cm (Nat.gcd a.natAbs b.natAbs:Nat)):=by
 have hF:=vE
 have hFb:=FFb
 refine an.eq ?_
 unfold mI
 refine an.aB (pr hF (bc a)) ?_
 rw [gZ ra]
 generalize hp:wd (some a) = wx
 obtain ⟨p,p'⟩:=wx
 refine an.aB (pr hF (bc b)) ?_
 rw [gZ rb]
 generalize hq:wd (some b) = wy
 obtain ⟨q,q'⟩:=wy
 dsimp only [b7]
 refine an.bind (P:=fun o=>o = .inr (cm (Nat.gcd a.natAbs b.natAbs:Nat)) ∨ o = .inl ()) (an.ite (fun h=>?_) (fun h=>?_)) ?_
 ·simp only [Bool.and_eq_true] at h
  obtain ⟨rfl,rfl⟩:=h
  obtain ⟨ea,la⟩:=pu hp
  obtain ⟨eb,lb⟩:=pu hq
  cases ea; cases eb
  have la':a.natAbs < 4611686018427387904:=by unfold aJ at la; split at la <;> omega
  have lb':b.natAbs < 4611686018427387904:=by unfold aJ at lb; split at lb <;> omega
  refine an.bind (P:=fun z:Int=>z.natAbs = Nat.gcd a.natAbs b.natAbs ∧ z.natAbs < 4611686018427387904) (an.loop (fun s:Int × Int=>Nat.gcd s.1.natAbs s.2.natAbs = Nat.gcd a.natAbs b.natAbs ∧ s.1.natAbs < 4611686018427387904 ∧ s.2.natAbs < 4611686018427387904) (fun s=>s.2.natAbs) ⟨rfl,la',lb'⟩ (by dsimp only; omega) ?_) ?_
  ·rintro ⟨n,m⟩ ⟨h1,h2,h3⟩
   dsimp only at h1 h2 h3
   dsimp only [b7]
   refine an.ite (fun h=>?_) (fun h=>?_)
   ·have hm:m ≠ 0:=of_decide_eq_true h
    have:=tmod_lt (n:=n) hm
    refine an.rem hm (an.some (.inl ⟨_,rfl,⟨by dsimp only; rw [← DV]; exact h1,h3,by dsimp only; omega⟩,this⟩))
   ·have hm:m = 0:=by have:=of_decide_eq_false h; omega
    subst hm
    refine an.some (.inr ⟨_,rfl,?_,h2⟩)
    simpa using h1
  ·rintro z ⟨hz,hl⟩
   refine an.aB (z6 hF (by omega) (by omega)) (an.aB (x:=cm (Nat.gcd a.natAbs b.natAbs:Nat)) ?_ (an.some (.inl rfl)))
   rw [rAbs_y hF (bc z),q8 (by have:=qy; constructor <;> omega),← hz]
   unfold aJ uO
   dsimp only
   congr 2
   split <;> omega
 ·exact an.some (.inr rfl)
 ·rintro o (rfl | rfl)
  ·exact an.some rfl
  ·dsimp only [j4]
   refine an.aB (gU hF (bc a)) ?_
   rw [mU ra]
   refine an.g1 rfl (an.aB (gU hF (bc b)) ?_)
   rw [mU rb]
   refine an.iff rfl (an.bind (p6 hF ra) ?_)
   rintro c ⟨c1,c2,c3,c4⟩
   refine an.bind (p6 hF rb) ?_
   rintro d ⟨d1,d2,d3,d4⟩
   have hm:(lv d).toNat < FF:=by
    have h1:=(pK rb).2
    have h2:=FF_MM
    rw [d3]; omega
   refine an.bind (P:=fun x:List Int=>cF 65536 x ∧ x.length ≤ 99 ∧ lv x = (Nat.gcd a.natAbs b.natAbs:Nat)) (an.loop (fun s:List Int × List Int=>(cF 65536 s.1 ∧ s.1.length ≤ 99) ∧ (cF 65536 s.2 ∧ jJ s.2 ∧ s.2.length ≤ 99) ∧ Nat.gcd (lv s.1).natAbs (lv s.2).natAbs = Nat.gcd a.natAbs b.natAbs) (fun s=>(lv s.2).toNat) ⟨⟨c1,by dsimp only; omega⟩,⟨d1,d2,by dsimp only; omega⟩,by dsimp only; rw [c3,d3,jB,jB]; rfl⟩ hm ?_) ?_
   ·rintro ⟨x,y⟩ ⟨⟨x1,x2⟩,⟨y1,y2,y3⟩,hg⟩
    dsimp only at x1 x2 y1 y2 y3 hg
    dsimp only [b7]
    have hy:=nv y1 y2
    have ny:=fC y1
    have nx:=fC x1
    refine an.ite (fun h=>?_) (fun h=>?_)
    ·have h':=of_decide_eq_true h
     have hl:0 < y.length:=by omega
     refine an.bind (xO hF x1 y1 y2 hl (by omega) (by omega)) ?_
     rintro ⟨q,r⟩ ⟨⟨q1,q2,q3⟩,⟨r1,r2,r3⟩,e1,e2⟩
     dsimp only at q1 q2 q3 r1 r2 r3 e1 e2
     dsimp only [b7]
     have nr:=fC r1
     obtain ⟨m1,m2⟩:=uG e1 nr e2
     refine an.some (.inl ⟨_,rfl,⟨⟨y1,y3⟩,⟨r1,r2,?_⟩,?_⟩,?_⟩)
     ·dsimp only; omega
     ·dsimp only
      rw [← hg,← m2,rr (lv x).natAbs]
      congr 1
      have:=Int.natAbs_emod_of_nonneg (a:=lv x) (b:=lv y) nx
      omega
     ·dsimp only; omega
    ·have h':=of_decide_eq_false h
     have hz:lv y = 0:=by
      by_cases e:lv y = 0
      ·exact e
      ·have:=hy.2 e; omega
     refine an.some (.inr ⟨_,rfl,x1,x2,?_⟩)
     rw [hz] at hg
     simp only [Int.natAbs_zero,Nat.gcd_zero_right] at hg
     omega
   ·rintro x ⟨x1,x2,x3⟩
    refine an.aB (xe hF _ (by omega) x1) (an.some ?_)
    rw [x3]; simp
end Go.Proofs.YtcbbilehdaaffaaGreatDoor
namespace Go.Sk
set_option linter.unusedSimpArgs false
set_option linter.unusedVariables false
theorem ye {n d g:Nat} (hg:g = Nat.gcd n d) (h0:0 < g):Nat.gcd (n / g) (d / g) = 1:=by
 obtain ⟨a,ha⟩:g ∣ n:=hg ▸ Nat.gcd_dvd_left n d
 obtain ⟨b,hb⟩:g ∣ d:=hg ▸ Nat.gcd_dvd_right n d
 have e1:n / g = a:=by rw [ha,Nat.mul_div_cancel_left _ h0]
 have e2:d / g = b:=by rw [hb,Nat.mul_div_cancel_left _ h0]
 rw [e1,e2]
 have e3:=Nat.gcd_mul_left g a b
 rw [← ha,← hb,← hg] at e3
 have e4:g * 1 = g * Nat.gcd a b:=by omega
 exact (Nat.eq_of_mul_eq_mul_left h0 e4).symm
theorem den_pos (r:Rat):(0:Int) < r.den:=by have:=r.den_nz; omega
theorem qN {n d:Int} (h0:0 < d) (hc:Nat.gcd n.natAbs d.natAbs = 1):(Rat.divInt n d).num = n ∧ ((Rat.divInt n d).den:Int) = d:=by
 have key:=Rat.num_divInt_den ⟨n,d.natAbs,by omega,hc⟩
 have e:((d.natAbs:Nat):Int) = d:=by omega
 dsimp only at key
 rw [e] at key
 rw [key]
 exact ⟨rfl,e⟩
def mj (n d:Int):Int:=if d < 0 then -(Nat.gcd n.natAbs d.natAbs:Nat) else (Nat.gcd n.natAbs d.natAbs:Nat)
theorem red {n d:Int} (hd:d ≠ 0):mj n d ≠ 0 ∧ (Rat.divInt n d).num * mj n d = n ∧ ((Rat.divInt n d).den:Int) * mj n d = d:=by
 have g0:0 < Nat.gcd n.natAbs d.natAbs:=Nat.gcd_pos_of_pos_right _ (by omega)
 have hc:=ye (n:=n.natAbs) (d:=d.natAbs) rfl g0
 have d1:=Nat.div_mul_cancel (Nat.gcd_dvd_left n.natAbs d.natAbs)
 have d2:=Nat.div_mul_cancel (Nat.gcd_dvd_right n.natAbs d.natAbs)
 generalize hg:Nat.gcd n.natAbs d.natAbs = g at *
 generalize n.natAbs / g = a at *
 generalize hb:d.natAbs / g = b at *
 have b0:0 < b:=by
  rcases Nat.eq_zero_or_pos b with e | e
  ·subst e; omega
  ·exact e
 have e0:mj n d = if d < 0 then -(g:Int) else g:=by unfold mj; rw [hg]
 have d1':(a:Int) * g = n.natAbs:=by rw [← d1]; simp
 have d2':(b:Int) * g = d.natAbs:=by rw [← d2]; simp
 obtain ⟨x,hx,hn⟩:∃ x:Int,x.natAbs = a ∧ x * mj n d = n:=by
  rw [e0]
  by_cases h1:d < 0
  ·by_cases h2:n < 0
   ·exact ⟨a,by omega,by rw [if_pos h1,Int.mul_neg,d1']; omega⟩
   ·exact ⟨-a,by omega,by rw [if_pos h1,Int.mul_neg,Int.neg_mul,d1']; omega⟩
  ·by_cases h2:n < 0
   ·exact ⟨-a,by omega,by rw [if_neg h1,Int.neg_mul,d1']; omega⟩
   ·exact ⟨a,by omega,by rw [if_neg h1,d1']; omega⟩
 have hdd:(b:Int) * mj n d = d:=by
  rw [e0]
  by_cases h1:d < 0
  ·rw [if_pos h1,Int.mul_neg,d2']; omega
  ·rw [if_neg h1,d2']; omega
 have hgs:mj n d ≠ 0:=by rw [e0]; split <;> omega
 have hq:Rat.divInt n d = Rat.divInt x b:=by
  rw [Rat.divInt_eq_divInt_iff hd (by omega)]
  generalize mj n d = G at *
  subst hn; subst hdd
  rw [Int.mul_assoc,Int.mul_comm G]
 have hcop:=qN (n:=x) (d:=b) (by omega) (by rw [hx]; exact hc)
 rw [hq,hcop.1,hcop.2]
 exact ⟨hgs,hn,hdd⟩
theorem oP (n d:Int):Rat.divInt n d = (n:Rat) / (d:Rat):=Rat.divInt_eq_div n d
theorem zZ (r:Rat):r = (r.num:Rat) / (r.den:Int):=by
 have:=Rat.num_divInt_den r
 rw [oP] at this
 exact this.symm
theorem CJ (r s:Rat):(r * s).num = (Rat.divInt r.num s.den).num * (Rat.divInt s.num r.den).num ∧ (((r * s).den:Nat):Int) = (Rat.divInt r.num s.den).den * (Rat.divInt s.num r.den).den:=by
  have r0:=den_pos r
  have s0:=den_pos s
  obtain ⟨g1,a1,a2⟩:=red (n:=r.num) (d:=s.den) (by omega)
  obtain ⟨g2,b1,b2⟩:=red (n:=s.num) (d:=r.den) (by omega)
  have ca:=(Rat.divInt r.num s.den).reduced
  have cb:=(Rat.divInt s.num r.den).reduced
  have cr:=r.reduced
  have cs:=s.reduced
  have pa:=den_pos (Rat.divInt r.num s.den)
  have pb:=den_pos (Rat.divInt s.num r.den)
  have er:=zZ r
  have es:=zZ s
  generalize ha:Rat.divInt r.num s.den = a at *
  generalize hb:Rat.divInt s.num r.den = b at *
  have e:r * s = Rat.divInt (a.num * b.num) (a.den * b.den):=by
    rw [oP,Rat.intCast_mul,Rat.intCast_mul]
    have hab:r * s = a * b:=by
      rw [← ha,← hb,oP,oP]
      have h1:((r.den:Int):Rat) ≠ 0:=by have:(r.den:Int) ≠ 0:=by omega
                                        simpa using this
      have h2:((s.den:Int):Rat) ≠ 0:=by have:(s.den:Int) ≠ 0:=by omega
                                        simpa using this
      generalize ((r.den:Int):Rat) = D1 at *
      generalize ((s.den:Int):Rat) = D2 at *
      generalize (r.num:Rat) = N1 at *
      generalize (s.num:Rat) = N2 at *
      rw [er,es]
      grind
    have ea:=zZ a
    have eb:=zZ b
    rw [hab]
    have h1:((a.den:Int):Rat) ≠ 0:=by have:(a.den:Int) ≠ 0:=by omega
                                      simpa using this
    have h2:((b.den:Int):Rat) ≠ 0:=by have:(b.den:Int) ≠ 0:=by omega
                                      simpa using this
    generalize ((a.den:Int):Rat) = D1 at *
    generalize ((b.den:Int):Rat) = D2 at *
    generalize (a.num:Rat) = N1 at *
    generalize (b.num:Rat) = N2 at *
    rw [ea,eb]
    grind
  have k1:Nat.Coprime a.num.natAbs b.den:=by
    have hx:a.num.natAbs ∣ r.num.natAbs:=Int.natAbs_dvd_natAbs.2 ⟨_,a1.symm⟩
    have hy:b.den ∣ r.den:=by
      have:(b.den:Int) ∣ (r.den:Int):=⟨_,b2.symm⟩
      exact Int.natCast_dvd_natCast.1 this
    exact Nat.Coprime.coprime_dvd_left hx (Nat.Coprime.coprime_dvd_right hy cr)
  have k2:Nat.Coprime b.num.natAbs a.den:=by
    have hx:b.num.natAbs ∣ s.num.natAbs:=Int.natAbs_dvd_natAbs.2 ⟨_,b1.symm⟩
    have hy:a.den ∣ s.den:=by
      have:(a.den:Int) ∣ (s.den:Int):=⟨_,a2.symm⟩
      exact Int.natCast_dvd_natCast.1 this
    exact Nat.Coprime.coprime_dvd_left hx (Nat.Coprime.coprime_dvd_right hy cs)
  have hc:Nat.gcd (a.num * b.num).natAbs ((a.den:Int) * b.den).natAbs = 1:=by
    rw [Int.natAbs_mul,Int.natAbs_mul,Int.natAbs_natCast,Int.natAbs_natCast]
    exact Nat.Coprime.mul_left (Nat.Coprime.mul_right ca k1) (Nat.Coprime.mul_right k2 cb)
  rw [e]
  exact qN (Int.mul_pos pa pb) hc
def vd (p q r s:Int):Int:=cmpZ (p * s) (r * q)
theorem zO {p q r s:Int} (h:p / q = r / s):vd p q r s = cmpZ (p % q * s) (r % s * q):=by
 have e1:=Int.mul_ediv_add_emod p q
 have e2:=Int.mul_ediv_add_emod r s
 rw [← h] at e2
 generalize p / q = k at *
 generalize p % q = a at *
 generalize r % s = b at *
 have e3:p * s = a * s + k * q * s:=by rw [← e1]; grind
 have e4:r * q = b * q + k * q * s:=by rw [← e2]; grind
 unfold vd cmpZ
 rw [e3,e4]
 have h1:(a * s + k * q * s < b * q + k * q * s) = (a * s < b * q):=propext (by omega)
 have h2:(b * q + k * q * s < a * s + k * q * s) = (b * q < a * s):=propext (by omega)
 simp only [h1,h2]
theorem zP {p q r s:Int} (h:p / q = r / s):vd p q r s = -vd q (p % q) s (r % s):=by
 rw [zO h]
 unfold vd
 rw [Int.mul_comm (p % q),Int.mul_comm (r % s)]
 generalize s * (p % q) = u
 generalize q * (r % s) = v
 unfold cmpZ
 split <;> split <;> (try split) <;> omega
end Go.Sk
namespace Go.Proofs.YtcbbilehdaaffaaGreatDoor
open Go Go.Sk
set_option linter.unusedSimpArgs false
set_option linter.unusedVariables false
def bf:bN:=⟨bad,cm 1⟩
def fits (r:Rat):Prop:=lV r.num ∧ lV r.den
noncomputable instance (r:Rat):Decidable (fits r):=Classical.propDecidable _
def mk (r:Rat):bN:=⟨cm r.num,cm r.den⟩
noncomputable def Bn (r:Rat):bN:=if fits r then mk r else bf
abbrev kB (x:bN):Prop:=kC x.N ∧ kC x.D
def qF (x:bN):Option Rat:=match iv x.N,iv x.D with
 | some n,some d=>if 0 < d ∧ Nat.gcd n.natAbs d.natAbs = 1 then some (Rat.divInt n d) else none
 | _,_=>none
noncomputable def uM (n d:bt):bN:=match iv n,iv d with
 | some a,some b=>if b = 0 then bf else Bn (Rat.divInt a b)
 | _,_=>bf
theorem Cl {N D:bt} (h1:kC N) (h2:kC D):kB ⟨N,D⟩:=And.intro h1 h2
theorem xk:kB bf:=Cl ow (bc 1)
theorem xf (r:Rat):kB (mk r):=Cl (bc _) (bc _)
theorem yN (r:Rat):kB (Bn r):=by unfold Bn; split; exact xf r; exact xk
theorem yQ (n d:bt):kB (uM n d):=by
 unfold uM; split
 ·split; exact xk; exact yN _
 ·exact xk
theorem hM {r:Rat} (h:fits r):Bn r = mk r:=by unfold Bn; rw [if_pos h]
theorem Aw {r:Rat} (h:¬ fits r):Bn r = bf:=by unfold Bn; rw [if_neg h]
theorem qF_none {N D:bt} (h:iv N = none):qF ⟨N,D⟩ = none:=by
 unfold qF
 dsimp only
 rw [h]
theorem xb:qF bf = none:=by
 unfold bf
 exact qF_none yS
theorem qF_of {N D:bt} {n d:Int} (hn:iv N = some n) (hd:iv D = some d) (h0:0 < d) (hc:Nat.gcd n.natAbs d.natAbs = 1):qF ⟨N,D⟩ = some (Rat.divInt n d):=by
 unfold qF
 dsimp only
 rw [hn,hd]
 dsimp only
 rw [if_pos ⟨h0,hc⟩]
theorem sq {r:Rat} (h:fits r):qF (mk r) = some r:=by
 have hc:Nat.gcd r.num.natAbs ((r.den:Int)).natAbs = 1:=by rw [Int.natAbs_natCast]; exact r.reduced
 have:=qF_of (gZ h.1) (gZ h.2) (den_pos r) hc
 rw [Rat.num_divInt_den] at this
 exact this
theorem qF_ofR (r:Rat):qF (Bn r) = if fits r then some r else none:=by
 unfold Bn
 split
 ·exact sq (by assumption)
 ·exact xb
theorem l4 {x:bN} {r:Rat} (hx:kB x) (h:qF x = some r):fits r ∧ x = mk r:=by
 unfold qF at h
 split at h
 ·next n d hn hd=>
  obtain ⟨_,en,rn⟩:=cu hx.1 hn
  obtain ⟨_,ed,rd⟩:=cu hx.2 hd
  split at h
  ·next hc=>
   have e:=qN hc.1 hc.2
   cases h
   refine ⟨⟨by rw [e.1]; exact rn,by rw [e.2]; exact rd⟩,?_⟩
   unfold mk
   rw [e.1,e.2,← en,← ed]
  ·cases h
 ·cases h
theorem vQ {q g:Int} (h:g ≠ 0):fq (q * g) g = q:=by
 refine (BZ h (r:=0) (by rw [Int.mul_comm]; omega) ?_ (.inl rfl)).1.symm
 have:=kf h
 simpa [aJ] using this
theorem oF {n d:Int} (hd:d ≠ 0) (rn:lV n) (rd:lV d):fits (Rat.divInt n d):=by
 obtain ⟨g0,e1,e2⟩:=red (n:=n) hd
 have key:∀ {a g m:Int},g ≠ 0 → a * g = m → lV m → lV a:=fun {a g m} hg e hm=>by
  have h1:a.natAbs * g.natAbs = m.natAbs:=by rw [← Int.natAbs_mul,e]
  have h2:a.natAbs * 1 ≤ a.natAbs * g.natAbs:=Nat.mul_le_mul_left _ (by omega)
  constructor <;> have:=hm.1 <;> have:=hm.2 <;> omega
 exact ⟨key g0 e1 rn,key g0 e2 rd⟩
theorem tm {x:bt}:j8 FF x = some (fX x):=by
 refine an.eq ?_
 unfold j8 fX
 cases h:x.Bad with
 | true=>exact an.g0 rfl (an.some (by simp))
 | false=>exact an.g1 rfl (an.aB (Bh FF x) (an.some (by simp [h])))
theorem xd:kH FF = some (cm 1):=by
 unfold kH
 rw [Of_v (by decide) (by decide)]; rfl
theorem p7:im FF = some bf:=by
 unfold im
 rw [j6,Option.bind_some,xd]; rfl
theorem Ap {d:Int}:decide (0 < yC d) = decide (0 < d):=by rw [decide_eq_decide]; unfold yC; split <;> (try split) <;> omega
theorem Aq {d:Int}:decide (yC d < 0) = decide (d < 0):=by rw [decide_eq_decide]; unfold yC; split <;> (try split) <;> omega
theorem xp {d:Int}:decide (yC d = 0) = decide (d = 0):=by rw [decide_eq_decide]; unfold yC; split <;> (try split) <;> omega
theorem mv {x:bN} (hx:kB x):dE FF x = some (qF x).isSome:=by
 refine an.eq ?_
 unfold dE qF
 refine an.aB tm ?_
 cases hn:iv x.N with
 | none=>
  rw [cR hn]
  exact an.g0 rfl (an.g0 rfl (an.g0 rfl (an.g0 rfl (an.some rfl))))
 | some n=>
  obtain ⟨gn,en,rn⟩:=cu hx.1 hn
  rw [gn]
  refine an.g1 rfl (an.aB tm ?_)
  cases hd:iv x.D with
  | none=>
   rw [cR hd]
   exact an.g0 rfl (an.g0 rfl (an.g0 rfl (an.some rfl)))
  | some d=>
   obtain ⟨gd,ed,rd⟩:=cu hx.2 hd
   rw [gd,en,ed]
   refine an.g1 rfl (an.aB (zk rd) ?_)
   rw [Ap]
   by_cases h0:0 < d
   ·rw [decide_eq_true h0]
    refine an.g1 rfl (an.aB (Gcd_v rn rd) (an.g1 rfl (an.aB xd (an.some ?_))))
    have hg:lV (Nat.gcd n.natAbs d.natAbs:Nat):=by
     have:=Nat.gcd_le_right n.natAbs (show 0 < d.natAbs by omega)
     have:=rd.1; have:=rd.2
     constructor <;> omega
    have e:(cm (Nat.gcd n.natAbs d.natAbs:Nat) = cm 1) = (Nat.gcd n.natAbs d.natAbs = 1):=by
     rw [eq_iff_iff,tw hg pC]; omega
    simp only [e]
    by_cases h1:Nat.gcd n.natAbs d.natAbs = 1
    ·simp [h1,h0]
    ·simp [h1]
   ·rw [decide_eq_false h0]
    refine an.g0 rfl (an.g0 rfl (an.some ?_))
    simp [h0]
theorem ub {n d:bt} (hn:kC n) (hd:kC d):iS FF n d = some (uM n d):=by
 refine an.eq ?_
 unfold iS uM
 refine an.aB tm ?_
 cases ha:iv n with
 | none=>
  rw [cR ha]
  exact an.g0 rfl (an.g0 rfl (an.fU rfl (an.aB p7 (an.some rfl))))
 | some a=>
  obtain ⟨ga,rfl,ra⟩:=cu hn ha
  rw [ga]
  refine an.g1 rfl (an.aB tm ?_)
  cases hb:iv d with
  | none=>
   rw [cR hb]
   exact an.g0 rfl (an.fU rfl (an.aB p7 (an.some rfl)))
  | some b=>
   obtain ⟨gb,rfl,rb⟩:=cu hd hb
   rw [gb]
   refine an.g1 rfl (an.aB (zk rb) ?_)
   rw [xp]
   by_cases h0:b = 0
   ·rw [decide_eq_true h0]
    exact an.fU rfl (an.aB p7 (an.some (by simp [h0])))
   ·rw [decide_eq_false h0]
    have hg:lV (Nat.gcd a.natAbs b.natAbs:Nat):=by
     have:=Nat.gcd_le_right a.natAbs (show 0 < b.natAbs by omega)
     have:=rb.1; have:=rb.2
     constructor <;> omega
    have hgs:lV (mj a b):=by unfold mj; split <;> (have:=hg.1; have:=hg.2; constructor <;> omega)
    obtain ⟨g0,e1,e2⟩:=red (n:=a) h0
    refine an.iff rfl (an.aB (Gcd_v ra rb) (an.bind (P:=fun g=>g = cm (mj a b)) (an.aB (zk rb) ?_) ?_))
    ·rw [Aq]
     unfold mj
     refine an.ite (fun h=>?_) (fun h=>?_)
     ·rw [if_pos (of_decide_eq_true h),Neg_y FF1 (bc _),q8 hg]; exact an.some rfl
     ·rw [if_neg (of_decide_eq_false h)]; exact an.some rfl
    ·rintro g rfl
     refine an.aB (Quo_v ra hgs g0) (an.aB (Quo_v rb hgs g0) (an.some ?_))
     dsimp only
     rw [if_neg h0,hM (oF h0 ra rb)]
     unfold mk
     have f1:fq a (mj a b) = (Rat.divInt a b).num:=by
      have:=vQ (q:=(Rat.divInt a b).num) g0
      rwa [e1] at this
     have f2:fq b (mj a b) = ((Rat.divInt a b).den:Int):=by
      have:=vQ (q:=((Rat.divInt a b).den:Int)) g0
      rwa [e2] at this
     rw [f1,f2]
def bi (f:Rat → Rat → bN) (x y:bN):bN:=match qF x,qF y with
 | some r,some s=>f r s
 | _,_=>bf
theorem mL {f:Rat → Rat → bN} {x y:bN} (h:qF x = none):bi f x y = bf:=by unfold bi; rw [h]
theorem lE {f:Rat → Rat → bN} {x y:bN} (h:qF y = none):bi f x y = bf:=by unfold bi; rw [h]; cases qF x <;> rfl
theorem kK {f:Rat → Rat → bN} {x y:bN} {r s:Rat} (h:qF x = some r) (h2:qF y = some s):bi f x y = f r s:=by unfold bi; rw [h,h2]
theorem sX (r:Rat):(mk r).N = cm r.num:=by simp only [mk]
theorem sY (r:Rat):(mk r).D = cm r.den:=by simp only [mk]
theorem bi_in {f:Rat → Rat → bN} (hf:∀ r s,kB (f r s)) (x y:bN):kB (bi f x y):=by unfold bi; split; exact hf _ _; exact xk
theorem nu {a b:Int} (ra:lV a) (rb:lV b) (h:b ≠ 0):uM (cm a) (cm b) = Bn (Rat.divInt a b):=by
 unfold uM
 rw [gZ ra,gZ rb]
 dsimp only
 rw [if_neg h]
def qd (r s:Rat):Int:=((r.den / Nat.gcd r.den s.den:Nat):Int)
abbrev plus:=fun a b:Int=>some (a + b)
noncomputable def addR (r s:Rat):bN:=uM (two plus (cm (r.num * qd s r)) (cm (s.num * qd r s))) (cm (qd r s * s.den))
theorem DC {x y:bt} (h:iv x = none):uM x y = bf:=by unfold uM; rw [h]
theorem DB {x y:bt} (h:iv y = none):uM x y = bf:=by unfold uM; rw [h]; cases iv x <;> rfl
theorem CO {z:Int} (h:¬ lV z):iv (cm z) = none:=by rw [kJ h,yS]
noncomputable def subR (r s:Rat):bN:=addR r (-s)
theorem vn {r s:Rat} (hr:fits r) (hs:fits s):fits (Rat.divInt r.num s.den) ∧ fits (Rat.divInt s.num r.den) :=
 ⟨oF (by have:=den_pos s; omega) hr.1 hs.2,oF (by have:=den_pos r; omega) hs.1 hr.2⟩
noncomputable def mulR (r s:Rat):bN:=Bn (r * s)
theorem Cq {x y:bN} (hx:kB x) (hy:kB y):lZ FF x y = some (bi mulR x y):=by
 refine an.eq ?_
 unfold lZ
 refine an.aB (mv hx) ?_
 cases hq:qF x with
 | none=>rw [mL hq]; exact an.g0 rfl (an.fU rfl (an.aB p7 (an.some rfl)))
 | some r=>
  obtain ⟨hf,rfl⟩:=l4 hx hq
  refine an.g1 rfl (an.aB (mv hy) ?_)
  cases hq2:qF y with
  | none=>rw [lE hq2]; exact an.fU rfl (an.aB p7 (an.some rfl))
  | some s=>
   obtain ⟨hs,rfl⟩:=l4 hy hq2
   rw [kK hq hq2,sX,sY,sX,sY]
   have h0:=den_pos r
   have h1:=den_pos s
   obtain ⟨fa,fb⟩:=vn hf hs
   have hp:=CJ r s
   refine an.iff rfl (an.aB (ub (bc _) (bc _)) (an.aB (ub (bc _) (bc _)) ?_))
   rw [nu hf.1 hs.2 (by omega),nu hs.1 hf.2 (by omega),hM fa,hM fb,sX,sY,sX,sY]
   refine an.aB (Mul_v fa.1 fb.1) (an.aB (Mul_v fa.2 fb.2) ?_)
   rw [← hp.1,← hp.2,wO,wO]
   unfold mulR
   by_cases h:fits (r * s)
   ·rw [hM h,decide_eq_true h.1,decide_eq_true h.2]
    exact an.iff rfl (an.some rfl)
   ·rw [Aw h]
    refine an.fU ?_ (an.aB p7 (an.some rfl))
    by_cases h2:lV (r * s).num
    ·have h3:¬ lV (r * s).den:=fun h3=>h ⟨h2,h3⟩
     simp [h3]
    ·simp [h2]
theorem inv_r (s:Rat):Rat.divInt s.den s.num = s⁻¹:=(Rat.inv_def s).symm
noncomputable def uV (r s:Rat):bN:=if s.num = 0 then bf else Bn (r / s)
theorem divR_in (r s:Rat):kB (uV r s):=by unfold uV; split; exact xk; exact yN _
theorem xz {a:Int} {x:bt}:uM x (cm 0) = bf:=by
 unfold uM
 rw [gZ xl]
 cases iv x with
 | none=>rfl
 | some a=>dsimp only; rw [if_pos rfl]
theorem uk {s:Rat} (h:s.num ≠ 0) (hs:fits s):fits s⁻¹:=by rw [← inv_r]; exact oF h hs.2 hs.1
theorem AA {s:Rat} (hs:fits s) (h:s.num ≠ 0):uM (cm s.den) (cm s.num) = mk s⁻¹:=by
 rw [nu hs.2 hs.1 h,inv_r,hM (uk h hs)]
theorem Div_f {x y:bN} (hx:kB x) (hy:kB y):nq FF x y = some (bi uV x y):=by
 refine an.eq ?_
 unfold nq
 refine an.aB (mv hy) ?_
 cases hq2:qF y with
 | none=>rw [lE hq2]; exact an.fU rfl (an.aB p7 (an.some rfl))
 | some s=>
  obtain ⟨hs,rfl⟩:=l4 hy hq2
  refine an.iff rfl ?_
  rw [sX,sY]
  refine an.aB (ub (bc _) (bc _)) (an.aB (Cq hx (yQ _ _)) (an.some ?_))
  cases hq:qF x with
  | none=>rw [mL hq,mL hq]
  | some r=>
   rw [kK hq hq2]
   unfold uV
   by_cases h:s.num = 0
   ·rw [if_pos h,h,xz (a:=0),lE xb]
   ·rw [if_neg h,AA hs h,kK hq (sq (uk h hs))]
    unfold mulR
    rw [Rat.div_def]
theorem Whole_f {n:bt} (hn:kC n):mQ FF n = some (uM n (cm 1)):=by
 unfold mQ
 rw [xd,Option.bind_some,ub hn (bc 1)]; rfl
theorem CQ (z:Int):((z:Rat)).num = z ∧ ((z:Rat)).den = 1:=⟨rfl,rfl⟩
theorem DQ {z:Int} (h:lV z):fits (z:Rat):=by
 refine ⟨by rw [(CQ z).1]; exact h,?_⟩
 rw [(CQ z).2]
 exact pC
theorem zN (z:Int):Rat.divInt z 1 = (z:Rat):=by
 rw [oP]
 have:((1:Int):Rat) = 1:=rfl
 rw [this,Rat.div_def]
 grind
theorem Az {z:Int} (h:lV z):uM (cm z) (cm 1) = mk (z:Rat):=by
 rw [nu h pC (by decide),zN,hM (DQ h)]
theorem in64_M {n:Int} (h:-9223372036854775808 ≤ n ∧ n ≤ 9223372036854775807):lV n:=by
 have:=qy
 constructor <;> omega
theorem Of_f {n:Int} (h:-9223372036854775808 ≤ n ∧ n ≤ 9223372036854775807):ml FF n = some (mk (n:Rat)):=by
 unfold ml
 rw [Of_v h.1 h.2,Option.bind_some,Whole_f (bc _),Az (in64_M h)]; rfl
theorem Frac_f {a b:Int} (ha:-9223372036854775808 ≤ a ∧ a ≤ 9223372036854775807) (hb:-9223372036854775808 ≤ b ∧ b ≤ 9223372036854775807):lB FF a b = some (uM (cm a) (cm b)):=by
 unfold lB
 rw [Of_v ha.1 ha.2,Option.bind_some,Of_v hb.1 hb.2,Option.bind_some,ub (bc _) (bc _)]; rfl
theorem wc {a:Int} (ra:lV a):jj FF (cm a) = some (yC a):=by rw [rSign_y vE (bc a),gZ ra]
theorem CF {a b:Int} (ra:lV a) (rb:lV b):lA FF (cm a) (cm b) = some (cm (a * b)):=by rw [rMul_y vE (bc a) (bc b),np ra rb]; rfl
theorem CE {a b:Int} (ra:lV a) (rb:lV b) (h:b ≠ 0):lz FF (cm a) (cm b) = some (cm (fq a b)):=by rw [rQuo_y vE (bc a) (bc b),np ra rb]; simp only [uR,h,if_false]; rfl
theorem Ci {n:Int} (h0:-9223372036854775808 ≤ n) (h1:n ≤ 9223372036854775807):iV FF n = some (cm n):=z6 vE h0 h1
theorem CA:ls FF = some (cm 1):=by
 unfold ls
 rw [Ci (by decide) (by decide)]; rfl
theorem r4:ly FF = some bf:=by
 unfold ly
 rw [nc,Option.bind_some,CA]; rfl
theorem pA {x:bN} (hx:kB x):gR FF x = some (qF x).isSome:=by
 refine an.eq ?_
 unfold gR qF
 refine an.aB (gU vE hx.1) ?_
 cases hn:iv x.N with
 | none=>
  rw [cR hn]
  exact an.g0 rfl (an.fU rfl (an.some rfl))
 | some n=>
  obtain ⟨gn,en,rn⟩:=cu hx.1 hn
  rw [gn]
  refine an.g1 rfl (an.aB (gU vE hx.2) ?_)
  cases hd:iv x.D with
  | none=>
   rw [cR hd]
   exact an.fU rfl (an.some rfl)
  | some d=>
   obtain ⟨gd,ed,rd⟩:=cu hx.2 hd
   rw [gd,en,ed]
   refine an.iff rfl (an.aB (wc rd) ?_)
   rw [Ap]
   by_cases h0:0 < d
   ·rw [decide_eq_true h0]
    refine an.g1 rfl (an.aB (CH rn rd) (an.g1 rfl (an.aB CA (an.some ?_))))
    have hg:lV (Nat.gcd n.natAbs d.natAbs:Nat):=by
     have:=Nat.gcd_le_right n.natAbs (show 0 < d.natAbs by omega)
     have:=rd.1; have:=rd.2
     constructor <;> omega
    have e:(cm (Nat.gcd n.natAbs d.natAbs:Nat) = cm 1) = (Nat.gcd n.natAbs d.natAbs = 1):=by
     rw [eq_iff_iff,tw hg pC]; omega
    simp only [e]
    by_cases h1:Nat.gcd n.natAbs d.natAbs = 1
    ·simp [h1,h0]
    ·simp [h1]
   ·rw [decide_eq_false h0]
    refine an.g0 rfl (an.g0 rfl (an.some ?_))
    simp [h0]
theorem qY {n d:bt} (hn:kC n) (hd:kC d):gQ FF n d = some (uM n d):=by
 refine an.eq ?_
 unfold gQ uM
 refine an.aB (gU vE hn) ?_
 cases ha:iv n with
 | none=>
  rw [cR ha]
  exact an.g0 rfl (an.g0 rfl (an.fU rfl (an.aB r4 (an.some rfl))))
 | some a=>
  obtain ⟨ga,rfl,ra⟩:=cu hn ha
  rw [ga]
  refine an.g1 rfl (an.aB (gU vE hd) ?_)
  cases hb:iv d with
  | none=>
   rw [cR hb]
   exact an.g0 rfl (an.fU rfl (an.aB r4 (an.some rfl)))
  | some b=>
   obtain ⟨gb,rfl,rb⟩:=cu hd hb
   rw [gb]
   refine an.g1 rfl (an.aB (wc rb) ?_)
   rw [xp]
   by_cases h0:b = 0
   ·rw [decide_eq_true h0]
    exact an.fU rfl (an.aB r4 (an.some (by simp [h0])))
   ·rw [decide_eq_false h0]
    have hg:lV (Nat.gcd a.natAbs b.natAbs:Nat):=by
     have:=Nat.gcd_le_right a.natAbs (show 0 < b.natAbs by omega)
     have:=rb.1; have:=rb.2
     constructor <;> omega
    have hgs:lV (mj a b):=by unfold mj; split <;> (have:=hg.1; have:=hg.2; constructor <;> omega)
    obtain ⟨g0,e1,e2⟩:=red (n:=a) h0
    refine an.iff rfl (an.aB (CH ra rb) (an.bind (P:=fun g=>g = cm (mj a b)) (an.aB (wc rb) ?_) ?_))
    ·rw [Aq]
     unfold mj
     refine an.ite (fun h=>?_) (fun h=>?_)
     ·rw [if_pos (of_decide_eq_true h),rNeg_y vE (bc _),q8 hg]; exact an.some rfl
     ·rw [if_neg (of_decide_eq_false h)]; exact an.some rfl
    ·rintro g rfl
     refine an.aB (CE ra hgs g0) (an.aB (CE rb hgs g0) (an.some ?_))
     dsimp only
     rw [if_neg h0,hM (oF h0 ra rb)]
     unfold mk
     have f1:fq a (mj a b) = (Rat.divInt a b).num:=by
      have:=vQ (q:=(Rat.divInt a b).num) g0
      rwa [e1] at this
     have f2:fq b (mj a b) = ((Rat.divInt a b).den:Int):=by
      have:=vQ (q:=((Rat.divInt a b).den:Int)) g0
      rwa [e2] at this
     rw [f1,f2]
theorem CG {x y:bN} (hx:kB x) (hy:kB y):lu FF x y = some (bi mulR x y):=by
 refine an.eq ?_
 unfold lu
 refine an.aB (pA hx) ?_
 cases hq:qF x with
 | none=>rw [mL hq]; exact an.g0 rfl (an.fU rfl (an.aB r4 (an.some rfl)))
 | some r=>
  obtain ⟨hf,rfl⟩:=l4 hx hq
  refine an.g1 rfl (an.aB (pA hy) ?_)
  cases hq2:qF y with
  | none=>rw [lE hq2]; exact an.fU rfl (an.aB r4 (an.some rfl))
  | some s=>
   obtain ⟨hs,rfl⟩:=l4 hy hq2
   rw [kK hq hq2,sX,sY,sX,sY]
   have h0:=den_pos r
   have h1:=den_pos s
   obtain ⟨fa,fb⟩:=vn hf hs
   have hp:=CJ r s
   refine an.iff rfl (an.aB (qY (bc _) (bc _)) (an.aB (qY (bc _) (bc _)) ?_))
   rw [nu hf.1 hs.2 (by omega),nu hs.1 hf.2 (by omega),hM fa,hM fb,sX,sY,sX,sY]
   refine an.aB (CF fa.1 fb.1) (an.aB (CF fa.2 fb.2) ?_)
   rw [← hp.1,← hp.2]
   refine an.aB (qY (bc _) (bc _)) (an.some ?_)
   unfold mulR
   by_cases h:fits (r * s)
   ·rw [nu h.1 h.2 (by have:=den_pos (r * s); omega),Rat.num_divInt_den]
   ·rw [Aw h]
    by_cases h2:lV (r * s).num
    ·exact DB (CO fun h3=>h ⟨h2,h3⟩)
    ·exact DC (CO h2)
theorem CI {x y:bN} (hx:kB x) (hy:kB y):lx FF x y = some (bi uV x y):=by
 refine an.eq ?_
 unfold lx
 refine an.aB (pA hy) ?_
 cases hq2:qF y with
 | none=>rw [lE hq2]; exact an.fU rfl (an.aB r4 (an.some rfl))
 | some s=>
  obtain ⟨hs,rfl⟩:=l4 hy hq2
  refine an.iff rfl ?_
  rw [sX,sY]
  refine an.aB (qY (bc _) (bc _)) (an.aB (CG hx (yQ _ _)) (an.some ?_))
  cases hq:qF x with
  | none=>rw [mL hq,mL hq]
  | some r=>
   rw [kK hq hq2]
   unfold uV
   by_cases h:s.num = 0
   ·rw [if_pos h,h,xz (a:=0),lE xb]
   ·rw [if_neg h,AA hs h,kK hq (sq (uk h hs))]
    unfold mulR
    rw [Rat.div_def]
theorem rFrac_f {a b:Int} (ha:-9223372036854775808 ≤ a ∧ a ≤ 9223372036854775807) (hb:-9223372036854775808 ≤ b ∧ b ≤ 9223372036854775807):k4 FF a b = some (uM (cm a) (cm b)):=by
 unfold k4
 rw [Ci ha.1 ha.2,Option.bind_some,Ci hb.1 hb.2,Option.bind_some,qY (bc _) (bc _)]; rfl
structure CmpI (c:Int) (p q r s o:Int):Prop where
 ip:lV p
 iq:lV q
 ir:lV r
 is:lV s
 q0:0 < q
 s0:0 < s
 o1:o = 1 ∨ o = -1
 val:o * vd p q r s = c
theorem CmpI.next {c p q r s o:Int} (h:CmpI c p q r s o) (he:p / q = r / s) (h1:p % q ≠ 0) (h2:r % s ≠ 0):CmpI c q (p % q) s (r % s) (-o):=by
 have a0:=Int.emod_nonneg p (show q ≠ 0 by have:=h.q0; omega)
 have a1:=Int.emod_lt_of_pos p h.q0
 have b0:=Int.emod_nonneg r (show s ≠ 0 by have:=h.s0; omega)
 have b1:=Int.emod_lt_of_pos r h.s0
 have:=h.iq.2
 have:=h.is.2
 have:=zl
 refine ⟨h.iq,⟨by omega,by omega⟩,h.is,⟨by omega,by omega⟩,by omega,by omega,by have:=h.o1; omega,?_⟩
 rw [← h.val,zP he,Int.neg_mul,Int.mul_neg]
theorem F4:∃ k,FF = k + 4:=⟨FF - 4,by have:=FF1; omega⟩
def sm (n:Int):Bool:=decide (-16 ≤ n) && decide (n ≤ 16)
def vU (u:aX):Bool:=sm u.M && sm u.Kg && sm u.S
theorem yK {n:Int}:sm n = true ↔ -16 ≤ n ∧ n ≤ 16:=by simp [sm]
theorem vJ {u:aX}:vU u = true ↔ (-16 ≤ u.M ∧ u.M ≤ 16) ∧ (-16 ≤ u.Kg ∧ u.Kg ≤ 16) ∧ (-16 ≤ u.S ∧ u.S ≤ 16):=by simp [vU,yK,and_assoc]
theorem pL (u:aX):dj FF u = some (vU u):=by
 obtain ⟨k,hk⟩:=F4
 rw [hk]
 unfold dj gl iA
 have w1:IntKind.i64.wrap (0 + 1) = 1:=by decide
 have w2:IntKind.i64.wrap (1 + 1) = 2:=by decide
 have w3:IntKind.i64.wrap (2 + 1) = 3:=by decide
 have i0:bB (⟨u.M,u.Kg,u.S⟩:A3).l 0 = some u.M:=rfl
 have i1:bB (⟨u.M,u.Kg,u.S⟩:A3).l 1 = some u.Kg:=rfl
 have i2:bB (⟨u.M,u.Kg,u.S⟩:A3).l 2 = some u.S:=rfl
 simp only [Option.bind_some,fh,show ((0:Int) < 3) = True from by simp,show ((1:Int) < 3) = True from by simp,show ((2:Int) < 3) = True from by simp,show ((3:Int) < 3) = False from by simp,decide_true,decide_false,if_true,Bool.false_eq_true,if_false,i0]
 unfold vU
 cases h1:sm u.M
 ·simp only [sm] at h1; simp [h1,j4]
 ·simp only [sm] at h1
  simp only [h1,Bool.not_true,Bool.false_eq_true,if_false,Option.bind_some,j4,w1,fh,show ((1:Int) < 3) = True from by simp,decide_true,if_true,i1]
  cases h2:sm u.Kg
  ·simp only [sm] at h2; simp [h2,j4]
  ·simp only [sm] at h2
   simp only [h2,Bool.not_true,Bool.false_eq_true,if_false,Option.bind_some,j4,w2,fh,show ((2:Int) < 3) = True from by simp,decide_true,if_true,i2]
   cases h3:sm u.S
   ·simp only [sm] at h3; simp [h3,j4]
   ·simp only [sm] at h3
    simp only [h3,Bool.not_true,Bool.false_eq_true,if_false,Option.bind_some,j4,w3,fh,show ((3:Int) < 3) = False from by simp,decide_false,Bool.true_and]
theorem yL (n:Int):db FF n = some (sm n):=rfl
theorem xw (u:aX):dc FF u = some (vU u):=by
 unfold dc vU
 rw [yL,yL,yL]
 cases h1:sm u.M <;> cases h2:sm u.Kg <;> cases h3:sm u.S <;> rfl
theorem Du {n v:Int} (hn:-16 ≤ n ∧ n ≤ 16) (hv:-16 ≤ v ∧ v ≤ 16):-256 ≤ n * v ∧ n * v ≤ 256:=by
 have h:(n * v).natAbs ≤ 16 * 16:=by rw [Int.natAbs_mul]; exact Nat.mul_le_mul (by omega) (by omega)
 omega
def zU:aX:=⟨0,0,0⟩
def B' (u v:aX) (n:Int):aX:=⟨u.M + n * v.M,u.Kg + n * v.Kg,u.S + n * v.S⟩
def tz (u v:aX) (n:Int):aX × Int:=if (vU u && vU v && sm n) = true then (if vU (B' u v n) = true then (B' u v n,0) else (zU,2)) else (zU,1)
theorem vU_z:vU zU = true:=by decide
theorem vV {u v:aX} {n:Int} (h1:vU u = true) (h2:vU v = true) (h3:sm n = true):tz u v n = if vU (B' u v n) = true then (B' u v n,0) else (zU,2):=by unfold tz; rw [h1,h2,h3]; rfl
theorem xS {u v:aX} {n:Int} (h1:vU u = false):tz u v n = (zU,1):=by unfold tz; rw [h1]; rfl
theorem D8 {u v:aX} {n:Int} (h1:vU v = false):tz u v n = (zU,1):=by unfold tz; rw [h1]; cases vU u <;> rfl
theorem xR {u v:aX} {n:Int} (h1:sm n = false):tz u v n = (zU,1):=by unfold tz; rw [h1]; cases vU u <;> cases vU v <;> rfl
theorem mK {u v n:Int} (hu:-16 ≤ u ∧ u ≤ 16) (hn:-16 ≤ n ∧ n ≤ 16) (hv:-16 ≤ v ∧ v ≤ 16):IntKind.i64.wrap (u + IntKind.i64.wrap (n * v)) = u + n * v:=by
 have:=Du hn hv
 rw [dm (z:=n * v) (by omega) (by omega),dm (by omega) (by omega)]
theorem vC (u v:aX) (n:Int):fl FF u v n = some (tz u v n):=by
 refine an.eq ?_
 unfold fl
 refine an.aB (pL u) ?_
 cases h1:vU u
 ·rw [xS h1]; exact an.g0 rfl (an.g0 rfl (an.fU rfl (an.some rfl)))
 refine an.g1 rfl (an.aB (pL v) ?_)
 cases h2:vU v
 ·rw [D8 h2]; exact an.g0 rfl (an.fU rfl (an.some rfl))
 refine an.g1 rfl (an.aB (show iA FF n = some (sm n) from rfl) ?_)
 cases h3:sm n
 ·rw [xR h3]; exact an.fU rfl (an.some rfl)
 obtain ⟨a1,a2,a3⟩:=vJ.1 h1
 obtain ⟨b1,b2,b3⟩:=vJ.1 h2
 have c:=yK.1 h3
 rw [vV h1 h2 h3]
 refine an.iff rfl (an.jZ _ (mK a1 c b1) (an.jZ _ (mK a2 c b2) (an.jZ _ (mK a3 c b3) (an.aB (pL (B' u v n)) ?_))))
 cases h4:vU (B' u v n)
 ·exact an.fU rfl (an.some rfl)
 ·exact an.iff rfl (an.some rfl)
theorem Mul_u (u v:aX):lG FF u v = some (tz u v 1):=by unfold lG; rw [vC]; rfl
end Go.Proofs.YtcbbilehdaaffaaGreatDoor
