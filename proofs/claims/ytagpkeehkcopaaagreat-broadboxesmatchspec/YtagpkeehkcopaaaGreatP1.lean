/- the plain law -/
import Derived.Test.YtagpkeehkcopaaaGreatW2
import Derived.Sort.AssemblyPlain
namespace Go.Proofs.YtagpkeehkcopaaaGreat
open Go Go.Sk
set_option maxRecDepth 100000
set_option linter.unusedVariables false
set_option linter.unusedSimpArgs false
def qo (x:Int):List Int → List Int
 | []=>[x]
 | y :: l=>if x ≤ y then x :: y :: l else y :: qo x l
def n9:List Int → List Int
 | []=>[]
 | x :: l=>qo x (n9 l)
theorem mc (x:Int):∀ l:List Int,(qo x l).Perm (x :: l)
 | []=>.refl _
 | y :: l=>by
  unfold qo
  split
  ·exact .refl _
  ·exact .trans (.cons y (mc x l)) (.swap x y l)
theorem nH:∀ l:List Int,(n9 l).Perm l
 | []=>.refl _
 | x :: l=>(mc x (n9 l)).trans (.cons x (nH l))
theorem rE (x:Int):∀ l:List Int,l.Pairwise (· ≤ ·) → (qo x l).Pairwise (· ≤ ·)
 | [],_=>by simp [qo]
 | y :: l,h=>by
  unfold qo
  have h1:=List.pairwise_cons.1 h
  split
  ·next hc=>
   refine List.pairwise_cons.2 ⟨fun z hz=>?_,h⟩
   rcases List.mem_cons.1 hz with rfl | hz
   ·exact hc
   ·exact Int.le_trans hc (h1.1 z hz)
  ·next hc=>
   refine List.pairwise_cons.2 ⟨fun z hz=>?_,rE x l h1.2⟩
   rcases List.mem_cons.1 ((mc x l).mem_iff.1 hz) with rfl | hz
   ·omega
   ·exact h1.1 z hz
theorem pL:∀ l:List Int,(n9 l).Pairwise (· ≤ ·)
 | []=>.nil
 | x :: l=>rE x _ (pL l)
theorem sorted_perm (l:List Int):(sorted l).Perm l:=List.mergeSort_perm _ _
theorem rU (l:List Int):(sorted l).Pairwise (· ≤ ·) :=
 (List.pairwise_mergeSort (le:=fun x y:Int=>decide (x ≤ y)) (fun a b c h1 h2=>by simp only [decide_eq_true_eq] at *; omega) (fun a b=>by simp only [Bool.or_eq_true,decide_eq_true_eq]; omega) l).imp fun h=>of_decide_eq_true h
theorem rW (l:List Int):sorted l = n9 l :=
 List.Perm.eq_of_pairwise (fun a b _ _ h1 h2=>Int.le_antisymm h1 h2) (rU l) (pL l) ((sorted_perm l).trans (nH l).symm)
def sort2 (F:Nat) (zs:List Int):Option (List Int):=if zs.length < 1000000000 then some (n9 zs) else none
theorem sort_eq:fF = sort2:=by
 funext F zs
 unfold fF oK sort2
 rw [rW]
def qn (x:A2):List A2 → List A2
 | []=>[x]
 | y :: l=>if hU y x = true then y :: qn x l else x :: y :: l
def isA:List A2 → List A2
 | []=>[]
 | x :: l=>qn x (isA l)
def so (x y:A2):Prop:=hU y x = false
theorem oY (x y:A2):so x y ↔ (x.a0 < y.a0 ∨ (x.a0 = y.a0 ∧ x.a1 ≤ y.a1)):=by
 simp only [so,hU,decide_eq_false_iff_not]; omega
theorem mb (x:A2):∀ l:List A2,(qn x l).Perm (x :: l)
 | []=>.refl _
 | y :: l=>by
  unfold qn
  split
  ·exact .trans (.cons y (mb x l)) (.swap x y l)
  ·exact .refl _
theorem pM:∀ l:List A2,(isA l).Perm l
 | []=>.refl _
 | x :: l=>(mb x (isA l)).trans (.cons x (pM l))
theorem rD (x:A2):∀ l:List A2,l.Pairwise so → (qn x l).Pairwise so
 | [],_=>by simp [qn]
 | y :: l,h=>by
  unfold qn
  have h1:=List.pairwise_cons.1 h
  split
  ·next hc=>
   refine List.pairwise_cons.2 ⟨fun z hz=>?_,rD x l h1.2⟩
   rcases List.mem_cons.1 ((mb x l).mem_iff.1 hz) with rfl | hz
   ·rw [oY]; simp only [hU,decide_eq_true_eq] at hc; omega
   ·exact h1.1 z hz
  ·next hc=>
   refine List.pairwise_cons.2 ⟨fun z hz=>?_,h⟩
   have hxy:so x y:=by simpa [so] using hc
   rcases List.mem_cons.1 hz with rfl | hz
   ·exact hxy
   ·have h2:=h1.1 z hz
    rw [oY] at *; omega
theorem sN:∀ l:List A2,(isA l).Pairwise so
 | []=>.nil
 | x :: l=>rD x _ (sN l)
theorem tH {x y:A2} (h1:so x y) (h2:so y x):x = y:=by
 rw [oY] at *
 cases x; cases y
 simp only [A2.mk.injEq] at *
 omega
theorem r4 (l:List A2):(l.mergeSort fun a b=>!hU b a) = isA l:=by
 have hp:(l.mergeSort fun a b=>!hU b a).Pairwise so :=
  (List.pairwise_mergeSort (le:=fun a b=>!hU b a) (fun a b c h1 h2=>by simp only [hU,Bool.not_eq_true',decide_eq_false_iff_not] at *; omega) (fun a b=>by simp only [hU,Bool.or_eq_true,Bool.not_eq_true',decide_eq_false_iff_not]; omega) l).imp fun h=>by simpa [so] using h
 exact List.Perm.eq_of_pairwise (fun a b _ _ h1 h2=>tH h1 h2) hp (sN l) ((List.mergeSort_perm _ _).trans (pM l).symm)
def sortA (F:Nat) (zs:List A2):Option (List A2):=if zs.length < 1000000000 then some (isA zs) else none
theorem tn:cS = sortA:=by
 funext F zs
 unfold cS sortA
 rw [r4]
theorem oo:bS 20000 = some true:=by
 unfold bS dh dB ef cy ew dL
 rw [sort_eq,tn]
 decide +kernel
def vB (b:bz):Bool:=decide (b.Lo.a0 ≤ b.Hi.a0 ∧ -1125899906842624 ≤ b.Lo.a0 ∧ b.Hi.a0 ≤ 1125899906842624 ∧ b.Lo.a1 ≤ b.Hi.a1 ∧ -1125899906842624 ≤ b.Lo.a1 ∧ b.Hi.a1 ≤ 1125899906842624 ∧ b.Lo.a2 ≤ b.Hi.a2 ∧ -1125899906842624 ≤ b.Lo.a2 ∧ b.Hi.a2 ≤ 1125899906842624)
def mB (a b:bz):Bool:=decide (b.Lo.a0 ≤ a.Hi.a0 ∧ a.Lo.a0 ≤ b.Hi.a0 ∧ b.Lo.a1 ≤ a.Hi.a1 ∧ a.Lo.a1 ≤ b.Hi.a1 ∧ b.Lo.a2 ≤ a.Hi.a2 ∧ a.Lo.a2 ≤ b.Hi.a2)
def hB (a b:bz):bz:=⟨⟨min a.Lo.a0 b.Lo.a0,min a.Lo.a1 b.Lo.a1,min a.Lo.a2 b.Lo.a2⟩,⟨max a.Hi.a0 b.Hi.a0,max a.Hi.a1 b.Hi.a1,max a.Hi.a2 b.Hi.a2⟩⟩
theorem lx0 (a b c:Int):bb [a,b,c] 0 = some a:=rfl
theorem lx1 (a b c:Int):bb [a,b,c] 1 = some b:=rfl
theorem lx2 (a b c:Int):bb [a,b,c] 2 = some c:=rfl
theorem w1:IntKind.i64.wrap (0 + 1) = 1:=rfl
theorem w2:IntKind.i64.wrap (1 + 1) = 2:=rfl
theorem w3:IntKind.i64.wrap (2 + 1) = 3:=rfl
theorem iter4n {σ τ:Type} (n:Nat) (body:σ → Option (σ ⊕ τ)) (s:σ):iter (n + 4) body s = (body s).bind (ct (fun s=>(body s).bind (ct (fun s=>(body s).bind (ct (fun s=>(body s).bind (ct (iter n body) some)) some)) some)) some):=rfl
theorem ra {σ τ:Type} (body:σ → Option (σ ⊕ τ)) (s:σ):∃ K:σ → Option τ,iter 20000 body s = (body s).bind (ct (fun s=>(body s).bind (ct (fun s=>(body s).bind (ct (fun s=>(body s).bind (ct K some)) some)) some)) some):=⟨iter 19996 body,iter4n 19996 body s⟩
theorem d03:decide ((0:Int) < 3) = true:=rfl
theorem d13:decide ((1:Int) < 3) = true:=rfl
theorem d23:decide ((2:Int) < 3) = true:=rfl
theorem d33:decide ((3:Int) < 3) = false:=rfl
theorem rV {α:Type} (lo hi:Int) (A B:Option α):((bF (!decide (hi < lo)) (some lo)).bind fun x4=>(bF (!(decide (hi < lo) || decide (x4 < -1125899906842624))) (some hi)).bind fun x5=>if ((decide (hi < lo) || decide (x4 < -1125899906842624)) || decide (1125899906842624 < x5)) = true then A else B) =
  if (lo ≤ hi ∧ -1125899906842624 ≤ lo ∧ hi ≤ 1125899906842624) then B else A:=by
 by_cases h1:hi < lo
 ·rw [if_neg (by omega)]; simp [bF,h1]
 ·have g1:decide (hi < lo) = false:=by simpa using h1
  rw [g1]
  by_cases h2:lo < -1125899906842624
  ·have g2:decide (lo < -1125899906842624) = true:=by simpa using h2
   rw [if_neg (by omega)]; simp only [bF,Bool.not_false,if_true,Option.bind_some,g2,Bool.or_true,Bool.true_or,Bool.not_true,Bool.false_eq_true,if_false,Bool.false_or]
  ·have g2:decide (lo < -1125899906842624) = false:=by simpa using h2
   by_cases h3:1125899906842624 < hi
   ·rw [if_neg (by omega)]; simp only [bF,Bool.not_false,if_true,Option.bind_some,g2,Bool.or_false,Bool.false_or,h3,decide_true]
   ·rw [if_pos (by omega)]; simp only [bF,Bool.not_false,if_true,Option.bind_some,g2,Bool.or_false,Bool.false_or,h3,decide_false,Bool.false_eq_true,if_false]
theorem rM {α:Type} (ah bl bh al:Int) (A B:Option α):((bF (!decide (ah < bl)) (some bh)).bind fun x4=>(bF (!decide (ah < bl)) (some al)).bind fun x5=>if (decide (ah < bl) || decide (x4 < x5)) = true then A else B) =
  if (bl ≤ ah ∧ al ≤ bh) then B else A:=by
 by_cases h1:ah < bl
 ·rw [if_neg (by omega)]; simp [bF,h1]
 ·by_cases h2:bh < al
  ·rw [if_neg (by omega)]; simp [bF,h1,h2]
  ·rw [if_pos (by omega)]; simp [bF,h1,h2]
theorem lG (b:bz):bP 20000 b = some (vB b):=by
 obtain ⟨⟨a0,a1,a2⟩,⟨b0,b1,b2⟩⟩:=b
 unfold bP
 obtain ⟨K,hK⟩:=ra _ _
 rw [hK]
 clear hK
 simp only [A3.l,d03,d13,d23,d33,if_true,lx0,lx1,lx2,w1,w2,w3,Option.bind_some,rV,ct]
 unfold vB
 by_cases h0:a0 ≤ b0 ∧ -1125899906842624 ≤ a0 ∧ b0 ≤ 1125899906842624
 ·rw [if_pos h0]
  simp only [A3.l,d03,d13,d23,d33,if_true,lx0,lx1,lx2,w1,w2,w3,Option.bind_some,rV,ct]
  by_cases h1:a1 ≤ b1 ∧ -1125899906842624 ≤ a1 ∧ b1 ≤ 1125899906842624
  ·rw [if_pos h1]
   simp only [A3.l,d03,d13,d23,d33,if_true,lx0,lx1,lx2,w1,w2,w3,Option.bind_some,rV,ct]
   by_cases h2:a2 ≤ b2 ∧ -1125899906842624 ≤ a2 ∧ b2 ≤ 1125899906842624
   ·rw [if_pos h2]
    simp only [d33,Option.bind_some,ct,Bool.false_eq_true,if_false]
    exact congrArg some (decide_eq_true (by omega)).symm
   ·rw [if_neg h2]
    simp only [Option.bind_some,ct]
    exact congrArg some (decide_eq_false (by omega)).symm
  ·rw [if_neg h1]
   simp only [Option.bind_some,ct]
   exact congrArg some (decide_eq_false (by omega)).symm
 ·rw [if_neg h0]
  simp only [Option.bind_some,ct]
  exact congrArg some (decide_eq_false (by omega)).symm
theorem oq (b:bz):bd 20000 b = some (vB b):=(show bd 20000 b = bP 20000 b from rfl).trans (lG b)
theorem rz (a b:bz):b9 20000 a b = some (mB a b):=by
 obtain ⟨⟨al0,al1,al2⟩,⟨ah0,ah1,ah2⟩⟩:=a
 obtain ⟨⟨bl0,bl1,bl2⟩,⟨bh0,bh1,bh2⟩⟩:=b
 unfold b9
 obtain ⟨K,hK⟩:=ra _ _
 rw [hK]
 clear hK
 simp only [A3.l,d03,d13,d23,d33,if_true,lx0,lx1,lx2,w1,w2,w3,Option.bind_some,rM,ct]
 unfold mB
 by_cases h0:bl0 ≤ ah0 ∧ al0 ≤ bh0
 ·rw [if_pos h0]
  simp only [A3.l,d03,d13,d23,d33,if_true,lx0,lx1,lx2,w1,w2,w3,Option.bind_some,rM,ct]
  by_cases h1:bl1 ≤ ah1 ∧ al1 ≤ bh1
  ·rw [if_pos h1]
   simp only [A3.l,d03,d13,d23,d33,if_true,lx0,lx1,lx2,w1,w2,w3,Option.bind_some,rM,ct]
   by_cases h2:bl2 ≤ ah2 ∧ al2 ≤ bh2
   ·rw [if_pos h2]
    simp only [d33,Option.bind_some,ct,Bool.false_eq_true,if_false]
    exact congrArg some (decide_eq_true (by omega)).symm
   ·rw [if_neg h2]
    simp only [Option.bind_some,ct]
    exact congrArg some (decide_eq_false (by omega)).symm
  ·rw [if_neg h1]
   simp only [Option.bind_some,ct]
   exact congrArg some (decide_eq_false (by omega)).symm
 ·rw [if_neg h0]
  simp only [Option.bind_some,ct]
  exact congrArg some (decide_eq_false (by omega)).symm
theorem tu (a b:bz):cD 20000 a b = some (mB a b):=(show cD 20000 a b = b9 20000 a b from rfl).trans (rz a b)
theorem hull_eq (a b:bz):ee 20000 a b = some (hB a b):=by
 obtain ⟨⟨al0,al1,al2⟩,⟨ah0,ah1,ah2⟩⟩:=a
 obtain ⟨⟨bl0,bl1,bl2⟩,⟨bh0,bh1,bh2⟩⟩:=b
 rfl
theorem tv (a b:bz):c4 20000 a b = some (hB a b):=by
 obtain ⟨⟨al0,al1,al2⟩,⟨ah0,ah1,ah2⟩⟩:=a
 obtain ⟨⟨bl0,bl1,bl2⟩,⟨bh0,bh1,bh2⟩⟩:=b
 rfl
def zB:bz:=⟨A3.zero,A3.zero⟩
def gB (b:bz) (n:Int):bz:=⟨⟨b.Lo.a0 - n,b.Lo.a1 - n,b.Lo.a2 - n⟩,⟨b.Hi.a0 + n,b.Hi.a1 + n,b.Hi.a2 + n⟩⟩
def wB (b:bz) (n:Int):bz:=⟨⟨IntKind.i64.wrap (b.Lo.a0 - n),IntKind.i64.wrap (b.Lo.a1 - n),IntKind.i64.wrap (b.Lo.a2 - n)⟩,⟨IntKind.i64.wrap (b.Hi.a0 + n),IntKind.i64.wrap (b.Hi.a1 + n),IntKind.i64.wrap (b.Hi.a2 + n)⟩⟩
theorem vB_iff (b:bz):vB b = true ↔ (b.Lo.a0 ≤ b.Hi.a0 ∧ -1125899906842624 ≤ b.Lo.a0 ∧ b.Hi.a0 ≤ 1125899906842624 ∧ b.Lo.a1 ≤ b.Hi.a1 ∧ -1125899906842624 ≤ b.Lo.a1 ∧ b.Hi.a1 ≤ 1125899906842624 ∧ b.Lo.a2 ≤ b.Hi.a2 ∧ -1125899906842624 ≤ b.Lo.a2 ∧ b.Hi.a2 ≤ 1125899906842624):=by
 unfold vB; exact decide_eq_true_iff
theorem wB_eq {b:bz} {n:Int} (hv:vB b = true) (h0:0 ≤ n) (h1:n ≤ 2251799813685248):wB b n = gB b n:=by
 rw [vB_iff] at hv
 unfold wB gB
 rw [my (by omega) (by omega),my (by omega) (by omega),my (by omega) (by omega),my (by omega) (by omega),my (by omega) (by omega),my (by omega) (by omega)]
def gr (b:bz) (n:Int):bz × Int:=if vB b = true ∧ 0 ≤ n ∧ n ≤ 2251799813685248 then (if vB (gB b n) = true then (gB b n,0) else (zB,1)) else (zB,1)
theorem grow_eq (b:bz) (n:Int):dv 20000 b n = some (gr b n):=by
 unfold dv gr
 simp only [lG,Option.bind_some,er]
 by_cases h:vB b = true ∧ 0 ≤ n ∧ n ≤ 2251799813685248
 ·have hc:((!vB b || decide (n < 0)) || decide (2251799813685248 < n)) = false:=by
   have:decide (n < 0) = false:=decide_eq_false (by omega)
   have h2:decide (2251799813685248 < n) = false:=decide_eq_false (by omega)
   rw [h.1,this,h2]; rfl
  rw [if_pos h,hc,if_neg (by decide)]
  have hw:=wB_eq h.1 h.2.1 h.2.2
  obtain ⟨⟨al0,al1,al2⟩,⟨ah0,ah1,ah2⟩⟩:=b
  refine Eq.trans (congrArg (fun z=>Option.bind z _) (show _ = some (wB ⟨⟨al0,al1,al2⟩,⟨ah0,ah1,ah2⟩⟩ n) from rfl)) ?_
  simp only [Option.bind_some]
  rw [hw]
  cases hv:vB (gB ⟨⟨al0,al1,al2⟩,⟨ah0,ah1,ah2⟩⟩ n) <;> rfl
 ·have hc:((!vB b || decide (n < 0)) || decide (2251799813685248 < n)) = true:=by
   simp only [Bool.or_eq_true,Bool.not_eq_true',decide_eq_true_eq]
   cases hv:vB b
   ·simp
   ·simp only [hv,true_and] at h
    simp only [Bool.true_eq_false,false_or]; omega
  rw [if_neg h,hc,if_pos rfl]; rfl
theorem tw (b:bz) (n:Int):cE 20000 b n = some (gr b n):=by
 unfold cE gr
 simp only [oq,Option.bind_some,er]
 by_cases h:vB b = true ∧ 0 ≤ n ∧ n ≤ 2251799813685248
 ·have hc:((!vB b || decide (n < 0)) || decide (2251799813685248 < n)) = false:=by
   have:decide (n < 0) = false:=decide_eq_false (by omega)
   have h2:decide (2251799813685248 < n) = false:=decide_eq_false (by omega)
   rw [h.1,this,h2]; rfl
  rw [if_pos h,hc,if_neg (by decide)]
  have hw:=wB_eq h.1 h.2.1 h.2.2
  obtain ⟨⟨al0,al1,al2⟩,⟨ah0,ah1,ah2⟩⟩:=b
  refine Eq.trans (congrArg (fun z=>Option.bind z _) (show _ = some (wB ⟨⟨al0,al1,al2⟩,⟨ah0,ah1,ah2⟩⟩ n) from rfl)) ?_
  simp only [Option.bind_some]
  rw [hw]
  cases hv:vB (gB ⟨⟨al0,al1,al2⟩,⟨ah0,ah1,ah2⟩⟩ n) <;> rfl
 ·have hc:((!vB b || decide (n < 0)) || decide (2251799813685248 < n)) = true:=by
   simp only [Bool.or_eq_true,Bool.not_eq_true',decide_eq_true_eq]
   cases hv:vB b
   ·simp
   ·simp only [hv,true_and] at h
    simp only [Bool.true_eq_false,false_or]; omega
  rw [if_neg h,hc,if_pos rfl]; rfl
def c1 (x y:Int):Int:=if x < y then -1 else if y < x then 1 else 0
theorem k7 (x y:Int):c5 20000 x y = some (c1 x y):=by
 unfold c5 dR c1
 simp only [Option.bind_some,show decide (x ≠ x) = false by simp,show decide (y ≠ y) = false by simp,Bool.false_eq_true,if_false,decide_eq_true_eq]
 split
 ·rfl
 ·split <;> rfl
structure Ky where
 a:Int
 b:Int
 c:Int
 d:Int
def lk4 (x y:Ky):Prop:=x.a < y.a ∨ (x.a = y.a ∧ (x.b < y.b ∨ (x.b = y.b ∧ (x.c < y.c ∨ (x.c = y.c ∧ x.d < y.d)))))
def ky (f:Nat) (x:entry):Ky:=if f = 50 then ⟨0,0,0,x.id⟩ else ⟨x.b.Lo.a0,x.b.Lo.a1,x.b.Lo.a2,x.id⟩
def lh (f:Nat) (x y:entry):Prop:=lk4 (ky f x) (ky f y)
theorem kz (x y:entry):lh 50 x y ↔ x.id < y.id:=by
 unfold lh lk4 ky
 simp
theorem ltE51 (x y:entry):lh 51 x y ↔ (x.b.Lo.a0 < y.b.Lo.a0 ∨ (x.b.Lo.a0 = y.b.Lo.a0 ∧ (x.b.Lo.a1 < y.b.Lo.a1 ∨ (x.b.Lo.a1 = y.b.Lo.a1 ∧ (x.b.Lo.a2 < y.b.Lo.a2 ∨ (x.b.Lo.a2 = y.b.Lo.a2 ∧ x.id < y.id)))))):=by
 unfold lh lk4 ky
 simp
theorem e30:decide ((3:Int) ≤ 0) = false:=rfl
theorem e31:decide ((3:Int) ≤ 1) = false:=rfl
theorem e32:decide ((3:Int) ≤ 2) = false:=rfl
theorem len3 (a b c:Int):(([a,b,c]:List Int).length:Int) = 3:=rfl
theorem cmp3 (a0 a1 a2 b0 b1 b2:Int):dg 20000 [a0,a1,a2] [b0,b1,b2] = some (if c1 a0 b0 ≠ 0 then c1 a0 b0 else if c1 a1 b1 ≠ 0 then c1 a1 b1 else c1 a2 b2):=by
 unfold dg
 simp only [k7,len3]
 obtain ⟨K,hK⟩:=ra _ _
 rw [hK]
 clear hK
 simp only [d03,e30,if_true,lx0,Option.bind_some,Bool.false_eq_true,if_false,ct,decide_eq_true_eq]
 by_cases h0:c1 a0 b0 ≠ 0
 ·rw [if_pos h0,if_pos h0]; simp only [Option.bind_some,ct]
 ·rw [if_neg h0,if_neg h0]
  simp only [Option.bind_some,ct,w1,d13,e31,if_true,lx1,Bool.false_eq_true,if_false,decide_eq_true_eq,show (1:Int) < 3 from by decide,show ¬ (3:Int) ≤ 1 from by decide]
  by_cases h1:c1 a1 b1 ≠ 0
  ·rw [if_pos h1,if_pos h1]; simp only [Option.bind_some,ct]
  ·rw [if_neg h1,if_neg h1]
   simp only [Option.bind_some,ct,w2,d23,e32,if_true,lx2,Bool.false_eq_true,if_false,decide_eq_true_eq,show (2:Int) < 3 from by decide,show ¬ (3:Int) ≤ 2 from by decide]
   by_cases h2:c1 a2 b2 ≠ 0
   ·rw [if_pos h2]; simp only [Option.bind_some,ct]
   ·rw [if_neg h2]
    have h2':c1 a2 b2 = 0:=by simpa using h2
    simp only [Option.bind_some,ct,w3,d33,Bool.false_eq_true,if_false,h2',show ¬ (3:Int) < 3 from by decide]
theorem or2 (a b:Int):jH 20000 [a,b] = some (if a ≠ 0 then a else b):=by
 unfold jH
 simp only [show (([a,b]:List Int).length:Int) = 2 from rfl]
 obtain ⟨K,hK⟩:=ra _ _
 rw [hK]
 clear hK
 simp only [show (0:Int) < 2 from by decide,decide_true,if_true,show bb [a,b] 0 = some a from rfl,Option.bind_some,decide_eq_true_eq]
 by_cases h0:a ≠ 0
 ·rw [if_pos h0,if_pos h0]; simp only [Option.bind_some,ct]
 ·rw [if_neg h0,if_neg h0]
  simp only [Option.bind_some,ct,w1,if_true,show (1:Int) < 2 from by decide,decide_true,show bb [a,b] 1 = some b from rfl]
  by_cases h1:b ≠ 0
  ·rw [if_pos h1]; simp only [Option.bind_some,ct]
  ·rw [if_neg h1]
   have h1':b = 0:=by simpa using h1
   simp only [Option.bind_some,ct,w2,h1',show ¬ (2:Int) < 2 from by decide,decide_false,Bool.false_eq_true,if_false]
theorem pw (x y:Int):c1 x y < 0 ↔ x < y:=by unfold c1; split <;> (try split) <;> omega
theorem px (x y:Int):0 < c1 x y ↔ y < x:=by unfold c1; split <;> (try split) <;> omega
theorem oc (x y:Int):c1 x y = 0 ↔ x = y:=by unfold c1; split <;> (try split) <;> omega
theorem tc {f:Nat} (hf:f = 50 ∨ f = 51) (x y:entry):∃ v,ff 20000 f x y = some v ∧ (v < 0 ↔ lh f x y) ∧ (0 < v ↔ lh f y x):=by
 rcases hf with rfl | rfl
 ·refine ⟨c1 x.id y.id,?_,by rw [kz]; exact pw _ _,by rw [kz]; exact px _ _⟩
  unfold ff fK
  rw [if_pos rfl,k7]; rfl
 ·unfold ff fJ
  rw [if_neg (by decide),if_pos rfl]
  obtain ⟨xi,⟨⟨xl0,xl1,xl2⟩,xh⟩⟩:=x
  obtain ⟨yi,⟨⟨yl0,yl1,yl2⟩,yh⟩⟩:=y
  simp only [A3.l,cmp3,k7,Option.bind_some,or2,ltE51]
  refine ⟨_,rfl,?_,?_⟩
  ·have g0:=pw xl0 yl0; have g1:=pw xl1 yl1; have g2:=pw xl2 yl2; have g3:=pw xi yi
   have z0:=oc xl0 yl0; have z1:=oc xl1 yl1; have z2:=oc xl2 yl2
   generalize c1 xl0 yl0 = u0 at *; generalize c1 xl1 yl1 = u1 at *; generalize c1 xl2 yl2 = u2 at *; generalize c1 xi yi = u3 at *
   by_cases k0:u0 = 0
   ·by_cases k1:u1 = 0
    ·by_cases k2:u2 = 0
     ·simp [k0,k1,k2]; omega
     ·simp [k0,k1,k2]; omega
    ·simp [k0,k1]; omega
   ·simp [k0]; omega
  ·have g0:=px xl0 yl0; have g1:=px xl1 yl1; have g2:=px xl2 yl2; have g3:=px xi yi
   have z0:=oc xl0 yl0; have z1:=oc xl1 yl1; have z2:=oc xl2 yl2
   generalize c1 xl0 yl0 = u0 at *; generalize c1 xl1 yl1 = u1 at *; generalize c1 xl2 yl2 = u2 at *; generalize c1 xi yi = u3 at *
   by_cases k0:u0 = 0
   ·by_cases k1:u1 = 0
    ·by_cases k2:u2 = 0
     ·simp [k0,k1,k2]; omega
     ·simp [k0,k1,k2]; omega
    ·simp [k0,k1]; omega
   ·simp [k0]; omega
abbrev T:=cG bc
def cvT (b:bz):T → bz
 | .leaf=>b
 | .node w _ _=>hB b w.cover
def mk (v:bc) (l r:T):T:=.node ⟨v.x,v.priority,cvT (cvT v.x.b l) r⟩ l r
def sd (l r:T):List T:=(if l.cW = true then [] else [l]) ++ (if r.cW = true then [] else [r])
theorem tp (l r:T):fH 20000 [l,r] = some (sd l r):=by
 cases l <;> cases r <;> rfl
theorem iQ (rt:T) (c k:Nat) (v:bc) (nl nr l r:T):a8 20000 ⟨rt,c,k,49⟩ (.node v nl nr) l r = some (mk v l r):=by
 unfold a8 gV fL
 simp only [iK,Option.bind_some,if_true,tp]
 cases l <;> cases r
 ·rfl
 ·rfl
 ·rfl
 ·rfl
def items:T → List entry
 | .leaf=>[]
 | .node w l r=>items l ++ w.x :: items r
def q5 (a b:bz):Prop:=b.Lo.a0 ≤ a.Lo.a0 ∧ b.Lo.a1 ≤ a.Lo.a1 ∧ b.Lo.a2 ≤ a.Lo.a2 ∧ a.Hi.a0 ≤ b.Hi.a0 ∧ a.Hi.a1 ≤ b.Hi.a1 ∧ a.Hi.a2 ≤ b.Hi.a2
theorem tJ (a:bz):q5 a a:=by unfold q5; omega
theorem me {a b c:bz} (h1:q5 a b) (h2:q5 b c):q5 a c:=by unfold q5 at *; omega
theorem sa (a b:bz):q5 a (hB a b):=by unfold q5 hB; simp only; omega
theorem r9 (a b:bz):q5 b (hB a b):=by unfold q5 hB; simp only; omega
def nR:T → Prop
 | .leaf=>True
 | .node w l r=>(∀ x ∈ items (.node w l r),q5 x.b w.cover) ∧ nR l ∧ nR r
theorem qG (b:bz) (l:T):q5 b (cvT b l):=by
 cases l with
 | leaf=>exact tJ b
 | node w l r=>exact sa _ _
theorem oG (b:bz) {l:T} (h:nR l):∀ x ∈ items l,q5 x.b (cvT b l):=by
 cases l with
 | leaf=>intro x hx; cases hx
 | node w l r=>exact fun x hx=>me (h.1 x hx) (r9 _ _)
theorem fP (v:bc) (l r:T):items (mk v l r) = items l ++ v.x :: items r:=rfl
theorem kX {v:bc} {l r:T} (hl:nR l) (hr:nR r):nR (mk v l r):=by
 refine ⟨fun x hx=>?_,hl,hr⟩
 show q5 x.b (cvT (cvT v.x.b l) r)
 rcases List.mem_append.1 hx with hx | hx
 ·exact me (oG v.x.b hl x hx) (qG _ r)
 ·rcases List.mem_cons.1 hx with rfl | hx
  ·exact me (qG _ l) (qG _ r)
  ·exact oG _ hr x hx
def lS (f:Nat) (l:List entry):Prop:=l.Pairwise (lh f)
theorem iB {f:Nat} {x y z:entry} (h1:lh f x y) (h2:lh f y z):lh f x z:=by
 unfold lh lk4 at *; omega
theorem oB {f:Nat} {x y:entry} (h1:lh f x y) (h2:lh f y x):False:=by
 unfold lh lk4 at *; omega
theorem nn {f:Nat} {a:entry} {l r:List entry} (h:lS f (l ++ a :: r)):lS f l ∧ lS f r ∧ (∀ y ∈ l,lh f y a) ∧ (∀ y ∈ r,lh f a y):=by
 unfold lS at *
 rw [List.pairwise_append,List.pairwise_cons] at h
 exact ⟨h.1,h.2.1.2,fun y hy=>h.2.2 y hy a (by simp),h.2.1.1⟩
theorem tm {f:Nat} (hf:f = 50 ∨ f = 51) (rt:T) (k:Nat) (x:entry):∀ (t:T) (m:Nat),(items t).length < m → nR t → lS f (items t) →
  ∃ a b,bN 20000 m ⟨rt,f,k,49⟩ t x = some (a,b) ∧ items a ++ items b = items t ∧ (∀ y ∈ items a,lh f y x) ∧ (∀ y ∈ items b,¬ lh f y x) ∧ nR a ∧ nR b:=by
 intro t
 induction t with
 | leaf=>
  intro m hm _ _
  cases m with
  | zero=>omega
  | succ m=>exact ⟨.leaf,.leaf,rfl,rfl,by simp [items],by simp [items],trivial,trivial⟩
 | node w l r ihl ihr=>
  intro m hm hc hs
  cases m with
  | zero=>omega
  | succ m=>
  simp only [items,List.length_append,List.length_cons] at hm
  obtain ⟨s1,s2,s3,s4⟩:=nn hs
  obtain ⟨v,hv,hlt,_⟩:=tc hf w.x x
  unfold bN
  simp only [cG.cW,Bool.false_eq_true,if_false,iK,Option.bind_some,hv]
  by_cases h:v < 0
  ·obtain ⟨a,b,e,h1,h2,h3,h4,h5⟩:=ihr m (by omega) hc.2.2 s2
   have hx:=hlt.1 h
   refine ⟨mk w l a,b,?_,?_,?_,h3,kX hc.2.1 h4,h5⟩
   ·rw [if_pos (by simpa using h),e]
    simp only [Option.bind_some,iQ]
   ·rw [fP,items,← h1]; simp
   ·intro y hy
    rw [fP] at hy
    rcases List.mem_append.1 hy with hy | hy
    ·exact iB (s3 y hy) hx
    ·rcases List.mem_cons.1 hy with rfl | hy
     ·exact hx
     ·exact h2 y hy
  ·obtain ⟨a,b,e,h1,h2,h3,h4,h5⟩:=ihl m (by omega) hc.2.1 s1
   have hx:¬ lh f w.x x:=fun e=>h (hlt.2 e)
   refine ⟨a,mk w b r,?_,?_,h2,?_,h4,kX h5 hc.2.2⟩
   ·rw [if_neg (by simpa using h),e]
    simp only [Option.bind_some,iQ]
   ·rw [fP,items,← h1]; simp
   ·intro y hy
    rw [fP] at hy
    rcases List.mem_append.1 hy with hy | hy
    ·exact h3 y hy
    ·rcases List.mem_cons.1 hy with rfl | hy
     ·exact hx
     ·exact fun e=>hx (iB (s4 y hy) e)
theorem oZ (rt:T) (f k:Nat):∀ (m:Nat) (a b:T),(items a).length + (items b).length < m → nR a → nR b →
  ∃ t,bX 20000 m ⟨rt,f,k,49⟩ a b = some t ∧ items t = items a ++ items b ∧ nR t:=by
 intro m
 induction m with
 | zero=>intro a b h; omega
 | succ m ih=>
  intro a b hm ha hb
  unfold bX
  cases a with
  | leaf=>exact ⟨b,rfl,rfl,hb⟩
  | node w l r=>
   cases b with
   | leaf=>exact ⟨.node w l r,rfl,by simp [items],ha⟩
   | node w2 l2 r2=>
    simp only [cG.cW,Bool.false_eq_true,if_false,iK,Option.bind_some]
    simp only [items,List.length_append,List.length_cons] at hm
    by_cases h:w2.priority < w.priority
    ·obtain ⟨t,e,h1,h2⟩:=ih r (.node w2 l2 r2) (by simp only [items,List.length_append,List.length_cons]; omega) ha.2.2 hb
     refine ⟨mk w l t,?_,?_,kX ha.2.1 h2⟩
     ·rw [if_pos (by simpa using h),e]
      simp only [Option.bind_some,iQ]
     ·rw [fP,h1]; simp [items]
    ·obtain ⟨t,e,h1,h2⟩:=ih (.node w l r) l2 (by simp only [items,List.length_append,List.length_cons]; omega) ha hb.2.1
     refine ⟨mk w2 t r2,?_,?_,kX h2 hb.2.2⟩
     ·rw [if_neg (by simpa using h),e]
      simp only [Option.bind_some,iQ]
     ·rw [fP,h1]; simp [items]
theorem rH {f:Nat} (hf:f = 50 ∨ f = 51) (rt:T) (k:Nat) (x:entry):∀ (t:T) (m:Nat),(items t).length < m → (items t).length < 20000 → nR t → lS f (items t) →
  ∀ pre y post,items t = pre ++ y :: post → ¬ lh f x y → ¬ lh f y x → ∃ t',bY 20000 m ⟨rt,f,k,49⟩ t x = some t' ∧ items t' = pre ++ post ∧ nR t':=by
 intro t
 induction t with
 | leaf=>intro m _ _ _ _ pre y post h; simp [items] at h
 | node w l r ihl ihr=>
  intro m hm h2k hc hs pre y post mZ hy1 hy2
  cases m with
  | zero=>omega
  | succ m=>
  simp only [items,List.length_append,List.length_cons] at hm h2k
  obtain ⟨s1,s2,s3,s4⟩:=nn hs
  obtain ⟨v,hv,hlt,hgt⟩:=tc hf x w.x
  unfold bY
  simp only [iK,Option.bind_some,hv]
  have hcase:∀ z,z ∈ items l → lh f z w.x:=s3
  rw [items] at mZ
  have hl:=List.append_eq_append_iff.1 mZ
  by_cases h:v < 0
  ·have hx:=hlt.1 h
   rcases hl with ⟨us,h1,h3⟩ | ⟨vs,h1,h3⟩
   ·exfalso
    cases us with
    | nil=>
     have:w.x = y:=by simpa using (List.cons.inj (by simpa using h3)).1
     rw [← this] at hy1; exact hy1 hx
    | cons a us=>
     have hm:y ∈ items r:=by
      have:=(List.cons.inj (by simpa using h3)).2
      rw [this]; simp
     exact hy1 (iB hx (s4 y hm))
   ·cases vs with
    | nil=>
     exfalso
     have:w.x = y:=by simpa using (List.cons.inj (by simpa using h3)).1.symm
     rw [← this] at hy1; exact hy1 hx
    | cons b vs=>
     obtain ⟨e1,e2⟩:=List.cons.inj (by simpa using h3:y :: post = b :: (vs ++ w.x :: items r))
     subst e1
     obtain ⟨t',e,g1,g2⟩:=ihl m (by omega) (by omega) hc.2.1 s1 pre y vs h1 hy1 hy2
     refine ⟨mk w t' r,?_,?_,kX g2 hc.2.2⟩
     ·rw [if_pos (by simpa using h),e]
      simp only [Option.bind_some,iQ]
     ·rw [fP,g1,e2]; simp
  ·rw [if_neg (by simpa using h)]
   by_cases h':0 < v
   ·have hx:=hgt.1 h'
    rw [if_pos (by simpa using h')]
    rcases hl with ⟨us,h1,h3⟩ | ⟨vs,h1,h3⟩
    ·cases us with
     | nil=>
      exfalso
      have:w.x = y:=by simpa using (List.cons.inj (by simpa using h3)).1
      rw [← this] at hy2; exact hy2 hx
     | cons a us=>
      obtain ⟨e1,e2⟩:=List.cons.inj (by simpa using h3:w.x :: items r = a :: (us ++ y :: post))
      subst e1
      obtain ⟨t',e,g1,g2⟩:=ihr m (by omega) (by omega) hc.2.2 s2 us y post e2 hy1 hy2
      refine ⟨mk w l t',?_,?_,kX hc.2.1 g2⟩
      ·rw [e]
       simp only [Option.bind_some,iQ]
      ·rw [fP,g1,h1]; simp
    ·exfalso
     cases vs with
     | nil=>
      have:w.x = y:=by simpa using (List.cons.inj (by simpa using h3)).1.symm
      rw [← this] at hy2; exact hy2 hx
     | cons b vs=>
      have hm:y ∈ items l:=by
       have:=(List.cons.inj (by simpa using h3:y :: post = b :: (vs ++ w.x :: items r))).1
       rw [h1,this]; simp
      exact hy2 (iB (s3 y hm) hx)
   ·rw [if_neg (by simpa using h')]
    have hn1:¬ lh f x w.x:=fun e=>h (hlt.2 e)
    have hn2:¬ lh f w.x x:=fun e=>h' (hgt.2 e)
    obtain ⟨t',e,g1,g2⟩:=oZ rt f k 20000 l r (by omega) hc.2.1 hc.2.2
    refine ⟨t',?_,?_,g2⟩
    ·unfold ck
     rw [e]; rfl
    ·rw [g1]
     rcases hl with ⟨us,h1,h3⟩ | ⟨vs,h1,h3⟩
     ·cases us with
      | nil=>
       obtain ⟨e1,e2⟩:=List.cons.inj (by simpa using h3:w.x :: items r = y :: post)
       rw [h1,e2]; simp
      | cons a us=>
       exfalso
       have hm:y ∈ items r:=by
        have:=(List.cons.inj (by simpa using h3:w.x :: items r = a :: (us ++ y :: post))).2
        rw [this]; simp
       have g:=s4 y hm
       unfold lh lk4 at *; omega
     ·cases vs with
      | nil=>
       obtain ⟨e1,e2⟩:=List.cons.inj (by simpa using h3:y :: post = w.x :: items r)
       rw [h1,e2]; simp
      | cons b vs=>
       exfalso
       have hm:y ∈ items l:=by
        have:=(List.cons.inj (by simpa using h3:y :: post = b :: (vs ++ w.x :: items r))).1
        rw [h1,this]; simp
       have g:=s3 y hm
       unfold lh lk4 at *; omega
def zE:entry:=⟨0,zB⟩
theorem get_aux (id:Int):∀ (t:T) (m:Nat),(items t).length < m → lS 50 (items t) →
  fM (iter m (fun n_1=>if (!n_1.cW) = true then (Option.bind (iK n_1) (fun nd_2=>if (decide (id = nd_2.1.x.id)) = true then (Option.bind (iK n_1) (fun nd_3=>some (.inr (.inr (nd_3.1.x,true))))) else (Option.bind (iK n_1) (fun nd_4=>if (decide (id < nd_4.1.x.id)) = true then (Option.bind (iK n_1) (fun nd_5=>some (.inl nd_5.2.1))) else (Option.bind (iK n_1) (fun nd_6=>some (.inl nd_6.2.2))))))) else (some (.inr (.inl ())))) t:Option (Unit ⊕ entry × Bool))
   (fun o=>(∃ x ∈ items t,x.id = id ∧ o = .inr (x,true)) ∨ (o = .inl () ∧ ∀ x ∈ items t,x.id ≠ id)):=by
 intro t
 induction t with
 | leaf=>
  intro m hm hs
  cases m with
  | zero=>omega
  | succ m=>
   rw [dZ]
   exact ⟨.inl (),rfl,.inr ⟨rfl,by simp [items]⟩⟩
 | node w l r ihl ihr=>
  intro m hm hs
  cases m with
  | zero=>omega
  | succ m=>
  simp only [items,List.length_append,List.length_cons] at hm
  obtain ⟨s1,s2,s3,s4⟩:=nn hs
  rw [dZ]
  simp only [cG.cW,Bool.not_false,if_true,iK,Option.bind_some]
  by_cases h:id = w.x.id
  ·rw [if_pos (by simpa using h)]
   exact ⟨.inr (w.x,true),rfl,.inl ⟨w.x,by simp [items],h.symm,rfl⟩⟩
  ·rw [if_neg (by simpa using h)]
   by_cases h2:id < w.x.id
   ·rw [if_pos (by simpa using h2)]
    refine (ihl m (by omega) s1).mono fun o ho=>?_
    rcases ho with ⟨x,hx,h3,h4⟩ | ⟨h3,h4⟩
    ·exact .inl ⟨x,by simp [items,hx],h3,h4⟩
    ·refine .inr ⟨h3,fun x hx=>?_⟩
     rcases List.mem_append.1 hx with hx | hx
     ·exact h4 x hx
     ·rcases List.mem_cons.1 hx with rfl | hx
      ·exact fun e=>h e.symm
      ·have:=(kz _ _).1 (s4 x hx); omega
   ·rw [if_neg (by simpa using h2)]
    refine (ihr m (by omega) s2).mono fun o ho=>?_
    rcases ho with ⟨x,hx,h3,h4⟩ | ⟨h3,h4⟩
    ·exact .inl ⟨x,by simp [items,hx],h3,h4⟩
    ·refine .inr ⟨h3,fun x hx=>?_⟩
     rcases List.mem_append.1 hx with hx | hx
     ·have:=(kz _ _).1 (s3 x hx); omega
     ·rcases List.mem_cons.1 hx with rfl | hx
      ·exact fun e=>h e.symm
      ·exact h4 x hx
structure kB (s:c7) (L:List entry):Prop where
 c1:s.ids.compare = 50
 c2:s.boxes.compare = 51
 k1:s.ids.key = 48
 k2:s.boxes.key = 48
 b1:s.ids.box = 49
 b2:s.boxes.box = 49
 it:items s.ids.root = L
 pm:(items s.boxes.root).Perm L
 s1:lS 50 L
 s2:lS 51 (items s.boxes.root)
 v1:nR s.ids.root
 v2:nR s.boxes.root
 vb:∀ x ∈ L,vB x.b = true
theorem s8 {s:c7} {L:List entry} (h:kB s L) (hL:L.length < 1000) (id:Int):(∃ x ∈ L,x.id = id ∧ cn 20000 s id = some (x,true)) ∨ (cn 20000 s id = some (zE,false) ∧ ∀ x ∈ L,x.id ≠ id):=by
 obtain ⟨o,ho,h1⟩:=get_aux id s.ids.root 20000 (by rw [h.it]; omega) (by rw [h.it]; exact h.s1)
 rw [h.it] at h1
 unfold cn
 rw [ho]
 rcases h1 with ⟨x,hx,h2,rfl⟩ | ⟨rfl,h2⟩
 ·exact .inl ⟨x,hx,h2,rfl⟩
 ·exact .inr ⟨rfl,h2⟩
theorem r6 {f:Nat} (hf:f = 50 ∨ f = 51) {x y:entry} (hn:y.id ≠ x.id) (h:¬ lh f y x):lh f x y:=by
 rcases hf with rfl | rfl
 ·rw [kz] at *; omega
 ·rw [ltE51] at *; omega
theorem rB {f:Nat} (x:entry):¬ lh f x x:=fun h=>oB h h
theorem sH {f:Nat} {L M:List entry} (h1:lS f L) (h2:lS f M) (hp:L.Perm M):L = M :=
 List.Perm.eq_of_pairwise (fun a b _ _ h h'=>(oB h h').elim) h1 h2 hp
theorem tC (z:Int):∃ p,eT 20000 z = some p:=by
 unfold eT er
 exact ⟨_,rfl⟩
theorem kf (x:entry):gk 20000 48 x = some (IntKind.u64.wrap x.id):=rfl
theorem wth (t:ir) (x:entry) (a b n u w:T) (p:Int) (h1:eF 20000 t t.root x = some (a,b)) (h2:gk 20000 t.key x = some (IntKind.u64.wrap x.id)) (hp:eT 20000 (IntKind.u64.wrap x.id) = some p) (hm:a8 20000 t (.node ⟨x,p,⟨A3.zero,A3.zero⟩⟩ .leaf .leaf) .leaf .leaf = some n) (h3:ck 20000 t a n = some u) (h4:ck 20000 t u b = some w):bD 20000 t x = some ⟨w,t.compare,t.key,t.box⟩:=by
 unfold bD
 rw [h1,Option.bind_some]
 simp only [eW]
 rw [h2,Option.bind_some,hp,Option.bind_some,hm,Option.bind_some,h3,Option.bind_some,h4]
 rfl
theorem rl {f:Nat} (hf:f = 50 ∨ f = 51) {rt:T} {x:entry} (hc:nR rt) (hs:lS f (items rt)) (hn:∀ y ∈ items rt,y.id ≠ x.id) (hL:(items rt).length < 1000) :
  ∃ t',bD 20000 ⟨rt,f,48,49⟩ x = some ⟨t',f,48,49⟩ ∧ (items t').Perm (x :: items rt) ∧ lS f (items t') ∧ nR t':=by
 obtain ⟨a,b,e,h1,h2,h3,h4,h5⟩:=tm hf rt 48 x rt 20000 (by omega) hc hs
 have hlen:(items a).length + (items b).length = (items rt).length:=by rw [← h1,List.length_append]
 obtain ⟨p,hp⟩:=tC (IntKind.u64.wrap x.id)
 obtain ⟨n,hmk,hn1,hn2⟩:∃ n:T,a8 20000 ⟨rt,f,48,49⟩ (.node ⟨x,p,⟨A3.zero,A3.zero⟩⟩ .leaf .leaf) .leaf .leaf = some n ∧ items n = [x] ∧ nR n :=
  ⟨_,iQ rt f 48 _ _ _ _ _,rfl,kX trivial trivial⟩
 obtain ⟨u,hu,u1,u2⟩:=oZ rt f 48 20000 a n (by rw [hn1]; simp; omega) h4 hn2
 obtain ⟨w,hw,w1,w2⟩:=oZ rt f 48 20000 u b (by rw [u1,hn1]; simp; omega) u2 h5
 refine ⟨w,?_,?_,?_,w2⟩
 ·exact wth ⟨rt,f,48,49⟩ x a b n u w p e (kf x) hp hmk hu hw
 ·rw [w1,u1,hn1,← h1]
  simp
 ·rw [w1,u1,hn1]
  rw [← h1] at hs hn
  unfold lS at *
  rw [List.pairwise_append] at hs
  have hx:∀ y ∈ items b,lh f x y:=fun y hy=>r6 hf (hn y (by simp [hy])) (h3 y hy)
  rw [List.append_assoc,List.pairwise_append]
  refine ⟨hs.1,?_,?_⟩
  ·show ([x] ++ items b).Pairwise _
   exact List.pairwise_cons.2 ⟨hx,hs.2.1⟩
  ·intro y hy z hz
   rcases List.mem_append.1 hz with hz | hz
   ·rw [List.mem_singleton] at hz; subst hz; exact h2 y hy
   ·exact hs.2.2 y hy z hz
theorem ny {f:Nat} (hf:f = 50 ∨ f = 51) {rt:T} {x:entry} (hc:nR rt) (hs:lS f (items rt)) (hx:x ∈ items rt) (hL:(items rt).length < 1000) :
  ∃ t',bn 20000 ⟨rt,f,48,49⟩ x = some ⟨t',f,48,49⟩ ∧ (x :: items t').Perm (items rt) ∧ lS f (items t') ∧ nR t':=by
 obtain ⟨pre,post,e⟩:=List.append_of_mem hx
 obtain ⟨t',h,h1,h2⟩:=rH hf rt 48 x rt 20000 (by omega) (by omega) hc hs pre x post e (rB x) (rB x)
 refine ⟨t',?_,?_,?_,h2⟩
 ·unfold bn fm
  rw [h]; rfl
 ·rw [h1,e]; exact List.perm_middle.symm
 ·rw [h1]
  rw [e] at hs
  unfold lS at *
  rw [List.pairwise_append,List.pairwise_cons] at hs
  rw [List.pairwise_append]
  exact ⟨hs.1,hs.2.1.2,fun y hy z hz=>hs.2.2 y hy z (by simp [hz])⟩
def oI (x:entry):List entry → List entry
 | []=>[x]
 | y :: l=>if x.id < y.id then x :: y :: l else y :: oI x l
def pn (id:Int) (L:List entry):List entry:=L.filter fun y=>decide (y.id ≠ id)
theorem iC (x:entry):∀ L,(oI x L).Perm (x :: L)
 | []=>.refl _
 | y :: l=>by
  unfold oI
  split
  ·exact .refl _
  ·exact .trans (.cons y (iC x l)) (.swap x y l)
theorem pO {x y:entry} {L:List entry}:y ∈ oI x L ↔ y = x ∨ y ∈ L:=by rw [(iC x L).mem_iff,List.mem_cons]
theorem nu {x:entry}:∀ {L:List entry},lS 50 L → (∀ y ∈ L,y.id ≠ x.id) → lS 50 (oI x L)
 | [],_,_=>by simp [oI,lS]
 | y :: l,h,hn=>by
  have h1:=List.pairwise_cons.1 h
  unfold oI
  split
  ·next hc=>
   refine List.pairwise_cons.2 ⟨fun z hz=>?_,h⟩
   rcases List.mem_cons.1 hz with rfl | hz
   ·rw [kz]; exact hc
   ·exact iB ((kz _ _).2 hc) (h1.1 z hz)
  ·next hc=>
   have hne:=hn y (by simp)
   refine List.pairwise_cons.2 ⟨fun z hz=>?_,nu h1.2 fun z hz=>hn z (by simp [hz])⟩
   rcases pO.1 hz with rfl | hz
   ·rw [kz]; omega
   ·exact h1.1 z hz
theorem pW {id:Int} {L:List entry} (h:lS 50 L):lS 50 (pn id L):=h.filter _
theorem tM {id:Int} {L:List entry} {y:entry}:y ∈ pn id L ↔ y ∈ L ∧ y.id ≠ id:=by unfold pn; simp
theorem oF {x:entry} {L:List entry} (h:lS 50 L) (hx:x ∈ L):(x :: pn x.id L).Perm L:=by
 obtain ⟨pre,post,e⟩:=List.append_of_mem hx
 have e2:pn x.id L = pre ++ post:=by
  have h':=h
  rw [e] at h'
  unfold lS at h'
  rw [List.pairwise_append,List.pairwise_cons] at h'
  unfold pn
  rw [e,List.filter_append,List.filter_cons]
  have a1:pre.filter (fun y=>decide (y.id ≠ x.id)) = pre:=List.filter_eq_self.2 fun y hy=>by
   have:=(kz _ _).1 (h'.2.2 y hy x (by simp)); simp; omega
  have a2:post.filter (fun y=>decide (y.id ≠ x.id)) = post:=List.filter_eq_self.2 fun y hy=>by
   have:=(kz _ _).1 (h'.2.1.1 y hy); simp; omega
  rw [a1,a2]; simp
 rw [e2,e]
 exact List.perm_middle.symm
theorem mU {t:ir} {f:Nat} (h1:t.compare = f) (h2:t.key = 48) (h3:t.box = 49):t = ⟨t.root,f,48,49⟩:=by
 cases t; subst h1; subst h2; subst h3; rfl
theorem putN_ok {s:c7} {L:List entry} (h:kB s L) (hL:L.length < 1000) {x:entry} (hv:vB x.b = true) (hn:∀ y ∈ L,y.id ≠ x.id) :
  ∃ s':c7,bD 20000 s.ids x = some s'.ids ∧ bD 20000 s.boxes x = some s'.boxes ∧ kB s' (oI x L):=by
 obtain ⟨a,ha,a1,a2,a3⟩:=rl (f:=50) (.inl rfl) h.v1 (by rw [h.it]; exact h.s1) (x:=x) (by rw [h.it]; exact hn) (by rw [h.it]; exact hL)
 obtain ⟨b,hb,b1,b2,b3⟩:=rl (f:=51) (.inr rfl) h.v2 h.s2 (x:=x) (fun y hy=>hn y (h.pm.mem_iff.1 hy)) (by rw [h.pm.length_eq]; exact hL)
 rw [← mU h.c1 h.k1 h.b1] at ha
 rw [← mU h.c2 h.k2 h.b2] at hb
 refine ⟨⟨⟨a,50,48,49⟩,⟨b,51,48,49⟩⟩,ha,hb,⟨rfl,rfl,rfl,rfl,rfl,rfl,?_,?_,nu h.s1 hn,b2,a3,b3,?_⟩⟩
 ·rw [h.it] at a1
  exact sH a2 (nu h.s1 hn) (a1.trans (iC x L).symm)
 ·exact b1.trans ((h.pm.cons x).trans (iC x L).symm)
 ·intro y hy
  rcases pO.1 hy with rfl | hy
  ·exact hv
  ·exact h.vb y hy
theorem Put_ok {s:c7} {L:List entry} (h:kB s L) (hL:L.length < 1000) (id:Int) (b:bz) :
  ∃ s' e,ca 20000 s id b = some (s',e) ∧ ((vB b = false ∧ e = 1) ∨ (vB b = true ∧ (∃ x ∈ L,x.id = id) ∧ e = 6) ∨ (vB b = true ∧ (∀ x ∈ L,x.id ≠ id) ∧ e = 0 ∧ kB s' (oI ⟨id,b⟩ L))):=by
 unfold ca
 rw [lG]
 cases hv:vB b
 ·exact ⟨_,_,rfl,.inl ⟨rfl,rfl⟩⟩
 ·simp only [Option.bind_some,Bool.not_true,Bool.false_eq_true,if_false]
  rcases s8 h hL id with ⟨x,hx,e,hg⟩ | ⟨hg,hn⟩
  ·rw [hg]
   exact ⟨_,_,rfl,.inr (.inl ⟨trivial,⟨x,hx,e⟩,rfl⟩)⟩
  ·rw [hg]
   obtain ⟨s',h1,h2,h3⟩:=putN_ok h hL (x:=⟨id,b⟩) hv hn
   simp only [Option.bind_some,eW,Bool.false_eq_true,if_false,h1,h2]
   exact ⟨_,_,rfl,.inr (.inr ⟨trivial,hn,rfl,h3⟩)⟩
theorem delN_ok {s:c7} {L:List entry} (h:kB s L) (hL:L.length < 1000) {x:entry} (hx:x ∈ L) :
  ∃ s':c7,bn 20000 s.ids x = some s'.ids ∧ bn 20000 s.boxes x = some s'.boxes ∧ kB s' (pn x.id L):=by
 obtain ⟨a,ha,a1,a2,a3⟩:=ny (f:=50) (.inl rfl) h.v1 (by rw [h.it]; exact h.s1) (x:=x) (by rw [h.it]; exact hx) (by rw [h.it]; exact hL)
 obtain ⟨b,hb,b1,b2,b3⟩:=ny (f:=51) (.inr rfl) h.v2 h.s2 (x:=x) (h.pm.mem_iff.2 hx) (by rw [h.pm.length_eq]; exact hL)
 rw [← mU h.c1 h.k1 h.b1] at ha
 rw [← mU h.c2 h.k2 h.b2] at hb
 have hp:=oF h.s1 hx
 refine ⟨⟨⟨a,50,48,49⟩,⟨b,51,48,49⟩⟩,ha,hb,⟨rfl,rfl,rfl,rfl,rfl,rfl,?_,?_,pW h.s1,b2,a3,b3,?_⟩⟩
 ·rw [h.it] at a1
  exact sH a2 (pW h.s1) (List.perm_cons x |>.1 (a1.trans hp.symm))
 ·exact List.perm_cons x |>.1 ((b1.trans h.pm).trans hp.symm)
 ·intro y hy
  exact h.vb y (tM.1 hy).1
theorem sj {s:c7} {L:List entry} (h:kB s L) (hL:L.length < 1000) (id:Int) :
  ∃ s' e,cc 20000 s id = some (s',e) ∧ (((∀ x ∈ L,x.id ≠ id) ∧ e = 5) ∨ ((∃ x ∈ L,x.id = id) ∧ e = 0 ∧ kB s' (pn id L))):=by
 unfold cc
 rcases s8 h hL id with ⟨x,hx,e,hg⟩ | ⟨hg,hn⟩
 ·rw [hg]
  obtain ⟨s',h1,h2,h3⟩:=delN_ok h hL hx
  simp only [Option.bind_some,eW,Bool.not_true,Bool.false_eq_true,if_false,h1,h2]
  rw [e] at h3
  exact ⟨_,_,rfl,.inr ⟨⟨x,hx,e⟩,rfl,h3⟩⟩
 ·rw [hg]
  exact ⟨_,_,rfl,.inl ⟨hn,rfl⟩⟩
def bx (l:List bz) (k:Int):bz:=idx l k
def entsF:Nat → List bz → List entry
 | _,[]=>[]
 | k,b :: l=>⟨k,b⟩ :: entsF (k + 1) l
def rQ (l:List bz):List entry:=entsF 0 l
def up (n:Nat):List Int:=(List.range n).map fun k:Nat=>(k:Int)
structure Swp (l:List bz) (pre active:List Int) (out:List A2):Prop where
 sub:∀ k ∈ active,k ∈ pre
 nd:active.Nodup
 gone:∀ k ∈ pre,k ∉ active → ∃ m ∈ pre,(bx l k).Hi.a0 < (bx l m).Lo.a0
 ond:out.Nodup
 om:∀ p,p ∈ out ↔ ∃ i ∈ pre,∃ k ∈ pre,i < k ∧ mB (bx l i) (bx l k) = true ∧ p = ⟨i,k⟩
theorem sf (a b:bz) (n:Int):bj 20000 a b n = some true:=by
 unfold bj
 simp only [grow_eq,tw,Option.bind_some,eW,oq,ne_eq,not_true_eq_false,decide_false,Bool.or_false,Bool.not_false,bF,if_true,lG,Bool.false_or,er,bne_self_eq_false,Bool.false_eq_true,if_false]
 by_cases h:(!vB a || !vB b) = true
 ·rw [if_pos h,oo]; rfl
 ·rw [if_neg h,oo]
  simp only [Option.bind_some,if_true,rz,tu,hull_eq,tv,beq_self_eq_true,Bool.true_and,decide_true]
def Hol (s:c7) (M:List entry):Prop:=∃ L,kB s L ∧ L.Perm M
theorem Hol.put {s:c7} {M:List entry} (h:Hol s M) (hM:M.length < 900) {id:Int} {b:bz} (hv:vB b = true) (hn:∀ x ∈ M,x.id ≠ id) :
  ∃ s',ca 20000 s id b = some (s',0) ∧ Hol s' (⟨id,b⟩ :: M):=by
 obtain ⟨L,h1,h2⟩:=h
 obtain ⟨s',e,h3,h4⟩:=Put_ok h1 (by rw [h2.length_eq]; omega) id b
 rcases h4 with ⟨h4,_⟩ | ⟨_,⟨x,hx,h4⟩,_⟩ | ⟨_,_,rfl,h4⟩
 ·rw [hv] at h4; cases h4
 ·exact absurd h4 (hn x (h2.mem_iff.1 hx))
 ·exact ⟨s',h3,_,h4,(iC _ _).trans (h2.cons _)⟩
theorem Hol.del {s:c7} {M:List entry} {x:entry} (h:Hol s (x :: M)) (hM:M.length < 900) :
  ∃ s',cc 20000 s x.id = some (s',0) ∧ Hol s' M:=by
 obtain ⟨L,h1,h2⟩:=h
 obtain ⟨s',e,h3,h4⟩:=sj h1 (by rw [h2.length_eq]; simp; omega) x.id
 have hx:x ∈ L:=h2.mem_iff.2 (by simp)
 rcases h4 with ⟨h4,_⟩ | ⟨_,rfl,h4⟩
 ·exact absurd rfl (h4 x hx)
 ·exact ⟨s',h3,_,h4,List.perm_cons x |>.1 ((oF h1.s1 hx).trans h2)⟩
end Go.Proofs.YtagpkeehkcopaaaGreat
namespace Go.Proofs.YtagpkeehkcopaaaGreat
open Go Go.Sk
theorem sg (x0:bz) (x1:bz) (x2:Int):aq Tryz.prog [] 3 [] [.agg (ak x0),.agg (ak x1),.one (.i x2)] (Is [] (.b (.one (.bool true)))) :=
 dV (sf x0 x1 x2)
end Go.Proofs.YtagpkeehkcopaaaGreat
