/- the plain law -/
import Derived.Test.YtagpkeehkcopaaaGreatW2
import Derived.Sort.AssemblyPlain
namespace Go.Proofs.YtagpkeehkcopaaaGreat
open Go Go.Sk
set_option maxRecDepth 100000
set_option linter.unusedVariables false
set_option linter.unusedSimpArgs false
def qc (x:Int):List Int → List Int
 | []=>[x]
 | y :: l=>if x ≤ y then x :: y :: l else y :: qc x l
def nR:List Int → List Int
 | []=>[]
 | x :: l=>qc x (nR l)
theorem lZ (x:Int):∀ l:List Int,(qc x l).Perm (x :: l)
 | []=>.refl _
 | y :: l=>by
  unfold qc
  split
  ·exact .refl _
  ·exact .trans (.cons y (lZ x l)) (.swap x y l)
theorem nv:∀ l:List Int,(nR l).Perm l
 | []=>.refl _
 | x :: l=>(lZ x (nR l)).trans (.cons x (nv l))
theorem rk (x:Int):∀ l:List Int,l.Pairwise (· ≤ ·) → (qc x l).Pairwise (· ≤ ·)
 | [],_=>by simp [qc]
 | y :: l,h=>by
  unfold qc
  have h1:=List.pairwise_cons.1 h
  split
  ·next hc=>
   refine List.pairwise_cons.2 ⟨fun z hz=>?_,h⟩
   rcases List.mem_cons.1 hz with rfl | hz
   ·exact hc
   ·exact Int.le_trans hc (h1.1 z hz)
  ·next hc=>
   refine List.pairwise_cons.2 ⟨fun z hz=>?_,rk x l h1.2⟩
   rcases List.mem_cons.1 ((lZ x l).mem_iff.1 hz) with rfl | hz
   ·omega
   ·exact h1.1 z hz
theorem pA:∀ l:List Int,(nR l).Pairwise (· ≤ ·)
 | []=>.nil
 | x :: l=>rk x _ (pA l)
theorem sorted_perm (l:List Int):(sorted l).Perm l:=List.mergeSort_perm _ _
theorem rG (l:List Int):(sorted l).Pairwise (· ≤ ·) :=
 (List.pairwise_mergeSort (le:=fun x y:Int=>decide (x ≤ y)) (fun a b c h1 h2=>by simp only [decide_eq_true_eq] at *; omega) (fun a b=>by simp only [Bool.or_eq_true,decide_eq_true_eq]; omega) l).imp fun h=>of_decide_eq_true h
theorem rH (l:List Int):sorted l = nR l :=
 List.Perm.eq_of_pairwise (fun a b _ _ h1 h2=>Int.le_antisymm h1 h2) (rG l) (pA l) ((sorted_perm l).trans (nv l).symm)
def sort2 (F:Nat) (zs:List Int):Option (List Int):=if zs.length < 1000000000 then some (nR zs) else none
theorem sort_eq:fy = sort2:=by
 funext F zs
 unfold fy ox sort2
 rw [rH]
def qb (x:A2):List A2 → List A2
 | []=>[x]
 | y :: l=>if gT y x = true then y :: qb x l else x :: y :: l
def isA:List A2 → List A2
 | []=>[]
 | x :: l=>qb x (isA l)
def r8 (x y:A2):Prop:=gT y x = false
theorem oL (x y:A2):r8 x y ↔ (x.a0 < y.a0 ∨ (x.a0 = y.a0 ∧ x.a1 ≤ y.a1)):=by
 simp only [r8,gT,decide_eq_false_iff_not]; omega
theorem lY (x:A2):∀ l:List A2,(qb x l).Perm (x :: l)
 | []=>.refl _
 | y :: l=>by
  unfold qb
  split
  ·exact .trans (.cons y (lY x l)) (.swap x y l)
  ·exact .refl _
theorem pB:∀ l:List A2,(isA l).Perm l
 | []=>.refl _
 | x :: l=>(lY x (isA l)).trans (.cons x (pB l))
theorem rj (x:A2):∀ l:List A2,l.Pairwise r8 → (qb x l).Pairwise r8
 | [],_=>by simp [qb]
 | y :: l,h=>by
  unfold qb
  have h1:=List.pairwise_cons.1 h
  split
  ·next hc=>
   refine List.pairwise_cons.2 ⟨fun z hz=>?_,rj x l h1.2⟩
   rcases List.mem_cons.1 ((lY x l).mem_iff.1 hz) with rfl | hz
   ·rw [oL]; simp only [gT,decide_eq_true_eq] at hc; omega
   ·exact h1.1 z hz
  ·next hc=>
   refine List.pairwise_cons.2 ⟨fun z hz=>?_,h⟩
   have hxy:r8 x y:=by simpa [r8] using hc
   rcases List.mem_cons.1 hz with rfl | hz
   ·exact hxy
   ·have h2:=h1.1 z hz
    rw [oL] at *; omega
theorem sB:∀ l:List A2,(isA l).Pairwise r8
 | []=>.nil
 | x :: l=>rj x _ (sB l)
theorem tq {x y:A2} (h1:r8 x y) (h2:r8 y x):x = y:=by
 rw [oL] at *
 cases x; cases y
 simp only [A2.mk.injEq] at *
 omega
theorem rL (l:List A2):(l.mergeSort fun a b=>!gT b a) = isA l:=by
 have hp:(l.mergeSort fun a b=>!gT b a).Pairwise r8 :=
  (List.pairwise_mergeSort (le:=fun a b=>!gT b a) (fun a b c h1 h2=>by simp only [gT,Bool.not_eq_true',decide_eq_false_iff_not] at *; omega) (fun a b=>by simp only [gT,Bool.or_eq_true,Bool.not_eq_true',decide_eq_false_iff_not]; omega) l).imp fun h=>by simpa [r8] using h
 exact List.Perm.eq_of_pairwise (fun a b _ _ h1 h2=>tq h1 h2) hp (sB l) ((List.mergeSort_perm _ _).trans (pB l).symm)
def sortA (F:Nat) (zs:List A2):Option (List A2):=if zs.length < 1000000000 then some (isA zs) else none
theorem s9:cL = sortA:=by
 funext F zs
 unfold cL sortA
 rw [rL]
theorem jW:bI 20000 = some true:=by
 unfold bI c8 du dT cm ee dD
 rw [sort_eq,s9]
 decide +kernel
def vB (b:b5):Bool:=decide (b.Lo.a0 ≤ b.Hi.a0 ∧ -1125899906842624 ≤ b.Lo.a0 ∧ b.Hi.a0 ≤ 1125899906842624 ∧ b.Lo.a1 ≤ b.Hi.a1 ∧ -1125899906842624 ≤ b.Lo.a1 ∧ b.Hi.a1 ≤ 1125899906842624 ∧ b.Lo.a2 ≤ b.Hi.a2 ∧ -1125899906842624 ≤ b.Lo.a2 ∧ b.Hi.a2 ≤ 1125899906842624)
def mB (a b:b5):Bool:=decide (b.Lo.a0 ≤ a.Hi.a0 ∧ a.Lo.a0 ≤ b.Hi.a0 ∧ b.Lo.a1 ≤ a.Hi.a1 ∧ a.Lo.a1 ≤ b.Hi.a1 ∧ b.Lo.a2 ≤ a.Hi.a2 ∧ a.Lo.a2 ≤ b.Hi.a2)
def hB (a b:b5):b5:=⟨⟨min a.Lo.a0 b.Lo.a0,min a.Lo.a1 b.Lo.a1,min a.Lo.a2 b.Lo.a2⟩,⟨max a.Hi.a0 b.Hi.a0,max a.Hi.a1 b.Hi.a1,max a.Hi.a2 b.Hi.a2⟩⟩
theorem lx0 (a b c:Int):bj [a,b,c] 0 = some a:=rfl
theorem lx1 (a b c:Int):bj [a,b,c] 1 = some b:=rfl
theorem lx2 (a b c:Int):bj [a,b,c] 2 = some c:=rfl
theorem w1:IntKind.i64.wrap (0 + 1) = 1:=rfl
theorem w2:IntKind.i64.wrap (1 + 1) = 2:=rfl
theorem w3:IntKind.i64.wrap (2 + 1) = 3:=rfl
theorem iter4n {σ τ:Type} (n:Nat) (body:σ → Option (σ ⊕ τ)) (s:σ):iter (n + 4) body s = (body s).bind (cq (fun s=>(body s).bind (cq (fun s=>(body s).bind (cq (fun s=>(body s).bind (cq (iter n body) some)) some)) some)) some):=rfl
theorem qX {σ τ:Type} (body:σ → Option (σ ⊕ τ)) (s:σ):∃ K:σ → Option τ,iter 20000 body s = (body s).bind (cq (fun s=>(body s).bind (cq (fun s=>(body s).bind (cq (fun s=>(body s).bind (cq K some)) some)) some)) some):=⟨iter 19996 body,iter4n 19996 body s⟩
theorem d03:decide ((0:Int) < 3) = true:=rfl
theorem d13:decide ((1:Int) < 3) = true:=rfl
theorem d23:decide ((2:Int) < 3) = true:=rfl
theorem d33:decide ((3:Int) < 3) = false:=rfl
theorem rV {α:Type} (lo hi:Int) (A B:Option α):((bu (!decide (hi < lo)) (some lo)).bind fun x4=>(bu (!(decide (hi < lo) || decide (x4 < -1125899906842624))) (some hi)).bind fun x5=>if ((decide (hi < lo) || decide (x4 < -1125899906842624)) || decide (1125899906842624 < x5)) = true then A else B) =
  if (lo ≤ hi ∧ -1125899906842624 ≤ lo ∧ hi ≤ 1125899906842624) then B else A:=by
 by_cases h1:hi < lo
 ·rw [if_neg (by omega)]; simp [bu,h1]
 ·have g1:decide (hi < lo) = false:=by simpa using h1
  rw [g1]
  by_cases h2:lo < -1125899906842624
  ·have g2:decide (lo < -1125899906842624) = true:=by simpa using h2
   rw [if_neg (by omega)]; simp only [bu,Bool.not_false,if_true,Option.bind_some,g2,Bool.or_true,Bool.true_or,Bool.not_true,Bool.false_eq_true,if_false,Bool.false_or]
  ·have g2:decide (lo < -1125899906842624) = false:=by simpa using h2
   by_cases h3:1125899906842624 < hi
   ·rw [if_neg (by omega)]; simp only [bu,Bool.not_false,if_true,Option.bind_some,g2,Bool.or_false,Bool.false_or,h3,decide_true]
   ·rw [if_pos (by omega)]; simp only [bu,Bool.not_false,if_true,Option.bind_some,g2,Bool.or_false,Bool.false_or,h3,decide_false,Bool.false_eq_true,if_false]
theorem rM {α:Type} (ah bl bh al:Int) (A B:Option α):((bu (!decide (ah < bl)) (some bh)).bind fun x4=>(bu (!decide (ah < bl)) (some al)).bind fun x5=>if (decide (ah < bl) || decide (x4 < x5)) = true then A else B) =
  if (bl ≤ ah ∧ al ≤ bh) then B else A:=by
 by_cases h1:ah < bl
 ·rw [if_neg (by omega)]; simp [bu,h1]
 ·by_cases h2:bh < al
  ·rw [if_neg (by omega)]; simp [bu,h1,h2]
  ·rw [if_pos (by omega)]; simp [bu,h1,h2]
theorem ly (b:b5):bD 20000 b = some (vB b):=by
 obtain ⟨⟨a0,a1,a2⟩,⟨b0,b1,b2⟩⟩:=b
 unfold bD
 obtain ⟨K,hK⟩:=qX _ _
 rw [hK]
 clear hK
 simp only [A3.l,d03,d13,d23,d33,if_true,lx0,lx1,lx2,w1,w2,w3,Option.bind_some,rV,cq]
 unfold vB
 by_cases h0:a0 ≤ b0 ∧ -1125899906842624 ≤ a0 ∧ b0 ≤ 1125899906842624
 ·rw [if_pos h0]
  simp only [A3.l,d03,d13,d23,d33,if_true,lx0,lx1,lx2,w1,w2,w3,Option.bind_some,rV,cq]
  by_cases h1:a1 ≤ b1 ∧ -1125899906842624 ≤ a1 ∧ b1 ≤ 1125899906842624
  ·rw [if_pos h1]
   simp only [A3.l,d03,d13,d23,d33,if_true,lx0,lx1,lx2,w1,w2,w3,Option.bind_some,rV,cq]
   by_cases h2:a2 ≤ b2 ∧ -1125899906842624 ≤ a2 ∧ b2 ≤ 1125899906842624
   ·rw [if_pos h2]
    simp only [d33,Option.bind_some,cq,Bool.false_eq_true,if_false]
    exact congrArg some (decide_eq_true (by omega)).symm
   ·rw [if_neg h2]
    simp only [Option.bind_some,cq]
    exact congrArg some (decide_eq_false (by omega)).symm
  ·rw [if_neg h1]
   simp only [Option.bind_some,cq]
   exact congrArg some (decide_eq_false (by omega)).symm
 ·rw [if_neg h0]
  simp only [Option.bind_some,cq]
  exact congrArg some (decide_eq_false (by omega)).symm
theorem meet_eq (a b:b5):b6 20000 a b = some (mB a b):=by
 obtain ⟨⟨al0,al1,al2⟩,⟨ah0,ah1,ah2⟩⟩:=a
 obtain ⟨⟨bl0,bl1,bl2⟩,⟨bh0,bh1,bh2⟩⟩:=b
 unfold b6
 obtain ⟨K,hK⟩:=qX _ _
 rw [hK]
 clear hK
 simp only [A3.l,d03,d13,d23,d33,if_true,lx0,lx1,lx2,w1,w2,w3,Option.bind_some,rM,cq]
 unfold mB
 by_cases h0:bl0 ≤ ah0 ∧ al0 ≤ bh0
 ·rw [if_pos h0]
  simp only [A3.l,d03,d13,d23,d33,if_true,lx0,lx1,lx2,w1,w2,w3,Option.bind_some,rM,cq]
  by_cases h1:bl1 ≤ ah1 ∧ al1 ≤ bh1
  ·rw [if_pos h1]
   simp only [A3.l,d03,d13,d23,d33,if_true,lx0,lx1,lx2,w1,w2,w3,Option.bind_some,rM,cq]
   by_cases h2:bl2 ≤ ah2 ∧ al2 ≤ bh2
   ·rw [if_pos h2]
    simp only [d33,Option.bind_some,cq,Bool.false_eq_true,if_false]
    exact congrArg some (decide_eq_true (by omega)).symm
   ·rw [if_neg h2]
    simp only [Option.bind_some,cq]
    exact congrArg some (decide_eq_false (by omega)).symm
  ·rw [if_neg h1]
   simp only [Option.bind_some,cq]
   exact congrArg some (decide_eq_false (by omega)).symm
 ·rw [if_neg h0]
  simp only [Option.bind_some,cq]
  exact congrArg some (decide_eq_false (by omega)).symm
def zB:b5:=⟨A3.zero,A3.zero⟩
def gB (b:b5) (n:Int):b5:=⟨⟨b.Lo.a0 - n,b.Lo.a1 - n,b.Lo.a2 - n⟩,⟨b.Hi.a0 + n,b.Hi.a1 + n,b.Hi.a2 + n⟩⟩
def wB (b:b5) (n:Int):b5:=⟨⟨IntKind.i64.wrap (b.Lo.a0 - n),IntKind.i64.wrap (b.Lo.a1 - n),IntKind.i64.wrap (b.Lo.a2 - n)⟩,⟨IntKind.i64.wrap (b.Hi.a0 + n),IntKind.i64.wrap (b.Hi.a1 + n),IntKind.i64.wrap (b.Hi.a2 + n)⟩⟩
theorem qe (b:b5):vB b = true ↔ (b.Lo.a0 ≤ b.Hi.a0 ∧ -1125899906842624 ≤ b.Lo.a0 ∧ b.Hi.a0 ≤ 1125899906842624 ∧ b.Lo.a1 ≤ b.Hi.a1 ∧ -1125899906842624 ≤ b.Lo.a1 ∧ b.Hi.a1 ≤ 1125899906842624 ∧ b.Lo.a2 ≤ b.Hi.a2 ∧ -1125899906842624 ≤ b.Lo.a2 ∧ b.Hi.a2 ≤ 1125899906842624):=by
 unfold vB; exact decide_eq_true_iff
theorem wB_eq {b:b5} {n:Int} (hv:vB b = true) (h0:0 ≤ n) (h1:n ≤ 2251799813685248):wB b n = gB b n:=by
 rw [qe] at hv
 unfold wB gB
 rw [kh (by omega) (by omega),kh (by omega) (by omega),kh (by omega) (by omega),kh (by omega) (by omega),kh (by omega) (by omega),kh (by omega) (by omega)]
def gr (b:b5) (n:Int):b5 × Int:=if vB b = true ∧ 0 ≤ n ∧ n ≤ 2251799813685248 then (if vB (gB b n) = true then (gB b n,0) else (zB,1)) else (zB,1)
theorem grow_eq (b:b5) (n:Int):di 20000 b n = some (gr b n):=by
 unfold di gr
 simp only [ly,Option.bind_some,eb]
 by_cases h:vB b = true ∧ 0 ≤ n ∧ n ≤ 2251799813685248
 ·have hc:((!vB b || decide (n < 0)) || decide (2251799813685248 < n)) = false:=by
   have:decide (n < 0) = false:=decide_eq_false (by omega)
   have h2:decide (2251799813685248 < n) = false:=decide_eq_false (by omega)
   rw [h.1,this,h2]; rfl
  rw [if_pos h,hc,if_neg (by decide)]
  have hw:=wB_eq h.1 h.2.1 h.2.2
  obtain ⟨⟨al0,al1,al2⟩,⟨ah0,ah1,ah2⟩⟩:=b
  refine Eq.trans (congrArg (fun z=>Option.bind z _) (show _ = some (wB ⟨⟨al0,al1,al2⟩,⟨ah0,ah1,ah2⟩⟩ n) from rfl)) ?_
  simp only [Option.bind_some]
  rw [hw]
  cases hv:vB (gB ⟨⟨al0,al1,al2⟩,⟨ah0,ah1,ah2⟩⟩ n) <;> rfl
 ·have hc:((!vB b || decide (n < 0)) || decide (2251799813685248 < n)) = true:=by
   simp only [Bool.or_eq_true,Bool.not_eq_true',decide_eq_true_eq]
   cases hv:vB b
   ·simp
   ·simp only [hv,true_and] at h
    simp only [Bool.true_eq_false,false_or]; omega
  rw [if_neg h,hc,if_pos rfl]; rfl
def c1 (x y:Int):Int:=if x < y then -1 else if y < x then 1 else 0
theorem kX (x y:Int):cX 20000 x y = some (c1 x y):=by
 unfold cX dJ c1
 simp only [Option.bind_some,show decide (x ≠ x) = false by simp,show decide (y ≠ y) = false by simp,Bool.false_eq_true,if_false,decide_eq_true_eq]
 split
 ·rfl
 ·split <;> rfl
structure Ky where
 a:Int
 b:Int
 c:Int
 d:Int
def lk4 (x y:Ky):Prop:=x.a < y.a ∨ (x.a = y.a ∧ (x.b < y.b ∨ (x.b = y.b ∧ (x.c < y.c ∨ (x.c = y.c ∧ x.d < y.d)))))
def ky (f:Nat) (x:entry):Ky:=if f = 50 then ⟨0,0,0,x.id⟩ else ⟨x.b.Lo.a0,x.b.Lo.a1,x.b.Lo.a2,x.id⟩
def k6 (f:Nat) (x y:entry):Prop:=lk4 (ky f x) (ky f y)
theorem kn (x y:entry):k6 50 x y ↔ x.id < y.id:=by
 unfold k6 lk4 ky
 simp
theorem ltE51 (x y:entry):k6 51 x y ↔ (x.b.Lo.a0 < y.b.Lo.a0 ∨ (x.b.Lo.a0 = y.b.Lo.a0 ∧ (x.b.Lo.a1 < y.b.Lo.a1 ∨ (x.b.Lo.a1 = y.b.Lo.a1 ∧ (x.b.Lo.a2 < y.b.Lo.a2 ∨ (x.b.Lo.a2 = y.b.Lo.a2 ∧ x.id < y.id)))))):=by
 unfold k6 lk4 ky
 simp
theorem e30:decide ((3:Int) ≤ 0) = false:=rfl
theorem e31:decide ((3:Int) ≤ 1) = false:=rfl
theorem e32:decide ((3:Int) ≤ 2) = false:=rfl
theorem len3 (a b c:Int):(([a,b,c]:List Int).length:Int) = 3:=rfl
theorem cmp3 (a0 a1 a2 b0 b1 b2:Int):c7 20000 [a0,a1,a2] [b0,b1,b2] = some (if c1 a0 b0 ≠ 0 then c1 a0 b0 else if c1 a1 b1 ≠ 0 then c1 a1 b1 else c1 a2 b2):=by
 unfold c7
 simp only [kX,len3]
 obtain ⟨K,hK⟩:=qX _ _
 rw [hK]
 clear hK
 simp only [d03,e30,if_true,lx0,Option.bind_some,Bool.false_eq_true,if_false,cq,decide_eq_true_eq]
 by_cases h0:c1 a0 b0 ≠ 0
 ·rw [if_pos h0,if_pos h0]; simp only [Option.bind_some,cq]
 ·rw [if_neg h0,if_neg h0]
  simp only [Option.bind_some,cq,w1,d13,e31,if_true,lx1,Bool.false_eq_true,if_false,decide_eq_true_eq,show (1:Int) < 3 from by decide,show ¬ (3:Int) ≤ 1 from by decide]
  by_cases h1:c1 a1 b1 ≠ 0
  ·rw [if_pos h1,if_pos h1]; simp only [Option.bind_some,cq]
  ·rw [if_neg h1,if_neg h1]
   simp only [Option.bind_some,cq,w2,d23,e32,if_true,lx2,Bool.false_eq_true,if_false,decide_eq_true_eq,show (2:Int) < 3 from by decide,show ¬ (3:Int) ≤ 2 from by decide]
   by_cases h2:c1 a2 b2 ≠ 0
   ·rw [if_pos h2]; simp only [Option.bind_some,cq]
   ·rw [if_neg h2]
    have h2':c1 a2 b2 = 0:=by simpa using h2
    simp only [Option.bind_some,cq,w3,d33,Bool.false_eq_true,if_false,h2',show ¬ (3:Int) < 3 from by decide]
theorem or2 (a b:Int):jx 20000 [a,b] = some (if a ≠ 0 then a else b):=by
 unfold jx
 simp only [show (([a,b]:List Int).length:Int) = 2 from rfl]
 obtain ⟨K,hK⟩:=qX _ _
 rw [hK]
 clear hK
 simp only [show (0:Int) < 2 from by decide,decide_true,if_true,show bj [a,b] 0 = some a from rfl,Option.bind_some,decide_eq_true_eq]
 by_cases h0:a ≠ 0
 ·rw [if_pos h0,if_pos h0]; simp only [Option.bind_some,cq]
 ·rw [if_neg h0,if_neg h0]
  simp only [Option.bind_some,cq,w1,if_true,show (1:Int) < 2 from by decide,decide_true,show bj [a,b] 1 = some b from rfl]
  by_cases h1:b ≠ 0
  ·rw [if_pos h1]; simp only [Option.bind_some,cq]
  ·rw [if_neg h1]
   have h1':b = 0:=by simpa using h1
   simp only [Option.bind_some,cq,w2,h1',show ¬ (2:Int) < 2 from by decide,decide_false,Bool.false_eq_true,if_false]
theorem pf (x y:Int):c1 x y < 0 ↔ x < y:=by unfold c1; split <;> (try split) <;> omega
theorem pg (x y:Int):0 < c1 x y ↔ y < x:=by unfold c1; split <;> (try split) <;> omega
theorem nT (x y:Int):c1 x y = 0 ↔ x = y:=by unfold c1; split <;> (try split) <;> omega
theorem sU {f:Nat} (hf:f = 50 ∨ f = 51) (x y:entry):∃ v,eY 20000 f x y = some v ∧ (v < 0 ↔ k6 f x y) ∧ (0 < v ↔ k6 f y x):=by
 rcases hf with rfl | rfl
 ·refine ⟨c1 x.id y.id,?_,by rw [kn]; exact pf _ _,by rw [kn]; exact pg _ _⟩
  unfold eY fE
  rw [if_pos rfl,kX]; rfl
 ·unfold eY fD
  rw [if_neg (by decide),if_pos rfl]
  obtain ⟨xi,⟨⟨xl0,xl1,xl2⟩,xh⟩⟩:=x
  obtain ⟨yi,⟨⟨yl0,yl1,yl2⟩,yh⟩⟩:=y
  simp only [A3.l,cmp3,kX,Option.bind_some,or2,ltE51]
  refine ⟨_,rfl,?_,?_⟩
  ·have g0:=pf xl0 yl0; have g1:=pf xl1 yl1; have g2:=pf xl2 yl2; have g3:=pf xi yi
   have z0:=nT xl0 yl0; have z1:=nT xl1 yl1; have z2:=nT xl2 yl2
   generalize c1 xl0 yl0 = u0 at *; generalize c1 xl1 yl1 = u1 at *; generalize c1 xl2 yl2 = u2 at *; generalize c1 xi yi = u3 at *
   by_cases k0:u0 = 0
   ·by_cases k1:u1 = 0
    ·by_cases k2:u2 = 0
     ·simp [k0,k1,k2]; omega
     ·simp [k0,k1,k2]; omega
    ·simp [k0,k1]; omega
   ·simp [k0]; omega
  ·have g0:=pg xl0 yl0; have g1:=pg xl1 yl1; have g2:=pg xl2 yl2; have g3:=pg xi yi
   have z0:=nT xl0 yl0; have z1:=nT xl1 yl1; have z2:=nT xl2 yl2
   generalize c1 xl0 yl0 = u0 at *; generalize c1 xl1 yl1 = u1 at *; generalize c1 xl2 yl2 = u2 at *; generalize c1 xi yi = u3 at *
   by_cases k0:u0 = 0
   ·by_cases k1:u1 = 0
    ·by_cases k2:u2 = 0
     ·simp [k0,k1,k2]; omega
     ·simp [k0,k1,k2]; omega
    ·simp [k0,k1]; omega
   ·simp [k0]; omega
abbrev T:=cw a8
def cvT (b:b5):T → b5
 | .leaf=>b
 | .node w _ _=>hB b w.cover
def mk (v:a8) (l r:T):T:=.node ⟨v.x,v.priority,cvT (cvT v.x.b l) r⟩ l r
def sd (l r:T):List T:=(if l.cP = true then [] else [l]) ++ (if r.cP = true then [] else [r])
theorem tc (l r:T):fB 20000 [l,r] = some (sd l r):=by
 cases l <;> cases r <;> rfl
theorem iE (rt:T) (c k:Nat) (v:a8) (nl nr l r:T):aX 20000 ⟨rt,c,k,49⟩ (.node v nl nr) l r = some (mk v l r):=by
 unfold aX gL fF
 simp only [iy,Option.bind_some,if_true,tc]
 cases l <;> cases r
 ·rfl
 ·rfl
 ·rfl
 ·rfl
def items:T → List entry
 | .leaf=>[]
 | .node w l r=>items l ++ w.x :: items r
def qS (a b:b5):Prop:=b.Lo.a0 ≤ a.Lo.a0 ∧ b.Lo.a1 ≤ a.Lo.a1 ∧ b.Lo.a2 ≤ a.Lo.a2 ∧ a.Hi.a0 ≤ b.Hi.a0 ∧ a.Hi.a1 ≤ b.Hi.a1 ∧ a.Hi.a2 ≤ b.Hi.a2
theorem tu (a:b5):qS a a:=by unfold qS; omega
theorem l3 {a b c:b5} (h1:qS a b) (h2:qS b c):qS a c:=by unfold qS at *; omega
theorem rT (a b:b5):qS a (hB a b):=by unfold qS hB; simp only; omega
theorem rS (a b:b5):qS b (hB a b):=by unfold qS hB; simp only; omega
def nG:T → Prop
 | .leaf=>True
 | .node w l r=>(∀ x ∈ items (.node w l r),qS x.b w.cover) ∧ nG l ∧ nG r
theorem qv (b:b5) (l:T):qS b (cvT b l):=by
 cases l with
 | leaf=>exact tu b
 | node w l r=>exact rT _ _
theorem oq (b:b5) {l:T} (h:nG l):∀ x ∈ items l,qS x.b (cvT b l):=by
 cases l with
 | leaf=>intro x hx; cases hx
 | node w l r=>exact fun x hx=>l3 (h.1 x hx) (rS _ _)
theorem fI (v:a8) (l r:T):items (mk v l r) = items l ++ v.x :: items r:=rfl
theorem kQ {v:a8} {l r:T} (hl:nG l) (hr:nG r):nG (mk v l r):=by
 refine ⟨fun x hx=>?_,hl,hr⟩
 show qS x.b (cvT (cvT v.x.b l) r)
 rcases List.mem_append.1 hx with hx | hx
 ·exact l3 (oq v.x.b hl x hx) (qv _ r)
 ·rcases List.mem_cons.1 hx with rfl | hx
  ·exact l3 (qv _ l) (qv _ r)
  ·exact oq _ hr x hx
def lK (f:Nat) (l:List entry):Prop:=l.Pairwise (k6 f)
theorem im {f:Nat} {x y z:entry} (h1:k6 f x y) (h2:k6 f y z):k6 f x z:=by
 unfold k6 lk4 at *; omega
theorem oe {f:Nat} {x y:entry} (h1:k6 f x y) (h2:k6 f y x):False:=by
 unfold k6 lk4 at *; omega
theorem m' {f:Nat} {a:entry} {l r:List entry} (h:lK f (l ++ a :: r)):lK f l ∧ lK f r ∧ (∀ y ∈ l,k6 f y a) ∧ (∀ y ∈ r,k6 f a y):=by
 unfold lK at *
 rw [List.pairwise_append,List.pairwise_cons] at h
 exact ⟨h.1,h.2.1.2,fun y hy=>h.2.2 y hy a (by simp),h.2.1.1⟩
theorem s8 {f:Nat} (hf:f = 50 ∨ f = 51) (rt:T) (k:Nat) (x:entry):∀ (t:T) (m:Nat),(items t).length < m → nG t → lK f (items t) →
  ∃ a b,bB 20000 m ⟨rt,f,k,49⟩ t x = some (a,b) ∧ items a ++ items b = items t ∧ (∀ y ∈ items a,k6 f y x) ∧ (∀ y ∈ items b,¬ k6 f y x) ∧ nG a ∧ nG b:=by
 intro t
 induction t with
 | leaf=>
  intro m hm _ _
  cases m with
  | zero=>omega
  | succ m=>exact ⟨.leaf,.leaf,rfl,rfl,by simp [items],by simp [items],trivial,trivial⟩
 | node w l r ihl ihr=>
  intro m hm hc hs
  cases m with
  | zero=>omega
  | succ m=>
  simp only [items,List.length_append,List.length_cons] at hm
  obtain ⟨s1,s2,s3,s4⟩:=m' hs
  obtain ⟨v,hv,hlt,_⟩:=sU hf w.x x
  unfold bB
  simp only [cw.cP,Bool.false_eq_true,if_false,iy,Option.bind_some,hv]
  by_cases h:v < 0
  ·obtain ⟨a,b,e,h1,h2,h3,h4,h5⟩:=ihr m (by omega) hc.2.2 s2
   have hx:=hlt.1 h
   refine ⟨mk w l a,b,?_,?_,?_,h3,kQ hc.2.1 h4,h5⟩
   ·rw [if_pos (by simpa using h),e]
    simp only [Option.bind_some,iE]
   ·rw [fI,items,← h1]; simp
   ·intro y hy
    rw [fI] at hy
    rcases List.mem_append.1 hy with hy | hy
    ·exact im (s3 y hy) hx
    ·rcases List.mem_cons.1 hy with rfl | hy
     ·exact hx
     ·exact h2 y hy
  ·obtain ⟨a,b,e,h1,h2,h3,h4,h5⟩:=ihl m (by omega) hc.2.1 s1
   have hx:¬ k6 f w.x x:=fun e=>h (hlt.2 e)
   refine ⟨a,mk w b r,?_,?_,h2,?_,h4,kQ h5 hc.2.2⟩
   ·rw [if_neg (by simpa using h),e]
    simp only [Option.bind_some,iE]
   ·rw [fI,items,← h1]; simp
   ·intro y hy
    rw [fI] at hy
    rcases List.mem_append.1 hy with hy | hy
    ·exact h3 y hy
    ·rcases List.mem_cons.1 hy with rfl | hy
     ·exact hx
     ·exact fun e=>hx (im (s4 y hy) e)
theorem oM (rt:T) (f k:Nat):∀ (m:Nat) (a b:T),(items a).length + (items b).length < m → nG a → nG b →
  ∃ t,bO 20000 m ⟨rt,f,k,49⟩ a b = some t ∧ items t = items a ++ items b ∧ nG t:=by
 intro m
 induction m with
 | zero=>intro a b h; omega
 | succ m ih=>
  intro a b hm ha hb
  unfold bO
  cases a with
  | leaf=>exact ⟨b,rfl,rfl,hb⟩
  | node w l r=>
   cases b with
   | leaf=>exact ⟨.node w l r,rfl,by simp [items],ha⟩
   | node w2 l2 r2=>
    simp only [cw.cP,Bool.false_eq_true,if_false,iy,Option.bind_some]
    simp only [items,List.length_append,List.length_cons] at hm
    by_cases h:w2.priority < w.priority
    ·obtain ⟨t,e,h1,h2⟩:=ih r (.node w2 l2 r2) (by simp only [items,List.length_append,List.length_cons]; omega) ha.2.2 hb
     refine ⟨mk w l t,?_,?_,kQ ha.2.1 h2⟩
     ·rw [if_pos (by simpa using h),e]
      simp only [Option.bind_some,iE]
     ·rw [fI,h1]; simp [items]
    ·obtain ⟨t,e,h1,h2⟩:=ih (.node w l r) l2 (by simp only [items,List.length_append,List.length_cons]; omega) ha hb.2.1
     refine ⟨mk w2 t r2,?_,?_,kQ h2 hb.2.2⟩
     ·rw [if_neg (by simpa using h),e]
      simp only [Option.bind_some,iE]
     ·rw [fI,h1]; simp [items]
theorem rn {f:Nat} (hf:f = 50 ∨ f = 51) (rt:T) (k:Nat) (x:entry):∀ (t:T) (m:Nat),(items t).length < m → (items t).length < 20000 → nG t → lK f (items t) →
  ∀ pre y post,items t = pre ++ y :: post → ¬ k6 f x y → ¬ k6 f y x → ∃ t',bP 20000 m ⟨rt,f,k,49⟩ t x = some t' ∧ items t' = pre ++ post ∧ nG t':=by
 intro t
 induction t with
 | leaf=>intro m _ _ _ _ pre y post h; simp [items] at h
 | node w l r ihl ihr=>
  intro m hm h2k hc hs pre y post mP hy1 hy2
  cases m with
  | zero=>omega
  | succ m=>
  simp only [items,List.length_append,List.length_cons] at hm h2k
  obtain ⟨s1,s2,s3,s4⟩:=m' hs
  obtain ⟨v,hv,hlt,hgt⟩:=sU hf x w.x
  unfold bP
  simp only [iy,Option.bind_some,hv]
  have hcase:∀ z,z ∈ items l → k6 f z w.x:=s3
  rw [items] at mP
  have hl:=List.append_eq_append_iff.1 mP
  by_cases h:v < 0
  ·have hx:=hlt.1 h
   rcases hl with ⟨us,h1,h3⟩ | ⟨vs,h1,h3⟩
   ·exfalso
    cases us with
    | nil=>
     have:w.x = y:=by simpa using (List.cons.inj (by simpa using h3)).1
     rw [← this] at hy1; exact hy1 hx
    | cons a us=>
     have hm:y ∈ items r:=by
      have:=(List.cons.inj (by simpa using h3)).2
      rw [this]; simp
     exact hy1 (im hx (s4 y hm))
   ·cases vs with
    | nil=>
     exfalso
     have:w.x = y:=by simpa using (List.cons.inj (by simpa using h3)).1.symm
     rw [← this] at hy1; exact hy1 hx
    | cons b vs=>
     obtain ⟨e1,e2⟩:=List.cons.inj (by simpa using h3:y :: post = b :: (vs ++ w.x :: items r))
     subst e1
     obtain ⟨t',e,g1,g2⟩:=ihl m (by omega) (by omega) hc.2.1 s1 pre y vs h1 hy1 hy2
     refine ⟨mk w t' r,?_,?_,kQ g2 hc.2.2⟩
     ·rw [if_pos (by simpa using h),e]
      simp only [Option.bind_some,iE]
     ·rw [fI,g1,e2]; simp
  ·rw [if_neg (by simpa using h)]
   by_cases h':0 < v
   ·have hx:=hgt.1 h'
    rw [if_pos (by simpa using h')]
    rcases hl with ⟨us,h1,h3⟩ | ⟨vs,h1,h3⟩
    ·cases us with
     | nil=>
      exfalso
      have:w.x = y:=by simpa using (List.cons.inj (by simpa using h3)).1
      rw [← this] at hy2; exact hy2 hx
     | cons a us=>
      obtain ⟨e1,e2⟩:=List.cons.inj (by simpa using h3:w.x :: items r = a :: (us ++ y :: post))
      subst e1
      obtain ⟨t',e,g1,g2⟩:=ihr m (by omega) (by omega) hc.2.2 s2 us y post e2 hy1 hy2
      refine ⟨mk w l t',?_,?_,kQ hc.2.1 g2⟩
      ·rw [e]
       simp only [Option.bind_some,iE]
      ·rw [fI,g1,h1]; simp
    ·exfalso
     cases vs with
     | nil=>
      have:w.x = y:=by simpa using (List.cons.inj (by simpa using h3)).1.symm
      rw [← this] at hy2; exact hy2 hx
     | cons b vs=>
      have hm:y ∈ items l:=by
       have:=(List.cons.inj (by simpa using h3:y :: post = b :: (vs ++ w.x :: items r))).1
       rw [h1,this]; simp
      exact hy2 (im (s3 y hm) hx)
   ·rw [if_neg (by simpa using h')]
    have hn1:¬ k6 f x w.x:=fun e=>h (hlt.2 e)
    have hn2:¬ k6 f w.x x:=fun e=>h' (hgt.2 e)
    obtain ⟨t',e,g1,g2⟩:=oM rt f k 20000 l r (by omega) hc.2.1 hc.2.2
    refine ⟨t',?_,?_,g2⟩
    ·unfold b7
     rw [e]; rfl
    ·rw [g1]
     rcases hl with ⟨us,h1,h3⟩ | ⟨vs,h1,h3⟩
     ·cases us with
      | nil=>
       obtain ⟨e1,e2⟩:=List.cons.inj (by simpa using h3:w.x :: items r = y :: post)
       rw [h1,e2]; simp
      | cons a us=>
       exfalso
       have hm:y ∈ items r:=by
        have:=(List.cons.inj (by simpa using h3:w.x :: items r = a :: (us ++ y :: post))).2
        rw [this]; simp
       have g:=s4 y hm
       unfold k6 lk4 at *; omega
     ·cases vs with
      | nil=>
       obtain ⟨e1,e2⟩:=List.cons.inj (by simpa using h3:y :: post = w.x :: items r)
       rw [h1,e2]; simp
      | cons b vs=>
       exfalso
       have hm:y ∈ items l:=by
        have:=(List.cons.inj (by simpa using h3:y :: post = b :: (vs ++ w.x :: items r))).1
        rw [h1,this]; simp
       have g:=s3 y hm
       unfold k6 lk4 at *; omega
def zE:entry:=⟨0,zB⟩
theorem get_aux (id:Int):∀ (t:T) (m:Nat),(items t).length < m → lK 50 (items t) →
  eQ (iter m (fun n_1=>if (!n_1.cP) = true then (Option.bind (iy n_1) (fun nd_2=>if (decide (id = nd_2.1.x.id)) = true then (Option.bind (iy n_1) (fun nd_3=>some (.inr (.inr (nd_3.1.x,true))))) else (Option.bind (iy n_1) (fun nd_4=>if (decide (id < nd_4.1.x.id)) = true then (Option.bind (iy n_1) (fun nd_5=>some (.inl nd_5.2.1))) else (Option.bind (iy n_1) (fun nd_6=>some (.inl nd_6.2.2))))))) else (some (.inr (.inl ())))) t:Option (Unit ⊕ entry × Bool))
   (fun o=>(∃ x ∈ items t,x.id = id ∧ o = .inr (x,true)) ∨ (o = .inl () ∧ ∀ x ∈ items t,x.id ≠ id)):=by
 intro t
 induction t with
 | leaf=>
  intro m hm hs
  cases m with
  | zero=>omega
  | succ m=>
   rw [dP]
   exact ⟨.inl (),rfl,.inr ⟨rfl,by simp [items]⟩⟩
 | node w l r ihl ihr=>
  intro m hm hs
  cases m with
  | zero=>omega
  | succ m=>
  simp only [items,List.length_append,List.length_cons] at hm
  obtain ⟨s1,s2,s3,s4⟩:=m' hs
  rw [dP]
  simp only [cw.cP,Bool.not_false,if_true,iy,Option.bind_some]
  by_cases h:id = w.x.id
  ·rw [if_pos (by simpa using h)]
   exact ⟨.inr (w.x,true),rfl,.inl ⟨w.x,by simp [items],h.symm,rfl⟩⟩
  ·rw [if_neg (by simpa using h)]
   by_cases h2:id < w.x.id
   ·rw [if_pos (by simpa using h2)]
    refine (ihl m (by omega) s1).mono fun o ho=>?_
    rcases ho with ⟨x,hx,h3,h4⟩ | ⟨h3,h4⟩
    ·exact .inl ⟨x,by simp [items,hx],h3,h4⟩
    ·refine .inr ⟨h3,fun x hx=>?_⟩
     rcases List.mem_append.1 hx with hx | hx
     ·exact h4 x hx
     ·rcases List.mem_cons.1 hx with rfl | hx
      ·exact fun e=>h e.symm
      ·have:=(kn _ _).1 (s4 x hx); omega
   ·rw [if_neg (by simpa using h2)]
    refine (ihr m (by omega) s2).mono fun o ho=>?_
    rcases ho with ⟨x,hx,h3,h4⟩ | ⟨h3,h4⟩
    ·exact .inl ⟨x,by simp [items,hx],h3,h4⟩
    ·refine .inr ⟨h3,fun x hx=>?_⟩
     rcases List.mem_append.1 hx with hx | hx
     ·have:=(kn _ _).1 (s3 x hx); omega
     ·rcases List.mem_cons.1 hx with rfl | hx
      ·exact fun e=>h e.symm
      ·exact h4 x hx
structure jl (s:cW) (L:List entry):Prop where
 c1:s.ids.compare = 50
 c2:s.boxes.compare = 51
 k1:s.ids.key = 48
 k2:s.boxes.key = 48
 b1:s.ids.box = 49
 b2:s.boxes.box = 49
 it:items s.ids.root = L
 pm:(items s.boxes.root).Perm L
 s1:lK 50 L
 s2:lK 51 (items s.boxes.root)
 v1:nG s.ids.root
 v2:nG s.boxes.root
 vb:∀ x ∈ L,vB x.b = true
theorem sS {s:cW} {L:List entry} (h:jl s L) (hL:L.length < 1000) (id:Int):(∃ x ∈ L,x.id = id ∧ b9 20000 s id = some (x,true)) ∨ (b9 20000 s id = some (zE,false) ∧ ∀ x ∈ L,x.id ≠ id):=by
 obtain ⟨o,ho,h1⟩:=get_aux id s.ids.root 20000 (by rw [h.it]; omega) (by rw [h.it]; exact h.s1)
 rw [h.it] at h1
 unfold b9
 rw [ho]
 rcases h1 with ⟨x,hx,h2,rfl⟩ | ⟨rfl,h2⟩
 ·exact .inl ⟨x,hx,h2,rfl⟩
 ·exact .inr ⟨rfl,h2⟩
theorem rP {f:Nat} (hf:f = 50 ∨ f = 51) {x y:entry} (hn:y.id ≠ x.id) (h:¬ k6 f y x):k6 f x y:=by
 rcases hf with rfl | rfl
 ·rw [kn] at *; omega
 ·rw [ltE51] at *; omega
theorem rh {f:Nat} (x:entry):¬ k6 f x x:=fun h=>oe h h
theorem qg {f:Nat} {L M:List entry} (h1:lK f L) (h2:lK f M) (hp:L.Perm M):L = M :=
 List.Perm.eq_of_pairwise (fun a b _ _ h h'=>(oe h h').elim) h1 h2 hp
theorem tj (z:Int):∃ p,eJ 20000 z = some p:=by
 unfold eJ eb
 exact ⟨_,rfl⟩
theorem kf (x:entry):fX 20000 48 x = some (IntKind.u64.wrap x.id):=rfl
theorem wth (t:hX) (x:entry) (a b n u w:T) (p:Int) (h1:ew 20000 t t.root x = some (a,b)) (h2:fX 20000 t.key x = some (IntKind.u64.wrap x.id)) (hp:eJ 20000 (IntKind.u64.wrap x.id) = some p) (hm:aX 20000 t (.node ⟨x,p,⟨A3.zero,A3.zero⟩⟩ .leaf .leaf) .leaf .leaf = some n) (h3:b7 20000 t a n = some u) (h4:b7 20000 t u b = some w):bq 20000 t x = some ⟨w,t.compare,t.key,t.box⟩:=by
 unfold bq
 rw [h1,Option.bind_some]
 simp only [fh]
 rw [h2,Option.bind_some,hp,Option.bind_some,hm,Option.bind_some,h3,Option.bind_some,h4]
 rfl
theorem q8 {f:Nat} (hf:f = 50 ∨ f = 51) {rt:T} {x:entry} (hc:nG rt) (hs:lK f (items rt)) (hn:∀ y ∈ items rt,y.id ≠ x.id) (hL:(items rt).length < 1000) :
  ∃ t',bq 20000 ⟨rt,f,48,49⟩ x = some ⟨t',f,48,49⟩ ∧ (items t').Perm (x :: items rt) ∧ lK f (items t') ∧ nG t':=by
 obtain ⟨a,b,e,h1,h2,h3,h4,h5⟩:=s8 hf rt 48 x rt 20000 (by omega) hc hs
 have hlen:(items a).length + (items b).length = (items rt).length:=by rw [← h1,List.length_append]
 obtain ⟨p,hp⟩:=tj (IntKind.u64.wrap x.id)
 obtain ⟨n,hmk,hn1,hn2⟩:∃ n:T,aX 20000 ⟨rt,f,48,49⟩ (.node ⟨x,p,⟨A3.zero,A3.zero⟩⟩ .leaf .leaf) .leaf .leaf = some n ∧ items n = [x] ∧ nG n :=
  ⟨_,iE rt f 48 _ _ _ _ _,rfl,kQ trivial trivial⟩
 obtain ⟨u,hu,u1,u2⟩:=oM rt f 48 20000 a n (by rw [hn1]; simp; omega) h4 hn2
 obtain ⟨w,hw,w1,w2⟩:=oM rt f 48 20000 u b (by rw [u1,hn1]; simp; omega) u2 h5
 refine ⟨w,?_,?_,?_,w2⟩
 ·exact wth ⟨rt,f,48,49⟩ x a b n u w p e (kf x) hp hmk hu hw
 ·rw [w1,u1,hn1,← h1]
  simp
 ·rw [w1,u1,hn1]
  rw [← h1] at hs hn
  unfold lK at *
  rw [List.pairwise_append] at hs
  have hx:∀ y ∈ items b,k6 f x y:=fun y hy=>rP hf (hn y (by simp [hy])) (h3 y hy)
  rw [List.append_assoc,List.pairwise_append]
  refine ⟨hs.1,?_,?_⟩
  ·show ([x] ++ items b).Pairwise _
   exact List.pairwise_cons.2 ⟨hx,hs.2.1⟩
  ·intro y hy z hz
   rcases List.mem_append.1 hz with hz | hz
   ·rw [List.mem_singleton] at hz; subst hz; exact h2 y hy
   ·exact hs.2.2 y hy z hz
theorem nj {f:Nat} (hf:f = 50 ∨ f = 51) {rt:T} {x:entry} (hc:nG rt) (hs:lK f (items rt)) (hx:x ∈ items rt) (hL:(items rt).length < 1000) :
  ∃ t',bc 20000 ⟨rt,f,48,49⟩ x = some ⟨t',f,48,49⟩ ∧ (x :: items t').Perm (items rt) ∧ lK f (items t') ∧ nG t':=by
 obtain ⟨pre,post,e⟩:=List.append_of_mem hx
 obtain ⟨t',h,h1,h2⟩:=rn hf rt 48 x rt 20000 (by omega) (by omega) hc hs pre x post e (rh x) (rh x)
 refine ⟨t',?_,?_,?_,h2⟩
 ·unfold bc fg
  rw [h]; rfl
 ·rw [h1,e]; exact List.perm_middle.symm
 ·rw [h1]
  rw [e] at hs
  unfold lK at *
  rw [List.pairwise_append,List.pairwise_cons] at hs
  rw [List.pairwise_append]
  exact ⟨hs.1,hs.2.1.2,fun y hy z hz=>hs.2.2 y hy z (by simp [hz])⟩
def ou (x:entry):List entry → List entry
 | []=>[x]
 | y :: l=>if x.id < y.id then x :: y :: l else y :: ou x l
def o2 (id:Int) (L:List entry):List entry:=L.filter fun y=>decide (y.id ≠ id)
theorem iq (x:entry):∀ L,(ou x L).Perm (x :: L)
 | []=>.refl _
 | y :: l=>by
  unfold ou
  split
  ·exact .refl _
  ·exact .trans (.cons y (iq x l)) (.swap x y l)
theorem pD {x y:entry} {L:List entry}:y ∈ ou x L ↔ y = x ∨ y ∈ L:=by rw [(iq x L).mem_iff,List.mem_cons]
theorem ng {x:entry}:∀ {L:List entry},lK 50 L → (∀ y ∈ L,y.id ≠ x.id) → lK 50 (ou x L)
 | [],_,_=>by simp [ou,lK]
 | y :: l,h,hn=>by
  have h1:=List.pairwise_cons.1 h
  unfold ou
  split
  ·next hc=>
   refine List.pairwise_cons.2 ⟨fun z hz=>?_,h⟩
   rcases List.mem_cons.1 hz with rfl | hz
   ·rw [kn]; exact hc
   ·exact im ((kn _ _).2 hc) (h1.1 z hz)
  ·next hc=>
   have hne:=hn y (by simp)
   refine List.pairwise_cons.2 ⟨fun z hz=>?_,ng h1.2 fun z hz=>hn z (by simp [hz])⟩
   rcases pD.1 hz with rfl | hz
   ·rw [kn]; omega
   ·exact h1.1 z hz
theorem pL {id:Int} {L:List entry} (h:lK 50 L):lK 50 (o2 id L):=h.filter _
theorem tx {id:Int} {L:List entry} {y:entry}:y ∈ o2 id L ↔ y ∈ L ∧ y.id ≠ id:=by unfold o2; simp
theorem oo {x:entry} {L:List entry} (h:lK 50 L) (hx:x ∈ L):(x :: o2 x.id L).Perm L:=by
 obtain ⟨pre,post,e⟩:=List.append_of_mem hx
 have e2:o2 x.id L = pre ++ post:=by
  have h':=h
  rw [e] at h'
  unfold lK at h'
  rw [List.pairwise_append,List.pairwise_cons] at h'
  unfold o2
  rw [e,List.filter_append,List.filter_cons]
  have a1:pre.filter (fun y=>decide (y.id ≠ x.id)) = pre:=List.filter_eq_self.2 fun y hy=>by
   have:=(kn _ _).1 (h'.2.2 y hy x (by simp)); simp; omega
  have a2:post.filter (fun y=>decide (y.id ≠ x.id)) = post:=List.filter_eq_self.2 fun y hy=>by
   have:=(kn _ _).1 (h'.2.1.1 y hy); simp; omega
  rw [a1,a2]; simp
 rw [e2,e]
 exact List.perm_middle.symm
theorem mK {t:hX} {f:Nat} (h1:t.compare = f) (h2:t.key = 48) (h3:t.box = 49):t = ⟨t.root,f,48,49⟩:=by
 cases t; subst h1; subst h2; subst h3; rfl
theorem putN_ok {s:cW} {L:List entry} (h:jl s L) (hL:L.length < 1000) {x:entry} (hv:vB x.b = true) (hn:∀ y ∈ L,y.id ≠ x.id) :
  ∃ s':cW,bq 20000 s.ids x = some s'.ids ∧ bq 20000 s.boxes x = some s'.boxes ∧ jl s' (ou x L):=by
 obtain ⟨a,ha,a1,a2,a3⟩:=q8 (f:=50) (.inl rfl) h.v1 (by rw [h.it]; exact h.s1) (x:=x) (by rw [h.it]; exact hn) (by rw [h.it]; exact hL)
 obtain ⟨b,hb,b1,b2,b3⟩:=q8 (f:=51) (.inr rfl) h.v2 h.s2 (x:=x) (fun y hy=>hn y (h.pm.mem_iff.1 hy)) (by rw [h.pm.length_eq]; exact hL)
 rw [← mK h.c1 h.k1 h.b1] at ha
 rw [← mK h.c2 h.k2 h.b2] at hb
 refine ⟨⟨⟨a,50,48,49⟩,⟨b,51,48,49⟩⟩,ha,hb,⟨rfl,rfl,rfl,rfl,rfl,rfl,?_,?_,ng h.s1 hn,b2,a3,b3,?_⟩⟩
 ·rw [h.it] at a1
  exact qg a2 (ng h.s1 hn) (a1.trans (iq x L).symm)
 ·exact b1.trans ((h.pm.cons x).trans (iq x L).symm)
 ·intro y hy
  rcases pD.1 hy with rfl | hy
  ·exact hv
  ·exact h.vb y hy
theorem Put_ok {s:cW} {L:List entry} (h:jl s L) (hL:L.length < 1000) (id:Int) (b:b5) :
  ∃ s' e,bV 20000 s id b = some (s',e) ∧ ((vB b = false ∧ e = 1) ∨ (vB b = true ∧ (∃ x ∈ L,x.id = id) ∧ e = 6) ∨ (vB b = true ∧ (∀ x ∈ L,x.id ≠ id) ∧ e = 0 ∧ jl s' (ou ⟨id,b⟩ L))):=by
 unfold bV
 rw [ly]
 cases hv:vB b
 ·exact ⟨_,_,rfl,.inl ⟨rfl,rfl⟩⟩
 ·simp only [Option.bind_some,Bool.not_true,Bool.false_eq_true,if_false]
  rcases sS h hL id with ⟨x,hx,e,hg⟩ | ⟨hg,hn⟩
  ·rw [hg]
   exact ⟨_,_,rfl,.inr (.inl ⟨trivial,⟨x,hx,e⟩,rfl⟩)⟩
  ·rw [hg]
   obtain ⟨s',h1,h2,h3⟩:=putN_ok h hL (x:=⟨id,b⟩) hv hn
   simp only [Option.bind_some,fh,Bool.false_eq_true,if_false,h1,h2]
   exact ⟨_,_,rfl,.inr (.inr ⟨trivial,hn,rfl,h3⟩)⟩
theorem delN_ok {s:cW} {L:List entry} (h:jl s L) (hL:L.length < 1000) {x:entry} (hx:x ∈ L) :
  ∃ s':cW,bc 20000 s.ids x = some s'.ids ∧ bc 20000 s.boxes x = some s'.boxes ∧ jl s' (o2 x.id L):=by
 obtain ⟨a,ha,a1,a2,a3⟩:=nj (f:=50) (.inl rfl) h.v1 (by rw [h.it]; exact h.s1) (x:=x) (by rw [h.it]; exact hx) (by rw [h.it]; exact hL)
 obtain ⟨b,hb,b1,b2,b3⟩:=nj (f:=51) (.inr rfl) h.v2 h.s2 (x:=x) (h.pm.mem_iff.2 hx) (by rw [h.pm.length_eq]; exact hL)
 rw [← mK h.c1 h.k1 h.b1] at ha
 rw [← mK h.c2 h.k2 h.b2] at hb
 have hp:=oo h.s1 hx
 refine ⟨⟨⟨a,50,48,49⟩,⟨b,51,48,49⟩⟩,ha,hb,⟨rfl,rfl,rfl,rfl,rfl,rfl,?_,?_,pL h.s1,b2,a3,b3,?_⟩⟩
 ·rw [h.it] at a1
  exact qg a2 (pL h.s1) (List.perm_cons x |>.1 (a1.trans hp.symm))
 ·exact List.perm_cons x |>.1 ((b1.trans h.pm).trans hp.symm)
 ·intro y hy
  exact h.vb y (tx.1 hy).1
theorem r5 {s:cW} {L:List entry} (h:jl s L) (hL:L.length < 1000) (id:Int) :
  ∃ s' e,bX 20000 s id = some (s',e) ∧ (((∀ x ∈ L,x.id ≠ id) ∧ e = 5) ∨ ((∃ x ∈ L,x.id = id) ∧ e = 0 ∧ jl s' (o2 id L))):=by
 unfold bX
 rcases sS h hL id with ⟨x,hx,e,hg⟩ | ⟨hg,hn⟩
 ·rw [hg]
  obtain ⟨s',h1,h2,h3⟩:=delN_ok h hL hx
  simp only [Option.bind_some,fh,Bool.not_true,Bool.false_eq_true,if_false,h1,h2]
  rw [e] at h3
  exact ⟨_,_,rfl,.inr ⟨⟨x,hx,e⟩,rfl,h3⟩⟩
 ·rw [hg]
  exact ⟨_,_,rfl,.inl ⟨hn,rfl⟩⟩
def bx (l:List b5) (k:Int):b5:=idx l k
def entsF:Nat → List b5 → List entry
 | _,[]=>[]
 | k,b :: l=>⟨k,b⟩ :: entsF (k + 1) l
def rC (l:List b5):List entry:=entsF 0 l
def up (n:Nat):List Int:=(List.range n).map fun k:Nat=>(k:Int)
structure Swp (l:List b5) (pre active:List Int) (out:List A2):Prop where
 sub:∀ k ∈ active,k ∈ pre
 nd:active.Nodup
 gone:∀ k ∈ pre,k ∉ active → ∃ m ∈ pre,(bx l k).Hi.a0 < (bx l m).Lo.a0
 ond:out.Nodup
 om:∀ p,p ∈ out ↔ ∃ i ∈ pre,∃ k ∈ pre,i < k ∧ mB (bx l i) (bx l k) = true ∧ p = ⟨i,k⟩
theorem rU (a b:b5) (n:Int):br 20000 a b n = some true:=by
 unfold br
 rw [grow_eq]
 simp only [Option.bind_some,fh]
 unfold gr
 by_cases h1:vB a = true ∧ 0 ≤ n ∧ n ≤ 2251799813685248
 ·rw [if_pos h1]
  by_cases h2:vB (gB a n) = true
  ·rw [if_pos h2]
   simp only [bu,show decide ((0:Int) ≠ 0) = false from rfl,Bool.not_false,if_true,ly,Option.bind_some,Bool.false_or,eb,decide_true,Bool.true_or,Bool.and_true]
   by_cases h3:vB b = true
   ·rw [if_neg (by rw [h3]; decide)]
    refine eQ.eq ?_
    refine eQ.bind (P:=fun r=>r = mB (gB a n) b) ?_ ?_
    ·have va:=(qe a).1 h1.1
     have vb:=(qe b).1 h3
     obtain ⟨_,n0,n1⟩:=h1
     have hm:mB (gB a n) b = decide ((b.Lo.a0 ≤ a.Hi.a0 + n ∧ a.Lo.a0 - n ≤ b.Hi.a0) ∧ (b.Lo.a1 ≤ a.Hi.a1 + n ∧ a.Lo.a1 - n ≤ b.Hi.a1) ∧ (b.Lo.a2 ≤ a.Hi.a2 + n ∧ a.Lo.a2 - n ≤ b.Hi.a2)):=by
      unfold mB gB
      exact decide_eq_decide.2 (by simp only; constructor <;> (intro h; omega))
     rw [hm]
     obtain ⟨⟨al0,al1,al2⟩,⟨ah0,ah1,ah2⟩⟩:=a
     obtain ⟨⟨bl0,bl1,bl2⟩,⟨bh0,bh1,bh2⟩⟩:=b
     simp only at va vb
     have st:∀ (near:Bool) (p q r s:Int),-2251799813685248 ≤ p - q → p - q ≤ 2251799813685248 → -2251799813685248 ≤ r - s → r - s ≤ 2251799813685248 → ∀ K:Bool → Option (Bool × Int ⊕ Bool),((if near = true then some p else some default).bind fun x10=>(if near = true then some q else some default).bind fun x11=>(if (near && decide (IntKind.i64.wrap (x10 - x11) ≤ n)) = true then some r else some default).bind fun x12=>(if (near && decide (IntKind.i64.wrap (x10 - x11) ≤ n)) = true then some s else some default).bind fun x13=>K ((near && decide (IntKind.i64.wrap (x10 - x11) ≤ n)) && decide (IntKind.i64.wrap (x12 - x13) ≤ n))) = K (near && decide (r ≤ s + n ∧ p - n ≤ q)):=by
      intro near p q r s g1 g2 g3 g4 K
      have w1:IntKind.i64.wrap (p - q) = p - q:=kh (by omega) (by omega)
      have w2:IntKind.i64.wrap (r - s) = r - s:=kh (by omega) (by omega)
      cases near
      ·simp
      ·simp only [if_true,Option.bind_some,Bool.true_and,w1]
       by_cases c:p - q ≤ n
       ·simp only [c,decide_true,if_true,Option.bind_some,w2,Bool.true_and]
        exact congrArg K (decide_eq_decide.2 (by omega))
       ·simp only [c,decide_false,Bool.false_eq_true,if_false,Option.bind_some,Bool.false_and]
        exact congrArg K (decide_eq_false (by omega)).symm
     let D:Nat → Bool:=fun k=>decide ((0 < k → bl0 ≤ ah0 + n ∧ al0 - n ≤ bh0) ∧ (1 < k → bl1 ≤ ah1 + n ∧ al1 - n ≤ bh1) ∧ (2 < k → bl2 ≤ ah2 + n ∧ al2 - n ≤ bh2))
     refine eQ.rounds (n:=3) (I:=fun k s=>k ≤ 3 ∧ s.2 = (k:Int) ∧ s.1 = D k) (by omega) ⟨by omega,rfl,by simp [D]⟩ ?_
     rintro k ⟨s,i⟩ hk ⟨hk',hi,hs⟩
     simp only at hi hs
     subst hi; subst hs
     obtain rfl | rfl | rfl | rfl:k = 0 ∨ k = 1 ∨ k = 2 ∨ k = 3:=by omega
     ·exact ⟨_,st (D 0) al0 bh0 bl0 ah0 (by omega) (by omega) (by omega) (by omega) (fun b=>some (.inl (b,1))),.inl ⟨_,rfl,⟨by omega,rfl,by rw [Bool.eq_iff_iff]; simp only [D,Bool.and_eq_true,decide_eq_true_eq]; omega⟩,by omega⟩⟩
     ·exact ⟨_,st (D 1) al1 bh1 bl1 ah1 (by omega) (by omega) (by omega) (by omega) (fun b=>some (.inl (b,2))),.inl ⟨_,rfl,⟨by omega,rfl,by rw [Bool.eq_iff_iff]; simp only [D,Bool.and_eq_true,decide_eq_true_eq]; omega⟩,by omega⟩⟩
     ·exact ⟨_,st (D 2) al2 bh2 bl2 ah2 (by omega) (by omega) (by omega) (by omega) (fun b=>some (.inl (b,3))),.inl ⟨_,rfl,⟨by omega,rfl,by rw [Bool.eq_iff_iff]; simp only [D,Bool.and_eq_true,decide_eq_true_eq]; omega⟩,by omega⟩⟩
     ·exact ⟨.inr (D 3),rfl,.inr ⟨_,rfl,by simp [D]⟩⟩
    ·rintro _ rfl
     rw [jW]
     simp only [Option.bind_some,if_true,ly,h2,Bool.true_and,meet_eq,beq_self_eq_true]
     exact eQ.some rfl
   ·rw [if_pos (by simp [h3]),jW]; rfl
  ·rw [if_neg h2]
   simp only [show decide ((1:Int) ≠ 0) = true from rfl,bu,Bool.not_true,Bool.false_eq_true,if_false,Option.bind_some,Bool.true_or,if_true,jW,eb,show decide ((1:Int) = 0) = false from rfl,Bool.false_or,Bool.true_and]
   rfl
 ·rw [if_neg h1]
  simp only [show decide ((1:Int) ≠ 0) = true from rfl,bu,Bool.not_true,Bool.false_eq_true,if_false,Option.bind_some,Bool.true_or,if_true,jW,eb,show decide ((1:Int) = 0) = false from rfl,Bool.false_or,Bool.true_and]
  rfl
def Hol (s:cW) (M:List entry):Prop:=∃ L,jl s L ∧ L.Perm M
theorem Hol.put {s:cW} {M:List entry} (h:Hol s M) (hM:M.length < 900) {id:Int} {b:b5} (hv:vB b = true) (hn:∀ x ∈ M,x.id ≠ id) :
  ∃ s',bV 20000 s id b = some (s',0) ∧ Hol s' (⟨id,b⟩ :: M):=by
 obtain ⟨L,h1,h2⟩:=h
 obtain ⟨s',e,h3,h4⟩:=Put_ok h1 (by rw [h2.length_eq]; omega) id b
 rcases h4 with ⟨h4,_⟩ | ⟨_,⟨x,hx,h4⟩,_⟩ | ⟨_,_,rfl,h4⟩
 ·rw [hv] at h4; cases h4
 ·exact absurd h4 (hn x (h2.mem_iff.1 hx))
 ·exact ⟨s',h3,_,h4,(iq _ _).trans (h2.cons _)⟩
theorem Hol.del {s:cW} {M:List entry} {x:entry} (h:Hol s (x :: M)) (hM:M.length < 900) :
  ∃ s',bX 20000 s x.id = some (s',0) ∧ Hol s' M:=by
 obtain ⟨L,h1,h2⟩:=h
 obtain ⟨s',e,h3,h4⟩:=r5 h1 (by rw [h2.length_eq]; simp; omega) x.id
 have hx:x ∈ L:=h2.mem_iff.2 (by simp)
 rcases h4 with ⟨h4,_⟩ | ⟨_,rfl,h4⟩
 ·exact absurd rfl (h4 x hx)
 ·exact ⟨s',h3,_,h4,List.perm_cons x |>.1 ((oo h1.s1 hx).trans h2)⟩
theorem Hol.eq {s:cW} {M:List entry} (h:Hol s M) (hs:lK 50 M):jl s M:=by
 obtain ⟨L,h1,h2⟩:=h
 rw [← qg h1.s1 hs h2]; exact h1
end Go.Proofs.YtagpkeehkcopaaaGreat
namespace Go.Proofs.YtagpkeehkcopaaaGreat
open Go Go.Sk
theorem rW (x0:b5) (x1:b5) (x2:Int):ao Tryz.prog [] 7 [] [.agg (ak x0),.agg (ak x1),.one (.i x2)] (Is [] (.b (.one (.bool true)))) :=
 ef (rU x0 x1 x2)
end Go.Proofs.YtagpkeehkcopaaaGreat
