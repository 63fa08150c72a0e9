/- the plain law -/
import Derived.Test.YtagpkeehkcopaaaGreatW2
import Derived.Sort.AssemblyPlain
namespace Go.Proofs.YtagpkeehkcopaaaGreat
open Go Go.Sk
set_option maxRecDepth 100000
set_option linter.unusedVariables false
set_option linter.unusedSimpArgs false
def qJ (x:Int):List Int → List Int
 | []=>[x]
 | y :: l=>if x ≤ y then x :: y :: l else y :: qJ x l
def oi:List Int → List Int
 | []=>[]
 | x :: l=>qJ x (oi l)
theorem mj (x:Int):∀ l:List Int,(qJ x l).Perm (x :: l)
 | []=>.refl _
 | y :: l=>by
  unfold qJ
  split
  ·exact .refl _
  ·exact .trans (.cons y (mj x l)) (.swap x y l)
theorem nP:∀ l:List Int,(oi l).Perm l
 | []=>.refl _
 | x :: l=>(mj x (oi l)).trans (.cons x (nP l))
theorem rZ (x:Int):∀ l:List Int,l.Pairwise (· ≤ ·) → (qJ x l).Pairwise (· ≤ ·)
 | [],_=>by simp [qJ]
 | y :: l,h=>by
  unfold qJ
  have h1:=List.pairwise_cons.1 h
  split
  ·next hc=>
   refine List.pairwise_cons.2 ⟨fun z hz=>?_,h⟩
   rcases List.mem_cons.1 hz with rfl | hz
   ·exact hc
   ·exact Int.le_trans hc (h1.1 z hz)
  ·next hc=>
   refine List.pairwise_cons.2 ⟨fun z hz=>?_,rZ x l h1.2⟩
   rcases List.mem_cons.1 ((mj x l).mem_iff.1 hz) with rfl | hz
   ·omega
   ·exact h1.1 z hz
theorem p8:∀ l:List Int,(oi l).Pairwise (· ≤ ·)
 | []=>.nil
 | x :: l=>rZ x _ (p8 l)
theorem sorted_perm (l:List Int):(sorted l).Perm l:=List.mergeSort_perm _ _
theorem sn (l:List Int):(sorted l).Pairwise (· ≤ ·) :=
 (List.pairwise_mergeSort (le:=fun x y:Int=>decide (x ≤ y)) (fun a b c h1 h2=>by simp only [decide_eq_true_eq] at *; omega) (fun a b=>by simp only [Bool.or_eq_true,decide_eq_true_eq]; omega) l).imp fun h=>of_decide_eq_true h
theorem so (l:List Int):sorted l = oi l :=
 List.Perm.eq_of_pairwise (fun a b _ _ h1 h2=>Int.le_antisymm h1 h2) (sn l) (p8 l) ((sorted_perm l).trans (nP l).symm)
def sort2 (F:Nat) (zs:List Int):Option (List Int):=if zs.length < 1000000000 then some (oi zs) else none
theorem sort_eq:fI = sort2:=by
 funext F zs
 unfold fI oS sort2
 rw [so]
def qI (x:A2):List A2 → List A2
 | []=>[x]
 | y :: l=>if hX y x = true then y :: qI x l else x :: y :: l
def isA:List A2 → List A2
 | []=>[]
 | x :: l=>qI x (isA l)
def sN (x y:A2):Prop:=hX y x = false
theorem m' (x y:A2):sN x y ↔ (x.a0 < y.a0 ∨ (x.a0 = y.a0 ∧ x.a1 ≤ y.a1)):=by
 simp only [sN,hX,decide_eq_false_iff_not]; omega
theorem mi (x:A2):∀ l:List A2,(qI x l).Perm (x :: l)
 | []=>.refl _
 | y :: l=>by
  unfold qI
  split
  ·exact .trans (.cons y (mi x l)) (.swap x y l)
  ·exact .refl _
theorem nD:∀ l:List A2,(isA l).Perm l
 | []=>.refl _
 | x :: l=>(mi x (isA l)).trans (.cons x (nD l))
theorem rY (x:A2):∀ l:List A2,l.Pairwise sN → (qI x l).Pairwise sN
 | [],_=>by simp [qI]
 | y :: l,h=>by
  unfold qI
  have h1:=List.pairwise_cons.1 h
  split
  ·next hc=>
   refine List.pairwise_cons.2 ⟨fun z hz=>?_,rY x l h1.2⟩
   rcases List.mem_cons.1 ((mi x l).mem_iff.1 hz) with rfl | hz
   ·rw [m']; simp only [hX,decide_eq_true_eq] at hc; omega
   ·exact h1.1 z hz
  ·next hc=>
   refine List.pairwise_cons.2 ⟨fun z hz=>?_,h⟩
   have hxy:sN x y:=by simpa [sN] using hc
   rcases List.mem_cons.1 hz with rfl | hz
   ·exact hxy
   ·have h2:=h1.1 z hz
    rw [m'] at *; omega
theorem qR:∀ l:List A2,(isA l).Pairwise sN
 | []=>.nil
 | x :: l=>rY x _ (qR l)
theorem p6 {x y:A2} (h1:sN x y) (h2:sN y x):x = y:=by
 rw [m'] at *
 cases x; cases y
 simp only [A2.mk.injEq] at *
 omega
theorem sv (l:List A2):(l.mergeSort fun a b=>!hX b a) = isA l:=by
 have hp:(l.mergeSort fun a b=>!hX b a).Pairwise sN :=
  (List.pairwise_mergeSort (le:=fun a b=>!hX b a) (fun a b c h1 h2=>by simp only [hX,Bool.not_eq_true',decide_eq_false_iff_not] at *; omega) (fun a b=>by simp only [hX,Bool.or_eq_true,Bool.not_eq_true',decide_eq_false_iff_not]; omega) l).imp fun h=>by simpa [sN] using h
 exact List.Perm.eq_of_pairwise (fun a b _ _ h1 h2=>p6 h1 h2) hp (qR l) ((List.mergeSort_perm _ _).trans (nD l).symm)
def sV (F:Nat) (zs:List A2):Option (List A2):=if zs.length < 1000000000 then some (isA zs) else none
theorem pS:cO = sV:=by
 funext F zs
 unfold cO sV
 rw [sv]
theorem l9:bo 20000 = some true:=by
 unfold bo dt dH ek cp cI c3
 rw [sort_eq,pS]
 decide +kernel
def vB (b:bQ):Bool:=decide (b.Lo.a0 ≤ b.Hi.a0 ∧ -1125899906842624 ≤ b.Lo.a0 ∧ b.Hi.a0 ≤ 1125899906842624 ∧ b.Lo.a1 ≤ b.Hi.a1 ∧ -1125899906842624 ≤ b.Lo.a1 ∧ b.Hi.a1 ≤ 1125899906842624 ∧ b.Lo.a2 ≤ b.Hi.a2 ∧ -1125899906842624 ≤ b.Lo.a2 ∧ b.Hi.a2 ≤ 1125899906842624)
def mB (a b:bQ):Bool:=decide (b.Lo.a0 ≤ a.Hi.a0 ∧ a.Lo.a0 ≤ b.Hi.a0 ∧ b.Lo.a1 ≤ a.Hi.a1 ∧ a.Lo.a1 ≤ b.Hi.a1 ∧ b.Lo.a2 ≤ a.Hi.a2 ∧ a.Lo.a2 ≤ b.Hi.a2)
def hB (a b:bQ):bQ:=⟨⟨min a.Lo.a0 b.Lo.a0,min a.Lo.a1 b.Lo.a1,min a.Lo.a2 b.Lo.a2⟩,⟨max a.Hi.a0 b.Hi.a0,max a.Hi.a1 b.Hi.a1,max a.Hi.a2 b.Hi.a2⟩⟩
theorem lx0 (a b c:Int):aX [a,b,c] 0 = some a:=rfl
theorem lx1 (a b c:Int):aX [a,b,c] 1 = some b:=rfl
theorem lx2 (a b c:Int):aX [a,b,c] 2 = some c:=rfl
theorem w1:IntKind.i64.wrap (0 + 1) = 1:=rfl
theorem w2:IntKind.i64.wrap (1 + 1) = 2:=rfl
theorem w3:IntKind.i64.wrap (2 + 1) = 3:=rfl
theorem iter4n {σ τ:Type} (n:Nat) (body:σ → Option (σ ⊕ τ)) (s:σ):iter (n + 4) body s = (body s).bind (b5 (fun s=>(body s).bind (b5 (fun s=>(body s).bind (b5 (fun s=>(body s).bind (b5 (iter n body) some)) some)) some)) some):=rfl
theorem rF {σ τ:Type} (body:σ → Option (σ ⊕ τ)) (s:σ):∃ K:σ → Option τ,iter 20000 body s = (body s).bind (b5 (fun s=>(body s).bind (b5 (fun s=>(body s).bind (b5 (fun s=>(body s).bind (b5 K some)) some)) some)) some):=⟨iter 19996 body,iter4n 19996 body s⟩
theorem d03:decide ((0:Int) < 3) = true:=rfl
theorem d13:decide ((1:Int) < 3) = true:=rfl
theorem d23:decide ((2:Int) < 3) = true:=rfl
theorem d33:decide ((3:Int) < 3) = false:=rfl
theorem rV {α:Type} (lo hi:Int) (A B:Option α):((a6 (!decide (hi < lo)) (some lo)).bind fun x4=>(a6 (!(decide (hi < lo) || decide (x4 < -1125899906842624))) (some hi)).bind fun x5=>if ((decide (hi < lo) || decide (x4 < -1125899906842624)) || decide (1125899906842624 < x5)) = true then A else B) =
  if (lo ≤ hi ∧ -1125899906842624 ≤ lo ∧ hi ≤ 1125899906842624) then B else A:=by
 by_cases h1:hi < lo
 ·rw [if_neg (by omega)]; simp [a6,h1]
 ·have g1:decide (hi < lo) = false:=by simpa using h1
  rw [g1]
  by_cases h2:lo < -1125899906842624
  ·have g2:decide (lo < -1125899906842624) = true:=by simpa using h2
   rw [if_neg (by omega)]; simp only [a6,Bool.not_false,if_true,Option.bind_some,g2,Bool.or_true,Bool.true_or,Bool.not_true,Bool.false_eq_true,if_false,Bool.false_or]
  ·have g2:decide (lo < -1125899906842624) = false:=by simpa using h2
   by_cases h3:1125899906842624 < hi
   ·rw [if_neg (by omega)]; simp only [a6,Bool.not_false,if_true,Option.bind_some,g2,Bool.or_false,Bool.false_or,h3,decide_true]
   ·rw [if_pos (by omega)]; simp only [a6,Bool.not_false,if_true,Option.bind_some,g2,Bool.or_false,Bool.false_or,h3,decide_false,Bool.false_eq_true,if_false]
theorem rM {α:Type} (ah bl bh al:Int) (A B:Option α):((a6 (!decide (ah < bl)) (some bh)).bind fun x4=>(a6 (!decide (ah < bl)) (some al)).bind fun x5=>if (decide (ah < bl) || decide (x4 < x5)) = true then A else B) =
  if (bl ≤ ah ∧ al ≤ bh) then B else A:=by
 by_cases h1:ah < bl
 ·rw [if_neg (by omega)]; simp [a6,h1]
 ·by_cases h2:bh < al
  ·rw [if_neg (by omega)]; simp [a6,h1,h2]
  ·rw [if_pos (by omega)]; simp [a6,h1,h2]
theorem pP (b:bQ):b6 20000 b = some (vB b):=by
 obtain ⟨⟨a0,a1,a2⟩,⟨b0,b1,b2⟩⟩:=b
 unfold b6
 obtain ⟨K,hK⟩:=rF _ _
 rw [hK]
 clear hK
 simp only [A3.l,d03,d13,d23,d33,if_true,lx0,lx1,lx2,w1,w2,w3,Option.bind_some,rV,b5]
 unfold vB
 by_cases h0:a0 ≤ b0 ∧ -1125899906842624 ≤ a0 ∧ b0 ≤ 1125899906842624
 ·rw [if_pos h0]
  simp only [A3.l,d03,d13,d23,d33,if_true,lx0,lx1,lx2,w1,w2,w3,Option.bind_some,rV,b5]
  by_cases h1:a1 ≤ b1 ∧ -1125899906842624 ≤ a1 ∧ b1 ≤ 1125899906842624
  ·rw [if_pos h1]
   simp only [A3.l,d03,d13,d23,d33,if_true,lx0,lx1,lx2,w1,w2,w3,Option.bind_some,rV,b5]
   by_cases h2:a2 ≤ b2 ∧ -1125899906842624 ≤ a2 ∧ b2 ≤ 1125899906842624
   ·rw [if_pos h2]
    simp only [d33,Option.bind_some,b5,Bool.false_eq_true,if_false]
    exact congrArg some (decide_eq_true (by omega)).symm
   ·rw [if_neg h2]
    simp only [Option.bind_some,b5]
    exact congrArg some (decide_eq_false (by omega)).symm
  ·rw [if_neg h1]
   simp only [Option.bind_some,b5]
   exact congrArg some (decide_eq_false (by omega)).symm
 ·rw [if_neg h0]
  simp only [Option.bind_some,b5]
  exact congrArg some (decide_eq_false (by omega)).symm
theorem meet_eq (a b:bQ):b8 20000 a b = some (mB a b):=by
 obtain ⟨⟨al0,al1,al2⟩,⟨ah0,ah1,ah2⟩⟩:=a
 obtain ⟨⟨bl0,bl1,bl2⟩,⟨bh0,bh1,bh2⟩⟩:=b
 unfold b8
 obtain ⟨K,hK⟩:=rF _ _
 rw [hK]
 clear hK
 simp only [A3.l,d03,d13,d23,d33,if_true,lx0,lx1,lx2,w1,w2,w3,Option.bind_some,rM,b5]
 unfold mB
 by_cases h0:bl0 ≤ ah0 ∧ al0 ≤ bh0
 ·rw [if_pos h0]
  simp only [A3.l,d03,d13,d23,d33,if_true,lx0,lx1,lx2,w1,w2,w3,Option.bind_some,rM,b5]
  by_cases h1:bl1 ≤ ah1 ∧ al1 ≤ bh1
  ·rw [if_pos h1]
   simp only [A3.l,d03,d13,d23,d33,if_true,lx0,lx1,lx2,w1,w2,w3,Option.bind_some,rM,b5]
   by_cases h2:bl2 ≤ ah2 ∧ al2 ≤ bh2
   ·rw [if_pos h2]
    simp only [d33,Option.bind_some,b5,Bool.false_eq_true,if_false]
    exact congrArg some (decide_eq_true (by omega)).symm
   ·rw [if_neg h2]
    simp only [Option.bind_some,b5]
    exact congrArg some (decide_eq_false (by omega)).symm
  ·rw [if_neg h1]
   simp only [Option.bind_some,b5]
   exact congrArg some (decide_eq_false (by omega)).symm
 ·rw [if_neg h0]
  simp only [Option.bind_some,b5]
  exact congrArg some (decide_eq_false (by omega)).symm
def zB:bQ:=⟨A3.zero,A3.zero⟩
theorem s7 (b:bQ):vB b = true ↔ (b.Lo.a0 ≤ b.Hi.a0 ∧ -1125899906842624 ≤ b.Lo.a0 ∧ b.Hi.a0 ≤ 1125899906842624 ∧ b.Lo.a1 ≤ b.Hi.a1 ∧ -1125899906842624 ≤ b.Lo.a1 ∧ b.Hi.a1 ≤ 1125899906842624 ∧ b.Lo.a2 ≤ b.Hi.a2 ∧ -1125899906842624 ≤ b.Lo.a2 ∧ b.Hi.a2 ≤ 1125899906842624):=by
 unfold vB; exact decide_eq_true_iff
theorem np (a b:bQ):mB a b = true ↔ (b.Lo.a0 ≤ a.Hi.a0 ∧ a.Lo.a0 ≤ b.Hi.a0 ∧ b.Lo.a1 ≤ a.Hi.a1 ∧ a.Lo.a1 ≤ b.Hi.a1 ∧ b.Lo.a2 ≤ a.Hi.a2 ∧ a.Lo.a2 ≤ b.Hi.a2):=by
 unfold mB; exact decide_eq_true_iff
theorem pd (a b:bQ):mB a b = mB b a:=by
 rw [Bool.eq_iff_iff,np,np]; omega
def c1 (x y:Int):Int:=if x < y then -1 else if y < x then 1 else 0
theorem k4 (x y:Int):c9 20000 x y = some (c1 x y):=by
 unfold c9 dX c1
 simp only [Option.bind_some,show decide (x ≠ x) = false by simp,show decide (y ≠ y) = false by simp,Bool.false_eq_true,if_false,decide_eq_true_eq]
 split
 ·rfl
 ·split <;> rfl
structure Ky where
 a:Int
 b:Int
 c:Int
 d:Int
def lk4 (x y:Ky):Prop:=x.a < y.a ∨ (x.a = y.a ∧ (x.b < y.b ∨ (x.b = y.b ∧ (x.c < y.c ∨ (x.c = y.c ∧ x.d < y.d)))))
def ky (f:Nat) (x:entry):Ky:=if f = 50 then ⟨0,0,0,x.id⟩ else ⟨x.b.Lo.a0,x.b.Lo.a1,x.b.Lo.a2,x.id⟩
def lf (f:Nat) (x y:entry):Prop:=lk4 (ky f x) (ky f y)
theorem gz (x y:entry):lf 50 x y ↔ x.id < y.id:=by
 unfold lf lk4 ky
 simp
theorem ltE51 (x y:entry):lf 51 x y ↔ (x.b.Lo.a0 < y.b.Lo.a0 ∨ (x.b.Lo.a0 = y.b.Lo.a0 ∧ (x.b.Lo.a1 < y.b.Lo.a1 ∨ (x.b.Lo.a1 = y.b.Lo.a1 ∧ (x.b.Lo.a2 < y.b.Lo.a2 ∨ (x.b.Lo.a2 = y.b.Lo.a2 ∧ x.id < y.id)))))):=by
 unfold lf lk4 ky
 simp
theorem e30:decide ((3:Int) ≤ 0) = false:=rfl
theorem e31:decide ((3:Int) ≤ 1) = false:=rfl
theorem e32:decide ((3:Int) ≤ 2) = false:=rfl
theorem len3 (a b c:Int):(([a,b,c]:List Int).length:Int) = 3:=rfl
theorem cmp3 (a0 a1 a2 b0 b1 b2:Int):dr 20000 [a0,a1,a2] [b0,b1,b2] = some (if c1 a0 b0 ≠ 0 then c1 a0 b0 else if c1 a1 b1 ≠ 0 then c1 a1 b1 else c1 a2 b2):=by
 unfold dr
 simp only [k4,len3]
 obtain ⟨K,hK⟩:=rF _ _
 rw [hK]
 clear hK
 simp only [d03,e30,if_true,lx0,Option.bind_some,Bool.false_eq_true,if_false,b5,decide_eq_true_eq]
 by_cases h0:c1 a0 b0 ≠ 0
 ·rw [if_pos h0,if_pos h0]; simp only [Option.bind_some,b5]
 ·rw [if_neg h0,if_neg h0]
  simp only [Option.bind_some,b5,w1,d13,e31,if_true,lx1,Bool.false_eq_true,if_false,decide_eq_true_eq,show (1:Int) < 3 from by decide,show ¬ (3:Int) ≤ 1 from by decide]
  by_cases h1:c1 a1 b1 ≠ 0
  ·rw [if_pos h1,if_pos h1]; simp only [Option.bind_some,b5]
  ·rw [if_neg h1,if_neg h1]
   simp only [Option.bind_some,b5,w2,d23,e32,if_true,lx2,Bool.false_eq_true,if_false,decide_eq_true_eq,show (2:Int) < 3 from by decide,show ¬ (3:Int) ≤ 2 from by decide]
   by_cases h2:c1 a2 b2 ≠ 0
   ·rw [if_pos h2]; simp only [Option.bind_some,b5]
   ·rw [if_neg h2]
    have h2':c1 a2 b2 = 0:=by simpa using h2
    simp only [Option.bind_some,b5,w3,d33,Bool.false_eq_true,if_false,h2',show ¬ (3:Int) < 3 from by decide]
theorem or2 (a b:Int):jJ 20000 [a,b] = some (if a ≠ 0 then a else b):=by
 unfold jJ
 simp only [show (([a,b]:List Int).length:Int) = 2 from rfl]
 obtain ⟨K,hK⟩:=rF _ _
 rw [hK]
 clear hK
 simp only [show (0:Int) < 2 from by decide,decide_true,if_true,show aX [a,b] 0 = some a from rfl,Option.bind_some,decide_eq_true_eq]
 by_cases h0:a ≠ 0
 ·rw [if_pos h0,if_pos h0]; simp only [Option.bind_some,b5]
 ·rw [if_neg h0,if_neg h0]
  simp only [Option.bind_some,b5,w1,if_true,show (1:Int) < 2 from by decide,decide_true,show aX [a,b] 1 = some b from rfl]
  by_cases h1:b ≠ 0
  ·rw [if_pos h1]; simp only [Option.bind_some,b5]
  ·rw [if_neg h1]
   have h1':b = 0:=by simpa using h1
   simp only [Option.bind_some,b5,w2,h1',show ¬ (2:Int) < 2 from by decide,decide_false,Bool.false_eq_true,if_false]
theorem pK (x y:Int):c1 x y < 0 ↔ x < y:=by unfold c1; split <;> (try split) <;> omega
theorem pL (x y:Int):0 < c1 x y ↔ y < x:=by unfold c1; split <;> (try split) <;> omega
theorem oq (x y:Int):c1 x y = 0 ↔ x = y:=by unfold c1; split <;> (try split) <;> omega
theorem tH {f:Nat} (hf:f = 50 ∨ f = 51) (x y:entry):∃ v,ff 20000 f x y = some v ∧ (v < 0 ↔ lf f x y) ∧ (0 < v ↔ lf f y x):=by
 rcases hf with rfl | rfl
 ·refine ⟨c1 x.id y.id,?_,by rw [gz]; exact pK _ _,by rw [gz]; exact pL _ _⟩
  unfold ff fM
  rw [if_pos rfl,k4]; rfl
 ·unfold ff fL
  rw [if_neg (by decide),if_pos rfl]
  obtain ⟨xi,⟨⟨xl0,xl1,xl2⟩,xh⟩⟩:=x
  obtain ⟨yi,⟨⟨yl0,yl1,yl2⟩,yh⟩⟩:=y
  simp only [A3.l,cmp3,k4,Option.bind_some,or2,ltE51]
  refine ⟨_,rfl,?_,?_⟩
  ·have g0:=pK xl0 yl0; have g1:=pK xl1 yl1; have g2:=pK xl2 yl2; have g3:=pK xi yi
   have z0:=oq xl0 yl0; have z1:=oq xl1 yl1; have z2:=oq xl2 yl2
   generalize c1 xl0 yl0 = u0 at *; generalize c1 xl1 yl1 = u1 at *; generalize c1 xl2 yl2 = u2 at *; generalize c1 xi yi = u3 at *
   by_cases k0:u0 = 0
   ·by_cases k1:u1 = 0
    ·by_cases k2:u2 = 0
     ·simp [k0,k1,k2]; omega
     ·simp [k0,k1,k2]; omega
    ·simp [k0,k1]; omega
   ·simp [k0]; omega
  ·have g0:=pL xl0 yl0; have g1:=pL xl1 yl1; have g2:=pL xl2 yl2; have g3:=pL xi yi
   have z0:=oq xl0 yl0; have z1:=oq xl1 yl1; have z2:=oq xl2 yl2
   generalize c1 xl0 yl0 = u0 at *; generalize c1 xl1 yl1 = u1 at *; generalize c1 xl2 yl2 = u2 at *; generalize c1 xi yi = u3 at *
   by_cases k0:u0 = 0
   ·by_cases k1:u1 = 0
    ·by_cases k2:u2 = 0
     ·simp [k0,k1,k2]; omega
     ·simp [k0,k1,k2]; omega
    ·simp [k0,k1]; omega
   ·simp [k0]; omega
abbrev T:=cB bc
def cvT (b:bQ):T → bQ
 | .leaf=>b
 | .node w _ _=>hB b w.cover
def mk (v:bc) (l r:T):T:=.node ⟨v.x,v.priority,cvT (cvT v.x.b l) r⟩ l r
def sd (l r:T):List T:=(if l.cS = true then [] else [l]) ++ (if r.cS = true then [] else [r])
theorem tT (l r:T):fJ 20000 [l,r] = some (sd l r):=by
 cases l <;> cases r <;> rfl
theorem iO (rt:T) (c k:Nat) (v:bc) (nl nr l r:T):aY 20000 ⟨rt,c,k,49⟩ (.node v nl nr) l r = some (mk v l r):=by
 unfold aY gX fN
 simp only [iI,Option.bind_some,if_true,tT]
 cases l <;> cases r
 ·rfl
 ·rfl
 ·rfl
 ·rfl
def items:T → List entry
 | .leaf=>[]
 | .node w l r=>items l ++ w.x :: items r
def rB (a b:bQ):Prop:=b.Lo.a0 ≤ a.Lo.a0 ∧ b.Lo.a1 ≤ a.Lo.a1 ∧ b.Lo.a2 ≤ a.Lo.a2 ∧ a.Hi.a0 ≤ b.Hi.a0 ∧ a.Hi.a1 ≤ b.Hi.a1 ∧ a.Hi.a2 ≤ b.Hi.a2
theorem ui (a:bQ):rB a a:=by unfold rB; omega
theorem ml {a b c:bQ} (h1:rB a b) (h2:rB b c):rB a c:=by unfold rB at *; omega
theorem sD (a b:bQ):rB a (hB a b):=by unfold rB hB; simp only; omega
theorem sC (a b:bQ):rB b (hB a b):=by unfold rB hB; simp only; omega
def nZ:T → Prop
 | .leaf=>True
 | .node w l r=>(∀ x ∈ items (.node w l r),rB x.b w.cover) ∧ nZ l ∧ nZ r
theorem qZ (b:bQ) (l:T):rB b (cvT b l):=by
 cases l with
 | leaf=>exact ui b
 | node w l r=>exact sD _ _
theorem oN (b:bQ) {l:T} (h:nZ l):∀ x ∈ items l,rB x.b (cvT b l):=by
 cases l with
 | leaf=>intro x hx; cases hx
 | node w l r=>exact fun x hx=>ml (h.1 x hx) (sC _ _)
theorem fQ (v:bc) (l r:T):items (mk v l r) = items l ++ v.x :: items r:=rfl
theorem kT {v:bc} {l r:T} (hl:nZ l) (hr:nZ r):nZ (mk v l r):=by
 refine ⟨fun x hx=>?_,hl,hr⟩
 show rB x.b (cvT (cvT v.x.b l) r)
 rcases List.mem_append.1 hx with hx | hx
 ·exact ml (oN v.x.b hl x hx) (qZ _ r)
 ·rcases List.mem_cons.1 hx with rfl | hx
  ·exact ml (qZ _ l) (qZ _ r)
  ·exact oN _ hr x hx
def kn (f:Nat) (l:List entry):Prop:=l.Pairwise (lf f)
theorem iC {f:Nat} {x y z:entry} (h1:lf f x y) (h2:lf f y z):lf f x z:=by
 unfold lf lk4 at *; omega
theorem oG {f:Nat} {x y:entry} (h1:lf f x y) (h2:lf f y x):False:=by
 unfold lf lk4 at *; omega
theorem ny {f:Nat} {a:entry} {l r:List entry} (h:kn f (l ++ a :: r)):kn f l ∧ kn f r ∧ (∀ y ∈ l,lf f y a) ∧ (∀ y ∈ r,lf f a y):=by
 unfold kn at *
 rw [List.pairwise_append,List.pairwise_cons] at h
 exact ⟨h.1,h.2.1.2,fun y hy=>h.2.2 y hy a (by simp),h.2.1.1⟩
theorem tS {f:Nat} (hf:f = 50 ∨ f = 51) (rt:T) (k:Nat) (x:entry):∀ (t:T) (m:Nat),(items t).length < m → nZ t → kn f (items t) →
  ∃ a b,bF 20000 m ⟨rt,f,k,49⟩ t x = some (a,b) ∧ items a ++ items b = items t ∧ (∀ y ∈ items a,lf f y x) ∧ (∀ y ∈ items b,¬ lf f y x) ∧ nZ a ∧ nZ b:=by
 intro t
 induction t with
 | leaf=>
  intro m hm _ _
  cases m with
  | zero=>omega
  | succ m=>exact ⟨.leaf,.leaf,rfl,rfl,by simp [items],by simp [items],trivial,trivial⟩
 | node w l r ihl ihr=>
  intro m hm hc hs
  cases m with
  | zero=>omega
  | succ m=>
  simp only [items,List.length_append,List.length_cons] at hm
  obtain ⟨s1,s2,s3,s4⟩:=ny hs
  obtain ⟨v,hv,hlt,_⟩:=tH hf w.x x
  unfold bF
  simp only [cB.cS,Bool.false_eq_true,if_false,iI,Option.bind_some,hv]
  by_cases h:v < 0
  ·obtain ⟨a,b,e,h1,h2,h3,h4,h5⟩:=ihr m (by omega) hc.2.2 s2
   have hx:=hlt.1 h
   refine ⟨mk w l a,b,?_,?_,?_,h3,kT hc.2.1 h4,h5⟩
   ·rw [if_pos (by simpa using h),e]
    simp only [Option.bind_some,iO]
   ·rw [fQ,items,← h1]; simp
   ·intro y hy
    rw [fQ] at hy
    rcases List.mem_append.1 hy with hy | hy
    ·exact iC (s3 y hy) hx
    ·rcases List.mem_cons.1 hy with rfl | hy
     ·exact hx
     ·exact h2 y hy
  ·obtain ⟨a,b,e,h1,h2,h3,h4,h5⟩:=ihl m (by omega) hc.2.1 s1
   have hx:¬ lf f w.x x:=fun e=>h (hlt.2 e)
   refine ⟨a,mk w b r,?_,?_,h2,?_,h4,kT h5 hc.2.2⟩
   ·rw [if_neg (by simpa using h),e]
    simp only [Option.bind_some,iO]
   ·rw [fQ,items,← h1]; simp
   ·intro y hy
    rw [fQ] at hy
    rcases List.mem_append.1 hy with hy | hy
    ·exact h3 y hy
    ·rcases List.mem_cons.1 hy with rfl | hy
     ·exact hx
     ·exact fun e=>hx (iC (s4 y hy) e)
theorem pg (rt:T) (f k:Nat):∀ (m:Nat) (a b:T),(items a).length + (items b).length < m → nZ a → nZ b →
  ∃ t,bN 20000 m ⟨rt,f,k,49⟩ a b = some t ∧ items t = items a ++ items b ∧ nZ t:=by
 intro m
 induction m with
 | zero=>intro a b h; omega
 | succ m ih=>
  intro a b hm ha hb
  unfold bN
  cases a with
  | leaf=>exact ⟨b,rfl,rfl,hb⟩
  | node w l r=>
   cases b with
   | leaf=>exact ⟨.node w l r,rfl,by simp [items],ha⟩
   | node w2 l2 r2=>
    simp only [cB.cS,Bool.false_eq_true,if_false,iI,Option.bind_some]
    simp only [items,List.length_append,List.length_cons] at hm
    by_cases h:w2.priority < w.priority
    ·obtain ⟨t,e,h1,h2⟩:=ih r (.node w2 l2 r2) (by simp only [items,List.length_append,List.length_cons]; omega) ha.2.2 hb
     refine ⟨mk w l t,?_,?_,kT ha.2.1 h2⟩
     ·rw [if_pos (by simpa using h),e]
      simp only [Option.bind_some,iO]
     ·rw [fQ,h1]; simp [items]
    ·obtain ⟨t,e,h1,h2⟩:=ih (.node w l r) l2 (by simp only [items,List.length_append,List.length_cons]; omega) ha hb.2.1
     refine ⟨mk w2 t r2,?_,?_,kT h2 hb.2.2⟩
     ·rw [if_neg (by simpa using h),e]
      simp only [Option.bind_some,iO]
     ·rw [fQ,h1]; simp [items]
theorem r8 {f:Nat} (hf:f = 50 ∨ f = 51) (rt:T) (k:Nat) (x:entry):∀ (t:T) (m:Nat),(items t).length < m → (items t).length < 20000 → nZ t → kn f (items t) →
  ∀ pre y post,items t = pre ++ y :: post → ¬ lf f x y → ¬ lf f y x → ∃ t',bO 20000 m ⟨rt,f,k,49⟩ t x = some t' ∧ items t' = pre ++ post ∧ nZ t':=by
 intro t
 induction t with
 | leaf=>intro m _ _ _ _ pre y post h; simp [items] at h
 | node w l r ihl ihr=>
  intro m hm h2k hc hs pre y post ng hy1 hy2
  cases m with
  | zero=>omega
  | succ m=>
  simp only [items,List.length_append,List.length_cons] at hm h2k
  obtain ⟨s1,s2,s3,s4⟩:=ny hs
  obtain ⟨v,hv,hlt,hgt⟩:=tH hf x w.x
  unfold bO
  simp only [iI,Option.bind_some,hv]
  have hcase:∀ z,z ∈ items l → lf f z w.x:=s3
  rw [items] at ng
  have hl:=List.append_eq_append_iff.1 ng
  by_cases h:v < 0
  ·have hx:=hlt.1 h
   rcases hl with ⟨us,h1,h3⟩ | ⟨vs,h1,h3⟩
   ·exfalso
    cases us with
    | nil=>
     have:w.x = y:=by simpa using (List.cons.inj (by simpa using h3)).1
     rw [← this] at hy1; exact hy1 hx
    | cons a us=>
     have hm:y ∈ items r:=by
      have:=(List.cons.inj (by simpa using h3)).2
      rw [this]; simp
     exact hy1 (iC hx (s4 y hm))
   ·cases vs with
    | nil=>
     exfalso
     have:w.x = y:=by simpa using (List.cons.inj (by simpa using h3)).1.symm
     rw [← this] at hy1; exact hy1 hx
    | cons b vs=>
     obtain ⟨e1,e2⟩:=List.cons.inj (by simpa using h3:y :: post = b :: (vs ++ w.x :: items r))
     subst e1
     obtain ⟨t',e,g1,g2⟩:=ihl m (by omega) (by omega) hc.2.1 s1 pre y vs h1 hy1 hy2
     refine ⟨mk w t' r,?_,?_,kT g2 hc.2.2⟩
     ·rw [if_pos (by simpa using h),e]
      simp only [Option.bind_some,iO]
     ·rw [fQ,g1,e2]; simp
  ·rw [if_neg (by simpa using h)]
   by_cases h':0 < v
   ·have hx:=hgt.1 h'
    rw [if_pos (by simpa using h')]
    rcases hl with ⟨us,h1,h3⟩ | ⟨vs,h1,h3⟩
    ·cases us with
     | nil=>
      exfalso
      have:w.x = y:=by simpa using (List.cons.inj (by simpa using h3)).1
      rw [← this] at hy2; exact hy2 hx
     | cons a us=>
      obtain ⟨e1,e2⟩:=List.cons.inj (by simpa using h3:w.x :: items r = a :: (us ++ y :: post))
      subst e1
      obtain ⟨t',e,g1,g2⟩:=ihr m (by omega) (by omega) hc.2.2 s2 us y post e2 hy1 hy2
      refine ⟨mk w l t',?_,?_,kT hc.2.1 g2⟩
      ·rw [e]
       simp only [Option.bind_some,iO]
      ·rw [fQ,g1,h1]; simp
    ·exfalso
     cases vs with
     | nil=>
      have:w.x = y:=by simpa using (List.cons.inj (by simpa using h3)).1.symm
      rw [← this] at hy2; exact hy2 hx
     | cons b vs=>
      have hm:y ∈ items l:=by
       have:=(List.cons.inj (by simpa using h3:y :: post = b :: (vs ++ w.x :: items r))).1
       rw [h1,this]; simp
      exact hy2 (iC (s3 y hm) hx)
   ·rw [if_neg (by simpa using h')]
    have hn1:¬ lf f x w.x:=fun e=>h (hlt.2 e)
    have hn2:¬ lf f w.x x:=fun e=>h' (hgt.2 e)
    obtain ⟨t',e,g1,g2⟩:=pg rt f k 20000 l r (by omega) hc.2.1 hc.2.2
    refine ⟨t',?_,?_,g2⟩
    ·unfold b9
     rw [e]; rfl
    ·rw [g1]
     rcases hl with ⟨us,h1,h3⟩ | ⟨vs,h1,h3⟩
     ·cases us with
      | nil=>
       obtain ⟨e1,e2⟩:=List.cons.inj (by simpa using h3:w.x :: items r = y :: post)
       rw [h1,e2]; simp
      | cons a us=>
       exfalso
       have hm:y ∈ items r:=by
        have:=(List.cons.inj (by simpa using h3:w.x :: items r = a :: (us ++ y :: post))).2
        rw [this]; simp
       have g:=s4 y hm
       unfold lf lk4 at *; omega
     ·cases vs with
      | nil=>
       obtain ⟨e1,e2⟩:=List.cons.inj (by simpa using h3:y :: post = w.x :: items r)
       rw [h1,e2]; simp
      | cons b vs=>
       exfalso
       have hm:y ∈ items l:=by
        have:=(List.cons.inj (by simpa using h3:y :: post = b :: (vs ++ w.x :: items r))).1
        rw [h1,this]; simp
       have g:=s3 y hm
       unfold lf lk4 at *; omega
def zE:entry:=⟨0,zB⟩
theorem get_aux (id:Int):∀ (t:T) (m:Nat),(items t).length < m → kn 50 (items t) →
  bY (iter m (fun n_1=>if (!n_1.cS) = true then (Option.bind (iI n_1) (fun nd_2=>if (decide (id = nd_2.1.x.id)) = true then (Option.bind (iI n_1) (fun nd_3=>some (.inr (.inr (nd_3.1.x,true))))) else (Option.bind (iI n_1) (fun nd_4=>if (decide (id < nd_4.1.x.id)) = true then (Option.bind (iI n_1) (fun nd_5=>some (.inl nd_5.2.1))) else (Option.bind (iI n_1) (fun nd_6=>some (.inl nd_6.2.2))))))) else (some (.inr (.inl ())))) t:Option (Unit ⊕ entry × Bool))
   (fun o=>(∃ x ∈ items t,x.id = id ∧ o = .inr (x,true)) ∨ (o = .inl () ∧ ∀ x ∈ items t,x.id ≠ id)):=by
 intro t
 induction t with
 | leaf=>
  intro m hm hs
  cases m with
  | zero=>omega
  | succ m=>
   rw [dp]
   exact ⟨.inl (),rfl,.inr ⟨rfl,by simp [items]⟩⟩
 | node w l r ihl ihr=>
  intro m hm hs
  cases m with
  | zero=>omega
  | succ m=>
  simp only [items,List.length_append,List.length_cons] at hm
  obtain ⟨s1,s2,s3,s4⟩:=ny hs
  rw [dp]
  simp only [cB.cS,Bool.not_false,if_true,iI,Option.bind_some]
  by_cases h:id = w.x.id
  ·rw [if_pos (by simpa using h)]
   exact ⟨.inr (w.x,true),rfl,.inl ⟨w.x,by simp [items],h.symm,rfl⟩⟩
  ·rw [if_neg (by simpa using h)]
   by_cases h2:id < w.x.id
   ·rw [if_pos (by simpa using h2)]
    refine (ihl m (by omega) s1).mono fun o ho=>?_
    rcases ho with ⟨x,hx,h3,h4⟩ | ⟨h3,h4⟩
    ·exact .inl ⟨x,by simp [items,hx],h3,h4⟩
    ·refine .inr ⟨h3,fun x hx=>?_⟩
     rcases List.mem_append.1 hx with hx | hx
     ·exact h4 x hx
     ·rcases List.mem_cons.1 hx with rfl | hx
      ·exact fun e=>h e.symm
      ·have:=(gz _ _).1 (s4 x hx); omega
   ·rw [if_neg (by simpa using h2)]
    refine (ihr m (by omega) s2).mono fun o ho=>?_
    rcases ho with ⟨x,hx,h3,h4⟩ | ⟨h3,h4⟩
    ·exact .inl ⟨x,by simp [items,hx],h3,h4⟩
    ·refine .inr ⟨h3,fun x hx=>?_⟩
     rcases List.mem_append.1 hx with hx | hx
     ·have:=(gz _ _).1 (s3 x hx); omega
     ·rcases List.mem_cons.1 hx with rfl | hx
      ·exact fun e=>h e.symm
      ·exact h4 x hx
structure jA (s:c6) (L:List entry):Prop where
 c1:s.ids.compare = 50
 c2:s.boxes.compare = 51
 k1:s.ids.key = 48
 k2:s.boxes.key = 48
 b1:s.ids.box = 49
 b2:s.boxes.box = 49
 it:items s.ids.root = L
 pm:(items s.boxes.root).Perm L
 s1:kn 50 L
 s2:kn 51 (items s.boxes.root)
 v1:nZ s.ids.root
 v2:nZ s.boxes.root
 vb:∀ x ∈ L,vB x.b = true
theorem tE {s:c6} {L:List entry} (h:jA s L) (hL:L.length < 1000) (id:Int):(∃ x ∈ L,x.id = id ∧ cc 20000 s id = some (x,true)) ∨ (cc 20000 s id = some (zE,false) ∧ ∀ x ∈ L,x.id ≠ id):=by
 obtain ⟨o,ho,h1⟩:=get_aux id s.ids.root 20000 (by rw [h.it]; omega) (by rw [h.it]; exact h.s1)
 rw [h.it] at h1
 unfold cc
 rw [ho]
 rcases h1 with ⟨x,hx,h2,rfl⟩ | ⟨rfl,h2⟩
 ·exact .inl ⟨x,hx,h2,rfl⟩
 ·exact .inr ⟨rfl,h2⟩
theorem sy {f:Nat} (hf:f = 50 ∨ f = 51) {x y:entry} (hn:y.id ≠ x.id) (h:¬ lf f y x):lf f x y:=by
 rcases hf with rfl | rfl
 ·rw [gz] at *; omega
 ·rw [ltE51] at *; omega
theorem rW {f:Nat} (x:entry):¬ lf f x x:=fun h=>oG h h
theorem qM {f:Nat} {L M:List entry} (h1:kn f L) (h2:kn f M) (hp:L.Perm M):L = M :=
 List.Perm.eq_of_pairwise (fun a b _ _ h h'=>(oG h h').elim) h1 h2 hp
theorem ua (z:Int):∃ p,eV 20000 z = some p:=by
 unfold eV eC
 exact ⟨_,rfl⟩
theorem kf (x:entry):gj 20000 48 x = some (IntKind.u64.wrap x.id):=rfl
theorem wth (t:ir) (x:entry) (a b n u w:T) (p:Int) (h1:eH 20000 t t.root x = some (a,b)) (h2:gj 20000 t.key x = some (IntKind.u64.wrap x.id)) (hp:eV 20000 (IntKind.u64.wrap x.id) = some p) (hm:aY 20000 t (.node ⟨x,p,⟨A3.zero,A3.zero⟩⟩ .leaf .leaf) .leaf .leaf = some n) (h3:b9 20000 t a n = some u) (h4:b9 20000 t u b = some w):bz 20000 t x = some ⟨w,t.compare,t.key,t.box⟩:=by
 unfold bz
 rw [h1,Option.bind_some]
 simp only [dQ]
 rw [h2,Option.bind_some,hp,Option.bind_some,hm,Option.bind_some,h3,Option.bind_some,h4]
 rfl
theorem rP {f:Nat} (hf:f = 50 ∨ f = 51) {rt:T} {x:entry} (hc:nZ rt) (hs:kn f (items rt)) (hn:∀ y ∈ items rt,y.id ≠ x.id) (hL:(items rt).length < 1000) :
  ∃ t',bz 20000 ⟨rt,f,48,49⟩ x = some ⟨t',f,48,49⟩ ∧ (items t').Perm (x :: items rt) ∧ kn f (items t') ∧ nZ t':=by
 obtain ⟨a,b,e,h1,h2,h3,h4,h5⟩:=tS hf rt 48 x rt 20000 (by omega) hc hs
 have hlen:(items a).length + (items b).length = (items rt).length:=by rw [← h1,List.length_append]
 obtain ⟨p,hp⟩:=ua (IntKind.u64.wrap x.id)
 obtain ⟨n,hmk,hn1,hn2⟩:∃ n:T,aY 20000 ⟨rt,f,48,49⟩ (.node ⟨x,p,⟨A3.zero,A3.zero⟩⟩ .leaf .leaf) .leaf .leaf = some n ∧ items n = [x] ∧ nZ n :=
  ⟨_,iO rt f 48 _ _ _ _ _,rfl,kT trivial trivial⟩
 obtain ⟨u,hu,u1,u2⟩:=pg rt f 48 20000 a n (by rw [hn1]; simp; omega) h4 hn2
 obtain ⟨w,hw,w1,w2⟩:=pg rt f 48 20000 u b (by rw [u1,hn1]; simp; omega) u2 h5
 refine ⟨w,?_,?_,?_,w2⟩
 ·exact wth ⟨rt,f,48,49⟩ x a b n u w p e (kf x) hp hmk hu hw
 ·rw [w1,u1,hn1,← h1]
  simp
 ·rw [w1,u1,hn1]
  rw [← h1] at hs hn
  unfold kn at *
  rw [List.pairwise_append] at hs
  have hx:∀ y ∈ items b,lf f x y:=fun y hy=>sy hf (hn y (by simp [hy])) (h3 y hy)
  rw [List.append_assoc,List.pairwise_append]
  refine ⟨hs.1,?_,?_⟩
  ·show ([x] ++ items b).Pairwise _
   exact List.pairwise_cons.2 ⟨hx,hs.2.1⟩
  ·intro y hy z hz
   rcases List.mem_append.1 hz with hz | hz
   ·rw [List.mem_singleton] at hz; subst hz; exact h2 y hy
   ·exact hs.2.2 y hy z hz
theorem nH {f:Nat} (hf:f = 50 ∨ f = 51) {rt:T} {x:entry} (hc:nZ rt) (hs:kn f (items rt)) (hx:x ∈ items rt) (hL:(items rt).length < 1000) :
  ∃ t',bg 20000 ⟨rt,f,48,49⟩ x = some ⟨t',f,48,49⟩ ∧ (x :: items t').Perm (items rt) ∧ kn f (items t') ∧ nZ t':=by
 obtain ⟨pre,post,e⟩:=List.append_of_mem hx
 obtain ⟨t',h,h1,h2⟩:=r8 hf rt 48 x rt 20000 (by omega) (by omega) hc hs pre x post e (rW x) (rW x)
 refine ⟨t',?_,?_,?_,h2⟩
 ·unfold bg fp
  rw [h]; rfl
 ·rw [h1,e]; exact List.perm_middle.symm
 ·rw [h1]
  rw [e] at hs
  unfold kn at *
  rw [List.pairwise_append,List.pairwise_cons] at hs
  rw [List.pairwise_append]
  exact ⟨hs.1,hs.2.1.2,fun y hy z hz=>hs.2.2 y hy z (by simp [hz])⟩
def oQ (x:entry):List entry → List entry
 | []=>[x]
 | y :: l=>if x.id < y.id then x :: y :: l else y :: oQ x l
def pC (id:Int) (L:List entry):List entry:=L.filter fun y=>decide (y.id ≠ id)
theorem iD (x:entry):∀ L,(oQ x L).Perm (x :: L)
 | []=>.refl _
 | y :: l=>by
  unfold oQ
  split
  ·exact .refl _
  ·exact .trans (.cons y (iD x l)) (.swap x y l)
theorem qa {x y:entry} {L:List entry}:y ∈ oQ x L ↔ y = x ∨ y ∈ L:=by rw [(iD x L).mem_iff,List.mem_cons]
theorem nE {x:entry}:∀ {L:List entry},kn 50 L → (∀ y ∈ L,y.id ≠ x.id) → kn 50 (oQ x L)
 | [],_,_=>by simp [oQ,kn]
 | y :: l,h,hn=>by
  have h1:=List.pairwise_cons.1 h
  unfold oQ
  split
  ·next hc=>
   refine List.pairwise_cons.2 ⟨fun z hz=>?_,h⟩
   rcases List.mem_cons.1 hz with rfl | hz
   ·rw [gz]; exact hc
   ·exact iC ((gz _ _).2 hc) (h1.1 z hz)
  ·next hc=>
   have hne:=hn y (by simp)
   refine List.pairwise_cons.2 ⟨fun z hz=>?_,nE h1.2 fun z hz=>hn z (by simp [hz])⟩
   rcases qa.1 hz with rfl | hz
   ·rw [gz]; omega
   ·exact h1.1 z hz
theorem qi {id:Int} {L:List entry} (h:kn 50 L):kn 50 (pC id L):=h.filter _
theorem um {id:Int} {L:List entry} {y:entry}:y ∈ pC id L ↔ y ∈ L ∧ y.id ≠ id:=by unfold pC; simp
theorem oM {x:entry} {L:List entry} (h:kn 50 L) (hx:x ∈ L):(x :: pC x.id L).Perm L:=by
 obtain ⟨pre,post,e⟩:=List.append_of_mem hx
 have e2:pC x.id L = pre ++ post:=by
  have h':=h
  rw [e] at h'
  unfold kn at h'
  rw [List.pairwise_append,List.pairwise_cons] at h'
  unfold pC
  rw [e,List.filter_append,List.filter_cons]
  have a1:pre.filter (fun y=>decide (y.id ≠ x.id)) = pre:=List.filter_eq_self.2 fun y hy=>by
   have:=(gz _ _).1 (h'.2.2 y hy x (by simp)); simp; omega
  have a2:post.filter (fun y=>decide (y.id ≠ x.id)) = post:=List.filter_eq_self.2 fun y hy=>by
   have:=(gz _ _).1 (h'.2.1.1 y hy); simp; omega
  rw [a1,a2]; simp
 rw [e2,e]
 exact List.perm_middle.symm
theorem mY {t:ir} {f:Nat} (h1:t.compare = f) (h2:t.key = 48) (h3:t.box = 49):t = ⟨t.root,f,48,49⟩:=by
 cases t; subst h1; subst h2; subst h3; rfl
theorem putN_ok {s:c6} {L:List entry} (h:jA s L) (hL:L.length < 1000) {x:entry} (hv:vB x.b = true) (hn:∀ y ∈ L,y.id ≠ x.id) :
  ∃ s':c6,bz 20000 s.ids x = some s'.ids ∧ bz 20000 s.boxes x = some s'.boxes ∧ jA s' (oQ x L):=by
 obtain ⟨a,ha,a1,a2,a3⟩:=rP (f:=50) (.inl rfl) h.v1 (by rw [h.it]; exact h.s1) (x:=x) (by rw [h.it]; exact hn) (by rw [h.it]; exact hL)
 obtain ⟨b,hb,b1,b2,b3⟩:=rP (f:=51) (.inr rfl) h.v2 h.s2 (x:=x) (fun y hy=>hn y (h.pm.mem_iff.1 hy)) (by rw [h.pm.length_eq]; exact hL)
 rw [← mY h.c1 h.k1 h.b1] at ha
 rw [← mY h.c2 h.k2 h.b2] at hb
 refine ⟨⟨⟨a,50,48,49⟩,⟨b,51,48,49⟩⟩,ha,hb,⟨rfl,rfl,rfl,rfl,rfl,rfl,?_,?_,nE h.s1 hn,b2,a3,b3,?_⟩⟩
 ·rw [h.it] at a1
  exact qM a2 (nE h.s1 hn) (a1.trans (iD x L).symm)
 ·exact b1.trans ((h.pm.cons x).trans (iD x L).symm)
 ·intro y hy
  rcases qa.1 hy with rfl | hy
  ·exact hv
  ·exact h.vb y hy
theorem Put_ok {s:c6} {L:List entry} (h:jA s L) (hL:L.length < 1000) (id:Int) (b:bQ) :
  ∃ s' e,bV 20000 s id b = some (s',e) ∧ ((vB b = false ∧ e = 1) ∨ (vB b = true ∧ (∃ x ∈ L,x.id = id) ∧ e = 6) ∨ (vB b = true ∧ (∀ x ∈ L,x.id ≠ id) ∧ e = 0 ∧ jA s' (oQ ⟨id,b⟩ L))):=by
 unfold bV
 rw [pP]
 cases hv:vB b
 ·exact ⟨_,_,rfl,.inl ⟨rfl,rfl⟩⟩
 ·simp only [Option.bind_some,Bool.not_true,Bool.false_eq_true,if_false]
  rcases tE h hL id with ⟨x,hx,e,hg⟩ | ⟨hg,hn⟩
  ·rw [hg]
   exact ⟨_,_,rfl,.inr (.inl ⟨trivial,⟨x,hx,e⟩,rfl⟩)⟩
  ·rw [hg]
   obtain ⟨s',h1,h2,h3⟩:=putN_ok h hL (x:=⟨id,b⟩) hv hn
   simp only [Option.bind_some,dQ,Bool.false_eq_true,if_false,h1,h2]
   exact ⟨_,_,rfl,.inr (.inr ⟨trivial,hn,rfl,h3⟩)⟩
theorem delN_ok {s:c6} {L:List entry} (h:jA s L) (hL:L.length < 1000) {x:entry} (hx:x ∈ L) :
  ∃ s':c6,bg 20000 s.ids x = some s'.ids ∧ bg 20000 s.boxes x = some s'.boxes ∧ jA s' (pC x.id L):=by
 obtain ⟨a,ha,a1,a2,a3⟩:=nH (f:=50) (.inl rfl) h.v1 (by rw [h.it]; exact h.s1) (x:=x) (by rw [h.it]; exact hx) (by rw [h.it]; exact hL)
 obtain ⟨b,hb,b1,b2,b3⟩:=nH (f:=51) (.inr rfl) h.v2 h.s2 (x:=x) (h.pm.mem_iff.2 hx) (by rw [h.pm.length_eq]; exact hL)
 rw [← mY h.c1 h.k1 h.b1] at ha
 rw [← mY h.c2 h.k2 h.b2] at hb
 have hp:=oM h.s1 hx
 refine ⟨⟨⟨a,50,48,49⟩,⟨b,51,48,49⟩⟩,ha,hb,⟨rfl,rfl,rfl,rfl,rfl,rfl,?_,?_,qi h.s1,b2,a3,b3,?_⟩⟩
 ·rw [h.it] at a1
  exact qM a2 (qi h.s1) (List.perm_cons x |>.1 (a1.trans hp.symm))
 ·exact List.perm_cons x |>.1 ((b1.trans h.pm).trans hp.symm)
 ·intro y hy
  exact h.vb y (um.1 hy).1
theorem sJ {s:c6} {L:List entry} (h:jA s L) (hL:L.length < 1000) (id:Int) :
  ∃ s' e,bX 20000 s id = some (s',e) ∧ (((∀ x ∈ L,x.id ≠ id) ∧ e = 5) ∨ ((∃ x ∈ L,x.id = id) ∧ e = 0 ∧ jA s' (pC id L))):=by
 unfold bX
 rcases tE h hL id with ⟨x,hx,e,hg⟩ | ⟨hg,hn⟩
 ·rw [hg]
  obtain ⟨s',h1,h2,h3⟩:=delN_ok h hL hx
  simp only [Option.bind_some,dQ,Bool.not_true,Bool.false_eq_true,if_false,h1,h2]
  rw [e] at h3
  exact ⟨_,_,rfl,.inr ⟨⟨x,hx,e⟩,rfl,h3⟩⟩
 ·rw [hg]
  exact ⟨_,_,rfl,.inl ⟨hn,rfl⟩⟩
def wpre (x:entry):List entry → List entry × Bool
 | []=>([],false)
 | y :: l=>if x.id < y.id then (x :: y :: l,true) else let r:=wpre x l; (y :: r.1,r.2)
def eK:List entry → List A2
 | []=>[]
 | x :: l=>((l.filter fun y=>mB x.b y.b).map fun y=>(⟨x.id,y.id⟩:A2)) ++ eK l
theorem oO:∀ L:List entry,(eK L).length ≤ L.length * L.length
 | []=>by simp [eK]
 | x :: l=>by
  unfold eK
  have h:=oO l
  have h2:=List.length_filter_le (fun y=>mB x.b y.b) l
  simp only [List.length_append,List.length_map,List.length_cons]
  have:(l.length + 1) * (l.length + 1) = l.length * l.length + 2 * l.length + 1:=by grind
  omega
theorem ea2f {α σ τ:Type} [Inhabited α] {l P R:List α} (e0:l = P ++ R) {A:σ → Int → Option ((σ × Int) ⊕ τ)} {G:σ → τ} {Q:τ → Prop} {F:Nat} {s0:σ} (I:List α → σ → Prop) (hF:l.length < F) (hL:l.length ≤ 1000000000) (h0:I [] s0)
  (step:∀ pre x post s,R = pre ++ x :: post → aX l ((P.length + pre.length:Nat):Int) = some x → I pre s → bY (A s ((P.length + pre.length:Nat):Int)) fun o=>(∃ s',o = .inl (s',IntKind.i64.wrap (((P.length + pre.length:Nat):Int) + 1)) ∧ I (pre ++ [x]) s') ∨ ∃ t,o = .inr t ∧ Q t)
  (fin:∀ s,I R s → Q (G s)) {st:Int} (hst:st = (P.length:Int)):bY (iter F (dQ fun s i=>if decide (i < (l.length:Int)) = true then A s i else some (.inr (G s))) (s0,st)) Q:=by
 have hlen:l.length = P.length + R.length:=by rw [e0,List.length_append]
 refine bY.rounds (n:=R.length) (I:=fun k s=>k ≤ R.length ∧ s.2 = ((P.length + k:Nat):Int) ∧ I (R.take k) s.1) (by omega) ⟨Nat.zero_le _,hst,by simpa using h0⟩ ?_
 rintro k ⟨s,i⟩ hk ⟨hk',hi,hI⟩
 simp only at hi hI
 subst hi
 simp only [dQ]
 by_cases hc:k < R.length
 ·rw [if_pos (by simp only [decide_eq_true_eq]; omega)]
  have e:R = R.take k ++ R[k] :: R.drop (k + 1):=by rw [← List.drop_eq_getElem_cons hc,List.take_append_drop]
  have hl:(R.take k).length = k:=by rw [List.length_take]; omega
  have hx:aX l ((P.length + (R.take k).length:Nat):Int) = some R[k]:=by
   rw [hl,ey (by omega) (by omega),iP _ _ (by omega)]
   simp only [e0]
   rw [List.getElem_append_right (by omega)]
   simp
  have h:=step (R.take k) R[k] (R.drop (k + 1)) s e hx hI
  rw [hl] at h
  refine h.mono fun o ho=>?_
  rcases ho with ⟨s',rfl,h⟩ | h
  ·refine .inl ⟨_,rfl,⟨by omega,?_,?_⟩,hc⟩
   ·show IntKind.i64.wrap (((P.length + k:Nat):Int) + 1) = _
    rw [lq (by omega) (by omega)]; push_cast; omega
   ·rw [List.take_succ_eq_append_getElem hc]; exact h
  ·exact .inr h
 ·have:k = R.length:=by omega
  subst this
  rw [List.take_length] at hI
  rw [if_neg (by simp only [decide_eq_true_eq]; omega)]
  exact bY.some (.inr ⟨_,rfl,fin s hI⟩)
theorem k6 (x:entry) (l:List entry):eK (x :: l) = ((l.filter fun y=>mB x.b y.b).map fun y=>(⟨x.id,y.id⟩:A2)) ++ eK l:=rfl
theorem swo_key (f:Int → Int):Go.Sort.SWO fun x y=>decide (f x < f y) :=
 ⟨fun x=>by simp,fun x y z h1 h2=>by simp only [decide_eq_true_eq] at *; omega,fun x y z h1 h2=>by simp only [decide_eq_false_iff_not] at *; omega⟩
theorem sq (f:Int → Int) (zs:List Int):(fX (fun x y=>decide (f x < f y)) zs).Perm zs ∧ (fX (fun x y=>decide (f x < f y)) zs).Pairwise fun x y=>f x ≤ f y:=by
 unfold fX
 split
 ·next h=>subst h; exact ⟨.refl _,.nil⟩
 ·obtain ⟨⟨h1,_,h2⟩,h3⟩:=Go.Sort.pdq_sorts _ (swo_key f) zs.toArray 0 zs.toArray.size (Go.Lib.bitLen zs.toArray.size) true true (Nat.zero_le _) (Nat.le_refl _) (.inl rfl)
  generalize Go.Sort.pdq _ zs.toArray 0 zs.toArray.size (Go.Lib.bitLen zs.toArray.size) true true = d at *
  constructor
  ·rw [← h1,Array.extract_size,h1,Array.extract_size] at h2
   exact h2
  ·rw [List.pairwise_iff_getElem]
   intro i j hi hj hij
   have:=h3 i j (Nat.zero_le _) hij (by rw [← h1]; simpa using hj)
   simp only [decide_eq_false_iff_not] at this
   simp only [Array.length_toList] at hi hj
   rw [getElem!_pos d i hi,getElem!_pos d j hj] at this
   simp only [Array.getElem_toList]
   omega
def bx (l:List bQ) (k:Int):bQ:=idx l k
theorem sa {l:List bQ} {z:Int} (h0:0 ≤ z) (h1:z < l.length):gi l z = (bx l z).Lo.a0:=by
 unfold gi bx idx
 congr 2
 rw [Nat.min_eq_left (by omega)]
def dead (l:List bQ) (i k:Int):Bool:=decide ((bx l k).Hi.a0 < (bx l i).Lo.a0)
theorem oB {l:List bQ} {i k:Int} (i0:0 ≤ i) (i1:i < l.length) (k0:0 ≤ k) (k1:k < l.length):cV 20000 k l i = some (dead l i k):=by
 unfold cV
 rw [ey k0 k1,ey i0 i1]; rfl
theorem uh {l:List bQ} {i:Int} {s:List Int} (hs:s.length < 1900) (i0:0 ≤ i) (i1:i < l.length) (h:∀ k ∈ s,0 ≤ k ∧ k < l.length) :
  bY (cw 20000 s (l,i)) fun r=>(r = -1 ∧ ∀ k ∈ s,dead l i k = false) ∨ ∃ pre x post,s = pre ++ x :: post ∧ r = pre.length ∧ (∀ k ∈ pre,dead l i k = false) ∧ dead l i x = true:=by
 unfold cw
 refine bY.bind (P:=fun o=>(o = .inl () ∧ ∀ k ∈ s,dead l i k = false) ∨ ∃ pre x post,s = pre ++ x :: post ∧ o = .inr (pre.length:Int) ∧ (∀ k ∈ pre,dead l i k = false) ∧ dead l i x = true) ?_ ?_
 ·refine bY.ea1 (l:=s) (I:=fun pre=>∀ k ∈ pre,dead l i k = false) (by omega) (by omega) (by simp) (fun pre x post e hx hI=>?_) (fun hI=>.inl ⟨rfl,hI⟩)
  have hm:=h x (by rw [e]; simp)
  rw [hx]
  simp only [Option.bind_some,oB i0 i1 hm.1 hm.2]
  cases hd:dead l i x
  ·refine bY.some (.inl ⟨rfl,fun k hk=>?_⟩)
   rcases List.mem_append.1 hk with hk | hk
   ·exact hI k hk
   ·rw [List.mem_singleton] at hk; subst hk; exact hd
  ·exact bY.some (.inr ⟨_,rfl,.inr ⟨pre,x,post,e,rfl,hI,hd⟩⟩)
 ·rintro o (⟨rfl,h1⟩ | ⟨pre,x,post,h1,rfl,h2,h3⟩)
  ·exact bY.some (.inl ⟨rfl,h1⟩)
  ·exact bY.some (.inr ⟨pre,x,post,h1,rfl,h2,h3⟩)
theorem sF {l:List bQ} {i:Int} {s:List Int} (hs:s.length < 1900) (i0:0 ≤ i) (i1:i < l.length) (h:∀ k ∈ s,0 ≤ k ∧ k < l.length) :
  cH 20000 (l,i) s = some (s.filter fun k=>!dead l i k):=by
 refine bY.eq ?_
 unfold cH
 refine bY.bind (uh hs i0 i1 h) ?_
 rintro r (⟨rfl,h1⟩ | ⟨pre,x,post,h1,rfl,h2,h3⟩)
 ·rw [if_pos (by decide)]
  exact bY.some (List.filter_eq_self.2 fun k hk=>by rw [h1 k hk]; rfl).symm
 ·rw [if_neg (by simp)]
  have hlen:s.length = pre.length + 1 + post.length:=by rw [h1]; simp; omega
  refine bY.bind (P:=fun o=>o.1.length = s.length ∧ o.2 = ((s.filter fun k=>!dead l i k).length:Int) ∧ o.1.take o.2.toNat = s.filter fun k=>!dead l i k) ?_ ?_
  ·refine bY.rounds (n:=post.length) (I:=fun k st=>k ≤ post.length ∧ st.2.2 = ((pre.length + 1 + k:Nat):Int) ∧ st.1.length = s.length ∧ st.1.drop (pre.length + 1 + k) = s.drop (pre.length + 1 + k) ∧ st.2.1 = (((s.take (pre.length + 1 + k)).filter fun k=>!dead l i k).length:Int) ∧ st.1.take st.2.1.toNat = (s.take (pre.length + 1 + k)).filter fun k=>!dead l i k) (by omega) ?_ ?_
   ·have e1:s.take (pre.length + 1) = pre ++ [x]:=by rw [h1,show pre ++ x :: post = (pre ++ [x]) ++ post by simp,List.take_left' (by simp)]
    have e2:(pre ++ [x]).filter (fun k=>!dead l i k) = pre:=by
     rw [List.filter_append,List.filter_eq_self.2 fun k hk=>by rw [h2 k hk]; rfl]
     simp [h3]
    refine ⟨Nat.zero_le _,?_,rfl,rfl,?_,?_⟩
    ·show IntKind.i64.wrap ((pre.length:Int) + 1) = _
     rw [lq (by omega) (by omega)]; push_cast; omega
    ·rw [Nat.add_zero,e1,e2]
    ·rw [Nat.add_zero,e1,e2]
     show s.take ((pre.length:Int)).toNat = pre
     rw [Int.toNat_natCast,h1,List.take_left]
   ·rintro k ⟨t,a,j⟩ hk ⟨hk',hj,hl,hd,ha,ht⟩
    simp only at hj hl hd ha ht
    subst hj
    simp only [sK,dQ]
    by_cases hc:k < post.length
    ·rw [if_pos (by simp only [decide_eq_true_eq]; omega)]
     have hjl:pre.length + 1 + k < s.length:=by omega
     obtain ⟨y,hy⟩:∃ y,s[pre.length + 1 + k] = y:=⟨_,rfl⟩
     have hty:t[pre.length + 1 + k]'(by omega) = y:=by
      have:=congrArg (fun z=>z[0]?) hd
      simp only [List.getElem?_drop,Nat.add_zero] at this
      rw [List.getElem?_eq_getElem (by omega),List.getElem?_eq_getElem hjl] at this
      rw [← hy]; exact Option.some.inj this
     have hm:y ∈ s:=by rw [← hy]; exact List.getElem_mem _
     have hmb:=h y hm
     have hix:aX t ((pre.length + 1 + k:Nat):Int) = some y:=by
      rw [ey (by omega) (by omega),iP _ _ (by omega),hty]
     rw [hix]
     simp only [Option.bind_some,oB i0 i1 hmb.1 hmb.2]
     have hts:s.take (pre.length + 1 + (k + 1)) = s.take (pre.length + 1 + k) ++ [y]:=by
      rw [show pre.length + 1 + (k + 1) = (pre.length + 1 + k) + 1 by omega,List.take_succ_eq_append_getElem hjl,hy]
     have hfl:((s.take (pre.length + 1 + k)).filter fun k=>!dead l i k).length ≤ pre.length + 1 + k:=by
      have:=List.length_filter_le (fun k=>!dead l i k) (s.take (pre.length + 1 + k))
      rw [List.length_take] at this; omega
     have hw:IntKind.i64.wrap (((pre.length + 1 + k:Nat):Int) + 1) = ((pre.length + 1 + (k + 1):Nat):Int):=by rw [lq (by omega) (by omega)]; push_cast; omega
     have hdr:t.drop (pre.length + 1 + (k + 1)) = s.drop (pre.length + 1 + (k + 1)):=by
      have:=congrArg (List.drop 1) hd
      rw [List.drop_drop,List.drop_drop] at this
      exact this
     cases hde:dead l i y
     ·simp only [Bool.not_false,if_true]
      have hat:a.toNat < t.length:=by omega
      rw [ey (by omega) (by omega)]
      simp only [Option.bind_some]
      rw [hw]
      have hlst:((s.take (pre.length + 1 + k)).filter fun k=>!dead l i k).length = a.toNat:=by omega
      refine bY.some (.inl ⟨_,rfl,⟨by omega,rfl,?_,?_,?_,?_⟩,hc⟩)
      ·simp only [List.length_set]; exact hl
      ·simp only
       rw [List.drop_set,if_pos (by omega)]; exact hdr
      ·simp only
       rw [hts,List.filter_append,List.length_append,lq (by omega) (by omega),ha]
       simp [hde]
      ·simp only
       rw [hts,List.filter_append,← ht,lq (by omega) (by omega)]
       rw [show (a + 1).toNat = a.toNat + 1 by omega,List.take_succ_eq_append_getElem (by rw [List.length_set]; exact hat)]
       rw [List.getElem_set_self,List.take_set,List.set_eq_of_length_le (by rw [List.length_take]; omega)]
       simp [hde]
     ·simp only [Bool.not_true,Bool.false_eq_true,if_false,Option.bind_some]
      rw [hw]
      refine bY.some (.inl ⟨_,rfl,⟨by omega,rfl,hl,hdr,?_,?_⟩,hc⟩)
      ·simp only
       rw [hts,List.filter_append,ha]; simp [hde]
      ·simp only
       rw [hts,List.filter_append,← ht]; simp [hde]
    ·rw [if_neg (by simp only [decide_eq_true_eq]; omega)]
     have e3:s.take (pre.length + 1 + k) = s:=List.take_of_length_le (by omega)
     rw [e3] at ha ht
     exact bY.some (.inr ⟨_,rfl,hl,ha,ht⟩)
  ·rintro ⟨t,a⟩ ⟨g1,g2,g3⟩
   simp only at g1 g2 g3
   simp only [dQ]
   have hfl:(s.filter fun k=>!dead l i k).length ≤ s.length:=List.length_filter_le _ _
   rw [sU,if_pos (by omega)]
   simp only [Option.bind_some]
   rw [mH,if_pos (by simp only [List.length_append,List.length_take,List.length_replicate]; omega)]
   refine bY.some ?_
   rw [List.take_left' (by rw [List.length_take]; omega),g3]
def eo:Nat → List bQ → List entry
 | _,[]=>[]
 | k,b :: l=>⟨k,b⟩ :: eo (k + 1) l
def iu (l:List bQ):List entry:=eo 0 l
theorem k3 (k:Nat) (b:bQ) (l:List bQ):eo k (b :: l) = ⟨k,b⟩ :: eo (k + 1) l:=rfl
theorem oL:∀ (k:Nat) (l:List bQ),(eo k l).length = l.length
 | _,[]=>rfl
 | k,b :: l=>by simp [eo,oL (k + 1) l]
theorem mu:∀ (k:Nat) (a b:List bQ),eo k (a ++ b) = eo k a ++ eo (k + a.length) b
 | k,[],b=>by simp [eo]
 | k,x :: a,b=>by
  simp only [List.cons_append,eo,mu (k + 1) a b,List.length_cons]
  rw [show k + 1 + a.length = k + (a.length + 1) by omega]
theorem iE {x:entry}:∀ {k:Nat} {l:List bQ},x ∈ eo k l ↔ ∃ j,∃ h:j < l.length,x = ⟨((k + j:Nat):Int),l[j]⟩
 | k,[]=>by simp [eo]
 | k,b :: l=>by
  rw [k3,List.mem_cons,iE (k:=k + 1) (l:=l)]
  constructor
  ·rintro (rfl | ⟨j,h,rfl⟩)
   ·exact ⟨0,by simp,rfl⟩
   ·exact ⟨j + 1,by simp; omega,by simp [show k + 1 + j = k + (j + 1) by omega]⟩
  ·rintro ⟨j,h,rfl⟩
   cases j with
   | zero=>exact .inl rfl
   | succ j=>exact .inr ⟨j,by simpa using h,by simp [show k + 1 + j = k + (j + 1) by omega]⟩
theorem lL {l:List bQ} {x:entry}:x ∈ iu l ↔ 0 ≤ x.id ∧ x.id < l.length ∧ x.b = bx l x.id:=by
 unfold iu
 rw [iE]
 constructor
 ·rintro ⟨j,h,rfl⟩
  refine ⟨by simp,by simpa using h,?_⟩
  show l[j] = idx l _
  rw [Nat.zero_add,iP _ _ h]
 ·rintro ⟨h0,h1,h2⟩
  obtain ⟨i,b⟩:=x
  simp only at h0 h1 h2
  refine ⟨i.toNat,by omega,?_⟩
  rw [h2]
  unfold bx
  obtain ⟨j,rfl⟩:∃ j:Nat,i = j:=⟨i.toNat,by omega⟩
  rw [iP _ _ (by omega)]
  simp
theorem mr:∀ (k:Nat) (l:List bQ),kn 50 (eo k l)
 | _,[]=>.nil
 | k,b :: l=>by
  rw [k3]
  refine List.pairwise_cons.2 ⟨fun z hz=>?_,mr (k + 1) l⟩
  obtain ⟨j,h,rfl⟩:=iE.1 hz
  rw [gz]
  show (k:Int) < ((k + 1 + j:Nat):Int)
  omega
theorem lK (l:List bQ):kn 50 (iu l):=mr 0 l
theorem kj {p:A2}:∀ {L:List entry},kn 50 L → (p ∈ eK L ↔ ∃ x ∈ L,∃ y ∈ L,x.id < y.id ∧ mB x.b y.b = true ∧ p = ⟨x.id,y.id⟩)
 | [],_=>by simp [eK]
 | z :: l,h=>by
  have h1:=List.pairwise_cons.1 h
  rw [k6,List.mem_append,kj h1.2]
  constructor
  ·rintro (hp | ⟨x,hx,y,hy,h2⟩)
   ·obtain ⟨y,hy,rfl⟩:=List.mem_map.1 hp
    rw [List.mem_filter] at hy
    exact ⟨z,by simp,y,by simp [hy.1],(gz _ _).1 (h1.1 y hy.1),hy.2,rfl⟩
   ·exact ⟨x,by simp [hx],y,by simp [hy],h2⟩
  ·rintro ⟨x,hx,y,hy,h2,h3,rfl⟩
   rcases List.mem_cons.1 hx with rfl | hx
   ·rcases List.mem_cons.1 hy with rfl | hy
    ·omega
    ·exact .inl (List.mem_map.2 ⟨y,List.mem_filter.2 ⟨hy,h3⟩,rfl⟩)
   ·rcases List.mem_cons.1 hy with h5 | hy
    ·have:=(gz _ _).1 (h1.1 x hx); rw [h5] at h2; omega
    ·exact .inr ⟨x,hx,y,hy,h2,h3,rfl⟩
def ltP (a b:A2):Prop:=a.a0 < b.a0 ∨ (a.a0 = b.a0 ∧ a.a1 < b.a1)
theorem lM:∀ {L:List entry},kn 50 L → (eK L).Pairwise ltP
 | [],_=>.nil
 | z :: l,h=>by
  have h1:=List.pairwise_cons.1 h
  rw [k6,List.pairwise_append]
  refine ⟨?_,lM h1.2,?_⟩
  ·rw [List.pairwise_map]
   refine (h1.2.filter _).imp fun h=>.inr ⟨rfl,(gz _ _).1 h⟩
  ·intro a ha b hb
   obtain ⟨y,hy,rfl⟩:=List.mem_map.1 ha
   obtain ⟨x,hx,w,_,_,_,rfl⟩:=(kj h1.2).1 hb
   exact .inl ((gz _ _).1 (h1.1 x hx))
theorem qD {L:List entry} (h:kn 50 L):(eK L).Nodup:=(lM h).imp fun h e=>by subst e; unfold ltP at h; omega
theorem ug {out m:List A2} (hp:out.Perm m) (hm:m.Pairwise ltP):isA out = m :=
 List.Perm.eq_of_pairwise (fun a b _ _ h1 h2=>p6 h1 h2) (qR out) (hm.imp fun h=>(m' _ _).2 (by unfold ltP at h; omega)) ((nD out).trans hp)
theorem qz {l:List bQ} (hl:l.length < 1900):cm 20000 l 41 = some (l.any fun b=>!vB b):=by
 refine bY.eq ?_
 unfold cm dC
 refine bY.bind (P:=fun r=>decide (0 ≤ r) = l.any fun b=>!vB b) ?_ (fun r hr=>bY.some hr)
 refine bY.bind (P:=fun o=>(o = .inl () ∧ ∀ b ∈ l,vB b = true) ∨ ∃ i:Int,o = .inr i ∧ 0 ≤ i ∧ ∃ b ∈ l,vB b = false) ?_ ?_
 ·refine bY.ea1 (l:=l) (I:=fun pre=>∀ b ∈ pre,vB b = true) (by omega) (by omega) (by simp) (fun pre x post e hx hI=>?_) (fun hI=>.inl ⟨rfl,hI⟩)
  rw [hx]
  simp only [Option.bind_some,iz,ez,if_true,pP]
  cases hv:vB x
  ·exact bY.some (.inr ⟨_,rfl,.inr ⟨_,rfl,by omega,x,by rw [e]; simp,hv⟩⟩)
  ·refine bY.some (.inl ⟨rfl,fun b hb=>?_⟩)
   rcases List.mem_append.1 hb with hb | hb
   ·exact hI b hb
   ·rw [List.mem_singleton] at hb; subst hb; exact hv
 ·rintro o (⟨rfl,h⟩ | ⟨i,rfl,h0,b,hb,hv⟩)
  ·refine bY.some ?_
   symm
   rw [show decide ((0:Int) ≤ -1) = false from rfl,List.any_eq_false]
   intro b hb; simp [h b hb]
  ·refine bY.some ?_
   symm
   rw [decide_eq_true h0,List.any_eq_true]
   exact ⟨b,hb,by simp [hv]⟩
def up (n:Nat):List Int:=(List.range n).map fun k:Nat=>(k:Int)
theorem s8 {n:Nat} {k:Int}:k ∈ up n ↔ 0 ≤ k ∧ k < n:=by
 unfold up
 rw [List.mem_map]
 constructor
 ·rintro ⟨j,hj,rfl⟩
  rw [List.mem_range] at hj; omega
 ·intro h
  exact ⟨k.toNat,by rw [List.mem_range]; omega,by omega⟩
theorem up_succ (n:Nat):up (n + 1) = up n ++ [(n:Int)]:=by unfold up; rw [List.range_succ,List.map_append]; rfl
theorem s9 (n:Nat):(up n).length = n:=by unfold up; simp
theorem tN (n:Nat):(up n).Nodup:=by
 unfold up
 rw [List.Nodup,List.pairwise_map]
 exact List.nodup_range.imp fun h=>by omega
theorem fill_ok (n:Nat) (hn:n < 1900):iter 20000 (dQ fun order_4 x_5=>if (decide (x_5 < ((List.replicate n (0:Int)).length:Int))) = true then (Option.bind (aX order_4 x_5) (fun x_7=>some (.inl (order_4.set (x_5:Int).toNat x_5,IntKind.i64.wrap (x_5 + 1))))) else (some (.inr order_4))) (List.replicate n (0:Int),0) = some (up n):=by
 refine bY.eq ?_
 refine bY.ea2 (l:=List.replicate n (0:Int)) (G:=fun a=>a) (I:=fun pre a=>a = up pre.length ++ List.replicate (n - pre.length) 0) (by simp; omega) (by simp; omega) (by simp [up]) (fun pre x post a e hx hI=>?_) (fun a hI=>?_)
 ·have hal:n = pre.length + 1 + post.length:=by
   have:=congrArg List.length e
   simp at this; omega
  have hul:=s9 pre.length
  subst hI
  rw [ey (by omega) (by simp only [List.length_append,hul,List.length_replicate]; omega)]
  simp only [Option.bind_some,Int.toNat_natCast]
  refine bY.some (.inl ⟨_,rfl,?_⟩)
  rw [List.length_append,List.length_singleton,up_succ,List.set_append_right _ _ (by omega),hul,Nat.sub_self]
  rw [show n - pre.length = (n - (pre.length + 1)) + 1 by omega,List.replicate_succ,List.set_cons_zero]
  simp
 ·rw [hI]; simp
def rA (i k:Int):A2:=⟨min i k,max i k⟩
structure Swp (l:List bQ) (pre active:List Int) (out:List A2):Prop where
 sub:∀ k ∈ active,k ∈ pre
 nd:active.Nodup
 gone:∀ k ∈ pre,k ∉ active → ∃ m ∈ pre,(bx l k).Hi.a0 < (bx l m).Lo.a0
 ond:out.Nodup
 om:∀ p,p ∈ out ↔ ∃ i ∈ pre,∃ k ∈ pre,i < k ∧ mB (bx l i) (bx l k) = true ∧ p = ⟨i,k⟩
theorem mB_lo {a b:bQ} (h:mB a b = true):b.Lo.a0 ≤ a.Hi.a0:=((np a b).1 h).1
theorem prP_inj {i k m:Int} (hk:k ≠ i) (hm:m ≠ i) (h:rA i k = rA i m):k = m:=by
 unfold rA at h
 simp only [A2.mk.injEq] at h
 omega
theorem tR {l:List bQ} {pre active:List Int} {out:List A2} (h:Swp l pre active out) {i:Int} (hi:i ∉ pre) (hs:∀ m ∈ pre,(bx l m).Lo.a0 ≤ (bx l i).Lo.a0) :
  Swp l (pre ++ [i]) ((active.filter fun k=>!dead l i k) ++ [i]) (out ++ ((active.filter fun k=>!dead l i k).filter fun k=>mB (bx l i) (bx l k)).map (rA i)):=by
 have hne:∀ k ∈ active,k ≠ i:=fun k hk e=>hi (e ▸ h.sub k hk)
 refine ⟨?_,?_,?_,?_,?_⟩
 ·intro k hk
  rcases List.mem_append.1 hk with hk | hk
  ·exact List.mem_append.2 (.inl (h.sub k (List.mem_filter.1 hk).1))
  ·exact List.mem_append.2 (.inr hk)
 ·rw [List.nodup_append]
  refine ⟨h.nd.filter _,by simp,?_⟩
  intro a ha b hb
  rw [List.mem_singleton] at hb; subst hb
  exact hne a (List.mem_filter.1 ha).1
 ·intro k hk hna
  rw [List.mem_append,not_or] at hna
  rcases List.mem_append.1 hk with hk | hk
  ·by_cases ha:k ∈ active
   ·refine ⟨i,by simp,?_⟩
    have h1:dead l i k = true:=by
     cases hd:dead l i k
     ·exact absurd (List.mem_filter.2 ⟨ha,by simp [hd]⟩) hna.1
     ·rfl
    simpa [dead] using h1
   ·obtain ⟨m,hm,h2⟩:=h.gone k hk ha
    exact ⟨m,by simp [hm],h2⟩
  ·exact absurd hk hna.2
 ·rw [List.nodup_append]
  refine ⟨h.ond,?_,?_⟩
  ·rw [List.Nodup,List.pairwise_map]
   refine List.Pairwise.imp_of_mem (fun {a b} ha hb hab=>?_) ((h.nd.filter fun k=>!dead l i k).filter fun k=>mB (bx l i) (bx l k))
   have ha':=hne a (List.mem_filter.1 (List.mem_filter.1 ha).1).1
   have hb':=hne b (List.mem_filter.1 (List.mem_filter.1 hb).1).1
   exact fun e=>hab (prP_inj ha' hb' e)
  ·intro p hp q hq e
   subst e
   obtain ⟨a,ha,b,hb,_,_,rfl⟩:=(h.om _).1 hp
   obtain ⟨k,hk,e⟩:=List.mem_map.1 hq
   unfold rA at e
   simp only [A2.mk.injEq] at e
   have:i = a ∨ i = b:=by omega
   rcases this with rfl | rfl
   ·exact hi ha
   ·exact hi hb
 ·intro p
  rw [List.mem_append,h.om,List.mem_map]
  constructor
  ·rintro (⟨a,ha,b,hb,h1⟩ | ⟨k,hk,rfl⟩)
   ·exact ⟨a,by simp [ha],b,by simp [hb],h1⟩
   ·rw [List.mem_filter,List.mem_filter] at hk
    have hkp:=h.sub k hk.1.1
    have hki:=hne k hk.1.1
    by_cases hlt:i < k
    ·exact ⟨i,by simp,k,by simp [hkp],hlt,hk.2,by unfold rA; simp only [A2.mk.injEq]; omega⟩
    ·exact ⟨k,by simp [hkp],i,by simp,by omega,by rw [pd]; exact hk.2,by unfold rA; simp only [A2.mk.injEq]; omega⟩
  ·rintro ⟨a,ha,b,hb,h1,h2,rfl⟩
   have key:∀ k,k ∈ pre → mB (bx l i) (bx l k) = true → ∃ z,z ∈ (active.filter fun k=>!dead l i k).filter (fun k=>mB (bx l i) (bx l k)) ∧ rA i z = rA i k:=by
    intro k hk hm
    have hlo:=mB_lo (a:=bx l k) (b:=bx l i) (by rw [pd]; exact hm)
    have hact:k ∈ active:=by
     by_cases hc:k ∈ active
     ·exact hc
     ·obtain ⟨m,hm1,hm2⟩:=h.gone k hk hc
      have:=hs m hm1
      omega
    refine ⟨k,List.mem_filter.2 ⟨List.mem_filter.2 ⟨hact,?_⟩,hm⟩,rfl⟩
    simp [dead]; omega
   rcases List.mem_append.1 ha with ha1 | ha1 <;> rcases List.mem_append.1 hb with hb1 | hb1
   ·exact .inl ⟨a,ha1,b,hb1,h1,h2,rfl⟩
   ·rw [List.mem_singleton] at hb1; subst hb1
    obtain ⟨z,hz,e⟩:=key a ha1 (by rw [pd]; exact h2)
    refine .inr ⟨z,hz,e.trans ?_⟩
    unfold rA; simp only [A2.mk.injEq]; omega
   ·rw [List.mem_singleton] at ha1; subst ha1
    obtain ⟨z,hz,e⟩:=key b hb1 h2
    refine .inr ⟨z,hz,e.trans ?_⟩
    unfold rA; simp only [A2.mk.injEq]; omega
   ·rw [List.mem_singleton] at ha1 hb1; omega
theorem uv (l:List bQ) (hl:l.length < 1000):cI 20000 l = some (if (l.any fun b=>!vB b) = true then ([],1) else (eK (iu l),0)):=by
 refine bY.eq ?_
 unfold cI
 refine bY.pM (qz (by omega)) ?_
 cases hv:l.any fun b=>!vB b
 ·rw [if_neg (by decide),if_neg (by decide)]
  refine bY.pM (x:=List.replicate l.length (0:Int)) (by rw [mk?,if_pos (by omega),Int.toNat_natCast]) ?_
  refine bY.pM (fill_ok l.length (by omega)) ?_
  have hup:=s9 l.length
  obtain ⟨hsp,hso⟩:=sq (gi l) (up l.length)
  refine bY.pM (x:=fX (fun x y=>decide (gi l x < gi l y)) (up l.length)) ?_ ?_
  ·have hall:(up l.length).all (fun z=>decide (0 ≤ z ∧ z < (l.length:Int))) = true:=by
    rw [List.all_eq_true]
    intro k hk
    simpa using s8.1 hk
   unfold dP
   rw [if_pos ⟨by omega,by omega,hall⟩]
  generalize fX (fun x y=>decide (gi l x < gi l y)) (up l.length) = xs at hsp hso
  have hxl:xs.length = l.length:=by rw [hsp.length_eq,hup]
  have hxm:∀ k,k ∈ xs ↔ 0 ≤ k ∧ k < l.length:=fun k=>by rw [hsp.mem_iff,s8]
  have hxn:xs.Nodup:=hsp.nodup_iff.2 (tN _)
  refine bY.bind (P:=fun out=>out.Perm (eK (iu l)) ∧ out.length < 1000000000) ?_ ?_
  ·refine bY.ea3 (l:=xs) (G:=fun _ b=>b) (I:=fun pre a b=>Swp l pre a b ∧ a.length ≤ pre.length ∧ b.length ≤ pre.length * 1000) (by omega) (by omega) ⟨⟨by simp,by simp,by simp,by simp,by simp⟩,by simp,by simp⟩ (fun pre i post a b e hx hI=>?_) (fun a b hI=>?_)
   ·obtain ⟨hI,hla,hlb⟩:=hI
    have him:=(hxm i).1 (by rw [e]; simp)
    have hpl:xs.length = pre.length + 1 + post.length:=by rw [e]; simp; omega
    have hpm:∀ k ∈ pre,0 ≤ k ∧ k < l.length:=fun k hk=>(hxm k).1 (by rw [e]; simp [hk])
    have hpi:i ∉ pre:=by
     intro hc
     rw [e] at hxn
     exact (List.nodup_append.1 hxn).2.2 i hc i (by simp) rfl
    have hps:∀ m ∈ pre,(bx l m).Lo.a0 ≤ (bx l i).Lo.a0:=by
     intro m hm
     rw [e] at hso
     have:=(List.pairwise_append.1 hso).2.2 m hm i (by simp)
     rw [sa (hpm m hm).1 (hpm m hm).2,sa him.1 him.2] at this
     exact this
    have hst:=tR hI hpi hps
    have hfl:(a.filter fun k=>!dead l i k).length ≤ a.length:=List.length_filter_le _ _
    have ham:∀ k ∈ a.filter (fun k=>!dead l i k),0 ≤ k ∧ k < l.length:=fun k hk=>hpm k (hI.sub k (List.mem_filter.1 hk).1)
    rw [hx]
    simp only [Option.bind_some]
    rw [sF (by omega) him.1 him.2 fun k hk=>hpm k (hI.sub k hk)]
    simp only [Option.bind_some]
    generalize hd:a.filter (fun k=>!dead l i k) = d at *
    obtain ⟨o,ho,ho2⟩:bY (iter 20000 (dQ fun out_19 x_20=>if (decide (x_20 < (d.length:Int))) = true then (Option.bind (Option.bind (aX d x_20) (fun x_23=>Option.bind (aX l i) (fun x_24=>Option.bind (aX l x_23) (fun x_25=>Option.bind (b8 20000 x_24 x_25) (fun x_26=>if x_26 = true then (Option.bind (kM out_19 [(⟨min i x_23,max i x_23⟩:A2)]) (fun x_27=>some x_27)) else (some out_19)))))) (fun out_22=>some (.inl (out_22,IntKind.i64.wrap (x_20 + 1))))) else (some (.inr out_19))) (b,0)) fun o=>o = b ++ (d.filter fun k=>mB (bx l i) (bx l k)).map (rA i):=by
     refine bY.ea2 (l:=d) (G:=fun c=>c) (I:=fun p c=>c = b ++ (p.filter fun k=>mB (bx l i) (bx l k)).map (rA i)) (by omega) (by omega) (by simp) (fun p k po c e' hx' hI'=>?_) (fun c hc=>hc)
     have hkm:=ham k (by rw [e']; simp)
     rw [hx',ey him.1 him.2]
     simp only [Option.bind_some]
     rw [ey hkm.1 hkm.2]
     simp only [Option.bind_some,meet_eq]
     have hcl:c.length ≤ b.length + p.length:=by
      rw [hI',List.length_append,List.length_map]
      have:=List.length_filter_le (fun k=>mB (bx l i) (bx l k)) p
      omega
     have hdl:d.length = p.length + 1 + po.length:=by rw [e']; simp; omega
     by_cases hc:mB (bx l i) (bx l k) = true
     ·rw [if_pos (show mB (idx l i) (idx l k) = true from hc),kM,if_pos (by simp only [List.length_cons,List.length_nil]; omega)]
      exact ⟨_,rfl,.inl ⟨_,rfl,by rw [hI',List.filter_append]; simp [hc,rA]⟩⟩
     ·rw [if_neg (show ¬ mB (idx l i) (idx l k) = true from hc)]
      exact ⟨_,rfl,.inl ⟨_,rfl,by rw [hI',List.filter_append]; simp [hc]⟩⟩
    rw [ho]
    simp only [Option.bind_some]
    rw [kM,if_pos (by simp only [List.length_cons,List.length_nil]; omega)]
    subst ho2
    refine ⟨_,rfl,.inl ⟨_,_,rfl,hst,by simp; omega,?_⟩⟩
    rw [List.length_append,List.length_append,List.length_map,List.length_singleton]
    have:=List.length_filter_le (fun k=>mB (bx l i) (bx l k)) d
    omega
   ·obtain ⟨hI,hla,hlb⟩:=hI
    refine ⟨?_,by omega⟩
    rw [List.perm_ext_iff_of_nodup hI.ond (qD (lK l))]
    intro p
    rw [hI.om,kj (lK l)]
    constructor
    ·rintro ⟨i,hi,k,hk,h1,h2,rfl⟩
     have a1:=(hxm i).1 hi; have a2:=(hxm k).1 hk
     exact ⟨⟨i,bx l i⟩,lL.2 ⟨a1.1,a1.2,rfl⟩,⟨k,bx l k⟩,lL.2 ⟨a2.1,a2.2,rfl⟩,h1,h2,rfl⟩
    ·rintro ⟨x,hx,y,hy,h1,h2,rfl⟩
     obtain ⟨x1,x2,x3⟩:=lL.1 hx
     obtain ⟨y1,y2,y3⟩:=lL.1 hy
     exact ⟨x.id,(hxm _).2 ⟨x1,x2⟩,y.id,(hxm _).2 ⟨y1,y2⟩,h1,by rw [← x3,← y3]; exact h2,rfl⟩
  ·rintro out ⟨h1,h2⟩
   unfold c3
   rw [pS]
   unfold sV
   rw [if_pos h2,ug h1 (lM (lK l))]
   exact bY.some rfl
 ·rw [if_pos rfl,if_pos rfl]
  exact bY.some rfl
theorem any_all (l:List bQ):(l.any fun b=>!vB b) = !l.all vB:=by rw [List.not_all_eq_any_not]
theorem ur (a b:bQ) (ha:vB a = true) (hb:vB b = true) {l:List bQ} {i k:Int} (hi:aX l i = some a) (hk:aX l k = some b) :
  iter 20000 (dQ fun apart_15 n_16=>if (decide (n_16 < 3)) = true then (Option.bind (a6 (!apart_15) (aX l i)) (fun x_18=>Option.bind (a6 (!apart_15) (aX x_18.Lo.l n_16)) (fun x_19=>Option.bind (a6 (!apart_15) (aX l k)) (fun x_20=>Option.bind (a6 (!apart_15) (aX x_20.Lo.l n_16)) (fun x_21=>Option.bind (a6 (!apart_15) (aX l i)) (fun x_22=>Option.bind (a6 (!apart_15) (aX x_22.Hi.l n_16)) (fun x_23=>Option.bind (a6 (!apart_15) (aX l k)) (fun x_24=>Option.bind (a6 (!apart_15) (aX x_24.Hi.l n_16)) (fun x_25=>some (.inl (apart_15 || (decide ((min x_23 x_25) < (max x_19 x_21))),IntKind.i64.wrap (n_16 + 1)))))))))))) else (some (.inr apart_15))) (false,0) = some (!mB a b):=by
 have va:=(s7 a).1 ha
 have vb:=(s7 b).1 hb
 rw [hi,hk]
 have hm:(!mB a b) = decide (min a.Hi.a0 b.Hi.a0 < max a.Lo.a0 b.Lo.a0 ∨ min a.Hi.a1 b.Hi.a1 < max a.Lo.a1 b.Lo.a1 ∨ min a.Hi.a2 b.Hi.a2 < max a.Lo.a2 b.Lo.a2):=by
  by_cases hm:mB a b = true
  ·rw [hm]
   rw [np] at hm
   exact (decide_eq_false (by omega)).symm
  ·rw [Bool.not_eq_true] at hm
   rw [hm]
   have hm':¬ mB a b = true:=by rw [hm]; decide
   rw [np] at hm'
   exact (decide_eq_true (by omega)).symm
 rw [hm]
 obtain ⟨⟨al0,al1,al2⟩,⟨ah0,ah1,ah2⟩⟩:=a
 obtain ⟨⟨bl0,bl1,bl2⟩,⟨bh0,bh1,bh2⟩⟩:=b
 have st:∀ (x:Bool) (p q r s:Int) (K:Bool → Option (Bool × Int ⊕ Bool)),((a6 (!x) (some (⟨⟨al0,al1,al2⟩,⟨ah0,ah1,ah2⟩⟩:bQ))).bind fun _=>(a6 (!x) (some p)).bind fun x1=>(a6 (!x) (some q)).bind fun x2=>(a6 (!x) (some r)).bind fun x3=>(a6 (!x) (some s)).bind fun x4=>K (x || decide (min x3 x4 < max x1 x2))) = K (x || decide (min r s < max p q)):=by
  intro x p q r s K
  cases x <;> rfl
 refine bY.eq ?_
 refine bY.rounds (n:=3) (I:=fun k s=>k ≤ 3 ∧ s.2 = (k:Int) ∧ s.1 = decide ((0 < k ∧ min ah0 bh0 < max al0 bl0) ∨ (1 < k ∧ min ah1 bh1 < max al1 bl1) ∨ (2 < k ∧ min ah2 bh2 < max al2 bl2))) (by omega) ⟨by omega,rfl,by simp⟩ ?_
 rintro k ⟨s,i⟩ hk ⟨hk',hi,hs⟩
 simp only at hi hs
 subst hi
 obtain rfl | rfl | rfl | rfl:k = 0 ∨ k = 1 ∨ k = 2 ∨ k = 3:=by omega
 ·refine ⟨.inl (s || decide (min ah0 bh0 < max al0 bl0),1),?_,.inl ⟨_,rfl,⟨by omega,rfl,?_⟩,by omega⟩⟩
  ·cases s <;> rfl
  ·rw [hs]; simp
 ·refine ⟨.inl (s || decide (min ah1 bh1 < max al1 bl1),2),?_,.inl ⟨_,rfl,⟨by omega,rfl,?_⟩,by omega⟩⟩
  ·cases s <;> rfl
  ·rw [hs]; simp
 ·refine ⟨.inl (s || decide (min ah2 bh2 < max al2 bl2),3),?_,.inl ⟨_,rfl,⟨by omega,rfl,?_⟩,by omega⟩⟩
  ·cases s <;> rfl
  ·rw [hs,Bool.eq_iff_iff]; simp; omega
 ·refine ⟨.inr s,rfl,.inr ⟨_,rfl,?_⟩⟩
  rw [hs]; simp
theorem tZ {E D rest:List A2} {p:A2} {m:Bool} (hE:E = D ++ ((if m = true then [p] else []) ++ rest)) (hr:∀ r ∈ rest,r ≠ p) (hl:E.length ≤ 20000) :
  (Option.bind (a6 (decide ((D.length:Int) < (E.length:Int))) (aX E (D.length:Int))) (fun x_26=>eC ((decide ((D.length:Int) < (E.length:Int))) && (decide (x_26 = p))) fun x_27=>(if (x_27 == (!m)) = true then (some (.inr false)) else (if x_27 = true then (some (.inl (IntKind.i64.wrap ((D.length:Int) + 1)))) else (some (.inl (D.length:Int)))):Option (Int ⊕ Bool)))) = some (.inl ((D ++ (if m = true then [p] else [])).length:Int)):=by
 cases m
 ·simp only [Bool.false_eq_true,if_false,List.nil_append,List.append_nil] at hE ⊢
  cases rest with
  | nil=>
   have:E.length = D.length:=by rw [hE]; simp
   rw [decide_eq_false (by omega)]
   rfl
  | cons r rest=>
   have hlen:E.length = D.length + 1 + rest.length:=by rw [hE]; simp; omega
   rw [decide_eq_true (by omega),hE,r4]
   simp only [a6,if_true,Option.bind_some,eC,Bool.true_and,decide_eq_false (hr r (by simp))]
   rfl
 ·simp only [if_true,List.singleton_append] at hE ⊢
  have hlen:E.length = D.length + 1 + rest.length:=by rw [hE]; simp; omega
  rw [decide_eq_true (by omega),hE,r4]
  simp only [a6,if_true,Option.bind_some,eC,Bool.true_and,decide_true,Bool.not_true]
  rw [lq (by omega) (by omega)]
  simp
theorem pt (l:List bQ):bd 20000 l = some true:=by
 unfold bd
 by_cases h:120 < (l.length:Int)
 ·rw [if_pos (by simpa using h),l9]; rfl
 ·rw [if_neg (by simpa using h),uv l (by omega)]
  simp only [Option.bind_some]
  by_cases hv:(l.any fun b=>!vB b) = true
  ·rw [if_pos hv]
   simp only [dQ,show decide ((1:Int) ≠ 0) = true from rfl,if_true,l9,Option.bind_some]
   rfl
  ·rw [if_neg hv]
   have hall:∀ b ∈ l,vB b = true:=by
    rw [any_all] at hv
    simpa using hv
   simp only [dQ,show decide ((0:Int) ≠ 0) = false from rfl,Bool.false_eq_true,if_false]
   have hbl:(eK (iu l)).length ≤ 14400:=by
    have h1:=oO (iu l)
    have h2:(iu l).length = l.length:=oL 0 l
    have:(iu l).length * (iu l).length ≤ 120 * 120:=Nat.mul_le_mul (by omega) (by omega)
    omega
   have hbp:=lM (lK l)
   refine bY.eq ?_
   refine bY.bind (P:=fun o=>o = .inl ((eK (iu l)).length:Int)) ?_ ?_
   ·refine bY.ea2 (l:=l) (G:=fun a=>(.inl a:Int ⊕ Bool)) (I:=fun pre at'=>∃ q d,l = pre ++ q ∧ d ++ eK (eo pre.length q) = eK (iu l) ∧ at' = (d.length:Int)) (by omega) (by omega) ⟨l,[],rfl,rfl,rfl⟩ (fun pre z post at' e hx hI=>?_) (fun at' hI=>?_)
    ·obtain ⟨q,d,h1,h2,rfl⟩:=hI
     have hq:q = z :: post:=List.append_cancel_left (h1.symm.trans e)
     subst hq
     rw [k3,k6] at h2
     have hpl:l.length = pre.length + 1 + post.length:=by rw [e]; simp; omega
     let W:List bQ → Nat → List A2:=fun p n=>((eo n p).filter fun y=>mB z y.b).map fun y=>(⟨(pre.length:Int),y.id⟩:A2)
     refine bY.bind (P:=fun o=>o = .inl ((d ++ W post (pre.length + 1)).length:Int)) ?_ ?_
     ·refine bY.bind (P:=fun o=>o = .inl ((d ++ W post (pre.length + 1)).length:Int)) ?_ (by rintro _ rfl; exact bY.some rfl)
      refine ea2f (l:=l) (P:=pre ++ [z]) (R:=post) (by rw [e]; simp) (G:=fun a=>(.inl a:Int ⊕ Bool)) (I:=fun p at'=>∃ r,post = p ++ r ∧ at' = ((d ++ W p (pre.length + 1)).length:Int)) (by omega) (by omega) ⟨post,rfl,by simp [W,eo]⟩ (fun p y po at' e' hx' hI'=>?_) (fun at' hI'=>?_) (by rw [lq (by omega) (by omega)]; simp)
      ·obtain ⟨r,h3,rfl⟩:=hI'
       have hr:r = y :: po:=List.append_cancel_left (h3.symm.trans e')
       subst hr
       have hz:vB z = true:=hall z (by rw [e]; simp)
       have hy:vB y = true:=hall y (by rw [e,e']; simp)
       have hap:=ur z y hz hy hx hx'
       have hE:eK (iu l) = (d ++ W p (pre.length + 1)) ++ ((if mB z y = true then [(⟨(pre.length:Int),((pre.length + 1 + p.length:Nat):Int)⟩:A2)] else []) ++ (W po (pre.length + 1 + p.length + 1) ++ eK (eo (pre.length + 1) post))):=by
        rw [← h2,e',mu,List.filter_append,List.map_append]
        simp only [eo,List.filter_cons,List.append_assoc,W]
        split <;> simp
       have hWl:(d ++ W p (pre.length + 1)).length ≤ (eK (iu l)).length:=by rw [hE]; simp only [List.length_append]; omega
       have hpp:((pre ++ [z]).length + p.length:Nat) = pre.length + 1 + p.length:=by simp
       refine bY.bind (P:=fun o=>o = .inl ((d ++ W (p ++ [y]) (pre.length + 1)).length:Int)) ?_ ?_
       ·have hW2:W (p ++ [y]) (pre.length + 1) = W p (pre.length + 1) ++ (if mB z y = true then [(⟨(pre.length:Int),((pre.length + 1 + p.length:Nat):Int)⟩:A2)] else []):=by
         show ((eo (pre.length + 1) (p ++ [y])).filter _).map _ = _
         rw [mu,List.filter_append,List.map_append]
         congr 1
         simp only [eo,List.filter_cons,List.filter_nil]
         split <;> simp_all
        refine bY.pM hap ?_
        rw [hpp,hW2]
        rw [← List.append_assoc]
        generalize d ++ W p (pre.length + 1) = D at hE hWl
        refine bY.of (tZ hE (fun r hr=>?_) (by omega))
        rcases List.mem_append.1 hr with hr | hr
        ·obtain ⟨u,hu,rfl⟩:=List.mem_map.1 hr
         obtain ⟨j,hj,rfl⟩:=iE.1 (List.mem_filter.1 hu).1
         simp only [ne_eq,A2.mk.injEq]; omega
        ·obtain ⟨u,hu,w,_,_,_,rfl⟩:=(kj (mr _ _)).1 hr
         obtain ⟨j,hj,rfl⟩:=iE.1 hu
         simp only [ne_eq,A2.mk.injEq]; omega
       ·rintro _ rfl
        rw [hpp]
        exact bY.some (.inl ⟨_,rfl,po,by rw [e']; simp,rfl⟩)
      ·obtain ⟨r,h3,rfl⟩:=hI'
       rfl
     ·rintro _ rfl
      refine bY.some (.inl ⟨_,rfl,post,d ++ W post (pre.length + 1),by rw [e]; simp,?_,rfl⟩)
      rw [← h2,List.append_assoc,List.length_append,List.length_singleton]
    ·obtain ⟨q,d,h1,h2,rfl⟩:=hI
     have:q = []:=by
      have:=congrArg List.length h1
      simp only [List.length_append] at this
      exact List.length_eq_zero_iff.1 (by omega)
     subst this
     simp only [eo,eK,List.append_nil] at h2
     rw [h2]
   ·rintro _ rfl
    simp only [b5,l9,Option.bind_some]
    exact bY.some (by simp)
def Hol (s:c6) (M:List entry):Prop:=∃ L,jA s L ∧ L.Perm M
theorem Hol.put {s:c6} {M:List entry} (h:Hol s M) (hM:M.length < 900) {id:Int} {b:bQ} (hv:vB b = true) (hn:∀ x ∈ M,x.id ≠ id) :
  ∃ s',bV 20000 s id b = some (s',0) ∧ Hol s' (⟨id,b⟩ :: M):=by
 obtain ⟨L,h1,h2⟩:=h
 obtain ⟨s',e,h3,h4⟩:=Put_ok h1 (by rw [h2.length_eq]; omega) id b
 rcases h4 with ⟨h4,_⟩ | ⟨_,⟨x,hx,h4⟩,_⟩ | ⟨_,_,rfl,h4⟩
 ·rw [hv] at h4; cases h4
 ·exact absurd h4 (hn x (h2.mem_iff.1 hx))
 ·exact ⟨s',h3,_,h4,(iD _ _).trans (h2.cons _)⟩
theorem Hol.del {s:c6} {M:List entry} {x:entry} (h:Hol s (x :: M)) (hM:M.length < 900) :
  ∃ s',bX 20000 s x.id = some (s',0) ∧ Hol s' M:=by
 obtain ⟨L,h1,h2⟩:=h
 obtain ⟨s',e,h3,h4⟩:=sJ h1 (by rw [h2.length_eq]; simp; omega) x.id
 have hx:x ∈ L:=h2.mem_iff.2 (by simp)
 rcases h4 with ⟨h4,_⟩ | ⟨_,rfl,h4⟩
 ·exact absurd rfl (h4 x hx)
 ·exact ⟨s',h3,_,h4,List.perm_cons x |>.1 ((oM h1.s1 hx).trans h2)⟩
theorem Hol.eq {s:c6} {M:List entry} (h:Hol s M) (hs:kn 50 M):jA s M:=by
 obtain ⟨L,h1,h2⟩:=h
 rw [← qM h1.s1 hs h2]; exact h1
end Go.Proofs.YtagpkeehkcopaaaGreat
namespace Go.Proofs.YtagpkeehkcopaaaGreat
open Go Go.Sk
theorem pv (x0:List bQ):ao Tryz.prog [] 5 [] [.one (.sl 6 (x0.map ak))] (Is [] (.b (.one (.bool true)))) :=
 dN (pt x0)
end Go.Proofs.YtagpkeehkcopaaaGreat
