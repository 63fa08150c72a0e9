/- the plain law -/
import Derived.Test.YtagpkeehkcopaaaGreatW2
import Derived.Sort.AssemblyPlain
namespace Go.Proofs.YtagpkeehkcopaaaGreat
open Go Go.Sk
set_option maxRecDepth 100000
set_option linter.unusedVariables false
set_option linter.unusedSimpArgs false
def qH (x:Int):List Int → List Int
 | []=>[x]
 | y :: l=>if x ≤ y then x :: y :: l else y :: qH x l
def ou:List Int → List Int
 | []=>[]
 | x :: l=>qH x (ou l)
theorem mg (x:Int):∀ l:List Int,(qH x l).Perm (x :: l)
 | []=>.refl _
 | y :: l=>by
  unfold qH
  split
  ·exact .refl _
  ·exact .trans (.cons y (mg x l)) (.swap x y l)
theorem nS:∀ l:List Int,(ou l).Perm l
 | []=>.refl _
 | x :: l=>(mg x (ou l)).trans (.cons x (nS l))
theorem rZ (x:Int):∀ l:List Int,l.Pairwise (· ≤ ·) → (qH x l).Pairwise (· ≤ ·)
 | [],_=>by simp [qH]
 | y :: l,h=>by
  unfold qH
  have h1:=List.pairwise_cons.1 h
  split
  ·next hc=>
   refine List.pairwise_cons.2 ⟨fun z hz=>?_,h⟩
   rcases List.mem_cons.1 hz with rfl | hz
   ·exact hc
   ·exact Int.le_trans hc (h1.1 z hz)
  ·next hc=>
   refine List.pairwise_cons.2 ⟨fun z hz=>?_,rZ x l h1.2⟩
   rcases List.mem_cons.1 ((mg x l).mem_iff.1 hz) with rfl | hz
   ·omega
   ·exact h1.1 z hz
theorem p7:∀ l:List Int,(ou l).Pairwise (· ≤ ·)
 | []=>.nil
 | x :: l=>rZ x _ (p7 l)
theorem sorted_perm (l:List Int):(sorted l).Perm l:=List.mergeSort_perm _ _
theorem sj (l:List Int):(sorted l).Pairwise (· ≤ ·) :=
 (List.pairwise_mergeSort (le:=fun x y:Int=>decide (x ≤ y)) (fun a b c h1 h2=>by simp only [decide_eq_true_eq] at *; omega) (fun a b=>by simp only [Bool.or_eq_true,decide_eq_true_eq]; omega) l).imp fun h=>of_decide_eq_true h
theorem sm (l:List Int):sorted l = ou l :=
 List.Perm.eq_of_pairwise (fun a b _ _ h1 h2=>Int.le_antisymm h1 h2) (sj l) (p7 l) ((sorted_perm l).trans (nS l).symm)
def sort2 (F:Nat) (zs:List Int):Option (List Int):=if zs.length < 1000000000 then some (ou zs) else none
theorem sort_eq:fK = sort2:=by
 funext F zs
 unfold fK oZ sort2
 rw [sm]
def qG (x:A2):List A2 → List A2
 | []=>[x]
 | y :: l=>if ic y x = true then y :: qG x l else x :: y :: l
def isA:List A2 → List A2
 | []=>[]
 | x :: l=>qG x (isA l)
def sO (x y:A2):Prop:=ic y x = false
theorem nc (x y:A2):sO x y ↔ (x.a0 < y.a0 ∨ (x.a0 = y.a0 ∧ x.a1 ≤ y.a1)):=by
 simp only [sO,ic,decide_eq_false_iff_not]; omega
theorem mf (x:A2):∀ l:List A2,(qG x l).Perm (x :: l)
 | []=>.refl _
 | y :: l=>by
  unfold qG
  split
  ·exact .trans (.cons y (mf x l)) (.swap x y l)
  ·exact .refl _
theorem nD:∀ l:List A2,(isA l).Perm l
 | []=>.refl _
 | x :: l=>(mf x (isA l)).trans (.cons x (nD l))
theorem rY (x:A2):∀ l:List A2,l.Pairwise sO → (qG x l).Pairwise sO
 | [],_=>by simp [qG]
 | y :: l,h=>by
  unfold qG
  have h1:=List.pairwise_cons.1 h
  split
  ·next hc=>
   refine List.pairwise_cons.2 ⟨fun z hz=>?_,rY x l h1.2⟩
   rcases List.mem_cons.1 ((mf x l).mem_iff.1 hz) with rfl | hz
   ·rw [nc]; simp only [ic,decide_eq_true_eq] at hc; omega
   ·exact h1.1 z hz
  ·next hc=>
   refine List.pairwise_cons.2 ⟨fun z hz=>?_,h⟩
   have hxy:sO x y:=by simpa [sO] using hc
   rcases List.mem_cons.1 hz with rfl | hz
   ·exact hxy
   ·have h2:=h1.1 z hz
    rw [nc] at *; omega
theorem qR:∀ l:List A2,(isA l).Pairwise sO
 | []=>.nil
 | x :: l=>rY x _ (qR l)
theorem p6 {x y:A2} (h1:sO x y) (h2:sO y x):x = y:=by
 rw [nc] at *
 cases x; cases y
 simp only [A2.mk.injEq] at *
 omega
theorem sx (l:List A2):(l.mergeSort fun a b=>!ic b a) = isA l:=by
 have hp:(l.mergeSort fun a b=>!ic b a).Pairwise sO :=
  (List.pairwise_mergeSort (le:=fun a b=>!ic b a) (fun a b c h1 h2=>by simp only [ic,Bool.not_eq_true',decide_eq_false_iff_not] at *; omega) (fun a b=>by simp only [ic,Bool.or_eq_true,Bool.not_eq_true',decide_eq_false_iff_not]; omega) l).imp fun h=>by simpa [sO] using h
 exact List.Perm.eq_of_pairwise (fun a b _ _ h1 h2=>p6 h1 h2) hp (qR l) ((List.mergeSort_perm _ _).trans (nD l).symm)
def sW (F:Nat) (zs:List A2):Option (List A2):=if zs.length < 1000000000 then some (isA zs) else none
theorem pR:cU = sW:=by
 funext F zs
 unfold cU sW
 rw [sx]
theorem oG:bM 20000 = some true:=by
 unfold bM dr dJ ep cz cP c8
 rw [sort_eq,pR]
 decide +kernel
def vB (b:bH):Bool:=decide (b.Lo.a0 ≤ b.Hi.a0 ∧ -1125899906842624 ≤ b.Lo.a0 ∧ b.Hi.a0 ≤ 1125899906842624 ∧ b.Lo.a1 ≤ b.Hi.a1 ∧ -1125899906842624 ≤ b.Lo.a1 ∧ b.Hi.a1 ≤ 1125899906842624 ∧ b.Lo.a2 ≤ b.Hi.a2 ∧ -1125899906842624 ≤ b.Lo.a2 ∧ b.Hi.a2 ≤ 1125899906842624)
def mB (a b:bH):Bool:=decide (b.Lo.a0 ≤ a.Hi.a0 ∧ a.Lo.a0 ≤ b.Hi.a0 ∧ b.Lo.a1 ≤ a.Hi.a1 ∧ a.Lo.a1 ≤ b.Hi.a1 ∧ b.Lo.a2 ≤ a.Hi.a2 ∧ a.Lo.a2 ≤ b.Hi.a2)
def hB (a b:bH):bH:=⟨⟨min a.Lo.a0 b.Lo.a0,min a.Lo.a1 b.Lo.a1,min a.Lo.a2 b.Lo.a2⟩,⟨max a.Hi.a0 b.Hi.a0,max a.Hi.a1 b.Hi.a1,max a.Hi.a2 b.Hi.a2⟩⟩
theorem lx0 (a b c:Int):a8 [a,b,c] 0 = some a:=rfl
theorem lx1 (a b c:Int):a8 [a,b,c] 1 = some b:=rfl
theorem lx2 (a b c:Int):a8 [a,b,c] 2 = some c:=rfl
theorem w1:IntKind.i64.wrap (0 + 1) = 1:=rfl
theorem w2:IntKind.i64.wrap (1 + 1) = 2:=rfl
theorem w3:IntKind.i64.wrap (2 + 1) = 3:=rfl
theorem iter4n {σ τ:Type} (n:Nat) (body:σ → Option (σ ⊕ τ)) (s:σ):iter (n + 4) body s = (body s).bind (cm (fun s=>(body s).bind (cm (fun s=>(body s).bind (cm (fun s=>(body s).bind (cm (iter n body) some)) some)) some)) some):=rfl
theorem rE {σ τ:Type} (body:σ → Option (σ ⊕ τ)) (s:σ):∃ K:σ → Option τ,iter 20000 body s = (body s).bind (cm (fun s=>(body s).bind (cm (fun s=>(body s).bind (cm (fun s=>(body s).bind (cm K some)) some)) some)) some):=⟨iter 19996 body,iter4n 19996 body s⟩
theorem d03:decide ((0:Int) < 3) = true:=rfl
theorem d13:decide ((1:Int) < 3) = true:=rfl
theorem d23:decide ((2:Int) < 3) = true:=rfl
theorem d33:decide ((3:Int) < 3) = false:=rfl
theorem rV {α:Type} (lo hi:Int) (A B:Option α):((bN (!decide (hi < lo)) (some lo)).bind fun x4=>(bN (!(decide (hi < lo) || decide (x4 < -1125899906842624))) (some hi)).bind fun x5=>if ((decide (hi < lo) || decide (x4 < -1125899906842624)) || decide (1125899906842624 < x5)) = true then A else B) =
  if (lo ≤ hi ∧ -1125899906842624 ≤ lo ∧ hi ≤ 1125899906842624) then B else A:=by
 by_cases h1:hi < lo
 ·rw [if_neg (by omega)]; simp [bN,h1]
 ·have g1:decide (hi < lo) = false:=by simpa using h1
  rw [g1]
  by_cases h2:lo < -1125899906842624
  ·have g2:decide (lo < -1125899906842624) = true:=by simpa using h2
   rw [if_neg (by omega)]; simp only [bN,Bool.not_false,if_true,Option.bind_some,g2,Bool.or_true,Bool.true_or,Bool.not_true,Bool.false_eq_true,if_false,Bool.false_or]
  ·have g2:decide (lo < -1125899906842624) = false:=by simpa using h2
   by_cases h3:1125899906842624 < hi
   ·rw [if_neg (by omega)]; simp only [bN,Bool.not_false,if_true,Option.bind_some,g2,Bool.or_false,Bool.false_or,h3,decide_true]
   ·rw [if_pos (by omega)]; simp only [bN,Bool.not_false,if_true,Option.bind_some,g2,Bool.or_false,Bool.false_or,h3,decide_false,Bool.false_eq_true,if_false]
theorem rM {α:Type} (ah bl bh al:Int) (A B:Option α):((bN (!decide (ah < bl)) (some bh)).bind fun x4=>(bN (!decide (ah < bl)) (some al)).bind fun x5=>if (decide (ah < bl) || decide (x4 < x5)) = true then A else B) =
  if (bl ≤ ah ∧ al ≤ bh) then B else A:=by
 by_cases h1:ah < bl
 ·rw [if_neg (by omega)]; simp [bN,h1]
 ·by_cases h2:bh < al
  ·rw [if_neg (by omega)]; simp [bN,h1,h2]
  ·rw [if_pos (by omega)]; simp [bN,h1,h2]
theorem nw (b:bH):bY 20000 b = some (vB b):=by
 obtain ⟨⟨a0,a1,a2⟩,⟨b0,b1,b2⟩⟩:=b
 unfold bY
 obtain ⟨K,hK⟩:=rE _ _
 rw [hK]
 clear hK
 simp only [A3.l,d03,d13,d23,d33,if_true,lx0,lx1,lx2,w1,w2,w3,Option.bind_some,rV,cm]
 unfold vB
 by_cases h0:a0 ≤ b0 ∧ -1125899906842624 ≤ a0 ∧ b0 ≤ 1125899906842624
 ·rw [if_pos h0]
  simp only [A3.l,d03,d13,d23,d33,if_true,lx0,lx1,lx2,w1,w2,w3,Option.bind_some,rV,cm]
  by_cases h1:a1 ≤ b1 ∧ -1125899906842624 ≤ a1 ∧ b1 ≤ 1125899906842624
  ·rw [if_pos h1]
   simp only [A3.l,d03,d13,d23,d33,if_true,lx0,lx1,lx2,w1,w2,w3,Option.bind_some,rV,cm]
   by_cases h2:a2 ≤ b2 ∧ -1125899906842624 ≤ a2 ∧ b2 ≤ 1125899906842624
   ·rw [if_pos h2]
    simp only [d33,Option.bind_some,cm,Bool.false_eq_true,if_false]
    exact congrArg some (decide_eq_true (by omega)).symm
   ·rw [if_neg h2]
    simp only [Option.bind_some,cm]
    exact congrArg some (decide_eq_false (by omega)).symm
  ·rw [if_neg h1]
   simp only [Option.bind_some,cm]
   exact congrArg some (decide_eq_false (by omega)).symm
 ·rw [if_neg h0]
  simp only [Option.bind_some,cm]
  exact congrArg some (decide_eq_false (by omega)).symm
theorem so (b:bH):cw 20000 b = some (vB b):=(show cw 20000 b = bY 20000 b from rfl).trans (nw b)
theorem rT (a b:bH):b4 20000 a b = some (mB a b):=by
 obtain ⟨⟨al0,al1,al2⟩,⟨ah0,ah1,ah2⟩⟩:=a
 obtain ⟨⟨bl0,bl1,bl2⟩,⟨bh0,bh1,bh2⟩⟩:=b
 unfold b4
 obtain ⟨K,hK⟩:=rE _ _
 rw [hK]
 clear hK
 simp only [A3.l,d03,d13,d23,d33,if_true,lx0,lx1,lx2,w1,w2,w3,Option.bind_some,rM,cm]
 unfold mB
 by_cases h0:bl0 ≤ ah0 ∧ al0 ≤ bh0
 ·rw [if_pos h0]
  simp only [A3.l,d03,d13,d23,d33,if_true,lx0,lx1,lx2,w1,w2,w3,Option.bind_some,rM,cm]
  by_cases h1:bl1 ≤ ah1 ∧ al1 ≤ bh1
  ·rw [if_pos h1]
   simp only [A3.l,d03,d13,d23,d33,if_true,lx0,lx1,lx2,w1,w2,w3,Option.bind_some,rM,cm]
   by_cases h2:bl2 ≤ ah2 ∧ al2 ≤ bh2
   ·rw [if_pos h2]
    simp only [d33,Option.bind_some,cm,Bool.false_eq_true,if_false]
    exact congrArg some (decide_eq_true (by omega)).symm
   ·rw [if_neg h2]
    simp only [Option.bind_some,cm]
    exact congrArg some (decide_eq_false (by omega)).symm
  ·rw [if_neg h1]
   simp only [Option.bind_some,cm]
   exact congrArg some (decide_eq_false (by omega)).symm
 ·rw [if_neg h0]
  simp only [Option.bind_some,cm]
  exact congrArg some (decide_eq_false (by omega)).symm
theorem tY (a b:bH):cE 20000 a b = some (mB a b):=(show cE 20000 a b = b4 20000 a b from rfl).trans (rT a b)
def zB:bH:=⟨A3.zero,A3.zero⟩
theorem qP (a b:bH):mB a b = true ↔ (b.Lo.a0 ≤ a.Hi.a0 ∧ a.Lo.a0 ≤ b.Hi.a0 ∧ b.Lo.a1 ≤ a.Hi.a1 ∧ a.Lo.a1 ≤ b.Hi.a1 ∧ b.Lo.a2 ≤ a.Hi.a2 ∧ a.Lo.a2 ≤ b.Hi.a2):=by
 unfold mB; exact decide_eq_true_iff
theorem pk (a b:bH):mB a b = mB b a:=by
 rw [Bool.eq_iff_iff,qP,qP]; omega
def c1 (x y:Int):Int:=if x < y then -1 else if y < x then 1 else 0
theorem la (x y:Int):de 20000 x y = some (c1 x y):=by
 unfold de dZ c1
 simp only [Option.bind_some,show decide (x ≠ x) = false by simp,show decide (y ≠ y) = false by simp,Bool.false_eq_true,if_false,decide_eq_true_eq]
 split
 ·rfl
 ·split <;> rfl
structure Ky where
 a:Int
 b:Int
 c:Int
 d:Int
def lk4 (x y:Ky):Prop:=x.a < y.a ∨ (x.a = y.a ∧ (x.b < y.b ∨ (x.b = y.b ∧ (x.c < y.c ∨ (x.c = y.c ∧ x.d < y.d)))))
def ky (f:Nat) (x:entry):Ky:=if f = 50 then ⟨0,0,0,x.id⟩ else ⟨x.b.Lo.a0,x.b.Lo.a1,x.b.Lo.a2,x.id⟩
def lq (f:Nat) (x y:entry):Prop:=lk4 (ky f x) (ky f y)
theorem gE (x y:entry):lq 50 x y ↔ x.id < y.id:=by
 unfold lq lk4 ky
 simp
theorem ltE51 (x y:entry):lq 51 x y ↔ (x.b.Lo.a0 < y.b.Lo.a0 ∨ (x.b.Lo.a0 = y.b.Lo.a0 ∧ (x.b.Lo.a1 < y.b.Lo.a1 ∨ (x.b.Lo.a1 = y.b.Lo.a1 ∧ (x.b.Lo.a2 < y.b.Lo.a2 ∨ (x.b.Lo.a2 = y.b.Lo.a2 ∧ x.id < y.id)))))):=by
 unfold lq lk4 ky
 simp
theorem e30:decide ((3:Int) ≤ 0) = false:=rfl
theorem e31:decide ((3:Int) ≤ 1) = false:=rfl
theorem e32:decide ((3:Int) ≤ 2) = false:=rfl
theorem len3 (a b c:Int):(([a,b,c]:List Int).length:Int) = 3:=rfl
theorem cmp3 (a0 a1 a2 b0 b1 b2:Int):dq 20000 [a0,a1,a2] [b0,b1,b2] = some (if c1 a0 b0 ≠ 0 then c1 a0 b0 else if c1 a1 b1 ≠ 0 then c1 a1 b1 else c1 a2 b2):=by
 unfold dq
 simp only [la,len3]
 obtain ⟨K,hK⟩:=rE _ _
 rw [hK]
 clear hK
 simp only [d03,e30,if_true,lx0,Option.bind_some,Bool.false_eq_true,if_false,cm,decide_eq_true_eq]
 by_cases h0:c1 a0 b0 ≠ 0
 ·rw [if_pos h0,if_pos h0]; simp only [Option.bind_some,cm]
 ·rw [if_neg h0,if_neg h0]
  simp only [Option.bind_some,cm,w1,d13,e31,if_true,lx1,Bool.false_eq_true,if_false,decide_eq_true_eq,show (1:Int) < 3 from by decide,show ¬ (3:Int) ≤ 1 from by decide]
  by_cases h1:c1 a1 b1 ≠ 0
  ·rw [if_pos h1,if_pos h1]; simp only [Option.bind_some,cm]
  ·rw [if_neg h1,if_neg h1]
   simp only [Option.bind_some,cm,w2,d23,e32,if_true,lx2,Bool.false_eq_true,if_false,decide_eq_true_eq,show (2:Int) < 3 from by decide,show ¬ (3:Int) ≤ 2 from by decide]
   by_cases h2:c1 a2 b2 ≠ 0
   ·rw [if_pos h2]; simp only [Option.bind_some,cm]
   ·rw [if_neg h2]
    have h2':c1 a2 b2 = 0:=by simpa using h2
    simp only [Option.bind_some,cm,w3,d33,Bool.false_eq_true,if_false,h2',show ¬ (3:Int) < 3 from by decide]
theorem or2 (a b:Int):jN 20000 [a,b] = some (if a ≠ 0 then a else b):=by
 unfold jN
 simp only [show (([a,b]:List Int).length:Int) = 2 from rfl]
 obtain ⟨K,hK⟩:=rE _ _
 rw [hK]
 clear hK
 simp only [show (0:Int) < 2 from by decide,decide_true,if_true,show a8 [a,b] 0 = some a from rfl,Option.bind_some,decide_eq_true_eq]
 by_cases h0:a ≠ 0
 ·rw [if_pos h0,if_pos h0]; simp only [Option.bind_some,cm]
 ·rw [if_neg h0,if_neg h0]
  simp only [Option.bind_some,cm,w1,if_true,show (1:Int) < 2 from by decide,decide_true,show a8 [a,b] 1 = some b from rfl]
  by_cases h1:b ≠ 0
  ·rw [if_pos h1]; simp only [Option.bind_some,cm]
  ·rw [if_neg h1]
   have h1':b = 0:=by simpa using h1
   simp only [Option.bind_some,cm,w2,h1',show ¬ (2:Int) < 2 from by decide,decide_false,Bool.false_eq_true,if_false]
theorem pM (x y:Int):c1 x y < 0 ↔ x < y:=by unfold c1; split <;> (try split) <;> omega
theorem pN (x y:Int):0 < c1 x y ↔ y < x:=by unfold c1; split <;> (try split) <;> omega
theorem oy (x y:Int):c1 x y = 0 ↔ x = y:=by unfold c1; split <;> (try split) <;> omega
theorem tJ {f:Nat} (hf:f = 50 ∨ f = 51) (x y:entry):∃ v,fj 20000 f x y = some v ∧ (v < 0 ↔ lq f x y) ∧ (0 < v ↔ lq f y x):=by
 rcases hf with rfl | rfl
 ·refine ⟨c1 x.id y.id,?_,by rw [gE]; exact pM _ _,by rw [gE]; exact pN _ _⟩
  unfold fj fO
  rw [if_pos rfl,la]; rfl
 ·unfold fj fN
  rw [if_neg (by decide),if_pos rfl]
  obtain ⟨xi,⟨⟨xl0,xl1,xl2⟩,xh⟩⟩:=x
  obtain ⟨yi,⟨⟨yl0,yl1,yl2⟩,yh⟩⟩:=y
  simp only [A3.l,cmp3,la,Option.bind_some,or2,ltE51]
  refine ⟨_,rfl,?_,?_⟩
  ·have g0:=pM xl0 yl0; have g1:=pM xl1 yl1; have g2:=pM xl2 yl2; have g3:=pM xi yi
   have z0:=oy xl0 yl0; have z1:=oy xl1 yl1; have z2:=oy xl2 yl2
   generalize c1 xl0 yl0 = u0 at *; generalize c1 xl1 yl1 = u1 at *; generalize c1 xl2 yl2 = u2 at *; generalize c1 xi yi = u3 at *
   by_cases k0:u0 = 0
   ·by_cases k1:u1 = 0
    ·by_cases k2:u2 = 0
     ·simp [k0,k1,k2]; omega
     ·simp [k0,k1,k2]; omega
    ·simp [k0,k1]; omega
   ·simp [k0]; omega
  ·have g0:=pN xl0 yl0; have g1:=pN xl1 yl1; have g2:=pN xl2 yl2; have g3:=pN xi yi
   have z0:=oy xl0 yl0; have z1:=oy xl1 yl1; have z2:=oy xl2 yl2
   generalize c1 xl0 yl0 = u0 at *; generalize c1 xl1 yl1 = u1 at *; generalize c1 xl2 yl2 = u2 at *; generalize c1 xi yi = u3 at *
   by_cases k0:u0 = 0
   ·by_cases k1:u1 = 0
    ·by_cases k2:u2 = 0
     ·simp [k0,k1,k2]; omega
     ·simp [k0,k1,k2]; omega
    ·simp [k0,k1]; omega
   ·simp [k0]; omega
abbrev T:=cH bc
def cvT (b:bH):T → bH
 | .leaf=>b
 | .node w _ _=>hB b w.cover
def mk (v:bc) (l r:T):T:=.node ⟨v.x,v.priority,cvT (cvT v.x.b l) r⟩ l r
def sd (l r:T):List T:=(if l.cZ = true then [] else [l]) ++ (if r.cZ = true then [] else [r])
theorem tV (l r:T):fL 20000 [l,r] = some (sd l r):=by
 cases l <;> cases r <;> rfl
theorem iV (rt:T) (c k:Nat) (v:bc) (nl nr l r:T):aZ 20000 ⟨rt,c,k,49⟩ (.node v nl nr) l r = some (mk v l r):=by
 unfold aZ hC fP
 simp only [iO,Option.bind_some,if_true,tV]
 cases l <;> cases r
 ·rfl
 ·rfl
 ·rfl
 ·rfl
def items:T → List entry
 | .leaf=>[]
 | .node w l r=>items l ++ w.x :: items r
def rz (a b:bH):Prop:=b.Lo.a0 ≤ a.Lo.a0 ∧ b.Lo.a1 ≤ a.Lo.a1 ∧ b.Lo.a2 ≤ a.Lo.a2 ∧ a.Hi.a0 ≤ b.Hi.a0 ∧ a.Hi.a1 ≤ b.Hi.a1 ∧ a.Hi.a2 ≤ b.Hi.a2
theorem um (a:bH):rz a a:=by unfold rz; omega
theorem mh {a b c:bH} (h1:rz a b) (h2:rz b c):rz a c:=by unfold rz at *; omega
theorem sE (a b:bH):rz a (hB a b):=by unfold rz hB; simp only; omega
theorem sD (a b:bH):rz b (hB a b):=by unfold rz hB; simp only; omega
def n3:T → Prop
 | .leaf=>True
 | .node w l r=>(∀ x ∈ items (.node w l r),rz x.b w.cover) ∧ n3 l ∧ n3 r
theorem qX (b:bH) (l:T):rz b (cvT b l):=by
 cases l with
 | leaf=>exact um b
 | node w l r=>exact sE _ _
theorem oV (b:bH) {l:T} (h:n3 l):∀ x ∈ items l,rz x.b (cvT b l):=by
 cases l with
 | leaf=>intro x hx; cases hx
 | node w l r=>exact fun x hx=>mh (h.1 x hx) (sD _ _)
theorem fS (v:bc) (l r:T):items (mk v l r) = items l ++ v.x :: items r:=rfl
theorem k3 {v:bc} {l r:T} (hl:n3 l) (hr:n3 r):n3 (mk v l r):=by
 refine ⟨fun x hx=>?_,hl,hr⟩
 show rz x.b (cvT (cvT v.x.b l) r)
 rcases List.mem_append.1 hx with hx | hx
 ·exact mh (oV v.x.b hl x hx) (qX _ r)
 ·rcases List.mem_cons.1 hx with rfl | hx
  ·exact mh (qX _ l) (qX _ r)
  ·exact oV _ hr x hx
def kx (f:Nat) (l:List entry):Prop:=l.Pairwise (lq f)
theorem iI {f:Nat} {x y z:entry} (h1:lq f x y) (h2:lq f y z):lq f x z:=by
 unfold lq lk4 at *; omega
theorem oO {f:Nat} {x y:entry} (h1:lq f x y) (h2:lq f y x):False:=by
 unfold lq lk4 at *; omega
theorem ny {f:Nat} {a:entry} {l r:List entry} (h:kx f (l ++ a :: r)):kx f l ∧ kx f r ∧ (∀ y ∈ l,lq f y a) ∧ (∀ y ∈ r,lq f a y):=by
 unfold kx at *
 rw [List.pairwise_append,List.pairwise_cons] at h
 exact ⟨h.1,h.2.1.2,fun y hy=>h.2.2 y hy a (by simp),h.2.1.1⟩
theorem tU {f:Nat} (hf:f = 50 ∨ f = 51) (rt:T) (k:Nat) (x:entry):∀ (t:T) (m:Nat),(items t).length < m → n3 t → kx f (items t) →
  ∃ a b,bF 20000 m ⟨rt,f,k,49⟩ t x = some (a,b) ∧ items a ++ items b = items t ∧ (∀ y ∈ items a,lq f y x) ∧ (∀ y ∈ items b,¬ lq f y x) ∧ n3 a ∧ n3 b:=by
 intro t
 induction t with
 | leaf=>
  intro m hm _ _
  cases m with
  | zero=>omega
  | succ m=>exact ⟨.leaf,.leaf,rfl,rfl,by simp [items],by simp [items],trivial,trivial⟩
 | node w l r ihl ihr=>
  intro m hm hc hs
  cases m with
  | zero=>omega
  | succ m=>
  simp only [items,List.length_append,List.length_cons] at hm
  obtain ⟨s1,s2,s3,s4⟩:=ny hs
  obtain ⟨v,hv,hlt,_⟩:=tJ hf w.x x
  unfold bF
  simp only [cH.cZ,Bool.false_eq_true,if_false,iO,Option.bind_some,hv]
  by_cases h:v < 0
  ·obtain ⟨a,b,e,h1,h2,h3,h4,h5⟩:=ihr m (by omega) hc.2.2 s2
   have hx:=hlt.1 h
   refine ⟨mk w l a,b,?_,?_,?_,h3,k3 hc.2.1 h4,h5⟩
   ·rw [if_pos (by simpa using h),e]
    simp only [Option.bind_some,iV]
   ·rw [fS,items,← h1]; simp
   ·intro y hy
    rw [fS] at hy
    rcases List.mem_append.1 hy with hy | hy
    ·exact iI (s3 y hy) hx
    ·rcases List.mem_cons.1 hy with rfl | hy
     ·exact hx
     ·exact h2 y hy
  ·obtain ⟨a,b,e,h1,h2,h3,h4,h5⟩:=ihl m (by omega) hc.2.1 s1
   have hx:¬ lq f w.x x:=fun e=>h (hlt.2 e)
   refine ⟨a,mk w b r,?_,?_,h2,?_,h4,k3 h5 hc.2.2⟩
   ·rw [if_neg (by simpa using h),e]
    simp only [Option.bind_some,iV]
   ·rw [fS,items,← h1]; simp
   ·intro y hy
    rw [fS] at hy
    rcases List.mem_append.1 hy with hy | hy
    ·exact h3 y hy
    ·rcases List.mem_cons.1 hy with rfl | hy
     ·exact hx
     ·exact fun e=>hx (iI (s4 y hy) e)
theorem pq (rt:T) (f k:Nat):∀ (m:Nat) (a b:T),(items a).length + (items b).length < m → n3 a → n3 b →
  ∃ t,bQ 20000 m ⟨rt,f,k,49⟩ a b = some t ∧ items t = items a ++ items b ∧ n3 t:=by
 intro m
 induction m with
 | zero=>intro a b h; omega
 | succ m ih=>
  intro a b hm ha hb
  unfold bQ
  cases a with
  | leaf=>exact ⟨b,rfl,rfl,hb⟩
  | node w l r=>
   cases b with
   | leaf=>exact ⟨.node w l r,rfl,by simp [items],ha⟩
   | node w2 l2 r2=>
    simp only [cH.cZ,Bool.false_eq_true,if_false,iO,Option.bind_some]
    simp only [items,List.length_append,List.length_cons] at hm
    by_cases h:w2.priority < w.priority
    ·obtain ⟨t,e,h1,h2⟩:=ih r (.node w2 l2 r2) (by simp only [items,List.length_append,List.length_cons]; omega) ha.2.2 hb
     refine ⟨mk w l t,?_,?_,k3 ha.2.1 h2⟩
     ·rw [if_pos (by simpa using h),e]
      simp only [Option.bind_some,iV]
     ·rw [fS,h1]; simp [items]
    ·obtain ⟨t,e,h1,h2⟩:=ih (.node w l r) l2 (by simp only [items,List.length_append,List.length_cons]; omega) ha hb.2.1
     refine ⟨mk w2 t r2,?_,?_,k3 h2 hb.2.2⟩
     ·rw [if_neg (by simpa using h),e]
      simp only [Option.bind_some,iV]
     ·rw [fS,h1]; simp [items]
theorem r6 {f:Nat} (hf:f = 50 ∨ f = 51) (rt:T) (k:Nat) (x:entry):∀ (t:T) (m:Nat),(items t).length < m → (items t).length < 20000 → n3 t → kx f (items t) →
  ∀ pre y post,items t = pre ++ y :: post → ¬ lq f x y → ¬ lq f y x → ∃ t',bR 20000 m ⟨rt,f,k,49⟩ t x = some t' ∧ items t' = pre ++ post ∧ n3 t':=by
 intro t
 induction t with
 | leaf=>intro m _ _ _ _ pre y post h; simp [items] at h
 | node w l r ihl ihr=>
  intro m hm h2k hc hs pre y post ni hy1 hy2
  cases m with
  | zero=>omega
  | succ m=>
  simp only [items,List.length_append,List.length_cons] at hm h2k
  obtain ⟨s1,s2,s3,s4⟩:=ny hs
  obtain ⟨v,hv,hlt,hgt⟩:=tJ hf x w.x
  unfold bR
  simp only [iO,Option.bind_some,hv]
  have hcase:∀ z,z ∈ items l → lq f z w.x:=s3
  rw [items] at ni
  have hl:=List.append_eq_append_iff.1 ni
  by_cases h:v < 0
  ·have hx:=hlt.1 h
   rcases hl with ⟨us,h1,h3⟩ | ⟨vs,h1,h3⟩
   ·exfalso
    cases us with
    | nil=>
     have:w.x = y:=by simpa using (List.cons.inj (by simpa using h3)).1
     rw [← this] at hy1; exact hy1 hx
    | cons a us=>
     have hm:y ∈ items r:=by
      have:=(List.cons.inj (by simpa using h3)).2
      rw [this]; simp
     exact hy1 (iI hx (s4 y hm))
   ·cases vs with
    | nil=>
     exfalso
     have:w.x = y:=by simpa using (List.cons.inj (by simpa using h3)).1.symm
     rw [← this] at hy1; exact hy1 hx
    | cons b vs=>
     obtain ⟨e1,e2⟩:=List.cons.inj (by simpa using h3:y :: post = b :: (vs ++ w.x :: items r))
     subst e1
     obtain ⟨t',e,g1,g2⟩:=ihl m (by omega) (by omega) hc.2.1 s1 pre y vs h1 hy1 hy2
     refine ⟨mk w t' r,?_,?_,k3 g2 hc.2.2⟩
     ·rw [if_pos (by simpa using h),e]
      simp only [Option.bind_some,iV]
     ·rw [fS,g1,e2]; simp
  ·rw [if_neg (by simpa using h)]
   by_cases h':0 < v
   ·have hx:=hgt.1 h'
    rw [if_pos (by simpa using h')]
    rcases hl with ⟨us,h1,h3⟩ | ⟨vs,h1,h3⟩
    ·cases us with
     | nil=>
      exfalso
      have:w.x = y:=by simpa using (List.cons.inj (by simpa using h3)).1
      rw [← this] at hy2; exact hy2 hx
     | cons a us=>
      obtain ⟨e1,e2⟩:=List.cons.inj (by simpa using h3:w.x :: items r = a :: (us ++ y :: post))
      subst e1
      obtain ⟨t',e,g1,g2⟩:=ihr m (by omega) (by omega) hc.2.2 s2 us y post e2 hy1 hy2
      refine ⟨mk w l t',?_,?_,k3 hc.2.1 g2⟩
      ·rw [e]
       simp only [Option.bind_some,iV]
      ·rw [fS,g1,h1]; simp
    ·exfalso
     cases vs with
     | nil=>
      have:w.x = y:=by simpa using (List.cons.inj (by simpa using h3)).1.symm
      rw [← this] at hy2; exact hy2 hx
     | cons b vs=>
      have hm:y ∈ items l:=by
       have:=(List.cons.inj (by simpa using h3:y :: post = b :: (vs ++ w.x :: items r))).1
       rw [h1,this]; simp
      exact hy2 (iI (s3 y hm) hx)
   ·rw [if_neg (by simpa using h')]
    have hn1:¬ lq f x w.x:=fun e=>h (hlt.2 e)
    have hn2:¬ lq f w.x x:=fun e=>h' (hgt.2 e)
    obtain ⟨t',e,g1,g2⟩:=pq rt f k 20000 l r (by omega) hc.2.1 hc.2.2
    refine ⟨t',?_,?_,g2⟩
    ·unfold cc
     rw [e]; rfl
    ·rw [g1]
     rcases hl with ⟨us,h1,h3⟩ | ⟨vs,h1,h3⟩
     ·cases us with
      | nil=>
       obtain ⟨e1,e2⟩:=List.cons.inj (by simpa using h3:w.x :: items r = y :: post)
       rw [h1,e2]; simp
      | cons a us=>
       exfalso
       have hm:y ∈ items r:=by
        have:=(List.cons.inj (by simpa using h3:w.x :: items r = a :: (us ++ y :: post))).2
        rw [this]; simp
       have g:=s4 y hm
       unfold lq lk4 at *; omega
     ·cases vs with
      | nil=>
       obtain ⟨e1,e2⟩:=List.cons.inj (by simpa using h3:y :: post = w.x :: items r)
       rw [h1,e2]; simp
      | cons b vs=>
       exfalso
       have hm:y ∈ items l:=by
        have:=(List.cons.inj (by simpa using h3:y :: post = b :: (vs ++ w.x :: items r))).1
        rw [h1,this]; simp
       have g:=s3 y hm
       unfold lq lk4 at *; omega
def zE:entry:=⟨0,zB⟩
theorem get_aux (id:Int):∀ (t:T) (m:Nat),(items t).length < m → kx 50 (items t) →
  bS (iter m (fun n_1=>if (!n_1.cZ) = true then (Option.bind (iO n_1) (fun nd_2=>if (decide (id = nd_2.1.x.id)) = true then (Option.bind (iO n_1) (fun nd_3=>some (.inr (.inr (nd_3.1.x,true))))) else (Option.bind (iO n_1) (fun nd_4=>if (decide (id < nd_4.1.x.id)) = true then (Option.bind (iO n_1) (fun nd_5=>some (.inl nd_5.2.1))) else (Option.bind (iO n_1) (fun nd_6=>some (.inl nd_6.2.2))))))) else (some (.inr (.inl ())))) t:Option (Unit ⊕ entry × Bool))
   (fun o=>(∃ x ∈ items t,x.id = id ∧ o = .inr (x,true)) ∨ (o = .inl () ∧ ∀ x ∈ items t,x.id ≠ id)):=by
 intro t
 induction t with
 | leaf=>
  intro m hm hs
  cases m with
  | zero=>omega
  | succ m=>
   rw [dn]
   exact ⟨.inl (),rfl,.inr ⟨rfl,by simp [items]⟩⟩
 | node w l r ihl ihr=>
  intro m hm hs
  cases m with
  | zero=>omega
  | succ m=>
  simp only [items,List.length_append,List.length_cons] at hm
  obtain ⟨s1,s2,s3,s4⟩:=ny hs
  rw [dn]
  simp only [cH.cZ,Bool.not_false,if_true,iO,Option.bind_some]
  by_cases h:id = w.x.id
  ·rw [if_pos (by simpa using h)]
   exact ⟨.inr (w.x,true),rfl,.inl ⟨w.x,by simp [items],h.symm,rfl⟩⟩
  ·rw [if_neg (by simpa using h)]
   by_cases h2:id < w.x.id
   ·rw [if_pos (by simpa using h2)]
    refine (ihl m (by omega) s1).mono fun o ho=>?_
    rcases ho with ⟨x,hx,h3,h4⟩ | ⟨h3,h4⟩
    ·exact .inl ⟨x,by simp [items,hx],h3,h4⟩
    ·refine .inr ⟨h3,fun x hx=>?_⟩
     rcases List.mem_append.1 hx with hx | hx
     ·exact h4 x hx
     ·rcases List.mem_cons.1 hx with rfl | hx
      ·exact fun e=>h e.symm
      ·have:=(gE _ _).1 (s4 x hx); omega
   ·rw [if_neg (by simpa using h2)]
    refine (ihr m (by omega) s2).mono fun o ho=>?_
    rcases ho with ⟨x,hx,h3,h4⟩ | ⟨h3,h4⟩
    ·exact .inl ⟨x,by simp [items,hx],h3,h4⟩
    ·refine .inr ⟨h3,fun x hx=>?_⟩
     rcases List.mem_append.1 hx with hx | hx
     ·have:=(gE _ _).1 (s3 x hx); omega
     ·rcases List.mem_cons.1 hx with rfl | hx
      ·exact fun e=>h e.symm
      ·exact h4 x hx
structure jG (s:dd) (L:List entry):Prop where
 c1:s.ids.compare = 50
 c2:s.boxes.compare = 51
 k1:s.ids.key = 48
 k2:s.boxes.key = 48
 b1:s.ids.box = 49
 b2:s.boxes.box = 49
 it:items s.ids.root = L
 pm:(items s.boxes.root).Perm L
 s1:kx 50 L
 s2:kx 51 (items s.boxes.root)
 v1:n3 s.ids.root
 v2:n3 s.boxes.root
 vb:∀ x ∈ L,vB x.b = true
theorem tG {s:dd} {L:List entry} (h:jG s L) (hL:L.length < 1000) (id:Int):(∃ x ∈ L,x.id = id ∧ cn 20000 s id = some (x,true)) ∨ (cn 20000 s id = some (zE,false) ∧ ∀ x ∈ L,x.id ≠ id):=by
 obtain ⟨o,ho,h1⟩:=get_aux id s.ids.root 20000 (by rw [h.it]; omega) (by rw [h.it]; exact h.s1)
 rw [h.it] at h1
 unfold cn
 rw [ho]
 rcases h1 with ⟨x,hx,h2,rfl⟩ | ⟨rfl,h2⟩
 ·exact .inl ⟨x,hx,h2,rfl⟩
 ·exact .inr ⟨rfl,h2⟩
theorem sA {f:Nat} (hf:f = 50 ∨ f = 51) {x y:entry} (hn:y.id ≠ x.id) (h:¬ lq f y x):lq f x y:=by
 rcases hf with rfl | rfl
 ·rw [gE] at *; omega
 ·rw [ltE51] at *; omega
theorem rW {f:Nat} (x:entry):¬ lq f x x:=fun h=>oO h h
theorem qK {f:Nat} {L M:List entry} (h1:kx f L) (h2:kx f M) (hp:L.Perm M):L = M :=
 List.Perm.eq_of_pairwise (fun a b _ _ h h'=>(oO h h').elim) h1 h2 hp
theorem ud (z:Int):∃ p,eW 20000 z = some p:=by
 unfold eW fy
 exact ⟨_,rfl⟩
theorem kf (x:entry):gn 20000 48 x = some (IntKind.u64.wrap x.id):=rfl
theorem wth (t:iz) (x:entry) (a b n u w:T) (p:Int) (h1:eJ 20000 t t.root x = some (a,b)) (h2:gn 20000 t.key x = some (IntKind.u64.wrap x.id)) (hp:eW 20000 (IntKind.u64.wrap x.id) = some p) (hm:aZ 20000 t (.node ⟨x,p,⟨A3.zero,A3.zero⟩⟩ .leaf .leaf) .leaf .leaf = some n) (h3:cc 20000 t a n = some u) (h4:cc 20000 t u b = some w):bz 20000 t x = some ⟨w,t.compare,t.key,t.box⟩:=by
 unfold bz
 rw [h1,Option.bind_some]
 simp only [dS]
 rw [h2,Option.bind_some,hp,Option.bind_some,hm,Option.bind_some,h3,Option.bind_some,h4]
 rfl
theorem rO {f:Nat} (hf:f = 50 ∨ f = 51) {rt:T} {x:entry} (hc:n3 rt) (hs:kx f (items rt)) (hn:∀ y ∈ items rt,y.id ≠ x.id) (hL:(items rt).length < 1000) :
  ∃ t',bz 20000 ⟨rt,f,48,49⟩ x = some ⟨t',f,48,49⟩ ∧ (items t').Perm (x :: items rt) ∧ kx f (items t') ∧ n3 t':=by
 obtain ⟨a,b,e,h1,h2,h3,h4,h5⟩:=tU hf rt 48 x rt 20000 (by omega) hc hs
 have hlen:(items a).length + (items b).length = (items rt).length:=by rw [← h1,List.length_append]
 obtain ⟨p,hp⟩:=ud (IntKind.u64.wrap x.id)
 obtain ⟨n,hmk,hn1,hn2⟩:∃ n:T,aZ 20000 ⟨rt,f,48,49⟩ (.node ⟨x,p,⟨A3.zero,A3.zero⟩⟩ .leaf .leaf) .leaf .leaf = some n ∧ items n = [x] ∧ n3 n :=
  ⟨_,iV rt f 48 _ _ _ _ _,rfl,k3 trivial trivial⟩
 obtain ⟨u,hu,u1,u2⟩:=pq rt f 48 20000 a n (by rw [hn1]; simp; omega) h4 hn2
 obtain ⟨w,hw,w1,w2⟩:=pq rt f 48 20000 u b (by rw [u1,hn1]; simp; omega) u2 h5
 refine ⟨w,?_,?_,?_,w2⟩
 ·exact wth ⟨rt,f,48,49⟩ x a b n u w p e (kf x) hp hmk hu hw
 ·rw [w1,u1,hn1,← h1]
  simp
 ·rw [w1,u1,hn1]
  rw [← h1] at hs hn
  unfold kx at *
  rw [List.pairwise_append] at hs
  have hx:∀ y ∈ items b,lq f x y:=fun y hy=>sA hf (hn y (by simp [hy])) (h3 y hy)
  rw [List.append_assoc,List.pairwise_append]
  refine ⟨hs.1,?_,?_⟩
  ·show ([x] ++ items b).Pairwise _
   exact List.pairwise_cons.2 ⟨hx,hs.2.1⟩
  ·intro y hy z hz
   rcases List.mem_append.1 hz with hz | hz
   ·rw [List.mem_singleton] at hz; subst hz; exact h2 y hy
   ·exact hs.2.2 y hy z hz
theorem nJ {f:Nat} (hf:f = 50 ∨ f = 51) {rt:T} {x:entry} (hc:n3 rt) (hs:kx f (items rt)) (hx:x ∈ items rt) (hL:(items rt).length < 1000) :
  ∃ t',bo 20000 ⟨rt,f,48,49⟩ x = some ⟨t',f,48,49⟩ ∧ (x :: items t').Perm (items rt) ∧ kx f (items t') ∧ n3 t':=by
 obtain ⟨pre,post,e⟩:=List.append_of_mem hx
 obtain ⟨t',h,h1,h2⟩:=r6 hf rt 48 x rt 20000 (by omega) (by omega) hc hs pre x post e (rW x) (rW x)
 refine ⟨t',?_,?_,?_,h2⟩
 ·unfold bo fv
  rw [h]; rfl
 ·rw [h1,e]; exact List.perm_middle.symm
 ·rw [h1]
  rw [e] at hs
  unfold kx at *
  rw [List.pairwise_append,List.pairwise_cons] at hs
  rw [List.pairwise_append]
  exact ⟨hs.1,hs.2.1.2,fun y hy z hz=>hs.2.2 y hy z (by simp [hz])⟩
def oX (x:entry):List entry → List entry
 | []=>[x]
 | y :: l=>if x.id < y.id then x :: y :: l else y :: oX x l
def pF (id:Int) (L:List entry):List entry:=L.filter fun y=>decide (y.id ≠ id)
theorem iJ (x:entry):∀ L,(oX x L).Perm (x :: L)
 | []=>.refl _
 | y :: l=>by
  unfold oX
  split
  ·exact .refl _
  ·exact .trans (.cons y (iJ x l)) (.swap x y l)
theorem p9 {x y:entry} {L:List entry}:y ∈ oX x L ↔ y = x ∨ y ∈ L:=by rw [(iJ x L).mem_iff,List.mem_cons]
theorem nE {x:entry}:∀ {L:List entry},kx 50 L → (∀ y ∈ L,y.id ≠ x.id) → kx 50 (oX x L)
 | [],_,_=>by simp [oX,kx]
 | y :: l,h,hn=>by
  have h1:=List.pairwise_cons.1 h
  unfold oX
  split
  ·next hc=>
   refine List.pairwise_cons.2 ⟨fun z hz=>?_,h⟩
   rcases List.mem_cons.1 hz with rfl | hz
   ·rw [gE]; exact hc
   ·exact iI ((gE _ _).2 hc) (h1.1 z hz)
  ·next hc=>
   have hne:=hn y (by simp)
   refine List.pairwise_cons.2 ⟨fun z hz=>?_,nE h1.2 fun z hz=>hn z (by simp [hz])⟩
   rcases p9.1 hz with rfl | hz
   ·rw [gE]; omega
   ·exact h1.1 z hz
theorem qh {id:Int} {L:List entry} (h:kx 50 L):kx 50 (pF id L):=h.filter _
theorem ur {id:Int} {L:List entry} {y:entry}:y ∈ pF id L ↔ y ∈ L ∧ y.id ≠ id:=by unfold pF; simp
theorem oU {x:entry} {L:List entry} (h:kx 50 L) (hx:x ∈ L):(x :: pF x.id L).Perm L:=by
 obtain ⟨pre,post,e⟩:=List.append_of_mem hx
 have e2:pF x.id L = pre ++ post:=by
  have h':=h
  rw [e] at h'
  unfold kx at h'
  rw [List.pairwise_append,List.pairwise_cons] at h'
  unfold pF
  rw [e,List.filter_append,List.filter_cons]
  have a1:pre.filter (fun y=>decide (y.id ≠ x.id)) = pre:=List.filter_eq_self.2 fun y hy=>by
   have:=(gE _ _).1 (h'.2.2 y hy x (by simp)); simp; omega
  have a2:post.filter (fun y=>decide (y.id ≠ x.id)) = post:=List.filter_eq_self.2 fun y hy=>by
   have:=(gE _ _).1 (h'.2.1.1 y hy); simp; omega
  rw [a1,a2]; simp
 rw [e2,e]
 exact List.perm_middle.symm
theorem m' {t:iz} {f:Nat} (h1:t.compare = f) (h2:t.key = 48) (h3:t.box = 49):t = ⟨t.root,f,48,49⟩:=by
 cases t; subst h1; subst h2; subst h3; rfl
theorem putN_ok {s:dd} {L:List entry} (h:jG s L) (hL:L.length < 1000) {x:entry} (hv:vB x.b = true) (hn:∀ y ∈ L,y.id ≠ x.id) :
  ∃ s':dd,bz 20000 s.ids x = some s'.ids ∧ bz 20000 s.boxes x = some s'.boxes ∧ jG s' (oX x L):=by
 obtain ⟨a,ha,a1,a2,a3⟩:=rO (f:=50) (.inl rfl) h.v1 (by rw [h.it]; exact h.s1) (x:=x) (by rw [h.it]; exact hn) (by rw [h.it]; exact hL)
 obtain ⟨b,hb,b1,b2,b3⟩:=rO (f:=51) (.inr rfl) h.v2 h.s2 (x:=x) (fun y hy=>hn y (h.pm.mem_iff.1 hy)) (by rw [h.pm.length_eq]; exact hL)
 rw [← m' h.c1 h.k1 h.b1] at ha
 rw [← m' h.c2 h.k2 h.b2] at hb
 refine ⟨⟨⟨a,50,48,49⟩,⟨b,51,48,49⟩⟩,ha,hb,⟨rfl,rfl,rfl,rfl,rfl,rfl,?_,?_,nE h.s1 hn,b2,a3,b3,?_⟩⟩
 ·rw [h.it] at a1
  exact qK a2 (nE h.s1 hn) (a1.trans (iJ x L).symm)
 ·exact b1.trans ((h.pm.cons x).trans (iJ x L).symm)
 ·intro y hy
  rcases p9.1 hy with rfl | hy
  ·exact hv
  ·exact h.vb y hy
theorem Put_ok {s:dd} {L:List entry} (h:jG s L) (hL:L.length < 1000) (id:Int) (b:bH) :
  ∃ s' e,b5 20000 s id b = some (s',e) ∧ ((vB b = false ∧ e = 1) ∨ (vB b = true ∧ (∃ x ∈ L,x.id = id) ∧ e = 6) ∨ (vB b = true ∧ (∀ x ∈ L,x.id ≠ id) ∧ e = 0 ∧ jG s' (oX ⟨id,b⟩ L))):=by
 unfold b5
 rw [nw]
 cases hv:vB b
 ·exact ⟨_,_,rfl,.inl ⟨rfl,rfl⟩⟩
 ·simp only [Option.bind_some,Bool.not_true,Bool.false_eq_true,if_false]
  rcases tG h hL id with ⟨x,hx,e,hg⟩ | ⟨hg,hn⟩
  ·rw [hg]
   exact ⟨_,_,rfl,.inr (.inl ⟨trivial,⟨x,hx,e⟩,rfl⟩)⟩
  ·rw [hg]
   obtain ⟨s',h1,h2,h3⟩:=putN_ok h hL (x:=⟨id,b⟩) hv hn
   simp only [Option.bind_some,dS,Bool.false_eq_true,if_false,h1,h2]
   exact ⟨_,_,rfl,.inr (.inr ⟨trivial,hn,rfl,h3⟩)⟩
theorem delN_ok {s:dd} {L:List entry} (h:jG s L) (hL:L.length < 1000) {x:entry} (hx:x ∈ L) :
  ∃ s':dd,bo 20000 s.ids x = some s'.ids ∧ bo 20000 s.boxes x = some s'.boxes ∧ jG s' (pF x.id L):=by
 obtain ⟨a,ha,a1,a2,a3⟩:=nJ (f:=50) (.inl rfl) h.v1 (by rw [h.it]; exact h.s1) (x:=x) (by rw [h.it]; exact hx) (by rw [h.it]; exact hL)
 obtain ⟨b,hb,b1,b2,b3⟩:=nJ (f:=51) (.inr rfl) h.v2 h.s2 (x:=x) (h.pm.mem_iff.2 hx) (by rw [h.pm.length_eq]; exact hL)
 rw [← m' h.c1 h.k1 h.b1] at ha
 rw [← m' h.c2 h.k2 h.b2] at hb
 have hp:=oU h.s1 hx
 refine ⟨⟨⟨a,50,48,49⟩,⟨b,51,48,49⟩⟩,ha,hb,⟨rfl,rfl,rfl,rfl,rfl,rfl,?_,?_,qh h.s1,b2,a3,b3,?_⟩⟩
 ·rw [h.it] at a1
  exact qK a2 (qh h.s1) (List.perm_cons x |>.1 (a1.trans hp.symm))
 ·exact List.perm_cons x |>.1 ((b1.trans h.pm).trans hp.symm)
 ·intro y hy
  exact h.vb y (ur.1 hy).1
theorem sK {s:dd} {L:List entry} (h:jG s L) (hL:L.length < 1000) (id:Int) :
  ∃ s' e,b7 20000 s id = some (s',e) ∧ (((∀ x ∈ L,x.id ≠ id) ∧ e = 5) ∨ ((∃ x ∈ L,x.id = id) ∧ e = 0 ∧ jG s' (pF id L))):=by
 unfold b7
 rcases tG h hL id with ⟨x,hx,e,hg⟩ | ⟨hg,hn⟩
 ·rw [hg]
  obtain ⟨s',h1,h2,h3⟩:=delN_ok h hL hx
  simp only [Option.bind_some,dS,Bool.not_true,Bool.false_eq_true,if_false,h1,h2]
  rw [e] at h3
  exact ⟨_,_,rfl,.inr ⟨⟨x,hx,e⟩,rfl,h3⟩⟩
 ·rw [hg]
  exact ⟨_,_,rfl,.inl ⟨hn,rfl⟩⟩
def wpre (x:entry):List entry → List entry × Bool
 | []=>([],false)
 | y :: l=>if x.id < y.id then (x :: y :: l,true) else let r:=wpre x l; (y :: r.1,r.2)
def fc:List entry → List A2
 | []=>[]
 | x :: l=>((l.filter fun y=>mB x.b y.b).map fun y=>(⟨x.id,y.id⟩:A2)) ++ fc l
theorem mw:∀ L:List entry,(fc L).length ≤ L.length * L.length
 | []=>by simp [fc]
 | x :: l=>by
  unfold fc
  have h:=mw l
  have h2:=List.length_filter_le (fun y=>mB x.b y.b) l
  simp only [List.length_append,List.length_map,List.length_cons]
  have:(l.length + 1) * (l.length + 1) = l.length * l.length + 2 * l.length + 1:=by grind
  omega
theorem ea2f {α σ τ:Type} [Inhabited α] {l P R:List α} (e0:l = P ++ R) {A:σ → Int → Option ((σ × Int) ⊕ τ)} {G:σ → τ} {Q:τ → Prop} {F:Nat} {s0:σ} (I:List α → σ → Prop) (hF:l.length < F) (hL:l.length ≤ 1000000000) (h0:I [] s0)
  (step:∀ pre x post s,R = pre ++ x :: post → a8 l ((P.length + pre.length:Nat):Int) = some x → I pre s → bS (A s ((P.length + pre.length:Nat):Int)) fun o=>(∃ s',o = .inl (s',IntKind.i64.wrap (((P.length + pre.length:Nat):Int) + 1)) ∧ I (pre ++ [x]) s') ∨ ∃ t,o = .inr t ∧ Q t)
  (fin:∀ s,I R s → Q (G s)) {st:Int} (hst:st = (P.length:Int)):bS (iter F (dS fun s i=>if decide (i < (l.length:Int)) = true then A s i else some (.inr (G s))) (s0,st)) Q:=by
 have hlen:l.length = P.length + R.length:=by rw [e0,List.length_append]
 refine bS.rounds (n:=R.length) (I:=fun k s=>k ≤ R.length ∧ s.2 = ((P.length + k:Nat):Int) ∧ I (R.take k) s.1) (by omega) ⟨Nat.zero_le _,hst,by simpa using h0⟩ ?_
 rintro k ⟨s,i⟩ hk ⟨hk',hi,hI⟩
 simp only at hi hI
 subst hi
 simp only [dS]
 by_cases hc:k < R.length
 ·rw [if_pos (by simp only [decide_eq_true_eq]; omega)]
  have e:R = R.take k ++ R[k] :: R.drop (k + 1):=by rw [← List.drop_eq_getElem_cons hc,List.take_append_drop]
  have hl:(R.take k).length = k:=by rw [List.length_take]; omega
  have hx:a8 l ((P.length + (R.take k).length:Nat):Int) = some R[k]:=by
   rw [hl,fi (by omega) (by omega),ka _ _ (by omega)]
   simp only [e0]
   rw [List.getElem_append_right (by omega)]
   simp
  have h:=step (R.take k) R[k] (R.drop (k + 1)) s e hx hI
  rw [hl] at h
  refine h.mono fun o ho=>?_
  rcases ho with ⟨s',rfl,h⟩ | h
  ·refine .inl ⟨_,rfl,⟨by omega,?_,?_⟩,hc⟩
   ·show IntKind.i64.wrap (((P.length + k:Nat):Int) + 1) = _
    rw [mG (by omega) (by omega)]; push_cast; omega
   ·rw [List.take_succ_eq_append_getElem hc]; exact h
  ·exact .inr h
 ·have:k = R.length:=by omega
  subst this
  rw [List.take_length] at hI
  rw [if_neg (by simp only [decide_eq_true_eq]; omega)]
  exact bS.some (.inr ⟨_,rfl,fin s hI⟩)
theorem lg (x:entry) (l:List entry):fc (x :: l) = ((l.filter fun y=>mB x.b y.b).map fun y=>(⟨x.id,y.id⟩:A2)) ++ fc l:=rfl
theorem swo_key (f:Int → Int):Go.Sort.SWO fun x y=>decide (f x < f y) :=
 ⟨fun x=>by simp,fun x y z h1 h2=>by simp only [decide_eq_true_eq] at *; omega,fun x y z h1 h2=>by simp only [decide_eq_false_iff_not] at *; omega⟩
theorem sn (f:Int → Int) (zs:List Int):(fZ (fun x y=>decide (f x < f y)) zs).Perm zs ∧ (fZ (fun x y=>decide (f x < f y)) zs).Pairwise fun x y=>f x ≤ f y:=by
 unfold fZ
 split
 ·next h=>subst h; exact ⟨.refl _,.nil⟩
 ·obtain ⟨⟨h1,_,h2⟩,h3⟩:=Go.Sort.pdq_sorts _ (swo_key f) zs.toArray 0 zs.toArray.size (Go.Lib.bitLen zs.toArray.size) true true (Nat.zero_le _) (Nat.le_refl _) (.inl rfl)
  generalize Go.Sort.pdq _ zs.toArray 0 zs.toArray.size (Go.Lib.bitLen zs.toArray.size) true true = d at *
  constructor
  ·rw [← h1,Array.extract_size,h1,Array.extract_size] at h2
   exact h2
  ·rw [List.pairwise_iff_getElem]
   intro i j hi hj hij
   have:=h3 i j (Nat.zero_le _) hij (by rw [← h1]; simpa using hj)
   simp only [decide_eq_false_iff_not] at this
   simp only [Array.length_toList] at hi hj
   rw [getElem!_pos d i hi,getElem!_pos d j hj] at this
   simp only [Array.getElem_toList]
   omega
def bx (l:List bH) (k:Int):bH:=idx l k
theorem r8 {l:List bH} {z:Int} (h0:0 ≤ z) (h1:z < l.length):gm l z = (bx l z).Lo.a0:=by
 unfold gm bx idx
 congr 2
 rw [Nat.min_eq_left (by omega)]
def dead (l:List bH) (i k:Int):Bool:=decide ((bx l k).Hi.a0 < (bx l i).Lo.a0)
theorem oJ {l:List bH} {i k:Int} (i0:0 ≤ i) (i1:i < l.length) (k0:0 ≤ k) (k1:k < l.length):c4 20000 k l i = some (dead l i k):=by
 unfold c4
 rw [fi k0 k1,fi i0 i1]; rfl
theorem uk {l:List bH} {i:Int} {s:List Int} (hs:s.length < 1900) (i0:0 ≤ i) (i1:i < l.length) (h:∀ k ∈ s,0 ≤ k ∧ k < l.length) :
  bS (cD 20000 s (l,i)) fun r=>(r = -1 ∧ ∀ k ∈ s,dead l i k = false) ∨ ∃ pre x post,s = pre ++ x :: post ∧ r = pre.length ∧ (∀ k ∈ pre,dead l i k = false) ∧ dead l i x = true:=by
 unfold cD
 refine bS.bind (P:=fun o=>(o = .inl () ∧ ∀ k ∈ s,dead l i k = false) ∨ ∃ pre x post,s = pre ++ x :: post ∧ o = .inr (pre.length:Int) ∧ (∀ k ∈ pre,dead l i k = false) ∧ dead l i x = true) ?_ ?_
 ·refine bS.ea1 (l:=s) (I:=fun pre=>∀ k ∈ pre,dead l i k = false) (by omega) (by omega) (by simp) (fun pre x post e hx hI=>?_) (fun hI=>.inl ⟨rfl,hI⟩)
  have hm:=h x (by rw [e]; simp)
  rw [hx]
  simp only [Option.bind_some,oJ i0 i1 hm.1 hm.2]
  cases hd:dead l i x
  ·refine bS.some (.inl ⟨rfl,fun k hk=>?_⟩)
   rcases List.mem_append.1 hk with hk | hk
   ·exact hI k hk
   ·rw [List.mem_singleton] at hk; subst hk; exact hd
  ·exact bS.some (.inr ⟨_,rfl,.inr ⟨pre,x,post,e,rfl,hI,hd⟩⟩)
 ·rintro o (⟨rfl,h1⟩ | ⟨pre,x,post,h1,rfl,h2,h3⟩)
  ·exact bS.some (.inl ⟨rfl,h1⟩)
  ·exact bS.some (.inr ⟨pre,x,post,h1,rfl,h2,h3⟩)
theorem sG {l:List bH} {i:Int} {s:List Int} (hs:s.length < 1900) (i0:0 ≤ i) (i1:i < l.length) (h:∀ k ∈ s,0 ≤ k ∧ k < l.length) :
  cN 20000 (l,i) s = some (s.filter fun k=>!dead l i k):=by
 refine bS.eq ?_
 unfold cN
 refine bS.bind (uk hs i0 i1 h) ?_
 rintro r (⟨rfl,h1⟩ | ⟨pre,x,post,h1,rfl,h2,h3⟩)
 ·rw [if_pos (by decide)]
  exact bS.some (List.filter_eq_self.2 fun k hk=>by rw [h1 k hk]; rfl).symm
 ·rw [if_neg (by simp)]
  have hlen:s.length = pre.length + 1 + post.length:=by rw [h1]; simp; omega
  refine bS.bind (P:=fun o=>o.1.length = s.length ∧ o.2 = ((s.filter fun k=>!dead l i k).length:Int) ∧ o.1.take o.2.toNat = s.filter fun k=>!dead l i k) ?_ ?_
  ·refine bS.rounds (n:=post.length) (I:=fun k st=>k ≤ post.length ∧ st.2.2 = ((pre.length + 1 + k:Nat):Int) ∧ st.1.length = s.length ∧ st.1.drop (pre.length + 1 + k) = s.drop (pre.length + 1 + k) ∧ st.2.1 = (((s.take (pre.length + 1 + k)).filter fun k=>!dead l i k).length:Int) ∧ st.1.take st.2.1.toNat = (s.take (pre.length + 1 + k)).filter fun k=>!dead l i k) (by omega) ?_ ?_
   ·have e1:s.take (pre.length + 1) = pre ++ [x]:=by rw [h1,show pre ++ x :: post = (pre ++ [x]) ++ post by simp,List.take_left' (by simp)]
    have e2:(pre ++ [x]).filter (fun k=>!dead l i k) = pre:=by
     rw [List.filter_append,List.filter_eq_self.2 fun k hk=>by rw [h2 k hk]; rfl]
     simp [h3]
    refine ⟨Nat.zero_le _,?_,rfl,rfl,?_,?_⟩
    ·show IntKind.i64.wrap ((pre.length:Int) + 1) = _
     rw [mG (by omega) (by omega)]; push_cast; omega
    ·rw [Nat.add_zero,e1,e2]
    ·rw [Nat.add_zero,e1,e2]
     show s.take ((pre.length:Int)).toNat = pre
     rw [Int.toNat_natCast,h1,List.take_left]
   ·rintro k ⟨t,a,j⟩ hk ⟨hk',hj,hl,hd,ha,ht⟩
    simp only at hj hl hd ha ht
    subst hj
    simp only [sL,dS]
    by_cases hc:k < post.length
    ·rw [if_pos (by simp only [decide_eq_true_eq]; omega)]
     have hjl:pre.length + 1 + k < s.length:=by omega
     obtain ⟨y,hy⟩:∃ y,s[pre.length + 1 + k] = y:=⟨_,rfl⟩
     have hty:t[pre.length + 1 + k]'(by omega) = y:=by
      have:=congrArg (fun z=>z[0]?) hd
      simp only [List.getElem?_drop,Nat.add_zero] at this
      rw [List.getElem?_eq_getElem (by omega),List.getElem?_eq_getElem hjl] at this
      rw [← hy]; exact Option.some.inj this
     have hm:y ∈ s:=by rw [← hy]; exact List.getElem_mem _
     have hmb:=h y hm
     have hix:a8 t ((pre.length + 1 + k:Nat):Int) = some y:=by
      rw [fi (by omega) (by omega),ka _ _ (by omega),hty]
     rw [hix]
     simp only [Option.bind_some,oJ i0 i1 hmb.1 hmb.2]
     have hts:s.take (pre.length + 1 + (k + 1)) = s.take (pre.length + 1 + k) ++ [y]:=by
      rw [show pre.length + 1 + (k + 1) = (pre.length + 1 + k) + 1 by omega,List.take_succ_eq_append_getElem hjl,hy]
     have hfl:((s.take (pre.length + 1 + k)).filter fun k=>!dead l i k).length ≤ pre.length + 1 + k:=by
      have:=List.length_filter_le (fun k=>!dead l i k) (s.take (pre.length + 1 + k))
      rw [List.length_take] at this; omega
     have hw:IntKind.i64.wrap (((pre.length + 1 + k:Nat):Int) + 1) = ((pre.length + 1 + (k + 1):Nat):Int):=by rw [mG (by omega) (by omega)]; push_cast; omega
     have hdr:t.drop (pre.length + 1 + (k + 1)) = s.drop (pre.length + 1 + (k + 1)):=by
      have:=congrArg (List.drop 1) hd
      rw [List.drop_drop,List.drop_drop] at this
      exact this
     cases hde:dead l i y
     ·simp only [Bool.not_false,if_true]
      have hat:a.toNat < t.length:=by omega
      rw [fi (by omega) (by omega)]
      simp only [Option.bind_some]
      rw [hw]
      have hlst:((s.take (pre.length + 1 + k)).filter fun k=>!dead l i k).length = a.toNat:=by omega
      refine bS.some (.inl ⟨_,rfl,⟨by omega,rfl,?_,?_,?_,?_⟩,hc⟩)
      ·simp only [List.length_set]; exact hl
      ·simp only
       rw [List.drop_set,if_pos (by omega)]; exact hdr
      ·simp only
       rw [hts,List.filter_append,List.length_append,mG (by omega) (by omega),ha]
       simp [hde]
      ·simp only
       rw [hts,List.filter_append,← ht,mG (by omega) (by omega)]
       rw [show (a + 1).toNat = a.toNat + 1 by omega,List.take_succ_eq_append_getElem (by rw [List.length_set]; exact hat)]
       rw [List.getElem_set_self,List.take_set,List.set_eq_of_length_le (by rw [List.length_take]; omega)]
       simp [hde]
     ·simp only [Bool.not_true,Bool.false_eq_true,if_false,Option.bind_some]
      rw [hw]
      refine bS.some (.inl ⟨_,rfl,⟨by omega,rfl,hl,hdr,?_,?_⟩,hc⟩)
      ·simp only
       rw [hts,List.filter_append,ha]; simp [hde]
      ·simp only
       rw [hts,List.filter_append,← ht]; simp [hde]
    ·rw [if_neg (by simp only [decide_eq_true_eq]; omega)]
     have e3:s.take (pre.length + 1 + k) = s:=List.take_of_length_le (by omega)
     rw [e3] at ha ht
     exact bS.some (.inr ⟨_,rfl,hl,ha,ht⟩)
  ·rintro ⟨t,a⟩ ⟨g1,g2,g3⟩
   simp only at g1 g2 g3
   simp only [dS]
   have hfl:(s.filter fun k=>!dead l i k).length ≤ s.length:=List.length_filter_le _ _
   rw [sV,if_pos (by omega)]
   simp only [Option.bind_some]
   rw [mH,if_pos (by simp only [List.length_append,List.length_take,List.length_replicate]; omega)]
   refine bS.some ?_
   rw [List.take_left' (by rw [List.length_take]; omega),g3]
def ey:Nat → List bH → List entry
 | _,[]=>[]
 | k,b :: l=>⟨k,b⟩ :: ey (k + 1) l
def gl (l:List bH):List entry:=ey 0 l
theorem k9 (k:Nat) (b:bH) (l:List bH):ey k (b :: l) = ⟨k,b⟩ :: ey (k + 1) l:=rfl
theorem ml:∀ (k:Nat) (l:List bH),(ey k l).length = l.length
 | _,[]=>rfl
 | k,b :: l=>by simp [ey,ml (k + 1) l]
theorem mn:∀ (k:Nat) (a b:List bH),ey k (a ++ b) = ey k a ++ ey (k + a.length) b
 | k,[],b=>by simp [ey]
 | k,x :: a,b=>by
  simp only [List.cons_append,ey,mn (k + 1) a b,List.length_cons]
  rw [show k + 1 + a.length = k + (a.length + 1) by omega]
theorem mj {x:entry}:∀ {k:Nat} {l:List bH},x ∈ ey k l ↔ ∃ j,∃ h:j < l.length,x = ⟨((k + j:Nat):Int),l[j]⟩
 | k,[]=>by simp [ey]
 | k,b :: l=>by
  rw [k9,List.mem_cons,mj (k:=k + 1) (l:=l)]
  constructor
  ·rintro (rfl | ⟨j,h,rfl⟩)
   ·exact ⟨0,by simp,rfl⟩
   ·exact ⟨j + 1,by simp; omega,by simp [show k + 1 + j = k + (j + 1) by omega]⟩
  ·rintro ⟨j,h,rfl⟩
   cases j with
   | zero=>exact .inl rfl
   | succ j=>exact .inr ⟨j,by simpa using h,by simp [show k + 1 + j = k + (j + 1) by omega]⟩
theorem lK {l:List bH} {x:entry}:x ∈ gl l ↔ 0 ≤ x.id ∧ x.id < l.length ∧ x.b = bx l x.id:=by
 unfold gl
 rw [mj]
 constructor
 ·rintro ⟨j,h,rfl⟩
  refine ⟨by simp,by simpa using h,?_⟩
  show l[j] = idx l _
  rw [Nat.zero_add,ka _ _ h]
 ·rintro ⟨h0,h1,h2⟩
  obtain ⟨i,b⟩:=x
  simp only at h0 h1 h2
  refine ⟨i.toNat,by omega,?_⟩
  rw [h2]
  unfold bx
  obtain ⟨j,rfl⟩:∃ j:Nat,i = j:=⟨i.toNat,by omega⟩
  rw [ka _ _ (by omega)]
  simp
theorem oT:∀ (k:Nat) (l:List bH),kx 50 (ey k l)
 | _,[]=>.nil
 | k,b :: l=>by
  rw [k9]
  refine List.pairwise_cons.2 ⟨fun z hz=>?_,oT (k + 1) l⟩
  obtain ⟨j,h,rfl⟩:=mj.1 hz
  rw [gE]
  show (k:Int) < ((k + 1 + j:Nat):Int)
  omega
theorem nF (l:List bH):kx 50 (gl l):=oT 0 l
theorem mv {p:A2}:∀ {L:List entry},kx 50 L → (p ∈ fc L ↔ ∃ x ∈ L,∃ y ∈ L,x.id < y.id ∧ mB x.b y.b = true ∧ p = ⟨x.id,y.id⟩)
 | [],_=>by simp [fc]
 | z :: l,h=>by
  have h1:=List.pairwise_cons.1 h
  rw [lg,List.mem_append,mv h1.2]
  constructor
  ·rintro (hp | ⟨x,hx,y,hy,h2⟩)
   ·obtain ⟨y,hy,rfl⟩:=List.mem_map.1 hp
    rw [List.mem_filter] at hy
    exact ⟨z,by simp,y,by simp [hy.1],(gE _ _).1 (h1.1 y hy.1),hy.2,rfl⟩
   ·exact ⟨x,by simp [hx],y,by simp [hy],h2⟩
  ·rintro ⟨x,hx,y,hy,h2,h3,rfl⟩
   rcases List.mem_cons.1 hx with rfl | hx
   ·rcases List.mem_cons.1 hy with rfl | hy
    ·omega
    ·exact .inl (List.mem_map.2 ⟨y,List.mem_filter.2 ⟨hy,h3⟩,rfl⟩)
   ·rcases List.mem_cons.1 hy with h5 | hy
    ·have:=(gE _ _).1 (h1.1 x hx); rw [h5] at h2; omega
    ·exact .inr ⟨x,hx,y,hy,h2,h3,rfl⟩
def ltP (a b:A2):Prop:=a.a0 < b.a0 ∨ (a.a0 = b.a0 ∧ a.a1 < b.a1)
theorem nH:∀ {L:List entry},kx 50 L → (fc L).Pairwise ltP
 | [],_=>.nil
 | z :: l,h=>by
  have h1:=List.pairwise_cons.1 h
  rw [lg,List.pairwise_append]
  refine ⟨?_,nH h1.2,?_⟩
  ·rw [List.pairwise_map]
   refine (h1.2.filter _).imp fun h=>.inr ⟨rfl,(gE _ _).1 h⟩
  ·intro a ha b hb
   obtain ⟨y,hy,rfl⟩:=List.mem_map.1 ha
   obtain ⟨x,hx,w,_,_,_,rfl⟩:=(mv h1.2).1 hb
   exact .inl ((gE _ _).1 (h1.1 x hx))
theorem qB {L:List entry} (h:kx 50 L):(fc L).Nodup:=(nH h).imp fun h e=>by subst e; unfold ltP at h; omega
theorem uj {out m:List A2} (hp:out.Perm m) (hm:m.Pairwise ltP):isA out = m :=
 List.Perm.eq_of_pairwise (fun a b _ _ h1 h2=>p6 h1 h2) (qR out) (hm.imp fun h=>(nc _ _).2 (by unfold ltP at h; omega)) ((nD out).trans hp)
theorem qx {l:List bH} (hl:l.length < 1900):cu 20000 l 41 = some (l.any fun b=>!vB b):=by
 refine bS.eq ?_
 unfold cu dD
 refine bS.bind (P:=fun r=>decide (0 ≤ r) = l.any fun b=>!vB b) ?_ (fun r hr=>bS.some hr)
 refine bS.bind (P:=fun o=>(o = .inl () ∧ ∀ b ∈ l,vB b = true) ∨ ∃ i:Int,o = .inr i ∧ 0 ≤ i ∧ ∃ b ∈ l,vB b = false) ?_ ?_
 ·refine bS.ea1 (l:=l) (I:=fun pre=>∀ b ∈ pre,vB b = true) (by omega) (by omega) (by simp) (fun pre x post e hx hI=>?_) (fun hI=>.inl ⟨rfl,hI⟩)
  rw [hx]
  simp only [Option.bind_some,iF,eD,if_true,nw]
  cases hv:vB x
  ·exact bS.some (.inr ⟨_,rfl,.inr ⟨_,rfl,by omega,x,by rw [e]; simp,hv⟩⟩)
  ·refine bS.some (.inl ⟨rfl,fun b hb=>?_⟩)
   rcases List.mem_append.1 hb with hb | hb
   ·exact hI b hb
   ·rw [List.mem_singleton] at hb; subst hb; exact hv
 ·rintro o (⟨rfl,h⟩ | ⟨i,rfl,h0,b,hb,hv⟩)
  ·refine bS.some ?_
   symm
   rw [show decide ((0:Int) ≤ -1) = false from rfl,List.any_eq_false]
   intro b hb; simp [h b hb]
  ·refine bS.some ?_
   symm
   rw [decide_eq_true h0,List.any_eq_true]
   exact ⟨b,hb,by simp [hv]⟩
def up (n:Nat):List Int:=(List.range n).map fun k:Nat=>(k:Int)
theorem s8 {n:Nat} {k:Int}:k ∈ up n ↔ 0 ≤ k ∧ k < n:=by
 unfold up
 rw [List.mem_map]
 constructor
 ·rintro ⟨j,hj,rfl⟩
  rw [List.mem_range] at hj; omega
 ·intro h
  exact ⟨k.toNat,by rw [List.mem_range]; omega,by omega⟩
theorem up_succ (n:Nat):up (n + 1) = up n ++ [(n:Int)]:=by unfold up; rw [List.range_succ,List.map_append]; rfl
theorem s9 (n:Nat):(up n).length = n:=by unfold up; simp
theorem tP (n:Nat):(up n).Nodup:=by
 unfold up
 rw [List.Nodup,List.pairwise_map]
 exact List.nodup_range.imp fun h=>by omega
theorem fill_ok (n:Nat) (hn:n < 1900):iter 20000 (dS fun order_4 x_5=>if (decide (x_5 < ((List.replicate n (0:Int)).length:Int))) = true then (Option.bind (a8 order_4 x_5) (fun x_7=>some (.inl (order_4.set (x_5:Int).toNat x_5,IntKind.i64.wrap (x_5 + 1))))) else (some (.inr order_4))) (List.replicate n (0:Int),0) = some (up n):=by
 refine bS.eq ?_
 refine bS.ea2 (l:=List.replicate n (0:Int)) (G:=fun a=>a) (I:=fun pre a=>a = up pre.length ++ List.replicate (n - pre.length) 0) (by simp; omega) (by simp; omega) (by simp [up]) (fun pre x post a e hx hI=>?_) (fun a hI=>?_)
 ·have hal:n = pre.length + 1 + post.length:=by
   have:=congrArg List.length e
   simp at this; omega
  have hul:=s9 pre.length
  subst hI
  rw [fi (by omega) (by simp only [List.length_append,hul,List.length_replicate]; omega)]
  simp only [Option.bind_some,Int.toNat_natCast]
  refine bS.some (.inl ⟨_,rfl,?_⟩)
  rw [List.length_append,List.length_singleton,up_succ,List.set_append_right _ _ (by omega),hul,Nat.sub_self]
  rw [show n - pre.length = (n - (pre.length + 1)) + 1 by omega,List.replicate_succ,List.set_cons_zero]
  simp
 ·rw [hI]; simp
def ry (i k:Int):A2:=⟨min i k,max i k⟩
structure Swp (l:List bH) (pre active:List Int) (out:List A2):Prop where
 sub:∀ k ∈ active,k ∈ pre
 nd:active.Nodup
 gone:∀ k ∈ pre,k ∉ active → ∃ m ∈ pre,(bx l k).Hi.a0 < (bx l m).Lo.a0
 ond:out.Nodup
 om:∀ p,p ∈ out ↔ ∃ i ∈ pre,∃ k ∈ pre,i < k ∧ mB (bx l i) (bx l k) = true ∧ p = ⟨i,k⟩
theorem mB_lo {a b:bH} (h:mB a b = true):b.Lo.a0 ≤ a.Hi.a0:=((qP a b).1 h).1
theorem prP_inj {i k m:Int} (hk:k ≠ i) (hm:m ≠ i) (h:ry i k = ry i m):k = m:=by
 unfold ry at h
 simp only [A2.mk.injEq] at h
 omega
theorem tT {l:List bH} {pre active:List Int} {out:List A2} (h:Swp l pre active out) {i:Int} (hi:i ∉ pre) (hs:∀ m ∈ pre,(bx l m).Lo.a0 ≤ (bx l i).Lo.a0) :
  Swp l (pre ++ [i]) ((active.filter fun k=>!dead l i k) ++ [i]) (out ++ ((active.filter fun k=>!dead l i k).filter fun k=>mB (bx l i) (bx l k)).map (ry i)):=by
 have hne:∀ k ∈ active,k ≠ i:=fun k hk e=>hi (e ▸ h.sub k hk)
 refine ⟨?_,?_,?_,?_,?_⟩
 ·intro k hk
  rcases List.mem_append.1 hk with hk | hk
  ·exact List.mem_append.2 (.inl (h.sub k (List.mem_filter.1 hk).1))
  ·exact List.mem_append.2 (.inr hk)
 ·rw [List.nodup_append]
  refine ⟨h.nd.filter _,by simp,?_⟩
  intro a ha b hb
  rw [List.mem_singleton] at hb; subst hb
  exact hne a (List.mem_filter.1 ha).1
 ·intro k hk hna
  rw [List.mem_append,not_or] at hna
  rcases List.mem_append.1 hk with hk | hk
  ·by_cases ha:k ∈ active
   ·refine ⟨i,by simp,?_⟩
    have h1:dead l i k = true:=by
     cases hd:dead l i k
     ·exact absurd (List.mem_filter.2 ⟨ha,by simp [hd]⟩) hna.1
     ·rfl
    simpa [dead] using h1
   ·obtain ⟨m,hm,h2⟩:=h.gone k hk ha
    exact ⟨m,by simp [hm],h2⟩
  ·exact absurd hk hna.2
 ·rw [List.nodup_append]
  refine ⟨h.ond,?_,?_⟩
  ·rw [List.Nodup,List.pairwise_map]
   refine List.Pairwise.imp_of_mem (fun {a b} ha hb hab=>?_) ((h.nd.filter fun k=>!dead l i k).filter fun k=>mB (bx l i) (bx l k))
   have ha':=hne a (List.mem_filter.1 (List.mem_filter.1 ha).1).1
   have hb':=hne b (List.mem_filter.1 (List.mem_filter.1 hb).1).1
   exact fun e=>hab (prP_inj ha' hb' e)
  ·intro p hp q hq e
   subst e
   obtain ⟨a,ha,b,hb,_,_,rfl⟩:=(h.om _).1 hp
   obtain ⟨k,hk,e⟩:=List.mem_map.1 hq
   unfold ry at e
   simp only [A2.mk.injEq] at e
   have:i = a ∨ i = b:=by omega
   rcases this with rfl | rfl
   ·exact hi ha
   ·exact hi hb
 ·intro p
  rw [List.mem_append,h.om,List.mem_map]
  constructor
  ·rintro (⟨a,ha,b,hb,h1⟩ | ⟨k,hk,rfl⟩)
   ·exact ⟨a,by simp [ha],b,by simp [hb],h1⟩
   ·rw [List.mem_filter,List.mem_filter] at hk
    have hkp:=h.sub k hk.1.1
    have hki:=hne k hk.1.1
    by_cases hlt:i < k
    ·exact ⟨i,by simp,k,by simp [hkp],hlt,hk.2,by unfold ry; simp only [A2.mk.injEq]; omega⟩
    ·exact ⟨k,by simp [hkp],i,by simp,by omega,by rw [pk]; exact hk.2,by unfold ry; simp only [A2.mk.injEq]; omega⟩
  ·rintro ⟨a,ha,b,hb,h1,h2,rfl⟩
   have key:∀ k,k ∈ pre → mB (bx l i) (bx l k) = true → ∃ z,z ∈ (active.filter fun k=>!dead l i k).filter (fun k=>mB (bx l i) (bx l k)) ∧ ry i z = ry i k:=by
    intro k hk hm
    have hlo:=mB_lo (a:=bx l k) (b:=bx l i) (by rw [pk]; exact hm)
    have hact:k ∈ active:=by
     by_cases hc:k ∈ active
     ·exact hc
     ·obtain ⟨m,hm1,hm2⟩:=h.gone k hk hc
      have:=hs m hm1
      omega
    refine ⟨k,List.mem_filter.2 ⟨List.mem_filter.2 ⟨hact,?_⟩,hm⟩,rfl⟩
    simp [dead]; omega
   rcases List.mem_append.1 ha with ha1 | ha1 <;> rcases List.mem_append.1 hb with hb1 | hb1
   ·exact .inl ⟨a,ha1,b,hb1,h1,h2,rfl⟩
   ·rw [List.mem_singleton] at hb1; subst hb1
    obtain ⟨z,hz,e⟩:=key a ha1 (by rw [pk]; exact h2)
    refine .inr ⟨z,hz,e.trans ?_⟩
    unfold ry; simp only [A2.mk.injEq]; omega
   ·rw [List.mem_singleton] at ha1; subst ha1
    obtain ⟨z,hz,e⟩:=key b hb1 h2
    refine .inr ⟨z,hz,e.trans ?_⟩
    unfold ry; simp only [A2.mk.injEq]; omega
   ·rw [List.mem_singleton] at ha1 hb1; omega
theorem ux (l:List bH) (hl:l.length < 1000):cP 20000 l = some (if (l.any fun b=>!vB b) = true then ([],1) else (fc (gl l),0)):=by
 refine bS.eq ?_
 unfold cP
 refine bS.pO (qx (by omega)) ?_
 cases hv:l.any fun b=>!vB b
 ·rw [if_neg (by decide),if_neg (by decide)]
  refine bS.pO (x:=List.replicate l.length (0:Int)) (by rw [mk?,if_pos (by omega),Int.toNat_natCast]) ?_
  refine bS.pO (fill_ok l.length (by omega)) ?_
  have hup:=s9 l.length
  obtain ⟨hsp,hso⟩:=sn (gm l) (up l.length)
  refine bS.pO (x:=fZ (fun x y=>decide (gm l x < gm l y)) (up l.length)) ?_ ?_
  ·have hall:(up l.length).all (fun z=>decide (0 ≤ z ∧ z < (l.length:Int))) = true:=by
    rw [List.all_eq_true]
    intro k hk
    simpa using s8.1 hk
   unfold dQ
   rw [if_pos ⟨by omega,by omega,hall⟩]
  generalize fZ (fun x y=>decide (gm l x < gm l y)) (up l.length) = xs at hsp hso
  have hxl:xs.length = l.length:=by rw [hsp.length_eq,hup]
  have hxm:∀ k,k ∈ xs ↔ 0 ≤ k ∧ k < l.length:=fun k=>by rw [hsp.mem_iff,s8]
  have hxn:xs.Nodup:=hsp.nodup_iff.2 (tP _)
  refine bS.bind (P:=fun out=>out.Perm (fc (gl l)) ∧ out.length < 1000000000) ?_ ?_
  ·refine bS.ea3 (l:=xs) (G:=fun _ b=>b) (I:=fun pre a b=>Swp l pre a b ∧ a.length ≤ pre.length ∧ b.length ≤ pre.length * 1000) (by omega) (by omega) ⟨⟨by simp,by simp,by simp,by simp,by simp⟩,by simp,by simp⟩ (fun pre i post a b e hx hI=>?_) (fun a b hI=>?_)
   ·obtain ⟨hI,hla,hlb⟩:=hI
    have him:=(hxm i).1 (by rw [e]; simp)
    have hpl:xs.length = pre.length + 1 + post.length:=by rw [e]; simp; omega
    have hpm:∀ k ∈ pre,0 ≤ k ∧ k < l.length:=fun k hk=>(hxm k).1 (by rw [e]; simp [hk])
    have hpi:i ∉ pre:=by
     intro hc
     rw [e] at hxn
     exact (List.nodup_append.1 hxn).2.2 i hc i (by simp) rfl
    have hps:∀ m ∈ pre,(bx l m).Lo.a0 ≤ (bx l i).Lo.a0:=by
     intro m hm
     rw [e] at hso
     have:=(List.pairwise_append.1 hso).2.2 m hm i (by simp)
     rw [r8 (hpm m hm).1 (hpm m hm).2,r8 him.1 him.2] at this
     exact this
    have hst:=tT hI hpi hps
    have hfl:(a.filter fun k=>!dead l i k).length ≤ a.length:=List.length_filter_le _ _
    have ham:∀ k ∈ a.filter (fun k=>!dead l i k),0 ≤ k ∧ k < l.length:=fun k hk=>hpm k (hI.sub k (List.mem_filter.1 hk).1)
    rw [hx]
    simp only [Option.bind_some]
    rw [sG (by omega) him.1 him.2 fun k hk=>hpm k (hI.sub k hk)]
    simp only [Option.bind_some]
    generalize hd:a.filter (fun k=>!dead l i k) = d at *
    obtain ⟨o,ho,ho2⟩:bS (iter 20000 (dS fun out_19 x_20=>if (decide (x_20 < (d.length:Int))) = true then (Option.bind (Option.bind (a8 d x_20) (fun x_23=>Option.bind (a8 l i) (fun x_24=>Option.bind (a8 l x_23) (fun x_25=>Option.bind (b4 20000 x_24 x_25) (fun x_26=>if x_26 = true then (Option.bind (jy out_19 [(⟨min i x_23,max i x_23⟩:A2)]) (fun x_27=>some x_27)) else (some out_19)))))) (fun out_22=>some (.inl (out_22,IntKind.i64.wrap (x_20 + 1))))) else (some (.inr out_19))) (b,0)) fun o=>o = b ++ (d.filter fun k=>mB (bx l i) (bx l k)).map (ry i):=by
     refine bS.ea2 (l:=d) (G:=fun c=>c) (I:=fun p c=>c = b ++ (p.filter fun k=>mB (bx l i) (bx l k)).map (ry i)) (by omega) (by omega) (by simp) (fun p k po c e' hx' hI'=>?_) (fun c hc=>hc)
     have hkm:=ham k (by rw [e']; simp)
     rw [hx',fi him.1 him.2]
     simp only [Option.bind_some]
     rw [fi hkm.1 hkm.2]
     simp only [Option.bind_some,rT]
     have hcl:c.length ≤ b.length + p.length:=by
      rw [hI',List.length_append,List.length_map]
      have:=List.length_filter_le (fun k=>mB (bx l i) (bx l k)) p
      omega
     have hdl:d.length = p.length + 1 + po.length:=by rw [e']; simp; omega
     by_cases hc:mB (bx l i) (bx l k) = true
     ·rw [if_pos (show mB (idx l i) (idx l k) = true from hc),jy,if_pos (by simp only [List.length_cons,List.length_nil]; omega)]
      exact ⟨_,rfl,.inl ⟨_,rfl,by rw [hI',List.filter_append]; simp [hc,ry]⟩⟩
     ·rw [if_neg (show ¬ mB (idx l i) (idx l k) = true from hc)]
      exact ⟨_,rfl,.inl ⟨_,rfl,by rw [hI',List.filter_append]; simp [hc]⟩⟩
    rw [ho]
    simp only [Option.bind_some]
    rw [jy,if_pos (by simp only [List.length_cons,List.length_nil]; omega)]
    subst ho2
    refine ⟨_,rfl,.inl ⟨_,_,rfl,hst,by simp; omega,?_⟩⟩
    rw [List.length_append,List.length_append,List.length_map,List.length_singleton]
    have:=List.length_filter_le (fun k=>mB (bx l i) (bx l k)) d
    omega
   ·obtain ⟨hI,hla,hlb⟩:=hI
    refine ⟨?_,by omega⟩
    rw [List.perm_ext_iff_of_nodup hI.ond (qB (nF l))]
    intro p
    rw [hI.om,mv (nF l)]
    constructor
    ·rintro ⟨i,hi,k,hk,h1,h2,rfl⟩
     have a1:=(hxm i).1 hi; have a2:=(hxm k).1 hk
     exact ⟨⟨i,bx l i⟩,lK.2 ⟨a1.1,a1.2,rfl⟩,⟨k,bx l k⟩,lK.2 ⟨a2.1,a2.2,rfl⟩,h1,h2,rfl⟩
    ·rintro ⟨x,hx,y,hy,h1,h2,rfl⟩
     obtain ⟨x1,x2,x3⟩:=lK.1 hx
     obtain ⟨y1,y2,y3⟩:=lK.1 hy
     exact ⟨x.id,(hxm _).2 ⟨x1,x2⟩,y.id,(hxm _).2 ⟨y1,y2⟩,h1,by rw [← x3,← y3]; exact h2,rfl⟩
  ·rintro out ⟨h1,h2⟩
   unfold c8
   rw [pR]
   unfold sW
   rw [if_pos h2,uj h1 (nH (nF l))]
   exact bS.some rfl
 ·rw [if_pos rfl,if_pos rfl]
  exact bS.some rfl
theorem rall_ok (l:List bH) (hl:l.length < 1900):cO 20000 l = some (l.all vB):=by
 refine bS.eq ?_
 unfold cO
 refine bS.bind (P:=fun o=>(o = .inl () ∧ ∀ b ∈ l,vB b = true) ∨ (o = .inr false ∧ ∃ b ∈ l,vB b = false)) ?_ ?_
 ·refine bS.ea1 (l:=l) (I:=fun pre=>∀ b ∈ pre,vB b = true) (by omega) (by omega) (by simp) (fun pre x post e hx hI=>?_) (fun hI=>.inl ⟨rfl,hI⟩)
  rw [hx]
  simp only [Option.bind_some,so]
  cases hv:vB x
  ·exact bS.some (.inr ⟨_,rfl,.inr ⟨rfl,x,by rw [e]; simp,hv⟩⟩)
  ·refine bS.some (.inl ⟨rfl,fun b hb=>?_⟩)
   rcases List.mem_append.1 hb with hb | hb
   ·exact hI b hb
   ·rw [List.mem_singleton] at hb; subst hb; exact hv
 ·rintro o (⟨rfl,h⟩ | ⟨rfl,b,hb,hv⟩)
  ·exact bS.some (List.all_eq_true.2 h).symm
  ·exact bS.some (by symm; rw [List.all_eq_false]; exact ⟨b,hb,by simp [hv]⟩)
theorem any_all (l:List bH):(l.any fun b=>!vB b) = !l.all vB:=by rw [List.not_all_eq_any_not]
theorem sr (l:List bH) (hl:l.length < 1000):cx 20000 l = some (if (l.any fun b=>!vB b) = true then ([],1) else (fc (gl l),0)):=by
 have hbl:(fc (gl l)).length ≤ 1000000:=by
  have h1:=mw (gl l)
  have h2:(gl l).length = l.length:=ml 0 l
  have:(gl l).length * (gl l).length ≤ 1000 * 1000:=Nat.mul_le_mul (by omega) (by omega)
  omega
 refine bS.eq ?_
 unfold cx
 refine bS.pO (rall_ok l (by omega)) ?_
 rw [any_all]
 cases hv:l.all vB
 ·exact bS.some rfl
 ·rw [if_neg (by decide),if_neg (by decide)]
  refine bS.bind (P:=fun r=>r = fc (gl l)) ?_ (fun r hr=>by rw [hr]; exact bS.some rfl)
  refine bS.ea2 (l:=l) (G:=fun a=>a) (I:=fun pre a=>∃ q,l = pre ++ q ∧ a ++ fc (ey pre.length q) = fc (gl l)) (by omega) (by omega) ⟨_,rfl,rfl⟩ (fun pre z post a e hx hI=>?_) (fun a hI=>?_)
  ·obtain ⟨q,h1,h2⟩:=hI
   have hq:q = z :: post:=List.append_cancel_left (h1.symm.trans e)
   subst hq
   rw [k9,lg] at h2
   have hpl:l.length = pre.length + 1 + post.length:=by rw [e]; simp; omega
   let W:List bH → List A2:=fun p=>((ey (pre.length + 1) p).filter fun y=>mB z y.b).map fun y=>(⟨(pre.length:Int),y.id⟩:A2)
   have hW:∀ p y,W (p ++ [y]) = W p ++ (if mB z y = true then [⟨(pre.length:Int),((pre.length + 1 + p.length:Nat):Int)⟩] else []):=by
    intro p y
    show ((ey (pre.length + 1) (p ++ [y])).filter _).map _ = _
    rw [mn,List.filter_append,List.map_append]
    congr 1
    simp only [ey,List.filter_cons,List.filter_nil]
    split <;> simp_all
   refine bS.bind (P:=fun r=>r = a ++ W post) ?_ (fun r hr=>?_)
   ·refine bS.bind (P:=fun r=>r = a ++ W post) ?_ (fun r hr=>bS.some hr)
    refine ea2f (l:=l) (P:=pre ++ [z]) (R:=post) (by rw [e]; simp) (G:=fun a=>a) (I:=fun p b=>b = a ++ W p) (by omega) (by omega) (by simp [W,ey]) (fun p y po b e' hx' hI'=>?_) (fun b hb=>hb) (by rw [mG (by omega) (by omega)]; simp)
    rw [hx,hx']
    simp only [Option.bind_some,tY]
    by_cases hc:mB z y = true
    ·have hbl':b.length ≤ 1000000:=by
      have h3:=congrArg List.length h2
      have h4:post = p ++ ([y] ++ po):=by rw [e']; simp
      rw [h4] at h3
      rw [mn] at h3
      simp only [List.filter_append,List.map_append,List.length_append] at h3
      rw [hI',List.length_append]
      show a.length + (((ey (pre.length + 1) p).filter fun y=>mB z y.b).map fun y=>(⟨(pre.length:Int),y.id⟩:A2)).length ≤ _
      omega
     rw [if_pos hc,jy,if_pos (by simp only [List.length_cons,List.length_nil]; omega)]
     refine ⟨_,rfl,.inl ⟨_,rfl,?_⟩⟩
     rw [hI',hW,if_pos hc]
     simp
    ·rw [if_neg hc]
     refine ⟨_,rfl,.inl ⟨_,rfl,?_⟩⟩
     rw [hI',hW,if_neg hc]
     simp
   ·rw [hr]
    refine bS.some (.inl ⟨_,rfl,post,by rw [e]; simp,?_⟩)
    rw [← h2,List.append_assoc,List.length_append,List.length_singleton]
  ·obtain ⟨q,h1,h2⟩:=hI
   have:q = []:=by
    have:=congrArg List.length h1
    simp only [List.length_append] at this
    exact List.length_eq_zero_iff.1 (by omega)
   subst this
   simpa [fc,ey] using h2
theorem pS {F:Nat} (a:List A2) (ha:a.length < F) (ha2:a.length ≤ 1000000000):a6 F a a = some true:=by
 refine bS.eq ?_
 unfold a6
 rw [if_neg (by simp)]
 refine bS.bind (P:=fun o=>o = .inl ()) ?_ (by rintro _ rfl; exact bS.some rfl)
 refine bS.ea1 (l:=a) (I:=fun _=>True) (by omega) (by omega) trivial (fun pre x post e hx hI=>?_) (fun _=>rfl)
 rw [hx]
 simp only [Option.bind_some,ne_eq,not_true_eq_false,decide_false,Bool.false_eq_true,if_false]
 exact bS.some (.inl ⟨rfl,trivial⟩)
theorem ss (l:List bH):bm 20000 l = some true:=by
 unfold bm
 by_cases h:120 < (l.length:Int)
 ·rw [if_pos (by simpa using h),oG]; rfl
 ·rw [if_neg (by simpa using h),ux l (by omega),sr l (by omega),oG]
  have hb:(fc (gl l)).length ≤ 14400:=by
   have h1:=mw (gl l)
   have h2:(gl l).length = l.length:=ml 0 l
   have:(gl l).length * (gl l).length ≤ 120 * 120:=Nat.mul_le_mul (by omega) (by omega)
   omega
  by_cases hv:(l.any fun b=>!vB b) = true
  ·rw [if_pos hv]
   simp only [Option.bind_some,dS,bN,if_true]
   rw [pS [] (by simp) (by simp)]; rfl
  ·rw [if_neg hv]
   simp only [Option.bind_some,dS,bN,if_true]
   rw [pS _ (by omega) (by omega)]; rfl
def Hol (s:dd) (M:List entry):Prop:=∃ L,jG s L ∧ L.Perm M
theorem Hol.put {s:dd} {M:List entry} (h:Hol s M) (hM:M.length < 900) {id:Int} {b:bH} (hv:vB b = true) (hn:∀ x ∈ M,x.id ≠ id) :
  ∃ s',b5 20000 s id b = some (s',0) ∧ Hol s' (⟨id,b⟩ :: M):=by
 obtain ⟨L,h1,h2⟩:=h
 obtain ⟨s',e,h3,h4⟩:=Put_ok h1 (by rw [h2.length_eq]; omega) id b
 rcases h4 with ⟨h4,_⟩ | ⟨_,⟨x,hx,h4⟩,_⟩ | ⟨_,_,rfl,h4⟩
 ·rw [hv] at h4; cases h4
 ·exact absurd h4 (hn x (h2.mem_iff.1 hx))
 ·exact ⟨s',h3,_,h4,(iJ _ _).trans (h2.cons _)⟩
theorem Hol.del {s:dd} {M:List entry} {x:entry} (h:Hol s (x :: M)) (hM:M.length < 900) :
  ∃ s',b7 20000 s x.id = some (s',0) ∧ Hol s' M:=by
 obtain ⟨L,h1,h2⟩:=h
 obtain ⟨s',e,h3,h4⟩:=sK h1 (by rw [h2.length_eq]; simp; omega) x.id
 have hx:x ∈ L:=h2.mem_iff.2 (by simp)
 rcases h4 with ⟨h4,_⟩ | ⟨_,rfl,h4⟩
 ·exact absurd rfl (h4 x hx)
 ·exact ⟨s',h3,_,h4,List.perm_cons x |>.1 ((oU h1.s1 hx).trans h2)⟩
theorem Hol.eq {s:dd} {M:List entry} (h:Hol s M) (hs:kx 50 M):jG s M:=by
 obtain ⟨L,h1,h2⟩:=h
 rw [← qK h1.s1 hs h2]; exact h1
end Go.Proofs.YtagpkeehkcopaaaGreat
namespace Go.Proofs.YtagpkeehkcopaaaGreat
open Go Go.Sk
theorem su (x0:List bH):an Tryz.prog [] 4 [] [.one (.sl 6 (x0.map aj))] (Is [] (.b (.one (.bool true)))) :=
 ed (ss x0)
end Go.Proofs.YtagpkeehkcopaaaGreat
