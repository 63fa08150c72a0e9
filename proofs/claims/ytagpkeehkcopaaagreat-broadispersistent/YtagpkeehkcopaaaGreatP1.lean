/- the plain law -/
import Derived.Test.YtagpkeehkcopaaaGreatW2
import Derived.Sort.AssemblyPlain
namespace Go.Proofs.YtagpkeehkcopaaaGreat
open Go Go.Sk
set_option maxRecDepth 100000
set_option linter.unusedVariables false
set_option linter.unusedSimpArgs false
def sH (x:Int):List Int → List Int
 | []=>[x]
 | y :: l=>if x ≤ y then x :: y :: l else y :: sH x l
def qb:List Int → List Int
 | []=>[]
 | x :: l=>sH x (qb l)
theorem nL (x:Int):∀ l:List Int,(sH x l).Perm (x :: l)
 | []=>.refl _
 | y :: l=>by
  unfold sH
  split
  ·exact .refl _
  ·exact .trans (.cons y (nL x l)) (.swap x y l)
theorem pJ:∀ l:List Int,(qb l).Perm l
 | []=>.refl _
 | x :: l=>(nL x (qb l)).trans (.cons x (pJ l))
theorem ui (x:Int):∀ l:List Int,l.Pairwise (· ≤ ·) → (sH x l).Pairwise (· ≤ ·)
 | [],_=>by simp [sH]
 | y :: l,h=>by
  unfold sH
  have h1:=List.pairwise_cons.1 h
  split
  ·next hc=>
   refine List.pairwise_cons.2 ⟨fun z hz=>?_,h⟩
   rcases List.mem_cons.1 hz with rfl | hz
   ·exact hc
   ·exact Int.le_trans hc (h1.1 z hz)
  ·next hc=>
   refine List.pairwise_cons.2 ⟨fun z hz=>?_,ui x l h1.2⟩
   rcases List.mem_cons.1 ((nL x l).mem_iff.1 hz) with rfl | hz
   ·omega
   ·exact h1.1 z hz
theorem rY:∀ l:List Int,(qb l).Pairwise (· ≤ ·)
 | []=>.nil
 | x :: l=>ui x _ (rY l)
theorem sorted_perm (l:List Int):(sorted l).Perm l:=List.mergeSort_perm _ _
theorem qm (l:List Int):(sorted l).Pairwise (· ≤ ·) :=
 (List.pairwise_mergeSort (le:=fun x y:Int=>decide (x ≤ y)) (fun a b c h1 h2=>by simp only [decide_eq_true_eq] at *; omega) (fun a b=>by simp only [Bool.or_eq_true,decide_eq_true_eq]; omega) l).imp fun h=>of_decide_eq_true h
theorem uG (l:List Int):sorted l = qb l :=
 List.Perm.eq_of_pairwise (fun a b _ _ h1 h2=>Int.le_antisymm h1 h2) (qm l) (rY l) ((sorted_perm l).trans (pJ l).symm)
def sort2 (F:Nat) (zs:List Int):Option (List Int):=if zs.length < 1000000000 then some (qb zs) else none
theorem sort_eq:fF = sort2:=by
 funext F zs
 unfold fF oU sort2
 rw [uG]
def sG (x:A2):List A2 → List A2
 | []=>[x]
 | y :: l=>if jm y x = true then y :: sG x l else x :: y :: l
def isA:List A2 → List A2
 | []=>[]
 | x :: l=>sG x (isA l)
def u5 (x y:A2):Prop:=jm y x = false
theorem q5 (x y:A2):u5 x y ↔ (x.a0 < y.a0 ∨ (x.a0 = y.a0 ∧ x.a1 ≤ y.a1)):=by
 simp only [u5,jm,decide_eq_false_iff_not]; omega
theorem nK (x:A2):∀ l:List A2,(sG x l).Perm (x :: l)
 | []=>.refl _
 | y :: l=>by
  unfold sG
  split
  ·exact .trans (.cons y (nK x l)) (.swap x y l)
  ·exact .refl _
theorem rZ:∀ l:List A2,(isA l).Perm l
 | []=>.refl _
 | x :: l=>(nK x (isA l)).trans (.cons x (rZ l))
theorem uh (x:A2):∀ l:List A2,l.Pairwise u5 → (sG x l).Pairwise u5
 | [],_=>by simp [sG]
 | y :: l,h=>by
  unfold sG
  have h1:=List.pairwise_cons.1 h
  split
  ·next hc=>
   refine List.pairwise_cons.2 ⟨fun z hz=>?_,uh x l h1.2⟩
   rcases List.mem_cons.1 ((nK x l).mem_iff.1 hz) with rfl | hz
   ·rw [q5]; simp only [jm,decide_eq_true_eq] at hc; omega
   ·exact h1.1 z hz
  ·next hc=>
   refine List.pairwise_cons.2 ⟨fun z hz=>?_,h⟩
   have hxy:u5 x y:=by simpa [u5] using hc
   rcases List.mem_cons.1 hz with rfl | hz
   ·exact hxy
   ·have h2:=h1.1 z hz
    rw [q5] at *; omega
theorem vv:∀ l:List A2,(isA l).Pairwise u5
 | []=>.nil
 | x :: l=>uh x _ (vv l)
theorem wC {x y:A2} (h1:u5 x y) (h2:u5 y x):x = y:=by
 rw [q5] at *
 cases x; cases y
 simp only [A2.mk.injEq] at *
 omega
theorem uM (l:List A2):(l.mergeSort fun a b=>!jm b a) = isA l:=by
 have hp:(l.mergeSort fun a b=>!jm b a).Pairwise u5 :=
  (List.pairwise_mergeSort (le:=fun a b=>!jm b a) (fun a b c h1 h2=>by simp only [jm,Bool.not_eq_true',decide_eq_false_iff_not] at *; omega) (fun a b=>by simp only [jm,Bool.or_eq_true,Bool.not_eq_true',decide_eq_false_iff_not]; omega) l).imp fun h=>by simpa [u5] using h
 exact List.Perm.eq_of_pairwise (fun a b _ _ h1 h2=>wC h1 h2) hp (vv l) ((List.mergeSort_perm _ _).trans (rZ l).symm)
def sortA (F:Nat) (zs:List A2):Option (List A2):=if zs.length < 1000000000 then some (isA zs) else none
theorem we:dA = sortA:=by
 funext F zs
 unfold dA sortA
 rw [uM]
theorem qn:cq 20000 = some true:=by
 unfold cq cI cX cH cp fH eY
 rw [sort_eq,we]
 decide +kernel
def vB (b:cg):Bool:=decide (b.Lo.a0 ≤ b.Hi.a0 ∧ -1125899906842624 ≤ b.Lo.a0 ∧ b.Hi.a0 ≤ 1125899906842624 ∧ b.Lo.a1 ≤ b.Hi.a1 ∧ -1125899906842624 ≤ b.Lo.a1 ∧ b.Hi.a1 ≤ 1125899906842624 ∧ b.Lo.a2 ≤ b.Hi.a2 ∧ -1125899906842624 ≤ b.Lo.a2 ∧ b.Hi.a2 ≤ 1125899906842624)
def mB (a b:cg):Bool:=decide (b.Lo.a0 ≤ a.Hi.a0 ∧ a.Lo.a0 ≤ b.Hi.a0 ∧ b.Lo.a1 ≤ a.Hi.a1 ∧ a.Lo.a1 ≤ b.Hi.a1 ∧ b.Lo.a2 ≤ a.Hi.a2 ∧ a.Lo.a2 ≤ b.Hi.a2)
def hB (a b:cg):cg:=⟨⟨min a.Lo.a0 b.Lo.a0,min a.Lo.a1 b.Lo.a1,min a.Lo.a2 b.Lo.a2⟩,⟨max a.Hi.a0 b.Hi.a0,max a.Hi.a1 b.Hi.a1,max a.Hi.a2 b.Hi.a2⟩⟩
theorem lx0 (a b c:Int):a8 [a,b,c] 0 = some a:=rfl
theorem lx1 (a b c:Int):a8 [a,b,c] 1 = some b:=rfl
theorem lx2 (a b c:Int):a8 [a,b,c] 2 = some c:=rfl
theorem w1:IntKind.i64.wrap (0 + 1) = 1:=rfl
theorem w2:IntKind.i64.wrap (1 + 1) = 2:=rfl
theorem w3:IntKind.i64.wrap (2 + 1) = 3:=rfl
theorem iter4n {σ τ:Type} (n:Nat) (body:σ → Option (σ ⊕ τ)) (s:σ):iter (n + 4) body s = (body s).bind (cL (fun s=>(body s).bind (cL (fun s=>(body s).bind (cL (fun s=>(body s).bind (cL (iter n body) some)) some)) some)) some):=rfl
theorem tO {σ τ:Type} (body:σ → Option (σ ⊕ τ)) (s:σ):∃ K:σ → Option τ,iter 20000 body s = (body s).bind (cL (fun s=>(body s).bind (cL (fun s=>(body s).bind (cL (fun s=>(body s).bind (cL K some)) some)) some)) some):=⟨iter 19996 body,iter4n 19996 body s⟩
theorem d03:decide ((0:Int) < 3) = true:=rfl
theorem d13:decide ((1:Int) < 3) = true:=rfl
theorem d23:decide ((2:Int) < 3) = true:=rfl
theorem d33:decide ((3:Int) < 3) = false:=rfl
theorem rV {α:Type} (lo hi:Int) (A B:Option α):((bD (!decide (hi < lo)) (some lo)).bind fun x4=>(bD (!(decide (hi < lo) || decide (x4 < -1125899906842624))) (some hi)).bind fun x5=>if ((decide (hi < lo) || decide (x4 < -1125899906842624)) || decide (1125899906842624 < x5)) = true then A else B) =
  if (lo ≤ hi ∧ -1125899906842624 ≤ lo ∧ hi ≤ 1125899906842624) then B else A:=by
 by_cases h1:hi < lo
 ·rw [if_neg (by omega)]; simp [bD,h1]
 ·have g1:decide (hi < lo) = false:=by simpa using h1
  rw [g1]
  by_cases h2:lo < -1125899906842624
  ·have g2:decide (lo < -1125899906842624) = true:=by simpa using h2
   rw [if_neg (by omega)]; simp only [bD,Bool.not_false,if_true,Option.bind_some,g2,Bool.or_true,Bool.true_or,Bool.not_true,Bool.false_eq_true,if_false,Bool.false_or]
  ·have g2:decide (lo < -1125899906842624) = false:=by simpa using h2
   by_cases h3:1125899906842624 < hi
   ·rw [if_neg (by omega)]; simp only [bD,Bool.not_false,if_true,Option.bind_some,g2,Bool.or_false,Bool.false_or,h3,decide_true]
   ·rw [if_pos (by omega)]; simp only [bD,Bool.not_false,if_true,Option.bind_some,g2,Bool.or_false,Bool.false_or,h3,decide_false,Bool.false_eq_true,if_false]
theorem rM {α:Type} (ah bl bh al:Int) (A B:Option α):((bD (!decide (ah < bl)) (some bh)).bind fun x4=>(bD (!decide (ah < bl)) (some al)).bind fun x5=>if (decide (ah < bl) || decide (x4 < x5)) = true then A else B) =
  if (bl ≤ ah ∧ al ≤ bh) then B else A:=by
 by_cases h1:ah < bl
 ·rw [if_neg (by omega)]; simp [bD,h1]
 ·by_cases h2:bh < al
  ·rw [if_neg (by omega)]; simp [bD,h1,h2]
  ·rw [if_pos (by omega)]; simp [bD,h1,h2]
theorem mU (b:cg):cB 20000 b = some (vB b):=by
 obtain ⟨⟨a0,a1,a2⟩,⟨b0,b1,b2⟩⟩:=b
 unfold cB
 obtain ⟨K,hK⟩:=tO _ _
 rw [hK]
 clear hK
 simp only [A3.l,d03,d13,d23,d33,if_true,lx0,lx1,lx2,w1,w2,w3,Option.bind_some,rV,cL]
 unfold vB
 by_cases h0:a0 ≤ b0 ∧ -1125899906842624 ≤ a0 ∧ b0 ≤ 1125899906842624
 ·rw [if_pos h0]
  simp only [A3.l,d03,d13,d23,d33,if_true,lx0,lx1,lx2,w1,w2,w3,Option.bind_some,rV,cL]
  by_cases h1:a1 ≤ b1 ∧ -1125899906842624 ≤ a1 ∧ b1 ≤ 1125899906842624
  ·rw [if_pos h1]
   simp only [A3.l,d03,d13,d23,d33,if_true,lx0,lx1,lx2,w1,w2,w3,Option.bind_some,rV,cL]
   by_cases h2:a2 ≤ b2 ∧ -1125899906842624 ≤ a2 ∧ b2 ≤ 1125899906842624
   ·rw [if_pos h2]
    simp only [d33,Option.bind_some,cL,Bool.false_eq_true,if_false]
    exact congrArg some (decide_eq_true (by omega)).symm
   ·rw [if_neg h2]
    simp only [Option.bind_some,cL]
    exact congrArg some (decide_eq_false (by omega)).symm
  ·rw [if_neg h1]
   simp only [Option.bind_some,cL]
   exact congrArg some (decide_eq_false (by omega)).symm
 ·rw [if_neg h0]
  simp only [Option.bind_some,cL]
  exact congrArg some (decide_eq_false (by omega)).symm
theorem nC (b:cg):bT 20000 b = some (vB b):=(show bT 20000 b = cB 20000 b from rfl).trans (mU b)
theorem qZ (a b:cg):cQ 20000 a b = some (mB a b):=by
 obtain ⟨⟨al0,al1,al2⟩,⟨ah0,ah1,ah2⟩⟩:=a
 obtain ⟨⟨bl0,bl1,bl2⟩,⟨bh0,bh1,bh2⟩⟩:=b
 unfold cQ
 obtain ⟨K,hK⟩:=tO _ _
 rw [hK]
 clear hK
 simp only [A3.l,d03,d13,d23,d33,if_true,lx0,lx1,lx2,w1,w2,w3,Option.bind_some,rM,cL]
 unfold mB
 by_cases h0:bl0 ≤ ah0 ∧ al0 ≤ bh0
 ·rw [if_pos h0]
  simp only [A3.l,d03,d13,d23,d33,if_true,lx0,lx1,lx2,w1,w2,w3,Option.bind_some,rM,cL]
  by_cases h1:bl1 ≤ ah1 ∧ al1 ≤ bh1
  ·rw [if_pos h1]
   simp only [A3.l,d03,d13,d23,d33,if_true,lx0,lx1,lx2,w1,w2,w3,Option.bind_some,rM,cL]
   by_cases h2:bl2 ≤ ah2 ∧ al2 ≤ bh2
   ·rw [if_pos h2]
    simp only [d33,Option.bind_some,cL,Bool.false_eq_true,if_false]
    exact congrArg some (decide_eq_true (by omega)).symm
   ·rw [if_neg h2]
    simp only [Option.bind_some,cL]
    exact congrArg some (decide_eq_false (by omega)).symm
  ·rw [if_neg h1]
   simp only [Option.bind_some,cL]
   exact congrArg some (decide_eq_false (by omega)).symm
 ·rw [if_neg h0]
  simp only [Option.bind_some,cL]
  exact congrArg some (decide_eq_false (by omega)).symm
theorem pf (a b:cg):bH 20000 a b = some (mB a b):=(show bH 20000 a b = cQ 20000 a b from rfl).trans (qZ a b)
def zB:cg:=⟨A3.zero,A3.zero⟩
theorem sS (a b:cg):mB a b = true ↔ (b.Lo.a0 ≤ a.Hi.a0 ∧ a.Lo.a0 ≤ b.Hi.a0 ∧ b.Lo.a1 ≤ a.Hi.a1 ∧ a.Lo.a1 ≤ b.Hi.a1 ∧ b.Lo.a2 ≤ a.Hi.a2 ∧ a.Lo.a2 ≤ b.Hi.a2):=by
 unfold mB; exact decide_eq_true_iff
theorem mB_comm (a b:cg):mB a b = mB b a:=by
 rw [Bool.eq_iff_iff,sS,sS]; omega
def c1 (x y:Int):Int:=if x < y then -1 else if y < x then 1 else 0
theorem mx (x y:Int):dP 20000 x y = some (c1 x y):=by
 unfold dP er c1
 simp only [Option.bind_some,show decide (x ≠ x) = false by simp,show decide (y ≠ y) = false by simp,Bool.false_eq_true,if_false,decide_eq_true_eq]
 split
 ·rfl
 ·split <;> rfl
structure Ky where
 a:Int
 b:Int
 c:Int
 d:Int
def lk4 (x y:Ky):Prop:=x.a < y.a ∨ (x.a = y.a ∧ (x.b < y.b ∨ (x.b = y.b ∧ (x.c < y.c ∨ (x.c = y.c ∧ x.d < y.d)))))
def ky (f:Nat) (x:entry):Ky:=if f = 50 then ⟨0,0,0,x.id⟩ else ⟨x.b.Lo.a0,x.b.Lo.a1,x.b.Lo.a2,x.id⟩
def mE (f:Nat) (x y:entry):Prop:=lk4 (ky f x) (ky f y)
theorem iH (x y:entry):mE 50 x y ↔ x.id < y.id:=by
 unfold mE lk4 ky
 simp
theorem ltE51 (x y:entry):mE 51 x y ↔ (x.b.Lo.a0 < y.b.Lo.a0 ∨ (x.b.Lo.a0 = y.b.Lo.a0 ∧ (x.b.Lo.a1 < y.b.Lo.a1 ∨ (x.b.Lo.a1 = y.b.Lo.a1 ∧ (x.b.Lo.a2 < y.b.Lo.a2 ∨ (x.b.Lo.a2 = y.b.Lo.a2 ∧ x.id < y.id)))))):=by
 unfold mE lk4 ky
 simp
theorem e30:decide ((3:Int) ≤ 0) = false:=rfl
theorem e31:decide ((3:Int) ≤ 1) = false:=rfl
theorem e32:decide ((3:Int) ≤ 2) = false:=rfl
theorem len3 (a b c:Int):(([a,b,c]:List Int).length:Int) = 3:=rfl
theorem cmp3 (a0 a1 a2 b0 b1 b2:Int):ed 20000 [a0,a1,a2] [b0,b1,b2] = some (if c1 a0 b0 ≠ 0 then c1 a0 b0 else if c1 a1 b1 ≠ 0 then c1 a1 b1 else c1 a2 b2):=by
 unfold ed
 simp only [mx,len3]
 obtain ⟨K,hK⟩:=tO _ _
 rw [hK]
 clear hK
 simp only [d03,e30,if_true,lx0,Option.bind_some,Bool.false_eq_true,if_false,cL,decide_eq_true_eq]
 by_cases h0:c1 a0 b0 ≠ 0
 ·rw [if_pos h0,if_pos h0]; simp only [Option.bind_some,cL]
 ·rw [if_neg h0,if_neg h0]
  simp only [Option.bind_some,cL,w1,d13,e31,if_true,lx1,Bool.false_eq_true,if_false,decide_eq_true_eq,show (1:Int) < 3 from by decide,show ¬ (3:Int) ≤ 1 from by decide]
  by_cases h1:c1 a1 b1 ≠ 0
  ·rw [if_pos h1,if_pos h1]; simp only [Option.bind_some,cL]
  ·rw [if_neg h1,if_neg h1]
   simp only [Option.bind_some,cL,w2,d23,e32,if_true,lx2,Bool.false_eq_true,if_false,decide_eq_true_eq,show (2:Int) < 3 from by decide,show ¬ (3:Int) ≤ 2 from by decide]
   by_cases h2:c1 a2 b2 ≠ 0
   ·rw [if_pos h2]; simp only [Option.bind_some,cL]
   ·rw [if_neg h2]
    have h2':c1 a2 b2 = 0:=by simpa using h2
    simp only [Option.bind_some,cL,w3,d33,Bool.false_eq_true,if_false,h2',show ¬ (3:Int) < 3 from by decide]
theorem or2 (a b:Int):lf 20000 [a,b] = some (if a ≠ 0 then a else b):=by
 unfold lf
 simp only [show (([a,b]:List Int).length:Int) = 2 from rfl]
 obtain ⟨K,hK⟩:=tO _ _
 rw [hK]
 clear hK
 simp only [show (0:Int) < 2 from by decide,decide_true,if_true,show a8 [a,b] 0 = some a from rfl,Option.bind_some,decide_eq_true_eq]
 by_cases h0:a ≠ 0
 ·rw [if_pos h0,if_pos h0]; simp only [Option.bind_some,cL]
 ·rw [if_neg h0,if_neg h0]
  simp only [Option.bind_some,cL,w1,if_true,show (1:Int) < 2 from by decide,decide_true,show a8 [a,b] 1 = some b from rfl]
  by_cases h1:b ≠ 0
  ·rw [if_pos h1]; simp only [Option.bind_some,cL]
  ·rw [if_neg h1]
   have h1':b = 0:=by simpa using h1
   simp only [Option.bind_some,cL,w2,h1',show ¬ (2:Int) < 2 from by decide,decide_false,Bool.false_eq_true,if_false]
theorem rD (x y:Int):c1 x y < 0 ↔ x < y:=by unfold c1; split <;> (try split) <;> omega
theorem rE (x y:Int):0 < c1 x y ↔ y < x:=by unfold c1; split <;> (try split) <;> omega
theorem qd (x y:Int):c1 x y = 0 ↔ x = y:=by unfold c1; split <;> (try split) <;> omega
theorem vU {f:Nat} (hf:f = 50 ∨ f = 51) (x y:entry):∃ v,gn 20000 f x y = some v ∧ (v < 0 ↔ mE f x y) ∧ (0 < v ↔ mE f y x):=by
 rcases hf with rfl | rfl
 ·refine ⟨c1 x.id y.id,?_,by rw [iH]; exact rD _ _,by rw [iH]; exact rE _ _⟩
  unfold gn gP
  rw [if_pos rfl,mx]; rfl
 ·unfold gn gO
  rw [if_neg (by decide),if_pos rfl]
  obtain ⟨xi,⟨⟨xl0,xl1,xl2⟩,xh⟩⟩:=x
  obtain ⟨yi,⟨⟨yl0,yl1,yl2⟩,yh⟩⟩:=y
  simp only [A3.l,cmp3,mx,Option.bind_some,or2,ltE51]
  refine ⟨_,rfl,?_,?_⟩
  ·have g0:=rD xl0 yl0; have g1:=rD xl1 yl1; have g2:=rD xl2 yl2; have g3:=rD xi yi
   have z0:=qd xl0 yl0; have z1:=qd xl1 yl1; have z2:=qd xl2 yl2
   generalize c1 xl0 yl0 = u0 at *; generalize c1 xl1 yl1 = u1 at *; generalize c1 xl2 yl2 = u2 at *; generalize c1 xi yi = u3 at *
   by_cases k0:u0 = 0
   ·by_cases k1:u1 = 0
    ·by_cases k2:u2 = 0
     ·simp [k0,k1,k2]; omega
     ·simp [k0,k1,k2]; omega
    ·simp [k0,k1]; omega
   ·simp [k0]; omega
  ·have g0:=rE xl0 yl0; have g1:=rE xl1 yl1; have g2:=rE xl2 yl2; have g3:=rE xi yi
   have z0:=qd xl0 yl0; have z1:=qd xl1 yl1; have z2:=qd xl2 yl2
   generalize c1 xl0 yl0 = u0 at *; generalize c1 xl1 yl1 = u1 at *; generalize c1 xl2 yl2 = u2 at *; generalize c1 xi yi = u3 at *
   by_cases k0:u0 = 0
   ·by_cases k1:u1 = 0
    ·by_cases k2:u2 = 0
     ·simp [k0,k1,k2]; omega
     ·simp [k0,k1,k2]; omega
    ·simp [k0,k1]; omega
   ·simp [k0]; omega
abbrev T:=dh bu
def cvT (b:cg):T → cg
 | .leaf=>b
 | .node w _ _=>hB b w.cover
def mk (v:bu) (l r:T):T:=.node ⟨v.x,v.priority,cvT (cvT v.x.b l) r⟩ l r
def sd (l r:T):List T:=(if l.dG = true then [] else [l]) ++ (if r.dG = true then [] else [r])
theorem wg (l r:T):gL 20000 [l,r] = some (sd l r):=by
 cases l <;> cases r <;> rfl
theorem kg (rt:T) (c k:Nat) (v:bu) (nl nr l r:T):bf 20000 ⟨rt,c,k,49⟩ (.node v nl nr) l r = some (mk v l r):=by
 unfold bf je gQ
 simp only [jz,Option.bind_some,if_true,wg]
 cases l <;> cases r
 ·rfl
 ·rfl
 ·rfl
 ·rfl
def items:T → List entry
 | .leaf=>[]
 | .node w l r=>items l ++ w.x :: items r
def sE (a b:cg):Prop:=b.Lo.a0 ≤ a.Lo.a0 ∧ b.Lo.a1 ≤ a.Lo.a1 ∧ b.Lo.a2 ≤ a.Lo.a2 ∧ a.Hi.a0 ≤ b.Hi.a0 ∧ a.Hi.a1 ≤ b.Hi.a1 ∧ a.Hi.a2 ≤ b.Hi.a2
theorem wE (a:cg):sE a a:=by unfold sE; omega
theorem nM {a b c:cg} (h1:sE a b) (h2:sE b c):sE a c:=by unfold sE at *; omega
theorem uS (a b:cg):sE a (hB a b):=by unfold sE hB; simp only; omega
theorem uR (a b:cg):sE b (hB a b):=by unfold sE hB; simp only; omega
theorem wF {a b c:cg} (h:sE a b) (hm:mB a c = true):mB b c = true:=by
 rw [sS] at *; unfold sE at h; omega
def pV:T → Prop
 | .leaf=>True
 | .node w l r=>(∀ x ∈ items (.node w l r),sE x.b w.cover) ∧ pV l ∧ pV r
theorem tg (b:cg) (l:T):sE b (cvT b l):=by
 cases l with
 | leaf=>exact wE b
 | node w l r=>exact uS _ _
theorem qD (b:cg) {l:T} (h:pV l):∀ x ∈ items l,sE x.b (cvT b l):=by
 cases l with
 | leaf=>intro x hx; cases hx
 | node w l r=>exact fun x hx=>nM (h.1 x hx) (uR _ _)
theorem gU (v:bu) (l r:T):items (mk v l r) = items l ++ v.x :: items r:=rfl
theorem ml {v:bu} {l r:T} (hl:pV l) (hr:pV r):pV (mk v l r):=by
 refine ⟨fun x hx=>?_,hl,hr⟩
 show sE x.b (cvT (cvT v.x.b l) r)
 rcases List.mem_append.1 hx with hx | hx
 ·exact nM (qD v.x.b hl x hx) (tg _ r)
 ·rcases List.mem_cons.1 hx with rfl | hx
  ·exact nM (tg _ l) (tg _ r)
  ·exact qD _ hr x hx
def jy (f:Nat) (l:List entry):Prop:=l.Pairwise (mE f)
theorem jN {f:Nat} {x y z:entry} (h1:mE f x y) (h2:mE f y z):mE f x z:=by
 unfold mE lk4 at *; omega
theorem qx {f:Nat} {x y:entry} (h1:mE f x y) (h2:mE f y x):False:=by
 unfold mE lk4 at *; omega
theorem pc {f:Nat} {a:entry} {l r:List entry} (h:jy f (l ++ a :: r)):jy f l ∧ jy f r ∧ (∀ y ∈ l,mE f y a) ∧ (∀ y ∈ r,mE f a y):=by
 unfold jy at *
 rw [List.pairwise_append,List.pairwise_cons] at h
 exact ⟨h.1,h.2.1.2,fun y hy=>h.2.2 y hy a (by simp),h.2.1.1⟩
theorem wc {f:Nat} (hf:f = 50 ∨ f = 51) (rt:T) (k:Nat) (x:entry):∀ (t:T) (m:Nat),(items t).length < m → pV t → jy f (items t) →
  ∃ a b,b7 20000 m ⟨rt,f,k,49⟩ t x = some (a,b) ∧ items a ++ items b = items t ∧ (∀ y ∈ items a,mE f y x) ∧ (∀ y ∈ items b,¬ mE f y x) ∧ pV a ∧ pV b:=by
 intro t
 induction t with
 | leaf=>
  intro m hm _ _
  cases m with
  | zero=>omega
  | succ m=>exact ⟨.leaf,.leaf,rfl,rfl,by simp [items],by simp [items],trivial,trivial⟩
 | node w l r ihl ihr=>
  intro m hm hc hs
  cases m with
  | zero=>omega
  | succ m=>
  simp only [items,List.length_append,List.length_cons] at hm
  obtain ⟨s1,s2,s3,s4⟩:=pc hs
  obtain ⟨v,hv,hlt,_⟩:=vU hf w.x x
  unfold b7
  simp only [dh.dG,Bool.false_eq_true,if_false,jz,Option.bind_some,hv]
  by_cases h:v < 0
  ·obtain ⟨a,b,e,h1,h2,h3,h4,h5⟩:=ihr m (by omega) hc.2.2 s2
   have hx:=hlt.1 h
   refine ⟨mk w l a,b,?_,?_,?_,h3,ml hc.2.1 h4,h5⟩
   ·rw [if_pos (by simpa using h),e]
    simp only [Option.bind_some,kg]
   ·rw [gU,items,← h1]; simp
   ·intro y hy
    rw [gU] at hy
    rcases List.mem_append.1 hy with hy | hy
    ·exact jN (s3 y hy) hx
    ·rcases List.mem_cons.1 hy with rfl | hy
     ·exact hx
     ·exact h2 y hy
  ·obtain ⟨a,b,e,h1,h2,h3,h4,h5⟩:=ihl m (by omega) hc.2.1 s1
   have hx:¬ mE f w.x x:=fun e=>h (hlt.2 e)
   refine ⟨a,mk w b r,?_,?_,h2,?_,h4,ml h5 hc.2.2⟩
   ·rw [if_neg (by simpa using h),e]
    simp only [Option.bind_some,kg]
   ·rw [gU,items,← h1]; simp
   ·intro y hy
    rw [gU] at hy
    rcases List.mem_append.1 hy with hy | hy
    ·exact h3 y hy
    ·rcases List.mem_cons.1 hy with rfl | hy
     ·exact hx
     ·exact fun e=>hx (jN (s4 y hy) e)
theorem q6 (rt:T) (f k:Nat):∀ (m:Nat) (a b:T),(items a).length + (items b).length < m → pV a → pV b →
  ∃ t,cy 20000 m ⟨rt,f,k,49⟩ a b = some t ∧ items t = items a ++ items b ∧ pV t:=by
 intro m
 induction m with
 | zero=>intro a b h; omega
 | succ m ih=>
  intro a b hm ha hb
  unfold cy
  cases a with
  | leaf=>exact ⟨b,rfl,rfl,hb⟩
  | node w l r=>
   cases b with
   | leaf=>exact ⟨.node w l r,rfl,by simp [items],ha⟩
   | node w2 l2 r2=>
    simp only [dh.dG,Bool.false_eq_true,if_false,jz,Option.bind_some]
    simp only [items,List.length_append,List.length_cons] at hm
    by_cases h:w2.priority < w.priority
    ·obtain ⟨t,e,h1,h2⟩:=ih r (.node w2 l2 r2) (by simp only [items,List.length_append,List.length_cons]; omega) ha.2.2 hb
     refine ⟨mk w l t,?_,?_,ml ha.2.1 h2⟩
     ·rw [if_pos (by simpa using h),e]
      simp only [Option.bind_some,kg]
     ·rw [gU,h1]; simp [items]
    ·obtain ⟨t,e,h1,h2⟩:=ih (.node w l r) l2 (by simp only [items,List.length_append,List.length_cons]; omega) ha hb.2.1
     refine ⟨mk w2 t r2,?_,?_,ml h2 hb.2.2⟩
     ·rw [if_neg (by simpa using h),e]
      simp only [Option.bind_some,kg]
     ·rw [gU,h1]; simp [items]
theorem uo {f:Nat} (hf:f = 50 ∨ f = 51) (rt:T) (k:Nat) (x:entry):∀ (t:T) (m:Nat),(items t).length < m → (items t).length < 20000 → pV t → jy f (items t) →
  ∀ pre y post,items t = pre ++ y :: post → ¬ mE f x y → ¬ mE f y x → ∃ t',cz 20000 m ⟨rt,f,k,49⟩ t x = some t' ∧ items t' = pre ++ post ∧ pV t':=by
 intro t
 induction t with
 | leaf=>intro m _ _ _ _ pre y post h; simp [items] at h
 | node w l r ihl ihr=>
  intro m hm h2k hc hs pre y post oL hy1 hy2
  cases m with
  | zero=>omega
  | succ m=>
  simp only [items,List.length_append,List.length_cons] at hm h2k
  obtain ⟨s1,s2,s3,s4⟩:=pc hs
  obtain ⟨v,hv,hlt,hgt⟩:=vU hf x w.x
  unfold cz
  simp only [jz,Option.bind_some,hv]
  have hcase:∀ z,z ∈ items l → mE f z w.x:=s3
  rw [items] at oL
  have hl:=List.append_eq_append_iff.1 oL
  by_cases h:v < 0
  ·have hx:=hlt.1 h
   rcases hl with ⟨us,h1,h3⟩ | ⟨vs,h1,h3⟩
   ·exfalso
    cases us with
    | nil=>
     have:w.x = y:=by simpa using (List.cons.inj (by simpa using h3)).1
     rw [← this] at hy1; exact hy1 hx
    | cons a us=>
     have hm:y ∈ items r:=by
      have:=(List.cons.inj (by simpa using h3)).2
      rw [this]; simp
     exact hy1 (jN hx (s4 y hm))
   ·cases vs with
    | nil=>
     exfalso
     have:w.x = y:=by simpa using (List.cons.inj (by simpa using h3)).1.symm
     rw [← this] at hy1; exact hy1 hx
    | cons b vs=>
     obtain ⟨e1,e2⟩:=List.cons.inj (by simpa using h3:y :: post = b :: (vs ++ w.x :: items r))
     subst e1
     obtain ⟨t',e,g1,g2⟩:=ihl m (by omega) (by omega) hc.2.1 s1 pre y vs h1 hy1 hy2
     refine ⟨mk w t' r,?_,?_,ml g2 hc.2.2⟩
     ·rw [if_pos (by simpa using h),e]
      simp only [Option.bind_some,kg]
     ·rw [gU,g1,e2]; simp
  ·rw [if_neg (by simpa using h)]
   by_cases h':0 < v
   ·have hx:=hgt.1 h'
    rw [if_pos (by simpa using h')]
    rcases hl with ⟨us,h1,h3⟩ | ⟨vs,h1,h3⟩
    ·cases us with
     | nil=>
      exfalso
      have:w.x = y:=by simpa using (List.cons.inj (by simpa using h3)).1
      rw [← this] at hy2; exact hy2 hx
     | cons a us=>
      obtain ⟨e1,e2⟩:=List.cons.inj (by simpa using h3:w.x :: items r = a :: (us ++ y :: post))
      subst e1
      obtain ⟨t',e,g1,g2⟩:=ihr m (by omega) (by omega) hc.2.2 s2 us y post e2 hy1 hy2
      refine ⟨mk w l t',?_,?_,ml hc.2.1 g2⟩
      ·rw [e]
       simp only [Option.bind_some,kg]
      ·rw [gU,g1,h1]; simp
    ·exfalso
     cases vs with
     | nil=>
      have:w.x = y:=by simpa using (List.cons.inj (by simpa using h3)).1.symm
      rw [← this] at hy2; exact hy2 hx
     | cons b vs=>
      have hm:y ∈ items l:=by
       have:=(List.cons.inj (by simpa using h3:y :: post = b :: (vs ++ w.x :: items r))).1
       rw [h1,this]; simp
      exact hy2 (jN (s3 y hm) hx)
   ·rw [if_neg (by simpa using h')]
    have hn1:¬ mE f x w.x:=fun e=>h (hlt.2 e)
    have hn2:¬ mE f w.x x:=fun e=>h' (hgt.2 e)
    obtain ⟨t',e,g1,g2⟩:=q6 rt f k 20000 l r (by omega) hc.2.1 hc.2.2
    refine ⟨t',?_,?_,g2⟩
    ·unfold cS
     rw [e]; rfl
    ·rw [g1]
     rcases hl with ⟨us,h1,h3⟩ | ⟨vs,h1,h3⟩
     ·cases us with
      | nil=>
       obtain ⟨e1,e2⟩:=List.cons.inj (by simpa using h3:w.x :: items r = y :: post)
       rw [h1,e2]; simp
      | cons a us=>
       exfalso
       have hm:y ∈ items r:=by
        have:=(List.cons.inj (by simpa using h3:w.x :: items r = a :: (us ++ y :: post))).2
        rw [this]; simp
       have g:=s4 y hm
       unfold mE lk4 at *; omega
     ·cases vs with
      | nil=>
       obtain ⟨e1,e2⟩:=List.cons.inj (by simpa using h3:y :: post = w.x :: items r)
       rw [h1,e2]; simp
      | cons b vs=>
       exfalso
       have hm:y ∈ items l:=by
        have:=(List.cons.inj (by simpa using h3:y :: post = b :: (vs ++ w.x :: items r))).1
        rw [h1,this]; simp
       have g:=s3 y hm
       unfold mE lk4 at *; omega
def zE:entry:=⟨0,zB⟩
theorem get_aux (id:Int):∀ (t:T) (m:Nat),(items t).length < m → jy 50 (items t) →
  bC (iter m (fun n_1=>if (!n_1.dG) = true then (Option.bind (jz n_1) (fun nd_2=>if (decide (id = nd_2.1.x.id)) = true then (Option.bind (jz n_1) (fun nd_3=>some (.inr (.inr (nd_3.1.x,true))))) else (Option.bind (jz n_1) (fun nd_4=>if (decide (id < nd_4.1.x.id)) = true then (Option.bind (jz n_1) (fun nd_5=>some (.inl nd_5.2.1))) else (Option.bind (jz n_1) (fun nd_6=>some (.inl nd_6.2.2))))))) else (some (.inr (.inl ())))) t:Option (Unit ⊕ entry × Bool))
   (fun o=>(∃ x ∈ items t,x.id = id ∧ o = .inr (x,true)) ∨ (o = .inl () ∧ ∀ x ∈ items t,x.id ≠ id)):=by
 intro t
 induction t with
 | leaf=>
  intro m hm hs
  cases m with
  | zero=>omega
  | succ m=>
   rw [eb]
   exact ⟨.inl (),rfl,.inr ⟨rfl,by simp [items]⟩⟩
 | node w l r ihl ihr=>
  intro m hm hs
  cases m with
  | zero=>omega
  | succ m=>
  simp only [items,List.length_append,List.length_cons] at hm
  obtain ⟨s1,s2,s3,s4⟩:=pc hs
  rw [eb]
  simp only [dh.dG,Bool.not_false,if_true,jz,Option.bind_some]
  by_cases h:id = w.x.id
  ·rw [if_pos (by simpa using h)]
   exact ⟨.inr (w.x,true),rfl,.inl ⟨w.x,by simp [items],h.symm,rfl⟩⟩
  ·rw [if_neg (by simpa using h)]
   by_cases h2:id < w.x.id
   ·rw [if_pos (by simpa using h2)]
    refine (ihl m (by omega) s1).mono fun o ho=>?_
    rcases ho with ⟨x,hx,h3,h4⟩ | ⟨h3,h4⟩
    ·exact .inl ⟨x,by simp [items,hx],h3,h4⟩
    ·refine .inr ⟨h3,fun x hx=>?_⟩
     rcases List.mem_append.1 hx with hx | hx
     ·exact h4 x hx
     ·rcases List.mem_cons.1 hx with rfl | hx
      ·exact fun e=>h e.symm
      ·have:=(iH _ _).1 (s4 x hx); omega
   ·rw [if_neg (by simpa using h2)]
    refine (ihr m (by omega) s2).mono fun o ho=>?_
    rcases ho with ⟨x,hx,h3,h4⟩ | ⟨h3,h4⟩
    ·exact .inl ⟨x,by simp [items,hx],h3,h4⟩
    ·refine .inr ⟨h3,fun x hx=>?_⟩
     rcases List.mem_append.1 hx with hx | hx
     ·have:=(iH _ _).1 (s3 x hx); omega
     ·rcases List.mem_cons.1 hx with rfl | hx
      ·exact fun e=>h e.symm
      ·exact h4 x hx
structure dT (s:b4) (L:List entry):Prop where
 c1:s.ids.compare = 50
 c2:s.boxes.compare = 51
 k1:s.ids.key = 48
 k2:s.boxes.key = 48
 b1:s.ids.box = 49
 b2:s.boxes.box = 49
 it:items s.ids.root = L
 pm:(items s.boxes.root).Perm L
 s1:jy 50 L
 s2:jy 51 (items s.boxes.root)
 v1:pV s.ids.root
 v2:pV s.boxes.root
 vb:∀ x ∈ L,vB x.b = true
theorem qP {s:b4} {L:List entry} (h:dT s L) (hL:L.length < 1000) (id:Int):(∃ x ∈ L,x.id = id ∧ cE 20000 s id = some (x,true)) ∨ (cE 20000 s id = some (zE,false) ∧ ∀ x ∈ L,x.id ≠ id):=by
 obtain ⟨o,ho,h1⟩:=get_aux id s.ids.root 20000 (by rw [h.it]; omega) (by rw [h.it]; exact h.s1)
 rw [h.it] at h1
 unfold cE
 rw [ho]
 rcases h1 with ⟨x,hx,h2,rfl⟩ | ⟨rfl,h2⟩
 ·exact .inl ⟨x,hx,h2,rfl⟩
 ·exact .inr ⟨rfl,h2⟩
theorem oA:∀ t:T,oM (fun _=>some true) t = some (items t)
 | .leaf=>rfl
 | .node a l r=>by
  rw [oM]
  simp only [Option.bind_some,if_true,oA l,oA r,items]
theorem o9 (b:cg):∀ t:T,pV t → ∃ ys,oM (fun t=>cG 20000 t b) t = some ys ∧ ys.filter (fun x=>mB x.b b) = (items t).filter (fun x=>mB x.b b) ∧ ys.length ≤ (items t).length
 | .leaf,_=>⟨[],rfl,rfl,by simp⟩
 | .node a l r,h=>by
  have hp:cG 20000 (.node a l r) b = some (mB a.cover b):=by
   unfold cG
   simp only [jz,Option.bind_some,qZ]
  rw [oM,hp,Option.bind_some]
  by_cases hm:mB a.cover b = true
  ·rw [if_pos hm]
   obtain ⟨ys,e1,e2,e3⟩:=o9 b l h.2.1
   obtain ⟨zs,g1,g2,g3⟩:=o9 b r h.2.2
   rw [e1,g1]
   refine ⟨ys ++ a.x :: zs,rfl,?_,by simp [items]; omega⟩
   rw [items,List.filter_append,List.filter_append,e2,List.filter_cons,List.filter_cons,g2]
  ·rw [if_neg hm]
   refine ⟨[],rfl,?_,by simp⟩
   symm
   rw [List.filter_nil,List.filter_eq_nil_iff]
   exact fun x hx hx'=>hm (wF (h.1 x hx) hx')
theorem oJ {α σ υ:Type} (B:σ → α → Option (σ ⊕ υ)) (f:σ → α → σ) (I:σ → List α → Prop) (hB:∀ s x l,I s (x :: l) → B s x = some (.inl (f s x)) ∧ I (f s x) l):∀ (l:List α) (s:σ),I s l → each B l s = some (.inl (l.foldl f s))
 | [],s,_=>rfl
 | x :: l,s,h=>by
  obtain ⟨h1,h2⟩:=hB s x l h
  unfold each
  rw [h1]
  exact oJ B f I hB l _ h2
theorem p5 {l m:List Int} (hp:l.Perm m) (hm:m.Pairwise (· ≤ ·)):sorted l = m :=
 List.Perm.eq_of_pairwise (fun a b _ _ h1 h2=>Int.le_antisymm h1 h2) (qm l) hm ((sorted_perm l).trans hp)
theorem srt_ids {L:List entry} (h:jy 50 L):(L.map (·.id)).Pairwise (· < ·):=by
 rw [List.pairwise_map]
 exact h.imp fun h=>(iH _ _).1 h
def met (L:List entry) (b:cg):List Int:=(L.filter fun x=>mB x.b b).map (·.id)
theorem sR {L:List entry} (h:jy 50 L) (b:cg):(met L b).Pairwise (· < ·):=(srt_ids (h.filter _))
theorem q8 {s:b4} {L:List entry} (h:dT s L) (hL:L.length < 1000) (b:cg):cp 20000 s b = some (met L b):=by
 obtain ⟨ys,e1,e2,e3⟩:=o9 b s.boxes.root h.v2
 have hpl:=h.pm.length_eq
 unfold cp
 rw [e1]
 simp only [Option.bind_some,qZ]
 rw [oJ _ (fun out x=>if mB x.b b = true then out ++ [x.id] else out) (fun s l=>s.length + l.length ≤ 1000) ?_ ys [] (by simp; omega)]
 ·have hf:∀ (l:List entry) (out:List Int),l.foldl (fun out x=>if mB x.b b = true then out ++ [x.id] else out) out = out ++ (l.filter fun x=>mB x.b b).map (·.id):=by
   intro l
   induction l with
   | nil=>intro out; simp
   | cons x l ih=>
    intro out
    rw [List.foldl_cons,ih,List.filter_cons]
    split
    ·simp
    ·rfl
  rw [hf,List.nil_append,e2]
  simp only [Option.bind_some,cL]
  unfold fF oU
  have hp:(((items s.boxes.root).filter fun x=>mB x.b b).map (·.id)).Perm (met L b):=(h.pm.filter _).map _
  have hlen:(((items s.boxes.root).filter fun x=>mB x.b b).map (·.id)).length ≤ L.length:=by rw [List.length_map,← hpl]; exact List.length_filter_le _ _
  rw [if_pos (by omega),p5 hp ((sR h.s1 b).imp Int.le_of_lt)]
  rfl
 ·intro s x l hs
  simp only [List.length_cons] at hs
  split
  ·rw [dE,if_pos (by simp; omega)]
   exact ⟨rfl,by simp; omega⟩
  ·exact ⟨rfl,by omega⟩
theorem Find_ok {s:b4} {L:List entry} (h:dT s L) (hL:L.length < 1000) (b:cg):cI 20000 s b = some (if vB b = true then (met L b,0) else ([],1)):=by
 unfold cI
 simp only [mU,Option.bind_some,q8 h hL]
 cases vB b <;> rfl
theorem ids_ok {s:b4} {L:List entry} (h:dT s L) (hL:L.length < 1000):eP 20000 s = some (L.map (·.id)):=by
 unfold eP
 rw [oA,h.it]
 simp only [Option.bind_some]
 rw [oJ _ (fun out x=>out ++ [x.id]) (fun s l=>s.length + l.length ≤ 1000) ?_ L [] (by simp; omega)]
 ·have hf:∀ (l:List entry) (out:List Int),l.foldl (fun out x=>out ++ [x.id]) out = out ++ l.map (·.id):=by
   intro l
   induction l with
   | nil=>intro out; simp
   | cons x l ih=>intro out; rw [List.foldl_cons,ih]; simp
  rw [hf]; rfl
 ·intro s x l hs
  simp only [List.length_cons] at hs
  rw [dE,if_pos (by simp; omega)]
  exact ⟨rfl,by simp; omega⟩
theorem less_eq (x y:Int):iR 20000 x y = some (decide (x < y)):=by
 unfold iR er
 simp only [Option.bind_some,show decide (x ≠ x) = false by simp,bD,Bool.false_eq_true,if_false,Bool.false_and,Bool.false_or]
theorem nan_eq (x:Int):ec 20000 x = some false:=by
 unfold ec
 simp
theorem sN {l:List Int} (h:l.Pairwise (· < ·)) {i j:Nat} (hij:i < j) (hj:j < l.length):l[i]! < l[j]!:=by
 rw [getElem!_pos l i (by omega),getElem!_pos l j hj]
 exact List.pairwise_iff_getElem.1 h i j (by omega) hj hij
theorem uj {l:List Int} {i:Nat} (h:i < l.length):a8 l (i:Int) = some l[i]!:=by
 rw [mR (by omega) (by omega),oH _ _ h,getElem!_pos l i h]
theorem uH (l:List Int) (z:Int) (hl:l.length < 1000) (hs:l.Pairwise (· < ·)):bC (c5 20000 l z) fun r=>r.2 = decide (z ∈ l):=by
 unfold c5
 refine bC.bind (P:=fun i:Int=>∃ n:Nat,i = (n:Int) ∧ n ≤ l.length ∧ (∀ k,k < n → l[k]! < z) ∧ ∀ k,n ≤ k → k < l.length → z ≤ l[k]!) ?_ ?_
 ·refine bC.loop (I:=fun s=>∃ a b:Nat,s = ((a:Int),(b:Int)) ∧ a ≤ b ∧ b ≤ l.length ∧ (∀ k,k < a → l[k]! < z) ∧ ∀ k,b ≤ k → k < l.length → z ≤ l[k]!) (μ:=fun s=>(s.2 - s.1).toNat) ⟨0,l.length,rfl,by omega,by omega,by omega,by omega⟩ (by simp; omega) ?_
  rintro _ ⟨a,b,rfl,h1,h2,h3,h4⟩
  simp only [dd]
  by_cases hab:a < b
  ·rw [if_pos (by simpa using hab)]
   have e1:IntKind.u64.wrap (IntKind.i64.wrap ((a:Int) + b)) = (a:Int) + b:=by rw [oO (by omega) (by omega),wu64]; omega
   have e2:IntKind.i64.wrap (((a:Int) + b) / 2) = (((a + b) / 2:Nat):Int):=by rw [oO (by omega) (by omega)]; omega
   simp only [fv,e1,e2]
   rw [uj (by omega:(a + b) / 2 < l.length)]
   simp only [Option.bind_some,less_eq]
   by_cases hc:l[(a + b) / 2]! < z
   ·rw [if_pos (by simpa using hc)]
    have e3:IntKind.i64.wrap ((((a + b) / 2:Nat):Int) + 1) = (((a + b) / 2 + 1:Nat):Int):=by rw [oO (by omega) (by omega)]; omega
    rw [e3]
    refine bC.some (.inl ⟨_,rfl,⟨(a + b) / 2 + 1,b,rfl,by omega,h2,fun k hk=>?_,h4⟩,by simp; omega⟩)
    by_cases hk2:k = (a + b) / 2
    ·rw [hk2]; exact hc
    ·have:=sN hs (show k < (a + b) / 2 by omega) (by omega); omega
   ·rw [if_neg (by simpa using hc)]
    refine bC.some (.inl ⟨_,rfl,⟨a,(a + b) / 2,rfl,by omega,by omega,h3,fun k hk hk'=>?_⟩,by simp; omega⟩)
    by_cases hk2:k = (a + b) / 2
    ·rw [hk2]; omega
    ·have:=sN hs (show (a + b) / 2 < k by omega) hk'; omega
  ·rw [if_neg (by simpa using hab)]
   have:a = b:=by omega
   subst this
   exact bC.some (.inr ⟨_,rfl,a,rfl,h2,h3,h4⟩)
 ·rintro _ ⟨n,rfl,h1,h2,h3⟩
  by_cases hn:n < l.length
  ·have hd:decide ((n:Int) < (l.length:Int)) = true:=by simpa using hn
   rw [hd]
   simp only [bD,if_true,uj hn,Option.bind_some,Bool.true_and]
   by_cases he:l[n]! = z
   ·simp only [he,decide_true,Bool.not_true,Bool.false_eq_true,if_false,Option.bind_some,Bool.false_and,fv,Bool.true_or]
    refine bC.some ?_
    have:z ∈ l:=by rw [← he,getElem!_pos l n hn]; exact List.getElem_mem hn
    simp [this]
   ·have hd2:decide (l[n]! = z) = false:=by simpa using he
    simp only [hd2,Bool.not_false,if_true,nan_eq,Option.bind_some,Bool.and_false,Bool.false_eq_true,if_false,fv,Bool.false_and,Bool.false_or]
    refine bC.some ?_
    symm
    rw [decide_eq_false_iff_not]
    intro hm
    obtain ⟨k,hk,e⟩:=List.mem_iff_getElem.1 hm
    rw [← getElem!_pos l k hk] at e
    by_cases hkn:k < n
    ·have:=h2 k hkn; omega
    ·by_cases hkn2:k = n
     ·subst hkn2; exact he e
     ·have:=sN hs (show n < k by omega) hk
      have:=h3 n (Nat.le_refl _) hn
      omega
  ·have hd:decide ((n:Int) < (l.length:Int)) = false:=by simpa using hn
   rw [hd]
   simp only [bD,Bool.false_eq_true,if_false,Option.bind_some,Bool.false_and,fv]
   refine bC.some ?_
   symm
   rw [decide_eq_false_iff_not]
   intro hm
   obtain ⟨k,hk,e⟩:=List.mem_iff_getElem.1 hm
   rw [← getElem!_pos l k hk] at e
   have:=h2 k (by omega); omega
theorem rT (a b:List Int) (ha:a.length < 1000) (hb:b.length < 1000) (hs:b.Pairwise (· < ·)):eR 20000 a b = some (a.filter fun z=>!decide (z ∈ b)):=by
 refine bC.eq ?_
 unfold eR
 refine bC.bind (P:=fun r=>r = a.filter fun z=>!decide (z ∈ b)) ?_ (fun r hr=>by rw [hr]; exact bC.some rfl)
 refine bC.ea2 (l:=a) (G:=fun out=>out) (I:=fun pre out=>out = pre.filter fun z=>!decide (z ∈ b)) (by omega) (by omega) rfl (fun pre x post out e hx hI=>?_) (fun out hI=>hI)
 rw [hx]
 simp only [Option.bind_some]
 obtain ⟨r,hr,h1⟩:=uH b x hb hs
 rw [hr]
 simp only [Option.bind_some,dd]
 have hlen:out.length ≤ pre.length:=by rw [hI]; exact List.length_filter_le _ _
 have hal:a.length = pre.length + 1 + post.length:=by rw [e]; simp; omega
 rw [h1]
 by_cases hm:x ∈ b
 ·rw [if_neg (by simp [hm])]
  exact ⟨_,rfl,.inl ⟨out,rfl,by rw [hI,List.filter_append]; simp [hm]⟩⟩
 ·rw [if_pos (by simp [hm]),dE,if_pos (by simp; omega)]
  exact ⟨_,rfl,.inl ⟨out ++ [x],rfl,by rw [hI,List.filter_append]; simp [hm]⟩⟩
def prs (L:List entry) (x:entry):List A2:=((met L x.b).filter fun z=>decide (x.id < z)).map fun z=>(⟨x.id,z⟩:A2)
def allP (L:List entry):List A2:=L.flatMap (prs L)
theorem oF (L:List entry) (b:cg):(met L b).length ≤ L.length:=by
 unfold met; rw [List.length_map]; exact List.length_filter_le _ _
theorem prs_len (L:List entry) (x:entry):(prs L x).length ≤ L.length:=by
 unfold prs; rw [List.length_map]; exact Nat.le_trans (List.length_filter_le _ _) (oF L x.b)
theorem all_ok {s:b4} {L:List entry} (h:dT s L) (hL:L.length < 1000):cX 20000 s = some (allP L):=by
 unfold cX
 rw [oA,h.it]
 simp only [Option.bind_some,q8 h hL]
 rw [oJ _ (fun out x=>out ++ prs L x) (fun s l=>s.length + l.length * 1000 ≤ 1000000) ?_ L [] (by simp; omega)]
 ·have hf:∀ (l:List entry) (out:List A2),l.foldl (fun out x=>out ++ prs L x) out = out ++ l.flatMap (prs L):=by
   intro l
   induction l with
   | nil=>intro out; simp
   | cons x l ih=>intro out; rw [List.foldl_cons,ih]; simp
  rw [hf]; rfl
 ·intro out0 x l hs
  simp only [List.length_cons] at hs
  have hp:=prs_len L x
  refine ⟨?_,by rw [List.length_append]; omega⟩
  have hm:=oF L x.b
  refine bC.eq ?_
  refine bC.bind (P:=fun r=>r = out0 ++ prs L x) ?_ (fun r hr=>by rw [hr]; exact bC.some rfl)
  refine bC.ea2 (l:=met L x.b) (G:=fun out=>out) (I:=fun pre out=>out = out0 ++ ((pre.filter fun z=>decide (x.id < z)).map fun z=>(⟨x.id,z⟩:A2))) (by omega) (by omega) (by simp) (fun pre z post out e hx hI=>?_) (fun out hI=>hI)
  rw [hx]
  simp only [Option.bind_some]
  have hlen:out.length ≤ out0.length + pre.length:=by rw [hI,List.length_append,List.length_map]; have:=List.length_filter_le (fun z=>decide (x.id < z)) pre; omega
  have hal:(met L x.b).length = pre.length + 1 + post.length:=by rw [e]; simp; omega
  by_cases hc:x.id < z
  ·rw [if_pos (by simpa using hc),dE,if_pos (by simp; omega)]
   exact ⟨_,rfl,.inl ⟨out ++ [⟨x.id,z⟩],rfl,by rw [hI,List.filter_append]; simp [hc]⟩⟩
  ·rw [if_neg (by simpa using hc)]
   exact ⟨_,rfl,.inl ⟨out,rfl,by rw [hI,List.filter_append]; simp [hc]⟩⟩
theorem uO {f:Nat} (hf:f = 50 ∨ f = 51) {x y:entry} (hn:y.id ≠ x.id) (h:¬ mE f y x):mE f x y:=by
 rcases hf with rfl | rfl
 ·rw [iH] at *; omega
 ·rw [ltE51] at *; omega
theorem uf {f:Nat} (x:entry):¬ mE f x x:=fun h=>qx h h
theorem sK {f:Nat} {L M:List entry} (h1:jy f L) (h2:jy f M) (hp:L.Perm M):L = M :=
 List.Perm.eq_of_pairwise (fun a b _ _ h h'=>(qx h h').elim) h1 h2 hp
theorem wx (z:Int):∃ p,fX 20000 z = some p:=by
 unfold fX fv
 exact ⟨_,rfl⟩
theorem kf (x:entry):im 20000 48 x = some (IntKind.u64.wrap x.id):=rfl
theorem wth (t:jA) (x:entry) (a b n u w:T) (p:Int) (h1:fP 20000 t t.root x = some (a,b)) (h2:im 20000 t.key x = some (IntKind.u64.wrap x.id)) (hp:fX 20000 (IntKind.u64.wrap x.id) = some p) (hm:bf 20000 t (.node ⟨x,p,⟨A3.zero,A3.zero⟩⟩ .leaf .leaf) .leaf .leaf = some n) (h3:cS 20000 t a n = some u) (h4:cS 20000 t u b = some w):bW 20000 t x = some ⟨w,t.compare,t.key,t.box⟩:=by
 unfold bW
 rw [h1,Option.bind_some]
 simp only [dd]
 rw [h2,Option.bind_some,hp,Option.bind_some,hm,Option.bind_some,h3,Option.bind_some,h4]
 rfl
theorem tW {f:Nat} (hf:f = 50 ∨ f = 51) {rt:T} {x:entry} (hc:pV rt) (hs:jy f (items rt)) (hn:∀ y ∈ items rt,y.id ≠ x.id) (hL:(items rt).length < 1000) :
  ∃ t',bW 20000 ⟨rt,f,48,49⟩ x = some ⟨t',f,48,49⟩ ∧ (items t').Perm (x :: items rt) ∧ jy f (items t') ∧ pV t':=by
 obtain ⟨a,b,e,h1,h2,h3,h4,h5⟩:=wc hf rt 48 x rt 20000 (by omega) hc hs
 have hlen:(items a).length + (items b).length = (items rt).length:=by rw [← h1,List.length_append]
 obtain ⟨p,hp⟩:=wx (IntKind.u64.wrap x.id)
 obtain ⟨n,hmk,hn1,hn2⟩:∃ n:T,bf 20000 ⟨rt,f,48,49⟩ (.node ⟨x,p,⟨A3.zero,A3.zero⟩⟩ .leaf .leaf) .leaf .leaf = some n ∧ items n = [x] ∧ pV n :=
  ⟨_,kg rt f 48 _ _ _ _ _,rfl,ml trivial trivial⟩
 obtain ⟨u,hu,u1,u2⟩:=q6 rt f 48 20000 a n (by rw [hn1]; simp; omega) h4 hn2
 obtain ⟨w,hw,w1,w2⟩:=q6 rt f 48 20000 u b (by rw [u1,hn1]; simp; omega) u2 h5
 refine ⟨w,?_,?_,?_,w2⟩
 ·exact wth ⟨rt,f,48,49⟩ x a b n u w p e (kf x) hp hmk hu hw
 ·rw [w1,u1,hn1,← h1]
  simp
 ·rw [w1,u1,hn1]
  rw [← h1] at hs hn
  unfold jy at *
  rw [List.pairwise_append] at hs
  have hx:∀ y ∈ items b,mE f x y:=fun y hy=>uO hf (hn y (by simp [hy])) (h3 y hy)
  rw [List.append_assoc,List.pairwise_append]
  refine ⟨hs.1,?_,?_⟩
  ·show ([x] ++ items b).Pairwise _
   exact List.pairwise_cons.2 ⟨hx,hs.2.1⟩
  ·intro y hy z hz
   rcases List.mem_append.1 hz with hz | hz
   ·rw [List.mem_singleton] at hz; subst hz; exact h2 y hy
   ·exact hs.2.2 y hy z hz
theorem py {f:Nat} (hf:f = 50 ∨ f = 51) {rt:T} {x:entry} (hc:pV rt) (hs:jy f (items rt)) (hx:x ∈ items rt) (hL:(items rt).length < 1000) :
  ∃ t',bJ 20000 ⟨rt,f,48,49⟩ x = some ⟨t',f,48,49⟩ ∧ (x :: items t').Perm (items rt) ∧ jy f (items t') ∧ pV t':=by
 obtain ⟨pre,post,e⟩:=List.append_of_mem hx
 obtain ⟨t',h,h1,h2⟩:=uo hf rt 48 x rt 20000 (by omega) (by omega) hc hs pre x post e (uf x) (uf x)
 refine ⟨t',?_,?_,?_,h2⟩
 ·unfold bJ gy
  rw [h]; rfl
 ·rw [h1,e]; exact List.perm_middle.symm
 ·rw [h1]
  rw [e] at hs
  unfold jy at *
  rw [List.pairwise_append,List.pairwise_cons] at hs
  rw [List.pairwise_append]
  exact ⟨hs.1,hs.2.1.2,fun y hy z hz=>hs.2.2 y hy z (by simp [hz])⟩
def jW (x:entry):List entry → List entry
 | []=>[x]
 | y :: l=>if x.id < y.id then x :: y :: l else y :: jW x l
def fD (id:Int) (L:List entry):List entry:=L.filter fun y=>decide (y.id ≠ id)
theorem iG (x:entry):∀ L,(jW x L).Perm (x :: L)
 | []=>.refl _
 | y :: l=>by
  unfold jW
  split
  ·exact .refl _
  ·exact .trans (.cons y (iG x l)) (.swap x y l)
theorem r6 (x:entry) (L:List entry):(jW x L).length = L.length + 1:=by rw [(iG x L).length_eq]; rfl
theorem r5 {x y:entry} {L:List entry}:y ∈ jW x L ↔ y = x ∨ y ∈ L:=by rw [(iG x L).mem_iff,List.mem_cons]
theorem k7 {x:entry}:∀ {L:List entry},jy 50 L → (∀ y ∈ L,y.id ≠ x.id) → jy 50 (jW x L)
 | [],_,_=>by simp [jW,jy]
 | y :: l,h,hn=>by
  have h1:=List.pairwise_cons.1 h
  unfold jW
  split
  ·next hc=>
   refine List.pairwise_cons.2 ⟨fun z hz=>?_,h⟩
   rcases List.mem_cons.1 hz with rfl | hz
   ·rw [iH]; exact hc
   ·exact jN ((iH _ _).2 hc) (h1.1 z hz)
  ·next hc=>
   have hne:=hn y (by simp)
   refine List.pairwise_cons.2 ⟨fun z hz=>?_,k7 h1.2 fun z hz=>hn z (by simp [hz])⟩
   rcases r5.1 hz with rfl | hz
   ·rw [iH]; omega
   ·exact h1.1 z hz
theorem la {id:Int} {L:List entry} (h:jy 50 L):jy 50 (fD id L):=h.filter _
theorem pq {id:Int} {L:List entry} {y:entry}:y ∈ fD id L ↔ y ∈ L ∧ y.id ≠ id:=by unfold fD; simp
theorem pr (id:Int) (L:List entry):(fD id L).length ≤ L.length:=List.length_filter_le _ _
theorem pb {L:List entry} (h:jy 50 L) {x y:entry} (hx:x ∈ L) (hy:y ∈ L) (e:x.id = y.id):x = y:=by
 induction L with
 | nil=>cases hx
 | cons z l ih=>
  have h1:=List.pairwise_cons.1 h
  rcases List.mem_cons.1 hx with h2 | h2 <;> rcases List.mem_cons.1 hy with h3 | h3
  ·rw [h2,h3]
  ·have:=(iH _ _).1 (h1.1 y h3); rw [h2] at e; omega
  ·have:=(iH _ _).1 (h1.1 x h2); rw [h3] at e; omega
  ·exact ih h1.2 h2 h3
theorem qC {x:entry} {L:List entry} (h:jy 50 L) (hx:x ∈ L):(x :: fD x.id L).Perm L:=by
 obtain ⟨pre,post,e⟩:=List.append_of_mem hx
 have e2:fD x.id L = pre ++ post:=by
  have h':=h
  rw [e] at h'
  unfold jy at h'
  rw [List.pairwise_append,List.pairwise_cons] at h'
  unfold fD
  rw [e,List.filter_append,List.filter_cons]
  have a1:pre.filter (fun y=>decide (y.id ≠ x.id)) = pre:=List.filter_eq_self.2 fun y hy=>by
   have:=(iH _ _).1 (h'.2.2 y hy x (by simp)); simp; omega
  have a2:post.filter (fun y=>decide (y.id ≠ x.id)) = post:=List.filter_eq_self.2 fun y hy=>by
   have:=(iH _ _).1 (h'.2.1.1 y hy); simp; omega
  rw [a1,a2]; simp
 rw [e2,e]
 exact List.perm_middle.symm
theorem oD {t:jA} {f:Nat} (h1:t.compare = f) (h2:t.key = 48) (h3:t.box = 49):t = ⟨t.root,f,48,49⟩:=by
 cases t; subst h1; subst h2; subst h3; rfl
theorem putN_ok {s:b4} {L:List entry} (h:dT s L) (hL:L.length < 1000) {x:entry} (hv:vB x.b = true) (hn:∀ y ∈ L,y.id ≠ x.id) :
  ∃ s':b4,bW 20000 s.ids x = some s'.ids ∧ bW 20000 s.boxes x = some s'.boxes ∧ dT s' (jW x L):=by
 obtain ⟨a,ha,a1,a2,a3⟩:=tW (f:=50) (.inl rfl) h.v1 (by rw [h.it]; exact h.s1) (x:=x) (by rw [h.it]; exact hn) (by rw [h.it]; exact hL)
 obtain ⟨b,hb,b1,b2,b3⟩:=tW (f:=51) (.inr rfl) h.v2 h.s2 (x:=x) (fun y hy=>hn y (h.pm.mem_iff.1 hy)) (by rw [h.pm.length_eq]; exact hL)
 rw [← oD h.c1 h.k1 h.b1] at ha
 rw [← oD h.c2 h.k2 h.b2] at hb
 refine ⟨⟨⟨a,50,48,49⟩,⟨b,51,48,49⟩⟩,ha,hb,⟨rfl,rfl,rfl,rfl,rfl,rfl,?_,?_,k7 h.s1 hn,b2,a3,b3,?_⟩⟩
 ·rw [h.it] at a1
  exact sK a2 (k7 h.s1 hn) (a1.trans (iG x L).symm)
 ·exact b1.trans ((h.pm.cons x).trans (iG x L).symm)
 ·intro y hy
  rcases r5.1 hy with rfl | hy
  ·exact hv
  ·exact h.vb y hy
theorem tn {s:b4} {L:List entry} (h:dT s L) (hL:L.length < 1000) (id:Int) (b:cg) :
  ∃ s' e,cf 20000 s id b = some (s',e) ∧ ((vB b = false ∧ e = 1) ∨ (vB b = true ∧ (∃ x ∈ L,x.id = id) ∧ e = 6) ∨ (vB b = true ∧ (∀ x ∈ L,x.id ≠ id) ∧ e = 0 ∧ dT s' (jW ⟨id,b⟩ L))):=by
 unfold cf
 rw [mU]
 cases hv:vB b
 ·exact ⟨_,_,rfl,.inl ⟨rfl,rfl⟩⟩
 ·simp only [Option.bind_some,Bool.not_true,Bool.false_eq_true,if_false]
  rcases qP h hL id with ⟨x,hx,e,hg⟩ | ⟨hg,hn⟩
  ·rw [hg]
   exact ⟨_,_,rfl,.inr (.inl ⟨trivial,⟨x,hx,e⟩,rfl⟩)⟩
  ·rw [hg]
   obtain ⟨s',h1,h2,h3⟩:=putN_ok h hL (x:=⟨id,b⟩) hv hn
   simp only [Option.bind_some,dd,Bool.false_eq_true,if_false,h1,h2]
   exact ⟨_,_,rfl,.inr (.inr ⟨trivial,hn,rfl,h3⟩)⟩
theorem delN_ok {s:b4} {L:List entry} (h:dT s L) (hL:L.length < 1000) {x:entry} (hx:x ∈ L) :
  ∃ s':b4,bJ 20000 s.ids x = some s'.ids ∧ bJ 20000 s.boxes x = some s'.boxes ∧ dT s' (fD x.id L):=by
 obtain ⟨a,ha,a1,a2,a3⟩:=py (f:=50) (.inl rfl) h.v1 (by rw [h.it]; exact h.s1) (x:=x) (by rw [h.it]; exact hx) (by rw [h.it]; exact hL)
 obtain ⟨b,hb,b1,b2,b3⟩:=py (f:=51) (.inr rfl) h.v2 h.s2 (x:=x) (h.pm.mem_iff.2 hx) (by rw [h.pm.length_eq]; exact hL)
 rw [← oD h.c1 h.k1 h.b1] at ha
 rw [← oD h.c2 h.k2 h.b2] at hb
 have hp:=qC h.s1 hx
 refine ⟨⟨⟨a,50,48,49⟩,⟨b,51,48,49⟩⟩,ha,hb,⟨rfl,rfl,rfl,rfl,rfl,rfl,?_,?_,la h.s1,b2,a3,b3,?_⟩⟩
 ·rw [h.it] at a1
  exact sK a2 (la h.s1) (List.perm_cons x |>.1 (a1.trans hp.symm))
 ·exact List.perm_cons x |>.1 ((b1.trans h.pm).trans hp.symm)
 ·intro y hy
  exact h.vb y (pq.1 hy).1
theorem nS {s:b4} {L:List entry} (h:dT s L) (hL:L.length < 1000) (id:Int) :
  ∃ s' e,b8 20000 s id = some (s',e) ∧ (((∀ x ∈ L,x.id ≠ id) ∧ e = 5) ∨ ((∃ x ∈ L,x.id = id) ∧ e = 0 ∧ dT s' (fD id L))):=by
 unfold b8
 rcases qP h hL id with ⟨x,hx,e,hg⟩ | ⟨hg,hn⟩
 ·rw [hg]
  obtain ⟨s',h1,h2,h3⟩:=delN_ok h hL hx
  simp only [Option.bind_some,dd,Bool.not_true,Bool.false_eq_true,if_false,h1,h2]
  rw [e] at h3
  exact ⟨_,_,rfl,.inr ⟨⟨x,hx,e⟩,rfl,h3⟩⟩
 ·rw [hg]
  exact ⟨_,_,rfl,.inl ⟨hn,rfl⟩⟩
def gnd (R:List entry) (b c:cg):List Int:=(met R b).filter fun z=>!decide (z ∈ met R c)
theorem Move_ok {s:b4} {L:List entry} (h:dT s L) (hL:L.length < 900) (id:Int) (b:cg) :
  ∃ s' g l e,cH 20000 s id b = some (s',g,l,e) ∧ ((vB b = false ∧ e = 1 ∧ g = [] ∧ l = []) ∨ (vB b = true ∧ (∀ x ∈ L,x.id ≠ id) ∧ e = 5 ∧ g = [] ∧ l = []) ∨
   (vB b = true ∧ ∃ x ∈ L,x.id = id ∧ e = 0 ∧ dT s' (jW ⟨id,b⟩ (fD id L)) ∧ g = gnd (fD id L) b x.b ∧ l = gnd (fD id L) x.b b)):=by
 unfold cH
 rw [mU]
 cases hv:vB b
 ·exact ⟨_,_,_,_,rfl,.inl ⟨rfl,rfl,rfl,rfl⟩⟩
 ·simp only [Option.bind_some,Bool.not_true,Bool.false_eq_true,if_false]
  rcases qP h (by omega) id with ⟨x,hx,e,hg⟩ | ⟨hg,hn⟩
  ·rw [hg]
   obtain ⟨s',f,h1,h2⟩:=nS h (by omega) id
   rcases h2 with ⟨h2,_⟩ | ⟨_,h2,h3⟩
   ·exact absurd e (h2 x hx)
   have hR:(fD id L).length < 1000:=by have:=pr id L; omega
   obtain ⟨s2,e2,h4,h5⟩:=tn h3 hR id b
   rcases h5 with ⟨h5,_⟩ | ⟨_,⟨y,hy,h5⟩,_⟩ | ⟨_,_,h5,h6⟩
   ·rw [hv] at h5; cases h5
   ·exact absurd h5 (pq.1 hy).2
   have m1:=fun c=>oF (fD id L) c
   have q1:=rT (met (fD id L) b) (met (fD id L) x.b) (by have:=m1 b; omega) (by have:=m1 x.b; omega) (sR h3.s1 _)
   have q2:=rT (met (fD id L) x.b) (met (fD id L) b) (by have:=m1 x.b; omega) (by have:=m1 b; omega) (sR h3.s1 _)
   simp only [Option.bind_some,dd,Bool.not_true,Bool.false_eq_true,if_false,h1,q8 h3 hR,h4,q1,q2]
   exact ⟨_,_,_,_,rfl,.inr (.inr ⟨trivial,x,hx,e,h5,h6,rfl,rfl⟩)⟩
  ·rw [hg]
   exact ⟨_,_,_,_,rfl,.inr (.inl ⟨trivial,hn,rfl,rfl,rfl⟩)⟩
theorem new_ok:dT (⟨⟨.leaf,50,48,49⟩,⟨.leaf,51,48,49⟩⟩:b4) [] :=
 ⟨rfl,rfl,rfl,rfl,rfl,rfl,rfl,.refl _,.nil,.nil,trivial,trivial,by simp⟩
def ox (x:entry):bB:=⟨x.id,x.b⟩
abbrev tI (L:List entry):List bB:=L.map ox
theorem pa {L:List entry} {pre post:List bB} {x:bB} (e:tI L = pre ++ x :: post):∃ p y q,L = p ++ y :: q ∧ tI p = pre ∧ ox y = x ∧ tI q = post:=by
 obtain ⟨p,r,e1,e2,e3⟩:=List.map_eq_append_iff.1 e
 obtain ⟨y,q,rfl,e5,e6⟩:=List.map_eq_cons_iff.1 e3
 exact ⟨p,y,q,e1,e2,e5,e6⟩
theorem wk (L:List entry) (hL:L.length < 1900) (id:Int) :
  (∃ k x,bz 20000 (tI L) id = some k ∧ 0 ≤ k ∧ x ∈ L ∧ x.id = id ∧ a8 (tI L) k = some (ox x)) ∨ ((∀ x ∈ L,x.id ≠ id) ∧ bz 20000 (tI L) id = some (-1)):=by
 have hl:(tI L).length = L.length:=List.length_map _
 obtain ⟨r,hr,h⟩:bC (bz 20000 (tI L) id) fun k=>(∃ x,0 ≤ k ∧ x ∈ L ∧ x.id = id ∧ a8 (tI L) k = some (ox x)) ∨ ((∀ x ∈ L,x.id ≠ id) ∧ k = -1):=by
  unfold bz
  refine bC.bind (P:=fun o=>(∃ k x,o = .inr k ∧ 0 ≤ k ∧ x ∈ L ∧ x.id = id ∧ a8 (tI L) k = some (ox x)) ∨ ((∀ x ∈ L,x.id ≠ id) ∧ o = .inl ())) ?_ ?_
  ·refine bC.ea1 (l:=tI L) (I:=fun pre=>∀ y ∈ pre,y.Id ≠ id) (by omega) (by omega) (by simp) (fun pre x post e hx hI=>?_) (fun hI=>.inr ⟨fun x hx=>?_,rfl⟩)
   ·rw [hx]
    simp only [Option.bind_some]
    obtain ⟨p,y,q,e1,e2,e3,e4⟩:=pa e
    by_cases hc:x.Id = id
    ·rw [if_pos (by simpa using hc)]
     refine bC.some (.inr ⟨_,rfl,.inl ⟨_,y,rfl,by omega,by rw [e1]; simp,?_,?_⟩⟩)
     ·rw [← hc,← e3]; rfl
     ·rw [hx,e3]
    ·rw [if_neg (by simpa using hc)]
     refine bC.some (.inl ⟨rfl,fun z hz=>?_⟩)
     rcases List.mem_append.1 hz with hz | hz
     ·exact hI z hz
     ·rw [List.mem_singleton] at hz; subst hz; exact hc
   ·have:=hI (ox x) (List.mem_map_of_mem hx)
    exact this
  ·rintro o (⟨k,x,rfl,h⟩ | ⟨h,rfl⟩)
   ·exact bC.some (.inl ⟨x,h⟩)
   ·exact bC.some (.inr ⟨h,rfl⟩)
 rcases h with ⟨x,h1,h2,h3,h4⟩ | ⟨h1,h2⟩
 ·exact .inl ⟨r,x,hr,h1,h2,h3,h4⟩
 ·exact .inr ⟨h1,by rw [hr,h2]⟩
def gR (x:entry):List entry → List entry × Bool
 | []=>([],false)
 | y :: l=>if x.id < y.id then (x :: y :: l,true) else let r:=gR x l; (y :: r.1,r.2)
theorem o2 (x:entry):∀ L,jW x L = if (gR x L).2 = true then (gR x L).1 else (gR x L).1 ++ [x]
 | []=>rfl
 | y :: l=>by
  unfold jW gR
  split
  ·rfl
  ·rw [o2 x l]
   simp only
   split <;> simp
theorem qf (x y:entry):∀ L,gR x (L ++ [y]) = if (gR x L).2 = true then ((gR x L).1 ++ [y],true) else if x.id < y.id then ((gR x L).1 ++ [x,y],true) else ((gR x L).1 ++ [y],false)
 | []=>by
  show gR x [y] = _
  unfold gR gR
  split <;> simp_all [gR]
 | z :: l=>by
  rw [List.cons_append]
  unfold gR
  split
  ·simp
  ·simp only
   rw [qf x y l]
   split
   ·simp
   ·split <;> simp
theorem rF (x:entry) (L:List entry):(gR x L).1.length ≤ L.length + 1:=by
 have h:=congrArg List.length (o2 x L)
 rw [r6] at h
 split at h
 ·omega
 ·simp at h; omega
theorem rJ (L:List entry) (x:entry) (hL:L.length < 1900):cJ 20000 (tI L) (ox x) = some (tI (jW x L)):=by
 have hl:(tI L).length = L.length:=List.length_map _
 refine bC.eq ?_
 unfold cJ
 refine bC.bind (P:=fun r=>r = (tI (gR x L).1,(gR x L).2)) ?_ ?_
 ·refine bC.ea3 (l:=tI L) (G:=fun a b=>(a,b)) (I:=fun pre a b=>∃ p,tI p = pre ∧ a = tI (gR x p).1 ∧ b = (gR x p).2) (by omega) (by omega) ⟨[],rfl,rfl,rfl⟩ (fun pre z post a b e hx hI=>?_) (fun a b hI=>?_)
  ·obtain ⟨p,h1,rfl,rfl⟩:=hI
   obtain ⟨p',y,q,e1,e2,rfl,e4⟩:=pa e
   have hpp:p' = p:=(List.map_inj_right (fun a b h=>by cases a; cases b; simpa [ox] using h)).1 (e2.trans h1.symm)
   subst hpp
   have hlp:=rF x p'
   have hpl:p'.length < L.length:=by rw [e1]; simp
   have hsn:=qf x y p'
   have hll:(tI (gR x p').1).length = (gR x p').1.length:=List.length_map _
   rw [hx]
   cases hb:(gR x p').2
   ·rw [hb] at hsn
    simp only [Bool.not_false,bD,if_true,Option.bind_some,Bool.true_and]
    by_cases hc:x.id < y.id
    ·rw [if_pos hc] at hsn
     have hd:decide ((ox x).Id < (ox y).Id) = true:=decide_eq_true hc
     rw [hd,if_pos rfl,dE,if_pos (by simp only [List.length_cons,List.length_nil]; omega)]
     simp only [Option.bind_some,dd]
     rw [dE,if_pos (by simp only [List.length_append,List.length_cons,List.length_nil]; omega)]
     refine ⟨_,rfl,.inl ⟨_,_,rfl,p' ++ [y],?_,?_,?_⟩⟩
     ·rw [← h1]; simp [tI,ox]
     ·rw [hsn]; simp [tI,ox]
     ·rw [hsn]; simp
    ·rw [if_neg hc] at hsn
     have hd:decide ((ox x).Id < (ox y).Id) = false:=decide_eq_false hc
     rw [hd,if_neg (by decide)]
     simp only [Option.bind_some,dd]
     rw [dE,if_pos (by simp only [List.length_cons,List.length_nil]; omega)]
     refine ⟨_,rfl,.inl ⟨_,_,rfl,p' ++ [y],?_,?_,?_⟩⟩
     ·rw [← h1]; simp [tI,ox]
     ·rw [hsn]; simp [tI,ox]
     ·rw [hsn]; simp
   ·rw [hb] at hsn
    simp only [Bool.not_true,bD,Bool.false_eq_true,if_false,Option.bind_some,Bool.false_and,dd]
    rw [dE,if_pos (by simp only [List.length_cons,List.length_nil]; omega)]
    refine ⟨_,rfl,.inl ⟨_,_,rfl,p' ++ [y],?_,?_,?_⟩⟩
    ·rw [← h1]; simp [tI,ox]
    ·rw [hsn]; simp [tI,ox]
    ·rw [hsn]; simp
  ·obtain ⟨p,h1,rfl,rfl⟩:=hI
   have hpp:p = L:=(List.map_inj_right (fun a b h=>by cases a; cases b; simpa [ox] using h)).1 h1
   rw [hpp]
 ·rintro _ rfl
  have hw:=o2 x L
  have hlp:=rF x L
  have hll:(tI (gR x L).1).length = (gR x L).1.length:=List.length_map _
  cases hb:(gR x L).2
  ·rw [hb] at hw
   simp only [dd,Bool.not_false,if_true]
   rw [dE,if_pos (by simp only [List.length_cons,List.length_nil]; omega)]
   refine bC.some ?_
   rw [hw]; simp [tI,ox]
  ·rw [hb] at hw
   refine bC.some ?_
   rw [hw]; simp
theorem oe (L:List entry) (id:Int) (hL:L.length < 1900):bZ 20000 (tI L) id = some (tI (fD id L)):=by
 have hl:(tI L).length = L.length:=List.length_map _
 refine bC.eq ?_
 unfold bZ
 refine bC.bind (P:=fun r=>r = tI (fD id L)) ?_ (fun r hr=>by rw [hr]; exact bC.some rfl)
 refine bC.ea2 (l:=tI L) (G:=fun a=>a) (I:=fun pre a=>a = pre.filter fun y=>decide (y.Id ≠ id)) (by omega) (by omega) rfl (fun pre z post a e hx hI=>?_) (fun a hI=>?_)
 ·rw [hx]
  simp only [Option.bind_some]
  have hlen:a.length ≤ pre.length:=by rw [hI]; exact List.length_filter_le _ _
  have hal:(tI L).length = pre.length + 1 + post.length:=by rw [e]; simp; omega
  by_cases hc:z.Id = id
  ·rw [if_neg (by simpa using hc)]
   exact ⟨_,rfl,.inl ⟨a,rfl,by rw [hI,List.filter_append]; simp [hc]⟩⟩
  ·rw [if_pos (by simpa using hc),dE,if_pos (by simp only [List.length_cons,List.length_nil]; omega)]
   exact ⟨_,rfl,.inl ⟨a ++ [z],rfl,by rw [hI,List.filter_append]; simp [hc]⟩⟩
 ·rw [hI]
  unfold fD
  rw [tI,tI,List.filter_map]; rfl
theorem rmet_ok (L:List entry) (b:cg) (hL:L.length < 1900):dq 20000 (tI L) b = some (met L b):=by
 have hl:(tI L).length = L.length:=List.length_map _
 refine bC.eq ?_
 unfold dq
 refine bC.bind (P:=fun r=>r = met L b) ?_ (fun r hr=>by rw [hr]; exact bC.some rfl)
 refine bC.ea2 (l:=tI L) (G:=fun a=>a) (I:=fun pre a=>a = (pre.filter fun y=>mB y.B b).map (·.Id)) (by omega) (by omega) rfl (fun pre z post a e hx hI=>?_) (fun a hI=>?_)
 ·rw [hx]
  simp only [Option.bind_some,pf]
  have hlen:a.length ≤ pre.length:=by rw [hI,List.length_map]; exact List.length_filter_le _ _
  have hal:(tI L).length = pre.length + 1 + post.length:=by rw [e]; simp; omega
  by_cases hc:mB z.B b = true
  ·rw [if_pos hc,dE,if_pos (by simp only [List.length_cons,List.length_nil]; omega)]
   exact ⟨_,rfl,.inl ⟨a ++ [z.Id],rfl,by rw [hI,List.filter_append]; simp [hc]⟩⟩
  ·rw [if_neg hc]
   exact ⟨_,rfl,.inl ⟨a,rfl,by rw [hI,List.filter_append]; simp [hc]⟩⟩
 ·rw [hI]
  unfold met
  rw [tI,List.filter_map,List.map_map]; rfl
theorem rids_ok (L:List entry) (hL:L.length < 1900):dr 20000 (tI L) = some (L.map (·.id)):=by
 have hl:(tI L).length = L.length:=List.length_map _
 refine bC.eq ?_
 unfold dr
 refine bC.bind (P:=fun r=>r = L.map (·.id)) ?_ (fun r hr=>by rw [hr]; exact bC.some rfl)
 refine bC.ea2 (l:=tI L) (G:=fun a=>a) (I:=fun pre a=>a = pre.map (·.Id)) (by omega) (by omega) rfl (fun pre z post a e hx hI=>?_) (fun a hI=>?_)
 ·rw [hx]
  simp only [Option.bind_some]
  have hlen:a.length = pre.length:=by rw [hI,List.length_map]
  have hal:(tI L).length = pre.length + 1 + post.length:=by rw [e]; simp; omega
  rw [dE,if_pos (by simp only [List.length_cons,List.length_nil]; omega)]
  exact ⟨_,rfl,.inl ⟨a ++ [z.Id],rfl,by rw [hI]; simp⟩⟩
 ·rw [hI,tI,List.map_map]; rfl
def kZ:List entry → List A2
 | []=>[]
 | x :: l=>((l.filter fun y=>mB x.b y.b).map fun y=>(⟨x.id,y.id⟩:A2)) ++ kZ l
theorem nR:∀ L:List entry,(kZ L).length ≤ L.length * L.length
 | []=>by simp [kZ]
 | x :: l=>by
  unfold kZ
  have h:=nR l
  have h2:=List.length_filter_le (fun y=>mB x.b y.b) l
  simp only [List.length_append,List.length_map,List.length_cons]
  have:(l.length + 1) * (l.length + 1) = l.length * l.length + 2 * l.length + 1:=by grind
  omega
theorem ea2f {α σ τ:Type} [Inhabited α] {l P R:List α} (e0:l = P ++ R) {A:σ → Int → Option ((σ × Int) ⊕ τ)} {G:σ → τ} {Q:τ → Prop} {F:Nat} {s0:σ} (I:List α → σ → Prop) (hF:l.length < F) (hL:l.length ≤ 1000000000) (h0:I [] s0)
  (step:∀ pre x post s,R = pre ++ x :: post → a8 l ((P.length + pre.length:Nat):Int) = some x → I pre s → bC (A s ((P.length + pre.length:Nat):Int)) fun o=>(∃ s',o = .inl (s',IntKind.i64.wrap (((P.length + pre.length:Nat):Int) + 1)) ∧ I (pre ++ [x]) s') ∨ ∃ t,o = .inr t ∧ Q t)
  (fin:∀ s,I R s → Q (G s)) {st:Int} (hst:st = (P.length:Int)):bC (iter F (dd fun s i=>if decide (i < (l.length:Int)) = true then A s i else some (.inr (G s))) (s0,st)) Q:=by
 have hlen:l.length = P.length + R.length:=by rw [e0,List.length_append]
 refine bC.rounds (n:=R.length) (I:=fun k s=>k ≤ R.length ∧ s.2 = ((P.length + k:Nat):Int) ∧ I (R.take k) s.1) (by omega) ⟨Nat.zero_le _,hst,by simpa using h0⟩ ?_
 rintro k ⟨s,i⟩ hk ⟨hk',hi,hI⟩
 simp only at hi hI
 subst hi
 simp only [dd]
 by_cases hc:k < R.length
 ·rw [if_pos (by simp only [decide_eq_true_eq]; omega)]
  have e:R = R.take k ++ R[k] :: R.drop (k + 1):=by rw [← List.drop_eq_getElem_cons hc,List.take_append_drop]
  have hl:(R.take k).length = k:=by rw [List.length_take]; omega
  have hx:a8 l ((P.length + (R.take k).length:Nat):Int) = some R[k]:=by
   rw [hl,mR (by omega) (by omega),oH _ _ (by omega)]
   simp only [e0]
   rw [List.getElem_append_right (by omega)]
   simp
  have h:=step (R.take k) R[k] (R.drop (k + 1)) s e hx hI
  rw [hl] at h
  refine h.mono fun o ho=>?_
  rcases ho with ⟨s',rfl,h⟩ | h
  ·refine .inl ⟨_,rfl,⟨by omega,?_,?_⟩,hc⟩
   ·show IntKind.i64.wrap (((P.length + k:Nat):Int) + 1) = _
    rw [oO (by omega) (by omega)]; push_cast; omega
   ·rw [List.take_succ_eq_append_getElem hc]; exact h
  ·exact .inr h
 ·have:k = R.length:=by omega
  subst this
  rw [List.take_length] at hI
  rw [if_neg (by simp only [decide_eq_true_eq]; omega)]
  exact bC.some (.inr ⟨_,rfl,fin s hI⟩)
def lQ:List bB → List A2
 | []=>[]
 | x :: l=>((l.filter fun y=>mB x.B y.B).map fun y=>(⟨x.Id,y.Id⟩:A2)) ++ lQ l
theorem pQ (x:bB) (l:List bB):lQ (x :: l) = ((l.filter fun y=>mB x.B y.B).map fun y=>(⟨x.Id,y.Id⟩:A2)) ++ lQ l:=rfl
theorem pR (x:entry) (l:List entry):kZ (x :: l) = ((l.filter fun y=>mB x.b y.b).map fun y=>(⟨x.id,y.id⟩:A2)) ++ kZ l:=rfl
theorem pt:∀ L:List entry,lQ (tI L) = kZ L
 | []=>rfl
 | x :: l=>by
  show lQ (ox x :: tI l) = _
  rw [pQ,pR,pt l,tI,List.filter_map,List.map_map]
  rfl
theorem wo (L:List entry) (hL:L.length < 1000):dc 20000 (tI L) = some (kZ L):=by
 have hl:(tI L).length = L.length:=List.length_map _
 rw [← pt]
 have hbl:(lQ (tI L)).length ≤ 1000000:=by
  rw [pt]
  have:=nR L
  have:L.length * L.length ≤ 1000 * 1000:=Nat.mul_le_mul (by omega) (by omega)
  omega
 refine bC.eq ?_
 unfold dc
 refine bC.bind (P:=fun r=>r = lQ (tI L)) ?_ (fun r hr=>by rw [hr]; exact bC.some rfl)
 refine bC.ea2 (l:=tI L) (G:=fun a=>a) (I:=fun pre a=>∃ q,tI L = pre ++ q ∧ a ++ lQ q = lQ (tI L)) (by omega) (by omega) ⟨_,rfl,rfl⟩ (fun pre z post a e hx hI=>?_) (fun a hI=>?_)
 ·obtain ⟨q,h1,h2⟩:=hI
  have hq:q = z :: post:=List.append_cancel_left (h1.symm.trans e)
  subst hq
  rw [pQ] at h2
  have hpl:(tI L).length = pre.length + 1 + post.length:=by rw [e]; simp; omega
  refine bC.bind (P:=fun r=>r = a ++ ((post.filter fun y=>mB z.B y.B).map fun y=>(⟨z.Id,y.Id⟩:A2))) ?_ (fun r hr=>?_)
  ·refine bC.bind (P:=fun r=>r = a ++ ((post.filter fun y=>mB z.B y.B).map fun y=>(⟨z.Id,y.Id⟩:A2))) ?_ (fun r hr=>bC.some hr)
   refine ea2f (l:=tI L) (P:=pre ++ [z]) (R:=post) (by rw [e]; simp) (G:=fun a=>a) (I:=fun p b=>b = a ++ ((p.filter fun y=>mB z.B y.B).map fun y=>(⟨z.Id,y.Id⟩:A2))) (by omega) (by omega) (by simp) (fun p y po b e' hx' hI'=>?_) (fun b hb=>hb) (by rw [oO (by omega) (by omega)]; simp)
   rw [hx,hx']
   simp only [Option.bind_some,pf]
   by_cases hc:mB z.B y.B = true
   ·have hbl':b.length ≤ 1000000:=by
     have h3:=congrArg List.length h2
     rw [e'] at h3
     simp only [List.filter_append,List.map_append,List.length_append] at h3
     rw [hI',List.length_append]
     omega
    rw [if_pos hc,dE,if_pos (by simp only [List.length_cons,List.length_nil]; omega)]
    exact ⟨_,rfl,.inl ⟨_,rfl,by rw [hI',List.filter_append]; simp [hc]⟩⟩
   ·rw [if_neg hc]
    exact ⟨_,rfl,.inl ⟨_,rfl,by rw [hI',List.filter_append]; simp [hc]⟩⟩
  ·rw [hr]
   exact bC.some (.inl ⟨_,rfl,post,by rw [e]; simp,by rw [← h2,List.append_assoc]⟩)
 ·obtain ⟨q,h1,h2⟩:=hI
  have:q = []:=by
   have:=congrArg List.length h1
   simp only [List.length_append] at this
   exact List.length_eq_zero_iff.1 (by omega)
  subst this
  simpa [lQ] using h2
theorem allP_eq {L:List entry} (h:jy 50 L):allP L = kZ L:=by
 have key:∀ (q pre:List entry),L = pre ++ q → q.flatMap (prs L) = kZ q:=by
  intro q
  induction q with
  | nil=>intro pre _; rfl
  | cons x l ih=>
   intro pre e
   rw [List.flatMap_cons,ih (pre ++ [x]) (by rw [e]; simp),pR]
   congr 1
   have h':=h
   rw [e] at h'
   unfold jy at h'
   rw [List.pairwise_append,List.pairwise_cons] at h'
   unfold prs met
   rw [e,List.filter_append,List.map_append,List.filter_append,List.filter_cons]
   have a1:((pre.filter fun y=>mB y.b x.b).map (·.id)).filter (fun z=>decide (x.id < z)) = []:=by
    rw [List.filter_eq_nil_iff]
    intro z hz
    obtain ⟨y,hy,rfl⟩:=List.mem_map.1 hz
    have:=(iH _ _).1 (h'.2.2 y (List.mem_filter.1 hy).1 x (by simp))
    simp; omega
   have a2:∀ b:Bool,((if b = true then x :: l.filter (fun y=>mB y.b x.b) else l.filter (fun y=>mB y.b x.b)).map (·.id)).filter (fun z=>decide (x.id < z)) = (l.filter fun y=>mB x.b y.b).map (·.id):=by
    have a3:((l.filter fun y=>mB y.b x.b).map (·.id)).filter (fun z=>decide (x.id < z)) = (l.filter fun y=>mB x.b y.b).map (·.id):=by
     rw [List.filter_eq_self.2,List.filter_congr (q:=fun y=>mB x.b y.b) fun y _=>mB_comm y.b x.b]
     intro z hz
     obtain ⟨y,hy,rfl⟩:=List.mem_map.1 hz
     have:=(iH _ _).1 (h'.2.1.1 y (List.mem_filter.1 hy).1)
     simp; omega
    intro b
    cases b
    ·exact a3
    ·simp only [if_true,List.map_cons,List.filter_cons,show decide (x.id < x.id) = false by simp,Bool.false_eq_true,if_false]
     exact a3
   rw [a1,a2,List.nil_append,List.map_map]
   rfl
 exact key L [] rfl
def ma (id:Int) (L:List entry):Bool:=L.any fun y=>decide (y.id = id)
def rn (id:Int) (L:List entry):cg:=((L.find? fun y=>decide (y.id = id)).getD default).b
theorem nt {id:Int} {L:List entry}:ma id L = true ↔ ∃ x ∈ L,x.id = id:=by unfold ma; simp
theorem mi {id:Int} {L:List entry}:ma id L = false ↔ ∀ x ∈ L,x.id ≠ id:=by unfold ma; simp
theorem uk {L:List entry} (h:jy 50 L) {x:entry} (hx:x ∈ L):rn x.id L = x.b:=by
 unfold rn
 cases hf:L.find? fun y=>decide (y.id = x.id) with
 | none=>have:=List.find?_eq_none.1 hf x hx; simp at this
 | some y=>
  have h1:=List.find?_some hf
  have h2:=List.mem_of_find?_eq_some hf
  rw [pb h h2 hx (by simpa using h1)]
  rfl
def jV (L:List entry) (o:kE):List entry × List Int × List Int × Int :=
 if o.Kind = 0 then
  if vB o.B = true then (if ma o.Id L = true then (L,[],[],6) else (jW ⟨o.Id,o.B⟩ L,[],[],0)) else (L,[],[],1)
 else if o.Kind = 1 then
  if ma o.Id L = true then (fD o.Id L,[],[],0) else (L,[],[],5)
 else if vB o.B = true then
  (if ma o.Id L = true then (jW ⟨o.Id,o.B⟩ (fD o.Id L),gnd (fD o.Id L) o.B (rn o.Id L),gnd (fD o.Id L) (rn o.Id L) o.B,0) else (L,[],[],5))
 else (L,[],[],1)
theorem doE_len (L:List entry) (o:kE):(jV L o).1.length ≤ L.length + 1:=by
 unfold jV
 have h1:=pr o.Id L
 repeat' split
 all_goals simp only [r6]
 all_goals omega
theorem vR {L:List entry} {o:kE} (k:o.Kind = 0) (hv:vB o.B = false):jV L o = (L,[],[],1):=by simp [jV,k,hv]
theorem vS {L:List entry} {o:kE} (k:o.Kind = 0) (hv:vB o.B = true) (hh:ma o.Id L = true):jV L o = (L,[],[],6):=by simp [jV,k,hv,hh]
theorem vT {L:List entry} {o:kE} (k:o.Kind = 0) (hv:vB o.B = true) (hh:ma o.Id L = false):jV L o = (jW ⟨o.Id,o.B⟩ L,[],[],0):=by simp [jV,k,hv,hh]
theorem vP {L:List entry} {o:kE} (k:o.Kind = 1) (hh:ma o.Id L = false):jV L o = (L,[],[],5):=by simp [jV,k,hh]
theorem vQ {L:List entry} {o:kE} (k:o.Kind = 1) (hh:ma o.Id L = true):jV L o = (fD o.Id L,[],[],0):=by simp [jV,k,hh]
theorem vM {L:List entry} {o:kE} (k0:o.Kind ≠ 0) (k1:o.Kind ≠ 1) (hv:vB o.B = false):jV L o = (L,[],[],1):=by simp [jV,k0,k1,hv]
theorem vN {L:List entry} {o:kE} (k0:o.Kind ≠ 0) (k1:o.Kind ≠ 1) (hv:vB o.B = true) (hh:ma o.Id L = false):jV L o = (L,[],[],5):=by simp [jV,k0,k1,hv,hh]
theorem vO {L:List entry} {o:kE} (k0:o.Kind ≠ 0) (k1:o.Kind ≠ 1) (hv:vB o.B = true) (hh:ma o.Id L = true):jV L o = (jW ⟨o.Id,o.B⟩ (fD o.Id L),gnd (fD o.Id L) o.B (rn o.Id L),gnd (fD o.Id L) (rn o.Id L) o.B,0):=by simp [jV,k0,k1,hv,hh]
theorem uq (L:List entry) (o:kE) (he:(jV L o).2.2.2 ≠ 0):(jV L o).1 = L:=by
 unfold jV at *
 repeat' split
 all_goals simp_all
theorem mv_ok {s:b4} {L:List entry} (h:dT s L) (hL:L.length < 900) (o:kE) (k0:o.Kind ≠ 0) (k1:o.Kind ≠ 1) :
  ∃ s',cH 20000 s o.Id o.B = some (s',(jV L o).2.1,(jV L o).2.2.1,(jV L o).2.2.2) ∧ ((jV L o).2.2.2 = 0 → dT s' (jV L o).1):=by
 obtain ⟨s',g,l,e,h1,h2⟩:=Move_ok h hL o.Id o.B
 rcases h2 with ⟨h2,rfl,rfl,rfl⟩ | ⟨h2,h3,rfl,rfl,rfl⟩ | ⟨h2,x,hx,h3,rfl,h4,rfl,rfl⟩
 ·rw [vM k0 k1 h2]
  exact ⟨s',h1,by simp⟩
 ·rw [vN k0 k1 h2 (mi.2 h3)]
  exact ⟨s',h1,by simp⟩
 ·rw [vO k0 k1 h2 (nt.2 ⟨x,hx,h3⟩),show rn o.Id L = x.b from by rw [← h3]; exact uk h.s1 hx]
  exact ⟨s',h1,fun _=>h4⟩
theorem play_ok {s:b4} {L:List entry} (h:dT s L) (hL:L.length < 900) (o:kE) :
  ∃ s',bI 20000 s o = some (s',(jV L o).2.1,(jV L o).2.2.1,(jV L o).2.2.2) ∧ dT s' (jV L o).1:=by
 unfold bI
 by_cases k0:o.Kind = 0
 ·rw [if_pos (by simpa using k0)]
  obtain ⟨s',e,h1,h2⟩:=tn h (by omega) o.Id o.B
  rw [h1]
  simp only [Option.bind_some,dd,uX]
  rcases h2 with ⟨h2,rfl⟩ | ⟨h2,h3,rfl⟩ | ⟨h2,h3,rfl,h4⟩
  ·rw [vR k0 h2]
   exact ⟨s,rfl,h⟩
  ·rw [vS k0 h2 (nt.2 h3)]
   exact ⟨s,rfl,h⟩
  ·rw [vT k0 h2 (mi.2 h3)]
   exact ⟨s',rfl,h4⟩
 ·rw [if_neg (by simpa using k0)]
  by_cases k1:o.Kind = 1
  ·rw [if_pos (by simpa using k1)]
   obtain ⟨s',e,h1,h2⟩:=nS h (by omega) o.Id
   rw [h1]
   simp only [Option.bind_some,dd,uX]
   rcases h2 with ⟨h2,rfl⟩ | ⟨h2,rfl,h3⟩
   ·rw [vP k1 (mi.2 h2)]
    exact ⟨s,rfl,h⟩
   ·rw [vQ k1 (nt.2 h2)]
    exact ⟨s',rfl,h3⟩
  ·rw [if_neg (by simpa using k1)]
   obtain ⟨s',h1,h2⟩:=mv_ok h hL o k0 k1
   rw [h1]
   simp only [Option.bind_some,uX]
   by_cases he:(jV L o).2.2.2 = 0
   ·rw [if_neg (by simpa using he)]
    exact ⟨s',rfl,h2 he⟩
   ·rw [if_pos (by simpa using he)]
    refine ⟨s,rfl,?_⟩
    rw [uq L o he]; exact h
theorem gnd_eq {R:List entry} (h:jy 50 R) (b c:cg):gnd R b c = (R.filter fun y=>mB y.b b && !mB y.b c).map (·.id):=by
 unfold gnd
 conv=>lhs; arg 2; unfold met
 rw [List.filter_map,List.filter_filter]
 congr 1
 refine List.filter_congr fun y hy=>?_
 simp only [Function.comp]
 rw [Bool.and_comm]
 congr 2
 have:y.id ∈ met R c ↔ mB y.b c = true:=by
  unfold met
  rw [List.mem_map]
  constructor
  ·rintro ⟨z,hz,e⟩
   rw [List.mem_filter] at hz
   rw [← pb h hz.1 hy e]; exact hz.2
  ·exact fun hm=>⟨y,List.mem_filter.2 ⟨hy,hm⟩,rfl⟩
 cases hm:mB y.b c
 ·rw [decide_eq_false_iff_not,this,hm]; simp
 ·rw [decide_eq_true_iff,this,hm]
theorem do_ok {L:List entry} (h:jy 50 L) (hL:L.length < 900) (o:kE) :
  ∃ m,dB 20000 (tI L) o = some m ∧ m.Gained = (jV L o).2.1 ∧ m.Lost = (jV L o).2.2.1 ∧ m.E = (jV L o).2.2.2 ∧ (m.E = 0 → m.S = tI (jV L o).1):=by
 unfold dB
 have hfd:=wk L (by omega) o.Id
 by_cases k0:o.Kind = 0
 ·rw [if_pos (by simpa using k0)]
  unfold dR
  rw [nC]
  cases hv:vB o.B
  ·rw [vR k0 hv]
   exact ⟨_,rfl,rfl,rfl,rfl,by simp⟩
  ·simp only [Option.bind_some,Bool.not_true,Bool.false_eq_true,if_false,if_true]
   rcases hfd with ⟨k,x,h1,h2,h3,h4,h5⟩ | ⟨h1,h2⟩
   ·rw [h1,vS k0 hv (nt.2 ⟨x,h3,h4⟩)]
    simp only [Option.bind_some,h2,decide_true,if_true]
    exact ⟨_,rfl,rfl,rfl,rfl,by simp⟩
   ·rw [h2,vT k0 hv (mi.2 h1)]
    simp only [Option.bind_some,show decide ((0:Int) ≤ -1) = false from rfl,Bool.false_eq_true,if_false]
    rw [show (⟨o.Id,o.B⟩:bB) = ox ⟨o.Id,o.B⟩ from rfl,rJ L _ (by omega)]
    exact ⟨_,rfl,rfl,rfl,rfl,fun _=>rfl⟩
 ·rw [if_neg (by simpa using k0)]
  by_cases k1:o.Kind = 1
  ·rw [if_pos (by simpa using k1)]
   unfold dv
   rcases hfd with ⟨k,x,h1,h2,h3,h4,h5⟩ | ⟨h1,h2⟩
   ·rw [h1,vQ k1 (nt.2 ⟨x,h3,h4⟩)]
    simp only [Option.bind_some,show decide (k < 0) = false by simp; omega,Bool.false_eq_true,if_false]
    rw [oe L _ (by omega)]
    exact ⟨_,rfl,rfl,rfl,rfl,fun _=>rfl⟩
   ·rw [h2,vP k1 (mi.2 h1)]
    exact ⟨_,rfl,rfl,rfl,rfl,by simp⟩
  ·rw [if_neg (by simpa using k1)]
   unfold dN
   rw [nC]
   cases hv:vB o.B
   ·rw [vM k0 k1 hv]
    exact ⟨_,rfl,rfl,rfl,rfl,by simp⟩
   ·simp only [Option.bind_some,Bool.not_true,Bool.false_eq_true,if_false,if_true]
    rcases hfd with ⟨k,x,h1,h2,h3,h4,h5⟩ | ⟨h1,h2⟩
    ·have hR:(fD o.Id L).length ≤ L.length:=pr _ _
     have hs:jy 50 (fD o.Id L):=la h
     rw [h1,vO k0 k1 hv (nt.2 ⟨x,h3,h4⟩),show rn o.Id L = x.b from by rw [← h4]; exact uk h h3]
     simp only [Option.bind_some,show decide (k < 0) = false by simp; omega,Bool.false_eq_true,if_false]
     rw [oe L _ (by omega)]
     simp only [Option.bind_some]
     rw [show (⟨o.Id,o.B⟩:bB) = ox ⟨o.Id,o.B⟩ from rfl,rJ _ _ (by omega)]
     simp only [Option.bind_some,gnd_eq hs]
     generalize fD o.Id L = R at hR hs ⊢
     have hl:(tI R).length = R.length:=List.length_map _
     show bC _ _
     rw [Option.bind_assoc]
     refine bC.bind (P:=fun r=>r = ((R.filter fun y=>mB y.b o.B && !mB y.b x.b).map (·.id),(R.filter fun y=>mB y.b x.b && !mB y.b o.B).map (·.id))) ?_ (fun r hr=>?_)
     ·refine bC.ea3 (l:=tI R) (G:=fun a b=>(a,b)) (I:=fun pre a b=>a = (pre.filter fun y=>mB y.B o.B && !mB y.B x.b).map (·.Id) ∧ b = (pre.filter fun y=>mB y.B x.b && !mB y.B o.B).map (·.Id)) (by omega) (by omega) ⟨rfl,rfl⟩ (fun pre z post a b e hx hI=>?_) (fun a b hI=>?_)
      ·rw [hx,h5]
       simp only [Option.bind_some,pf,ox]
       have hla:a.length ≤ pre.length:=by rw [hI.1,List.length_map]; exact List.length_filter_le _ _
       have hlb:b.length ≤ pre.length:=by rw [hI.2,List.length_map]; exact List.length_filter_le _ _
       have hal:(tI R).length = pre.length + 1 + post.length:=by rw [e]; simp; omega
       have ap1:dE a [z.Id] = some (a ++ [z.Id]):=by rw [dE,if_pos (by simp only [List.length_cons,List.length_nil]; omega)]
       have ap2:dE b [z.Id] = some (b ++ [z.Id]):=by rw [dE,if_pos (by simp only [List.length_cons,List.length_nil]; omega)]
       rw [ap1,ap2]
       obtain ⟨ha,hb⟩:=hI
       cases c1:mB z.B o.B <;> cases c2:mB z.B x.b
       ·exact ⟨_,rfl,.inl ⟨_,_,rfl,by rw [ha,List.filter_append]; simp [c1,c2],by rw [hb,List.filter_append]; simp [c1,c2]⟩⟩
       ·exact ⟨_,rfl,.inl ⟨_,_,rfl,by rw [ha,List.filter_append]; simp [c1,c2],by rw [hb,List.filter_append]; simp [c1,c2]⟩⟩
       ·exact ⟨_,rfl,.inl ⟨_,_,rfl,by rw [ha,List.filter_append]; simp [c1,c2],by rw [hb,List.filter_append]; simp [c1,c2]⟩⟩
       ·exact ⟨_,rfl,.inl ⟨_,_,rfl,by rw [ha,List.filter_append]; simp [c1,c2],by rw [hb,List.filter_append]; simp [c1,c2]⟩⟩
      ·rw [hI.1,hI.2,tI,List.filter_map,List.map_map,List.filter_map,List.map_map]; rfl
     ·subst hr
      exact bC.some ⟨rfl,rfl,rfl,fun _=>rfl⟩
    ·rw [h2,vN k0 k1 hv (mi.2 h1)]
     exact ⟨_,rfl,rfl,rfl,rfl,by simp⟩
def bx (l:List cg) (k:Int):cg:=idx l k
def entsF:Nat → List cg → List entry
 | _,[]=>[]
 | k,b :: l=>⟨k,b⟩ :: entsF (k + 1) l
def uz (l:List cg):List entry:=entsF 0 l
def up (n:Nat):List Int:=(List.range n).map fun k:Nat=>(k:Int)
structure Swp (l:List cg) (pre active:List Int) (out:List A2):Prop where
 sub:∀ k ∈ active,k ∈ pre
 nd:active.Nodup
 gone:∀ k ∈ pre,k ∉ active → ∃ m ∈ pre,(bx l k).Hi.a0 < (bx l m).Lo.a0
 ond:out.Nodup
 om:∀ p,p ∈ out ↔ ∃ i ∈ pre,∃ k ∈ pre,i < k ∧ mB (bx l i) (bx l k) = true ∧ p = ⟨i,k⟩
theorem wh {F:Nat} (a:List A2) (ha:a.length < F) (ha2:a.length ≤ 1000000000):bg F a a = some true:=by
 refine bC.eq ?_
 unfold bg
 rw [if_neg (by simp)]
 refine bC.bind (P:=fun o=>o = .inl ()) ?_ (by rintro _ rfl; exact bC.some rfl)
 refine bC.ea1 (l:=a) (I:=fun _=>True) (by omega) (by omega) trivial (fun pre x post e hx hI=>?_) (fun _=>rfl)
 rw [hx]
 simp only [Option.bind_some,ne_eq,not_true_eq_false,decide_false,Bool.false_eq_true,if_false]
 exact bC.some (.inl ⟨rfl,trivial⟩)
theorem ub (a:List Int) (ha:a.length < 1990):bG 20000 a a = some true:=by
 refine bC.eq ?_
 unfold bG
 rw [if_neg (by simp)]
 refine bC.bind (P:=fun o=>o = .inl ()) ?_ (by rintro _ rfl; exact bC.some rfl)
 refine bC.ea1 (l:=a) (I:=fun _=>True) (by omega) (by omega) trivial (fun pre x post e hx hI=>?_) (fun _=>rfl)
 rw [hx]
 simp only [Option.bind_some,ne_eq,not_true_eq_false,decide_false,Bool.false_eq_true,if_false]
 exact bC.some (.inl ⟨rfl,trivial⟩)
theorem Get_ok {s:b4} {L:List entry} (h:dT s L) (hL:L.length < 1000) (id:Int):(∃ x ∈ L,x.id = id ∧ dI 20000 s id = some (x.b,true)) ∨ (dI 20000 s id = some (zB,false) ∧ ∀ x ∈ L,x.id ≠ id):=by
 unfold dI
 rcases qP h hL id with ⟨x,hx,e,hg⟩ | ⟨hg,hn⟩
 ·exact .inl ⟨x,hx,e,by rw [hg]; rfl⟩
 ·exact .inr ⟨by rw [hg]; rfl,hn⟩
theorem pk {s:b4} {L:List entry} (h:dT s L) (hL:L.length ≤ 80) (b:cg):ca 20000 s (tI L) b = some true:=by
 have hl:(tI L).length = L.length:=List.length_map _
 have hb:(kZ L).length ≤ 6400:=by
  have h1:=nR L
  have:L.length * L.length ≤ 80 * 80:=Nat.mul_le_mul (by omega) (by omega)
  omega
 have hml:=oF L b
 refine bC.eq ?_
 unfold ca
 refine bC.bind (P:=fun o=>o = .inl ()) ?_ ?_
 ·refine bC.ea1 (l:=tI L) (I:=fun _=>True) (by omega) (by omega) trivial (fun pre x post e hx hI=>?_) (fun _=>rfl)
  rw [hx]
  obtain ⟨p,y,q,e1,_,rfl,_⟩:=pa e
  have hy:y ∈ L:=by rw [e1]; simp
  simp only [Option.bind_some,ox]
  rcases Get_ok h (by omega) y.id with ⟨z,hz,e2,hg⟩ | ⟨_,hn⟩
  ·rw [hg]
   simp only [Option.bind_some,dd,Bool.not_true,Bool.not_false,bD,if_true,Bool.false_or,pb h.s1 hz hy e2,ne_eq,not_true_eq_false,decide_false,Bool.false_eq_true,if_false]
   exact bC.some (.inl ⟨rfl,trivial⟩)
  ·exact absurd rfl (hn y hy)
 ·rintro _ rfl
  refine bC.mO (ids_ok h (by omega)) (bC.mO (rids_ok L (by omega)) (bC.mO (ub _ (by simp; omega)) ?_))
  simp only [Bool.not_true,Bool.not_false,bD,if_true,all_ok h (by omega:L.length < 1000),wo L (by omega),Option.bind_some,allP_eq h.s1]
  rw [wh _ (by omega) (by omega)]
  simp only [Option.bind_some,Bool.not_true,Bool.or_false,Bool.false_eq_true,if_false,Find_ok h (by omega:L.length < 1000),dd,nC]
  cases hv:vB b
  ·exact bC.some rfl
  ·simp only [if_true,Bool.not_true,Bool.false_eq_true,if_false,decide_true,rmet_ok L b (by omega),Option.bind_some]
   rw [ub _ (by omega)]
   exact bC.some rfl
def ij (L:List entry):List kE → List entry
 | []=>L
 | o :: l=>ij (jV L o).1 l
theorem jL (L:List entry) (a b:List kE):ij L (a ++ b) = ij (ij L a) b:=by
 induction a generalizing L with
 | nil=>rfl
 | cons o a ih=>exact ih _
theorem jK (L:List entry) (a:List kE):(ij L a).length ≤ L.length + a.length:=by
 induction a generalizing L with
 | nil=>simp [ij]
 | cons o a ih=>
  have h1:=ih (jV L o).1
  have h2:=doE_len L o
  simp only [ij,List.length_cons]
  omega
theorem new_S:gY 20000 = some (⟨⟨.leaf,50,48,49⟩,⟨.leaf,51,48,49⟩⟩:b4):=rfl
theorem pg (l:List kE) (hl:l.length ≤ 80) (L:List entry) (hL:L.length ≤ 80) (s:b4) (h:dT s L) :
  bC (iter 20000 (dd fun s_5 i_6=>if (decide (i_6 < (l.length:Int))) = true then (Option.bind (a8 l i_6) (fun x_8=>Option.bind (bI 20000 s_5 x_8) (uX fun x_9 x_10 x_11 x_12=>some (.inl (x_9,IntKind.i64.wrap (i_6 + 1)))))) else (some (.inr s_5))) (s,0)) fun s'=>dT s' (ij L l):=by
 refine bC.ea2 (l:=l) (G:=fun a=>a) (I:=fun pre s=>dT s (ij L pre)) (by omega) (by omega) h (fun pre x post s e hx hI=>?_) (fun s hI=>hI)
 have hal:l.length = pre.length + 1 + post.length:=by rw [e]; simp; omega
 have hpl:=jK L pre
 obtain ⟨s',h3,h4⟩:=play_ok hI (by omega) x
 rw [hx]
 simp only [Option.bind_some,h3,uX]
 exact bC.some (.inl ⟨_,rfl,by rw [jL]; exact h4⟩)
theorem doE_srt {L:List entry} (h:jy 50 L) (o:kE):jy 50 (jV L o).1:=by
 unfold jV
 have hi:ma o.Id L = false → jy 50 (jW ⟨o.Id,o.B⟩ L):=fun hn=>k7 h (mi.1 hn)
 repeat' split
 all_goals first
  | exact h
  | exact la h
  | exact k7 (la h) fun y hy=>(pq.1 hy).2
  | exact hi (by simpa using ‹¬ ma o.Id L = true›)
theorem uJ {l:List kE}:∀ {L:List entry},jy 50 L → jy 50 (ij L l):=by
 induction l with
 | nil=>exact fun h=>h
 | cons o l ih=>exact fun h=>ih (doE_srt h o)
theorem pd (l:List kE) (hl:l.length ≤ 80):b9 20000 l = some (tI (ij [] l)):=by
 refine bC.eq ?_
 unfold b9
 refine bC.bind (P:=fun r=>r = tI (ij [] l)) ?_ (fun r hr=>by rw [hr]; exact bC.some rfl)
 refine bC.ea2 (l:=l) (G:=fun a=>a) (I:=fun pre t=>t = tI (ij [] pre)) (by omega) (by omega) rfl (fun pre x post t e hx hI=>?_) (fun t hI=>hI)
 have hal:l.length = pre.length + 1 + post.length:=by rw [e]; simp; omega
 have hpl:=jK [] pre
 simp only [List.length_nil] at hpl
 subst hI
 obtain ⟨m,h5,h6,h7,h8,h9⟩:=do_ok (L:=ij [] pre) (uJ .nil) (by omega) x
 rw [hx]
 simp only [Option.bind_some,h5]
 by_cases he:m.E = 0
 ·rw [if_pos (by simpa using he),h9 he]
  exact bC.some (.inl ⟨_,rfl,by rw [jL]; rfl⟩)
 ·rw [if_neg (by simpa using he)]
  exact bC.some (.inl ⟨_,rfl,by rw [jL]; show _ = tI (jV _ x).1; rw [uq _ x (by rw [← h8]; exact he)]⟩)
theorem sm (l one two:List kE) (b:cg):bQ 20000 l one two b = some true:=by
 unfold bQ
 simp only [fv]
 by_cases h:((decide (40 < (l.length:Int)) || decide (40 < (one.length:Int))) || decide (40 < (two.length:Int))) = true
 ·rw [if_pos h,qn]; rfl
 ·rw [if_neg h,new_S]
  simp only [Bool.or_eq_true,decide_eq_true_eq,not_or] at h
  obtain ⟨⟨k1,k2⟩,k3⟩:=h
  refine bC.eq ?_
  simp only [Option.bind_some]
  have q1:=jK [] l
  have q2:=jK (ij [] l) one
  have q3:=jK (ij [] l) two
  simp only [List.length_nil] at q1
  refine bC.bind (pg l (by omega) [] (by simp) _ new_ok) fun s hs=>?_
  refine bC.bind (pg one (by omega) _ (by omega) _ hs) fun x hx=>?_
  refine bC.bind (pg two (by omega) _ (by omega) _ hs) fun y hy=>?_
  refine bC.app (by simp; omega) ?_
  rw [List.nil_append]
  refine bC.mO (pd l (by omega)) (bC.mO (pk hs (by omega) b) ?_)
  refine bC.app (by omega) ?_
  refine bC.mO (pd _ (by rw [List.length_append]; omega)) ?_
  rw [jL]
  refine bC.mO (pk hx (by omega) b) ?_
  refine bC.app (by simp; omega) ?_
  rw [List.nil_append]
  refine bC.app (by omega) ?_
  refine bC.mO (pd _ (by rw [List.length_append]; omega)) ?_
  rw [jL]
  refine bC.mO (pk hy (by omega) b) ?_
  rw [qn]
  exact bC.some rfl
def Hol (s:b4) (M:List entry):Prop:=∃ L,dT s L ∧ L.Perm M
theorem Hol.put {s:b4} {M:List entry} (h:Hol s M) (hM:M.length < 900) {id:Int} {b:cg} (hv:vB b = true) (hn:∀ x ∈ M,x.id ≠ id) :
  ∃ s',cf 20000 s id b = some (s',0) ∧ Hol s' (⟨id,b⟩ :: M):=by
 obtain ⟨L,h1,h2⟩:=h
 obtain ⟨s',e,h3,h4⟩:=tn h1 (by rw [h2.length_eq]; omega) id b
 rcases h4 with ⟨h4,_⟩ | ⟨_,⟨x,hx,h4⟩,_⟩ | ⟨_,_,rfl,h4⟩
 ·rw [hv] at h4; cases h4
 ·exact absurd h4 (hn x (h2.mem_iff.1 hx))
 ·exact ⟨s',h3,_,h4,(iG _ _).trans (h2.cons _)⟩
theorem Hol.del {s:b4} {M:List entry} {x:entry} (h:Hol s (x :: M)) (hM:M.length < 900) :
  ∃ s',b8 20000 s x.id = some (s',0) ∧ Hol s' M:=by
 obtain ⟨L,h1,h2⟩:=h
 obtain ⟨s',e,h3,h4⟩:=nS h1 (by rw [h2.length_eq]; simp; omega) x.id
 have hx:x ∈ L:=h2.mem_iff.2 (by simp)
 rcases h4 with ⟨h4,_⟩ | ⟨_,rfl,h4⟩
 ·exact absurd rfl (h4 x hx)
 ·exact ⟨s',h3,_,h4,List.perm_cons x |>.1 ((qC h1.s1 hx).trans h2)⟩
theorem Hol.eq {s:b4} {M:List entry} (h:Hol s M) (hs:jy 50 M):dT s M:=by
 obtain ⟨L,h1,h2⟩:=h
 rw [← sK h1.s1 hs h2]; exact h1
end Go.Proofs.YtagpkeehkcopaaaGreat
namespace Go.Proofs.YtagpkeehkcopaaaGreat
open Go Go.Sk
theorem sn (x0:List kE) (x1:List kE) (x2:List kE) (x3:cg):av Tryz.prog [] 10 [] [.one (.sl 8 (x0.map bd)),.one (.sl 8 (x1.map bd)),.one (.sl 8 (x2.map bd)),.agg (ao x3)] (Is [] (.b (.one (.bool true)))) :=
 fB (sm x0 x1 x2 x3)
end Go.Proofs.YtagpkeehkcopaaaGreat
