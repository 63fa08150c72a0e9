/- the plain law -/
import Derived.Test.YtagpkeehkcopaaaGreatW2
import Derived.Sort.AssemblyPlain
namespace Go.Proofs.YtagpkeehkcopaaaGreat
open Go Go.Sk
set_option maxRecDepth 100000
set_option linter.unusedVariables false
set_option linter.unusedSimpArgs false
def qZ (x:Int):List Int → List Int
 | []=>[x]
 | y :: l=>if x ≤ y then x :: y :: l else y :: qZ x l
def oI:List Int → List Int
 | []=>[]
 | x :: l=>qZ x (oI l)
theorem mx (x:Int):∀ l:List Int,(qZ x l).Perm (x :: l)
 | []=>.refl _
 | y :: l=>by
  unfold qZ
  split
  ·exact .refl _
  ·exact .trans (.cons y (mx x l)) (.swap x y l)
theorem n9:∀ l:List Int,(oI l).Perm l
 | []=>.refl _
 | x :: l=>(mx x (oI l)).trans (.cons x (n9 l))
theorem sy (x:Int):∀ l:List Int,l.Pairwise (· ≤ ·) → (qZ x l).Pairwise (· ≤ ·)
 | [],_=>by simp [qZ]
 | y :: l,h=>by
  unfold qZ
  have h1:=List.pairwise_cons.1 h
  split
  ·next hc=>
   refine List.pairwise_cons.2 ⟨fun z hz=>?_,h⟩
   rcases List.mem_cons.1 hz with rfl | hz
   ·exact hc
   ·exact Int.le_trans hc (h1.1 z hz)
  ·next hc=>
   refine List.pairwise_cons.2 ⟨fun z hz=>?_,sy x l h1.2⟩
   rcases List.mem_cons.1 ((mx x l).mem_iff.1 hz) with rfl | hz
   ·omega
   ·exact h1.1 z hz
theorem ql:∀ l:List Int,(oI l).Pairwise (· ≤ ·)
 | []=>.nil
 | x :: l=>sy x _ (ql l)
theorem sorted_perm (l:List Int):(sorted l).Perm l:=List.mergeSort_perm _ _
theorem oR (l:List Int):(sorted l).Pairwise (· ≤ ·) :=
 (List.pairwise_mergeSort (le:=fun x y:Int=>decide (x ≤ y)) (fun a b c h1 h2=>by simp only [decide_eq_true_eq] at *; omega) (fun a b=>by simp only [Bool.or_eq_true,decide_eq_true_eq]; omega) l).imp fun h=>of_decide_eq_true h
theorem sR (l:List Int):sorted l = oI l :=
 List.Perm.eq_of_pairwise (fun a b _ _ h1 h2=>Int.le_antisymm h1 h2) (oR l) (ql l) ((sorted_perm l).trans (n9 l).symm)
def sort2 (F:Nat) (zs:List Int):Option (List Int):=if zs.length < 1000000000 then some (oI zs) else none
theorem sort_eq:eT = sort2:=by
 funext F zs
 unfold eT nC sort2
 rw [sR]
def qY (x:A2):List A2 → List A2
 | []=>[x]
 | y :: l=>if iv y x = true then y :: qY x l else x :: y :: l
def isA:List A2 → List A2
 | []=>[]
 | x :: l=>qY x (isA l)
def tj (x y:A2):Prop:=iv y x = false
theorem pC (x y:A2):tj x y ↔ (x.a0 < y.a0 ∨ (x.a0 = y.a0 ∧ x.a1 ≤ y.a1)):=by
 simp only [tj,iv,decide_eq_false_iff_not]; omega
theorem mw (x:A2):∀ l:List A2,(qY x l).Perm (x :: l)
 | []=>.refl _
 | y :: l=>by
  unfold qY
  split
  ·exact .trans (.cons y (mw x l)) (.swap x y l)
  ·exact .refl _
theorem qm:∀ l:List A2,(isA l).Perm l
 | []=>.refl _
 | x :: l=>(mw x (isA l)).trans (.cons x (qm l))
theorem sx (x:A2):∀ l:List A2,l.Pairwise tj → (qY x l).Pairwise tj
 | [],_=>by simp [qY]
 | y :: l,h=>by
  unfold qY
  have h1:=List.pairwise_cons.1 h
  split
  ·next hc=>
   refine List.pairwise_cons.2 ⟨fun z hz=>?_,sx x l h1.2⟩
   rcases List.mem_cons.1 ((mw x l).mem_iff.1 hz) with rfl | hz
   ·rw [pC]; simp only [iv,decide_eq_true_eq] at hc; omega
   ·exact h1.1 z hz
  ·next hc=>
   refine List.pairwise_cons.2 ⟨fun z hz=>?_,h⟩
   have hxy:tj x y:=by simpa [tj] using hc
   rcases List.mem_cons.1 hz with rfl | hz
   ·exact hxy
   ·have h2:=h1.1 z hz
    rw [pC] at *; omega
theorem tK:∀ l:List A2,(isA l).Pairwise tj
 | []=>.nil
 | x :: l=>sx x _ (tK l)
theorem uD {x y:A2} (h1:tj x y) (h2:tj y x):x = y:=by
 rw [pC] at *
 cases x; cases y
 simp only [A2.mk.injEq] at *
 omega
theorem sZ (l:List A2):(l.mergeSort fun a b=>!iv b a) = isA l:=by
 have hp:(l.mergeSort fun a b=>!iv b a).Pairwise tj :=
  (List.pairwise_mergeSort (le:=fun a b=>!iv b a) (fun a b c h1 h2=>by simp only [iv,Bool.not_eq_true',decide_eq_false_iff_not] at *; omega) (fun a b=>by simp only [iv,Bool.or_eq_true,Bool.not_eq_true',decide_eq_false_iff_not]; omega) l).imp fun h=>by simpa [tj] using h
 exact List.Perm.eq_of_pairwise (fun a b _ _ h1 h2=>uD h1 h2) hp (tK l) ((List.mergeSort_perm _ _).trans (qm l).symm)
def sortA (F:Nat) (zs:List A2):Option (List A2):=if zs.length < 1000000000 then some (isA zs) else none
theorem um:cW = sortA:=by
 funext F zs
 unfold cW sortA
 rw [sZ]
theorem kA:bm 20000 = some true:=by
 unfold bm dx b6 bO bN eV dW
 rw [sort_eq,um]
 decide +kernel
def vB (b:cn):Bool:=decide (b.Lo.a0 ≤ b.Hi.a0 ∧ -1125899906842624 ≤ b.Lo.a0 ∧ b.Hi.a0 ≤ 1125899906842624 ∧ b.Lo.a1 ≤ b.Hi.a1 ∧ -1125899906842624 ≤ b.Lo.a1 ∧ b.Hi.a1 ≤ 1125899906842624 ∧ b.Lo.a2 ≤ b.Hi.a2 ∧ -1125899906842624 ≤ b.Lo.a2 ∧ b.Hi.a2 ≤ 1125899906842624)
def mB (a b:cn):Bool:=decide (b.Lo.a0 ≤ a.Hi.a0 ∧ a.Lo.a0 ≤ b.Hi.a0 ∧ b.Lo.a1 ≤ a.Hi.a1 ∧ a.Lo.a1 ≤ b.Hi.a1 ∧ b.Lo.a2 ≤ a.Hi.a2 ∧ a.Lo.a2 ≤ b.Hi.a2)
def hB (a b:cn):cn:=⟨⟨min a.Lo.a0 b.Lo.a0,min a.Lo.a1 b.Lo.a1,min a.Lo.a2 b.Lo.a2⟩,⟨max a.Hi.a0 b.Hi.a0,max a.Hi.a1 b.Hi.a1,max a.Hi.a2 b.Hi.a2⟩⟩
theorem lx0 (a b c:Int):bd [a,b,c] 0 = some a:=rfl
theorem lx1 (a b c:Int):bd [a,b,c] 1 = some b:=rfl
theorem lx2 (a b c:Int):bd [a,b,c] 2 = some c:=rfl
theorem w1:IntKind.i64.wrap (0 + 1) = 1:=rfl
theorem w2:IntKind.i64.wrap (1 + 1) = 2:=rfl
theorem w3:IntKind.i64.wrap (2 + 1) = 3:=rfl
theorem iter4n {σ τ:Type} (n:Nat) (body:σ → Option (σ ⊕ τ)) (s:σ):iter (n + 4) body s = (body s).bind (cc (fun s=>(body s).bind (cc (fun s=>(body s).bind (cc (fun s=>(body s).bind (cc (iter n body) some)) some)) some)) some):=rfl
theorem r9 {σ τ:Type} (body:σ → Option (σ ⊕ τ)) (s:σ):∃ K:σ → Option τ,iter 20000 body s = (body s).bind (cc (fun s=>(body s).bind (cc (fun s=>(body s).bind (cc (fun s=>(body s).bind (cc K some)) some)) some)) some):=⟨iter 19996 body,iter4n 19996 body s⟩
theorem d03:decide ((0:Int) < 3) = true:=rfl
theorem d13:decide ((1:Int) < 3) = true:=rfl
theorem d23:decide ((2:Int) < 3) = true:=rfl
theorem d33:decide ((3:Int) < 3) = false:=rfl
theorem rV {α:Type} (lo hi:Int) (A B:Option α):((bJ (!decide (hi < lo)) (some lo)).bind fun x4=>(bJ (!(decide (hi < lo) || decide (x4 < -1125899906842624))) (some hi)).bind fun x5=>if ((decide (hi < lo) || decide (x4 < -1125899906842624)) || decide (1125899906842624 < x5)) = true then A else B) =
  if (lo ≤ hi ∧ -1125899906842624 ≤ lo ∧ hi ≤ 1125899906842624) then B else A:=by
 by_cases h1:hi < lo
 ·rw [if_neg (by omega)]; simp [bJ,h1]
 ·have g1:decide (hi < lo) = false:=by simpa using h1
  rw [g1]
  by_cases h2:lo < -1125899906842624
  ·have g2:decide (lo < -1125899906842624) = true:=by simpa using h2
   rw [if_neg (by omega)]; simp only [bJ,Bool.not_false,if_true,Option.bind_some,g2,Bool.or_true,Bool.true_or,Bool.not_true,Bool.false_eq_true,if_false,Bool.false_or]
  ·have g2:decide (lo < -1125899906842624) = false:=by simpa using h2
   by_cases h3:1125899906842624 < hi
   ·rw [if_neg (by omega)]; simp only [bJ,Bool.not_false,if_true,Option.bind_some,g2,Bool.or_false,Bool.false_or,h3,decide_true]
   ·rw [if_pos (by omega)]; simp only [bJ,Bool.not_false,if_true,Option.bind_some,g2,Bool.or_false,Bool.false_or,h3,decide_false,Bool.false_eq_true,if_false]
theorem rM {α:Type} (ah bl bh al:Int) (A B:Option α):((bJ (!decide (ah < bl)) (some bh)).bind fun x4=>(bJ (!decide (ah < bl)) (some al)).bind fun x5=>if (decide (ah < bl) || decide (x4 < x5)) = true then A else B) =
  if (bl ≤ ah ∧ al ≤ bh) then B else A:=by
 by_cases h1:ah < bl
 ·rw [if_neg (by omega)]; simp [bJ,h1]
 ·by_cases h2:bh < al
  ·rw [if_neg (by omega)]; simp [bJ,h1,h2]
  ·rw [if_pos (by omega)]; simp [bJ,h1,h2]
theorem p7 (b:cn):cf 20000 b = some (vB b):=by
 obtain ⟨⟨a0,a1,a2⟩,⟨b0,b1,b2⟩⟩:=b
 unfold cf
 obtain ⟨K,hK⟩:=r9 _ _
 rw [hK]
 clear hK
 simp only [A3.l,d03,d13,d23,d33,if_true,lx0,lx1,lx2,w1,w2,w3,Option.bind_some,rV,cc]
 unfold vB
 by_cases h0:a0 ≤ b0 ∧ -1125899906842624 ≤ a0 ∧ b0 ≤ 1125899906842624
 ·rw [if_pos h0]
  simp only [A3.l,d03,d13,d23,d33,if_true,lx0,lx1,lx2,w1,w2,w3,Option.bind_some,rV,cc]
  by_cases h1:a1 ≤ b1 ∧ -1125899906842624 ≤ a1 ∧ b1 ≤ 1125899906842624
  ·rw [if_pos h1]
   simp only [A3.l,d03,d13,d23,d33,if_true,lx0,lx1,lx2,w1,w2,w3,Option.bind_some,rV,cc]
   by_cases h2:a2 ≤ b2 ∧ -1125899906842624 ≤ a2 ∧ b2 ≤ 1125899906842624
   ·rw [if_pos h2]
    simp only [d33,Option.bind_some,cc,Bool.false_eq_true,if_false]
    exact congrArg some (decide_eq_true (by omega)).symm
   ·rw [if_neg h2]
    simp only [Option.bind_some,cc]
    exact congrArg some (decide_eq_false (by omega)).symm
  ·rw [if_neg h1]
   simp only [Option.bind_some,cc]
   exact congrArg some (decide_eq_false (by omega)).symm
 ·rw [if_neg h0]
  simp only [Option.bind_some,cc]
  exact congrArg some (decide_eq_false (by omega)).symm
theorem sr (a b:cn):cC 20000 a b = some (mB a b):=by
 obtain ⟨⟨al0,al1,al2⟩,⟨ah0,ah1,ah2⟩⟩:=a
 obtain ⟨⟨bl0,bl1,bl2⟩,⟨bh0,bh1,bh2⟩⟩:=b
 unfold cC
 obtain ⟨K,hK⟩:=r9 _ _
 rw [hK]
 clear hK
 simp only [A3.l,d03,d13,d23,d33,if_true,lx0,lx1,lx2,w1,w2,w3,Option.bind_some,rM,cc]
 unfold mB
 by_cases h0:bl0 ≤ ah0 ∧ al0 ≤ bh0
 ·rw [if_pos h0]
  simp only [A3.l,d03,d13,d23,d33,if_true,lx0,lx1,lx2,w1,w2,w3,Option.bind_some,rM,cc]
  by_cases h1:bl1 ≤ ah1 ∧ al1 ≤ bh1
  ·rw [if_pos h1]
   simp only [A3.l,d03,d13,d23,d33,if_true,lx0,lx1,lx2,w1,w2,w3,Option.bind_some,rM,cc]
   by_cases h2:bl2 ≤ ah2 ∧ al2 ≤ bh2
   ·rw [if_pos h2]
    simp only [d33,Option.bind_some,cc,Bool.false_eq_true,if_false]
    exact congrArg some (decide_eq_true (by omega)).symm
   ·rw [if_neg h2]
    simp only [Option.bind_some,cc]
    exact congrArg some (decide_eq_false (by omega)).symm
  ·rw [if_neg h1]
   simp only [Option.bind_some,cc]
   exact congrArg some (decide_eq_false (by omega)).symm
 ·rw [if_neg h0]
  simp only [Option.bind_some,cc]
  exact congrArg some (decide_eq_false (by omega)).symm
def zB:cn:=⟨A3.zero,A3.zero⟩
theorem ra (a b:cn):mB a b = true ↔ (b.Lo.a0 ≤ a.Hi.a0 ∧ a.Lo.a0 ≤ b.Hi.a0 ∧ b.Lo.a1 ≤ a.Hi.a1 ∧ a.Lo.a1 ≤ b.Hi.a1 ∧ b.Lo.a2 ≤ a.Hi.a2 ∧ a.Lo.a2 ≤ b.Hi.a2):=by
 unfold mB; exact decide_eq_true_iff
theorem pA (a b:cn):mB a b = mB b a:=by
 rw [Bool.eq_iff_iff,ra,ra]; omega
def c1 (x y:Int):Int:=if x < y then -1 else if y < x then 1 else 0
theorem ln (x y:Int):dg 20000 x y = some (c1 x y):=by
 unfold dg dA c1
 simp only [Option.bind_some,show decide (x ≠ x) = false by simp,show decide (y ≠ y) = false by simp,Bool.false_eq_true,if_false,decide_eq_true_eq]
 split
 ·rfl
 ·split <;> rfl
structure Ky where
 a:Int
 b:Int
 c:Int
 d:Int
def lk4 (x y:Ky):Prop:=x.a < y.a ∨ (x.a = y.a ∧ (x.b < y.b ∨ (x.b = y.b ∧ (x.c < y.c ∨ (x.c = y.c ∧ x.d < y.d)))))
def ky (f:Nat) (x:entry):Ky:=if f = 50 then ⟨0,0,0,x.id⟩ else ⟨x.b.Lo.a0,x.b.Lo.a1,x.b.Lo.a2,x.id⟩
def ly (f:Nat) (x y:entry):Prop:=lk4 (ky f x) (ky f y)
theorem fo (x y:entry):ly 50 x y ↔ x.id < y.id:=by
 unfold ly lk4 ky
 simp
theorem ltE51 (x y:entry):ly 51 x y ↔ (x.b.Lo.a0 < y.b.Lo.a0 ∨ (x.b.Lo.a0 = y.b.Lo.a0 ∧ (x.b.Lo.a1 < y.b.Lo.a1 ∨ (x.b.Lo.a1 = y.b.Lo.a1 ∧ (x.b.Lo.a2 < y.b.Lo.a2 ∨ (x.b.Lo.a2 = y.b.Lo.a2 ∧ x.id < y.id)))))):=by
 unfold ly lk4 ky
 simp
theorem e30:decide ((3:Int) ≤ 0) = false:=rfl
theorem e31:decide ((3:Int) ≤ 1) = false:=rfl
theorem e32:decide ((3:Int) ≤ 2) = false:=rfl
theorem len3 (a b c:Int):(([a,b,c]:List Int).length:Int) = 3:=rfl
theorem cmp3 (a0 a1 a2 b0 b1 b2:Int):dw 20000 [a0,a1,a2] [b0,b1,b2] = some (if c1 a0 b0 ≠ 0 then c1 a0 b0 else if c1 a1 b1 ≠ 0 then c1 a1 b1 else c1 a2 b2):=by
 unfold dw
 simp only [ln,len3]
 obtain ⟨K,hK⟩:=r9 _ _
 rw [hK]
 clear hK
 simp only [d03,e30,if_true,lx0,Option.bind_some,Bool.false_eq_true,if_false,cc,decide_eq_true_eq]
 by_cases h0:c1 a0 b0 ≠ 0
 ·rw [if_pos h0,if_pos h0]; simp only [Option.bind_some,cc]
 ·rw [if_neg h0,if_neg h0]
  simp only [Option.bind_some,cc,w1,d13,e31,if_true,lx1,Bool.false_eq_true,if_false,decide_eq_true_eq,show (1:Int) < 3 from by decide,show ¬ (3:Int) ≤ 1 from by decide]
  by_cases h1:c1 a1 b1 ≠ 0
  ·rw [if_pos h1,if_pos h1]; simp only [Option.bind_some,cc]
  ·rw [if_neg h1,if_neg h1]
   simp only [Option.bind_some,cc,w2,d23,e32,if_true,lx2,Bool.false_eq_true,if_false,decide_eq_true_eq,show (2:Int) < 3 from by decide,show ¬ (3:Int) ≤ 2 from by decide]
   by_cases h2:c1 a2 b2 ≠ 0
   ·rw [if_pos h2]; simp only [Option.bind_some,cc]
   ·rw [if_neg h2]
    have h2':c1 a2 b2 = 0:=by simpa using h2
    simp only [Option.bind_some,cc,w3,d33,Bool.false_eq_true,if_false,h2',show ¬ (3:Int) < 3 from by decide]
theorem or2 (a b:Int):jV 20000 [a,b] = some (if a ≠ 0 then a else b):=by
 unfold jV
 simp only [show (([a,b]:List Int).length:Int) = 2 from rfl]
 obtain ⟨K,hK⟩:=r9 _ _
 rw [hK]
 clear hK
 simp only [show (0:Int) < 2 from by decide,decide_true,if_true,show bd [a,b] 0 = some a from rfl,Option.bind_some,decide_eq_true_eq]
 by_cases h0:a ≠ 0
 ·rw [if_pos h0,if_pos h0]; simp only [Option.bind_some,cc]
 ·rw [if_neg h0,if_neg h0]
  simp only [Option.bind_some,cc,w1,if_true,show (1:Int) < 2 from by decide,decide_true,show bd [a,b] 1 = some b from rfl]
  by_cases h1:b ≠ 0
  ·rw [if_pos h1]; simp only [Option.bind_some,cc]
  ·rw [if_neg h1]
   have h1':b = 0:=by simpa using h1
   simp only [Option.bind_some,cc,w2,h1',show ¬ (2:Int) < 2 from by decide,decide_false,Bool.false_eq_true,if_false]
theorem pZ (x y:Int):c1 x y < 0 ↔ x < y:=by unfold c1; split <;> (try split) <;> omega
theorem p4 (x y:Int):0 < c1 x y ↔ y < x:=by unfold c1; split <;> (try split) <;> omega
theorem oK (x y:Int):c1 x y = 0 ↔ x = y:=by unfold c1; split <;> (try split) <;> omega
theorem tZ {f:Nat} (hf:f = 50 ∨ f = 51) (x y:entry):∃ v,fv 20000 f x y = some v ∧ (v < 0 ↔ ly f x y) ∧ (0 < v ↔ ly f y x):=by
 rcases hf with rfl | rfl
 ·refine ⟨c1 x.id y.id,?_,by rw [fo]; exact pZ _ _,by rw [fo]; exact p4 _ _⟩
  unfold fv fT
  rw [if_pos rfl,ln]; rfl
 ·unfold fv fS
  rw [if_neg (by decide),if_pos rfl]
  obtain ⟨xi,⟨⟨xl0,xl1,xl2⟩,xh⟩⟩:=x
  obtain ⟨yi,⟨⟨yl0,yl1,yl2⟩,yh⟩⟩:=y
  simp only [A3.l,cmp3,ln,Option.bind_some,or2,ltE51]
  refine ⟨_,rfl,?_,?_⟩
  ·have g0:=pZ xl0 yl0; have g1:=pZ xl1 yl1; have g2:=pZ xl2 yl2; have g3:=pZ xi yi
   have z0:=oK xl0 yl0; have z1:=oK xl1 yl1; have z2:=oK xl2 yl2
   generalize c1 xl0 yl0 = u0 at *; generalize c1 xl1 yl1 = u1 at *; generalize c1 xl2 yl2 = u2 at *; generalize c1 xi yi = u3 at *
   by_cases k0:u0 = 0
   ·by_cases k1:u1 = 0
    ·by_cases k2:u2 = 0
     ·simp [k0,k1,k2]; omega
     ·simp [k0,k1,k2]; omega
    ·simp [k0,k1]; omega
   ·simp [k0]; omega
  ·have g0:=p4 xl0 yl0; have g1:=p4 xl1 yl1; have g2:=p4 xl2 yl2; have g3:=p4 xi yi
   have z0:=oK xl0 yl0; have z1:=oK xl1 yl1; have z2:=oK xl2 yl2
   generalize c1 xl0 yl0 = u0 at *; generalize c1 xl1 yl1 = u1 at *; generalize c1 xl2 yl2 = u2 at *; generalize c1 xi yi = u3 at *
   by_cases k0:u0 = 0
   ·by_cases k1:u1 = 0
    ·by_cases k2:u2 = 0
     ·simp [k0,k1,k2]; omega
     ·simp [k0,k1,k2]; omega
    ·simp [k0,k1]; omega
   ·simp [k0]; omega
abbrev T:=cH bb
def cvT (b:cn):T → cn
 | .leaf=>b
 | .node w _ _=>hB b w.cover
def mk (v:bb) (l r:T):T:=.node ⟨v.x,v.priority,cvT (cvT v.x.b l) r⟩ l r
def sd (l r:T):List T:=(if l.cY = true then [] else [l]) ++ (if r.cY = true then [] else [r])
theorem uo (l r:T):fR 20000 [l,r] = some (sd l r):=by
 cases l <;> cases r <;> rfl
theorem jb (rt:T) (c k:Nat) (v:bb) (nl nr l r:T):a6 20000 ⟨rt,c,k,49⟩ (.node v nl nr) l r = some (mk v l r):=by
 unfold a6 ij fU
 simp only [iF,Option.bind_some,if_true,uo]
 cases l <;> cases r
 ·rfl
 ·rfl
 ·rfl
 ·rfl
def items:T → List entry
 | .leaf=>[]
 | .node w l r=>items l ++ w.x :: items r
def qV (a b:cn):Prop:=b.Lo.a0 ≤ a.Lo.a0 ∧ b.Lo.a1 ≤ a.Lo.a1 ∧ b.Lo.a2 ≤ a.Lo.a2 ∧ a.Hi.a0 ≤ b.Hi.a0 ∧ a.Hi.a1 ≤ b.Hi.a1 ∧ a.Hi.a2 ≤ b.Hi.a2
theorem uF (a:cn):qV a a:=by unfold qV; omega
theorem my {a b c:cn} (h1:qV a b) (h2:qV b c):qV a c:=by unfold qV at *; omega
theorem tc (a b:cn):qV a (hB a b):=by unfold qV hB; simp only; omega
theorem s9 (a b:cn):qV b (hB a b):=by unfold qV hB; simp only; omega
theorem uG {a b c:cn} (h:qV a b) (hm:mB a c = true):mB b c = true:=by
 rw [ra] at *; unfold qV at h; omega
def ou:T → Prop
 | .leaf=>True
 | .node w l r=>(∀ x ∈ items (.node w l r),qV x.b w.cover) ∧ ou l ∧ ou r
theorem rB (b:cn) (l:T):qV b (cvT b l):=by
 cases l with
 | leaf=>exact uF b
 | node w l r=>exact tc _ _
theorem o9 (b:cn) {l:T} (h:ou l):∀ x ∈ items l,qV x.b (cvT b l):=by
 cases l with
 | leaf=>intro x hx; cases hx
 | node w l r=>exact fun x hx=>my (h.1 x hx) (s9 _ _)
theorem fZ (v:bb) (l r:T):items (mk v l r) = items l ++ v.x :: items r:=rfl
theorem la {v:bb} {l r:T} (hl:ou l) (hr:ou r):ou (mk v l r):=by
 refine ⟨fun x hx=>?_,hl,hr⟩
 show qV x.b (cvT (cvT v.x.b l) r)
 rcases List.mem_append.1 hx with hx | hx
 ·exact my (o9 v.x.b hl x hx) (rB _ r)
 ·rcases List.mem_cons.1 hx with rfl | hx
  ·exact my (rB _ l) (rB _ r)
  ·exact o9 _ hr x hx
def iT (f:Nat) (l:List entry):Prop:=l.Pairwise (ly f)
theorem iN {f:Nat} {x y z:entry} (h1:ly f x y) (h2:ly f y z):ly f x z:=by
 unfold ly lk4 at *; omega
theorem oZ {f:Nat} {x y:entry} (h1:ly f x y) (h2:ly f y x):False:=by
 unfold ly lk4 at *; omega
theorem nM {f:Nat} {a:entry} {l r:List entry} (h:iT f (l ++ a :: r)):iT f l ∧ iT f r ∧ (∀ y ∈ l,ly f y a) ∧ (∀ y ∈ r,ly f a y):=by
 unfold iT at *
 rw [List.pairwise_append,List.pairwise_cons] at h
 exact ⟨h.1,h.2.1.2,fun y hy=>h.2.2 y hy a (by simp),h.2.1.1⟩
theorem uk {f:Nat} (hf:f = 50 ∨ f = 51) (rt:T) (k:Nat) (x:entry):∀ (t:T) (m:Nat),(items t).length < m → ou t → iT f (items t) →
  ∃ a b,bF 20000 m ⟨rt,f,k,49⟩ t x = some (a,b) ∧ items a ++ items b = items t ∧ (∀ y ∈ items a,ly f y x) ∧ (∀ y ∈ items b,¬ ly f y x) ∧ ou a ∧ ou b:=by
 intro t
 induction t with
 | leaf=>
  intro m hm _ _
  cases m with
  | zero=>omega
  | succ m=>exact ⟨.leaf,.leaf,rfl,rfl,by simp [items],by simp [items],trivial,trivial⟩
 | node w l r ihl ihr=>
  intro m hm hc hs
  cases m with
  | zero=>omega
  | succ m=>
  simp only [items,List.length_append,List.length_cons] at hm
  obtain ⟨s1,s2,s3,s4⟩:=nM hs
  obtain ⟨v,hv,hlt,_⟩:=tZ hf w.x x
  unfold bF
  simp only [cH.cY,Bool.false_eq_true,if_false,iF,Option.bind_some,hv]
  by_cases h:v < 0
  ·obtain ⟨a,b,e,h1,h2,h3,h4,h5⟩:=ihr m (by omega) hc.2.2 s2
   have hx:=hlt.1 h
   refine ⟨mk w l a,b,?_,?_,?_,h3,la hc.2.1 h4,h5⟩
   ·rw [if_pos (by simpa using h),e]
    simp only [Option.bind_some,jb]
   ·rw [fZ,items,← h1]; simp
   ·intro y hy
    rw [fZ] at hy
    rcases List.mem_append.1 hy with hy | hy
    ·exact iN (s3 y hy) hx
    ·rcases List.mem_cons.1 hy with rfl | hy
     ·exact hx
     ·exact h2 y hy
  ·obtain ⟨a,b,e,h1,h2,h3,h4,h5⟩:=ihl m (by omega) hc.2.1 s1
   have hx:¬ ly f w.x x:=fun e=>h (hlt.2 e)
   refine ⟨a,mk w b r,?_,?_,h2,?_,h4,la h5 hc.2.2⟩
   ·rw [if_neg (by simpa using h),e]
    simp only [Option.bind_some,jb]
   ·rw [fZ,items,← h1]; simp
   ·intro y hy
    rw [fZ] at hy
    rcases List.mem_append.1 hy with hy | hy
    ·exact h3 y hy
    ·rcases List.mem_cons.1 hy with rfl | hy
     ·exact hx
     ·exact fun e=>hx (iN (s4 y hy) e)
theorem pD (rt:T) (f k:Nat):∀ (m:Nat) (a b:T),(items a).length + (items b).length < m → ou a → ou b →
  ∃ t,bU 20000 m ⟨rt,f,k,49⟩ a b = some t ∧ items t = items a ++ items b ∧ ou t:=by
 intro m
 induction m with
 | zero=>intro a b h; omega
 | succ m ih=>
  intro a b hm ha hb
  unfold bU
  cases a with
  | leaf=>exact ⟨b,rfl,rfl,hb⟩
  | node w l r=>
   cases b with
   | leaf=>exact ⟨.node w l r,rfl,by simp [items],ha⟩
   | node w2 l2 r2=>
    simp only [cH.cY,Bool.false_eq_true,if_false,iF,Option.bind_some]
    simp only [items,List.length_append,List.length_cons] at hm
    by_cases h:w2.priority < w.priority
    ·obtain ⟨t,e,h1,h2⟩:=ih r (.node w2 l2 r2) (by simp only [items,List.length_append,List.length_cons]; omega) ha.2.2 hb
     refine ⟨mk w l t,?_,?_,la ha.2.1 h2⟩
     ·rw [if_pos (by simpa using h),e]
      simp only [Option.bind_some,jb]
     ·rw [fZ,h1]; simp [items]
    ·obtain ⟨t,e,h1,h2⟩:=ih (.node w l r) l2 (by simp only [items,List.length_append,List.length_cons]; omega) ha hb.2.1
     refine ⟨mk w2 t r2,?_,?_,la h2 hb.2.2⟩
     ·rw [if_neg (by simpa using h),e]
      simp only [Option.bind_some,jb]
     ·rw [fZ,h1]; simp [items]
theorem sE {f:Nat} (hf:f = 50 ∨ f = 51) (rt:T) (k:Nat) (x:entry):∀ (t:T) (m:Nat),(items t).length < m → (items t).length < 20000 → ou t → iT f (items t) →
  ∀ pre y post,items t = pre ++ y :: post → ¬ ly f x y → ¬ ly f y x → ∃ t',bV 20000 m ⟨rt,f,k,49⟩ t x = some t' ∧ items t' = pre ++ post ∧ ou t':=by
 intro t
 induction t with
 | leaf=>intro m _ _ _ _ pre y post h; simp [items] at h
 | node w l r ihl ihr=>
  intro m hm h2k hc hs pre y post nv hy1 hy2
  cases m with
  | zero=>omega
  | succ m=>
  simp only [items,List.length_append,List.length_cons] at hm h2k
  obtain ⟨s1,s2,s3,s4⟩:=nM hs
  obtain ⟨v,hv,hlt,hgt⟩:=tZ hf x w.x
  unfold bV
  simp only [iF,Option.bind_some,hv]
  have hcase:∀ z,z ∈ items l → ly f z w.x:=s3
  rw [items] at nv
  have hl:=List.append_eq_append_iff.1 nv
  by_cases h:v < 0
  ·have hx:=hlt.1 h
   rcases hl with ⟨us,h1,h3⟩ | ⟨vs,h1,h3⟩
   ·exfalso
    cases us with
    | nil=>
     have:w.x = y:=by simpa using (List.cons.inj (by simpa using h3)).1
     rw [← this] at hy1; exact hy1 hx
    | cons a us=>
     have hm:y ∈ items r:=by
      have:=(List.cons.inj (by simpa using h3)).2
      rw [this]; simp
     exact hy1 (iN hx (s4 y hm))
   ·cases vs with
    | nil=>
     exfalso
     have:w.x = y:=by simpa using (List.cons.inj (by simpa using h3)).1.symm
     rw [← this] at hy1; exact hy1 hx
    | cons b vs=>
     obtain ⟨e1,e2⟩:=List.cons.inj (by simpa using h3:y :: post = b :: (vs ++ w.x :: items r))
     subst e1
     obtain ⟨t',e,g1,g2⟩:=ihl m (by omega) (by omega) hc.2.1 s1 pre y vs h1 hy1 hy2
     refine ⟨mk w t' r,?_,?_,la g2 hc.2.2⟩
     ·rw [if_pos (by simpa using h),e]
      simp only [Option.bind_some,jb]
     ·rw [fZ,g1,e2]; simp
  ·rw [if_neg (by simpa using h)]
   by_cases h':0 < v
   ·have hx:=hgt.1 h'
    rw [if_pos (by simpa using h')]
    rcases hl with ⟨us,h1,h3⟩ | ⟨vs,h1,h3⟩
    ·cases us with
     | nil=>
      exfalso
      have:w.x = y:=by simpa using (List.cons.inj (by simpa using h3)).1
      rw [← this] at hy2; exact hy2 hx
     | cons a us=>
      obtain ⟨e1,e2⟩:=List.cons.inj (by simpa using h3:w.x :: items r = a :: (us ++ y :: post))
      subst e1
      obtain ⟨t',e,g1,g2⟩:=ihr m (by omega) (by omega) hc.2.2 s2 us y post e2 hy1 hy2
      refine ⟨mk w l t',?_,?_,la hc.2.1 g2⟩
      ·rw [e]
       simp only [Option.bind_some,jb]
      ·rw [fZ,g1,h1]; simp
    ·exfalso
     cases vs with
     | nil=>
      have:w.x = y:=by simpa using (List.cons.inj (by simpa using h3)).1.symm
      rw [← this] at hy2; exact hy2 hx
     | cons b vs=>
      have hm:y ∈ items l:=by
       have:=(List.cons.inj (by simpa using h3:y :: post = b :: (vs ++ w.x :: items r))).1
       rw [h1,this]; simp
      exact hy2 (iN (s3 y hm) hx)
   ·rw [if_neg (by simpa using h')]
    have hn1:¬ ly f x w.x:=fun e=>h (hlt.2 e)
    have hn2:¬ ly f w.x x:=fun e=>h' (hgt.2 e)
    obtain ⟨t',e,g1,g2⟩:=pD rt f k 20000 l r (by omega) hc.2.1 hc.2.2
    refine ⟨t',?_,?_,g2⟩
    ·unfold ck
     rw [e]; rfl
    ·rw [g1]
     rcases hl with ⟨us,h1,h3⟩ | ⟨vs,h1,h3⟩
     ·cases us with
      | nil=>
       obtain ⟨e1,e2⟩:=List.cons.inj (by simpa using h3:w.x :: items r = y :: post)
       rw [h1,e2]; simp
      | cons a us=>
       exfalso
       have hm:y ∈ items r:=by
        have:=(List.cons.inj (by simpa using h3:w.x :: items r = a :: (us ++ y :: post))).2
        rw [this]; simp
       have g:=s4 y hm
       unfold ly lk4 at *; omega
     ·cases vs with
      | nil=>
       obtain ⟨e1,e2⟩:=List.cons.inj (by simpa using h3:y :: post = w.x :: items r)
       rw [h1,e2]; simp
      | cons b vs=>
       exfalso
       have hm:y ∈ items l:=by
        have:=(List.cons.inj (by simpa using h3:y :: post = b :: (vs ++ w.x :: items r))).1
        rw [h1,this]; simp
       have g:=s3 y hm
       unfold ly lk4 at *; omega
def zE:entry:=⟨0,zB⟩
theorem get_aux (id:Int):∀ (t:T) (m:Nat),(items t).length < m → iT 50 (items t) →
  cJ (iter m (fun n_1=>if (!n_1.cY) = true then (Option.bind (iF n_1) (fun nd_2=>if (decide (id = nd_2.1.x.id)) = true then (Option.bind (iF n_1) (fun nd_3=>some (.inr (.inr (nd_3.1.x,true))))) else (Option.bind (iF n_1) (fun nd_4=>if (decide (id < nd_4.1.x.id)) = true then (Option.bind (iF n_1) (fun nd_5=>some (.inl nd_5.2.1))) else (Option.bind (iF n_1) (fun nd_6=>some (.inl nd_6.2.2))))))) else (some (.inr (.inl ())))) t:Option (Unit ⊕ entry × Bool))
   (fun o=>(∃ x ∈ items t,x.id = id ∧ o = .inr (x,true)) ∨ (o = .inl () ∧ ∀ x ∈ items t,x.id ≠ id)):=by
 intro t
 induction t with
 | leaf=>
  intro m hm hs
  cases m with
  | zero=>omega
  | succ m=>
   rw [eD]
   exact ⟨.inl (),rfl,.inr ⟨rfl,by simp [items]⟩⟩
 | node w l r ihl ihr=>
  intro m hm hs
  cases m with
  | zero=>omega
  | succ m=>
  simp only [items,List.length_append,List.length_cons] at hm
  obtain ⟨s1,s2,s3,s4⟩:=nM hs
  rw [eD]
  simp only [cH.cY,Bool.not_false,if_true,iF,Option.bind_some]
  by_cases h:id = w.x.id
  ·rw [if_pos (by simpa using h)]
   exact ⟨.inr (w.x,true),rfl,.inl ⟨w.x,by simp [items],h.symm,rfl⟩⟩
  ·rw [if_neg (by simpa using h)]
   by_cases h2:id < w.x.id
   ·rw [if_pos (by simpa using h2)]
    refine (ihl m (by omega) s1).mono fun o ho=>?_
    rcases ho with ⟨x,hx,h3,h4⟩ | ⟨h3,h4⟩
    ·exact .inl ⟨x,by simp [items,hx],h3,h4⟩
    ·refine .inr ⟨h3,fun x hx=>?_⟩
     rcases List.mem_append.1 hx with hx | hx
     ·exact h4 x hx
     ·rcases List.mem_cons.1 hx with rfl | hx
      ·exact fun e=>h e.symm
      ·have:=(fo _ _).1 (s4 x hx); omega
   ·rw [if_neg (by simpa using h2)]
    refine (ihr m (by omega) s2).mono fun o ho=>?_
    rcases ho with ⟨x,hx,h3,h4⟩ | ⟨h3,h4⟩
    ·exact .inl ⟨x,by simp [items,hx],h3,h4⟩
    ·refine .inr ⟨h3,fun x hx=>?_⟩
     rcases List.mem_append.1 hx with hx | hx
     ·have:=(fo _ _).1 (s3 x hx); omega
     ·rcases List.mem_cons.1 hx with rfl | hx
      ·exact fun e=>h e.symm
      ·exact h4 x hx
structure ed (s:cp) (L:List entry):Prop where
 c1:s.ids.compare = 50
 c2:s.boxes.compare = 51
 k1:s.ids.key = 48
 k2:s.boxes.key = 48
 b1:s.ids.box = 49
 b2:s.boxes.box = 49
 it:items s.ids.root = L
 pm:(items s.boxes.root).Perm L
 s1:iT 50 L
 s2:iT 51 (items s.boxes.root)
 v1:ou s.ids.root
 v2:ou s.boxes.root
 vb:∀ x ∈ L,vB x.b = true
theorem rA {s:cp} {L:List entry} (h:ed s L) (hL:L.length < 1000) (id:Int):(∃ x ∈ L,x.id = id ∧ cq 20000 s id = some (x,true)) ∨ (cq 20000 s id = some (zE,false) ∧ ∀ x ∈ L,x.id ≠ id):=by
 obtain ⟨o,ho,h1⟩:=get_aux id s.ids.root 20000 (by rw [h.it]; omega) (by rw [h.it]; exact h.s1)
 rw [h.it] at h1
 unfold cq
 rw [ho]
 rcases h1 with ⟨x,hx,h2,rfl⟩ | ⟨rfl,h2⟩
 ·exact .inl ⟨x,hx,h2,rfl⟩
 ·exact .inr ⟨rfl,h2⟩
theorem pr:∀ t:T,ov (fun _=>some true) t = some (items t)
 | .leaf=>rfl
 | .node a l r=>by
  rw [ov]
  simp only [Option.bind_some,if_true,pr l,pr r,items]
theorem nL (b:cn):∀ t:T,ou t → ∃ ys,ov (fun t=>b7 20000 t b) t = some ys ∧ ys.filter (fun x=>mB x.b b) = (items t).filter (fun x=>mB x.b b) ∧ ys.length ≤ (items t).length
 | .leaf,_=>⟨[],rfl,rfl,by simp⟩
 | .node a l r,h=>by
  have hp:b7 20000 (.node a l r) b = some (mB a.cover b):=by
   unfold b7
   simp only [iF,Option.bind_some,sr]
  rw [ov,hp,Option.bind_some]
  by_cases hm:mB a.cover b = true
  ·rw [if_pos hm]
   obtain ⟨ys,e1,e2,e3⟩:=nL b l h.2.1
   obtain ⟨zs,g1,g2,g3⟩:=nL b r h.2.2
   rw [e1,g1]
   refine ⟨ys ++ a.x :: zs,rfl,?_,by simp [items]; omega⟩
   rw [items,List.filter_append,List.filter_append,e2,List.filter_cons,List.filter_cons,g2]
  ·rw [if_neg hm]
   refine ⟨[],rfl,?_,by simp⟩
   symm
   rw [List.filter_nil,List.filter_eq_nil_iff]
   exact fun x hx hx'=>hm (uG (h.1 x hx) hx')
theorem pI {α σ υ:Type} (B:σ → α → Option (σ ⊕ υ)) (f:σ → α → σ) (I:σ → List α → Prop) (hB:∀ s x l,I s (x :: l) → B s x = some (.inl (f s x)) ∧ I (f s x) l):∀ (l:List α) (s:σ),I s l → each B l s = some (.inl (l.foldl f s))
 | [],s,_=>rfl
 | x :: l,s,h=>by
  obtain ⟨h1,h2⟩:=hB s x l h
  unfold each
  rw [h1]
  exact pI B f I hB l _ h2
theorem oC {l m:List Int} (hp:l.Perm m) (hm:m.Pairwise (· ≤ ·)):sorted l = m :=
 List.Perm.eq_of_pairwise (fun a b _ _ h1 h2=>Int.le_antisymm h1 h2) (oR l) hm ((sorted_perm l).trans hp)
theorem srt_ids {L:List entry} (h:iT 50 L):(L.map (·.id)).Pairwise (· < ·):=by
 rw [List.pairwise_map]
 exact h.imp fun h=>(fo _ _).1 h
def met (L:List entry) (b:cn):List Int:=(L.filter fun x=>mB x.b b).map (·.id)
theorem nG {L:List entry} (h:iT 50 L) (b:cn):(met L b).Pairwise (· < ·):=(srt_ids (h.filter _))
theorem sB {s:cp} {L:List entry} (h:ed s L) (hL:L.length < 1000) (b:cn):bN 20000 s b = some (met L b):=by
 obtain ⟨ys,e1,e2,e3⟩:=nL b s.boxes.root h.v2
 have hpl:=h.pm.length_eq
 unfold bN
 rw [e1]
 simp only [Option.bind_some,sr]
 rw [pI _ (fun out x=>if mB x.b b = true then out ++ [x.id] else out) (fun s l=>s.length + l.length ≤ 1000) ?_ ys [] (by simp; omega)]
 ·have hf:∀ (l:List entry) (out:List Int),l.foldl (fun out x=>if mB x.b b = true then out ++ [x.id] else out) out = out ++ (l.filter fun x=>mB x.b b).map (·.id):=by
   intro l
   induction l with
   | nil=>intro out; simp
   | cons x l ih=>
    intro out
    rw [List.foldl_cons,ih,List.filter_cons]
    split
    ·simp
    ·rfl
  rw [hf,List.nil_append,e2]
  simp only [Option.bind_some,cc]
  unfold eT nC
  have hp:(((items s.boxes.root).filter fun x=>mB x.b b).map (·.id)).Perm (met L b):=(h.pm.filter _).map _
  have hlen:(((items s.boxes.root).filter fun x=>mB x.b b).map (·.id)).length ≤ L.length:=by rw [List.length_map,← hpl]; exact List.length_filter_le _ _
  rw [if_pos (by omega),oC hp ((nG h.s1 b).imp Int.le_of_lt)]
  rfl
 ·intro s x l hs
  simp only [List.length_cons] at hs
  split
  ·rw [kZ,if_pos (by simp; omega)]
   exact ⟨rfl,by simp; omega⟩
  ·exact ⟨rfl,by omega⟩
theorem less_eq (x y:Int):gX 20000 x y = some (decide (x < y)):=by
 unfold gX dA
 simp only [Option.bind_some,show decide (x ≠ x) = false by simp,bJ,Bool.false_eq_true,if_false,Bool.false_and,Bool.false_or]
theorem nan_eq (x:Int):du 20000 x = some false:=by
 unfold du
 simp
theorem q7 {l:List Int} (h:l.Pairwise (· < ·)) {i j:Nat} (hij:i < j) (hj:j < l.length):l[i]! < l[j]!:=by
 rw [getElem!_pos l i (by omega),getElem!_pos l j hj]
 exact List.pairwise_iff_getElem.1 h i j (by omega) hj hij
theorem sA {l:List Int} {i:Nat} (h:i < l.length):bd l (i:Int) = some l[i]!:=by
 rw [ns (by omega) (by omega),pE _ _ h,getElem!_pos l i h]
theorem sS (l:List Int) (z:Int) (hl:l.length < 1000) (hs:l.Pairwise (· < ·)):cJ (cw 20000 l z) fun r=>r.2 = decide (z ∈ l):=by
 unfold cw
 refine cJ.bind (P:=fun i:Int=>∃ n:Nat,i = (n:Int) ∧ n ≤ l.length ∧ (∀ k,k < n → l[k]! < z) ∧ ∀ k,n ≤ k → k < l.length → z ≤ l[k]!) ?_ ?_
 ·refine cJ.loop (I:=fun s=>∃ a b:Nat,s = ((a:Int),(b:Int)) ∧ a ≤ b ∧ b ≤ l.length ∧ (∀ k,k < a → l[k]! < z) ∧ ∀ k,b ≤ k → k < l.length → z ≤ l[k]!) (μ:=fun s=>(s.2 - s.1).toNat) ⟨0,l.length,rfl,by omega,by omega,by omega,by omega⟩ (by simp; omega) ?_
  rintro _ ⟨a,b,rfl,h1,h2,h3,h4⟩
  simp only [dX]
  by_cases hab:a < b
  ·rw [if_pos (by simpa using hab)]
   have e1:IntKind.u64.wrap (IntKind.i64.wrap ((a:Int) + b)) = (a:Int) + b:=by rw [ny (by omega) (by omega),wu64]; omega
   have e2:IntKind.i64.wrap (((a:Int) + b) / 2) = (((a + b) / 2:Nat):Int):=by rw [ny (by omega) (by omega)]; omega
   simp only [ez,e1,e2]
   rw [sA (by omega:(a + b) / 2 < l.length)]
   simp only [Option.bind_some,less_eq]
   by_cases hc:l[(a + b) / 2]! < z
   ·rw [if_pos (by simpa using hc)]
    have e3:IntKind.i64.wrap ((((a + b) / 2:Nat):Int) + 1) = (((a + b) / 2 + 1:Nat):Int):=by rw [ny (by omega) (by omega)]; omega
    rw [e3]
    refine cJ.some (.inl ⟨_,rfl,⟨(a + b) / 2 + 1,b,rfl,by omega,h2,fun k hk=>?_,h4⟩,by simp; omega⟩)
    by_cases hk2:k = (a + b) / 2
    ·rw [hk2]; exact hc
    ·have:=q7 hs (show k < (a + b) / 2 by omega) (by omega); omega
   ·rw [if_neg (by simpa using hc)]
    refine cJ.some (.inl ⟨_,rfl,⟨a,(a + b) / 2,rfl,by omega,by omega,h3,fun k hk hk'=>?_⟩,by simp; omega⟩)
    by_cases hk2:k = (a + b) / 2
    ·rw [hk2]; omega
    ·have:=q7 hs (show (a + b) / 2 < k by omega) hk'; omega
  ·rw [if_neg (by simpa using hab)]
   have:a = b:=by omega
   subst this
   exact cJ.some (.inr ⟨_,rfl,a,rfl,h2,h3,h4⟩)
 ·rintro _ ⟨n,rfl,h1,h2,h3⟩
  by_cases hn:n < l.length
  ·have hd:decide ((n:Int) < (l.length:Int)) = true:=by simpa using hn
   rw [hd]
   simp only [bJ,if_true,sA hn,Option.bind_some,Bool.true_and]
   by_cases he:l[n]! = z
   ·simp only [he,decide_true,Bool.not_true,Bool.false_eq_true,if_false,Option.bind_some,Bool.false_and,ez,Bool.true_or]
    refine cJ.some ?_
    have:z ∈ l:=by rw [← he,getElem!_pos l n hn]; exact List.getElem_mem hn
    simp [this]
   ·have hd2:decide (l[n]! = z) = false:=by simpa using he
    simp only [hd2,Bool.not_false,if_true,nan_eq,Option.bind_some,Bool.and_false,Bool.false_eq_true,if_false,ez,Bool.false_and,Bool.false_or]
    refine cJ.some ?_
    symm
    rw [decide_eq_false_iff_not]
    intro hm
    obtain ⟨k,hk,e⟩:=List.mem_iff_getElem.1 hm
    rw [← getElem!_pos l k hk] at e
    by_cases hkn:k < n
    ·have:=h2 k hkn; omega
    ·by_cases hkn2:k = n
     ·subst hkn2; exact he e
     ·have:=q7 hs (show n < k by omega) hk
      have:=h3 n (Nat.le_refl _) hn
      omega
  ·have hd:decide ((n:Int) < (l.length:Int)) = false:=by simpa using hn
   rw [hd]
   simp only [bJ,Bool.false_eq_true,if_false,Option.bind_some,Bool.false_and,ez]
   refine cJ.some ?_
   symm
   rw [decide_eq_false_iff_not]
   intro hm
   obtain ⟨k,hk,e⟩:=List.mem_iff_getElem.1 hm
   rw [← getElem!_pos l k hk] at e
   have:=h2 k (by omega); omega
theorem qh (a b:List Int) (ha:a.length < 1000) (hb:b.length < 1000) (hs:b.Pairwise (· < ·)):dP 20000 a b = some (a.filter fun z=>!decide (z ∈ b)):=by
 refine cJ.eq ?_
 unfold dP
 refine cJ.bind (P:=fun r=>r = a.filter fun z=>!decide (z ∈ b)) ?_ (fun r hr=>by rw [hr]; exact cJ.some rfl)
 refine cJ.ea2 (l:=a) (G:=fun out=>out) (I:=fun pre out=>out = pre.filter fun z=>!decide (z ∈ b)) (by omega) (by omega) rfl (fun pre x post out e hx hI=>?_) (fun out hI=>hI)
 rw [hx]
 simp only [Option.bind_some]
 obtain ⟨r,hr,h1⟩:=sS b x hb hs
 rw [hr]
 simp only [Option.bind_some,dX]
 have hlen:out.length ≤ pre.length:=by rw [hI]; exact List.length_filter_le _ _
 have hal:a.length = pre.length + 1 + post.length:=by rw [e]; simp; omega
 rw [h1]
 by_cases hm:x ∈ b
 ·rw [if_neg (by simp [hm])]
  exact ⟨_,rfl,.inl ⟨out,rfl,by rw [hI,List.filter_append]; simp [hm]⟩⟩
 ·rw [if_pos (by simp [hm]),kZ,if_pos (by simp; omega)]
  exact ⟨_,rfl,.inl ⟨out ++ [x],rfl,by rw [hI,List.filter_append]; simp [hm]⟩⟩
def prs (L:List entry) (x:entry):List A2:=((met L x.b).filter fun z=>decide (x.id < z)).map fun z=>(⟨x.id,z⟩:A2)
def allP (L:List entry):List A2:=L.flatMap (prs L)
theorem nn (L:List entry) (b:cn):(met L b).length ≤ L.length:=by
 unfold met; rw [List.length_map]; exact List.length_filter_le _ _
theorem prs_len (L:List entry) (x:entry):(prs L x).length ≤ L.length:=by
 unfold prs; rw [List.length_map]; exact Nat.le_trans (List.length_filter_le _ _) (nn L x.b)
theorem ub {s:cp} {L:List entry} (h:ed s L) (hL:L.length < 1000):b6 20000 s = some (allP L):=by
 unfold b6
 rw [pr,h.it]
 simp only [Option.bind_some,sB h hL]
 rw [pI _ (fun out x=>out ++ prs L x) (fun s l=>s.length + l.length * 1000 ≤ 1000000) ?_ L [] (by simp; omega)]
 ·have hf:∀ (l:List entry) (out:List A2),l.foldl (fun out x=>out ++ prs L x) out = out ++ l.flatMap (prs L):=by
   intro l
   induction l with
   | nil=>intro out; simp
   | cons x l ih=>intro out; rw [List.foldl_cons,ih]; simp
  rw [hf]; rfl
 ·intro out0 x l hs
  simp only [List.length_cons] at hs
  have hp:=prs_len L x
  refine ⟨?_,by rw [List.length_append]; omega⟩
  have hm:=nn L x.b
  refine cJ.eq ?_
  refine cJ.bind (P:=fun r=>r = out0 ++ prs L x) ?_ (fun r hr=>by rw [hr]; exact cJ.some rfl)
  refine cJ.ea2 (l:=met L x.b) (G:=fun out=>out) (I:=fun pre out=>out = out0 ++ ((pre.filter fun z=>decide (x.id < z)).map fun z=>(⟨x.id,z⟩:A2))) (by omega) (by omega) (by simp) (fun pre z post out e hx hI=>?_) (fun out hI=>hI)
  rw [hx]
  simp only [Option.bind_some]
  have hlen:out.length ≤ out0.length + pre.length:=by rw [hI,List.length_append,List.length_map]; have:=List.length_filter_le (fun z=>decide (x.id < z)) pre; omega
  have hal:(met L x.b).length = pre.length + 1 + post.length:=by rw [e]; simp; omega
  by_cases hc:x.id < z
  ·rw [if_pos (by simpa using hc),kZ,if_pos (by simp; omega)]
   exact ⟨_,rfl,.inl ⟨out ++ [⟨x.id,z⟩],rfl,by rw [hI,List.filter_append]; simp [hc]⟩⟩
  ·rw [if_neg (by simpa using hc)]
   exact ⟨_,rfl,.inl ⟨out,rfl,by rw [hI,List.filter_append]; simp [hc]⟩⟩
theorem s6 {f:Nat} (hf:f = 50 ∨ f = 51) {x y:entry} (hn:y.id ≠ x.id) (h:¬ ly f y x):ly f x y:=by
 rcases hf with rfl | rfl
 ·rw [fo] at *; omega
 ·rw [ltE51] at *; omega
theorem su {f:Nat} (x:entry):¬ ly f x x:=fun h=>oZ h h
theorem pf {f:Nat} {L M:List entry} (h1:iT f L) (h2:iT f M) (hp:L.Perm M):L = M :=
 List.Perm.eq_of_pairwise (fun a b _ _ h h'=>(oZ h h').elim) h1 h2 hp
theorem uy (z:Int):∃ p,fi 20000 z = some p:=by
 unfold fi ez
 exact ⟨_,rfl⟩
theorem kf (x:entry):gw 20000 48 x = some (IntKind.u64.wrap x.id):=rfl
theorem wth (t:iG) (x:entry) (a b n u w:T) (p:Int) (h1:fb 20000 t t.root x = some (a,b)) (h2:gw 20000 t.key x = some (IntKind.u64.wrap x.id)) (hp:fi 20000 (IntKind.u64.wrap x.id) = some p) (hm:a6 20000 t (.node ⟨x,p,⟨A3.zero,A3.zero⟩⟩ .leaf .leaf) .leaf .leaf = some n) (h3:ck 20000 t a n = some u) (h4:ck 20000 t u b = some w):bz 20000 t x = some ⟨w,t.compare,t.key,t.box⟩:=by
 unfold bz
 rw [h1,Option.bind_some]
 simp only [dX]
 rw [h2,Option.bind_some,hp,Option.bind_some,hm,Option.bind_some,h3,Option.bind_some,h4]
 rfl
theorem sj {f:Nat} (hf:f = 50 ∨ f = 51) {rt:T} {x:entry} (hc:ou rt) (hs:iT f (items rt)) (hn:∀ y ∈ items rt,y.id ≠ x.id) (hL:(items rt).length < 1000) :
  ∃ t',bz 20000 ⟨rt,f,48,49⟩ x = some ⟨t',f,48,49⟩ ∧ (items t').Perm (x :: items rt) ∧ iT f (items t') ∧ ou t':=by
 obtain ⟨a,b,e,h1,h2,h3,h4,h5⟩:=uk hf rt 48 x rt 20000 (by omega) hc hs
 have hlen:(items a).length + (items b).length = (items rt).length:=by rw [← h1,List.length_append]
 obtain ⟨p,hp⟩:=uy (IntKind.u64.wrap x.id)
 obtain ⟨n,hmk,hn1,hn2⟩:∃ n:T,a6 20000 ⟨rt,f,48,49⟩ (.node ⟨x,p,⟨A3.zero,A3.zero⟩⟩ .leaf .leaf) .leaf .leaf = some n ∧ items n = [x] ∧ ou n :=
  ⟨_,jb rt f 48 _ _ _ _ _,rfl,la trivial trivial⟩
 obtain ⟨u,hu,u1,u2⟩:=pD rt f 48 20000 a n (by rw [hn1]; simp; omega) h4 hn2
 obtain ⟨w,hw,w1,w2⟩:=pD rt f 48 20000 u b (by rw [u1,hn1]; simp; omega) u2 h5
 refine ⟨w,?_,?_,?_,w2⟩
 ·exact wth ⟨rt,f,48,49⟩ x a b n u w p e (kf x) hp hmk hu hw
 ·rw [w1,u1,hn1,← h1]
  simp
 ·rw [w1,u1,hn1]
  rw [← h1] at hs hn
  unfold iT at *
  rw [List.pairwise_append] at hs
  have hx:∀ y ∈ items b,ly f x y:=fun y hy=>s6 hf (hn y (by simp [hy])) (h3 y hy)
  rw [List.append_assoc,List.pairwise_append]
  refine ⟨hs.1,?_,?_⟩
  ·show ([x] ++ items b).Pairwise _
   exact List.pairwise_cons.2 ⟨hx,hs.2.1⟩
  ·intro y hy z hz
   rcases List.mem_append.1 hz with hz | hz
   ·rw [List.mem_singleton] at hz; subst hz; exact h2 y hy
   ·exact hs.2.2 y hy z hz
theorem nV {f:Nat} (hf:f = 50 ∨ f = 51) {rt:T} {x:entry} (hc:ou rt) (hs:iT f (items rt)) (hx:x ∈ items rt) (hL:(items rt).length < 1000) :
  ∃ t',bf 20000 ⟨rt,f,48,49⟩ x = some ⟨t',f,48,49⟩ ∧ (x :: items t').Perm (items rt) ∧ iT f (items t') ∧ ou t':=by
 obtain ⟨pre,post,e⟩:=List.append_of_mem hx
 obtain ⟨t',h,h1,h2⟩:=sE hf rt 48 x rt 20000 (by omega) (by omega) hc hs pre x post e (su x) (su x)
 refine ⟨t',?_,?_,?_,h2⟩
 ·unfold bf fF
  rw [h]; rfl
 ·rw [h1,e]; exact List.perm_middle.symm
 ·rw [h1]
  rw [e] at hs
  unfold iT at *
  rw [List.pairwise_append,List.pairwise_cons] at hs
  rw [List.pairwise_append]
  exact ⟨hs.1,hs.2.1.2,fun y hy z hz=>hs.2.2 y hy z (by simp [hz])⟩
def iU (x:entry):List entry → List entry
 | []=>[x]
 | y :: l=>if x.id < y.id then x :: y :: l else y :: iU x l
def dh (id:Int) (L:List entry):List entry:=L.filter fun y=>decide (y.id ≠ id)
theorem fJ (x:entry):∀ L,(iU x L).Perm (x :: L)
 | []=>.refl _
 | y :: l=>by
  unfold iU
  split
  ·exact .refl _
  ·exact .trans (.cons y (fJ x l)) (.swap x y l)
theorem qo (x:entry) (L:List entry):(iU x L).length = L.length + 1:=by rw [(fJ x L).length_eq]; rfl
theorem eQ {x y:entry} {L:List entry}:y ∈ iU x L ↔ y = x ∨ y ∈ L:=by rw [(fJ x L).mem_iff,List.mem_cons]
theorem iJ {x:entry}:∀ {L:List entry},iT 50 L → (∀ y ∈ L,y.id ≠ x.id) → iT 50 (iU x L)
 | [],_,_=>by simp [iU,iT]
 | y :: l,h,hn=>by
  have h1:=List.pairwise_cons.1 h
  unfold iU
  split
  ·next hc=>
   refine List.pairwise_cons.2 ⟨fun z hz=>?_,h⟩
   rcases List.mem_cons.1 hz with rfl | hz
   ·rw [fo]; exact hc
   ·exact iN ((fo _ _).2 hc) (h1.1 z hz)
  ·next hc=>
   have hne:=hn y (by simp)
   refine List.pairwise_cons.2 ⟨fun z hz=>?_,iJ h1.2 fun z hz=>hn z (by simp [hz])⟩
   rcases eQ.1 hz with rfl | hz
   ·rw [fo]; omega
   ·exact h1.1 z hz
theorem nR {id:Int} {L:List entry} (h:iT 50 L):iT 50 (dh id L):=h.filter _
theorem nS {id:Int} {L:List entry} {y:entry}:y ∈ dh id L ↔ y ∈ L ∧ y.id ≠ id:=by unfold dh; simp
theorem nT (id:Int) (L:List entry):(dh id L).length ≤ L.length:=List.length_filter_le _ _
theorem uj {L:List entry} (h:iT 50 L) {x y:entry} (hx:x ∈ L) (hy:y ∈ L) (e:x.id = y.id):x = y:=by
 induction L with
 | nil=>cases hx
 | cons z l ih=>
  have h1:=List.pairwise_cons.1 h
  rcases List.mem_cons.1 hx with h2 | h2 <;> rcases List.mem_cons.1 hy with h3 | h3
  ·rw [h2,h3]
  ·have:=(fo _ _).1 (h1.1 y h3); rw [h2] at e; omega
  ·have:=(fo _ _).1 (h1.1 x h2); rw [h3] at e; omega
  ·exact ih h1.2 h2 h3
theorem mC {x:entry} {L:List entry} (h:iT 50 L) (hx:x ∈ L):(x :: dh x.id L).Perm L:=by
 obtain ⟨pre,post,e⟩:=List.append_of_mem hx
 have e2:dh x.id L = pre ++ post:=by
  have h':=h
  rw [e] at h'
  unfold iT at h'
  rw [List.pairwise_append,List.pairwise_cons] at h'
  unfold dh
  rw [e,List.filter_append,List.filter_cons]
  have a1:pre.filter (fun y=>decide (y.id ≠ x.id)) = pre:=List.filter_eq_self.2 fun y hy=>by
   have:=(fo _ _).1 (h'.2.2 y hy x (by simp)); simp; omega
  have a2:post.filter (fun y=>decide (y.id ≠ x.id)) = post:=List.filter_eq_self.2 fun y hy=>by
   have:=(fo _ _).1 (h'.2.1.1 y hy); simp; omega
  rw [a1,a2]; simp
 rw [e2,e]
 exact List.perm_middle.symm
theorem nk {t:iG} {f:Nat} (h1:t.compare = f) (h2:t.key = 48) (h3:t.box = 49):t = ⟨t.root,f,48,49⟩:=by
 cases t; subst h1; subst h2; subst h3; rfl
theorem putN_ok {s:cp} {L:List entry} (h:ed s L) (hL:L.length < 1000) {x:entry} (hv:vB x.b = true) (hn:∀ y ∈ L,y.id ≠ x.id) :
  ∃ s':cp,bz 20000 s.ids x = some s'.ids ∧ bz 20000 s.boxes x = some s'.boxes ∧ ed s' (iU x L):=by
 obtain ⟨a,ha,a1,a2,a3⟩:=sj (f:=50) (.inl rfl) h.v1 (by rw [h.it]; exact h.s1) (x:=x) (by rw [h.it]; exact hn) (by rw [h.it]; exact hL)
 obtain ⟨b,hb,b1,b2,b3⟩:=sj (f:=51) (.inr rfl) h.v2 h.s2 (x:=x) (fun y hy=>hn y (h.pm.mem_iff.1 hy)) (by rw [h.pm.length_eq]; exact hL)
 rw [← nk h.c1 h.k1 h.b1] at ha
 rw [← nk h.c2 h.k2 h.b2] at hb
 refine ⟨⟨⟨a,50,48,49⟩,⟨b,51,48,49⟩⟩,ha,hb,⟨rfl,rfl,rfl,rfl,rfl,rfl,?_,?_,iJ h.s1 hn,b2,a3,b3,?_⟩⟩
 ·rw [h.it] at a1
  exact pf a2 (iJ h.s1 hn) (a1.trans (fJ x L).symm)
 ·exact b1.trans ((h.pm.cons x).trans (fJ x L).symm)
 ·intro y hy
  rcases eQ.1 hy with rfl | hy
  ·exact hv
  ·exact h.vb y hy
theorem rH {s:cp} {L:List entry} (h:ed s L) (hL:L.length < 1000) (id:Int) (b:cn) :
  ∃ s' e,bI 20000 s id b = some (s',e) ∧ ((vB b = false ∧ e = 1) ∨ (vB b = true ∧ (∃ x ∈ L,x.id = id) ∧ e = 6) ∨ (vB b = true ∧ (∀ x ∈ L,x.id ≠ id) ∧ e = 0 ∧ ed s' (iU ⟨id,b⟩ L))):=by
 unfold bI
 rw [p7]
 cases hv:vB b
 ·exact ⟨_,_,rfl,.inl ⟨rfl,rfl⟩⟩
 ·simp only [Option.bind_some,Bool.not_true,Bool.false_eq_true,if_false]
  rcases rA h hL id with ⟨x,hx,e,hg⟩ | ⟨hg,hn⟩
  ·rw [hg]
   exact ⟨_,_,rfl,.inr (.inl ⟨trivial,⟨x,hx,e⟩,rfl⟩)⟩
  ·rw [hg]
   obtain ⟨s',h1,h2,h3⟩:=putN_ok h hL (x:=⟨id,b⟩) hv hn
   simp only [Option.bind_some,dX,Bool.false_eq_true,if_false,h1,h2]
   exact ⟨_,_,rfl,.inr (.inr ⟨trivial,hn,rfl,h3⟩)⟩
theorem delN_ok {s:cp} {L:List entry} (h:ed s L) (hL:L.length < 1000) {x:entry} (hx:x ∈ L) :
  ∃ s':cp,bf 20000 s.ids x = some s'.ids ∧ bf 20000 s.boxes x = some s'.boxes ∧ ed s' (dh x.id L):=by
 obtain ⟨a,ha,a1,a2,a3⟩:=nV (f:=50) (.inl rfl) h.v1 (by rw [h.it]; exact h.s1) (x:=x) (by rw [h.it]; exact hx) (by rw [h.it]; exact hL)
 obtain ⟨b,hb,b1,b2,b3⟩:=nV (f:=51) (.inr rfl) h.v2 h.s2 (x:=x) (h.pm.mem_iff.2 hx) (by rw [h.pm.length_eq]; exact hL)
 rw [← nk h.c1 h.k1 h.b1] at ha
 rw [← nk h.c2 h.k2 h.b2] at hb
 have hp:=mC h.s1 hx
 refine ⟨⟨⟨a,50,48,49⟩,⟨b,51,48,49⟩⟩,ha,hb,⟨rfl,rfl,rfl,rfl,rfl,rfl,?_,?_,nR h.s1,b2,a3,b3,?_⟩⟩
 ·rw [h.it] at a1
  exact pf a2 (nR h.s1) (List.perm_cons x |>.1 (a1.trans hp.symm))
 ·exact List.perm_cons x |>.1 ((b1.trans h.pm).trans hp.symm)
 ·intro y hy
  exact h.vb y (nS.1 hy).1
theorem mF {s:cp} {L:List entry} (h:ed s L) (hL:L.length < 1000) (id:Int) :
  ∃ s' e,bG 20000 s id = some (s',e) ∧ (((∀ x ∈ L,x.id ≠ id) ∧ e = 5) ∨ ((∃ x ∈ L,x.id = id) ∧ e = 0 ∧ ed s' (dh id L))):=by
 unfold bG
 rcases rA h hL id with ⟨x,hx,e,hg⟩ | ⟨hg,hn⟩
 ·rw [hg]
  obtain ⟨s',h1,h2,h3⟩:=delN_ok h hL hx
  simp only [Option.bind_some,dX,Bool.not_true,Bool.false_eq_true,if_false,h1,h2]
  rw [e] at h3
  exact ⟨_,_,rfl,.inr ⟨⟨x,hx,e⟩,rfl,h3⟩⟩
 ·rw [hg]
  exact ⟨_,_,rfl,.inl ⟨hn,rfl⟩⟩
def gnd (R:List entry) (b c:cn):List Int:=(met R b).filter fun z=>!decide (z ∈ met R c)
theorem sI {s:cp} {L:List entry} (h:ed s L) (hL:L.length < 900) (id:Int) (b:cn) :
  ∃ s' g l e,bO 20000 s id b = some (s',g,l,e) ∧ ((vB b = false ∧ e = 1 ∧ g = [] ∧ l = []) ∨ (vB b = true ∧ (∀ x ∈ L,x.id ≠ id) ∧ e = 5 ∧ g = [] ∧ l = []) ∨
   (vB b = true ∧ ∃ x ∈ L,x.id = id ∧ e = 0 ∧ ed s' (iU ⟨id,b⟩ (dh id L)) ∧ g = gnd (dh id L) b x.b ∧ l = gnd (dh id L) x.b b)):=by
 unfold bO
 rw [p7]
 cases hv:vB b
 ·exact ⟨_,_,_,_,rfl,.inl ⟨rfl,rfl,rfl,rfl⟩⟩
 ·simp only [Option.bind_some,Bool.not_true,Bool.false_eq_true,if_false]
  rcases rA h (by omega) id with ⟨x,hx,e,hg⟩ | ⟨hg,hn⟩
  ·rw [hg]
   obtain ⟨s',f,h1,h2⟩:=mF h (by omega) id
   rcases h2 with ⟨h2,_⟩ | ⟨_,h2,h3⟩
   ·exact absurd e (h2 x hx)
   have hR:(dh id L).length < 1000:=by have:=nT id L; omega
   obtain ⟨s2,e2,h4,h5⟩:=rH h3 hR id b
   rcases h5 with ⟨h5,_⟩ | ⟨_,⟨y,hy,h5⟩,_⟩ | ⟨_,_,h5,h6⟩
   ·rw [hv] at h5; cases h5
   ·exact absurd h5 (nS.1 hy).2
   have m1:=fun c=>nn (dh id L) c
   have q1:=qh (met (dh id L) b) (met (dh id L) x.b) (by have:=m1 b; omega) (by have:=m1 x.b; omega) (nG h3.s1 _)
   have q2:=qh (met (dh id L) x.b) (met (dh id L) b) (by have:=m1 x.b; omega) (by have:=m1 b; omega) (nG h3.s1 _)
   simp only [Option.bind_some,dX,Bool.not_true,Bool.false_eq_true,if_false,h1,sB h3 hR,h4,q1,q2]
   exact ⟨_,_,_,_,rfl,.inr (.inr ⟨trivial,x,hx,e,h5,h6,rfl,rfl⟩)⟩
  ·rw [hg]
   exact ⟨_,_,_,_,rfl,.inr (.inl ⟨trivial,hn,rfl,rfl,rfl⟩)⟩
theorem new_ok:ed (⟨⟨.leaf,50,48,49⟩,⟨.leaf,51,48,49⟩⟩:cp) [] :=
 ⟨rfl,rfl,rfl,rfl,rfl,rfl,rfl,.refl _,.nil,.nil,trivial,trivial,by simp⟩
def wpre (x:entry):List entry → List entry × Bool
 | []=>([],false)
 | y :: l=>if x.id < y.id then (x :: y :: l,true) else let r:=wpre x l; (y :: r.1,r.2)
def ec:List entry → List A2
 | []=>[]
 | x :: l=>((l.filter fun y=>mB x.b y.b).map fun y=>(⟨x.id,y.id⟩:A2)) ++ ec l
theorem pa:∀ L:List entry,(ec L).length ≤ L.length * L.length
 | []=>by simp [ec]
 | x :: l=>by
  unfold ec
  have h:=pa l
  have h2:=List.length_filter_le (fun y=>mB x.b y.b) l
  simp only [List.length_append,List.length_map,List.length_cons]
  have:(l.length + 1) * (l.length + 1) = l.length * l.length + 2 * l.length + 1:=by grind
  omega
theorem lq (x:entry) (l:List entry):ec (x :: l) = ((l.filter fun y=>mB x.b y.b).map fun y=>(⟨x.id,y.id⟩:A2)) ++ ec l:=rfl
theorem sH {L:List entry} (h:iT 50 L):allP L = ec L:=by
 have key:∀ (q pre:List entry),L = pre ++ q → q.flatMap (prs L) = ec q:=by
  intro q
  induction q with
  | nil=>intro pre _; rfl
  | cons x l ih=>
   intro pre e
   rw [List.flatMap_cons,ih (pre ++ [x]) (by rw [e]; simp),lq]
   congr 1
   have h':=h
   rw [e] at h'
   unfold iT at h'
   rw [List.pairwise_append,List.pairwise_cons] at h'
   unfold prs met
   rw [e,List.filter_append,List.map_append,List.filter_append,List.filter_cons]
   have a1:((pre.filter fun y=>mB y.b x.b).map (·.id)).filter (fun z=>decide (x.id < z)) = []:=by
    rw [List.filter_eq_nil_iff]
    intro z hz
    obtain ⟨y,hy,rfl⟩:=List.mem_map.1 hz
    have:=(fo _ _).1 (h'.2.2 y (List.mem_filter.1 hy).1 x (by simp))
    simp; omega
   have a2:∀ b:Bool,((if b = true then x :: l.filter (fun y=>mB y.b x.b) else l.filter (fun y=>mB y.b x.b)).map (·.id)).filter (fun z=>decide (x.id < z)) = (l.filter fun y=>mB x.b y.b).map (·.id):=by
    have a3:((l.filter fun y=>mB y.b x.b).map (·.id)).filter (fun z=>decide (x.id < z)) = (l.filter fun y=>mB x.b y.b).map (·.id):=by
     rw [List.filter_eq_self.2,List.filter_congr (q:=fun y=>mB x.b y.b) fun y _=>pA y.b x.b]
     intro z hz
     obtain ⟨y,hy,rfl⟩:=List.mem_map.1 hz
     have:=(fo _ _).1 (h'.2.1.1 y (List.mem_filter.1 hy).1)
     simp; omega
    intro b
    cases b
    ·exact a3
    ·simp only [if_true,List.map_cons,List.filter_cons,show decide (x.id < x.id) = false by simp,Bool.false_eq_true,if_false]
     exact a3
   rw [a1,a2,List.nil_append,List.map_map]
   rfl
 exact key L [] rfl
def l6 (id:Int) (L:List entry):Bool:=L.any fun y=>decide (y.id = id)
def q3 (id:Int) (L:List entry):cn:=((L.find? fun y=>decide (y.id = id)).getD default).b
theorem rf {id:Int} {L:List entry}:l6 id L = true ↔ ∃ x ∈ L,x.id = id:=by unfold l6; simp
theorem rh {id:Int} {L:List entry}:l6 id L = false ↔ ∀ x ∈ L,x.id ≠ id:=by unfold l6; simp
theorem getE_eq {L:List entry} (h:iT 50 L) {x:entry} (hx:x ∈ L):q3 x.id L = x.b:=by
 unfold q3
 cases hf:L.find? fun y=>decide (y.id = x.id) with
 | none=>have:=List.find?_eq_none.1 hf x hx; simp at this
 | some y=>
  have h1:=List.find?_some hf
  have h2:=List.mem_of_find?_eq_some hf
  rw [uj h h2 hx (by simpa using h1)]
  rfl
def kE (L:List entry) (o:ni):List entry × List Int × List Int × Int :=
 if o.Kind = 0 then
  if vB o.B = true then (if l6 o.Id L = true then (L,[],[],6) else (iU ⟨o.Id,o.B⟩ L,[],[],0)) else (L,[],[],1)
 else if o.Kind = 1 then
  if l6 o.Id L = true then (dh o.Id L,[],[],0) else (L,[],[],5)
 else if vB o.B = true then
  (if l6 o.Id L = true then (iU ⟨o.Id,o.B⟩ (dh o.Id L),gnd (dh o.Id L) o.B (q3 o.Id L),gnd (dh o.Id L) (q3 o.Id L) o.B,0) else (L,[],[],5))
 else (L,[],[],1)
theorem doE_len (L:List entry) (o:ni):(kE L o).1.length ≤ L.length + 1:=by
 unfold kE
 have h1:=nT o.Id L
 repeat' split
 all_goals simp only [qo]
 all_goals omega
theorem doE_0f {L:List entry} {o:ni} (k:o.Kind = 0) (hv:vB o.B = false):kE L o = (L,[],[],1):=by simp [kE,k,hv]
theorem doE_06 {L:List entry} {o:ni} (k:o.Kind = 0) (hv:vB o.B = true) (hh:l6 o.Id L = true):kE L o = (L,[],[],6):=by simp [kE,k,hv,hh]
theorem doE_00 {L:List entry} {o:ni} (k:o.Kind = 0) (hv:vB o.B = true) (hh:l6 o.Id L = false):kE L o = (iU ⟨o.Id,o.B⟩ L,[],[],0):=by simp [kE,k,hv,hh]
theorem doE_15 {L:List entry} {o:ni} (k:o.Kind = 1) (hh:l6 o.Id L = false):kE L o = (L,[],[],5):=by simp [kE,k,hh]
theorem doE_10 {L:List entry} {o:ni} (k:o.Kind = 1) (hh:l6 o.Id L = true):kE L o = (dh o.Id L,[],[],0):=by simp [kE,k,hh]
theorem doE_2f {L:List entry} {o:ni} (k0:o.Kind ≠ 0) (k1:o.Kind ≠ 1) (hv:vB o.B = false):kE L o = (L,[],[],1):=by simp [kE,k0,k1,hv]
theorem doE_25 {L:List entry} {o:ni} (k0:o.Kind ≠ 0) (k1:o.Kind ≠ 1) (hv:vB o.B = true) (hh:l6 o.Id L = false):kE L o = (L,[],[],5):=by simp [kE,k0,k1,hv,hh]
theorem doE_20 {L:List entry} {o:ni} (k0:o.Kind ≠ 0) (k1:o.Kind ≠ 1) (hv:vB o.B = true) (hh:l6 o.Id L = true):kE L o = (iU ⟨o.Id,o.B⟩ (dh o.Id L),gnd (dh o.Id L) o.B (q3 o.Id L),gnd (dh o.Id L) (q3 o.Id L) o.B,0):=by simp [kE,k0,k1,hv,hh]
theorem doE_err (L:List entry) (o:ni) (he:(kE L o).2.2.2 ≠ 0):(kE L o).1 = L:=by
 unfold kE at *
 repeat' split
 all_goals simp_all
theorem mv_ok {s:cp} {L:List entry} (h:ed s L) (hL:L.length < 900) (o:ni) (k0:o.Kind ≠ 0) (k1:o.Kind ≠ 1) :
  ∃ s',bO 20000 s o.Id o.B = some (s',(kE L o).2.1,(kE L o).2.2.1,(kE L o).2.2.2) ∧ ((kE L o).2.2.2 = 0 → ed s' (kE L o).1):=by
 obtain ⟨s',g,l,e,h1,h2⟩:=sI h hL o.Id o.B
 rcases h2 with ⟨h2,rfl,rfl,rfl⟩ | ⟨h2,h3,rfl,rfl,rfl⟩ | ⟨h2,x,hx,h3,rfl,h4,rfl,rfl⟩
 ·rw [doE_2f k0 k1 h2]
  exact ⟨s',h1,by simp⟩
 ·rw [doE_25 k0 k1 h2 (rh.2 h3)]
  exact ⟨s',h1,by simp⟩
 ·rw [doE_20 k0 k1 h2 (rf.2 ⟨x,hx,h3⟩),show q3 o.Id L = x.b from by rw [← h3]; exact getE_eq h.s1 hx]
  exact ⟨s',h1,fun _=>h4⟩
theorem play_ok {s:cp} {L:List entry} (h:ed s L) (hL:L.length < 900) (o:ni) :
  ∃ s',b9 20000 s o = some (s',(kE L o).2.1,(kE L o).2.2.1,(kE L o).2.2.2) ∧ ed s' (kE L o).1:=by
 unfold b9
 by_cases k0:o.Kind = 0
 ·rw [if_pos (by simpa using k0)]
  obtain ⟨s',e,h1,h2⟩:=rH h (by omega) o.Id o.B
  rw [h1]
  simp only [Option.bind_some,dX,th]
  rcases h2 with ⟨h2,rfl⟩ | ⟨h2,h3,rfl⟩ | ⟨h2,h3,rfl,h4⟩
  ·rw [doE_0f k0 h2]
   exact ⟨s,rfl,h⟩
  ·rw [doE_06 k0 h2 (rf.2 h3)]
   exact ⟨s,rfl,h⟩
  ·rw [doE_00 k0 h2 (rh.2 h3)]
   exact ⟨s',rfl,h4⟩
 ·rw [if_neg (by simpa using k0)]
  by_cases k1:o.Kind = 1
  ·rw [if_pos (by simpa using k1)]
   obtain ⟨s',e,h1,h2⟩:=mF h (by omega) o.Id
   rw [h1]
   simp only [Option.bind_some,dX,th]
   rcases h2 with ⟨h2,rfl⟩ | ⟨h2,rfl,h3⟩
   ·rw [doE_15 k1 (rh.2 h2)]
    exact ⟨s,rfl,h⟩
   ·rw [doE_10 k1 (rf.2 h2)]
    exact ⟨s',rfl,h3⟩
  ·rw [if_neg (by simpa using k1)]
   obtain ⟨s',h1,h2⟩:=mv_ok h hL o k0 k1
   rw [h1]
   simp only [Option.bind_some,th]
   by_cases he:(kE L o).2.2.2 = 0
   ·rw [if_neg (by simpa using he)]
    exact ⟨s',rfl,h2 he⟩
   ·rw [if_pos (by simpa using he)]
    refine ⟨s,rfl,?_⟩
    rw [doE_err L o he]; exact h
def bx (l:List cn) (k:Int):cn:=idx l k
def entsF:Nat → List cn → List entry
 | _,[]=>[]
 | k,b :: l=>⟨k,b⟩ :: entsF (k + 1) l
def sM (l:List cn):List entry:=entsF 0 l
theorem gK {p:A2}:∀ {L:List entry},iT 50 L → (p ∈ ec L ↔ ∃ x ∈ L,∃ y ∈ L,x.id < y.id ∧ mB x.b y.b = true ∧ p = ⟨x.id,y.id⟩)
 | [],_=>by simp [ec]
 | z :: l,h=>by
  have h1:=List.pairwise_cons.1 h
  rw [lq,List.mem_append,gK h1.2]
  constructor
  ·rintro (hp | ⟨x,hx,y,hy,h2⟩)
   ·obtain ⟨y,hy,rfl⟩:=List.mem_map.1 hp
    rw [List.mem_filter] at hy
    exact ⟨z,by simp,y,by simp [hy.1],(fo _ _).1 (h1.1 y hy.1),hy.2,rfl⟩
   ·exact ⟨x,by simp [hx],y,by simp [hy],h2⟩
  ·rintro ⟨x,hx,y,hy,h2,h3,rfl⟩
   rcases List.mem_cons.1 hx with rfl | hx
   ·rcases List.mem_cons.1 hy with rfl | hy
    ·omega
    ·exact .inl (List.mem_map.2 ⟨y,List.mem_filter.2 ⟨hy,h3⟩,rfl⟩)
   ·rcases List.mem_cons.1 hy with h5 | hy
    ·have:=(fo _ _).1 (h1.1 x hx); rw [h5] at h2; omega
    ·exact .inr ⟨x,hx,y,hy,h2,h3,rfl⟩
def ltP (a b:A2):Prop:=a.a0 < b.a0 ∨ (a.a0 = b.a0 ∧ a.a1 < b.a1)
theorem qz:∀ {L:List entry},iT 50 L → (ec L).Pairwise ltP
 | [],_=>.nil
 | z :: l,h=>by
  have h1:=List.pairwise_cons.1 h
  rw [lq,List.pairwise_append]
  refine ⟨?_,qz h1.2,?_⟩
  ·rw [List.pairwise_map]
   refine (h1.2.filter _).imp fun h=>.inr ⟨rfl,(fo _ _).1 h⟩
  ·intro a ha b hb
   obtain ⟨y,hy,rfl⟩:=List.mem_map.1 ha
   obtain ⟨x,hx,w,_,_,_,rfl⟩:=(gK h1.2).1 hb
   exact .inl ((fo _ _).1 (h1.1 x hx))
theorem nf {L:List entry} (h:iT 50 L):(ec L).Nodup:=(qz h).imp fun h e=>by subst e; unfold ltP at h; omega
def up (n:Nat):List Int:=(List.range n).map fun k:Nat=>(k:Int)
def oq (i k:Int):A2:=⟨min i k,max i k⟩
structure Swp (l:List cn) (pre active:List Int) (out:List A2):Prop where
 sub:∀ k ∈ active,k ∈ pre
 nd:active.Nodup
 gone:∀ k ∈ pre,k ∉ active → ∃ m ∈ pre,(bx l k).Hi.a0 < (bx l m).Lo.a0
 ond:out.Nodup
 om:∀ p,p ∈ out ↔ ∃ i ∈ pre,∃ k ∈ pre,i < k ∧ mB (bx l i) (bx l k) = true ∧ p = ⟨i,k⟩
theorem lJ {i k m:Int} (hk:k ≠ i) (hm:m ≠ i) (h:oq i k = oq i m):k = m:=by
 unfold oq at h
 simp only [A2.mk.injEq] at h
 omega
def kK (L:List entry):List ni → List entry
 | []=>L
 | o :: l=>kK (kE L o).1 l
theorem sU (L:List entry) (a b:List ni):kK L (a ++ b) = kK (kK L a) b:=by
 induction a generalizing L with
 | nil=>rfl
 | cons o a ih=>exact ih _
theorem oT (L:List entry) (a:List ni):(kK L a).length ≤ L.length + a.length:=by
 induction a generalizing L with
 | nil=>simp [kK]
 | cons o a ih=>
  have h1:=ih (kE L o).1
  have h2:=doE_len L o
  simp only [kK,List.length_cons]
  omega
theorem new_S:gh 20000 = some (⟨⟨.leaf,50,48,49⟩,⟨.leaf,51,48,49⟩⟩:cp):=rfl
theorem uu (l:List ni) (hl:l.length ≤ 80) (L:List entry) (hL:L.length ≤ 80) (s:cp) (h:ed s L) :
  cJ (iter 20000 (dX fun s_5 i_6=>if (decide (i_6 < (l.length:Int))) = true then (Option.bind (bd l i_6) (fun x_8=>Option.bind (b9 20000 s_5 x_8) (th fun x_9 x_10 x_11 x_12=>some (.inl (x_9,IntKind.i64.wrap (i_6 + 1)))))) else (some (.inr s_5))) (s,0)) fun s'=>ed s' (kK L l):=by
 refine cJ.ea2 (l:=l) (G:=fun a=>a) (I:=fun pre s=>ed s (kK L pre)) (by omega) (by omega) h (fun pre x post s e hx hI=>?_) (fun s hI=>hI)
 have hal:l.length = pre.length + 1 + post.length:=by rw [e]; simp; omega
 have hpl:=oT L pre
 obtain ⟨s',h3,h4⟩:=play_ok hI (by omega) x
 rw [hx]
 simp only [Option.bind_some,h3,th]
 exact cJ.some (.inl ⟨_,rfl,by rw [sU]; exact h4⟩)
def Hol (s:cp) (M:List entry):Prop:=∃ L,ed s L ∧ L.Perm M
theorem Hol.put {s:cp} {M:List entry} (h:Hol s M) (hM:M.length < 900) {id:Int} {b:cn} (hv:vB b = true) (hn:∀ x ∈ M,x.id ≠ id) :
  ∃ s',bI 20000 s id b = some (s',0) ∧ Hol s' (⟨id,b⟩ :: M):=by
 obtain ⟨L,h1,h2⟩:=h
 obtain ⟨s',e,h3,h4⟩:=rH h1 (by rw [h2.length_eq]; omega) id b
 rcases h4 with ⟨h4,_⟩ | ⟨_,⟨x,hx,h4⟩,_⟩ | ⟨_,_,rfl,h4⟩
 ·rw [hv] at h4; cases h4
 ·exact absurd h4 (hn x (h2.mem_iff.1 hx))
 ·exact ⟨s',h3,_,h4,(fJ _ _).trans (h2.cons _)⟩
theorem Hol.del {s:cp} {M:List entry} {x:entry} (h:Hol s (x :: M)) (hM:M.length < 900) :
  ∃ s',bG 20000 s x.id = some (s',0) ∧ Hol s' M:=by
 obtain ⟨L,h1,h2⟩:=h
 obtain ⟨s',e,h3,h4⟩:=mF h1 (by rw [h2.length_eq]; simp; omega) x.id
 have hx:x ∈ L:=h2.mem_iff.2 (by simp)
 rcases h4 with ⟨h4,_⟩ | ⟨_,rfl,h4⟩
 ·exact absurd rfl (h4 x hx)
 ·exact ⟨s',h3,_,h4,List.perm_cons x |>.1 ((mC h1.s1 hx).trans h2)⟩
theorem Hol.eq {s:cp} {M:List entry} (h:Hol s M) (hs:iT 50 M):ed s M:=by
 obtain ⟨L,h1,h2⟩:=h
 rw [← pf h1.s1 hs h2]; exact h1
theorem pb {w:entry}:∀ {R:List entry},iT 50 R → (∀ y ∈ R,y.id ≠ w.id) → (ec (iU w R)).Perm (ec R ++ (met R w.b).map (oq w.id)):=by
 intro R hR hn
 rw [List.perm_ext_iff_of_nodup (nf (iJ hR hn)) ?_]
 ·intro p
  rw [List.mem_append,gK (iJ hR hn),gK hR,List.mem_map]
  have hm:∀ z,z ∈ met R w.b ↔ ∃ y ∈ R,mB y.b w.b = true ∧ y.id = z:=by
   intro z; unfold met; rw [List.mem_map]
   constructor
   ·rintro ⟨y,hy,e⟩
    rw [List.mem_filter] at hy
    exact ⟨y,hy.1,hy.2,e⟩
   ·rintro ⟨y,hy,h1,e⟩
    exact ⟨y,List.mem_filter.2 ⟨hy,h1⟩,e⟩
  constructor
  ·rintro ⟨x,hx,y,hy,h1,h2,rfl⟩
   rcases eQ.1 hx with e1 | h3 <;> rcases eQ.1 hy with e2 | h4
   ·rw [e1,e2] at h1; omega
   ·subst e1; exact .inr ⟨y.id,(hm _).2 ⟨y,h4,by rw [pA]; exact h2,rfl⟩,by unfold oq; simp only [A2.mk.injEq]; omega⟩
   ·subst e2; exact .inr ⟨x.id,(hm _).2 ⟨x,h3,h2,rfl⟩,by unfold oq; simp only [A2.mk.injEq]; omega⟩
   ·exact .inl ⟨x,h3,y,h4,h1,h2,rfl⟩
  ·rintro (⟨x,hx,y,hy,h⟩ | ⟨z,hz,rfl⟩)
   ·exact ⟨x,eQ.2 (.inr hx),y,eQ.2 (.inr hy),h⟩
   ·obtain ⟨y,hy,h1,rfl⟩:=(hm z).1 hz
    have hne:=hn y hy
    by_cases hlt:w.id < y.id
    ·exact ⟨w,eQ.2 (.inl rfl),y,eQ.2 (.inr hy),hlt,by rw [pA]; exact h1,by unfold oq; simp only [A2.mk.injEq]; omega⟩
    ·exact ⟨y,eQ.2 (.inr hy),w,eQ.2 (.inl rfl),by omega,h1,by unfold oq; simp only [A2.mk.injEq]; omega⟩
 ·rw [List.nodup_append]
  have hmn:∀ z ∈ met R w.b,z ≠ w.id:=by
   intro z hz e
   unfold met at hz
   obtain ⟨y,hy,e2⟩:=List.mem_map.1 hz
   exact hn y (List.mem_filter.1 hy).1 (e2.trans e)
  refine ⟨nf hR,?_,?_⟩
  ·rw [List.Nodup,List.pairwise_map]
   exact List.Pairwise.imp_of_mem (fun {a b} ha hb hab e=>Int.ne_of_lt hab (lJ (hmn a ha) (hmn b hb) e)) (nG hR w.b)
  ·intro p hp q hq e
   subst e
   obtain ⟨x,hx,y,hy,h1,_,rfl⟩:=(gK hR).1 hp
   obtain ⟨z,hz,e⟩:=List.mem_map.1 hq
   unfold oq at e
   simp only [A2.mk.injEq] at e
   have h2:=hn x hx
   have h3:=hn y hy
   omega
theorem re (l:List A2) (p:A2) (hl:l.length < 19000):bR 20000 l p = some (decide (p ∈ l)):=by
 refine cJ.eq ?_
 unfold bR
 refine cJ.bind (P:=fun o=>(o = .inl () ∧ p ∉ l) ∨ (o = .inr true ∧ p ∈ l)) ?_ ?_
 ·refine cJ.ea1 (l:=l) (I:=fun pre=>p ∉ pre) (by omega) (by omega) (by simp) (fun pre x post e hx hI=>?_) (fun hI=>.inl ⟨rfl,hI⟩)
  rw [hx]
  simp only [Option.bind_some]
  by_cases hc:x = p
  ·rw [if_pos (by simpa using hc)]
   exact cJ.some (.inr ⟨_,rfl,.inr ⟨rfl,by rw [e,hc]; simp⟩⟩)
  ·rw [if_neg (by simpa using hc)]
   refine cJ.some (.inl ⟨rfl,?_⟩)
   rw [List.mem_append,List.mem_singleton]
   rintro (h | h)
   ·exact hI h
   ·exact hc h.symm
 ·rintro o (⟨rfl,h⟩ | ⟨rfl,h⟩)
  ·exact cJ.some (decide_eq_false h).symm
  ·exact cJ.some (decide_eq_true h).symm
theorem qO (l:List ni) (id:Int) (b:cn):br 20000 l id b = some true:=by
 unfold br
 by_cases h:40 < (l.length:Int)
 ·rw [if_pos (by simpa using h),kA]; rfl
 rw [if_neg (by simpa using h),new_S]
 refine cJ.eq ?_
 simp only [Option.bind_some]
 refine cJ.bind (uu l (by omega) [] (by simp) _ new_ok) fun s hs=>?_
 have q1:=oT [] l
 simp only [List.length_nil] at q1
 generalize kK [] l = L at hs q1
 have hL:L.length ≤ 40:=by omega
 obtain ⟨s',g,lo,e,h1,h2⟩:=sI hs (by omega) id b
 rw [h1]
 simp only [Option.bind_some,th]
 rcases h2 with ⟨_,rfl,rfl,rfl⟩ | ⟨_,_,rfl,rfl,rfl⟩ | ⟨hv,x,hx,hid,rfl,h3,rfl,rfl⟩
 ·rw [show decide ((1:Int) ≠ 0) = true from rfl,if_pos rfl,kA]; exact cJ.some rfl
 ·rw [show decide ((5:Int) ≠ 0) = true from rfl,if_pos rfl,kA]; exact cJ.some rfl
 subst hid
 rw [show decide ((0:Int) ≠ 0) = false from rfl,if_neg (by simp)]
 have hR:iT 50 (dh x.id L):=nR hs.s1
 have hRn:∀ y ∈ dh x.id L,y.id ≠ x.id:=fun y hy=>(nS.1 hy).2
 have hRl:=nT x.id L
 have hLe:L = iU x (dh x.id L):=pf hs.s1 (iJ hR hRn) ((mC hs.s1 hx).symm.trans (fJ x _).symm)
 have p1:(ec L).Perm (ec (dh x.id L) ++ (met (dh x.id L) x.b).map (oq x.id)):=by
  conv=>lhs; rw [hLe]
  exact pb hR hRn
 have p2:(ec (iU ⟨x.id,b⟩ (dh x.id L))).Perm (ec (dh x.id L) ++ (met (dh x.id L) b).map (oq x.id)):=pb (w:=⟨x.id,b⟩) hR hRn
 rw [ub hs (by omega),ub h3 (by rw [qo]; omega),sH hs.s1,sH h3.s1]
 simp only [Option.bind_some]
 have hbl:(ec (dh x.id L)).length ≤ 1600:=by
  have h1:=pa (dh x.id L)
  have:(dh x.id L).length * (dh x.id L).length ≤ 40 * 40:=Nat.mul_le_mul (by omega) (by omega)
  omega
 have hml:=fun c=>nn (dh x.id L) c
 have hmpw:=fun c=>nG hR c
 have hmn:∀ c,∀ z ∈ met (dh x.id L) c,z ≠ x.id:=by
  intro c z hz e
  unfold met at hz
  obtain ⟨y,hy,e2⟩:=List.mem_map.1 hz
  exact hRn y (List.mem_filter.1 hy).1 (e2.trans e)
 have hBn:∀ p ∈ ec (dh x.id L),∀ z,p ≠ oq x.id z:=by
  rintro p hp z rfl
  obtain ⟨u,hu,v,hw,_,_,e⟩:=(gK hR).1 hp
  unfold oq at e
  simp only [A2.mk.injEq] at e
  have h2:=hRn u hu
  have h3:=hRn v hw
  omega
 unfold gnd
 generalize dh x.id L = R at *
 generalize hA:ec L = A at *
 generalize hC:ec (iU ⟨x.id,b⟩ R) = C at *
 generalize ec R = B at *
 have u1:=hml x.b; have u2:=hml b; have m1:=hmpw x.b; have m2:=hmpw b; have v1:=hmn x.b; have v2:=hmn b
 generalize met R x.b = M at *
 generalize met R b = N at *
 generalize x.id = i at *
 clear hs h3 h1
 have hAl:A.length ≤ 1700:=by rw [p1.length_eq,List.length_append,List.length_map]; omega
 have hCl:C.length ≤ 1700:=by rw [p2.length_eq,List.length_append,List.length_map]; omega
 have hlo:(M.filter fun z=>!decide (z ∈ N)).length ≤ M.length:=List.length_filter_le _ _
 have hgn:(N.filter fun z=>!decide (z ∈ M)).length ≤ N.length:=List.length_filter_le _ _
 generalize hlost:M.filter (fun z=>!decide (z ∈ N)) = lost at *
 let gone:A2 → Bool:=fun p=>lost.any fun k=>decide (p = oq i k)
 have hgo:∀ p,p ∈ A → (gone p = true ↔ p ∉ C):=by
  intro p hp
  rw [p1.mem_iff,List.mem_append] at hp
  rw [p2.mem_iff,List.mem_append,not_or]
  simp only [gone,List.any_eq_true,decide_eq_true_eq]
  rcases hp with hp | hp
  ·constructor
   ·rintro ⟨k,_,rfl⟩; exact absurd rfl (hBn _ hp k)
   ·rintro ⟨h,_⟩; exact absurd hp h
  ·obtain ⟨z,hz,rfl⟩:=List.mem_map.1 hp
   constructor
   ·rintro ⟨k,hk,e⟩
    have hkM:k ∈ M ∧ k ∉ N:=by rw [← hlost] at hk; simpa using List.mem_filter.1 hk
    have:z = k:=lJ (v1 z hz) (v1 k hkM.1) e
    subst this
    refine ⟨fun hc=>hBn _ hc z rfl,fun hc=>?_⟩
    obtain ⟨y,hy,e2⟩:=List.mem_map.1 hc
    have:y = z:=lJ (v2 y hy) (v1 z hz) e2
    subst this
    exact hkM.2 hy
   ·rintro ⟨_,h⟩
    refine ⟨z,?_,rfl⟩
    rw [← hlost,List.mem_filter]
    refine ⟨hz,?_⟩
    simp only [Bool.not_eq_true',decide_eq_false_iff_not]
    exact fun hc=>h (List.mem_map.2 ⟨z,hc,rfl⟩)
 refine cJ.bind (P:=fun o=>o = .inl ((A.filter fun p=>!gone p).length:Int)) ?_ ?_
 ·refine cJ.ea2 (l:=A) (G:=fun c=>(.inl c:Int ⊕ Bool)) (I:=fun pre c=>c = ((pre.filter fun p=>!gone p).length:Int)) (by omega) (by omega) rfl (fun pre p post c e hx hI=>?_) (fun c hI=>by rw [hI])
  have hpA:p ∈ A:=by rw [e]; simp
  have hpl:A.length = pre.length + 1 + post.length:=by rw [e]; simp; omega
  have hfl:=List.length_filter_le (fun p=>!gone p) pre
  refine cJ.bind (P:=fun o=>o = .inl (((pre ++ [p]).filter fun p=>!gone p).length:Int)) ?_ (by rintro _ rfl; exact cJ.some (.inl ⟨_,rfl,rfl⟩))
  rw [hx]
  simp only [Option.bind_some]
  refine cJ.bind (P:=fun r=>r = gone p) ?_ ?_
  ·refine cJ.ea2 (l:=lost) (G:=fun a=>a) (I:=fun q a=>a = q.any fun k=>decide (p = oq i k)) (by omega) (by omega) rfl (fun q k po a e' hx' hI'=>?_) (fun a hI'=>hI')
   rw [hx']
   refine ⟨.inl (a || decide (p = oq i k),IntKind.i64.wrap ((q.length:Int) + 1)),?_,.inl ⟨_,rfl,?_⟩⟩
   ·cases a
    ·rfl
    ·simp [bJ]
   ·rw [hI',List.any_append]; simp
  ·rintro _ rfl
   rw [re C p (by omega)]
   simp only [Option.bind_some]
   have hg:=hgo p hpA
   cases hgp:gone p
   ·have hpc:p ∈ C:=by
     cases hd:decide (p ∈ C)
     ·have:=hg.2 (of_decide_eq_false hd); rw [hgp] at this; cases this
     ·exact of_decide_eq_true hd
    simp only [hpc,decide_true,show (false == true) = false from rfl,Bool.false_eq_true,if_false,Bool.not_false,if_true]
    rw [hI,ny (by omega) (by omega),List.filter_append]
    exact cJ.some (by simp [hgp])
   ·have hpc:p ∉ C:=hg.1 hgp
    simp only [hpc,decide_false,show (true == false) = false from rfl,Bool.false_eq_true,if_false,Bool.not_true]
    rw [hI,List.filter_append]
    exact cJ.some (by simp [hgp])
 rintro _ rfl
 simp only [cc]
 refine cJ.bind (P:=fun o=>o = .inl ()) ?_ ?_
 ·refine cJ.ea1 (l:=N.filter fun z=>!decide (z ∈ M)) (I:=fun _=>True) (by omega) (by omega) trivial (fun pre k post e hx hI=>?_) (fun _=>rfl)
  have hkm:k ∈ N ∧ k ∉ M:=by
   have:k ∈ N.filter fun z=>!decide (z ∈ M):=by rw [e]; simp
   simpa using List.mem_filter.1 this
  rw [hx]
  have g1:oq i k ∉ A:=by
   rw [p1.mem_iff,List.mem_append,not_or]
   refine ⟨fun hc=>hBn _ hc k rfl,fun hc=>?_⟩
   obtain ⟨y,hy,e2⟩:=List.mem_map.1 hc
   have:y = k:=lJ (v1 y hy) (v2 k hkm.1) e2
   subst this
   exact hkm.2 hy
  have g2:oq i k ∈ C:=by
   rw [p2.mem_iff,List.mem_append]
   exact .inr (List.mem_map.2 ⟨k,hkm.1,rfl⟩)
  unfold oq at g1 g2
  simp only [Option.bind_some,re A _ (by omega:A.length < 19000),re C _ (by omega:C.length < 19000),g1,g2,decide_true,decide_false,Bool.not_false,bJ,if_true,Bool.not_true,Bool.or_false,Bool.false_eq_true,if_false]
  exact cJ.some (.inl ⟨rfl,trivial⟩)
 rintro _ rfl
 simp only [cc,kA,Option.bind_some,ez,Bool.true_and]
 refine cJ.some ?_
 rw [decide_eq_true_iff]
 have hfl:=List.length_filter_le (fun p=>!gone p) A
 rw [ny (by omega) (by omega)]
 have c1:(A.filter fun p=>!gone p).length = B.length + (M.filter fun z=>decide (z ∈ N)).length:=by
  rw [(p1.filter _).length_eq,List.filter_append,List.length_append]
  congr 1
  ·rw [List.filter_eq_self.2]
   intro p hp
   have hpA:p ∈ A:=p1.mem_iff.2 (List.mem_append.2 (.inl hp))
   have hpC:p ∈ C:=p2.mem_iff.2 (List.mem_append.2 (.inl hp))
   cases hgp:gone p
   ·rfl
   ·exact absurd hpC ((hgo p hpA).1 hgp)
  ·rw [List.filter_map,List.length_map]
   congr 1
   refine List.filter_congr fun z hz=>?_
   have hpA:oq i z ∈ A:=p1.mem_iff.2 (List.mem_append.2 (.inr (List.mem_map.2 ⟨z,hz,rfl⟩)))
   have hg:=hgo _ hpA
   have hzc:oq i z ∈ C ↔ z ∈ N:=by
    rw [p2.mem_iff,List.mem_append]
    constructor
    ·rintro (hc | hc)
     ·exact absurd rfl (hBn _ hc z)
     ·obtain ⟨y,hy,e2⟩:=List.mem_map.1 hc
      have:y = z:=lJ (v2 y hy) (v1 z hz) e2
      subst this; exact hy
    ·exact fun hc=>.inr (List.mem_map.2 ⟨z,hc,rfl⟩)
   simp only [Function.comp]
   by_cases hc:z ∈ N
   ·cases hgp:gone (oq i z)
    ·simp [hc]
    ·exact absurd (hzc.2 hc) (hg.1 hgp)
   ·have:=hg.2 (fun h'=>hc (hzc.1 h'))
    simp [hc,this]
 have c2:N.length = (N.filter fun z=>!decide (z ∈ M)).length + (N.filter fun z=>decide (z ∈ M)).length:=by
  have h:∀ (l:List Int) (p:Int → Bool),l.length = (l.filter fun z=>!p z).length + (l.filter p).length:=by
   intro l p
   induction l with
   | nil=>rfl
   | cons a l ih=>rw [List.filter_cons,List.filter_cons]; cases p a <;> simp <;> omega
  exact h N _
 have c3:(M.filter fun z=>decide (z ∈ N)).length = (N.filter fun z=>decide (z ∈ M)).length:=by
  refine List.Perm.length_eq ((List.perm_ext_iff_of_nodup ((m1.imp fun h=>Int.ne_of_lt h).filter _) ((m2.imp fun h=>Int.ne_of_lt h).filter _)).2 fun z=>?_)
  rw [List.mem_filter,List.mem_filter,decide_eq_true_iff,decide_eq_true_iff]
  exact And.comm
 have c4:C.length = B.length + N.length:=by rw [p2.length_eq,List.length_append,List.length_map]
 omega
end Go.Proofs.YtagpkeehkcopaaaGreat
namespace Go.Proofs.YtagpkeehkcopaaaGreat
open Go Go.Sk
theorem qP (x0:List ni) (x1:Int) (x2:cn):an Tryz.prog [] 6 [] [.one (.sl 8 (x0.map jA)),.one (.i x1),.agg (ao x2)] (Is [] (.b (.one (.bool true)))) :=
 eK (qO x0 x1 x2)
end Go.Proofs.YtagpkeehkcopaaaGreat
