/- the plain law -/
import Derived.Test.YtagpkeehkcopaaaGreatW2
import Derived.Sort.AssemblyPlain
namespace Go.Proofs.YtagpkeehkcopaaaGreat
open Go Go.Sk
set_option maxRecDepth 100000
set_option linter.unusedVariables false
set_option linter.unusedSimpArgs false
def q6 (x:Int):List Int → List Int
 | []=>[x]
 | y :: l=>if x ≤ y then x :: y :: l else y :: q6 x l
def oK:List Int → List Int
 | []=>[]
 | x :: l=>q6 x (oK l)
theorem mz (x:Int):∀ l:List Int,(q6 x l).Perm (x :: l)
 | []=>.refl _
 | y :: l=>by
  unfold q6
  split
  ·exact .refl _
  ·exact .trans (.cons y (mz x l)) (.swap x y l)
theorem od:∀ l:List Int,(oK l).Perm l
 | []=>.refl _
 | x :: l=>(mz x (oK l)).trans (.cons x (od l))
theorem sB (x:Int):∀ l:List Int,l.Pairwise (· ≤ ·) → (q6 x l).Pairwise (· ≤ ·)
 | [],_=>by simp [q6]
 | y :: l,h=>by
  unfold q6
  have h1:=List.pairwise_cons.1 h
  split
  ·next hc=>
   refine List.pairwise_cons.2 ⟨fun z hz=>?_,h⟩
   rcases List.mem_cons.1 hz with rfl | hz
   ·exact hc
   ·exact Int.le_trans hc (h1.1 z hz)
  ·next hc=>
   refine List.pairwise_cons.2 ⟨fun z hz=>?_,sB x l h1.2⟩
   rcases List.mem_cons.1 ((mz x l).mem_iff.1 hz) with rfl | hz
   ·omega
   ·exact h1.1 z hz
theorem qv:∀ l:List Int,(oK l).Pairwise (· ≤ ·)
 | []=>.nil
 | x :: l=>sB x _ (qv l)
theorem sorted_perm (l:List Int):(sorted l).Perm l:=List.mergeSort_perm _ _
theorem oV (l:List Int):(sorted l).Pairwise (· ≤ ·) :=
 (List.pairwise_mergeSort (le:=fun x y:Int=>decide (x ≤ y)) (fun a b c h1 h2=>by simp only [decide_eq_true_eq] at *; omega) (fun a b=>by simp only [Bool.or_eq_true,decide_eq_true_eq]; omega) l).imp fun h=>of_decide_eq_true h
theorem sR (l:List Int):sorted l = oK l :=
 List.Perm.eq_of_pairwise (fun a b _ _ h1 h2=>Int.le_antisymm h1 h2) (oV l) (qv l) ((sorted_perm l).trans (od l).symm)
def sort2 (F:Nat) (zs:List Int):Option (List Int):=if zs.length < 1000000000 then some (oK zs) else none
theorem sort_eq:eG = sort2:=by
 funext F zs
 unfold eG nC sort2
 rw [sR]
def q5 (x:A2):List A2 → List A2
 | []=>[x]
 | y :: l=>if ix y x = true then y :: q5 x l else x :: y :: l
def isA:List A2 → List A2
 | []=>[]
 | x :: l=>q5 x (isA l)
def tn (x y:A2):Prop:=ix y x = false
theorem ns (x y:A2):tn x y ↔ (x.a0 < y.a0 ∨ (x.a0 = y.a0 ∧ x.a1 ≤ y.a1)):=by
 simp only [tn,ix,decide_eq_false_iff_not]; omega
theorem my (x:A2):∀ l:List A2,(q5 x l).Perm (x :: l)
 | []=>.refl _
 | y :: l=>by
  unfold q5
  split
  ·exact .trans (.cons y (my x l)) (.swap x y l)
  ·exact .refl _
theorem nQ:∀ l:List A2,(isA l).Perm l
 | []=>.refl _
 | x :: l=>(my x (isA l)).trans (.cons x (nQ l))
theorem sA (x:A2):∀ l:List A2,l.Pairwise tn → (q5 x l).Pairwise tn
 | [],_=>by simp [q5]
 | y :: l,h=>by
  unfold q5
  have h1:=List.pairwise_cons.1 h
  split
  ·next hc=>
   refine List.pairwise_cons.2 ⟨fun z hz=>?_,sA x l h1.2⟩
   rcases List.mem_cons.1 ((my x l).mem_iff.1 hz) with rfl | hz
   ·rw [ns]; simp only [ix,decide_eq_true_eq] at hc; omega
   ·exact h1.1 z hz
  ·next hc=>
   refine List.pairwise_cons.2 ⟨fun z hz=>?_,h⟩
   have hxy:tn x y:=by simpa [tn] using hc
   rcases List.mem_cons.1 hz with rfl | hz
   ·exact hxy
   ·have h2:=h1.1 z hz
    rw [ns] at *; omega
theorem rj:∀ l:List A2,(isA l).Pairwise tn
 | []=>.nil
 | x :: l=>sA x _ (rj l)
theorem qu {x y:A2} (h1:tn x y) (h2:tn y x):x = y:=by
 rw [ns] at *
 cases x; cases y
 simp only [A2.mk.injEq] at *
 omega
theorem sZ (l:List A2):(l.mergeSort fun a b=>!ix b a) = isA l:=by
 have hp:(l.mergeSort fun a b=>!ix b a).Pairwise tn :=
  (List.pairwise_mergeSort (le:=fun a b=>!ix b a) (fun a b c h1 h2=>by simp only [ix,Bool.not_eq_true',decide_eq_false_iff_not] at *; omega) (fun a b=>by simp only [ix,Bool.or_eq_true,Bool.not_eq_true',decide_eq_false_iff_not]; omega) l).imp fun h=>by simpa [tn] using h
 exact List.Perm.eq_of_pairwise (fun a b _ _ h1 h2=>qu h1 h2) hp (rj l) ((List.mergeSort_perm _ _).trans (nQ l).symm)
def tx (F:Nat) (zs:List A2):Option (List A2):=if zs.length < 1000000000 then some (isA zs) else none
theorem qi:c3 = tx:=by
 funext F zs
 unfold c3 tx
 rw [sZ]
theorem iR:bY 20000 = some true:=by
 unfold bY bX cg ey bW cV dg
 rw [sort_eq,qi]
 decide +kernel
def vB (b:bC):Bool:=decide (b.Lo.a0 ≤ b.Hi.a0 ∧ -1125899906842624 ≤ b.Lo.a0 ∧ b.Hi.a0 ≤ 1125899906842624 ∧ b.Lo.a1 ≤ b.Hi.a1 ∧ -1125899906842624 ≤ b.Lo.a1 ∧ b.Hi.a1 ≤ 1125899906842624 ∧ b.Lo.a2 ≤ b.Hi.a2 ∧ -1125899906842624 ≤ b.Lo.a2 ∧ b.Hi.a2 ≤ 1125899906842624)
def mB (a b:bC):Bool:=decide (b.Lo.a0 ≤ a.Hi.a0 ∧ a.Lo.a0 ≤ b.Hi.a0 ∧ b.Lo.a1 ≤ a.Hi.a1 ∧ a.Lo.a1 ≤ b.Hi.a1 ∧ b.Lo.a2 ≤ a.Hi.a2 ∧ a.Lo.a2 ≤ b.Hi.a2)
def hB (a b:bC):bC:=⟨⟨min a.Lo.a0 b.Lo.a0,min a.Lo.a1 b.Lo.a1,min a.Lo.a2 b.Lo.a2⟩,⟨max a.Hi.a0 b.Hi.a0,max a.Hi.a1 b.Hi.a1,max a.Hi.a2 b.Hi.a2⟩⟩
theorem lx0 (a b c:Int):bg [a,b,c] 0 = some a:=rfl
theorem lx1 (a b c:Int):bg [a,b,c] 1 = some b:=rfl
theorem lx2 (a b c:Int):bg [a,b,c] 2 = some c:=rfl
theorem w1:IntKind.i64.wrap (0 + 1) = 1:=rfl
theorem w2:IntKind.i64.wrap (1 + 1) = 2:=rfl
theorem w3:IntKind.i64.wrap (2 + 1) = 3:=rfl
theorem iter4n {σ τ:Type} (n:Nat) (body:σ → Option (σ ⊕ τ)) (s:σ):iter (n + 4) body s = (body s).bind (bZ (fun s=>(body s).bind (bZ (fun s=>(body s).bind (bZ (fun s=>(body s).bind (bZ (iter n body) some)) some)) some)) some):=rfl
theorem r9 {σ τ:Type} (body:σ → Option (σ ⊕ τ)) (s:σ):∃ K:σ → Option τ,iter 20000 body s = (body s).bind (bZ (fun s=>(body s).bind (bZ (fun s=>(body s).bind (bZ (fun s=>(body s).bind (bZ K some)) some)) some)) some):=⟨iter 19996 body,iter4n 19996 body s⟩
theorem d03:decide ((0:Int) < 3) = true:=rfl
theorem d13:decide ((1:Int) < 3) = true:=rfl
theorem d23:decide ((2:Int) < 3) = true:=rfl
theorem d33:decide ((3:Int) < 3) = false:=rfl
theorem rV {α:Type} (lo hi:Int) (A B:Option α):((bo (!decide (hi < lo)) (some lo)).bind fun x4=>(bo (!(decide (hi < lo) || decide (x4 < -1125899906842624))) (some hi)).bind fun x5=>if ((decide (hi < lo) || decide (x4 < -1125899906842624)) || decide (1125899906842624 < x5)) = true then A else B) =
  if (lo ≤ hi ∧ -1125899906842624 ≤ lo ∧ hi ≤ 1125899906842624) then B else A:=by
 by_cases h1:hi < lo
 ·rw [if_neg (by omega)]; simp [bo,h1]
 ·have g1:decide (hi < lo) = false:=by simpa using h1
  rw [g1]
  by_cases h2:lo < -1125899906842624
  ·have g2:decide (lo < -1125899906842624) = true:=by simpa using h2
   rw [if_neg (by omega)]; simp only [bo,Bool.not_false,if_true,Option.bind_some,g2,Bool.or_true,Bool.true_or,Bool.not_true,Bool.false_eq_true,if_false,Bool.false_or]
  ·have g2:decide (lo < -1125899906842624) = false:=by simpa using h2
   by_cases h3:1125899906842624 < hi
   ·rw [if_neg (by omega)]; simp only [bo,Bool.not_false,if_true,Option.bind_some,g2,Bool.or_false,Bool.false_or,h3,decide_true]
   ·rw [if_pos (by omega)]; simp only [bo,Bool.not_false,if_true,Option.bind_some,g2,Bool.or_false,Bool.false_or,h3,decide_false,Bool.false_eq_true,if_false]
theorem rM {α:Type} (ah bl bh al:Int) (A B:Option α):((bo (!decide (ah < bl)) (some bh)).bind fun x4=>(bo (!decide (ah < bl)) (some al)).bind fun x5=>if (decide (ah < bl) || decide (x4 < x5)) = true then A else B) =
  if (bl ≤ ah ∧ al ≤ bh) then B else A:=by
 by_cases h1:ah < bl
 ·rw [if_neg (by omega)]; simp [bo,h1]
 ·by_cases h2:bh < al
  ·rw [if_neg (by omega)]; simp [bo,h1,h2]
  ·rw [if_pos (by omega)]; simp [bo,h1,h2]
theorem jW (b:bC):bP 20000 b = some (vB b):=by
 obtain ⟨⟨a0,a1,a2⟩,⟨b0,b1,b2⟩⟩:=b
 unfold bP
 obtain ⟨K,hK⟩:=r9 _ _
 rw [hK]
 clear hK
 simp only [A3.l,d03,d13,d23,d33,if_true,lx0,lx1,lx2,w1,w2,w3,Option.bind_some,rV,bZ]
 unfold vB
 by_cases h0:a0 ≤ b0 ∧ -1125899906842624 ≤ a0 ∧ b0 ≤ 1125899906842624
 ·rw [if_pos h0]
  simp only [A3.l,d03,d13,d23,d33,if_true,lx0,lx1,lx2,w1,w2,w3,Option.bind_some,rV,bZ]
  by_cases h1:a1 ≤ b1 ∧ -1125899906842624 ≤ a1 ∧ b1 ≤ 1125899906842624
  ·rw [if_pos h1]
   simp only [A3.l,d03,d13,d23,d33,if_true,lx0,lx1,lx2,w1,w2,w3,Option.bind_some,rV,bZ]
   by_cases h2:a2 ≤ b2 ∧ -1125899906842624 ≤ a2 ∧ b2 ≤ 1125899906842624
   ·rw [if_pos h2]
    simp only [d33,Option.bind_some,bZ,Bool.false_eq_true,if_false]
    exact congrArg some (decide_eq_true (by omega)).symm
   ·rw [if_neg h2]
    simp only [Option.bind_some,bZ]
    exact congrArg some (decide_eq_false (by omega)).symm
  ·rw [if_neg h1]
   simp only [Option.bind_some,bZ]
   exact congrArg some (decide_eq_false (by omega)).symm
 ·rw [if_neg h0]
  simp only [Option.bind_some,bZ]
  exact congrArg some (decide_eq_false (by omega)).symm
theorem sT (b:bC):cE 20000 b = some (vB b):=(show cE 20000 b = bP 20000 b from rfl).trans (jW b)
theorem pO (a b:bC):cu 20000 a b = some (mB a b):=by
 obtain ⟨⟨al0,al1,al2⟩,⟨ah0,ah1,ah2⟩⟩:=a
 obtain ⟨⟨bl0,bl1,bl2⟩,⟨bh0,bh1,bh2⟩⟩:=b
 unfold cu
 obtain ⟨K,hK⟩:=r9 _ _
 rw [hK]
 clear hK
 simp only [A3.l,d03,d13,d23,d33,if_true,lx0,lx1,lx2,w1,w2,w3,Option.bind_some,rM,bZ]
 unfold mB
 by_cases h0:bl0 ≤ ah0 ∧ al0 ≤ bh0
 ·rw [if_pos h0]
  simp only [A3.l,d03,d13,d23,d33,if_true,lx0,lx1,lx2,w1,w2,w3,Option.bind_some,rM,bZ]
  by_cases h1:bl1 ≤ ah1 ∧ al1 ≤ bh1
  ·rw [if_pos h1]
   simp only [A3.l,d03,d13,d23,d33,if_true,lx0,lx1,lx2,w1,w2,w3,Option.bind_some,rM,bZ]
   by_cases h2:bl2 ≤ ah2 ∧ al2 ≤ bh2
   ·rw [if_pos h2]
    simp only [d33,Option.bind_some,bZ,Bool.false_eq_true,if_false]
    exact congrArg some (decide_eq_true (by omega)).symm
   ·rw [if_neg h2]
    simp only [Option.bind_some,bZ]
    exact congrArg some (decide_eq_false (by omega)).symm
  ·rw [if_neg h1]
   simp only [Option.bind_some,bZ]
   exact congrArg some (decide_eq_false (by omega)).symm
 ·rw [if_neg h0]
  simp only [Option.bind_some,bZ]
  exact congrArg some (decide_eq_false (by omega)).symm
def zB:bC:=⟨A3.zero,A3.zero⟩
theorem px (a b:bC):mB a b = true ↔ (b.Lo.a0 ≤ a.Hi.a0 ∧ a.Lo.a0 ≤ b.Hi.a0 ∧ b.Lo.a1 ≤ a.Hi.a1 ∧ a.Lo.a1 ≤ b.Hi.a1 ∧ b.Lo.a2 ≤ a.Hi.a2 ∧ a.Lo.a2 ≤ b.Hi.a2):=by
 unfold mB; exact decide_eq_true_iff
theorem np (a b:bC):mB a b = mB b a:=by
 rw [Bool.eq_iff_iff,px,px]; omega
def c1 (x y:Int):Int:=if x < y then -1 else if y < x then 1 else 0
theorem lv (x y:Int):dm 20000 x y = some (c1 x y):=by
 unfold dm eh c1
 simp only [Option.bind_some,show decide (x ≠ x) = false by simp,show decide (y ≠ y) = false by simp,Bool.false_eq_true,if_false,decide_eq_true_eq]
 split
 ·rfl
 ·split <;> rfl
structure Ky where
 a:Int
 b:Int
 c:Int
 d:Int
def lk4 (x y:Ky):Prop:=x.a < y.a ∨ (x.a = y.a ∧ (x.b < y.b ∨ (x.b = y.b ∧ (x.c < y.c ∨ (x.c = y.c ∧ x.d < y.d)))))
def ky (f:Nat) (x:entry):Ky:=if f = 50 then ⟨0,0,0,x.id⟩ else ⟨x.b.Lo.a0,x.b.Lo.a1,x.b.Lo.a2,x.id⟩
def lD (f:Nat) (x y:entry):Prop:=lk4 (ky f x) (ky f y)
theorem fJ (x y:entry):lD 50 x y ↔ x.id < y.id:=by
 unfold lD lk4 ky
 simp
theorem ltE51 (x y:entry):lD 51 x y ↔ (x.b.Lo.a0 < y.b.Lo.a0 ∨ (x.b.Lo.a0 = y.b.Lo.a0 ∧ (x.b.Lo.a1 < y.b.Lo.a1 ∨ (x.b.Lo.a1 = y.b.Lo.a1 ∧ (x.b.Lo.a2 < y.b.Lo.a2 ∨ (x.b.Lo.a2 = y.b.Lo.a2 ∧ x.id < y.id)))))):=by
 unfold lD lk4 ky
 simp
theorem e30:decide ((3:Int) ≤ 0) = false:=rfl
theorem e31:decide ((3:Int) ≤ 1) = false:=rfl
theorem e32:decide ((3:Int) ≤ 2) = false:=rfl
theorem len3 (a b c:Int):(([a,b,c]:List Int).length:Int) = 3:=rfl
theorem cmp3 (a0 a1 a2 b0 b1 b2:Int):dz 20000 [a0,a1,a2] [b0,b1,b2] = some (if c1 a0 b0 ≠ 0 then c1 a0 b0 else if c1 a1 b1 ≠ 0 then c1 a1 b1 else c1 a2 b2):=by
 unfold dz
 simp only [lv,len3]
 obtain ⟨K,hK⟩:=r9 _ _
 rw [hK]
 clear hK
 simp only [d03,e30,if_true,lx0,Option.bind_some,Bool.false_eq_true,if_false,bZ,decide_eq_true_eq]
 by_cases h0:c1 a0 b0 ≠ 0
 ·rw [if_pos h0,if_pos h0]; simp only [Option.bind_some,bZ]
 ·rw [if_neg h0,if_neg h0]
  simp only [Option.bind_some,bZ,w1,d13,e31,if_true,lx1,Bool.false_eq_true,if_false,decide_eq_true_eq,show (1:Int) < 3 from by decide,show ¬ (3:Int) ≤ 1 from by decide]
  by_cases h1:c1 a1 b1 ≠ 0
  ·rw [if_pos h1,if_pos h1]; simp only [Option.bind_some,bZ]
  ·rw [if_neg h1,if_neg h1]
   simp only [Option.bind_some,bZ,w2,d23,e32,if_true,lx2,Bool.false_eq_true,if_false,decide_eq_true_eq,show (2:Int) < 3 from by decide,show ¬ (3:Int) ≤ 2 from by decide]
   by_cases h2:c1 a2 b2 ≠ 0
   ·rw [if_pos h2]; simp only [Option.bind_some,bZ]
   ·rw [if_neg h2]
    have h2':c1 a2 b2 = 0:=by simpa using h2
    simp only [Option.bind_some,bZ,w3,d33,Bool.false_eq_true,if_false,h2',show ¬ (3:Int) < 3 from by decide]
theorem or2 (a b:Int):jZ 20000 [a,b] = some (if a ≠ 0 then a else b):=by
 unfold jZ
 simp only [show (([a,b]:List Int).length:Int) = 2 from rfl]
 obtain ⟨K,hK⟩:=r9 _ _
 rw [hK]
 clear hK
 simp only [show (0:Int) < 2 from by decide,decide_true,if_true,show bg [a,b] 0 = some a from rfl,Option.bind_some,decide_eq_true_eq]
 by_cases h0:a ≠ 0
 ·rw [if_pos h0,if_pos h0]; simp only [Option.bind_some,bZ]
 ·rw [if_neg h0,if_neg h0]
  simp only [Option.bind_some,bZ,w1,if_true,show (1:Int) < 2 from by decide,decide_true,show bg [a,b] 1 = some b from rfl]
  by_cases h1:b ≠ 0
  ·rw [if_pos h1]; simp only [Option.bind_some,bZ]
  ·rw [if_neg h1]
   have h1':b = 0:=by simpa using h1
   simp only [Option.bind_some,bZ,w2,h1',show ¬ (2:Int) < 2 from by decide,decide_false,Bool.false_eq_true,if_false]
theorem qd (x y:Int):c1 x y < 0 ↔ x < y:=by unfold c1; split <;> (try split) <;> omega
theorem qe (x y:Int):0 < c1 x y ↔ y < x:=by unfold c1; split <;> (try split) <;> omega
theorem oN (x y:Int):c1 x y = 0 ↔ x = y:=by unfold c1; split <;> (try split) <;> omega
theorem uc {f:Nat} (hf:f = 50 ∨ f = 51) (x y:entry):∃ v,fw 20000 f x y = some v ∧ (v < 0 ↔ lD f x y) ∧ (0 < v ↔ lD f y x):=by
 rcases hf with rfl | rfl
 ·refine ⟨c1 x.id y.id,?_,by rw [fJ]; exact qd _ _,by rw [fJ]; exact qe _ _⟩
  unfold fw fY
  rw [if_pos rfl,lv]; rfl
 ·unfold fw fX
  rw [if_neg (by decide),if_pos rfl]
  obtain ⟨xi,⟨⟨xl0,xl1,xl2⟩,xh⟩⟩:=x
  obtain ⟨yi,⟨⟨yl0,yl1,yl2⟩,yh⟩⟩:=y
  simp only [A3.l,cmp3,lv,Option.bind_some,or2,ltE51]
  refine ⟨_,rfl,?_,?_⟩
  ·have g0:=qd xl0 yl0; have g1:=qd xl1 yl1; have g2:=qd xl2 yl2; have g3:=qd xi yi
   have z0:=oN xl0 yl0; have z1:=oN xl1 yl1; have z2:=oN xl2 yl2
   generalize c1 xl0 yl0 = u0 at *; generalize c1 xl1 yl1 = u1 at *; generalize c1 xl2 yl2 = u2 at *; generalize c1 xi yi = u3 at *
   by_cases k0:u0 = 0
   ·by_cases k1:u1 = 0
    ·by_cases k2:u2 = 0
     ·simp [k0,k1,k2]; omega
     ·simp [k0,k1,k2]; omega
    ·simp [k0,k1]; omega
   ·simp [k0]; omega
  ·have g0:=qe xl0 yl0; have g1:=qe xl1 yl1; have g2:=qe xl2 yl2; have g3:=qe xi yi
   have z0:=oN xl0 yl0; have z1:=oN xl1 yl1; have z2:=oN xl2 yl2
   generalize c1 xl0 yl0 = u0 at *; generalize c1 xl1 yl1 = u1 at *; generalize c1 xl2 yl2 = u2 at *; generalize c1 xi yi = u3 at *
   by_cases k0:u0 = 0
   ·by_cases k1:u1 = 0
    ·by_cases k2:u2 = 0
     ·simp [k0,k1,k2]; omega
     ·simp [k0,k1,k2]; omega
    ·simp [k0,k1]; omega
   ·simp [k0]; omega
abbrev T:=cN bf
def cvT (b:bC):T → bC
 | .leaf=>b
 | .node w _ _=>hB b w.cover
def mk (v:bf) (l r:T):T:=.node ⟨v.x,v.priority,cvT (cvT v.x.b l) r⟩ l r
def sd (l r:T):List T:=(if l.c7 = true then [] else [l]) ++ (if r.c7 = true then [] else [r])
theorem ur (l r:T):fV 20000 [l,r] = some (sd l r):=by
 cases l <;> cases r <;> rfl
theorem jh (rt:T) (c k:Nat) (v:bf) (nl nr l r:T):a6 20000 ⟨rt,c,k,49⟩ (.node v nl nr) l r = some (mk v l r):=by
 unfold a6 im fZ
 simp only [iI,Option.bind_some,if_true,ur]
 cases l <;> cases r
 ·rfl
 ·rfl
 ·rfl
 ·rfl
def items:T → List entry
 | .leaf=>[]
 | .node w l r=>items l ++ w.x :: items r
def q3 (a b:bC):Prop:=b.Lo.a0 ≤ a.Lo.a0 ∧ b.Lo.a1 ≤ a.Lo.a1 ∧ b.Lo.a2 ≤ a.Lo.a2 ∧ a.Hi.a0 ≤ b.Hi.a0 ∧ a.Hi.a1 ≤ b.Hi.a1 ∧ a.Hi.a2 ≤ b.Hi.a2
theorem uJ (a:bC):q3 a a:=by unfold q3; omega
theorem mA {a b c:bC} (h1:q3 a b) (h2:q3 b c):q3 a c:=by unfold q3 at *; omega
theorem tc (a b:bC):q3 a (hB a b):=by unfold q3 hB; simp only; omega
theorem s9 (a b:bC):q3 b (hB a b):=by unfold q3 hB; simp only; omega
theorem uK {a b c:bC} (h:q3 a b) (hm:mB a c = true):mB b c = true:=by
 rw [px] at *; unfold q3 at h; omega
def oy:T → Prop
 | .leaf=>True
 | .node w l r=>(∀ x ∈ items (.node w l r),q3 x.b w.cover) ∧ oy l ∧ oy r
theorem rB (b:bC) (l:T):q3 b (cvT b l):=by
 cases l with
 | leaf=>exact uJ b
 | node w l r=>exact tc _ _
theorem pk (b:bC) {l:T} (h:oy l):∀ x ∈ items l,q3 x.b (cvT b l):=by
 cases l with
 | leaf=>intro x hx; cases hx
 | node w l r=>exact fun x hx=>mA (h.1 x hx) (s9 _ _)
theorem gi (v:bf) (l r:T):items (mk v l r) = items l ++ v.x :: items r:=rfl
theorem lj {v:bf} {l r:T} (hl:oy l) (hr:oy r):oy (mk v l r):=by
 refine ⟨fun x hx=>?_,hl,hr⟩
 show q3 x.b (cvT (cvT v.x.b l) r)
 rcases List.mem_append.1 hx with hx | hx
 ·exact mA (pk v.x.b hl x hx) (rB _ r)
 ·rcases List.mem_cons.1 hx with rfl | hx
  ·exact mA (rB _ l) (rB _ r)
  ·exact pk _ hr x hx
def jB (f:Nat) (l:List entry):Prop:=l.Pairwise (lD f)
theorem iU {f:Nat} {x y z:entry} (h1:lD f x y) (h2:lD f y z):lD f x z:=by
 unfold lD lk4 at *; omega
theorem pa {f:Nat} {x y:entry} (h1:lD f x y) (h2:lD f y x):False:=by
 unfold lD lk4 at *; omega
theorem nK {f:Nat} {a:entry} {l r:List entry} (h:jB f (l ++ a :: r)):jB f l ∧ jB f r ∧ (∀ y ∈ l,lD f y a) ∧ (∀ y ∈ r,lD f a y):=by
 unfold jB at *
 rw [List.pairwise_append,List.pairwise_cons] at h
 exact ⟨h.1,h.2.1.2,fun y hy=>h.2.2 y hy a (by simp),h.2.1.1⟩
theorem uq {f:Nat} (hf:f = 50 ∨ f = 51) (rt:T) (k:Nat) (x:entry):∀ (t:T) (m:Nat),(items t).length < m → oy t → jB f (items t) →
  ∃ a b,bL 20000 m ⟨rt,f,k,49⟩ t x = some (a,b) ∧ items a ++ items b = items t ∧ (∀ y ∈ items a,lD f y x) ∧ (∀ y ∈ items b,¬ lD f y x) ∧ oy a ∧ oy b:=by
 intro t
 induction t with
 | leaf=>
  intro m hm _ _
  cases m with
  | zero=>omega
  | succ m=>exact ⟨.leaf,.leaf,rfl,rfl,by simp [items],by simp [items],trivial,trivial⟩
 | node w l r ihl ihr=>
  intro m hm hc hs
  cases m with
  | zero=>omega
  | succ m=>
  simp only [items,List.length_append,List.length_cons] at hm
  obtain ⟨s1,s2,s3,s4⟩:=nK hs
  obtain ⟨v,hv,hlt,_⟩:=uc hf w.x x
  unfold bL
  simp only [cN.c7,Bool.false_eq_true,if_false,iI,Option.bind_some,hv]
  by_cases h:v < 0
  ·obtain ⟨a,b,e,h1,h2,h3,h4,h5⟩:=ihr m (by omega) hc.2.2 s2
   have hx:=hlt.1 h
   refine ⟨mk w l a,b,?_,?_,?_,h3,lj hc.2.1 h4,h5⟩
   ·rw [if_pos (by simpa using h),e]
    simp only [Option.bind_some,jh]
   ·rw [gi,items,← h1]; simp
   ·intro y hy
    rw [gi] at hy
    rcases List.mem_append.1 hy with hy | hy
    ·exact iU (s3 y hy) hx
    ·rcases List.mem_cons.1 hy with rfl | hy
     ·exact hx
     ·exact h2 y hy
  ·obtain ⟨a,b,e,h1,h2,h3,h4,h5⟩:=ihl m (by omega) hc.2.1 s1
   have hx:¬ lD f w.x x:=fun e=>h (hlt.2 e)
   refine ⟨a,mk w b r,?_,?_,h2,?_,h4,lj h5 hc.2.2⟩
   ·rw [if_neg (by simpa using h),e]
    simp only [Option.bind_some,jh]
   ·rw [gi,items,← h1]; simp
   ·intro y hy
    rw [gi] at hy
    rcases List.mem_append.1 hy with hy | hy
    ·exact h3 y hy
    ·rcases List.mem_cons.1 hy with rfl | hy
     ·exact hx
     ·exact fun e=>hx (iU (s4 y hy) e)
theorem pQ (rt:T) (f k:Nat):∀ (m:Nat) (a b:T),(items a).length + (items b).length < m → oy a → oy b →
  ∃ t,b6 20000 m ⟨rt,f,k,49⟩ a b = some t ∧ items t = items a ++ items b ∧ oy t:=by
 intro m
 induction m with
 | zero=>intro a b h; omega
 | succ m ih=>
  intro a b hm ha hb
  unfold b6
  cases a with
  | leaf=>exact ⟨b,rfl,rfl,hb⟩
  | node w l r=>
   cases b with
   | leaf=>exact ⟨.node w l r,rfl,by simp [items],ha⟩
   | node w2 l2 r2=>
    simp only [cN.c7,Bool.false_eq_true,if_false,iI,Option.bind_some]
    simp only [items,List.length_append,List.length_cons] at hm
    by_cases h:w2.priority < w.priority
    ·obtain ⟨t,e,h1,h2⟩:=ih r (.node w2 l2 r2) (by simp only [items,List.length_append,List.length_cons]; omega) ha.2.2 hb
     refine ⟨mk w l t,?_,?_,lj ha.2.1 h2⟩
     ·rw [if_pos (by simpa using h),e]
      simp only [Option.bind_some,jh]
     ·rw [gi,h1]; simp [items]
    ·obtain ⟨t,e,h1,h2⟩:=ih (.node w l r) l2 (by simp only [items,List.length_append,List.length_cons]; omega) ha hb.2.1
     refine ⟨mk w2 t r2,?_,?_,lj h2 hb.2.2⟩
     ·rw [if_neg (by simpa using h),e]
      simp only [Option.bind_some,jh]
     ·rw [gi,h1]; simp [items]
theorem sF {f:Nat} (hf:f = 50 ∨ f = 51) (rt:T) (k:Nat) (x:entry):∀ (t:T) (m:Nat),(items t).length < m → (items t).length < 20000 → oy t → jB f (items t) →
  ∀ pre y post,items t = pre ++ y :: post → ¬ lD f x y → ¬ lD f y x → ∃ t',b7 20000 m ⟨rt,f,k,49⟩ t x = some t' ∧ items t' = pre ++ post ∧ oy t':=by
 intro t
 induction t with
 | leaf=>intro m _ _ _ _ pre y post h; simp [items] at h
 | node w l r ihl ihr=>
  intro m hm h2k hc hs pre y post ng hy1 hy2
  cases m with
  | zero=>omega
  | succ m=>
  simp only [items,List.length_append,List.length_cons] at hm h2k
  obtain ⟨s1,s2,s3,s4⟩:=nK hs
  obtain ⟨v,hv,hlt,hgt⟩:=uc hf x w.x
  unfold b7
  simp only [iI,Option.bind_some,hv]
  have hcase:∀ z,z ∈ items l → lD f z w.x:=s3
  rw [items] at ng
  have hl:=List.append_eq_append_iff.1 ng
  by_cases h:v < 0
  ·have hx:=hlt.1 h
   rcases hl with ⟨us,h1,h3⟩ | ⟨vs,h1,h3⟩
   ·exfalso
    cases us with
    | nil=>
     have:w.x = y:=by simpa using (List.cons.inj (by simpa using h3)).1
     rw [← this] at hy1; exact hy1 hx
    | cons a us=>
     have hm:y ∈ items r:=by
      have:=(List.cons.inj (by simpa using h3)).2
      rw [this]; simp
     exact hy1 (iU hx (s4 y hm))
   ·cases vs with
    | nil=>
     exfalso
     have:w.x = y:=by simpa using (List.cons.inj (by simpa using h3)).1.symm
     rw [← this] at hy1; exact hy1 hx
    | cons b vs=>
     obtain ⟨e1,e2⟩:=List.cons.inj (by simpa using h3:y :: post = b :: (vs ++ w.x :: items r))
     subst e1
     obtain ⟨t',e,g1,g2⟩:=ihl m (by omega) (by omega) hc.2.1 s1 pre y vs h1 hy1 hy2
     refine ⟨mk w t' r,?_,?_,lj g2 hc.2.2⟩
     ·rw [if_pos (by simpa using h),e]
      simp only [Option.bind_some,jh]
     ·rw [gi,g1,e2]; simp
  ·rw [if_neg (by simpa using h)]
   by_cases h':0 < v
   ·have hx:=hgt.1 h'
    rw [if_pos (by simpa using h')]
    rcases hl with ⟨us,h1,h3⟩ | ⟨vs,h1,h3⟩
    ·cases us with
     | nil=>
      exfalso
      have:w.x = y:=by simpa using (List.cons.inj (by simpa using h3)).1
      rw [← this] at hy2; exact hy2 hx
     | cons a us=>
      obtain ⟨e1,e2⟩:=List.cons.inj (by simpa using h3:w.x :: items r = a :: (us ++ y :: post))
      subst e1
      obtain ⟨t',e,g1,g2⟩:=ihr m (by omega) (by omega) hc.2.2 s2 us y post e2 hy1 hy2
      refine ⟨mk w l t',?_,?_,lj hc.2.1 g2⟩
      ·rw [e]
       simp only [Option.bind_some,jh]
      ·rw [gi,g1,h1]; simp
    ·exfalso
     cases vs with
     | nil=>
      have:w.x = y:=by simpa using (List.cons.inj (by simpa using h3)).1.symm
      rw [← this] at hy2; exact hy2 hx
     | cons b vs=>
      have hm:y ∈ items l:=by
       have:=(List.cons.inj (by simpa using h3:y :: post = b :: (vs ++ w.x :: items r))).1
       rw [h1,this]; simp
      exact hy2 (iU (s3 y hm) hx)
   ·rw [if_neg (by simpa using h')]
    have hn1:¬ lD f x w.x:=fun e=>h (hlt.2 e)
    have hn2:¬ lD f w.x x:=fun e=>h' (hgt.2 e)
    obtain ⟨t',e,g1,g2⟩:=pQ rt f k 20000 l r (by omega) hc.2.1 hc.2.2
    refine ⟨t',?_,?_,g2⟩
    ·unfold cw
     rw [e]; rfl
    ·rw [g1]
     rcases hl with ⟨us,h1,h3⟩ | ⟨vs,h1,h3⟩
     ·cases us with
      | nil=>
       obtain ⟨e1,e2⟩:=List.cons.inj (by simpa using h3:w.x :: items r = y :: post)
       rw [h1,e2]; simp
      | cons a us=>
       exfalso
       have hm:y ∈ items r:=by
        have:=(List.cons.inj (by simpa using h3:w.x :: items r = a :: (us ++ y :: post))).2
        rw [this]; simp
       have g:=s4 y hm
       unfold lD lk4 at *; omega
     ·cases vs with
      | nil=>
       obtain ⟨e1,e2⟩:=List.cons.inj (by simpa using h3:y :: post = w.x :: items r)
       rw [h1,e2]; simp
      | cons b vs=>
       exfalso
       have hm:y ∈ items l:=by
        have:=(List.cons.inj (by simpa using h3:y :: post = b :: (vs ++ w.x :: items r))).1
        rw [h1,this]; simp
       have g:=s3 y hm
       unfold lD lk4 at *; omega
def zE:entry:=⟨0,zB⟩
theorem get_aux (id:Int):∀ (t:T) (m:Nat),(items t).length < m → jB 50 (items t) →
  bn (iter m (fun n_1=>if (!n_1.c7) = true then (Option.bind (iI n_1) (fun nd_2=>if (decide (id = nd_2.1.x.id)) = true then (Option.bind (iI n_1) (fun nd_3=>some (.inr (.inr (nd_3.1.x,true))))) else (Option.bind (iI n_1) (fun nd_4=>if (decide (id < nd_4.1.x.id)) = true then (Option.bind (iI n_1) (fun nd_5=>some (.inl nd_5.2.1))) else (Option.bind (iI n_1) (fun nd_6=>some (.inl nd_6.2.2))))))) else (some (.inr (.inl ())))) t:Option (Unit ⊕ entry × Bool))
   (fun o=>(∃ x ∈ items t,x.id = id ∧ o = .inr (x,true)) ∨ (o = .inl () ∧ ∀ x ∈ items t,x.id ≠ id)):=by
 intro t
 induction t with
 | leaf=>
  intro m hm hs
  cases m with
  | zero=>omega
  | succ m=>
   rw [dx]
   exact ⟨.inl (),rfl,.inr ⟨rfl,by simp [items]⟩⟩
 | node w l r ihl ihr=>
  intro m hm hs
  cases m with
  | zero=>omega
  | succ m=>
  simp only [items,List.length_append,List.length_cons] at hm
  obtain ⟨s1,s2,s3,s4⟩:=nK hs
  rw [dx]
  simp only [cN.c7,Bool.not_false,if_true,iI,Option.bind_some]
  by_cases h:id = w.x.id
  ·rw [if_pos (by simpa using h)]
   exact ⟨.inr (w.x,true),rfl,.inl ⟨w.x,by simp [items],h.symm,rfl⟩⟩
  ·rw [if_neg (by simpa using h)]
   by_cases h2:id < w.x.id
   ·rw [if_pos (by simpa using h2)]
    refine (ihl m (by omega) s1).mono fun o ho=>?_
    rcases ho with ⟨x,hx,h3,h4⟩ | ⟨h3,h4⟩
    ·exact .inl ⟨x,by simp [items,hx],h3,h4⟩
    ·refine .inr ⟨h3,fun x hx=>?_⟩
     rcases List.mem_append.1 hx with hx | hx
     ·exact h4 x hx
     ·rcases List.mem_cons.1 hx with rfl | hx
      ·exact fun e=>h e.symm
      ·have:=(fJ _ _).1 (s4 x hx); omega
   ·rw [if_neg (by simpa using h2)]
    refine (ihr m (by omega) s2).mono fun o ho=>?_
    rcases ho with ⟨x,hx,h3,h4⟩ | ⟨h3,h4⟩
    ·exact .inl ⟨x,by simp [items,hx],h3,h4⟩
    ·refine .inr ⟨h3,fun x hx=>?_⟩
     rcases List.mem_append.1 hx with hx | hx
     ·have:=(fJ _ _).1 (s3 x hx); omega
     ·rcases List.mem_cons.1 hx with rfl | hx
      ·exact fun e=>h e.symm
      ·exact h4 x hx
structure fK (s:ca) (L:List entry):Prop where
 c1:s.ids.compare = 50
 c2:s.boxes.compare = 51
 k1:s.ids.key = 48
 k2:s.boxes.key = 48
 b1:s.ids.box = 49
 b2:s.boxes.box = 49
 it:items s.ids.root = L
 pm:(items s.boxes.root).Perm L
 s1:jB 50 L
 s2:jB 51 (items s.boxes.root)
 v1:oy s.ids.root
 v2:oy s.boxes.root
 vb:∀ x ∈ L,vB x.b = true
theorem tZ {s:ca} {L:List entry} (h:fK s L) (hL:L.length < 1000) (id:Int):(∃ x ∈ L,x.id = id ∧ cz 20000 s id = some (x,true)) ∨ (cz 20000 s id = some (zE,false) ∧ ∀ x ∈ L,x.id ≠ id):=by
 obtain ⟨o,ho,h1⟩:=get_aux id s.ids.root 20000 (by rw [h.it]; omega) (by rw [h.it]; exact h.s1)
 rw [h.it] at h1
 unfold cz
 rw [ho]
 rcases h1 with ⟨x,hx,h2,rfl⟩ | ⟨rfl,h2⟩
 ·exact .inl ⟨x,hx,h2,rfl⟩
 ·exact .inr ⟨rfl,h2⟩
theorem nj:∀ t:T,ny (fun _=>some true) t = some (items t)
 | .leaf=>rfl
 | .node a l r=>by
  rw [ny]
  simp only [Option.bind_some,if_true,nj l,nj r,items]
theorem nJ (b:bC):∀ t:T,oy t → ∃ ys,ny (fun t=>cm 20000 t b) t = some ys ∧ ys.filter (fun x=>mB x.b b) = (items t).filter (fun x=>mB x.b b) ∧ ys.length ≤ (items t).length
 | .leaf,_=>⟨[],rfl,rfl,by simp⟩
 | .node a l r,h=>by
  have hp:cm 20000 (.node a l r) b = some (mB a.cover b):=by
   unfold cm
   simp only [iI,Option.bind_some,pO]
  rw [ny,hp,Option.bind_some]
  by_cases hm:mB a.cover b = true
  ·rw [if_pos hm]
   obtain ⟨ys,e1,e2,e3⟩:=nJ b l h.2.1
   obtain ⟨zs,g1,g2,g3⟩:=nJ b r h.2.2
   rw [e1,g1]
   refine ⟨ys ++ a.x :: zs,rfl,?_,by simp [items]; omega⟩
   rw [items,List.filter_append,List.filter_append,e2,List.filter_cons,List.filter_cons,g2]
  ·rw [if_neg hm]
   refine ⟨[],rfl,?_,by simp⟩
   symm
   rw [List.filter_nil,List.filter_eq_nil_iff]
   exact fun x hx hx'=>hm (uK (h.1 x hx) hx')
theorem nv {α σ υ:Type} (B:σ → α → Option (σ ⊕ υ)) (f:σ → α → σ) (I:σ → List α → Prop) (hB:∀ s x l,I s (x :: l) → B s x = some (.inl (f s x)) ∧ I (f s x) l):∀ (l:List α) (s:σ),I s l → each B l s = some (.inl (l.foldl f s))
 | [],s,_=>rfl
 | x :: l,s,h=>by
  obtain ⟨h1,h2⟩:=hB s x l h
  unfold each
  rw [h1]
  exact nv B f I hB l _ h2
theorem oE {l m:List Int} (hp:l.Perm m) (hm:m.Pairwise (· ≤ ·)):sorted l = m :=
 List.Perm.eq_of_pairwise (fun a b _ _ h1 h2=>Int.le_antisymm h1 h2) (oV l) hm ((sorted_perm l).trans hp)
theorem srt_ids {L:List entry} (h:jB 50 L):(L.map (·.id)).Pairwise (· < ·):=by
 rw [List.pairwise_map]
 exact h.imp fun h=>(fJ _ _).1 h
def met (L:List entry) (b:bC):List Int:=(L.filter fun x=>mB x.b b).map (·.id)
theorem met_pw {L:List entry} (h:jB 50 L) (b:bC):(met L b).Pairwise (· < ·):=(srt_ids (h.filter _))
theorem sC {s:ca} {L:List entry} (h:fK s L) (hL:L.length < 1000) (b:bC):bW 20000 s b = some (met L b):=by
 obtain ⟨ys,e1,e2,e3⟩:=nJ b s.boxes.root h.v2
 have hpl:=h.pm.length_eq
 unfold bW
 rw [e1]
 simp only [Option.bind_some,pO]
 rw [nv _ (fun out x=>if mB x.b b = true then out ++ [x.id] else out) (fun s l=>s.length + l.length ≤ 1000) ?_ ys [] (by simp; omega)]
 ·have hf:∀ (l:List entry) (out:List Int),l.foldl (fun out x=>if mB x.b b = true then out ++ [x.id] else out) out = out ++ (l.filter fun x=>mB x.b b).map (·.id):=by
   intro l
   induction l with
   | nil=>intro out; simp
   | cons x l ih=>
    intro out
    rw [List.foldl_cons,ih,List.filter_cons]
    split
    ·simp
    ·rfl
  rw [hf,List.nil_append,e2]
  simp only [Option.bind_some,bZ]
  unfold eG nC
  have hp:(((items s.boxes.root).filter fun x=>mB x.b b).map (·.id)).Perm (met L b):=(h.pm.filter _).map _
  have hlen:(((items s.boxes.root).filter fun x=>mB x.b b).map (·.id)).length ≤ L.length:=by rw [List.length_map,← hpl]; exact List.length_filter_le _ _
  rw [if_pos (by omega),oE hp ((met_pw h.s1 b).imp Int.le_of_lt)]
  rfl
 ·intro s x l hs
  simp only [List.length_cons] at hs
  split
  ·rw [ja,if_pos (by simp; omega)]
   exact ⟨rfl,by simp; omega⟩
  ·exact ⟨rfl,by omega⟩
theorem sJ {s:ca} {L:List entry} (h:fK s L) (hL:L.length < 1000) (b:bC):bX 20000 s b = some (if vB b = true then (met L b,0) else ([],1)):=by
 unfold bX
 simp only [jW,Option.bind_some,sC h hL]
 cases vB b <;> rfl
theorem tO {s:ca} {L:List entry} (h:fK s L) (hL:L.length < 1000):c9 20000 s = some (L.map (·.id)):=by
 unfold c9
 rw [nj,h.it]
 simp only [Option.bind_some]
 rw [nv _ (fun out x=>out ++ [x.id]) (fun s l=>s.length + l.length ≤ 1000) ?_ L [] (by simp; omega)]
 ·have hf:∀ (l:List entry) (out:List Int),l.foldl (fun out x=>out ++ [x.id]) out = out ++ l.map (·.id):=by
   intro l
   induction l with
   | nil=>intro out; simp
   | cons x l ih=>intro out; rw [List.foldl_cons,ih]; simp
  rw [hf]; rfl
 ·intro s x l hs
  simp only [List.length_cons] at hs
  rw [ja,if_pos (by simp; omega)]
  exact ⟨rfl,by simp; omega⟩
def prs (L:List entry) (x:entry):List A2:=((met L x.b).filter fun z=>decide (x.id < z)).map fun z=>(⟨x.id,z⟩:A2)
def allP (L:List entry):List A2:=L.flatMap (prs L)
theorem pN (L:List entry) (b:bC):(met L b).length ≤ L.length:=by
 unfold met; rw [List.length_map]; exact List.length_filter_le _ _
theorem prs_len (L:List entry) (x:entry):(prs L x).length ≤ L.length:=by
 unfold prs; rw [List.length_map]; exact Nat.le_trans (List.length_filter_le _ _) (pN L x.b)
theorem ue {s:ca} {L:List entry} (h:fK s L) (hL:L.length < 1000):cg 20000 s = some (allP L):=by
 unfold cg
 rw [nj,h.it]
 simp only [Option.bind_some,sC h hL]
 rw [nv _ (fun out x=>out ++ prs L x) (fun s l=>s.length + l.length * 1000 ≤ 1000000) ?_ L [] (by simp; omega)]
 ·have hf:∀ (l:List entry) (out:List A2),l.foldl (fun out x=>out ++ prs L x) out = out ++ l.flatMap (prs L):=by
   intro l
   induction l with
   | nil=>intro out; simp
   | cons x l ih=>intro out; rw [List.foldl_cons,ih]; simp
  rw [hf]; rfl
 ·intro out0 x l hs
  simp only [List.length_cons] at hs
  have hp:=prs_len L x
  refine ⟨?_,by rw [List.length_append]; omega⟩
  have hm:=pN L x.b
  refine bn.eq ?_
  refine bn.bind (P:=fun r=>r = out0 ++ prs L x) ?_ (fun r hr=>by rw [hr]; exact bn.some rfl)
  refine bn.ea2 (l:=met L x.b) (G:=fun out=>out) (I:=fun pre out=>out = out0 ++ ((pre.filter fun z=>decide (x.id < z)).map fun z=>(⟨x.id,z⟩:A2))) (by omega) (by omega) (by simp) (fun pre z post out e hx hI=>?_) (fun out hI=>hI)
  rw [hx]
  simp only [Option.bind_some]
  have hlen:out.length ≤ out0.length + pre.length:=by rw [hI,List.length_append,List.length_map]; have:=List.length_filter_le (fun z=>decide (x.id < z)) pre; omega
  have hal:(met L x.b).length = pre.length + 1 + post.length:=by rw [e]; simp; omega
  by_cases hc:x.id < z
  ·rw [if_pos (by simpa using hc),ja,if_pos (by simp; omega)]
   exact ⟨_,rfl,.inl ⟨out ++ [⟨x.id,z⟩],rfl,by rw [hI,List.filter_append]; simp [hc]⟩⟩
  ·rw [if_neg (by simpa using hc)]
   exact ⟨_,rfl,.inl ⟨out,rfl,by rw [hI,List.filter_append]; simp [hc]⟩⟩
theorem s6 {f:Nat} (hf:f = 50 ∨ f = 51) {x y:entry} (hn:y.id ≠ x.id) (h:¬ lD f y x):lD f x y:=by
 rcases hf with rfl | rfl
 ·rw [fJ] at *; omega
 ·rw [ltE51] at *; omega
theorem sx {f:Nat} (x:entry):¬ lD f x x:=fun h=>pa h h
theorem q9 {f:Nat} {L M:List entry} (h1:jB f L) (h2:jB f M) (hp:L.Perm M):L = M :=
 List.Perm.eq_of_pairwise (fun a b _ _ h h'=>(pa h h').elim) h1 h2 hp
theorem uB (z:Int):∃ p,ff 20000 z = some p:=by
 unfold ff fj
 exact ⟨_,rfl⟩
theorem kf (x:entry):gC 20000 48 x = some (IntKind.u64.wrap x.id):=rfl
theorem wth (t:iJ) (x:entry) (a b n u w:T) (p:Int) (h1:eR 20000 t t.root x = some (a,b)) (h2:gC 20000 t.key x = some (IntKind.u64.wrap x.id)) (hp:ff 20000 (IntKind.u64.wrap x.id) = some p) (hm:a6 20000 t (.node ⟨x,p,⟨A3.zero,A3.zero⟩⟩ .leaf .leaf) .leaf .leaf = some n) (h3:cw 20000 t a n = some u) (h4:cw 20000 t u b = some w):bF 20000 t x = some ⟨w,t.compare,t.key,t.box⟩:=by
 unfold bF
 rw [h1,Option.bind_some]
 simp only [dn]
 rw [h2,Option.bind_some,hp,Option.bind_some,hm,Option.bind_some,h3,Option.bind_some,h4]
 rfl
theorem sj {f:Nat} (hf:f = 50 ∨ f = 51) {rt:T} {x:entry} (hc:oy rt) (hs:jB f (items rt)) (hn:∀ y ∈ items rt,y.id ≠ x.id) (hL:(items rt).length < 1000) :
  ∃ t',bF 20000 ⟨rt,f,48,49⟩ x = some ⟨t',f,48,49⟩ ∧ (items t').Perm (x :: items rt) ∧ jB f (items t') ∧ oy t':=by
 obtain ⟨a,b,e,h1,h2,h3,h4,h5⟩:=uq hf rt 48 x rt 20000 (by omega) hc hs
 have hlen:(items a).length + (items b).length = (items rt).length:=by rw [← h1,List.length_append]
 obtain ⟨p,hp⟩:=uB (IntKind.u64.wrap x.id)
 obtain ⟨n,hmk,hn1,hn2⟩:∃ n:T,a6 20000 ⟨rt,f,48,49⟩ (.node ⟨x,p,⟨A3.zero,A3.zero⟩⟩ .leaf .leaf) .leaf .leaf = some n ∧ items n = [x] ∧ oy n :=
  ⟨_,jh rt f 48 _ _ _ _ _,rfl,lj trivial trivial⟩
 obtain ⟨u,hu,u1,u2⟩:=pQ rt f 48 20000 a n (by rw [hn1]; simp; omega) h4 hn2
 obtain ⟨w,hw,w1,w2⟩:=pQ rt f 48 20000 u b (by rw [u1,hn1]; simp; omega) u2 h5
 refine ⟨w,?_,?_,?_,w2⟩
 ·exact wth ⟨rt,f,48,49⟩ x a b n u w p e (kf x) hp hmk hu hw
 ·rw [w1,u1,hn1,← h1]
  simp
 ·rw [w1,u1,hn1]
  rw [← h1] at hs hn
  unfold jB at *
  rw [List.pairwise_append] at hs
  have hx:∀ y ∈ items b,lD f x y:=fun y hy=>s6 hf (hn y (by simp [hy])) (h3 y hy)
  rw [List.append_assoc,List.pairwise_append]
  refine ⟨hs.1,?_,?_⟩
  ·show ([x] ++ items b).Pairwise _
   exact List.pairwise_cons.2 ⟨hx,hs.2.1⟩
  ·intro y hy z hz
   rcases List.mem_append.1 hz with hz | hz
   ·rw [List.mem_singleton] at hz; subst hz; exact h2 y hy
   ·exact hs.2.2 y hy z hz
theorem nX {f:Nat} (hf:f = 50 ∨ f = 51) {rt:T} {x:entry} (hc:oy rt) (hs:jB f (items rt)) (hx:x ∈ items rt) (hL:(items rt).length < 1000) :
  ∃ t',bq 20000 ⟨rt,f,48,49⟩ x = some ⟨t',f,48,49⟩ ∧ (x :: items t').Perm (items rt) ∧ jB f (items t') ∧ oy t':=by
 obtain ⟨pre,post,e⟩:=List.append_of_mem hx
 obtain ⟨t',h,h1,h2⟩:=sF hf rt 48 x rt 20000 (by omega) (by omega) hc hs pre x post e (sx x) (sx x)
 refine ⟨t',?_,?_,?_,h2⟩
 ·unfold bq fG
  rw [h]; rfl
 ·rw [h1,e]; exact List.perm_middle.symm
 ·rw [h1]
  rw [e] at hs
  unfold jB at *
  rw [List.pairwise_append,List.pairwise_cons] at hs
  rw [List.pairwise_append]
  exact ⟨hs.1,hs.2.1.2,fun y hy z hz=>hs.2.2 y hy z (by simp [hz])⟩
def pv (x:entry):List entry → List entry
 | []=>[x]
 | y :: l=>if x.id < y.id then x :: y :: l else y :: pv x l
def p7 (id:Int) (L:List entry):List entry:=L.filter fun y=>decide (y.id ≠ id)
theorem iV (x:entry):∀ L,(pv x L).Perm (x :: L)
 | []=>.refl _
 | y :: l=>by
  unfold pv
  split
  ·exact .refl _
  ·exact .trans (.cons y (iV x l)) (.swap x y l)
theorem qx {x y:entry} {L:List entry}:y ∈ pv x L ↔ y = x ∨ y ∈ L:=by rw [(iV x L).mem_iff,List.mem_cons]
theorem nR {x:entry}:∀ {L:List entry},jB 50 L → (∀ y ∈ L,y.id ≠ x.id) → jB 50 (pv x L)
 | [],_,_=>by simp [pv,jB]
 | y :: l,h,hn=>by
  have h1:=List.pairwise_cons.1 h
  unfold pv
  split
  ·next hc=>
   refine List.pairwise_cons.2 ⟨fun z hz=>?_,h⟩
   rcases List.mem_cons.1 hz with rfl | hz
   ·rw [fJ]; exact hc
   ·exact iU ((fJ _ _).2 hc) (h1.1 z hz)
  ·next hc=>
   have hne:=hn y (by simp)
   refine List.pairwise_cons.2 ⟨fun z hz=>?_,nR h1.2 fun z hz=>hn z (by simp [hz])⟩
   rcases qx.1 hz with rfl | hz
   ·rw [fJ]; omega
   ·exact h1.1 z hz
theorem qG {id:Int} {L:List entry} (h:jB 50 L):jB 50 (p7 id L):=h.filter _
theorem uN {id:Int} {L:List entry} {y:entry}:y ∈ p7 id L ↔ y ∈ L ∧ y.id ≠ id:=by unfold p7; simp
theorem pj {x:entry} {L:List entry} (h:jB 50 L) (hx:x ∈ L):(x :: p7 x.id L).Perm L:=by
 obtain ⟨pre,post,e⟩:=List.append_of_mem hx
 have e2:p7 x.id L = pre ++ post:=by
  have h':=h
  rw [e] at h'
  unfold jB at h'
  rw [List.pairwise_append,List.pairwise_cons] at h'
  unfold p7
  rw [e,List.filter_append,List.filter_cons]
  have a1:pre.filter (fun y=>decide (y.id ≠ x.id)) = pre:=List.filter_eq_self.2 fun y hy=>by
   have:=(fJ _ _).1 (h'.2.2 y hy x (by simp)); simp; omega
  have a2:post.filter (fun y=>decide (y.id ≠ x.id)) = post:=List.filter_eq_self.2 fun y hy=>by
   have:=(fJ _ _).1 (h'.2.1.1 y hy); simp; omega
  rw [a1,a2]; simp
 rw [e2,e]
 exact List.perm_middle.symm
theorem nm {t:iJ} {f:Nat} (h1:t.compare = f) (h2:t.key = 48) (h3:t.box = 49):t = ⟨t.root,f,48,49⟩:=by
 cases t; subst h1; subst h2; subst h3; rfl
theorem putN_ok {s:ca} {L:List entry} (h:fK s L) (hL:L.length < 1000) {x:entry} (hv:vB x.b = true) (hn:∀ y ∈ L,y.id ≠ x.id) :
  ∃ s':ca,bF 20000 s.ids x = some s'.ids ∧ bF 20000 s.boxes x = some s'.boxes ∧ fK s' (pv x L):=by
 obtain ⟨a,ha,a1,a2,a3⟩:=sj (f:=50) (.inl rfl) h.v1 (by rw [h.it]; exact h.s1) (x:=x) (by rw [h.it]; exact hn) (by rw [h.it]; exact hL)
 obtain ⟨b,hb,b1,b2,b3⟩:=sj (f:=51) (.inr rfl) h.v2 h.s2 (x:=x) (fun y hy=>hn y (h.pm.mem_iff.1 hy)) (by rw [h.pm.length_eq]; exact hL)
 rw [← nm h.c1 h.k1 h.b1] at ha
 rw [← nm h.c2 h.k2 h.b2] at hb
 refine ⟨⟨⟨a,50,48,49⟩,⟨b,51,48,49⟩⟩,ha,hb,⟨rfl,rfl,rfl,rfl,rfl,rfl,?_,?_,nR h.s1 hn,b2,a3,b3,?_⟩⟩
 ·rw [h.it] at a1
  exact q9 a2 (nR h.s1 hn) (a1.trans (iV x L).symm)
 ·exact b1.trans ((h.pm.cons x).trans (iV x L).symm)
 ·intro y hy
  rcases qx.1 hy with rfl | hy
  ·exact hv
  ·exact h.vb y hy
theorem Put_ok {s:ca} {L:List entry} (h:fK s L) (hL:L.length < 1000) (id:Int) (b:bC) :
  ∃ s' e,bj 20000 s id b = some (s',e) ∧ ((vB b = false ∧ e = 1) ∨ (vB b = true ∧ (∃ x ∈ L,x.id = id) ∧ e = 6) ∨ (vB b = true ∧ (∀ x ∈ L,x.id ≠ id) ∧ e = 0 ∧ fK s' (pv ⟨id,b⟩ L))):=by
 unfold bj
 rw [jW]
 cases hv:vB b
 ·exact ⟨_,_,rfl,.inl ⟨rfl,rfl⟩⟩
 ·simp only [Option.bind_some,Bool.not_true,Bool.false_eq_true,if_false]
  rcases tZ h hL id with ⟨x,hx,e,hg⟩ | ⟨hg,hn⟩
  ·rw [hg]
   exact ⟨_,_,rfl,.inr (.inl ⟨trivial,⟨x,hx,e⟩,rfl⟩)⟩
  ·rw [hg]
   obtain ⟨s',h1,h2,h3⟩:=putN_ok h hL (x:=⟨id,b⟩) hv hn
   simp only [Option.bind_some,dn,Bool.false_eq_true,if_false,h1,h2]
   exact ⟨_,_,rfl,.inr (.inr ⟨trivial,hn,rfl,h3⟩)⟩
theorem delN_ok {s:ca} {L:List entry} (h:fK s L) (hL:L.length < 1000) {x:entry} (hx:x ∈ L) :
  ∃ s':ca,bq 20000 s.ids x = some s'.ids ∧ bq 20000 s.boxes x = some s'.boxes ∧ fK s' (p7 x.id L):=by
 obtain ⟨a,ha,a1,a2,a3⟩:=nX (f:=50) (.inl rfl) h.v1 (by rw [h.it]; exact h.s1) (x:=x) (by rw [h.it]; exact hx) (by rw [h.it]; exact hL)
 obtain ⟨b,hb,b1,b2,b3⟩:=nX (f:=51) (.inr rfl) h.v2 h.s2 (x:=x) (h.pm.mem_iff.2 hx) (by rw [h.pm.length_eq]; exact hL)
 rw [← nm h.c1 h.k1 h.b1] at ha
 rw [← nm h.c2 h.k2 h.b2] at hb
 have hp:=pj h.s1 hx
 refine ⟨⟨⟨a,50,48,49⟩,⟨b,51,48,49⟩⟩,ha,hb,⟨rfl,rfl,rfl,rfl,rfl,rfl,?_,?_,qG h.s1,b2,a3,b3,?_⟩⟩
 ·rw [h.it] at a1
  exact q9 a2 (qG h.s1) (List.perm_cons x |>.1 (a1.trans hp.symm))
 ·exact List.perm_cons x |>.1 ((b1.trans h.pm).trans hp.symm)
 ·intro y hy
  exact h.vb y (uN.1 hy).1
theorem ti {s:ca} {L:List entry} (h:fK s L) (hL:L.length < 1000) (id:Int) :
  ∃ s' e,bN 20000 s id = some (s',e) ∧ (((∀ x ∈ L,x.id ≠ id) ∧ e = 5) ∨ ((∃ x ∈ L,x.id = id) ∧ e = 0 ∧ fK s' (p7 id L))):=by
 unfold bN
 rcases tZ h hL id with ⟨x,hx,e,hg⟩ | ⟨hg,hn⟩
 ·rw [hg]
  obtain ⟨s',h1,h2,h3⟩:=delN_ok h hL hx
  simp only [Option.bind_some,dn,Bool.not_true,Bool.false_eq_true,if_false,h1,h2]
  rw [e] at h3
  exact ⟨_,_,rfl,.inr ⟨⟨x,hx,e⟩,rfl,h3⟩⟩
 ·rw [hg]
  exact ⟨_,_,rfl,.inl ⟨hn,rfl⟩⟩
theorem new_ok:fK (⟨⟨.leaf,50,48,49⟩,⟨.leaf,51,48,49⟩⟩:ca) [] :=
 ⟨rfl,rfl,rfl,rfl,rfl,rfl,rfl,.refl _,.nil,.nil,trivial,trivial,by simp⟩
def wpre (x:entry):List entry → List entry × Bool
 | []=>([],false)
 | y :: l=>if x.id < y.id then (x :: y :: l,true) else let r:=wpre x l; (y :: r.1,r.2)
def gw:List entry → List A2
 | []=>[]
 | x :: l=>((l.filter fun y=>mB x.b y.b).map fun y=>(⟨x.id,y.id⟩:A2)) ++ gw l
theorem pn:∀ L:List entry,(gw L).length ≤ L.length * L.length
 | []=>by simp [gw]
 | x :: l=>by
  unfold gw
  have h:=pn l
  have h2:=List.length_filter_le (fun y=>mB x.b y.b) l
  simp only [List.length_append,List.length_map,List.length_cons]
  have:(l.length + 1) * (l.length + 1) = l.length * l.length + 2 * l.length + 1:=by grind
  omega
theorem ly (x:entry) (l:List entry):gw (x :: l) = ((l.filter fun y=>mB x.b y.b).map fun y=>(⟨x.id,y.id⟩:A2)) ++ gw l:=rfl
theorem allP_eq {L:List entry} (h:jB 50 L):allP L = gw L:=by
 have key:∀ (q pre:List entry),L = pre ++ q → q.flatMap (prs L) = gw q:=by
  intro q
  induction q with
  | nil=>intro pre _; rfl
  | cons x l ih=>
   intro pre e
   rw [List.flatMap_cons,ih (pre ++ [x]) (by rw [e]; simp),ly]
   congr 1
   have h':=h
   rw [e] at h'
   unfold jB at h'
   rw [List.pairwise_append,List.pairwise_cons] at h'
   unfold prs met
   rw [e,List.filter_append,List.map_append,List.filter_append,List.filter_cons]
   have a1:((pre.filter fun y=>mB y.b x.b).map (·.id)).filter (fun z=>decide (x.id < z)) = []:=by
    rw [List.filter_eq_nil_iff]
    intro z hz
    obtain ⟨y,hy,rfl⟩:=List.mem_map.1 hz
    have:=(fJ _ _).1 (h'.2.2 y (List.mem_filter.1 hy).1 x (by simp))
    simp; omega
   have a2:∀ b:Bool,((if b = true then x :: l.filter (fun y=>mB y.b x.b) else l.filter (fun y=>mB y.b x.b)).map (·.id)).filter (fun z=>decide (x.id < z)) = (l.filter fun y=>mB x.b y.b).map (·.id):=by
    have a3:((l.filter fun y=>mB y.b x.b).map (·.id)).filter (fun z=>decide (x.id < z)) = (l.filter fun y=>mB x.b y.b).map (·.id):=by
     rw [List.filter_eq_self.2,List.filter_congr (q:=fun y=>mB x.b y.b) fun y _=>np y.b x.b]
     intro z hz
     obtain ⟨y,hy,rfl⟩:=List.mem_map.1 hz
     have:=(fJ _ _).1 (h'.2.1.1 y (List.mem_filter.1 hy).1)
     simp; omega
    intro b
    cases b
    ·exact a3
    ·simp only [if_true,List.map_cons,List.filter_cons,show decide (x.id < x.id) = false by simp,Bool.false_eq_true,if_false]
     exact a3
   rw [a1,a2,List.nil_append,List.map_map]
   rfl
 exact key L [] rfl
theorem swo_key (f:Int → Int):Go.Sort.SWO fun x y=>decide (f x < f y) :=
 ⟨fun x=>by simp,fun x y z h1 h2=>by simp only [decide_eq_true_eq] at *; omega,fun x y z h1 h2=>by simp only [decide_eq_false_iff_not] at *; omega⟩
theorem sS (f:Int → Int) (zs:List Int):(gp (fun x y=>decide (f x < f y)) zs).Perm zs ∧ (gp (fun x y=>decide (f x < f y)) zs).Pairwise fun x y=>f x ≤ f y:=by
 unfold gp
 split
 ·next h=>subst h; exact ⟨.refl _,.nil⟩
 ·obtain ⟨⟨h1,_,h2⟩,h3⟩:=Go.Sort.pdq_sorts _ (swo_key f) zs.toArray 0 zs.toArray.size (Go.Lib.bitLen zs.toArray.size) true true (Nat.zero_le _) (Nat.le_refl _) (.inl rfl)
  generalize Go.Sort.pdq _ zs.toArray 0 zs.toArray.size (Go.Lib.bitLen zs.toArray.size) true true = d at *
  constructor
  ·rw [← h1,Array.extract_size,h1,Array.extract_size] at h2
   exact h2
  ·rw [List.pairwise_iff_getElem]
   intro i j hi hj hij
   have:=h3 i j (Nat.zero_le _) hij (by rw [← h1]; simpa using hj)
   simp only [decide_eq_false_iff_not] at this
   simp only [Array.length_toList] at hi hj
   rw [getElem!_pos d i hi,getElem!_pos d j hj] at this
   simp only [Array.getElem_toList]
   omega
def bx (l:List bC) (k:Int):bC:=idx l k
theorem sH {l:List bC} {z:Int} (h0:0 ≤ z) (h1:z < l.length):gz l z = (bx l z).Lo.a0:=by
 unfold gz bx idx
 congr 2
 rw [Nat.min_eq_left (by omega)]
def dead (l:List bC) (i k:Int):Bool:=decide ((bx l k).Hi.a0 < (bx l i).Lo.a0)
theorem oY {l:List bC} {i k:Int} (i0:0 ≤ i) (i1:i < l.length) (k0:0 ≤ k) (k1:k < l.length):dc 20000 k l i = some (dead l i k):=by
 unfold dc
 rw [fv k0 k1,fv i0 i1]; rfl
theorem uI {l:List bC} {i:Int} {s:List Int} (hs:s.length < 1900) (i0:0 ≤ i) (i1:i < l.length) (h:∀ k ∈ s,0 ≤ k ∧ k < l.length) :
  bn (cJ 20000 s (l,i)) fun r=>(r = -1 ∧ ∀ k ∈ s,dead l i k = false) ∨ ∃ pre x post,s = pre ++ x :: post ∧ r = pre.length ∧ (∀ k ∈ pre,dead l i k = false) ∧ dead l i x = true:=by
 unfold cJ
 refine bn.bind (P:=fun o=>(o = .inl () ∧ ∀ k ∈ s,dead l i k = false) ∨ ∃ pre x post,s = pre ++ x :: post ∧ o = .inr (pre.length:Int) ∧ (∀ k ∈ pre,dead l i k = false) ∧ dead l i x = true) ?_ ?_
 ·refine bn.ea1 (l:=s) (I:=fun pre=>∀ k ∈ pre,dead l i k = false) (by omega) (by omega) (by simp) (fun pre x post e hx hI=>?_) (fun hI=>.inl ⟨rfl,hI⟩)
  have hm:=h x (by rw [e]; simp)
  rw [hx]
  simp only [Option.bind_some,oY i0 i1 hm.1 hm.2]
  cases hd:dead l i x
  ·refine bn.some (.inl ⟨rfl,fun k hk=>?_⟩)
   rcases List.mem_append.1 hk with hk | hk
   ·exact hI k hk
   ·rw [List.mem_singleton] at hk; subst hk; exact hd
  ·exact bn.some (.inr ⟨_,rfl,.inr ⟨pre,x,post,e,rfl,hI,hd⟩⟩)
 ·rintro o (⟨rfl,h1⟩ | ⟨pre,x,post,h1,rfl,h2,h3⟩)
  ·exact bn.some (.inl ⟨rfl,h1⟩)
  ·exact bn.some (.inr ⟨pre,x,post,h1,rfl,h2,h3⟩)
theorem te {l:List bC} {i:Int} {s:List Int} (hs:s.length < 1900) (i0:0 ≤ i) (i1:i < l.length) (h:∀ k ∈ s,0 ≤ k ∧ k < l.length) :
  cR 20000 (l,i) s = some (s.filter fun k=>!dead l i k):=by
 refine bn.eq ?_
 unfold cR
 refine bn.bind (uI hs i0 i1 h) ?_
 rintro r (⟨rfl,h1⟩ | ⟨pre,x,post,h1,rfl,h2,h3⟩)
 ·rw [if_pos (by decide)]
  exact bn.some (List.filter_eq_self.2 fun k hk=>by rw [h1 k hk]; rfl).symm
 ·rw [if_neg (by simp)]
  have hlen:s.length = pre.length + 1 + post.length:=by rw [h1]; simp; omega
  refine bn.bind (P:=fun o=>o.1.length = s.length ∧ o.2 = ((s.filter fun k=>!dead l i k).length:Int) ∧ o.1.take o.2.toNat = s.filter fun k=>!dead l i k) ?_ ?_
  ·refine bn.rounds (n:=post.length) (I:=fun k st=>k ≤ post.length ∧ st.2.2 = ((pre.length + 1 + k:Nat):Int) ∧ st.1.length = s.length ∧ st.1.drop (pre.length + 1 + k) = s.drop (pre.length + 1 + k) ∧ st.2.1 = (((s.take (pre.length + 1 + k)).filter fun k=>!dead l i k).length:Int) ∧ st.1.take st.2.1.toNat = (s.take (pre.length + 1 + k)).filter fun k=>!dead l i k) (by omega) ?_ ?_
   ·have e1:s.take (pre.length + 1) = pre ++ [x]:=by rw [h1,show pre ++ x :: post = (pre ++ [x]) ++ post by simp,List.take_left' (by simp)]
    have e2:(pre ++ [x]).filter (fun k=>!dead l i k) = pre:=by
     rw [List.filter_append,List.filter_eq_self.2 fun k hk=>by rw [h2 k hk]; rfl]
     simp [h3]
    refine ⟨Nat.zero_le _,?_,rfl,rfl,?_,?_⟩
    ·show IntKind.i64.wrap ((pre.length:Int) + 1) = _
     rw [kP (by omega) (by omega)]; push_cast; omega
    ·rw [Nat.add_zero,e1,e2]
    ·rw [Nat.add_zero,e1,e2]
     show s.take ((pre.length:Int)).toNat = pre
     rw [Int.toNat_natCast,h1,List.take_left]
   ·rintro k ⟨t,a,j⟩ hk ⟨hk',hj,hl,hd,ha,ht⟩
    simp only at hj hl hd ha ht
    subst hj
    simp only [tj,dn]
    by_cases hc:k < post.length
    ·rw [if_pos (by simp only [decide_eq_true_eq]; omega)]
     have hjl:pre.length + 1 + k < s.length:=by omega
     obtain ⟨y,hy⟩:∃ y,s[pre.length + 1 + k] = y:=⟨_,rfl⟩
     have hty:t[pre.length + 1 + k]'(by omega) = y:=by
      have:=congrArg (fun z=>z[0]?) hd
      simp only [List.getElem?_drop,Nat.add_zero] at this
      rw [List.getElem?_eq_getElem (by omega),List.getElem?_eq_getElem hjl] at this
      rw [← hy]; exact Option.some.inj this
     have hm:y ∈ s:=by rw [← hy]; exact List.getElem_mem _
     have hmb:=h y hm
     have hix:bg t ((pre.length + 1 + k:Nat):Int) = some y:=by
      rw [fv (by omega) (by omega),kx _ _ (by omega),hty]
     rw [hix]
     simp only [Option.bind_some,oY i0 i1 hmb.1 hmb.2]
     have hts:s.take (pre.length + 1 + (k + 1)) = s.take (pre.length + 1 + k) ++ [y]:=by
      rw [show pre.length + 1 + (k + 1) = (pre.length + 1 + k) + 1 by omega,List.take_succ_eq_append_getElem hjl,hy]
     have hfl:((s.take (pre.length + 1 + k)).filter fun k=>!dead l i k).length ≤ pre.length + 1 + k:=by
      have:=List.length_filter_le (fun k=>!dead l i k) (s.take (pre.length + 1 + k))
      rw [List.length_take] at this; omega
     have hw:IntKind.i64.wrap (((pre.length + 1 + k:Nat):Int) + 1) = ((pre.length + 1 + (k + 1):Nat):Int):=by rw [kP (by omega) (by omega)]; push_cast; omega
     have hdr:t.drop (pre.length + 1 + (k + 1)) = s.drop (pre.length + 1 + (k + 1)):=by
      have:=congrArg (List.drop 1) hd
      rw [List.drop_drop,List.drop_drop] at this
      exact this
     cases hde:dead l i y
     ·simp only [Bool.not_false,if_true]
      have hat:a.toNat < t.length:=by omega
      rw [fv (by omega) (by omega)]
      simp only [Option.bind_some]
      rw [hw]
      have hlst:((s.take (pre.length + 1 + k)).filter fun k=>!dead l i k).length = a.toNat:=by omega
      refine bn.some (.inl ⟨_,rfl,⟨by omega,rfl,?_,?_,?_,?_⟩,hc⟩)
      ·simp only [List.length_set]; exact hl
      ·simp only
       rw [List.drop_set,if_pos (by omega)]; exact hdr
      ·simp only
       rw [hts,List.filter_append,List.length_append,kP (by omega) (by omega),ha]
       simp [hde]
      ·simp only
       rw [hts,List.filter_append,← ht,kP (by omega) (by omega)]
       rw [show (a + 1).toNat = a.toNat + 1 by omega,List.take_succ_eq_append_getElem (by rw [List.length_set]; exact hat)]
       rw [List.getElem_set_self,List.take_set,List.set_eq_of_length_le (by rw [List.length_take]; omega)]
       simp [hde]
     ·simp only [Bool.not_true,Bool.false_eq_true,if_false,Option.bind_some]
      rw [hw]
      refine bn.some (.inl ⟨_,rfl,⟨by omega,rfl,hl,hdr,?_,?_⟩,hc⟩)
      ·simp only
       rw [hts,List.filter_append,ha]; simp [hde]
      ·simp only
       rw [hts,List.filter_append,← ht]; simp [hde]
    ·rw [if_neg (by simp only [decide_eq_true_eq]; omega)]
     have e3:s.take (pre.length + 1 + k) = s:=List.take_of_length_le (by omega)
     rw [e3] at ha ht
     exact bn.some (.inr ⟨_,rfl,hl,ha,ht⟩)
  ·rintro ⟨t,a⟩ ⟨g1,g2,g3⟩
   simp only at g1 g2 g3
   simp only [dn]
   have hfl:(s.filter fun k=>!dead l i k).length ≤ s.length:=List.length_filter_le _ _
   rw [tw,if_pos (by omega)]
   simp only [Option.bind_some]
   rw [mP,if_pos (by simp only [List.length_append,List.length_take,List.length_replicate]; omega)]
   refine bn.some ?_
   rw [List.take_left' (by rw [List.length_take]; omega),g3]
def eV:Nat → List bC → List entry
 | _,[]=>[]
 | k,b :: l=>⟨k,b⟩ :: eV (k + 1) l
def eE (l:List bC):List entry:=eV 0 l
theorem oi (k:Nat) (b:bC) (l:List bC):eV k (b :: l) = ⟨k,b⟩ :: eV (k + 1) l:=rfl
theorem iW:∀ (k:Nat) (l:List bC),(eV k l).length = l.length
 | _,[]=>rfl
 | k,b :: l=>by simp [eV,iW (k + 1) l]
theorem ph:∀ (k:Nat) (a b:List bC),eV k (a ++ b) = eV k a ++ eV (k + a.length) b
 | k,[],b=>by simp [eV]
 | k,x :: a,b=>by
  simp only [List.cons_append,eV,ph (k + 1) a b,List.length_cons]
  rw [show k + 1 + a.length = k + (a.length + 1) by omega]
theorem kH {x:entry}:∀ {k:Nat} {l:List bC},x ∈ eV k l ↔ ∃ j,∃ h:j < l.length,x = ⟨((k + j:Nat):Int),l[j]⟩
 | k,[]=>by simp [eV]
 | k,b :: l=>by
  rw [oi,List.mem_cons,kH (k:=k + 1) (l:=l)]
  constructor
  ·rintro (rfl | ⟨j,h,rfl⟩)
   ·exact ⟨0,by simp,rfl⟩
   ·exact ⟨j + 1,by simp; omega,by simp [show k + 1 + j = k + (j + 1) by omega]⟩
  ·rintro ⟨j,h,rfl⟩
   cases j with
   | zero=>exact .inl rfl
   | succ j=>exact .inr ⟨j,by simpa using h,by simp [show k + 1 + j = k + (j + 1) by omega]⟩
theorem lV {l:List bC} {x:entry}:x ∈ eE l ↔ 0 ≤ x.id ∧ x.id < l.length ∧ x.b = bx l x.id:=by
 unfold eE
 rw [kH]
 constructor
 ·rintro ⟨j,h,rfl⟩
  refine ⟨by simp,by simpa using h,?_⟩
  show l[j] = idx l _
  rw [Nat.zero_add,kx _ _ h]
 ·rintro ⟨h0,h1,h2⟩
  obtain ⟨i,b⟩:=x
  simp only at h0 h1 h2
  refine ⟨i.toNat,by omega,?_⟩
  rw [h2]
  unfold bx
  obtain ⟨j,rfl⟩:∃ j:Nat,i = j:=⟨i.toNat,by omega⟩
  rw [kx _ _ (by omega)]
  simp
theorem pg:∀ (k:Nat) (l:List bC),jB 50 (eV k l)
 | _,[]=>.nil
 | k,b :: l=>by
  rw [oi]
  refine List.pairwise_cons.2 ⟨fun z hz=>?_,pg (k + 1) l⟩
  obtain ⟨j,h,rfl⟩:=kH.1 hz
  rw [fJ]
  show (k:Int) < ((k + 1 + j:Nat):Int)
  omega
theorem iN (l:List bC):jB 50 (eE l):=pg 0 l
theorem mG {p:A2}:∀ {L:List entry},jB 50 L → (p ∈ gw L ↔ ∃ x ∈ L,∃ y ∈ L,x.id < y.id ∧ mB x.b y.b = true ∧ p = ⟨x.id,y.id⟩)
 | [],_=>by simp [gw]
 | z :: l,h=>by
  have h1:=List.pairwise_cons.1 h
  rw [ly,List.mem_append,mG h1.2]
  constructor
  ·rintro (hp | ⟨x,hx,y,hy,h2⟩)
   ·obtain ⟨y,hy,rfl⟩:=List.mem_map.1 hp
    rw [List.mem_filter] at hy
    exact ⟨z,by simp,y,by simp [hy.1],(fJ _ _).1 (h1.1 y hy.1),hy.2,rfl⟩
   ·exact ⟨x,by simp [hx],y,by simp [hy],h2⟩
  ·rintro ⟨x,hx,y,hy,h2,h3,rfl⟩
   rcases List.mem_cons.1 hx with rfl | hx
   ·rcases List.mem_cons.1 hy with rfl | hy
    ·omega
    ·exact .inl (List.mem_map.2 ⟨y,List.mem_filter.2 ⟨hy,h3⟩,rfl⟩)
   ·rcases List.mem_cons.1 hy with h5 | hy
    ·have:=(fJ _ _).1 (h1.1 x hx); rw [h5] at h2; omega
    ·exact .inr ⟨x,hx,y,hy,h2,h3,rfl⟩
def ltP (a b:A2):Prop:=a.a0 < b.a0 ∨ (a.a0 = b.a0 ∧ a.a1 < b.a1)
theorem nT:∀ {L:List entry},jB 50 L → (gw L).Pairwise ltP
 | [],_=>.nil
 | z :: l,h=>by
  have h1:=List.pairwise_cons.1 h
  rw [ly,List.pairwise_append]
  refine ⟨?_,nT h1.2,?_⟩
  ·rw [List.pairwise_map]
   refine (h1.2.filter _).imp fun h=>.inr ⟨rfl,(fJ _ _).1 h⟩
  ·intro a ha b hb
   obtain ⟨y,hy,rfl⟩:=List.mem_map.1 ha
   obtain ⟨x,hx,w,_,_,_,rfl⟩:=(mG h1.2).1 hb
   exact .inl ((fJ _ _).1 (h1.1 x hx))
theorem qW {L:List entry} (h:jB 50 L):(gw L).Nodup:=(nT h).imp fun h e=>by subst e; unfold ltP at h; omega
theorem uH {out m:List A2} (hp:out.Perm m) (hm:m.Pairwise ltP):isA out = m :=
 List.Perm.eq_of_pairwise (fun a b _ _ h1 h2=>qu h1 h2) (rj out) (hm.imp fun h=>(ns _ _).2 (by unfold ltP at h; omega)) ((nQ out).trans hp)
theorem qS {l:List bC} (hl:l.length < 1900):cD 20000 l 41 = some (l.any fun b=>!vB b):=by
 refine bn.eq ?_
 unfold cD dJ
 refine bn.bind (P:=fun r=>decide (0 ≤ r) = l.any fun b=>!vB b) ?_ (fun r hr=>bn.some hr)
 refine bn.bind (P:=fun o=>(o = .inl () ∧ ∀ b ∈ l,vB b = true) ∨ ∃ i:Int,o = .inr i ∧ 0 ≤ i ∧ ∃ b ∈ l,vB b = false) ?_ ?_
 ·refine bn.ea1 (l:=l) (I:=fun pre=>∀ b ∈ pre,vB b = true) (by omega) (by omega) (by simp) (fun pre x post e hx hI=>?_) (fun hI=>.inl ⟨rfl,hI⟩)
  rw [hx]
  simp only [Option.bind_some,iP,eJ,if_true,jW]
  cases hv:vB x
  ·exact bn.some (.inr ⟨_,rfl,.inr ⟨_,rfl,by omega,x,by rw [e]; simp,hv⟩⟩)
  ·refine bn.some (.inl ⟨rfl,fun b hb=>?_⟩)
   rcases List.mem_append.1 hb with hb | hb
   ·exact hI b hb
   ·rw [List.mem_singleton] at hb; subst hb; exact hv
 ·rintro o (⟨rfl,h⟩ | ⟨i,rfl,h0,b,hb,hv⟩)
  ·refine bn.some ?_
   symm
   rw [show decide ((0:Int) ≤ -1) = false from rfl,List.any_eq_false]
   intro b hb; simp [h b hb]
  ·refine bn.some ?_
   symm
   rw [decide_eq_true h0,List.any_eq_true]
   exact ⟨b,hb,by simp [hv]⟩
def up (n:Nat):List Int:=(List.range n).map fun k:Nat=>(k:Int)
theorem tF {n:Nat} {k:Int}:k ∈ up n ↔ 0 ≤ k ∧ k < n:=by
 unfold up
 rw [List.mem_map]
 constructor
 ·rintro ⟨j,hj,rfl⟩
  rw [List.mem_range] at hj; omega
 ·intro h
  exact ⟨k.toNat,by rw [List.mem_range]; omega,by omega⟩
theorem up_succ (n:Nat):up (n + 1) = up n ++ [(n:Int)]:=by unfold up; rw [List.range_succ,List.map_append]; rfl
theorem tG (n:Nat):(up n).length = n:=by unfold up; simp
theorem uj (n:Nat):(up n).Nodup:=by
 unfold up
 rw [List.Nodup,List.pairwise_map]
 exact List.nodup_range.imp fun h=>by omega
theorem fill_ok (n:Nat) (hn:n < 1900):iter 20000 (dn fun order_4 x_5=>if (decide (x_5 < ((List.replicate n (0:Int)).length:Int))) = true then (Option.bind (bg order_4 x_5) (fun x_7=>some (.inl (order_4.set (x_5:Int).toNat x_5,IntKind.i64.wrap (x_5 + 1))))) else (some (.inr order_4))) (List.replicate n (0:Int),0) = some (up n):=by
 refine bn.eq ?_
 refine bn.ea2 (l:=List.replicate n (0:Int)) (G:=fun a=>a) (I:=fun pre a=>a = up pre.length ++ List.replicate (n - pre.length) 0) (by simp; omega) (by simp; omega) (by simp [up]) (fun pre x post a e hx hI=>?_) (fun a hI=>?_)
 ·have hal:n = pre.length + 1 + post.length:=by
   have:=congrArg List.length e
   simp at this; omega
  have hul:=tG pre.length
  subst hI
  rw [fv (by omega) (by simp only [List.length_append,hul,List.length_replicate]; omega)]
  simp only [Option.bind_some,Int.toNat_natCast]
  refine bn.some (.inl ⟨_,rfl,?_⟩)
  rw [List.length_append,List.length_singleton,up_succ,List.set_append_right _ _ (by omega),hul,Nat.sub_self]
  rw [show n - pre.length = (n - (pre.length + 1)) + 1 by omega,List.replicate_succ,List.set_cons_zero]
  simp
 ·rw [hI]; simp
def r5 (i k:Int):A2:=⟨min i k,max i k⟩
structure Swp (l:List bC) (pre active:List Int) (out:List A2):Prop where
 sub:∀ k ∈ active,k ∈ pre
 nd:active.Nodup
 gone:∀ k ∈ pre,k ∉ active → ∃ m ∈ pre,(bx l k).Hi.a0 < (bx l m).Lo.a0
 ond:out.Nodup
 om:∀ p,p ∈ out ↔ ∃ i ∈ pre,∃ k ∈ pre,i < k ∧ mB (bx l i) (bx l k) = true ∧ p = ⟨i,k⟩
theorem mB_lo {a b:bC} (h:mB a b = true):b.Lo.a0 ≤ a.Hi.a0:=((px a b).1 h).1
theorem prP_inj {i k m:Int} (hk:k ≠ i) (hm:m ≠ i) (h:r5 i k = r5 i m):k = m:=by
 unfold r5 at h
 simp only [A2.mk.injEq] at h
 omega
theorem uo {l:List bC} {pre active:List Int} {out:List A2} (h:Swp l pre active out) {i:Int} (hi:i ∉ pre) (hs:∀ m ∈ pre,(bx l m).Lo.a0 ≤ (bx l i).Lo.a0) :
  Swp l (pre ++ [i]) ((active.filter fun k=>!dead l i k) ++ [i]) (out ++ ((active.filter fun k=>!dead l i k).filter fun k=>mB (bx l i) (bx l k)).map (r5 i)):=by
 have hne:∀ k ∈ active,k ≠ i:=fun k hk e=>hi (e ▸ h.sub k hk)
 refine ⟨?_,?_,?_,?_,?_⟩
 ·intro k hk
  rcases List.mem_append.1 hk with hk | hk
  ·exact List.mem_append.2 (.inl (h.sub k (List.mem_filter.1 hk).1))
  ·exact List.mem_append.2 (.inr hk)
 ·rw [List.nodup_append]
  refine ⟨h.nd.filter _,by simp,?_⟩
  intro a ha b hb
  rw [List.mem_singleton] at hb; subst hb
  exact hne a (List.mem_filter.1 ha).1
 ·intro k hk hna
  rw [List.mem_append,not_or] at hna
  rcases List.mem_append.1 hk with hk | hk
  ·by_cases ha:k ∈ active
   ·refine ⟨i,by simp,?_⟩
    have h1:dead l i k = true:=by
     cases hd:dead l i k
     ·exact absurd (List.mem_filter.2 ⟨ha,by simp [hd]⟩) hna.1
     ·rfl
    simpa [dead] using h1
   ·obtain ⟨m,hm,h2⟩:=h.gone k hk ha
    exact ⟨m,by simp [hm],h2⟩
  ·exact absurd hk hna.2
 ·rw [List.nodup_append]
  refine ⟨h.ond,?_,?_⟩
  ·rw [List.Nodup,List.pairwise_map]
   refine List.Pairwise.imp_of_mem (fun {a b} ha hb hab=>?_) ((h.nd.filter fun k=>!dead l i k).filter fun k=>mB (bx l i) (bx l k))
   have ha':=hne a (List.mem_filter.1 (List.mem_filter.1 ha).1).1
   have hb':=hne b (List.mem_filter.1 (List.mem_filter.1 hb).1).1
   exact fun e=>hab (prP_inj ha' hb' e)
  ·intro p hp q hq e
   subst e
   obtain ⟨a,ha,b,hb,_,_,rfl⟩:=(h.om _).1 hp
   obtain ⟨k,hk,e⟩:=List.mem_map.1 hq
   unfold r5 at e
   simp only [A2.mk.injEq] at e
   have:i = a ∨ i = b:=by omega
   rcases this with rfl | rfl
   ·exact hi ha
   ·exact hi hb
 ·intro p
  rw [List.mem_append,h.om,List.mem_map]
  constructor
  ·rintro (⟨a,ha,b,hb,h1⟩ | ⟨k,hk,rfl⟩)
   ·exact ⟨a,by simp [ha],b,by simp [hb],h1⟩
   ·rw [List.mem_filter,List.mem_filter] at hk
    have hkp:=h.sub k hk.1.1
    have hki:=hne k hk.1.1
    by_cases hlt:i < k
    ·exact ⟨i,by simp,k,by simp [hkp],hlt,hk.2,by unfold r5; simp only [A2.mk.injEq]; omega⟩
    ·exact ⟨k,by simp [hkp],i,by simp,by omega,by rw [np]; exact hk.2,by unfold r5; simp only [A2.mk.injEq]; omega⟩
  ·rintro ⟨a,ha,b,hb,h1,h2,rfl⟩
   have key:∀ k,k ∈ pre → mB (bx l i) (bx l k) = true → ∃ z,z ∈ (active.filter fun k=>!dead l i k).filter (fun k=>mB (bx l i) (bx l k)) ∧ r5 i z = r5 i k:=by
    intro k hk hm
    have hlo:=mB_lo (a:=bx l k) (b:=bx l i) (by rw [np]; exact hm)
    have hact:k ∈ active:=by
     by_cases hc:k ∈ active
     ·exact hc
     ·obtain ⟨m,hm1,hm2⟩:=h.gone k hk hc
      have:=hs m hm1
      omega
    refine ⟨k,List.mem_filter.2 ⟨List.mem_filter.2 ⟨hact,?_⟩,hm⟩,rfl⟩
    simp [dead]; omega
   rcases List.mem_append.1 ha with ha1 | ha1 <;> rcases List.mem_append.1 hb with hb1 | hb1
   ·exact .inl ⟨a,ha1,b,hb1,h1,h2,rfl⟩
   ·rw [List.mem_singleton] at hb1; subst hb1
    obtain ⟨z,hz,e⟩:=key a ha1 (by rw [np]; exact h2)
    refine .inr ⟨z,hz,e.trans ?_⟩
    unfold r5; simp only [A2.mk.injEq]; omega
   ·rw [List.mem_singleton] at ha1; subst ha1
    obtain ⟨z,hz,e⟩:=key b hb1 h2
    refine .inr ⟨z,hz,e.trans ?_⟩
    unfold r5; simp only [A2.mk.injEq]; omega
   ·rw [List.mem_singleton] at ha1 hb1; omega
theorem uR (l:List bC) (hl:l.length < 1000):cV 20000 l = some (if (l.any fun b=>!vB b) = true then ([],1) else (gw (eE l),0)):=by
 refine bn.eq ?_
 unfold cV
 refine bn.gx (qS (by omega)) ?_
 cases hv:l.any fun b=>!vB b
 ·rw [if_neg (by decide),if_neg (by decide)]
  refine bn.gx (x:=List.replicate l.length (0:Int)) (by rw [mk?,if_pos (by omega),Int.toNat_natCast]) ?_
  refine bn.gx (fill_ok l.length (by omega)) ?_
  have hup:=tG l.length
  obtain ⟨hsp,hso⟩:=sS (gz l) (up l.length)
  refine bn.gx (x:=gp (fun x y=>decide (gz l x < gz l y)) (up l.length)) ?_ ?_
  ·have hall:(up l.length).all (fun z=>decide (0 ≤ z ∧ z < (l.length:Int))) = true:=by
    rw [List.all_eq_true]
    intro k hk
    simpa using tF.1 hk
   unfold dX
   rw [if_pos ⟨by omega,by omega,hall⟩]
  generalize gp (fun x y=>decide (gz l x < gz l y)) (up l.length) = xs at hsp hso
  have hxl:xs.length = l.length:=by rw [hsp.length_eq,hup]
  have hxm:∀ k,k ∈ xs ↔ 0 ≤ k ∧ k < l.length:=fun k=>by rw [hsp.mem_iff,tF]
  have hxn:xs.Nodup:=hsp.nodup_iff.2 (uj _)
  refine bn.bind (P:=fun out=>out.Perm (gw (eE l)) ∧ out.length < 1000000000) ?_ ?_
  ·refine bn.ea3 (l:=xs) (G:=fun _ b=>b) (I:=fun pre a b=>Swp l pre a b ∧ a.length ≤ pre.length ∧ b.length ≤ pre.length * 1000) (by omega) (by omega) ⟨⟨by simp,by simp,by simp,by simp,by simp⟩,by simp,by simp⟩ (fun pre i post a b e hx hI=>?_) (fun a b hI=>?_)
   ·obtain ⟨hI,hla,hlb⟩:=hI
    have him:=(hxm i).1 (by rw [e]; simp)
    have hpl:xs.length = pre.length + 1 + post.length:=by rw [e]; simp; omega
    have hpm:∀ k ∈ pre,0 ≤ k ∧ k < l.length:=fun k hk=>(hxm k).1 (by rw [e]; simp [hk])
    have hpi:i ∉ pre:=by
     intro hc
     rw [e] at hxn
     exact (List.nodup_append.1 hxn).2.2 i hc i (by simp) rfl
    have hps:∀ m ∈ pre,(bx l m).Lo.a0 ≤ (bx l i).Lo.a0:=by
     intro m hm
     rw [e] at hso
     have:=(List.pairwise_append.1 hso).2.2 m hm i (by simp)
     rw [sH (hpm m hm).1 (hpm m hm).2,sH him.1 him.2] at this
     exact this
    have hst:=uo hI hpi hps
    have hfl:(a.filter fun k=>!dead l i k).length ≤ a.length:=List.length_filter_le _ _
    have ham:∀ k ∈ a.filter (fun k=>!dead l i k),0 ≤ k ∧ k < l.length:=fun k hk=>hpm k (hI.sub k (List.mem_filter.1 hk).1)
    rw [hx]
    simp only [Option.bind_some]
    rw [te (by omega) him.1 him.2 fun k hk=>hpm k (hI.sub k hk)]
    simp only [Option.bind_some]
    generalize hd:a.filter (fun k=>!dead l i k) = d at *
    obtain ⟨o,ho,ho2⟩:bn (iter 20000 (dn fun out_19 x_20=>if (decide (x_20 < (d.length:Int))) = true then (Option.bind (Option.bind (bg d x_20) (fun x_23=>Option.bind (bg l i) (fun x_24=>Option.bind (bg l x_23) (fun x_25=>Option.bind (cu 20000 x_24 x_25) (fun x_26=>if x_26 = true then (Option.bind (ja out_19 [(⟨min i x_23,max i x_23⟩:A2)]) (fun x_27=>some x_27)) else (some out_19)))))) (fun out_22=>some (.inl (out_22,IntKind.i64.wrap (x_20 + 1))))) else (some (.inr out_19))) (b,0)) fun o=>o = b ++ (d.filter fun k=>mB (bx l i) (bx l k)).map (r5 i):=by
     refine bn.ea2 (l:=d) (G:=fun c=>c) (I:=fun p c=>c = b ++ (p.filter fun k=>mB (bx l i) (bx l k)).map (r5 i)) (by omega) (by omega) (by simp) (fun p k po c e' hx' hI'=>?_) (fun c hc=>hc)
     have hkm:=ham k (by rw [e']; simp)
     rw [hx',fv him.1 him.2]
     simp only [Option.bind_some]
     rw [fv hkm.1 hkm.2]
     simp only [Option.bind_some,pO]
     have hcl:c.length ≤ b.length + p.length:=by
      rw [hI',List.length_append,List.length_map]
      have:=List.length_filter_le (fun k=>mB (bx l i) (bx l k)) p
      omega
     have hdl:d.length = p.length + 1 + po.length:=by rw [e']; simp; omega
     by_cases hc:mB (bx l i) (bx l k) = true
     ·rw [if_pos (show mB (idx l i) (idx l k) = true from hc),ja,if_pos (by simp only [List.length_cons,List.length_nil]; omega)]
      exact ⟨_,rfl,.inl ⟨_,rfl,by rw [hI',List.filter_append]; simp [hc,r5]⟩⟩
     ·rw [if_neg (show ¬ mB (idx l i) (idx l k) = true from hc)]
      exact ⟨_,rfl,.inl ⟨_,rfl,by rw [hI',List.filter_append]; simp [hc]⟩⟩
    rw [ho]
    simp only [Option.bind_some]
    rw [ja,if_pos (by simp only [List.length_cons,List.length_nil]; omega)]
    subst ho2
    refine ⟨_,rfl,.inl ⟨_,_,rfl,hst,by simp; omega,?_⟩⟩
    rw [List.length_append,List.length_append,List.length_map,List.length_singleton]
    have:=List.length_filter_le (fun k=>mB (bx l i) (bx l k)) d
    omega
   ·obtain ⟨hI,hla,hlb⟩:=hI
    refine ⟨?_,by omega⟩
    rw [List.perm_ext_iff_of_nodup hI.ond (qW (iN l))]
    intro p
    rw [hI.om,mG (iN l)]
    constructor
    ·rintro ⟨i,hi,k,hk,h1,h2,rfl⟩
     have a1:=(hxm i).1 hi; have a2:=(hxm k).1 hk
     exact ⟨⟨i,bx l i⟩,lV.2 ⟨a1.1,a1.2,rfl⟩,⟨k,bx l k⟩,lV.2 ⟨a2.1,a2.2,rfl⟩,h1,h2,rfl⟩
    ·rintro ⟨x,hx,y,hy,h1,h2,rfl⟩
     obtain ⟨x1,x2,x3⟩:=lV.1 hx
     obtain ⟨y1,y2,y3⟩:=lV.1 hy
     exact ⟨x.id,(hxm _).2 ⟨x1,x2⟩,y.id,(hxm _).2 ⟨y1,y2⟩,h1,by rw [← x3,← y3]; exact h2,rfl⟩
  ·rintro out ⟨h1,h2⟩
   unfold dg
   rw [qi]
   unfold tx
   rw [if_pos h2,uH h1 (nT (iN l))]
   exact bn.some rfl
 ·rw [if_pos rfl,if_pos rfl]
  exact bn.some rfl
theorem ss (l:List bC) (hl:l.length < 1900):cy 20000 l = some (l.all vB):=by
 refine bn.eq ?_
 unfold cy
 refine bn.bind (P:=fun o=>(o = .inl () ∧ ∀ b ∈ l,vB b = true) ∨ (o = .inr false ∧ ∃ b ∈ l,vB b = false)) ?_ ?_
 ·refine bn.ea1 (l:=l) (I:=fun pre=>∀ b ∈ pre,vB b = true) (by omega) (by omega) (by simp) (fun pre x post e hx hI=>?_) (fun hI=>.inl ⟨rfl,hI⟩)
  rw [hx]
  simp only [Option.bind_some,sT]
  cases hv:vB x
  ·exact bn.some (.inr ⟨_,rfl,.inr ⟨rfl,x,by rw [e]; simp,hv⟩⟩)
  ·refine bn.some (.inl ⟨rfl,fun b hb=>?_⟩)
   rcases List.mem_append.1 hb with hb | hb
   ·exact hI b hb
   ·rw [List.mem_singleton] at hb; subst hb; exact hv
 ·rintro o (⟨rfl,h⟩ | ⟨rfl,b,hb,hv⟩)
  ·exact bn.some (List.all_eq_true.2 h).symm
  ·exact bn.some (by symm; rw [List.all_eq_false]; exact ⟨b,hb,by simp [hv]⟩)
theorem any_all (l:List bC):(l.any fun b=>!vB b) = !l.all vB:=by rw [List.not_all_eq_any_not]
theorem uu {F:Nat} (a:List A2) (ha:a.length < F) (ha2:a.length ≤ 1000000000):aW F a a = some true:=by
 refine bn.eq ?_
 unfold aW
 rw [if_neg (by simp)]
 refine bn.bind (P:=fun o=>o = .inl ()) ?_ (by rintro _ rfl; exact bn.some rfl)
 refine bn.ea1 (l:=a) (I:=fun _=>True) (by omega) (by omega) trivial (fun pre x post e hx hI=>?_) (fun _=>rfl)
 rw [hx]
 simp only [Option.bind_some,ne_eq,not_true_eq_false,decide_false,Bool.false_eq_true,if_false]
 exact bn.some (.inl ⟨rfl,trivial⟩)
theorem sr (a:List Int) (ha:a.length < 1990):bp 20000 a a = some true:=by
 refine bn.eq ?_
 unfold bp
 rw [if_neg (by simp)]
 refine bn.bind (P:=fun o=>o = .inl ()) ?_ (by rintro _ rfl; exact bn.some rfl)
 refine bn.ea1 (l:=a) (I:=fun _=>True) (by omega) (by omega) trivial (fun pre x post e hx hI=>?_) (fun _=>rfl)
 rw [hx]
 simp only [Option.bind_some,ne_eq,not_true_eq_false,decide_false,Bool.false_eq_true,if_false]
 exact bn.some (.inl ⟨rfl,trivial⟩)
theorem new_S:fg 20000 = some (⟨⟨.leaf,50,48,49⟩,⟨.leaf,51,48,49⟩⟩:ca):=rfl
def eU:Nat → List bC → List entry
 | _,[]=>[]
 | k,b :: l=>⟨-1 - (k:Int),b⟩ :: eU (k + 1) l
theorem o1:∀ (k:Nat) (a b:List bC),eU k (a ++ b) = eU k a ++ eU (k + a.length) b
 | k,[],b=>by simp [eU]
 | k,x :: a,b=>by
  simp only [List.cons_append,eU,o1 (k + 1) a b,List.length_cons]
  rw [show k + 1 + a.length = k + (a.length + 1) by omega]
theorem kF:∀ (k:Nat) (l:List bC),(eU k l).length = l.length
 | _,[]=>rfl
 | k,b :: l=>by simp [eU,kF (k + 1) l]
theorem nP {x:entry}:∀ {k:Nat} {l:List bC},x ∈ eU k l → x.id ≤ -1 - (k:Int) ∧ -1 - ((k:Int) + l.length) < x.id
 | k,[],h=>by simp [eU] at h
 | k,b :: l,h=>by
  unfold eU at h
  rcases List.mem_cons.1 h with rfl | h
  ·simp; omega
  ·have:=nP h
   simp only [List.length_cons]; omega
theorem qF {x:entry} {k:Nat} {l:List bC} (h:x ∈ eV k l):(k:Int) ≤ x.id ∧ x.id < (k:Int) + l.length:=by
 obtain ⟨j,hj,rfl⟩:=kH.1 h
 simp only; omega
def p5 (s:ca) (M:List entry):Prop:=∃ L,fK s L ∧ L.Perm M
theorem p5.put {s:ca} {M:List entry} (h:p5 s M) (hM:M.length < 900) {id:Int} {b:bC} (hv:vB b = true) (hn:∀ x ∈ M,x.id ≠ id) :
  ∃ s',bj 20000 s id b = some (s',0) ∧ p5 s' (⟨id,b⟩ :: M):=by
 obtain ⟨L,h1,h2⟩:=h
 obtain ⟨s',e,h3,h4⟩:=Put_ok h1 (by rw [h2.length_eq]; omega) id b
 rcases h4 with ⟨h4,_⟩ | ⟨_,⟨x,hx,h4⟩,_⟩ | ⟨_,_,rfl,h4⟩
 ·rw [hv] at h4; cases h4
 ·exact absurd h4 (hn x (h2.mem_iff.1 hx))
 ·exact ⟨s',h3,_,h4,(iV _ _).trans (h2.cons _)⟩
theorem p5.del {s:ca} {M:List entry} {x:entry} (h:p5 s (x :: M)) (hM:M.length < 900) :
  ∃ s',bN 20000 s x.id = some (s',0) ∧ p5 s' M:=by
 obtain ⟨L,h1,h2⟩:=h
 obtain ⟨s',e,h3,h4⟩:=ti h1 (by rw [h2.length_eq]; simp; omega) x.id
 have hx:x ∈ L:=h2.mem_iff.2 (by simp)
 rcases h4 with ⟨h4,_⟩ | ⟨_,rfl,h4⟩
 ·exact absurd rfl (h4 x hx)
 ·exact ⟨s',h3,_,h4,List.perm_cons x |>.1 ((pj h1.s1 hx).trans h2)⟩
theorem p5.perm {s:ca} {M N:List entry} (h:p5 s M) (hp:M.Perm N):p5 s N:=let ⟨L,h1,h2⟩:=h; ⟨L,h1,h2.trans hp⟩
theorem p5.eq {s:ca} {M:List entry} (h:p5 s M) (hs:jB 50 M):fK s M:=by
 obtain ⟨L,h1,h2⟩:=h
 rw [← q9 h1.s1 hs h2]; exact h1
theorem sV (l more:List bC) (b:bC):ba 20000 l more b = some true:=by
 unfold ba
 simp only [fj]
 by_cases hb0:(decide (60 < (l.length:Int)) || decide (20 < (more.length:Int))) = true
 ·rw [hb0]
  simp only [Bool.not_true,bo,Bool.false_eq_true,if_false,Option.bind_some,Bool.true_or,if_true,iR]
 rw [Bool.not_eq_true] at hb0
 rw [hb0]
 simp only [Bool.or_eq_false_iff,decide_eq_false_iff_not] at hb0
 obtain ⟨hl,hm⟩:=hb0
 have hl':l.length ≤ 60:=by omega
 have hm':more.length ≤ 20:=by omega
 simp only [Bool.not_false,bo,if_true,ss l (by omega),ss more (by omega),jW,Option.bind_some,Bool.false_or]
 cases ha1:l.all vB
 ·simp only [Bool.not_false,Bool.not_true,Bool.false_eq_true,if_false,Option.bind_some,Bool.true_or,if_true,iR]
 cases ha2:more.all vB
 ·simp only [Bool.not_false,Bool.not_true,Bool.false_eq_true,if_false,if_true,Option.bind_some,Bool.true_or,Bool.false_or,iR]
 cases ha3:vB b
 ·simp only [Bool.not_false,Bool.not_true,Bool.false_eq_true,if_false,if_true,Option.bind_some,Bool.true_or,Bool.or_true,Bool.false_or,iR]
 simp only [Bool.not_true,Bool.not_false,if_true,Option.bind_some,Bool.or_false,Bool.false_eq_true,if_false,new_S]
 rw [List.all_eq_true] at ha1 ha2
 refine bn.eq ?_
 have h0:p5 (⟨⟨.leaf,50,48,49⟩,⟨.leaf,51,48,49⟩⟩:ca) []:=⟨[],new_ok,.refl _⟩
 refine bn.bind (P:=fun o=>∃ s,o = .inl s ∧ fK s (eE l)) ?_ ?_
 ·refine bn.ea2 (l:=l) (G:=fun a=>(.inl a:ca ⊕ Bool)) (I:=fun pre s=>p5 s (eV 0 pre)) (by omega) (by omega) h0 (fun pre x post s e hx hI=>?_) (fun s hI=>⟨s,rfl,hI.eq (iN l)⟩)
  have hpl:l.length = pre.length + 1 + post.length:=by rw [e]; simp; omega
  obtain ⟨s',h1,h2⟩:=hI.put (by rw [iW]; omega) (id:=(pre.length:Int)) (b:=x) (ha1 x (by rw [e]; simp)) (fun y hy=>by have:=qF hy; omega)
  rw [hx]
  simp only [Option.bind_some,h1,dn,show decide ((0:Int) ≠ 0) = false from rfl,Bool.false_eq_true,if_false]
  refine bn.some (.inl ⟨_,rfl,h2.perm ?_⟩)
  rw [ph]
  simp only [eV,Nat.zero_add]
  exact (List.perm_append_singleton _ _).symm
 rintro _ ⟨s,rfl,hs⟩
 simp only [bZ]
 refine bn.bind (P:=fun o=>∃ t,o = .inl t ∧ p5 t (eU 0 more)) ?_ ?_
 ·refine bn.ea2 (l:=more) (G:=fun a=>(.inl a:ca ⊕ Bool)) (I:=fun pre s=>p5 s (eU 0 pre)) (by omega) (by omega) h0 (fun pre x post s e hx hI=>?_) (fun s hI=>⟨s,rfl,hI⟩)
  have hpl:more.length = pre.length + 1 + post.length:=by rw [e]; simp; omega
  have w1:IntKind.i64.wrap (-1 - (pre.length:Int)) = -1 - (pre.length:Int):=kP (by omega) (by omega)
  obtain ⟨s',h1,h2⟩:=hI.put (by rw [kF]; omega) (id:=-1 - (pre.length:Int)) (b:=x) (ha2 x (by rw [e]; simp)) (fun y hy=>by have:=nP hy; omega)
  rw [hx]
  simp only [Option.bind_some,w1,h1,dn,show decide ((0:Int) ≠ 0) = false from rfl,Bool.false_eq_true,if_false]
  refine bn.some (.inl ⟨_,rfl,h2.perm ?_⟩)
  rw [o1]
  simp only [eU,Nat.zero_add]
  exact (List.perm_append_singleton _ _).symm
 rintro _ ⟨t,rfl,ht⟩
 simp only [bZ]
 refine bn.bind (P:=fun o=>∃ t,o = .inl t ∧ p5 t (eE l ++ eU 0 more)) ?_ ?_
 ·refine bn.rounds (n:=l.length) (I:=fun k s=>k ≤ l.length ∧ s.2 = ((l.length - k:Nat):Int) - 1 ∧ p5 s.1 (eV (l.length - k) (l.drop (l.length - k)) ++ eU 0 more)) (by omega) ⟨by omega,?_,?_⟩ ?_
  ·show IntKind.i64.wrap _ = _
   rw [kP (by omega) (by omega)]; simp
  ·simp only [Nat.sub_zero,List.drop_length,eV,List.nil_append]; exact ht
  ·rintro k ⟨u,i⟩ hk ⟨hk',hi,hu⟩
   simp only at hi hu
   subst hi
   simp only [dn]
   by_cases hc:k < l.length
   ·rw [if_pos (by simp only [decide_eq_true_eq]; omega)]
    have hj:l.length - (k + 1) < l.length:=by omega
    have hi2:((l.length - k:Nat):Int) - 1 = ((l.length - (k + 1):Nat):Int):=by omega
    rw [hi2,fv (by omega) (by omega),kx _ _ hj]
    obtain ⟨x,hx⟩:∃ x,l[l.length - (k + 1)] = x:=⟨_,rfl⟩
    rw [hx]
    have hd:l.drop (l.length - (k + 1)) = x :: l.drop (l.length - k):=by
     rw [List.drop_eq_getElem_cons hj,hx,show l.length - (k + 1) + 1 = l.length - k by omega]
    obtain ⟨s',h1,h2⟩:=hu.put (by rw [List.length_append,iW,kF,List.length_drop]; omega) (id:=((l.length - (k + 1):Nat):Int)) (b:=x) (ha1 x (by rw [← hx]; exact List.getElem_mem _)) (fun y hy=>by
     rcases List.mem_append.1 hy with hy | hy
     ·have:=qF hy; omega
     ·have:=nP hy; omega)
    simp only [Option.bind_some,h1,dn,show decide ((0:Int) ≠ 0) = false from rfl,Bool.false_eq_true,if_false]
    refine bn.some (.inl ⟨_,rfl,⟨by omega,?_,?_⟩,hc⟩)
    ·show IntKind.i64.wrap _ = _
     rw [kP (by omega) (by omega)]
    ·simp only
     rw [hd]
     simp only [eV]
     rw [show l.length - (k + 1) + 1 = l.length - k by omega]
     exact h2
   ·rw [if_neg (by simp only [decide_eq_true_eq]; omega)]
    have:l.length - k = 0:=by omega
    rw [this,List.drop_zero] at hu
    exact bn.some (.inr ⟨_,rfl,u,rfl,hu⟩)
 rintro _ ⟨t,rfl,ht⟩
 simp only [bZ]
 refine bn.bind (P:=fun o=>∃ t,o = .inl t ∧ fK t (eE l)) ?_ ?_
 ·refine bn.ea2 (l:=more) (G:=fun a=>(.inl a:ca ⊕ Bool)) (I:=fun pre s=>∃ q,more = pre ++ q ∧ p5 s (eE l ++ eU pre.length q)) (by omega) (by omega) ⟨more,rfl,ht⟩ (fun pre x post s e hx hI=>?_) (fun s hI=>?_)
  ·obtain ⟨q,h1,h2⟩:=hI
   have hq:q = x :: post:=List.append_cancel_left (h1.symm.trans e)
   subst hq
   have hpl:more.length = pre.length + 1 + post.length:=by rw [e]; simp; omega
   have w1:IntKind.i64.wrap (-1 - (pre.length:Int)) = -1 - (pre.length:Int):=kP (by omega) (by omega)
   simp only [eU] at h2
   obtain ⟨s',h3,h4⟩:=(h2.perm (N:=(⟨-1 - (pre.length:Int),x⟩:entry) :: (eE l ++ eU (pre.length + 1) post)) List.perm_middle).del (by
    have:(eE l).length = l.length:=iW 0 l
    rw [List.length_append,kF]; omega)
   rw [w1]
   simp only at h3
   simp only [Option.bind_some,h3,dn,show decide ((0:Int) ≠ 0) = false from rfl,Bool.false_eq_true,if_false]
   exact bn.some (.inl ⟨_,rfl,post,by rw [e]; simp,by rw [List.length_append,List.length_singleton]; exact h4⟩)
  ·obtain ⟨q,h1,h2⟩:=hI
   have:q = []:=by
    have:=congrArg List.length h1
    simp only [List.length_append] at this
    exact List.length_eq_zero_iff.1 (by omega)
   subst this
   simp only [eU,List.append_nil] at h2
   exact ⟨s,rfl,h2.eq (iN l)⟩
 rintro _ ⟨t,rfl,ht⟩
 have hel:(eE l).length = l.length:=iW 0 l
 have hbl:(gw (eE l)).length ≤ 3600:=by
  have h1:=pn (eE l)
  have:(eE l).length * (eE l).length ≤ 60 * 60:=Nat.mul_le_mul (by omega) (by omega)
  omega
 have hml:=pN (eE l) b
 have hany:(l.any fun b=>!vB b) = false:=by rw [any_all,List.all_eq_true.2 ha1]; rfl
 have hfs:=sJ hs (by omega:(eE l).length < 1000) b
 have hft:=sJ ht (by omega:(eE l).length < 1000) b
 rw [if_pos ha3] at hfs hft
 have has:=ue hs (by omega:(eE l).length < 1000)
 have hat:=ue ht (by omega:(eE l).length < 1000)
 rw [allP_eq (iN l)] at has hat
 have hpr:=uR l (by omega)
 rw [hany,if_neg (by decide)] at hpr
 have hsp:=uu (F:=20000) (gw (eE l)) (by omega) (by omega)
 have hsm:=sr (met (eE l) b) (by omega)
 have hsi:=sr ((eE l).map (·.id)) (by rw [List.length_map]; omega)
 have his:=tO hs (by omega:(eE l).length < 1000)
 have ng:=tO ht (by omega:(eE l).length < 1000)
 simp only [bZ]
 refine bn.gx hpr ?_
 simp only [dn]
 refine bn.gx hfs ?_
 simp only [dn]
 refine bn.gx hft ?_
 simp only [dn]
 refine bn.gx iR ?_
 refine bn.g1 rfl (bn.gx has ?_)
 refine bn.g1 rfl (bn.gx hsp ?_)
 refine bn.g1 rfl (bn.gx hat ?_)
 refine bn.g1 rfl (bn.gx hsp ?_)
 refine bn.g1 rfl (bn.gx hsm ?_)
 refine bn.g1 rfl (bn.gx his ?_)
 refine bn.g1 rfl (bn.gx ng ?_)
 refine bn.g1 rfl (bn.gx hsi ?_)
 exact bn.some rfl
end Go.Proofs.YtagpkeehkcopaaaGreat
namespace Go.Proofs.YtagpkeehkcopaaaGreat
open Go Go.Sk
theorem sW (x0:List bC) (x1:List bC) (x2:bC):au Tryz.prog [] 8 [] [.one (.sl 6 (x0.map aj)),.one (.sl 6 (x1.map aj)),.agg (aj x2)] (Is [] (.b (.one (.bool true)))) :=
 dN (sV x0 x1 x2)
end Go.Proofs.YtagpkeehkcopaaaGreat
