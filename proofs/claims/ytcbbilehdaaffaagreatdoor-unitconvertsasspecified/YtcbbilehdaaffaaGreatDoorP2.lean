/- the plain law -/
import Derived.Test.YtcbbilehdaaffaaGreatDoorP1
namespace Go.Proofs.YtcbbilehdaaffaaGreatDoor
open Go Go.Sk
set_option linter.unusedSimpArgs false
set_option linter.unusedVariables false
def zQ:aw:=⟨⟨⟨false,false,aP.zero⟩,⟨false,false,aP.zero⟩⟩,zU⟩
def rt (a:aw):Bool:=(qF a.V).isSome && vU a.U
abbrev Bp (a:aw):Prop:=kB a.V
theorem rt_iff {a:aw}:rt a = true ↔ (∃ r,qF a.V = some r) ∧ vU a.U = true:=by
 unfold rt; rw [Bool.and_eq_true,Option.isSome_iff_exists]
theorem w01:IntKind.i64.wrap (0 + 1) = 1:=by decide
theorem w12:IntKind.i64.wrap (1 + 1) = 2:=by decide
theorem BX {a:aw} (ha:Bp a):de FF [a] = some (rt a):=by
 obtain ⟨k,hk⟩:=F4
 have hg:dE (k + 4) a.V = some (qF a.V).isSome:=by rw [← hk]; exact mv ha
 have hv:dj (k + 4) a.U = some (vU a.U):=by rw [← hk]; exact pL _
 rw [hk]
 unfold de rt
 have e1:(([a].length:Nat):Int) = 1:=rfl
 have i0:bB [a] 0 = some a:=rfl
 simp only [e1,fh,show ((0:Int) < 1) = True from by simp,show ((1:Int) < 1) = False from by simp,decide_true,if_true,i0,Option.bind_some,hg]
 cases (qF a.V).isSome
 ·rfl
 ·simp only [Bool.not_true,Bool.not_false,bA,if_true,hv,Option.bind_some]
  cases vU a.U
  ·rfl
  ·simp only [w01,j4,fh,show ((1:Int) < 1) = False from by simp,decide_false,Bool.false_eq_true,if_false,Bool.not_true,Bool.or_false,Option.bind_some,Bool.true_and]
theorem BW {a b:aw} (ha:Bp a) (hb:Bp b):de FF [a,b] = some (rt a && rt b):=by
 obtain ⟨k,hk⟩:=F4
 have hg:dE (k + 4) a.V = some (qF a.V).isSome:=by rw [← hk]; exact mv ha
 have hv:dj (k + 4) a.U = some (vU a.U):=by rw [← hk]; exact pL _
 have hg2:dE (k + 4) b.V = some (qF b.V).isSome:=by rw [← hk]; exact mv hb
 have hv2:dj (k + 4) b.U = some (vU b.U):=by rw [← hk]; exact pL _
 rw [hk]
 unfold de rt
 have e1:(([a,b].length:Nat):Int) = 2:=rfl
 have i0:bB [a,b] 0 = some a:=rfl
 have i1:bB [a,b] 1 = some b:=rfl
 simp only [e1,fh,show ((0:Int) < 2) = True from by simp,show ((1:Int) < 2) = True from by simp,show ((2:Int) < 2) = False from by simp,decide_true,if_true,i0,Option.bind_some,hg]
 cases (qF a.V).isSome
 ·rfl
 ·simp only [Bool.not_true,Bool.not_false,bA,if_true,hv,Option.bind_some]
  cases vU a.U
  ·rfl
  ·simp only [w01,j4,fh,show ((1:Int) < 2) = True from by simp,decide_true,if_true,Bool.false_eq_true,if_false,Bool.not_true,Bool.or_false,Option.bind_some,Bool.true_and,i1,hg2]
   cases (qF b.V).isSome
   ·rfl
   ·simp only [Bool.not_true,Bool.not_false,bA,if_true,hv2,Option.bind_some]
    cases vU b.U
    ·rfl
    ·simp only [w12,j4,fh,show ((2:Int) < 2) = False from by simp,decide_false,Bool.false_eq_true,if_false,Bool.not_true,Bool.or_false,Option.bind_some,Bool.true_and]
def uP (v:bN) (u:aX):aw × Int:=if (qF v).isSome = true then (⟨v,u⟩,0) else (zQ,30)
def gdo (r:aw × Int):qm:=⟨r.1,r.2⟩
theorem ux {v:bN} {u:aX} (h:kB v):fD FF v u = some (uP v u):=by
 unfold fD uP
 rw [mv h]
 cases (qF v).isSome <;> rfl
theorem yd {v:bN} {u:aX} (h:kB v):dh FF v u = some (gdo (uP v u)):=by
 unfold dh uP
 rw [pA h]
 cases (qF v).isSome <;> rfl
theorem Ds {a:aw} (ha:Bp a):dT FF a = some (rt a):=by
 unfold dT rt
 rw [pA ha,xw]
 cases (qF a.V).isSome <;> cases vU a.U <;> rfl
def B7 (nf:bN → bN → bN) (uf:aX → aX → aX × Int) (a b:aw):aw × Int :=
 if (rt a && rt b) = true then (if (uf a.U b.U).2 ≠ 0 then (zQ,(uf a.U b.U).2) else uP (nf a.V b.V) (uf a.U b.U).1) else (zQ,1)
theorem doQ_bad {nf:bN → bN → bN} {uf:aX → aX → aX × Int} {a b:aw} (h:(rt a && rt b) = false):B7 nf uf a b = (zQ,1):=by unfold B7; rw [h]; rfl
theorem doQ_err {nf:bN → bN → bN} {uf:aX → aX → aX × Int} {a b:aw} (h:(rt a && rt b) = true) (h2:(uf a.U b.U).2 ≠ 0):B7 nf uf a b = (zQ,(uf a.U b.U).2):=by unfold B7; rw [if_pos h,if_pos h2]
theorem Da {nf:bN → bN → bN} {uf:aX → aX → aX × Int} {a b:aw} (h:(rt a && rt b) = true) (h2:(uf a.U b.U).2 = 0):B7 nf uf a b = uP (nf a.V b.V) (uf a.U b.U).1:=by unfold B7; rw [if_pos h,if_neg (by omega)]
theorem do_q {o:yI} {nf:bN → bN → bN} {uf:aX → aX → aX × Int} {a b:aw} (ha:Bp a) (hb:Bp b) (hn:ic FF o.numbers a.V b.V = some (nf a.V b.V)) (hi:kB (nf a.V b.V)) (hu:mH FF o.units a.U b.U = some (uf a.U b.U)) :
  cY FF o a b = some (B7 nf uf a b):=by
 refine an.eq ?_
 unfold cY
 refine an.aB (BW ha hb) ?_
 cases h1:(rt a && rt b)
 ·rw [doQ_bad h1]; exact an.fU rfl (an.some rfl)
 refine an.iff rfl (an.aB hu ?_)
 by_cases h2:(uf a.U b.U).2 = 0
 ·rw [Da h1 h2]
  refine an.iff (by simp [h2]) (an.aB hn (an.aB (ux hi) (an.some rfl)))
 ·rw [doQ_err h1 h2]
  exact an.fU (by simp [h2]) (an.some rfl)
noncomputable abbrev addF:=bi addR
noncomputable abbrev subF:=bi subR
noncomputable abbrev tE:=bi mulR
noncomputable abbrev sZ:=bi uV
theorem Ay (x y:bN):kB (tE x y):=bi_in (fun r s=>yN _) x y
theorem wL (x y:bN):kB (sZ x y):=bi_in divR_in x y
def yD (u v:aX):=tz u v 1
theorem Times_q {a b:aw} (ha:Bp a) (hb:Bp b):jC FF a b = some (B7 tE yD a b):=by
 unfold jC
 rw [do_q (o:=⟨25,26⟩) (nf:=tE) (uf:=yD) ha hb (Cq ha hb) (Ay _ _) (Mul_u _ _)]; rfl
theorem AB {n:Int} (h:-16 ≤ n ∧ n ≤ 16):max n (IntKind.i64.wrap (-n)) = (n.natAbs:Int):=by
 rw [dm (by omega) (by omega)]; omega
theorem Of_1:ml FF 1 = some (mk ((1:Int):Rat)):=Of_f (by decide)
end Go.Proofs.YtcbbilehdaaffaaGreatDoor
namespace Go.Sk
set_option linter.unusedSimpArgs false
set_option linter.unusedVariables false
open Go
theorem jz {u:Nat} (h:u < 10):Lib.decDigits u = [UInt8.ofNat (48 + u)]:=by rw [Lib.decDigits,dif_pos h]
theorem r8 {u:Nat} (h:¬ u < 10):Lib.decDigits u = Lib.decDigits (u / 10) ++ [UInt8.ofNat (48 + u % 10)]:=by rw [Lib.decDigits,dif_neg h]
def fd:Nat → Nat → bg
 | 0,_=>[]
 | k + 1,r=>fd k (r / 10) ++ [UInt8.ofNat (48 + r % 10)]
theorem A8:∀ k,fd k 0 = List.replicate k 48
 | 0=>rfl
 | k + 1=>by
  show fd k (0 / 10) ++ [UInt8.ofNat (48 + 0 % 10)] = _
  have:fd k (0 / 10) = List.replicate k 48:=A8 k
  rw [this,List.replicate_succ']
  rfl
theorem xQ {q:Nat} (hq:0 < q):∀ (k r:Nat),r < 10 ^ k → Lib.decDigits (q * 10 ^ k + r) = Lib.decDigits q ++ fd k r
 | 0,r,h=>by
  have h0:r = 0:=by rw [Nat.pow_zero] at h; omega
  subst h0
  rw [Nat.pow_zero,Nat.mul_one,Nat.add_zero]
  simp [fd]
 | k + 1,r,h=>by
  have e:q * 10 ^ (k + 1) = 10 * (q * 10 ^ k):=by rw [Nat.pow_succ]; grind
  rw [Nat.pow_succ] at h
  have hp:1 ≤ q * 10 ^ k:=Nat.mul_pos hq (Nat.pow_pos (by decide))
  have h1:¬ q * 10 ^ (k + 1) + r < 10:=by omega
  rw [r8 h1]
  have e1:(q * 10 ^ (k + 1) + r) / 10 = q * 10 ^ k + r / 10:=by omega
  have e2:(q * 10 ^ (k + 1) + r) % 10 = r % 10:=by omega
  rw [e1,e2,xQ hq k (r / 10) (by omega),List.append_assoc]
  rfl
theorem pS:∀ (k u:Nat),u < 10 ^ (k + 1) → (Lib.decDigits u).length ≤ k + 1
 | 0,u,h=>by rw [jz (by simpa using h)]; exact Nat.le_refl _
 | k + 1,u,h=>by
  by_cases h1:u < 10
  ·rw [jz h1]; simp
  ·rw [Nat.pow_succ] at h
   rw [r8 h1,List.length_append]
   have:=pS k (u / 10) (by omega)
   simp
   omega
theorem C6:∀ (k r:Nat),r < 10 ^ (k + 1) → fd (k + 1) r = List.replicate (k + 1 - (Lib.decDigits r).length) 48 ++ Lib.decDigits r
 | 0,r,h=>by
  have h1:r < 10:=by simpa using h
  rw [jz h1]
  show [] ++ [UInt8.ofNat (48 + r % 10)] = _
  rw [Nat.mod_eq_of_lt h1]
  rfl
 | k + 1,r,h=>by
  show fd (k + 1) (r / 10) ++ [UInt8.ofNat (48 + r % 10)] = _
  by_cases h1:r < 10
  ·rw [jz h1,Nat.div_eq_of_lt h1,A8,Nat.mod_eq_of_lt h1]
   simp
  ·rw [Nat.pow_succ] at h
   rw [C6 k (r / 10) (by omega),r8 h1,List.length_append]
   have:=pS k (r / 10) (by omega)
   rw [List.append_assoc]
   congr 2
   simp
def dv (l:bg):Nat:=l.foldl (fun acc c=>10 * acc + (c.toNat - 48)) 0
theorem C9 (l:bg) (c:UInt8):dv (l ++ [c]) = 10 * dv l + (c.toNat - 48):=by simp [dv]
def j5 (c:UInt8):Prop:=48 ≤ c.toNat ∧ c.toNat ≤ 57
theorem vT {d:Nat} (h:d < 10):(UInt8.ofNat (48 + d)).toNat = 48 + d:=by simp; omega
theorem qx (u:Nat):∀ c ∈ Lib.decDigits u,j5 c:=by
 induction u using Nat.strongRecOn with
 | _ u ih=>
  by_cases h:u < 10
  ·rw [jz h]
   intro c hc
   rw [List.mem_singleton.1 hc]
   unfold j5
   rw [vT h]; omega
  ·rw [r8 h]
   intro c hc
   rcases List.mem_append.1 hc with g | g
   ·exact ih _ (by omega) c g
   ·rw [List.mem_singleton.1 g]
    unfold j5
    rw [vT (by omega)]; omega
theorem Ad (u:Nat):dv (Lib.decDigits u) = u:=by
 induction u using Nat.strongRecOn with
 | _ u ih=>
  by_cases h:u < 10
  ·rw [jz h]
   show 10 * 0 + ((UInt8.ofNat (48 + u)).toNat - 48) = u
   rw [vT h]; omega
  ·rw [r8 h,C9,ih _ (by omega),vT (by omega)]; omega
theorem DT {m x:bg} (h:m ≠ []):(m ++ x).head? = m.head?:=by
 cases m with
 | nil=>exact absurd rfl h
 | cons _ _=>rfl
def NoLead (l:bg):Prop:=l ≠ [] ∧ (l.head? = some 48 → l = [48])
theorem rk (u:Nat):NoLead (Lib.decDigits u):=by
 induction u using Nat.strongRecOn with
 | _ u ih=>
  by_cases h:u < 10
  ·rw [jz h]
   refine ⟨by simp,fun hh=>?_⟩
   rw [Option.some.inj hh]
  ·rw [r8 h]
   obtain ⟨h1,h2⟩:=ih (u / 10) (by omega)
   refine ⟨by simp,fun hh=>?_⟩
   rw [DT h1] at hh
   have h3:=h2 hh
   have h4:=Ad (u / 10)
   rw [h3] at h4
   have:dv [48] = 0:=rfl
   omega
theorem BQ (xs:List bg):Lib.join xs [] = xs.flatten:=by
 cases xs with
 | nil=>rfl
 | cons x r=>
  rw [Lib.join_cons]
  show x ++ (r.map ([] ++ ·)).flatten = _
  simp
theorem wu {α:Type} [Inhabited α] {l:List α} {i:Nat} (h:i < l.length):l[i]? = some (idx l (i:Int)):=by
 have:=idx_eq (xs:=l) (i:=(i:Int)) (by omega) (by omega)
 rw [Int.toNat_natCast] at this
 exact this
theorem MM155:MM < 10 ^ 155:=by rw [vg]; decide +kernel
theorem xi {a:Int} (h:a < MM):(Lib.decDigits a.toNat).length ≤ 155:=by
 refine pS 154 _ ?_
 have h2:=MM155
 have h3:a < 10 ^ 155:=by omega
 rcases (by omega:a ≤ 0 ∨ 0 < a) with g | g
 ·have:a.toNat = 0:=by omega
  rw [this]; exact Nat.pow_pos (by decide)
 ·have:(a.toNat:Int) < ((10 ^ 155:Nat):Int):=by
   have e:((10 ^ 155:Nat):Int) = 10 ^ 155:=by rw [Int.natCast_pow]; rfl
   rw [e]; omega
  exact Int.ofNat_lt.1 this
theorem tj {a:Int} (h:0 ≤ a):Lib.itoa a = Lib.decDigits a.toNat:=by unfold Lib.itoa; rw [if_neg (by omega)]
theorem DU {W W':Int} {k:Nat} (h0:0 ≤ W') (h:W' * 1000000000 ≤ W) (hk:W * 2 ^ k < MM):W' * 2 ^ (k + 1) < MM:=by
 have hp:=ka k
 have h1:W' * 2 ≤ W:=by omega
 have h2:=Int.mul_le_mul_of_nonneg_right h1 (Int.le_of_lt hp)
 rw [Int.pow_succ]
 have e:W' * (2 ^ k * 2) = W' * 2 * 2 ^ k:=by grind
 omega
theorem pow_bd {W:Int} {k:Nat} (h0:0 < W) (h:W * 2 ^ k < MM):k < 512:=by
 have hp:=ka k
 have h1:=Int.mul_le_mul_of_nonneg_right (show 1 ≤ W by omega) (Int.le_of_lt hp)
 rcases (by omega:k < 512 ∨ 512 ≤ k) with g | g
 ·exact g
 ·have h2:=th g
  have e:MM = 2 ^ 512:=by rw [vg]; decide +kernel
  omega
theorem dd_nine {W:Int} (h0:0 < W / 1000000000) (hW:0 ≤ W):Lib.decDigits W.toNat = Lib.decDigits (W / 1000000000).toNat ++ fd 9 (W % 1000000000).toNat:=by
 have e:W.toNat = (W / 1000000000).toNat * 10 ^ 9 + (W % 1000000000).toNat:=by
  have:(10:Nat) ^ 9 = 1000000000:=by decide
  omega
 rw [e]
 refine xQ (by omega) 9 _ ?_
 have:(10:Nat) ^ 9 = 1000000000:=by decide
 omega
end Go.Sk
namespace Go.Proofs.YtcbbilehdaaffaaGreatDoor
open Go Go.Sk
set_option linter.unusedSimpArgs false
set_option linter.unusedVariables false
theorem B5 {F:Nat} {l:List bg} (hl:l.length ≤ 100000) (hF:100000 < F):gm F l = some l.reverse:=by
 refine an.eq ?_
 unfold gm
 have hw:IntKind.i64.wrap ((l.length:Int) - 1) = (l.length:Int) - 1:=by rw [cn]; omega
 rw [hw]
 refine an.ln (an.bind (P:=(· = l.reverse)) (an.rounds l.length (fun (k:Nat) (st:List bg × Int × Int)=>st.2.1 = (k:Int) ∧ st.2.2 = (l.length:Int) - 1 - (k:Int) ∧ st.1.length = l.length ∧ ∀ m,m < l.length → st.1[m]? = if m < k ∨ l.length < m + k + 1 then l[l.length - 1 - m]? else l[m]?) (by omega) ⟨rfl,by dsimp only; omega,rfl,fun m hm=>by rw [if_neg (by omega)]⟩ ?_) (fun y hy=>an.some hy))
 rintro k ⟨s,i,j⟩ hk ⟨rfl,rfl,sl,hs⟩
 dsimp only at sl hs
 dsimp only [kA]
 refine an.ite (fun h=>?_) (fun h=>?_)
 ·have h':=of_decide_eq_true h
  have ej:(l.length:Int) - 1 - (k:Int) = ((l.length - 1 - k:Nat):Int):=by omega
  rw [ej]
  refine an.idx (by omega) (by omega) (an.idx (by omega) (by omega) (an.idx (by omega) (by omega) (an.idx (by omega) (by rw [List.length_set]; omega) (an.some (.inl ⟨_,rfl,⟨by dsimp only; rw [cn]; omega,by dsimp only; rw [cn]; omega,by simp [sl],fun m hm=>?_⟩,by omega⟩)))))
  dsimp only
  simp only [Int.toNat_natCast]
  have g1:=wu (l:=s) (i:=k) (by omega)
  have g2:=wu (l:=s) (i:=l.length - 1 - k) (by omega)
  rw [hs k (by omega),if_neg (by omega)] at g1
  rw [hs _ (by omega),if_neg (by omega)] at g2
  rw [List.getElem?_set,List.length_set,List.getElem?_set]
  by_cases e1:l.length - 1 - k = m
  ·rw [if_pos e1,if_pos (by omega),if_pos (by omega),← g1]
   congr 1; omega
  ·rw [if_neg e1]
   by_cases e2:k = m
   ·rw [if_pos e2,if_pos (by omega),if_pos (by omega),← g2,e2]
   ·rw [if_neg e2,hs m hm]
    by_cases e3:m < k ∨ l.length < m + k + 1
    ·rw [if_pos e3,if_pos (by omega)]
    ·rw [if_neg e3,if_neg (by omega)]
 ·have h':=of_decide_eq_false h
  refine an.some (.inr ⟨_,rfl,?_⟩)
  apply List.ext_getElem?
  intro m
  by_cases hm:m < l.length
  ·rw [hs m hm,List.getElem?_reverse hm]
   split
   ·rfl
   ·congr 1; omega
  ·rw [List.getElem?_eq_none (by omega),List.getElem?_eq_none (by rw [List.length_reverse]; omega)]
theorem Text_y {F:Nat} (hF:100000 < F) {x:bt} (hx:kC x):jw F x = some (match iv x with | some a=>Lib.itoa a | none=>[]):=by
  refine an.eq ?_
  unfold jw
  refine an.aB (u9 (by omega) x) ?_
  cases ha:iv x with
  | none=>rw [cR ha]; exact an.fU rfl (an.some rfl)
  | some a=>
    obtain ⟨ga,rfl,ra⟩:=cu hx ha
    obtain ⟨wa,na⟩:=cT ra
    have wa':av (cm a).W = aJ a:=wa
    have hla:=pK ra
    rw [ga,na]
    refine an.iff rfl ?_
    have hlen:=xi hla.2
    refine an.bind (P:=fun p=>p.length ≤ 1000 ∧ p.reverse.flatten = Lib.decDigits (aJ a).toNat) (an.rounds 512 (fun (k:Nat) (st:List bg × aP)=>cF 4294967296 st.2.l ∧ st.1.length = k ∧ av st.2 * 2 ^ k < MM ∧ Lib.decDigits (aJ a).toNat = Lib.decDigits (av st.2).toNat ++ st.1.reverse.flatten) (by omega) ⟨bc a,rfl,by dsimp only; rw [wa',Int.pow_zero,Int.mul_one]; exact hla.2,by dsimp only; rw [wa']; simp⟩ ?_) ?_
    · rintro k ⟨ps,w⟩ hk ⟨win_,pl,wb,hs⟩
      dsimp only at win_ pl wb hs
      dsimp only [b7]
      have hw0:=(eU win_).1
      have hw1:=(eU win_).2
      refine an.aB (Ao (by omega) win_ (b:=1000000000) (by decide)) ?_
      dsimp only [b7]
      obtain ⟨r,hr⟩:∃ r,r = av w % 1000000000:=⟨_,rfl⟩
      have hr0:0 ≤ r ∧ r < 1000000000:=by omega
      rw [← hr,dm (by omega) (by omega)]
      have hrl:(Lib.decDigits r.toNat).length ≤ 9:=pS 8 _ (by have:(10:Nat) ^ (8 + 1) = 1000000000:=by decide
                                                              omega)
      have hit:fm F r = some (Lib.decDigits r.toNat):=by
        unfold fm u7
        rw [tj hr0.1,if_pos (by omega)]
      refine an.aB hit ?_
      have hq0:0 ≤ av w / 1000000000:=Int.ediv_nonneg hw0 (by decide)
      refine an.ite (fun h=>?_) (fun h=>?_)
      · have hz:av w / 1000000000 = 0:=(kM hq0 (by omega)).1 (of_decide_eq_true h)
        have hwr:av w = r:=by omega
        refine an.B8 (by simp; omega) (an.some (.inr ⟨_,rfl,by simp; omega,?_⟩))
        rw [List.reverse_append,List.flatten_append,hs,hwr]
        simp
      · have hz:av w / 1000000000 ≠ 0:=fun e=>(of_decide_eq_false h) ((kM hq0 (by omega)).2 e)
        have hqp:0 < av w / 1000000000:=by omega
        have hwl:IntKind.i64.wrap (9 - ((Lib.decDigits r.toNat).length:Int)) = ((9 - (Lib.decDigits r.toNat).length:Nat):Int):=by rw [cn]; omega
        have hrep:iH F [48] ((9 - (Lib.decDigits r.toNat).length:Nat):Int) = some (List.replicate (9 - (Lib.decDigits r.toNat).length) 48):=by
          unfold iH tf
          rw [Int.toNat_natCast,if_pos ⟨by omega,by omega,by simp; omega⟩]
          have:=Lib.repeatL_replicate 48 1 (9 - (Lib.decDigits r.toNat).length)
          rw [Nat.mul_one] at this
          exact congrArg some this
        rw [hwl]
        refine an.ln (an.aB hrep (an.B8 (by simp; omega) (an.B8 (by simp; omega) (an.some (.inl ⟨_,rfl,?_⟩)))))
        have hb:=DU hq0 (by omega) wb
        have hqm:av (rX (av w / 1000000000)) = av w / 1000000000:=by rw [jc,Int.emod_eq_of_lt hq0 (by omega)]
        have hk2:=pow_bd hqp hb
        refine ⟨⟨kp _,by simp [pl],by dsimp only; rw [hqm]; exact hb,?_⟩,by omega⟩
        dsimp only
        rw [hqm,hs,dd_nine hqp hw0,← hr,C6 8 r.toNat (by have:(10:Nat) ^ (8 + 1) = 1000000000:=by decide
                                                         omega),List.reverse_append,List.flatten_append]
        simp
    · rintro ps ⟨pl,pf⟩
      refine an.bind (P:=fun p=>p.length ≤ 2000 ∧ p.reverse.flatten = Lib.itoa a) ?_ ?_
      · refine an.ite (fun h=>?_) (fun h=>?_)
        · have hneg:a < 0:=of_decide_eq_true h
          refine an.B8 (by simp; omega) (an.some ⟨by simp; omega,?_⟩)
          rw [List.reverse_append,List.flatten_append,pf]
          unfold Lib.itoa
          rw [if_pos hneg]
          have e:(aJ a).toNat = a.natAbs:=by unfold aJ; rw [if_pos hneg]; omega
          rw [e]; rfl
        · have hneg:¬ a < 0:=of_decide_eq_false h
          refine an.some ⟨by omega,?_⟩
          rw [pf]
          unfold Lib.itoa
          have e:aJ a = a:=if_neg hneg
          rw [if_neg hneg,e]
      · rintro p ⟨p1,p2⟩
        refine an.aB (B5 (by omega) hF) ?_
        have hj:jF F p.reverse [] = some (Lib.itoa a):=by
          unfold jF Aa
          rw [BQ,p2,if_pos]
          refine ⟨by simp; omega,?_⟩
          unfold Lib.itoa
          have h1:=hlen
          split
          · next hneg=>
            have e:(aJ a).toNat = a.natAbs:=by unfold aJ; rw [if_pos hneg]; omega
            rw [e] at h1
            simp; omega
          · next hneg=>
            have e:aJ a = a:=if_neg hneg
            rw [e] at h1
            omega
        exact an.aB hj (an.some rfl)
end Go.Proofs.YtcbbilehdaaffaaGreatDoor
namespace Go.Sk
set_option linter.unusedSimpArgs false
set_option linter.unusedVariables false
end Go.Sk
namespace Go.Proofs.YtcbbilehdaaffaaGreatDoor
open Go Go.Sk
set_option linter.unusedSimpArgs false
set_option linter.unusedVariables false
end Go.Proofs.YtcbbilehdaaffaaGreatDoor
namespace Go.Sk
set_option linter.unusedSimpArgs false
set_option linter.unusedVariables false
open Go
theorem dv_take (l:bg) {k:Nat} (h:k < l.length):dv (l.take (k + 1)) = 10 * dv (l.take k) + (l[k].toNat - 48):=by
 rw [List.take_add_one,List.getElem?_eq_getElem h]
 exact C9 _ _
def tB (s:bg):Bool:=decide (s.head? = some 45)
def ez (s:bg):bg:=if tB s = true then s.drop 1 else s
def tF (s:bg):Prop:=ez s = [] ∨ (ez s).head? = some 48 ∧ s ≠ [48]
inductive vD (s:bg):bt × Int → Prop where
 | ill (h:tF s):vD s (bad,281)
 | yF (h:¬ tF s) (c:UInt8) (hc:c ∈ ez s) (hn:¬ j5 c):vD s (bad,281)
 | long (h:¬ tF s) (hd:∀ c ∈ ez s,j5 c) (hv:MM ≤ dv (ez s)):vD s (bad,30)
 | num (h:¬ tF s) (hd:∀ c ∈ ez s,j5 c) (hv:(dv (ez s):Int) < MM):vD s (cm (if tB s = true then -(dv (ez s):Int) else dv (ez s)),0)
theorem vD.one {s:bg} {p q:bt × Int} (hp:vD s p) (hq:vD s q):p = q:=by
 cases hp with
 | ill h=>
  cases hq with
  | ill _=>rfl
  | yF h2 _ _ _=>exact absurd h h2
  | long h2 _ _=>exact absurd h h2
  | num h2 _ _=>exact absurd h h2
 | yF h c hc hn=>
  cases hq with
  | ill h2=>exact absurd h2 h
  | yF _ _ _ _=>rfl
  | long _ hd _=>exact absurd (hd c hc) hn
  | num _ hd _=>exact absurd (hd c hc) hn
 | long h hd hv=>
  cases hq with
  | ill h2=>exact absurd h2 h
  | yF _ c hc hn=>exact absurd (hd c hc) hn
  | long _ _ _=>rfl
  | num _ _ hv2=>omega
 | num h hd hv=>
  cases hq with
  | ill h2=>exact absurd h2 h
  | yF _ c hc hn=>exact absurd (hd c hc) hn
  | long _ _ hv2=>omega
  | num _ _ _=>rfl
theorem DS {l:bg} (h:l ≠ []):l.head? = some (idx l 0):=by
 cases l with
 | nil=>exact absurd rfl h
 | cons c r=>rfl
theorem u8_45 (c:UInt8):(c.toNat:Int) = 45 ↔ c = 45:=⟨fun h=>by
 have h2:c.toNat = (45:UInt8).toNat:=by show c.toNat = 45; omega
 exact UInt8.toNat_inj.1 h2,fun h=>by rw [h]; rfl⟩
theorem u8_48 (c:UInt8):(c.toNat:Int) = 48 ↔ c = 48:=⟨fun h=>by
 have h2:c.toNat = (48:UInt8).toNat:=by show c.toNat = 48; omega
 exact UInt8.toNat_inj.1 h2,fun h=>by rw [h]; rfl⟩
theorem vv {l:bg} {k:Nat} (h:k < l.length):idx (ofStr l) (k:Int) = (l[k].toNat:Int):=by
 unfold ofStr
 have:=wu (l:=l.map fun c=>(c.toNat:Int)) (i:=k) (by simpa using h)
 rw [List.getElem?_map,List.getElem?_eq_getElem h] at this
 exact (Option.some.inj this).symm
theorem digS_ne {s:bg}:decide (ez s ≠ s) = tB s:=by
 unfold ez
 cases h:tB s with
 | false=>simp
 | true=>
  unfold tB at h
  cases s with
  | nil=>simp at h
  | cons c r=>simp
theorem D5 (s:bg):(ez s).length ≤ s.length:=by
 unfold ez; split
 ·simp
 ·exact Nat.le_refl _
end Go.Sk
namespace Go.Proofs.YtcbbilehdaaffaaGreatDoor
open Go Go.Sk
set_option linter.unusedSimpArgs false
set_option linter.unusedVariables false
theorem BF (F:Nat) (s:bg):∀ {β:Type} {k:UInt8 → Option β} {Q:β → Prop},(∀ c:UInt8,((decide (0 < (s.length:Int))) && (decide ((c.toNat:Int) = 45))) = tB s → an (k c) Q) → an ((bA (decide (0 < (s.length:Int))) (bB s 0)).bind k) Q:=by
 intro β k Q h
 cases s with
 | nil=>exact an.g0 rfl (h _ (by rfl))
 | cons c r=>
  have hl:0 < ((c :: r).length:Int):=by rw [List.length_cons]; omega
  refine an.g1 (decide_eq_true hl) (an.idx (by decide) hl (h _ ?_))
  have e:idx (c :: r) 0 = c:=rfl
  rw [e,decide_eq_true hl,Bool.true_and]
  unfold tB
  rw [decide_eq_decide,u8_45]
  simp
theorem Bj {F:Nat} (hF:100000 < F) {s:bg} (hl:s.length ≤ 500):an (kV F s) (vD s):=by
 unfold kV
 have hdl:=D5 s
 refine an.bind (P:=(· = ez s)) ?_ ?_
 ·refine BF F s fun c hc=>an.jZ _ hc ?_
  unfold ez
  refine an.ite (fun h=>?_) (fun h=>?_)
  ·rw [if_pos h]
   have hne:1 ≤ s.length:=by
    unfold tB at h
    cases s with
    | nil=>simp at h
    | cons c r=>simp
   exact an.drop (by decide) (by omega) (an.some rfl)
  ·rw [h]; exact an.some rfl
 ·rintro _ rfl
  have hill:∀ {β:Type} {k:UInt8 → Option β} {Q:β → Prop},(∀ c:UInt8,(((decide (ez s = [])) || ((decide ((c.toNat:Int) = 48)) && (decide (s ≠ [48])))) = true ↔ tF s) → an (k c) Q) → an ((bA (!(decide (ez s = []))) (bB (ez s) 0)).bind k) Q:=by
   intro β k Q h
   by_cases hd:ez s = []
   ·refine an.g0 (by rw [decide_eq_true hd]; rfl) (h _ ?_)
    rw [decide_eq_true hd]
    exact ⟨fun _=>.inl hd,fun _=>rfl⟩
   ·have hpos:0 < (ez s).length:=List.length_pos_iff.2 hd
    refine an.g1 (by rw [decide_eq_false hd]; rfl) (an.idx (by decide) (by omega) (h _ ?_))
    rw [decide_eq_false hd,Bool.false_or,Bool.and_eq_true,decide_eq_true_eq,decide_eq_true_eq,u8_48]
    unfold tF
    rw [DS hd,Option.some.injEq]
    exact ⟨fun g=>.inr g,fun g=>g.resolve_left hd⟩
  refine hill fun c hc=>an.ln ?_
  refine an.ite (fun h=>?_) (fun h=>?_)
  ·exact an.aB (j6 F) (an.some (.ill (hc.1 h)))
  ·have hni:¬ tF s:=fun g=>by rw [hc.2 g] at h; exact absurd h (by simp)
   have holen:((ofStr (ez s)).length:Int) = (ez s).length:=by unfold ofStr; simp
   refine an.bind (P:=fun r=>match r with | .inl _=>∀ c ∈ ez s,j5 c | .inr z=>vD s z) (an.rounds (ez s).length (fun (k:Nat) (i:Int)=>i = (k:Int) ∧ ∀ m (hm:m < (ez s).length),m < k → j5 (ez s)[m]) (by omega) ⟨rfl,fun m _ h=>absurd h (Nat.not_lt_zero m)⟩ ?_) ?_
   ·rintro k i hk ⟨rfl,hd⟩
    rw [holen]
    refine an.ite (fun h=>?_) (fun h=>?_)
    ·have hk':k < (ez s).length:=by have:=of_decide_eq_true h; omega
     refine an.idx (by omega) (by rw [holen]; omega) ?_
     rw [vv hk']
     refine an.ite (fun h=>?_) (fun h=>?_)
     ·simp only [Bool.or_eq_true,decide_eq_true_eq] at h
      refine an.aB (j6 F) (an.some (.inr ⟨_,rfl,.yF hni _ (List.getElem_mem hk') ?_⟩))
      unfold j5; omega
     ·simp only [Bool.or_eq_false_iff,decide_eq_false_iff_not] at h
      refine an.some (.inl ⟨_,rfl,⟨by rw [cn]; omega,fun m hm h2=>?_⟩,hk'⟩)
      by_cases e:m = k
      ·subst e; unfold j5; omega
      ·exact hd m hm (by omega)
    ·have hk':k = (ez s).length:=by have:=of_decide_eq_false h; omega
     subst hk'
     refine an.some (.inr ⟨_,rfl,fun c hc2=>?_⟩)
     obtain ⟨m,hm,rfl⟩:=List.getElem_of_mem hc2
     exact hd m hm hm
   ·rintro (u | z) hr
    ·have hd:∀ c ∈ ez s,j5 c:=hr
     clear hr
     show an (if decide (512 < ((ez s).length:Int)) = true then _ else _) _
     refine an.iff (decide_eq_false (by omega)) ?_
     have r10:-MM < 10 ∧ (10:Int) < MM:=by have:=qy; omega
     refine an.aB (yJ F (by decide) (by decide)) (an.aB (yJ F (by decide) (by decide)) ?_)
     have hz0:cm 0 = cm (dv ((ez s).take 0):Int):=by
      have e:dv ((ez s).take 0) = 0:=by rw [List.take_zero]; rfl
      exact congrArg cm (by rw [e]; rfl)
     refine an.bind (P:=fun z=>z = cm (dv (ez s):Int)) (an.rounds (ez s).length (fun (k:Nat) (st:bt × Int)=>st.2 = (k:Int) ∧ st.1 = cm (dv ((ez s).take k):Int)) (by omega) ⟨rfl,hz0⟩ ?_) ?_
     ·rintro k ⟨z,kx⟩ hk ⟨rfl,hz⟩
      dsimp only at hz
      dsimp only [b7]
      rw [hz,holen]
      clear hz
      refine an.ite (fun h=>?_) (fun h=>?_)
      ·have hk':k < (ez s).length:=by have:=of_decide_eq_true h; omega
       refine an.idx (by omega) (by rw [holen]; omega) ?_
       rw [vv hk']
       have hcd:=hd _ (List.getElem_mem hk')
       unfold j5 at hcd
       have hw:IntKind.i64.wrap (IntKind.u8.wrap (((ez s)[k].toNat:Int) - 48)) = (((ez s)[k].toNat - 48:Nat):Int):=by rw [cn,wu8]; omega
       refine an.aB (Mul_y (by omega) (bc _) (bc _)) (an.jZ _ hw (an.aB (yJ F (by omega) (by omega)) (an.aB (Add_y (by omega) (two_in _ _ _) (bc _)) (an.some (.inl ⟨_,rfl,⟨by dsimp only; rw [cn]; omega,?_⟩,hk'⟩)))))
       dsimp only
       rw [dv_take _ hk']
       generalize dv ((ez s).take k) = v
       have hdd:(ez s)[k].toNat - 48 < 10:=by omega
       generalize (ez s)[k].toNat - 48 = d at *
       have rd:-MM < (d:Int) ∧ (d:Int) < MM:=by have:=qy; omega
       have e1:((10 * v + d:Nat):Int) = (v:Int) * 10 + (d:Int):=by omega
       rw [e1]
       by_cases hv:(v:Int) < MM
       ·rw [np (a:=(v:Int)) (by omega) r10]
        show two _ (cm ((v:Int) * 10)) (cm (d:Int)) = _
        by_cases hv2:(v:Int) * 10 < MM
        ·rw [np (by omega) rd]; rfl
        ·rw [kJ (by omega),kJ (z:=(v:Int) * 10 + d) (by omega)]
         rfl
       ·rw [kJ (z:=(v:Int)) (by omega),kJ (z:=(v:Int) * 10 + d) (by omega)]
        rfl
      ·have hk':k = (ez s).length:=by have:=of_decide_eq_false h; omega
       subst hk'
       refine an.some (.inr ⟨_,rfl,?_⟩)
       rw [List.take_length]
     ·intro z hz
      rw [hz]
      clear hz
      by_cases hv:(dv (ez s):Int) < MM
      ·have hin:-MM < (dv (ez s):Int) ∧ (dv (ez s):Int) < MM:=by omega
       have hb:(cm (dv (ez s):Int)).Bad = false:=by rw [wO,decide_eq_true hin]; rfl
       refine an.iff hb (an.aB (gg F _ (bc _)) (an.some ?_))
       have hW:=(cT hin).1
       rw [if_neg (by omega)] at hW
       rw [hW,digS_ne]
       exact .num hni hd hv
      ·rw [kJ (by omega)]
       exact an.fU rfl (an.some (.long hni hd (by omega)))
    ·exact an.some hr
end Go.Proofs.YtcbbilehdaaffaaGreatDoor
namespace Go.Sk
open Go
end Go.Sk
namespace Go.Proofs.YtcbbilehdaaffaaGreatDoor
open Go Go.Sk
set_option linter.unusedSimpArgs false
set_option linter.unusedVariables false
end Go.Proofs.YtcbbilehdaaffaaGreatDoor
namespace Go.Sk
set_option linter.unusedSimpArgs false
set_option linter.unusedVariables false
open Go
theorem xH (u:Nat):(Lib.decDigits u).head? ≠ some 45:=fun h=>by
 have hne:=(rk u).1
 have hm:(45:UInt8) ∈ Lib.decDigits u:=List.mem_of_head? h
 have:=qx u _ hm
 unfold j5 at this
 exact absurd this.1 (by decide)
theorem oG {a:Int} (ra:-MM < a ∧ a < MM):vD (Lib.itoa a) (cm a,0):=by
 by_cases h:a < 0
 ·have e:Lib.itoa a = 45 :: Lib.decDigits a.natAbs:=by unfold Lib.itoa; rw [if_pos h]
  have hs:tB (Lib.itoa a) = true:=by rw [e]; rfl
  have hd:ez (Lib.itoa a) = Lib.decDigits a.natAbs:=by unfold ez; rw [hs,e]; rfl
  have hv:dv (ez (Lib.itoa a)) = a.natAbs:=by rw [hd,Ad]
  have hn:¬ tF (Lib.itoa a):=fun hh=>by
   unfold tF at hh
   rw [hd] at hh
   rcases hh with g | ⟨g,_⟩
   ·exact (rk a.natAbs).1 g
   ·have h1:=(rk a.natAbs).2 g
    have h2:=Ad a.natAbs
    rw [h1] at h2
    have h3:dv [48] = 0:=rfl
    omega
  have:=vD.num hn (by rw [hd]; exact qx _) (by rw [hv]; omega)
  rw [hs,hv,if_pos rfl] at this
  have e2:-(a.natAbs:Int) = a:=by omega
  rw [e2] at this
  exact this
 ·have e:Lib.itoa a = Lib.decDigits a.toNat:=tj (by omega)
  have hs:tB (Lib.itoa a) = false:=by rw [e]; unfold tB; exact decide_eq_false (xH _)
  have hd:ez (Lib.itoa a) = Lib.decDigits a.toNat:=by unfold ez; rw [hs,e]; rfl
  have hv:dv (ez (Lib.itoa a)) = a.toNat:=by rw [hd,Ad]
  have hn:¬ tF (Lib.itoa a):=fun hh=>by
   unfold tF at hh
   rw [hd] at hh
   rcases hh with g | ⟨g,g2⟩
   ·exact (rk a.toNat).1 g
   ·exact g2 (by rw [e]; exact (rk a.toNat).2 g)
  have:=vD.num hn (by rw [hd]; exact qx _) (by rw [hv]; omega)
  rw [hs,hv,if_neg (by decide)] at this
  have e2:(a.toNat:Int) = a:=by omega
  rw [e2] at this
  exact this
theorem DM {a:Int} (ra:-MM < a ∧ a < MM):(Lib.itoa a).length ≤ 500:=by
 by_cases h:a < 0
 ·have h1:=xi (a:=-a) (by omega)
  have e:(-a).toNat = a.natAbs:=by omega
  rw [e] at h1
  unfold Lib.itoa; rw [if_pos h,List.length_cons]; omega
 ·have h1:=xi (a:=a) ra.2
  rw [tj (by omega)]; omega
end Go.Sk
namespace Go.Sk
open Go
set_option linter.unusedSimpArgs false
set_option linter.unusedVariables false
def sl:bg → Nat
 | []=>0
 | c :: r=>if c = 47 then 0 else sl r + 1
theorem sl_le:∀ s:bg,sl s ≤ s.length
 | []=>Nat.le_refl _
 | c :: r=>by
  unfold sl
  split
  ·omega
  ·have:=sl_le r
   rw [List.length_cons]; omega
theorem An:∀ {s:bg},(∀ c ∈ s,c ≠ 47) → sl s = s.length
 | [],_=>rfl
 | c :: r,h=>by
  unfold sl
  rw [if_neg (h c (List.mem_cons_self)),An fun x hx=>h x (List.mem_cons_of_mem _ hx)]
  rfl
theorem Cy:∀ {a b:bg},(∀ c ∈ a,c ≠ 47) → sl (a ++ 47 :: b) = a.length
 | [],b,_=>by simp [sl]
 | c :: r,b,h=>by
  rw [List.cons_append]
  unfold sl
  rw [if_neg (h c (List.mem_cons_self)),Cy fun x hx=>h x (List.mem_cons_of_mem _ hx)]
  rfl
theorem xF:∀ s:bg,Lib.index s [47] = if sl s < s.length then (sl s:Int) else -1
 | []=>rfl
 | c :: r=>by
  unfold Lib.index sl
  have ih:=xF r
  have hp:List.isPrefixOf [47] (c :: r) = decide (c = 47):=by
   by_cases e:c = 47
   ·subst e; rfl
   ·simp [List.isPrefixOf,e,Ne.symm e]
  rw [hp]
  by_cases e:c = 47
  ·simp [e]
  ·rw [decide_eq_false e,if_neg (by simp),if_neg e,ih]
   by_cases h:sl r < r.length
   ·have h2:sl r + 1 < (c :: r).length:=by rw [List.length_cons]; omega
    have h3:(((sl r:Int)) == -1) = false:=by rw [beq_eq_false_iff_ne]; omega
    rw [if_pos h,if_pos h2,h3,if_neg (by simp)]
    omega
   ·have h2:¬ sl r + 1 < (c :: r).length:=by rw [List.length_cons]; omega
    rw [if_neg h,if_neg h2]
    rfl
theorem cut_sl (s:bg):Lib.cut s [47] = (s.take (sl s),s.drop (sl s + 1),decide (sl s < s.length)):=by
 unfold Lib.cut
 rw [xF]
 by_cases h:sl s < s.length
 ·rw [if_pos h,if_pos (by omega),decide_eq_true h,Int.toNat_natCast]; rfl
 ·have h2:=sl_le s
  have e:sl s = s.length:=by omega
  rw [if_neg h,if_neg (by omega),decide_eq_false h,e,List.take_length,List.drop_eq_nil_of_le (by omega)]
theorem xP {c:UInt8} (h:j5 c):c ≠ 47:=fun e=>by
 subst e
 unfold j5 at h
 exact absurd h.1 (by decide)
theorem vz (a:Int):∀ c ∈ Lib.itoa a,c ≠ 47:=fun c hc=>by
 unfold Lib.itoa at hc
 split at hc
 ·rcases List.mem_cons.1 hc with e | h
  ·subst e; decide
  ·exact xP (qx _ _ h)
 ·exact xP (qx _ _ hc)
theorem Dg {s:bg} {p:bt × Int} (h:vD s p):kC p.1:=by
 cases h with
 | ill _=>exact ow
 | yF _ _ _ _=>exact ow
 | long _ _ _=>exact ow
 | num _ _ _=>exact bc _
end Go.Sk
namespace Go.Proofs.YtcbbilehdaaffaaGreatDoor
open Go Go.Sk
set_option linter.unusedSimpArgs false
set_option linter.unusedVariables false
def yB (x:bt):bg:=match iv x with
 | some a=>Lib.itoa a
 | none=>[]
theorem Cf {x:bt} (hx:kC x):jw FF x = some (yB x):=by
 rw [Text_y vE hx]; unfold yB; try (cases iv x <;> rfl)
theorem Ak {x:bt} (hx:kC x):(yB x).length ≤ 500:=by
 unfold yB
 cases h:iv x with
 | none=>simp
 | some a=>exact DM (cu hx h).2.2
def Bm (x:bN):bg:=if (qF x).isSome = true then (if x.D = cm 1 then yB x.N else yB x.N ++ 47 :: yB x.D) else []
theorem Text_f {x:bN} (hx:kB x):j9 FF x = some (Bm x):=by
 refine an.eq ?_
 unfold j9 Bm
 refine an.aB (mv hx) ?_
 cases h:(qF x).isSome with
 | false=>exact an.fU rfl (an.some rfl)
 | true=>
  refine an.iff rfl (an.aB xd ?_)
  rw [if_pos rfl]
  refine an.ite (fun h1=>?_) (fun h1=>?_)
  ·rw [if_pos (of_decide_eq_true h1)]
   exact an.aB (Cf hx.1) (an.some rfl)
  ·have l1:=Ak hx.1
   have l2:=Ak hx.2
   rw [if_neg (of_decide_eq_false h1)]
   refine an.aB (Cf hx.1) (an.B8 (by simp; omega) (an.aB (Cf hx.2) (an.B8 (by simp; omega) (an.some (by simp)))))
def rdF (p:bt) (e:Int) (q:bt) (f:Int) (two:Bool) (b:bg):bN × Int :=
 if e = 281 ∨ f = 281 ∨ two = true ∧ (b = [48] ∨ b = [49] ∨ b.head? = some 45) then (bf,281)
 else if e ≠ 0 ∨ f ≠ 0 then (bf,30)
 else if (qF ⟨p,q⟩).isSome = true then (⟨p,q⟩,0) else (bf,281)
def RdF (s:bg) (r:bN × Int):Prop:=∃ p e q f,vD (s.take (sl s)) (p,e) ∧ (if sl s < s.length then vD (s.drop (sl s + 1)) (q,f) else q = cm 1 ∧ f = 0) ∧ r = rdF p e q f (decide (sl s < s.length)) (s.drop (sl s + 1))
theorem RdF.one {s:bg} {r t:bN × Int} (h1:RdF s r) (h2:RdF s t):r = t:=by
 obtain ⟨p,e,q,f,a1,a2,rfl⟩:=h1
 obtain ⟨p',e',q',f',b1,b2,rfl⟩:=h2
 have c1:=vD.one a1 b1
 cases c1
 by_cases h:sl s < s.length
 ·rw [if_pos h] at a2 b2
  have c2:=vD.one a2 b2
  cases c2
  rfl
 ·rw [if_neg h] at a2 b2
  rw [a2.1,a2.2,b2.1,b2.2]
theorem w4 (b:bg):Lib.hasPrefix b [45] = decide (b.head? = some 45):=by
 unfold Lib.hasPrefix
 cases b with
 | nil=>rfl
 | cons c r=>
  by_cases e:c = 45
  ·subst e; rfl
  ·simp [List.isPrefixOf,e,Ne.symm e]
theorem Parse_f {s:bg} (hl:s.length ≤ 450):an (mR FF s) (RdF s):=by
 unfold mR
 have hc:dz FF s [47] = some (s.take (sl s),s.drop (sl s + 1),decide (sl s < s.length)):=by
  unfold dz Bu
  rw [if_pos (by omega),cut_sl]
 refine an.aB hc ?_
 dsimp only [kA]
 refine an.aB xd (an.ln ?_)
 refine an.bind (Bj vE (s:=s.take (sl s)) (by rw [List.length_take]; omega)) ?_
 rintro ⟨p,e⟩ hp
 dsimp only [b7]
 refine an.bind (P:=fun t:bN × Int=>∃ q f,t = ((⟨p,q⟩:bN),f) ∧ kC q ∧ (if sl s < s.length then vD (s.drop (sl s + 1)) (q,f) else q = cm 1 ∧ f = 0)) ?_ ?_
 ·by_cases h:sl s < s.length
  ·rw [decide_eq_true h]
   refine an.fU rfl (an.bind (Bj vE (s:=s.drop (sl s + 1)) (by rw [List.length_drop]; omega)) ?_)
   rintro ⟨q,f⟩ hq
   exact an.some ⟨q,f,rfl,Dg hq,by rw [if_pos h]; exact hq⟩
  ·rw [decide_eq_false h]
   exact an.iff rfl (an.some ⟨cm 1,0,rfl,bc 1,by rw [if_neg h]; exact ⟨rfl,rfl⟩⟩)
 ·rintro t ⟨q,f,rfl,qi,hq⟩
  have hin:kB ⟨p,q⟩:=Cl (Dg hp) qi
  have fin:∀ r,r = rdF p e q f (decide (sl s < s.length)) (s.drop (sl s + 1)) → RdF s r:=fun r h=>⟨p,e,q,f,hp,hq,h⟩
  generalize s.drop (sl s + 1) = b at *
  generalize decide (sl s < s.length) = two at *
  refine an.bind (P:=fun g:Bool=>((decide (e = 281) || decide (f = 281)) || (two && ((decide (b = [48]) || decide (b = [49])) || g))) = decide (e = 281 ∨ f = 281 ∨ two = true ∧ (b = [48] ∨ b = [49] ∨ b.head? = some 45))) ?_ ?_
  ·unfold bA
   split
   ·refine ⟨_,rfl,?_⟩
    dsimp only
    rw [w4,Bool.eq_iff_iff]
    simp only [Bool.or_eq_true,Bool.and_eq_true,decide_eq_true_eq,or_assoc]
   ·next h=>
    refine ⟨default,rfl,?_⟩
    dsimp only
    rw [Bool.eq_iff_iff]
    have hd:(default:Bool) = false:=rfl
    rw [hd]
    simp only [Bool.or_eq_true,Bool.and_eq_true,decide_eq_true_eq,or_assoc,Bool.false_eq_true,or_false]
    constructor
    ·rintro (g | g | ⟨g1,g | g⟩)
     ·exact .inl g
     ·exact .inr (.inl g)
     ·exact .inr (.inr ⟨g1,.inl g⟩)
     ·exact .inr (.inr ⟨g1,.inr (.inl g)⟩)
    ·rintro (g | g | ⟨g1,g | g | g⟩)
     ·exact .inl g
     ·exact .inr (.inl g)
     ·exact .inr (.inr ⟨g1,.inl g⟩)
     ·exact .inr (.inr ⟨g1,.inr g⟩)
     ·by_cases e1:e = 281
      ·exact .inl e1
      ·by_cases f1:f = 281
       ·exact .inr (.inl f1)
       ·by_cases b1:b = [48]
        ·exact .inr (.inr ⟨g1,.inl b1⟩)
        ·by_cases b2:b = [49]
         ·exact .inr (.inr ⟨g1,.inr b2⟩)
         ·exact absurd (by simp [e1,f1,g1,b1,b2]) h
  ·intro g hg
   rw [hg]
   refine an.ln ?_
   unfold rdF at fin
   by_cases h1:e = 281 ∨ f = 281 ∨ two = true ∧ (b = [48] ∨ b = [49] ∨ b.head? = some 45)
   ·exact an.fU (decide_eq_true h1) (an.aB p7 (an.some (fin _ (by rw [if_pos h1]))))
   ·refine an.iff (decide_eq_false h1) ?_
    simp only [if_neg h1] at fin
    by_cases h2:e ≠ 0 ∨ f ≠ 0
    ·exact an.fU (by rcases h2 with h | h <;> simp [h]) (an.aB p7 (an.some (fin _ (by rw [if_pos h2]))))
    ·have e0:e = 0:=by omega
     have f0:f = 0:=by omega
     simp only [if_neg h2] at fin
     refine an.iff (by simp [e0,f0]) (an.aB (mv hin) ?_)
     cases h3:(qF ⟨p,q⟩).isSome with
     | true=>exact an.iff rfl (an.some (fin _ (by rw [h3,if_pos rfl])))
     | false=>exact an.fU rfl (an.aB p7 (an.some (fin _ (by rw [h3,if_neg (by simp)]))))
theorem get_at {q:bg} {i:Nat} (h:i < q.length):(⟨⟨q⟩⟩:ByteArray).get! (i + 0) = q[i]:=by
 show (⟨⟨q⟩⟩:ByteArray).get! i = _
 have h2:i < (⟨⟨q⟩⟩:ByteArray).size:=by show i < q.toArray.size; simpa using h
 show (q.toArray)[i]! = _
 rw [getElem!_pos q.toArray i (by simpa using h)]
 simp
theorem qI {q:bg} {i:Nat} (h:i < q.length) (hb:q[i].toNat < 128):gx q i = q[i].toNat ∧ fY q i = i + 1:=by
 unfold gx fY Utf8.decode
 simp only [get_at h]
 rw [if_pos hb]
 exact ⟨rfl,rfl⟩
theorem BG {q:bg} {i:Nat} (h:i < q.length) (hb:128 ≤ q[i].toNat):128 ≤ gx q i:=by
 unfold gx Utf8.decode
 simp only [get_at h]
 rw [if_neg (by omega)]
 repeat' split
 all_goals first | (simp only [Utf8.runeError]; omega) | (simp only [Bool.and_eq_true,decide_eq_true_eq,ge_iff_le] at *; omega) | (dsimp only; omega) | skip
def pl (p:UInt8 → Bool):bg → Nat
 | []=>0
 | c :: s=>if p c then pl p s + 1 else 0
theorem pl_t {p:UInt8 → Bool} {c:UInt8} {s:bg} (h:p c = true):pl p (c :: s) = pl p s + 1:=if_pos h
theorem pl_f {p:UInt8 → Bool} {c:UInt8} {s:bg} (h:p c = false):pl p (c :: s) = 0:=if_neg (by simp [h])
theorem sr (p:UInt8 → Bool):∀ s:bg,pl p s ≤ s.length
 | []=>Nat.le_refl _
 | c :: s=>by
  have:=sr p s
  cases hc:p c
  ·rw [pl_f hc]; exact Nat.zero_le _
  ·rw [pl_t hc,List.length_cons]; omega
theorem xc (p:UInt8 → Bool):∀ {s:bg} {i:Nat} (h:i < pl p s) (h2:i < s.length),p s[i] = true
 | c :: s,i,h,h2=>by
  cases hc:p c
  ·rw [pl_f hc] at h; omega
  ·cases i with
   | zero=>exact hc
   | succ i=>
    have h3:i < pl p s:=by rw [pl_t hc] at h; omega
    exact xc p h3 (by simpa using h2)
theorem z8 (p:UInt8 → Bool):∀ {s:bg} (h:pl p s < s.length),p (s[pl p s]) = false
 | c :: s,h=>by
  cases hc:p c
  ·simp only [pl_f hc]; exact hc
  ·have h2:pl p s < s.length:=by rw [pl_t hc] at h; simpa using h
   simp only [pl_t hc]; exact z8 p h2
def w7 (c:UInt8):Bool:=(decide (97 ≤ c.toNat) && decide (c.toNat ≤ 122)) || (decide (65 ≤ c.toNat) && decide (c.toNat ≤ 90))
def iZ (c:UInt8):Bool:=decide (48 ≤ c.toNat) && decide (c.toNat ≤ 57)
theorem isL_asc {c:UInt8} (h:w7 c = true):c.toNat < 128:=by simp [w7] at h; omega
theorem AI {c:UInt8} (h:iZ c = true):c.toNat < 128:=by simp [iZ] at h; omega
def gL (c:Int):Bool:=(decide (97 ≤ c) && decide (c ≤ 122)) || (decide (65 ≤ c) && decide (c ≤ 90))
def gD (c:Int):Bool:=decide (48 ≤ c) && decide (c ≤ 57)
theorem C5 (n:Nat):gL (n:Int) = ((decide (97 ≤ n) && decide (n ≤ 122)) || (decide (65 ≤ n) && decide (n ≤ 90))):=by
 unfold gL
 rw [show decide ((97:Int) ≤ (n:Int)) = decide (97 ≤ n) by rw [decide_eq_decide]; omega,show decide ((n:Int) ≤ 122) = decide (n ≤ 122) by rw [decide_eq_decide]; omega,show decide ((65:Int) ≤ (n:Int)) = decide (65 ≤ n) by rw [decide_eq_decide]; omega,show decide ((n:Int) ≤ 90) = decide (n ≤ 90) by rw [decide_eq_decide]; omega]
theorem gD_nat (n:Nat):gD (n:Int) = (decide (48 ≤ n) && decide (n ≤ 57)):=by
 unfold gD
 rw [show decide ((48:Int) ≤ (n:Int)) = decide (48 ≤ n) by rw [decide_eq_decide]; omega,show decide ((n:Int) ≤ 57) = decide (n ≤ 57) by rw [decide_eq_decide]; omega]
theorem index_f {s:bg} {f:Nat} {truth:Bool} {g:Int → Bool} {p:UInt8 → Bool} (hs:s.length ≤ 10000) (hf:∀ c,iP FF f c = some (g c)) (hp:∀ c:UInt8,p c = true → c.toNat < 128)
  (hg:∀ c:UInt8,(g (c.toNat:Int) == truth) = !p c) (hh:∀ c:Int,128 ≤ c → (g c == truth) = true):dL FF s f truth = some (if pl p s < s.length then (pl p s:Int) else -1):=by
 refine an.eq ?_
 unfold dL
 have hle:=sr p s
 refine an.bind (P:=fun o=>o = if pl p s < s.length then .inr (pl p s) else .inl ()) (an.rounds (pl p s) (fun k (i:Nat)=>i = k) (by have:=vE; omega) rfl ?_) ?_
 ·rintro i k hk rfl
  by_cases h:k < s.length
  ·refine an.fU (decide_eq_true h) (an.aB (hf _) ?_)
   by_cases h2:k < pl p s
   ·have hc:=xc p h2 h
    obtain ⟨e1,e2⟩:=qI h (hp _ hc)
    rw [e1,e2,hg,hc]
    exact an.iff rfl (an.some (.inl ⟨_,rfl,rfl,h2⟩))
   ·obtain rfl:k = pl p s:=by omega
    have hc:=z8 p h
    have e:(g (gx s (pl p s)) == truth) = true:=by
     by_cases hb:s[pl p s].toNat < 128
     ·rw [(qI h hb).1,hg,hc]; rfl
     ·exact hh _ (BG h (by omega))
    rw [e]
    exact an.fU rfl (an.some (.inr ⟨_,rfl,by rw [if_pos h]⟩))
  ·obtain rfl:k = pl p s:=by omega
   exact an.iff (decide_eq_false h) (an.some (.inr ⟨_,rfl,by rw [if_neg h]⟩))
 ·rintro _ rfl
  by_cases h:pl p s < s.length
  ·rw [if_pos h,if_pos h]; exact an.some rfl
  ·rw [if_neg h,if_neg h]; exact an.some rfl
theorem DE (c:Int):iP FF 173 c = some (gL c):=rfl
theorem digit_f (c:Int):iP FF 120 c = some (gD c):=rfl
theorem trim_f {s:bg} {f:Nat} {g:Int → Bool} {p:UInt8 → Bool} (hs:s.length ≤ 10000) (hf:∀ c,iP FF f c = some (g c)) (hp:∀ c:UInt8,p c = true → c.toNat < 128)
  (hg:∀ c:UInt8,g (c.toNat:Int) = p c) (hh:∀ c:Int,128 ≤ c → g c = false):dG FF s f = some (s.drop (pl p s)):=by
 refine an.eq ?_
 unfold dG
 have hle:=sr p s
 refine an.aB (index_f (truth:=false) hs hf hp (fun c=>by rw [hg]; cases p c <;> rfl) (fun c hc=>by rw [hh c hc]; rfl)) ?_
 by_cases h:pl p s < s.length
 ·rw [if_pos h]
  refine an.iff (decide_eq_false (by omega)) (an.drop (by omega) (by omega) (an.some ?_))
  rw [Int.toNat_natCast]
 ·rw [if_neg h]
  refine an.fU rfl (an.some ?_)
  rw [List.drop_of_length_le (by omega)]
theorem Cx {s:bg} {f:Nat} {g:Int → Bool} {p:UInt8 → Bool} {q:aw} {sg:Int} (hs:s.length ≤ 10000) (hf:∀ c,iP FF f c = some (g c)) (hp:∀ c:UInt8,p c = true → c.toNat < 128)
  (hg:∀ c:UInt8,g (c.toNat:Int) = p c) (hh:∀ c:Int,128 ≤ c → g c = false):cV FF f s q sg = some (s.take (pl p s),s.drop (pl p s)):=by
 refine an.eq ?_
 unfold cV
 have hle:=sr p s
 refine an.aB (trim_f hs hf hp hg hh) ?_
 rw [List.length_drop,dm (by omega) (by omega)]
 refine an.take (by omega) (by omega) (an.some ?_)
 rw [show ((s.length:Int) - ((s.length - pl p s:Nat):Int)).toNat = pl p s by omega]
theorem takeL {s:bg} {q:aw} {sg:Int} (hs:s.length ≤ 10000):cV FF 173 s q sg = some (s.take (pl w7 s),s.drop (pl w7 s)) :=
 Cx hs DE (fun c=>isL_asc) (fun c=>C5 _) (fun c hc=>by simp [gL]; omega)
theorem takeD {s:bg} {q:aw} {sg:Int} (hs:s.length ≤ 10000):cV FF 120 s q sg = some (s.take (pl iZ s),s.drop (pl iZ s)) :=
 Cx hs digit_f (fun c=>AI) (fun c=>gD_nat _) (fun c hc=>by simp [gD]; omega)
def gr (s:bg):Nat:=if s.head? = some 49 ∨ s.head? = some 37 then 1 else pl w7 s
theorem CL (s:bg):gr s ≤ s.length:=by
 unfold gr
 split
 ·cases s with
  | nil=>simp at *
  | cons c s=>simp
 ·exact sr _ _
theorem sQ {s:bg} {c:UInt8}:dM FF s [c] = some (decide (s.head? = some c)):=by
 unfold dM
 cases s with
 | nil=>rfl
 | cons b s=>
  have e:Lib.hasPrefix (b :: s) [c] = decide ((b :: s).head? = some c):=by
   rw [Bool.eq_iff_iff]; simp [Lib.hasPrefix,List.isPrefixOf]; exact eq_comm
  rw [e]
theorem name_f {s:bg} {q:aw} {sg:Int} (hs:s.length ≤ 10000):fp FF s q sg = some (s.take (gr s),s.drop (gr s)):=by
 refine an.eq ?_
 unfold fp
 refine an.aB sQ ?_
 have one:∀ {c:UInt8},s.head? = some c → gr s = 1 → an (Option.bind (oh s 1) (fun x_3=>Option.bind (ld s 1) (fun x_4=>some (x_3,x_4)))) (· = (s.take (gr s),s.drop (gr s))):=fun {c} h e=>by
  have:1 ≤ s.length:=by cases s with
   | nil=>simp at h
   | cons b s=>simp
  rw [e]
  exact an.take (by decide) (by omega) (an.drop (by decide) (by omega) (an.some rfl))
 by_cases h1:s.head? = some 49
 ·rw [decide_eq_true h1]
  exact an.g0 rfl (an.fU rfl (one h1 (if_pos (.inl h1))))
 ·rw [decide_eq_false h1]
  refine an.g1 rfl (an.aB sQ ?_)
  by_cases h2:s.head? = some 37
  ·rw [decide_eq_true h2]
   exact an.fU rfl (one h2 (if_pos (.inr h2)))
  ·rw [decide_eq_false h2]
   have e:gr s = pl w7 s:=if_neg (fun h=>h.elim h1 h2)
   rw [e]
   exact an.iff rfl (an.aB (takeL hs) (an.some rfl))
def dV (c:UInt8):Int:=(c.toNat:Int) - 48
def uN (cap:Int) (l:bg):Int:=l.foldl (fun n c=>min (n * 10 + dV c) cap) 0
theorem oN (cap:Int) (l:bg) (c:UInt8):uN cap (l ++ [c]) = min (uN cap l * 10 + dV c) cap:=by simp [uN]
theorem tk {c:UInt8} (h:iZ c = true):0 ≤ dV c ∧ dV c ≤ 9:=by simp [iZ] at h; unfold dV; omega
theorem snocI {α:Type} {M:List α → Prop} (h0:M []) (h1:∀ l c,M l → M (l ++ [c])) (l:List α):M l:=by
 have:∀ l:List α,M l.reverse:=by
  intro l
  induction l with
  | nil=>exact h0
  | cons c l ih=>rw [List.reverse_cons]; exact h1 _ _ ih
 have h:=this l.reverse
 rwa [List.reverse_reverse] at h
theorem pH {cap:Int} (hc:0 ≤ cap) {l:bg}:(∀ c ∈ l,iZ c = true) → 0 ≤ uN cap l ∧ uN cap l ≤ cap:=by
 refine snocI (M:=fun l=>(∀ c ∈ l,iZ c = true) → 0 ≤ uN cap l ∧ uN cap l ≤ cap) ?_ ?_ l
 ·intro _; exact ⟨Int.le_refl _,hc⟩
 ·intro l c ih h
  have:=ih fun x hx=>h x (by simp [hx])
  have:=tk (h c (by simp))
  rw [oN]; omega
theorem D0 {l:bg}:(∀ c ∈ l,iZ c = true) → uN 17 l = min (uN 1000 l) 17:=by
 refine snocI (M:=fun l=>(∀ c ∈ l,iZ c = true) → uN 17 l = min (uN 1000 l) 17) ?_ ?_ l
 ·intro _; rfl
 ·intro l c ih h
  have h2:=pH (cap:=1000) (by decide) (l:=l) fun x hx=>h x (by simp [hx])
  have:=ih fun x hx=>h x (by simp [hx])
  have:=tk (h c (by simp))
  rw [oN,oN]; omega
structure ExB (t:bg) (neg:Bool) (n:Int):Prop where
 bad:pl iZ t = 0 ∨ 16 < n ∨ (1 < pl iZ t ∧ t.head? = some 48) ∨ (neg = true ∧ n = 0)
instance (t:bg) (neg:Bool) (n:Int):Decidable (ExB t neg n):=decidable_of_iff (pl iZ t = 0 ∨ 16 < n ∨ (1 < pl iZ t ∧ t.head? = some 48) ∨ (neg = true ∧ n = 0)) ⟨fun h=>⟨h⟩,fun h=>h.bad⟩
def iN (s:bg):bg:=if (s.drop 1).head? = some 45 then s.drop 2 else s.drop 1
def Bq (s:bg):Bool:=decide ((s.drop 1).head? = some 45)
def tc (s:bg):Int:=uN 17 ((iN s).take (pl iZ (iN s)))
def jI (s:bg):Int × Int × bg :=
 if s.head? = some 94 then
  (if ExB (iN s) (Bq s) (tc s) then (0,280,(iN s).drop (pl iZ (iN s))) else (if Bq s = true then -tc s else tc s,0,(iN s).drop (pl iZ (iN s))))
 else (1,0,s)
theorem wi32' {z:Int} (h1:-2147483648 ≤ z) (h2:z ≤ 2147483647):IntKind.i32.wrap z = z:=by
 have e:IntKind.i32.wrap z = (z + 2147483648) % 4294967296 - 2147483648:=by
  simp [IntKind.wrap,IntKind.signed,IntKind.bits]; split <;> omega
 rw [e]; omega
theorem hasP_1 {b c:UInt8} {s:bg}:dr FF (b :: s) [c] = some (decide (b = c)):=by
 refine an.eq ?_
 unfold dr
 have e1:(((([c]:bg).length:Nat):Int) ≤ (((b :: s).length:Nat):Int)):=by simp; omega
 refine an.g1 (decide_eq_true e1) (an.take (by simp) e1 (an.ln (an.some ?_)))
 have e2:(b :: s).take ((([c]:bg).length:Nat):Int).toNat = [b]:=by simp
 rw [e2,decide_eq_true e1,Bool.true_and,decide_eq_decide]
 simp
theorem sT {s:bg} {c:UInt8}:cZ FF s [c] = some (if s.head? = some c then (s.drop 1,true) else (s,false)):=by
 refine an.eq ?_
 unfold cZ eD
 cases s with
 | nil=>exact an.of rfl
 | cons b s=>
  have e1:(((([c]:bg).length:Nat):Int) ≤ (((b :: s).length:Nat):Int)):=by simp; omega
  rw [hasP_1]
  by_cases h:b = c
  ·rw [if_pos (by rw [h]; rfl),decide_eq_true h]
   exact an.bind (P:=fun o=>o = (s,true)) (show an (if (!true) = true then some (b :: s,false) else _) _ from an.iff rfl (an.drop (by simp) e1 (an.some rfl))) (fun o ho=>by subst ho; exact an.some rfl)
  ·rw [if_neg (by simp [h]),decide_eq_false h]
   exact an.bind (P:=fun o=>o = (b :: s,false)) (show an (if (!false) = true then _ else Option.bind (ld (b :: s) (([c]:bg).length:Int)) fun x_2=>some (x_2,true)) _ from an.fU rfl (an.some rfl)) (fun o ho=>by subst ho; exact an.some rfl)
theorem uc {t:bg}:∀ c ∈ t.take (pl iZ t),iZ c = true:=by
 intro c hc
 obtain ⟨i,hi,rfl⟩:=List.getElem_of_mem hc
 rw [List.getElem_take]
 have:i < pl iZ t ∧ i < t.length:=by rw [List.length_take] at hi; omega
 exact xc iZ this.1 this.2
theorem yz {l:bg} (hl:∀ c ∈ l,iZ c = true) (hs:l.length ≤ 10000) :
  iter FF (b7 fun (n_8:Int) (xp_9:Nat)=>if decide (xp_9 < l.length) = true then (bD (IntKind.i32.wrap ((gx l xp_9) - 48)) fun x_11=>bD (IntKind.i64.wrap ((IntKind.i64.wrap (n_8 * 10)) + (IntKind.i64.wrap x_11))) fun x_12=>some (.inl (min x_12 17,fY l xp_9))) else (some (.inr n_8))) (0,0) = some (uN 17 l):=by
 refine an.eq (an.rounds l.length (fun k (s:Int × Nat)=>s = (uN 17 (l.take k),k)) (by have:=vE; omega) rfl ?_)
 rintro k ⟨n,i⟩ hk hs
 obtain ⟨rfl,rfl⟩:=Prod.mk.inj hs
 by_cases h:i < l.length
 ·have hc:=hl l[i] (List.getElem_mem h)
  have hd:=tk hc
  have hn:=pH (cap:=17) (by decide) (l:=l.take i) fun c hc=>hl c (List.mem_of_mem_take hc)
  obtain ⟨e1,e2⟩:=qI h (AI hc)
  refine an.fU (decide_eq_true h) (an.jZ (dV l[i]) ?_ (an.jZ (uN 17 (l.take i) * 10 + dV l[i]) ?_ (an.some (.inl ⟨_,rfl,?_,h⟩))))
  ·rw [e1]
   unfold dV at hd ⊢
   exact wi32' (by omega) (by omega)
  ·rw [dm (z:=dV l[i]) (by omega) (by omega),dm (z:=uN 17 (l.take i) * 10) (by omega) (by omega),dm (by omega) (by omega)]
  ·rw [e2,List.take_succ_eq_append_getElem h,oN]
 ·obtain rfl:i = l.length:=by omega
  exact an.iff (decide_eq_false h) (an.some (.inr ⟨_,rfl,by rw [List.take_length]⟩))
theorem zM {s:bg} {q:aw} {sg:Int} (hs:s.length ≤ 10000):dF FF s q sg = some (jI s):=by
 refine an.eq ?_
 unfold dF jI
 refine an.aB sT ?_
 by_cases h:s.head? = some 94
 ·rw [if_pos h,if_pos h]
  refine an.iff rfl (an.aB sT ?_)
  have e1:(if (s.drop 1).head? = some 45 then ((s.drop 1).drop 1,true) else (s.drop 1,false)) = (iN s,Bq s):=by
   unfold iN Bq
   by_cases h2:(s.drop 1).head? = some 45
   ·rw [if_pos h2,if_pos h2,decide_eq_true h2,List.drop_drop]
   ·rw [if_neg h2,if_neg h2,decide_eq_false h2]
  rw [e1]
  have lT:(iN s).length ≤ 10000:=by unfold iN; split <;> (rw [List.length_drop]; omega)
  have hD:=uc (t:=iN s)
  have hle:=sr iZ (iN s)
  have hv:=pH (cap:=17) (by decide) hD
  refine an.aB (takeD lT) (an.aB (yz hD (Nat.le_trans (by rw [List.length_take]; exact Nat.min_le_right _ _) lT)) ?_)
  show an (Option.bind (bA ((!((decide ((iN s).take (pl iZ (iN s)) = [])) || (decide (16 < tc s)))) && _) _) _) _
  have fv:0 ≤ tc s ∧ tc s ≤ 17:=hv
  have ll:((iN s).take (pl iZ (iN s))).length = pl iZ (iN s):=by rw [List.length_take]; omega
  have e0:((iN s).take (pl iZ (iN s)) = []) ↔ pl iZ (iN s) = 0:=by rw [← List.length_eq_zero_iff,ll]
  have eb:decide (1 < ((((iN s).take (pl iZ (iN s))).length:Nat):Int)) = decide (1 < pl iZ (iN s)):=by rw [ll,decide_eq_decide]; omega
  rw [eb]
  have fin:∀ (x:UInt8),(1 < pl iZ (iN s) → pl iZ (iN s) ≠ 0 → tc s ≤ 16 → ((iN s).head? = some 48 ↔ (x.toNat:Int) = 48)) →
    an (bD (((decide ((iN s).take (pl iZ (iN s)) = [])) || (decide (16 < tc s))) || ((decide (1 < pl iZ (iN s))) && (decide ((x.toNat:Int) = 48)))) fun x_14=>if (x_14 || (Bq s && (decide (tc s = 0)))) = true then (some ((0:Int),(280:Int),(iN s).drop (pl iZ (iN s)))) else (Option.bind (if Bq s = true then (some (IntKind.i64.wrap (-tc s))) else (some (tc s))) (fun n_15=>some (n_15,(0:Int),(iN s).drop (pl iZ (iN s)))))) (· = if ExB (iN s) (Bq s) (tc s) then (0,280,(iN s).drop (pl iZ (iN s))) else (if Bq s = true then -tc s else tc s,0,(iN s).drop (pl iZ (iN s)))):=fun x hx=>by
   refine an.ln ?_
   by_cases hb:ExB (iN s) (Bq s) (tc s)
   ·rw [if_pos hb]
    refine an.fU ?_ (an.some rfl)
    simp only [Bool.or_eq_true,Bool.and_eq_true,decide_eq_true_eq,e0]
    rcases hb.bad with h1 | h1 | h1 | h1
    ·exact .inl (.inl (.inl h1))
    ·exact .inl (.inl (.inr h1))
    ·by_cases h2:16 < tc s
     ·exact .inl (.inl (.inr h2))
     ·exact .inl (.inr ⟨h1.1,(hx h1.1 (by omega) (by omega)).1 h1.2⟩)
    ·exact .inr h1
   ·rw [if_neg hb]
    have hb':¬ (pl iZ (iN s) = 0 ∨ 16 < tc s ∨ (1 < pl iZ (iN s) ∧ (iN s).head? = some 48) ∨ (Bq s = true ∧ tc s = 0)):=fun h=>hb ⟨h⟩
    refine an.iff ?_ ?_
    ·rw [Bool.eq_false_iff]
     intro h2
     simp only [Bool.or_eq_true,Bool.and_eq_true,decide_eq_true_eq,e0] at h2
     rcases h2 with ((h2 | h2) | h2) | h2
     ·exact hb' (.inl h2)
     ·exact hb' (.inr (.inl h2))
     ·by_cases h3:pl iZ (iN s) = 0
      ·exact hb' (.inl h3)
      by_cases h4:16 < tc s
      ·exact hb' (.inr (.inl h4))
      exact hb' (.inr (.inr (.inl ⟨h2.1,(hx h2.1 h3 (by omega)).2 h2.2⟩)))
     ·exact hb' (.inr (.inr (.inr h2)))
    ·cases Bq s
     ·exact an.some rfl
     ·rw [dm (by omega) (by omega)]; exact an.some rfl
  by_cases hg:(!((decide ((iN s).take (pl iZ (iN s)) = [])) || (decide (16 < tc s))) && decide (1 < pl iZ (iN s))) = true
  ·rw [hg]
   have h1:1 < pl iZ (iN s):=by simp at hg; exact hg.2
   obtain ⟨c,t,ht⟩:∃ c t,iN s = c :: t:=by
    cases h2:iN s with
    | nil=>rw [h2] at h1; simp [pl] at h1
    | cons c t=>exact ⟨c,t,rfl⟩
   have ei:bB ((iN s).take (pl iZ (iN s))) 0 = some c:=by
    obtain ⟨k,hk⟩:∃ k,pl iZ (iN s) = k + 1:=⟨pl iZ (iN s) - 1,by omega⟩
    rw [hk,ht]
    exact re (by decide) (by simp)
   refine an.g1 rfl (an.aB ei (fin c fun _ _ _=>?_))
   rw [ht]
   simp only [List.head?_cons,Option.some.injEq]
   constructor
   ·rintro rfl; rfl
   ·intro h; apply UInt8.toNat_inj.1; show c.toNat = 48; omega
  ·have hg':=Bool.eq_false_iff.2 hg
   rw [hg']
   refine an.g0 rfl (fin default fun h1 h2 h3=>?_)
   exfalso
   apply hg
   simp only [Bool.and_eq_true,Bool.not_eq_true',Bool.or_eq_false_iff,decide_eq_false_iff_not,decide_eq_true_eq,e0]
   exact ⟨⟨h2,by omega⟩,h1⟩
 ·rw [if_neg h,if_neg h]
  exact an.fU rfl (an.some rfl)
theorem B9 {s:bg} {i:Nat} (h:i < s.length):bB s (i:Int) = some s[i]:=by
 rw [re (by omega) (by omega)]
 simp [idx,List.getD,h]
theorem BY {c:UInt8} (h:iZ c = false):¬ (48 ≤ c.toNat ∧ c.toNat ≤ 57):=by
 intro hx
 unfold iZ at h
 rw [decide_eq_true hx.1,decide_eq_true hx.2] at h
 exact absurd h (by decide)
theorem oO {s:bg} {a i:Nat} (h:i < (s.drop a).length):(s.drop a)[i] = s[a + i]'(by rw [List.length_drop] at h; omega):=by rw [List.getElem_drop]
theorem BI (c:Nat):dH FF (c:Int) = some (gL (c:Int)):=rfl
theorem vF {c:UInt8} {k:Nat} (hk:k < 256):((c.toNat:Int) = (k:Int)) ↔ c = UInt8.ofNat k:=by
 constructor
 ·intro h
  apply UInt8.toNat_inj.1
  rw [UInt8.toNat_ofNat_of_lt' (by simpa using hk)]
  omega
 ·rintro rfl
  rw [UInt8.toNat_ofNat_of_lt' (by simpa using hk)]
theorem rname_f {s:bg} {a:Nat} (ha:a ≤ s.length) (hs:s.length ≤ 10000):ew FF s (a:Int) = some ((a + gr (s.drop a):Nat):Int):=by
 refine an.eq ?_
 unfold ew
 have hle:=sr w7 (s.drop a)
 rw [List.length_drop] at hle
 have rest:an (Option.bind (iter FF (fun at_5=>Option.bind (bA (decide (at_5 < (s.length:Int))) (bB s at_5)) (fun x_7=>Option.bind (bA (decide (at_5 < (s.length:Int))) (dH FF (x_7.toNat:Int))) (fun x_8=>if ((decide (at_5 < (s.length:Int))) && x_8) = true then (some (.inl (IntKind.i64.wrap (at_5 + 1)))) else (some (.inr at_5))))) (a:Int)) (fun at_4=>some at_4)) (· = ((a + pl w7 (s.drop a):Nat):Int)):=by
  refine an.bind (P:=fun o=>o = ((a + pl w7 (s.drop a):Nat):Int)) (an.rounds (pl w7 (s.drop a)) (fun k (i:Int)=>i = ((a + k:Nat):Int)) (by have:=vE; omega) (by simp) ?_) (fun o ho=>by subst ho; exact an.some rfl)
  rintro k _ hk rfl
  by_cases h:a + k < s.length
  ·have h2:k < (s.drop a).length:=by rw [List.length_drop]; omega
   refine an.g1 (decide_eq_true (by omega)) (an.aB (B9 h) (an.g1 (decide_eq_true (by omega)) (an.aB (BI _) ?_)))
   rw [C5,decide_eq_true (show ((a + k:Nat):Int) < (s.length:Int) by omega),Bool.true_and]
   show an (if w7 s[a + k] = true then _ else _) _
   by_cases h3:k < pl w7 (s.drop a)
   ·have hc:=xc w7 h3 h2
    rw [oO] at hc
    rw [hc]
    exact an.fU rfl (an.some (.inl ⟨_,rfl,by rw [dm (by omega) (by omega)]; omega,h3⟩))
   ·obtain rfl:k = pl w7 (s.drop a):=by omega
    have hc:=z8 w7 h2
    rw [oO] at hc
    rw [hc]
    exact an.iff rfl (an.some (.inr ⟨_,rfl,rfl⟩))
  ·refine an.g0 (decide_eq_false (by omega)) (an.g0 (decide_eq_false (by omega)) ?_)
   rw [decide_eq_false (show ¬ ((a + k:Nat):Int) < (s.length:Int) by omega)]
   exact an.iff rfl (an.some (.inr ⟨_,rfl,by omega⟩))
 by_cases h:a < s.length
 ·have hh:(s.drop a).head? = some s[a]:=by rw [List.head?_drop,List.getElem?_eq_getElem h]
  refine an.g1 (decide_eq_true (by omega)) (an.aB (B9 h) ?_)
  rw [decide_eq_true (show ((a:Nat):Int) < (s.length:Int) by omega)]
  by_cases h1:s[a] = 49
  ·have e:decide ((s[a].toNat:Int) = 49) = true:=decide_eq_true (by rw [h1]; rfl)
   rw [e]
   refine an.g0 rfl (an.jZ true rfl (an.fU rfl (an.some ?_)))
   rw [show gr (s.drop a) = 1 from if_pos (.inl (by rw [hh,h1])),dm (by omega) (by omega)]; omega
  ·have e:decide ((s[a].toNat:Int) = 49) = false:=decide_eq_false fun x=>h1 ((vF (k:=49) (by decide)).1 x)
   rw [e]
   refine an.g1 rfl (an.aB (B9 h) ?_)
   by_cases h2:s[a] = 37
   ·refine an.jZ true (by rw [decide_eq_true (show (s[a].toNat:Int) = 37 by rw [h2]; rfl)]; rfl) (an.fU rfl (an.some ?_))
    rw [show gr (s.drop a) = 1 from if_pos (.inr (by rw [hh,h2])),dm (by omega) (by omega)]; omega
   ·refine an.jZ false (by rw [decide_eq_false (p:=(s[a].toNat:Int) = 37) (fun x=>h2 ((vF (k:=37) (by decide)).1 x))]; rfl) (an.iff rfl ?_)
    rw [show gr (s.drop a) = pl w7 (s.drop a) from if_neg (by rw [hh]; simp [h1,h2])]
    exact rest
 ·have hd:s.drop a = []:=List.drop_of_length_le (by omega)
  refine an.g0 (decide_eq_false (by omega)) ?_
  rw [decide_eq_false (show ¬ ((a:Nat):Int) < (s.length:Int) by omega)]
  refine an.g0 rfl (an.jZ false rfl (an.iff rfl ?_))
  rw [show gr (s.drop a) = pl w7 (s.drop a) from if_neg (by rw [hd]; simp)]
  exact rest
def rdE (L:Nat) (e:Int × Int × bg):sA:=if e.2.1 ≠ 0 then ⟨0,0⟩ else ⟨e.1,((L - e.2.2.length:Nat):Int)⟩
theorem At {L:Nat} {e:Int × Int × bg} (h:e.2.1 ≠ 0):rdE L e = ⟨0,0⟩:=if_pos h
theorem CD {L:Nat} {e:Int × Int × bg} (h:e.2.1 = 0):rdE L e = ⟨e.1,((L - e.2.2.length:Nat):Int)⟩:=if_neg (fun x=>x h)
theorem rexp_f {s:bg} {a:Nat} (ha:a ≤ s.length) (h0:0 < a) (hs:s.length ≤ 10000):di FF s (a:Int) = some (rdE s.length (jI (94 :: s.drop a))):=by
 refine an.eq ?_
 unfold di
 have eT:iN (94 :: s.drop a) = if (s.drop a).head? = some 45 then s.drop (a + 1) else s.drop a:=by
  unfold iN
  simp only [List.drop_succ_cons,List.drop_zero]
  rw [List.drop_drop]
 have eG:Bq (94 :: s.drop a) = decide ((s.drop a).head? = some 45):=rfl
 refine an.bind (P:=fun o=>∃ f:Nat,o = (f:Int) ∧ f ≤ s.length ∧ a ≤ f ∧ iN (94 :: s.drop a) = s.drop f ∧ Bq (94 :: s.drop a) = decide (a < f)) ?_ ?_
 ·by_cases h:a < s.length
  ·have hh:(s.drop a).head? = some s[a]:=by rw [List.head?_drop,List.getElem?_eq_getElem h]
   refine an.g1 (decide_eq_true (by omega)) (an.aB (B9 h) ?_)
   rw [decide_eq_true (show ((a:Nat):Int) < (s.length:Int) by omega)]
   by_cases h1:s[a] = 45
   ·refine an.jZ true (by rw [decide_eq_true (show (s[a].toNat:Int) = 45 by rw [h1]; rfl)]; rfl) (an.fU rfl (an.some ⟨a + 1,?_,by omega,by omega,?_,?_⟩))
    ·rw [dm (by omega) (by omega)]; rfl
    ·rw [eT,if_pos (by rw [hh,h1])]
    ·rw [eG,hh,h1]; simp
   ·refine an.jZ false (by rw [decide_eq_false (p:=(s[a].toNat:Int) = 45) (fun x=>h1 ((vF (k:=45) (by decide)).1 x))]; rfl) (an.iff rfl (an.some ⟨a,rfl,by omega,by omega,?_,?_⟩))
    ·rw [eT,if_neg (by rw [hh]; simp [h1])]
    ·rw [eG,hh]; simp [h1]
  ·have hd:s.drop a = []:=List.drop_of_length_le (by omega)
   refine an.g0 (decide_eq_false (by omega)) ?_
   rw [decide_eq_false (show ¬ ((a:Nat):Int) < (s.length:Int) by omega)]
   refine an.jZ false rfl (an.iff rfl (an.some ⟨a,rfl,by omega,by omega,?_,?_⟩))
   ·rw [eT,hd]; rfl
   ·rw [eG,hd]; simp
 rintro _ ⟨f,rfl,hf,haf,hT,hG⟩
 have hle:=sr iZ (s.drop f)
 rw [List.length_drop] at hle
 have hD:=uc (t:=s.drop f)
 refine an.bind (P:=fun o=>o = (((f + pl iZ (s.drop f):Nat):Int),uN 1000 ((s.drop f).take (pl iZ (s.drop f))))) (an.rounds (pl iZ (s.drop f)) (fun k (st:Int × Int)=>st = (((f + k:Nat):Int),uN 1000 ((s.drop f).take k))) (by have:=vE; omega) rfl ?_) ?_
 ·rintro k ⟨t,n⟩ hk hst
  obtain ⟨rfl,rfl⟩:=Prod.mk.inj hst
  by_cases h:f + k < s.length
  ·have h2:k < (s.drop f).length:=by rw [List.length_drop]; omega
   refine an.g1 (decide_eq_true (by omega)) (an.aB (B9 h) ?_)
   rw [decide_eq_true (show ((f + k:Nat):Int) < (s.length:Int) by omega),Bool.true_and]
   by_cases h3:k < pl iZ (s.drop f)
   ·have hc:=xc iZ h3 h2
    rw [oO] at hc
    have hr:=tk hc
    have hn:=pH (cap:=1000) (by decide) (l:=(s.drop f).take k) fun c hc=>hD c (by
     have:(s.drop f).take k = ((s.drop f).take (pl iZ (s.drop f))).take k:=by rw [List.take_take,Nat.min_eq_left (by omega)]
     rw [this] at hc; exact List.mem_of_mem_take hc)
    unfold dV at hr
    refine an.jZ true (decide_eq_true (by omega)) (an.g1 rfl (an.aB (B9 h) (an.fU (by rw [decide_eq_true (by omega)]; rfl) (an.aB (B9 h) (an.jZ ((s[f + k].toNat:Int) - 48) ?_ (an.jZ (uN 1000 ((s.drop f).take k) * 10 + ((s[f + k].toNat:Int) - 48)) ?_ (an.some (.inl ⟨_,rfl,?_,h3⟩))))))))
    ·rw [wu8]; omega
    ·rw [dm (z:=uN 1000 _ * 10) (by omega) (by omega),dm (z:=(s[f + k].toNat:Int) - 48) (by omega) (by omega),dm (by omega) (by omega)]
    ·rw [dm (by omega) (by omega),List.take_succ_eq_append_getElem h2,oN,oO]; rfl
   ·obtain rfl:k = pl iZ (s.drop f):=by omega
    have hc:=z8 iZ h2
    rw [oO] at hc
    have:=BY hc
    by_cases h4:(48:Int) ≤ (s[f + pl iZ (s.drop f)].toNat:Int)
    ·refine an.jZ true (decide_eq_true h4) (an.g1 rfl (an.aB (B9 h) (an.iff (by rw [decide_eq_false (by omega)]; rfl) (an.some (.inr ⟨_,rfl,rfl⟩)))))
    ·refine an.jZ false (decide_eq_false h4) (an.g0 rfl (an.iff rfl (an.some (.inr ⟨_,rfl,rfl⟩))))
  ·refine an.g0 (decide_eq_false (by omega)) ?_
   rw [decide_eq_false (show ¬ ((f + k:Nat):Int) < (s.length:Int) by omega)]
   obtain rfl:k = pl iZ (s.drop f):=by omega
   exact an.jZ false rfl (an.g0 rfl (an.iff rfl (an.some (.inr ⟨_,rfl,rfl⟩))))
 rintro _ rfl
 have hcap:=D0 hD
 have hrng:=pH (cap:=1000) (by decide) hD
 have hV:tc (94 :: s.drop a) = min (uN 1000 ((s.drop f).take (pl iZ (s.drop f)))) 17:=by unfold tc; rw [hT]; exact hcap
 generalize hN:uN 1000 ((s.drop f).take (pl iZ (s.drop f))) = N at hV hrng ⊢
 generalize hk:pl iZ (s.drop f) = k at hle ⊢
 show an (Option.bind (bA ((!((decide (((f + k:Nat):Int) = (f:Int))) || (decide (16 < N)))) && (decide (1 < (IntKind.i64.wrap (((f + k:Nat):Int) - (f:Int)))))) (bB s (f:Int))) _) _
 rw [show IntKind.i64.wrap (((f + k:Nat):Int) - (f:Int)) = (k:Int) by rw [dm (by omega) (by omega)]; omega]
 have hS:jI (94 :: s.drop a) = if ExB (s.drop f) (decide (a < f)) (min N 17) then (0,280,(s.drop f).drop k) else (if decide (a < f) = true then -(min N 17) else min N 17,0,(s.drop f).drop k):=by
  unfold jI
  rw [if_pos (show (94 :: s.drop a).head? = some 94 from rfl),hT,hG,hV,hk]
 have hlen:(s.length - ((s.drop f).drop k).length:Nat) = f + k:=by rw [List.length_drop,List.length_drop]; omega
 have fin:∀ (x:UInt8),(1 < k → N ≤ 16 → ((s.drop f).head? = some 48 ↔ (x.toNat:Int) = 48)) →
   an (bD (((decide (((f + k:Nat):Int) = (f:Int))) || (decide (16 < N))) || ((decide (1 < (k:Int))) && (decide ((x.toNat:Int) = 48)))) fun x_17=>if (x_17 || ((decide ((a:Int) < (f:Int))) && (decide (N = 0)))) = true then (some (⟨0,0⟩:sA)) else (Option.bind (if (decide ((a:Int) < (f:Int))) = true then (some (IntKind.i64.wrap (-N))) else (some N)) (fun n_18=>some (⟨n_18,((f + k:Nat):Int)⟩:sA)))) (· = rdE s.length (jI (94 :: s.drop a))):=fun x hx=>by
  refine an.ln ?_
  have e1:decide ((a:Int) < (f:Int)) = decide (a < f):=by rw [decide_eq_decide]; omega
  rw [e1]
  by_cases hb:ExB (s.drop f) (decide (a < f)) (min N 17)
  ·rw [hS.trans (if_pos hb),At (by decide:(280:Int) ≠ 0)]
   refine an.fU ?_ (an.some rfl)
   simp only [Bool.or_eq_true,Bool.and_eq_true,decide_eq_true_eq]
   have hb':=hb.bad
   rw [hk] at hb'
   rcases hb' with h1 | h1 | h1 | h1
   ·exact .inl (.inl (.inl (by omega)))
   ·exact .inl (.inl (.inr (by omega)))
   ·by_cases h2:16 < N
    ·exact .inl (.inl (.inr h2))
    ·exact .inl (.inr ⟨by omega,(hx (by omega) (by omega)).1 h1.2⟩)
   ·exact .inr ⟨by simpa using h1.1,by omega⟩
  ·rw [hS.trans (if_neg hb),CD rfl]
   have hb':¬ (k = 0 ∨ 16 < min N 17 ∨ (1 < k ∧ (s.drop f).head? = some 48) ∨ (decide (a < f) = true ∧ min N 17 = 0)):=fun h=>hb ⟨by rw [hk]; exact h⟩
   have hN16:N ≤ 16:=by
    by_cases h:N ≤ 16
    ·exact h
    ·exact absurd (.inr (.inl (by omega))) hb'
   refine an.iff ?_ ?_
   ·rw [Bool.eq_false_iff]
    intro h2
    simp only [Bool.or_eq_true,Bool.and_eq_true,decide_eq_true_eq] at h2
    rcases h2 with ((h2 | h2) | h2) | h2
    ·exact hb' (.inl (by omega))
    ·omega
    ·exact hb' (.inr (.inr (.inl ⟨by omega,(hx (by omega) hN16).2 h2.2⟩)))
    ·exact hb' (.inr (.inr (.inr ⟨decide_eq_true h2.1,by omega⟩)))
   ·dsimp only
    rw [hlen,Int.min_eq_left (by omega)]
    cases decide (a < f)
    ·exact an.some rfl
    ·rw [dm (by omega) (by omega)]; exact an.some rfl
 by_cases hg:(!((decide (((f + k:Nat):Int) = (f:Int))) || (decide (16 < N))) && decide (1 < (k:Int))) = true
 ·rw [hg]
  have h1:1 < k:=by simp at hg; omega
  have hfl:f < s.length:=by omega
  have hh:(s.drop f).head? = some s[f]:=by rw [List.head?_drop,List.getElem?_eq_getElem hfl]
  refine an.g1 rfl (an.aB (B9 hfl) (fin _ fun _ _=>?_))
  rw [hh]
  constructor
  ·intro h; rw [Option.some.inj h]; rfl
  ·intro h; exact congrArg some ((vF (k:=48) (by decide)).1 h)
 ·have hg':=Bool.eq_false_iff.2 hg
  rw [hg']
  refine an.g0 rfl (fin default fun h1 h3=>?_)
  exfalso
  apply hg
  rw [decide_eq_false (show ¬ ((f + k:Nat):Int) = (f:Int) by omega),decide_eq_false (by omega),decide_eq_true (show (1:Int) < (k:Int) by omega)]; rfl
noncomputable def B6 (x:gv):bN:=uM (cm x.n) (cm x.d)
theorem zd (x:gv):kB (B6 x):=yQ _ _
def vG (x:gv):Bool:=decide (-9223372036854775808 ≤ x.n ∧ x.n ≤ 9223372036854775807) && decide (-9223372036854775808 ≤ x.d ∧ x.d ≤ 9223372036854775807) && vU x.unit && !decide (x.name = [])
theorem rq:∀ x ∈ cE,vG x = true:=by
 have h:cE.all vG = true:=by decide
 exact fun x hx=>List.all_eq_true.1 h x hx
theorem mJ {x:gv} (h:vG x = true):((-9223372036854775808 ≤ x.n ∧ x.n ≤ 9223372036854775807) ∧ (-9223372036854775808 ≤ x.d ∧ x.d ≤ 9223372036854775807)) ∧ vU x.unit = true ∧ x.name ≠ []:=by
 simp only [vG,Bool.and_eq_true,decide_eq_true_eq,Bool.not_eq_true',decide_eq_false_iff_not] at h
 exact ⟨h.1.1,h.1.2,h.2⟩
def nameOf (s:bg):Option gv:=cE.find? fun x=>decide (x.name = s)
theorem uC {s:bg} {x:gv} (h:nameOf s = some x):x ∈ cE:=List.mem_of_find?_eq_some h
def ofC (x:gv):Option qm:=Option.bind (aM FF x.n x.d x.unit.M x.unit.Kg x.unit.S) (fun x_1=>some x_1)
def vW (s:bg):List gv → Option qm
 | []=>bD (⟨zQ,5⟩:qm) fun x_24=>some x_24
 | x :: l=>if (decide (s = x.name)) = true then ofC x else vW s l
theorem yf (s:bg):ey FF s = vW s cE:=rfl
theorem rof_q {n d m k s:Int} (hn:-9223372036854775808 ≤ n ∧ n ≤ 9223372036854775807) (hd:-9223372036854775808 ≤ d ∧ d ≤ 9223372036854775807):aM FF n d m k s = some ⟨⟨uM (cm n) (cm d),⟨m,k,s⟩⟩,0⟩:=by
 refine an.eq ?_
 unfold aM
 exact an.aB (rFrac_f hn hd) (an.ln (an.some rfl))
theorem Bg (s:bg):∀ l:List gv,(∀ x ∈ l,vG x = true) → vW s l = some (match l.find? fun x=>decide (x.name = s) with
  | some x=>⟨⟨B6 x,x.unit⟩,0⟩
  | none=>⟨zQ,5⟩)
 | [],_=>rfl
 | x :: l,h=>by
  have h1:=mJ (h x (by simp))
  unfold vW
  by_cases e:s = x.name
  ·have e2:((x :: l).find? fun x=>decide (x.name = s)) = some x:=by rw [List.find?_cons,decide_eq_true e.symm]
   rw [if_pos (decide_eq_true e),e2]
   unfold ofC
   rw [rof_q h1.1.1 h1.1.2]; rfl
  ·have e2:((x :: l).find? fun x=>decide (x.name = s)) = l.find? fun x=>decide (x.name = s):=by rw [List.find?_cons,decide_eq_false (Ne.symm e)]
   rw [if_neg (by simp [e]),e2,Bg s l fun y hy=>h y (by simp [hy])]
theorem rName_f (s:bg):ey FF s = some (match nameOf s with
  | some x=>⟨⟨B6 x,x.unit⟩,0⟩
  | none=>⟨zQ,5⟩):=(yf s).trans (Bg s _ rq)
noncomputable def Bo (w:bN) (neg:Bool) (v:bN):Nat → bN
 | 0=>v
 | k + 1=>if neg = true then sZ (Bo w neg v k) w else tE (Bo w neg v k) w
theorem tS {w v:bN} {neg:Bool} (hv:kB v):∀ k,kB (Bo w neg v k)
 | 0=>hv
 | k + 1=>by unfold Bo; split; exact wL _ _; exact Ay _ _
noncomputable def n9 (q:aw) (x:gv) (n:Int):aw × Int :=
 if (tz q.U x.unit n).2 ≠ 0 then (zQ,(tz q.U x.unit n).2) else uP (Bo (B6 x) (decide (n < 0)) q.V n.natAbs) (tz q.U x.unit n).1
theorem Frac_n {x:gv} (h:vG x = true):lB FF x.n x.d = some (B6 x):=Frac_f (mJ h).1.1 (mJ h).1.2
theorem Dv {x:gv} {q:aw} {t:bg} {sg:Int} {u:aX} {n:Int} {c:Nat} {neg:Bool} (hx:vG x = true) (hq:kB q.V) (hn:-16 ≤ n ∧ n ≤ 16) (hc:c = if neg = true then 21 else 25) :
  iter FF (b7 fun (r_12:Reader) (x_13:Int)=>if (decide (x_13 < (max n (IntKind.i64.wrap (-n))))) = true then (Option.bind (lB FF x.n x.d) (fun x_15=>Option.bind (ic FF c r_12.q.V x_15) (fun x_16=>some (.inl ((⟨r_12.s,(⟨x_16,r_12.q.U⟩:aw),r_12.sign⟩:Reader),IntKind.i64.wrap (x_13 + 1)))))) else (some (.inr r_12))) ((⟨t,(⟨q.V,u⟩:aw),sg⟩:Reader),0) = some ⟨t,⟨Bo (B6 x) neg q.V n.natAbs,u⟩,sg⟩:=by
 rw [AB hn]
 refine an.eq (an.rounds n.natAbs (fun k (s:Reader × Int)=>s = (⟨t,⟨Bo (B6 x) neg q.V k,u⟩,sg⟩,(k:Int))) (by have:=FF1; omega) rfl ?_)
 rintro k ⟨r,i⟩ hk hs
 obtain ⟨rfl,rfl⟩:=Prod.mk.inj hs
 by_cases h:k < n.natAbs
 ·refine an.fU (decide_eq_true (by omega)) (an.aB (Frac_n hx) (an.aB (x:=Bo (B6 x) neg q.V (k + 1)) ?_ (an.some (.inl ⟨_,rfl,?_,h⟩))))
  ·have i1:=tS (w:=B6 x) (neg:=neg) hq k
   cases neg
   ·subst hc; exact Cq i1 (zd x)
   ·subst hc; exact Div_f i1 (zd x)
  ·rw [dm (by omega) (by omega)]; rfl
 ·exact an.iff (decide_eq_false (by omega)) (an.some (.inr ⟨_,rfl,by rw [show k = n.natAbs by omega]⟩))
theorem BH {w v:bN} {n:Int} (hw:kB w) (hv:kB v) (hn:-16 ≤ n ∧ n ≤ 16) :
  iter FF (b7 fun (v_8:bN) (i_9:Int)=>if (decide (i_9 < (max n (IntKind.i64.wrap (-n))))) = true then (Option.bind (if (decide (0 < n)) = true then (Option.bind (lu FF v_8 w) (fun x_12=>some x_12)) else (Option.bind (lx FF v_8 w) (fun x_13=>some x_13))) (fun v_11=>some (.inl (v_11,IntKind.i64.wrap (i_9 + 1))))) else (some (.inr v_8))) (v,0) = some (Bo w (decide (n < 0)) v n.natAbs):=by
 rw [AB hn]
 refine an.eq (an.rounds n.natAbs (fun k (s:bN × Int)=>s = (Bo w (decide (n < 0)) v k,(k:Int))) (by have:=FF1; omega) rfl ?_)
 rintro k ⟨r,i⟩ hk hs
 obtain ⟨rfl,rfl⟩:=Prod.mk.inj hs
 by_cases h:k < n.natAbs
 ·have i1:=tS (w:=w) (neg:=decide (n < 0)) hv k
  refine an.fU (decide_eq_true (by omega)) (an.bind (P:=fun o=>o = Bo w (decide (n < 0)) v (k + 1)) ?_ ?_)
  ·by_cases h1:0 < n
   ·have e:decide (n < 0) = false:=decide_eq_false (by omega)
    rw [e] at i1 ⊢
    exact an.fU (decide_eq_true h1) (an.aB (CG i1 hw) (an.some rfl))
   ·have e:decide (n < 0) = true:=decide_eq_true (by omega)
    rw [e] at i1 ⊢
    exact an.iff (decide_eq_false h1) (an.aB (CI i1 hw) (an.some rfl))
  ·rintro _ rfl
   exact an.some (.inl ⟨_,rfl,by rw [dm (by omega) (by omega)]; rfl,h⟩)
 ·exact an.iff (decide_eq_false (by omega)) (an.some (.inr ⟨_,rfl,by rw [show k = n.natAbs by omega]⟩))
theorem ru {q:aw} {x:gv} {n:Int} (h:(tz q.U x.unit n).2 ≠ 0):n9 q x n = (zQ,(tz q.U x.unit n).2):=if_pos h
theorem tt {q:aw} {x:gv} {n:Int} (h:(tz q.U x.unit n).2 = 0):n9 q x n = uP (Bo (B6 x) (decide (n < 0)) q.V n.natAbs) (tz q.U x.unit n).1:=if_neg fun e=>e h
theorem Dm {q:aw} {x:gv} {n:Int} {over:Bool} (hx:vG x = true) (hq:kB q.V) (hu:vU q.U = true) (hn:-16 ≤ n ∧ n ≤ 16):dS FF q ⟨B6 x,x.unit⟩ n over = some (gdo (n9 q x (if over = true then -n else n))):=by
 refine an.eq ?_
 unfold dS
 refine an.bind (P:=fun o=>o = if over = true then -n else n) ?_ ?_
 ·cases over
  ·exact an.some rfl
  ·exact an.fU rfl (an.some (by rw [dm (by omega) (by omega)]; rfl))
 intro m hm
 rw [← hm]
 have hm16:-16 ≤ m ∧ m ≤ 16:=by rw [hm]; split <;> omega
 clear hm
 obtain ⟨a1,a2,a3⟩:=vJ.1 hu
 obtain ⟨b1,b2,b3⟩:=vJ.1 (mJ hx).2.1
 have hc:=vV hu (mJ hx).2.1 (yK.2 hm16)
 refine an.jZ _ (mK a1 hm16 b1) (an.jZ _ (mK a2 hm16 b2) (an.jZ _ (mK a3 hm16 b3) (an.aB (xw (B' q.U x.unit m)) ?_)))
 cases h:vU (B' q.U x.unit m)
 ·rw [h,if_neg (by decide)] at hc
  rw [ru (by rw [hc]; decide),hc]
  exact an.fU rfl (an.some rfl)
 ·rw [h,if_pos rfl] at hc
  rw [tt (by rw [hc]),hc]
  exact an.iff rfl (an.aB (BH (zd x) hq hm16) (an.aB (yd (tS hq _)) (an.some rfl)))
theorem A' (s:bg) (h:(jI s).2.1 = 0):-16 ≤ (jI s).1 ∧ (jI s).1 ≤ 16:=by
 unfold jI at h ⊢
 split at h
 ·next h0=>
  rw [if_pos h0]
  split at h
  ·simp at h
  ·next hb=>
   rw [if_neg hb]
   have hv:=pH (cap:=17) (by decide) (uc (t:=iN s))
   have h16:¬ 16 < tc s:=fun x=>hb ⟨.inr (.inl x)⟩
   have:0 ≤ tc s:=hv.1
   dsimp only
   split <;> omega
 ·next h0=>rw [if_neg h0]; dsimp only; omega
theorem wJ (s:bg):(jI s).2.2.length ≤ s.length:=by
 unfold jI
 have:(iN s).length ≤ s.length:=by unfold iN; split <;> (rw [List.length_drop]; omega)
 split
 ·split <;> (dsimp only; rw [List.length_drop]; omega)
 ·exact Nat.le_refl _
noncomputable def fF (s:bg) (q:aw) (sg:Int):aw × Int × bg :=
 if s.take (gr s) = [] then (zQ,280,[]) else match nameOf (s.take (gr s)) with
  | none=>(zQ,5,[])
  | some x=>if (jI (s.drop (gr s))).2.1 ≠ 0 then (zQ,280,[]) else
    if (n9 q x (sg * (jI (s.drop (gr s))).1)).2 ≠ 0 then (zQ,(n9 q x (sg * (jI (s.drop (gr s))).1)).2,[]) else
    ((n9 q x (sg * (jI (s.drop (gr s))).1)).1,0,(jI (s.drop (gr s))).2.2)
inductive PR:bg → aw → Int → aw × Int → Prop
 | err {s:bg} {q:aw} {sg:Int} (h:(fF s q sg).2.1 ≠ 0):PR s q sg (zQ,(fF s q sg).2.1)
 | fin {s:bg} {q:aw} {sg:Int} (h:(fF s q sg).2.1 = 0) (h2:(fF s q sg).2.2 = []):PR s q sg ((fF s q sg).1,0)
 | mul {s t:bg} {q:aw} {sg:Int} {r:aw × Int} (h:(fF s q sg).2.1 = 0) (h2:(fF s q sg).2.2 = 42 :: t) (h3:PR t (fF s q sg).1 1 r):PR s q sg r
 | div {s t:bg} {q:aw} {sg:Int} {r:aw × Int} (h:(fF s q sg).2.1 = 0) (h2:(fF s q sg).2.2 = 47 :: t) (h3:PR t (fF s q sg).1 (-1) r):PR s q sg r
 | bad {s t:bg} {q:aw} {sg:Int} {c:UInt8} (h:(fF s q sg).2.1 = 0) (h2:(fF s q sg).2.2 = c :: t) (h3:c ≠ 42) (h4:c ≠ 47):PR s q sg (zQ,280)
theorem PR.one {s:bg} {q:aw} {sg:Int} {r r':aw × Int} (h:PR s q sg r) (h':PR s q sg r'):r = r':=by
 induction h with
 | err h=>cases h' with
  | err _=>rfl
  | fin h1=>exact absurd h1 h
  | mul h1=>exact absurd h1 h
  | div h1=>exact absurd h1 h
  | bad h1=>exact absurd h1 h
 | fin h h2=>cases h' with
  | err h1=>exact absurd h h1
  | fin _ _=>rfl
  | mul _ h1=>rw [h2] at h1; cases h1
  | div _ h1=>rw [h2] at h1; cases h1
  | bad _ h1=>rw [h2] at h1; cases h1
 | mul h h2 h3 ih=>cases h' with
  | err h1=>exact absurd h h1
  | fin _ h1=>rw [h2] at h1; cases h1
  | mul _ h1 h4=>rw [h2] at h1; cases h1; exact ih h4
  | div _ h1=>rw [h2] at h1; cases h1
  | bad _ h1 h4=>rw [h2] at h1; cases h1; exact absurd rfl h4
 | div h h2 h3 ih=>cases h' with
  | err h1=>exact absurd h h1
  | fin _ h1=>rw [h2] at h1; cases h1
  | mul _ h1=>rw [h2] at h1; cases h1
  | div _ h1 h4=>rw [h2] at h1; cases h1; exact ih h4
  | bad _ h1 h4 h5=>rw [h2] at h1; cases h1; exact absurd rfl h5
 | bad h h2 h3 h4=>cases h' with
  | err h1=>exact absurd h h1
  | fin _ h1=>rw [h2] at h1; cases h1
  | mul _ h1=>rw [h2] at h1; cases h1; exact absurd rfl h3
  | div _ h1=>rw [h2] at h1; cases h1; exact absurd rfl h4
  | bad _ _=>rfl
theorem wH {s:bg} {q:aw} {sg:Int} (h:s.take (gr s) = []):fF s q sg = (zQ,280,[]):=if_pos h
theorem wF {s:bg} {q:aw} {sg:Int} (h:s.take (gr s) ≠ []) (h1:nameOf (s.take (gr s)) = none):fF s q sg = (zQ,5,[]):=by unfold fF; rw [if_neg h,h1]
theorem wI {s:bg} {q:aw} {sg:Int} {x:gv} (h:s.take (gr s) ≠ []) (h1:nameOf (s.take (gr s)) = some x) (h2:(jI (s.drop (gr s))).2.1 ≠ 0):fF s q sg = (zQ,280,[]):=by unfold fF; rw [if_neg h,h1]; exact if_pos h2
theorem tr {s:bg} {q:aw} {sg:Int} {x:gv} (h:s.take (gr s) ≠ []) (h1:nameOf (s.take (gr s)) = some x) (h2:(jI (s.drop (gr s))).2.1 = 0) (h3:(n9 q x (sg * (jI (s.drop (gr s))).1)).2 ≠ 0):fF s q sg = (zQ,(n9 q x (sg * (jI (s.drop (gr s))).1)).2,[]):=by
 unfold fF; rw [if_neg h,h1]; dsimp only; rw [if_neg (fun e=>e h2),if_pos h3]
theorem wG {s:bg} {q:aw} {sg:Int} {x:gv} (h:s.take (gr s) ≠ []) (h1:nameOf (s.take (gr s)) = some x) (h2:(jI (s.drop (gr s))).2.1 = 0) (h3:(n9 q x (sg * (jI (s.drop (gr s))).1)).2 = 0):fF s q sg = ((n9 q x (sg * (jI (s.drop (gr s))).1)).1,0,(jI (s.drop (gr s))).2.2):=by
 unfold fF; rw [if_neg h,h1]; dsimp only; rw [if_neg (fun e=>e h2),if_neg (fun e=>e h3)]
theorem A9 {q:aw} {x:gv} {n:Int} (hx:vG x = true) (hq:kB q.V) (h:(n9 q x n).2 = 0):kB (n9 q x n).1.V ∧ vU (n9 q x n).1.U = true:=by
 by_cases hc:(tz q.U x.unit n).2 = 0
 ·rw [tt hc] at h ⊢
  unfold uP at h ⊢
  split at h
  ·next h1=>
   rw [if_pos h1]
   refine ⟨tS hq _,?_⟩
   show vU (tz q.U x.unit n).1 = true
   cases a1:vU q.U
   ·rw [xS a1] at hc; simp at hc
   cases a2:sm n
   ·rw [xR a2] at hc; simp at hc
   have hc2:=vV a1 (mJ hx).2.1 a2
   cases a3:vU (B' q.U x.unit n)
   ·rw [a3,if_neg (by decide)] at hc2; rw [hc2] at hc; simp at hc
   ·rw [a3,if_pos rfl] at hc2; rw [hc2]; exact a3
  ·simp at h
 ·rw [ru hc] at h; exact absurd h hc
theorem rf {s:bg} {q:aw} {sg:Int} (hq:kB q.V) (h:(fF s q sg).2.1 = 0):kB (fF s q sg).1.V ∧ vU (fF s q sg).1.U = true ∧ (fF s q sg).2.2.length < s.length:=by
 by_cases h0:s.take (gr s) = []
 ·rw [wH h0] at h; simp at h
 cases h1:nameOf (s.take (gr s)) with
 | none=>rw [wF h0 h1] at h; simp at h
 | some x=>
  by_cases h2:(jI (s.drop (gr s))).2.1 = 0
  ·by_cases h3:(n9 q x (sg * (jI (s.drop (gr s))).1)).2 = 0
   ·rw [wG h0 h1 h2 h3]
    have a:=A9 (rq _ (uC h1)) hq h3
    refine ⟨a.1,a.2,?_⟩
    have b:=wJ (s.drop (gr s))
    have c:1 ≤ gr s:=by
     by_cases e:gr s = 0
     ·rw [e] at h0; exact absurd rfl h0
     ·omega
    have d:=CL s
    rw [List.length_drop] at b
    show (jI (s.drop (gr s))).2.2.length < s.length
    omega
   ·rw [tr h0 h1 h2 h3] at h; exact absurd h h3
  ·rw [wI h0 h1 h2] at h; simp at h
theorem exS_er {s:bg} (h:(jI s).2.1 ≠ 0):(jI s).2.1 = 280:=by
 unfold jI at h ⊢
 split at h
 ·next h0=>
  rw [if_pos h0]
  split at h
  ·next h1=>rw [if_pos h1]
  ·simp at h
 ·simp at h
theorem DY {s:bg} {q:aw} {sg:Int} (hs:s.length ≤ 10000) (hq:kB q.V) (hsg:sg = 1 ∨ sg = -1) :
  an (eu FF s q sg) fun o=>o.1 = (fF s q sg).2.1 ∧ ((fF s q sg).2.1 = 0 → o = (0,(fF s q sg).2.2,(fF s q sg).1,sg)):=by
 unfold eu
 refine an.aB (name_f hs) ?_
 by_cases h0:s.take (gr s) = []
 ·rw [wH h0]
  exact an.fU (decide_eq_true h0) (an.some ⟨rfl,fun e=>by simp at e⟩)
 refine an.iff (decide_eq_false h0) ?_
 have hlen:(s.drop (gr s)).length ≤ 10000:=by rw [List.length_drop]; omega
 refine an.bind (P:=fun o=>match nameOf (s.take (gr s)) with
  | none=>o = .inl ()
  | some x=>∃ p:Int × bg × aw × Int,o = .inr p ∧ p.1 = (fF s q sg).2.1 ∧ ((fF s q sg).2.1 = 0 → p = (0,(fF s q sg).2.2,(fF s q sg).1,sg))) ?_ ?_
 ·refine an.rounds 23 (fun k (i:Int)=>i = (k:Int) ∧ (cE.drop k).find? (fun x=>decide (x.name = s.take (gr s))) = nameOf (s.take (gr s))) (by have:=FF1; omega) ⟨rfl,rfl⟩ ?_
  rintro k _ hk ⟨rfl,hf⟩
  by_cases h:k < 23
  ·have hl:k < cE.length:=h
   rw [List.drop_eq_getElem_cons hl,List.find?_cons] at hf
   have hi:bB cE (k:Int) = some cE[k]:=by
    rw [re (by omega) (by omega)]
    simp [idx,List.getD,hl]
   have hm:cE[k] ∈ cE:=List.getElem_mem hl
   generalize cE[k] = x at hf hi hm
   refine an.fU (decide_eq_true (by omega)) ?_
   have hx:=rq x hm
   by_cases e:x.name = s.take (gr s)
   ·rw [decide_eq_true e] at hf
    have h1:nameOf (s.take (gr s)) = some x:=hf.symm
    rw [h1]
    refine an.bind (P:=fun o=>∃ p:Int × bg × aw × Int,o = .inr p ∧ p.1 = (fF s q sg).2.1 ∧ ((fF s q sg).2.1 = 0 → p = (0,(fF s q sg).2.2,(fF s q sg).1,sg))) ?_ ?_
    ·refine an.aB hi (an.iff (decide_eq_false fun y=>y e) (an.aB (zM hlen) ?_))
     by_cases h2:(jI (s.drop (gr s))).2.1 = 0
     ·have hr:=A' _ h2
      have hn:-16 ≤ sg * (jI (s.drop (gr s))).1 ∧ sg * (jI (s.drop (gr s))).1 ≤ 16:=by rcases hsg with rfl | rfl <;> omega
      have hab:(sg * (jI (s.drop (gr s))).1).natAbs = ((jI (s.drop (gr s))).1).natAbs:=by rcases hsg with rfl | rfl <;> omega
      refine an.iff (decide_eq_false fun y=>y h2) ?_
      rw [dm (z:=sg * (jI (s.drop (gr s))).1) (by omega) (by omega)]
      refine an.aB (vC _ _ _) ?_
      by_cases h3:(tz q.U x.unit (sg * (jI (s.drop (gr s))).1)).2 = 0
      ·refine an.iff (decide_eq_false fun y=>y h3) ?_
       refine an.bind (P:=fun c=>c = if decide (sg * (jI (s.drop (gr s))).1 < 0) = true then 21 else 25) (an.ite (fun y=>an.some (by rw [if_pos y])) (fun y=>an.some (by rw [if_neg (by rw [y]; decide)]))) ?_
       intro c hc
       refine an.aB (Dv hx hq hr hc) (an.aB (mv (tS hq _)) ?_)
       have hfs:=tt h3
       rw [hab] at hfs
       unfold uP at hfs
       cases h4:(qF (Bo (B6 x) (decide (sg * (jI (s.drop (gr s))).1 < 0)) q.V ((jI (s.drop (gr s))).1).natAbs)).isSome
       ·rw [h4,if_neg (by decide)] at hfs
        refine an.fU rfl (an.some ⟨_,rfl,?_⟩)
        rw [tr h0 h1 h2 (by rw [hfs]; decide),hfs]
        exact ⟨rfl,fun y=>by simp at y⟩
       ·rw [h4,if_pos rfl] at hfs
        refine an.iff rfl (an.some ⟨_,rfl,?_⟩)
        rw [wG h0 h1 h2 (by rw [hfs]),hfs]
        exact ⟨rfl,fun _=>rfl⟩
      ·refine an.fU (decide_eq_true h3) (an.some ⟨_,rfl,?_⟩)
       have hfs:=ru h3
       rw [tr h0 h1 h2 (by rw [hfs]; exact h3),hfs]
       exact ⟨rfl,fun y=>absurd y h3⟩
     ·refine an.fU (decide_eq_true h2) (an.some ⟨_,rfl,?_⟩)
      rw [wI h0 h1 h2]
      exact ⟨exS_er h2,fun y=>by simp at y⟩
    ·rintro _ ⟨p,rfl,hp⟩
     exact an.some (.inr ⟨_,rfl,p,rfl,hp⟩)
   ·rw [decide_eq_false e] at hf
    refine an.aB (an.eq (an.aB hi (an.fU (decide_eq_true e) (an.some rfl)))) (an.some (.inl ⟨_,rfl,⟨?_,hf⟩,h⟩))
    rw [dm (by omega) (by omega)]; rfl
  ·obtain rfl:k = 23:=by omega
   have e:nameOf (s.take (gr s)) = none:=hf.symm
   rw [e]
   exact an.iff (decide_eq_false (by omega)) (an.some (.inr ⟨_,rfl,rfl⟩))
 ·intro o ho
  cases h1:nameOf (s.take (gr s)) with
  | none=>
   rw [h1] at ho
   subst ho
   rw [wF h0 h1]
   exact an.some ⟨rfl,fun y=>by simp at y⟩
  | some x=>
   rw [h1] at ho
   obtain ⟨p,rfl,hp⟩:=ho
   exact an.some hp
noncomputable def q1:aw:=⟨mk ((1:Int):Rat),zU⟩
theorem Bk {s:bg}:an (fM FF s) fun r=>if 100 < s.length then r = (zQ,2) else PR s q1 1 r:=by
 unfold fM
 by_cases h:100 < s.length
 ·exact an.mono (P:=fun r=>r = (zQ,2)) (an.fU (decide_eq_true (by omega)) (an.ln (an.some rfl))) fun r hr=>by rw [if_pos h]; exact hr
 refine an.mono (P:=fun r=>PR s q1 1 r) ?_ fun r hr=>by rw [if_neg h]; exact hr
 refine an.iff (decide_eq_false (by omega)) (an.aB Of_1 (an.ln (an.bind (P:=fun r=>PR s q1 1 r) ?_ (fun o ho=>an.some ho))))
 refine an.loop (fun st:Reader=>st.s.length ≤ 100 ∧ kB st.q.V ∧ (st.sign = 1 ∨ st.sign = -1) ∧ ∀ r,PR st.s st.q st.sign r → PR s q1 1 r) (fun st=>st.s.length) ⟨by dsimp only; omega,xf _,.inl rfl,fun r hr=>hr⟩ (by have:=vE; dsimp only; omega) ?_
 rintro ⟨t,q,sg⟩ ⟨hl,hq,hsg,hpr⟩
 dsimp only at hl hq hsg hpr ⊢
 refine an.bind (DY (by omega) hq hsg) ?_
 rintro ⟨e,t',q',sg'⟩ ⟨he,ho⟩
 dsimp only at he
 subst he
 by_cases h1:(fF t q sg).2.1 = 0
 ·obtain ⟨_,e1,e2,e3⟩:_ ∧ _ ∧ _ ∧ _:=by simpa using ho h1
  obtain ⟨i1,i2,i3⟩:=rf hq h1
  subst e1; subst e2
  refine an.iff (decide_eq_false fun y=>y h1) ?_
  cases h2:(fF t q sg).2.2 with
  | nil=>exact an.fU rfl (an.some (.inr ⟨_,rfl,hpr _ (.fin h1 h2)⟩))
  | cons c t2=>
   rw [h2] at i3
   have hd:ld (c :: t2) 1 = some t2:=by
    unfold ld
    rw [if_pos ⟨by decide,by simp; omega⟩]; rfl
   have l2:t2.length < t.length:=by simp at i3; omega
   refine an.iff rfl (an.aB (show bB (c :: t2) 0 = some c from re (by decide) (by simp)) ?_)
   by_cases h3:c = 42
   ·refine an.fU (decide_eq_true (by rw [h3]; rfl)) (an.aB rfl (an.aB hd (an.some (.inl ⟨_,rfl,⟨?_,i1,.inl rfl,fun r hr=>hpr _ (.mul h1 (by rw [h2,h3]) hr)⟩,l2⟩))))
    dsimp only; omega
   ·refine an.iff (decide_eq_false (p:=(c.toNat:Int) = 42) fun y=>h3 ((vF (k:=42) (by decide)).1 y)) ?_
    by_cases h4:c = 47
    ·refine an.fU (decide_eq_true (by rw [h4]; rfl)) (an.aB rfl (an.aB hd (an.some (.inl ⟨_,rfl,⟨?_,i1,.inr rfl,fun r hr=>hpr _ (.div h1 (by rw [h2,h4]) hr)⟩,l2⟩))))
     dsimp only; omega
    ·exact an.iff (decide_eq_false (p:=(c.toNat:Int) = 47) fun y=>h4 ((vF (k:=47) (by decide)).1 y)) (an.ln (an.some (.inr ⟨_,rfl,hpr _ (.bad h1 h2 h3 h4)⟩)))
 ·exact an.fU (decide_eq_true h1) (an.ln (an.some (.inr ⟨_,rfl,hpr _ (.err h1)⟩)))
theorem DZ (s:bg):∃ k,k ≤ s.length ∧ (jI s).2.2 = s.drop k:=by
 unfold jI
 have hT:∃ j,j ≤ s.length ∧ iN s = s.drop j ∨ iN s = []:=by
  unfold iN
  split
  ·by_cases h:2 ≤ s.length
   ·exact ⟨2,.inl ⟨h,rfl⟩⟩
   ·exact ⟨0,.inr (List.drop_of_length_le (by omega))⟩
  ·by_cases h:1 ≤ s.length
   ·exact ⟨1,.inl ⟨h,rfl⟩⟩
   ·exact ⟨0,.inr (List.drop_of_length_le (by omega))⟩
 have hR:∀ m,∃ k,k ≤ s.length ∧ (iN s).drop m = s.drop k:=by
  intro m
  by_cases h:(iN s).drop m = []
  ·exact ⟨s.length,Nat.le_refl _,by rw [h,List.drop_length]⟩
  obtain ⟨j,⟨hj,e⟩ | e⟩:=hT
  ·refine ⟨j + m,?_,by rw [e,List.drop_drop]⟩
   by_cases h2:j + m ≤ s.length
   ·exact h2
   ·exact absurd (by rw [e,List.drop_drop]; exact List.drop_of_length_le (by omega)) h
  ·exact absurd (by rw [e]; exact List.drop_nil) h
 split
 ·split <;> exact hR _
 ·exact ⟨0,Nat.zero_le _,rfl⟩
theorem rest_at {s:bg} {a:Nat} (ha:a ≤ s.length):(jI (s.drop a)).2.2 = s.drop (s.length - (jI (s.drop a)).2.2.length):=by
 obtain ⟨k,hk,e⟩:=DZ (s.drop a)
 rw [List.length_drop] at hk
 rw [e,List.drop_drop,List.length_drop]
 congr 1; omega
theorem PR.unit {s:bg} {q:aw} {sg:Int} {r:aw × Int} (hq:kB q.V) (h:PR s q sg r):r.2 = 0 → kB r.1.V ∧ vU r.1.U = true:=by
 induction h with
 | err h=>intro e; exact absurd e h
 | fin h h2=>intro _; exact ⟨(rf hq h).1,(rf hq h).2.1⟩
 | mul h h2 h3 ih=>exact ih (rf hq h).1
 | div h h2 h3 ih=>exact ih (rf hq h).1
 | bad h=>intro e; simp at e
theorem of_1:aM FF 1 1 0 0 0 = some ⟨q1,0⟩:=by
 rw [rof_q (by decide) (by decide),Az (by decide)]; rfl
theorem quF_z {v:bN} {u:aX} (h:(uP v u).2 ≠ 0):(uP v u).1 = zQ:=by
 unfold uP at h ⊢
 cases hv:(qF v).isSome
 ·rfl
 ·rw [hv] at h; exact absurd rfl h
theorem facS_z {q:aw} {x:gv} {n:Int} (h:(n9 q x n).2 ≠ 0):(n9 q x n).1 = zQ:=by
 by_cases hc:(tz q.U x.unit n).2 = 0
 ·rw [tt hc] at h ⊢; exact quF_z h
 ·rw [ru hc]
theorem Dt {s:bg}:an (dU FF s) fun g=>if 100 < s.length then g = ⟨zQ,2⟩ else PR s q1 1 (g.Q,g.E):=by
 unfold dU
 by_cases h:100 < s.length
 ·exact an.mono (P:=fun r=>r = ⟨zQ,2⟩) (an.fU (decide_eq_true (by omega)) (an.ln (an.some rfl))) fun r hr=>by rw [if_pos h]; exact hr
 refine an.mono (P:=fun g:qm=>PR s q1 1 (g.Q,g.E)) ?_ fun r hr=>by rw [if_neg h]; exact hr
 refine an.iff (decide_eq_false (by omega)) (an.aB of_1 (an.bind (P:=fun g:qm=>PR s q1 1 (g.Q,g.E)) ?_ (fun o ho=>an.some ho)))
 refine an.loop (fun st:qm × Int × Bool=>∃ a:Nat,st.2.1 = a ∧ a ≤ s.length ∧ kB st.1.Q.V ∧ vU st.1.Q.U = true ∧ ∀ r,PR (s.drop a) st.1.Q (if st.2.2 = true then -1 else 1) r → PR s q1 1 r) (fun st=>s.length - st.2.1.toNat) ⟨0,rfl,Nat.zero_le _,xf _,by decide,fun r hr=>hr⟩ (by have:=vE; dsimp only; omega) ?_
 rintro ⟨out,at',over⟩ ⟨a,ha',ha,hq,hu,hpr⟩
 dsimp only at ha' ha hq hu hpr ⊢
 subst ha'
 have hs:s.length ≤ 10000:=by omega
 refine an.aB (rname_f ha hs) ?_
 have hnl:=CL (s.drop a)
 rw [List.length_drop] at hnl
 by_cases h0:gr (s.drop a) = 0
 ·have e0:(s.drop a).take (gr (s.drop a)) = []:=by rw [h0]; rfl
  refine an.fU (decide_eq_true (by rw [h0]; rfl)) (an.ln (an.some (.inr ⟨_,rfl,?_⟩)))
  have:=wH (q:=out.Q) (sg:=if over = true then -1 else 1) e0
  refine hpr _ ?_
  have e2:=PR.err (s:=s.drop a) (q:=out.Q) (sg:=if over = true then -1 else 1) (by rw [this]; decide)
  rw [this] at e2; exact e2
 refine an.iff (decide_eq_false (by dsimp only; omega)) ?_
 have e0:(s.drop a).take (gr (s.drop a)) ≠ []:=by
  intro e
  have:=congrArg List.length e
  rw [List.length_take,List.length_drop] at this
  simp at this; omega
 have esub:Br s (a:Int) ((a + gr (s.drop a):Nat):Int) = some ((s.drop a).take (gr (s.drop a))):=by
  unfold Br
  rw [if_pos ⟨by omega,by omega,by omega⟩,Int.toNat_natCast,Int.toNat_natCast,List.drop_take]
  congr 2; omega
 refine an.aB esub (an.aB (rName_f _) ?_)
 have err:∀ {e:Int},e ≠ 0 → (fF (s.drop a) out.Q (if over = true then -1 else 1)).2.1 = e → PR s q1 1 (zQ,e):=by
  intro e he e2
  have:=PR.err (s:=s.drop a) (q:=out.Q) (sg:=if over = true then -1 else 1) (by rw [e2]; exact he)
  rw [e2] at this; exact hpr _ this
 cases h1:nameOf ((s.drop a).take (gr (s.drop a))) with
 | none=>
  exact an.fU rfl (an.some (.inr ⟨_,rfl,err (by decide) (by rw [wF e0 h1])⟩))
 | some x=>
  have hx:=rq _ (uC h1)
  refine an.iff rfl ?_
  have edd:(s.drop a).drop (gr (s.drop a)) = s.drop (a + gr (s.drop a)):=by rw [List.drop_drop]
  generalize hb:a + gr (s.drop a) = b at edd
  have hbl:b ≤ s.length:=by omega
  have hba:a < b:=by omega
  refine an.bind (P:=fun o:(Int × Int) ⊕ qm=>if (jI (s.drop b)).2.1 ≠ 0 then o = .inr ⟨zQ,280⟩ else o = .inl (((s.length - (jI (s.drop b)).2.2.length:Nat):Int),(jI (s.drop b)).1)) ?_ ?_
  ·by_cases hl:b < s.length
   ·refine an.g1 (decide_eq_true (by omega)) (an.aB (B9 hl) ?_)
    have hh:s.drop b = s[b] :: s.drop (b + 1):=List.drop_eq_getElem_cons hl
    by_cases h94:s[b] = 94
    ·refine an.jZ true (by rw [decide_eq_true (show ((b:Nat):Int) < (s.length:Int) by omega),h94]; rfl) (an.fU rfl ?_)
     rw [dm (by omega) (by omega)]
     have ee:=rexp_f (s:=s) (a:=b + 1) (by omega) (by omega) hs
     rw [← h94,← hh] at ee
     refine an.aB ee ?_
     by_cases h2:(jI (s.drop b)).2.1 = 0
     ·rw [CD h2]
      have:0 < (s.length - (jI (s.drop b)).2.2.length:Nat):=by
       have:=wJ (s.drop b)
       rw [List.length_drop] at this; omega
      exact an.iff (decide_eq_false (by dsimp only; omega)) (an.some (by rw [if_neg (fun y=>y h2)]))
     ·rw [At h2]
      exact an.fU rfl (an.ln (an.some (by rw [if_pos h2]; rfl)))
    ·refine an.jZ false (by rw [decide_eq_false (p:=(s[b].toNat:Int) = 94) (fun y=>h94 ((vF (k:=94) (by decide)).1 y)),Bool.and_false]) (an.iff rfl (an.some ?_))
     have e:jI (s.drop b) = (1,0,s.drop b):=if_neg (by rw [hh]; simp only [List.head?_cons,Option.some.injEq]; exact h94)
     rw [e,if_neg (by simp)]
     dsimp only
     rw [List.length_drop]; congr 2; omega
   ·have hd:s.drop b = []:=List.drop_of_length_le (by omega)
    refine an.g0 (decide_eq_false (by omega)) ?_
    rw [decide_eq_false (show ¬ ((b:Nat):Int) < (s.length:Int) by omega)]
    refine an.jZ false rfl (an.iff rfl (an.some ?_))
    rw [hd,if_neg (by decide)]
    show _ = Sum.inl (((s.length - 0:Nat):Int),1)
    congr 2; omega
  intro o ho
  rw [← edd] at ho
  by_cases h2:(jI ((s.drop a).drop (gr (s.drop a)))).2.1 = 0
  ·rw [if_neg (fun y=>y h2)] at ho
   subst ho
   have hr:=A' _ h2
   refine an.aB (Dm hx hq hu hr) ?_
   have en:(if over = true then -(jI ((s.drop a).drop (gr (s.drop a)))).1 else (jI ((s.drop a).drop (gr (s.drop a)))).1) = (if over = true then -1 else 1) * (jI ((s.drop a).drop (gr (s.drop a)))).1:=by split <;> omega
   rw [en]
   by_cases h3:(n9 out.Q x ((if over = true then -1 else 1) * (jI ((s.drop a).drop (gr (s.drop a)))).1)).2 = 0
   ·have hfT:=wG e0 h1 h2 h3
    have hin:=A9 hx hq h3
    generalize n9 out.Q x ((if over = true then -1 else 1) * (jI ((s.drop a).drop (gr (s.drop a)))).1) = qe at h3 hfT hin ⊢
    obtain ⟨q',e'⟩:=qe
    dsimp only at h3 hfT hin
    subst h3
    have hrest:=rest_at (s:=s) (a:=b) hbl
    rw [← edd] at hrest
    have hlen:=wJ (s.drop b)
    rw [← edd,List.length_drop,List.length_drop] at hlen
    generalize (jI ((s.drop a).drop (gr (s.drop a)))).2.2 = R at hfT hrest hlen ⊢
    have h1':(fF (s.drop a) out.Q (if over = true then -1 else 1)).2.1 = 0:=by rw [hfT]
    have h2':(fF (s.drop a) out.Q (if over = true then -1 else 1)).2.2 = R:=by rw [hfT]
    have h3':(fF (s.drop a) out.Q (if over = true then -1 else 1)).1 = q':=by rw [hfT]
    refine an.iff rfl ?_
    cases hR:R with
    | nil=>
     subst hR
     refine an.fU (decide_eq_true (by simp)) (an.some (.inr ⟨_,rfl,hpr _ ?_⟩))
     have:=PR.fin h1' h2'
     rw [h3'] at this; exact this
    | cons c t=>
     subst hR
     have hct:(c :: t).length ≤ s.length:=by omega
     have hpos:1 ≤ (c :: t).length:=by simp
     generalize hm:s.length - (c :: t).length = m at hrest
     have hml:m < s.length:=by omega
     have hc:s[m] = c:=by
      have:=hrest
      rw [List.drop_eq_getElem_cons hml] at this
      exact (List.cons.inj this).1.symm
     have ht:s.drop (m + 1) = t:=by
      have:=hrest
      rw [List.drop_eq_getElem_cons hml] at this
      exact (List.cons.inj this).2.symm
     have ix:bB s (m:Int) = some c:=by rw [B9 hml,hc]
     refine an.iff (decide_eq_false (by omega)) (an.aB ix ?_)
     have go:∀ (ov:Bool),decide ((c.toNat:Int) = 47) = ov → (∀ r,PR t q' (if ov = true then -1 else 1) r → PR s q1 1 r) →
       an (Option.bind (bB s (m:Int)) (fun x_21=>(some (Sum.inl ((gdo (q',0)),IntKind.i64.wrap ((m:Int) + 1),decide ((x_21.toNat:Int) = 47))):Option ((qm × Int × Bool) ⊕ qm)))) fun r=>(∃ x',r = .inl x' ∧ (∃ a:Nat,x'.2.1 = a ∧ a ≤ s.length ∧ kB x'.1.Q.V ∧ vU x'.1.Q.U = true ∧ ∀ r,PR (s.drop a) x'.1.Q (if x'.2.2 = true then -1 else 1) r → PR s q1 1 r) ∧ s.length - x'.2.1.toNat < s.length - ((a:Int)).toNat) ∨ ∃ y,r = .inr y ∧ PR s q1 1 (y.Q,y.E):=by
      intro ov hov hgo
      refine an.aB ix (an.some (.inl ⟨_,rfl,⟨m + 1,?_,by omega,hin.1,hin.2,?_⟩,?_⟩))
      ·dsimp only; rw [dm (by omega) (by omega)]; rfl
      ·dsimp only; rw [ht,hov]; exact hgo
      ·dsimp only; rw [dm (by omega) (by omega)]; omega
     by_cases h42:c = 42
     ·refine an.g0 (decide_eq_false fun y=>y (by rw [h42]; rfl)) (an.jZ false (by rw [h42]; rfl) (an.iff rfl (go false (by rw [h42]; rfl) fun r hr=>hpr r (.mul h1' (by rw [h2',h42]) (by rw [h3']; exact hr)))))
     ·have n42:¬ (c.toNat:Int) = 42:=fun y=>h42 ((vF (k:=42) (by decide)).1 y)
      refine an.g1 (decide_eq_true n42) (an.aB ix ?_)
      by_cases h47:c = 47
      ·refine an.jZ false (by rw [h47]; rfl) (an.iff rfl (go true (by rw [h47]; rfl) fun r hr=>hpr r (.div h1' (by rw [h2',h47]) (by rw [h3']; exact hr))))
      ·have n47:¬ (c.toNat:Int) = 47:=fun y=>h47 ((vF (k:=47) (by decide)).1 y)
       refine an.jZ true (by rw [decide_eq_true n42,decide_eq_true n47]; rfl) (an.fU rfl (an.ln (an.some (.inr ⟨_,rfl,hpr _ (.bad h1' h2' h42 h47)⟩))))
   ·have hfT:=tr e0 h1 h2 h3
    have hz:=facS_z h3
    refine an.fU (decide_eq_true h3) (an.some (.inr ⟨_,rfl,?_⟩))
    unfold gdo
    dsimp only
    rw [hz]
    exact err h3 (by rw [hfT])
  ·rw [if_pos h2] at ho
   subst ho
   exact an.some (.inr ⟨_,rfl,err (by decide) (by rw [wI e0 h1 h2])⟩)
theorem yP (r:Rat):mk r = ⟨cm r.num,cm r.den⟩:=by simp only [mk]
theorem DL:Lib.itoa 1 = [49]:=by
 unfold Lib.itoa
 rw [if_neg (by decide)]
 exact jz (by decide)
theorem BR:Lib.itoa 0 = [48]:=by
 unfold Lib.itoa
 rw [if_neg (by decide)]
 exact jz (by decide)
theorem xE {a b:Int} (ra:lV a) (rb:lV b) (h:Lib.itoa a = Lib.itoa b):a = b:=by
 have h1:=oG ra
 rw [h] at h1
 have:=vD.one h1 (oG rb)
 exact (tw ra rb).1 (Prod.mk.inj this).1
theorem vY {a:Int} (h:lV a):yB (cm a) = Lib.itoa a:=by unfold yB; rw [gZ h]
theorem txF_one {r:Rat} (hf:fits r) (h1:(r.den:Int) = 1):Bm (mk r) = Lib.itoa r.num:=by
 have t1:yB (cm r.num) = Lib.itoa r.num:=vY hf.1
 unfold Bm
 rw [sq hf,if_pos (show (some r).isSome = true from rfl),sX,sY,if_pos (congrArg cm h1),t1]
theorem txF_two {r:Rat} (hf:fits r) (h1:(r.den:Int) ≠ 1):Bm (mk r) = Lib.itoa r.num ++ 47 :: Lib.itoa r.den:=by
 have t1:yB (cm r.num) = Lib.itoa r.num:=vY hf.1
 have t2:yB (cm r.den) = Lib.itoa r.den:=vY hf.2
 have hd:cm (r.den:Int) ≠ cm 1:=fun g=>h1 ((tw hf.2 pC).1 g)
 unfold Bm
 rw [sq hf,if_pos (show (some r).isSome = true from rfl),sX,sY,if_neg hd,t1,t2]
theorem xv {p q:bt} {r:Rat} {b:bg} {two:Bool} (hq:qF ⟨p,q⟩ = some r) (hb:two = true → b ≠ [48] ∧ b ≠ [49] ∧ b.head? ≠ some 45):rdF p 0 q 0 two b = (⟨p,q⟩,0):=by
 unfold rdF
 rw [hq,if_neg,if_neg (by simp),if_pos (show (some r).isSome = true from rfl)]
 rintro (h | h | ⟨h,h2⟩)
 ·exact absurd h (by decide)
 ·exact absurd h (by decide)
 ·obtain ⟨n1,n2,n3⟩:=hb h
  rcases h2 with g | g | g
  ·exact n1 g
  ·exact n2 g
  ·exact n3 g
theorem Ea {r:Rat} (hf:fits r) (h1:(r.den:Int) = 1):RdF (Lib.itoa r.num) (mk r,0):=by
 have e:=An (vz r.num)
 have hq:mk r = ⟨cm r.num,cm 1⟩:=by rw [yP,h1]
 have hs:=sq hf
 rw [hq] at hs
 have hlt:¬ sl (Lib.itoa r.num) < (Lib.itoa r.num).length:=by omega
 refine ⟨cm r.num,0,cm 1,0,?_,?_,?_⟩
 ·rw [e,List.take_length]; exact oG hf.1
 ·rw [if_neg hlt]; exact ⟨rfl,rfl⟩
 ·rw [decide_eq_false hlt,xv hs (fun h=>by cases h),hq]
theorem D' {r:Rat} (hf:fits r) (h1:(r.den:Int) ≠ 1):RdF (Lib.itoa r.num ++ 47 :: Lib.itoa r.den) (mk r,0):=by
 have h0:=den_pos r
 have e:=Cy (b:=Lib.itoa r.den) (vz r.num)
 have hlt:sl (Lib.itoa r.num ++ 47 :: Lib.itoa r.den) < (Lib.itoa r.num ++ 47 :: Lib.itoa r.den).length:=by rw [e]; simp
 have ht:(Lib.itoa r.num ++ 47 :: Lib.itoa r.den).take (Lib.itoa r.num).length = Lib.itoa r.num:=by simp
 have hdr:(Lib.itoa r.num ++ 47 :: Lib.itoa r.den).drop ((Lib.itoa r.num).length + 1) = Lib.itoa r.den:=by simp
 have n1:Lib.itoa r.den ≠ [49]:=fun g=>h1 (xE hf.2 pC (by rw [g,DL]))
 have n2:Lib.itoa r.den ≠ [48]:=fun g=>by have:=xE hf.2 xl (by rw [g,BR]); omega
 have n3:(Lib.itoa r.den).head? ≠ some 45:=by
  rw [tj (by omega)]; exact xH _
 have hs:=sq hf
 rw [yP] at hs
 refine ⟨cm r.num,0,cm r.den,0,?_,?_,?_⟩
 ·rw [e,ht]; exact oG hf.1
 ·rw [if_pos hlt,e,hdr]; exact oG hf.2
 ·rw [decide_eq_true hlt,e,hdr,xv hs (fun _=>⟨n2,n1,n3⟩),yP]
theorem BJ {x:bN} {r:Rat} (hx:kB x) (h:qF x = some r) {z:bN × Int} (hz:RdF (Bm x) z):z = (x,0):=by
 obtain ⟨hf,e⟩:=l4 hx h
 rw [e] at hz ⊢
 by_cases h1:(r.den:Int) = 1
 ·rw [txF_one hf h1] at hz
  exact RdF.one hz (Ea hf h1)
 ·rw [txF_two hf h1] at hz
  exact RdF.one hz (D' hf h1)
theorem Aj {x:bN} (hx:kB x):(Bm x).length ≤ 450:=by
 have key:∀ {b:bt},kC b → (yB b).length ≤ 160:=fun {b} hb=>by
  unfold yB
  cases h:iv b with
  | none=>simp
  | some a=>
   have ra:=(cu hb h).2.2
   dsimp only
   unfold Lib.itoa
   split
   ·have h1:=xi (a:=-a) (by omega)
    have e:(-a).toNat = a.natAbs:=by omega
    rw [e] at h1
    rw [List.length_cons]; omega
   ·have h1:=xi (a:=a) ra.2
    omega
 have l1:=key hx.1
 have l2:=key hx.2
 unfold Bm
 split
 ·split
  ·omega
  ·rw [List.length_append,List.length_cons]; omega
 ·simp
theorem index_none {c:UInt8}:∀ {a:bg},(∀ x ∈ a,x ≠ c) → Lib.index a [c] = -1
 | [],_=>rfl
 | b :: a,h=>by
  unfold Lib.index
  have hb:([c]:bg).isPrefixOf (b :: a) = false:=by
   have:=h b (by simp)
   simp [List.isPrefixOf,Ne.symm this]
  rw [hb,index_none fun x hx=>h x (by simp [hx])]; rfl
theorem xG {c:UInt8}:∀ {a b:bg},(∀ x ∈ a,x ≠ c) → Lib.index (a ++ c :: b) [c] = a.length
 | [],b,_=>by
  show Lib.index (c :: b) [c] = 0
  unfold Lib.index
  rw [if_pos (by simp [List.isPrefixOf])]
 | d :: a,b,h=>by
  show Lib.index (d :: (a ++ c :: b)) [c] = _
  unfold Lib.index
  have hb:([c]:bg).isPrefixOf (d :: (a ++ c :: b)) = false:=by
   have:=h d (by simp)
   simp [List.isPrefixOf,Ne.symm this]
  have ih:=xG (a:=a) (b:=b) fun x hx=>h x (by simp [hx])
  rw [hb,ih,if_neg (by simp),if_neg (by rw [beq_iff_eq]; omega)]
  rw [List.length_cons]; omega
theorem D6 {c:UInt8} {a:bg} (h:∀ x ∈ a,x ≠ c) (hl:a.length ≤ 100000):dz FF a [c] = some (a,[],false):=by
 unfold dz Bu Lib.cut
 rw [if_pos (by omega),index_none h]; rfl
theorem cut_at {c:UInt8} {a b:bg} (h:∀ x ∈ a,x ≠ c) (hl:a.length + b.length ≤ 100000):dz FF (a ++ c :: b) [c] = some (a,b,true):=by
 unfold dz Bu Lib.cut
 rw [if_pos (by rw [List.length_append,List.length_cons]; omega),xG h,if_pos (by omega),Int.toNat_natCast]
 have e1:(a ++ c :: b).take a.length = a:=by simp
 have e2:(a ++ c :: b).drop (a.length + ([c]:bg).length) = b:=by
  rw [← List.drop_drop,List.drop_left]; rfl
 rw [e1,e2]
theorem DK (a:Int):∀ c ∈ Lib.itoa a,c ≠ 32 ∧ c ≠ 46:=fun c hc=>by
 have hd:∀ {c:UInt8},j5 c → c ≠ 32 ∧ c ≠ 46:=fun {c} h=>by
  unfold j5 at h
  constructor <;> (rintro rfl; revert h; decide)
 unfold Lib.itoa at hc
 split at hc
 ·rcases List.mem_cons.1 hc with rfl | h
  ·decide
  ·exact hd (qx _ _ h)
 ·exact hd (qx _ _ hc)
theorem vX (x:bt):∀ c ∈ yB x,c ≠ 32 ∧ c ≠ 46:=by
 unfold yB
 split
 ·exact DK _
 ·simp
theorem txF_rng (x:bN):∀ c ∈ Bm x,c ≠ 32 ∧ c ≠ 46:=by
 unfold Bm
 split
 ·split
  ·exact vX _
  ·intro c hc
   rcases List.mem_append.1 hc with h | h
   ·exact vX _ c h
   ·rcases List.mem_cons.1 h with rfl | h
    ·decide
    ·exact vX _ c h
 ·simp
def PX (s:bg) (r:aw × Int):Prop:=if 100 < s.length then r = (zQ,2) else PR s q1 1 r
theorem PX.one {s:bg} {r r':aw × Int} (h:PX s r) (h':PX s r'):r = r':=by
 unfold PX at h h'
 split at h
 ·next h1=>rw [if_pos h1] at h'; rw [h,h']
 ·next h1=>rw [if_neg h1] at h'; exact PR.one h h'
theorem PX.unit {s:bg} {r:aw × Int} (h:PX s r) (e:r.2 = 0):kB r.1.V ∧ vU r.1.U = true:=by
 unfold PX at h
 split at h
 ·rw [h] at e; simp at e
 ·exact PR.unit (xf _) h e
noncomputable def rdQ (x:bN) (r:aw × Int):aw × Int:=if r.2 ≠ 0 then (zQ,r.2) else B7 tE yD ⟨x,zU⟩ r.1
theorem rdQ_er {x:bN} {r:aw × Int} (h:r.2 ≠ 0):rdQ x r = (zQ,r.2):=if_pos h
theorem CC {x:bN} {r:aw × Int} (h:r.2 = 0):rdQ x r = B7 tE yD ⟨x,zU⟩ r.1:=if_neg fun y=>y h
theorem Read_2 {x:bN} {s:bg} (hx:kB x) (hg:(qF x).isSome = true) (hs:s.length ≤ 10000):an (jl FF (Bm x ++ 32 :: s)) fun o=>∃ r,PX s r ∧ o = rdQ x r:=by
 obtain ⟨r,hr⟩:=Option.isSome_iff_exists.1 hg
 have hl:=Aj hx
 have hc:=txF_rng x
 unfold jl
 refine an.aB (cut_at (fun c h=>(hc c h).1) (by omega)) (an.ln (an.aB (x:=(x,0)) ?_ ?_))
 ·refine an.eq (an.aB (D6 (a:=Bm x) (fun c h=>(hc c h).2) (by omega)) (an.iff rfl (an.bind (Parse_f hl) ?_)))
  intro z hz
  rw [BJ hx hr hz]
  exact an.some rfl
 ·refine an.iff rfl (an.iff rfl (an.bind (Bk (s:=s)) ?_))
  intro q hq
  obtain ⟨q,e⟩:=q
  by_cases h0:e = 0
  ·subst h0
   have hu:=PX.unit hq rfl
   exact an.iff rfl (an.aB (Times_q hx hu.1) (an.some ⟨_,hq,(CC rfl).symm⟩))
  ·exact an.fU (decide_eq_true h0) (an.ln (an.some ⟨_,hq,(rdQ_er h0).symm⟩))
theorem cmb_z {u:aX} (h:vU u = true):tz zU u 1 = (u,0):=by
 have e:B' zU u 1 = u:=by simp [B',zU]
 rw [vV vU_z h (by decide),e,if_pos h]
theorem doQ_z {x y:bN} {u:aX} (hx:(qF x).isSome = true) (hy:(qF y).isSome = true) (hu:vU u = true):B7 tE yD ⟨x,zU⟩ ⟨y,u⟩ = uP (tE x y) u:=by
 have h1:rt ⟨x,zU⟩ = true:=by unfold rt; rw [hx,vU_z]; rfl
 have h2:rt ⟨y,u⟩ = true:=by unfold rt; rw [hy,hu]; rfl
 have e:yD zU u = (u,0):=cmb_z hu
 rw [Da (by rw [h1,h2]; rfl) (by rw [e]),e]
end Go.Proofs.YtcbbilehdaaffaaGreatDoor
namespace Go.Proofs.YtcbbilehdaaffaaGreatDoor
open Go Go.Sk
set_option maxRecDepth 100000
theorem ud:cH FF = some true:=by
 unfold cH kL j9 jw fL
 simp only [DN]
 decide +kernel
end Go.Proofs.YtcbbilehdaaffaaGreatDoor
namespace Go.Proofs.YtcbbilehdaaffaaGreatDoor
open Go Go.Sk
set_option linter.unusedSimpArgs false
set_option linter.unusedVariables false
noncomputable def Bt (a:aw) (r:aw × Int):bN × Int :=
 if r.2 ≠ 0 then (zQ.V,r.2) else if r.1.U ≠ a.U then (zQ.V,110) else ((uP (sZ a.V r.1.V) zU).1.V,(uP (sZ a.V r.1.V) zU).2)
theorem wq {a:aw} {r:aw × Int} (h:r.2 ≠ 0):Bt a r = (zQ.V,r.2):=if_pos h
theorem wk {a:aw} {r:aw × Int} (h:r.2 = 0) (h2:r.1.U ≠ a.U):Bt a r = (zQ.V,110):=by unfold Bt; rw [if_neg (fun y=>y h),if_pos h2]
theorem wm {a:aw} {r:aw × Int} (h:r.2 = 0) (h2:r.1.U = a.U):Bt a r = ((uP (sZ a.V r.1.V) zU).1.V,(uP (sZ a.V r.1.V) zU).2):=by unfold Bt; rw [if_neg (fun y=>y h),if_neg (fun y=>y h2)]
def IX (a:aw) (s:bg) (o:bN × Int):Prop:=(rt a = false ∧ o = (zQ.V,1)) ∨ (rt a = true ∧ ∃ r,PX s r ∧ o = Bt a r)
theorem IX.one {a:aw} {s:bg} {o o':bN × Int} (h:IX a s o) (h':IX a s o'):o = o':=by
 rcases h with ⟨h1,h2⟩ | ⟨h1,r,h2,h3⟩ <;> rcases h' with ⟨g1,g2⟩ | ⟨g1,r',g2,g3⟩
 ·rw [h2,g2]
 ·rw [h1] at g1; cases g1
 ·rw [h1] at g1; cases g1
 ·rw [h3,g3,PX.one h2 g2]
theorem In_x {a:aw} {s:bg} (ha:Bp a):an (jM FF a s) (IX a s):=by
 unfold jM
 refine an.aB (BX ha) ?_
 cases h1:rt a
 ·exact an.fU rfl (an.ln (an.some (.inl ⟨h1,rfl⟩)))
 refine an.iff rfl (an.bind (Bk (s:=s)) ?_)
 intro q hq
 obtain ⟨q,e⟩:=q
 by_cases h0:e = 0
 ·subst h0
  have hu:=PX.unit hq rfl
  refine an.iff rfl ?_
  by_cases h2:q.U = a.U
  ·refine an.iff (decide_eq_false fun y=>y h2) (an.aB (Div_f ha hu.1) (an.aB (ux (wL _ _)) (an.some (.inr ⟨h1,_,hq,?_⟩))))
   rw [wm rfl h2]; rfl
  ·exact an.fU (decide_eq_true h2) (an.ln (an.some (.inr ⟨h1,_,hq,(wk rfl h2).symm⟩)))
 ·exact an.fU (decide_eq_true h0) (an.ln (an.some (.inr ⟨h1,_,hq,(wq h0).symm⟩)))
theorem rIn_x {a:aw} {s:bg} (ha:Bp a):an (fu FF a s) fun n=>IX a s (n.X,n.E):=by
 unfold fu
 refine an.aB (Ds ha) ?_
 cases h1:rt a
 ·exact an.fU rfl (an.ln (an.some (.inl ⟨h1,rfl⟩)))
 refine an.iff rfl (an.bind (Dt (s:=s)) ?_)
 intro g hg
 obtain ⟨q,e⟩:=g
 have hq:PX s (q,e):=by
  unfold PX
  split at hg
  ·next h=>rw [if_pos h]; injection hg with g1 g2; rw [g1,g2]
  ·next h=>rw [if_neg h]; exact hg
 by_cases h0:e = 0
 ·subst h0
  have hu:=PX.unit hq rfl
  refine an.iff rfl ?_
  by_cases h2:q.U = a.U
  ·refine an.iff (decide_eq_false fun y=>y h2) (an.aB (CI ha hu.1) (an.aB (pA (wL _ _)) ?_))
   have e:=wm (a:=a) (r:=(q,0)) rfl h2
   unfold uP at e
   cases h3:(qF (sZ a.V q.V)).isSome
   ·refine an.fU rfl (an.ln (an.some (.inr ⟨h1,_,hq,?_⟩)))
    rw [e,h3]; rfl
   ·refine an.iff rfl (an.some (.inr ⟨h1,_,hq,?_⟩))
    rw [e,h3]; rfl
  ·exact an.fU (decide_eq_true h2) (an.ln (an.some (.inr ⟨h1,_,hq,(wk rfl h2).symm⟩)))
 ·exact an.fU (decide_eq_true h0) (an.ln (an.some (.inr ⟨h1,_,hq,(wq (r:=(q,e)) h0).symm⟩)))
theorem zR {a:aw} {s:bg} (ha:Bp a):bZ FF a s = some true:=by
 refine an.eq ?_
 unfold bZ
 refine an.ite (fun h=>an.aB ud (an.some rfl)) (fun h=>?_)
 have hl:s.length ≤ 120:=by have:=of_decide_eq_false h; omega
 refine an.bind (In_x ha (s:=s)) ?_
 rintro ⟨x,e⟩ hI
 refine an.bind (rIn_x ha (s:=s)) ?_
 rintro ⟨X,E⟩ hJ
 have:=IX.one hI hJ
 obtain ⟨rfl,rfl⟩:=Prod.mk.inj this
 refine an.iff (by simp) ?_
 by_cases h0:e = 0
 ·subst h0
  refine an.iff rfl ?_
  rcases hI with ⟨h1,h2⟩ | ⟨h1,⟨q,f⟩,hq,h3⟩
  ·cases h2
  by_cases hf:f = 0
  ·subst hf
   by_cases hu:q.U = a.U
   ·rw [wm rfl hu] at h3
    have hin:=PX.unit hq rfl
    obtain ⟨⟨α,hα⟩,hva⟩:=rt_iff.1 h1
    unfold uP at h3
    cases h4:(qF (sZ a.V q.V)).isSome
    ·rw [h4,if_neg (by decide)] at h3
     have:=(Prod.mk.inj h3).2
     simp at this
    rw [h4,if_pos rfl] at h3
    obtain ⟨ex,_⟩:=Prod.mk.inj h3
    dsimp only at ex hin
    have hβ:∃ β,qF q.V = some β:=by
     cases hb:qF q.V with
     | none=>rw [show sZ a.V q.V = bf from lE hb,xb] at h4; cases h4
     | some β=>exact ⟨β,rfl⟩
    obtain ⟨β,hβ⟩:=hβ
    have hβ0:β.num ≠ 0:=by
     intro hz
     rw [show sZ a.V q.V = uV α β from kK hα hβ,show uV α β = bf from if_pos hz,xb] at h4; cases h4
    have ed:sZ a.V q.V = Bn (α / β):=by rw [show sZ a.V q.V = uV α β from kK hα hβ]; exact if_neg hβ0
    have hfit:fits (α / β):=by
     rw [ed,qF_ofR] at h4
     split at h4
     ·next h=>exact h
     ·cases h4
    have exx:x = mk (α / β):=by rw [ex,ed,hM hfit]
    have hqx:qF x = some (α / β):=by rw [exx,sq hfit]
    have hxi:kB x:=by rw [exx]; exact xf _
    obtain ⟨fa,ea⟩:=l4 ha hα
    have hl2:=Aj hxi
    refine an.aB (Text_f hxi) (an.B8 (by simp; omega) (an.B8 (by rw [List.length_append]; simp; omega) ?_))
    rw [List.append_assoc]
    refine an.bind (Read_2 (s:=s) hxi (by rw [hqx]; rfl) (by omega)) ?_
    rintro o ⟨r',hr',rfl⟩
    rw [PX.one hr' hq,CC rfl]
    have ev:vU q.U = true:=hin.2
    have er:(B7 tE yD ⟨x,zU⟩ q) = (a,0):=by
     have h5:=doQ_z (x:=x) (y:=q.V) (u:=q.U) (by rw [hqx]; rfl) (by rw [hβ]; rfl) ev
     rw [show (⟨q.V,q.U⟩:aw) = q from rfl] at h5
     have hne:β ≠ 0:=fun hz=>hβ0 (by rw [hz]; rfl)
     have em:tE x q.V = a.V:=by
      rw [show tE x q.V = mulR (α / β) β from kK hqx hβ]
      unfold mulR
      rw [Rat.div_mul_cancel hne,hM fa,ea]
     rw [h5,em]
     unfold uP
     rw [hα,hu]; rfl
    rw [er]
    exact an.aB ud (an.jZ true (by simp) (an.some rfl))
   ·rw [wk rfl hu] at h3
    have:=(Prod.mk.inj h3).2
    simp at this
  ·rw [wq hf] at h3
   exact absurd (Prod.mk.inj h3).2.symm hf
 ·exact an.fU (decide_eq_true h0) (an.aB ud (an.some rfl))
end Go.Proofs.YtcbbilehdaaffaaGreatDoor
namespace Go.Proofs.YtcbbilehdaaffaaGreatDoor
open Go Go.Sk
end Go.Proofs.YtcbbilehdaaffaaGreatDoor
namespace Go.Sk
open Go
theorem yv {h:PH} {cs:List CP} {L:List Value} {k:IntKind} {z:Int} (hr:bd h cs L) (hm:CP.int k z ∈ cs):rW k z:=by
 obtain ⟨i,hi,he⟩:=List.getElem_of_mem hm
 obtain ⟨u,_,hu⟩:=bT.get hr i (.int k z) (by rw [List.getElem?_eq_getElem hi,he])
 exact hu.2
end Go.Sk
namespace Go.Proofs.YtcbbilehdaaffaaGreatDoor
open Go Go.Sk
theorem CR {w:aP} (H:∀ z ∈ w.l,rW .u32 z):cF 4294967296 w.l:=fun i=>by
 by_cases hi:i < w.l.length
 ·have h1:=H w.l[i] (List.getElem_mem hi)
  have e:dg w.l i = w.l[i]:=by simp [dg,List.getD,List.getElem?_eq_getElem hi]
  rw [e]
  have h2:0 ≤ w.l[i] ∧ w.l[i] ≤ 4294967295:=by simpa [rW,IntKind.min,IntKind.max,IntKind.signed,IntKind.bits] using h1
  omega
 ·rw [oo (by omega)]; decide
theorem DR {x:bN} (H:∀ z,CP.int .u32 z ∈ aI x → rW .u32 z):kB x:=by
 refine ⟨CR fun z hz=>H z ?_,CR fun z hz=>H z ?_⟩
 ·unfold aI au
  exact List.mem_append_left _ (List.mem_cons_of_mem _ (List.mem_cons_of_mem _ (List.mem_map_of_mem hz)))
 ·unfold aI au
  exact List.mem_append_right _ (List.mem_cons_of_mem _ (List.mem_cons_of_mem _ (List.mem_map_of_mem hz)))
theorem inQ_of {x:aw} {h:PH} {v:Value} (hx:(BV.agg (ap x)).rel h (fun _=>.bool false) v):Bp x:=by
 obtain ⟨cs,_,hr⟩:=hx
 refine DR fun z hz=>yv hr ?_
 unfold ap
 exact List.mem_append_left _ hz
theorem w5 {mx:Int} (a:aw) (s:bg) (ha:Bp a):az Tryz.prog (bj mx) 3 [] [.agg (ap a),.one (.str s)] (Is [] (.b (.one (.bool true)))) :=
 gI (zR ha)
end Go.Proofs.YtcbbilehdaaffaaGreatDoor
