/- the plain law -/
import Derived.Test.YtbcdabflmkgkiaaGreatDoorP1
namespace Go.Proofs.YtbcdabflmkgkiaaGreatDoor
open Go Go.Sk
set_option linter.unusedSimpArgs false
set_option linter.unusedVariables false
def bi (f:Rat → Rat → gS) (x y:gS):gS:=match qF x,qF y with
 | some r,some s=>f r s
 | _,_=>bf
theorem q7 {f:Rat → Rat → gS} {x y:gS} (h:qF x = none):bi f x y = bf:=by unfold bi; rw [h]
theorem q6 {f:Rat → Rat → gS} {x y:gS} (h:qF y = none):bi f x y = bf:=by unfold bi; rw [h]; cases qF x <;> rfl
theorem nE {f:Rat → Rat → gS} {x y:gS} {r s:Rat} (h:qF x = some r) (h2:qF y = some s):bi f x y = f r s:=by unfold bi; rw [h,h2]
theorem yI (r:Rat):(mk r).N = df r.num:=by simp only [mk]
theorem yJ (r:Rat):(mk r).D = df r.den:=by simp only [mk]
theorem ny {a b:Int} (ra:pP a) (rb:pP b) (h:b ≠ 0):yE (df a) (df b) = BY (Rat.divInt a b):=by
 unfold yE
 rw [jB ra,jB rb]
 dsimp only
 rw [if_neg h]
def qd (r s:Rat):Int:=((r.den / Nat.gcd r.den s.den:Nat):Int)
theorem vZ (r s:Rat):(r.den:Int) = qd r s * (Nat.gcd r.den s.den:Nat):=by
 unfold qd
 have:=Nat.div_mul_cancel (Nat.gcd_dvd_left r.den s.den)
 rw [← Int.natCast_mul,this]
theorem oJ (r s:Rat):(0:Int) < (Nat.gcd r.den s.den:Nat):=by
 have:=Nat.gcd_pos_of_pos_left s.den (show 0 < r.den from r.den_pos)
 omega
theorem vY (r s:Rat):0 < qd r s:=by
 have h:=vZ r s
 have h0:=den_pos r
 have h1:=oJ r s
 rcases (by omega:qd r s ≤ 0 ∨ 0 < qd r s) with h2 | h2
 ·have:=Int.mul_nonpos_of_nonpos_of_nonneg h2 (Int.le_of_lt h1)
  omega
 ·exact h2
theorem B8 (r s:Rat):qd r s ≤ r.den:=by
 unfold qd
 have:=Nat.div_le_self r.den (Nat.gcd r.den s.den)
 omega
abbrev plus:=fun a b:Int=>some (a + b)
noncomputable def xf (r s:Rat):gS:=yE (two plus (df (r.num * qd s r)) (df (s.num * qd r s))) (df (qd r s * s.den))
theorem Dp (z:Int):yD (some z) = df z:=rfl
theorem addR_ok {r s:Rat} (h1:pP (r.num * qd s r)) (h2:pP (s.num * qd r s)) (h3:pP (r.num * qd s r + s.num * qd r s)) (h4:pP (qd r s * s.den)):xf r s = BY (r + s):=by
 unfold xf
 rw [oY h1 h2,Dp,ny h3 h4 (by have:=Int.mul_pos (vY r s) (den_pos s); omega),sum_q r s (vZ r s) (by have:=vZ s r; rwa [Nat.gcd_comm] at this)]
theorem B9 {r s:Rat} (h:fits r):pP (qd r s):=by
 have:=vY r s
 have:=B8 r s
 have:=h.2.2
 have:=wq
 constructor <;> omega
theorem CX (r s:Rat):fq (r.den:Int) (Nat.gcd r.den s.den:Nat) = qd r s:=by
 have:=y3 (q:=qd r s) (g:=(Nat.gcd r.den s.den:Nat)) (by have:=oJ r s; omega)
 rwa [← vZ] at this
theorem gcd_in {r s:Rat} (h:fits r):pP (Nat.gcd r.den s.den:Nat):=by
 have:=Nat.gcd_le_left s.den (show 0 < r.den from r.den_pos)
 have:=h.2.2
 have:=wq
 constructor <;> omega
theorem Add_f {x y:gS} (hx:vR x) (hy:vR y):o6 FF x y = some (bi xf x y):=by
 refine aw.eq ?_
 unfold o6
 refine aw.aQ (tY hx) ?_
 cases hq:qF x with
 | none=>rw [q7 hq]; exact aw.g0 rfl (aw.yz rfl (aw.aQ qI (aw.some rfl)))
 | some r=>
  obtain ⟨hf,rfl⟩:=qK hx hq
  refine aw.g1 rfl (aw.aQ (tY hy) ?_)
  cases hq2:qF y with
  | none=>rw [q6 hq2]; exact aw.yz rfl (aw.aQ qI (aw.some rfl))
  | some s=>
   obtain ⟨hs,rfl⟩:=qK hy hq2
   rw [nE hq hq2,yI,yJ,yI,yJ]
   have e1:=CX r s
   have e2:=CX s r
   rw [Nat.gcd_comm] at e2
   have hg:=oJ r s
   have gi:=gcd_in (s:=s) hf
   refine aw.iff rfl (aw.aQ (Ci hf.2 hs.2) ?_)
   rw [Int.natAbs_natCast,Int.natAbs_natCast]
   refine aw.aQ (z6 hf.2 gi (by omega)) (aw.aQ (z6 hs.2 gi (by omega)) ?_)
   rw [e1,e2]
   refine aw.aQ (xo hf.1 (B9 hs)) (aw.aQ (xo hs.1 (B9 hf)) (aw.aQ (Cj FF1 (bC _) (bC _)) (aw.aQ (xo (B9 hf) hs.2) (aw.aQ (rX (Cm _ _ _) (bC _)) (aw.some rfl)))))
theorem Bn {r s:Rat} (hr:fits r) (hs:fits s):fits (Rat.divInt r.num s.den) ∧ fits (Rat.divInt s.num r.den) :=
 ⟨qX (by have:=den_pos s; omega) hr.1 hs.2,qX (by have:=den_pos r; omega) hs.1 hr.2⟩
noncomputable def mulR (r s:Rat):gS:=BY (r * s)
theorem Mul_f {x y:gS} (hx:vR x) (hy:vR y):ns FF x y = some (bi mulR x y):=by
 refine aw.eq ?_
 unfold ns
 refine aw.aQ (tY hx) ?_
 cases hq:qF x with
 | none=>rw [q7 hq]; exact aw.g0 rfl (aw.yz rfl (aw.aQ qI (aw.some rfl)))
 | some r=>
  obtain ⟨hf,rfl⟩:=qK hx hq
  refine aw.g1 rfl (aw.aQ (tY hy) ?_)
  cases hq2:qF y with
  | none=>rw [q6 hq2]; exact aw.yz rfl (aw.aQ qI (aw.some rfl))
  | some s=>
   obtain ⟨hs,rfl⟩:=qK hy hq2
   rw [nE hq hq2,yI,yJ,yI,yJ]
   have h0:=den_pos r
   have h1:=den_pos s
   obtain ⟨fa,fb⟩:=Bn hf hs
   have hp:=prod_q r s
   refine aw.iff rfl (aw.aQ (rX (bC _) (bC _)) (aw.aQ (rX (bC _) (bC _)) ?_))
   rw [ny hf.1 hs.2 (by omega),ny hs.1 hf.2 (by omega),gB fa,gB fb,yI,yJ,yI,yJ]
   refine aw.aQ (xo fa.1 fb.1) (aw.aQ (xo fa.2 fb.2) ?_)
   rw [← hp.1,← hp.2,wM,wM]
   unfold mulR
   by_cases h:fits (r * s)
   ·rw [gB h,decide_eq_true h.1,decide_eq_true h.2]
    exact aw.iff rfl (aw.some rfl)
   ·rw [ofR_not h]
    refine aw.yz ?_ (aw.aQ qI (aw.some rfl))
    by_cases h2:pP (r * s).num
    ·have h3:¬ pP (r * s).den:=fun h3=>h ⟨h2,h3⟩
     simp [h3]
    ·simp [h2]
theorem inv_r (s:Rat):Rat.divInt s.den s.num = s⁻¹:=(Rat.inv_def s).symm
noncomputable def yL (r s:Rat):gS:=if s.num = 0 then bf else BY (r / s)
theorem DL {a:Int} {x:cV}:yE x (df 0) = bf:=by
 unfold yE
 rw [jB Dg]
 cases iv x with
 | none=>rfl
 | some a=>dsimp only; rw [if_pos rfl]
theorem xE {s:Rat} (h:s.num ≠ 0) (hs:fits s):fits s⁻¹:=by rw [← inv_r]; exact qX h hs.2 hs.1
theorem mkB_inv {s:Rat} (hs:fits s) (h:s.num ≠ 0):yE (df s.den) (df s.num) = mk s⁻¹:=by
 rw [ny hs.2 hs.1 h,inv_r,gB (xE h hs)]
theorem Div_f {x y:gS} (hx:vR x) (hy:vR y):o5 FF x y = some (bi yL x y):=by
 refine aw.eq ?_
 unfold o5
 refine aw.aQ (tY hy) ?_
 cases hq2:qF y with
 | none=>rw [q6 hq2]; exact aw.yz rfl (aw.aQ qI (aw.some rfl))
 | some s=>
  obtain ⟨hs,rfl⟩:=qK hy hq2
  refine aw.iff rfl ?_
  rw [yI,yJ]
  refine aw.aQ (rX (bC _) (bC _)) (aw.aQ (Mul_f hx (mkB_in _ _)) (aw.some ?_))
  cases hq:qF x with
  | none=>rw [q7 hq,q7 hq]
  | some r=>
   rw [nE hq hq2]
   unfold yL
   by_cases h:s.num = 0
   ·rw [if_pos h,h,DL (a:=0),q6 qF_bf]
   ·rw [if_neg h,mkB_inv hs h,nE hq (tE (xE h hs))]
    unfold mulR
    rw [Rat.div_def]
theorem Whole_f {n:cV} (hn:oS n):mP FF n = some (yE n (df 1)):=by
 unfold mP
 rw [Cb,Option.bind_some,rX hn (bC 1)]; rfl
theorem CB (z:Int):((z:Rat)).num = z ∧ ((z:Rat)).den = 1:=⟨rfl,rfl⟩
theorem DU {z:Int} (h:pP z):fits (z:Rat):=by
 refine ⟨by rw [(CB z).1]; exact h,?_⟩
 rw [(CB z).2]
 exact wA
theorem qw (z:Int):Rat.divInt z 1 = (z:Rat):=by
 rw [mJ]
 have:((1:Int):Rat) = 1:=rfl
 rw [this,Rat.div_def]
 grind
theorem mkB_one {z:Int} (h:pP z):yE (df z) (df 1) = mk (z:Rat):=by
 rw [ny h wA (by decide),qw,gB (DU h)]
theorem in64_M {n:Int} (h:-9223372036854775808 ≤ n ∧ n ≤ 9223372036854775807):pP n:=by
 have:=rY
 constructor <;> omega
theorem Of_f {n:Int} (h:-9223372036854775808 ≤ n ∧ n ≤ 9223372036854775807):l8 FF n = some (mk (n:Rat)):=by
 unfold l8
 rw [Of_v h.1 h.2,Option.bind_some,Whole_f (bC _),mkB_one (in64_M h)]; rfl
end Go.Proofs.YtbcdabflmkgkiaaGreatDoor
namespace Go.Sk
set_option linter.unusedSimpArgs false
set_option linter.unusedVariables false
open Go
theorem mK {u:Nat} (h:u < 10):Lib.decDigits u = [UInt8.ofNat (48 + u)]:=by rw [Lib.decDigits,dif_pos h]
theorem tU {u:Nat} (h:¬ u < 10):Lib.decDigits u = Lib.decDigits (u / 10) ++ [UInt8.ofNat (48 + u % 10)]:=by rw [Lib.decDigits,dif_neg h]
def fd:Nat → Nat → Str
 | 0,_=>[]
 | k + 1,r=>fd k (r / 10) ++ [UInt8.ofNat (48 + r % 10)]
theorem vP:∀ (k u:Nat),u < 10 ^ (k + 1) → (Lib.decDigits u).length ≤ k + 1
 | 0,u,h=>by rw [mK (by simpa using h)]; exact Nat.le_refl _
 | k + 1,u,h=>by
  by_cases h1:u < 10
  ·rw [mK h1]; simp
  ·rw [Nat.pow_succ] at h
   rw [tU h1,List.length_append]
   have:=vP k (u / 10) (by omega)
   simp
   omega
def dv (l:Str):Nat:=l.foldl (fun acc c=>10 * acc + (c.toNat - 48)) 0
theorem C3 (l:Str) (c:UInt8):dv (l ++ [c]) = 10 * dv l + (c.toNat - 48):=by simp [dv]
def mr (c:UInt8):Prop:=48 ≤ c.toNat ∧ c.toNat ≤ 57
theorem wi {d:Nat} (h:d < 10):(UInt8.ofNat (48 + d)).toNat = 48 + d:=by simp; omega
theorem C9 (u:Nat):∀ c ∈ Lib.decDigits u,mr c:=by
 induction u using Nat.strongRecOn with
 | _ u ih=>
  by_cases h:u < 10
  ·rw [mK h]
   intro c hc
   rw [List.mem_singleton.1 hc]
   unfold mr
   rw [wi h]; omega
  ·rw [tU h]
   intro c hc
   rcases List.mem_append.1 hc with g | g
   ·exact ih _ (by omega) c g
   ·rw [List.mem_singleton.1 g]
    unfold mr
    rw [wi (by omega)]; omega
theorem xn (u:Nat):dv (Lib.decDigits u) = u:=by
 induction u using Nat.strongRecOn with
 | _ u ih=>
  by_cases h:u < 10
  ·rw [mK h]
   show 10 * 0 + ((UInt8.ofNat (48 + u)).toNat - 48) = u
   rw [wi h]; omega
  ·rw [tU h,C3,ih _ (by omega),wi (by omega)]; omega
theorem DW {m x:Str} (h:m ≠ []):(m ++ x).head? = m.head?:=by
 cases m with
 | nil=>exact absurd rfl h
 | cons _ _=>rfl
def ze (l:Str):Prop:=l ≠ [] ∧ (l.head? = some 48 → l = [48])
theorem pq (u:Nat):ze (Lib.decDigits u):=by
 induction u using Nat.strongRecOn with
 | _ u ih=>
  by_cases h:u < 10
  ·rw [mK h]
   refine ⟨by simp,fun hh=>?_⟩
   rw [Option.some.inj hh]
  ·rw [tU h]
   obtain ⟨h1,h2⟩:=ih (u / 10) (by omega)
   refine ⟨by simp,fun hh=>?_⟩
   rw [DW h1] at hh
   have h3:=h2 hh
   have h4:=xn (u / 10)
   rw [h3] at h4
   have:dv [48] = 0:=rfl
   omega
theorem idx_get {α:Type} [Inhabited α] {l:List α} {i:Nat} (h:i < l.length):l[i]? = some (idx l (i:Int)):=by
 have:=idx_eq (xs:=l) (i:=(i:Int)) (by omega) (by omega)
 rw [Int.toNat_natCast] at this
 exact this
end Go.Sk
namespace Go.Proofs.YtbcdabflmkgkiaaGreatDoor
open Go Go.Sk
set_option linter.unusedSimpArgs false
set_option linter.unusedVariables false
end Go.Proofs.YtbcdabflmkgkiaaGreatDoor
namespace Go.Sk
set_option linter.unusedSimpArgs false
set_option linter.unusedVariables false
open Go
theorem dv_take (l:Str) {k:Nat} (h:k < l.length):dv (l.take (k + 1)) = 10 * dv (l.take k) + (l[k].toNat - 48):=by
 rw [List.take_add_one,List.getElem?_eq_getElem h]
 exact C3 _ _
def uZ (s:Str):Bool:=decide (s.head? = some 45)
def eg (s:Str):Str:=if uZ s = true then s.drop 1 else s
def vV (s:Str):Prop:=eg s = [] ∨ (eg s).head? = some 48 ∧ s ≠ [48]
inductive B0 (s:Str):cV × Int → Prop where
 | ill (h:vV s):B0 s (bad,281)
 | char (h:¬ vV s) (c:UInt8) (hc:c ∈ eg s) (hn:¬ mr c):B0 s (bad,281)
 | long (h:¬ vV s) (hd:∀ c ∈ eg s,mr c) (hv:MM ≤ dv (eg s)):B0 s (bad,30)
 | num (h:¬ vV s) (hd:∀ c ∈ eg s,mr c) (hv:(dv (eg s):Int) < MM):B0 s (df (if uZ s = true then -(dv (eg s):Int) else dv (eg s)),0)
theorem B0.one {s:Str} {p q:cV × Int} (hp:B0 s p) (hq:B0 s q):p = q:=by
 cases hp with
 | ill h=>
  cases hq with
  | ill _=>rfl
  | char h2 _ _ _=>exact absurd h h2
  | long h2 _ _=>exact absurd h h2
  | num h2 _ _=>exact absurd h h2
 | char h c hc hn=>
  cases hq with
  | ill h2=>exact absurd h2 h
  | char _ _ _ _=>rfl
  | long _ hd _=>exact absurd (hd c hc) hn
  | num _ hd _=>exact absurd (hd c hc) hn
 | long h hd hv=>
  cases hq with
  | ill h2=>exact absurd h2 h
  | char _ c hc hn=>exact absurd (hd c hc) hn
  | long _ _ _=>rfl
  | num _ _ hv2=>omega
 | num h hd hv=>
  cases hq with
  | ill h2=>exact absurd h2 h
  | char _ c hc hn=>exact absurd (hd c hc) hn
  | long _ _ hv2=>omega
  | num _ _ _=>rfl
theorem DV {l:Str} (h:l ≠ []):l.head? = some (idx l 0):=by
 cases l with
 | nil=>exact absurd rfl h
 | cons c r=>rfl
theorem u8_45 (c:UInt8):(c.toNat:Int) = 45 ↔ c = 45:=⟨fun h=>by
 have h2:c.toNat = (45:UInt8).toNat:=by show c.toNat = 45; omega
 exact UInt8.toNat_inj.1 h2,fun h=>by rw [h]; rfl⟩
theorem u8_48 (c:UInt8):(c.toNat:Int) = 48 ↔ c = 48:=⟨fun h=>by
 have h2:c.toNat = (48:UInt8).toNat:=by show c.toNat = 48; omega
 exact UInt8.toNat_inj.1 h2,fun h=>by rw [h]; rfl⟩
theorem vD {l:Str} {k:Nat} (h:k < l.length):idx (ofStr l) (k:Int) = (l[k].toNat:Int):=by
 unfold ofStr
 have:=idx_get (l:=l.map fun c=>(c.toNat:Int)) (i:=k) (by simpa using h)
 rw [List.getElem?_map,List.getElem?_eq_getElem h] at this
 exact (Option.some.inj this).symm
theorem digS_ne {s:Str}:decide (eg s ≠ s) = uZ s:=by
 unfold eg
 cases h:uZ s with
 | false=>simp
 | true=>
  unfold uZ at h
  cases s with
  | nil=>simp at h
  | cons c r=>simp
theorem D6 (s:Str):(eg s).length ≤ s.length:=by
 unfold eg; split
 ·simp
 ·exact Nat.le_refl _
end Go.Sk
namespace Go.Proofs.YtbcdabflmkgkiaaGreatDoor
open Go Go.Sk
set_option linter.unusedSimpArgs false
set_option linter.unusedVariables false
theorem Bj (F:Nat) (s:Str):∀ {β:Type} {k:UInt8 → Option β} {Q:β → Prop},(∀ c:UInt8,((decide (0 < (s.length:Int))) && (decide ((c.toNat:Int) = 45))) = uZ s → aw (k c) Q) → aw ((bx (decide (0 < (s.length:Int))) (aZ s 0)).bind k) Q:=by
 intro β k Q h
 cases s with
 | nil=>exact aw.g0 rfl (h _ (by rfl))
 | cons c r=>
  have hl:0 < ((c :: r).length:Int):=by rw [List.length_cons]; omega
  refine aw.g1 (decide_eq_true hl) (aw.idx (by decide) hl (h _ ?_))
  have e:idx (c :: r) 0 = c:=rfl
  rw [e,decide_eq_true hl,Bool.true_and]
  unfold uZ
  rw [decide_eq_decide,u8_45]
  simp
theorem Parse_y {F:Nat} (hF:100000 < F) {s:Str} (hl:s.length ≤ 500):aw (gY F s) (B0 s):=by
 unfold gY
 have hdl:=D6 s
 refine aw.bind (P:=(· = eg s)) ?_ ?_
 ·refine Bj F s fun c hc=>aw.zM _ hc ?_
  unfold eg
  refine aw.ite (fun h=>?_) (fun h=>?_)
  ·rw [if_pos h]
   have hne:1 ≤ s.length:=by
    unfold uZ at h
    cases s with
    | nil=>simp at h
    | cons c r=>simp
   exact aw.drop (by decide) (by omega) (aw.some rfl)
  ·rw [h]; exact aw.some rfl
 ·rintro _ rfl
  have hill:∀ {β:Type} {k:UInt8 → Option β} {Q:β → Prop},(∀ c:UInt8,(((decide (eg s = [])) || ((decide ((c.toNat:Int) = 48)) && (decide (s ≠ [48])))) = true ↔ vV s) → aw (k c) Q) → aw ((bx (!(decide (eg s = []))) (aZ (eg s) 0)).bind k) Q:=by
   intro β k Q h
   by_cases hd:eg s = []
   ·refine aw.g0 (by rw [decide_eq_true hd]; rfl) (h _ ?_)
    rw [decide_eq_true hd]
    exact ⟨fun _=>.inl hd,fun _=>rfl⟩
   ·have hpos:0 < (eg s).length:=List.length_pos_iff.2 hd
    refine aw.g1 (by rw [decide_eq_false hd]; rfl) (aw.idx (by decide) (by omega) (h _ ?_))
    rw [decide_eq_false hd,Bool.false_or,Bool.and_eq_true,decide_eq_true_eq,decide_eq_true_eq,u8_48]
    unfold vV
    rw [DV hd,Option.some.injEq]
    exact ⟨fun g=>.inr g,fun g=>g.resolve_left hd⟩
  refine hill fun c hc=>aw.ln ?_
  refine aw.ite (fun h=>?_) (fun h=>?_)
  ·exact aw.aQ (j7 F) (aw.some (.ill (hc.1 h)))
  ·have hni:¬ vV s:=fun g=>by rw [hc.2 g] at h; exact absurd h (by simp)
   have holen:((ofStr (eg s)).length:Int) = (eg s).length:=by unfold ofStr; simp
   refine aw.bind (P:=fun r=>match r with | .inl _=>∀ c ∈ eg s,mr c | .inr z=>B0 s z) (aw.rounds (eg s).length (fun (k:Nat) (i:Int)=>i = (k:Int) ∧ ∀ m (hm:m < (eg s).length),m < k → mr (eg s)[m]) (by omega) ⟨rfl,fun m _ h=>absurd h (Nat.not_lt_zero m)⟩ ?_) ?_
   ·rintro k i hk ⟨rfl,hd⟩
    rw [holen]
    refine aw.ite (fun h=>?_) (fun h=>?_)
    ·have hk':k < (eg s).length:=by have:=of_decide_eq_true h; omega
     refine aw.idx (by omega) (by rw [holen]; omega) ?_
     rw [vD hk']
     refine aw.ite (fun h=>?_) (fun h=>?_)
     ·simp only [Bool.or_eq_true,decide_eq_true_eq] at h
      refine aw.aQ (j7 F) (aw.some (.inr ⟨_,rfl,.char hni _ (List.getElem_mem hk') ?_⟩))
      unfold mr; omega
     ·simp only [Bool.or_eq_false_iff,decide_eq_false_iff_not] at h
      refine aw.some (.inl ⟨_,rfl,⟨by rw [gm]; omega,fun m hm h2=>?_⟩,hk'⟩)
      by_cases e:m = k
      ·subst e; unfold mr; omega
      ·exact hd m hm (by omega)
    ·have hk':k = (eg s).length:=by have:=of_decide_eq_false h; omega
     subst hk'
     refine aw.some (.inr ⟨_,rfl,fun c hc2=>?_⟩)
     obtain ⟨m,hm,rfl⟩:=List.getElem_of_mem hc2
     exact hd m hm hm
   ·rintro (u | z) hr
    ·have hd:∀ c ∈ eg s,mr c:=hr
     clear hr
     show aw (if decide (512 < ((eg s).length:Int)) = true then _ else _) _
     refine aw.iff (decide_eq_false (by omega)) ?_
     have r10:-MM < 10 ∧ (10:Int) < MM:=by have:=rY; omega
     refine aw.aQ (yN F (by decide) (by decide)) (aw.aQ (yN F (by decide) (by decide)) ?_)
     have hz0:df 0 = df (dv ((eg s).take 0):Int):=by
      have e:dv ((eg s).take 0) = 0:=by rw [List.take_zero]; rfl
      exact congrArg df (by rw [e]; rfl)
     refine aw.bind (P:=fun z=>z = df (dv (eg s):Int)) (aw.rounds (eg s).length (fun (k:Nat) (st:cV × Int)=>st.2 = (k:Int) ∧ st.1 = df (dv ((eg s).take k):Int)) (by omega) ⟨rfl,hz0⟩ ?_) ?_
     ·rintro k ⟨z,kx⟩ hk ⟨rfl,hz⟩
      dsimp only at hz
      dsimp only [cF]
      rw [hz,holen]
      clear hz
      refine aw.ite (fun h=>?_) (fun h=>?_)
      ·have hk':k < (eg s).length:=by have:=of_decide_eq_true h; omega
       refine aw.idx (by omega) (by rw [holen]; omega) ?_
       rw [vD hk']
       have hcd:=hd _ (List.getElem_mem hk')
       unfold mr at hcd
       have hw:IntKind.i64.wrap (IntKind.u8.wrap (((eg s)[k].toNat:Int) - 48)) = (((eg s)[k].toNat - 48:Nat):Int):=by rw [gm,wu8]; omega
       refine aw.aQ (Mul_y (by omega) (bC _) (bC _)) (aw.zM _ hw (aw.aQ (yN F (by omega) (by omega)) (aw.aQ (Cj (by omega) (Cm _ _ _) (bC _)) (aw.some (.inl ⟨_,rfl,⟨by dsimp only; rw [gm]; omega,?_⟩,hk'⟩)))))
       dsimp only
       rw [dv_take _ hk']
       generalize dv ((eg s).take k) = v
       have hdd:(eg s)[k].toNat - 48 < 10:=by omega
       generalize (eg s)[k].toNat - 48 = d at *
       have rd:-MM < (d:Int) ∧ (d:Int) < MM:=by have:=rY; omega
       have e1:((10 * v + d:Nat):Int) = (v:Int) * 10 + (d:Int):=by omega
       rw [e1]
       by_cases hv:(v:Int) < MM
       ·rw [oY (a:=(v:Int)) (by omega) r10]
        show two _ (df ((v:Int) * 10)) (df (d:Int)) = _
        by_cases hv2:(v:Int) * 10 < MM
        ·rw [oY (by omega) rd]; rfl
        ·rw [nD (by omega),nD (z:=(v:Int) * 10 + d) (by omega)]
         rfl
       ·rw [nD (z:=(v:Int)) (by omega),nD (z:=(v:Int) * 10 + d) (by omega)]
        rfl
      ·have hk':k = (eg s).length:=by have:=of_decide_eq_false h; omega
       subst hk'
       refine aw.some (.inr ⟨_,rfl,?_⟩)
       rw [List.take_length]
     ·intro z hz
      rw [hz]
      clear hz
      by_cases hv:(dv (eg s):Int) < MM
      ·have hin:-MM < (dv (eg s):Int) ∧ (dv (eg s):Int) < MM:=by omega
       have hb:(df (dv (eg s):Int)).Bad = false:=by rw [wM,decide_eq_true hin]; rfl
       refine aw.iff hb (aw.aQ (fA F _ (bC _)) (aw.some ?_))
       have hW:=(eV hin).1
       rw [if_neg (by omega)] at hW
       rw [hW,digS_ne]
       exact .num hni hd hv
      ·rw [nD (by omega)]
       exact aw.yz rfl (aw.some (.long hni hd (by omega)))
    ·exact aw.some hr
end Go.Proofs.YtbcdabflmkgkiaaGreatDoor
namespace Go.Sk
open Go
end Go.Sk
namespace Go.Proofs.YtbcdabflmkgkiaaGreatDoor
open Go Go.Sk
set_option linter.unusedSimpArgs false
set_option linter.unusedVariables false
end Go.Proofs.YtbcdabflmkgkiaaGreatDoor
namespace Go.Sk
set_option linter.unusedSimpArgs false
set_option linter.unusedVariables false
open Go
end Go.Sk
namespace Go.Proofs.YtbcdabflmkgkiaaGreatDoor
open Go Go.Sk
set_option linter.unusedVariables false
set_option linter.unusedSimpArgs false
theorem wE (c:UInt8):eJ c = true ↔ mr c:=by
 have h:∀ c:UInt8,decide (eJ c = true ↔ (48 ≤ c.toNat ∧ c.toNat ≤ 57)) = true:=hO (by decide +kernel)
 have h2:=of_decide_eq_true (h c)
 exact h2
theorem C6 {c:UInt8} (h:eJ c = true):c ≠ 46 ∧ c ≠ 45:=by
 have h2:∀ c:UInt8,decide (eJ c = true → c ≠ 46 ∧ c ≠ 45) = true:=hO (by decide +kernel)
 exact of_decide_eq_true (h2 c) h
theorem dv_fold (l:Str):∀ a:Nat,l.foldl (fun acc c=>10 * acc + (c.toNat - 48)) a = a * 10 ^ l.length + dv l:=by
 induction l with
 | nil=>intro a; simp [dv]
 | cons c l ih=>
  intro a
  have h1:=ih (10 * a + (c.toNat - 48))
  have h2:=ih (10 * 0 + (c.toNat - 48))
  unfold dv at *
  rw [List.foldl_cons,List.foldl_cons,h1,h2,List.length_cons,Nat.pow_succ]
  rw [Nat.add_mul,Nat.mul_zero,Nat.zero_add,Nat.add_assoc,Nat.mul_comm 10 a,Nat.mul_assoc,Nat.mul_comm 10]
theorem vM (a b:Str):dv (a ++ b) = dv a * 10 ^ b.length + dv b:=by
 unfold dv
 rw [List.foldl_append]
 exact dv_fold b _
theorem tr (c:UInt8) (l:Str):dv (c :: l) = (c.toNat - 48) * 10 ^ l.length + dv l:=by
 have:=vM [c] l
 rw [List.singleton_append] at this
 rw [this]
 unfold dv
 simp
theorem dv_lt {l:Str} (h:∀ c ∈ l,eJ c = true):dv l < 10 ^ l.length:=by
 induction l with
 | nil=>decide
 | cons c l ih=>
  have h1:=ih fun x hx=>h x (by simp [hx])
  have h2:=(wE c).1 (h c (by simp))
  have h3:c.toNat - 48 ≤ 9:=by have:=h2.2; omega
  rw [tr,List.length_cons,Nat.pow_succ]
  have h4:(c.toNat - 48) * 10 ^ l.length ≤ 9 * 10 ^ l.length:=Nat.mul_le_mul_right _ h3
  omega
theorem ten_MM {k:Nat} (h:k ≤ 100):((10 ^ k:Nat):Int) < MM:=by
 have h1:(10:Nat) ^ k ≤ 10 ^ 100:=Nat.pow_le_pow_right (by decide) h
 have h2:((10 ^ 100:Nat):Int) < MM:=by rw [vn]; decide +kernel
 omega
theorem dv_MM {l:Str} (h:∀ c ∈ l,eJ c = true) (hl:l.length ≤ 100):(dv l:Int) < MM:=by
 have h1:=dv_lt h
 have h2:=ten_MM hl
 omega
theorem Bp {l:Str} (h:∀ c ∈ l,eJ c = true) (hn:ze l) (hl:l.length ≤ 100):gY FF l = some (df (dv l),0):=by
 obtain ⟨r,hr,hq⟩:=Parse_y (F:=FF) FF2 (s:=l) (by omega)
 have hs:uZ l = false:=by
  unfold uZ
  simp only [decide_eq_false_iff_not]
  intro hh
  cases l with
  | nil=>cases hh
  | cons c l=>
   injection hh with hh
   exact (C6 (h c (by simp))).2 hh
 have hd:eg l = l:=by unfold eg; rw [hs]; rfl
 have hill:¬ vV l:=by
  unfold vV
  rw [hd]
  rintro (h1 | ⟨h1,h2⟩)
  ·exact hn.1 h1
  ·exact h2 (hn.2 h1)
 have:=B0.num hill (by rw [hd]; exact fun c hc=>(wE c).1 (h c hc)) (by rw [hd]; exact dv_MM h hl)
 rw [hs,hd] at this
 rw [hr,B0.one hq this]
 rfl
theorem vJ:∀ {A B:Str},(∀ c ∈ A,c ≠ 46) → Lib.index (A ++ 46 :: B) [46] = (A.length:Int)
 | [],B,_=>rfl
 | a :: A,B,h=>by
  have ih:=vJ (A:=A) (B:=B) fun c hc=>h c (by simp [hc])
  have ha:=h a (by simp)
  have e:([46]:Str).isPrefixOf (a :: (A ++ 46 :: B)) = false:=by
   simp [List.isPrefixOf,Ne.symm ha]
  rw [List.cons_append,Lib.index,e,ih]
  simp only [Bool.false_eq_true,if_false]
  rw [if_neg (by simp),List.length_cons]
  omega
theorem index_none:∀ {A:Str},(∀ c ∈ A,c ≠ 46) → Lib.index A [46] = -1
 | [],_=>rfl
 | a :: A,h=>by
  have ih:=index_none (A:=A) fun c hc=>h c (by simp [hc])
  have ha:=h a (by simp)
  have e:([46]:Str).isPrefixOf (a :: A) = false:=by simp [List.isPrefixOf,Ne.symm ha]
  rw [Lib.index,e,ih]
  rfl
theorem cut_dot {A B:Str} (h:∀ c ∈ A,c ≠ 46):Lib.cut (A ++ 46 :: B) [46] = (A,B,true):=by
 unfold Lib.cut
 rw [vJ h,if_pos (by omega),Int.toNat_natCast,List.take_left]
 have e:(A ++ 46 :: B).drop (A.length + ([46]:Str).length) = B:=by
  rw [← List.drop_drop,List.drop_left]; rfl
 rw [e]
theorem D7 {A:Str} (h:∀ c ∈ A,c ≠ 46):Lib.cut A [46] = (A,[],false):=by
 unfold Lib.cut
 rw [index_none h]
 rfl
def xb (c:UInt8):Bool:=decide (c = 48)
theorem trim_ok {F:Nat} {s:Str} (hF:s.length < F):eC F s [48] = some (s.dropWhile xb):=by
 unfold eC
 by_cases hs:s = []
 ·subst hs; rfl
 ·rw [if_neg (by simp [hs])]
  have e1:aZ ([48]:Str) 0 = some 48:=rfl
  have e2:decide ((([48]:Str).length:Int) = 1) = true:=rfl
  rw [e2,e1]
  simp only [bx,if_true,Option.bind_some,cu]
  rw [if_pos (by decide)]
  unfold dY
  refine aw.eq (aw.bind (aw.bind (ld (fun t:Str=>t) (fun t=>t.length) (fun _=>True) (fun t o=>o = t.dropWhile xb) ?_ F s trivial hF) (P:=fun o=>o = s.dropWhile xb) fun o ho=>aw.some ho) fun o ho=>aw.some ho)
  intro t _
  cases t with
  | nil=>exact .inr ⟨[],by simp [bx,cu],rfl⟩
  | cons c t=>
   have e3:decide ((0:Int) < ((c :: t).length:Int)) = true:=decide_eq_true (by simp only [List.length_cons]; omega)
   have e4:aZ (c :: t) 0 = some c:=kh (s:=c :: t) (k:=0) rfl
   have e5:decide ((c.toNat:Int) = ((48:UInt8).toNat:Int)) = xb c:=toNat_eq c 48 (by decide)
   simp only [e3,bx,if_true,e4,Option.bind_some,cu,e5,Bool.true_and]
   by_cases hz:xb c = true
   ·refine .inl ⟨t,?_,trivial,by simp,fun o ho=>by rw [ho,List.dropWhile_cons_of_pos hz]⟩
    rw [if_pos hz]
    unfold oh
    rw [if_pos ⟨by decide,by simp only [List.length_cons]; omega⟩]
    rfl
   ·refine .inr ⟨c :: t,by rw [if_neg hz],by rw [List.dropWhile_cons_of_neg hz]⟩
theorem AF (s:Str):dv (s.dropWhile xb) = dv s:=by
 induction s with
 | nil=>rfl
 | cons c s ih=>
  by_cases hz:xb c = true
  ·rw [List.dropWhile_cons_of_pos hz,ih,tr]
   have:c = 48:=of_decide_eq_true hz
   rw [this]; simp
  ·rw [List.dropWhile_cons_of_neg hz]
theorem Dm (s:Str):∀ c ∈ s.dropWhile xb,c ∈ s:=fun c hc=>(List.dropWhile_sublist xb).mem hc
theorem A' (s:Str) (h:s.dropWhile xb ≠ []):(s.dropWhile xb).head? ≠ some 48:=by
 intro hh
 cases hd:s.dropWhile xb with
 | nil=>exact h hd
 | cons c q=>
  have:=qQ hd
  rw [hd] at hh
  injection hh with hh
  rw [hh] at this
  cases this
theorem zr (k:Nat):Lib.repeatL [48] k = List.replicate k 48:=by
 induction k with
 | zero=>rfl
 | succ k ih=>rw [Lib.repeatL,ih,List.replicate_succ]; rfl
theorem dv_rep (k:Nat):dv (49 :: List.replicate k 48) = 10 ^ k:=by
 rw [tr]
 have h:∀ k,dv (List.replicate k 48) = 0:=by
  intro k
  induction k with
  | zero=>rfl
  | succ k ih=>rw [List.replicate_succ,tr,ih]; simp
 rw [h,List.length_replicate]; simp
noncomputable def AP (A B:Str):gS:=yE (df (dv (A ++ B))) (df ((10 ^ B.length:Nat):Int))
theorem FF3:1000000 < FF:=by decide +kernel
theorem vr {F:Nat} (hFF:F = FF) {t:Token} {A B:Str} (hk:t.Kind = 3) (hp:lJ 3 t.S = true) (hA:∀ x ∈ A,eJ x = true) (hB:∀ x ∈ B,eJ x = true) (hl:A.length + B.length ≤ 40) (hS:t.S = A ∧ B = [] ∨ t.S = A ++ 46 :: B):fk F t = some (AP A B,0):=by
 have hF:1000000 < F:=hFF ▸ FF3
 have pn:∀ {l:Str},(∀ c ∈ l,eJ c = true) → ze l → l.length ≤ 100 → gY F l = some (df (dv l),0):=fun h h2 h3=>by rw [hFF]; exact Bp h h2 h3
 have mk2:∀ {a b:cV},oS a → oS b → fW F a b = some (yE a b):=fun h h2=>by rw [hFF]; exact rX h h2
 clear hFF
 have hsm:=uE hp
 unfold fk
 rw [hk,show (decide ((3:Int) ≠ 3)) = false from rfl]
 have hps:dD F t = some true:=by rw [x6 (by omega) (by omega),hk,hp]
 simp only [Bool.not_false,bx,if_true,hps,Option.bind_some,Bool.not_true,Bool.or_self,Bool.false_eq_true,if_false]
 have hA46:∀ c ∈ A,c ≠ 46:=fun c hc=>(C6 (hA c hc)).1
 have hcut:∃ b,j3 F t.S [46] = some (A,B,b):=by
  unfold j3 cut?
  rw [if_pos (by omega)]
  rcases hS with ⟨h1,h2⟩ | h1
  ·rw [h1,h2,D7 hA46]; exact ⟨_,rfl⟩
  ·rw [h1,cut_dot hA46]; exact ⟨_,rfl⟩
 obtain ⟨b,hcut⟩:=hcut
 rw [hcut,Option.bind_some]
 simp only [kr]
 rw [jZ (by omega),Option.bind_some,trim_ok (by rw [List.length_append]; omega),Option.bind_some]
 have hAB:∀ c ∈ A ++ B,eJ c = true:=fun c hc=>by
  rcases List.mem_append.1 hc with h | h
  ·exact hA c h
  ·exact hB c h
 obtain ⟨N,hN⟩:∃ N,N = df (dv (A ++ B)):=⟨_,rfl⟩
 obtain ⟨D,hD⟩:∃ D,D = df ((10 ^ B.length:Nat):Int):=⟨_,rfl⟩
 have iN:oS N:=hN ▸ bC _
 have iD:oS D:=hD ▸ bC _
 have hv:AP A B = yE N D:=by rw [hN,hD]; rfl
 have htl:((A ++ B).dropWhile xb).length ≤ 40:=by
  have:=(List.dropWhile_sublist (l:=A ++ B) xb).length_le
  rw [List.length_append] at this; omega
 have hall:∃ all:Str,(if decide ((A ++ B).dropWhile xb = []) = true then some [48] else some ((A ++ B).dropWhile xb)) = some all ∧ gY F all = some (N,0):=by
  rw [hN]
  by_cases h0:(A ++ B).dropWhile xb = []
  ·refine ⟨[48],by rw [if_pos (decide_eq_true h0)],?_⟩
   have hz:dv (A ++ B) = 0:=by rw [← AF,h0]; rfl
   have:=pn (l:=[48]) (by intro c hc; rw [List.mem_singleton.1 hc]; rfl) ⟨by simp,fun _=>rfl⟩ (by simp)
   rw [this,hz]; rfl
  ·refine ⟨_,by rw [if_neg (by simpa using h0)],?_⟩
   have:=pn (l:=(A ++ B).dropWhile xb) (fun c hc=>hAB c (Dm _ c hc)) ⟨h0,fun hh=>absurd hh (A' _ h0)⟩ (by omega)
   rw [this,AF]
 obtain ⟨all,h1,h2⟩:=hall
 rw [h1,Option.bind_some,h2,Option.bind_some]
 simp only [cF]
 have hrep:im F [48] (B.length:Int) = some (List.replicate B.length 48):=by
  unfold im th
  rw [if_pos ⟨by omega,by omega,by simp; omega⟩,Int.toNat_natCast,zr]
 rw [hrep,Option.bind_some,jZ (by simp; omega),Option.bind_some]
 have hden:=pn (l:=49 :: List.replicate B.length 48) (by
  intro c hc
  rcases List.mem_cons.1 hc with rfl | hc
  ·rfl
  ·rw [List.eq_of_mem_replicate hc]; rfl) ⟨by simp,fun hh=>by simp at hh⟩ (by simp; omega)
 rw [dv_rep,← hD] at hden
 rw [List.singleton_append,hden,Option.bind_some]
 simp only [cF]
 rw [mk2 iN iD,Option.bind_some,hv]
theorem Bl:dm FF = some true:=by decide +kernel
end Go.Proofs.YtbcdabflmkgkiaaGreatDoor
namespace Go.Proofs.YtbcdabflmkgkiaaGreatDoor
open Go Go.Sk
set_option linter.unusedSimpArgs false
set_option linter.unusedVariables false
def vc (r:Rat) (k:Nat):Prop:=r.num.natAbs < 2 ^ k ∧ r.den < 2 ^ k
theorem pow_up {k j:Nat} (h:k ≤ j):(2:Nat) ^ k ≤ 2 ^ j:=Nat.pow_le_pow_right (by decide) h
theorem MM500:((2 ^ 500:Nat):Int) < MM:=by rw [vn]; decide +kernel
theorem Cq:∀ k:Nat,k ≤ 500 → ((2 ^ k:Nat):Int) < MM:=fun k hk=>Int.lt_of_le_of_lt (Int.ofNat_le.2 (pow_up hk)) MM500
theorem jh {r:Rat} {k:Nat} (h:vc r k) (hk:k ≤ 500):fits r:=by
 have h1:=Cq k hk
 obtain ⟨a,b⟩:=h
 refine ⟨⟨?_,?_⟩,⟨?_,?_⟩⟩ <;> omega
theorem pE {n d:Int} {k:Nat} (h:d ≠ 0) (hn:n.natAbs < 2 ^ k) (hd:d.natAbs < 2 ^ k):vc (Rat.divInt n d) k:=by
 obtain ⟨g0,g1,g2⟩:=red (n:=n) h
 have e1:=congrArg Int.natAbs g1
 have e2:=congrArg Int.natAbs g2
 rw [Int.natAbs_mul] at e1 e2
 have gp:1 ≤ (pI n d).natAbs:=by omega
 have b1:(Rat.divInt n d).num.natAbs ≤ n.natAbs:=by rw [← e1]; exact Nat.le_mul_of_pos_right _ (by omega)
 have b2:(Rat.divInt n d).den ≤ d.natAbs:=by
  rw [← e2,Int.natAbs_natCast]; exact Nat.le_mul_of_pos_right _ (by omega)
 exact ⟨by omega,by omega⟩
theorem add_q (r s:Rat):r + s = Rat.divInt (r.num * s.den + s.num * r.den) (r.den * s.den):=by
 rw [← Rat.num_divInt_den r,← Rat.num_divInt_den s,Rat.divInt_add_divInt _ _ (by have:=r.den_nz; omega) (by have:=s.den_nz; omega),Rat.num_divInt_den,Rat.num_divInt_den]
theorem gE {a b i j:Nat} (h1:a < 2 ^ i) (h2:b < 2 ^ j):a * b < 2 ^ (i + j):=by
 rw [Nat.pow_add]
 exact Nat.mul_lt_mul'' h1 h2
theorem sz_add {r s:Rat} {i j:Nat} (h1:vc r i) (h2:vc s j):vc (r + s) (i + j + 1):=by
 rw [add_q]
 have a:=gE h1.1 h2.2
 have b:=gE h2.1 h1.2
 have c:=gE h1.2 h2.2
 rw [Nat.add_comm j i] at b
 have p:2 ^ (i + j + 1) = 2 ^ (i + j) * 2:=Nat.pow_succ ..
 refine pE ?_ ?_ ?_
 ·have:=r.den_nz
  have:=s.den_nz
  exact Int.mul_ne_zero (by omega) (by omega)
 ·have e1:(r.num * (s.den:Int)).natAbs = r.num.natAbs * s.den:=by rw [Int.natAbs_mul,Int.natAbs_natCast]
  have e2:(s.num * (r.den:Int)).natAbs = s.num.natAbs * r.den:=by rw [Int.natAbs_mul,Int.natAbs_natCast]
  have:=Int.natAbs_add_le (r.num * (s.den:Int)) (s.num * (r.den:Int))
  omega
 ·rw [Int.natAbs_mul,Int.natAbs_natCast,Int.natAbs_natCast]; omega
theorem mul_q (r s:Rat):r * s = Rat.divInt (r.num * s.num) (r.den * s.den):=by
 rw [← Rat.num_divInt_den r,← Rat.num_divInt_den s,Rat.divInt_mul_divInt,Rat.num_divInt_den,Rat.num_divInt_den]
theorem sz_mul {r s:Rat} {i j:Nat} (h1:vc r i) (h2:vc s j):vc (r * s) (i + j):=by
 rw [mul_q]
 refine pE ?_ ?_ ?_
 ·have:=r.den_nz
  have:=s.den_nz
  exact Int.mul_ne_zero (by omega) (by omega)
 ·rw [Int.natAbs_mul]; exact gE h1.1 h2.1
 ·rw [Int.natAbs_mul,Int.natAbs_natCast,Int.natAbs_natCast]; exact gE h1.2 h2.2
theorem oo {z:Int} {k:Nat} (h:z.natAbs < 2 ^ k) (hk:k ≤ 500):pP z:=by
 have:=Cq k hk
 constructor <;> omega
theorem addR_sz {r s:Rat} {i j:Nat} (h1:vc r i) (h2:vc s j) (hk:i + j + 1 ≤ 500):xf r s = mk (r + s):=by
 have a1:=vY r s
 have a2:=B8 r s
 have b1:=vY s r
 have b2:=B8 s r
 have q1:(qd r s).natAbs < 2 ^ i:=by have:=h1.2; omega
 have q2:(qd s r).natAbs < 2 ^ j:=by have:=h2.2; omega
 have m1:(r.num * qd s r).natAbs < 2 ^ (i + j):=by rw [Int.natAbs_mul]; exact gE h1.1 q2
 have m2:(s.num * qd r s).natAbs < 2 ^ (i + j):=by rw [Int.natAbs_mul,Nat.add_comm]; exact gE h2.1 q1
 have m3:(qd r s * s.den).natAbs < 2 ^ (i + j):=by rw [Int.natAbs_mul,Int.natAbs_natCast]; exact gE q1 h2.2
 have p:2 ^ (i + j + 1) = 2 ^ (i + j) * 2:=Nat.pow_succ ..
 have m4:(r.num * qd s r + s.num * qd r s).natAbs < 2 ^ (i + j + 1):=by
  have:=Int.natAbs_add_le (r.num * qd s r) (s.num * qd r s)
  omega
 rw [addR_ok (oo m1 (by omega)) (oo m2 (by omega)) (oo m4 hk) (oo m3 (by omega)),gB (jh (sz_add h1 h2) hk)]
theorem mulR_sz {r s:Rat} {i j:Nat} (h1:vc r i) (h2:vc s j) (hk:i + j ≤ 500):mulR r s = mk (r * s):=by
 unfold mulR; rw [gB (jh (sz_mul h1 h2) hk)]
theorem rQ {z:Int} {k:Nat} (h:z.natAbs < 2 ^ k) (hk:1 ≤ k:=by decide):vc (z:Rat) k:=⟨h,by
 have:=Nat.pow_le_pow_right (n:=2) (by decide) hk
 show (1:Nat) < 2 ^ k
 omega⟩
theorem bmul_mk {r s:Rat} {i j:Nat} (h1:vc r i) (h2:vc s j) (hk:i + j ≤ 500):bi mulR (mk r) (mk s) = mk (r * s):=by
 rw [show bi mulR (mk r) (mk s) = mulR r s from nE (tE (jh h1 (by omega))) (tE (jh h2 (by omega))),mulR_sz h1 h2 hk]
theorem badd_mk {r s:Rat} {i j:Nat} (h1:vc r i) (h2:vc s j) (hk:i + j + 1 ≤ 500):bi xf (mk r) (mk s) = mk (r + s):=by
 rw [show bi xf (mk r) (mk s) = xf r s from nE (tE (jh h1 (by omega))) (tE (jh h2 (by omega))),addR_sz h1 h2 hk]
theorem Ea {a b:Int} {k:Nat} (ha:a.natAbs < 2 ^ k) (hb:b.natAbs < 2 ^ k) (h0:b ≠ 0) (hk:k ≤ 500) (h1:1 ≤ k:=by decide):bi yL (mk (a:Rat)) (mk (b:Rat)) = mk (Rat.divInt a b) ∧ vc (Rat.divInt a b) k:=by
 have hs:=pE h0 ha hb
 refine ⟨?_,hs⟩
 rw [show bi yL (mk (a:Rat)) (mk (b:Rat)) = yL (a:Rat) (b:Rat) from nE (tE (jh (rQ ha h1) hk)) (tE (jh (rQ hb h1) hk))]
 unfold yL
 rw [if_neg (show ((b:Rat)).num ≠ 0 from h0),← Rat.divInt_eq_div,gB (jh hs hk)]
theorem get_at {q:Str} {i:Nat} (h:i < q.length):(⟨⟨q⟩⟩:ByteArray).get! (i + 0) = q[i]:=by
 show (⟨⟨q⟩⟩:ByteArray).get! i = _
 have h2:i < (⟨⟨q⟩⟩:ByteArray).size:=by show i < q.toArray.size; simpa using h
 show (q.toArray)[i]! = _
 rw [getElem!_pos q.toArray i (by simpa using h)]
 simp
theorem zp {q:Str} {i:Nat} (h:i < q.length) (hb:q[i].toNat < 128):rR q i = q[i].toNat ∧ ku q i = i + 1:=by
 unfold rR ku Utf8.decode
 simp only [get_at h]
 rw [if_pos hb]
 exact ⟨rfl,rfl⟩
end Go.Proofs.YtbcdabflmkgkiaaGreatDoor
namespace Go.Proofs.YtbcdabflmkgkiaaGreatDoor
open Go Go.Sk
set_option linter.unusedVariables false
set_option linter.unusedSimpArgs false
theorem CY {F:Nat} (hF:10000000000000000000 < F) {n:Nat} (hn:n < 9223372036854775808):cM F (n:Int) = some (Lib.decDigits n):=by
 unfold cM
 refine aw.eq (aw.bind (P:=fun o=>o = Lib.decDigits n) (ld (ι:=Nat × Str) (fun j=>((j.1:Int),j.2)) (fun j=>j.1) (fun j=>j.1 < 9223372036854775808 ∧ 10 ^ j.2.length * j.1 < 10 ^ 19 ∧ (j.2.length = 0 ∨ 1 ≤ j.1)) (fun j o=>o = Lib.decDigits j.1 ++ j.2) ?_ F (n,[]) ⟨hn,by simp; omega,.inl rfl⟩ (by show n < F; omega) |>.mono fun o ho=>by rw [ho]; simp) fun o ho=>aw.some ho)
 rintro ⟨m,out⟩ ⟨h1,h2,h3⟩
 simp only at h1 h2 h3
 have hol:out.length < 19:=by
  rcases h3 with h | h
  ·omega
  ·have h4:10 ^ out.length * 1 ≤ 10 ^ out.length * m:=Nat.mul_le_mul_left _ h
   have h5:10 ^ out.length < 10 ^ 19:=by omega
   exact (Nat.pow_lt_pow_iff_right (by decide)).1 h5
 simp only [cF,cu]
 have e1:(m:Int).tmod 10 = ((m % 10:Nat):Int):=by rw [mD (by omega)]; rfl
 have e2:(m:Int).tdiv 10 = ((m / 10:Nat):Int):=by rw [k6 (by omega)]; rfl
 have e3:toStr [IntKind.u8.wrap (48 + ((m % 10:Nat):Int))] = [UInt8.ofNat (48 + m % 10)]:=by
  rw [wu8]
  unfold toStr
  simp only [List.map_cons,List.map_nil]
  have:((48 + ((m % 10:Nat):Int)) % 256).toNat = 48 + m % 10:=by omega
  rw [this]
 rw [e1,wr (by omega) (by omega),e3,jZ (by simp; omega),Option.bind_some]
 unfold tA
 rw [if_neg (by decide),Option.bind_some,e2,n2 (by omega) (by omega)]
 by_cases h10:m < 10
 ·have h0:m / 10 = 0:=by omega
  rw [h0,if_pos (by rfl)]
  refine .inr ⟨_,rfl,?_⟩
  have:m % 10 = m:=by omega
  rw [mK h10,this]
 ·rw [if_neg (by simp; omega)]
  refine .inl ⟨(m / 10,[UInt8.ofNat (48 + m % 10)] ++ out),rfl,⟨by simp only; omega,?_,.inr (by simp only; omega)⟩,by simp only; omega,fun o ho=>?_⟩
  ·simp only [List.length_append,List.length_cons,List.length_nil]
   have h4:10 ^ (0 + 1 + out.length) = 10 ^ out.length * 10:=by rw [show 0 + 1 + out.length = out.length + 1 by omega,Nat.pow_succ]
   rw [h4,Nat.mul_assoc]
   have h5:10 ^ out.length * (10 * (m / 10)) ≤ 10 ^ out.length * m:=Nat.mul_le_mul_left _ (by omega)
   omega
  ·rw [ho]
   simp only
   rw [tU h10]; simp
theorem ng (n:Nat):∀ c ∈ Lib.decDigits n,eJ c = true:=fun c hc=>(wE c).2 (C9 n c hc)
theorem jl {n:Nat} (hn:n < 9223372036854775808):(Lib.decDigits n).length ≤ 19:=by
 have h:(9223372036854775808:Nat) < 10 ^ (18 + 1):=by decide
 exact vP 18 n (Nat.lt_trans hn h)
theorem AH (n:Nat):vd (Lib.decDigits n) = false:=by
 have h:=pq n
 unfold vd
 cases hd:Lib.decDigits n with
 | nil=>exact absurd hd h.1
 | cons c q=>
  rw [hd] at h
  by_cases hc:c = 48
  ·have:=h.2 (by rw [hc]; rfl)
   injection this with _ h2
   rw [h2]; rfl
  ·have e:decide (pk (c :: q) = 48) = decide (c = 48):=toNat_eq c 48 (by decide)
   rw [e,decide_eq_false hc,Bool.and_false]
theorem uy {A r:Str} (hA:∀ x ∈ A,eJ x = true) (h0:A ≠ []):tok (A ++ r) = rH (A ++ r):=by
 cases A with
 | nil=>exact absurd rfl h0
 | cons x A=>
  have hx:=hA x (by simp)
  have hl:yF x = false:=by
   have h2:∀ c:UInt8,decide (eJ c = true → yF c = false) = true:=hO (by decide +kernel)
   exact of_decide_eq_true (h2 x) hx
  rw [List.cons_append,tok]
  rw [if_neg (by rw [hl]; simp),if_pos hx]
theorem DZ {m n:Nat} (hm:m < 9223372036854775808) (hn:n < 9223372036854775808):lJ 3 (Lib.decDigits m ++ 46 :: Lib.decDigits n) = true:=by
 have h1:=jl hm
 have h2:=jl hn
 rw [kV]
 have hw:uW 3 (Lib.decDigits m ++ 46 :: Lib.decDigits n) = Lib.decDigits m ++ 46 :: Lib.decDigits n:=if_neg (by decide)
 rw [hw,uy (ng m) (pq m).1]
 have:=tj (D:=[]) (ng m) (pq m).1 (ng n) (pq n).1 (by intro c q h; cases h)
 rw [List.append_nil] at this
 rw [this,if_neg (by omega),AH,if_neg (by decide)]
 congr 1
 simp; omega
theorem BH {m:Nat} (hm:m < 9223372036854775808):lJ 3 (Lib.decDigits m) = true:=by
 have h1:=jl hm
 rw [kV]
 have hw:uW 3 (Lib.decDigits m) = Lib.decDigits m:=if_neg (by decide)
 have e:=uy (r:=[]) (ng m) (pq m).1
 have:=tk (D:=[]) (ng m) (pq m).1 (by intro c q h; cases h) (by intro c q h; cases h)
 rw [List.append_nil] at this e
 rw [hw,e,this,if_neg (by omega),AH,if_neg (by decide)]
theorem p63 {m:Nat} (h:m < 9223372036854775808):((m:Nat):Int).natAbs < 2 ^ 63:=by
 have:(2:Nat) ^ 63 = 9223372036854775808:=by decide
 omega
theorem p10 {k:Nat} (h:k ≤ 19):((10 ^ k:Nat):Int).natAbs < 2 ^ 64:=by
 have h1:(10:Nat) ^ k ≤ 10 ^ 19:=Nat.pow_le_pow_right (by decide) h
 have h2:(10:Nat) ^ 19 < 2 ^ 64:=by decide
 rw [Int.natAbs_natCast]
 exact Nat.lt_of_le_of_lt h1 h2
theorem Ab (k:Nat):0 < 10 ^ k:=Nat.pow_pos (by decide)
theorem q_sum (x y:Int) {P:Int} (hP:P ≠ 0):(x:Rat) + Rat.divInt y P = Rat.divInt (x * P + y) P:=by
 rw [← qw x,Rat.divInt_add_divInt _ _ (by decide) hP,Int.mul_one,Int.one_mul]
theorem Dh {m n:Nat} (hm:m < 9223372036854775808) (hn:n < 9223372036854775808):AP (Lib.decDigits m) (Lib.decDigits n) = mk ((m:Int) + Rat.divInt (n:Int) ((10 ^ (Lib.decDigits n).length:Nat):Int):Rat):=by
 have h2:=jl hn
 have hp:=Ab (Lib.decDigits n).length
 have h10:=p10 h2
 have hlt:=dv_lt (ng n)
 rw [xn] at hlt
 unfold AP
 rw [vM,xn,xn]
 generalize 10 ^ (Lib.decDigits n).length = P at *
 have hm2:=p63 hm
 rw [q_sum (m:Int) (n:Int) (P:=(P:Int)) (by omega)]
 have e1:((m * P + n:Nat):Int) = (m:Int) * (P:Int) + (n:Int):=by push_cast; rfl
 rw [e1]
 have s1:((m:Int) * (P:Int) + (n:Int)).natAbs < 2 ^ 128:=by
  rw [← e1,Int.natAbs_natCast]
  have h3:m * P ≤ m * 2 ^ 64:=Nat.mul_le_mul_left _ (by omega)
  have h4:(2:Nat) ^ 64 = 18446744073709551616:=by decide
  have h5:(2:Nat) ^ 128 = 340282366920938463463374607431768211456:=by decide
  omega
 have s2:((P:Nat):Int).natAbs < 2 ^ 128:=by
  have h4:(2:Nat) ^ 64 ≤ 2 ^ 128:=by decide
  omega
 rw [ny (oo s1 (by decide)) (oo s2 (by decide)) (by omega),gB (jh (pE (by omega) s1 s2) (by decide))]
theorem Di {m:Nat} (hm:m < 9223372036854775808):AP (Lib.decDigits m) [] = mk (((m:Int)):Rat):=by
 unfold AP
 rw [List.append_nil,xn]
 have s1:=p63 hm
 have e:((10 ^ ([]:Str).length:Nat):Int) = 1:=rfl
 rw [e,ny (oo s1 (by decide)) (oo (k:=63) (by decide) (by decide)) (by decide),qw,gB (jh (rQ s1) (by decide))]
theorem BJ {F:Nat} (hFF:F = FF) {m n:Nat} (hm:m < 9223372036854775808) (hn:n < 9223372036854775808) {a b:Int} (ha:IntKind.i64.wrap (a / 2) = (m:Int)) (hb:IntKind.i64.wrap (b / 2) = (n:Int)):bN F a b = some true:=by
 have hF:10000000000000000000 < F:=by rw [hFF]; decide +kernel
 have hsan:dm F = some true:=by rw [hFF]; exact Bl
 have ov:∀ {z:Int},-9223372036854775808 ≤ z → z ≤ 9223372036854775807 → l8 F z = some (mk (z:Rat)):=fun h h2=>by rw [hFF]; exact Of_f ⟨h,h2⟩
 have mv:∀ {x y:gS},vR x → vR y → ns F x y = some (bi mulR x y):=fun h h2=>by rw [hFF]; exact Mul_f h h2
 have av2:∀ {x y:gS},vR x → vR y → o6 F x y = some (bi xf x y):=fun h h2=>by rw [hFF]; exact Add_f h h2
 have dv2:∀ {x y:gS},vR x → vR y → o5 F x y = some (bi yL x y):=fun h h2=>by rw [hFF]; exact Div_f h h2
 have hv1:=vr hFF (t:=⟨3,0,Lib.decDigits m ++ 46 :: Lib.decDigits n⟩) rfl (DZ hm hn) (ng m) (ng n) (by have:=jl hm; have:=jl hn; omega) (.inr rfl)
 have hv2:=vr hFF (t:=⟨3,0,Lib.decDigits m⟩) (B:=[]) rfl (BH hm) (ng m) (by simp) (by have:=jl hm; simp; omega) (.inl ⟨rfl,rfl⟩)
 clear hFF
 have l1:=jl hm
 have l2:=jl hn
 rw [Dh hm hn] at hv1
 rw [Di hm] at hv2
 unfold bN
 rw [ha,hb,CY hF hm,Option.bind_some,CY hF hn,Option.bind_some,jZ (by simp; omega),Option.bind_some,jZ (by simp; omega),Option.bind_some]
 rw [show Lib.decDigits m ++ [46] ++ Lib.decDigits n = Lib.decDigits m ++ 46 :: Lib.decDigits n by simp,hv1,Option.bind_some]
 simp only [cF]
 have hasc:∀ (i:Nat) (h:i < (Lib.decDigits n).length),ku (Lib.decDigits n) i = i + 1:=fun i h=>(zp h (by have:=(C9 n _ (List.getElem_mem h)).2; omega)).2
 have hP:=Ab (Lib.decDigits n).length
 have h10:=p10 l2
 have hp10:∀ k,k ≤ (Lib.decDigits n).length → ((10 ^ k:Nat):Int).natAbs < 2 ^ 64:=fun k hk=>p10 (by omega)
 generalize Lib.decDigits n = B at *
 rw [ov (by decide) (by decide),Option.bind_some]
 refine aw.eq (aw.bind (P:=fun o=>o = mk ((((10 ^ B.length:Nat):Int)):Rat)) (ld (fun k:Nat=>(mk ((((10 ^ k:Nat):Int)):Rat),k)) (fun k=>B.length - k) (fun k=>k ≤ B.length) (fun k o=>o = mk ((((10 ^ B.length:Nat):Int)):Rat)) ?_ F 0 (by omega) (by omega)) fun o ho=>?_)
 ·intro k hk
  try simp only [cF]
  by_cases h:k < B.length
  ·refine .inl ⟨k + 1,?_,by omega,by omega,fun o ho=>ho⟩
   have s1:vc ((((10 ^ k:Nat):Int)):Rat) 64:=rQ (hp10 k hk)
   have s10:vc ((10:Int):Rat) 4:=rQ (by decide)
   rw [if_pos (decide_eq_true h),ov (by decide) (by decide),Option.bind_some,mv (tF _) (tF _),Option.bind_some,bmul_mk s1 s10 (by decide),← Rat.intCast_mul,hasc k h]
   have e:((10 ^ k:Nat):Int) * 10 = ((10 ^ (k + 1):Nat):Int):=by rw [Nat.pow_succ]; push_cast; rfl
   rw [e]
  ·refine .inr ⟨_,by rw [if_neg (by simpa using h)],?_⟩
   rw [show k = B.length by omega]
 ·subst ho
  rw [ov (by omega) (by omega),Option.bind_some,ov (by omega) (by omega),Option.bind_some,dv2 (tF _) (tF _),Option.bind_some]
  generalize 10 ^ B.length = P at *
  have hn64:((n:Nat):Int).natAbs < 2 ^ 64:=by
   have:=p63 hn
   have h4:(2:Nat) ^ 63 ≤ 2 ^ 64:=by decide
   omega
  obtain ⟨d1,d2⟩:=Ea (a:=(n:Int)) (b:=(P:Int)) (k:=64) hn64 h10 (by omega) (by decide)
  rw [d1,av2 (tF _) (tF _),Option.bind_some,badd_mk (rQ (p63 hm)) d2 (by decide),hv2,Option.bind_some]
  simp only [cF]
  rw [hsan,Option.bind_some]
  simp only [decide_true,Bool.and_self,bx,if_true,Option.bind_some]
  exact aw.some rfl
theorem BI (a b:Int) (ha:0 ≤ a ∧ a ≤ 18446744073709551615) (hb:0 ≤ b ∧ b ≤ 18446744073709551615):bN FF a b = some true :=
 BJ rfl (m:=(a / 2).toNat) (n:=(b / 2).toNat) (by omega) (by omega) (by rw [n2 (by omega) (by omega)]; omega) (by rw [n2 (by omega) (by omega)]; omega)
theorem xF {x:Int} {h:PH} {v:Value} (hx:(BV.one (.int .u64 x)).rel h (fun _=>.bool false) v):0 ≤ x ∧ x ≤ 18446744073709551615:=by
 obtain ⟨_,h2⟩:=(show v = .int .u64 x ∧ _ from hx)
 simpa [jU,IntKind.min,IntKind.max,IntKind.signed,IntKind.bits] using h2
end Go.Proofs.YtbcdabflmkgkiaaGreatDoor
namespace Go.Proofs.YtbcdabflmkgkiaaGreatDoor
open Go Go.Sk
theorem BK {mx:Int} (x0:Int) (x1:Int) (hx0:0 ≤ x0 ∧ x0 ≤ 18446744073709551615) (hx1:0 ≤ x1 ∧ x1 ≤ 18446744073709551615):ax Tryz.prog (bh mx) 7 [] [.one (.int .u64 x0),.one (.int .u64 x1)] (Is [] (.b (.one (.bool true)))) :=
 gr (BI x0 x1 hx0 hx1)
end Go.Proofs.YtbcdabflmkgkiaaGreatDoor
