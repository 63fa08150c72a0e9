/- the plain law -/
import Derived.Test.YtbcdabflmkgkiaaGreatDoorW3
namespace Go.Proofs.YtbcdabflmkgkiaaGreatDoor
open Go Go.Sk
set_option linter.unusedVariables false
set_option linter.unusedSimpArgs false
def eJ (b:UInt8):Bool:=decide (48 ≤ b) && decide (b ≤ 57)
def yF (b:UInt8):Bool:=(decide (97 ≤ b) && decide (b ≤ 122)) || (decide (65 ≤ b) && decide (b ≤ 90))
def uY (b:UInt8):Bool:=yF b || eJ b || decide (b = 95)
def AN (b:UInt8):Bool:=decide (b = 32) || decide (b = 9) || decide (b = 10) || decide (b = 13)
def isC (b:UInt8):Bool:=decide (b ≠ 10)
theorem hO {p:UInt8 → Bool} (h:∀ i:Fin 256,p (UInt8.ofNat i.val) = true) (x:UInt8):p x = true:=by
 have:=h ⟨x.toNat,x.toNat_lt⟩
 simpa using this
theorem sq (F:Nat) (x:UInt8):dK F (x.toNat:Int) = some (yF x):=by
 have h:∀ x:UInt8,decide (((decide (97 ≤ (jT .u8 (x.toNat:Int) 32)) && decide ((jT .u8 (x.toNat:Int) 32) ≤ 122)) && decide ((x.toNat:Int) < 128)) = yF x) = true:=hO (by decide +kernel)
 have h:=of_decide_eq_true (h x)
 unfold dK cu
 show some (_ && _) = _
 rw [h]
theorem uk (F:Nat) (x:UInt8):fj F (x.toNat:Int) = some (eJ x):=by
 have h:∀ x:UInt8,decide ((decide (48 ≤ (x.toNat:Int)) && decide ((x.toNat:Int) ≤ 57)) = eJ x) = true:=hO (by decide +kernel)
 have h:=of_decide_eq_true (h x)
 unfold fj
 rw [h]
theorem toNat_eq (x:UInt8) (n:Nat) (hn:n < 256):decide ((x.toNat:Int) = (n:Int)) = decide (x = UInt8.ofNat n):=by
 apply decide_eq_decide.2
 constructor
 ·intro h
  have:x.toNat = n:=by omega
  rw [← this]; simp
 ·rintro rfl
  simp; omega
theorem fn_name (F:Nat) (x:UInt8):eY F 94 (x.toNat:Int) = some (uY x):=by
 unfold eY ee
 rw [if_pos rfl,sq,uk]
 have h:=toNat_eq x 95 (by decide)
 simp only [Option.bind_some]
 cases hl:yF x <;> cases hd:eJ x <;> simp [bx,uY,hl,hd] <;> simpa using h
theorem ui (F:Nat) (x:UInt8):eY F 95 (x.toNat:Int) = some (eJ x):=by
 unfold eY
 rw [if_neg (by decide),if_pos rfl,uk]
theorem DX (F:Nat) (x:UInt8):eY F 99 (x.toNat:Int) = some (AN x):=by
 unfold eY ec fo jP qv
 rw [if_neg (by decide),if_neg (by decide),if_pos rfl]
 have h:∀ x:UInt8,decide (decide (0 ≤ Lib.indexByte [32,9,10,13] (x.toNat:Int).toNat.toUInt8) = AN x) = true:=hO (by decide +kernel)
 simpa using of_decide_eq_true (h x)
theorem zF (F:Nat) (x:UInt8):eY F 101 (x.toNat:Int) = some (isC x):=by
 unfold eY dZ isC
 rw [if_neg (by decide),if_neg (by decide),if_neg (by decide),if_pos rfl]
 have h:=toNat_eq x 10 (by decide)
 simpa using h
theorem dW {s:Str} {k:Nat} {b:UInt8} {r:Str} (h:s.drop k = b :: r):k < s.length:=by
 have:=congrArg List.length h
 simp at this; omega
theorem mR {s:Str} {k:Nat} {b:UInt8} {r:Str} (h:s.drop k = b :: r):s.drop (k + 1) = r:=by
 have e:s.drop (k + 1) = (s.drop k).drop 1:=by rw [List.drop_drop]
 rw [e,h]; rfl
theorem drop_nil {s:Str} {k:Nat} (h:s.drop k = []) (hk:k ≤ s.length):k = s.length:=by
 have:=congrArg List.length h
 simp at this; omega
theorem kh {s:Str} {k:Nat} {b:UInt8} {r:Str} (h:s.drop k = b :: r):aZ s (k:Int) = some b:=by
 have hk:=dW h
 rw [qP (by omega) (by omega),wG _ _ hk]
 have:=List.drop_eq_getElem_cons hk
 rw [h] at this
 injection this with h1 h2
 rw [h1]
theorem wr {z:Int} (h1:0 ≤ z) (h2:z ≤ 1000000000):IntKind.i64.wrap z = z:=n2 (by omega) (by omega)
theorem wk (k:Nat) (h:k ≤ 100000000):IntKind.i64.wrap ((k:Int) + 1) = ((k + 1:Nat):Int):=by rw [wr (by omega) (by omega)]; rfl
theorem wK {s:Str} {k:Nat} (p:UInt8 → Bool):s.drop (k + ((s.drop k).takeWhile p).length) = (s.drop k).dropWhile p:=by
 rw [← List.drop_drop]
 generalize s.drop k = r
 induction r with
 | nil=>rfl
 | cons b r ih=>
  by_cases hb:p b = true
  ·simp only [List.takeWhile_cons_of_pos hb,List.dropWhile_cons_of_pos hb,List.length_cons,List.drop_succ_cons]; exact ih
  ·simp only [List.takeWhile_cons_of_neg hb,List.dropWhile_cons_of_neg hb]; rfl
theorem zO (p:UInt8 → Bool) (r:Str):(r.takeWhile p).length ≤ r.length:=by
 induction r with
 | nil=>simp
 | cons b r ih=>
  by_cases hb:p b = true
  ·simp only [List.takeWhile_cons_of_pos hb,List.length_cons]; omega
  ·simp only [List.takeWhile_cons_of_neg hb,List.length_nil]; omega
theorem rP {s:Str} {k:Nat} (p:UInt8 → Bool) (hk:k ≤ s.length):k + ((s.drop k).takeWhile p).length ≤ s.length:=by
 have:=zO p (s.drop k)
 rw [List.length_drop] at this; omega
theorem ld {ι σ τ:Type} {body:σ → Option (σ ⊕ τ)} (st:ι → σ) (μ:ι → Nat) (I:ι → Prop) (Q:ι → τ → Prop)
  (step:∀ k,I k → (∃ j,body (st k) = some (.inl (st j)) ∧ I j ∧ μ j < μ k ∧ ∀ t,Q j t → Q k t) ∨ ∃ t,body (st k) = some (.inr t) ∧ Q k t) :
  ∀ (G:Nat) (k:ι),I k → μ k < G → aw (iter G body (st k)) (Q k):=by
 intro G
 induction G with
 | zero=>intro k _ h; omega
 | succ G ih=>
  intro k hk hG
  rw [eo]
  rcases step k hk with ⟨j,h,hI,hm,hq⟩ | ⟨t,h,hq⟩
  ·rw [h]
   exact (ih j hI (by omega)).mono hq
  ·rw [h]; exact ⟨t,rfl,hq⟩
theorem Bk {σ τ:Type} {body:σ → Option (σ ⊕ τ)} {s:Str} (p:UInt8 → Bool) (st:Nat → σ) (g:Nat → τ)
  (h1:∀ k b r,s.drop k = b :: r → p b = true → body (st k) = some (.inl (st (k + 1))))
  (h0:∀ k b r,s.drop k = b :: r → p b = false → body (st k) = some (.inr (g k)))
  (he:body (st s.length) = some (.inr (g s.length))) :
  ∀ (F k:Nat),k ≤ s.length → s.length - k < F → iter F body (st k) = some (g (k + ((s.drop k).takeWhile p).length)):=by
 intro F
 induction F with
 | zero=>intro k _ h; omega
 | succ F ih=>
  intro k hk hF
  rw [eo]
  cases hd:s.drop k with
  | nil=>
   have hk':=drop_nil hd hk
   subst hk'
   rw [he]; rfl
  | cons b r=>
   have hlt:=dW hd
   by_cases hb:p b = true
   ·rw [h1 k b r hd hb]
    show iter F body (st (k + 1)) = _
    rw [ih (k + 1) (by omega) (by omega),mR hd,List.takeWhile_cons_of_pos hb,List.length_cons]
    congr 2; omega
   ·rw [h0 k b r hd (by simpa using hb),List.takeWhile_cons_of_neg hb]; rfl
theorem rS {F fn:Nat} {s:Str} {k:Nat} {p:UInt8 → Bool} (hp:∀ x:UInt8,eY F fn (x.toNat:Int) = some (p x)) (hk:k ≤ s.length) (hF:s.length < F) (hs:s.length ≤ 100000000) :
  b9 F fn s (k:Int) = some (((((s.drop k).takeWhile p).length:Nat):Int),s,((k + ((s.drop k).takeWhile p).length:Nat):Int)):=by
 unfold b9
 rw [Bk (s:=s) p (fun k=>(⟨s,(k:Int)⟩:Scan)) (fun k=>(⟨s,(k:Int)⟩:Scan)) ?_ ?_ ?_ F k hk (by omega)]
 ·have:=rP p hk
  generalize ((s.drop k).takeWhile p).length = n at *
  show some (IntKind.i64.wrap (((k + n:Nat):Int) - (k:Int)),s,((k + n:Nat):Int)) = some ((n:Int),s,((k + n:Nat):Int))
  rw [show ((k + n:Nat):Int) - (k:Int) = (n:Int) by omega,wr (by omega) (by omega)]
 ·intro k b r hd hb
  have hlt:=dW hd
  have e:decide ((k:Int) < (s.length:Int)) = true:=by simpa using hlt
  simp only [e,bx,if_true,kh hd,Option.bind_some,hp,hb,Bool.and_self]
  rw [wk k (by omega)]
 ·intro k b r hd hb
  have hlt:=dW hd
  have e:decide ((k:Int) < (s.length:Int)) = true:=by simpa using hlt
  simp only [e,bx,if_true,kh hd,Option.bind_some,hp,hb,Bool.and_false]
  rfl
 ·simp [bx]
def pk:Str → Int
 | []=>0
 | b :: _=>(b.toNat:Int)
theorem kK (F:Nat) {s:Str} {k:Nat} (hk:k ≤ s.length):bd F s (k:Int) = some (pk (s.drop k)):=by
 unfold bd
 cases hd:s.drop k with
 | nil=>
  have:=drop_nil hd hk
  rw [if_pos (by simp; omega)]; rfl
 | cons b r=>
  have hlt:=dW hd
  rw [if_neg (by simp; omega),kh hd]; rfl
def sk:Bool → Str → Str
 | _,[]=>[]
 | false,b :: r=>if AN b then sk false r else if b = 35 then sk true r else b :: r
 | true,b :: r=>if b = 10 then sk false r else sk true r
theorem mZ:∀ (r:Str) (c:Bool),(sk c r).length ≤ r.length
 | [],c=>by cases c <;> simp [sk]
 | b :: r,false=>by
  unfold sk
  have h1:=mZ r false
  have h2:=mZ r true
  split
  ·simp; omega
  ·split
   ·simp; omega
   ·simp
 | b :: r,true=>by
  unfold sk
  have h1:=mZ r false
  have h2:=mZ r true
  split <;> simp <;> omega
theorem sk_sp (r:Str):sk false (r.dropWhile AN) = sk false r:=by
 induction r with
 | nil=>rfl
 | cons b r ih=>
  by_cases hb:AN b = true
  ·rw [List.dropWhile_cons_of_pos hb,ih]
   show _ = sk false (b :: r)
   rw [sk,if_pos hb]
  ·rw [List.dropWhile_cons_of_neg hb]
theorem sk_cm (r:Str):sk false (r.dropWhile isC) = sk true r:=by
 induction r with
 | nil=>rfl
 | cons b r ih=>
  by_cases hb:b = 10
  ·subst hb
   rw [List.dropWhile_cons_of_neg (by decide)]
   rw [sk,if_pos (by decide),sk,if_pos rfl]
  ·rw [List.dropWhile_cons_of_pos (by simpa [isC] using hb),ih]
   conv=>rhs; rw [sk,if_neg hb]
theorem sk_cm' (r:Str):sk false (35 :: r) = sk false ((35 :: r).dropWhile isC):=by
 rw [List.dropWhile_cons_of_pos (by decide),sk_cm,sk,if_neg (by decide),if_pos rfl]
theorem tg:∀ (r:Str) (c:Bool),sk c r = r.drop (r.length - (sk c r).length)
 | [],c=>by cases c <;> rfl
 | b :: r,c=>by
  have h1:=tg r false
  have h2:=tg r true
  have l1:=mZ r false
  have l2:=mZ r true
  have key:∀ t:Str,t.length ≤ r.length → t = r.drop (r.length - t.length) → t = (b :: r).drop ((b :: r).length - t.length):=by
   intro t hl ht
   have e:(b :: r).length - t.length = (r.length - t.length) + 1:=by simp only [List.length_cons]; omega
   rw [e,List.drop_succ_cons]; exact ht
  cases c
  ·by_cases hb:AN b = true
   ·have e:sk false (b :: r) = sk false r:=by rw [sk,if_pos hb]
    rw [e]; exact key _ l1 h1
   ·by_cases hc:b = 35
    ·have e:sk false (b :: r) = sk true r:=by rw [sk,if_neg hb,if_pos hc]
     rw [e]; exact key _ l2 h2
    ·have e:sk false (b :: r) = b :: r:=by rw [sk,if_neg hb,if_neg hc]
     rw [e]; simp
  ·by_cases hb:b = 10
   ·have e:sk true (b :: r) = sk false r:=by rw [sk,if_pos hb]
    rw [e]; exact key _ l1 h1
   ·have e:sk true (b :: r) = sk true r:=by rw [sk,if_neg hb]
    rw [e]; exact key _ l2 h2
def sp (s:Str) (k:Nat):Nat:=s.length - (sk false (s.drop k)).length
theorem wu {s:Str} {k:Nat} (hk:k ≤ s.length):s.drop (sp s k) = sk false (s.drop k):=by
 have h:=tg (s.drop k) false
 have hl:=mZ (s.drop k) false
 rw [List.length_drop] at h hl
 conv=>rhs; rw [h]
 rw [List.drop_drop]
 congr 1
 unfold sp; omega
theorem B6 {s:Str} {k:Nat} (hk:k ≤ s.length):k ≤ sp s k:=by
 have hl:=mZ (s.drop k) false
 rw [List.length_drop] at hl
 unfold sp; omega
theorem sp_of {s:Str} {k j:Nat} (h:sk false (s.drop j) = sk false (s.drop k)):sp s j = sp s k:=by unfold sp; rw [h]
theorem sp_end {s:Str} {k:Nat} (hk:k ≤ s.length) (h:sk false (s.drop k) = s.drop k):sp s k = k:=by
 unfold sp; rw [h,List.length_drop]; omega
theorem qQ {p:UInt8 → Bool}:∀ {r:Str} {b:UInt8} {q:Str},r.dropWhile p = b :: q → p b = false
 | [],_,_,h=>by cases h
 | a :: r,b,q,h=>by
  by_cases ha:p a = true
  ·rw [List.dropWhile_cons_of_pos ha] at h; exact qQ h
  ·rw [List.dropWhile_cons_of_neg ha] at h
   injection h with h1 h2
   subst h1; simpa using ha
theorem pk_35 {r:Str}:(pk r = 35) ↔ ∃ q,r = 35 :: q:=by
 cases r with
 | nil=>simp [pk]
 | cons b q=>
  constructor
  ·intro h
   have h':(b.toNat:Int) = 35:=h
   refine ⟨q,?_⟩
   have:b = 35:=by
    have h2:b.toNat = 35:=by omega
    have:=congrArg UInt8.ofNat h2
    simpa using this
   rw [this]
  ·rintro ⟨q',h⟩
   injection h with h1 h2
   subst h1; rfl
theorem sk_stop {r:Str} (h1:∀ b q,r = b :: q → AN b = false) (h2:∀ q,r ≠ 35 :: q):sk false r = r:=by
 cases r with
 | nil=>rfl
 | cons b q=>
  rw [sk,if_neg (by rw [h1 b q rfl]; simp),if_neg]
  rintro rfl
  exact h2 q rfl
theorem Ad {F:Nat} {s:Str} {k:Nat} (hk:k ≤ s.length) (hF:s.length < F) (hs:s.length ≤ 100000000) :
  dd F s (k:Int) = some (s,((sp s k:Nat):Int)):=by
 unfold dd
 refine aw.eq (aw.bind (ld (fun k:Nat=>(⟨s,(k:Int)⟩:Scan)) (fun k=>s.length - k) (fun k=>k ≤ s.length) (fun k t=>t = ⟨s,((sp s k:Nat):Int)⟩) ?_ F k hk (by omega)) fun t ht=>?_)
 ·intro k hk
  have hr:=rS (F:=F) (DX F) hk hF hs
  have hd:=wK (s:=s) (k:=k) AN
  have hle:=rP (s:=s) AN hk
  have hsk:=sk_sp (s.drop k)
  have hhd:=@qQ AN (s.drop k)
  dsimp only
  rw [hr]
  generalize ((s.drop k).takeWhile AN).length = a at *
  generalize hr1:(s.drop k).dropWhile AN = r1 at *
  simp only [Option.bind_some,kr]
  rw [kK F hle,hd]
  by_cases hc:pk r1 = 35
  ·have hd2:=wK (s:=s) (k:=k + a) isC
   have hle2:=rP (s:=s) isC hle
   obtain ⟨q,rfl⟩:=pk_35.1 hc
   have hpos:0 < ((s.drop (k + a)).takeWhile isC).length:=by
    rw [hd,List.takeWhile_cons_of_pos (by decide)]; simp
   refine .inl ⟨(k + a) + ((s.drop (k + a)).takeWhile isC).length,?_,hle2,by omega,?_⟩
   ·rw [rS (zF F) hle hF hs]
    cases h0:decide (0 < (a:Int)) <;> simp [bx,hc]
   ·intro t ht
    rw [show sp s (k + a + ((s.drop (k + a)).takeWhile isC).length) = sp s k from sp_of (by rw [hd2,hd,← sk_cm',hsk])] at ht
    exact ht
  ·have hc':∀ q,r1 ≠ 35 :: q:=fun q h=>hc (pk_35.2 ⟨q,h⟩)
   by_cases ha:0 < a
   ·refine .inl ⟨k + a,?_,hle,by omega,?_⟩
    ·have e0:decide (0 < (a:Int)) = true:=by simpa using ha
     simp only [e0,bx,Bool.not_true,Bool.true_or,if_true,Option.bind_some,hc,decide_false,Bool.false_eq_true,if_false]
    ·intro t ht
     rw [show sp s (k + a) = sp s k from sp_of (by rw [hd,hsk])] at ht
     exact ht
   ·refine .inr ⟨⟨s,(((k + a:Nat)):Int)⟩,?_,?_⟩
    ·have e0:decide (0 < (a:Int)) = false:=by simpa using ha
     simp only [e0,bx,Bool.not_false,if_true,Option.bind_some,hc,decide_false,Bool.or_self,Bool.false_eq_true,if_false]
    ·have:a = 0:=by omega
     subst this
     have hst:sk false r1 = r1:=sk_stop (fun b q h=>hhd h) hc'
     rw [show sp s k = k + 0 from sp_end hk (by rw [← hsk,hst,← hd]; rfl)]
 ·subst ht; exact aw.some rfl
def isW (t:Str):Bool:=decide (t ∈ eP)
theorem bs_in (G:Nat):eP.all (fun t=>decide (dX (G + 100) t = some true)) = true:=by kernel_rfl
theorem bs_out {F:Nat} (hF:100 < F) {t:Str} (h:t ∉ eP):dX F t = some false:=by
 unfold dX eG
 have hl:(eP.length:Int) = 36:=by decide
 rw [hl]
 refine aw.eq (aw.bind (P:=fun o:Int × Bool=>o.2 = false) (aw.bind (P:=fun i:Int=>0 ≤ i) (aw.loop (fun s:Int × Int=>0 ≤ s.1 ∧ s.1 ≤ s.2 ∧ s.2 ≤ 36) (fun s=>(s.2 - s.1).toNat) (by decide) (by show (36:Int).toNat < F; have:(36:Int).toNat = 36:=rfl; omega) ?_) fun i hi=>?_) ?_)
 ·rintro ⟨i,j⟩ ⟨h0,h1,h2⟩
  simp only at h0 h1 h2
  simp only [cF]
  refine aw.ite (fun hc=>?_) (fun hc=>aw.some (.inr ⟨_,rfl,h0⟩))
  have hc:=of_decide_eq_true hc
  have e1:IntKind.i64.wrap (i + j) = i + j:=wr (by omega) (by omega)
  have e2:IntKind.u64.wrap (i + j) = i + j:=by rw [fv]; omega
  have e3:IntKind.i64.wrap ((i + j) / 2) = (i + j) / 2:=wr (by omega) (by omega)
  rw [e1,e2]
  refine aw.ln ?_
  rw [e3]
  refine aw.idx (by omega) (by rw [hl]; omega) ?_
  unfold nJ kq
  rw [Option.bind_some]
  have e4:decide (idx eP ((i + j) / 2) ≠ idx eP ((i + j) / 2)) = false:=by simp
  rw [e4]
  refine aw.aQ (x:=Op.bytesLess (idx eP ((i + j) / 2)) t) (by simp [bx]) ?_
  refine aw.ite (fun _=>aw.ln (aw.some (.inl ⟨_,rfl,?_,?_⟩))) (fun _=>aw.some (.inl ⟨_,rfl,?_,?_⟩))
  ·rw [wr (by omega) (by omega)]; simp only; omega
  ·rw [wr (by omega) (by omega)]; simp only; omega
  ·simp only; omega
  ·simp only; omega
 ·by_cases hc:i < 36
  ·have e0:decide (i < 36) = true:=by simpa using hc
   have e1:decide (idx eP i = t) = false:=by
    have hm:idx eP i ∈ eP:=by
     have:=idx_eq (xs:=eP) hi (by rw [hl]; exact hc)
     exact List.mem_of_getElem? this
    simp only [decide_eq_false_iff_not]
    intro e; exact h (e ▸ hm)
   rw [e0]
   refine aw.g1 rfl (aw.idx hi (by rw [hl]; exact hc) ?_)
   rw [e1]
   refine aw.g1 rfl (aw.idx hi (by rw [hl]; exact hc) ?_)
   unfold gK
   simp only [Bool.not_false,Bool.and_self,bx,if_true,Option.bind_some,cu]
   have e4:decide (idx eP i ≠ idx eP i) = false:=by simp
   rw [e4]
   exact aw.some rfl
  ·have e0:decide (i < 36) = false:=by simpa using hc
   rw [e0]
   simp only [Bool.false_and,bx,Bool.false_eq_true,if_false,Option.bind_some,cu]
   exact aw.some rfl
 ·rintro ⟨i,b⟩ hb
  simp only at hb
  subst hb
  exact aw.some rfl
theorem word_ok {F:Nat} (hF:100 < F) (t:Str):dX F t = some (isW t):=by
 by_cases h:t ∈ eP
 ·obtain ⟨G,rfl⟩:∃ G,F = G + 100:=⟨F - 100,by omega⟩
  have:=of_decide_eq_true (List.all_eq_true.1 (bs_in G) t h)
  rw [this,isW,decide_eq_true h]
 ·rw [bs_out hF h,isW,decide_eq_false h]
inductive Tk where
 | bad (e:Int)
 | pN (k:Int) (t:Str) (n:Nat)
def mo (r:Str):Tk:=if 32 < (r.takeWhile uY).length then .bad 2 else .pN (if isW (r.takeWhile uY) then 1 else 2) (r.takeWhile uY) (r.takeWhile uY).length
def ml (r:Str):Nat × Nat:=match r.dropWhile eJ with
 | 46 :: d :: q=>if eJ d then ((r.takeWhile eJ).length + 1 + ((d :: q).takeWhile eJ).length,(r.takeWhile eJ).length + ((d :: q).takeWhile eJ).length) else ((r.takeWhile eJ).length,(r.takeWhile eJ).length)
 | _=>((r.takeWhile eJ).length,(r.takeWhile eJ).length)
def hL:Str → Bool
 | []=>false
 | b :: _=>yF b
def lu (r:Str):Bool:=hL r || decide (pk r = 95)
def xi (r:Str):Bool:=decide (1 < (r.takeWhile eJ).length) && decide (pk r = 48)
def rH (r:Str):Tk:=if 40 < (ml r).2 then .bad 2 else if xi r || lu (r.drop (ml r).1) then .bad 281 else .pN 3 (r.take (ml r).1) (ml r).1
def iP:Str → Option (Str × Nat)
 | []=>none
 | [b]=>if b = 34 then some ([],1) else none
 | b :: c :: q=>if b = 34 then some ([],1) else if b = 92 then (if c = 34 ∨ c = 92 then (iP q).map fun z=>(c :: z.1,z.2 + 2) else none) else if 32 ≤ b ∧ b ≤ 126 then (iP (c :: q)).map fun z=>(b :: z.1,z.2 + 1) else none
def qC (r:Str):Tk:=match iP (r.drop 1) with
 | none=>.bad 280
 | some z=>if 80 < z.1.length then .bad 2 else .pN 4 z.1 (z.2 + 1)
def n4 (r:Str):Tk:=match dA.find? (fun g=>g.isPrefixOf r) with
 | none=>.bad 280
 | some g=>.pN 5 g g.length
def tok (r:Str):Tk:=match r with
 | []=>.bad 280
 | b :: _=>if yF b then mo r else if eJ b then rH r else if b = 34 then qC r else n4 r
def Tk.res (s:Str) (k:Nat):Tk → (Token × Bool × Str × Int) ⊕ Problem
 | .bad e=>.inr ⟨(k:Int),e⟩
 | .pN kd t n=>.inl (⟨kd,(k:Int),t⟩,true,s,((k + n:Nat):Int))
theorem Cp {s:Str} {k n:Nat} (h:k + n ≤ s.length):yG s (k:Int) ((k + n:Nat):Int) = some ((s.drop k).take n):=by
 unfold yG
 rw [if_pos ⟨by omega,by omega,by omega⟩]
 congr 1
 simp only [Int.toNat_natCast]
 rw [List.drop_take]
 congr 1
 omega
theorem Ac (p:UInt8 → Bool) (r:Str):r.take (r.takeWhile p).length = r.takeWhile p:=by
 induction r with
 | nil=>rfl
 | cons b r ih=>
  by_cases hb:p b = true
  ·rw [List.takeWhile_cons_of_pos hb,List.length_cons,List.take_succ_cons,ih]
  ·rw [List.takeWhile_cons_of_neg hb]; rfl
theorem qL (b:UInt8) (r:Str):pk (b :: r) = (b.toNat:Int):=rfl
theorem sn (F:Nat) (r:Str):dK F (pk r) = some (hL r):=by
 cases r with
 | nil=>exact sq F 0
 | cons b r=>exact sq F b
theorem pk_95 (r:Str):decide (pk r = 95) = match r with | []=>false | b :: _=>decide (b = 95):=by
 cases r with
 | nil=>rfl
 | cons b r=>exact toNat_eq b 95 (by decide)
theorem Ca (r:Str):decide (pk r = 34) = match r with | []=>false | b :: _=>decide (b = 34):=by
 cases r with
 | nil=>rfl
 | cons b r=>exact toNat_eq b 34 (by decide)
theorem pk_46 (r:Str):decide (pk r = 46) = match r with | []=>false | b :: _=>decide (b = 46):=by
 cases r with
 | nil=>rfl
 | cons b r=>exact toNat_eq b 46 (by decide)
theorem name_no {F:Nat} {s:Str} {k:Nat} {b:UInt8} {q:Str} (hd:s.drop k = b :: q) (hb:yF b = false):bZ F s (k:Int) = some (.inl (⟨0,0,[]⟩,false,s,(k:Int))):=by
 have hk:=dW hd
 unfold bZ
 rw [kK F (by omega),Option.bind_some,sn,hd,Option.bind_some]
 simp only [hL,hb,Bool.not_false,if_true]
theorem name_ok {F:Nat} {s:Str} {k:Nat} {b:UInt8} {q:Str} (hd:s.drop k = b :: q) (hb:yF b = true) (hF:s.length < F) (hF2:100 < F) (hs:s.length ≤ 100000000):bZ F s (k:Int) = some ((mo (s.drop k)).res s k):=by
 have hk:=dW hd
 unfold bZ
 rw [kK F (by omega),Option.bind_some,sn,hd,Option.bind_some]
 simp only [hL,hb,Bool.not_true,Bool.false_eq_true,if_false]
 rw [rS (fn_name F) (by omega) hF hs,Option.bind_some]
 have hle:=rP (s:=s) uY (Nat.le_of_lt hk)
 have htk:=Ac uY (s.drop k)
 rw [← hd]
 unfold mo
 generalize hn:((s.drop k).takeWhile uY).length = n at *
 simp only [kr]
 by_cases h32:32 < n
 ·rw [if_pos h32,if_pos (by simp; omega)]; rfl
 ·rw [if_neg h32,if_neg (by simp; omega)]
  simp only [Option.bind_some,eh]
  rw [Cp hle,Option.bind_some,htk,word_ok hF2,Option.bind_some]
  cases isW ((s.drop k).takeWhile uY) <;> rfl
theorem Al (r:Str):(ml r).1 ≤ r.length:=by
 have h1:=zO eJ r
 have h2:(r.takeWhile eJ).length + (r.dropWhile eJ).length = r.length:=by
  conv=>rhs; rw [← List.takeWhile_append_dropWhile (p:=eJ) (l:=r),List.length_append]
 unfold ml
 split
 ·next d q h=>
  rw [h] at h2
  have h3:=zO eJ (d :: q)
  split
  ·simp only [List.length_cons] at *; omega
  ·simp only; omega
 ·simp only; omega
theorem xy {r:Str} {d:UInt8} {q:Str} (h:r.dropWhile eJ = 46 :: d :: q) (hd:eJ d = true):ml r = ((r.takeWhile eJ).length + 1 + ((d :: q).takeWhile eJ).length,(r.takeWhile eJ).length + ((d :: q).takeWhile eJ).length):=by
 unfold ml
 rw [h]
 simp only [hd,if_true]
theorem Ak {r:Str} (h:∀ d q,r.dropWhile eJ = 46 :: d :: q → eJ d = false):ml r = ((r.takeWhile eJ).length,(r.takeWhile eJ).length):=by
 unfold ml
 split
 ·next d q e=>rw [h d q e]; rfl
 ·rfl
theorem Bx {F:Nat} {s:Str} {k:Nat} {b:UInt8} {q:Str} (hd:s.drop k = b :: q) (hb:eJ b = false) (hF:s.length < F) (hs:s.length ≤ 100000000):bO F s (k:Int) = some (.inl (⟨0,0,[]⟩,false,s,(k:Int))):=by
 have hk:=dW hd
 unfold bO
 rw [rS (ui F) (by omega) hF hs,Option.bind_some,hd,List.takeWhile_cons_of_neg (by simp [hb])]
 rfl
theorem Bw {F:Nat} {s:Str} {k:Nat} {b:UInt8} {q:Str} (hd:s.drop k = b :: q) (hb:eJ b = true) (hF:s.length < F) (hs:s.length ≤ 100000000):bO F s (k:Int) = some ((rH (s.drop k)).res s k):=by
 have hk:=dW hd
 unfold bO
 rw [rS (ui F) (by omega) hF hs,Option.bind_some]
 have hle:=rP (s:=s) eJ (Nat.le_of_lt hk)
 have hdt:=wK (s:=s) (k:=k) eJ
 have hnl:=Al (s.drop k)
 rw [List.length_drop] at hnl
 have ha:0 < ((s.drop k).takeWhile eJ).length:=by rw [hd,List.takeWhile_cons_of_pos hb]; simp
 have hz:xi (s.drop k) = (decide (1 < ((s.drop k).takeWhile eJ).length) && decide ((b.toNat:Int) = 48)):=by unfold xi; rw [hd]; rfl
 have hdot:=@xy (s.drop k)
 have hno:=@Ak (s.drop k)
 generalize hA:((s.drop k).takeWhile eJ).length = a at *
 simp only [kr]
 rw [if_neg (by simp; omega)]
 refine aw.eq (aw.bind (P:=fun o:Scan × Int=>o = (⟨s,((k + (ml (s.drop k)).1:Nat):Int)⟩,((ml (s.drop k)).2:Int) - (a:Int)) ∧ (ml (s.drop k)).2 ≤ s.length) ?_ ?_)
 ·rw [kK F hle,hdt,Option.bind_some,pk_46]
  cases h1:(s.drop k).dropWhile eJ with
  | nil=>
   rw [hno (by rw [h1]; intro d q h; cases h)]
   simp only [Bool.false_and,bx,Bool.false_eq_true,if_false,Option.bind_some]
   exact aw.some ⟨by simp,by show a ≤ s.length; omega⟩
  | cons c r1=>
   rw [h1] at hdt
   have hlt:=dW hdt
   have hds:=mR hdt
   simp only
   by_cases hc:c = 46
   ·subst hc
    cases r1 with
    | nil=>
     have hend:k + a + 1 = s.length:=drop_nil hds (by omega)
     rw [hno (by rw [h1]; intro d q h; cases h)]
     have e1:decide (IntKind.i64.wrap (((k + a:Nat):Int) + 1) < (s.length:Int)) = false:=by rw [wk (k + a) (by omega)]; simp; omega
     simp only [e1,Bool.and_false,bx,Bool.false_eq_true,if_false,Option.bind_some]
     exact aw.some ⟨by simp,by show a ≤ s.length; omega⟩
    | cons d q1=>
     have hlt2:=dW hds
     have e1:decide (((k + a + 1:Nat):Int) < (s.length:Int)) = true:=decide_eq_true (by omega)
     have e2:=kh hds
     simp only [wk (k + a) (by omega),e1,e2,decide_true,Bool.and_self,bx,if_true,Option.bind_some,uk,Bool.true_and]
     by_cases hg:eJ d = true
     ·rw [hdot (d:=d) (q:=q1) (by rw [h1]) hg,hg,if_pos rfl,rS (ui F) (by omega) hF hs,Option.bind_some,hds]
      have h5:=rP (s:=s) (k:=k + a + 1) eJ (by omega)
      rw [hds] at h5
      generalize ((d :: q1).takeWhile eJ).length = m at *
      refine aw.some ⟨?_,by show a + m ≤ s.length; omega⟩
      show ((⟨s,((k + a + 1 + m:Nat):Int)⟩:Scan),(m:Int)) = (⟨s,((k + (a + 1 + m):Nat):Int)⟩,((a + m:Nat):Int) - (a:Int))
      rw [show k + (a + 1 + m) = k + a + 1 + m by omega,show ((a + m:Nat):Int) - (a:Int) = (m:Int) by omega]
     ·have hg':eJ d = false:=by simpa using hg
      rw [hno (by rw [h1]; intro d' q' h; injection h with _ h; injection h with h _; rw [← h]; exact hg')]
      simp only [hg',Bool.and_false,Bool.false_eq_true,if_false]
      exact aw.some ⟨by simp,by show a ≤ s.length; omega⟩
   ·have e0:decide (c = 46) = false:=by simpa using hc
    rw [hno (by rw [h1]; intro d q h; injection h with h _; exact absurd h hc)]
    simp only [e0,Bool.false_and,bx,Bool.false_eq_true,if_false,Option.bind_some]
    exact aw.some ⟨by simp,by show a ≤ s.length; omega⟩
 ·rintro o ⟨rfl,hc⟩
  simp only [cF]
  unfold rH
  have hle2:k + (ml (s.drop k)).1 ≤ s.length:=by omega
  have hu:=sn F (s.drop (k + (ml (s.drop k)).1))
  rw [← List.drop_drop] at hu
  have hp:=kK F hle2
  rw [← List.drop_drop] at hp
  have hsub:=Cp hle2
  rw [hz]
  generalize ml (s.drop k) = nc at *
  obtain ⟨n,c⟩:=nc
  simp only at *
  rw [show (a:Int) + ((c:Int) - (a:Int)) = (c:Int) by omega,wr (by omega) (by omega)]
  by_cases h40:40 < c
  ·rw [if_pos h40,if_pos (by simp; omega)]
   exact aw.some rfl
  ·rw [if_neg h40,if_neg (by simp; omega)]
   have hi:=kh hd
   have e0:decide ((1:Int) < (a:Int)) = decide (1 < a):=by rw [decide_eq_decide]; omega
   simp only [hi,hp,hsub,e0,lu]
   rcases Bool.eq_false_or_eq_true (decide (1 < a)) with hA | hA <;> rcases Bool.eq_false_or_eq_true (hL ((s.drop k).drop n)) with hl | hl <;> rcases Bool.eq_false_or_eq_true (decide (pk ((s.drop k).drop n) = 95)) with hU | hU <;> rcases Bool.eq_false_or_eq_true (decide ((b.toNat:Int) = 48)) with hB | hB <;> simp only [bx,hA,Bool.not_true,Bool.not_false,Bool.true_and,Bool.false_and,Bool.and_true,Bool.and_false,Bool.or_true,Bool.or_false,Bool.true_or,Bool.false_or,if_true,Bool.false_eq_true,if_false,Option.bind_some,hB,hu,hl,hU,cu,hsub,eh,bg] <;> exact aw.some rfl
def inT (b:UInt8):Bool:=decide (32 ≤ b) && decide (b ≤ 126)
theorem yV (b:UInt8):(decide ((b.toNat:Int) < 32) || decide (126 < (b.toNat:Int))) = !inT b:=by
 have h:∀ b:UInt8,decide ((decide ((b.toNat:Int) < 32) || decide (126 < (b.toNat:Int))) = !inT b) = true:=hO (by decide +kernel)
 exact of_decide_eq_true (h b)
theorem ey (b:UInt8) (r:Str):iP (b :: r) = if b = 34 then some ([],1) else if b = 92 then (match r with | []=>none | c :: q=>if c = 34 ∨ c = 92 then (iP q).map fun z=>(c :: z.1,z.2 + 2) else none) else if inT b = true then (iP r).map fun z=>(b :: z.1,z.2 + 1) else none:=by
 cases r with
 | nil=>
  by_cases h1:b = 34
  ·simp [iP,h1]
  ·by_cases h2:b = 92
   ·simp [iP,h2]
   ·by_cases h3:inT b = true <;> simp [iP,h1,h2,h3]
 | cons c q=>
  rw [iP]
  simp only [inT,Bool.and_eq_true,decide_eq_true_eq]
theorem pz:∀ (r:Str) (z:Str × Nat),iP r = some z → 1 ≤ z.2 ∧ z.2 ≤ r.length ∧ z.1.length < z.2
 | [],z,h=>by cases h
 | [b],z,h=>by
  rw [iP] at h
  split at h
  ·cases h; simp
  ·cases h
 | b :: c :: q,z,h=>by
  rw [ey] at h
  have h1:=pz q
  have h2:=pz (c :: q)
  split at h
  ·cases h; simp
  ·split at h
   ·simp only at h
    split at h
    ·obtain ⟨y,hy,rfl⟩:=Option.map_eq_some_iff.1 h
     have:=h1 y hy
     simp only [List.length_cons] at *
     omega
    ·cases h
   ·split at h
    ·obtain ⟨y,hy,rfl⟩:=Option.map_eq_some_iff.1 h
     have:=h2 y hy
     simp only [List.length_cons] at *
     omega
    ·cases h
theorem xt (t:Str):toStr (ofStr t) = t:=by
 unfold toStr ofStr
 rw [List.map_map]
 conv=>rhs; rw [← List.map_id t]
 congr 1
 funext c
 show UInt8.ofNat (c.toNat:Int).toNat = c
 simp
theorem text_no {F:Nat} {s:Str} {k:Nat} {b:UInt8} {q:Str} (hd:s.drop k = b :: q) (hb:b ≠ 34):bY F s (k:Int) = some (.inl (⟨0,0,[]⟩,false,s,(k:Int))):=by
 have hk:=dW hd
 unfold bY
 rw [kK F (by omega),Option.bind_some,hd]
 have h34:decide (pk (b :: q) = 34) = decide (b = 34):=Ca (b :: q)
 rw [if_pos]
 rw [decide_not,h34]; simp [hb]
theorem text_ok {F:Nat} {s:Str} {k:Nat} {q:Str} (hd:s.drop k = 34 :: q) (hF:s.length < F) (hs:s.length ≤ 100000000):bY F s (k:Int) = some ((qC (s.drop k)).res s k):=by
 have hk:=dW hd
 unfold bY
 rw [kK F (by omega),Option.bind_some,hd]
 rw [if_neg (by simp [pk]),wk k (by omega)]
 have hds:=mR hd
 refine aw.eq (aw.bind (ld (ι:=Nat × List Int) (fun j=>((⟨s,(j.1:Int)⟩:Scan),j.2)) (fun j=>s.length - j.1) (fun j=>j.1 ≤ s.length ∧ j.2.length ≤ j.1)
  (fun j t=>match iP (s.drop j.1) with | none=>t = .inr (.inr (⟨(k:Int),280⟩:Problem)) | some z=>∃ i:Nat,i + 1 = j.1 + z.2 ∧ t = .inl (⟨s,(i:Int)⟩,j.2 ++ ofStr z.1)) ?_ F (k + 1,[]) ⟨by simp only; omega,by simp⟩ (by simp only; omega)) fun t ht=>?_)
 ·rintro ⟨j,out⟩ ⟨hj,ho⟩
  simp only at hj ho
  simp only [cF]
  rw [kK F hj,Option.bind_some]
  cases hr:s.drop j with
  | nil=>
   rw [if_pos (by decide)]
   refine .inr ⟨_,?_,rfl⟩
   simp only [Option.bind_some,pk,bg,eh]
   rfl
  | cons b r=>
   have hlt:=dW hr
   have hrs:=mR hr
   have h34:decide (pk (b :: r) = 34) = decide (b = 34):=Ca (b :: r)
   have h92:decide (pk (b :: r) = 92) = decide (b = 92):=toNat_eq b 92 (by decide)
   by_cases hb:b = 34
   ·subst hb
    rw [if_neg (by simp [pk])]
    refine .inr ⟨_,rfl,?_⟩
    rw [ey,if_pos rfl]
    exact ⟨j,rfl,by simp [ofStr]⟩
   ·rw [if_pos (by rw [decide_not,h34]; simp [hb])]
    simp only [Option.bind_some]
    by_cases hc:b = 92
    ·subst hc
     rw [if_pos (by simp [pk]),wk j (by omega),kK F (by omega),hrs,Option.bind_some]
     cases hq:r with
     | nil=>
      refine .inr ⟨.inr (.inr (⟨(k:Int),280⟩:Problem)),?_,?_⟩
      ·rw [if_pos (by decide)]
       simp only [Option.bind_some,bg,eh]
      ·rw [ey,if_neg (by decide),if_pos rfl]
     | cons c q1=>
      have hrs':=hrs
      rw [hq] at hrs'
      have hlt2:=dW hrs'
      have c34:decide (pk (c :: q1) = 34) = decide (c = 34):=Ca (c :: q1)
      have c92:decide (pk (c :: q1) = 92) = decide (c = 92):=toNat_eq c 92 (by decide)
      by_cases hcc:c = 34 ∨ c = 92
      ·have hin:(decide ((pk (c :: q1)) < 32) || decide (126 < (pk (c :: q1)))) = false:=by
        rw [qL,yV]
        rcases hcc with rfl | rfl <;> rfl
       refine .inl ⟨(j + 2,out ++ [(c.toNat:Int)]),?_,⟨by simp only; omega,by simp; omega⟩,by simp only; omega,?_⟩
       ·rw [if_neg]
        ·simp only [Option.bind_some,eh,cF,hin]
         rw [if_neg (by decide)]
         simp only [Option.bind_some]
         rw [jZ (by simp only [List.length_cons,List.length_nil]; omega)]
         simp only [Option.bind_some,qL,eh,cF]
         rw [wk (j + 1) (by omega)]
        ·rw [decide_not,decide_not,c34,c92]
         rcases hcc with rfl | rfl <;> decide
       ·intro t ht
        simp only at ht ⊢
        rw [show j + 2 = j + 1 + 1 from rfl,mR hrs'] at ht
        rw [ey,if_neg (by decide),if_pos rfl]
        simp only [if_pos hcc]
        cases hg:iP q1 with
        | none=>rw [hg] at ht; exact ht
        | some z=>
         rw [hg] at ht
         obtain ⟨i,hi,ht⟩:=ht
         exact ⟨i,by simp only; omega,by rw [ht]; simp [ofStr]⟩
      ·refine .inr ⟨.inr (.inr (⟨(k:Int),280⟩:Problem)),?_,?_⟩
       ·rw [if_pos]
        ·simp only [Option.bind_some,bg,eh]
        ·rw [decide_not,decide_not,c34,c92]
         simpa using hcc
       ·rw [ey,if_neg (by decide),if_pos rfl]
        simp only [if_neg hcc]
    ·rw [if_neg (by rw [h92]; simpa using hc)]
     simp only [Option.bind_some,eh,cF]
     by_cases hin:inT b = true
     ·have hin':(decide ((pk (b :: r)) < 32) || decide (126 < (pk (b :: r)))) = false:=by
       rw [qL,yV,hin]; rfl
      refine .inl ⟨(j + 1,out ++ [(b.toNat:Int)]),?_,⟨by simp only; omega,by simp; omega⟩,by simp only; omega,?_⟩
      ·rw [hin',if_neg (by decide)]
       simp only [Option.bind_some]
       rw [jZ (by simp only [List.length_cons,List.length_nil]; omega)]
       simp only [Option.bind_some,qL,eh,cF]
       rw [wk j (by omega)]
      ·intro t ht
       simp only at ht ⊢
       rw [hrs] at ht
       rw [ey,if_neg hb,if_neg hc,if_pos hin]
       cases hg:iP r with
       | none=>rw [hg] at ht; exact ht
       | some z=>
        rw [hg] at ht
        obtain ⟨i,hi,ht⟩:=ht
        exact ⟨i,by simp only; omega,by rw [ht]; simp [ofStr]⟩
     ·have hin':(decide ((pk (b :: r)) < 32) || decide (126 < (pk (b :: r)))) = true:=by
       rw [qL,yV]; simpa using hin
      refine .inr ⟨.inr (.inr (⟨(k:Int),280⟩:Problem)),?_,?_⟩
      ·rw [hin',if_pos rfl]
       simp only [Option.bind_some,bg,eh]
      ·rw [ey,if_neg hb,if_neg hc,if_neg hin]
 ·simp only at ht
  rw [hds] at ht
  unfold qC
  simp only [List.drop_succ_cons,List.drop_zero]
  cases hg:iP q with
  | none=>
   rw [hg] at ht
   subst ht
   exact aw.some rfl
  | some z=>
   rw [hg] at ht
   obtain ⟨i,hi,rfl⟩:=ht
   have hp:=pz q z hg
   have hql:q.length + (k + 1) = s.length:=by
    have:=congrArg List.length hds
    rw [List.length_drop] at this; omega
   have e0:(([]:List Int) ++ ofStr z.1) = ofStr z.1:=rfl
   have e1:(ofStr z.1).length = z.1.length:=by simp [ofStr]
   simp only [eh,cF]
   rw [e0,e1]
   by_cases h80:80 < z.1.length
   ·rw [if_pos h80,if_pos (decide_eq_true (by omega))]
    exact aw.some rfl
   ·rw [if_neg h80,if_neg (by simp; omega)]
    simp only [Option.bind_some]
    rw [xt,wk i (by omega)]
    refine aw.some ?_
    show _ = Sum.inl _
    rw [show i + 1 = k + (z.2 + 1) by omega]
theorem BG {l:List Str} {c:Str → Bool} {υ:Type} {Q:Unit ⊕ υ → Prop} {F:Nat} {A:Int → Option (Int ⊕ (Unit ⊕ υ))} (hF:l.length < F) (hL:l.length ≤ 100000000)
  (h1:l.find? c = none → Q (.inl ())) (h0:∀ (i:Int) x,aZ l i = some x → c x = false → A i = some (.inl (IntKind.i64.wrap (i + 1))))
  (h2:∀ (i:Int) x,aZ l i = some x → 0 ≤ i → c x = true → l.find? c = some x → aw (A i) fun o=>∃ t,o = .inr t ∧ Q t) :
  aw (iter F (fun i=>if decide (i < (l.length:Int)) = true then A i else some (.inr (.inl ()))) 0) Q:=by
 refine aw.ea1 (fun pre=>pre.find? c = none) hF (by omega) rfl (fun pre x post e hx hI=>?_) (fun h=>h1 h)
 by_cases hc:c x = true
 ·refine (h2 _ x hx (by omega) hc ?_).mono fun o ho=>.inr ho
  rw [e,List.find?_append,hI,List.find?_cons,hc]; rfl
 ·have hc':c x = false:=by simpa using hc
  rw [h0 _ x hx hc']
  refine aw.some (.inl ⟨rfl,?_⟩)
  rw [List.find?_append,hI,List.find?_cons,hc']; rfl
theorem sign_ok {F:Nat} {s:Str} {k:Nat} (hk:k ≤ s.length) (hF:100 < F) (hs:s.length ≤ 100000000):cQ F s (k:Int) = some (match n4 (s.drop k) with | .bad e=>.inr ⟨(k:Int),e⟩ | .pN kd t n=>.inl (⟨kd,(k:Int),t⟩,true,((k + n:Nat):Int))):=by
 unfold cQ fT
 have hl:dA.length = 25:=rfl
 have hs2:∀ g ∈ dA,g.length ≤ 2:=by decide
 refine aw.eq (aw.bind (P:=fun i:Int=>(dA.find? (fun g=>g.isPrefixOf (s.drop k)) = none ∧ i = -1) ∨ ∃ g,dA.find? (fun g=>g.isPrefixOf (s.drop k)) = some g ∧ 0 ≤ i ∧ aZ dA i = some g) (aw.bind (BG (c:=fun g=>g.isPrefixOf (s.drop k)) (Q:=fun t=>(dA.find? (fun g=>g.isPrefixOf (s.drop k)) = none ∧ t = .inl ()) ∨ ∃ g i,dA.find? (fun g=>g.isPrefixOf (s.drop k)) = some g ∧ 0 ≤ i ∧ aZ dA i = some g ∧ t = .inr i) (by omega) (by omega) (fun h=>.inl ⟨h,rfl⟩) (fun i x hx hc=>?_) (fun i x hx h0 hc hf=>?_)) (fun t ht=>?_)) (fun i hi=>?_))
 ·rw [hx,Option.bind_some]
  unfold dn fp oh
  rw [if_pos ⟨by omega,by omega⟩]
  simp only [Option.bind_some,Int.toNat_natCast,Lib.hasPrefix,hc,Bool.false_eq_true,if_false]
 ·rw [hx,Option.bind_some]
  unfold dn fp oh
  rw [if_pos ⟨by omega,by omega⟩]
  simp only [Option.bind_some,Int.toNat_natCast,Lib.hasPrefix,hc,if_true]
  exact aw.some ⟨_,rfl,.inr ⟨x,i,hf,h0,hx,rfl⟩⟩
 ·rcases ht with ⟨h,rfl⟩ | ⟨g,i,h,h0,hi,rfl⟩
  ·exact aw.some (.inl ⟨h,rfl⟩)
  ·exact aw.some (.inr ⟨g,h,h0,hi⟩)
 ·unfold n4
  rcases hi with ⟨h,rfl⟩ | ⟨g,h,h0,hi⟩
  ·rw [h,if_pos (by decide)]
   exact aw.some rfl
  ·rw [h,if_neg (by simp; omega)]
   simp only [Option.bind_some,eh,hi]
   have hg:=hs2 g (List.mem_of_find?_eq_some h)
   rw [show (k:Int) + (g.length:Int) = ((k + g.length:Nat):Int) by omega,wr (by omega) (by omega)]
   exact aw.some rfl
theorem xx {g r:Str}:g.isPrefixOf r = true ↔ g.length ≤ r.length ∧ r.take g.length = g:=by
  rw [List.isPrefixOf_iff_prefix]
  constructor
  · rintro ⟨t,rfl⟩
    exact ⟨by simp,by simp⟩
  · rintro ⟨h1,h2⟩
    exact ⟨r.drop g.length,by conv=>lhs; lhs; rw [← h2]
                              exact List.take_append_drop _ _⟩
inductive Lx:Nat → Str → List Token ⊕ Problem → Prop
 | done {k:Nat} {r:Str} (h:sk false r = []):Lx k r (.inl [])
 | bad {k j:Nat} {r q:Str} {b:UInt8} {e:Int} (h:sk false r = b :: q) (hj:k + r.length = j + (q.length + 1)) (ht:tok (b :: q) = .bad e):Lx k r (.inr ⟨(j:Int),e⟩)
 | err {k j:Nat} {r q:Str} {b:UInt8} {kd:Int} {t:Str} {m:Nat} {p:Problem} (h:sk false r = b :: q) (hj:k + r.length = j + (q.length + 1)) (ht:tok (b :: q) = .pN kd t m) (hl:Lx (j + m) ((b :: q).drop m) (.inr p)):Lx k r (.inr p)
 | one {k j:Nat} {r q:Str} {b:UInt8} {kd:Int} {t:Str} {m:Nat} {l:List Token} (h:sk false r = b :: q) (hj:k + r.length = j + (q.length + 1)) (ht:tok (b :: q) = .pN kd t m) (hl:Lx (j + m) ((b :: q).drop m) (.inl l)):Lx k r (.inl (⟨kd,(j:Int),t⟩ :: l))
theorem qU {r:Str} {kd:Int} {t:Str} {m:Nat} (h:n4 r = .pN kd t m):t ∈ dA ∧ m = t.length ∧ kd = 5 ∧ t.isPrefixOf r = true:=by
 unfold n4 at h
 cases hf:dA.find? (fun g=>g.isPrefixOf r) with
 | none=>rw [hf] at h; cases h
 | some g=>
  rw [hf] at h
  cases h
  exact ⟨List.mem_of_find?_eq_some hf,rfl,rfl,by simpa using List.find?_some hf⟩
theorem DG {b:UInt8} {q:Str} (h:eJ b = true):1 ≤ (ml (b :: q)).1:=by
 have h0:1 ≤ ((b :: q).takeWhile eJ).length:=by rw [List.takeWhile_cons_of_pos h]; simp
 unfold ml
 split
 ·split <;> simp only <;> omega
 ·exact h0
theorem oZ {b:UInt8} {q:Str} {kd:Int} {t:Str} {m:Nat} (h:tok (b :: q) = .pN kd t m):1 ≤ m ∧ m ≤ q.length + 1:=by
 unfold tok at h
 simp only at h
 split at h
 ·next hb=>
  unfold mo at h
  split at h
  ·cases h
  ·cases h
   have hn:uY b = true:=by unfold uY; rw [hb]; rfl
   have:=zO uY (b :: q)
   rw [List.takeWhile_cons_of_pos hn] at this ⊢
   simp only [List.length_cons] at *
   omega
 ·split at h
  ·next hb=>
   unfold rH at h
   split at h
   ·cases h
   ·split at h
    ·cases h
    ·cases h
     have h1:=DG (q:=q) hb
     have h2:=Al (b :: q)
     simp only [List.length_cons] at h2
     omega
  ·split at h
   ·unfold qC at h
    simp only [List.drop_succ_cons,List.drop_zero] at h
    cases hg:iP q with
    | none=>rw [hg] at h; cases h
    | some z=>
     rw [hg] at h
     simp only at h
     split at h
     ·cases h
     ·cases h
      have:=pz q z hg
      omega
   ·obtain ⟨h1,h2,h3,h4⟩:=qU h
    have hs:∀ g ∈ dA,1 ≤ g.length:=by decide
    have:=hs t h1
    have:=(xx.1 h4).1
    simp only [List.length_cons] at this
    omega
theorem Lx.total:∀ (n k:Nat) (r:Str),r.length ≤ n → ∃ res,Lx k r res:=by
 intro n
 induction n with
 | zero=>
  intro k r h
  have:r = []:=List.eq_nil_of_length_eq_zero (by omega)
  subst this
  exact ⟨_,.done rfl⟩
 | succ n ih=>
  intro k r h
  have hl:=mZ r false
  cases hs:sk false r with
  | nil=>exact ⟨_,.done hs⟩
  | cons b q=>
   rw [hs] at hl
   simp only [List.length_cons] at hl
   have hj:k + r.length = (k + r.length - (q.length + 1)) + (q.length + 1):=by omega
   cases ht:tok (b :: q) with
   | bad e=>exact ⟨_,.bad hs hj ht⟩
   | pN kd t m=>
    have hp:=oZ ht
    obtain ⟨res,hr⟩:=ih ((k + r.length - (q.length + 1)) + m) ((b :: q).drop m) (by rw [List.length_drop,List.length_cons]; omega)
    cases res with
    | inl l=>exact ⟨_,.one hs hj ht hr⟩
    | inr p=>exact ⟨_,.err hs hj ht hr⟩
theorem Lx.det {k:Nat} {r:Str} {a b:List Token ⊕ Problem} (h:Lx k r a):Lx k r b → a = b:=by
 induction h generalizing b with
 | done h=>
  intro h'
  cases h' with
  | done h2=>rfl
  | bad h2=>rw [h] at h2; cases h2
  | err h2=>rw [h] at h2; cases h2
  | one h2=>rw [h] at h2; cases h2
 | @bad k j r q b e h hj ht=>
  intro h'
  cases h' with
  | done h2=>rw [h] at h2; cases h2
  | @bad _ j2 _ q2 b2 e2 h2 hj2 ht2=>
   rw [h] at h2; cases h2
   rw [ht] at ht2; cases ht2
   rw [show j = j2 by omega]
  | err h2 hj2 ht2=>
   rw [h] at h2; cases h2
   rw [ht] at ht2; cases ht2
  | one h2 hj2 ht2=>
   rw [h] at h2; cases h2
   rw [ht] at ht2; cases ht2
 | @err k j r q b kd t m p h hj ht hl ih=>
  intro h'
  cases h' with
  | done h2=>rw [h] at h2; cases h2
  | bad h2 hj2 ht2=>
   rw [h] at h2; cases h2
   rw [ht] at ht2; cases ht2
  | @err _ j2 _ q2 b2 kd2 t2 m2 p2 h2 hj2 ht2 hl2=>
   rw [h] at h2; cases h2
   rw [ht] at ht2; cases ht2
   have e:j = j2:=by omega
   subst e
   exact ih hl2
  | @one _ j2 _ q2 b2 kd2 t2 m2 l2 h2 hj2 ht2 hl2=>
   rw [h] at h2; cases h2
   rw [ht] at ht2; cases ht2
   have e:j = j2:=by omega
   subst e
   cases ih hl2
 | @one k j r q b kd t m l h hj ht hl ih=>
  intro h'
  cases h' with
  | done h2=>rw [h] at h2; cases h2
  | bad h2 hj2 ht2=>
   rw [h] at h2; cases h2
   rw [ht] at ht2; cases ht2
  | @err _ j2 _ q2 b2 kd2 t2 m2 p2 h2 hj2 ht2 hl2=>
   rw [h] at h2; cases h2
   rw [ht] at ht2; cases ht2
   have e:j = j2:=by omega
   subst e
   cases ih hl2
  | @one _ j2 _ q2 b2 kd2 t2 m2 l2 h2 hj2 ht2 hl2=>
   rw [h] at h2; cases h2
   rw [ht] at ht2; cases ht2
   have e:j = j2:=by omega
   subst e
   have:=ih hl2
   injection this with this
   rw [this]
theorem BB {σ τ:Type} {s:Str} {body:σ → Option (σ ⊕ τ)} (st:List Token → Nat → σ) (fin:List Token → τ) (fail:Problem → τ)
  (h0:∀ out,body (st out s.length) = some (.inr (fin out)))
  (h1:∀ out k b q,s.drop k = b :: q → out.length ≤ k → aw (body (st out k)) fun o=>match tok (b :: q) with | .bad e=>o = .inr (fail ⟨(k:Int),e⟩) | .pN kd t m=>o = .inl (st (out ++ [⟨kd,(k:Int),t⟩]) (sp s (k + m))))
  {k:Nat} {r:Str} {res:List Token ⊕ Problem} (h:Lx k r res):∀ (out:List Token) (G:Nat),s.drop k = r → k ≤ s.length → out.length ≤ k → s.length - k < G →
  iter G body (st out (sp s k)) = some (match res with | .inl l=>fin (out ++ l) | .inr p=>fail p):=by
 induction h with
 | @done k r h=>
  intro out G hr hk ho hG
  obtain ⟨G,rfl⟩:∃ g,G = g + 1:=⟨G - 1,by omega⟩
  have:sp s k = s.length:=by unfold sp; rw [hr,h]; simp
  rw [this,eo,h0]
  simp [eh]
 | @bad k j r q b e h hj ht=>
  intro out G hr hk ho hG
  obtain ⟨G,rfl⟩:∃ g,G = g + 1:=⟨G - 1,by omega⟩
  have hl:r.length = s.length - k:=by rw [← hr,List.length_drop]
  have e1:sp s k = j:=by unfold sp; rw [hr,h]; simp only [List.length_cons]; omega
  have e2:=wu hk
  rw [e1,hr,h] at e2
  have hjk:=B6 hk
  rw [e1] at hjk
  obtain ⟨o,ho2,hq⟩:=h1 out j b q e2 (by omega)
  rw [ht] at hq
  rw [e1,eo,ho2,hq]
  rfl
 | @err k j r q b kd t m p h hj ht hl ih=>
  intro out G hr hk ho hG
  obtain ⟨G,rfl⟩:∃ g,G = g + 1:=⟨G - 1,by omega⟩
  have hl:r.length = s.length - k:=by rw [← hr,List.length_drop]
  have e1:sp s k = j:=by unfold sp; rw [hr,h]; simp only [List.length_cons]; omega
  have e2:=wu hk
  rw [e1,hr,h] at e2
  have hjk:=B6 hk
  rw [e1] at hjk
  obtain ⟨o,ho2,hq⟩:=h1 out j b q e2 (by omega)
  rw [ht] at hq
  have hp:=oZ ht
  rw [e1,eo,ho2,hq]
  exact ih _ _ (by rw [← List.drop_drop,e2]) (by omega) (by simp; omega) (by omega)
 | @one k j r q b kd t m l h hj ht hl ih=>
  intro out G hr hk ho hG
  obtain ⟨G,rfl⟩:∃ g,G = g + 1:=⟨G - 1,by omega⟩
  have hl:r.length = s.length - k:=by rw [← hr,List.length_drop]
  have e1:sp s k = j:=by unfold sp; rw [hr,h]; simp only [List.length_cons]; omega
  have e2:=wu hk
  rw [e1,hr,h] at e2
  have hjk:=B6 hk
  rw [e1] at hjk
  obtain ⟨o,ho2,hq⟩:=h1 out j b q e2 (by omega)
  rw [ht] at hq
  have hp:=oZ ht
  rw [e1,eo,ho2,hq]
  have:=ih (out ++ [⟨kd,(j:Int),t⟩]) G (by rw [← List.drop_drop,e2]) (by omega) (by simp; omega) (by omega)
  simp only [eh,Option.bind_some]
  rw [this]
  simp
theorem jJ {σ τ:Type} {body:σ → Option (σ ⊕ τ)} {F:Nat} {s:σ} (h:0 < F):iter F body s = (body s).bind (eh (iter (F - 1) body) some):=by
 obtain ⟨G,rfl⟩:∃ g,F = g + 1:=⟨F - 1,by omega⟩
 rfl
def outP:List Token ⊕ Problem → List Token × Problem
 | .inl l=>(l,⟨0,0⟩)
 | .inr p=>([],p)
theorem Ba {F:Nat} {s:Str} {res:List Token ⊕ Problem} (hs:s.length ≤ 100000) (hF:s.length + 1000 < F) (h:Lx 0 s res):cf F s = some (outP res):=by
 unfold cf
 rw [if_neg (by simp; omega)]
 have hsk:=Ad (F:=F) (s:=s) (k:=0) (by omega) (by omega) (by omega)
 rw [show (((0:Nat):Int)) = 0 from rfl] at hsk
 rw [hsk]
 simp only [Option.bind_some,cF]
 rw [BB (s:=s) (fun out k=>(out,(⟨s,(k:Int)⟩:Scan))) (fun l=>.inl l) (fun p=>.inr ([],p)) ?_ ?_ h [] F rfl (by omega) (by simp) (by omega)]
 ·cases res <;> rfl
 ·intro out
  simp only [cF]
  rw [if_neg (by simp)]
 ·intro out k b q hd ho
  have hk:=dW hd
  simp only [cF]
  rw [if_pos (decide_eq_true (by omega))]
  refine aw.bind (P:=fun o=>match tok (b :: q) with | .bad e=>o = .inr ([],⟨(k:Int),e⟩) | .pN kd t m=>o = .inl (out ++ [⟨kd,(k:Int),t⟩],⟨s,((k + m:Nat):Int)⟩)) (aw.bind (P:=fun o=>match tok (b :: q) with | .bad e=>o = .inr ([],⟨(k:Int),e⟩) | .pN kd t m=>o = .inl (out ++ [⟨kd,(k:Int),t⟩],⟨s,((k + m:Nat):Int)⟩)) ?_ ?_) ?_
  ·have happ:∀ x:Token,iZ out [x] = some (out ++ [x]):=fun x=>jZ (by simp only [List.length_cons,List.length_nil]; omega)
   rw [jJ (by omega)]
   try simp only [cF]
   rw [if_pos (by simp),if_pos (by simp)]
   by_cases hl:yF b = true
   ·have e:tok (b :: q) = mo (b :: q):=by simp only [tok,if_pos hl]
    rw [e,name_ok hd hl (by omega) (by omega) (by omega),hd,Option.bind_some]
    cases mo (b :: q) with
    | bad e=>exact aw.some rfl
    | pN kd t m=>
     simp only [Tk.res,sZ,BT,if_true,happ,Option.bind_some]
     exact aw.some rfl
   ·have hl':yF b = false:=by simpa using hl
    rw [name_no hd hl']
    simp only [Option.bind_some,sZ,BT,Bool.false_eq_true,if_false,eh]
    rw [show IntKind.i64.wrap (0 + 1) = 1 from rfl,jJ (by omega)]
    try simp only [cF]
    rw [if_pos (by simp),if_neg (by simp),if_pos (by simp)]
    by_cases hg:eJ b = true
    ·have e:tok (b :: q) = rH (b :: q):=by simp only [tok,if_neg hl,if_pos hg]
     rw [e,Bw hd hg (by omega) (by omega),hd,Option.bind_some]
     cases rH (b :: q) with
     | bad e=>exact aw.some rfl
     | pN kd t m=>
      simp only [Tk.res,sZ,BT,if_true,happ,Option.bind_some]
      exact aw.some rfl
    ·have hg':eJ b = false:=by simpa using hg
     rw [Bx hd hg' (by omega) (by omega)]
     simp only [Option.bind_some,sZ,BT,Bool.false_eq_true,if_false,eh]
     rw [show IntKind.i64.wrap (1 + 1) = 2 from rfl,jJ (by omega)]
     try simp only [cF]
     rw [if_pos (by simp),if_neg (by simp),if_neg (by simp),if_pos (by simp)]
     by_cases hb:b = 34
     ·subst hb
      have e:tok (34 :: q) = qC (34 :: q):=by simp only [tok,if_neg hl,if_neg hg,if_true]
      rw [e,text_ok hd (by omega) (by omega),hd,Option.bind_some]
      cases qC (34 :: q) with
      | bad e=>exact aw.some rfl
      | pN kd t m=>
       simp only [Tk.res,sZ,BT,if_true,happ,Option.bind_some]
       exact aw.some rfl
     ·rw [text_no hd hb]
      simp only [Option.bind_some,sZ,BT,Bool.false_eq_true,if_false,eh]
      rw [show IntKind.i64.wrap (2 + 1) = 3 from rfl,jJ (by omega)]
      try simp only [cF]
      rw [if_pos (by simp),if_neg (by simp),if_neg (by simp),if_neg (by simp),if_pos (by simp)]
      have e:tok (b :: q) = n4 (b :: q):=by simp only [tok,if_neg hl,if_neg hg,if_neg hb]
      rw [e,sign_ok (by omega) (by omega) (by omega),hd,Option.bind_some]
      cases n4 (b :: q) with
      | bad e=>exact aw.some rfl
      | pN kd t m=>
       simp only [sZ,kr,if_true,happ,Option.bind_some]
       exact aw.some rfl
  ·intro o ho2
   cases ht:tok (b :: q) with
   | bad e=>rw [ht] at ho2; subst ho2; exact aw.some rfl
   | pN kd t m=>rw [ht] at ho2; subst ho2; exact aw.some rfl
  ·intro o ho2
   cases ht:tok (b :: q) with
   | bad e=>rw [ht] at ho2; subst ho2; exact aw.some rfl
   | pN kd t m=>
    rw [ht] at ho2
    subst ho2
    have hp:=oZ ht
    have hlen:q.length + 1 = s.length - k:=by
     have:=congrArg List.length hd
     rw [List.length_drop,List.length_cons] at this; omega
    simp only [eh,cF]
    rw [Ad (by omega) (by omega) (by omega),Option.bind_some]
    exact aw.some rfl
def yx (b:UInt8):Bool:=decide (b = 34) || decide (b = 92)
def l7 (b:UInt8):Str:=if yx b then [92,b] else [b]
def oT (s:Str):Str:=s.flatMap l7
def qs (s:Str):Nat:=s.countP yx
theorem AB:oT [] = []:=rfl
theorem kj (b:UInt8) (s:Str):oT (b :: s) = l7 b ++ oT s:=rfl
theorem esc_app (a b:Str):oT (a ++ b) = oT a ++ oT b:=List.flatMap_append
theorem tn (s:Str):(oT s).length = s.length + qs s:=by
 induction s with
 | nil=>rfl
 | cons b s ih=>
  rw [kj,List.length_append,ih]
  unfold qs l7
  by_cases h:yx b = true
  ·rw [if_pos h,List.countP_cons_of_pos h]; simp; omega
  ·rw [if_neg h,List.countP_cons_of_neg h]; simp; omega
theorem zP (s:Str):qs s ≤ s.length:=List.countP_le_length
theorem D0 {s:Str} (h:qs s = 0):oT s = s:=by
 induction s with
 | nil=>rfl
 | cons b s ih=>
  unfold qs at h ih
  by_cases hb:yx b = true
  ·rw [List.countP_cons_of_pos hb] at h; omega
  ·rw [List.countP_cons_of_neg hb] at h
   rw [kj,ih h]
   unfold l7
   rw [if_neg hb]; rfl
theorem qs_two (s:Str):qs s = s.count 34 + s.count 92:=by
 induction s with
 | nil=>rfl
 | cons b s ih=>
  unfold qs at ih ⊢
  by_cases h1:b = 34
  ·subst h1
   rw [List.countP_cons_of_pos (by decide),ih,List.count_cons_self,List.count_cons_of_ne (by decide)]; omega
  ·by_cases h2:b = 92
   ·subst h2
    rw [List.countP_cons_of_pos (by decide),ih,List.count_cons_self,List.count_cons_of_ne (by decide)]; omega
   ·rw [List.countP_cons_of_neg (by simp [yx,h1,h2]),ih,List.count_cons_of_ne (by simpa using fun h=>h1 h),List.count_cons_of_ne (by simpa using fun h=>h2 h)]
theorem AD (b:UInt8):cA ((b.toNat:Int):Int).toNat = if yx b then ofStr (l7 b) else []:=by
 have h:∀ b:UInt8,decide (cA ((b.toNat:Int):Int).toNat = if yx b then ofStr (l7 b) else []) = true:=hO (by decide +kernel)
 exact of_decide_eq_true (h b)
theorem mQ (s:Str):(ofStr s).length = s.length:=by simp [ofStr]
theorem Bu (a b:Str):ofStr (a ++ b) = ofStr a ++ ofStr b:=List.map_append
theorem vv {s:Str} {k:Nat} {b:UInt8} {r:Str} (h:s.drop k = b :: r):s.take (k + 1) = s.take k ++ [b]:=by
 have hk:=dW h
 rw [List.take_succ_eq_append_getElem hk]
 have:=List.drop_eq_getElem_cons hk
 rw [h] at this
 injection this with h1 h2
 rw [h1]
theorem Ae {s:Str} {k:Nat} {b:UInt8} {r:Str} (h:s.drop k = b :: r):qs (s.take (k + 1)) = qs (s.take k) + if yx b then 1 else 0:=by
 rw [vv h]
 unfold qs
 rw [List.countP_append]
 by_cases hb:yx b = true
 ·rw [List.countP_cons_of_pos hb,if_pos hb]; rfl
 ·rw [List.countP_cons_of_neg hb,if_neg hb]; rfl
theorem Dx (s:Str) (k:Nat):qs s = qs (s.take k) + qs (s.drop k):=by
 conv=>lhs; rw [← List.take_append_drop k s]
 exact List.countP_append
theorem zl {A ys:List Int} {n:Nat} (h:ys.length ≤ n):aS (A ++ List.replicate n 0) A.length ys = (A ++ ys) ++ List.replicate (n - ys.length) 0:=by
 unfold aS
 rw [List.take_left,← List.drop_drop,List.drop_left,List.drop_replicate]
theorem set_rep {A:List Int} {x:Int} {n:Nat} (h:1 ≤ n):(A ++ List.replicate n 0).set A.length x = (A ++ [x]) ++ List.replicate (n - 1) 0:=by
 obtain ⟨m,rfl⟩:∃ m,n = m + 1:=⟨n - 1,by omega⟩
 rw [List.replicate_succ,List.set_append_right _ _ (Nat.le_refl _),Nat.sub_self]
 simp
theorem bsr_ok {F:Nat} {s:Str} (hF:s.length + 10 < F) (hs:s.length ≤ 100000000):fl F s = some (oT s):=by
 unfold fl
 have hq:=zP s
 have h1:aw (cu (IntKind.i64.wrap (([[34],[92]].length:Int) * 8)) fun x_3=>if (decide (x_3 ≤ (s.length:Int))) = true then (iter F (kr fun newSize_4 anyChanges_5 x_6=>if (decide (x_6 < ([[34],[92]].length:Int))) = true then (Option.bind (Option.bind (aZ [[34],[92]] x_6) (fun x_11=>Option.bind (eQ F s x_11) (fun x_12=>if (decide (x_12 ≠ 0)) = true then (Option.bind (aZ x_11 0) (fun x_13=>some (IntKind.i64.wrap (newSize_4 + (IntKind.i64.wrap (x_12 * (IntKind.i64.wrap (((cA ((x_13.toNat:Int):Int).toNat).length:Int) - 1))))),true))) else (some (newSize_4,anyChanges_5))))) (cF fun newSize_9 anyChanges_10=>some (.inl (newSize_9,anyChanges_10,IntKind.i64.wrap (x_6 + 1))))) else (some (.inr (newSize_4,anyChanges_5)))) ((s.length:Int),false,0)) else (iter F (kr fun newSize_14 anyChanges_15 i_16=>if (decide (i_16 < (s.length:Int))) = true then (Option.bind (Option.bind (aZ s i_16) (fun x_21=>if (decide (cA ((x_21.toNat:Int):Int).toNat ≠ [])) = true then (cu ((cA ((x_21.toNat:Int):Int).toNat).length:Int) fun x_22=>cu (IntKind.i64.wrap (newSize_14 + (IntKind.i64.wrap (x_22 - 1)))) fun x_23=>some (x_23,true)) else (some (newSize_14,anyChanges_15)))) (cF fun newSize_19 anyChanges_20=>some (.inl (newSize_19,anyChanges_20,IntKind.i64.wrap (i_16 + 1))))) else (some (.inr (newSize_14,anyChanges_15)))) ((s.length:Int),false,0))) (fun o:Int × Bool=>o = (((s.length + qs s:Nat):Int),decide (0 < qs s))):=by
  refine aw.ln (aw.ite (fun _=>?_) (fun _=>?_))
  ·have hc1:eQ F s [34] = some ((s.count 34:Nat):Int):=rfl
   have hc2:eQ F s [92] = some ((s.count 92:Nat):Int):=rfl
   have l1:s.count 34 ≤ s.length:=List.count_le_length
   have l2:s.count 92 ≤ s.length:=List.count_le_length
   rw [qs_two]
   rw [jJ (by omega)]
   simp only [kr]
   rw [if_pos (by simp),show aZ [([34]:Str),[92]] 0 = some [34] from rfl,Option.bind_some,hc1,Option.bind_some]
   have e1:(if decide (((s.count 34:Nat):Int) ≠ 0) = true then Option.bind (aZ ([34]:Str) 0) (fun x_13=>some (IntKind.i64.wrap ((s.length:Int) + (IntKind.i64.wrap (((s.count 34:Nat):Int) * (IntKind.i64.wrap (((cA ((x_13.toNat:Int):Int).toNat).length:Int) - 1))))),true)) else some ((s.length:Int),false)) = some (((s.length + s.count 34:Nat):Int),decide (0 < s.count 34)):=by
    by_cases h0:s.count 34 = 0
    ·rw [if_neg (by simp [h0]),h0]; rfl
    ·rw [if_pos (decide_eq_true (by omega)),show aZ ([34]:Str) 0 = some 34 from rfl,Option.bind_some]
     have e2:IntKind.i64.wrap (((cA (((34:UInt8).toNat:Int):Int).toNat).length:Int) - 1) = 1:=by decide
     rw [e2,Int.mul_one,wr (z:=((s.count 34:Nat):Int)) (by omega) (by omega),wr (by omega) (by omega),decide_eq_true (show 0 < s.count 34 by omega)]
     rfl
   rw [e1]
   simp only [Option.bind_some,cF,eh]
   rw [show IntKind.i64.wrap (0 + 1) = 1 from rfl,jJ (by omega)]
   simp only [kr]
   rw [if_pos (by simp),show aZ [([34]:Str),[92]] 1 = some [92] from rfl,Option.bind_some,hc2,Option.bind_some]
   have e3:(if decide (((s.count 92:Nat):Int) ≠ 0) = true then Option.bind (aZ ([92]:Str) 0) (fun x_13=>some (IntKind.i64.wrap (((s.length + s.count 34:Nat):Int) + (IntKind.i64.wrap (((s.count 92:Nat):Int) * (IntKind.i64.wrap (((cA ((x_13.toNat:Int):Int).toNat).length:Int) - 1))))),true)) else some (((s.length + s.count 34:Nat):Int),decide (0 < s.count 34))) = some (((s.length + (s.count 34 + s.count 92):Nat):Int),decide (0 < s.count 34 + s.count 92)):=by
    by_cases h0:s.count 92 = 0
    ·rw [if_neg (by simp [h0]),h0]; rfl
    ·rw [if_pos (decide_eq_true (by omega)),show aZ ([92]:Str) 0 = some 92 from rfl,Option.bind_some]
     have e2:IntKind.i64.wrap (((cA (((92:UInt8).toNat:Int):Int).toNat).length:Int) - 1) = 1:=by decide
     rw [e2,Int.mul_one,wr (z:=((s.count 92:Nat):Int)) (by omega) (by omega),wr (by omega) (by omega),decide_eq_true (show 0 < s.count 34 + s.count 92 by omega)]
     congr 2; omega
   rw [e3]
   simp only [Option.bind_some,cF,eh]
   rw [show IntKind.i64.wrap (1 + 1) = 2 from rfl,jJ (by omega)]
   simp only [kr]
   rw [if_neg (by simp)]
   exact aw.some rfl
  ·refine (ld (fun k:Nat=>(((s.length + qs (s.take k):Nat):Int),decide (0 < qs (s.take k)),(k:Int))) (fun k=>s.length - k) (fun k=>k ≤ s.length) (fun k t=>t = (((s.length + qs s:Nat):Int),decide (0 < qs s))) ?_ F 0 (by omega) (by omega))
   intro k hk
   simp only [kr]
   have hqk:qs (s.take k) ≤ s.length:=Nat.le_trans (zP _) (by rw [List.length_take]; omega)
   cases hd:s.drop k with
   | nil=>
    have hend:=drop_nil hd hk
    rw [if_neg (by simp; omega)]
    refine .inr ⟨_,rfl,?_⟩
    rw [hend,List.take_length]
   | cons b r=>
    have hlt:=dW hd
    refine .inl ⟨k + 1,?_,by omega,by omega,fun t ht=>ht⟩
    rw [if_pos (decide_eq_true (by omega)),kh hd,Option.bind_some,AD,Ae hd]
    by_cases hb:yx b = true
    ·have e1:l7 b = [92,b]:=by unfold l7; rw [if_pos hb]
     rw [if_pos hb,if_pos hb,e1,if_pos (decide_eq_true (by simp [ofStr]))]
     simp only [cu,Option.bind_some,cF]
     rw [wk k (by omega)]
     have e2:IntKind.i64.wrap (((ofStr [92,b]).length:Int) - 1) = 1:=rfl
     rw [e2,show ((s.length + qs (s.take k):Nat):Int) + 1 = ((s.length + (qs (s.take k) + 1):Nat):Int) by omega,wr (by omega) (by omega)]
     rw [decide_eq_true (show 0 < qs (s.take k) + 1 by omega)]
    ·rw [if_neg hb,if_neg hb,if_neg (by simp)]
     simp only [Option.bind_some,cF,Nat.add_zero]
     rw [wk k (by omega)]
 refine aw.eq (aw.bind h1 fun o ho=>?_)
 subst ho
 simp only [cF]
 by_cases h0:qs s = 0
 ·rw [if_pos (by simp [h0]),D0 h0]
  exact aw.some rfl
 ·rw [if_neg (by simp; omega)]
  have hmk:mk? (0:Int) ((s.length + qs s:Nat):Int) ((s.length + qs s:Nat):Int) = some (List.replicate (s.length + qs s) 0):=by
   unfold mk?
   rw [if_pos ⟨by omega,by omega,by omega⟩,Int.toNat_natCast]
  rw [hmk,Option.bind_some]
  refine aw.bind (P:=fun b=>b = ofStr (oT s)) (ld (fun k:Nat=>(ofStr (oT (s.take k)) ++ List.replicate (s.length + qs s - (oT (s.take k)).length) 0,(((oT (s.take k)).length:Nat):Int),(k:Int))) (fun k=>s.length - k) (fun k=>k ≤ s.length) (fun k t=>t = ofStr (oT s)) ?_ F 0 (by omega) (by omega)) ?_
  ·intro k hk
   simp only [kr]
   have hl:(oT (s.take k)).length = k + qs (s.take k):=by rw [tn,List.length_take]; congr 1; omega
   cases hd:s.drop k with
   | nil=>
    have hend:=drop_nil hd hk
    rw [if_neg (by simp; omega)]
    refine .inr ⟨_,rfl,?_⟩
    rw [hend,List.take_length,tn]
    simp
   | cons b r=>
    have hlt:=dW hd
    have hsp:=Dx s (k + 1)
    have hsn:=Ae hd
    refine .inl ⟨k + 1,?_,by omega,by omega,fun t ht=>ht⟩
    rw [if_pos (decide_eq_true (by omega)),kh hd,Option.bind_some,AD,vv hd,esc_app,Bu,wk k (by omega)]
    have e9:oT [b] = l7 b:=by rw [kj,AB,List.append_nil]
    rw [e9,List.length_append]
    by_cases hb:yx b = true
    ·have e1:l7 b = [92,b]:=by unfold l7; rw [if_pos hb]
     rw [if_pos hb] at hsn
     rw [if_pos hb,e1,if_pos (decide_eq_true (by simp [ofStr]))]
     have hc:u6 (ofStr (oT (s.take k)) ++ List.replicate (s.length + qs s - (oT (s.take k)).length) 0) (ofStr [92,b]) (((oT (s.take k)).length:Nat):Int) = some ((ofStr (oT (s.take k)) ++ ofStr [92,b]) ++ List.replicate (s.length + qs s - (oT (s.take k)).length - 2) 0):=by
      unfold u6
      rw [if_pos]
      ·congr 1
       have:=zl (A:=ofStr (oT (s.take k))) (ys:=ofStr [92,b]) (n:=s.length + qs s - (oT (s.take k)).length) (by show 2 ≤ _; omega)
       rw [mQ] at this
       rw [Int.toNat_natCast]
       exact this
      ·refine ⟨by omega,by simp [ofStr],?_,?_⟩
       ·show _ + 2 ≤ _
        simp only [Int.toNat_natCast,List.length_append,mQ,List.length_replicate]; omega
       ·simp only [List.length_append,mQ,List.length_replicate]; omega
     rw [hc]
     simp only [Option.bind_some,cF]
     have e2:((ofStr [92,b]).length:Int) = 2:=rfl
     rw [e2,wr (by omega) (by omega)]
     have e3:([92,b]:Str).length = 2:=rfl
     rw [e3,Nat.sub_sub]
     rfl
    ·have e1:l7 b = [b]:=by unfold l7; rw [if_neg hb]
     rw [if_neg hb] at hsn
     rw [if_neg hb,e1,if_neg (by simp)]
     have hi:∃ x,aZ (ofStr (oT (s.take k)) ++ List.replicate (s.length + qs s - (oT (s.take k)).length) 0) (((oT (s.take k)).length:Nat):Int) = some x:=by
      refine ⟨_,qP (by omega) ?_⟩
      simp only [List.length_append,mQ,List.length_replicate]; omega
     obtain ⟨x,hx⟩:=hi
     rw [hx]
     simp only [Option.bind_some,cF,Int.toNat_natCast]
     have:=set_rep (A:=ofStr (oT (s.take k))) (x:=(b.toNat:Int)) (n:=s.length + qs s - (oT (s.take k)).length) (by omega)
     rw [mQ] at this
     rw [this,wr (by omega) (by omega)]
     have e3:([b]:Str).length = 1:=rfl
     rw [e3,Nat.sub_sub]
     rfl
  ·rintro b rfl
   rw [xt]
   exact aw.some rfl
def uW (k:Int) (t:Str):Str:=if k = 4 then 34 :: (oT t ++ [34]) else t
theorem wrt_len (k:Int) (t:Str):(uW k t).length ≤ 2 * t.length + 2:=by
 unfold uW
 have:=tn t
 have:=zP t
 split
 ·simp; omega
 ·omega
theorem zg {F:Nat} {t:Token} (hF:t.S.length + 10 < F) (hs:t.S.length ≤ 100000000):eR F t = some (uW t.Kind t.S):=by
 unfold eR uW
 by_cases h4:t.Kind = 4
 ·rw [if_neg (by simp [h4]),if_pos h4]
  have e1:j6 F = some ():=rfl
  have e2:eD F t.S 0 = fl F t.S:=by
   unfold eD
   rw [show pH F 0 = some () from rfl]
   cases fl F t.S <;> rfl
  have:=tn t.S
  have:=zP t.S
  rw [e1,Option.bind_some,e2,bsr_ok hF hs,Option.bind_some]
  rw [jZ (by simp; omega),Option.bind_some,jZ (by simp; omega)]
  rfl
 ·rw [if_pos (by simpa using h4),if_neg h4]
def BZ (c:UInt8):Bool:=AN c || decide (c = 35)
def Sep (r:Str):Prop:=∀ c q,r = c :: q → BZ c = true
theorem sep_nil:Sep []:=fun c q h=>by cases h
theorem tO (c:UInt8) (h:BZ c = true):uY c = false ∧ eJ c = false ∧ yF c = false ∧ c ≠ 46 ∧ c ≠ 95 ∧ c ≠ 34:=by
 have h2:∀ c:UInt8,decide (BZ c = true → uY c = false ∧ eJ c = false ∧ yF c = false ∧ c ≠ 46 ∧ c ≠ 95 ∧ c ≠ 34) = true:=hO (by decide +kernel)
 exact of_decide_eq_true (h2 c) h
theorem tI {p:UInt8 → Bool}:∀ {t rest:Str},(∀ x ∈ t,p x = true) → (∀ c q,rest = c :: q → p c = false) → (t ++ rest).takeWhile p = t ∧ (t ++ rest).dropWhile p = rest
 | [],rest,_,h=>by
  cases rest with
  | nil=>exact ⟨rfl,rfl⟩
  | cons c q=>
   have:=h c q rfl
   exact ⟨List.takeWhile_cons_of_neg (by simp [this]),List.dropWhile_cons_of_neg (by simp [this])⟩
 | b :: t,rest,ht,h=>by
  have hb:=ht b (by simp)
  obtain ⟨h1,h2⟩:=tI (t:=t) (rest:=rest) (fun x hx=>ht x (by simp [hx])) h
  rw [List.cons_append,List.takeWhile_cons_of_pos hb,List.dropWhile_cons_of_pos hb,h1,h2]
  exact ⟨rfl,rfl⟩
theorem yP {p:UInt8 → Bool} (r:Str):∀ x ∈ r.takeWhile p,p x = true:=by
 intro x hx
 exact List.all_eq_true.1 (List.all_takeWhile (p:=p) (l:=r)) x hx
theorem tw_dw (p:UInt8 → Bool) (r:Str):r.takeWhile p ++ r.dropWhile p = r:=List.takeWhile_append_dropWhile
theorem Bz {t rest:Str} (ht:∀ x ∈ t,uY x = true) (h:∀ c q,rest = c :: q → uY c = false):mo (t ++ rest) = if 32 < t.length then .bad 2 else .pN (if isW t then 1 else 2) t t.length:=by
 unfold mo
 rw [(tI ht h).1]
def vd (A:Str):Bool:=decide (1 < A.length) && decide (pk A = 48)
theorem Cr {A r:Str} (h:A ≠ []):pk (A ++ r) = pk A:=by
 cases A with
 | nil=>exact absurd rfl h
 | cons a A=>rfl
theorem tk {A D:Str} (hA:∀ x ∈ A,eJ x = true) (h0:A ≠ []) (hD:∀ c q,D = c :: q → eJ c = false) (hd:∀ d q,D = 46 :: d :: q → eJ d = false) :
  rH (A ++ D) = if 40 < A.length then .bad 2 else if vd A || lu D then .bad 281 else .pN 3 A A.length:=by
 obtain ⟨h1,h2⟩:=tI hA hD
 have hn:ml (A ++ D) = (A.length,A.length):=by
  rw [Ak (by rw [h2]; exact hd),h1]
 unfold rH xi vd
 rw [hn,h1,Cr h0]
 simp only [List.drop_left,List.take_left]
theorem tj {A B D:Str} (hA:∀ x ∈ A,eJ x = true) (h0:A ≠ []) (hB:∀ x ∈ B,eJ x = true) (h1:B ≠ []) (hD:∀ c q,D = c :: q → eJ c = false) :
  rH (A ++ 46 :: (B ++ D)) = if 40 < A.length + B.length then .bad 2 else if vd A || lu D then .bad 281 else .pN 3 (A ++ 46 :: B) (A.length + 1 + B.length):=by
 obtain ⟨e1,e2⟩:=tI (p:=eJ) (rest:=46 :: (B ++ D)) hA (by intro c q h; injection h with h _; rw [← h]; rfl)
 obtain ⟨e3,e4⟩:=tI hB hD
 have hn:ml (A ++ 46 :: (B ++ D)) = (A.length + 1 + B.length,A.length + B.length):=by
  cases B with
  | nil=>exact absurd rfl h1
  | cons d B'=>
   rw [xy (d:=d) (q:=B' ++ D) (by rw [e2]; rfl) (hB d (by simp)),e1]
   rw [show d :: (B' ++ D) = (d :: B') ++ D from rfl,e3]
 unfold rH xi vd
 rw [hn,e1,Cr h0]
 have el:A ++ 46 :: (B ++ D) = (A ++ 46 :: B) ++ D:=by simp
 have en:A.length + 1 + B.length = (A ++ 46 :: B).length:=by simp; omega
 simp only
 rw [el,en,List.drop_left,List.take_left]
theorem vE {b:UInt8} {q:Str} (hb:eJ b = true):(∃ A D,b :: q = A ++ D ∧ (∀ x ∈ A,eJ x = true) ∧ A ≠ [] ∧ (∀ c q,D = c :: q → eJ c = false) ∧ ∀ d q,D = 46 :: d :: q → eJ d = false) ∨
  ∃ A B D,b :: q = A ++ 46 :: (B ++ D) ∧ (∀ x ∈ A,eJ x = true) ∧ A ≠ [] ∧ (∀ x ∈ B,eJ x = true) ∧ B ≠ [] ∧ ∀ c q,D = c :: q → eJ c = false:=by
 have h1:=tw_dw eJ (b :: q)
 have h2:=yP (p:=eJ) (b :: q)
 have h3:(b :: q).takeWhile eJ ≠ []:=by rw [List.takeWhile_cons_of_pos hb]; simp
 have h4:=@qQ eJ (b :: q)
 by_cases hdot:∃ d q1,(b :: q).dropWhile eJ = 46 :: d :: q1 ∧ eJ d = true
 ·obtain ⟨d,q1,hd,hg⟩:=hdot
  refine .inr ⟨(b :: q).takeWhile eJ,(d :: q1).takeWhile eJ,(d :: q1).dropWhile eJ,?_,h2,h3,yP _,?_,fun c q h=>qQ h⟩
  ·rw [tw_dw,← hd,h1]
  ·rw [List.takeWhile_cons_of_pos hg]; simp
 ·refine .inl ⟨_,_,h1.symm,h2,h3,fun c q h=>h4 h,fun d q1 h=>?_⟩
  cases hg:eJ d with
  | false=>rfl
  | true=>exact absurd ⟨d,q1,h,hg⟩ hdot
theorem Cw {r:Str} (h:Sep r):lu r = false:=by
 cases r with
 | nil=>rfl
 | cons c q=>
  have:=tO c (h c q rfl)
  unfold lu
  rw [pk_95]
  simp [hL,this]
theorem vN {r:Str} (h:Sep r):∀ c q,r = c :: q → eJ c = false:=fun c q e=>(tO c (h c q e)).2.1
theorem dot_sep {r:Str} (h:Sep r):∀ d q,r = 46 :: d :: q → eJ d = false:=fun d q e=>absurd rfl (tO 46 (h 46 _ e)).2.2.2.1
theorem DJ {r:Str} (h:Sep r):∀ c q,r = c :: q → uY c = false:=fun c q e=>(tO c (h c q e)).1
theorem Be {S:Str} (h:∀ x ∈ S,inT x = true) (r:Str):iP (oT S ++ 34 :: r) = some (S,(oT S).length + 1):=by
 induction S with
 | nil=>rw [AB,List.nil_append,ey,if_pos rfl]; rfl
 | cons b S ih=>
  have hb:=h b (by simp)
  have ih:=ih fun x hx=>h x (by simp [hx])
  rw [kj,List.append_assoc]
  by_cases hq:yx b = true
  ·have e1:l7 b = [92,b]:=by unfold l7; rw [if_pos hq]
   have hq':b = 34 ∨ b = 92:=by simpa [yx] using hq
   rw [e1,List.cons_append,ey,if_neg (by decide),if_pos rfl]
   simp only [List.cons_append,List.nil_append,if_pos hq',ih,Option.map_some,List.length_cons,List.length_append]
  ·have e1:l7 b = [b]:=by unfold l7; rw [if_neg hq]
   have hq':b ≠ 34 ∧ b ≠ 92:=by simpa [yx] using hq
   rw [e1,List.cons_append,ey,if_neg hq'.1,if_neg hq'.2,if_pos hb]
   simp only [List.nil_append,ih,Option.map_some,List.length_cons,List.cons_append]
theorem r5:∀ (r:Str) (z:Str × Nat),iP r = some z → (∀ x ∈ z.1,inT x = true) ∧ r.take z.2 = oT z.1 ++ [34] ∧ z.2 = (oT z.1).length + 1
 | [],z,h=>by cases h
 | b :: r,z,h=>by
  rw [ey] at h
  by_cases hb:b = 34
  ·rw [if_pos hb] at h
   cases h
   subst hb
   exact ⟨by simp,rfl,rfl⟩
  ·rw [if_neg hb] at h
   by_cases hc:b = 92
   ·rw [if_pos hc] at h
    subst hc
    cases r with
    | nil=>cases h
    | cons c q=>
     simp only at h
     by_cases hcc:c = 34 ∨ c = 92
     ·rw [if_pos hcc] at h
      obtain ⟨y,hy,rfl⟩:=Option.map_eq_some_iff.1 h
      obtain ⟨h1,h2,h3⟩:=r5 q y hy
      have e1:l7 c = [92,c]:=by unfold l7; rw [if_pos (by simpa [yx] using hcc)]
      have hin:inT c = true:=by rcases hcc with rfl | rfl <;> rfl
      refine ⟨?_,?_,?_⟩
      ·intro x hx
       rcases List.mem_cons.1 hx with rfl | hx
       ·exact hin
       ·exact h1 x hx
      ·simp only [List.take_succ_cons,h2,kj,e1]; rfl
      ·simp only [kj,e1,List.length_append,h3,List.length_cons,List.length_nil]; omega
     ·rw [if_neg hcc] at h; cases h
   ·rw [if_neg hc] at h
    by_cases hin:inT b = true
    ·rw [if_pos hin] at h
     obtain ⟨y,hy,rfl⟩:=Option.map_eq_some_iff.1 h
     obtain ⟨h1,h2,h3⟩:=r5 r y hy
     have e1:l7 b = [b]:=by unfold l7; rw [if_neg (by simp [yx,hb,hc])]
     refine ⟨?_,?_,?_⟩
     ·intro x hx
      rcases List.mem_cons.1 hx with rfl | hx
      ·exact hin
      ·exact h1 x hx
     ·simp only [List.take_succ_cons,h2,kj,e1]; rfl
     ·simp only [kj,e1,List.length_append,h3,List.length_cons,List.length_nil]; omega
    ·rw [if_neg hin] at h; cases h
theorem Ag:∀ {g w rest:Str},(∀ x ∈ g,BZ x = false) → Sep rest → g.isPrefixOf (w ++ rest) = g.isPrefixOf w
 | [],w,rest,_,_=>by simp
 | x :: g,[],rest,hg,hs=>by
  cases rest with
  | nil=>rfl
  | cons c q=>
   have h1:=hg x (by simp)
   have h2:=hs c q rfl
   have:(x == c) = false:=by
    simp only [beq_eq_false_iff_ne]
    rintro rfl; rw [h1] at h2; cases h2
   simp [List.isPrefixOf,this]
 | x :: g,y :: w,rest,hg,hs=>by
  have ih:=Ag (g:=g) (w:=w) (rest:=rest) (fun z hz=>hg z (by simp [hz])) hs
  simp only [List.cons_append,List.isPrefixOf,ih]
theorem vx:∀ g ∈ dA,∀ x ∈ g,BZ x = false:=by decide
theorem Dq {w rest:Str} (hs:Sep rest):n4 (w ++ rest) = n4 w:=by
 unfold n4
 have:∀ l:List Str,(∀ g ∈ l,∀ x ∈ g,BZ x = false) → l.find? (fun g=>g.isPrefixOf (w ++ rest)) = l.find? (fun g=>g.isPrefixOf w):=by
  intro l
  induction l with
  | nil=>intro _; rfl
  | cons g l ih=>
   intro h
   rw [List.find?_cons,List.find?_cons,Ag (h g (by simp)) hs,ih fun g hg=>h g (by simp [hg])]
 rw [this dA vx]
theorem Bi:∀ g ∈ dA,dA.find? (fun x=>x.isPrefixOf g) = some g:=by decide
theorem Bd {x:UInt8} {q:Str} {k:Int} {t:Str} {m:Nat} (h:tok (x :: q) = .pN k t m):BZ x = false:=by
 cases hp:BZ x with
 | false=>rfl
 | true=>
  have hn:=tO x hp
  unfold tok at h
  simp only [hn.2.2.1,hn.2.1,hn.2.2.2.2.2,Bool.false_eq_true,if_false] at h
  obtain ⟨h1,_,_,h4⟩:=qU h
  cases t with
  | nil=>exact absurd h1 (by decide)
  | cons c t=>
   have h5:=vx _ h1 c (by simp)
   have h6:(c :: t).isPrefixOf (x :: q) = true:=h4
   simp only [List.isPrefixOf,Bool.and_eq_true,beq_iff_eq] at h6
   rw [h6.1,hp] at h5; cases h5
theorem Bc {r:Str} {k:Int} {t:Str} {m:Nat} (h:tok r = .pN k t m):t.length ≤ 80:=by
 unfold tok at h
 split at h
 ·cases h
 ·next x q=>
  split at h
  ·unfold mo at h
   split at h
   ·cases h
   ·cases h; omega
  ·split at h
   ·next hg=>
    rcases vE (q:=q) hg with ⟨A,D,e,hA,h0,hD,hdot⟩ | ⟨A,B,D,e,hA,h0,hB,h1,hD⟩
    ·rw [e,tk hA h0 hD hdot] at h
     split at h
     ·cases h
     ·split at h
      ·cases h
      ·cases h; omega
    ·rw [e,tj hA h0 hB h1 hD] at h
     split at h
     ·cases h
     ·split at h
      ·cases h
      ·cases h; simp; omega
   ·split at h
    ·unfold qC at h
     split at h
     ·cases h
     ·split at h
      ·cases h
      ·cases h; omega
    ·obtain ⟨h1,_,_,_⟩:=qU h
     have:∀ g ∈ dA,g.length ≤ 80:=by decide
     exact this t h1
theorem tok_sep {x:UInt8} {q:Str} {k:Int} {t:Str} {m:Nat} (h:tok (x :: q) = .pN k t m):uW k t = (x :: q).take m ∧ ∀ rest,Sep rest → tok ((x :: q).take m ++ rest) = .pN k t m:=by
 have hm:=oZ h
 have key:∀ w:Str,w = (x :: q).take m → ∃ w',w = x :: w':=by
  intro w hw
  obtain ⟨n,rfl⟩:∃ n,m = n + 1:=⟨m - 1,by omega⟩
  exact ⟨_,hw⟩
 unfold tok at h
 simp only at h
 by_cases hl:yF x = true
 ·rw [if_pos hl] at h
  have ht:t = (x :: q).take m ∧ m = t.length ∧ (k = 1 ∨ k = 2) ∧ t = (x :: q).takeWhile uY ∧ mo (x :: q) = .pN k t m:=by
   refine (fun h'=>?_) h
   unfold mo at h
   split at h
   ·cases h
   ·cases h
    refine ⟨(Ac uY _).symm,rfl,?_,rfl,h'⟩
    split <;> simp
  obtain ⟨h1,h2,h3,h4,h5⟩:=ht
  refine ⟨?_,fun rest hr=>?_⟩
  ·unfold uW
   rw [if_neg (by omega)]; exact h1
  ·rw [← h1]
   obtain ⟨w',hw⟩:=key t h1
   have e1:tok (t ++ rest) = mo (t ++ rest):=by
    rw [hw,List.cons_append,tok]; rw [if_pos hl]
   have ha:∀ y ∈ t,uY y = true:=by rw [h4]; exact yP _
   rw [e1,Bz ha (DJ hr)]
   rw [mo,← h4] at h5
   exact h5
 ·rw [if_neg hl] at h
  by_cases hg:eJ x = true
  ·rw [if_pos hg] at h
   rcases vE (q:=q) hg with ⟨A,D,e,hA,h0,hD,hdot⟩ | ⟨A,B,D,e,hA,h0,hB,h1,hD⟩
   ·rw [e,tk hA h0 hD hdot] at h
    split at h
    ·cases h
    ·next h40=>
     split at h
     ·cases h
     ·next hz=>
      cases h
      have et:(x :: q).take t.length = t:=by rw [e,List.take_left]
      rw [et]
      refine ⟨rfl,fun rest hr=>?_⟩
      obtain ⟨w',hw⟩:=key t et.symm
      have e1:tok (t ++ rest) = rH (t ++ rest):=by
       rw [hw,List.cons_append,tok]; rw [if_neg hl,if_pos hg]
      rw [e1,tk hA h0 (vN hr) (dot_sep hr),if_neg h40,if_neg]
      rw [Cw hr]
      simp only [Bool.or_eq_true,not_or] at hz
      simp [hz.1]
   ·rw [e,tj hA h0 hB h1 hD] at h
    split at h
    ·cases h
    ·next h40=>
     split at h
     ·cases h
     ·next hz=>
      cases h
      have et:(x :: q).take (A.length + 1 + B.length) = A ++ 46 :: B:=by
       have el:A ++ 46 :: (B ++ D) = (A ++ 46 :: B) ++ D:=by simp
       have en:A.length + 1 + B.length = (A ++ 46 :: B).length:=by simp; omega
       rw [e,el,en,List.take_left]
      rw [et]
      refine ⟨rfl,fun rest hr=>?_⟩
      obtain ⟨w',hw⟩:=key _ et.symm
      have e1:tok (A ++ 46 :: B ++ rest) = rH (A ++ 46 :: B ++ rest):=by
       rw [hw,List.cons_append,tok]; rw [if_neg hl,if_pos hg]
      have e2:A ++ 46 :: B ++ rest = A ++ 46 :: (B ++ rest):=by simp
      rw [e1,e2,tj hA h0 hB h1 (vN hr),if_neg h40,if_neg]
      rw [Cw hr]
      simp only [Bool.or_eq_true,not_or] at hz
      simp [hz.1]
  ·rw [if_neg hg] at h
   by_cases hb:x = 34
   ·rw [if_pos hb] at h
    subst hb
    unfold qC at h
    simp only [List.drop_succ_cons,List.drop_zero] at h
    cases hz:iP q with
    | none=>rw [hz] at h; cases h
    | some z=>
     rw [hz] at h
     simp only at h
     obtain ⟨h1,h2,h3⟩:=r5 q z hz
     split at h
     ·cases h
     ·next h80=>
      cases h
      have et:(34 :: q).take (z.2 + 1) = 34 :: (oT z.1 ++ [34]):=by rw [List.take_succ_cons,h2]
      rw [et]
      refine ⟨rfl,fun rest hr=>?_⟩
      rw [List.cons_append,tok]
      simp only
      rw [if_neg hl,if_neg hg,if_pos trivial]
      unfold qC
      simp only [List.drop_succ_cons,List.drop_zero]
      rw [List.append_assoc,List.singleton_append,Be h1,← h3]
      simp only
      rw [if_neg h80]
   ·rw [if_neg hb] at h
    obtain ⟨h1,h2,h3,h4⟩:=qU h
    have et:=(xx.1 h4).2
    rw [← h2] at et
    rw [et]
    refine ⟨by unfold uW; rw [if_neg (by omega)],fun rest hr=>?_⟩
    obtain ⟨w',hw⟩:=key t et.symm
    have e1:tok (t ++ rest) = n4 (t ++ rest):=by
     rw [hw,List.cons_append,tok]; rw [if_neg hl,if_neg hg,if_neg hb]
    rw [e1,Dq hr,n4,Bi t h1,h3,h2]
def lJ (K:Int) (S:Str):Bool:=match tok (uW K S) with
 | .bad _=>false
 | .pN k t n=>decide (k = K) && decide (t = S) && decide (n = (uW K S).length)
theorem kV {K:Int} {S:Str}:lJ K S = true ↔ tok (uW K S) = .pN K S (uW K S).length:=by
 unfold lJ
 cases h:tok (uW K S) with
 | bad e=>simp
 | pN k t n=>
  constructor
  ·intro h2
   simp only [Bool.and_eq_true,decide_eq_true_eq] at h2
   rw [h2.1.1,h2.1.2,h2.2]
  ·intro h2
   injection h2 with h1 h2 h3
   simp [h1,h2,h3]
theorem Dn {x:UInt8} {q:Str} {k:Int} {t:Str} {m:Nat} (h:tok (x :: q) = .pN k t m):lJ k t = true:=by
 obtain ⟨h1,h2⟩:=tok_sep h
 have h3:=h2 [] sep_nil
 have hm:=oZ h
 rw [List.append_nil,← h1] at h3
 rw [kV,h3]
 congr 1
 rw [h1,List.length_take,List.length_cons]; omega
theorem Bo {K:Int} {S:Str} (h:lJ K S = true):∃ x q,uW K S = x :: q ∧ BZ x = false:=by
 have h:=kV.1 h
 cases hw:uW K S with
 | nil=>rw [hw] at h; cases h
 | cons x q=>
  rw [hw] at h
  exact ⟨x,q,rfl,Bd h⟩
theorem uE {K:Int} {S:Str} (h:lJ K S = true):S.length ≤ 80:=Bc (kV.1 h)
theorem sk_tok {x:UInt8} {q:Str} (h:BZ x = false):sk false (x :: q) = x :: q:=by
 unfold BZ at h
 simp only [Bool.or_eq_false_iff,decide_eq_false_iff_not] at h
 rw [sk,if_neg (by simp [h.1]),if_neg h.2]
theorem poss_lx {K:Int} {S:Str} (h:lJ K S = true):Lx 0 (uW K S) (.inl [⟨K,0,S⟩]):=by
 obtain ⟨x,q,hw,hx⟩:=Bo h
 have h2:=kV.1 h
 rw [hw] at h2 ⊢
 have hd:Lx (0 + (x :: q).length) ((x :: q).drop (x :: q).length) (.inl []):=by
  rw [List.drop_length]; exact .done rfl
 exact Lx.one (k:=0) (j:=0) (sk_tok hx) (by simp) h2 hd
theorem Bh {r:Str} {c:Bool} (h:(sk c r).length = r.length):sk c r = r:=by
 have:=tg r c
 rw [h,Nat.sub_self] at this
 rw [this]; rfl
theorem lx_poss {K:Int} {S w:Str} (hw:w = uW K S) (h:Lx 0 w (.inl [⟨K,0,S⟩])):lJ K S = true:=by
 generalize hr:(Sum.inl [⟨K,0,S⟩]:List Token ⊕ Problem) = res at h
 cases h with
 | done=>cases hr
 | bad=>cases hr
 | err=>cases hr
 | @one _ j _ q b kd t m l h1 hj ht hl=>
  injection hr with hr
  injection hr with hr1 hr2
  injection hr1 with e1 e2 e3
  have hj0:j = 0:=by omega
  subst hj0
  have e:sk false w = w:=Bh (by rw [h1]; simp only [List.length_cons]; omega)
  rw [h1] at e
  rw [← e1,← e3] at ht
  exact Dn ht
theorem x6 {F:Nat} {t:Token} (hF:t.S.length + 200000 < F) (hs:t.S.length ≤ 40000000):dD F t = some (lJ t.Kind t.S):=by
 unfold dD
 rw [zg (by omega) (by omega),Option.bind_some]
 have hwl:=wrt_len t.Kind t.S
 by_cases hlen:(uW t.Kind t.S).length ≤ 100000
 ·obtain ⟨res,hres⟩:=Lx.total _ 0 (uW t.Kind t.S) (Nat.le_refl _)
  rw [Ba hlen (by omega) hres,Option.bind_some]
  cases hp:lJ t.Kind t.S with
  | true=>
   have:=Lx.det hres (poss_lx hp)
   subst this
   simp only [outP,cF]
   rw [show aZ [(⟨t.Kind,0,t.S⟩:Token)] 0 = some ⟨t.Kind,0,t.S⟩ from rfl]
   simp [bx]
  | false=>
   have hne:¬ (outP res = ([⟨t.Kind,0,t.S⟩],⟨0,0⟩)):=by
    intro h
    cases res with
    | inl l=>
     have h1:l = [⟨t.Kind,0,t.S⟩]:=congrArg Prod.fst h
     rw [h1] at hres
     rw [lx_poss rfl hres] at hp; cases hp
    | inr p=>
     have h1:([]:List Token) = [⟨t.Kind,0,t.S⟩]:=congrArg Prod.fst h
     cases h1
   generalize outP res = o at hne
   obtain ⟨l,p⟩:=o
   simp only [cF]
   by_cases hc:p = ⟨0,0⟩ ∧ (l.length:Int) = 1
   ·have e0:(decide (p = (⟨0,0⟩:Problem)) && decide ((l.length:Int) = 1)) = true:=by simp [hc]
    obtain ⟨x,hl⟩:∃ x,l = [x]:=List.length_eq_one_iff.1 (by omega)
    subst hl
    rw [e0,show aZ [x] 0 = some x from rfl]
    simp only [bx,if_true,Option.bind_some,Bool.true_and]
    congr 1
    simp only [decide_eq_false_iff_not]
    intro hx
    exact hne (by rw [hx,hc.1])
   ·have e0:(decide (p = (⟨0,0⟩:Problem)) && decide ((l.length:Int) = 1)) = false:=by
     simp only [Bool.and_eq_false_iff,decide_eq_false_iff_not]
     by_cases h1:p = ⟨0,0⟩
     ·exact .inr fun h2=>hc ⟨h1,h2⟩
     ·exact .inl h1
    rw [e0]
    simp [bx]
 ·have hp:lJ t.Kind t.S = false:=by
   cases hp:lJ t.Kind t.S with
   | false=>rfl
   | true=>have:=uE hp; omega
  rw [hp]
  have e1:cf F (uW t.Kind t.S) = some ([],⟨0,2⟩):=by
   unfold cf
   rw [if_pos (decide_eq_true (by omega))]
  rw [e1,Option.bind_some]
  rfl
def wt (t:Token):Str:=uW t.Kind t.S
def sz (l:List Token):Nat:=(l.map fun t=>(wt t).length + 1).sum
end Go.Proofs.YtbcdabflmkgkiaaGreatDoor
namespace Go.Proofs.YtbcdabflmkgkiaaGreatDoor
open Go.Sk
end Go.Proofs.YtbcdabflmkgkiaaGreatDoor
namespace Go.Sk
set_option linter.unusedSimpArgs false
set_option linter.unusedVariables false
theorem xZ {n d g:Nat} (hg:g = Nat.gcd n d) (h0:0 < g):Nat.gcd (n / g) (d / g) = 1:=by
 obtain ⟨a,ha⟩:g ∣ n:=hg ▸ Nat.gcd_dvd_left n d
 obtain ⟨b,hb⟩:g ∣ d:=hg ▸ Nat.gcd_dvd_right n d
 have e1:n / g = a:=by rw [ha,Nat.mul_div_cancel_left _ h0]
 have e2:d / g = b:=by rw [hb,Nat.mul_div_cancel_left _ h0]
 rw [e1,e2]
 have e3:=Nat.gcd_mul_left g a b
 rw [← ha,← hb,← hg] at e3
 have e4:g * 1 = g * Nat.gcd a b:=by omega
 exact (Nat.eq_of_mul_eq_mul_left h0 e4).symm
theorem den_pos (r:Rat):(0:Int) < r.den:=by have:=r.den_nz; omega
theorem qx {n d:Int} (h0:0 < d) (hc:Nat.gcd n.natAbs d.natAbs = 1):(Rat.divInt n d).num = n ∧ ((Rat.divInt n d).den:Int) = d:=by
 have key:=Rat.num_divInt_den ⟨n,d.natAbs,by omega,hc⟩
 have e:((d.natAbs:Nat):Int) = d:=by omega
 dsimp only at key
 rw [e] at key
 rw [key]
 exact ⟨rfl,e⟩
def pI (n d:Int):Int:=if d < 0 then -(Nat.gcd n.natAbs d.natAbs:Nat) else (Nat.gcd n.natAbs d.natAbs:Nat)
theorem red {n d:Int} (hd:d ≠ 0):pI n d ≠ 0 ∧ (Rat.divInt n d).num * pI n d = n ∧ ((Rat.divInt n d).den:Int) * pI n d = d:=by
 have g0:0 < Nat.gcd n.natAbs d.natAbs:=Nat.gcd_pos_of_pos_right _ (by omega)
 have hc:=xZ (n:=n.natAbs) (d:=d.natAbs) rfl g0
 have d1:=Nat.div_mul_cancel (Nat.gcd_dvd_left n.natAbs d.natAbs)
 have d2:=Nat.div_mul_cancel (Nat.gcd_dvd_right n.natAbs d.natAbs)
 generalize hg:Nat.gcd n.natAbs d.natAbs = g at *
 generalize n.natAbs / g = a at *
 generalize hb:d.natAbs / g = b at *
 have b0:0 < b:=by
  rcases Nat.eq_zero_or_pos b with e | e
  ·subst e; omega
  ·exact e
 have e0:pI n d = if d < 0 then -(g:Int) else g:=by unfold pI; rw [hg]
 have d1':(a:Int) * g = n.natAbs:=by rw [← d1]; simp
 have d2':(b:Int) * g = d.natAbs:=by rw [← d2]; simp
 obtain ⟨x,hx,hn⟩:∃ x:Int,x.natAbs = a ∧ x * pI n d = n:=by
  rw [e0]
  by_cases h1:d < 0
  ·by_cases h2:n < 0
   ·exact ⟨a,by omega,by rw [if_pos h1,Int.mul_neg,d1']; omega⟩
   ·exact ⟨-a,by omega,by rw [if_pos h1,Int.mul_neg,Int.neg_mul,d1']; omega⟩
  ·by_cases h2:n < 0
   ·exact ⟨-a,by omega,by rw [if_neg h1,Int.neg_mul,d1']; omega⟩
   ·exact ⟨a,by omega,by rw [if_neg h1,d1']; omega⟩
 have hdd:(b:Int) * pI n d = d:=by
  rw [e0]
  by_cases h1:d < 0
  ·rw [if_pos h1,Int.mul_neg,d2']; omega
  ·rw [if_neg h1,d2']; omega
 have hgs:pI n d ≠ 0:=by rw [e0]; split <;> omega
 have hq:Rat.divInt n d = Rat.divInt x b:=by
  rw [Rat.divInt_eq_divInt_iff hd (by omega)]
  generalize pI n d = G at *
  subst hn; subst hdd
  rw [Int.mul_assoc,Int.mul_comm G]
 have hcop:=qx (n:=x) (d:=b) (by omega) (by rw [hx]; exact hc)
 rw [hq,hcop.1,hcop.2]
 exact ⟨hgs,hn,hdd⟩
theorem mJ (n d:Int):Rat.divInt n d = (n:Rat) / (d:Rat):=Rat.divInt_eq_div n d
theorem vg (r:Rat):r = (r.num:Rat) / (r.den:Int):=by
 have:=Rat.num_divInt_den r
 rw [mJ] at this
 exact this.symm
theorem sum_q (r s:Rat) {g p q:Int} (h1:(r.den:Int) = p * g) (h2:(s.den:Int) = q * g):r + s = Rat.divInt (r.num * q + s.num * p) (p * s.den):=by
 have r0:=den_pos r
 have s0:=den_pos s
 have hp:p ≠ 0:=by intro e; subst e; simp at h1; omega
 have hq:q ≠ 0:=by intro e; subst e; simp at h2; omega
 have hg:g ≠ 0:=by intro e; subst e; simp at h2; omega
 rw [mJ]
 have er:=vg r
 have es:=vg s
 rw [h1] at er
 rw [h2] at es
 rw [h2]
 generalize r.num = a at *
 generalize s.num = b at *
 rw [er,es]
 simp only [Rat.intCast_mul,Rat.intCast_add]
 have hp':(p:Rat) ≠ 0:=by simpa using hp
 have hq':(q:Rat) ≠ 0:=by simpa using hq
 have hg':(g:Rat) ≠ 0:=by simpa using hg
 generalize (p:Rat) = P at *
 generalize (q:Rat) = Q at *
 generalize (g:Rat) = G at *
 generalize (a:Rat) = A at *
 generalize (b:Rat) = B at *
 grind
theorem prod_q (r s:Rat):(r * s).num = (Rat.divInt r.num s.den).num * (Rat.divInt s.num r.den).num ∧ (((r * s).den:Nat):Int) = (Rat.divInt r.num s.den).den * (Rat.divInt s.num r.den).den:=by
  have r0:=den_pos r
  have s0:=den_pos s
  obtain ⟨g1,a1,a2⟩:=red (n:=r.num) (d:=s.den) (by omega)
  obtain ⟨g2,b1,b2⟩:=red (n:=s.num) (d:=r.den) (by omega)
  have ca:=(Rat.divInt r.num s.den).reduced
  have cb:=(Rat.divInt s.num r.den).reduced
  have cr:=r.reduced
  have cs:=s.reduced
  have pa:=den_pos (Rat.divInt r.num s.den)
  have pb:=den_pos (Rat.divInt s.num r.den)
  have er:=vg r
  have es:=vg s
  generalize ha:Rat.divInt r.num s.den = a at *
  generalize hb:Rat.divInt s.num r.den = b at *
  have e:r * s = Rat.divInt (a.num * b.num) (a.den * b.den):=by
    rw [mJ,Rat.intCast_mul,Rat.intCast_mul]
    have hab:r * s = a * b:=by
      rw [← ha,← hb,mJ,mJ]
      have h1:((r.den:Int):Rat) ≠ 0:=by have:(r.den:Int) ≠ 0:=by omega
                                        simpa using this
      have h2:((s.den:Int):Rat) ≠ 0:=by have:(s.den:Int) ≠ 0:=by omega
                                        simpa using this
      generalize ((r.den:Int):Rat) = D1 at *
      generalize ((s.den:Int):Rat) = D2 at *
      generalize (r.num:Rat) = N1 at *
      generalize (s.num:Rat) = N2 at *
      rw [er,es]
      grind
    have ea:=vg a
    have eb:=vg b
    rw [hab]
    have h1:((a.den:Int):Rat) ≠ 0:=by have:(a.den:Int) ≠ 0:=by omega
                                      simpa using this
    have h2:((b.den:Int):Rat) ≠ 0:=by have:(b.den:Int) ≠ 0:=by omega
                                      simpa using this
    generalize ((a.den:Int):Rat) = D1 at *
    generalize ((b.den:Int):Rat) = D2 at *
    generalize (a.num:Rat) = N1 at *
    generalize (b.num:Rat) = N2 at *
    rw [ea,eb]
    grind
  have k1:Nat.Coprime a.num.natAbs b.den:=by
    have hx:a.num.natAbs ∣ r.num.natAbs:=Int.natAbs_dvd_natAbs.2 ⟨_,a1.symm⟩
    have hy:b.den ∣ r.den:=by
      have:(b.den:Int) ∣ (r.den:Int):=⟨_,b2.symm⟩
      exact Int.natCast_dvd_natCast.1 this
    exact Nat.Coprime.coprime_dvd_left hx (Nat.Coprime.coprime_dvd_right hy cr)
  have k2:Nat.Coprime b.num.natAbs a.den:=by
    have hx:b.num.natAbs ∣ s.num.natAbs:=Int.natAbs_dvd_natAbs.2 ⟨_,b1.symm⟩
    have hy:a.den ∣ s.den:=by
      have:(a.den:Int) ∣ (s.den:Int):=⟨_,a2.symm⟩
      exact Int.natCast_dvd_natCast.1 this
    exact Nat.Coprime.coprime_dvd_left hx (Nat.Coprime.coprime_dvd_right hy cs)
  have hc:Nat.gcd (a.num * b.num).natAbs ((a.den:Int) * b.den).natAbs = 1:=by
    rw [Int.natAbs_mul,Int.natAbs_mul,Int.natAbs_natCast,Int.natAbs_natCast]
    exact Nat.Coprime.mul_left (Nat.Coprime.mul_right ca k1) (Nat.Coprime.mul_right k2 cb)
  rw [e]
  exact qx (Int.mul_pos pa pb) hc
def fu (b:Int) (l:List Int):Prop:=∀ i,0 ≤ dg l i ∧ dg l i < b
def MM:Int:=4294967296 ^ 16
theorem vn:MM = 13407807929942597099574024998205846127479365820592393377723561443721764030073546976801874298166903427690031858186486050853753882811946569946433649006084096:=by decide +kernel
theorem wq:0 < MM:=by rw [vn]; decide
def av (w:aT):Int:=ds 4294967296 (dg w.l) 16
def sX (z:Int):aT:=.of ((List.range 16).map fun i=>nd 4294967296 z i)
theorem toA_l (z:Int):(sX z).l = (List.range 16).map fun i=>nd 4294967296 z i:=aT.yK (by simp)
theorem Co (z:Int) {i:Nat} (h:i < 16):dg (sX z).l i = nd 4294967296 z i:=by
 rw [toA_l]
 unfold dg
 rw [List.getD_eq_getElem?_getD,List.getElem?_map,List.getElem?_range h]
 rfl
theorem xz (b z:Int) (hb:0 < b) (i:Nat):0 ≤ nd b z i ∧ nd b z i < b:=⟨Int.emod_nonneg _ (by omega),Int.emod_lt_of_pos _ hb⟩
theorem kX (z:Int):fu 4294967296 (sX z).l:=fun i=>by
 by_cases h:i < 16
 ·rw [Co z h]; exact xz _ _ (by decide) i
 ·rw [vj (by rw [aT.cc]; omega)]; decide
theorem je (z:Int):av (sX z) = z % MM:=by
 unfold av
 rw [fB (g:=nd 4294967296 z) fun i hi=>Co z hi,Cf (by decide)]
 rfl
theorem eZ {w:aT} (h:fu 4294967296 w.l):0 ≤ av w ∧ av w < MM:=⟨hH (by decide) fun i _=>(h i).1,qE (by decide) fun i _=>h i⟩
theorem zb {v w:aT} (hv:fu 4294967296 v.l) (hw:fu 4294967296 w.l) (h:av v = av w):v = w:=by
 rw [← aT.xk]
 refine C7 rfl fun i hi=>?_
 exact C5 (by decide) (fun i _=>hv i) (fun i _=>hw i) h i hi
theorem oi {w:aT} (h:fu 4294967296 w.l):sX (av w) = w:=by
 refine zb (kX _) h ?_
 rw [je]
 exact Int.emod_eq_of_lt (eZ h).1 (eZ h).2
theorem y4 {w:aT} {z:Int} (h:fu 4294967296 w.l) (hz:av w = z):w = sX z:=by rw [← hz,oi h]
theorem AE {w:aT} {z:Int} (h:fu 4294967296 w.l) (hz:av w = z % MM):w = sX z:=zb h (kX z) (by rw [hz,je])
theorem jV:fu 4294967296 aT.zero.l:=fun i=>by
 have:aT.zero.l = List.replicate 16 0:=rfl
 rw [this,ik]; decide
theorem tw:av aT.zero = 0:=tt fun i _=>by
 have:aT.zero.l = List.replicate 16 0:=rfl
 rw [this,ik]
theorem zero_eq:aT.zero = sX 0:=y4 jV tw
theorem mw {w:aT} (h:fu 4294967296 w.l):w = aT.zero ↔ av w = 0:=⟨fun e=>by rw [e,tw],fun e=>zb h jV (by rw [e,tw])⟩
theorem jA {w:aT} {i x:Int} (h:fu 4294967296 w.l) (h0:0 ≤ i) (h1:i < 16) (hx:0 ≤ x ∧ x < 4294967296):fu 4294967296 (w.set i x).l:=fun j=>by
 rw [aT.jz,wj (by rw [aT.cc]; omega)]
 split
 ·exact hx
 ·exact h j
theorem fI {w:aT} {i x:Int} (h0:0 ≤ i) (h1:i < 16) (j:Nat):dg (w.set i x).l j = if j = i.toNat then x else dg w.l j:=by
 rw [aT.jz,wj (by rw [aT.cc]; omega)]
theorem C4 {b x:Int} {f g:Nat → Int} {k:Nat} (h:∀ i,g i = if i = k then x else f i):ds b g (k + 1) = ds b f k + x * b ^ k:=by
 show ds b g k + g k * b ^ k = _
 rw [fB (g:=f) fun i hi=>by rw [h i,if_neg (by omega)],h k,if_pos rfl]
theorem aT.rW {b:Int} {w:aT} {k:Nat} {x:Int} (h:k < 16):ds b (dg (w.set (k:Int) x).l) (k + 1) = ds b (dg w.l) k + x * b ^ k:=C4 fun i=>by rw [fI (by omega) (by omega),Int.toNat_natCast]
theorem zG {b A Bb O c x c' ak bk:Int} {k:Nat} (h:A + Bb = O + c * b ^ k) (e:c + ak + bk = x + c' * b):(A + ak * b ^ k) + (Bb + bk * b ^ k) = (O + x * b ^ k) + c' * b ^ (k + 1):=by
 rw [Int.pow_succ]
 grind
theorem yu {b A Bb O c x c' ak bk:Int} {k:Nat} (h:A + c * b ^ k = Bb + O) (e:ak - bk - c = x - c' * b):(A + ak * b ^ k) + c' * b ^ (k + 1) = (Bb + bk * b ^ k) + (O + x * b ^ k):=by
 rw [Int.pow_succ]
 grind
theorem Cg {b:Int} (hb:0 < b) {f:Nat → Int} {n m:Nat} (hf:∀ i,0 ≤ f i ∧ f i < b):ds b f (n + m) / b ^ n = ds b (fun i=>f (n + i)) m:=by
 have h1:=hH hb (f:=f) (n:=n) fun i _=>(hf i).1
 have h2:=qE hb (f:=f) (n:=n) fun i _=>hf i
 rw [lf,Int.add_mul_ediv_left _ _ (by have hp:0 < b ^ n:=Int.pow_pos hb; omega),Int.ediv_eq_zero_of_lt h1 h2,Int.zero_add]
theorem ds_dig {b:Int} (hb:0 < b) {f:Nat → Int} {n i:Nat} (hi:i < n) (hf:∀ i,0 ≤ f i ∧ f i < b):nd b (ds b f n) i = f i:=by
 obtain ⟨m,rfl⟩:∃ m,n = i + (m + 1):=⟨n - i - 1,by omega⟩
 unfold nd
 rw [Cg hb hf,mI]
 have h0:=hf (i + 0)
 rw [Int.add_mul_emod_self_left,Int.emod_eq_of_lt h0.1 h0.2]
 rfl
theorem qY {b:Int} (hb:1 ≤ b) {i j:Nat} (h:i ≤ j):b ^ i ≤ b ^ j:=by
 obtain ⟨d,rfl⟩:∃ d,j = i + d:=⟨j - i,by omega⟩
 have h1:0 < b ^ d:=Int.pow_pos (by omega)
 have h2:0 < b ^ i:=Int.pow_pos (by omega)
 rw [Int.pow_add]
 have h3:b ^ i * 1 ≤ b ^ i * b ^ d:=Int.mul_le_mul_of_nonneg_left (by omega) (by omega)
 omega
end Go.Sk
namespace Go.Proofs.YtbcdabflmkgkiaaGreatDoor
open Go Go.Sk
set_option linter.unusedSimpArgs false
set_option linter.unusedVariables false
theorem plus_y {F:Nat} (hF:100 < F) {a b:aT} (ha:fu 4294967296 a.l) (hb:fu 4294967296 b.l):ox F a b = some (sX (av a + av b),decide (av a + av b < MM)):=by
 refine aw.eq ?_
 unfold ox
 refine aw.bind (P:=fun r=>fu 4294967296 r.1.l ∧ 0 ≤ r.2 ∧ r.2 ≤ 1 ∧ av a + av b = av r.1 + r.2 * MM) (aw.rounds 16 (fun k s=>s.2.2 = (k:Int) ∧ fu 4294967296 s.1.l ∧ 0 ≤ s.2.1 ∧ s.2.1 ≤ 1 ∧ ds 4294967296 (dg a.l) k + ds 4294967296 (dg b.l) k = ds 4294967296 (dg s.1.l) k + s.2.1 * 4294967296 ^ k) (by omega) ⟨rfl,jV,by decide,by decide,rfl⟩ ?_) ?_
 ·rintro k ⟨out,c,i⟩ hk ⟨rfl,hin,hc0,hc1,hs⟩
  dsimp only at hin hc0 hc1 hs
  dsimp only [kr]
  refine aw.ite (fun h=>?_) (fun h=>?_)
  ·have hk':k < 16:=by have:=of_decide_eq_true h; omega
   refine aw.idx (by omega) (by rw [aT.cc]; omega) (aw.idx (by omega) (by rw [aT.cc]; omega) (aw.ln (aw.idx (by omega) (by rw [aT.cc]; omega) (aw.ln (aw.some (.inl ⟨_,rfl,?_,hk'⟩))))))
   have h1:=ha k
   have h2:=hb k
   simp only [fL,Int.toNat_natCast,fv,l6,gm]
   refine ⟨by omega,jA hin (by omega) (by omega) (by constructor <;> omega),by omega,by omega,?_⟩
   rw [gW,gW,aT.rW hk']
   exact zG hs (by omega)
  ·have hk':k = 16:=by have:=of_decide_eq_false h; omega
   subst hk'
   exact aw.some (.inr ⟨_,rfl,hin,hc0,hc1,hs⟩)
 ·rintro ⟨out,c⟩ ⟨hin,hc0,hc1,hs⟩
  dsimp only at hin hc0 hc1 hs
  have hr:=eZ hin
  refine aw.some ?_
  have e1:out = sX (av a + av b):=AE hin (by rw [hs,Int.add_mul_emod_self_right,Int.emod_eq_of_lt hr.1 hr.2])
  rw [← e1]
  congr 1
  rw [decide_eq_decide]
  rw [vn] at *
  omega
theorem wB {F:Nat} (hF:100 < F) {a b:aT} (ha:fu 4294967296 a.l) (hb:fu 4294967296 b.l) (hle:av b ≤ av a):iR F a b = some (sX (av a - av b)):=by
 refine aw.eq ?_
 unfold iR
 refine aw.bind (P:=fun r=>fu 4294967296 r.l ∧ ∃ c:Int,0 ≤ c ∧ c ≤ 1 ∧ av a + c * MM = av b + av r) (aw.rounds 16 (fun k s=>s.2.2 = (k:Int) ∧ fu 4294967296 s.1.l ∧ 0 ≤ s.2.1 ∧ s.2.1 ≤ 1 ∧ ds 4294967296 (dg a.l) k + s.2.1 * 4294967296 ^ k = ds 4294967296 (dg b.l) k + ds 4294967296 (dg s.1.l) k) (by omega) ⟨rfl,jV,by decide,by decide,rfl⟩ ?_) ?_
 ·rintro k ⟨out,c,i⟩ hk ⟨rfl,hin,hc0,hc1,hs⟩
  dsimp only at hin hc0 hc1 hs
  dsimp only [kr]
  refine aw.ite (fun h=>?_) (fun h=>?_)
  ·have hk':k < 16:=by have:=of_decide_eq_true h; omega
   refine aw.idx (by omega) (by rw [aT.cc]; omega) (aw.idx (by omega) (by rw [aT.cc]; omega) (aw.ln (aw.idx (by omega) (by rw [aT.cc]; omega) (aw.ln (aw.some (.inl ⟨_,rfl,?_,hk'⟩))))))
   have h1:=ha k
   have h2:=hb k
   simp only [fL,Int.toNat_natCast,fv,l6,gm]
   refine ⟨by omega,jA hin (by omega) (by omega) (by constructor <;> omega),by omega,by omega,?_⟩
   rw [gW,gW,aT.rW hk']
   exact yu hs (by omega)
  ·have hk':k = 16:=by have:=of_decide_eq_false h; omega
   subst hk'
   exact aw.some (.inr ⟨_,rfl,hin,_,hc0,hc1,hs⟩)
 ·rintro out ⟨hin,c,hc0,hc1,hs⟩
  have hr:=eZ hin
  have ra:=eZ ha
  have rb:=eZ hb
  refine aw.some (y4 hin ?_)
  have:c = 0:=by
   rcases (by omega:c = 0 ∨ c = 1) with h | h
   ·exact h
   ·subst h; omega
  subst this
  omega
theorem xM {b:Int} (hb:0 < b) {f g:Nat → Int} {n k:Nat} (hk:k < n) (hf:∀ i,0 ≤ f i ∧ f i < b) (hg:∀ i,0 ≤ g i ∧ g i < b) (he:∀ i,k < i → i < n → f i = g i) (hl:f k < g k):ds b f n < ds b g n:=by
 have e:n = (k + 1) + (n - (k + 1)):=by omega
 rw [e,lf,lf b g]
 have h1:ds b (fun i=>f (k + 1 + i)) (n - (k + 1)) = ds b (fun i=>g (k + 1 + i)) (n - (k + 1)):=fB fun i hi=>he _ (by omega) (by omega)
 rw [h1]
 have h2:ds b f (k + 1) < ds b g (k + 1):=by
  rw [gW,gW]
  have h3:=qE hb (n:=k) fun i _=>hf i
  have h4:=hH hb (n:=k) fun i _=>(hg i).1
  have h5:(f k + 1) * b ^ k ≤ g k * b ^ k:=Int.mul_le_mul_of_nonneg_right hl (Int.le_of_lt (Int.pow_pos hb))
  rw [Int.add_mul,Int.one_mul] at h5
  omega
 omega
theorem BO (F:Nat) (x y:Int):iF F x y = some (if x < y then -1 else if y < x then 1 else 0):=by
 unfold iF gL
 simp
 split
 ·rfl
 ·split <;> rfl
theorem Ah {F:Nat} (hF:100 < F) {a b:aT} (ha:fu 4294967296 a.l) (hb:fu 4294967296 b.l):kR F a b = some (if av a < av b then -1 else if av b < av a then 1 else 0):=by
 refine aw.eq ?_
 unfold kR
 refine aw.bind (P:=fun r=>match r with | .inl _=>a = b | .inr y=>y = if av a < av b then -1 else if av b < av a then 1 else 0) (aw.rounds 16 (fun k s=>s = 15 - (k:Int) ∧ ∀ i,15 < i + k → i < 16 → dg a.l i = dg b.l i) (by omega) ⟨rfl,fun i h1 h2=>by omega⟩ ?_) ?_
 ·rintro k i hk ⟨rfl,he⟩
  refine aw.ite (fun h=>?_) (fun h=>?_)
  ·have hk':k < 16:=by have:=of_decide_eq_true h; omega
   have et:(15 - (k:Int)).toNat = 15 - k:=by omega
   refine aw.idx (by omega) (by rw [aT.cc]; omega) (aw.idx (by omega) (by rw [aT.cc]; omega) (aw.ite (fun hne=>?_) (fun heq=>?_)))
   ·refine aw.idx (by omega) (by rw [aT.cc]; omega) (aw.idx (by omega) (by rw [aT.cc]; omega) (aw.aQ (BO _ _ _) (aw.some (.inr ⟨_,rfl,?_⟩))))
    have hne':=of_decide_eq_true hne
    simp only [fL,et] at hne' ⊢
    rcases Int.lt_trichotomy (dg a.l (15 - k)) (dg b.l (15 - k)) with h1 | h1 | h1
    ·have:=xM (b:=4294967296) (n:=16) (k:=15 - k) (by decide) (by omega) ha hb (fun i h2 h3=>he i (by omega) h3) h1
     have h':av a < av b:=this
     rw [if_pos h1,if_pos h']
    ·exact absurd h1 hne'
    ·have:=xM (b:=4294967296) (n:=16) (k:=15 - k) (by decide) (by omega) hb ha (fun i h2 h3=>(he i (by omega) h3).symm) h1
     have h':av b < av a:=this
     rw [if_neg (by omega),if_pos h1,if_neg (by omega),if_pos h']
   ·have heq':idx a.l (15 - (k:Int)) = idx b.l (15 - (k:Int)):=by simpa using heq
    simp only [fL,et] at heq'
    refine aw.some (.inl ⟨_,rfl,⟨by rw [gm]; omega,fun i h1 h2=>?_⟩,hk'⟩)
    by_cases e:i = 15 - k
    ·rw [e]; exact heq'
    ·exact he i (by omega) h2
  ·have hk':k = 16:=by have:=of_decide_eq_false h; omega
   subst hk'
   refine aw.some (.inr ⟨_,rfl,?_⟩)
   show a = b
   rw [← aT.xk]
   exact C7 rfl fun i hi=>he i (by omega) hi
 ·rintro (u | y) h
  ·have h':a = b:=h
   subst h'
   exact aw.some (by simp)
  ·exact aw.some h
theorem qe {F:Nat} (hF:100 < F) {w:aT}:aw (gy F w) fun n=>0 ≤ n ∧ n ≤ 16 ∧ (∀ i,n.toNat ≤ i → i < 16 → dg w.l i = 0) ∧ (0 < n → dg w.l (n.toNat - 1) ≠ 0):=by
 unfold gy
 refine aw.bind (P:=fun n=>0 ≤ n ∧ n ≤ 16 ∧ (∀ i,n.toNat ≤ i → i < 16 → dg w.l i = 0) ∧ (0 < n → dg w.l (n.toNat - 1) ≠ 0)) (aw.rounds 16 (fun k s=>s = 16 - (k:Int) ∧ ∀ i,16 - k ≤ i → i < 16 → dg w.l i = 0) (by omega) ⟨rfl,fun i h1 h2=>by omega⟩ ?_) (fun x h=>aw.some h)
 rintro k n hk ⟨rfl,he⟩
 by_cases hk':k < 16
 ·have hw:IntKind.i64.wrap (16 - (k:Int) - 1) = 15 - (k:Int):=by rw [gm]; omega
  have et:(15 - (k:Int)).toNat = 15 - k:=by omega
  have hd:decide (0 < 16 - (k:Int)) = true:=decide_eq_true (by omega)
  refine aw.g1 hd (aw.idx (by rw [hw]; omega) (by rw [hw,aT.cc]; omega) ?_)
  rw [hw,hd]
  simp only [fL,et,Bool.true_and]
  refine aw.ite (fun h=>?_) (fun h=>?_)
  ·have h':=of_decide_eq_true h
   refine aw.some (.inl ⟨_,rfl,⟨by omega,fun i h1 h2=>?_⟩,hk'⟩)
   by_cases e:i = 15 - k
   ·rw [e]; exact h'
   ·exact he i (by omega) h2
  ·have h':=of_decide_eq_false h
   refine aw.some (.inr ⟨_,rfl,by omega,by omega,fun i h1 h2=>he i (by omega) h2,fun _=>?_⟩)
   have:(16 - (k:Int)).toNat - 1 = 15 - k:=by omega
   rw [this]; exact h'
 ·have hk2:k = 16:=by omega
  subst hk2
  refine aw.g0 (by decide) ?_
  refine aw.iff (by simp) (aw.some (.inr ⟨_,rfl,by decide,by decide,fun i _ h2=>he i (by omega) h2,fun h=>by simp at h⟩))
end Go.Proofs.YtbcdabflmkgkiaaGreatDoor
namespace Go.Sk
set_option linter.unusedSimpArgs false
set_option linter.unusedVariables false
def bad:cV:=⟨true,false,aT.zero⟩
def df (z:Int):cV:=if -MM < z ∧ z < MM then ⟨false,decide (z < 0),sX (if z < 0 then -z else z)⟩ else bad
def yD:Option Int → cV
 | some z=>df z
 | none=>bad
def oS (x:cV):Prop:=fu 4294967296 x.W.l
def fV (x:cV):Bool:=!x.Bad && (!decide (x.W = aT.zero) || !x.Neg)
def sv (x:cV):Int:=if x.Neg = true then -av x.W else av x.W
def iv (x:cV):Option Int:=if fV x = true then some (sv x) else none
theorem tV:oS bad:=jV
theorem bC (z:Int):oS (df z):=by
 unfold df; split
 ·exact kX _
 ·exact tV
theorem Cz:iv bad = none:=rfl
theorem rm {m:Int} (h0:0 ≤ m) (h1:m < MM):sX m = aT.zero ↔ m = 0:=by
 rw [mw (kX _),je,Int.emod_eq_of_lt h0 h1]
theorem ss {z:Int} (h:-MM < z ∧ z < MM):fV (df z) = true:=by
 unfold df
 rw [if_pos h]
 by_cases hz:z < 0
 ·have:¬ sX (-z) = aT.zero:=by rw [rm (by omega) (by omega)]; omega
  simp [fV,hz,this]
 ·simp [fV,hz]
theorem jB {z:Int} (h:-MM < z ∧ z < MM):iv (df z) = some z:=by
 unfold iv
 rw [if_pos (ss h)]
 unfold df sv
 rw [if_pos h]
 by_cases hz:z < 0
 ·simp only [hz,decide_true,if_true]
  rw [je,Int.emod_eq_of_lt (by omega) (by omega)]; simp
 ·simp only [hz,decide_false,if_false]
  rw [je,Int.emod_eq_of_lt (by omega) (by omega)]; simp
theorem nD {z:Int} (h:¬ (-MM < z ∧ z < MM)):df z = bad:=if_neg h
theorem xv {x:cV} (h:oS x):-MM < sv x ∧ sv x < MM:=by
 have:=eZ h
 unfold sv
 split <;> omega
theorem big_sv {x:cV} (h:oS x) (hg:fV x = true):x = df (sv x):=by
 have hr:=xv h
 have ha:=eZ h
 unfold df
 rw [if_pos hr]
 simp only [fV,Bool.and_eq_true,Bool.not_eq_true',Bool.or_eq_true,decide_eq_false_iff_not] at hg
 obtain ⟨hb,hz⟩:=hg
 cases x with
 | mk B N W=>
  dsimp only [sv] at *
  subst hb
  cases N with
  | false=>
   have h1:¬ av W < 0:=by omega
   simp only [Bool.false_eq_true,if_false,h1,decide_false]
   rw [oi h]
  | true=>
   have hw:¬ W = aT.zero:=by simpa using hz
   have h2:av W ≠ 0:=fun e=>hw ((mw h).2 e)
   have h1:-av W < 0:=by omega
   simp only [if_true,h1,decide_true]
   rw [Int.neg_neg,oi h]
theorem eF {x:cV} {z:Int} (h:oS x) (hz:iv x = some z):fV x = true ∧ x = df z ∧ -MM < z ∧ z < MM:=by
 unfold iv at hz
 split at hz
 ·next hg=>
  cases hz
  exact ⟨hg,big_sv h hg,xv h⟩
 ·simp at hz
theorem fN {x:cV} (hz:iv x = none):fV x = false:=by
 unfold iv at hz
 split at hz
 ·simp at hz
 ·next hg=>simpa using hg
theorem wM {z:Int}:(df z).Bad = !decide (-MM < z ∧ z < MM):=by
 unfold df
 split
 ·next h=>simp [h]
 ·next h=>simp [h,bad]
theorem Cn (o:Option Int):oS (yD o):=by cases o; exact tV; exact bC _
theorem big_inj {a b:Int} (ha:-MM < a ∧ a < MM) (hb:-MM < b ∧ b < MM):df a = df b ↔ a = b:=⟨fun h=>by
 have:=congrArg iv h
 rw [jB ha,jB hb] at this
 exact Option.some.inj this,fun h=>by rw [h]⟩
end Go.Sk
namespace Go.Proofs.YtbcdabflmkgkiaaGreatDoor
open Go Go.Sk
set_option linter.unusedSimpArgs false
set_option linter.unusedVariables false
theorem AK (F:Nat) (x:cV):kT F x = some (if x.Bad = true then decide (x.W = aT.zero) && !x.Neg else !decide (x.W = aT.zero) || !x.Neg):=by
 unfold kT
 split <;> rfl
theorem CD {F:Nat} (l:List cV) (hF:l.length < F) (hl:l.length ≤ 1000):ew F l = some (l.all fV):=by
 refine aw.eq ?_
 unfold ew
 refine aw.bind (P:=fun r=>match r with | .inl _=>l.all fV = true | .inr y=>y = false ∧ l.all fV = false) (aw.rounds l.length (fun k s=>s = (k:Int) ∧ (l.take k).all fV = true) hF ⟨rfl,by simp⟩ ?_) ?_
 ·rintro k i hk ⟨rfl,he⟩
  refine aw.ite (fun h=>?_) (fun h=>?_)
  ·have hk':k < l.length:=by have:=of_decide_eq_true h; omega
   refine aw.idx (by omega) (by omega) ?_
   have hx:idx l (k:Int) = l[k]:=by
    have:=idx_eq (xs:=l) (i:=(k:Int)) (by omega) (by omega)
    rw [Int.toNat_natCast,List.getElem?_eq_getElem hk'] at this
    exact (Option.some.inj this).symm
   rw [hx]
   have hstep:(l.take (k + 1)).all fV = ((l.take k).all fV && fV l[k]):=by
    rw [List.take_add_one,List.getElem?_eq_getElem hk',List.all_append]; simp
   have hall:fV l[k] = false → l.all fV = false:=fun hg=>by
    rw [List.all_eq_false]; exact ⟨l[k],List.getElem_mem hk',by simp [hg]⟩
   cases hb:l[k].Bad with
   | true=>
    refine aw.g0 (by rfl) (aw.yz (by simp) (aw.some (.inr ⟨_,rfl,rfl,hall (by simp [fV,hb])⟩)))
   | false=>
    refine aw.g1 (by rfl) (aw.aQ (AK _ _) ?_)
    have hg:fV l[k] = (!decide (l[k].W = aT.zero) || !l[k].Neg):=by simp [fV,hb]
    simp only [hb,Bool.false_eq_true,if_false,← hg]
    refine aw.ite (fun h=>?_) (fun h=>?_)
    ·exact aw.some (.inr ⟨_,rfl,rfl,hall (by simpa using h)⟩)
    ·refine aw.some (.inl ⟨_,rfl,⟨by rw [gm]; omega,?_⟩,hk'⟩)
     rw [hstep,he]; simpa using h
  ·have hk':k = l.length:=by have:=of_decide_eq_false h; omega
   subst hk'
   rw [List.take_length] at he
   exact aw.some (.inr ⟨_,rfl,he⟩)
 ·rintro (u | y) h
  ·exact aw.some h.symm
  ·exact aw.some (by rw [h.1,h.2])
theorem xm {F:Nat} (hF:100 < F) (x:cV):ew F [x] = some (fV x):=by rw [CD _ (by simp; omega) (by simp)]; simp
theorem zV {F:Nat} (hF:100 < F) (x y:cV):ew F [x,y] = some (fV x && fV y):=by rw [CD _ (by simp; omega) (by simp)]; simp
theorem j7 (F:Nat):fm F = some bad:=rfl
theorem fA (F:Nat) (neg:Bool) {w:aT} (h:fu 4294967296 w.l):cH F neg w = some (df (if neg = true then -av w else av w)):=by
 have hr:=eZ h
 unfold cH df
 have hz:=mw h
 cases neg with
 | false=>
  have h1:¬ av w < 0:=by omega
  simp only [Bool.false_eq_true,if_false,h1,decide_false,Bool.false_and]
  rw [if_pos (by omega),oi h]
 | true=>
  simp only [if_true,Bool.true_and]
  rw [if_pos (by omega)]
  by_cases e:av w = 0
  ·have hw:=hz.2 e
   rw [e]
   simp [hw,zero_eq]
  ·have hw:¬ w = aT.zero:=fun h=>e (hz.1 h)
   have h1:-av w < 0:=by omega
   simp only [h1,decide_true,if_true,Int.neg_neg,oi h]
   simp [hw]
theorem eV {z:Int} (h:-MM < z ∧ z < MM):av (df z).W = (if z < 0 then -z else z) ∧ (df z).Neg = decide (z < 0):=by
 unfold df
 rw [if_pos h]
 refine ⟨?_,rfl⟩
 dsimp only
 rw [je,Int.emod_eq_of_lt] <;> split <;> omega
def two (f:Int → Int → Option Int) (x y:cV):cV:=match iv x,iv y with
 | some a,some b=>yD (f a b)
 | _,_=>bad
def one (f:Int → Option Int) (x:cV):cV:=match iv x with
 | some a=>yD (f a)
 | none=>bad
theorem oY {f:Int → Int → Option Int} {a b:Int} (ha:-MM < a ∧ a < MM) (hb:-MM < b ∧ b < MM):two f (df a) (df b) = yD (f a b):=by simp only [two,jB ha,jB hb]
theorem wz {f:Int → Option Int} {a:Int} (ha:-MM < a ∧ a < MM):one f (df a) = yD (f a):=by simp only [one,jB ha]
theorem Cj {F:Nat} (hF:100 < F) {x y:cV} (hx:oS x) (hy:oS y):nk F x y = some (two (fun a b=>some (a + b)) x y):=by
 refine aw.eq ?_
 unfold nk two
 refine aw.aQ (zV hF x y) ?_
 cases ha:iv x with
 | none=>simp only [fN ha,Bool.false_and,Bool.not_false,if_true]; exact aw.aQ (j7 F) (aw.some rfl)
 | some a=>
  cases hb:iv y with
  | none=>simp only [fN hb,Bool.and_false,Bool.not_false,if_true]; exact aw.aQ (j7 F) (aw.some rfl)
  | some b=>
   obtain ⟨ga,rfl,ra⟩:=eF hx ha
   obtain ⟨gb,rfl,rb⟩:=eF hy hb
   obtain ⟨wa,na⟩:=eV ra
   obtain ⟨wb,nb⟩:=eV rb
   simp only [ga,gb,Bool.and_self,Bool.not_true,Bool.false_eq_true,if_false,yD]
   refine aw.ite (fun hn=>?_) (fun hn=>?_)
   ·have hn':(a < 0) = (b < 0):=by
     rw [na,nb] at hn
     exact propext (decide_eq_decide.1 (eq_of_beq hn))
    refine aw.aQ (plus_y hF (bC a) (bC b)) ?_
    dsimp only [cF]
    rw [wa,wb]
    have hs:(if a < 0 then -a else a) + (if b < 0 then -b else b) = if a + b < 0 then -(a + b) else a + b:=by
     by_cases h1:a < 0
     ·have h2:b < 0:=by rw [← hn']; exact h1
      rw [if_pos h1,if_pos h2,if_pos (by omega)]; omega
     ·have h2:¬ b < 0:=by rw [← hn']; exact h1
      rw [if_neg h1,if_neg h2,if_neg (by omega)]
    rw [hs]
    refine aw.ite (fun h=>?_) (fun h=>?_)
    ·refine aw.aQ (j7 F) (aw.some ?_)
     have h':¬ (if a + b < 0 then -(a + b) else a + b) < MM:=by simpa using h
     exact (nD (by split at h' <;> omega)).symm
    ·have h':(if a + b < 0 then -(a + b) else a + b) < MM:=by simpa using h
     refine aw.aQ (fA F _ (kX _)) (aw.some ?_)
     rw [je,Int.emod_eq_of_lt (by split <;> omega) h',na]
     congr 1
     by_cases h1:a < 0
     ·have h2:b < 0:=by rw [← hn']; exact h1
      simp only [h1,decide_true,if_true]; rw [if_pos (by omega)]; omega
     ·have h2:¬ b < 0:=by rw [← hn']; exact h1
      simp only [h1,decide_false,Bool.false_eq_true,if_false]; rw [if_neg (by omega)]
   ·have hn':(a < 0) ≠ (b < 0):=by
     rw [na,nb] at hn
     intro e
     have:decide (a < 0) = decide (b < 0):=decide_eq_decide.2 (Iff.of_eq e)
     rw [this] at hn; simp at hn
    have hcase:(a < 0 ∧ ¬ b < 0) ∨ (¬ a < 0 ∧ b < 0):=by
     by_cases h1:a < 0
     ·by_cases h2:b < 0
      ·exact absurd (propext ⟨fun _=>h2,fun _=>h1⟩) hn'
      ·exact .inl ⟨h1,h2⟩
     ·by_cases h2:b < 0
      ·exact .inr ⟨h1,h2⟩
      ·exact absurd (propext ⟨fun h=>absurd h h1,fun h=>absurd h h2⟩) hn'
    refine aw.aQ (Ah hF (bC a) (bC b)) ?_
    rw [wa,wb]
    refine aw.ite (fun h=>?_) (fun h=>?_)
    ·have h':=of_decide_eq_true h
     have hle:(if b < 0 then -b else b) ≤ (if a < 0 then -a else a):=by
      by_cases h3:(if a < 0 then -a else a) < (if b < 0 then -b else b)
      ·rw [if_pos h3] at h'; omega
      ·omega
     refine aw.aQ (wB hF (bC a) (bC b) (by rw [wa,wb]; exact hle)) (aw.aQ (fA F _ (kX _)) (aw.some ?_))
     rw [wa,wb,je,Int.emod_eq_of_lt (by omega) (by split <;> split <;> omega),na]
     congr 1
     rcases hcase with ⟨h1,h2⟩ | ⟨h1,h2⟩
     ·simp only [h1,h2,if_true,if_false,decide_true]; omega
     ·simp only [h1,h2,if_true,if_false,decide_false,Bool.false_eq_true]; omega
    ·have h':=of_decide_eq_false h
     have hle:(if a < 0 then -a else a) ≤ (if b < 0 then -b else b):=by
      by_cases h3:(if a < 0 then -a else a) < (if b < 0 then -b else b)
      ·omega
      ·rw [if_neg h3] at h'; split at h' <;> omega
     refine aw.aQ (wB hF (bC b) (bC a) (by rw [wa,wb]; exact hle)) (aw.aQ (fA F _ (kX _)) (aw.some ?_))
     rw [wa,wb,je,Int.emod_eq_of_lt (by omega) (by split <;> split <;> omega),nb]
     congr 1
     rcases hcase with ⟨h1,h2⟩ | ⟨h1,h2⟩
     ·simp only [h1,h2,if_true,if_false,decide_false,Bool.false_eq_true]; omega
     ·simp only [h1,h2,if_true,if_false,decide_true]; omega
end Go.Proofs.YtbcdabflmkgkiaaGreatDoor
namespace Go.Sk
end Go.Sk
namespace Go.Proofs.YtbcdabflmkgkiaaGreatDoor
open Go Go.Sk
set_option maxRecDepth 100000
def FF:Nat:=13407807929942597099574024998205846127479365820592393377723561443721764030073546976801874298166903427690031858186486050853753882811946569946433649006084097
theorem FF1:100 < FF:=by decide +kernel
theorem FF2:100000 < FF:=by decide +kernel
end Go.Proofs.YtbcdabflmkgkiaaGreatDoor
namespace Go.Sk
set_option linter.unusedSimpArgs false
set_option linter.unusedVariables false
theorem wx {i j:Nat} (h:i ≤ j):(2:Int) ^ i ≤ 2 ^ j:=by
 have:=Nat.pow_le_pow_right (n:=2) (by decide) h
 exact_mod_cast this
def eI (m:Int):Int:=if m ≤ 0 then 0 else (Nat.log2 m.toNat:Int) + 1
theorem pG {m:Int} (h:0 < m):1 ≤ eI m ∧ 2 ^ ((eI m).toNat - 1) ≤ m ∧ m < 2 ^ (eI m).toNat:=by
 obtain ⟨k,rfl⟩:∃ k:Nat,m = k:=⟨m.toNat,by omega⟩
 have hk:k ≠ 0:=by omega
 have e:eI (k:Int) = (Nat.log2 k:Int) + 1:=by unfold eI; rw [if_neg (by omega),Int.toNat_natCast]
 rw [e]
 have e1:((Nat.log2 k:Int) + 1).toNat = Nat.log2 k + 1:=by omega
 rw [e1,Nat.add_sub_cancel]
 refine ⟨by omega,?_,?_⟩
 ·have:=Nat.log2_self_le hk
  exact_mod_cast this
 ·have:=@Nat.lt_log2_self k
  exact_mod_cast this
theorem yv {m n:Int} (hn:1 ≤ n) (h1:2 ^ (n.toNat - 1) ≤ m) (h2:m < 2 ^ n.toNat):eI m = n:=by
 have hm:0 < m:=Int.lt_of_lt_of_le (Int.pow_pos (by decide)) h1
 obtain ⟨k,rfl⟩:∃ k:Nat,m = k:=⟨m.toNat,by omega⟩
 have hk:k ≠ 0:=by omega
 unfold eI
 rw [if_neg (by omega),Int.toNat_natCast]
 have a1:2 ^ (n.toNat - 1) ≤ k:=by exact_mod_cast h1
 have a2:k < 2 ^ n.toNat:=by exact_mod_cast h2
 have b1:=(Nat.le_log2 hk).2 a1
 have b2:=(Nat.log2_lt hk).2 a2
 omega
theorem BQ {m:Int} (h:m ≤ 0):eI m = 0:=if_pos h
theorem oK (m:Int):0 ≤ eI m:=by unfold eI; split <;> omega
theorem pt {m:Int} {k:Nat} (h:m < 2 ^ k):eI m ≤ k:=by
 by_cases h0:m ≤ 0
 ·rw [BQ h0]; omega
 ·have h1:=pG (by omega:0 < m)
  rcases (by omega:(k:Int) < eI m ∨ eI m ≤ k) with h2 | h2
  ·have h3:(2:Int) ^ k ≤ 2 ^ ((eI m).toNat - 1):=wx (by omega)
   omega
  ·exact h2
theorem lt_blen {m:Int}:m < 2 ^ (eI m).toNat:=by
 by_cases h0:m ≤ 0
 ·have:(0:Int) < 2 ^ (eI m).toNat:=Int.pow_pos (by decide)
  omega
 ·exact (pG (by omega)).2.2
theorem wL {x v:Int} {k:Nat} (hv:x / 2 ^ k = v) (h0:0 < v):eI x = k + eI v:=by
 have hp:(0:Int) < 2 ^ k:=Int.pow_pos (by decide)
 obtain ⟨h1,h2,h3⟩:=pG h0
 have hx1:v * 2 ^ k ≤ x:=by rw [← hv]; exact Int.ediv_mul_le _ (by omega)
 have hx2:x < (v + 1) * 2 ^ k:=by rw [← hv]; exact Int.lt_ediv_add_one_mul_self _ hp
 refine yv (by omega) ?_ ?_
 ·have e:(k + eI v).toNat - 1 = ((eI v).toNat - 1) + k:=by omega
  rw [e,Int.pow_add]
  exact Int.le_trans (Int.mul_le_mul_of_nonneg_right h2 (by omega)) hx1
 ·have e:(k + eI v).toNat = (eI v).toNat + k:=by omega
  rw [e,Int.pow_add]
  exact Int.lt_of_lt_of_le hx2 (Int.mul_le_mul_of_nonneg_right (by omega) (by omega))
theorem ior_nat (x y:Nat) (hx:x < 2 ^ 64) (hy:y < 2 ^ 64):jT .u64 (x:Int) (y:Int) = ((x ||| y:Nat):Int):=by
 have h:x ||| y < 2 ^ 64:=Nat.or_lt_two_pow hx hy
 unfold jT
 have e1:(BitVec.ofInt 64 (x:Int)).toNat = x:=by simp [BitVec.toNat_ofInt]; omega
 have e2:(BitVec.ofInt 64 (y:Int)).toNat = y:=by simp [BitVec.toNat_ofInt]; omega
 show IntKind.u64.wrap ((BitVec.ofInt 64 (x:Int) ||| BitVec.ofInt 64 (y:Int)).toNat:Int) = _
 rw [BitVec.toNat_or,e1,e2,fv]
 omega
theorem nA {a b:Int} (k:Nat) (ha:0 ≤ a) (ha':a < 18446744073709551616) (hk:a % 2 ^ k = 0) (hb:0 ≤ b) (hb':b < 2 ^ k) (hb2:b < 18446744073709551616):jT .u64 a b = a + b:=by
 obtain ⟨x,rfl⟩:∃ x:Nat,a = x:=⟨a.toNat,by omega⟩
 obtain ⟨y,rfl⟩:∃ y:Nat,b = y:=⟨b.toNat,by omega⟩
 rw [ior_nat x y (by omega) (by omega)]
 have hy:y < 2 ^ k:=by exact_mod_cast hb'
 have hx:x % 2 ^ k = 0:=by exact_mod_cast hk
 have e:x = 2 ^ k * (x / 2 ^ k):=by have:=Nat.div_add_mod x (2 ^ k); omega
 rw [e,← Nat.two_pow_add_eq_or_of_lt hy]
 exact Int.natCast_add _ _
theorem DT (a b:Int):jT .u64 a b = jT .u64 b a:=by
 unfold jT
 rw [BitVec.or_comm]
theorem za {a b:Int}:av ⟨a,b,0,0,0,0,0,0,0,0,0,0,0,0,0,0⟩ = a + b * 4294967296:=by
 simp [av,ds,dg,aT.l]
theorem yU {a b:Int} (ha:0 ≤ a ∧ a < 4294967296) (hb:0 ≤ b ∧ b < 4294967296):fu 4294967296 (aT.l ⟨a,b,0,0,0,0,0,0,0,0,0,0,0,0,0,0⟩):=fun i=>by
 match i with
 | 0=>exact ha
 | 1=>exact hb
 | n + 2=>
  have:dg (aT.l ⟨a,b,0,0,0,0,0,0,0,0,0,0,0,0,0,0⟩) (n + 2) = dg (List.replicate 14 0) n:=rfl
  rw [this,ik]; decide
def BW (z:Int):Int:=if z = 0 then 0 else if z < 0 then -1 else 1
def aM (z:Int):Int:=if z < 0 then -z else z
theorem rY:18446744073709551616 < MM:=by rw [vn]; decide
end Go.Sk
namespace Go.Proofs.YtbcdabflmkgkiaaGreatDoor
open Go Go.Sk
set_option linter.unusedSimpArgs false
set_option linter.unusedVariables false
theorem Neg_y {F:Nat} (hF:100 < F) {x:cV} (hx:oS x):oV F x = some (one (fun a=>some (-a)) x):=by
 refine aw.eq ?_
 unfold oV one
 refine aw.aQ (xm hF x) ?_
 cases ha:iv x with
 | none=>simp only [fN ha,Bool.not_false,if_true]; exact aw.aQ (j7 F) (aw.some rfl)
 | some a=>
  obtain ⟨ga,rfl,ra⟩:=eF hx ha
  obtain ⟨wa,na⟩:=eV ra
  simp only [ga,Bool.not_true,Bool.false_eq_true,if_false,yD]
  refine aw.aQ (fA F _ (bC a)) (aw.some ?_)
  rw [wa,na]
  congr 1
  by_cases h:a < 0
  ·simp [h]
  ·simp [h]
theorem Abs_y {F:Nat} (hF:100 < F) {x:cV} (hx:oS x):oX F x = some (one (fun a=>some (aM a)) x):=by
 refine aw.eq ?_
 unfold oX one
 refine aw.aQ (xm hF x) ?_
 cases ha:iv x with
 | none=>simp only [fN ha,Bool.not_false,if_true]; exact aw.aQ (j7 F) (aw.some rfl)
 | some a=>
  obtain ⟨ga,rfl,ra⟩:=eF hx ha
  obtain ⟨wa,na⟩:=eV ra
  simp only [ga,Bool.not_true,Bool.false_eq_true,if_false,yD]
  refine aw.aQ (fA F _ (bC a)) (aw.some ?_)
  simp only [wa,Bool.false_eq_true,if_false]
  rfl
theorem one_in (f:Int → Option Int) (x:cV):oS (one f x):=by unfold one; split; exact Cn _; exact tV
theorem Cm (f:Int → Int → Option Int) (x y:cV):oS (two f x y):=by unfold two; split; exact Cn _; exact tV
theorem Sub_y {F:Nat} (hF:100 < F) {x y:cV} (hx:oS x) (hy:oS y):oU F x y = some (two (fun a b=>some (a - b)) x y):=by
 refine aw.eq ?_
 unfold oU
 refine aw.aQ (Neg_y hF hy) (aw.aQ (Cj hF hx (one_in _ _)) (aw.some ?_))
 unfold two
 cases hb:iv y with
 | none=>
  have:one (fun a=>some (-a)) y = bad:=by simp only [one,hb]
  rw [this,Cz]
  cases iv x <;> rfl
 | some b=>
  obtain ⟨gb,rfl,rb⟩:=eF hy hb
  rw [wz rb]
  simp only [yD]
  rw [jB (by omega)]
  cases iv x with
  | none=>rfl
  | some a=>simp only [yD,Int.sub_eq_add_neg]
theorem Df {F:Nat} (hF:100 < F) {x:cV} (hx:oS x):iB F x = some (match iv x with | some a=>BW a | none=>0):=by
 refine aw.eq ?_
 unfold iB
 refine aw.aQ (xm hF x) ?_
 cases ha:iv x with
 | none=>simp only [fN ha,Bool.not_false,Bool.true_or,if_true]; exact aw.some rfl
 | some a=>
  obtain ⟨ga,rfl,ra⟩:=eF hx ha
  obtain ⟨wa,na⟩:=eV ra
  simp only [ga,Bool.not_true,Bool.false_or,mw (bC a),wa,na]
  refine aw.ite (fun h=>?_) (fun h=>?_)
  ·have h':=of_decide_eq_true h
   have:a = 0:=by split at h' <;> omega
   subst this
   exact aw.some rfl
  ·have h':=of_decide_eq_false h
   have h0:a ≠ 0:=fun e=>h' (by rw [e]; rfl)
   unfold BW
   refine aw.ite (fun h=>?_) (fun h=>?_)
   ·have:=of_decide_eq_true h; exact aw.some (by rw [if_neg h0,if_pos this])
   ·have:=of_decide_eq_false h; exact aw.some (by rw [if_neg h0,if_neg this])
end Go.Proofs.YtbcdabflmkgkiaaGreatDoor
namespace Go.Sk
set_option linter.unusedSimpArgs false
set_option linter.unusedVariables false
def len8:Str:=[0,1,2,2,3,3,3,3,4,4,4,4,4,4,4,4,5,5,5,5,5,5,5,5,5,5,5,5,5,5,5,5,6,6,6,6,6,6,6,6,6,6,6,6,6,6,6,6,6,6,6,6,6,6,6,6,6,6,6,6,6,6,6,6,7,7,7,7,7,7,7,7,7,7,7,7,7,7,7,7,7,7,7,7,7,7,7,7,7,7,7,7,7,7,7,7,7,7,7,7,7,7,7,7,7,7,7,7,7,7,7,7,7,7,7,7,7,7,7,7,7,7,7,7,7,7,7,7,8,8,8,8,8,8,8,8,8,8,8,8,8,8,8,8,8,8,8,8,8,8,8,8,8,8,8,8,8,8,8,8,8,8,8,8,8,8,8,8,8,8,8,8,8,8,8,8,8,8,8,8,8,8,8,8,8,8,8,8,8,8,8,8,8,8,8,8,8,8,8,8,8,8,8,8,8,8,8,8,8,8,8,8,8,8,8,8,8,8,8,8,8,8,8,8,8,8,8,8,8,8,8,8,8,8,8,8,8,8,8,8,8,8,8,8,8,8,8,8,8,8,8,8,8,8,8,8]
theorem DQ:∀ v:_root_.Fin 256,((len8.getD v.val 0).toNat:Int) = eI v.val:=by decide +kernel
theorem len8_at {v:Int} (h0:0 ≤ v) (h1:v < 256):((idx len8 v).toNat:Int) = eI v:=by
 obtain ⟨k,rfl⟩:∃ k:Nat,v = k:=⟨v.toNat,by omega⟩
 exact DQ ⟨k,by omega⟩
theorem DP:len8.length = 256:=by decide +kernel
theorem p8:(2:Int) ^ 8 = 256:=by decide
theorem zL:(2:Int) ^ 32 = 4294967296:=by decide
theorem p64:(2:Int) ^ 64 = 18446744073709551616:=by decide
theorem pow32 (m:Nat):(4294967296:Int) ^ m = 2 ^ (32 * m):=by rw [Int.pow_mul]; rfl
theorem gu.fI {w:gu} {i x:Int} (h0:0 ≤ i) (h1:i < 32) (j:Nat):dg (w.set i x).l j = if j = i.toNat then x else dg w.l j:=by
 rw [gu.jz,wj (by rw [gu.cc]; omega)]
theorem gu.rW {b:Int} {w:gu} {k:Nat} {x:Int} (h:k < 32):ds b (dg (w.set (k:Int) x).l) (k + 1) = ds b (dg w.l) k + x * b ^ k:=C4 fun i=>by rw [gu.fI (by omega) (by omega),Int.toNat_natCast]
theorem gu.jA {w:gu} {i x:Int} (h:fu 4294967296 w.l) (h0:0 ≤ i) (h1:i < 32) (hx:0 ≤ x ∧ x < 4294967296):fu 4294967296 (w.set i x).l:=fun j=>by
 rw [gu.fI h0 h1]
 split
 ·exact hx
 ·exact h j
theorem gu.jV:fu 4294967296 gu.zero.l:=fun i=>by
 have:gu.zero.l = List.replicate 32 0:=rfl
 rw [this,ik]; decide
theorem gu.z7 (i:Nat):dg gu.zero.l i = 0:=by
 have:gu.zero.l = List.replicate 32 0:=rfl
 rw [this,ik]
theorem pD {a b m:Int} (ha:0 ≤ a ∧ a < m) (hb:0 ≤ b ∧ b < m):0 ≤ a * b ∧ a * b ≤ (m - 1) * (m - 1):=⟨Int.mul_nonneg ha.1 hb.1,Int.mul_le_mul (by omega) (by omega) hb.1 (by omega)⟩
theorem DK {b O0 O c x c' ai bk ok V:Int} {i k:Nat} (h:O + c * b ^ (i + k) = O0 + ai * b ^ i * V) (e:c + ai * bk + ok = x + c' * b):(O + x * b ^ (i + k)) + c' * b ^ (i + k + 1) = (O0 + ok * b ^ (i + k)) + ai * b ^ i * (V + bk * b ^ k):=by
 rw [Int.pow_succ]
 have e1:b ^ (i + k) = b ^ i * b ^ k:=Int.pow_add _ _ _
 rw [e1] at *
 grind
end Go.Sk
namespace Go.Proofs.YtbcdabflmkgkiaaGreatDoor
open Go Go.Sk
set_option linter.unusedSimpArgs false
set_option linter.unusedVariables false
theorem AM (F:Nat) {x:Int} (h0:0 ≤ x) (h1:x < 4294967296):il F x = some (eI x):=by
 refine aw.eq ?_
 unfold il
 refine aw.bind (P:=fun r=>0 ≤ r.1 ∧ r.1 < 65536 ∧ 0 ≤ r.2 ∧ r.2 ≤ 16 ∧ eI x = r.2 + eI r.1) ?_ ?_
 ·refine aw.ite (fun h=>?_) (fun h=>?_)
  ·have:=of_decide_eq_true h
   refine aw.some ⟨by omega,by omega,by omega,by omega,?_⟩
   exact wL (k:=16) rfl (by omega)
  ·have:=of_decide_eq_false h
   exact aw.some ⟨by omega,by omega,by omega,by omega,by dsimp only; omega⟩
 ·rintro ⟨y,n⟩ ⟨y0,y1,n0,n1,e⟩
  dsimp only at y0 y1 n0 n1 e
  refine aw.bind (P:=fun r=>0 ≤ r.1 ∧ r.1 < 256 ∧ 0 ≤ r.2 ∧ r.2 ≤ 24 ∧ eI x = r.2 + eI r.1) ?_ ?_
  ·refine aw.ite (fun h=>?_) (fun h=>?_)
   ·have:=of_decide_eq_true h
    have e2:=wL (x:=y) (v:=y / 256) (k:=8) rfl (by omega)
    refine aw.some ⟨by omega,by omega,?_,?_,?_⟩ <;> dsimp only <;> rw [gm] <;> omega
   ·have:=of_decide_eq_false h
    exact aw.some ⟨by omega,by omega,by omega,by omega,by dsimp only; omega⟩
  ·rintro ⟨z,m⟩ ⟨z0,z1,m0,m1,e2⟩
   dsimp only at z0 z1 m0 m1 e2
   have hw:IntKind.u8.wrap z = z:=by rw [wu8]; omega
   dsimp only [cF]
   rw [hw]
   refine aw.idx (l:=len8) z0 (by rw [DP]; omega) (aw.ln (aw.some ?_))
   rw [len8_at z0 z1]
   have hb:=pt (m:=z) (k:=8) (by rw [p8]; omega)
   have hb0:=oK z
   rw [n2 (z:=eI z) (by omega) (by omega),gm] 
   omega
theorem D9 {m:Nat} {v:Int} (hm:m ≤ 15) (h0:0 ≤ v) (h1:v ≤ ((32:Nat):Int)):IntKind.i64.wrap (IntKind.i64.wrap (32 * (m:Int)) + v) = ((32 * m:Nat):Int) + v:=by
 simp only [gm]
 omega
theorem Bits_y {F:Nat} (hF:100 < F) {x:cV} (hx:oS x):oy F x = some (match iv x with | some a=>eI (aM a) | none=>0):=by
 refine aw.eq ?_
 unfold oy
 refine aw.bind (qe hF) fun n hn=>?_
 obtain ⟨n0,n1,nz,nt⟩:=hn
 refine aw.aQ (xm hF x) ?_
 cases ha:iv x with
 | none=>simp only [fN ha,Bool.not_false,Bool.true_or,if_true]; exact aw.some rfl
 | some a=>
  obtain ⟨ga,rfl,ra⟩:=eF hx ha
  obtain ⟨wa,na⟩:=eV ra
  have hval:aM a = ds 4294967296 (dg (df a).W.l) n.toNat:=by
   have h1:aM a = av (df a).W:=by rw [wa]; rfl
   rw [h1]
   exact nf (by omega) nz
  simp only [ga,Bool.not_true,Bool.false_or]
  refine aw.ite (fun h=>?_) (fun h=>?_)
  ·have h':=of_decide_eq_true h
   subst h'
   refine aw.some ?_
   rw [hval]; rfl
  ·have h':=of_decide_eq_false h
   have hm:n.toNat = (n.toNat - 1) + 1:=by omega
   have hw:IntKind.i64.wrap (n - 1) = ((n.toNat - 1:Nat):Int):=by rw [gm]; omega
   rw [hw]
   have hd:=bC a (n.toNat - 1)
   have hd0:=nt (by omega)
   refine aw.ln (aw.idx (by omega) (by rw [aT.cc]; omega) ?_)
   rw [fL,Int.toNat_natCast]
   refine aw.aQ (AM F hd.1 hd.2) (aw.some ?_)
   have hb:=pt (m:=dg (df a).W.l (n.toNat - 1)) (k:=32) (by rw [zL]; omega)
   have hb0:=oK (dg (df a).W.l (n.toNat - 1))
   have key:eI (aM a) = ((32 * (n.toNat - 1):Nat):Int) + eI (dg (df a).W.l (n.toNat - 1)):=by
    refine wL ?_ (by omega)
    have hp:(0:Int) < 2 ^ (32 * (n.toNat - 1)):=Int.pow_pos (by decide)
    have hlo:=qE (b:=4294967296) (by decide) (f:=dg (df a).W.l) (n:=n.toNat - 1) fun i _=>bC a i
    have hlo0:=hH (b:=4294967296) (by decide) (f:=dg (df a).W.l) (n:=n.toNat - 1) fun i _=>(bC a i).1
    rw [hval,hm,gW,pow32,Nat.add_sub_cancel]
    rw [pow32] at hlo
    rw [Int.add_mul_ediv_right _ _ (by omega),Int.ediv_eq_zero_of_lt hlo0 hlo,Int.zero_add]
   show IntKind.i64.wrap (IntKind.i64.wrap (32 * ((n.toNat - 1:Nat):Int)) + eI (dg (df a).W.l (n.toNat - 1))) = eI (aM a)
   rw [key]
   exact D9 (by omega) hb0 hb
theorem yN (F:Nat) {n:Int} (h0:-9223372036854775808 ≤ n) (h1:n ≤ 9223372036854775807):iL F n = some (df n):=by
 refine aw.eq ?_
 unfold iL
 refine aw.bind (P:=fun u=>u = aM n) ?_ ?_
 ·unfold aM
  refine aw.ite (fun h=>?_) (fun h=>?_)
  ·have:=of_decide_eq_true h
   refine aw.ln (aw.some ?_)
   rw [if_pos this]
   simp only [fv]; omega
  ·have:=of_decide_eq_false h
   refine aw.some ?_
   rw [if_neg this]
   simp only [fv]; omega
 ·rintro u rfl
  have hu:0 ≤ aM n ∧ aM n ≤ 9223372036854775808:=by unfold aM; split <;> omega
  refine aw.ln ?_
  refine aw.aQ (fA F _ (yU (by simp only [l6]; omega) (by simp only [l6]; omega))) (aw.some ?_)
  rw [za]
  simp only [l6]
  congr 1
  unfold aM at *
  by_cases h:n < 0
  ·simp only [h,decide_true,if_true] at *; omega
  ·simp only [h,decide_false,Bool.false_eq_true,if_false] at *; omega
theorem Bg {w:aT} (h:fu 4294967296 w.l) (hv:av w < 18446744073709551616):w.a0 + w.a1 * 4294967296 = av w:=by
 have e:=lf 4294967296 (dg w.l) 2 14
 have h2:ds 4294967296 (dg w.l) 2 = w.a0 + w.a1 * 4294967296:=by simp [ds,dg,aT.l]
 have h3:=hH (b:=4294967296) (by decide) (f:=fun i=>dg w.l (2 + i)) (n:=14) fun i _=>(h (2 + i)).1
 have a0:=h 0
 have a1:=h 1
 have e0:dg w.l 0 = w.a0:=rfl
 have e1:dg w.l 1 = w.a1:=rfl
 rw [e0] at a0
 rw [e1] at a1
 have hav:av w = ds 4294967296 (dg w.l) (2 + 14):=rfl
 rw [hav] at hv ⊢
 rw [e,h2] at hv ⊢
 have hp:(4294967296:Int) ^ 2 = 18446744073709551616:=by decide
 rw [hp] at hv ⊢
 omega
theorem AL {F:Nat} (hF:100 < F) {x:cV} (hx:oS x):iS F x = some (match iv x with | some a=>if -9223372036854775808 ≤ a ∧ a ≤ 9223372036854775807 then (a,true) else (0,false) | none=>(0,false)):=by
 refine aw.eq ?_
 unfold iS
 refine aw.aQ (xm hF x) ?_
 cases ha:iv x with
 | none=>
  simp only [fN ha]
  exact aw.g0 (by rfl) (aw.yz (by rfl) (aw.some rfl))
 | some a=>
  obtain ⟨ga,rfl,ra⟩:=eF hx ha
  obtain ⟨wa,na⟩:=eV ra
  simp only [ga]
  refine aw.g1 (by rfl) (aw.aQ (Bits_y hF (bC a)) ?_)
  rw [jB ra]
  simp only [Bool.not_true,Bool.false_or]
  refine aw.ite (fun h=>?_) (fun h=>?_)
  ·have h':=of_decide_eq_true h
   refine aw.some ?_
   rw [if_neg]
   intro hh
   have:=pt (m:=aM a) (k:=64) (by rw [p64]; unfold aM; split <;> omega)
   omega
  ·have h':=of_decide_eq_false h
   have hlt:aM a < 18446744073709551616:=by
    have h2:=lt_blen (m:=aM a)
    have h3:(2:Int) ^ (eI (aM a)).toNat ≤ 2 ^ 64:=wx (by omega)
    rw [p64] at h3
    omega
   have hs:=Bg (bC a) (by rw [wa]; exact hlt)
   rw [wa] at hs
   have b0:=bC a 0
   have b1:=bC a 1
   have e0:dg (df a).W.l 0 = (df a).W.a0:=rfl
   have e1:dg (df a).W.l 1 = (df a).W.a1:=rfl
   rw [e0] at b0
   rw [e1] at b1
   have habs:aM a = if a < 0 then -a else a:=rfl
   rw [← habs] at hs
   have habs0:0 ≤ aM a:=by unfold aM; split <;> omega
   refine aw.zM ((df a).W.a1 * 4294967296) (by simp only [fv]; omega) (aw.zM (aM a) ?_ ?_)
   ·have e2:IntKind.u64.wrap (df a).W.a0 = (df a).W.a0:=by rw [fv]; omega
    rw [e2,nA 32 (by omega) (by omega) (by rw [zL]; omega) b0.1 (by rw [zL]; omega) (by omega)]
    omega
   ·rw [na]
    refine aw.ite (fun h=>?_) (fun h=>?_)
    ·simp only [Bool.and_eq_true,decide_eq_true_eq] at h
     rw [if_pos h.1] at habs
     refine aw.ln (aw.some ?_)
     rw [if_pos (by omega)]
     simp only [fv,gm]
     congr 1
     omega
    ·refine aw.ite (fun h2=>?_) (fun h2=>?_)
     ·simp only [Bool.and_eq_true,Bool.not_eq_true',decide_eq_true_eq,decide_eq_false_iff_not] at h2
      rw [if_neg h2.1] at habs
      refine aw.some ?_
      rw [if_pos (by omega),gm]
      congr 1
      omega
     ·refine aw.some ?_
      rw [if_neg]
      intro hh
      by_cases h3:a < 0
      ·rw [if_pos h3] at habs
       simp only [h3,decide_true,Bool.true_and,decide_eq_false_iff_not] at h
       omega
      ·rw [if_neg h3] at habs
       simp only [h3,decide_false,Bool.not_false,Bool.true_and,decide_eq_false_iff_not] at h2
       omega
end Go.Proofs.YtbcdabflmkgkiaaGreatDoor
namespace Go.Sk
set_option linter.unusedSimpArgs false
set_option linter.unusedVariables false
theorem mulfin {c ai bk ok:Int} (h1:0 ≤ c ∧ c < 4294967296) (h2:0 ≤ ai * bk ∧ ai * bk ≤ 18446744065119617025) (h3:0 ≤ ok ∧ ok < 4294967296) (ha:0 ≤ ai ∧ ai < 4294967296) (hb:0 ≤ bk ∧ bk < 4294967296) :
  IntKind.u64.wrap (c + IntKind.u64.wrap (IntKind.u64.wrap (IntKind.u64.wrap ai * IntKind.u64.wrap bk) + IntKind.u64.wrap ok)) = c + ai * bk + ok:=by
 have e1:IntKind.u64.wrap ai = ai:=by rw [fv]; omega
 have e2:IntKind.u64.wrap bk = bk:=by rw [fv]; omega
 rw [e1,e2]
 generalize ai * bk = p at *
 simp only [fv]
 omega
def B4 (o:gu):aT:=⟨o.a0,o.a1,o.a2,o.a3,o.a4,o.a5,o.a6,o.a7,o.a8,o.a9,o.a10,o.a11,o.a12,o.a13,o.a14,o.a15⟩
def vW (o:gu):aT:=⟨o.zN,o.a17,o.a18,o.a19,o.a20,o.a21,o.a22,o.a23,o.a24,o.a25,o.a26,o.a27,o.a28,o.a29,o.a30,o.a31⟩
theorem Cx (o:gu):(B4 o).l = o.l.take 16:=rfl
theorem CC (o:gu):(vW o).l = o.l.drop 16:=rfl
theorem Am {o:gu} (h:fu 4294967296 o.l):fu 4294967296 (B4 o).l:=fun i=>by
 rw [Cx,tv]; split
 ·exact h i
 ·decide
theorem Ao {o:gu} (h:fu 4294967296 o.l):fu 4294967296 (vW o).l:=fun i=>by
 rw [CC,AG]; exact h _
theorem halves (o:gu):ds 4294967296 (dg o.l) 32 = av (B4 o) + MM * av (vW o):=by
 rw [show (32:Nat) = 16 + 16 from rfl,lf]
 have e1:ds 4294967296 (dg o.l) 16 = av (B4 o):=fB fun i hi=>by rw [Cx,tv,if_pos hi]
 have e2:ds 4294967296 (fun i=>dg o.l (16 + i)) 16 = av (vW o):=fB fun i _=>by rw [CC,AG]
 rw [e1,e2]
 rfl
theorem q8 (a b:Int):aM (a * b) = aM a * aM b:=by
 unfold aM
 by_cases ha:a < 0
 ·by_cases hb:b < 0
  ·rw [if_pos ha,if_pos hb,if_neg (by have:=Int.mul_pos_of_neg_of_neg ha hb; omega),Int.neg_mul_neg]
  ·rw [if_pos ha,if_neg hb]
   have:=Int.mul_nonpos_of_nonpos_of_nonneg (Int.le_of_lt ha) (by omega:0 ≤ b)
   by_cases h0:a * b < 0
   ·rw [if_pos h0,Int.neg_mul]
   ·rw [if_neg h0,Int.neg_mul]; omega
 ·by_cases hb:b < 0
  ·rw [if_neg ha,if_pos hb]
   have:=Int.mul_nonpos_of_nonneg_of_nonpos (by omega:0 ≤ a) (Int.le_of_lt hb)
   by_cases h0:a * b < 0
   ·rw [if_pos h0,Int.mul_neg]
   ·rw [if_neg h0,Int.mul_neg]; omega
  ·rw [if_neg ha,if_neg hb,if_neg (by have:=Int.mul_nonneg (by omega:0 ≤ a) (by omega:0 ≤ b); omega)]
theorem sgn_mul {a b:Int} (h:(decide (a < 0) != decide (b < 0)) = true):a * b = -(aM a * aM b):=by
 rw [← q8]
 unfold aM
 by_cases ha:a < 0
 ·have hb:¬ b < 0:=fun hb=>by simp [ha,hb] at h
  have:=Int.mul_nonpos_of_nonpos_of_nonneg (Int.le_of_lt ha) (by omega:0 ≤ b)
  split <;> omega
 ·by_cases hb:b < 0
  ·have:=Int.mul_nonpos_of_nonneg_of_nonpos (by omega:0 ≤ a) (Int.le_of_lt hb)
   split <;> omega
  ·simp [ha,hb] at h
theorem Ds {a b:Int} (h:(decide (a < 0) != decide (b < 0)) = false):a * b = aM a * aM b:=by
 rw [← q8]
 unfold aM
 by_cases ha:a < 0
 ·by_cases hb:b < 0
  ·have:=Int.mul_pos_of_neg_of_neg ha hb
   rw [if_neg (by omega)]
  ·simp [ha,hb] at h
 ·have hb:¬ b < 0:=fun hb=>by simp [ha,hb] at h
  have:=Int.mul_nonneg (by omega:0 ≤ a) (by omega:0 ≤ b)
  rw [if_neg (by omega)]
theorem tx {a:Int} (h:-MM < a ∧ a < MM):0 ≤ aM a ∧ aM a < MM:=by unfold aM; split <;> omega
theorem absZ_in {a:Int}:(-MM < a ∧ a < MM) ↔ aM a < MM:=by unfold aM; split <;> omega
end Go.Sk
namespace Go.Proofs.YtbcdabflmkgkiaaGreatDoor
open Go Go.Sk
set_option linter.unusedSimpArgs false
set_option linter.unusedVariables false
theorem Mul_y {F:Nat} (hF:100 < F) {x y:cV} (hx:oS x) (hy:oS y):jg F x y = some (two (fun a b=>some (a * b)) x y):=by
  refine aw.eq ?_
  unfold jg two
  refine aw.aQ (zV hF x y) ?_
  cases ha:iv x with
  | none=>simp only [fN ha,Bool.false_and,Bool.not_false,if_true]; exact aw.aQ (j7 F) (aw.some rfl)
  | some a=>
    cases hb:iv y with
    | none=>simp only [fN hb,Bool.and_false,Bool.not_false,if_true]; exact aw.aQ (j7 F) (aw.some rfl)
    | some b=>
      obtain ⟨ga,rfl,ra⟩:=eF hx ha
      obtain ⟨gb,rfl,rb⟩:=eF hy hb
      obtain ⟨wa,na⟩:=eV ra
      obtain ⟨wb,nb⟩:=eV rb
      have ia:fu 4294967296 (df a).W.l:=bC a
      have ib:fu 4294967296 (df b).W.l:=bC b
      have habs:av (df a).W = aM a:=wa
      have hbbs:av (df b).W = aM b:=wb
      clear wa wb ha hb hx hy
      simp only [ga,gb,Bool.and_self,Bool.not_true,Bool.false_eq_true,if_false,yD,na,nb]
      generalize (df a).W = A at *
      generalize (df b).W = B at *
      refine aw.bind (qe hF) fun n hn=>aw.bind (qe hF) fun m hm=>?_
      obtain ⟨n0,n1,nz,_⟩:=hn
      obtain ⟨m0,m1,mz,_⟩:=hm
      obtain ⟨N,rfl⟩:∃ N:Nat,n = N:=⟨n.toNat,by omega⟩
      obtain ⟨M,rfl⟩:∃ M:Nat,m = M:=⟨m.toNat,by omega⟩
      simp only [Int.toNat_natCast] at nz mz
      have hA:aM a = ds 4294967296 (dg A.l) N:=by rw [← habs]; exact nf (by omega) nz
      have hB:aM b = ds 4294967296 (dg B.l) M:=by rw [← hbbs]; exact nf (by omega) mz
      refine aw.bind (P:=fun out=>fu 4294967296 out.l ∧ ds 4294967296 (dg out.l) 32 = aM a * aM b) (aw.rounds N (fun i s=>s.2 = (i:Int) ∧ fu 4294967296 s.1.l ∧ (∀ j,i + M ≤ j → dg s.1.l j = 0) ∧ ds 4294967296 (dg s.1.l) (i + M) = ds 4294967296 (dg A.l) i * aM b) (by omega) ⟨rfl,gu.jV,fun j _=>gu.z7 j,?_⟩ ?_) ?_
      · show ds 4294967296 (dg gu.zero.l) (0 + M) = 0 * aM b
        rw [Int.zero_mul]
        exact tt fun j _=>gu.z7 j
      · rintro i ⟨o0,ix⟩ hi ⟨rfl,oin,oz,os⟩
        dsimp only at oin oz os
        dsimp only [cF]
        refine aw.ite (fun h=>?_) (fun h=>?_)
        · have hi':i < N:=by have:=of_decide_eq_true h; omega
          have hai:=ia i
          refine aw.bind (P:=fun o1=>fu 4294967296 o1.l ∧ (∀ j,i + 1 + M ≤ j → dg o1.l j = 0) ∧ ds 4294967296 (dg o1.l) (i + 1 + M) = ds 4294967296 (dg A.l) (i + 1) * aM b) ?_ ?_
          · refine aw.bind (P:=fun r=>fu 4294967296 r.1.l ∧ 0 ≤ r.2 ∧ r.2 < 4294967296 ∧ (∀ j,i + M ≤ j → dg r.1.l j = dg o0.l j) ∧ ds 4294967296 (dg r.1.l) (i + M) + r.2 * 4294967296 ^ (i + M) = ds 4294967296 (dg o0.l) (i + M) + dg A.l i * 4294967296 ^ i * ds 4294967296 (dg B.l) M)
              (aw.rounds M (fun k s=>s.2.2 = (k:Int) ∧ fu 4294967296 s.1.l ∧ 0 ≤ s.2.1 ∧ s.2.1 < 4294967296 ∧ (∀ j,i + k ≤ j → dg s.1.l j = dg o0.l j) ∧ ds 4294967296 (dg s.1.l) (i + k) + s.2.1 * 4294967296 ^ (i + k) = ds 4294967296 (dg o0.l) (i + k) + dg A.l i * 4294967296 ^ i * ds 4294967296 (dg B.l) k) (by omega) ⟨rfl,oin,Int.le_refl _,(by decide:(0:Int) < 4294967296),fun _ _=>rfl,?_⟩ ?_) ?_
            · show ds 4294967296 (dg o0.l) (i + 0) + 0 * 4294967296 ^ (i + 0) = ds 4294967296 (dg o0.l) (i + 0) + dg A.l i * 4294967296 ^ i * 0
              rw [Int.zero_mul,Int.mul_zero]
            · rintro k ⟨o,c,kx⟩ hk ⟨rfl,pin,c0,c1,pk,ps⟩
              dsimp only at pin c0 c1 pk ps
              dsimp only [kr]
              refine aw.ite (fun h2=>?_) (fun h2=>?_)
              · have hk':k < M:=by have:=of_decide_eq_true h2; omega
                have hw:IntKind.i64.wrap ((i:Int) + (k:Int)) = ((i + k:Nat):Int):=by rw [gm]; omega
                have hbk:=ib k
                have hok:=pin (i + k)
                rw [hw]
                have hmb:=pD hai hbk
                have hfin:=mulfin ⟨c0,c1⟩ (by have e:((4294967296:Int) - 1) * (4294967296 - 1) = 18446744065119617025:=by decide
                                              rw [e] at hmb; exact hmb) hok hai hbk
                have hlt:c + dg A.l i * dg B.l k + dg o.l (i + k) ≤ 18446744073709551615:=by
                  have e:((4294967296:Int) - 1) * (4294967296 - 1) = 18446744065119617025:=by decide
                  rw [e] at hmb
                  omega
                refine aw.idx (by omega) (by rw [aT.cc]; omega) (aw.idx (by omega) (by rw [aT.cc]; omega) (aw.idx (by omega) (by rw [gu.cc]; omega) (aw.ln (aw.idx (by omega) (by rw [gu.cc]; omega) (aw.ln (aw.some (.inl ⟨_,rfl,?_,hk'⟩)))))))
                simp only [fL,Int.toNat_natCast]
                rw [hfin]
                generalize hp:dg A.l i * dg B.l k = p at *
                have hmb0:=hmb.1
                clear hfin hmb
                refine ⟨by rw [gm]; omega,gu.jA pin (by omega) (by omega) (by rw [l6]; omega),by omega,by omega,fun j hj=>?_,?_⟩
                · rw [gu.fI (by omega) (by omega),Int.toNat_natCast,if_neg (by omega)]
                  exact pk j (by omega)
                · have hok0:=pk (i + k) (Nat.le_refl _)
                  show ds 4294967296 (dg (gu.set o ((i + k:Nat):Int) _).l) (i + k + 1) + _ * 4294967296 ^ (i + k + 1) = ds 4294967296 (dg o0.l) (i + k + 1) + dg A.l i * 4294967296 ^ i * ds 4294967296 (dg B.l) (k + 1)
                  rw [gu.rW (by omega),gW 4294967296 (dg o0.l),gW 4294967296 (dg B.l),← hok0]
                  refine DK ps ?_
                  rw [hp,l6]
                  omega
              · have hk':k = M:=by have:=of_decide_eq_false h2; omega
                subst hk'
                exact aw.some (.inr ⟨_,rfl,pin,c0,c1,pk,ps⟩)
            · rintro ⟨o,c⟩ ⟨pin,c0,c1,pk,ps⟩
              dsimp only at pin c0 c1 pk ps
              dsimp only [cF]
              have hw:IntKind.i64.wrap ((i:Int) + (M:Int)) = ((i + M:Nat):Int):=by rw [gm]; omega
              rw [hw]
              refine aw.idx (by omega) (by rw [gu.cc]; omega) (aw.some ?_)
              have hwc:IntKind.u32.wrap c = c:=by rw [l6]; omega
              rw [hwc]
              refine ⟨gu.jA pin (by omega) (by omega) ⟨c0,c1⟩,fun j hj=>?_,?_⟩
              · rw [gu.fI (by omega) (by omega),Int.toNat_natCast,if_neg (by omega),pk j (by omega),oz j (by omega)]
              · have e:i + 1 + M = i + M + 1:=by omega
                rw [e,gu.rW (by omega),ps,os,gW,← hB,Int.add_mul]
          · rintro o1 ⟨h1,h2,h3⟩
            exact aw.some (.inl ⟨_,rfl,⟨by rw [gm]; omega,h1,h2,h3⟩,hi'⟩)
        · have hi':i = N:=by have:=of_decide_eq_false h; omega
          subst hi'
          refine aw.some (.inr ⟨_,rfl,oin,?_⟩)
          rw [hA,← os]
          exact nf (by omega) fun j h1 _=>oz j h1
      · rintro out ⟨oin,os⟩
        rw [halves] at os
        have rl:=eZ (Am oin)
        have rh:=eZ (Ao oin)
        refine aw.ln ?_
        show aw (if decide (vW out ≠ aT.zero) = true then _ else _) _
        refine aw.ite (fun h=>?_) (fun h=>?_)
        · have h':=of_decide_eq_true h
          have h1:av (vW out) ≠ 0:=fun e=>h' ((mw (Ao oin)).2 e)
          refine aw.aQ (j7 F) (aw.some ?_)
          refine (nD ?_).symm
          rw [absZ_in,q8,← os]
          have h2:MM * 1 ≤ MM * av (vW out):=Int.mul_le_mul_of_nonneg_left (by omega) (Int.le_of_lt wq)
          omega
        · have h':vW out = aT.zero:=by simpa using h
          have h1:av (vW out) = 0:=by rw [h',tw]
          rw [h1,Int.mul_zero,Int.add_zero] at os
          show aw (Option.bind (cH F (decide (a < 0) != decide (b < 0)) (B4 out)) _) _
          refine aw.aQ (fA F _ (Am oin)) (aw.some ?_)
          rw [os]
          congr 1
          cases hs:(decide (a < 0) != decide (b < 0)) with
          | true=>rw [if_pos rfl,sgn_mul hs]
          | false=>rw [if_neg (by simp),Ds hs]
end Go.Proofs.YtbcdabflmkgkiaaGreatDoor
namespace Go.Sk
set_option linter.unusedSimpArgs false
set_option linter.unusedVariables false
end Go.Sk
namespace Go.Proofs.YtbcdabflmkgkiaaGreatDoor
open Go Go.Sk
set_option linter.unusedSimpArgs false
set_option linter.unusedVariables false
end Go.Proofs.YtbcdabflmkgkiaaGreatDoor
namespace Go.Sk
set_option linter.unusedSimpArgs false
set_option linter.unusedVariables false
end Go.Sk
namespace Go.Proofs.YtbcdabflmkgkiaaGreatDoor
open Go Go.Sk
set_option linter.unusedSimpArgs false
set_option linter.unusedVariables false
end Go.Proofs.YtbcdabflmkgkiaaGreatDoor
namespace Go.Sk
set_option linter.unusedSimpArgs false
set_option linter.unusedVariables false
end Go.Sk
namespace Go.Proofs.YtbcdabflmkgkiaaGreatDoor
open Go Go.Sk
set_option linter.unusedSimpArgs false
set_option linter.unusedVariables false
end Go.Proofs.YtbcdabflmkgkiaaGreatDoor
namespace Go.Sk
set_option linter.unusedSimpArgs false
set_option linter.unusedVariables false
end Go.Sk
namespace Go.Proofs.YtbcdabflmkgkiaaGreatDoor
open Go Go.Sk
set_option linter.unusedSimpArgs false
set_option linter.unusedVariables false
end Go.Proofs.YtbcdabflmkgkiaaGreatDoor
namespace Go.Sk
set_option linter.unusedSimpArgs false
set_option linter.unusedVariables false
end Go.Sk
namespace Go.Proofs.YtbcdabflmkgkiaaGreatDoor
open Go Go.Sk
set_option linter.unusedSimpArgs false
set_option linter.unusedVariables false
end Go.Proofs.YtbcdabflmkgkiaaGreatDoor
namespace Go.Sk
set_option linter.unusedSimpArgs false
set_option linter.unusedVariables false
end Go.Sk
namespace Go.Proofs.YtbcdabflmkgkiaaGreatDoor
open Go Go.Sk
set_option linter.unusedSimpArgs false
set_option linter.unusedVariables false
end Go.Proofs.YtbcdabflmkgkiaaGreatDoor
namespace Go.Sk
set_option linter.unusedSimpArgs false
set_option linter.unusedVariables false
def fq (a b:Int):Int:=if decide (a < 0) != decide (b < 0) then -(aM a / aM b + if aM a % aM b = 0 then 0 else 1) else aM a / aM b
def fr (a b:Int):Int :=
 let r:=aM a % aM b
 let r':=if (decide (a < 0) != decide (b < 0)) && !decide (r = 0) then aM b - r else r
 if b < 0 then -r' else r'
def B3 (a b:Int):Option Int:=if b = 0 then none else some (fq a b)
def remO (a b:Int):Option Int:=if b = 0 then none else some (fr a b)
theorem lg {b:Int} (h:b ≠ 0):0 < aM b:=by unfold aM; split <;> omega
theorem iV (b:Int):0 ≤ aM b:=by unfold aM; split <;> omega
theorem fq_fr {a b:Int} (h:b ≠ 0):a = b * fq a b + fr a b:=by
 have hp:=lg h
 have hd:=Int.mul_ediv_add_emod (aM a) (aM b)
 have h0:=Int.emod_nonneg (aM a) (show aM b ≠ 0 by omega)
 unfold fq fr
 dsimp only
 generalize aM a / aM b = q at *
 generalize aM a % aM b = r at *
 by_cases ha:a < 0
 ·have ea:aM a = -a:=if_pos ha
  by_cases hb:b < 0
  ·have eb:aM b = -b:=if_pos hb
   simp only [ha,hb,decide_true,bne_self_eq_false,Bool.false_eq_true,if_false,Bool.false_and,if_true]
   rw [ea,eb] at hd
   grind
  ·have eb:aM b = b:=if_neg hb
   have hx:(true != false) = true:=rfl
   simp only [ha,hb,decide_true,decide_false,hx,if_true,Bool.true_and,if_false]
   rw [ea,eb] at hd
   by_cases hr:r = 0
   ·subst hr; simp; grind
   ·simp [hr]; grind
 ·have ea:aM a = a:=if_neg ha
  by_cases hb:b < 0
  ·have eb:aM b = -b:=if_pos hb
   have hx:(false != true) = true:=rfl
   simp only [ha,hb,decide_true,decide_false,hx,if_true,Bool.true_and]
   rw [ea,eb] at hd
   by_cases hr:r = 0
   ·subst hr; simp; grind
   ·simp [hr]; grind
  ·have eb:aM b = b:=if_neg hb
   simp only [ha,hb,decide_false,bne_self_eq_false,Bool.false_eq_true,if_false,Bool.false_and]
   rw [ea,eb] at hd
   omega
theorem xH {a b:Int} (h:b ≠ 0):aM (fr a b) < aM b ∧ (fr a b = 0 ∨ (decide (fr a b < 0) = decide (b < 0))):=by
 have hp:=lg h
 have h0:=Int.emod_nonneg (aM a) (show aM b ≠ 0 by omega)
 have h1:=Int.emod_lt_of_pos (aM a) hp
 unfold fr
 dsimp only
 generalize aM a % aM b = r at *
 have h2:∀ r',0 ≤ r' → r' < aM b → aM (if b < 0 then -r' else r') < aM b ∧ ((if b < 0 then -r' else r') = 0 ∨ decide ((if b < 0 then -r' else r') < 0) = decide (b < 0)):=fun r' g0 g1=>by
  by_cases hb:b < 0
  ·simp only [hb,if_true]
   refine ⟨by unfold aM at *; split <;> omega,?_⟩
   rcases (by omega:r' = 0 ∨ 0 < r') with e | e
   ·left; omega
   ·right; rw [decide_eq_decide]; simp; omega
  ·simp only [hb,if_false]
   refine ⟨by unfold aM at *; split <;> omega,?_⟩
   right; rw [decide_eq_decide]; simp; omega
 refine h2 _ ?_ ?_
 ·split <;> omega
 ·split
  ·next hc=>
   simp only [Bool.and_eq_true,Bool.not_eq_true',decide_eq_false_iff_not] at hc
   omega
  ·omega
theorem BF {a b q r:Int} (h:b ≠ 0) (e:a = b * q + r) (h1:aM r < aM b) (h2:r = 0 ∨ decide (r < 0) = decide (b < 0)):q = fq a b ∧ r = fr a b:=by
 have e2:=fq_fr (a:=a) h
 obtain ⟨g1,g2⟩:=xH (a:=a) h
 generalize fq a b = Q at *
 generalize fr a b = S at *
 have e3:b * (q - Q) = S - r:=by rw [Int.mul_sub]; omega
 have h3:aM (S - r) < aM b:=by
  rw [decide_eq_decide] at h2 g2
  unfold aM at *
  split at h1 <;> split at g1 <;> split <;> split at h1 <;> omega
 have h4:q = Q:=by
  rw [← e3,q8] at h3
  have hb:=lg h
  rcases (by have:=iV (q - Q); omega:aM (q - Q) = 0 ∨ 1 ≤ aM (q - Q)) with g | g
  ·unfold aM at g; split at g <;> omega
  ·have:=Int.mul_le_mul_of_nonneg_left g (Int.le_of_lt hb)
   omega
 refine ⟨h4,?_⟩
 rw [h4,Int.sub_self,Int.mul_zero] at e3
 omega
theorem BS {b:Int}:aM b = 0 ↔ b = 0:=by unfold aM; split <;> omega
set_option linter.unusedVariables false
theorem tq (n:Int) {m:Int} (hm:m ≠ 0):Int.tdiv n m = (if decide (n < 0) != decide (m < 0) then -(aM n / aM m) else aM n / aM m) ∧ Int.tmod n m = (if n < 0 then -(aM n % aM m) else aM n % aM m):=by
  have e:Int.tmod n m = if n < 0 then -(aM n % aM m) else aM n % aM m:=by
   by_cases h1:n < 0
   ·have e1:aM n = -n:=if_pos h1
    have e2:n = -(-n):=by omega
    rw [if_pos h1,e1]
    conv=>lhs; rw [e2]
    rw [Int.neg_tmod,mD (by omega)]
    congr 1
    by_cases h2:m < 0
    ·rw [show aM m = -m from if_pos h2,Int.emod_neg]
    ·rw [show aM m = m from if_neg h2]
   ·have e1:aM n = n:=if_neg h1
    rw [if_neg h1,e1,mD (by omega)]
    by_cases h2:m < 0
    ·rw [show aM m = -m from if_pos h2,Int.emod_neg]
    ·rw [show aM m = m from if_neg h2]
  refine ⟨?_,e⟩
  by_cases h1:n < 0
  ·have e1:aM n = -n:=if_pos h1
   have e2:n = -(-n):=by omega
   by_cases h2:m < 0
   ·rw [show aM m = -m from if_pos h2,e1]
    simp only [h1,h2,decide_true,bne_self_eq_false,Bool.false_eq_true,if_false]
    conv=>lhs; rw [e2]
    rw [Int.neg_tdiv,← Int.tdiv_neg,k6 (by omega)]
   ·rw [show aM m = m from if_neg h2,e1]
    have hx:(true != false) = true:=rfl
    simp only [h1,h2,decide_true,decide_false,hx,if_true]
    conv=>lhs; rw [e2]
    rw [Int.neg_tdiv,k6 (by omega)]
  ·have e1:aM n = n:=if_neg h1
   by_cases h2:m < 0
   ·rw [show aM m = -m from if_pos h2,e1]
    have hx:(false != true) = true:=rfl
    simp only [h1,h2,decide_true,decide_false,hx,if_true]
    rw [← Int.neg_neg m,Int.tdiv_neg,k6 (by omega),Int.neg_neg]
   ·rw [show aM m = m from if_neg h2,e1]
    simp only [h1,h2,decide_false,bne_self_eq_false,Bool.false_eq_true,if_false]
    rw [k6 (by omega)]
theorem fq_abs {a b:Int} (h:b ≠ 0):aM (fq a b) ≤ aM a:=by
 have hp:=lg h
 have hd:=Int.mul_ediv_add_emod (aM a) (aM b)
 have h0:=Int.emod_nonneg (aM a) (show aM b ≠ 0 by omega)
 have h1:=Int.emod_lt_of_pos (aM a) hp
 have hq0:0 ≤ aM a / aM b:=Int.ediv_nonneg (iV a) (by omega)
 have hq1:aM a / aM b ≤ aM a:=Int.ediv_le_self _ (iV a)
 have ha:=iV a
 unfold fq
 generalize aM a / aM b = q at *
 generalize aM a % aM b = r at *
 by_cases hr:r = 0
 ·rw [if_pos hr]
  split <;> unfold aM at * <;> split <;> omega
 ·rw [if_neg hr]
  have:=Int.mul_le_mul_of_nonneg_right (show 2 ≤ aM b by omega) hq0
  split
  ·have e:aM (-(q + 1)) = q + 1:=by unfold aM; rw [if_pos (by omega)]; omega
   omega
  ·have e:aM q = q:=by unfold aM; rw [if_neg (by omega)]
   omega
end Go.Sk
namespace Go.Sk
set_option linter.unusedSimpArgs false
set_option linter.unusedVariables false
end Go.Sk
namespace Go.Proofs.YtbcdabflmkgkiaaGreatDoor
open Go Go.Sk
set_option linter.unusedSimpArgs false
set_option linter.unusedVariables false
end Go.Proofs.YtbcdabflmkgkiaaGreatDoor
namespace Go.Sk
end Go.Sk
namespace Go.Proofs.YtbcdabflmkgkiaaGreatDoor
open Go Go.Sk
set_option linter.unusedSimpArgs false
set_option linter.unusedVariables false
end Go.Proofs.YtbcdabflmkgkiaaGreatDoor
namespace Go.Sk
set_option linter.unusedSimpArgs false
set_option linter.unusedVariables false
theorem y5 {b:Int} {f:Nat → Int} {n k:Nat} (h:∀ i,n ≤ i → f i = 0) (hk:n ≤ k):ds b f k = ds b f n:=nf hk fun i h1 _=>h i h1
theorem mE (n:Nat):(0:Int) < 2 ^ n:=Int.pow_pos (by decide)
theorem wy {n:Nat} (h:n ≤ 31):(2:Int) ^ n ≤ 2147483648:=by
 have:=wx h
 have e:(2:Int) ^ 31 = 2147483648:=by decide
 omega
theorem shl_val {x:Int} {n:Nat} (hn:n ≤ 31) (hx:0 ≤ x ∧ x < 4294967296):xc .u64 x (n:Int) = some (x * 2 ^ n):=by
 unfold xc
 rw [if_neg (by omega)]
 have e4:min ((n:Int)).toNat IntKind.u64.bits = n:=by
  rw [Int.toNat_natCast]
  show min n 64 = _
  omega
 have hp:=mE n
 have hq:=wy hn
 have h1:=Int.mul_nonneg hx.1 (Int.le_of_lt hp)
 have h2:x * 2 ^ n ≤ 4294967295 * 2147483648:=Int.mul_le_mul (by omega) hq (Int.le_of_lt hp) (by omega)
 rw [e4,fv]
 congr 1
 omega
theorem mid_of {X:Int} {n:Nat} (hn:n ≤ 32):X % 18446744073709551616 / 2 ^ n % 4294967296 = X / 2 ^ n % 4294967296:=by
 have hp:=mE n
 have e:(18446744073709551616:Int) = 2 ^ n * (2 ^ (32 - n) * 4294967296):=by
  have:(18446744073709551616:Int) = 2 ^ (n + (32 - n) + 32):=by rw [show n + (32 - n) + 32 = 64 by omega]; decide
  rw [this,Int.pow_add,Int.pow_add,Int.mul_assoc]; rfl
 have e2:X = X % 18446744073709551616 + 2 ^ n * ((2 ^ (32 - n) * 4294967296) * (X / 18446744073709551616)):=by
  rw [← Int.mul_assoc,← e]; exact (Int.emod_add_mul_ediv X 18446744073709551616).symm
 have e3:X / 2 ^ n = X % 18446744073709551616 / 2 ^ n + 2 ^ (32 - n) * 4294967296 * (X / 18446744073709551616):=by
  rw [← Int.add_mul_ediv_left (X % 18446744073709551616) _ (by omega:(2:Int) ^ n ≠ 0),← e2]
 have e4:2 ^ (32 - n) * 4294967296 * (X / 18446744073709551616) = 4294967296 * (2 ^ (32 - n) * (X / 18446744073709551616)):=by grind
 rw [e3,e4,Int.add_mul_emod_self_left]
theorem av_pair {w:aT} (h:fu 4294967296 w.l) (i:Nat):dg w.l i + dg w.l (i + 1) * 4294967296 = av w / 4294967296 ^ i % 18446744073709551616:=by
 have h1:av w = ds 4294967296 (dg w.l) (16 + (i + 2)):=(y5 (fun j hj=>vj (by rw [aT.cc]; exact hj)) (by omega)).symm
 have h2:16 + (i + 2) = i + (2 + 16):=by omega
 rw [h1,h2,Cg (by decide) h,lf]
 have e:ds 4294967296 (fun j=>dg w.l (i + j)) 2 = dg w.l i + dg w.l (i + 1) * 4294967296:=by simp [ds]
 have p:(4294967296:Int) ^ 2 = 18446744073709551616:=by decide
 have a:=h i
 have b:=h (i + 1)
 rw [e,p,Int.add_mul_emod_self_left]
 omega
theorem toA_ext {w:aT} {z:Int} (h:∀ i,i < 16 → dg w.l i = nd 4294967296 z i):w = sX z:=by
 have hin:fu 4294967296 w.l:=fun i=>by
  by_cases hi:i < 16
  ·rw [h i hi]; exact xz _ _ (by decide) i
  ·rw [vj (by rw [aT.cc]; omega)]; decide
 refine AE hin ?_
 unfold av
 rw [fB h,Cf (by decide)]
 rfl
end Go.Sk
namespace Go.Proofs.YtbcdabflmkgkiaaGreatDoor
open Go Go.Sk
set_option linter.unusedSimpArgs false
set_option linter.unusedVariables false
theorem up_y {F:Nat} (hF:100 < F) {w:aT} (hw:fu 4294967296 w.l) {n:Nat} (hn:n ≤ 31):aw (rO F w (n:Int)) fun p=>fu 4294967296 p.1.l ∧ 0 ≤ p.2 ∧ p.2 < 2 ^ n ∧ av p.1 + p.2 * MM = av w * 2 ^ n:=by
 unfold rO
 have hp:=mE n
 have hq:=wy hn
 refine aw.bind (P:=fun p=>fu 4294967296 p.1.l ∧ 0 ≤ p.2 ∧ p.2 < 2 ^ n ∧ av p.1 + p.2 * MM = av w * 2 ^ n) (aw.rounds 16 (fun (k:Nat) (s:aT × Int × Int)=>s.2.2 = (k:Int) ∧ fu 4294967296 s.1.l ∧ 0 ≤ s.2.1 ∧ s.2.1 < 2 ^ n ∧ ds 4294967296 (dg s.1.l) k + s.2.1 * 4294967296 ^ k = ds 4294967296 (dg w.l) k * 2 ^ n) (by omega) ⟨rfl,jV,Int.le_refl _,hp,by simp [ds]⟩ ?_) ?_
 ·rintro k ⟨o,c,kx⟩ hk ⟨rfl,oin,c0,c1,os⟩
  dsimp only at oin c0 c1 os
  dsimp only [kr]
  refine aw.ite (fun h=>?_) (fun h=>?_)
  ·have hk':k < 16:=by have:=of_decide_eq_true h; omega
   have hd:=hw k
   refine aw.idx (by omega) (by rw [aT.cc]; omega) ?_
   simp only [fL,Int.toNat_natCast]
   have hu:IntKind.u64.wrap (dg w.l k) = dg w.l k:=by rw [fv]; omega
   rw [hu]
   refine aw.aQ (shl_val hn hd) ?_
   have hv:dg w.l k * 2 ^ n ≤ 4294967295 * 2 ^ n:=Int.mul_le_mul_of_nonneg_right (by omega) (by omega)
   have hv0:0 ≤ dg w.l k * 2 ^ n:=Int.mul_nonneg hd.1 (by omega)
   have hior:jT .u64 c (dg w.l k * 2 ^ n) = dg w.l k * 2 ^ n + c:=by
    rw [DT]
    exact nA n hv0 (by omega) (Int.mul_emod_left _ _) c0 c1 (by omega)
   rw [hior,l6]
   refine aw.ln (aw.idx (by omega) (by rw [aT.cc]; omega) (aw.some (.inl ⟨_,rfl,⟨by dsimp only; rw [gm]; omega,jA oin (by omega) (by omega) (by omega),by dsimp only; omega,by dsimp only; omega,?_⟩,hk'⟩)))
   dsimp only
   rw [aT.rW hk',gW,Int.add_mul,← os,Int.pow_succ]
   have e2:dg w.l k * 2 ^ n + c = (dg w.l k * 2 ^ n + c) % 4294967296 + (dg w.l k * 2 ^ n + c) / 4294967296 * 4294967296:=by omega
   generalize (dg w.l k * 2 ^ n + c) % 4294967296 = u at *
   generalize (dg w.l k * 2 ^ n + c) / 4294967296 = v at *
   have e3:dg w.l k * 2 ^ n = u + v * 4294967296 - c:=by omega
   have e4:dg w.l k * 4294967296 ^ k * 2 ^ n = (dg w.l k * 2 ^ n) * 4294967296 ^ k:=by grind
   rw [e4,e3]
   grind
  ·have hk':k = 16:=by have:=of_decide_eq_false h; omega
   subst hk'
   exact aw.some (.inr ⟨_,rfl,oin,c0,c1,os⟩)
 ·rintro ⟨o,c⟩ ⟨oin,c0,c1,os⟩
  dsimp only at oin c0 c1 os
  dsimp only [cF]
  have hu:IntKind.u32.wrap c = c:=by rw [l6]; omega
  rw [hu]
  exact aw.some ⟨oin,c0,c1,os⟩
theorem shr_val {x:Int} {n:Nat} (hn:n ≤ 31):AQ .u64 x (n:Int) = some (x / 2 ^ n):=by
 unfold AQ
 rw [if_neg (by omega)]
 have e4:min ((n:Int)).toNat IntKind.u64.bits = n:=by
  rw [Int.toNat_natCast]
  show min n 64 = _
  omega
 rw [e4]
theorem p32':(2:Int) ^ 32 = 4294967296:=by decide
theorem down_y {F:Nat} (hF:100 < F) {w:aT} (hw:fu 4294967296 w.l) {n:Nat} (hn:n ≤ 31):mC F w (n:Int) = some (sX (av w / 2 ^ n)):=by
 refine aw.eq ?_
 unfold mC
 have hp:=mE n
 refine aw.bind (P:=fun o=>o = sX (av w / 2 ^ n)) (aw.rounds 16 (fun (k:Nat) (s:aT × Int)=>s.2 = (k:Int) ∧ ∀ i,i < k → dg s.1.l i = nd 4294967296 (av w / 2 ^ n) i) (by omega) ⟨rfl,fun i h=>absurd h (Nat.not_lt_zero i)⟩ ?_) (fun o ho=>aw.some ho)
 rintro k ⟨o,kx⟩ hk ⟨rfl,os⟩
 dsimp only at os
 dsimp only [cF]
 refine aw.ite (fun h=>?_) (fun h=>?_)
 ·have hk':k < 16:=by have:=of_decide_eq_true h; omega
  have hd:=hw k
  have hd1:=hw (k + 1)
  have hw1:IntKind.i64.wrap ((k:Int) + 1) = ((k + 1:Nat):Int):=by rw [gm]; omega
  rw [hw1]
  refine aw.bind (P:=fun o'=>o' = o.set (k:Int) (nd 4294967296 (av w / 2 ^ n) k)) ?_ ?_
  ·refine aw.bind (P:=fun z=>z = dg w.l (k + 1)) ?_ ?_
   ·refine aw.ite (fun h=>?_) (fun h=>?_)
    ·have h':=of_decide_eq_true h
     refine aw.idx (by omega) (by rw [aT.cc]; omega) (aw.some ?_)
     simp only [fL,Int.toNat_natCast]
     rw [fv]; omega
    ·have h':=of_decide_eq_false h
     exact aw.some (vj (by rw [aT.cc]; omega)).symm
   ·rintro z rfl
    refine aw.zM (dg w.l (k + 1) * 4294967296) (by rw [fv]; omega) (aw.idx (by omega) (by rw [aT.cc]; omega) ?_)
    simp only [fL,Int.toNat_natCast]
    have hu:IntKind.u64.wrap (dg w.l k) = dg w.l k:=by rw [fv]; omega
    have hior:jT .u64 (dg w.l (k + 1) * 4294967296) (dg w.l k) = dg w.l (k + 1) * 4294967296 + dg w.l k:=nA 32 (by omega) (by omega) (by rw [p32']; omega) hd.1 (by rw [p32']; omega) (by omega)
    rw [hu,hior]
    refine aw.aQ (shr_val hn) (aw.idx (by omega) (by rw [aT.cc]; omega) (aw.some ?_))
    congr 1
    have e:dg w.l (k + 1) * 4294967296 + dg w.l k = av w / 4294967296 ^ k % 18446744073709551616:=by rw [← av_pair hw]; omega
    rw [e,l6,mid_of (by omega)]
    unfold nd
    rw [Int.ediv_ediv_of_nonneg (Int.le_of_lt (Int.pow_pos (by decide))),Int.ediv_ediv_of_nonneg (by omega),Int.mul_comm]
  ·rintro o' rfl
   refine aw.some (.inl ⟨_,rfl,⟨rfl,fun i hi=>?_⟩,hk'⟩)
   dsimp only
   rw [fI (by omega) (by omega),Int.toNat_natCast]
   split
   ·next e=>rw [e]
   ·exact os i (by omega)
 ·have hk':k = 16:=by have:=of_decide_eq_false h; omega
  subst hk'
  exact aw.some (.inr ⟨_,rfl,toA_ext os⟩)
theorem short_y {F:Nat} (hF:100 < F) {a:aT} (ha:fu 4294967296 a.l) {b:Int} (hb:0 < b ∧ b < 4294967296):mM F a b = some (sX (av a / b),av a % b):=by
 refine aw.eq ?_
 unfold mM
 have hub:IntKind.u64.wrap b = b:=by rw [fv]; omega
 rw [hub]
 refine aw.bind (P:=fun p=>p = (sX (av a / b),av a % b)) (aw.rounds 16 (fun (k:Nat) (s:aT × Int × Int)=>s.2.2 = 15 - (k:Int) ∧ fu 4294967296 s.1.l ∧ 0 ≤ s.2.1 ∧ s.2.1 < b ∧ ds 4294967296 (fun i=>dg a.l (16 - k + i)) k = ds 4294967296 (fun i=>dg s.1.l (16 - k + i)) k * b + s.2.1) (by omega) ⟨by decide,jV,Int.le_refl _,hb.1,by simp [ds]⟩ ?_) ?_
 ·rintro k ⟨q,r,kx⟩ hk ⟨rfl,qin,r0,r1,hs⟩
  dsimp only at qin r0 r1 hs
  dsimp only [kr]
  refine aw.ite (fun h=>?_) (fun h=>?_)
  ·have hk':k < 16:=by have:=of_decide_eq_true h; omega
   have et:(15 - (k:Int)).toNat = 15 - k:=by omega
   have hd:=ha (15 - k)
   refine aw.idx (by omega) (by rw [aT.cc]; omega) ?_
   simp only [fL,et]
   have hu:IntKind.u64.wrap (dg a.l (15 - k)) = dg a.l (15 - k):=by rw [fv]; omega
   have hr:IntKind.u64.wrap (r * 4294967296) = r * 4294967296:=by rw [fv]; omega
   have hior:jT .u64 (r * 4294967296) (dg a.l (15 - k)) = r * 4294967296 + dg a.l (15 - k):=nA 32 (by omega) (by omega) (by rw [zL]; omega) hd.1 (by rw [zL]; omega) (by omega)
   rw [hu,hr,hior]
   obtain ⟨v,hv⟩:∃ v,v = r * 4294967296 + dg a.l (15 - k):=⟨_,rfl⟩
   rw [← hv]
   have hv0:0 ≤ v:=by omega
   have hd1:=Int.mul_ediv_add_emod v b
   have hm0:=Int.emod_nonneg v (show b ≠ 0 by omega)
   have hm1:=Int.emod_lt_of_pos v hb.1
   have hq0:0 ≤ v / b:=Int.ediv_nonneg hv0 (by omega)
   have hq1:v / b < 4294967296:=by rw [Int.ediv_lt_iff_lt_mul hb.1]; omega
   refine aw.ln (aw.quo (by omega) (aw.idx (by omega) (by rw [aT.cc]; omega) (aw.rem (by omega) (aw.some (.inl ⟨_,rfl,?_,hk'⟩)))))
   rw [k6 hv0,mD hv0]
   have e1:IntKind.u32.wrap (IntKind.u64.wrap (v / b)) = v / b:=by simp only [l6,fv]; omega
   rw [e1]
   have ei:(15 - (k:Int)) = ((15 - k:Nat):Int):=by omega
   dsimp only
   refine ⟨by rw [gm]; omega,by rw [ei]; exact jA qin (by omega) (by omega) (by omega),hm0,hm1,?_⟩
   have ea:∀ (f:Nat → Int),ds 4294967296 (fun i=>f (16 - (k + 1) + i)) (k + 1) = f (15 - k) + 4294967296 * ds 4294967296 (fun i=>f (16 - k + i)) k:=fun f=>by
    rw [mI]
    have e1:16 - (k + 1) + 0 = 15 - k:=by omega
    have e2:∀ i,16 - (k + 1) + (i + 1) = 16 - k + i:=fun i=>by omega
    simp only [e1,e2]
   rw [ea (dg a.l),ea (dg (q.set (15 - (k:Int)) (v / b)).l),ei]
   have e3:dg (q.set ((15 - k:Nat):Int) (v / b)).l (15 - k) = v / b:=by rw [fI (by omega) (by omega),Int.toNat_natCast,if_pos rfl]
   have e4:ds 4294967296 (fun i=>dg (q.set ((15 - k:Nat):Int) (v / b)).l (16 - k + i)) k = ds 4294967296 (fun i=>dg q.l (16 - k + i)) k:=fB fun i _=>by rw [fI (by omega) (by omega),Int.toNat_natCast,if_neg (by omega)]
   rw [e3,e4,hs]
   generalize v / b = Q at *
   generalize v % b = M at *
   grind
  ·have hk':k = 16:=by have:=of_decide_eq_false h; omega
   subst hk'
   refine aw.some (.inr ⟨_,rfl,?_⟩)
   have e1:∀ i,16 - 16 + i = i:=fun i=>by omega
   simp only [e1] at hs
   have hs':av a = av q * b + r:=hs
   have hm:=Int.emod_emod_of_dvd
   have hB:b ≠ 0:=by omega
   have e:av a = r + b * av q:=by rw [hs',Int.mul_comm]; omega
   have q1:av a / b = av q:=by rw [e,Int.add_mul_ediv_left _ _ hB,Int.ediv_eq_zero_of_lt r0 r1,Int.zero_add]
   have q2:av a % b = r:=by rw [e,Int.add_mul_emod_self_left,Int.emod_eq_of_lt r0 r1]
   rw [q1,q2,oi qin]
 ·rintro ⟨q,r⟩ he
  dsimp only [cF]
  cases he
  refine aw.some ?_
  have hm0:=Int.emod_nonneg (av a) (show b ≠ 0 by omega)
  have hm1:=Int.emod_lt_of_pos (av a) hb.1
  have:IntKind.u32.wrap (av a % b) = av a % b:=by rw [l6]; omega
  rw [this]
end Go.Proofs.YtbcdabflmkgkiaaGreatDoor
namespace Go.Sk
set_option linter.unusedSimpArgs false
set_option linter.unusedVariables false
theorem cg.fI {w:cg} {i x:Int} (h0:0 ≤ i) (h1:i < 17) (j:Nat):dg (w.set i x).l j = if j = i.toNat then x else dg w.l j:=by
 rw [cg.jz,Go.Sk.wj (by rw [cg.cc]; omega)]
theorem cg.jA {w:cg} {i x:Int} (h:fu 4294967296 w.l) (h0:0 ≤ i) (h1:i < 17) (hx:0 ≤ x ∧ x < 4294967296):fu 4294967296 (w.set i x).l:=fun j=>by
 rw [cg.fI h0 h1]
 split
 ·exact hx
 ·exact h j
def win (l:List Int) (j n:Nat):Int:=ds 4294967296 (fun i=>dg l (j + i)) n
theorem eT (l:List Int) (j n:Nat):win l j (n + 1) = win l j n + dg l (j + n) * 4294967296 ^ n:=rfl
theorem fP {l:List Int} (h:fu 4294967296 l) (j n:Nat):0 ≤ win l j n:=hH (by decide) fun i _=>(h _).1
theorem tH {l:List Int} (h:fu 4294967296 l) (j n:Nat):win l j n < 4294967296 ^ n:=qE (by decide) fun i _=>h _
theorem vp {l m:List Int} {j n:Nat} (h:∀ i,j ≤ i → i < j + n → dg l i = dg m i):win l j n = win m j n:=fB fun i hi=>h _ (by omega) (by omega)
theorem win_div {l:List Int} (h:fu 4294967296 l) (j n k:Nat):win l j (n + k) / 4294967296 ^ n = win l (j + n) k:=by
 unfold win
 rw [Cg (by decide) fun i=>h _]
 simp only [Nat.add_assoc]
theorem win_cons (l:List Int) (j n:Nat):win l j (n + 1) = dg l j + 4294967296 * win l (j + 1) n:=by
 unfold win
 rw [mI]
 have e:∀ i,j + (i + 1) = j + 1 + i:=fun i=>by omega
 have e2:ds 4294967296 (fun i=>dg l (j + (i + 1))) n = ds 4294967296 (fun i=>dg l (j + 1 + i)) n:=fB fun i _=>by rw [e]
 rw [e2]
 rfl
structure Kn (B P v1 v2 V u2 u0 R t:Int):Prop where
 P0:0 < P
 v10:2147483648 ≤ v1
 v11:v1 < B
 v20:0 ≤ v2 ∧ v2 < B
 V0:(v1 * B + v2) * P ≤ V
 V1:V < (v1 * B + v2 + 1) * P
 u00:0 ≤ u0 ∧ u0 < B
 R0:(u2 * B + u0) * P ≤ R
 R1:R < (u2 * B + u0 + 1) * P
 Rt:t * V ≤ R
 tR:R < (t + 1) * V
 t0:0 ≤ t
 t1:t < B
theorem Kn.up {B P v1 v2 V u2 u0 R t:Int} (k:Kn B P v1 v2 V u2 u0 R t):t * (v1 * B + v2) ≤ u2 * B + u0:=by
 have h1:t * ((v1 * B + v2) * P) ≤ t * V:=Int.mul_le_mul_of_nonneg_left k.V0 k.t0
 have h2:(t * (v1 * B + v2)) * P < (u2 * B + u0 + 1) * P:=by
  have e:t * ((v1 * B + v2) * P) = (t * (v1 * B + v2)) * P:=by grind
  rw [e] at h1
  have:=k.Rt
  have:=k.R1
  omega
 have:=Int.lt_of_mul_lt_mul_right h2 (Int.le_of_lt k.P0)
 omega
theorem Kn.up1 {B P v1 v2 V u2 u0 R t:Int} (k:Kn B P v1 v2 V u2 u0 R t):t * v1 ≤ u2:=by
 have h:=k.up
 have h3:0 ≤ t * v2:=Int.mul_nonneg k.t0 k.v20.1
 have hB:0 < B:=by have:=k.v20; omega
 have h4:(t * v1) * B < (u2 + 1) * B:=by
  have e:t * (v1 * B + v2) = (t * v1) * B + t * v2:=by grind
  rw [e] at h
  have:=k.u00
  have e2:(u2 + 1) * B = u2 * B + B:=by grind
  omega
 have:=Int.lt_of_mul_lt_mul_right h4 (Int.le_of_lt hB)
 omega
theorem Kn.u2lt {B P v1 v2 V u2 u0 R t:Int} (k:Kn B P v1 v2 V u2 u0 R t):u2 < v1 * B + B:=by
 have hB:0 < B:=by have:=k.v20; omega
 have hP:=k.P0
 have hV:0 ≤ V:=by
  have h1:0 ≤ (v1 * B + v2) * P:=Int.mul_nonneg (by have:=Int.mul_nonneg (show 0 ≤ v1 by have:=k.v10; omega) (Int.le_of_lt hB); have:=k.v20; omega) (Int.le_of_lt hP)
  have:=k.V0
  omega
 have h1:(t + 1) * V ≤ B * V:=Int.mul_le_mul_of_nonneg_right (by have:=k.t1; omega) hV
 have h2:B * V ≤ B * ((v1 * B + v2 + 1) * P):=Int.mul_le_mul_of_nonneg_left (Int.le_of_lt k.V1) (Int.le_of_lt hB)
 have h3:(v1 * B + v2 + 1) * P ≤ (v1 * B + B) * P:=Int.mul_le_mul_of_nonneg_right (by have:=k.v20; omega) (Int.le_of_lt hP)
 have h4:B * ((v1 * B + v2 + 1) * P) ≤ B * ((v1 * B + B) * P):=Int.mul_le_mul_of_nonneg_left h3 (Int.le_of_lt hB)
 have h5:u2 * B * P ≤ (u2 * B + u0) * P:=Int.mul_le_mul_of_nonneg_right (by have:=k.u00; omega) (Int.le_of_lt hP)
 have h6:u2 * (B * P) < (v1 * B + B) * (B * P):=by
  have e1:u2 * (B * P) = u2 * B * P:=by grind
  have e2:(v1 * B + B) * (B * P) = B * ((v1 * B + B) * P):=by grind
  rw [e1,e2]
  have:=k.R0
  have:=k.tR
  omega
 exact Int.lt_of_mul_lt_mul_right h6 (Int.le_of_lt (Int.mul_pos hB hP))
theorem Kn.fin {B P v1 v2 V u2 u0 R t d:Int} (k:Kn B P v1 v2 V u2 u0 R t) (hd0:0 ≤ d) (h:d * (v1 * B + v2) ≤ u2 * B + u0) (hd:d < B):d ≤ t + 1:=by
 rcases (by omega:d ≤ t + 1 ∨ t + 1 ≤ d - 1) with g | g
 ·exact g
 ·have hB:0 < B:=by omega
  have hP:=k.P0
  have hv1:=k.v10
  have h5:B * P ≤ (v1 * B + v2) * P:=Int.mul_le_mul_of_nonneg_right (by have h:=Int.mul_le_mul_of_nonneg_right (show 1 ≤ v1 by omega) (Int.le_of_lt hB); have:=k.v20; omega) (Int.le_of_lt hP)
  have hV0:=k.V0
  have hBP:=Int.mul_pos hB hP
  have h1:(t + 1) * V ≤ (d - 1) * V:=Int.mul_le_mul_of_nonneg_right g (by omega)
  have h2:d * V ≤ d * ((v1 * B + v2 + 1) * P):=Int.mul_le_mul_of_nonneg_left (Int.le_of_lt k.V1) hd0
  have h3:d * (v1 * B + v2) * P ≤ (u2 * B + u0) * P:=Int.mul_le_mul_of_nonneg_right h (Int.le_of_lt hP)
  have e:d * ((v1 * B + v2 + 1) * P) = d * (v1 * B + v2) * P + d * P:=by grind
  have h4:d * P < B * P:=Int.mul_lt_mul_of_pos_right hd hP
  have e2:(d - 1) * V = d * V - V:=by grind
  have:=k.R0
  have:=k.tR
  omega
end Go.Sk
namespace Go.Proofs.YtbcdabflmkgkiaaGreatDoor
open Go Go.Sk
set_option linter.unusedSimpArgs false
set_option linter.unusedVariables false
theorem guess_y {F:Nat} (hF:18446744073709551616 < F) {v:aT} {u:cg} {n j:Nat} (hn:2 ≤ n ∧ n ≤ 16) (hj:j + n ≤ 16) (hv:fu 4294967296 v.l) (hu:fu 4294967296 u.l) {P V R t:Int}
  (K:Kn 4294967296 P (dg v.l (n - 1)) (dg v.l (n - 2)) V (dg u.l (j + n) * 4294967296 + dg u.l (j + n - 1)) (dg u.l (j + n - 2)) R t) :
  aw (kS F v (n:Int) (j:Int) u) fun d=>t ≤ d ∧ d ≤ t + 1 ∧ 0 ≤ d ∧ d < 4294967296:=by
 unfold kS
 have hw0:IntKind.i64.wrap ((j:Int) + (n:Int)) = ((j + n:Nat):Int):=by rw [gm]; omega
 have hw1:IntKind.i64.wrap (((j + n:Nat):Int) - 1) = ((j + n - 1:Nat):Int):=by rw [gm]; omega
 have hw2:IntKind.i64.wrap (((j + n:Nat):Int) - 2) = ((j + n - 2:Nat):Int):=by rw [gm]; omega
 have hw3:IntKind.i64.wrap ((n:Int) - 1) = ((n - 1:Nat):Int):=by rw [gm]; omega
 have hw4:IntKind.i64.wrap ((n:Int) - 2) = ((n - 2:Nat):Int):=by rw [gm]; omega
 simp only [hw0,hw1,hw2,hw3,hw4]
 refine aw.idx (by omega) (by rw [cg.cc]; omega) (aw.idx (by omega) (by rw [cg.cc]; omega) (aw.idx (by omega) (by rw [aT.cc]; omega) ?_))
 simp only [fL,Int.toNat_natCast]
 have a1:=hu (j + n)
 have a2:=hu (j + n - 1)
 have a3:=hu (j + n - 2)
 have b1:=hv (n - 1)
 have b2:=hv (n - 2)
 generalize hx1:dg u.l (j + n) = x1 at *
 generalize hx2:dg u.l (j + n - 1) = x2 at *
 generalize hx3:dg u.l (j + n - 2) = u0 at *
 generalize hy1:dg v.l (n - 1) = v1 at *
 generalize hy2:dg v.l (n - 2) = v2 at *
 have e1:IntKind.u64.wrap ((IntKind.u64.wrap x1) * 4294967296) = x1 * 4294967296:=by simp only [fv]; omega
 have e2:IntKind.u64.wrap x2 = x2:=by rw [fv]; omega
 have e3:IntKind.u64.wrap v1 = v1:=by rw [fv]; omega
 have hior:jT .u64 (x1 * 4294967296) x2 = x1 * 4294967296 + x2:=nA 32 (by omega) (by omega) (by rw [zL]; omega) a2.1 (by rw [zL]; omega) (by omega)
 rw [e1,e2,e3,hior]
 obtain ⟨u2,hu2⟩:∃ u2,u2 = x1 * 4294967296 + x2:=⟨_,rfl⟩
 rw [← hu2] at K ⊢
 have hv1:=K.v10
 have h20:0 ≤ u2:=by omega
 have h21:u2 < 18446744073709551616:=by omega
 have hup1:=K.up1
 have hup:=K.up
 have hlt:=K.u2lt
 have ht0:=K.t0
 have ht1:=K.t1
 have hd1:=Int.mul_ediv_add_emod u2 v1
 have hm0:=Int.emod_nonneg u2 (show v1 ≠ 0 by omega)
 have hm1:=Int.emod_lt_of_pos u2 (show 0 < v1 by omega)
 have hq1:u2 / v1 ≤ u2:=Int.ediv_le_self _ h20
 have hqn:0 ≤ v1 * (u2 / v1):=Int.mul_nonneg (by omega) (Int.ediv_nonneg h20 (by omega))
 have hqt:t ≤ u2 / v1:=by rw [Int.le_ediv_iff_mul_le (by omega)]; exact hup1
 refine aw.quo (by omega) (aw.rem (by omega) ?_)
 rw [k6 h20,mD h20]
 have e4:IntKind.u64.wrap (u2 / v1) = u2 / v1:=by rw [fv]; omega
 rw [e4]
 refine aw.bind (P:=fun d=>t ≤ d ∧ d ≤ t + 1 ∧ 0 ≤ d ∧ d < 4294967296) (aw.loop (fun (s:Int × Int)=>t ≤ s.1 ∧ s.1 ≤ u2 ∧ 0 ≤ s.2 ∧ s.2 ≤ u2 ∧ v1 * s.1 + s.2 = u2) (fun s=>s.1.toNat) ⟨hqt,hq1,hm0,by dsimp only; omega,hd1⟩ (by dsimp only; omega) ?_) (fun d hd=>aw.some hd)
 rintro ⟨d,r⟩ ⟨d0,d1,r0,r1,hs⟩
 dsimp only at d0 d1 r0 r1 hs
 dsimp only [cF]
 have hdn:0 ≤ d:=by omega
 have step:t ≤ d - 1 → r < 4294967296 → aw (cu (IntKind.u64.wrap (r + v1)) fun x_12=>(some (.inl (IntKind.u64.wrap (d - 1),x_12)):Option ((Int × Int) ⊕ Int))) fun o=>(∃ s',o = .inl s' ∧ (t ≤ s'.1 ∧ s'.1 ≤ u2 ∧ 0 ≤ s'.2 ∧ s'.2 ≤ u2 ∧ v1 * s'.1 + s'.2 = u2) ∧ s'.1.toNat < d.toNat) ∨ ∃ t',o = .inr t' ∧ t ≤ t' ∧ t' ≤ t + 1 ∧ 0 ≤ t' ∧ t' < 4294967296:=fun g hr=>by
  have e5:IntKind.u64.wrap (r + v1) = r + v1:=by rw [fv]; omega
  have e6:IntKind.u64.wrap (d - 1) = d - 1:=by rw [fv]; omega
  have e7:v1 * (d - 1) + (r + v1) = u2:=by rw [Int.mul_sub]; omega
  have e8:0 ≤ v1 * (d - 1):=Int.mul_nonneg (by omega) (by omega)
  rw [e5,e6]
  exact aw.ln (aw.some (.inl ⟨_,rfl,⟨g,by dsimp only; omega,by dsimp only; omega,by dsimp only; omega,e7⟩,by dsimp only; omega⟩))
 by_cases hr:r < 4294967296
 ·have hdr:decide (r < 4294967296) = true:=decide_eq_true hr
  by_cases hd:4294967296 ≤ d
  ·have hdd:decide (4294967296 ≤ d) = true:=decide_eq_true hd
   rw [hdr,hdd]
   refine aw.g0 rfl (aw.g0 rfl (aw.yz rfl ?_))
   exact step (by omega) hr
  ·have hdd:decide (4294967296 ≤ d) = false:=decide_eq_false hd
   rw [hdr,hdd]
   refine aw.g1 rfl (aw.idx (by omega) (by rw [aT.cc]; omega) (aw.g1 rfl (aw.idx (by omega) (by rw [cg.cc]; omega) ?_)))
   simp only [fL,Int.toNat_natCast,hx3,hy2,Bool.true_and,Bool.false_or]
   have e5:IntKind.u64.wrap (r * 4294967296) = r * 4294967296:=by rw [fv]; omega
   have e6:IntKind.u64.wrap u0 = u0:=by rw [fv]; omega
   have e7:IntKind.u64.wrap v2 = v2:=by rw [fv]; omega
   have hm:=pD (m:=4294967296) ⟨hdn,by omega⟩ b2
   have e8:IntKind.u64.wrap (d * v2) = d * v2:=by rw [fv]; omega
   have hior2:jT .u64 (r * 4294967296) u0 = r * 4294967296 + u0:=nA 32 (by omega) (by omega) (by rw [zL]; omega) a3.1 (by rw [zL]; omega) (by omega)
   rw [e5,e6,e7,e8,hior2]
   have e9:d * (v1 * 4294967296 + v2) = (v1 * d) * 4294967296 + d * v2:=by grind
   refine aw.ite (fun h=>?_) (fun h=>?_)
   ·have h':=of_decide_eq_true h
    refine step ?_ hr
    rcases (by omega:d = t ∨ t ≤ d - 1) with e | e
    ·rw [← e,e9] at hup
     omega
    ·exact e
   ·have h':=of_decide_eq_false h
    exact aw.some (.inr ⟨_,rfl,d0,K.fin hdn (by rw [e9]; omega) (by omega),hdn,by omega⟩)
 ·have hdr:decide (r < 4294967296) = false:=decide_eq_false hr
  rw [hdr]
  refine aw.g0 rfl (aw.g0 rfl (aw.iff rfl ?_))
  have hdB:d < 4294967296:=by
   rcases (by omega:d < 4294967296 ∨ 4294967296 ≤ d) with e | e
   ·exact e
   ·have:=Int.mul_le_mul_of_nonneg_left e (show 0 ≤ v1 by omega)
    omega
  have hm:=pD (m:=4294967296) ⟨hdn,hdB⟩ b2
  have e9:d * (v1 * 4294967296 + v2) = (v1 * d) * 4294967296 + d * v2:=by grind
  exact aw.some (.inr ⟨_,rfl,d0,K.fin hdn (by rw [e9]; omega) hdB,hdn,hdB⟩)
theorem tc {u:cg} {j k:Nat} {x:Int} (h:j + k < 17):win (u.set ((j + k:Nat):Int) x).l j (k + 1) = win u.l j k + x * 4294967296 ^ k:=by
 rw [eT,cg.fI (by omega) (by omega),Int.toNat_natCast,if_pos rfl]
 congr 1
 exact vp fun i h1 h2=>by rw [cg.fI (by omega) (by omega),Int.toNat_natCast,if_neg (by omega)]
def qR (u w:cg) (j n:Nat):Prop:=∀ i,(i < j ∨ j + n < i) → dg w.l i = dg u.l i
theorem take_y {F:Nat} (hF:100 < F) {v:aT} {u:cg} {n j:Nat} (hn:n ≤ 16) (hj:j + n ≤ 16) (hv:fu 4294967296 v.l) (hu:fu 4294967296 u.l) {d:Int} (hd:0 ≤ d ∧ d < 4294967296) :
  aw (mA F v (n:Int) (j:Int) d u) fun p=>fu 4294967296 p.2.l ∧ qR u p.2 j n ∧ win u.l j (n + 1) + (if p.1 = true then 1 else 0) * 4294967296 ^ (n + 1) = win p.2.l j (n + 1) + d * win v.l 0 n:=by
 unfold mA
 have hw0:IntKind.i64.wrap ((j:Int) + (n:Int)) = ((j + n:Nat):Int):=by rw [gm]; omega
 rw [hw0]
 refine aw.bind (P:=fun (p:cg × Int × Int)=>fu 4294967296 p.1.l ∧ (∀ i,(i < j ∨ j + n ≤ i) → dg p.1.l i = dg u.l i) ∧ (0 ≤ p.2.1 ∧ p.2.1 < 4294967296) ∧ (0 ≤ p.2.2 ∧ p.2.2 ≤ 1) ∧ win u.l j n + (p.2.1 + p.2.2) * 4294967296 ^ n = win p.1.l j n + d * win v.l 0 n)
  (aw.rounds n (fun (k:Nat) (s:cg × Int × Int × Int)=>s.2.2.2 = (k:Int) ∧ fu 4294967296 s.1.l ∧ (∀ i,(i < j ∨ j + k ≤ i) → dg s.1.l i = dg u.l i) ∧ (0 ≤ s.2.1 ∧ s.2.1 < 4294967296) ∧ (0 ≤ s.2.2.1 ∧ s.2.2.1 ≤ 1) ∧ win u.l j k + (s.2.1 + s.2.2.1) * 4294967296 ^ k = win s.1.l j k + d * win v.l 0 k) (by omega) ⟨rfl,hu,fun i _=>rfl,⟨Int.le_refl _,(by decide:(0:Int) < 4294967296)⟩,⟨Int.le_refl _,(by decide:(0:Int) ≤ 1)⟩,by simp [win,ds]⟩ ?_) ?_
 ·rintro k ⟨w,c,b,kx⟩ hk ⟨rfl,win_,wo,⟨c0,c1⟩,⟨b0,b1⟩,hs⟩
  dsimp only at win_ wo c0 c1 b0 b1 hs
  dsimp only [BT]
  refine aw.ite (fun h=>?_) (fun h=>?_)
  ·have hk':k < n:=by have:=of_decide_eq_true h; omega
   have hwk:IntKind.i64.wrap ((j:Int) + (k:Int)) = ((j + k:Nat):Int):=by rw [gm]; omega
   rw [hwk]
   have hvk:=hv k
   have huk:=hu (j + k)
   have hwuk:=wo (j + k) (.inr (Nat.le_refl _))
   have hm:=pD (m:=4294967296) hd hvk
   refine aw.idx (by omega) (by rw [aT.cc]; omega) ?_
   simp only [fL,Int.toNat_natCast]
   refine aw.zM (d * dg v.l k) (by simp only [fv]; rw [Int.emod_eq_of_lt (a:=dg v.l k) (by omega) (by omega)]; omega) (aw.idx (by omega) (by rw [cg.cc]; omega) ?_)
   simp only [fL,Int.toNat_natCast,hwuk]
   obtain ⟨p,hp⟩:∃ p,p = c + d * dg v.l k:=⟨_,rfl⟩
   have hp0:0 ≤ p ∧ p < 18446744073709551616:=by omega
   have hpw:IntKind.u64.wrap (c + d * dg v.l k) = p:=by rw [fv]; omega
   rw [hpw]
   generalize hU:dg u.l (j + k) = U at *
   refine aw.zM (p % 4294967296) (by rw [l6]) ?_
   obtain ⟨τ,hτ⟩:∃ τ,τ = U - p % 4294967296 - b:=⟨_,rfl⟩
   refine aw.ln (aw.zM (τ % 4294967296) (by simp only [l6,fv]; omega) (aw.idx (by omega) (by rw [cg.cc]; omega) (aw.zM (if τ < 0 then 1 else 0) (by simp only [fv]; split <;> omega) (aw.zM (p / 4294967296) rfl (aw.some (.inl ⟨_,rfl,⟨by dsimp only; rw [gm]; omega,cg.jA win_ (by omega) (by omega) (by omega),fun i hi=>?_,⟨by dsimp only; omega,by dsimp only; omega⟩,⟨by dsimp only; split <;> omega,by dsimp only; split <;> omega⟩,?_⟩,hk'⟩))))))
   ·dsimp only
    rw [cg.fI (by omega) (by omega),Int.toNat_natCast,if_neg (by omega)]
    exact wo i (by omega)
   ·dsimp only
    rw [tc (by omega),eT,eT,hU,Nat.zero_add,Int.pow_succ]
    have e1:d * dg v.l k = p - c:=by omega
    have e2:p = p % 4294967296 + p / 4294967296 * 4294967296:=by omega
    have e3:U - p % 4294967296 - b = τ % 4294967296 - (if τ < 0 then 1 else 0) * 4294967296:=by rw [← hτ]; split <;> omega
    generalize p % 4294967296 = pl at *
    generalize p / 4294967296 = ph at *
    generalize (if τ < 0 then (1:Int) else 0) = bo at *
    generalize τ % 4294967296 = tl at *
    have e4:U = tl - bo * 4294967296 + pl + b:=by omega
    have e5:d * dg v.l k = pl + ph * 4294967296 - c:=by omega
    have e6:d * (win v.l 0 k + dg v.l k * 4294967296 ^ k) = d * win v.l 0 k + (d * dg v.l k) * 4294967296 ^ k:=by grind
    rw [e6,e5,e4]
    grind
  ·have hk':k = n:=by have:=of_decide_eq_false h; omega
   subst hk'
   exact aw.some (.inr ⟨_,rfl,win_,wo,⟨c0,c1⟩,⟨b0,b1⟩,hs⟩)
 ·rintro ⟨w,c,b⟩ ⟨win_,wo,⟨c0,c1⟩,⟨b0,b1⟩,hs⟩
  dsimp only at win_ wo c0 c1 b0 b1 hs
  dsimp only [kr]
  have huk:=hu (j + n)
  have hwuk:=wo (j + n) (.inr (Nat.le_refl _))
  refine aw.idx (by omega) (by rw [cg.cc]; omega) ?_
  simp only [fL,Int.toNat_natCast,hwuk]
  generalize hU:dg u.l (j + n) = U at *
  obtain ⟨τ,hτ⟩:∃ τ,τ = U - c - b:=⟨_,rfl⟩
  refine aw.ln (aw.zM (τ % 4294967296) (by simp only [l6,fv]; omega) (aw.idx (by omega) (by rw [cg.cc]; omega) (aw.zM (if τ < 0 then 1 else 0) (by simp only [fv]; split <;> omega) (aw.some ⟨cg.jA win_ (by omega) (by omega) (by omega),fun i hi=>?_,?_⟩))))
  ·dsimp only
   rw [cg.fI (by omega) (by omega),Int.toNat_natCast,if_neg (by omega)]
   exact wo i (by omega)
  ·dsimp only
   rw [tc (by omega),eT,hU,Int.pow_succ]
   have e3:U - c - b = τ % 4294967296 - (if τ < 0 then 1 else 0) * 4294967296:=by rw [← hτ]; split <;> omega
   have e7:(if decide ((if τ < 0 then (1:Int) else 0) = 1) = true then (1:Int) else 0) = if τ < 0 then 1 else 0:=by
    by_cases h:τ < 0
    ·rw [if_pos h]; rfl
    ·rw [if_neg h]; rfl
   rw [e7]
   generalize (if τ < 0 then (1:Int) else 0) = bo at *
   generalize τ % 4294967296 = tl at *
   have e4:U = tl - bo * 4294967296 + c + b:=by omega
   rw [e4]
   grind
theorem give_y {F:Nat} (hF:100 < F) {v:aT} {u:cg} {n j:Nat} (hn:n ≤ 16) (hj:j + n ≤ 16) (hv:fu 4294967296 v.l) (hu:fu 4294967296 u.l) :
  aw (mB F v (n:Int) (j:Int) u) fun w=>fu 4294967296 w.l ∧ qR u w j n ∧ win w.l j (n + 1) = (win u.l j (n + 1) + win v.l 0 n) % 4294967296 ^ (n + 1):=by
 unfold mB
 have hw0:IntKind.i64.wrap ((j:Int) + (n:Int)) = ((j + n:Nat):Int):=by rw [gm]; omega
 rw [hw0]
 refine aw.bind (P:=fun (p:cg × Int)=>fu 4294967296 p.1.l ∧ (∀ i,(i < j ∨ j + n ≤ i) → dg p.1.l i = dg u.l i) ∧ (0 ≤ p.2 ∧ p.2 ≤ 1) ∧ win p.1.l j n + p.2 * 4294967296 ^ n = win u.l j n + win v.l 0 n)
  (aw.rounds n (fun (k:Nat) (s:cg × Int × Int)=>s.2.2 = (k:Int) ∧ fu 4294967296 s.1.l ∧ (∀ i,(i < j ∨ j + k ≤ i) → dg s.1.l i = dg u.l i) ∧ (0 ≤ s.2.1 ∧ s.2.1 ≤ 1) ∧ win s.1.l j k + s.2.1 * 4294967296 ^ k = win u.l j k + win v.l 0 k) (by omega) ⟨rfl,hu,fun i _=>rfl,⟨Int.le_refl _,(by decide:(0:Int) ≤ 1)⟩,by simp [win,ds]⟩ ?_) ?_
 ·rintro k ⟨w,c,kx⟩ hk ⟨rfl,win_,wo,⟨c0,c1⟩,hs⟩
  dsimp only at win_ wo c0 c1 hs
  dsimp only [kr]
  refine aw.ite (fun h=>?_) (fun h=>?_)
  ·have hk':k < n:=by have:=of_decide_eq_true h; omega
   have hwk:IntKind.i64.wrap ((j:Int) + (k:Int)) = ((j + k:Nat):Int):=by rw [gm]; omega
   rw [hwk]
   have hvk:=hv k
   have huk:=hu (j + k)
   have hwuk:=wo (j + k) (.inr (Nat.le_refl _))
   refine aw.idx (by omega) (by rw [cg.cc]; omega) (aw.idx (by omega) (by rw [aT.cc]; omega) ?_)
   simp only [fL,Int.toNat_natCast,hwuk]
   generalize hU:dg u.l (j + k) = U at *
   generalize hV:dg v.l k = V at *
   have e0:IntKind.u64.wrap (c + (IntKind.u64.wrap ((IntKind.u64.wrap U) + (IntKind.u64.wrap V)))) = c + (U + V):=by simp only [fv]; omega
   obtain ⟨p,hp⟩:∃ p,p = c + (U + V):=⟨_,rfl⟩
   refine aw.zM p (by rw [e0,hp]) (aw.idx (by omega) (by rw [cg.cc]; omega) (aw.zM p (by rw [e0,hp]) ?_))
   rw [l6]
   refine aw.some (.inl ⟨_,rfl,⟨by dsimp only; rw [gm]; omega,cg.jA win_ (by omega) (by omega) (by omega),fun i hi=>?_,⟨by dsimp only; omega,by dsimp only; omega⟩,?_⟩,hk'⟩)
   ·dsimp only
    rw [cg.fI (by omega) (by omega),Int.toNat_natCast,if_neg (by omega)]
    exact wo i (by omega)
   ·dsimp only
    rw [tc (by omega),eT,eT,hU,Nat.zero_add,hV,Int.pow_succ]
    have e2:p = p % 4294967296 + p / 4294967296 * 4294967296:=by omega
    generalize p % 4294967296 = pl at *
    generalize p / 4294967296 = ph at *
    have e4:U = pl + ph * 4294967296 - c - V:=by omega
    rw [e4]
    grind
  ·have hk':k = n:=by have:=of_decide_eq_false h; omega
   subst hk'
   exact aw.some (.inr ⟨_,rfl,win_,wo,⟨c0,c1⟩,hs⟩)
 ·rintro ⟨w,c⟩ ⟨win_,wo,⟨c0,c1⟩,hs⟩
  dsimp only at win_ wo c0 c1 hs
  dsimp only [cF]
  have huk:=hu (j + n)
  have hwuk:=wo (j + n) (.inr (Nat.le_refl _))
  refine aw.idx (by omega) (by rw [cg.cc]; omega) (aw.idx (by omega) (by rw [cg.cc]; omega) ?_)
  simp only [fL,Int.toNat_natCast,hwuk]
  generalize hU:dg u.l (j + n) = U at *
  have e0:IntKind.u32.wrap (U + IntKind.u32.wrap c) = (U + c) % 4294967296:=by simp only [l6]; omega
  rw [e0]
  refine aw.some ⟨cg.jA win_ (by omega) (by omega) (by omega),fun i hi=>?_,?_⟩
  ·rw [cg.fI (by omega) (by omega),Int.toNat_natCast,if_neg (by omega)]
   exact wo i (by omega)
  ·rw [tc (by omega),eT,hU,Int.pow_succ]
   have e2:U + c = (U + c) % 4294967296 + (U + c) / 4294967296 * 4294967296:=by omega
   have hpw:(0:Int) < 4294967296 ^ n:=Int.pow_pos (by decide)
   have hlo:=fP win_ j n
   have hhi:=tH win_ j n
   have hx0:0 ≤ (U + c) % 4294967296 ∧ (U + c) % 4294967296 < 4294967296:=by omega
   generalize (U + c) % 4294967296 = x at *
   generalize (U + c) / 4294967296 = y at *
   have e3:win u.l j n + U * 4294967296 ^ n + win v.l 0 n = (win w.l j n + x * 4294967296 ^ n) + 4294967296 ^ n * 4294967296 * y:=by
    have e4:U = x + y * 4294967296 - c:=by omega
    rw [e4]
    grind
   have h1:x * 4294967296 ^ n ≤ 4294967295 * 4294967296 ^ n:=Int.mul_le_mul_of_nonneg_right (by omega) (by omega)
   have h2:0 ≤ x * 4294967296 ^ n:=Int.mul_nonneg hx0.1 (by omega)
   rw [e3,Int.add_mul_emod_self_left,Int.emod_eq_of_lt (by omega) (by omega)]
end Go.Proofs.YtbcdabflmkgkiaaGreatDoor
namespace Go.Sk
set_option linter.unusedSimpArgs false
set_option linter.unusedVariables false
theorem DF {x:Int} (h:0 ≤ x ∧ x < 4294967296):fu 4294967296 [x]:=fun i=>by
 cases i with
 | zero=>exact h
 | succ i=>exact ⟨Int.le_refl _,(by decide:(0:Int) < 4294967296)⟩
theorem yn {A B q r:Int} (h:A = q * B + r) (h0:0 ≤ r) (h1:r < B):A / B = q ∧ A % B = r:=by
 have hB:B ≠ 0:=by omega
 have e:A = r + B * q:=by rw [h,Int.mul_comm]; omega
 constructor
 ·rw [e,Int.add_mul_ediv_left _ _ hB,Int.ediv_eq_zero_of_lt h0 h1,Int.zero_add]
 ·rw [e,Int.add_mul_emod_self_left,Int.emod_eq_of_lt h0 h1]
def a17 (w:aT) (x:Int):cg:=⟨w.a0,w.a1,w.a2,w.a3,w.a4,w.a5,w.a6,w.a7,w.a8,w.a9,w.a10,w.a11,w.a12,w.a13,w.a14,w.a15,x⟩
def zN (u:cg):aT:=⟨u.a0,u.a1,u.a2,u.a3,u.a4,u.a5,u.a6,u.a7,u.a8,u.a9,u.a10,u.a11,u.a12,u.a13,u.a14,u.a15⟩
theorem a17_l (w:aT) (x:Int):(a17 w x).l = w.l ++ [x]:=rfl
theorem a16_l (u:cg):(zN u).l = u.l.take 16:=rfl
theorem B1 (l:List Int) (n:Nat):win l 0 n = ds 4294967296 (dg l) n:=fB fun i _=>by rw [Nat.zero_add]
theorem qJ {l:List Int} {j n k:Nat} (h:∀ i,j + n ≤ i → dg l i = 0) (hk:n ≤ k):win l j k = win l j n:=y5 (fun i hi=>h _ (by omega)) hk
theorem win_dig {l:List Int} (h:fu 4294967296 l) {n i:Nat} (hl:l.length ≤ n):dg l i = win l 0 n / 4294967296 ^ i % 4294967296:=by
 have e:win l 0 n = win l 0 (n + (i + 1)):=(qJ (fun k hk=>vj (by omega)) (by omega)).symm
 rw [e,B1]
 exact (ds_dig (b:=4294967296) (by decide) (by omega) h).symm
theorem win_zero {l:List Int} (h:fu 4294967296 l) {n k i:Nat} (hl:l.length ≤ n) (hv:win l 0 n < 4294967296 ^ k) (hi:k ≤ i):dg l i = 0:=by
 have h1:=fP h 0 n
 have h2:=qY (b:=4294967296) (by decide) hi
 rw [win_dig h hl,Int.ediv_eq_zero_of_lt h1 (by omega)]
 rfl
theorem win3 (l:List Int) (j m:Nat):win l j (m + 3) = win l j m + (dg l (j + m) + 4294967296 * (dg l (j + m + 1) + 4294967296 * dg l (j + m + 2))) * 4294967296 ^ m:=by
 rw [eT,eT,eT]
 have e1:(4294967296:Int) ^ (m + 1) = 4294967296 ^ m * 4294967296:=Int.pow_succ _ _
 have e2:(4294967296:Int) ^ (m + 1 + 1) = 4294967296 ^ m * 4294967296 * 4294967296:=by rw [Int.pow_succ,e1]
 rw [show m + 2 = m + 1 + 1 from rfl,e1,e2]
 show win l j m + dg l (j + m) * 4294967296 ^ m + dg l (j + m + 1) * (4294967296 ^ m * 4294967296) + dg l (j + m + 2) * (4294967296 ^ m * 4294967296 * 4294967296) = _
 grind
theorem win2 (l:List Int) (j m:Nat):win l j (m + 2) = win l j m + (dg l (j + m) + 4294967296 * dg l (j + m + 1)) * 4294967296 ^ m:=by
 rw [eT,eT]
 have e1:(4294967296:Int) ^ (m + 1) = 4294967296 ^ m * 4294967296:=Int.pow_succ _ _
 rw [e1]
 show win l j m + dg l (j + m) * 4294967296 ^ m + dg l (j + m + 1) * (4294967296 ^ m * 4294967296) = _
 grind
theorem MM32:MM = 4294967296 ^ 16:=rfl
theorem kY (n:Nat):(0:Int) < 4294967296 ^ n:=Int.pow_pos (by decide)
theorem norm_of {Bv x:Int} {m s:Nat} (hx:0 < x ∧ x < 4294967296) (hs:(s:Int) = 32 - eI x) (h0:x * 4294967296 ^ m ≤ Bv) (h1:Bv < (x + 1) * 4294967296 ^ m):s ≤ 31 ∧ 2147483648 * 4294967296 ^ m ≤ Bv * 2 ^ s ∧ Bv * 2 ^ s < 4294967296 ^ (m + 1):=by
 obtain ⟨b1,b2,b3⟩:=pG hx.1
 have b4:=pt (m:=x) (k:=32) (by rw [zL]; exact hx.2)
 have hp:=mE s
 have hq:=kY m
 refine ⟨by omega,?_,?_⟩
 ·have e:(2147483648:Int) = 2 ^ ((eI x).toNat - 1) * 2 ^ s:=by
   rw [← Int.pow_add]
   have:(eI x).toNat - 1 + s = 31:=by omega
   rw [this]; decide
  have g1:2 ^ ((eI x).toNat - 1) * 2 ^ s ≤ x * 2 ^ s:=Int.mul_le_mul_of_nonneg_right b2 (by omega)
  have g2:2147483648 * 4294967296 ^ m ≤ x * 2 ^ s * 4294967296 ^ m:=Int.mul_le_mul_of_nonneg_right (by omega) (by omega)
  have g3:x * 4294967296 ^ m * 2 ^ s ≤ Bv * 2 ^ s:=Int.mul_le_mul_of_nonneg_right h0 (by omega)
  have e2:x * 4294967296 ^ m * 2 ^ s = x * 2 ^ s * 4294967296 ^ m:=by grind
  omega
 ·have e:(4294967296:Int) = 2 ^ (eI x).toNat * 2 ^ s:=by
   rw [← Int.pow_add]
   have:(eI x).toNat + s = 32:=by omega
   rw [this]; decide
  have g1:(x + 1) * 2 ^ s ≤ 2 ^ (eI x).toNat * 2 ^ s:=Int.mul_le_mul_of_nonneg_right (by omega) (by omega)
  have g2:(x + 1) * 2 ^ s * 4294967296 ^ m ≤ 4294967296 * 4294967296 ^ m:=Int.mul_le_mul_of_nonneg_right (by omega) (by omega)
  have g3:Bv * 2 ^ s < (x + 1) * 4294967296 ^ m * 2 ^ s:=Int.mul_lt_mul_of_pos_right h1 hp
  have e2:(x + 1) * 4294967296 ^ m * 2 ^ s = (x + 1) * 2 ^ s * 4294967296 ^ m:=by grind
  rw [Int.pow_succ,Int.mul_comm (4294967296 ^ m)]
  omega
theorem kn_of {v:aT} {u:cg} {m j:Nat} {V R t:Int} (hv:fu 4294967296 v.l) (hu:fu 4294967296 u.l) (hV:V = win v.l 0 (m + 2)) (hV2:2147483648 * 4294967296 ^ (m + 1) ≤ V) (hR:R = win u.l j (m + 3)) (hRV:R < 4294967296 * V) (ht:t = R / V) :
  Kn 4294967296 (4294967296 ^ m) (dg v.l (m + 1)) (dg v.l m) V (dg u.l (j + m + 2) * 4294967296 + dg u.l (j + m + 1)) (dg u.l (j + m)) R t:=by
 have hq:=kY m
 have hVp:0 < V:=by have:=kY (m + 1); omega
 have w2:=win2 v.l 0 m
 have w3:=win3 u.l j m
 rw [Nat.zero_add] at w2
 rw [← hV] at w2
 rw [← hR] at w3
 have l2:=fP hv 0 m
 have l3:=fP hu j m
 have g2:=tH hv 0 m
 have g3:=tH hu j m
 have a1:=hv m
 have a2:=hv (m + 1)
 have a3:=hu (j + m)
 have a4:=hu (j + m + 1)
 have a5:=hu (j + m + 2)
 have hR0:0 ≤ R:=by rw [hR]; exact fP hu _ _
 have e1:dg v.l m + 4294967296 * dg v.l (m + 1) = dg v.l (m + 1) * 4294967296 + dg v.l m:=by omega
 have e2:dg u.l (j + m) + 4294967296 * (dg u.l (j + m + 1) + 4294967296 * dg u.l (j + m + 2)) = (dg u.l (j + m + 2) * 4294967296 + dg u.l (j + m + 1)) * 4294967296 + dg u.l (j + m):=by omega
 rw [e1] at w2
 rw [e2] at w3
 have hpp:(4294967296:Int) ^ (m + 1) = 4294967296 ^ m * 4294967296:=Int.pow_succ _ _
 refine ⟨hq,?_,a2.2,a1,by omega,by rw [Int.add_mul (_ + _) 1]; omega,a3,by omega,by rw [Int.add_mul (_ + _) 1]; omega,by rw [ht]; exact Int.ediv_mul_le _ (by omega),by rw [ht]; exact Int.lt_ediv_add_one_mul_self _ hVp,by rw [ht]; exact Int.ediv_nonneg hR0 (by omega),by rw [ht,Int.ediv_lt_iff_lt_mul hVp]; exact hRV⟩
 rcases (by omega:2147483648 ≤ dg v.l (m + 1) ∨ dg v.l (m + 1) + 1 ≤ 2147483648) with g | g
 ·exact g
 ·have h1:(dg v.l (m + 1) + 1) * (4294967296 ^ m * 4294967296) ≤ 2147483648 * (4294967296 ^ m * 4294967296):=Int.mul_le_mul_of_nonneg_right g (by omega)
  have h2:(dg v.l m + 1) * 4294967296 ^ m ≤ 4294967296 * 4294967296 ^ m:=Int.mul_le_mul_of_nonneg_right (by omega) (by omega)
  have e3:(dg v.l (m + 1) * 4294967296 + dg v.l m) * 4294967296 ^ m = dg v.l (m + 1) * (4294967296 ^ m * 4294967296) + dg v.l m * 4294967296 ^ m:=by grind
  have e4:(dg v.l (m + 1) + 1) * (4294967296 ^ m * 4294967296) = dg v.l (m + 1) * (4294967296 ^ m * 4294967296) + 4294967296 ^ m * 4294967296:=by grind
  have e5:(dg v.l m + 1) * 4294967296 ^ m = dg v.l m * 4294967296 ^ m + 4294967296 ^ m:=by grind
  omega
end Go.Sk
namespace Go.Proofs.YtbcdabflmkgkiaaGreatDoor
open Go Go.Sk
set_option linter.unusedSimpArgs false
set_option linter.unusedVariables false
theorem lz_y (F:Nat) {x:Int} (h0:0 ≤ x) (h1:x < 4294967296):dz F x = some (32 - eI x):=by
 refine aw.eq ?_
 unfold dz
 refine aw.aQ (AM F h0 h1) (aw.some ?_)
 have b4:=pt (m:=x) (k:=32) (by rw [zL]; exact h1)
 have b5:=oK x
 rw [gm]; omega
theorem yp {F:Nat} (hF:18446744073709551616 < F) {v:aT} {u:cg} {m j:Nat} {V R t:Int} (hm:m + 2 ≤ 16) (hj:j + (m + 2) ≤ 16) (hv:fu 4294967296 v.l) (hu:fu 4294967296 u.l) (hV:V = win v.l 0 (m + 2)) (hV2:2147483648 * 4294967296 ^ (m + 1) ≤ V) (hR:R = win u.l j (m + 3)) (hRV:R < 4294967296 * V) (ht:t = R / V) {β:Type} {k:cg → Int → Option β} {Q:β → Prop} (hk:∀ w,fu 4294967296 w.l → qR u w j (m + 2) → win w.l j (m + 3) = R - t * V → aw (k w t) Q) :
  aw (Option.bind (kS F v ((m + 2:Nat):Int) (j:Int) u) (fun x_22=>Option.bind (Option.bind (mA F v ((m + 2:Nat):Int) (j:Int) x_22 u) (cF fun x_25 x_26=>if x_25 = true then (Option.bind (mB F v ((m + 2:Nat):Int) (j:Int) x_26) (fun x_27=>some (x_27,IntKind.u64.wrap (x_22 - 1)))) else (some (x_26,x_22)))) (cF k))) Q:=by
 have K:=kn_of hv hu hV hV2 hR hRV ht
 have hVB:V < 4294967296 ^ (m + 3):=by
  have h1:=tH hv 0 (m + 2)
  have h2:=qY (b:=4294967296) (by decide) (show m + 2 ≤ m + 3 by omega)
  omega
 have hVp:0 < V:=by have:=kY (m + 1); omega
 refine aw.bind (guess_y hF (n:=m + 2) (j:=j) (by omega) hj hv hu (P:=4294967296 ^ m) (V:=V) (R:=R) (t:=t) ?_) ?_
 ·have e1:m + 2 - 1 = m + 1:=by omega
  have e2:m + 2 - 2 = m:=by omega
  have e3:j + (m + 2) = j + m + 2:=by omega
  have e4:j + (m + 2) - 1 = j + m + 1:=by omega
  have e5:j + (m + 2) - 2 = j + m:=by omega
  rw [e1,e2,e4,e5,e3]
  exact K
 ·rintro d ⟨d0,d1,d2,d3⟩
  have ht1:=K.t1
  have ht0:=K.t0
  have hRt:=K.Rt
  have hRt1:=K.tR
  have e9:(t + 1) * V = t * V + V:=by grind
  rw [e9] at hRt1
  refine aw.bind (P:=fun p=>p.2 = t ∧ fu 4294967296 p.1.l ∧ qR u p.1 j (m + 2) ∧ win p.1.l j (m + 3) = R - t * V) (aw.bind (take_y (by omega) (n:=m + 2) (j:=j) hm hj hv hu ⟨d2,d3⟩) ?_) ?_
  ·rintro ⟨bw,w⟩ ⟨win_,wo,hs⟩
   dsimp only at win_ wo hs
   dsimp only [cF]
   rw [← hV] at hs
   have hs':R + (if bw = true then 1 else 0) * 4294967296 ^ (m + 3) = win w.l j (m + 3) + d * V:=by rw [hR]; exact hs
   clear hs
   have w0:=fP win_ j (m + 3)
   have w1:=tH win_ j (m + 3)
   rcases (by omega:d = t ∨ d = t + 1) with e | e
   ·subst e
    cases bw with
    | true=>
     simp only [if_true] at hs'
     omega
    | false=>
     refine aw.iff rfl (aw.some ⟨rfl,win_,wo,?_⟩)
     simp only [Bool.false_eq_true,if_false] at hs'
     dsimp only
     omega
   ·subst e
    rw [e9] at hs'
    cases bw with
    | false=>
     simp only [Bool.false_eq_true,if_false] at hs'
     omega
    | true=>
     simp only [if_true] at hs'
     refine aw.yz rfl (aw.bind (give_y (by omega) (n:=m + 2) (j:=j) hm hj hv win_) ?_)
     rintro z ⟨zin,zo,hz⟩
     have hz':win z.l j (m + 3) = (win w.l j (m + 3) + V) % 4294967296 ^ (m + 3):=by rw [hV]; exact hz
     have e10:win w.l j (m + 3) + V = (R - t * V) + 4294967296 ^ (m + 3) * 1:=by omega
     rw [e10,Int.add_mul_emod_self_left,Int.emod_eq_of_lt (by omega) (by omega)] at hz'
     refine aw.some ⟨?_,zin,fun i hi=>by rw [zo i hi,wo i hi],hz'⟩
     dsimp only
     rw [fv]; omega
  ·rintro ⟨w,d'⟩ ⟨rfl,h1,h2,h3⟩
   exact hk w h1 h2 h3
theorem uA {F:Nat} (hF:18446744073709551616 < F) {a b:aT} (ha:fu 4294967296 a.l) (hb:fu 4294967296 b.l) (h0:av b ≠ 0):hX F a b = some (sX (av a / av b),sX (av a % av b)):=by
 refine aw.eq ?_
 have hb0:=(eZ hb).1
 have ha0:=(eZ ha).1
 have hbp:0 < av b:=by omega
 unfold hX
 refine aw.bind (qe (by omega)) ?_
 rintro nb ⟨nb0,nb1,nbz,nbt⟩
 refine aw.bind (qe (by omega)) ?_
 rintro na ⟨na0,na1,naz,nat⟩
 refine aw.aQ (Ah (by omega) ha hb) ?_
 obtain ⟨m,rfl⟩:∃ m:Nat,nb = m:=⟨nb.toNat,by omega⟩
 obtain ⟨l,rfl⟩:∃ l:Nat,na = l:=⟨na.toNat,by omega⟩
 rw [Int.toNat_natCast] at nbz nbt naz nat
 refine aw.ite (fun h=>?_) (fun h=>?_)
 ·have h':=of_decide_eq_true h
  have hlt:av a < av b:=by
   rcases (by omega:av a < av b ∨ ¬ av a < av b) with g | g
   ·exact g
   ·rw [if_neg g] at h'; split at h' <;> omega
  refine aw.some ?_
  rw [Int.ediv_eq_zero_of_lt ha0 hlt,Int.emod_eq_of_lt ha0 hlt,oi ha,← zero_eq]
 ·have h':=of_decide_eq_false h
  have hge:av b ≤ av a:=by
   rcases (by omega:av a < av b ∨ av b ≤ av a) with g | g
   ·rw [if_pos g] at h'; omega
   ·exact g
  clear h h'
  have hbm:av b = ds 4294967296 (dg b.l) m:=nf (by omega) fun i h1 h2=>nbz i h1 h2
  have ham:av a = ds 4294967296 (dg a.l) l:=nf (by omega) fun i h1 h2=>naz i h1 h2
  refine aw.ite (fun h=>?_) (fun h=>?_)
  ·have h1:m = 1:=by have:=of_decide_eq_true h; omega
   subst h1
   have e1:av b = b.a0:=by rw [hbm]; simp [ds]; rfl
   have hb1:=hb 0
   have e2:dg b.l 0 = b.a0:=rfl
   rw [e2] at hb1
   refine aw.aQ (short_y (by omega) ha (b:=b.a0) (by omega)) ?_
   dsimp only [cF]
   refine aw.ln (aw.some ?_)
   rw [e1]
   congr 1
   have hm0:=Int.emod_nonneg (av a) (show b.a0 ≠ 0 by omega)
   have hm1:=Int.emod_lt_of_pos (av a) (show 0 < b.a0 by omega)
   refine y4 (yU (a:=av a % b.a0) (b:=0) ⟨hm0,by omega⟩ ⟨Int.le_refl _,by decide⟩) ?_
   rw [za]
   omega
  ·have h1:m ≠ 1:=by have:=of_decide_eq_false h; omega
   clear h
   have hm0:m ≠ 0:=by
    rintro rfl
    rw [hbm] at hbp
    exact absurd hbp (by simp [ds])
   obtain ⟨m,rfl⟩:∃ m',m = m' + 2:=⟨m - 2,by omega⟩
   have hml:m + 2 ≤ l:=by
    rcases Nat.lt_or_ge l (m + 2) with g | g
    ·have g1:=qE (b:=4294967296) (by decide) (f:=dg a.l) (n:=l) fun i _=>ha i
     have g2:=nbt (by omega)
     have e3:m + 2 - 1 = m + 1:=by omega
     rw [e3] at g2
     have g3:=hb (m + 1)
     have g4:=hH (b:=4294967296) (by decide) (f:=dg b.l) (n:=m + 1) fun i _=>(hb i).1
     have g5:1 * (4294967296:Int) ^ (m + 1) ≤ dg b.l (m + 1) * 4294967296 ^ (m + 1):=Int.mul_le_mul_of_nonneg_right (by omega) (Int.le_of_lt (kY _))
     have g6:=qY (b:=4294967296) (by decide) (show l ≤ m + 1 by omega)
     rw [hbm,ham,gW] at hge
     omega
    ·exact g
   have hw1:IntKind.i64.wrap (((m + 2:Nat):Int) - 1) = ((m + 1:Nat):Int):=by rw [gm]; omega
   have hwl:IntKind.i64.wrap ((l:Int) - ((m + 2:Nat):Int)) = ((l - (m + 2):Nat):Int):=by rw [gm]; omega
   rw [hw1]
   refine aw.idx (by omega) (by rw [aT.cc]; omega) ?_
   simp only [fL,Int.toNat_natCast]
   have hx:=hb (m + 1)
   have hxt:dg b.l (m + 1) ≠ 0:=by
    have g2:=nbt (by omega)
    have e3:m + 2 - 1 = m + 1:=by omega
    rw [e3] at g2
    exact g2
   generalize hxx:dg b.l (m + 1) = x at *
   refine aw.aQ (lz_y F hx.1 hx.2) ?_
   have b4:=pt (m:=x) (k:=32) (by rw [zL]; exact hx.2)
   obtain ⟨s,hs⟩:∃ s:Nat,(s:Int) = 32 - eI x:=⟨(32 - eI x).toNat,by omega⟩
   rw [← hs]
   have hlo:ds 4294967296 (dg b.l) (m + 1) < 4294967296 ^ (m + 1):=qE (by decide) fun i _=>hb i
   have hlo0:=hH (b:=4294967296) (by decide) (f:=dg b.l) (n:=m + 1) fun i _=>(hb i).1
   have hbs:av b = ds 4294967296 (dg b.l) (m + 1) + x * 4294967296 ^ (m + 1):=by rw [hbm,gW,hxx]
   obtain ⟨hs31,hn1,hn2⟩:=norm_of (Bv:=av b) (x:=x) (m:=m + 1) (s:=s) ⟨by omega,hx.2⟩ hs (by omega) (by rw [Int.add_mul x 1]; omega)
   refine aw.bind (up_y (by omega) hb hs31) ?_
   rintro ⟨v,cv⟩ ⟨vin,cv0,cv1,vs⟩
   dsimp only at vin cv0 cv1 vs
   refine aw.bind (up_y (by omega) ha hs31) ?_
   rintro ⟨w,cw⟩ ⟨win_,cw0,cw1,ws⟩
   dsimp only at win_ cw0 cw1 ws
   dsimp only [cF]
   have hp2:=mE s
   have hp31:=wy hs31
   have hvr:=eZ vin
   have hcv:cv = 0:=by
    have g1:=qY (b:=4294967296) (by decide) (show m + 1 + 1 ≤ 16 by omega)
    rw [← MM32] at g1
    rcases (by omega:cv = 0 ∨ 1 ≤ cv) with g | g
    ·exact g
    ·have:=Int.mul_le_mul_of_nonneg_right g (show 0 ≤ MM by have:=wq; omega)
     omega
   subst hcv
   rw [Int.zero_mul,Int.add_zero] at vs
   obtain ⟨V,hVd⟩:∃ V,V = av v:=⟨_,rfl⟩
   have hVs:V = av b * 2 ^ s:=by rw [hVd,vs]
   have hVw:V = win v.l 0 (m + 2):=by
    have e1:V = win v.l 0 16:=by rw [hVd,B1]; rfl
    rw [e1]
    refine qJ (fun i hi=>win_zero vin (n:=16) (k:=m + 2) (by rw [aT.cc]; omega) ?_ (by omega)) (by omega)
    rw [← e1,hVs]; exact hn2
   have hVp:0 < V:=by rw [hVs]; exact Int.mul_pos hbp hp2
   rw [hwl]
   obtain ⟨J,hJ⟩:∃ J,J = l - (m + 2):=⟨_,rfl⟩
   rw [← hJ]
   have hcw:cw < 4294967296:=by omega
   show aw (Option.bind (iter F _ (aT.zero,a17 w cw,(J:Int))) _) _
   have uin0:fu 4294967296 (a17 w cw).l:=fun i=>by
    rw [a17_l,vO]
    split
    ·exact win_ i
    ·exact DF ⟨cw0,hcw⟩ _
   obtain ⟨u0,hu0⟩:∃ u0,u0 = a17 w cw:=⟨_,rfl⟩
   rw [← hu0] at uin0 ⊢
   have hU:win u0.l 0 17 = av a * 2 ^ s:=by
    rw [eT,← ws,MM32]
    have e1:win u0.l 0 16 = av w:=by
     rw [hu0,B1]
     exact fB fun i hi=>by rw [a17_l,vO,if_pos (by rw [aT.cc]; exact hi)]
    have e2:dg u0.l (0 + 16) = cw:=by rw [hu0]; rfl
    rw [e1,e2]
   have hUl:win u0.l 0 17 < 4294967296 ^ (J + 1) * (4294967296 ^ (m + 1) * 2 ^ s):=by
    have g1:=qE (b:=4294967296) (by decide) (f:=dg a.l) (n:=l) fun i _=>ha i
    rw [← ham] at g1
    have g2:=Int.mul_lt_mul_of_pos_right g1 hp2
    rw [hU,← Int.mul_assoc,← Int.pow_add]
    have e1:J + 1 + (m + 1) = l:=by omega
    rw [e1]; exact g2
   have hVge:4294967296 ^ (m + 1) * 2 ^ s ≤ V:=by
    have g1:1 * 4294967296 ^ (m + 1) ≤ x * 4294967296 ^ (m + 1):=Int.mul_le_mul_of_nonneg_right (by omega) (Int.le_of_lt (kY _))
    have g2:=Int.mul_le_mul_of_nonneg_right (show 4294967296 ^ (m + 1) ≤ av b by omega) (Int.le_of_lt hp2)
    rw [hVs]; exact g2
   have hUz:∀ i,J + 1 + (m + 2) ≤ i → dg u0.l i = 0:=fun i hi=>by
    refine win_zero uin0 (n:=17) (k:=J + 1 + (m + 2)) (by rw [cg.cc]; omega) ?_ hi
    have g1:(4294967296:Int) ^ (m + 1) * 2 ^ s ≤ 4294967296 ^ (m + 1) * 4294967296:=Int.mul_le_mul_of_nonneg_left (by omega) (Int.le_of_lt (kY _))
    have g2:=Int.mul_le_mul_of_nonneg_left g1 (Int.le_of_lt (kY (J + 1)))
    rw [← Int.pow_succ,← Int.pow_add] at g2
    have g3:(4294967296:Int) ^ (J + 1 + (m + 1).succ) = 4294967296 ^ (J + 1 + (m + 2)):=rfl
    omega
   have hUt:win u0.l (J + 1) (m + 2) < V:=by
    have e1:win u0.l (J + 1) (m + 2) = win u0.l (0 + (J + 1)) (17 - (J + 1)):=by
     rw [Nat.zero_add]
     exact (qJ (fun i hi=>hUz i hi) (by omega)).symm
    have e2:17 = (J + 1) + (17 - (J + 1)):=by omega
    rw [e1,← win_div uin0,← e2,Int.ediv_lt_iff_lt_mul (kY _)]
    have g1:=Int.mul_le_mul_of_nonneg_left hVge (Int.le_of_lt (kY (J + 1)))
    rw [Int.mul_comm V]
    omega
   refine aw.bind (P:=fun (p:aT × cg)=>fu 4294967296 p.1.l ∧ fu 4294967296 p.2.l ∧ win u0.l 0 17 = win p.1.l 0 17 * V + win p.2.l 0 (m + 2) ∧ win p.2.l 0 (m + 2) < V ∧ ∀ i,m + 2 ≤ i → dg p.2.l i = 0)
    (aw.rounds (J + 1) (fun (k:Nat) (st:aT × cg × Int)=>st.2.2 = (J:Int) - (k:Int) ∧ fu 4294967296 st.1.l ∧ fu 4294967296 st.2.1.l ∧ (∀ i,i < J + 1 - k → dg st.2.1.l i = dg u0.l i) ∧ (∀ i,J + 1 - k + (m + 2) ≤ i → dg st.2.1.l i = 0) ∧ win st.2.1.l (J + 1 - k) (m + 2) < V ∧ win u0.l (J + 1 - k) (17 - (J + 1 - k)) = win st.1.l (J + 1 - k) (17 - (J + 1 - k)) * V + win st.2.1.l (J + 1 - k) (m + 2)) (by omega) ⟨by dsimp only; omega,jV,uin0,fun i _=>rfl,hUz,hUt,?_⟩ ?_) ?_
   ·dsimp only
    have e1:win aT.zero.l (J + 1 - 0) (17 - (J + 1 - 0)) = 0:=tt fun i _=>by
     have:aT.zero.l = List.replicate 16 0:=rfl
     rw [this,ik]
    rw [e1,Int.zero_mul,Int.zero_add]
    exact qJ (fun i hi=>hUz i hi) (by omega)
   ·rintro k ⟨q,u,jx⟩ hk ⟨rfl,qin,uin,ulo,uhi,ult,us⟩
    dsimp only at qin uin ulo uhi ult us
    dsimp only [kr]
    refine aw.ite (fun h=>?_) (fun h=>?_)
    ·have hk':k < J + 1:=by have:=of_decide_eq_true h; omega
     obtain ⟨j,hj⟩:∃ j,j = J - k:=⟨_,rfl⟩
     have ej:(J:Int) - (k:Int) = (j:Int):=by omega
     have ej1:J + 1 - k = j + 1:=by omega
     rw [ej]
     rw [ej1] at ulo uhi ult us
     obtain ⟨R,hR⟩:∃ R,R = win u.l j (m + 3):=⟨_,rfl⟩
     have hR2:R = dg u.l j + 4294967296 * win u.l (j + 1) (m + 2):=by rw [hR]; exact win_cons u.l j (m + 2)
     have hdj:=uin j
     have hRV:R < 4294967296 * V:=by omega
     have hR0:0 ≤ R:=by rw [hR]; exact fP uin _ _
     obtain ⟨t,ht⟩:∃ t,t = R / V:=⟨_,rfl⟩
     have ht0:0 ≤ t:=by rw [ht]; exact Int.ediv_nonneg hR0 (by omega)
     have ht1:t < 4294967296:=by rw [ht,Int.ediv_lt_iff_lt_mul hVp]; exact hRV
     have hRt:t * V ≤ R:=by rw [ht]; exact Int.ediv_mul_le _ (by omega)
     have hRt1:R < (t + 1) * V:=by rw [ht]; exact Int.lt_ediv_add_one_mul_self _ hVp
     have e9:(t + 1) * V = t * V + V:=by grind
     rw [e9] at hRt1
     refine aw.bind (P:=fun p=>p.1 = q.set (j:Int) t ∧ fu 4294967296 p.2.l ∧ qR u p.2 j (m + 2) ∧ win p.2.l j (m + 3) = R - t * V) (yp hF (j:=j) (by omega) (by omega) vin uin hVw (by rw [hVs]; exact hn1) hR hRV ht ?_) ?_
     ·intro w1 g1 g2 g3
      refine aw.idx (by omega) (by rw [aT.cc]; omega) (aw.some ⟨?_,g1,g2,g3⟩)
      dsimp only
      rw [l6]
      congr 1
      omega
     ·rintro ⟨q1,u1⟩ ⟨rfl,u1in,u1o,u1w⟩
      dsimp only at u1in u1o u1w
      dsimp only [cF]
      have hVB:V < 4294967296 ^ (m + 2):=by rw [hVs]; exact hn2
      have htop:dg u1.l (j + (m + 2)) = 0 ∧ win u1.l j (m + 2) = R - t * V:=by
       have e1:win u1.l j (m + 3) = win u1.l j (m + 2) + dg u1.l (j + (m + 2)) * 4294967296 ^ (m + 2):=eT _ _ _
       have g1:=fP u1in j (m + 2)
       have g2:=u1in (j + (m + 2))
       rcases (by omega:dg u1.l (j + (m + 2)) = 0 ∨ 1 ≤ dg u1.l (j + (m + 2))) with g | g
       ·rw [g] at e1
        exact ⟨g,by omega⟩
       ·have:=Int.mul_le_mul_of_nonneg_right g (Int.le_of_lt (kY (m + 2)))
        omega
      have ej2:J + 1 - (k + 1) = j:=by omega
      refine aw.some (.inl ⟨_,rfl,⟨by dsimp only; rw [gm]; omega,jA qin (by omega) (by omega) ⟨ht0,ht1⟩,u1in,fun i hi=>?_,fun i hi=>?_,?_,?_⟩,hk'⟩)
      ·dsimp only
       rw [ej2] at hi
       rw [u1o i (.inl hi),ulo i (by omega)]
      ·dsimp only
       rw [ej2] at hi
       by_cases e:i = j + (m + 2)
       ·rw [e]; exact htop.1
       ·rw [u1o i (.inr (by omega)),uhi i (by omega)]
      ·dsimp only
       rw [ej2,htop.2]; omega
      ·dsimp only
       rw [ej2,htop.2]
       have e1:17 - j = 17 - (j + 1) + 1:=by omega
       rw [e1,win_cons u0.l,win_cons (q.set (j:Int) t).l,us]
       have e2:dg (q.set (j:Int) t).l j = t:=by rw [fI (by omega) (by omega),Int.toNat_natCast,if_pos rfl]
       have e3:win (q.set (j:Int) t).l (j + 1) (17 - (j + 1)) = win q.l (j + 1) (17 - (j + 1)):=vp fun i h1 h2=>by rw [fI (by omega) (by omega),Int.toNat_natCast,if_neg (by omega)]
       rw [e2,e3,← ulo j (by omega),hR2]
       grind
    ·have hk':k = J + 1:=by have:=of_decide_eq_false h; omega
     subst hk'
     have e0:J + 1 - (J + 1) = 0:=by omega
     rw [e0] at uhi ult us
     exact aw.some (.inr ⟨_,rfl,qin,uin,us,ult,fun i hi=>uhi i (by omega)⟩)
   ·rintro ⟨q,u⟩ ⟨qin,uin,us,ult,uz⟩
    dsimp only at qin uin us ult uz
    dsimp only [cF]
    have hain:fu 4294967296 (zN u).l:=fun i=>by
     rw [a16_l,tv]
     split
     ·exact uin i
     ·decide
    have hav:av (zN u) = win u.l 0 (m + 2):=by
     rw [← qJ (k:=16) (fun i hi=>uz i (by omega)) (by omega),B1]
     exact fB fun i hi=>by rw [a16_l,tv,if_pos hi]
    have hq:win q.l 0 17 = av q:=by
     rw [B1]
     exact y5 (fun i hi=>vj (by rw [aT.cc]; exact hi)) (by omega)
    rw [hU,hq,hVs] at us
    have hR0:0 ≤ win u.l 0 (m + 2):=fP uin _ _
    have hrs:win u.l 0 (m + 2) = (av a - av q * av b) * 2 ^ s:=by
     have e1:(av a - av q * av b) * 2 ^ s = av a * 2 ^ s - av q * (av b * 2 ^ s):=by grind
     omega
    have hdiv:win u.l 0 (m + 2) / 2 ^ s = av a - av q * av b:=by rw [hrs,Int.mul_ediv_cancel _ (by omega)]
    have hr0:0 ≤ av a - av q * av b:=by rw [← hdiv]; exact Int.ediv_nonneg hR0 (by omega)
    have hr1:av a - av q * av b < av b:=by
     rw [hrs,hVs] at ult
     exact Int.lt_of_mul_lt_mul_right ult (by omega)
    obtain ⟨d1,d2⟩:=yn (A:=av a) (B:=av b) (q:=av q) (r:=av a - av q * av b) (by omega) hr0 hr1
    show aw (Option.bind (mC F (zN u) (s:Int)) _) _
    refine aw.aQ (down_y (by omega) hain hs31) (aw.some ?_)
    rw [hav,hdiv,d1,d2,oi qin]
theorem BM {F:Nat} (hF:18446744073709551616 < F) {x y:cV} (hx:oS x) (hy:oS y):km F x y = some (two B3 x y,two remO x y):=by
 refine aw.eq ?_
 unfold km two
 refine aw.aQ (zV (by omega) x y) ?_
 cases ha:iv x with
 | none=>simp only [fN ha,Bool.false_and,Bool.not_false,Bool.not_true]; exact aw.g0 rfl (aw.yz (by simp) (aw.aQ (j7 F) (aw.aQ (j7 F) (aw.some rfl))))
 | some a=>
  cases hb:iv y with
  | none=>simp only [fN hb,Bool.and_false,Bool.not_false,Bool.not_true]; exact aw.g0 rfl (aw.yz (by simp) (aw.aQ (j7 F) (aw.aQ (j7 F) (aw.some rfl))))
  | some b=>
   obtain ⟨ga,rfl,ra⟩:=eF hx ha
   obtain ⟨gb,rfl,rb⟩:=eF hy hb
   obtain ⟨wa,na⟩:=eV ra
   obtain ⟨wb,nb⟩:=eV rb
   have hsb:iB F (df b) = some (BW b):=by rw [Df (by omega) (bC b),hb]
   simp only [ga,gb,Bool.and_self,Bool.not_true,Bool.not_false]
   refine aw.g1 rfl (aw.aQ hsb ?_)
   have hsg:BW b = 0 ↔ b = 0:=by unfold BW; split <;> (try split) <;> omega
   rw [Bool.false_or]
   refine aw.ite (fun h=>?_) (fun h=>?_)
   ·have hz:b = 0:=hsg.1 (of_decide_eq_true h)
    refine aw.aQ (j7 F) (aw.aQ (j7 F) (aw.some ?_))
    simp only [B3,remO,hz,if_true,yD]
   ·have hz:b ≠ 0:=fun e=>(of_decide_eq_false h) (hsg.2 e)
    clear h
    simp only [B3,remO,hz,if_false,yD]
    obtain ⟨t1,t2⟩:=tq a hz
    have hB:=lg hz
    have hm0:=Int.emod_nonneg (aM a) (show aM b ≠ 0 by omega)
    have hm1:=Int.emod_lt_of_pos (aM a) hB
    have hq0:0 ≤ aM a / aM b:=Int.ediv_nonneg (iV a) (by omega)
    have hq1:aM a / aM b ≤ aM a:=Int.ediv_le_self _ (iV a)
    have hsa:iS F (df a) = some (if -9223372036854775808 ≤ a ∧ a ≤ 9223372036854775807 then (a,true) else (0,false)):=by rw [AL (by omega) (bC a),ha]
    have hsb2:iS F (df b) = some (if -9223372036854775808 ≤ b ∧ b ≤ 9223372036854775807 then (b,true) else (0,false)):=by rw [AL (by omega) (bC b),hb]
    refine aw.bind (P:=fun r=>match r with | .inl _=>True | .inr z=>z = (df (fq a b),df (fr a b))) ?_ ?_
    ·refine aw.aQ hsa ?_
     by_cases h1:-9223372036854775808 ≤ a ∧ a ≤ 9223372036854775807
     ·rw [if_pos h1]
      dsimp only [cF]
      refine aw.ite (fun h=>?_) (fun h=>?_)
      ·have h2:a ≠ -9223372036854775808:=by simpa using h
       refine aw.aQ hsb2 ?_
       by_cases h3:-9223372036854775808 ≤ b ∧ b ≤ 9223372036854775807
       ·rw [if_pos h3]
        dsimp only [cF]
        refine aw.ite (fun h=>?_) (fun h=>?_)
        ·have h4:b ≠ -9223372036854775808:=by simpa using h
         have habs:aM a ≤ 9223372036854775807:=by unfold aM; split <;> omega
         have hbbs:aM b ≤ 9223372036854775807:=by unfold aM; split <;> omega
         refine aw.quo hz (aw.rem hz ?_)
         have hw:IntKind.i64.wrap (Int.tdiv a b) = Int.tdiv a b:=by rw [t1]; split <;> rw [n2 (by omega) (by omega)]
         rw [hw]
         have hf1:=fq_abs (a:=a) hz
         have hf2:=(xH (a:=a) hz).1
         refine aw.bind (P:=fun p=>p = (fq a b,fr a b)) (aw.ln ?_) ?_
         ·unfold fq fr
          dsimp only
          rw [t1,t2]
          generalize aM a / aM b = q at *
          generalize aM a % aM b = r at *
          refine aw.ite (fun h=>?_) (fun h=>?_)
          ·simp only [Bool.and_eq_true,decide_eq_true_eq] at h
           obtain ⟨g1,g2⟩:=h
           have hr0:r ≠ 0:=by split at g1 <;> omega
           have e1:decide ((if a < 0 then -r else r) < 0) = decide (a < 0):=by rw [decide_eq_decide]; split <;> omega
           rw [e1] at g2
           refine aw.some ?_
           rw [g2,if_pos rfl,if_pos rfl,if_neg hr0]
           have e2:(true && !decide (r = 0)) = true:=by simp [hr0]
           rw [if_pos e2]
           by_cases hla:a < 0
           ·have hlb:¬ b < 0:=fun hlb=>by simp [hla,hlb] at g2
            have eb:aM b = b:=if_neg hlb
            rw [if_pos hla,if_neg hlb,n2 (by omega) (by omega),n2 (by omega) (by omega)]
            simp only [Prod.mk.injEq]
            omega
           ·have hlb:b < 0:=by
             by_cases hlb:b < 0
             ·exact hlb
             ·simp [hla,hlb] at g2
            have eb:aM b = -b:=if_pos hlb
            rw [if_neg hla,if_pos hlb,n2 (by omega) (by omega),n2 (by omega) (by omega)]
            simp only [Prod.mk.injEq]
            omega
          ·refine aw.some ?_
           by_cases hr0:r = 0
           ·subst hr0
            have e3:(if a < 0 then -(0:Int) else 0) = 0:=by split <;> rfl
            rw [e3]
            simp
           ·have e1:decide ((if a < 0 then -r else r) < 0) = decide (a < 0):=by rw [decide_eq_decide]; split <;> omega
            have e4:decide ((if a < 0 then -r else r) ≠ 0) = true:=decide_eq_true (by split <;> omega)
            rw [e1,e4,Bool.true_and] at h
            have hab:decide (a < 0) = decide (b < 0):=by simpa using h
            have hab2:(a < 0) = (b < 0):=propext (decide_eq_decide.1 hab)
            rw [h]
            simp only [Bool.false_eq_true,if_false,Bool.false_and,hab2]
         ·rintro ⟨q,r⟩ he
          cases he
          dsimp only [cF]
          have hA:-9223372036854775807 ≤ fq a b ∧ fq a b ≤ 9223372036854775807:=by unfold aM at hf1 habs; split at hf1 <;> (split at habs <;> omega)
          have hA2:-9223372036854775807 ≤ fr a b ∧ fr a b ≤ 9223372036854775807:=by unfold aM at hf2 hbbs; split at hf2 <;> (split at hbbs <;> omega)
          exact aw.aQ (yN F (by omega) (by omega)) (aw.aQ (yN F (by omega) (by omega)) (aw.some rfl))
        ·exact aw.some trivial
       ·rw [if_neg h3]
        exact aw.iff rfl (aw.some trivial)
      ·exact aw.some trivial
     ·rw [if_neg h1]
      exact aw.iff rfl (aw.some trivial)
    ·rintro (u | z) hz2
     ·clear hz2 hsa hsb2
      have hW0:av (df b).W ≠ 0:=by rw [wb]; show aM b ≠ 0; omega
      refine aw.aQ (uA hF (bC a) (bC b) hW0) ?_
      have wa':av (df a).W = aM a:=wa
      have wb':av (df b).W = aM b:=wb
      rw [wa',wb',na,nb]
      dsimp only [cF]
      have hla:=tx ra
      have hlb:=tx rb
      refine aw.aQ (fA F _ (kX _)) ?_
      have hqm:aM a / aM b % MM = aM a / aM b:=Int.emod_eq_of_lt hq0 (by omega)
      have hrm:aM a % aM b % MM = aM a % aM b:=Int.emod_eq_of_lt hm0 (by omega)
      rw [je,hqm]
      have hrz:decide (sX (aM a % aM b) ≠ aT.zero) = !decide (aM a % aM b = 0):=by
       rw [Bool.eq_iff_iff]
       simp only [decide_eq_true_eq,Bool.not_eq_true',decide_eq_false_iff_not]
       exact not_congr (rm hm0 (by omega))
      rw [hrz]
      refine aw.bind (P:=fun p=>p = (sX (if ((decide (a < 0) != decide (b < 0)) && !decide (aM a % aM b = 0)) = true then aM b - aM a % aM b else aM a % aM b),df (fq a b))) ?_ ?_
      ·unfold fq
       generalize hQ:aM a / aM b = q at *
       generalize hR:aM a % aM b = r at *
       refine aw.ite (fun h=>?_) (fun h=>?_)
       ·simp only [Bool.and_eq_true,Bool.not_eq_true',decide_eq_false_iff_not] at h
        obtain ⟨g1,g2⟩:=h
        rw [g2,if_pos rfl,if_pos rfl,if_neg g1]
        have e2:(true && !decide (r = 0)) = true:=by simp [g1]
        rw [if_pos e2]
        refine aw.aQ (yN F (by decide) (by decide)) ?_
        have hs1:oU F (df (-q)) (df 1) = some (df (-q - 1)):=by
         rw [Sub_y (by omega) (bC _) (bC _),oY (by omega) (by have:=rY; omega)]; rfl
        refine aw.aQ hs1 ?_
        have hmin:iR F (df b).W (sX r) = some (sX (aM b - r)):=by
         rw [wB (by omega) (bC b) (kX r) (by rw [je,hrm,wb']; omega),je,hrm,wb']
        refine aw.aQ hmin (aw.some ?_)
        have e5:-q - 1 = -(q + 1):=by omega
        rw [e5]
       ·refine aw.some ?_
        cases hs:(decide (a < 0) != decide (b < 0)) with
        | false=>simp
        | true=>
         have hr0:r = 0:=by rw [hs] at h; simpa using h
         subst hr0
         simp
      ·rintro ⟨r',q'⟩ he
       cases he
       dsimp only [cF]
       refine aw.aQ (fA F _ (kX _)) (aw.some ?_)
       have hrr:0 ≤ (if ((decide (a < 0) != decide (b < 0)) && !decide (aM a % aM b = 0)) = true then aM b - aM a % aM b else aM a % aM b) ∧ (if ((decide (a < 0) != decide (b < 0)) && !decide (aM a % aM b = 0)) = true then aM b - aM a % aM b else aM a % aM b) < MM:=by split <;> omega
       rw [je,Int.emod_eq_of_lt hrr.1 hrr.2]
       simp only [fr,decide_eq_true_eq]
     ·exact aw.some hz2
theorem Quo_y {F:Nat} (hF:18446744073709551616 < F) {x y:cV} (hx:oS x) (hy:oS y):kH F x y = some (two B3 x y):=by
 unfold kH
 rw [BM hF hx hy]
 rfl
end Go.Proofs.YtbcdabflmkgkiaaGreatDoor
namespace Go.Sk
set_option linter.unusedSimpArgs false
set_option linter.unusedVariables false
theorem lh (a:Int):aM a = (a.natAbs:Int):=by unfold aM; split <;> omega
theorem xG (X Y:Nat):Nat.gcd X Y = Nat.gcd Y (X % Y):=by rw [Nat.gcd_comm X Y,Nat.gcd_rec Y X,Nat.gcd_comm]
theorem val2 {w:aT} (h:∀ i,2 ≤ i → i < 16 → dg w.l i = 0):av w = w.a0 + w.a1 * 4294967296:=by
 have e:av w = ds 4294967296 (dg w.l) 2:=nf (by omega) fun i h1 h2=>h i h1 h2
 rw [e]
 simp [ds]
 rfl
end Go.Sk
namespace Go.Proofs.YtbcdabflmkgkiaaGreatDoor
open Go Go.Sk
set_option linter.unusedSimpArgs false
set_option linter.unusedVariables false
theorem CW {F:Nat} (hF:18446744073709551616 < F):∀ (n:Nat) {a b:Int},-MM < a ∧ a < MM → -MM < b ∧ b < MM → b.natAbs < n → nj F n (df a) (df b) = some (df (Nat.gcd a.natAbs b.natAbs:Nat))
 | 0,a,b,_,_,h=>absurd h (Nat.not_lt_zero _)
 | n + 1,a,b,ra,rb,hn=>by
  refine aw.eq ?_
  unfold nj
  obtain ⟨wa,na⟩:=eV ra
  obtain ⟨wb,nb⟩:=eV rb
  have wa':av (df a).W = aM a:=wa
  have wb':av (df b).W = aM b:=wb
  have ia:=bC a
  have ib:=bC b
  have hla:=tx ra
  have hlb:=tx rb
  refine aw.aQ (zV (by omega) _ _) ?_
  rw [ss ra,ss rb]
  refine aw.iff rfl ?_
  refine aw.bind (P:=fun r=>match r with | .inl _=>True | .inr z=>z = df (Nat.gcd a.natAbs b.natAbs:Nat)) ?_ ?_
  ·refine aw.bind (qe (by omega)) ?_
   rintro sa ⟨sa0,sa1,saz,_⟩
   by_cases h1:sa ≤ 2
   ·rw [decide_eq_true h1]
    refine aw.g1 rfl (aw.bind (qe (by omega)) ?_)
    rintro sb ⟨sb0,sb1,sbz,_⟩
    refine aw.ite (fun h=>?_) (fun h=>aw.some trivial)
    have h2:sb ≤ 2:=by simpa using h
    have va:=val2 (w:=(df a).W) fun i g1 g2=>saz i (by omega) g2
    have vb:=val2 (w:=(df b).W) fun i g1 g2=>sbz i (by omega) g2
    rw [wa'] at va
    rw [wb'] at vb
    have a0:=ia 0
    have a1:=ia 1
    have b0:=ib 0
    have b1:=ib 1
    generalize (df a).W = A at *
    generalize (df b).W = B at *
    have e0:dg A.l 0 = A.a0:=rfl
    have e1:dg A.l 1 = A.a1:=rfl
    have e2:dg B.l 0 = B.a0:=rfl
    have e3:dg B.l 1 = B.a1:=rfl
    rw [e0] at a0
    rw [e1] at a1
    rw [e2] at b0
    rw [e3] at b1
    have wr:∀ x y:Int,0 ≤ x ∧ x < 4294967296 → 0 ≤ y ∧ y < 4294967296 → jT .u64 (IntKind.u64.wrap ((IntKind.u64.wrap y) * 4294967296)) (IntKind.u64.wrap x) = x + y * 4294967296:=fun x y hx hy=>by
     have q1:IntKind.u64.wrap ((IntKind.u64.wrap y) * 4294967296) = y * 4294967296:=by simp only [fv]; omega
     have q2:IntKind.u64.wrap x = x:=by rw [fv]; omega
     rw [q1,q2,nA 32 (by omega) (by omega) (by rw [zL]; omega) hx.1 (by rw [zL]; omega) (by omega)]
     omega
    rw [wr _ _ a0 a1,wr _ _ b0 b1,← va,← vb]
    have la:aM a < 18446744073709551616:=by omega
    have lb:aM b < 18446744073709551616:=by omega
    rw [lh] at la lb ⊢
    rw [lh b]
    refine aw.bind (P:=fun x=>x = ((Nat.gcd a.natAbs b.natAbs:Nat):Int)) (aw.loop (fun (s:Int × Int)=>∃ X Y:Nat,s = ((X:Int),(Y:Int)) ∧ Nat.gcd X Y = Nat.gcd a.natAbs b.natAbs ∧ Y < 18446744073709551616) (fun s=>s.2.toNat) ⟨_,_,rfl,rfl,by omega⟩ (by dsimp only; omega) ?_) ?_
    ·rintro s ⟨X,Y,rfl,hg,hY⟩
     dsimp only [cF]
     refine aw.ite (fun h=>?_) (fun h=>?_)
     ·have hy:(Y:Int) ≠ 0:=of_decide_eq_true h
      refine aw.rem hy ?_
      rw [mD (by omega)]
      have hm:X % Y < Y:=Nat.mod_lt _ (by omega)
      refine aw.some (.inl ⟨_,rfl,⟨Y,X % Y,by rw [Int.natCast_emod],?_,by omega⟩,?_⟩)
      ·rw [← hg,← xG]
      ·dsimp only
       rw [← Int.natCast_emod]; omega
     ·have hy:(Y:Int) = 0:=by have:=of_decide_eq_false h; omega
      have hy0:Y = 0:=by omega
      subst hy0
      refine aw.some (.inr ⟨_,rfl,?_⟩)
      rw [← hg,Nat.gcd_zero_right]
    ·rintro x rfl
     have hgl:Nat.gcd a.natAbs b.natAbs < 18446744073709551616:=by
      by_cases e:a.natAbs = 0
      ·rw [e,Nat.gcd_zero_left]; omega
      ·have:=Nat.gcd_le_left b.natAbs (show 0 < a.natAbs by omega); omega
     generalize Nat.gcd a.natAbs b.natAbs = G at *
     have g1:IntKind.u32.wrap (G:Int) = (G:Int) % 4294967296:=l6 _
     have g2:IntKind.u32.wrap ((G:Int) / 4294967296) = (G:Int) / 4294967296:=by rw [l6]; omega
     rw [g1,g2]
     refine aw.ln (aw.aQ (fA F _ (yU (by omega) (by omega))) (aw.some ?_))
     rw [za]
     simp only [Bool.false_eq_true,if_false]
     congr 1
     omega
   ·rw [decide_eq_false h1]
    exact aw.g0 rfl (aw.iff rfl (aw.some trivial))
  ·rintro (u | z) hz
   ·have hz0:decide ((df b).W ≠ aT.zero) = !decide (b = 0):=by
     rw [Bool.eq_iff_iff]
     simp only [decide_eq_true_eq,Bool.not_eq_true',decide_eq_false_iff_not]
     have:=mw ib
     rw [wb',BS] at this
     exact not_congr this
    show aw (if decide ((df b).W ≠ aT.zero) = true then _ else _) _
    rw [hz0]
    refine aw.ite (fun h=>?_) (fun h=>?_)
    ·have hb0:b ≠ 0:=by simpa using h
     have hB:=lg hb0
     have hm0:=Int.emod_nonneg (aM a) (show aM b ≠ 0 by omega)
     have hm1:=Int.emod_lt_of_pos (aM a) hB
     refine aw.aQ (uA hF ia ib (by rw [wb']; omega)) ?_
     dsimp only [cF]
     refine aw.aQ (fA F _ ib) (aw.aQ (fA F _ (kX _)) ?_)
     simp only [Bool.false_eq_true,if_false,wa',wb',je]
     rw [Int.emod_eq_of_lt hm0 (by omega)]
     have hrec:=CW hF n (a:=aM b) (b:=aM a % aM b) (by omega) (by omega) (by rw [lh b] at *; omega)
     refine aw.aQ hrec (aw.some ?_)
     have e1:(aM b).natAbs = b.natAbs:=by rw [lh]; omega
     have e2:(aM a % aM b).natAbs = a.natAbs % b.natAbs:=by rw [lh,lh,← Int.natCast_emod]; omega
     rw [e1,e2,← xG]
    ·have hb0:b = 0:=by simpa using h
     subst hb0
     have habs:oX F (df a) = some (df (aM a)):=by rw [Abs_y (by omega) ia,wz ra]; rfl
     refine aw.aQ habs (aw.some ?_)
     rw [lh]
     simp
   ·exact aw.some hz
theorem Gcd_y {F:Nat} (hF:18446744073709551616 < F) {a b:Int} (ra:-MM < a ∧ a < MM) (rb:-MM < b ∧ b < MM) (hb:b.natAbs < F):oW F (df a) (df b) = some (df (Nat.gcd a.natAbs b.natAbs:Nat)):=CW hF F ra rb hb
theorem FFb:18446744073709551616 < FF:=by decide +kernel
theorem FF_MM:MM < FF:=by rw [vn]; decide +kernel
abbrev pP (a:Int):Prop:=-MM < a ∧ a < MM
theorem xo {a b:Int} (ra:pP a) (rb:pP b):jg FF (df a) (df b) = some (df (a * b)):=by rw [Mul_y FF1 (bC a) (bC b),oY ra rb]; rfl
theorem zd {a:Int} (ra:pP a):iB FF (df a) = some (BW a):=by rw [Df FF1 (bC a),jB ra]
theorem z6 {a b:Int} (ra:pP a) (rb:pP b) (h:b ≠ 0):kH FF (df a) (df b) = some (df (fq a b)):=by rw [Quo_y FFb (bC a) (bC b),oY ra rb]; simp only [B3,h,if_false]; rfl
theorem Ci {a b:Int} (ra:pP a) (rb:pP b):oW FF (df a) (df b) = some (df (Nat.gcd a.natAbs b.natAbs:Nat)):=Gcd_y FFb ra rb (by have:=FF_MM; omega)
theorem Of_v {n:Int} (h0:-9223372036854775808 ≤ n) (h1:n ≤ 9223372036854775807):iL FF n = some (df n):=yN FF h0 h1
theorem wA:pP 1:=by have:=rY; constructor <;> omega
theorem Dg:pP 0:=by have:=rY; constructor <;> omega
end Go.Proofs.YtbcdabflmkgkiaaGreatDoor
namespace Go.Sk
set_option linter.unusedSimpArgs false
set_option linter.unusedVariables false
end Go.Sk
namespace Go.Proofs.YtbcdabflmkgkiaaGreatDoor
open Go Go.Sk
set_option linter.unusedSimpArgs false
set_option linter.unusedVariables false
def bf:gS:=⟨bad,df 1⟩
def fits (r:Rat):Prop:=pP r.num ∧ pP r.den
noncomputable instance (r:Rat):Decidable (fits r):=Classical.propDecidable _
def mk (r:Rat):gS:=⟨df r.num,df r.den⟩
noncomputable def BY (r:Rat):gS:=if fits r then mk r else bf
abbrev vR (x:gS):Prop:=oS x.N ∧ oS x.D
def qF (x:gS):Option Rat:=match iv x.N,iv x.D with
 | some n,some d=>if 0 < d ∧ Nat.gcd n.natAbs d.natAbs = 1 then some (Rat.divInt n d) else none
 | _,_=>none
noncomputable def yE (n d:cV):gS:=match iv n,iv d with
 | some a,some b=>if b = 0 then bf else BY (Rat.divInt a b)
 | _,_=>bf
theorem in_mk {N D:cV} (h1:oS N) (h2:oS D):vR ⟨N,D⟩:=And.intro h1 h2
theorem Ch:vR bf:=in_mk tV (bC 1)
theorem tF (r:Rat):vR (mk r):=in_mk (bC _) (bC _)
theorem ofR_in (r:Rat):vR (BY r):=by unfold BY; split; exact tF r; exact Ch
theorem mkB_in (n d:cV):vR (yE n d):=by
 unfold yE; split
 ·split; exact Ch; exact ofR_in _
 ·exact Ch
theorem gB {r:Rat} (h:fits r):BY r = mk r:=by unfold BY; rw [if_pos h]
theorem ofR_not {r:Rat} (h:¬ fits r):BY r = bf:=by unfold BY; rw [if_neg h]
theorem qF_none {N D:cV} (h:iv N = none):qF ⟨N,D⟩ = none:=by
 unfold qF
 dsimp only
 rw [h]
theorem qF_bf:qF bf = none:=by
 unfold bf
 exact qF_none Cz
theorem qF_of {N D:cV} {n d:Int} (hn:iv N = some n) (hd:iv D = some d) (h0:0 < d) (hc:Nat.gcd n.natAbs d.natAbs = 1):qF ⟨N,D⟩ = some (Rat.divInt n d):=by
 unfold qF
 dsimp only
 rw [hn,hd]
 dsimp only
 rw [if_pos ⟨h0,hc⟩]
theorem tE {r:Rat} (h:fits r):qF (mk r) = some r:=by
 have hc:Nat.gcd r.num.natAbs ((r.den:Int)).natAbs = 1:=by rw [Int.natAbs_natCast]; exact r.reduced
 have:=qF_of (jB h.1) (jB h.2) (den_pos r) hc
 rw [Rat.num_divInt_den] at this
 exact this
theorem qK {x:gS} {r:Rat} (hx:vR x) (h:qF x = some r):fits r ∧ x = mk r:=by
 unfold qF at h
 split at h
 ·next n d hn hd=>
  obtain ⟨_,en,rn⟩:=eF hx.1 hn
  obtain ⟨_,ed,rd⟩:=eF hx.2 hd
  split at h
  ·next hc=>
   have e:=qx hc.1 hc.2
   cases h
   refine ⟨⟨by rw [e.1]; exact rn,by rw [e.2]; exact rd⟩,?_⟩
   unfold mk
   rw [e.1,e.2,← en,← ed]
  ·cases h
 ·cases h
theorem y3 {q g:Int} (h:g ≠ 0):fq (q * g) g = q:=by
 refine (BF h (r:=0) (by rw [Int.mul_comm]; omega) ?_ (.inl rfl)).1.symm
 have:=lg h
 simpa [aM] using this
theorem qX {n d:Int} (hd:d ≠ 0) (rn:pP n) (rd:pP d):fits (Rat.divInt n d):=by
 obtain ⟨g0,e1,e2⟩:=red (n:=n) hd
 have key:∀ {a g m:Int},g ≠ 0 → a * g = m → pP m → pP a:=fun {a g m} hg e hm=>by
  have h1:a.natAbs * g.natAbs = m.natAbs:=by rw [← Int.natAbs_mul,e]
  have h2:a.natAbs * 1 ≤ a.natAbs * g.natAbs:=Nat.mul_le_mul_left _ (by omega)
  constructor <;> have:=hm.1 <;> have:=hm.2 <;> omega
 exact ⟨key g0 e1 rn,key g0 e2 rd⟩
theorem tm {x:cV}:kf FF x = some (fV x):=by
 refine aw.eq ?_
 unfold kf fV
 cases h:x.Bad with
 | true=>exact aw.g0 rfl (aw.some (by simp))
 | false=>exact aw.g1 rfl (aw.aQ (AK FF x) (aw.some (by simp [h])))
theorem Cb:nr FF = some (df 1):=by
 unfold nr
 rw [Of_v (by decide) (by decide)]; rfl
theorem qI:kJ FF = some bf:=by
 unfold kJ
 rw [j7,Option.bind_some,Cb]; rfl
theorem sgn_pos {d:Int}:decide (0 < BW d) = decide (0 < d):=by rw [decide_eq_decide]; unfold BW; split <;> (try split) <;> omega
theorem sgn_neg {d:Int}:decide (BW d < 0) = decide (d < 0):=by rw [decide_eq_decide]; unfold BW; split <;> (try split) <;> omega
theorem Dr {d:Int}:decide (BW d = 0) = decide (d = 0):=by rw [decide_eq_decide]; unfold BW; split <;> (try split) <;> omega
theorem tY {x:gS} (hx:vR x):jk FF x = some (qF x).isSome:=by
 refine aw.eq ?_
 unfold jk qF
 refine aw.aQ tm ?_
 cases hn:iv x.N with
 | none=>
  rw [fN hn]
  exact aw.g0 rfl (aw.g0 rfl (aw.g0 rfl (aw.g0 rfl (aw.some rfl))))
 | some n=>
  obtain ⟨gn,en,rn⟩:=eF hx.1 hn
  rw [gn]
  refine aw.g1 rfl (aw.aQ tm ?_)
  cases hd:iv x.D with
  | none=>
   rw [fN hd]
   exact aw.g0 rfl (aw.g0 rfl (aw.g0 rfl (aw.some rfl)))
  | some d=>
   obtain ⟨gd,ed,rd⟩:=eF hx.2 hd
   rw [gd,en,ed]
   refine aw.g1 rfl (aw.aQ (zd rd) ?_)
   rw [sgn_pos]
   by_cases h0:0 < d
   ·rw [decide_eq_true h0]
    refine aw.g1 rfl (aw.aQ (Ci rn rd) (aw.g1 rfl (aw.aQ Cb (aw.some ?_))))
    have hg:pP (Nat.gcd n.natAbs d.natAbs:Nat):=by
     have:=Nat.gcd_le_right n.natAbs (show 0 < d.natAbs by omega)
     have:=rd.1; have:=rd.2
     constructor <;> omega
    have e:(df (Nat.gcd n.natAbs d.natAbs:Nat) = df 1) = (Nat.gcd n.natAbs d.natAbs = 1):=by
     rw [eq_iff_iff,big_inj hg wA]; omega
    simp only [e]
    by_cases h1:Nat.gcd n.natAbs d.natAbs = 1
    ·simp [h1,h0]
    ·simp [h1]
   ·rw [decide_eq_false h0]
    refine aw.g0 rfl (aw.g0 rfl (aw.some ?_))
    simp [h0]
theorem rX {n d:cV} (hn:oS n) (hd:oS d):fW FF n d = some (yE n d):=by
 refine aw.eq ?_
 unfold fW yE
 refine aw.aQ tm ?_
 cases ha:iv n with
 | none=>
  rw [fN ha]
  exact aw.g0 rfl (aw.g0 rfl (aw.yz rfl (aw.aQ qI (aw.some rfl))))
 | some a=>
  obtain ⟨ga,rfl,ra⟩:=eF hn ha
  rw [ga]
  refine aw.g1 rfl (aw.aQ tm ?_)
  cases hb:iv d with
  | none=>
   rw [fN hb]
   exact aw.g0 rfl (aw.yz rfl (aw.aQ qI (aw.some rfl)))
  | some b=>
   obtain ⟨gb,rfl,rb⟩:=eF hd hb
   rw [gb]
   refine aw.g1 rfl (aw.aQ (zd rb) ?_)
   rw [Dr]
   by_cases h0:b = 0
   ·rw [decide_eq_true h0]
    exact aw.yz rfl (aw.aQ qI (aw.some (by simp [h0])))
   ·rw [decide_eq_false h0]
    have hg:pP (Nat.gcd a.natAbs b.natAbs:Nat):=by
     have:=Nat.gcd_le_right a.natAbs (show 0 < b.natAbs by omega)
     have:=rb.1; have:=rb.2
     constructor <;> omega
    have hgs:pP (pI a b):=by unfold pI; split <;> (have:=hg.1; have:=hg.2; constructor <;> omega)
    obtain ⟨g0,e1,e2⟩:=red (n:=a) h0
    refine aw.iff rfl (aw.aQ (Ci ra rb) (aw.bind (P:=fun g=>g = df (pI a b)) (aw.aQ (zd rb) ?_) ?_))
    ·rw [sgn_neg]
     unfold pI
     refine aw.ite (fun h=>?_) (fun h=>?_)
     ·rw [if_pos (of_decide_eq_true h),Neg_y FF1 (bC _),wz hg]; exact aw.some rfl
     ·rw [if_neg (of_decide_eq_false h)]; exact aw.some rfl
    ·rintro g rfl
     refine aw.aQ (z6 ra hgs g0) (aw.aQ (z6 rb hgs g0) (aw.some ?_))
     dsimp only
     rw [if_neg h0,gB (qX h0 ra rb)]
     unfold mk
     have f1:fq a (pI a b) = (Rat.divInt a b).num:=by
      have:=y3 (q:=(Rat.divInt a b).num) g0
      rwa [e1] at this
     have f2:fq b (pI a b) = ((Rat.divInt a b).den:Int):=by
      have:=y3 (q:=((Rat.divInt a b).den:Int)) g0
      rwa [e2] at this
     rw [f1,f2]
end Go.Proofs.YtbcdabflmkgkiaaGreatDoor
