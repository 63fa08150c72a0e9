/- the plain law -/
import Derived.Test.YtcbbilehdaaffaaGreatDoorP1
namespace Go.Proofs.YtcbbilehdaaffaaGreatDoor
open Go Go.Sk
set_option linter.unusedSimpArgs false
set_option linter.unusedVariables false
def un (f:Rat → bz) (x:bz):bz:=match qF x with
 | some r=>f r
 | none=>bf
def bi (f:Rat → Rat → bz) (x y:bz):bz:=match qF x,qF y with
 | some r,some s=>f r s
 | _,_=>bf
theorem uW {f:Rat → bz} {x:bz} (h:qF x = none):un f x = bf:=by unfold un; rw [h]
theorem uV {f:Rat → bz} {x:bz} {r:Rat} (h:qF x = some r):un f x = f r:=by unfold un; rw [h]
theorem ig {f:Rat → Rat → bz} {x y:bz} (h:qF x = none):bi f x y = bf:=by unfold bi; rw [h]
theorem ic {f:Rat → Rat → bz} {x y:bz} (h:qF y = none):bi f x y = bf:=by unfold bi; rw [h]; cases qF x <;> rfl
theorem jw {f:Rat → Rat → bz} {x y:bz} {r s:Rat} (h:qF x = some r) (h2:qF y = some s):bi f x y = f r s:=by unfold bi; rw [h,h2]
theorem tI (r:Rat):(-r).num = -r.num ∧ (-r).den = r.den:=⟨rfl,rfl⟩
theorem n3 {r:Rat} (h:fits r):fits (-r):=by
 obtain ⟨⟨h1,h2⟩,h3⟩:=h
 exact ⟨by rw [(tI r).1]; constructor <;> omega,by rw [(tI r).2]; exact h3⟩
theorem pO (r:Rat):(mk r).N = cP r.num:=by simp only [mk]
theorem oq (r:Rat):(mk r).D = cP r.den:=by simp only [mk]
theorem Neg_f {x:bz} (hx:k5 x):q7 FF x = some (un (fun r=>CU (-r)) x):=by
 refine ap.eq ?_
 unfold q7
 refine ap.ax (j5 hx) ?_
 cases hq:qF x with
 | none=>rw [uW hq]; exact ap.eX rfl (ap.ax rN (ap.some rfl))
 | some r=>
  obtain ⟨hf,rfl⟩:=eZ hx hq
  rw [uV hq,gF (n3 hf),pO,oq]
  refine ap.iff rfl (ap.ax (x:=cP (-r.num)) (by rw [Dn FF1 (ba _),oH hf.1]; rfl) (ap.some ?_))
  unfold mk
  rw [(tI r).1,(tI r).2]
theorem un_in {f:Rat → bz} (hf:∀ r,k5 (f r)) (x:bz):k5 (un f x):=by unfold un; split; exact hf _; exact xa
theorem Bq {f:Rat → Rat → bz} (hf:∀ r s,k5 (f r s)) (x y:bz):k5 (bi f x y):=by unfold bi; split; exact hf _ _; exact xa
theorem oI {a b:Int} (ra:kO a) (rb:kO b) (h:b ≠ 0):yN (cP a) (cP b) = CU (Rat.divInt a b):=by
 unfold yN
 rw [fU ra,fU rb]
 dsimp only
 rw [if_neg h]
def qd (r s:Rat):Int:=((r.den / Nat.gcd r.den s.den:Nat):Int)
theorem DF (r s:Rat):(r.den:Int) = qd r s * (Nat.gcd r.den s.den:Nat):=by
 unfold qd
 have:=Nat.div_mul_cancel (Nat.gcd_dvd_left r.den s.den)
 rw [← Int.natCast_mul,this]
theorem nD (r s:Rat):(0:Int) < (Nat.gcd r.den s.den:Nat):=by
 have:=Nat.gcd_pos_of_pos_left s.den (show 0 < r.den from r.den_pos)
 omega
theorem qd_pos (r s:Rat):0 < qd r s:=by
 have h:=DF r s
 have h0:=den_pos r
 have h1:=nD r s
 rcases (by omega:qd r s ≤ 0 ∨ 0 < qd r s) with h2 | h2
 ·have:=Int.mul_nonpos_of_nonpos_of_nonneg h2 (Int.le_of_lt h1)
  omega
 ·exact h2
theorem qd_le (r s:Rat):qd r s ≤ r.den:=by
 unfold qd
 have:=Nat.div_le_self r.den (Nat.gcd r.den s.den)
 omega
abbrev plus:=fun a b:Int=>some (a + b)
noncomputable def C9 (r s:Rat):bz:=yN (two plus (cP (r.num * qd s r)) (cP (s.num * qd r s))) (cP (qd r s * s.den))
theorem EN {x y:br} (h:iv x = none):yN x y = bf:=by unfold yN; rw [h]
theorem EM {x y:br} (h:iv y = none):yN x y = bf:=by unfold yN; rw [h]; cases iv x <;> rfl
theorem DM {z:Int} (h:¬ kO z):iv (cP z) = none:=by rw [vh h,xR]
theorem w5 {r s:Rat} (h:fits r):kO (qd r s):=by
 have:=qd_pos r s
 have:=qd_le r s
 have:=h.2.2
 have:=tO
 constructor <;> omega
theorem x5 (r s:Rat):fq (r.den:Int) (Nat.gcd r.den s.den:Nat) = qd r s:=by
 have:=vN (q:=qd r s) (g:=(Nat.gcd r.den s.den:Nat)) (by have:=nD r s; omega)
 rwa [← DF] at this
theorem Eb {r s:Rat} (h:fits r):kO (Nat.gcd r.den s.den:Nat):=by
 have:=Nat.gcd_le_left s.den (show 0 < r.den from r.den_pos)
 have:=h.2.2
 have:=tO
 constructor <;> omega
theorem Cq (r s:Rat):k5 (C9 r s):=Am _ _
theorem Add_f {x y:bz} (hx:k5 x) (hy:k5 y):oF FF x y = some (bi C9 x y):=by
 refine ap.eq ?_
 unfold oF
 refine ap.ax (j5 hx) ?_
 cases hq:qF x with
 | none=>rw [ig hq]; exact ap.g0 rfl (ap.eX rfl (ap.ax rN (ap.some rfl)))
 | some r=>
  obtain ⟨hf,rfl⟩:=eZ hx hq
  refine ap.g1 rfl (ap.ax (j5 hy) ?_)
  cases hq2:qF y with
  | none=>rw [ic hq2]; exact ap.eX rfl (ap.ax rN (ap.some rfl))
  | some s=>
   obtain ⟨hs,rfl⟩:=eZ hy hq2
   rw [jw hq hq2,pO,oq,pO,oq]
   have e1:=x5 r s
   have e2:=x5 s r
   rw [Nat.gcd_comm] at e2
   have hg:=nD r s
   have gi:=Eb (s:=s) hf
   refine ap.iff rfl (ap.ax (Dq hf.2 hs.2) ?_)
   rw [Int.natAbs_natCast,Int.natAbs_natCast]
   refine ap.ax (xd hf.2 gi (by omega)) (ap.ax (xd hs.2 gi (by omega)) ?_)
   rw [e1,e2]
   refine ap.ax (yV hf.1 (w5 hs)) (ap.ax (yV hs.1 (w5 hf)) (ap.ax (Add_y FF1 (ba _) (ba _)) (ap.ax (yV (w5 hf) hs.2) (ap.ax (vS (Dw _ _ _) (ba _)) (ap.some rfl)))))
noncomputable def subR (r s:Rat):bz:=C9 r (-s)
theorem Sub_f {x y:bz} (hx:k5 x) (hy:k5 y):sL FF x y = some (bi subR x y):=by
 refine ap.eq ?_
 unfold sL
 refine ap.ax (Neg_f hy) (ap.ax (Add_f hx (un_in (fun r=>vC _) _)) (ap.some ?_))
 cases hq2:qF y with
 | none=>rw [uW hq2,ic hq2,ic Bi]
 | some s=>
  obtain ⟨hs,rfl⟩:=eZ hy hq2
  rw [uV hq2,gF (n3 hs)]
  cases hq:qF x with
  | none=>rw [ig hq,ig hq]
  | some r=>rw [jw hq hq2,jw hq (Bh (n3 hs))]; rfl
theorem xj {r s:Rat} (hr:fits r) (hs:fits s):fits (Rat.divInt r.num s.den) ∧ fits (Rat.divInt s.num r.den) :=
 ⟨qh (by have:=den_pos s; omega) hr.1 hs.2,qh (by have:=den_pos r; omega) hs.1 hr.2⟩
noncomputable def mulR (r s:Rat):bz:=CU (r * s)
theorem Dp {x y:bz} (hx:k5 x) (hy:k5 y):lO FF x y = some (bi mulR x y):=by
 refine ap.eq ?_
 unfold lO
 refine ap.ax (j5 hx) ?_
 cases hq:qF x with
 | none=>rw [ig hq]; exact ap.g0 rfl (ap.eX rfl (ap.ax rN (ap.some rfl)))
 | some r=>
  obtain ⟨hf,rfl⟩:=eZ hx hq
  refine ap.g1 rfl (ap.ax (j5 hy) ?_)
  cases hq2:qF y with
  | none=>rw [ic hq2]; exact ap.eX rfl (ap.ax rN (ap.some rfl))
  | some s=>
   obtain ⟨hs,rfl⟩:=eZ hy hq2
   rw [jw hq hq2,pO,oq,pO,oq]
   have h0:=den_pos r
   have h1:=den_pos s
   obtain ⟨fa,fb⟩:=xj hf hs
   have hp:=DG r s
   refine ap.iff rfl (ap.ax (vS (ba _) (ba _)) (ap.ax (vS (ba _) (ba _)) ?_))
   rw [oI hf.1 hs.2 (by omega),oI hs.1 hf.2 (by omega),gF fa,gF fb,pO,oq,pO,oq]
   refine ap.ax (yV fa.1 fb.1) (ap.ax (yV fa.2 fb.2) ?_)
   rw [← hp.1,← hp.2,Cp,Cp]
   unfold mulR
   by_cases h:fits (r * s)
   ·rw [gF h,decide_eq_true h.1,decide_eq_true h.2]
    exact ap.iff rfl (ap.some rfl)
   ·rw [BK h]
    refine ap.eX ?_ (ap.ax rN (ap.some rfl))
    by_cases h2:kO (r * s).num
    ·have h3:¬ kO (r * s).den:=fun h3=>h ⟨h2,h3⟩
     simp [h3]
    ·simp [h2]
theorem inv_r (s:Rat):Rat.divInt s.den s.num = s⁻¹:=(Rat.inv_def s).symm
noncomputable def Ae (r s:Rat):bz:=if s.num = 0 then bf else CU (r / s)
theorem divR_in (r s:Rat):k5 (Ae r s):=by unfold Ae; split; exact xa; exact vC _
theorem y9 {a:Int} {x:br}:yN x (cP 0) = bf:=by
 unfold yN
 rw [fU yW]
 cases iv x with
 | none=>rfl
 | some a=>dsimp only; rw [if_pos rfl]
theorem wg {s:Rat} (h:s.num ≠ 0) (hs:fits s):fits s⁻¹:=by rw [← inv_r]; exact qh h hs.2 hs.1
theorem BN {s:Rat} (hs:fits s) (h:s.num ≠ 0):yN (cP s.den) (cP s.num) = mk s⁻¹:=by
 rw [oI hs.2 hs.1 h,inv_r,gF (wg h hs)]
theorem Div_f {x y:bz} (hx:k5 x) (hy:k5 y):ng FF x y = some (bi Ae x y):=by
 refine ap.eq ?_
 unfold ng
 refine ap.ax (j5 hy) ?_
 cases hq2:qF y with
 | none=>rw [ic hq2]; exact ap.eX rfl (ap.ax rN (ap.some rfl))
 | some s=>
  obtain ⟨hs,rfl⟩:=eZ hy hq2
  refine ap.iff rfl ?_
  rw [pO,oq]
  refine ap.ax (vS (ba _) (ba _)) (ap.ax (Dp hx (Am _ _)) (ap.some ?_))
  cases hq:qF x with
  | none=>rw [ig hq,ig hq]
  | some r=>
   rw [jw hq hq2]
   unfold Ae
   by_cases h:s.num = 0
   ·rw [if_pos h,h,y9 (a:=0),ic Bi]
   ·rw [if_neg h,BN hs h,jw hq (Bh (wg h hs))]
    unfold mulR
    rw [Rat.div_def]
theorem Ep {x:bz} (hx:k5 x):nZ FF x = some (match qF x with | some r=>rZ r.num | none=>0):=by
 refine ap.eq ?_
 unfold nZ
 refine ap.ax (j5 hx) ?_
 cases hq:qF x with
 | none=>exact ap.eX rfl (ap.some rfl)
 | some r=>
  obtain ⟨hf,rfl⟩:=eZ hx hq
  exact ap.iff rfl (ap.ax (tN hf.1) (ap.some rfl))
theorem Whole_f {n:br} (hn:jX n):oc FF n = some (yN n (cP 1)):=by
 unfold oc
 rw [Bk,Option.bind_some,vS hn (ba 1)]; rfl
theorem DN (z:Int):((z:Rat)).num = z ∧ ((z:Rat)).den = 1:=⟨rfl,rfl⟩
theorem EW {z:Int} (h:kO z):fits (z:Rat):=by
 refine ⟨by rw [(DN z).1]; exact h,?_⟩
 rw [(DN z).2]
 exact u4
theorem A8 (z:Int):Rat.divInt z 1 = (z:Rat):=by
 rw [qu]
 have:((1:Int):Rat) = 1:=rfl
 rw [this,Rat.div_def]
 grind
theorem BM {z:Int} (h:kO z):yN (cP z) (cP 1) = mk (z:Rat):=by
 rw [oI h u4 (by decide),A8,gF (EW h)]
theorem DQ {n:Int} (h:-9223372036854775808 ≤ n ∧ n ≤ 9223372036854775807):kO n:=by
 have:=vT
 constructor <;> omega
theorem Of_f {n:Int} (h:-9223372036854775808 ≤ n ∧ n ≤ 9223372036854775807):ly FF n = some (mk (n:Rat)):=by
 unfold ly
 rw [Of_v h.1 h.2,Option.bind_some,Whole_f (ba _),BM (DQ h)]; rfl
theorem kS {a:Int} (ra:kO a):fO FF (cP a) = some (rZ a):=by rw [rSign_y xC (ba a),fU ra]
theorem vz {a b:Int} (ra:kO a) (rb:kO b):jm FF (cP a) (cP b) = some (cP (a * b)):=by rw [rMul_y xC (ba a) (ba b),oD ra rb]; rfl
theorem tF {a b:Int} (ra:kO a) (rb:kO b) (h:b ≠ 0):iJ FF (cP a) (cP b) = some (cP (fq a b)):=by rw [rQuo_y xC (ba a) (ba b),oD ra rb]; simp only [wP,h,if_false]; rfl
theorem De {n:Int} (h0:-9223372036854775808 ≤ n) (h1:n ≤ 9223372036854775807):gQ FF n = some (cP n):=w4 xC h0 h1
theorem xN:k9 FF = some (cP 1):=by
 unfold k9
 rw [De (by decide) (by decide)]; rfl
theorem ot:kg FF = some bf:=by
 unfold kg
 rw [jC,Option.bind_some,xN]; rfl
theorem js {x:bz} (hx:k5 x):dX FF x = some (qF x).isSome:=by
 refine ap.eq ?_
 unfold dX qF
 refine ap.ax (dL xC hx.1) ?_
 cases hn:iv x.N with
 | none=>
  rw [b8 hn]
  exact ap.g0 rfl (ap.eX rfl (ap.some rfl))
 | some n=>
  obtain ⟨gn,en,rn⟩:=bZ hx.1 hn
  rw [gn]
  refine ap.g1 rfl (ap.ax (dL xC hx.2) ?_)
  cases hd:iv x.D with
  | none=>
   rw [b8 hd]
   exact ap.eX rfl (ap.some rfl)
  | some d=>
   obtain ⟨gd,ed,rd⟩:=bZ hx.2 hd
   rw [gd,en,ed]
   refine ap.iff rfl (ap.ax (kS rd) ?_)
   rw [BB]
   by_cases h0:0 < d
   ·rw [decide_eq_true h0]
    refine ap.g1 rfl (ap.ax (Aj rn rd) (ap.g1 rfl (ap.ax xN (ap.some ?_))))
    have hg:kO (Nat.gcd n.natAbs d.natAbs:Nat):=by
     have:=Nat.gcd_le_right n.natAbs (show 0 < d.natAbs by omega)
     have:=rd.1; have:=rd.2
     constructor <;> omega
    have e:(cP (Nat.gcd n.natAbs d.natAbs:Nat) = cP 1) = (Nat.gcd n.natAbs d.natAbs = 1):=by
     rw [eq_iff_iff,Co hg u4]; omega
    simp only [e]
    by_cases h1:Nat.gcd n.natAbs d.natAbs = 1
    ·simp [h1,h0]
    ·simp [h1]
   ·rw [decide_eq_false h0]
    refine ap.g0 rfl (ap.g0 rfl (ap.some ?_))
    simp [h0]
theorem qZ {n d:br} (hn:jX n) (hd:jX d):gH FF n d = some (yN n d):=by
 refine ap.eq ?_
 unfold gH yN
 refine ap.ax (dL xC hn) ?_
 cases ha:iv n with
 | none=>
  rw [b8 ha]
  exact ap.g0 rfl (ap.g0 rfl (ap.eX rfl (ap.ax ot (ap.some rfl))))
 | some a=>
  obtain ⟨ga,rfl,ra⟩:=bZ hn ha
  rw [ga]
  refine ap.g1 rfl (ap.ax (dL xC hd) ?_)
  cases hb:iv d with
  | none=>
   rw [b8 hb]
   exact ap.g0 rfl (ap.eX rfl (ap.ax ot (ap.some rfl)))
  | some b=>
   obtain ⟨gb,rfl,rb⟩:=bZ hd hb
   rw [gb]
   refine ap.g1 rfl (ap.ax (kS rb) ?_)
   rw [vV]
   by_cases h0:b = 0
   ·rw [decide_eq_true h0]
    exact ap.eX rfl (ap.ax ot (ap.some (by simp [h0])))
   ·rw [decide_eq_false h0]
    have hg:kO (Nat.gcd a.natAbs b.natAbs:Nat):=by
     have:=Nat.gcd_le_right a.natAbs (show 0 < b.natAbs by omega)
     have:=rb.1; have:=rb.2
     constructor <;> omega
    have hgs:kO (nH a b):=by unfold nH; split <;> (have:=hg.1; have:=hg.2; constructor <;> omega)
    obtain ⟨g0,e1,e2⟩:=red (n:=a) h0
    refine ap.iff rfl (ap.ax (Aj ra rb) (ap.bind (P:=fun g=>g = cP (nH a b)) (ap.ax (kS rb) ?_) ?_))
    ·rw [BC]
     unfold nH
     refine ap.ite (fun h=>?_) (fun h=>?_)
     ·rw [if_pos (of_decide_eq_true h),DC xC (ba _),oH hg]; exact ap.some rfl
     ·rw [if_neg (of_decide_eq_false h)]; exact ap.some rfl
    ·rintro g rfl
     refine ap.ax (tF ra hgs g0) (ap.ax (tF rb hgs g0) (ap.some ?_))
     dsimp only
     rw [if_neg h0,gF (qh h0 ra rb)]
     unfold mk
     have f1:fq a (nH a b) = (Rat.divInt a b).num:=by
      have:=vN (q:=(Rat.divInt a b).num) g0
      rwa [e1] at this
     have f2:fq b (nH a b) = ((Rat.divInt a b).den:Int):=by
      have:=vN (q:=((Rat.divInt a b).den:Int)) g0
      rwa [e2] at this
     rw [f1,f2]
theorem rNeg_f {x:bz} (hx:k5 x):qj FF x = some (un (fun r=>CU (-r)) x):=by
 refine ap.eq ?_
 unfold qj
 refine ap.ax (js hx) ?_
 cases hq:qF x with
 | none=>rw [uW hq]; exact ap.eX rfl (ap.ax ot (ap.some rfl))
 | some r=>
  obtain ⟨hf,rfl⟩:=eZ hx hq
  rw [uV hq,gF (n3 hf),pO,oq]
  refine ap.iff rfl (ap.ax (x:=cP (-r.num)) (by rw [DC xC (ba _),oH hf.1]; rfl) (ap.some ?_))
  unfold mk
  rw [(tI r).1,(tI r).2]
theorem DE {x y:bz} (hx:k5 x) (hy:k5 y):nX FF x y = some (bi C9 x y):=by
 refine ap.eq ?_
 unfold nX
 refine ap.ax (js hx) ?_
 cases hq:qF x with
 | none=>rw [ig hq]; exact ap.g0 rfl (ap.eX rfl (ap.ax ot (ap.some rfl)))
 | some r=>
  obtain ⟨hf,rfl⟩:=eZ hx hq
  refine ap.g1 rfl (ap.ax (js hy) ?_)
  cases hq2:qF y with
  | none=>rw [ic hq2]; exact ap.eX rfl (ap.ax ot (ap.some rfl))
  | some s=>
   obtain ⟨hs,rfl⟩:=eZ hy hq2
   rw [jw hq hq2,pO,oq,pO,oq]
   have e1:=x5 r s
   have e2:=x5 s r
   rw [Nat.gcd_comm] at e2
   have hg:=nD r s
   have gi:=Eb (s:=s) hf
   refine ap.iff rfl (ap.ax (Aj hf.2 hs.2) ?_)
   rw [Int.natAbs_natCast,Int.natAbs_natCast]
   refine ap.ax (tF hf.2 gi (by omega)) (ap.ax (tF hs.2 gi (by omega)) ?_)
   rw [e1,e2]
   refine ap.ax (vz hf.1 (w5 hs)) (ap.ax (vz hs.1 (w5 hf)) (ap.ax (rAdd_y xC (ba _) (ba _)) (ap.ax (vz (w5 hf) hs.2) (ap.ax (qZ (Dw _ _ _) (ba _)) (ap.some rfl)))))
theorem rSub_f {x y:bz} (hx:k5 x) (hy:k5 y):qi FF x y = some (bi subR x y):=by
 refine ap.eq ?_
 unfold qi
 refine ap.ax (rNeg_f hy) (ap.ax (DE hx (un_in (fun r=>vC _) _)) (ap.some ?_))
 cases hq2:qF y with
 | none=>rw [uW hq2,ic hq2,ic Bi]
 | some s=>
  obtain ⟨hs,rfl⟩:=eZ hy hq2
  rw [uV hq2,gF (n3 hs)]
  cases hq:qF x with
  | none=>rw [ig hq,ig hq]
  | some r=>rw [jw hq hq2,jw hq (Bh (n3 hs))]; rfl
theorem Ai {x y:bz} (hx:k5 x) (hy:k5 y):lc FF x y = some (bi mulR x y):=by
 refine ap.eq ?_
 unfold lc
 refine ap.ax (js hx) ?_
 cases hq:qF x with
 | none=>rw [ig hq]; exact ap.g0 rfl (ap.eX rfl (ap.ax ot (ap.some rfl)))
 | some r=>
  obtain ⟨hf,rfl⟩:=eZ hx hq
  refine ap.g1 rfl (ap.ax (js hy) ?_)
  cases hq2:qF y with
  | none=>rw [ic hq2]; exact ap.eX rfl (ap.ax ot (ap.some rfl))
  | some s=>
   obtain ⟨hs,rfl⟩:=eZ hy hq2
   rw [jw hq hq2,pO,oq,pO,oq]
   have h0:=den_pos r
   have h1:=den_pos s
   obtain ⟨fa,fb⟩:=xj hf hs
   have hp:=DG r s
   refine ap.iff rfl (ap.ax (qZ (ba _) (ba _)) (ap.ax (qZ (ba _) (ba _)) ?_))
   rw [oI hf.1 hs.2 (by omega),oI hs.1 hf.2 (by omega),gF fa,gF fb,pO,oq,pO,oq]
   refine ap.ax (vz fa.1 fb.1) (ap.ax (vz fa.2 fb.2) ?_)
   rw [← hp.1,← hp.2]
   refine ap.ax (qZ (ba _) (ba _)) (ap.some ?_)
   unfold mulR
   by_cases h:fits (r * s)
   ·rw [oI h.1 h.2 (by have:=den_pos (r * s); omega),Rat.num_divInt_den]
   ·rw [BK h]
    by_cases h2:kO (r * s).num
    ·exact EM (DM fun h3=>h ⟨h2,h3⟩)
    ·exact EN (DM h2)
theorem DD {x y:bz} (hx:k5 x) (hy:k5 y):mn FF x y = some (bi Ae x y):=by
 refine ap.eq ?_
 unfold mn
 refine ap.ax (js hy) ?_
 cases hq2:qF y with
 | none=>rw [ic hq2]; exact ap.eX rfl (ap.ax ot (ap.some rfl))
 | some s=>
  obtain ⟨hs,rfl⟩:=eZ hy hq2
  refine ap.iff rfl ?_
  rw [pO,oq]
  refine ap.ax (qZ (ba _) (ba _)) (ap.ax (Ai hx (Am _ _)) (ap.some ?_))
  cases hq:qF x with
  | none=>rw [ig hq,ig hq]
  | some r=>
   rw [jw hq hq2]
   unfold Ae
   by_cases h:s.num = 0
   ·rw [if_pos h,h,y9 (a:=0),ic Bi]
   ·rw [if_neg h,BN hs h,jw hq (Bh (wg h hs))]
    unfold mulR
    rw [Rat.div_def]
theorem BG {x:bz} (hx:k5 x):l6 FF x = some (match qF x with | some r=>rZ r.num | none=>0):=by
 refine ap.eq ?_
 unfold l6
 refine ap.ax (js hx) ?_
 cases hq:qF x with
 | none=>exact ap.eX rfl (ap.some rfl)
 | some r=>
  obtain ⟨hf,rfl⟩:=eZ hx hq
  exact ap.iff rfl (ap.ax (kS hf.1) (ap.some rfl))
theorem rOf_f {n:Int} (h:-9223372036854775808 ≤ n ∧ n ≤ 9223372036854775807):kT FF n = some (mk (n:Rat)):=by
 unfold kT
 rw [De h.1 h.2,Option.bind_some,xN,Option.bind_some,qZ (ba _) (ba _),BM (DQ h)]; rfl
theorem DB {a b:Int} (ra:kO a) (rb:kO b) (h:b ≠ 0):mo FF (cP a) (cP b) = some (cP (fr a b)):=by rw [rRem_y xC (ba a) (ba b),oD ra rb]; simp only [wO,h,if_false]; rfl
theorem rCmp_v {a b:Int} (ra:kO a) (rb:kO b):mr FF (cP a) (cP b) = some (lM a b):=by rw [xO xC (ba a) (ba b),fU ra,fU rb]
theorem mk_eq (r:Rat):mk r = ⟨cP r.num,cP r.den⟩:=by simp only [mk]
def xG (r s:Rat):Int:=if r < s then -1 else if s < r then 1 else 0
theorem cross_r (r s:Rat):pV r.num r.den s.num s.den = xG r s:=by
 unfold pV lM xG
 simp only [Rat.lt_iff]
def C7 (x y:bz):Int:=match qF x,qF y with
 | none,none=>0
 | none,some _=>-1
 | some _,none=>1
 | some r,some s=>xG r s
theorem zq (a b:Int):-1 ≤ lM a b ∧ lM a b ≤ 1:=by unfold lM; split <;> (try split) <;> omega
theorem xK {o c:Int} (ho:o = 1 ∨ o = -1) (hc:-1 ≤ c ∧ c ≤ 1):IntKind.i64.wrap (o * c) = o * c:=by
 refine fL ?_ ?_ <;> rcases ho with rfl | rfl <;> omega
theorem xJ {z:Int} (h:0 ≤ z):0 ≤ rZ z ∧ rZ z ≤ 1:=by unfold rZ; split <;> (try split) <;> omega
theorem vg {z:Int}:decide (rZ z = 0) = decide (z = 0):=vV
structure xH (c:Int) (p q r s o:Int):Prop where
 ip:kO p
 iq:kO q
 ir:kO r
 is:kO s
 q0:0 < q
 s0:0 < s
 o1:o = 1 ∨ o = -1
 val:o * pV p q r s = c
theorem xH.next {c p q r s o:Int} (h:xH c p q r s o) (he:p / q = r / s) (h1:p % q ≠ 0) (h2:r % s ≠ 0):xH c q (p % q) s (r % s) (-o):=by
 have a0:=Int.emod_nonneg p (show q ≠ 0 by have:=h.q0; omega)
 have a1:=Int.emod_lt_of_pos p h.q0
 have b0:=Int.emod_nonneg r (show s ≠ 0 by have:=h.s0; omega)
 have b1:=Int.emod_lt_of_pos r h.s0
 have:=h.iq.2
 have:=h.is.2
 have:=tO
 refine ⟨h.iq,⟨by omega,by omega⟩,h.is,⟨by omega,by omega⟩,by omega,by omega,by have:=h.o1; omega,?_⟩
 rw [← h.val,A9 he,Int.neg_mul,Int.mul_neg]
theorem xH.start {r s:Rat} (hr:fits r) (hs:fits s):xH (xG r s) r.num r.den s.num s.den 1 :=
 ⟨hr.1,hr.2,hs.1,hs.2,den_pos r,den_pos s,.inl rfl,by rw [Int.one_mul,cross_r]⟩
theorem xB {a b:Int}:lM a b = 0 ↔ a = b:=by unfold lM; split <;> (try split) <;> omega
def dn (x:br):Nat:=match iv x with
 | some d=>d.toNat
 | none=>0
theorem vP {d:Int} (h:kO d):dn (cP d) = d.toNat:=by unfold dn; rw [fU h]
theorem dn_lt {r:Rat} (h:fits r):dn (cP r.den) < FF:=by
 have h1:=h.2.2
 have h2:=Dr
 rw [vP h.2]
 omega
theorem Cmp_f {x y:bz} (hx:k5 x) (hy:k5 y):sM FF x y = some (C7 x y):=by
 refine ap.eq ?_
 unfold sM C7
 refine ap.ax (j5 hx) (ap.ax (j5 hy) ?_)
 cases hq:qF x with
 | none=>
  cases hq2:qF y with
  | none=>exact ap.eX rfl (ap.some rfl)
  | some s=>exact ap.iff rfl (ap.eX rfl (ap.some rfl))
 | some r=>
  cases hq2:qF y with
  | none=>exact ap.iff rfl (ap.iff rfl (ap.eX rfl (ap.some rfl)))
  | some s=>
   obtain ⟨hr,rfl⟩:=eZ hx hq
   obtain ⟨hs,rfl⟩:=eZ hy hq2
   refine ap.iff rfl (ap.iff rfl (ap.iff rfl ?_))
   refine ap.bind (P:=fun z=>z = xG r s) (ap.loop (fun st:bz × bz × Int=>∃ p q u v,st.1 = ⟨cP p,cP q⟩ ∧ st.2.1 = ⟨cP u,cP v⟩ ∧ xH (xG r s) p q u v st.2.2) (fun st=>dn st.1.D) ⟨r.num,r.den,s.num,s.den,mk_eq r,mk_eq s,xH.start hr hs⟩ ?_ ?_) (fun z hz=>ap.some hz)
   ·rw [oq]; exact dn_lt hr
   ·rintro ⟨_,_,o⟩ ⟨p,q,u,v,rfl,rfl,hI⟩
    dsimp only at hI
    dsimp only [ky]
    have hq0:q ≠ 0:=by have:=hI.q0; omega
    have hv0:v ≠ 0:=by have:=hI.s0; omega
    refine ap.ax (xd hI.ip hI.iq hq0) (ap.ax (xd hI.ir hI.is hv0) (ap.ax (Cmp_v (xZ hq0 hI.ip) (xZ hv0 hI.ir)) ?_))
    obtain ⟨f1,g1⟩:=rA p hI.q0
    obtain ⟨f2,g2⟩:=rA u hI.s0
    rw [f1,f2]
    refine ap.ite (fun h=>?_) (fun h=>?_)
    ·have h':lM (p / q) (u / v) ≠ 0:=of_decide_eq_true h
     refine ap.some (.inr ⟨_,rfl,?_⟩)
     rw [xK hI.o1 (zq _ _),← hI.val,uJ hI.q0 hI.s0 h']
    ·have h':lM (p / q) (u / v) = 0:=by have:=of_decide_eq_false h; omega
     have he:=xB.1 h'
     refine ap.ax (Rem_v hI.ip hI.iq hq0) (ap.ax (Rem_v hI.ir hI.is hv0) (ap.ax (tN (vM hq0 hI.iq)) (ap.ax (tN (vM hv0 hI.is)) ?_)))
     rw [g1,g2,vg,vg]
     have a0:=Int.emod_nonneg p hq0
     have b0:=Int.emod_nonneg u hv0
     have a1:=Int.emod_lt_of_pos p hI.q0
     refine ap.ite (fun h=>?_) (fun h=>?_)
     ·simp only [Bool.or_eq_true,decide_eq_true_eq] at h
      refine ap.ln (ap.some (.inr ⟨_,rfl,?_⟩))
      have c1:=xJ a0
      have c2:=xJ b0
      rw [fL (z:=rZ (p % q) - rZ (u % v)) (by omega) (by omega),xK hI.o1 (by omega),← hI.val,xz hI.q0 hI.s0 he h]
     ·simp only [Bool.or_eq_false_iff,decide_eq_false_iff_not] at h
      have ho:IntKind.i64.wrap (-o) = -o:=by have:=hI.o1; exact fL (by omega) (by omega)
      have hn:=hI.next he h.1 h.2
      refine ap.some (.inl ⟨_,rfl,⟨_,_,_,_,rfl,rfl,by dsimp only; rw [ho]; exact hn⟩,?_⟩)
      dsimp only
      rw [vP hI.iq,vP hn.iq]
      omega
theorem tJ (x:bz) (g:Bool):l5 FF x g = some (if g = true then cP 0 else bad):=by
 unfold l5
 cases g
 ·rw [if_neg (by simp),if_neg (by simp),jC]; rfl
 ·rw [if_pos rfl,if_pos rfl,De (by decide) (by decide)]; rfl
theorem yk (g:Bool):iv (if g = true then cP 0 else bad) = if g = true then some 0 else none:=by
 cases g
 ·rw [if_neg (by simp),if_neg (by simp),xR]
 ·rw [if_pos rfl,if_pos rfl,fU yW]
theorem rc (g:Bool):jX (if g = true then cP 0 else bad):=by
 cases g
 ·exact tM
 ·exact ba 0
theorem rCmp_f {x y:bz} (hx:k5 x) (hy:k5 y):qk FF x y = some (C7 x y):=by
 refine ap.eq ?_
 unfold qk C7
 refine ap.ax (js hx) (ap.ax (js hy) ?_)
 cases hq:qF x with
 | none=>
  cases hq2:qF y with
  | none=>exact ap.eX rfl (ap.ax (tJ _ _) (ap.ax (tJ _ _) (ap.ax (xO xC (rc _) (rc _)) (ap.some (by simp only [yk]; rfl)))))
  | some s=>exact ap.eX rfl (ap.ax (tJ _ _) (ap.ax (tJ _ _) (ap.ax (xO xC (rc _) (rc _)) (ap.some (by simp only [yk]; rfl)))))
 | some r=>
  cases hq2:qF y with
  | none=>exact ap.eX rfl (ap.ax (tJ _ _) (ap.ax (tJ _ _) (ap.ax (xO xC (rc _) (rc _)) (ap.some (by simp only [yk]; rfl)))))
  | some s=>
   obtain ⟨hr,rfl⟩:=eZ hx hq
   obtain ⟨hs,rfl⟩:=eZ hy hq2
   refine ap.iff rfl ?_
   rw [pO,oq,pO,oq]
   refine ap.bind (P:=fun z=>z = xG r s) (ap.loop (fun st:Int × kb × kb=>∃ p q u v,st.2.1 = ⟨cP p,cP q⟩ ∧ st.2.2 = ⟨cP u,cP v⟩ ∧ xH (xG r s) p q u v st.1) (fun st=>dn st.2.1.a1) ⟨r.num,r.den,s.num,s.den,rfl,rfl,xH.start hr hs⟩ ?_ ?_) (fun z hz=>ap.some hz)
   ·dsimp only; exact dn_lt hr
   ·rintro ⟨o,_,_⟩ ⟨p,q,u,v,rfl,rfl,hI⟩
    dsimp only at hI
    dsimp only [ky]
    have hq0:q ≠ 0:=by have:=hI.q0; omega
    have hv0:v ≠ 0:=by have:=hI.s0; omega
    refine ap.ax (tF hI.ip hI.iq hq0) (ap.ax (tF hI.ir hI.is hv0) (ap.ax (rCmp_v (xZ hq0 hI.ip) (xZ hv0 hI.ir)) ?_))
    obtain ⟨f1,g1⟩:=rA p hI.q0
    obtain ⟨f2,g2⟩:=rA u hI.s0
    rw [f1,f2]
    refine ap.ite (fun h=>?_) (fun h=>?_)
    ·have h':lM (p / q) (u / v) ≠ 0:=of_decide_eq_true h
     refine ap.some (.inr ⟨_,rfl,?_⟩)
     rw [xK hI.o1 (zq _ _),← hI.val,uJ hI.q0 hI.s0 h']
    ·have h':lM (p / q) (u / v) = 0:=by have:=of_decide_eq_false h; omega
     have he:=xB.1 h'
     refine ap.ax (DB hI.ip hI.iq hq0) (ap.ax (DB hI.ir hI.is hv0) (ap.ax (kS (vM hq0 hI.iq)) ?_))
     rw [g1,g2,vg]
     have a0:=Int.emod_nonneg p hq0
     have b0:=Int.emod_nonneg u hv0
     have a1:=Int.emod_lt_of_pos p hI.q0
     have ru:kO (u % v):=by rw [← g2]; exact vM hv0 hI.is
     have rp:kO (p % q):=by rw [← g1]; exact vM hq0 hI.iq
     have fin:(p % q = 0 ∨ u % v = 0) → IntKind.i64.wrap (o * IntKind.i64.wrap (rZ (p % q) - rZ (u % v))) = xG r s:=fun h=>by
      have c1:=xJ a0
      have c2:=xJ b0
      rw [fL (z:=rZ (p % q) - rZ (u % v)) (by omega) (by omega),xK hI.o1 (by omega),← hI.val,xz hI.q0 hI.s0 he h]
     by_cases h1:p % q = 0
     ·rw [decide_eq_true h1]
      exact ap.g0 rfl (ap.eX rfl (ap.ax (kS rp) (ap.ax (kS ru) (ap.some (.inr ⟨_,rfl,fin (.inl h1)⟩)))))
     ·rw [decide_eq_false h1]
      refine ap.g1 rfl (ap.ax (kS ru) ?_)
      rw [vg]
      by_cases h2:u % v = 0
      ·rw [decide_eq_true h2]
       exact ap.eX rfl (ap.ax (kS rp) (ap.ax (kS ru) (ap.some (.inr ⟨_,rfl,fin (.inr h2)⟩))))
      ·rw [decide_eq_false h2]
       have ho:IntKind.i64.wrap (-o) = -o:=by have:=hI.o1; exact fL (by omega) (by omega)
       have hn:=hI.next he h1 h2
       refine ap.iff rfl (ap.some (.inl ⟨_,rfl,⟨_,_,_,_,rfl,rfl,by dsimp only; rw [ho]; exact hn⟩,?_⟩))
       dsimp only
       rw [vP hI.iq,vP hn.iq]
       omega
theorem F4:∃ k,FF = k + 4:=⟨FF - 4,by have:=FF1; omega⟩
def sm (n:Int):Bool:=decide (-16 ≤ n) && decide (n ≤ 16)
def vU (u:aO):Bool:=sm u.M && sm u.Kg && sm u.S
theorem xI {n:Int}:sm n = true ↔ -16 ≤ n ∧ n ≤ 16:=by simp [sm]
theorem nI {u:aO}:vU u = true ↔ (-16 ≤ u.M ∧ u.M ≤ 16) ∧ (-16 ≤ u.Kg ∧ u.Kg ≤ 16) ∧ (-16 ≤ u.S ∧ u.S ≤ 16):=by simp [vU,xI,and_assoc]
theorem oU (u:aO):dC FF u = some (vU u):=by
 obtain ⟨k,hk⟩:=F4
 rw [hk]
 unfold dC fP iX
 have w1:IntKind.i64.wrap (0 + 1) = 1:=by decide
 have w2:IntKind.i64.wrap (1 + 1) = 2:=by decide
 have w3:IntKind.i64.wrap (2 + 1) = 3:=by decide
 have i0:bI (⟨u.M,u.Kg,u.S⟩:A3).l 0 = some u.M:=rfl
 have i1:bI (⟨u.M,u.Kg,u.S⟩:A3).l 1 = some u.Kg:=rfl
 have i2:bI (⟨u.M,u.Kg,u.S⟩:A3).l 2 = some u.S:=rfl
 simp only [Option.bind_some,eG,show ((0:Int) < 3) = True from by simp,show ((1:Int) < 3) = True from by simp,show ((2:Int) < 3) = True from by simp,show ((3:Int) < 3) = False from by simp,decide_true,decide_false,if_true,Bool.false_eq_true,if_false,i0]
 unfold vU
 cases h1:sm u.M
 ·simp only [sm] at h1; simp [h1,ls]
 ·simp only [sm] at h1
  simp only [h1,Bool.not_true,Bool.false_eq_true,if_false,Option.bind_some,ls,w1,eG,show ((1:Int) < 3) = True from by simp,decide_true,if_true,i1]
  cases h2:sm u.Kg
  ·simp only [sm] at h2; simp [h2,ls]
  ·simp only [sm] at h2
   simp only [h2,Bool.not_true,Bool.false_eq_true,if_false,Option.bind_some,ls,w2,eG,show ((2:Int) < 3) = True from by simp,decide_true,if_true,i2]
   cases h3:sm u.S
   ·simp only [sm] at h3; simp [h3,ls]
   ·simp only [sm] at h3
    simp only [h3,Bool.not_true,Bool.false_eq_true,if_false,Option.bind_some,ls,w3,eG,show ((3:Int) < 3) = False from by simp,decide_false,Bool.true_and]
theorem xL (n:Int):c8 FF n = some (sm n):=rfl
theorem k8 (u:aO):bH FF u = some (vU u):=by
 unfold bH vU
 rw [xL,xL,xL]
 cases h1:sm u.M <;> cases h2:sm u.Kg <;> cases h3:sm u.S <;> rfl
theorem s4 {n v:Int} (hn:-16 ≤ n ∧ n ≤ 16) (hv:-16 ≤ v ∧ v ≤ 16):-256 ≤ n * v ∧ n * v ≤ 256:=by
 have h:(n * v).natAbs ≤ 16 * 16:=by rw [Int.natAbs_mul]; exact Nat.mul_le_mul (by omega) (by omega)
 omega
def zU:aO:=⟨0,0,0⟩
def CX (u v:aO) (n:Int):aO:=⟨u.M + n * v.M,u.Kg + n * v.Kg,u.S + n * v.S⟩
def sA (u v:aO) (n:Int):aO × Int:=if (vU u && vU v && sm n) = true then (if vU (CX u v n) = true then (CX u v n,0) else (zU,2)) else (zU,1)
theorem vU_z:vU zU = true:=by decide
theorem x9 {u v:aO} {n:Int} (h1:vU u = true) (h2:vU v = true) (h3:sm n = true):sA u v n = if vU (CX u v n) = true then (CX u v n,0) else (zU,2):=by unfold sA; rw [h1,h2,h3]; rfl
theorem wq {u v:aO} {n:Int} (h1:vU u = false):sA u v n = (zU,1):=by unfold sA; rw [h1]; rfl
theorem s8 {u v:aO} {n:Int} (h1:vU v = false):sA u v n = (zU,1):=by unfold sA; rw [h1]; cases vU u <;> rfl
theorem wm {u v:aO} {n:Int} (h1:sm n = false):sA u v n = (zU,1):=by unfold sA; rw [h1]; cases vU u <;> cases vU v <;> rfl
theorem wk {u v n:Int} (hu:-16 ≤ u ∧ u ≤ 16) (hn:-16 ≤ n ∧ n ≤ 16) (hv:-16 ≤ v ∧ v ≤ 16):IntKind.i64.wrap (u + IntKind.i64.wrap (n * v)) = u + n * v:=by
 have:=s4 hn hv
 rw [fL (z:=n * v) (by omega) (by omega),fL (by omega) (by omega)]
theorem ua (u v:aO) (n:Int):eU FF u v n = some (sA u v n):=by
 refine ap.eq ?_
 unfold eU
 refine ap.ax (oU u) ?_
 cases h1:vU u
 ·rw [wq h1]; exact ap.g0 rfl (ap.g0 rfl (ap.eX rfl (ap.some rfl)))
 refine ap.g1 rfl (ap.ax (oU v) ?_)
 cases h2:vU v
 ·rw [s8 h2]; exact ap.g0 rfl (ap.eX rfl (ap.some rfl))
 refine ap.g1 rfl (ap.ax (show iX FF n = some (sm n) from rfl) ?_)
 cases h3:sm n
 ·rw [wm h3]; exact ap.eX rfl (ap.some rfl)
 obtain ⟨a1,a2,a3⟩:=nI.1 h1
 obtain ⟨b1,b2,b3⟩:=nI.1 h2
 have c:=xI.1 h3
 rw [x9 h1 h2 h3]
 refine ap.iff rfl (ap.r4 _ (wk a1 c b1) (ap.r4 _ (wk a2 c b2) (ap.r4 _ (wk a3 c b3) (ap.ax (oU (CX u v n)) ?_))))
 cases h4:vU (CX u v n)
 ·exact ap.eX rfl (ap.some rfl)
 ·exact ap.iff rfl (ap.some rfl)
theorem Mul_u (u v:aO):mC FF u v = some (sA u v 1):=by unfold mC; rw [ua]; rfl
theorem Div_u (u v:aO):mD FF u v = some (sA u v (-1)):=by unfold mD; rw [ua]; rfl
theorem Pow_u (u:aO) (n:Int):mB FF u n = some (sA zU u n):=by unfold mB; rw [show (⟨0,0,0⟩:aO) = zU from rfl,ua]; rfl
def mdo (r:aO × Int):Made:=⟨r.1,r.2⟩
theorem An {w:aO}:de FF w = some (if vU w = true then ⟨w,0⟩ else ⟨zU,2⟩):=by
 unfold de
 rw [k8]
 cases h:vU w <;> rfl
theorem rMul_u (u v:aO):fE FF u v = some (mdo (sA u v 1)):=by
 refine ap.eq ?_
 unfold fE
 refine ap.ax (k8 u) ?_
 cases h1:vU u
 ·rw [wq h1]; exact ap.g0 rfl (ap.eX rfl (ap.some rfl))
 refine ap.g1 rfl (ap.ax (k8 v) ?_)
 cases h2:vU v
 ·rw [s8 h2]; exact ap.eX rfl (ap.some rfl)
 obtain ⟨a1,a2,a3⟩:=nI.1 h1
 obtain ⟨b1,b2,b3⟩:=nI.1 h2
 refine ap.iff rfl (ap.r4 (CX u v 1) ?_ (ap.ax An (ap.some ?_)))
 ·simp only [CX,aO.mk.injEq]
  refine ⟨?_,?_,?_⟩ <;> rw [fL (by omega) (by omega)] <;> omega
 ·rw [x9 h1 h2 (by decide)]
  split <;> rfl
theorem rDiv_u (u v:aO):fF FF u v = some (mdo (sA u v (-1))):=by
 refine ap.eq ?_
 unfold fF
 refine ap.ax (k8 u) ?_
 cases h1:vU u
 ·rw [wq h1]; exact ap.g0 rfl (ap.eX rfl (ap.some rfl))
 refine ap.g1 rfl (ap.ax (k8 v) ?_)
 cases h2:vU v
 ·rw [s8 h2]; exact ap.eX rfl (ap.some rfl)
 obtain ⟨a1,a2,a3⟩:=nI.1 h1
 obtain ⟨b1,b2,b3⟩:=nI.1 h2
 refine ap.iff rfl (ap.r4 (CX u v (-1)) ?_ (ap.ax An (ap.some ?_)))
 ·simp only [CX,aO.mk.injEq]
  refine ⟨?_,?_,?_⟩ <;> rw [fL (by omega) (by omega)] <;> omega
 ·rw [x9 h1 h2 (by decide)]
  split <;> rfl
theorem rPow_u (u:aO) (n:Int):fD FF u n = some (mdo (sA zU u n)):=by
 refine ap.eq ?_
 unfold fD
 refine ap.ax (k8 u) ?_
 cases h1:vU u
 ·rw [s8 h1]; exact ap.g0 rfl (ap.eX rfl (ap.some rfl))
 refine ap.g1 rfl (ap.ax (xL n) ?_)
 cases h2:sm n
 ·rw [wm h2]; exact ap.eX rfl (ap.some rfl)
 obtain ⟨a1,a2,a3⟩:=nI.1 h1
 have c:=xI.1 h2
 have p1:=s4 c a1
 have p2:=s4 c a2
 have p3:=s4 c a3
 refine ap.iff rfl (ap.r4 (CX zU u n) ?_ (ap.ax An (ap.some ?_)))
 ·simp only [CX,zU,aO.mk.injEq]
  refine ⟨?_,?_,?_⟩ <;> rw [fL (by omega) (by omega)] <;> omega
 ·rw [x9 vU_z h1 h2]
  split <;> rfl
def zQ:az:=⟨⟨⟨false,false,aU.zero⟩,⟨false,false,aU.zero⟩⟩,zU⟩
def rt (a:az):Bool:=(qF a.V).isSome && vU a.U
abbrev pL (a:az):Prop:=k5 a.V
theorem w01:IntKind.i64.wrap (0 + 1) = 1:=by decide
theorem w12:IntKind.i64.wrap (1 + 1) = 2:=by decide
theorem xv {a:az} (ha:pL a):cY FF [a] = some (rt a):=by
 obtain ⟨k,hk⟩:=F4
 have hg:dx (k + 4) a.V = some (qF a.V).isSome:=by rw [← hk]; exact j5 ha
 have hv:dC (k + 4) a.U = some (vU a.U):=by rw [← hk]; exact oU _
 rw [hk]
 unfold cY rt
 have e1:(([a].length:Nat):Int) = 1:=rfl
 have i0:bI [a] 0 = some a:=rfl
 simp only [e1,eG,show ((0:Int) < 1) = True from by simp,show ((1:Int) < 1) = False from by simp,decide_true,if_true,i0,Option.bind_some,hg]
 cases (qF a.V).isSome
 ·rfl
 ·simp only [Bool.not_true,Bool.not_false,bE,if_true,hv,Option.bind_some]
  cases vU a.U
  ·rfl
  ·simp only [w01,ls,eG,show ((1:Int) < 1) = False from by simp,decide_false,Bool.false_eq_true,if_false,Bool.not_true,Bool.or_false,Option.bind_some,Bool.true_and]
theorem tX {a b:az} (ha:pL a) (hb:pL b):cY FF [a,b] = some (rt a && rt b):=by
 obtain ⟨k,hk⟩:=F4
 have hg:dx (k + 4) a.V = some (qF a.V).isSome:=by rw [← hk]; exact j5 ha
 have hv:dC (k + 4) a.U = some (vU a.U):=by rw [← hk]; exact oU _
 have hg2:dx (k + 4) b.V = some (qF b.V).isSome:=by rw [← hk]; exact j5 hb
 have hv2:dC (k + 4) b.U = some (vU b.U):=by rw [← hk]; exact oU _
 rw [hk]
 unfold cY rt
 have e1:(([a,b].length:Nat):Int) = 2:=rfl
 have i0:bI [a,b] 0 = some a:=rfl
 have i1:bI [a,b] 1 = some b:=rfl
 simp only [e1,eG,show ((0:Int) < 2) = True from by simp,show ((1:Int) < 2) = True from by simp,show ((2:Int) < 2) = False from by simp,decide_true,if_true,i0,Option.bind_some,hg]
 cases (qF a.V).isSome
 ·rfl
 ·simp only [Bool.not_true,Bool.not_false,bE,if_true,hv,Option.bind_some]
  cases vU a.U
  ·rfl
  ·simp only [w01,ls,eG,show ((1:Int) < 2) = True from by simp,decide_true,if_true,Bool.false_eq_true,if_false,Bool.not_true,Bool.or_false,Option.bind_some,Bool.true_and,i1,hg2]
   cases (qF b.V).isSome
   ·rfl
   ·simp only [Bool.not_true,Bool.not_false,bE,if_true,hv2,Option.bind_some]
    cases vU b.U
    ·rfl
    ·simp only [w12,ls,eG,show ((2:Int) < 2) = False from by simp,decide_false,Bool.false_eq_true,if_false,Bool.not_true,Bool.or_false,Option.bind_some,Bool.true_and]
def quF (v:bz) (u:aO):az × Int:=if (qF v).isSome = true then (⟨v,u⟩,0) else (zQ,30)
def gdo (r:az × Int):ug:=⟨r.1,r.2⟩
theorem sq {v:bz} {u:aO} (h:k5 v):fu FF v u = some (quF v u):=by
 unfold fu quF
 rw [j5 h]
 cases (qF v).isSome <;> rfl
theorem lg {v:bz} {u:aO} (h:k5 v):bL FF v u = some (gdo (quF v u)):=by
 unfold bL quF
 rw [js h]
 cases (qF v).isSome <;> rfl
theorem jl {a:az} (ha:pL a):bu FF a = some (rt a):=by
 unfold bu rt
 rw [js ha,k8]
 cases (qF a.V).isSome <;> cases vU a.U <;> rfl
def Ac (u v:aO):aO × Int:=if u ≠ v then (zU,110) else (u,0)
def Ad (nf:bz → bz → bz) (uf:aO → aO → aO × Int) (a b:az):az × Int :=
 if (rt a && rt b) = true then (if (uf a.U b.U).2 ≠ 0 then (zQ,(uf a.U b.U).2) else quF (nf a.V b.V) (uf a.U b.U).1) else (zQ,1)
theorem oO {nf:bz → bz → bz} {uf:aO → aO → aO × Int} {a b:az} (h:(rt a && rt b) = false):Ad nf uf a b = (zQ,1):=by unfold Ad; rw [h]; rfl
theorem sX {nf:bz → bz → bz} {uf:aO → aO → aO × Int} {a b:az} (h:(rt a && rt b) = true) (h2:(uf a.U b.U).2 ≠ 0):Ad nf uf a b = (zQ,(uf a.U b.U).2):=by unfold Ad; rw [if_pos h,if_pos h2]
theorem vO {nf:bz → bz → bz} {uf:aO → aO → aO × Int} {a b:az} (h:(rt a && rt b) = true) (h2:(uf a.U b.U).2 = 0):Ad nf uf a b = quF (nf a.V b.V) (uf a.U b.U).1:=by unfold Ad; rw [if_pos h,if_neg (by omega)]
theorem do_q {o:yQ} {nf:bz → bz → bz} {uf:aO → aO → aO × Int} {a b:az} (ha:pL a) (hb:pL b) (hn:jF FF o.numbers a.V b.V = some (nf a.V b.V)) (hi:k5 (nf a.V b.V)) (hu:nW FF o.units a.U b.U = some (uf a.U b.U)) :
  cL FF o a b = some (Ad nf uf a b):=by
 refine ap.eq ?_
 unfold cL
 refine ap.ax (tX ha hb) ?_
 cases h1:(rt a && rt b)
 ·rw [oO h1]; exact ap.eX rfl (ap.some rfl)
 refine ap.iff rfl (ap.ax hu ?_)
 by_cases h2:(uf a.U b.U).2 = 0
 ·rw [vO h1 h2]
  refine ap.iff (by simp [h2]) (ap.ax hn (ap.ax (sq hi) (ap.some rfl)))
 ·rw [sX h1 h2]
  exact ap.eX (by simp [h2]) (ap.some rfl)
noncomputable abbrev addF:=bi C9
noncomputable abbrev subF:=bi subR
noncomputable abbrev C2:=bi mulR
noncomputable abbrev C4:=bi Ae
theorem Cr (x y:bz):k5 (addF x y):=Bq Cq x y
theorem Bz (x y:bz):k5 (subF x y):=Bq (fun r s=>Cq _ _) x y
theorem yh (x y:bz):k5 (C2 x y):=Bq (fun r s=>vC _) x y
theorem yw (x y:bz):k5 (C4 x y):=Bq divR_in x y
theorem Ci (u v:aO):ko FF u v = some (Ac u v):=by
 unfold ko Ac
 by_cases h:u = v
 ·rw [if_neg (by simp [h]),if_neg (by simp [h])]
 ·rw [if_pos (by simp [h]),if_pos h]; rfl
def mulU (u v:aO):=sA u v 1
def divU (u v:aO):=sA u v (-1)
theorem Add_q {a b:az} (ha:pL a) (hb:pL b):kH FF a b = some (Ad addF Ac a b):=by
 unfold kH
 rw [do_q (o:=⟨22,87⟩) (nf:=addF) (uf:=Ac) ha hb (Add_f ha hb) (Cr _ _) (Ci _ _)]; rfl
theorem Sub_q {a b:az} (ha:pL a) (hb:pL b):mA FF a b = some (Ad subF Ac a b):=by
 unfold mA
 rw [do_q (o:=⟨94,87⟩) (nf:=subF) (uf:=Ac) ha hb (Sub_f ha hb) (Bz _ _) (Ci _ _)]; rfl
theorem Times_q {a b:az} (ha:pL a) (hb:pL b):iY FF a b = some (Ad C2 mulU a b):=by
 unfold iY
 rw [do_q (o:=⟨25,26⟩) (nf:=C2) (uf:=mulU) ha hb (Dp ha hb) (yh _ _) (Mul_u _ _)]; rfl
theorem Div_q {a b:az} (ha:pL a) (hb:pL b):cL FF ⟨21,27⟩ a b = some (Ad C4 divU a b) :=
 do_q (nf:=C4) (uf:=divU) ha hb (Div_f ha hb) (yw _ _) (Div_u _ _)
theorem Ei {a b:az} (ha:pL a) (hb:pL b):dK FF a b = some (if (rt a && rt b) = true then (Ac a.U b.U).2 else 1):=by
 refine ap.eq ?_
 unfold dK
 refine ap.ax (jl ha) ?_
 cases h1:rt a
 ·exact ap.g0 rfl (ap.eX rfl (ap.some rfl))
 refine ap.g1 rfl (ap.ax (jl hb) ?_)
 cases h2:rt b
 ·exact ap.eX rfl (ap.some rfl)
 refine ap.iff rfl ?_
 unfold Ac
 by_cases h:a.U = b.U
 ·exact ap.iff (by simp [h]) (ap.some (by simp [h]))
 ·exact ap.eX (by simp [h]) (ap.some (by simp [h]))
theorem Ck (u v:aO):(Ac u v).2 = 0 → (Ac u v).1 = u:=by unfold Ac; split <;> simp
theorem rAdd_q {a b:az} (ha:pL a) (hb:pL b):fG FF a b = some (gdo (Ad addF Ac a b)):=by
 refine ap.eq ?_
 unfold fG
 refine ap.ax (Ei ha hb) ?_
 cases h1:(rt a && rt b)
 ·rw [oO h1]; exact ap.eX rfl (ap.some rfl)
 rw [if_pos rfl]
 by_cases h2:(Ac a.U b.U).2 = 0
 ·rw [vO h1 h2,Ck _ _ h2]
  exact ap.iff (by simp [h2]) (ap.ax (DE ha hb) (ap.ax (lg (Cr _ _)) (ap.some rfl)))
 ·rw [sX h1 h2]
  exact ap.eX (by simp [h2]) (ap.some rfl)
theorem rSub_q {a b:az} (ha:pL a) (hb:pL b):fC FF a b = some (gdo (Ad subF Ac a b)):=by
 refine ap.eq ?_
 unfold fC
 refine ap.ax (Ei ha hb) ?_
 cases h1:(rt a && rt b)
 ·rw [oO h1]; exact ap.eX rfl (ap.some rfl)
 rw [if_pos rfl]
 by_cases h2:(Ac a.U b.U).2 = 0
 ·rw [vO h1 h2,Ck _ _ h2]
  exact ap.iff (by simp [h2]) (ap.ax (rSub_f ha hb) (ap.ax (lg (Bz _ _)) (ap.some rfl)))
 ·rw [sX h1 h2]
  exact ap.eX (by simp [h2]) (ap.some rfl)
theorem EE {a b:az} (ha:pL a) (hb:pL b):ew FF a b = some (gdo (Ad C2 mulU a b)):=by
 refine ap.eq ?_
 unfold ew
 refine ap.ax (jl ha) ?_
 cases h1:rt a
 ·rw [oO (by rw [h1]; rfl)]; exact ap.g0 rfl (ap.eX rfl (ap.some rfl))
 refine ap.g1 rfl (ap.ax (jl hb) ?_)
 cases h2:rt b
 ·rw [oO (by rw [h1,h2]; rfl)]; exact ap.eX rfl (ap.some rfl)
 have h3:(rt a && rt b) = true:=by rw [h1,h2]; rfl
 refine ap.iff rfl (ap.ax (rMul_u _ _) ?_)
 by_cases h4:(mulU a.U b.U).2 = 0
 ·rw [vO h3 h4]
  exact ap.iff (decide_eq_false fun h=>h h4) (ap.ax (Ai ha hb) (ap.ax (lg (yh _ _)) (ap.some rfl)))
 ·rw [sX h3 h4]
  exact ap.eX (decide_eq_true h4) (ap.some rfl)
def CT (x:bz):Int:=match qF x with
 | some r=>rZ r.num
 | none=>0
noncomputable def ovQ (a b:az):az × Int:=if ((rt a && rt b) && decide (CT b.V = 0)) = true then (zQ,31) else Ad C4 divU a b
theorem Over_q {a b:az} (ha:pL a) (hb:pL b):jR FF a b = some (ovQ a b):=by
 refine ap.eq ?_
 unfold jR ovQ
 refine ap.ax (tX ha hb) ?_
 cases h1:(rt a && rt b)
 ·exact ap.g0 rfl (ap.iff rfl (ap.ax (Div_q ha hb) (ap.some rfl)))
 refine ap.g1 rfl (ap.ax (Ep hb) ?_)
 show ap (if (true && decide (CT b.V = 0)) = true then _ else _) _
 cases h2:decide (CT b.V = 0)
 ·exact ap.iff rfl (ap.ax (Div_q ha hb) (ap.some rfl))
 ·exact ap.eX rfl (ap.some rfl)
theorem rOver_q {a b:az} (ha:pL a) (hb:pL b):eV FF a b = some (gdo (ovQ a b)):=by
 refine ap.eq ?_
 unfold eV ovQ
 refine ap.ax (jl ha) ?_
 cases h1:rt a
 ·rw [oO (by rw [h1]; rfl)]; exact ap.g0 rfl (ap.eX rfl (ap.some rfl))
 refine ap.g1 rfl (ap.ax (jl hb) ?_)
 cases h2:rt b
 ·rw [oO (by rw [h1,h2]; rfl)]; exact ap.eX rfl (ap.some rfl)
 have h3:(rt a && rt b) = true:=by rw [h1,h2]; rfl
 refine ap.iff rfl (ap.ax (BG hb) ?_)
 show ap (if decide (CT b.V = 0) = true then _ else _) _
 cases h5:decide (CT b.V = 0)
 ·refine ap.iff rfl (ap.ax (rDiv_u _ _) ?_)
  simp only [Bool.and_false,Bool.false_eq_true,if_false]
  by_cases h4:(divU a.U b.U).2 = 0
  ·rw [vO h3 h4]
   exact ap.iff (decide_eq_false fun h=>h h4) (ap.ax (DD ha hb) (ap.ax (lg (yw _ _)) (ap.some rfl)))
  ·rw [sX h3 h4]
   exact ap.eX (decide_eq_true h4) (ap.some rfl)
 ·exact ap.eX rfl (ap.some rfl)
def cmQ (a b:az):Int × Int:=if (rt a && rt b) = true then (if a.U ≠ b.U then (0,110) else (C7 a.V b.V,0)) else (0,1)
theorem Cmp_q {a b:az} (ha:pL a) (hb:pL b):mE FF a b = some (cmQ a b):=by
 refine ap.eq ?_
 unfold mE cmQ
 refine ap.ax (tX ha hb) ?_
 cases h1:(rt a && rt b)
 ·exact ap.eX rfl (ap.some rfl)
 refine ap.iff rfl ?_
 by_cases h:a.U = b.U
 ·exact ap.iff (by simp [h]) (ap.ax (Cmp_f ha hb) (ap.some (by simp [h])))
 ·exact ap.eX (by simp [h]) (ap.some (by simp [h]))
noncomputable def pwN (x:bz):Nat → bz
 | 0=>mk ((1:Int):Rat)
 | k + 1=>C2 (pwN x k) x
theorem vA (x:bz):∀ k,k5 (pwN x k)
 | 0=>Bl _
 | k + 1=>yh _ _
noncomputable def pwF (x:bz) (n:Int):bz:=if n < 0 then C4 (mk ((1:Int):Rat)) (pwN x n.natAbs) else pwN x n.natAbs
theorem Ak (x:bz) (n:Int):k5 (pwF x n):=by unfold pwF; split; exact yw _ _; exact vA _ _
theorem yj {n:Int} (h:-16 ≤ n ∧ n ≤ 16):max n (IntKind.i64.wrap (-n)) = (n.natAbs:Int):=by
 rw [fL (by omega) (by omega)]; omega
theorem Of_1:ly FF 1 = some (mk ((1:Int):Rat)):=Of_f (by decide)
theorem rOf_1:kT FF 1 = some (mk ((1:Int):Rat)):=rOf_f (by decide)
theorem BI {x:bz} {n:Int} (hx:k5 x) (hn:-16 ≤ n ∧ n ≤ 16):kn FF x n = some (pwF x n):=by
 refine ap.eq ?_
 unfold kn
 rw [yj hn]
 refine ap.ax Of_1 ?_
 refine ap.bind (P:=fun o=>o = pwN x n.natAbs) (ap.rounds n.natAbs (fun k (s:bz × Int)=>s = (pwN x k,(k:Int))) (by have:=FF1; omega) rfl ?_) ?_
 ·rintro k ⟨o,i⟩ hk hs
  obtain ⟨rfl,rfl⟩:=Prod.mk.inj hs
  by_cases h:k < n.natAbs
  ·refine ap.eX (decide_eq_true (by omega)) (ap.ax (Dp (vA _ _) hx) (ap.some (.inl ⟨_,rfl,?_,h⟩)))
   rw [fL (by omega) (by omega)]; rfl
  ·exact ap.iff (decide_eq_false (by omega)) (ap.some (.inr ⟨_,rfl,by rw [show k = n.natAbs by omega]⟩))
 ·rintro o rfl
  unfold pwF
  refine ap.ite (fun h=>?_) (fun h=>?_)
  ·rw [if_pos (of_decide_eq_true h)]
   exact ap.ax Of_1 (ap.ax (Div_f (Bl _) (vA _ _)) (ap.some rfl))
  ·rw [if_neg (of_decide_eq_false h)]; exact ap.some rfl
end Go.Proofs.YtcbbilehdaaffaaGreatDoor
namespace Go.Sk
set_option linter.unusedSimpArgs false
set_option linter.unusedVariables false
open Go
theorem n4 {u:Nat} (h:u < 10):Lib.decDigits u = [UInt8.ofNat (48 + u)]:=by rw [Lib.decDigits,dif_pos h]
theorem x8 {u:Nat} (h:¬ u < 10):Lib.decDigits u = Lib.decDigits (u / 10) ++ [UInt8.ofNat (48 + u % 10)]:=by rw [Lib.decDigits,dif_neg h]
def fd:Nat → Nat → bA
 | 0,_=>[]
 | k + 1,r=>fd k (r / 10) ++ [UInt8.ofNat (48 + r % 10)]
theorem Ch:∀ k,fd k 0 = List.replicate k 48
 | 0=>rfl
 | k + 1=>by
  show fd k (0 / 10) ++ [UInt8.ofNat (48 + 0 % 10)] = _
  have:fd k (0 / 10) = List.replicate k 48:=Ch k
  rw [this,List.replicate_succ']
  rfl
theorem zp {q:Nat} (hq:0 < q):∀ (k r:Nat),r < 10 ^ k → Lib.decDigits (q * 10 ^ k + r) = Lib.decDigits q ++ fd k r
 | 0,r,h=>by
  have h0:r = 0:=by rw [Nat.pow_zero] at h; omega
  subst h0
  rw [Nat.pow_zero,Nat.mul_one,Nat.add_zero]
  simp [fd]
 | k + 1,r,h=>by
  have e:q * 10 ^ (k + 1) = 10 * (q * 10 ^ k):=by rw [Nat.pow_succ]; grind
  rw [Nat.pow_succ] at h
  have hp:1 ≤ q * 10 ^ k:=Nat.mul_pos hq (Nat.pow_pos (by decide))
  have h1:¬ q * 10 ^ (k + 1) + r < 10:=by omega
  rw [x8 h1]
  have e1:(q * 10 ^ (k + 1) + r) / 10 = q * 10 ^ k + r / 10:=by omega
  have e2:(q * 10 ^ (k + 1) + r) % 10 = r % 10:=by omega
  rw [e1,e2,zp hq k (r / 10) (by omega),List.append_assoc]
  rfl
theorem rB:∀ (k u:Nat),u < 10 ^ (k + 1) → (Lib.decDigits u).length ≤ k + 1
 | 0,u,h=>by rw [n4 (by simpa using h)]; exact Nat.le_refl _
 | k + 1,u,h=>by
  by_cases h1:u < 10
  ·rw [n4 h1]; simp
  ·rw [Nat.pow_succ] at h
   rw [x8 h1,List.length_append]
   have:=rB k (u / 10) (by omega)
   simp
   omega
theorem Ee:∀ (k r:Nat),r < 10 ^ (k + 1) → fd (k + 1) r = List.replicate (k + 1 - (Lib.decDigits r).length) 48 ++ Lib.decDigits r
 | 0,r,h=>by
  have h1:r < 10:=by simpa using h
  rw [n4 h1]
  show [] ++ [UInt8.ofNat (48 + r % 10)] = _
  rw [Nat.mod_eq_of_lt h1]
  rfl
 | k + 1,r,h=>by
  show fd (k + 1) (r / 10) ++ [UInt8.ofNat (48 + r % 10)] = _
  by_cases h1:r < 10
  ·rw [n4 h1,Nat.div_eq_of_lt h1,Ch,Nat.mod_eq_of_lt h1]
   simp
  ·rw [Nat.pow_succ] at h
   rw [Ee k (r / 10) (by omega),x8 h1,List.length_append]
   have:=rB k (r / 10) (by omega)
   rw [List.append_assoc]
   congr 2
   simp
def dv (l:bA):Nat:=l.foldl (fun acc c=>10 * acc + (c.toNat - 48)) 0
def Di (c:UInt8):Prop:=48 ≤ c.toNat ∧ c.toNat ≤ 57
theorem CI (xs:List bA):Lib.join xs [] = xs.flatten:=by
 cases xs with
 | nil=>rfl
 | cons x r=>
  rw [Lib.join_cons]
  show x ++ (r.map ([] ++ ·)).flatten = _
  simp
theorem BT {α:Type} [Inhabited α] {l:List α} {i:Nat} (h:i < l.length):l[i]? = some (idx l (i:Int)):=by
 have:=idx_eq (xs:=l) (i:=(i:Int)) (by omega) (by omega)
 rw [Int.toNat_natCast] at this
 exact this
theorem MM155:MM < 10 ^ 155:=by rw [vv]; decide +kernel
theorem Bo {a:Int} (h:a < MM):(Lib.decDigits a.toNat).length ≤ 155:=by
 refine rB 154 _ ?_
 have h2:=MM155
 have h3:a < 10 ^ 155:=by omega
 rcases (by omega:a ≤ 0 ∨ 0 < a) with g | g
 ·have:a.toNat = 0:=by omega
  rw [this]; exact Nat.pow_pos (by decide)
 ·have:(a.toNat:Int) < ((10 ^ 155:Nat):Int):=by
   have e:((10 ^ 155:Nat):Int) = 10 ^ 155:=by rw [Int.natCast_pow]; rfl
   rw [e]; omega
  exact Int.ofNat_lt.1 this
theorem yl {a:Int} (h:0 ≤ a):Lib.itoa a = Lib.decDigits a.toNat:=by unfold Lib.itoa; rw [if_neg (by omega)]
theorem EY {W W':Int} {k:Nat} (h0:0 ≤ W') (h:W' * 1000000000 ≤ W) (hk:W * 2 ^ k < MM):W' * 2 ^ (k + 1) < MM:=by
 have hp:=kh k
 have h1:W' * 2 ≤ W:=by omega
 have h2:=Int.mul_le_mul_of_nonneg_right h1 (Int.le_of_lt hp)
 rw [Int.pow_succ]
 have e:W' * (2 ^ k * 2) = W' * 2 * 2 ^ k:=by grind
 omega
theorem DH {W:Int} {k:Nat} (h0:0 < W) (h:W * 2 ^ k < MM):k < 512:=by
 have hp:=kh k
 have h1:=Int.mul_le_mul_of_nonneg_right (show 1 ≤ W by omega) (Int.le_of_lt hp)
 rcases (by omega:k < 512 ∨ 512 ≤ k) with g | g
 ·exact g
 ·have h2:=uZ g
  have e:MM = 2 ^ 512:=by rw [vv]; decide +kernel
  omega
theorem dd_nine {W:Int} (h0:0 < W / 1000000000) (hW:0 ≤ W):Lib.decDigits W.toNat = Lib.decDigits (W / 1000000000).toNat ++ fd 9 (W % 1000000000).toNat:=by
 have e:W.toNat = (W / 1000000000).toNat * 10 ^ 9 + (W % 1000000000).toNat:=by
  have:(10:Nat) ^ 9 = 1000000000:=by decide
  omega
 rw [e]
 refine zp (by omega) 9 _ ?_
 have:(10:Nat) ^ 9 = 1000000000:=by decide
 omega
end Go.Sk
namespace Go.Proofs.YtcbbilehdaaffaaGreatDoor
open Go Go.Sk
set_option linter.unusedSimpArgs false
set_option linter.unusedVariables false
theorem CR {F:Nat} {l:List bA} (hl:l.length ≤ 100000) (hF:100000 < F):gJ F l = some l.reverse:=by
 refine ap.eq ?_
 unfold gJ
 have hw:IntKind.i64.wrap ((l.length:Int) - 1) = (l.length:Int) - 1:=by rw [cH]; omega
 rw [hw]
 refine ap.ln (ap.bind (P:=(· = l.reverse)) (ap.rounds l.length (fun (k:Nat) (st:List bA × Int × Int)=>st.2.1 = (k:Int) ∧ st.2.2 = (l.length:Int) - 1 - (k:Int) ∧ st.1.length = l.length ∧ ∀ m,m < l.length → st.1[m]? = if m < k ∨ l.length < m + k + 1 then l[l.length - 1 - m]? else l[m]?) (by omega) ⟨rfl,by dsimp only; omega,rfl,fun m hm=>by rw [if_neg (by omega)]⟩ ?_) (fun y hy=>ap.some hy))
 rintro k ⟨s,i,j⟩ hk ⟨rfl,rfl,sl,hs⟩
 dsimp only at sl hs
 dsimp only [ky]
 refine ap.ite (fun h=>?_) (fun h=>?_)
 ·have h':=of_decide_eq_true h
  have ej:(l.length:Int) - 1 - (k:Int) = ((l.length - 1 - k:Nat):Int):=by omega
  rw [ej]
  refine ap.idx (by omega) (by omega) (ap.idx (by omega) (by omega) (ap.idx (by omega) (by omega) (ap.idx (by omega) (by rw [List.length_set]; omega) (ap.some (.inl ⟨_,rfl,⟨by dsimp only; rw [cH]; omega,by dsimp only; rw [cH]; omega,by simp [sl],fun m hm=>?_⟩,by omega⟩)))))
  dsimp only
  simp only [Int.toNat_natCast]
  have g1:=BT (l:=s) (i:=k) (by omega)
  have g2:=BT (l:=s) (i:=l.length - 1 - k) (by omega)
  rw [hs k (by omega),if_neg (by omega)] at g1
  rw [hs _ (by omega),if_neg (by omega)] at g2
  rw [List.getElem?_set,List.length_set,List.getElem?_set]
  by_cases e1:l.length - 1 - k = m
  ·rw [if_pos e1,if_pos (by omega),if_pos (by omega),← g1]
   congr 1; omega
  ·rw [if_neg e1]
   by_cases e2:k = m
   ·rw [if_pos e2,if_pos (by omega),if_pos (by omega),← g2,e2]
   ·rw [if_neg e2,hs m hm]
    by_cases e3:m < k ∨ l.length < m + k + 1
    ·rw [if_pos e3,if_pos (by omega)]
    ·rw [if_neg e3,if_neg (by omega)]
 ·have h':=of_decide_eq_false h
  refine ap.some (.inr ⟨_,rfl,?_⟩)
  apply List.ext_getElem?
  intro m
  by_cases hm:m < l.length
  ·rw [hs m hm,List.getElem?_reverse hm]
   split
   ·rfl
   ·congr 1; omega
  ·rw [List.getElem?_eq_none (by omega),List.getElem?_eq_none (by rw [List.length_reverse]; omega)]
theorem Text_y {F:Nat} (hF:100000 < F) {x:br} (hx:jX x):kf F x = some (match iv x with | some a=>Lib.itoa a | none=>[]):=by
  refine ap.eq ?_
  unfold kf
  refine ap.ax (uk (by omega) x) ?_
  cases ha:iv x with
  | none=>rw [b8 ha]; exact ap.eX rfl (ap.some rfl)
  | some a=>
    obtain ⟨ga,rfl,ra⟩:=bZ hx ha
    obtain ⟨wa,na⟩:=cn ra
    have wa':av (cP a).W = aK a:=wa
    have hla:=oT ra
    rw [ga,na]
    refine ap.iff rfl ?_
    have hlen:=Bo hla.2
    refine ap.bind (P:=fun p=>p.length ≤ 1000 ∧ p.reverse.flatten = Lib.decDigits (aK a).toNat) (ap.rounds 512 (fun (k:Nat) (st:List bA × aU)=>cM 4294967296 st.2.l ∧ st.1.length = k ∧ av st.2 * 2 ^ k < MM ∧ Lib.decDigits (aK a).toNat = Lib.decDigits (av st.2).toNat ++ st.1.reverse.flatten) (by omega) ⟨ba a,rfl,by dsimp only; rw [wa',Int.pow_zero,Int.mul_one]; exact hla.2,by dsimp only; rw [wa']; simp⟩ ?_) ?_
    · rintro k ⟨ps,w⟩ hk ⟨win_,pl,wb,hs⟩
      dsimp only at win_ pl wb hs
      dsimp only [b9]
      have hw0:=(fA win_).1
      have hw1:=(fA win_).2
      refine ap.ax (BA (by omega) win_ (b:=1000000000) (by decide)) ?_
      dsimp only [b9]
      obtain ⟨r,hr⟩:∃ r,r = av w % 1000000000:=⟨_,rfl⟩
      have hr0:0 ≤ r ∧ r < 1000000000:=by omega
      rw [← hr,fL (by omega) (by omega)]
      have hrl:(Lib.decDigits r.toNat).length ≤ 9:=rB 8 _ (by have:(10:Nat) ^ (8 + 1) = 1000000000:=by decide
                                                              omega)
      have hit:dA F r = some (Lib.decDigits r.toNat):=by
        unfold dA vq
        rw [yl hr0.1,if_pos (by omega)]
      refine ap.ax hit ?_
      have hq0:0 ≤ av w / 1000000000:=Int.ediv_nonneg hw0 (by decide)
      refine ap.ite (fun h=>?_) (fun h=>?_)
      · have hz:av w / 1000000000 = 0:=(lS hq0 (by omega)).1 (of_decide_eq_true h)
        have hwr:av w = r:=by omega
        refine ap.rD (by simp; omega) (ap.some (.inr ⟨_,rfl,by simp; omega,?_⟩))
        rw [List.reverse_append,List.flatten_append,hs,hwr]
        simp
      · have hz:av w / 1000000000 ≠ 0:=fun e=>(of_decide_eq_false h) ((lS hq0 (by omega)).2 e)
        have hqp:0 < av w / 1000000000:=by omega
        have hwl:IntKind.i64.wrap (9 - ((Lib.decDigits r.toNat).length:Int)) = ((9 - (Lib.decDigits r.toNat).length:Nat):Int):=by rw [cH]; omega
        have hrep:jd F [48] ((9 - (Lib.decDigits r.toNat).length:Nat):Int) = some (List.replicate (9 - (Lib.decDigits r.toNat).length) 48):=by
          unfold jd uY
          rw [Int.toNat_natCast,if_pos ⟨by omega,by omega,by simp; omega⟩]
          have:=Lib.repeatL_replicate 48 1 (9 - (Lib.decDigits r.toNat).length)
          rw [Nat.mul_one] at this
          exact congrArg some this
        rw [hwl]
        refine ap.ln (ap.ax hrep (ap.rD (by simp; omega) (ap.rD (by simp; omega) (ap.some (.inl ⟨_,rfl,?_⟩)))))
        have hb:=EY hq0 (by omega) wb
        have hqm:av (tC (av w / 1000000000)) = av w / 1000000000:=by rw [jD,Int.emod_eq_of_lt hq0 (by omega)]
        have hk2:=DH hqp hb
        refine ⟨⟨lx _,by simp [pl],by dsimp only; rw [hqm]; exact hb,?_⟩,by omega⟩
        dsimp only
        rw [hqm,hs,dd_nine hqp hw0,← hr,Ee 8 r.toNat (by have:(10:Nat) ^ (8 + 1) = 1000000000:=by decide
                                                         omega),List.reverse_append,List.flatten_append]
        simp
    · rintro ps ⟨pl,pf⟩
      refine ap.bind (P:=fun p=>p.length ≤ 2000 ∧ p.reverse.flatten = Lib.itoa a) ?_ ?_
      · refine ap.ite (fun h=>?_) (fun h=>?_)
        · have hneg:a < 0:=of_decide_eq_true h
          refine ap.rD (by simp; omega) (ap.some ⟨by simp; omega,?_⟩)
          rw [List.reverse_append,List.flatten_append,pf]
          unfold Lib.itoa
          rw [if_pos hneg]
          have e:(aK a).toNat = a.natAbs:=by unfold aK; rw [if_pos hneg]; omega
          rw [e]; rfl
        · have hneg:¬ a < 0:=of_decide_eq_false h
          refine ap.some ⟨by omega,?_⟩
          rw [pf]
          unfold Lib.itoa
          have e:aK a = a:=if_neg hneg
          rw [if_neg hneg,e]
      · rintro p ⟨p1,p2⟩
        refine ap.ax (CR (by omega) hF) ?_
        have hj:kv F p.reverse [] = some (Lib.itoa a):=by
          unfold kv Bm
          rw [CI,p2,if_pos]
          refine ⟨by simp; omega,?_⟩
          unfold Lib.itoa
          have h1:=hlen
          split
          · next hneg=>
            have e:(aK a).toNat = a.natAbs:=by unfold aK; rw [if_pos hneg]; omega
            rw [e] at h1
            simp; omega
          · next hneg=>
            have e:aK a = a:=if_neg hneg
            rw [e] at h1
            omega
        exact ap.ax hj (ap.some rfl)
end Go.Proofs.YtcbbilehdaaffaaGreatDoor
namespace Go.Sk
set_option linter.unusedSimpArgs false
set_option linter.unusedVariables false
theorem rep_in' (n:Nat):cM 65536 (List.replicate n 0):=fun i=>by rw [dj]; decide
theorem Ev {b:Int} {l:List Int} {k:Nat} {x:Int} (hl:k < l.length) (h:cM b l) (hx:0 ≤ x ∧ x < b):cM b (l.set k x):=fun i=>by
 rw [gP hl]; split
 ·exact hx
 ·exact h i
theorem ten_pow {V V':Int} {k:Nat} (h0:0 ≤ V') (h:V' * 10 ≤ V) (hk:V * 2 ^ k < MM):V' * 2 ^ (k + 1) < MM:=by
 have hp:=kh k
 have h1:V' * 2 ≤ V:=by omega
 have h2:=Int.mul_le_mul_of_nonneg_right h1 (Int.le_of_lt hp)
 rw [Int.pow_succ]
 have e:V' * (2 ^ k * 2) = V' * 2 * 2 ^ k:=by grind
 omega
end Go.Sk
namespace Go.Proofs.YtcbbilehdaaffaaGreatDoor
open Go Go.Sk
set_option linter.unusedSimpArgs false
set_option linter.unusedVariables false
theorem rText_y {F:Nat} (hF:100000 < F) {x:br} (hx:jX x):jO F x = some (match iv x with | some a=>Lib.itoa a | none=>[]):=by
 refine ap.eq ?_
 unfold jO
 refine ap.ax (dL hF hx) ?_
 cases ha:iv x with
 | none=>rw [b8 ha]; exact ap.eX rfl (ap.some rfl)
 | some a=>
  obtain ⟨ga,rfl,ra⟩:=bZ hx ha
  obtain ⟨wa,na⟩:=cn ra
  have hla:=oT ra
  show ap _ (fun z=>z = Lib.itoa a)
  rw [ga,na]
  refine ap.iff rfl (ap.bind (ji hF ra) ?_)
  rintro d0 ⟨d1,d2,d3,d4⟩
  have hd0:=ju d1 d2
  rw [d3] at hd0
  refine ap.ite (fun h=>?_) (fun h=>?_)
  ·have h':=of_decide_eq_true h
   have hz:a = 0:=by
    have:aK a = 0:=by
     by_cases e:aK a = 0
     ·exact e
     ·have:=hd0.2 e; omega
    unfold aK at this; split at this <;> omega
   subst hz
   refine ap.some ?_
   rw [yl (by decide)]
   exact (n4 (u:=0) (by decide)).symm
  ·have h':=of_decide_eq_false h
   have hVp:0 < aK a:=by have:=hd0.1 (by omega); omega
   have hlen:=Bo hla.2
   refine ap.bind (P:=fun out=>out = Lib.decDigits (aK a).toNat) (ap.rounds 512 (fun (k:Nat) (st:List Int × bA)=>cM 65536 st.1 ∧ j2 st.1 ∧ st.1.length ≤ 32 ∧ st.2.length = k ∧ lv st.1 * 2 ^ k < MM ∧ Lib.decDigits (aK a).toNat = (if lv st.1 = 0 then [] else Lib.decDigits (lv st.1).toNat) ++ st.2) (by omega) ⟨d1,d2,d4,rfl,by dsimp only; rw [d3,Int.pow_zero,Int.mul_one]; exact hla.2,by dsimp only; rw [d3,if_neg (by omega)]; simp⟩ ?_) ?_
   ·rintro k ⟨d,out⟩ hk ⟨din,dt,dl,ol,db,ds_⟩
    dsimp only at din dt dl ol db ds_
    dsimp only [b9]
    have hdp:=ju din dt
    have hd0:=fg din
    refine ap.ite (fun h=>?_) (fun h=>?_)
    ·have hl:0 < d.length:=by have:=of_decide_eq_true h; omega
     have hvp:0 < lv d:=by have:=hdp.1 hl; omega
     have hmk:CW (0:Int) (d.length:Int) (d.length:Int) = some (List.replicate d.length 0):=by
      unfold CW
      rw [if_pos (by omega),Int.toNat_natCast]
     have hw3:IntKind.i64.wrap ((d.length:Int) - 1) = (d.length:Int) - 1:=by rw [cH]; omega
     refine ap.ax hmk ?_
     rw [hw3]
     refine ap.bind (P:=fun p=>p.1 = lv d % 10 ∧ cM 65536 p.2 ∧ p.2.length = d.length ∧ lv p.2 = lv d / 10) (ap.ln (ap.rounds d.length (fun (k:Nat) (s:Int × List Int × Int)=>s.2.2 = (d.length:Int) - 1 - (k:Int) ∧ 0 ≤ s.1 ∧ s.1 < 10 ∧ cM 65536 s.2.1 ∧ s.2.1.length = d.length ∧ ds 65536 (fun i=>dg d (d.length - k + i)) k = ds 65536 (fun i=>dg s.2.1 (d.length - k + i)) k * 10 + s.1) (by omega) ⟨by dsimp only; omega,Int.le_refl _,(by decide:(0:Int) < 10),rep_in' _,by simp,by simp [ds]⟩ ?_)) ?_
     ·rintro k ⟨r,q,kx⟩ hk ⟨rfl,r0,r1,qin,ql,hs⟩
      dsimp only at r0 r1 qin ql hs
      dsimp only [ky]
      refine ap.ite (fun h=>?_) (fun h=>?_)
      ·have hk':k < d.length:=by have:=of_decide_eq_true h; omega
       have et:((d.length:Int) - 1 - (k:Int)).toNat = d.length - 1 - k:=by omega
       have hdk:=din (d.length - 1 - k)
       refine ap.idx (by omega) (by omega) ?_
       simp only [dF,et]
       refine ap.r4 (65536 * r + dg d (d.length - 1 - k)) (by simp only [cH]; omega) (ap.quo (by decide) (ap.idx (by omega) (by omega) (ap.some (.inl ⟨_,rfl,?_,hk'⟩))))
       rw [eR (by omega),eo (by omega)]
       have hq:IntKind.i64.wrap ((65536 * r + dg d (d.length - 1 - k)) / 10) = (65536 * r + dg d (d.length - 1 - k)) / 10:=by rw [cH]; omega
       rw [hq]
       dsimp only
       refine ⟨by rw [cH]; omega,by omega,by omega,Ev (by omega) qin (by omega),by simp [ql],?_⟩
       have ea:∀ (f:Nat → Int),ds 65536 (fun i=>f (d.length - (k + 1) + i)) (k + 1) = f (d.length - 1 - k) + 65536 * ds 65536 (fun i=>f (d.length - k + i)) k:=fun f=>by
        rw [ki]
        have e1:d.length - (k + 1) + 0 = d.length - 1 - k:=by omega
        have e2:∀ i,d.length - (k + 1) + (i + 1) = d.length - k + i:=fun i=>by omega
        simp only [e1,e2]
       generalize hQ:(65536 * r + dg d (d.length - 1 - k)) / 10 = Q at *
       rw [ea (dg d),ea (dg (q.set (d.length - 1 - k) Q))]
       have e3:dg (q.set (d.length - 1 - k) Q) (d.length - 1 - k) = Q:=by rw [gP (by omega),if_pos rfl]
       have e4:ds 65536 (fun i=>dg (q.set (d.length - 1 - k) Q) (d.length - k + i)) k = ds 65536 (fun i=>dg q (d.length - k + i)) k:=dy fun i _=>by rw [gP (by omega),if_neg (by omega)]
       rw [e3,e4,hs]
       omega
      ·have hk':k = d.length:=by have:=of_decide_eq_false h; omega
       subst hk'
       have e1:∀ i,d.length - d.length + i = i:=fun i=>by omega
       simp only [e1] at hs
       have e2:ds 65536 (dg q) d.length = lv q:=by unfold lv; rw [ql]
       rw [e2] at hs
       have hs':lv d = lv q * 10 + r:=hs
       exact ap.some (.inr ⟨_,rfl,by dsimp only; omega,qin,ql,by dsimp only; omega⟩)
     ·rintro ⟨r,q⟩ ⟨rfl,qin,ql,qv⟩
      dsimp only at qin ql qv
      dsimp only [b9]
      refine ap.bind (pX (by omega) (by omega) qin) ?_
      rintro c ⟨cin,ct,cv,cl⟩
      rw [qv] at cv
      have hm:0 ≤ lv d % 10 ∧ lv d % 10 < 10:=by omega
      have hwc:IntKind.u8.wrap (IntKind.i64.wrap (48 + lv d % 10)) = 48 + lv d % 10:=by rw [cH,wu8]; omega
      have hk3:=DH hvp db
      refine ap.r4 _ hwc (ap.rD (by simp [mW]; omega) (ap.some (.inl ⟨_,rfl,⟨cin,ct,by dsimp only; omega,by simp [mW,ol],by dsimp only; rw [cv]; exact ten_pow (by omega) (by omega) db,?_⟩,hk3⟩)))
      dsimp only
      rw [cv,ds_,if_neg (by omega)]
      have ec:mW [48 + lv d % 10] = [UInt8.ofNat (48 + (lv d).toNat % 10)]:=by
       unfold mW
       have:(48 + lv d % 10).toNat = 48 + (lv d).toNat % 10:=by omega
       simp only [List.map_cons,List.map_nil,this]
      rw [ec]
      by_cases h10:lv d < 10
      ·rw [n4 (by omega),if_pos (by omega),Nat.mod_eq_of_lt (show (lv d).toNat < 10 by omega)]; rfl
      ·have e5:(lv d).toNat / 10 = (lv d / 10).toNat:=by omega
       rw [x8 (by omega),if_neg (by omega),e5,List.append_assoc]
    ·have hl:d.length = 0:=by have:=of_decide_eq_false h; omega
     have hz:lv d = 0:=by
      by_cases e:lv d = 0
      ·exact e
      ·have:=hdp.2 e; omega
     rw [hz,if_pos rfl] at ds_
     exact ap.some (.inr ⟨_,rfl,by rw [ds_]; rfl⟩)
   ·rintro out rfl
    unfold Lib.itoa
    refine ap.ite (fun h=>?_) (fun h=>?_)
    ·have hneg:a < 0:=of_decide_eq_true h
     refine ap.rD (by simp; omega) (ap.some ?_)
     rw [if_pos hneg]
     have e:(aK a).toNat = a.natAbs:=by unfold aK; rw [if_pos hneg]; omega
     rw [e]; rfl
    ·have hneg:¬ a < 0:=of_decide_eq_false h
     have e:aK a = a:=if_neg hneg
     rw [if_neg hneg,e]
     exact ap.some rfl
end Go.Proofs.YtcbbilehdaaffaaGreatDoor
namespace Go.Sk
set_option linter.unusedSimpArgs false
set_option linter.unusedVariables false
open Go
def sgnS (s:bA):Bool:=decide (s.head? = some 45)
def xF (s:bA):bA:=if sgnS s = true then s.drop 1 else s
def illS (s:bA):Prop:=xF s = [] ∨ (xF s).head? = some 48 ∧ s ≠ [48]
inductive CZ (s:bA):br × Int → Prop where
 | ill (h:illS s):CZ s (bad,281)
 | C8 (h:¬ illS s) (c:UInt8) (hc:c ∈ xF s) (hn:¬ Di c):CZ s (bad,281)
 | long (h:¬ illS s) (hd:∀ c ∈ xF s,Di c) (hv:MM ≤ dv (xF s)):CZ s (bad,30)
 | num (h:¬ illS s) (hd:∀ c ∈ xF s,Di c) (hv:(dv (xF s):Int) < MM):CZ s (cP (if sgnS s = true then -(dv (xF s):Int) else dv (xF s)),0)
theorem CZ.one {s:bA} {p q:br × Int} (hp:CZ s p) (hq:CZ s q):p = q:=by
 cases hp with
 | ill h=>
  cases hq with
  | ill _=>rfl
  | C8 h2 _ _ _=>exact absurd h h2
  | long h2 _ _=>exact absurd h h2
  | num h2 _ _=>exact absurd h h2
 | C8 h c hc hn=>
  cases hq with
  | ill h2=>exact absurd h2 h
  | C8 _ _ _ _=>rfl
  | long _ hd _=>exact absurd (hd c hc) hn
  | num _ hd _=>exact absurd (hd c hc) hn
 | long h hd hv=>
  cases hq with
  | ill h2=>exact absurd h2 h
  | C8 _ c hc hn=>exact absurd (hd c hc) hn
  | long _ _ _=>rfl
  | num _ _ hv2=>omega
 | num h hd hv=>
  cases hq with
  | ill h2=>exact absurd h2 h
  | C8 _ c hc hn=>exact absurd (hd c hc) hn
  | long _ _ hv2=>omega
  | num _ _ _=>rfl
end Go.Sk
namespace Go.Proofs.YtcbbilehdaaffaaGreatDoor
open Go Go.Sk
set_option linter.unusedSimpArgs false
set_option linter.unusedVariables false
end Go.Proofs.YtcbbilehdaaffaaGreatDoor
namespace Go.Sk
open Go
end Go.Sk
namespace Go.Proofs.YtcbbilehdaaffaaGreatDoor
open Go Go.Sk
set_option linter.unusedSimpArgs false
set_option linter.unusedVariables false
end Go.Proofs.YtcbbilehdaaffaaGreatDoor
namespace Go.Sk
set_option linter.unusedSimpArgs false
set_option linter.unusedVariables false
open Go
theorem zf {a:Int} (ra:-MM < a ∧ a < MM):(Lib.itoa a).length ≤ 500:=by
 by_cases h:a < 0
 ·have h1:=Bo (a:=-a) (by omega)
  have e:(-a).toNat = a.natAbs:=by omega
  rw [e] at h1
  unfold Lib.itoa; rw [if_pos h,List.length_cons]; omega
 ·have h1:=Bo (a:=a) ra.2
  rw [yl (by omega)]; omega
end Go.Sk
namespace Go.Sk
open Go
set_option linter.unusedSimpArgs false
set_option linter.unusedVariables false
def sl:bA → Nat
 | []=>0
 | c :: r=>if c = 47 then 0 else sl r + 1
end Go.Sk
namespace Go.Proofs.YtcbbilehdaaffaaGreatDoor
open Go Go.Sk
set_option linter.unusedSimpArgs false
set_option linter.unusedVariables false
def txB (x:br):bA:=match iv x with
 | some a=>Lib.itoa a
 | none=>[]
theorem Da {x:br} (hx:jX x):kf FF x = some (txB x):=by
 rw [Text_y xC hx]; unfold txB; try (cases iv x <;> rfl)
theorem Dd {x:br} (hx:jX x):jO FF x = some (txB x):=by
 rw [rText_y xC hx]; unfold txB; try (cases iv x <;> rfl)
theorem qY {x:br} (hx:jX x):(txB x).length ≤ 500:=by
 unfold txB
 cases h:iv x with
 | none=>simp
 | some a=>exact zf (bZ hx h).2.2
def CS (x:bz):bA:=if (qF x).isSome = true then (if x.D = cP 1 then txB x.N else txB x.N ++ 47 :: txB x.D) else []
theorem En {x:bz} (hx:k5 x):mu FF x = some (CS x):=by
 refine ap.eq ?_
 unfold mu CS
 refine ap.ax (j5 hx) ?_
 cases h:(qF x).isSome with
 | false=>exact ap.eX rfl (ap.some rfl)
 | true=>
  refine ap.iff rfl (ap.ax Bk ?_)
  rw [if_pos rfl]
  refine ap.ite (fun h1=>?_) (fun h1=>?_)
  ·rw [if_pos (of_decide_eq_true h1)]
   exact ap.ax (Da hx.1) (ap.some rfl)
  ·have l1:=qY hx.1
   have l2:=qY hx.2
   rw [if_neg (of_decide_eq_false h1)]
   refine ap.ax (Da hx.1) (ap.rD (by simp; omega) (ap.ax (Da hx.2) (ap.rD (by simp; omega) (ap.some (by simp)))))
theorem rText_f {x:bz} (hx:k5 x):n9 FF x = some (CS x):=by
 refine ap.eq ?_
 unfold n9 CS
 refine ap.ax (js hx) ?_
 cases h:(qF x).isSome with
 | false=>exact ap.eX rfl (ap.some rfl)
 | true=>
  refine ap.iff rfl (ap.ax xN ?_)
  rw [if_pos rfl]
  refine ap.ite (fun h1=>?_) (fun h1=>?_)
  ·rw [if_pos (of_decide_eq_true h1)]
   exact ap.ax (Dd hx.1) (ap.some rfl)
  ·have l1:=qY hx.1
   have l2:=qY hx.2
   rw [if_neg (of_decide_eq_false h1)]
   refine ap.ax (Dd hx.1) (ap.rD (by simp; omega) (ap.ax (Dd hx.2) (ap.rD (by simp; omega) (ap.some (by simp)))))
def rdF (p:br) (e:Int) (q:br) (f:Int) (two:Bool) (b:bA):bz × Int :=
 if e = 281 ∨ f = 281 ∨ two = true ∧ (b = [48] ∨ b = [49] ∨ b.head? = some 45) then (bf,281)
 else if e ≠ 0 ∨ f ≠ 0 then (bf,30)
 else if (qF ⟨p,q⟩).isSome = true then (⟨p,q⟩,0) else (bf,281)
def RdF (s:bA) (r:bz × Int):Prop:=∃ p e q f,CZ (s.take (sl s)) (p,e) ∧ (if sl s < s.length then CZ (s.drop (sl s + 1)) (q,f) else q = cP 1 ∧ f = 0) ∧ r = rdF p e q f (decide (sl s < s.length)) (s.drop (sl s + 1))
theorem RdF.one {s:bA} {r t:bz × Int} (h1:RdF s r) (h2:RdF s t):r = t:=by
 obtain ⟨p,e,q,f,a1,a2,rfl⟩:=h1
 obtain ⟨p',e',q',f',b1,b2,rfl⟩:=h2
 have c1:=CZ.one a1 b1
 cases c1
 by_cases h:sl s < s.length
 ·rw [if_pos h] at a2 b2
  have c2:=CZ.one a2 b2
  cases c2
  rfl
 ·rw [if_neg h] at a2 b2
  rw [a2.1,a2.2,b2.1,b2.2]
noncomputable def rsQ (a:az) (n:Int):az × Int :=
 if rt a = true then (if (sA zU a.U n).2 ≠ 0 then (zQ,(sA zU a.U n).2) else if n < 0 ∧ CT a.V = 0 then (zQ,31) else quF (pwF a.V n) (sA zU a.U n).1) else (zQ,1)
theorem AF {u v:aO} {n:Int} (h:(sA u v n).2 = 0):-16 ≤ n ∧ n ≤ 16:=by
 cases h3:sm n
 ·rw [wm h3] at h; simp at h
 ·exact xI.1 h3
theorem BF {a:az} {n:Int} (h:rt a = false):rsQ a n = (zQ,1):=by unfold rsQ; rw [h]; rfl
theorem BE {a:az} {n:Int} (h:rt a = true) (h2:(sA zU a.U n).2 ≠ 0):rsQ a n = (zQ,(sA zU a.U n).2):=by unfold rsQ; rw [if_pos h,if_pos h2]
theorem y4 {a:az} {n:Int} (h:rt a = true) (h2:(sA zU a.U n).2 = 0) (h3:n < 0) (h4:CT a.V = 0):rsQ a n = (zQ,31):=by unfold rsQ; rw [if_pos h,if_neg (fun e=>e h2),if_pos ⟨h3,h4⟩]
theorem xM {a:az} {n:Int} (h:rt a = true) (h2:(sA zU a.U n).2 = 0) (h3:¬ (n < 0 ∧ CT a.V = 0)):rsQ a n = quF (pwF a.V n) (sA zU a.U n).1:=by unfold rsQ; rw [if_pos h,if_neg (fun e=>e h2),if_neg h3]
theorem Raise_q {a:az} {n:Int} (ha:pL a):kp FF a n = some (rsQ a n):=by
 refine ap.eq ?_
 unfold kp
 refine ap.ax (xv ha) ?_
 cases h1:rt a
 ·rw [BF h1]; exact ap.eX rfl (ap.some rfl)
 refine ap.iff rfl (ap.ax (Pow_u _ _) ?_)
 by_cases h2:(sA zU a.U n).2 = 0
 ·refine ap.iff (decide_eq_false fun h=>h h2) ?_
  by_cases h3:n < 0
  ·refine ap.g1 (decide_eq_true h3) (ap.ax (Ep ha) ?_)
   show ap (if (decide (n < 0) && decide (CT a.V = 0)) = true then _ else _) _
   by_cases h4:CT a.V = 0
   ·rw [y4 h1 h2 h3 h4]; exact ap.eX (by rw [decide_eq_true h3,decide_eq_true h4]; rfl) (ap.some rfl)
   ·rw [xM h1 h2 (fun h=>h4 h.2)]
    exact ap.iff (by rw [decide_eq_false h4,Bool.and_false]) (ap.ax (BI ha (AF h2)) (ap.ax (sq (Ak _ _)) (ap.some rfl)))
  ·refine ap.g0 (decide_eq_false h3) ?_
   rw [xM h1 h2 (fun h=>h3 h.1)]
   exact ap.iff (by rw [decide_eq_false h3]; rfl) (ap.ax (BI ha (AF h2)) (ap.ax (sq (Ak _ _)) (ap.some rfl)))
 ·rw [BE h1 h2]
  exact ap.eX (decide_eq_true h2) (ap.some rfl)
theorem EF {a:az} {n:Int} (ha:pL a):ey FF a n = some (gdo (rsQ a n)):=by
 refine ap.eq ?_
 unfold ey
 refine ap.ax (jl ha) ?_
 cases h1:rt a
 ·rw [BF h1]; exact ap.eX rfl (ap.some rfl)
 refine ap.iff rfl (ap.ax (rPow_u _ _) ?_)
 by_cases h2:(sA zU a.U n).2 = 0
 ·refine ap.iff (decide_eq_false fun h=>h h2) ?_
  have hn:=AF h2
  have rest:ap (Option.bind (kT FF 1) (fun x_7=>Option.bind (iter FF (b9 fun v_9 i_10=>if (decide (i_10 < (max n (IntKind.i64.wrap (-n))))) = true then (Option.bind (lc FF v_9 a.V) (fun x_12=>some (.inl (x_12,IntKind.i64.wrap (i_10 + 1))))) else (some (.inr v_9))) (x_7,0)) (fun v_8=>Option.bind (if (decide (n < 0)) = true then (Option.bind (kT FF 1) (fun x_14=>Option.bind (mn FF x_14 v_8) (fun x_15=>some x_15))) else (some v_8)) (fun v_13=>Option.bind (bL FF v_13 (mdo (sA zU a.U n)).U) (fun x_16=>some x_16))))) (· = gdo (quF (pwF a.V n) (sA zU a.U n).1)):=by
   rw [yj hn]
   refine ap.ax rOf_1 ?_
   refine ap.bind (P:=fun o=>o = pwN a.V n.natAbs) (ap.rounds n.natAbs (fun k (s:bz × Int)=>s = (pwN a.V k,(k:Int))) (by have:=FF1; omega) rfl ?_) ?_
   ·rintro k ⟨o,i⟩ hk hs
    obtain ⟨rfl,rfl⟩:=Prod.mk.inj hs
    by_cases h:k < n.natAbs
    ·refine ap.eX (decide_eq_true (by omega)) (ap.ax (Ai (vA _ _) ha) (ap.some (.inl ⟨_,rfl,?_,h⟩)))
     rw [fL (by omega) (by omega)]; rfl
    ·exact ap.iff (decide_eq_false (by omega)) (ap.some (.inr ⟨_,rfl,by rw [show k = n.natAbs by omega]⟩))
   ·rintro o rfl
    refine ap.bind (P:=fun o=>o = pwF a.V n) ?_ ?_
    ·unfold pwF
     refine ap.ite (fun h=>?_) (fun h=>?_)
     ·rw [if_pos (of_decide_eq_true h)]
      exact ap.ax rOf_1 (ap.ax (DD (Bl _) (vA _ _)) (ap.some rfl))
     ·rw [if_neg (of_decide_eq_false h)]; exact ap.some rfl
    ·rintro o rfl
     exact ap.ax (lg (Ak _ _)) (ap.some rfl)
  by_cases h3:n < 0
  ·refine ap.g1 (decide_eq_true h3) (ap.ax (BG ha) ?_)
   show ap (if (decide (n < 0) && decide (CT a.V = 0)) = true then _ else _) _
   by_cases h4:CT a.V = 0
   ·rw [y4 h1 h2 h3 h4]; exact ap.eX (by rw [decide_eq_true h3,decide_eq_true h4]; rfl) (ap.some rfl)
   ·rw [xM h1 h2 (fun h=>h4 h.2)]
    exact ap.iff (by rw [decide_eq_false h4,Bool.and_false]) rest
  ·refine ap.g0 (decide_eq_false h3) ?_
   rw [xM h1 h2 (fun h=>h3 h.1)]
   exact ap.iff (by rw [decide_eq_false h3]; rfl) rest
 ·rw [BE h1 h2]
  exact ap.eX (decide_eq_true h2) (ap.some rfl)
def Ab (nm:bA) (n:Int):bA:=if 1 < n ∨ n < -1 then nm ++ 94 :: Lib.itoa (n.natAbs:Int) else nm
theorem pe {n:Nat} (h:n ≤ 16):(Lib.itoa (n:Int)).length ≤ 500:=zf (by
 have:(16:Int) < MM:=by rw [vv]; decide +kernel
 have:=tO
 omega)
theorem sP {nm:bA} {n:Int} (hn:-16 ≤ n ∧ n ≤ 16):(Ab nm n).length ≤ nm.length + 501:=by
 unfold Ab
 split
 ·have:=pe (n:=n.natAbs) (by omega)
  rw [List.length_append,List.length_cons]; omega
 ·omega
def sB (above nm:bA) (n:Int):bA:=if 0 < n then (if above = [] then Ab nm n else above ++ 42 :: Ab nm n) else above
def qT (below nm:bA) (n:Int):bA:=if n < 0 then below ++ 47 :: Ab nm n else below
theorem El {above nm:bA} {n:Int} (h:¬ 0 < n):sB above nm n = above:=if_neg h
theorem abv_1 {nm:bA} {n:Int} (h:0 < n):sB [] nm n = Ab nm n:=by unfold sB; rw [if_pos h,if_pos rfl]
theorem abv_2 {above nm:bA} {n:Int} (h:0 < n) (h2:above ≠ []):sB above nm n = above ++ 42 :: Ab nm n:=by unfold sB; rw [if_pos h,if_neg h2]
theorem AG {below nm:bA} {n:Int} (h:¬ n < 0):qT below nm n = below:=if_neg h
theorem blw_1 {below nm:bA} {n:Int} (h:n < 0):qT below nm n = below ++ 47 :: Ab nm n:=if_pos h
theorem itm_1 {nm:bA} {n:Int} (h:1 < n ∨ n < -1):Ab nm n = nm ++ 94 :: Lib.itoa (n.natAbs:Int):=if_pos h
theorem itm_0 {nm:bA} {n:Int} (h:¬ (1 < n ∨ n < -1)):Ab nm n = nm:=if_neg h
theorem oS {above nm:bA} {n:Int} (hn:-16 ≤ n ∧ n ≤ 16):(sB above nm n).length ≤ above.length + nm.length + 502:=by
 have:=sP (nm:=nm) hn
 unfold sB
 split
 ·split
  ·omega
  ·rw [List.length_append,List.length_cons]; omega
 ·omega
theorem oQ {below nm:bA} {n:Int} (hn:-16 ≤ n ∧ n ≤ 16):(qT below nm n).length ≤ below.length + nm.length + 502:=by
 have:=sP (nm:=nm) hn
 unfold qT
 split
 ·rw [List.length_append,List.length_cons]; omega
 ·omega
def mT:bA:=[109]
def ue:bA:=[107,103]
def CY:bA:=[115]
def rE (u:aO):bA:=sB (sB (sB [] mT u.M) ue u.Kg) CY u.S
def wT (u:aO):bA:=qT (qT (qT [] mT u.M) ue u.Kg) CY u.S
def prU (u:aO):bA:=if vU u = true then (if rE u = [] then [49] else rE u) ++ wT u else []
theorem itoa_f {n:Int} (hn:-16 ≤ n ∧ n ≤ 16):dA FF (n.natAbs:Int) = some (Lib.itoa (n.natAbs:Int)):=by
 unfold dA vq
 rw [if_pos (by have:=pe (n:=n.natAbs) (by omega); omega)]
theorem yd {nm above below:bA} {n:Int} (hnm:nm.length ≤ 10) (hnn:nm ≠ []) (ha:above.length ≤ 10000) (hb:below.length ≤ 10000) (hn:-16 ≤ n ∧ n ≤ 16) :
  (Option.bind (if ((decide (1 < n)) || (decide (n < (-1)))) = true then (Option.bind (dA FF (max n (IntKind.i64.wrap (-n)))) (fun x_15=>Option.bind (eJ [94] x_15) (fun x_16=>Option.bind (eJ nm x_16) (fun x_17=>some x_17)))) else (some nm)) (fun p_14=>if ((decide (0 < n)) && (decide (above = []))) = true then (some (p_14,below)) else (if (decide (0 < n)) = true then (Option.bind (eJ [42] p_14) (fun x_18=>Option.bind (eJ above x_18) (fun x_19=>some (x_19,below)))) else (if (decide (n < 0)) = true then (Option.bind (eJ [47] p_14) (fun x_20=>Option.bind (eJ below x_20) (fun x_21=>some (above,x_21)))) else (some (above,below)))))) = some (sB above nm n,qT below nm n):=by
 refine ap.eq ?_
 have hl:=sP (nm:=nm) hn
 refine ap.bind (P:=fun p=>p = Ab nm n) ?_ ?_
 ·by_cases h:1 < n ∨ n < -1
  ·rw [itm_1 h,yj hn]
   have:=pe (n:=n.natAbs) (by omega)
   refine ap.eX (by simpa using h) (ap.ax (itoa_f hn) (ap.rD (by simp; omega) (ap.rD (by simp; omega) (ap.some rfl))))
  ·rw [itm_0 h]
   exact ap.iff (by simp; omega) (ap.some rfl)
 ·rintro p rfl
  by_cases h1:0 < n
  ·rw [AG (by omega)]
   by_cases h2:above = []
   ·subst h2
    rw [abv_1 h1]
    exact ap.eX (by simp [h1]) (ap.some rfl)
   ·rw [abv_2 h1 h2]
    exact ap.iff (by simp [h2]) (ap.eX (decide_eq_true h1) (ap.rD (by simp; omega) (ap.rD (by simp; omega) (ap.some rfl))))
  ·rw [El h1]
   refine ap.iff (by simp [h1]) (ap.iff (decide_eq_false h1) ?_)
   by_cases h2:n < 0
   ·rw [blw_1 h2]
    exact ap.eX (decide_eq_true h2) (ap.rD (by simp; omega) (ap.rD (by simp; omega) (ap.some rfl)))
   ·rw [AG h2]
    exact ap.iff (decide_eq_false h2) (ap.some rfl)
theorem sG {σ τ:Type} {B:σ → Option (σ ⊕ τ)} {s s':σ} {n:Nat} (h:B s = some (.inl s')):iter (n + 1) B s = iter n B s':=by rw [eG,h]; rfl
theorem Dh {σ τ:Type} {B:σ → Option (σ ⊕ τ)} {s:σ} {t:τ} {n:Nat} (h:B s = some (.inr t)):iter (n + 1) B s = some t:=by rw [eG,h]; rfl
theorem lenU {u:aO} (h:vU u = true):(rE u).length ≤ 3000 ∧ (wT u).length ≤ 3000:=by
 obtain ⟨h1,h2,h3⟩:=nI.1 h
 unfold rE wT
 have a1:=oS (above:=[]) (nm:=mT) h1
 have a2:=oS (above:=sB [] mT u.M) (nm:=ue) h2
 have a3:=oS (above:=sB (sB [] mT u.M) ue u.Kg) (nm:=CY) h3
 have b1:=oQ (below:=[]) (nm:=mT) h1
 have b2:=oQ (below:=qT [] mT u.M) (nm:=ue) h2
 have b3:=oQ (below:=qT (qT [] mT u.M) ue u.Kg) (nm:=CY) h3
 simp only [mT,ue,CY,List.length_nil,List.length_cons] at *
 omega
theorem Print_u (u:aO):eL FF u = some (prU u):=by
 refine ap.eq ?_
 unfold eL prU
 refine ap.ax (oU u) ?_
 cases h:vU u
 ·exact ap.eX rfl (ap.some rfl)
 obtain ⟨h1,h2,h3⟩:=nI.1 h
 have a1:=oS (above:=[]) (nm:=mT) h1
 have a2:=oS (above:=sB [] mT u.M) (nm:=ue) h2
 have b1:=oQ (below:=[]) (nm:=mT) h1
 have b2:=oQ (below:=qT [] mT u.M) (nm:=ue) h2
 obtain ⟨l1,l2⟩:=lenU h
 have e0:([]:bA).length = 0:=rfl
 have n0:mT.length = 1:=rfl
 have n1:ue.length = 2:=rfl
 have n2:CY.length = 1:=rfl
 refine ap.iff rfl (ap.bind (P:=fun p=>p = (rE u,wT u)) ?_ ?_)
 ·unfold fP
  obtain ⟨k,hk⟩:=F4
  rw [Option.bind_some]
  refine ap.of ?_
  have r1:=yd (nm:=mT) (above:=[]) (below:=[]) (n:=u.M) (by decide) (by decide) (by decide) (by decide) h1
  have r2:=yd (nm:=ue) (above:=sB [] mT u.M) (below:=qT [] mT u.M) (n:=u.Kg) (by decide) (by decide) (by omega) (by omega) h2
  have r3:=yd (nm:=CY) (above:=sB (sB [] mT u.M) ue u.Kg) (below:=qT (qT [] mT u.M) ue u.Kg) (n:=u.S) (by decide) (by decide) (by omega) (by omega) h3
  generalize hB:(ky fun (above_5:bA) (below_6:bA) (x_7:Int)=>_:bA × bA × Int → Option ((bA × bA × Int) ⊕ (bA × bA))) = B
  rw [show iter FF B ([],[],0) = iter (k + 4) B ([],[],0) by rw [hk]]
  rw [sG (s':=(sB [] mT u.M,qT [] mT u.M,1)),sG (s':=(sB (sB [] mT u.M) ue u.Kg,qT (qT [] mT u.M) ue u.Kg,2)),sG (s':=(rE u,wT u,3)),Dh (t:=(rE u,wT u))]
  ·subst hB; rfl
  ·subst hB
   show Option.bind (Option.bind (some u.S) fun x=>Option.bind (some CY) _) _ = _
   rw [Option.bind_some,Option.bind_some]
   exact congrArg (fun o=>Option.bind o _) r3
  ·subst hB
   show Option.bind (Option.bind (some u.Kg) fun x=>Option.bind (some ue) _) _ = _
   rw [Option.bind_some,Option.bind_some]
   exact congrArg (fun o=>Option.bind o _) r2
  ·subst hB
   show Option.bind (Option.bind (some u.M) fun x=>Option.bind (some mT) _) _ = _
   rw [Option.bind_some,Option.bind_some]
   exact congrArg (fun o=>Option.bind o _) r1
 ·rintro _ rfl
  show ap (Option.bind (if decide (rE u = []) = true then _ else _) _) _
  rw [if_pos rfl]
  by_cases h4:rE u = []
  ·rw [if_pos h4,decide_eq_true h4]
   exact ap.ax (if_pos rfl) (ap.rD (by simp; omega) (ap.some rfl))
  ·rw [if_neg h4,decide_eq_false h4]
   exact ap.ax (if_neg (by simp)) (ap.rD (show (rE u).length + (wT u).length ≤ _ by omega) (ap.some rfl))
theorem E3:∀ n:Nat,n ≤ 16 → dT FF (n:Int) = some (yS n):=by
 intro n hn
 unfold dT
 have:n = 0 ∨ n = 1 ∨ n = 2 ∨ n = 3 ∨ n = 4 ∨ n = 5 ∨ n = 6 ∨ n = 7 ∨ n = 8 ∨ n = 9 ∨ n = 10 ∨ n = 11 ∨ n = 12 ∨ n = 13 ∨ n = 14 ∨ n = 15 ∨ n = 16:=by omega
 rcases this with rfl | rfl | rfl | rfl | rfl | rfl | rfl | rfl | rfl | rfl | rfl | rfl | rfl | rfl | rfl | rfl | rfl <;> decide +kernel
theorem Ey {nm:bA} {n:Nat} (hnm:nm.length ≤ 10) (h1:1 ≤ n) (hn:n ≤ 16):cu FF nm (n:Int) = some (Ab nm n):=by
 refine ap.eq ?_
 unfold cu
 by_cases h:n = 1
 ·subst h
  exact ap.eX rfl (ap.some rfl)
 ·have hl:=pe hn
  have e1:=E3 n hn
  rw [← zg] at e1
  rw [itm_1 (by omega),Int.natAbs_natCast]
  refine ap.iff (decide_eq_false (by omega)) (ap.rD (by simp; omega) (ap.ax e1 (ap.rD (by simp; omega) (ap.some ?_))))
  simp
theorem itm_neg {nm:bA} {n:Int}:Ab nm (-n) = Ab nm n:=by
 unfold Ab
 rw [Int.natAbs_neg]
 by_cases h:1 < n ∨ n < -1
 ·rw [if_pos h,if_pos (by omega)]
 ·rw [if_neg h,if_neg (by omega)]
theorem vW {nm:bA} {n:Int} (hnm:nm.length ≤ 10) (h1:0 < n) (hn:n ≤ 16):cu FF nm n = some (Ab nm n):=by
 have:=Ey (nm:=nm) (n:=n.toNat) hnm (by omega) (by omega)
 rwa [show ((n.toNat:Nat):Int) = n by omega] at this
theorem yb {nm out:bA} {n:Int} (hnm:nm.length ≤ 10) (ho:out.length ≤ 10000) (hn:-16 ≤ n ∧ n ≤ 16) {l:List Int} {ns:List bA} {i:Int} (hl:bI l i = some n) (hns:bI ns i = some nm) :
  (Option.bind (bI l i) (fun x_7=>if (decide (0 < x_7)) = true then (Option.bind (if (decide (out ≠ [])) = true then (Option.bind (eJ out [42]) (fun x_9=>some x_9)) else (some out)) (fun out_8=>Option.bind (bI ns i) (fun x_10=>Option.bind (bI l i) (fun x_11=>Option.bind (cu FF x_10 x_11) (fun x_12=>Option.bind (eJ out_8 x_12) (fun x_13=>some x_13)))))) else (some out))) = some (sB out nm n):=by
 refine ap.eq ?_
 have hi:=sP (nm:=nm) hn
 refine ap.ax hl ?_
 by_cases h1:0 < n
 ·refine ap.eX (decide_eq_true h1) ?_
  by_cases h2:out = []
  ·subst h2
   rw [abv_1 h1]
   exact ap.ax (if_neg (by simp)) (ap.ax hns (ap.ax hl (ap.ax (vW hnm h1 hn.2) (ap.rD (by simp; omega) (ap.some rfl)))))
  ·rw [abv_2 h1 h2]
   refine ap.bind (P:=fun o=>o = out ++ [42]) (ap.eX (decide_eq_true h2) (ap.rD (by simp; omega) (ap.some rfl))) ?_
   rintro _ rfl
   refine ap.ax hns (ap.ax hl (ap.ax (vW hnm h1 hn.2) (ap.rD (by simp; omega) (ap.some ?_))))
   simp
 ·rw [El h1]
  exact ap.iff (decide_eq_false h1) (ap.some rfl)
theorem ya {nm out:bA} {n:Int} (hnm:nm.length ≤ 10) (ho:out.length ≤ 10000) (hn:-16 ≤ n ∧ n ≤ 16) {l:List Int} {ns:List bA} {i:Int} (hl:bI l i = some n) (hns:bI ns i = some nm) :
  (Option.bind (bI l i) (fun x_20=>if (decide (x_20 < 0)) = true then (Option.bind (eJ out [47]) (fun x_21=>Option.bind (bI ns i) (fun x_22=>Option.bind (bI l i) (fun x_23=>Option.bind (cu FF x_22 (IntKind.i64.wrap (-x_23))) (fun x_24=>Option.bind (eJ x_21 x_24) (fun x_25=>some x_25)))))) else (some out))) = some (qT out nm n):=by
 refine ap.eq ?_
 have hi:=sP (nm:=nm) hn
 refine ap.ax hl ?_
 by_cases h1:n < 0
 ·rw [blw_1 h1]
  have e1:=vW (nm:=nm) (n:=-n) hnm (by omega) (by omega)
  rw [itm_neg] at e1
  refine ap.eX (decide_eq_true h1) (ap.rD (by simp; omega) (ap.ax hns (ap.ax hl ?_)))
  rw [fL (z:=-n) (by omega) (by omega)]
  refine ap.ax e1 (ap.rD (by simp; omega) (ap.some ?_))
  simp
 ·rw [AG h1]
  exact ap.iff (decide_eq_false h1) (ap.some rfl)
theorem Cn {a b nm:bA} {n:Int}:qT (a ++ b) nm n = a ++ qT b nm n:=by unfold qT; split <;> simp
theorem EG (u:aO):ez FF u = some (prU u):=by
 refine ap.eq ?_
 unfold ez prU
 refine ap.ax (k8 u) ?_
 cases h:vU u
 ·exact ap.eX rfl (ap.some rfl)
 obtain ⟨h1,h2,h3⟩:=nI.1 h
 have a1:=oS (above:=[]) (nm:=mT) h1
 have a2:=oS (above:=sB [] mT u.M) (nm:=ue) h2
 have b1:=oQ (below:=[]) (nm:=mT) h1
 have b2:=oQ (below:=qT [] mT u.M) (nm:=ue) h2
 obtain ⟨l1,l2⟩:=lenU h
 have e0:([]:bA).length = 0:=rfl
 have n0:mT.length = 1:=rfl
 have n1:ue.length = 2:=rfl
 have n2:CY.length = 1:=rfl
 obtain ⟨k,hk⟩:=F4
 refine ap.iff rfl (ap.bind (P:=fun p=>p = rE u) ?_ ?_)
 ·refine ap.of ?_
  have r1:=yb (nm:=mT) (out:=[]) (n:=u.M) (l:=[u.M,u.Kg,u.S]) (ns:=[[109],[107,103],[115]]) (i:=0) (by decide) (by decide) h1 rfl rfl
  have r2:=yb (nm:=ue) (out:=sB [] mT u.M) (n:=u.Kg) (l:=[u.M,u.Kg,u.S]) (ns:=[[109],[107,103],[115]]) (i:=1) (by decide) (by omega) h2 rfl rfl
  have r3:=yb (nm:=CY) (out:=sB (sB [] mT u.M) ue u.Kg) (n:=u.S) (l:=[u.M,u.Kg,u.S]) (ns:=[[109],[107,103],[115]]) (i:=2) (by decide) (by omega) h3 rfl rfl
  generalize hB:(b9 fun (out_3:bA) (i_4:Int)=>_:bA × Int → Option ((bA × Int) ⊕ bA)) = B
  rw [show iter FF B ([],0) = iter (k + 4) B ([],0) by rw [hk]]
  rw [sG (s':=(sB [] mT u.M,1)),sG (s':=(sB (sB [] mT u.M) ue u.Kg,2)),sG (s':=(rE u,3)),Dh (t:=rE u)]
  ·subst hB; rfl
  ·subst hB; exact congrArg (fun o=>Option.bind o _) r3
  ·subst hB; exact congrArg (fun o=>Option.bind o _) r2
  ·subst hB; exact congrArg (fun o=>Option.bind o _) r1
 ·rintro _ rfl
  refine ap.bind (P:=fun p=>p = if rE u = [] then [49] else rE u) ?_ ?_
  ·by_cases h4:rE u = []
   ·rw [if_pos h4]; exact ap.eX (decide_eq_true h4) (ap.some rfl)
   ·rw [if_neg h4]; exact ap.iff (decide_eq_false h4) (ap.some rfl)
  ·rintro A hA
   rw [if_pos rfl,← hA]
   have lA:A.length ≤ 3000:=by rw [hA]; split; exact Nat.le_of_ble_eq_true rfl; exact l1
   clear hA
   refine ap.bind (P:=fun p=>p = A ++ wT u) ?_ ?_
   ·refine ap.of ?_
    have q1:(A ++ ([]:bA)).length ≤ 10000:=by rw [List.length_append]; omega
    have q2:(A ++ qT [] mT u.M).length ≤ 10000:=by rw [List.length_append]; omega
    have q3:(A ++ qT (qT [] mT u.M) ue u.Kg).length ≤ 10000:=by rw [List.length_append]; omega
    have r1:=ya (nm:=mT) (out:=A) (n:=u.M) (l:=[u.M,u.Kg,u.S]) (ns:=[[109],[107,103],[115]]) (i:=0) (by decide) (by omega) h1 rfl rfl
    have r2:=ya (nm:=ue) (out:=A ++ qT [] mT u.M) (n:=u.Kg) (l:=[u.M,u.Kg,u.S]) (ns:=[[109],[107,103],[115]]) (i:=1) (by decide) q2 h2 rfl rfl
    have r3:=ya (nm:=CY) (out:=A ++ qT (qT [] mT u.M) ue u.Kg) (n:=u.S) (l:=[u.M,u.Kg,u.S]) (ns:=[[109],[107,103],[115]]) (i:=2) (by decide) q3 h3 rfl rfl
    rw [Cn] at r2 r3
    rw [show qT A mT u.M = A ++ qT [] mT u.M by have:=Cn (a:=A) (b:=[]) (nm:=mT) (n:=u.M); rwa [List.append_nil] at this] at r1
    generalize hB:(b9 fun (out_3:bA) (i_4:Int)=>_:bA × Int → Option ((bA × Int) ⊕ bA)) = B
    rw [show iter FF B (A,0) = iter (k + 4) B (A,0) by rw [hk]]
    rw [sG (s':=(A ++ qT [] mT u.M,1)),sG (s':=(A ++ qT (qT [] mT u.M) ue u.Kg,2)),sG (s':=(A ++ wT u,3)),Dh (t:=A ++ wT u)]
    ·subst hB; rfl
    ·subst hB; exact congrArg (fun o=>Option.bind o _) r3
    ·subst hB; exact congrArg (fun o=>Option.bind o _) r2
    ·subst hB; exact congrArg (fun o=>Option.bind o _) r1
   ·rintro _ rfl
    exact ap.some rfl
def wrQ (a:az):bA:=if rt a = true then (if a.U = zU then CS a.V else CS a.V ++ 32 :: prU a.U) else []
theorem Bw {x:bz} (hx:k5 x):(CS x).length ≤ 1001:=by
 unfold CS
 have h1:=qY hx.1
 have h2:=qY hx.2
 split
 ·split
  ·omega
  ·rw [List.length_append,List.length_cons]; omega
 ·exact Nat.zero_le _
theorem BH (u:aO):(prU u).length ≤ 6000:=by
 unfold prU
 split
 ·next h=>
  obtain ⟨l1,l2⟩:=lenU h
  rw [List.length_append]
  split
  ·simp; omega
  ·omega
 ·exact Nat.zero_le _
theorem Dt {a:az} (h:rt a = false):wrQ a = []:=by unfold wrQ; rw [h]; rfl
theorem wrQ_1 {a:az} (h:rt a = true) (h2:a.U = zU):wrQ a = CS a.V:=by unfold wrQ; rw [if_pos h,if_pos h2]
theorem wrQ_2 {a:az} (h:rt a = true) (h2:a.U ≠ zU):wrQ a = CS a.V ++ 32 :: prU a.U:=by unfold wrQ; rw [if_pos h,if_neg h2]
theorem Write_q {a:az} (ha:pL a):gW FF a = some (wrQ a):=by
 refine ap.eq ?_
 unfold gW
 refine ap.ax (xv ha) ?_
 have l1:=Bw ha
 have l2:=BH a.U
 cases h:rt a
 ·rw [Dt h]; exact ap.eX rfl (ap.some rfl)
 refine ap.iff rfl ?_
 by_cases h2:a.U = zU
 ·rw [wrQ_1 h h2]; exact ap.eX (decide_eq_true h2) (ap.ax (En ha) (ap.some rfl))
 ·rw [wrQ_2 h h2]
  refine ap.iff (decide_eq_false h2) (ap.ax (En ha) (ap.rD (by simp; omega) (ap.ax (Print_u _) (ap.rD (by simp; omega) (ap.some ?_)))))
  simp
theorem EC {a:az} (ha:pL a):eu FF a = some (wrQ a):=by
 refine ap.eq ?_
 unfold eu
 refine ap.ax (jl ha) ?_
 have l1:=Bw ha
 have l2:=BH a.U
 cases h:rt a
 ·rw [Dt h]; exact ap.eX rfl (ap.some rfl)
 refine ap.iff rfl (ap.ax (rText_f ha) ?_)
 by_cases h2:a.U = zU
 ·rw [wrQ_1 h h2]; exact ap.bind (P:=fun o=>o = CS a.V) (ap.iff (decide_eq_false fun e=>e h2) (ap.some rfl)) (fun o ho=>by subst ho; exact ap.some rfl)
 ·rw [wrQ_2 h h2]
  refine ap.bind (P:=fun o=>o = CS a.V ++ 32 :: prU a.U) (ap.eX (decide_eq_true h2) (ap.rD (by simp; omega) (ap.ax (EG _) (ap.rD (by simp; omega) (ap.some ?_))))) (fun o ho=>by subst ho; exact ap.some rfl)
  simp
end Go.Proofs.YtcbbilehdaaffaaGreatDoor
namespace Go.Proofs.YtcbbilehdaaffaaGreatDoor
open Go Go.Sk
set_option maxRecDepth 100000
theorem Ew:dU FF = some true:=by
 unfold dU gW mu kf eL
 simp only [EU]
 decide +kernel
end Go.Proofs.YtcbbilehdaaffaaGreatDoor
namespace Go.Proofs.YtcbbilehdaaffaaGreatDoor
open Go Go.Sk
set_option linter.unusedSimpArgs false
set_option linter.unusedVariables false
theorem C1 {α β:Type} [DecidableEq α] [DecidableEq β] {a:α} {b:β}:(decide (a ≠ a) || decide (b ≠ b)) = false:=by simp
theorem yG {a b:az} {n:Int} (ha:pL a) (hb:pL b):cA FF a b n = some true:=by
 refine ap.eq ?_
 unfold cA
 refine ap.ax (Add_q ha hb) (ap.ax (rAdd_q ha hb) (ap.iff C1 ?_))
 refine ap.ax (Sub_q ha hb) (ap.ax (rSub_q ha hb) (ap.iff C1 ?_))
 refine ap.ax (Times_q ha hb) (ap.ax (EE ha hb) (ap.iff C1 ?_))
 refine ap.ax (Over_q ha hb) (ap.ax (rOver_q ha hb) (ap.iff C1 ?_))
 refine ap.ax (Raise_q ha) (ap.ax (EF ha) (ap.iff C1 ?_))
 refine ap.ax (Cmp_q ha hb) (ap.bind (P:=fun p=>p = cmQ a b) ?_ ?_)
 ·unfold cmQ
  refine ap.ax (jl ha) ?_
  cases h1:rt a
  ·exact ap.g0 rfl (ap.eX rfl (ap.some rfl))
  refine ap.g1 rfl (ap.ax (jl hb) ?_)
  cases h2:rt b
  ·exact ap.eX rfl (ap.some rfl)
  refine ap.iff rfl ?_
  by_cases h:a.U = b.U
  ·exact ap.iff (by simp [h]) (ap.ax (rCmp_f ha hb) (ap.some (by simp [h])))
  ·exact ap.eX (by simp [h]) (ap.some (by simp [h]))
 ·rintro _ rfl
  refine ap.ax Ew ?_
  simp only [decide_true,Bool.and_self]
  refine ap.g1 rfl (ap.ax (Write_q ha) (ap.g1 rfl (ap.ax (EC ha) (ap.some ?_))))
  simp
end Go.Proofs.YtcbbilehdaaffaaGreatDoor
namespace Go.Proofs.YtcbbilehdaaffaaGreatDoor
open Go Go.Sk
end Go.Proofs.YtcbbilehdaaffaaGreatDoor
namespace Go.Sk
open Go
theorem zZ {h:PH} {cs:List CP} {L:List Value} {k:IntKind} {z:Int} (hr:bp h cs L) (hm:CP.int k z ∈ cs):tB k z:=by
 obtain ⟨i,hi,he⟩:=List.getElem_of_mem hm
 obtain ⟨u,_,hu⟩:=cm.get hr i (.int k z) (by rw [List.getElem?_eq_getElem hi,he])
 exact hu.2
end Go.Sk
namespace Go.Proofs.YtcbbilehdaaffaaGreatDoor
open Go Go.Sk
theorem DP {w:aU} (H:∀ z ∈ w.l,tB .u32 z):cM 4294967296 w.l:=fun i=>by
 by_cases hi:i < w.l.length
 ·have h1:=H w.l[i] (List.getElem_mem hi)
  have e:dg w.l i = w.l[i]:=by simp [dg,List.getD,List.getElem?_eq_getElem hi]
  rw [e]
  have h2:0 ≤ w.l[i] ∧ w.l[i] ≤ 4294967295:=by simpa [tB,IntKind.min,IntKind.max,IntKind.signed,IntKind.bits] using h1
  omega
 ·rw [pU (by omega)]; decide
theorem EX {x:bz} (H:∀ z,CP.int .u32 z ∈ aE x → tB .u32 z):k5 x:=by
 refine ⟨DP fun z hz=>H z ?_,DP fun z hz=>H z ?_⟩
 ·unfold aE ar
  exact List.mem_append_left _ (List.mem_cons_of_mem _ (List.mem_cons_of_mem _ (List.mem_map_of_mem hz)))
 ·unfold aE ar
  exact List.mem_append_right _ (List.mem_cons_of_mem _ (List.mem_cons_of_mem _ (List.mem_map_of_mem hz)))
theorem DO {x:az} {h:PH} {v:Value} (hx:(BV.agg (ao x)).rel h (fun _=>.bool false) v):pL x:=by
 obtain ⟨cs,_,hr⟩:=hx
 refine EX fun z hz=>zZ hr ?_
 unfold ao
 exact List.mem_append_left _ hz
theorem wN {mx:Int} (a:az) (b:az) (n:Int) (ha:pL a) (hb:pL b):aA Tryz.prog (bd mx) 9 [] [.agg (ao a),.agg (ao b),.one (.i n)] (Is [] (.b (.one (.bool true)))) :=
 hM (yG ha hb)
end Go.Proofs.YtcbbilehdaaffaaGreatDoor
