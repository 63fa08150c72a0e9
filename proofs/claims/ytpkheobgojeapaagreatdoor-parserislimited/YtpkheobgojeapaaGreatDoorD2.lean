/- part of the proof: the denotation of a walk -/
import Derived.Test.YtpkheobgojeapaaGreatDoorD1
import Derived.Lib.Builder
namespace Go.Dn
open Go Go.Sk
set_option linter.unusedVariables false
set_option linter.unusedSimpArgs false
set_option linter.unusedSectionVars false
variable {D:Dt}
def E3 (k:Nat) (d:DT D.σ) (l:List (V D d)):TS D → Option (TS D)
 | .n (.p (.row j))=>if k == j then some (.n (.d (.sl d) l)) else some (.n (.p (.row j)))
 | .gb i=>some (.gb i)
 | x=>if mN k x = true then none else some x
def BZ (k:Nat):TO D → Bool
 | .raw _=>true
 | .x _ _ _ kr fg _=>kr == k && !fg
 | _=>false
def frz (k:Nat) (d:DT D.σ) (l:List (V D d)) (s:bE D):bE D:=⟨s.sl.filterMap fun p=>(E3 k d l p.2).map fun x=>(p.1,x),(del k s.own).filter fun p=>!BZ k p.2,s.Γ⟩
def E2:List Nat → bE D → bE D
 | [],s=>s
 | k :: ks,s=>match lk s.own k with
  | some (.row _ d l)=>E2 ks (frz k d l s)
  | _=>E2 ks s
theorem xi {k:Nat} {p:CP}:∀ {l:List (Nat × SV)} {j:Nat} {y:SV},(j,y) ∈ l → (j,y.dc k p) ∈ qv k p l
 | (i,x) :: l,j,y,h=>by
  unfold qv
  rcases List.mem_cons.1 h with e | e
  ·cases e; exact List.mem_cons_self
  ·exact List.mem_cons_of_mem _ (xi e)
theorem BD {k:Nat} {p:CP} {l:List (Nat × OC)} {j:Nat} {c:OC} (h:(j,c) ∈ l):(j,c.dc k p) ∈ oH k p l:=by
 induction l with
 | nil=>cases h
 | cons q l ih=>
  obtain ⟨i,x⟩:=q
  simp only [oH,List.map_cons]
  rcases List.mem_cons.1 h with e | e
  ·cases e; exact List.mem_cons_self
  ·exact List.mem_cons_of_mem _ (ih e)
theorem qA {k:Nat}:∀ {l:List (Nat × TO D)},del k (bq l) = bq (del k l)
 | []=>rfl
 | (i,y) :: l=>by
  simp only [bq,List.map_cons,del]
  split
  ·exact qA (l:=l)
  ·exact congrArg _ (qA (l:=l))
theorem Ec {k:Nat} {p:CP} {d:DT D.σ} {v:V D d}:(iC D d v).dc k p = iC D d v:=by cases d <;> rfl
theorem cv_pers {k:Nat} {p:CP} {x:CV} (h:x.bd k = false):x.dc k p = x:=by
 cases x with
 | row j=>
  have:¬ j = k:=by simpa [CV.bd] using h
  simp only [CV.dc]
  rw [if_neg (by simpa using fun e=>this e.symm)]
 | _=>rfl
theorem vY {k:Nat} {p:CP}:∀ {l:List CV},l.any (·.bd k) = false → l.map (·.dc k p) = l
 | [],_=>rfl
 | x :: l,h=>by
  simp only [List.any_cons,Bool.or_eq_false_iff] at h
  rw [List.map_cons,cv_pers h.1,vY h.2]
theorem CH {k:Nat} {p:CP} {x:BV} (h:x.bd k = false):x.dc k p = x:=by
 cases x with
 | row j=>
  have:¬ j = k:=by simpa [BV.bd] using h
  simp only [BV.dc]
  rw [if_neg (by simpa using fun e=>this e.symm)]
 | cD f fs cs=>
  simp only [BV.bd,Bool.or_eq_false_iff] at h
  simp only [BV.dc,vY h.1,vY h.2]
 | xa cs=>simp only [BV.dc,vY (show cs.any (·.bd k) = false from h)]
 | _=>rfl
theorem sv_pers {k:Nat} {p:CP} {x:SV} (h:x.bd k = false):x.dc k p = x:=by
 have hl:∀ {l:List BV},l.any (·.bd k) = false → l.map (·.dc k p) = l:=by
  intro l
  induction l with
  | nil=>intro _; rfl
  | cons x l ih=>
   intro h
   simp only [List.any_cons,Bool.or_eq_false_iff] at h
   rw [List.map_cons,CH h.1,ih h.2]
 cases x with
 | b x=>simp only [SV.dc,CH (show x.bd k = false from h)]
 | kU l=>simp only [SV.dc,hl (show l.any (·.bd k) = false from h)]
 | opt c x=>simp only [SV.dc,CH (show x.bd k = false from h)]
 | jX l=>simp only [SV.dc,hl (show l.any (·.bd k) = false from h)]
section
variable {P:Program} [DecidableEq D.σ] {TB:aF} {E:Env TB} {n:Sh} {s:bE D}
theorem Hd {k:Nat} {d:DT D.σ} {l:List (V D d)} {z u:TS D} {Γ:List GE} {h:PH} {ρ:RM} {v:Value} (hu:E3 k d l z = some u) (hr:((z.sv Γ).dc k (.sl (sz D d) (l.map (enc D d)))).rel h ρ v):(u.sv Γ).rel h ρ v:=by
 have key:∀ {z:TS D},(if mN k z = true then none else some z) = some u → ((z.sv Γ).dc k (.sl (sz D d) (l.map (enc D d)))).rel h ρ v → (u.sv Γ).rel h ρ v:=by
  intro z hz hr
  split at hz
  ·cases hz
  ·next hn=>
   cases hz
   rw [sv_pers (by rw [vK]; simpa using hn)] at hr
   exact hr
 unfold E3 at hu
 split at hu
 ·next j=>
  simp only [TS.sv,T0.bv,SV.dc,BV.dc] at hr
  split at hu
  ·next e=>cases hu; rw [if_pos e] at hr; exact hr
  ·next e=>cases hu; rw [if_neg e] at hr; exact hr
 ·next i=>
  cases hu
  have:(TS.gb (D:=D) i).sv Γ = (TS.gb (D:=D) i).sv Γ:=rfl
  simp only [TS.sv] at hr ⊢
  split at hr <;> exact hr
 ·exact key hu hr
theorem DE {j k kr:Nat} {fg:Bool} {p:CP} (h2:fg = true ∨ kr ≠ j):∀ {l:List XC} {ps:List CP},(kW k kr fg l ps).map (·.dc j p) = kW k kr fg l ps
 | [],_=>rfl
 | _ :: _,[]=>rfl
 | x :: l,q :: ps=>by
  simp only [kW,List.map_cons]
  rw [DE h2]
  congr 1
  cases x with
  | c=>rfl
  | sp=>
   simp only [iE]
   split <;> rfl
  | r=>
   simp only [iE]
   split
   ·rfl
   ·next hf=>
    rcases h2 with h2 | h2
    ·exact absurd h2 hf
    ·simp only [BV.dc]
     rw [if_neg (by simpa using fun e=>h2 e.symm)]
theorem GW {k:Nat} {p:CP} {c:TO D} (h4:BZ k c = false):c.oc.dc k p = c.oc:=by
 cases c with
 | box T' t v=>rfl
 | row T' t v=>rfl
 | raw c=>simp [BZ] at h4
 | x T' i k' kr fg v=>
  show OC.ba _ _ = OC.ba _ _
  rw [DE (by
   simp only [BZ,Bool.and_eq_false_iff,beq_eq_false_iff_ne,Bool.not_eq_false'] at h4
   exact h4.symm)]
 | cp T k'=>rfl
 | ms t es=>
  show OC.mp _ = OC.mp _
  simp [vo,Ec]
 | mi ik t es=>
  show OC.mp _ = OC.mp _
  simp [vo,Ec]
theorem IN {k:Nat} {T:TypeId} {d:DT D.σ} {l:List (V D d)} {a:Act} {w:World} (hk:lk s.own k = some (.row T d l)) (hr:R E n s.st a w):R E n (frz k d l s).st a w:=by
 have hk':lk s.st.own k = some (.row T (sz D d) (l.map (enc D d))):=by show lk (bq s.own) k = _; rw [oh,hk]; rfl
 obtain ⟨h1,h2,hh,ρ,hw,hs⟩:=hr.gL hk'
 refine ⟨h1,h2,hh,ρ,hw.sub fun p hp=>?_,fun j x hx=>?_⟩
 ·obtain ⟨⟨j,c⟩,hq,rfl⟩:=List.mem_map.1 hp
  obtain ⟨h3,h4⟩:=List.mem_filter.1 hq
  have h5:(j,c.oc) ∈ del k s.st.own:=by show _ ∈ del k (bq s.own); rw [qA]; exact List.mem_map.2 ⟨_,h3,rfl⟩
  have h6:=BD (k:=k) (p:=.sl (sz D d) (l.map (enc D d))) h5
  rw [GW (by simpa using h4)] at h6
  exact h6
 ·obtain ⟨y,hy,rfl⟩:=dR.1 hx
  obtain ⟨⟨t,z⟩,hm,hz⟩:=List.mem_filterMap.1 hy
  obtain ⟨u,hu,e⟩:=Option.map_eq_some_iff.1 hz
  cases e
  have h3:=xi (k:=k) (p:=.sl (sz D d) (l.map (enc D d))) (dR.2 ⟨z,hm,rfl⟩:(t,z.sv s.Γ) ∈ od s.Γ s.sl)
  obtain ⟨v,hv,hrel⟩:=hs _ _ h3
  exact ⟨v,hv,Hd hu hrel⟩
theorem Fo {a:Act} {w:World}:∀ {ks:List Nat} {s:bE D},R E n s.st a w → R E n (E2 ks s).st a w
 | [],s,h=>h
 | k :: ks,s,h=>by
  unfold E2
  split
  ·next hk=>exact Fo (IN hk h)
  ·exact Fo h
theorem xp {α:Type} {f:Nat × α → Bool} {j:Nat} {x:α} (hf:f (j,x) = true):∀ {l:List (Nat × α)},lk l j = some x → lk (l.filter f) j = some x
 | (i,y) :: l,h=>by
  by_cases e:j = i
  ·subst e
   have:y = x:=by simpa [lk] using h
   subst this
   simp only [List.filter_cons,hf,if_true,lk,beq_self_eq_true]
  ·have h':lk l j = some x:=by simpa [lk,e] using h
   have ih:=xp hf h'
   simp only [List.filter_cons]
   split
   ·simp only [lk]; rw [if_neg (by simpa using e)]; exact ih
   ·exact ih
theorem zl {α β:Type} {f:α → Option β}:∀ {l:List (Nat × α)} {t:Nat} {x:α} {y:β},lk l t = some x → f x = some y → lk (l.filterMap fun p=>(f p.2).map fun z=>(p.1,z)) t = some y
 | [],t,x,y,h,_=>by simp [lk] at h
 | (j,z) :: l,t,x,y,h,hy=>by
  by_cases e:t = j
  ·subst e
   have:z = x:=by simpa [lk] using h
   subst this
   simp only [List.filterMap_cons,hy,Option.map_some,lk,beq_self_eq_true,if_true]
  ·have h':lk l t = some x:=by simpa [lk,e] using h
   have ih:=zl h' hy
   simp only [List.filterMap_cons]
   split
   ·exact ih
   ·next q hq=>
    cases hb:f z with
    | none=>rw [hb] at hq; cases hq
    | some w=>
     rw [hb] at hq
     cases hq
     simp only [lk]
     rw [if_neg (by simpa using e)]
     exact ih
theorem Hc {lcks lo:List Nat} {k:Nat} {d:DT D.σ} {l:List (V D d)} (h1:k ∉ lo) (h2:∀ p ∈ s.own,p.1 ∈ lo → BZ k p.2 = false) (h3:∀ t ∈ lcks,∀ x,vl s t = some x → oG k x = false):Ext lcks lo s (frz k d l s):=by
 refine ⟨fun t ht x hx=>?_,fun j hj c hc=>?_⟩
 ·have hu:=h3 t ht x hx
  have hf:∀ {y:T0 D},oG k y = false → E3 k d l (.n y) = some (.n y):=by
   intro y hy
   unfold E3
   split
   ·next j e=>
    cases e
    have:¬ j = k:=by simpa [oG,BV.bd] using hy
    rw [if_neg (by simpa using fun e=>this e.symm)]
   ·next e=>cases e
   ·rw [if_neg (by show ¬ oG k y = true; rw [hy]; simp)]
  unfold vl at hx
  split at hx
  ·next y hy=>
   cases hx
   have:=zl (f:=E3 k d l) hy (hf hu)
   unfold vl frz
   simp only [this]
  ·next i hi=>
   have:=zl (f:=E3 k d l) hi (y:=.gb i) rfl
   unfold vl frz
   simp only [this]
   exact hx
  ·cases hx
 ·have hne:j ≠ k:=fun e=>h1 (e ▸ hj)
  refine xp ?_ (by rw [ml hne]; exact hc)
  have:=h2 _ (bh hc) hj
  simp only at this
  simp [this]
def okFz (lk0:Kept) (s:bE D) (k:Nat):Bool:=(!lk0.o.contains k && (s.own.all fun p=>!lk0.o.contains p.1 || !BZ k p.2)) && lk0.s.all fun t=>match vl s t with
 | some x=>!oG k x
 | none=>true
def Ix (lk0:Kept):List Nat → bE D → Option (bE D)
 | [],s=>some s
 | k :: ks,s=>match lk s.own k with
  | some (.row _ d l)=>if okFz lk0 s k = true then Ix lk0 ks (frz k d l s) else none
  | _=>Ix lk0 ks s
theorem CB {lk0:Kept}:∀ {ks:List Nat} {s s':bE D},Ix lk0 ks s = some s' → Ext lk0.s lk0.o s s' ∧ ∀ a w,R E n s.st a w → R E n s'.st a w
 | [],s,s',h=>by cases h; exact ⟨.refl,fun _ _ h=>h⟩
 | k :: ks,s,s',h=>by
  unfold Ix at h
  split at h
  ·next T d l hk=>
   split at h
   ·next hok=>
    simp only [okFz,Bool.and_eq_true,List.all_eq_true,Bool.not_eq_true',Bool.or_eq_true] at hok
    obtain ⟨⟨h1,h2⟩,h3⟩:=hok
    obtain ⟨h4,h5⟩:=CB h
    refine ⟨Ext.trans (Hc (by simpa using h1) (fun p hp hm=>?_) (fun t ht x hx=>?_)) h4,fun a w hr=>h5 a w (IN hk hr)⟩
    ·rcases h2 p hp with h | h
     ·have:lk0.o.contains p.1 = true:=by simpa using hm
      rw [h] at this; cases this
     ·exact h
    ·have:=h3 t ht
     rw [hx] at this
     simpa using this
   ·cases h
  ·exact CB h
def fgC (lk0:Kept):List Nat → bE D → Option (bE D)
 | [],s=>some s
 | k :: ks,s=>match lk s.own k with
  | some (.x T i k' kr false v)=>if (rof (D.xs i)).isSome = true ∧ lk0.o.contains k = false then fgC lk0 ks ⟨s.sl,ins k (.x T i k' kr true v) s.own,s.Γ⟩ else none
  | _=>fgC lk0 ks s
theorem Fp {lk0:Kept}:∀ {ks:List Nat} {s s':bE D},fgC lk0 ks s = some s' → Ext lk0.s lk0.o s s' ∧ ∀ a w,R E n s.st a w → R E n s'.st a w
 | [],s,s',h=>by cases h; exact ⟨.refl,fun _ _ h=>h⟩
 | k :: ks,s,s',h=>by
  unfold fgC at h
  split at h
  ·next T i k' kr v hk=>
   split at h
   ·next hok=>
    obtain ⟨h1,h2⟩:=hok
    obtain ⟨off,hoff⟩:=Option.isSome_iff_exists.1 h1
    obtain ⟨r1,r2,r3⟩:=Cb hoff
    obtain ⟨h4,h5⟩:=Fp h
    have hx:Ext lk0.s lk0.o s ⟨s.sl,ins k (.x T i k' kr true v) s.own,s.Γ⟩:=⟨fun t _ x hx=>hx,fun j hj c hc=>by
     show lk (ins k _ s.own) j = _
     rw [qd fun e=>by subst e; simp at h2; exact h2 hj]
     exact hc⟩
    refine ⟨hx.trans h4,fun a w hr=>h5 a w ?_⟩
    ·have hk':lk s.st.own k = some (.ba T (kW k' kr false (D.xs i) (D.e i v))):=by show lk (bq s.own) k = _; rw [oh,hk]; rfl
     have:=hr.forget k off hk'
     rw [GC r1 r2 r3] at this
     show R E n ⟨od s.Γ s.sl,bq (ins k (.x T i k' kr true v) s.own)⟩ a w
     rw [← zV]
     exact this
   ·cases h
  ·exact Fp h
theorem Ja {k kr off:Nat} {p:CP}:∀ {l:List XC} {ps:List CP} {o:Nat},l.length = ps.length → (∀ x ∈ l,x ≠ .sp) → l[o]? = some .r → (l.drop (o + 1)).contains .r = false → (l.take o).contains .r = false → uM ((kW k kr false l ps).map (·.dc kr p)) = some (ps.set o p)
 | x :: l,q :: ps,0,hl,hs,h1,h2,_=>by
  simp at h1
  subst h1
  have:∀ {l:List XC} {ps:List CP},l.length = ps.length → (∀ x ∈ l,x ≠ .sp) → l.contains .r = false → uM ((kW k kr false l ps).map (·.dc kr p)) = some ps:=by
   intro l
   induction l with
   | nil=>intro ps hl _ _; cases ps with
    | nil=>rfl
    | cons _ _=>cases hl
   | cons x l ih=>
    intro ps hl hs h
    simp only [List.contains_cons,Bool.or_eq_false_iff] at h
    cases ps with
    | nil=>cases hl
    | cons q ps=>
     cases x with
     | r=>simp at h
     | sp=>exact absurd rfl (hs _ List.mem_cons_self)
     | c=>
      show (uM ((kW k kr false l ps).map (·.dc kr p))).map (q :: ·) = _
      rw [ih (by simpa using hl) (fun x hx=>hs x (List.mem_cons_of_mem _ hx)) h.2]
      rfl
  have e0:BV.dc kr p (iE k kr false .r q) = .one p:=by simp [iE,BV.dc]
  simp only [kW,List.map_cons,e0,List.set_cons_zero]
  show (uM ((kW k kr false l ps).map (·.dc kr p))).map (p :: ·) = _
  rw [this (by simpa using hl) (fun x hx=>hs x (List.mem_cons_of_mem _ hx)) (by simpa using h2)]
  rfl
 | x :: l,q :: ps,o + 1,hl,hs,h1,h2,h3=>by
  simp only [List.take_succ_cons,List.contains_cons,Bool.or_eq_false_iff] at h3
  cases x with
  | r=>simp at h3
  | sp=>exact absurd rfl (hs _ List.mem_cons_self)
  | c=>
   show (uM ((kW k kr false l ps).map (·.dc kr p))).map (q :: ·) = _
   rw [Ja (off:=off) (by simpa using hl) (fun x hx=>hs x (List.mem_cons_of_mem _ hx)) (by simpa using h1) (by simpa using h2) h3.2]
   rfl
 | [],_,_,_,_,h1,_,_=>by simp at h1
 | _ :: _,[],_,hl,_,_,_,_=>by cases hl
section
variable (L:Lay D)
def impS (k kr:Nat) (T:TypeId) (i:D.σ) (d:DT D.σ) (l:List (V D d)) (w:D.T i) (s:bE D):bE D:=⟨(frz kr d l s).sl,ins k (.box T (.st i) w) (frz kr d l s).own,s.Γ⟩
def E0 (lk0:Kept):List Nat → bE D → Option (bE D)
 | [],s=>some s
 | k :: ks,s=>match lk s.own k with
  | some (.x T i k' kr false v)=>(match lk s.own kr with
   | some (.row _ d l)=>(rof (D.xs i)).bind fun off=>if ((D.xs i).length = D.n i ∧ (D.xs i).contains .sp = false) ∧ (okFz ⟨lk0.s,lk0.o.filter (· != k),[]⟩ s kr = true ∧ (lk0.o.contains k = false ∧ k ≠ kr)) then (oy L (.sl d) (show V D (.sl d) from l) 8 (.st i) v off).bind fun w=>E0 lk0 ks (impS k kr T i d l w s) else none
   | _=>none)
  | _=>E0 lk0 ks s
end
theorem imp_R {L:Lay D} {k k' kr off:Nat} {T Tr:TypeId} {i:D.σ} {v w:D.T i} {d:DT D.σ} {l:List (V D d)} {a:Act} {ww:World} (hk:lk s.own k = some (.x T i k' kr false v)) (hkr:lk s.own kr = some (.row Tr d l)) (hne:k ≠ kr) (hro:rof (D.xs i) = some off) (hl:(D.xs i).length = D.n i) (hsp:(D.xs i).contains .sp = false) (hw:oy L (.sl d) (show V D (.sl d) from l) 8 (.st i) v off = some w)
  (hr:R E n s.st a ww):R E n (impS k kr T i d l w s).st a ww:=by
 obtain ⟨r1,r2,r3⟩:=Cb hro
 have hkr':lk s.st.own kr = some (.row Tr (sz D d) (l.map (enc D d))):=by show lk (bq s.own) kr = _; rw [oh,hkr]; rfl
 have h1:=hr.gL hkr'
 have h2:=IN hkr hr
 have hx:lk (oH kr (.sl (sz D d) (l.map (enc D d))) (del kr s.st.own)) k = some (.ba T ((kW k' kr false (D.xs i) (D.e i v)).map (·.dc kr (.sl (sz D d) (l.map (enc D d)))))):=by
  have e1:lk (del kr s.st.own) k = some (.ba T (kW k' kr false (D.xs i) (D.e i v))):=by
   rw [ml hne]
   show lk (bq s.own) k = _
   rw [oh,hk]
   rfl
  unfold oH
  rw [GX (f:=fun c:OC=>c.dc kr (.sl (sz D d) (l.map (enc D d)))),e1]
  rfl
 obtain ⟨e1,e2⟩:=qT L (.sl d) _ 8 _ _ _ _ hw
 have hlen:(D.e i v).length = D.n i:=D.len i v
 have e3:(D.e i v).set off (.sl (sz D d) (l.map (enc D d))) = D.e i w:=by
  have e1':Sk.aN (D.e i v) off [.sl (sz D d) (l.map (enc D d))] = D.e i w:=e1
  have e2':off + 1 ≤ D.n i:=e2
  rw [← e1']
  simp only [Sk.aN,List.length_singleton]
  rw [List.set_eq_take_append_cons_drop,if_pos (by rw [hlen]; omega)]
  simp
 have h3:=h1.F7 k hx (Ja (off:=off) (by rw [hl,hlen]) (fun x hx e=>by subst e; simp at hsp; exact hsp hx) r1 r2 r3)
 rw [e3] at h3
 obtain ⟨f1,f2,hh,ρ,hw1,hs1⟩:=h3
 refine ⟨f1,f2,hh,ρ,hw1.sub fun p hp=>?_,fun j y hy=>?_⟩
 ·obtain ⟨⟨j,c⟩,hq,rfl⟩:=List.mem_map.1 hp
  rcases iu hq with ⟨rfl,rfl⟩ | ⟨hj,hq⟩
  ·exact sI
  ·refine gN ?_ hj
   obtain ⟨h3,h4⟩:=List.mem_filter.1 hq
   have h5:(j,c.oc) ∈ del kr s.st.own:=by show _ ∈ del kr (bq s.own); rw [qA]; exact List.mem_map.2 ⟨_,h3,rfl⟩
   have h6:=BD (k:=kr) (p:=.sl (sz D d) (l.map (enc D d))) h5
   rw [GW (by simpa using h4)] at h6
   exact h6
 ·obtain ⟨y',hy',rfl⟩:=dR.1 hy
  obtain ⟨⟨t,z⟩,hm,hz⟩:=List.mem_filterMap.1 hy'
  obtain ⟨u,hu,e⟩:=Option.map_eq_some_iff.1 hz
  cases e
  have h3:=xi (k:=kr) (p:=.sl (sz D d) (l.map (enc D d))) (dR.2 ⟨z,hm,rfl⟩:(t,z.sv s.Γ) ∈ od s.Γ s.sl)
  obtain ⟨v,hv,hrel⟩:=hs1 _ _ h3
  exact ⟨v,hv,Hd hu hrel⟩
theorem vD {L:Lay D} {lk0:Kept}:∀ {ks:List Nat} {s s':bE D},E0 L lk0 ks s = some s' → Ext lk0.s lk0.o s s' ∧ ∀ a w,R E n s.st a w → R E n s'.st a w
 | [],s,s',h=>by cases h; exact ⟨.refl,fun _ _ h=>h⟩
 | k :: ks,s,s',h=>by
  unfold E0 at h
  split at h
  ·next T i k' kr v hk=>
   split at h
   ·next Tr d l hkr=>
    obtain ⟨off,hro,h1⟩:=aJ h
    split at h1
    ·next hok=>
     obtain ⟨⟨hl,hsp⟩,hfz,hlo,hne⟩:=hok
     obtain ⟨w,hw,h2⟩:=aJ h1
     simp only [okFz,Bool.and_eq_true,List.all_eq_true,Bool.not_eq_true',Bool.or_eq_true] at hfz
     obtain ⟨⟨g1,g2⟩,g3⟩:=hfz
     obtain ⟨h4,h5⟩:=vD h2
     have hlo':k ∉ lk0.o:=by simpa using hlo
     have hf:lk0.o.filter (· != k) = lk0.o:=List.filter_eq_self.2 fun j hj=>by simpa using fun e:j = k=>hlo' (e ▸ hj)
     rw [hf] at g1 g2
     have hx2:Ext lk0.s lk0.o (frz kr d l s) (impS k kr T i d l w s):=⟨fun t _ x hx=>hx,fun j hj c hc=>by
      show lk (ins k _ _) j = _
      rw [qd (show j ≠ k by intro e; subst e; exact hlo' hj)]
      exact hc⟩
     refine ⟨Ext.trans (Ext.trans (Hc (k:=kr) (d:=d) (l:=l) (by simpa using g1) (fun p hp hm=>?_) (fun t ht x hx=>?_)) hx2) h4,fun a w' hr=>h5 a w' (imp_R hk hkr hne hro hl hsp hw hr)⟩
     ·rcases g2 p hp with h | h
      ·have:lk0.o.contains p.1 = true:=by simpa using hm
       rw [h] at this; cases this
      ·exact h
     ·have:=g3 t ht
      rw [hx] at this
      simpa using this
    ·cases h1
   ·cases h
  ·exact vD h
def Hw (k:Nat) (d:DT D.σ) (v:V D d):TS D → Option (TS D)
 | .n (.p (.ptr j o))=>if j = k then some (.n (.ep d v o)) else some (.n (.p (.ptr j o)))
 | .gb i=>some (.gb i)
 | x=>if mN k x = true then none else some x
def frb (k:Nat) (d:DT D.σ) (v:V D d) (s:bE D):bE D:=⟨s.sl.filterMap fun p=>(Hw k d v p.2).map fun x=>(p.1,x),del k s.own,s.Γ⟩
theorem rf {k:Nat} {ps:List CP} {x:SV} (hx:∀ o,x ≠ .b (.ptr k o)):∀ {l:List (Nat × SV)} {j:Nat},(j,x) ∈ l → (j,x) ∈ nM k ps l
 | (i,y) :: l,j,h=>by
  unfold nM
  rcases List.mem_cons.1 h with e | h
  ·cases e
   split
   ·next k' o=>
    split
    ·next e=>subst e; exact absurd rfl (hx o)
    ·exact List.mem_cons_self
   ·exact List.mem_cons_self
  ·have ih:=rf (ps:=ps) hx h
   split
   ·split <;> exact List.mem_cons_of_mem _ ih
   ·exact List.mem_cons_of_mem _ ih
theorem BC {k o:Nat} {ps:List CP}:∀ {l:List (Nat × SV)} {j:Nat},(j,.b (.ptr k o)) ∈ l → (j,.b (.jY (ps.drop o))) ∈ nM k ps l
 | (i,y) :: l,j,h=>by
  unfold nM
  rcases List.mem_cons.1 h with e | h
  ·cases e
   simp only [if_true]
   exact List.mem_cons_self
  ·have ih:=BC (ps:=ps) h
   split
   ·split <;> exact List.mem_cons_of_mem _ ih
   ·exact List.mem_cons_of_mem _ ih
theorem frb_R {k:Nat} {T:TypeId} {d:DT D.σ} {v:V D d} {a:Act} {w:World} (hk:lk s.own k = some (.box T d v)) (hr:R E n s.st a w):R E n (frb k d v s).st a w:=by
 have hk':lk s.st.own k = some (.box T (enc D d v)):=by show lk (bq s.own) k = _; rw [oh,hk]; rfl
 refine rP (fun p hp=>?_) (fun p hp=>?_) (hr.oN hk')
 ·obtain ⟨t,x⟩:=p
  obtain ⟨y,hy,rfl⟩:=dR.1 hp
  obtain ⟨⟨t',z⟩,hm,hz⟩:=List.mem_filterMap.1 hy
  obtain ⟨u,hu,e⟩:=Option.map_eq_some_iff.1 hz
  obtain ⟨rfl,rfl⟩:=Prod.mk.inj e
  clear e
  have h0:(t',z.sv s.Γ) ∈ s.st.slots:=dR.2 ⟨z,hm,rfl⟩
  have key:∀ {z:TS D},(t',z.sv s.Γ) ∈ s.st.slots → (if mN k z = true then none else some z) = some u → (t',u.sv s.Γ) ∈ nM k (enc D d v) s.st.slots:=by
   intro z h0 hz
   split at hz
   ·cases hz
   ·next hn=>
    cases hz
    refine rf (fun o e=>hn ?_) h0
    rw [← vK (Γ:=s.Γ),e]
    simp [SV.bd,BV.bd]
  simp only at hu
  unfold Hw at hu
  split at hu
  ·next j o=>
   split at hu
   ·next e=>subst e; cases hu; exact BC h0
   ·next hne=>cases hu; exact rf (fun o' e'=>hne (by simpa [TS.sv,T0.bv] using (SV.b.inj e' |> BV.ptr.inj).1)) h0
  ·next i=>
   cases hu
   refine rf (fun o e=>?_) h0
   simp only [TS.sv] at e
   split at e <;> cases e
  ·exact key h0 hu
 ·show p ∈ del k (bq s.own)
  rw [qA]
  exact hp
def Hv (lk0:Kept):List Nat → bE D → Option (bE D)
 | [],s=>some s
 | k :: ks,s=>match lk s.own k with
  | some (.box _ d v)=>if (lk0.o.contains k = false ∧ (lk0.s.all fun t=>match vl s t with
    | some x=>!oG k x
    | none=>true) = true) then Hv lk0 ks (frb k d v s) else none
  | _=>Hv lk0 ks s
theorem y4 {lk0:Kept}:∀ {ks:List Nat} {s s':bE D},Hv lk0 ks s = some s' → Ext lk0.s lk0.o s s' ∧ ∀ a w,R E n s.st a w → R E n s'.st a w
 | [],s,s',h=>by cases h; exact ⟨.refl,fun _ _ h=>h⟩
 | k :: ks,s,s',h=>by
  unfold Hv at h
  split at h
  ·next T d v hk=>
   split at h
   ·next hok=>
    obtain ⟨h1,h2⟩:=hok
    obtain ⟨h4,h5⟩:=y4 h
    have h1':k ∉ lk0.o:=by simpa using h1
    have hx:Ext lk0.s lk0.o s (frb k d v s):=by
     refine ⟨fun t ht x hx=>?_,fun j hj c hc=>?_⟩
     ·have hu:oG k x = false:=by
       have:=List.all_eq_true.1 h2 t ht
       rw [hx] at this
       simpa using this
      have hf:Hw k d v (.n x) = some (.n x):=by
       unfold Hw
       split
       ·next j o e=>
        cases e
        have:¬ j = k:=by simpa [oG,BV.bd] using hu
        rw [if_neg this]
       ·next e=>cases e
       ·rw [if_neg (by show ¬ oG k x = true; rw [hu]; simp)]
      unfold vl at hx
      split at hx
      ·next y hy=>
       cases hx
       have:=zl (f:=Hw k d v) hy hf
       unfold vl frb
       simp only [this]
      ·next i hi=>
       have:=zl (f:=Hw k d v) hi (y:=.gb i) rfl
       unfold vl frb
       simp only [this]
       exact hx
      ·cases hx
     ·show lk (del k s.own) j = _
      rw [ml (show j ≠ k by intro e; subst e; exact h1' hj)]
      exact hc
    exact ⟨hx.trans h4,fun a w hr=>h5 a w (frb_R hk hr)⟩
   ·cases h
  ·exact y4 h
end
end Go.Dn
namespace Go.Dn
open Go Go.Sk
set_option linter.unusedVariables false
set_option linter.unusedSimpArgs false
set_option linter.unusedSectionVars false
variable {D:Dt}
def E1 (os:List Oper) (s:bE D) (o:Oper):Option (Option (Nat × Bool)):=match o.guard with
 | none=>some none
 | some (i,w)=>match (os[i]?).bind (·.dst) with
  | none=>none
  | some t=>match lk s.sl t with
   | some (.gb j)=>if j = i ∧ (yO s.Γ i).isSome = true then some (some (i,w)) else none
   | _=>none
def fzK (s:bE D) (o:Oper):List Nat:=match o.guard,o.op with
 | none,.call ⟨.value _,⟨xs⟩,_⟩=>xs.filterMap fun x=>match s.ev none x with
  | some (.p (.row k))=>some k
  | _=>none
 | _,_=>[]
def fgK (s:bE D) (o:Oper):List Nat:=match o.guard,o.op with
 | none,.call ⟨.builtin .append,⟨[x,_]⟩,_⟩=>(match s.ev none x with
  | some (.p (.row k))=>s.own.filterMap fun p=>match p.2 with
   | .x _ _ _ kr false _=>if kr == k then some p.1 else none
   | _=>none
  | _=>[])
 | none,.call ⟨.builtin .unsafeString,⟨[x,_]⟩,_⟩=>(match s.ev none x with
  | some (.p (.gh k _))=>s.own.filterMap fun p=>match p.2 with
   | .x _ _ _ kr false _=>if kr == k then some p.1 else none
   | _=>none
  | _=>[])
 | _,_=>[]
def imK {P:Program} {TB:aF} (B0:Tb P D TB) (s:bE D) (o:Oper):List Nat:=match o.guard,o.op with
 | none,.load t x=>(match s.ev none x with
  | some (.p (.ptr k 0))=>(match lk s.own k,B0.ty t with
   | some (.x _ _ _ _ _ _),some (.st _)=>[k]
   | _,_=>[])
  | _=>[])
 | _,_=>[]
def fbK (s:bE D) (o:Oper):List Nat:=match o.guard,o.op with
 | none,.slice _ x none none none=>(match s.ev none x with
  | some (.p (.ptr k _))=>[k]
  | _=>[])
 | _,_=>[]
section
variable {P:Program} [DecidableEq D.σ] {pk:PK D} {TB:aF} (B0:Tb P D TB) (L:Lay D) {X:Type} (G:List (bJ D pk))
def preC (lk0:Kept) (s:bE D) (o:Oper):Option (bE D):=(Ix lk0 (fzK s o) s).bind fun s1=>(fgC lk0 (fgK s1 o) s1).bind fun s2=>(E0 L lk0 (imK B0 s2 o) s2).bind fun s3=>Hv lk0 (fbK s3 o) s3
def panv (s:bE D) (g:Option (Nat × Bool)) (x:Operand) (W:D.T pk.d → bE D → Option X):Option X:=match g with
 | none=>(s.ev none x).bind fun a=>match a with
  | .ifc T (.st d) v=>if h:T = pk.T ∧ d = pk.d then W (h.2 ▸ v) (Gc s []) else none
  | _=>none
 | some _=>none
def ope (fr:Fr) (s:bE D) (g:Option (Nat × Bool)) (o:Oper) (K:Ef D → Option X) (W:D.T pk.d → bE D → Option X):Option X:=match o.op with
 | .call ⟨.value (.func f),⟨[y]⟩,_⟩=>(match B0.cl f,g with
  | some q,none=>(s.ev none y).bind fun a=>(gl (.sl q.2) a).bind fun l=>(bV ([]:List (V D q.2)) l).bind fun z=>K { z:=some (.n (.p (.row (key o.dst)))),st:=[(key o.dst,.row q.1 q.2 z)],nw:=[key o.dst] }
  | some _,some _=>none
  | none,g=>Gs G s g (.func f) [y] K W)
 | .call ⟨.value x,⟨xs⟩,_⟩=>Gs G s g x xs K W
 | .panic x=>panv s g x W
 | op=>if isXo fr s o = true then (match g with
  | none=>opxX B0 L s o K
  | some _=>none) else match isW fr o,g with
  | true,none=>opx B0 L s o K
  | true,some _=>none
  | false,_=>opw B0 L s g (otyp o) op fun z=>K { z:=some z }
def nH:List Nat → List (Nat × TS D) → List (Nat × TS D)
 | [],l=>l
 | k :: ks,l=>nH ks (xN k l)
def tM:List (Nat × TO D) → List (Nat × TO D) → List (Nat × TO D)
 | [],own=>own
 | p :: l,own=>tM l (ins p.1 p.2 own)
def Ef.Ig (fr:Fr) (dst:Option Nat) (e:Ef D) (s:bE D):bE D:=match e.z with
 | some z=>bE.put fr.n dst z ⟨nH (e.nr ++ e.nw) s.sl,p7 e.dl (tM e.st s.own),s.Γ⟩
 | none=>⟨nH (e.nr ++ e.nw) s.sl,p7 e.dl (tM e.st s.own),s.Γ⟩
def Ir (fr:Fr) (lk0:Kept) (s:bE D) (dst:Option Nat) (e:Ef D):Bool:=(!e.nd || gp (s.own.map (·.1))) && lok lk0.s dst && ((e.dl.all fun k=>!lk0.o.contains k) && (e.st.all fun p=>!lk0.o.contains p.1) && ((e.nr.all fun k=>!fr.fx.contains k && s.own.all fun p=>(e.st.map (·.1)).contains p.1 || w3 k [p]) && ((e.nw.all fun k=>!fr.fx.contains k && w3 k s.own) && (e.nr ++ e.nw).all fun k=>lk0.s.all fun t=>match vl s t with
 | some x=>!oG k x
 | none=>true)))
def ops (fr:Fr) (lk0:Kept) (os:List Oper):List Oper → bE D → (bE D → Option X) → (D.T pk.d → bE D → Option X) → Option X
 | [],s,K,_=>K s
 | o :: l,s,K,W=>(vu os s o).bind fun q=>(preC B0 L lk0 q.1 o).bind fun s1=>(E1 os s1 o).bind fun g=>ope B0 L G fr s1 g o (fun e=>if Ir fr lk0 s1 o.dst e = true then ops fr lk0 os l (e.Ig fr o.dst s1) K W else none) W
def plain (Γ:List GE):TS D → Option (TS D)
 | .n x=>some (.n x)
 | .gb i=>match yO Γ i with
  | some (none,b)=>some (.n (.d .bool b))
  | _=>none
 | _=>none
def clean (s:bE D):bE D:=⟨s.sl.filterMap fun p=>(plain s.Γ p.2).map fun x=>(p.1,x),s.own,[]⟩
end
section
variable {P:Program} [DecidableEq D.σ] {pk:PK D} {TB:aF} {B0:Tb P D TB} {L:Lay D} {X:Type} {E:Env TB} {n:Sh} {s0:St} {s s':bE D} {o:Oper} {os l:List Oper} {g:Option (Nat × Bool)} {K:bE D → Option X} {r:X} {G:List (bJ D pk)} {a:Act} {w:World} {Q:bF} {lcks lo:List Nat}
theorem aj.ofStep {st st':St} {ops:Array Oper} (h:b6 P E n ops o st st') (h2:aj P E n ops l st' Q):aj P E n ops (o :: l) st Q:=by
 intro a w hr
 unfold yx
 exact h a w hr _ Q fun a' w' hr'=>h2 a' w' hr'
theorem aj.preR {st st':St} {ops:Array Oper} (h:∀ a w,R E n st a w → R E n st' a w) (h2:aj P E n ops l st' Q):aj P E n ops l st Q:=fun a w hr=>h2 a w (h a w hr)
theorem stepG {i t:Nat} {w':Bool} {x:T0 D} {ops:Array Oper} (ha:qu s s0) (hg:o.guard = some (i,w')) (hj:(ops[i]?).bind (·.dst) = some t) (hG:mK s0 t w' (gv s.Γ (i,w')))
  (h1:gv s.Γ (i,w') = true → aR P E n o ⟨EU s (i,w') ++ s0.slots,s0.own⟩ (St.put n o.dst (.b x.bv) ⟨EU s (i,w') ++ s0.slots,s0.own⟩)):b6 P E n ops o s0 (s0.put n o.dst (.opt (gv s.Γ (i,w')) x.bv)):=by
 intro a w hr K Q hk
 have hwant:=hG.wanted hg hj hr
 cases hb:gv s.Γ (i,w') with
 | true=>
  rw [hb] at hwant
  simp only [hwant,if_true]
  refine h1 hb a w (ha.open hb hr) _ _ fun a' w2 hr'=>hk a' w2 ?_
  obtain ⟨e1,e2,h,ρ,hw,hs⟩:=hr'
  rw [hb]
  cases hd:o.dst with
  | none=>
   rw [hd] at hw hs
   exact ⟨e1,e2,h,ρ,hw,fun k y hy=>hs k y (List.mem_append_right _ hy)⟩
  | some d=>
   rw [hd] at hw hs
   simp only [St.put,St.set] at hw hs ⊢
   split
   ·next hdn=>
    rw [if_pos hdn] at hw hs
    refine ⟨e1,e2,h,ρ,hw,fun k y hy=>?_⟩
    rcases List.mem_cons.1 hy with e | e
    ·cases e
     obtain ⟨v,hv,hrel⟩:=hs _ _ List.mem_cons_self
     exact ⟨v,hv,fun _=>hrel,fun e=>by cases e⟩
    ·exact hs k y (List.mem_cons_of_mem _ (cV (List.mem_append_right _ (b9 e).1) (b9 e).2))
   ·next hdn=>
    rw [if_neg hdn] at hw hs
    exact ⟨e1,e2,h,ρ,hw,fun k y hy=>hs k y (List.mem_append_right _ hy)⟩
 | false=>
  rw [hb] at hwant
  simp only [hwant,Bool.false_eq_true,if_false]
  refine hk _ _ ?_
  rw [hb]
  obtain ⟨hdf,hn,h,ρ,hw,hsl⟩:=hr
  exact R.put (s:=s0) hdf hn hw hsl ⟨fun e=>by simp at e,fun _=>rfl⟩
theorem DX {t i:Nat} {p:Option (Nat × Bool)} {b:Bool} {z:TS D} (hz:lk s.sl t = some z) (hu:Bp i (del t s.sl) = true) (hp:∀ x,z = .n x → p = none ∧ x = .d .bool b) (hn:∀ j,z ≠ .gb j):Ext lcks lo s (⟨(t,.gb i) :: del t s.sl,s.own,⟨i,p,b⟩ :: s.Γ⟩:bE D):=by
 refine ⟨fun k _ x hx=>?_,fun k _ c hc=>hc⟩
 by_cases e:k = t
 ·subst e
  unfold vl at hx ⊢
  rw [hz] at hx
  simp only [lk,beq_self_eq_true,if_true,yO]
  cases z with
  | n y=>obtain ⟨rfl,rfl⟩:=hp y rfl; exact hx
  | gb j=>exact absurd rfl (hn j)
  | u l=>cases hx
  | o g y=>cases hx
 ·unfold vl at hx ⊢
  have hl:lk ((t,TS.gb i) :: del t s.sl) k = lk s.sl k:=by simp only [lk]; rw [if_neg (by simpa using e),ml e]
  simp only [hl]
  split at hx
  ·exact hx
  ·next j hj=>
   have h2:=xc hu (bh (by rw [ml e]; exact hj))
   have:¬ i = j:=fun e'=>by simp [tagged,e'] at h2
   simp only [yO,this,if_false]
   exact hx
  ·cases hx
theorem BN (h:vu os s o = some (s',g)):Ext lcks lo s s':=by
 unfold vu at h
 split at h
 ·cases h; exact .refl
 ·split at h
  ·cases h
  ·split at h
   ·split at h
    ·cases h; exact .refl
    ·cases h
   ·next b hb=>
    split at h
    ·next hu=>cases h; exact DX hb hu (fun x e=>by cases e; exact ⟨rfl,rfl⟩) (fun j e=>by cases e)
    ·cases h
   ·next q b hb=>
    split at h
    ·next hu=>cases h; exact DX hb hu.1 (fun x e=>by cases e) (fun j e=>by cases e)
    ·cases h
   ·cases h
theorem IJ {α β:Type} {f:α → Option β}:∀ {l:List (Nat × α)} {t:Nat} {x:α} {y:β},lk l t = some x → f x = some y → lk (l.filterMap fun p=>(f p.2).map fun z=>(p.1,z)) t = some y
 | [],t,x,y,h,_=>by simp [lk] at h
 | (j,z) :: l,t,x,y,h,hy=>by
  by_cases e:t = j
  ·subst e
   have:z = x:=by simpa [lk] using h
   subst this
   simp only [List.filterMap_cons,hy,Option.map_some,lk,beq_self_eq_true,if_true]
  ·have h':lk l t = some x:=by simpa [lk,e] using h
   have ih:=IJ h' hy
   simp only [List.filterMap_cons]
   split
   ·exact ih
   ·next q hq=>
    cases hb:f z with
    | none=>rw [hb] at hq; cases hq
    | some w=>
     rw [hb] at hq
     cases hq
     simp only [lk]
     rw [if_neg (by simpa using e)]
     exact ih
theorem BR:Ext lcks lo s (clean s):=by
 refine ⟨fun t _ x hx=>?_,fun k _ c hc=>hc⟩
 unfold vl at hx
 split at hx
 ·next y hy=>
  cases hx
  have:=IJ (f:=plain s.Γ) hy (y:=.n x) rfl
  unfold vl clean
  simp only [this]
 ·next i hi=>
  split at hx
  ·next b hb=>
   cases hx
   have:=IJ (f:=plain s.Γ) hi (y:=.n (.d .bool b)) (by simp [plain,hb])
   unfold vl clean
   simp only [this]
  ·cases hx
 ·cases hx
theorem Hm (hr:R E n s.st a w):R E n (clean s).st a w:=by
 obtain ⟨h1,h2,hh,ρ,hw,hs⟩:=hr
 refine ⟨h1,h2,hh,ρ,hw,fun k x hx=>?_⟩
 obtain ⟨y,hy,rfl⟩:=dR.1 hx
 simp only [clean,List.mem_filterMap] at hy
 obtain ⟨⟨j,z⟩,hm,hz⟩:=hy
 obtain ⟨u,hu,e⟩:=Option.map_eq_some_iff.1 hz
 cases e
 obtain ⟨v,hv,hrel⟩:=hs _ _ (dR.2 ⟨z,hm,rfl⟩)
 refine ⟨v,hv,?_⟩
 cases z with
 | n y=>cases hu; exact hrel
 | gb i=>
  simp only [plain] at hu
  split at hu
  ·next b hb=>
   cases hu
   simp only [TS.sv,hb] at hrel
   exact hrel
  ·cases hu
 | u l=>cases hu
 | o g y=>cases hu
theorem panv_ok {x:Operand} {dst:Option Nat} {ty:TypeId} {pos:String} {after:Array Edge} {g':Option (Nat × Bool)} {W:D.T pk.d → bE D → Option X} (h:panv s g x W = some r):g = none ∧ ∃ p ow,W p ow = some r ∧ ∀ s0,qu s s0 → PanE P E n s0 ⟨dst,.panic x,ty,pos,after,g'⟩ pk p ow:=by
 unfold panv at h
 split at h
 ·obtain ⟨a,ha,h1⟩:=aJ h
  split at h1
  ·next T d v=>
   split at h1
   ·next e=>
    obtain ⟨rfl,rfl⟩:=e
    refine ⟨rfl,v,_,h1,fun s0 hs a w hr next Q hq=>?_⟩
    have hx:=hs.ev ha
    have hr0:=hr
    obtain ⟨_,_,h1,ρ,hw,hsl⟩:=hr
    obtain ⟨e1,e2⟩:=pk.sp _ _ _ (aC hsl hx:(CP.yy pk.T (D.e pk.d v)).rel h1 _)
    unfold Oper.wp
    have hrun:(execOp a.eval ⟨dst,.panic x,ty,pos,after,g'⟩).run P w = .halt (.panic (pk.pv v)) w:=by
     show (do let v ← Instr.panic (a.eval x); pure (Next.value v):Sem Next).run P w = _
     rw [e1]
     have:∃ T c,pk.pv v = .iface T c:=by
      have:=aC hsl hx
      obtain ⟨cs,e3,_⟩:=(this:(CP.yy pk.T (D.e pk.d v)).rel h1 _)
      exact ⟨_,_,by rw [← e1]; exact e3⟩
     obtain ⟨T,c,e4⟩:=this
     rw [e4]
     rfl
    rw [hrun]
    exact hq e2 a w (rP (fun p hp=>DJ hs p hp) (fun p hp=>(zJ hs.own p hp).1) hr0)
   ·cases h1
  ·cases h1
 ·cases h
theorem HD.toE {z:TS D} (h:HD P E n s s0 g o z):IB P E n s s0 g o { z:=some z }:=by
 cases g with
 | none=>exact h
 | some q=>obtain ⟨x,e,h⟩:=h; exact ⟨x,_,by rw [e],h⟩
theorem KE {f:FuncId} {k:Nat} {args:List BV} {T:TypeId} {size:Nat} {es:List (List CP)} {dst:Option Nat} {xs:Array Operand} {ats:Array TypeId} {ty:TypeId} {pos:String} {after:Array Edge} {g:Option (Nat × Bool)} (hm:aG P TB f [] args (Is [(k,.row T size es)] (.b (.row k)))) (hgo:dw P f) (ha:gI s0 xs.toList = some args) (hfx:n.fix.contains k = false) (hnu:di k s0.own = true) :
  aR P E n ⟨dst,.call ⟨.value (.func f),xs,ats⟩,ty,pos,after,g⟩ s0 ((⟨cn k s0.slots,ins k (.row T size es) s0.own⟩:St).put n dst (.b (.row k))):=by
 have h1:gD n [] [(k,OC.row T size es)] = true:=by simp only [gD,hfx,Bool.not_false,Bool.or_true,Bool.and_self]
 have h2:(SV.b (.row k)).bm [(k,OC.row T size es)] = true:=by simp [SV.bm,BV.bm,k9]
 have h3:hJ s0.own [] [(k,OC.row T size es)] = true:=by
  simp only [hJ,Bool.and_eq_true,List.all_eq_true]
  refine ⟨fun p hp=>by cases List.mem_singleton.1 hp; rfl,fun p hp j hj=>?_⟩
  have hj:j = k:=by simpa [ai] using hj
  subst hj
  have hp:p ∈ s0.own:=hp
  obtain ⟨i,c⟩:=p
  simp [qE hnu hp]
 exact dx (dst:=dst) (ty:=ty) (pos:=pos) (after:=after) (g:=g) (ats:=ats) hm hgo ha trivial h1 h2 h3
theorem I8 {fr:Fr} {K:Ef D → Option X} {W:D.T pk.d → bE D → Option X} (hG:EV P TB G) (h:ope B0 L G fr s g o K W = some r) :
  (∃ e,K e = some r ∧ ∀ s0,qu s s0 → HE n s0 e → IB P E n s s0 g o e) ∨ (g = none ∧ ∃ p ow,W p ow = some r ∧ ∀ s0,qu s s0 → PanE P E n s0 o pk p ow):=by
 obtain ⟨dst,op,ty,pos,after,g'⟩:=o
 unfold ope at h
 split at h
 ·next f y ats ho=>
  simp only at ho
  subst ho
  split at h
  ·next _ q hq=>
   obtain ⟨hgo,hm⟩:=B0.cD _ _ hq
   obtain ⟨a,ha,h1⟩:=aJ h
   obtain ⟨l,hl,h2⟩:=aJ h1
   obtain ⟨z,hz,h3⟩:=aJ h2
   cases df hl
   refine .inl ⟨_,h3,fun s0 hs hn=>?_⟩
   obtain ⟨hnu,hfx⟩:=hn.1.1 _ List.mem_cons_self
   have hk:aG P TB f [] [iC D (.sl q.2) l] (Is [(key dst,.row q.1 (sz D q.2) (z.map (enc D q.2)))] (.b (.row (key dst)))):=by
    have e0:swp 0 (key dst) 0 = key dst:=by simp [swp]
    have h':aG P TB f [] [iC D (.sl q.2) l] (Is [(swp 0 (key dst) 0,.row q.1 (sz D q.2) (z.map (enc D q.2)))] (.b (.row (swp 0 (key dst) 0)))):=aG.sw (hm l z hz) 0 (key dst)
    rw [e0] at h'
    exact h'
   exact KE hk hgo (by
    show (gI s0 [y]) = _
    simp only [gI,evB,hs.ev ha]
    rfl) hfx hnu
  ·cases h
  ·exact Eb hG h
 ·next x xs ats _ ho=>
  simp only at ho
  subst ho
  exact Eb hG h
 ·next x ho=>
  simp only at ho
  subst ho
  exact .inr (panv_ok h)
 ·split at h
  ·split at h
   ·obtain ⟨e,he,h1⟩:=opxX_ok h
    exact .inl ⟨e,he,fun s0 ha hn=>h1 s0 ha hn⟩
   ·cases h
  split at h
  ·obtain ⟨e,he,h1⟩:=opx_ok h
   exact .inl ⟨e,he,fun s0 ha hn=>h1 s0 ha hn⟩
  ·cases h
  ·obtain ⟨z,hz,h1⟩:=opw_w (P:=P) (E:=E) (n:=n) (dst:=dst) (ty:=ty) (pos:=pos) (after:=after) (g':=g') h
   exact .inl ⟨_,hz,fun s0 ha _=>HD.toE (h1 ha)⟩
theorem sW {Γ:List GE}:∀ {ks:List Nat} {l:List (Nat × TS D)},iq ks (od Γ l) = od Γ (nH ks l)
 | [],_=>rfl
 | k :: ks,l=>by
  show iq ks (cn k (od Γ l)) = _
  rw [vd]
  exact sW (ks:=ks)
theorem xt:∀ {l own:List (Nat × TO D)},bL (bq l) (bq own) = bq (tM l own)
 | [],_=>rfl
 | p :: l,own=>by
  show bL (bq l) (ins p.1 p.2.oc (bq own)) = _
  rw [zV]
  exact xt (l:=l)
theorem GY {α:Type} {k:Nat}:∀ {ks:List Nat} {l:List (Nat × α)},k ∉ ks → lk (p7 ks l) k = lk l k
 | [],_,_=>rfl
 | j :: ks,l,h=>by
  show lk (p7 ks (del j l)) k = _
  rw [GY fun h'=>h (List.mem_cons_of_mem _ h'),ml fun e=>h (by rw [e]; exact List.mem_cons_self)]
theorem xB:∀ {ks:List Nat} {l:List (Nat × TO D)},p7 ks (bq l) = bq (p7 ks l)
 | [],_=>rfl
 | k :: ks,l=>by
  show p7 ks (del k (bq l)) = _
  rw [qA]
  exact xB (ks:=ks)
theorem apT_st {fr:Fr} {dst:Option Nat} {e:Ef D} (hn:n.n = fr.n):(e.Ig fr dst s).st = e.ap n s.Γ dst s.st:=by
 unfold Ef.Ig Ef.ap
 cases e.z with
 | none=>simp only [bE.st]; rw [← sW,← xB,← xt]
 | some z=>
  simp only
  rw [← hn,put_st]
  simp only [bE.st]
  rw [← sW,← xB,← xt]
theorem Ct {j:Nat}:∀ {l own:List (Nat × TO D)},(∀ p ∈ l,p.1 ≠ j) → lk (tM l own) j = lk own j
 | [],_,_=>rfl
 | p :: l,own,h=>by
  show lk (tM l (ins p.1 p.2 own)) j = _
  rw [Ct fun q hq=>h q (List.mem_cons_of_mem _ hq),qd (fun e=>h p List.mem_cons_self e.symm)]
theorem Bx {t:Nat} {x:T0 D} {own:List (Nat × TO D)}:∀ {ks:List Nat} {l:List (Nat × TS D)} {Γ:List GE},(∀ k ∈ ks,oG k x = false) → vl ⟨l,own,Γ⟩ t = some x → vl ⟨nH ks l,own,Γ⟩ t = some x
 | [],_,_,_,h=>h
 | k :: ks,l,Γ,hk,h=>by
  refine Bx (ks:=ks) (fun k hk'=>hk k (List.mem_cons_of_mem _ hk')) ?_
  have h6:=hk k List.mem_cons_self
  unfold vl at h ⊢
  simp only at h ⊢
  split at h
  ·next y hy=>cases h; rw [zS (k:=k) (show mN k (.n x) = false from h6) hy]
  ·next i hi=>rw [zS (k:=k) (show mN k (.gb i) = false from rfl) hi]; exact h
  ·cases h
theorem J8 {fr:Fr} {lk0:Kept} {dst:Option Nat} {e:Ef D} (h:Ir fr lk0 s dst e = true):Ext lk0.s lk0.o s (e.Ig fr dst s):=by
 simp only [Ir,Bool.and_eq_true,List.all_eq_true,Bool.not_eq_true'] at h
 obtain ⟨⟨_,h1⟩,⟨h0,h2⟩,_,_,h3⟩:=h
 have hx:Ext lk0.s lk0.o s ⟨nH (e.nr ++ e.nw) s.sl,p7 e.dl (tM e.st s.own),s.Γ⟩:=by
  refine ⟨fun t ht x hx=>?_,fun k hk c hc=>?_⟩
  ·refine Bx (fun k hk=>?_) (show vl ⟨s.sl,tM e.st s.own,s.Γ⟩ t = some x from hx)
   have:=h3 k hk t ht
   rw [hx] at this
   simpa using this
  ·show lk (p7 e.dl (tM e.st s.own)) k = _
   rw [GY fun h=>by have:=h0 k h; simp at this; exact this hk]
   rw [Ct fun p hp e=>?_]
   ·exact hc
   ·have:=h2 p hp
    subst e
    simp at this
    exact this hk
 unfold Ef.Ig
 cases e.z with
 | none=>exact hx
 | some z=>exact hx.trans (GU h1)
theorem mv:∀ {l:List Nat},gp l = true → l.Nodup
 | [],_=>List.nodup_nil
 | a :: l,h=>by
  simp only [gp,Bool.and_eq_true,Bool.not_eq_true'] at h
  exact List.nodup_cons.2 ⟨by simpa using h.1,mv h.2⟩
theorem okEf_nw {fr:Fr} {lk0:Kept} {dst:Option Nat} {e:Ef D} (hf:n.fix = fr.fx) (h:Ir fr lk0 s dst e = true):HE n s.st e:=by
 simp only [Ir,Bool.and_eq_true,List.all_eq_true,Bool.not_eq_true',Bool.or_eq_true] at h
 obtain ⟨⟨h0,h1⟩,_,h3,h3',_⟩:=h
 refine ⟨⟨fun k hk=>?_,fun k hk=>?_⟩,fun hd=>?_⟩
 ·obtain ⟨h4,h5⟩:=h3' k hk
  exact ⟨u7 h5,by rw [hf]; exact h4⟩
 ·obtain ⟨h4,h5⟩:=h3 k hk
  refine ⟨by rw [hf]; exact h4,fun p hp hpk=>?_⟩
  obtain ⟨q,hq,e⟩:=List.mem_map.1 hp
  subst e
  rcases h5 q hq with h6 | h6
  ·exact absurd (by simpa using h6) hpk
  ·have:=u7 h6
   simpa [di,bq] using this
 ·rcases h0 with h0 | h0
  ·rw [hd] at h0; cases h0
  ·have:ai s.st.own = s.own.map (·.1):=by simp [ai,bE.st,bq]
   rw [this]
   exact mv h0
theorem BE {e:Ef D} (ha:qu s s0) (hgo:GOf s s0 os o g) (h:IB P E n s s0 g o e):b6 P E n os.toArray o s0 (e.ap n s.Γ o.dst s0):=by
 cases g with
 | none=>exact b6.plain hgo h
 | some q=>
  obtain ⟨x,nd,rfl,hx⟩:=h
  obtain ⟨hg1,t,ht,hat⟩:=hgo
  exact stepG ha hg1 (by simpa using ht) hat hx
theorem Hb (h:E1 os s o = some g) (ha:qu s s0):GOf s s0 os o g:=by
 unfold E1 at h
 split at h
 ·next hg=>cases h; exact hg
 ·next i w hg=>
  split at h
  ·cases h
  ·next t ht=>
   split at h
   ·next j hj=>
    split at h
    ·next e=>
     obtain ⟨e,hga⟩:=e
     subst e
     cases h
     refine ⟨hg,t,ht,?_⟩
     cases hq:yO s.Γ j with
     | none=>rw [hq] at hga; cases hga
     | some q=>obtain ⟨c,b⟩:=q; exact y3 ha hj hq
    ·cases h
   ·cases h
theorem H4 (h:E1 os s o = some none):o.guard = none:=by
 unfold E1 at h
 split at h
 ·next hg=>exact hg
 ·split at h
  ·cases h
  ·split at h
   ·split at h <;> cases h
   ·cases h
theorem preC_ok {lk0:Kept} (h:preC B0 L lk0 s o = some s'):Ext lk0.s lk0.o s s' ∧ ∀ a w,R E n s.st a w → R E n s'.st a w:=by
 obtain ⟨s1,e1,h1⟩:=aJ h
 obtain ⟨s2,e2,h2⟩:=aJ h1
 obtain ⟨g1,g2⟩:=CB (E:=E) (n:=n) e1
 obtain ⟨g3,g4⟩:=Fp (E:=E) (n:=n) e2
 obtain ⟨s3,e3,h3⟩:=aJ h2
 obtain ⟨g5,g6⟩:=vD (E:=E) (n:=n) e3
 obtain ⟨g7,g8⟩:=y4 (E:=E) (n:=n) h3
 exact ⟨g1.trans (g3.trans (g5.trans g7)),fun a w hr=>g8 a w (g6 a w (g4 a w (g2 a w hr)))⟩
theorem wV {fr:Fr} {lk0:Kept} {W:D.T pk.d → bE D → Option X} (hn:n.n = fr.n) (hf:n.fix = fr.fx) (hG:EV P TB G) (hw:∀ p ow,W p ow = some r → pk.ok p → Fin E n (.panic (Df (pk.pv p))) ow.st Q):∀ {l:List Oper} {s:bE D},ops B0 L G fr lk0 os l s K W = some r → (∀ s',Ext lk0.s lk0.o s s' → K s' = some r → Fin E n .normal s'.st Q) → aj P E n os.toArray l s.st Q
 | [],s,h,hk=>by
  intro a w hr
  unfold yx
  exact hk s .refl h a w hr
 | o :: l,s,h,hk=>by
  unfold ops at h
  obtain ⟨⟨s1,g0⟩,e1,h0⟩:=aJ h
  obtain ⟨s2,e2,h0⟩:=aJ h0
  obtain ⟨g,e3,h1⟩:=aJ h0
  obtain ⟨_,_,h3,h4⟩:=zW (E:=E) (n:=n) e1
  obtain ⟨hx2,hr2⟩:=preC_ok (E:=E) (n:=n) e2
  refine aj.preR (fun a w hr=>hr2 a w (h3 a w hr)) ?_
  have ha:=qu.self s2
  have hgo:=Hb e3 ha
  rcases I8 (P:=P) (TB:=TB) (E:=E) (n:=n) hG h1 with ⟨e,h5,h6⟩ | ⟨rfl,p,ow,h5,h6⟩
  ·split at h5
   ·next hok=>
    have hst:=BE ha hgo (h6 _ ha (okEf_nw hf hok))
    have ih:=wV hn hf hG hw (l:=l) h5 (fun s' he=>hk s' ((BN e1).trans (hx2.trans ((J8 hok).trans he))))
    rw [apT_st hn] at ih
    exact aj.ofStep hst ih
   ·cases h5
  ·intro a w hr
   unfold yx
   have:Region.wanted o (yielded os.toArray a.tmps) = true:=by simp [Region.wanted,show o.guard = none from hgo]
   simp only [this,if_true]
   exact h6 _ ha a w hr _ _ (hw p ow h5)
end
end Go.Dn
namespace Go.Dn
open Go Go.Sk
set_option linter.unusedVariables false
set_option linter.unusedSimpArgs false
set_option linter.unusedSectionVars false
structure DR where
 i:Nat
 o:Oper
 rs:List Nat
 ks:List Nat
 x:Option SV
 st:List (Nat × OC)
 nw:List Nat
def DR.sl (r:DR) (l:List (Nat × SV)):List (Nat × SV):=match r.o.dst,r.x with
 | some d,some x=>(d,x) :: del d l
 | _,_=>l
def DR.BX (r:DR) (s:St):St:=⟨r.sl s.slots,bL r.st s.own⟩
def DR.ap (n:Sh) (r:DR) (s:St):St:=match r.x with
 | some x=>(⟨iq r.nw s.slots,bL r.st s.own⟩:St).put n r.o.dst x
 | none=>⟨iq r.nw s.slots,bL r.st s.own⟩
def fo:List DR → St → St
 | [],s=>s
 | r :: l,s=>fo l (r.BX s)
theorem zr:∀ {l l':List DR} {s:St},fo (l ++ l') s = fo l' (fo l s)
 | [],_,_=>rfl
 | r :: l,l',s=>zr (l:=l)
def Db (s t:St):Prop:=(∀ k,lk s.slots k = lk t.slots k) ∧ ∀ k,lk s.own k = lk t.own k
theorem Db.refl (s:St):Db s s:=⟨fun _=>rfl,fun _=>rfl⟩
theorem Db.symm {s t:St} (h:Db s t):Db t s:=⟨fun k=>(h.1 k).symm,fun k=>(h.2 k).symm⟩
theorem Db.trans {s t u:St} (h:Db s t) (h':Db t u):Db s u:=⟨fun k=>(h.1 k).trans (h'.1 k),fun k=>(h.2 k).trans (h'.2 k)⟩
def wr (r:DR) (t:Nat):Option SV:=match r.o.dst,r.x with
 | some d,some x=>if t = d then some x else none
 | _,_=>none
theorem vr {r:DR} {l:List (Nat × SV)} {t:Nat}:lk (r.sl l) t = match wr r t with
  | some x=>some x
  | none=>lk l t:=by
 unfold DR.sl wr
 split
 ·next d x _ _=>
  by_cases e:t = d
  ·subst e; simp [lk]
  ·simp only [lk,e,if_false]
   rw [if_neg (by simpa using e),ml e]
 ·rfl
theorem jr {k:Nat}:∀ {l own:List (Nat × OC)},(ai l).Nodup → lk (bL l own) k = match lk l k with
  | some c=>some c
  | none=>lk own k
 | [],own,_=>rfl
 | p :: l,own,hn=>by
  simp only [ai,List.map_cons,List.nodup_cons] at hn
  show lk (bL l (ins p.1 p.2 own)) k = _
  rw [jr hn.2]
  by_cases e:k = p.1
  ·subst e
   have:lk l p.1 = none:=by
    cases h:lk l p.1 with
    | none=>rfl
    | some c=>exact absurd (List.mem_map.2 ⟨_,bh h,rfl⟩) hn.1
   rw [this]
   have h2:∀ {own:List (Nat × OC)},lk (ins p.1 p.2 own) p.1 = some p.2:=by
    intro own
    induction own with
    | nil=>simp [ins,lk]
    | cons q own ih=>
     obtain ⟨j,x⟩:=q
     simp only [ins]
     split
     ·simp [lk]
     ·next e=>simp only [lk]; rw [if_neg e]; exact ih
   simp only [h2,lk,beq_self_eq_true,if_true]
  ·have h1:lk (p :: l) k = lk l k:=by obtain ⟨j,x⟩:=p; simp only [lk]; rw [if_neg (by simpa using e)]
   rw [h1,qd e]
theorem Ia {r:DR} {s t:St} (hn:(ai r.st).Nodup) (h:Db s t):Db (r.BX s) (r.BX t):=by
 refine ⟨fun k=>?_,fun k=>?_⟩
 ·show lk (r.sl _) k = lk (r.sl _) k
  rw [vr,vr,h.1]
 ·show lk (bL _ _) k = lk (bL _ _) k
  rw [jr hn,jr hn,h.2]
theorem D5:∀ {l:List DR} {s t:St},(∀ r ∈ l,(ai r.st).Nodup) → Db s t → Db (fo l s) (fo l t)
 | [],_,_,_,h=>h
 | r :: l,s,t,hn,h=>D5 (l:=l) (fun q hq=>hn q (List.mem_cons_of_mem _ hq)) (Ia (hn r List.mem_cons_self) h)
structure NoV (q r:DR):Prop where
 s:∀ t ∈ r.rs,wr q t = none
 o:∀ k ∈ r.ks,k ∉ ai q.st
structure NoC (q r:DR):Prop where
 a:NoV q r
 b:NoV r q
 d:∀ t,wr q t = none ∨ wr r t = none
 k:∀ k ∈ ai q.st,k ∉ ai r.st
theorem NoC.symm {q r:DR} (h:NoC q r):NoC r q:=⟨h.b,h.a,fun t=>(h.d t).symm,fun k hk hk'=>h.k k hk' hk⟩
theorem ry {k:Nat} {l:List (Nat × OC)} (h:k ∉ ai l):lk l k = none:=by
 cases e:lk l k with
 | none=>rfl
 | some c=>exact absurd (List.mem_map.2 ⟨_,bh e,rfl⟩) h
theorem KG {q r:DR} {s:St} (hq:(ai q.st).Nodup) (hr:(ai r.st).Nodup) (h:NoC q r):Db (q.BX (r.BX s)) (r.BX (q.BX s)):=by
 refine ⟨fun t=>?_,fun k=>?_⟩
 ·show lk (q.sl (r.sl _)) t = lk (r.sl (q.sl _)) t
  simp only [vr]
  rcases h.d t with e | e <;> rw [e] <;> (split <;> rfl)
 ·show lk (bL q.st (bL r.st _)) k = lk (bL r.st (bL q.st _)) k
  simp only [jr hq,jr hr]
  by_cases e:k ∈ ai q.st
  ·rw [ry (h.k k e)]
  ·rw [ry e]
theorem He {r:DR} (hr:(ai r.st).Nodup):∀ {l:List DR} {s:St},(∀ q ∈ l,(ai q.st).Nodup) → (∀ q ∈ l,NoC r q) → Db (fo l (r.BX s)) (r.BX (fo l s))
 | [],s,_,_=>.refl _
 | q :: l,s,hn,h=>by
  have hq:=hn q List.mem_cons_self
  have hl:=fun p hp=>hn p (List.mem_cons_of_mem _ hp)
  exact (D5 hl (KG hq hr (h q List.mem_cons_self).symm)).trans (He hr (l:=l) hl fun p hp=>h p (List.mem_cons_of_mem _ hp))
def Vw (r:DR) (s t:St):Prop:=(∀ k ∈ r.rs,lk s.slots k = lk t.slots k) ∧ ∀ k ∈ r.ks,lk s.own k = lk t.own k
theorem Vw.keep {r q:DR} {s:St} (hq:(ai q.st).Nodup) (h:NoV q r):Vw r s (q.BX s):=by
 refine ⟨fun t ht=>?_,fun k hk=>?_⟩
 ·show _ = lk (q.sl _) t
  rw [vr,h.s t ht]
 ·show _ = lk (bL _ _) k
  rw [jr hq,ry (h.o k hk)]
theorem Vw.trans {r:DR} {s t u:St} (h:Vw r s t) (h':Vw r t u):Vw r s u:=⟨fun k hk=>(h.1 k hk).trans (h'.1 k hk),fun k hk=>(h.2 k hk).trans (h'.2 k hk)⟩
theorem Vw.symm {r:DR} {s t:St} (h:Vw r s t):Vw r t s:=⟨fun k hk=>(h.1 k hk).symm,fun k hk=>(h.2 k hk).symm⟩
theorem Vw.congr {r q:DR} {s t:St} (hq:(ai q.st).Nodup) (h:Vw r s t):Vw r (q.BX s) (q.BX t):=by
 refine ⟨fun k hk=>?_,fun k hk=>?_⟩
 ·show lk (q.sl _) k = lk (q.sl _) k
  rw [vr,vr,h.1 k hk]
 ·show lk (bL _ _) k = lk (bL _ _) k
  rw [jr hq,jr hq,h.2 k hk]
theorem tC {r:DR} (p:DR → Bool):∀ {l:List DR} {s t:St},(∀ q ∈ l,(ai q.st).Nodup) → (∀ q ∈ l,p q = false → NoV q r) → Vw r s t → Vw r (fo l s) (fo (l.filter p) t)
 | [],s,t,_,_,h=>h
 | q :: l,s,t,hn,hv,h=>by
  have hq:=hn q List.mem_cons_self
  have hl:=fun a ha=>hn a (List.mem_cons_of_mem _ ha)
  have hv':=fun a ha=>hv a (List.mem_cons_of_mem _ ha)
  simp only [List.filter_cons]
  split
  ·exact tC p (l:=l) hl hv' (h.congr hq)
  ·next e=>
   have e:p q = false:=by simpa using e
   exact tC p (l:=l) hl hv' (((Vw.keep hq (hv q List.mem_cons_self e)).symm).trans h)
theorem GF {r:DR}:∀ {l:List DR} {s:St},(∀ q ∈ l,(ai q.st).Nodup) → (∀ q ∈ l,NoV q r) → Vw r s (fo l s)
 | [],s,_,_=>⟨fun _ _=>rfl,fun _ _=>rfl⟩
 | q :: l,s,hn,h=>(Vw.keep (hn q List.mem_cons_self) (h q List.mem_cons_self)).trans (GF (l:=l) (fun a ha=>hn a (List.mem_cons_of_mem _ ha)) fun a ha=>h a (List.mem_cons_of_mem _ ha))
theorem qD {α:Type} {k:Nat}:∀ {l:List (Nat × α)},(l.map (·.1)).Nodup → ((del k l).map (·.1)).Nodup ∧ k ∉ (del k l).map (·.1)
 | [],_=>⟨List.nodup_nil,by simp [del]⟩
 | (j,x) :: l,h=>by
  simp only [List.map_cons,List.nodup_cons] at h
  obtain ⟨h1,h2⟩:=qD (k:=k) h.2
  unfold del
  split
  ·exact ⟨h1,h2⟩
  ·next e=>
   refine ⟨?_,?_⟩
   ·simp only [List.map_cons,List.nodup_cons]
    refine ⟨fun hm=>?_,h1⟩
    obtain ⟨q,hq,e'⟩:=List.mem_map.1 hm
    exact h.1 (List.mem_map.2 ⟨q,(b9 hq).1,e'⟩)
   ·simp only [List.map_cons,List.mem_cons,not_or]
    exact ⟨by simpa using e,h2⟩
theorem xl {α:Type} {k:Nat} {c:α}:∀ {l:List (Nat × α)},(l.map (·.1)).Nodup → ((ins k c l).map (·.1)).Nodup
 | [],_=>by simp [ins]
 | (j,x) :: l,h=>by
  simp only [List.map_cons,List.nodup_cons] at h
  unfold ins
  split
  ·next e=>
   obtain ⟨h1,h2⟩:=qD (k:=k) h.2
   simp only [List.map_cons,List.nodup_cons]
   exact ⟨h2,h1⟩
  ·next e=>
   simp only [List.map_cons,List.nodup_cons]
   refine ⟨fun hm=>?_,xl h.2⟩
   obtain ⟨⟨a,b⟩,hq,e'⟩:=List.mem_map.1 hm
   simp only at e'
   subst e'
   rcases iu hq with ⟨h1,_⟩ | ⟨_,h1⟩
   ·exact e (by simpa using h1.symm)
   ·exact h.1 (List.mem_map.2 ⟨_,h1,rfl⟩)
theorem wo:∀ {l own:List (Nat × OC)},(ai own).Nodup → (ai (bL l own)).Nodup
 | [],_,h=>h
 | p :: l,own,h=>wo (l:=l) (xl h)
def Nd (s:St):Prop:=(s.slots.map (·.1)).Nodup ∧ (ai s.own).Nodup
theorem Nd.BX {r:DR} {s:St} (h:Nd s):Nd (r.BX s):=by
 refine ⟨?_,wo h.2⟩
 show ((r.sl s.slots).map (·.1)).Nodup
 unfold DR.sl
 split
 ·obtain ⟨h1,h2⟩:=qD h.1
  simp only [List.map_cons,List.nodup_cons]
  exact ⟨h2,h1⟩
 ·exact h.1
theorem Nd.fo:∀ {l:List DR} {s:St},Nd s → Nd (fo l s)
 | [],_,h=>h
 | r :: l,s,h=>Nd.fo (l:=l) h.BX
theorem Db.R {TB:aF} {E:Env TB} {n:Sh} {s t:St} {a:Act} {w:World} (h:Db s t) (ht:Nd t) (hr:R E n s a w):R E n t a w:=by
 refine rP (fun p hp=>?_) (fun p hp=>?_) hr
 ·exact bh (by rw [h.1]; exact iL ht.1 hp)
 ·exact bh (by rw [h.2]; exact iL ht.2 hp)
def pB (L:List Oper) (i j:Nat):Prop:=∀ listed:Array Bool,Cj L listed → (∀ o,L[i]? = some o → ∀ e ∈ o.after,Region.binds .any e = true → listed.getD e.on false = true) → listed.getD j false = true
structure Pair (L:List Oper) (q r:DR):Prop where
 u:∀ v,q.x = some v → kZ r.nw v = false
 c:∀ p ∈ q.st,∀ k ∈ r.nw,p.2.bd k = false
 w:pB L r.i q.i ∨ (NoC q r ∧ (∀ v,r.x = some v → kZ q.nw v = false) ∧ ∀ p ∈ r.st,∀ k ∈ q.nw,p.2.bd k = false)
theorem BJ:∀ {D:List DR} {S:St} {p:Nat × SV},p ∈ (fo D S).slots → p ∈ S.slots ∨ ∃ q ∈ D,q.x = some p.2
 | [],S,p,h=>.inl h
 | q :: D,S,p,h=>by
  rcases BJ (D:=D) h with h | ⟨r,hr,e⟩
  ·have h:p ∈ q.sl S.slots:=h
   unfold DR.sl at h
   split at h
   ·next hx=>
    rcases List.mem_cons.1 h with e | e
    ·subst e; exact .inr ⟨q,List.mem_cons_self,hx⟩
    ·exact .inl (b9 e).1
   ·exact .inl h
  ·exact .inr ⟨r,List.mem_cons_of_mem _ hr,e⟩
theorem BK:∀ {D:List DR} {S:St} {p:Nat × OC},p ∈ (fo D S).own → p ∈ S.own ∨ ∃ q ∈ D,p ∈ q.st
 | [],S,p,h=>.inl h
 | q :: D,S,p,h=>by
  rcases BK (D:=D) h with h | ⟨r,hr,e⟩
  ·have h:p ∈ bL q.st S.own:=h
   rcases mC (j:=p.1) (x:=p.2) h with h | h
   ·exact .inr ⟨q,List.mem_cons_self,h⟩
   ·exact .inl h.1
  ·exact .inr ⟨r,List.mem_cons_of_mem _ hr,e⟩
section
variable {P:Program} {TB:aF} {E:Env TB} {n:Sh} {S:St} {L:List Oper} {Q:bF}
def View (r:DR) (S s0:St):Prop:=(∀ t ∈ r.rs,∀ v,lk S.slots t = some v → lk s0.slots t = some v) ∧ ∀ k ∈ r.ks,∀ c,lk S.own k = some c → lk s0.own k = some c
def Stp (P:Program) {TB:aF} (E:Env TB) (n:Sh) (L:List Oper) (r:DR) (S:St):Prop:=∀ s0,View r S s0 → (∀ k ∈ r.nw,di k s0.own = true ∧ n.fix.contains k = false) → (ai s0.own).Nodup → b6 P E n L.toArray r.o s0 (r.ap n s0)
structure RecOk (n:Sh) (L:List Oper) (S:St) (r:DR):Prop where
 at_:L[r.i]? = some r.o
 nd:(ai r.st).Nodup
 d:∀ d,r.o.dst = some d → d < n.n ∧ r.x.isSome = true
 fx:∀ k ∈ r.nw,n.fix.contains k = false
 us:∀ p ∈ S.slots,kZ r.nw p.2 = false
 uo:∀ p ∈ S.own,∀ k ∈ r.nw,p.2.bd k = false
theorem ap_less {r:DR} {s0:St} (hd:∀ d,r.o.dst = some d → d < n.n ∧ r.x.isSome = true) (hu:∀ p ∈ s0.slots,kZ r.nw p.2 = false):(∀ p,p ∈ (r.BX s0).slots → p ∈ (r.ap n s0).slots) ∧ ∀ p,p ∈ (r.BX s0).own → p ∈ (r.ap n s0).own:=by
 unfold DR.BX DR.ap DR.sl
 cases hx:r.x with
 | none=>
  cases hdst:r.o.dst with
  | none=>exact ⟨fun p hp=>oB hp (hu p hp),fun p hp=>hp⟩
  | some d=>have:=(hd d hdst).2; rw [hx] at this; cases this
 | some x=>
  cases hdst:r.o.dst with
  | none=>exact ⟨fun p hp=>oB hp (hu p hp),fun p hp=>hp⟩
  | some d=>
   have hlt:=(hd d hdst).1
   simp only [St.put,St.set,hlt,if_true]
   refine ⟨fun p hp=>?_,fun p hp=>hp⟩
   rcases List.mem_cons.1 hp with e | e
   ·subst e; exact List.mem_cons_self
   ·exact List.mem_cons_of_mem _ (cV (oB (b9 e).1 (hu p (b9 e).1)) (b9 e).2)
theorem drawn {recs:List DR} (hed:iv 0 L = true) (hS:Nd S) (hr:∀ r ∈ recs,RecOk n L S r) (hnd:(recs.map (·.i)).Nodup)
  (hst:∀ A r B,recs = A ++ r :: B → Stp P E n L r (fo A S) ∧ ∀ q ∈ A,Pair L q r) (hH:Option DR)
  (tl:List Nat) (tlo:List Oper) (htlo:tl.map (L[·]?) = tlo.map some) (htl:∀ A t B,tl = A ++ t :: B → t ∉ recs.map (·.i) ∧ (∀ r ∈ recs,pB L t r.i) ∧ ∀ j ∈ A,pB L t j ∧ t ≠ j) (hpt:hH ≠ none → tl = [])
  (hcov:∀ i,i < L.length → i ∈ recs.map (·.i) ∨ i ∈ tl ∨ ∃ p,hH = some p ∧ (i = p.i ∨ pB L i p.i))
  (hpan:∀ p,hH = some p → p.i ∉ recs.map (·.i) ∧ p.i < L.length ∧ L[p.i]? = some p.o ∧ p.o.guard = none ∧ (∀ q ∈ recs,pB L p.i q.i ∨ NoV q p) ∧ ∀ s0,View p (fo recs S) s0 → ∀ a w,R E n s0 a w → ∀ next:Act → World → Prop,p.o.wp P a w next Q)
  (hfin:hH = none → aj P E n L.toArray tlo (fo recs S) Q):uN P E n L.toArray S Q:=by
 intro a w hr0
 have hnds:=fun q hq=>(hr q hq).nd
 have htn:∀ t ∈ tl,t ∉ recs.map (·.i) ∧ (∀ r ∈ recs,pB L t r.i):=fun t ht=>by
  obtain ⟨A,B,e⟩:=List.append_of_mem ht
  exact ⟨(htl A t B e).1,(htl A t B e).2.1⟩
 refine anyG (L:=L) (fun listed a w=>(∀ j,listed.getD j false = true → j ∈ recs.map (·.i) ∨ j ∈ tl) ∧ (((∀ j ∈ tl,listed.getD j false = false) ∧ R E n (fo (recs.filter fun r=>listed.getD r.i false) S) a w) ∨
  (∃ l1 l2 lo2,tl = l1 ++ l2 ∧ l1 ≠ [] ∧ l2.map (L[·]?) = lo2.map some ∧ (∀ r ∈ recs,listed.getD r.i false = true) ∧ (∀ j ∈ l1,listed.getD j false = true) ∧ (∀ j ∈ l2,listed.getD j false = false) ∧ yx P L.toArray Q lo2 a w))) hed ?_ ?_ _ _ _ _ (by simp) ?_ (by simp) ⟨fun j hj=>?_,.inl ⟨fun j _=>?_,?_⟩⟩
 ·intro listed a w i o hsz hcl hio hil hdeps hInv K hK
  obtain ⟨hsub,hInv⟩:=hInv
  have hin:i < L.length:=(List.getElem?_eq_some_iff.1 hio).1
  have his:i < listed.size:=by omega
  have hwait:∀ j,pB L i j → listed.getD j false = true:=fun j hw=>hw listed hcl fun o' ho' e he hb=>by rw [hio] at ho'; cases ho'; exact hdeps e he hb
  have tailStep:∀ l1 l2 lo2,tl = l1 ++ i :: l2 → (o :: lo2).map some = (i :: l2).map (L[·]?) → (∀ r ∈ recs,listed.getD r.i false = true) → (∀ j ∈ l1,listed.getD j false = true) → (∀ j ∈ i :: l2,listed.getD j false = false) → yx P L.toArray Q (o :: lo2) a w →
    if Region.wanted o (yielded L.toArray a.tmps) then o.wp P a w K Q else K (a.put o.dst undef) w:=by
   intro l1 l2 lo2 e1 e2 h1 h2 h3 h4
   have hne:∀ j ∈ l2,j ≠ i:=fun j hj=>by
    obtain ⟨A,B,e⟩:=List.append_of_mem hj
    have:=(htl (l1 ++ i :: A) j B (by rw [e1,e]; simp)).2.2 i (by simp)
    exact this.2
   have hset:∀ q,listed.getD q false = true → (listed.setIfInBounds i true).getD q false = true:=fun q hq=>by
    by_cases e:q = i
    ·subst e; simp [Array.getD_eq_getD_getElem?,his]
    ·rw [getD_set_ne false (fun h=>e h.symm)]; exact hq
   have hnext:∀ a' w',yx P L.toArray Q lo2 a' w' → K a' w':=fun a' w' hw'=>hK a' w' ⟨fun j hj=>by
    by_cases e:j = i
    ·subst e; exact .inr (by rw [e1]; simp)
    ·rw [getD_set_ne false (fun h=>e h.symm)] at hj; exact hsub j hj,.inr ⟨l1 ++ [i],l2,lo2,by rw [e1]; simp,by simp,by
     have:=e2; simp only [List.map_cons,List.cons.injEq] at this; exact this.2.symm,fun r hr=>hset _ (h1 r hr),fun j hj=>by
     rcases List.mem_append.1 hj with hj | hj
     ·exact hset _ (h2 j hj)
     ·have:j = i:=by simpa using hj
      subst this; simp [Array.getD_eq_getD_getElem?,his],fun j hj=>by
     rw [getD_set_ne false (fun h=>hne j hj h.symm)]
     exact h3 j (List.mem_cons_of_mem _ hj),hw'⟩⟩
   unfold yx at h4
   split at h4
   ·next hw=>simp only [hw,if_true]; exact Oper.wp_mono hnext h4
   ·next hw=>simp only [hw]; exact hnext _ _ h4
  rcases hInv with ⟨hnt,hR⟩ | ⟨l1,l2,lo2,e1,hl1,e2,g1,g2,g3,g4⟩
  rotate_left
  ·
   have hit:i ∈ l2:=by
    rcases hcov i hin with hi | hi | ⟨p,hp,_⟩
    ·obtain ⟨r,hrm,rfl⟩:=List.mem_map.1 hi
     rw [g1 r hrm] at hil; cases hil
    ·rw [e1] at hi
     rcases List.mem_append.1 hi with h | h
     ·rw [g2 i h] at hil; cases hil
     ·exact h
    ·have:=hpt (by rw [hp]; simp)
     rw [this] at e1
     exact absurd (List.append_eq_nil_iff.1 e1.symm).1 hl1
   cases l2 with
   | nil=>cases hit
   | cons t l2=>
    have hti:t = i:=by
     apply Classical.byContradiction
     intro hne
     have hi2:i ∈ l2:=by rcases List.mem_cons.1 hit with e | e; exact absurd e.symm hne; exact e
     obtain ⟨A,B,e⟩:=List.append_of_mem hi2
     have:=(htl (l1 ++ t :: A) i B (by rw [e1,e]; simp)).2.2 t (by simp)
     have h5:=hwait _ this.1
     rw [g3 t List.mem_cons_self] at h5; cases h5
    subst hti
    cases lo2 with
    | nil=>simp at e2
    | cons o' lo2=>
     have:o' = o:=by simp only [List.map_cons,List.cons.injEq] at e2; rw [hio] at e2; exact (Option.some.inj e2.1).symm
     subst this
     exact tailStep l1 l2 lo2 e1 e2.symm g1 g2 g3 g4
  rcases hcov i hin with hi | hi | ⟨p,hp,hi⟩
  rotate_left
  ·
   obtain ⟨A,B,e⟩:=List.append_of_mem hi
   obtain ⟨q1,q2,q3⟩:=htl A i B e
   have hA:A = []:=by
    cases A with
    | nil=>rfl
    | cons t A=>
     have h5:=hwait _ (q3 t List.mem_cons_self).1
     rw [hnt t (by rw [e]; simp)] at h5; cases h5
   subst hA
   have hall:∀ r ∈ recs,listed.getD r.i false = true:=fun r hr=>hwait _ (q2 r hr)
   have hpn:hH = none:=by
    cases hp:hH with
    | none=>rfl
    | some p=>have:=hpt (by rw [hp]; simp); rw [this] at e; cases e
   have hfil:(recs.filter fun r=>listed.getD r.i false) = recs:=List.filter_eq_self.2 fun r hr=>hall r hr
   rw [hfil] at hR
   have hwp:=hfin hpn a w hR
   rw [e] at htlo
   cases tlo with
   | nil=>simp at htlo
   | cons o' tlo=>
    have:o' = o:=by simp only [List.nil_append,List.map_cons,List.cons.injEq] at htlo; rw [hio] at htlo; exact (Option.some.inj htlo.1).symm
    subst this
    exact tailStep [] B tlo e (by simpa using htlo.symm) hall (fun j hj=>by cases hj) (fun j hj=>hnt j (by rw [e]; exact hj)) hwp
  rotate_left
  ·obtain ⟨r,hrm,rfl⟩:=List.mem_map.1 hi
   obtain ⟨A,B,hAB⟩:=List.append_of_mem hrm
   obtain ⟨hstp,hpairs⟩:=hst A r B hAB
   have hro:=hr r hrm
   have ho:o = r.o:=by have:=hro.at_; rw [hio] at this; exact Option.some.inj this
   subst ho
   have hmA:∀ q ∈ A,q ∈ recs:=fun q hq=>by rw [hAB]; exact List.mem_append_left _ hq
   have hmB:∀ q ∈ B,q ∈ recs:=fun q hq=>by rw [hAB]; exact List.mem_append_right _ (List.mem_cons_of_mem _ hq)
   have hfil:(recs.filter fun q=>listed.getD q.i false) = (A.filter fun q=>listed.getD q.i false) ++ (B.filter fun q=>listed.getD q.i false):=by
    rw [hAB,List.filter_append,List.filter_cons,if_neg (by rw [hil]; simp)]
   have hA:∀ q ∈ A,listed.getD q.i false = false → NoV q r:=fun q hq hl=>by
    rcases (hpairs q hq).w with h | h
    ·have:=hwait _ h; rw [hl] at this; cases this
    ·exact h.1.a
   have hB:∀ q ∈ B,listed.getD q.i false = true → NoC r q ∧ (∀ v,q.x = some v → kZ r.nw v = false) ∧ ∀ p ∈ q.st,∀ k ∈ r.nw,p.2.bd k = false:=fun q hq hl=>by
    obtain ⟨B1,B2,hB12⟩:=List.append_of_mem hq
    have:=(hst (A ++ r :: B1) q B2 (by rw [hAB,hB12]; simp)).2 r (List.mem_append_right _ List.mem_cons_self)
    rcases this.w with h | h
    ·have hqo:=(hr q (hmB q hq)).at_
     have:=h listed hcl fun o' ho' e he hb=>by rw [hqo] at ho'; cases ho'; exact hcl _ _ hqo hl e he hb
     rw [hil] at this; cases this
    ·exact h
   have hs0:Vw r (fo A S) (fo (recs.filter fun q=>listed.getD q.i false) S):=by
    rw [hfil,zr]
    refine (tC _ (fun q hq=>hnds q (hmA q hq)) hA ⟨fun _ _=>rfl,fun _ _=>rfl⟩).trans (GF (fun q hq=>hnds q (hmB q (List.mem_filter.1 hq).1)) fun q hq=>?_)
    exact (hB q (List.mem_filter.1 hq).1 (by simpa using (List.mem_filter.1 hq).2)).1.b
   have hdone:∀ q ∈ recs.filter (fun q=>listed.getD q.i false),(∀ v,q.x = some v → kZ r.nw v = false) ∧ ∀ p ∈ q.st,∀ k ∈ r.nw,p.2.bd k = false:=fun q hq=>by
    rw [hfil] at hq
    rcases List.mem_append.1 hq with h | h
    ·have:=hpairs q (List.mem_filter.1 h).1
     exact ⟨this.u,this.c⟩
    ·exact (hB q (List.mem_filter.1 h).1 (by simpa using (List.mem_filter.1 h).2)).2
   have hNd:Nd (fo (recs.filter fun q=>listed.getD q.i false) S):=hS.fo
   have hnu:∀ k ∈ r.nw,di k (fo (recs.filter fun q=>listed.getD q.i false) S).own = true:=fun k hk=>by
    simp only [di,List.all_eq_true,Bool.not_eq_true']
    intro p hp
    rcases BK hp with h | ⟨q,hq,h⟩
    ·exact hro.uo p h k hk
    ·exact (hdone q hq).2 p h k hk
   have hus:∀ p ∈ (fo (recs.filter fun q=>listed.getD q.i false) S).slots,kZ r.nw p.2 = false:=fun p hp=>by
    rcases BJ hp with h | ⟨q,hq,h⟩
    ·exact hro.us p h
    ·exact (hdone q hq).1 _ h
   have hstep:=hstp _ ⟨fun t ht v hv=>by rw [← hs0.1 t ht]; exact hv,fun k hk c hc=>by rw [← hs0.2 k hk]; exact hc⟩ (fun k hk=>⟨hnu k hk,hro.fx k hk⟩) hNd.2
   refine hstep a w hR K Q fun a' w' hR'=>hK a' w' ⟨fun j hj=>?_,.inl ⟨fun j hj=>?_,?_⟩⟩
   ·by_cases e:j = r.i
    ·subst e; exact .inl hi
    ·rw [getD_set_ne false (fun h=>e h.symm)] at hj; exact hsub j hj
   ·have hne:r.i ≠ j:=fun e=>(htn j hj).1 (e ▸ hi)
    rw [getD_set_ne false hne]; exact hnt j hj
   ·have hfil2:(recs.filter fun q=>(listed.setIfInBounds r.i true).getD q.i false) = (A.filter fun q=>listed.getD q.i false) ++ r :: (B.filter fun q=>listed.getD q.i false):=by
     have hne:∀ q,q ∈ A ∨ q ∈ B → q.i ≠ r.i:=by
      rw [hAB] at hnd
      simp only [List.map_append,List.map_cons] at hnd
      have h1:=List.nodup_append.1 hnd
      intro q hq e
      rcases hq with hq | hq
      ·exact h1.2.2 _ (List.mem_map.2 ⟨q,hq,rfl⟩) _ List.mem_cons_self e
      ·exact (List.nodup_cons.1 h1.2.1).1 (List.mem_map.2 ⟨q,hq,e⟩)
     rw [hAB,List.filter_append,List.filter_cons,if_pos (by simp [Array.getD_eq_getD_getElem?,his])]
     congr 1
     ·refine List.filter_congr fun q hq=>?_
      rw [getD_set_ne false (fun h=>hne q (.inl hq) h.symm)]
     ·congr 1
      refine List.filter_congr fun q hq=>?_
      rw [getD_set_ne false (fun h=>hne q (.inr hq) h.symm)]
    rw [hfil2]
    have hl:=ap_less hro.d hus
    have hR2:=rP hl.1 hl.2 hR'
    refine Db.R ?_ hS.fo hR2
    rw [hfil,zr,zr]
    exact (He hro.nd (fun q hq=>hnds q (hmB q (List.mem_filter.1 hq).1)) fun q hq=>(hB q (List.mem_filter.1 hq).1 (by simpa using (List.mem_filter.1 hq).2)).1).symm
  ·obtain ⟨hp1,hp2,hp3,hp4,hp5,hp6⟩:=hpan p hp
   rcases hi with e | hw
   ·subst e
    have ho:o = p.o:=by rw [hio] at hp3; exact Option.some.inj hp3
    subst ho
    have:Region.wanted p.o (yielded L.toArray a.tmps) = true:=by simp [Region.wanted,hp4]
    simp only [this,if_true]
    refine hp6 _ ?_ a w hR K
    have hv:Vw p (fo recs S) (fo (recs.filter fun q=>listed.getD q.i false) S):=tC _ hnds (fun q hq hl=>by
     rcases hp5 q hq with h | h
     ·have:=hwait _ h; rw [hl] at this; cases this
     ·exact h) ⟨fun _ _=>rfl,fun _ _=>rfl⟩
    exact ⟨fun t ht v h=>by rw [← hv.1 t ht]; exact h,fun k hk c h=>by rw [← hv.2 k hk]; exact h⟩
   ·rcases hsub _ (hwait _ hw) with h | h
    ·exact absurd h hp1
    ·rw [hpt (by rw [hp]; simp)] at h; cases h
 ·intro listed a w hsz hall hInv
  obtain ⟨hsub,hInv⟩:=hInv
  have hlt:∀ j ∈ tl,j < L.length:=fun j hj=>by
   have h1:L[j]? ∈ tl.map (L[·]?):=List.mem_map.2 ⟨j,hj,rfl⟩
   rw [htlo] at h1
   obtain ⟨o,_,ho⟩:=List.mem_map.1 h1
   exact (List.getElem?_eq_some_iff.1 ho.symm).1
  rcases hInv with ⟨hnt,hR⟩ | ⟨l1,l2,lo2,e1,hl1,e2,g1,g2,g3,g4⟩
  ·cases hp:hH with
   | some p=>
    obtain ⟨hp1,hp2,_⟩:=hpan p hp
    rcases hsub _ (hall _ hp2) with h | h
    ·exact absurd h hp1
    ·rw [hpt (by rw [hp]; simp)] at h; cases h
   | none=>
    have htn:tl = []:=by
     cases tl with
     | nil=>rfl
     | cons t tl=>have:=hnt t List.mem_cons_self; rw [hall t (hlt t List.mem_cons_self)] at this; cases this
    subst htn
    have:tlo = []:=by cases tlo with | nil=>rfl | cons _ _=>simp at htlo
    subst this
    refine hfin hp a w ?_
    have:(recs.filter fun r=>listed.getD r.i false) = recs:=List.filter_eq_self.2 fun r hrm=>hall _ (List.getElem?_eq_some_iff.1 (hr r hrm).at_).1
    rwa [this] at hR
  ·cases l2 with
   | nil=>
    have:lo2 = []:=by cases lo2 with | nil=>rfl | cons _ _=>simp at e2
    subst this
    exact g4
   | cons t l2=>
    have:=g3 t List.mem_cons_self
    rw [hall t (hlt t (by rw [e1]; simp))] at this; cases this
 ·intro j p hj hl
  simp [Array.getD_eq_getD_getElem?,Array.getElem?_replicate] at hl
  split at hl <;> simp at hl
 ·simp [Array.getD_eq_getD_getElem?,Array.getElem?_replicate] at hj
  split at hj <;> simp at hj
 ·simp [Array.getD_eq_getD_getElem?,Array.getElem?_replicate]
  split <;> simp
 ·have:(recs.filter fun r=>(Array.replicate L.toArray.size false).getD r.i false) = []:=by
   apply List.filter_eq_nil_iff.2
   intro r _
   simp [Array.getD_eq_getD_getElem?,Array.getElem?_replicate]
   split <;> simp
  rw [this]
  exact hr0.drawn
end
end Go.Dn
namespace Go.Dn
open Go Go.Sk
set_option linter.unusedVariables false
set_option linter.unusedSimpArgs false
set_option linter.unusedSectionVars false
def Gr (acc:List Nat):List Edge → Nat → Nat
 | [],m=>m
 | e :: l,m=>Gr acc l (if Region.binds .any e = true then m ||| (2 ^ e.on ||| acc.getD e.on 0) else m)
def B6:List Oper → List Nat → List Nat
 | [],acc=>acc
 | o :: l,acc=>B6 l (acc ++ [Gr acc o.after.toList 0])
def bit (cl:List Nat) (i j:Nat):Bool:=(cl.getD i 0).testBit j
theorem Ea {acc:List Nat} {j:Nat}:∀ {l:List Edge} {m:Nat},(Gr acc l m).testBit j = true → m.testBit j = true ∨ ∃ e ∈ l,Region.binds .any e = true ∧ (j = e.on ∨ bit acc e.on j = true)
 | [],m,h=>.inl h
 | e :: l,m,h=>by
  rcases Ea (l:=l) h with h | ⟨e',he,h⟩
  ·split at h
   ·next hb=>
    rw [Nat.testBit_or,Nat.testBit_or,Bool.or_eq_true,Bool.or_eq_true,Nat.testBit_two_pow] at h
    rcases h with h | h | h
    ·exact .inl h
    ·exact .inr ⟨e,List.mem_cons_self,hb,.inl (by simpa [eq_comm] using h)⟩
    ·exact .inr ⟨e,List.mem_cons_self,hb,.inr h⟩
   ·exact .inl h
  ·exact .inr ⟨e',List.mem_cons_of_mem _ he,h⟩
theorem Hl {L:List Oper}:∀ {l:List Oper} {acc:List Nat} {pre:List Oper},L = pre ++ l → acc.length = pre.length → (∀ i j,bit acc i j = true → pB L i j) → ∀ i j,bit (B6 l acc) i j = true → pB L i j
 | [],acc,pre,_,_,h=>h
 | o :: l,acc,pre,hL,hlen,h=>by
  refine Hl (l:=l) (acc:=acc ++ [Gr acc o.after.toList 0]) (pre:=pre ++ [o]) (by rw [hL]; simp) (by simp [hlen]) fun i j hb=>?_
  by_cases hi:i < acc.length
  ·exact h i j (by unfold bit at hb ⊢; rw [List.getD_eq_getElem?_getD,List.getElem?_append_left hi] at hb; rw [List.getD_eq_getElem?_getD]; exact hb)
  ·by_cases hi2:i = acc.length
   ·subst hi2
    unfold bit at hb
    rw [List.getD_eq_getElem?_getD,List.getElem?_append_right (Nat.le_refl _)] at hb
    simp only [Nat.sub_self,List.getElem?_cons_zero,Option.getD_some] at hb
    rcases Ea hb with h0 | ⟨e,he,hbd,h1⟩
    ·simp at h0
    ·intro listed hcl hdeps
     have hio:L[acc.length]? = some o:=by rw [hL,hlen]; simp
     have h2:=hdeps o hio e (by simpa using he) hbd
     rcases h1 with rfl | h1
     ·exact h2
     ·exact h _ _ h1 listed hcl fun o' ho' e' he' hb'=>hcl _ _ ho' h2 e' he' hb'
   ·unfold bit at hb
    rw [List.getD_eq_getElem?_getD,List.getElem?_eq_none (by simp; omega)] at hb
    simp at hb
theorem vJ {os:List Oper} {i j:Nat} (h:bit (B6 os []) i j = true):pB os i j:=Hl (pre:=[]) rfl rfl (fun i j h=>by simp [bit] at h) i j h
variable {D:Dt}
structure DI where
 i:Nat
 rs:List Nat
 ks:List Nat
structure PR (D:Dt) where
 d:DI
 o:Oper
 e:Ef D
def cut (d:DI) (s:bE D):bE D:=⟨s.sl.filter fun p=>d.rs.contains p.1,s.own.filter fun p=>d.ks.contains p.1,s.Γ⟩
def wrT (q:PR D) (t:Nat):Bool:=match q.o.dst,q.e.z with
 | some d,some _=>t == d
 | _,_=>false
def hasK (q:PR D) (k:Nat):Bool:=q.e.st.any fun p=>p.1 == k
def noV (q:PR D) (d:DI):Bool:=d.rs.all (fun t=>!wrT q t) && d.ks.all fun k=>!hasK q k
def dstT (q:PR D):Option Nat:=match q.e.z with
 | some _=>q.o.dst
 | none=>none
def noC (q r:PR D):Bool:=(noV q r.d && noV r q.d) && ((match dstT q with
 | some d=>!wrT r d
 | none=>true) && q.e.st.all fun p=>!hasK r p.1)
def noN (nw:List Nat) (q:PR D):Bool:=nw.all fun k=>(match q.e.z with
 | some z=>!mN k z
 | none=>true) && w3 k q.e.st
def okP (cl:List Nat) (q r:PR D):Bool:=noN r.e.nw q && (noC q r && noN q.e.nw r || bit cl r.d.i q.d.i)
def okR (fr:Fr) (lk0:Kept) (cl:List Nat) (T0 T:bE D) (ps:List (PR D)) (r:PR D):Bool :=
 (r.e.nr.isEmpty && r.e.dl.isEmpty) && (lok lk0.s r.o.dst && ((r.e.st.all fun p=>!lk0.o.contains p.1) && gp (r.e.st.map (·.1)))) && ((match r.o.dst with
 | some d=>decide (d < fr.n) && r.e.z.isSome
 | none=>true) && ((r.e.nw.all fun k=>(!fr.fx.contains k && (T0.sl.all fun p=>!mN k p.2)) && (w3 k T0.own && T.sl.all fun p=>!mN k p.2)) && ps.all fun q=>okP cl q r))
def depD (os:List Oper) (i j:Nat):Bool:=match os[i]? with
 | some o=>o.after.toList.any fun e=>Region.binds .any e && e.on == j
 | none=>false
def wtB (os:List Oper) (cl:List Nat) (i j:Nat):Bool:=depD os i j || bit cl i j
theorem IW {os:List Oper} {i j:Nat} (h:wtB os (B6 os []) i j = true):pB os i j:=by
 simp only [wtB,Bool.or_eq_true] at h
 rcases h with h | h
 ·intro listed hcl hdeps
  unfold depD at h
  split at h
  ·next o ho=>
   obtain ⟨e,he,h2⟩:=List.any_eq_true.1 h
   simp only [Bool.and_eq_true,beq_iff_eq] at h2
   have:=hdeps o ho e (by simpa using he) h2.1
   rw [h2.2] at this
   exact this
  ·cases h
 ·exact vJ h
def tlB (os:List Oper) (cl:List Nat) (ps:List (PR D)):List Nat → List Nat → Bool
 | _,[]=>true
 | bef,t :: tl=>((ps.all fun q=>q.d.i != t && wtB os cl t q.d.i) && (bef.all fun j=>t != j && wtB os cl t j)) && (decide (t < os.length) && tlB os cl ps (t :: bef) tl)
def okPan (os:List Oper) (cl:List Nat) (ps:List (PR D)) (d:DI):Bool:=((List.range os.length).all fun j=>(ps.any fun q=>q.d.i == j) || j == d.i || bit cl j d.i) && ps.all fun q=>noV q d || bit cl d.i q.d.i
section
variable {P:Program} [DecidableEq D.σ] {pk:PK D} {TB:aF} (B0:Tb P D TB) (L:Lay D) {X:Type} (G:List (bJ D pk))
def hY (fr:Fr) (lk0:Kept) (os:List Oper) (cl:List Nat) (tl:List Nat) (T0:bE D):List DI → List (PR D) → bE D → (bE D → Option X) → (D.T pk.d → bE D → Option X) → Option X
 | [],ps,T,K,W=>if (((List.range os.length).all fun i=>(ps.any fun q=>q.d.i == i) || tl.contains i) && tlB os cl ps [] tl) = true then ops B0 L G fr lk0 os (tl.filterMap fun t=>os[t]?) T K W else none
 | d :: l,ps,T,K,W=>(os[d.i]?).bind fun o=>if (ps.all fun q=>q.d.i != d.i) = true then
   (vu os T o).bind fun q=>(E1 os (cut d q.1) o).bind fun g=>ope B0 L G fr (cut d q.1) g o
    (fun e=>if okR fr lk0 cl T0 q.1 ps ⟨d,o,e⟩ = true then hY fr lk0 os cl tl T0 l (⟨d,o,e⟩ :: ps) (e.Ig fr o.dst q.1) K W else none)
    (fun p _=>if okPan os cl ps d = true then W p ⟨[],[],[]⟩ else none) else none
def okT (os:List Oper) (T:bE D):Bool:=iv 0 os && (gp (T.sl.map (·.1)) && gp (T.own.map (·.1)))
end
end Go.Dn
namespace Go.Dn
open Go Go.Sk
set_option linter.unusedVariables false
set_option linter.unusedSimpArgs false
set_option linter.unusedSectionVars false
variable {D:Dt}
noncomputable def kY (Γ:List GE) (p:PR D):DR:=⟨p.d.i,p.o,p.d.rs,p.d.ks,p.e.z.map (·.sv Γ),bq p.e.st,p.e.nw⟩
theorem zG {z:TS D} {Γ:List GE}:∀ {nw:List Nat},(∀ k ∈ nw,mN k z = false) → kZ nw (z.sv Γ) = false
 | [],_=>rfl
 | k :: nw,h=>by
  simp only [kZ,Bool.or_eq_false_iff]
  exact ⟨by rw [vK]; exact h k List.mem_cons_self,zG fun k hk=>h k (List.mem_cons_of_mem _ hk)⟩
theorem Ar {k:Nat} {l:List (Nat × TO D)} (h:w3 k l = true):∀ p ∈ bq l,p.2.bd k = false:=fun p hp=>by
 obtain ⟨j,c⟩:=p
 exact qE (u7 h) hp
theorem KC {k:Nat} {l:List (Nat × TS D)} (h:∀ p ∈ l,mN k p.2 = false):xN k l = l:=List.filter_eq_self.2 fun p hp=>by simp [h p hp]
theorem BQ:∀ {nw:List Nat} {l:List (Nat × TS D)},(∀ k ∈ nw,∀ p ∈ l,mN k p.2 = false) → nH nw l = l
 | [],_,_=>rfl
 | k :: nw,l,h=>by
  show nH nw (xN k l) = l
  rw [KC (h k List.mem_cons_self)]
  exact BQ fun k hk=>h k (List.mem_cons_of_mem _ hk)
theorem D0 {k:Nat}:∀ {l own:List (Nat × TO D)},(l.map (·.1)).Nodup → lk (tM l own) k = match lk l k with
  | some c=>some c
  | none=>lk own k
 | [],own,_=>rfl
 | p :: l,own,hn=>by
  simp only [List.map_cons,List.nodup_cons] at hn
  show lk (tM l (ins p.1 p.2 own)) k = _
  rw [D0 hn.2]
  by_cases e:k = p.1
  ·subst e
   have:lk l p.1 = none:=by
    cases h:lk l p.1 with
    | none=>rfl
    | some c=>exact absurd (List.mem_map.2 ⟨_,bh h,rfl⟩) hn.1
   rw [this]
   have h2:∀ {own:List (Nat × TO D)},lk (ins p.1 p.2 own) p.1 = some p.2:=by
    intro own
    induction own with
    | nil=>simp [ins,lk]
    | cons q own ih=>
     obtain ⟨j,x⟩:=q
     simp only [ins]
     split
     ·simp [lk]
     ·next e=>simp only [lk]; rw [if_neg e]; exact ih
   simp only [h2,lk,beq_self_eq_true,if_true]
  ·have h1:lk (p :: l) k = lk l k:=by obtain ⟨j,x⟩:=p; simp only [lk]; rw [if_neg (by simpa using e)]
   rw [h1,qd e]
theorem Aq:∀ {l own:List (Nat × TO D)},(own.map (·.1)).Nodup → ((tM l own).map (·.1)).Nodup
 | [],_,h=>h
 | p :: l,own,h=>Aq (l:=l) (xl h)
theorem rk {α:Type} {f:Nat → Bool} {k:Nat} {x:α}:∀ {l:List (Nat × α)},lk (l.filter fun p=>f p.1) k = some x → f k = true ∧ lk l k = some x
 | [],h=>by simp [lk] at h
 | (j,y) :: l,h=>by
  simp only [List.filter_cons] at h
  split at h
  ·next hf=>
   by_cases e:k = j
   ·subst e
    have:y = x:=by simpa [lk] using h
    subst this
    exact ⟨hf,by simp [lk]⟩
   ·have h':lk (l.filter fun p=>f p.1) k = some x:=by simpa [lk,e] using h
    obtain ⟨h1,h2⟩:=rk h'
    exact ⟨h1,by simp only [lk]; rw [if_neg (by simpa using e)]; exact h2⟩
  ·next hf=>
   obtain ⟨h1,h2⟩:=rk h
   have e:¬ k = j:=fun e=>by subst e; exact hf h1
   exact ⟨h1,by simp only [lk]; rw [if_neg (by simpa using e)]; exact h2⟩
theorem mz {l:List (Nat × TO D)}:ai (bq l) = l.map (·.1):=by simp [ai,bq]
theorem Dq {p:PR D} {Γ:List GE} {t:Nat} (h:wrT p t = false):wr (kY Γ p) t = none:=by
 unfold wrT at h
 unfold wr kY
 simp only
 cases hd:p.o.dst with
 | none=>rfl
 | some d=>
  cases hz:p.e.z with
  | none=>rfl
  | some z=>
   rw [hd,hz] at h
   simp only [Option.map_some]
   rw [if_neg (by simpa using h)]
theorem G7 {p:PR D} {Γ:List GE} {k:Nat} (h:hasK p k = false):k ∉ ai (kY Γ p).st:=by
 intro hk
 rw [show (kY Γ p).st = bq p.e.st from rfl,mz] at hk
 obtain ⟨q,hq,e⟩:=List.mem_map.1 hk
 have:=List.any_eq_false.1 h q hq
 simp [e] at this
theorem Fa {q:PR D} {d:DI} {r:DR} {Γ:List GE} (hr:r.rs = d.rs ∧ r.ks = d.ks) (h:noV q d = true):NoV (kY Γ q) r:=by
 simp only [noV,Bool.and_eq_true,List.all_eq_true,Bool.not_eq_true'] at h
 exact ⟨fun t ht=>Dq (h.1 t (hr.1 ▸ ht)),fun k hk=>G7 (h.2 k (hr.2 ▸ hk))⟩
theorem noC_of {q r:PR D} {Γ Γ':List GE} (h:noC q r = true):NoC (kY Γ q) (kY Γ' r):=by
 simp only [noC,Bool.and_eq_true,List.all_eq_true,Bool.not_eq_true'] at h
 obtain ⟨⟨h1,h2⟩,h3,h4⟩:=h
 refine ⟨Fa ⟨rfl,rfl⟩ h1,Fa ⟨rfl,rfl⟩ h2,fun t=>?_,fun k hk=>?_⟩
 ·cases hq:wr (kY Γ q) t with
  | none=>exact .inl rfl
  | some v=>
   refine .inr (Dq ?_)
   unfold dstT at h3
   unfold wr kY at hq
   simp only at hq
   cases hd:q.o.dst with
   | none=>rw [hd] at hq; cases hq
   | some d=>
    cases hz:q.e.z with
    | none=>rw [hd,hz] at hq; cases hq
    | some z=>
     rw [hd,hz] at hq
     simp only [Option.map_some] at hq
     split at hq
     ·next e=>subst e; rw [hz,hd] at h3; simpa using h3
     ·cases hq
 ·rw [show (kY Γ q).st = bq q.e.st from rfl,mz] at hk
  obtain ⟨p,hp,e⟩:=List.mem_map.1 hk
  subst e
  exact G7 (h4 p hp)
theorem Jb {nw:List Nat} {q:PR D} {Γ:List GE} (h:noN nw q = true):(∀ v,(kY Γ q).x = some v → kZ nw v = false) ∧ ∀ p ∈ (kY Γ q).st,∀ k ∈ nw,p.2.bd k = false:=by
 simp only [noN,List.all_eq_true,Bool.and_eq_true] at h
 refine ⟨fun v hv=>?_,fun p hp k hk=>Ar (h k hk).2 p hp⟩
 obtain ⟨z,hz,e⟩:=Option.map_eq_some_iff.1 hv
 subst e
 refine zG fun k hk=>?_
 have:=(h k hk).1
 rw [hz] at this
 simpa using this
theorem okP_of {os:List Oper} {q r:PR D} {Γ Γ':List GE} (h:okP (B6 os []) q r = true):Pair os (kY Γ q) (kY Γ' r):=by
 simp only [okP,Bool.and_eq_true,Bool.or_eq_true] at h
 obtain ⟨h1,h2⟩:=h
 obtain ⟨h3,h4⟩:=Jb (Γ:=Γ) h1
 refine ⟨h3,h4,?_⟩
 rcases h2 with ⟨h5,h6⟩ | h5
 ·obtain ⟨h7,h8⟩:=Jb (Γ:=Γ') h6
  exact .inr ⟨noC_of h5,h7,h8⟩
 ·exact .inl (vJ h5)
section
variable {P:Program} [DecidableEq D.σ] {pk:PK D} {TB:aF} {B0:Tb P D TB} {L:Lay D} {X:Type} {G:List (bJ D pk)} {E:Env TB} {n:Sh} {s0:St} {T T1:bE D} {os:List Oper} {o:Oper} {g:Option (Nat × Bool)} {Q:bF} {fr:Fr} {lk0:Kept} {K:bE D → Option X} {W:D.T pk.d → bE D → Option X} {r:X}
theorem Kw (h:vu os T o = some (T1,g)) (hn:(T.sl.map (·.1)).Nodup):(T1.sl.map (·.1)).Nodup ∧ T1.own = T.own:=by
 have key:∀ {t:Nat} {x:TS D},(((t,x) :: del t T.sl).map (·.1)).Nodup:=by
  intro t x
  obtain ⟨h1,h2⟩:=qD (k:=t) hn
  simp only [List.map_cons,List.nodup_cons]
  exact ⟨h2,h1⟩
 unfold vu at h
 split at h
 ·cases h; exact ⟨hn,rfl⟩
 ·split at h
  ·cases h
  ·split at h
   ·split at h
    ·cases h; exact ⟨hn,rfl⟩
    ·cases h
   ·split at h
    ·cases h; exact ⟨key,rfl⟩
    ·cases h
   ·split at h
    ·cases h; exact ⟨key,rfl⟩
    ·cases h
   ·cases h
theorem Hj {d:DI} {S:St} {r:DR} (hr:r.rs = d.rs ∧ r.ks = d.ks) (ha:qu T S) (hv:View r S s0):qu (cut d T) s0:=by
 refine ⟨fun t z hz=>?_,fun k c hc=>?_⟩
 ·obtain ⟨h1,h2⟩:=rk (f:=fun k=>d.rs.contains k) hz
  exact hv.1 t (by rw [hr.1]; simpa using h1) _ (ha.sl t z h2)
 ·obtain ⟨h1,h2⟩:=rk (f:=fun k=>d.ks.contains k) hc
  exact hv.2 k (by rw [hr.2]; simpa using h1) _ (ha.own k c h2)
structure DInv (P:Program) {TB:aF} (E:Env TB) (n:Sh) (os:List Oper) (lk0:Kept) (T0:bE D) (S:St) (A:List DR) (ps:List (PR D)) (T:bE D):Prop where
 rc:∀ r ∈ A,RecOk n os S r ∧ ∃ p ∈ ps,∃ Γ,r = kY Γ p
 ex:∀ p ∈ ps,∃ r ∈ A,r.i = p.d.i
 nd:(A.map (·.i)).Nodup
 st:∀ A1 r A2,A = A1 ++ r :: A2 → Stp P E n os r (fo A1 S) ∧ ∀ q ∈ A1,Pair os q r
 ag:qu T (fo A S)
 n1:(T.sl.map (·.1)).Nodup
 n2:(T.own.map (·.1)).Nodup
 ext:Ext lk0.s lk0.o T0 T
theorem H8 {T0:bE D} {A:List DR} {ps:List (PR D)} {d:DI} {e:Ef D} {g0:Option (Nat × Bool)} (hn:n.n = fr.n) (hf:n.fix = fr.fx) (hI:DInv P E n os lk0 T0 T0.st A ps T) (ho:os[d.i]? = some o) (hfr:(ps.all fun q=>q.d.i != d.i) = true) (hg:vu os T o = some (T1,g0)) (hc:E1 os (cut d T1) o = some g)
    (hout:∀ s0,qu (cut d T1) s0 → HE n s0 e → IB P E n (cut d T1) s0 g o e) (hok:okR fr lk0 (B6 os []) T0 T1 ps ⟨d,o,e⟩ = true):DInv P E n os lk0 T0 T0.st (A ++ [kY T1.Γ ⟨d,o,e⟩]) (⟨d,o,e⟩ :: ps) (e.Ig fr o.dst T1):=by
  obtain ⟨hag,_,_,_⟩:=zW (E:=E) (n:=n) hg
  have ha1:=hag _ hI.ag
  obtain ⟨hn1,hn2⟩:=Kw hg hI.n1
  simp only [okR,Bool.and_eq_true,List.all_eq_true,Bool.not_eq_true'] at hok
  obtain ⟨⟨k0,k1,k2,k3⟩,k4,k5,k6⟩:=hok
  have k00:e.dl = []:=by simpa using k0.2
  have k0:e.nr = []:=by simpa using k0.1
  have hdl:∀ {α:Type} {l:List (Nat × α)},p7 e.dl l = l:=by intro α l; rw [k00]; rfl
  have hnd:=mv k3
  have hd:∀ dd,o.dst = some dd → dd < n.n ∧ e.z.isSome = true:=fun dd hdd=>by
    rw [hdd] at k4
    simp only [Bool.and_eq_true,decide_eq_true_eq] at k4
    exact ⟨by rw [hn]; exact k4.1,k4.2⟩
  have hdrop:nH (e.nr ++ e.nw) T1.sl = T1.sl:=by
   rw [k0]
   exact BQ fun k hk p hp=>by
    have:=(k5 k hk).2.2 p hp
    simpa using this
  refine ⟨fun r hr=>?_,fun p hp=>?_,?_,fun A1 r A2 hA=>?_,?_,?_,?_,?_⟩
  · rcases List.mem_append.1 hr with h | h
    · obtain ⟨h1,p,hp,Γ,h2⟩:=hI.rc r h
      exact ⟨h1,p,List.mem_cons_of_mem _ hp,Γ,h2⟩
    · have:r = kY T1.Γ ⟨d,o,e⟩:=by simpa using h
      subst this
      refine ⟨⟨ho,by rw [show (kY T1.Γ ⟨d,o,e⟩).st = bq e.st from rfl,mz]; exact hnd,fun dd hdd=>?_,fun k hk=>?_,fun p hp=>?_,fun p hp k hk=>?_⟩,_,List.mem_cons_self,_,rfl⟩
      · obtain ⟨h1,h2⟩:=hd dd hdd
        exact ⟨h1,by show (e.z.map _).isSome = true; rw [Option.isSome_map]; exact h2⟩
      · rw [hf]
        exact (k5 k hk).1.1
      · obtain ⟨k,v⟩:=p
        obtain ⟨y,hy,rfl⟩:=dR.1 hp
        exact zG fun k' hk'=>by
          have:=(k5 k' hk').1.2 _ hy
          simpa using this
      · exact Ar (k5 k hk).2.1 p hp
  · rcases List.mem_cons.1 hp with h | h
    · subst h; exact ⟨_,List.mem_append_right _ List.mem_cons_self,rfl⟩
    · obtain ⟨r,hr,e'⟩:=hI.ex p h
      exact ⟨r,List.mem_append_left _ hr,e'⟩
  · rw [List.map_append,List.nodup_append]
    refine ⟨hI.nd,by simp,fun a ha b hb=>?_⟩
    obtain ⟨r,hr,e1⟩:=List.mem_map.1 ha
    have hb:b = d.i:=by simpa [kY] using hb
    obtain ⟨_,p,hp,Γ,e2⟩:=hI.rc r hr
    have:=List.all_eq_true.1 hfr p hp
    subst e1 e2
    intro e3
    rw [hb] at e3
    have e4:p.d.i = d.i:=e3
    simp [e4] at this
  · by_cases hl:A2 = []
    · subst hl
      obtain ⟨rfl,h2⟩:=List.append_inj' hA rfl
      have h2:kY T1.Γ ⟨d,o,e⟩ = r:=by simpa using h2
      subst h2
      refine ⟨fun s0 hv hnw hnds=>?_,fun q hq=>?_⟩
      · have ha:=Hj (d:=d) ⟨rfl,rfl⟩ ha1 hv
        have hst:=BE ha (Hb hc ha) (hout s0 ha ⟨⟨hnw,fun k hk=>by rw [k0] at hk; cases hk⟩,fun _=>hnds⟩)
        have:e.ap n (cut d T1).Γ o.dst s0 = (kY T1.Γ ⟨d,o,e⟩).ap n s0:=by
          unfold Ef.ap DR.ap kY
          simp only [k0,List.nil_append,k00,p7]
          cases e.z <;> rfl
        rw [this] at hst
        exact hst
      · obtain ⟨_,p,hp,Γ,e2⟩:=hI.rc q hq
        subst e2
        exact okP_of (k6 p hp)
    · obtain ⟨A3,x,hA2⟩:∃ A3 x,A2 = A3 ++ [x]:=⟨A2.dropLast,A2.getLast hl,(List.dropLast_concat_getLast hl).symm⟩
      subst hA2
      have:A ++ [kY T1.Γ ⟨d,o,e⟩] = (A1 ++ r :: A3) ++ [x]:=by rw [hA]; simp
      obtain ⟨h1,_⟩:=List.append_inj' this rfl
      exact hI.st A1 r A3 h1
  · rw [zr]
    show qu _ ((kY T1.Γ ⟨d,o,e⟩).BX (fo A T0.st))
    have hown:∀ k c,lk (tM e.st T1.own) k = some c → lk (bL (bq e.st) (fo A T0.st).own) k = some c.oc:=fun k c hkc=>by
      rw [D0 hnd] at hkc
      rw [jr (by rw [mz]; exact hnd),oh]
      split at hkc
      · next c' hc'=>rw [hc']; cases hkc; rfl
      · next hc'=>rw [hc']; exact ha1.own k c hkc
    unfold Ef.Ig
    simp only [k00,p7]
    cases hz:e.z with
    | none=>
      refine ⟨fun t z h=>?_,hown⟩
      rw [hdrop] at h
      show lk (DR.sl _ _) t = _
      rw [vr]
      have:wr (kY T1.Γ ⟨d,o,e⟩) t = none:=Dq (by unfold wrT; rw [hz]; split <;> first | rfl | (rename_i h; cases h))
      rw [this]
      exact ha1.sl t z h
    | some z0=>
      cases hdst:o.dst with
      | none=>
        refine ⟨fun t z h=>?_,hown⟩
        have h:lk (nH (e.nr ++ e.nw) T1.sl) t = some z:=h
        rw [hdrop] at h
        show lk (DR.sl _ _) t = _
        rw [vr]
        have:wr (kY T1.Γ ⟨d,o,e⟩) t = none:=Dq (by unfold wrT; rw [hdst])
        rw [this]
        exact ha1.sl t z h
      | some dd=>
        have hlt:=(hd dd hdst).1
        rw [hn] at hlt
        unfold bE.put
        simp only [hlt,if_true]
        refine ⟨fun t z h=>?_,hown⟩
        show lk (DR.sl _ _) t = some (z.sv T1.Γ)
        rw [vr]
        by_cases et:t = dd
        · subst et
          have hzz:z0 = z:=by simpa [lk] using h
          subst hzz
          have:wr (kY T1.Γ ⟨d,o,e⟩) t = some (z0.sv T1.Γ):=by
            unfold wr kY
            simp only [hdst,hz,Option.map_some,if_true]
          rw [this]
        · have h':lk (del dd (nH (e.nr ++ e.nw) T1.sl)) t = some z:=by simpa [lk,et] using h
          rw [ml et,hdrop] at h'
          have:wr (kY T1.Γ ⟨d,o,e⟩) t = none:=Dq (by unfold wrT; rw [hdst,hz]; simpa using et)
          rw [this]
          exact ha1.sl t z h'
  · unfold Ef.Ig
    simp only [k00,p7]
    cases e.z with
    | none=>simp only; rw [hdrop]; exact hn1
    | some z0=>
      simp only
      unfold bE.put
      cases o.dst with
      | none=>simp only; rw [hdrop]; exact hn1
      | some dd=>
        simp only
        split
        · rw [hdrop]
          obtain ⟨h1,h2⟩:=qD (k:=dd) hn1
          simp only [List.map_cons,List.nodup_cons]
          exact ⟨h2,h1⟩
        · rw [hdrop]; exact hn1
  · have:(e.Ig fr o.dst T1).own = tM e.st T1.own:=by
      unfold Ef.Ig
      simp only [k00,p7]
      cases e.z with
      | none=>rfl
      | some z=>exact GS
    rw [this]
    exact Aq (by rw [hn2]; exact hI.n2)
  · refine hI.ext.trans ((BN hg).trans ?_)
    have hx:Ext lk0.s lk0.o T1 ⟨nH (e.nr ++ e.nw) T1.sl,tM e.st T1.own,T1.Γ⟩:=by
      refine ⟨fun t ht x hx=>by rw [hdrop]; exact hx,fun k hk c hc=>?_⟩
      show lk (tM e.st T1.own) k = _
      rw [Ct fun p hp e'=>?_]
      · exact hc
      · have:=k2 p hp
        subst e'
        simp at this
        exact this hk
    unfold Ef.Ig
    simp only [k00,p7]
    cases e.z with
    | none=>exact hx
    | some z=>exact hx.trans (GU k1)
theorem I2 {ps:List (PR D)}:∀ {tl bef:List Nat},tlB os (B6 os []) ps bef tl = true → ((tl.map (os[·]?)) = (tl.filterMap fun t=>os[t]?).map some) ∧ ∀ A t B,tl = A ++ t :: B → (∀ q ∈ ps,q.d.i ≠ t ∧ pB os t q.d.i) ∧ (∀ j ∈ A,pB os t j ∧ t ≠ j) ∧ ∀ j ∈ bef,pB os t j ∧ t ≠ j
 | [],bef,h=>⟨rfl,fun A t B e=>by simp at e⟩
 | t :: tl,bef,h=>by
  simp only [tlB,Bool.and_eq_true,List.all_eq_true,decide_eq_true_eq,bne_iff_ne] at h
  obtain ⟨⟨h1,h2⟩,h3,h4⟩:=h
  obtain ⟨h5,h6⟩:=I2 h4
  refine ⟨?_,fun A t' B e=>?_⟩
  ·simp only [List.map_cons,List.filterMap_cons]
   rw [List.getElem?_eq_getElem h3,List.map_cons,h5]
  ·cases A with
   | nil=>
    simp only [List.nil_append,List.cons.injEq] at e
    obtain ⟨rfl,rfl⟩:=e
    exact ⟨fun q hq=>⟨(h1 q hq).1,IW (h1 q hq).2⟩,fun j hj=>(by cases hj),fun j hj=>⟨IW (h2 j hj).2,(h2 j hj).1⟩⟩
   | cons a A=>
    simp only [List.cons_append,List.cons.injEq] at e
    obtain ⟨rfl,e⟩:=e
    obtain ⟨g1,g2,g3⟩:=h6 A t' B e
    refine ⟨g1,fun j hj=>?_,fun j hj=>g3 j (List.mem_cons_of_mem _ hj)⟩
    rcases List.mem_cons.1 hj with e' | e'
    ·subst e'; exact g3 j List.mem_cons_self
    ·exact g2 j e'
theorem Jv {tl:List Nat} {T0:bE D} (hn:n.n = fr.n) (hf:n.fix = fr.fx) (hG:EV P TB G) (hed:iv 0 os = true) (hS:Nd T0.st) (hk:∀ s',Ext lk0.s lk0.o T0 s' → K s' = some r → Fin E n .normal s'.st Q) (hw:∀ p ow,W p ow = some r → pk.ok p → Fin E n (.panic (Df (pk.pv p))) ow.st Q) :
  ∀ {l:List DI} {ps:List (PR D)} {T:bE D} {A:List DR},DInv P E n os lk0 T0 T0.st A ps T → hY B0 L G fr lk0 os (B6 os []) tl T0 l ps T K W = some r → uN P E n os.toArray T0.st Q
 | [],ps,T,A,hI,h=>by
  unfold hY at h
  split at h
  ·next hall=>
   simp only [Bool.and_eq_true,List.all_eq_true,Bool.or_eq_true] at hall
   obtain ⟨hall,htb⟩:=hall
   obtain ⟨ht1,ht2⟩:=I2 htb
   have hA:∀ r' ∈ A,∃ q ∈ ps,r'.i = q.d.i:=fun r' hr'=>by
    obtain ⟨_,q,hq,Γ,e2⟩:=hI.rc r' hr'
    exact ⟨q,hq,by rw [e2]; rfl⟩
   refine drawn hed hS (fun r hr=>(hI.rc r hr).1) hI.nd hI.st none tl _ ht1 (fun A' t B e=>?_) (fun h=>absurd rfl h) (fun i hi=>?_) (fun p hp=>by cases hp) fun _ a w hr=>?_
   ·obtain ⟨g1,g2,g3⟩:=ht2 A' t B e
    refine ⟨fun hm=>?_,fun r' hr'=>?_,g2⟩
    ·obtain ⟨r',hr',e'⟩:=List.mem_map.1 hm
     obtain ⟨q,hq,e2⟩:=hA r' hr'
     exact (g1 q hq).1 (by rw [← e2]; exact e')
    ·obtain ⟨q,hq,e2⟩:=hA r' hr'
     rw [e2]; exact (g1 q hq).2
   ·rcases hall i (List.mem_range.2 hi) with h5 | h5
    ·obtain ⟨q,hq,e⟩:=List.any_eq_true.1 h5
     obtain ⟨r',hr',e'⟩:=hI.ex q hq
     exact .inl (List.mem_map.2 ⟨r',hr',by rw [e']; simpa using e⟩)
    ·exact .inr (.inl (by simpa using h5))
   ·refine wV hn hf hG hw h (fun s' he hK=>hk s' (hI.ext.trans he) hK) a w (rP (fun p hp=>?_) (fun p hp=>?_) hr)
    ·obtain ⟨t,v⟩:=p
     obtain ⟨z,hz,rfl⟩:=dR.1 hp
     exact bh (hI.ag.sl t z (iL hI.n1 hz))
    ·obtain ⟨⟨k,c⟩,hc,e⟩:=List.mem_map.1 hp
     subst e
     exact bh (hI.ag.own k c (iL hI.n2 hc))
  ·cases h
 | d :: l,ps,T,A,hI,h=>by
  unfold hY at h
  obtain ⟨o,ho,h1⟩:=aJ h
  split at h1
  ·next hfr=>
   obtain ⟨⟨T1,g0⟩,hg,h2⟩:=aJ h1
   obtain ⟨g,hc,h3⟩:=aJ h2
   simp only at hc h3
   rcases I8 (P:=P) (TB:=TB) (E:=E) (n:=n) hG h3 with ⟨e,h5,h6⟩ | ⟨rfl,p,ow,h5,h6⟩
   ·split at h5
    ·next hok=>exact Jv hn hf hG hed hS hk hw (H8 hn hf hI ho hfr hg hc h6 hok) h5
    ·cases h5
   ·split at h5
    ·next hok=>
     simp only [okPan,Bool.and_eq_true,List.all_eq_true,Bool.or_eq_true] at hok
     obtain ⟨q1,q2⟩:=hok
     obtain ⟨hag,_,_,_⟩:=zW (E:=E) (n:=n) hg
     have ha1:=hag _ hI.ag
     refine drawn hed hS (fun r hr=>(hI.rc r hr).1) hI.nd hI.st (some ⟨d.i,o,d.rs,d.ks,none,[],[]⟩) [] [] rfl (fun A' t B e=>by simp at e) (fun _=>rfl) (fun i hi=>?_) (fun p' hp'=>?_) (fun e=>by cases e)
     ·rcases q1 i (List.mem_range.2 hi) with (h7 | h7) | h7
      ·obtain ⟨q,hq,e⟩:=List.any_eq_true.1 h7
       obtain ⟨r',hr',e'⟩:=hI.ex q hq
       exact .inl (List.mem_map.2 ⟨r',hr',by rw [e']; simpa using e⟩)
      ·exact .inr (.inr ⟨_,rfl,.inl (by simpa using h7)⟩)
      ·exact .inr (.inr ⟨_,rfl,.inr (vJ h7)⟩)
     ·cases hp'
      refine ⟨fun hm=>?_,(List.getElem?_eq_some_iff.1 ho).1,ho,H4 hc,fun q hq=>?_,fun s0 hv a w hr next=>?_⟩
      ·obtain ⟨r',hr',e1⟩:=List.mem_map.1 hm
       obtain ⟨_,q,hq,Γ,e2⟩:=hI.rc r' hr'
       have:=List.all_eq_true.1 hfr q hq
       subst e2
       have e4:q.d.i = d.i:=e1
       simp [e4] at this
      ·obtain ⟨_,p2,hp2,Γ,e2⟩:=hI.rc q hq
       subst e2
       rcases q2 p2 hp2 with h7 | h7
       ·exact .inr (Fa ⟨rfl,rfl⟩ h7)
       ·exact .inl (vJ h7)
      ·exact h6 s0 (Hj (d:=d) (r:=⟨d.i,o,d.rs,d.ks,none,[],[]⟩) ⟨rfl,rfl⟩ ha1 hv) a w hr next Q (fun hok a w hr=>hw p ⟨[],[],[]⟩ h5 hok a w (rP (fun p hp=>by cases hp) (fun p hp=>by cases hp) hr))
    ·cases h5
  ·cases h1
theorem F3 {T0:bE D} (h:okT os T0 = true):iv 0 os = true ∧ Nd T0.st ∧ DInv P E n os lk0 T0 T0.st [] [] T0:=by
 simp only [okT,Bool.and_eq_true] at h
 obtain ⟨h1,h2,h3⟩:=h
 have e1:=mv h2
 have e2:=mv h3
 refine ⟨h1,⟨?_,?_⟩,⟨fun r hr=>(by cases hr),fun p hp=>(by cases hp),List.nodup_nil,fun A1 r A2 hA=>(by simp at hA),qu.self T0,e1,e2,.refl⟩⟩
 ·have:T0.st.slots.map (·.1) = T0.sl.map (·.1):=by simp [bE.st,od]
  rw [this]; exact e1
 ·show (ai (bq T0.own)).Nodup
  rw [mz]; exact e2
end
end Go.Dn
namespace Go.Dn
open Go Go.Sk
set_option linter.unusedVariables false
set_option linter.unusedSimpArgs false
def bl (o:Oper):List Nat:=(o.after.toList.filter fun e=>Region.binds .any e).map (·.on)
def Ip (deps:List (List Nat)) (n mask:Nat):List Nat:=(List.range n).filter fun i=>!mask.testBit i && (deps.getD i []).all fun j=>mask.testBit j
def p5 (deps:List (List Nat)) (n:Nat):Nat → Nat → List (List Nat)
 | 0,_=>[[]]
 | f + 1,mask=>match Ip deps n mask with
  | []=>[[]]
  | r :: rs=>(r :: rs).flatMap fun i=>(p5 deps n f (mask ||| 2 ^ i)).map (i :: ·)
def Msk (n:Nat) (listed:Array Bool) (mask:Nat):Prop:=listed.size = n ∧ ∀ i,listed.getD i false = mask.testBit i
theorem rdy_eq {ops:Array Oper} {deps:List (List Nat)} {listed:Array Bool} {mask:Nat} (hd:ops.toList.map bl = deps) (hm:Msk ops.size listed mask) :
  ((List.range ops.size).filter fun i=>!listed.getD i true && ((ops[i]?).map (·.after.all fun e=>!Region.binds .any e || listed.getD e.on false)).getD false) = Ip deps ops.size mask:=by
 unfold Ip
 refine List.filter_congr fun i hi=>?_
 have hi:i < ops.size:=List.mem_range.1 hi
 have h1:listed.getD i true = mask.testBit i:=by
  rw [← hm.2 i]
  have:i < listed.size:=by rw [hm.1]; exact hi
  simp [Array.getD_eq_getD_getElem?,Array.getElem?_eq_getElem this]
 have h2:deps.getD i [] = bl ops[i]:=by
  subst hd
  simp [List.getD_eq_getElem?_getD,hi]
 rw [h1,h2,Array.getElem?_eq_getElem hi]
 congr 1
 simp only [Option.map_some,Option.getD_some,bl,List.all_map,List.all_filter,← Array.all_toList]
 congr 1
 funext e
 simp only [Function.comp,hm.2]
theorem Msk.set {n:Nat} {listed:Array Bool} {mask i:Nat} (hm:Msk n listed mask) (hi:i < n):Msk n (listed.setIfInBounds i true) (mask ||| 2 ^ i):=by
 refine ⟨by simp [hm.1],fun j=>?_⟩
 rw [Nat.testBit_or,Nat.testBit_two_pow,← hm.2 j]
 by_cases e:i = j
 ·subst e
  have:i < listed.size:=by rw [hm.1]; exact hi
  simp [Array.getD_eq_getD_getElem?,this]
 ·simp [Array.getD_eq_getD_getElem?,Array.getElem?_setIfInBounds_ne e,e]
theorem Ha {ops:Array Oper} {deps:List (List Nat)} (hd:ops.toList.map bl = deps):∀ (f t:Nat) (listed:Array Bool) (mask:Nat),Msk ops.size listed mask → Region.linearise.go .any ops f t listed [] ∈ p5 deps ops.size f mask
 | 0,t,listed,mask,hm=>by simp [Region.linearise.go,p5]
 | f + 1,t,listed,mask,hm=>by
  unfold Region.linearise.go p5
  simp only []
  rw [rdy_eq hd hm]
  cases hr:Ip deps ops.size mask with
  | nil=>simp
  | cons r rs=>
   have hlt:t % (r :: rs).length < (r :: rs).length:=Nat.mod_lt _ (by simp)
   rw [List.getElem?_eq_getElem hlt]
   simp only []
   have hmem:(r :: rs)[t % (r :: rs).length] ∈ r :: rs:=List.getElem_mem hlt
   generalize (r :: rs)[t % (r :: rs).length] = i at hmem
   have hi:i < ops.size:=by
    have:=hmem
    rw [← hr] at this
    exact List.mem_range.1 (List.mem_filter.1 this).1
   rw [linearise_go_acc,List.reverse_singleton,List.singleton_append]
   exact List.mem_flatMap.2 ⟨i,hmem,List.mem_map.2 ⟨_,Ha hd f _ _ _ (hm.set hi),rfl⟩⟩
def fndR (i:Nat):Code → Option (List Oper)
 | .seq a b | .cond _ a b=>match fndR i a with
  | some c=>some c
  | none=>fndR i b
 | .block _ c | .loop c | .scope c=>fndR i c
 | .region j ⟨os⟩ _=>if j = i then some os else none
 | _=>none
noncomputable def Gd (i:Nat) (fn:Func):List Oper:=((fn.body).bind (fndR i)).getD []
section
variable {P:Program} {TB:aF} {E:Env TB} {n:Sh} {s:St} {Q:bF}
theorem w8 {ops:Array Oper}:∀ {σ:List Nat} {a:Act} {w:World},(∀ i ∈ σ,i < ops.size) → yx P ops Q (σ.filterMap fun i=>ops.toList[i]?) a w → wpOps P ops Q σ a w
 | [],a,w,_,h=>h
 | i :: σ,a,w,hi,h=>by
  have h0:i < ops.size:=hi i List.mem_cons_self
  have h1:ops.toList[i]? = some ops[i]:=by simp [h0]
  simp only [List.filterMap_cons,h1] at h
  have h2:ops[i]? = some ops[i]:=Array.getElem?_eq_getElem h0
  unfold yx at h
  unfold wpOps
  simp only [h2]
  split at h
  ·next hw=>
   simp only [hw,if_true]
   exact .inl (Oper.wp_mono (fun a w h=>w8 (fun j hj=>hi j (List.mem_cons_of_mem _ hj)) h) h)
  ·next hw=>
   simp only [hw]
   exact w8 (fun j hj=>hi j (List.mem_cons_of_mem _ hj)) h
theorem GZ {deps:List (List Nat)} {n:Nat}:∀ {f mask:Nat} {σ:List Nat},σ ∈ p5 deps n f mask → ∀ i ∈ σ,i < n
 | 0,mask,σ,h,i,hi=>by
  simp [p5] at h
  subst h
  cases hi
 | f + 1,mask,σ,h,i,hi=>by
  unfold p5 at h
  split at h
  ·have:σ = []:=by simpa using h
   subst this
   cases hi
  ·next r rs hr=>
   obtain ⟨j,hj,h2⟩:=List.mem_flatMap.1 h
   obtain ⟨σ',h3,e⟩:=List.mem_map.1 h2
   subst e
   rcases List.mem_cons.1 hi with e | e
   ·subst e
    rw [← hr] at hj
    exact List.mem_range.1 (List.mem_filter.1 hj).1
   ·exact GZ h3 i e
theorem ah.lin {id:Nat} {os:List Oper} {deps:List (List Nat)} (hm:P.follows .mixedOrders = true) (hd:os.map bl = deps) (h:∀ σ ∈ p5 deps os.length os.length 0,aj P E n os.toArray (σ.filterMap fun i=>os[i]?) s Q):ah P E n (.region id os.toArray true) s Q:=fun a w hr=>wp_region_draw fun t=>by
 simp only [Region.schedule,hm,Bool.true_or,if_true]
 have hmem:=Ha (ops:=os.toArray) (deps:=deps) hd os.toArray.size t (Array.replicate os.toArray.size false) 0 ⟨by simp,fun i=>by
  simp [Array.getD_eq_getD_getElem?,Array.getElem?_replicate]
  split <;> simp⟩
 have hsz:os.toArray.size = os.length:=by simp
 rw [hsz] at hmem
 refine w8 (fun i hi=>?_) ?_
 ·have h2:Region.linearise .any os.toArray t ∈ p5 deps os.length os.length 0:=by simpa [Region.linearise] using hmem
  have:=GZ h2 i hi
  simpa using this
 ·exact h _ (by simpa [Region.linearise] using hmem) a _ hr.drawn
end
end Go.Dn
namespace Go.Dn
open Go Go.Sk
set_option linter.unusedVariables false
set_option linter.unusedSimpArgs false
set_option linter.unusedSectionVars false
variable {D:Dt}
inductive Pl (D:Dt) where
 | s (t:Nat) (d:DT D.σ)
 | b (k:Nat) (T:TypeId) (d:DT D.σ)
 | r (k:Nat) (T:TypeId) (d:DT D.σ)
 | x (k:Nat) (T:TypeId) (i:D.σ) (kr:Nat)
@[reducible] def Pl.ty:Pl D → DT D.σ
 | .s _ d=>d
 | .b _ _ d=>d
 | .r _ _ d=>.sl d
 | .x _ _ i _=>.st i
@[reducible] def PT (D:Dt) (ks:List (Pl D)):Type:=xL D (ks.map Pl.ty)
section
variable {P:Program} [DecidableEq D.σ] {pk:PK D} {TB:aF} (B0:Tb P D TB) (L:Lay D) (G:List (bJ D pk))
def Pl.get (s:bE D):(p:Pl D) → Option (V D p.ty)
 | .s t d=>(vl s t).bind (gl d)
 | .b k T d=>match lk s.own k with
  | some (.box T' d' v)=>if h:T' = T ∧ d' = d then some (h.2 ▸ v) else none
  | _=>none
 | .r k T d=>match lk s.own k with
  | some (.row T' d' l)=>if h:T' = T ∧ d' = d then some (show List (V D d) from h.2 ▸ l) else none
  | _=>none
 | .x k T i kr=>match lk s.own k with
  | some (.x T' i' k' kr' fg v)=>if h:T' = T ∧ i' = i then (if (k' = k ∧ kr' = kr) ∧ fg = false then some (show D.T i from h.2 ▸ v) else none) else none
  | _=>none
def Dd (s:bE D):(ks:List (Pl D)) → Option (PT D ks)
 | []=>some ()
 | [p]=>Pl.get s p
 | p :: q :: l=>(Pl.get s p).bind fun a=>(Dd s (q :: l)).bind fun b=>some (a,b)
def hasR (s:bE D) (r:List (Nat × Nat)):Bool:=r.all fun p=>match lk s.sl p.1 with
 | some (.n (.p (.row k)))=>k == p.2
 | _=>false
def pj (s:bE D) (r:List (Nat × Nat)) (ks:List (Pl D)):Option (PT D ks):=if hasR s r = true then Dd s ks else none
def impK (s:bE D) (ks:List (Pl D)):List Nat:=ks.filterMap fun p=>match p with
 | .b k _ _=>(match lk s.own k with
  | some (.x _ _ _ _ _ _)=>some k
  | _=>none)
 | _=>none
def pjI (lk0:Kept) (s:bE D) (r:List (Nat × Nat)) (ks:List (Pl D)):Option (PT D ks):=(E0 L lk0 (impK s ks) s).bind fun s2=>pj s2 r ks
def emS1:(p:Pl D) → V D p.ty → List (Nat × TS D)
 | .s t d,v=>[(t,.n (.d d v))]
 | _,_=>[]
def emO1:(p:Pl D) → V D p.ty → List (Nat × TO D)
 | .b k T d,v=>[(k,.box T d v)]
 | .r k T d,v=>[(k,.row T d v)]
 | .x k T i kr,v=>[(k,.x T i k kr false v)]
 | _,_=>[]
def emS:(ks:List (Pl D)) → PT D ks → List (Nat × TS D)
 | [],_=>[]
 | [p],z=>emS1 p z
 | p :: q :: l,z=>emS1 p z.1 ++ emS (q :: l) z.2
def emO:(ks:List (Pl D)) → PT D ks → List (Nat × TO D)
 | [],_=>[]
 | [p],z=>emO1 p z
 | p :: q :: l,z=>emO1 p z.1 ++ emO (q :: l) z.2
def kp (s:bE D) (cs:List Nat):List (Nat × TS D):=cs.filterMap fun t=>(vl s t).map fun x=>(t,.n x)
def kpo (s:bE D) (co:List Nat):List (Nat × TO D):=co.filterMap fun k=>(lk s.own k).map fun c=>(k,c)
def rws (r:List (Nat × Nat)):List (Nat × TS D):=r.map fun p=>(p.1,.n (.p (.row p.2)))
def EW (s:bE D) (cs:Kept) (ks:List (Pl D)) (z:PT D ks):bE D:=⟨emS ks z ++ (rws cs.r ++ kp s cs.s),emO ks z ++ kpo s cs.o,[]⟩
def Ii (ps:List (Nat × Nat)) (ks:List (Pl D)) (z:PT D ks):bE D:=⟨(ps.map fun p=>(p.1,.n (.p (.ptr p.2 0)))) ++ emS ks z,emO ks z,[]⟩
def p6 (s:bE D) (ps:List (Nat × Nat)):Bool:=ps.all fun p=>match lk s.sl p.1 with
 | some (.n (.p (.ptr k 0)))=>k == p.2
 | _=>false
inductive Xt where
 | x (t:Option Nat)
 | hH
abbrev Exs (D:Dt):=List (Xt × List (Pl D))
@[reducible] def ET {D:Dt} (pk:PK D):Xt × List (Pl D) → Type
 | (.x _,ks)=>PT D ks
 | (.hH,[])=>D.T pk.d
 | (.hH,p :: ks)=>D.T pk.d × PT D (p :: ks)
@[reducible] def Alt {D:Dt} (pk:PK D):Exs D → Type
 | []=>Empty
 | [e]=>ET pk e
 | e :: f :: l=>ET pk e ⊕ Alt pk (f :: l)
def injE (lk0:Kept) (s:bE D) (r:List (Nat × Nat)) (t:Option Nat):(e:Xt × List (Pl D)) → Option (ET pk e)
 | (.x t',ks)=>if t' = t then pjI L lk0 s r ks else none
 | (.hH,[]) | (.hH,_ :: _)=>none
def isX (t:Option Nat):Xt → Bool
 | .x t'=>t' == t
 | .hH=>false
def inj (lk0:Kept) (s:bE D) (r:List (Nat × Nat)) (t:Option Nat):(es:Exs D) → Option (Alt pk es)
 | []=>none
 | [e]=>injE L lk0 s r t e
 | e :: f :: l=>if isX t e.1 = true then (injE L lk0 s r t e).bind fun z=>some (.inl z) else (inj lk0 s r t (f :: l)).bind fun z=>some (.inr z)
def injQ (p:D.T pk.d) (ow:bE D):(e:Xt × List (Pl D)) → Option (ET pk e)
 | (.x _,_)=>none
 | (.hH,[])=>some p
 | (.hH,q :: ks)=>(Dd ow (q :: ks)).bind fun z=>some (p,z)
def isP:Xt → Bool
 | .x _=>false
 | .hH=>true
def Iu (p:D.T pk.d) (ow:bE D):(es:Exs D) → Option (Alt pk es)
 | []=>none
 | [e]=>injQ p ow e
 | e :: f :: l=>if isP e.1 = true then (injQ p ow e).bind fun z=>some (.inl z) else (Iu p ow (f :: l)).bind fun z=>some (.inr z)
def Gq {X:Type} (s:bE D) (cs:Kept) (W:Option Nat → bE D → Option X) (Wp:D.T pk.d → bE D → Option X):(e:Xt × List (Pl D)) → ET pk e → Option X
 | (.x t,ks),z=>W t (EW s cs ks z)
 | (.hH,[]),p=>Wp p ⟨[],[],[]⟩
 | (.hH,q :: ks),p=>Wp p.1 ⟨[],emO (q :: ks) p.2,[]⟩
def elim {X:Type} (s:bE D) (cs:Kept) (W:Option Nat → bE D → Option X) (Wp:D.T pk.d → bE D → Option X):(es:Exs D) → Alt pk es → Option X
 | [],z=>nomatch z
 | [e],z=>Gq s cs W Wp e z
 | e :: f :: l,z=>ee (Gq s cs W Wp e) (elim s cs W Wp (f :: l)) z
def offS (t:Nat):Pl D → Bool
 | .s t' _=>t' != t
 | _=>true
def Hu (k:Nat):Pl D → Bool
 | .b k' _ _ | .r k' _ _ | .x k' _ _ _=>k' != k
 | _=>true
def okE (lcks cs:Kept) (s:bE D) (ks:List (Pl D)):Bool:=((cs.s.all fun t=>(ks.all (offS t)) && cs.r.all fun p=>p.1 != t) && lcks.s.all fun t=>cs.s.contains t || (lk s.sl t).isNone) && ((cs.o.all fun k=>ks.all (Hu k)) && lcks.o.all fun t=>cs.o.contains t || (lk s.own t).isNone)
def Kept.add (a b:Kept):Kept:=⟨a.s ++ b.s,a.o ++ b.o,[]⟩
def Ht (lcks cs:Kept) (s:bE D) (es:Exs D):Bool:=es.all fun e=>okE lcks cs s e.2
inductive An (D:Dt) where
 | no
 | two (a b:An D)
 | loop (cs:Kept) (ks:List (Pl D)) (es:Exs D) (b:An D)
 | join (cs:Kept) (ks:List (Pl D)) (a b:An D)
 | qx (cs:Kept) (ks:List (Pl D)) (es:Exs D) (a b:An D)
 | hY (l:List DI) (tl:List Nat) (fz:List Nat)
 | lin (pi po:List (Nat × Nat)) (ki ks:List (Pl D)) (d:D.σ) (f:PT D ki → Option (PT D ks ⊕ D.T d))
def gH (fr:Fr) (F:Nat):Code → {X:Type} → An D → Kept → bE D → (bE D → Option X) → (Option Nat → bE D → Option X) → (D.T pk.d → bE D → Option X) → Option X
 | .skip,_,_,lcks,s,K,W,Wp=>K s
 | .region _ os false,_,_,lcks,s,K,W,Wp=>ops B0 L G fr lcks os.toList os.toList s (fun s=>K (clean s)) Wp
 | .region _ os true,_,.hY l tl fz,lcks,s,K,W,Wp=>(Hv lcks fz s).bind fun s=>if okT os.toList s = true then hY B0 L G fr lcks os.toList (B6 os.toList []) tl s l [] s (fun s=>K (clean s)) Wp else none
 | .region _ os true,_,.lin pi po ki ks d f,lcks,s,K,W,Wp=>if h:d = pk.d then (if (p6 s pi && ((lcks.s.all fun t=>(match lk po t with
   | some k=>lk pi t == some k
   | none=>false) || (lk s.sl t).isNone) && lcks.o.all fun k=>(lk s.own k).isNone)) = true then (Dd s ki).bind fun z0=>(f z0).bind (fun r=>match r with
  | .inl z=>K (Ii po ks z)
  | .inr p=>Wp (h ▸ p) ⟨[],[],[]⟩) else none) else none
 | .seq a b,_,.join cs ks x y,lcks,s,K,W,Wp=>if okE lcks cs s ks = true then
   (gH fr F a x (cs.add lcks) s (fun s'=>pjI L (cs.add lcks) s' cs.r ks) (fun _ _=>none) (fun _ _=>none)).bind fun z=>gH fr F b y lcks (EW s cs ks z) K W Wp else none
 | .seq a b,_,.qx cs ks es x y,lcks,s,K,W,Wp=>if okE lcks cs s ks = true ∧ Ht lcks cs s es = true then
   (gH fr F a x (cs.add lcks) s (fun s'=>(pjI L (cs.add lcks) s' cs.r ks).bind fun z=>some (Sum.inl z)) (fun t s'=>(inj L (cs.add lcks) s' cs.r t es).bind fun z=>some (Sum.inr z)) (fun p ow=>(Iu p ow es).bind fun z=>some (Sum.inr z))).bind
    (ee (fun z=>gH fr F b y lcks (EW s cs ks z) K W Wp) (elim s cs W Wp es)) else none
 | .seq a b,_,.two x y,lcks,s,K,W,Wp=>gH fr F a x lcks s (fun s=>gH fr F b y lcks s K W Wp) W Wp
 | .seq a b,_,_,lcks,s,K,W,Wp=>gH fr F a .no lcks s (fun s=>gH fr F b .no lcks s K W Wp) W Wp
 | .cond (.const (.bool c)) a b,_,.two x y,lcks,s,K,W,Wp=>(match c with
  | true=>gH fr F a x lcks s K W Wp
  | false=>gH fr F b y lcks s K W Wp)
 | .cond (.const (.bool c)) a b,_,_,lcks,s,K,W,Wp=>(match c with
  | true=>gH fr F a .no lcks s K W Wp
  | false=>gH fr F b .no lcks s K W Wp)
 | .cond (.tmp t) a b,_,.two x y,lcks,s,K,W,Wp=>(match lk s.sl t with
  | some (.n (.d .bool c))=>if c = true then gH fr F a x lcks s K W Wp else gH fr F b y lcks s K W Wp
  | _=>none)
 | .cond (.tmp t) a b,_,_,lcks,s,K,W,Wp=>(match lk s.sl t with
  | some (.n (.d .bool c))=>if c = true then gH fr F a .no lcks s K W Wp else gH fr F b .no lcks s K W Wp
  | _=>none)
 | .block id c,_,x,lcks,s,K,W,Wp=>gH fr F c x lcks s K (fun t s=>if t = some id then K s else W t s) Wp
 | .loop c,_,.loop cs ks es x,lcks,s,K,W,Wp=>if okE lcks cs s ks = true ∧ Ht lcks cs s es = true then
   (pjI L (cs.add lcks) s cs.r ks).bind fun z0=>Option.bind (iter F (fun z=>gH fr F c x (cs.add lcks) (EW s cs ks z) (fun s'=>(pjI L (cs.add lcks) s' cs.r ks).bind fun z=>some (Sum.inl z)) (fun t s'=>(inj L (cs.add lcks) s' cs.r t es).bind fun z=>some (Sum.inr z)) (fun p ow=>(Iu p ow es).bind fun z=>some (Sum.inr z))) z0) (elim s cs W Wp es) else none
 | .exit i,_,_,_,s,_,W,_=>W (some i) s
 | .ret,_,_,_,s,_,W,_=>W none s
 | _,_,_,_,_,_,_,_=>none
def lrP {ks:List (Pl D)} {d:D.σ} (h:d = pk.d):PT D ks ⊕ D.T d → PT D ks ⊕ D.T pk.d
 | .inl z=>.inl z
 | .inr p=>.inr (h ▸ p)
def Dw (fr:Fr) (os:List Oper) (pi po:List (Nat × Nat)) (ki ks:List (Pl D)) (d:D.σ) (f:PT D ki → Option (PT D ks ⊕ D.T d)):Prop:=∃ deps,os.map bl = deps ∧ ∀ z0 r,f z0 = some r → ∀ h:d = pk.d,∀ σ ∈ p5 deps os.length os.length 0,ops B0 L G fr ⟨[],[],[]⟩ os (σ.filterMap fun i=>os[i]?) (Ii pi ki z0) (fun s'=>if p6 s' po = true then (Dd s' ks).bind fun z=>some (Sum.inl z:PT D ks ⊕ D.T pk.d) else none) (fun p _=>some (.inr p)) = some (lrP (pk:=pk) h r)
def ix (fr:Fr):Code → An D → Prop
 | .region _ ⟨os⟩ true,.lin pi po ki ks d f=>Dw B0 L G fr os pi po ki ks d f
 | .seq a b,.two x y | .seq a b,.join _ _ x y | .seq a b,.qx _ _ _ x y | .cond _ a b,.two x y=>ix fr a x ∧ ix fr b y
 | .loop c,.loop _ _ _ x | .block _ c,x=>ix fr c x
 | _,_=>True
end
def mj:An D → Bool
 | .lin _ _ _ _ _ _=>false
 | .two x y | .join _ _ x y | .qx _ _ _ x y=>mj x && mj y
 | .loop _ _ _ x=>mj x
 | _=>true
section
variable {P:Program} [DecidableEq D.σ] {pk:PK D} {TB:aF} {B0:Tb P D TB} {L:Lay D} {E:Env TB} {n:Sh} {s s':bE D} {G:List (bJ D pk)} {a:Act} {w:World} {Q:bF} {lcks cs:Kept} {ks:List (Pl D)}
theorem qS {hh:PH} {ρ:RM} {tmps:Array Value} (hs:bp hh ρ s.st.slots tmps) {t:Nat} {x:T0 D} (h:vl s t = some x):∃ v,tmps[t]? = some v ∧ x.bv.rel hh ρ v:=by
 unfold vl at h
 split at h
 ·next y hy=>cases h; exact hs _ _ (dR.2 ⟨_,bh hy,rfl⟩)
 ·next i hi=>
  split at h
  ·next b hb=>
   cases h
   obtain ⟨v,hv,hrel⟩:=hs _ _ (dR.2 ⟨_,bh hi,rfl⟩)
   refine ⟨v,hv,?_⟩
   simp only [TS.sv,hb] at hrel
   exact hrel
  ·cases h
 ·cases h
theorem box_eq {T T':TypeId} {d d':DT D.σ} {v:V D d'} {w:V D d} (h:T' = T ∧ d' = d) (e:(h.2 ▸ v:V D d) = w):(TO.box T' d' v:TO D) = .box T d w:=by obtain ⟨rfl,rfl⟩:=h; subst e; rfl
theorem row_eq {T T':TypeId} {d d':DT D.σ} {v:List (V D d')} {w:List (V D d)} (h:T' = T ∧ d' = d) (e:(show List (V D d) from h.2 ▸ v) = w):(TO.row T' d' v:TO D) = .row T d w:=by obtain ⟨rfl,rfl⟩:=h; subst e; rfl
theorem get_mem {p:Pl D} {v:V D p.ty} (h:Pl.get s p = some v):(∀ k y,(k,y) ∈ emS1 p v → ∃ x,y = .n x ∧ vl s k = some x) ∧ ∀ k c,(k,c) ∈ emO1 p v → lk s.own k = some c:=by
 cases p with
 | s t d=>
  obtain ⟨x,h1,h2⟩:=aJ h
  rw [df h2] at h1
  exact ⟨fun k y hm=>(by cases List.mem_singleton.1 hm; exact ⟨_,rfl,h1⟩),fun k c hm=>(by cases hm)⟩
 | b k T d=>
  refine ⟨fun k y hm=>(by cases hm),fun k' c hm=>?_⟩
  cases List.mem_singleton.1 hm
  simp only [Pl.get] at h
  split at h
  ·next T' d' u hu=>
   split at h
   ·next he=>rw [hu]; exact congrArg some (box_eq he (Option.some.inj h))
   ·cases h
  ·cases h
 | r k T d=>
  refine ⟨fun k y hm=>(by cases hm),fun k' c hm=>?_⟩
  cases List.mem_singleton.1 hm
  simp only [Pl.get] at h
  split at h
  ·next T' d' u hu=>
   split at h
   ·next he=>rw [hu]; exact congrArg some (row_eq he (Option.some.inj h))
   ·cases h
  ·cases h
 | x k T i kr=>
  refine ⟨fun k y hm=>(by cases hm),fun k' c hm=>?_⟩
  cases List.mem_singleton.1 hm
  simp only [Pl.get] at h
  split at h
  ·next T' i' k' kr' fg u hu=>
   split at h
   ·next he=>
    split at h
    ·next he2=>
     obtain ⟨rfl,rfl⟩:=he
     obtain ⟨⟨rfl,rfl⟩,rfl⟩:=he2
     rw [hu]
     cases h
     rfl
    ·cases h
   ·cases h
  ·cases h
theorem zj:∀ {ks:List (Pl D)} {z:PT D ks},Dd s ks = some z → (∀ k y,(k,y) ∈ emS ks z → ∃ x,y = .n x ∧ vl s k = some x) ∧ ∀ k c,(k,c) ∈ emO ks z → lk s.own k = some c
 | [],z,h=>⟨fun k y hm=>(by cases hm),fun k c hm=>by cases hm⟩
 | [p],z,h=>get_mem h
 | p :: q :: l,z,h=>by
  obtain ⟨a,ha,h1⟩:=aJ h
  obtain ⟨b,hb,h2⟩:=aJ h1
  cases h2
  obtain ⟨h3,h4⟩:=get_mem ha
  obtain ⟨h5,h6⟩:=zj hb
  exact ⟨fun k y hm=>(List.mem_append.1 hm).elim (h3 k y) (h5 k y),fun k c hm=>(List.mem_append.1 hm).elim (h4 k c) (h6 k c)⟩
theorem Jj {k:Nat} {y:TS D} {cs:List Nat} (h:(k,y) ∈ kp s cs):k ∈ cs ∧ ∃ x,y = .n x ∧ vl s k = some x:=by
 simp only [kp,List.mem_filterMap] at h
 obtain ⟨t,ht,h⟩:=h
 obtain ⟨x,hx,e⟩:=Option.map_eq_some_iff.1 h
 cases e
 exact ⟨ht,x,rfl,hx⟩
theorem GP {r:List (Nat × Nat)} (h:hasR s r = true) {k:Nat} {y:TS D} (hm:(k,y) ∈ rws r):∃ x,y = .n x ∧ vl s k = some x:=by
 simp only [rws,List.mem_map] at hm
 obtain ⟨p,hp,e⟩:=hm
 cases e
 have:=List.all_eq_true.1 h p hp
 refine ⟨_,rfl,?_⟩
 split at this
 ·next j hj=>
  have:j = p.2:=by simpa using this
  subst this
  unfold vl
  rw [hj]
 ·cases this
theorem emb_R {z:PT D ks} (hp:pj s' cs.r ks = some z) (hc:∀ t,t ∈ cs.s → ∀ x,vl s t = some x → vl s' t = some x) (ho:∀ t,t ∈ cs.o → ∀ x,lk s.own t = some x → lk s'.own t = some x) (hr:R E n s'.st a w):R E n (EW s cs ks z).st a w:=by
 obtain ⟨h1,h2,hh,ρ,hw,hs⟩:=hr
 unfold pj at hp
 split at hp
 ·next hR=>
  obtain ⟨h3,h4⟩:=zj hp
  refine ⟨h1,h2,hh,ρ,?_,fun k x hx=>?_⟩
  ·refine hw.sub fun p hp=>?_
   obtain ⟨q,hq,rfl⟩:=List.mem_map.1 hp
   obtain ⟨k,c⟩:=q
   refine List.mem_map.2 ⟨(k,c),?_,rfl⟩
   rcases List.mem_append.1 hq with e | e
   ·exact bh (h4 k c e)
   ·simp only [kpo,List.mem_filterMap] at e
    obtain ⟨k',hk,hq⟩:=e
    obtain ⟨c',hc',e⟩:=Option.map_eq_some_iff.1 hq
    cases e
    exact bh (ho _ hk _ hc')
  ·obtain ⟨y,hy,rfl⟩:=dR.1 hx
   rcases List.mem_append.1 hy with e | e
   ·obtain ⟨x,rfl,hv⟩:=h3 _ _ e
    exact qS hs hv
   ·rcases List.mem_append.1 e with e | e
    ·obtain ⟨x,rfl,hv⟩:=GP hR e
     exact qS hs hv
    ·obtain ⟨hk,x,rfl,hv⟩:=Jj e
     exact qS hs (hc _ hk _ hv)
 ·cases hp
theorem uV {z:PT D ks} (hp:pjI L (cs.add lcks) s' cs.r ks = some z) (he:Ext (cs.add lcks).s (cs.add lcks).o s s') (hr:R E n s'.st a w):R E n (EW s cs ks z).st a w:=by
 obtain ⟨s2,h1,h2⟩:=aJ hp
 obtain ⟨e2,hr2⟩:=vD (E:=E) (n:=n) h1
 have he2:=he.trans e2
 exact emb_R h2 (fun t ht=>he2.sl t (List.mem_append_left _ ht)) (fun t ht=>he2.ow t (List.mem_append_left _ ht)) (hr2 a w hr)
theorem zg {ps:List (Nat × Nat)} {z:PT D ks} (hP:p6 s ps = true) (hp:Dd s ks = some z) (hr:R E n s.st a w):R E n (Ii ps ks z).st a w:=by
 obtain ⟨h1,h2,hh,ρ,hw,hs⟩:=hr
 obtain ⟨h3,h4⟩:=zj hp
 refine ⟨h1,h2,hh,ρ,?_,fun k x hx=>?_⟩
 ·refine hw.sub fun p hp=>?_
  obtain ⟨⟨k,c⟩,hq,rfl⟩:=List.mem_map.1 hp
  exact List.mem_map.2 ⟨(k,c),bh (h4 k c hq),rfl⟩
 ·obtain ⟨y,hy,rfl⟩:=dR.1 hx
  rcases List.mem_append.1 hy with e | e
  ·obtain ⟨p,hpm,e2⟩:=List.mem_map.1 e
   cases e2
   have:=List.all_eq_true.1 hP p hpm
   refine qS hs (x:=.p (.ptr p.2 0)) ?_
   split at this
   ·next j hj=>
    have:j = p.2:=by simpa using this
    subst this
    unfold vl
    rw [hj]
   ·cases this
  ·obtain ⟨x,rfl,hv⟩:=h3 _ _ e
   exact qS hs hv
theorem pN {α:Type} {t:Nat}:∀ {l l':List (Nat × α)},(∀ p,p ∈ l → p.1 ≠ t) → lk (l ++ l') t = lk l' t
 | [],l',h=>rfl
 | (j,x) :: l,l',h=>by
  have:¬ t = j:=fun e=>h (j,x) List.mem_cons_self e.symm
  simp only [List.cons_append,lk]
  rw [if_neg (by simpa using this)]
  exact pN fun p hp=>h p (List.mem_cons_of_mem _ hp)
theorem off1 {p:Pl D} {v:V D p.ty} {t:Nat} (h:offS t p = true):∀ q,q ∈ emS1 p v → q.1 ≠ t:=by
 cases p with
 | s t' d=>intro q hq e; cases List.mem_singleton.1 hq; simp [offS] at h; exact h e
 | b _ _ _=>intro q hq; cases hq
 | r _ _ _=>intro q hq; cases hq
 | x _ _ _ _=>intro q hq; cases hq
theorem off2 {p:Pl D} {v:V D p.ty} {t:Nat} (h:Hu t p = true):∀ q,q ∈ emO1 p v → q.1 ≠ t:=by
 cases p with
 | s t' d=>intro q hq; cases hq
 | b _ _ _=>intro q hq e; cases List.mem_singleton.1 hq; simp [Hu] at h; exact h e
 | r _ _ _=>intro q hq e; cases List.mem_singleton.1 hq; simp [Hu] at h; exact h e
 | x _ _ _ _=>intro q hq e; cases List.mem_singleton.1 hq; simp [Hu] at h; exact h e
theorem offs:∀ {ks:List (Pl D)} {z:PT D ks} {t:Nat},(ks.all (offS t) = true → ∀ q,q ∈ emS ks z → q.1 ≠ t) ∧ (ks.all (Hu t) = true → ∀ q,q ∈ emO ks z → q.1 ≠ t)
 | [],z,t=>⟨fun _ q hq=>(by cases hq),fun _ q hq=>by cases hq⟩
 | [p],z,t=>⟨fun h=>off1 (by simpa using h),fun h=>off2 (by simpa using h)⟩
 | p :: r :: l,z,t=>by
  refine ⟨fun h q hq=>?_,fun h q hq=>?_⟩
  ·rw [List.all_cons,Bool.and_eq_true] at h
   rcases List.mem_append.1 hq with e | e
   ·exact off1 h.1 q e
   ·exact offs.1 h.2 q e
  ·rw [List.all_cons,Bool.and_eq_true] at h
   rcases List.mem_append.1 hq with e | e
   ·exact off2 h.1 q e
   ·exact offs.2 h.2 q e
theorem lk_kp {t:Nat} {x:T0 D} (hx:vl s t = some x):∀ {cs:List Nat},t ∈ cs → lk (kp s cs) t = some (.n x)
 | c :: cs,h=>by
  by_cases e:t = c
  ·subst e
   simp only [kp,List.filterMap_cons,hx,Option.map_some,lk,beq_self_eq_true,if_true]
  ·have h':t ∈ cs:=by rcases List.mem_cons.1 h with h | h; exact absurd h e; exact h
   have ih:=lk_kp hx h'
   simp only [kp,List.filterMap_cons] at ih ⊢
   split
   ·exact ih
   ·next q hq=>
    obtain ⟨y,_,e'⟩:=Option.map_eq_some_iff.1 hq
    cases e'
    simp only [lk]
    rw [if_neg (by simpa using e)]
    exact ih
theorem Ji {t:Nat} {x:TO D} (hx:lk s.own t = some x):∀ {cs:List Nat},t ∈ cs → lk (kpo s cs) t = some x
 | c :: cs,h=>by
  by_cases e:t = c
  ·subst e
   simp only [kpo,List.filterMap_cons,hx,Option.map_some,lk,beq_self_eq_true,if_true]
  ·have h':t ∈ cs:=by rcases List.mem_cons.1 h with h | h; exact absurd h e; exact h
   have ih:=Ji hx h'
   simp only [kpo,List.filterMap_cons] at ih ⊢
   split
   ·exact ih
   ·next q hq=>
    obtain ⟨y,_,e'⟩:=Option.map_eq_some_iff.1 hq
    cases e'
    simp only [lk]
    rw [if_neg (by simpa using e)]
    exact ih
theorem y7 {z:PT D ks} (h:okE lcks cs s ks = true):Ext (cs.add lcks).s (cs.add lcks).o s (EW s cs ks z):=by
 simp only [okE,Bool.and_eq_true,List.all_eq_true,Bool.or_eq_true] at h
 obtain ⟨⟨h1,h2⟩,h3,h4⟩:=h
 refine ⟨fun t ht x hx=>?_,fun k hk c hc=>?_⟩
 ·have ht':t ∈ cs.s:=by
   rcases List.mem_append.1 ht with e | e
   ·exact e
   ·rcases h2 t e with h5 | h5
    ·simpa using h5
    ·have:lk s.sl t = none:=by simpa using h5
     unfold vl at hx
     rw [this] at hx
     cases hx
  obtain ⟨h5,h6⟩:=h1 t ht'
  unfold vl EW
  simp only
  rw [pN (offs.1 (List.all_eq_true.2 h5)),pN (fun q hq=>?_),lk_kp hx ht']
  obtain ⟨p,hp,rfl⟩:=List.mem_map.1 hq
  simpa using h6 p hp
 ·have hk':k ∈ cs.o:=by
   rcases List.mem_append.1 hk with e | e
   ·exact e
   ·rcases h4 k e with h5 | h5
    ·simpa using h5
    ·have:lk s.own k = none:=by simpa using h5
     rw [this] at hc
     cases hc
  show lk (emO ks z ++ kpo s cs.o) k = _
  rw [pN (offs.2 (List.all_eq_true.2 (h3 k hk'))),Ji hc hk']
theorem lk_ptrs {ps:List (Nat × Nat)} {l:List (Nat × TS D)} {t k:Nat} (h:lk ps t = some k):lk ((ps.map fun p=>(p.1,(.n (.p (.ptr p.2 0)):TS D))) ++ l) t = some (.n (.p (.ptr k 0))):=by
 induction ps with
 | nil=>cases h
 | cons p ps ih=>
  simp only [lk] at h
  simp only [List.map_cons,List.cons_append,lk]
  split at h
  ·next e=>cases h; rw [if_pos e]
  ·next e=>rw [if_neg e]; exact ih h
theorem hasP_lk {ps:List (Nat × Nat)} {t k:Nat} (hP:p6 s ps = true) (h:lk ps t = some k):lk s.sl t = some (.n (.p (.ptr k 0))):=by
 have:=List.all_eq_true.1 hP _ (bh h)
 split at this
 ·next j hj=>
  have:j = k:=by simpa using this
  subst this
  exact hj
 ·cases this
theorem shp_ext {pi po:List (Nat × Nat)} {z:PT D ks} (hP:p6 s pi = true) (h:((lcks.s.all fun t=>(match lk po t with
      | some k=>lk pi t == some k
      | none=>false) || (lk s.sl t).isNone) && lcks.o.all fun k=>(lk s.own k).isNone) = true):Ext lcks.s lcks.o s (Ii po ks z):=by
  simp only [Bool.and_eq_true,List.all_eq_true,Bool.or_eq_true] at h
  obtain ⟨h1,h2⟩:=h
  refine ⟨fun t ht x hx=>?_,fun k hk c hc=>?_⟩
  · rcases h1 t ht with e | e
    · split at e
      · next k hk=>
        have e:lk pi t = some k:=by simpa using e
        have h3:=hasP_lk hP e
        have h4:=lk_ptrs (l:=emS ks z) hk
        unfold vl at hx ⊢
        rw [h3] at hx
        show (match lk (Ii po ks z).sl t with | some (.n y)=>some y | some (.gb i)=>_ | _=>none) = some x
        unfold Ii
        simp only
        rw [h4]
        exact hx
      · cases e
    · have:lk s.sl t = none:=by simpa using e
      unfold vl at hx
      rw [this] at hx
      cases hx
  · have:=h2 k hk
    rw [hc] at this
    cases this
theorem Ext.less (h:Ext (cs.add lcks).s (cs.add lcks).o s s'):Ext lcks.s lcks.o s s':=⟨fun t ht=>h.sl t (List.mem_append_right _ ht),fun k hk=>h.ow k (List.mem_append_right _ hk)⟩
end
end Go.Dn
namespace Go.Dn
open Go Go.Sk
set_option linter.unusedVariables false
set_option linter.unusedSimpArgs false
set_option linter.unusedSectionVars false
variable {D:Dt}
def E4:Option Nat → Exit
 | none=>.ret
 | some i=>.exit i
section
variable {P:Program} [DecidableEq D.σ] {pk:PK D} {TB:aF} {B0:Tb P D TB} {L:Lay D} {E:Env TB} {n:Sh} {G:List (bJ D pk)} {F:Nat} {fr:Fr}
def yB {TB:aF} (E:Env TB) (n:Sh) (pk:PK D) (p:D.T pk.d) (ow:bE D) (Q:bF):Prop:=pk.ok p → Fin E n (.panic (Df (pk.pv p))) ow.st Q
def Gj (s s':bE D):Prop:=(∀ p,p ∈ s'.st.slots → p ∈ s.st.slots) ∧ ∀ p,p ∈ s'.st.own → p ∈ s.st.own
theorem Gk {s:bE D}:Gj s ⟨[],[],[]⟩:=⟨fun p hp=>(by cases hp),fun p hp=>(by cases hp)⟩
theorem yB.less {p:D.T pk.d} {ow ow':bE D} {Q:bF} (h:yB E n pk p ow' Q) (hs:Gj ow ow'):yB E n pk p ow Q:=fun ho a w hr=>h ho a w (rP hs.1 hs.2 hr)
theorem G4 {X:Type} {s s':bE D} {lcks cs:Kept} {W:Option Nat → bE D → Option X} {Wp:D.T pk.d → bE D → Option X} {r:X} {t:Option Nat} {Q:bF} (he:Ext (cs.add lcks).s (cs.add lcks).o s s') {e:Xt × List (Pl D)} {y:ET pk e} (hk:okE lcks cs s e.2 = true) (h:injE L (cs.add lcks) s' cs.r t e = some y) (h2:Gq s cs W Wp e y = some r)
  (hW:∀ t s',Ext lcks.s lcks.o s s' → W t s' = some r → Fin E n (E4 t) s'.st Q):Fin E n (E4 t) s'.st Q:=by
 obtain ⟨e,ks⟩:=e
 cases e with
 | x t'=>
  simp only [injE] at h
  split at h
  ·next et=>
   subst et
   have hx:=y7 (z:=y) hk
   intro a w hr
   exact hW _ _ hx.less h2 a w (uV h he hr)
  ·cases h
 | hH=>cases ks <;> cases h
theorem Fi {X:Type} {s s':bE D} {lcks cs:Kept} {W:Option Nat → bE D → Option X} {Wp:D.T pk.d → bE D → Option X} {r:X} {t:Option Nat} {Q:bF} (he:Ext (cs.add lcks).s (cs.add lcks).o s s') :
  ∀ {es:Exs D} {y:Alt pk es},Ht lcks cs s es = true → inj L (cs.add lcks) s' cs.r t es = some y → elim s cs W Wp es y = some r →
   (∀ t s',Ext lcks.s lcks.o s s' → W t s' = some r → Fin E n (E4 t) s'.st Q) → Fin E n (E4 t) s'.st Q
 | [],y,_,h,_,_=>by cases h
 | [e],y,hk,h,h2,hW=>G4 he (by simpa [Ht] using hk) h h2 hW
 | e :: f :: l,y,hk,h,h2,hW=>by
  unfold inj at h
  simp only [Ht,List.all_cons,Bool.and_eq_true] at hk
  split at h
  ·obtain ⟨z,hz,h1⟩:=aJ h
   cases h1
   exact G4 he hk.1 hz h2 hW
  ·obtain ⟨z,hz,h1⟩:=aJ h
   cases h1
   exact Fi he (es:=f :: l) (by simp only [Ht,List.all_cons,Bool.and_eq_true]; exact hk.2) hz h2 hW
theorem G3 {X:Type} {s:bE D} {cs:Kept} {W:Option Nat → bE D → Option X} {Wp:D.T pk.d → bE D → Option X} {r:X} {p:D.T pk.d} {ow:bE D} {e:Xt × List (Pl D)} {y:ET pk e} (h:injQ p ow e = some y) (h2:Gq s cs W Wp e y = some r):∃ ow',Wp p ow' = some r ∧ Gj ow ow':=by
 obtain ⟨e,ks⟩:=e
 cases e with
 | x t'=>cases h
 | hH=>
  cases ks with
  | nil=>cases h; exact ⟨_,h2,Gk⟩
  | cons q ks=>
   obtain ⟨z,hz,h1⟩:=aJ h
   cases h1
   refine ⟨_,h2,fun p hp=>(by cases hp),fun p hp=>?_⟩
   obtain ⟨⟨k,c⟩,hq,rfl⟩:=List.mem_map.1 hp
   exact List.mem_map.2 ⟨(k,c),bh ((zj hz).2 k c hq),rfl⟩
theorem Cw {X:Type} {s:bE D} {cs:Kept} {W:Option Nat → bE D → Option X} {Wp:D.T pk.d → bE D → Option X} {r:X} {p:D.T pk.d} {ow:bE D}:∀ {es:Exs D} {y:Alt pk es},Iu p ow es = some y → elim s cs W Wp es y = some r → ∃ ow',Wp p ow' = some r ∧ Gj ow ow'
 | [],y,h,_=>by cases h
 | [e],y,h,h2=>G3 h h2
 | e :: f :: l,y,h,h2=>by
  unfold Iu at h
  split at h
  ·obtain ⟨z,hz,h1⟩:=aJ h
   cases h1
   exact G3 hz h2
  ·obtain ⟨z,hz,h1⟩:=aJ h
   cases h1
   exact Cw (es:=f :: l) hz h2
theorem xy {K:Act → World → Prop} {s:St} {t:Option Nat} {Q:bF} (h:Fin E n (E4 t) s Q):Fin E n (E4 t) s (Exit.then K Q):=by
 cases t <;> exact fun a w hr=>h a w hr
theorem kM {K:Act → World → Prop} {p:D.T pk.d} {ow:bE D} {Q:bF} (h:yB E n pk p ow Q):yB E n pk p ow (Exit.then K Q):=fun ho=>Fin.bx (h ho)
def Sound (B0:Tb P D TB) (L:Lay D) (G:List (bJ D pk)) (E:Env TB) (n:Sh) (fr:Fr) (F:Nat) (c:Code):Prop:=∀ {X:Type} (an:An D) (hh:ix B0 L G fr c an) (lcks:Kept) (s:bE D) (K:bE D → Option X) (W:Option Nat → bE D → Option X) (Wp:D.T pk.d → bE D → Option X) (r:X) (Q:bF),
 gH B0 L G fr F c an lcks s K W Wp = some r → (∀ s',Ext lcks.s lcks.o s s' → K s' = some r → Fin E n .normal s'.st Q) → (∀ t s',Ext lcks.s lcks.o s s' → W t s' = some r → Fin E n (E4 t) s'.st Q) → (∀ p ow,Wp p ow = some r → yB E n pk p ow Q) → ah P E n c s.st Q
theorem jl:∀ c:Code,ix B0 L G fr c .no
 | .seq _ _=>trivial
 | .cond _ _ _=>trivial
 | .block _ c=>jl c
 | .loop _=>trivial
 | .skip=>trivial
 | .region _ _ true=>trivial
 | .region _ _ false=>trivial
 | .exit _=>trivial
 | .ret=>trivial
 | .scope _=>trivial
 | .label _=>trivial
 | .goto _=>trivial
 | .rangeFunc _ _ _ _=>trivial
 | .refuse _=>trivial
theorem bS:∀ (c:Code) {an:An D},mj an = true → ix B0 L G fr c an
 | .seq a b,an,h=>by
  cases an with
  | two x y=>simp only [mj,Bool.and_eq_true] at h; exact ⟨bS a h.1,bS b h.2⟩
  | join _ _ x y=>simp only [mj,Bool.and_eq_true] at h; exact ⟨bS a h.1,bS b h.2⟩
  | qx _ _ _ x y=>simp only [mj,Bool.and_eq_true] at h; exact ⟨bS a h.1,bS b h.2⟩
  | _=>trivial
 | .cond _ a b,an,h=>by
  cases an with
  | two x y=>simp only [mj,Bool.and_eq_true] at h; exact ⟨bS a h.1,bS b h.2⟩
  | _=>trivial
 | .block _ c,an,h=>by cases an <;> exact bS c h
 | .loop c,an,h=>by
  cases an with
  | loop _ _ _ x=>exact bS c h
  | _=>trivial
 | .region _ os f,an,h=>by
  cases an with
  | lin pi po ki ks d f=>cases h
  | _=>cases f <;> trivial
 | .skip,an,h=>by cases an <;> trivial
 | .exit _,an,h=>by cases an <;> trivial
 | .ret,an,h=>by cases an <;> trivial
 | .scope _,an,h=>by cases an <;> trivial
 | .label _,an,h=>by cases an <;> trivial
 | .goto _,an,h=>by cases an <;> trivial
 | .rangeFunc _ _ _ _,an,h=>by cases an <;> trivial
 | .refuse _,an,h=>by cases an <;> trivial
theorem HN {a b:Code} (ha:Sound B0 L G E n fr F a) (hb:Sound B0 L G E n fr F b):Sound B0 L G E n fr F (.seq a b):=by
 intro X an hh lcks s K W Wp r Q h hK hW hP
 have plain:∀ x y,ix B0 L G fr a x → ix B0 L G fr b y → gH B0 L G fr F a x lcks s (fun s=>gH B0 L G fr F b y lcks s K W Wp) W Wp = some r → ah P E n (.seq a b) s.st Q:=fun x y hx hy h=>
  ah.seq (ha x hx lcks s _ W Wp r _ h (fun s' he h'=>Fin.then (hb y hy lcks s' K W Wp r Q h' (fun s'' he'=>hK s'' (he.trans he')) (fun t s'' he'=>hW t s'' (he.trans he')) hP)) (fun t s' he h'=>xy (hW t s' he h')) (fun p ow hp=>kM (hP p ow hp)))
 cases an with
 | no=>exact plain _ _ (jl _) (jl _) h
 | two x y=>exact plain _ _ hh.1 hh.2 h
 | loop cs ks es x=>exact plain _ _ (jl _) (jl _) h
 | hY l tl fz=>exact plain _ _ (jl _) (jl _) h
 | lin pi po ki ks d f=>exact plain _ _ (jl _) (jl _) h
 | join cs ks x y=>
  simp only [gH] at h
  split at h
  ·next hk=>
   obtain ⟨z,hz,h1⟩:=aJ h
   have hx:=y7 (z:=z) hk
   refine ah.seq (ha x hh.1 (cs.add lcks) s _ _ _ z _ hz (fun s' he h'=>?_) (fun t s' he h'=>by cases h') (fun p ow hp=>by cases hp))
   intro a w hr
   exact hb y hh.2 lcks _ K W Wp r Q h1 (fun s'' he'=>hK s'' (hx.less.trans he')) (fun t s'' he'=>hW t s'' (hx.less.trans he')) hP a w (uV h' he hr)
  ·cases h
 | qx cs ks es x y=>
  simp only [gH] at h
  split at h
  ·next hk=>
   obtain ⟨hk,hes⟩:=hk
   obtain ⟨v,hv,h1⟩:=aJ h
   refine ah.seq (ha x hh.1 (cs.add lcks) s _ _ _ v _ hv (fun s' he h'=>?_) (fun t s' he h'=>?_) (fun p ow h'=>?_))
   ·obtain ⟨z,hz,e⟩:=aJ h'
    cases e
    have hx:=y7 (z:=z) hk
    intro a w hr
    exact hb y hh.2 lcks _ K W Wp r Q h1 (fun s'' he'=>hK s'' (hx.less.trans he')) (fun t s'' he'=>hW t s'' (hx.less.trans he')) hP a w (uV hz he hr)
   ·obtain ⟨z,hz,e⟩:=aJ h'
    cases e
    exact xy (Fi he hes hz h1 hW)
   ·obtain ⟨z,hz,e⟩:=aJ h'
    cases e
    obtain ⟨ow',h2,h3⟩:=Cw hz h1
    exact kM ((hP p ow' h2).less h3)
  ·cases h
theorem loopR {σ τ:Type} {c:Code} {Q:bF} {m:Nat} {body:σ → Option (σ ⊕ τ)} {s0:σ} {v:τ} (h:iter m body s0 = some v) (S:σ → St)
  (round:∀ z o,body z = some o → (∀ y,o = .inr y → y = v) → ah P E n c (S z) (Exit.then (fun a w=>∃ z',o = .inl z' ∧ R E n (S z') a w) Q)):ah P E n (.loop c) (S s0) Q:=by
 refine ah.loop (ι:=σ × Nat) (fun j=>S j.1) (fun j=>iter j.2 body j.1 = some v) (fun j=>j.2) (s0,m) h rfl ?_
 rintro ⟨z,m⟩ hj
 dsimp only at hj ⊢
 cases m with
 | zero=>simp [xr] at hj
 | succ m=>
  rw [oC] at hj
  obtain ⟨o,ho,hj⟩:=aJ hj
  intro a w hr
  refine Code.wp_mono (fun e a' w' he=>?_) (round z o ho (fun y hy=>by subst hy; exact Option.some.inj hj) a w hr)
  cases e with
  | normal=>obtain ⟨z',hz,hr'⟩:=he; subst hz; exact ⟨(z',m),hj,Nat.lt_succ_self m,hr'⟩
  | exit id=>exact he
  | goto l=>exact he
  | ret=>exact he
  | panic ch=>exact he
  | outgrown=>exact he
theorem FF {c:Code} (hc:Sound B0 L G E n fr F c):Sound B0 L G E n fr F (.loop c):=by
 intro X an hh lcks s K W Wp r Q h hK hW hP
 cases an with
 | loop cs ks es x=>
  simp only [gH] at h
  split at h
  ·next hk=>
   obtain ⟨hk,hes⟩:=hk
   obtain ⟨z0,hz0,h1⟩:=aJ h
   obtain ⟨v,hv,h2⟩:=aJ h1
   have hpre:∀ a w,R E n s.st a w → R E n (EW s cs ks z0).st a w:=fun a w hr=>uV hz0 .refl hr
   refine fun a w hr=>loopR (P:=P) (E:=E) (n:=n) (c:=c) (Q:=Q) hv (fun z=>(EW s cs ks z).st) (fun z o ho hy=>?_) a w (hpre a w hr)
   have hx:=y7 (z:=z) hk
   refine hc x hh (cs.add lcks) _ _ _ _ o _ ho (fun s' he h'=>?_) (fun t s' he h'=>?_) (fun p ow h'=>?_)
   ·obtain ⟨z',hz',e⟩:=aJ h'
    cases e
    have he2:=hx.trans he
    intro a w hr
    exact ⟨z',rfl,uV hz' he2 hr⟩
   ·obtain ⟨y,hy',e⟩:=aJ h'
    cases e
    cases hy y rfl
    exact xy (Fi (hx.trans he) hes hy' h2 hW)
   ·obtain ⟨y,hy',e⟩:=aJ h'
    cases e
    cases hy y rfl
    obtain ⟨ow',h4,h5⟩:=Cw hy' h2
    exact kM ((hP p ow' h4).less h5)
  ·cases h
 | _=>cases h
theorem FG {t:Operand} {a b:Code} (ha:Sound B0 L G E n fr F a) (hb:Sound B0 L G E n fr F b):Sound B0 L G E n fr F (.cond t a b):=by
 intro X an hh lcks s K W Wp r Q h hK hW hP
 have key:∀ x y (t:Nat),ix B0 L G fr a x → ix B0 L G fr b y → (match lk s.sl t with
  | some (.n (.d .bool c))=>if c = true then gH B0 L G fr F a x lcks s K W Wp else gH B0 L G fr F b y lcks s K W Wp
  | _=>none) = some r → ah P E n (.cond (.tmp t) a b) s.st Q:=fun x y t hx hy h=>by
  split at h
  ·next c hc=>
   refine ah.ite h (show lk (od s.Γ s.sl) t = _ by rw [yZ,hc]; rfl) (fun _ h=>ha x hx lcks s K W Wp r Q h hK hW hP) (fun _ h=>hb y hy lcks s K W Wp r Q h hK hW hP)
  ·cases h
 have keyC:∀ x y (c:Bool),ix B0 L G fr a x → ix B0 L G fr b y → (match c with
  | true=>gH B0 L G fr F a x lcks s K W Wp
  | false=>gH B0 L G fr F b y lcks s K W Wp) = some r → ah P E n (.cond (.const (.bool c)) a b) s.st Q:=fun x y c hx hy h=>by
  cases c with
  | true=>exact ah.condTc (ha x hx lcks s K W Wp r Q h hK hW hP)
  | false=>exact ah.condFc (hb y hy lcks s K W Wp r Q h hK hW hP)
 cases t with
 | tmp t=>
  cases an with
  | two x y=>exact key _ _ _ hh.1 hh.2 h
  | _=>exact key _ _ _ (jl _) (jl _) h
 | const v=>
  cases v with
  | bool c=>
   cases an with
   | two x y=>exact keyC _ _ _ hh.1 hh.2 h
   | _=>exact keyC _ _ _ (jl _) (jl _) h
  | _=>cases an <;> cases h
 | _=>cases an <;> cases h
theorem F1 {id:Nat} {p:D.T pk.d} {ow:bE D} {Q:bF} (h:yB E n pk p ow Q):yB E n pk p ow (Exit.inBlock id Q):=fun ho=>Fin.bY (h ho)
theorem Ej {id:Nat} {c:Code} (hc:Sound B0 L G E n fr F c):Sound B0 L G E n fr F (.block id c):=by
 intro X an hh lcks s K W Wp r Q h hK hW hP
 have hh:ix B0 L G fr c an:=by cases an <;> exact hh
 have h':gH B0 L G fr F c an lcks s K (fun t s=>if t = some id then K s else W t s) Wp = some r:=by cases an <;> exact h
 refine ah.block (hc an hh lcks s K _ _ r _ h' (fun s' he h1=>Fin.bD (hK s' he h1)) (fun t s' he h1=>?_) (fun p ow h1=>F1 (hP p ow h1)))
 split at h1
 ·next e=>subst e; exact Fin.cJ (hK s' he h1)
 ·next e=>
  cases t with
  | none=>exact Fin.qF (hW _ s' he h1)
  | some i=>exact Fin.eZ (fun e'=>e (by rw [e'])) (hW _ s' he h1)
theorem CL {id:Nat} {os:Array Oper} {f:Bool} (hn:n.n = fr.n) (hf:n.fix = fr.fx) (hG:EV P TB G):Sound B0 L G E n fr F (.region id os f):=by
 intro X an hh lcks s K W Wp r Q h hK hW hP
 cases f with
 | true=>
  cases an with
  | hY l tl fz=>
   simp only [gH] at h
   obtain ⟨s1,e1,h⟩:=aJ h
   obtain ⟨hx0,hr0⟩:=y4 (E:=E) (n:=n) e1
   split at h
   ·next hok=>
    obtain ⟨h1,h2,h3⟩:=F3 (P:=P) (E:=E) (n:=n) (lk0:=lcks) hok
    obtain ⟨os⟩:=os
    have hmain:=ah.ofA (id:=id) B0.mx (Jv (Q:=Q) (K:=fun s=>K (clean s)) hn hf hG h1 h2 (fun s' he h4=>fun a w hr=>hK _ (hx0.trans (he.trans BR)) h4 a w (Hm hr)) (fun p ow hp=>hP p ow hp) h3 h)
    exact fun a w hr=>hmain a w (hr0 a w hr)
   ·cases h
  | lin pi po ki ks d f=>
   obtain ⟨os⟩:=os
   simp only [gH] at h
   split at h
   ·next hd=>
    split at h
    ·next hok=>
     rw [Bool.and_eq_true] at hok
     obtain ⟨hpi,hok⟩:=hok
     obtain ⟨z0,hz0,h1⟩:=aJ h
     obtain ⟨v,hv,h1⟩:=aJ h1
     obtain ⟨deps,hdp,hall⟩:=hh
     have hmain:=ah.lin (P:=P) (E:=E) (n:=n) (Q:=Q) (id:=id) (os:=os) (s:=(Ii pi ki z0).st) B0.mx hdp fun σ hσ=>by
      have hrun:=hall z0 v hv hd σ hσ
      refine wV hn hf hG (fun p ow e=>?_) hrun fun s' he e=>?_
      ·cases v with
       | inl z=>cases e
       | inr p0=>
        cases e
        exact (hP _ _ h1).less Gk
      ·split at e
       ·next hp=>
        obtain ⟨z,hz,e1⟩:=aJ e
        cases v with
        | inr p0=>cases e1
        | inl zz=>
         cases e1
         exact fun a w hR=>hK _ (shp_ext hpi hok) h1 a w (zg hp hz hR)
       ·cases e
     exact fun a w hr=>hmain a w (zg hpi hz0 hr)
    ·cases h
   ·cases h
  | _=>cases h
 | false=>
  have h':ops B0 L G fr lcks os.toList os.toList s (fun s=>K (clean s)) Wp = some r:=by cases an <;> exact h
  obtain ⟨l⟩:=os
  refine ah.ab (wV hn hf hG (fun p ow hp=>hP p ow hp) h' fun s' he h1=>?_)
  intro a w hr
  exact hK _ (he.trans BR) h1 a w (Hm hr)
theorem iw (hn:n.n = fr.n) (hf:n.fix = fr.fx) (hG:EV P TB G):∀ c:Code,Sound B0 L G E n fr F c
 | .skip=>fun an hh lcks s K W Wp r Q h hK hW hP=>ah.skip (hK s .refl (by cases an <;> exact h))
 | .region _ _ _=>CL hn hf hG
 | .seq a b=>HN (iw hn hf hG a) (iw hn hf hG b)
 | .cond _ a b=>FG (iw hn hf hG a) (iw hn hf hG b)
 | .block _ c=>Ej (iw hn hf hG c)
 | .loop c=>FF (iw hn hf hG c)
 | .exit i=>fun an hh lcks s K W Wp r Q h hK hW hP=>ah.exit (hW (some i) s .refl (by cases an <;> exact h))
 | .ret=>fun an hh lcks s K W Wp r Q h hK hW hP=>ah.ret (hW none s .refl (by cases an <;> exact h))
 | .scope c=>fun an hh lcks s K W Wp r Q h hK hW hP=>by cases an <;> cases h
 | .label _=>fun an hh lcks s K W Wp r Q h hK hW hP=>by cases an <;> cases h
 | .goto _=>fun an hh lcks s K W Wp r Q h hK hW hP=>by cases an <;> cases h
 | .rangeFunc _ _ _ _=>fun an hh lcks s K W Wp r Q h hK hW hP=>by cases an <;> cases h
 | .refuse _=>fun an hh lcks s K W Wp r Q h hK hW hP=>by cases an <;> cases h
theorem lin_all {os:List Oper} {pi po:List (Nat × Nat)} {ki ks:List (Pl D)} {f:PT D ki → Option (PT D ks ⊕ D.T pk.d)} (deps:List (List Nat)) (hd:os.map bl = deps) (f2:List Nat → PT D ki → Option (PT D ks ⊕ D.T pk.d)) (h2:∀ σ z,f2 σ z = f z)
  (h:∀ z0,(p5 deps os.length os.length 0).map (fun σ=>ops B0 L G fr ⟨[],[],[]⟩ os (σ.filterMap fun i=>os[i]?) (Ii pi ki z0) (fun s'=>if p6 s' po = true then (Dd s' ks).bind fun z=>some (Sum.inl z:PT D ks ⊕ D.T pk.d) else none) (fun p _=>some (.inr p))) = (p5 deps os.length os.length 0).map fun σ=>f2 σ z0):Dw B0 L G fr os pi po ki ks pk.d f:=by
 refine ⟨deps,hd,fun z0 r hr hpk σ hσ=>?_⟩
 have h3:=List.map_inj_left.1 (h z0) σ hσ
 rw [h3,h2,hr]
 cases r <;> rfl
end
end Go.Dn
namespace Go.Dn
open Go Go.Sk
set_option linter.unusedVariables false
set_option linter.unusedSimpArgs false
set_option linter.unusedSectionVars false
variable {D:Dt}
def B7:Nat → (l:List (AK D)) → List (T0 D) → HT D (Ga l) → List (Nat × TS D)
 | i,.d d :: l,kx,h=>(i,.n (.d d h.1)) :: B7 (i + 1) l kx h.2
 | i,.k :: l,x :: kx,h=>(i,.n x) :: B7 (i + 1) l kx h
 | _,_,_,_=>[]
theorem CJ:∀ {l:List (AK D)} {i:Nat} {kx:List (T0 D)} {h:HT D (Ga l)},fI i (kL l kx h) = od [] (B7 i l kx h)
 | [],i,kx,h=>rfl
 | .d d :: l,i,kx,h=>by simp only [kL,fI,B7,od,List.map_cons]; rw [CJ]; rfl
 | .k :: l,i,x :: kx,h=>by simp only [kL,fI,B7,od,List.map_cons]; rw [CJ]; rfl
 | .k :: l,i,[],h=>rfl
def ofH:(l:List (DT D.σ)) → HT D l → xL D l
 | [],_=>()
 | [d],h=>h.1
 | d :: e :: l,h=>(h.1,ofH (e :: l) h.2)
theorem GJ:∀ {l:List (DT D.σ)} {h:HT D l},toH l (ofH l h) = h
 | [],_=>rfl
 | [d],_=>rfl
 | d :: e :: l,h=>by
  show (h.1,toH (e :: l) (ofH (e :: l) h.2)) = h
  rw [GJ]
def Ds (d:DT D.σ):(l:List (DT D.σ)) → V D d → xL D l → xL D (d :: l)
 | [],v,_=>v
 | _ :: _,v,t=>(v,t)
theorem JX {d:DT D.σ}:∀ {rs ls:List (DT D.σ)} {a:V D d} {b:xL D (rs ++ ls)},BW (d :: rs) ls (Ds d (rs ++ ls) a b) = (Ds d rs a (BW rs ls b).1,(BW rs ls b).2)
 | [],[],_,_=>rfl
 | [],_ :: _,_,_=>rfl
 | _ :: _,_,_,_=>rfl
theorem Kc {d:DT D.σ}:∀ {rs:List (DT D.σ)} {a:V D d} {b:xL D rs},yz (d :: rs) (Ds d rs a b) = .d d a :: yz rs b
 | [],_,_=>rfl
 | _ :: _,_,_=>rfl
section
variable {P:Program} [DecidableEq D.σ] {TB:aF} (B0:Tb P D TB) (L:Lay D)
def rvG (s:bE D) (d:DT D.σ):ResultVar → Option (V D d)
 | .tmp t=>(vl s t).bind (gl d)
 | .cell t T=>if B0.ty T = some d then (vl s t).bind fun x=>(match x with
  | .p (.ptr k o)=>(lk s.own k).bind fun c=>(match c with
   | .box _ d0 v=>pz L d d0 v o
   | _=>none)
  | _=>none) else none
def Hx (s:bE D):(rs:List (DT D.σ)) → List ResultVar → (ls:List (DT D.σ)) → Option (HT D ls) → Option (xL D (rs ++ ls))
 | [],[],ls,m=>m.bind fun h=>some (ofH ls h)
 | d :: rs,v :: vs,ls,m=>(rvG B0 L s d v).bind fun a=>(Hx s rs vs ls m).bind fun b=>some (Ds d (rs ++ ls) a b)
 | _,_,_,_=>none
end
section
variable {P:Program} [DecidableEq D.σ] {pk:PK D} {TB:aF} {B0:Tb P D TB} {L:Lay D} {E:Env TB} {n:Sh} {s:bE D} {G:List (bJ D pk)} {F:Nat}
theorem E8 {t:Nat} {x:T0 D} (h:vl s t = some x):s.st.get t = some (.b x.bv):=by
 show lk (od s.Γ s.sl) t = _
 rw [yZ]
 unfold vl at h
 split at h
 ·next y hy=>cases h; rw [hy]; rfl
 ·next i hi=>
  split at h
  ·next b hb=>cases h; rw [hi]; simp only [Option.map_some,TS.sv,hb]; rfl
  ·cases h
 ·cases h
theorem rvG_ok {d:DT D.σ} {rv:ResultVar} {v:V D d} (h:rvG B0 L s d rv = some v):pC P s.st rv (iC D d v):=by
 cases rv with
 | tmp t=>
  obtain ⟨x,hx,hc⟩:=aJ h
  cases df hc
  exact .tmp (E8 hx)
 | cell t T=>
  simp only [rvG] at h
  split at h
  ·next ht=>
   have ht:=B0.tok _ _ ht
   obtain ⟨x,hx,h1⟩:=aJ h
   split at h1
   ·next k o=>
    obtain ⟨c,hc,h2⟩:=aJ h1
    split at h2
    ·next T' d0 u=>
     have hk:lk s.st.own k = some (.box T' (enc D d0 u)):=by show lk (bq s.own) k = _; rw [oh,hc]; rfl
     have hp:=oO h2
     cases ha:agg d with
     | true=>rw [lg ha]; exact .agg (xM ht ha) (E8 hx) hk hp ca
     | false=>
      obtain ⟨p,e1,e2⟩:=ky (v:=v) ha
      rw [e1]
      rw [p8 ha,e2] at hp
      exact .one (py ht ha) (E8 hx) hk (zf hp)
    ·cases h2
   ·cases h1
  ·cases h
theorem Hh:∀ {rs:List (DT D.σ)} {vs:List ResultVar} {ls:List (DT D.σ)} {m:Option (HT D ls)} {r:xL D (rs ++ ls)},Hx B0 L s rs vs ls m = some r → m = some (BW rs ls r).2 ∧ aQ (pC P s.st) vs ((yz rs (BW rs ls r).1).map T0.bv)
 | [],[],ls,m,r,h=>by
  obtain ⟨a,ha,h1⟩:=aJ h
  cases h1
  refine ⟨?_,.nil⟩
  rw [ha]
  exact congrArg some (GJ).symm
 | d :: rs,v :: vs,ls,m,r,h=>by
  simp only [Hx] at h
  obtain ⟨a,ha,h1⟩:=aJ h
  obtain ⟨b,hb,h2⟩:=aJ h1
  cases h2
  obtain ⟨h3,h4⟩:=Hh hb
  rw [JX,Kc]
  exact ⟨h3,.cons (rvG_ok ha) h4⟩
 | [],_ :: _,_,_,r,h=>by simp [Hx] at h
 | _ :: _,[],_,_,r,h=>by simp [Hx] at h
theorem res_sv:∀ {rs:List (DT D.σ)} {r:xL D rs},(zd rs r).sv [] = vq ((yz rs r).map T0.bv)
 | [],_=>rfl
 | [_],_=>rfl
 | _ :: _ :: [],_=>rfl
 | _ :: _ :: _ :: _,_=>rfl
def done (ks:List Nat) (s:bE D):bE D:=E2 ((s.own.map (·.1)).filter fun k=>!ks.contains k) s
theorem zX {j:Nat} {c:TO D}:∀ {ks:List Nat} {s:bE D},(∀ k ∈ ks,BZ k c = false ∧ j ≠ k) → lk s.own j = some c → lk (E2 ks s).own j = some c
 | [],s,_,h=>h
 | k :: ks,s,hc,h=>by
  have hr:=fun k' hk'=>hc k' (List.mem_cons_of_mem _ hk')
  obtain ⟨h1,h2⟩:=hc k List.mem_cons_self
  unfold E2
  split
  ·next hk=>
   refine zX (ks:=ks) hr (xp (by simp [h1]) ?_)
   rw [ml h2]
   exact h
  ·exact zX (ks:=ks) hr h
theorem my {fo:Bool} {j:Nat}:∀ {ks:List Nat} {ls:List (LK D)} {l:HT D (wR ls)},j ∉ ks → ∀ p ∈ b5 fo ks ls l,BZ j p.2 = false
 | k :: ks,.b T t :: ls,l,hk,p,h=>by
  rcases List.mem_cons.1 h with e | e
  ·subst e; rfl
  ·exact my (ks:=ks) (ls:=ls) (l:=l.2) (fun hj=>hk (List.mem_cons_of_mem _ hj)) p e
 | k :: ks,.ms t es :: ls,l,hk,p,h=>by
  rcases List.mem_cons.1 h with e | e
  ·subst e; rfl
  ·exact my (ks:=ks) (ls:=ls) (l:=l) (fun hj=>hk (List.mem_cons_of_mem _ hj)) p e
 | k :: ks,.mi ik t es :: ls,l,hk,p,h=>by
  rcases List.mem_cons.1 h with e | e
  ·subst e; rfl
  ·exact my (ks:=ks) (ls:=ls) (l:=l) (fun hj=>hk (List.mem_cons_of_mem _ hj)) p e
 | k :: ks,.r T t :: ls,l,hk,p,h=>by
  rcases List.mem_cons.1 h with e | e
  ·subst e; rfl
  ·exact my (ks:=ks) (ls:=ls) (l:=l.2) (fun hj=>hk (List.mem_cons_of_mem _ hj)) p e
 | k :: ks,.x T i :: ls,l,hk,p,h=>by
  rcases List.mem_cons.1 h with e | e
  ·subst e
   have:F8 k ks ≠ j:=fun e=>hk (e ▸ Cy)
   simp [BZ,this]
  ·exact my (ks:=ks) (ls:=ls) (l:=l.2) (fun hj=>hk (List.mem_cons_of_mem _ hj)) p e
 | k :: ks,.cp T :: ls,l,hk,p,h=>by
  rcases List.mem_cons.1 h with e | e
  ·subst e; rfl
  ·exact my (ks:=ks) (ls:=ls) (l:=l) (fun hj=>hk (List.mem_cons_of_mem _ hj)) p e
 | [],_,_,_,p,h=>by cases h
 | _ :: _,[],_,_,p,h=>by cases h
theorem Fin.kq {fn:Func} {post:dQ} {e:Exit} {rs:List ResultVar} {st:St} (own':List (Nat × OC)) (zs:List BV) (he:e = .ret ∨ e = .normal) (hrs:fn.results.toList = rs) (hr:aQ (pC P st) rs zs) (hsub:∀ p ∈ own',p ∈ st.own) (hp:post own' (vq zs)):Fin E n e st (yP P fn E n post):=by
 intro a w ⟨h1,h2,h,ρ,hw,hs⟩
 obtain ⟨v,hv,hrel⟩:=pJ (fn:=fn) (hrs ▸ hr) hw hs
 have:a.defers = n.dfs ∧ ∃ v,(∀ w₂,bI w w₂ → (results fn a.tmps).run P w₂ = .ok v w₂) ∧ iD E n post (.returned v) w:=⟨h1,v,hv,v,own',_,h,ρ,rfl,hp,hw.sub hsub,hrel⟩
 rcases he with rfl | rfl <;> exact this
def inC {Y:Type}:(pn:Bool) → Y → CR pk pn Y
 | true,v=>.inl v
 | false,v=>v
def wpn {Y:Type}:(pn:Bool) → D.T pk.d → Option (CR pk pn Y)
 | true,p=>some (.inr p)
 | false,_=>none
theorem G5 {Y:Type}:∀ {pn:Bool} {v:Y},EZ (inC (pk:=pk) pn v) = .inl v
 | true,_=>rfl
 | false,_=>rfl
theorem GD {Y:Type} {pn:Bool} {p:D.T pk.d} {z:CR pk pn Y} (h:wpn pn p = some z):EZ z = .inr p:=by
 cases pn with
 | true=>cases h; rfl
 | false=>cases h
def endL (fo:Bool) (s:bE D) (ks:List Nat):(ro:Bool) → (ls:List (LK D)) → Option (HT D (AQ ro ls))
 | true,_=>some ()
 | false,ls=>De fo s.own ks ls
def lkd:Bool → List Nat → List Nat
 | true,ks=>ks
 | false,_=>[]
def impE (own:List (Nat × TO D)):List Nat → List (LK D) → List Nat
 | k :: ks,.b _ _ :: ls=>(match lk own k with
  | some (.x _ _ _ _ _ _)=>k :: impE own ks ls
  | _=>impE own ks ls)
 | _ :: ks,_ :: ls=>impE own ks ls
 | _,_=>[]
def ret (B0:Tb P D TB) (L:Lay D) (con:bJ D pk) (fn:Func) (s:bE D):Option (CR pk con.pn (xL D (con.rs ++ AQ con.ro con.ls))):=(E0 L ⟨[],lkd (con.ro && !con.dp) con.ks,[]⟩ (impE s.own con.ks con.ls) s).bind fun s=>(Hx B0 L (done con.ks s) con.rs fn.results.toList (AQ con.ro con.ls) (endL con.fo (done con.ks s) con.ks con.ro con.ls)).bind fun v=>some (inC con.pn v)
theorem lk_lown {fo:Bool} {ks:List Nat} {ls:List (LK D)} {l:HT D (wR ls)} (hn:ks.Nodup ∧ ks.length = ls.length):∀ p ∈ b5 fo ks ls l,lk (b5 fo ks ls l) p.1 = some p.2 ∧ IK p.2 = true:=by
 intro p hp
 have e:(b5 fo ks ls l).map (·.1) = ks:=by
  have:=dj (fo:=fo) (l:=l) hn.2
  rw [mz] at this
  exact this
 exact ⟨iL (by rw [e]; exact hn.1) hp,qV hp⟩
theorem CG {con:bJ D pk} {fn:Func} {c:Code} (m:Nat) (hgo:dw P con.f) (hf:P.funcs[con.f]? = some fn) (hm:fn.ntmps = m) (hb:fn.body = some c) (hl:con.ar.length ≤ m) (hnd:(gp con.ks && (con.ks.length == con.ls.length) && !(con.ro && con.fo)) = true) (hG:EV P TB G) (an:An D) (rw:List Nat) (F:Nat)
  (h:∀ a l,gH B0 L G ⟨m,Ie con.ks con.ls,rw⟩ F c an ⟨[],lkd (con.ro && !con.dp) con.ks,[]⟩ ⟨B7 0 con.ar con.kx a,b5 false con.ks con.ls l,[]⟩ (ret B0 L con fn) (fun t s=>match t with | none=>ret B0 L con fn s | some _=>none) (fun p _=>wpn con.pn p) = con.val a l) (hh:ix B0 L G ⟨m,Ie con.ks con.ls,rw⟩ c an):av P TB con:=by
 simp only [Bool.and_eq_true,beq_iff_eq,Bool.not_eq_true'] at hnd
 have hrf:con.ro = true → con.fo = false:=fun e=>by
  have:=hnd.2
  rw [e] at this
  simpa using this
 have hnd:con.ks.Nodup ∧ con.ks.length = con.ls.length:=⟨mv hnd.1.1,hnd.1.2⟩
 refine ⟨hgo,hnd,fun x l r hr=>?_⟩
 have hlen:∀ {l:List (AK D)} {kx:List (T0 D)} {h:HT D (Ga l)},(kL l kx h).length ≤ l.length:=by
  intro l
  induction l with
  | nil=>intro kx h; exact Nat.le_refl _
  | cons d l ih=>
   cases d with
   | d t=>intro kx h; simp only [kL,List.length_cons]; exact Nat.succ_le_succ ih
   | k=>
    intro kx h
    cases kx with
    | nil=>exact Nat.zero_le _
    | cons x kx=>simp only [kL,List.length_cons]; exact Nat.succ_le_succ ih
 have hst:(⟨fI 0 (kL con.ar con.kx x),bq (b5 false con.ks con.ls l)⟩:St) = (⟨B7 0 con.ar con.kx x,b5 false con.ks con.ls l,[]⟩:bE D).st:=by rw [CJ]; rfl
 have hd:=(h x l).trans hr
 cases ho:EZ r with
 | inl y=>
  refine aG.intro m hf hm hb (Nat.le_trans hlen hl) fun E=>?_
  have hfin:∀ (e:Exit),e = .ret ∨ e = .normal → ∀ s':bE D,Ext [] (lkd (con.ro && !con.dp) con.ks) ⟨B7 0 con.ar con.kx x,b5 false con.ks con.ls l,[]⟩ s' → ret B0 L con fn s' = some r → Fin E ⟨m,aq (bq (b5 false con.ks con.ls l)),ai (bq (b5 false con.ks con.ls l)),[]⟩ e s'.st (yP P fn E ⟨m,aq (bq (b5 false con.ks con.ls l)),ai (bq (b5 false con.ks con.ls l)),[]⟩ (Is (if con.dp = true then [] else bq (b5 con.fo con.ks con.ls (E5 con.ro con.ls l (BW con.rs (AQ con.ro con.ls) y).2))) ((zd con.rs (BW con.rs (AQ con.ro con.ls) y).1).sv []))):=by
   intro e he s9 hx9 hf9 a w hR9
   obtain ⟨s',hi,hf'⟩:=aJ hf9
   obtain ⟨e9,r9⟩:=vD (E:=E) (n:=⟨m,aq (bq (b5 false con.ks con.ls l)),ai (bq (b5 false con.ks con.ls l)),[]⟩) hi
   have hx:=hx9.trans e9
   have hR:=r9 a w hR9
   obtain ⟨v,hv,e1⟩:=aJ hf'
   cases e1
   rw [G5] at ho
   cases ho
   obtain ⟨h3,h4⟩:=Hh hv
   refine Fin.kq (st:=(done con.ks s').st) (if con.dp = true then [] else bq (b5 con.fo con.ks con.ls (E5 con.ro con.ls l (BW con.rs (AQ con.ro con.ls) y).2))) _ he rfl h4 (fun p hp=>?_) ⟨rfl,res_sv.symm⟩ a w (Fo hR)
   split at hp
   ·cases hp
   next hdp=>
   have hdp:con.dp = false:=by simpa using hdp
   obtain ⟨q,hq,e2⟩:=List.mem_map.1 hp
   obtain ⟨k,c⟩:=q
   subst e2
   refine List.mem_map.2 ⟨(k,c),bh ?_,rfl⟩
   cases hro:con.ro with
   | false=>
    have h5:∀ {ro:Bool} {z:HT D (AQ ro con.ls)},ro = false → endL con.fo (done con.ks s') con.ks ro con.ls = some z → ∀ p ∈ b5 con.fo con.ks con.ls (E5 ro con.ls l z),lk (done con.ks s').own p.1 = some p.2:=by
     intro ro z e h; subst e; exact qY h
    exact h5 hro h3 _ hq
   | true=>
    have h5:∀ {ro:Bool} {z:HT D (AQ ro con.ls)},ro = true → E5 ro con.ls l z = l:=by
     intro ro z e; subst e; rfl
    rw [h5 hro,hrf hro] at hq
    obtain ⟨h6,h7⟩:=lk_lown hnd _ hq
    have hk:k ∈ lkd (con.ro && !con.dp) con.ks:=by
     rw [hro,hdp]
     have:=dj (fo:=false) (l:=l) hnd.2
     rw [mz] at this
     show k ∈ con.ks
     rw [← this]
     exact List.mem_map.2 ⟨_,hq,rfl⟩
    refine zX (fun j hj=>?_) (hx.ow k hk _ h6)
    have hj2:j ∉ con.ks:=by simpa using (List.mem_filter.1 hj).2
    refine ⟨my hj2 _ hq,fun e=>hj2 ?_⟩
    subst e
    rw [hro,hdp] at hk
    exact hk
  rw [hst]
  refine iw (n:=⟨m,aq (bq (b5 false con.ks con.ls l)),ai (bq (b5 false con.ks con.ls l)),[]⟩) (fr:=⟨m,Ie con.ks con.ls,rw⟩) rfl js hG c an hh ⟨[],lkd (con.ro && !con.dp) con.ks,[]⟩ _ _ _ _ r _ hd (fun s' hx h'=>hfin _ (.inr rfl) s' hx h') (fun t s' hx h'=>?_) (fun p ow hp=>?_)
  ·cases t with
   | none=>exact hfin _ (.inl rfl) s' hx h'
   | some i=>cases h'
  ·rw [GD hp] at ho; cases ho
 | inr p=>
  show gJ P TB con.f _ _ _ _
  refine eH.intro m hf hm hb (Nat.le_trans hlen hl) fun E=>?_
  rw [hst]
  have hno:∀ {C:Prop} {s':bE D},ret B0 L con fn s' = some r → C:=by
   intro C s' hf'
   obtain ⟨s9,_,hf2⟩:=aJ hf'
   obtain ⟨v,hv,e1⟩:=aJ hf2
   cases e1
   rw [G5] at ho
   cases ho
  refine iw (n:=⟨m,aq (bq (b5 false con.ks con.ls l)),ai (bq (b5 false con.ks con.ls l)),[]⟩) (fr:=⟨m,Ie con.ks con.ls,rw⟩) rfl js hG c an hh ⟨[],lkd (con.ro && !con.dp) con.ks,[]⟩ _ _ _ _ r _ hd (fun s' hx h'=>hno h') (fun t s' hx h'=>?_) (fun p' ow hp=>?_)
  ·cases t with
   | none=>exact hno h'
   | some i=>cases h'
  ·rw [GD hp] at ho
   cases ho
   exact fun hok=>Fin.qb ⟨rfl,hok⟩
theorem ak {con:bJ D pk} {fn:Func} {c:Code} (m:Nat) (hgo:dw P con.f) (hf:P.funcs[con.f]? = some fn) (hm:fn.ntmps = m) (hb:fn.body = some c) (hl:con.ar.length ≤ m) (hnd:(gp con.ks && (con.ks.length == con.ls.length) && !(con.ro && con.fo)) = true) (hG:EV P TB G) (an:An D) (rw:List Nat) (F:Nat)
  (h:∀ a l,gH B0 L G ⟨m,Ie con.ks con.ls,rw⟩ F c an ⟨[],lkd (con.ro && !con.dp) con.ks,[]⟩ ⟨B7 0 con.ar con.kx a,b5 false con.ks con.ls l,[]⟩ (ret B0 L con fn) (fun t s=>match t with | none=>ret B0 L con fn s | some _=>none) (fun p _=>wpn con.pn p) = con.val a l) (hh:mj an = true:=by rfl):av P TB con:=CG m hgo hf hm hb hl hnd hG an rw F h (bS c hh)
end
end Go.Dn
namespace Go.Dn
open Go Go.Sk
theorem aa {h:PH} {k:IntKind}:(CP.int k 0).rel h (.int k 0):=⟨rfl,by cases k <;> exact ⟨by decide,by decide⟩⟩
theorem bc {h:PH}:(CP.bool false).rel h (.bool false):=rfl
theorem dL {h:PH}:(CP.str []).rel h (.string ⟨⟨[]⟩⟩):=⟨rfl,by decide⟩
theorem qt {h:PH} {n:Nat} (hn:0 < n):(CP.sl n []).rel h (.slice none 0 0):=ZC.cB hn h _ ⟨rfl,rfl⟩
def tyL {D:Dt}:List (TypeId × DT D.σ) → TypeId → Option (DT D.σ)
 | [],_=>none
 | p :: l,t=>if t = p.1 then some p.2 else tyL l t
def tyA (P:Program) {D:Dt}:List (TypeId × DT D.σ) → Prop
 | []=>True
 | p :: l=>yA P D p.1 p.2 ∧ tyA P l
theorem I1 {P:Program} {D:Dt}:∀ {l:List (TypeId × DT D.σ)},tyA P l → ∀ t d,tyL l t = some d → yA P D t d
 | [],_,t,d,h=>by simp [tyL] at h
 | p :: l,ha,t,d,h=>by
  unfold tyL at h
  split at h
  ·next e=>subst e; cases h; exact ha.1
  ·exact I1 ha.2 t d h
def zA (P:Program) {D:Dt}:List (TypeId × DT D.σ) → Prop
 | []=>True
 | p :: l=>TyZ P p.1 (enc D p.2 (zv D p.2)) ∧ zA P l
theorem zL_ok {P:Program} {D:Dt}:∀ {l:List (TypeId × DT D.σ)},zA P l → ∀ t d,tyL l t = some d → TyZ P t (enc D d (zv D d))
 | [],_,t,d,h=>by simp [tyL] at h
 | p :: l,ha,t,d,h=>by
  unfold tyL at h
  split at h
  ·next e=>subst e; cases h; exact ha.1
  ·exact zL_ok ha.2 t d h
structure FE where
 t:TypeId
 j:Nat
 o:Nat
 ft:TypeId
def foL:List FE → TypeId → Nat → Option (Nat × TypeId)
 | [],_,_=>none
 | p :: l,t,j=>if t = p.t ∧ j = p.j then some (p.o,p.ft) else foL l t j
def foA (P:Program):List FE → Prop
 | []=>True
 | p :: l=>eF P p.t p.j p.o p.ft ∧ foA P l
theorem Jq {P:Program}:∀ {l:List FE},foA P l → ∀ t j o ft,foL l t j = some (o,ft) → eF P t j o ft
 | [],_,t,j,o,ft,h=>by simp [foL] at h
 | p :: l,ha,t,j,o,ft,h=>by
  unfold foL at h
  split at h
  ·next e=>obtain ⟨rfl,rfl⟩:=e; cases h; exact ha.1
  ·exact Jq ha.2 t j o ft h
structure EqE (D:Dt) where
 t:TypeId
 i:D.σ
 f:D.T i → D.T i → Bool
section
variable {P:Program} {D:Dt} [DecidableEq D.σ]
def eqL:List (EqE D) → TypeId → (i:D.σ) → Option (D.T i → D.T i → Bool)
 | [],_,_=>none
 | p :: l,t,i=>if h:p.i = i then (if t = p.t then some (h ▸ p.f) else eqL l t i) else eqL l t i
def eqA (P:Program):List (EqE D) → Prop
 | []=>True
 | p :: l=>(∀ a b,iF P p.t (D.e p.i a) (D.e p.i b) (p.f a b)) ∧ eqA P l
theorem Ft:∀ {l:List (EqE D)},eqA P l → ∀ t i f,eqL l t i = some f → ∀ a b,iF P t (D.e i a) (D.e i b) (f a b)
 | [],_,t,i,f,h=>by simp [eqL] at h
 | p :: l,ha,t,i,f,h=>by
  unfold eqL at h
  split at h
  ·next e=>
   split at h
   ·next e2=>subst e e2; cases h; exact ha.1
   ·exact Ft ha.2 t i f h
  ·exact Ft ha.2 t i f h
structure ElE (D:Dt) where
 t:TypeId
 d:DT D.σ
 e:TypeId
 b:Nat
def elL:List (ElE D) → TypeId → DT D.σ → Option (TypeId × Nat)
 | [],_,_=>none
 | p :: l,t,d=>if t = p.t ∧ d = p.d then some (p.e,p.b) else elL l t d
def elA (P:Program):List (ElE D) → Prop
 | []=>True
 | p :: l=>(∃ zs,kV P p.t p.e (sz D p.d) p.b zs ∧ aQ ZC zs (enc D p.d (zv D p.d))) ∧ elA P l
theorem Jt:∀ {l:List (ElE D)},elA P l → ∀ t d e b,elL l t d = some (e,b) → ∃ zs,kV P t e (sz D d) b zs ∧ aQ ZC zs (enc D d (zv D d))
 | [],_,t,d,e,b,h=>by simp [elL] at h
 | p :: l,ha,t,d,e,b,h=>by
  unfold elL at h
  split at h
  ·next e2=>obtain ⟨rfl,rfl⟩:=e2; cases h; exact ha.1
  ·exact Jt ha.2 t d e b h
structure BlE (D:Dt) where
 t:TypeId
 i:D.σ
 pl:List (Nat × Nat)
def blL:List (BlE D) → TypeId → Option (D.σ × List (Nat × Nat))
 | [],_=>none
 | p :: l,t=>if t = p.t then some (p.i,p.pl) else blL l t
def blA (P:Program):List (BlE D) → Prop
 | []=>True
 | p :: l=>(qC P p.t p.pl (D.e p.i (D.z p.i)) ∨ ∃ size,tL P p.t size (D.e p.i (D.z p.i)) ∧ ∀ j q,p.pl[j]? = some q → q = (j * size,size)) ∧ blA P l
set_option linter.unusedSectionVars false in
theorem JF:∀ {l:List (BlE D)},blA P l → ∀ t i pl,blL l t = some (i,pl) → qC P t pl (D.e i (D.z i)) ∨ ∃ size,tL P t size (D.e i (D.z i)) ∧ ∀ j q,pl[j]? = some q → q = (j * size,size)
 | [],_,t,i,pl,h=>by simp [blL] at h
 | p :: l,ha,t,i,pl,h=>by
  unfold blL at h
  split at h
  ·next e=>subst e; cases h; exact ha.1
  ·exact JF ha.2 t i pl h
structure TaE (D:Dt) where
 t:TypeId
 d:DT D.σ
 n:Nat
def taL:List (TaE D) → TypeId → Option (DT D.σ × Nat)
 | [],_=>none
 | p :: l,t=>if t = p.t then some (p.d,p.n) else taL l t
def taA (P:Program):List (TaE D) → Prop
 | []=>True
 | p :: l=>(∃ e,k7 P p.t e p.n (sz D p.d) ∧ yA P D e p.d) ∧ taA P l
set_option linter.unusedSectionVars false in
theorem I3:∀ {l:List (TaE D)},taA P l → ∀ t d n,taL l t = some (d,n) → ∃ e,k7 P t e n (sz D d) ∧ yA P D e d
 | [],_,t,d,n,h=>by simp [taL] at h
 | p :: l,ha,t,d,n,h=>by
  unfold taL at h
  split at h
  ·next e=>subst e; cases h; exact ha.1
  ·exact I3 ha.2 t d n h
theorem Cc {size n:Nat} {pl:List (Nat × Nat)} (h:pl = (List.range n).map fun j=>(j * size,size)):∀ j q,pl[j]? = some q → q = (j * size,size):=by
 intro j q hq
 subst h
 rw [List.getElem?_map] at hq
 obtain ⟨k,hk,e⟩:=Option.map_eq_some_iff.1 hq
 rw [List.getElem?_range] at hk
 ·cases hk; exact e.symm
 ·apply Classical.byContradiction
  intro hj
  rw [List.getElem?_eq_none (by simpa using hj)] at hk
  cases hk
structure MtE (D:Dt) where
 t:TypeId
 k:Option IntKind
 d:DT D.σ
def mtL:List (MtE D) → TypeId → Option (Option IntKind × DT D.σ)
 | [],_=>none
 | p :: l,t=>if t = p.t then some (p.k,p.d) else mtL l t
def mtA (P:Program):List (MtE D) → Prop
 | []=>True
 | p :: l=>(∃ kt et,P.underlying kt = some (match p.k with | none=>.string | some k=>.int k) ∧ sC P p.t kt et (iC D p.d (zv D p.d))) ∧ mtA P l
set_option linter.unusedSectionVars false in
theorem Je:∀ {l:List (MtE D)},mtA P l → ∀ t kk d,mtL l t = some (kk,d) → ∃ kt et,P.underlying kt = some (match kk with | none=>.string | some k=>.int k) ∧ sC P t kt et (iC D d (zv D d))
 | [],_,t,kk,d,h=>by simp [mtL] at h
 | p :: l,ha,t,kk,d,h=>by
  unfold mtL at h
  split at h
  ·next e=>subst e; cases h; exact ha.1
  ·exact Je ha.2 t kk d h
structure GsE (D:Dt) where
 g:Nat
 d:DT D.σ
 l:List (V D d)
def gsL:List (GsE D) → Nat → Option ((d:DT D.σ) × List (V D d))
 | [],_=>none
 | p :: l,g=>if g = p.g then some ⟨p.d,p.l⟩ else gsL l g
def gsA (TB:aF):List (GsE D) → Prop
 | []=>True
 | p :: l=>(∃ cs,(p.g,cs) ∈ TB ∧ (∀ h,aA h (p.l.map (enc D p.d)).flatten cs) ∧ p.l.length ≤ maxLen) ∧ gsA TB l
set_option linter.unusedSectionVars false in
theorem Jk {TB:aF}:∀ {l:List (GsE D)},gsA TB l → ∀ g d t,gsL l g = some ⟨d,t⟩ → ∃ cs,(g,cs) ∈ TB ∧ (∀ h,aA h (t.map (enc D d)).flatten cs) ∧ t.length ≤ maxLen
 | [],_,g,d,t,h=>by simp [gsL] at h
 | p :: l,ha,g,d,t,h=>by
  unfold gsL at h
  split at h
  ·next e=>subst e; cases h; exact ha.1
  ·exact Jk ha.2 g d t h
structure XzE (D:Dt) where
 t:TypeId
 q:XZ D
def xzL:List (XzE D) → TypeId → Option (XZ D)
 | [],_=>none
 | p :: l,t=>if t = p.t then some p.q else xzL l t
def xzA (P:Program):List (XzE D) → Prop
 | []=>True
 | p :: l=>HA P D p.t p.q ∧ xzA P l
set_option linter.unusedSectionVars false in
theorem IV:∀ {l:List (XzE D)},xzA P l → ∀ t q,xzL l t = some q → HA P D t q
 | [],_,t,q,h=>by simp [xzL] at h
 | p :: l,ha,t,q,h=>by
  unfold xzL at h
  split at h
  ·next e=>subst e; cases h; exact ha.1
  ·exact IV ha.2 t q h
theorem cpb:CP.bool false ≠ CP.bool true:=fun e=>by
 have h:(CP.bool false).rel (fun _ _=>none) (.bool false):=rfl
 rw [e] at h
 cases (show Value.bool false = Value.bool true from h)
def byL:List TypeId → TypeId → Bool
 | [],_=>false
 | p :: l,t=>t == p || byL l t
def byA (P:Program):List TypeId → Prop
 | []=>True
 | t :: l=>zx P t ∧ byA P l
theorem JD {P:Program}:∀ {l:List TypeId},byA P l → ∀ t,byL l t = true → zx P t
 | [],_,t,h=>by cases h
 | p :: l,ha,t,h=>by
  simp only [byL,Bool.or_eq_true,beq_iff_eq] at h
  rcases h with h | h
  ·subst h; exact ha.1
  ·exact JD ha.2 t h
def upL:List (TypeId × TypeId) → TypeId → Option TypeId
 | [],_=>none
 | p :: l,t=>if t = p.1 then some p.2 else upL l t
def upA (P:Program):List (TypeId × TypeId) → Prop
 | []=>True
 | p :: l=>(P.underlying p.1 = some (.pointer p.2) ∧ P.cellsOf p.2 = 1) ∧ upA P l
theorem IY {P:Program}:∀ {l:List (TypeId × TypeId)},upA P l → ∀ t e,upL l t = some e → P.underlying t = some (.pointer e) ∧ P.cellsOf e = 1
 | [],_,t,e,h=>by simp [upL] at h
 | p :: l,ha,t,e,h=>by
  unfold upL at h
  split at h
  ·next e2=>subst e2; cases h; exact ha.1
  ·exact IY ha.2 t e h
structure ClE (D:Dt) where
 f:FuncId
 e:TypeId
 d:DT D.σ
def clL:List (ClE D) → FuncId → Option (TypeId × DT D.σ)
 | [],_=>none
 | p :: l,f=>if f = p.f then some (p.e,p.d) else clL l f
def clA (P:Program) (TB:aF):List (ClE D) → Prop
 | []=>True
 | p :: l=>(dw P p.f ∧ ∀ (l r:List (V D p.d)),bV ([]:List (V D p.d)) l = some r → aG P TB p.f [] [iC D (.sl p.d) l] (Is [(0,.row p.e (sz D p.d) (r.map (enc D p.d)))] (.b (.row 0)))) ∧ clA P TB l
set_option linter.unusedSectionVars false in
theorem Jy {TB:aF}:∀ {l:List (ClE D)},clA P TB l → ∀ f q,clL l f = some q → dw P f ∧ ∀ l r,bV ([]:List (V D q.2)) l = some r → aG P TB f [] [iC D (.sl q.2) l] (Is [(0,.row q.1 (sz D q.2) (r.map (enc D q.2)))] (.b (.row 0)))
 | [],_,f,q,h=>by simp [clL] at h
 | p :: l,ha,f,q,h=>by
  unfold clL at h
  split at h
  ·next e=>subst e; cases h; exact ha.1
  ·exact Jy ha.2 f q h
def ccA (P:Program):List TypeId → Prop
 | []=>True
 | t :: l=>P.concrete t = true ∧ ccA P l
theorem JA:∀ {l:List TypeId},ccA P l → ∀ t,l.contains t = true → P.concrete t = true
 | [],_,t,h=>by simp at h
 | p :: l,ha,t,h=>by
  simp only [List.contains_cons,Bool.or_eq_true,beq_iff_eq] at h
  rcases h with h | h
  ·subst h; exact ha.1
  ·exact JA ha.2 t h
def mkTb {ty:List (TypeId × DT D.σ)} {fo:List FE} {eq:List (EqE D)} {el:List (ElE D)} {zt:List (TypeId × DT D.σ)} {bl:List (BlE D)} {ta:List (TaE D)} {mt:List (MtE D)} {TB:aF} {gs:List (GsE D)} {xz:List (XzE D)} {by_:List TypeId} {up:List (TypeId × TypeId)} {cl:List (ClE D)} {cc:List TypeId} (h1:tyA P ty) (h2:foA P fo) (h3:eqA P eq) (h4:elA P el) (h5:zA P zt) (h6:blA P bl) (h9:taA P ta) (h10:mtA P mt) (h11:gsA TB gs) (h12:xzA P xz) (h13:byA P by_) (h14:upA P up) (h15:clA P TB cl) (h7:P.follows .mixedOrders = true) (h8:ccA P cc):Tb P D TB :=
 ⟨tyL ty,I1 h1,foL fo,Jq h2,eqL eq,Ft h3,elL el,Jt h4,tyL zt,zL_ok h5,blL bl,JF h6,taL ta,I3 h9,mtL mt,Je h10,gsL gs,Jk h11,xzL xz,IV h12,byL by_,JD h13,upL up,IY h14,clL cl,Jy h15,h7,cc.contains,JA h8⟩
end
end Go.Dn
namespace Go.Dn
open Go Go.Sk
set_option linter.unusedVariables false
set_option linter.unusedSimpArgs false
set_option linter.unusedSectionVars false
variable {D:Dt} {pk:PK D}
def T0.sw (a b:Nat):T0 D → T0 D
 | .p x=>.p (x.gk (swp a b))
 | .ri k m i o=>.ri (swp a b k) m i o
 | .ap k off m i y o=>.ap (swp a b k) off m i y o
 | x=>x
def bJ.sw (a b:Nat) (c:bJ D pk):bJ D pk:={ c with kx:=c.kx.map (T0.sw a b),ks:=c.ks.map (swp a b) }
theorem oQ {f:Nat → Nat} {d:DT D.σ} {v:V D d}:(iC D d v).gk f = iC D d v:=by cases d <;> rfl
theorem T0.sw_bv {a b:Nat} {x:T0 D}:(x.sw a b).bv = x.bv.gk (swp a b):=by
 cases x with
 | d t v=>exact oQ.symm
 | _=>rfl
theorem vI {a b:Nat}:∀ {l:List (AK D)} {kx:List (T0 D)} {h:HT D (Ga l)},kL l (kx.map (T0.sw a b)) h = (kL l kx h).map (·.gk (swp a b))
 | [],kx,h=>rfl
 | .d t :: l,kx,h=>by simp only [kL,List.map_cons,vI (l:=l),oQ]
 | .k :: l,[],h=>rfl
 | .k :: l,x :: kx,h=>by simp only [kL,List.map_cons,vI (l:=l),T0.sw_bv]
theorem DF {f:Nat → Nat} {k kr:Nat} {fg:Bool}:∀ {l:List XC} {ps:List CP},(kW k kr fg l ps).map (·.gk f) = kW (f k) (f kr) fg l ps
 | [],_=>rfl
 | _ :: _,[]=>rfl
 | x :: l,p :: ps=>by
  simp only [kW,List.map_cons]
  rw [DF]
  congr 1
  cases x with
  | c=>rfl
  | sp=>simp only [iE]; split <;> rfl
  | r=>simp only [iE]; split <;> rfl
theorem G6 {f:Nat → Nat} {k:Nat} {ks:List Nat}:F8 (f k) (ks.map f) = f (F8 k ks):=by cases ks <;> rfl
theorem qc {fo:Bool} {a b:Nat}:∀ {ks:List Nat} {ls:List (LK D)} {l:HT D (wR ls)},bq (b5 fo (ks.map (swp a b)) ls l) = Sk.bq (swp a b) (bq (b5 fo ks ls l))
 | k :: ks,.b T t :: ls,l=>by
  have:=qc (fo:=fo) (a:=a) (b:=b) (ks:=ks) (ls:=ls) (l:=l.2)
  show (swp a b k,OC.box T _) :: bq (b5 fo (ks.map (swp a b)) ls l.2) = _
  rw [this]
  rfl
 | k :: ks,.ms t es :: ls,l=>by
  have:=qc (fo:=fo) (a:=a) (b:=b) (ks:=ks) (ls:=ls) (l:=l)
  show (swp a b k,(TO.ms t es:TO D).oc) :: bq (b5 fo (ks.map (swp a b)) ls l) = (swp a b k,(TO.ms t es:TO D).oc.gk _) :: _
  rw [this]
  congr 2
  show OC.mp _ = OC.mp _
  simp [vo,oQ]
 | k :: ks,.mi ik t es :: ls,l=>by
  have:=qc (fo:=fo) (a:=a) (b:=b) (ks:=ks) (ls:=ls) (l:=l)
  show (swp a b k,(TO.mi ik t es:TO D).oc) :: bq (b5 fo (ks.map (swp a b)) ls l) = (swp a b k,(TO.mi ik t es:TO D).oc.gk _) :: _
  rw [this]
  congr 2
  show OC.mp _ = OC.mp _
  simp [vo,oQ]
 | k :: ks,.r T t :: ls,l=>by
  have:=qc (fo:=fo) (a:=a) (b:=b) (ks:=ks) (ls:=ls) (l:=l.2)
  show (swp a b k,OC.row T _ _) :: bq (b5 fo (ks.map (swp a b)) ls l.2) = _
  rw [this]
  rfl
 | k :: ks,.x T i :: ls,l=>by
  have:=qc (fo:=fo) (a:=a) (b:=b) (ks:=ks) (ls:=ls) (l:=l.2)
  show (swp a b k,OC.ba T (kW (swp a b k) (F8 (swp a b k) (ks.map (swp a b))) fo _ _)) :: bq (b5 fo (ks.map (swp a b)) ls l.2) = (swp a b k,OC.ba T ((kW k (F8 k ks) fo _ _).map (·.gk (swp a b)))) :: _
  rw [this,DF,G6]
  rfl
 | k :: ks,.cp T :: ls,l=>by
  have:=qc (fo:=fo) (a:=a) (b:=b) (ks:=ks) (ls:=ls) (l:=l)
  show (swp a b k,OC.ba T [.ptr (F8 (swp a b k) (ks.map (swp a b))) 0]) :: bq (b5 fo (ks.map (swp a b)) ls l) = (swp a b k,OC.ba T [.ptr (swp a b (F8 k ks)) 0]) :: _
  rw [this,G6]
  rfl
 | [],_,_=>rfl
 | _ :: _,[],_=>rfl
theorem res_sw {f:Nat → Nat}:∀ {l:List (DT D.σ)} {v:xL D l},((zd l v).sv []).gk f = (zd l v).sv []:=by
 have h2:∀ (l:List (DT D.σ)) (v:xL D l),((yz l v).map T0.bv).map (·.gk f) = (yz l v).map T0.bv:=by
  intro l
  induction l with
  | nil=>intro v; rfl
  | cons d l ih=>
   intro v
   cases l with
   | nil=>show [(iC D d v).gk f] = [iC D d v]; rw [oQ]
   | cons e l=>
    have:=ih v.2
    simp only [yz,List.map_cons]
    rw [this]
    show (iC D d v.1).gk f :: _ = _
    rw [oQ]
    rfl
 intro l v
 match l,v with
 | [],v=>rfl
 | [d],v=>show SV.b ((iC D d v).gk f) = _; rw [oQ]; rfl
 | d :: e :: l,v=>show SV.kU _ = SV.kU _; rw [h2]
theorem av.sw {P:Program} {TB:aF} {c:bJ D pk} (h:av P TB c) (a b:Nat):av P TB (c.sw a b):=by
 obtain ⟨f,ar,kx,ks,ls,rs,ro,pn,dp,fo,val⟩:=c
 obtain ⟨h1,⟨h2,h3⟩,h4⟩:=h
 have hinj:∀ {i j:Nat},swp a b i = swp a b j → i = j:=fun {i j} e=>by have:=congrArg (swp a b) e; rwa [gK,gK] at this
 refine ⟨h1,⟨List.pairwise_map.2 (h2.imp fun hne e=>hne (hinj e)),by simpa [bJ.sw] using h3⟩,fun (x:HT D (Ga ar)) (l:HT D (wR ls)) (r:CR pk pn (xL D (rs ++ AQ ro ls))) hr=>?_⟩
 have:=h4 x l r hr
 simp only at this
 cases ho:EZ r with
 | inl y=>
  rw [ho] at this
  simp only [bJ.sw,ho]
  have h5:=aG.sw this a b
  rw [res_sw] at h5
  cases dp with
  | true=>
   simp only [if_true] at h5 ⊢
   rw [qc,vI]
   exact h5
  | false=>
   simp only [Bool.false_eq_true,if_false] at h5 ⊢
   rw [qc,qc,vI]
   exact h5
 | inr p=>
  rw [ho] at this
  simp only [bJ.sw,ho]
  have h5:=gJ.sw this a b
  rw [qc,vI]
  exact h5
theorem cH {P:Program} {TB:aF} {c:bJ D pk} (hgo:dw P c.f) (hnd:(gp c.ks && (c.ks.length == c.ls.length)) = true) (h:∀ a l,c.val a l = none):av P TB c:=by
 simp only [Bool.and_eq_true,beq_iff_eq] at hnd
 exact ⟨hgo,⟨mv hnd.1,hnd.2⟩,fun a l r hr=>by rw [h] at hr; cases hr⟩
theorem nI {P:Program} {TB:aF} {f:FuncId} {ar:List (AK D)} {rs:List (DT D.σ)} {val:HT D (Ga ar) → HT D (wR []) → Option (xL D (rs ++ []))} (hgo:dw P f) (h:∀ a r,val a () = some r → aG P TB f [] (kL ar [] a) (Is [] ((zd rs (BW rs [] r).1).sv []))):av P TB (⟨f,ar,[],[],[],rs,true,false,false,false,val⟩:bJ D pk) :=
 ⟨hgo,⟨List.nodup_nil,rfl⟩,fun a l r hr=>h a r hr⟩
end Go.Dn
namespace Go.Dn
open Go Go.Sk Go.BigFrame
set_option linter.unusedVariables false
set_option linter.unusedSimpArgs false
section
variable {P:Program} {TB:aF} {E:Env TB} {n:Sh} {s:St} {dst:Option Nat} {t ty yt:TypeId} {pos:String} {after:Array Edge} {g:Option (Nat × Bool)} {x y:Operand}
theorem FP (hu:P.underlying t = some (.pointer (P.pointee t))) (hx:s.ev x = some (.b (.one (.raw (.pointer none))))) :
  aR P E n ⟨dst,.binOp .eql t x (.const (.pointer none)) yt,ty,pos,after,g⟩ s (s.put n dst (B true)) :=
 aR.val (o:=⟨dst,.binOp .eql t x (.const (.pointer none)) yt,ty,pos,after,g⟩) fun ac w h ρ hw hs=>by
  have hv:ac.eval x = .pointer none:=(aC hs hx:(CP.raw _).rel h _).1
  refine ⟨.bool true,?_,rfl⟩
  have:=run_eql_pointer_nil w t none hu
  simp only [execOp,hv,show ac.eval (.const (.pointer none)) = .pointer none from rfl]
  simp [eqGuard,this]
theorem FO {k o:Nat} (hu:P.underlying t = some (.pointer (P.pointee t))) (hx:s.ev x = some (.b (.ptr k o))) :
  aR P E n ⟨dst,.binOp .eql t x (.const (.pointer none)) yt,ty,pos,after,g⟩ s (s.put n dst (B false)) :=
 aR.val (o:=⟨dst,.binOp .eql t x (.const (.pointer none)) yt,ty,pos,after,g⟩) fun ac w h ρ hw hs=>by
  obtain ⟨b,he,hv⟩:=(aC hs hx:BV.rel h ρ (.ptr k o) _)
  refine ⟨.bool false,?_,rfl⟩
  have:=run_eql_pointer_nil w t (some ⟨b,o,none⟩) hu
  simp only [execOp,hv,show ac.eval (.const (.pointer none)) = .pointer none from rfl]
  simp [eqGuard,this]
theorem Ev {k o:Nat} {te:TypeId} {j:TypeInfo} (hu:P.underlying t = some (.pointer te)) (hte:P.info? te = some j) (hx:s.ev x = some (.b (.ptr k o))) (hy:s.ev y = some (.b (.ptr k o))) (hxn:∀ v,x ≠ .const v) (hyn:∀ v,y ≠ .const v) :
  aR P E n ⟨dst,.binOp .neq t x y yt,ty,pos,after,g⟩ s (s.put n dst (B false)) :=
 aR.val (o:=⟨dst,.binOp .neq t x y yt,ty,pos,after,g⟩) fun ac w h ρ hw hs=>by
  obtain ⟨b,he,hv⟩:=(aC hs hx:BV.rel h ρ (.ptr k o) _)
  obtain ⟨b',he',hv'⟩:=(aC hs hy:BV.rel h ρ (.ptr k o) _)
  have:b' = b:=by rw [he] at he'; simpa using he'.symm
  subst this
  refine ⟨.bool false,?_,rfl⟩
  have:=Lib.run_neq_ptr_same (P:=P) (w:=w) ⟨b',o,none⟩ hu hte
  simp only [execOp,hv,hv']
  have h0:(eqGuard .neq t x y (.pointer (some ⟨b',o,none⟩)) (.pointer (some ⟨b',o,none⟩)):Sem Unit) = pure ():=by
   cases x with
   | const v=>exact absurd rfl (hxn v)
   | _=>cases y with
    | const v=>exact absurd rfl (hyn v)
    | _=>rfl
  simp [h0,this]
theorem El {src d t0:TypeId} {k:Nat} {T:TypeId} {cs:List BV} {j:TypeInfo} (h1:P.underlying src = some (.pointer t0)) (h2:P.underlying d = some .unsafePointer) (h3:P.info? t0 = some j) (h4:j.size ≠ 0) (hx:s.ev x = some (.b (.ptr k 0))) (hk:lk s.own k = some (.ba T cs)) (hp:cs ≠ []) :
  aR P E n ⟨dst,.convert src d x,ty,pos,after,g⟩ s (s.put n dst (.b (.ptr k 0))) :=
 aR.val (o:=⟨dst,.convert src d x,ty,pos,after,g⟩) fun ac w h ρ hw hs=>by
  obtain ⟨b,he,hv⟩:=(aC hs hx:BV.rel h ρ (.ptr k 0) _)
  obtain ⟨b',cur,hb1,hb2,hb3⟩:=fe hw hk
  have:b' = b:=by rw [hb1] at he; simpa using he
  subst this
  refine ⟨.pointer (some ⟨b',0,none⟩),?_,b',he,rfl⟩
  have hl:0 < cur.size:=by
   have:=hb3.length
   have h5:0 < cs.length:=List.length_pos_iff.2 hp
   simp at this; omega
  have:=Lib.run_to_unsafe (P:=P) (w:=w) (e:=T) (cells:=cur.size) ⟨b',0,none⟩ h1 h2 h3 h4 (by simp [World.shape?,hb2]) hl
  simp only [execOp,hv]
  simp [this]
theorem HQ {src d u:TypeId} {k:Nat} {T:TypeId} {cs:List BV} {j:TypeInfo} (h1:P.underlying src = some .unsafePointer) (h2:P.underlying d = some (.pointer u)) (h3:P.info? u = some j) (hl:liesAt P P.depth T (cs.length / P.cellsOf T) 0 u 1 = true) (hx:s.ev x = some (.b (.ptr k 0))) (hk:lk s.own k = some (.ba T cs)) :
  aR P E n ⟨dst,.convert src d x,ty,pos,after,g⟩ s (s.put n dst (.b (.ptr k 0))) :=
 aR.val (o:=⟨dst,.convert src d x,ty,pos,after,g⟩) fun ac w h ρ hw hs=>by
  obtain ⟨b,he,hv⟩:=(aC hs hx:BV.rel h ρ (.ptr k 0) _)
  obtain ⟨b',cur,hb1,hb2,hb3⟩:=fe hw hk
  have:b' = b:=by rw [hb1] at he; simpa using he
  subst this
  refine ⟨.pointer (some ⟨b',0,none⟩),?_,b',he,rfl⟩
  have hlen:cs.length = cur.size:=by have:=hb3.length; simpa using this
  have:=Lib.run_from_unsafe (P:=P) (w:=w) (e:=T) (cells:=cur.size) ⟨b',0,none⟩ h1 h2 h3 (by simp [World.shape?,hb2]) (by rw [← hlen]; exact hl)
  simp only [execOp,hv]
  simp [this]
theorem J4 {f:FuncId} {ats:Array TypeId} {z:BV} (hf:ExtF P f Extern.AbiNoEscape.same) (hx:s.ev x = some (.b z)):aR P E n ⟨dst,.call ⟨.value (.func f),#[x],ats⟩,ty,pos,after,g⟩ s (s.put n dst (.b z)) :=
 aR.val (o:=⟨dst,.call ⟨.value (.func f),#[x],ats⟩,ty,pos,after,g⟩) fun ac w h ρ hw hs=>by
  obtain ⟨fn,h1,h2,h3,h4,h5⟩:=hf.info
  have hv:z.rel h ρ (ac.eval x):=aC hs hx
  refine ⟨ac.eval x,?_,hv⟩
  rw [ext_run]
  rw [run_callFunc_extern h1 h2 h3 h4 h5]
  rfl
end
end Go.Dn
namespace Go.Sk
set_option linter.unusedSimpArgs false
set_option linter.unusedVariables false
open Go Go.BigFrame
def zC (P:Program) (TB:aF) (f:FuncId) (own:List (Nat × OC)) (args:List BV) (own':List (Nat × OC)):Prop :=
 ∀ (w:World) (h:PH) (ρ:RM) (vals:List Value) (tb:cx TB h w),oI h w → B9 own h ρ w → aQ (fun (x:BV) v=>x.rel h ρ v) args vals →
  CallsD P f vals.toArray .returning w fun e u' w'=>u' = .returning ∧ iD ⟨w,h,ρ,tb⟩ ⟨0,aq own,ai own,[]⟩ (Is own' (.kU [])) e w'
theorem zC.intro {P:Program} {TB:aF} {f:FuncId} {fn:Func} {rid k k2:Nat} {t1 t2:TypeId} {p1 p2:String} {a1 a2:Array Edge} {c:Code} {own own':List (Nat × OC)} {args:List BV} (m:Nat) (hf:P.funcs[f]? = some fn) (hm:fn.ntmps = m)
  (hb:fn.body = some (.seq (.region rid (mh k k2 t1 t2 p1 p2 a1 a2) false) c)) (hl:args.length ≤ k2) (hk:k2 < k) (hkm:k < m)
  (hbody:∀ E:Env TB,ah P E ⟨m,aq own,ai own,[]⟩ c ⟨(k2,.b (.one (.raw .nilIface))) :: fI 0 args,own⟩ (yP P fn E ⟨m,aq own,ai own,[]⟩ (Is own' (.kU [])))):zC P TB f own args own':=by
 intro w h ρ vals tb hag hlent hargs
 have hlen:=hargs.length
 refine (callsD_of_wpS (R:=fun e u' w'=>u' = .returning ∧ iD ⟨w,h,ρ,tb⟩ ⟨m,aq own,ai own,[]⟩ (Is own' (.kU [])) e w') hf hb fun c₀ cs hu=>?_).mono ?_
 ·apply wpS_seq
  apply wpS_region
  show wpOpsS P _ _ [0,1] _ _ _
  refine DP hu ?_
  have hsz:(vals.toArray ++ Array.replicate (fn.ntmps - vals.toArray.size) undef).size = m:=by simp [hm]; omega
  generalize ha:({ tmps:=vals.toArray ++ Array.replicate (fn.ntmps - vals.toArray.size) undef,defers:=[] }:Act) = a0
  have hsz0:a0.tmps.size = m:=by rw [← ha]; exact hsz
  have hg:∀ j:Nat,∀ v,vals[j]? = some v → a0.tmps[j]? = some v:=by
   intro j v hv
   have hj:=(List.getElem?_eq_some_iff.1 hv).1
   rw [← ha]
   show (vals.toArray ++ _)[j]? = _
   rw [Array.getElem?_append_left (by simpa using hj)]
   simpa using hv
  have e1:(a0.put (some k) .nilIface).tmps[k]? = some .nilIface:=pD (by omega)
  rw [qz e1]
  show Exit.thenS _ _ _ _ _ _
  refine wpS_of_wp (Code.wp_mono (fun e a' w' he=>?_) (hbody ⟨w,h,ρ,tb⟩ _ w ⟨?_,?_,h,ρ,⟨hag,PH.le_refl h,fun _ _ _=>rfl,Nat.le_refl _,fun _ _ _=>rfl,fun _ _=>rfl,rfl,rfl,?_,?_⟩,?_⟩))
  ·cases e with
   | normal=>obtain ⟨h1,v,h2,h3⟩:=he; exact ⟨h1,.returning,(by rw [← hu]),v,h2 _ (bI.refl _),rfl,h3⟩
   | ret=>obtain ⟨h1,v,h2,h3⟩:=he; exact ⟨h1,.returning,(by rw [← hu]),v,h2 _ (bI.refl _),rfl,h3⟩
   | exit _=>exact he.elim
   | goto _=>exact he.elim
   | panic _=>exact he.elim
   | outgrown=>exact he.elim
  ·rw [← ha]; rfl
  ·rw [j3,j3]; exact hsz0
  ·rintro b ⟨q,hq,hb'⟩ o
   obtain ⟨⟨q',c'⟩,hm',rfl⟩:=List.mem_map.1 hq
   exact ((hlent q' c' hm').2.1 b (.inl hb')).2 o
  ·intro q c' hc'
   obtain ⟨h1,h3,h4⟩:=hlent q c' hc'
   exact ⟨h1,fun b hb'=>⟨.inr ⟨q,List.mem_map.2 ⟨(q,c'),hc',rfl⟩,(h3 b hb').1⟩,(h3 b hb').2⟩,h4⟩
  ·intro q x hx
   rcases List.mem_cons.1 hx with hx | hx
   ·cases hx
    exact ⟨.nilIface,pD (by rw [j3]; omega),rfl,rfl⟩
   ·obtain ⟨j,z',rfl,hz',rfl⟩:=gQ hx
    obtain ⟨v,hv,hr⟩:=hargs.get j z' hz'
    have hj:=(List.getElem?_eq_some_iff.1 hz').1
    refine ⟨v,?_,hr⟩
    rw [yW (by omega),yW (by omega)]
    rw [Nat.zero_add]
    exact hg j v hv
 ·rintro e u' w' ⟨rfl,v,own'',res,h',ρ',e1,e2,e3,e4⟩
  exact ⟨rfl,v,own'',res,h',ρ',e1,e2,WR.sh (n:=⟨m,aq own,ai own,[]⟩) (n':=⟨0,aq own,ai own,[]⟩) rfl rfl e3,e4⟩
section
variable {P:Program} {TB:aF} {E E':Env TB} {n:Sh} {s s':St}
theorem Fin.D9 {fn:Func} {post post':dQ} {f:FuncId} {cs:List CV} {vals:List Value} {own0 own_c own_c':List (Nat × OC)} {args:List BV} {e:Exit} (hlink:WR E n own0 E'.h0 E'.ρ0 E'.w0) (hvals:aQ (fun (c:CV) v=>c.rel E'.h0 E'.ρ0 v) cs vals)
    (hc:zC P TB f own_c args own_c') (he:e = .ret ∨ e = .normal) (hg:dw P f) (hcs:cs.map CV.bv = args) (hk:cs.all (fun c=>match c with | .ptr k _=>(aq own0).contains k | _=>false) = true) (hl:fE s.own own_c)
    (hok:gD ⟨n.n,aq own0,ai own0,[za f vals]⟩ own_c own_c' = true) (hcl:hJ s.own own_c own_c' = true)
    (hpost:∀ o r,post' o r → gD n own0 o = true ∧ hJ own0 own0 o = true ∧ bL o (dv own0 own0) = o ∧ r.bm o = true ∧ post o r)
    (h:Fin E' ⟨n.n,aq own0,ai own0,[za f vals]⟩ .ret ⟨jm own_c own_c' s.slots,bL own_c' (dv own_c s.own)⟩ (yP P fn E' ⟨n.n,aq own0,ai own0,[za f vals]⟩ post')) :
    Fin E' ⟨n.n,aq own0,ai own0,[za f vals]⟩ e s (IA P fn E n post):=by
  have key:∀ (a:Act) (w:World),R E' ⟨n.n,aq own0,ai own0,[za f vals]⟩ s a w → Leaves P fn a.tmps (iD E n post) a.defers .returning w:=by
   intro a w hr
   obtain ⟨hdf,hsz,h1,ρ,hw,hs⟩:=hr
   have hdf':a.defers = [za f vals]:=hdf
   rw [hdf']
   refine leaves_cons (by simp) (vc hg vals w) ?_
   have hargs:aQ (fun (x:BV) v=>x.rel h1 ρ v) args vals:=by
     rw [← hcs]
     exact CV.bvL (CV.FA hw.fixed hvals hk)
   have hla:=kN hl
   refine (hc w h1 ρ vals hw.aw hw.agree (tu hw hla (jA hl)) hargs).mono ?_
   rintro e u' w' ⟨rfl,v,own',res,h',ρ',rfl,⟨rfl,rfl⟩,hwr,hrel⟩
   have hwc:=hw.call hla hwr hok hcl
   have hR:R E' ⟨n.n,aq own0,ai own0,[za f vals]⟩ ⟨jm own_c own' s.slots,bL own' (dv own_c s.own)⟩ a w':=by
     refine ⟨hdf,hsz,h',_,hwc,fun k x hx=>?_⟩
     obtain ⟨h1,h2⟩:=mS hx
     obtain ⟨u,hu,hrel⟩:=hs k x h1
     refine ⟨u,hu,SV.mono hwr.le (fun j hj=>?_) hrel⟩
     by_cases hin:j ∈ ai own'
     · rw [jn hin]
       by_cases hia:j ∈ aq own_c
       · exact hwr.fixed j hia
       · have:=h2 j hin hia; simp [this] at hj
     · exact j4 hin
   obtain ⟨_,v2,h5,h6⟩:=h a w' hR
   exact ⟨v2,h5 _ (bI.refl _),iD.back hlink hpost h6⟩
  rcases he with rfl | rfl <;> exact fun a w hr=>key a w hr
end
end Go.Sk
