/- part of the proof: the framework -/
import Derived.Test.YtagpkeehkcopaaaGreatF2
namespace Go.Sk
open Go
set_option linter.unusedVariables false
set_option linter.unusedSimpArgs false
section
variable {σ σ1 σ2 σ3 τ:Type}
end
theorem gD (m:mJ) (k v j:Int):fC (nk m k v) j = (decide (j = k) || fC m j):=by
 unfold fC; rw [nG]; by_cases h:j = k <;> simp [h]
theorem eQ (m:mJ) (k v j:Int):pX (nk m k v) j = if j = k then v else pX m j:=by
 unfold pX; rw [nG]; by_cases h:j = k <;> simp [h]
theorem qw (a b j:Int) (m:mJ):fC ((a,b) :: m) j = (decide (j = a) || fC m j):=by
 unfold fC; show (if j = a then some b else l9 m j).isSome = _
 by_cases h:j = a <;> simp [h]
theorem rW (j:Int):∀ m:mJ,fC m j = true ↔ j ∈ m.map (·.1)
 | []=>by simp [fC,l9]
 | (a,b) :: m=>by rw [qw]; simp [rW j m]
theorem qu (k v:Int):∀ m:mJ,(nk m k v).map (·.1) = if fC m k then m.map (·.1) else m.map (·.1) ++ [k]
 | []=>by simp [fC,l9,nk]
 | (a,b) :: m=>by
  rw [qw]
  unfold nk
  by_cases h:k = a
  ·simp [h]
  ·rw [if_neg h,List.map_cons,qu k v m]
   by_cases h2:fC m k <;> simp [h,h2]
abbrev Asd (l:List Int):Prop:=l.Pairwise (· < ·)
def p4 {α:Type} (κ:α → Int) (n:α) (l out:List α) (placed:Bool):Prop :=
 ∃ A B,l = A ++ B ∧ (∀ a ∈ A,κ a < κ n) ∧ (∀ b ∈ B,κ n < κ b) ∧ ((placed = false ∧ B = [] ∧ out = A) ∨ (placed = true ∧ B ≠ [] ∧ out = A ++ n :: B))
theorem p4.zero {α:Type} {κ:α → Int} {n:α}:p4 κ n [] [] false:=⟨[],[],rfl,by simp,by simp,.inl ⟨rfl,rfl,rfl⟩⟩
theorem p4.put {α:Type} {κ:α → Int} {n x:α} {l out:List α} (h:p4 κ n l out false) (hx:κ n < κ x):p4 κ n (l ++ [x]) (out ++ [n] ++ [x]) true:=by
 obtain ⟨A,B,hl,hA,hB,h | h⟩:=h
 ·obtain ⟨_,h2,h3⟩:=h
  subst h2 h3 hl
  refine ⟨out,[x],by simp,hA,by simp [hx],.inr ⟨rfl,by simp,by simp⟩⟩
 ·exact absurd h.1 (by simp)
theorem p4.next {α:Type} {κ:α → Int} {n x:α} {l out:List α} {p:Bool} (h:p4 κ n l out p) (hp:p = true ∨ κ x ≤ κ n) (hne:κ x ≠ κ n) (hs:∀ a ∈ l,κ a < κ x):p4 κ n (l ++ [x]) (out ++ [x]) p:=by
 obtain ⟨A,B,rfl,hA,hB,h | h⟩:=h
 ·obtain ⟨rfl,rfl,rfl⟩:=h
  refine ⟨out ++ [x],[],by simp,fun a ha=>?_,by simp,.inl ⟨rfl,rfl,rfl⟩⟩
  rcases List.mem_append.1 ha with ha | ha
  ·exact hA a ha
  ·rw [List.mem_singleton.1 ha]
   rcases hp with hp | hp
   ·exact absurd hp (by simp)
   ·omega
 ·obtain ⟨rfl,hne',rfl⟩:=h
  refine ⟨A,B ++ [x],by simp,hA,fun b hb=>?_,.inr ⟨rfl,by simp,by simp⟩⟩
  rcases List.mem_append.1 hb with hb | hb
  ·exact hB b hb
  ·rw [List.mem_singleton.1 hb]
   obtain ⟨b,B',rfl⟩:=List.exists_cons_of_ne_nil hne'
   have h1:=hB b (List.mem_cons_self ..)
   have h2:=hs b (by simp)
   omega
theorem p4.fin {α:Type} {κ:α → Int} {n:α} {l out:List α} {p:Bool} (h:p4 κ n l out p) (hs:l.Pairwise fun a b=>κ a < κ b) :
  (if !p then out ++ [n] else out).Pairwise (fun a b=>κ a < κ b) ∧ (if !p then out ++ [n] else out).Perm (n :: l):=by
 obtain ⟨A,B,rfl,hA,hB,h⟩:=h
 have key:(A ++ n :: B).Pairwise (fun a b=>κ a < κ b):=by
  rw [List.pairwise_append] at hs ⊢
  refine ⟨hs.1,List.pairwise_cons.2 ⟨hB,hs.2.1⟩,fun a ha b hb=>?_⟩
  rcases List.mem_cons.1 hb with rfl | hb
  ·exact hA a ha
  ·exact hs.2.2 a ha b hb
 rcases h with ⟨rfl,rfl,rfl⟩ | ⟨rfl,_,rfl⟩
 ·refine ⟨by simpa using key,?_⟩
  simp only [Bool.not_false,if_true,List.append_nil]
  exact List.perm_append_singleton n out
 ·refine ⟨by simpa using key,?_⟩
  simp only [Bool.not_true,if_false]
  exact List.perm_middle
inductive mF (P:Int → Int → Prop):Int → Int → Prop
 | rfl (a):mF P a a
 | of {a b}:P a b → mF P a b
 | symm {a b}:mF P a b → mF P b a
 | trans {a b c}:mF P a b → mF P b c → mF P a c
theorem mF.lift {P:Int → Int → Prop} {E:Int → Int → Prop} (h1:∀ a,E a a) (h2:∀ a b,E a b → E b a) (h3:∀ a b c,E a b → E b c → E a c) (h:∀ a b,P a b → E a b) {a b:Int} (hc:mF P a b):E a b:=by
 induction hc with
 | rfl a=>exact h1 a
 | of h'=>exact h _ _ h'
 | symm _ ih=>exact h2 _ _ ih
 | trans _ _ i1 i2=>exact h3 _ _ _ i1 i2
theorem mF.mono {P Q:Int → Int → Prop} (h:∀ a b,P a b → mF Q a b) {a b:Int} (hc:mF P a b):mF Q a b :=
 hc.lift (fun a=>.rfl a) (fun _ _ h=>.symm h) (fun _ _ _ h1 h2=>.trans h1 h2) h
theorem mF.congr {P Q:Int → Int → Prop} (h:∀ a b,P a b → mF Q a b) (h':∀ a b,Q a b → mF P a b) (a b:Int):mF P a b ↔ mF Q a b:=⟨.mono h,.mono h'⟩
def jn (r:Int → Int) (x y z:Int):Int:=if r z = max (r x) (r y) then min (r x) (r y) else r z
structure UpM (m:mJ) (r:Int → Int):Prop where
 out:∀ x,fC m x = false → r x = x
 has:∀ x,fC m x = true → fC m (pX m x) = true
 le:∀ x,fC m x = true → pX m x ≤ x
 step:∀ x,fC m x = true → r (pX m x) = r x
 fix:∀ x,fC m x = true → pX m x = x → r x = x
 low:∀ x,fC m x = true → r x ≤ x ∧ fC m (r x) = true ∧ pX m (r x) = r x
 nd:(m.map (·.1)).Nodup
theorem UpM.nil:UpM [] (fun x=>x):=⟨fun _ _=>rfl,by simp [fC,l9],by simp [fC,l9],fun _ _=>by simp_all [fC,l9],fun _ _ _=>rfl,by simp [fC,l9],by simp⟩
theorem UpM.idem {m:mJ} {r:Int → Int} (h:UpM m r) (z:Int):r (r z) = r z:=by
 cases hz:fC m z with
 | false=>rw [h.out z hz,h.out z hz]
 | true=>
  obtain ⟨_,h2,h3⟩:=h.low z hz
  exact h.fix _ h2 h3
theorem pH {m:mJ} {k v:Int} (h:(m.map (·.1)).Nodup):((nk m k v).map (·.1)).Nodup:=by
 rw [qu]
 split
 ·exact h
 ·next hn=>
  rw [List.nodup_append]
  refine ⟨h,by simp,fun a ha b hb=>?_⟩
  rw [List.mem_singleton.1 hb]
  rintro rfl
  exact hn ((rW a m).2 ha)
theorem UpM.add {m:mJ} {r:Int → Int} (h:UpM m r) {x:Int} (hx:fC m x = false):UpM (nk m x x) r:=by
 have e:=h.out x hx
 have hne:∀ z,fC m z = true → z ≠ x:=fun z hz e=>by rw [e,hx] at hz; cases hz
 refine ⟨fun z hz=>?_,fun z hz=>?_,fun z hz=>?_,fun z hz=>?_,fun z hz=>?_,fun z hz=>?_,pH h.nd⟩
 ·rw [gD,Bool.or_eq_false_iff] at hz
  exact h.out z hz.2
 ·rw [gD] at hz ⊢
  rw [eQ]
  by_cases hzx:z = x
  ·simp [hzx]
  ·simp only [hzx,decide_false,Bool.false_or] at hz
   simp [hzx,h.has z hz]
 ·rw [gD] at hz
  rw [eQ]
  by_cases hzx:z = x
  ·simp [hzx]
  ·simp only [hzx,decide_false,Bool.false_or] at hz
   simp [hzx,h.le z hz]
 ·rw [gD] at hz
  rw [eQ]
  by_cases hzx:z = x
  ·simp [hzx]
  ·simp only [hzx,decide_false,Bool.false_or] at hz
   simp [hzx,h.step z hz]
 ·rw [gD] at hz
  rw [eQ]
  by_cases hzx:z = x
  ·simp [hzx,e]
  ·simp only [hzx,decide_false,Bool.false_or] at hz
   simpa [hzx] using h.fix z hz
 ·rw [gD] at hz ⊢
  rw [eQ]
  by_cases hzx:z = x
  ·simp [hzx,e]
  ·simp only [hzx,decide_false,Bool.false_or] at hz
   obtain ⟨h1,h2,h3⟩:=h.low z hz
   simp [h1,h2,hne _ h2,h3]
theorem UpM.join {m:mJ} {r:Int → Int} (h:UpM m r) {x y:Int} (hx:fC m x = true) (hy:fC m y = true) (hne:r x ≠ r y):UpM (nk m (max (r x) (r y)) (min (r x) (r y))) (jn r x y):=by
 obtain ⟨a1,a2,a3⟩:=h.low x hx
 obtain ⟨b1,b2,b3⟩:=h.low y hy
 have ia:=h.idem x
 have ib:=h.idem y
 have hM:∃ M N,max (r x) (r y) = M ∧ min (r x) (r y) = N ∧ N < M ∧ fC m M = true ∧ fC m N = true ∧ pX m M = M ∧ pX m N = N ∧ r M = M ∧ r N = N:=by
  by_cases hl:r x ≤ r y
  ·exact ⟨r y,r x,Int.max_eq_right hl,Int.min_eq_left hl,by omega,b2,a2,b3,a3,ib,ia⟩
  ·have hl':r y ≤ r x:=by omega
   exact ⟨r x,r y,Int.max_eq_left hl',Int.min_eq_right hl',by omega,a2,b2,a3,b3,ia,ib⟩
 obtain ⟨M,N,eM,eN,hlt,hM,hN,gM,gN,rM,rN⟩:=hM
 have ej:∀ z,jn r x y z = if r z = M then N else r z:=fun z=>by unfold jn; rw [eM,eN]
 rw [eM,eN]
 have hh:∀ z,fC (nk m M N) z = fC m z:=fun z=>by
  rw [gD]; by_cases e:z = M <;> simp [e,hM]
 refine ⟨fun z hz=>?_,fun z hz=>?_,fun z hz=>?_,fun z hz=>?_,fun z hz=>?_,fun z hz=>?_,pH h.nd⟩
 ·rw [hh] at hz
  have:r z = z:=h.out z hz
  rw [ej,this,if_neg]
  rintro rfl
  rw [hM] at hz; cases hz
 ·rw [hh] at hz ⊢
  rw [eQ]
  split
  ·exact hN
  ·exact h.has z hz
 ·rw [hh] at hz
  rw [eQ]
  split
  ·omega
  ·exact h.le z hz
 ·rw [hh] at hz
  rw [eQ,ej,ej]
  split
  ·next e=>rw [e,rN,rM,if_pos rfl]; simp
  ·rw [h.step z hz]
 ·rw [hh] at hz
  rw [eQ,ej]
  split
  ·next e=>intro e2; omega
  ·next e=>
   intro e2
   have:=h.fix z hz e2
   rw [this,if_neg e]
 ·rw [hh] at hz
  rw [hh,ej,eQ]
  obtain ⟨h1,h2,h3⟩:=h.low z hz
  by_cases e:r z = M
  ·rw [if_pos e,if_neg (by omega)]
   exact ⟨by omega,hN,gN⟩
  ·rw [if_neg e,if_neg e]
   exact ⟨h1,h2,h3⟩
def hd (c:List Int):Int:=c.headD 0
structure IsPt (P:Int → Int → Prop) (D:Int → Prop) (out:List (List Int)):Prop where
 asd:∀ c ∈ out,c ≠ [] ∧ Asd c
 dj:out.Pairwise fun c d=>∀ z ∈ c,z ∉ d
 dom:∀ a,D a ↔ ∃ c ∈ out,a ∈ c
 con:∀ c ∈ out,∀ a ∈ c,∀ b ∈ c,mF P a b
 cl:∀ c ∈ out,∀ a b,P a b → (a ∈ c ↔ b ∈ c)
abbrev HdL (out:List (List Int)):Prop:=out.Pairwise fun c d=>hd c < hd d
structure Part (P:Int → Int → Prop) (D:Int → Prop) (out:List (List Int)):Prop extends IsPt P D out where
 jy:HdL out
theorem IsPt.cls {P:Int → Int → Prop} {D:Int → Prop} {out:List (List Int)} (h:IsPt P D out) {c:List Int} (hc:c ∈ out) {a b:Int} (hab:mF P a b):a ∈ c ↔ b ∈ c :=
 hab.lift (E:=fun a b=>a ∈ c ↔ b ∈ c) (fun _=>.rfl) (fun _ _ h=>h.symm) (fun _ _ _ h1 h2=>h1.trans h2) (h.cl c hc)
theorem IsPt.mem {P:Int → Int → Prop} {D:Int → Prop} {out:List (List Int)} (h:IsPt P D out) {c:List Int} (hc:c ∈ out) {a:Int} (ha:a ∈ c) (b:Int):b ∈ c ↔ mF P a b :=
 ⟨fun hb=>h.con c hc a ha b hb,fun hb=>(h.cls hc hb).1 ha⟩
theorem IsPt.congr {P Q:Int → Int → Prop} {D E:Int → Prop} {out:List (List Int)} (h:IsPt P D out) (hP:∀ a b,mF P a b ↔ mF Q a b) (hD:∀ a,D a ↔ E a):IsPt Q E out :=
 ⟨h.asd,h.dj,fun a=>(hD a).symm.trans (h.dom a),fun c hc a ha b hb=>(hP _ _).1 (h.con c hc a ha b hb),fun c hc a b hab=>h.cls hc ((hP _ _).2 (.of hab))⟩
theorem Part.congr {P Q:Int → Int → Prop} {D E:Int → Prop} {out:List (List Int)} (h:Part P D out) (hP:∀ a b,mF P a b ↔ mF Q a b) (hD:∀ a,D a ↔ E a):Part Q E out :=
 { toIsPt:=h.toIsPt.congr hP hD,jy:=h.jy }
theorem IsPt.add {P Q:Int → Int → Prop} {D E:Int → Prop} {out:List (List Int)} (h:IsPt P D out) {x y:List Int} (hPD:∀ a b,P a b → D a ∧ D b) (hx:x ≠ []) (hy:Asd y)
  (hmem:∀ z,z ∈ y ↔ z ∈ x ∨ ∃ c ∈ out,(∃ u ∈ c,u ∈ x) ∧ z ∈ c) (hQ:∀ a b,Q a b ↔ P a b ∨ (a ∈ x ∧ b ∈ x)) (hE:∀ a,E a ↔ D a ∨ a ∈ x)
  {rest:List (List Int)} (hrest:rest = out.filter fun c=>!(c.any fun u=>x.contains u)):IsPt Q E (rest ++ [y]):=by
 have hr:∀ c,c ∈ rest ↔ c ∈ out ∧ ∀ u ∈ c,u ∉ x:=fun c=>by
  rw [hrest,List.mem_filter]; simp
 have up:∀ {a b},mF P a b → mF Q a b:=fun h=>h.mono fun a b h=>.of ((hQ a b).2 (.inl h))
 have inx:∀ z ∈ y,∃ u ∈ x,mF Q u z:=fun z hz=>by
  rcases (hmem z).1 hz with hz | ⟨c,hc,⟨u,hu,hux⟩,hzc⟩
  ·exact ⟨z,hz,.rfl z⟩
  ·exact ⟨u,hux,up (h.con c hc u hu z hzc)⟩
 refine ⟨fun c hc=>?_,?_,fun a=>?_,fun c hc a ha b hb=>?_,fun c hc a b hab=>?_⟩
 ·rcases List.mem_append.1 hc with hc | hc
  ·exact h.asd c ((hr c).1 hc).1
  ·rw [List.mem_singleton.1 hc]
   obtain ⟨u,x',rfl⟩:=List.exists_cons_of_ne_nil hx
   exact ⟨List.ne_nil_of_mem ((hmem u).2 (.inl (List.mem_cons_self ..))),hy⟩
 ·refine List.pairwise_append.2 ⟨?_,by simp,fun c hc d hd z hz hzd=>?_⟩
  ·rw [hrest]; exact h.dj.filter _
  ·rw [List.mem_singleton.1 hd] at hzd
   obtain ⟨hc1,hc2⟩:=(hr c).1 hc
   rcases (hmem z).1 hzd with hzx | ⟨d',hd',⟨u,hu,hux⟩,hzd'⟩
   ·exact hc2 z hz hzx
   ·have:u ∈ c:=(h.cls hc1 (h.con d' hd' z hzd' u hu)).1 hz
    exact hc2 u this hux
 ·rw [hE a,h.dom a]
  constructor
  ·rintro (⟨c,hc,ha⟩ | ha)
   ·by_cases hm:∃ u ∈ c,u ∈ x
    ·exact ⟨y,by simp,(hmem a).2 (.inr ⟨c,hc,hm,ha⟩)⟩
    ·exact ⟨c,List.mem_append.2 (.inl ((hr c).2 ⟨hc,fun u hu hux=>hm ⟨u,hu,hux⟩⟩)),ha⟩
   ·exact ⟨y,by simp,(hmem a).2 (.inl ha)⟩
  ·rintro ⟨c,hc,ha⟩
   rcases List.mem_append.1 hc with hc | hc
   ·exact .inl ⟨c,((hr c).1 hc).1,ha⟩
   ·rw [List.mem_singleton.1 hc] at ha
    rcases (hmem a).1 ha with ha | ⟨d,hd,_,had⟩
    ·exact .inr ha
    ·exact .inl ⟨d,hd,had⟩
 ·rcases List.mem_append.1 hc with hc | hc
  ·exact up (h.con c ((hr c).1 hc).1 a ha b hb)
  ·rw [List.mem_singleton.1 hc] at ha hb
   obtain ⟨u,hu,h1⟩:=inx a ha
   obtain ⟨v,hv,h2⟩:=inx b hb
   exact .trans (.symm h1) (.trans (.of ((hQ u v).2 (.inr ⟨hu,hv⟩))) h2)
 ·rcases List.mem_append.1 hc with hc | hc
  ·obtain ⟨hc1,hc2⟩:=(hr c).1 hc
   rcases (hQ a b).1 hab with hp | ⟨ha,hb⟩
   ·exact h.cl c hc1 a b hp
   ·exact ⟨fun hac=>absurd ha (hc2 a hac),fun hbc=>absurd hb (hc2 b hbc)⟩
  ·rw [List.mem_singleton.1 hc]
   rcases (hQ a b).1 hab with hp | ⟨ha,hb⟩
   ·have hcl:∀ {a b},mF P a b → (∃ c ∈ out,a ∈ c) → a ∈ y → b ∈ y:=fun {a b} hp hDa ha=>by
     rcases (hmem a).1 ha with hax | ⟨d,hd,hm,had⟩
     ·obtain ⟨c,hc,hac⟩:=hDa
      exact (hmem b).2 (.inr ⟨c,hc,⟨a,hac,hax⟩,(h.cls hc hp).1 hac⟩)
     ·exact (hmem b).2 (.inr ⟨d,hd,hm,(h.cls hd hp).1 had⟩)
    obtain ⟨da,db⟩:=hPD a b hp
    exact ⟨hcl (.of hp) ((h.dom a).1 da),hcl (.symm (.of hp)) ((h.dom b).1 db)⟩
   ·exact ⟨fun _=>(hmem b).2 (.inl hb),fun _=>(hmem a).2 (.inl ha)⟩
end Go.Sk
namespace Go.Sk
open Go
set_option linter.unusedVariables false
section
variable {α σ σ1 σ2 σ3 τ:Type} [Inhabited α]
private theorem vL {l:List α} {S:Type} {body:S × Int → Option ((S × Int) ⊕ τ)} {Q:τ → Prop} {F:Nat} {s0:S} (I:List α → S → Prop) (hF:l.length < F) (hL:l.length ≤ 9223372036854775807) (h0:I [] s0)
  (step:∀ pre x post s,l = pre ++ x :: post → a8 l (pre.length:Int) = Option.some x → I pre s → bC (body (s,(pre.length:Int))) fun o=>(∃ s',o = .inl (s',IntKind.i64.wrap ((pre.length:Int) + 1)) ∧ I (pre ++ [x]) s') ∨ ∃ t,o = .inr t ∧ Q t)
  (fin:∀ s,I l s → bC (body (s,(l.length:Int))) fun o=>∃ t,o = .inr t ∧ Q t):bC (iter F body (s0,0)) Q:=by
 refine bC.rounds (n:=l.length) (I:=fun k s=>k ≤ l.length ∧ s.2 = (k:Int) ∧ I (l.take k) s.1) hF ⟨Nat.zero_le _,rfl,by simpa using h0⟩ ?_
 rintro k ⟨s,i⟩ hk ⟨hk',hi,hI⟩
 simp only at hi hI
 subst hi
 by_cases hc:k < l.length
 ·have e:l = l.take k ++ l[k] :: l.drop (k + 1):=by rw [← List.drop_eq_getElem_cons hc,List.take_append_drop]
  have hl:(l.take k).length = k:=by rw [List.length_take]; omega
  have hx:a8 l ((l.take k).length:Int) = Option.some l[k]:=by
   rw [hl,mR (by omega) (by omega),oH _ _ hc]
  have h:=step (l.take k) l[k] (l.drop (k + 1)) s e hx hI
  rw [hl] at h
  refine h.mono fun o ho=>?_
  rcases ho with ⟨s',rfl,h⟩ | h
  ·refine .inl ⟨_,rfl,⟨by omega,?_,?_⟩,hc⟩
   ·show IntKind.i64.wrap ((k:Int) + 1) = _
    rw [oO (by omega) (by omega)]; push_cast; rfl
   ·rw [List.take_succ_eq_append_getElem hc]; exact h
  ·exact .inr h
 ·have:k = l.length:=by omega
  subst this
  rw [List.take_length] at hI
  refine (fin s hI).mono fun o ho=>.inr ho
theorem bC.ea1 {l:List α} {A:Int → Option (Int ⊕ τ)} {g:τ} {Q:τ → Prop} {F:Nat} (I:List α → Prop) (hF:l.length < F) (hL:l.length ≤ 9223372036854775807) (h0:I [])
  (step:∀ pre x post,l = pre ++ x :: post → a8 l (pre.length:Int) = Option.some x → I pre → bC (A (pre.length:Int)) fun o=>(o = .inl (IntKind.i64.wrap ((pre.length:Int) + 1)) ∧ I (pre ++ [x])) ∨ ∃ t,o = .inr t ∧ Q t)
  (fin:I l → Q g):bC (iter F (fun i=>if decide (i < (l.length:Int)) = true then A i else Option.some (.inr g)) 0) Q:=by
 refine bC.rounds (n:=l.length) (I:=fun k s=>k ≤ l.length ∧ s = (k:Int) ∧ I (l.take k)) hF ⟨Nat.zero_le _,rfl,by simpa using h0⟩ ?_
 rintro k _ hk ⟨hk',rfl,hI⟩
 by_cases hc:k < l.length
 ·have e:l = l.take k ++ l[k] :: l.drop (k + 1):=by rw [← List.drop_eq_getElem_cons hc,List.take_append_drop]
  have hl:(l.take k).length = k:=by rw [List.length_take]; omega
  have hx:a8 l ((l.take k).length:Int) = Option.some l[k]:=by
   rw [hl,mR (by omega) (by omega),oH _ _ hc]
  have h:=step (l.take k) l[k] (l.drop (k + 1)) e hx hI
  rw [hl] at h
  rw [if_pos (by simpa using hc)]
  refine h.mono fun o ho=>?_
  rcases ho with ⟨rfl,h⟩ | h
  ·refine .inl ⟨_,rfl,⟨by omega,?_,?_⟩,hc⟩
   ·rw [oO (by omega) (by omega)]; push_cast; rfl
   ·rw [List.take_succ_eq_append_getElem hc]; exact h
  ·exact .inr h
 ·have:k = l.length:=by omega
  subst this
  rw [List.take_length] at hI
  rw [if_neg (by simp)]
  exact bC.some (.inr ⟨_,rfl,fin hI⟩)
theorem bC.ea2 {l:List α} {A:σ → Int → Option ((σ × Int) ⊕ τ)} {G:σ → τ} {Q:τ → Prop} {F:Nat} {s0:σ} (I:List α → σ → Prop) (hF:l.length < F) (hL:l.length ≤ 9223372036854775807) (h0:I [] s0)
  (step:∀ pre x post s,l = pre ++ x :: post → a8 l (pre.length:Int) = Option.some x → I pre s → bC (A s (pre.length:Int)) fun o=>(∃ s',o = .inl (s',IntKind.i64.wrap ((pre.length:Int) + 1)) ∧ I (pre ++ [x]) s') ∨ ∃ t,o = .inr t ∧ Q t)
  (fin:∀ s,I l s → Q (G s)):bC (iter F (dd fun s i=>if decide (i < (l.length:Int)) = true then A s i else Option.some (.inr (G s))) (s0,0)) Q:=by
 refine vL I hF hL h0 (fun pre x post s e hx hI=>?_) fun s hI=>?_
 ·simp only [dd]
  rw [if_pos (by rw [e]; simp; omega)]
  exact step pre x post s e hx hI
 ·simp only [dd]
  rw [if_neg (by simp)]
  exact bC.some ⟨_,rfl,fin s hI⟩
theorem qz {S S' τ':Type} {body:S → Option (S ⊕ τ')} {body':S' → Option (S' ⊕ τ')} (f:S → S') (h:∀ s,body' (f s) = (body s).map (cL (fun s=>.inl (f s)) .inr)):∀ F s,iter F body' (f s) = iter F body s
 | 0,s=>rfl
 | F + 1,s=>by
  rw [eb,eb,h]
  cases body s with
  | none=>rfl
  | some o=>
   cases o with
   | inl s'=>exact qz f h F s'
   | inr t=>rfl
private theorem sum_id {A B:Type} (o:Option (A ⊕ B)):o.map (cL (fun s=>Sum.inl s) Sum.inr) = o:=by
 cases o with
 | none=>rfl
 | some o=>cases o <;> rfl
theorem bC.ea3 {l:List α} {A:σ1 → σ2 → Int → Option ((σ1 × σ2 × Int) ⊕ τ)} {G:σ1 → σ2 → τ} {Q:τ → Prop} {F:Nat} {a0:σ1} {b0:σ2} (I:List α → σ1 → σ2 → Prop) (hF:l.length < F) (hL:l.length ≤ 9223372036854775807) (h0:I [] a0 b0)
  (step:∀ pre x post a b,l = pre ++ x :: post → a8 l (pre.length:Int) = Option.some x → I pre a b → bC (A a b (pre.length:Int)) fun o=>(∃ a' b',o = .inl (a',b',IntKind.i64.wrap ((pre.length:Int) + 1)) ∧ I (pre ++ [x]) a' b') ∨ ∃ t,o = .inr t ∧ Q t)
  (fin:∀ a b,I l a b → Q (G a b)):bC (iter F (sF fun a b i=>if decide (i < (l.length:Int)) = true then A a b i else Option.some (.inr (G a b))) (a0,b0,0)) Q:=by
 have e:=qz (body:=fun z:(σ1 × σ2) × Int=>((sF fun a b i=>if decide (i < (l.length:Int)) = true then A a b i else Option.some (.inr (G a b))) (z.1.1,z.1.2,z.2)).map (cL (fun s=>.inl ((s.1,s.2.1),s.2.2)) .inr)) (body':=sF fun a b i=>if decide (i < (l.length:Int)) = true then A a b i else Option.some (.inr (G a b))) (fun z=>(z.1.1,z.1.2,z.2)) (fun s=>by
  rw [Option.map_map]; exact (Eq.trans (by congr 1; funext o; cases o <;> rfl) (sum_id _)).symm) F ((a0,b0),0)
 rw [e]
 refine vL (S:=σ1 × σ2) (fun pre s=>I pre s.1 s.2) hF hL h0 (fun pre x post s e hx hI=>?_) fun s hI=>?_
 ·simp only [sF]
  rw [if_pos (by rw [e]; simp; omega)]
  obtain ⟨o,ho,h⟩:=step pre x post s.1 s.2 e hx hI
  rw [ho]
  rcases h with ⟨a',b',rfl,h⟩ | ⟨t,rfl,h⟩
  ·exact bC.some (.inl ⟨(a',b'),rfl,h⟩)
  ·exact bC.some (.inr ⟨t,rfl,h⟩)
 ·simp only [sF]
  rw [if_neg (by simp)]
  exact bC.some ⟨_,rfl,fin s.1 s.2 hI⟩
theorem bC.find {υ:Type} {l:List α} {c:α → Bool} {r:α → υ} {Q:Unit ⊕ υ → Prop} {F:Nat} (hF:l.length < F) (hL:l.length ≤ 9223372036854775807) (h1:(∀ x ∈ l,c x = false) → Q (.inl ())) (h2:∀ pre x post,l = pre ++ x :: post → (∀ y ∈ pre,c y = false) → c x = true → Q (.inr (r x))) {A:Int → Option (Int ⊕ (Unit ⊕ υ))}
  (hA:∀ (i:Int) x,a8 l i = Option.some x → A i = if c x = true then Option.some (.inr (.inr (r x))) else Option.some (.inl (IntKind.i64.wrap (i + 1)))) :
  bC (iter F (fun i=>if decide (i < (l.length:Int)) = true then A i else Option.some (.inr (.inl ()))) 0) Q:=by
 refine bC.ea1 (fun pre=>∀ x ∈ pre,c x = false) hF hL (by simp) (fun pre x post e hx hI=>?_) fun h=>h1 h
 rw [hA _ x hx]
 refine bC.ite (fun h=>bC.some (.inr ⟨_,rfl,h2 pre x post e hI h⟩)) fun h=>bC.some (.inl ⟨rfl,fun y hy=>?_⟩)
 rcases List.mem_append.1 hy with hy | hy
 ·exact hI y hy
 ·rw [List.mem_singleton.1 hy]; exact h
end
end Go.Sk
namespace Go.Sk
open Go
set_option linter.unusedVariables false
def Le {α:Type} (a b:Option α):Prop:=∀ x,a = some x → b = some x
section
variable {α β γ σ τ:Type}
theorem Le.rfl (a:Option α):Le a a:=fun _ h=>h
theorem Le.none (a:Option α):Le Option.none a:=fun _ h=>by cases h
theorem Le.bind {a b:Option α} {k k':α → Option β} (h:Le a b) (hk:∀ x,Le (k x) (k' x)):Le (a.bind k) (b.bind k'):=fun y hy=>by
 cases a with
 | none=>cases hy
 | some x=>rw [h x (Eq.refl _)]; exact hk x y hy
theorem Le.ite {c:Prop} [Decidable c] {a b a' b':Option α} (h1:Le a a') (h2:Le b b'):Le (if c then a else b) (if c then a' else b'):=by
 split
 ·exact h1
 ·exact h2
theorem Le.bD [Inhabited α] {g:Bool} {a b:Option α} (h:Le a b):Le (bD g a) (bD g b):=by
 unfold Go.Sk.bD
 split
 ·exact h
 ·exact Le.rfl _
theorem Le.fv {a:γ} {k k':γ → Option α} (h:∀ a,Le (k a) (k' a)):Le (Go.Sk.fv a k) (Go.Sk.fv a k'):=h a
theorem Le.cL {f f':α → Option γ} {g g':β → Option γ} (h1:∀ x,Le (f x) (f' x)) (h2:∀ x,Le (g x) (g' x)) (z:α ⊕ β):Le (Go.Sk.cL f g z) (Go.Sk.cL f' g' z):=by
 cases z with
 | inl x=>exact h1 x
 | inr x=>exact h2 x
theorem Le.iter {F F':Nat} (hF:F ≤ F') {f f':σ → Option (σ ⊕ τ)} (h:∀ s,Le (f s) (f' s)) (s:σ):Le (Go.Sk.iter F f s) (Go.Sk.iter F' f' s):=by
 induction F generalizing F' s with
 | zero=>exact Le.none _
 | succ F ih=>
  obtain ⟨F',rfl⟩:∃ g,F' = g + 1:=⟨F' - 1,by omega⟩
  rw [eb,eb]
  exact Le.bind (h s) (Le.cL (fun x=>ih (by omega) x) fun x=>Le.rfl _)
end
end Go.Sk
