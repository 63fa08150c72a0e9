/- part of the proof: the framework -/
import Derived.Test.YtnpddoaeoefcnaaF2
namespace Go.Sk
set_option linter.unusedSimpArgs false
set_option linter.unusedVariables false
open Go Go.BigFrame
@[reducible] def un9 {A1 A2 A3 A4 A5 A6 A7 A8 A9 γ:Type} (f:A1 → A2 → A3 → A4 → A5 → A6 → A7 → A8 → A9 → γ) (z:A1 × A2 × A3 × A4 × A5 × A6 × A7 × A8 × A9):γ:=f z.1 z.2.1 z.2.2.1 z.2.2.2.1 z.2.2.2.2.1 z.2.2.2.2.2.1 z.2.2.2.2.2.2.1 z.2.2.2.2.2.2.2.1 z.2.2.2.2.2.2.2.2
@[reducible] def un10 {A1 A2 A3 A4 A5 A6 A7 A8 A9 A10 γ:Type} (f:A1 → A2 → A3 → A4 → A5 → A6 → A7 → A8 → A9 → A10 → γ) (z:A1 × A2 × A3 × A4 × A5 × A6 × A7 × A8 × A9 × A10):γ:=f z.1 z.2.1 z.2.2.1 z.2.2.2.1 z.2.2.2.2.1 z.2.2.2.2.2.1 z.2.2.2.2.2.2.1 z.2.2.2.2.2.2.2.1 z.2.2.2.2.2.2.2.2.1 z.2.2.2.2.2.2.2.2.2
@[reducible] def un11 {A1 A2 A3 A4 A5 A6 A7 A8 A9 A10 A11 γ:Type} (f:A1 → A2 → A3 → A4 → A5 → A6 → A7 → A8 → A9 → A10 → A11 → γ) (z:A1 × A2 × A3 × A4 × A5 × A6 × A7 × A8 × A9 × A10 × A11):γ:=f z.1 z.2.1 z.2.2.1 z.2.2.2.1 z.2.2.2.2.1 z.2.2.2.2.2.1 z.2.2.2.2.2.2.1 z.2.2.2.2.2.2.2.1 z.2.2.2.2.2.2.2.2.1 z.2.2.2.2.2.2.2.2.2.1 z.2.2.2.2.2.2.2.2.2.2
@[reducible] def un12 {A1 A2 A3 A4 A5 A6 A7 A8 A9 A10 A11 A12 γ:Type} (f:A1 → A2 → A3 → A4 → A5 → A6 → A7 → A8 → A9 → A10 → A11 → A12 → γ) (z:A1 × A2 × A3 × A4 × A5 × A6 × A7 × A8 × A9 × A10 × A11 × A12):γ:=f z.1 z.2.1 z.2.2.1 z.2.2.2.1 z.2.2.2.2.1 z.2.2.2.2.2.1 z.2.2.2.2.2.2.1 z.2.2.2.2.2.2.2.1 z.2.2.2.2.2.2.2.2.1 z.2.2.2.2.2.2.2.2.2.1 z.2.2.2.2.2.2.2.2.2.2.1 z.2.2.2.2.2.2.2.2.2.2.2
@[reducible] def un13 {A1 A2 A3 A4 A5 A6 A7 A8 A9 A10 A11 A12 A13 γ:Type} (f:A1 → A2 → A3 → A4 → A5 → A6 → A7 → A8 → A9 → A10 → A11 → A12 → A13 → γ) (z:A1 × A2 × A3 × A4 × A5 × A6 × A7 × A8 × A9 × A10 × A11 × A12 × A13):γ:=f z.1 z.2.1 z.2.2.1 z.2.2.2.1 z.2.2.2.2.1 z.2.2.2.2.2.1 z.2.2.2.2.2.2.1 z.2.2.2.2.2.2.2.1 z.2.2.2.2.2.2.2.2.1 z.2.2.2.2.2.2.2.2.2.1 z.2.2.2.2.2.2.2.2.2.2.1 z.2.2.2.2.2.2.2.2.2.2.2.1 z.2.2.2.2.2.2.2.2.2.2.2.2
@[reducible] def un14 {A1 A2 A3 A4 A5 A6 A7 A8 A9 A10 A11 A12 A13 A14 γ:Type} (f:A1 → A2 → A3 → A4 → A5 → A6 → A7 → A8 → A9 → A10 → A11 → A12 → A13 → A14 → γ) (z:A1 × A2 × A3 × A4 × A5 × A6 × A7 × A8 × A9 × A10 × A11 × A12 × A13 × A14):γ:=f z.1 z.2.1 z.2.2.1 z.2.2.2.1 z.2.2.2.2.1 z.2.2.2.2.2.1 z.2.2.2.2.2.2.1 z.2.2.2.2.2.2.2.1 z.2.2.2.2.2.2.2.2.1 z.2.2.2.2.2.2.2.2.2.1 z.2.2.2.2.2.2.2.2.2.2.1 z.2.2.2.2.2.2.2.2.2.2.2.1 z.2.2.2.2.2.2.2.2.2.2.2.2.1 z.2.2.2.2.2.2.2.2.2.2.2.2.2
@[reducible] def un15 {A1 A2 A3 A4 A5 A6 A7 A8 A9 A10 A11 A12 A13 A14 A15 γ:Type} (f:A1 → A2 → A3 → A4 → A5 → A6 → A7 → A8 → A9 → A10 → A11 → A12 → A13 → A14 → A15 → γ) (z:A1 × A2 × A3 × A4 × A5 × A6 × A7 × A8 × A9 × A10 × A11 × A12 × A13 × A14 × A15):γ:=f z.1 z.2.1 z.2.2.1 z.2.2.2.1 z.2.2.2.2.1 z.2.2.2.2.2.1 z.2.2.2.2.2.2.1 z.2.2.2.2.2.2.2.1 z.2.2.2.2.2.2.2.2.1 z.2.2.2.2.2.2.2.2.2.1 z.2.2.2.2.2.2.2.2.2.2.1 z.2.2.2.2.2.2.2.2.2.2.2.1 z.2.2.2.2.2.2.2.2.2.2.2.2.1 z.2.2.2.2.2.2.2.2.2.2.2.2.2.1 z.2.2.2.2.2.2.2.2.2.2.2.2.2.2
@[reducible] def un16 {A1 A2 A3 A4 A5 A6 A7 A8 A9 A10 A11 A12 A13 A14 A15 A16 γ:Type} (f:A1 → A2 → A3 → A4 → A5 → A6 → A7 → A8 → A9 → A10 → A11 → A12 → A13 → A14 → A15 → A16 → γ) (z:A1 × A2 × A3 × A4 × A5 × A6 × A7 × A8 × A9 × A10 × A11 × A12 × A13 × A14 × A15 × A16):γ:=f z.1 z.2.1 z.2.2.1 z.2.2.2.1 z.2.2.2.2.1 z.2.2.2.2.2.1 z.2.2.2.2.2.2.1 z.2.2.2.2.2.2.2.1 z.2.2.2.2.2.2.2.2.1 z.2.2.2.2.2.2.2.2.2.1 z.2.2.2.2.2.2.2.2.2.2.1 z.2.2.2.2.2.2.2.2.2.2.2.1 z.2.2.2.2.2.2.2.2.2.2.2.2.1 z.2.2.2.2.2.2.2.2.2.2.2.2.2.1 z.2.2.2.2.2.2.2.2.2.2.2.2.2.2.1 z.2.2.2.2.2.2.2.2.2.2.2.2.2.2.2
def eR {α:Type} (e:α → List CP) (r:List α):List (List CP):=r.map e
theorem rr_sl {α:Type} {e:α → List CP} {size:Nat} (xs:List (List α)):((xs.map (eR e)).map fun es=>[CP.sl size es]) = xs.map (eL size e):=by
 rw [List.map_map]; rfl
theorem set_map {α β:Type} (xs:List α) (e:α → β) (i:Nat) (x:α):(xs.map e).set i (e x) = (xs.set i x).map e:=by rw [List.map_set]
theorem rr_app {α:Type} {e:α → List CP} {xs z:List (List α)} (h:eF xs [[]] = some z):(xs.map (eR e)) ++ [[]] = z.map (eR e):=by rw [← yj h,List.map_append]; rfl
theorem rr_b {α β:Type} {xs z:List α} {x:α} {e:α → β} (h:eF xs [x] = some z) {bytes:Nat} (hb:bytes ≤ 140737:=by decide):((xs.map e).length + 1) * bytes ≤ 140737488355328:=by
 have:=ec (e:=e) h hb
 simpa using this
theorem rr_m {α β:Type} {xs z:List α} {x:α} {e:α → β} (h:eF xs [x] = some z):(xs.map e).length + 1 ≤ 9223372036854775807:=by
 have:=dZ (e:=e) h
 simpa using this
section
variable {P:Program} {TB:b5} {E:Env TB} {n:Sh} {s:St} {dst:Option Nat} {t ty yt:TypeId} {pos:String} {after:Array Edge} {g:Option (Nat × Bool)} {x y c:Operand} {Q:dN} {cd:Code} {ops:Array Oper} {l:List Oper} {o:Oper}
variable {k kp i size bytes:Nat} {T e:TypeId} {hole:Option Nat} {ess:List (List (List CP))} {q:List (List CP)}
theorem ab.qk (k:Nat) (hk:lk s.own k = some (.rr T e size none ess)) (hq:(ess.map fun es=>[CP.sl size es]) = q) (hc:ab P E n cd ⟨iO k (.sl 1 q) s.slots,jf k (.sl 1 q) (del k s.own)⟩ Q):ab P E n cd s Q:=by subst hq; exact ab.iA k hk hc
theorem af.qk (k:Nat) (hk:lk s.own k = some (.rr T e size none ess)) (hq:(ess.map fun es=>[CP.sl size es]) = q) (hc:af P E n ops l ⟨iO k (.sl 1 q) s.slots,jf k (.sl 1 q) (del k s.own)⟩ Q):af P E n ops l s Q:=by subst hq; exact af.iA k hk hc
theorem Fin.qk {ex:Exit} (k:Nat) (hk:lk s.own k = some (.rr T e size none ess)) (hq:(ess.map fun es=>[CP.sl size es]) = q) (hc:Fin E n ex ⟨iO k (.sl 1 q) s.slots,jf k (.sl 1 q) (del k s.own)⟩ Q):Fin E n ex s Q:=by subst hq; exact Fin.iA k hk hc
theorem vB {m:Nat} (ht:P.underlying t = some (.slice yt)) (hx:s.ev x = some (.b (.row k))) (hk:lk s.own k = some (.rr T e size hole ess)) (hm:ess.length = m) :
  bD P E n ⟨dst,.call ⟨.builtin .len,#[x],#[t]⟩,ty,pos,after,g⟩ s (s.put n dst (I (m:Int))):=hm ▸ w5 ht hx hk
theorem aA.tK {P:Program} {TB:b5} {f:FuncId} {args:List BV} {own_a own':List (Nat × OC)} {T:TypeId} {size:Nat} {es:List (List CP)} {res:SV} (h:aA P TB f own_a args (Is own' res)) (k0:Nat) (hk:lk own' k0 = some (.row T size es)):aA P TB f own_a args (Is (jf k0 (.sl size es) (del k0 own')) (res.fE k0 (.sl size es))):=by
 intro w hh ρ vals tb hag hl hargs
 refine (h w hh ρ vals tb hag hl hargs).mono ?_
 rintro e w' ⟨v,own',res,h',ρ',rfl,⟨rfl,rfl⟩,hw,hres⟩
 have hR:R ⟨w,hh,ρ,tb⟩ ⟨1,bj own_a,aH own_a,[]⟩ ⟨[(0,res)],own'⟩ ⟨#[v],[]⟩ w':=⟨rfl,rfl,h',ρ',WR.sh (n:=⟨0,bj own_a,aH own_a,[]⟩) (n':=⟨1,bj own_a,aH own_a,[]⟩) rfl rfl hw,fun k x hx=>by
  simp only [List.mem_singleton,Prod.mk.injEq] at hx
  obtain ⟨rfl,rfl⟩:=hx
  exact ⟨v,by simp,hres⟩⟩
 obtain ⟨_,_,h'',ρ'',hw'',hs''⟩:=hR.bg (k:=k0) hk
 obtain ⟨u,hu,hur⟩:=hs'' 0 (res.fE k0 (.sl size es)) (by simp [iO])
 have huv:u = v:=by simpa using hu.symm
 subst huv
 exact ⟨u,_,_,h'',ρ'',rfl,⟨rfl,rfl⟩,WR.sh (n:=⟨1,bj own_a,aH own_a,[]⟩) (n':=⟨0,bj own_a,aH own_a,[]⟩) rfl rfl hw'',hur⟩
theorem bD.then' {s1 s2:St} (h1:bD P E n o s s1) (h:∀ a w,R E n s1 a w → R E n s2 a w):bD P E n o s s2:=fun a w hr next Q hn=>h1 a w hr next Q fun a' w' hr'=>hn a' w' (h a' w' hr')
theorem bD.jG (kos:List Nat) {s1 s2:St} (h1:bD P E n o s s1) (e:(⟨s1.slots,pz kos s1.own⟩:St) = s2):bD P E n o s s2:=h1.then' fun a w hr=>e ▸ (by
 obtain ⟨hd,hn,h,ρ,hw,hs⟩:=hr
 exact ⟨hd,hn,h,ρ,hw.sub fun _ hp=>kR hp,hs⟩)
theorem bD.fE (k:Nat) {s1:St} {es:List (List CP)} (h1:bD P E n o s s1) (hk:lk s1.own k = some (.row T size es)):bD P E n o s ⟨iO k (.sl size es) s1.slots,jf k (.sl size es) (del k s1.own)⟩:=h1.then' fun a w hr=>hr.bg hk
theorem yl {own:List (Nat × OC)} {h:PH} {ρ:RM} {w:World} {k k2:Nat} {es:List (List CP)} (hw:WR E n own h ρ w) (hk:lk own k = some (.row T size es)) (hfx:n.fix.contains k2 = false) (hnk:dx k own = true) (hnu:dx k2 own = true) (hne:(k2 == k) = false) (hf2:lk own k2 = none) :
  WR E n (ins k2 (.row T size es) (del k own)) h (kM ρ k2 (ρ k)) w:=by
 have hkm:=bn hk
 have hne:k2 ≠ k:=by simpa using hne
 have hfx:k2 ∉ n.fix:=by simpa using hfx
 have old:∀ j z,(j,z) ∈ ins k2 (OC.row T size es) (del k own) → (j = k2 ∧ z = .row T size es) ∨ (j ≠ k2 ∧ j ≠ k ∧ (j,z) ∈ own):=fun j z hj=>by
  rcases gf hj with ⟨rfl,rfl⟩ | ⟨h1,hj⟩
  ·exact .inl ⟨rfl,rfl⟩
  ·exact .inr ⟨h1,(cV hj).2,(cV hj).1⟩
 refine ⟨hw.agree,hw.le,hw.fresh,hw.size,hw.same,fun j hj=>?_,hw.os,hw.out,hw.nl,fun j z hj=>?_⟩
 ·rw [bx _ _ fun e=>hfx (by rw [← e]; exact hj)]; exact hw.fixed j hj
 ·rcases old j z hj with ⟨rfl,rfl⟩ | ⟨j1,j2,j3⟩
  ·rw [bC]
   obtain ⟨g1,g2,g3⟩:=hw.owned k _ hkm
   refine ⟨g1.tE fun q hq=>by rw [OC.pH rfl] at hq; simp at hq,g2,fun j' z' hj' hne' b hb hb'=>?_⟩
   rcases old j' z' hj' with ⟨rfl,rfl⟩ | ⟨i1,i2,i3⟩
   ·exact hne' rfl
   ·rw [bx _ _ i1] at hb'; exact g3 j' z' i3 i2 b hb hb'
  ·rw [bx _ _ j1]
   obtain ⟨g1,g2,g3⟩:=hw.owned j z j3
   refine ⟨g1.tE fun q hq=>bx _ _ fun e=>?_,g2,fun j' z' hj' hne' b hb hb'=>?_⟩
   ·subst e; rw [jM hnu j3] at hq; simp at hq
   rcases old j' z' hj' with ⟨rfl,rfl⟩ | ⟨i1,i2,i3⟩
   ·rw [bC] at hb'; exact g3 k _ hkm (fun e=>j2 e.symm) b hb hb'
   ·rw [bx _ _ i1] at hb'; exact g3 j' z' i3 hne' b hb hb'
theorem tt {α:Type} (k:Nat):∀ l:List (Nat × α),del k (del k l) = del k l
 | []=>rfl
 | (j,x) :: l=>by
  by_cases h:k == j
  ·simp only [del,h,if_true]; exact tt k l
  ·simp [del,h,tt k l]
theorem wy {α:Type} (k:Nat) (c c0:α):∀ l:List (Nat × α),ins k c (ins k c0 l) = ins k c l
 | []=>by simp [ins,del]
 | (j,x) :: l=>by
  by_cases h:k == j
  ·simp only [ins,h,if_true]; simp [ins,tt]
  ·simp [ins,h,wy k c c0 l]
theorem upd_upd {ρ:RM} {k:Nat} {a b:Value}:kM (kM ρ k a) k b = kM ρ k b:=by
 funext j
 by_cases h:j = k
 ·subst h; rw [bC,bC]
 ·rw [bx _ _ h,bx _ _ h,bx _ _ h]
theorem uU {α:Type} (k:Nat) (c:α):∀ l:List (Nat × α),lk (ins k c l) k = some c
 | []=>by simp [ins,lk]
 | (j,x) :: l=>by
  by_cases h:k == j
  ·simp [ins,h,lk]
  ·simp [ins,lk,h,uU k c l]
theorem rY {k k2:Nat} {es news es':List (List CP)} {zs:List CP} (hdst:o.dst = dst)
  (ht:jJ P t e size bytes zs) (hb:(es.length + news.length) * bytes ≤ 140737488355328) (hm:es.length + news.length ≤ 9223372036854775807)
  (hk:lk s.own k = some (.row e size es)) (he:es ++ news = es') (hfx:n.fix.contains k2 = false) (hnk:dx k s.own = true) (hnu:dx k2 s.own = true) (hne:(k2 == k) = false) (hf2:lk s.own k2 = none)
  (H:∀ (a:Act) (w:World) (h:PH) (ρ:RM),WR E n s.own h ρ w → bM h ρ s.slots a.tmps → ∃ u,Src w u h size news ∧ ∀ v' w',(Builtin.append_ #[t,t] ty #[ρ k,u]).run P w = .ok v' w' → (execOp a.eval o).run P w = .ok (.value v') w') :
  bD P E n o s ((⟨bT k2 s.slots,ins k2 (.row e size es') (del k s.own)⟩:St).put n dst (.b (.row k2))):=by
 subst hdst he
 intro a w ⟨hdf,hn,h,ρ,hw,hs⟩ next Q hnext
 obtain ⟨u,hsrc,hexec⟩:=H a w h ρ hw hs
 have hw2:=yl hw hk hfx hnk hnu hne hf2
 have hnu2:dx k2 (ins k2 (OC.row e size es) (del k s.own)) = true:=by
  unfold dx
  refine List.all_eq_true.2 fun p hp=>?_
  rcases gf (j:=p.1) (x:=p.2) hp with ⟨_,e2⟩ | ⟨_,e2⟩
  ·rw [e2,OC.pH rfl]; rfl
  ·rw [jM hnu (cV e2).1]; rfl
 obtain ⟨v',w',hrun,h1,h2,h3,h4,h5,h6⟩:=nW (s:=⟨[],ins k2 (OC.row e size es) (del k s.own)⟩) (ty:=ty) hw2 ht (uU _ _ _) rfl hsrc hb (by rw [fO]; exact hm)
 rw [bC] at hrun h4 h6
 have hst:=hw2.step k2 v' (.row e size (es ++ news)) (bf (ρ k)) (fun b hb=>⟨_,bn (uU _ _ _),by first | exact hb | (rw [bC]; exact hb)⟩) h1 h2 h3 h4 (h5.tE fun q hq=>by rw [OC.pH rfl] at hq; simp at hq) (fun b hb=>by
  rcases h6 b hb with h | h
  ·exact .inl (by first | exact h | (rw [bC]; exact h) | (simp only [bC]; exact h))
  ·exact .inr h) (.inr fun e=>by simp at hfx; exact hfx e) (.inr hnu2)
 rw [wy,upd_upd] at hst
 unfold Oper.wp
 rw [hexec v' w' hrun]
 exact hnext _ _ (R.put (s:=⟨bT k2 s.slots,ins k2 (.row e size (es ++ news)) (del k s.own)⟩) hdf hn hst (hs.bT k2 v') (bC _ _ _).symm)
theorem jz {k k2:Nat} {es news es':List (List CP)} {zs:List CP} (ht:jJ P t e size bytes zs) (hb:(es.length + news.length) * bytes ≤ 140737488355328) (hm:es.length + news.length ≤ 9223372036854775807)
  (hx:s.ev x = some (.b (.row k))) (hk:lk s.own k = some (.row e size es)) (hy:s.ev y = some (.b (.one (.sl size news)))) (he:es ++ news = es') (hfx:n.fix.contains k2 = false) (hnk:dx k s.own = true) (hnu:dx k2 s.own = true) (hne:(k2 == k) = false) (hf2:lk s.own k2 = none) :
  bD P E n ⟨dst,.call ⟨.builtin .append,#[x,y],#[t,t]⟩,ty,pos,after,g⟩ s ((⟨bT k2 s.slots,ins k2 (.row e size es') (del k s.own)⟩:St).put n dst (.b (.row k2))) :=
 rY (dst:=dst) (ty:=ty) rfl ht hb hm hk he hfx hnk hnu hne hf2 fun ac w h ρ hw hs=>by
  have hv:ac.eval x = ρ k:=(ba hs hx:BV.rel h ρ (.row k) _)
  refine ⟨ac.eval y,Src.of_sl hw (ba hs hy:(CP.sl size news).rel h _),fun v' w' hrun=>?_⟩
  rw [execOp_builtin,builtin_append]
  simp [hv,hrun]
theorem CV.jZ {k:Nat} {p:CP} {z:CV} (h:z.bU k = false):z.fE k p = z:=by
 cases z with
 | row j=>
  have h:(j == k) = false:=h
  have:(k == j) = false:=by rw [Bool.eq_false_iff] at h ⊢; intro e; exact h (by simpa using (by simpa using e:k = j).symm)
  simp [CV.fE,this]
 | _=>rfl
theorem kS {α:Type} {f:α → α}:∀ {l:List α},(∀ x ∈ l,f x = x) → l.map f = l
 | [],_=>rfl
 | x :: l,h=>by rw [List.map_cons,h x List.mem_cons_self,kS fun y hy=>h y (List.mem_cons_of_mem _ hy)]
theorem BV.jZ {k:Nat} {p:CP} {z:BV} (h:z.bU k = false):z.fE k p = z:=by
 cases z with
 | row j=>
  have h:(j == k) = false:=h
  have:(k == j) = false:=by rw [Bool.eq_false_iff] at h ⊢; intro e; exact h (by simpa using (by simpa using e:k = j).symm)
  simp [BV.fE,this]
 | iK f fs cs=>
  have h:(fs.any (·.bU k) || cs.any (·.bU k)) = false:=h
  simp only [Bool.or_eq_false_iff,List.any_eq_false] at h
  simp only [BV.fE]
  rw [kS fun x hx=>CV.jZ (by simpa using h.1 x hx),kS fun x hx=>CV.jZ (by simpa using h.2 x hx)]
 | xa cs=>
  have h:cs.any (·.bU k) = false:=h
  simp only [List.any_eq_false] at h
  simp only [BV.fE]
  rw [kS fun x hx=>CV.jZ (by simpa using h x hx)]
 | _=>rfl
theorem SV.jZ {k:Nat} {p:CP} {z:SV} (h:z.bU k = false):z.fE k p = z:=by
 cases z with
 | b z=>exact congrArg SV.b (BV.jZ h)
 | gR l=>
  have h:l.any (·.bU k) = false:=h
  simp only [List.any_eq_false] at h
  simp only [SV.fE]
  rw [kS fun x hx=>BV.jZ (by simpa using h x hx)]
 | gw l=>
  have h:l.any (·.bU k) = false:=h
  simp only [List.any_eq_false] at h
  simp only [SV.fE]
  rw [kS fun x hx=>BV.jZ (by simpa using h x hx)]
 | opt c z=>exact congrArg (SV.opt c) (BV.jZ h)
theorem pk {α:Type} {k:Nat}:∀ {l:List (Nat × α)} {p:Nat × α},p ∈ l → p.1 ≠ k → p ∈ del k l
 | (j,x) :: l,p,h,hn=>by
  unfold del
  cases List.mem_cons.1 h with
  | inl e=>subst e; rw [if_neg (by simpa using fun e=>hn e.symm)]; exact List.mem_cons_self
  | inr e=>
   split
   ·exact pk e hn
   ·exact List.mem_cons_of_mem _ (pk e hn)
theorem kI {k:Nat} {p:CP}:∀ {l:List (Nat × SV)} {j:Nat} {y:SV},(j,y) ∈ l → (j,y.fE k p) ∈ iO k p l
 | (i,z) :: l,j,y,h=>by
  unfold iO
  cases List.mem_cons.1 h with
  | inl e=>obtain ⟨rfl,rfl⟩:=Prod.mk.inj e; exact List.mem_cons_self
  | inr e=>exact List.mem_cons_of_mem _ (kI e)
theorem bD.qG (k2:Nat) {sl:List (Nat × SV)} {own:List (Nat × OC)} {es:List (List CP)} (h1:bD P E n o s ((⟨bT k2 sl,own⟩:St).put n o.dst (.b (.row k2)))) (hk:lk own k2 = some (.row T size es)) :
  bD P E n o s ((⟨bT k2 sl,jf k2 (.sl size es) (del k2 own)⟩:St).put n o.dst (.b (.one (.sl size es)))):=h1.then' fun a w hr=>by
 have hown:∀ (z:St) (d:Option Nat) (x:SV),(z.put n d x).own = z.own:=fun z d x=>by
  unfold St.put; split
  ·unfold St.set; split <;> rfl
  ·rfl
 have hp:=hr.bg (k:=k2) (T:=T) (size:=size) (es:=es) (by rw [hown]; exact hk)
 rw [hown] at hp
 obtain ⟨hd,hn,h,ρ,hw,hs⟩:=hp
 refine ⟨hd,hn,h,ρ,by rw [hown]; exact hw,fun j x hx=>?_⟩
 have old:∀ {z:SV},(j,z) ∈ bT k2 sl → (∀ d,o.dst = some d → j ≠ d) → ∃ v,a.tmps[j]? = some v ∧ z.rel h ρ v:=fun {z} hz hj=>by
  have e:=(fm hz).2
  have hm:(j,z) ∈ ((⟨bT k2 sl,own⟩:St).put n o.dst (.b (.row k2))).slots:=by
   unfold St.put; split
   ·next d e2=>
    unfold St.set; split
    ·exact List.mem_cons_of_mem _ (pk hz (hj d e2))
    ·exact hz
   ·exact hz
  have:=hs j _ (kI (k:=k2) (p:=.sl size es) hm)
  rwa [SV.jZ e] at this
 cases hdst:o.dst with
 | none=>
  rw [hdst] at hx
  exact old hx (fun d e=>by rw [hdst] at e; cases e)
 | some d=>
  rw [hdst] at hx
  simp only [St.put,St.set] at hx
  split at hx
  ·next hlt=>
   cases List.mem_cons.1 hx with
   | inl e=>
    obtain ⟨rfl,rfl⟩:=Prod.mk.inj e
    have hm:(j,SV.b (.row k2)) ∈ ((⟨bT k2 sl,own⟩:St).put n o.dst (.b (.row k2))).slots:=by
     rw [hdst]; simp only [St.put,St.set,hlt,if_true]; exact List.mem_cons_self
    have:=hs j _ (kI (k:=k2) (p:=.sl size es) hm)
    simpa [SV.fE,BV.fE] using this
   | inr e=>exact old (cV e).1 (fun d' e'=>by rw [hdst] at e'; cases e'; exact (cV e).2)
  ·next hlt=>
   by_cases hjd:j = d
   ·exfalso
    subst hjd
    have hm:(j,x) ∈ ((⟨bT k2 sl,own⟩:St).put n o.dst (.b (.row k2))).slots:=by
     rw [hdst]; simp only [St.put,St.set,hlt,if_false]; exact hx
    obtain ⟨v,hv,_⟩:=hs j _ (kI (k:=k2) (p:=.sl size es) hm)
    have:=(Array.getElem?_eq_some_iff.1 hv).1
    omega
   ·exact old hx (fun d' e'=>by rw [hdst] at e'; cases e'; exact hjd)
theorem ab.bE (k i size:Nat) {T:TypeId} {ps:List CP} (hk:lk s.own k = some (.box T ps)) (hi:ps[i]? = some .nil) (hz:0 < size) (h:ab P E n cd ⟨s.slots,ins k (.box T (ps.set i (.sl size []))) s.own⟩ Q):ab P E n cd s Q:=fun a w hr=>h a w (hr.bE hk hi hz)
theorem af.bE (k i size:Nat) {T:TypeId} {ps:List CP} (hk:lk s.own k = some (.box T ps)) (hi:ps[i]? = some .nil) (hz:0 < size) (h:af P E n ops l ⟨s.slots,ins k (.box T (ps.set i (.sl size []))) s.own⟩ Q):af P E n ops l s Q:=fun a w hr=>h a w (hr.bE hk hi hz)
theorem vC {e:TypeId} (ht:P.underlying t = some (.slice e)) (hx:s.ev x = some (.b (.one .nil))) :
  bD P E n ⟨dst,.call ⟨.builtin .len,#[x],#[t]⟩,ty,pos,after,g⟩ s (s.put n dst (I 0)) :=
 bD.val (o:=⟨dst,.call ⟨.builtin .len,#[x],#[t]⟩,ty,pos,after,g⟩) fun ac w h ρ hw hs=>by
  have hv:=(ba hs hx:(CP.nil).rel h _)
  refine ⟨.int .i64 0,?_,rfl,oe (m:=0) (Nat.zero_le _)⟩
  rw [execOp_builtin,builtin_len]
  simp [hv.1,Builtin.len_,run_underlying ht,goInt]
inductive oQ:List CP → List CP → Prop
 | nil:oQ [] []
 | same {p:CP} {ps qs:List CP}:oQ ps qs → oQ (p :: ps) (p :: qs)
 | sl {size:Nat} {ps qs:List CP}:0 < size → oQ ps qs → oQ (.nil :: ps) (.sl size [] :: qs)
inductive l8:List BV → List BV → Prop
 | nil:l8 [] []
 | same {p:BV} {ps qs:List BV}:l8 ps qs → l8 (p :: ps) (p :: qs)
 | sl {size:Nat} {ps qs:List BV}:0 < size → l8 ps qs → l8 (.one .nil :: ps) (.one (.sl size []) :: qs)
theorem xN {h:PH} {size:Nat} {v:Value} (hz:0 < size) (hr:CP.nil.rel h v):(CP.sl size []).rel h v:=⟨fun ps hps=>by simp at hps,hz,.inl ⟨hr.1,rfl⟩⟩
theorem oQ.rel {h:PH}:∀ {ps qs:List CP} {vs:List Value},oQ ps qs → aS h ps vs → aS h qs vs
 | _,_,_,.nil,hr=>hr
 | _,_,_,.same hn,.cons a b=>.cons a (oQ.rel hn b)
 | _,_,_,.sl hz hn,.cons a b=>.cons (xN hz a) (oQ.rel hn b)
theorem l8.rel {h:PH} {ρ:RM}:∀ {ps qs:List BV} {vs:List Value},l8 ps qs → bl (fun (x:BV) u=>x.rel h ρ u ∧ u.oneCell' = true) ps vs → bl (fun (x:BV) u=>x.rel h ρ u ∧ u.oneCell' = true) qs vs
 | _,_,_,.nil,hr=>hr
 | _,_,_,.same hn,.cons a b=>.cons a (l8.rel hn b)
 | _,_,_,.sl hz hn,.cons a b=>.cons ⟨xN hz a.1,a.2⟩ (l8.rel hn b)
theorem bD.weak {s1:St} {x x':SV} (h1:bD P E n o s (s1.put n o.dst x)) (hx:∀ (h:PH) (ρ:RM) (v:Value),x.rel h ρ v → x'.rel h ρ v):bD P E n o s (s1.put n o.dst x'):=h1.then' fun a w hr=>by
 obtain ⟨hd,hn,h,ρ,hw,hs⟩:=hr
 have hown:∀ (x:SV),(s1.put n o.dst x).own = s1.own:=fun x=>by
  unfold St.put; split
  ·unfold St.set; split <;> rfl
  ·rfl
 refine ⟨hd,hn,h,ρ,by rw [hown] at hw ⊢; exact hw,fun j y hy=>?_⟩
 cases hdst:o.dst with
 | none=>rw [hdst] at hy hs; exact hs j y hy
 | some d=>
  rw [hdst] at hy hs
  simp only [St.put,St.set] at hy hs
  split at hy
  ·next hlt=>
   simp only [hlt,if_true] at hs
   cases List.mem_cons.1 hy with
   | inl e=>
    obtain ⟨rfl,rfl⟩:=Prod.mk.inj e
    obtain ⟨v,hv,hrel⟩:=hs j x List.mem_cons_self
    exact ⟨v,hv,hx h ρ v hrel⟩
   | inr e=>exact hs j y (List.mem_cons_of_mem _ e)
  ·next hlt=>
   simp only [hlt,if_false] at hs
   exact hs j y hy
theorem bD.jH {s1:St} {ps qs:List CP} (hn:oQ ps qs) (h1:bD P E n o s (s1.put n o.dst (.b (.agg ps)))):bD P E n o s (s1.put n o.dst (.b (.agg qs))) :=
 h1.weak fun _ _ _ ⟨cs,e,hr⟩=>⟨cs,e,hn.rel hr⟩
theorem bD.nilX {s1:St} {ps qs:List BV} (hn:l8 ps qs) (h1:bD P E n o s (s1.put n o.dst (.gw ps))):bD P E n o s (s1.put n o.dst (.gw qs)) :=
 h1.weak fun _ _ _ ⟨cs,e,hr⟩=>⟨cs,e,hn.rel hr⟩
def mz {α:Type} (xs ys:List α):List α:=ys.take xs.length ++ xs.drop ys.length
theorem yP {α:Type} (e:α → List CP) (xs ys:List α):mz (xs.map e) (ys.map e) = (mz xs ys).map e:=by simp [mz,List.map_take,List.map_drop]
theorem yp {α:Type} (xs ys:List α):ju xs 0 (ys.take xs.length) = mz xs ys:=by
 unfold ju mz
 simp only [List.take_zero,List.nil_append,List.length_take]
 congr 1
 by_cases h:ys.length ≤ xs.length
 ·rw [Nat.min_eq_right h]; simp
 ·rw [Nat.min_eq_left (by omega),List.drop_eq_nil_of_le (by omega),List.drop_eq_nil_of_le (by omega)]
theorem uv {k size bytes:Nat} {T e:TypeId} {zs:List CP} {es es' news:List (List CP)} (ht:jJ P t e size bytes zs) (hx:s.ev x = some (.b (.row k))) (hk:lk s.own k = some (.row T size es)) (hy:s.ev y = some (.b (.one (.sl size news)))) (he:mz es news = es') (hfine:(s.slots.all fun p=>p.2.wO k || (match p.2 with | .b (.row j)=>j == k | _=>false)) = true) (hfx:n.fix.contains k = false) (hnu:dx k s.own = true:=by rfl) :
  bD P E n ⟨dst,.call ⟨.builtin .copy,#[x,y],#[t,yt]⟩,ty,pos,after,g⟩ s ((⟨s.slots,ins k (.row T size es') s.own⟩:St).put n dst (.b (.one .any))):=by
 intro a w hr next Q hnext
 subst he
 obtain ⟨hdf,hn,h,ρ,hw,hs⟩:=hr
 have hv:a.eval x = ρ k:=(ba hs hx:BV.rel h ρ (.row k) _)
 obtain ⟨hu,hz,hf⟩:=iP hw hk
 have hyr:=(ba hs hy:(CP.sl size news).rel h _)
 have hrow:∀ {w':World},(execOp a.eval (⟨dst,.call ⟨.builtin .copy,#[x,y],#[t,yt]⟩,ty,pos,after,g⟩:Oper)).run P w = .ok (.value (goInt ↑(min news.length es.length))) w' → WR E n (ins k (.row T size (mz es news)) s.own) h ρ w' → Oper.wp P ⟨dst,.call ⟨.builtin .copy,#[x,y],#[t,yt]⟩,ty,pos,after,g⟩ a w next Q:=fun {w'} hrun hw'=>by
  unfold Oper.wp
  rw [hrun]
  exact hnext _ _ (R.put (s:=⟨s.slots,_⟩) hdf hn hw' hs rfl)
 rcases hf with ⟨hρ,rfl⟩ | ⟨b,cap,cur,hρ,hb,h1,h2,h3,h4⟩
 ·refine hrow (w':=w) ?_ ?_
  ·rw [execOp_builtin]
   show Sem.run _ _ _ = _
   simp only [builtin,List.map_toArray,List.map_cons,List.map_nil,hv,hρ]
   obtain ⟨_,_,hform⟩:=hyr
   obtain ⟨inf,z,hi,hsz,_⟩:=ht.info
   rcases hform with ⟨hy1,hy2⟩ | ⟨sb,so,sc,hy1,_⟩ | ⟨ad,hy1,_⟩ <;> rw [hy1]
   ·simp [Builtin.copy_,run_underlying ht.und,goInt,Builtin.lenOf,Builtin.firstCells,sizeOf,typeInfo,hi,hsz]
   ·have hl:=run_loadCells_list (P:=P) w ⟨sb,so,none⟩ [] (fun j v hv=>by simp at hv)
    simp at hl
    simp [Builtin.copy_,run_underlying ht.und,goInt,Builtin.lenOf,Builtin.firstCells,sizeOf,typeInfo,hi,hsz,hl]
   ·have hl:=run_loadCells_list (P:=P) w ad [] (fun j v hv=>by simp at hv)
    simp at hl
    simp [Builtin.copy_,run_underlying ht.und,goInt,Builtin.lenOf,Builtin.firstCells,sizeOf,typeInfo,hi,hsz,hl]
  ·have:mz ([]:List (List CP)) news = []:=by simp [mz]
   rw [this]
   exact (hw.uG hk (hw.owned k _ (bn hk)).1)
 ·obtain ⟨_,_,hform⟩:=id hyr
  obtain ⟨hnu',hnz,_⟩:=hyr
  have hsrc:∃ sb so sc cs,(a.eval y = .slice none 0 0 ∧ news = []) ∨ (∃ ad,a.eval y = .slice (some ad) 0 0 ∧ news = []) ∨ (a.eval y = .slice (some ⟨sb,so,none⟩) news.length sc ∧ aS h news.flatten cs ∧ ∀ j u,cs[j]? = some u → w.cell? ⟨sb,so + j,none⟩ = some u):=by
   rcases hform with ⟨hy1,hy2⟩ | ⟨sb,so,sc,hy1,hy2,hy3,hy4⟩ | ⟨ad,hy1,hy2⟩
   ·exact ⟨0,0,0,[],.inl ⟨hy1,hy2⟩⟩
   rotate_left
   ·exact ⟨0,0,0,[],.inr (.inl ⟨ad,hy1,hy2⟩)⟩
   ·obtain ⟨cs,hc1,hc2⟩:=hy4.list
    exact ⟨sb,so,sc,cs,.inr (.inr ⟨hy1,hc1,fun j u hu=>hw.agree.cell (hc2 j u hu) (hc1.one u (List.mem_of_getElem? hu))⟩)⟩
  obtain ⟨sb,so,sc,cs,hy | ⟨ad,hy⟩ | ⟨hy1,hc1,hc2⟩⟩:=hsrc
  ·obtain ⟨hy1,rfl⟩:=hy
   refine hrow (w':=w) ?_ ?_
   ·rw [execOp_builtin]
    show Sem.run _ _ _ = _
    simp only [builtin,List.map_toArray,List.map_cons,List.map_nil,hv,hρ,hy1]
    obtain ⟨inf,z,hi,hsz,_⟩:=ht.info
    have hst:(storeCells ⟨b,0,none⟩ []).run P w = .ok () w:=by simp [storeCells,Sem.run]
    simp [Builtin.copy_,run_underlying ht.und,goInt,Builtin.lenOf,Builtin.firstCells,sizeOf,typeInfo,hi,hsz,hst]
   ·have:mz es ([]:List (List CP)) = es:=by simp [mz]
    rw [this]
    exact (hw.uG hk (hw.owned k _ (bn hk)).1)
  ·obtain ⟨hy1,rfl⟩:=hy
   refine hrow (w':=w) ?_ ?_
   ·rw [execOp_builtin]
    show Sem.run _ _ _ = _
    simp only [builtin,List.map_toArray,List.map_cons,List.map_nil,hv,hρ,hy1]
    obtain ⟨inf,z,hi,hsz,_⟩:=ht.info
    have hst:(storeCells ⟨b,0,none⟩ []).run P w = .ok () w:=by simp [storeCells,Sem.run]
    have hl:=run_loadCells_list (P:=P) w ad [] (fun j v hv=>by simp at hv)
    simp at hl
    simp [Builtin.copy_,run_underlying ht.und,goInt,Builtin.lenOf,Builtin.firstCells,sizeOf,typeInfo,hi,hsz,hst,hl]
   ·have:mz es ([]:List (List CP)) = es:=by simp [mz]
    rw [this]
    exact (hw.uG hk (hw.owned k _ (bn hk)).1)
  ·have hm:(news.take es.length).length = min news.length es.length:=by rw [List.length_take,Nat.min_comm]
   have hun2:cQ size (news.take es.length):=fun ps hp=>hnu' ps (List.mem_of_mem_take hp)
   have hcr2:aS h (news.take es.length).flatten (cs.take (es.length * size)):=by
    have e1:(news.take es.length).flatten = news.flatten.take (es.length * size):=kH hnu' _
    rw [e1]
    exact bl.take hc1 _
   obtain ⟨w',hrun,g1,g2,g3,g4,g5⟩:=xj (ty:=ty) (yt:=yt) (lo:=0) (dlen:=es.length) (dcap:=cap) (sb:=sb) (so:=so) (slen:=news.length) (sc:=sc) (news:=news.take es.length) (cs:=cs.take (es.length * size)) hw ht hk hρ (by rw [hm]) hun2 hcr2 (fun j u hj=>hc2 j u (by
    rw [List.getElem?_take] at hj
    split at hj
    ·exact hj
    ·cases hj)) (Nat.zero_le _) (by rw [hm]; omega)
   rw [yp] at g5
   have hlen:(mz es news).length = es.length:=by simp [mz]; omega
   rw [hlen] at g5
   refine hrow (w':=w') ?_ ?_
   ·rw [execOp_builtin]
    show Sem.run _ _ _ = _
    simp only [builtin,List.map_toArray,List.map_cons,List.map_nil,hv,hρ,hy1]
    rw [Nat.zero_mul] at hrun
    rw [Sem.run_bind,hrun,hm]
    rfl
   ·have hst:=hw.step (w':=w') k (.slice (some ⟨b,0,none⟩) es.length cap) (.row T size (mz es news)) (some b) (fun b' e=>by cases e; exact ⟨_,bn hk,by rw [hρ]; rfl⟩) (by omega) g2 g3
     (fun b' _ hne=>g4 b' (fun e=>hne (by rw [e]))) g5 (fun b' hb'=>by simp [bf] at hb'; exact .inl (by rw [hb'])) (.inl hρ.symm) (.inl hρ.symm)
    have:kM ρ k (.slice (some ⟨b,0,none⟩) es.length cap) = ρ:=by rw [← hρ]; exact gE ρ k
    rwa [this] at hst
theorem qn {f:Nat} {fs cs:List CV} (hu:∃ ps rs v,P.underlying t = some (.func ps rs v)) (hx:s.ev x = some (.b (.iK f fs cs))) :
  bD P E n ⟨dst,.binOp .neq t x (.const .nilFunc) yt,ty,pos,after,g⟩ s (s.put n dst (B true)) :=
 bD.val (o:=⟨dst,.binOp .neq t x (.const .nilFunc) yt,ty,pos,after,g⟩) fun ac w h ρ hw hs=>by
  obtain ⟨_,_,_,hu⟩:=hu
  obtain ⟨va,vb,hv,_⟩:=(ba hs hx:BV.rel h ρ (.iK f fs cs) _)
  refine ⟨.bool true,?_,rfl⟩
  have:=rI (w:=w) (u:=ac.eval x) hu (.inl ⟨_,_,_,hv,rfl⟩)
  rw [hv] at this
  simp only [execOp,hv,show ac.eval (.const .nilFunc) = .nilFunc from rfl]
  simp [eqGuard,binOp,this]
theorem ur (hu:∃ ps rs v,P.underlying t = some (.func ps rs v)) (hx:s.ev x = some (.b (.one (.raw .nilFunc)))) :
  bD P E n ⟨dst,.binOp .neq t x (.const .nilFunc) yt,ty,pos,after,g⟩ s (s.put n dst (B false)) :=
 bD.val (o:=⟨dst,.binOp .neq t x (.const .nilFunc) yt,ty,pos,after,g⟩) fun ac w h ρ hw hs=>by
  obtain ⟨_,_,_,hu⟩:=hu
  have hv:ac.eval x = .nilFunc:=(ba hs hx:(CP.raw _).rel h _).1
  refine ⟨.bool false,?_,rfl⟩
  have:=rI (w:=w) (u:=ac.eval x) hu (.inr ⟨hv,rfl⟩)
  rw [hv] at this
  simp only [execOp,hv,show ac.eval (.const .nilFunc) = .nilFunc from rfl]
  simp [eqGuard,binOp,this]
end
section
variable {P:Program} {TB:b5} {E:Env TB} {n:Sh} {s:St} {Q:dN} {cd:Code} {ops:Array Oper} {l:List Oper}
end
section
variable {P:Program} {TB:b5} {E:Env TB} {n:Sh} {s:St} {dst:Option Nat} {t ty yt:TypeId} {pos:String} {after:Array Edge} {g:Option (Nat × Bool)} {x y c:Operand}
end
theorem ux {vis:List Int} {r1 r2:cZ} {p:Int × Int} {ks:List Int} (h:(vis ++ (r1 ++ p :: r2).map (·.1)).Perm ks):((vis ++ [p.1]) ++ (r1 ++ r2).map (·.1)).Perm ks:=by
 refine List.Perm.trans ?_ h
 rw [List.append_assoc]
 refine List.Perm.append_left vis ?_
 rw [List.map_append,List.map_append,List.map_cons]
 show (p.1 :: (r1.map (·.1) ++ r2.map (·.1))).Perm _
 exact List.perm_middle.symm
theorem pj {vis:List Int} {r1 r2:cZ} {p:Int × Int} {m:cZ} (h:(vis ++ (r1 ++ p :: r2).map (·.1)).Perm (m.map (·.1))) (hm:m.length ≤ 1000000000):vis.length + [p.1].length ≤ 1000000000:=by
 have:=h.length_eq
 simp at this ⊢
 omega
theorem tw {a b:List Int} (h:a.Perm b):sorted a = sorted b:=by
 have pw:∀ l:List Int,(sorted l).Pairwise (· ≤ ·):=fun l=>by
  have:=List.pairwise_mergeSort (le:=fun x y:Int=>decide (x ≤ y)) (by intro a b c; simp; omega) (by intro a b; simp; omega) l
  exact this.imp fun h=>by simpa using h
 refine List.Perm.eq_of_pairwise (le:=fun x y:Int=>x ≤ y) (fun a b _ _ h1 h2=>by omega) (pw a) (pw b) ?_
 exact ((List.mergeSort_perm a _).trans h).trans (List.mergeSort_perm b _).symm
def m0 (zs:List Int):Option (List Int):=if zs.length < 1000000000 then some (sorted zs) else none
theorem vo {vis ks r:List Int} (h:vis.Perm ks) (hr:m0 ks = some r):m0 vis = some r:=by
 unfold m0 at hr ⊢
 rw [h.length_eq,tw h]
 exact hr
section
open Go Go.BigFrame Go.RowKit Go.Proofs Go.Shelf
variable {P:Program} {TB:b5} {ρ:Ren}
theorem uy (L:Lays.n189 P ρ) (hnil:aA P TB (ρ.f 189) [] [.one .nil] (Is [] (.gR []))) {T:TypeId} {zs r:List Int} (hr:m0 zs = some r):aA P TB (ρ.f 189) [(1,.jI T 1 (zs.map eI))] [.row 1] (Is [(1,.jI T 1 (r.map eI))] (.gR [])):=by
 unfold m0 at hr
 split at hr
 ·next hl=>
  cases hr
  intro w h ρ' vals tb hag hlent hargs
  obtain ⟨v,rfl,hv⟩:=ug hargs
  have hv':v = ρ' 1:=hv
  subst hv'
  have hw:=pG tb hag hlent
  obtain ⟨_,_,hf⟩:=xi hw (k:=1) rfl
  rcases hf with ⟨hn,h0⟩ | ⟨b,cap,cur,h1,h2,h3,h4,h5,h6⟩
  ·have hz:zs = []:=List.map_eq_nil_iff.1 h0
   subst hz
   refine (hnil w h ρ' _ tb hag (fun k c hk=>by simp at hk) (.cons (by rw [hn]; exact ⟨rfl,rfl⟩) .nil)).mono ?_
   rintro e w' ⟨v,own',res,h',ρ'',rfl,⟨rfl,rfl⟩,hc,vs,rfl,hvs⟩
   have e0:sorted [] = []:=by simp [sorted]
   exact ⟨_,_,_,h',ρ',rfl,⟨rfl,rfl⟩,by rw [e0]; exact hw.none hc,vs,rfl,by
    generalize vs.toList = l at hvs
    cases hvs
    exact .nil⟩
  rw [List.length_map] at h1 h3 h6
  rw [Nat.mul_one] at h5 h6
  obtain ⟨e1,e2⟩:=ua h6
  have hlen:(sorted zs).length = zs.length:=List.length_mergeSort zs
  have hbl:b < w.heap.size:=(Array.getElem?_eq_some_iff.1 h2).1
  rw [h1]
  refine (Any.slices_Sort_int L b 0 cap zs w (rR h2 e1) hbl (by omega)).mono ?_
  rintro e w' ⟨rfl,q,os,rfl⟩
  have hsz:(Sort.putRow (Value.int .i64) (Sort.ahead w q) b 0 (sorted zs).toArray).heap.size = w.heap.size:=by simp [Sort.putRow,Sort.mapBlock,Sort.ahead]
  have hst:=hw.step (w':=Sort.grow (Sort.putRow (Value.int .i64) (Sort.ahead w q) b 0 (sorted zs).toArray) os) 1 (ρ' 1) (.jI T 1 ((sorted zs).map eI)) (some b) (fun b' e=>by cases e; exact ⟨.jI T 1 (zs.map eI),List.mem_cons_self,by rw [h1]; rfl⟩)
   (by rw [Sort.size_grow,hsz]; omega) rfl rfl (fun c hc hne=>by
    rw [Sort.heap_grow_old _ _ (by rw [hsz]; exact hc)]
    exact kC (w:=Sort.ahead w q) (fun e=>hne (by rw [e]))) ?_ (fun b' hb'=>by rw [h1] at hb'; simp [bf] at hb'; exact .inl (by rw [hb'])) (.inl rfl) (.inl rfl)
  ·have:kM ρ' 1 (ρ' 1) = ρ':=by funext j; simp only [kM]; split <;> simp_all
   rw [this] at hst
   exact ⟨.tuple #[],_,_,h,ρ',rfl,⟨rfl,rfl⟩,hst,_,rfl,.nil⟩
  ·refine ⟨uni_I _,by decide,(sorted zs).map (Value.int .i64),⟨by simp [hlen],.inr ⟨b,cap,Sort.putCells (Value.int .i64) 0 (sorted zs).toArray cur,by rw [h1,List.length_map,hlen],Nat.zero_le _,?_,by rw [List.length_map,hlen]; exact h3,h4,?_,?_⟩⟩,tR fun z hz=>e2 z (List.mem_mergeSort.1 hz)⟩
   ·rw [Sort.heap_grow_old _ _ (by rw [hsz]; exact hbl)]
    exact oW (w:=Sort.ahead w q) h2
   ·simp [Sort.putCells,h5]
   ·rw [List.length_map,Nat.mul_one]
    exact oS (by rw [h5,hlen]; exact h3)
 ·simp at hr
end
end Go.Sk
namespace Go.Sk
set_option linter.unusedSimpArgs false
set_option linter.unusedVariables false
open Go Go.ChangeShapes Go.WideShapes Go.ChangeAt Go.RowKit Go.Deep
theorem fw.sl {P:Program} {t el:TypeId} {α:Type} {e:α → List CP} {size:Nat} (ht:P.underlying t = some (.slice el)) (hc:P.cellsOf t = 1) (hr:fw P el e) (hs:P.cellsOf el = size) (hpos:0 < size):fw P t (eL size e) where
 len _:=by simp [hc,eL]
 op {H enc W sp held fuel cs x} hsp hf:=by
  subst hs
  have hu:∀ l:List α,cQ (P.cellsOf el) (l.map e):=fun l=>bc fun x=>hr.len x
  rcases open_slice ht hf with ⟨h1,hx0⟩ | ⟨a,len,cap,m,n,D,Pl,h1,hb,hl,hm,hmm,hx,hi⟩
  ·subst h1
   exact ⟨[],.cons ⟨hu [],hpos,.inl ⟨rfl,rfl⟩⟩ .nil⟩
  ·subst h1
   rw [hsp,if_pos rfl] at hmm
   subst hmm
   by_cases hm0:m = 0
   ·subst hm0
    have:len = 0:=by omega
    subst this
    exact ⟨[],.cons ⟨hu [],hpos,.inr (.inr ⟨a,rfl,rfl⟩)⟩ .nil⟩
   ·obtain ⟨l,hll,hp⟩:=j8 (p:=fun i a'=>aS (full W) (e a') ((W.cells? 0 (a.add (i * P.cellsOf el)) (P.cellsOf el)).getD [])) len fun i hil=>by
     obtain ⟨cs',h2,h3⟩:=hi i (by omega)
     obtain ⟨a',ha'⟩:=hr.op hsp h3
     exact ⟨a',by rw [h2]; exact ha'⟩
    have hspot:a.spot = none:=by
     obtain ⟨cs',h2,_⟩:=hi 0 (by omega)
     obtain ⟨_,hcl,hcell⟩:=World.cells?_some h2
     have h3:=hcell 0 hpos
     rw [Nat.zero_mul] at h3
     have e0:(a.add 0).add 0 = a:=by simp [Addr.add]
     rw [e0] at h3
     have hlt:0 < cs'.length:=by omega
     rw [List.getElem?_eq_getElem hlt] at h3
     unfold World.cell? at h3
     split at h3
     ·split at h3
      ·cases h3
      ·next hns=>simpa using hns
     ·cases h3
    obtain ⟨b,o,s⟩:=a
    simp only at hspot
    subst hspot
    refine ⟨l,.cons ⟨hu l,hpos,.inr (.inl ⟨b,o,m,by simp [hll],by simp [hll]; omega,hm,?_⟩)⟩ .nil⟩
    intro j c hj
    have hjl:j < (l.map e).flatten.length:=(List.getElem?_eq_some_iff.1 hj).1
    rw [fj (hu l),List.length_map,hll] at hjl
    have hi':j / P.cellsOf el < len:=by
     rw [Nat.div_lt_iff_lt_mul hpos]; exact hjl
    have hj':j % P.cellsOf el < P.cellsOf el:=Nat.mod_lt _ hpos
    have hdm:=Nat.div_add_mod j (P.cellsOf el)
    obtain ⟨cs',h2,h3⟩:=hi (j / P.cellsOf el) (by omega)
    have hli:l[j / P.cellsOf el]? = some (l[j / P.cellsOf el]'(by omega)):=List.getElem?_eq_getElem (by omega)
    have hrel:=hp _ _ hli
    rw [h2] at hrel
    have hget:=ic (hu l) (j / P.cellsOf el) (e (l[j / P.cellsOf el]'(by omega))) (by rw [List.getElem?_map,hli]; rfl) (j % P.cellsOf el) hj'
    have ej:j / P.cellsOf el * P.cellsOf el + j % P.cellsOf el = j:=by rw [Nat.mul_comm]; omega
    rw [ej,hj] at hget
    obtain ⟨u,hu1,hu2⟩:=bl.get hrel _ _ hget.symm
    refine ⟨u,?_,hu2⟩
    obtain ⟨_,hcl,hcell⟩:=World.cells?_some h2
    have:=hcell _ hj'
    simp only [Option.getD_some] at hu1
    have ea:((⟨b,o,none⟩:Addr).add (j / P.cellsOf el * P.cellsOf el)).add (j % P.cellsOf el) = ⟨b,o + j,none⟩:=by
     rw [kj,kj,Nat.add_assoc,ej]
    rw [hu1,ea] at this
    exact jA this (CP.one _ hu2)
end Go.Sk
namespace Go.Sk
set_option linter.unusedSimpArgs false
set_option linter.unusedVariables false
open Go
theorem rH {h:PH} {size:Nat} {es:List (List CP)} {v:Value} (hv:(CP.sl size es).rel h v) {ps:List CP} (hps:ps ∈ es) {p:CP} (hp:p ∈ ps):∃ u,p.rel h u:=by
 obtain ⟨_,_,⟨_,rfl⟩ | ⟨b,o,c,_,_,_,hr⟩ | ⟨_,_,rfl⟩⟩:=hv
 ·cases hps
 ·have hm:p ∈ es.flatten:=List.mem_flatten.2 ⟨ps,hps,hp⟩
  obtain ⟨i,hi,rfl⟩:=List.getElem_of_mem hm
  obtain ⟨u,_,hu⟩:=hr i _ (List.getElem?_eq_getElem hi)
  exact ⟨u,hu⟩
 ·cases hps
theorem sF {h:PH} {size:Nat} {es:List (List CP)} (hv:∃ u,(CP.sl size es).rel h u):es.length ≤ 9223372036854775807:=by
 obtain ⟨u,hu⟩:=hv
 have:=uV hu
 rwa [fO] at this
end Go.Sk
namespace Go.Sk
set_option linter.unusedSimpArgs false
set_option linter.unusedVariables false
open Go Go.ChangeShapes Go.WideShapes Go.ChangeAt Go.RowKit Go.Deep
structure xu {H:Type} (bk:DataW H → Nat):Prop where
 len:∀ els sp,els.length ≤ bk (.slice els sp)
 sl:∀ els sp d,d ∈ els → bk d ≤ bk (.slice els sp)
 agg:∀ ps d,d ∈ ps → bk d ≤ bk (.agg ps)
structure eC (P:Program) (t:TypeId) {α:Type} (e:α → List CP) (B:α → Nat → Prop):Prop where
 len:∀ a,(e a).length = P.cellsOf t
 mono:∀ a n m,B a n → n ≤ m → B a m
 op:∀ {H:Type} {enc:TypeId × Value → H} {W:World} {sp:Nat → Bool} {held:Bool} {fuel:Nat} {cs:List Value} {x:DataW H × List MemPlace},(∀ b,sp b = true) → DataW.trod enc P W 0 sp held fuel t cs = some x → ∃ a,aS (full W) (e a) cs ∧ ∀ bk:DataW H → Nat,xu bk → B a (bk x.1)
theorem fw.toB {P:Program} {t:TypeId} {α:Type} {e:α → List CP} (h:fw P t e):eC P t e (fun _ _=>True) where
 len:=h.len
 mono _ _ _ _ _:=trivial
 op hsp hx:=by
  obtain ⟨a,ha⟩:=h.op hsp hx
  exact ⟨a,ha,fun _ _=>trivial⟩
theorem eC.sl {P:Program} {t el:TypeId} {α:Type} {e:α → List CP} {B:α → Nat → Prop} {size:Nat} (ht:P.underlying t = some (.slice el)) (hc:P.cellsOf t = 1) (hr:eC P el e B) (hs:P.cellsOf el = size) (hpos:0 < size):eC P t (eL size e) (fun l n=>l.length ≤ n ∧ ∀ a ∈ l,B a n) where
 len _:=by simp [hc,eL]
 mono l n m h hnm:=⟨by have:=h.1; omega,fun a ha=>hr.mono a n m (h.2 a ha) hnm⟩
 op {H enc W sp held fuel cs x} hsp hf:=by
  subst hs
  have hu:∀ l:List α,cQ (P.cellsOf el) (l.map e):=fun l=>bc fun x=>hr.len x
  rcases open_slice ht hf with ⟨h1,hx0⟩ | ⟨a,len,cap,m,n,D,Pl,h1,hb,hl,hm,hmm,hx,hi⟩
  ·subst h1
   exact ⟨[],.cons ⟨hu [],hpos,.inl ⟨rfl,rfl⟩⟩ .nil,fun bk hbk=>⟨Nat.zero_le _,by simp⟩⟩
  ·subst h1
   rw [hsp,if_pos rfl] at hmm
   subst hmm
   by_cases hm0:m = 0
   ·subst hm0
    have:len = 0:=by omega
    subst this
    exact ⟨[],.cons ⟨hu [],hpos,.inr (.inr ⟨a,rfl,rfl⟩)⟩ .nil,fun bk hbk=>⟨Nat.zero_le _,by simp⟩⟩
   ·obtain ⟨l,hll,hp⟩:=j8 (p:=fun i a'=>aS (full W) (e a') ((W.cells? 0 (a.add (i * P.cellsOf el)) (P.cellsOf el)).getD []) ∧ ∀ bk:DataW H → Nat,xu bk → B a' (bk (D i))) len fun i hil=>by
     obtain ⟨cs',h2,h3⟩:=hi i (by omega)
     obtain ⟨a',ha',hB⟩:=hr.op hsp h3
     exact ⟨a',by rw [h2]; exact ha',hB⟩
    have hspot:a.spot = none:=by
     obtain ⟨cs',h2,_⟩:=hi 0 (by omega)
     obtain ⟨_,hcl,hcell⟩:=World.cells?_some h2
     have h3:=hcell 0 hpos
     rw [Nat.zero_mul] at h3
     have e0:(a.add 0).add 0 = a:=by simp [Addr.add]
     rw [e0] at h3
     have hlt:0 < cs'.length:=by omega
     rw [List.getElem?_eq_getElem hlt] at h3
     unfold World.cell? at h3
     split at h3
     ·split at h3
      ·cases h3
      ·next hns=>simpa using hns
     ·cases h3
    obtain ⟨b,o,s⟩:=a
    simp only at hspot
    subst hspot
    refine ⟨l,.cons ⟨hu l,hpos,.inr (.inl ⟨b,o,m,by simp [hll],by simp [hll]; omega,hm,?_⟩)⟩ .nil,fun bk hbk=>?_⟩
    ·intro j c hj
     have hjl:j < (l.map e).flatten.length:=(List.getElem?_eq_some_iff.1 hj).1
     rw [fj (hu l),List.length_map,hll] at hjl
     have hi':j / P.cellsOf el < len:=by
      rw [Nat.div_lt_iff_lt_mul hpos]; exact hjl
     have hj':j % P.cellsOf el < P.cellsOf el:=Nat.mod_lt _ hpos
     have hdm:=Nat.div_add_mod j (P.cellsOf el)
     obtain ⟨cs',h2,h3⟩:=hi (j / P.cellsOf el) (by omega)
     have hli:l[j / P.cellsOf el]? = some (l[j / P.cellsOf el]'(by omega)):=List.getElem?_eq_getElem (by omega)
     have hrel:=(hp _ _ hli).1
     rw [h2] at hrel
     have hget:=ic (hu l) (j / P.cellsOf el) (e (l[j / P.cellsOf el]'(by omega))) (by rw [List.getElem?_map,hli]; rfl) (j % P.cellsOf el) hj'
     have ej:j / P.cellsOf el * P.cellsOf el + j % P.cellsOf el = j:=by rw [Nat.mul_comm]; omega
     rw [ej,hj] at hget
     obtain ⟨u,hu1,hu2⟩:=bl.get hrel _ _ hget.symm
     refine ⟨u,?_,hu2⟩
     obtain ⟨_,hcl,hcell⟩:=World.cells?_some h2
     have:=hcell _ hj'
     simp only [Option.getD_some] at hu1
     have ea:((⟨b,o,none⟩:Addr).add (j / P.cellsOf el * P.cellsOf el)).add (j % P.cellsOf el) = ⟨b,o + j,none⟩:=by
      rw [kj,kj,Nat.add_assoc,ej]
     rw [hu1,ea] at this
     exact jA this (CP.one _ hu2)
    ·subst hx
     refine ⟨?_,fun a' ha'=>?_⟩
     ·show l.length ≤ bk (.slice ((List.range len).map D) ((List.range (m - len)).map fun j=>D (len + j)))
      have:=hbk.len ((List.range len).map D) ((List.range (m - len)).map fun j=>D (len + j))
      simp only [List.length_map,List.length_range] at this
      omega
     ·obtain ⟨i,hil,rfl⟩:=List.getElem_of_mem ha'
      have h6:=(hp i _ (List.getElem?_eq_getElem hil)).2 bk hbk
      exact hr.mono _ _ _ h6 (hbk.sl _ _ _ (List.mem_map.2 ⟨i,List.mem_range.2 (by omega),rfl⟩))
inductive oi (P:Program) (fs:Array Field) (T:Nat):Nat → Nat → {β:Type} → (β → List CP) → (β → Nat → Prop) → Prop where
 | nil {i:Nat} (hi:fs.size ≤ i):oi P fs T i T (fun _:Unit=>[]) (fun _ _=>True)
 | cons {i o:Nat} {α β:Type} {e:α → List CP} {B:α → Nat → Prop} {es:β → List CP} {Bs:β → Nat → Prop} {f:Field} (hf:fs[i]? = some f) (ho:f.offset = o) (hr:eC P f.type e B) (h:oi P fs T (i + 1) (o + P.cellsOf f.type) es Bs):oi P fs T i o (fun x:α × β=>e x.1 ++ es x.2) (fun x n=>B x.1 n ∧ Bs x.2 n)
theorem oi.op {P:Program} {fs:Array Field} {T i o:Nat} {β:Type} {es:β → List CP} {Bs:β → Nat → Prop} (h:oi P fs T i o es Bs) {H:Type} {enc:TypeId × Value → H} {W:World} {sp:Nat → Bool} {held:Bool} {n:Nat} {cs:List Value} {xs:List (DataW H × List MemPlace)} (hsp:∀ b,sp b = true) (hl:cs.length = T)
  (hx:xs.length = fs.size) (hv:∀ (j:Nat) (f:Field),fs[j]? = some f → DataW.trod enc P W 0 sp held n f.type ((cs.drop f.offset).take (P.cellsOf f.type)) = xs[j]?):∃ b,aS (full W) (es b) (cs.drop o) ∧ ∀ bk:DataW H → Nat,xu bk → Bs b (bk (.agg (xs.map (·.1)))):=by
 induction h with
 | nil hi=>exact ⟨(),by rw [List.drop_of_length_le (by omega)]; exact .nil,fun _ _=>trivial⟩
 | @cons i o α β e B es Bs f hf ho hr h ih=>
  obtain ⟨b,hb,hB⟩:=ih
  have hi:i < xs.length:=by
   rw [hx]
   exact (Array.getElem?_eq_some_iff.1 hf).1
  have h1:=hv i f hf
  rw [List.getElem?_eq_getElem hi] at h1
  obtain ⟨a,ha,hA⟩:=hr.op hsp h1
  refine ⟨(a,b),?_,fun bk hbk=>⟨hr.mono _ _ _ (hA bk hbk) (hbk.agg _ _ (List.mem_map.2 ⟨xs[i],List.getElem_mem hi,rfl⟩)),hB bk hbk⟩⟩
  have e1:cs.drop o = (cs.drop o).take (P.cellsOf f.type) ++ cs.drop (o + P.cellsOf f.type):=by
   rw [← List.drop_drop,List.take_append_drop]
  rw [e1]
  subst ho
  exact bl.append ha hb
theorem eC.struct {P:Program} {t:TypeId} {fs:Array Field} {α β:Type} {e:α → List CP} {es:β → List CP} {B:α → Nat → Prop} {Bs:β → Nat → Prop} (g:β → α) (ht:P.underlying t = some (.struct fs)) (h:oi P fs (P.cellsOf t) 0 0 es Bs) (hl:∀ a,(e a).length = P.cellsOf t) (he:∀ b,e (g b) = es b) (hB:∀ b n,Bs b n → B (g b) n) (hm:∀ a n m,B a n → n ≤ m → B a m):eC P t e B where
 len:=hl
 mono:=hm
 op hsp hh:=by
  obtain ⟨xs,n,_,hx,hcl,hxl,hv⟩:=DataW.trod_struct ht hh
  obtain ⟨b,hb,hB'⟩:=h.op hsp hcl hxl hv
  refine ⟨g b,by rw [he]; exact hb,fun bk hbk=>?_⟩
  rw [hx]
  exact hB _ _ (hB' bk hbk)
theorem yy {P:Program} {H:Type} {enc:TypeId × Value → H} {W:World} {base:Nat} {sp:Nat → Bool} {held:Bool} {t el:TypeId} {α:Type} {e:α → List CP} {B:α → Nat → Prop} {v:Value} {d:DataW H} {ps:List MemPlace} (ht:P.underlying t = some (.slice el)) (hr:eC P el e B) {size:Nat} (hs:P.cellsOf el = size) (hpos:0 < size) (hct:P.cellsOf t = 1)
  (hval:Value.okWide P W .any base t v) (h:DataW.Trod enc P W 0 sp held t v d ps) (hsp:∀ b,sp b = true:=by intro _; rfl):∃ l:List α,(CP.sl size (l.map e)).rel (full W) v ∧ ∀ bk:DataW H → Nat,xu bk → (l.length ≤ bk d ∧ ∀ a ∈ l,B a (bk d)):=by
 obtain ⟨fuel,hf⟩:=h
 have hc:v.cells.toList = [v]:=by
  rcases je ht hval with rfl | ⟨b,o,len,cap,rfl⟩ <;> rfl
 rw [hc] at hf
 obtain ⟨l,hl,hB⟩:=(eC.sl ht hct hr hs hpos).op hsp hf
 cases hl with
 | cons h1 h2=>exact ⟨l,h1,hB⟩
end Go.Sk
namespace Go.Sk
open Go
set_option linter.unusedVariables false
set_option linter.unusedSimpArgs false
section
variable {σ σ1 σ2 σ3 τ:Type}
theorem aj.up2 {A:σ → Int → Option ((σ × Int) ⊕ τ)} {G:σ → Int → τ} {n:Int} {Q:τ → Prop} {F:Nat} {s0:σ} (N:Nat) (I:Nat → σ → Prop) (hn:n = N) (hF:N < F) (h0:I 0 s0)
  (step:∀ (k:Nat) s,k < N → I k s → aj (A s k) fun o=>(∃ s',o = .inl (s',(k:Int) + 1) ∧ I (k + 1) s') ∨ ∃ t,o = .inr t ∧ Q t) (fin:∀ s,I N s → Q (G s N)) :
  aj (iter F (fun z:σ × Int=>if decide (z.2 < n) = true then A z.1 z.2 else Option.some (.inr (G z.1 z.2))) (s0,0)) Q:=by
 refine aj.rounds (n:=N) (I:=fun k s=>s.2 = (k:Int) ∧ I k s.1) hF ⟨rfl,h0⟩ ?_
 rintro k ⟨s,i⟩ hk ⟨hi,hI⟩
 simp only at hi hI
 subst hi
 refine aj.ite (fun hc=>?_) (fun hc=>?_)
 ·have hc:=of_decide_eq_true hc
  simp only at hc
  refine (step k s (by omega) hI).mono fun o ho=>?_
  rcases ho with ⟨s',rfl,h⟩ | h
  ·exact .inl ⟨_,rfl,⟨by push_cast; rfl,h⟩,by omega⟩
  ·exact .inr h
 ·have hc:=of_decide_eq_false hc
  simp only at hc
  have:k = N:=by omega
  subst this
  exact aj.some (.inr ⟨_,rfl,fin s hI⟩)
end
theorem jj (m:cZ) (k v j:Int):eT (gi m k v) j = (decide (j = k) || eT m j):=by
 unfold eT; rw [qq]; by_cases h:j = k <;> simp [h]
theorem dI (m:cZ) (k v j:Int):fP (gi m k v) j = if j = k then v else fP m j:=by
 unfold fP; rw [qq]; by_cases h:j = k <;> simp [h]
theorem sL (a b j:Int) (m:cZ):eT ((a,b) :: m) j = (decide (j = a) || eT m j):=by
 unfold eT; show (if j = a then some b else gS m j).isSome = _
 by_cases h:j = a <;> simp [h]
theorem mD (j:Int):∀ m:cZ,eT m j = true ↔ j ∈ m.map (·.1)
 | []=>by simp [eT,gS]
 | (a,b) :: m=>by rw [sL]; simp [mD j m]
theorem mG (k v:Int):∀ m:cZ,(gi m k v).map (·.1) = if eT m k then m.map (·.1) else m.map (·.1) ++ [k]
 | []=>by simp [eT,gS,gi]
 | (a,b) :: m=>by
  rw [sL]
  unfold gi
  by_cases h:k = a
  ·simp [h]
  ·rw [if_neg h,List.map_cons,mG k v m]
   by_cases h2:eT m k <;> simp [h,h2]
theorem pJ (l:List Int):(sorted l).Perm l:=List.mergeSort_perm _ _
theorem uJ (l:List Int):(sorted l).Pairwise (· ≤ ·) :=
 (List.pairwise_mergeSort (le:=fun x y:Int=>decide (x ≤ y)) (fun a b c h1 h2=>by simp only [decide_eq_true_eq] at *; omega) (fun a b=>by simp only [Bool.or_eq_true,decide_eq_true_eq]; omega) l).imp fun h=>of_decide_eq_true h
abbrev ri (l:List Int):Prop:=l.Pairwise (· < ·)
theorem wc {l:List Int} (h:l.Nodup):ri (sorted l):=by
 have h1:=uJ l
 have h2:(sorted l).Nodup:=(pJ l).nodup_iff.2 h
 refine (List.pairwise_and_iff.2 ⟨h1,h2⟩).imp ?_
 rintro a b ⟨h1,h2⟩
 omega
theorem oc {l:List Int} {a:Int}:a ∈ sorted l ↔ a ∈ l:=(pJ l).mem_iff
theorem wG {l m:List Int} (hl:ri l) (hm:ri m) (h:∀ a,a ∈ l ↔ a ∈ m):l = m:=by
 refine List.Perm.eq_of_pairwise (fun a b _ _ h1 h2=>absurd (Int.lt_trans h1 h2) (Int.lt_irrefl _)) hl hm ?_
 refine (List.perm_ext_iff_of_nodup (hl.imp fun h=>Int.ne_of_lt h) (hm.imp fun h=>Int.ne_of_lt h)).2 h
theorem s6 {α:Type} [DecidableEq α]:∀ {l m:List α},l.Nodup → (∀ a ∈ l,a ∈ m) → l.length ≤ m.length
 | [],_,_,_=>Nat.zero_le _
 | a :: l,m,h,hs=>by
  have h1:=List.nodup_cons.1 h
  have h2:l.length ≤ (m.erase a).length:=s6 h1.2 fun b hb=>by
   have:b ≠ a:=fun e=>h1.1 (e ▸ hb)
   exact (List.mem_erase_of_ne this).2 (hs b (List.mem_cons_of_mem _ hb))
  have ha:=hs a (List.mem_cons_self ..)
  rw [List.length_erase_of_mem ha] at h2
  have:0 < m.length:=List.length_pos_of_mem ha
  simp only [List.length_cons]
  omega
theorem sT {l:List Int} (h:ri l):l.Nodup:=h.imp fun h=>Int.ne_of_lt h
theorem rb {l m:List Int} (h:ri l) (hs:∀ a ∈ l,a ∈ m):l.length ≤ m.length:=s6 (sT h) hs
def mA {α:Type} (κ:α → Int) (n:α) (l out:List α) (placed:Bool):Prop :=
 ∃ A B,l = A ++ B ∧ (∀ a ∈ A,κ a < κ n) ∧ (∀ b ∈ B,κ n < κ b) ∧ ((placed = false ∧ B = [] ∧ out = A) ∨ (placed = true ∧ B ≠ [] ∧ out = A ++ n :: B))
theorem mA.zero {α:Type} {κ:α → Int} {n:α}:mA κ n [] [] false:=⟨[],[],rfl,by simp,by simp,.inl ⟨rfl,rfl,rfl⟩⟩
theorem mA.put {α:Type} {κ:α → Int} {n x:α} {l out:List α} (h:mA κ n l out false) (hx:κ n < κ x):mA κ n (l ++ [x]) (out ++ [n] ++ [x]) true:=by
 obtain ⟨A,B,hl,hA,hB,h | h⟩:=h
 ·obtain ⟨_,h2,h3⟩:=h
  subst h2 h3 hl
  refine ⟨out,[x],by simp,hA,by simp [hx],.inr ⟨rfl,by simp,by simp⟩⟩
 ·exact absurd h.1 (by simp)
theorem mA.next {α:Type} {κ:α → Int} {n x:α} {l out:List α} {p:Bool} (h:mA κ n l out p) (hp:p = true ∨ κ x ≤ κ n) (hne:κ x ≠ κ n) (hs:∀ a ∈ l,κ a < κ x):mA κ n (l ++ [x]) (out ++ [x]) p:=by
 obtain ⟨A,B,rfl,hA,hB,h | h⟩:=h
 ·obtain ⟨rfl,rfl,rfl⟩:=h
  refine ⟨out ++ [x],[],by simp,fun a ha=>?_,by simp,.inl ⟨rfl,rfl,rfl⟩⟩
  rcases List.mem_append.1 ha with ha | ha
  ·exact hA a ha
  ·rw [List.mem_singleton.1 ha]
   rcases hp with hp | hp
   ·exact absurd hp (by simp)
   ·omega
 ·obtain ⟨rfl,hne',rfl⟩:=h
  refine ⟨A,B ++ [x],by simp,hA,fun b hb=>?_,.inr ⟨rfl,by simp,by simp⟩⟩
  rcases List.mem_append.1 hb with hb | hb
  ·exact hB b hb
  ·rw [List.mem_singleton.1 hb]
   obtain ⟨b,B',rfl⟩:=List.exists_cons_of_ne_nil hne'
   have h1:=hB b (List.mem_cons_self ..)
   have h2:=hs b (by simp)
   omega
theorem mA.fin {α:Type} {κ:α → Int} {n:α} {l out:List α} {p:Bool} (h:mA κ n l out p) (hs:l.Pairwise fun a b=>κ a < κ b) :
  (if !p then out ++ [n] else out).Pairwise (fun a b=>κ a < κ b) ∧ (if !p then out ++ [n] else out).Perm (n :: l):=by
 obtain ⟨A,B,rfl,hA,hB,h⟩:=h
 have key:(A ++ n :: B).Pairwise (fun a b=>κ a < κ b):=by
  rw [List.pairwise_append] at hs ⊢
  refine ⟨hs.1,List.pairwise_cons.2 ⟨hB,hs.2.1⟩,fun a ha b hb=>?_⟩
  rcases List.mem_cons.1 hb with rfl | hb
  ·exact hA a ha
  ·exact hs.2.2 a ha b hb
 rcases h with ⟨rfl,rfl,rfl⟩ | ⟨rfl,_,rfl⟩
 ·refine ⟨by simpa using key,?_⟩
  simp only [Bool.not_false,if_true,List.append_nil]
  exact List.perm_append_singleton n out
 ·refine ⟨by simpa using key,?_⟩
  simp only [Bool.not_true,if_false]
  exact List.perm_middle
inductive kV (P:Int → Int → Prop):Int → Int → Prop
 | rfl (a):kV P a a
 | of {a b}:P a b → kV P a b
 | symm {a b}:kV P a b → kV P b a
 | trans {a b c}:kV P a b → kV P b c → kV P a c
theorem kV.lift {P:Int → Int → Prop} {E:Int → Int → Prop} (h1:∀ a,E a a) (h2:∀ a b,E a b → E b a) (h3:∀ a b c,E a b → E b c → E a c) (h:∀ a b,P a b → E a b) {a b:Int} (hc:kV P a b):E a b:=by
 induction hc with
 | rfl a=>exact h1 a
 | of h'=>exact h _ _ h'
 | symm _ ih=>exact h2 _ _ ih
 | trans _ _ i1 i2=>exact h3 _ _ _ i1 i2
theorem kV.mono {P Q:Int → Int → Prop} (h:∀ a b,P a b → kV Q a b) {a b:Int} (hc:kV P a b):kV Q a b :=
 hc.lift (fun a=>.rfl a) (fun _ _ h=>.symm h) (fun _ _ _ h1 h2=>.trans h1 h2) h
theorem kV.congr {P Q:Int → Int → Prop} (h:∀ a b,P a b → kV Q a b) (h':∀ a b,Q a b → kV P a b) (a b:Int):kV P a b ↔ kV Q a b:=⟨.mono h,.mono h'⟩
def jn (r:Int → Int) (x y z:Int):Int:=if r z = max (r x) (r y) then min (r x) (r y) else r z
theorem jn_con {P:Int → Int → Prop} {r:Int → Int} (hi:∀ z,r (r z) = r z) (h:∀ a b,r a = r b ↔ kV P a b) (x y:Int) (a b:Int):jn r x y a = jn r x y b ↔ kV (fun u v=>P u v ∨ (u = x ∧ v = y)) a b:=by
 have up:∀ {a b},kV P a b → kV (fun u v=>P u v ∨ (u = x ∧ v = y)) a b:=fun h=>h.mono fun a b h=>.of (.inl h)
 have base:∀ z,kV P z (r z):=fun z=>(h _ _).1 (hi z).symm
 have xy:kV (fun u v=>P u v ∨ (u = x ∧ v = y)) (r x) (r y):=.trans (up (.symm (base x))) (.trans (.of (.inr ⟨rfl,rfl⟩)) (up (base y)))
 have self:∀ z,kV (fun u v=>P u v ∨ (u = x ∧ v = y)) z (jn r x y z):=fun z=>by
  unfold jn
  split
  ·next hz=>
   refine .trans (up (base z)) ?_
   rw [hz]
   by_cases hl:r x ≤ r y
   ·rw [Int.max_eq_right hl,Int.min_eq_left hl]; exact .symm xy
   ·have hl':r y ≤ r x:=by omega
    rw [Int.max_eq_left hl',Int.min_eq_right hl']; exact xy
  ·exact up (base z)
 constructor
 ·intro e
  refine .trans (self a) ?_
  rw [e]
  exact .symm (self b)
 ·intro hc
  refine hc.lift (E:=fun a b=>jn r x y a = jn r x y b) (fun _=>rfl) (fun _ _ h=>h.symm) (fun _ _ _ h1 h2=>h1.trans h2) ?_
  rintro u v (hu | ⟨rfl,rfl⟩)
  ·have:=(h u v).2 (.of hu)
   unfold jn; rw [this]
  ·unfold jn
   by_cases hl:r u ≤ r v
   ·rw [Int.max_eq_right hl,Int.min_eq_left hl]
    split <;> split <;> omega
   ·have hl':r v ≤ r u:=by omega
    rw [Int.max_eq_left hl',Int.min_eq_right hl']
    split <;> split <;> omega
theorem jn_idem {r:Int → Int} (hi:∀ z,r (r z) = r z) (x y z:Int):jn r x y (jn r x y z) = jn r x y z:=by
 have h1:=hi x; have h2:=hi y; have h3:=hi z
 unfold jn
 by_cases hl:r x ≤ r y
 ·rw [Int.max_eq_right hl,Int.min_eq_left hl]
  split <;> split <;> omega
 ·have hl':r y ≤ r x:=by omega
  rw [Int.max_eq_left hl',Int.min_eq_right hl']
  split <;> split <;> omega
structure qa (m:cZ) (r:Int → Int):Prop where
 out:∀ x,eT m x = false → r x = x
 has:∀ x,eT m x = true → eT m (fP m x) = true
 le:∀ x,eT m x = true → fP m x ≤ x
 step:∀ x,eT m x = true → r (fP m x) = r x
 fix:∀ x,eT m x = true → fP m x = x → r x = x
 low:∀ x,eT m x = true → r x ≤ x ∧ eT m (r x) = true ∧ fP m (r x) = r x
 nd:(m.map (·.1)).Nodup
theorem qa.nil:qa [] (fun x=>x):=⟨fun _ _=>rfl,by simp [eT,gS],by simp [eT,gS],fun _ _=>by simp_all [eT,gS],fun _ _ _=>rfl,by simp [eT,gS],by simp⟩
theorem qa.idem {m:cZ} {r:Int → Int} (h:qa m r) (z:Int):r (r z) = r z:=by
 cases hz:eT m z with
 | false=>rw [h.out z hz,h.out z hz]
 | true=>
  obtain ⟨_,h2,h3⟩:=h.low z hz
  exact h.fix _ h2 h3
theorem qa.rle {m:cZ} {r:Int → Int} (h:qa m r) (z:Int):r z ≤ z:=by
 cases hz:eT m z with
 | false=>rw [h.out z hz]; exact Int.le_refl _
 | true=>exact (h.low z hz).1
theorem ph {m:cZ} {k v:Int} (h:(m.map (·.1)).Nodup):((gi m k v).map (·.1)).Nodup:=by
 rw [mG]
 split
 ·exact h
 ·next hn=>
  rw [List.nodup_append]
  refine ⟨h,by simp,fun a ha b hb=>?_⟩
  rw [List.mem_singleton.1 hb]
  rintro rfl
  exact hn ((mD a m).2 ha)
theorem qa.add {m:cZ} {r:Int → Int} (h:qa m r) {x:Int} (hx:eT m x = false):qa (gi m x x) r:=by
 have e:=h.out x hx
 have hne:∀ z,eT m z = true → z ≠ x:=fun z hz e=>by rw [e,hx] at hz; cases hz
 refine ⟨fun z hz=>?_,fun z hz=>?_,fun z hz=>?_,fun z hz=>?_,fun z hz=>?_,fun z hz=>?_,ph h.nd⟩
 ·rw [jj,Bool.or_eq_false_iff] at hz
  exact h.out z hz.2
 ·rw [jj] at hz ⊢
  rw [dI]
  by_cases hzx:z = x
  ·simp [hzx]
  ·simp only [hzx,decide_false,Bool.false_or] at hz
   simp [hzx,h.has z hz]
 ·rw [jj] at hz
  rw [dI]
  by_cases hzx:z = x
  ·simp [hzx]
  ·simp only [hzx,decide_false,Bool.false_or] at hz
   simp [hzx,h.le z hz]
 ·rw [jj] at hz
  rw [dI]
  by_cases hzx:z = x
  ·simp [hzx]
  ·simp only [hzx,decide_false,Bool.false_or] at hz
   simp [hzx,h.step z hz]
 ·rw [jj] at hz
  rw [dI]
  by_cases hzx:z = x
  ·simp [hzx,e]
  ·simp only [hzx,decide_false,Bool.false_or] at hz
   simpa [hzx] using h.fix z hz
 ·rw [jj] at hz ⊢
  rw [dI]
  by_cases hzx:z = x
  ·simp [hzx,e]
  ·simp only [hzx,decide_false,Bool.false_or] at hz
   obtain ⟨h1,h2,h3⟩:=h.low z hz
   simp [h1,h2,hne _ h2,h3]
theorem qa.short {m:cZ} {r:Int → Int} (h:qa m r) {x:Int} (hx:eT m x = true):qa (gi m x (r x)) r:=by
 obtain ⟨l1,l2,l3⟩:=h.low x hx
 have hi:=h.idem x
 have hh:∀ z,eT (gi m x (r x)) z = eT m z:=fun z=>by
  rw [jj]; by_cases e:z = x <;> simp [e,hx]
 refine ⟨fun z hz=>?_,fun z hz=>?_,fun z hz=>?_,fun z hz=>?_,fun z hz=>?_,fun z hz=>?_,ph h.nd⟩
 ·rw [hh] at hz; exact h.out z hz
 ·rw [hh] at hz ⊢
  rw [dI]
  split
  ·exact l2
  ·exact h.has z hz
 ·rw [hh] at hz
  rw [dI]
  split
  ·next e=>rw [e]; exact l1
  ·exact h.le z hz
 ·rw [hh] at hz
  rw [dI]
  split
  ·next e=>rw [e]; exact hi
  ·exact h.step z hz
 ·rw [hh] at hz
  rw [dI]
  split
  ·next e=>intro e2; rw [e] at e2 ⊢; exact e2
  ·exact h.fix z hz
 ·rw [hh] at hz ⊢
  obtain ⟨h1,h2,h3⟩:=h.low z hz
  refine ⟨h1,h2,?_⟩
  rw [dI]
  split
  ·next e=>rw [← e]; exact h.idem z
  ·exact h3
theorem qa.join {m:cZ} {r:Int → Int} (h:qa m r) {x y:Int} (hx:eT m x = true) (hy:eT m y = true) (hne:r x ≠ r y):qa (gi m (max (r x) (r y)) (min (r x) (r y))) (jn r x y):=by
 obtain ⟨a1,a2,a3⟩:=h.low x hx
 obtain ⟨b1,b2,b3⟩:=h.low y hy
 have ia:=h.idem x
 have ib:=h.idem y
 have hM:∃ M N,max (r x) (r y) = M ∧ min (r x) (r y) = N ∧ N < M ∧ eT m M = true ∧ eT m N = true ∧ fP m M = M ∧ fP m N = N ∧ r M = M ∧ r N = N:=by
  by_cases hl:r x ≤ r y
  ·exact ⟨r y,r x,Int.max_eq_right hl,Int.min_eq_left hl,by omega,b2,a2,b3,a3,ib,ia⟩
  ·have hl':r y ≤ r x:=by omega
   exact ⟨r x,r y,Int.max_eq_left hl',Int.min_eq_right hl',by omega,a2,b2,a3,b3,ia,ib⟩
 obtain ⟨M,N,eM,eN,hlt,hM,hN,gM,gN,rM,rN⟩:=hM
 have ej:∀ z,jn r x y z = if r z = M then N else r z:=fun z=>by unfold jn; rw [eM,eN]
 rw [eM,eN]
 have hh:∀ z,eT (gi m M N) z = eT m z:=fun z=>by
  rw [jj]; by_cases e:z = M <;> simp [e,hM]
 refine ⟨fun z hz=>?_,fun z hz=>?_,fun z hz=>?_,fun z hz=>?_,fun z hz=>?_,fun z hz=>?_,ph h.nd⟩
 ·rw [hh] at hz
  have:r z = z:=h.out z hz
  rw [ej,this,if_neg]
  rintro rfl
  rw [hM] at hz; cases hz
 ·rw [hh] at hz ⊢
  rw [dI]
  split
  ·exact hN
  ·exact h.has z hz
 ·rw [hh] at hz
  rw [dI]
  split
  ·omega
  ·exact h.le z hz
 ·rw [hh] at hz
  rw [dI,ej,ej]
  split
  ·next e=>rw [e,rN,rM,if_pos rfl]; simp
  ·rw [h.step z hz]
 ·rw [hh] at hz
  rw [dI,ej]
  split
  ·next e=>intro e2; omega
  ·next e=>
   intro e2
   have:=h.fix z hz e2
   rw [this,if_neg e]
 ·rw [hh] at hz
  rw [hh,ej,dI]
  obtain ⟨h1,h2,h3⟩:=h.low z hz
  by_cases e:r z = M
  ·rw [if_pos e,if_neg (by omega)]
   exact ⟨by omega,hN,gN⟩
  ·rw [if_neg e,if_neg e]
   exact ⟨h1,h2,h3⟩
def hd (c:List Int):Int:=c.headD 0
structure IsPt (P:Int → Int → Prop) (D:Int → Prop) (out:List (List Int)):Prop where
 asd:∀ c ∈ out,c ≠ [] ∧ ri c
 dj:out.Pairwise fun c d=>∀ z ∈ c,z ∉ d
 dom:∀ a,D a ↔ ∃ c ∈ out,a ∈ c
 con:∀ c ∈ out,∀ a ∈ c,∀ b ∈ c,kV P a b
 cl:∀ c ∈ out,∀ a b,P a b → (a ∈ c ↔ b ∈ c)
abbrev HdL (out:List (List Int)):Prop:=out.Pairwise fun c d=>hd c < hd d
structure Part (P:Int → Int → Prop) (D:Int → Prop) (out:List (List Int)):Prop extends IsPt P D out where
 srt:HdL out
theorem IsPt.cls {P:Int → Int → Prop} {D:Int → Prop} {out:List (List Int)} (h:IsPt P D out) {c:List Int} (hc:c ∈ out) {a b:Int} (hab:kV P a b):a ∈ c ↔ b ∈ c :=
 hab.lift (E:=fun a b=>a ∈ c ↔ b ∈ c) (fun _=>.rfl) (fun _ _ h=>h.symm) (fun _ _ _ h1 h2=>h1.trans h2) (h.cl c hc)
theorem IsPt.mem {P:Int → Int → Prop} {D:Int → Prop} {out:List (List Int)} (h:IsPt P D out) {c:List Int} (hc:c ∈ out) {a:Int} (ha:a ∈ c) (b:Int):b ∈ c ↔ kV P a b :=
 ⟨fun hb=>h.con c hc a ha b hb,fun hb=>(h.cls hc hb).1 ha⟩
theorem jK {c:List Int} (h:c ≠ []):hd c ∈ c:=by
 cases c with
 | nil=>exact absurd rfl h
 | cons a c=>exact List.mem_cons_self ..
theorem xB {c:List Int} (h:ri c) {a:Int} (ha:a ∈ c):hd c ≤ a:=by
 cases c with
 | nil=>exact absurd ha (by simp)
 | cons x c=>
  rcases List.mem_cons.1 ha with rfl | ha
  ·exact Int.le_refl _
  ·exact Int.le_of_lt ((List.pairwise_cons.1 h).1 a ha)
theorem IsPt.congr {P Q:Int → Int → Prop} {D E:Int → Prop} {out:List (List Int)} (h:IsPt P D out) (hP:∀ a b,kV P a b ↔ kV Q a b) (hD:∀ a,D a ↔ E a):IsPt Q E out :=
 ⟨h.asd,h.dj,fun a=>(hD a).symm.trans (h.dom a),fun c hc a ha b hb=>(hP _ _).1 (h.con c hc a ha b hb),fun c hc a b hab=>h.cls hc ((hP _ _).2 (.of hab))⟩
theorem Part.congr {P Q:Int → Int → Prop} {D E:Int → Prop} {out:List (List Int)} (h:Part P D out) (hP:∀ a b,kV P a b ↔ kV Q a b) (hD:∀ a,D a ↔ E a):Part Q E out :=
 { toIsPt:=h.toIsPt.congr hP hD,srt:=h.srt }
theorem IsPt.xP {P:Int → Int → Prop} {D:Int → Prop} {out:List (List Int)} (h:IsPt P D out) (z:Int):z ∈ out.map hd ↔ D z ∧ ∀ b,kV P z b → z ≤ b:=by
 rw [List.mem_map]
 constructor
 ·rintro ⟨c,hc,rfl⟩
  obtain ⟨hn,ha⟩:=h.asd c hc
  refine ⟨(h.dom _).2 ⟨c,hc,jK hn⟩,fun b hb=>xB ha ((h.cls hc hb).1 (jK hn))⟩
 ·rintro ⟨hD,hm⟩
  obtain ⟨c,hc,hz⟩:=(h.dom z).1 hD
  obtain ⟨hn,ha⟩:=h.asd c hc
  refine ⟨c,hc,Int.le_antisymm (xB ha hz) (hm _ (h.con c hc z hz _ (jK hn)))⟩
theorem Part.uniq {P:Int → Int → Prop} {D:Int → Prop} {o1 o2:List (List Int)} (h1:Part P D o1) (h2:Part P D o2):o1 = o2:=by
 have hh:o1.map hd = o2.map hd:=wG (List.pairwise_map.2 h1.srt) (List.pairwise_map.2 h2.srt) fun z=>by rw [h1.xP,h2.xP]
 have same:∀ c ∈ o1,∀ d ∈ o2,hd c = hd d → c = d:=fun c hc d hd' e=>by
  obtain ⟨n1,a1⟩:=h1.asd c hc
  obtain ⟨n2,a2⟩:=h2.asd d hd'
  refine wG a1 a2 fun z=>?_
  rw [h1.mem hc (jK n1),h2.mem hd' (jK n2),e]
 have hl:o1.length = o2.length:=by have:=congrArg List.length hh; simpa using this
 refine List.ext_getElem hl fun i i1 i2=>same _ (List.getElem_mem i1) _ (List.getElem_mem i2) ?_
 have:=congrArg (fun l=>l[i]?) hh
 simpa [List.getElem?_map,List.getElem?_eq_getElem i1,List.getElem?_eq_getElem i2] using this
def canon (r:Int → Int) (ks:List Int):List (List Int):=(ks.filter fun x=>r x = x).map fun h=>ks.filter fun z=>r z = h
theorem vK {r:Int → Int} {ks:List Int} {P:Int → Int → Prop} (hs:ri ks) (hle:∀ z,r z ≤ z) (hi:∀ z,r (r z) = r z) (hk:∀ z ∈ ks,r z ∈ ks) (hc:∀ a b,r a = r b ↔ kV P a b) (hP:∀ a b,P a b → (a ∈ ks ↔ b ∈ ks)):Part P (· ∈ ks) (canon r ks):=by
 have key:∀ h ∈ ks.filter (fun x=>decide (r x = x)),h ∈ ks ∧ r h = h:=fun h hh=>by simpa using List.mem_filter.1 hh
 have kh:∀ h ∈ ks.filter (fun x=>decide (r x = x)),hd (ks.filter fun z=>decide (r z = h)) = h:=fun h hh=>by
  obtain ⟨h1,h2⟩:=key h hh
  have hm:h ∈ ks.filter fun z=>decide (r z = h):=List.mem_filter.2 ⟨h1,by simpa using h2⟩
  have ha:ri (ks.filter fun z=>decide (r z = h)):=hs.filter _
  refine Int.le_antisymm (xB ha hm) ?_
  have:=jK (c:=ks.filter fun z=>decide (r z = h)) (List.ne_nil_of_mem hm)
  have:=(List.mem_filter.1 this).2
  have e:r (hd (ks.filter fun z=>decide (r z = h))) = h:=of_decide_eq_true this
  have:=hle (hd (ks.filter fun z=>decide (r z = h)))
  omega
 refine { asd:=fun c hc'=>?_,dj:=?_,dom:=fun a=>?_,con:=fun c hc' a ha b hb=>?_,cl:=fun c hc' a b hab=>?_,srt:=?_ }
 ·obtain ⟨h,hh,rfl⟩:=List.mem_map.1 hc'
  obtain ⟨h1,h2⟩:=key h hh
  exact ⟨List.ne_nil_of_mem (List.mem_filter.2 ⟨h1,by simpa using h2⟩:h ∈ _),hs.filter _⟩
 ·refine List.pairwise_map.2 ((hs.filter _).imp ?_)
  intro a b hab z h1 h2
  have e1:=of_decide_eq_true (List.mem_filter.1 h1).2
  have e2:=of_decide_eq_true (List.mem_filter.1 h2).2
  omega
 ·constructor
  ·intro ha
   exact ⟨_,List.mem_map.2 ⟨r a,List.mem_filter.2 ⟨hk a ha,by simpa using hi a⟩,rfl⟩,List.mem_filter.2 ⟨ha,by simp⟩⟩
  ·rintro ⟨c,hc',ha⟩
   obtain ⟨h,hh,rfl⟩:=List.mem_map.1 hc'
   exact (List.mem_filter.1 ha).1
 ·obtain ⟨h,hh,rfl⟩:=List.mem_map.1 hc'
  have e1:=of_decide_eq_true (List.mem_filter.1 ha).2
  have e2:=of_decide_eq_true (List.mem_filter.1 hb).2
  exact (hc a b).1 (e1.trans e2.symm)
 ·obtain ⟨h,hh,rfl⟩:=List.mem_map.1 hc'
  have e:=(hc a b).2 (.of hab)
  rw [List.mem_filter,List.mem_filter,e,hP a b hab]
 ·refine List.pairwise_map.2 (List.Pairwise.imp_of_mem ?_ (hs.filter fun x=>decide (r x = x)))
  intro a b ha hb hab
  rw [kh a ha,kh b hb]
  exact hab
theorem IsPt.add {P Q:Int → Int → Prop} {D E:Int → Prop} {out:List (List Int)} (h:IsPt P D out) {x y:List Int} (hPD:∀ a b,P a b → D a ∧ D b) (hx:x ≠ []) (hy:ri y)
  (hmem:∀ z,z ∈ y ↔ z ∈ x ∨ ∃ c ∈ out,(∃ u ∈ c,u ∈ x) ∧ z ∈ c) (hQ:∀ a b,Q a b ↔ P a b ∨ (a ∈ x ∧ b ∈ x)) (hE:∀ a,E a ↔ D a ∨ a ∈ x)
  {rest:List (List Int)} (hrest:rest = out.filter fun c=>!(c.any fun u=>x.contains u)):IsPt Q E (rest ++ [y]):=by
 have hr:∀ c,c ∈ rest ↔ c ∈ out ∧ ∀ u ∈ c,u ∉ x:=fun c=>by
  rw [hrest,List.mem_filter]; simp
 have up:∀ {a b},kV P a b → kV Q a b:=fun h=>h.mono fun a b h=>.of ((hQ a b).2 (.inl h))
 have inx:∀ z ∈ y,∃ u ∈ x,kV Q u z:=fun z hz=>by
  rcases (hmem z).1 hz with hz | ⟨c,hc,⟨u,hu,hux⟩,hzc⟩
  ·exact ⟨z,hz,.rfl z⟩
  ·exact ⟨u,hux,up (h.con c hc u hu z hzc)⟩
 refine ⟨fun c hc=>?_,?_,fun a=>?_,fun c hc a ha b hb=>?_,fun c hc a b hab=>?_⟩
 ·rcases List.mem_append.1 hc with hc | hc
  ·exact h.asd c ((hr c).1 hc).1
  ·rw [List.mem_singleton.1 hc]
   obtain ⟨u,x',rfl⟩:=List.exists_cons_of_ne_nil hx
   exact ⟨List.ne_nil_of_mem ((hmem u).2 (.inl (List.mem_cons_self ..))),hy⟩
 ·refine List.pairwise_append.2 ⟨?_,by simp,fun c hc d hd z hz hzd=>?_⟩
  ·rw [hrest]; exact h.dj.filter _
  ·rw [List.mem_singleton.1 hd] at hzd
   obtain ⟨hc1,hc2⟩:=(hr c).1 hc
   rcases (hmem z).1 hzd with hzx | ⟨d',hd',⟨u,hu,hux⟩,hzd'⟩
   ·exact hc2 z hz hzx
   ·have:u ∈ c:=(h.cls hc1 (h.con d' hd' z hzd' u hu)).1 hz
    exact hc2 u this hux
 ·rw [hE a,h.dom a]
  constructor
  ·rintro (⟨c,hc,ha⟩ | ha)
   ·by_cases hm:∃ u ∈ c,u ∈ x
    ·exact ⟨y,by simp,(hmem a).2 (.inr ⟨c,hc,hm,ha⟩)⟩
    ·exact ⟨c,List.mem_append.2 (.inl ((hr c).2 ⟨hc,fun u hu hux=>hm ⟨u,hu,hux⟩⟩)),ha⟩
   ·exact ⟨y,by simp,(hmem a).2 (.inl ha)⟩
  ·rintro ⟨c,hc,ha⟩
   rcases List.mem_append.1 hc with hc | hc
   ·exact .inl ⟨c,((hr c).1 hc).1,ha⟩
   ·rw [List.mem_singleton.1 hc] at ha
    rcases (hmem a).1 ha with ha | ⟨d,hd,_,had⟩
    ·exact .inr ha
    ·exact .inl ⟨d,hd,had⟩
 ·rcases List.mem_append.1 hc with hc | hc
  ·exact up (h.con c ((hr c).1 hc).1 a ha b hb)
  ·rw [List.mem_singleton.1 hc] at ha hb
   obtain ⟨u,hu,h1⟩:=inx a ha
   obtain ⟨v,hv,h2⟩:=inx b hb
   exact .trans (.symm h1) (.trans (.of ((hQ u v).2 (.inr ⟨hu,hv⟩))) h2)
 ·rcases List.mem_append.1 hc with hc | hc
  ·obtain ⟨hc1,hc2⟩:=(hr c).1 hc
   rcases (hQ a b).1 hab with hp | ⟨ha,hb⟩
   ·exact h.cl c hc1 a b hp
   ·exact ⟨fun hac=>absurd ha (hc2 a hac),fun hbc=>absurd hb (hc2 b hbc)⟩
  ·rw [List.mem_singleton.1 hc]
   rcases (hQ a b).1 hab with hp | ⟨ha,hb⟩
   ·have hcl:∀ {a b},kV P a b → (∃ c ∈ out,a ∈ c) → a ∈ y → b ∈ y:=fun {a b} hp hDa ha=>by
     rcases (hmem a).1 ha with hax | ⟨d,hd,hm,had⟩
     ·obtain ⟨c,hc,hac⟩:=hDa
      exact (hmem b).2 (.inr ⟨c,hc,⟨a,hac,hax⟩,(h.cls hc hp).1 hac⟩)
     ·exact (hmem b).2 (.inr ⟨d,hd,hm,(h.cls hd hp).1 had⟩)
    obtain ⟨da,db⟩:=hPD a b hp
    exact ⟨hcl (.of hp) ((h.dom a).1 da),hcl (.symm (.of hp)) ((h.dom b).1 db)⟩
   ·exact ⟨fun _=>(hmem b).2 (.inl hb),fun _=>(hmem a).2 (.inl ha)⟩
end Go.Sk
namespace Go.Sk
open Go
set_option linter.unusedVariables false
section
variable {α σ σ1 σ2 σ3 τ:Type} [Inhabited α]
theorem og (pre post:List α) (x:α):aV (pre ++ x :: post) (pre.length:Int) = Option.some x:=by
 rw [iv (by omega) (by simp only [List.length_append,List.length_cons]; omega),lP _ _ (by simp)]
 simp
private theorem vg {l:List α} {S:Type} {body:S × Int → Option ((S × Int) ⊕ τ)} {Q:τ → Prop} {F:Nat} {s0:S} (I:List α → S → Prop) (hF:l.length < F) (hL:l.length ≤ 9223372036854775807) (h0:I [] s0)
  (step:∀ pre x post s,l = pre ++ x :: post → aV l (pre.length:Int) = Option.some x → I pre s → aj (body (s,(pre.length:Int))) fun o=>(∃ s',o = .inl (s',IntKind.i64.wrap ((pre.length:Int) + 1)) ∧ I (pre ++ [x]) s') ∨ ∃ t,o = .inr t ∧ Q t)
  (fin:∀ s,I l s → aj (body (s,(l.length:Int))) fun o=>∃ t,o = .inr t ∧ Q t):aj (iter F body (s0,0)) Q:=by
 refine aj.rounds (n:=l.length) (I:=fun k s=>k ≤ l.length ∧ s.2 = (k:Int) ∧ I (l.take k) s.1) hF ⟨Nat.zero_le _,rfl,by simpa using h0⟩ ?_
 rintro k ⟨s,i⟩ hk ⟨hk',hi,hI⟩
 simp only at hi hI
 subst hi
 by_cases hc:k < l.length
 ·have e:l = l.take k ++ l[k] :: l.drop (k + 1):=by rw [← List.drop_eq_getElem_cons hc,List.take_append_drop]
  have hl:(l.take k).length = k:=by rw [List.length_take]; omega
  have hx:aV l ((l.take k).length:Int) = Option.some l[k]:=by
   rw [hl,iv (by omega) (by omega),lP _ _ hc]
  have h:=step (l.take k) l[k] (l.drop (k + 1)) s e hx hI
  rw [hl] at h
  refine h.mono fun o ho=>?_
  rcases ho with ⟨s',rfl,h⟩ | h
  ·refine .inl ⟨_,rfl,⟨by omega,?_,?_⟩,hc⟩
   ·show IntKind.i64.wrap ((k:Int) + 1) = _
    rw [oM (by omega) (by omega)]; push_cast; rfl
   ·rw [List.take_succ_eq_append_getElem hc]; exact h
  ·exact .inr h
 ·have:k = l.length:=by omega
  subst this
  rw [List.take_length] at hI
  refine (fin s hI).mono fun o ho=>.inr ho
theorem aj.wL {l:List α} {A:Int → Option (Int ⊕ τ)} {g:τ} {Q:τ → Prop} {F:Nat} (I:List α → Prop) (hF:l.length < F) (hL:l.length ≤ 9223372036854775807) (h0:I [])
  (step:∀ pre x post,l = pre ++ x :: post → aV l (pre.length:Int) = Option.some x → I pre → aj (A (pre.length:Int)) fun o=>(o = .inl (IntKind.i64.wrap ((pre.length:Int) + 1)) ∧ I (pre ++ [x])) ∨ ∃ t,o = .inr t ∧ Q t)
  (fin:I l → Q g):aj (iter F (fun i=>if decide (i < (l.length:Int)) = true then A i else Option.some (.inr g)) 0) Q:=by
 refine aj.rounds (n:=l.length) (I:=fun k s=>k ≤ l.length ∧ s = (k:Int) ∧ I (l.take k)) hF ⟨Nat.zero_le _,rfl,by simpa using h0⟩ ?_
 rintro k _ hk ⟨hk',rfl,hI⟩
 by_cases hc:k < l.length
 ·have e:l = l.take k ++ l[k] :: l.drop (k + 1):=by rw [← List.drop_eq_getElem_cons hc,List.take_append_drop]
  have hl:(l.take k).length = k:=by rw [List.length_take]; omega
  have hx:aV l ((l.take k).length:Int) = Option.some l[k]:=by
   rw [hl,iv (by omega) (by omega),lP _ _ hc]
  have h:=step (l.take k) l[k] (l.drop (k + 1)) e hx hI
  rw [hl] at h
  rw [if_pos (by simpa using hc)]
  refine h.mono fun o ho=>?_
  rcases ho with ⟨rfl,h⟩ | h
  ·refine .inl ⟨_,rfl,⟨by omega,?_,?_⟩,hc⟩
   ·rw [oM (by omega) (by omega)]; push_cast; rfl
   ·rw [List.take_succ_eq_append_getElem hc]; exact h
  ·exact .inr h
 ·have:k = l.length:=by omega
  subst this
  rw [List.take_length] at hI
  rw [if_neg (by simp)]
  exact aj.some (.inr ⟨_,rfl,fin hI⟩)
theorem aj.qF {l:List α} {A:σ → Int → Option ((σ × Int) ⊕ τ)} {G:σ → τ} {Q:τ → Prop} {F:Nat} {s0:σ} (I:List α → σ → Prop) (hF:l.length < F) (hL:l.length ≤ 9223372036854775807) (h0:I [] s0)
  (step:∀ pre x post s,l = pre ++ x :: post → aV l (pre.length:Int) = Option.some x → I pre s → aj (A s (pre.length:Int)) fun o=>(∃ s',o = .inl (s',IntKind.i64.wrap ((pre.length:Int) + 1)) ∧ I (pre ++ [x]) s') ∨ ∃ t,o = .inr t ∧ Q t)
  (fin:∀ s,I l s → Q (G s)):aj (iter F (eU fun s i=>if decide (i < (l.length:Int)) = true then A s i else Option.some (.inr (G s))) (s0,0)) Q:=by
 refine vg I hF hL h0 (fun pre x post s e hx hI=>?_) fun s hI=>?_
 ·simp only [eU]
  rw [if_pos (by rw [e]; simp; omega)]
  exact step pre x post s e hx hI
 ·simp only [eU]
  rw [if_neg (by simp)]
  exact aj.some ⟨_,rfl,fin s hI⟩
theorem qu {S S' τ':Type} {body:S → Option (S ⊕ τ')} {body':S' → Option (S' ⊕ τ')} (f:S → S') (h:∀ s,body' (f s) = (body s).map (bG (fun s=>.inl (f s)) .inr)):∀ F s,iter F body' (f s) = iter F body s
 | 0,s=>rfl
 | F + 1,s=>by
  rw [jk,jk,h]
  cases body s with
  | none=>rfl
  | some o=>
   cases o with
   | inl s'=>exact qu f h F s'
   | inr t=>rfl
private theorem xI {A B:Type} (o:Option (A ⊕ B)):o.map (bG (fun s=>Sum.inl s) Sum.inr) = o:=by
 cases o with
 | none=>rfl
 | some o=>cases o <;> rfl
theorem aj.ea3 {l:List α} {A:σ1 → σ2 → Int → Option ((σ1 × σ2 × Int) ⊕ τ)} {G:σ1 → σ2 → τ} {Q:τ → Prop} {F:Nat} {a0:σ1} {b0:σ2} (I:List α → σ1 → σ2 → Prop) (hF:l.length < F) (hL:l.length ≤ 9223372036854775807) (h0:I [] a0 b0)
  (step:∀ pre x post a b,l = pre ++ x :: post → aV l (pre.length:Int) = Option.some x → I pre a b → aj (A a b (pre.length:Int)) fun o=>(∃ a' b',o = .inl (a',b',IntKind.i64.wrap ((pre.length:Int) + 1)) ∧ I (pre ++ [x]) a' b') ∨ ∃ t,o = .inr t ∧ Q t)
  (fin:∀ a b,I l a b → Q (G a b)):aj (iter F (rf fun a b i=>if decide (i < (l.length:Int)) = true then A a b i else Option.some (.inr (G a b))) (a0,b0,0)) Q:=by
 have e:=qu (body:=fun z:(σ1 × σ2) × Int=>((rf fun a b i=>if decide (i < (l.length:Int)) = true then A a b i else Option.some (.inr (G a b))) (z.1.1,z.1.2,z.2)).map (bG (fun s=>.inl ((s.1,s.2.1),s.2.2)) .inr)) (body':=rf fun a b i=>if decide (i < (l.length:Int)) = true then A a b i else Option.some (.inr (G a b))) (fun z=>(z.1.1,z.1.2,z.2)) (fun s=>by
  rw [Option.map_map]; exact (Eq.trans (by congr 1; funext o; cases o <;> rfl) (xI _)).symm) F ((a0,b0),0)
 rw [e]
 refine vg (S:=σ1 × σ2) (fun pre s=>I pre s.1 s.2) hF hL h0 (fun pre x post s e hx hI=>?_) fun s hI=>?_
 ·simp only [rf]
  rw [if_pos (by rw [e]; simp; omega)]
  obtain ⟨o,ho,h⟩:=step pre x post s.1 s.2 e hx hI
  rw [ho]
  rcases h with ⟨a',b',rfl,h⟩ | ⟨t,rfl,h⟩
  ·exact aj.some (.inl ⟨(a',b'),rfl,h⟩)
  ·exact aj.some (.inr ⟨t,rfl,h⟩)
 ·simp only [rf]
  rw [if_neg (by simp)]
  exact aj.some ⟨_,rfl,fin s.1 s.2 hI⟩
theorem aj.ea4 {l:List α} {A:σ1 → σ2 → σ3 → Int → Option ((σ1 × σ2 × σ3 × Int) ⊕ τ)} {G:σ1 → σ2 → σ3 → τ} {Q:τ → Prop} {F:Nat} {a0:σ1} {b0:σ2} {c0:σ3} (I:List α → σ1 → σ2 → σ3 → Prop) (hF:l.length < F) (hL:l.length ≤ 9223372036854775807) (h0:I [] a0 b0 c0)
  (step:∀ pre x post a b c,l = pre ++ x :: post → aV l (pre.length:Int) = Option.some x → I pre a b c → aj (A a b c (pre.length:Int)) fun o=>(∃ a' b' c',o = .inl (a',b',c',IntKind.i64.wrap ((pre.length:Int) + 1)) ∧ I (pre ++ [x]) a' b' c') ∨ ∃ t,o = .inr t ∧ Q t)
  (fin:∀ a b c,I l a b c → Q (G a b c)):aj (iter F (wJ fun a b c i=>if decide (i < (l.length:Int)) = true then A a b c i else Option.some (.inr (G a b c))) (a0,b0,c0,0)) Q:=by
 have e:=qu (body:=fun z:(σ1 × σ2 × σ3) × Int=>((wJ fun a b c i=>if decide (i < (l.length:Int)) = true then A a b c i else Option.some (.inr (G a b c))) (z.1.1,z.1.2.1,z.1.2.2,z.2)).map (bG (fun s=>.inl ((s.1,s.2.1,s.2.2.1),s.2.2.2)) .inr)) (body':=wJ fun a b c i=>if decide (i < (l.length:Int)) = true then A a b c i else Option.some (.inr (G a b c))) (fun z=>(z.1.1,z.1.2.1,z.1.2.2,z.2)) (fun s=>by
  rw [Option.map_map]; exact (Eq.trans (by congr 1; funext o; cases o <;> rfl) (xI _)).symm) F ((a0,b0,c0),0)
 rw [e]
 refine vg (S:=σ1 × σ2 × σ3) (fun pre s=>I pre s.1 s.2.1 s.2.2) hF hL h0 (fun pre x post s e hx hI=>?_) fun s hI=>?_
 ·simp only [wJ]
  rw [if_pos (by rw [e]; simp; omega)]
  obtain ⟨o,ho,h⟩:=step pre x post s.1 s.2.1 s.2.2 e hx hI
  rw [ho]
  rcases h with ⟨a',b',c',rfl,h⟩ | ⟨t,rfl,h⟩
  ·exact aj.some (.inl ⟨(a',b',c'),rfl,h⟩)
  ·exact aj.some (.inr ⟨t,rfl,h⟩)
 ·simp only [wJ]
  rw [if_neg (by simp)]
  exact aj.some ⟨_,rfl,fin s.1 s.2.1 s.2.2 hI⟩
theorem aj.find {υ:Type} {l:List α} {c:α → Bool} {r:α → υ} {Q:Unit ⊕ υ → Prop} {F:Nat} (hF:l.length < F) (hL:l.length ≤ 9223372036854775807) (h1:(∀ x ∈ l,c x = false) → Q (.inl ())) (h2:∀ pre x post,l = pre ++ x :: post → (∀ y ∈ pre,c y = false) → c x = true → Q (.inr (r x))) {A:Int → Option (Int ⊕ (Unit ⊕ υ))}
  (hA:∀ (i:Int) x,aV l i = Option.some x → A i = if c x = true then Option.some (.inr (.inr (r x))) else Option.some (.inl (IntKind.i64.wrap (i + 1)))) :
  aj (iter F (fun i=>if decide (i < (l.length:Int)) = true then A i else Option.some (.inr (.inl ()))) 0) Q:=by
 refine aj.wL (fun pre=>∀ x ∈ pre,c x = false) hF hL (by simp) (fun pre x post e hx hI=>?_) fun h=>h1 h
 rw [hA _ x hx]
 refine aj.ite (fun h=>aj.some (.inr ⟨_,rfl,h2 pre x post e hI h⟩)) fun h=>aj.some (.inl ⟨rfl,fun y hy=>?_⟩)
 rcases List.mem_append.1 hy with hy | hy
 ·exact hI y hy
 ·rw [List.mem_singleton.1 hy]; exact h
end
end Go.Sk
namespace Go.Sk
open Go
set_option linter.unusedVariables false
def Le {α:Type} (a b:Option α):Prop:=∀ x,a = some x → b = some x
section
variable {α β γ σ τ:Type}
theorem Le.rfl (a:Option α):Le a a:=fun _ h=>h
theorem Le.none (a:Option α):Le Option.none a:=fun _ h=>by cases h
theorem Le.bind {a b:Option α} {k k':α → Option β} (h:Le a b) (hk:∀ x,Le (k x) (k' x)):Le (a.bind k) (b.bind k'):=fun y hy=>by
 cases a with
 | none=>cases hy
 | some x=>rw [h x (Eq.refl _)]; exact hk x y hy
theorem Le.ite {c:Prop} [Decidable c] {a b a' b':Option α} (h1:Le a a') (h2:Le b b'):Le (if c then a else b) (if c then a' else b'):=by
 split
 ·exact h1
 ·exact h2
theorem Le.aK [Inhabited α] {g:Bool} {a b:Option α} (h:Le a b):Le (aK g a) (aK g b):=by
 unfold Go.Sk.aK
 split
 ·exact h
 ·exact Le.rfl _
theorem Le.bu {a:γ} {k k':γ → Option α} (h:∀ a,Le (k a) (k' a)):Le (Go.Sk.bu a k) (Go.Sk.bu a k'):=h a
theorem Le.bG {f f':α → Option γ} {g g':β → Option γ} (h1:∀ x,Le (f x) (f' x)) (h2:∀ x,Le (g x) (g' x)) (z:α ⊕ β):Le (Go.Sk.bG f g z) (Go.Sk.bG f' g' z):=by
 cases z with
 | inl x=>exact h1 x
 | inr x=>exact h2 x
theorem Le.iter {F F':Nat} (hF:F ≤ F') {f f':σ → Option (σ ⊕ τ)} (h:∀ s,Le (f s) (f' s)) (s:σ):Le (Go.Sk.iter F f s) (Go.Sk.iter F' f' s):=by
 induction F generalizing F' s with
 | zero=>exact Le.none _
 | succ F ih=>
  obtain ⟨F',rfl⟩:∃ g,F' = g + 1:=⟨F' - 1,by omega⟩
  rw [jk,jk]
  exact Le.bind (h s) (Le.bG (fun x=>ih (by omega) x) fun x=>Le.rfl _)
end
end Go.Sk
