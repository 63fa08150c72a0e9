/- part of the proof: the framework -/
import Derived.Test.YtgojigdbelkgoaaF2
namespace Go.Sk
set_option linter.unusedSimpArgs false
set_option linter.unusedVariables false
open Go Go.BigFrame
@[reducible] def un9 {A1 A2 A3 A4 A5 A6 A7 A8 A9 γ:Type} (f:A1 → A2 → A3 → A4 → A5 → A6 → A7 → A8 → A9 → γ) (z:A1 × A2 × A3 × A4 × A5 × A6 × A7 × A8 × A9):γ:=f z.1 z.2.1 z.2.2.1 z.2.2.2.1 z.2.2.2.2.1 z.2.2.2.2.2.1 z.2.2.2.2.2.2.1 z.2.2.2.2.2.2.2.1 z.2.2.2.2.2.2.2.2
@[reducible] def un10 {A1 A2 A3 A4 A5 A6 A7 A8 A9 A10 γ:Type} (f:A1 → A2 → A3 → A4 → A5 → A6 → A7 → A8 → A9 → A10 → γ) (z:A1 × A2 × A3 × A4 × A5 × A6 × A7 × A8 × A9 × A10):γ:=f z.1 z.2.1 z.2.2.1 z.2.2.2.1 z.2.2.2.2.1 z.2.2.2.2.2.1 z.2.2.2.2.2.2.1 z.2.2.2.2.2.2.2.1 z.2.2.2.2.2.2.2.2.1 z.2.2.2.2.2.2.2.2.2
@[reducible] def un11 {A1 A2 A3 A4 A5 A6 A7 A8 A9 A10 A11 γ:Type} (f:A1 → A2 → A3 → A4 → A5 → A6 → A7 → A8 → A9 → A10 → A11 → γ) (z:A1 × A2 × A3 × A4 × A5 × A6 × A7 × A8 × A9 × A10 × A11):γ:=f z.1 z.2.1 z.2.2.1 z.2.2.2.1 z.2.2.2.2.1 z.2.2.2.2.2.1 z.2.2.2.2.2.2.1 z.2.2.2.2.2.2.2.1 z.2.2.2.2.2.2.2.2.1 z.2.2.2.2.2.2.2.2.2.1 z.2.2.2.2.2.2.2.2.2.2
@[reducible] def un12 {A1 A2 A3 A4 A5 A6 A7 A8 A9 A10 A11 A12 γ:Type} (f:A1 → A2 → A3 → A4 → A5 → A6 → A7 → A8 → A9 → A10 → A11 → A12 → γ) (z:A1 × A2 × A3 × A4 × A5 × A6 × A7 × A8 × A9 × A10 × A11 × A12):γ:=f z.1 z.2.1 z.2.2.1 z.2.2.2.1 z.2.2.2.2.1 z.2.2.2.2.2.1 z.2.2.2.2.2.2.1 z.2.2.2.2.2.2.2.1 z.2.2.2.2.2.2.2.2.1 z.2.2.2.2.2.2.2.2.2.1 z.2.2.2.2.2.2.2.2.2.2.1 z.2.2.2.2.2.2.2.2.2.2.2
@[reducible] def un13 {A1 A2 A3 A4 A5 A6 A7 A8 A9 A10 A11 A12 A13 γ:Type} (f:A1 → A2 → A3 → A4 → A5 → A6 → A7 → A8 → A9 → A10 → A11 → A12 → A13 → γ) (z:A1 × A2 × A3 × A4 × A5 × A6 × A7 × A8 × A9 × A10 × A11 × A12 × A13):γ:=f z.1 z.2.1 z.2.2.1 z.2.2.2.1 z.2.2.2.2.1 z.2.2.2.2.2.1 z.2.2.2.2.2.2.1 z.2.2.2.2.2.2.2.1 z.2.2.2.2.2.2.2.2.1 z.2.2.2.2.2.2.2.2.2.1 z.2.2.2.2.2.2.2.2.2.2.1 z.2.2.2.2.2.2.2.2.2.2.2.1 z.2.2.2.2.2.2.2.2.2.2.2.2
@[reducible] def un14 {A1 A2 A3 A4 A5 A6 A7 A8 A9 A10 A11 A12 A13 A14 γ:Type} (f:A1 → A2 → A3 → A4 → A5 → A6 → A7 → A8 → A9 → A10 → A11 → A12 → A13 → A14 → γ) (z:A1 × A2 × A3 × A4 × A5 × A6 × A7 × A8 × A9 × A10 × A11 × A12 × A13 × A14):γ:=f z.1 z.2.1 z.2.2.1 z.2.2.2.1 z.2.2.2.2.1 z.2.2.2.2.2.1 z.2.2.2.2.2.2.1 z.2.2.2.2.2.2.2.1 z.2.2.2.2.2.2.2.2.1 z.2.2.2.2.2.2.2.2.2.1 z.2.2.2.2.2.2.2.2.2.2.1 z.2.2.2.2.2.2.2.2.2.2.2.1 z.2.2.2.2.2.2.2.2.2.2.2.2.1 z.2.2.2.2.2.2.2.2.2.2.2.2.2
@[reducible] def un15 {A1 A2 A3 A4 A5 A6 A7 A8 A9 A10 A11 A12 A13 A14 A15 γ:Type} (f:A1 → A2 → A3 → A4 → A5 → A6 → A7 → A8 → A9 → A10 → A11 → A12 → A13 → A14 → A15 → γ) (z:A1 × A2 × A3 × A4 × A5 × A6 × A7 × A8 × A9 × A10 × A11 × A12 × A13 × A14 × A15):γ:=f z.1 z.2.1 z.2.2.1 z.2.2.2.1 z.2.2.2.2.1 z.2.2.2.2.2.1 z.2.2.2.2.2.2.1 z.2.2.2.2.2.2.2.1 z.2.2.2.2.2.2.2.2.1 z.2.2.2.2.2.2.2.2.2.1 z.2.2.2.2.2.2.2.2.2.2.1 z.2.2.2.2.2.2.2.2.2.2.2.1 z.2.2.2.2.2.2.2.2.2.2.2.2.1 z.2.2.2.2.2.2.2.2.2.2.2.2.2.1 z.2.2.2.2.2.2.2.2.2.2.2.2.2.2
@[reducible] def un16 {A1 A2 A3 A4 A5 A6 A7 A8 A9 A10 A11 A12 A13 A14 A15 A16 γ:Type} (f:A1 → A2 → A3 → A4 → A5 → A6 → A7 → A8 → A9 → A10 → A11 → A12 → A13 → A14 → A15 → A16 → γ) (z:A1 × A2 × A3 × A4 × A5 × A6 × A7 × A8 × A9 × A10 × A11 × A12 × A13 × A14 × A15 × A16):γ:=f z.1 z.2.1 z.2.2.1 z.2.2.2.1 z.2.2.2.2.1 z.2.2.2.2.2.1 z.2.2.2.2.2.2.1 z.2.2.2.2.2.2.2.1 z.2.2.2.2.2.2.2.2.1 z.2.2.2.2.2.2.2.2.2.1 z.2.2.2.2.2.2.2.2.2.2.1 z.2.2.2.2.2.2.2.2.2.2.2.1 z.2.2.2.2.2.2.2.2.2.2.2.2.1 z.2.2.2.2.2.2.2.2.2.2.2.2.2.1 z.2.2.2.2.2.2.2.2.2.2.2.2.2.2.1 z.2.2.2.2.2.2.2.2.2.2.2.2.2.2.2
def eR {α:Type} (e:α → List CP) (r:List α):List (List CP):=r.map e
theorem rr_sl {α:Type} {e:α → List CP} {size:Nat} (xs:List (List α)):((xs.map (eR e)).map fun es=>[CP.sl size es]) = xs.map (eL size e):=by
 rw [List.map_map]; rfl
theorem lQ {α β:Type} (xs:List α) (e:α → β) (i:Nat) (x:α):(xs.map e).set i (e x) = (xs.set i x).map e:=by rw [List.map_set]
theorem qD {α:Type} {e:α → List CP} {xs z:List (List α)} (h:df xs [[]] = some z):(xs.map (eR e)) ++ [[]] = z.map (eR e):=by rw [← qW h,List.map_append]; rfl
theorem rr_b {α β:Type} {xs z:List α} {x:α} {e:α → β} (h:df xs [x] = some z) {bytes:Nat} (hb:bytes ≤ 140737:=by decide):((xs.map e).length + 1) * bytes ≤ 140737488355328:=by
 have:=c7 (e:=e) h hb
 simpa using this
theorem rr_m {α β:Type} {xs z:List α} {x:α} {e:α → β} (h:df xs [x] = some z):(xs.map e).length + 1 ≤ 9223372036854775807:=by
 have:=c6 (e:=e) h
 simpa using this
section
variable {P:Program} {TB:bc} {E:Env TB} {n:Sh} {s:St} {dst:Option Nat} {t ty yt:TypeId} {pos:String} {after:Array Edge} {g:Option (Nat × Bool)} {x y c:Operand} {Q:bU} {cd:Code} {ops:Array Oper} {l:List Oper} {o:Oper}
variable {k kp i size bytes:Nat} {T e:TypeId} {hole:mD} {ess:List (List (List CP))} {q:List (List CP)}
theorem ab.jv (k:Nat) (hk:lk s.own k = some (.rr T e size .none ess)) (hq:(ess.map fun es=>[CP.sl size es]) = q) (hc:ab P E n cd ⟨eX k (.sl 1 q) s.slots,eF k (.sl 1 q) (del k s.own)⟩ Q):ab P E n cd s Q:=by subst hq; exact ab.dK k hk hc
theorem ae.jv (k:Nat) (hk:lk s.own k = some (.rr T e size .none ess)) (hq:(ess.map fun es=>[CP.sl size es]) = q) (hc:ae P E n ops l ⟨eX k (.sl 1 q) s.slots,eF k (.sl 1 q) (del k s.own)⟩ Q):ae P E n ops l s Q:=by subst hq; exact ae.dK k hk hc
theorem Fin.jv {ex:Exit} (k:Nat) (hk:lk s.own k = some (.rr T e size .none ess)) (hq:(ess.map fun es=>[CP.sl size es]) = q) (hc:Fin E n ex ⟨eX k (.sl 1 q) s.slots,eF k (.sl 1 q) (del k s.own)⟩ Q):Fin E n ex s Q:=by subst hq; exact Fin.dK k hk hc
theorem j7 {m:Nat} (ht:P.underlying t = some (.slice yt)) (hx:s.ev x = some (.b (.row k))) (hk:lk s.own k = some (.rr T e size hole ess)) (hm:ess.length = m) :
  br P E n ⟨dst,.call ⟨.builtin .len,#[x],#[t]⟩,ty,pos,after,g⟩ s (s.put n dst (I (m:Int))):=hm ▸ p7 ht hx hk
theorem ar.pk {P:Program} {TB:bc} {f:FuncId} {args:List BV} {own_a own':List (Nat × OC)} {T:TypeId} {size:Nat} {es:List (List CP)} {res:SV} (h:ar P TB f own_a args (Is own' res)) (k0:Nat) (hk:lk own' k0 = some (.row T size es)):ar P TB f own_a args (Is (eF k0 (.sl size es) (del k0 own')) (res.dQ k0 (.sl size es))):=by
 intro w hh ρ vals tb hag hl hargs
 refine (h w hh ρ vals tb hag hl hargs).mono ?_
 rintro e w' ⟨v,own',res,h',ρ',rfl,⟨rfl,rfl⟩,hw,hres⟩
 have hR:R ⟨w,hh,ρ,tb⟩ ⟨1,aQ own_a,aj own_a,[]⟩ ⟨[(0,res)],own'⟩ ⟨#[v],[]⟩ w':=⟨rfl,rfl,h',ρ',WR.sh (n:=⟨0,aQ own_a,aj own_a,[]⟩) (n':=⟨1,aQ own_a,aj own_a,[]⟩) rfl rfl hw,fun k x hx=>by
  simp only [List.mem_singleton,Prod.mk.injEq] at hx
  obtain ⟨rfl,rfl⟩:=hx
  exact ⟨v,by simp,hres⟩⟩
 obtain ⟨_,_,h'',ρ'',hw'',hs''⟩:=hR.bA (k:=k0) hk
 obtain ⟨u,hu,hur⟩:=hs'' 0 (res.dQ k0 (.sl size es)) (by simp [eX])
 have huv:u = v:=by simpa using hu.symm
 subst huv
 exact ⟨u,_,_,h'',ρ'',rfl,⟨rfl,rfl⟩,WR.sh (n:=⟨1,aQ own_a,aj own_a,[]⟩) (n':=⟨0,aQ own_a,aj own_a,[]⟩) rfl rfl hw'',hur⟩
theorem br.then' {s1 s2:St} (h1:br P E n o s s1) (h:∀ a w,R E n s1 a w → R E n s2 a w):br P E n o s s2:=fun a w hr next Q hn=>h1 a w hr next Q fun a' w' hr'=>hn a' w' (h a' w' hr')
theorem br.eV (kos:List Nat) {s1 s2:St} (h1:br P E n o s s1) (e:(⟨s1.slots,iM kos s1.own⟩:St) = s2):br P E n o s s2:=h1.then' fun a w hr=>e ▸ (by
 obtain ⟨hd,hn,h,ρ,hw,hs⟩:=hr
 exact ⟨hd,hn,h,ρ,hw.sub fun _ hp=>ff hp,hs⟩)
theorem br.dQ (k:Nat) {s1:St} {es:List (List CP)} (h1:br P E n o s s1) (hk:lk s1.own k = some (.row T size es)):br P E n o s ⟨eX k (.sl size es) s1.slots,eF k (.sl size es) (del k s1.own)⟩:=h1.then' fun a w hr=>hr.bA hk
theorem q5 {own:List (Nat × OC)} {h:PH} {ρ:RM} {w:World} {k k2:Nat} {es:List (List CP)} (hw:WR E n own h ρ w) (hk:lk own k = some (.row T size es)) (hfx:n.fix.contains k2 = false) (hnk:bL k own = true) (hnu:bL k2 own = true) (hne:(k2 == k) = false) (hf2:lk own k2 = none) :
  WR E n (ins k2 (.row T size es) (del k own)) h (fW ρ k2 (ρ k)) w:=by
 have hkm:=aA hk
 have hne:k2 ≠ k:=by simpa using hne
 have hfx:k2 ∉ n.fix:=by simpa using hfx
 have fX:∀ j z,(j,z) ∈ ins k2 (OC.row T size es) (del k own) → (j = k2 ∧ z = .row T size es) ∨ (j ≠ k2 ∧ j ≠ k ∧ (j,z) ∈ own):=fun j z hj=>by
  rcases c3 hj with ⟨rfl,rfl⟩ | ⟨h1,hj⟩
  ·exact .inl ⟨rfl,rfl⟩
  ·exact .inr ⟨h1,(bB hj).2,(bB hj).1⟩
 refine ⟨hw.agree,hw.le,hw.fresh,hw.size,hw.same,fun j hj=>?_,hw.os,hw.out,hw.nl,fun j z hj=>?_⟩
 ·rw [aJ _ _ fun e=>hfx (by rw [← e]; exact hj)]; exact hw.fixed j hj
 ·rcases fX j z hj with ⟨rfl,rfl⟩ | ⟨j1,j2,j3⟩
  ·rw [aN]
   obtain ⟨g1,g2,g3⟩:=hw.owned k _ hkm
   refine ⟨g1.nN fun q hq=>by rw [OC.iV rfl] at hq; simp at hq,g2,fun j' z' hj' hne' b hb hb'=>?_⟩
   rcases fX j' z' hj' with ⟨rfl,rfl⟩ | ⟨i1,i2,i3⟩
   ·exact hne' rfl
   ·rw [aJ _ _ i1] at hb'; exact g3 j' z' i3 i2 b hb hb'
  ·rw [aJ _ _ j1]
   obtain ⟨g1,g2,g3⟩:=hw.owned j z j3
   refine ⟨g1.nN fun q hq=>aJ _ _ fun e=>?_,g2,fun j' z' hj' hne' b hb hb'=>?_⟩
   ·subst e; rw [er hnu j3] at hq; simp at hq
   rcases fX j' z' hj' with ⟨rfl,rfl⟩ | ⟨i1,i2,i3⟩
   ·rw [aN] at hb'; exact g3 k _ hkm (fun e=>j2 e.symm) b hb hb'
   ·rw [aJ _ _ i1] at hb'; exact g3 j' z' i3 hne' b hb hb'
theorem nD {α:Type} (k:Nat):∀ l:List (Nat × α),del k (del k l) = del k l
 | []=>rfl
 | (j,x) :: l=>by
  by_cases h:k == j
  ·simp only [del,h,if_true]; exact nD k l
  ·simp [del,h,nD k l]
theorem pL {α:Type} (k:Nat) (c c0:α):∀ l:List (Nat × α),ins k c (ins k c0 l) = ins k c l
 | []=>by simp [ins,del]
 | (j,x) :: l=>by
  by_cases h:k == j
  ·simp only [ins,h,if_true]; simp [ins,nD]
  ·simp [ins,h,pL k c c0 l]
theorem upd_upd {ρ:RM} {k:Nat} {a b:Value}:fW (fW ρ k a) k b = fW ρ k b:=by
 funext j
 by_cases h:j = k
 ·subst h; rw [aN,aN]
 ·rw [aJ _ _ h,aJ _ _ h,aJ _ _ h]
theorem oI {α:Type} (k:Nat) (c:α):∀ l:List (Nat × α),lk (ins k c l) k = some c
 | []=>by simp [ins,lk]
 | (j,x) :: l=>by
  by_cases h:k == j
  ·simp [ins,h,lk]
  ·simp [ins,lk,h,oI k c l]
theorem mx {k k2:Nat} {es news es':List (List CP)} {zs:List CP} (hdst:o.dst = dst)
  (ht:ec P t e size bytes zs) (hb:(es.length + news.length) * bytes ≤ 140737488355328) (hm:es.length + news.length ≤ 9223372036854775807)
  (hk:lk s.own k = some (.row e size es)) (he:es ++ news = es') (hfx:n.fix.contains k2 = false) (hnk:bL k s.own = true) (hnu:bL k2 s.own = true) (hne:(k2 == k) = false) (hf2:lk s.own k2 = none)
  (H:∀ (a:Act) (w:World) (h:PH) (ρ:RM),WR E n s.own h ρ w → a7 h ρ s.slots a.tmps → ∃ u,Src w u h size news ∧ ∀ v' w',(Builtin.append_ #[t,t] ty #[ρ k,u]).run P w = .ok v' w' → (execOp a.eval o).run P w = .ok (.value v') w') :
  br P E n o s ((⟨bg k2 s.slots,ins k2 (.row e size es') (del k s.own)⟩:St).put n dst (.b (.row k2))):=by
 subst hdst he
 intro a w ⟨hdf,hn,h,ρ,hw,hs⟩ next Q hnext
 obtain ⟨u,hsrc,hexec⟩:=H a w h ρ hw hs
 have hw2:=q5 hw hk hfx hnk hnu hne hf2
 have hnu2:bL k2 (ins k2 (OC.row e size es) (del k s.own)) = true:=by
  unfold bL
  refine List.all_eq_true.2 fun p hp=>?_
  rcases c3 (j:=p.1) (x:=p.2) hp with ⟨_,e2⟩ | ⟨_,e2⟩
  ·rw [e2,OC.iV rfl]; rfl
  ·rw [er hnu (bB e2).1]; rfl
 obtain ⟨v',w',hrun,h1,h2,h3,h4,h5,h6⟩:=jf (s:=⟨[],ins k2 (OC.row e size es) (del k s.own)⟩) (ty:=ty) hw2 ht (oI _ _ _) rfl hsrc hb (by rw [cB]; exact hm)
 rw [aN] at hrun h4 h6
 have hst:=hw2.step k2 v' (.row e size (es ++ news)) (aw (ρ k)) (fun b hb=>⟨_,aA (oI _ _ _),by first | exact hb | (rw [aN]; exact hb)⟩) h1 h2 h3 h4 (h5.nN fun q hq=>by rw [OC.iV rfl] at hq; simp at hq) (fun b hb=>by
  rcases h6 b hb with h | h
  ·exact .inl (by first | exact h | (rw [aN]; exact h) | (simp only [aN]; exact h))
  ·exact .inr h) (.inr fun e=>by simp at hfx; exact hfx e) (.inr hnu2)
 rw [pL,upd_upd] at hst
 unfold Oper.wp
 rw [hexec v' w' hrun]
 exact hnext _ _ (R.put (s:=⟨bg k2 s.slots,ins k2 (.row e size (es ++ news)) (del k s.own)⟩) hdf hn hst (hs.bg k2 v') (aN _ _ _).symm)
theorem kK {k k2:Nat} {es news es':List (List CP)} {zs:List CP} (ht:ec P t e size bytes zs) (hb:(es.length + news.length) * bytes ≤ 140737488355328) (hm:es.length + news.length ≤ 9223372036854775807)
  (hx:s.ev x = some (.b (.row k))) (hk:lk s.own k = some (.row e size es)) (hy:s.ev y = some (.b (.one (.sl size news)))) (he:es ++ news = es') (hfx:n.fix.contains k2 = false) (hnk:bL k s.own = true) (hnu:bL k2 s.own = true) (hne:(k2 == k) = false) (hf2:lk s.own k2 = none) :
  br P E n ⟨dst,.call ⟨.builtin .append,#[x,y],#[t,t]⟩,ty,pos,after,g⟩ s ((⟨bg k2 s.slots,ins k2 (.row e size es') (del k s.own)⟩:St).put n dst (.b (.row k2))) :=
 mx (dst:=dst) (ty:=ty) rfl ht hb hm hk he hfx hnk hnu hne hf2 fun ac w h ρ hw hs=>by
  have hv:ac.eval x = ρ k:=(aE hs hx:BV.rel h ρ (.row k) _)
  refine ⟨ac.eval y,Src.of_sl hw (aE hs hy:(CP.sl size news).rel h _),fun v' w' hrun=>?_⟩
  rw [execOp_builtin,builtin_append]
  simp [hv,hrun]
theorem oZ {e:TypeId} (ht:P.underlying t = some (.slice e)) (hx:s.ev x = some (.b (.one .nil))) :
  br P E n ⟨dst,.call ⟨.builtin .len,#[x],#[t]⟩,ty,pos,after,g⟩ s (s.put n dst (I 0)) :=
 br.val (o:=⟨dst,.call ⟨.builtin .len,#[x],#[t]⟩,ty,pos,after,g⟩) fun ac w h ρ hw hs=>by
  have hv:=(aE hs hx:(CP.nil).rel h _)
  refine ⟨.int .i64 0,?_,rfl,gz (m:=0) (Nat.zero_le _)⟩
  rw [execOp_builtin,builtin_len]
  simp [hv.1,Builtin.len_,run_underlying ht,goInt]
inductive jI:List CP → List CP → Prop
 | nil:jI [] []
 | same {p:CP} {ps qs:List CP}:jI ps qs → jI (p :: ps) (p :: qs)
 | sl {size:Nat} {ps qs:List CP}:0 < size → jI ps qs → jI (.nil :: ps) (.sl size [] :: qs)
inductive hZ:List BV → List BV → Prop
 | nil:hZ [] []
 | same {p:BV} {ps qs:List BV}:hZ ps qs → hZ (p :: ps) (p :: qs)
 | sl {size:Nat} {ps qs:List BV}:0 < size → hZ ps qs → hZ (.one .nil :: ps) (.one (.sl size []) :: qs)
theorem qE {h:PH} {size:Nat} {v:Value} (hz:0 < size) (hr:CP.nil.rel h v):(CP.sl size []).rel h v:=⟨fun ps hps=>by simp at hps,hz,.inl ⟨hr.1,rfl⟩⟩
theorem jI.rel {h:PH}:∀ {ps qs:List CP} {vs:List Value},jI ps qs → av h ps vs → av h qs vs
 | _,_,_,.nil,hr=>hr
 | _,_,_,.same hn,.cons a b=>.cons a (jI.rel hn b)
 | _,_,_,.sl hz hn,.cons a b=>.cons (qE hz a) (jI.rel hn b)
theorem hZ.rel {h:PH} {ρ:RM}:∀ {ps qs:List BV} {vs:List Value},hZ ps qs → aI (fun (x:BV) u=>x.rel h ρ u ∧ u.oneCell' = true) ps vs → aI (fun (x:BV) u=>x.rel h ρ u ∧ u.oneCell' = true) qs vs
 | _,_,_,.nil,hr=>hr
 | _,_,_,.same hn,.cons a b=>.cons a (hZ.rel hn b)
 | _,_,_,.sl hz hn,.cons a b=>.cons ⟨qE hz a.1,a.2⟩ (hZ.rel hn b)
theorem br.weak {s1:St} {x x':SV} (h1:br P E n o s (s1.put n o.dst x)) (hx:∀ (h:PH) (ρ:RM) (v:Value),x.rel h ρ v → x'.rel h ρ v):br P E n o s (s1.put n o.dst x'):=h1.then' fun a w hr=>by
 obtain ⟨hd,hn,h,ρ,hw,hs⟩:=hr
 have hown:∀ (x:SV),(s1.put n o.dst x).own = s1.own:=fun x=>by
  unfold St.put; split
  ·unfold St.set; split <;> rfl
  ·rfl
 refine ⟨hd,hn,h,ρ,by rw [hown] at hw ⊢; exact hw,fun j y hy=>?_⟩
 cases hdst:o.dst with
 | none=>rw [hdst] at hy hs; exact hs j y hy
 | some d=>
  rw [hdst] at hy hs
  simp only [St.put,St.set] at hy hs
  split at hy
  ·next hlt=>
   simp only [hlt,if_true] at hs
   cases List.mem_cons.1 hy with
   | inl e=>
    obtain ⟨rfl,rfl⟩:=Prod.mk.inj e
    obtain ⟨v,hv,hrel⟩:=hs j x List.mem_cons_self
    exact ⟨v,hv,hx h ρ v hrel⟩
   | inr e=>exact hs j y (List.mem_cons_of_mem _ e)
  ·next hlt=>
   simp only [hlt,if_false] at hs
   exact hs j y hy
theorem br.nilA {s1:St} {ps qs:List CP} (hn:jI ps qs) (h1:br P E n o s (s1.put n o.dst (.b (.agg ps)))):br P E n o s (s1.put n o.dst (.b (.agg qs))) :=
 h1.weak fun _ _ _ ⟨cs,e,hr⟩=>⟨cs,e,hn.rel hr⟩
end
section
variable {P:Program} {TB:bc} {E:Env TB} {n:Sh} {s:St} {Q:bU} {cd:Code} {ops:Array Oper} {l:List Oper}
end
section
variable {P:Program} {TB:bc} {E:Env TB} {n:Sh} {s:St} {dst:Option Nat} {t ty yt:TypeId} {pos:String} {after:Array Edge} {g:Option (Nat × Bool)} {x y c:Operand}
end
theorem lJ {vis:List Int} {r1 r2:bf} {p:Int × Int} {ks:List Int} (h:(vis ++ (r1 ++ p :: r2).map (·.1)).Perm ks):((vis ++ [p.1]) ++ (r1 ++ r2).map (·.1)).Perm ks:=by
 refine List.Perm.trans ?_ h
 rw [List.append_assoc]
 refine List.Perm.append_left vis ?_
 rw [List.map_append,List.map_append,List.map_cons]
 show (p.1 :: (r1.map (·.1) ++ r2.map (·.1))).Perm _
 exact List.perm_middle.symm
theorem fj {vis:List Int} {r1 r2:bf} {p:Int × Int} {m:bf} (h:(vis ++ (r1 ++ p :: r2).map (·.1)).Perm (m.map (·.1))) (hm:m.length ≤ 1000000000):vis.length + [p.1].length ≤ 1000000000:=by
 have:=h.length_eq
 simp at this ⊢
 omega
theorem nG {a b:List Int} (h:a.Perm b):sorted a = sorted b:=by
 have pw:∀ l:List Int,(sorted l).Pairwise (· ≤ ·):=fun l=>by
  have:=List.pairwise_mergeSort (le:=fun x y:Int=>decide (x ≤ y)) (by intro a b c; simp; omega) (by intro a b; simp; omega) l
  exact this.imp fun h=>by simpa using h
 refine List.Perm.eq_of_pairwise (le:=fun x y:Int=>x ≤ y) (fun a b _ _ h1 h2=>by omega) (pw a) (pw b) ?_
 exact ((List.mergeSort_perm a _).trans h).trans (List.mergeSort_perm b _).symm
def iQ (zs:List Int):Option (List Int):=if zs.length < 1000000000 then some (sorted zs) else none
theorem me {vis ks r:List Int} (h:vis.Perm ks) (hr:iQ ks = some r):iQ vis = some r:=by
 unfold iQ at hr ⊢
 rw [h.length_eq,nG h]
 exact hr
section
open Go Go.BigFrame Go.RowKit Go.Proofs Go.Shelf
variable {P:Program} {TB:bc} {ρ:Ren}
theorem ov (L:Lays.n189 P ρ) (hnil:ar P TB (ρ.f 189) [] [.one .nil] (Is [] (.eo []))) {T:TypeId} {zs r:List Int} (hr:iQ zs = some r):ar P TB (ρ.f 189) [(1,.cp T 1 (zs.map eI))] [.row 1] (Is [(1,.cp T 1 (r.map eI))] (.eo [])):=by
 unfold iQ at hr
 split at hr
 ·next hl=>
  cases hr
  intro w h ρ' vals tb hag hlent hargs
  obtain ⟨v,rfl,hv⟩:=rF hargs
  have hv':v = ρ' 1:=hv
  subst hv'
  have hw:=l6 tb hag hlent
  obtain ⟨_,_,hf⟩:=qg hw (k:=1) rfl
  rcases hf with ⟨hn,h0⟩ | ⟨b,cap,cur,h1,h2,h3,h4,h5,h6⟩
  ·have hz:zs = []:=List.map_eq_nil_iff.1 h0
   subst hz
   refine (hnil w h ρ' _ tb hag (fun k c hk=>by simp at hk) (.cons (by rw [hn]; exact ⟨rfl,rfl⟩) .nil)).mono ?_
   rintro e w' ⟨v,own',res,h',ρ'',rfl,⟨rfl,rfl⟩,hc,vs,rfl,hvs⟩
   have e0:sorted [] = []:=by simp [sorted]
   exact ⟨_,_,_,h',ρ',rfl,⟨rfl,rfl⟩,by rw [e0]; exact hw.none hc,vs,rfl,by
    generalize vs.toList = l at hvs
    cases hvs
    exact .nil⟩
  rw [List.length_map] at h1 h3 h6
  rw [Nat.mul_one] at h5 h6
  obtain ⟨e1,e2⟩:=rD h6
  have hlen:(sorted zs).length = zs.length:=List.length_mergeSort zs
  have hbl:b < w.heap.size:=(Array.getElem?_eq_some_iff.1 h2).1
  rw [h1]
  refine (Any.slices_Sort_int L b 0 cap zs w (pd h2 e1) hbl (by omega)).mono ?_
  rintro e w' ⟨rfl,q,os,rfl⟩
  have hsz:(Sort.putRow (Value.int .i64) (Sort.ahead w q) b 0 (sorted zs).toArray).heap.size = w.heap.size:=by simp [Sort.putRow,Sort.mapBlock,Sort.ahead]
  have hst:=hw.step (w':=Sort.grow (Sort.putRow (Value.int .i64) (Sort.ahead w q) b 0 (sorted zs).toArray) os) 1 (ρ' 1) (.cp T 1 ((sorted zs).map eI)) (some b) (fun b' e=>by cases e; exact ⟨.cp T 1 (zs.map eI),List.mem_cons_self,by rw [h1]; rfl⟩)
   (by rw [Sort.size_grow,hsz]; omega) rfl rfl (fun c hc hne=>by
    rw [Sort.heap_grow_old _ _ (by rw [hsz]; exact hc)]
    exact jE (w:=Sort.ahead w q) (fun e=>hne (by rw [e]))) ?_ (fun b' hb'=>by rw [h1] at hb'; simp [aw] at hb'; exact .inl (by rw [hb'])) (.inl rfl) (.inl rfl)
  ·have:fW ρ' 1 (ρ' 1) = ρ':=by funext j; simp only [fW]; split <;> simp_all
   rw [this] at hst
   exact ⟨.tuple #[],_,_,h,ρ',rfl,⟨rfl,rfl⟩,hst,_,rfl,.nil⟩
  ·refine ⟨uni_I _,by decide,(sorted zs).map (Value.int .i64),⟨by simp [hlen],.inr ⟨b,cap,Sort.putCells (Value.int .i64) 0 (sorted zs).toArray cur,by rw [h1,List.length_map,hlen],Nat.zero_le _,?_,by rw [List.length_map,hlen]; exact h3,h4,?_,?_⟩⟩,ri fun z hz=>e2 z (List.mem_mergeSort.1 hz)⟩
   ·rw [Sort.heap_grow_old _ _ (by rw [hsz]; exact hbl)]
    exact mH (w:=Sort.ahead w q) h2
   ·simp [Sort.putCells,h5]
   ·rw [List.length_map,Nat.mul_one]
    exact mF (by rw [h5,hlen]; exact h3)
 ·simp at hr
end
end Go.Sk
namespace Go.Sk
set_option linter.unusedSimpArgs false
set_option linter.unusedVariables false
open Go Go.ChangeShapes Go.WideShapes Go.ChangeAt Go.RowKit Go.Deep
theorem dP.sl {P:Program} {t el:TypeId} {α:Type} {e:α → List CP} {size:Nat} (ht:P.underlying t = some (.slice el)) (hc:P.cellsOf t = 1) (hr:dP P el e) (hs:P.cellsOf el = size) (hpos:0 < size):dP P t (eL size e) where
 len _:=by simp [hc,eL]
 op {H enc W sp held fuel cs x} hsp hf:=by
  subst hs
  have hu:∀ l:List α,bD (P.cellsOf el) (l.map e):=fun l=>aS fun x=>hr.len x
  rcases open_slice ht hf with ⟨h1,hx0⟩ | ⟨a,len,cap,m,n,D,Pl,h1,hb,hl,hm,hmm,hx,hi⟩
  ·subst h1
   exact ⟨[],.cons ⟨hu [],hpos,.inl ⟨rfl,rfl⟩⟩ .nil⟩
  ·subst h1
   rw [hsp,if_pos rfl] at hmm
   subst hmm
   by_cases hm0:m = 0
   ·subst hm0
    have:len = 0:=by omega
    subst this
    exact ⟨[],.cons ⟨hu [],hpos,.inr (.inr ⟨a,rfl,rfl⟩)⟩ .nil⟩
   ·obtain ⟨l,hll,hp⟩:=gK (p:=fun i a'=>av (full W) (e a') ((W.cells? 0 (a.add (i * P.cellsOf el)) (P.cellsOf el)).getD [])) len fun i hil=>by
     obtain ⟨cs',h2,h3⟩:=hi i (by omega)
     obtain ⟨a',ha'⟩:=hr.op hsp h3
     exact ⟨a',by rw [h2]; exact ha'⟩
    have hspot:a.spot = none:=by
     obtain ⟨cs',h2,_⟩:=hi 0 (by omega)
     obtain ⟨_,hcl,hcell⟩:=World.cells?_some h2
     have h3:=hcell 0 hpos
     rw [Nat.zero_mul] at h3
     have e0:(a.add 0).add 0 = a:=by simp [Addr.add]
     rw [e0] at h3
     have hlt:0 < cs'.length:=by omega
     rw [List.getElem?_eq_getElem hlt] at h3
     unfold World.cell? at h3
     split at h3
     ·split at h3
      ·cases h3
      ·next hns=>simpa using hns
     ·cases h3
    obtain ⟨b,o,s⟩:=a
    simp only at hspot
    subst hspot
    refine ⟨l,.cons ⟨hu l,hpos,.inr (.inl ⟨b,o,m,by simp [hll],by simp [hll]; omega,hm,?_⟩)⟩ .nil⟩
    intro j c hj
    have hjl:j < (l.map e).flatten.length:=(List.getElem?_eq_some_iff.1 hj).1
    rw [cx (hu l),List.length_map,hll] at hjl
    have hi':j / P.cellsOf el < len:=by
     rw [Nat.div_lt_iff_lt_mul hpos]; exact hjl
    have hj':j % P.cellsOf el < P.cellsOf el:=Nat.mod_lt _ hpos
    have hdm:=Nat.div_add_mod j (P.cellsOf el)
    obtain ⟨cs',h2,h3⟩:=hi (j / P.cellsOf el) (by omega)
    have hli:l[j / P.cellsOf el]? = some (l[j / P.cellsOf el]'(by omega)):=List.getElem?_eq_getElem (by omega)
    have hrel:=hp _ _ hli
    rw [h2] at hrel
    have hget:=eC (hu l) (j / P.cellsOf el) (e (l[j / P.cellsOf el]'(by omega))) (by rw [List.getElem?_map,hli]; rfl) (j % P.cellsOf el) hj'
    have ej:j / P.cellsOf el * P.cellsOf el + j % P.cellsOf el = j:=by rw [Nat.mul_comm]; omega
    rw [ej,hj] at hget
    obtain ⟨u,hu1,hu2⟩:=aI.get hrel _ _ hget.symm
    refine ⟨u,?_,hu2⟩
    obtain ⟨_,hcl,hcell⟩:=World.cells?_some h2
    have:=hcell _ hj'
    simp only [Option.getD_some] at hu1
    have ea:((⟨b,o,none⟩:Addr).add (j / P.cellsOf el * P.cellsOf el)).add (j % P.cellsOf el) = ⟨b,o + j,none⟩:=by
     rw [ja,ja,Nat.add_assoc,ej]
    rw [hu1,ea] at this
    exact fR this (CP.one _ hu2)
end Go.Sk
namespace Go.Sk
set_option linter.unusedSimpArgs false
set_option linter.unusedVariables false
open Go
end Go.Sk
namespace Go.Sk
set_option linter.unusedSimpArgs false
set_option linter.unusedVariables false
open Go Go.ChangeShapes Go.WideShapes Go.ChangeAt Go.RowKit Go.Deep
structure qn {H:Type} (bk:DataW H → Nat):Prop where
 len:∀ els sp,els.length ≤ bk (.slice els sp)
 sl:∀ els sp d,d ∈ els → bk d ≤ bk (.slice els sp)
 agg:∀ ps d,d ∈ ps → bk d ≤ bk (.agg ps)
structure dV (P:Program) (t:TypeId) {α:Type} (e:α → List CP) (B:α → Nat → Prop):Prop where
 len:∀ a,(e a).length = P.cellsOf t
 mono:∀ a n m,B a n → n ≤ m → B a m
 op:∀ {H:Type} {enc:TypeId × Value → H} {W:World} {sp:Nat → Bool} {held:Bool} {fuel:Nat} {cs:List Value} {x:DataW H × List MemPlace},(∀ b,sp b = true) → DataW.trod enc P W 0 sp held fuel t cs = some x → ∃ a,av (full W) (e a) cs ∧ ∀ bk:DataW H → Nat,qn bk → B a (bk x.1)
theorem dP.toB {P:Program} {t:TypeId} {α:Type} {e:α → List CP} (h:dP P t e):dV P t e (fun _ _=>True) where
 len:=h.len
 mono _ _ _ _ _:=trivial
 op hsp hx:=by
  obtain ⟨a,ha⟩:=h.op hsp hx
  exact ⟨a,ha,fun _ _=>trivial⟩
theorem dV.sl {P:Program} {t el:TypeId} {α:Type} {e:α → List CP} {B:α → Nat → Prop} {size:Nat} (ht:P.underlying t = some (.slice el)) (hc:P.cellsOf t = 1) (hr:dV P el e B) (hs:P.cellsOf el = size) (hpos:0 < size):dV P t (eL size e) (fun l n=>l.length ≤ n ∧ ∀ a ∈ l,B a n) where
 len _:=by simp [hc,eL]
 mono l n m h hnm:=⟨by have:=h.1; omega,fun a ha=>hr.mono a n m (h.2 a ha) hnm⟩
 op {H enc W sp held fuel cs x} hsp hf:=by
  subst hs
  have hu:∀ l:List α,bD (P.cellsOf el) (l.map e):=fun l=>aS fun x=>hr.len x
  rcases open_slice ht hf with ⟨h1,hx0⟩ | ⟨a,len,cap,m,n,D,Pl,h1,hb,hl,hm,hmm,hx,hi⟩
  ·subst h1
   exact ⟨[],.cons ⟨hu [],hpos,.inl ⟨rfl,rfl⟩⟩ .nil,fun bk hbk=>⟨Nat.zero_le _,by simp⟩⟩
  ·subst h1
   rw [hsp,if_pos rfl] at hmm
   subst hmm
   by_cases hm0:m = 0
   ·subst hm0
    have:len = 0:=by omega
    subst this
    exact ⟨[],.cons ⟨hu [],hpos,.inr (.inr ⟨a,rfl,rfl⟩)⟩ .nil,fun bk hbk=>⟨Nat.zero_le _,by simp⟩⟩
   ·obtain ⟨l,hll,hp⟩:=gK (p:=fun i a'=>av (full W) (e a') ((W.cells? 0 (a.add (i * P.cellsOf el)) (P.cellsOf el)).getD []) ∧ ∀ bk:DataW H → Nat,qn bk → B a' (bk (D i))) len fun i hil=>by
     obtain ⟨cs',h2,h3⟩:=hi i (by omega)
     obtain ⟨a',ha',hB⟩:=hr.op hsp h3
     exact ⟨a',by rw [h2]; exact ha',hB⟩
    have hspot:a.spot = none:=by
     obtain ⟨cs',h2,_⟩:=hi 0 (by omega)
     obtain ⟨_,hcl,hcell⟩:=World.cells?_some h2
     have h3:=hcell 0 hpos
     rw [Nat.zero_mul] at h3
     have e0:(a.add 0).add 0 = a:=by simp [Addr.add]
     rw [e0] at h3
     have hlt:0 < cs'.length:=by omega
     rw [List.getElem?_eq_getElem hlt] at h3
     unfold World.cell? at h3
     split at h3
     ·split at h3
      ·cases h3
      ·next hns=>simpa using hns
     ·cases h3
    obtain ⟨b,o,s⟩:=a
    simp only at hspot
    subst hspot
    refine ⟨l,.cons ⟨hu l,hpos,.inr (.inl ⟨b,o,m,by simp [hll],by simp [hll]; omega,hm,?_⟩)⟩ .nil,fun bk hbk=>?_⟩
    ·intro j c hj
     have hjl:j < (l.map e).flatten.length:=(List.getElem?_eq_some_iff.1 hj).1
     rw [cx (hu l),List.length_map,hll] at hjl
     have hi':j / P.cellsOf el < len:=by
      rw [Nat.div_lt_iff_lt_mul hpos]; exact hjl
     have hj':j % P.cellsOf el < P.cellsOf el:=Nat.mod_lt _ hpos
     have hdm:=Nat.div_add_mod j (P.cellsOf el)
     obtain ⟨cs',h2,h3⟩:=hi (j / P.cellsOf el) (by omega)
     have hli:l[j / P.cellsOf el]? = some (l[j / P.cellsOf el]'(by omega)):=List.getElem?_eq_getElem (by omega)
     have hrel:=(hp _ _ hli).1
     rw [h2] at hrel
     have hget:=eC (hu l) (j / P.cellsOf el) (e (l[j / P.cellsOf el]'(by omega))) (by rw [List.getElem?_map,hli]; rfl) (j % P.cellsOf el) hj'
     have ej:j / P.cellsOf el * P.cellsOf el + j % P.cellsOf el = j:=by rw [Nat.mul_comm]; omega
     rw [ej,hj] at hget
     obtain ⟨u,hu1,hu2⟩:=aI.get hrel _ _ hget.symm
     refine ⟨u,?_,hu2⟩
     obtain ⟨_,hcl,hcell⟩:=World.cells?_some h2
     have:=hcell _ hj'
     simp only [Option.getD_some] at hu1
     have ea:((⟨b,o,none⟩:Addr).add (j / P.cellsOf el * P.cellsOf el)).add (j % P.cellsOf el) = ⟨b,o + j,none⟩:=by
      rw [ja,ja,Nat.add_assoc,ej]
     rw [hu1,ea] at this
     exact fR this (CP.one _ hu2)
    ·subst hx
     refine ⟨?_,fun a' ha'=>?_⟩
     ·show l.length ≤ bk (.slice ((List.range len).map D) ((List.range (m - len)).map fun j=>D (len + j)))
      have:=hbk.len ((List.range len).map D) ((List.range (m - len)).map fun j=>D (len + j))
      simp only [List.length_map,List.length_range] at this
      omega
     ·obtain ⟨i,hil,rfl⟩:=List.getElem_of_mem ha'
      have h6:=(hp i _ (List.getElem?_eq_getElem hil)).2 bk hbk
      exact hr.mono _ _ _ h6 (hbk.sl _ _ _ (List.mem_map.2 ⟨i,List.mem_range.2 (by omega),rfl⟩))
inductive jt (P:Program) (fs:Array Field) (T:Nat):Nat → Nat → {β:Type} → (β → List CP) → (β → Nat → Prop) → Prop where
 | nil {i:Nat} (hi:fs.size ≤ i):jt P fs T i T (fun _:Unit=>[]) (fun _ _=>True)
 | cons {i o:Nat} {α β:Type} {e:α → List CP} {B:α → Nat → Prop} {es:β → List CP} {Bs:β → Nat → Prop} {f:Field} (hf:fs[i]? = some f) (ho:f.offset = o) (hr:dV P f.type e B) (h:jt P fs T (i + 1) (o + P.cellsOf f.type) es Bs):jt P fs T i o (fun x:α × β=>e x.1 ++ es x.2) (fun x n=>B x.1 n ∧ Bs x.2 n)
theorem jt.op {P:Program} {fs:Array Field} {T i o:Nat} {β:Type} {es:β → List CP} {Bs:β → Nat → Prop} (h:jt P fs T i o es Bs) {H:Type} {enc:TypeId × Value → H} {W:World} {sp:Nat → Bool} {held:Bool} {n:Nat} {cs:List Value} {xs:List (DataW H × List MemPlace)} (hsp:∀ b,sp b = true) (hl:cs.length = T)
  (hx:xs.length = fs.size) (hv:∀ (j:Nat) (f:Field),fs[j]? = some f → DataW.trod enc P W 0 sp held n f.type ((cs.drop f.offset).take (P.cellsOf f.type)) = xs[j]?):∃ b,av (full W) (es b) (cs.drop o) ∧ ∀ bk:DataW H → Nat,qn bk → Bs b (bk (.agg (xs.map (·.1)))):=by
 induction h with
 | nil hi=>exact ⟨(),by rw [List.drop_of_length_le (by omega)]; exact .nil,fun _ _=>trivial⟩
 | @cons i o α β e B es Bs f hf ho hr h ih=>
  obtain ⟨b,hb,hB⟩:=ih
  have hi:i < xs.length:=by
   rw [hx]
   exact (Array.getElem?_eq_some_iff.1 hf).1
  have h1:=hv i f hf
  rw [List.getElem?_eq_getElem hi] at h1
  obtain ⟨a,ha,hA⟩:=hr.op hsp h1
  refine ⟨(a,b),?_,fun bk hbk=>⟨hr.mono _ _ _ (hA bk hbk) (hbk.agg _ _ (List.mem_map.2 ⟨xs[i],List.getElem_mem hi,rfl⟩)),hB bk hbk⟩⟩
  have e1:cs.drop o = (cs.drop o).take (P.cellsOf f.type) ++ cs.drop (o + P.cellsOf f.type):=by
   rw [← List.drop_drop,List.take_append_drop]
  rw [e1]
  subst ho
  exact aI.append ha hb
theorem dV.struct {P:Program} {t:TypeId} {fs:Array Field} {α β:Type} {e:α → List CP} {es:β → List CP} {B:α → Nat → Prop} {Bs:β → Nat → Prop} (g:β → α) (ht:P.underlying t = some (.struct fs)) (h:jt P fs (P.cellsOf t) 0 0 es Bs) (hl:∀ a,(e a).length = P.cellsOf t) (he:∀ b,e (g b) = es b) (hB:∀ b n,Bs b n → B (g b) n) (hm:∀ a n m,B a n → n ≤ m → B a m):dV P t e B where
 len:=hl
 mono:=hm
 op hsp hh:=by
  obtain ⟨xs,n,_,hx,hcl,hxl,hv⟩:=DataW.trod_struct ht hh
  obtain ⟨b,hb,hB'⟩:=h.op hsp hcl hxl hv
  refine ⟨g b,by rw [he]; exact hb,fun bk hbk=>?_⟩
  rw [hx]
  exact hB _ _ (hB' bk hbk)
theorem nY {P:Program} {H:Type} {enc:TypeId × Value → H} {W:World} {base:Nat} {sp:Nat → Bool} {held:Bool} {t el:TypeId} {α:Type} {e:α → List CP} {B:α → Nat → Prop} {v:Value} {d:DataW H} {ps:List MemPlace} (ht:P.underlying t = some (.slice el)) (hr:dV P el e B) {size:Nat} (hs:P.cellsOf el = size) (hpos:0 < size) (hct:P.cellsOf t = 1)
  (hval:Value.okWide P W .any base t v) (h:DataW.Trod enc P W 0 sp held t v d ps) (hsp:∀ b,sp b = true:=by intro _; rfl):∃ l:List α,(CP.sl size (l.map e)).rel (full W) v ∧ ∀ bk:DataW H → Nat,qn bk → (l.length ≤ bk d ∧ ∀ a ∈ l,B a (bk d)):=by
 obtain ⟨fuel,hf⟩:=h
 have hc:v.cells.toList = [v]:=by
  rcases ka ht hval with rfl | ⟨b,o,len,cap,rfl⟩ <;> rfl
 rw [hc] at hf
 obtain ⟨l,hl,hB⟩:=(dV.sl ht hct hr hs hpos).op hsp hf
 cases hl with
 | cons h1 h2=>exact ⟨l,h1,hB⟩
section
variable {P:Program} {TB:bc} {E:Env TB} {n:Sh} {s s':St}
inductive iT (P:Program) (s:St):ResultVar → BV → Prop
 | fX {rv:ResultVar} {z:BV} (h:iO P s rv z):iT P s rv z
 | xa {t k off m:Nat} {T T':TypeId} {cs zs:List BV} {qs:List CV} (ht:iC P T m) (h:s.get t = some (.b (.ptr k off))) (hk:lk s.own k = some (.ao T' cs)) (hp:(cs.drop off).take m = zs) (hq:zs.length = m) (hc:xcv zs = some qs):iT P s (.cell t T) (.xa qs)
 | x1 {t k off:Nat} {T T':TypeId} {cs:List BV} {z:BV} (ht:cH P T) (h:s.get t = some (.b (.ptr k off))) (hk:lk s.own k = some (.ao T' cs)) (hp:cs[off]? = some z):iT P s (.cell t T) z
theorem iT.run {rv:ResultVar} {z:BV} (hr:iT P s rv z) {a:Act} {w:World} {h:PH} {ρ:RM} (hw:WR E n s.own h ρ w) (hs:a7 h ρ s.slots a.tmps) :
  ∃ v,(∀ w₂,bX w w₂ → (dI a.tmps rv).run P w₂ = .ok v w₂) ∧ z.rel h ρ v:=by
 cases hr with
 | fX h=>exact h.run hw hs
 | @xa t' k off m T T' cs zs qs ht h' hk hp hq hc=>
  obtain ⟨v,hv,b,he,hv'⟩:=hs _ _ (aA (show lk s.slots _ = some _ from h'))
  obtain ⟨b',cur,hb1,hb2,hb3⟩:=di hw hk
  have:b' = b:=by rw [hb1] at he; simpa using he
  subst this
  have hcr:aI (CR h ρ) zs ((cur.toList.drop off).take m):=by rw [← hp]; exact aI.take (aI.drop hb3 off) m
  have hrun:=fun w₂ (hle:bX w w₂)=>fQ ht (w:=w₂) (b:=b') (o:=off) (cs:=(cur.toList.drop off).take m) (by rw [← hcr.length,hq]) (fun j v hv=>by
   refine hle _ _ _ ?_
   rw [cO hb2]
   rw [List.getElem?_take] at hv
   split at hv
   ·simpa using hv
   ·simp at hv)
  have hg:a.tmps.getD t' undef = .pointer (some ⟨b',off,none⟩):=by simp [Array.getD_eq_getD_getElem?,hv,hv']
  refine ⟨.agg ((cur.toList.drop off).take m).toArray,fun w₂ hle=>?_,_,rfl,nu hc (by rw [show (List.take m (List.drop off cur.toList)).toArray.toList = _ from rfl]; exact hcr)⟩
  simp only [dI,hg]
  simp [asAddr,hrun w₂ hle]
 | @x1 t' k off T T' cs z ht h' hk hp=>
  obtain ⟨v,hv,b,he,hv'⟩:=hs _ _ (aA (show lk s.slots _ = some _ from h'))
  obtain ⟨b',cur,hb1,hb2,hb3⟩:=di hw hk
  have:b' = b:=by rw [hb1] at he; simpa using he
  subst this
  obtain ⟨u,hu,hpu⟩:=hb3.get off z hp
  have hrun:=fun w₂ (hle:bX w w₂)=>cK ht (w:=w₂) (b:=b') (o:=off) (v:=u) (hle _ _ _ (by rw [cO hb2]; simpa using hu))
  have hg:a.tmps.getD t' undef = .pointer (some ⟨b',off,none⟩):=by simp [Array.getD_eq_getD_getElem?,hv,hv']
  refine ⟨u,fun w₂ hle=>?_,hpu.1⟩
  simp only [dI,hg]
  simp [asAddr,hrun w₂ hle]
theorem nH {fn:Func} {zs:List BV} (hr:aI (iT P s) fn.results.toList zs) {a:Act} {w:World} {h:PH} {ρ:RM} (hw:WR E n s.own h ρ w) (hs:a7 h ρ s.slots a.tmps) :
  ∃ v,(∀ w₂,bX w w₂ → (results fn a.tmps).run P w₂ = .ok v w₂) ∧ (lW zs).rel h ρ v:=by
 have key:∀ (rs:List ResultVar) (zs:List BV),aI (iT P s) rs zs → ∃ vs,(∀ w₂,bX w w₂ → (rs.mapM (dI a.tmps)).run P w₂ = .ok vs w₂) ∧ aI (fun (x:BV) u=>x.rel h ρ u) zs vs:=by
  intro rs zs hh
  induction hh with
  | nil=>exact ⟨[],fun _ _=>by simp,.nil⟩
  | cons h' _ ih=>
   obtain ⟨v,hv,hrel⟩:=h'.run hw hs
   obtain ⟨vs,hvs,hall⟩:=ih
   refine ⟨v :: vs,fun w₂ hle=>?_,.cons hrel hall⟩
   rw [List.mapM_cons,Sem.run_bind,hv w₂ hle,Result.andThen,Sem.run_bind,hvs w₂ hle]
   rfl
 obtain ⟨vs,hvs,hall⟩:=key _ _ hr
 have hm:∀ w₂,bX w w₂ → (fn.results.mapM (dI a.tmps)).run P w₂ = .ok vs.toArray w₂:=fun w₂ hle=>by
  rw [Array.mapM_eq_mapM_toList]
  simp [hvs w₂ hle]
 cases hall with
 | nil=>exact ⟨.tuple #[],fun w₂ hle=>by rw [fh,Sem.run_bind,hm w₂ hle,Result.andThen]; simp,_,rfl,.nil⟩
 | @cons z v zs' vs' h1 h2=>
  cases h2 with
  | nil=>exact ⟨v,fun w₂ hle=>by rw [fh,Sem.run_bind,hm w₂ hle,Result.andThen]; simp,h1⟩
  | @cons z2 v2 zs2 vs2 h3 h4=>
   exact ⟨.tuple (v :: v2 :: vs2).toArray,fun w₂ hle=>by rw [fh,Sem.run_bind,hm w₂ hle,Result.andThen]; simp,_,rfl,by simpa using .cons h1 (.cons h3 h4)⟩
theorem Fin.resultX {fn:Func} {post:eY} {e:Exit} {rs:List ResultVar} (ks:List Nat) (zs:List BV) (he:e = .ret ∨ e = .normal) (hrs:fn.results.toList = rs) (hr:aI (iT P s) rs zs) (hp:post (iM ks s.own) (lW zs)):Fin E n e s (Ret P fn E n post):=by
 intro a w ⟨h1,h2,h,ρ,hw,hs⟩
 obtain ⟨v,hv,hrel⟩:=nH (fn:=fn) (hrs ▸ hr) hw hs
 have:a.defers = n.dfs ∧ ∃ v,(∀ w₂,bX w w₂ → (results fn a.tmps).run P w₂ = .ok v w₂) ∧ kU E n post (.returned v) w:=⟨h1,v,hv,v,iM ks s.own,_,h,ρ,rfl,hp,hw.sub fun _ hp=>ff hp,hrel⟩
 rcases he with rfl | rfl <;> exact this
theorem br.oA {o:Oper} {s1:St} {T:TypeId} {q:List (List (List CP))} (k:Nat) (e:TypeId) (size:Nat) {es:List (List CP)} (h1:br P E n o s s1) (hk:lk s1.own k = some (.row T 1 es)) (hes:∀ ps ∈ es,ps = [.nil]) (hz:0 < size) (hq:(es.map fun _=>([]:List (List CP))) = q):br P E n o s ⟨s1.slots,ins k (.rr T e size .none q) s1.own⟩ :=
 fun a w hr next Q hn=>h1 a w hr next Q fun a' w' hr'=>hn a' w' (hq ▸ hr'.oA k e size hk hes hz)
theorem rr_mk {α:Type} {e:α → List CP} {a b:Int} {r:List (List α)} (h:mk? ([]:List α) a b = some r):((r.map fun _=>[CP.nil]).map fun _=>([]:List (List CP))) = r.map (eR e):=by
 obtain ⟨_,_,_,rfl⟩:=mk_ok h; simp [eR]
theorem ru {α:Type} (r:List α):∀ ps ∈ r.map (fun _=>[CP.nil]),ps = [CP.nil]:=by
 intro ps h; obtain ⟨_,_,rfl⟩:=List.mem_map.1 h; rfl
end
end Go.Sk
namespace Go.Sk
set_option linter.unusedSimpArgs false
set_option linter.unusedVariables false
open Go Go.ChangeShapes Go.WideShapes Go.ChangeAt Go.RowKit Go.Deep Go.BigFrame
section
variable {P:Program} {TB:bc} {E:Env TB} {n:Sh} {s s':St} {dst:Option Nat} {t ty yt:TypeId} {pos:String} {after:Array Edge} {g:Option (Nat × Bool)} {x y c:Operand} {ops:Array Oper} {l:List Oper} {Q:bU} {cd:Code}
theorem jA (w:World) (t ty e:TypeId) (i:TypeInfo) (ht:P.underlying t = some (.slice e)) (hi:P.info? e = some i)
  (g off sLen sCap:Nat) (cur:Array Value) (hg:w.heap[g]? = some (.cells cur e (0,0)))
  (a:Addr) (m c:Nat) (news:List Value) (hl:news.length = m * i.size) (hnews:∀ j u,news[j]? = some u → w.cell? (a.add j) = some u) (h1:∀ u ∈ news,u.oneCell' = true)
  (hroom:sLen + m ≤ sCap) (hfit:off + sLen * i.size + news.length ≤ cur.size) :
  (Builtin.append_ #[t,t] ty #[.slice (some ⟨g,off,none⟩) sLen sCap,.slice (some a) m c]).run P w =
   .ok (.slice (some ⟨g,off,none⟩) (sLen + m) sCap) (w.setRow g (cur.toList.take (off + sLen * i.size) ++ news ++ cur.toList.drop (off + sLen * i.size + news.length)).toArray):=by
 have hf:=run_firstCells_some (P:=P) w i.size m a m c news hl hnews
 have hst:=run_storeCells_at P g (off + sLen * i.size) e news 0 cur w hg (by simpa using hfit) h1
 simp only [Nat.add_zero] at hst
 simp [Builtin.append_,run_underlying ht,sizeOf,typeInfo,hi,Builtin.lenOf,hroom,hf,Addr.add_lit,hst]
theorem mE (w:World) (t ty e:TypeId) (i:TypeInfo) (z:Value) (size bytes:Nat) (ht:P.underlying t = some (.slice e)) (hi:P.info? e = some i) (hz:i.zero = some z)
  (hsize:i.size = size) (hby:i.bytes = bytes) (hzs:z.cells.size = size) (hsz:0 < size)
  (v:Value) (n:Nat) (xs:List Value) (hown:nh w e size v n xs)
  (a:Addr) (m c:Nat) (news:List Value) (hl:news.length = m * size) (hnews:∀ j u,news[j]? = some u → w.cell? (a.add j) = some u) (h1:∀ u ∈ news,u.oneCell' = true)
  (h63:n + m ≤ maxLen) (hbytes:(n + m) * bytes ≤ 140737488355328) :
  ∃ v' w',(Builtin.append_ #[t,t] ty #[v,.slice (some a) m c]).run P w = .ok v' w' ∧ nh w' e size v' (n + m) (xs ++ news) ∧ w.grownBy w' v.ownBlock ∧
   (∀ b,aw v' = some b → aw v = some b ∨ w.heap.size ≤ b):=by
 subst hsize
 subst hby
 have hsmall:n + m ≤ 9223372036854775807:=by simp only [maxLen] at h63; omega
 have hlen:(xs ++ news).length = (n + m) * i.size:=by rw [List.length_append,hown.1,hl,Nat.add_mul]
 have grown:∀ (fX:Nat),fX < n + m → ∀ (row:Option Nat),
   nh (w.drew.alloc (.cells (xs.toArray ++ news.toArray ++ Builtin.zeroCells z.cells (grownCap w (n + m) fX e - (n + m))) e)) e i.size
    (.slice (some ⟨w.heap.size,0,none⟩) (n + m) (grownCap w (n + m) fX e)) (n + m) (xs ++ news) ∧
   w.grownBy (w.drew.alloc (.cells (xs.toArray ++ news.toArray ++ Builtin.zeroCells z.cells (grownCap w (n + m) fX e - (n + m))) e)) row:=by
  intro fX ho row
  have hge:=grownCap_ge w (n + m) fX e
  have hcm:grownCap w (n + m) fX e ≤ maxLen:=grownCap_le_maxLen w (n + m) fX e h63
  refine ⟨⟨hlen,.inr ⟨w.heap.size,0,_,_,rfl,heap_alloc_new w.drew _,hge,hcm,?_,?_⟩⟩,⟨rfl,rfl,rfl,by simp,fun k hk _=>Below.heap_alloc w.drew _ k hk⟩⟩
  ·refine Nat.le_of_eq ?_
   simp only [Array.size_append,List.size_toArray,size_zeroCells,hzs,hown.1,hl,← Nat.add_mul]
   rw [Nat.zero_add]
   congr 1
   omega
  ·simp only [Array.toList_append,List.append_assoc,List.drop_zero]
   rw [← List.append_assoc,← hlen]
   exact List.take_left
 rcases hown.2 with ⟨rfl,rfl⟩ | ⟨g,off,cap,cur,rfl,hg,hnc,hcm,hcs,htake⟩
 ·have hx:xs = []:=List.eq_nil_of_length_eq_zero (by simpa using hown.1)
  subst hx
  by_cases hm:m = 0
  ·subst hm
   have hn:news = []:=List.eq_nil_of_length_eq_zero (by simpa using hl)
   subst hn
   refine ⟨.slice none 0 0,w,?_,⟨by simp,.inl ⟨rfl,rfl⟩⟩,⟨rfl,rfl,rfl,Nat.le_refl _,fun _ _ _=>rfl⟩,fun b hb=>.inl hb⟩
   simp [Builtin.append_,run_underlying ht,sizeOf,typeInfo,hi,Builtin.lenOf,Builtin.firstCells,loadCells,loadCellsFrom]
  ·have hr:=run_append_nil (P:=P) w t ty e i z ht hi hz a m c news hl hnews (by omega) (by omega) (by have hb:=hbytes; simp only [Nat.zero_add] at hb; omega)
   have hgr:=grown 0 (by omega) (Value.ownBlock (.slice none 0 0))
   simp only [Nat.zero_add,List.nil_append,Array.empty_append] at hgr ⊢
   exact ⟨_,_,hr,hgr.1,hgr.2,fun b hb=>by simp [aw] at hb; subst hb; exact .inr (Nat.le_refl _)⟩
 ·by_cases hroom:n + m ≤ cap
  ·have hfit:off + n * i.size + news.length ≤ cur.size:=by
    have:=Nat.mul_le_mul_right i.size hroom
    rw [hl]; rw [Nat.add_mul] at this; omega
   have hr:=jA (P:=P) w t ty e i ht hi g off n cap cur hg a m c news hl hnews h1 hroom hfit
   have hl1:(cur.toList.take (off + n * i.size)).length = off + n * i.size:=by rw [List.length_take,Array.length_toList]; omega
   refine ⟨_,_,hr,⟨hlen,.inr ⟨g,off,cap,_,rfl,setRow_heap w g cur _ e _ hg,hroom,hcm,?_,?_⟩⟩,⟨rfl,rfl,rfl,by simp,fun k _ hk=>setRow_other w g k _ (fun e=>hk (by simp [Value.ownBlock,e]))⟩,fun b hb=>.inl hb⟩
   ·simp only [List.size_toArray,List.length_append,List.length_drop,Array.length_toList,hl1]
    omega
   ·rw [← hlen]
    simp only [List.append_assoc]
    rw [List.drop_append_of_le_length (by omega),List.drop_take,show off + n * i.size - off = n * i.size by omega,htake,← List.append_assoc]
    exact List.take_left
  ·have holds:∀ j u,xs[j]? = some u → w.cell? ((⟨g,off,none⟩:Addr).add j) = some u:=fun j u hu=>by
    rw [Addr.add_lit,cO hg]
    rw [← htake,List.getElem?_take] at hu
    split at hu
    ·rw [List.getElem?_drop] at hu; simpa using hu
    ·simp at hu
   have hr:=run_append_grow (P:=P) w t ty e i z ht hi hz ⟨g,off,none⟩ n cap xs hown.1 holds a m c news hl hnews (by omega) (by omega) (growslice_fits (by omega) hbytes)
   have hgr:=grown cap (by omega) (Value.ownBlock (.slice (some ⟨g,off,none⟩) n cap))
   exact ⟨_,_,hr,hgr.1,hgr.2,fun b hb=>by simp [aw] at hb; subst hb; exact .inr (Nat.le_refl _)⟩
theorem m6 {size:Nat}:∀ {es:List (List CP)},bD size es → ∀ i:Nat,es.flatten.drop (i * size) = (es.drop i).flatten
 | [],_,i=>by simp
 | a :: es,hu,0=>by simp
 | a :: es,hu,i + 1=>by
  have ha:a.length = size:=hu a List.mem_cons_self
  rw [List.flatten_cons,Nat.add_mul,Nat.one_mul,List.drop_append,List.drop_eq_nil_of_le (by omega),List.nil_append,show i * size + size - a.length = i * size by omega]
  exact m6 (fun p hp=>hu p (List.mem_cons_of_mem _ hp)) i
theorem n8:∀ {es:List (List CP)},bD 1 es → ∀ {i:Nat} {p:CP},es[i]? = some [p] → es.flatten[i]? = some p
 | [],_,i,p,h=>by simp at h
 | a :: es,hu,0,p,h=>by simp at h; subst h; simp
 | a :: es,hu,i + 1,p,h=>by
  have ha:a.length = 1:=hu a List.mem_cons_self
  rw [List.flatten_cons,List.getElem?_append_right (by omega),show i + 1 - a.length = i by omega]
  exact n8 (fun p hp=>hu p (List.mem_cons_of_mem _ hp)) (by simpa using h)
theorem lj {h:PH} {ρ:RM} {own:List (Nat × OC)} {w:World} (hw:WR E n own h ρ w) {k:Nat} {T:TypeId} {size:Nat} {es:List (List CP)} (hk:lk own k = some (.fA T size es)) :
  bD size es ∧ 0 < size ∧ ((ρ k = .slice none 0 0 ∧ es = []) ∨ ∃ b off cap cur,ρ k = .slice (some ⟨b,off,none⟩) es.length cap ∧ w.heap[b]? = some (.cells cur T (0,0)) ∧ es.length ≤ cap ∧ cap ≤ maxLen ∧ off + cap * size ≤ cur.size ∧
   av h es.flatten ((cur.toList.drop off).take (es.length * size))):=by
 obtain ⟨hu,hz,xs,⟨hl,how⟩,hr⟩:=(hw.owned k _ (aA hk)).1
 refine ⟨hu,hz,?_⟩
 rcases how with ⟨h1,he⟩ | ⟨b,off,cap,cur,h1,h3,h4,h5,h6,h7⟩
 ·exact .inl ⟨h1,by cases es <;> simp_all⟩
 ·exact .inr ⟨b,off,cap,cur,h1,h3,h4,h5,h6,by rw [h7]; exact hr⟩
theorem R.jU {a:Act} {w:World} (hr:R E n s a w) (k:Nat) {T:TypeId} {size:Nat} {es:List (List CP)} (hk:lk s.own k = some (.row T size es)):R E n ⟨s.slots,ins k (.fA T size es) s.own⟩ a w:=by
 obtain ⟨hd,hn,h,ρ,hw,hs⟩:=hr
 refine ⟨hd,hn,h,ρ,hw.pW hk ?_,hs⟩
 obtain ⟨hu,hz,xs,⟨hl,how⟩,hr⟩:=(hw.owned k _ (aA hk)).1
 refine ⟨hu,hz,xs,⟨hl,?_⟩,hr⟩
 rcases how with h1 | ⟨b,cap,cur,h1,_,h3,h4,h5,h6,h7⟩
 ·exact .inl h1
 ·exact .inr ⟨b,0,cap,cur,h1,h3,h4,h5,by omega,by simpa using h7⟩
theorem ab.jU (k:Nat) {T:TypeId} {size:Nat} {es:List (List CP)} (hk:lk s.own k = some (.row T size es)) (h:ab P E n cd ⟨s.slots,ins k (.fA T size es) s.own⟩ Q):ab P E n cd s Q:=fun a w hr=>h a w (hr.jU k hk)
theorem ae.jU (k:Nat) {T:TypeId} {size:Nat} {es:List (List CP)} (hk:lk s.own k = some (.row T size es)) (h:ae P E n ops l ⟨s.slots,ins k (.fA T size es) s.own⟩ Q):ae P E n ops l s Q:=fun a w hr=>h a w (hr.jU k hk)
theorem Fin.jU {e:Exit} (k:Nat) {T:TypeId} {size:Nat} {es:List (List CP)} (hk:lk s.own k = some (.row T size es)) (h:Fin E n e ⟨s.slots,ins k (.fA T size es) s.own⟩ Q):Fin E n e s Q:=fun a w hr=>h a w (hr.jU k hk)
theorem rl {k size:Nat} {T e:TypeId} {es:List (List CP)} {m:Nat} (ht:P.underlying t = some (.slice e)) (hx:s.ev x = some (.b (.row k))) (hk:lk s.own k = some (.fA T size es)) (hm:es.length = m) :
  br P E n ⟨dst,.call ⟨.builtin .len,#[x],#[t]⟩,ty,pos,after,g⟩ s (s.put n dst (I (m:Int))):=hm ▸
 br.val (o:=⟨dst,.call ⟨.builtin .len,#[x],#[t]⟩,ty,pos,after,g⟩) fun ac w h ρ hw hs=>by
  have hv:ac.eval x = ρ k:=(aE hs hx:BV.rel h ρ (.row k) _)
  obtain ⟨_,_,hf⟩:=lj hw hk
  rw [execOp_builtin,builtin_len]
  rcases hf with ⟨h1,rfl⟩ | ⟨b,off,cap,cur,h1,_,h2,h3,_⟩
  ·exact ⟨.int .i64 0,by simp [hv,h1,Builtin.len_,run_underlying ht,goInt],rfl,gz (by simp)⟩
  ·exact ⟨.int .i64 es.length,by simp [hv,h1,Builtin.len_,run_underlying ht,goInt],rfl,gz (by omega)⟩
theorem oW {α:Type} {xs z:List α} {enc:α → List CP} {k size bytes:Nat} {e T:TypeId} {zs:List CP} {yo:Operand} {kk:IntKind} {i:Int} (ht:ec P t e size bytes zs) (hi:nR xs i = some z) (hx:s.ev x = some (.b (.row k))) (hk:lk s.own k = some (.fA T size (xs.map enc))) (hy:s.ev yo = some (.b (.one (.int kk i)))) (hfx:n.fix.contains k = false) (hnu:bL k s.own = true:=by rfl) :
  br P E n ⟨dst,.slice t x (some yo) none none,ty,pos,after,g⟩ s ((⟨bg k s.slots,ins k (.fA T size (z.map enc)) s.own⟩:St).put n dst (.b (.row k))) :=
 br.make (hfx:=hfx) (hnu:=hnu) (o:=⟨dst,.slice t x (some yo) none none,ty,pos,after,g⟩) fun ac w h ρ hw hs=>by
  have hv:ac.eval x = ρ k:=(aE hs hx:BV.rel h ρ (.row k) _)
  obtain ⟨hu,hz,hf⟩:=lj hw hk
  obtain ⟨inf,z0,hinf,hsz,_⟩:=ht.info
  have hel:P.elem t = e:=by simp [Program.elem,ht.und]
  have hund:P.underlying t = some (.slice (P.elem t)):=by rw [hel]; exact ht.und
  unfold nR at hi
  split at hi
  ·rename_i hc
   cases hi
   obtain ⟨h0,h1⟩:=hc
   have hml:(xs.map enc).length = xs.length:=List.length_map _
   have hu':bD size ((xs.drop i.toNat).map enc):=fun ps hp=>hu ps (by rw [List.map_drop] at hp; exact List.mem_of_mem_drop hp)
   have hrun:∀ (ad:Option Addr) (cap:Nat),ρ k = .slice ad xs.length cap → (execOp ac.eval ⟨dst,.slice t x (some yo) none none,ty,pos,after,g⟩).run P w = .ok (.value (sliced ad i.toNat xs.length cap size)) w:=fun ad cap hρ=>by
    have hb:=run_slice_l (P:=P) (w:=w) (t:=t) (a:=ad) (len:=xs.length) (cap:=cap) hund kk i h0 (by omega)
    simp only [execOp,hv,hρ,Option.map_some,Option.map_none,(cb hs hy).1]
    rw [Sem.run_bind,run_sliceAt_slice w t _ _ _ _ hund,hb,run_sizeOf (i:=inf) (by rw [hel]; exact hinf),hsz]
    rfl
   rcases hf with ⟨hρ,he⟩ | ⟨b,off,cap,cur,hρ,hh,hc1,hc2,hc3,hc4⟩
   ·have hx0:xs = []:=by simpa using he
    subst hx0
    have hi0:i.toNat = 0:=by simp at h1; omega
    have hs0:sliced none i.toNat 0 0 size = .slice none 0 0:=by simp [sliced,hi0]
    refine ⟨.slice none 0 0,.slice none 0 0,w,none,?_,fun b e=>(by cases e),Nat.le_refl _,rfl,rfl,fun _ _ _=>rfl,⟨hu',hz,[],⟨by simp,.inl ⟨rfl,by simp⟩⟩,by simp; exact .nil⟩,fun b hb=>by simp [aw] at hb,(aN _ _ _).symm⟩
    have:=hrun none 0 (by simpa using hρ)
    rw [show ([]:List α).length = 0 from rfl,hs0] at this
    exact this
   ·rw [hml] at hρ hc1 hc4
    have hr:=hrun _ _ hρ
    have hcells:av h ((xs.drop i.toNat).map enc).flatten ((((cur.toList.drop off).take (xs.length * size)).drop (i.toNat * size))):=by
     have:=aI.drop hc4 (i.toNat * size)
     rw [m6 hu] at this
     rw [← List.map_drop] at this
     exact this
    have hdl:((xs.drop i.toNat).map enc).length = xs.length - i.toNat:=by simp
    by_cases hlast:cap = i.toNat
    ·have hxi:xs.length = i.toNat:=by omega
     have hs0:sliced (some ⟨b,off,none⟩) i.toNat xs.length cap size = .slice (some ⟨b,off,none⟩) (xs.length - i.toNat) (cap - i.toNat):=by unfold sliced; rw [if_pos hlast]
     refine ⟨_,_,w,aw (ρ k),hr,fun b hb=>⟨_,aA hk,hb⟩,Nat.le_refl _,rfl,rfl,fun _ _ _=>rfl,⟨hu',hz,[],⟨by rw [hdl,hxi]; simp,.inr ⟨b,off,cap - i.toNat,cur,?_,hh,by rw [hdl]; omega,by omega,by rw [show cap - i.toNat = 0 by omega,Nat.zero_mul]; omega,by rw [hdl,hxi]; simp⟩⟩,?_⟩,fun b' hb=>?_,(aN _ _ _).symm⟩
     ·rw [hs0,hdl]
     ·rw [List.drop_eq_nil_of_le (by omega)]; exact .nil
     ·rw [hs0] at hb; left; rw [hρ]; exact hb
    ·have hs0:sliced (some ⟨b,off,none⟩) i.toNat xs.length cap size = .slice (some ⟨b,off + i.toNat * size,none⟩) (xs.length - i.toNat) (cap - i.toNat):=by unfold sliced; rw [if_neg hlast,Option.map_some,Addr.add_lit]
     refine ⟨_,_,w,aw (ρ k),hr,fun b hb=>⟨_,aA hk,hb⟩,Nat.le_refl _,rfl,rfl,fun _ _ _=>rfl,⟨hu',hz,_,⟨?_,.inr ⟨b,off + i.toNat * size,cap - i.toNat,cur,?_,hh,by rw [hdl]; omega,by omega,?_,rfl⟩⟩,?_⟩,fun b' hb=>?_,(aN _ _ _).symm⟩
     ·have:=hcells.length
      rw [cx hu',hdl] at this
      have hcl:cur.toList.length = cur.size:=rfl
      rw [hdl,List.length_take,List.length_drop]
      refine Nat.min_eq_left ?_
      have h2:(xs.length - i.toNat) * size ≤ (cap - i.toNat) * size:=Nat.mul_le_mul_right _ (by omega)
      have h3:(cap - i.toNat) * size = cap * size - i.toNat * size:=Nat.sub_mul _ _ _
      have h4:i.toNat * size ≤ cap * size:=Nat.mul_le_mul_right _ (by omega)
      omega
     ·rw [hs0,hdl]
     ·have h3:(cap - i.toNat) * size = cap * size - i.toNat * size:=Nat.sub_mul _ _ _
      have h4:i.toNat * size ≤ cap * size:=Nat.mul_le_mul_right _ (by omega)
      omega
     ·rw [hdl]
      rw [List.drop_take,List.drop_drop,← Nat.sub_mul] at hcells
      exact hcells
     ·rw [hs0] at hb; left; rw [hρ]; exact hb
  ·cases hi
theorem ae.idxO {α:Type} [Inhabited α] {xs:List α} {zz:α} {enc:α → List CP} {p:CP} {d1 d2:Nat} {k size bytes:Nat} {e T t2 ty1 ty2:TypeId} {pos1 pos2:String} {af1 af2:Array Edge} {zs:List CP} {kk:IntKind} {i:Int}
  (ht:ec P t e size bytes zs) (h2:cH P t2) (hz:aV xs i = some zz) (hp:enc zz = [p]) (hx:s.ev x = some (.b (.row k))) (hk:lk s.own k = some (.fA T size (xs.map enc))) (hy:s.ev y = some (.b (.one (.int kk i)))) (hd:d1 < n.n)
  (h:ae P E n ops l ((s.put n (some d1) (.b (.one .any))).put n (some d2) (.b (.one p))) Q) :
  ae P E n ops (⟨some d1,.indexAddr t x y,ty1,pos1,af1,none⟩ :: ⟨some d2,.load t2 (.tmp d1),ty2,pos2,af2,none⟩ :: l) s Q:=by
 intro a w hr
 obtain ⟨hdf,hn,hh,ρ,hw,hs⟩:=id hr
 have hv:a.eval x = ρ k:=(aE hs hx:BV.rel hh ρ (.row k) _)
 obtain ⟨hu,hsz,hf⟩:=lj hw hk
 have h0:=aG hz
 have hget:=oJ hz
 have h1:i.toNat < xs.length:=(List.getElem?_eq_some_iff.1 hget).1
 rcases hf with ⟨_,he⟩ | ⟨b,off,cap,cur,hρ,hb,hc1,hc2,hc3,hc4⟩
 ·have hx0:xs = []:=by simpa using he
  subst hx0; simp at hget
 have hs1:size = 1:=by
  have:=hu (enc zz) (List.mem_map.2 ⟨zz,List.mem_of_getElem? hget,rfl⟩)
  rw [hp] at this; simpa using this.symm
 subst hs1
 unfold qj
 have hwant:Region.wanted (⟨some d1,.indexAddr t x y,ty1,pos1,af1,none⟩:Oper) (yielded ops a.tmps) = true:=by simp [Region.wanted]
 simp only [hwant,if_true]
 unfold Oper.wp
 have hrun1:(execOp a.eval ⟨some d1,.indexAddr t x y,ty1,pos1,af1,none⟩).run P w = .ok (.value (.pointer (some ⟨b,off + i.toNat * 1,none⟩))) w:=by
  simp only [execOp,hv,hρ,(cb hs hy).1]
  have hix:=eP ht w b off (xs.map enc).length cap kk i h0 (by rw [List.length_map]; omega)
  simp only [List.length_map] at hix ⊢
  simp [hix]
 rw [hrun1,Oper.upon_value]
 have hcell:∃ u,w.cell? ⟨b,off + i.toNat * 1,none⟩ = some u ∧ p.rel hh u:=by
  have hil:i.toNat < xs.length:=by omega
  have hfl:(xs.map enc).flatten[i.toNat]? = some p:=by
   have:=n8 hu (i:=i.toNat) (p:=p) (by rw [List.getElem?_map,hget,Option.map_some,hp])
   exact this
  obtain ⟨u,hu1,hu2⟩:=hc4.get _ _ hfl
  refine ⟨u,?_,hu2⟩
  rw [cO hb]
  rw [List.getElem?_take] at hu1
  split at hu1
  ·rw [List.getElem?_drop] at hu1; simpa using hu1
  ·simp at hu1
 obtain ⟨u,hcell,hpu⟩:=hcell
 have hw2:Region.wanted (⟨some d2,.load t2 (.tmp d1),ty2,pos2,af2,none⟩:Oper) (yielded ops (a.put (some d1) (.pointer (some ⟨b,off + i.toNat * 1,none⟩))).tmps) = true:=by simp [Region.wanted]
 unfold qj
 simp only [hw2,if_true]
 unfold Oper.wp
 have hev:(a.put (some d1) (.pointer (some ⟨b,off + i.toNat * 1,none⟩))).eval (.tmp d1) = .pointer (some ⟨b,off + i.toNat * 1,none⟩):=by
  simp [Act.put,Act.eval,Array.getD_eq_getD_getElem?,Array.getElem?_setIfInBounds,hn,hd]
 have hld:=cK h2 (w:=w) hcell
 have hrun2:(execOp (a.put (some d1) (.pointer (some ⟨b,off + i.toNat * 1,none⟩))).eval ⟨some d2,.load t2 (.tmp d1),ty2,pos2,af2,none⟩).run P w = .ok (.value u) w:=by
  simp only [execOp,hev,Instr.loadAt,Instr.sureAddr]
  simp only [Nat.mul_one] at hld ⊢
  simp [hld]
 rw [hrun2,Oper.upon_value]
 refine h _ _ ?_
 have hs1:a7 hh ρ ((d1,.b (.one .any)) :: del d1 s.slots) (a.put (some d1) (.pointer (some ⟨b,off + i.toNat * 1,none⟩))).tmps:=hs.set hn hd (x:=.b (.one .any)) rfl
 have he:s.put n (some d1) (.b (.one .any)) = ⟨(d1,.b (.one .any)) :: del d1 s.slots,s.own⟩:=by simp [St.put,St.set,hd]
 rw [he]
 exact R.put (s:=⟨(d1,.b (.one .any)) :: del d1 s.slots,s.own⟩) hdf (by simp [Act.put,hn]) hw hs1 hpu
theorem iE (w:World) {t ty e:TypeId} {i:TypeInfo} (ht:P.underlying t = some (.slice e)) (hi:P.info? e = some i) (base:Option Addr) (sLen sCap:Nat) (hle:sLen ≤ sCap) :
  (Builtin.append_ #[t,t] ty #[.slice base sLen sCap,.slice none 0 0]).run P w = .ok (.slice base sLen sCap) w:=by
 have hs:=_root_.Go.Src.ofNil (P:=P) w (size:=i.size) ht 0
 cases base <;> simp [Builtin.append_,run_underlying ht,sizeOf,typeInfo,hi,hs.len,hle,hs.cells,storeCells]
theorem nL {h:PH} {ρ:RM} {w:World} {v0:Value} {size bytes:Nat} {T e:TypeId} {zs:List CP} {es news:List (List CP)} {v:Value} (ht:ec P t e size bytes zs)
  (hok:(OC.fA T size es).ok h ρ v0 w) (hT:T = e) (hsrc:Go.Sk.Src w v h size news) (hb:(es.length + news.length) * bytes ≤ 140737488355328) (hm:es.length + news.length ≤ maxLen) :
  ∃ v' w',(Builtin.append_ #[t,t] ty #[v0,v]).run P w = .ok v' w' ∧ w.heap.size ≤ w'.heap.size ∧ w'.os = w.os ∧ w'.output = w.output ∧ (∀ b,b < w.heap.size → some b ≠ aw v0 → w'.heap[b]? = w.heap[b]?) ∧
   (OC.fA e size (es ++ news)).ok h ρ v' w' ∧ (∀ b,aw v' = some b → aw v0 = some b ∨ w.heap.size ≤ b):=by
 subst hT
 obtain ⟨i,z,h1,h2,h3,h4,h5,h6,h7⟩:=ht.info
 obtain ⟨hu,hz,xs,how,hr⟩:=id hok
 rcases hsrc.form with ⟨rfl,rfl⟩ | ⟨ad,c,cs,rfl,hl,hc1,hc2⟩
 ·refine ⟨v0,w,?_,Nat.le_refl _,rfl,rfl,fun _ _ _=>rfl,by simpa using hok,fun b hb=>.inl hb⟩
  rcases how.2 with ⟨rfl,hn0⟩ | ⟨g,off,cap,cur,rfl,hh,hn1,hn2,hn3,hn4⟩
  ·exact iE w ht.und h1 none 0 0 (Nat.le_refl _)
  ·exact iE w ht.und h1 (some ⟨g,off,none⟩) _ cap hn1
 ·have hlen:cs.length = news.length * size:=by rw [← hc1.length,cx hsrc.uni]
  obtain ⟨v',w',hrun,how',hg,hblk⟩:=mE (P:=P) (ty:=ty) w t T i z size bytes ht.und h1 h4 h2 h3 h5 h6 v0 es.length xs how ad news.length c cs hlen hc2 hc1.one hm hb
  have hob:v0.ownBlock = aw v0:=by
   rcases how.2 with ⟨rfl,_⟩ | ⟨g,off,cap,cur,rfl,_⟩ <;> rfl
  refine ⟨v',w',hrun,hg.size,hg.os,hg.output,fun b hb hne=>hg.block b hb (by rw [hob]; exact hne),⟨?_,h6,xs ++ cs,by simpa using how',?_⟩,hblk⟩
  ·intro ps hps
   rcases List.mem_append.1 hps with h | h
   ·exact hu ps h
   ·exact hsrc.uni ps h
  ·rw [List.flatten_append]; exact aI.append hr hc1
theorem mG {k j size bytes:Nat} {e:TypeId} {zs:List CP} {es news es':List (List CP)} (ht:ec P t e size bytes zs) (hb:(es.length + news.length) * bytes ≤ 140737488355328) (hm:es.length + news.length ≤ 9223372036854775807)
  (hx:s.ev x = some (.b (.row k))) (hk:lk s.own k = some (.fA e size es)) (hy:s.ev y = some (.b (.row j))) (hj:lk s.own j = some (.row e size news)) (he:es ++ news = es') (hfx:n.fix.contains k = false) (hnu:bL k s.own = true:=by rfl) :
  br P E n ⟨dst,.call ⟨.builtin .append,#[x,y],#[t,t]⟩,ty,pos,after,g⟩ s ((⟨bg k s.slots,ins k (.fA e size es') s.own⟩:St).put n dst (.b (.row k))) :=
 br.make (hfx:=hfx) (hnu:=hnu) (o:=⟨dst,.call ⟨.builtin .append,#[x,y],#[t,t]⟩,ty,pos,after,g⟩) fun ac w h ρ hw hs=>by
  have hv:ac.eval x = ρ k:=(aE hs hx:BV.rel h ρ (.row k) _)
  have hu:ac.eval y = ρ j:=(aE hs hy:BV.rel h ρ (.row j) _)
  obtain ⟨v',w',hrun,h1,h2,h3,h4,h5,h6⟩:=nL (ty:=ty) ht (hw.owned k _ (aA hk)).1 rfl (Src.nj hw hj) hb (by rw [cB]; exact hm)
  subst he
  refine ⟨v',v',w',aw (ρ k),?_,fun b hb=>⟨_,aA hk,hb⟩,h1,h2,h3,h4,h5,h6,(aN _ _ _).symm⟩
  rw [execOp_builtin,builtin_append]
  simp [hv,hu,hrun]
end
section
variable {P:Program} {TB:bc} {E:Env TB} {n:Sh} {s s':St} {dst:Option Nat} {t ty yt:TypeId} {pos:String} {after:Array Edge} {g:Option (Nat × Bool)} {x y c:Operand} {ops:Array Oper} {l:List Oper} {Q:bU} {cd:Code}
variable {own:List (Nat × OC)} {h:PH} {ρ:RM} {w:World} {k kp i size bytes:Nat} {T e:TypeId} {ess:List (List (List CP))} {us:List Value} {v:Value}
theorem fN.qV (z:fN h v w T e size .none ess us):fN h v w T e size (.below 0) ess us :=
 ⟨z.pos,z.out,z.one,fun j u es h1 h2 _=>z.rows j u es h1 h2 (by simp),fun a b u1 u2 bb h1 h2 _ _=>z.sep a b u1 u2 bb h1 h2 (by simp) (by simp),fun j u b h1 _=>z.self j u b h1 (by simp)⟩
theorem R.toBelow {a:Act} (hr:R E n s a w) (k:Nat) (hk:lk s.own k = some (.rr T e size .none ess)):R E n ⟨s.slots,ins k (.rr T e size (.below (0:Int).toNat) ess) s.own⟩ a w:=by
 obtain ⟨h1,h2,h,ρ,hw,hs⟩:=hr
 refine ⟨h1,h2,h,ρ,?_,hs⟩
 obtain ⟨us,z⟩:=(hw.owned k _ (aA hk)).1
 have:=hw.lE (w':=w) k (ρ k) (.rr T e size (.below 0) ess) none (fun b e=>by simp at e) (Nat.le_refl _) rfl rfl (fun _ _ _=>rfl) ⟨us,z.qV⟩ (fun b hb=>by
  rcases z.qV.bd.1 hb with h1 | ⟨i,u,h1,_,h3⟩
  ·exact .inl ⟨_,aA hk,.inl h1⟩
  ·exact .inl ⟨_,aA hk,z.bd.2 (.inr ⟨i,u,h1,by simp,h3⟩)⟩) (.inl rfl) (.inl rfl)
 rwa [dt] at this
theorem ab.toBelow (k:Nat) (hk:lk s.own k = some (.rr T e size .none ess)) (h:ab P E n cd ⟨s.slots,ins k (.rr T e size (.below (0:Int).toNat) ess) s.own⟩ Q):ab P E n cd s Q:=fun a w hr=>h a w (hr.toBelow k hk)
theorem ae.toBelow (k:Nat) (hk:lk s.own k = some (.rr T e size .none ess)) (h:ae P E n ops l ⟨s.slots,ins k (.rr T e size (.below (0:Int).toNat) ess) s.own⟩ Q):ae P E n ops l s Q:=fun a w hr=>h a w (hr.toBelow k hk)
theorem Fin.toBelow {ex:Exit} (k:Nat) (hk:lk s.own k = some (.rr T e size .none ess)) (h:Fin E n ex ⟨s.slots,ins k (.rr T e size (.below (0:Int).toNat) ess) s.own⟩ Q):Fin E n ex s Q:=fun a w hr=>h a w (hr.toBelow k hk)
theorem qZ (hw:WR E n own h ρ w) {es:List (List CP)} {u:Value} (hk:lk own k = some (.rr T e size (.below i) ess)) (x:fN h (ρ k) w T e size (.below i) ess us) (hu:us[i]? = some u) (hi:ess[i]? = some es) (hne:kp ≠ k) (hfx:kp ∉ n.fix) (hnu:bL kp own = true) :
  WR E n (ins kp (.row e size es) (ins k (.rr T e size (.below (i + 1)) ess) own)) h (fW ρ kp u) w:=by
 have hkm:=aA hk
 obtain ⟨e1,e2,e3⟩:=hw.owned k _ hkm
 have hro:=x.rows i u es hu hi (by simp)
 have hb:∀ {j:Nat},¬ (mD.below (i + 1)).has j → ¬ (mD.below i).has j:=fun {j} h=>by simp at h ⊢; omega
 have x':fN h (ρ k) w T e size (.below (i + 1)) ess us:=⟨x.pos,x.out,x.one,fun j u' es' h1 h2 h3=>x.rows j u' es' h1 h2 (hb h3),fun a b u1 u2 bb h1 h2 h3 h4=>x.sep a b u1 u2 bb h1 h2 (hb h3) (hb h4),fun j u' b h1 h2=>x.self j u' b h1 (hb h2)⟩
 have fu:∀ b,aw u = some b → (OC.rr T e size (.below i) ess).bd (ρ k) w b:=fun b hb=>x.bd.2 (.inr ⟨i,u,hu,by simp,hb⟩)
 have fk:∀ b,(OC.rr T e size (.below (i + 1)) ess).bd (ρ k) w b → (OC.rr T e size (.below i) ess).bd (ρ k) w b:=fun b hbb=>by
  rcases x'.bd.1 hbb with h1 | ⟨j,u',h1,h2,h3⟩
  ·exact .inl h1
  ·exact x.bd.2 (.inr ⟨j,u',h1,hb h2,h3⟩)
 have sep:∀ b,aw u = some b → ¬ (OC.rr T e size (.below (i + 1)) ess).bd (ρ k) w b:=fun b hbb hf=>by
  rcases x'.bd.1 hf with h1 | ⟨j,u',h1,h2,h3⟩
  ·exact x.self i u b hu (by simp) hbb h1
  ·exact x.sep j i u' u b h1 hu (hb h2) (by simp) (fun e=>h2 (by rw [e]; simp)) h3 hbb
 have fX:∀ j z,(j,z) ∈ ins kp (OC.row e size es) (ins k (OC.rr T e size (.below (i + 1)) ess) own) → (j = kp ∧ z = .row e size es) ∨ (j = k ∧ z = .rr T e size (.below (i + 1)) ess) ∨ (j ≠ kp ∧ j ≠ k ∧ (j,z) ∈ own):=fun j z hj=>by
  rcases c3 hj with ⟨rfl,rfl⟩ | ⟨h1,hj⟩
  ·exact .inl ⟨rfl,rfl⟩
  ·rcases c3 hj with ⟨rfl,rfl⟩ | ⟨h2,hj⟩
   ·exact .inr (.inl ⟨rfl,rfl⟩)
   ·exact .inr (.inr ⟨h1,h2,hj⟩)
 have hρk:fW ρ kp u k = ρ k:=aJ _ _ fun e=>hne e.symm
 refine ⟨hw.agree,hw.le,hw.fresh,hw.size,hw.same,fun j hj=>?_,hw.os,hw.out,hw.nl,fun j z hj=>?_⟩
 ·rw [aJ _ _ fun e=>hfx (by rw [← e]; exact hj)]; exact hw.fixed j hj
 ·rcases fX j z hj with ⟨rfl,rfl⟩ | ⟨rfl,rfl⟩ | ⟨j1,j2,j3⟩
  ·rw [aN]
   obtain ⟨xs,hx1,hx2⟩:=hro.row
   refine ⟨⟨hro.uni,x.pos,xs,hx1,hx2⟩,fun b hb=>e2 b (fu b (hb.dD rfl)),fun j' z' hj' hne' b hb hb'=>?_⟩
   have hb:=hb.dD rfl
   rcases fX j' z' hj' with ⟨rfl,rfl⟩ | ⟨rfl,rfl⟩ | ⟨i1,i2,i3⟩
   ·exact hne' rfl
   ·rw [hρk] at hb'; exact sep b hb hb'
   ·rw [aJ _ _ i1] at hb'; exact e3 j' z' i3 i2 b (fu b hb) hb'
  ·rw [hρk]
   refine ⟨⟨us,x'⟩,fun b hb=>e2 b (fk b hb),fun j' z' hj' hne' b hb hb'=>?_⟩
   rcases fX j' z' hj' with ⟨rfl,rfl⟩ | ⟨rfl,rfl⟩ | ⟨i1,i2,i3⟩
   ·rw [aN] at hb'; exact sep b (hb'.dD rfl) hb
   ·exact hne' rfl
   ·rw [aJ _ _ i1] at hb'; exact e3 j' z' i3 i2 b (fk b hb) hb'
  ·rw [aJ _ _ j1]
   obtain ⟨g1,g2,g3⟩:=hw.owned j z j3
   refine ⟨g1.nN fun q hq=>aJ _ _ fun e=>?_,g2,fun j' z' hj' hne' b hb hb'=>?_⟩
   ·subst e; rw [er hnu j3] at hq; simp at hq
   rcases fX j' z' hj' with ⟨rfl,rfl⟩ | ⟨rfl,rfl⟩ | ⟨i1,i2,i3⟩
   ·rw [aN] at hb'; exact g3 k _ hkm (fun e=>j2 e.symm) b hb (fu b (hb'.dD rfl))
   ·rw [hρk] at hb'; exact g3 _ _ hkm (fun e=>j2 e.symm) b hb (fk b hb')
   ·rw [aJ _ _ i1] at hb'; exact g3 j' z' i3 hne' b hb hb'
theorem oY {o:Nat} {ii:Int} {es:List (List CP)} (kp:Nat) (ht:cH P t) (hx:s.ev x = some (.b (.bu k o))) (hk:lk s.own k = some (.rr T e size (.below ii.toNat) ess)) (ho:o = ii.toNat) (h0:0 ≤ ii) (hi:ess[ii.toNat]? = some es)
  (hne:kp ≠ k) (hfx:n.fix.contains kp = false) (hnu:bL kp s.own = true) :
  br P E n ⟨dst,.load t x,ty,pos,after,g⟩ s ((⟨bg kp s.slots,ins kp (.row e size es) (ins k (.rr T e size (.below (IntKind.i64.wrap (ii + 1)).toNat) ess) s.own)⟩:St).put n dst (.b (.row kp))):=by
 intro a w ⟨hdf,hn,h,ρ,hw,hs⟩ next Q hnext
 subst ho
 obtain ⟨b,mm,q,he,hv⟩:=(aE hs hx:BV.rel h ρ (.bu k _) _)
 obtain ⟨us,z⟩:=(hw.owned k _ (aA hk)).1
 have hlt:ii.toNat < us.length:=by rw [z.len]; exact (List.getElem?_eq_some_iff.1 hi).1
 have hlen:=z.len
 obtain ⟨u,hu⟩:∃ u,us[ii.toNat]? = some u:=⟨_,List.getElem?_eq_getElem hlt⟩
 rcases z.out.2 with ⟨h1,_⟩ | ⟨b',cap,cur,h1,_,h2,h3,h4,h5,h6⟩
 ·rw [h1] at he; cases he
 rw [h1] at he
 cases he
 have hcell:w.cell? ⟨b,ii.toNat,none⟩ = some u:=by
  rw [cO h2]
  rw [← h6,List.getElem?_take,if_pos (by omega)] at hu
  simpa using hu
 have hrun:=cK ht (w:=w) hcell
 have hrun':(execOp a.eval ⟨dst,.load t x,ty,pos,after,g⟩).run P w = .ok (.value u) w:=by
  simp only [execOp,hv,Instr.loadAt,Instr.sureAddr]
  simp [hrun]
 unfold Oper.wp
 rw [hrun']
 have hnx:(IntKind.i64.wrap (ii + 1)).toNat = ii.toNat + 1:=by
  rw [cB] at h4
  rw [wrap64 (by omega) (by omega)]; omega
 rw [hnx] at hnext
 refine hnext _ _ (R.put (s:=⟨bg kp s.slots,ins kp (.row e size es) (ins k (.rr T e size (.below (ii.toNat + 1)) ess) s.own)⟩) hdf hn (qZ hw hk z hu hi hne (fun e=>by simp at hfx; exact hfx e) hnu) (hs.bg kp u) ?_)
 exact (aN _ _ _).symm
end
end Go.Sk
namespace Go.Sk
set_option linter.unusedSimpArgs false
set_option linter.unusedVariables false
open Go Go.ChangeShapes Go.WideShapes Go.ChangeAt Go.RowKit Go.Deep Go.BigFrame
section
variable {P:Program} {TB:bc} {E:Env TB} {n:Sh} {s s':St} {dst:Option Nat} {t ty yt:TypeId} {pos:String} {after:Array Edge} {g:Option (Nat × Bool)} {x y c:Operand} {ops:Array Oper} {l:List Oper} {Q:bU} {cd:Code}
theorem jh {e len size bytes:Nat} {zs:List CP} {es:List (List CP)} {parts:Array (Nat × Operand)} {cps:List (Nat × List CP)} (ht:ec P t e size bytes zs) (hp:fO s parts.toList = some cps)
  (hf:kr (fun i=>some (i * size,size)) ((List.range (len * size)).map fun i=>zs.getD (i % size) .any) cps = some es.flatten) (hu:bD size es) (hl:es.length = len) (h0:0 < len * size) (h24:len * size ≤ 16777216) :
  br P E n ⟨dst,.buildSlice t len parts,ty,pos,after,g⟩ s (s.put n dst (.b (.one (.slf size es)))):=by
 intro a w ⟨hdf,hn,h,ρ,hw,hs⟩ next Q hnext
 obtain ⟨i,z,h1,h2,h3,h4,h5,h6,h7⟩:=ht.info
 have hzr:=fq h h7
 have hzl:zs.length = size:=by rw [hzr.length]; simpa using h5
 have hzeros:=la hzr (by omega) (len * size)
 rw [hzl] at hzeros
 have hzc:((Array.range (len * size)).map (z.cells[· % z.cells.size]!)).toList = (List.range (len * size)).map fun i=>z.cells.toList[i % z.cells.toList.length]!:=by
  rw [Array.toList_map,Array.toList_range]
  refine List.map_congr_left fun j _=>?_
  rw [List.getElem!_eq_getElem?_getD,Array.getElem!_eq_getD]
  simp [Array.getD_eq_getD_getElem?]
 obtain ⟨cs,hc1,hc2⟩:=gY hs (fun i=>some (i * size,size)) parts.toList cps _ es.flatten ((Array.range (len * size)).map (z.cells[· % z.cells.size]!)) hp hf (by rw [hzc]; exact hzeros)
 have hne:¬ len * size = 0:=by omega
 have hrun:(Instr.buildSlice t len (parts.map fun (i,x)=>(i,a.eval x))).run P w = .ok (.slice (some ⟨w.heap.size,0,none⟩) len len) (w.alloc (.cells cs e)):=by
  have hmap:(parts.map fun x=>(x.1,a.eval x.2)).toList = parts.toList.map fun p=>(p.1,a.eval p.2):=by simp
  unfold Instr.buildSlice
  rw [Sem.run_bind,run_underlying ht.und,Result.andThen]
  simp only [Sem.run_bind,run_sizeOf h1,h2,Result.andThen_ok]
  rw [if_neg (by omega),if_neg hne]
  simp [zeroValue,typeInfo,h1,h4,hc1,newRow]
 have hrun':(execOp a.eval ⟨dst,.buildSlice t len parts,ty,pos,after,g⟩).run P w = .ok (.value (.slice (some ⟨w.heap.size,0,none⟩) len len)) (w.alloc (.cells cs e)):=by
  simp only [execOp]
  simp [hrun]
 unfold Oper.wp
 rw [hrun']
 obtain ⟨hle,hwp⟩:=hw.qX cs e (av.one hc2)
 refine hnext _ _ (R.put (s:=s) hdf hn hwp (hs.mono hle) ?_)
 refine ⟨hu,h6,.inr (.inl ⟨w.heap.size,0,by rw [hl],?_,fun j c hc=>?_⟩)⟩
 ·have:len ≤ len * size:=Nat.le_mul_of_pos_right _ h6
  rw [cB]; omega
 ·obtain ⟨u,hu',hr⟩:=hc2.get j c hc
  exact ⟨u,by simp only [bV,if_true,Nat.zero_add]; exact hu',c.mono hle hr⟩
theorem slf_sl {h:PH} {v:Value} {size:Nat} {es:List (List CP)} (hv:(CP.slf size es).rel h v):(CP.sl size es).rel h v:=by
 obtain ⟨h1,h2,h3⟩:=hv
 refine ⟨h1,h2,h3.imp id (Or.imp (fun ⟨b,o,e,hm,hr⟩=>⟨b,o,es.length,e,Nat.le_refl _,hm,hr⟩) id)⟩
theorem R.ga {i size:Nat} {es:List (List CP)} {a:Act} {w:World} (hr:R E n s a w) (hi:s.get i = some (.b (.one (.slf size es)))):R E n ⟨(i,.b (.one (.sl size es))) :: del i s.slots,s.own⟩ a w:=by
 obtain ⟨h1,h2,h,ρ,hw,hs⟩:=hr
 refine ⟨h1,h2,h,ρ,hw,?_⟩
 intro j x hx
 cases List.mem_cons.1 hx with
 | inl e=>
  obtain ⟨rfl,rfl⟩:=Prod.mk.inj e
  obtain ⟨v,hv,hrel⟩:=hs _ _ (aA (show lk s.slots j = some _ from hi))
  exact ⟨v,hv,slf_sl hrel⟩
 | inr e=>exact hs j x (bB e).1
theorem ae.ga (i:Nat) {size:Nat} {es:List (List CP)} (hi:s.get i = some (.b (.one (.slf size es)))) (h:ae P E n ops l ⟨(i,.b (.one (.sl size es))) :: del i s.slots,s.own⟩ Q):ae P E n ops l s Q:=fun a w hr=>h a w (hr.ga hi)
theorem ab.ga (i:Nat) {size:Nat} {es:List (List CP)} (hi:s.get i = some (.b (.one (.slf size es)))) (h:ab P E n cd ⟨(i,.b (.one (.sl size es))) :: del i s.slots,s.own⟩ Q):ab P E n cd s Q:=fun a w hr=>h a w (hr.ga hi)
theorem ar.cast {f:FuncId} {own own2 own' own2':List (Nat × OC)} {args args2:List BV} {res res2:SV} (h:ar P TB f own args (Is own' res)) (h1:own = own2) (h2:args = args2) (h3:own' = own2') (h4:res = res2):ar P TB f own2 args2 (Is own2' res2):=by
 subst h1 h2 h3 h4; exact h
end
end Go.Sk
namespace Go.Sk
open Go
set_option linter.unusedVariables false
set_option linter.unusedSimpArgs false
section
variable {σ σ1 σ2 σ3 τ:Type}
theorem aC.up2 {A:σ → Int → Option ((σ × Int) ⊕ τ)} {G:σ → Int → τ} {n:Int} {Q:τ → Prop} {F:Nat} {s0:σ} (N:Nat) (I:Nat → σ → Prop) (hn:n = N) (hF:N < F) (h0:I 0 s0)
  (step:∀ (k:Nat) s,k < N → I k s → aC (A s k) fun o=>(∃ s',o = .inl (s',(k:Int) + 1) ∧ I (k + 1) s') ∨ ∃ t,o = .inr t ∧ Q t) (fin:∀ s,I N s → Q (G s N)) :
  aC (iter F (fun z:σ × Int=>if decide (z.2 < n) = true then A z.1 z.2 else Option.some (.inr (G z.1 z.2))) (s0,0)) Q:=by
 refine aC.rounds (n:=N) (I:=fun k s=>s.2 = (k:Int) ∧ I k s.1) hF ⟨rfl,h0⟩ ?_
 rintro k ⟨s,i⟩ hk ⟨hi,hI⟩
 simp only at hi hI
 subst hi
 refine aC.ite (fun hc=>?_) (fun hc=>?_)
 ·have hc:=of_decide_eq_true hc
  simp only at hc
  refine (step k s (by omega) hI).mono fun o ho=>?_
  rcases ho with ⟨s',rfl,h⟩ | h
  ·exact .inl ⟨_,rfl,⟨by push_cast; rfl,h⟩,by omega⟩
  ·exact .inr h
 ·have hc:=of_decide_eq_false hc
  simp only at hc
  have:k = N:=by omega
  subst this
  exact aC.some (.inr ⟨_,rfl,fin s hI⟩)
end
theorem eu (m:bf) (k v j:Int):ct (cZ m k v) j = (decide (j = k) || ct m j):=by
 unfold ct; rw [lp]; by_cases h:j = k <;> simp [h]
theorem b4 (m:bf) (k v j:Int):ca (cZ m k v) j = if j = k then v else ca m j:=by
 unfold ca; rw [lp]; by_cases h:j = k <;> simp [h]
theorem mY (a b j:Int) (m:bf):ct ((a,b) :: m) j = (decide (j = a) || ct m j):=by
 unfold ct; show (if j = a then some b else dZ m j).isSome = _
 by_cases h:j = a <;> simp [h]
theorem gX (j:Int):∀ m:bf,ct m j = true ↔ j ∈ m.map (·.1)
 | []=>by simp [ct,dZ]
 | (a,b) :: m=>by rw [mY]; simp [gX j m]
theorem hC (k v:Int):∀ m:bf,(cZ m k v).map (·.1) = if ct m k then m.map (·.1) else m.map (·.1) ++ [k]
 | []=>by simp [ct,dZ,cZ]
 | (a,b) :: m=>by
  rw [mY]
  unfold cZ
  by_cases h:k = a
  ·simp [h]
  ·rw [if_neg h,List.map_cons,hC k v m]
   by_cases h2:ct m k <;> simp [h,h2]
theorem l7 (l:List Int):(sorted l).Perm l:=List.mergeSort_perm _ _
theorem srt_pw (l:List Int):(sorted l).Pairwise (· ≤ ·) :=
 (List.pairwise_mergeSort (le:=fun x y:Int=>decide (x ≤ y)) (fun a b c h1 h2=>by simp only [decide_eq_true_eq] at *; omega) (fun a b=>by simp only [Bool.or_eq_true,decide_eq_true_eq]; omega) l).imp fun h=>of_decide_eq_true h
abbrev nf (l:List Int):Prop:=l.Pairwise (· < ·)
theorem pz {l:List Int} (h:l.Nodup):nf (sorted l):=by
 have h1:=srt_pw l
 have h2:(sorted l).Nodup:=(l7 l).nodup_iff.2 h
 refine (List.pairwise_and_iff.2 ⟨h1,h2⟩).imp ?_
 rintro a b ⟨h1,h2⟩
 omega
theorem kx {l:List Int} {a:Int}:a ∈ sorted l ↔ a ∈ l:=(l7 l).mem_iff
theorem pR {l m:List Int} (hl:nf l) (hm:nf m) (h:∀ a,a ∈ l ↔ a ∈ m):l = m:=by
 refine List.Perm.eq_of_pairwise (fun a b _ _ h1 h2=>absurd (Int.lt_trans h1 h2) (Int.lt_irrefl _)) hl hm ?_
 refine (List.perm_ext_iff_of_nodup (hl.imp fun h=>Int.ne_of_lt h) (hm.imp fun h=>Int.ne_of_lt h)).2 h
theorem nm {α:Type} [DecidableEq α]:∀ {l m:List α},l.Nodup → (∀ a ∈ l,a ∈ m) → l.length ≤ m.length
 | [],_,_,_=>Nat.zero_le _
 | a :: l,m,h,hs=>by
  have h1:=List.nodup_cons.1 h
  have h2:l.length ≤ (m.erase a).length:=nm h1.2 fun b hb=>by
   have:b ≠ a:=fun e=>h1.1 (e ▸ hb)
   exact (List.mem_erase_of_ne this).2 (hs b (List.mem_cons_of_mem _ hb))
  have ha:=hs a (List.mem_cons_self ..)
  rw [List.length_erase_of_mem ha] at h2
  have:0 < m.length:=List.length_pos_of_mem ha
  simp only [List.length_cons]
  omega
theorem nc {l:List Int} (h:nf l):l.Nodup:=h.imp fun h=>Int.ne_of_lt h
theorem nE {l m:List Int} (h:nf l) (hs:∀ a ∈ l,a ∈ m):l.length ≤ m.length:=nm (nc h) hs
def gS {α:Type} (κ:α → Int) (n:α) (l out:List α) (placed:Bool):Prop :=
 ∃ A B,l = A ++ B ∧ (∀ a ∈ A,κ a < κ n) ∧ (∀ b ∈ B,κ n < κ b) ∧ ((placed = false ∧ B = [] ∧ out = A) ∨ (placed = true ∧ B ≠ [] ∧ out = A ++ n :: B))
theorem gS.zero {α:Type} {κ:α → Int} {n:α}:gS κ n [] [] false:=⟨[],[],rfl,by simp,by simp,.inl ⟨rfl,rfl,rfl⟩⟩
theorem gS.put {α:Type} {κ:α → Int} {n x:α} {l out:List α} (h:gS κ n l out false) (hx:κ n < κ x):gS κ n (l ++ [x]) (out ++ [n] ++ [x]) true:=by
 obtain ⟨A,B,hl,hA,hB,h | h⟩:=h
 ·obtain ⟨_,h2,h3⟩:=h
  subst h2 h3 hl
  refine ⟨out,[x],by simp,hA,by simp [hx],.inr ⟨rfl,by simp,by simp⟩⟩
 ·exact absurd h.1 (by simp)
theorem gS.next {α:Type} {κ:α → Int} {n x:α} {l out:List α} {p:Bool} (h:gS κ n l out p) (hp:p = true ∨ κ x ≤ κ n) (hne:κ x ≠ κ n) (hs:∀ a ∈ l,κ a < κ x):gS κ n (l ++ [x]) (out ++ [x]) p:=by
 obtain ⟨A,B,rfl,hA,hB,h | h⟩:=h
 ·obtain ⟨rfl,rfl,rfl⟩:=h
  refine ⟨out ++ [x],[],by simp,fun a ha=>?_,by simp,.inl ⟨rfl,rfl,rfl⟩⟩
  rcases List.mem_append.1 ha with ha | ha
  ·exact hA a ha
  ·rw [List.mem_singleton.1 ha]
   rcases hp with hp | hp
   ·exact absurd hp (by simp)
   ·omega
 ·obtain ⟨rfl,hne',rfl⟩:=h
  refine ⟨A,B ++ [x],by simp,hA,fun b hb=>?_,.inr ⟨rfl,by simp,by simp⟩⟩
  rcases List.mem_append.1 hb with hb | hb
  ·exact hB b hb
  ·rw [List.mem_singleton.1 hb]
   obtain ⟨b,B',rfl⟩:=List.exists_cons_of_ne_nil hne'
   have h1:=hB b (List.mem_cons_self ..)
   have h2:=hs b (by simp)
   omega
theorem gS.fin {α:Type} {κ:α → Int} {n:α} {l out:List α} {p:Bool} (h:gS κ n l out p) (hs:l.Pairwise fun a b=>κ a < κ b) :
  (if !p then out ++ [n] else out).Pairwise (fun a b=>κ a < κ b) ∧ (if !p then out ++ [n] else out).Perm (n :: l):=by
 obtain ⟨A,B,rfl,hA,hB,h⟩:=h
 have key:(A ++ n :: B).Pairwise (fun a b=>κ a < κ b):=by
  rw [List.pairwise_append] at hs ⊢
  refine ⟨hs.1,List.pairwise_cons.2 ⟨hB,hs.2.1⟩,fun a ha b hb=>?_⟩
  rcases List.mem_cons.1 hb with rfl | hb
  ·exact hA a ha
  ·exact hs.2.2 a ha b hb
 rcases h with ⟨rfl,rfl,rfl⟩ | ⟨rfl,_,rfl⟩
 ·refine ⟨by simpa using key,?_⟩
  simp only [Bool.not_false,if_true,List.append_nil]
  exact List.perm_append_singleton n out
 ·refine ⟨by simpa using key,?_⟩
  simp only [Bool.not_true,if_false]
  exact List.perm_middle
inductive fM (P:Int → Int → Prop):Int → Int → Prop
 | rfl (a):fM P a a
 | of {a b}:P a b → fM P a b
 | symm {a b}:fM P a b → fM P b a
 | trans {a b c}:fM P a b → fM P b c → fM P a c
theorem fM.lift {P:Int → Int → Prop} {E:Int → Int → Prop} (h1:∀ a,E a a) (h2:∀ a b,E a b → E b a) (h3:∀ a b c,E a b → E b c → E a c) (h:∀ a b,P a b → E a b) {a b:Int} (hc:fM P a b):E a b:=by
 induction hc with
 | rfl a=>exact h1 a
 | of h'=>exact h _ _ h'
 | symm _ ih=>exact h2 _ _ ih
 | trans _ _ i1 i2=>exact h3 _ _ _ i1 i2
theorem fM.mono {P Q:Int → Int → Prop} (h:∀ a b,P a b → fM Q a b) {a b:Int} (hc:fM P a b):fM Q a b :=
 hc.lift (fun a=>.rfl a) (fun _ _ h=>.symm h) (fun _ _ _ h1 h2=>.trans h1 h2) h
theorem fM.congr {P Q:Int → Int → Prop} (h:∀ a b,P a b → fM Q a b) (h':∀ a b,Q a b → fM P a b) (a b:Int):fM P a b ↔ fM Q a b:=⟨.mono h,.mono h'⟩
def jn (r:Int → Int) (x y z:Int):Int:=if r z = max (r x) (r y) then min (r x) (r y) else r z
theorem jn_con {P:Int → Int → Prop} {r:Int → Int} (hi:∀ z,r (r z) = r z) (h:∀ a b,r a = r b ↔ fM P a b) (x y:Int) (a b:Int):jn r x y a = jn r x y b ↔ fM (fun u v=>P u v ∨ (u = x ∧ v = y)) a b:=by
 have up:∀ {a b},fM P a b → fM (fun u v=>P u v ∨ (u = x ∧ v = y)) a b:=fun h=>h.mono fun a b h=>.of (.inl h)
 have base:∀ z,fM P z (r z):=fun z=>(h _ _).1 (hi z).symm
 have xy:fM (fun u v=>P u v ∨ (u = x ∧ v = y)) (r x) (r y):=.trans (up (.symm (base x))) (.trans (.of (.inr ⟨rfl,rfl⟩)) (up (base y)))
 have self:∀ z,fM (fun u v=>P u v ∨ (u = x ∧ v = y)) z (jn r x y z):=fun z=>by
  unfold jn
  split
  ·next hz=>
   refine .trans (up (base z)) ?_
   rw [hz]
   by_cases hl:r x ≤ r y
   ·rw [Int.max_eq_right hl,Int.min_eq_left hl]; exact .symm xy
   ·have hl':r y ≤ r x:=by omega
    rw [Int.max_eq_left hl',Int.min_eq_right hl']; exact xy
  ·exact up (base z)
 constructor
 ·intro e
  refine .trans (self a) ?_
  rw [e]
  exact .symm (self b)
 ·intro hc
  refine hc.lift (E:=fun a b=>jn r x y a = jn r x y b) (fun _=>rfl) (fun _ _ h=>h.symm) (fun _ _ _ h1 h2=>h1.trans h2) ?_
  rintro u v (hu | ⟨rfl,rfl⟩)
  ·have:=(h u v).2 (.of hu)
   unfold jn; rw [this]
  ·unfold jn
   by_cases hl:r u ≤ r v
   ·rw [Int.max_eq_right hl,Int.min_eq_left hl]
    split <;> split <;> omega
   ·have hl':r v ≤ r u:=by omega
    rw [Int.max_eq_left hl',Int.min_eq_right hl']
    split <;> split <;> omega
theorem jn_idem {r:Int → Int} (hi:∀ z,r (r z) = r z) (x y z:Int):jn r x y (jn r x y z) = jn r x y z:=by
 have h1:=hi x; have h2:=hi y; have h3:=hi z
 unfold jn
 by_cases hl:r x ≤ r y
 ·rw [Int.max_eq_right hl,Int.min_eq_left hl]
  split <;> split <;> omega
 ·have hl':r y ≤ r x:=by omega
  rw [Int.max_eq_left hl',Int.min_eq_right hl']
  split <;> split <;> omega
structure kT (m:bf) (r:Int → Int):Prop where
 out:∀ x,ct m x = false → r x = x
 has:∀ x,ct m x = true → ct m (ca m x) = true
 le:∀ x,ct m x = true → ca m x ≤ x
 step:∀ x,ct m x = true → r (ca m x) = r x
 fix:∀ x,ct m x = true → ca m x = x → r x = x
 low:∀ x,ct m x = true → r x ≤ x ∧ ct m (r x) = true ∧ ca m (r x) = r x
 nd:(m.map (·.1)).Nodup
theorem kT.nil:kT [] (fun x=>x):=⟨fun _ _=>rfl,by simp [ct,dZ],by simp [ct,dZ],fun _ _=>by simp_all [ct,dZ],fun _ _ _=>rfl,by simp [ct,dZ],by simp⟩
theorem kT.idem {m:bf} {r:Int → Int} (h:kT m r) (z:Int):r (r z) = r z:=by
 cases hz:ct m z with
 | false=>rw [h.out z hz,h.out z hz]
 | true=>
  obtain ⟨_,h2,h3⟩:=h.low z hz
  exact h.fix _ h2 h3
theorem kT.rle {m:bf} {r:Int → Int} (h:kT m r) (z:Int):r z ≤ z:=by
 cases hz:ct m z with
 | false=>rw [h.out z hz]; exact Int.le_refl _
 | true=>exact (h.low z hz).1
theorem j8 {m:bf} {k v:Int} (h:(m.map (·.1)).Nodup):((cZ m k v).map (·.1)).Nodup:=by
 rw [hC]
 split
 ·exact h
 ·next hn=>
  rw [List.nodup_append]
  refine ⟨h,by simp,fun a ha b hb=>?_⟩
  rw [List.mem_singleton.1 hb]
  rintro rfl
  exact hn ((gX a m).2 ha)
theorem kT.add {m:bf} {r:Int → Int} (h:kT m r) {x:Int} (hx:ct m x = false):kT (cZ m x x) r:=by
 have e:=h.out x hx
 have hne:∀ z,ct m z = true → z ≠ x:=fun z hz e=>by rw [e,hx] at hz; cases hz
 refine ⟨fun z hz=>?_,fun z hz=>?_,fun z hz=>?_,fun z hz=>?_,fun z hz=>?_,fun z hz=>?_,j8 h.nd⟩
 ·rw [eu,Bool.or_eq_false_iff] at hz
  exact h.out z hz.2
 ·rw [eu] at hz ⊢
  rw [b4]
  by_cases hzx:z = x
  ·simp [hzx]
  ·simp only [hzx,decide_false,Bool.false_or] at hz
   simp [hzx,h.has z hz]
 ·rw [eu] at hz
  rw [b4]
  by_cases hzx:z = x
  ·simp [hzx]
  ·simp only [hzx,decide_false,Bool.false_or] at hz
   simp [hzx,h.le z hz]
 ·rw [eu] at hz
  rw [b4]
  by_cases hzx:z = x
  ·simp [hzx]
  ·simp only [hzx,decide_false,Bool.false_or] at hz
   simp [hzx,h.step z hz]
 ·rw [eu] at hz
  rw [b4]
  by_cases hzx:z = x
  ·simp [hzx,e]
  ·simp only [hzx,decide_false,Bool.false_or] at hz
   simpa [hzx] using h.fix z hz
 ·rw [eu] at hz ⊢
  rw [b4]
  by_cases hzx:z = x
  ·simp [hzx,e]
  ·simp only [hzx,decide_false,Bool.false_or] at hz
   obtain ⟨h1,h2,h3⟩:=h.low z hz
   simp [h1,h2,hne _ h2,h3]
theorem kT.short {m:bf} {r:Int → Int} (h:kT m r) {x:Int} (hx:ct m x = true):kT (cZ m x (r x)) r:=by
 obtain ⟨l1,l2,l3⟩:=h.low x hx
 have hi:=h.idem x
 have hh:∀ z,ct (cZ m x (r x)) z = ct m z:=fun z=>by
  rw [eu]; by_cases e:z = x <;> simp [e,hx]
 refine ⟨fun z hz=>?_,fun z hz=>?_,fun z hz=>?_,fun z hz=>?_,fun z hz=>?_,fun z hz=>?_,j8 h.nd⟩
 ·rw [hh] at hz; exact h.out z hz
 ·rw [hh] at hz ⊢
  rw [b4]
  split
  ·exact l2
  ·exact h.has z hz
 ·rw [hh] at hz
  rw [b4]
  split
  ·next e=>rw [e]; exact l1
  ·exact h.le z hz
 ·rw [hh] at hz
  rw [b4]
  split
  ·next e=>rw [e]; exact hi
  ·exact h.step z hz
 ·rw [hh] at hz
  rw [b4]
  split
  ·next e=>intro e2; rw [e] at e2 ⊢; exact e2
  ·exact h.fix z hz
 ·rw [hh] at hz ⊢
  obtain ⟨h1,h2,h3⟩:=h.low z hz
  refine ⟨h1,h2,?_⟩
  rw [b4]
  split
  ·next e=>rw [← e]; exact h.idem z
  ·exact h3
theorem kT.join {m:bf} {r:Int → Int} (h:kT m r) {x y:Int} (hx:ct m x = true) (hy:ct m y = true) (hne:r x ≠ r y):kT (cZ m (max (r x) (r y)) (min (r x) (r y))) (jn r x y):=by
 obtain ⟨a1,a2,a3⟩:=h.low x hx
 obtain ⟨b1,b2,b3⟩:=h.low y hy
 have ia:=h.idem x
 have ib:=h.idem y
 have hM:∃ M N,max (r x) (r y) = M ∧ min (r x) (r y) = N ∧ N < M ∧ ct m M = true ∧ ct m N = true ∧ ca m M = M ∧ ca m N = N ∧ r M = M ∧ r N = N:=by
  by_cases hl:r x ≤ r y
  ·exact ⟨r y,r x,Int.max_eq_right hl,Int.min_eq_left hl,by omega,b2,a2,b3,a3,ib,ia⟩
  ·have hl':r y ≤ r x:=by omega
   exact ⟨r x,r y,Int.max_eq_left hl',Int.min_eq_right hl',by omega,a2,b2,a3,b3,ia,ib⟩
 obtain ⟨M,N,eM,eN,hlt,hM,hN,gM,gN,rM,rN⟩:=hM
 have ej:∀ z,jn r x y z = if r z = M then N else r z:=fun z=>by unfold jn; rw [eM,eN]
 rw [eM,eN]
 have hh:∀ z,ct (cZ m M N) z = ct m z:=fun z=>by
  rw [eu]; by_cases e:z = M <;> simp [e,hM]
 refine ⟨fun z hz=>?_,fun z hz=>?_,fun z hz=>?_,fun z hz=>?_,fun z hz=>?_,fun z hz=>?_,j8 h.nd⟩
 ·rw [hh] at hz
  have:r z = z:=h.out z hz
  rw [ej,this,if_neg]
  rintro rfl
  rw [hM] at hz; cases hz
 ·rw [hh] at hz ⊢
  rw [b4]
  split
  ·exact hN
  ·exact h.has z hz
 ·rw [hh] at hz
  rw [b4]
  split
  ·omega
  ·exact h.le z hz
 ·rw [hh] at hz
  rw [b4,ej,ej]
  split
  ·next e=>rw [e,rN,rM,if_pos rfl]; simp
  ·rw [h.step z hz]
 ·rw [hh] at hz
  rw [b4,ej]
  split
  ·next e=>intro e2; omega
  ·next e=>
   intro e2
   have:=h.fix z hz e2
   rw [this,if_neg e]
 ·rw [hh] at hz
  rw [hh,ej,b4]
  obtain ⟨h1,h2,h3⟩:=h.low z hz
  by_cases e:r z = M
  ·rw [if_pos e,if_neg (by omega)]
   exact ⟨by omega,hN,gN⟩
  ·rw [if_neg e,if_neg e]
   exact ⟨h1,h2,h3⟩
def hd (c:List Int):Int:=c.headD 0
structure IsPt (P:Int → Int → Prop) (D:Int → Prop) (out:List (List Int)):Prop where
 asd:∀ c ∈ out,c ≠ [] ∧ nf c
 dj:out.Pairwise fun c d=>∀ z ∈ c,z ∉ d
 dom:∀ a,D a ↔ ∃ c ∈ out,a ∈ c
 con:∀ c ∈ out,∀ a ∈ c,∀ b ∈ c,fM P a b
 cl:∀ c ∈ out,∀ a b,P a b → (a ∈ c ↔ b ∈ c)
abbrev HdL (out:List (List Int)):Prop:=out.Pairwise fun c d=>hd c < hd d
structure Part (P:Int → Int → Prop) (D:Int → Prop) (out:List (List Int)):Prop extends IsPt P D out where
 srt:HdL out
theorem IsPt.cls {P:Int → Int → Prop} {D:Int → Prop} {out:List (List Int)} (h:IsPt P D out) {c:List Int} (hc:c ∈ out) {a b:Int} (hab:fM P a b):a ∈ c ↔ b ∈ c :=
 hab.lift (E:=fun a b=>a ∈ c ↔ b ∈ c) (fun _=>.rfl) (fun _ _ h=>h.symm) (fun _ _ _ h1 h2=>h1.trans h2) (h.cl c hc)
theorem IsPt.mem {P:Int → Int → Prop} {D:Int → Prop} {out:List (List Int)} (h:IsPt P D out) {c:List Int} (hc:c ∈ out) {a:Int} (ha:a ∈ c) (b:Int):b ∈ c ↔ fM P a b :=
 ⟨fun hb=>h.con c hc a ha b hb,fun hb=>(h.cls hc hb).1 ha⟩
theorem fa {c:List Int} (h:c ≠ []):hd c ∈ c:=by
 cases c with
 | nil=>exact absurd rfl h
 | cons a c=>exact List.mem_cons_self ..
theorem qu {c:List Int} (h:nf c) {a:Int} (ha:a ∈ c):hd c ≤ a:=by
 cases c with
 | nil=>exact absurd ha (by simp)
 | cons x c=>
  rcases List.mem_cons.1 ha with rfl | ha
  ·exact Int.le_refl _
  ·exact Int.le_of_lt ((List.pairwise_cons.1 h).1 a ha)
theorem IsPt.congr {P Q:Int → Int → Prop} {D E:Int → Prop} {out:List (List Int)} (h:IsPt P D out) (hP:∀ a b,fM P a b ↔ fM Q a b) (hD:∀ a,D a ↔ E a):IsPt Q E out :=
 ⟨h.asd,h.dj,fun a=>(hD a).symm.trans (h.dom a),fun c hc a ha b hb=>(hP _ _).1 (h.con c hc a ha b hb),fun c hc a b hab=>h.cls hc ((hP _ _).2 (.of hab))⟩
theorem Part.congr {P Q:Int → Int → Prop} {D E:Int → Prop} {out:List (List Int)} (h:Part P D out) (hP:∀ a b,fM P a b ↔ fM Q a b) (hD:∀ a,D a ↔ E a):Part Q E out :=
 { toIsPt:=h.toIsPt.congr hP hD,srt:=h.srt }
theorem IsPt.qF {P:Int → Int → Prop} {D:Int → Prop} {out:List (List Int)} (h:IsPt P D out) (z:Int):z ∈ out.map hd ↔ D z ∧ ∀ b,fM P z b → z ≤ b:=by
 rw [List.mem_map]
 constructor
 ·rintro ⟨c,hc,rfl⟩
  obtain ⟨hn,ha⟩:=h.asd c hc
  refine ⟨(h.dom _).2 ⟨c,hc,fa hn⟩,fun b hb=>qu ha ((h.cls hc hb).1 (fa hn))⟩
 ·rintro ⟨hD,hm⟩
  obtain ⟨c,hc,hz⟩:=(h.dom z).1 hD
  obtain ⟨hn,ha⟩:=h.asd c hc
  refine ⟨c,hc,Int.le_antisymm (qu ha hz) (hm _ (h.con c hc z hz _ (fa hn)))⟩
theorem Part.uniq {P:Int → Int → Prop} {D:Int → Prop} {o1 o2:List (List Int)} (h1:Part P D o1) (h2:Part P D o2):o1 = o2:=by
 have hh:o1.map hd = o2.map hd:=pR (List.pairwise_map.2 h1.srt) (List.pairwise_map.2 h2.srt) fun z=>by rw [h1.qF,h2.qF]
 have same:∀ c ∈ o1,∀ d ∈ o2,hd c = hd d → c = d:=fun c hc d hd' e=>by
  obtain ⟨n1,a1⟩:=h1.asd c hc
  obtain ⟨n2,a2⟩:=h2.asd d hd'
  refine pR a1 a2 fun z=>?_
  rw [h1.mem hc (fa n1),h2.mem hd' (fa n2),e]
 have hl:o1.length = o2.length:=by have:=congrArg List.length hh; simpa using this
 refine List.ext_getElem hl fun i i1 i2=>same _ (List.getElem_mem i1) _ (List.getElem_mem i2) ?_
 have:=congrArg (fun l=>l[i]?) hh
 simpa [List.getElem?_map,List.getElem?_eq_getElem i1,List.getElem?_eq_getElem i2] using this
def canon (r:Int → Int) (ks:List Int):List (List Int):=(ks.filter fun x=>r x = x).map fun h=>ks.filter fun z=>r z = h
theorem pf {r:Int → Int} {ks:List Int} {P:Int → Int → Prop} (hs:nf ks) (hle:∀ z,r z ≤ z) (hi:∀ z,r (r z) = r z) (hk:∀ z ∈ ks,r z ∈ ks) (hc:∀ a b,r a = r b ↔ fM P a b) (hP:∀ a b,P a b → (a ∈ ks ↔ b ∈ ks)):Part P (· ∈ ks) (canon r ks):=by
 have key:∀ h ∈ ks.filter (fun x=>decide (r x = x)),h ∈ ks ∧ r h = h:=fun h hh=>by simpa using List.mem_filter.1 hh
 have kh:∀ h ∈ ks.filter (fun x=>decide (r x = x)),hd (ks.filter fun z=>decide (r z = h)) = h:=fun h hh=>by
  obtain ⟨h1,h2⟩:=key h hh
  have hm:h ∈ ks.filter fun z=>decide (r z = h):=List.mem_filter.2 ⟨h1,by simpa using h2⟩
  have ha:nf (ks.filter fun z=>decide (r z = h)):=hs.filter _
  refine Int.le_antisymm (qu ha hm) ?_
  have:=fa (c:=ks.filter fun z=>decide (r z = h)) (List.ne_nil_of_mem hm)
  have:=(List.mem_filter.1 this).2
  have e:r (hd (ks.filter fun z=>decide (r z = h))) = h:=of_decide_eq_true this
  have:=hle (hd (ks.filter fun z=>decide (r z = h)))
  omega
 refine { asd:=fun c hc'=>?_,dj:=?_,dom:=fun a=>?_,con:=fun c hc' a ha b hb=>?_,cl:=fun c hc' a b hab=>?_,srt:=?_ }
 ·obtain ⟨h,hh,rfl⟩:=List.mem_map.1 hc'
  obtain ⟨h1,h2⟩:=key h hh
  exact ⟨List.ne_nil_of_mem (List.mem_filter.2 ⟨h1,by simpa using h2⟩:h ∈ _),hs.filter _⟩
 ·refine List.pairwise_map.2 ((hs.filter _).imp ?_)
  intro a b hab z h1 h2
  have e1:=of_decide_eq_true (List.mem_filter.1 h1).2
  have e2:=of_decide_eq_true (List.mem_filter.1 h2).2
  omega
 ·constructor
  ·intro ha
   exact ⟨_,List.mem_map.2 ⟨r a,List.mem_filter.2 ⟨hk a ha,by simpa using hi a⟩,rfl⟩,List.mem_filter.2 ⟨ha,by simp⟩⟩
  ·rintro ⟨c,hc',ha⟩
   obtain ⟨h,hh,rfl⟩:=List.mem_map.1 hc'
   exact (List.mem_filter.1 ha).1
 ·obtain ⟨h,hh,rfl⟩:=List.mem_map.1 hc'
  have e1:=of_decide_eq_true (List.mem_filter.1 ha).2
  have e2:=of_decide_eq_true (List.mem_filter.1 hb).2
  exact (hc a b).1 (e1.trans e2.symm)
 ·obtain ⟨h,hh,rfl⟩:=List.mem_map.1 hc'
  have e:=(hc a b).2 (.of hab)
  rw [List.mem_filter,List.mem_filter,e,hP a b hab]
 ·refine List.pairwise_map.2 (List.Pairwise.imp_of_mem ?_ (hs.filter fun x=>decide (r x = x)))
  intro a b ha hb hab
  rw [kh a ha,kh b hb]
  exact hab
theorem IsPt.add {P Q:Int → Int → Prop} {D E:Int → Prop} {out:List (List Int)} (h:IsPt P D out) {x y:List Int} (hPD:∀ a b,P a b → D a ∧ D b) (hx:x ≠ []) (hy:nf y)
  (hmem:∀ z,z ∈ y ↔ z ∈ x ∨ ∃ c ∈ out,(∃ u ∈ c,u ∈ x) ∧ z ∈ c) (hQ:∀ a b,Q a b ↔ P a b ∨ (a ∈ x ∧ b ∈ x)) (hE:∀ a,E a ↔ D a ∨ a ∈ x)
  {rest:List (List Int)} (hrest:rest = out.filter fun c=>!(c.any fun u=>x.contains u)):IsPt Q E (rest ++ [y]):=by
 have hr:∀ c,c ∈ rest ↔ c ∈ out ∧ ∀ u ∈ c,u ∉ x:=fun c=>by
  rw [hrest,List.mem_filter]; simp
 have up:∀ {a b},fM P a b → fM Q a b:=fun h=>h.mono fun a b h=>.of ((hQ a b).2 (.inl h))
 have inx:∀ z ∈ y,∃ u ∈ x,fM Q u z:=fun z hz=>by
  rcases (hmem z).1 hz with hz | ⟨c,hc,⟨u,hu,hux⟩,hzc⟩
  ·exact ⟨z,hz,.rfl z⟩
  ·exact ⟨u,hux,up (h.con c hc u hu z hzc)⟩
 refine ⟨fun c hc=>?_,?_,fun a=>?_,fun c hc a ha b hb=>?_,fun c hc a b hab=>?_⟩
 ·rcases List.mem_append.1 hc with hc | hc
  ·exact h.asd c ((hr c).1 hc).1
  ·rw [List.mem_singleton.1 hc]
   obtain ⟨u,x',rfl⟩:=List.exists_cons_of_ne_nil hx
   exact ⟨List.ne_nil_of_mem ((hmem u).2 (.inl (List.mem_cons_self ..))),hy⟩
 ·refine List.pairwise_append.2 ⟨?_,by simp,fun c hc d hd z hz hzd=>?_⟩
  ·rw [hrest]; exact h.dj.filter _
  ·rw [List.mem_singleton.1 hd] at hzd
   obtain ⟨hc1,hc2⟩:=(hr c).1 hc
   rcases (hmem z).1 hzd with hzx | ⟨d',hd',⟨u,hu,hux⟩,hzd'⟩
   ·exact hc2 z hz hzx
   ·have:u ∈ c:=(h.cls hc1 (h.con d' hd' z hzd' u hu)).1 hz
    exact hc2 u this hux
 ·rw [hE a,h.dom a]
  constructor
  ·rintro (⟨c,hc,ha⟩ | ha)
   ·by_cases hm:∃ u ∈ c,u ∈ x
    ·exact ⟨y,by simp,(hmem a).2 (.inr ⟨c,hc,hm,ha⟩)⟩
    ·exact ⟨c,List.mem_append.2 (.inl ((hr c).2 ⟨hc,fun u hu hux=>hm ⟨u,hu,hux⟩⟩)),ha⟩
   ·exact ⟨y,by simp,(hmem a).2 (.inl ha)⟩
  ·rintro ⟨c,hc,ha⟩
   rcases List.mem_append.1 hc with hc | hc
   ·exact .inl ⟨c,((hr c).1 hc).1,ha⟩
   ·rw [List.mem_singleton.1 hc] at ha
    rcases (hmem a).1 ha with ha | ⟨d,hd,_,had⟩
    ·exact .inr ha
    ·exact .inl ⟨d,hd,had⟩
 ·rcases List.mem_append.1 hc with hc | hc
  ·exact up (h.con c ((hr c).1 hc).1 a ha b hb)
  ·rw [List.mem_singleton.1 hc] at ha hb
   obtain ⟨u,hu,h1⟩:=inx a ha
   obtain ⟨v,hv,h2⟩:=inx b hb
   exact .trans (.symm h1) (.trans (.of ((hQ u v).2 (.inr ⟨hu,hv⟩))) h2)
 ·rcases List.mem_append.1 hc with hc | hc
  ·obtain ⟨hc1,hc2⟩:=(hr c).1 hc
   rcases (hQ a b).1 hab with hp | ⟨ha,hb⟩
   ·exact h.cl c hc1 a b hp
   ·exact ⟨fun hac=>absurd ha (hc2 a hac),fun hbc=>absurd hb (hc2 b hbc)⟩
  ·rw [List.mem_singleton.1 hc]
   rcases (hQ a b).1 hab with hp | ⟨ha,hb⟩
   ·have hcl:∀ {a b},fM P a b → (∃ c ∈ out,a ∈ c) → a ∈ y → b ∈ y:=fun {a b} hp hDa ha=>by
     rcases (hmem a).1 ha with hax | ⟨d,hd,hm,had⟩
     ·obtain ⟨c,hc,hac⟩:=hDa
      exact (hmem b).2 (.inr ⟨c,hc,⟨a,hac,hax⟩,(h.cls hc hp).1 hac⟩)
     ·exact (hmem b).2 (.inr ⟨d,hd,hm,(h.cls hd hp).1 had⟩)
    obtain ⟨da,db⟩:=hPD a b hp
    exact ⟨hcl (.of hp) ((h.dom a).1 da),hcl (.symm (.of hp)) ((h.dom b).1 db)⟩
   ·exact ⟨fun _=>(hmem b).2 (.inl hb),fun _=>(hmem a).2 (.inl ha)⟩
end Go.Sk
namespace Go.Sk
open Go
set_option linter.unusedVariables false
section
variable {α σ σ1 σ2 σ3 τ:Type} [Inhabited α]
theorem pO (pre post:List α) (x:α):aV (pre ++ x :: post) (pre.length:Int) = Option.some x:=by
 rw [jq (by omega) (by simp only [List.length_append,List.length_cons]; omega),lT _ _ (by simp)]
 simp
private theorem oP {l:List α} {S:Type} {body:S × Int → Option ((S × Int) ⊕ τ)} {Q:τ → Prop} {F:Nat} {s0:S} (I:List α → S → Prop) (hF:l.length < F) (hL:l.length ≤ 9223372036854775807) (h0:I [] s0)
  (step:∀ pre x post s,l = pre ++ x :: post → aV l (pre.length:Int) = Option.some x → I pre s → aC (body (s,(pre.length:Int))) fun o=>(∃ s',o = .inl (s',IntKind.i64.wrap ((pre.length:Int) + 1)) ∧ I (pre ++ [x]) s') ∨ ∃ t,o = .inr t ∧ Q t)
  (fin:∀ s,I l s → aC (body (s,(l.length:Int))) fun o=>∃ t,o = .inr t ∧ Q t):aC (iter F body (s0,0)) Q:=by
 refine aC.rounds (n:=l.length) (I:=fun k s=>k ≤ l.length ∧ s.2 = (k:Int) ∧ I (l.take k) s.1) hF ⟨Nat.zero_le _,rfl,by simpa using h0⟩ ?_
 rintro k ⟨s,i⟩ hk ⟨hk',hi,hI⟩
 simp only at hi hI
 subst hi
 by_cases hc:k < l.length
 ·have e:l = l.take k ++ l[k] :: l.drop (k + 1):=by rw [← List.drop_eq_getElem_cons hc,List.take_append_drop]
  have hl:(l.take k).length = k:=by rw [List.length_take]; omega
  have hx:aV l ((l.take k).length:Int) = Option.some l[k]:=by
   rw [hl,jq (by omega) (by omega),lT _ _ hc]
  have h:=step (l.take k) l[k] (l.drop (k + 1)) s e hx hI
  rw [hl] at h
  refine h.mono fun o ho=>?_
  rcases ho with ⟨s',rfl,h⟩ | h
  ·refine .inl ⟨_,rfl,⟨by omega,?_,?_⟩,hc⟩
   ·show IntKind.i64.wrap ((k:Int) + 1) = _
    rw [nQ (by omega) (by omega)]; push_cast; rfl
   ·rw [List.take_succ_eq_append_getElem hc]; exact h
  ·exact .inr h
 ·have:k = l.length:=by omega
  subst this
  rw [List.take_length] at hI
  refine (fin s hI).mono fun o ho=>.inr ho
theorem aC.ea1 {l:List α} {A:Int → Option (Int ⊕ τ)} {g:τ} {Q:τ → Prop} {F:Nat} (I:List α → Prop) (hF:l.length < F) (hL:l.length ≤ 9223372036854775807) (h0:I [])
  (step:∀ pre x post,l = pre ++ x :: post → aV l (pre.length:Int) = Option.some x → I pre → aC (A (pre.length:Int)) fun o=>(o = .inl (IntKind.i64.wrap ((pre.length:Int) + 1)) ∧ I (pre ++ [x])) ∨ ∃ t,o = .inr t ∧ Q t)
  (fin:I l → Q g):aC (iter F (fun i=>if decide (i < (l.length:Int)) = true then A i else Option.some (.inr g)) 0) Q:=by
 refine aC.rounds (n:=l.length) (I:=fun k s=>k ≤ l.length ∧ s = (k:Int) ∧ I (l.take k)) hF ⟨Nat.zero_le _,rfl,by simpa using h0⟩ ?_
 rintro k _ hk ⟨hk',rfl,hI⟩
 by_cases hc:k < l.length
 ·have e:l = l.take k ++ l[k] :: l.drop (k + 1):=by rw [← List.drop_eq_getElem_cons hc,List.take_append_drop]
  have hl:(l.take k).length = k:=by rw [List.length_take]; omega
  have hx:aV l ((l.take k).length:Int) = Option.some l[k]:=by
   rw [hl,jq (by omega) (by omega),lT _ _ hc]
  have h:=step (l.take k) l[k] (l.drop (k + 1)) e hx hI
  rw [hl] at h
  rw [if_pos (by simpa using hc)]
  refine h.mono fun o ho=>?_
  rcases ho with ⟨rfl,h⟩ | h
  ·refine .inl ⟨_,rfl,⟨by omega,?_,?_⟩,hc⟩
   ·rw [nQ (by omega) (by omega)]; push_cast; rfl
   ·rw [List.take_succ_eq_append_getElem hc]; exact h
  ·exact .inr h
 ·have:k = l.length:=by omega
  subst this
  rw [List.take_length] at hI
  rw [if_neg (by simp)]
  exact aC.some (.inr ⟨_,rfl,fin hI⟩)
theorem aC.ea2 {l:List α} {A:σ → Int → Option ((σ × Int) ⊕ τ)} {G:σ → τ} {Q:τ → Prop} {F:Nat} {s0:σ} (I:List α → σ → Prop) (hF:l.length < F) (hL:l.length ≤ 9223372036854775807) (h0:I [] s0)
  (step:∀ pre x post s,l = pre ++ x :: post → aV l (pre.length:Int) = Option.some x → I pre s → aC (A s (pre.length:Int)) fun o=>(∃ s',o = .inl (s',IntKind.i64.wrap ((pre.length:Int) + 1)) ∧ I (pre ++ [x]) s') ∨ ∃ t,o = .inr t ∧ Q t)
  (fin:∀ s,I l s → Q (G s)):aC (iter F (cg fun s i=>if decide (i < (l.length:Int)) = true then A s i else Option.some (.inr (G s))) (s0,0)) Q:=by
 refine oP I hF hL h0 (fun pre x post s e hx hI=>?_) fun s hI=>?_
 ·simp only [cg]
  rw [if_pos (by rw [e]; simp; omega)]
  exact step pre x post s e hx hI
 ·simp only [cg]
  rw [if_neg (by simp)]
  exact aC.some ⟨_,rfl,fin s hI⟩
theorem lv {S S' τ':Type} {body:S → Option (S ⊕ τ')} {body':S' → Option (S' ⊕ τ')} (f:S → S') (h:∀ s,body' (f s) = (body s).map (iH (fun s=>.inl (f s)) .inr)):∀ F s,iter F body' (f s) = iter F body s
 | 0,s=>rfl
 | F + 1,s=>by
  rw [ew,ew,h]
  cases body s with
  | none=>rfl
  | some o=>
   cases o with
   | inl s'=>exact lv f h F s'
   | inr t=>rfl
private theorem qB {A B:Type} (o:Option (A ⊕ B)):o.map (iH (fun s=>Sum.inl s) Sum.inr) = o:=by
 cases o with
 | none=>rfl
 | some o=>cases o <;> rfl
theorem aC.ea3 {l:List α} {A:σ1 → σ2 → Int → Option ((σ1 × σ2 × Int) ⊕ τ)} {G:σ1 → σ2 → τ} {Q:τ → Prop} {F:Nat} {a0:σ1} {b0:σ2} (I:List α → σ1 → σ2 → Prop) (hF:l.length < F) (hL:l.length ≤ 9223372036854775807) (h0:I [] a0 b0)
  (step:∀ pre x post a b,l = pre ++ x :: post → aV l (pre.length:Int) = Option.some x → I pre a b → aC (A a b (pre.length:Int)) fun o=>(∃ a' b',o = .inl (a',b',IntKind.i64.wrap ((pre.length:Int) + 1)) ∧ I (pre ++ [x]) a' b') ∨ ∃ t,o = .inr t ∧ Q t)
  (fin:∀ a b,I l a b → Q (G a b)):aC (iter F (kj fun a b i=>if decide (i < (l.length:Int)) = true then A a b i else Option.some (.inr (G a b))) (a0,b0,0)) Q:=by
 have e:=lv (body:=fun z:(σ1 × σ2) × Int=>((kj fun a b i=>if decide (i < (l.length:Int)) = true then A a b i else Option.some (.inr (G a b))) (z.1.1,z.1.2,z.2)).map (iH (fun s=>.inl ((s.1,s.2.1),s.2.2)) .inr)) (body':=kj fun a b i=>if decide (i < (l.length:Int)) = true then A a b i else Option.some (.inr (G a b))) (fun z=>(z.1.1,z.1.2,z.2)) (fun s=>by
  rw [Option.map_map]; exact (Eq.trans (by congr 1; funext o; cases o <;> rfl) (qB _)).symm) F ((a0,b0),0)
 rw [e]
 refine oP (S:=σ1 × σ2) (fun pre s=>I pre s.1 s.2) hF hL h0 (fun pre x post s e hx hI=>?_) fun s hI=>?_
 ·simp only [kj]
  rw [if_pos (by rw [e]; simp; omega)]
  obtain ⟨o,ho,h⟩:=step pre x post s.1 s.2 e hx hI
  rw [ho]
  rcases h with ⟨a',b',rfl,h⟩ | ⟨t,rfl,h⟩
  ·exact aC.some (.inl ⟨(a',b'),rfl,h⟩)
  ·exact aC.some (.inr ⟨t,rfl,h⟩)
 ·simp only [kj]
  rw [if_neg (by simp)]
  exact aC.some ⟨_,rfl,fin s.1 s.2 hI⟩
theorem aC.ea4 {l:List α} {A:σ1 → σ2 → σ3 → Int → Option ((σ1 × σ2 × σ3 × Int) ⊕ τ)} {G:σ1 → σ2 → σ3 → τ} {Q:τ → Prop} {F:Nat} {a0:σ1} {b0:σ2} {c0:σ3} (I:List α → σ1 → σ2 → σ3 → Prop) (hF:l.length < F) (hL:l.length ≤ 9223372036854775807) (h0:I [] a0 b0 c0)
  (step:∀ pre x post a b c,l = pre ++ x :: post → aV l (pre.length:Int) = Option.some x → I pre a b c → aC (A a b c (pre.length:Int)) fun o=>(∃ a' b' c',o = .inl (a',b',c',IntKind.i64.wrap ((pre.length:Int) + 1)) ∧ I (pre ++ [x]) a' b' c') ∨ ∃ t,o = .inr t ∧ Q t)
  (fin:∀ a b c,I l a b c → Q (G a b c)):aC (iter F (un4 fun a b c i=>if decide (i < (l.length:Int)) = true then A a b c i else Option.some (.inr (G a b c))) (a0,b0,c0,0)) Q:=by
 have e:=lv (body:=fun z:(σ1 × σ2 × σ3) × Int=>((un4 fun a b c i=>if decide (i < (l.length:Int)) = true then A a b c i else Option.some (.inr (G a b c))) (z.1.1,z.1.2.1,z.1.2.2,z.2)).map (iH (fun s=>.inl ((s.1,s.2.1,s.2.2.1),s.2.2.2)) .inr)) (body':=un4 fun a b c i=>if decide (i < (l.length:Int)) = true then A a b c i else Option.some (.inr (G a b c))) (fun z=>(z.1.1,z.1.2.1,z.1.2.2,z.2)) (fun s=>by
  rw [Option.map_map]; exact (Eq.trans (by congr 1; funext o; cases o <;> rfl) (qB _)).symm) F ((a0,b0,c0),0)
 rw [e]
 refine oP (S:=σ1 × σ2 × σ3) (fun pre s=>I pre s.1 s.2.1 s.2.2) hF hL h0 (fun pre x post s e hx hI=>?_) fun s hI=>?_
 ·simp only [un4]
  rw [if_pos (by rw [e]; simp; omega)]
  obtain ⟨o,ho,h⟩:=step pre x post s.1 s.2.1 s.2.2 e hx hI
  rw [ho]
  rcases h with ⟨a',b',c',rfl,h⟩ | ⟨t,rfl,h⟩
  ·exact aC.some (.inl ⟨(a',b',c'),rfl,h⟩)
  ·exact aC.some (.inr ⟨t,rfl,h⟩)
 ·simp only [un4]
  rw [if_neg (by simp)]
  exact aC.some ⟨_,rfl,fin s.1 s.2.1 s.2.2 hI⟩
theorem aC.find {υ:Type} {l:List α} {c:α → Bool} {r:α → υ} {Q:Unit ⊕ υ → Prop} {F:Nat} (hF:l.length < F) (hL:l.length ≤ 9223372036854775807) (h1:(∀ x ∈ l,c x = false) → Q (.inl ())) (h2:∀ pre x post,l = pre ++ x :: post → (∀ y ∈ pre,c y = false) → c x = true → Q (.inr (r x))) {A:Int → Option (Int ⊕ (Unit ⊕ υ))}
  (hA:∀ (i:Int) x,aV l i = Option.some x → A i = if c x = true then Option.some (.inr (.inr (r x))) else Option.some (.inl (IntKind.i64.wrap (i + 1)))) :
  aC (iter F (fun i=>if decide (i < (l.length:Int)) = true then A i else Option.some (.inr (.inl ()))) 0) Q:=by
 refine aC.ea1 (fun pre=>∀ x ∈ pre,c x = false) hF hL (by simp) (fun pre x post e hx hI=>?_) fun h=>h1 h
 rw [hA _ x hx]
 refine aC.ite (fun h=>aC.some (.inr ⟨_,rfl,h2 pre x post e hI h⟩)) fun h=>aC.some (.inl ⟨rfl,fun y hy=>?_⟩)
 rcases List.mem_append.1 hy with hy | hy
 ·exact hI y hy
 ·rw [List.mem_singleton.1 hy]; exact h
end
end Go.Sk
namespace Go.Sk
open Go
set_option linter.unusedVariables false
def Le {α:Type} (a b:Option α):Prop:=∀ x,a = some x → b = some x
section
variable {α β γ σ τ:Type}
theorem Le.rfl (a:Option α):Le a a:=fun _ h=>h
theorem Le.none (a:Option α):Le Option.none a:=fun _ h=>by cases h
theorem Le.bind {a b:Option α} {k k':α → Option β} (h:Le a b) (hk:∀ x,Le (k x) (k' x)):Le (a.bind k) (b.bind k'):=fun y hy=>by
 cases a with
 | none=>cases hy
 | some x=>rw [h x (Eq.refl _)]; exact hk x y hy
theorem Le.ite {c:Prop} [Decidable c] {a b a' b':Option α} (h1:Le a a') (h2:Le b b'):Le (if c then a else b) (if c then a' else b'):=by
 split
 ·exact h1
 ·exact h2
theorem Le.cw [Inhabited α] {g:Bool} {a b:Option α} (h:Le a b):Le (cw g a) (cw g b):=by
 unfold Go.Sk.cw
 split
 ·exact h
 ·exact Le.rfl _
theorem Le.fB {a:γ} {k k':γ → Option α} (h:∀ a,Le (k a) (k' a)):Le (Go.Sk.fB a k) (Go.Sk.fB a k'):=h a
theorem Le.iH {f f':α → Option γ} {g g':β → Option γ} (h1:∀ x,Le (f x) (f' x)) (h2:∀ x,Le (g x) (g' x)) (z:α ⊕ β):Le (Go.Sk.iH f g z) (Go.Sk.iH f' g' z):=by
 cases z with
 | inl x=>exact h1 x
 | inr x=>exact h2 x
theorem Le.iter {F F':Nat} (hF:F ≤ F') {f f':σ → Option (σ ⊕ τ)} (h:∀ s,Le (f s) (f' s)) (s:σ):Le (Go.Sk.iter F f s) (Go.Sk.iter F' f' s):=by
 induction F generalizing F' s with
 | zero=>exact Le.none _
 | succ F ih=>
  obtain ⟨F',rfl⟩:∃ g,F' = g + 1:=⟨F' - 1,by omega⟩
  rw [ew,ew]
  exact Le.bind (h s) (Le.iH (fun x=>ih (by omega) x) fun x=>Le.rfl _)
end
end Go.Sk
