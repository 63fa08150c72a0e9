/- part of the proof: the framework -/
import Derived.Test.YtpkheobgojeapaaGreatDoorF2
import Derived.Recover
import Derived.LoopN
import Derived.Laws.LoneSync
import Derived.Lib.AppendStr
import Derived.Shelf.Strconv.Itoa3
import Derived.Shelf.Strings.OnBuilder
import Derived.Shelf.Strings.Repeat
import Derived.Shelf.Spec.TrailingZeros
import Derived.Shelf.Strings.Cut
import Derived.Shelf.Strings.Prefix
import Derived.Shelf.LaysM
import Derived.Shelf.Strings.Search1
import Derived.Shelf.Strings.Count
namespace Go.Sk
open Go Go.BigFrame Go.RowKit
section
variable {P:Program} {TB:aF} {E:Env TB} {n:Sh} {F:Fence} {s s':St} {Q:bF} {x y c:Code}
theorem fW.oE {σ τ:Type} {v:τ} (S:σ → St) (al:σ → τ) (h1:fW P E n F x s (Exit.then (fun a w=>∃ z,v = al z ∧ R E n (S z) a w) Q)) (h2:∀ z,v = al z → fW P E n F y (S z) Q):fW P E n F (.seq x y) s Q:=by
 refine fW.seq fun hq a w hr=>?_
 have hq':¬ LetsOut Q:=fun ⟨a,w,h⟩=>hq ⟨a,w,h⟩
 refine wpIn_mono (h1 (zT hq') a w hr) ?_
 intro e a' w' he
 cases e with
 | normal=>obtain ⟨z,hz,hr'⟩:=he; exact h2 z hz hq' a' w' hr'
 | _=>exact he
theorem fW.qw {σ τ:Type} {fuel:Nat} {body:σ → Option (σ ⊕ τ)} {s0:σ} {v:τ} (h:iter fuel body s0 = some v) (S:σ → St) (ks kos:List Nat) (hs:s.keep ks kos = S s0)
  (round:∀ z o,body z = some o → (∀ y,o = .inr y → y = v) → fW P E n F c (S z) (Exit.then (fun a w=>∃ z',o = .inl z' ∧ R E n (S z') a w) Q)):fW P E n F (.loop c) s Q:=by
 refine fW.keep ks kos hs ?_
 intro hq a w hr
 refine wpIn_loop_rounds fuel ?_
 clear hs
 induction fuel generalizing s0 a w with
 | zero=>simp [xr] at h
 | succ m ih=>
 rw [oC] at h
 obtain ⟨o,ho,hj⟩:=aJ h
 rw [roundsIn_succ]
 refine wpIn_mono (round s0 o ho (fun y hy=>by subst hy; exact Option.some.inj hj) (zT hq) a w hr) ?_
 intro e a' w' he
 cases e with
 | normal=>
  obtain ⟨z',hz',hr'⟩:=he
  subst hz'
  exact ih hj a' w' hr'
 | _=>exact he
end
end Go.Sk
namespace Go.Sk
set_option linter.unusedSimpArgs false
set_option linter.unusedVariables false
open Go Go.BigFrame
def Df (pv:Value):List PanicEntry:=[{ v:=pv,recovered:=false }]
def PEnd {TB:aF} (E:Env TB) (n:Sh) (post:dQ) (hH:Value → Prop) (e:Ending) (w':World):Prop :=
 iD E n post e w' ∨ ∃ pv,e = .panicked (Df pv) ∧ hH pv ∧ ∃ h' ρ',WR E n [] h' ρ' w'
def eH (P:Program) (TB:aF) (f:FuncId) (own:List (Nat × OC)) (args:List BV) (post:dQ) (hH:Value → Prop):Prop :=
 ∀ (w:World) (h:PH) (ρ:RM) (vals:List Value) (tb:cx TB h w),oI h w → B9 own h ρ w → aQ (fun (x:BV) v=>x.rel h ρ v) args vals →
  Calls P f vals.toArray w (PEnd ⟨w,h,ρ,tb⟩ ⟨0,aq own,ai own,[]⟩ post hH)
def gJ (P:Program) (TB:aF) (f:FuncId) (own:List (Nat × OC)) (args:List BV) (pv:Value) (ok:Prop):Prop:=eH P TB f own args (fun _ _=>False) (fun v=>v = pv ∧ ok)
def HB (P:Program) (fn:Func) {TB:aF} (E:Env TB) (n:Sh) (post:dQ) (hH:Value → Prop):bF
 | .normal,a,w=>a.defers = n.dfs ∧ ∃ v,(∀ w₂,bI w w₂ → (results fn a.tmps).run P w₂ = .ok v w₂) ∧ iD E n post (.returned v) w
 | .ret,a,w=>a.defers = n.dfs ∧ ∃ v,(∀ w₂,bI w w₂ → (results fn a.tmps).run P w₂ = .ok v w₂) ∧ iD E n post (.returned v) w
 | .panic ch,a,w=>a.defers = n.dfs ∧ ∃ pv,ch = Df pv ∧ hH pv ∧ ∃ h ρ,WR E n [] h ρ w
 | _,_,_=>False
theorem HB.body {P:Program} {fn:Func} {TB:aF} {E:Env TB} {n:Sh} {post:dQ} {hH:Value → Prop} (hd:n.dfs = []):∀ e a w,HB P fn E n post hH e a w → bodyPost P fn (PEnd E n post hH) e a w
 | .normal,a,w,⟨h1,v,h2,h3⟩=>⟨h1.trans hd,v,h2 w (bI.refl w),.inl h3⟩
 | .ret,a,w,⟨h1,v,h2,h3⟩=>⟨h1.trans hd,v,h2 w (bI.refl w),.inl h3⟩
 | .exit _,_,_,h=>h.elim
 | .goto _,_,_,h=>h.elim
 | .panic _,_,_,⟨h1,pv,h2,h3,h4⟩=>⟨h1.trans hd,.inr ⟨pv,by rw [h2],h3,h4⟩⟩
 | .outgrown,_,_,h=>h.elim
theorem eH.intro {P:Program} {TB:aF} {f:FuncId} {fn:Func} {c:Code} {own:List (Nat × OC)} {args:List BV} {post:dQ} {hH:Value → Prop} (m:Nat) (hf:P.funcs[f]? = some fn) (hm:fn.ntmps = m) (hb:fn.body = some c) (hl:args.length ≤ m)
  (hbody:∀ E:Env TB,ah P E ⟨m,aq own,ai own,[]⟩ c ⟨fI 0 args,own⟩ (HB P fn E ⟨m,aq own,ai own,[]⟩ post hH)):eH P TB f own args post hH:=by
 intro w h ρ vals tb hag hlent hargs
 have hlen:=hargs.length
 refine (calls_of_wp (R:=PEnd ⟨w,h,ρ,tb⟩ ⟨m,aq own,ai own,[]⟩ post hH) hf hb (wp_mono (hbody ⟨w,h,ρ,tb⟩ _ w ⟨rfl,?_,h,ρ,⟨hag,PH.le_refl h,fun _ _ _=>rfl,Nat.le_refl _,fun _ _ _=>rfl,fun _ _=>rfl,rfl,rfl,?_,?_⟩,?_⟩) (HB.body rfl))).mono ?_
 ·simp [hm]; omega
 ·rintro b ⟨k,hk,hb⟩ o
  obtain ⟨⟨k',c⟩,hm',rfl⟩:=List.mem_map.1 hk
  exact ((hlent k' c hm').2.1 b (.inl hb)).2 o
 ·intro k c hc
  obtain ⟨h1,h3,h4⟩:=hlent k c hc
  exact ⟨h1,fun b hb=>⟨.inr ⟨k,List.mem_map.2 ⟨(k,c),hc,rfl⟩,(h3 b hb).1⟩,(h3 b hb).2⟩,h4⟩
 ·intro k x hx
  obtain ⟨j,z,rfl,hz,rfl⟩:=gQ hx
  obtain ⟨v,hv,hr⟩:=hargs.get j z hz
  refine ⟨v,?_,hr⟩
  have hj:=(List.getElem?_eq_some_iff.1 hv).1
  rw [Nat.zero_add,Array.getElem?_append_left (by simpa using hj)]
  simpa using hv
 ·rintro e w' (⟨v,own',res,h',ρ',e1,e2,e3,e4⟩ | ⟨pv,e1,e2,h',ρ',e3⟩)
  ·exact .inl ⟨v,own',res,h',ρ',e1,e2,WR.sh (n:=⟨m,aq own,ai own,[]⟩) (n':=⟨0,aq own,ai own,[]⟩) rfl rfl e3,e4⟩
  ·exact .inr ⟨pv,e1,e2,h',ρ',WR.sh (n:=⟨m,aq own,ai own,[]⟩) (n':=⟨0,aq own,ai own,[]⟩) rfl rfl e3⟩
theorem eH.mono {P:Program} {TB:aF} {f:FuncId} {own:List (Nat × OC)} {args:List BV} {post post':dQ} {hH pan':Value → Prop} (hs:eH P TB f own args post hH) (h1:∀ o r,post o r → post' o r) (h2:∀ v,hH v → pan' v):eH P TB f own args post' pan' :=
 fun w h ρ vals tb g1 g2 g3=>(hs w h ρ vals tb g1 g2 g3).mono fun _ _=>fun
  | .inl ⟨v,own',res,h',ρ',e1,e2,e3,e4⟩=>.inl ⟨v,own',res,h',ρ',e1,h1 _ _ e2,e3,e4⟩
  | .inr ⟨pv,e1,e2,e3⟩=>.inr ⟨pv,e1,h2 _ e2,e3⟩
theorem eH.ret {P:Program} {TB:aF} {f:FuncId} {own:List (Nat × OC)} {args:List BV} {post post':dQ} {hH:Value → Prop} (hs:eH P TB f own args post hH) (h1:∀ o r,post o r → post' o r) (h2:∀ v,¬ hH v):aG P TB f own args post' :=
 fun w h ρ vals tb g1 g2 g3=>(hs w h ρ vals tb g1 g2 g3).mono fun _ _=>fun
  | .inl ⟨v,own',res,h',ρ',e1,e2,e3,e4⟩=>⟨v,own',res,h',ρ',e1,h1 _ _ e2,e3,e4⟩
  | .inr ⟨pv,e1,e2,e3⟩=>absurd e2 (h2 pv)
theorem eH.hH {P:Program} {TB:aF} {f:FuncId} {own:List (Nat × OC)} {args:List BV} {post:dQ} {hH:Value → Prop} {pv:Value} {ok:Prop} (hs:eH P TB f own args post hH) (h1:∀ o r,¬ post o r) (h2:∀ v,hH v → v = pv ∧ ok):gJ P TB f own args pv ok :=
 hs.mono (fun o r hp=>(h1 o r hp).elim) h2
def IsP {ρ π:Type} (r:ρ ⊕ π) (own:ρ → List (Nat × OC)) (res:ρ → SV):dQ:=fun o z=>∃ x,r = .inl x ∧ o = own x ∧ z = res x
def HC {ρ π:Type} (r:ρ ⊕ π) (pv:π → Value) (ok:π → Prop):Value → Prop:=fun v=>∃ p,r = .inr p ∧ v = pv p ∧ ok p
theorem eH.spec {P:Program} {TB:aF} {f:FuncId} {own:List (Nat × OC)} {args:List BV} {ρ π:Type} {x:ρ} {o:ρ → List (Nat × OC)} {res:ρ → SV} {pv:π → Value} {ok:π → Prop} (hs:eH P TB f own args (IsP (.inl x:ρ ⊕ π) o res) (HC (.inl x:ρ ⊕ π) pv ok)):aG P TB f own args (Is (o x) (res x)) :=
 hs.ret (fun o r ⟨y,e,h1,h2⟩=>by cases e; exact ⟨h1,h2⟩) (fun v ⟨p,e,_⟩=>by cases e)
theorem eH.Ge {P:Program} {TB:aF} {f:FuncId} {own:List (Nat × OC)} {args:List BV} {ρ π:Type} {p:π} {o:ρ → List (Nat × OC)} {res:ρ → SV} {pv:π → Value} {ok:π → Prop} (hs:eH P TB f own args (IsP (.inr p:ρ ⊕ π) o res) (HC (.inr p:ρ ⊕ π) pv ok)):gJ P TB f own args (pv p) (ok p) :=
 hs.hH (fun o r ⟨y,e,_⟩=>by cases e) (fun v ⟨q,e,h⟩=>by cases e; exact h)
def CP.yy (T:TypeId) (ps:List CP):CP:=⟨fun h v=>∃ cs,v = .iface T (.agg cs) ∧ aA h ps cs.toList,fun hl ⟨cs,e,h⟩=>⟨cs,e,aA.mono hl h⟩,fun ⟨cs,e,_⟩=>by rw [e]; rfl⟩
theorem Jz {h:PH} {k1 k2:IntKind} {a b:Int} {cs:Array Value} (hc:aA h [.int k1 a,.int k2 b] cs.toList):cs = #[.int k1 a,.int k2 b] ∧ kX k1 a ∧ kX k2 b:=by
 obtain ⟨l⟩:=cs
 cases hc with
 | cons h1 h2=>
  cases h2 with
  | cons h3 h4=>
   cases h4
   obtain ⟨rfl,e1⟩:=h1
   obtain ⟨rfl,e2⟩:=h3
   exact ⟨rfl,e1,e2⟩
section
variable {P:Program} {TB:aF} {E:Env TB} {n:Sh} {s s':St} {dst:Option Nat} {t ty yt:TypeId} {pos:String} {after:Array Edge} {g:Option (Nat × Bool)} {x y c:Operand} {ops:Array Oper} {l:List Oper} {Q:bF} {cd:Code}
theorem Fin.EY {fn:Func} {post:dQ} {hH:Value → Prop} {e:Exit} (he:e = .ret ∨ e = .normal) (h:Fin E n e s (yP P fn E n post)):Fin E n e s (HB P fn E n post hH):=by
 rcases he with rfl | rfl <;> exact fun a w hr=>h a w hr
theorem Fin.qb {fn:Func} {post:dQ} {hH:Value → Prop} {pv:Value} (hp:hH pv):Fin E n (.panic (Df pv)) s (HB P fn E n post hH) :=
 fun a w ⟨h1,h2,h,ρ,hw,hs⟩=>⟨h1,pv,rfl,hp,h,ρ,hw.sub fun p hp=>by simp at hp⟩
theorem Fin.bx {K:Act → World → Prop} {ch:List PanicEntry} (h:Fin E n (.panic ch) s Q):Fin E n (.panic ch) s (Exit.then K Q):=fun a w hr=>h a w hr
theorem Fin.bY {id:Nat} {ch:List PanicEntry} (h:Fin E n (.panic ch) s Q):Fin E n (.panic ch) s (Exit.inBlock id Q):=fun a w hr=>h a w hr
theorem wm {T:TypeId} {ps:List CP} (hc:P.concrete T = true) (hx:s.ev x = some (.b (.agg ps))):aR P E n ⟨dst,.makeInterface T x,ty,pos,after,g⟩ s (s.put n dst (.b (.one (.yy T ps)))) :=
 aR.val (o:=⟨dst,.makeInterface T x,ty,pos,after,g⟩) fun ac w h ρ hw hs=>by
  obtain ⟨cs,hv,hr⟩:=(aC hs hx:BV.rel h ρ (.agg ps) _)
  refine ⟨.iface T (ac.eval x),?_,cs,by rw [hv],hr⟩
  show (do let v ← Instr.makeInterface T (ac.eval x); pure (Next.value v):Sem Next).run P w = _
  rw [Sem.run_bind,run_makeInterface _ _ _ hc]
  rfl
theorem aj.panic2 {T:TypeId} {k1 k2:IntKind} {a b:Int} {dst:Option Nat} (hx:s.ev x = some (.b (.one (.yy T [.int k1 a,.int k2 b])))) (h:kX k1 a ∧ kX k2 b → Fin E n (.panic (Df (.iface T (.agg #[.int k1 a,.int k2 b])))) s Q):aj P E n ops (⟨dst,.panic x,ty,pos,after,none⟩ :: l) s Q:=by
 intro ac w hr
 unfold yx
 have:∀ tmps,Region.wanted ⟨dst,.panic x,ty,pos,after,none⟩ (yielded ops tmps) = true:=fun _=>rfl
 simp only [this,if_true]
 have hr0:=hr
 obtain ⟨_,_,h1,ρ,hw,hs⟩:=hr
 obtain ⟨cs,e,hc⟩:=(aC hs hx:(CP.yy _ _).rel h1 _)
 obtain ⟨e2,h2⟩:=Jz hc
 unfold Oper.wp
 have hrun:(execOp ac.eval ⟨dst,.panic x,ty,pos,after,none⟩).run P w = .halt (.panic (.iface T (.agg #[.int k1 a,.int k2 b]))) w:=by
  show (do let v ← Instr.panic (ac.eval x); pure (Next.value v):Sem Next).run P w = _
  rw [e,e2]
  rfl
 rw [hrun]
 exact h h2 ac w hr0
theorem vQ {o:Oper} {f:FuncId} {own_a:List (Nat × OC)} {args:List BV} {pv:Value} {ok:Prop} (hspec:gJ P TB f own_a args pv ok)
  (hrun:∀ (a:Act) (w:World) (h:PH) (ρ:RM),WR E n s.own h ρ w → bp h ρ s.slots a.tmps → ∃ vals:List Value,(execOp a.eval o).run P w = .ok (.enter f vals.toArray) w ∧ aQ (fun (x:BV) v=>x.rel h ρ v) args vals)
  (hl:fE s.own own_a) {a:Act} {w:World} (hr:R E n s a w) {next:Act → World → Prop} {Q:bF}
  (hq:ok → Fin E n (.panic (Df pv)) ⟨s.slots,dv own_a s.own⟩ Q):o.wp P a w next Q:=by
 obtain ⟨hdf,hn,h,ρ,hw,hs⟩:=hr
 obtain ⟨vals,hr0,hra⟩:=hrun a w h ρ hw hs
 unfold Oper.wp
 rw [hr0]
 show Calls P f _ w _
 have hla:=kN hl
 refine (hspec w h ρ _ hw.aw hw.agree (tu hw hla (jA hl)) hra).mono ?_
 rintro e w' (⟨v,own',res,h',ρ',_,hp,_⟩ | ⟨pv',rfl,⟨rfl,hok⟩,h',ρ',hc⟩)
 ·exact hp.elim
 ·have hwc:=hw.call hla hc (by rfl) (by simp [hJ,ai])
  refine hq hok a w' ⟨hdf,hn,h',_,hwc,fun k x hx=>?_⟩
  obtain ⟨u,hu,hrel⟩:=hs k x hx
  exact ⟨u,hu,SV.mono hc.le (fun j hj=>j4 (by simp [ai])) hrel⟩
theorem aj.tA {f:FuncId} {own_a:List (Nat × OC)} {args:List BV} {xs:Array Operand} {ats:Array TypeId} {pv:Value} {ok:Prop} (hspec:gJ P TB f own_a args pv ok) (hf:dw P f) (ha:gI s xs.toList = some args) (hl:fE s.own own_a)
  (hq:ok → Fin E n (.panic (Df pv)) ⟨s.slots,dv own_a s.own⟩ Q):aj P E n ops (⟨dst,.call ⟨.value (.func f),xs,ats⟩,ty,pos,after,none⟩ :: l) s Q:=by
 intro a w hr
 unfold yx
 have:∀ tmps,Region.wanted ⟨dst,.call ⟨.value (.func f),xs,ats⟩,ty,pos,after,none⟩ (yielded ops tmps) = true:=fun _=>rfl
 simp only [this,if_true]
 exact vQ hspec (fun a w h ρ hw hs=>⟨_,qB hf a w,mE hs ha⟩) hl hr hq
theorem aj.wa {f:FuncId} {fs cs:List CV} {own_a:List (Nat × OC)} {args zs:List BV} {xs:Array Operand} {ats:Array TypeId} {pv:Value} {ok:Prop} (hspec:gJ P TB f own_a args pv ok) (hf:dw P f) (hx:s.ev x = some (.b (.cD f fs cs))) (ha:gI s xs.toList = some zs)
  (hz:fs.map CV.bv ++ zs ++ cs.map CV.bv = args) (hl:fE s.own own_a)
  (hq:ok → Fin E n (.panic (Df pv)) ⟨s.slots,dv own_a s.own⟩ Q):aj P E n ops (⟨dst,.call ⟨.value x,xs,ats⟩,ty,pos,after,none⟩ :: l) s Q:=by
 intro a w hr
 unfold yx
 have:∀ tmps,Region.wanted ⟨dst,.call ⟨.value x,xs,ats⟩,ty,pos,after,none⟩ (yielded ops tmps) = true:=fun _=>rfl
 simp only [this,if_true]
 refine vQ hspec (fun a w h ρ hw hs=>?_) hl hr hq
 obtain ⟨va,vb,hv,h1,h2⟩:=(aC hs hx:BV.rel h ρ (.cD f fs cs) _)
 refine ⟨va.toList ++ xs.toList.map a.eval ++ vb.toList,?_,?_⟩
 ·have e1:execOp a.eval ⟨dst,.call ⟨.value x,xs,ats⟩,ty,pos,after,none⟩ = (do let d ← Deferred.ofValue (a.eval x) (xs.map a.eval); invoke d.target d.args):=rfl
  rw [e1,hv]
  have e2:(do let d ← Deferred.ofValue (.func (.func f) va vb) (xs.map a.eval); invoke d.target d.args:Sem Next) = callFunc f (va ++ xs.map a.eval ++ vb):=rfl
  rw [e2,hf.run]
  congr 2
  apply Array.ext'
  simp
 ·rw [← hz]
  exact kP (kP (CV.bvL h1) (mE hs ha)) (CV.bvL h2)
end
@[reducible] def bC {π ρ γ:Type} (g:π → γ) (f:ρ → γ) (z:ρ ⊕ π):γ:=match z with | .inl x=>f x | .inr y=>g y
theorem Gt {π ρ γ:Type} {g:π → Option γ} {f:ρ → Option γ} {o:ρ ⊕ π} {r:γ} {C:Prop} (h:bC g f o = some r) (hp:∀ p,o = .inr p → g p = some r → C) (hz:∀ z,o = .inl z → f z = some r → C):C:=by
 cases o with
 | inl z=>exact hz z rfl h
 | inr p=>exact hp p rfl h
section
variable {P:Program} {TB:aF} {E:Env TB} {n:Sh} {s s':St} {dst:Option Nat} {t ty yt:TypeId} {pos:String} {after:Array Edge} {g:Option (Nat × Bool)} {x y c:Operand}
theorem FJ {u v:Str} (hx:s.ev x = some (.b (.one (.str u)))) (hy:s.ev y = some (.b (.one (.str v)))):aR P E n ⟨dst,.binOp .lss t x y yt,ty,pos,after,g⟩ s (s.put n dst (B (Op.bytesLess u v))) :=
 aR.val (o:=⟨dst,.binOp .lss t x y yt,ty,pos,after,g⟩) fun ac w h ρ hw hs=>by
  refine ⟨.bool (Op.bytesLess u v),?_,rfl⟩
  simp only [execOp,(la hs hx).1,(la hs hy).1]
  simp [eqGuard,binOp,Op.stringOp,xm]
theorem Js {gb:Nat} {cs:List Value} {ps:List CP} {h:PH} {ρ:RM} {own:List (Nat × OC)} {w:World} (hw:WR E n own h ρ w) (hm:(gb,cs) ∈ TB) (hr:∀ h,aA h ps cs):BV.rel h ρ (.jY ps) (.pointer (some ⟨gb,0,none⟩)):=by
 refine ⟨gb,0,rfl,fun j c hc=>?_⟩
 obtain ⟨u,hu,hrel⟩:=(hr h).get j c hc
 exact ⟨u,by rw [Nat.zero_add]; exact (hw.aw gb cs hm).2.1 j u hu,hrel⟩
theorem Ai {α:Type} {gb:Nat} {cs:List Value} {e:TypeId} {m:Nat} {ps:List CP} {xs:List α} {enc:α → List CP} (hm':(gb,cs) ∈ TB) (hr':∀ h,aA h ps cs) (ht:k7 P t e m 1) (hp:ps = (xs.map enc).flatten) (hl:xs.length = m) (he:∀ z,(enc z).length = 1) (hm:m ≤ maxLen) :
  aR P E n ⟨dst,.slice t (.global gb) none none none,ty,pos,after,g⟩ s (s.put n dst (.b (.one (.sl 1 (xs.map enc))))) :=
 aR.val (o:=⟨dst,.slice t (.global gb) none none none,ty,pos,after,g⟩) fun ac w h ρ hw hs=>by
  obtain ⟨b,o,hv,hr⟩:=Js hw hm' hr'
  obtain ⟨i,hi,hsz⟩:=ht.info
  have e1:P.arrayLen t = m:=by simp [Program.arrayLen,ht.und]
  have e2:P.elem t = e:=by simp [Program.elem,ht.und]
  have hu:P.underlying t = some (.array (P.arrayLen t) (P.elem t)):=by rw [e1,e2]; exact ht.und
  refine ⟨.slice (some ⟨b,o,none⟩) m m,?_,?_⟩
  ·simp only [execOp,show ac.eval (.global gb) = .pointer (some ⟨gb,0,none⟩) from rfl,hv,Option.map_none]
   rw [Sem.run_bind,run_sliceAt_array_all w t _ hu,e2,run_sizeOf hi,Result.andThen]
   simp [slicedAt,e1,iJ]
  ·refine ⟨fun qs hq=>?_,Nat.one_pos,.inr (.inl ⟨b,o,m,?_,?_,hm,hp ▸ hr⟩)⟩
   ·obtain ⟨z,_,rfl⟩:=List.mem_map.1 hq
    exact he z
   ·rw [List.length_map,hl]
   ·rw [List.length_map,hl]; exact Nat.le_refl _
theorem pM {gb:Nat} {cs:List Value} {e:TypeId} {m size:Nat} {ps qs:List CP} {k:IntKind} {i:Int} (hm':(gb,cs) ∈ TB) (hr':∀ h,aA h ps cs) (ht:k7 P t e m size) (h0:0 ≤ i) (h1:i < m) (hy:s.ev y = some (.b (.one (.int k i)))) (hq:(ps.drop (i.toNat * size)).take size = qs) :
  aR P E n ⟨dst,.indexAddr t (.global gb) y,ty,pos,after,g⟩ s (s.put n dst (.b (.jY qs))) :=
 aR.val (o:=⟨dst,.indexAddr t (.global gb) y,ty,pos,after,g⟩) fun ac w h ρ hw hs=>by
  obtain ⟨b,o,hv,hr⟩:=Js hw hm' hr'
  obtain ⟨inf,hi,hsz⟩:=ht.info
  refine ⟨.pointer (some ⟨b,o + i.toNat * size,none⟩),?_,b,o + i.toNat * size,rfl,?_⟩
  ·simp only [execOp,show ac.eval (.global gb) = .pointer (some ⟨gb,0,none⟩) from rfl,hv,(bG hs hy).1]
   simp [nJ ht.und hi hsz w b o k i h0 h1]
  ·rw [← hq]; exact (hr.drop _).take _
def AW (l:List Str):List Value:=l.map fun s=>Value.string ⟨⟨s⟩⟩
theorem zK (h:PH):∀ {l:List Str},l.all (fun s=>decide (s.length ≤ maxLen)) = true → aA h (l.map eS).flatten (AW l)
 | [],_=>.nil
 | x :: l,ok=>by
  simp only [List.all_cons,Bool.and_eq_true,decide_eq_true_eq] at ok
  exact .cons ⟨rfl,ok.1⟩ (zK h ok.2)
end
end Go.Sk
namespace Go.Sk
set_option linter.unusedSimpArgs false
set_option linter.unusedVariables false
open Go Go.BigFrame
def CP.never:CP:=⟨fun _ _=>False,fun _ x=>x,fun x=>x.elim⟩
def St.never:St:=⟨[(0,.b (.one .never))],[]⟩
def zB (P:Program) {TB:aF} (E:Env TB) (n:Sh) (Q:bF) (ops:Array Oper) (o:Oper) (s s':St):Prop :=
 ∀ a w,R E n s a w → ∀ (K:Act → World → Prop),(∀ a' w',R E n s' a' w' → K a' w') → if Region.wanted o (yielded ops a.tmps) then o.wp P a w K Q else K (a.put o.dst undef) w
def zy (P:Program) {TB:aF} (E:Env TB) (n:Sh) (Q:bF) (ops:Array Oper):List Oper → St → St → Prop
 | [],s,s'=>s = s'
 | o :: r,s,s'=>∃ s1,zB P E n Q ops o s s1 ∧ zy P E n Q ops r s1 s'
section
variable {P:Program} {TB:aF} {E:Env TB} {n:Sh} {s s' s2:St} {l:List Oper} {L:List Oper} {Q:bF} {o:Oper}
theorem Fin.never {e:Exit}:Fin E n e St.never Q:=fun a w hr=>by
 obtain ⟨_,_,h,ρ,_,hs⟩:=hr
 obtain ⟨v,_,hf⟩:=hs 0 _ List.mem_cons_self
 exact hf.elim
theorem zB.of {ops:Array Oper} {o:Oper} (h:b6 P E n ops o s s'):zB P E n Q ops o s s':=fun a w hr K hk=>h a w hr K Q hk
theorem zB.hH {ops:Array Oper} {f:FuncId} {own_a:List (Nat × OC)} {args:List BV} {xs:Array Operand} {ats:Array TypeId} {pv:Value} {ok:Prop} {dst:Option Nat} {ty:TypeId} {pos:String} {after:Array Edge} (hspec:gJ P TB f own_a args pv ok) (hf:dw P f) (ha:gI s xs.toList = some args) (hl:fE s.own own_a)
  (hq:ok → Fin E n (.panic (Df pv)) ⟨s.slots,dv own_a s.own⟩ Q):zB P E n Q ops ⟨dst,.call ⟨.value (.func f),xs,ats⟩,ty,pos,after,none⟩ s St.never:=by
 intro a w hr K hk
 have:Region.wanted ⟨dst,.call ⟨.value (.func f),xs,ats⟩,ty,pos,after,none⟩ (yielded ops a.tmps) = true:=rfl
 simp only [this,if_true]
 exact vQ hspec (fun a w h ρ hw hs=>⟨_,qB hf a w,mE hs ha⟩) hl hr hq
def InvXQ (P:Program) {TB:aF} (E:Env TB) (n:Sh) (Q:bF) (ops:Array Oper) (s:St) (l tl:List Oper) (Fs:List SV) (s2:St) (listed:Array Bool) (a:Act) (w:World):Prop :=
 ((∀ j,l.length ≤ j → listed.getD j false = false) ∧ R E n (Ic s l Fs listed) a w) ∨
 ∃ k sk,k < tl.length ∧ (∀ j,j ≤ l.length + k → listed.getD j false = true) ∧ (∀ j,l.length + k < j → listed.getD j false = false) ∧ zy P E n Q ops (tl.drop (k + 1)) sk s2 ∧ R E n sk a w
theorem uN.XQ {ops:List Oper} (l tl:List Oper) (hops:l ++ tl = ops) (Fs:List SV) (ks kos:List Nat) (hok:okX l tl n.n = true) (hst:q4 P E n ops.toArray s l Fs 0 l Fs)
  (htl:zy P E n Q ops.toArray tl ⟨(s.slots.filter fun p=>!(jK l).contains p.1) ++ aY (fun _=>true) 0 l Fs,s.own⟩ s2) (hs:s2.keep ks kos = s') (h:Fin E n .normal s' Q):uN P E n ops.toArray s Q:=by
 subst hops
 simp only [okX,Bool.and_eq_true,List.all_eq_true,List.mem_range] at hok
 obtain ⟨⟨⟨hedges,hnd⟩,hlt⟩,hcov⟩:=hok
 obtain ⟨hlen,hsteps⟩:=uX (Fs:=Fs) hst
 intro a w hr
 have hgetl:∀ {i:Nat} {o:Oper},(l ++ tl)[i]? = some o → i < l.length → l[i]? = some o:=fun h hi=>by rwa [List.getElem?_append_left hi] at h
 have hS0:∀ {listed:Array Bool} {a:Act} {w:World},(∀ j,j < l.length → listed.getD j false = true) → R E n (Ic s l Fs listed) a w → R E n ⟨(s.slots.filter fun p=>!(jK l).contains p.1) ++ aY (fun _=>true) 0 l Fs,s.own⟩ a w:=by
  intro listed a w hall hR
  obtain ⟨h1,h2,h,ρ,hw,hs⟩:=hR
  refine ⟨h1,h2,h,ρ,hw,fun k x hx=>hs k x ?_⟩
  simp only [Ic,List.mem_append] at hx ⊢
  rcases hx with hx | hx
  ·left
   simp only [List.mem_filter,Bool.not_eq_true',List.contains_eq_mem,decide_eq_false_iff_not] at hx ⊢
   refine ⟨hx.1,?_⟩
   cases hh:hit l listed k with
   | false=>rfl
   | true=>
    exfalso
    simp only [hit,List.any_eq_true,List.mem_range,Bool.and_eq_true,beq_iff_eq,Option.bind_eq_some_iff] at hh
    obtain ⟨i,hi,_,o',ho',hd'⟩:=hh
    exact hx.2 (mQ ho' hd')
  ·right
   rw [bR] at hx ⊢
   obtain ⟨j,oj,hj,hd,hF,_⟩:=hx
   exact ⟨j,oj,hj,hd,hF,by rw [Nat.zero_add]; exact hall j (List.getElem?_eq_some_iff.1 hj).1⟩
 refine anyG (L:=l ++ tl) (InvXQ P E n Q (l ++ tl).toArray s l tl Fs s2) hedges ?_ ?_ _ _ _ _ (by simp) ?_ (by simp) (.inl ⟨fun j hj=>?_,?_⟩)
 ·
  intro listed a w i o hsz hcl hio hil hdeps hInv K hK
  have hin:i < (l ++ tl).length:=(List.getElem?_eq_some_iff.1 hio).1
  have his:i < listed.size:=by omega
  have hset:∀ q,listed.getD q false = true → (listed.setIfInBounds i true).getD q false = true:=fun q hq=>by
   by_cases e:q = i
   ·subst e; simp [Array.getD_eq_getD_getElem?,his]
   ·rw [getD_set_ne false (fun h=>e h.symm)]; exact hq
  have hseti:(listed.setIfInBounds i true).getD i false = true:=by simp [Array.getD_eq_getD_getElem?,his]
  by_cases hi:i < l.length
  ·
   have hInv':(∀ j,l.length ≤ j → listed.getD j false = false) ∧ R E n (Ic s l Fs listed) a w:=by
    rcases hInv with h | ⟨k,sk,hk,hyes,_⟩
    ·exact h
    ·have:=hyes i (by omega); rw [hil] at this; simp at this
   obtain ⟨hno,hR⟩:=hInv'
   have hol:=hgetl hio hi
   obtain ⟨x,hx,hstep⟩:=hsteps i o hol
   rw [Nat.zero_add] at hstep
   have hnohit:∀ p,p ∈ kz l i s.slots → p ∈ s.slots ∧ hit l listed p.1 = false:=by
    intro p hp
    simp only [kz,List.mem_filter,List.all_eq_true,List.mem_range,Bool.or_eq_true,bne_iff_ne,beq_iff_eq] at hp
    refine ⟨hp.1,?_⟩
    cases hh:hit l listed p.1 with
    | false=>rfl
    | true=>
     exfalso
     simp only [hit,List.any_eq_true,List.mem_range,Bool.and_eq_true,beq_iff_eq] at hh
     obtain ⟨q,hq,hlq,hdq⟩:=hh
     rcases hp.2 q hq with (h | h) | h
     ·exact h hdq
     ·subst h; rw [hil] at hlq; simp at hlq
     ·obtain ⟨o',ho',e,he,hb,hon⟩:=tI h
      have:=hcl q o' (by rw [List.getElem?_append_left hq]; exact ho') hlq e he hb
      rw [hon,hil] at this; simp at this
   have hR2:R E n ⟨eJ l Fs o.after.toList ++ (kz l i s.slots ++ ((s.slots.filter fun p=>!hit l listed p.1) ++ aY (fun i=>listed.getD i false) 0 l Fs)),s.own⟩ a w:=by
    obtain ⟨h1,h2,h,ρ,hw,hs⟩:=hR
    refine ⟨h1,h2,h,ρ,hw,fun k y hy=>hs k y ?_⟩
    rcases List.mem_append.1 hy with hy | hy
    ·obtain ⟨e,he,hb,o',ho',hd',hF'⟩:=rq hy
     refine List.mem_append.2 (.inr ?_)
     rw [bR]
     exact ⟨e.on,o',ho',hd',hF',by rw [Nat.zero_add]; exact hdeps e (by simpa using he) hb⟩
    ·rcases List.mem_append.1 hy with hy | hy
     ·obtain ⟨h1,h2⟩:=hnohit _ hy
      exact List.mem_append.2 (.inl (List.mem_filter.2 ⟨h1,by simp [h2]⟩))
     ·exact hy
   refine hstep _ a w hR2 K Q (fun a' w' hR'=>hK a' w' (.inl ⟨fun j hj=>?_,?_⟩))
   ·rw [getD_set_ne false (by omega)]; exact hno j hj
   ·obtain ⟨h1,h2,h,ρ,hw,hs⟩:=hR'
    have hown:∀ sl,(St.put n o.dst x ⟨sl,s.own⟩).own = s.own:=fun sl=>by
     cases hd:o.dst with
     | none=>rfl
     | some d=>simp only [St.put,St.set]; split <;> rfl
    rw [hown] at hw
    refine ⟨h1,h2,h,ρ,hw,fun k y hy=>?_⟩
    have hold:(k,y) ∈ (s.slots.filter fun p=>!hit l listed p.1) ++ aY (fun i=>listed.getD i false) 0 l Fs → (∀ d,o.dst = some d → k ≠ d) → ∃ v,a'.tmps[k]? = some v ∧ y.rel h ρ v:=by
     intro hm hkd
     refine hs k y ?_
     have hm':(k,y) ∈ eJ l Fs o.after.toList ++ (kz l i s.slots ++ ((s.slots.filter fun p=>!hit l listed p.1) ++ aY (fun i=>listed.getD i false) 0 l Fs)):=List.mem_append.2 (.inr (List.mem_append.2 (.inr hm)))
     cases hd:o.dst with
     | none=>simp only [St.put]; exact hm'
     | some d=>
      simp only [St.put,St.set]
      split
      ·exact List.mem_cons_of_mem _ (cV hm' (hkd d hd))
      ·exact hm'
    simp only [Ic] at hy
    rcases List.mem_append.1 hy with hy | hy
    ·obtain ⟨hy1,hy2⟩:=List.mem_filter.1 hy
     have hy2':hit l (listed.setIfInBounds i true) k = false:=by simpa using hy2
     refine hold (List.mem_append.2 (.inl (List.mem_filter.2 ⟨hy1,?_⟩))) (fun d hd e=>?_)
     ·cases hh:hit l listed k with
      | false=>rfl
      | true=>
       exfalso
       simp only [hit,List.any_eq_true,List.mem_range,Bool.and_eq_true,beq_iff_eq] at hh
       obtain ⟨q,hq,hlq,hdq⟩:=hh
       have:hit l (listed.setIfInBounds i true) k = true:=by
        simp only [hit,List.any_eq_true,List.mem_range,Bool.and_eq_true,beq_iff_eq]
        exact ⟨q,hq,hset q hlq,hdq⟩
       rw [hy2'] at this; simp at this
     ·subst e
      have:hit l (listed.setIfInBounds i true) k = true:=by
       simp only [hit,List.any_eq_true,List.mem_range,Bool.and_eq_true,beq_iff_eq]
       exact ⟨i,hi,hseti,by rw [hol]; exact hd⟩
      rw [hy2'] at this; simp at this
    ·rw [bR] at hy
     obtain ⟨j,oj,hj,hd',hF',hl'⟩:=hy
     rw [Nat.zero_add] at hl'
     by_cases hji:j = i
     ·subst hji
      rw [hol] at hj; cases hj
      rw [hx] at hF'; cases hF'
      refine hs k y ?_
      have hk:k < n.n:=by
       have:=hlt k (mQ hol hd')
       simpa using this
      simp only [hd',St.put,St.set,hk,if_true]
      exact List.mem_cons_self
     ·have hl2:listed.getD j false = true:=by
       rw [getD_set_ne false (fun e=>hji e.symm)] at hl'
       exact hl'
      refine hold (List.mem_append.2 (.inr ?_)) (fun d hd e=>?_)
      ·rw [bR]
       exact ⟨j,oj,hj,hd',hF',by rw [Nat.zero_add]; exact hl2⟩
      ·subst e
       exact hji (vX hnd hj hol hd' hd)
  ·
   have hit':i - l.length < tl.length:=by simp only [List.length_append] at hin; omega
   have hcv:=covered hcl hio hdeps (by have:=hcov (i - l.length) hit'; rwa [show l.length + (i - l.length) = i by omega] at this)
   have hoi:tl[i - l.length]? = some o:=by rwa [List.getElem?_append_right (by omega)] at hio
   rcases hInv with ⟨hno,hR⟩ | ⟨k,sk,hk,hyes,hno,hT,hR⟩
   ·have ei:i = l.length:=by
     rcases Nat.lt_or_ge l.length i with h | h
     ·have:=hcv l.length h; rw [hno _ (Nat.le_refl _)] at this; simp at this
     ·omega
    have hR0:=hS0 (fun j hj=>hcv j (by omega)) hR
    rw [show i - l.length = 0 by omega] at hoi
    have h0:0 < tl.length:=by omega
    have hdr:tl.drop 0 = o :: tl.drop (0 + 1):=by
     rw [List.drop_eq_getElem_cons h0]
     congr 1
     rw [List.getElem?_eq_getElem h0] at hoi
     simpa using hoi
    have hT:zy P E n Q (l ++ tl).toArray (tl.drop 0) ⟨(s.slots.filter fun p=>!(jK l).contains p.1) ++ aY (fun _=>true) 0 l Fs,s.own⟩ s2:=by rw [List.drop_zero]; exact htl
    rw [hdr] at hT
    obtain ⟨s1,hs1,hr1⟩:=hT
    refine hs1 a w hR0 K (fun a' w' hR'=>hK a' w' (.inr ⟨0,s1,h0,fun j hj=>?_,fun j hj=>?_,hr1,hR'⟩))
    ·by_cases e:j = i
     ·subst e; exact hseti
     ·exact hset j (hcv j (by omega))
    ·rw [getD_set_ne false (by omega)]; exact hno j (by omega)
   ·have ei:i = l.length + (k + 1):=by
     rcases Nat.lt_or_ge (l.length + (k + 1)) i with h | h
     ·have:=hcv _ h; rw [hno _ (by omega)] at this; simp at this
     ·rcases Nat.lt_or_ge i (l.length + (k + 1)) with h' | h'
      ·have:=hyes i (by omega); rw [hil] at this; simp at this
      ·omega
    rw [show i - l.length = k + 1 by omega] at hoi
    have hdr:tl.drop (k + 1) = o :: tl.drop (k + 1 + 1):=by
     have hlt2:k + 1 < tl.length:=by omega
     rw [List.drop_eq_getElem_cons hlt2]
     congr 1
     rw [List.getElem?_eq_getElem hlt2] at hoi
     simpa using hoi
    rw [hdr] at hT
    obtain ⟨s1,hs1,hr1⟩:=hT
    refine hs1 a w hR K (fun a' w' hR'=>hK a' w' (.inr ⟨k + 1,s1,by omega,fun j hj=>?_,fun j hj=>?_,hr1,hR'⟩))
    ·by_cases e:j = i
     ·subst e; exact hseti
     ·exact hset j (hyes j (by omega))
    ·rw [getD_set_ne false (by omega)]; exact hno j (by omega)
 ·
  intro listed a w hsz hall hInv
  rcases hInv with ⟨hno,hR⟩ | ⟨k,sk,hk,hyes,hno,hT,hR⟩
  ·have e:tl = []:=by
    cases htl':tl with
    | nil=>rfl
    | cons o0 r=>
     have:=hall l.length (by rw [htl']; simp)
     rw [hno _ (Nat.le_refl _)] at this; simp at this
   subst e
   have hR0:=hS0 (fun j hj=>hall j (by simpa using hj)) hR
   have e2:_ = s2:=htl
   rw [e2] at hR0
   exact h a w (hs ▸ hR0.keep ks kos)
  ·have e:k + 1 = tl.length:=by
    rcases Nat.lt_or_ge (k + 1) tl.length with h' | h'
    ·have:=hall (l.length + (k + 1)) (by simp only [List.length_append]; omega)
     rw [hno _ (by omega)] at this; simp at this
    ·omega
   rw [e,List.drop_length] at hT
   have e2:sk = s2:=hT
   subst e2
   exact h a w (hs ▸ hR.keep ks kos)
 ·intro i p hi hl
  exfalso
  simp only [Array.getD_eq_getD_getElem?,Array.getElem?_replicate] at hl
  split at hl <;> simp at hl
 ·simp only [Array.getD_eq_getD_getElem?,Array.getElem?_replicate]
  split <;> simp
 ·obtain ⟨h1,h2,h,ρ,hw,hsl⟩:=hr.drawn
  refine ⟨h1,h2,h,ρ,hw,fun k x hx=>hsl k x ?_⟩
  simp only [Ic] at hx
  rcases List.mem_append.1 hx with hx | hx
  ·exact (List.mem_filter.1 hx).1
  ·rw [bR] at hx
   obtain ⟨j,o,hj,_,_,hl⟩:=hx
   simp only [Nat.zero_add,Array.getD_eq_getD_getElem?,Array.getElem?_replicate] at hl
   split at hl <;> simp at hl
theorem ah.regionP {rid:Nat} {ops:List Oper} (hm:P.follows .mixedOrders = true) (m:Nat) (Fs:List SV) (hok:okX (ops.take m) (ops.drop m) n.n = true) (hst:q4 P E n ops.toArray s (ops.take m) Fs 0 (ops.take m) Fs)
  (htl:zy P E n Q ops.toArray (ops.drop m) ⟨(s.slots.filter fun p=>!(jK (ops.take m)).contains p.1) ++ aY (fun _=>true) 0 (ops.take m) Fs,s.own⟩ St.never):ah P E n (.region rid ops.toArray true) s Q :=
 ah.ofA hm (uN.XQ _ _ (List.take_append_drop m ops) Fs [0] [] hok hst htl (s':=St.never) rfl Fin.never)
theorem pL {t e:TypeId} {m:Nat} {zs:List BV} {z:BV} {k:IntKind} {i:Int} {q:Nat} {x y:Operand} {dst:Option Nat} {ty:TypeId} {pos:String} {after:Array Edge} {g:Option (Nat × Bool)} (ht:k7 P t e m 1) (ho:cS P e) (hi:i = (q:Int)) (hq:q < m) (hx:s.ev x = some (.jX zs)) (hy:s.ev y = some (.b (.one (.int k i)))) (hz:zs[q]? = some z) :
  aR P E n ⟨dst,.index t x y,ty,pos,after,g⟩ s (s.put n dst (.b z)) :=
 aR.val (o:=⟨dst,.index t x y,ty,pos,after,g⟩) fun ac w h ρ hw hs=>by
  obtain ⟨cs,hv,ha⟩:=(aC hs hx:SV.rel h ρ (.jX zs) _)
  have hz':=ha.get q z hz
  obtain ⟨u,hu,hr⟩:=hz'
  subst hi
  have hcu:cs[(q:Int).toNat * 1]? = some u:=by rw [Nat.mul_one]; simpa using hu
  obtain ⟨inf,hin,hsz⟩:=ht.info
  refine ⟨u,?_,hr.1⟩
  have hpt:=jv ho (A:=cs) (off:=(q:Int).toNat * 1) (v:=u) hcu w
  have h0:(0:Int) ≤ (q:Int):=by omega
  have hi:(q:Int) < m:=by omega
  simp only [execOp,hv,(bG hs hy).1]
  simp [Instr.index,run_underlying ht.und,asIntOf,h0,hi,hq,sizeOf,typeInfo,hin,hsz] at hpt ⊢
  simp [hpt]
end
end Go.Sk
namespace Go.Sk
set_option linter.unusedSimpArgs false
set_option linter.unusedVariables false
open Go Go.BigFrame
theorem zN {P:Program} {TB:aF} {E:Env TB} {n:Sh} {s:St} {dst:Option Nat} {ty:TypeId} {pos:String} {after:Array Edge} {g:Option (Nat × Bool)} {f:FuncId} {own_a own':List (Nat × OC)} {args:List BV} {xs:Array Operand} {ats:Array TypeId} {z:BV} (hspec:aG P TB f own_a args (Is own' (.b z))) (hf:dw P f) (ha:gI s xs.toList = some args) (hl:fE s.own own_a)
  (hok:gD n own_a own' = true) (hki:(SV.b z).bm own' = true) (hcl:hJ s.own own_a own' = true) (hsl:jm own_a own' s.slots = s.slots) (hown:rQ (ai s.own) (bL own' (dv own_a s.own)) = s.own):aR P E n ⟨dst,.call ⟨.value (.func f),xs,ats⟩,ty,pos,after,g⟩ s (s.put n dst (.b z)):=by
 have h:=dx (ats:=ats) (E:=E) (n:=n) (dst:=dst) (ty:=ty) (pos:=pos) (after:=after) (g:=g) hspec hf ha hl hok hki hcl
 unfold St.aft at h
 rw [hsl] at h
 refine h.Hr (ai s.own) ?_
 have e2:∀ (O:List (Nat × OC)),((⟨s.slots,O⟩:St).put n dst (.b z)).own = O:=fun O=>by
  unfold St.put; split
  ·unfold St.set; split <;> rfl
  ·rfl
 have e3:∀ (O:List (Nat × OC)),(⟨((⟨s.slots,O⟩:St).put n dst (.b z)).slots,s.own⟩:St) = s.put n dst (.b z):=fun O=>by
  unfold St.put; split
  ·unfold St.set; split <;> rfl
  ·rfl
 rw [e2,hown,e3]
def IA (P:Program) (fn:Func) {TB:aF} (E:Env TB) (n:Sh) (post:dQ):bF:=bodyPostD P fn (iD E n post)
def za (f:FuncId) (vals:List Value):Deferred:={ target:=.fn (.func f) vals.toArray,args:=#[] }
theorem aG.Fh {P:Program} {TB:aF} {f:FuncId} {fn:Func} {c:Code} {own:List (Nat × OC)} {args:List BV} {post:dQ} (m:Nat) (hf:P.funcs[f]? = some fn) (hm:fn.ntmps = m) (hb:fn.body = some c) (hl:args.length ≤ m)
  (hbody:∀ E:Env TB,ah P E ⟨m,aq own,ai own,[]⟩ c ⟨fI 0 args,own⟩ (IA P fn E ⟨m,aq own,ai own,[]⟩ post)):aG P TB f own args post:=by
 intro w h ρ vals tb hag hlent hargs
 have hlen:=hargs.length
 refine (calls_of_wp_defers (R:=iD ⟨w,h,ρ,tb⟩ ⟨m,aq own,ai own,[]⟩ post) hf hb (hbody ⟨w,h,ρ,tb⟩ _ w ⟨rfl,?_,h,ρ,⟨hag,PH.le_refl h,fun _ _ _=>rfl,Nat.le_refl _,fun _ _ _=>rfl,fun _ _=>rfl,rfl,rfl,?_,?_⟩,?_⟩)).mono ?_
 ·simp [hm]; omega
 ·rintro b ⟨k,hk,hb⟩ o
  obtain ⟨⟨k',c⟩,hm',rfl⟩:=List.mem_map.1 hk
  exact ((hlent k' c hm').2.1 b (.inl hb)).2 o
 ·intro k c hc
  obtain ⟨h1,h3,h4⟩:=hlent k c hc
  exact ⟨h1,fun b hb=>⟨.inr ⟨k,List.mem_map.2 ⟨(k,c),hc,rfl⟩,(h3 b hb).1⟩,(h3 b hb).2⟩,h4⟩
 ·intro k x hx
  obtain ⟨j,z,rfl,hz,rfl⟩:=gQ hx
  obtain ⟨v,hv,hr⟩:=hargs.get j z hz
  refine ⟨v,?_,hr⟩
  have hj:=(List.getElem?_eq_some_iff.1 hv).1
  rw [Nat.zero_add,Array.getElem?_append_left (by simpa using hj)]
  simpa using hv
 ·rintro e w' ⟨v,own',res,h',ρ',e1,e2,e3,e4⟩
  exact ⟨v,own',res,h',ρ',e1,e2,WR.sh (n:=⟨m,aq own,ai own,[]⟩) (n':=⟨0,aq own,ai own,[]⟩) rfl rfl e3,e4⟩
def Dx (P:Program) (f:FuncId) (m:Nat):Prop:=∀ (vals:List Value) (w:World),vals.length = m → CallsD P f vals.toArray .returning w fun e u' w'=>(∃ v,e = .returned v) ∧ u' = .returning ∧ w' = w
def ra (P:Program) (TB:aF) (f:FuncId) (own:List (Nat × OC)) (args:List BV) (pv:Value) (own':List (Nat × OC)):Prop :=
 ∀ (w:World) (h:PH) (ρ:RM) (vals:List Value) (tb:cx TB h w),oI h w → B9 own h ρ w → aQ (fun (x:BV) v=>x.rel h ρ v) args vals →
  CallsD P f vals.toArray (.panicking (Df pv)) w fun e u' w'=>u' = .panicking [{ v:=pv,recovered:=true }] ∧ iD ⟨w,h,ρ,tb⟩ ⟨0,aq own,ai own,[]⟩ (Is own' (.kU [])) e w'
section
variable {P:Program} {TB:aF} {E E':Env TB} {n:Sh} {s s':St} {dst:Option Nat} {t ty yt:TypeId} {pos:String} {after:Array Edge} {g:Option (Nat × Bool)} {x y c:Operand} {ops:Array Oper} {l:List Oper} {Q:bF} {cd:Code}
theorem Fin.retD {fn:Func} {post:dQ} {e:Exit} (he:e = .ret ∨ e = .normal) (hd:n.dfs = []) (h:Fin E n e s (yP P fn E n post)):Fin E n e s (IA P fn E n post):=by
 rcases he with rfl | rfl
 ·intro a w hr
  obtain ⟨h1,v,h2,h3⟩:=h a w hr
  show Leaves P fn a.tmps _ a.defers .returning w
  rw [h1,hd]
  exact ⟨v,h2 w (bI.refl w),h3⟩
 ·intro a w hr
  obtain ⟨h1,v,h2,h3⟩:=h a w hr
  show Leaves P fn a.tmps _ a.defers .returning w
  rw [h1,hd]
  exact ⟨v,h2 w (bI.refl w),h3⟩
theorem aj.defer {f:FuncId} {cs:List CV} (hn:n.dfs = []) (hx:s.ev x = some (.b (.cD f [] cs))) (hp:s.own.all (fun p=>p.2.plain) = true)
  (h:∀ (E':Env TB) (vals:List Value),WR E n s.own E'.h0 E'.ρ0 E'.w0 → aQ (fun (c:CV) v=>c.rel E'.h0 E'.ρ0 v) cs vals → aj P E' ⟨n.n,aq s.own,ai s.own,[za f vals]⟩ ops l s Q) :
  aj P E n ops (⟨none,.defer ⟨.value x,#[],#[]⟩,ty,pos,after,none⟩ :: l) s Q:=by
 intro a w hr
 unfold yx
 have:∀ tmps,Region.wanted ⟨none,.defer ⟨.value x,#[],#[]⟩,ty,pos,after,none⟩ (yielded ops tmps) = true:=fun _=>rfl
 simp only [this,if_true]
 obtain ⟨hdf,hsz,h1,ρ,hw,hs⟩:=hr
 obtain ⟨va,vb,hv,h2,h3⟩:=(aC hs hx:BV.rel h1 ρ (.cD f [] cs) _)
 have hva:va = #[]:=by
  cases va with
  | mk l=>cases h2; rfl
 subst hva
 have hrun:(execOp a.eval ⟨none,.defer ⟨.value x,#[],#[]⟩,ty,pos,after,none⟩).run P w = .ok (.defer (za f vb.toList)) w:=by
  have e1:execOp a.eval ⟨none,.defer ⟨.value x,#[],#[]⟩,ty,pos,after,none⟩ = (do pure (.defer (← Deferred.ofValue (a.eval x) ((#[]:Array Operand).map a.eval)))):=rfl
  rw [e1,hv]
  have e2:(do pure (.defer (← Deferred.ofValue (.func (.func f) #[] vb) ((#[]:Array Operand).map a.eval))):Sem Next) = pure (.defer { target:=.fn (.func f) vb,args:=#[] ++ (#[]:Array Operand).map a.eval }):=rfl
  rw [e2]
  simp [za]
 unfold Oper.wp
 rw [hrun]
 show yx P ops Q l { a with defers:=za f vb.toList :: a.defers } w
 rw [List.all_eq_true] at hp
 refine h ⟨w,h1,ρ,hw.aw⟩ vb.toList hw h3 _ w ⟨by show za f vb.toList :: a.defers = _; rw [hdf,hn],hsz,h1,ρ,⟨hw.agree,PH.le_refl _,fun _ _ _=>rfl,Nat.le_refl _,fun _ _ _=>rfl,fun _ _=>rfl,rfl,rfl,?_,?_⟩,hs⟩
 ·rintro b ⟨k,hk,hb⟩ o
  obtain ⟨⟨k',c⟩,hm',rfl⟩:=List.mem_map.1 hk
  exact ((hw.owned k' c hm').2.1 b (.inl hb)).2 o
 ·intro k c hkc
  obtain ⟨e1,e2,e3⟩:=hw.owned k c hkc
  exact ⟨e1,fun b hb=>⟨.inr ⟨k,List.mem_map.2 ⟨(k,c),hkc,rfl⟩,hb.zQ (hp _ hkc)⟩,(e2 b hb).2⟩,e3⟩
theorem vc {f:FuncId} (hf:dw P f) (vals:List Value) (w:World):(invoke (.fn (.func f) vals.toArray) #[]).run P w = .ok (.enter f vals.toArray) w:=by
 have e2:invoke (.fn (.func f) vals.toArray) #[] = callFunc f (#[] ++ vals.toArray):=rfl
 rw [e2,hf.run]
 congr 2
 simp
theorem iD.back {own0:List (Nat × OC)} {ds:List Deferred} {post post':dQ} {v:Value} {w:World} (hlink:WR E n own0 E'.h0 E'.ρ0 E'.w0) (hpost:∀ o r,post' o r → gD n own0 o = true ∧ hJ own0 own0 o = true ∧ bL o (dv own0 own0) = o ∧ r.bm o = true ∧ post o r)
  (h:iD E' ⟨n.n,aq own0,ai own0,ds⟩ post' (.returned v) w):iD E n post (.returned v) w:=by
 obtain ⟨v',own',res,h',ρ',e1,hp,hwr,hrel⟩:=h
 cases e1
 obtain ⟨g1,g2,g3,hk,hp'⟩:=hpost _ _ hp
 obtain ⟨w0,h0,ρ0,tb⟩:=E'
 have hc:=hlink.call (own_a:=own0) (own':=own') (tb:=tb) (fun _ _ h=>h) (WR.sh (n:=⟨n.n,aq own0,ai own0,ds⟩) (n':=⟨0,aq own0,ai own0,[]⟩) rfl rfl hwr) g1 g2
 rw [g3] at hc
 exact ⟨v,own',res,h',_,rfl,hp',hc,SV.mono (PH.le_refl _) (fun j hj=>jn (SV.cw hk hj)) hrel⟩
theorem Fin.doorRet {fn:Func} {post post':dQ} {e:Exit} {f:FuncId} {vals:List Value} {own0:List (Nat × OC)} {m:Nat} (hlink:WR E n own0 E'.h0 E'.ρ0 E'.w0) (hi:Dx P f m) (hm:vals.length = m) (hg:dw P f) (he:e = .ret ∨ e = .normal)
  (hpost:∀ o r,post' o r → gD n own0 o = true ∧ hJ own0 own0 o = true ∧ bL o (dv own0 own0) = o ∧ r.bm o = true ∧ post o r) (h:Fin E' ⟨n.n,aq own0,ai own0,[za f vals]⟩ e s (yP P fn E' ⟨n.n,aq own0,ai own0,[za f vals]⟩ post')) :
  Fin E' ⟨n.n,aq own0,ai own0,[za f vals]⟩ e s (IA P fn E n post):=by
 have key:∀ (a:Act) (w:World),(a.defers = [za f vals] ∧ ∃ v,(∀ w₂,bI w w₂ → (results fn a.tmps).run P w₂ = .ok v w₂) ∧ iD E' ⟨n.n,aq own0,ai own0,[za f vals]⟩ post' (.returned v) w) → Leaves P fn a.tmps (iD E n post) a.defers .returning w:=by
  rintro a w ⟨h1,v,h2,h3⟩
  rw [h1]
  refine leaves_cons (by simp) (vc hg vals w) ((hi vals w hm).mono ?_)
  rintro e u' w' ⟨⟨v',rfl⟩,rfl,rfl⟩
  exact ⟨v,h2 _ (bI.refl _),iD.back hlink hpost h3⟩
 rcases he with rfl | rfl <;> exact fun a w hr=>key a w (h a w hr)
theorem CV.FA {h0 h1:PH} {ρ0 ρ:RM} {ks:List Nat} (hf:∀ k,k ∈ ks → ρ k = ρ0 k):∀ {cs:List CV} {vals:List Value},aQ (fun (c:CV) v=>c.rel h0 ρ0 v) cs vals → cs.all (fun c=>match c with | .ptr k _=>ks.contains k | _=>false) = true → aQ (fun (c:CV) v=>c.rel h1 ρ v) cs vals
 | _,_,.nil,_=>.nil
 | c :: cs,_,.cons h4 h5,hk=>by
  rw [List.all_cons,Bool.and_eq_true] at hk
  refine .cons ?_ (CV.FA hf h5 hk.2)
  have hkc:=hk.1
  cases c with
  | ptr k o=>
   obtain ⟨b,e1,e2⟩:=h4
   refine ⟨b,?_,e2⟩
   rw [hf k (by simpa using hkc)]; exact e1
  | _=>simp at hkc
theorem Fin.tz {fn:Func} {post post':dQ} {f:FuncId} {cs:List CV} {vals:List Value} {own0 own_c own_c':List (Nat × OC)} {args:List BV} {pv:Value} (hlink:WR E n own0 E'.h0 E'.ρ0 E'.w0) (hvals:aQ (fun (c:CV) v=>c.rel E'.h0 E'.ρ0 v) cs vals)
  (hc:ra P TB f own_c args pv own_c') (hg:dw P f) (hcs:cs.map CV.bv = args) (hk:cs.all (fun c=>match c with | .ptr k _=>(aq own0).contains k | _=>false) = true) (hl:fE s.own own_c)
  (hok:gD ⟨n.n,aq own0,ai own0,[za f vals]⟩ own_c own_c' = true) (hcl:hJ s.own own_c own_c' = true)
  (hpost:∀ o r,post' o r → gD n own0 o = true ∧ hJ own0 own0 o = true ∧ bL o (dv own0 own0) = o ∧ r.bm o = true ∧ post o r)
  (h:Fin E' ⟨n.n,aq own0,ai own0,[za f vals]⟩ .ret ⟨jm own_c own_c' s.slots,bL own_c' (dv own_c s.own)⟩ (yP P fn E' ⟨n.n,aq own0,ai own0,[za f vals]⟩ post')) :
  Fin E' ⟨n.n,aq own0,ai own0,[za f vals]⟩ (.panic (Df pv)) s (IA P fn E n post):=by
 intro a w hr
 obtain ⟨hdf,hsz,h1,ρ,hw,hs⟩:=hr
 show Leaves P fn a.tmps (iD E n post) a.defers (.panicking (Df pv)) w
 have hdf':a.defers = [za f vals]:=hdf
 rw [hdf']
 refine leaves_cons (by simp) (vc hg vals w) ?_
 have hargs:aQ (fun (x:BV) v=>x.rel h1 ρ v) args vals:=by
  rw [← hcs]
  exact CV.bvL (CV.FA hw.fixed hvals hk)
 have hla:=kN hl
 refine (hc w h1 ρ vals hw.aw hw.agree (tu hw hla (jA hl)) hargs).mono ?_
 rintro e u' w' ⟨rfl,v,own',res,h',ρ',rfl,⟨rfl,rfl⟩,hwr,hrel⟩
 have hwc:=hw.call hla hwr hok hcl
 have hR:R E' ⟨n.n,aq own0,ai own0,[za f vals]⟩ ⟨jm own_c own' s.slots,bL own' (dv own_c s.own)⟩ a w':=by
  refine ⟨hdf,hsz,h',_,hwc,fun k x hx=>?_⟩
  obtain ⟨h1,h2⟩:=mS hx
  obtain ⟨u,hu,hrel⟩:=hs k x h1
  refine ⟨u,hu,SV.mono hwr.le (fun j hj=>?_) hrel⟩
  by_cases hin:j ∈ ai own'
  ·rw [jn hin]
   by_cases hia:j ∈ aq own_c
   ·exact hwr.fixed j hia
   ·have:=h2 j hin hia; simp [this] at hj
  ·exact j4 hin
 obtain ⟨_,v2,h5,h6⟩:=h a w' hR
 exact ⟨v2,h5 _ (bI.refl _),iD.back hlink hpost h6⟩
end
end Go.Sk
namespace Go.Sk
set_option linter.unusedSimpArgs false
set_option linter.unusedVariables false
open Go Go.BigFrame
theorem gJ.sw {P:Program} {TB:aF} {f:FuncId} {own:List (Nat × OC)} {args:List BV} {pv:Value} {ok:Prop} (hm:gJ P TB f own args pv ok) (a b:Nat) :
  gJ P TB f (bq (swp a b) own) (args.map (·.gk (swp a b))) pv ok:=by
 intro w h ρ vals tb hag hlent hargs
 have hinj:∀ {i j:Nat},swp a b i = swp a b j → i = j:=fun {i j} e=>by have:=congrArg (swp a b) e; rwa [gK,gK] at this
 have hl:B9 own h (fun k=>ρ (swp a b k)) w:=fun k c hk=>by
  obtain ⟨e1,e2,e3⟩:=hlent (swp a b k) (c.gk (swp a b)) (List.mem_map.2 ⟨(k,c),hk,rfl⟩)
  exact ⟨OC.Cs.1 e1,fun b hb=>e2 b (OC.jq.2 hb),fun k' c' hk' hne b' hb' hb2=>e3 (swp a b k') (c'.gk (swp a b)) (List.mem_map.2 ⟨(k',c'),hk',rfl⟩) (fun e=>hne (hinj e)) b' (OC.jq.2 hb') (OC.jq.2 hb2)⟩
 have ha:aQ (fun (x:BV) v=>x.rel h (fun k=>ρ (swp a b k)) v) args vals:=((iI _).trans (ll fun a u=>BV.fH)).1 hargs
 refine (hm w h _ vals tb hag hl ha).mono ?_
 rintro e w' (⟨v,own1,res1,h',ρ',_,hp,_⟩ | ⟨pv',rfl,hpv,h',ρ',hw⟩)
 ·exact hp.elim
 have hlt:∀ b',qR (TB:=TB) ⟨w,h,fun k=>ρ (swp a b k),tb⟩ ⟨0,aq own,ai own,[]⟩ b' ↔ qR (TB:=TB) ⟨w,h,ρ,tb⟩ ⟨0,aq (bq (swp a b) own),ai (bq (swp a b) own),[]⟩ b':=fun b'=>by
  constructor
  ·rintro ⟨k,hk,hb⟩
   exact ⟨swp a b k,by show _ ∈ ai _; rw [pO]; exact List.mem_map.2 ⟨k,hk,rfl⟩,hb⟩
  ·rintro ⟨k,hk,hb⟩
   have hk':k ∈ (ai own).map (swp a b):=by rw [← pO]; exact hk
   obtain ⟨k0,hk0,rfl⟩:=List.mem_map.1 hk'
   exact ⟨k0,hk0,hb⟩
 refine .inr ⟨pv',rfl,hpv,h',fun k=>ρ' (swp a b k),⟨hw.agree,hw.le,fun b' hb' hn=>hw.fresh b' hb' fun hh=>hn ((hlt b').1 hh),hw.size,fun b' hb' hn=>hw.same b' hb' fun hh=>hn ((hlt b').1 hh),fun k hk=>?_,hw.os,hw.out,fun b' hb'=>hw.nl b' ((hlt b').2 hb'),fun k c hk=>by simp at hk⟩⟩
 have hk':k ∈ (aq own).map (swp a b):=by rw [← rG]; exact hk
 obtain ⟨k0,hk0,rfl⟩:=List.mem_map.1 hk'
 show ρ' (swp a b (swp a b k0)) = _
 rw [gK]; exact hw.fixed k0 hk0
theorem qX {n:Sh} {own0 own':List (Nat × OC)} {res:SV} (h1:gD n own0 own' = true) (h2:hJ own0 own0 own' = true) (h3:bL own' (dv own0 own0) = own') (hk:res.bm own' = true):∀ o r,Is own' res o r → gD n own0 o = true ∧ hJ own0 own0 o = true ∧ bL o (dv own0 own0) = o ∧ r.bm o = true ∧ Is own' res o r:=fun o r h=>by
 obtain ⟨rfl,rfl⟩:=h
 exact ⟨h1,h2,h3,hk,rfl,rfl⟩
section
variable {P:Program} {TB:aF} {E:Env TB} {n:Sh} {s s':St} {dst:Option Nat} {t ty yt:TypeId} {pos:String} {after:Array Edge} {g:Option (Nat × Bool)} {x y c:Operand} {ops:Array Oper} {l:List Oper} {Q:bF} {cd:Code}
theorem Aj {T:TypeId} {ps:List CP} {ms:Array (String × TypeId)} (hi:P.underlying t = some (.interface ms)) (hx:s.ev x = some (.b (.one (.yy T ps)))):aR P E n ⟨dst,.binOp .neq t x (.const .nilIface) yt,ty,pos,after,g⟩ s (s.put n dst (B true)) :=
 aR.val (o:=⟨dst,.binOp .neq t x (.const .nilIface) yt,ty,pos,after,g⟩) fun ac w h ρ hw hs=>by
  obtain ⟨cs,e,_⟩:=(aC hs hx:(CP.yy _ _).rel h _)
  refine ⟨.bool true,?_,rfl⟩
  have h1:∀ d:Nat,(Op.equalIn (d + 1) t (.iface T (.agg cs)) .nilIface).run P w = .ok false w:=fun d=>by simp [Op.equalIn,run_underlying hi]
  have h2:(Op.equal t (.iface T (.agg cs)) .nilIface).run P w = .ok false w:=h1 _
  have h0:eqGuard .neq t x (.const .nilIface) (.iface T (.agg cs)) .nilIface = pure ():=rfl
  simp only [execOp,e,show ac.eval (.const .nilIface) = .nilIface from rfl,h0]
  simp [binOp,h2,Result.andThen]
theorem ux {T st:TypeId} {ps:List CP} {d:TypeDesc} (hu:P.underlying T = some d) (hd:(match d with | .interface _=>false | _=>true) = true) (hx:s.ev x = some (.b (.one (.yy T ps)))):aR P E n ⟨dst,.typeAssert x st T false,ty,pos,after,g⟩ s (s.put n dst (.b (.agg ps))) :=
 aR.val (o:=⟨dst,.typeAssert x st T false,ty,pos,after,g⟩) fun ac w h ρ hw hs=>by
  obtain ⟨cs,e,hc⟩:=(aC hs hx:(CP.yy _ _).rel h _)
  refine ⟨.agg cs,?_,cs,rfl,hc⟩
  simp only [execOp,e]
  unfold Instr.typeAssert
  rw [Sem.run_bind,Sem.run_bind,run_underlying hu]
  cases d <;> simp at hd <;> simp [Result.andThen]
theorem EA {size:Nat} {zs:List CP} {qs:List BV} {parts:Array (Nat × Operand)} {cps:List (Nat × List BV)} (ht:wb P t size zs) (hp:sL s parts.toList = some cps) (hf:Dp (fun i=>some (i * size,size)) (zs.map .one) cps = some qs) :
  aR P E n ⟨dst,.build t parts,ty,pos,after,g⟩ s (s.put n dst (.jX qs)) :=
 aR.val (o:=⟨dst,.build t parts,ty,pos,after,g⟩) fun ac w h ρ hw hs=>by
  obtain ⟨it,z,m,e,ie,h1,h2,h3,h4,h5,h6⟩:=ht.info
  obtain ⟨cs,hc1,hc2⟩:=Bw hw hs (fun i=>some (i * size,size)) parts.toList cps (zs.map .one) qs z.cells hp hf (vS (oo h h3))
  refine ⟨.agg cs,?_,cs,rfl,hc2⟩
  have hb:P.built t (parts.map fun (i,x)=>(i,ac.eval x)).toList = some cs:=by
   simp only [Program.built,h1,h4,h2,h5,h6]
   rw [← hc1]
   simp
  have:=run_build (P:=P) w t _ cs hb
  simp only [execOp]
  simp [this]
end
def mh (k k2:Nat) (t1 t2:TypeId) (p1 p2:String) (a1 a2:Array Edge):Array Oper:=#[⟨some k,.call ⟨.builtin .recover,#[],#[]⟩,t1,p1,a1,none⟩,⟨some k2,.assign (.tmp k),t2,p2,a2,none⟩]
theorem rec_pan {P:Program} {k k2:Nat} {t1 t2:TypeId} {p1 p2:String} {a1 a2:Array Edge} {pv:Value} {c₀:Frame} {cs:List Frame} (hu:c₀.mode = .panicking (Df pv)) {Q:Exit → Act → List Frame → World → Prop} {a:Act} {w:World}
  (h:Q .normal ((a.put (some k) pv).put (some k2) ((a.put (some k) pv).eval (.tmp k))) ({ c₀ with mode:=.panicking [{ v:=pv,recovered:=true }] } :: cs) w):wpOpsS P (mh k k2 t1 t2 p1 p2 a1 a2) Q [0,1] a (c₀ :: cs) w:=by
 have e1:(execOp a.eval ⟨some k,.call ⟨.builtin .recover,#[],#[]⟩,t1,p1,a1,none⟩).run P w = .ok .recover w:=rfl
 have e2:recoverD (c₀ :: cs) = some (pv,{ c₀ with mode:=.panicking [{ v:=pv,recovered:=true }] } :: cs):=by
  simp [recoverD,hu,Df]
 have w1:∀ tmps,Region.wanted (⟨some k,.call ⟨.builtin .recover,#[],#[]⟩,t1,p1,a1,none⟩:Oper) (yielded (mh k k2 t1 t2 p1 p2 a1 a2) tmps) = true:=fun _=>rfl
 have w2:∀ tmps,Region.wanted (⟨some k2,.assign (.tmp k),t2,p2,a2,none⟩:Oper) (yielded (mh k k2 t1 t2 p1 p2 a1 a2) tmps) = true:=fun _=>rfl
 have o0:(mh k k2 t1 t2 p1 p2 a1 a2)[0]? = some ⟨some k,.call ⟨.builtin .recover,#[],#[]⟩,t1,p1,a1,none⟩:=rfl
 have o1:(mh k k2 t1 t2 p1 p2 a1 a2)[1]? = some ⟨some k2,.assign (.tmp k),t2,p2,a2,none⟩:=rfl
 simp only [wpOpsS,o0,o1,w1,w2,if_true,e1,e2]
 exact h
theorem DP {P:Program} {k k2:Nat} {t1 t2:TypeId} {p1 p2:String} {a1 a2:Array Edge} {c₀:Frame} {cs:List Frame} (hu:c₀.mode = .returning) {Q:Exit → Act → List Frame → World → Prop} {a:Act} {w:World}
  (h:Q .normal ((a.put (some k) .nilIface).put (some k2) ((a.put (some k) .nilIface).eval (.tmp k))) (c₀ :: cs) w):wpOpsS P (mh k k2 t1 t2 p1 p2 a1 a2) Q [0,1] a (c₀ :: cs) w:=by
 have e1:(execOp a.eval ⟨some k,.call ⟨.builtin .recover,#[],#[]⟩,t1,p1,a1,none⟩).run P w = .ok .recover w:=rfl
 have e2:recoverD (c₀ :: cs) = none:=by simp [recoverD,hu]
 have w1:∀ tmps,Region.wanted (⟨some k,.call ⟨.builtin .recover,#[],#[]⟩,t1,p1,a1,none⟩:Oper) (yielded (mh k k2 t1 t2 p1 p2 a1 a2) tmps) = true:=fun _=>rfl
 have w2:∀ tmps,Region.wanted (⟨some k2,.assign (.tmp k),t2,p2,a2,none⟩:Oper) (yielded (mh k k2 t1 t2 p1 p2 a1 a2) tmps) = true:=fun _=>rfl
 have o0:(mh k k2 t1 t2 p1 p2 a1 a2)[0]? = some ⟨some k,.call ⟨.builtin .recover,#[],#[]⟩,t1,p1,a1,none⟩:=rfl
 have o1:(mh k k2 t1 t2 p1 p2 a1 a2)[1]? = some ⟨some k2,.assign (.tmp k),t2,p2,a2,none⟩:=rfl
 simp only [wpOpsS,o0,o1,w1,w2,if_true,e1,e2]
 exact h
theorem pD {a:Act} {k:Nat} {v:Value} (h:k < a.tmps.size):(a.put (some k) v).tmps[k]? = some v:=by
 show (a.tmps.setIfInBounds k v)[k]? = some v
 simp [h]
theorem yW {a:Act} {k j:Nat} {v:Value} (h:k ≠ j):(a.put (some k) v).tmps[j]? = a.tmps[j]?:=by
 show (a.tmps.setIfInBounds k v)[j]? = _
 simp [h]
theorem j3 {a:Act} {k:Nat} {v:Value}:(a.put (some k) v).tmps.size = a.tmps.size:=by
 show (a.tmps.setIfInBounds k v).size = _
 simp
theorem qz {a:Act} {k:Nat} {v:Value} (h:a.tmps[k]? = some v):a.eval (.tmp k) = v:=by
 simp [Act.eval,h]
theorem ra.intro {P:Program} {TB:aF} {f:FuncId} {fn:Func} {rid k k2:Nat} {t1 t2:TypeId} {p1 p2:String} {a1 a2:Array Edge} {c:Code} {own own':List (Nat × OC)} {args:List BV} {pv:Value} {z:BV} (m:Nat) (hf:P.funcs[f]? = some fn) (hm:fn.ntmps = m)
  (hb:fn.body = some (.seq (.region rid (mh k k2 t1 t2 p1 p2 a1 a2) false) c)) (hl:args.length ≤ k2) (hk:k2 < k) (hkm:k < m) (hz:∀ h ρ,z.rel h ρ pv)
  (hbody:∀ E:Env TB,ah P E ⟨m,aq own,ai own,[]⟩ c ⟨(k2,.b z) :: fI 0 args,own⟩ (yP P fn E ⟨m,aq own,ai own,[]⟩ (Is own' (.kU [])))):ra P TB f own args pv own':=by
 intro w h ρ vals tb hag hlent hargs
 have hlen:=hargs.length
 refine (callsD_of_wpS (R:=fun e u' w'=>u' = .panicking [{ v:=pv,recovered:=true }] ∧ iD ⟨w,h,ρ,tb⟩ ⟨m,aq own,ai own,[]⟩ (Is own' (.kU [])) e w') hf hb fun c₀ cs hu=>?_).mono ?_
 ·apply wpS_seq
  apply wpS_region
  show wpOpsS P _ _ [0,1] _ _ _
  refine rec_pan hu ?_
  have hsz:(vals.toArray ++ Array.replicate (fn.ntmps - vals.toArray.size) undef).size = m:=by simp [hm]; omega
  generalize ha:({ tmps:=vals.toArray ++ Array.replicate (fn.ntmps - vals.toArray.size) undef,defers:=[] }:Act) = a0
  have hsz0:a0.tmps.size = m:=by rw [← ha]; exact hsz
  have hg:∀ j:Nat,∀ v,vals[j]? = some v → a0.tmps[j]? = some v:=by
   intro j v hv
   have hj:=(List.getElem?_eq_some_iff.1 hv).1
   rw [← ha]
   show (vals.toArray ++ _)[j]? = _
   rw [Array.getElem?_append_left (by simpa using hj)]
   simpa using hv
  have e1:(a0.put (some k) pv).tmps[k]? = some pv:=pD (by omega)
  rw [qz e1]
  show Exit.thenS _ _ _ _ _ _
  refine wpS_of_wp (Code.wp_mono (fun e a' w' he=>?_) (hbody ⟨w,h,ρ,tb⟩ _ w ⟨?_,?_,h,ρ,⟨hag,PH.le_refl h,fun _ _ _=>rfl,Nat.le_refl _,fun _ _ _=>rfl,fun _ _=>rfl,rfl,rfl,?_,?_⟩,?_⟩))
  ·cases e with
   | normal=>obtain ⟨h1,v,h2,h3⟩:=he; exact ⟨h1,_,rfl,v,h2 _ (bI.refl _),rfl,h3⟩
   | ret=>obtain ⟨h1,v,h2,h3⟩:=he; exact ⟨h1,_,rfl,v,h2 _ (bI.refl _),rfl,h3⟩
   | exit _=>exact he.elim
   | goto _=>exact he.elim
   | panic _=>exact he.elim
   | outgrown=>exact he.elim
  ·rw [← ha]; rfl
  ·rw [j3,j3]; exact hsz0
  ·rintro b ⟨q,hq,hb'⟩ o
   obtain ⟨⟨q',c'⟩,hm',rfl⟩:=List.mem_map.1 hq
   exact ((hlent q' c' hm').2.1 b (.inl hb')).2 o
  ·intro q c' hc'
   obtain ⟨h1,h3,h4⟩:=hlent q c' hc'
   exact ⟨h1,fun b hb'=>⟨.inr ⟨q,List.mem_map.2 ⟨(q,c'),hc',rfl⟩,(h3 b hb').1⟩,(h3 b hb').2⟩,h4⟩
  ·intro q x hx
   rcases List.mem_cons.1 hx with hx | hx
   ·cases hx
    exact ⟨pv,pD (by rw [j3]; omega),hz h ρ⟩
   ·obtain ⟨j,z',rfl,hz',rfl⟩:=gQ hx
    obtain ⟨v,hv,hr⟩:=hargs.get j z' hz'
    have hj:=(List.getElem?_eq_some_iff.1 hz').1
    refine ⟨v,?_,hr⟩
    rw [yW (by omega),yW (by omega)]
    rw [Nat.zero_add]
    exact hg j v hv
 ·rintro e u' w' ⟨rfl,v,own'',res,h',ρ',e1,e2,e3,e4⟩
  exact ⟨rfl,v,own'',res,h',ρ',e1,e2,WR.sh (n:=⟨m,aq own,ai own,[]⟩) (n':=⟨0,aq own,ai own,[]⟩) rfl rfl e3,e4⟩
theorem Dx.intro {P:Program} {f:FuncId} {fn:Func} {rid rid2 k k2 k3 k4 m:Nat} {t1 t2 t3 t4 t5 t6:TypeId} {p1 p2 p3 p4:String} {a1 a2 a3 a4:Array Edge} {c:Code} (hf:P.funcs[f]? = some fn) (hr:fn.results = #[])
  (hb:fn.body = some (.seq (.region rid (mh k k2 t1 t2 p1 p2 a1 a2) false) (.seq (.region rid2 #[⟨some k3,.move (.tmp k2),t3,p3,a3,none⟩,⟨some k4,.binOp .neq t4 (.tmp k3) (.const .nilIface) t5,t6,p4,a4,none⟩] false) (.cond (.tmp k4) c .skip))))
  {ms:Array (String × TypeId)} (hi:P.underlying t4 = some (.interface ms)) (hm:m ≤ fn.ntmps) (h1:k < fn.ntmps) (h2:k2 < fn.ntmps) (h3:k3 < fn.ntmps) (h4:k4 < fn.ntmps):Dx P f m:=by
 intro vals w hlen
 refine callsD_of_wpS hf hb fun c₀ cs hu=>?_
 have hsz:(vals.toArray ++ Array.replicate (fn.ntmps - vals.toArray.size) undef).size = fn.ntmps:=by simp; omega
 generalize ha:({ tmps:=vals.toArray ++ Array.replicate (fn.ntmps - vals.toArray.size) undef,defers:=[] }:Act) = a0
 have hsz0:a0.tmps.size = fn.ntmps:=by rw [← ha]; exact hsz
 have hd0:a0.defers = []:=by rw [← ha]
 apply wpS_seq
 apply wpS_region
 show wpOpsS P _ _ [0,1] _ _ _
 refine DP hu ?_
 have e1:(a0.put (some k) .nilIface).tmps[k]? = some .nilIface:=pD (by omega)
 rw [qz e1]
 generalize ha1:(a0.put (some k) .nilIface).put (some k2) .nilIface = a1'
 have hsz1:a1'.tmps.size = fn.ntmps:=by rw [← ha1,j3,j3]; exact hsz0
 have hd1:a1'.defers = []:=by rw [← ha1]; exact hd0
 have g1:a1'.tmps[k2]? = some .nilIface:=by rw [← ha1]; exact pD (by rw [j3]; omega)
 refine wpS_of_wp ?_
 apply wp_seq
 apply wp_region
 show wpOps P _ _ [0,1] a1' w
 have r1:(execOp a1'.eval ⟨some k3,.move (.tmp k2),t3,p3,a3,none⟩).run P w = .ok (.value .nilIface) w:=by
  show (pure (Next.value (a1'.eval (.tmp k2))):Sem Next).run P w = _
  rw [qz g1]; rfl
 generalize ha2:a1'.put (some k3) .nilIface = a2'
 have hsz2:a2'.tmps.size = fn.ntmps:=by rw [← ha2,j3]; exact hsz1
 have hd2:a2'.defers = []:=by rw [← ha2]; exact hd1
 have g2:a2'.tmps[k3]? = some .nilIface:=by rw [← ha2]; exact pD (by omega)
 have r2:(execOp a2'.eval ⟨some k4,.binOp .neq t4 (.tmp k3) (.const .nilIface) t5,t6,p4,a4,none⟩).run P w = .ok (.value (.bool false)) w:=by
  have h1:∀ d:Nat,(Op.equalIn (d + 1) t4 .nilIface .nilIface).run P w = .ok true w:=fun d=>by simp [Op.equalIn,run_underlying hi]
  have h2:(Op.equal t4 .nilIface .nilIface).run P w = .ok true w:=h1 _
  simp only [execOp,qz g2,show a2'.eval (.const .nilIface) = .nilIface from rfl,eqGuard_nil_constR]
  simp [binOp,h2,Result.andThen]
 have w1:∀ tmps,Region.wanted (⟨some k3,.move (.tmp k2),t3,p3,a3,none⟩:Oper) tmps = true:=fun _=>rfl
 have w2:∀ tmps,Region.wanted (⟨some k4,.binOp .neq t4 (.tmp k3) (.const .nilIface) t5,t6,p4,a4,none⟩:Oper) tmps = true:=fun _=>rfl
 simp only [wpOps,List.getElem?_toArray,List.getElem?_cons_zero,List.getElem?_cons_succ,w1,w2,if_true,Oper.wp,r1,Oper.upon,ha2,r2]
 have g3:(a2'.put (some k4) (.bool false)).tmps[k4]? = some (.bool false):=pD (by omega)
 refine .inl (.inl ?_)
 show Code.wp P (.cond (.tmp k4) c .skip) _ _ _
 refine wp_cond (t:=false) (qz g3) ?_
 refine wp_skip ?_
 refine ⟨hd2,.returning,?_,.tuple #[],?_,⟨_,rfl⟩,rfl,rfl⟩
 ·rw [← hu]
 ·simp [results,hr]
end Go.Sk
namespace Go.Sk
set_option linter.unusedSimpArgs false
set_option linter.unusedVariables false
open Go Go.BigFrame
structure ExtF (P:Program) (f:FuncId) (e:Array Value → Sem Value):Prop where
 info:∃ fn,P.funcs[f]? = some fn ∧ (fn.name == "runtime.NumGoroutine") = false ∧ fn.body.isNone = true ∧ Extern.findNext fn = none ∧ Extern.find fn = some e
section
variable {P:Program} {TB:aF} {E:Env TB} {n:Sh} {s s':St} {dst:Option Nat} {t ty yt:TypeId} {pos:String} {after:Array Edge} {g:Option (Nat × Bool)} {x y z c:Operand} {ops:Array Oper} {l:List Oper} {Q:bF} {cd:Code}
theorem ext_run {f:FuncId} {xs:Array Operand} {ats:Array TypeId} (a:Act) (w:World):(execOp a.eval ⟨dst,.call ⟨.value (.func f),xs,ats⟩,ty,pos,after,g⟩).run P w = (callFunc f (xs.toList.map a.eval).toArray).run P w:=by
 rw [show execOp a.eval ⟨dst,.call ⟨.value (.func f),xs,ats⟩,ty,pos,after,g⟩ = callFunc f (#[] ++ xs.map a.eval ++ #[]) from rfl]
 congr 2
 apply Array.ext'
 simp
theorem aR.cell {o:Oper} {own':List (Nat × OC)} {res:SV}
  (H:∀ (a:Act) (w:World) (h:PH) (ρ:RM),WR E n s.own h ρ w → bp h ρ s.slots a.tmps → ∃ v w',(execOp a.eval o).run P w = .ok (.value v) w' ∧ WR E n own' h ρ w' ∧ res.rel h ρ v):aR P E n o s ((⟨s.slots,own'⟩:St).put n o.dst res):=by
 intro a w ⟨hdf,hn,h,ρ,hw,hs⟩ next Q hnext
 obtain ⟨v,w',hv,hw',hr⟩:=H a w h ρ hw hs
 unfold Oper.wp
 rw [hv]
 exact hnext _ _ (R.put (s:=⟨s.slots,own'⟩) hdf hn hw' hs hr)
theorem Fin.round {m:Nat} (h:ah P E n cd s (Exit.then (Code.rounds P cd Q m) Q)):Fin E n .normal s (Exit.then (Code.rounds P cd Q (m + 1)) Q):=fun a w hr=>h a w hr
end
def JI (P:Program) (TB:aF) (f:FuncId) (own:List (Nat × OC)) (args:List BV) (own':List (Nat × OC)):Prop :=
 ∀ (w:World) (h:PH) (ρ:RM) (vals:List Value) (tb:cx TB h w),oI h w → B9 own h ρ w → aQ (fun (x:BV) v=>x.rel h ρ v) args vals →
  ∀ u,CallsD P f vals.toArray u w fun e u' w'=>u' = u ∧ iD ⟨w,h,ρ,tb⟩ ⟨0,aq own,ai own,[]⟩ (Is own' (.kU [])) e w'
theorem JI.intro {P:Program} {TB:aF} {f:FuncId} {fn:Func} {c:Code} {own own':List (Nat × OC)} {args:List BV} (m:Nat) (hf:P.funcs[f]? = some fn) (hm:fn.ntmps = m) (hb:fn.body = some c) (hl:args.length ≤ m)
  (hbody:∀ E:Env TB,ah P E ⟨m,aq own,ai own,[]⟩ c ⟨fI 0 args,own⟩ (yP P fn E ⟨m,aq own,ai own,[]⟩ (Is own' (.kU [])))):JI P TB f own args own':=by
 intro w h ρ vals tb hag hlent hargs u
 have hlen:=hargs.length
 refine (callsD_of_wp (R:=iD ⟨w,h,ρ,tb⟩ ⟨m,aq own,ai own,[]⟩ (Is own' (.kU []))) hf hb (wp_mono (hbody ⟨w,h,ρ,tb⟩ _ w ⟨rfl,?_,h,ρ,⟨hag,PH.le_refl h,fun _ _ _=>rfl,Nat.le_refl _,fun _ _ _=>rfl,fun _ _=>rfl,rfl,rfl,?_,?_⟩,?_⟩) (yP.body rfl))).mono ?_
 ·simp [hm]; omega
 ·rintro b ⟨k,hk,hb⟩ o
  obtain ⟨⟨k',c⟩,hm',rfl⟩:=List.mem_map.1 hk
  exact ((hlent k' c hm').2.1 b (.inl hb)).2 o
 ·intro k c hc
  obtain ⟨h1,h3,h4⟩:=hlent k c hc
  exact ⟨h1,fun b hb=>⟨.inr ⟨k,List.mem_map.2 ⟨(k,c),hc,rfl⟩,(h3 b hb).1⟩,(h3 b hb).2⟩,h4⟩
 ·intro k x hx
  obtain ⟨j,z,rfl,hz,rfl⟩:=gQ hx
  obtain ⟨v,hv,hr⟩:=hargs.get j z hz
  refine ⟨v,?_,hr⟩
  have hj:=(List.getElem?_eq_some_iff.1 hv).1
  rw [Nat.zero_add,Array.getElem?_append_left (by simpa using hj)]
  simpa using hv
 ·rintro e u' w' ⟨e0,v,own',res,h',ρ',e1,e2,e3,e4⟩
  exact ⟨e0,v,own',res,h',ρ',e1,e2,WR.sh (n:=⟨m,aq own,ai own,[]⟩) (n':=⟨0,aq own,ai own,[]⟩) rfl rfl e3,e4⟩
inductive DA where
 | ptr (k off:Nat)
 | bool (b:Bool)
def DA.bv:DA → BV
 | .ptr k off=>.ptr k off
 | .bool b=>.one (.bool b)
def DA.val {TB:aF} (E:Env TB):DA → Value
 | .ptr k off=>match E.ρ0 k with
  | .pointer (some a)=>.pointer (some ⟨a.block,off,none⟩)
  | v=>v
 | .bool b=>.bool b
def DA.ok (fix:List Nat) (own:List (Nat × OC)):DA → Bool
 | .ptr k _=>fix.contains k && (match lk own k with | some (.box _ _)=>true | _=>false)
 | .bool _=>true
theorem DA.rel {TB:aF} {E:Env TB} {n:Sh} {own:List (Nat × OC)} {h:PH} {ρ:RM} {w:World} (hw:WR E n own h ρ w):∀ {l:List DA},l.all (DA.ok n.fix own) = true → aQ (fun (x:BV) v=>x.rel h ρ v) (l.map DA.bv) (l.map (DA.val E))
 | [],_=>.nil
 | x :: l,hk=>by
  rw [List.all_cons,Bool.and_eq_true] at hk
  refine .cons ?_ (DA.rel hw hk.2)
  have h1:=hk.1
  cases x with
  | bool b=>rfl
  | ptr k off=>
   simp only [DA.ok,Bool.and_eq_true] at h1
   obtain ⟨h2,h3⟩:=h1
   split at h3
   ·next T ps e=>
    obtain ⟨b,cur,hb1,hb2,hb3⟩:=hX hw e
    refine ⟨b,hb1,?_⟩
    have:=hw.fixed k (by simpa using h2)
    simp only [DA.val,← this,hb1]
   ·cases h3
theorem DA.eq {TB:aF} {E:Env TB} {n:Sh} {own:List (Nat × OC)} {h:PH} {ρ:RM} {w:World} (hw:WR E n own h ρ w):∀ {l:List DA} {vs:List Value},l.all (DA.ok n.fix own) = true → aQ (fun (x:BV) v=>x.rel h ρ v) (l.map DA.bv) vs → vs = l.map (DA.val E)
 | [],_,_,.nil=>rfl
 | x :: l,v :: vs,hk,hr=>by
  rw [List.all_cons,Bool.and_eq_true] at hk
  cases hr with
  | cons h0 h4=>
  rw [DA.eq hw hk.2 h4,List.map_cons]
  congr 1
  have h1:=hk.1
  cases x with
  | bool b=>exact h0
  | ptr k off=>
   simp only [DA.ok,Bool.and_eq_true] at h1
   obtain ⟨b,hb1,rfl⟩:=h0
   have:=hw.fixed k (by simpa using h1.1)
   simp only [DA.val,← this,hb1]
section
variable {P:Program} {TB:aF} {E:Env TB} {n:Sh} {s s':St} {dst:Option Nat} {t ty yt:TypeId} {pos:String} {after:Array Edge} {g:Option (Nat × Bool)} {x y z c:Operand} {ops:Array Oper} {l:List Oper} {Q:bF} {cd:Code}
end
end Go.Sk
namespace Go.Sk
set_option linter.unusedSimpArgs false
set_option linter.unusedVariables false
open Go Go.BigFrame
section
variable {P:Program} {TB:aF} {E:Env TB} {n:Sh} {s s':St} {dst:Option Nat} {t ty yt:TypeId} {pos:String} {after:Array Edge} {g:Option (Nat × Bool)} {x y z c:Operand} {ops:Array Oper} {l:List Oper} {Q:bF} {cd:Code}
theorem AZ {ps:List CP} (hx:s.ev x = some (.b (.jY ps))):aR P E n ⟨dst,.nilCheck x,ty,pos,after,g⟩ s (s.put n dst (.b (.jY ps))) :=
 aR.val (o:=⟨dst,.nilCheck x,ty,pos,after,g⟩) fun ac w h ρ hw hs=>by
  obtain ⟨b,o,hv,hr⟩:=(aC hs hx:BV.rel h ρ (.jY ps) _)
  exact ⟨_,by simp only [execOp,hv]; rfl,b,o,rfl,hr⟩
theorem EC {k size bytes:Nat} {e:TypeId} {zs:List CP} {news:List (List CP)} (ht:kV P t e size bytes zs) (hz:0 < size) (hb:news.length * bytes ≤ 140737488355328) (hm:news.length ≤ 9223372036854775807)
  (hy:s.ev y = some (.b (.one (.sl size news)))) (hfx:n.fix.contains k = false) (hnu:di k s.own = true:=by rfl) :
  aR P E n ⟨dst,.call ⟨.builtin .append,#[.const (.slice none 0 0),y],#[t,t]⟩,ty,pos,after,g⟩ s ((⟨cn k s.slots,ins k (.row e size news) s.own⟩:St).put n dst (.b (.row k))) :=
 aR.make (hfx:=hfx) (hnu:=hnu) (o:=⟨dst,.call ⟨.builtin .append,#[.const (.slice none 0 0),y],#[t,t]⟩,ty,pos,after,g⟩) fun ac w h ρ hw hs=>by
  have hu:=(aC hs hy:(CP.sl size news).rel h _)
  obtain ⟨v',w',hrun,h1,h2,h3,h4,h5,h6⟩:=wI (ρ:=ρ) (ty:=ty) (v0:=.slice none 0 0) (es:=[]) ht ⟨fun ps hps=>by simp at hps,hz,[],⟨by simp,.inl ⟨rfl,rfl⟩⟩,.nil⟩ rfl (Src.of_sl hw hu) (by simpa using hb) (by rw [c7]; simpa using hm)
  refine ⟨v',v',w',none,?_,fun b hb=>by simp at hb,h1,h2,h3,fun b hb hne=>h4 b hb (by simp [aZ]),?_,fun b hb=>?_,(cG _ _ _).symm⟩
  ·rw [execOp_builtin,builtin_append]
   simp [show ac.eval (.const (.slice none 0 0)) = .slice none 0 0 from rfl,hrun]
  ·have h7:(OC.row e size news).ok h ρ v' w':=by simpa using h5
   exact h7
  ·rcases h6 b hb with h | h
   ·simp [aZ] at h
   ·exact .inr h
end
end Go.Sk
namespace Go.Sk
set_option linter.unusedSimpArgs false
set_option linter.unusedVariables false
open Go Go.BigFrame
section
variable {P:Program} {TB:aF} {E:Env TB} {n:Sh} {s s':St} {dst:Option Nat} {t ty yt:TypeId} {pos:String} {after:Array Edge} {g:Option (Nat × Bool)} {x y z c:Operand} {ops:Array Oper} {l:List Oper} {Q:bF} {cd:Code}
structure qC (P:Program) (t:TypeId) (pl:List (Nat × Nat)) (zs:List CP):Prop where
 info:∃ it z fs,P.info? t = some it ∧ it.zero = some z ∧ (∀ h,aA h zs z.cells.toList) ∧ P.underlying t = some (.struct fs) ∧ fs.toList.mapM (fun f=>(P.info? f.type).map fun i=>(f.offset,i.size)) = some pl
theorem u6 {pl:List (Nat × Nat)} {zs qs:List CP} {parts:Array (Nat × Operand)} {cps:List (Nat × List CP)} (ht:qC P t pl zs) (hp:eE s parts.toList = some cps) (hf:ir (pl.toArray[·]?) zs cps = some qs) :
  aR P E n ⟨dst,.build t parts,ty,pos,after,g⟩ s (s.put n dst (.b (.agg qs))) :=
 aR.val (o:=⟨dst,.build t parts,ty,pos,after,g⟩) fun ac w h ρ hw hs=>by
  obtain ⟨it,z,fs,h1,h2,h3,h4,h5⟩:=ht.info
  obtain ⟨cs,hc1,hc2⟩:=oP hs (pl.toArray[·]?) parts.toList cps zs qs z.cells hp hf (h3 h)
  refine ⟨.agg cs,?_,cs,rfl,hc2⟩
  have hb:P.built t (parts.map fun (i,x)=>(i,ac.eval x)).toList = some cs:=by
   simp only [Program.built,h1,h4,h2,h5]
   rw [← hc1]
   simp
  have:=run_build (P:=P) w t _ cs hb
  simp only [execOp]
  simp [this]
end
end Go.Sk
namespace Go.Sk
set_option linter.unusedSimpArgs false
set_option linter.unusedVariables false
open Go Go.BigFrame Go.Lib Go.Proofs Go.RowKit
structure zx (P:Program) (e:TypeId):Prop where
 info:∃ i,P.info? e = some i ∧ i.zero = some (.int .u8 0) ∧ i.size = 1 ∧ i.bytes = 1
theorem wi {h:PH}:∀ (q:Str),aA h ((ofStr q).map (eK .u8)).flatten (q.map fun b=>Value.int .u8 b.toNat)
 | []=>.nil
 | c :: q=>.cons ⟨rfl,inR_u8 (by show (0:Int) ≤ (c.toNat:Int); omega) (by have:=c.toNat_lt; show (c.toNat:Int) ≤ 255; omega)⟩ (wi q)
section
variable {P:Program} {TB:aF} {E:Env TB} {n:Sh} {s s':St} {dst:Option Nat} {t u ty yt:TypeId} {pos:String} {after:Array Edge} {g:Option (Nat × Bool)} {x y z c:Operand} {ops:Array Oper} {l:List Oper} {Q:bF} {cd:Code}
theorem yN {h:PH} {ρ:RM} {w:World} {v0:Value} {e:TypeId} {es:List (List CP)} {q:Str} (ht:P.underlying t = some (.slice e)) (hu:P.underlying u = some .string) (hb:zx P e)
  (hok:(OC.row e 1 es).ok h ρ v0 w) (hm:es.length + q.length ≤ 140737488355328) :
  ∃ v' w',(Builtin.append_ #[t,u] ty #[v0,.string ⟨⟨q⟩⟩]).run P w = .ok v' w' ∧ w.heap.size ≤ w'.heap.size ∧ w'.os = w.os ∧ w'.output = w.output ∧ (∀ b,b < w.heap.size → some b ≠ aZ v0 → w'.heap[b]? = w.heap[b]?) ∧
   (OC.row e 1 (es ++ (ofStr q).map (eK .u8))).ok h ρ v' w' ∧ (∀ b,aZ v' = some b → aZ v0 = some b ∨ w.heap.size ≤ b):=by
 obtain ⟨i,h1,h2,h3,h4⟩:=hb.info
 have hnp:=Ag hok
 obtain ⟨hun,hz,xs,how,hr⟩:=id hok
 have hsz:(⟨⟨q⟩⟩:ByteArray).size = q.length:=rfl
 have how1:w.ownsRow 0 e 1 v0 es.length xs:=how
 obtain ⟨v',w',hrun,how',hg,hnil⟩:=run_append_own_string (P:=P) (w:=w) 0 t u ty e i ht hu h1 h2 h3 h4 v0 es.length xs how1 ⟨⟨q⟩⟩ (by rw [hsz,c7]; omega) (by rw [hsz]; omega) (Nat.zero_le _)
 have hlen:(es ++ (ofStr q).map (eK .u8)).length = es.length + q.length:=by simp [ofStr]
 refine ⟨v',w',hrun,hg.size,hg.os,hg.output,fun b hb hne=>hg.block b hb (by rw [xZ hnp]; exact hne),⟨?_,hz,xs ++ (q.map fun b=>Value.int .u8 b.toNat),?_,?_⟩,?_⟩
 ·intro ps hps
  rcases List.mem_append.1 hps with h5 | h5
  ·exact hun ps h5
  ·obtain ⟨a,_,rfl⟩:=List.mem_map.1 h5; rfl
 ·rw [hlen]; exact how'
 ·rw [List.flatten_append]; exact aQ.append hr (wi q)
 ·rcases how1.2 with ⟨hv,hn0⟩ | ⟨gb,cap,cur,hv,_,hh,hn1,hn2,hn3,hn4⟩
  ·by_cases hm0:q.length = 0
   ·have:=hnil.2 ⟨hv,by rw [hsz]; exact hm0⟩
    rw [this]; intro b hb; simp [aZ] at hb
   ·have hr2:=run_append_nil_string (P:=P) (w:=w) t u ty e i (.int .u8 0) ht hu h1 h2 ⟨⟨q⟩⟩ (by rw [hsz]; omega) (by rw [hsz]; omega) (by rw [hsz,h4]; omega)
    rw [hv,hr2] at hrun
    cases hrun
    intro b hb; simp [aZ] at hb; subst hb; exact .inr (Nat.le_refl _)
  ·by_cases hroom:es.length + q.length ≤ cap
   ·have hr2:=run_append_room_string (P:=P) (w:=w) t u ty e i ht hu h1 h3 gb es.length cap cur hh ⟨⟨q⟩⟩ hroom (by rw [hsz]; simp at hn3; omega)
    rw [hv,hr2] at hrun
    cases hrun
    intro b hb; simp [aZ] at hb; subst hb; rw [hv]; exact .inl rfl
   ·have hold:∀ j u,xs[j]? = some u → w.cell? ((⟨gb,0,none⟩:Addr).add j) = some u:=how1.cells (g:=gb) (by rw [hv]; rfl)
    have hr2:=run_append_grow_string (P:=P) (w:=w) t u ty e i (.int .u8 0) ht hu h1 h2 ⟨gb,0,none⟩ es.length cap xs (by rw [h3]; exact how1.1) hold ⟨⟨q⟩⟩ (by rw [hsz]; omega) (by rw [hsz]; omega) (by rw [hsz,h4]; exact growslice_fits (by omega) (by omega))
    rw [hv,hr2] at hrun
    cases hrun
    intro b hb; simp [aZ] at hb; subst hb; exact .inr (Nat.le_refl _)
def Bu (xs:List Int) (q:Str):Option (List Int):=if xs.length + q.length ≤ 140737488355328 then some (xs ++ ofStr q) else none
theorem appS_ok {xs:List Int} {q:Str} {r:List Int} (h:Bu xs q = some r):xs.length + q.length ≤ 140737488355328 ∧ xs ++ ofStr q = r:=by
 unfold Bu at h; split at h
 ·next hh=>exact ⟨hh,by simpa using h⟩
 ·simp at h
theorem Ba {k:Nat} {e:TypeId} {xs r:List Int} {q:Str} (ht:P.underlying t = some (.slice e)) (hu:P.underlying u = some .string) (hb:zx P e) (h:Bu xs q = some r)
  (hx:s.ev x = some (.b (.row k))) (hk:lk s.own k = some (.row e 1 (xs.map (eK .u8)))) (hy:s.ev y = some (.b (.one (.str q)))) (hfx:n.fix.contains k = false) (hnu:di k s.own = true:=by rfl) :
  aR P E n ⟨dst,.call ⟨.builtin .append,#[x,y],#[t,u]⟩,ty,pos,after,g⟩ s ((⟨cn k s.slots,ins k (.row e 1 (r.map (eK .u8))) s.own⟩:St).put n dst (.b (.row k))) :=
 aR.make (hfx:=hfx) (hnu:=hnu) (o:=⟨dst,.call ⟨.builtin .append,#[x,y],#[t,u]⟩,ty,pos,after,g⟩) fun ac w h' ρ hw hs=>by
  obtain ⟨hm,rfl⟩:=appS_ok h
  have hv:ac.eval x = ρ k:=(aC hs hx:BV.rel h' ρ (.row k) _)
  obtain ⟨hq,_⟩:ac.eval y = .string ⟨⟨q⟩⟩ ∧ q.length ≤ maxLen:=(aC hs hy:(CP.str q).rel h' _)
  obtain ⟨v',w',hrun,h1,h2,h3,h4,h5,h6⟩:=yN (ty:=ty) ht hu hb (hw.owned k _ (bh hk)).1 (by rw [List.length_map]; exact hm)
  rw [List.map_append]
  refine ⟨v',v',w',aZ (ρ k),?_,fun b hb=>⟨_,bh hk,hb⟩,h1,h2,h3,h4,h5,h6,(cG _ _ _).symm⟩
  rw [execOp_builtin,builtin_append]
  simp [hv,hq,hrun]
end
end Go.Sk
namespace Go.Sk
set_option linter.unusedSimpArgs false
set_option linter.unusedVariables false
open Go Go.BigFrame Go.RowKit Go.Proofs Go.Shelf
def IM (n:Int):Option Str:=if (Lib.itoa n).length ≤ 1000000000 then some (Lib.itoa n) else none
def Co (s:Str) (c:Int):Option Str:=if 0 ≤ c ∧ c ≤ 1000000000 ∧ s.length * c.toNat ≤ 1000000000 then some (Lib.repeatL s c.toNat) else none
def IL (xs:List Str) (sep:Str):Option Str:=if xs.length ≤ 1000000000 ∧ (Lib.join xs sep).length ≤ 1000000000 then some (Lib.join xs sep) else none
variable {P:Program} {TB:aF} {ρ:Ren}
theorem JS {name:String} {gb:Nat} {k:IntKind} {zs:List Int} (hg:P.globalNamed name = some gb) (hm:(gb,zs.map fun z=>Value.int k z) ∈ TB) {h:PH} {w:World} (tb:cx TB h w):Lib.TabIs P w name k zs:=by
 obtain ⟨_,_,T,fz,h3⟩:=tb gb _ hm
 simp only [Lib.TabIs,World.var?,hg,Option.bind_some,h3]
theorem FT (L:LaysM.n171 P ρ) {gb:Nat} (hg:P.globalNamed "internal/strconv.uint64pow10" = some gb) (hm:(gb,Lib.pow10Tab.map fun z=>Value.int .u64 z) ∈ TB) {n:Int} {r:Str} (h:IM n = some r):aG P TB (ρ.f 171) [] [.one (.int .i64 n)] (Is [] (.b (.one (.str r)))):=by
 unfold IM at h
 split at h
 ·next hl=>
  cases h
  refine aG.lib fun w h ρ' vals tb hag ha=>?_
  obtain ⟨v,rfl,hv⟩:=Eg ha
  have hv':v = .int .i64 n ∧ kX .i64 n:=hv
  obtain ⟨rfl,hr⟩:=hv'
  obtain ⟨h0,h1⟩:=EN.1 hr
  refine (Any.strconv_Itoa L n h0 h1 w (JS hg hm tb)).mono ?_
  rintro e w' ⟨rfl,k,os,rfl⟩
  refine ⟨_,rfl,?_,rfl,by rw [c7]; omega⟩
  refine ⟨rfl,rfl,rfl,by simp [Sort.grow,World.drewN],fun b hb=>?_⟩
  have hb':b < (w.drewN k).heap.size:=hb
  simp [Sort.grow,Array.getElem?_append,hb']
  intro hh; exact absurd hb' (by omega)
 ·simp at h
theorem CX (L:Lays.n105 P ρ) (X:Builder.Extra P ρ) {s:Str} {c:Int} {r:Str} (h:Co s c = some r):aG P TB (ρ.f 105) [] [.one (.str s),.one (.int .i64 c)] (Is [] (.b (.one (.str r)))):=by
 unfold Co at h
 split at h
 ·next hl=>
  cases h
  refine aG.lib fun w h ρ' vals tb hag ha=>?_
  obtain ⟨v,u,rfl,hv,hu⟩:=sP ha
  have hv':v = .string ⟨⟨s⟩⟩ ∧ s.length ≤ maxLen:=hv
  have hu':u = .int .i64 c ∧ kX .i64 c:=hu
  obtain ⟨rfl,_⟩:=hv'
  obtain ⟨rfl,_⟩:=hu'
  obtain ⟨c0,rfl⟩:∃ m:Nat,c = m:=⟨c.toNat,by omega⟩
  simp only [Int.toNat_natCast] at hl ⊢
  refine (Any.strings_Repeat L X ⟨⟨s⟩⟩ c0 w (by omega) (by rw [tt]; omega)).mono ?_
  rintro e w' ⟨rfl,hb⟩
  refine ⟨_,rfl,hb,rfl,?_⟩
  rw [Lib.repeatL_length,c7,Nat.mul_comm]; omega
 ·simp at h
theorem FR (L:Lays.n156 P ρ) (X:Builder.Extra P ρ) {xs:List Str} {sep:Str} {r:Str} (h:IL xs sep = some r):aG P TB (ρ.f 156) [] [.one (.sl 1 (xs.map eS)),.one (.str sep)] (Is [] (.b (.one (.str r)))):=by
 unfold IL at h
 split at h
 ·next hl=>
  cases h
  refine aG.lib fun w h ρ' vals tb hag ha=>?_
  obtain ⟨v,u,rfl,hv,hu⟩:=sP ha
  have hu':u = .string ⟨⟨sep⟩⟩ ∧ sep.length ≤ maxLen:=hu
  obtain ⟨rfl,_⟩:=hu'
  obtain ⟨_,_,hv⟩:=(hv:(CP.sl 1 (xs.map eS)).rel h v)
  have hone:∀ {x:Str},Lib.join [x] sep = x:=fun {x}=>Lib.join_one x sep
  have hfl:∀ l:List Str,(l.map eS).flatten = l.map CP.str:=fun l=>by
   induction l with
   | nil=>rfl
   | cons a l ih=>simp only [List.map_cons,List.flatten_cons,ih,eS]; rfl
  have hmx:(Lib.join xs sep).length ≤ maxLen:=by rw [c7]; omega
  rcases hv with ⟨rfl,hn⟩ | ⟨b,o,c,rfl,h1,h2,h3⟩ | ⟨ad,rfl,hn⟩
  rotate_left 2
  ·have hx:xs = []:=by simpa using hn
   subst hx
   exact (Any.strings_Join_none L X (some ad) 0 ⟨⟨sep⟩⟩ w).mono fun e w' ⟨he,hw⟩=>⟨_,he,hw ▸ Below.refl _ _,rfl,hmx⟩
  ·have hx:xs = []:=by simpa using hn
   subst hx
   exact (Any.strings_Join_none L X none 0 ⟨⟨sep⟩⟩ w).mono fun e w' ⟨he,hw⟩=>⟨_,he,hw ▸ Below.refl _ _,rfl,hmx⟩
  ·rw [hfl] at h3
   have hcell:∀ (j:Nat) (x:Str),xs[j]? = some x → w.cell? ⟨b,o + j,none⟩ = some (.string ⟨⟨x⟩⟩):=fun j x hx=>by
    obtain ⟨u,hu1,hu2⟩:=h3 j (CP.str x) (by rw [List.getElem?_map,hx]; rfl)
    rw [hag.cell hu1 (CP.one _ hu2),hu2.1]
   rw [List.length_map] at h1 ⊢
   match xs,hl,hmx,h1,hcell with
   | [],_,hmx,_,_=>exact (Any.strings_Join_none L X _ c ⟨⟨sep⟩⟩ w).mono fun e w' ⟨he,hw⟩=>⟨_,he,hw ▸ Below.refl _ _,rfl,hmx⟩
   | [x],_,hmx,_,hcell=>
    refine (Any.strings_Join_one L X b o c ⟨⟨x⟩⟩ ⟨⟨sep⟩⟩ w (by simpa using hcell 0 x rfl)).mono fun e w' ⟨he,hw⟩=>⟨_,he,hw ▸ Below.refl _ _,?_,hmx⟩
    rw [hone]
   | x :: y :: r,hl,hmx,h1,hcell=>
    have hmap:((x :: y :: r).map fun l=>(⟨⟨l⟩⟩:ByteArray)).map (·.data.toList) = x :: y :: r:=by
     rw [List.map_map]
     exact List.map_id' _
    have hblk:b < w.heap.size:=FW (hcell 0 x rfl)
    have:=Any.strings_Join_many L X b o c ((x :: y :: r).map fun l=>(⟨⟨l⟩⟩:ByteArray)) ⟨⟨sep⟩⟩ w (fun j z hz=>by
     rw [List.getElem?_map] at hz
     simp only [Option.map_eq_some_iff] at hz
     obtain ⟨l,hl',rfl⟩:=hz
     exact hcell j l hl') hblk (by simp) (by rw [List.length_map]; omega) (by rw [List.length_map]; exact h1) (by rw [hmap]; show (Lib.join _ sep).length ≤ _; omega)
    rw [hmap,List.length_map] at this
    exact this.mono fun e w' ⟨he,hw⟩=>⟨_,he,hw,rfl,hmx⟩
 ·simp at h
end Go.Sk
namespace Go.Sk
set_option linter.unusedSimpArgs false
set_option linter.unusedVariables false
open Go Go.BigFrame Go.RowKit Go.Proofs Go.Shelf
def cut? (s sep:Str):Option (Str × Str × Bool):=if s.length < 1000000000 then some (Lib.cut s sep) else none
variable {P:Program} {TB:aF} {ρ:Ren}
theorem cut_len (s sep:Str):(Lib.cut s sep).1.length ≤ s.length ∧ (Lib.cut s sep).2.1.length ≤ s.length:=by
 unfold Lib.cut
 split <;> simp <;> omega
theorem aG.libS {P:Program} {TB:aF} {f:FuncId} {args:List BV} {res:SV}
  (H:∀ (w:World) (h:PH) (ρ:RM) (vals:List Value),cx TB h w → oI h w → aQ (fun (x:BV) v=>x.rel h ρ v) args vals → Calls P f vals.toArray w fun e w'=>∃ v,e = .returned v ∧ Below w.heap.size w w' ∧ res.rel h ρ v):aG P TB f [] args (Is [] res):=by
 intro w h ρ vals tb hag hl ha
 refine (H w h ρ vals tb hag ha).mono ?_
 rintro e w' ⟨v,rfl,hb,hr⟩
 refine ⟨v,[],res,h,ρ,rfl,⟨rfl,rfl⟩,⟨fun b o u hu=>?_,PH.le_refl _,fun _ _ _=>rfl,hb.size,fun b hb' _=>hb.block b hb',fun k hk=>by simp [aq] at hk,hb.os,hb.output,fun b hb'=>?_,fun k c hk=>by simp at hk⟩,hr⟩
 ·have hc:=hag b o u hu
  have hlt:b < w.heap.size:=gM hc
  rw [mD (hb.block b hlt)]; exact hc
 ·obtain ⟨k,hk,_⟩:=hb'
  simp [ai] at hk
theorem HZ (L:LaysM.n145 P ρ) {m:Int} (hm:(ρ.g 1,[Value.int .i64 m]) ∈ TB) {s sep:Str} {r:Str × Str × Bool} (h:cut? s sep = some r):aG P TB (ρ.f 145) [] [.one (.str s),.one (.str sep)] (Is [] (.kU [.one (.str r.1),.one (.str r.2.1),.one (.bool r.2.2)])):=by
 unfold cut? at h
 split at h
 ·next hl=>
  cases h
  refine aG.libS fun w h ρ' vals tb hag ha=>?_
  obtain ⟨v,u,rfl,hv,hu⟩:=sP ha
  have hv':v = .string ⟨⟨s⟩⟩ ∧ s.length ≤ maxLen:=hv
  have hu':u = .string ⟨⟨sep⟩⟩ ∧ sep.length ≤ maxLen:=hu
  obtain ⟨rfl,_⟩:=hv'
  obtain ⟨rfl,_⟩:=hu'
  have hc:w.cell? ⟨ρ.g 1,0,none⟩ = some (.int .i64 m):=hag.cell ((tb _ _ hm).2.1 0 _ rfl) rfl
  refine (Any.strings_Cut { L with } ⟨⟨s⟩⟩ ⟨⟨sep⟩⟩ m w (by rw [tt]; omega) hc).mono ?_
  rintro e w' ⟨rfl,k,rfl⟩
  have hcl:=cut_len s sep
  refine ⟨_,rfl,?_,?_⟩
  ·exact ⟨rfl,rfl,rfl,by simp [World.drewN],fun b hb=>rfl⟩
  ·exact ⟨_,rfl,.cons ⟨rfl,by rw [c7]; omega⟩ (.cons ⟨rfl,by rw [c7]; omega⟩ (.cons rfl .nil))⟩
 ·simp at h
theorem yE (L:Lays.n99 P ρ) {s p:Str} {r:Bool} (h:some (Lib.hasPrefix s p) = some r):aG P TB (ρ.f 99) [] [.one (.str s),.one (.str p)] (Is [] (.b (.one (.bool r)))):=by
 obtain rfl:=Option.some.inj h
 refine aG.lib fun w h ρ' vals tb hag ha=>?_
 obtain ⟨v,u,rfl,hv,hu⟩:=sP ha
 have hv':v = .string ⟨⟨s⟩⟩ ∧ s.length ≤ maxLen:=hv
 have hu':u = .string ⟨⟨p⟩⟩ ∧ p.length ≤ maxLen:=hu
 obtain ⟨rfl,_⟩:=hv'
 obtain ⟨rfl,_⟩:=hu'
 exact (Any.strings_HasPrefix L ⟨⟨s⟩⟩ ⟨⟨p⟩⟩ w).mono fun e w' ⟨he,hw⟩=>⟨_,he,hw ▸ Below.refl _ _,rfl⟩
end Go.Sk
namespace Go.Sk
set_option linter.unusedSimpArgs false
set_option linter.unusedVariables false
open Go Go.BigFrame Go.RowKit Go.Proofs Go.Shelf
def Aw (s:Str) (c:Int):Option Int:=some (Lib.indexByte s c.toNat.toUInt8)
variable {P:Program} {TB:aF} {ρ:Ren}
theorem C5 (l:List UInt8) (c:UInt8):Lib.indexByte l c ≤ l.length:=by
 induction l with
 | nil=>simp [Lib.indexByte]
 | cons x l ih=>
  unfold Lib.indexByte
  split
  ·simp
   omega
  ·try split
   all_goals simp only [List.length_cons]; omega
theorem yD (L:Lays.n217 P ρ) {s:Str} {c r:Int} (h:Aw s c = some r):aG P TB (ρ.f 217) [] [.one (.str s),.one (.int .u8 c)] (Is [] (I r)):=by
 obtain rfl:=Option.some.inj h
 refine aG.lib fun w h ρ' vals tb hag ha=>?_
 obtain ⟨v,u,rfl,hv,hu⟩:=sP ha
 have hv':v = .string ⟨⟨s⟩⟩ ∧ s.length ≤ maxLen:=hv
 have hu':u = .int .u8 c ∧ _:=hu
 obtain ⟨rfl,hl⟩:=hv'
 obtain ⟨rfl,_⟩:=hu'
 have h1:=Lib.indexByte_ge s c.toNat.toUInt8
 have h2:=C5 s c.toNat.toUInt8
 refine (Any.stringslite_IndexByte L ⟨⟨s⟩⟩ c w).mono fun e w' ⟨he,hw⟩=>⟨_,he,hw ▸ Below.refl _ _,rfl,?_⟩
 rw [c7] at hl
 exact Cx (by omega) (by omega)
end Go.Sk
