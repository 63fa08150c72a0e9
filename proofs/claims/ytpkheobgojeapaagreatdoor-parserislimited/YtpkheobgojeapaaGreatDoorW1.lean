/- printed walks -/
import Derived.Test.YtpkheobgojeapaaGreatDoorG1
namespace Go.Dn.X
open Go Go.Sk Go.Dn Go.Proofs
set_option maxHeartbeats 4000000
set_option maxRecDepth 4000
set_option linter.unusedVariables false
variable {mx:Int}
def gZ (F:Nat) (b0:Int):Option Bool :=
 (iO F b0).bind fun x_1=>(bo (!x_1) (j6 F b0)).bind fun x_2=>some ((x_1 || x_2) || (decide (b0 = 95)))
theorem pw {F:Nat} {b0:Int} {r:Bool} (h:gZ F b0 = some r):aG Tryz.prog (aw mx) 85 [] [.one (.int .u8 b0)] (Is [] (.b (.one (.bool r)))):=by
 unfold gZ at h
 refine aG.intro 13 Tryz.func85 Tryz.ntmps85 rfl (by simp) fun E=>?_
 show ah _ E ⟨13,[],[],[]⟩ _ ⟨[(0,.b (.one (.int .u8 b0)))],[]⟩ _
 refine ah.seq (ah.ab ?_)
 refine Oc oa (aj.aV ⟨[(0,.b (.one (.int .u8 b0)))],[]⟩ rfl (ah.seq (ah.ab ?_)))
 refine Oc om ?_
 obtain ⟨x_1,e1,h⟩:=aJ h
 refine Oc (ct (ly e1) Fl rfl rfl) (Oc om ?_)
 refine AT (!x_1) [] (fun g2=>trivial) (fun g2=>om) (aj.aD ⟨[(0,_),(5,B x_1),(6,.opt (!x_1) (.one (.int .u8 b0)))],[]⟩ rfl ?_)
 obtain ⟨x_2,e4,h⟩:=aJ h
 refine AT (!x_1) [6] (fun g3=>⟨g3,trivial⟩) (fun g3=>ct (mH (gc e4 g3)) Fk rfl rfl) (Oc (ff (fun e=>by first | (rw [e]; rfl) | (simp only at e; rw [e]; rfl)) rfl rfl rfl rfl) (Oc om ?_))
 refine AT (!(x_1 || x_2)) [] (fun g5=>trivial) (fun g5=>om) (AT (!(x_1 || x_2)) [10] (fun g6=>by exact ⟨g6,trivial⟩) (fun g6=>nF rfl rfl) (Oc (ff (fun e=>by first | (rw [e]; rfl) | (simp only at e; rw [e]; rfl)) rfl rfl rfl rfl) (Oc oa ?_)))
 refine aj.aV ⟨[(2,B ((x_1 || x_2) || (decide (b0 = 95))))],[]⟩ rfl (ah.ret ?_)
 obtain rfl:=Option.some.inj h
 refine Fin.aD ⟨[(2,_)],[]⟩ rfl (Fin.eM [.one (.bool ((x_1 || x_2) || (decide (b0 = 95))))] (.inl rfl) rfl (.cons (.tmp rfl) .nil) ⟨rfl,rfl⟩)
def gX (F:Nat) (b0:Int):Option Bool :=
 (jN F [32,9,10,13] b0).bind fun x_1=>some (decide (0 ≤ x_1))
theorem pg {F:Nat} {b0:Int} {r:Bool} (h:gX F b0 = some r):aG Tryz.prog (aw mx) 92 [] [.one (.int .u8 b0)] (Is [] (.b (.one (.bool r)))):=by
 unfold gX at h
 refine aG.intro 6 Tryz.func92 Tryz.ntmps92 rfl (by simp) fun E=>?_
 show ah _ E ⟨6,[],[],[]⟩ _ ⟨[(0,.b (.one (.int .u8 b0)))],[]⟩ _
 refine ah.seq (ah.ab ?_)
 refine Oc oa (aj.aV ⟨[(0,.b (.one (.int .u8 b0)))],[]⟩ rfl (ah.seq (ah.ab ?_)))
 refine Oc om ?_
 obtain ⟨x_1,e1,h⟩:=aJ h
 refine Oc (ct (rH e1) goes93 rfl rfl) (Oc (I' rfl rfl) (Oc oa ?_))
 refine aj.aV ⟨[(2,B (decide (0 ≤ x_1)))],[]⟩ rfl (ah.ret ?_)
 obtain rfl:=Option.some.inj h
 refine Fin.aD ⟨[(2,_)],[]⟩ rfl (Fin.eM [.one (.bool (decide (0 ≤ x_1)))] (.inl rfl) rfl (.cons (.tmp rfl) .nil) ⟨rfl,rfl⟩)
def gW (F:Nat) (b0:Int):Option Bool :=
 some (decide (b0 ≠ 10))
theorem pf {F:Nat} {b0:Int} {r:Bool} (h:gW F b0 = some r):aG Tryz.prog (aw mx) 94 [] [.one (.int .u8 b0)] (Is [] (.b (.one (.bool r)))):=by
 unfold gW at h
 refine aG.intro 5 Tryz.func94 Tryz.ntmps94 rfl (by simp) fun E=>?_
 show ah _ E ⟨5,[],[],[]⟩ _ ⟨[(0,.b (.one (.int .u8 b0)))],[]⟩ _
 refine ah.seq (ah.ab ?_)
 refine Oc oa (aj.aV ⟨[(0,.b (.one (.int .u8 b0)))],[]⟩ rfl (ah.seq (ah.ab ?_)))
 refine Oc om (Oc (wX rfl rfl) (Oc oa ?_))
 refine aj.aV ⟨[(2,B (decide (b0 ≠ 10)))],[]⟩ rfl (ah.ret ?_)
 obtain rfl:=Option.some.inj h
 refine Fin.aD ⟨[(2,_)],[]⟩ rfl (Fin.eM [.one (.bool (decide (b0 ≠ 10)))] (.inl rfl) rfl (.cons (.tmp rfl) .nil) ⟨rfl,rfl⟩)
def sO (F:Nat) (fn0:Nat) (b0:Int):Option Bool :=
 if fn0 = 85 then gZ F b0 else if fn0 = 86 then j6 F b0 else if fn0 = 92 then gX F b0 else if fn0 = 94 then gW F b0 else none
theorem EP {F:Nat} {fn0:Nat} {b0:Int} {r:Bool} (h:sO F fn0 b0 = some r):aG Tryz.prog (aw mx) fn0 [] [.one (.int .u8 b0)] (Is [] (.b (.one (.bool r)))):=by
 unfold sO at h
 split at h
 ·next e=>subst e; exact pw h
 ·next=>
  split at h
  ·next e=>subst e; exact mH h
  ·next=>
   split at h
   ·next e=>subst e; exact pg h
   ·next=>
    split at h
    ·next e=>subst e; exact pf h
    ·next=>
     simp at h
theorem ER {F:Nat} {fn0:Nat} {b0:Int} {r:Bool} (h:sO F fn0 b0 = some r):dw Tryz.prog fn0:=by
 unfold sO at h
 split at h
 ·next e=>subst e; exact goes85
 ·next=>
  split at h
  ·next e=>subst e; exact Fk
  ·next=>
   split at h
   ·next e=>subst e; exact goes92
   ·next=>
    split at h
    ·next e=>subst e; exact goes94
    ·next=>
     simp at h
def bz (F:Nat) (c0s:Str) (c0at:Int):Option Int :=
 if (decide (c0at = (c0s.length:Int))) = true then (some 0) else ((aH c0s c0at).bind fun x_1=>some (x_1.toNat:Int))
theorem bB {F:Nat} {c0s:Str} {c0at:Int} {r:Int} (h:bz F c0s c0at = some r):aG Tryz.prog (aw mx) 83 [(1,.box 92 [.str c0s,.i c0at])] [.ptr 1 0] (Is [(1,.box 92 [.str c0s,.i c0at])] (.b (.one (.int .u8 r)))):=by
 unfold bz at h
 refine aG.intro 22 Tryz.func83 Tryz.ntmps83 rfl (by simp) fun E=>?_
 show ah _ E ⟨22,[1],[1],[]⟩ _ ⟨[(0,Pt 1 0)],[(1,.box 92 [.str c0s,.i c0at])]⟩ _
 refine ah.seq (ah.ab ?_)
 refine Oc oa (aj.aV ⟨[(0,Pt 1 0)],[(1,.box 92 [.str c0s,.i c0at])]⟩ rfl (ah.seq (ah.seq ?_)))
 refine ah.aD ⟨[(0,_)],[(1,_)]⟩ rfl (ah.og mixed 10 [Pt 1 0,Pt 1 0,Pt 1 1,I c0at,Pt 1 0,Pt 1 0,Pt 1 0,.b (.one (.str c0s)),I (c0s.length:Int),B (decide (c0at = (c0s.length:Int)))] [0,12] [1] (s':=⟨[(0,_),(12,B (decide (c0at = (c0s.length:Int))))],[(1,_)]⟩) rfl ⟨fun _=>.p om,fun _=>.p (au rfl),fun _=>.p (ax bu rfl rfl),fun _=>.p (aI cP rfl rfl rfl),fun _=>.p om,fun _=>.p (au rfl),fun _=>.p (ax gu rfl rfl),fun _=>.p (aI gn rfl rfl rfl),fun _=>.p (fY oD rfl),fun _=>.p (nF rfl rfl),trivial⟩ rfl rfl (ah.ite h rfl (fun _ h=>?_) (fun _ h=>?_)))
 ·refine ah.seq (ah.ab ?_)
  refine Oc oa (aj.aV ⟨[(2,.b (.one (.int .u8 0)))],[(1,_)]⟩ rfl (ah.ret (Fin.cr ?_)))
  obtain rfl:=Option.some.inj h
  refine Fin.aD ⟨[(2,_)],[(1,_)]⟩ rfl ?_
  exact Fin.result [.one (.int .u8 0)] (.inl rfl) rfl (.cons (.tmp rfl) .nil) ⟨rfl,rfl⟩
 ·refine ah.skip (Fin.aD ⟨[(0,_)],[(1,_)]⟩ rfl (Fin.then (ah.seq ?_)))
  refine ah.aD ⟨[(0,_)],[(1,_)]⟩ rfl ?_
  obtain ⟨x_1,e1,h⟩:=aJ h
  refine ah.og mixed 10 [Pt 1 0,Pt 1 0,Pt 1 0,.b (.one (.str c0s)),Pt 1 0,Pt 1 0,Pt 1 1,I c0at,.b (.one (.int .u8 (x_1.toNat:Int))),.b (.one (.int .u8 (x_1.toNat:Int)))] [2] [1] (s':=⟨[(2,.b (.one (.int .u8 (x_1.toNat:Int))))],[(1,_)]⟩) rfl ⟨fun _=>.p om,fun _=>.p (au rfl),fun _=>.p (ax gu rfl rfl),fun _=>.p (aI gn rfl rfl rfl),fun _=>.p om,fun _=>.p (au rfl),fun _=>.p (ax bu rfl rfl),fun _=>.p (aI cP rfl rfl rfl),fun _=>.p (gP oD rfl rfl (fa e1) (oL e1)),fun _=>.p oa,trivial⟩ rfl rfl (ah.ret ?_)
  obtain rfl:=Option.some.inj h
  refine Fin.aD ⟨[(2,_)],[(1,_)]⟩ rfl ?_
  exact Fin.result [.one (.int .u8 (x_1.toNat:Int))] (.inl rfl) rfl (.cons (.tmp rfl) .nil) ⟨rfl,rfl⟩
def cX (F:Nat) (is0:Nat) (c0s:Str) (c0at:Int):Option (Int × Str × Int) :=
 Option.bind (iter F (fun c_2=>(bo (decide (c_2.pos < (c_2.s.length:Int))) (aH c_2.s c_2.pos)).bind fun x_4=>(bo (decide (c_2.pos < (c_2.s.length:Int))) (sO F is0 (x_4.toNat:Int))).bind fun x_5=>if ((decide (c_2.pos < (c_2.s.length:Int))) && x_5) = true then (some (.inl (⟨c_2.s,IntKind.i64.wrap (c_2.pos + 1)⟩:Scan))) else (some (.inr c_2))) (⟨c0s,c0at⟩:Scan)) (fun c_1=>some (IntKind.i64.wrap (c_1.pos - c0at),c_1.s,c_1.pos))
theorem dD {F:Nat} {is0:Nat} {c0s:Str} {c0at:Int} {r:Int × Str × Int} (h:cX F is0 c0s c0at = some r):aG Tryz.prog (aw mx) 84 [(1,.box 92 [.str c0s,.i c0at])] [.ptr 1 0,.one (.raw (.func (.func is0) #[] #[]))] (Is [(1,.box 92 [.str r.2.1,.i r.2.2])] (.b (.one (.i r.1)))):=by
 unfold cX at h
 refine aG.intro 46 Tryz.func84 Tryz.ntmps84 rfl (by simp) fun E=>?_
 show ah _ E ⟨46,[1],[1],[]⟩ _ ⟨[(0,Pt 1 0),(1,.b (.one (.raw (.func (.func is0) #[] #[]))))],[(1,.box 92 [.str c0s,.i c0at])]⟩ _
 refine ah.seq (ah.ab ?_)
 refine Oc oa (aj.aV ⟨[(0,Pt 1 0),(1,.b (.one (.raw (.func (.func is0) #[] #[]))))],[(1,.box 92 [.str c0s,.i c0at])]⟩ rfl (ah.seq (ah.ab ?_)))
 refine Oc om (Oc (au rfl) (Oc (ax bu rfl rfl) (Oc (aI cP rfl rfl rfl) (Oc oa ?_))))
 refine aj.aV ⟨[(0,_),(1,_),(5,I c0at)],[(1,_)]⟩ rfl ?_
 obtain ⟨v1,h2,h⟩:=aJ h
 refine ah.oE (v:=v1) (fun (c_1:Scan)=>⟨[(0,Pt 1 0),(5,I c0at)],[(1,.box 92 (jZ c_1))]⟩) (fun z=>z) ?_ ?_
 ·refine ah.block (ah.qw h2 (fun (c_2:Scan)=>⟨[(0,Pt 1 0),(1,.b (.one (.raw (.func (.func is0) #[] #[])))),(5,I c0at)],[(1,.box 92 (jZ c_2))]⟩) [0,1,5] [1] rfl ?_)
  rintro c_2 o3 h4 hy5
  refine ah.seq (ah.seq ?_)
  refine ah.aD ⟨[(0,_),(1,_),(5,_)],[(1,_)]⟩ rfl ?_
  obtain ⟨x_4,e16,h4⟩:=aJ h4
  obtain ⟨x_5,e18,h4⟩:=aJ h4
  refine ah.og mixed 23 [Pt 1 0,Pt 1 0,Pt 1 1,I c_2.pos,Pt 1 0,Pt 1 0,Pt 1 0,.b (.one (.str c_2.s)),I (c_2.s.length:Int),B (decide (c_2.pos < (c_2.s.length:Int))),B (decide (c_2.pos < (c_2.s.length:Int))),.opt (decide (c_2.pos < (c_2.s.length:Int))) (.one (.raw (.func (.func is0) #[] #[]))),.opt (decide (c_2.pos < (c_2.s.length:Int))) (.ptr 1 0),.opt (decide (c_2.pos < (c_2.s.length:Int))) (.ptr 1 0),.opt (decide (c_2.pos < (c_2.s.length:Int))) (.ptr 1 0),.opt (decide (c_2.pos < (c_2.s.length:Int))) (.one (.str c_2.s)),.opt (decide (c_2.pos < (c_2.s.length:Int))) (.ptr 1 0),.opt (decide (c_2.pos < (c_2.s.length:Int))) (.ptr 1 0),.opt (decide (c_2.pos < (c_2.s.length:Int))) (.ptr 1 1),.opt (decide (c_2.pos < (c_2.s.length:Int))) (.one (.i c_2.pos)),.opt (decide (c_2.pos < (c_2.s.length:Int))) (.one (.int .u8 (x_4.toNat:Int))),.opt (decide (c_2.pos < (c_2.s.length:Int))) (.one (.bool x_5)),B ((decide (c_2.pos < (c_2.s.length:Int))) && x_5)] [0,1,5,32] [1] (s':=⟨[(0,_),(1,_),(5,_),(32,B ((decide (c_2.pos < (c_2.s.length:Int))) && x_5))],[(1,_)]⟩) rfl ⟨fun _=>.p om,fun _=>.p (au rfl),fun _=>.p (ax bu rfl rfl),fun _=>.p (aI cP rfl rfl rfl),fun _=>.p om,fun _=>.p (au rfl),fun _=>.p (ax gu rfl rfl),fun _=>.p (aI gn rfl rfl rfl),fun _=>.p (fY oD rfl),fun _=>.p (k8 rfl rfl),fun _=>.p om,fun _=>by exact .guard (decide (c_2.pos < (c_2.s.length:Int))) 1 [] (.plain rfl) (ji _) rfl rfl (fun g6=>trivial) (fun g6=>om),fun _=>by exact .guard (decide (c_2.pos < (c_2.s.length:Int))) 1 [] (.plain rfl) (ji _) rfl rfl (fun g7=>trivial) (fun g7=>om),fun _=>by exact .guard (decide (c_2.pos < (c_2.s.length:Int))) 2 [22] (.plain rfl) (ji _) rfl rfl (fun g8=>⟨g8,trivial⟩) (fun g8=>au rfl),fun _=>by exact .guard (decide (c_2.pos < (c_2.s.length:Int))) 2 [23] (.plain rfl) (ji _) rfl rfl (fun g9=>⟨g9,trivial⟩) (fun g9=>ax gu rfl rfl),fun _=>by exact .guard (decide (c_2.pos < (c_2.s.length:Int))) 2 [24] (.plain rfl) (ji _) rfl rfl (fun g10=>⟨g10,trivial⟩) (fun g10=>aI gn rfl rfl rfl),fun _=>by exact .guard (decide (c_2.pos < (c_2.s.length:Int))) 1 [] (.plain rfl) (ji _) rfl rfl (fun g11=>trivial) (fun g11=>om),fun _=>by exact .guard (decide (c_2.pos < (c_2.s.length:Int))) 2 [26] (.plain rfl) (ji _) rfl rfl (fun g12=>⟨g12,trivial⟩) (fun g12=>au rfl),fun _=>by exact .guard (decide (c_2.pos < (c_2.s.length:Int))) 2 [27] (.plain rfl) (ji _) rfl rfl (fun g13=>⟨g13,trivial⟩) (fun g13=>ax bu rfl rfl),fun _=>by exact .guard (decide (c_2.pos < (c_2.s.length:Int))) 2 [28] (.plain rfl) (ji _) rfl rfl (fun g14=>⟨g14,trivial⟩) (fun g14=>aI cP rfl rfl rfl),fun _=>by exact .guard (decide (c_2.pos < (c_2.s.length:Int))) 3 [25,29] (.plain rfl) (ji _) rfl rfl (fun g15=>⟨g15,g15,trivial⟩) (fun g15=>gP oD rfl rfl (fa (gc e16 g15)) (oL (gc e16 g15))),fun _=>by exact .guard (decide (c_2.pos < (c_2.s.length:Int))) 4 [21,30] (.plain rfl) (ji _) rfl rfl (fun g17=>⟨g17,g17,trivial⟩) (fun g17=>HW (EP (gc e18 g17)) (ER (gc e18 g17)) rfl rfl rfl),fun _=>.p (fJ (fun e=>e) rfl rfl rfl rfl),trivial⟩ rfl rfl ?_
  refine ah.ite h4 rfl (fun _ h4=>?_) (fun _ h4=>?_)
  ·refine ah.skip (Fin.aD ⟨[(0,_),(1,_),(5,_)],[(1,_)]⟩ rfl (Fin.then (ah.block (ah.ab ?_))))
   refine Oc om (Oc (au rfl) (Oc (ax bu rfl rfl) (Oc (aI cP rfl rfl rfl) (Oc (ef rfl rfl) (Oc (au rfl) ?_)))))
   refine Oc (ax bu rfl rfl) (Oc (dK cP rfl rfl rfl (Nat.le_of_ble_eq_true rfl) rfl) ?_)
   refine aj.nil (Fin.bD ?_)
   exact Fin.jM [0,1,5] [1] (⟨c_2.s,IntKind.i64.wrap (c_2.pos + 1)⟩:Scan) (Option.some.inj h4) rfl
  ·refine ah.exit (Fin.bw ?_)
   obtain rfl:=hy5 _ (Option.some.inj h4).symm
   refine Fin.bw (Fin.cJ ?_)
   exact Fin.join [0,5] [1] c_2 rfl rfl
 ·rintro c_1 hv
  subst v1
  refine ah.seq (ah.ab ?_)
  refine Oc om (Oc (au rfl) (Oc (ax bu rfl rfl) (Oc (aI cP rfl rfl rfl) (Oc om (Oc (wW rfl rfl) ?_)))))
  refine Oc oa (aj.aV ⟨[(4,I (IntKind.i64.wrap (c_1.pos - c0at)))],[(1,_)]⟩ rfl (ah.ret ?_))
  obtain rfl:=Option.some.inj h
  refine Fin.aD ⟨[(4,_)],[(1,_)]⟩ rfl ?_
  exact Fin.result [.one (.i (IntKind.i64.wrap (c_1.pos - c0at)))] (.inl rfl) rfl (.cons (.tmp rfl) .nil) ⟨rfl,rfl⟩
def bU (F:Nat) (at0:Int) (e0:Int) (c0s:Str) (c0at:Int):Option Problem :=
 some (⟨at0,e0⟩:Problem)
theorem ck {F:Nat} {at0:Int} {e0:Int} {c0s:Str} {c0at:Int} {r:Problem} (h:bU F at0 e0 c0s c0at = some r):gJ Tryz.prog (aw mx) 87 [(1,.box 92 [.str c0s,.i c0at])] [.ptr 1 0,.one (.i at0),.one (.i e0)] ((fun p:Problem=>.iface 33 (.agg #[.int .i64 p.At,.int .i64 p.E])) r) ((fun p:Problem=>kX .i64 p.At ∧ kX .i64 p.E) r):=by
 unfold bU at h
 refine eH.intro 10 Tryz.func87 Tryz.ntmps87 rfl (by simp) fun E=>?_
 show ah _ E ⟨10,[1],[1],[]⟩ _ ⟨[(0,Pt 1 0),(1,I at0),(2,I e0)],[(1,.box 92 [.str c0s,.i c0at])]⟩ _
 refine ah.ab (Oc om (Oc om (Oc (hN By rfl rfl) (Oc (wm conc33 rfl) ?_))))
 refine aj.panic2 rfl (fun hok=>?_)
 obtain rfl:=Option.some.inj h
 exact Fin.qb ⟨rfl,hok⟩
def ez (F:Nat) (c0s:Str) (c0at:Int):Option ((Token × Bool × Str × Int) ⊕ Problem) :=
 (bz F c0s c0at).bind fun x_1=>(iO F x_1).bind fun x_2=>if (!x_2) = true then (some (.inl ((⟨0,0,[]⟩:Token),false,c0s,c0at))) else (Option.bind (Option.bind (cX F 85 c0s c0at) (un3 fun x_4 x_5 x_6=>if (decide (32 < x_4)) = true then ((bU F c0at 2 x_5 x_6).bind fun p_7=>some (.inr (.inr p_7))) else (some (.inl (⟨x_5,x_6⟩:Scan))))) (ee (fun c_3=>Option.bind (Dh c_3.s c0at c_3.pos) (fun x_8=>Option.bind ((rz F x_8).bind fun x_10=>if x_10 = true then (some (⟨1,c0at,x_8⟩:Token)) else (some (⟨2,c0at,x_8⟩:Token))) (fun t_9=>some (.inl (t_9,true,c_3.s,c_3.pos))))) (fun y=>some y)))
theorem kj {F:Nat} {c0s:Str} {c0at:Int} {r:(Token × Bool × Str × Int) ⊕ Problem} (h:ez F c0s c0at = some r):eH Tryz.prog (aw mx) 34 [(1,.box 92 [.str c0s,.i c0at])] [.ptr 1 0] (IsP r (fun (r:Token × Bool × Str × Int)=>[(1,.box 92 [.str r.2.2.1,.i r.2.2.2])]) (fun (r:Token × Bool × Str × Int)=>.kU [.agg (bt r.1),.one (.bool r.2.1)])) (HC r (fun p:Problem=>.iface 33 (.agg #[.int .i64 p.At,.int .i64 p.E])) (fun p:Problem=>kX .i64 p.At ∧ kX .i64 p.E)):=by
 unfold ez at h
 refine eH.intro 38 Tryz.func34 Tryz.ntmps34 rfl (by simp) fun E=>?_
 show ah _ E ⟨38,[1],[1],[]⟩ _ ⟨[(0,Pt 1 0)],[(1,.box 92 [.str c0s,.i c0at])]⟩ _
 refine ah.seq (ah.ab ?_)
 refine Oc (cz (k:=101) j2 rfl) (Oc oa ?_)
 refine aj.aV ⟨[(0,Pt 1 0),(2,Pt 101 0)],[(1,.box 92 [.str c0s,.i c0at]),(101,.box 67 [.i 0,.i 0,.str []])]⟩ rfl (ah.seq (ah.ab ?_))
 refine Oc om (Oc (au rfl) (Oc (ax bu rfl rfl) (Oc (aI cP rfl rfl rfl) (Oc oa ?_))))
 refine aj.aV ⟨[(0,_),(2,_),(4,I c0at)],[(1,_),(101,_)]⟩ rfl (ah.seq (ah.seq (ah.ab ?_)))
 refine Oc om ?_
 obtain ⟨x_1,e1,h⟩:=aJ h
 refine Oc (dx (own_a:=[(1,_)]) (bB e1) qe rfl ⟨rfl,trivial⟩ rfl rfl) ?_
 obtain ⟨x_2,e2,h⟩:=aJ h
 refine Oc (ct (ly e2) Fl rfl rfl) (Oc (Cd rfl) ?_)
 refine aj.aV ⟨[(0,_),(2,_),(4,_),(13,B (!x_2))],[(1,_),(101,_)]⟩ rfl (ah.ite h rfl (fun _ h=>?_) (fun _ h=>?_))
 ·refine ah.seq (ah.ab ?_)
  refine Oc (hN jo rfl rfl) (Oc (aW cZ rfl rfl rfl rfl (Nat.le_of_ble_eq_true rfl) rfl) (Oc oa ?_))
  refine aj.aV ⟨[(2,_),(3,B false)],[(1,_),(101,_)]⟩ rfl (ah.ret (Fin.cr ?_))
  obtain rfl:=Option.some.inj h
  refine Fin.aD ⟨[(2,_),(3,_)],[(1,_),(101,_)]⟩ rfl (Fin.EY (.inl rfl) ?_)
  exact Fin.q7 [1] [.agg [.i 0,.i 0,.str []],.one (.bool false)] (.inl rfl) rfl (.cons (.Da (.agg cZ rfl rfl rfl rfl)) (.cons (.Da (.tmp rfl)) .nil)) ⟨_,rfl,rfl,rfl⟩
 ·refine ah.skip (Fin.aD ⟨[(0,_),(2,_),(4,_)],[(1,_),(101,_)]⟩ rfl (Fin.then ?_))
  obtain ⟨v3,h4,h⟩:=aJ h
  refine ah.oE (v:=v3) (fun (c_3:Scan)=>⟨[(0,Pt 1 0),(2,Pt 101 0),(4,I c0at)],[(1,.box 92 (jZ c_3)),(101,.box 67 [.i 0,.i 0,.str []])]⟩) (fun z=>.inl z) ?_ ?_
  ·refine ah.seq (ah.ab ?_)
   refine Oc om ?_
   obtain ⟨⟨x_4,x_5,x_6⟩,e5,h4⟩:=aJ h4
   refine Oc (dx (own_a:=[(1,_)]) (dD e5) zp rfl ⟨rfl,trivial⟩ rfl rfl) (Oc (oJ rfl rfl) ?_)
   refine aj.aV ⟨[(0,_),(2,_),(4,_),(17,B (decide (32 < x_4)))],[(1,.box 92 [.str x_5,.i x_6]),(101,_)]⟩ rfl (ah.ite h4 rfl (fun _ h4=>?_) (fun _ h4=>?_))
   ·refine ah.ab (Oc om (Oc om ?_))
    obtain ⟨p_7,e6,h4⟩:=aJ h4
    refine aj.tA (own_a:=[(1,_)]) (ck e6) uT rfl ⟨rfl,trivial⟩ (fun hok=>?_)
    obtain rfl:=Option.some.inj h4
    refine Fin.bx ?_
    obtain rfl:=Option.some.inj h
    exact Fin.qb ⟨_,rfl,rfl,hok⟩
   ·refine ah.skip ?_
    exact Fin.join [0,2,4] [1,101] (⟨x_5,x_6⟩:Scan) (Option.some.inj h4) rfl
  ·rintro c_3 hv
   subst v3
   refine ah.seq (ah.aD ⟨[(0,_),(2,_),(4,_)],[(1,_),(101,_)]⟩ rfl ?_)
   obtain ⟨x_8,e7,h⟩:=aJ h
   refine ah.yV mixed [false,false,false,false,false,false,false,false,false,false,false,false,true,true] [I c0at,Pt 1 0,Pt 1 0,Pt 1 0,.b (.one (.str c_3.s)),I c0at,Pt 1 0,Pt 1 0,Pt 1 1,I c_3.pos,.b (.one (.str x_8)),.b (.agg [.i 2,.i c0at,.str x_8]),Pt 102 0,B true] [⟨[false,false,false,false,false,false,false,false,false,false,false,false,false,false],[(0,Pt 1 0),(2,Pt 101 0),(4,I c0at)],[(1,.box 92 (jZ c_3)),(101,.box 67 [.i 0,.i 0,.str []])],[true,true,true,true,true,true,true,true,true,true,true,true,true,true],[],[13]⟩,⟨[false,false,false,false,false,false,false,false,false,false,false,false,true,false],[(0,Pt 1 0),(2,Pt 101 0),(4,I c0at)],[(1,.box 92 (jZ c_3)),(101,.box 67 [.i 0,.i 0,.str []]),(102,.box 67 [.i 0,.i 0,.str []])],[true,true,true,true,true,true,true,true,true,true,true,true,true,true],[12],[]⟩,⟨[false,false,false,false,false,false,false,false,false,false,false,false,true,true],[(0,Pt 1 0),(2,Pt 101 0),(4,I c0at)],[(1,.box 92 (jZ c_3)),(101,.box 67 [.i 0,.i 0,.str []]),(102,.box 67 [.i 2,.i c0at,.str x_8])],[true,true,true,true,true,true,true,true,true,true,true,true,true,true],[0,1,2,3,4,5,6,7,8,9,10,11,12,13],[]⟩] rfl (⟨by kernel_rfl,⟨⟨I c0at,fun _=>rfl,fun _=>.p (by exact cE rfl)⟩,⟨Pt 1 0,fun _=>rfl,fun _=>.p (by exact cE rfl)⟩,⟨Pt 1 0,fun _=>rfl,fun _=>.p (by exact au rfl)⟩,⟨Pt 1 0,fun _=>rfl,fun _=>.p (by exact ax gu rfl rfl)⟩,⟨.b (.one (.str c_3.s)),fun _=>rfl,fun _=>.p (by exact aI gn rfl rfl rfl)⟩,⟨I c0at,fun _=>rfl,fun _=>.p (by exact cE rfl)⟩,⟨Pt 1 0,fun _=>rfl,fun _=>.p (by exact cE rfl)⟩,⟨Pt 1 0,fun _=>rfl,fun _=>.p (by exact au rfl)⟩,⟨Pt 1 1,fun _=>rfl,fun _=>.p (by exact ax bu rfl rfl)⟩,⟨I c_3.pos,fun _=>rfl,fun _=>.p (by exact aI cP rfl rfl rfl)⟩,⟨.b (.one (.str x_8)),fun _=>rfl,fun _=>.p (by exact ou oD e7 rfl rfl rfl)⟩,⟨.b (.agg [.i 2,.i c0at,.str x_8]),fun _=>rfl,fun _=>.p (by exact hN jo rfl rfl)⟩,⟨_,[102],Pt 102 0,rfl,fun _=>rfl,rfl,rfl,fun _=>.Hr [1,101,102] (by exact .p (by exact cz (k:=102) j2 rfl)) (by exact rfl)⟩,trivial,trivial⟩,⟨by kernel_rfl,⟨⟨I c0at,fun _=>rfl,fun _=>.p (by exact cE rfl)⟩,⟨Pt 1 0,fun _=>rfl,fun _=>.p (by exact cE rfl)⟩,⟨Pt 1 0,fun _=>rfl,fun _=>.p (by exact au rfl)⟩,⟨Pt 1 0,fun _=>rfl,fun _=>.p (by exact ax gu rfl rfl)⟩,⟨.b (.one (.str c_3.s)),fun _=>rfl,fun _=>.p (by exact aI gn rfl rfl rfl)⟩,⟨I c0at,fun _=>rfl,fun _=>.p (by exact cE rfl)⟩,⟨Pt 1 0,fun _=>rfl,fun _=>.p (by exact cE rfl)⟩,⟨Pt 1 0,fun _=>rfl,fun _=>.p (by exact au rfl)⟩,⟨Pt 1 1,fun _=>rfl,fun _=>.p (by exact ax bu rfl rfl)⟩,⟨I c_3.pos,fun _=>rfl,fun _=>.p (by exact aI cP rfl rfl rfl)⟩,⟨.b (.one (.str x_8)),fun _=>rfl,fun _=>.p (by exact ou oD e7 rfl rfl rfl)⟩,⟨.b (.agg [.i 2,.i c0at,.str x_8]),fun _=>rfl,fun _=>.p (by exact hN jo rfl rfl)⟩,trivial,⟨_,[],.b (.one .any),rfl,(fun e=>by simp at e),rfl,rfl,fun _=>.Hr [1,101,102] (by exact .p (by exact aW cZ rfl rfl rfl rfl (Nat.le_of_ble_eq_true rfl) rfl)) (by exact rfl)⟩,trivial⟩,⟨by kernel_rfl,⟨trivial,trivial,trivial,trivial,trivial,trivial,trivial,trivial,trivial,trivial,trivial,trivial,trivial,trivial,trivial⟩,trivial⟩⟩⟩) rfl rfl rfl [2,5] [1,101,102] (s':=⟨[(2,_),(5,Pt 102 0)],[(1,_),(101,_),(102,.box 67 [.i 2,.i c0at,.str x_8])]⟩) rfl ?_
   obtain ⟨v8,h9,h⟩:=aJ h
   refine ah.oE (v:=v8) (fun (t_9:Token)=>⟨[(2,Pt 101 0),(5,Pt 102 0)],[(1,.box 92 (jZ c_3)),(101,.box 67 [.i 0,.i 0,.str []]),(102,.box 67 (bt t_9))]⟩) (fun z=>z) ?_ ?_
   ·refine ah.seq (ah.ab ?_)
    refine Oc (ax HH rfl rfl) (Oc (aI gn rfl rfl rfl) ?_)
    obtain ⟨x_10,e10,h9⟩:=aJ h9
    refine Oc (ct (yM e10) goes88 rfl rfl) (aj.aV ⟨[(2,_),(5,_),(35,B x_10)],[(1,_),(101,_),(102,_)]⟩ rfl (ah.ite h9 rfl (fun _ h9=>?_) (fun _ h9=>?_)))
    ·refine ah.ab (Oc (ax HI rfl rfl) (Oc (dK cP rfl rfl rfl (Nat.le_of_ble_eq_true rfl) rfl) ?_))
     refine aj.nil ?_
     exact Fin.join [2,5] [1,101,102] (⟨1,c0at,x_8⟩:Token) (Option.some.inj h9) rfl
    ·refine ah.skip ?_
     exact Fin.join [2,5] [1,101,102] (⟨2,c0at,x_8⟩:Token) (Option.some.inj h9) rfl
   ·rintro t_9 hv
    subst v8
    refine ah.seq (ah.ab ?_)
    refine Oc (lp cZ) (Oc (aW cZ rfl rfl rfl rfl (Nat.le_of_ble_eq_true rfl) rfl) (Oc oa ?_))
    refine aj.aV ⟨[(2,_),(3,B true)],[(1,_),(101,.box 67 (bt t_9))]⟩ rfl (ah.ret ?_)
    obtain rfl:=Option.some.inj h
    refine Fin.aD ⟨[(2,_),(3,_)],[(1,_),(101,_)]⟩ rfl (Fin.EY (.inl rfl) ?_)
    exact Fin.q7 [1] [.agg (bt t_9),.one (.bool true)] (.inl rfl) rfl (.cons (.Da (.agg cZ rfl rfl rfl rfl)) (.cons (.Da (.tmp rfl)) .nil)) ⟨_,rfl,rfl,rfl⟩
theorem qQ {F:Nat} {c0s:Str} {c0at:Int} {r:Token × Bool × Str × Int} (h:ez F c0s c0at = some (.inl r)):aG Tryz.prog (aw mx) 34 [(1,.box 92 [.str c0s,.i c0at])] [.ptr 1 0] (Is [(1,.box 92 [.str r.2.2.1,.i r.2.2.2])] (.kU [.agg (bt r.1),.one (.bool r.2.1)])):=(kj h).spec
theorem rO {F:Nat} {c0s:Str} {c0at:Int} {p:Problem} (h:ez F c0s c0at = some (.inr p)):gJ Tryz.prog (aw mx) 34 [(1,.box 92 [.str c0s,.i c0at])] [.ptr 1 0] ((fun p:Problem=>.iface 33 (.agg #[.int .i64 p.At,.int .i64 p.E])) p) ((fun p:Problem=>kX .i64 p.At ∧ kX .i64 p.E) p):=(kj h).Ge
def dE (F:Nat) (c0s:Str) (c0at:Int):Option ((Token × Bool × Str × Int) ⊕ Problem) :=
 Option.bind (cX F 86 c0s c0at) (un3 fun x_1 x_2 x_3=>if (decide (x_1 = 0)) = true then (some (.inl ((⟨0,0,[]⟩:Token),false,x_2,x_3))) else (Option.bind ((bz F x_2 x_3).bind fun x_6=>(bo ((decide (x_6 = 46)) && (decide ((IntKind.i64.wrap (x_3 + 1)) < (x_2.length:Int)))) (aH x_2 (IntKind.i64.wrap (x_3 + 1)))).bind fun x_7=>(bo ((decide (x_6 = 46)) && (decide ((IntKind.i64.wrap (x_3 + 1)) < (x_2.length:Int)))) (j6 F (x_7.toNat:Int))).bind fun x_8=>if (((decide (x_6 = 46)) && (decide ((IntKind.i64.wrap (x_3 + 1)) < (x_2.length:Int)))) && x_8) = true then (Option.bind (cX F 86 x_2 (IntKind.i64.wrap (x_3 + 1))) (un3 fun x_9 x_10 x_11=>some ((⟨x_10,x_11⟩:Scan),x_9))) else (some ((⟨x_2,x_3⟩:Scan),0))) (wQ fun c_4 back_5=>Option.bind (if (decide (40 < (IntKind.i64.wrap (x_1 + back_5)))) = true then ((bU F c0at 2 c_4.s c_4.pos).bind fun p_12=>some (.inr (.inr p_12))) else ((bo (decide (1 < x_1)) (aH c_4.s c0at)).bind fun x_13=>(bo (!((decide (1 < x_1)) && (decide ((x_13.toNat:Int) = 48)))) (bz F c_4.s c_4.pos)).bind fun x_14=>(bo (!((decide (1 < x_1)) && (decide ((x_13.toNat:Int) = 48)))) (iO F x_14)).bind fun x_15=>bN (((decide (1 < x_1)) && (decide ((x_13.toNat:Int) = 48))) || x_15) fun x_16=>(bo (!x_16) (bz F c_4.s c_4.pos)).bind fun x_17=>if (x_16 || (decide (x_17 = 95))) = true then ((bU F c0at 281 c_4.s c_4.pos).bind fun p_18=>some (.inr (.inr p_18))) else (some (.inl ())))) (ee (fun _=>Option.bind (Dh c_4.s c0at c_4.pos) (fun x_19=>some (.inl ((⟨3,c0at,x_19⟩:Token),true,c_4.s,c_4.pos)))) (fun y=>some y)))))
theorem jf {F:Nat} {c0s:Str} {c0at:Int} {r:(Token × Bool × Str × Int) ⊕ Problem} (h:dE F c0s c0at = some r):eH Tryz.prog (aw mx) 35 [(1,.box 92 [.str c0s,.i c0at])] [.ptr 1 0] (IsP r (fun (r:Token × Bool × Str × Int)=>[(1,.box 92 [.str r.2.2.1,.i r.2.2.2])]) (fun (r:Token × Bool × Str × Int)=>.kU [.agg (bt r.1),.one (.bool r.2.1)])) (HC r (fun p:Problem=>.iface 33 (.agg #[.int .i64 p.At,.int .i64 p.E])) (fun p:Problem=>kX .i64 p.At ∧ kX .i64 p.E)):=by
 unfold dE at h
 refine eH.intro 99 Tryz.func35 Tryz.ntmps35 rfl (by simp) fun E=>?_
 show ah _ E ⟨99,[1],[1],[]⟩ _ ⟨[(0,Pt 1 0)],[(1,.box 92 [.str c0s,.i c0at])]⟩ _
 refine ah.seq (ah.ab ?_)
 refine Oc (cz (k:=101) j2 rfl) (Oc oa ?_)
 refine aj.aV ⟨[(0,Pt 1 0),(2,Pt 101 0)],[(1,.box 92 [.str c0s,.i c0at]),(101,.box 67 [.i 0,.i 0,.str []])]⟩ rfl (ah.seq (ah.ab ?_))
 refine Oc om (Oc (au rfl) (Oc (ax bu rfl rfl) (Oc (aI cP rfl rfl rfl) (Oc oa ?_))))
 refine aj.aV ⟨[(0,_),(2,_),(4,I c0at)],[(1,_),(101,_)]⟩ rfl (ah.seq (ah.ab ?_))
 refine Oc om ?_
 obtain ⟨⟨x_1,x_2,x_3⟩,e1,h⟩:=aJ h
 refine Oc (dx (own_a:=[(1,_)]) (dD e1) zp rfl ⟨rfl,trivial⟩ rfl rfl) (Oc oa ?_)
 refine aj.aV ⟨[(0,_),(2,_),(4,_),(5,I x_1)],[(1,.box 92 [.str x_2,.i x_3]),(101,_)]⟩ rfl (ah.seq (ah.seq (ah.ab ?_)))
 refine Oc om (Oc (nF rfl rfl) ?_)
 refine aj.aV ⟨[(0,_),(2,_),(4,_),(5,_),(14,B (decide (x_1 = 0)))],[(1,_),(101,_)]⟩ rfl (ah.ite h rfl (fun _ h=>?_) (fun _ h=>?_))
 ·refine ah.seq (ah.ab ?_)
  refine Oc (hN jo rfl rfl) (Oc (aW cZ rfl rfl rfl rfl (Nat.le_of_ble_eq_true rfl) rfl) (Oc oa ?_))
  refine aj.aV ⟨[(2,_),(3,B false)],[(1,_),(101,_)]⟩ rfl (ah.ret (Fin.cr ?_))
  obtain rfl:=Option.some.inj h
  refine Fin.aD ⟨[(2,_),(3,_)],[(1,_),(101,_)]⟩ rfl (Fin.EY (.inl rfl) ?_)
  exact Fin.q7 [1] [.agg [.i 0,.i 0,.str []],.one (.bool false)] (.inl rfl) rfl (.cons (.Da (.agg cZ rfl rfl rfl rfl)) (.cons (.Da (.tmp rfl)) .nil)) ⟨_,rfl,rfl,rfl⟩
 ·refine ah.skip (Fin.aD ⟨[(0,_),(2,_),(4,_),(5,_)],[(1,_),(101,_)]⟩ rfl (Fin.then (ah.seq (ah.ab ?_))))
  refine Oc oa (aj.aV ⟨[(0,_),(2,_),(4,_),(5,_),(6,I 0)],[(1,_),(101,_)]⟩ rfl ?_)
  obtain ⟨v2,h3,h⟩:=aJ h
  refine ah.oE (v:=v2) (wQ fun (c_4:Scan) (back_5:Int)=>⟨[(0,Pt 1 0),(2,Pt 101 0),(4,I c0at),(5,I x_1),(6,I back_5)],[(1,.box 92 (jZ c_4)),(101,.box 67 [.i 0,.i 0,.str []])]⟩) (fun z=>z) ?_ ?_
  ·refine ah.seq (ah.aD ⟨[(0,_),(2,_),(4,_),(5,_),(6,_)],[(1,_),(101,_)]⟩ rfl ?_)
   obtain ⟨x_6,e4,h3⟩:=aJ h3
   obtain ⟨x_7,e5,h3⟩:=aJ h3
   obtain ⟨x_8,e6,h3⟩:=aJ h3
   refine ah.yV mixed [false,true,false,false,false,false,false,false,false,false,false,false,false,false,false,false,false,false,false,false,false,false,false,false,false,false,false,false,false] [Pt 1 0,.b (.one (.int .u8 x_6)),B (decide (x_6 = 46)),B (decide (x_6 = 46)),.opt (decide (x_6 = 46)) (.ptr 1 0),.opt (decide (x_6 = 46)) (.ptr 1 0),.opt (decide (x_6 = 46)) (.ptr 1 1),.opt (decide (x_6 = 46)) (.one (.i x_3)),.opt (decide (x_6 = 46)) (.one (.i (IntKind.i64.wrap (x_3 + 1)))),.opt (decide (x_6 = 46)) (.ptr 1 0),.opt (decide (x_6 = 46)) (.ptr 1 0),.opt (decide (x_6 = 46)) (.ptr 1 0),.opt (decide (x_6 = 46)) (.one (.str x_2)),.opt (decide (x_6 = 46)) (.one (.i (x_2.length:Int))),.opt (decide (x_6 = 46)) (.one (.bool (decide ((IntKind.i64.wrap (x_3 + 1)) < (x_2.length:Int))))),B ((decide (x_6 = 46)) && (decide ((IntKind.i64.wrap (x_3 + 1)) < (x_2.length:Int)))),B ((decide (x_6 = 46)) && (decide ((IntKind.i64.wrap (x_3 + 1)) < (x_2.length:Int)))),.opt ((decide (x_6 = 46)) && (decide ((IntKind.i64.wrap (x_3 + 1)) < (x_2.length:Int)))) (.ptr 1 0),.opt ((decide (x_6 = 46)) && (decide ((IntKind.i64.wrap (x_3 + 1)) < (x_2.length:Int)))) (.ptr 1 0),.opt ((decide (x_6 = 46)) && (decide ((IntKind.i64.wrap (x_3 + 1)) < (x_2.length:Int)))) (.ptr 1 0),.opt ((decide (x_6 = 46)) && (decide ((IntKind.i64.wrap (x_3 + 1)) < (x_2.length:Int)))) (.one (.str x_2)),.opt ((decide (x_6 = 46)) && (decide ((IntKind.i64.wrap (x_3 + 1)) < (x_2.length:Int)))) (.ptr 1 0),.opt ((decide (x_6 = 46)) && (decide ((IntKind.i64.wrap (x_3 + 1)) < (x_2.length:Int)))) (.ptr 1 0),.opt ((decide (x_6 = 46)) && (decide ((IntKind.i64.wrap (x_3 + 1)) < (x_2.length:Int)))) (.ptr 1 1),.opt ((decide (x_6 = 46)) && (decide ((IntKind.i64.wrap (x_3 + 1)) < (x_2.length:Int)))) (.one (.i x_3)),.opt ((decide (x_6 = 46)) && (decide ((IntKind.i64.wrap (x_3 + 1)) < (x_2.length:Int)))) (.one (.i (IntKind.i64.wrap (x_3 + 1)))),.opt ((decide (x_6 = 46)) && (decide ((IntKind.i64.wrap (x_3 + 1)) < (x_2.length:Int)))) (.one (.int .u8 (x_7.toNat:Int))),.opt ((decide (x_6 = 46)) && (decide ((IntKind.i64.wrap (x_3 + 1)) < (x_2.length:Int)))) (.one (.bool x_8)),B (((decide (x_6 = 46)) && (decide ((IntKind.i64.wrap (x_3 + 1)) < (x_2.length:Int)))) && x_8)] [⟨[false,false,false,false,false,false,false,false,false,false,false,false,false,false,false,false,false,false,false,false,false,false,false,false,false,false,false,false,false],[(0,Pt 1 0),(2,Pt 101 0),(4,I c0at),(5,I x_1),(6,I 0)],[(1,.box 92 [.str x_2,.i x_3]),(101,.box 67 [.i 0,.i 0,.str []])],[true,true,true,true,true,true,true,true,true,true,true,true,true,true,true,true,true,true,true,true,true,true,true,true,true,true,true,true,true],[],[2,3,4,5,6,7,8,9,10,11,12,13,14,15,16,17,18,19,20,21,22,23,24,25,26,27,28]⟩,⟨[false,true,false,false,false,false,false,false,false,false,false,false,false,false,false,false,false,false,false,false,false,false,false,false,false,false,false,false,false],[(0,Pt 1 0),(2,Pt 101 0),(4,I c0at),(5,I x_1),(6,I 0)],[(1,.box 92 [.str x_2,.i x_3]),(101,.box 67 [.i 0,.i 0,.str []])],[true,true,true,true,true,true,true,true,true,true,true,true,true,true,true,true,true,true,true,true,true,true,true,true,true,true,true,true,true],[0,1],[]⟩] rfl (⟨by kernel_rfl,⟨⟨Pt 1 0,fun _=>rfl,fun _=>.p (by exact cE rfl)⟩,⟨_,[],.b (.one (.int .u8 x_6)),rfl,fun _=>rfl,rfl,rfl,fun _=>.Hr [1,101] (by exact .p (by exact dx (own_a:=[(1,_)]) (bB e4) qe rfl ⟨rfl,trivial⟩ rfl rfl)) (by exact rfl)⟩,trivial,trivial,trivial,trivial,trivial,trivial,trivial,trivial,trivial,trivial,trivial,trivial,trivial,trivial,trivial,trivial,trivial,trivial,trivial,trivial,trivial,trivial,trivial,trivial,trivial,trivial,trivial,trivial⟩,⟨by kernel_rfl,⟨trivial,trivial,⟨B (decide (x_6 = 46)),fun _=>rfl,fun _=>.p (by exact nF rfl rfl)⟩,⟨B (decide (x_6 = 46)),fun _=>rfl,fun _=>.p (by exact cE rfl)⟩,⟨.opt (decide (x_6 = 46)) (.ptr 1 0),fun _=>rfl,fun _=>by exact .guard (decide (x_6 = 46)) 1 [] (.plain rfl) (ji _) rfl rfl (fun gg4=>trivial) (fun gg4=>om)⟩,⟨.opt (decide (x_6 = 46)) (.ptr 1 0),fun _=>rfl,fun _=>by exact .guard (decide (x_6 = 46)) 2 [20] (.plain rfl) (ji _) rfl rfl (fun gg5=>⟨gg5,trivial⟩) (fun gg5=>au rfl)⟩,⟨.opt (decide (x_6 = 46)) (.ptr 1 1),fun _=>rfl,fun _=>by exact .guard (decide (x_6 = 46)) 2 [21] (.plain rfl) (ji _) rfl rfl (fun gg6=>⟨gg6,trivial⟩) (fun gg6=>ax bu rfl rfl)⟩,⟨.opt (decide (x_6 = 46)) (.one (.i x_3)),fun _=>rfl,fun _=>by exact .guard (decide (x_6 = 46)) 2 [22] (.plain rfl) (ji _) rfl rfl (fun gg7=>⟨gg7,trivial⟩) (fun gg7=>aI cP rfl rfl rfl)⟩,⟨.opt (decide (x_6 = 46)) (.one (.i (IntKind.i64.wrap (x_3 + 1)))),fun _=>rfl,fun _=>by exact .guard (decide (x_6 = 46)) 2 [23] (.plain rfl) (ji _) rfl rfl (fun gg8=>⟨gg8,trivial⟩) (fun gg8=>ef rfl rfl)⟩,⟨.opt (decide (x_6 = 46)) (.ptr 1 0),fun _=>rfl,fun _=>by exact .guard (decide (x_6 = 46)) 1 [] (.plain rfl) (ji _) rfl rfl (fun gg9=>trivial) (fun gg9=>om)⟩,⟨.opt (decide (x_6 = 46)) (.ptr 1 0),fun _=>rfl,fun _=>by exact .guard (decide (x_6 = 46)) 2 [25] (.plain rfl) (ji _) rfl rfl (fun gg10=>⟨gg10,trivial⟩) (fun gg10=>au rfl)⟩,⟨.opt (decide (x_6 = 46)) (.ptr 1 0),fun _=>rfl,fun _=>by exact .guard (decide (x_6 = 46)) 2 [26] (.plain rfl) (ji _) rfl rfl (fun gg11=>⟨gg11,trivial⟩) (fun gg11=>ax gu rfl rfl)⟩,⟨.opt (decide (x_6 = 46)) (.one (.str x_2)),fun _=>rfl,fun _=>by exact .guard (decide (x_6 = 46)) 2 [27] (.plain rfl) (ji _) rfl rfl (fun gg12=>⟨gg12,trivial⟩) (fun gg12=>aI gn rfl rfl rfl)⟩,⟨.opt (decide (x_6 = 46)) (.one (.i (x_2.length:Int))),fun _=>rfl,fun _=>by exact .guard (decide (x_6 = 46)) 2 [28] (.plain rfl) (ji _) rfl rfl (fun gg13=>⟨gg13,trivial⟩) (fun gg13=>fY oD rfl)⟩,⟨.opt (decide (x_6 = 46)) (.one (.bool (decide ((IntKind.i64.wrap (x_3 + 1)) < (x_2.length:Int))))),fun _=>rfl,fun _=>by exact .guard (decide (x_6 = 46)) 3 [24,29] (.plain rfl) (ji _) rfl rfl (fun gg14=>⟨gg14,gg14,trivial⟩) (fun gg14=>k8 rfl rfl)⟩,⟨B ((decide (x_6 = 46)) && (decide ((IntKind.i64.wrap (x_3 + 1)) < (x_2.length:Int)))),fun _=>rfl,fun _=>.p (by exact fJ (fun e=>e) rfl rfl rfl rfl)⟩,⟨B ((decide (x_6 = 46)) && (decide ((IntKind.i64.wrap (x_3 + 1)) < (x_2.length:Int)))),fun _=>rfl,fun _=>.p (by exact cE rfl)⟩,⟨.opt ((decide (x_6 = 46)) && (decide ((IntKind.i64.wrap (x_3 + 1)) < (x_2.length:Int)))) (.ptr 1 0),fun _=>rfl,fun _=>by exact .guard ((decide (x_6 = 46)) && (decide ((IntKind.i64.wrap (x_3 + 1)) < (x_2.length:Int)))) 1 [] (.plain rfl) (ji _) rfl rfl (fun gg17=>trivial) (fun gg17=>om)⟩,⟨.opt ((decide (x_6 = 46)) && (decide ((IntKind.i64.wrap (x_3 + 1)) < (x_2.length:Int)))) (.ptr 1 0),fun _=>rfl,fun _=>by exact .guard ((decide (x_6 = 46)) && (decide ((IntKind.i64.wrap (x_3 + 1)) < (x_2.length:Int)))) 2 [33] (.plain rfl) (ji _) rfl rfl (fun gg18=>⟨gg18,trivial⟩) (fun gg18=>au rfl)⟩,⟨.opt ((decide (x_6 = 46)) && (decide ((IntKind.i64.wrap (x_3 + 1)) < (x_2.length:Int)))) (.ptr 1 0),fun _=>rfl,fun _=>by exact .guard ((decide (x_6 = 46)) && (decide ((IntKind.i64.wrap (x_3 + 1)) < (x_2.length:Int)))) 2 [34] (.plain rfl) (ji _) rfl rfl (fun gg19=>⟨gg19,trivial⟩) (fun gg19=>ax gu rfl rfl)⟩,⟨.opt ((decide (x_6 = 46)) && (decide ((IntKind.i64.wrap (x_3 + 1)) < (x_2.length:Int)))) (.one (.str x_2)),fun _=>rfl,fun _=>by exact .guard ((decide (x_6 = 46)) && (decide ((IntKind.i64.wrap (x_3 + 1)) < (x_2.length:Int)))) 2 [35] (.plain rfl) (ji _) rfl rfl (fun gg20=>⟨gg20,trivial⟩) (fun gg20=>aI gn rfl rfl rfl)⟩,⟨.opt ((decide (x_6 = 46)) && (decide ((IntKind.i64.wrap (x_3 + 1)) < (x_2.length:Int)))) (.ptr 1 0),fun _=>rfl,fun _=>by exact .guard ((decide (x_6 = 46)) && (decide ((IntKind.i64.wrap (x_3 + 1)) < (x_2.length:Int)))) 1 [] (.plain rfl) (ji _) rfl rfl (fun gg21=>trivial) (fun gg21=>om)⟩,⟨.opt ((decide (x_6 = 46)) && (decide ((IntKind.i64.wrap (x_3 + 1)) < (x_2.length:Int)))) (.ptr 1 0),fun _=>rfl,fun _=>by exact .guard ((decide (x_6 = 46)) && (decide ((IntKind.i64.wrap (x_3 + 1)) < (x_2.length:Int)))) 2 [37] (.plain rfl) (ji _) rfl rfl (fun gg22=>⟨gg22,trivial⟩) (fun gg22=>au rfl)⟩,⟨.opt ((decide (x_6 = 46)) && (decide ((IntKind.i64.wrap (x_3 + 1)) < (x_2.length:Int)))) (.ptr 1 1),fun _=>rfl,fun _=>by exact .guard ((decide (x_6 = 46)) && (decide ((IntKind.i64.wrap (x_3 + 1)) < (x_2.length:Int)))) 2 [38] (.plain rfl) (ji _) rfl rfl (fun gg23=>⟨gg23,trivial⟩) (fun gg23=>ax bu rfl rfl)⟩,⟨.opt ((decide (x_6 = 46)) && (decide ((IntKind.i64.wrap (x_3 + 1)) < (x_2.length:Int)))) (.one (.i x_3)),fun _=>rfl,fun _=>by exact .guard ((decide (x_6 = 46)) && (decide ((IntKind.i64.wrap (x_3 + 1)) < (x_2.length:Int)))) 2 [39] (.plain rfl) (ji _) rfl rfl (fun gg24=>⟨gg24,trivial⟩) (fun gg24=>aI cP rfl rfl rfl)⟩,⟨.opt ((decide (x_6 = 46)) && (decide ((IntKind.i64.wrap (x_3 + 1)) < (x_2.length:Int)))) (.one (.i (IntKind.i64.wrap (x_3 + 1)))),fun _=>rfl,fun _=>by exact .guard ((decide (x_6 = 46)) && (decide ((IntKind.i64.wrap (x_3 + 1)) < (x_2.length:Int)))) 2 [40] (.plain rfl) (ji _) rfl rfl (fun gg25=>⟨gg25,trivial⟩) (fun gg25=>ef rfl rfl)⟩,⟨.opt ((decide (x_6 = 46)) && (decide ((IntKind.i64.wrap (x_3 + 1)) < (x_2.length:Int)))) (.one (.int .u8 (x_7.toNat:Int))),fun _=>rfl,fun _=>by exact .guard ((decide (x_6 = 46)) && (decide ((IntKind.i64.wrap (x_3 + 1)) < (x_2.length:Int)))) 3 [36,41] (.plain rfl) (ji _) rfl rfl (fun gg26=>⟨gg26,gg26,trivial⟩) (fun gg26=>gP oD rfl rfl (fa (gc e5 gg26)) (oL (gc e5 gg26)))⟩,⟨.opt ((decide (x_6 = 46)) && (decide ((IntKind.i64.wrap (x_3 + 1)) < (x_2.length:Int)))) (.one (.bool x_8)),fun _=>rfl,fun _=>by exact .guard ((decide (x_6 = 46)) && (decide ((IntKind.i64.wrap (x_3 + 1)) < (x_2.length:Int)))) 3 [42] (.plain rfl) (ji _) rfl rfl (fun gg27=>⟨gg27,trivial⟩) (fun gg27=>ct (mH (gc e6 gg27)) Fk rfl rfl)⟩,⟨B (((decide (x_6 = 46)) && (decide ((IntKind.i64.wrap (x_3 + 1)) < (x_2.length:Int)))) && x_8),fun _=>rfl,fun _=>.p (by exact fJ (fun e=>e) rfl rfl rfl rfl)⟩,trivial⟩,trivial⟩⟩) rfl rfl rfl [0,2,4,5,6,44] [1,101] (s':=⟨[(0,_),(2,_),(4,_),(5,_),(6,_),(44,B (((decide (x_6 = 46)) && (decide ((IntKind.i64.wrap (x_3 + 1)) < (x_2.length:Int)))) && x_8))],[(1,_),(101,_)]⟩) rfl ?_
   refine ah.ite h3 rfl (fun _ h3=>?_) (fun _ h3=>?_)
   ·refine ah.seq (ah.ab ?_)
    refine Oc om (Oc (au rfl) (Oc (ax bu rfl rfl) (Oc (aI cP rfl rfl rfl) (Oc (ef rfl rfl) (Oc (au rfl) ?_)))))
    refine Oc (ax bu rfl rfl) (Oc (dK cP rfl rfl rfl (Nat.le_of_ble_eq_true rfl) rfl) ?_)
    refine aj.aV ⟨[(0,_),(2,_),(4,_),(5,_)],[(1,.box 92 [.str x_2,.i (IntKind.i64.wrap (x_3 + 1))]),(101,_)]⟩ rfl (ah.ab (Oc om ?_))
    obtain ⟨⟨x_9,x_10,x_11⟩,e7,h3⟩:=aJ h3
    refine Oc (dx (own_a:=[(1,_)]) (dD e7) zp rfl ⟨rfl,trivial⟩ rfl rfl) (Oc oa ?_)
    refine aj.nil ?_
    exact Fin.join [0,2,4,5,6] [1,101] ((⟨x_10,x_11⟩:Scan),x_9) (Option.some.inj h3) rfl
   ·refine ah.skip ?_
    exact Fin.join [0,2,4,5,6] [1,101] ((⟨x_2,x_3⟩:Scan),0) (Option.some.inj h3) rfl
  ·rintro ⟨c_4,back_5⟩ hv
   subst v2
   obtain ⟨v8,h9,h⟩:=aJ h
   refine ah.oE (v:=v8) (fun (_:Unit)=>⟨[(0,Pt 1 0),(2,Pt 101 0),(4,I c0at)],[(1,.box 92 (jZ c_4)),(101,.box 67 [.i 0,.i 0,.str []])]⟩) (fun z=>.inl z) ?_ ?_
   ·refine ah.block (ah.seq (ah.ab ?_))
    refine Oc om (Oc om (Oc (ef rfl rfl) (Oc (oJ rfl rfl) (Oc oa ?_))))
    refine aj.aV ⟨[(0,_),(2,_),(4,_),(5,_),(54,B (decide (40 < (IntKind.i64.wrap (x_1 + back_5)))))],[(1,_),(101,_)]⟩ rfl (ah.ite h9 rfl (fun _ h9=>?_) (fun _ h9=>?_))
    ·refine ah.ab (Oc om (Oc om ?_))
     obtain ⟨p_12,e10,h9⟩:=aJ h9
     refine aj.tA (own_a:=[(1,_)]) (ck e10) uT rfl ⟨rfl,trivial⟩ (fun hok=>?_)
     refine Fin.bY ?_
     obtain rfl:=Option.some.inj h9
     refine Fin.bx ?_
     obtain rfl:=Option.some.inj h
     exact Fin.qb ⟨_,rfl,rfl,hok⟩
    ·refine ah.seq (ah.ab ?_)
     refine Oc om (Oc (oJ rfl rfl) (Oc om ?_))
     refine Ih (decide (1 < x_1)) [] (fun g11=>trivial) (fun g11=>om) (Ih (decide (1 < x_1)) [66] (fun g12=>by exact ⟨g12,trivial⟩) (fun g12=>au rfl) (Ih (decide (1 < x_1)) [67] (fun g13=>by exact ⟨g13,trivial⟩) (fun g13=>ax gu rfl rfl) (Ih (decide (1 < x_1)) [68] (fun g14=>by exact ⟨g14,trivial⟩) (fun g14=>aI gn rfl rfl rfl) (aj.aD ⟨[(0,_),(2,_),(4,_),(65,B (decide (1 < x_1))),(69,.opt (decide (1 < x_1)) (.one (.str c_4.s)))],[(1,_),(101,_)]⟩ rfl (Ih (decide (1 < x_1)) [] (fun g15=>by exact trivial) (fun g15=>om) ?_)))))
     obtain ⟨x_13,e17,h9⟩:=aJ h9
     refine Ih (decide (1 < x_1)) [69,70] (fun g16=>⟨g16,g16,trivial⟩) (fun g16=>gP oD rfl rfl (fa (gc e17 g16)) (oL (gc e17 g16))) (Ih (decide (1 < x_1)) [71] (fun g18=>⟨g18,trivial⟩) (fun g18=>nF rfl rfl) (Oc (fJ (fun e=>e) rfl rfl rfl rfl) (Oc om ?_)))
     refine AT (!((decide (1 < x_1)) && (decide ((x_13.toNat:Int) = 48)))) [] (fun g19=>trivial) (fun g19=>om) (aj.aD ⟨[(0,_),(2,_),(4,_),(74,B ((decide (1 < x_1)) && (decide ((x_13.toNat:Int) = 48)))),(75,.opt (!((decide (1 < x_1)) && (decide ((x_13.toNat:Int) = 48)))) (.ptr 1 0))],[(1,_),(101,_)]⟩ rfl ?_)
     obtain ⟨x_14,e21,h9⟩:=aJ h9
     refine AT (!((decide (1 < x_1)) && (decide ((x_13.toNat:Int) = 48)))) [75] (fun g20=>⟨g20,trivial⟩) (fun g20=>zN (own_a:=[(1,_)]) (bB (gc e21 g20)) qe rfl ⟨rfl,trivial⟩ rfl rfl rfl rfl rfl) ?_
     obtain ⟨x_15,e23,h9⟩:=aJ h9
     refine AT (!((decide (1 < x_1)) && (decide ((x_13.toNat:Int) = 48)))) [76] (fun g22=>⟨g22,trivial⟩) (fun g22=>ct (ly (gc e23 g22)) Fl rfl rfl) (aj.IQ h9 rfl (ff (fun e=>by first | (rw [e]; rfl) | (simp only at e; rw [e]; rfl)) rfl rfl rfl rfl) (fun x_16 h9=>?_))
     refine Oc om (AT (!x_16) [] (fun g24=>by exact trivial) (fun g24=>om) (aj.aD ⟨[(0,_),(2,_),(4,_),(79,B x_16),(80,.opt (!x_16) (.ptr 1 0))],[(1,_),(101,_)]⟩ rfl ?_))
     obtain ⟨x_17,e26,h9⟩:=aJ h9
     refine AT (!x_16) [80] (fun g25=>⟨g25,trivial⟩) (fun g25=>zN (own_a:=[(1,_)]) (bB (gc e26 g25)) qe rfl ⟨rfl,trivial⟩ rfl rfl rfl rfl rfl) (AT (!x_16) [81] (fun g27=>⟨g27,trivial⟩) (fun g27=>nF rfl rfl) (Oc (ff (fun e=>by first | (rw [e]; rfl) | (simp only at e; rw [e]; rfl)) rfl rfl rfl rfl) (Oc oa ?_)))
     refine aj.aV ⟨[(0,_),(2,_),(4,_),(62,B (x_16 || (decide (x_17 = 95))))],[(1,_),(101,_)]⟩ rfl (ah.ite h9 rfl (fun _ h9=>?_) (fun _ h9=>?_))
     ·refine ah.ab (Oc om (Oc om ?_))
      obtain ⟨p_18,e28,h9⟩:=aJ h9
      refine aj.tA (own_a:=[(1,_)]) (ck e28) uT rfl ⟨rfl,trivial⟩ (fun hok=>?_)
      refine Fin.bY ?_
      obtain rfl:=Option.some.inj h9
      refine Fin.bx ?_
      obtain rfl:=Option.some.inj h
      exact Fin.qb ⟨_,rfl,rfl,hok⟩
     ·refine ah.skip (Fin.bD ?_)
      exact Fin.join [0,2,4] [1,101] () (Option.some.inj h9) rfl
   ·rintro _ hv
    subst v8
    refine ah.seq (ah.aD ⟨[(0,_),(2,_),(4,_)],[(1,_),(101,_)]⟩ rfl ?_)
    obtain ⟨x_19,e29,h⟩:=aJ h
    refine ah.og mixed 12 [I c0at,Pt 1 0,Pt 1 0,Pt 1 0,.b (.one (.str c_4.s)),I c0at,Pt 1 0,Pt 1 0,Pt 1 1,I c_4.pos,.b (.one (.str x_19)),.b (.agg [.i 3,.i c0at,.str x_19])] [2,3] [1,101] (s':=⟨[(2,_),(3,B true)],[(1,_),(101,.box 67 [.i 3,.i c0at,.str x_19])]⟩) rfl ⟨fun _=>.p om,fun _=>.p om,fun _=>.p (au rfl),fun _=>.p (ax gu rfl rfl),fun _=>.p (aI gn rfl rfl rfl),fun _=>.p om,fun _=>.p om,fun _=>.p (au rfl),fun _=>.p (ax bu rfl rfl),fun _=>.p (aI cP rfl rfl rfl),fun _=>.p (ou oD e29 rfl rfl rfl),fun _=>.p (hN jo rfl rfl),trivial⟩ ⟨_,by exact .p (aW cZ rfl rfl rfl rfl (Nat.le_of_ble_eq_true rfl) rfl),⟨_,by exact .p oa,rfl⟩⟩ rfl (ah.ret ?_)
    obtain rfl:=Option.some.inj h
    refine Fin.aD ⟨[(2,_),(3,_)],[(1,_),(101,_)]⟩ rfl (Fin.EY (.inl rfl) ?_)
    exact Fin.q7 [1] [.agg [.i 3,.i c0at,.str x_19],.one (.bool true)] (.inl rfl) rfl (.cons (.Da (.agg cZ rfl rfl rfl rfl)) (.cons (.Da (.tmp rfl)) .nil)) ⟨_,rfl,rfl,rfl⟩
theorem pq {F:Nat} {c0s:Str} {c0at:Int} {r:Token × Bool × Str × Int} (h:dE F c0s c0at = some (.inl r)):aG Tryz.prog (aw mx) 35 [(1,.box 92 [.str c0s,.i c0at])] [.ptr 1 0] (Is [(1,.box 92 [.str r.2.2.1,.i r.2.2.2])] (.kU [.agg (bt r.1),.one (.bool r.2.1)])):=(jf h).spec
theorem qq {F:Nat} {c0s:Str} {c0at:Int} {p:Problem} (h:dE F c0s c0at = some (.inr p)):gJ Tryz.prog (aw mx) 35 [(1,.box 92 [.str c0s,.i c0at])] [.ptr 1 0] ((fun p:Problem=>.iface 33 (.agg #[.int .i64 p.At,.int .i64 p.E])) p) ((fun p:Problem=>kX .i64 p.At ∧ kX .i64 p.E) p):=(jf h).Ge
def er (F:Nat) (c0s:Str) (c0at:Int):Option ((Token × Bool × Str × Int) ⊕ Problem) :=
 (bz F c0s c0at).bind fun x_1=>if (decide (x_1 ≠ 34)) = true then (some (.inl ((⟨0,0,[]⟩:Token),false,c0s,c0at))) else (Option.bind (iter F (wQ fun c_4 out_5=>(bz F c_4.s c_4.pos).bind fun x_8=>if (decide (x_8 ≠ 34)) = true then (Option.bind ((bz F c_4.s c_4.pos).bind fun x_11=>Option.bind (if (decide (x_11 = 92)) = true then ((bz F c_4.s (IntKind.i64.wrap (c_4.pos + 1))).bind fun x_14=>if ((decide (x_14 ≠ 34)) && (decide (x_14 ≠ 92))) = true then ((bU F c0at 280 c_4.s (IntKind.i64.wrap (c_4.pos + 1))).bind fun p_15=>some (.inr (.inr p_15))) else (some (.inl ((⟨c_4.s,IntKind.i64.wrap (c_4.pos + 1)⟩:Scan),x_14)))) else (some (.inl (c_4,x_11)))) (ee (wQ fun c_12 b_13=>Option.bind (if ((decide (b_13 < 32)) || (decide (126 < b_13))) = true then ((bU F c0at 280 c_12.s c_12.pos).bind fun p_16=>some (.inr (.inr p_16))) else (some (.inl ()))) (ee (fun _=>(bV out_5 [b_13]).bind fun x_17=>some (.inl (c_12,x_17))) (fun y=>some (.inr y)))) (fun y=>some (.inr y)))) (ee (wQ fun c_9 out_10=>some (.inl ((⟨c_9.s,IntKind.i64.wrap (c_9.pos + 1)⟩:Scan),out_10))) (fun y=>some (.inr (.inr y))))) else (some (.inr (.inl (c_4,out_5))))) ((⟨c0s,IntKind.i64.wrap (c0at + 1)⟩:Scan),[])) (ee (wQ fun c_2 out_3=>Option.bind (if (decide (80 < (out_3.length:Int))) = true then ((bU F c0at 2 c_2.s (IntKind.i64.wrap (c_2.pos + 1))).bind fun p_18=>some (.inr (.inr p_18))) else (some (.inl ()))) (ee (fun _=>some (.inl ((⟨4,c0at,toStr out_3⟩:Token),true,c_2.s,IntKind.i64.wrap (c_2.pos + 1)))) (fun y=>some y))) (fun y=>some y)))
theorem kg {F:Nat} {c0s:Str} {c0at:Int} {r:(Token × Bool × Str × Int) ⊕ Problem} (h:er F c0s c0at = some r):eH Tryz.prog (aw mx) 36 [(1,.box 92 [.str c0s,.i c0at])] [.ptr 1 0] (IsP r (fun (r:Token × Bool × Str × Int)=>[(1,.box 92 [.str r.2.2.1,.i r.2.2.2])]) (fun (r:Token × Bool × Str × Int)=>.kU [.agg (bt r.1),.one (.bool r.2.1)])) (HC r (fun p:Problem=>.iface 33 (.agg #[.int .i64 p.At,.int .i64 p.E])) (fun p:Problem=>kX .i64 p.At ∧ kX .i64 p.E)):=by
 unfold er at h
 refine eH.intro 84 Tryz.func36 Tryz.ntmps36 rfl (by simp) fun E=>?_
 show ah _ E ⟨84,[1],[1],[]⟩ _ ⟨[(0,Pt 1 0)],[(1,.box 92 [.str c0s,.i c0at])]⟩ _
 refine ah.seq (ah.ab ?_)
 refine Oc (cz (k:=101) j2 rfl) (Oc oa ?_)
 refine aj.aV ⟨[(0,Pt 1 0),(2,Pt 101 0)],[(1,.box 92 [.str c0s,.i c0at]),(101,.box 67 [.i 0,.i 0,.str []])]⟩ rfl (ah.seq (ah.ab ?_))
 refine Oc om (Oc (au rfl) (Oc (ax bu rfl rfl) (Oc (aI cP rfl rfl rfl) (Oc oa ?_))))
 refine aj.aV ⟨[(0,_),(2,_),(4,I c0at)],[(1,_),(101,_)]⟩ rfl (ah.seq (ah.seq (ah.ab ?_)))
 refine Oc om ?_
 obtain ⟨x_1,e1,h⟩:=aJ h
 refine Oc (dx (own_a:=[(1,_)]) (bB e1) qe rfl ⟨rfl,trivial⟩ rfl rfl) (Oc (wX rfl rfl) ?_)
 refine aj.aV ⟨[(0,_),(2,_),(4,_),(13,B (decide (x_1 ≠ 34)))],[(1,_),(101,_)]⟩ rfl (ah.ite h rfl (fun _ h=>?_) (fun _ h=>?_))
 ·refine ah.seq (ah.ab ?_)
  refine Oc (hN jo rfl rfl) (Oc (aW cZ rfl rfl rfl rfl (Nat.le_of_ble_eq_true rfl) rfl) (Oc oa ?_))
  refine aj.aV ⟨[(2,_),(3,B false)],[(1,_),(101,_)]⟩ rfl (ah.ret (Fin.cr ?_))
  obtain rfl:=Option.some.inj h
  refine Fin.aD ⟨[(2,_),(3,_)],[(1,_),(101,_)]⟩ rfl (Fin.EY (.inl rfl) ?_)
  exact Fin.q7 [1] [.agg [.i 0,.i 0,.str []],.one (.bool false)] (.inl rfl) rfl (.cons (.Da (.agg cZ rfl rfl rfl rfl)) (.cons (.Da (.tmp rfl)) .nil)) ⟨_,rfl,rfl,rfl⟩
 ·refine ah.skip (Fin.aD ⟨[(0,_),(2,_),(4,_)],[(1,_),(101,_)]⟩ rfl (Fin.then (ah.seq (ah.ab ?_))))
  refine Oc oa (aj.aV ⟨[(0,_),(2,_),(4,_),(5,.b (.one (.nil)))],[(1,_),(101,_)]⟩ rfl ?_)
  obtain ⟨v2,h3,h⟩:=aJ h
  refine ah.oE (v:=v2) (wQ fun (c_2:Scan) (out_3:List Int)=>⟨[(0,Pt 1 0),(2,Pt 101 0),(4,I c0at),(5,.b (.row 103))],[(1,.box 92 (jZ c_2)),(101,.box 67 [.i 0,.i 0,.str []]),(103,.row 5 1 (out_3.map (eK .u8)))]⟩) (fun z=>.inl z) ?_ ?_
  ·refine ah.seq (ah.ab ?_)
   refine Oc om (Oc (au rfl) (Oc (ax bu rfl rfl) (Oc (aI cP rfl rfl rfl) (Oc (ef rfl rfl) (Oc (au rfl) ?_)))))
   refine Oc (ax bu rfl rfl) (Oc (dK cP rfl rfl rfl (Nat.le_of_ble_eq_true rfl) rfl) ?_)
   refine aj.aV ⟨[(0,_),(2,_),(4,_),(5,_)],[(1,.box 92 [.str c0s,.i (IntKind.i64.wrap (c0at + 1))]),(101,_)]⟩ rfl (ah.block (ah.jL 5 103 1 5 rfl (by decide) rfl (ah.qw h3 (wQ fun (c_4:Scan) (out_5:List Int)=>⟨[(0,Pt 1 0),(2,Pt 101 0),(4,I c0at),(5,.b (.row 103))],[(1,.box 92 (jZ c_4)),(101,.box 67 [.i 0,.i 0,.str []]),(103,.row 5 1 (out_5.map (eK .u8)))]⟩) [0,2,4,5] [1,101,103] rfl ?_)))
   rintro ⟨c_4,out_5⟩ o4 h5 hy6
   refine ah.seq (ah.seq (ah.ab ?_))
   refine Oc om ?_
   obtain ⟨x_8,e7,h5⟩:=aJ h5
   refine Oc (dx (own_a:=[(1,_)]) (bB e7) qe rfl ⟨rfl,trivial⟩ rfl rfl) (Oc (wX rfl rfl) ?_)
   refine aj.aV ⟨[(0,_),(2,_),(4,_),(5,_),(24,B (decide (x_8 ≠ 34)))],[(1,_),(101,_),(103,_)]⟩ rfl (ah.ite h5 rfl (fun _ h5=>?_) (fun _ h5=>?_))
   ·refine ah.skip (Fin.aD ⟨[(0,_),(2,_),(4,_),(5,_)],[(1,_),(101,_),(103,_)]⟩ rfl (Fin.then ?_))
    obtain ⟨v8,h9,h5⟩:=aJ h5
    refine ah.oE (v:=v8) (wQ fun (c_9:Scan) (out_10:List Int)=>⟨[(0,Pt 1 0),(2,Pt 101 0),(4,I c0at),(5,.b (.row 103))],[(1,.box 92 (jZ c_9)),(101,.box 67 [.i 0,.i 0,.str []]),(103,.row 5 1 (out_10.map (eK .u8)))]⟩) (fun z=>.inl z) ?_ ?_
    ·refine ah.block (ah.seq (ah.ab ?_))
     refine Oc om ?_
     obtain ⟨x_11,e10,h9⟩:=aJ h9
     refine Oc (dx (own_a:=[(1,_)]) (bB e10) qe rfl ⟨rfl,trivial⟩ rfl rfl) (Oc oa ?_)
     refine aj.aV ⟨[(0,_),(2,_),(4,_),(5,_),(6,.b (.one (.int .u8 x_11)))],[(1,_),(101,_),(103,_)]⟩ rfl ?_
     obtain ⟨v11,h12,h9⟩:=aJ h9
     refine ah.oE (v:=v11) (wQ fun (c_12:Scan) (b_13:Int)=>⟨[(0,Pt 1 0),(2,Pt 101 0),(4,I c0at),(5,.b (.row 103)),(6,.b (.one (.int .u8 b_13)))],[(1,.box 92 (jZ c_12)),(101,.box 67 [.i 0,.i 0,.str []]),(103,.row 5 1 (out_5.map (eK .u8)))]⟩) (fun z=>.inl z) ?_ ?_
     ·refine ah.seq (ah.ab ?_)
      refine Oc om (Oc (nF rfl rfl) ?_)
      refine aj.aV ⟨[(0,_),(2,_),(4,_),(5,_),(6,_),(35,B (decide (x_11 = 92)))],[(1,_),(101,_),(103,_)]⟩ rfl (ah.ite h12 rfl (fun _ h12=>?_) (fun _ h12=>?_))
      ·refine ah.seq (ah.ab ?_)
       refine Oc om (Oc (au rfl) (Oc (ax bu rfl rfl) (Oc (aI cP rfl rfl rfl) (Oc (ef rfl rfl) (Oc (au rfl) ?_)))))
       refine Oc (ax bu rfl rfl) (Oc (dK cP rfl rfl rfl (Nat.le_of_ble_eq_true rfl) rfl) ?_)
       refine aj.aV ⟨[(0,_),(2,_),(4,_),(5,_)],[(1,.box 92 [.str c_4.s,.i (IntKind.i64.wrap (c_4.pos + 1))]),(101,_),(103,_)]⟩ rfl (ah.seq (ah.ab ?_))
       refine Oc om ?_
       obtain ⟨x_14,e13,h12⟩:=aJ h12
       refine Oc (dx (own_a:=[(1,_)]) (bB e13) qe rfl ⟨rfl,trivial⟩ rfl rfl) (Oc oa ?_)
       refine aj.aV ⟨[(0,_),(2,_),(4,_),(5,_),(6,.b (.one (.int .u8 x_14)))],[(1,_),(101,_),(103,_)]⟩ rfl (ah.seq (ah.ab ?_))
       refine Oc om (Oc (wX rfl rfl) (Oc om ?_))
       refine Ih (decide (x_14 ≠ 34)) [] (fun g14=>trivial) (fun g14=>om) (Ih (decide (x_14 ≠ 34)) [48] (fun g15=>by exact ⟨g15,trivial⟩) (fun g15=>wX rfl rfl) (Oc (fJ (fun e=>e) rfl rfl rfl rfl) (aj.aV ⟨[(0,_),(2,_),(4,_),(5,_),(6,_),(50,B ((decide (x_14 ≠ 34)) && (decide (x_14 ≠ 92))))],[(1,_),(101,_),(103,_)]⟩ rfl (ah.ite h12 rfl (fun _ h12=>?_) (fun _ h12=>?_)))))
       ·refine ah.ab (Oc om (Oc om ?_))
        obtain ⟨p_15,e16,h12⟩:=aJ h12
        refine aj.tA (own_a:=[(1,_)]) (ck e16) uT rfl ⟨rfl,trivial⟩ (fun hok=>?_)
        obtain rfl:=Option.some.inj h12
        refine Fin.bx (Fin.bY ?_)
        obtain rfl:=Option.some.inj h9
        refine Fin.bx ?_
        obtain rfl:=hy6 _ (Option.some.inj h5).symm
        refine Fin.bx (Fin.bY (Fin.bx ?_))
        obtain rfl:=Option.some.inj h
        exact Fin.qb ⟨_,rfl,rfl,hok⟩
       ·refine ah.skip ?_
        exact Fin.join [0,2,4,5,6] [1,101,103] ((⟨c_4.s,IntKind.i64.wrap (c_4.pos + 1)⟩:Scan),x_14) (Option.some.inj h12) rfl
      ·refine ah.skip ?_
       exact Fin.join [0,2,4,5,6] [1,101,103] (c_4,x_11) (Option.some.inj h12) rfl
     ·rintro ⟨c_12,b_13⟩ hv
      subst v11
      obtain ⟨v17,h18,h9⟩:=aJ h9
      refine ah.oE (v:=v17) (fun (_:Unit)=>⟨[(0,Pt 1 0),(2,Pt 101 0),(4,I c0at),(5,.b (.row 103)),(6,.b (.one (.int .u8 b_13)))],[(1,.box 92 (jZ c_12)),(101,.box 67 [.i 0,.i 0,.str []]),(103,.row 5 1 (out_5.map (eK .u8)))]⟩) (fun z=>.inl z) ?_ ?_
      ·refine ah.seq (ah.ab ?_)
       refine Oc om (Oc (k8 rfl rfl) (Oc om ?_))
       refine AT (!(decide (b_13 < 32))) [] (fun g19=>trivial) (fun g19=>om) (AT (!(decide (b_13 < 32))) [57] (fun g20=>by exact ⟨g20,trivial⟩) (fun g20=>oJ rfl rfl) (Oc (ff (fun e=>by first | (rw [e]; rfl) | (simp only at e; rw [e]; rfl)) rfl rfl rfl rfl) (aj.aV ⟨[(0,_),(2,_),(4,_),(5,_),(6,_),(59,B ((decide (b_13 < 32)) || (decide (126 < b_13))))],[(1,_),(101,_),(103,_)]⟩ rfl (ah.ite h18 rfl (fun _ h18=>?_) (fun _ h18=>?_)))))
       ·refine ah.ab (Oc om (Oc om ?_))
        obtain ⟨p_16,e21,h18⟩:=aJ h18
        refine aj.tA (own_a:=[(1,_)]) (ck e21) uT rfl ⟨rfl,trivial⟩ (fun hok=>?_)
        obtain rfl:=Option.some.inj h18
        refine Fin.bx (Fin.bY ?_)
        obtain rfl:=Option.some.inj h9
        refine Fin.bx ?_
        obtain rfl:=hy6 _ (Option.some.inj h5).symm
        refine Fin.bx (Fin.bY (Fin.bx ?_))
        obtain rfl:=Option.some.inj h
        exact Fin.qb ⟨_,rfl,rfl,hok⟩
       ·refine ah.skip ?_
        exact Fin.join [0,2,4,5,6] [1,101,103] () (Option.some.inj h18) rfl
      ·rintro _ hv
       subst v17
       refine ah.ab (Oc om (Oc om (Oc (da (k:=104) (es:=[b_13].map (eK .u8)) B' rfl rfl (ko fun _=>rfl) rfl (by decide) (by decide) rfl) ?_)))
       obtain ⟨x_17,e22,h9⟩:=aJ h9
       refine Oc (gE B' (xP e22) (xO e22) rfl rfl rfl rfl (pG e22) rfl) (Oc oa ?_)
       refine aj.nil (Fin.bD ?_)
       exact Fin.join [0,2,4,5] [1,101,103] (c_12,x_17) (Option.some.inj h9) rfl
    ·rintro ⟨c_9,out_10⟩ hv
     subst v8
     refine ah.ab (Oc om (Oc (au rfl) (Oc (ax bu rfl rfl) (Oc (aI cP rfl rfl rfl) (Oc (ef rfl rfl) (Oc (au rfl) ?_))))))
     refine Oc (ax bu rfl rfl) (Oc (dK cP rfl rfl rfl (Nat.le_of_ble_eq_true rfl) rfl) ?_)
     refine aj.nil ?_
     exact Fin.jM [0,2,4,5] [1,101,103] ((⟨c_9.s,IntKind.i64.wrap (c_9.pos + 1)⟩:Scan),out_10) (Option.some.inj h5) rfl
   ·refine ah.exit (Fin.bw ?_)
    obtain rfl:=hy6 _ (Option.some.inj h5).symm
    refine Fin.bw (Fin.cJ ?_)
    exact Fin.join [0,2,4,5] [1,101,103] (c_4,out_5) rfl rfl
  ·rintro ⟨c_2,out_3⟩ hv
   subst v2
   refine ah.seq (ah.ab ?_)
   refine Oc om (Oc (au rfl) (Oc (ax bu rfl rfl) (Oc (aI cP rfl rfl rfl) (Oc (ef rfl rfl) (Oc (au rfl) ?_)))))
   refine Oc (ax bu rfl rfl) (Oc (dK cP rfl rfl rfl (Nat.le_of_ble_eq_true rfl) rfl) ?_)
   refine aj.aV ⟨[(0,_),(2,_),(4,_),(5,_)],[(1,.box 92 [.str c_2.s,.i (IntKind.i64.wrap (c_2.pos + 1))]),(101,_),(103,_)]⟩ rfl ?_
   obtain ⟨v23,h24,h⟩:=aJ h
   refine ah.oE (v:=v23) (fun (_:Unit)=>⟨[(2,Pt 101 0),(4,I c0at),(5,.b (.row 103))],[(1,.box 92 [.str c_2.s,.i (IntKind.i64.wrap (c_2.pos + 1))]),(101,.box 67 [.i 0,.i 0,.str []]),(103,.row 5 1 (out_3.map (eK .u8)))]⟩) (fun z=>.inl z) ?_ ?_
   ·refine ah.seq (ah.ab ?_)
    refine Oc om (Oc (xj Bq rfl rfl (List.length_map _)) (Oc (oJ rfl rfl) ?_))
    refine aj.aV ⟨[(0,_),(2,_),(4,_),(5,_),(76,B (decide (80 < (out_3.length:Int))))],[(1,_),(101,_),(103,_)]⟩ rfl (ah.ite h24 rfl (fun _ h24=>?_) (fun _ h24=>?_))
    ·refine ah.ab (Oc om (Oc om ?_))
     obtain ⟨p_18,e25,h24⟩:=aJ h24
     refine aj.tA (own_a:=[(1,_)]) (ck e25) uT rfl ⟨rfl,trivial⟩ (fun hok=>?_)
     obtain rfl:=Option.some.inj h24
     refine Fin.bx ?_
     obtain rfl:=Option.some.inj h
     exact Fin.qb ⟨_,rfl,rfl,hok⟩
    ·refine ah.skip ?_
     exact Fin.join [2,4,5] [1,101,103] () (Option.some.inj h24) rfl
   ·rintro _ hv
    subst v23
    refine ah.seq (ah.ab ?_)
    refine Oc om (Oc om ?_)
    refine aj.gL 103 rfl (Oc (A0 Bq Gb oD rfl) (Oc (hN jo rfl rfl) (Oc (aW cZ rfl rfl rfl rfl (Nat.le_of_ble_eq_true rfl) rfl) (Oc oa ?_))))
    refine aj.aV ⟨[(2,Pt 101 0),(3,B true)],[(1,.box 92 [.str c_2.s,.i (IntKind.i64.wrap (c_2.pos + 1))]),(101,.box 67 [.i 4,.i c0at,.str (toStr out_3)])]⟩ rfl (ah.ret ?_)
    obtain rfl:=Option.some.inj h
    refine Fin.aD ⟨[(2,_),(3,_)],[(1,_),(101,_)]⟩ rfl (Fin.EY (.inl rfl) ?_)
    exact Fin.q7 [1] [.agg [.i 4,.i c0at,.str (toStr out_3)],.one (.bool true)] (.inl rfl) rfl (.cons (.Da (.agg cZ rfl rfl rfl rfl)) (.cons (.Da (.tmp rfl)) .nil)) ⟨_,rfl,rfl,rfl⟩
theorem qO {F:Nat} {c0s:Str} {c0at:Int} {r:Token × Bool × Str × Int} (h:er F c0s c0at = some (.inl r)):aG Tryz.prog (aw mx) 36 [(1,.box 92 [.str c0s,.i c0at])] [.ptr 1 0] (Is [(1,.box 92 [.str r.2.2.1,.i r.2.2.2])] (.kU [.agg (bt r.1),.one (.bool r.2.1)])):=(kg h).spec
theorem rM {F:Nat} {c0s:Str} {c0at:Int} {p:Problem} (h:er F c0s c0at = some (.inr p)):gJ Tryz.prog (aw mx) 36 [(1,.box 92 [.str c0s,.i c0at])] [.ptr 1 0] ((fun p:Problem=>.iface 33 (.agg #[.int .i64 p.At,.int .i64 p.E])) p) ((fun p:Problem=>kX .i64 p.At ∧ kX .i64 p.E) p):=(kg h).Ge
def gY (F:Nat) (s0:Str) (v0cs:Str) (v0cat:Int):Option Bool :=
 (rR v0cs v0cat).bind fun x_1=>(jO F x_1 s0).bind fun x_2=>some x_2
theorem ph {F:Nat} {s0:Str} {v0cs:Str} {v0cat:Int} {r:Bool} (h:gY F s0 v0cs v0cat = some r):aG Tryz.prog (aw mx) 90 [(1,.ba 90 [.ptr 2 0]),(2,.box 92 [.str v0cs,.i v0cat])] [.one (.str s0),.ptr 1 0] (Is [(1,.ba 90 [.ptr 2 0]),(2,.box 92 [.str v0cs,.i v0cat])] (.b (.one (.bool r)))):=by
 unfold gY at h
 refine aG.intro 15 Tryz.func90 Tryz.ntmps90 rfl (by simp) fun E=>?_
 show ah _ E ⟨15,[1,2],[1,2],[]⟩ _ ⟨[(0,.b (.one (.str s0))),(1,Pt 1 0)],[(1,.ba 90 [.ptr 2 0]),(2,.box 92 [.str v0cs,.i v0cat])]⟩ _
 refine ah.seq (ah.ab ?_)
 refine Oc oa (aj.aV ⟨[(0,.b (.one (.str s0))),(1,Pt 1 0)],[(1,.ba 90 [.ptr 2 0]),(2,.box 92 [.str v0cs,.i v0cat])]⟩ rfl (ah.seq ?_))
 obtain ⟨x_1,e1,h⟩:=aJ h
 obtain ⟨x_2,e2,h⟩:=aJ h
 refine ah.og mixed 12 [Pt 2 0,Pt 2 0,Pt 2 0,.b (.one (.str v0cs)),Pt 2 0,Pt 2 0,Pt 2 1,I v0cat,.b (.one (.str x_1)),.b (.one (.str s0)),B x_2,B x_2] [3] [1,2] (s':=⟨[(3,B x_2)],[(1,_),(2,_)]⟩) rfl ⟨fun _=>.p (cy q6 rfl rfl rfl),fun _=>.p (au rfl),fun _=>.p (ax gu rfl rfl),fun _=>.p (aI gn rfl rfl rfl),fun _=>.p (cy q6 rfl rfl rfl),fun _=>.p (au rfl),fun _=>.p (ax bu rfl rfl),fun _=>.p (aI cP rfl rfl rfl),fun _=>.p (oX oD e1 rfl rfl),fun _=>.p om,fun _=>.p (ct (rI e2) goes91 rfl rfl),fun _=>.p oa,trivial⟩ rfl rfl (ah.ret ?_)
 obtain rfl:=Option.some.inj h
 refine Fin.aD ⟨[(3,_)],[(1,_),(2,_)]⟩ rfl ?_
 exact Fin.result [.one (.bool x_2)] (.inl rfl) rfl (.cons (.tmp rfl) .nil) ⟨rfl,rfl⟩
def kF (F:Nat) (s0:List Str) (f0v0s:Str) (f0v0at:Int):Option Int :=
 Option.bind (iter F (fun x_1=>if (decide (x_1 < (s0.length:Int))) = true then ((aH s0 x_1).bind fun x_2=>(gY F x_2 f0v0s f0v0at).bind fun x_3=>if x_3 = true then (some (.inr (.inr x_1))) else (some (.inl (IntKind.i64.wrap (x_1 + 1))))) else (some (.inr (.inl ())))) 0) (ee (fun _=>some (-1)) (fun y=>some y))
theorem sd {F:Nat} {s0:List Str} {f0v0s:Str} {f0v0at:Int} {r:Int} (h:kF F s0 f0v0s f0v0at = some r):aG Tryz.prog (aw mx) 89 [(1,.ba 90 [.ptr 2 0]),(2,.box 92 [.str f0v0s,.i f0v0at])] [.one (.sl 1 (s0.map eS)),.cD 90 [] [.ptr 1 0]] (Is [(1,.ba 90 [.ptr 2 0]),(2,.box 92 [.str f0v0s,.i f0v0at])] (.b (.one (.i r)))):=by
 unfold kF at h
 refine aG.intro 19 Tryz.func89 Tryz.ntmps89 rfl (by simp) fun E=>?_
 show ah _ E ⟨19,[1,2],[1,2],[]⟩ _ ⟨[(0,.b (.one (.sl 1 (s0.map eS)))),(1,.b (.cD 90 [] [.ptr 1 0]))],[(1,.ba 90 [.ptr 2 0]),(2,.box 92 [.str f0v0s,.i f0v0at])]⟩ _
 refine ah.seq (ah.ab ?_)
 refine Oc oa (aj.aV ⟨[(0,.b (.one (.sl 1 (s0.map eS)))),(1,.b (.cD 90 [] [.ptr 1 0]))],[(1,.ba 90 [.ptr 2 0]),(2,.box 92 [.str f0v0s,.i f0v0at])]⟩ rfl ?_)
 obtain ⟨v1,h2,h⟩:=aJ h
 refine ah.oE (v:=v1) (fun (_:Unit)=>⟨[],[(1,.ba 90 [.ptr 2 0]),(2,.box 92 [.str f0v0s,.i f0v0at])]⟩) (fun z=>.inl z) ?_ ?_
 ·refine ah.seq (ah.ab ?_)
  refine Oc om (Oc (tG IZ rfl (List.length_map _)) (Oc om ?_))
  refine aj.aV ⟨[(0,_),(1,_),(7,I (s0.length:Int)),(8,I 0)],[(1,_),(2,_)]⟩ rfl (ah.block (ah.qw h2 (fun (x_1:Int)=>⟨[(0,.b (.one (.sl 1 (s0.map eS)))),(1,.b (.cD 90 [] [.ptr 1 0])),(7,I (s0.length:Int)),(8,I x_1)],[(1,.ba 90 [.ptr 2 0]),(2,.box 92 [.str f0v0s,.i f0v0at])]⟩) [0,1,7,8] [1,2] rfl ?_))
  rintro x_1 o3 h4 hy5
  refine ah.seq (ah.ab ?_)
  refine Oc (k8 rfl rfl) (aj.aV ⟨[(0,_),(1,_),(7,_),(8,_),(9,B (decide (x_1 < (s0.length:Int))))],[(1,_),(2,_)]⟩ rfl (ah.seq (ah.ite h4 rfl (fun _ h4=>?_) (fun _ h4=>?_))))
  ·refine ah.skip (Fin.aD ⟨[(0,_),(1,_),(7,_),(8,_)],[(1,_),(2,_)]⟩ rfl (Fin.then (ah.seq (ah.block (ah.seq (ah.ab ?_))))))
   refine Oc om (Oc oa ?_)
   refine aj.aV ⟨[(0,_),(1,_),(5,I x_1),(7,_),(8,_)],[(1,_),(2,_)]⟩ rfl (ah.seq (ah.ab ?_))
   refine Oc om (Oc om (Oc om ?_))
   obtain ⟨x_2,e6,h4⟩:=aJ h4
   refine Oc (rh ld (fa e6) (qW (e:=eS) e6) rfl rfl) (Oc (kD gn rfl rfl) ?_)
   obtain ⟨x_3,e7,h4⟩:=aJ h4
   refine Oc (sH (own_a:=[(1,_),(2,_)]) (ph e7) goes90 rfl rfl rfl ⟨rfl,rfl,trivial⟩ rfl rfl) (aj.aV ⟨[(0,_),(1,_),(5,_),(7,_),(8,_),(16,B x_3)],[(1,_),(2,_)]⟩ rfl (ah.ite h4 rfl (fun _ h4=>?_) (fun _ h4=>?_)))
   ·refine ah.seq (ah.ab ?_)
    refine Oc om (Oc oa ?_)
    refine aj.aV ⟨[(4,I x_1)],[(1,_),(2,_)]⟩ rfl (ah.ret (Fin.qF (Fin.cr ?_)))
    obtain rfl:=hy5 _ (Option.some.inj h4).symm
    refine Fin.cr (Fin.qF (Fin.cr ?_))
    obtain rfl:=Option.some.inj h
    refine Fin.aD ⟨[(4,_)],[(1,_),(2,_)]⟩ rfl ?_
    exact Fin.result [.one (.i x_1)] (.inl rfl) rfl (.cons (.tmp rfl) .nil) ⟨rfl,rfl⟩
   ·refine ah.skip (Fin.bD (Fin.aD ⟨[(0,_),(1,_),(7,_),(8,_)],[(1,_),(2,_)]⟩ rfl (Fin.then (ah.ab ?_))))
    refine Oc (ef rfl rfl) (Oc om ?_)
    refine aj.nil ?_
    exact Fin.jM [0,1,7,8] [1,2] (IntKind.i64.wrap (x_1 + 1)) (Option.some.inj h4) rfl
  ·refine ah.exit (Fin.bw ?_)
   obtain rfl:=hy5 _ (Option.some.inj h4).symm
   refine Fin.bw (Fin.cJ ?_)
   exact Fin.join [] [1,2] () rfl rfl
 ·rintro _ hv
  subst v1
  refine ah.seq (ah.ab ?_)
  refine Oc oa (aj.aV ⟨[(4,I (-1))],[(1,_),(2,_)]⟩ rfl (ah.ret ?_))
  obtain rfl:=Option.some.inj h
  refine Fin.aD ⟨[(4,_)],[(1,_),(2,_)]⟩ rfl ?_
  exact Fin.result [.one (.i (-1))] (.inl rfl) rfl (.cons (.tmp rfl) .nil) ⟨rfl,rfl⟩
def ey (F:Nat) (c0s:Str) (c0at:Int):Option ((Token × Bool × Int) ⊕ Problem) :=
 (kF F qa c0s c0at).bind fun x_1=>Option.bind (if (decide (x_1 < 0)) = true then ((bU F c0at 280 c0s c0at).bind fun p_2=>some (.inr (.inr p_2))) else (some (.inl ()))) (ee (fun _=>(aH qa x_1).bind fun x_3=>(aH qa x_1).bind fun x_4=>some (.inl ((⟨5,c0at,x_3⟩:Token),true,IntKind.i64.wrap (c0at + (x_4.length:Int))))) (fun y=>some y))
theorem kh {F:Nat} {c0s:Str} {c0at:Int} {r:(Token × Bool × Int) ⊕ Problem} (h:ey F c0s c0at = some r):eH Tryz.prog (aw mx) 37 [(1,.box 92 [.str c0s,.i c0at])] [.ptr 1 0] (IsP r (fun (r:Token × Bool × Int)=>[(1,.box 92 [.str c0s,.i r.2.2])]) (fun (r:Token × Bool × Int)=>.kU [.agg (bt r.1),.one (.bool r.2.1)])) (HC r (fun p:Problem=>.iface 33 (.agg #[.int .i64 p.At,.int .i64 p.E])) (fun p:Problem=>kX .i64 p.At ∧ kX .i64 p.E)):=by
 unfold ey at h
 refine eH.intro 37 Tryz.func37 Tryz.ntmps37 rfl (by simp) fun E=>?_
 show ah _ E ⟨37,[1],[1],[]⟩ _ ⟨[(0,Pt 1 0)],[(1,.box 92 [.str c0s,.i c0at])]⟩ _
 refine ah.seq (ah.ab ?_)
 refine Oc (BG (k:=101) rfl rfl rfl rfl) (Oc (cz (k:=102) j2 rfl) (Oc oa ?_))
 refine aj.aV ⟨[(1,Pt 101 0),(2,Pt 102 0)],[(1,.box 92 [.str c0s,.i c0at]),(101,.ba 90 [.ptr 1 0]),(102,.box 67 [.i 0,.i 0,.str []])]⟩ rfl (ah.seq (ah.ab ?_))
 refine Oc (Ai (xs:=qa) (enc:=eS) tE tD vM rfl rfl (fun _=>rfl) (by rw [c7]; decide)) (Oc (eg rfl rfl) ?_)
 obtain ⟨x_1,e1,h⟩:=aJ h
 refine Oc (dx (own_a:=[(101,_),(1,_)]) (((sd e1).sw 1 101).sw 2 1) goes89 rfl ⟨rfl,rfl,trivial⟩ rfl rfl) (Oc oa ?_)
 refine aj.aV ⟨[(1,_),(2,_),(4,I x_1)],[(1,_),(101,_),(102,_)]⟩ rfl ?_
 obtain ⟨v2,h3,h⟩:=aJ h
 refine ah.oE (v:=v2) (fun (_:Unit)=>⟨[(1,Pt 101 0),(2,Pt 102 0),(4,I x_1)],[(1,.box 92 [.str c0s,.i c0at]),(101,.ba 90 [.ptr 1 0]),(102,.box 67 [.i 0,.i 0,.str []])]⟩) (fun z=>.inl z) ?_ ?_
 ·refine ah.seq (ah.ab ?_)
  refine Oc om (Oc (k8 rfl rfl) ?_)
  refine aj.aV ⟨[(1,_),(2,_),(4,_),(10,B (decide (x_1 < 0)))],[(1,_),(101,_),(102,_)]⟩ rfl (ah.ite h3 rfl (fun _ h3=>?_) (fun _ h3=>?_))
  ·refine ah.aD ⟨[(1,_),(2,_),(4,_)],[(1,_),(101,_),(102,_)]⟩ rfl ?_
   obtain ⟨p_2,e4,h3⟩:=aJ h3
   refine ah.regionP mixed 5 [Pt 1 0,Pt 1 0,Pt 1 0,Pt 1 1,I c0at] rfl ⟨fun _=>.p (cy q6 rfl rfl rfl),fun _=>.p (cy q6 rfl rfl rfl),fun _=>.p (au rfl),fun _=>.p (ax bu rfl rfl),fun _=>.p (aI cP rfl rfl rfl),trivial⟩ ⟨_,.hH (own_a:=[(1,_)]) (ck e4) uT rfl ⟨rfl,trivial⟩ (fun hok=>?_),rfl⟩
   obtain rfl:=Option.some.inj h3
   refine Fin.bx ?_
   obtain rfl:=Option.some.inj h
   exact Fin.qb ⟨_,rfl,rfl,hok⟩
  ·refine ah.skip ?_
   exact Fin.join [1,2,4] [1,101,102] () (Option.some.inj h3) rfl
 ·rintro _ hv
  subst v2
  refine ah.seq (ah.aD ⟨[(1,_),(2,_),(4,_)],[(1,_),(101,_),(102,_)]⟩ rfl ?_)
  obtain ⟨x_3,e5,h⟩:=aJ h
  refine ah.yV mixed [false,false,false,false,false,false,false,false,true,true] [Pt 1 0,Pt 1 0,Pt 1 1,I c0at,I x_1,.b (.jY [.str x_3]),.b (.one (.str x_3)),.b (.agg [.i 5,.i c0at,.str x_3]),Pt 103 0,B true] [⟨[false,false,false,false,false,false,false,false,false,false],[(1,Pt 101 0),(2,Pt 102 0),(4,I x_1)],[(1,.box 92 [.str c0s,.i c0at]),(101,.ba 90 [.ptr 1 0]),(102,.box 67 [.i 0,.i 0,.str []])],[true,true,true,true,true,true,true,true,true,true],[],[9]⟩,⟨[false,false,false,false,false,false,false,false,true,false],[(1,Pt 101 0),(2,Pt 102 0),(4,I x_1)],[(1,.box 92 [.str c0s,.i c0at]),(101,.ba 90 [.ptr 1 0]),(102,.box 67 [.i 0,.i 0,.str []]),(103,.box 67 [.i 0,.i 0,.str []])],[true,true,true,true,true,true,true,true,true,true],[8],[]⟩,⟨[false,false,false,false,false,false,false,false,true,true],[(1,Pt 101 0),(2,Pt 102 0),(4,I x_1)],[(1,.box 92 [.str c0s,.i c0at]),(101,.ba 90 [.ptr 1 0]),(102,.box 67 [.i 0,.i 0,.str []]),(103,.box 67 [.i 5,.i c0at,.str x_3])],[true,true,true,true,true,true,true,true,true,true],[0,1,2,3,4,5,6,7,8,9],[]⟩] rfl (⟨by kernel_rfl,⟨⟨Pt 1 0,fun _=>rfl,fun _=>.p (by exact cy q6 rfl rfl rfl)⟩,⟨Pt 1 0,fun _=>rfl,fun _=>.p (by exact au rfl)⟩,⟨Pt 1 1,fun _=>rfl,fun _=>.p (by exact ax bu rfl rfl)⟩,⟨I c0at,fun _=>rfl,fun _=>.p (by exact aI cP rfl rfl rfl)⟩,⟨I x_1,fun _=>rfl,fun _=>.p (by exact cE rfl)⟩,⟨.b (.jY [.str x_3]),fun _=>rfl,fun _=>.p (by exact pM tE tD vM (fa e5) (mO e5) rfl (Cv (e:=eS) (sz:=1) (fun _=>rfl) e5))⟩,⟨.b (.one (.str x_3)),fun _=>rfl,fun _=>.p (by exact kD gn rfl rfl)⟩,⟨.b (.agg [.i 5,.i c0at,.str x_3]),fun _=>rfl,fun _=>.p (by exact hN jo rfl rfl)⟩,⟨_,[103],Pt 103 0,rfl,fun _=>rfl,rfl,rfl,fun _=>.Hr [1,101,102,103] (by exact .p (by exact cz (k:=103) j2 rfl)) (by exact rfl)⟩,trivial,trivial⟩,⟨by kernel_rfl,⟨⟨Pt 1 0,fun _=>rfl,fun _=>.p (by exact cy q6 rfl rfl rfl)⟩,⟨Pt 1 0,fun _=>rfl,fun _=>.p (by exact au rfl)⟩,⟨Pt 1 1,fun _=>rfl,fun _=>.p (by exact ax bu rfl rfl)⟩,⟨I c0at,fun _=>rfl,fun _=>.p (by exact aI cP rfl rfl rfl)⟩,⟨I x_1,fun _=>rfl,fun _=>.p (by exact cE rfl)⟩,⟨.b (.jY [.str x_3]),fun _=>rfl,fun _=>.p (by exact pM tE tD vM (fa e5) (mO e5) rfl (Cv (e:=eS) (sz:=1) (fun _=>rfl) e5))⟩,⟨.b (.one (.str x_3)),fun _=>rfl,fun _=>.p (by exact kD gn rfl rfl)⟩,⟨.b (.agg [.i 5,.i c0at,.str x_3]),fun _=>rfl,fun _=>.p (by exact hN jo rfl rfl)⟩,trivial,⟨_,[],.b (.one .any),rfl,(fun e=>by simp at e),rfl,rfl,fun _=>.Hr [1,101,102,103] (by exact .p (by exact aW cZ rfl rfl rfl rfl (Nat.le_of_ble_eq_true rfl) rfl)) (by exact rfl)⟩,trivial⟩,⟨by kernel_rfl,⟨trivial,trivial,trivial,trivial,trivial,trivial,trivial,trivial,trivial,trivial,trivial⟩,trivial⟩⟩⟩) rfl rfl rfl [1,2,4,5] [1,101,102,103] (s':=⟨[(1,_),(2,_),(4,_),(5,Pt 103 0)],[(1,_),(101,_),(102,_),(103,.box 67 [.i 5,.i c0at,.str x_3])]⟩) rfl ?_
  refine ah.seq (ah.aD ⟨[(1,_),(2,_),(4,_),(5,_)],[(1,_),(101,_),(102,_),(103,_)]⟩ rfl ?_)
  obtain ⟨x_4,e6,h⟩:=aJ h
  refine ah.og mixed 11 [Pt 1 0,Pt 1 0,Pt 1 1,I c0at,I x_1,.b (.jY [.str x_4]),.b (.one (.str x_4)),I (x_4.length:Int),I (IntKind.i64.wrap (c0at + (x_4.length:Int))),Pt 1 0,Pt 1 1] [2,5] [1,102,103] (s':=⟨[(2,_),(5,_)],[(1,.box 92 [.str c0s,.i (IntKind.i64.wrap (c0at + (x_4.length:Int)))]),(102,_),(103,_)]⟩) rfl ⟨fun _=>.p (cy q6 rfl rfl rfl),fun _=>.p (au rfl),fun _=>.p (ax bu rfl rfl),fun _=>.p (aI cP rfl rfl rfl),fun _=>.p om,fun _=>.p (pM tE tD vM (fa e6) (mO e6) rfl (Cv (e:=eS) (sz:=1) (fun _=>rfl) e6)),fun _=>.p (kD gn rfl rfl),fun _=>.p (fY oD rfl),fun _=>.p (ef rfl rfl),fun _=>.p (au rfl),fun _=>.p (ax bu rfl rfl),trivial⟩ ⟨_,by exact .p (dK cP rfl rfl rfl (Nat.le_of_ble_eq_true rfl) rfl),rfl⟩ rfl (ah.seq (ah.ab ?_))
  refine Oc (lp cZ) (Oc (aW cZ rfl rfl rfl rfl (Nat.le_of_ble_eq_true rfl) rfl) (Oc oa ?_))
  refine aj.aV ⟨[(2,_),(3,B true)],[(1,_),(102,.box 67 [.i 5,.i c0at,.str x_3])]⟩ rfl (ah.ret ?_)
  obtain rfl:=Option.some.inj h
  refine Fin.aD ⟨[(2,_),(3,_)],[(1,_),(102,_)]⟩ rfl (Fin.EY (.inl rfl) ?_)
  exact Fin.q7 [1] [.agg [.i 5,.i c0at,.str x_3],.one (.bool true)] (.inl rfl) rfl (.cons (.Da (.agg cZ rfl rfl rfl rfl)) (.cons (.Da (.tmp rfl)) .nil)) ⟨_,rfl,rfl,rfl⟩
theorem qP {F:Nat} {c0s:Str} {c0at:Int} {r:Token × Bool × Int} (h:ey F c0s c0at = some (.inl r)):aG Tryz.prog (aw mx) 37 [(1,.box 92 [.str c0s,.i c0at])] [.ptr 1 0] (Is [(1,.box 92 [.str c0s,.i r.2.2])] (.kU [.agg (bt r.1),.one (.bool r.2.1)])):=(kh h).spec
theorem rN {F:Nat} {c0s:Str} {c0at:Int} {p:Problem} (h:ey F c0s c0at = some (.inr p)):gJ Tryz.prog (aw mx) 37 [(1,.box 92 [.str c0s,.i c0at])] [.ptr 1 0] ((fun p:Problem=>.iface 33 (.agg #[.int .i64 p.At,.int .i64 p.E])) p) ((fun p:Problem=>kX .i64 p.At ∧ kX .i64 p.E) p):=(kh h).Ge
def fS (F:Nat) (c0s:Str) (c0at:Int):Option (Str × Int) :=
 Option.bind (iter F (fun c_1=>Option.bind (cX F 92 c_1.s c_1.pos) (un3 fun x_3 x_4 x_5=>(bo (!(decide (0 < x_3))) (bz F x_4 x_5)).bind fun x_6=>if ((decide (0 < x_3)) || (decide (x_6 = 35))) = true then ((bz F x_4 x_5).bind fun x_7=>if (decide (x_7 = 35)) = true then (Option.bind (cX F 94 x_4 x_5) (un3 fun x_8 x_9 x_10=>some (.inl (⟨x_9,x_10⟩:Scan)))) else (some (.inl (⟨x_4,x_5⟩:Scan)))) else (some (.inr (⟨x_4,x_5⟩:Scan))))) (⟨c0s,c0at⟩:Scan)) (fun y_2=>some (y_2.s,y_2.pos))
theorem kR {F:Nat} {c0s:Str} {c0at:Int} {r:Str × Int} (h:fS F c0s c0at = some r):aG Tryz.prog (aw mx) 38 [(1,.box 92 [.str c0s,.i c0at])] [.ptr 1 0] (Is [(1,.box 92 [.str r.1,.i r.2])] (.kU [])):=by
 unfold fS at h
 refine aG.intro 15 Tryz.func38 Tryz.ntmps38 rfl (by simp) fun E=>?_
 show ah _ E ⟨15,[1],[1],[]⟩ _ ⟨[(0,Pt 1 0)],[(1,.box 92 [.str c0s,.i c0at])]⟩ _
 refine ah.block ?_
 obtain ⟨v1,h2,h⟩:=aJ h
 refine ah.qw h2 (fun (c_1:Scan)=>⟨[(0,Pt 1 0)],[(1,.box 92 (jZ c_1))]⟩) [0] [1] rfl ?_
 rintro c_1 o3 h4 hy5
 refine ah.seq (ah.seq (ah.ab ?_))
 refine Oc om ?_
 obtain ⟨⟨x_3,x_4,x_5⟩,e6,h4⟩:=aJ h4
 refine Oc (dx (own_a:=[(1,_)]) (dD e6) zp rfl ⟨rfl,trivial⟩ rfl rfl) (Oc (oJ rfl rfl) (Oc om ?_))
 refine AT (!(decide (0 < x_3))) [] (fun g7=>trivial) (fun g7=>om) (aj.aD ⟨[(0,_),(5,B (decide (0 < x_3))),(6,.opt (!(decide (0 < x_3))) (.ptr 1 0))],[(1,.box 92 [.str x_4,.i x_5])]⟩ rfl ?_)
 obtain ⟨x_6,e9,h4⟩:=aJ h4
 refine AT (!(decide (0 < x_3))) [6] (fun g8=>⟨g8,trivial⟩) (fun g8=>zN (own_a:=[(1,_)]) (bB (gc e9 g8)) qe rfl ⟨rfl,trivial⟩ rfl rfl rfl rfl rfl) (AT (!(decide (0 < x_3))) [7] (fun g10=>⟨g10,trivial⟩) (fun g10=>nF rfl rfl) (Oc (ff (fun e=>by first | (rw [e]; rfl) | (simp only at e; rw [e]; rfl)) rfl rfl rfl rfl) (aj.aV ⟨[(0,_),(9,B ((decide (0 < x_3)) || (decide (x_6 = 35))))],[(1,_)]⟩ rfl (ah.ite h4 rfl (fun _ h4=>?_) (fun _ h4=>?_)))))
 ·refine ah.skip (Fin.aD ⟨[(0,_)],[(1,_)]⟩ rfl (Fin.then (ah.block (ah.seq (ah.ab ?_)))))
  refine Oc om ?_
  obtain ⟨x_7,e11,h4⟩:=aJ h4
  refine Oc (dx (own_a:=[(1,_)]) (bB e11) qe rfl ⟨rfl,trivial⟩ rfl rfl) (Oc (nF rfl rfl) ?_)
  refine aj.aV ⟨[(0,_),(12,B (decide (x_7 = 35)))],[(1,_)]⟩ rfl (ah.ite h4 rfl (fun _ h4=>?_) (fun _ h4=>?_))
  ·refine ah.ab (Oc om ?_)
   obtain ⟨⟨x_8,x_9,x_10⟩,e12,h4⟩:=aJ h4
   refine Oc (dx (own_a:=[(1,_)]) (dD e12) zp rfl ⟨rfl,trivial⟩ rfl rfl) (aj.nil (Fin.bD ?_))
   exact Fin.jM [0] [1] (⟨x_9,x_10⟩:Scan) (Option.some.inj h4) rfl
  ·refine ah.skip (Fin.bD ?_)
   exact Fin.jM [0] [1] (⟨x_4,x_5⟩:Scan) (Option.some.inj h4) rfl
 ·refine ah.exit (Fin.bw ?_)
  obtain rfl:=hy5 _ (Option.some.inj h4).symm
  refine Fin.bw (Fin.cJ ?_)
  obtain rfl:=Option.some.inj h
  refine Fin.aD ⟨[],[(1,_)]⟩ rfl ?_
  exact Fin.result [] (.inr rfl) rfl (.nil) ⟨rfl,rfl⟩
def eh (F:Nat) (s0:Str):Option ((List Token) × Problem) :=
 if (decide (100000 < (s0.length:Int))) = true then (some ([],(⟨0,2⟩:Problem))) else (Option.bind (Option.bind (fS F s0 0) (wQ fun x_2 x_3=>iter F (wQ fun outf0_4 c_5=>if (decide (c_5.pos < (s0.length:Int))) = true then (Option.bind (Option.bind (iter F (wQ fun c_9 x_10=>if (decide (x_10 < 4)) = true then (if decide (x_10 = 0) = true then (Option.bind (ez F c_9.s c_9.pos) (bC (fun p_14=>some (.inr (.inr ([],(⟨p_14.At,p_14.E⟩:Problem))))) (un4 fun x_15 x_16 x_17 x_18=>if x_16 = true then ((bV outf0_4 [x_15]).bind fun x_19=>some (.inr (.inl (x_19,(⟨x_17,x_18⟩:Scan))))) else (some (.inl ((⟨x_17,x_18⟩:Scan),IntKind.i64.wrap (x_10 + 1))))))) else (if decide (x_10 = 1) = true then (Option.bind (dE F c_9.s c_9.pos) (bC (fun p_21=>some (.inr (.inr ([],(⟨p_21.At,p_21.E⟩:Problem))))) (un4 fun x_22 x_23 x_24 x_25=>if x_23 = true then ((bV outf0_4 [x_22]).bind fun x_26=>some (.inr (.inl (x_26,(⟨x_24,x_25⟩:Scan))))) else (some (.inl ((⟨x_24,x_25⟩:Scan),IntKind.i64.wrap (x_10 + 1))))))) else (if decide (x_10 = 2) = true then (Option.bind (er F c_9.s c_9.pos) (bC (fun p_28=>some (.inr (.inr ([],(⟨p_28.At,p_28.E⟩:Problem))))) (un4 fun x_29 x_30 x_31 x_32=>if x_30 = true then ((bV outf0_4 [x_29]).bind fun x_33=>some (.inr (.inl (x_33,(⟨x_31,x_32⟩:Scan))))) else (some (.inl ((⟨x_31,x_32⟩:Scan),IntKind.i64.wrap (x_10 + 1))))))) else (if decide (x_10 = 3) = true then (Option.bind (ey F c_9.s c_9.pos) (bC (fun p_35=>some (.inr (.inr ([],(⟨p_35.At,p_35.E⟩:Problem))))) (un3 fun x_36 x_37 x_38=>if x_37 = true then ((bV outf0_4 [x_36]).bind fun x_39=>some (.inr (.inl (x_39,(⟨c_9.s,x_38⟩:Scan))))) else (some (.inl ((⟨c_9.s,x_38⟩:Scan),IntKind.i64.wrap (x_10 + 1))))))) else (none))))) else (some (.inr (.inl (outf0_4,c_9))))) (c_5,0)) (ee (wQ fun outf0_11 c_12=>some (.inl (outf0_11,c_12))) (fun y=>some (.inr y)))) (ee (wQ fun outf0_7 c_8=>Option.bind (fS F c_8.s c_8.pos) (wQ fun x_40 x_41=>some (.inl (outf0_7,(⟨x_40,x_41⟩:Scan))))) (fun y=>some (.inr (.inr y))))) else (some (.inr (.inl outf0_4)))) ([],(⟨x_2,x_3⟩:Scan)))) (ee (fun outf0_1=>some (outf0_1,(⟨0,0⟩:Problem))) (fun y=>some y)))
theorem uc:Dx Tryz.prog 33 2:=Dx.intro Tryz.func33 rfl rfl Tryz.underlying20 (by decide) (by decide) (by decide) (by decide) (by decide)
theorem fy {a102i0:Int} {a102i1:Int} {xs107:List Token} {p:Problem} (hok:kX .i64 p.At ∧ kX .i64 p.E):ra Tryz.prog (aw mx) 33 [(101,.ba 60 [.row 107]),(102,.box 33 [.i a102i0,.i a102i1]),(107,.row 67 3 (xs107.map bt))] [.ptr 101 0,.ptr 102 0] (.iface 33 (.agg #[.int .i64 p.At,.int .i64 p.E])) [(101,.ba 60 [.one (.nil)]),(102,.box 33 (aS p))]:=by
 refine ra.intro (z:=.one (.yy 33 (aS p))) 8 Tryz.func33 Tryz.ntmps33 rfl (by decide) (by decide) (by decide) (fun h ρ=>⟨_,rfl,.cons ⟨rfl,hok.1⟩ (.cons ⟨rfl,hok.2⟩ .nil)⟩) fun E=>?_
 show ah _ E ⟨8,[101,102],[101,102,107],[]⟩ _ ⟨[(2,.b (.one (.yy 33 (aS p)))),(0,Pt 101 0),(1,Pt 102 0)],[(101,.ba 60 [.row 107]),(102,.box 33 [.i a102i0,.i a102i1]),(107,.row 67 3 (xs107.map bt))]⟩ _
 refine ah.seq (ah.ab ?_)
 refine Oc om (Oc (Aj Tryz.underlying20 rfl) ?_)
 refine aj.aV ⟨[(0,Pt 101 0),(1,Pt 102 0),(2,.b (.one (.yy 33 (aS p)))),(5,B true)],[(101,.ba 60 [.row 107]),(102,.box 33 [.i a102i0,.i a102i1]),(107,.row 67 3 (xs107.map bt))]⟩ rfl (ah.condT rfl (ah.aD ⟨[(0,_),(1,_),(2,_)],[(101,_),(102,_),(107,_)]⟩ rfl (ah.vO mixed [false,false,true,true] [.b (.one (.yy 33 (aS p))),.b (.agg (aS p)),B true,B true] [⟨[false,false,false,false],[(0,Pt 101 0),(1,Pt 102 0),(2,.b (.one (.yy 33 (aS p))))],[(101,.ba 60 [.row 107]),(102,.box 33 [.i a102i0,.i a102i1]),(107,.row 67 3 (xs107.map bt))],[true,true,true,true],[],[3]⟩,⟨[false,false,true,false],[(0,Pt 101 0),(1,Pt 102 0),(2,.b (.one (.yy 33 (aS p))))],[(101,.ba 60 [.one (.nil)]),(102,.box 33 [.i a102i0,.i a102i1]),(107,.row 67 3 (xs107.map bt))],[true,true,true,true],[2],[]⟩,⟨[false,false,true,true],[(0,Pt 101 0),(1,Pt 102 0),(2,.b (.one (.yy 33 (aS p))))],[(101,.ba 60 [.one (.nil)]),(102,.box 33 (aS p)),(107,.row 67 3 (xs107.map bt))],[true,true,true,true],[0,1,2,3],[]⟩] rfl (⟨by kernel_rfl,⟨⟨.b (.one (.yy 33 (aS p))),fun _=>rfl,fun _=>.p (by exact cE rfl)⟩,⟨.b (.agg (aS p)),fun _=>rfl,fun _=>.p (by exact ux Tryz.underlying33 rfl rfl)⟩,⟨_,[],.b (.one .any),rfl,(fun e=>by simp at e),rfl,rfl,fun _=>.Hr [101,102,107] (by exact .p (by exact eU fq rfl rfl rfl rfl (Nat.le_of_ble_eq_true rfl) rfl)) (by exact rfl)⟩,trivial,trivial⟩,⟨by kernel_rfl,⟨⟨.b (.one (.yy 33 (aS p))),fun _=>rfl,fun _=>.p (by exact cE rfl)⟩,⟨.b (.agg (aS p)),fun _=>rfl,fun _=>.p (by exact ux Tryz.underlying33 rfl rfl)⟩,trivial,⟨_,[],.b (.one .any),rfl,(fun e=>by simp at e),rfl,rfl,fun _=>.Hr [101,102,107] (by exact .p (by exact aW lf rfl rfl rfl rfl (Nat.le_of_ble_eq_true rfl) rfl)) (by exact rfl)⟩,trivial⟩,⟨by kernel_rfl,⟨trivial,trivial,trivial,trivial,trivial⟩,trivial⟩⟩⟩) rfl rfl rfl [] [101,102] (s':=⟨[],[(101,.ba 60 [.one (.nil)]),(102,.box 33 (aS p))]⟩) rfl (Fin.aD ⟨[],[(101,_),(102,_)]⟩ rfl ?_))))
 exact Fin.result [] (.inr rfl) rfl .nil ⟨rfl,rfl⟩
theorem wN {F:Nat} {s0:Str} {r:(List Token) × Problem} (h:eh F s0 = some r):aG Tryz.prog (aw mx) 14 [] [.one (.str s0)] (Is [] (.kU [.one (.sl 3 (r.1.map bt)),.agg (aS r.2)])):=by
 unfold eh at h
 refine aG.Fh 55 Tryz.func14 Tryz.ntmps14 rfl (by simp) fun E=>?_
 show ah _ E ⟨55,[],[],[]⟩ _ ⟨[(0,.b (.one (.str s0)))],[]⟩ _
 refine ah.seq (ah.ab ?_)
 refine Oc (cz (k:=101) JQ rfl) (Oc (cz (k:=102) JR rfl) ?_)
 refine aj.aV ⟨[(0,.b (.one (.str s0))),(2,Pt 101 0),(3,Pt 102 0)],[(101,.box 60 [.nil]),(102,.box 33 [.i 0,.i 0])]⟩ rfl (ah.seq (ah.seq (ah.ab ?_)))
 refine Oc om (Oc (fY oD rfl) (Oc (oJ rfl rfl) ?_))
 refine aj.aV ⟨[(0,_),(2,_),(3,_),(12,B (decide (100000 < (s0.length:Int))))],[(101,_),(102,_)]⟩ rfl (ah.ite h rfl (fun _ h=>?_) (fun _ h=>?_))
 ·refine ah.seq (ah.ab ?_)
  refine Oc (hN By rfl rfl) (Oc (dK fq rfl rfl rfl (Nat.le_of_ble_eq_true rfl) rfl) (Oc (aW lf rfl rfl rfl rfl (Nat.le_of_ble_eq_true rfl) rfl) ?_))
  refine aj.aV ⟨[(2,_),(3,_)],[(101,_),(102,.box 33 [.i 0,.i 2])]⟩ rfl (ah.ret (Fin.cr ?_))
  obtain rfl:=Option.some.inj h
  refine Fin.retD (.inl rfl) rfl (Fin.aD ⟨[(2,_),(3,_)],[(101,_),(102,_)]⟩ rfl (Fin.oK 101 0 3 rfl rfl (by decide) (Fin.eM [.one (.sl 3 ([].map bt)),.agg [.i 0,.i 2]] (.inl rfl) rfl (.cons (.one fq rfl rfl rfl) (.cons (.agg lf rfl rfl rfl rfl) .nil)) ⟨rfl,rfl⟩)))
 ·refine ah.skip (Fin.aD ⟨[(0,_),(2,_),(3,_)],[(101,_),(102,_)]⟩ rfl (Fin.then (ah.seq (ah.ab ?_))))
  refine Oc (eg rfl rfl) (aj.defer rfl rfl rfl (fun E' vals hlink hvals=>?_))
  refine aj.aV ⟨[(0,_),(2,_),(3,_)],[(101,_),(102,_)]⟩ rfl (ah.seq (ah.ab ?_))
  refine Oc om (Oc (hN HL rfl rfl) (Oc (wZ (k:=103) rfl rfl) (Oc oa ?_)))
  refine aj.aV ⟨[(0,_),(2,_),(3,_),(4,Pt 103 0)],[(101,_),(102,_),(103,.box 92 [.str s0,.i 0])]⟩ rfl (ah.seq (ah.ab ?_))
  refine Oc om (Oc (eg rfl rfl) (Oc om (Oc (eg rfl rfl) (Oc om (Oc (eg rfl rfl) ?_)))))
  refine Oc om (aj.aD ⟨[(0,_),(2,_),(3,_),(4,_),(19,.b (.cD 34 [.ptr 103 0] [])),(21,.b (.cD 35 [.ptr 103 0] [])),(23,.b (.cD 36 [.ptr 103 0] [])),(24,Pt 103 0)],[(101,_),(102,_),(103,_)]⟩ rfl (Oc (eg rfl rfl) (Oc (EA HK rfl rfl) (Oc (cz (k:=104) JP rfl) ?_))))
  refine aj.Ib 104 rfl (Oc (Em GI rfl rfl rfl rfl rfl (Nat.le_of_ble_eq_true rfl) rfl) (aj.aV ⟨[(0,.b (.one (.str s0))),(2,Pt 101 0),(3,Pt 102 0),(4,Pt 103 0),(5,Pt 104 0)],[(101,.box 60 [.nil]),(102,.box 33 [.i 0,.i 0]),(103,.box 92 [.str s0,.i 0]),(104,.ba 94 [.cD 34 [.ptr 103 0] [],.cD 35 [.ptr 103 0] [],.cD 36 [.ptr 103 0] [],.cD 37 [.ptr 103 0] []])]⟩ rfl ?_))
  obtain ⟨v1,h2,h⟩:=aJ h
  refine ah.oE (v:=v1) (fun (outf0_1:List Token)=>⟨[(2,Pt 101 0),(3,Pt 102 0)],[(101,.ba 60 [.row 107]),(102,.box 33 [.i 0,.i 0]),(107,.row 67 3 (outf0_1.map bt))]⟩) (fun z=>.inl z) ?_ ?_
  ·refine ah.seq (ah.ab ?_)
   refine Oc om ?_
   obtain ⟨⟨x_2,x_3⟩,e3,h2⟩:=aJ h2
   refine Oc (dx (own_a:=[(103,_)]) ((kR e3).sw 1 103) Jl rfl ⟨rfl,trivial⟩ rfl rfl) (aj.aV ⟨[(0,.b (.one (.str s0))),(2,Pt 101 0),(3,Pt 102 0),(4,Pt 103 0),(5,Pt 104 0)],[(101,.box 60 [.nil]),(102,.box 33 [.i 0,.i 0]),(103,.box 92 [.str x_2,.i x_3]),(104,.ba 94 [.cD 34 [.ptr 103 0] [],.cD 35 [.ptr 103 0] [],.cD 36 [.ptr 103 0] [],.cD 37 [.ptr 103 0] []])]⟩ rfl (ah.block (ah.Ib 101 rfl (ah.pE 101 0 107 3 67 rfl rfl (by decide) (by decide) rfl (ah.qw h2 (wQ fun (outf0_4:List Token) (c_5:Scan)=>⟨[(0,.b (.one (.str s0))),(2,Pt 101 0),(3,Pt 102 0),(4,Pt 103 0),(5,Pt 104 0)],[(101,.ba 60 [.row 107]),(102,.box 33 [.i 0,.i 0]),(103,.box 92 (jZ c_5)),(104,.ba 94 [.cD 34 [.ptr 103 0] [],.cD 35 [.ptr 103 0] [],.cD 36 [.ptr 103 0] [],.cD 37 [.ptr 103 0] []]),(107,.row 67 3 (outf0_4.map bt))]⟩) [0,2,3,4,5] [101,102,103,104,107] rfl ?_)))))
   rintro ⟨outf0_4,c_5⟩ o4 h5 hy6
   refine ah.seq (ah.seq (ah.ab ?_))
   refine Oc om (Oc (au rfl) (Oc (ax bu rfl rfl) (Oc (aI cP rfl rfl rfl) (Oc om (Oc (fY oD rfl) ?_)))))
   refine Oc (k8 rfl rfl) (aj.aV ⟨[(0,_),(2,_),(3,_),(4,_),(5,_),(35,B (decide (c_5.pos < (s0.length:Int))))],[(101,_),(102,_),(103,_),(104,_),(107,_)]⟩ rfl (ah.ite h5 rfl (fun _ h5=>?_) (fun _ h5=>?_)))
   ·refine ah.skip (Fin.aD ⟨[(0,_),(2,_),(3,_),(4,_),(5,_)],[(101,_),(102,_),(103,_),(104,_),(107,_)]⟩ rfl (Fin.then ?_))
    obtain ⟨v7,h8,h5⟩:=aJ h5
    refine ah.oE (v:=v7) (wQ fun (outf0_7:List Token) (c_8:Scan)=>⟨[(0,.b (.one (.str s0))),(2,Pt 101 0),(3,Pt 102 0),(4,Pt 103 0),(5,Pt 104 0)],[(101,.ba 60 [.row 107]),(102,.box 33 [.i 0,.i 0]),(103,.box 92 (jZ c_8)),(104,.ba 94 [.cD 34 [.ptr 103 0] [],.cD 35 [.ptr 103 0] [],.cD 36 [.ptr 103 0] [],.cD 37 [.ptr 103 0] []]),(107,.row 67 3 (outf0_7.map bt))]⟩) (fun z=>.inl z) ?_ ?_
    ·refine ah.block (ah.seq (ah.ab ?_))
     refine Oc (FK GI rfl rfl rfl rfl) (Oc om ?_)
     refine aj.aV ⟨[(0,_),(2,_),(3,_),(4,_),(5,_),(38,.jX [.cD 34 [.ptr 103 0] [],.cD 35 [.ptr 103 0] [],.cD 36 [.ptr 103 0] [],.cD 37 [.ptr 103 0] []]),(39,I 0)],[(101,_),(102,_),(103,_),(104,_),(107,_)]⟩ rfl (ah.block ?_)
     obtain ⟨v9,h10,h8⟩:=aJ h8
     refine ah.qw h10 (wQ fun (c_9:Scan) (x_10:Int)=>⟨[(0,.b (.one (.str s0))),(2,Pt 101 0),(3,Pt 102 0),(4,Pt 103 0),(5,Pt 104 0),(38,.jX [.cD 34 [.ptr 103 0] [],.cD 35 [.ptr 103 0] [],.cD 36 [.ptr 103 0] [],.cD 37 [.ptr 103 0] []]),(39,I x_10)],[(101,.ba 60 [.row 107]),(102,.box 33 [.i 0,.i 0]),(103,.box 92 (jZ c_9)),(104,.ba 94 [.cD 34 [.ptr 103 0] [],.cD 35 [.ptr 103 0] [],.cD 36 [.ptr 103 0] [],.cD 37 [.ptr 103 0] []]),(107,.row 67 3 (outf0_4.map bt))]⟩) [0,2,3,4,5,38,39] [101,102,103,104,107] rfl ?_
     rintro ⟨c_9,x_10⟩ o11 h12 hy13
     refine ah.seq (ah.ab ?_)
     refine Oc (k8 rfl rfl) (aj.aV ⟨[(0,_),(2,_),(3,_),(4,_),(5,_),(38,_),(39,_),(40,B (decide (x_10 < 4)))],[(101,_),(102,_),(103,_),(104,_),(107,_)]⟩ rfl (ah.seq (ah.ite h12 rfl (fun _ h12=>?_) (fun _ h12=>?_))))
     ·refine ah.skip (Fin.aD ⟨[(0,_),(2,_),(3,_),(4,_),(5,_),(38,_),(39,_)],[(101,_),(102,_),(103,_),(104,_),(107,_)]⟩ rfl (Fin.then (ah.seq (ah.block (ah.seq ?_)))))
      refine Gl h12 (fun hc14 h12=>?_) (fun _ h12=>?_)
      ·refine ah.ab (Oc (pL yR yQ (show x_10 = 0 from of_decide_eq_true hc14) (by decide) rfl rfl rfl) (Oc oa ?_))
       refine aj.aV ⟨[(0,_),(2,_),(3,_),(4,_),(5,_),(7,.b (.cD 34 [.ptr 103 0] [])),(38,_),(39,_)],[(101,_),(102,_),(103,_),(104,_),(107,_)]⟩ rfl (ah.seq (ah.ab ?_))
       refine Oc om ?_
       obtain ⟨o_13,e15,h12⟩:=aJ h12
       refine Gt h12 (fun p_14 hp16 h12=>?hH) (fun z hp16 h12=>?_)
       case hH=>
        subst o_13
        refine aj.wa (own_a:=[(103,_)]) ((rO e15).sw 1 103) Jp rfl rfl rfl ⟨rfl,trivial⟩ (fun hok=>?_)
        refine Fin.bx (Fin.bY (Fin.bx ?_))
        obtain rfl:=hy13 _ (Option.some.inj h12).symm
        refine Fin.bx (Fin.bY (Fin.bY ?_))
        obtain rfl:=Option.some.inj h8
        refine Fin.bx ?_
        obtain rfl:=hy6 _ (Option.some.inj h5).symm
        refine Fin.bx (Fin.bY (Fin.bx (Fin.tz (own_c:=[(101,_),(102,_),(107,_)]) hlink hvals (fy hok) zq rfl rfl ⟨rfl,rfl,rfl,trivial⟩ rfl rfl (qX rfl rfl rfl rfl) ?_)))
        obtain rfl:=Option.some.inj h
        refine Fin.aD ⟨[(2,Pt 101 0),(3,Pt 102 0)],[(101,.ba 60 [.one (.nil)]),(102,.box 33 [.i p_14.At,.i p_14.E])]⟩ rfl (Fin.F7 101 rfl rfl (Fin.oK 101 0 3 rfl rfl (by decide) (Fin.eM [.one (.sl 3 ([].map bt)),.agg [.i p_14.At,.i p_14.E]] (.inl rfl) rfl (.cons (.one fq rfl rfl rfl) (.cons (.agg lf rfl rfl rfl rfl) .nil)) ⟨rfl,rfl⟩)))
       subst o_13
       obtain ⟨x_15,x_16,x_17,x_18⟩:=z
       refine Oc (sH (own_a:=[(103,_)]) ((qQ e15).sw 1 103) Jp rfl rfl rfl ⟨rfl,trivial⟩ rfl rfl) (Oc om (Oc (cI rfl rfl) (Oc (cI rfl rfl) ?_)))
       refine aj.aD ⟨[(0,.b (.one (.str s0))),(2,_),(3,_),(4,Pt 103 0),(5,Pt 104 0),(38,.jX [.cD 34 [.ptr 103 0] [],.cD 35 [.ptr 103 0] [],.cD 36 [.ptr 103 0] [],.cD 37 [.ptr 103 0] []]),(39,I x_10),(45,.b (.agg (bt x_15))),(46,B x_16)],[(101,.ba 60 [.row 107]),(102,.box 33 [.i 0,.i 0]),(103,.box 92 [.str x_17,.i x_18]),(104,.ba 94 [.cD 34 [.ptr 103 0] [],.cD 35 [.ptr 103 0] [],.cD 36 [.ptr 103 0] [],.cD 37 [.ptr 103 0] []]),(107,.row 67 3 (outf0_4.map bt))]⟩ rfl (Oc (cz (k:=108) j2 rfl) (Oc (aW cZ rfl rfl rfl rfl (Nat.le_of_ble_eq_true rfl) rfl) (Oc oa ?_)))
       refine aj.aV ⟨[(0,_),(2,_),(3,_),(4,_),(5,_),(8,Pt 108 0),(9,B x_16),(38,_),(39,_)],[(101,_),(102,_),(103,_),(104,_),(107,_),(108,.box 67 (bt x_15))]⟩ rfl (ah.seq (ah.ab ?_))
       refine Oc om (aj.aV ⟨[(0,_),(2,_),(3,_),(4,_),(5,_),(8,_),(38,_),(39,_),(47,B x_16)],[(101,_),(102,_),(103,_),(104,_),(107,_),(108,_)]⟩ rfl (ah.ite h12 rfl (fun _ h12=>?_) (fun _ h12=>?_)))
       ·refine ah.seq (ah.ab ?_)
        refine Oc (cy fq rfl rfl rfl) (Oc (lp cZ) (Oc (da (k:=109) (es:=[x_15].map bt) sB rfl rfl (ko fun _=>rfl) rfl (by decide) (by decide) rfl) ?_))
        refine aj.forget 101 0 rfl ?_
        obtain ⟨x_19,e17,h12⟩:=aJ h12
        refine Oc (gE sB (xP e17) (xO e17) rfl rfl rfl rfl (pG e17) rfl) (Oc (eU fq rfl rfl rfl rfl (Nat.le_of_ble_eq_true rfl) rfl) ?_)
        refine aj.aV ⟨[(0,.b (.one (.str s0))),(2,Pt 101 0),(3,Pt 102 0),(4,Pt 103 0),(5,Pt 104 0)],[(101,.ba 60 [.row 107]),(102,.box 33 [.i 0,.i 0]),(103,.box 92 [.str x_17,.i x_18]),(104,.ba 94 [.cD 34 [.ptr 103 0] [],.cD 35 [.ptr 103 0] [],.cD 36 [.ptr 103 0] [],.cD 37 [.ptr 103 0] []]),(107,.row 67 3 (x_19.map bt))]⟩ rfl (ah.exit (Fin.eZ (by decide) (Fin.bw ?_)))
        obtain rfl:=hy13 _ (Option.some.inj h12).symm
        refine Fin.bw (Fin.cJ (Fin.bD ?_))
        exact Fin.join [0,2,3,4,5] [101,102,103,104,107] (x_19,(⟨x_17,x_18⟩:Scan)) (Option.some.inj h8) rfl
       ·refine ah.skip (Fin.bD (Fin.aD ⟨[(0,_),(2,_),(3,_),(4,_),(5,_),(38,_),(39,_)],[(101,_),(102,_),(103,_),(104,_),(107,_)]⟩ rfl (Fin.then (ah.ab ?_))))
        refine Oc (ef rfl rfl) (Oc om ?_)
        refine aj.nil ?_
        exact Fin.jM [0,2,3,4,5,38,39] [101,102,103,104,107] ((⟨x_17,x_18⟩:Scan),IntKind.i64.wrap (x_10 + 1)) (Option.some.inj h12) rfl
      refine Gl h12 (fun hc18 h12=>?_) (fun _ h12=>?_)
      ·refine ah.ab (Oc (pL yR yQ (show x_10 = 1 from of_decide_eq_true hc18) (by decide) rfl rfl rfl) (Oc oa ?_))
       refine aj.aV ⟨[(0,_),(2,_),(3,_),(4,_),(5,_),(7,.b (.cD 35 [.ptr 103 0] [])),(38,_),(39,_)],[(101,_),(102,_),(103,.box 92 (jZ c_9)),(104,_),(107,_)]⟩ rfl (ah.seq (ah.ab ?_))
       refine Oc om ?_
       obtain ⟨o_20,e19,h12⟩:=aJ h12
       refine Gt h12 (fun p_21 hp20 h12=>?hH) (fun z hp20 h12=>?_)
       case hH=>
        subst o_20
        refine aj.wa (own_a:=[(103,_)]) ((qq e19).sw 1 103) Jo rfl rfl rfl ⟨rfl,trivial⟩ (fun hok=>?_)
        refine Fin.bx (Fin.bY (Fin.bx ?_))
        obtain rfl:=hy13 _ (Option.some.inj h12).symm
        refine Fin.bx (Fin.bY (Fin.bY ?_))
        obtain rfl:=Option.some.inj h8
        refine Fin.bx ?_
        obtain rfl:=hy6 _ (Option.some.inj h5).symm
        refine Fin.bx (Fin.bY (Fin.bx (Fin.tz (own_c:=[(101,_),(102,_),(107,_)]) hlink hvals (fy hok) zq rfl rfl ⟨rfl,rfl,rfl,trivial⟩ rfl rfl (qX rfl rfl rfl rfl) ?_)))
        obtain rfl:=Option.some.inj h
        refine Fin.aD ⟨[(2,Pt 101 0),(3,Pt 102 0)],[(101,.ba 60 [.one (.nil)]),(102,.box 33 [.i p_21.At,.i p_21.E])]⟩ rfl (Fin.F7 101 rfl rfl (Fin.oK 101 0 3 rfl rfl (by decide) (Fin.eM [.one (.sl 3 ([].map bt)),.agg [.i p_21.At,.i p_21.E]] (.inl rfl) rfl (.cons (.one fq rfl rfl rfl) (.cons (.agg lf rfl rfl rfl rfl) .nil)) ⟨rfl,rfl⟩)))
       subst o_20
       obtain ⟨x_22,x_23,x_24,x_25⟩:=z
       refine Oc (sH (own_a:=[(103,_)]) ((pq e19).sw 1 103) Jo rfl rfl rfl ⟨rfl,trivial⟩ rfl rfl) (Oc om (Oc (cI rfl rfl) (Oc (cI rfl rfl) ?_)))
       refine aj.aD ⟨[(0,.b (.one (.str s0))),(2,_),(3,_),(4,Pt 103 0),(5,Pt 104 0),(38,.jX [.cD 34 [.ptr 103 0] [],.cD 35 [.ptr 103 0] [],.cD 36 [.ptr 103 0] [],.cD 37 [.ptr 103 0] []]),(39,I x_10),(45,.b (.agg (bt x_22))),(46,B x_23)],[(101,.ba 60 [.row 107]),(102,.box 33 [.i 0,.i 0]),(103,.box 92 [.str x_24,.i x_25]),(104,.ba 94 [.cD 34 [.ptr 103 0] [],.cD 35 [.ptr 103 0] [],.cD 36 [.ptr 103 0] [],.cD 37 [.ptr 103 0] []]),(107,.row 67 3 (outf0_4.map bt))]⟩ rfl (Oc (cz (k:=110) j2 rfl) (Oc (aW cZ rfl rfl rfl rfl (Nat.le_of_ble_eq_true rfl) rfl) (Oc oa ?_)))
       refine aj.aV ⟨[(0,_),(2,_),(3,_),(4,_),(5,_),(8,Pt 110 0),(9,B x_23),(38,_),(39,_)],[(101,_),(102,_),(103,_),(104,_),(107,_),(110,.box 67 (bt x_22))]⟩ rfl (ah.seq (ah.ab ?_))
       refine Oc om (aj.aV ⟨[(0,_),(2,_),(3,_),(4,_),(5,_),(8,_),(38,_),(39,_),(47,B x_23)],[(101,_),(102,_),(103,_),(104,_),(107,_),(110,_)]⟩ rfl (ah.ite h12 rfl (fun _ h12=>?_) (fun _ h12=>?_)))
       ·refine ah.seq (ah.ab ?_)
        refine Oc (cy fq rfl rfl rfl) (Oc (lp cZ) (Oc (da (k:=111) (es:=[x_22].map bt) sB rfl rfl (ko fun _=>rfl) rfl (by decide) (by decide) rfl) ?_))
        refine aj.forget 101 0 rfl ?_
        obtain ⟨x_26,e21,h12⟩:=aJ h12
        refine Oc (gE sB (xP e21) (xO e21) rfl rfl rfl rfl (pG e21) rfl) (Oc (eU fq rfl rfl rfl rfl (Nat.le_of_ble_eq_true rfl) rfl) ?_)
        refine aj.aV ⟨[(0,.b (.one (.str s0))),(2,Pt 101 0),(3,Pt 102 0),(4,Pt 103 0),(5,Pt 104 0)],[(101,.ba 60 [.row 107]),(102,.box 33 [.i 0,.i 0]),(103,.box 92 [.str x_24,.i x_25]),(104,.ba 94 [.cD 34 [.ptr 103 0] [],.cD 35 [.ptr 103 0] [],.cD 36 [.ptr 103 0] [],.cD 37 [.ptr 103 0] []]),(107,.row 67 3 (x_26.map bt))]⟩ rfl (ah.exit (Fin.eZ (by decide) (Fin.bw ?_)))
        obtain rfl:=hy13 _ (Option.some.inj h12).symm
        refine Fin.bw (Fin.cJ (Fin.bD ?_))
        exact Fin.join [0,2,3,4,5] [101,102,103,104,107] (x_26,(⟨x_24,x_25⟩:Scan)) (Option.some.inj h8) rfl
       ·refine ah.skip (Fin.bD (Fin.aD ⟨[(0,_),(2,_),(3,_),(4,_),(5,_),(38,_),(39,_)],[(101,_),(102,_),(103,_),(104,_),(107,_)]⟩ rfl (Fin.then (ah.ab ?_))))
        refine Oc (ef rfl rfl) (Oc om ?_)
        refine aj.nil ?_
        exact Fin.jM [0,2,3,4,5,38,39] [101,102,103,104,107] ((⟨x_24,x_25⟩:Scan),IntKind.i64.wrap (x_10 + 1)) (Option.some.inj h12) rfl
      refine Gl h12 (fun hc22 h12=>?_) (fun _ h12=>?_)
      ·refine ah.ab (Oc (pL yR yQ (show x_10 = 2 from of_decide_eq_true hc22) (by decide) rfl rfl rfl) (Oc oa ?_))
       refine aj.aV ⟨[(0,_),(2,_),(3,_),(4,_),(5,_),(7,.b (.cD 36 [.ptr 103 0] [])),(38,_),(39,_)],[(101,_),(102,_),(103,.box 92 (jZ c_9)),(104,_),(107,_)]⟩ rfl (ah.seq (ah.ab ?_))
       refine Oc om ?_
       obtain ⟨o_27,e23,h12⟩:=aJ h12
       refine Gt h12 (fun p_28 hp24 h12=>?hH) (fun z hp24 h12=>?_)
       case hH=>
        subst o_27
        refine aj.wa (own_a:=[(103,_)]) ((rM e23).sw 1 103) Jn rfl rfl rfl ⟨rfl,trivial⟩ (fun hok=>?_)
        refine Fin.bx (Fin.bY (Fin.bx ?_))
        obtain rfl:=hy13 _ (Option.some.inj h12).symm
        refine Fin.bx (Fin.bY (Fin.bY ?_))
        obtain rfl:=Option.some.inj h8
        refine Fin.bx ?_
        obtain rfl:=hy6 _ (Option.some.inj h5).symm
        refine Fin.bx (Fin.bY (Fin.bx (Fin.tz (own_c:=[(101,_),(102,_),(107,_)]) hlink hvals (fy hok) zq rfl rfl ⟨rfl,rfl,rfl,trivial⟩ rfl rfl (qX rfl rfl rfl rfl) ?_)))
        obtain rfl:=Option.some.inj h
        refine Fin.aD ⟨[(2,Pt 101 0),(3,Pt 102 0)],[(101,.ba 60 [.one (.nil)]),(102,.box 33 [.i p_28.At,.i p_28.E])]⟩ rfl (Fin.F7 101 rfl rfl (Fin.oK 101 0 3 rfl rfl (by decide) (Fin.eM [.one (.sl 3 ([].map bt)),.agg [.i p_28.At,.i p_28.E]] (.inl rfl) rfl (.cons (.one fq rfl rfl rfl) (.cons (.agg lf rfl rfl rfl rfl) .nil)) ⟨rfl,rfl⟩)))
       subst o_27
       obtain ⟨x_29,x_30,x_31,x_32⟩:=z
       refine Oc (sH (own_a:=[(103,_)]) ((qO e23).sw 1 103) Jn rfl rfl rfl ⟨rfl,trivial⟩ rfl rfl) (Oc om (Oc (cI rfl rfl) (Oc (cI rfl rfl) ?_)))
       refine aj.aD ⟨[(0,.b (.one (.str s0))),(2,_),(3,_),(4,Pt 103 0),(5,Pt 104 0),(38,.jX [.cD 34 [.ptr 103 0] [],.cD 35 [.ptr 103 0] [],.cD 36 [.ptr 103 0] [],.cD 37 [.ptr 103 0] []]),(39,I x_10),(45,.b (.agg (bt x_29))),(46,B x_30)],[(101,.ba 60 [.row 107]),(102,.box 33 [.i 0,.i 0]),(103,.box 92 [.str x_31,.i x_32]),(104,.ba 94 [.cD 34 [.ptr 103 0] [],.cD 35 [.ptr 103 0] [],.cD 36 [.ptr 103 0] [],.cD 37 [.ptr 103 0] []]),(107,.row 67 3 (outf0_4.map bt))]⟩ rfl (Oc (cz (k:=112) j2 rfl) (Oc (aW cZ rfl rfl rfl rfl (Nat.le_of_ble_eq_true rfl) rfl) (Oc oa ?_)))
       refine aj.aV ⟨[(0,_),(2,_),(3,_),(4,_),(5,_),(8,Pt 112 0),(9,B x_30),(38,_),(39,_)],[(101,_),(102,_),(103,_),(104,_),(107,_),(112,.box 67 (bt x_29))]⟩ rfl (ah.seq (ah.ab ?_))
       refine Oc om (aj.aV ⟨[(0,_),(2,_),(3,_),(4,_),(5,_),(8,_),(38,_),(39,_),(47,B x_30)],[(101,_),(102,_),(103,_),(104,_),(107,_),(112,_)]⟩ rfl (ah.ite h12 rfl (fun _ h12=>?_) (fun _ h12=>?_)))
       ·refine ah.seq (ah.ab ?_)
        refine Oc (cy fq rfl rfl rfl) (Oc (lp cZ) (Oc (da (k:=113) (es:=[x_29].map bt) sB rfl rfl (ko fun _=>rfl) rfl (by decide) (by decide) rfl) ?_))
        refine aj.forget 101 0 rfl ?_
        obtain ⟨x_33,e25,h12⟩:=aJ h12
        refine Oc (gE sB (xP e25) (xO e25) rfl rfl rfl rfl (pG e25) rfl) (Oc (eU fq rfl rfl rfl rfl (Nat.le_of_ble_eq_true rfl) rfl) ?_)
        refine aj.aV ⟨[(0,.b (.one (.str s0))),(2,Pt 101 0),(3,Pt 102 0),(4,Pt 103 0),(5,Pt 104 0)],[(101,.ba 60 [.row 107]),(102,.box 33 [.i 0,.i 0]),(103,.box 92 [.str x_31,.i x_32]),(104,.ba 94 [.cD 34 [.ptr 103 0] [],.cD 35 [.ptr 103 0] [],.cD 36 [.ptr 103 0] [],.cD 37 [.ptr 103 0] []]),(107,.row 67 3 (x_33.map bt))]⟩ rfl (ah.exit (Fin.eZ (by decide) (Fin.bw ?_)))
        obtain rfl:=hy13 _ (Option.some.inj h12).symm
        refine Fin.bw (Fin.cJ (Fin.bD ?_))
        exact Fin.join [0,2,3,4,5] [101,102,103,104,107] (x_33,(⟨x_31,x_32⟩:Scan)) (Option.some.inj h8) rfl
       ·refine ah.skip (Fin.bD (Fin.aD ⟨[(0,_),(2,_),(3,_),(4,_),(5,_),(38,_),(39,_)],[(101,_),(102,_),(103,_),(104,_),(107,_)]⟩ rfl (Fin.then (ah.ab ?_))))
        refine Oc (ef rfl rfl) (Oc om ?_)
        refine aj.nil ?_
        exact Fin.jM [0,2,3,4,5,38,39] [101,102,103,104,107] ((⟨x_31,x_32⟩:Scan),IntKind.i64.wrap (x_10 + 1)) (Option.some.inj h12) rfl
      refine Gl h12 (fun hc26 h12=>?_) (fun _ h12=>?_)
      ·refine ah.ab (Oc (pL yR yQ (show x_10 = 3 from of_decide_eq_true hc26) (by decide) rfl rfl rfl) (Oc oa ?_))
       refine aj.aV ⟨[(0,_),(2,_),(3,_),(4,_),(5,_),(7,.b (.cD 37 [.ptr 103 0] [])),(38,_),(39,_)],[(101,_),(102,_),(103,.box 92 (jZ c_9)),(104,_),(107,_)]⟩ rfl (ah.seq (ah.ab ?_))
       refine Oc om ?_
       obtain ⟨o_34,e27,h12⟩:=aJ h12
       refine Gt h12 (fun p_35 hp28 h12=>?hH) (fun z hp28 h12=>?_)
       case hH=>
        subst o_34
        refine aj.wa (own_a:=[(103,_)]) ((rN e27).sw 1 103) Jm rfl rfl rfl ⟨rfl,trivial⟩ (fun hok=>?_)
        refine Fin.bx (Fin.bY (Fin.bx ?_))
        obtain rfl:=hy13 _ (Option.some.inj h12).symm
        refine Fin.bx (Fin.bY (Fin.bY ?_))
        obtain rfl:=Option.some.inj h8
        refine Fin.bx ?_
        obtain rfl:=hy6 _ (Option.some.inj h5).symm
        refine Fin.bx (Fin.bY (Fin.bx (Fin.tz (own_c:=[(101,_),(102,_),(107,_)]) hlink hvals (fy hok) zq rfl rfl ⟨rfl,rfl,rfl,trivial⟩ rfl rfl (qX rfl rfl rfl rfl) ?_)))
        obtain rfl:=Option.some.inj h
        refine Fin.aD ⟨[(2,Pt 101 0),(3,Pt 102 0)],[(101,.ba 60 [.one (.nil)]),(102,.box 33 [.i p_35.At,.i p_35.E])]⟩ rfl (Fin.F7 101 rfl rfl (Fin.oK 101 0 3 rfl rfl (by decide) (Fin.eM [.one (.sl 3 ([].map bt)),.agg [.i p_35.At,.i p_35.E]] (.inl rfl) rfl (.cons (.one fq rfl rfl rfl) (.cons (.agg lf rfl rfl rfl rfl) .nil)) ⟨rfl,rfl⟩)))
       subst o_34
       obtain ⟨x_36,x_37,x_38⟩:=z
       refine Oc (sH (own_a:=[(103,_)]) ((qP e27).sw 1 103) Jm rfl rfl rfl ⟨rfl,trivial⟩ rfl rfl) (Oc om (Oc (cI rfl rfl) (Oc (cI rfl rfl) ?_)))
       refine aj.aD ⟨[(0,.b (.one (.str s0))),(2,_),(3,_),(4,Pt 103 0),(5,Pt 104 0),(38,.jX [.cD 34 [.ptr 103 0] [],.cD 35 [.ptr 103 0] [],.cD 36 [.ptr 103 0] [],.cD 37 [.ptr 103 0] []]),(39,I x_10),(45,.b (.agg (bt x_36))),(46,B x_37)],[(101,.ba 60 [.row 107]),(102,.box 33 [.i 0,.i 0]),(103,.box 92 [.str c_9.s,.i x_38]),(104,.ba 94 [.cD 34 [.ptr 103 0] [],.cD 35 [.ptr 103 0] [],.cD 36 [.ptr 103 0] [],.cD 37 [.ptr 103 0] []]),(107,.row 67 3 (outf0_4.map bt))]⟩ rfl (Oc (cz (k:=114) j2 rfl) (Oc (aW cZ rfl rfl rfl rfl (Nat.le_of_ble_eq_true rfl) rfl) (Oc oa ?_)))
       refine aj.aV ⟨[(0,_),(2,_),(3,_),(4,_),(5,_),(8,Pt 114 0),(9,B x_37),(38,_),(39,_)],[(101,_),(102,_),(103,_),(104,_),(107,_),(114,.box 67 (bt x_36))]⟩ rfl (ah.seq (ah.ab ?_))
       refine Oc om (aj.aV ⟨[(0,_),(2,_),(3,_),(4,_),(5,_),(8,_),(38,_),(39,_),(47,B x_37)],[(101,_),(102,_),(103,_),(104,_),(107,_),(114,_)]⟩ rfl (ah.ite h12 rfl (fun _ h12=>?_) (fun _ h12=>?_)))
       ·refine ah.seq (ah.ab ?_)
        refine Oc (cy fq rfl rfl rfl) (Oc (lp cZ) (Oc (da (k:=115) (es:=[x_36].map bt) sB rfl rfl (ko fun _=>rfl) rfl (by decide) (by decide) rfl) ?_))
        refine aj.forget 101 0 rfl ?_
        obtain ⟨x_39,e29,h12⟩:=aJ h12
        refine Oc (gE sB (xP e29) (xO e29) rfl rfl rfl rfl (pG e29) rfl) (Oc (eU fq rfl rfl rfl rfl (Nat.le_of_ble_eq_true rfl) rfl) ?_)
        refine aj.aV ⟨[(0,.b (.one (.str s0))),(2,Pt 101 0),(3,Pt 102 0),(4,Pt 103 0),(5,Pt 104 0)],[(101,.ba 60 [.row 107]),(102,.box 33 [.i 0,.i 0]),(103,.box 92 [.str c_9.s,.i x_38]),(104,.ba 94 [.cD 34 [.ptr 103 0] [],.cD 35 [.ptr 103 0] [],.cD 36 [.ptr 103 0] [],.cD 37 [.ptr 103 0] []]),(107,.row 67 3 (x_39.map bt))]⟩ rfl (ah.exit (Fin.eZ (by decide) (Fin.bw ?_)))
        obtain rfl:=hy13 _ (Option.some.inj h12).symm
        refine Fin.bw (Fin.cJ (Fin.bD ?_))
        exact Fin.join [0,2,3,4,5] [101,102,103,104,107] (x_39,(⟨c_9.s,x_38⟩:Scan)) (Option.some.inj h8) rfl
       ·refine ah.skip (Fin.bD (Fin.aD ⟨[(0,_),(2,_),(3,_),(4,_),(5,_),(38,_),(39,_)],[(101,_),(102,_),(103,_),(104,_),(107,_)]⟩ rfl (Fin.then (ah.ab ?_))))
        refine Oc (ef rfl rfl) (Oc om ?_)
        refine aj.nil ?_
        exact Fin.jM [0,2,3,4,5,38,39] [101,102,103,104,107] ((⟨c_9.s,x_38⟩:Scan),IntKind.i64.wrap (x_10 + 1)) (Option.some.inj h12) rfl
      exact absurd h12 (by simp)
     ·refine ah.exit (Fin.bw ?_)
      obtain rfl:=hy13 _ (Option.some.inj h12).symm
      refine Fin.bw (Fin.cJ (Fin.bD ?_))
      exact Fin.join [0,2,3,4,5] [101,102,103,104,107] (outf0_4,c_9) (Option.some.inj h8) rfl
    ·rintro ⟨outf0_7,c_8⟩ hv
     subst v7
     refine ah.ab (Oc om ?_)
     obtain ⟨⟨x_40,x_41⟩,e30,h5⟩:=aJ h5
     refine Oc (dx (own_a:=[(103,_)]) ((kR e30).sw 1 103) Jl rfl ⟨rfl,trivial⟩ rfl rfl) (aj.nil ?_)
     exact Fin.jM [0,2,3,4,5] [101,102,103,104,107] (outf0_7,(⟨x_40,x_41⟩:Scan)) (Option.some.inj h5) rfl
   ·refine ah.exit (Fin.bw ?_)
    obtain rfl:=hy6 _ (Option.some.inj h5).symm
    refine Fin.bw (Fin.cJ ?_)
    exact Fin.join [2,3] [101,102,107] outf0_4 rfl rfl
  ·rintro outf0_1 hv
   subst v1
   refine ah.seq (ah.aD ⟨[(2,_),(3,_)],[(101,_),(102,_),(107,_)]⟩ rfl (ah.yV mixed [false,false,true,true] [.b (.row 107),.b (.agg [.i 0,.i 0]),B true,B true] [⟨[false,false,false,false],[(2,Pt 101 0),(3,Pt 102 0)],[(101,.ba 60 [.row 107]),(102,.box 33 [.i 0,.i 0]),(107,.row 67 3 (outf0_1.map bt))],[true,true,true,true],[],[3]⟩,⟨[false,false,true,false],[(2,Pt 101 0),(3,Pt 102 0)],[(101,.ba 60 [.row 107]),(102,.box 33 [.i 0,.i 0]),(107,.row 67 3 (outf0_1.map bt))],[true,true,true,true],[0,2],[]⟩,⟨[false,false,true,true],[(2,Pt 101 0),(3,Pt 102 0)],[(101,.ba 60 [.row 107]),(102,.box 33 [.i 0,.i 0]),(107,.row 67 3 (outf0_1.map bt))],[true,true,true,true],[0,1,2,3],[]⟩] rfl (⟨by kernel_rfl,⟨⟨.b (.row 107),fun _=>rfl,fun _=>.p (by exact cy fq rfl rfl rfl)⟩,⟨.b (.agg [.i 0,.i 0]),fun _=>rfl,fun _=>.p (by exact tF lf rfl rfl rfl rfl)⟩,⟨_,[],.b (.one .any),rfl,(fun e=>by simp at e),rfl,rfl,fun _=>.Hr [101,102,107] (by exact .p (by exact eU fq rfl rfl rfl rfl (Nat.le_of_ble_eq_true rfl) rfl)) (by exact rfl)⟩,trivial,trivial⟩,⟨by kernel_rfl,⟨trivial,⟨.b (.agg [.i 0,.i 0]),fun _=>rfl,fun _=>.p (by exact tF lf rfl rfl rfl rfl)⟩,trivial,⟨_,[],.b (.one .any),rfl,(fun e=>by simp at e),rfl,rfl,fun _=>.Hr [101,102,107] (by exact .p (by exact aW lf rfl rfl rfl rfl (Nat.le_of_ble_eq_true rfl) rfl)) (by exact rfl)⟩,trivial⟩,⟨by kernel_rfl,⟨trivial,trivial,trivial,trivial,trivial⟩,trivial⟩⟩⟩) rfl rfl rfl [2,3] [101,102,107] (s':=⟨[(2,_),(3,_)],[(101,_),(102,_),(107,_)]⟩) rfl (ah.ret ?_)))
   obtain rfl:=Option.some.inj h
   refine Fin.doorRet hlink uc (by rw [← hvals.length]; rfl) zq (.inl rfl) (qX rfl rfl rfl rfl) (Fin.aD ⟨[(2,Pt 101 0),(3,Pt 102 0)],[(101,.ba 60 [.row 107]),(102,.box 33 [.i 0,.i 0]),(107,.row 67 3 (outf0_1.map bt))]⟩ rfl (Fin.gL 107 rfl (Fin.F7 101 rfl rfl (Fin.eM [.one (.sl 3 (outf0_1.map bt)),.agg [.i 0,.i 0]] (.inl rfl) rfl (.cons (.one fq rfl rfl rfl) (.cons (.agg lf rfl rfl rfl rfl) .nil)) ⟨rfl,rfl⟩))))
def sR (F:Nat) (a0:bb) (b0:bb):Option bb :=
 (dh F [a0,b0]).bind fun x_1=>if (!x_1) = true then ((cK F).bind fun x_2=>some x_2) else ((gO F a0.W).bind fun x_3=>(gO F b0.W).bind fun x_4=>Option.bind (iter F (wQ fun out_6 x_7=>if (decide (x_7 < x_3)) = true then (Option.bind (Option.bind (iter F (un3 fun out_12 carry_13 x_14=>if (decide (x_14 < x_4)) = true then ((aH a0.W.l x_7).bind fun x_17=>(aH b0.W.l x_14).bind fun x_18=>(aH out_12.l (IntKind.i64.wrap (x_7 + x_14))).bind fun x_19=>bN (IntKind.u64.wrap (carry_13 + (IntKind.u64.wrap ((IntKind.u64.wrap ((IntKind.u64.wrap x_17) * (IntKind.u64.wrap x_18))) + (IntKind.u64.wrap x_19))))) fun x_20=>(aH out_12.l (IntKind.i64.wrap (x_7 + x_14))).bind fun x_21=>bN (IntKind.u64.wrap (carry_13 + (IntKind.u64.wrap ((IntKind.u64.wrap ((IntKind.u64.wrap x_17) * (IntKind.u64.wrap x_18))) + (IntKind.u64.wrap x_19))))) fun x_22=>some (.inl (out_12.set (IntKind.i64.wrap (x_7 + x_14)) (IntKind.u32.wrap x_20),x_22 / 4294967296,IntKind.i64.wrap (x_14 + 1)))) else (some (.inr (out_12,carry_13)))) (out_6,0,0)) (wQ fun out_10 carry_11=>(aH out_10.l (IntKind.i64.wrap (x_7 + x_4))).bind fun x_23=>some (out_10.set (IntKind.i64.wrap (x_7 + x_4)) (IntKind.u32.wrap carry_11)))) (fun out_9=>some (.inl (out_9,IntKind.i64.wrap (x_7 + 1))))) else (some (.inr out_6))) (ug.zero,0)) (fun out_5=>bN (⟨out_5.a16,out_5.a17,out_5.a18,out_5.a19,out_5.a20,out_5.a21,out_5.a22,out_5.a23,out_5.a24,out_5.a25,out_5.a26,out_5.a27,out_5.a28,out_5.a29,out_5.a30,out_5.a31⟩:aX) fun x_24=>if (decide (x_24 ≠ aX.zero)) = true then ((cK F).bind fun x_25=>some x_25) else ((cL F (a0.Neg != b0.Neg) (⟨out_5.a0,out_5.a1,out_5.a2,out_5.a3,out_5.a4,out_5.a5,out_5.a6,out_5.a7,out_5.a8,out_5.a9,out_5.a10,out_5.a11,out_5.a12,out_5.a13,out_5.a14,out_5.a15⟩:aX)).bind fun x_26=>some x_26)))
theorem Az {F:Nat} {a0:bb} {b0:bb} {r:bb} (h:sR F a0 b0 = some r):aG Tryz.prog (aw mx) 185 [] [.agg (cA a0),.agg (cA b0)] (Is [] (.b (.agg (cA r)))):=by
 unfold sR at h
 refine aG.intro 82 Tryz.func185 Tryz.ntmps185 rfl (by simp) fun E=>?_
 show ah _ E ⟨82,[],[],[]⟩ _ ⟨[(0,.b (.agg (cA a0))),(1,.b (.agg (cA b0)))],[]⟩ _
 refine ah.seq (ah.ab ?_)
 refine Oc (wZ (k:=101) rfl rfl) (Oc (wZ (k:=102) rfl rfl) (Oc (cz (k:=103) vL rfl) ?_))
 refine aj.aV ⟨[(2,Pt 101 0),(3,Pt 102 0),(4,Pt 103 0)],[(101,.box 25 (cA a0)),(102,.box 25 (cA b0)),(103,.box 25 sc)]⟩ rfl (ah.seq (ah.seq (ah.ab ?_)))
 refine Oc (lp de) (Oc (lp de) (Oc (da (k:=104) (es:=[a0,b0].map cA) GH rfl rfl (ko fun _=>rfl) rfl (by decide) (by decide) rfl) ?_))
 obtain ⟨x_1,e1,h⟩:=aJ h
 refine Oc (zO (rT e1) G9 rfl CP.BO) (Oc (Cd rfl) ?_)
 refine aj.aV ⟨[(2,_),(3,_),(4,_),(15,B (!x_1))],[(101,_),(102,_),(103,_)]⟩ rfl (ah.ite h rfl (fun _ h=>?_) (fun _ h=>?_))
 ·refine ah.seq (ah.ab ?_)
  obtain ⟨x_2,e2,h⟩:=aJ h
  refine Oc (ct (iN e2) vE rfl rfl) (Oc (aW de rfl rfl rfl rfl (Nat.le_of_ble_eq_true rfl) rfl) ?_)
  refine aj.aV ⟨[(4,_)],[(103,.box 25 (cA x_2))]⟩ rfl (ah.ret (Fin.cr ?_))
  obtain rfl:=Option.some.inj h
  refine Fin.aD ⟨[(4,_)],[(103,_)]⟩ rfl (Fin.eM [.agg (cA x_2)] (.inl rfl) rfl (.cons (.agg de rfl rfl rfl rfl) .nil) ⟨rfl,rfl⟩)
 ·refine ah.skip (Fin.aD ⟨[(2,_),(3,_),(4,_)],[(101,_),(102,_),(103,_)]⟩ rfl (Fin.then (ah.seq (ah.ab ?_))))
  refine Oc (cz (k:=105) HG rfl) (aj.aV ⟨[(2,_),(3,_),(4,_),(5,Pt 105 0)],[(101,_),(102,_),(103,_),(105,.box 237 ((Dl .u32) ug.zero))]⟩ rfl (ah.seq ?_))
  obtain ⟨x_3,e3,h⟩:=aJ h
  obtain ⟨x_4,e4,h⟩:=aJ h
  refine ah.og mixed 8 [Pt 101 2,.b (.agg (eW a0.W)),I x_3,Pt 102 2,.b (.agg (eW b0.W)),I x_4,I x_3,I x_4] [2,3,4,5,6,7] [101,102,103,105] (s':=⟨[(2,_),(3,_),(4,_),(5,_),(6,I x_3),(7,I x_4)],[(101,_),(102,_),(103,_),(105,_)]⟩) rfl ⟨fun _=>.p (ax oz rfl rfl),fun _=>.p (lp gi),fun _=>.p (ct (rS e3) G8 rfl rfl),fun _=>.p (ax oz rfl rfl),fun _=>.p (lp gi),fun _=>.p (ct (rS e4) G8 rfl rfl),fun _=>.p oa,fun _=>.p oa,trivial⟩ rfl rfl ?_
  obtain ⟨v5,h6,h⟩:=aJ h
  refine ah.oE (v:=v5) (fun (out_5:ug)=>⟨[(2,Pt 101 0),(3,Pt 102 0),(4,Pt 103 0),(5,Pt 105 0)],[(101,.box 25 (cA a0)),(102,.box 25 (cA b0)),(103,.box 25 sc),(105,.box 237 ((Dl .u32) out_5))]⟩) (fun z=>z) ?_ ?_
  ·refine ah.seq (ah.ab ?_)
   refine Oc om (Oc om ?_)
   refine aj.aV ⟨[(2,_),(3,_),(4,_),(5,_),(7,_),(23,I x_3),(24,I 0)],[(101,_),(102,_),(103,_),(105,_)]⟩ rfl (ah.block (ah.qw h6 (wQ fun (out_6:ug) (x_7:Int)=>⟨[(2,Pt 101 0),(3,Pt 102 0),(4,Pt 103 0),(5,Pt 105 0),(7,I x_4),(23,I x_3),(24,I x_7)],[(101,.box 25 (cA a0)),(102,.box 25 (cA b0)),(103,.box 25 sc),(105,.box 237 ((Dl .u32) out_6))]⟩) [2,3,4,5,7,23,24] [101,102,103,105] rfl ?_))
   rintro ⟨out_6,x_7⟩ o7 h8 hy9
   refine ah.seq (ah.ab ?_)
   refine Oc (k8 rfl rfl) (aj.aV ⟨[(2,_),(3,_),(4,_),(5,_),(7,_),(23,_),(24,_),(25,B (decide (x_7 < x_3)))],[(101,_),(102,_),(103,_),(105,_)]⟩ rfl (ah.seq (ah.ite h8 rfl (fun _ h8=>?_) (fun _ h8=>?_))))
   ·refine ah.skip (Fin.aD ⟨[(2,_),(3,_),(4,_),(5,_),(7,_),(23,_),(24,_)],[(101,_),(102,_),(103,_),(105,_)]⟩ rfl (Fin.then ?_))
    obtain ⟨v10,h11,h8⟩:=aJ h8
    refine ah.oE (v:=v10) (fun (out_9:ug)=>⟨[(2,Pt 101 0),(3,Pt 102 0),(4,Pt 103 0),(5,Pt 105 0),(7,I x_4),(23,I x_3),(24,I x_7)],[(101,.box 25 (cA a0)),(102,.box 25 (cA b0)),(103,.box 25 sc),(105,.box 237 ((Dl .u32) out_9))]⟩) (fun z=>z) ?_ ?_
    ·refine ah.block (ah.seq (ah.ab ?_))
     refine Oc om (Oc oa ?_)
     refine aj.aV ⟨[(2,_),(3,_),(4,_),(5,_),(7,_),(8,I x_7),(23,_),(24,_)],[(101,_),(102,_),(103,_),(105,_)]⟩ rfl (ah.seq (ah.ab ?_))
     refine Oc oa (aj.aV ⟨[(2,_),(3,_),(4,_),(5,_),(7,_),(8,_),(9,.b (.one (.int .u64 0))),(23,_),(24,_)],[(101,_),(102,_),(103,_),(105,_)]⟩ rfl ?_)
     obtain ⟨v12,h13,h11⟩:=aJ h11
     refine ah.oE (v:=v12) (wQ fun (out_10:ug) (carry_11:Int)=>⟨[(2,Pt 101 0),(3,Pt 102 0),(4,Pt 103 0),(5,Pt 105 0),(7,I x_4),(8,I x_7),(9,.b (.one (.int .u64 carry_11))),(23,I x_3),(24,I x_7)],[(101,.box 25 (cA a0)),(102,.box 25 (cA b0)),(103,.box 25 sc),(105,.box 237 ((Dl .u32) out_10))]⟩) (fun z=>z) ?_ ?_
     ·refine ah.seq (ah.ab ?_)
      refine Oc om (Oc om ?_)
      refine aj.aV ⟨[(2,_),(3,_),(4,_),(5,_),(7,_),(8,_),(9,_),(23,_),(24,_),(27,I x_4),(28,I 0)],[(101,_),(102,_),(103,_),(105,_)]⟩ rfl (ah.block (ah.qw h13 (un3 fun (out_12:ug) (carry_13:Int) (x_14:Int)=>⟨[(2,Pt 101 0),(3,Pt 102 0),(4,Pt 103 0),(5,Pt 105 0),(7,I x_4),(8,I x_7),(9,.b (.one (.int .u64 carry_13))),(23,I x_3),(24,I x_7),(27,I x_4),(28,I x_14)],[(101,.box 25 (cA a0)),(102,.box 25 (cA b0)),(103,.box 25 sc),(105,.box 237 ((Dl .u32) out_12))]⟩) [2,3,4,5,7,8,9,23,24,27,28] [101,102,103,105] rfl ?_))
      rintro ⟨out_12,carry_13,x_14⟩ o14 h15 hy16
      refine ah.seq (ah.ab ?_)
      refine Oc (k8 rfl rfl) (aj.aV ⟨[(2,_),(3,_),(4,_),(5,_),(7,_),(8,_),(9,_),(23,_),(24,_),(27,_),(28,_),(29,B (decide (x_14 < x_4)))],[(101,_),(102,_),(103,_),(105,_)]⟩ rfl (ah.seq (ah.ite h15 rfl (fun _ h15=>?_) (fun _ h15=>?_))))
      ·refine ah.skip (Fin.aD ⟨[(2,_),(3,_),(4,_),(5,_),(7,_),(8,_),(9,_),(23,_),(24,_),(27,_),(28,_)],[(101,_),(102,_),(103,_),(105,_)]⟩ rfl (Fin.then (ah.seq (ah.block (ah.seq (ah.ab ?_))))))
       refine Oc om (Oc oa ?_)
       refine aj.aV ⟨[(2,_),(3,_),(4,_),(5,_),(7,_),(8,_),(9,_),(10,I x_14),(23,_),(24,_),(27,_),(28,_)],[(101,_),(102,_),(103,_),(105,_)]⟩ rfl (ah.seq ?_)
       obtain ⟨x_17,e17,h15⟩:=aJ h15
       obtain ⟨x_18,e18,h15⟩:=aJ h15
       obtain ⟨x_19,e19,h15⟩:=aJ h15
       refine ah.og mixed 20 [.b (.one (.int .u64 carry_13)),I x_7,Pt 101 2,.b (.ptr 101 (2 + (x_7:Int).toNat * 1)),.b (.one (.int .u32 x_17)),.b (.one (.int .u64 (IntKind.u64.wrap x_17))),I x_14,Pt 102 2,.b (.ptr 102 (2 + (x_14:Int).toNat * 1)),.b (.one (.int .u32 x_18)),.b (.one (.int .u64 (IntKind.u64.wrap x_18))),.b (.one (.int .u64 (IntKind.u64.wrap ((IntKind.u64.wrap x_17) * (IntKind.u64.wrap x_18))))),I x_7,I x_14,I (IntKind.i64.wrap (x_7 + x_14)),.b (.ptr 105 (0 + (IntKind.i64.wrap (x_7 + x_14):Int).toNat * 1)),.b (.one (.int .u32 x_19)),.b (.one (.int .u64 (IntKind.u64.wrap x_19))),.b (.one (.int .u64 (IntKind.u64.wrap ((IntKind.u64.wrap ((IntKind.u64.wrap x_17) * (IntKind.u64.wrap x_18))) + (IntKind.u64.wrap x_19))))),.b (.one (.int .u64 (IntKind.u64.wrap (carry_13 + (IntKind.u64.wrap ((IntKind.u64.wrap ((IntKind.u64.wrap x_17) * (IntKind.u64.wrap x_18))) + (IntKind.u64.wrap x_19)))))))] [2,3,4,5,7,8,9,10,23,24,27,28] [101,102,103,105] (s':=⟨[(2,_),(3,_),(4,_),(5,_),(7,_),(8,_),(9,.b (.one (.int .u64 (IntKind.u64.wrap (carry_13 + (IntKind.u64.wrap ((IntKind.u64.wrap ((IntKind.u64.wrap x_17) * (IntKind.u64.wrap x_18))) + (IntKind.u64.wrap x_19)))))))),(10,_),(23,_),(24,_),(27,_),(28,_)],[(101,_),(102,_),(103,_),(105,_)]⟩) rfl ⟨fun _=>.p om,fun _=>.p om,fun _=>.p (ax oz rfl rfl),fun _=>.p (mB yS (fa e17) (mO e17) rfl rfl rfl),fun _=>.p (aI tr rfl rfl (CI (post:=[]) (k:=.u32) [.bool a0.Bad,.bool a0.Neg] e17 rfl rfl rfl)),fun _=>.p (fK wU vA rfl),fun _=>.p om,fun _=>.p (ax oz rfl rfl),fun _=>.p (mB yS (fa e18) (mO e18) rfl rfl rfl),fun _=>.p (aI tr rfl rfl (CI (post:=[]) (k:=.u32) [.bool b0.Bad,.bool b0.Neg] e18 rfl rfl rfl)),fun _=>.p (fK wU vA rfl),fun _=>.p (I9 rfl rfl),fun _=>.p om,fun _=>.p om,fun _=>.p (ef rfl rfl),fun _=>.p (mB sG (fa e19) (mO e19) rfl rfl rfl),fun _=>.p (aI tr rfl rfl (CI (post:=[]) (k:=.u32) [] e19 rfl rfl rfl)),fun _=>.p (fK wU vA rfl),fun _=>.p (ef rfl rfl),fun _=>.p (ef rfl rfl),trivial⟩ ⟨_,by exact .p oa,rfl⟩ rfl (ah.seq (ah.ab ?_))
       refine Oc om (Oc om (Oc (ef rfl rfl) ?_))
       refine aj.Du .u64 h15 rfl om (fun x_20 h15=>?_)
       refine Oc (fK vA wU rfl) ?_
       obtain ⟨x_21,e20,h15⟩:=aJ h15
       refine Oc (mB sG (fa e20) (mO e20) rfl rfl rfl) (Oc (dK tr rfl rfl rfl (JG (post:=[]) (k:=.u32) [] e20 rfl rfl rfl) (Hq (post:=[]) (k:=.u32) [] e20 rfl rfl (ug.IC out_12 (IntKind.i64.wrap (x_7 + x_14)) (IntKind.u32.wrap x_20)) rfl rfl)) ?_)
       refine aj.aV ⟨[(2,_),(3,_),(4,_),(5,_),(7,_),(8,_),(9,_),(23,_),(24,_),(27,_),(28,_)],[(101,_),(102,_),(103,_),(105,.box 237 ((Dl .u32) (out_12.set (IntKind.i64.wrap (x_7 + x_14)) (IntKind.u32.wrap x_20))))]⟩ rfl (ah.ab (aj.Du .u64 h15 rfl om (fun x_22 h15=>?_)))
       refine Oc (op_shr2 (m:=32) (by decide) rfl rfl rfl) (Oc oa ?_)
       refine aj.nil (Fin.bD (Fin.aD ⟨[(2,_),(3,_),(4,_),(5,_),(7,_),(8,_),(9,.b (.one (.int .u64 (x_22 / 4294967296)))),(23,_),(24,_),(27,_),(28,_)],[(101,_),(102,_),(103,_),(105,_)]⟩ rfl (Fin.then (ah.ab ?_))))
       refine Oc (ef rfl rfl) (Oc om ?_)
       refine aj.nil ?_
       exact Fin.jM [2,3,4,5,7,8,9,23,24,27,28] [101,102,103,105] (out_12.set (IntKind.i64.wrap (x_7 + x_14)) (IntKind.u32.wrap x_20),x_22 / 4294967296,IntKind.i64.wrap (x_14 + 1)) (Option.some.inj h15) rfl
      ·refine ah.exit (Fin.bw ?_)
       obtain rfl:=hy16 _ (Option.some.inj h15).symm
       refine Fin.bw (Fin.cJ ?_)
       exact Fin.join [2,3,4,5,7,8,9,23,24] [101,102,103,105] (out_12,carry_13) rfl rfl
     ·rintro ⟨out_10,carry_11⟩ hv
      subst v12
      refine ah.ab (Oc om (Oc om (Oc (ef rfl rfl) (Oc om (Oc (fK vA wU rfl) ?_)))))
      obtain ⟨x_23,e21,h11⟩:=aJ h11
      refine Oc (mB sG (fa e21) (mO e21) rfl rfl rfl) (Oc (dK tr rfl rfl rfl (JG (post:=[]) (k:=.u32) [] e21 rfl rfl rfl) (Hq (post:=[]) (k:=.u32) [] e21 rfl rfl (ug.IC out_10 (IntKind.i64.wrap (x_7 + x_4)) (IntKind.u32.wrap carry_11)) rfl rfl)) ?_)
      refine aj.nil (Fin.bD ?_)
      exact Fin.join [2,3,4,5,7,23,24] [101,102,103,105] (out_10.set (IntKind.i64.wrap (x_7 + x_4)) (IntKind.u32.wrap carry_11)) (Option.some.inj h11) rfl
    ·rintro out_9 hv
     subst v10
     refine ah.ab (Oc (ef rfl rfl) (Oc om ?_))
     refine aj.nil ?_
     exact Fin.jM [2,3,4,5,7,23,24] [101,102,103,105] (out_9,IntKind.i64.wrap (x_7 + 1)) (Option.some.inj h8) rfl
   ·refine ah.exit (Fin.bw ?_)
    obtain rfl:=hy9 _ (Option.some.inj h8).symm
    refine Fin.bw (Fin.cJ ?_)
    exact Fin.join [2,3,4,5] [101,102,103,105] out_6 rfl rfl
  ·rintro out_5 hv
   subst v5
   refine ah.seq (ah.seq (ah.ab ?_))
   refine Oc (Es (i:=16) sG (by decide) (by decide) rfl rfl) (Oc (DQ yS (by decide) rfl) ?_)
   refine aj.consA eW h rfl (lp gi) (fun x_24 h=>?_)
   refine Oc (BF Bz rfl rfl) (Oc (Ak (y6 x_24 aX.zero) rfl rfl neg_dec) ?_)
   refine aj.aV ⟨[(2,_),(3,_),(4,_),(5,_),(71,B (decide (x_24 ≠ aX.zero)))],[(101,_),(102,_),(103,_),(105,_)]⟩ rfl (ah.ite h rfl (fun _ h=>?_) (fun _ h=>?_))
   ·refine ah.seq (ah.ab ?_)
    obtain ⟨x_25,e22,h⟩:=aJ h
    refine Oc (ct (iN e22) vE rfl rfl) (Oc (aW de rfl rfl rfl rfl (Nat.le_of_ble_eq_true rfl) rfl) ?_)
    refine aj.aV ⟨[(4,_)],[(103,.box 25 (cA x_25))]⟩ rfl (ah.ret (Fin.cr ?_))
    obtain rfl:=Option.some.inj h
    refine Fin.aD ⟨[(4,_)],[(103,_)]⟩ rfl (Fin.eM [.agg (cA x_25)] (.inl rfl) rfl (.cons (.agg de rfl rfl rfl rfl) .nil) ⟨rfl,rfl⟩)
   ·refine ah.skip (Fin.aD ⟨[(2,_),(3,_),(4,_),(5,_)],[(101,_),(102,_),(103,_),(105,_)]⟩ rfl (Fin.then (ah.seq ?_)))
    refine ah.aD ⟨[(2,_),(3,_),(4,_),(5,_)],[(101,_),(102,_),(103,_),(105,_)]⟩ rfl ?_
    obtain ⟨x_26,e23,h⟩:=aJ h
    refine ah.og mixed 9 [Pt 101 1,B a0.Neg,Pt 102 1,B b0.Neg,B (a0.Neg != b0.Neg),.b (.C' 105 0 16 32),Pt 105 0,.b (.agg [.int .u32 out_5.a0,.int .u32 out_5.a1,.int .u32 out_5.a2,.int .u32 out_5.a3,.int .u32 out_5.a4,.int .u32 out_5.a5,.int .u32 out_5.a6,.int .u32 out_5.a7,.int .u32 out_5.a8,.int .u32 out_5.a9,.int .u32 out_5.a10,.int .u32 out_5.a11,.int .u32 out_5.a12,.int .u32 out_5.a13,.int .u32 out_5.a14,.int .u32 out_5.a15]),.b (.agg (cA x_26))] [4] [103] (s':=⟨[(4,_)],[(103,.box 25 (cA x_26))]⟩) rfl ⟨fun _=>.p (ax xd rfl rfl),fun _=>.p (aI Ca rfl rfl rfl),fun _=>.p (ax xd rfl rfl),fun _=>.p (aI Ca rfl rfl rfl),fun _=>.p (yb und4 rfl rfl),fun _=>.p (Et (i:=16) sG (by decide) (by decide) rfl rfl),fun _=>.p (DQ yS (by decide) rfl),fun _=>.p (lp gi),fun _=>.p (ct (pR e23) G' rfl rfl),trivial⟩ ⟨_,by exact .p (aW de rfl rfl rfl rfl (Nat.le_of_ble_eq_true rfl) rfl),rfl⟩ rfl (ah.ret ?_)
    obtain rfl:=Option.some.inj h
    refine Fin.aD ⟨[(4,_)],[(103,_)]⟩ rfl (Fin.eM [.agg (cA x_26)] (.inl rfl) rfl (.cons (.agg de rfl rfl rfl rfl) .nil) ⟨rfl,rfl⟩)
def mF (F:Nat) (s0:List Str):Option (List Str) :=
 bN (IntKind.i64.wrap ((s0.length:Int) - 1)) fun x_1=>Option.bind (iter F (un3 fun s_2 i_3 j_4=>if (decide (i_3 < j_4)) = true then ((aH s_2 j_4).bind fun x_6=>(aH s_2 i_3).bind fun x_7=>(aH s_2 i_3).bind fun x_8=>(aH (s_2.set (i_3:Int).toNat x_6) j_4).bind fun x_9=>some (.inl ((s_2.set (i_3:Int).toNat x_6).set (j_4:Int).toNat x_7,IntKind.i64.wrap (i_3 + 1),IntKind.i64.wrap (j_4 - 1)))) else (some (.inr s_2))) (s0,0,x_1)) (fun y_5=>some y_5)
theorem tO {F:Nat} {s0:List Str} {r:(List Str)} (h:mF F s0 = some r):aG Tryz.prog (aw mx) 189 [(1,.oe 9 1 (s0.map eS))] [.row 1] (Is [(1,.oe 9 1 (r.map eS))] (.kU [])):=by
 unfold mF at h
 refine aG.intro 28 Tryz.func189 Tryz.ntmps189 rfl (by simp) fun E=>?_
 show ah _ E ⟨28,[1],[1],[]⟩ _ ⟨[(0,.b (.row 1))],[(1,.oe 9 1 (s0.map eS))]⟩ _
 refine ah.unF 1 rfl (ah.seq (ah.ab ?_))
 refine Oc om (Oc (xj IZ rfl rfl (List.length_map _)) ?_)
 refine aj.Du .i64 h rfl (wW rfl rfl) (fun x_1 h=>?_)
 refine Oc oa (Oc oa ?_)
 refine aj.aV ⟨[(0,.b (.row 1)),(2,I 0),(3,I x_1)],[(1,.row 9 1 (s0.map eS))]⟩ rfl (ah.block ?_)
 obtain ⟨v1,h2,h⟩:=aJ h
 refine ah.qw h2 (un3 fun (s_2:List Str) (i_3:Int) (j_4:Int)=>⟨[(0,.b (.row 1)),(2,I i_3),(3,I j_4)],[(1,.row 9 1 (s_2.map eS))]⟩) [0,2,3] [1] rfl ?_
 rintro ⟨s_2,i_3,j_4⟩ o3 h4 hy5
 refine ah.seq (ah.seq (ah.ab ?_))
 refine Oc om (Oc om (Oc (k8 rfl rfl) ?_))
 refine aj.aV ⟨[(0,_),(2,_),(3,_),(9,B (decide (i_3 < j_4)))],[(1,_)]⟩ rfl (ah.ite h4 rfl (fun _ h4=>?_) (fun _ h4=>?_))
 ·refine ah.skip (Fin.aD ⟨[(0,_),(2,_),(3,_)],[(1,_)]⟩ rfl (Fin.then (ah.seq (ah.block ?_))))
  refine ah.aD ⟨[(0,_),(2,_),(3,_)],[(1,_)]⟩ rfl ?_
  obtain ⟨x_6,e6,h4⟩:=aJ h4
  obtain ⟨x_7,e7,h4⟩:=aJ h4
  obtain ⟨x_8,e8,h4⟩:=aJ h4
  obtain ⟨x_9,e9,h4⟩:=aJ h4
  refine ah.vO mixed [false,false,false,false,false,false,false,false,false,false,false,false,false,true,false,true] [.b (.row 1),I i_3,.b (.row 1),I j_4,.b (.row 1),I j_4,.b (.gh 1 ((j_4:Int).toNat * 1)),.b (.one (.str x_6)),.b (.row 1),I i_3,.b (.gh 1 ((i_3:Int).toNat * 1)),.b (.one (.str x_7)),.b (.gh 1 ((i_3:Int).toNat * 1)),B true,.b (.gh 1 ((j_4:Int).toNat * 1)),B true] [⟨[false,false,false,false,false,false,false,false,false,false,false,false,false,false,false,false],[(0,.b (.row 1)),(2,I i_3),(3,I j_4)],[(1,.row 9 1 (s_2.map eS))],[true,true,true,true,true,true,true,true,true,true,true,true,true,true,true,true],[],[14,15]⟩,⟨[false,false,false,false,false,false,false,false,false,false,false,false,false,true,false,false],[(0,.b (.row 1)),(2,I i_3),(3,I j_4)],[(1,.row 9 1 ((s_2.set (i_3:Int).toNat x_6).map eS))],[true,true,true,true,true,true,true,true,true,true,true,true,true,true,true,true],[0,1,4,5,6,7,8,9,10,11,12,13],[]⟩,⟨[false,false,false,false,false,false,false,false,false,false,false,false,false,true,false,true],[(0,.b (.row 1)),(2,I i_3),(3,I j_4)],[(1,.row 9 1 (((s_2.set (i_3:Int).toNat x_6).set (j_4:Int).toNat x_7).map eS))],[true,true,true,true,true,true,true,true,true,true,true,true,true,true,true,true],[0,1,2,3,4,5,6,7,8,9,10,11,12,13,14,15],[]⟩] rfl (⟨by kernel_rfl,⟨⟨.b (.row 1),fun _=>rfl,fun _=>.p (by exact cE rfl)⟩,⟨I i_3,fun _=>rfl,fun _=>.p (by exact cE rfl)⟩,⟨.b (.row 1),fun _=>rfl,fun _=>.p (by exact cE rfl)⟩,⟨I j_4,fun _=>rfl,fun _=>.p (by exact cE rfl)⟩,⟨.b (.row 1),fun _=>rfl,fun _=>.p (by exact cE rfl)⟩,⟨I j_4,fun _=>rfl,fun _=>.p (by exact cE rfl)⟩,⟨.b (.gh 1 ((j_4:Int).toNat * 1)),fun _=>rfl,fun _=>.p (by exact oR ld (fa e6) (Ce e6) rfl rfl rfl rfl)⟩,⟨.b (.one (.str x_6)),fun _=>rfl,fun _=>.p (by exact u3 (i:=(j_4:Int).toNat) (f:=0) gn rfl rfl rfl (qW (e:=eS) e6) rfl)⟩,⟨.b (.row 1),fun _=>rfl,fun _=>.p (by exact cE rfl)⟩,⟨I i_3,fun _=>rfl,fun _=>.p (by exact cE rfl)⟩,⟨.b (.gh 1 ((i_3:Int).toNat * 1)),fun _=>rfl,fun _=>.p (by exact oR ld (fa e7) (Ce e7) rfl rfl rfl rfl)⟩,⟨.b (.one (.str x_7)),fun _=>rfl,fun _=>.p (by exact u3 (i:=(i_3:Int).toNat) (f:=0) gn rfl rfl rfl (qW (e:=eS) e7) rfl)⟩,⟨.b (.gh 1 ((i_3:Int).toNat * 1)),fun _=>rfl,fun _=>.p (by exact oR ld (fa e8) (Ce e8) rfl rfl rfl rfl)⟩,⟨_,[],.b (.one .any),rfl,(fun e=>by simp at e),rfl,rfl,fun _=>.Hr [1] (by exact .p (by exact ya (i:=(i_3:Int).toNat) gn rfl rfl rfl rfl (ix_lt e8) (map_set _ _ _ _))) (by exact rfl)⟩,trivial,trivial,trivial⟩,⟨by kernel_rfl,⟨trivial,trivial,⟨.b (.row 1),fun _=>rfl,fun _=>.p (by exact cE rfl)⟩,⟨I j_4,fun _=>rfl,fun _=>.p (by exact cE rfl)⟩,trivial,trivial,trivial,trivial,trivial,trivial,trivial,trivial,trivial,trivial,⟨.b (.gh 1 ((j_4:Int).toNat * 1)),fun _=>rfl,fun _=>.p (by exact oR ld (fa e9) (Ce e9) rfl rfl rfl rfl)⟩,⟨_,[],.b (.one .any),rfl,(fun e=>by simp at e),rfl,rfl,fun _=>.Hr [1] (by exact .p (by exact ya (i:=(j_4:Int).toNat) gn rfl rfl rfl rfl (ix_lt e9) (map_set _ _ _ _))) (by exact rfl)⟩,trivial⟩,⟨by kernel_rfl,⟨trivial,trivial,trivial,trivial,trivial,trivial,trivial,trivial,trivial,trivial,trivial,trivial,trivial,trivial,trivial,trivial,trivial⟩,trivial⟩⟩⟩) rfl rfl rfl [0,2,3] [1] (s':=⟨[(0,_),(2,_),(3,_)],[(1,.row 9 1 (((s_2.set (i_3:Int).toNat x_6).set (j_4:Int).toNat x_7).map eS))]⟩) rfl ?_
  refine Fin.bD (Fin.aD ⟨[(0,_),(2,_),(3,_)],[(1,_)]⟩ rfl (Fin.then (ah.ab ?_)))
  refine Oc om (Oc (ef rfl rfl) (Oc om (Oc (wW rfl rfl) (Oc oa (Oc oa ?_)))))
  refine aj.nil ?_
  exact Fin.jM [0,2,3] [1] ((s_2.set (i_3:Int).toNat x_6).set (j_4:Int).toNat x_7,IntKind.i64.wrap (i_3 + 1),IntKind.i64.wrap (j_4 - 1)) (Option.some.inj h4) rfl
 ·refine ah.exit (Fin.bw ?_)
  obtain rfl:=hy5 _ (Option.some.inj h4).symm
  refine Fin.bw (Fin.cJ ?_)
  obtain rfl:=Option.some.inj h
  refine Fin.aD ⟨[],[(1,_)]⟩ rfl (Fin.toF 1 rfl (Fin.aD ⟨[],[(1,.oe 9 1 (s_2.map eS))]⟩ rfl ?_))
  exact Fin.result [] (.inr rfl) rfl (.nil) ⟨rfl,rfl⟩
def ot (F:Nat) (x0:bb):Option Str :=
 (dh F [x0]).bind fun x_1=>if (!x_1) = true then (some []) else (Option.bind (iter F (wQ fun parts_3 w_4=>Option.bind (qg F w_4 1000000000) (wQ fun x_6 x_7=>(oW F (IntKind.i64.wrap x_7)).bind fun x_8=>if (decide (x_6 = aX.zero)) = true then ((bV parts_3 [x_8]).bind fun x_9=>some (.inr x_9)) else (bN (IntKind.i64.wrap (9 - (x_8.length:Int))) fun x_10=>(eY F [48] x_10).bind fun x_11=>(bV x_11 x_8).bind fun x_12=>(bV parts_3 [x_12]).bind fun x_13=>some (.inl (x_13,x_6))))) ([],x0.W)) (fun parts_2=>Option.bind (if x0.Neg = true then ((bV parts_2 [[45]]).bind fun x_15=>some x_15) else (some parts_2)) (fun parts_14=>(mF F parts_14).bind fun x_16=>(oV F x_16 []).bind fun x_17=>some x_17)))
theorem yC {F:Nat} {x0:bb} {r:Str} (h:ot F x0 = some r):aG Tryz.prog (aw mx) 161 [] [.agg (cA x0)] (Is [] (.b (.one (.str r)))):=by
 unfold ot at h
 refine aG.intro 49 Tryz.func161 Tryz.ntmps161 rfl (by simp) fun E=>?_
 show ah _ E ⟨49,[],[],[]⟩ _ ⟨[(0,.b (.agg (cA x0)))],[]⟩ _
 refine ah.seq (ah.ab ?_)
 refine Oc (wZ (k:=101) rfl rfl) (Oc oa ?_)
 refine aj.aV ⟨[(1,Pt 101 0)],[(101,.box 25 (cA x0))]⟩ rfl (ah.seq (ah.seq (ah.ab ?_)))
 refine Oc (lp de) (Oc (da (k:=102) (es:=[x0].map cA) GH rfl rfl (ko fun _=>rfl) rfl (by decide) (by decide) rfl) ?_)
 obtain ⟨x_1,e1,h⟩:=aJ h
 refine Oc (zO (rT e1) G9 rfl CP.BO) (Oc (Cd rfl) ?_)
 refine aj.aV ⟨[(1,_),(11,B (!x_1))],[(101,_)]⟩ rfl (ah.ite h rfl (fun _ h=>?_) (fun _ h=>?_))
 ·refine ah.seq (ah.ab ?_)
  refine Oc oa (aj.aV ⟨[(2,.b (.one (.str [])))],[]⟩ rfl (ah.ret (Fin.cr ?_)))
  obtain rfl:=Option.some.inj h
  refine Fin.aD ⟨[(2,_)],[]⟩ rfl (Fin.eM [.one (.str [])] (.inl rfl) rfl (.cons (.tmp rfl) .nil) ⟨rfl,rfl⟩)
 ·refine ah.skip (Fin.aD ⟨[(1,_)],[(101,_)]⟩ rfl (Fin.then (ah.seq (ah.ab ?_))))
  refine Oc oa (aj.aV ⟨[(1,_),(3,.b (.one (.nil)))],[(101,_)]⟩ rfl ?_)
  obtain ⟨v2,h3,h⟩:=aJ h
  refine ah.oE (v:=v2) (fun (parts_2:List Str)=>⟨[(1,Pt 101 0),(3,.b (.row 108))],[(101,.box 25 (cA x0)),(108,.row 9 1 (parts_2.map eS))]⟩) (fun z=>z) ?_ ?_
  ·refine ah.seq (ah.ab ?_)
   refine Oc (ax oz rfl rfl) (Oc (lp gi) (Oc (cz (k:=103) zH rfl) (Oc (aW gi rfl rfl rfl rfl (Nat.le_of_ble_eq_true rfl) rfl) ?_)))
   refine aj.aV ⟨[(1,_),(3,_),(4,Pt 103 0)],[(101,_),(103,.box 23 (eW x0.W))]⟩ rfl (ah.block (ah.jL 3 108 1 9 rfl (by decide) rfl (ah.qw h3 (wQ fun (parts_3:List Str) (w_4:aX)=>⟨[(1,Pt 101 0),(3,.b (.row 108)),(4,Pt 103 0)],[(101,.box 25 (cA x0)),(103,.box 23 (eW w_4)),(108,.row 9 1 (parts_3.map eS))]⟩) [1,3,4] [101,103,108] rfl ?_)))
   rintro ⟨parts_3,w_4⟩ o4 h5 hy6
   refine ah.seq (ah.block (ah.seq (ah.ab ?_)))
   refine Oc (lp gi) ?_
   obtain ⟨⟨x_6,x_7⟩,e7,h5⟩:=aJ h5
   refine Oc (ct (xE e7) goes188 rfl rfl) (Oc om (Oc (cI rfl rfl) (Oc (cI rfl rfl) ?_)))
   refine aj.aD ⟨[(1,_),(3,_),(4,_),(17,.b (.agg (eW x_6))),(18,.b (.one (.int .u32 x_7)))],[(101,_),(103,_),(108,_)]⟩ rfl (Oc (cz (k:=109) zH rfl) (Oc (aW gi rfl rfl rfl rfl (Nat.le_of_ble_eq_true rfl) rfl) (Oc oa ?_)))
   refine aj.aV ⟨[(1,_),(3,_),(4,_),(5,Pt 109 0),(6,.b (.one (.int .u32 x_7)))],[(101,_),(103,_),(108,_),(109,.box 23 (eW x_6))]⟩ rfl (ah.seq (ah.ab ?_))
   refine Oc om (Oc (fK wU undi3 rfl) ?_)
   obtain ⟨x_8,e8,h5⟩:=aJ h5
   refine Oc (ct (wK e8) goes166 rfl rfl) (Oc oa ?_)
   refine aj.aV ⟨[(1,_),(3,_),(4,_),(5,_),(7,.b (.one (.str x_8)))],[(101,_),(103,_),(108,_),(109,_)]⟩ rfl (ah.seq (ah.seq (ah.ab ?_)))
   refine Oc (lp gi) (Oc (BF Bz rfl rfl) (Oc (Al (y6 x_6 aX.zero) rfl rfl) ?_))
   refine aj.aV ⟨[(1,_),(3,_),(4,_),(5,_),(7,_),(24,B (decide (x_6 = aX.zero)))],[(101,_),(103,_),(108,_),(109,_)]⟩ rfl (ah.ite h5 rfl (fun _ h5=>?_) (fun _ h5=>?_))
   ·refine ah.seq (ah.ab ?_)
    refine Oc om (Oc om (Oc (da (k:=110) (es:=[x_8].map eS) ld rfl rfl (ko fun _=>rfl) rfl (by decide) (by decide) rfl) ?_))
    obtain ⟨x_9,e9,h5⟩:=aJ h5
    refine Oc (gE ld (xP e9) (xO e9) rfl rfl rfl rfl (pG e9) rfl) (Oc oa ?_)
    refine aj.aV ⟨[(1,_),(3,_)],[(101,_),(108,.row 9 1 (x_9.map eS))]⟩ rfl (ah.exit (Fin.bw (Fin.eZ (by decide) (Fin.bw ?_))))
    obtain rfl:=hy6 _ (Option.some.inj h5).symm
    refine Fin.bw (Fin.cJ ?_)
    exact Fin.join [1,3] [101,108] x_9 rfl rfl
   ·refine ah.skip (Fin.aD ⟨[(1,_),(3,_),(4,_),(5,_),(7,_)],[(101,_),(103,_),(108,_),(109,_)]⟩ rfl (Fin.then (ah.seq (ah.ab ?_))))
    refine Oc om (Oc om (Oc (fY oD rfl) ?_))
    refine aj.Du .i64 h5 rfl (wW rfl rfl) (fun x_10 h5=>?_)
    refine aj.aD ⟨[(1,_),(3,_),(4,_),(5,_),(7,_),(29,.b (.row 108)),(32,I x_10)],[(101,_),(103,_),(108,_),(109,_)]⟩ rfl ?_
    obtain ⟨x_11,e10,h5⟩:=aJ h5
    refine Oc (ct (tN e10) goes53 rfl rfl) (Oc om ?_)
    obtain ⟨x_12,e11,h5⟩:=aJ h5
    refine Oc (yd e11 rfl rfl) (Oc (da (k:=111) (es:=[x_12].map eS) ld rfl rfl (ko fun _=>rfl) rfl (by decide) (by decide) rfl) ?_)
    obtain ⟨x_13,e12,h5⟩:=aJ h5
    refine Oc (gE ld (xP e12) (xO e12) rfl rfl rfl rfl (pG e12) rfl) (Oc oa ?_)
    refine aj.aV ⟨[(1,_),(3,_),(4,_),(5,_)],[(101,_),(103,_),(108,.row 9 1 (x_13.map eS)),(109,_)]⟩ rfl (ah.ab (Oc (lp gi) (Oc (aW gi rfl rfl rfl rfl (Nat.le_of_ble_eq_true rfl) rfl) ?_)))
    refine aj.nil (Fin.bD (Fin.aD ⟨[(1,_),(3,_),(4,_)],[(101,_),(103,.box 23 (eW x_6)),(108,_)]⟩ rfl (Fin.then (ah.seq (ah.ab ?_)))))
    refine Oc (lp gi) (aj.aV ⟨[(1,_),(3,_),(39,.b (.agg (eW x_6)))],[(101,_),(108,_)]⟩ rfl (ah.ab (Oc (cz (k:=112) zH rfl) (Oc (aW gi rfl rfl rfl rfl (Nat.le_of_ble_eq_true rfl) rfl) ?_))))
    refine aj.nil (Fin.aD ⟨[(1,Pt 101 0),(3,.b (.row 108)),(4,Pt 112 0)],[(101,.box 25 (cA x0)),(108,.row 9 1 (x_13.map eS)),(112,.box 23 (eW x_6))]⟩ rfl (Fin.rename 112 103 rfl (by decide) rfl ?_))
    exact Fin.jM [1,3,4] [101,103,108] (x_13,x_6) (Option.some.inj h5) rfl
  ·rintro parts_2 hv
   subst v2
   obtain ⟨v13,h14,h⟩:=aJ h
   refine ah.oE (v:=v13) (fun (parts_14:List Str)=>⟨[(3,.b (.row 108))],[(108,.row 9 1 (parts_14.map eS))]⟩) (fun z=>z) ?_ ?_
   ·refine ah.seq (ah.ab ?_)
    refine Oc (ax xd rfl rfl) (Oc (aI Ca rfl rfl rfl) ?_)
    refine aj.aV ⟨[(3,_),(41,B x0.Neg)],[(108,_)]⟩ rfl (ah.ite h14 rfl (fun _ h14=>?_) (fun _ h14=>?_))
    ·refine ah.ab (Oc om (Oc (da (k:=113) (es:=[[45]].map eS) ld rfl rfl (ko fun _=>rfl) rfl (by decide) (by decide) rfl) ?_))
     obtain ⟨x_15,e15,h14⟩:=aJ h14
     refine Oc (gE ld (xP e15) (xO e15) rfl rfl rfl rfl (pG e15) rfl) (Oc oa ?_)
     refine aj.nil ?_
     exact Fin.join [3] [108] x_15 (Option.some.inj h14) rfl
    ·refine ah.skip ?_
     exact Fin.join [3] [108] parts_2 (Option.some.inj h14) rfl
   ·rintro parts_14 hv
    subst v13
    refine ah.seq (ah.ab ?_)
    refine Oc om (aj.toF 108 rfl ?_)
    obtain ⟨x_16,e16,h⟩:=aJ h
    refine Oc (dx (own_a:=[(108,_)]) ((tO e16).sw 1 108) goes189 rfl ⟨rfl,trivial⟩ rfl rfl) (aj.unF 108 rfl (aj.aV ⟨[(3,_)],[(108,.row 9 1 (x_16.map eS))]⟩ rfl (ah.seq (ah.ab ?_))))
    refine Oc om ?_
    obtain ⟨x_17,e17,h⟩:=aJ h
    refine Oc (zO (wJ e17) goes190 rfl CP.Kx) (Oc oa ?_)
    refine aj.aV ⟨[(2,.b (.one (.str x_17)))],[]⟩ rfl (ah.ret ?_)
    obtain rfl:=Option.some.inj h
    refine Fin.aD ⟨[(2,_)],[]⟩ rfl (Fin.eM [.one (.str x_17)] (.inl rfl) rfl (.cons (.tmp rfl) .nil) ⟨rfl,rfl⟩)
def j5 (F:Nat) (s0:Str):Option (bb × Int) :=
 Option.bind ((bo (decide (0 < (s0.length:Int))) (aH s0 0)).bind fun x_2=>bN ((decide (0 < (s0.length:Int))) && (decide ((x_2.toNat:Int) = 45))) fun x_3=>if x_3 = true then ((rR s0 1).bind fun x_4=>some x_4) else (some s0)) (fun digits_1=>(bo (!(decide (digits_1 = []))) (aH digits_1 0)).bind fun x_5=>bN ((decide (digits_1 = [])) || ((decide ((x_5.toNat:Int) = 48)) && (decide (s0 ≠ [48])))) fun x_6=>if x_6 = true then ((cK F).bind fun x_7=>some (x_7,281)) else (Option.bind (iter F (fun x_8=>if (decide (x_8 < ((ofStr digits_1).length:Int))) = true then ((aH (ofStr digits_1) x_8).bind fun x_9=>if ((decide (x_9 < 48)) || (decide (57 < x_9))) = true then ((cK F).bind fun x_10=>some (.inr (.inr (x_10,281)))) else (some (.inl (IntKind.i64.wrap (x_8 + 1))))) else (some (.inr (.inl ())))) 0) (ee (fun _=>if (decide (512 < (digits_1.length:Int))) = true then ((cK F).bind fun x_11=>some (x_11,30)) else ((fX F 0).bind fun x_12=>(fX F 10).bind fun x_13=>Option.bind (iter F (wQ fun x_15 x_16=>if (decide (x_16 < ((ofStr digits_1).length:Int))) = true then ((aH (ofStr digits_1) x_16).bind fun x_18=>(sR F x_15 x_13).bind fun x_19=>bN (IntKind.i64.wrap (IntKind.u8.wrap (x_18 - 48))) fun x_20=>(fX F x_20).bind fun x_21=>(sT F x_19 x_21).bind fun x_22=>some (.inl (x_22,IntKind.i64.wrap (x_16 + 1)))) else (some (.inr x_15))) (x_12,0)) (fun x_14=>if x_14.Bad = true then (some (x_14,30)) else ((cL F (decide (digits_1 ≠ s0)) x_14.W).bind fun x_23=>some (x_23,0))))) (fun y=>some y))))
theorem xF {F:Nat} {s0:Str} {r:bb × Int} (h:j5 F s0 = some r):aG Tryz.prog (aw mx) 208 [] [.one (.str s0)] (Is [] (.kU [.agg (cA r.1),.one (.i r.2)])):=by
 unfold j5 at h
 refine aG.intro 80 Tryz.func208 Tryz.ntmps208 rfl (by simp) fun E=>?_
 show ah _ E ⟨80,[],[],[]⟩ _ ⟨[(0,.b (.one (.str s0)))],[]⟩ _
 refine ah.seq (ah.ab ?_)
 refine Oc (cz (k:=101) vL rfl) (Oc oa ?_)
 refine aj.aV ⟨[(0,.b (.one (.str s0))),(2,Pt 101 0)],[(101,.box 25 sc)]⟩ rfl (ah.seq (ah.ab ?_))
 refine Oc om (Oc oa ?_)
 refine aj.aV ⟨[(0,_),(2,_),(4,.b (.one (.str s0)))],[(101,_)]⟩ rfl ?_
 obtain ⟨v1,h2,h⟩:=aJ h
 refine ah.oE (v:=v1) (fun (digits_1:Str)=>⟨[(0,.b (.one (.str s0))),(2,Pt 101 0),(4,.b (.one (.str digits_1)))],[(101,.box 25 sc)]⟩) (fun z=>z) ?_ ?_
 ·refine ah.seq (ah.ab ?_)
  refine Oc om (Oc (fY oD rfl) (Oc (oJ rfl rfl) (Oc om ?_)))
  refine Ih (decide (0 < (s0.length:Int))) [] (fun g3=>trivial) (fun g3=>om) ?_
  obtain ⟨x_2,e5,h2⟩:=aJ h2
  refine Ih (decide (0 < (s0.length:Int))) [16] (fun g4=>⟨g4,trivial⟩) (fun g4=>gP oD rfl rfl (fa (gc e5 g4)) (oL (gc e5 g4))) (Ih (decide (0 < (s0.length:Int))) [17] (fun g6=>⟨g6,trivial⟩) (fun g6=>nF rfl rfl) (aj.IQ h2 rfl (fJ (fun e=>e) rfl rfl rfl rfl) (fun x_3 h2=>?_)))
  refine aj.aV ⟨[(0,_),(2,_),(4,_),(19,B x_3)],[(101,_)]⟩ rfl (ah.ite h2 rfl (fun _ h2=>?_) (fun _ h2=>?_))
  ·refine ah.ab (Oc om ?_)
   obtain ⟨x_4,e7,h2⟩:=aJ h2
   refine Oc (oX oD e7 rfl rfl) (Oc oa ?_)
   refine aj.nil ?_
   exact Fin.join [0,2,4] [101] x_4 (Option.some.inj h2) rfl
  ·refine ah.skip ?_
   exact Fin.join [0,2,4] [101] s0 (Option.some.inj h2) rfl
 ·rintro digits_1 hv
  subst v1
  refine ah.seq (ah.seq (ah.ab ?_))
  refine Oc om (Oc (u5 rfl rfl) (Oc om ?_))
  refine AT (!(decide (digits_1 = []))) [] (fun g8=>trivial) (fun g8=>om) ?_
  obtain ⟨x_5,e10,h⟩:=aJ h
  refine AT (!(decide (digits_1 = []))) [25] (fun g9=>⟨g9,trivial⟩) (fun g9=>gP oD rfl rfl (fa (gc e10 g9)) (oL (gc e10 g9))) (AT (!(decide (digits_1 = []))) [26] (fun g11=>⟨g11,trivial⟩) (fun g11=>nF rfl rfl) (AT (!(decide (digits_1 = []))) [27] (fun g12=>⟨g12,trivial⟩) (fun g12=>om) (aj.aD ⟨[(0,_),(2,_),(4,_),(24,B (decide (digits_1 = []))),(28,.opt (!(decide (digits_1 = []))) (.one (.bool (decide ((x_5.toNat:Int) = 48)))))],[(101,_)]⟩ rfl (aj.pA ((!(decide (digits_1 = []))) && (decide ((x_5.toNat:Int) = 48))) 99 [] (.under rfl) (and_t _ _) rfl rfl (fun g13=>by exact trivial) (fun g13=>om) (aj.pA ((!(decide (digits_1 = []))) && (decide ((x_5.toNat:Int) = 48))) 99 [29] (.under rfl) (and_t _ _) rfl rfl (fun g14=>by exact ⟨g14,trivial⟩) (fun g14=>uZ rfl rfl) ?_)))))
  refine AT (!(decide (digits_1 = []))) [28] (fun g15=>⟨g15,trivial⟩) (fun g15=>fJ (fun e=>by rw [g15,e]; rfl) rfl rfl rfl rfl) (aj.IQ h rfl (ff (fun e=>by first | (rw [e]; rfl) | (simp only at e; rw [e]; rfl)) rfl rfl rfl rfl) (fun x_6 h=>?_))
  refine aj.aV ⟨[(0,_),(2,_),(4,_),(32,B x_6)],[(101,_)]⟩ rfl (ah.ite h rfl (fun _ h=>?_) (fun _ h=>?_))
  ·refine ah.seq (ah.ab ?_)
   obtain ⟨x_7,e16,h⟩:=aJ h
   refine Oc (ct (iN e16) vE rfl rfl) (Oc (aW de rfl rfl rfl rfl (Nat.le_of_ble_eq_true rfl) rfl) (Oc oa ?_))
   refine aj.aV ⟨[(2,_),(3,I 281)],[(101,.box 25 (cA x_7))]⟩ rfl (ah.ret (Fin.cr ?_))
   obtain rfl:=Option.some.inj h
   refine Fin.aD ⟨[(2,_),(3,_)],[(101,_)]⟩ rfl (Fin.eM [.agg (cA x_7),.one (.i 281)] (.inl rfl) rfl (.cons (.agg de rfl rfl rfl rfl) (.cons (.tmp rfl) .nil)) ⟨rfl,rfl⟩)
  ·refine ah.skip (Fin.aD ⟨[(0,_),(2,_),(4,_)],[(101,_)]⟩ rfl (Fin.then ?_))
   obtain ⟨v17,h18,h⟩:=aJ h
   refine ah.oE (v:=v17) (fun (_:Unit)=>⟨[(0,.b (.one (.str s0))),(2,Pt 101 0),(4,.b (.one (.str digits_1)))],[(101,.box 25 sc)]⟩) (fun z=>.inl z) ?_ ?_
   ·refine ah.seq (ah.ab ?_)
    refine Oc om (Oc (yc oD Bq Gb rfl) (Oc (tG Bq rfl (List.length_map _)) (Oc om ?_)))
    refine aj.aV ⟨[(0,_),(2,_),(4,_),(35,.b (.one (.sl 1 ((ofStr digits_1).map (eK .u8))))),(36,I ((ofStr digits_1).length:Int)),(37,I 0)],[(101,_)]⟩ rfl (ah.block (ah.qw h18 (fun (x_8:Int)=>⟨[(0,.b (.one (.str s0))),(2,Pt 101 0),(4,.b (.one (.str digits_1))),(35,.b (.one (.sl 1 ((ofStr digits_1).map (eK .u8))))),(36,I ((ofStr digits_1).length:Int)),(37,I x_8)],[(101,.box 25 sc)]⟩) [0,2,4,35,36,37] [101] rfl ?_))
    rintro x_8 o19 h20 hy21
    refine ah.seq (ah.ab ?_)
    refine Oc (k8 rfl rfl) (aj.aV ⟨[(0,_),(2,_),(4,_),(35,_),(36,_),(37,_),(38,B (decide (x_8 < ((ofStr digits_1).length:Int))))],[(101,_)]⟩ rfl (ah.seq (ah.ite h20 rfl (fun _ h20=>?_) (fun _ h20=>?_))))
    ·refine ah.skip (Fin.aD ⟨[(0,_),(2,_),(4,_),(35,_),(36,_),(37,_)],[(101,_)]⟩ rfl (Fin.then (ah.seq (ah.block (ah.seq (ah.ab ?_))))))
     obtain ⟨x_9,e22,h20⟩:=aJ h20
     refine Oc (rh B' (fa e22) (qW (e:=(eK .u8)) e22) rfl rfl) (Oc (kD I0 rfl rfl) (Oc oa ?_))
     refine aj.aV ⟨[(0,_),(2,_),(4,_),(6,.b (.one (.int .u8 x_9))),(35,_),(36,_),(37,_)],[(101,_)]⟩ rfl (ah.seq (ah.ab ?_))
     refine Oc om (Oc (k8 rfl rfl) (Oc om ?_))
     refine AT (!(decide (x_9 < 48))) [] (fun g23=>trivial) (fun g23=>om) (AT (!(decide (x_9 < 48))) [44] (fun g24=>by exact ⟨g24,trivial⟩) (fun g24=>oJ rfl rfl) (Oc (ff (fun e=>by first | (rw [e]; rfl) | (simp only at e; rw [e]; rfl)) rfl rfl rfl rfl) (aj.aV ⟨[(0,_),(2,_),(4,_),(35,_),(36,_),(37,_),(46,B ((decide (x_9 < 48)) || (decide (57 < x_9))))],[(101,_)]⟩ rfl (ah.ite h20 rfl (fun _ h20=>?_) (fun _ h20=>?_)))))
     ·refine ah.seq (ah.ab ?_)
      obtain ⟨x_10,e25,h20⟩:=aJ h20
      refine Oc (ct (iN e25) vE rfl rfl) (Oc (aW de rfl rfl rfl rfl (Nat.le_of_ble_eq_true rfl) rfl) (Oc oa ?_))
      refine aj.aV ⟨[(2,_),(3,I 281)],[(101,.box 25 (cA x_10))]⟩ rfl (ah.ret (Fin.qF (Fin.cr ?_)))
      obtain rfl:=hy21 _ (Option.some.inj h20).symm
      refine Fin.cr (Fin.qF (Fin.cr ?_))
      obtain rfl:=Option.some.inj h
      refine Fin.aD ⟨[(2,_),(3,_)],[(101,_)]⟩ rfl (Fin.eM [.agg (cA x_10),.one (.i 281)] (.inl rfl) rfl (.cons (.agg de rfl rfl rfl rfl) (.cons (.tmp rfl) .nil)) ⟨rfl,rfl⟩)
     ·refine ah.skip (Fin.bD (Fin.aD ⟨[(0,_),(2,_),(4,_),(35,_),(36,_),(37,_)],[(101,_)]⟩ rfl (Fin.then (ah.ab ?_))))
      refine Oc (ef rfl rfl) (Oc om ?_)
      refine aj.nil ?_
      exact Fin.jM [0,2,4,35,36,37] [101] (IntKind.i64.wrap (x_8 + 1)) (Option.some.inj h20) rfl
    ·refine ah.exit (Fin.bw ?_)
     obtain rfl:=hy21 _ (Option.some.inj h20).symm
     refine Fin.bw (Fin.cJ ?_)
     exact Fin.join [0,2,4] [101] () rfl rfl
   ·rintro _ hv
    subst v17
    refine ah.seq (ah.seq (ah.ab ?_))
    refine Oc om (Oc (fY oD rfl) (Oc (oJ rfl rfl) ?_))
    refine aj.aV ⟨[(0,_),(2,_),(4,_),(51,B (decide (512 < (digits_1.length:Int))))],[(101,_)]⟩ rfl (ah.ite h rfl (fun _ h=>?_) (fun _ h=>?_))
    ·refine ah.seq (ah.ab ?_)
     obtain ⟨x_11,e26,h⟩:=aJ h
     refine Oc (ct (iN e26) vE rfl rfl) (Oc (aW de rfl rfl rfl rfl (Nat.le_of_ble_eq_true rfl) rfl) (Oc oa ?_))
     refine aj.aV ⟨[(2,_),(3,I 30)],[(101,.box 25 (cA x_11))]⟩ rfl (ah.ret (Fin.cr ?_))
     obtain rfl:=Option.some.inj h
     refine Fin.aD ⟨[(2,_),(3,_)],[(101,_)]⟩ rfl (Fin.eM [.agg (cA x_11),.one (.i 30)] (.inl rfl) rfl (.cons (.agg de rfl rfl rfl rfl) (.cons (.tmp rfl) .nil)) ⟨rfl,rfl⟩)
    ·refine ah.skip (Fin.aD ⟨[(0,_),(2,_),(4,_)],[(101,_)]⟩ rfl (Fin.then (ah.seq (ah.ab ?_))))
     obtain ⟨x_12,e27,h⟩:=aJ h
     refine Oc (ct (qj e27) CA rfl rfl) ?_
     obtain ⟨x_13,e28,h⟩:=aJ h
     refine Oc (ct (qj e28) CA rfl rfl) (aj.aD ⟨[(0,_),(2,_),(4,_),(53,.b (.agg (cA x_12))),(54,.b (.agg (cA x_13)))],[(101,_)]⟩ rfl (Oc (cz (k:=102) vL rfl) (Oc (cz (k:=103) vL rfl) (Oc (aW de rfl rfl rfl rfl (Nat.le_of_ble_eq_true rfl) rfl) (Oc (aW de rfl rfl rfl rfl (Nat.le_of_ble_eq_true rfl) rfl) ?_)))))
     refine aj.aV ⟨[(0,_),(2,_),(4,_),(7,Pt 102 0),(8,Pt 103 0)],[(101,_),(102,.box 25 (cA x_12)),(103,.box 25 (cA x_13))]⟩ rfl ?_
     obtain ⟨v29,h30,h⟩:=aJ h
     refine ah.oE (v:=v29) (fun (x_14:bb)=>⟨[(0,.b (.one (.str s0))),(2,Pt 101 0),(4,.b (.one (.str digits_1))),(7,Pt 102 0)],[(101,.box 25 sc),(102,.box 25 (cA x_14))]⟩) (fun z=>z) ?_ ?_
     ·refine ah.seq (ah.ab ?_)
      refine Oc om (Oc (yc oD Bq Gb rfl) (Oc (tG Bq rfl (List.length_map _)) (Oc om ?_)))
      refine aj.aV ⟨[(0,_),(2,_),(4,_),(7,_),(8,_),(56,.b (.one (.sl 1 ((ofStr digits_1).map (eK .u8))))),(57,I ((ofStr digits_1).length:Int)),(58,I 0)],[(101,_),(102,_),(103,_)]⟩ rfl (ah.block (ah.qw h30 (wQ fun (x_15:bb) (x_16:Int)=>⟨[(0,.b (.one (.str s0))),(2,Pt 101 0),(4,.b (.one (.str digits_1))),(7,Pt 102 0),(8,Pt 103 0),(56,.b (.one (.sl 1 ((ofStr digits_1).map (eK .u8))))),(57,I ((ofStr digits_1).length:Int)),(58,I x_16)],[(101,.box 25 sc),(102,.box 25 (cA x_15)),(103,.box 25 (cA x_13))]⟩) [0,2,4,7,8,56,57,58] [101,102,103] rfl ?_))
      rintro ⟨x_15,x_16⟩ o31 h32 hy33
      refine ah.seq (ah.ab ?_)
      refine Oc (k8 rfl rfl) (aj.aV ⟨[(0,_),(2,_),(4,_),(7,_),(8,_),(56,_),(57,_),(58,_),(59,B (decide (x_16 < ((ofStr digits_1).length:Int))))],[(101,_),(102,_),(103,_)]⟩ rfl (ah.seq (ah.ite h32 rfl (fun _ h32=>?_) (fun _ h32=>?_))))
      ·refine ah.skip (Fin.aD ⟨[(0,_),(2,_),(4,_),(7,_),(8,_),(56,_),(57,_),(58,_)],[(101,_),(102,_),(103,_)]⟩ rfl (Fin.then (ah.seq (ah.block (ah.seq (ah.ab ?_))))))
       obtain ⟨x_18,e34,h32⟩:=aJ h32
       refine Oc (rh B' (fa e34) (qW (e:=(eK .u8)) e34) rfl rfl) (Oc (kD I0 rfl rfl) (Oc oa ?_))
       refine aj.aV ⟨[(0,_),(2,_),(4,_),(7,_),(8,_),(10,.b (.one (.int .u8 x_18))),(56,_),(57,_),(58,_)],[(101,_),(102,_),(103,_)]⟩ rfl (ah.ab (Oc (lp de) (Oc (lp de) ?_)))
       obtain ⟨x_19,e35,h32⟩:=aJ h32
       refine Oc (ct (Az e35) goes185 rfl rfl) (Oc om (Oc (wW rfl rfl) ?_))
       refine aj.aD ⟨[(0,_),(2,_),(4,_),(7,_),(8,_),(56,_),(57,_),(58,_),(64,.b (.agg (cA x_19))),(66,.b (.one (.int .u8 (IntKind.u8.wrap (x_18 - 48)))))],[(101,_),(102,_),(103,_)]⟩ rfl (aj.Du .i64 h32 rfl (fK Gb undi3 rfl) (fun x_20 h32=>?_))
       obtain ⟨x_21,e36,h32⟩:=aJ h32
       refine Oc (ct (qj e36) CA rfl rfl) ?_
       obtain ⟨x_22,e37,h32⟩:=aJ h32
       refine Oc (ct (AA e37) goes230 rfl rfl) (Oc (aW de rfl rfl rfl rfl (Nat.le_of_ble_eq_true rfl) rfl) ?_)
       refine aj.nil (Fin.bD (Fin.aD ⟨[(0,_),(2,_),(4,_),(7,_),(8,_),(56,_),(57,_),(58,_)],[(101,_),(102,.box 25 (cA x_22)),(103,_)]⟩ rfl (Fin.then (ah.ab ?_))))
       refine Oc (ef rfl rfl) (Oc om ?_)
       refine aj.nil ?_
       exact Fin.jM [0,2,4,7,8,56,57,58] [101,102,103] (x_22,IntKind.i64.wrap (x_16 + 1)) (Option.some.inj h32) rfl
      ·refine ah.exit (Fin.bw ?_)
       obtain rfl:=hy33 _ (Option.some.inj h32).symm
       refine Fin.bw (Fin.cJ ?_)
       exact Fin.join [0,2,4,7] [101,102] x_15 rfl rfl
     ·rintro x_14 hv
      subst v29
      refine ah.seq (ah.seq (ah.ab ?_))
      refine Oc (ax HJ rfl rfl) (Oc (aI Ca rfl rfl rfl) ?_)
      refine aj.aV ⟨[(0,_),(2,_),(4,_),(7,_),(72,B x_14.Bad)],[(101,_),(102,_)]⟩ rfl (ah.ite h rfl (fun _ h=>?_) (fun _ h=>?_))
      ·refine ah.seq (ah.ab ?_)
       refine Oc (lp de) (Oc (aW de rfl rfl rfl rfl (Nat.le_of_ble_eq_true rfl) rfl) (Oc oa ?_))
       refine aj.aV ⟨[(2,_),(3,I 30)],[(101,.box 25 (cA x_14))]⟩ rfl (ah.ret (Fin.cr ?_))
       obtain rfl:=Option.some.inj h
       refine Fin.aD ⟨[(2,_),(3,_)],[(101,_)]⟩ rfl (Fin.eM [.agg (cA x_14),.one (.i 30)] (.inl rfl) rfl (.cons (.agg de rfl rfl rfl rfl) (.cons (.tmp rfl) .nil)) ⟨rfl,rfl⟩)
      ·refine ah.skip (Fin.aD ⟨[(0,_),(2,_),(4,_),(7,_)],[(101,_),(102,_)]⟩ rfl (Fin.then (ah.seq (ah.ab ?_))))
       refine Oc om (Oc om (Oc (uZ rfl rfl) (Oc (ax oz rfl rfl) (Oc (lp gi) ?_))))
       refine aj.aD ⟨[(2,_),(76,B (decide (digits_1 ≠ s0))),(78,.b (.agg (eW x_14.W)))],[(101,_)]⟩ rfl ?_
       obtain ⟨x_23,e38,h⟩:=aJ h
       refine Oc (ct (pR e38) G' rfl rfl) (Oc (aW de rfl rfl rfl rfl (Nat.le_of_ble_eq_true rfl) rfl) (Oc oa ?_))
       refine aj.aV ⟨[(2,_),(3,I 0)],[(101,.box 25 (cA x_23))]⟩ rfl (ah.ret ?_)
       obtain rfl:=Option.some.inj h
       refine Fin.aD ⟨[(2,_),(3,_)],[(101,_)]⟩ rfl (Fin.eM [.agg (cA x_23),.one (.i 0)] (.inl rfl) rfl (.cons (.agg de rfl rfl rfl rfl) (.cons (.tmp rfl) .nil)) ⟨rfl,rfl⟩)
end Go.Dn.X
