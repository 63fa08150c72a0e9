/- printed walks -/
import Derived.Test.YthjfhibfcchjoaaGreatDoorG1
set_option linter.unusedSectionVars false
set_option linter.unusedSimpArgs false
set_option linter.unusedVariables false
open Go.IntKind (i8 i16 i32 i64 u8 u16 u32 u64)
open Go.Proofs.Tryz (prog)
namespace Go.Dn.X
open Go Go.Sk Go.Dn Go.Proofs
set_option maxHeartbeats 4000000
set_option maxRecDepth 4000
variable {mx:Int}
def fu (F:Nat) (b0:Int):Option Bool :=
 (eO F b0).bind fun h=>(aW (!h) (gK F b0)).bind fun m=>some ((h||m)||(decide (b0=95)))
theorem pX {F:Nat} {b0:Int} {r:Bool} (h:fu F b0=some r):aI prog (ax mx) 127 [] [.one (.int .u8 b0)] (Is [] (.b (.one (.bool r)))):=by
 unfold fu at h
 refine aI.intro 13 Tryz.func127 Tryz.ntmps127 rfl (by simp) fun E=>(ah.seq (ah.ae ?_))
 refine Oc oa (aj.aV ⟨[(0,.b (.one (.int .u8 b0)))],[]⟩ rfl (ah.seq (ah.ae ?_)))
 refine Oc om ?_
 obtain⟨m,e1,h⟩:=aK h
 refine Oc (cy (lW e1) DH rfl rfl) (Oc om ?_)
 refine BS (!m) [] (fun g2=>trivial) (fun g2=>om) (aj.aF ⟨[(0,_),(5,B m),(6,.opt (!m) (.one (.int .u8 b0)))],[]⟩ rfl ?_)
 obtain⟨v,e4,h⟩:=aK h
 refine BS (!m) [6] (fun g3=>⟨g3,trivial⟩) (fun g3=>cy (m' (gc e4 g3)) DG rfl rfl) (Oc (fI (fun e=>by first|(rw[e];rfl)|(simp only at e;rw[e];rfl)) rfl rfl rfl rfl) (Oc om ?_))
 refine BS (!(m||v)) [] (fun g5=>trivial) (fun g5=>om) (BS (!(m||v)) [10] (fun g6=>by exact⟨g6,trivial⟩) (fun g6=>n3 rfl rfl) (Oc (fI (fun e=>by first|(rw[e];rfl)|(simp only at e;rw[e];rfl)) rfl rfl rfl rfl) (Oc oa (aj.aV ⟨[(2,B ((m||v)||(decide (b0=95))))],[]⟩ rfl (ah.ret ?_)))))
 obtain rfl:=zaa h
 refine Fin.aF ⟨[(2,_)],[]⟩ rfl (Fin.fi [.one (.bool ((m||v)||(decide (b0=95))))] (.inl rfl) rfl (.cons (.tmp rfl) .nil) ⟨rfl,rfl⟩)
def fq (F:Nat) (b0:Int):Option Bool :=
 (gR F [32,9,10,13] b0).bind fun h=>some (decide (0<=h))
theorem pU {F:Nat} {b0:Int} {r:Bool} (h:fq F b0=some r):aI prog (ax mx) 133 [] [.one (.int .u8 b0)] (Is [] (.b (.one (.bool r)))):=by
 unfold fq at h
 refine aI.intro 6 Tryz.func133 Tryz.ntmps133 rfl (by simp) fun E=>(ah.seq (ah.ae ?_))
 refine Oc oa (aj.aV ⟨[(0,.b (.one (.int .u8 b0)))],[]⟩ rfl (ah.seq (ah.ae ?_)))
 refine Oc om ?_
 obtain⟨m,e1,h⟩:=aK h
 refine Oc (cy (sd e1) goes134 rfl rfl) (Oc (KF rfl rfl) (Oc oa (aj.aV ⟨[(2,B (decide (0<=m)))],[]⟩ rfl (ah.ret ?_))))
 obtain rfl:=zaa h
 refine Fin.aF ⟨[(2,_)],[]⟩ rfl (Fin.fi [.one (.bool (decide (0<=m)))] (.inl rfl) rfl (.cons (.tmp rfl) .nil) ⟨rfl,rfl⟩)
def fp (F:Nat) (b0:Int):Option Bool :=
 some (decide (b0≠10))
theorem pT {F:Nat} {b0:Int} {r:Bool} (h:fp F b0=some r):aI prog (ax mx) 135 [] [.one (.int .u8 b0)] (Is [] (.b (.one (.bool r)))):=by
 unfold fp at h
 refine aI.intro 5 Tryz.func135 Tryz.ntmps135 rfl (by simp) fun E=>(ah.seq (ah.ae ?_))
 refine Oc oa (aj.aV ⟨[(0,.b (.one (.int .u8 b0)))],[]⟩ rfl (ah.seq (ah.ae ?_)))
 refine Oc om (Oc (xO rfl rfl) (Oc oa (aj.aV ⟨[(2,B (decide (b0≠10)))],[]⟩ rfl (ah.ret ?_))))
 obtain rfl:=zaa h
 refine Fin.aF ⟨[(2,_)],[]⟩ rfl (Fin.fi [.one (.bool (decide (b0≠10)))] (.inl rfl) rfl (.cons (.tmp rfl) .nil) ⟨rfl,rfl⟩)
def gl (F:Nat) (fn0:Nat) (b0:Int):Option Bool :=
 if fn0=127 then fu F b0 else if fn0=128 then gK F b0 else if fn0=133 then fq F b0 else if fn0=135 then fp F b0 else none
theorem F1 {F fn0:Nat} {b0:Int} {r:Bool} (h:gl F fn0 b0=some r):aI prog (ax mx) fn0 [] [.one (.int .u8 b0)] (Is [] (.b (.one (.bool r)))):=by
 unfold gl at h
 split at h
 next e=>subst e;exact pX h
 next=>
  split at h
  next e=>subst e;exact m' h
  next=>
   split at h
   next e=>subst e;exact pU h
   next=>
    split at h
    next e=>subst e;exact pT h
    next=>
     simp at h
theorem F2 {F fn0:Nat} {b0:Int} {r:Bool} (h:gl F fn0 b0=some r):dM prog fn0:=by
 unfold gl at h
 split at h
 next e=>subst e;exact goes127
 next=>
  split at h
  next e=>subst e;exact DG
  next=>
   split at h
   next e=>subst e;exact goes133
   next=>
    split at h
    next e=>subst e;exact goes135
    next=>
     simp at h
def bp (F:Nat) (m:Str) (h:Int):Option Int :=
 if (decide (h=(m.length:Int)))=true then (some 0) else ((aD m h).bind fun v=>some (v.toNat:Int))
theorem bE {F:Nat} {v:Str} {m r:Int} (h:bp F v m=some r):aI prog (ax mx) 125 [(1,.box 149 [.str v,.i m])] [.ptr 1 0] (Is [(1,.box 149 [.str v,.i m])] (.b (.one (.int .u8 r)))):=by
 unfold bp at h
 refine aI.intro 22 Tryz.func125 Tryz.ntmps125 rfl (by simp) fun E=>(ah.seq (ah.ae ?_))
 refine Oc oa (aj.aV ⟨[(0,Pt 1 0)],[(1,.box 149 [.str v,.i m])]⟩ rfl (ah.seq (ah.seq ?_)))
 refine ah.aF ⟨[(0,_)],[(1,_)]⟩ rfl (ah.oN mixed 10 [Pt 1 0,Pt 1 0,Pt 1 1,I m,Pt 1 0,Pt 1 0,Pt 1 0,.b (.one (.str v)),I (v.length:Int),B (decide (m=(v.length:Int)))] [0,12] [1] (s':=⟨[(0,_),(12,B (decide (m=(v.length:Int))))],[(1,_)]⟩) rfl ⟨fun _=>.p om,fun _=>.p (aw rfl),fun _=>.p (ay bo rfl rfl),fun _=>.p (aJ cX rfl rfl rfl),fun _=>.p om,fun _=>.p (aw rfl),fun _=>.p (ay fH rfl rfl),fun _=>.p (aJ gV rfl rfl rfl),fun _=>.p (gJ o6 rfl),fun _=>.p (n3 rfl rfl),trivial⟩ rfl rfl (ah.ite h rfl (fun _ h=>?_) (fun _ h=>?_)))
 refine ah.seq (ah.ae ?_)
 refine Oc oa (aj.aV ⟨[(2,.b (.one (.int .u8 0)))],[(1,_)]⟩ rfl (ah.ret (Fin.cx ?_)))
 obtain rfl:=zaa h
 refine Fin.aF ⟨[(2,_)],[(1,_)]⟩ rfl ?_
 exact Fin.result [.one (.int .u8 0)] (.inl rfl) rfl (.cons (.tmp rfl) .nil) ⟨rfl,rfl⟩
 refine ah.skip (Fin.aF ⟨[(0,_)],[(1,_)]⟩ rfl (Fin.then (ah.seq (ah.aF ⟨[(0,_)],[(1,_)]⟩ rfl ?_))))
 obtain⟨y,e1,h⟩:=aK h
 refine ah.oN mixed 10 [Pt 1 0,Pt 1 0,Pt 1 0,.b (.one (.str v)),Pt 1 0,Pt 1 0,Pt 1 1,I m,.b (.one (.int .u8 (y.toNat:Int))),.b (.one (.int .u8 (y.toNat:Int)))] [2] [1] (s':=⟨[(2,.b (.one (.int .u8 (y.toNat:Int))))],[(1,_)]⟩) rfl ⟨fun _=>.p om,fun _=>.p (aw rfl),fun _=>.p (ay fH rfl rfl),fun _=>.p (aJ gV rfl rfl rfl),fun _=>.p om,fun _=>.p (aw rfl),fun _=>.p (ay bo rfl rfl),fun _=>.p (aJ cX rfl rfl rfl),fun _=>.p (iv o6 rfl rfl (fE e1) (pg e1)),fun _=>.p oa,trivial⟩ rfl rfl (ah.ret ?_)
 obtain rfl:=zaa h
 refine Fin.aF ⟨[(2,_)],[(1,_)]⟩ rfl ?_
 exact Fin.result [.one (.int .u8 (y.toNat:Int))] (.inl rfl) rfl (.cons (.tmp rfl) .nil) ⟨rfl,rfl⟩
def b5 (F:Nat) (is0:Nat) (ad:Str) (m:Int):Option (Int×Str×Int) :=
 Option.bind (iter F (fun h=>(aW (decide (h.pos<(h.s.length:Int))) (aD h.s h.pos)).bind fun y=>(aW (decide (h.pos<(h.s.length:Int))) (gl F is0 (y.toNat:Int))).bind fun ac=>if ((decide (h.pos<(h.s.length:Int)))&&ac)=true then (some (.inl (⟨h.s,i64.wrap (h.pos+1)⟩:Scan))) else (some (.inr h))) (⟨ad,m⟩:Scan)) (fun v=>some (i64.wrap (v.pos-m),v.s,v.pos))
theorem dU {F is0:Nat} {ad:Str} {y:Int} {r:Int×Str×Int} (h:b5 F is0 ad y=some r):aI prog (ax mx) 126 [(1,.box 149 [.str ad,.i y])] [.ptr 1 0,.one (.raw (.func (.func is0) #[] #[]))] (Is [(1,.box 149 [.str r.2.1,.i r.2.2])] (.b (.one (.i r.1)))):=by
 unfold b5 at h
 refine aI.intro 46 Tryz.func126 Tryz.ntmps126 rfl (by simp) fun E=>(ah.seq (ah.ae ?_))
 refine Oc oa (aj.aV ⟨[(0,Pt 1 0),(1,.b (.one (.raw (.func (.func is0) #[] #[]))))],[(1,.box 149 [.str ad,.i y])]⟩ rfl (ah.seq (ah.ae ?_)))
 refine Oc om (Oc (aw rfl) (Oc (ay bo rfl rfl) (Oc (aJ cX rfl rfl rfl) (Oc oa (aj.aV ⟨[(0,_),(1,_),(5,I y)],[(1,_)]⟩ rfl ?_)))))
 obtain⟨v1,h2,h⟩:=aK h
 refine ah.o8 (v:=v1) (fun (ac:Scan)=>⟨[(0,Pt 1 0),(5,I y)],[(1,.box 149 (kH ac))]⟩) (fun z=>z) ?_ ?_
 refine ah.block (ah.qX h2 (fun (m:Scan)=>⟨[(0,Pt 1 0),(1,.b (.one (.raw (.func (.func is0) #[] #[])))),(5,I y)],[(1,.box 149 (kH m))]⟩) [0,1,5] [1] rfl ?_)
 rintro m o3 h4 hy5
 refine ah.seq (ah.seq (ah.aF ⟨[(0,_),(1,_),(5,_)],[(1,_)]⟩ rfl ?_))
 obtain⟨an,e16,h4⟩:=aK h4
 obtain⟨am,e18,h4⟩:=aK h4
 refine ah.oN mixed 23 ((fun z_=>[Pt 1 0,Pt 1 0,Pt 1 1,I m.pos,Pt 1 0,Pt 1 0,Pt 1 0,.b (.one (.str m.s)),I (m.s.length:Int),B (decide (m.pos<(m.s.length:Int))),B (decide (m.pos<(m.s.length:Int))),.opt z_ (.one (.raw (.func (.func is0) #[] #[]))),.opt z_ (.ptr 1 0),.opt z_ (.ptr 1 0),.opt z_ (.ptr 1 0),.opt z_ (.one (.str m.s)),.opt z_ (.ptr 1 0),.opt z_ (.ptr 1 0),.opt z_ (.ptr 1 1),.opt z_ (.one (.i m.pos)),.opt z_ (.one (.int .u8 (an.toNat:Int))),.opt z_ (.one (.bool am)),B ((decide (m.pos<(m.s.length:Int)))&&am)]) (decide (m.pos<(m.s.length:Int)))) [0,1,5,32] [1] (s':=⟨[(0,_),(1,_),(5,_),(32,B ((decide (m.pos<(m.s.length:Int)))&&am))],[(1,_)]⟩) rfl ⟨fun _=>.p om,fun _=>.p (aw rfl),fun _=>.p (ay bo rfl rfl),fun _=>.p (aJ cX rfl rfl rfl),fun _=>.p om,fun _=>.p (aw rfl),fun _=>.p (ay fH rfl rfl),fun _=>.p (aJ gV rfl rfl rfl),fun _=>.p (gJ o6 rfl),fun _=>.p (lJ rfl rfl),fun _=>.p om,fun _=>by exact .guard (decide (m.pos<(m.s.length:Int))) 1 [] (.plain rfl) (jL _) rfl rfl (fun g6=>trivial) (fun g6=>om),fun _=>by exact .guard (decide (m.pos<(m.s.length:Int))) 1 [] (.plain rfl) (jL _) rfl rfl (fun g7=>trivial) (fun g7=>om),fun _=>by exact .guard (decide (m.pos<(m.s.length:Int))) 2 [22] (.plain rfl) (jL _) rfl rfl (fun g8=>⟨g8,trivial⟩) (fun g8=>aw rfl),fun _=>by exact .guard (decide (m.pos<(m.s.length:Int))) 2 [23] (.plain rfl) (jL _) rfl rfl (fun g9=>⟨g9,trivial⟩) (fun g9=>ay fH rfl rfl),fun _=>by exact .guard (decide (m.pos<(m.s.length:Int))) 2 [24] (.plain rfl) (jL _) rfl rfl (fun g10=>⟨g10,trivial⟩) (fun g10=>aJ gV rfl rfl rfl),fun _=>by exact .guard (decide (m.pos<(m.s.length:Int))) 1 [] (.plain rfl) (jL _) rfl rfl (fun g11=>trivial) (fun g11=>om),fun _=>by exact .guard (decide (m.pos<(m.s.length:Int))) 2 [26] (.plain rfl) (jL _) rfl rfl (fun g12=>⟨g12,trivial⟩) (fun g12=>aw rfl),fun _=>by exact .guard (decide (m.pos<(m.s.length:Int))) 2 [27] (.plain rfl) (jL _) rfl rfl (fun g13=>⟨g13,trivial⟩) (fun g13=>ay bo rfl rfl),fun _=>by exact .guard (decide (m.pos<(m.s.length:Int))) 2 [28] (.plain rfl) (jL _) rfl rfl (fun g14=>⟨g14,trivial⟩) (fun g14=>aJ cX rfl rfl rfl),fun _=>by exact .guard (decide (m.pos<(m.s.length:Int))) 3 [25,29] (.plain rfl) (jL _) rfl rfl (fun g15=>⟨g15,g15,trivial⟩) (fun g15=>iv o6 rfl rfl (fE (gc e16 g15)) (pg (gc e16 g15))),fun _=>by exact .guard (decide (m.pos<(m.s.length:Int))) 4 [21,30] (.plain rfl) (jL _) rfl rfl (fun g17=>⟨g17,g17,trivial⟩) (fun g17=>Jm (F1 (gc e18 g17)) (F2 (gc e18 g17)) rfl rfl rfl),fun _=>.p (gn (fun e=>e) rfl rfl rfl rfl),trivial⟩ rfl rfl ?_
 refine ah.ite h4 rfl (fun _ h4=>?_) (fun _ h4=>?_)
 refine ah.skip (Fin.aF ⟨[(0,_),(1,_),(5,_)],[(1,_)]⟩ rfl (Fin.then (ah.block (ah.ae ?_))))
 refine Oc om (Oc (aw rfl) (Oc (ay bo rfl rfl) (Oc (aJ cX rfl rfl rfl) (Oc (eM rfl rfl) (Oc (aw rfl) ?_)))))
 refine Oc (ay bo rfl rfl) (Oc (ee cX rfl rfl rfl (zab rfl) rfl) (aj.nil (Fin.bF ?_)))
 exact Fin.kq [0,1,5] [1] (⟨m.s,i64.wrap (m.pos+1)⟩:Scan) (zaa h4) rfl
 refine ah.exit (Fin.bB ?_)
 obtain rfl:=hy5 _ (zaa h4).symm
 refine Fin.bB (Fin.cN ?_)
 exact Fin.join [0,5] [1] m rfl rfl
 rintro ac hv
 subst v1
 refine ah.seq (ah.ae ?_)
 refine Oc om (Oc (aw rfl) (Oc (ay bo rfl rfl) (Oc (aJ cX rfl rfl rfl) (Oc om (Oc (xN rfl rfl) ?_)))))
 refine Oc oa (aj.aV ⟨[(4,I (i64.wrap (ac.pos-y)))],[(1,_)]⟩ rfl (ah.ret ?_))
 obtain rfl:=zaa h
 refine Fin.aF ⟨[(4,_)],[(1,_)]⟩ rfl ?_
 exact Fin.result [.one (.i (i64.wrap (ac.pos-y)))] (.inl rfl) rfl (.cons (.tmp rfl) .nil) ⟨rfl,rfl⟩
def bq (F:Nat) (at0:Int) (e0:Int) (m:Str) (h:Int):Option Problem :=
 some (⟨at0,e0⟩:Problem)
theorem cr {F:Nat} {at0 e0:Int} {v:Str} {m:Int} {r:Problem} (h:bq F at0 e0 v m=some r):ij prog (ax mx) 129 [(1,.box 149 [.str v,.i m])] [.ptr 1 0,.one (.i at0),.one (.i e0)] ((fun p:Problem=>.iface 38 (.agg #[.int .i64 p.At,.int .i64 p.E])) r) ((fun p:Problem=>mf .i64 p.At/\mf .i64 p.E) r):=by
 unfold bq at h
 refine eZ.intro 10 Tryz.func129 Tryz.ntmps129 rfl (by simp) fun E=>(ah.ae (Oc om (Oc om (Oc (iI Cu rfl rfl) (Oc (xe conc38 rfl) (aj.panic2 rfl (fun hok=>?_)))))))
 obtain rfl:=zaa h
 exact Fin.qF ⟨rfl,hok⟩
def bY (F:Nat) (ac:Str) (h:Int):Option ((Token×Bool×Str×Int)⊕Problem) :=
 (bp F ac h).bind fun bb=>(eO F bb).bind fun be=>if (!be)=true then (some (.inl ((⟨0,0,[]⟩:Token),false,ac,h))) else (Option.bind (Option.bind (b5 F 127 ac h) (Hl fun bi ad am=>if (decide (32<bi))=true then ((bq F h 2 ad am).bind fun bk=>some (.inr (.inr bk))) else (some (.inl (⟨ad,am⟩:Scan))))) (cz (fun m=>Option.bind (BW m.s h m.pos) (fun v=>Option.bind ((ix F v).bind fun an=>if an=true then (some (⟨1,h,v⟩:Token)) else (some (⟨2,h,v⟩:Token))) (fun bs=>some (.inl (bs,true,m.s,m.pos))))) (fun y=>some y)))
theorem kT {F:Nat} {am:Str} {m:Int} {r:(Token×Bool×Str×Int)⊕Problem} (h:bY F am m=some r):eZ prog (ax mx) 79 [(1,.box 149 [.str am,.i m])] [.ptr 1 0] (IsP r (fun (r:Token×Bool×Str×Int)=>[(1,.box 149 [.str r.2.2.1,.i r.2.2.2])]) (fun (r:Token×Bool×Str×Int)=>.lC [.agg (bz r.1),.one (.bool r.2.1)])) (I3 r (fun p:Problem=>.iface 38 (.agg #[.int .i64 p.At,.int .i64 p.E])) (fun p:Problem=>mf .i64 p.At/\mf .i64 p.E)):=by
 unfold bY at h
 refine eZ.intro 38 Tryz.func79 Tryz.ntmps79 rfl (by simp) fun E=>(ah.seq (ah.ae ?_))
 refine Oc (cE (k:=101) kI rfl) (Oc oa (aj.aV ⟨[(0,Pt 1 0),(2,Pt 101 0)],[(1,.box 149 [.str am,.i m]),(101,.box 91 [.i 0,.i 0,.str []])]⟩ rfl (ah.seq (ah.ae ?_))))
 refine Oc om (Oc (aw rfl) (Oc (ay bo rfl rfl) (Oc (aJ cX rfl rfl rfl) (Oc oa (aj.aV ⟨[(0,_),(2,_),(4,I m)],[(1,_),(101,_)]⟩ rfl (ah.seq (ah.seq (ah.ae ?_))))))))
 refine Oc om ?_
 obtain⟨bs,e1,h⟩:=aK h
 refine Oc (dN (own_a:=[(1,_)]) (bE e1) nf rfl ⟨rfl,trivial⟩ rfl rfl) ?_
 obtain⟨bi,e2,h⟩:=aK h
 refine Oc (cy (lW e2) DH rfl rfl) (Oc (C' rfl) (aj.aV ⟨[(0,_),(2,_),(4,_),(13,B (!bi))],[(1,_),(101,_)]⟩ rfl (ah.ite h rfl (fun _ h=>?_) (fun _ h=>?_))))
 refine ah.seq (ah.ae ?_)
 refine Oc (iI jS rfl rfl) (Oc (aX dh rfl rfl rfl rfl (zab rfl) rfl) (Oc oa (aj.aV ⟨[(2,_),(3,B false)],[(1,_),(101,_)]⟩ rfl (ah.ret (Fin.cx ?_)))))
 obtain rfl:=zaa h
 refine Fin.aF ⟨[(2,_),(3,_)],[(1,_),(101,_)]⟩ rfl (Fin.F9 (.inl rfl) ?_)
 exact Fin.rJ [1] [.agg [.i 0,.i 0,.str []],.one (.bool false)] (.inl rfl) rfl (.cons (.En (.agg dh rfl rfl rfl rfl)) (.cons (.En (.tmp rfl)) .nil)) ⟨_,rfl,rfl,rfl⟩
 refine ah.skip (Fin.aF ⟨[(0,_),(2,_),(4,_)],[(1,_),(101,_)]⟩ rfl (Fin.then ?_))
 obtain⟨v3,h4,h⟩:=aK h
 refine ah.o8 (v:=v3) (fun (y:Scan)=>⟨[(0,Pt 1 0),(2,Pt 101 0),(4,I m)],[(1,.box 149 (kH y)),(101,.box 91 [.i 0,.i 0,.str []])]⟩) (fun z=>.inl z) ?_ ?_
 refine ah.seq (ah.ae ?_)
 refine Oc om ?_
 obtain⟨⟨bk,an,bb⟩,e5,h4⟩:=aK h4
 refine Oc (dN (own_a:=[(1,_)]) (dU e5) wA rfl ⟨rfl,trivial⟩ rfl rfl) (Oc (pe rfl rfl) (aj.aV ⟨[(0,_),(2,_),(4,_),(17,B (decide (32<bk)))],[(1,.box 149 [.str an,.i bb]),(101,_)]⟩ rfl (ah.ite h4 rfl (fun _ h4=>?_) (fun _ h4=>?_))))
 refine ah.ae (Oc om (Oc om ?_))
 obtain⟨b0,e6,h4⟩:=aK h4
 refine aj.uh (own_a:=[(1,_)]) (cr e6) rL rfl ⟨rfl,trivial⟩ (fun hok=>?_)
 obtain rfl:=zaa h4
 refine Fin.bC ?_
 obtain rfl:=zaa h
 exact Fin.qF ⟨_,rfl,rfl,hok⟩
 refine ah.skip ?_
 exact Fin.join [0,2,4] [1,101] (⟨an,bb⟩:Scan) (zaa h4) rfl
 rintro y hv
 subst v3
 refine ah.seq (ah.aF ⟨[(0,_),(2,_),(4,_)],[(1,_),(101,_)]⟩ rfl ?_)
 obtain⟨ac,e7,h⟩:=aK h
 refine ah.zN mixed [false,false,false,false,false,false,false,false,false,false,false,false,true,true] [I m,Pt 1 0,Pt 1 0,Pt 1 0,.b (.one (.str y.s)),I m,Pt 1 0,Pt 1 0,Pt 1 1,I y.pos,.b (.one (.str ac)),.b (.agg [.i 2,.i m,.str ac]),Pt 102 0,B true] [⟨[false,false,false,false,false,false,false,false,false,false,false,false,false,false],[(0,Pt 1 0),(2,Pt 101 0),(4,I m)],[(1,.box 149 (kH y)),(101,.box 91 [.i 0,.i 0,.str []])],[true,true,true,true,true,true,true,true,true,true,true,true,true,true],[],[13]⟩,⟨[false,false,false,false,false,false,false,false,false,false,false,false,true,false],[(0,Pt 1 0),(2,Pt 101 0),(4,I m)],[(1,.box 149 (kH y)),(101,.box 91 [.i 0,.i 0,.str []]),(102,.box 91 [.i 0,.i 0,.str []])],[true,true,true,true,true,true,true,true,true,true,true,true,true,true],[12],[]⟩,⟨[false,false,false,false,false,false,false,false,false,false,false,false,true,true],[(0,Pt 1 0),(2,Pt 101 0),(4,I m)],[(1,.box 149 (kH y)),(101,.box 91 [.i 0,.i 0,.str []]),(102,.box 91 [.i 2,.i m,.str ac])],[true,true,true,true,true,true,true,true,true,true,true,true,true,true],[0,1,2,3,4,5,6,7,8,9,10,11,12,13],[]⟩] rfl (⟨by kernel_rfl,⟨⟨I m,fun _=>rfl,fun _=>.p (by exact cK rfl)⟩,⟨Pt 1 0,fun _=>rfl,fun _=>.p (by exact cK rfl)⟩,⟨Pt 1 0,fun _=>rfl,fun _=>.p (by exact aw rfl)⟩,⟨Pt 1 0,fun _=>rfl,fun _=>.p (by exact ay fH rfl rfl)⟩,⟨.b (.one (.str y.s)),fun _=>rfl,fun _=>.p (by exact aJ gV rfl rfl rfl)⟩,⟨I m,fun _=>rfl,fun _=>.p (by exact cK rfl)⟩,⟨Pt 1 0,fun _=>rfl,fun _=>.p (by exact cK rfl)⟩,⟨Pt 1 0,fun _=>rfl,fun _=>.p (by exact aw rfl)⟩,⟨Pt 1 1,fun _=>rfl,fun _=>.p (by exact ay bo rfl rfl)⟩,⟨I y.pos,fun _=>rfl,fun _=>.p (by exact aJ cX rfl rfl rfl)⟩,⟨.b (.one (.str ac)),fun _=>rfl,fun _=>.p (by exact oU o6 e7 rfl rfl rfl)⟩,⟨.b (.agg [.i 2,.i m,.str ac]),fun _=>rfl,fun _=>.p (by exact iI jS rfl rfl)⟩,⟨_,[102],Pt 102 0,rfl,fun _=>rfl,rfl,rfl,fun _=>.IP [1,101,102] (by exact .p (by exact cE (k:=102) kI rfl)) (by exact rfl)⟩,trivial,trivial⟩,⟨by kernel_rfl,⟨⟨I m,fun _=>rfl,fun _=>.p (by exact cK rfl)⟩,⟨Pt 1 0,fun _=>rfl,fun _=>.p (by exact cK rfl)⟩,⟨Pt 1 0,fun _=>rfl,fun _=>.p (by exact aw rfl)⟩,⟨Pt 1 0,fun _=>rfl,fun _=>.p (by exact ay fH rfl rfl)⟩,⟨.b (.one (.str y.s)),fun _=>rfl,fun _=>.p (by exact aJ gV rfl rfl rfl)⟩,⟨I m,fun _=>rfl,fun _=>.p (by exact cK rfl)⟩,⟨Pt 1 0,fun _=>rfl,fun _=>.p (by exact cK rfl)⟩,⟨Pt 1 0,fun _=>rfl,fun _=>.p (by exact aw rfl)⟩,⟨Pt 1 1,fun _=>rfl,fun _=>.p (by exact ay bo rfl rfl)⟩,⟨I y.pos,fun _=>rfl,fun _=>.p (by exact aJ cX rfl rfl rfl)⟩,⟨.b (.one (.str ac)),fun _=>rfl,fun _=>.p (by exact oU o6 e7 rfl rfl rfl)⟩,⟨.b (.agg [.i 2,.i m,.str ac]),fun _=>rfl,fun _=>.p (by exact iI jS rfl rfl)⟩,trivial,⟨_,[],.b (.one .any),rfl,(fun e=>by simp at e),rfl,rfl,fun _=>.IP [1,101,102] (by exact .p (by exact aX dh rfl rfl rfl rfl (zab rfl) rfl)) (by exact rfl)⟩,trivial⟩,⟨by kernel_rfl,⟨trivial,trivial,trivial,trivial,trivial,trivial,trivial,trivial,trivial,trivial,trivial,trivial,trivial,trivial,trivial⟩,trivial⟩⟩⟩) rfl rfl rfl [2,5] [1,101,102] (s':=⟨[(2,_),(5,Pt 102 0)],[(1,_),(101,_),(102,.box 91 [.i 2,.i m,.str ac])]⟩) rfl ?_
 obtain⟨v8,h9,h⟩:=aK h
 refine ah.o8 (v:=v8) (fun (ad:Token)=>⟨[(2,Pt 101 0),(5,Pt 102 0)],[(1,.box 149 (kH y)),(101,.box 91 [.i 0,.i 0,.str []]),(102,.box 91 (bz ad))]⟩) (fun z=>z) ?_ ?_
 refine ah.seq (ah.ae ?_)
 refine Oc (ay I9 rfl rfl) (Oc (aJ gV rfl rfl rfl) ?_)
 obtain⟨be,e10,h9⟩:=aK h9
 refine Oc (cy (zF e10) goes130 rfl rfl) (aj.aV ⟨[(2,_),(5,_),(35,B be)],[(1,_),(101,_),(102,_)]⟩ rfl (ah.ite h9 rfl (fun _ h9=>?_) (fun _ h9=>?_)))
 refine ah.ae (Oc (ay I' rfl rfl) (Oc (ee cX rfl rfl rfl (zab rfl) rfl) (aj.nil ?_)))
 exact Fin.join [2,5] [1,101,102] (⟨1,m,ac⟩:Token) (zaa h9) rfl
 refine ah.skip ?_
 exact Fin.join [2,5] [1,101,102] (⟨2,m,ac⟩:Token) (zaa h9) rfl
 rintro ad hv
 subst v8
 refine ah.seq (ah.ae ?_)
 refine Oc (lp dh) (Oc (aX dh rfl rfl rfl rfl (zab rfl) rfl) (Oc oa (aj.aV ⟨[(2,_),(3,B true)],[(1,_),(101,.box 91 (bz ad))]⟩ rfl (ah.ret ?_))))
 obtain rfl:=zaa h
 refine Fin.aF ⟨[(2,_),(3,_)],[(1,_),(101,_)]⟩ rfl (Fin.F9 (.inl rfl) ?_)
 exact Fin.rJ [1] [.agg (bz ad),.one (.bool true)] (.inl rfl) rfl (.cons (.En (.agg dh rfl rfl rfl rfl)) (.cons (.En (.tmp rfl)) .nil)) ⟨_,rfl,rfl,rfl⟩
theorem ru {F:Nat} {v:Str} {m:Int} {r:Token×Bool×Str×Int} (h:bY F v m=some (.inl r)):aI prog (ax mx) 79 [(1,.box 149 [.str v,.i m])] [.ptr 1 0] (Is [(1,.box 149 [.str r.2.2.1,.i r.2.2.2])] (.lC [.agg (bz r.1),.one (.bool r.2.1)])):=(kT h).spec
theorem sq {F:Nat} {v:Str} {m:Int} {p:Problem} (h:bY F v m=some (.inr p)):ij prog (ax mx) 79 [(1,.box 149 [.str v,.i m])] [.ptr 1 0] ((fun p:Problem=>.iface 38 (.agg #[.int .i64 p.At,.int .i64 p.E])) p) ((fun p:Problem=>mf .i64 p.At/\mf .i64 p.E) p):=(kT h).Hu
def bP (F:Nat) (co:Str) (m:Int):Option ((Token×Bool×Str×Int)⊕Problem) :=
 Option.bind (b5 F 128 co m) (Hl fun ad v ac=>if (decide (ad=0))=true then (some (.inl ((⟨0,0,[]⟩:Token),false,v,ac))) else (Option.bind ((bp F v ac).bind fun be=>(aW ((decide (be=46))&&(decide ((i64.wrap (ac+1))<(v.length:Int)))) (aD v (i64.wrap (ac+1)))).bind fun ce=>(aW ((decide (be=46))&&(decide ((i64.wrap (ac+1))<(v.length:Int)))) (gK F (ce.toNat:Int))).bind fun ch=>if (((decide (be=46))&&(decide ((i64.wrap (ac+1))<(v.length:Int))))&&ch)=true then (Option.bind (b5 F 128 v (i64.wrap (ac+1))) (Hl fun ci bi bk=>some ((⟨bi,bk⟩:Scan),ci))) else (some ((⟨v,ac⟩:Scan),0))) (qz fun h an=>Option.bind (if (decide (40<(i64.wrap (ad+an))))=true then ((bq F m 2 h.s h.pos).bind fun bs=>some (.inr (.inr bs))) else ((aW (decide (1<ad)) (aD h.s m)).bind fun am=>(aW (!((decide (1<ad))&&(decide ((am.toNat:Int)=48)))) (bp F h.s h.pos)).bind fun b0=>(aW (!((decide (1<ad))&&(decide ((am.toNat:Int)=48)))) (eO F b0)).bind fun b1=>bA (((decide (1<ad))&&(decide ((am.toNat:Int)=48)))||b1) fun bb=>(aW (!bb) (bp F h.s h.pos)).bind fun b2=>if (bb||(decide (b2=95)))=true then ((bq F m 281 h.s h.pos).bind fun b3=>some (.inr (.inr b3))) else (some (.inl ())))) (cz (fun _=>Option.bind (BW h.s m h.pos) (fun cd=>some (.inl ((⟨3,m,cd⟩:Token),true,h.s,h.pos)))) (fun y=>some y)))))
theorem jI {F:Nat} {b0:Str} {ad:Int} {r:(Token×Bool×Str×Int)⊕Problem} (h:bP F b0 ad=some r):eZ prog (ax mx) 80 [(1,.box 149 [.str b0,.i ad])] [.ptr 1 0] (IsP r (fun (r:Token×Bool×Str×Int)=>[(1,.box 149 [.str r.2.2.1,.i r.2.2.2])]) (fun (r:Token×Bool×Str×Int)=>.lC [.agg (bz r.1),.one (.bool r.2.1)])) (I3 r (fun p:Problem=>.iface 38 (.agg #[.int .i64 p.At,.int .i64 p.E])) (fun p:Problem=>mf .i64 p.At/\mf .i64 p.E)):=by
 unfold bP at h
 refine eZ.intro 99 Tryz.func80 Tryz.ntmps80 rfl (by simp) fun E=>(ah.seq (ah.ae ?_))
 refine Oc (cE (k:=101) kI rfl) (Oc oa (aj.aV ⟨[(0,Pt 1 0),(2,Pt 101 0)],[(1,.box 149 [.str b0,.i ad]),(101,.box 91 [.i 0,.i 0,.str []])]⟩ rfl (ah.seq (ah.ae ?_))))
 refine Oc om (Oc (aw rfl) (Oc (ay bo rfl rfl) (Oc (aJ cX rfl rfl rfl) (Oc oa (aj.aV ⟨[(0,_),(2,_),(4,I ad)],[(1,_),(101,_)]⟩ rfl (ah.seq (ah.ae ?_)))))))
 refine Oc om ?_
 obtain⟨⟨am,ac,y⟩,e1,h⟩:=aK h
 refine Oc (dN (own_a:=[(1,_)]) (dU e1) wA rfl ⟨rfl,trivial⟩ rfl rfl) (Oc oa (aj.aV ⟨[(0,_),(2,_),(4,_),(5,I am)],[(1,.box 149 [.str ac,.i y]),(101,_)]⟩ rfl (ah.seq (ah.seq (ah.ae ?_)))))
 refine Oc om (Oc (n3 rfl rfl) (aj.aV ⟨[(0,_),(2,_),(4,_),(5,_),(14,B (decide (am=0)))],[(1,_),(101,_)]⟩ rfl (ah.ite h rfl (fun _ h=>?_) (fun _ h=>?_))))
 refine ah.seq (ah.ae ?_)
 refine Oc (iI jS rfl rfl) (Oc (aX dh rfl rfl rfl rfl (zab rfl) rfl) (Oc oa (aj.aV ⟨[(2,_),(3,B false)],[(1,_),(101,_)]⟩ rfl (ah.ret (Fin.cx ?_)))))
 obtain rfl:=zaa h
 refine Fin.aF ⟨[(2,_),(3,_)],[(1,_),(101,_)]⟩ rfl (Fin.F9 (.inl rfl) ?_)
 exact Fin.rJ [1] [.agg [.i 0,.i 0,.str []],.one (.bool false)] (.inl rfl) rfl (.cons (.En (.agg dh rfl rfl rfl rfl)) (.cons (.En (.tmp rfl)) .nil)) ⟨_,rfl,rfl,rfl⟩
 refine ah.skip (Fin.aF ⟨[(0,_),(2,_),(4,_),(5,_)],[(1,_),(101,_)]⟩ rfl (Fin.then (ah.seq (ah.ae ?_))))
 refine Oc oa (aj.aV ⟨[(0,_),(2,_),(4,_),(5,_),(6,I 0)],[(1,_),(101,_)]⟩ rfl ?_)
 obtain⟨v2,h3,h⟩:=aK h
 refine ah.o8 (v:=v2) (qz fun (bk:Scan) (bb:Int)=>⟨[(0,Pt 1 0),(2,Pt 101 0),(4,I ad),(5,I am),(6,I bb)],[(1,.box 149 (kH bk)),(101,.box 91 [.i 0,.i 0,.str []])]⟩) (fun z=>z) ?_ ?_
 refine ah.seq (ah.aF ⟨[(0,_),(2,_),(4,_),(5,_),(6,_)],[(1,_),(101,_)]⟩ rfl ?_)
 obtain⟨m,e4,h3⟩:=aK h3
 obtain⟨b1,e5,h3⟩:=aK h3
 obtain⟨bs,e6,h3⟩:=aK h3
 refine ah.zN mixed [false,true,false,false,false,false,false,false,false,false,false,false,false,false,false,false,false,false,false,false,false,false,false,false,false,false,false,false,false] [Pt 1 0,.b (.one (.int .u8 m)),B (decide (m=46)),B (decide (m=46)),.opt (decide (m=46)) (.ptr 1 0),.opt (decide (m=46)) (.ptr 1 0),.opt (decide (m=46)) (.ptr 1 1),.opt (decide (m=46)) (.one (.i y)),.opt (decide (m=46)) (.one (.i (i64.wrap (y+1)))),.opt (decide (m=46)) (.ptr 1 0),.opt (decide (m=46)) (.ptr 1 0),.opt (decide (m=46)) (.ptr 1 0),.opt (decide (m=46)) (.one (.str ac)),.opt (decide (m=46)) (.one (.i (ac.length:Int))),.opt (decide (m=46)) (.one (.bool (decide ((i64.wrap (y+1))<(ac.length:Int))))),B ((decide (m=46))&&(decide ((i64.wrap (y+1))<(ac.length:Int)))),B ((decide (m=46))&&(decide ((i64.wrap (y+1))<(ac.length:Int)))),.opt ((decide (m=46))&&(decide ((i64.wrap (y+1))<(ac.length:Int)))) (.ptr 1 0),.opt ((decide (m=46))&&(decide ((i64.wrap (y+1))<(ac.length:Int)))) (.ptr 1 0),.opt ((decide (m=46))&&(decide ((i64.wrap (y+1))<(ac.length:Int)))) (.ptr 1 0),.opt ((decide (m=46))&&(decide ((i64.wrap (y+1))<(ac.length:Int)))) (.one (.str ac)),.opt ((decide (m=46))&&(decide ((i64.wrap (y+1))<(ac.length:Int)))) (.ptr 1 0),.opt ((decide (m=46))&&(decide ((i64.wrap (y+1))<(ac.length:Int)))) (.ptr 1 0),.opt ((decide (m=46))&&(decide ((i64.wrap (y+1))<(ac.length:Int)))) (.ptr 1 1),.opt ((decide (m=46))&&(decide ((i64.wrap (y+1))<(ac.length:Int)))) (.one (.i y)),.opt ((decide (m=46))&&(decide ((i64.wrap (y+1))<(ac.length:Int)))) (.one (.i (i64.wrap (y+1)))),.opt ((decide (m=46))&&(decide ((i64.wrap (y+1))<(ac.length:Int)))) (.one (.int .u8 (b1.toNat:Int))),.opt ((decide (m=46))&&(decide ((i64.wrap (y+1))<(ac.length:Int)))) (.one (.bool bs)),B (((decide (m=46))&&(decide ((i64.wrap (y+1))<(ac.length:Int))))&&bs)] [⟨[false,false,false,false,false,false,false,false,false,false,false,false,false,false,false,false,false,false,false,false,false,false,false,false,false,false,false,false,false],[(0,Pt 1 0),(2,Pt 101 0),(4,I ad),(5,I am),(6,I 0)],[(1,.box 149 [.str ac,.i y]),(101,.box 91 [.i 0,.i 0,.str []])],[true,true,true,true,true,true,true,true,true,true,true,true,true,true,true,true,true,true,true,true,true,true,true,true,true,true,true,true,true],[],[2,3,4,5,6,7,8,9,10,11,12,13,14,15,16,17,18,19,20,21,22,23,24,25,26,27,28]⟩,⟨[false,true,false,false,false,false,false,false,false,false,false,false,false,false,false,false,false,false,false,false,false,false,false,false,false,false,false,false,false],[(0,Pt 1 0),(2,Pt 101 0),(4,I ad),(5,I am),(6,I 0)],[(1,.box 149 [.str ac,.i y]),(101,.box 91 [.i 0,.i 0,.str []])],[true,true,true,true,true,true,true,true,true,true,true,true,true,true,true,true,true,true,true,true,true,true,true,true,true,true,true,true,true],[0,1],[]⟩] rfl (⟨by kernel_rfl,⟨⟨Pt 1 0,fun _=>rfl,fun _=>.p (by exact cK rfl)⟩,⟨_,[],.b (.one (.int .u8 m)),rfl,fun _=>rfl,rfl,rfl,fun _=>.IP [1,101] (by exact .p (by exact dN (own_a:=[(1,_)]) (bE e4) nf rfl ⟨rfl,trivial⟩ rfl rfl)) (by exact rfl)⟩,trivial,trivial,trivial,trivial,trivial,trivial,trivial,trivial,trivial,trivial,trivial,trivial,trivial,trivial,trivial,trivial,trivial,trivial,trivial,trivial,trivial,trivial,trivial,trivial,trivial,trivial,trivial,trivial⟩,⟨by kernel_rfl,⟨trivial,trivial,⟨B (decide (m=46)),fun _=>rfl,fun _=>.p (by exact n3 rfl rfl)⟩,⟨B (decide (m=46)),fun _=>rfl,fun _=>.p (by exact cK rfl)⟩,⟨.opt (decide (m=46)) (.ptr 1 0),fun _=>rfl,fun _=>by exact .guard (decide (m=46)) 1 [] (.plain rfl) (jL _) rfl rfl (fun gg4=>trivial) (fun gg4=>om)⟩,⟨.opt (decide (m=46)) (.ptr 1 0),fun _=>rfl,fun _=>by exact .guard (decide (m=46)) 2 [20] (.plain rfl) (jL _) rfl rfl (fun gg5=>⟨gg5,trivial⟩) (fun gg5=>aw rfl)⟩,⟨.opt (decide (m=46)) (.ptr 1 1),fun _=>rfl,fun _=>by exact .guard (decide (m=46)) 2 [21] (.plain rfl) (jL _) rfl rfl (fun gg6=>⟨gg6,trivial⟩) (fun gg6=>ay bo rfl rfl)⟩,⟨.opt (decide (m=46)) (.one (.i y)),fun _=>rfl,fun _=>by exact .guard (decide (m=46)) 2 [22] (.plain rfl) (jL _) rfl rfl (fun gg7=>⟨gg7,trivial⟩) (fun gg7=>aJ cX rfl rfl rfl)⟩,⟨.opt (decide (m=46)) (.one (.i (i64.wrap (y+1)))),fun _=>rfl,fun _=>by exact .guard (decide (m=46)) 2 [23] (.plain rfl) (jL _) rfl rfl (fun gg8=>⟨gg8,trivial⟩) (fun gg8=>eM rfl rfl)⟩,⟨.opt (decide (m=46)) (.ptr 1 0),fun _=>rfl,fun _=>by exact .guard (decide (m=46)) 1 [] (.plain rfl) (jL _) rfl rfl (fun gg9=>trivial) (fun gg9=>om)⟩,⟨.opt (decide (m=46)) (.ptr 1 0),fun _=>rfl,fun _=>by exact .guard (decide (m=46)) 2 [25] (.plain rfl) (jL _) rfl rfl (fun gg10=>⟨gg10,trivial⟩) (fun gg10=>aw rfl)⟩,⟨.opt (decide (m=46)) (.ptr 1 0),fun _=>rfl,fun _=>by exact .guard (decide (m=46)) 2 [26] (.plain rfl) (jL _) rfl rfl (fun gg11=>⟨gg11,trivial⟩) (fun gg11=>ay fH rfl rfl)⟩,⟨.opt (decide (m=46)) (.one (.str ac)),fun _=>rfl,fun _=>by exact .guard (decide (m=46)) 2 [27] (.plain rfl) (jL _) rfl rfl (fun gg12=>⟨gg12,trivial⟩) (fun gg12=>aJ gV rfl rfl rfl)⟩,⟨.opt (decide (m=46)) (.one (.i (ac.length:Int))),fun _=>rfl,fun _=>by exact .guard (decide (m=46)) 2 [28] (.plain rfl) (jL _) rfl rfl (fun gg13=>⟨gg13,trivial⟩) (fun gg13=>gJ o6 rfl)⟩,⟨.opt (decide (m=46)) (.one (.bool (decide ((i64.wrap (y+1))<(ac.length:Int))))),fun _=>rfl,fun _=>by exact .guard (decide (m=46)) 3 [24,29] (.plain rfl) (jL _) rfl rfl (fun gg14=>⟨gg14,gg14,trivial⟩) (fun gg14=>lJ rfl rfl)⟩,⟨B ((decide (m=46))&&(decide ((i64.wrap (y+1))<(ac.length:Int)))),fun _=>rfl,fun _=>.p (by exact gn (fun e=>e) rfl rfl rfl rfl)⟩,⟨B ((decide (m=46))&&(decide ((i64.wrap (y+1))<(ac.length:Int)))),fun _=>rfl,fun _=>.p (by exact cK rfl)⟩,⟨.opt ((decide (m=46))&&(decide ((i64.wrap (y+1))<(ac.length:Int)))) (.ptr 1 0),fun _=>rfl,fun _=>by exact .guard ((decide (m=46))&&(decide ((i64.wrap (y+1))<(ac.length:Int)))) 1 [] (.plain rfl) (jL _) rfl rfl (fun gg17=>trivial) (fun gg17=>om)⟩,⟨.opt ((decide (m=46))&&(decide ((i64.wrap (y+1))<(ac.length:Int)))) (.ptr 1 0),fun _=>rfl,fun _=>by exact .guard ((decide (m=46))&&(decide ((i64.wrap (y+1))<(ac.length:Int)))) 2 [33] (.plain rfl) (jL _) rfl rfl (fun gg18=>⟨gg18,trivial⟩) (fun gg18=>aw rfl)⟩,⟨.opt ((decide (m=46))&&(decide ((i64.wrap (y+1))<(ac.length:Int)))) (.ptr 1 0),fun _=>rfl,fun _=>by exact .guard ((decide (m=46))&&(decide ((i64.wrap (y+1))<(ac.length:Int)))) 2 [34] (.plain rfl) (jL _) rfl rfl (fun gg19=>⟨gg19,trivial⟩) (fun gg19=>ay fH rfl rfl)⟩,⟨.opt ((decide (m=46))&&(decide ((i64.wrap (y+1))<(ac.length:Int)))) (.one (.str ac)),fun _=>rfl,fun _=>by exact .guard ((decide (m=46))&&(decide ((i64.wrap (y+1))<(ac.length:Int)))) 2 [35] (.plain rfl) (jL _) rfl rfl (fun gg20=>⟨gg20,trivial⟩) (fun gg20=>aJ gV rfl rfl rfl)⟩,⟨.opt ((decide (m=46))&&(decide ((i64.wrap (y+1))<(ac.length:Int)))) (.ptr 1 0),fun _=>rfl,fun _=>by exact .guard ((decide (m=46))&&(decide ((i64.wrap (y+1))<(ac.length:Int)))) 1 [] (.plain rfl) (jL _) rfl rfl (fun gg21=>trivial) (fun gg21=>om)⟩,⟨.opt ((decide (m=46))&&(decide ((i64.wrap (y+1))<(ac.length:Int)))) (.ptr 1 0),fun _=>rfl,fun _=>by exact .guard ((decide (m=46))&&(decide ((i64.wrap (y+1))<(ac.length:Int)))) 2 [37] (.plain rfl) (jL _) rfl rfl (fun gg22=>⟨gg22,trivial⟩) (fun gg22=>aw rfl)⟩,⟨.opt ((decide (m=46))&&(decide ((i64.wrap (y+1))<(ac.length:Int)))) (.ptr 1 1),fun _=>rfl,fun _=>by exact .guard ((decide (m=46))&&(decide ((i64.wrap (y+1))<(ac.length:Int)))) 2 [38] (.plain rfl) (jL _) rfl rfl (fun gg23=>⟨gg23,trivial⟩) (fun gg23=>ay bo rfl rfl)⟩,⟨.opt ((decide (m=46))&&(decide ((i64.wrap (y+1))<(ac.length:Int)))) (.one (.i y)),fun _=>rfl,fun _=>by exact .guard ((decide (m=46))&&(decide ((i64.wrap (y+1))<(ac.length:Int)))) 2 [39] (.plain rfl) (jL _) rfl rfl (fun gg24=>⟨gg24,trivial⟩) (fun gg24=>aJ cX rfl rfl rfl)⟩,⟨.opt ((decide (m=46))&&(decide ((i64.wrap (y+1))<(ac.length:Int)))) (.one (.i (i64.wrap (y+1)))),fun _=>rfl,fun _=>by exact .guard ((decide (m=46))&&(decide ((i64.wrap (y+1))<(ac.length:Int)))) 2 [40] (.plain rfl) (jL _) rfl rfl (fun gg25=>⟨gg25,trivial⟩) (fun gg25=>eM rfl rfl)⟩,⟨.opt ((decide (m=46))&&(decide ((i64.wrap (y+1))<(ac.length:Int)))) (.one (.int .u8 (b1.toNat:Int))),fun _=>rfl,fun _=>by exact .guard ((decide (m=46))&&(decide ((i64.wrap (y+1))<(ac.length:Int)))) 3 [36,41] (.plain rfl) (jL _) rfl rfl (fun gg26=>⟨gg26,gg26,trivial⟩) (fun gg26=>iv o6 rfl rfl (fE (gc e5 gg26)) (pg (gc e5 gg26)))⟩,⟨.opt ((decide (m=46))&&(decide ((i64.wrap (y+1))<(ac.length:Int)))) (.one (.bool bs)),fun _=>rfl,fun _=>by exact .guard ((decide (m=46))&&(decide ((i64.wrap (y+1))<(ac.length:Int)))) 3 [42] (.plain rfl) (jL _) rfl rfl (fun gg27=>⟨gg27,trivial⟩) (fun gg27=>cy (m' (gc e6 gg27)) DG rfl rfl)⟩,⟨B (((decide (m=46))&&(decide ((i64.wrap (y+1))<(ac.length:Int))))&&bs),fun _=>rfl,fun _=>.p (by exact gn (fun e=>e) rfl rfl rfl rfl)⟩,trivial⟩,trivial⟩⟩) rfl rfl rfl [0,2,4,5,6,44] [1,101] (s':=⟨[(0,_),(2,_),(4,_),(5,_),(6,_),(44,B (((decide (m=46))&&(decide ((i64.wrap (y+1))<(ac.length:Int))))&&bs))],[(1,_),(101,_)]⟩) rfl ?_
 refine ah.ite h3 rfl (fun _ h3=>?_) (fun _ h3=>?_)
 refine ah.seq (ah.ae ?_)
 refine Oc om (Oc (aw rfl) (Oc (ay bo rfl rfl) (Oc (aJ cX rfl rfl rfl) (Oc (eM rfl rfl) (Oc (aw rfl) ?_)))))
 refine Oc (ay bo rfl rfl) (Oc (ee cX rfl rfl rfl (zab rfl) rfl) (aj.aV ⟨[(0,_),(2,_),(4,_),(5,_)],[(1,.box 149 [.str ac,.i (i64.wrap (y+1))]),(101,_)]⟩ rfl (ah.ae (Oc om ?_))))
 obtain⟨⟨ce,b2,b3⟩,e7,h3⟩:=aK h3
 refine Oc (dN (own_a:=[(1,_)]) (dU e7) wA rfl ⟨rfl,trivial⟩ rfl rfl) (Oc oa (aj.nil ?_))
 exact Fin.join [0,2,4,5,6] [1,101] ((⟨b2,b3⟩:Scan),ce) (zaa h3) rfl
 refine ah.skip ?_
 exact Fin.join [0,2,4,5,6] [1,101] ((⟨ac,y⟩:Scan),0) (zaa h3) rfl
 rintro⟨bk,bb⟩ hv
 subst v2
 obtain⟨v8,h9,h⟩:=aK h
 refine ah.o8 (v:=v8) (fun (_:Unit)=>⟨[(0,Pt 1 0),(2,Pt 101 0),(4,I ad)],[(1,.box 149 (kH bk)),(101,.box 91 [.i 0,.i 0,.str []])]⟩) (fun z=>.inl z) ?_ ?_
 refine ah.block (ah.seq (ah.ae ?_))
 refine Oc om (Oc om (Oc (eM rfl rfl) (Oc (pe rfl rfl) (Oc oa (aj.aV ⟨[(0,_),(2,_),(4,_),(5,_),(54,B (decide (40<(i64.wrap (am+bb)))))],[(1,_),(101,_)]⟩ rfl (ah.ite h9 rfl (fun _ h9=>?_) (fun _ h9=>?_)))))))
 refine ah.ae (Oc om (Oc om ?_))
 obtain⟨ch,e10,h9⟩:=aK h9
 refine aj.uh (own_a:=[(1,_)]) (cr e10) rL rfl ⟨rfl,trivial⟩ (fun hok=>(Fin.b6 ?_))
 obtain rfl:=zaa h9
 refine Fin.bC ?_
 obtain rfl:=zaa h
 exact Fin.qF ⟨_,rfl,rfl,hok⟩
 refine ah.seq (ah.ae ?_)
 refine Oc om (Oc (pe rfl rfl) (Oc om ?_))
 refine JM (decide (1<am)) [] (fun g11=>trivial) (fun g11=>om) (JM (decide (1<am)) [66] (fun g12=>by exact⟨g12,trivial⟩) (fun g12=>aw rfl) (JM (decide (1<am)) [67] (fun g13=>by exact⟨g13,trivial⟩) (fun g13=>ay fH rfl rfl) (JM (decide (1<am)) [68] (fun g14=>by exact⟨g14,trivial⟩) (fun g14=>aJ gV rfl rfl rfl) (aj.aF ⟨[(0,_),(2,_),(4,_),(65,B (decide (1<am))),(69,.opt (decide (1<am)) (.one (.str bk.s)))],[(1,_),(101,_)]⟩ rfl (JM (decide (1<am)) [] (fun g15=>by exact trivial) (fun g15=>om) ?_)))))
 obtain⟨be,e17,h9⟩:=aK h9
 refine JM (decide (1<am)) [69,70] (fun g16=>⟨g16,g16,trivial⟩) (fun g16=>iv o6 rfl rfl (fE (gc e17 g16)) (pg (gc e17 g16))) (JM (decide (1<am)) [71] (fun g18=>⟨g18,trivial⟩) (fun g18=>n3 rfl rfl) (Oc (gn (fun e=>e) rfl rfl rfl rfl) (Oc om ?_)))
 refine BS (!((decide (1<am))&&(decide ((be.toNat:Int)=48)))) [] (fun g19=>trivial) (fun g19=>om) (aj.aF ⟨[(0,_),(2,_),(4,_),(74,B ((decide (1<am))&&(decide ((be.toNat:Int)=48)))),(75,.opt (!((decide (1<am))&&(decide ((be.toNat:Int)=48)))) (.ptr 1 0))],[(1,_),(101,_)]⟩ rfl ?_)
 obtain⟨ci,e21,h9⟩:=aK h9
 refine BS (!((decide (1<am))&&(decide ((be.toNat:Int)=48)))) [75] (fun g20=>⟨g20,trivial⟩) (fun g20=>AJ (own_a:=[(1,_)]) (bE (gc e21 g20)) nf rfl ⟨rfl,trivial⟩ rfl rfl rfl rfl rfl) ?_
 obtain⟨co,e23,h9⟩:=aK h9
 refine BS (!((decide (1<am))&&(decide ((be.toNat:Int)=48)))) [76] (fun g22=>⟨g22,trivial⟩) (fun g22=>cy (lW (gc e23 g22)) DH rfl rfl) (aj.Kl h9 rfl (fI (fun e=>by first|(rw[e];rfl)|(simp only at e;rw[e];rfl)) rfl rfl rfl rfl) (fun an h9=>?_))
 refine Oc om (BS (!an) [] (fun g24=>by exact trivial) (fun g24=>om) (aj.aF ⟨[(0,_),(2,_),(4,_),(79,B an),(80,.opt (!an) (.ptr 1 0))],[(1,_),(101,_)]⟩ rfl ?_))
 obtain⟨cd,e26,h9⟩:=aK h9
 refine BS (!an) [80] (fun g25=>⟨g25,trivial⟩) (fun g25=>AJ (own_a:=[(1,_)]) (bE (gc e26 g25)) nf rfl ⟨rfl,trivial⟩ rfl rfl rfl rfl rfl) (BS (!an) [81] (fun g27=>⟨g27,trivial⟩) (fun g27=>n3 rfl rfl) (Oc (fI (fun e=>by first|(rw[e];rfl)|(simp only at e;rw[e];rfl)) rfl rfl rfl rfl) (Oc oa (aj.aV ⟨[(0,_),(2,_),(4,_),(62,B (an||(decide (cd=95))))],[(1,_),(101,_)]⟩ rfl (ah.ite h9 rfl (fun _ h9=>?_) (fun _ h9=>?_))))))
 refine ah.ae (Oc om (Oc om ?_))
 obtain⟨cp,e28,h9⟩:=aK h9
 refine aj.uh (own_a:=[(1,_)]) (cr e28) rL rfl ⟨rfl,trivial⟩ (fun hok=>(Fin.b6 ?_))
 obtain rfl:=zaa h9
 refine Fin.bC ?_
 obtain rfl:=zaa h
 exact Fin.qF ⟨_,rfl,rfl,hok⟩
 refine ah.skip (Fin.bF ?_)
 exact Fin.join [0,2,4] [1,101] () (zaa h9) rfl
 rintro _ hv
 subst v8
 refine ah.seq (ah.aF ⟨[(0,_),(2,_),(4,_)],[(1,_),(101,_)]⟩ rfl ?_)
 obtain⟨bi,e29,h⟩:=aK h
 refine ah.oN mixed 12 [I ad,Pt 1 0,Pt 1 0,Pt 1 0,.b (.one (.str bk.s)),I ad,Pt 1 0,Pt 1 0,Pt 1 1,I bk.pos,.b (.one (.str bi)),.b (.agg [.i 3,.i ad,.str bi])] [2,3] [1,101] (s':=⟨[(2,_),(3,B true)],[(1,_),(101,.box 91 [.i 3,.i ad,.str bi])]⟩) rfl ⟨fun _=>.p om,fun _=>.p om,fun _=>.p (aw rfl),fun _=>.p (ay fH rfl rfl),fun _=>.p (aJ gV rfl rfl rfl),fun _=>.p om,fun _=>.p om,fun _=>.p (aw rfl),fun _=>.p (ay bo rfl rfl),fun _=>.p (aJ cX rfl rfl rfl),fun _=>.p (oU o6 e29 rfl rfl rfl),fun _=>.p (iI jS rfl rfl),trivial⟩ ⟨_,by exact .p (aX dh rfl rfl rfl rfl (zab rfl) rfl),⟨_,by exact .p oa,rfl⟩⟩ rfl (ah.ret ?_)
 obtain rfl:=zaa h
 refine Fin.aF ⟨[(2,_),(3,_)],[(1,_),(101,_)]⟩ rfl (Fin.F9 (.inl rfl) ?_)
 exact Fin.rJ [1] [.agg [.i 3,.i ad,.str bi],.one (.bool true)] (.inl rfl) rfl (.cons (.En (.agg dh rfl rfl rfl rfl)) (.cons (.En (.tmp rfl)) .nil)) ⟨_,rfl,rfl,rfl⟩
theorem pW {F:Nat} {v:Str} {m:Int} {r:Token×Bool×Str×Int} (h:bP F v m=some (.inl r)):aI prog (ax mx) 80 [(1,.box 149 [.str v,.i m])] [.ptr 1 0] (Is [(1,.box 149 [.str r.2.2.1,.i r.2.2.2])] (.lC [.agg (bz r.1),.one (.bool r.2.1)])):=(jI h).spec
theorem qT {F:Nat} {v:Str} {m:Int} {p:Problem} (h:bP F v m=some (.inr p)):ij prog (ax mx) 80 [(1,.box 149 [.str v,.i m])] [.ptr 1 0] ((fun p:Problem=>.iface 38 (.agg #[.int .i64 p.At,.int .i64 p.E])) p) ((fun p:Problem=>mf .i64 p.At/\mf .i64 p.E) p):=(jI h).Hu
def bX (F:Nat) (bk:Str) (m:Int):Option ((Token×Bool×Str×Int)⊕Problem) :=
 (bp F bk m).bind fun cd=>if (decide (cd≠34))=true then (some (.inl ((⟨0,0,[]⟩:Token),false,bk,m))) else (Option.bind (iter F (qz fun h v=>(bp F h.s h.pos).bind fun ce=>if (decide (ce≠34))=true then (Option.bind ((bp F h.s h.pos).bind fun bi=>Option.bind (if (decide (bi=92))=true then ((bp F h.s (i64.wrap (h.pos+1))).bind fun ac=>if ((decide (ac≠34))&&(decide (ac≠92)))=true then ((bq F m 280 h.s (i64.wrap (h.pos+1))).bind fun bs=>some (.inr (.inr bs))) else (some (.inl ((⟨h.s,i64.wrap (h.pos+1)⟩:Scan),ac)))) else (some (.inl (h,bi)))) (cz (qz fun ad am=>Option.bind (if ((decide (am<32))||(decide (126<am)))=true then ((bq F m 280 ad.s ad.pos).bind fun b0=>some (.inr (.inr b0))) else (some (.inl ()))) (cz (fun _=>(bU v [am]).bind fun b1=>some (.inl (ad,b1))) (fun y=>some (.inr y)))) (fun y=>some (.inr y)))) (cz (qz fun b2 bb=>some (.inl ((⟨b2.s,i64.wrap (b2.pos+1)⟩:Scan),bb))) (fun y=>some (.inr (.inr y))))) else (some (.inr (.inl (h,v))))) ((⟨bk,i64.wrap (m+1)⟩:Scan),[])) (cz (qz fun be an=>Option.bind (if (decide (80<(an.length:Int)))=true then ((bq F m 2 be.s (i64.wrap (be.pos+1))).bind fun b3=>some (.inr (.inr b3))) else (some (.inl ()))) (cz (fun _=>some (.inl ((⟨4,m,toStr an⟩:Token),true,be.s,i64.wrap (be.pos+1)))) (fun y=>some y))) (fun y=>some y)))
theorem kR {F:Nat} {bs:Str} {m:Int} {r:(Token×Bool×Str×Int)⊕Problem} (h:bX F bs m=some r):eZ prog (ax mx) 81 [(1,.box 149 [.str bs,.i m])] [.ptr 1 0] (IsP r (fun (r:Token×Bool×Str×Int)=>[(1,.box 149 [.str r.2.2.1,.i r.2.2.2])]) (fun (r:Token×Bool×Str×Int)=>.lC [.agg (bz r.1),.one (.bool r.2.1)])) (I3 r (fun p:Problem=>.iface 38 (.agg #[.int .i64 p.At,.int .i64 p.E])) (fun p:Problem=>mf .i64 p.At/\mf .i64 p.E)):=by
 unfold bX at h
 refine eZ.intro 84 Tryz.func81 Tryz.ntmps81 rfl (by simp) fun E=>(ah.seq (ah.ae ?_))
 refine Oc (cE (k:=101) kI rfl) (Oc oa (aj.aV ⟨[(0,Pt 1 0),(2,Pt 101 0)],[(1,.box 149 [.str bs,.i m]),(101,.box 91 [.i 0,.i 0,.str []])]⟩ rfl (ah.seq (ah.ae ?_))))
 refine Oc om (Oc (aw rfl) (Oc (ay bo rfl rfl) (Oc (aJ cX rfl rfl rfl) (Oc oa (aj.aV ⟨[(0,_),(2,_),(4,I m)],[(1,_),(101,_)]⟩ rfl (ah.seq (ah.seq (ah.ae ?_))))))))
 refine Oc om ?_
 obtain⟨b2,e1,h⟩:=aK h
 refine Oc (dN (own_a:=[(1,_)]) (bE e1) nf rfl ⟨rfl,trivial⟩ rfl rfl) (Oc (xO rfl rfl) (aj.aV ⟨[(0,_),(2,_),(4,_),(13,B (decide (b2≠34)))],[(1,_),(101,_)]⟩ rfl (ah.ite h rfl (fun _ h=>?_) (fun _ h=>?_))))
 refine ah.seq (ah.ae ?_)
 refine Oc (iI jS rfl rfl) (Oc (aX dh rfl rfl rfl rfl (zab rfl) rfl) (Oc oa (aj.aV ⟨[(2,_),(3,B false)],[(1,_),(101,_)]⟩ rfl (ah.ret (Fin.cx ?_)))))
 obtain rfl:=zaa h
 refine Fin.aF ⟨[(2,_),(3,_)],[(1,_),(101,_)]⟩ rfl (Fin.F9 (.inl rfl) ?_)
 exact Fin.rJ [1] [.agg [.i 0,.i 0,.str []],.one (.bool false)] (.inl rfl) rfl (.cons (.En (.agg dh rfl rfl rfl rfl)) (.cons (.En (.tmp rfl)) .nil)) ⟨_,rfl,rfl,rfl⟩
 refine ah.skip (Fin.aF ⟨[(0,_),(2,_),(4,_)],[(1,_),(101,_)]⟩ rfl (Fin.then (ah.seq (ah.ae ?_))))
 refine Oc oa (aj.aV ⟨[(0,_),(2,_),(4,_),(5,.b (.one (.nil)))],[(1,_),(101,_)]⟩ rfl ?_)
 obtain⟨v2,h3,h⟩:=aK h
 refine ah.o8 (v:=v2) (qz fun (bb:Scan) (y:List Int)=>⟨[(0,Pt 1 0),(2,Pt 101 0),(4,I m),(5,.b (.row 103))],[(1,.box 149 (kH bb)),(101,.box 91 [.i 0,.i 0,.str []]),(103,.row 5 1 (y.map (eK .u8)))]⟩) (fun z=>.inl z) ?_ ?_
 refine ah.seq (ah.ae ?_)
 refine Oc om (Oc (aw rfl) (Oc (ay bo rfl rfl) (Oc (aJ cX rfl rfl rfl) (Oc (eM rfl rfl) (Oc (aw rfl) ?_)))))
 refine Oc (ay bo rfl rfl) (Oc (ee cX rfl rfl rfl (zab rfl) rfl) (aj.aV ⟨[(0,_),(2,_),(4,_),(5,_)],[(1,.box 149 [.str bs,.i (i64.wrap (m+1))]),(101,_)]⟩ rfl (ah.block (ah.ko 5 103 1 5 rfl (by decide) rfl (ah.qX h3 (qz fun (be:Scan) (ad:List Int)=>⟨[(0,Pt 1 0),(2,Pt 101 0),(4,I m),(5,.b (.row 103))],[(1,.box 149 (kH be)),(101,.box 91 [.i 0,.i 0,.str []]),(103,.row 5 1 (ad.map (eK .u8)))]⟩) [0,2,4,5] [1,101,103] rfl ?_)))))
 rintro⟨be,ad⟩ o4 h5 hy6
 refine ah.seq (ah.seq (ah.ae ?_))
 refine Oc om ?_
 obtain⟨b3,e7,h5⟩:=aK h5
 refine Oc (dN (own_a:=[(1,_)]) (bE e7) nf rfl ⟨rfl,trivial⟩ rfl rfl) (Oc (xO rfl rfl) (aj.aV ⟨[(0,_),(2,_),(4,_),(5,_),(24,B (decide (b3≠34)))],[(1,_),(101,_),(103,_)]⟩ rfl (ah.ite h5 rfl (fun _ h5=>?_) (fun _ h5=>?_))))
 refine ah.skip (Fin.aF ⟨[(0,_),(2,_),(4,_),(5,_)],[(1,_),(101,_),(103,_)]⟩ rfl (Fin.then ?_))
 obtain⟨v8,h9,h5⟩:=aK h5
 refine ah.o8 (v:=v8) (qz fun (b0:Scan) (an:List Int)=>⟨[(0,Pt 1 0),(2,Pt 101 0),(4,I m),(5,.b (.row 103))],[(1,.box 149 (kH b0)),(101,.box 91 [.i 0,.i 0,.str []]),(103,.row 5 1 (an.map (eK .u8)))]⟩) (fun z=>.inl z) ?_ ?_
 refine ah.block (ah.seq (ah.ae ?_))
 refine Oc om ?_
 obtain⟨bk,e10,h9⟩:=aK h9
 refine Oc (dN (own_a:=[(1,_)]) (bE e10) nf rfl ⟨rfl,trivial⟩ rfl rfl) (Oc oa (aj.aV ⟨[(0,_),(2,_),(4,_),(5,_),(6,.b (.one (.int .u8 bk)))],[(1,_),(101,_),(103,_)]⟩ rfl ?_))
 obtain⟨v11,h12,h9⟩:=aK h9
 refine ah.o8 (v:=v11) (qz fun (bi:Scan) (ac:Int)=>⟨[(0,Pt 1 0),(2,Pt 101 0),(4,I m),(5,.b (.row 103)),(6,.b (.one (.int .u8 ac)))],[(1,.box 149 (kH bi)),(101,.box 91 [.i 0,.i 0,.str []]),(103,.row 5 1 (ad.map (eK .u8)))]⟩) (fun z=>.inl z) ?_ ?_
 refine ah.seq (ah.ae ?_)
 refine Oc om (Oc (n3 rfl rfl) (aj.aV ⟨[(0,_),(2,_),(4,_),(5,_),(6,_),(35,B (decide (bk=92)))],[(1,_),(101,_),(103,_)]⟩ rfl (ah.ite h12 rfl (fun _ h12=>?_) (fun _ h12=>?_))))
 refine ah.seq (ah.ae ?_)
 refine Oc om (Oc (aw rfl) (Oc (ay bo rfl rfl) (Oc (aJ cX rfl rfl rfl) (Oc (eM rfl rfl) (Oc (aw rfl) ?_)))))
 refine Oc (ay bo rfl rfl) (Oc (ee cX rfl rfl rfl (zab rfl) rfl) (aj.aV ⟨[(0,_),(2,_),(4,_),(5,_)],[(1,.box 149 [.str be.s,.i (i64.wrap (be.pos+1))]),(101,_),(103,_)]⟩ rfl (ah.seq (ah.ae ?_))))
 refine Oc om ?_
 obtain⟨am,e13,h12⟩:=aK h12
 refine Oc (dN (own_a:=[(1,_)]) (bE e13) nf rfl ⟨rfl,trivial⟩ rfl rfl) (Oc oa (aj.aV ⟨[(0,_),(2,_),(4,_),(5,_),(6,.b (.one (.int .u8 am)))],[(1,_),(101,_),(103,_)]⟩ rfl (ah.seq (ah.ae ?_))))
 refine Oc om (Oc (xO rfl rfl) (Oc om ?_))
 refine JM (decide (am≠34)) [] (fun g14=>trivial) (fun g14=>om) (JM (decide (am≠34)) [48] (fun g15=>by exact⟨g15,trivial⟩) (fun g15=>xO rfl rfl) (Oc (gn (fun e=>e) rfl rfl rfl rfl) (aj.aV ⟨[(0,_),(2,_),(4,_),(5,_),(6,_),(50,B ((decide (am≠34))&&(decide (am≠92))))],[(1,_),(101,_),(103,_)]⟩ rfl (ah.ite h12 rfl (fun _ h12=>?_) (fun _ h12=>?_)))))
 refine ah.ae (Oc om (Oc om ?_))
 obtain⟨cd,e16,h12⟩:=aK h12
 refine aj.uh (own_a:=[(1,_)]) (cr e16) rL rfl ⟨rfl,trivial⟩ (fun hok=>?_)
 obtain rfl:=zaa h12
 refine Fin.bC (Fin.b6 ?_)
 obtain rfl:=zaa h9
 refine Fin.bC ?_
 obtain rfl:=hy6 _ (zaa h5).symm
 refine Fin.bC (Fin.b6 (Fin.bC ?_))
 obtain rfl:=zaa h
 exact Fin.qF ⟨_,rfl,rfl,hok⟩
 refine ah.skip ?_
 exact Fin.join [0,2,4,5,6] [1,101,103] ((⟨be.s,i64.wrap (be.pos+1)⟩:Scan),am) (zaa h12) rfl
 refine ah.skip ?_
 exact Fin.join [0,2,4,5,6] [1,101,103] (be,bk) (zaa h12) rfl
 rintro⟨bi,ac⟩ hv
 subst v11
 obtain⟨v17,h18,h9⟩:=aK h9
 refine ah.o8 (v:=v17) (fun (_:Unit)=>⟨[(0,Pt 1 0),(2,Pt 101 0),(4,I m),(5,.b (.row 103)),(6,.b (.one (.int .u8 ac)))],[(1,.box 149 (kH bi)),(101,.box 91 [.i 0,.i 0,.str []]),(103,.row 5 1 (ad.map (eK .u8)))]⟩) (fun z=>.inl z) ?_ ?_
 refine ah.seq (ah.ae ?_)
 refine Oc om (Oc (lJ rfl rfl) (Oc om ?_))
 refine BS (!(decide (ac<32))) [] (fun g19=>trivial) (fun g19=>om) (BS (!(decide (ac<32))) [57] (fun g20=>by exact⟨g20,trivial⟩) (fun g20=>pe rfl rfl) (Oc (fI (fun e=>by first|(rw[e];rfl)|(simp only at e;rw[e];rfl)) rfl rfl rfl rfl) (aj.aV ⟨[(0,_),(2,_),(4,_),(5,_),(6,_),(59,B ((decide (ac<32))||(decide (126<ac))))],[(1,_),(101,_),(103,_)]⟩ rfl (ah.ite h18 rfl (fun _ h18=>?_) (fun _ h18=>?_)))))
 refine ah.ae (Oc om (Oc om ?_))
 obtain⟨ce,e21,h18⟩:=aK h18
 refine aj.uh (own_a:=[(1,_)]) (cr e21) rL rfl ⟨rfl,trivial⟩ (fun hok=>?_)
 obtain rfl:=zaa h18
 refine Fin.bC (Fin.b6 ?_)
 obtain rfl:=zaa h9
 refine Fin.bC ?_
 obtain rfl:=hy6 _ (zaa h5).symm
 refine Fin.bC (Fin.b6 (Fin.bC ?_))
 obtain rfl:=zaa h
 exact Fin.qF ⟨_,rfl,rfl,hok⟩
 refine ah.skip ?_
 exact Fin.join [0,2,4,5,6] [1,101,103] () (zaa h18) rfl
 rintro _ hv
 subst v17
 refine ah.ae (Oc om (Oc om (Oc (dq (k:=104) (es:=[ac].map (eK .u8)) C6 rfl rfl (jN fun _=>rfl) rfl (by decide) (by decide) rfl) ?_)))
 obtain⟨b1,e22,h9⟩:=aK h9
 refine Oc (ia C6 (yO e22) (yN e22) rfl rfl rfl rfl (qe e22) rfl) (Oc oa (aj.nil (Fin.bF ?_)))
 exact Fin.join [0,2,4,5] [1,101,103] (bi,b1) (zaa h9) rfl
 rintro⟨b0,an⟩ hv
 subst v8
 refine ah.ae (Oc om (Oc (aw rfl) (Oc (ay bo rfl rfl) (Oc (aJ cX rfl rfl rfl) (Oc (eM rfl rfl) (Oc (aw rfl) ?_))))))
 refine Oc (ay bo rfl rfl) (Oc (ee cX rfl rfl rfl (zab rfl) rfl) (aj.nil ?_))
 exact Fin.kq [0,2,4,5] [1,101,103] ((⟨b0.s,i64.wrap (b0.pos+1)⟩:Scan),an) (zaa h5) rfl
 refine ah.exit (Fin.bB ?_)
 obtain rfl:=hy6 _ (zaa h5).symm
 refine Fin.bB (Fin.cN ?_)
 exact Fin.join [0,2,4,5] [1,101,103] (be,ad) rfl rfl
 rintro⟨bb,y⟩ hv
 subst v2
 refine ah.seq (ah.ae ?_)
 refine Oc om (Oc (aw rfl) (Oc (ay bo rfl rfl) (Oc (aJ cX rfl rfl rfl) (Oc (eM rfl rfl) (Oc (aw rfl) ?_)))))
 refine Oc (ay bo rfl rfl) (Oc (ee cX rfl rfl rfl (zab rfl) rfl) (aj.aV ⟨[(0,_),(2,_),(4,_),(5,_)],[(1,.box 149 [.str bb.s,.i (i64.wrap (bb.pos+1))]),(101,_),(103,_)]⟩ rfl ?_))
 obtain⟨v23,h24,h⟩:=aK h
 refine ah.o8 (v:=v23) (fun (_:Unit)=>⟨[(2,Pt 101 0),(4,I m),(5,.b (.row 103))],[(1,.box 149 [.str bb.s,.i (i64.wrap (bb.pos+1))]),(101,.box 91 [.i 0,.i 0,.str []]),(103,.row 5 1 (y.map (eK .u8)))]⟩) (fun z=>.inl z) ?_ ?_
 refine ah.seq (ah.ae ?_)
 refine Oc om (Oc (ye Ck rfl rfl (List.length_map _)) (Oc (pe rfl rfl) (aj.aV ⟨[(0,_),(2,_),(4,_),(5,_),(76,B (decide (80<(y.length:Int))))],[(1,_),(101,_),(103,_)]⟩ rfl (ah.ite h24 rfl (fun _ h24=>?_) (fun _ h24=>?_)))))
 refine ah.ae (Oc om (Oc om ?_))
 obtain⟨ch,e25,h24⟩:=aK h24
 refine aj.uh (own_a:=[(1,_)]) (cr e25) rL rfl ⟨rfl,trivial⟩ (fun hok=>?_)
 obtain rfl:=zaa h24
 refine Fin.bC ?_
 obtain rfl:=zaa h
 exact Fin.qF ⟨_,rfl,rfl,hok⟩
 refine ah.skip ?_
 exact Fin.join [2,4,5] [1,101,103] () (zaa h24) rfl
 rintro _ hv
 subst v23
 refine ah.seq (ah.ae ?_)
 refine Oc om (Oc om (aj.im 103 rfl (Oc (B4 Ck Hq o6 rfl) (Oc (iI jS rfl rfl) (Oc (aX dh rfl rfl rfl rfl (zab rfl) rfl) (Oc oa (aj.aV ⟨[(2,Pt 101 0),(3,B true)],[(1,.box 149 [.str bb.s,.i (i64.wrap (bb.pos+1))]),(101,.box 91 [.i 4,.i m,.str (toStr y)])]⟩ rfl (ah.ret ?_))))))))
 obtain rfl:=zaa h
 refine Fin.aF ⟨[(2,_),(3,_)],[(1,_),(101,_)]⟩ rfl (Fin.F9 (.inl rfl) ?_)
 exact Fin.rJ [1] [.agg [.i 4,.i m,.str (toStr y)],.one (.bool true)] (.inl rfl) rfl (.cons (.En (.agg dh rfl rfl rfl rfl)) (.cons (.En (.tmp rfl)) .nil)) ⟨_,rfl,rfl,rfl⟩
theorem rp {F:Nat} {v:Str} {m:Int} {r:Token×Bool×Str×Int} (h:bX F v m=some (.inl r)):aI prog (ax mx) 81 [(1,.box 149 [.str v,.i m])] [.ptr 1 0] (Is [(1,.box 149 [.str r.2.2.1,.i r.2.2.2])] (.lC [.agg (bz r.1),.one (.bool r.2.1)])):=(kR h).spec
theorem sn {F:Nat} {v:Str} {m:Int} {p:Problem} (h:bX F v m=some (.inr p)):ij prog (ax mx) 81 [(1,.box 149 [.str v,.i m])] [.ptr 1 0] ((fun p:Problem=>.iface 38 (.agg #[.int .i64 p.At,.int .i64 p.E])) p) ((fun p:Problem=>mf .i64 p.At/\mf .i64 p.E) p):=(kR h).Hu
def dT (F:Nat) (s0:Str) (m:Str) (h:Int):Option Bool :=
 (p6 m h).bind fun v=>(fe F v s0).bind fun y=>some y
theorem pV {F:Nat} {s0 v:Str} {m:Int} {r:Bool} (h:dT F s0 v m=some r):aI prog (ax mx) 132 [(1,.bb 147 [.ptr 2 0]),(2,.box 149 [.str v,.i m])] [.one (.str s0),.ptr 1 0] (Is [(1,.bb 147 [.ptr 2 0]),(2,.box 149 [.str v,.i m])] (.b (.one (.bool r)))):=by
 unfold dT at h
 refine aI.intro 15 Tryz.func132 Tryz.ntmps132 rfl (by simp) fun E=>(ah.seq (ah.ae ?_))
 refine Oc oa (aj.aV ⟨[(0,.b (.one (.str s0))),(1,Pt 1 0)],[(1,.bb 147 [.ptr 2 0]),(2,.box 149 [.str v,.i m])]⟩ rfl (ah.seq ?_))
 obtain⟨ac,e1,h⟩:=aK h
 obtain⟨y,e2,h⟩:=aK h
 refine ah.oN mixed 12 [Pt 2 0,Pt 2 0,Pt 2 0,.b (.one (.str v)),Pt 2 0,Pt 2 0,Pt 2 1,I m,.b (.one (.str ac)),.b (.one (.str s0)),B y,B y] [3] [1,2] (s':=⟨[(3,B y)],[(1,_),(2,_)]⟩) rfl ⟨fun _=>.p (cD pq rfl rfl rfl),fun _=>.p (aw rfl),fun _=>.p (ay fH rfl rfl),fun _=>.p (aJ gV rfl rfl rfl),fun _=>.p (cD pq rfl rfl rfl),fun _=>.p (aw rfl),fun _=>.p (ay bo rfl rfl),fun _=>.p (aJ cX rfl rfl rfl),fun _=>.p (pG o6 e1 rfl rfl),fun _=>.p om,fun _=>.p (cy (se e2) goes107 rfl rfl),fun _=>.p oa,trivial⟩ rfl rfl (ah.ret ?_)
 obtain rfl:=zaa h
 refine Fin.aF ⟨[(3,_)],[(1,_),(2,_)]⟩ rfl ?_
 exact Fin.result [.one (.bool y)] (.inl rfl) rfl (.cons (.tmp rfl) .nil) ⟨rfl,rfl⟩
def iy (F:Nat) (s0:List Str) (f0v0s:Str) (f0v0at:Int):Option Int :=
 Option.bind (iter F (fun h=>if (decide (h<(s0.length:Int)))=true then ((aD s0 h).bind fun m=>(dT F m f0v0s f0v0at).bind fun v=>if v=true then (some (.inr (.inr h))) else (some (.inl (i64.wrap (h+1))))) else (some (.inr (.inl ())))) 0) (cz (fun _=>some (-1)) (fun y=>some y))
theorem sO {F:Nat} {s0:List Str} {f0v0s:Str} {f0v0at r:Int} (h:iy F s0 f0v0s f0v0at=some r):aI prog (ax mx) 131 [(1,.bb 147 [.ptr 2 0]),(2,.box 149 [.str f0v0s,.i f0v0at])] [.one (.sl 1 (s0.map eS)),.cJ 132 [] [.ptr 1 0]] (Is [(1,.bb 147 [.ptr 2 0]),(2,.box 149 [.str f0v0s,.i f0v0at])] (.b (.one (.i r)))):=by
 unfold iy at h
 refine aI.intro 19 Tryz.func131 Tryz.ntmps131 rfl (by simp) fun E=>(ah.seq (ah.ae ?_))
 refine Oc oa (aj.aV ⟨[(0,.b (.one (.sl 1 (s0.map eS)))),(1,.b (.cJ 132 [] [.ptr 1 0]))],[(1,.bb 147 [.ptr 2 0]),(2,.box 149 [.str f0v0s,.i f0v0at])]⟩ rfl ?_)
 obtain⟨v1,h2,h⟩:=aK h
 refine ah.o8 (v:=v1) (fun (_:Unit)=>⟨[],[(1,.bb 147 [.ptr 2 0]),(2,.box 149 [.str f0v0s,.i f0v0at])]⟩) (fun z=>.inl z) ?_ ?_
 refine ah.seq (ah.ae ?_)
 refine Oc om (Oc (uv und26 rfl (List.length_map _)) (Oc om (aj.aV ⟨[(0,_),(1,_),(7,I (s0.length:Int)),(8,I 0)],[(1,_),(2,_)]⟩ rfl (ah.block (ah.qX h2 (fun (m:Int)=>⟨[(0,.b (.one (.sl 1 (s0.map eS)))),(1,.b (.cJ 132 [] [.ptr 1 0])),(7,I (s0.length:Int)),(8,I m)],[(1,.bb 147 [.ptr 2 0]),(2,.box 149 [.str f0v0s,.i f0v0at])]⟩) [0,1,7,8] [1,2] rfl ?_)))))
 rintro m o3 h4 hy5
 refine ah.seq (ah.ae ?_)
 refine Oc (lJ rfl rfl) (aj.aV ⟨[(0,_),(1,_),(7,_),(8,_),(9,B (decide (m<(s0.length:Int))))],[(1,_),(2,_)]⟩ rfl (ah.seq (ah.ite h4 rfl (fun _ h4=>?_) (fun _ h4=>?_))))
 refine ah.skip (Fin.aF ⟨[(0,_),(1,_),(7,_),(8,_)],[(1,_),(2,_)]⟩ rfl (Fin.then (ah.seq (ah.block (ah.seq (ah.ae ?_))))))
 refine Oc om (Oc oa (aj.aV ⟨[(0,_),(1,_),(5,I m),(7,_),(8,_)],[(1,_),(2,_)]⟩ rfl (ah.seq (ah.ae ?_))))
 refine Oc om (Oc om (Oc om ?_))
 obtain⟨ac,e6,h4⟩:=aK h4
 refine Oc (rR pd (fE e6) (rD (e:=eS) e6) rfl rfl) (Oc (la gV rfl rfl) ?_)
 obtain⟨y,e7,h4⟩:=aK h4
 refine Oc (tj (own_a:=[(1,_),(2,_)]) (pV e7) goes132 rfl rfl rfl ⟨rfl,rfl,trivial⟩ rfl rfl) (aj.aV ⟨[(0,_),(1,_),(5,_),(7,_),(8,_),(16,B y)],[(1,_),(2,_)]⟩ rfl (ah.ite h4 rfl (fun _ h4=>?_) (fun _ h4=>?_)))
 refine ah.seq (ah.ae ?_)
 refine Oc om (Oc oa (aj.aV ⟨[(4,I m)],[(1,_),(2,_)]⟩ rfl (ah.ret (Fin.rb (Fin.cx ?_)))))
 obtain rfl:=hy5 _ (zaa h4).symm
 refine Fin.cx (Fin.rb (Fin.cx ?_))
 obtain rfl:=zaa h
 refine Fin.aF ⟨[(4,_)],[(1,_),(2,_)]⟩ rfl ?_
 exact Fin.result [.one (.i m)] (.inl rfl) rfl (.cons (.tmp rfl) .nil) ⟨rfl,rfl⟩
 refine ah.skip (Fin.bF (Fin.aF ⟨[(0,_),(1,_),(7,_),(8,_)],[(1,_),(2,_)]⟩ rfl (Fin.then (ah.ae ?_))))
 refine Oc (eM rfl rfl) (Oc om (aj.nil ?_))
 exact Fin.kq [0,1,7,8] [1,2] (i64.wrap (m+1)) (zaa h4) rfl
 refine ah.exit (Fin.bB ?_)
 obtain rfl:=hy5 _ (zaa h4).symm
 refine Fin.bB (Fin.cN ?_)
 exact Fin.join [] [1,2] () rfl rfl
 rintro _ hv
 subst v1
 refine ah.seq (ah.ae ?_)
 refine Oc oa (aj.aV ⟨[(4,I (-1))],[(1,_),(2,_)]⟩ rfl (ah.ret ?_))
 obtain rfl:=zaa h
 refine Fin.aF ⟨[(4,_)],[(1,_),(2,_)]⟩ rfl ?_
 exact Fin.result [.one (.i (-1))] (.inl rfl) rfl (.cons (.tmp rfl) .nil) ⟨rfl,rfl⟩
def cU (F:Nat) (v:Str) (h:Int):Option ((Token×Bool×Int)⊕Problem) :=
 (iy F ga v h).bind fun m=>Option.bind (if (decide (m<0))=true then ((bq F h 280 v h).bind fun ac=>some (.inr (.inr ac))) else (some (.inl ()))) (cz (fun _=>(aD ga m).bind fun ad=>(aD ga m).bind fun am=>some (.inl ((⟨5,h,ad⟩:Token),true,i64.wrap (h+(am.length:Int))))) (fun y=>some y))
theorem kS {F:Nat} {ad:Str} {m:Int} {r:(Token×Bool×Int)⊕Problem} (h:cU F ad m=some r):eZ prog (ax mx) 82 [(1,.box 149 [.str ad,.i m])] [.ptr 1 0] (IsP r (fun (r:Token×Bool×Int)=>[(1,.box 149 [.str ad,.i r.2.2])]) (fun (r:Token×Bool×Int)=>.lC [.agg (bz r.1),.one (.bool r.2.1)])) (I3 r (fun p:Problem=>.iface 38 (.agg #[.int .i64 p.At,.int .i64 p.E])) (fun p:Problem=>mf .i64 p.At/\mf .i64 p.E)):=by
 unfold cU at h
 refine eZ.intro 37 Tryz.func82 Tryz.ntmps82 rfl (by simp) fun E=>(ah.seq (ah.ae ?_))
 refine Oc (CC (k:=101) rfl rfl rfl rfl) (Oc (cE (k:=102) kI rfl) (Oc oa (aj.aV ⟨[(1,Pt 101 0),(2,Pt 102 0)],[(1,.box 149 [.str ad,.i m]),(101,.bb 147 [.ptr 1 0]),(102,.box 91 [.i 0,.i 0,.str []])]⟩ rfl (ah.seq (ah.ae ?_)))))
 refine Oc (Bk (xs:=ga) (enc:=eS) ur uq wJ rfl rfl (fun _=>rfl) (by rw[dk];decide)) (Oc (eN rfl rfl) ?_)
 obtain⟨ac,e1,h⟩:=aK h
 refine Oc (dN (own_a:=[(101,_),(1,_)]) (((sO e1).sw 1 101).sw 2 1) goes131 rfl ⟨rfl,rfl,trivial⟩ rfl rfl) (Oc oa (aj.aV ⟨[(1,_),(2,_),(4,I ac)],[(1,_),(101,_),(102,_)]⟩ rfl ?_))
 obtain⟨v2,h3,h⟩:=aK h
 refine ah.o8 (v:=v2) (fun (_:Unit)=>⟨[(1,Pt 101 0),(2,Pt 102 0),(4,I ac)],[(1,.box 149 [.str ad,.i m]),(101,.bb 147 [.ptr 1 0]),(102,.box 91 [.i 0,.i 0,.str []])]⟩) (fun z=>.inl z) ?_ ?_
 refine ah.seq (ah.ae ?_)
 refine Oc om (Oc (lJ rfl rfl) (aj.aV ⟨[(1,_),(2,_),(4,_),(10,B (decide (ac<0)))],[(1,_),(101,_),(102,_)]⟩ rfl (ah.ite h3 rfl (fun _ h3=>?_) (fun _ h3=>?_))))
 refine ah.aF ⟨[(1,_),(2,_),(4,_)],[(1,_),(101,_),(102,_)]⟩ rfl ?_
 obtain⟨an,e4,h3⟩:=aK h3
 refine ah.regionP mixed 5 [Pt 1 0,Pt 1 0,Pt 1 0,Pt 1 1,I m] rfl ⟨fun _=>.p (cD pq rfl rfl rfl),fun _=>.p (cD pq rfl rfl rfl),fun _=>.p (aw rfl),fun _=>.p (ay bo rfl rfl),fun _=>.p (aJ cX rfl rfl rfl),trivial⟩ ⟨_,.iE (own_a:=[(1,_)]) (cr e4) rL rfl ⟨rfl,trivial⟩ (fun hok=>?_),rfl⟩
 obtain rfl:=zaa h3
 refine Fin.bC ?_
 obtain rfl:=zaa h
 exact Fin.qF ⟨_,rfl,rfl,hok⟩
 refine ah.skip ?_
 exact Fin.join [1,2,4] [1,101,102] () (zaa h3) rfl
 rintro _ hv
 subst v2
 refine ah.seq (ah.aF ⟨[(1,_),(2,_),(4,_)],[(1,_),(101,_),(102,_)]⟩ rfl ?_)
 obtain⟨y,e5,h⟩:=aK h
 refine ah.zN mixed [false,false,false,false,false,false,false,false,true,true] [Pt 1 0,Pt 1 0,Pt 1 1,I m,I ac,.b (.kG [.str y]),.b (.one (.str y)),.b (.agg [.i 5,.i m,.str y]),Pt 103 0,B true] [⟨[false,false,false,false,false,false,false,false,false,false],[(1,Pt 101 0),(2,Pt 102 0),(4,I ac)],[(1,.box 149 [.str ad,.i m]),(101,.bb 147 [.ptr 1 0]),(102,.box 91 [.i 0,.i 0,.str []])],[true,true,true,true,true,true,true,true,true,true],[],[9]⟩,⟨[false,false,false,false,false,false,false,false,true,false],[(1,Pt 101 0),(2,Pt 102 0),(4,I ac)],[(1,.box 149 [.str ad,.i m]),(101,.bb 147 [.ptr 1 0]),(102,.box 91 [.i 0,.i 0,.str []]),(103,.box 91 [.i 0,.i 0,.str []])],[true,true,true,true,true,true,true,true,true,true],[8],[]⟩,⟨[false,false,false,false,false,false,false,false,true,true],[(1,Pt 101 0),(2,Pt 102 0),(4,I ac)],[(1,.box 149 [.str ad,.i m]),(101,.bb 147 [.ptr 1 0]),(102,.box 91 [.i 0,.i 0,.str []]),(103,.box 91 [.i 5,.i m,.str y])],[true,true,true,true,true,true,true,true,true,true],[0,1,2,3,4,5,6,7,8,9],[]⟩] rfl (⟨by kernel_rfl,⟨⟨Pt 1 0,fun _=>rfl,fun _=>.p (by exact cD pq rfl rfl rfl)⟩,⟨Pt 1 0,fun _=>rfl,fun _=>.p (by exact aw rfl)⟩,⟨Pt 1 1,fun _=>rfl,fun _=>.p (by exact ay bo rfl rfl)⟩,⟨I m,fun _=>rfl,fun _=>.p (by exact aJ cX rfl rfl rfl)⟩,⟨I ac,fun _=>rfl,fun _=>.p (by exact cK rfl)⟩,⟨.b (.kG [.str y]),fun _=>rfl,fun _=>.p (by exact qk ur uq wJ (fE e5) (np e5) rfl (Dy (e:=eS) (sz:=1) (fun _=>rfl) e5))⟩,⟨.b (.one (.str y)),fun _=>rfl,fun _=>.p (by exact la gV rfl rfl)⟩,⟨.b (.agg [.i 5,.i m,.str y]),fun _=>rfl,fun _=>.p (by exact iI jS rfl rfl)⟩,⟨_,[103],Pt 103 0,rfl,fun _=>rfl,rfl,rfl,fun _=>.IP [1,101,102,103] (by exact .p (by exact cE (k:=103) kI rfl)) (by exact rfl)⟩,trivial,trivial⟩,⟨by kernel_rfl,⟨⟨Pt 1 0,fun _=>rfl,fun _=>.p (by exact cD pq rfl rfl rfl)⟩,⟨Pt 1 0,fun _=>rfl,fun _=>.p (by exact aw rfl)⟩,⟨Pt 1 1,fun _=>rfl,fun _=>.p (by exact ay bo rfl rfl)⟩,⟨I m,fun _=>rfl,fun _=>.p (by exact aJ cX rfl rfl rfl)⟩,⟨I ac,fun _=>rfl,fun _=>.p (by exact cK rfl)⟩,⟨.b (.kG [.str y]),fun _=>rfl,fun _=>.p (by exact qk ur uq wJ (fE e5) (np e5) rfl (Dy (e:=eS) (sz:=1) (fun _=>rfl) e5))⟩,⟨.b (.one (.str y)),fun _=>rfl,fun _=>.p (by exact la gV rfl rfl)⟩,⟨.b (.agg [.i 5,.i m,.str y]),fun _=>rfl,fun _=>.p (by exact iI jS rfl rfl)⟩,trivial,⟨_,[],.b (.one .any),rfl,(fun e=>by simp at e),rfl,rfl,fun _=>.IP [1,101,102,103] (by exact .p (by exact aX dh rfl rfl rfl rfl (zab rfl) rfl)) (by exact rfl)⟩,trivial⟩,⟨by kernel_rfl,⟨trivial,trivial,trivial,trivial,trivial,trivial,trivial,trivial,trivial,trivial,trivial⟩,trivial⟩⟩⟩) rfl rfl rfl [1,2,4,5] [1,101,102,103] (s':=⟨[(1,_),(2,_),(4,_),(5,Pt 103 0)],[(1,_),(101,_),(102,_),(103,.box 91 [.i 5,.i m,.str y])]⟩) rfl ?_
 refine ah.seq (ah.aF ⟨[(1,_),(2,_),(4,_),(5,_)],[(1,_),(101,_),(102,_),(103,_)]⟩ rfl ?_)
 obtain⟨am,e6,h⟩:=aK h
 refine ah.oN mixed 11 [Pt 1 0,Pt 1 0,Pt 1 1,I m,I ac,.b (.kG [.str am]),.b (.one (.str am)),I (am.length:Int),I (i64.wrap (m+(am.length:Int))),Pt 1 0,Pt 1 1] [2,5] [1,102,103] (s':=⟨[(2,_),(5,_)],[(1,.box 149 [.str ad,.i (i64.wrap (m+(am.length:Int)))]),(102,_),(103,_)]⟩) rfl ⟨fun _=>.p (cD pq rfl rfl rfl),fun _=>.p (aw rfl),fun _=>.p (ay bo rfl rfl),fun _=>.p (aJ cX rfl rfl rfl),fun _=>.p om,fun _=>.p (qk ur uq wJ (fE e6) (np e6) rfl (Dy (e:=eS) (sz:=1) (fun _=>rfl) e6)),fun _=>.p (la gV rfl rfl),fun _=>.p (gJ o6 rfl),fun _=>.p (eM rfl rfl),fun _=>.p (aw rfl),fun _=>.p (ay bo rfl rfl),trivial⟩ ⟨_,by exact .p (ee cX rfl rfl rfl (zab rfl) rfl),rfl⟩ rfl (ah.seq (ah.ae ?_))
 refine Oc (lp dh) (Oc (aX dh rfl rfl rfl rfl (zab rfl) rfl) (Oc oa (aj.aV ⟨[(2,_),(3,B true)],[(1,_),(102,.box 91 [.i 5,.i m,.str y])]⟩ rfl (ah.ret ?_))))
 obtain rfl:=zaa h
 refine Fin.aF ⟨[(2,_),(3,_)],[(1,_),(102,_)]⟩ rfl (Fin.F9 (.inl rfl) ?_)
 exact Fin.rJ [1] [.agg [.i 5,.i m,.str y],.one (.bool true)] (.inl rfl) rfl (.cons (.En (.agg dh rfl rfl rfl rfl)) (.cons (.En (.tmp rfl)) .nil)) ⟨_,rfl,rfl,rfl⟩
theorem rq {F:Nat} {v:Str} {m:Int} {r:Token×Bool×Int} (h:cU F v m=some (.inl r)):aI prog (ax mx) 82 [(1,.box 149 [.str v,.i m])] [.ptr 1 0] (Is [(1,.box 149 [.str v,.i r.2.2])] (.lC [.agg (bz r.1),.one (.bool r.2.1)])):=(kS h).spec
theorem so {F:Nat} {v:Str} {m:Int} {p:Problem} (h:cU F v m=some (.inr p)):ij prog (ax mx) 82 [(1,.box 149 [.str v,.i m])] [.ptr 1 0] ((fun p:Problem=>.iface 38 (.agg #[.int .i64 p.At,.int .i64 p.E])) p) ((fun p:Problem=>mf .i64 p.At/\mf .i64 p.E) p):=(kS h).Hu
def dF (F:Nat) (bi:Str) (am:Int):Option (Str×Int) :=
 Option.bind (iter F (fun v=>Option.bind (b5 F 133 v.s v.pos) (Hl fun y h m=>(aW (!(decide (0<y))) (bp F h m)).bind fun an=>if ((decide (0<y))||(decide (an=35)))=true then ((bp F h m).bind fun bb=>if (decide (bb=35))=true then (Option.bind (b5 F 135 h m) (Hl fun bk be ac=>some (.inl (⟨be,ac⟩:Scan)))) else (some (.inl (⟨h,m⟩:Scan)))) else (some (.inr (⟨h,m⟩:Scan))))) (⟨bi,am⟩:Scan)) (fun ad=>some (ad.s,ad.pos))
theorem lz {F:Nat} {y:Str} {v:Int} {r:Str×Int} (h:dF F y v=some r):aI prog (ax mx) 83 [(1,.box 149 [.str y,.i v])] [.ptr 1 0] (Is [(1,.box 149 [.str r.1,.i r.2])] (.lC [])):=by
 unfold dF at h
 refine aI.intro 15 Tryz.func83 Tryz.ntmps83 rfl (by simp) fun E=>(ah.block ?_)
 obtain⟨v1,h2,h⟩:=aK h
 refine ah.qX h2 (fun (ac:Scan)=>⟨[(0,Pt 1 0)],[(1,.box 149 (kH ac))]⟩) [0] [1] rfl ?_
 rintro ac o3 h4 hy5
 refine ah.seq (ah.seq (ah.ae ?_))
 refine Oc om ?_
 obtain⟨⟨m,ad,am⟩,e6,h4⟩:=aK h4
 refine Oc (dN (own_a:=[(1,_)]) (dU e6) wA rfl ⟨rfl,trivial⟩ rfl rfl) (Oc (pe rfl rfl) (Oc om ?_))
 refine BS (!(decide (0<m))) [] (fun g7=>trivial) (fun g7=>om) (aj.aF ⟨[(0,_),(5,B (decide (0<m))),(6,.opt (!(decide (0<m))) (.ptr 1 0))],[(1,.box 149 [.str ad,.i am])]⟩ rfl ?_)
 obtain⟨bb,e9,h4⟩:=aK h4
 refine BS (!(decide (0<m))) [6] (fun g8=>⟨g8,trivial⟩) (fun g8=>AJ (own_a:=[(1,_)]) (bE (gc e9 g8)) nf rfl ⟨rfl,trivial⟩ rfl rfl rfl rfl rfl) (BS (!(decide (0<m))) [7] (fun g10=>⟨g10,trivial⟩) (fun g10=>n3 rfl rfl) (Oc (fI (fun e=>by first|(rw[e];rfl)|(simp only at e;rw[e];rfl)) rfl rfl rfl rfl) (aj.aV ⟨[(0,_),(9,B ((decide (0<m))||(decide (bb=35))))],[(1,_)]⟩ rfl (ah.ite h4 rfl (fun _ h4=>?_) (fun _ h4=>?_)))))
 refine ah.skip (Fin.aF ⟨[(0,_)],[(1,_)]⟩ rfl (Fin.then (ah.block (ah.seq (ah.ae ?_)))))
 refine Oc om ?_
 obtain⟨be,e11,h4⟩:=aK h4
 refine Oc (dN (own_a:=[(1,_)]) (bE e11) nf rfl ⟨rfl,trivial⟩ rfl rfl) (Oc (n3 rfl rfl) (aj.aV ⟨[(0,_),(12,B (decide (be=35)))],[(1,_)]⟩ rfl (ah.ite h4 rfl (fun _ h4=>?_) (fun _ h4=>?_))))
 refine ah.ae (Oc om ?_)
 obtain⟨⟨bk,bi,an⟩,e12,h4⟩:=aK h4
 refine Oc (dN (own_a:=[(1,_)]) (dU e12) wA rfl ⟨rfl,trivial⟩ rfl rfl) (aj.nil (Fin.bF ?_))
 exact Fin.kq [0] [1] (⟨bi,an⟩:Scan) (zaa h4) rfl
 refine ah.skip (Fin.bF ?_)
 exact Fin.kq [0] [1] (⟨ad,am⟩:Scan) (zaa h4) rfl
 refine ah.exit (Fin.bB ?_)
 obtain rfl:=hy5 _ (zaa h4).symm
 refine Fin.bB (Fin.cN ?_)
 obtain rfl:=zaa h
 refine Fin.aF ⟨[],[(1,_)]⟩ rfl ?_
 exact Fin.result [] (.inr rfl) rfl (.nil) ⟨rfl,rfl⟩
def cQ (F:Nat) (s0:Str):Option ((List Token)×Problem) :=
 if (decide (100000<(s0.length:Int)))=true then (some ([],(⟨0,2⟩:Problem))) else (Option.bind (Option.bind (dF F s0 0) (qz fun d0 d1=>iter F (qz fun h ce=>if (decide (ce.pos<(s0.length:Int)))=true then (Option.bind (Option.bind (iter F (qz fun v m=>if (decide (m<4))=true then (if decide (m=0)=true then (Option.bind (bY F v.s v.pos) (bu (fun an=>some (.inr (.inr ([],(⟨an.At,an.E⟩:Problem))))) (un4 fun ch ci bb be=>if ci=true then ((bU h [ch]).bind fun co=>some (.inr (.inl (co,(⟨bb,be⟩:Scan))))) else (some (.inl ((⟨bb,be⟩:Scan),i64.wrap (m+1))))))) else (if decide (m=1)=true then (Option.bind (bP F v.s v.pos) (bu (fun bi=>some (.inr (.inr ([],(⟨bi.At,bi.E⟩:Problem))))) (un4 fun cp cs bk bs=>if cs=true then ((bU h [cp]).bind fun c0=>some (.inr (.inl (c0,(⟨bk,bs⟩:Scan))))) else (some (.inl ((⟨bk,bs⟩:Scan),i64.wrap (m+1))))))) else (if decide (m=2)=true then (Option.bind (bX F v.s v.pos) (bu (fun b0=>some (.inr (.inr ([],(⟨b0.At,b0.E⟩:Problem))))) (un4 fun c1 c2 b1 b2=>if c2=true then ((bU h [c1]).bind fun c3=>some (.inr (.inl (c3,(⟨b1,b2⟩:Scan))))) else (some (.inl ((⟨b1,b2⟩:Scan),i64.wrap (m+1))))))) else (if decide (m=3)=true then (Option.bind (cU F v.s v.pos) (bu (fun b3=>some (.inr (.inr ([],(⟨b3.At,b3.E⟩:Problem))))) (Hl fun c4 c5 cd=>if c5=true then ((bU h [c4]).bind fun c6=>some (.inr (.inl (c6,(⟨v.s,cd⟩:Scan))))) else (some (.inl ((⟨v.s,cd⟩:Scan),i64.wrap (m+1))))))) else (none))))) else (some (.inr (.inl (h,v))))) (ce,0)) (cz (qz fun ac c7=>some (.inl (ac,c7))) (fun y=>some (.inr y)))) (cz (qz fun ad dd=>Option.bind (dF F dd.s dd.pos) (qz fun dg dr=>some (.inl (ad,(⟨dg,dr⟩:Scan))))) (fun y=>some (.inr (.inr y))))) else (some (.inr (.inl h)))) ([],(⟨d0,d1⟩:Scan)))) (cz (fun am=>some (am,(⟨0,0⟩:Problem))) (fun y=>some y)))
theorem uT:EH prog 78 2:=EH.intro Tryz.func78 rfl rfl Tryz.underlying20 (by decide) (by decide) (by decide) (by decide) (by decide)
theorem fU {a102i0 a102i1:Int} {xs107:List Token} {p:Problem} (hok:mf .i64 p.At/\mf .i64 p.E):rN prog (ax mx) 78 [(101,.bb 83 [.row 107]),(102,.box 38 [.i a102i0,.i a102i1]),(107,.row 91 3 (xs107.map bz))] [.ptr 101 0,.ptr 102 0] (.iface 38 (.agg #[.int .i64 p.At,.int .i64 p.E])) [(101,.bb 83 [.one (.nil)]),(102,.box 38 (aS p))]:=by
 refine rN.intro (z:=.one (.zl 38 (aS p))) 8 Tryz.func78 Tryz.ntmps78 rfl (by decide) (by decide) (by decide) (fun h ρ=>⟨_,rfl,.cons ⟨rfl,hok.1⟩ (.cons ⟨rfl,hok.2⟩ .nil)⟩) fun E=>(ah.seq (ah.ae ?_))
 refine Oc om (Oc (Bl Tryz.underlying20 rfl) ?_)
 refine aj.aV ⟨[(0,Pt 101 0),(1,Pt 102 0),(2,.b (.one (.zl 38 (aS p)))),(5,B true)],[(101,.bb 83 [.row 107]),(102,.box 38 [.i a102i0,.i a102i1]),(107,.row 91 3 (xs107.map bz))]⟩ rfl (ah.condT rfl (ah.aF ⟨[(0,_),(1,_),(2,_)],[(101,_),(102,_),(107,_)]⟩ rfl (ah.wM mixed [false,false,true,true] [.b (.one (.zl 38 (aS p))),.b (.agg (aS p)),B true,B true] [⟨[false,false,false,false],[(0,Pt 101 0),(1,Pt 102 0),(2,.b (.one (.zl 38 (aS p))))],[(101,.bb 83 [.row 107]),(102,.box 38 [.i a102i0,.i a102i1]),(107,.row 91 3 (xs107.map bz))],[true,true,true,true],[],[3]⟩,⟨[false,false,true,false],[(0,Pt 101 0),(1,Pt 102 0),(2,.b (.one (.zl 38 (aS p))))],[(101,.bb 83 [.one (.nil)]),(102,.box 38 [.i a102i0,.i a102i1]),(107,.row 91 3 (xs107.map bz))],[true,true,true,true],[2],[]⟩,⟨[false,false,true,true],[(0,Pt 101 0),(1,Pt 102 0),(2,.b (.one (.zl 38 (aS p))))],[(101,.bb 83 [.one (.nil)]),(102,.box 38 (aS p)),(107,.row 91 3 (xs107.map bz))],[true,true,true,true],[0,1,2,3],[]⟩] rfl (⟨by kernel_rfl,⟨⟨.b (.one (.zl 38 (aS p))),fun _=>rfl,fun _=>.p (by exact cK rfl)⟩,⟨.b (.agg (aS p)),fun _=>rfl,fun _=>.p (by exact vc Tryz.underlying38 rfl rfl)⟩,⟨_,[],.b (.one .any),rfl,(fun e=>by simp at e),rfl,rfl,fun _=>.IP [101,102,107] (by exact .p (by exact fA fQ rfl rfl rfl rfl (zab rfl) rfl)) (by exact rfl)⟩,trivial,trivial⟩,⟨by kernel_rfl,⟨⟨.b (.one (.zl 38 (aS p))),fun _=>rfl,fun _=>.p (by exact cK rfl)⟩,⟨.b (.agg (aS p)),fun _=>rfl,fun _=>.p (by exact vc Tryz.underlying38 rfl rfl)⟩,trivial,⟨_,[],.b (.one .any),rfl,(fun e=>by simp at e),rfl,rfl,fun _=>.IP [101,102,107] (by exact .p (by exact aX lM rfl rfl rfl rfl (zab rfl) rfl)) (by exact rfl)⟩,trivial⟩,⟨by kernel_rfl,⟨trivial,trivial,trivial,trivial,trivial⟩,trivial⟩⟩⟩) rfl rfl rfl [] [101,102] (s':=⟨[],[(101,.bb 83 [.one (.nil)]),(102,.box 38 (aS p))]⟩) rfl (Fin.aF ⟨[],[(101,_),(102,_)]⟩ rfl ?_))))
 exact Fin.result [] (.inr rfl) rfl .nil ⟨rfl,rfl⟩
theorem xE {F:Nat} {s0:Str} {r:(List Token)×Problem} (h:cQ F s0=some r):aI prog (ax mx) 30 [] [.one (.str s0)] (Is [] (.lC [.one (.sl 3 (r.1.map bz)),.agg (aS r.2)])):=by
 unfold cQ at h
 refine aI.Gv 55 Tryz.func30 Tryz.ntmps30 rfl (by simp) fun E=>(ah.seq (ah.ae ?_))
 refine Oc (cE (k:=101) Ln rfl) (Oc (cE (k:=102) Lo rfl) (aj.aV ⟨[(0,.b (.one (.str s0))),(2,Pt 101 0),(3,Pt 102 0)],[(101,.box 83 [.nil]),(102,.box 38 [.i 0,.i 0])]⟩ rfl (ah.seq (ah.seq (ah.ae ?_)))))
 refine Oc om (Oc (gJ o6 rfl) (Oc (pe rfl rfl) (aj.aV ⟨[(0,_),(2,_),(3,_),(12,B (decide (100000<(s0.length:Int))))],[(101,_),(102,_)]⟩ rfl (ah.ite h rfl (fun _ h=>?_) (fun _ h=>?_)))))
 refine ah.seq (ah.ae ?_)
 refine Oc (iI Cu rfl rfl) (Oc (ee fQ rfl rfl rfl (zab rfl) rfl) (Oc (aX lM rfl rfl rfl rfl (zab rfl) rfl) (aj.aV ⟨[(2,_),(3,_)],[(101,_),(102,.box 38 [.i 0,.i 2])]⟩ rfl (ah.ret (Fin.cx ?_)))))
 obtain rfl:=zaa h
 refine Fin.retD (.inl rfl) rfl (Fin.aF ⟨[(2,_),(3,_)],[(101,_),(102,_)]⟩ rfl (Fin.pf 101 0 3 rfl rfl (by decide) (Fin.fi [.one (.sl 3 ([].map bz)),.agg [.i 0,.i 2]] (.inl rfl) rfl (.cons (.one fQ rfl rfl rfl) (.cons (.agg lM rfl rfl rfl rfl) .nil)) ⟨rfl,rfl⟩)))
 refine ah.skip (Fin.aF ⟨[(0,_),(2,_),(3,_)],[(101,_),(102,_)]⟩ rfl (Fin.then (ah.seq (ah.ae ?_))))
 refine Oc (eN rfl rfl) (aj.defer rfl rfl rfl (fun E' vals hlink hvals=>(aj.aV ⟨[(0,_),(2,_),(3,_)],[(101,_),(102,_)]⟩ rfl (ah.seq (ah.ae ?_)))))
 refine Oc om (Oc (iI GQ rfl rfl) (Oc (xQ (k:=103) rfl rfl) (Oc oa (aj.aV ⟨[(0,_),(2,_),(3,_),(4,Pt 103 0)],[(101,_),(102,_),(103,.box 149 [.str s0,.i 0])]⟩ rfl (ah.seq (ah.ae ?_))))))
 refine Oc om (Oc (eN rfl rfl) (Oc om (Oc (eN rfl rfl) (Oc om (Oc (eN rfl rfl) ?_)))))
 refine Oc om (aj.aF ⟨[(0,_),(2,_),(3,_),(4,_),(19,.b (.cJ 79 [.ptr 103 0] [])),(21,.b (.cJ 80 [.ptr 103 0] [])),(23,.b (.cJ 81 [.ptr 103 0] [])),(24,Pt 103 0)],[(101,_),(102,_),(103,_)]⟩ rfl (Oc (eN rfl rfl) (Oc (FM GP rfl rfl) (Oc (cE (k:=104) I8 rfl) (aj.JH 104 rfl (Oc (Fy EP rfl rfl rfl rfl rfl (zab rfl) rfl) (aj.aV ⟨[(0,.b (.one (.str s0))),(2,Pt 101 0),(3,Pt 102 0),(4,Pt 103 0),(5,Pt 104 0)],[(101,.box 83 [.nil]),(102,.box 38 [.i 0,.i 0]),(103,.box 149 [.str s0,.i 0]),(104,.bb 151 [.cJ 79 [.ptr 103 0] [],.cJ 80 [.ptr 103 0] [],.cJ 81 [.ptr 103 0] [],.cJ 82 [.ptr 103 0] []])]⟩ rfl ?_)))))))
 obtain⟨v1,h2,h⟩:=aK h
 refine ah.o8 (v:=v1) (fun (y:List Token)=>⟨[(2,Pt 101 0),(3,Pt 102 0)],[(101,.bb 83 [.row 107]),(102,.box 38 [.i 0,.i 0]),(107,.row 91 3 (y.map bz))]⟩) (fun z=>.inl z) ?_ ?_
 refine ah.seq (ah.ae ?_)
 refine Oc om ?_
 obtain⟨⟨d4,d5⟩,e3,h2⟩:=aK h2
 refine Oc (dN (own_a:=[(103,_)]) ((lz e3).sw 1 103) KT rfl ⟨rfl,trivial⟩ rfl rfl) (aj.aV ⟨[(0,.b (.one (.str s0))),(2,Pt 101 0),(3,Pt 102 0),(4,Pt 103 0),(5,Pt 104 0)],[(101,.box 83 [.nil]),(102,.box 38 [.i 0,.i 0]),(103,.box 149 [.str d4,.i d5]),(104,.bb 151 [.cJ 79 [.ptr 103 0] [],.cJ 80 [.ptr 103 0] [],.cJ 81 [.ptr 103 0] [],.cJ 82 [.ptr 103 0] []])]⟩ rfl (ah.block (ah.JH 101 rfl (ah.qc 101 0 107 3 91 rfl rfl (by decide) (by decide) rfl (ah.qX h2 (qz fun (m:List Token) (d0:Scan)=>⟨[(0,.b (.one (.str s0))),(2,Pt 101 0),(3,Pt 102 0),(4,Pt 103 0),(5,Pt 104 0)],[(101,.bb 83 [.row 107]),(102,.box 38 [.i 0,.i 0]),(103,.box 149 (kH d0)),(104,.bb 151 [.cJ 79 [.ptr 103 0] [],.cJ 80 [.ptr 103 0] [],.cJ 81 [.ptr 103 0] [],.cJ 82 [.ptr 103 0] []]),(107,.row 91 3 (m.map bz))]⟩) [0,2,3,4,5] [101,102,103,104,107] rfl ?_)))))
 rintro⟨m,d0⟩ o4 h5 hy6
 refine ah.seq (ah.seq (ah.ae ?_))
 refine Oc om (Oc (aw rfl) (Oc (ay bo rfl rfl) (Oc (aJ cX rfl rfl rfl) (Oc om (Oc (gJ o6 rfl) ?_)))))
 refine Oc (lJ rfl rfl) (aj.aV ⟨[(0,_),(2,_),(3,_),(4,_),(5,_),(35,B (decide (d0.pos<(s0.length:Int))))],[(101,_),(102,_),(103,_),(104,_),(107,_)]⟩ rfl (ah.ite h5 rfl (fun _ h5=>?_) (fun _ h5=>?_)))
 refine ah.skip (Fin.aF ⟨[(0,_),(2,_),(3,_),(4,_),(5,_)],[(101,_),(102,_),(103,_),(104,_),(107,_)]⟩ rfl (Fin.then ?_))
 obtain⟨v7,h8,h5⟩:=aK h5
 refine ah.o8 (v:=v7) (qz fun (ad:List Token) (d1:Scan)=>⟨[(0,.b (.one (.str s0))),(2,Pt 101 0),(3,Pt 102 0),(4,Pt 103 0),(5,Pt 104 0)],[(101,.bb 83 [.row 107]),(102,.box 38 [.i 0,.i 0]),(103,.box 149 (kH d1)),(104,.bb 151 [.cJ 79 [.ptr 103 0] [],.cJ 80 [.ptr 103 0] [],.cJ 81 [.ptr 103 0] [],.cJ 82 [.ptr 103 0] []]),(107,.row 91 3 (ad.map bz))]⟩) (fun z=>.inl z) ?_ ?_
 refine ah.block (ah.seq (ah.ae ?_))
 refine Oc (GY EP rfl rfl rfl rfl) (Oc om (aj.aV ⟨[(0,_),(2,_),(3,_),(4,_),(5,_),(38,.kF [.cJ 79 [.ptr 103 0] [],.cJ 80 [.ptr 103 0] [],.cJ 81 [.ptr 103 0] [],.cJ 82 [.ptr 103 0] []]),(39,I 0)],[(101,_),(102,_),(103,_),(104,_),(107,_)]⟩ rfl (ah.block ?_)))
 obtain⟨v9,h10,h8⟩:=aK h8
 refine ah.qX h10 (qz fun (am:Scan) (ac:Int)=>⟨[(0,.b (.one (.str s0))),(2,Pt 101 0),(3,Pt 102 0),(4,Pt 103 0),(5,Pt 104 0),(38,.kF [.cJ 79 [.ptr 103 0] [],.cJ 80 [.ptr 103 0] [],.cJ 81 [.ptr 103 0] [],.cJ 82 [.ptr 103 0] []]),(39,I ac)],[(101,.bb 83 [.row 107]),(102,.box 38 [.i 0,.i 0]),(103,.box 149 (kH am)),(104,.bb 151 [.cJ 79 [.ptr 103 0] [],.cJ 80 [.ptr 103 0] [],.cJ 81 [.ptr 103 0] [],.cJ 82 [.ptr 103 0] []]),(107,.row 91 3 (m.map bz))]⟩) [0,2,3,4,5,38,39] [101,102,103,104,107] rfl ?_
 rintro⟨am,ac⟩ o11 h12 hy13
 refine ah.seq (ah.ae ?_)
 refine Oc (lJ rfl rfl) (aj.aV ⟨[(0,_),(2,_),(3,_),(4,_),(5,_),(38,_),(39,_),(40,B (decide (ac<4)))],[(101,_),(102,_),(103,_),(104,_),(107,_)]⟩ rfl (ah.seq (ah.ite h12 rfl (fun _ h12=>?_) (fun _ h12=>?_))))
 refine ah.skip (Fin.aF ⟨[(0,_),(2,_),(3,_),(4,_),(5,_),(38,_),(39,_)],[(101,_),(102,_),(103,_),(104,_),(107,_)]⟩ rfl (Fin.then (ah.seq (ah.block (ah.seq ?_)))))
 refine HB h12 (fun hc14 h12=>?_) (fun _ h12=>?_)
 refine ah.ae (Oc (qj wK wI (show ac=0 from of_decide_eq_true hc14) (by decide) rfl rfl rfl) (Oc oa (aj.aV ⟨[(0,_),(2,_),(3,_),(4,_),(5,_),(7,.b (.cJ 79 [.ptr 103 0] [])),(38,_),(39,_)],[(101,_),(102,_),(103,_),(104,_),(107,_)]⟩ rfl (ah.seq (ah.ae ?_)))))
 refine Oc om ?_
 obtain⟨c3,e15,h12⟩:=aK h12
 refine HI h12 (fun an hp16 h12=>?iE) (fun z hp16 h12=>?_)
 case iE=>
  subst c3
  refine aj.wZ (own_a:=[(103,_)]) ((sq e15).sw 1 103) KX rfl rfl rfl ⟨rfl,trivial⟩ (fun hok=>(Fin.bC (Fin.b6 (Fin.bC ?_))))
  obtain rfl:=hy13 _ (zaa h12).symm
  refine Fin.bC (Fin.b6 (Fin.b6 ?_))
  obtain rfl:=zaa h8
  refine Fin.bC ?_
  obtain rfl:=hy6 _ (zaa h5).symm
  refine Fin.bC (Fin.b6 (Fin.bC (Fin.ug (own_c:=[(101,_),(102,_),(107,_)]) hlink hvals (fU hok) Ap rfl rfl ⟨rfl,rfl,rfl,trivial⟩ rfl rfl (rE rfl rfl rfl rfl) ?_)))
  obtain rfl:=zaa h
  refine Fin.aF ⟨[(2,Pt 101 0),(3,Pt 102 0)],[(101,.bb 83 [.one (.nil)]),(102,.box 38 [.i an.At,.i an.E])]⟩ rfl (Fin.Hk 101 rfl rfl (Fin.pf 101 0 3 rfl rfl (by decide) (Fin.fi [.one (.sl 3 ([].map bz)),.agg [.i an.At,.i an.E]] (.inl rfl) rfl (.cons (.one fQ rfl rfl rfl) (.cons (.agg lM rfl rfl rfl rfl) .nil)) ⟨rfl,rfl⟩)))
 subst c3
 obtain⟨ch,ci,be,bi⟩:=z
 refine Oc (tj (own_a:=[(103,_)]) ((ru e15).sw 1 103) KX rfl rfl rfl ⟨rfl,trivial⟩ rfl rfl) (Oc om (Oc (cM rfl rfl) (Oc (cM rfl rfl) (aj.aF ⟨[(0,.b (.one (.str s0))),(2,_),(3,_),(4,Pt 103 0),(5,Pt 104 0),(38,.kF [.cJ 79 [.ptr 103 0] [],.cJ 80 [.ptr 103 0] [],.cJ 81 [.ptr 103 0] [],.cJ 82 [.ptr 103 0] []]),(39,I ac),(45,.b (.agg (bz ch))),(46,B ci)],[(101,.bb 83 [.row 107]),(102,.box 38 [.i 0,.i 0]),(103,.box 149 [.str be,.i bi]),(104,.bb 151 [.cJ 79 [.ptr 103 0] [],.cJ 80 [.ptr 103 0] [],.cJ 81 [.ptr 103 0] [],.cJ 82 [.ptr 103 0] []]),(107,.row 91 3 (m.map bz))]⟩ rfl (Oc (cE (k:=108) kI rfl) (Oc (aX dh rfl rfl rfl rfl (zab rfl) rfl) (Oc oa (aj.aV ⟨[(0,_),(2,_),(3,_),(4,_),(5,_),(8,Pt 108 0),(9,B ci),(38,_),(39,_)],[(101,_),(102,_),(103,_),(104,_),(107,_),(108,.box 91 (bz ch))]⟩ rfl (ah.seq (ah.ae ?_))))))))))
 refine Oc om (aj.aV ⟨[(0,_),(2,_),(3,_),(4,_),(5,_),(8,_),(38,_),(39,_),(47,B ci)],[(101,_),(102,_),(103,_),(104,_),(107,_),(108,_)]⟩ rfl (ah.ite h12 rfl (fun _ h12=>?_) (fun _ h12=>?_)))
 refine ah.seq (ah.ae ?_)
 refine Oc (cD fQ rfl rfl rfl) (Oc (lp dh) (Oc (dq (k:=109) (es:=[ch].map bz) s7 rfl rfl (jN fun _=>rfl) rfl (by decide) (by decide) rfl) (aj.forget 101 0 rfl ?_)))
 obtain⟨c4,e17,h12⟩:=aK h12
 refine Oc (ia s7 (yO e17) (yN e17) rfl rfl rfl rfl (qe e17) rfl) (Oc (fA fQ rfl rfl rfl rfl (zab rfl) rfl) (aj.aV ⟨[(0,.b (.one (.str s0))),(2,Pt 101 0),(3,Pt 102 0),(4,Pt 103 0),(5,Pt 104 0)],[(101,.bb 83 [.row 107]),(102,.box 38 [.i 0,.i 0]),(103,.box 149 [.str be,.i bi]),(104,.bb 151 [.cJ 79 [.ptr 103 0] [],.cJ 80 [.ptr 103 0] [],.cJ 81 [.ptr 103 0] [],.cJ 82 [.ptr 103 0] []]),(107,.row 91 3 (c4.map bz))]⟩ rfl (ah.exit (Fin.fD (by decide) (Fin.bB ?_)))))
 obtain rfl:=hy13 _ (zaa h12).symm
 refine Fin.bB (Fin.cN (Fin.bF ?_))
 exact Fin.join [0,2,3,4,5] [101,102,103,104,107] (c4,(⟨be,bi⟩:Scan)) (zaa h8) rfl
 refine ah.skip (Fin.bF (Fin.aF ⟨[(0,_),(2,_),(3,_),(4,_),(5,_),(38,_),(39,_)],[(101,_),(102,_),(103,_),(104,_),(107,_)]⟩ rfl (Fin.then (ah.ae ?_))))
 refine Oc (eM rfl rfl) (Oc om (aj.nil ?_))
 exact Fin.kq [0,2,3,4,5,38,39] [101,102,103,104,107] ((⟨be,bi⟩:Scan),i64.wrap (ac+1)) (zaa h12) rfl
 refine HB h12 (fun hc18 h12=>?_) (fun _ h12=>?_)
 refine ah.ae (Oc (qj wK wI (show ac=1 from of_decide_eq_true hc18) (by decide) rfl rfl rfl) (Oc oa (aj.aV ⟨[(0,_),(2,_),(3,_),(4,_),(5,_),(7,.b (.cJ 80 [.ptr 103 0] [])),(38,_),(39,_)],[(101,_),(102,_),(103,.box 149 (kH am)),(104,_),(107,_)]⟩ rfl (ah.seq (ah.ae ?_)))))
 refine Oc om ?_
 obtain⟨c5,e19,h12⟩:=aK h12
 refine HI h12 (fun bk hp20 h12=>?iE) (fun z hp20 h12=>?_)
 case iE=>
  subst c5
  refine aj.wZ (own_a:=[(103,_)]) ((qT e19).sw 1 103) KW rfl rfl rfl ⟨rfl,trivial⟩ (fun hok=>(Fin.bC (Fin.b6 (Fin.bC ?_))))
  obtain rfl:=hy13 _ (zaa h12).symm
  refine Fin.bC (Fin.b6 (Fin.b6 ?_))
  obtain rfl:=zaa h8
  refine Fin.bC ?_
  obtain rfl:=hy6 _ (zaa h5).symm
  refine Fin.bC (Fin.b6 (Fin.bC (Fin.ug (own_c:=[(101,_),(102,_),(107,_)]) hlink hvals (fU hok) Ap rfl rfl ⟨rfl,rfl,rfl,trivial⟩ rfl rfl (rE rfl rfl rfl rfl) ?_)))
  obtain rfl:=zaa h
  refine Fin.aF ⟨[(2,Pt 101 0),(3,Pt 102 0)],[(101,.bb 83 [.one (.nil)]),(102,.box 38 [.i bk.At,.i bk.E])]⟩ rfl (Fin.Hk 101 rfl rfl (Fin.pf 101 0 3 rfl rfl (by decide) (Fin.fi [.one (.sl 3 ([].map bz)),.agg [.i bk.At,.i bk.E]] (.inl rfl) rfl (.cons (.one fQ rfl rfl rfl) (.cons (.agg lM rfl rfl rfl rfl) .nil)) ⟨rfl,rfl⟩)))
 subst c5
 obtain⟨co,cp,bs,b0⟩:=z
 refine Oc (tj (own_a:=[(103,_)]) ((pW e19).sw 1 103) KW rfl rfl rfl ⟨rfl,trivial⟩ rfl rfl) (Oc om (Oc (cM rfl rfl) (Oc (cM rfl rfl) (aj.aF ⟨[(0,.b (.one (.str s0))),(2,_),(3,_),(4,Pt 103 0),(5,Pt 104 0),(38,.kF [.cJ 79 [.ptr 103 0] [],.cJ 80 [.ptr 103 0] [],.cJ 81 [.ptr 103 0] [],.cJ 82 [.ptr 103 0] []]),(39,I ac),(45,.b (.agg (bz co))),(46,B cp)],[(101,.bb 83 [.row 107]),(102,.box 38 [.i 0,.i 0]),(103,.box 149 [.str bs,.i b0]),(104,.bb 151 [.cJ 79 [.ptr 103 0] [],.cJ 80 [.ptr 103 0] [],.cJ 81 [.ptr 103 0] [],.cJ 82 [.ptr 103 0] []]),(107,.row 91 3 (m.map bz))]⟩ rfl (Oc (cE (k:=110) kI rfl) (Oc (aX dh rfl rfl rfl rfl (zab rfl) rfl) (Oc oa (aj.aV ⟨[(0,_),(2,_),(3,_),(4,_),(5,_),(8,Pt 110 0),(9,B cp),(38,_),(39,_)],[(101,_),(102,_),(103,_),(104,_),(107,_),(110,.box 91 (bz co))]⟩ rfl (ah.seq (ah.ae ?_))))))))))
 refine Oc om (aj.aV ⟨[(0,_),(2,_),(3,_),(4,_),(5,_),(8,_),(38,_),(39,_),(47,B cp)],[(101,_),(102,_),(103,_),(104,_),(107,_),(110,_)]⟩ rfl (ah.ite h12 rfl (fun _ h12=>?_) (fun _ h12=>?_)))
 refine ah.seq (ah.ae ?_)
 refine Oc (cD fQ rfl rfl rfl) (Oc (lp dh) (Oc (dq (k:=111) (es:=[co].map bz) s7 rfl rfl (jN fun _=>rfl) rfl (by decide) (by decide) rfl) (aj.forget 101 0 rfl ?_)))
 obtain⟨c6,e21,h12⟩:=aK h12
 refine Oc (ia s7 (yO e21) (yN e21) rfl rfl rfl rfl (qe e21) rfl) (Oc (fA fQ rfl rfl rfl rfl (zab rfl) rfl) (aj.aV ⟨[(0,.b (.one (.str s0))),(2,Pt 101 0),(3,Pt 102 0),(4,Pt 103 0),(5,Pt 104 0)],[(101,.bb 83 [.row 107]),(102,.box 38 [.i 0,.i 0]),(103,.box 149 [.str bs,.i b0]),(104,.bb 151 [.cJ 79 [.ptr 103 0] [],.cJ 80 [.ptr 103 0] [],.cJ 81 [.ptr 103 0] [],.cJ 82 [.ptr 103 0] []]),(107,.row 91 3 (c6.map bz))]⟩ rfl (ah.exit (Fin.fD (by decide) (Fin.bB ?_)))))
 obtain rfl:=hy13 _ (zaa h12).symm
 refine Fin.bB (Fin.cN (Fin.bF ?_))
 exact Fin.join [0,2,3,4,5] [101,102,103,104,107] (c6,(⟨bs,b0⟩:Scan)) (zaa h8) rfl
 refine ah.skip (Fin.bF (Fin.aF ⟨[(0,_),(2,_),(3,_),(4,_),(5,_),(38,_),(39,_)],[(101,_),(102,_),(103,_),(104,_),(107,_)]⟩ rfl (Fin.then (ah.ae ?_))))
 refine Oc (eM rfl rfl) (Oc om (aj.nil ?_))
 exact Fin.kq [0,2,3,4,5,38,39] [101,102,103,104,107] ((⟨bs,b0⟩:Scan),i64.wrap (ac+1)) (zaa h12) rfl
 refine HB h12 (fun hc22 h12=>?_) (fun _ h12=>?_)
 refine ah.ae (Oc (qj wK wI (show ac=2 from of_decide_eq_true hc22) (by decide) rfl rfl rfl) (Oc oa (aj.aV ⟨[(0,_),(2,_),(3,_),(4,_),(5,_),(7,.b (.cJ 81 [.ptr 103 0] [])),(38,_),(39,_)],[(101,_),(102,_),(103,.box 149 (kH am)),(104,_),(107,_)]⟩ rfl (ah.seq (ah.ae ?_)))))
 refine Oc om ?_
 obtain⟨c7,e23,h12⟩:=aK h12
 refine HI h12 (fun b1 hp24 h12=>?iE) (fun z hp24 h12=>?_)
 case iE=>
  subst c7
  refine aj.wZ (own_a:=[(103,_)]) ((sn e23).sw 1 103) KV rfl rfl rfl ⟨rfl,trivial⟩ (fun hok=>(Fin.bC (Fin.b6 (Fin.bC ?_))))
  obtain rfl:=hy13 _ (zaa h12).symm
  refine Fin.bC (Fin.b6 (Fin.b6 ?_))
  obtain rfl:=zaa h8
  refine Fin.bC ?_
  obtain rfl:=hy6 _ (zaa h5).symm
  refine Fin.bC (Fin.b6 (Fin.bC (Fin.ug (own_c:=[(101,_),(102,_),(107,_)]) hlink hvals (fU hok) Ap rfl rfl ⟨rfl,rfl,rfl,trivial⟩ rfl rfl (rE rfl rfl rfl rfl) ?_)))
  obtain rfl:=zaa h
  refine Fin.aF ⟨[(2,Pt 101 0),(3,Pt 102 0)],[(101,.bb 83 [.one (.nil)]),(102,.box 38 [.i b1.At,.i b1.E])]⟩ rfl (Fin.Hk 101 rfl rfl (Fin.pf 101 0 3 rfl rfl (by decide) (Fin.fi [.one (.sl 3 ([].map bz)),.agg [.i b1.At,.i b1.E]] (.inl rfl) rfl (.cons (.one fQ rfl rfl rfl) (.cons (.agg lM rfl rfl rfl rfl) .nil)) ⟨rfl,rfl⟩)))
 subst c7
 obtain⟨cs,c0,b2,b3⟩:=z
 refine Oc (tj (own_a:=[(103,_)]) ((rp e23).sw 1 103) KV rfl rfl rfl ⟨rfl,trivial⟩ rfl rfl) (Oc om (Oc (cM rfl rfl) (Oc (cM rfl rfl) (aj.aF ⟨[(0,.b (.one (.str s0))),(2,_),(3,_),(4,Pt 103 0),(5,Pt 104 0),(38,.kF [.cJ 79 [.ptr 103 0] [],.cJ 80 [.ptr 103 0] [],.cJ 81 [.ptr 103 0] [],.cJ 82 [.ptr 103 0] []]),(39,I ac),(45,.b (.agg (bz cs))),(46,B c0)],[(101,.bb 83 [.row 107]),(102,.box 38 [.i 0,.i 0]),(103,.box 149 [.str b2,.i b3]),(104,.bb 151 [.cJ 79 [.ptr 103 0] [],.cJ 80 [.ptr 103 0] [],.cJ 81 [.ptr 103 0] [],.cJ 82 [.ptr 103 0] []]),(107,.row 91 3 (m.map bz))]⟩ rfl (Oc (cE (k:=112) kI rfl) (Oc (aX dh rfl rfl rfl rfl (zab rfl) rfl) (Oc oa (aj.aV ⟨[(0,_),(2,_),(3,_),(4,_),(5,_),(8,Pt 112 0),(9,B c0),(38,_),(39,_)],[(101,_),(102,_),(103,_),(104,_),(107,_),(112,.box 91 (bz cs))]⟩ rfl (ah.seq (ah.ae ?_))))))))))
 refine Oc om (aj.aV ⟨[(0,_),(2,_),(3,_),(4,_),(5,_),(8,_),(38,_),(39,_),(47,B c0)],[(101,_),(102,_),(103,_),(104,_),(107,_),(112,_)]⟩ rfl (ah.ite h12 rfl (fun _ h12=>?_) (fun _ h12=>?_)))
 refine ah.seq (ah.ae ?_)
 refine Oc (cD fQ rfl rfl rfl) (Oc (lp dh) (Oc (dq (k:=113) (es:=[cs].map bz) s7 rfl rfl (jN fun _=>rfl) rfl (by decide) (by decide) rfl) (aj.forget 101 0 rfl ?_)))
 obtain⟨dd,e25,h12⟩:=aK h12
 refine Oc (ia s7 (yO e25) (yN e25) rfl rfl rfl rfl (qe e25) rfl) (Oc (fA fQ rfl rfl rfl rfl (zab rfl) rfl) (aj.aV ⟨[(0,.b (.one (.str s0))),(2,Pt 101 0),(3,Pt 102 0),(4,Pt 103 0),(5,Pt 104 0)],[(101,.bb 83 [.row 107]),(102,.box 38 [.i 0,.i 0]),(103,.box 149 [.str b2,.i b3]),(104,.bb 151 [.cJ 79 [.ptr 103 0] [],.cJ 80 [.ptr 103 0] [],.cJ 81 [.ptr 103 0] [],.cJ 82 [.ptr 103 0] []]),(107,.row 91 3 (dd.map bz))]⟩ rfl (ah.exit (Fin.fD (by decide) (Fin.bB ?_)))))
 obtain rfl:=hy13 _ (zaa h12).symm
 refine Fin.bB (Fin.cN (Fin.bF ?_))
 exact Fin.join [0,2,3,4,5] [101,102,103,104,107] (dd,(⟨b2,b3⟩:Scan)) (zaa h8) rfl
 refine ah.skip (Fin.bF (Fin.aF ⟨[(0,_),(2,_),(3,_),(4,_),(5,_),(38,_),(39,_)],[(101,_),(102,_),(103,_),(104,_),(107,_)]⟩ rfl (Fin.then (ah.ae ?_))))
 refine Oc (eM rfl rfl) (Oc om (aj.nil ?_))
 exact Fin.kq [0,2,3,4,5,38,39] [101,102,103,104,107] ((⟨b2,b3⟩:Scan),i64.wrap (ac+1)) (zaa h12) rfl
 refine HB h12 (fun hc26 h12=>?_) (fun _ h12=>?_)
 refine ah.ae (Oc (qj wK wI (show ac=3 from of_decide_eq_true hc26) (by decide) rfl rfl rfl) (Oc oa (aj.aV ⟨[(0,_),(2,_),(3,_),(4,_),(5,_),(7,.b (.cJ 82 [.ptr 103 0] [])),(38,_),(39,_)],[(101,_),(102,_),(103,.box 149 (kH am)),(104,_),(107,_)]⟩ rfl (ah.seq (ah.ae ?_)))))
 refine Oc om ?_
 obtain⟨dg,e27,h12⟩:=aK h12
 refine HI h12 (fun cd hp28 h12=>?iE) (fun z hp28 h12=>?_)
 case iE=>
  subst dg
  refine aj.wZ (own_a:=[(103,_)]) ((so e27).sw 1 103) KU rfl rfl rfl ⟨rfl,trivial⟩ (fun hok=>(Fin.bC (Fin.b6 (Fin.bC ?_))))
  obtain rfl:=hy13 _ (zaa h12).symm
  refine Fin.bC (Fin.b6 (Fin.b6 ?_))
  obtain rfl:=zaa h8
  refine Fin.bC ?_
  obtain rfl:=hy6 _ (zaa h5).symm
  refine Fin.bC (Fin.b6 (Fin.bC (Fin.ug (own_c:=[(101,_),(102,_),(107,_)]) hlink hvals (fU hok) Ap rfl rfl ⟨rfl,rfl,rfl,trivial⟩ rfl rfl (rE rfl rfl rfl rfl) ?_)))
  obtain rfl:=zaa h
  refine Fin.aF ⟨[(2,Pt 101 0),(3,Pt 102 0)],[(101,.bb 83 [.one (.nil)]),(102,.box 38 [.i cd.At,.i cd.E])]⟩ rfl (Fin.Hk 101 rfl rfl (Fin.pf 101 0 3 rfl rfl (by decide) (Fin.fi [.one (.sl 3 ([].map bz)),.agg [.i cd.At,.i cd.E]] (.inl rfl) rfl (.cons (.one fQ rfl rfl rfl) (.cons (.agg lM rfl rfl rfl rfl) .nil)) ⟨rfl,rfl⟩)))
 subst dg
 obtain⟨c1,c2,ce⟩:=z
 refine Oc (tj (own_a:=[(103,_)]) ((rq e27).sw 1 103) KU rfl rfl rfl ⟨rfl,trivial⟩ rfl rfl) (Oc om (Oc (cM rfl rfl) (Oc (cM rfl rfl) (aj.aF ⟨[(0,.b (.one (.str s0))),(2,_),(3,_),(4,Pt 103 0),(5,Pt 104 0),(38,.kF [.cJ 79 [.ptr 103 0] [],.cJ 80 [.ptr 103 0] [],.cJ 81 [.ptr 103 0] [],.cJ 82 [.ptr 103 0] []]),(39,I ac),(45,.b (.agg (bz c1))),(46,B c2)],[(101,.bb 83 [.row 107]),(102,.box 38 [.i 0,.i 0]),(103,.box 149 [.str am.s,.i ce]),(104,.bb 151 [.cJ 79 [.ptr 103 0] [],.cJ 80 [.ptr 103 0] [],.cJ 81 [.ptr 103 0] [],.cJ 82 [.ptr 103 0] []]),(107,.row 91 3 (m.map bz))]⟩ rfl (Oc (cE (k:=114) kI rfl) (Oc (aX dh rfl rfl rfl rfl (zab rfl) rfl) (Oc oa (aj.aV ⟨[(0,_),(2,_),(3,_),(4,_),(5,_),(8,Pt 114 0),(9,B c2),(38,_),(39,_)],[(101,_),(102,_),(103,_),(104,_),(107,_),(114,.box 91 (bz c1))]⟩ rfl (ah.seq (ah.ae ?_))))))))))
 refine Oc om (aj.aV ⟨[(0,_),(2,_),(3,_),(4,_),(5,_),(8,_),(38,_),(39,_),(47,B c2)],[(101,_),(102,_),(103,_),(104,_),(107,_),(114,_)]⟩ rfl (ah.ite h12 rfl (fun _ h12=>?_) (fun _ h12=>?_)))
 refine ah.seq (ah.ae ?_)
 refine Oc (cD fQ rfl rfl rfl) (Oc (lp dh) (Oc (dq (k:=115) (es:=[c1].map bz) s7 rfl rfl (jN fun _=>rfl) rfl (by decide) (by decide) rfl) (aj.forget 101 0 rfl ?_)))
 obtain⟨dr,e29,h12⟩:=aK h12
 refine Oc (ia s7 (yO e29) (yN e29) rfl rfl rfl rfl (qe e29) rfl) (Oc (fA fQ rfl rfl rfl rfl (zab rfl) rfl) (aj.aV ⟨[(0,.b (.one (.str s0))),(2,Pt 101 0),(3,Pt 102 0),(4,Pt 103 0),(5,Pt 104 0)],[(101,.bb 83 [.row 107]),(102,.box 38 [.i 0,.i 0]),(103,.box 149 [.str am.s,.i ce]),(104,.bb 151 [.cJ 79 [.ptr 103 0] [],.cJ 80 [.ptr 103 0] [],.cJ 81 [.ptr 103 0] [],.cJ 82 [.ptr 103 0] []]),(107,.row 91 3 (dr.map bz))]⟩ rfl (ah.exit (Fin.fD (by decide) (Fin.bB ?_)))))
 obtain rfl:=hy13 _ (zaa h12).symm
 refine Fin.bB (Fin.cN (Fin.bF ?_))
 exact Fin.join [0,2,3,4,5] [101,102,103,104,107] (dr,(⟨am.s,ce⟩:Scan)) (zaa h8) rfl
 refine ah.skip (Fin.bF (Fin.aF ⟨[(0,_),(2,_),(3,_),(4,_),(5,_),(38,_),(39,_)],[(101,_),(102,_),(103,_),(104,_),(107,_)]⟩ rfl (Fin.then (ah.ae ?_))))
 refine Oc (eM rfl rfl) (Oc om (aj.nil ?_))
 exact Fin.kq [0,2,3,4,5,38,39] [101,102,103,104,107] ((⟨am.s,ce⟩:Scan),i64.wrap (ac+1)) (zaa h12) rfl
 exact absurd h12 (by simp)
 refine ah.exit (Fin.bB ?_)
 obtain rfl:=hy13 _ (zaa h12).symm
 refine Fin.bB (Fin.cN (Fin.bF ?_))
 exact Fin.join [0,2,3,4,5] [101,102,103,104,107] (m,am) (zaa h8) rfl
 rintro⟨ad,d1⟩ hv
 subst v7
 refine ah.ae (Oc om ?_)
 obtain⟨⟨d2,d3⟩,e30,h5⟩:=aK h5
 refine Oc (dN (own_a:=[(103,_)]) ((lz e30).sw 1 103) KT rfl ⟨rfl,trivial⟩ rfl rfl) (aj.nil ?_)
 exact Fin.kq [0,2,3,4,5] [101,102,103,104,107] (ad,(⟨d2,d3⟩:Scan)) (zaa h5) rfl
 refine ah.exit (Fin.bB ?_)
 obtain rfl:=hy6 _ (zaa h5).symm
 refine Fin.bB (Fin.cN ?_)
 exact Fin.join [2,3] [101,102,107] m rfl rfl
 rintro y hv
 subst v1
 refine ah.seq (ah.aF ⟨[(2,_),(3,_)],[(101,_),(102,_),(107,_)]⟩ rfl (ah.zN mixed [false,false,true,true] [.b (.row 107),.b (.agg [.i 0,.i 0]),B true,B true] [⟨[false,false,false,false],[(2,Pt 101 0),(3,Pt 102 0)],[(101,.bb 83 [.row 107]),(102,.box 38 [.i 0,.i 0]),(107,.row 91 3 (y.map bz))],[true,true,true,true],[],[3]⟩,⟨[false,false,true,false],[(2,Pt 101 0),(3,Pt 102 0)],[(101,.bb 83 [.row 107]),(102,.box 38 [.i 0,.i 0]),(107,.row 91 3 (y.map bz))],[true,true,true,true],[0,2],[]⟩,⟨[false,false,true,true],[(2,Pt 101 0),(3,Pt 102 0)],[(101,.bb 83 [.row 107]),(102,.box 38 [.i 0,.i 0]),(107,.row 91 3 (y.map bz))],[true,true,true,true],[0,1,2,3],[]⟩] rfl (⟨by kernel_rfl,⟨⟨.b (.row 107),fun _=>rfl,fun _=>.p (by exact cD fQ rfl rfl rfl)⟩,⟨.b (.agg [.i 0,.i 0]),fun _=>rfl,fun _=>.p (by exact uu lM rfl rfl rfl rfl)⟩,⟨_,[],.b (.one .any),rfl,(fun e=>by simp at e),rfl,rfl,fun _=>.IP [101,102,107] (by exact .p (by exact fA fQ rfl rfl rfl rfl (zab rfl) rfl)) (by exact rfl)⟩,trivial,trivial⟩,⟨by kernel_rfl,⟨trivial,⟨.b (.agg [.i 0,.i 0]),fun _=>rfl,fun _=>.p (by exact uu lM rfl rfl rfl rfl)⟩,trivial,⟨_,[],.b (.one .any),rfl,(fun e=>by simp at e),rfl,rfl,fun _=>.IP [101,102,107] (by exact .p (by exact aX lM rfl rfl rfl rfl (zab rfl) rfl)) (by exact rfl)⟩,trivial⟩,⟨by kernel_rfl,⟨trivial,trivial,trivial,trivial,trivial⟩,trivial⟩⟩⟩) rfl rfl rfl [2,3] [101,102,107] (s':=⟨[(2,_),(3,_)],[(101,_),(102,_),(107,_)]⟩) rfl (ah.ret ?_)))
 obtain rfl:=zaa h
 refine Fin.doorRet hlink uT (by rw[← hvals.length];rfl) Ap (.inl rfl) (rE rfl rfl rfl rfl) (Fin.aF ⟨[(2,Pt 101 0),(3,Pt 102 0)],[(101,.bb 83 [.row 107]),(102,.box 38 [.i 0,.i 0]),(107,.row 91 3 (y.map bz))]⟩ rfl (Fin.im 107 rfl (Fin.Hk 101 rfl rfl (Fin.fi [.one (.sl 3 (y.map bz)),.agg [.i 0,.i 0]] (.inl rfl) rfl (.cons (.one fQ rfl rfl rfl) (.cons (.agg lM rfl rfl rfl rfl) .nil)) ⟨rfl,rfl⟩))))
def tw (F:Nat) (a0:bc) (b0:bc):Option bc :=
 (dx F [a0,b0]).bind fun ch=>if (!ch)=true then ((cO F).bind fun ci=>some ci) else ((iu F a0.W).bind fun co=>(iu F b0.W).bind fun bk=>Option.bind (iter F (qz fun an ac=>if (decide (ac<co))=true then (Option.bind (Option.bind (iter F (Hl fun v m y=>if (decide (y<bk))=true then ((aD a0.W.l ac).bind fun bb=>(aD b0.W.l y).bind fun be=>(aD v.l (i64.wrap (ac+y))).bind fun bi=>bA (u64.wrap (m+(u64.wrap ((u64.wrap ((u64.wrap bb)*(u64.wrap be)))+(u64.wrap bi))))) fun b1=>(aD v.l (i64.wrap (ac+y))).bind fun cp=>bA (u64.wrap (m+(u64.wrap ((u64.wrap ((u64.wrap bb)*(u64.wrap be)))+(u64.wrap bi))))) fun b2=>some (.inl (v.set (i64.wrap (ac+y)) (u32.wrap b1),b2/4294967296,i64.wrap (y+1)))) else (some (.inr (v,m)))) (an,0,0)) (qz fun ad am=>(aD ad.l (i64.wrap (ac+bk))).bind fun cs=>some (ad.set (i64.wrap (ac+bk)) (u32.wrap am)))) (fun bs=>some (.inl (bs,i64.wrap (ac+1))))) else (some (.inr an))) (uX.zero,0)) (fun h=>bA (⟨h.a16,h.a17,h.a18,h.a19,h.a20,h.a21,h.a22,h.a23,h.a24,h.a25,h.a26,h.a27,h.a28,h.a29,h.a30,h.a31⟩:aY) fun b3=>if (decide (b3≠aY.zero))=true then ((cO F).bind fun cd=>some cd) else ((cP F (a0.Neg != b0.Neg) (⟨h.a0,h.a1,h.a2,h.a3,h.a4,h.a5,h.a6,h.a7,h.a8,h.a9,h.a10,h.a11,h.a12,h.a13,h.a14,h.a15⟩:aY)).bind fun ce=>some ce)))
theorem Bz {F:Nat} {a0 b0 r:bc} (h:tw F a0 b0=some r):aI prog (ax mx) 184 [] [.agg (cG a0),.agg (cG b0)] (Is [] (.b (.agg (cG r)))):=by
 unfold tw at h
 refine aI.intro 82 Tryz.func184 Tryz.ntmps184 rfl (by simp) fun E=>(ah.seq (ah.ae ?_))
 refine Oc (xQ (k:=101) rfl rfl) (Oc (xQ (k:=102) rfl rfl) (Oc (cE (k:=103) wH rfl) (aj.aV ⟨[(2,Pt 101 0),(3,Pt 102 0),(4,Pt 103 0)],[(101,.box 30 (cG a0)),(102,.box 30 (cG b0)),(103,.box 30 sM)]⟩ rfl (ah.seq (ah.seq (ah.ae ?_))))))
 refine Oc (lp dv) (Oc (lp dv) (Oc (dq (k:=104) (es:=[a0,b0].map cG) HX rfl rfl (jN fun _=>rfl) rfl (by decide) (by decide) rfl) ?_))
 obtain⟨c0,e1,h⟩:=aK h
 refine Oc (AL (sx e1) Iu rfl CP.CK) (Oc (C' rfl) (aj.aV ⟨[(2,_),(3,_),(4,_),(15,B (!c0))],[(101,_),(102,_),(103,_)]⟩ rfl (ah.ite h rfl (fun _ h=>?_) (fun _ h=>?_))))
 refine ah.seq (ah.ae ?_)
 obtain⟨cs,e2,h⟩:=aK h
 refine Oc (cy (jr e2) wz rfl rfl) (Oc (aX dv rfl rfl rfl rfl (zab rfl) rfl) (aj.aV ⟨[(4,_)],[(103,.box 30 (cG cs))]⟩ rfl (ah.ret (Fin.cx ?_))))
 obtain rfl:=zaa h
 refine Fin.aF ⟨[(4,_)],[(103,_)]⟩ rfl (Fin.fi [.agg (cG cs)] (.inl rfl) rfl (.cons (.agg dv rfl rfl rfl rfl) .nil) ⟨rfl,rfl⟩)
 refine ah.skip (Fin.aF ⟨[(2,_),(3,_),(4,_)],[(101,_),(102,_),(103,_)]⟩ rfl (Fin.then (ah.seq (ah.ae ?_))))
 refine Oc (cE (k:=105) I7 rfl) (aj.aV ⟨[(2,_),(3,_),(4,_),(5,Pt 105 0)],[(101,_),(102,_),(103,_),(105,.box 241 ((Ey .u32) uX.zero))]⟩ rfl (ah.seq ?_))
 obtain⟨b1,e3,h⟩:=aK h
 obtain⟨be,e4,h⟩:=aK h
 refine ah.oN mixed 8 [Pt 101 2,.b (.agg (eW a0.W)),I b1,Pt 102 2,.b (.agg (eW b0.W)),I be,I b1,I be] [2,3,4,5,6,7] [101,102,103,105] (s':=⟨[(2,_),(3,_),(4,_),(5,_),(6,I b1),(7,I be)],[(101,_),(102,_),(103,_),(105,_)]⟩) rfl ⟨fun _=>.p (ay oZ rfl rfl),fun _=>.p (lp gP),fun _=>.p (cy (su e3) It rfl rfl),fun _=>.p (ay oZ rfl rfl),fun _=>.p (lp gP),fun _=>.p (cy (su e4) It rfl rfl),fun _=>.p oa,fun _=>.p oa,trivial⟩ rfl rfl ?_
 obtain⟨v5,h6,h⟩:=aK h
 refine ah.o8 (v:=v5) (fun (y:uX)=>⟨[(2,Pt 101 0),(3,Pt 102 0),(4,Pt 103 0),(5,Pt 105 0)],[(101,.box 30 (cG a0)),(102,.box 30 (cG b0)),(103,.box 30 sM),(105,.box 241 ((Ey .u32) y))]⟩) (fun z=>z) ?_ ?_
 refine ah.seq (ah.ae ?_)
 refine Oc om (Oc om (aj.aV ⟨[(2,_),(3,_),(4,_),(5,_),(7,_),(23,I b1),(24,I 0)],[(101,_),(102,_),(103,_),(105,_)]⟩ rfl (ah.block (ah.qX h6 (qz fun (b3:uX) (ad:Int)=>⟨[(2,Pt 101 0),(3,Pt 102 0),(4,Pt 103 0),(5,Pt 105 0),(7,I be),(23,I b1),(24,I ad)],[(101,.box 30 (cG a0)),(102,.box 30 (cG b0)),(103,.box 30 sM),(105,.box 241 ((Ey .u32) b3))]⟩) [2,3,4,5,7,23,24] [101,102,103,105] rfl ?_))))
 rintro⟨b3,ad⟩ o7 h8 hy9
 refine ah.seq (ah.ae ?_)
 refine Oc (lJ rfl rfl) (aj.aV ⟨[(2,_),(3,_),(4,_),(5,_),(7,_),(23,_),(24,_),(25,B (decide (ad<b1)))],[(101,_),(102,_),(103,_),(105,_)]⟩ rfl (ah.seq (ah.ite h8 rfl (fun _ h8=>?_) (fun _ h8=>?_))))
 refine ah.skip (Fin.aF ⟨[(2,_),(3,_),(4,_),(5,_),(7,_),(23,_),(24,_)],[(101,_),(102,_),(103,_),(105,_)]⟩ rfl (Fin.then ?_))
 obtain⟨v10,h11,h8⟩:=aK h8
 refine ah.o8 (v:=v10) (fun (cd:uX)=>⟨[(2,Pt 101 0),(3,Pt 102 0),(4,Pt 103 0),(5,Pt 105 0),(7,I be),(23,I b1),(24,I ad)],[(101,.box 30 (cG a0)),(102,.box 30 (cG b0)),(103,.box 30 sM),(105,.box 241 ((Ey .u32) cd))]⟩) (fun z=>z) ?_ ?_
 refine ah.block (ah.seq (ah.ae ?_))
 refine Oc om (Oc oa (aj.aV ⟨[(2,_),(3,_),(4,_),(5,_),(7,_),(8,I ad),(23,_),(24,_)],[(101,_),(102,_),(103,_),(105,_)]⟩ rfl (ah.seq (ah.ae ?_))))
 refine Oc oa (aj.aV ⟨[(2,_),(3,_),(4,_),(5,_),(7,_),(8,_),(9,.b (.one (.int .u64 0))),(23,_),(24,_)],[(101,_),(102,_),(103,_),(105,_)]⟩ rfl ?_)
 obtain⟨v12,h13,h11⟩:=aK h11
 refine ah.o8 (v:=v12) (qz fun (bi:uX) (an:Int)=>⟨[(2,Pt 101 0),(3,Pt 102 0),(4,Pt 103 0),(5,Pt 105 0),(7,I be),(8,I ad),(9,.b (.one (.int .u64 an))),(23,I b1),(24,I ad)],[(101,.box 30 (cG a0)),(102,.box 30 (cG b0)),(103,.box 30 sM),(105,.box 241 ((Ey .u32) bi))]⟩) (fun z=>z) ?_ ?_
 refine ah.seq (ah.ae ?_)
 refine Oc om (Oc om (aj.aV ⟨[(2,_),(3,_),(4,_),(5,_),(7,_),(8,_),(9,_),(23,_),(24,_),(27,I be),(28,I 0)],[(101,_),(102,_),(103,_),(105,_)]⟩ rfl (ah.block (ah.qX h13 (Hl fun (bb:uX) (ac:Int) (am:Int)=>⟨[(2,Pt 101 0),(3,Pt 102 0),(4,Pt 103 0),(5,Pt 105 0),(7,I be),(8,I ad),(9,.b (.one (.int .u64 ac))),(23,I b1),(24,I ad),(27,I be),(28,I am)],[(101,.box 30 (cG a0)),(102,.box 30 (cG b0)),(103,.box 30 sM),(105,.box 241 ((Ey .u32) bb))]⟩) [2,3,4,5,7,8,9,23,24,27,28] [101,102,103,105] rfl ?_))))
 rintro⟨bb,ac,am⟩ o14 h15 hy16
 refine ah.seq (ah.ae ?_)
 refine Oc (lJ rfl rfl) (aj.aV ⟨[(2,_),(3,_),(4,_),(5,_),(7,_),(8,_),(9,_),(23,_),(24,_),(27,_),(28,_),(29,B (decide (am<be)))],[(101,_),(102,_),(103,_),(105,_)]⟩ rfl (ah.seq (ah.ite h15 rfl (fun _ h15=>?_) (fun _ h15=>?_))))
 refine ah.skip (Fin.aF ⟨[(2,_),(3,_),(4,_),(5,_),(7,_),(8,_),(9,_),(23,_),(24,_),(27,_),(28,_)],[(101,_),(102,_),(103,_),(105,_)]⟩ rfl (Fin.then (ah.seq (ah.block (ah.seq (ah.ae ?_))))))
 refine Oc om (Oc oa (aj.aV ⟨[(2,_),(3,_),(4,_),(5,_),(7,_),(8,_),(9,_),(10,I am),(23,_),(24,_),(27,_),(28,_)],[(101,_),(102,_),(103,_),(105,_)]⟩ rfl (ah.seq ?_)))
 obtain⟨bk,e17,h15⟩:=aK h15
 obtain⟨bs,e18,h15⟩:=aK h15
 obtain⟨b2,e19,h15⟩:=aK h15
 refine ah.oN mixed 20 [.b (.one (.int .u64 ac)),I ad,Pt 101 2,.b (.ptr 101 (2+(ad:Int).toNat*1)),.b (.one (.int .u32 bk)),.b (.one (.int .u64 (u64.wrap bk))),I am,Pt 102 2,.b (.ptr 102 (2+(am:Int).toNat*1)),.b (.one (.int .u32 bs)),.b (.one (.int .u64 (u64.wrap bs))),.b (.one (.int .u64 (u64.wrap ((u64.wrap bk)*(u64.wrap bs))))),I ad,I am,I (i64.wrap (ad+am)),.b (.ptr 105 (0+(i64.wrap (ad+am):Int).toNat*1)),.b (.one (.int .u32 b2)),.b (.one (.int .u64 (u64.wrap b2))),.b (.one (.int .u64 (u64.wrap ((u64.wrap ((u64.wrap bk)*(u64.wrap bs)))+(u64.wrap b2))))),.b (.one (.int .u64 (u64.wrap (ac+(u64.wrap ((u64.wrap ((u64.wrap bk)*(u64.wrap bs)))+(u64.wrap b2)))))))] [2,3,4,5,7,8,9,10,23,24,27,28] [101,102,103,105] (s':=⟨[(2,_),(3,_),(4,_),(5,_),(7,_),(8,_),(9,.b (.one (.int .u64 (u64.wrap (ac+(u64.wrap ((u64.wrap ((u64.wrap bk)*(u64.wrap bs)))+(u64.wrap b2)))))))),(10,_),(23,_),(24,_),(27,_),(28,_)],[(101,_),(102,_),(103,_),(105,_)]⟩) rfl ⟨fun _=>.p om,fun _=>.p om,fun _=>.p (ay oZ rfl rfl),fun _=>.p (mV zJ (fE e17) (np e17) rfl rfl rfl),fun _=>.p (aJ ua rfl rfl (DU (post:=[]) (k:=.u32) [.bool a0.Bad,.bool a0.Neg] e17 rfl rfl rfl)),fun _=>.p (gq xJ wq rfl),fun _=>.p om,fun _=>.p (ay oZ rfl rfl),fun _=>.p (mV zJ (fE e18) (np e18) rfl rfl rfl),fun _=>.p (aJ ua rfl rfl (DU (post:=[]) (k:=.u32) [.bool b0.Bad,.bool b0.Neg] e18 rfl rfl rfl)),fun _=>.p (gq xJ wq rfl),fun _=>.p (KE rfl rfl),fun _=>.p om,fun _=>.p om,fun _=>.p (eM rfl rfl),fun _=>.p (mV ti (fE e19) (np e19) rfl rfl rfl),fun _=>.p (aJ ua rfl rfl (DU (post:=[]) (k:=.u32) [] e19 rfl rfl rfl)),fun _=>.p (gq xJ wq rfl),fun _=>.p (eM rfl rfl),fun _=>.p (eM rfl rfl),trivial⟩ ⟨_,by exact .p oa,rfl⟩ rfl (ah.seq (ah.ae ?_))
 refine Oc om (Oc om (Oc (eM rfl rfl) ?_))
 refine aj.EE .u64 h15 rfl om (fun ce h15=>?_)
 refine Oc (gq wq xJ rfl) ?_
 obtain⟨c1,e20,h15⟩:=aK h15
 refine Oc (mV ti (fE e20) (np e20) rfl rfl rfl) (Oc (ee ua rfl rfl rfl (Le (post:=[]) (k:=.u32) [] e20 rfl rfl rfl) (IN (post:=[]) (k:=.u32) [] e20 rfl rfl (uX.J8 bb (i64.wrap (ad+am)) (u32.wrap ce)) rfl rfl)) (aj.aV ⟨[(2,_),(3,_),(4,_),(5,_),(7,_),(8,_),(9,_),(23,_),(24,_),(27,_),(28,_)],[(101,_),(102,_),(103,_),(105,.box 241 ((Ey .u32) (bb.set (i64.wrap (ad+am)) (u32.wrap ce))))]⟩ rfl (ah.ae (aj.EE .u64 h15 rfl om (fun ci h15=>?_)))))
 refine Oc (op_shr2 (m:=32) (by decide) rfl rfl rfl) (Oc oa (aj.nil (Fin.bF (Fin.aF ⟨[(2,_),(3,_),(4,_),(5,_),(7,_),(8,_),(9,.b (.one (.int .u64 (ci/4294967296)))),(23,_),(24,_),(27,_),(28,_)],[(101,_),(102,_),(103,_),(105,_)]⟩ rfl (Fin.then (ah.ae ?_))))))
 refine Oc (eM rfl rfl) (Oc om (aj.nil ?_))
 exact Fin.kq [2,3,4,5,7,8,9,23,24,27,28] [101,102,103,105] (bb.set (i64.wrap (ad+am)) (u32.wrap ce),ci/4294967296,i64.wrap (am+1)) (zaa h15) rfl
 refine ah.exit (Fin.bB ?_)
 obtain rfl:=hy16 _ (zaa h15).symm
 refine Fin.bB (Fin.cN ?_)
 exact Fin.join [2,3,4,5,7,8,9,23,24] [101,102,103,105] (bb,ac) rfl rfl
 rintro⟨bi,an⟩ hv
 subst v12
 refine ah.ae (Oc om (Oc om (Oc (eM rfl rfl) (Oc om (Oc (gq wq xJ rfl) ?_)))))
 obtain⟨c2,e21,h11⟩:=aK h11
 refine Oc (mV ti (fE e21) (np e21) rfl rfl rfl) (Oc (ee ua rfl rfl rfl (Le (post:=[]) (k:=.u32) [] e21 rfl rfl rfl) (IN (post:=[]) (k:=.u32) [] e21 rfl rfl (uX.J8 bi (i64.wrap (ad+be)) (u32.wrap an)) rfl rfl)) (aj.nil (Fin.bF ?_)))
 exact Fin.join [2,3,4,5,7,23,24] [101,102,103,105] (bi.set (i64.wrap (ad+be)) (u32.wrap an)) (zaa h11) rfl
 rintro cd hv
 subst v10
 refine ah.ae (Oc (eM rfl rfl) (Oc om (aj.nil ?_)))
 exact Fin.kq [2,3,4,5,7,23,24] [101,102,103,105] (cd,i64.wrap (ad+1)) (zaa h8) rfl
 refine ah.exit (Fin.bB ?_)
 obtain rfl:=hy9 _ (zaa h8).symm
 refine Fin.bB (Fin.cN ?_)
 exact Fin.join [2,3,4,5] [101,102,103,105] b3 rfl rfl
 rintro y hv
 subst v5
 refine ah.seq (ah.seq (ah.ae ?_))
 refine Oc (FD (i:=16) ti (by decide) (by decide) rfl rfl) (Oc (E1 zJ (by decide) rfl) (aj.consA eW h rfl (lp gP) (fun co h=>?_)))
 refine Oc (CB Cv rfl rfl) (Oc (Bm (zX co aY.zero) rfl rfl neg_dec) (aj.aV ⟨[(2,_),(3,_),(4,_),(5,_),(71,B (decide (co≠aY.zero)))],[(101,_),(102,_),(103,_),(105,_)]⟩ rfl (ah.ite h rfl (fun _ h=>?_) (fun _ h=>?_))))
 refine ah.seq (ah.ae ?_)
 obtain⟨cp,e22,h⟩:=aK h
 refine Oc (cy (jr e22) wz rfl rfl) (Oc (aX dv rfl rfl rfl rfl (zab rfl) rfl) (aj.aV ⟨[(4,_)],[(103,.box 30 (cG cp))]⟩ rfl (ah.ret (Fin.cx ?_))))
 obtain rfl:=zaa h
 refine Fin.aF ⟨[(4,_)],[(103,_)]⟩ rfl (Fin.fi [.agg (cG cp)] (.inl rfl) rfl (.cons (.agg dv rfl rfl rfl rfl) .nil) ⟨rfl,rfl⟩)
 refine ah.skip (Fin.aF ⟨[(2,_),(3,_),(4,_),(5,_)],[(101,_),(102,_),(103,_),(105,_)]⟩ rfl (Fin.then (ah.seq (ah.aF ⟨[(2,_),(3,_),(4,_),(5,_)],[(101,_),(102,_),(103,_),(105,_)]⟩ rfl ?_))))
 obtain⟨ch,e23,h⟩:=aK h
 refine ah.oN mixed 9 [Pt 101 1,B a0.Neg,Pt 102 1,B b0.Neg,B (a0.Neg != b0.Neg),.b (.Em 105 0 16 32),Pt 105 0,.b (.agg [.int .u32 y.a0,.int .u32 y.a1,.int .u32 y.a2,.int .u32 y.a3,.int .u32 y.a4,.int .u32 y.a5,.int .u32 y.a6,.int .u32 y.a7,.int .u32 y.a8,.int .u32 y.a9,.int .u32 y.a10,.int .u32 y.a11,.int .u32 y.a12,.int .u32 y.a13,.int .u32 y.a14,.int .u32 y.a15]),.b (.agg (cG ch))] [4] [103] (s':=⟨[(4,_)],[(103,.box 30 (cG ch))]⟩) rfl ⟨fun _=>.p (ay xY rfl rfl),fun _=>.p (aJ C7 rfl rfl rfl),fun _=>.p (ay xY rfl rfl),fun _=>.p (aJ C7 rfl rfl rfl),fun _=>.p (yZ und4 rfl rfl),fun _=>.p (FF (i:=16) ti (by decide) (by decide) rfl rfl),fun _=>.p (E1 zJ (by decide) rfl),fun _=>.p (lp gP),fun _=>.p (cy (qp e23) Iv rfl rfl),trivial⟩ ⟨_,by exact .p (aX dv rfl rfl rfl rfl (zab rfl) rfl),rfl⟩ rfl (ah.ret ?_)
 obtain rfl:=zaa h
 refine Fin.aF ⟨[(4,_)],[(103,_)]⟩ rfl (Fin.fi [.agg (cG ch)] (.inl rfl) rfl (.cons (.agg dv rfl rfl rfl rfl) .nil) ⟨rfl,rfl⟩)
def mZ (F:Nat) (s0:List Str):Option (List Str) :=
 bA (i64.wrap ((s0.length:Int)-1)) fun ac=>Option.bind (iter F (Hl fun h m v=>if (decide (m<v))=true then ((aD h v).bind fun y=>(aD h m).bind fun ad=>(aD h m).bind fun an=>(aD (h.set (m:Int).toNat y) v).bind fun bb=>some (.inl ((h.set (m:Int).toNat y).set (v:Int).toNat ad,i64.wrap (m+1),i64.wrap (v-1)))) else (some (.inr h))) (s0,0,ac)) (fun am=>some am)
theorem uF {F:Nat} {s0:List Str} {r:(List Str)} (h:mZ F s0=some r):aI prog (ax mx) 188 [(1,.oM 9 1 (s0.map eS))] [.row 1] (Is [(1,.oM 9 1 (r.map eS))] (.lC [])):=by
 unfold mZ at h
 refine aI.intro 28 Tryz.func188 Tryz.ntmps188 rfl (by simp) fun E=>(ah.unF 1 rfl (ah.seq (ah.ae ?_)))
 refine Oc om (Oc (ye und26 rfl rfl (List.length_map _)) ?_)
 refine aj.EE .i64 h rfl (xN rfl rfl) (fun am h=>?_)
 refine Oc oa (Oc oa (aj.aV ⟨[(0,.b (.row 1)),(2,I 0),(3,I am)],[(1,.row 9 1 (s0.map eS))]⟩ rfl (ah.block ?_)))
 obtain⟨v1,h2,h⟩:=aK h
 refine ah.qX h2 (Hl fun (y:List Str) (m:Int) (v:Int)=>⟨[(0,.b (.row 1)),(2,I m),(3,I v)],[(1,.row 9 1 (y.map eS))]⟩) [0,2,3] [1] rfl ?_
 rintro⟨y,m,v⟩ o3 h4 hy5
 refine ah.seq (ah.seq (ah.ae ?_))
 refine Oc om (Oc om (Oc (lJ rfl rfl) (aj.aV ⟨[(0,_),(2,_),(3,_),(9,B (decide (m<v)))],[(1,_)]⟩ rfl (ah.ite h4 rfl (fun _ h4=>?_) (fun _ h4=>?_)))))
 refine ah.skip (Fin.aF ⟨[(0,_),(2,_),(3,_)],[(1,_)]⟩ rfl (Fin.then (ah.seq (ah.block (ah.aF ⟨[(0,_),(2,_),(3,_)],[(1,_)]⟩ rfl ?_)))))
 obtain⟨ac,e6,h4⟩:=aK h4
 obtain⟨ad,e7,h4⟩:=aK h4
 obtain⟨an,e8,h4⟩:=aK h4
 obtain⟨bb,e9,h4⟩:=aK h4
 refine ah.wM mixed [false,false,false,false,false,false,false,false,false,false,false,false,false,true,false,true] [.b (.row 1),I m,.b (.row 1),I v,.b (.row 1),I v,.b (.gO 1 ((v:Int).toNat*1)),.b (.one (.str ac)),.b (.row 1),I m,.b (.gO 1 ((m:Int).toNat*1)),.b (.one (.str ad)),.b (.gO 1 ((m:Int).toNat*1)),B true,.b (.gO 1 ((v:Int).toNat*1)),B true] [⟨[false,false,false,false,false,false,false,false,false,false,false,false,false,false,false,false],[(0,.b (.row 1)),(2,I m),(3,I v)],[(1,.row 9 1 (y.map eS))],[true,true,true,true,true,true,true,true,true,true,true,true,true,true,true,true],[],[14,15]⟩,⟨[false,false,false,false,false,false,false,false,false,false,false,false,false,true,false,false],[(0,.b (.row 1)),(2,I m),(3,I v)],[(1,.row 9 1 ((y.set (m:Int).toNat ac).map eS))],[true,true,true,true,true,true,true,true,true,true,true,true,true,true,true,true],[0,1,4,5,6,7,8,9,10,11,12,13],[]⟩,⟨[false,false,false,false,false,false,false,false,false,false,false,false,false,true,false,true],[(0,.b (.row 1)),(2,I m),(3,I v)],[(1,.row 9 1 (((y.set (m:Int).toNat ac).set (v:Int).toNat ad).map eS))],[true,true,true,true,true,true,true,true,true,true,true,true,true,true,true,true],[0,1,2,3,4,5,6,7,8,9,10,11,12,13,14,15],[]⟩] rfl (⟨by kernel_rfl,⟨⟨.b (.row 1),fun _=>rfl,fun _=>.p (by exact cK rfl)⟩,⟨I m,fun _=>rfl,fun _=>.p (by exact cK rfl)⟩,⟨.b (.row 1),fun _=>rfl,fun _=>.p (by exact cK rfl)⟩,⟨I v,fun _=>rfl,fun _=>.p (by exact cK rfl)⟩,⟨.b (.row 1),fun _=>rfl,fun _=>.p (by exact cK rfl)⟩,⟨I v,fun _=>rfl,fun _=>.p (by exact cK rfl)⟩,⟨.b (.gO 1 ((v:Int).toNat*1)),fun _=>rfl,fun _=>.p (by exact pA pd (fE e6) (Db e6) rfl rfl rfl rfl)⟩,⟨.b (.one (.str ac)),fun _=>rfl,fun _=>.p (by exact vJ (i:=(v:Int).toNat) (f:=0) gV rfl rfl rfl (rD (e:=eS) e6) rfl)⟩,⟨.b (.row 1),fun _=>rfl,fun _=>.p (by exact cK rfl)⟩,⟨I m,fun _=>rfl,fun _=>.p (by exact cK rfl)⟩,⟨.b (.gO 1 ((m:Int).toNat*1)),fun _=>rfl,fun _=>.p (by exact pA pd (fE e7) (Db e7) rfl rfl rfl rfl)⟩,⟨.b (.one (.str ad)),fun _=>rfl,fun _=>.p (by exact vJ (i:=(m:Int).toNat) (f:=0) gV rfl rfl rfl (rD (e:=eS) e7) rfl)⟩,⟨.b (.gO 1 ((m:Int).toNat*1)),fun _=>rfl,fun _=>.p (by exact pA pd (fE e8) (Db e8) rfl rfl rfl rfl)⟩,⟨_,[],.b (.one .any),rfl,(fun e=>by simp at e),rfl,rfl,fun _=>.IP [1] (by exact .p (by exact yY (i:=(m:Int).toNat) gV rfl rfl rfl rfl (ix_lt e8) (map_set _ _ _ _))) (by exact rfl)⟩,trivial,trivial,trivial⟩,⟨by kernel_rfl,⟨trivial,trivial,⟨.b (.row 1),fun _=>rfl,fun _=>.p (by exact cK rfl)⟩,⟨I v,fun _=>rfl,fun _=>.p (by exact cK rfl)⟩,trivial,trivial,trivial,trivial,trivial,trivial,trivial,trivial,trivial,trivial,⟨.b (.gO 1 ((v:Int).toNat*1)),fun _=>rfl,fun _=>.p (by exact pA pd (fE e9) (Db e9) rfl rfl rfl rfl)⟩,⟨_,[],.b (.one .any),rfl,(fun e=>by simp at e),rfl,rfl,fun _=>.IP [1] (by exact .p (by exact yY (i:=(v:Int).toNat) gV rfl rfl rfl rfl (ix_lt e9) (map_set _ _ _ _))) (by exact rfl)⟩,trivial⟩,⟨by kernel_rfl,⟨trivial,trivial,trivial,trivial,trivial,trivial,trivial,trivial,trivial,trivial,trivial,trivial,trivial,trivial,trivial,trivial,trivial⟩,trivial⟩⟩⟩) rfl rfl rfl [0,2,3] [1] (s':=⟨[(0,_),(2,_),(3,_)],[(1,.row 9 1 (((y.set (m:Int).toNat ac).set (v:Int).toNat ad).map eS))]⟩) rfl ?_
 refine Fin.bF (Fin.aF ⟨[(0,_),(2,_),(3,_)],[(1,_)]⟩ rfl (Fin.then (ah.ae ?_)))
 refine Oc om (Oc (eM rfl rfl) (Oc om (Oc (xN rfl rfl) (Oc oa (Oc oa (aj.nil ?_))))))
 exact Fin.kq [0,2,3] [1] ((y.set (m:Int).toNat ac).set (v:Int).toNat ad,i64.wrap (m+1),i64.wrap (v-1)) (zaa h4) rfl
 refine ah.exit (Fin.bB ?_)
 obtain rfl:=hy5 _ (zaa h4).symm
 refine Fin.bB (Fin.cN ?_)
 obtain rfl:=zaa h
 refine Fin.aF ⟨[],[(1,_)]⟩ rfl (Fin.toF 1 rfl (Fin.aF ⟨[],[(1,.oM 9 1 (y.map eS))]⟩ rfl ?_))
 exact Fin.result [] (.inr rfl) rfl (.nil) ⟨rfl,rfl⟩
def oT (F:Nat) (x0:bc):Option Str :=
 (dx F [x0]).bind fun bs=>if (!bs)=true then (some []) else (Option.bind (iter F (qz fun h b0=>Option.bind (qJ F b0 1000000000) (qz fun ac b1=>(pF F (i64.wrap b1)).bind fun y=>if (decide (ac=aY.zero))=true then ((bU h [y]).bind fun b2=>some (.inr b2)) else (bA (i64.wrap (9-(y.length:Int))) fun ad=>(fC F [48] ad).bind fun am=>(bU am y).bind fun an=>(bU h [an]).bind fun bb=>some (.inl (bb,ac))))) ([],x0.W)) (fun m=>Option.bind (if x0.Neg=true then ((bU m [[45]]).bind fun be=>some be) else (some m)) (fun v=>(mZ F v).bind fun bi=>(pE F bi []).bind fun bk=>some bk)))
theorem zq {F:Nat} {x0:bc} {r:Str} (h:oT F x0=some r):aI prog (ax mx) 161 [] [.agg (cG x0)] (Is [] (.b (.one (.str r)))):=by
 unfold oT at h
 refine aI.intro 49 Tryz.func161 Tryz.ntmps161 rfl (by simp) fun E=>(ah.seq (ah.ae ?_))
 refine Oc (xQ (k:=101) rfl rfl) (Oc oa (aj.aV ⟨[(1,Pt 101 0)],[(101,.box 30 (cG x0))]⟩ rfl (ah.seq (ah.seq (ah.ae ?_)))))
 refine Oc (lp dv) (Oc (dq (k:=102) (es:=[x0].map cG) HX rfl rfl (jN fun _=>rfl) rfl (by decide) (by decide) rfl) ?_)
 obtain⟨b3,e1,h⟩:=aK h
 refine Oc (AL (sx e1) Iu rfl CP.CK) (Oc (C' rfl) (aj.aV ⟨[(1,_),(11,B (!b3))],[(101,_)]⟩ rfl (ah.ite h rfl (fun _ h=>?_) (fun _ h=>?_))))
 refine ah.seq (ah.ae ?_)
 refine Oc oa (aj.aV ⟨[(2,.b (.one (.str [])))],[]⟩ rfl (ah.ret (Fin.cx ?_)))
 obtain rfl:=zaa h
 refine Fin.aF ⟨[(2,_)],[]⟩ rfl (Fin.fi [.one (.str [])] (.inl rfl) rfl (.cons (.tmp rfl) .nil) ⟨rfl,rfl⟩)
 refine ah.skip (Fin.aF ⟨[(1,_)],[(101,_)]⟩ rfl (Fin.then (ah.seq (ah.ae ?_))))
 refine Oc oa (aj.aV ⟨[(1,_),(3,.b (.one (.nil)))],[(101,_)]⟩ rfl ?_)
 obtain⟨v2,h3,h⟩:=aK h
 refine ah.o8 (v:=v2) (fun (m:List Str)=>⟨[(1,Pt 101 0),(3,.b (.row 108))],[(101,.box 30 (cG x0)),(108,.row 9 1 (m.map eS))]⟩) (fun z=>z) ?_ ?_
 refine ah.seq (ah.ae ?_)
 refine Oc (ay oZ rfl rfl) (Oc (lp gP) (Oc (cE (k:=103) AD rfl) (Oc (aX gP rfl rfl rfl rfl (zab rfl) rfl) (aj.aV ⟨[(1,_),(3,_),(4,Pt 103 0)],[(101,_),(103,.box 28 (eW x0.W))]⟩ rfl (ah.block (ah.ko 3 108 1 9 rfl (by decide) rfl (ah.qX h3 (qz fun (ac:List Str) (bb:aY)=>⟨[(1,Pt 101 0),(3,.b (.row 108)),(4,Pt 103 0)],[(101,.box 30 (cG x0)),(103,.box 28 (eW bb)),(108,.row 9 1 (ac.map eS))]⟩) [1,3,4] [101,103,108] rfl ?_)))))))
 rintro⟨ac,bb⟩ o4 h5 hy6
 refine ah.seq (ah.block (ah.seq (ah.ae ?_)))
 refine Oc (lp gP) ?_
 obtain⟨⟨ad,be⟩,e7,h5⟩:=aK h5
 refine Oc (cy (yC e7) goes187 rfl rfl) (Oc om (Oc (cM rfl rfl) (Oc (cM rfl rfl) (aj.aF ⟨[(1,_),(3,_),(4,_),(17,.b (.agg (eW ad))),(18,.b (.one (.int .u32 be)))],[(101,_),(103,_),(108,_)]⟩ rfl (Oc (cE (k:=109) AD rfl) (Oc (aX gP rfl rfl rfl rfl (zab rfl) rfl) (Oc oa (aj.aV ⟨[(1,_),(3,_),(4,_),(5,Pt 109 0),(6,.b (.one (.int .u32 be)))],[(101,_),(103,_),(108,_),(109,.box 28 (eW ad))]⟩ rfl (ah.seq (ah.ae ?_))))))))))
 refine Oc om (Oc (gq xJ undi3 rfl) ?_)
 obtain⟨bi,e8,h5⟩:=aK h5
 refine Oc (cy (xB e8) goes166 rfl rfl) (Oc oa (aj.aV ⟨[(1,_),(3,_),(4,_),(5,_),(7,.b (.one (.str bi)))],[(101,_),(103,_),(108,_),(109,_)]⟩ rfl (ah.seq (ah.seq (ah.ae ?_)))))
 refine Oc (lp gP) (Oc (CB Cv rfl rfl) (Oc (Bn (zX ad aY.zero) rfl rfl) (aj.aV ⟨[(1,_),(3,_),(4,_),(5,_),(7,_),(24,B (decide (ad=aY.zero)))],[(101,_),(103,_),(108,_),(109,_)]⟩ rfl (ah.ite h5 rfl (fun _ h5=>?_) (fun _ h5=>?_)))))
 refine ah.seq (ah.ae ?_)
 refine Oc om (Oc om (Oc (dq (k:=110) (es:=[bi].map eS) pd rfl rfl (jN fun _=>rfl) rfl (by decide) (by decide) rfl) ?_))
 obtain⟨bk,e9,h5⟩:=aK h5
 refine Oc (ia pd (yO e9) (yN e9) rfl rfl rfl rfl (qe e9) rfl) (Oc oa (aj.aV ⟨[(1,_),(3,_)],[(101,_),(108,.row 9 1 (bk.map eS))]⟩ rfl (ah.exit (Fin.bB (Fin.fD (by decide) (Fin.bB ?_))))))
 obtain rfl:=hy6 _ (zaa h5).symm
 refine Fin.bB (Fin.cN ?_)
 exact Fin.join [1,3] [101,108] bk rfl rfl
 refine ah.skip (Fin.aF ⟨[(1,_),(3,_),(4,_),(5,_),(7,_)],[(101,_),(103,_),(108,_),(109,_)]⟩ rfl (Fin.then (ah.seq (ah.ae ?_))))
 refine Oc om (Oc om (Oc (gJ o6 rfl) ?_))
 refine aj.EE .i64 h5 rfl (xN rfl rfl) (fun bs h5=>(aj.aF ⟨[(1,_),(3,_),(4,_),(5,_),(7,_),(29,.b (.row 108)),(32,I bs)],[(101,_),(103,_),(108,_),(109,_)]⟩ rfl ?_))
 obtain⟨cd,e10,h5⟩:=aK h5
 refine Oc (cy (uE e10) goes48 rfl rfl) (Oc om ?_)
 obtain⟨b0,e11,h5⟩:=aK h5
 refine Oc (y4 e11 rfl rfl) (Oc (dq (k:=111) (es:=[b0].map eS) pd rfl rfl (jN fun _=>rfl) rfl (by decide) (by decide) rfl) ?_)
 obtain⟨am,e12,h5⟩:=aK h5
 refine Oc (ia pd (yO e12) (yN e12) rfl rfl rfl rfl (qe e12) rfl) (Oc oa (aj.aV ⟨[(1,_),(3,_),(4,_),(5,_)],[(101,_),(103,_),(108,.row 9 1 (am.map eS)),(109,_)]⟩ rfl (ah.ae (Oc (lp gP) (Oc (aX gP rfl rfl rfl rfl (zab rfl) rfl) (aj.nil (Fin.bF (Fin.aF ⟨[(1,_),(3,_),(4,_)],[(101,_),(103,.box 28 (eW ad)),(108,_)]⟩ rfl (Fin.then (ah.seq (ah.ae ?_)))))))))))
 refine Oc (lp gP) (aj.aV ⟨[(1,_),(3,_),(39,.b (.agg (eW ad)))],[(101,_),(108,_)]⟩ rfl (ah.ae (Oc (cE (k:=112) AD rfl) (Oc (aX gP rfl rfl rfl rfl (zab rfl) rfl) (aj.nil (Fin.aF ⟨[(1,Pt 101 0),(3,.b (.row 108)),(4,Pt 112 0)],[(101,.box 30 (cG x0)),(108,.row 9 1 (am.map eS)),(112,.box 28 (eW ad))]⟩ rfl (Fin.rename 112 103 rfl (by decide) rfl ?_)))))))
 exact Fin.kq [1,3,4] [101,103,108] (am,ad) (zaa h5) rfl
 rintro m hv
 subst v2
 obtain⟨v13,h14,h⟩:=aK h
 refine ah.o8 (v:=v13) (fun (y:List Str)=>⟨[(3,.b (.row 108))],[(108,.row 9 1 (y.map eS))]⟩) (fun z=>z) ?_ ?_
 refine ah.seq (ah.ae ?_)
 refine Oc (ay xY rfl rfl) (Oc (aJ C7 rfl rfl rfl) (aj.aV ⟨[(3,_),(41,B x0.Neg)],[(108,_)]⟩ rfl (ah.ite h14 rfl (fun _ h14=>?_) (fun _ h14=>?_))))
 refine ah.ae (Oc om (Oc (dq (k:=113) (es:=[[45]].map eS) pd rfl rfl (jN fun _=>rfl) rfl (by decide) (by decide) rfl) ?_))
 obtain⟨b1,e15,h14⟩:=aK h14
 refine Oc (ia pd (yO e15) (yN e15) rfl rfl rfl rfl (qe e15) rfl) (Oc oa (aj.nil ?_))
 exact Fin.join [3] [108] b1 (zaa h14) rfl
 refine ah.skip ?_
 exact Fin.join [3] [108] m (zaa h14) rfl
 rintro y hv
 subst v13
 refine ah.seq (ah.ae ?_)
 refine Oc om (aj.toF 108 rfl ?_)
 obtain⟨b2,e16,h⟩:=aK h
 refine Oc (dN (own_a:=[(108,_)]) ((uF e16).sw 1 108) goes188 rfl ⟨rfl,trivial⟩ rfl rfl) (aj.unF 108 rfl (aj.aV ⟨[(3,_)],[(108,.row 9 1 (b2.map eS))]⟩ rfl (ah.seq (ah.ae ?_))))
 refine Oc om ?_
 obtain⟨an,e17,h⟩:=aK h
 refine Oc (AL (xA e17) goes189 rfl CP.Mk) (Oc oa (aj.aV ⟨[(2,.b (.one (.str an)))],[]⟩ rfl (ah.ret ?_)))
 obtain rfl:=zaa h
 refine Fin.aF ⟨[(2,_)],[]⟩ rfl (Fin.fi [.one (.str an)] (.inl rfl) rfl (.cons (.tmp rfl) .nil) ⟨rfl,rfl⟩)
def kL (F:Nat) (s0:Str):Option (bc×Int) :=
 Option.bind ((aW (decide (0<(s0.length:Int))) (aD s0 0)).bind fun cd=>bA ((decide (0<(s0.length:Int)))&&(decide ((cd.toNat:Int)=45))) fun ce=>if ce=true then ((p6 s0 1).bind fun ch=>some ch) else (some s0)) (fun h=>(aW (!(decide (h=[]))) (aD h 0)).bind fun ci=>bA ((decide (h=[]))||((decide ((ci.toNat:Int)=48))&&(decide (s0≠[48])))) fun co=>if co=true then ((cO F).bind fun cp=>some (cp,281)) else (Option.bind (iter F (fun ad=>if (decide (ad<((ofStr h).length:Int)))=true then ((aD (ofStr h) ad).bind fun am=>if ((decide (am<48))||(decide (57<am)))=true then ((cO F).bind fun an=>some (.inr (.inr (an,281)))) else (some (.inl (i64.wrap (ad+1))))) else (some (.inr (.inl ())))) 0) (cz (fun _=>if (decide (512<(h.length:Int)))=true then ((cO F).bind fun bb=>some (bb,30)) else ((gI F 0).bind fun be=>(gI F 10).bind fun bi=>Option.bind (iter F (qz fun ac m=>if (decide (m<((ofStr h).length:Int)))=true then ((aD (ofStr h) m).bind fun bk=>(tw F ac bi).bind fun bs=>bA (i64.wrap (u8.wrap (bk-48))) fun b0=>(gI F b0).bind fun b1=>(tA F bs b1).bind fun b2=>some (.inl (b2,i64.wrap (m+1)))) else (some (.inr ac))) (be,0)) (fun v=>if v.Bad=true then (some (v,30)) else ((cP F (decide (h≠s0)) v.W).bind fun b3=>some (b3,0))))) (fun y=>some y))))
theorem yD {F:Nat} {s0:Str} {r:bc×Int} (h:kL F s0=some r):aI prog (ax mx) 209 [] [.one (.str s0)] (Is [] (.lC [.agg (cG r.1),.one (.i r.2)])):=by
 unfold kL at h
 refine aI.intro 80 Tryz.func209 Tryz.ntmps209 rfl (by simp) fun E=>(ah.seq (ah.ae ?_))
 refine Oc (cE (k:=101) wH rfl) (Oc oa (aj.aV ⟨[(0,.b (.one (.str s0))),(2,Pt 101 0)],[(101,.box 30 sM)]⟩ rfl (ah.seq (ah.ae ?_))))
 refine Oc om (Oc oa (aj.aV ⟨[(0,_),(2,_),(4,.b (.one (.str s0)))],[(101,_)]⟩ rfl ?_))
 obtain⟨v1,h2,h⟩:=aK h
 refine ah.o8 (v:=v1) (fun (m:Str)=>⟨[(0,.b (.one (.str s0))),(2,Pt 101 0),(4,.b (.one (.str m)))],[(101,.box 30 sM)]⟩) (fun z=>z) ?_ ?_
 refine ah.seq (ah.ae ?_)
 refine Oc om (Oc (gJ o6 rfl) (Oc (pe rfl rfl) (Oc om ?_)))
 refine JM (decide (0<(s0.length:Int))) [] (fun g3=>trivial) (fun g3=>om) ?_
 obtain⟨cs,e5,h2⟩:=aK h2
 refine JM (decide (0<(s0.length:Int))) [16] (fun g4=>⟨g4,trivial⟩) (fun g4=>iv o6 rfl rfl (fE (gc e5 g4)) (pg (gc e5 g4))) (JM (decide (0<(s0.length:Int))) [17] (fun g6=>⟨g6,trivial⟩) (fun g6=>n3 rfl rfl) (aj.Kl h2 rfl (gn (fun e=>e) rfl rfl rfl rfl) (fun ce h2=>(aj.aV ⟨[(0,_),(2,_),(4,_),(19,B ce)],[(101,_)]⟩ rfl (ah.ite h2 rfl (fun _ h2=>?_) (fun _ h2=>?_))))))
 refine ah.ae (Oc om ?_)
 obtain⟨ch,e7,h2⟩:=aK h2
 refine Oc (pG o6 e7 rfl rfl) (Oc oa (aj.nil ?_))
 exact Fin.join [0,2,4] [101] ch (zaa h2) rfl
 refine ah.skip ?_
 exact Fin.join [0,2,4] [101] s0 (zaa h2) rfl
 rintro m hv
 subst v1
 refine ah.seq (ah.seq (ah.ae ?_))
 refine Oc om (Oc (vK rfl rfl) (Oc om ?_))
 refine BS (!(decide (m=[]))) [] (fun g8=>trivial) (fun g8=>om) ?_
 obtain⟨b2,e10,h⟩:=aK h
 refine BS (!(decide (m=[]))) [25] (fun g9=>⟨g9,trivial⟩) (fun g9=>iv o6 rfl rfl (fE (gc e10 g9)) (pg (gc e10 g9))) (BS (!(decide (m=[]))) [26] (fun g11=>⟨g11,trivial⟩) (fun g11=>n3 rfl rfl) (BS (!(decide (m=[]))) [27] (fun g12=>⟨g12,trivial⟩) (fun g12=>om) (aj.aF ⟨[(0,_),(2,_),(4,_),(24,B (decide (m=[]))),(28,.opt (!(decide (m=[]))) (.one (.bool (decide ((b2.toNat:Int)=48)))))],[(101,_)]⟩ rfl (aj.p7 ((!(decide (m=[])))&&(decide ((b2.toNat:Int)=48))) 99 [] (.under rfl) (and_t _ _) rfl rfl (fun g13=>by exact trivial) (fun g13=>om) (aj.p7 ((!(decide (m=[])))&&(decide ((b2.toNat:Int)=48))) 99 [29] (.under rfl) (and_t _ _) rfl rfl (fun g14=>by exact⟨g14,trivial⟩) (fun g14=>vH rfl rfl) ?_)))))
 refine BS (!(decide (m=[]))) [28] (fun g15=>⟨g15,trivial⟩) (fun g15=>gn (fun e=>by rw[g15,e];rfl) rfl rfl rfl rfl) (aj.Kl h rfl (fI (fun e=>by first|(rw[e];rfl)|(simp only at e;rw[e];rfl)) rfl rfl rfl rfl) (fun ci h=>(aj.aV ⟨[(0,_),(2,_),(4,_),(32,B ci)],[(101,_)]⟩ rfl (ah.ite h rfl (fun _ h=>?_) (fun _ h=>?_)))))
 refine ah.seq (ah.ae ?_)
 obtain⟨b3,e16,h⟩:=aK h
 refine Oc (cy (jr e16) wz rfl rfl) (Oc (aX dv rfl rfl rfl rfl (zab rfl) rfl) (Oc oa (aj.aV ⟨[(2,_),(3,I 281)],[(101,.box 30 (cG b3))]⟩ rfl (ah.ret (Fin.cx ?_)))))
 obtain rfl:=zaa h
 refine Fin.aF ⟨[(2,_),(3,_)],[(101,_)]⟩ rfl (Fin.fi [.agg (cG b3),.one (.i 281)] (.inl rfl) rfl (.cons (.agg dv rfl rfl rfl rfl) (.cons (.tmp rfl) .nil)) ⟨rfl,rfl⟩)
 refine ah.skip (Fin.aF ⟨[(0,_),(2,_),(4,_)],[(101,_)]⟩ rfl (Fin.then ?_))
 obtain⟨v17,h18,h⟩:=aK h
 refine ah.o8 (v:=v17) (fun (_:Unit)=>⟨[(0,.b (.one (.str s0))),(2,Pt 101 0),(4,.b (.one (.str m)))],[(101,.box 30 sM)]⟩) (fun z=>.inl z) ?_ ?_
 refine ah.seq (ah.ae ?_)
 refine Oc om (Oc (y3 o6 Ck Hq rfl) (Oc (uv Ck rfl (List.length_map _)) (Oc om (aj.aV ⟨[(0,_),(2,_),(4,_),(35,.b (.one (.sl 1 ((ofStr m).map (eK .u8))))),(36,I ((ofStr m).length:Int)),(37,I 0)],[(101,_)]⟩ rfl (ah.block (ah.qX h18 (fun (bb:Int)=>⟨[(0,.b (.one (.str s0))),(2,Pt 101 0),(4,.b (.one (.str m))),(35,.b (.one (.sl 1 ((ofStr m).map (eK .u8))))),(36,I ((ofStr m).length:Int)),(37,I bb)],[(101,.box 30 sM)]⟩) [0,2,4,35,36,37] [101] rfl ?_))))))
 rintro bb o19 h20 hy21
 refine ah.seq (ah.ae ?_)
 refine Oc (lJ rfl rfl) (aj.aV ⟨[(0,_),(2,_),(4,_),(35,_),(36,_),(37,_),(38,B (decide (bb<((ofStr m).length:Int))))],[(101,_)]⟩ rfl (ah.seq (ah.ite h20 rfl (fun _ h20=>?_) (fun _ h20=>?_))))
 refine ah.skip (Fin.aF ⟨[(0,_),(2,_),(4,_),(35,_),(36,_),(37,_)],[(101,_)]⟩ rfl (Fin.then (ah.seq (ah.block (ah.seq (ah.ae ?_))))))
 obtain⟨ad,e22,h20⟩:=aK h20
 refine Oc (rR C6 (fE e22) (rD (e:=(eK .u8)) e22) rfl rfl) (Oc (la Kt rfl rfl) (Oc oa (aj.aV ⟨[(0,_),(2,_),(4,_),(6,.b (.one (.int .u8 ad))),(35,_),(36,_),(37,_)],[(101,_)]⟩ rfl (ah.seq (ah.ae ?_)))))
 refine Oc om (Oc (lJ rfl rfl) (Oc om ?_))
 refine BS (!(decide (ad<48))) [] (fun g23=>trivial) (fun g23=>om) (BS (!(decide (ad<48))) [44] (fun g24=>by exact⟨g24,trivial⟩) (fun g24=>pe rfl rfl) (Oc (fI (fun e=>by first|(rw[e];rfl)|(simp only at e;rw[e];rfl)) rfl rfl rfl rfl) (aj.aV ⟨[(0,_),(2,_),(4,_),(35,_),(36,_),(37,_),(46,B ((decide (ad<48))||(decide (57<ad))))],[(101,_)]⟩ rfl (ah.ite h20 rfl (fun _ h20=>?_) (fun _ h20=>?_)))))
 refine ah.seq (ah.ae ?_)
 obtain⟨be,e25,h20⟩:=aK h20
 refine Oc (cy (jr e25) wz rfl rfl) (Oc (aX dv rfl rfl rfl rfl (zab rfl) rfl) (Oc oa (aj.aV ⟨[(2,_),(3,I 281)],[(101,.box 30 (cG be))]⟩ rfl (ah.ret (Fin.rb (Fin.cx ?_))))))
 obtain rfl:=hy21 _ (zaa h20).symm
 refine Fin.cx (Fin.rb (Fin.cx ?_))
 obtain rfl:=zaa h
 refine Fin.aF ⟨[(2,_),(3,_)],[(101,_)]⟩ rfl (Fin.fi [.agg (cG be),.one (.i 281)] (.inl rfl) rfl (.cons (.agg dv rfl rfl rfl rfl) (.cons (.tmp rfl) .nil)) ⟨rfl,rfl⟩)
 refine ah.skip (Fin.bF (Fin.aF ⟨[(0,_),(2,_),(4,_),(35,_),(36,_),(37,_)],[(101,_)]⟩ rfl (Fin.then (ah.ae ?_))))
 refine Oc (eM rfl rfl) (Oc om (aj.nil ?_))
 exact Fin.kq [0,2,4,35,36,37] [101] (i64.wrap (bb+1)) (zaa h20) rfl
 refine ah.exit (Fin.bB ?_)
 obtain rfl:=hy21 _ (zaa h20).symm
 refine Fin.bB (Fin.cN ?_)
 exact Fin.join [0,2,4] [101] () rfl rfl
 rintro _ hv
 subst v17
 refine ah.seq (ah.seq (ah.ae ?_))
 refine Oc om (Oc (gJ o6 rfl) (Oc (pe rfl rfl) (aj.aV ⟨[(0,_),(2,_),(4,_),(51,B (decide (512<(m.length:Int))))],[(101,_)]⟩ rfl (ah.ite h rfl (fun _ h=>?_) (fun _ h=>?_)))))
 refine ah.seq (ah.ae ?_)
 obtain⟨bi,e26,h⟩:=aK h
 refine Oc (cy (jr e26) wz rfl rfl) (Oc (aX dv rfl rfl rfl rfl (zab rfl) rfl) (Oc oa (aj.aV ⟨[(2,_),(3,I 30)],[(101,.box 30 (cG bi))]⟩ rfl (ah.ret (Fin.cx ?_)))))
 obtain rfl:=zaa h
 refine Fin.aF ⟨[(2,_),(3,_)],[(101,_)]⟩ rfl (Fin.fi [.agg (cG bi),.one (.i 30)] (.inl rfl) rfl (.cons (.agg dv rfl rfl rfl rfl) (.cons (.tmp rfl) .nil)) ⟨rfl,rfl⟩)
 refine ah.skip (Fin.aF ⟨[(0,_),(2,_),(4,_)],[(101,_)]⟩ rfl (Fin.then (ah.seq (ah.ae ?_))))
 obtain⟨bk,e27,h⟩:=aK h
 refine Oc (cy (qM e27) DF rfl rfl) ?_
 obtain⟨am,e28,h⟩:=aK h
 refine Oc (cy (qM e28) DF rfl rfl) (aj.aF ⟨[(0,_),(2,_),(4,_),(53,.b (.agg (cG bk))),(54,.b (.agg (cG am)))],[(101,_)]⟩ rfl (Oc (cE (k:=102) wH rfl) (Oc (cE (k:=103) wH rfl) (Oc (aX dv rfl rfl rfl rfl (zab rfl) rfl) (Oc (aX dv rfl rfl rfl rfl (zab rfl) rfl) (aj.aV ⟨[(0,_),(2,_),(4,_),(7,Pt 102 0),(8,Pt 103 0)],[(101,_),(102,.box 30 (cG bk)),(103,.box 30 (cG am))]⟩ rfl ?_))))))
 obtain⟨v29,h30,h⟩:=aK h
 refine ah.o8 (v:=v29) (fun (y:bc)=>⟨[(0,.b (.one (.str s0))),(2,Pt 101 0),(4,.b (.one (.str m))),(7,Pt 102 0)],[(101,.box 30 sM),(102,.box 30 (cG y))]⟩) (fun z=>z) ?_ ?_
 refine ah.seq (ah.ae ?_)
 refine Oc om (Oc (y3 o6 Ck Hq rfl) (Oc (uv Ck rfl (List.length_map _)) (Oc om (aj.aV ⟨[(0,_),(2,_),(4,_),(7,_),(8,_),(56,.b (.one (.sl 1 ((ofStr m).map (eK .u8))))),(57,I ((ofStr m).length:Int)),(58,I 0)],[(101,_),(102,_),(103,_)]⟩ rfl (ah.block (ah.qX h30 (qz fun (an:bc) (ac:Int)=>⟨[(0,.b (.one (.str s0))),(2,Pt 101 0),(4,.b (.one (.str m))),(7,Pt 102 0),(8,Pt 103 0),(56,.b (.one (.sl 1 ((ofStr m).map (eK .u8))))),(57,I ((ofStr m).length:Int)),(58,I ac)],[(101,.box 30 sM),(102,.box 30 (cG an)),(103,.box 30 (cG am))]⟩) [0,2,4,7,8,56,57,58] [101,102,103] rfl ?_))))))
 rintro⟨an,ac⟩ o31 h32 hy33
 refine ah.seq (ah.ae ?_)
 refine Oc (lJ rfl rfl) (aj.aV ⟨[(0,_),(2,_),(4,_),(7,_),(8,_),(56,_),(57,_),(58,_),(59,B (decide (ac<((ofStr m).length:Int))))],[(101,_),(102,_),(103,_)]⟩ rfl (ah.seq (ah.ite h32 rfl (fun _ h32=>?_) (fun _ h32=>?_))))
 refine ah.skip (Fin.aF ⟨[(0,_),(2,_),(4,_),(7,_),(8,_),(56,_),(57,_),(58,_)],[(101,_),(102,_),(103,_)]⟩ rfl (Fin.then (ah.seq (ah.block (ah.seq (ah.ae ?_))))))
 obtain⟨bs,e34,h32⟩:=aK h32
 refine Oc (rR C6 (fE e34) (rD (e:=(eK .u8)) e34) rfl rfl) (Oc (la Kt rfl rfl) (Oc oa (aj.aV ⟨[(0,_),(2,_),(4,_),(7,_),(8,_),(10,.b (.one (.int .u8 bs))),(56,_),(57,_),(58,_)],[(101,_),(102,_),(103,_)]⟩ rfl (ah.ae (Oc (lp dv) (Oc (lp dv) ?_))))))
 obtain⟨cd,e35,h32⟩:=aK h32
 refine Oc (cy (Bz e35) goes184 rfl rfl) (Oc om (Oc (xN rfl rfl) (aj.aF ⟨[(0,_),(2,_),(4,_),(7,_),(8,_),(56,_),(57,_),(58,_),(64,.b (.agg (cG cd))),(66,.b (.one (.int .u8 (u8.wrap (bs-48)))))],[(101,_),(102,_),(103,_)]⟩ rfl (aj.EE .i64 h32 rfl (gq Hq undi3 rfl) (fun co h32=>?_)))))
 obtain⟨cp,e36,h32⟩:=aK h32
 refine Oc (cy (qM e36) DF rfl rfl) ?_
 obtain⟨b0,e37,h32⟩:=aK h32
 refine Oc (cy (BA e37) goes232 rfl rfl) (Oc (aX dv rfl rfl rfl rfl (zab rfl) rfl) (aj.nil (Fin.bF (Fin.aF ⟨[(0,_),(2,_),(4,_),(7,_),(8,_),(56,_),(57,_),(58,_)],[(101,_),(102,.box 30 (cG b0)),(103,_)]⟩ rfl (Fin.then (ah.ae ?_))))))
 refine Oc (eM rfl rfl) (Oc om (aj.nil ?_))
 exact Fin.kq [0,2,4,7,8,56,57,58] [101,102,103] (b0,i64.wrap (ac+1)) (zaa h32) rfl
 refine ah.exit (Fin.bB ?_)
 obtain rfl:=hy33 _ (zaa h32).symm
 refine Fin.bB (Fin.cN ?_)
 exact Fin.join [0,2,4,7] [101,102] an rfl rfl
 rintro y hv
 subst v29
 refine ah.seq (ah.seq (ah.ae ?_))
 refine Oc (ay Ja rfl rfl) (Oc (aJ C7 rfl rfl rfl) (aj.aV ⟨[(0,_),(2,_),(4,_),(7,_),(72,B y.Bad)],[(101,_),(102,_)]⟩ rfl (ah.ite h rfl (fun _ h=>?_) (fun _ h=>?_))))
 refine ah.seq (ah.ae ?_)
 refine Oc (lp dv) (Oc (aX dv rfl rfl rfl rfl (zab rfl) rfl) (Oc oa (aj.aV ⟨[(2,_),(3,I 30)],[(101,.box 30 (cG y))]⟩ rfl (ah.ret (Fin.cx ?_)))))
 obtain rfl:=zaa h
 refine Fin.aF ⟨[(2,_),(3,_)],[(101,_)]⟩ rfl (Fin.fi [.agg (cG y),.one (.i 30)] (.inl rfl) rfl (.cons (.agg dv rfl rfl rfl rfl) (.cons (.tmp rfl) .nil)) ⟨rfl,rfl⟩)
 refine ah.skip (Fin.aF ⟨[(0,_),(2,_),(4,_),(7,_)],[(101,_),(102,_)]⟩ rfl (Fin.then (ah.seq (ah.ae ?_))))
 refine Oc om (Oc om (Oc (vH rfl rfl) (Oc (ay oZ rfl rfl) (Oc (lp gP) (aj.aF ⟨[(2,_),(76,B (decide (m≠s0))),(78,.b (.agg (eW y.W)))],[(101,_)]⟩ rfl ?_)))))
 obtain⟨b1,e38,h⟩:=aK h
 refine Oc (cy (qp e38) Iv rfl rfl) (Oc (aX dv rfl rfl rfl rfl (zab rfl) rfl) (Oc oa (aj.aV ⟨[(2,_),(3,I 0)],[(101,.box 30 (cG b1))]⟩ rfl (ah.ret ?_))))
 obtain rfl:=zaa h
 refine Fin.aF ⟨[(2,_),(3,_)],[(101,_)]⟩ rfl (Fin.fi [.agg (cG b1),.one (.i 0)] (.inl rfl) rfl (.cons (.agg dv rfl rfl rfl rfl) (.cons (.tmp rfl) .nil)) ⟨rfl,rfl⟩)
end Go.Dn.X
