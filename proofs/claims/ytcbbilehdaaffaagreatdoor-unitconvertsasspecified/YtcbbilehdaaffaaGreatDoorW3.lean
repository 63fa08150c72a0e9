/- printed walks -/
import Derived.Test.YtcbbilehdaaffaaGreatDoorW2
namespace Go.Proofs.YtcbbilehdaaffaaGreatDoor
open Go.Sk
set_option maxHeartbeats 1000000
set_option maxRecDepth 4000
set_option linter.unusedSimpArgs false
set_option linter.unusedVariables false
variable {mx : Int}
def cY (F:Nat) (o0:yI) (a0:aw) (b0:aw):Option (aw × Int) :=
 (de F [a0,b0]).bind fun x_1=>if (!x_1) = true then (bD (⟨(⟨(⟨false,false,aP.zero⟩:bt),(⟨false,false,aP.zero⟩:bt)⟩:bN),(⟨0,0,0⟩:aX)⟩:aw) fun x_2=>some (x_2,1)) else (Option.bind (mH F o0.units a0.U b0.U) (b7 fun x_3 x_4=>if (decide (x_4 ≠ 0)) = true then (bD (⟨(⟨(⟨false,false,aP.zero⟩:bt),(⟨false,false,aP.zero⟩:bt)⟩:bN),(⟨0,0,0⟩:aX)⟩:aw) fun x_5=>some (x_5,x_4)) else ((ic F o0.numbers a0.V b0.V).bind fun x_6=>Option.bind (fD F x_6 x_3) (b7 fun x_7 x_8=>some (x_7,x_8)))))
theorem gE {F:Nat} {o0:yI} {a0:aw} {b0:aw} {r:aw × Int} (h:cY F o0 a0 b0 = some r):az Tryz.prog (bj mx) 88 [] [.agg (Cm o0),.agg (ap a0),.agg (ap b0)] (Is [] (.fE [.agg (ap r.1),.one (.i r.2)])):=by
 unfold cY at h
 refine az.intro 41 Tryz.func88 Tryz.ntmps88 rfl (by simp) fun E=>?_
 show ab _ E ⟨41,[],[]⟩ _ ⟨[(0,.b (.agg (Cm o0))),(1,.b (.agg (ap a0))),(2,.b (.agg (ap b0)))],[]⟩ _
 refine ab.seq (ab.aa ?_)
 refine Oc (aS (k:=101) rfl rfl) (Oc (aS (k:=102) rfl rfl) (Oc (aS (k:=103) rfl rfl) (Oc (aA (k:=104) dD rfl) (Oc oa ?_))))
 refine ad.aj ⟨[(3,Pt 101 0),(4,Pt 102 0),(5,Pt 103 0),(6,Pt 104 0)],[(101,.box 113 (Cm o0)),(102,.box 31 (ap a0)),(103,.box 31 (ap b0)),(104,.box 31 (.bool false :: .bool false :: (eW aP.zero ++ (.bool false :: .bool false :: (eW aP.zero ++ ([.i 0,.i 0,.i 0]))))))]⟩ rfl (ab.seq (ab.seq (ab.aa ?_)))
 refine Oc (lp aW) (Oc (lp aW) (Oc (br (k:=105) (es:=[a0,b0].map ap) qV rfl rfl (c5 fun _=>rfl) rfl (by decide) (by decide) rfl) ?_))
 obtain ⟨x_1,e1,h⟩:=aE h
 refine Oc (eQ (gX e1) vN rfl CP.dJ) (Oc (bq rfl) ?_)
 refine ad.aj ⟨[(3,_),(4,_),(5,_),(6,_),(14,B (!x_1))],[(101,_),(102,_),(103,_),(104,_)]⟩ rfl (ab.ite h rfl (fun _ h=>?_) (fun _ h=>?_))
 ·refine ab.seq (ab.aa ?_)
  refine ad.ek ap h rfl (aV dI rfl rfl) (fun x_2 h=>?_)
  refine Oc (ag aW rfl rfl rfl rfl (Nat.le_of_ble_eq_true rfl) rfl) (Oc oa ?_)
  refine ad.aj ⟨[(6,_),(7,I 1)],[(104,.box 31 (ap x_2))]⟩ rfl (ab.ret (Fin.ar ?_))
  obtain rfl:=Option.some.inj h
  refine Fin.ah ⟨[(6,_),(7,_)],[(104,_)]⟩ rfl (Fin.aq [.agg (ap x_2),.one (.i 1)] (.inl rfl) rfl (.cons (.agg aW rfl rfl rfl rfl) (.cons (.tmp rfl) .nil)) ⟨rfl,rfl⟩)
 ·refine ab.skip (Fin.ah ⟨[(3,_),(4,_),(5,_),(6,_)],[(101,_),(102,_),(103,_),(104,_)]⟩ rfl (Fin.then (ab.seq (ab.aa ?_))))
  refine Oc (af zw rfl rfl) (Oc (ax tyOne54 rfl rfl rfl) (Oc (af c8 rfl rfl) (Oc (lp bz) (Oc (af c8 rfl rfl) (Oc (lp bz) ?_)))))
  refine ad.ah ⟨[(3,_),(4,_),(5,_),(6,_),(18,.b (.one (.raw (.func (.func o0.units) #[] #[])))),(20,.b (.agg (aZ a0.U))),(22,.b (.agg (aZ b0.U)))],[(101,_),(102,_),(103,_),(104,_)]⟩ rfl ?_
  obtain ⟨⟨x_3,x_4⟩,e2,h⟩:=aE h
  refine Oc (pR (x7 e2) (x8 e2) rfl rfl rfl) (Oc om (Oc (ay rfl rfl) (Oc (ay rfl rfl) (Oc (aA (k:=106) lr rfl) (Oc (ag bz rfl rfl rfl rfl (Nat.le_of_ble_eq_true rfl) rfl) ?_)))))
  refine Oc oa (ad.aj ⟨[(3,_),(4,_),(5,_),(6,_),(8,Pt 106 0),(9,I x_4)],[(101,_),(102,_),(103,_),(104,_),(106,.box 29 (aZ x_3))]⟩ rfl (ab.seq (ab.seq (ab.aa ?_))))
  refine Oc om (Oc (dY rfl rfl) ?_)
  refine ad.aj ⟨[(3,_),(4,_),(5,_),(6,_),(8,_),(9,_),(27,B (decide (x_4 ≠ 0)))],[(101,_),(102,_),(103,_),(104,_),(106,_)]⟩ rfl (ab.ite h rfl (fun _ h=>?_) (fun _ h=>?_))
  ·refine ab.seq (ab.aa ?_)
   refine ad.ek ap h rfl (aV dI rfl rfl) (fun x_5 h=>?_)
   refine Oc om (Oc (ag aW rfl rfl rfl rfl (Nat.le_of_ble_eq_true rfl) rfl) (Oc oa ?_))
   refine ad.aj ⟨[(6,_),(7,I x_4)],[(104,.box 31 (ap x_5))]⟩ rfl (ab.ret (Fin.ar ?_))
   obtain rfl:=Option.some.inj h
   refine Fin.ah ⟨[(6,_),(7,_)],[(104,_)]⟩ rfl (Fin.aq [.agg (ap x_5),.one (.i x_4)] (.inl rfl) rfl (.cons (.agg aW rfl rfl rfl rfl) (.cons (.tmp rfl) .nil)) ⟨rfl,rfl⟩)
  ·refine ab.skip (Fin.ah ⟨[(3,_),(4,_),(5,_),(6,_),(8,_)],[(101,_),(102,_),(103,_),(104,_),(106,_)]⟩ rfl (Fin.then (ab.seq ?_)))
   refine ab.ah ⟨[(3,_),(4,_),(5,_),(6,_),(8,_)],[(101,_),(102,_),(103,_),(104,_),(106,_)]⟩ rfl ?_
   obtain ⟨x_6,e3,h⟩:=aE h
   obtain ⟨⟨x_7,x_8⟩,e4,h⟩:=aE h
   refine ab.bP mixed 11 [Pt 101 0,.b (.one (.raw (.func (.func o0.numbers) #[] #[]))),Pt 102 0,.b (.agg (aI a0.V)),Pt 103 0,.b (.agg (aI b0.V)),.b (.agg (aI x_6)),.b (.agg (aZ x_3)),.fE [.agg (ap x_7),.one (.i x_8)],.b (.agg (ap x_7)),I x_8] [6,7] [104] (s':=⟨[(6,_),(7,I x_8)],[(104,.box 31 (ap x_7))]⟩) rfl ⟨fun _=>.p (af zx rfl rfl),fun _=>.p (ax tyOne49 rfl rfl rfl),fun _=>.p (af c9 rfl rfl),fun _=>.p (lp aC),fun _=>.p (af c9 rfl rfl),fun _=>.p (lp aC),fun _=>.p (pR (qf e3) (qg e3) rfl rfl rfl),fun _=>.p (lp bz),fun _=>.p (ae (lM e4) C0 rfl rfl),fun _=>.p (ay rfl rfl),fun _=>.p (ay rfl rfl),trivial⟩ ⟨_,by exact .p (ag aW rfl rfl rfl rfl (Nat.le_of_ble_eq_true rfl) rfl),⟨_,by exact .p oa,rfl⟩⟩ rfl (ab.ret ?_)
   obtain rfl:=Option.some.inj h
   refine Fin.ah ⟨[(6,_),(7,_)],[(104,_)]⟩ rfl (Fin.aq [.agg (ap x_7),.one (.i x_8)] (.inl rfl) rfl (.cons (.agg aW rfl rfl rfl rfl) (.cons (.tmp rfl) .nil)) ⟨rfl,rfl⟩)
def jC (F:Nat) (a0:aw) (b0:aw):Option (aw × Int) :=
 Option.bind (cY F (⟨25,26⟩:yI) a0 b0) (b7 fun x_1 x_2=>some (x_1,x_2))
theorem s5 {F:Nat} {a0:aw} {b0:aw} {r:aw × Int} (h:jC F a0 b0 = some r):az Tryz.prog (bj mx) 38 [] [.agg (ap a0),.agg (ap b0)] (Is [] (.fE [.agg (ap r.1),.one (.i r.2)])):=by
 unfold jC at h
 refine az.intro 12 Tryz.func38 Tryz.ntmps38 rfl (by simp) fun E=>?_
 show ab _ E ⟨12,[],[]⟩ _ ⟨[(0,.b (.agg (ap a0))),(1,.b (.agg (ap b0)))],[]⟩ _
 refine ab.seq (ab.aa ?_)
 refine Oc (aS (k:=101) rfl rfl) (Oc (aS (k:=102) rfl rfl) (Oc (aA (k:=103) dD rfl) (Oc oa ?_)))
 refine ad.aj ⟨[(2,Pt 101 0),(3,Pt 102 0),(4,Pt 103 0)],[(101,.box 31 (ap a0)),(102,.box 31 (ap b0)),(103,.box 31 (.bool false :: .bool false :: (eW aP.zero ++ (.bool false :: .bool false :: (eW aP.zero ++ ([.i 0,.i 0,.i 0]))))))]⟩ rfl (ab.seq (ab.aa ?_))
 refine Oc (aV qH rfl rfl) (Oc (lp aW) (Oc (lp aW) ?_))
 obtain ⟨⟨x_1,x_2⟩,e1,h⟩:=aE h
 refine Oc (ae (gE e1) yV rfl rfl) (Oc (ay rfl rfl) ?_)
 refine ad.ah ⟨[(4,_),(9,.fE [.agg (ap x_1),.one (.i x_2)]),(10,.b (.agg (ap x_1)))],[(103,_)]⟩ rfl (Oc (ay rfl rfl) (Oc (ag aW rfl rfl rfl rfl (Nat.le_of_ble_eq_true rfl) rfl) (Oc oa ?_)))
 refine ad.aj ⟨[(4,_),(5,I x_2)],[(103,.box 31 (ap x_1))]⟩ rfl (ab.ret ?_)
 obtain rfl:=Option.some.inj h
 refine Fin.ah ⟨[(4,_),(5,_)],[(103,_)]⟩ rfl (Fin.aq [.agg (ap x_1),.one (.i x_2)] (.inl rfl) rfl (.cons (.agg aW rfl rfl rfl rfl) (.cons (.tmp rfl) .nil)) ⟨rfl,rfl⟩)
def jl (F:Nat) (s0:bg):Option (aw × Int) :=
 Option.bind (dz F s0 [32]) (kA fun x_1 x_2 x_3=>bD (⟨(⟨false,false,aP.zero⟩:bt),(⟨false,false,aP.zero⟩:bt)⟩:bN) fun x_4=>Option.bind (Option.bind (dz F x_1 [46]) (kA fun x_7 x_8 x_9=>if x_9 = true then (Option.bind (lK F x_7 x_8) (b7 fun x_10 x_11=>some (x_10,x_11))) else (Option.bind (mR F x_1) (b7 fun x_12 x_13=>some (x_12,x_13))))) (b7 fun x_5 e_6=>if (decide (e_6 ≠ 0)) = true then (bD (⟨(⟨(⟨false,false,aP.zero⟩:bt),(⟨false,false,aP.zero⟩:bt)⟩:bN),(⟨0,0,0⟩:aX)⟩:aw) fun x_14=>some (x_14,e_6)) else (if (!x_3) = true then (some ((⟨x_5,(⟨0,0,0⟩:aX)⟩:aw),0)) else (Option.bind (fM F x_2) (b7 fun x_15 x_16=>if (decide (x_16 ≠ 0)) = true then (bD (⟨(⟨(⟨false,false,aP.zero⟩:bt),(⟨false,false,aP.zero⟩:bt)⟩:bN),(⟨0,0,0⟩:aX)⟩:aw) fun x_17=>some (x_17,x_16)) else (Option.bind (jC F (⟨x_5,(⟨0,0,0⟩:aX)⟩:aw) x_15) (b7 fun x_18 x_19=>some (x_18,x_19))))))))
theorem pj {F:Nat} {s0:bg} {r:aw × Int} (h:jl F s0 = some r):az Tryz.prog (bj mx) 13 [] [.one (.str s0)] (Is [] (.fE [.agg (ap r.1),.one (.i r.2)])):=by
 unfold jl at h
 refine az.intro 62 Tryz.func13 Tryz.ntmps13 rfl (by simp) fun E=>?_
 show ab _ E ⟨62,[],[]⟩ _ ⟨[(0,.b (.one (.str s0)))],[]⟩ _
 refine ab.seq (ab.aa ?_)
 refine Oc (aA (k:=101) dD rfl) (Oc oa ?_)
 refine ad.aj ⟨[(0,.b (.one (.str s0))),(2,Pt 101 0)],[(101,.box 31 (.bool false :: .bool false :: (eW aP.zero ++ (.bool false :: .bool false :: (eW aP.zero ++ ([.i 0,.i 0,.i 0]))))))]⟩ rfl (ab.seq (ab.aa ?_))
 refine Oc om ?_
 obtain ⟨⟨x_1,x_2,x_3⟩,e1,h⟩:=aE h
 refine Oc (ae (jR e1) y5 rfl rfl) (Oc om (Oc (ay rfl rfl) (Oc (ay rfl rfl) ?_)))
 refine ad.ah ⟨[(2,_),(14,.fE [.one (.str x_1),.one (.str x_2),.one (.bool x_3)]),(17,.b (.one (.str x_1))),(18,.b (.one (.str x_2)))],[(101,_)]⟩ rfl (Oc (ay rfl rfl) (Oc oa (Oc oa (Oc oa ?_))))
 refine ad.aj ⟨[(2,_),(4,.b (.one (.str x_1))),(5,.b (.one (.str x_2))),(6,B x_3)],[(101,_)]⟩ rfl (ab.seq (ab.aa ?_))
 refine ad.ek aI h rfl (aV fB rfl rfl) (fun x_4 h=>?_)
 refine Oc (aA (k:=102) bO rfl) (Oc (ag aC rfl rfl rfl rfl (Nat.le_of_ble_eq_true rfl) rfl) (Oc oa ?_))
 refine ad.aj ⟨[(2,_),(4,_),(5,_),(6,_),(7,Pt 102 0)],[(101,_),(102,.box 27 (aI x_4))]⟩ rfl ?_
 obtain ⟨v2,h3,h⟩:=aE h
 refine ab.cB (v:=v2) (b7 fun (x_5:bN) (e_6:Int)=>⟨[(2,Pt 101 0),(5,.b (.one (.str x_2))),(6,B x_3),(7,Pt 102 0),(8,I e_6)],[(101,.box 31 (.bool false :: .bool false :: (eW aP.zero ++ (.bool false :: .bool false :: (eW aP.zero ++ ([.i 0,.i 0,.i 0])))))),(102,.box 27 (aI x_5))]⟩) (fun z=>z) ?_ ?_
 ·refine ab.seq (ab.aa ?_)
  refine Oc om ?_
  obtain ⟨⟨x_7,x_8,x_9⟩,e4,h3⟩:=aE h3
  refine Oc (ae (jR e4) y5 rfl rfl) (Oc om (Oc (ay rfl rfl) (Oc (ay rfl rfl) ?_)))
  refine ad.ah ⟨[(2,_),(4,_),(5,_),(6,_),(7,_),(21,.fE [.one (.str x_7),.one (.str x_8),.one (.bool x_9)]),(24,.b (.one (.str x_7))),(25,.b (.one (.str x_8)))],[(101,_),(102,_)]⟩ rfl (Oc (ay rfl rfl) (Oc oa (Oc oa (Oc oa ?_))))
  refine ad.aj ⟨[(2,_),(4,_),(5,_),(6,_),(7,_),(9,.b (.one (.str x_7))),(10,.b (.one (.str x_8))),(11,B x_9)],[(101,_),(102,_)]⟩ rfl (ab.seq (ab.aa ?_))
  refine Oc om (ad.aj ⟨[(2,_),(4,_),(5,_),(6,_),(7,_),(9,_),(10,_),(27,B x_9)],[(101,_),(102,_)]⟩ rfl (ab.ite h3 rfl (fun _ h3=>?_) (fun _ h3=>?_)))
  ·refine ab.aa (Oc om (Oc om ?_))
   obtain ⟨⟨x_10,x_11⟩,e5,h3⟩:=aE h3
   refine Oc (ae (rS e5) goes60 rfl rfl) (Oc om (Oc (ay rfl rfl) ?_))
   refine ad.ah ⟨[(2,_),(5,_),(6,_),(7,_),(28,.fE [.agg (aI x_10),.one (.i x_11)]),(32,.b (.agg (aI x_10)))],[(101,_),(102,_)]⟩ rfl (Oc (ay rfl rfl) (Oc (ag aC rfl rfl rfl rfl (Nat.le_of_ble_eq_true rfl) rfl) (Oc oa ?_)))
   refine ad.nil ?_
   exact Fin.join [2,5,6,7,8] [101,102] (x_10,x_11) (Option.some.inj h3) rfl
  ·refine ab.aa (Oc om ?_)
   obtain ⟨⟨x_12,x_13⟩,e6,h3⟩:=aE h3
   refine Oc (ae (wV e6) goes61 rfl rfl) (Oc om (Oc (ay rfl rfl) (Oc (ay rfl rfl) (Oc (ag aC rfl rfl rfl rfl (Nat.le_of_ble_eq_true rfl) rfl) (Oc oa ?_)))))
   refine ad.nil ?_
   exact Fin.join [2,5,6,7,8] [101,102] (x_12,x_13) (Option.some.inj h3) rfl
 ·rintro ⟨x_5,e_6⟩ hv
  subst v2
  refine ab.seq (ab.aa ?_)
  refine Oc (lp aC) (Oc (aV dI rfl rfl) (Oc (aA (k:=103) dD rfl) (Oc (ag aW rfl rfl rfl rfl (Nat.le_of_ble_eq_true rfl) rfl) ?_)))
  refine ad.aj ⟨[(2,_),(5,_),(6,_),(8,_),(12,Pt 103 0)],[(101,_),(103,.box 31 (aI x_5 ++ ([.i 0,.i 0,.i 0])))]⟩ rfl (ab.seq (ab.seq (ab.aa ?_)))
  refine Oc om (Oc (dY rfl rfl) ?_)
  refine ad.aj ⟨[(2,_),(5,_),(6,_),(8,_),(12,_),(42,B (decide (e_6 ≠ 0)))],[(101,_),(103,_)]⟩ rfl (ab.ite h rfl (fun _ h=>?_) (fun _ h=>?_))
  ·refine ab.seq (ab.aa ?_)
   refine ad.ek ap h rfl (aV dI rfl rfl) (fun x_14 h=>?_)
   refine Oc om (Oc (ag aW rfl rfl rfl rfl (Nat.le_of_ble_eq_true rfl) rfl) (Oc oa ?_))
   refine ad.aj ⟨[(2,_),(3,I e_6)],[(101,.box 31 (ap x_14))]⟩ rfl (ab.ret (Fin.ar ?_))
   obtain rfl:=Option.some.inj h
   refine Fin.ah ⟨[(2,_),(3,_)],[(101,_)]⟩ rfl (Fin.aq [.agg (ap x_14),.one (.i e_6)] (.inl rfl) rfl (.cons (.agg aW rfl rfl rfl rfl) (.cons (.tmp rfl) .nil)) ⟨rfl,rfl⟩)
  ·refine ab.skip (Fin.ah ⟨[(2,_),(5,_),(6,_),(12,_)],[(101,_),(103,_)]⟩ rfl (Fin.then (ab.seq (ab.seq (ab.aa ?_)))))
   refine Oc om (Oc (bq rfl) ?_)
   refine ad.aj ⟨[(2,_),(5,_),(12,_),(46,B (!x_3))],[(101,_),(103,_)]⟩ rfl (ab.ite h rfl (fun _ h=>?_) (fun _ h=>?_))
   ·refine ab.seq (ab.aa ?_)
    refine Oc (lp aW) (Oc (ag aW rfl rfl rfl rfl (Nat.le_of_ble_eq_true rfl) rfl) (Oc oa ?_))
    refine ad.aj ⟨[(2,_),(3,I 0)],[(101,.box 31 (aI x_5 ++ ([.i 0,.i 0,.i 0])))]⟩ rfl (ab.ret (Fin.ar ?_))
    obtain rfl:=Option.some.inj h
    refine Fin.ah ⟨[(2,_),(3,_)],[(101,_)]⟩ rfl (Fin.aq [.agg (aI x_5 ++ ([.i 0,.i 0,.i 0])),.one (.i 0)] (.inl rfl) rfl (.cons (.agg aW rfl rfl rfl rfl) (.cons (.tmp rfl) .nil)) ⟨rfl,rfl⟩)
   ·refine ab.skip (Fin.ah ⟨[(2,_),(5,_),(12,_)],[(101,_),(103,_)]⟩ rfl (Fin.then (ab.seq (ab.aa ?_))))
    refine Oc om ?_
    obtain ⟨⟨x_15,x_16⟩,e7,h⟩:=aE h
    refine Oc (ae (iX e7) vP rfl rfl) (Oc om (Oc (ay rfl rfl) (Oc (ay rfl rfl) ?_)))
    refine ad.ah ⟨[(2,_),(12,_),(51,.b (.agg (ap x_15))),(52,I x_16)],[(101,_),(103,_)]⟩ rfl (Oc (aA (k:=104) dD rfl) (Oc (ag aW rfl rfl rfl rfl (Nat.le_of_ble_eq_true rfl) rfl) (Oc oa ?_)))
    refine ad.aj ⟨[(2,_),(8,I x_16),(12,_),(13,Pt 104 0)],[(101,_),(103,_),(104,.box 31 (ap x_15))]⟩ rfl (ab.seq (ab.seq (ab.aa ?_)))
    refine Oc om (Oc (dY rfl rfl) ?_)
    refine ad.aj ⟨[(2,_),(8,_),(12,_),(13,_),(54,B (decide (x_16 ≠ 0)))],[(101,_),(103,_),(104,_)]⟩ rfl (ab.ite h rfl (fun _ h=>?_) (fun _ h=>?_))
    ·refine ab.seq (ab.aa ?_)
     refine ad.ek ap h rfl (aV dI rfl rfl) (fun x_17 h=>?_)
     refine Oc om (Oc (ag aW rfl rfl rfl rfl (Nat.le_of_ble_eq_true rfl) rfl) (Oc oa ?_))
     refine ad.aj ⟨[(2,_),(3,I x_16)],[(101,.box 31 (ap x_17))]⟩ rfl (ab.ret (Fin.ar ?_))
     obtain rfl:=Option.some.inj h
     refine Fin.ah ⟨[(2,_),(3,_)],[(101,_)]⟩ rfl (Fin.aq [.agg (ap x_17),.one (.i x_16)] (.inl rfl) rfl (.cons (.agg aW rfl rfl rfl rfl) (.cons (.tmp rfl) .nil)) ⟨rfl,rfl⟩)
    ·refine ab.skip (Fin.ah ⟨[(2,_),(12,_),(13,_)],[(101,_),(103,_),(104,_)]⟩ rfl (Fin.then (ab.seq (ab.aa ?_))))
     refine Oc (lp aW) (Oc (lp aW) ?_)
     obtain ⟨⟨x_18,x_19⟩,e8,h⟩:=aE h
     refine Oc (ae (s5 e8) goes38 rfl rfl) (Oc (ay rfl rfl) (Oc (ay rfl rfl) (Oc (ag aW rfl rfl rfl rfl (Nat.le_of_ble_eq_true rfl) rfl) (Oc oa ?_))))
     refine ad.aj ⟨[(2,_),(3,I x_19)],[(101,.box 31 (ap x_18))]⟩ rfl (ab.ret ?_)
     obtain rfl:=Option.some.inj h
     refine Fin.ah ⟨[(2,_),(3,_)],[(101,_)]⟩ rfl (Fin.aq [.agg (ap x_18),.one (.i x_19)] (.inl rfl) rfl (.cons (.agg aW rfl rfl rfl rfl) (.cons (.tmp rfl) .nil)) ⟨rfl,rfl⟩)
def dW (F:Nat) (s0:bg) (want0:aw):Option Bool :=
 Option.bind (jl F s0) (b7 fun x_1 x_2=>some ((decide (x_1 = want0)) && (decide (x_2 = 0))))
theorem fT {F:Nat} {s0:bg} {want0:aw} {r:Bool} (h:dW F s0 want0 = some r):az Tryz.prog (bj mx) 51 [] [.one (.str s0),.agg (ap want0)] (Is [] (.b (.one (.bool r)))):=by
 unfold dW at h
 refine az.intro 19 Tryz.func51 Tryz.ntmps51 rfl (by simp) fun E=>?_
 show ab _ E ⟨19,[],[]⟩ _ ⟨[(0,.b (.one (.str s0))),(1,.b (.agg (ap want0)))],[]⟩ _
 refine ab.seq (ab.aa ?_)
 refine Oc (aS (k:=101) rfl rfl) (Oc oa ?_)
 refine ad.aj ⟨[(0,.b (.one (.str s0))),(3,Pt 101 0)],[(101,.box 31 (ap want0))]⟩ rfl (ab.seq (ab.aa ?_))
 refine Oc om ?_
 obtain ⟨⟨x_1,x_2⟩,e1,h⟩:=aE h
 refine Oc (ae (pj e1) C3 rfl rfl) (Oc om (Oc (ay rfl rfl) (Oc (ay rfl rfl) ?_)))
 refine ad.ah ⟨[(3,_),(10,.b (.agg (ap x_1))),(11,I x_2)],[(101,_)]⟩ rfl (Oc (aA (k:=102) dD rfl) (Oc (ag aW rfl rfl rfl rfl (Nat.le_of_ble_eq_true rfl) rfl) (Oc oa ?_)))
 refine ad.aj ⟨[(3,_),(5,Pt 102 0),(6,I x_2)],[(101,_),(102,.box 31 (ap x_1))]⟩ rfl (ab.seq (ab.aa ?_))
 refine Oc (lp aW) (Oc (lp aW) (Oc (eH (tu x_1 want0) rfl rfl) (Oc om ?_)))
 refine bU (decide (x_1 = want0)) [] (fun g2=>trivial) (fun g2=>om) (bU (decide (x_1 = want0)) [16] (fun g3=>by exact ⟨g3,trivial⟩) (fun g3=>cy rfl rfl) (Oc (aD (fun e=>e) rfl rfl rfl rfl) (Oc oa ?_)))
 refine ad.aj ⟨[(4,B ((decide (x_1 = want0)) && (decide (x_2 = 0))))],[]⟩ rfl (ab.ret ?_)
 obtain rfl:=Option.some.inj h
 refine Fin.ah ⟨[(4,_)],[]⟩ rfl (Fin.aq [.one (.bool ((decide (x_1 = want0)) && (decide (x_2 = 0))))] (.inl rfl) rfl (.cons (.tmp rfl) .nil) ⟨rfl,rfl⟩)
def gm (F:Nat) (s0:List bg):Option (List bg) :=
 bD (IntKind.i64.wrap ((s0.length:Int) - 1)) fun x_1=>Option.bind (iter F (kA fun s_2 i_3 j_4=>if (decide (i_3 < j_4)) = true then ((bB s_2 j_4).bind fun x_6=>(bB s_2 i_3).bind fun x_7=>(bB s_2 i_3).bind fun x_8=>(bB (s_2.set (i_3:Int).toNat x_6) j_4).bind fun x_9=>some (.inl ((s_2.set (i_3:Int).toNat x_6).set (j_4:Int).toNat x_7,IntKind.i64.wrap (i_3 + 1),IntKind.i64.wrap (j_4 - 1)))) else (some (.inr s_2))) (s0,0,x_1)) (fun y_5=>some y_5)
theorem pX {F:Nat} {s0:List bg} {r:(List bg)} (h:gm F s0 = some r):az Tryz.prog (bj mx) 127 [(1,.k9 9 1 (s0.map eS))] [.row 1] (Is [(1,.k9 9 1 (r.map eS))] (.fE [])):=by
 unfold gm at h
 refine az.intro 28 Tryz.func127 Tryz.ntmps127 rfl (by simp) fun E=>?_
 show ab _ E ⟨28,[1],[1]⟩ _ ⟨[(0,.b (.row 1))],[(1,.k9 9 1 (s0.map eS))]⟩ _
 refine ab.unF 1 rfl (ab.seq (ab.aa ?_))
 refine Oc om (Oc (vp und110 rfl rfl (List.length_map _)) ?_)
 refine ad.cp .i64 h rfl (bX rfl rfl) (fun x_1 h=>?_)
 refine Oc oa (Oc oa ?_)
 refine ad.aj ⟨[(0,.b (.row 1)),(2,I 0),(3,I x_1)],[(1,.row 9 1 (s0.map eS))]⟩ rfl (ab.block ?_)
 obtain ⟨v1,h2,h⟩:=aE h
 refine ab.cS h2 (kA fun (s_2:List bg) (i_3:Int) (j_4:Int)=>⟨[(0,.b (.row 1)),(2,I i_3),(3,I j_4)],[(1,.row 9 1 (s_2.map eS))]⟩) [0,2,3] [1] rfl ?_
 rintro ⟨s_2,i_3,j_4⟩ o3 h4 hy5
 refine ab.seq (ab.seq (ab.aa ?_))
 refine Oc om (Oc om (Oc (bK rfl rfl) ?_))
 refine ad.aj ⟨[(0,_),(2,_),(3,_),(9,B (decide (i_3 < j_4)))],[(1,_)]⟩ rfl (ab.ite h4 rfl (fun _ h4=>?_) (fun _ h4=>?_))
 ·refine ab.skip (Fin.ah ⟨[(0,_),(2,_),(3,_)],[(1,_)]⟩ rfl (Fin.then (ab.seq (ab.block ?_))))
  refine ab.ah ⟨[(0,_),(2,_),(3,_)],[(1,_)]⟩ rfl ?_
  obtain ⟨x_6,e6,h4⟩:=aE h4
  obtain ⟨x_7,e7,h4⟩:=aE h4
  obtain ⟨x_8,e8,h4⟩:=aE h4
  obtain ⟨x_9,e9,h4⟩:=aE h4
  refine ab.xu mixed [false,false,false,false,false,false,false,false,false,false,false,false,false,true,false,true] [.b (.row 1),I i_3,.b (.row 1),I j_4,.b (.row 1),I j_4,.b (.j2 1 ((j_4:Int).toNat * 1)),.b (.one (.str x_6)),.b (.row 1),I i_3,.b (.j2 1 ((i_3:Int).toNat * 1)),.b (.one (.str x_7)),.b (.j2 1 ((i_3:Int).toNat * 1)),B true,.b (.j2 1 ((j_4:Int).toNat * 1)),B true] [⟨[false,false,false,false,false,false,false,false,false,false,false,false,false,false,false,false],[(0,.b (.row 1)),(2,I i_3),(3,I j_4)],[(1,.row 9 1 (s_2.map eS))],[true,true,true,true,true,true,true,true,true,true,true,true,true,true,true,true],[]⟩,⟨[false,false,false,false,false,false,false,false,false,false,false,false,false,true,false,false],[(0,.b (.row 1)),(2,I i_3),(3,I j_4)],[(1,.row 9 1 ((s_2.set (i_3:Int).toNat x_6).map eS))],[true,true,true,true,true,true,true,true,true,true,true,true,true,true,true,true],[0,1,4,5,6,7,8,9,10,11,12,13]⟩,⟨[false,false,false,false,false,false,false,false,false,false,false,false,false,true,false,true],[(0,.b (.row 1)),(2,I i_3),(3,I j_4)],[(1,.row 9 1 (((s_2.set (i_3:Int).toNat x_6).set (j_4:Int).toNat x_7).map eS))],[true,true,true,true,true,true,true,true,true,true,true,true,true,true,true,true],[0,1,2,3,4,5,6,7,8,9,10,11,12,13,14,15]⟩] rfl (⟨by kernel_rfl,⟨⟨.b (.row 1),fun _=>rfl,fun _=>.p (by exact fW rfl)⟩,⟨I i_3,fun _=>rfl,fun _=>.p (by exact fW rfl)⟩,⟨.b (.row 1),fun _=>rfl,fun _=>.p (by exact fW rfl)⟩,⟨I j_4,fun _=>rfl,fun _=>.p (by exact fW rfl)⟩,⟨.b (.row 1),fun _=>rfl,fun _=>.p (by exact fW rfl)⟩,⟨I j_4,fun _=>rfl,fun _=>.p (by exact fW rfl)⟩,⟨.b (.j2 1 ((j_4:Int).toNat * 1)),fun _=>rfl,fun _=>.p (by exact gB jS (bp e6) (nh e6) rfl rfl rfl rfl)⟩,⟨.b (.one (.str x_6)),fun _=>rfl,fun _=>.p (by exact nL (i:=(j_4:Int).toNat) (f:=0) fj rfl rfl rfl (fZ (e:=eS) e6) rfl)⟩,⟨.b (.row 1),fun _=>rfl,fun _=>.p (by exact fW rfl)⟩,⟨I i_3,fun _=>rfl,fun _=>.p (by exact fW rfl)⟩,⟨.b (.j2 1 ((i_3:Int).toNat * 1)),fun _=>rfl,fun _=>.p (by exact gB jS (bp e7) (nh e7) rfl rfl rfl rfl)⟩,⟨.b (.one (.str x_7)),fun _=>rfl,fun _=>.p (by exact nL (i:=(i_3:Int).toNat) (f:=0) fj rfl rfl rfl (fZ (e:=eS) e7) rfl)⟩,⟨.b (.j2 1 ((i_3:Int).toNat * 1)),fun _=>rfl,fun _=>.p (by exact gB jS (bp e8) (nh e8) rfl rfl rfl rfl)⟩,⟨_,none,.b (.one .any),rfl,(fun e=>by simp at e),rfl,rfl,fun _=>.qP [1] (by exact .p (by exact ki (i:=(i_3:Int).toNat) fj rfl rfl rfl rfl (xg e8) (map_set _ _ _ _))) (by exact rfl)⟩,trivial,trivial,trivial⟩,⟨by kernel_rfl,⟨trivial,trivial,⟨.b (.row 1),fun _=>rfl,fun _=>.p (by exact fW rfl)⟩,⟨I j_4,fun _=>rfl,fun _=>.p (by exact fW rfl)⟩,trivial,trivial,trivial,trivial,trivial,trivial,trivial,trivial,trivial,trivial,⟨.b (.j2 1 ((j_4:Int).toNat * 1)),fun _=>rfl,fun _=>.p (by exact gB jS (bp e9) (nh e9) rfl rfl rfl rfl)⟩,⟨_,none,.b (.one .any),rfl,(fun e=>by simp at e),rfl,rfl,fun _=>.qP [1] (by exact .p (by exact ki (i:=(j_4:Int).toNat) fj rfl rfl rfl rfl (xg e9) (map_set _ _ _ _))) (by exact rfl)⟩,trivial⟩,⟨by kernel_rfl,⟨trivial,trivial,trivial,trivial,trivial,trivial,trivial,trivial,trivial,trivial,trivial,trivial,trivial,trivial,trivial,trivial,trivial⟩,trivial⟩⟩⟩) rfl rfl rfl [0,2,3] [1] (s':=⟨[(0,_),(2,_),(3,_)],[(1,.row 9 1 (((s_2.set (i_3:Int).toNat x_6).set (j_4:Int).toNat x_7).map eS))]⟩) rfl ?_
  refine Fin.aH (Fin.ah ⟨[(0,_),(2,_),(3,_)],[(1,_)]⟩ rfl (Fin.then (ab.aa ?_)))
  refine Oc om (Oc (bb rfl rfl) (Oc om (Oc (bX rfl rfl) (Oc oa (Oc oa ?_)))))
  refine ad.nil ?_
  exact Fin.bR [0,2,3] [1] ((s_2.set (i_3:Int).toNat x_6).set (j_4:Int).toNat x_7,IntKind.i64.wrap (i_3 + 1),IntKind.i64.wrap (j_4 - 1)) (Option.some.inj h4) rfl
 ·refine ab.exit (Fin.aG ?_)
  obtain rfl:=hy5 _ (Option.some.inj h4).symm
  refine Fin.aG (Fin.aY ?_)
  obtain rfl:=Option.some.inj h
  refine Fin.ah ⟨[],[(1,_)]⟩ rfl (Fin.toF 1 rfl (Fin.ah ⟨[],[(1,.k9 9 1 (s_2.map eS))]⟩ rfl ?_))
  exact Fin.result [] (.inr rfl) rfl (.nil) ⟨rfl,rfl⟩
def jw (F:Nat) (x0:bt):Option bg :=
 (eL F [x0]).bind fun x_1=>if (!x_1) = true then (some []) else (Option.bind (iter F (b7 fun parts_3 w_4=>Option.bind (kR F w_4 1000000000) (b7 fun x_6 x_7=>(fm F (IntKind.i64.wrap x_7)).bind fun x_8=>if (decide (x_6 = aP.zero)) = true then ((il parts_3 [x_8]).bind fun x_9=>some (.inr x_9)) else (bD (IntKind.i64.wrap (9 - (x_8.length:Int))) fun x_10=>(iH F [48] x_10).bind fun x_11=>(il x_11 x_8).bind fun x_12=>(il parts_3 [x_12]).bind fun x_13=>some (.inl (x_13,x_6))))) ([],x0.W)) (fun parts_2=>Option.bind (if x0.Neg = true then ((il parts_2 [[45]]).bind fun x_15=>some x_15) else (some parts_2)) (fun parts_14=>(gm F parts_14).bind fun x_16=>(jF F x_16 []).bind fun x_17=>some x_17)))
theorem oT {F:Nat} {x0:bt} {r:bg} (h:jw F x0 = some r):az Tryz.prog (bj mx) 64 [] [.agg (au x0)] (Is [] (.b (.one (.str r)))):=by
 unfold jw at h
 refine az.intro 49 Tryz.func64 Tryz.ntmps64 rfl (by simp) fun E=>?_
 show ab _ E ⟨49,[],[]⟩ _ ⟨[(0,.b (.agg (au x0)))],[]⟩ _
 refine ab.seq (ab.aa ?_)
 refine Oc (aS (k:=101) rfl rfl) (Oc oa ?_)
 refine ad.aj ⟨[(1,Pt 101 0)],[(101,.box 25 (au x0))]⟩ rfl (ab.seq (ab.seq (ab.aa ?_)))
 refine Oc (lp ao) (Oc (br (k:=102) (es:=[x0].map au) ju rfl rfl (c5 fun _=>rfl) rfl (by decide) (by decide) rfl) ?_)
 obtain ⟨x_1,e1,h⟩:=aE h
 refine Oc (eQ (fc e1) jV rfl CP.dJ) (Oc (bq rfl) ?_)
 refine ad.aj ⟨[(1,_),(11,B (!x_1))],[(101,_)]⟩ rfl (ab.ite h rfl (fun _ h=>?_) (fun _ h=>?_))
 ·refine ab.seq (ab.aa ?_)
  refine Oc oa (ad.aj ⟨[(2,.b (.one (.str [])))],[]⟩ rfl (ab.ret (Fin.ar ?_)))
  obtain rfl:=Option.some.inj h
  refine Fin.ah ⟨[(2,_)],[]⟩ rfl (Fin.aq [.one (.str [])] (.inl rfl) rfl (.cons (.tmp rfl) .nil) ⟨rfl,rfl⟩)
 ·refine ab.skip (Fin.ah ⟨[(1,_)],[(101,_)]⟩ rfl (Fin.then (ab.seq (ab.aa ?_))))
  refine Oc oa (ad.aj ⟨[(1,_),(3,.b (.one (.nil)))],[(101,_)]⟩ rfl ?_)
  obtain ⟨v2,h3,h⟩:=aE h
  refine ab.cB (v:=v2) (fun (parts_2:List bg)=>⟨[(1,Pt 101 0),(3,.b (.row 108))],[(101,.box 25 (au x0)),(108,.row 9 1 (parts_2.map eS))]⟩) (fun z=>z) ?_ ?_
  ·refine ab.seq (ab.aa ?_)
   refine Oc (af ba rfl rfl) (Oc (lp aK) (Oc (aA (k:=103) cD rfl) (Oc (ag aK rfl rfl rfl rfl (Nat.le_of_ble_eq_true rfl) rfl) ?_)))
   refine ad.aj ⟨[(1,_),(3,_),(4,Pt 103 0)],[(101,_),(103,.box 23 (eW x0.W))]⟩ rfl (ab.block (ab.kq 3 108 1 9 rfl (by decide) rfl (ab.cS h3 (b7 fun (parts_3:List bg) (w_4:aP)=>⟨[(1,Pt 101 0),(3,.b (.row 108)),(4,Pt 103 0)],[(101,.box 25 (au x0)),(103,.box 23 (eW w_4)),(108,.row 9 1 (parts_3.map eS))]⟩) [1,3,4] [101,103,108] rfl ?_)))
   rintro ⟨parts_3,w_4⟩ o4 h5 hy6
   refine ab.seq (ab.block (ab.seq (ab.aa ?_)))
   refine Oc (lp aK) ?_
   obtain ⟨⟨x_6,x_7⟩,e7,h5⟩:=aE h5
   refine Oc (ae (rB e7) AZ rfl rfl) (Oc om (Oc (ay rfl rfl) (Oc (ay rfl rfl) ?_)))
   refine ad.ah ⟨[(1,_),(3,_),(4,_),(17,.b (.agg (eW x_6))),(18,.b (.one (.int .u32 x_7)))],[(101,_),(103,_),(108,_)]⟩ rfl (Oc (aA (k:=109) cD rfl) (Oc (ag aK rfl rfl rfl rfl (Nat.le_of_ble_eq_true rfl) rfl) (Oc oa ?_)))
   refine ad.aj ⟨[(1,_),(3,_),(4,_),(5,Pt 109 0),(6,.b (.one (.int .u32 x_7)))],[(101,_),(103,_),(108,_),(109,.box 23 (eW x_6))]⟩ rfl (ab.seq (ab.aa ?_))
   refine Oc om (Oc (aF bG lc rfl) ?_)
   obtain ⟨x_8,e8,h5⟩:=aE h5
   refine Oc (ae (mi e8) CX rfl rfl) (Oc oa ?_)
   refine ad.aj ⟨[(1,_),(3,_),(4,_),(5,_),(7,.b (.one (.str x_8)))],[(101,_),(103,_),(108,_),(109,_)]⟩ rfl (ab.seq (ab.seq (ab.aa ?_)))
   refine Oc (lp aK) (Oc (fg gh rfl rfl) (Oc (eH (nF x_6 aP.zero) rfl rfl) ?_))
   refine ad.aj ⟨[(1,_),(3,_),(4,_),(5,_),(7,_),(24,B (decide (x_6 = aP.zero)))],[(101,_),(103,_),(108,_),(109,_)]⟩ rfl (ab.ite h5 rfl (fun _ h5=>?_) (fun _ h5=>?_))
   ·refine ab.seq (ab.aa ?_)
    refine Oc om (Oc om (Oc (br (k:=110) (es:=[x_8].map eS) jS rfl rfl (c5 fun _=>rfl) rfl (by decide) (by decide) rfl) ?_))
    obtain ⟨x_9,e9,h5⟩:=aE h5
    refine Oc (kj jS (tJ e9) (tI e9) rfl rfl rfl rfl (nH e9) rfl) (Oc oa ?_)
    refine ad.aj ⟨[(1,_),(3,_)],[(101,_),(108,.row 9 1 (x_9.map eS))]⟩ rfl (ab.exit (Fin.aG (Fin.so (by decide) (Fin.aG ?_))))
    obtain rfl:=hy6 _ (Option.some.inj h5).symm
    refine Fin.aG (Fin.aY ?_)
    exact Fin.join [1,3] [101,108] x_9 rfl rfl
   ·refine ab.skip (Fin.ah ⟨[(1,_),(3,_),(4,_),(5,_),(7,_)],[(101,_),(103,_),(108,_),(109,_)]⟩ rfl (Fin.then (ab.seq (ab.aa ?_))))
    refine Oc om (Oc om (Oc (b6 eg rfl) ?_))
    refine ad.cp .i64 h5 rfl (bX rfl rfl) (fun x_10 h5=>?_)
    refine ad.ah ⟨[(1,_),(3,_),(4,_),(5,_),(7,_),(29,.b (.row 108)),(32,I x_10)],[(101,_),(103,_),(108,_),(109,_)]⟩ rfl ?_
    obtain ⟨x_11,e10,h5⟩:=aE h5
    refine Oc (ae (pW e10) goes126 rfl rfl) (Oc om ?_)
    obtain ⟨x_12,e11,h5⟩:=aE h5
    refine Oc (cK e11 rfl rfl) (Oc (br (k:=111) (es:=[x_12].map eS) jS rfl rfl (c5 fun _=>rfl) rfl (by decide) (by decide) rfl) ?_)
    obtain ⟨x_13,e12,h5⟩:=aE h5
    refine Oc (kj jS (tJ e12) (tI e12) rfl rfl rfl rfl (nH e12) rfl) (Oc oa ?_)
    refine ad.aj ⟨[(1,_),(3,_),(4,_),(5,_)],[(101,_),(103,_),(108,.row 9 1 (x_13.map eS)),(109,_)]⟩ rfl (ab.aa (Oc (lp aK) (Oc (ag aK rfl rfl rfl rfl (Nat.le_of_ble_eq_true rfl) rfl) ?_)))
    refine ad.nil (Fin.aH (Fin.ah ⟨[(1,_),(3,_),(4,_)],[(101,_),(103,.box 23 (eW x_6)),(108,_)]⟩ rfl (Fin.then (ab.seq (ab.aa ?_)))))
    refine Oc (lp aK) (ad.aj ⟨[(1,_),(3,_),(39,.b (.agg (eW x_6)))],[(101,_),(108,_)]⟩ rfl (ab.aa (Oc (aA (k:=112) cD rfl) (Oc (ag aK rfl rfl rfl rfl (Nat.le_of_ble_eq_true rfl) rfl) ?_))))
    refine ad.nil (Fin.ah ⟨[(1,Pt 101 0),(3,.b (.row 108)),(4,Pt 112 0)],[(101,.box 25 (au x0)),(108,.row 9 1 (x_13.map eS)),(112,.box 23 (eW x_6))]⟩ rfl (Fin.rename 112 103 rfl (by decide) rfl ?_))
    exact Fin.bR [1,3,4] [101,103,108] (x_13,x_6) (Option.some.inj h5) rfl
  ·rintro parts_2 hv
   subst v2
   obtain ⟨v13,h14,h⟩:=aE h
   refine ab.cB (v:=v13) (fun (parts_14:List bg)=>⟨[(3,.b (.row 108))],[(108,.row 9 1 (parts_14.map eS))]⟩) (fun z=>z) ?_ ?_
   ·refine ab.seq (ab.aa ?_)
    refine Oc (af bM rfl rfl) (Oc (ax cC rfl rfl rfl) ?_)
    refine ad.aj ⟨[(3,_),(41,B x0.Neg)],[(108,_)]⟩ rfl (ab.ite h14 rfl (fun _ h14=>?_) (fun _ h14=>?_))
    ·refine ab.aa (Oc om (Oc (br (k:=113) (es:=[[45]].map eS) jS rfl rfl (c5 fun _=>rfl) rfl (by decide) (by decide) rfl) ?_))
     obtain ⟨x_15,e15,h14⟩:=aE h14
     refine Oc (kj jS (tJ e15) (tI e15) rfl rfl rfl rfl (nH e15) rfl) (Oc oa ?_)
     refine ad.nil ?_
     exact Fin.join [3] [108] x_15 (Option.some.inj h14) rfl
    ·refine ab.skip ?_
     exact Fin.join [3] [108] parts_2 (Option.some.inj h14) rfl
   ·rintro parts_14 hv
    subst v13
    refine ab.seq (ab.aa ?_)
    refine Oc om (ad.toF 108 rfl ?_)
    obtain ⟨x_16,e16,h⟩:=aE h
    refine Oc (jU (own_a:=[(108,_)]) ((pX e16).sw 1 108) goes127 rfl ⟨rfl,trivial⟩ rfl rfl) (ad.unF 108 rfl (ad.aj ⟨[(3,_)],[(108,.row 9 1 (x_16.map eS))]⟩ rfl (ab.seq (ab.aa ?_))))
    refine Oc om ?_
    obtain ⟨x_17,e17,h⟩:=aE h
    refine Oc (eQ (rT e17) goes128 rfl CP.DX) (Oc oa ?_)
    refine ad.aj ⟨[(2,.b (.one (.str x_17)))],[]⟩ rfl (ab.ret ?_)
    obtain rfl:=Option.some.inj h
    refine Fin.ah ⟨[(2,_)],[]⟩ rfl (Fin.aq [.one (.str x_17)] (.inl rfl) rfl (.cons (.tmp rfl) .nil) ⟨rfl,rfl⟩)
def j9 (F:Nat) (x0:bN):Option bg :=
 (dE F x0).bind fun x_1=>if (!x_1) = true then (some []) else ((kH F).bind fun x_2=>if (decide (x0.D = x_2)) = true then ((jw F x0.N).bind fun x_3=>some x_3) else ((jw F x0.N).bind fun x_4=>(il x_4 [47]).bind fun x_5=>(jw F x0.D).bind fun x_6=>(il x_5 x_6).bind fun x_7=>some x_7))
theorem oX {F:Nat} {x0:bN} {r:bg} (h:j9 F x0 = some r):az Tryz.prog (bj mx) 14 [] [.agg (aI x0)] (Is [] (.b (.one (.str r)))):=by
 unfold j9 at h
 refine az.intro 23 Tryz.func14 Tryz.ntmps14 rfl (by simp) fun E=>?_
 show ab _ E ⟨23,[],[]⟩ _ ⟨[(0,.b (.agg (aI x0)))],[]⟩ _
 refine ab.seq (ab.aa ?_)
 refine Oc (aS (k:=101) rfl rfl) (Oc oa ?_)
 refine ad.aj ⟨[(1,Pt 101 0)],[(101,.box 27 (aI x0))]⟩ rfl (ab.seq (ab.block (ab.seq (ab.aa ?_))))
 refine Oc (lp aC) ?_
 obtain ⟨x_1,e1,h⟩:=aE h
 refine Oc (ae (dQ e1) kv rfl rfl) (Oc (bq rfl) (Oc oa ?_))
 refine ad.aj ⟨[(1,_),(3,B (!x_1))],[(101,_)]⟩ rfl (ab.ite h rfl (fun _ h=>?_) (fun _ h=>?_))
 ·refine ab.seq (ab.aa ?_)
  refine Oc oa (ad.aj ⟨[(2,.b (.one (.str [])))],[]⟩ rfl (ab.ret (Fin.aL (Fin.ar ?_))))
  obtain rfl:=Option.some.inj h
  refine Fin.ah ⟨[(2,_)],[]⟩ rfl (Fin.aq [.one (.str [])] (.inl rfl) rfl (.cons (.tmp rfl) .nil) ⟨rfl,rfl⟩)
 ·refine ab.seq (ab.ah ⟨[(1,_)],[(101,_)]⟩ rfl ?_)
  obtain ⟨x_2,e2,h⟩:=aE h
  refine ab.bP mixed 5 [Pt 101 18,.b (.agg (au x0.D)),.b (.agg (au x_2)),B (decide (x0.D = x_2)),B (decide (x0.D = x_2))] [1,7] [101] (s':=⟨[(1,_),(7,B (decide (x0.D = x_2)))],[(101,_)]⟩) rfl ⟨fun _=>.p (af bm rfl rfl),fun _=>.p (lp ao),fun _=>.p (ae (lJ e2) tU rfl rfl),fun _=>.p (eH (wK x0.D x_2) rfl rfl),fun _=>.p oa,trivial⟩ rfl rfl (ab.ite h rfl (fun _ h=>?_) (fun _ h=>?_))
  ·refine ab.seq (ab.aa ?_)
   refine Oc (af bF rfl rfl) (Oc (lp ao) ?_)
   obtain ⟨x_3,e3,h⟩:=aE h
   refine Oc (ae (oT e3) y4 rfl rfl) (Oc oa ?_)
   refine ad.aj ⟨[(2,.b (.one (.str x_3)))],[]⟩ rfl (ab.ret (Fin.aL (Fin.ar ?_)))
   obtain rfl:=Option.some.inj h
   refine Fin.ah ⟨[(2,_)],[]⟩ rfl (Fin.aq [.one (.str x_3)] (.inl rfl) rfl (.cons (.tmp rfl) .nil) ⟨rfl,rfl⟩)
  ·refine ab.skip (Fin.aH (Fin.ah ⟨[(1,_)],[(101,_)]⟩ rfl (Fin.then (ab.seq ?_))))
   refine ab.ah ⟨[(1,_)],[(101,_)]⟩ rfl ?_
   obtain ⟨x_4,e4,h⟩:=aE h
   obtain ⟨x_5,e5,h⟩:=aE h
   obtain ⟨x_6,e6,h⟩:=aE h
   obtain ⟨x_7,e7,h⟩:=aE h
   refine ab.bP mixed 9 [Pt 101 0,.b (.agg (au x0.N)),.b (.one (.str x_4)),.b (.one (.str x_5)),Pt 101 18,.b (.agg (au x0.D)),.b (.one (.str x_6)),.b (.one (.str x_7)),.b (.one (.str x_7))] [2] [] (s':=⟨[(2,.b (.one (.str x_7)))],[]⟩) rfl ⟨fun _=>.p (af bF rfl rfl),fun _=>.p (lp ao),fun _=>.p (ae (oT e4) y4 rfl rfl),fun _=>.p (cK e5 rfl rfl),fun _=>.p (af bm rfl rfl),fun _=>.p (lp ao),fun _=>.p (ae (oT e6) y4 rfl rfl),fun _=>.p (cK e7 rfl rfl),fun _=>.p oa,trivial⟩ rfl rfl (ab.ret ?_)
   obtain rfl:=Option.some.inj h
   refine Fin.ah ⟨[(2,_)],[]⟩ rfl (Fin.aq [.one (.str x_7)] (.inl rfl) rfl (.cons (.tmp rfl) .nil) ⟨rfl,rfl⟩)
def kL (F:Nat) (a0:aw):Option bg :=
 (de F [a0]).bind fun x_1=>if (!x_1) = true then (some []) else (if (decide (a0.U = (⟨0,0,0⟩:aX))) = true then ((j9 F a0.V).bind fun x_2=>some x_2) else ((j9 F a0.V).bind fun x_3=>(il x_3 [32]).bind fun x_4=>(fL F a0.U).bind fun x_5=>(il x_4 x_5).bind fun x_6=>some x_6))
theorem s4 {F:Nat} {a0:aw} {r:bg} (h:kL F a0 = some r):az Tryz.prog (bj mx) 19 [] [.agg (ap a0)] (Is [] (.b (.one (.str r)))):=by
 unfold kL at h
 refine az.intro 22 Tryz.func19 Tryz.ntmps19 rfl (by simp) fun E=>?_
 show ab _ E ⟨22,[],[]⟩ _ ⟨[(0,.b (.agg (ap a0)))],[]⟩ _
 refine ab.seq (ab.aa ?_)
 refine Oc (aS (k:=101) rfl rfl) (Oc oa ?_)
 refine ad.aj ⟨[(1,Pt 101 0)],[(101,.box 31 (ap a0))]⟩ rfl (ab.seq (ab.seq (ab.aa ?_)))
 refine Oc (lp aW) (Oc (br (k:=102) (es:=[a0].map ap) qV rfl rfl (c5 fun _=>rfl) rfl (by decide) (by decide) rfl) ?_)
 obtain ⟨x_1,e1,h⟩:=aE h
 refine Oc (eQ (gX e1) vN rfl CP.dJ) (Oc (bq rfl) ?_)
 refine ad.aj ⟨[(1,_),(6,B (!x_1))],[(101,_)]⟩ rfl (ab.ite h rfl (fun _ h=>?_) (fun _ h=>?_))
 ·refine ab.seq (ab.aa ?_)
  refine Oc oa (ad.aj ⟨[(2,.b (.one (.str [])))],[]⟩ rfl (ab.ret (Fin.ar ?_)))
  obtain rfl:=Option.some.inj h
  refine Fin.ah ⟨[(2,_)],[]⟩ rfl (Fin.aq [.one (.str [])] (.inl rfl) rfl (.cons (.tmp rfl) .nil) ⟨rfl,rfl⟩)
 ·refine ab.skip (Fin.ah ⟨[(1,_)],[(101,_)]⟩ rfl (Fin.then (ab.seq (ab.seq (ab.aa ?_)))))
  refine Oc (af c8 rfl rfl) (Oc (lp bz) (Oc (aV ff rfl rfl) (Oc (eH (tv a0.U (⟨0,0,0⟩:aX)) rfl rfl) ?_)))
  refine ad.aj ⟨[(1,_),(10,B (decide (a0.U = (⟨0,0,0⟩:aX))))],[(101,_)]⟩ rfl (ab.ite h rfl (fun _ h=>?_) (fun _ h=>?_))
  ·refine ab.seq (ab.aa ?_)
   refine Oc (af c9 rfl rfl) (Oc (lp aC) ?_)
   obtain ⟨x_2,e2,h⟩:=aE h
   refine Oc (ae (oX e2) y9 rfl rfl) (Oc oa ?_)
   refine ad.aj ⟨[(2,.b (.one (.str x_2)))],[]⟩ rfl (ab.ret (Fin.ar ?_))
   obtain rfl:=Option.some.inj h
   refine Fin.ah ⟨[(2,_)],[]⟩ rfl (Fin.aq [.one (.str x_2)] (.inl rfl) rfl (.cons (.tmp rfl) .nil) ⟨rfl,rfl⟩)
  ·refine ab.skip (Fin.ah ⟨[(1,_)],[(101,_)]⟩ rfl (Fin.then (ab.seq ?_)))
   refine ab.ah ⟨[(1,_)],[(101,_)]⟩ rfl ?_
   obtain ⟨x_3,e3,h⟩:=aE h
   obtain ⟨x_4,e4,h⟩:=aE h
   obtain ⟨x_5,e5,h⟩:=aE h
   obtain ⟨x_6,e6,h⟩:=aE h
   refine ab.bP mixed 9 [Pt 101 0,.b (.agg (aI a0.V)),.b (.one (.str x_3)),.b (.one (.str x_4)),Pt 101 36,.b (.agg (aZ a0.U)),.b (.one (.str x_5)),.b (.one (.str x_6)),.b (.one (.str x_6))] [2] [] (s':=⟨[(2,.b (.one (.str x_6)))],[]⟩) rfl ⟨fun _=>.p (af c9 rfl rfl),fun _=>.p (lp aC),fun _=>.p (ae (oX e3) y9 rfl rfl),fun _=>.p (cK e4 rfl rfl),fun _=>.p (af c8 rfl rfl),fun _=>.p (lp bz),fun _=>.p (ae (gN e5) tY rfl rfl),fun _=>.p (cK e6 rfl rfl),fun _=>.p oa,trivial⟩ rfl rfl (ab.ret ?_)
   obtain rfl:=Option.some.inj h
   refine Fin.ah ⟨[(2,_)],[]⟩ rfl (Fin.aq [.one (.str x_6)] (.inl rfl) rfl (.cons (.tmp rfl) .nil) ⟨rfl,rfl⟩)
def jM (F:Nat) (a0:aw) (s0:bg):Option (bN × Int) :=
 (de F [a0]).bind fun x_1=>if (!x_1) = true then (bD (⟨(⟨false,false,aP.zero⟩:bt),(⟨false,false,aP.zero⟩:bt)⟩:bN) fun x_2=>some (x_2,1)) else (Option.bind (fM F s0) (b7 fun x_3 x_4=>if (decide (x_4 ≠ 0)) = true then (bD (⟨(⟨false,false,aP.zero⟩:bt),(⟨false,false,aP.zero⟩:bt)⟩:bN) fun x_5=>some (x_5,x_4)) else (if (decide (x_3.U ≠ a0.U)) = true then (bD (⟨(⟨false,false,aP.zero⟩:bt),(⟨false,false,aP.zero⟩:bt)⟩:bN) fun x_6=>some (x_6,110)) else ((nq F a0.V x_3.V).bind fun x_7=>Option.bind (fD F x_7 (⟨0,0,0⟩:aX)) (b7 fun x_8 x_9=>some (x_8.V,x_9))))))
theorem nR {F:Nat} {a0:aw} {s0:bg} {r:bN × Int} (h:jM F a0 s0 = some r):az Tryz.prog (bj mx) 11 [] [.agg (ap a0),.one (.str s0)] (Is [] (.fE [.agg (aI r.1),.one (.i r.2)])):=by
 unfold jM at h
 refine az.intro 42 Tryz.func11 Tryz.ntmps11 rfl (by simp) fun E=>?_
 show ab _ E ⟨42,[],[]⟩ _ ⟨[(0,.b (.agg (ap a0))),(1,.b (.one (.str s0)))],[]⟩ _
 refine ab.seq (ab.aa ?_)
 refine Oc (aS (k:=101) rfl rfl) (Oc (aA (k:=102) bO rfl) (Oc oa ?_))
 refine ad.aj ⟨[(1,.b (.one (.str s0))),(2,Pt 101 0),(4,Pt 102 0)],[(101,.box 31 (ap a0)),(102,.box 27 eh)]⟩ rfl (ab.seq (ab.seq (ab.aa ?_)))
 refine Oc (lp aW) (Oc (br (k:=103) (es:=[a0].map ap) qV rfl rfl (c5 fun _=>rfl) rfl (by decide) (by decide) rfl) ?_)
 obtain ⟨x_1,e1,h⟩:=aE h
 refine Oc (eQ (gX e1) vN rfl CP.dJ) (Oc (bq rfl) ?_)
 refine ad.aj ⟨[(1,_),(2,_),(4,_),(12,B (!x_1))],[(101,_),(102,_)]⟩ rfl (ab.ite h rfl (fun _ h=>?_) (fun _ h=>?_))
 ·refine ab.seq (ab.aa ?_)
  refine ad.ek aI h rfl (aV fB rfl rfl) (fun x_2 h=>?_)
  refine Oc (ag aC rfl rfl rfl rfl (Nat.le_of_ble_eq_true rfl) rfl) (Oc oa ?_)
  refine ad.aj ⟨[(4,_),(5,I 1)],[(102,.box 27 (aI x_2))]⟩ rfl (ab.ret (Fin.ar ?_))
  obtain rfl:=Option.some.inj h
  refine Fin.ah ⟨[(4,_),(5,_)],[(102,_)]⟩ rfl (Fin.aq [.agg (aI x_2),.one (.i 1)] (.inl rfl) rfl (.cons (.agg aC rfl rfl rfl rfl) (.cons (.tmp rfl) .nil)) ⟨rfl,rfl⟩)
 ·refine ab.skip (Fin.ah ⟨[(1,_),(2,_),(4,_)],[(101,_),(102,_)]⟩ rfl (Fin.then (ab.seq (ab.aa ?_))))
  refine Oc om ?_
  obtain ⟨⟨x_3,x_4⟩,e2,h⟩:=aE h
  refine Oc (ae (iX e2) vP rfl rfl) (Oc om (Oc (ay rfl rfl) (Oc (ay rfl rfl) ?_)))
  refine ad.ah ⟨[(2,_),(4,_),(17,.b (.agg (ap x_3))),(18,I x_4)],[(101,_),(102,_)]⟩ rfl (Oc (aA (k:=104) dD rfl) (Oc (ag aW rfl rfl rfl rfl (Nat.le_of_ble_eq_true rfl) rfl) (Oc oa ?_)))
  refine ad.aj ⟨[(2,_),(4,_),(6,Pt 104 0),(7,I x_4)],[(101,_),(102,_),(104,.box 31 (ap x_3))]⟩ rfl (ab.seq (ab.seq (ab.aa ?_)))
  refine Oc om (Oc (dY rfl rfl) ?_)
  refine ad.aj ⟨[(2,_),(4,_),(6,_),(7,_),(20,B (decide (x_4 ≠ 0)))],[(101,_),(102,_),(104,_)]⟩ rfl (ab.ite h rfl (fun _ h=>?_) (fun _ h=>?_))
  ·refine ab.seq (ab.aa ?_)
   refine ad.ek aI h rfl (aV fB rfl rfl) (fun x_5 h=>?_)
   refine Oc om (Oc (ag aC rfl rfl rfl rfl (Nat.le_of_ble_eq_true rfl) rfl) (Oc oa ?_))
   refine ad.aj ⟨[(4,_),(5,I x_4)],[(102,.box 27 (aI x_5))]⟩ rfl (ab.ret (Fin.ar ?_))
   obtain rfl:=Option.some.inj h
   refine Fin.ah ⟨[(4,_),(5,_)],[(102,_)]⟩ rfl (Fin.aq [.agg (aI x_5),.one (.i x_4)] (.inl rfl) rfl (.cons (.agg aC rfl rfl rfl rfl) (.cons (.tmp rfl) .nil)) ⟨rfl,rfl⟩)
  ·refine ab.skip (Fin.ah ⟨[(2,_),(4,_),(6,_)],[(101,_),(102,_),(104,_)]⟩ rfl (Fin.then (ab.seq (ab.seq (ab.aa ?_)))))
   refine Oc (af c8 rfl rfl) (Oc (lp bz) (Oc (af c8 rfl rfl) (Oc (lp bz) (Oc (hZ (tv x_3.U a0.U) rfl rfl l5) ?_))))
   refine ad.aj ⟨[(2,_),(4,_),(6,_),(27,B (decide (x_3.U ≠ a0.U)))],[(101,_),(102,_),(104,_)]⟩ rfl (ab.ite h rfl (fun _ h=>?_) (fun _ h=>?_))
   ·refine ab.seq (ab.aa ?_)
    refine ad.ek aI h rfl (aV fB rfl rfl) (fun x_6 h=>?_)
    refine Oc (ag aC rfl rfl rfl rfl (Nat.le_of_ble_eq_true rfl) rfl) (Oc oa ?_)
    refine ad.aj ⟨[(4,_),(5,I 110)],[(102,.box 27 (aI x_6))]⟩ rfl (ab.ret (Fin.ar ?_))
    obtain rfl:=Option.some.inj h
    refine Fin.ah ⟨[(4,_),(5,_)],[(102,_)]⟩ rfl (Fin.aq [.agg (aI x_6),.one (.i 110)] (.inl rfl) rfl (.cons (.agg aC rfl rfl rfl rfl) (.cons (.tmp rfl) .nil)) ⟨rfl,rfl⟩)
   ·refine ab.skip (Fin.ah ⟨[(2,_),(4,_),(6,_)],[(101,_),(102,_),(104,_)]⟩ rfl (Fin.then (ab.seq (ab.aa ?_))))
    refine Oc (af c9 rfl rfl) (Oc (lp aC) (Oc (af c9 rfl rfl) (Oc (lp aC) ?_)))
    obtain ⟨x_7,e3,h⟩:=aE h
    refine Oc (ae (qJ e3) y8 rfl rfl) (ad.ah ⟨[(4,_),(34,.b (.agg (aI x_7)))],[(102,_)]⟩ rfl (Oc (aV ff rfl rfl) ?_))
    obtain ⟨⟨x_8,x_9⟩,e4,h⟩:=aE h
    refine Oc (ae (lM e4) C0 rfl rfl) (Oc om (Oc (ay rfl rfl) (Oc (ay rfl rfl) ?_)))
    refine ad.ah ⟨[(4,_),(37,.b (.agg (ap x_8))),(38,I x_9)],[(102,_)]⟩ rfl (Oc (aA (k:=105) dD rfl) (Oc (ag aW rfl rfl rfl rfl (Nat.le_of_ble_eq_true rfl) rfl) (Oc oa ?_)))
    refine ad.aj ⟨[(4,_),(7,I x_9),(8,Pt 105 0)],[(102,_),(105,.box 31 (ap x_8))]⟩ rfl (ab.seq (ab.aa ?_))
    refine Oc (af c9 rfl rfl) (Oc (lp aC) (Oc om (Oc (ag aC rfl rfl rfl rfl (Nat.le_of_ble_eq_true rfl) rfl) (Oc oa ?_))))
    refine ad.aj ⟨[(4,_),(5,I x_9)],[(102,.box 27 (aI x_8.V))]⟩ rfl (ab.ret ?_)
    obtain rfl:=Option.some.inj h
    refine Fin.ah ⟨[(4,_),(5,_)],[(102,_)]⟩ rfl (Fin.aq [.agg (aI x_8.V),.one (.i x_9)] (.inl rfl) rfl (.cons (.agg aC rfl rfl rfl rfl) (.cons (.tmp rfl) .nil)) ⟨rfl,rfl⟩)
def qG (F:Nat) (a0:aw) (b0:aw):Option (aw × Int) :=
 Option.bind (cY F (⟨22,87⟩:yI) a0 b0) (b7 fun x_1 x_2=>some (x_1,x_2))
theorem uY {F:Nat} {a0:aw} {b0:aw} {r:aw × Int} (h:qG F a0 b0 = some r):az Tryz.prog (bj mx) 36 [] [.agg (ap a0),.agg (ap b0)] (Is [] (.fE [.agg (ap r.1),.one (.i r.2)])):=by
 unfold qG at h
 refine az.intro 12 Tryz.func36 Tryz.ntmps36 rfl (by simp) fun E=>?_
 show ab _ E ⟨12,[],[]⟩ _ ⟨[(0,.b (.agg (ap a0))),(1,.b (.agg (ap b0)))],[]⟩ _
 refine ab.seq (ab.aa ?_)
 refine Oc (aS (k:=101) rfl rfl) (Oc (aS (k:=102) rfl rfl) (Oc (aA (k:=103) dD rfl) (Oc oa ?_)))
 refine ad.aj ⟨[(2,Pt 101 0),(3,Pt 102 0),(4,Pt 103 0)],[(101,.box 31 (ap a0)),(102,.box 31 (ap b0)),(103,.box 31 (.bool false :: .bool false :: (eW aP.zero ++ (.bool false :: .bool false :: (eW aP.zero ++ ([.i 0,.i 0,.i 0]))))))]⟩ rfl (ab.seq (ab.aa ?_))
 refine Oc (aV qH rfl rfl) (Oc (lp aW) (Oc (lp aW) ?_))
 obtain ⟨⟨x_1,x_2⟩,e1,h⟩:=aE h
 refine Oc (ae (gE e1) yV rfl rfl) (Oc (ay rfl rfl) ?_)
 refine ad.ah ⟨[(4,_),(9,.fE [.agg (ap x_1),.one (.i x_2)]),(10,.b (.agg (ap x_1)))],[(103,_)]⟩ rfl (Oc (ay rfl rfl) (Oc (ag aW rfl rfl rfl rfl (Nat.le_of_ble_eq_true rfl) rfl) (Oc oa ?_)))
 refine ad.aj ⟨[(4,_),(5,I x_2)],[(103,.box 31 (ap x_1))]⟩ rfl (ab.ret ?_)
 obtain rfl:=Option.some.inj h
 refine Fin.ah ⟨[(4,_),(5,_)],[(103,_)]⟩ rfl (Fin.aq [.agg (ap x_1),.one (.i x_2)] (.inl rfl) rfl (.cons (.agg aW rfl rfl rfl rfl) (.cons (.tmp rfl) .nil)) ⟨rfl,rfl⟩)
def ue (F:Nat) (x0:bN):Option Int :=
 (dE F x0).bind fun x_1=>if (!x_1) = true then (some 0) else ((hE F x0.N).bind fun x_2=>some x_2)
theorem yi {F:Nat} {x0:bN} {r:Int} (h:ue F x0 = some r):az Tryz.prog (bj mx) 39 [] [.agg (aI x0)] (Is [] (.b (.one (.i r)))):=by
 unfold ue at h
 refine az.intro 9 Tryz.func39 Tryz.ntmps39 rfl (by simp) fun E=>?_
 show ab _ E ⟨9,[],[]⟩ _ ⟨[(0,.b (.agg (aI x0)))],[]⟩ _
 refine ab.seq (ab.aa ?_)
 refine Oc (aS (k:=101) rfl rfl) (Oc oa ?_)
 refine ad.aj ⟨[(1,Pt 101 0)],[(101,.box 27 (aI x0))]⟩ rfl (ab.seq (ab.seq (ab.aa ?_)))
 refine Oc (lp aC) ?_
 obtain ⟨x_1,e1,h⟩:=aE h
 refine Oc (ae (dQ e1) kv rfl rfl) (Oc (bq rfl) ?_)
 refine ad.aj ⟨[(1,_),(5,B (!x_1))],[(101,_)]⟩ rfl (ab.ite h rfl (fun _ h=>?_) (fun _ h=>?_))
 ·refine ab.seq (ab.aa ?_)
  refine Oc oa (ad.aj ⟨[(2,I 0)],[]⟩ rfl (ab.ret (Fin.ar ?_)))
  obtain rfl:=Option.some.inj h
  refine Fin.ah ⟨[(2,_)],[]⟩ rfl (Fin.aq [.one (.i 0)] (.inl rfl) rfl (.cons (.tmp rfl) .nil) ⟨rfl,rfl⟩)
 ·refine ab.skip (Fin.ah ⟨[(1,_)],[(101,_)]⟩ rfl (Fin.then (ab.seq (ab.aa ?_))))
  refine Oc (af bF rfl rfl) (Oc (lp ao) ?_)
  obtain ⟨x_2,e2,h⟩:=aE h
  refine Oc (ae (kh e2) tT rfl rfl) (Oc oa ?_)
  refine ad.aj ⟨[(2,I x_2)],[]⟩ rfl (ab.ret ?_)
  obtain rfl:=Option.some.inj h
  refine Fin.ah ⟨[(2,_)],[]⟩ rfl (Fin.aq [.one (.i x_2)] (.inl rfl) rfl (.cons (.tmp rfl) .nil) ⟨rfl,rfl⟩)
def oU (F:Nat) (a0:aw) (b0:aw):Option (aw × Int) :=
 (de F [a0,b0]).bind fun x_1=>(bA x_1 (ue F b0.V)).bind fun x_2=>if (x_1 && (decide (x_2 = 0))) = true then (bD (⟨(⟨(⟨false,false,aP.zero⟩:bt),(⟨false,false,aP.zero⟩:bt)⟩:bN),(⟨0,0,0⟩:aX)⟩:aw) fun x_3=>some (x_3,31)) else (Option.bind (cY F (⟨21,27⟩:yI) a0 b0) (b7 fun x_4 x_5=>some (x_4,x_5)))
theorem uJ {F:Nat} {a0:aw} {b0:aw} {r:aw × Int} (h:oU F a0 b0 = some r):az Tryz.prog (bj mx) 40 [] [.agg (ap a0),.agg (ap b0)] (Is [] (.fE [.agg (ap r.1),.one (.i r.2)])):=by
 unfold oU at h
 refine az.intro 23 Tryz.func40 Tryz.ntmps40 rfl (by simp) fun E=>?_
 show ab _ E ⟨23,[],[]⟩ _ ⟨[(0,.b (.agg (ap a0))),(1,.b (.agg (ap b0)))],[]⟩ _
 refine ab.seq (ab.aa ?_)
 refine Oc (aS (k:=101) rfl rfl) (Oc (aS (k:=102) rfl rfl) (Oc (aA (k:=103) dD rfl) (Oc oa ?_)))
 refine ad.aj ⟨[(2,Pt 101 0),(3,Pt 102 0),(4,Pt 103 0)],[(101,.box 31 (ap a0)),(102,.box 31 (ap b0)),(103,.box 31 (.bool false :: .bool false :: (eW aP.zero ++ (.bool false :: .bool false :: (eW aP.zero ++ ([.i 0,.i 0,.i 0]))))))]⟩ rfl (ab.seq (ab.seq (ab.aa ?_)))
 refine Oc (lp aW) (Oc (lp aW) (Oc (br (k:=104) (es:=[a0,b0].map ap) qV rfl rfl (c5 fun _=>rfl) rfl (by decide) (by decide) rfl) ?_))
 obtain ⟨x_1,e1,h⟩:=aE h
 refine Oc (eQ (gX e1) vN rfl CP.dJ) (ad.ah ⟨[(2,_),(3,_),(4,_),(9,B x_1)],[(101,_),(102,_),(103,_)]⟩ rfl (Oc om (bU x_1 [] (fun g2=>by exact trivial) (fun g2=>af c9 rfl rfl) (bU x_1 [11] (fun g3=>by exact ⟨g3,trivial⟩) (fun g3=>lp aC) ?_))))
 obtain ⟨x_2,e5,h⟩:=aE h
 refine bU x_1 [12] (fun g4=>⟨g4,trivial⟩) (fun g4=>ae (yi (gc e5 g4)) goes39 rfl rfl) (bU x_1 [13] (fun g6=>⟨g6,trivial⟩) (fun g6=>cy rfl rfl) (Oc (aD (fun e=>e) rfl rfl rfl rfl) (ad.aj ⟨[(2,_),(3,_),(4,_),(15,B (x_1 && (decide (x_2 = 0))))],[(101,_),(102,_),(103,_)]⟩ rfl (ab.ite h rfl (fun _ h=>?_) (fun _ h=>?_)))))
 ·refine ab.seq (ab.aa ?_)
  refine ad.ek ap h rfl (aV dI rfl rfl) (fun x_3 h=>?_)
  refine Oc (ag aW rfl rfl rfl rfl (Nat.le_of_ble_eq_true rfl) rfl) (Oc oa ?_)
  refine ad.aj ⟨[(4,_),(5,I 31)],[(103,.box 31 (ap x_3))]⟩ rfl (ab.ret (Fin.ar ?_))
  obtain rfl:=Option.some.inj h
  refine Fin.ah ⟨[(4,_),(5,_)],[(103,_)]⟩ rfl (Fin.aq [.agg (ap x_3),.one (.i 31)] (.inl rfl) rfl (.cons (.agg aW rfl rfl rfl rfl) (.cons (.tmp rfl) .nil)) ⟨rfl,rfl⟩)
 ·refine ab.skip (Fin.ah ⟨[(2,_),(3,_),(4,_)],[(101,_),(102,_),(103,_)]⟩ rfl (Fin.then (ab.seq (ab.aa ?_))))
  refine Oc (aV qH rfl rfl) (Oc (lp aW) (Oc (lp aW) ?_))
  obtain ⟨⟨x_4,x_5⟩,e7,h⟩:=aE h
  refine Oc (ae (gE e7) yV rfl rfl) (Oc (ay rfl rfl) ?_)
  refine ad.ah ⟨[(4,_),(20,.fE [.agg (ap x_4),.one (.i x_5)]),(21,.b (.agg (ap x_4)))],[(103,_)]⟩ rfl (Oc (ay rfl rfl) (Oc (ag aW rfl rfl rfl rfl (Nat.le_of_ble_eq_true rfl) rfl) (Oc oa ?_)))
  refine ad.aj ⟨[(4,_),(5,I x_5)],[(103,.box 31 (ap x_4))]⟩ rfl (ab.ret ?_)
  obtain rfl:=Option.some.inj h
  refine Fin.ah ⟨[(4,_),(5,_)],[(103,_)]⟩ rfl (Fin.aq [.agg (ap x_4),.one (.i x_5)] (.inl rfl) rfl (.cons (.agg aW rfl rfl rfl rfl) (.cons (.tmp rfl) .nil)) ⟨rfl,rfl⟩)
def we (F:Nat) (n0:Int):Option bN :=
 (iV F n0).bind fun x_1=>(ls F).bind fun x_2=>(gQ F x_1 x_2).bind fun x_3=>some x_3
theorem zD {F:Nat} {n0:Int} {r:bN} (h:we F n0 = some r):az Tryz.prog (bj mx) 52 [] [.one (.i n0)] (Is [] (.b (.agg (aI r)))):=by
 unfold we at h
 refine az.intro 7 Tryz.func52 Tryz.ntmps52 rfl (by simp) fun E=>?_
 show ab _ E ⟨7,[],[]⟩ _ ⟨[(0,I n0)],[]⟩ _
 refine ab.seq (ab.aa ?_)
 refine Oc (aA (k:=101) bO rfl) (ad.aj ⟨[(0,I n0),(2,Pt 101 0)],[(101,.box 27 eh)]⟩ rfl (ab.seq (ab.aa ?_)))
 refine Oc om ?_
 obtain ⟨x_1,e1,h⟩:=aE h
 refine Oc (ae (je e1) nE rfl rfl) ?_
 obtain ⟨x_2,e2,h⟩:=aE h
 refine Oc (ae (oV e2) wD rfl rfl) ?_
 obtain ⟨x_3,e3,h⟩:=aE h
 refine Oc (ae (iC e3) pG rfl rfl) (Oc (ag aC rfl rfl rfl rfl (Nat.le_of_ble_eq_true rfl) rfl) ?_)
 refine ad.aj ⟨[(2,_)],[(101,.box 27 (aI x_3))]⟩ rfl (ab.ret ?_)
 obtain rfl:=Option.some.inj h
 refine Fin.ah ⟨[(2,_)],[(101,_)]⟩ rfl (Fin.aq [.agg (aI x_3)] (.inl rfl) rfl (.cons (.agg aC rfl rfl rfl rfl) .nil) ⟨rfl,rfl⟩)
def cz (F:Nat) (s0:bg) (want0:Int):Option Bool :=
 Option.bind (fM F s0) (b7 fun x_1 x_2=>bD (⟨(⟨(⟨false,false,aP.zero⟩:bt),(⟨false,false,aP.zero⟩:bt)⟩:bN),(⟨0,0,0⟩:aX)⟩:aw) fun x_3=>some ((decide (x_1 = x_3)) && (decide (x_2 = want0))))
theorem cW {F:Nat} {s0:bg} {want0:Int} {r:Bool} (h:cz F s0 want0 = some r):az Tryz.prog (bj mx) 53 [] [.one (.str s0),.one (.i want0)] (Is [] (.b (.one (.bool r)))):=by
 unfold cz at h
 refine az.intro 20 Tryz.func53 Tryz.ntmps53 rfl (by simp) fun E=>?_
 show ab _ E ⟨20,[],[]⟩ _ ⟨[(0,.b (.one (.str s0))),(1,I want0)],[]⟩ _
 refine ab.seq (ab.aa ?_)
 refine Oc oa (ad.aj ⟨[(0,.b (.one (.str s0))),(1,I want0)],[]⟩ rfl (ab.seq (ab.aa ?_)))
 refine Oc om ?_
 obtain ⟨⟨x_1,x_2⟩,e1,h⟩:=aE h
 refine Oc (ae (iX e1) vP rfl rfl) (Oc om (Oc (ay rfl rfl) (Oc (ay rfl rfl) ?_)))
 refine ad.ah ⟨[(1,_),(10,.b (.agg (ap x_1))),(11,I x_2)],[]⟩ rfl (Oc (aA (k:=101) dD rfl) (Oc (ag aW rfl rfl rfl rfl (Nat.le_of_ble_eq_true rfl) rfl) (Oc oa ?_)))
 refine ad.aj ⟨[(1,_),(5,Pt 101 0),(6,I x_2)],[(101,.box 31 (ap x_1))]⟩ rfl (ab.seq (ab.aa ?_))
 refine Oc (lp aW) (ad.ek ap h rfl (aV dI rfl rfl) (fun x_3 h=>?_))
 refine Oc (eH (tu x_1 x_3) rfl rfl) (Oc om ?_)
 refine bU (decide (x_1 = x_3)) [] (fun g2=>trivial) (fun g2=>om) (bU (decide (x_1 = x_3)) [] (fun g3=>by exact trivial) (fun g3=>om) (bU (decide (x_1 = x_3)) [16,17] (fun g4=>by exact ⟨g4,g4,trivial⟩) (fun g4=>cy rfl rfl) (Oc (aD (fun e=>e) rfl rfl rfl rfl) (Oc oa ?_))))
 refine ad.aj ⟨[(4,B ((decide (x_1 = x_3)) && (decide (x_2 = want0))))],[]⟩ rfl (ab.ret ?_)
 obtain rfl:=Option.some.inj h
 refine Fin.ah ⟨[(4,_)],[]⟩ rfl (Fin.aq [.one (.bool ((decide (x_1 = x_3)) && (decide (x_2 = want0))))] (.inl rfl) rfl (.cons (.tmp rfl) .nil) ⟨rfl,rfl⟩)
def cH (F:Nat):Option Bool :=
 Option.bind (fM F [107,78,47,109,109,94,50]) (b7 fun x_1 x_2=>(bJ F 1000000000 1 (-1) 1 (-2)).bind fun x_3=>(fL F (⟨1,1,(-2)⟩:aX)).bind fun x_4=>(bA (decide (x_4 = [109,42,107,103,47,115,94,50])) (fL F (⟨(-1),1,(-2)⟩:aX))).bind fun x_5=>bD ((decide (x_4 = [109,42,107,103,47,115,94,50])) && (decide (x_5 = [107,103,47,109,47,115,94,50]))) fun x_6=>(bA x_6 (fL F (⟨0,0,0⟩:aX))).bind fun x_7=>(bA (x_6 && (decide (x_7 = [49]))) (fL F (⟨(-2),0,0⟩:aX))).bind fun x_8=>bD ((x_6 && (decide (x_7 = [49]))) && (decide (x_8 = [49,47,109,94,50]))) fun x_9=>(bJ F 5 2 1 0 0).bind fun x_10=>(dW F [50,46,53,48,32,109] x_10).bind fun x_11=>(bA x_11 (bJ F 2500 1 1 1 (-2))).bind fun x_12=>(bA x_11 (dW F [53,47,50,32,107,78] x_12)).bind fun x_13=>(bA (x_11 && x_13) (bJ F (-3) 1 0 0 0)).bind fun x_14=>(bA (x_11 && x_13) (dW F [45,51] x_14)).bind fun x_15=>(bA ((x_11 && x_13) && x_15) (bJ F 1 40 1 0 0)).bind fun x_16=>(bA ((x_11 && x_13) && x_15) (kL F x_16)).bind fun x_17=>bD (((x_11 && x_13) && x_15) && (decide (x_17 = [49,47,52,48,32,109]))) fun x_18=>(bJ F 7200 1 0 0 1).bind fun x_19=>Option.bind (jM F x_19 [109,105,110]) (b7 fun x_20 x_21=>(bJ F 7200 1 0 0 1).bind fun x_22=>Option.bind (jM F x_22 [109]) (b7 fun x_23 x_24=>(bJ F 1 1 1 0 0).bind fun x_25=>(bJ F 1 1 0 0 1).bind fun x_26=>Option.bind (qG F x_25 x_26) (b7 fun x_27 x_28=>(bJ F 1 1 1 0 0).bind fun x_29=>(bJ F 0 1 0 0 1).bind fun x_30=>Option.bind (oU F x_29 x_30) (b7 fun x_31 x_32=>(we F 120).bind fun x_33=>bD ((((decide (x_1 = x_3)) && (decide (x_2 = 0))) && x_9) && x_18) fun x_34=>bD (x_34 && (((((decide (x_20 = x_33)) && (decide (x_21 = 0))) && (decide (x_24 = 110))) && (decide (x_28 = 110))) && (decide (x_32 = 31)))) fun x_35=>(bA x_35 (cz F [109,94,49,55] 280)).bind fun x_36=>(bA (x_35 && x_36) (cz F [109,94,49,54,42,109] 2)).bind fun x_37=>(bA ((x_35 && x_36) && x_37) (cz F [120] 5)).bind fun x_38=>(bA (((x_35 && x_36) && x_37) && x_38) (cz F [109,42,42,115] 280)).bind fun x_39=>(bA ((((x_35 && x_36) && x_37) && x_38) && x_39) (cz F [109,94,45,48] 280)).bind fun x_40=>some (((((x_35 && x_36) && x_37) && x_38) && x_39) && x_40))))))
theorem fA {F:Nat} {r:Bool} (h:cH F = some r):az Tryz.prog (bj mx) 10 [] [] (Is [] (.b (.one (.bool r)))):=by
 unfold cH at h
 refine az.intro 125 Tryz.func10 Tryz.ntmps10 rfl (by simp) fun E=>?_
 show ab _ E ⟨125,[],[]⟩ _ ⟨[],[]⟩ _
 refine ab.seq (ab.aa ?_)
 refine Oc oa (ad.aj ⟨[],[]⟩ rfl (ab.seq (ab.aa ?_)))
 obtain ⟨⟨x_1,x_2⟩,e1,h⟩:=aE h
 refine Oc (ae (iX e1) vP rfl rfl) (Oc om (Oc (ay rfl rfl) (Oc (ay rfl rfl) ?_)))
 refine ad.ah ⟨[(17,.b (.agg (ap x_1))),(18,I x_2)],[]⟩ rfl (Oc (aA (k:=101) dD rfl) (Oc (ag aW rfl rfl rfl rfl (Nat.le_of_ble_eq_true rfl) rfl) (Oc oa ?_)))
 refine ad.aj ⟨[(1,Pt 101 0),(2,I x_2)],[(101,.box 31 (ap x_1))]⟩ rfl (ab.seq ?_)
 obtain ⟨x_3,e2,h⟩:=aE h
 refine ab.bP mixed 8 [.b (.agg (ap x_1)),.b (.agg (ap x_3)),B (decide (x_1 = x_3)),B (decide (x_1 = x_3)),.dA (decide (x_1 = x_3)) (.one (.i x_2)),.dA (decide (x_1 = x_3)) (.one (.bool (decide (x_2 = 0)))),B ((decide (x_1 = x_3)) && (decide (x_2 = 0))),B ((decide (x_1 = x_3)) && (decide (x_2 = 0)))] [3] [] (s':=⟨[(3,B ((decide (x_1 = x_3)) && (decide (x_2 = 0))))],[]⟩) rfl ⟨fun _=>.p (lp aW),fun _=>.p (ae (bH e2) li rfl rfl),fun _=>.p (eH (tu x_1 x_3) rfl rfl),fun _=>.p om,fun _=>by exact .guard (decide (x_1 = x_3)) 1 [] (.plain rfl) (ob _) rfl rfl (fun g3=>trivial) (fun g3=>om),fun _=>by exact .guard (decide (x_1 = x_3)) 2 [23] (.plain rfl) (ob _) rfl rfl (fun g4=>⟨g4,trivial⟩) (fun g4=>cy rfl rfl),fun _=>.p (aD (fun e=>e) rfl rfl rfl rfl),fun _=>.p oa,trivial⟩ rfl rfl (ab.seq (ab.aa ?_))
 refine Oc (aV ff rfl rfl) ?_
 obtain ⟨x_4,e5,h⟩:=aE h
 refine Oc (ae (gN e5) tY rfl rfl) (Oc (bh rfl rfl) (Oc om ?_))
 refine bU (decide (x_4 = [109,42,107,103,47,115,94,50])) [] (fun g6=>trivial) (fun g6=>aV ff rfl rfl) (ad.ah ⟨[(3,_),(29,B (decide (x_4 = [109,42,107,103,47,115,94,50]))),(30,.dA (decide (x_4 = [109,42,107,103,47,115,94,50])) (.agg [.i (-1),.i 1,.i (-2)]))],[]⟩ rfl ?_)
 obtain ⟨x_5,e8,h⟩:=aE h
 refine bU (decide (x_4 = [109,42,107,103,47,115,94,50])) [30] (fun g7=>⟨g7,trivial⟩) (fun g7=>ae (gN (gc e8 g7)) tY rfl rfl) (bU (decide (x_4 = [109,42,107,103,47,115,94,50])) [31] (fun g9=>⟨g9,trivial⟩) (fun g9=>bh rfl rfl) (ad.iJ h rfl (aD (fun e=>e) rfl rfl rfl rfl) (fun x_6 h=>?_)))
 refine Oc om (bU x_6 [] (fun g10=>by exact trivial) (fun g10=>aV ff rfl rfl) ?_)
 obtain ⟨x_7,e12,h⟩:=aE h
 refine bU x_6 [35] (fun g11=>⟨g11,trivial⟩) (fun g11=>ae (gN (gc e12 g11)) tY rfl rfl) (ad.ah ⟨[(3,_),(34,B x_6),(36,.dA x_6 (.one (.str x_7)))],[]⟩ rfl (bU x_6 [36] (fun g13=>⟨g13,trivial⟩) (fun g13=>bh rfl rfl) (Oc (aD (fun e=>e) rfl rfl rfl rfl) (Oc om ?_))))
 refine bU (x_6 && (decide (x_7 = [49]))) [] (fun g14=>trivial) (fun g14=>aV ff rfl rfl) ?_
 obtain ⟨x_8,e16,h⟩:=aE h
 refine bU (x_6 && (decide (x_7 = [49]))) [40] (fun g15=>⟨g15,trivial⟩) (fun g15=>ae (gN (gc e16 g15)) tY rfl rfl) (bU (x_6 && (decide (x_7 = [49]))) [41] (fun g17=>⟨g17,trivial⟩) (fun g17=>bh rfl rfl) (ad.iJ h rfl (aD (fun e=>e) rfl rfl rfl rfl) (fun x_9 h=>?_)))
 refine Oc oa (ad.aj ⟨[(3,_),(4,B x_9)],[]⟩ rfl (ab.seq (ab.aa ?_)))
 obtain ⟨x_10,e18,h⟩:=aE h
 refine Oc (ae (bH e18) li rfl rfl) ?_
 obtain ⟨x_11,e19,h⟩:=aE h
 refine Oc (ae (fT e19) y6 rfl rfl) (Oc om ?_)
 refine ad.ah ⟨[(3,_),(4,_),(46,B x_11)],[]⟩ rfl ?_
 obtain ⟨x_12,e21,h⟩:=aE h
 refine bU x_11 [] (fun g20=>trivial) (fun g20=>ae (bH (gc e21 g20)) li rfl rfl) ?_
 obtain ⟨x_13,e23,h⟩:=aE h
 refine bU x_11 [47] (fun g22=>⟨g22,trivial⟩) (fun g22=>ae (fT (gc e23 g22)) y6 rfl rfl) (Oc (aD (fun e=>e) rfl rfl rfl rfl) (Oc om ?_))
 refine ad.ah ⟨[(3,_),(4,_),(50,B (x_11 && x_13))],[]⟩ rfl ?_
 obtain ⟨x_14,e25,h⟩:=aE h
 refine bU (x_11 && x_13) [] (fun g24=>trivial) (fun g24=>ae (bH (gc e25 g24)) li rfl rfl) ?_
 obtain ⟨x_15,e27,h⟩:=aE h
 refine bU (x_11 && x_13) [51] (fun g26=>⟨g26,trivial⟩) (fun g26=>ae (fT (gc e27 g26)) y6 rfl rfl) (Oc (aD (fun e=>e) rfl rfl rfl rfl) (Oc om ?_))
 refine ad.ah ⟨[(3,_),(4,_),(54,B ((x_11 && x_13) && x_15))],[]⟩ rfl ?_
 obtain ⟨x_16,e29,h⟩:=aE h
 refine bU ((x_11 && x_13) && x_15) [] (fun g28=>trivial) (fun g28=>ae (bH (gc e29 g28)) li rfl rfl) ?_
 obtain ⟨x_17,e31,h⟩:=aE h
 refine bU ((x_11 && x_13) && x_15) [55] (fun g30=>⟨g30,trivial⟩) (fun g30=>ae (s4 (gc e31 g30)) goes19 rfl rfl) (bU ((x_11 && x_13) && x_15) [56] (fun g32=>⟨g32,trivial⟩) (fun g32=>bh rfl rfl) (ad.iJ h rfl (aD (fun e=>e) rfl rfl rfl rfl) (fun x_18 h=>?_)))
 refine Oc oa (ad.aj ⟨[(3,_),(4,_),(5,B x_18)],[]⟩ rfl (ab.seq (ab.aa ?_)))
 obtain ⟨x_19,e33,h⟩:=aE h
 refine Oc (ae (bH e33) li rfl rfl) ?_
 obtain ⟨⟨x_20,x_21⟩,e34,h⟩:=aE h
 refine Oc (ae (nR e34) za rfl rfl) (Oc om ?_)
 refine ad.ah ⟨[(3,_),(4,_),(5,_),(59,.fE [.agg (aI x_20),.one (.i x_21)])],[]⟩ rfl (Oc (ay rfl rfl) (Oc (ay rfl rfl) (Oc (aA (k:=102) bO rfl) (Oc (ag aC rfl rfl rfl rfl (Nat.le_of_ble_eq_true rfl) rfl) (Oc oa ?_)))))
 refine ad.aj ⟨[(3,_),(4,_),(5,_),(6,Pt 102 0),(7,I x_21)],[(102,.box 27 (aI x_20))]⟩ rfl (ab.seq (ab.aa ?_))
 obtain ⟨x_22,e35,h⟩:=aE h
 refine Oc (ae (bH e35) li rfl rfl) ?_
 obtain ⟨⟨x_23,x_24⟩,e36,h⟩:=aE h
 refine Oc (ae (nR e36) za rfl rfl) (Oc om ?_)
 refine ad.ah ⟨[(3,_),(4,_),(5,_),(6,_),(7,_),(64,.fE [.agg (aI x_23),.one (.i x_24)])],[(102,_)]⟩ rfl (Oc (ay rfl rfl) (Oc (ay rfl rfl) (Oc (aA (k:=103) bO rfl) (Oc (ag aC rfl rfl rfl rfl (Nat.le_of_ble_eq_true rfl) rfl) (Oc oa ?_)))))
 refine ad.aj ⟨[(3,_),(4,_),(5,_),(6,_),(7,_),(9,I x_24)],[(102,_)]⟩ rfl (ab.seq (ab.aa ?_))
 obtain ⟨x_25,e37,h⟩:=aE h
 refine Oc (ae (bH e37) li rfl rfl) ?_
 obtain ⟨x_26,e38,h⟩:=aE h
 refine Oc (ae (bH e38) li rfl rfl) (ad.ah ⟨[(3,_),(4,_),(5,_),(6,_),(7,_),(9,_),(70,.b (.agg (ap x_25))),(71,.b (.agg (ap x_26)))],[(102,_)]⟩ rfl ?_)
 obtain ⟨⟨x_27,x_28⟩,e39,h⟩:=aE h
 refine Oc (ae (uY e39) goes36 rfl rfl) (Oc om (Oc (ay rfl rfl) (Oc (ay rfl rfl) (Oc (aA (k:=104) dD rfl) (Oc (ag aW rfl rfl rfl rfl (Nat.le_of_ble_eq_true rfl) rfl) ?_)))))
 refine Oc oa (ad.aj ⟨[(3,_),(4,_),(5,_),(6,_),(7,_),(9,_),(11,I x_28)],[(102,_)]⟩ rfl (ab.seq (ab.aa ?_)))
 obtain ⟨x_29,e40,h⟩:=aE h
 refine Oc (ae (bH e40) li rfl rfl) ?_
 obtain ⟨x_30,e41,h⟩:=aE h
 refine Oc (ae (bH e41) li rfl rfl) (ad.ah ⟨[(3,_),(4,_),(5,_),(6,_),(7,_),(9,_),(11,_),(76,.b (.agg (ap x_29))),(77,.b (.agg (ap x_30)))],[(102,_)]⟩ rfl ?_)
 obtain ⟨⟨x_31,x_32⟩,e42,h⟩:=aE h
 refine Oc (ae (uJ e42) goes40 rfl rfl) (Oc om (Oc (ay rfl rfl) (Oc (ay rfl rfl) (Oc (aA (k:=105) dD rfl) (Oc (ag aW rfl rfl rfl rfl (Nat.le_of_ble_eq_true rfl) rfl) ?_)))))
 refine Oc oa (ad.aj ⟨[(3,_),(4,_),(5,_),(6,_),(7,_),(9,_),(11,_),(13,I x_32)],[(102,_)]⟩ rfl (ab.seq ?_))
 obtain ⟨x_33,e43,h⟩:=aE h
 refine ab.bP mixed 20 [.b (.agg (aI x_20)),.b (.agg (aI x_33)),B (decide (x_20 = x_33)),B (decide (x_20 = x_33)),.dA (decide (x_20 = x_33)) (.one (.i x_21)),.dA (decide (x_20 = x_33)) (.one (.bool (decide (x_21 = 0)))),B ((decide (x_20 = x_33)) && (decide (x_21 = 0))),B ((decide (x_20 = x_33)) && (decide (x_21 = 0))),.dA ((decide (x_20 = x_33)) && (decide (x_21 = 0))) (.one (.i x_24)),.dA ((decide (x_20 = x_33)) && (decide (x_21 = 0))) (.one (.bool (decide (x_24 = 110)))),B (((decide (x_20 = x_33)) && (decide (x_21 = 0))) && (decide (x_24 = 110))),B (((decide (x_20 = x_33)) && (decide (x_21 = 0))) && (decide (x_24 = 110))),.dA (((decide (x_20 = x_33)) && (decide (x_21 = 0))) && (decide (x_24 = 110))) (.one (.i x_28)),.dA (((decide (x_20 = x_33)) && (decide (x_21 = 0))) && (decide (x_24 = 110))) (.one (.bool (decide (x_28 = 110)))),B ((((decide (x_20 = x_33)) && (decide (x_21 = 0))) && (decide (x_24 = 110))) && (decide (x_28 = 110))),B ((((decide (x_20 = x_33)) && (decide (x_21 = 0))) && (decide (x_24 = 110))) && (decide (x_28 = 110))),.dA ((((decide (x_20 = x_33)) && (decide (x_21 = 0))) && (decide (x_24 = 110))) && (decide (x_28 = 110))) (.one (.i x_32)),.dA ((((decide (x_20 = x_33)) && (decide (x_21 = 0))) && (decide (x_24 = 110))) && (decide (x_28 = 110))) (.one (.bool (decide (x_32 = 31)))),B (((((decide (x_20 = x_33)) && (decide (x_21 = 0))) && (decide (x_24 = 110))) && (decide (x_28 = 110))) && (decide (x_32 = 31))),B (((((decide (x_20 = x_33)) && (decide (x_21 = 0))) && (decide (x_24 = 110))) && (decide (x_28 = 110))) && (decide (x_32 = 31)))] [3,4,5,14] [] (s':=⟨[(3,_),(4,_),(5,_),(14,B (((((decide (x_20 = x_33)) && (decide (x_21 = 0))) && (decide (x_24 = 110))) && (decide (x_28 = 110))) && (decide (x_32 = 31))))],[]⟩) rfl ⟨fun _=>.p (lp aC),fun _=>.p (ae (zD e43) goes52 rfl rfl),fun _=>.p (eH (Bc x_20 x_33) rfl rfl),fun _=>.p om,fun _=>by exact .guard (decide (x_20 = x_33)) 1 [] (.plain rfl) (ob _) rfl rfl (fun g44=>trivial) (fun g44=>om),fun _=>by exact .guard (decide (x_20 = x_33)) 2 [85] (.plain rfl) (ob _) rfl rfl (fun g45=>⟨g45,trivial⟩) (fun g45=>cy rfl rfl),fun _=>.p (aD (fun e=>e) rfl rfl rfl rfl),fun _=>.p om,fun _=>by exact .guard ((decide (x_20 = x_33)) && (decide (x_21 = 0))) 1 [] (.plain rfl) (ob _) rfl rfl (fun g46=>trivial) (fun g46=>om),fun _=>by exact .guard ((decide (x_20 = x_33)) && (decide (x_21 = 0))) 2 [89] (.plain rfl) (ob _) rfl rfl (fun g47=>⟨g47,trivial⟩) (fun g47=>cy rfl rfl),fun _=>.p (aD (fun e=>e) rfl rfl rfl rfl),fun _=>.p om,fun _=>by exact .guard (((decide (x_20 = x_33)) && (decide (x_21 = 0))) && (decide (x_24 = 110))) 1 [] (.plain rfl) (ob _) rfl rfl (fun g48=>trivial) (fun g48=>om),fun _=>by exact .guard (((decide (x_20 = x_33)) && (decide (x_21 = 0))) && (decide (x_24 = 110))) 2 [93] (.plain rfl) (ob _) rfl rfl (fun g49=>⟨g49,trivial⟩) (fun g49=>cy rfl rfl),fun _=>.p (aD (fun e=>e) rfl rfl rfl rfl),fun _=>.p om,fun _=>by exact .guard ((((decide (x_20 = x_33)) && (decide (x_21 = 0))) && (decide (x_24 = 110))) && (decide (x_28 = 110))) 1 [] (.plain rfl) (ob _) rfl rfl (fun g50=>trivial) (fun g50=>om),fun _=>by exact .guard ((((decide (x_20 = x_33)) && (decide (x_21 = 0))) && (decide (x_24 = 110))) && (decide (x_28 = 110))) 2 [97] (.plain rfl) (ob _) rfl rfl (fun g51=>⟨g51,trivial⟩) (fun g51=>cy rfl rfl),fun _=>.p (aD (fun e=>e) rfl rfl rfl rfl),fun _=>.p oa,trivial⟩ rfl rfl ?_
 refine ab.seq (ab.aa ?_)
 refine Oc om (Oc om ?_)
 refine bU ((decide (x_1 = x_3)) && (decide (x_2 = 0))) [] (fun g52=>trivial) (fun g52=>om) (Oc (aD (fun e=>e) rfl rfl rfl rfl) (Oc om ?_))
 refine bU (((decide (x_1 = x_3)) && (decide (x_2 = 0))) && x_9) [] (fun g53=>trivial) (fun g53=>om) (ad.iJ h rfl (aD (fun e=>e) rfl rfl rfl rfl) (fun x_34 h=>?_))
 refine ad.ah ⟨[(14,_),(106,B x_34)],[]⟩ rfl (Oc om (bU x_34 [] (fun g54=>by exact trivial) (fun g54=>om) (ad.iJ h rfl (aD (fun e=>e) rfl rfl rfl rfl) (fun x_35 h=>?_))))
 refine Oc om ?_
 obtain ⟨x_36,e56,h⟩:=aE h
 refine bU x_35 [] (fun g55=>trivial) (fun g55=>ae (cW (gc e56 g55)) tV rfl rfl) (Oc (aD (fun e=>e) rfl rfl rfl rfl) (ad.ah ⟨[(112,B (x_35 && x_36))],[]⟩ rfl (Oc om ?_)))
 obtain ⟨x_37,e58,h⟩:=aE h
 refine bU (x_35 && x_36) [] (fun g57=>trivial) (fun g57=>ae (cW (gc e58 g57)) tV rfl rfl) (Oc (aD (fun e=>e) rfl rfl rfl rfl) (Oc om ?_))
 refine ad.ah ⟨[(116,B ((x_35 && x_36) && x_37))],[]⟩ rfl ?_
 obtain ⟨x_38,e60,h⟩:=aE h
 refine bU ((x_35 && x_36) && x_37) [] (fun g59=>trivial) (fun g59=>ae (cW (gc e60 g59)) tV rfl rfl) (Oc (aD (fun e=>e) rfl rfl rfl rfl) (Oc om ?_))
 obtain ⟨x_39,e62,h⟩:=aE h
 refine bU (((x_35 && x_36) && x_37) && x_38) [] (fun g61=>trivial) (fun g61=>ae (cW (gc e62 g61)) tV rfl rfl) (Oc (aD (fun e=>e) rfl rfl rfl rfl) (Oc om ?_))
 refine ad.ah ⟨[(122,B ((((x_35 && x_36) && x_37) && x_38) && x_39))],[]⟩ rfl ?_
 obtain ⟨x_40,e64,h⟩:=aE h
 refine bU ((((x_35 && x_36) && x_37) && x_38) && x_39) [] (fun g63=>trivial) (fun g63=>ae (cW (gc e64 g63)) tV rfl rfl) (Oc (aD (fun e=>e) rfl rfl rfl rfl) (Oc oa ?_))
 refine ad.aj ⟨[(0,B (((((x_35 && x_36) && x_37) && x_38) && x_39) && x_40))],[]⟩ rfl (ab.ret ?_)
 obtain rfl:=Option.some.inj h
 refine Fin.ah ⟨[(0,_)],[]⟩ rfl (Fin.aq [.one (.bool (((((x_35 && x_36) && x_37) && x_38) && x_39) && x_40))] (.inl rfl) rfl (.cons (.tmp rfl) .nil) ⟨rfl,rfl⟩)
def gR (F:Nat) (x0:bN):Option Bool :=
 (da F x0.N).bind fun x_1=>(bA (!(!x_1)) (da F x0.D)).bind fun x_2=>if ((!x_1) || (!x_2)) = true then (some false) else ((jj F x0.D).bind fun x_3=>(bA (decide (0 < x_3)) (mI F x0.N x0.D)).bind fun x_4=>(bA (decide (0 < x_3)) (ls F)).bind fun x_5=>some ((decide (0 < x_3)) && (decide (x_4 = x_5))))
theorem iD {F:Nat} {x0:bN} {r:Bool} (h:gR F x0 = some r):az Tryz.prog (bj mx) 58 [] [.agg (aI x0)] (Is [] (.b (.one (.bool r)))):=by
 unfold gR at h
 refine az.intro 26 Tryz.func58 Tryz.ntmps58 rfl (by simp) fun E=>?_
 show ab _ E ⟨26,[],[]⟩ _ ⟨[(0,.b (.agg (aI x0)))],[]⟩ _
 refine ab.seq (ab.aa ?_)
 refine Oc (aS (k:=101) rfl rfl) (Oc oa ?_)
 refine ad.aj ⟨[(1,Pt 101 0)],[(101,.box 27 (aI x0))]⟩ rfl (ab.seq (ab.seq (ab.aa ?_)))
 refine Oc (af bF rfl rfl) (Oc (lp ao) ?_)
 obtain ⟨x_1,e1,h⟩:=aE h
 refine Oc (ae (cM e1) jq rfl rfl) (Oc (bq rfl) (Oc om ?_))
 refine ad.ah ⟨[(1,_),(7,B (!x_1))],[(101,_)]⟩ rfl (cN (!(!x_1)) [] (fun g2=>trivial) (fun g2=>af bm rfl rfl) (cN (!(!x_1)) [8] (fun g3=>⟨g3,trivial⟩) (fun g3=>lp ao) ?_))
 obtain ⟨x_2,e5,h⟩:=aE h
 refine cN (!(!x_1)) [9] (fun g4=>⟨g4,trivial⟩) (fun g4=>ae (cM (gc e5 g4)) jq rfl rfl) (cN (!(!x_1)) [10] (fun g6=>⟨g6,trivial⟩) (fun g6=>bq rfl) (Oc (aU (fun e=>by rw [e]; rfl) rfl rfl rfl rfl) (ad.aj ⟨[(1,_),(12,B ((!x_1) || (!x_2)))],[(101,_)]⟩ rfl (ab.ite h rfl (fun _ h=>?_) (fun _ h=>?_)))))
 ·refine ab.seq (ab.aa ?_)
  refine Oc oa (ad.aj ⟨[(2,B false)],[]⟩ rfl (ab.ret (Fin.ar ?_)))
  obtain rfl:=Option.some.inj h
  refine Fin.ah ⟨[(2,_)],[]⟩ rfl (Fin.aq [.one (.bool false)] (.inl rfl) rfl (.cons (.tmp rfl) .nil) ⟨rfl,rfl⟩)
 ·refine ab.skip (Fin.ah ⟨[(1,_)],[(101,_)]⟩ rfl (Fin.then (ab.seq (ab.aa ?_))))
  refine Oc (af bm rfl rfl) (Oc (lp ao) ?_)
  obtain ⟨x_3,e7,h⟩:=aE h
  refine Oc (ae (nT e7) wE rfl rfl) (Oc (dB rfl rfl) (Oc om ?_))
  refine ad.ah ⟨[(1,_),(17,B (decide (0 < x_3)))],[(101,_)]⟩ rfl (bU (decide (0 < x_3)) [] (fun g8=>trivial) (fun g8=>af bF rfl rfl) (bU (decide (0 < x_3)) [18] (fun g9=>⟨g9,trivial⟩) (fun g9=>lp ao) (bU (decide (0 < x_3)) [] (fun g10=>by exact trivial) (fun g10=>af bm rfl rfl) (bU (decide (0 < x_3)) [20] (fun g11=>by exact ⟨g11,trivial⟩) (fun g11=>lp ao) ?_))))
  obtain ⟨x_4,e13,h⟩:=aE h
  refine bU (decide (0 < x_3)) [19,21] (fun g12=>⟨g12,g12,trivial⟩) (fun g12=>ae (sH (gc e13 g12)) A2 rfl rfl) (ad.ah ⟨[(17,_),(22,.dA (decide (0 < x_3)) (.agg (au x_4)))],[]⟩ rfl ?_)
  obtain ⟨x_5,e15,h⟩:=aE h
  refine bU (decide (0 < x_3)) [] (fun g14=>trivial) (fun g14=>ae (oV (gc e15 g14)) wD rfl rfl) (bU (decide (0 < x_3)) [22,23] (fun g16=>⟨g16,g16,trivial⟩) (fun g16=>eH (wK x_4 x_5) rfl rfl) (Oc (aD (fun e=>e) rfl rfl rfl rfl) (Oc oa ?_)))
  refine ad.aj ⟨[(2,B ((decide (0 < x_3)) && (decide (x_4 = x_5))))],[]⟩ rfl (ab.ret ?_)
  obtain rfl:=Option.some.inj h
  refine Fin.ah ⟨[(2,_)],[]⟩ rfl (Fin.aq [.one (.bool ((decide (0 < x_3)) && (decide (x_4 = x_5))))] (.inl rfl) rfl (.cons (.tmp rfl) .nil) ⟨rfl,rfl⟩)
def db (F:Nat) (n0:Int):Option Bool :=
 some ((decide ((-16) ≤ n0)) && (decide (n0 ≤ 16)))
theorem fS {F:Nat} {n0:Int} {r:Bool} (h:db F n0 = some r):az Tryz.prog (bj mx) 84 [] [.one (.i n0)] (Is [] (.b (.one (.bool r)))):=by
 unfold db at h
 refine az.intro 9 Tryz.func84 Tryz.ntmps84 rfl (by simp) fun E=>?_
 show ab _ E ⟨9,[],[]⟩ _ ⟨[(0,I n0)],[]⟩ _
 refine ab.seq (ab.aa ?_)
 refine Oc oa (ad.aj ⟨[(0,I n0)],[]⟩ rfl (ab.seq (ab.aa ?_)))
 refine Oc om (Oc (fy rfl rfl) (Oc om ?_))
 refine bU (decide ((-16) ≤ n0)) [] (fun g1=>trivial) (fun g1=>om) (bU (decide ((-16) ≤ n0)) [6] (fun g2=>by exact ⟨g2,trivial⟩) (fun g2=>lh rfl rfl) (Oc (aD (fun e=>e) rfl rfl rfl rfl) (Oc oa ?_)))
 refine ad.aj ⟨[(2,B ((decide ((-16) ≤ n0)) && (decide (n0 ≤ 16))))],[]⟩ rfl (ab.ret ?_)
 obtain rfl:=Option.some.inj h
 refine Fin.ah ⟨[(2,_)],[]⟩ rfl (Fin.aq [.one (.bool ((decide ((-16) ≤ n0)) && (decide (n0 ≤ 16))))] (.inl rfl) rfl (.cons (.tmp rfl) .nil) ⟨rfl,rfl⟩)
def dc (F:Nat) (u0:aX):Option Bool :=
 (db F u0.M).bind fun x_1=>(bA x_1 (db F u0.Kg)).bind fun x_2=>(bA (x_1 && x_2) (db F u0.S)).bind fun x_3=>some ((x_1 && x_2) && x_3)
theorem iU {F:Nat} {u0:aX} {r:Bool} (h:dc F u0 = some r):az Tryz.prog (bj mx) 33 [] [.agg (aZ u0)] (Is [] (.b (.one (.bool r)))):=by
 unfold dc at h
 refine az.intro 16 Tryz.func33 Tryz.ntmps33 rfl (by simp) fun E=>?_
 show ab _ E ⟨16,[],[]⟩ _ ⟨[(0,.b (.agg (aZ u0)))],[]⟩ _
 refine ab.seq (ab.aa ?_)
 refine Oc (aS (k:=101) rfl rfl) (Oc oa ?_)
 refine ad.aj ⟨[(1,Pt 101 0)],[(101,.box 29 (aZ u0))]⟩ rfl (ab.seq (ab.aa ?_))
 refine Oc (af kZ rfl rfl) (Oc (ax bW rfl rfl rfl) ?_)
 obtain ⟨x_1,e1,h⟩:=aE h
 refine Oc (ae (fS e1) yW rfl rfl) (Oc om ?_)
 refine bU x_1 [] (fun g2=>trivial) (fun g2=>af kY rfl rfl) (ad.ah ⟨[(1,_),(6,B x_1),(7,.dA x_1 (.ptr 101 1))],[(101,_)]⟩ rfl (bU x_1 [7] (fun g3=>⟨g3,trivial⟩) (fun g3=>ax bW rfl rfl rfl) ?_))
 obtain ⟨x_2,e5,h⟩:=aE h
 refine bU x_1 [8] (fun g4=>⟨g4,trivial⟩) (fun g4=>ae (fS (gc e5 g4)) yW rfl rfl) (Oc (aD (fun e=>e) rfl rfl rfl rfl) (Oc om ?_))
 refine bU (x_1 && x_2) [] (fun g6=>trivial) (fun g6=>af kX rfl rfl) (bU (x_1 && x_2) [12] (fun g7=>⟨g7,trivial⟩) (fun g7=>ax bW rfl rfl rfl) (ad.ah ⟨[(11,B (x_1 && x_2)),(13,.dA (x_1 && x_2) (.one (.i u0.S)))],[]⟩ rfl ?_))
 obtain ⟨x_3,e9,h⟩:=aE h
 refine bU (x_1 && x_2) [13] (fun g8=>⟨g8,trivial⟩) (fun g8=>ae (fS (gc e9 g8)) yW rfl rfl) (Oc (aD (fun e=>e) rfl rfl rfl rfl) (Oc oa ?_))
 refine ad.aj ⟨[(2,B ((x_1 && x_2) && x_3))],[]⟩ rfl (ab.ret ?_)
 obtain rfl:=Option.some.inj h
 refine Fin.ah ⟨[(2,_)],[]⟩ rfl (Fin.aq [.one (.bool ((x_1 && x_2) && x_3))] (.inl rfl) rfl (.cons (.tmp rfl) .nil) ⟨rfl,rfl⟩)
def dT (F:Nat) (a0:aw):Option Bool :=
 (gR F a0.V).bind fun x_1=>(bA x_1 (dc F a0.U)).bind fun x_2=>some (x_1 && x_2)
theorem my {F:Nat} {a0:aw} {r:Bool} (h:dT F a0 = some r):az Tryz.prog (bj mx) 15 [] [.agg (ap a0)] (Is [] (.b (.one (.bool r)))):=by
 unfold dT at h
 refine az.intro 11 Tryz.func15 Tryz.ntmps15 rfl (by simp) fun E=>?_
 show ab _ E ⟨11,[],[]⟩ _ ⟨[(0,.b (.agg (ap a0)))],[]⟩ _
 refine ab.seq (ab.aa ?_)
 refine Oc (aS (k:=101) rfl rfl) (Oc oa ?_)
 refine ad.aj ⟨[(1,Pt 101 0)],[(101,.box 31 (ap a0))]⟩ rfl (ab.seq (ab.aa ?_))
 refine Oc (af c9 rfl rfl) (Oc (lp aC) ?_)
 obtain ⟨x_1,e1,h⟩:=aE h
 refine Oc (ae (iD e1) r7 rfl rfl) (Oc om ?_)
 refine bU x_1 [] (fun g2=>trivial) (fun g2=>af c8 rfl rfl) (ad.ah ⟨[(6,B x_1),(7,.dA x_1 (.ptr 101 36))],[(101,_)]⟩ rfl (bU x_1 [7] (fun g3=>⟨g3,trivial⟩) (fun g3=>lp bz) ?_))
 obtain ⟨x_2,e5,h⟩:=aE h
 refine bU x_1 [8] (fun g4=>⟨g4,trivial⟩) (fun g4=>ae (iU (gc e5 g4)) C1 rfl rfl) (Oc (aD (fun e=>e) rfl rfl rfl rfl) (Oc oa ?_))
 refine ad.aj ⟨[(2,B (x_1 && x_2))],[]⟩ rfl (ab.ret ?_)
 obtain rfl:=Option.some.inj h
 refine Fin.ah ⟨[(2,_)],[]⟩ rfl (Fin.aq [.one (.bool (x_1 && x_2))] (.inl rfl) rfl (.cons (.tmp rfl) .nil) ⟨rfl,rfl⟩)
def aM (F:Nat) (n0:Int) (d0:Int) (m0:Int) (kg0:Int) (s0:Int):Option qm :=
 (k4 F n0 d0).bind fun x_1=>bD (⟨x_1,(⟨m0,kg0,s0⟩:aX)⟩:aw) fun x_2=>some (⟨x_2,0⟩:qm)
theorem aO {F:Nat} {n0:Int} {d0:Int} {m0:Int} {kg0:Int} {s0:Int} {r:qm} (h:aM F n0 d0 m0 kg0 s0 = some r):az Tryz.prog (bj mx) 109 [] [.one (.i n0),.one (.i d0),.one (.i m0),.one (.i kg0),.one (.i s0)] (Is [] (.b (.agg (cg r)))):=by
 unfold aM at h
 refine az.intro 20 Tryz.func109 Tryz.ntmps109 rfl (by simp) fun E=>?_
 show ab _ E ⟨20,[],[]⟩ _ ⟨[(0,I n0),(1,I d0),(2,I m0),(3,I kg0),(4,I s0)],[]⟩ _
 refine ab.seq (ab.aa ?_)
 refine Oc (aA (k:=101) j7 rfl) (ad.aj ⟨[(0,I n0),(1,I d0),(2,I m0),(3,I kg0),(4,I s0),(10,Pt 101 0)],[(101,.box 69 (.bool false :: .bool false :: (eW aP.zero ++ (.bool false :: .bool false :: (eW aP.zero ++ ([.i 0,.i 0,.i 0,.i 0]))))))]⟩ rfl (ab.seq (ab.aa ?_)))
 refine Oc om (Oc om ?_)
 obtain ⟨x_1,e1,h⟩:=aE h
 refine Oc (ae (rI e1) A4 rfl rfl) (Oc om (Oc om ?_))
 refine ad.ah ⟨[(4,_),(10,_),(13,.b (.agg (aI x_1))),(14,I m0),(15,I kg0)],[(101,_)]⟩ rfl (Oc om (Oc (aV ff rfl rfl) ?_))
 refine ad.ek ap h rfl (aV dI rfl rfl) (fun x_2 h=>?_)
 refine Oc (aV iy rfl rfl) (Oc (ag aT rfl rfl rfl rfl (Nat.le_of_ble_eq_true rfl) rfl) ?_)
 refine ad.aj ⟨[(10,_)],[(101,.box 69 (ap x_2 ++ ([.i 0])))]⟩ rfl (ab.ret ?_)
 obtain rfl:=Option.some.inj h
 refine Fin.ah ⟨[(10,_)],[(101,_)]⟩ rfl (Fin.aq [.agg (ap x_2 ++ ([.i 0]))] (.inl rfl) rfl (.cons (.agg aT rfl rfl rfl rfl) .nil) ⟨rfl,rfl⟩)
def dH (F:Nat) (c0:Int):Option Bool :=
 bD (((decide (97 ≤ c0)) && (decide (c0 ≤ 122))) || ((decide (65 ≤ c0)) && (decide (c0 ≤ 90)))) fun x_1=>some x_1
theorem lS {F:Nat} {c0:Int} {r:Bool} (h:dH F c0 = some r):az Tryz.prog (bj mx) 160 [] [.one (.int .u8 c0)] (Is [] (.b (.one (.bool r)))):=by
 unfold dH at h
 refine az.intro 17 Tryz.func160 Tryz.ntmps160 rfl (by simp) fun E=>?_
 show ab _ E ⟨17,[],[]⟩ _ ⟨[(0,.b (.one (.int .u8 c0)))],[]⟩ _
 refine ab.seq (ab.aa ?_)
 refine Oc oa (ad.aj ⟨[(0,.b (.one (.int .u8 c0)))],[]⟩ rfl (ab.seq (ab.aa ?_)))
 refine Oc om (Oc (fy rfl rfl) (Oc om ?_))
 refine bU (decide (97 ≤ c0)) [] (fun g1=>trivial) (fun g1=>om) (bU (decide (97 ≤ c0)) [6] (fun g2=>by exact ⟨g2,trivial⟩) (fun g2=>lh rfl rfl) (Oc (aD (fun e=>e) rfl rfl rfl rfl) (Oc om ?_)))
 refine ad.ah ⟨[(0,_),(9,B ((decide (97 ≤ c0)) && (decide (c0 ≤ 122))))],[]⟩ rfl (cN (!((decide (97 ≤ c0)) && (decide (c0 ≤ 122)))) [] (fun g3=>trivial) (fun g3=>om) (cN (!((decide (97 ≤ c0)) && (decide (c0 ≤ 122)))) [10] (fun g4=>by exact ⟨g4,trivial⟩) (fun g4=>fy rfl rfl) (cN (!((decide (97 ≤ c0)) && (decide (c0 ≤ 122)))) [11] (fun g5=>by exact ⟨g5,trivial⟩) (fun g5=>om) (ad.dy ((!((decide (97 ≤ c0)) && (decide (c0 ≤ 122)))) && (decide (65 ≤ c0))) 99 [] (.under rfl) (gu _ _) rfl rfl (fun g6=>by exact trivial) (fun g6=>om) (ad.dy ((!((decide (97 ≤ c0)) && (decide (c0 ≤ 122)))) && (decide (65 ≤ c0))) 99 [13] (.under rfl) (gu _ _) rfl rfl (fun g7=>by exact ⟨g7,trivial⟩) (fun g7=>lh rfl rfl) ?_)))))
 refine cN (!((decide (97 ≤ c0)) && (decide (c0 ≤ 122)))) [12] (fun g8=>⟨g8,trivial⟩) (fun g8=>aD (fun e=>by rw [g8,e]; rfl) rfl rfl rfl rfl) (ad.iJ h rfl (aU (fun e=>by rw [e]; rfl) rfl rfl rfl rfl) (fun x_1 h=>?_))
 refine Oc oa (ad.aj ⟨[(2,B x_1)],[]⟩ rfl (ab.ret ?_))
 obtain rfl:=Option.some.inj h
 refine Fin.ah ⟨[(2,_)],[]⟩ rfl (Fin.aq [.one (.bool x_1)] (.inl rfl) rfl (.cons (.tmp rfl) .nil) ⟨rfl,rfl⟩)
def ew (F:Nat) (s0:bg) (at0:Int):Option Int :=
 (bA (decide (at0 < (s0.length:Int))) (bB s0 at0)).bind fun x_1=>(bA ((decide (at0 < (s0.length:Int))) && !(decide ((x_1.toNat:Int) = 49))) (bB s0 at0)).bind fun x_2=>bD ((decide (at0 < (s0.length:Int))) && ((decide ((x_1.toNat:Int) = 49)) || (decide ((x_2.toNat:Int) = 37)))) fun x_3=>if x_3 = true then (some (IntKind.i64.wrap (at0 + 1))) else (Option.bind (iter F (fun at_5=>(bA (decide (at_5 < (s0.length:Int))) (bB s0 at_5)).bind fun x_7=>(bA (decide (at_5 < (s0.length:Int))) (dH F (x_7.toNat:Int))).bind fun x_8=>if ((decide (at_5 < (s0.length:Int))) && x_8) = true then (some (.inl (IntKind.i64.wrap (at_5 + 1)))) else (some (.inr at_5))) at0) (fun at_4=>some at_4))
theorem mY {F:Nat} {s0:bg} {at0:Int} {r:Int} (h:ew F s0 at0 = some r):az Tryz.prog (bj mx) 110 [] [.one (.str s0),.one (.i at0)] (Is [] (.b (.one (.i r)))):=by
 unfold ew at h
 refine az.intro 36 Tryz.func110 Tryz.ntmps110 rfl (by simp) fun E=>?_
 show ab _ E ⟨36,[],[]⟩ _ ⟨[(0,.b (.one (.str s0))),(1,I at0)],[]⟩ _
 refine ab.seq (ab.aa ?_)
 refine Oc oa (ad.aj ⟨[(0,.b (.one (.str s0))),(1,I at0)],[]⟩ rfl (ab.seq (ab.seq (ab.aa ?_))))
 refine Oc om (Oc om (Oc (b6 eg rfl) (Oc (bK rfl rfl) (Oc om ?_))))
 refine bU (decide (at0 < (s0.length:Int))) [] (fun g1=>trivial) (fun g1=>om) (ad.ah ⟨[(0,_),(1,_),(9,B (decide (at0 < (s0.length:Int)))),(10,.dA (decide (at0 < (s0.length:Int))) (.one (.str s0)))],[]⟩ rfl (bU (decide (at0 < (s0.length:Int))) [] (fun g2=>by exact trivial) (fun g2=>om) ?_))
 obtain ⟨x_1,e4,h⟩:=aE h
 refine bU (decide (at0 < (s0.length:Int))) [10,11] (fun g3=>⟨g3,g3,trivial⟩) (fun g3=>cf eg rfl rfl (bp (gc e4 g3)) (gf (gc e4 g3))) (bU (decide (at0 < (s0.length:Int))) [12] (fun g5=>⟨g5,trivial⟩) (fun g5=>cy rfl rfl) (bU (decide (at0 < (s0.length:Int))) [13] (fun g6=>⟨g6,trivial⟩) (fun g6=>om) (ad.dy ((decide (at0 < (s0.length:Int))) && !(decide ((x_1.toNat:Int) = 49))) 99 [] (.under rfl) (eZ _ _) rfl rfl (fun g7=>by exact trivial) (fun g7=>om) (ad.dy ((decide (at0 < (s0.length:Int))) && !(decide ((x_1.toNat:Int) = 49))) 99 [] (.under rfl) (eZ _ _) rfl rfl (fun g8=>by exact trivial) (fun g8=>om) ?_))))
 obtain ⟨x_2,e10,h⟩:=aE h
 refine ad.dy ((decide (at0 < (s0.length:Int))) && !(decide ((x_1.toNat:Int) = 49))) 99 [15,16] (.under rfl) (eZ _ _) rfl rfl (fun g9=>⟨g9,g9,trivial⟩) (fun g9=>cf eg rfl rfl (bp (gc e10 g9)) (gf (gc e10 g9))) (ad.dy ((decide (at0 < (s0.length:Int))) && !(decide ((x_1.toNat:Int) = 49))) 99 [17] (.under rfl) (eZ _ _) rfl rfl (fun g11=>⟨g11,trivial⟩) (fun g11=>cy rfl rfl) (bU (decide (at0 < (s0.length:Int))) [14] (fun g12=>⟨g12,trivial⟩) (fun g12=>aU (fun e=>by rw [g12,e]; rfl) rfl rfl rfl rfl) (ad.iJ h rfl (aD (fun e=>e) rfl rfl rfl rfl) (fun x_3 h=>?_))))
 refine ad.aj ⟨[(0,_),(1,_),(20,B x_3)],[]⟩ rfl (ab.ite h rfl (fun _ h=>?_) (fun _ h=>?_))
 ·refine ab.seq (ab.aa ?_)
  refine Oc om (Oc (bb rfl rfl) (Oc oa ?_))
  refine ad.aj ⟨[(4,I (IntKind.i64.wrap (at0 + 1)))],[]⟩ rfl (ab.ret (Fin.ar ?_))
  obtain rfl:=Option.some.inj h
  refine Fin.ah ⟨[(4,_)],[]⟩ rfl (Fin.aq [.one (.i (IntKind.i64.wrap (at0 + 1)))] (.inl rfl) rfl (.cons (.tmp rfl) .nil) ⟨rfl,rfl⟩)
 ·refine ab.skip (Fin.ah ⟨[(0,_),(1,_)],[]⟩ rfl (Fin.then ?_))
  obtain ⟨v13,h14,h⟩:=aE h
  refine ab.cB (v:=v13) (fun (at_4:Int)=>⟨[(1,I at_4)],[]⟩) (fun z=>z) ?_ ?_
  ·refine ab.block (ab.cS h14 (fun (at_5:Int)=>⟨[(0,.b (.one (.str s0))),(1,I at_5)],[]⟩) [0,1] [] rfl ?_)
   rintro at_5 o15 h16 hy17
   refine ab.seq (ab.seq (ab.aa ?_))
   refine Oc om (Oc om (Oc (b6 eg rfl) (Oc (bK rfl rfl) (Oc om ?_))))
   refine bU (decide (at_5 < (s0.length:Int))) [] (fun g18=>trivial) (fun g18=>om) (ad.ah ⟨[(0,_),(1,_),(27,B (decide (at_5 < (s0.length:Int)))),(28,.dA (decide (at_5 < (s0.length:Int))) (.one (.str s0)))],[]⟩ rfl (bU (decide (at_5 < (s0.length:Int))) [] (fun g19=>by exact trivial) (fun g19=>om) ?_))
   obtain ⟨x_7,e21,h16⟩:=aE h16
   refine bU (decide (at_5 < (s0.length:Int))) [28,29] (fun g20=>⟨g20,g20,trivial⟩) (fun g20=>cf eg rfl rfl (bp (gc e21 g20)) (gf (gc e21 g20))) ?_
   obtain ⟨x_8,e23,h16⟩:=aE h16
   refine bU (decide (at_5 < (s0.length:Int))) [30] (fun g22=>⟨g22,trivial⟩) (fun g22=>ae (lS (gc e23 g22)) goes160 rfl rfl) (Oc (aD (fun e=>e) rfl rfl rfl rfl) (ad.aj ⟨[(0,_),(1,_),(32,B ((decide (at_5 < (s0.length:Int))) && x_8))],[]⟩ rfl (ab.ite h16 rfl (fun _ h16=>?_) (fun _ h16=>?_))))
   ·refine ab.skip (Fin.ah ⟨[(0,_),(1,_)],[]⟩ rfl (Fin.then (ab.block (ab.aa ?_))))
    refine Oc om (Oc (bb rfl rfl) (Oc oa ?_))
    refine ad.nil (Fin.aH ?_)
    exact Fin.bR [0,1] [] (IntKind.i64.wrap (at_5 + 1)) (Option.some.inj h16) rfl
   ·refine ab.exit (Fin.aG ?_)
    obtain rfl:=hy17 _ (Option.some.inj h16).symm
    refine Fin.aG (Fin.aY ?_)
    exact Fin.join [1] [] at_5 rfl rfl
  ·rintro at_4 hv
   subst v13
   refine ab.seq (ab.aa ?_)
   refine Oc om (Oc oa ?_)
   refine ad.aj ⟨[(4,I at_4)],[]⟩ rfl (ab.ret ?_)
   obtain rfl:=Option.some.inj h
   refine Fin.ah ⟨[(4,_)],[]⟩ rfl (Fin.aq [.one (.i at_4)] (.inl rfl) rfl (.cons (.tmp rfl) .nil) ⟨rfl,rfl⟩)
def ey (F:Nat) (s0:bg):Option qm :=
 if (decide (s0 = [109,109])) = true then ((aM F 1 1000 1 0 0).bind fun x_1=>some x_1) else (if (decide (s0 = [99,109])) = true then ((aM F 1 100 1 0 0).bind fun x_2=>some x_2) else (if (decide (s0 = [109])) = true then ((aM F 1 1 1 0 0).bind fun x_3=>some x_3) else (if (decide (s0 = [107,109])) = true then ((aM F 1000 1 1 0 0).bind fun x_4=>some x_4) else (if (decide (s0 = [103])) = true then ((aM F 1 1000 0 1 0).bind fun x_5=>some x_5) else (if (decide (s0 = [107,103])) = true then ((aM F 1 1 0 1 0).bind fun x_6=>some x_6) else (if (decide (s0 = [116])) = true then ((aM F 1000 1 0 1 0).bind fun x_7=>some x_7) else (if (decide (s0 = [109,115])) = true then ((aM F 1 1000 0 0 1).bind fun x_8=>some x_8) else (if (decide (s0 = [115])) = true then ((aM F 1 1 0 0 1).bind fun x_9=>some x_9) else (if (decide (s0 = [109,105,110])) = true then ((aM F 60 1 0 0 1).bind fun x_10=>some x_10) else (if (decide (s0 = [104])) = true then ((aM F 3600 1 0 0 1).bind fun x_11=>some x_11) else (if (decide (s0 = [78])) = true then ((aM F 1 1 1 1 (-2)).bind fun x_12=>some x_12) else (if (decide (s0 = [107,78])) = true then ((aM F 1000 1 1 1 (-2)).bind fun x_13=>some x_13) else (if (decide (s0 = [77,78])) = true then ((aM F 1000000 1 1 1 (-2)).bind fun x_14=>some x_14) else (if (decide (s0 = [80,97])) = true then ((aM F 1 1 (-1) 1 (-2)).bind fun x_15=>some x_15) else (if (decide (s0 = [107,80,97])) = true then ((aM F 1000 1 (-1) 1 (-2)).bind fun x_16=>some x_16) else (if (decide (s0 = [77,80,97])) = true then ((aM F 1000000 1 (-1) 1 (-2)).bind fun x_17=>some x_17) else (if (decide (s0 = [74])) = true then ((aM F 1 1 2 1 (-2)).bind fun x_18=>some x_18) else (if (decide (s0 = [107,74])) = true then ((aM F 1000 1 2 1 (-2)).bind fun x_19=>some x_19) else (if (decide (s0 = [87])) = true then ((aM F 1 1 2 1 (-3)).bind fun x_20=>some x_20) else (if (decide (s0 = [107,87])) = true then ((aM F 1000 1 2 1 (-3)).bind fun x_21=>some x_21) else (if (decide (s0 = [49])) = true then ((aM F 1 1 0 0 0).bind fun x_22=>some x_22) else (if (decide (s0 = [37])) = true then ((aM F 1 100 0 0 0).bind fun x_23=>some x_23) else (bD (⟨(⟨(⟨(⟨false,false,aP.zero⟩:bt),(⟨false,false,aP.zero⟩:bt)⟩:bN),(⟨0,0,0⟩:aX)⟩:aw),5⟩:qm) fun x_24=>some x_24)))))))))))))))))))))))
theorem mZ {F:Nat} {s0:bg} {r:qm} (h:ey F s0 = some r):az Tryz.prog (bj mx) 111 [] [.one (.str s0)] (Is [] (.b (.agg (cg r)))):=by
 unfold ey at h
 refine az.intro 74 Tryz.func111 Tryz.ntmps111 rfl (by simp) fun E=>?_
 show ab _ E ⟨74,[],[]⟩ _ ⟨[(0,.b (.one (.str s0)))],[]⟩ _
 refine ab.seq (ab.aa ?_)
 refine Oc (aA (k:=101) j7 rfl) (ad.aj ⟨[(0,.b (.one (.str s0))),(2,Pt 101 0)],[(101,.box 69 (.bool false :: .bool false :: (eW aP.zero ++ (.bool false :: .bool false :: (eW aP.zero ++ ([.i 0,.i 0,.i 0,.i 0]))))))]⟩ rfl (ab.seq (ab.seq (ab.aa ?_))))
 refine Oc om (ad.aj ⟨[(2,_),(3,.b (.one (.str s0)))],[(101,_)]⟩ rfl (ab.block (ab.seq (ab.aa ?_))))
 refine Oc (bh rfl rfl) (Oc oa ?_)
 refine ad.aj ⟨[(2,_),(3,_),(4,B (decide (s0 = [109,109])))],[(101,_)]⟩ rfl (ab.ite h rfl (fun _ h=>?_) (fun _ h=>?_))
 ·refine ab.seq (ab.aa ?_)
  obtain ⟨x_1,e1,h⟩:=aE h
  refine Oc (ae (aO e1) dt rfl rfl) (Oc (ag aT rfl rfl rfl rfl (Nat.le_of_ble_eq_true rfl) rfl) ?_)
  refine ad.aj ⟨[(2,_)],[(101,.box 69 (cg x_1))]⟩ rfl (ab.ret (Fin.aL (Fin.ar ?_)))
  obtain rfl:=Option.some.inj h
  refine Fin.ah ⟨[(2,_)],[(101,_)]⟩ rfl (Fin.aq [.agg (cg x_1)] (.inl rfl) rfl (.cons (.agg aT rfl rfl rfl rfl) .nil) ⟨rfl,rfl⟩)
 ·refine ab.seq (ab.aa ?_)
  refine Oc (bh rfl rfl) (Oc oa ?_)
  refine ad.aj ⟨[(2,_),(3,_),(7,B (decide (s0 = [99,109])))],[(101,_)]⟩ rfl (ab.ite h rfl (fun _ h=>?_) (fun _ h=>?_))
  ·refine ab.seq (ab.aa ?_)
   obtain ⟨x_2,e2,h⟩:=aE h
   refine Oc (ae (aO e2) dt rfl rfl) (Oc (ag aT rfl rfl rfl rfl (Nat.le_of_ble_eq_true rfl) rfl) ?_)
   refine ad.aj ⟨[(2,_)],[(101,.box 69 (cg x_2))]⟩ rfl (ab.ret (Fin.aL (Fin.ar ?_)))
   obtain rfl:=Option.some.inj h
   refine Fin.ah ⟨[(2,_)],[(101,_)]⟩ rfl (Fin.aq [.agg (cg x_2)] (.inl rfl) rfl (.cons (.agg aT rfl rfl rfl rfl) .nil) ⟨rfl,rfl⟩)
  ·refine ab.seq (ab.aa ?_)
   refine Oc (bh rfl rfl) (Oc oa ?_)
   refine ad.aj ⟨[(2,_),(3,_),(10,B (decide (s0 = [109])))],[(101,_)]⟩ rfl (ab.ite h rfl (fun _ h=>?_) (fun _ h=>?_))
   ·refine ab.seq (ab.aa ?_)
    obtain ⟨x_3,e3,h⟩:=aE h
    refine Oc (ae (aO e3) dt rfl rfl) (Oc (ag aT rfl rfl rfl rfl (Nat.le_of_ble_eq_true rfl) rfl) ?_)
    refine ad.aj ⟨[(2,_)],[(101,.box 69 (cg x_3))]⟩ rfl (ab.ret (Fin.aL (Fin.ar ?_)))
    obtain rfl:=Option.some.inj h
    refine Fin.ah ⟨[(2,_)],[(101,_)]⟩ rfl (Fin.aq [.agg (cg x_3)] (.inl rfl) rfl (.cons (.agg aT rfl rfl rfl rfl) .nil) ⟨rfl,rfl⟩)
   ·refine ab.seq (ab.aa ?_)
    refine Oc (bh rfl rfl) (Oc oa ?_)
    refine ad.aj ⟨[(2,_),(3,_),(13,B (decide (s0 = [107,109])))],[(101,_)]⟩ rfl (ab.ite h rfl (fun _ h=>?_) (fun _ h=>?_))
    ·refine ab.seq (ab.aa ?_)
     obtain ⟨x_4,e4,h⟩:=aE h
     refine Oc (ae (aO e4) dt rfl rfl) (Oc (ag aT rfl rfl rfl rfl (Nat.le_of_ble_eq_true rfl) rfl) ?_)
     refine ad.aj ⟨[(2,_)],[(101,.box 69 (cg x_4))]⟩ rfl (ab.ret (Fin.aL (Fin.ar ?_)))
     obtain rfl:=Option.some.inj h
     refine Fin.ah ⟨[(2,_)],[(101,_)]⟩ rfl (Fin.aq [.agg (cg x_4)] (.inl rfl) rfl (.cons (.agg aT rfl rfl rfl rfl) .nil) ⟨rfl,rfl⟩)
    ·refine ab.seq (ab.aa ?_)
     refine Oc (bh rfl rfl) (Oc oa ?_)
     refine ad.aj ⟨[(2,_),(3,_),(16,B (decide (s0 = [103])))],[(101,_)]⟩ rfl (ab.ite h rfl (fun _ h=>?_) (fun _ h=>?_))
     ·refine ab.seq (ab.aa ?_)
      obtain ⟨x_5,e5,h⟩:=aE h
      refine Oc (ae (aO e5) dt rfl rfl) (Oc (ag aT rfl rfl rfl rfl (Nat.le_of_ble_eq_true rfl) rfl) ?_)
      refine ad.aj ⟨[(2,_)],[(101,.box 69 (cg x_5))]⟩ rfl (ab.ret (Fin.aL (Fin.ar ?_)))
      obtain rfl:=Option.some.inj h
      refine Fin.ah ⟨[(2,_)],[(101,_)]⟩ rfl (Fin.aq [.agg (cg x_5)] (.inl rfl) rfl (.cons (.agg aT rfl rfl rfl rfl) .nil) ⟨rfl,rfl⟩)
     ·refine ab.seq (ab.aa ?_)
      refine Oc (bh rfl rfl) (Oc oa ?_)
      refine ad.aj ⟨[(2,_),(3,_),(19,B (decide (s0 = [107,103])))],[(101,_)]⟩ rfl (ab.ite h rfl (fun _ h=>?_) (fun _ h=>?_))
      ·refine ab.seq (ab.aa ?_)
       obtain ⟨x_6,e6,h⟩:=aE h
       refine Oc (ae (aO e6) dt rfl rfl) (Oc (ag aT rfl rfl rfl rfl (Nat.le_of_ble_eq_true rfl) rfl) ?_)
       refine ad.aj ⟨[(2,_)],[(101,.box 69 (cg x_6))]⟩ rfl (ab.ret (Fin.aL (Fin.ar ?_)))
       obtain rfl:=Option.some.inj h
       refine Fin.ah ⟨[(2,_)],[(101,_)]⟩ rfl (Fin.aq [.agg (cg x_6)] (.inl rfl) rfl (.cons (.agg aT rfl rfl rfl rfl) .nil) ⟨rfl,rfl⟩)
      ·refine ab.seq (ab.aa ?_)
       refine Oc (bh rfl rfl) (Oc oa ?_)
       refine ad.aj ⟨[(2,_),(3,_),(22,B (decide (s0 = [116])))],[(101,_)]⟩ rfl (ab.ite h rfl (fun _ h=>?_) (fun _ h=>?_))
       ·refine ab.seq (ab.aa ?_)
        obtain ⟨x_7,e7,h⟩:=aE h
        refine Oc (ae (aO e7) dt rfl rfl) (Oc (ag aT rfl rfl rfl rfl (Nat.le_of_ble_eq_true rfl) rfl) ?_)
        refine ad.aj ⟨[(2,_)],[(101,.box 69 (cg x_7))]⟩ rfl (ab.ret (Fin.aL (Fin.ar ?_)))
        obtain rfl:=Option.some.inj h
        refine Fin.ah ⟨[(2,_)],[(101,_)]⟩ rfl (Fin.aq [.agg (cg x_7)] (.inl rfl) rfl (.cons (.agg aT rfl rfl rfl rfl) .nil) ⟨rfl,rfl⟩)
       ·refine ab.seq (ab.aa ?_)
        refine Oc (bh rfl rfl) (Oc oa ?_)
        refine ad.aj ⟨[(2,_),(3,_),(25,B (decide (s0 = [109,115])))],[(101,_)]⟩ rfl (ab.ite h rfl (fun _ h=>?_) (fun _ h=>?_))
        ·refine ab.seq (ab.aa ?_)
         obtain ⟨x_8,e8,h⟩:=aE h
         refine Oc (ae (aO e8) dt rfl rfl) (Oc (ag aT rfl rfl rfl rfl (Nat.le_of_ble_eq_true rfl) rfl) ?_)
         refine ad.aj ⟨[(2,_)],[(101,.box 69 (cg x_8))]⟩ rfl (ab.ret (Fin.aL (Fin.ar ?_)))
         obtain rfl:=Option.some.inj h
         refine Fin.ah ⟨[(2,_)],[(101,_)]⟩ rfl (Fin.aq [.agg (cg x_8)] (.inl rfl) rfl (.cons (.agg aT rfl rfl rfl rfl) .nil) ⟨rfl,rfl⟩)
        ·refine ab.seq (ab.aa ?_)
         refine Oc (bh rfl rfl) (Oc oa ?_)
         refine ad.aj ⟨[(2,_),(3,_),(28,B (decide (s0 = [115])))],[(101,_)]⟩ rfl (ab.ite h rfl (fun _ h=>?_) (fun _ h=>?_))
         ·refine ab.seq (ab.aa ?_)
          obtain ⟨x_9,e9,h⟩:=aE h
          refine Oc (ae (aO e9) dt rfl rfl) (Oc (ag aT rfl rfl rfl rfl (Nat.le_of_ble_eq_true rfl) rfl) ?_)
          refine ad.aj ⟨[(2,_)],[(101,.box 69 (cg x_9))]⟩ rfl (ab.ret (Fin.aL (Fin.ar ?_)))
          obtain rfl:=Option.some.inj h
          refine Fin.ah ⟨[(2,_)],[(101,_)]⟩ rfl (Fin.aq [.agg (cg x_9)] (.inl rfl) rfl (.cons (.agg aT rfl rfl rfl rfl) .nil) ⟨rfl,rfl⟩)
         ·refine ab.seq (ab.aa ?_)
          refine Oc (bh rfl rfl) (Oc oa ?_)
          refine ad.aj ⟨[(2,_),(3,_),(31,B (decide (s0 = [109,105,110])))],[(101,_)]⟩ rfl (ab.ite h rfl (fun _ h=>?_) (fun _ h=>?_))
          ·refine ab.seq (ab.aa ?_)
           obtain ⟨x_10,e10,h⟩:=aE h
           refine Oc (ae (aO e10) dt rfl rfl) (Oc (ag aT rfl rfl rfl rfl (Nat.le_of_ble_eq_true rfl) rfl) ?_)
           refine ad.aj ⟨[(2,_)],[(101,.box 69 (cg x_10))]⟩ rfl (ab.ret (Fin.aL (Fin.ar ?_)))
           obtain rfl:=Option.some.inj h
           refine Fin.ah ⟨[(2,_)],[(101,_)]⟩ rfl (Fin.aq [.agg (cg x_10)] (.inl rfl) rfl (.cons (.agg aT rfl rfl rfl rfl) .nil) ⟨rfl,rfl⟩)
          ·refine ab.seq (ab.aa ?_)
           refine Oc (bh rfl rfl) (Oc oa ?_)
           refine ad.aj ⟨[(2,_),(3,_),(34,B (decide (s0 = [104])))],[(101,_)]⟩ rfl (ab.ite h rfl (fun _ h=>?_) (fun _ h=>?_))
           ·refine ab.seq (ab.aa ?_)
            obtain ⟨x_11,e11,h⟩:=aE h
            refine Oc (ae (aO e11) dt rfl rfl) (Oc (ag aT rfl rfl rfl rfl (Nat.le_of_ble_eq_true rfl) rfl) ?_)
            refine ad.aj ⟨[(2,_)],[(101,.box 69 (cg x_11))]⟩ rfl (ab.ret (Fin.aL (Fin.ar ?_)))
            obtain rfl:=Option.some.inj h
            refine Fin.ah ⟨[(2,_)],[(101,_)]⟩ rfl (Fin.aq [.agg (cg x_11)] (.inl rfl) rfl (.cons (.agg aT rfl rfl rfl rfl) .nil) ⟨rfl,rfl⟩)
           ·refine ab.seq (ab.aa ?_)
            refine Oc (bh rfl rfl) (Oc oa ?_)
            refine ad.aj ⟨[(2,_),(3,_),(37,B (decide (s0 = [78])))],[(101,_)]⟩ rfl (ab.ite h rfl (fun _ h=>?_) (fun _ h=>?_))
            ·refine ab.seq (ab.aa ?_)
             obtain ⟨x_12,e12,h⟩:=aE h
             refine Oc (ae (aO e12) dt rfl rfl) (Oc (ag aT rfl rfl rfl rfl (Nat.le_of_ble_eq_true rfl) rfl) ?_)
             refine ad.aj ⟨[(2,_)],[(101,.box 69 (cg x_12))]⟩ rfl (ab.ret (Fin.aL (Fin.ar ?_)))
             obtain rfl:=Option.some.inj h
             refine Fin.ah ⟨[(2,_)],[(101,_)]⟩ rfl (Fin.aq [.agg (cg x_12)] (.inl rfl) rfl (.cons (.agg aT rfl rfl rfl rfl) .nil) ⟨rfl,rfl⟩)
            ·refine ab.seq (ab.aa ?_)
             refine Oc (bh rfl rfl) (Oc oa ?_)
             refine ad.aj ⟨[(2,_),(3,_),(40,B (decide (s0 = [107,78])))],[(101,_)]⟩ rfl (ab.ite h rfl (fun _ h=>?_) (fun _ h=>?_))
             ·refine ab.seq (ab.aa ?_)
              obtain ⟨x_13,e13,h⟩:=aE h
              refine Oc (ae (aO e13) dt rfl rfl) (Oc (ag aT rfl rfl rfl rfl (Nat.le_of_ble_eq_true rfl) rfl) ?_)
              refine ad.aj ⟨[(2,_)],[(101,.box 69 (cg x_13))]⟩ rfl (ab.ret (Fin.aL (Fin.ar ?_)))
              obtain rfl:=Option.some.inj h
              refine Fin.ah ⟨[(2,_)],[(101,_)]⟩ rfl (Fin.aq [.agg (cg x_13)] (.inl rfl) rfl (.cons (.agg aT rfl rfl rfl rfl) .nil) ⟨rfl,rfl⟩)
             ·refine ab.seq (ab.aa ?_)
              refine Oc (bh rfl rfl) (Oc oa ?_)
              refine ad.aj ⟨[(2,_),(3,_),(43,B (decide (s0 = [77,78])))],[(101,_)]⟩ rfl (ab.ite h rfl (fun _ h=>?_) (fun _ h=>?_))
              ·refine ab.seq (ab.aa ?_)
               obtain ⟨x_14,e14,h⟩:=aE h
               refine Oc (ae (aO e14) dt rfl rfl) (Oc (ag aT rfl rfl rfl rfl (Nat.le_of_ble_eq_true rfl) rfl) ?_)
               refine ad.aj ⟨[(2,_)],[(101,.box 69 (cg x_14))]⟩ rfl (ab.ret (Fin.aL (Fin.ar ?_)))
               obtain rfl:=Option.some.inj h
               refine Fin.ah ⟨[(2,_)],[(101,_)]⟩ rfl (Fin.aq [.agg (cg x_14)] (.inl rfl) rfl (.cons (.agg aT rfl rfl rfl rfl) .nil) ⟨rfl,rfl⟩)
              ·refine ab.seq (ab.aa ?_)
               refine Oc (bh rfl rfl) (Oc oa ?_)
               refine ad.aj ⟨[(2,_),(3,_),(46,B (decide (s0 = [80,97])))],[(101,_)]⟩ rfl (ab.ite h rfl (fun _ h=>?_) (fun _ h=>?_))
               ·refine ab.seq (ab.aa ?_)
                obtain ⟨x_15,e15,h⟩:=aE h
                refine Oc (ae (aO e15) dt rfl rfl) (Oc (ag aT rfl rfl rfl rfl (Nat.le_of_ble_eq_true rfl) rfl) ?_)
                refine ad.aj ⟨[(2,_)],[(101,.box 69 (cg x_15))]⟩ rfl (ab.ret (Fin.aL (Fin.ar ?_)))
                obtain rfl:=Option.some.inj h
                refine Fin.ah ⟨[(2,_)],[(101,_)]⟩ rfl (Fin.aq [.agg (cg x_15)] (.inl rfl) rfl (.cons (.agg aT rfl rfl rfl rfl) .nil) ⟨rfl,rfl⟩)
               ·refine ab.seq (ab.aa ?_)
                refine Oc (bh rfl rfl) (Oc oa ?_)
                refine ad.aj ⟨[(2,_),(3,_),(49,B (decide (s0 = [107,80,97])))],[(101,_)]⟩ rfl (ab.ite h rfl (fun _ h=>?_) (fun _ h=>?_))
                ·refine ab.seq (ab.aa ?_)
                 obtain ⟨x_16,e16,h⟩:=aE h
                 refine Oc (ae (aO e16) dt rfl rfl) (Oc (ag aT rfl rfl rfl rfl (Nat.le_of_ble_eq_true rfl) rfl) ?_)
                 refine ad.aj ⟨[(2,_)],[(101,.box 69 (cg x_16))]⟩ rfl (ab.ret (Fin.aL (Fin.ar ?_)))
                 obtain rfl:=Option.some.inj h
                 refine Fin.ah ⟨[(2,_)],[(101,_)]⟩ rfl (Fin.aq [.agg (cg x_16)] (.inl rfl) rfl (.cons (.agg aT rfl rfl rfl rfl) .nil) ⟨rfl,rfl⟩)
                ·refine ab.seq (ab.aa ?_)
                 refine Oc (bh rfl rfl) (Oc oa ?_)
                 refine ad.aj ⟨[(2,_),(3,_),(52,B (decide (s0 = [77,80,97])))],[(101,_)]⟩ rfl (ab.ite h rfl (fun _ h=>?_) (fun _ h=>?_))
                 ·refine ab.seq (ab.aa ?_)
                  obtain ⟨x_17,e17,h⟩:=aE h
                  refine Oc (ae (aO e17) dt rfl rfl) (Oc (ag aT rfl rfl rfl rfl (Nat.le_of_ble_eq_true rfl) rfl) ?_)
                  refine ad.aj ⟨[(2,_)],[(101,.box 69 (cg x_17))]⟩ rfl (ab.ret (Fin.aL (Fin.ar ?_)))
                  obtain rfl:=Option.some.inj h
                  refine Fin.ah ⟨[(2,_)],[(101,_)]⟩ rfl (Fin.aq [.agg (cg x_17)] (.inl rfl) rfl (.cons (.agg aT rfl rfl rfl rfl) .nil) ⟨rfl,rfl⟩)
                 ·refine ab.seq (ab.aa ?_)
                  refine Oc (bh rfl rfl) (Oc oa ?_)
                  refine ad.aj ⟨[(2,_),(3,_),(55,B (decide (s0 = [74])))],[(101,_)]⟩ rfl (ab.ite h rfl (fun _ h=>?_) (fun _ h=>?_))
                  ·refine ab.seq (ab.aa ?_)
                   obtain ⟨x_18,e18,h⟩:=aE h
                   refine Oc (ae (aO e18) dt rfl rfl) (Oc (ag aT rfl rfl rfl rfl (Nat.le_of_ble_eq_true rfl) rfl) ?_)
                   refine ad.aj ⟨[(2,_)],[(101,.box 69 (cg x_18))]⟩ rfl (ab.ret (Fin.aL (Fin.ar ?_)))
                   obtain rfl:=Option.some.inj h
                   refine Fin.ah ⟨[(2,_)],[(101,_)]⟩ rfl (Fin.aq [.agg (cg x_18)] (.inl rfl) rfl (.cons (.agg aT rfl rfl rfl rfl) .nil) ⟨rfl,rfl⟩)
                  ·refine ab.seq (ab.aa ?_)
                   refine Oc (bh rfl rfl) (Oc oa ?_)
                   refine ad.aj ⟨[(2,_),(3,_),(58,B (decide (s0 = [107,74])))],[(101,_)]⟩ rfl (ab.ite h rfl (fun _ h=>?_) (fun _ h=>?_))
                   ·refine ab.seq (ab.aa ?_)
                    obtain ⟨x_19,e19,h⟩:=aE h
                    refine Oc (ae (aO e19) dt rfl rfl) (Oc (ag aT rfl rfl rfl rfl (Nat.le_of_ble_eq_true rfl) rfl) ?_)
                    refine ad.aj ⟨[(2,_)],[(101,.box 69 (cg x_19))]⟩ rfl (ab.ret (Fin.aL (Fin.ar ?_)))
                    obtain rfl:=Option.some.inj h
                    refine Fin.ah ⟨[(2,_)],[(101,_)]⟩ rfl (Fin.aq [.agg (cg x_19)] (.inl rfl) rfl (.cons (.agg aT rfl rfl rfl rfl) .nil) ⟨rfl,rfl⟩)
                   ·refine ab.seq (ab.aa ?_)
                    refine Oc (bh rfl rfl) (Oc oa ?_)
                    refine ad.aj ⟨[(2,_),(3,_),(61,B (decide (s0 = [87])))],[(101,_)]⟩ rfl (ab.ite h rfl (fun _ h=>?_) (fun _ h=>?_))
                    ·refine ab.seq (ab.aa ?_)
                     obtain ⟨x_20,e20,h⟩:=aE h
                     refine Oc (ae (aO e20) dt rfl rfl) (Oc (ag aT rfl rfl rfl rfl (Nat.le_of_ble_eq_true rfl) rfl) ?_)
                     refine ad.aj ⟨[(2,_)],[(101,.box 69 (cg x_20))]⟩ rfl (ab.ret (Fin.aL (Fin.ar ?_)))
                     obtain rfl:=Option.some.inj h
                     refine Fin.ah ⟨[(2,_)],[(101,_)]⟩ rfl (Fin.aq [.agg (cg x_20)] (.inl rfl) rfl (.cons (.agg aT rfl rfl rfl rfl) .nil) ⟨rfl,rfl⟩)
                    ·refine ab.seq (ab.aa ?_)
                     refine Oc (bh rfl rfl) (Oc oa ?_)
                     refine ad.aj ⟨[(2,_),(3,_),(64,B (decide (s0 = [107,87])))],[(101,_)]⟩ rfl (ab.ite h rfl (fun _ h=>?_) (fun _ h=>?_))
                     ·refine ab.seq (ab.aa ?_)
                      obtain ⟨x_21,e21,h⟩:=aE h
                      refine Oc (ae (aO e21) dt rfl rfl) (Oc (ag aT rfl rfl rfl rfl (Nat.le_of_ble_eq_true rfl) rfl) ?_)
                      refine ad.aj ⟨[(2,_)],[(101,.box 69 (cg x_21))]⟩ rfl (ab.ret (Fin.aL (Fin.ar ?_)))
                      obtain rfl:=Option.some.inj h
                      refine Fin.ah ⟨[(2,_)],[(101,_)]⟩ rfl (Fin.aq [.agg (cg x_21)] (.inl rfl) rfl (.cons (.agg aT rfl rfl rfl rfl) .nil) ⟨rfl,rfl⟩)
                     ·refine ab.seq (ab.aa ?_)
                      refine Oc (bh rfl rfl) (Oc oa ?_)
                      refine ad.aj ⟨[(2,_),(3,_),(67,B (decide (s0 = [49])))],[(101,_)]⟩ rfl (ab.ite h rfl (fun _ h=>?_) (fun _ h=>?_))
                      ·refine ab.seq (ab.aa ?_)
                       obtain ⟨x_22,e22,h⟩:=aE h
                       refine Oc (ae (aO e22) dt rfl rfl) (Oc (ag aT rfl rfl rfl rfl (Nat.le_of_ble_eq_true rfl) rfl) ?_)
                       refine ad.aj ⟨[(2,_)],[(101,.box 69 (cg x_22))]⟩ rfl (ab.ret (Fin.aL (Fin.ar ?_)))
                       obtain rfl:=Option.some.inj h
                       refine Fin.ah ⟨[(2,_)],[(101,_)]⟩ rfl (Fin.aq [.agg (cg x_22)] (.inl rfl) rfl (.cons (.agg aT rfl rfl rfl rfl) .nil) ⟨rfl,rfl⟩)
                      ·refine ab.seq (ab.aa ?_)
                       refine Oc (bh rfl rfl) (Oc oa ?_)
                       refine ad.aj ⟨[(2,_),(70,B (decide (s0 = [37])))],[(101,_)]⟩ rfl (ab.ite h rfl (fun _ h=>?_) (fun _ h=>?_))
                       ·refine ab.seq (ab.aa ?_)
                        obtain ⟨x_23,e23,h⟩:=aE h
                        refine Oc (ae (aO e23) dt rfl rfl) (Oc (ag aT rfl rfl rfl rfl (Nat.le_of_ble_eq_true rfl) rfl) ?_)
                        refine ad.aj ⟨[(2,_)],[(101,.box 69 (cg x_23))]⟩ rfl (ab.ret (Fin.aL (Fin.ar ?_)))
                        obtain rfl:=Option.some.inj h
                        refine Fin.ah ⟨[(2,_)],[(101,_)]⟩ rfl (Fin.aq [.agg (cg x_23)] (.inl rfl) rfl (.cons (.agg aT rfl rfl rfl rfl) .nil) ⟨rfl,rfl⟩)
                       ·refine ab.skip (Fin.aH (Fin.ah ⟨[(2,_)],[(101,_)]⟩ rfl (Fin.then (ab.seq (ab.aa ?_)))))
                        refine ad.ek cg h rfl (aV iy rfl rfl) (fun x_24 h=>?_)
                        refine Oc (ag aT rfl rfl rfl rfl (Nat.le_of_ble_eq_true rfl) rfl) (ad.aj ⟨[(2,_)],[(101,.box 69 (cg x_24))]⟩ rfl (ab.ret ?_))
                        obtain rfl:=Option.some.inj h
                        refine Fin.ah ⟨[(2,_)],[(101,_)]⟩ rfl (Fin.aq [.agg (cg x_24)] (.inl rfl) rfl (.cons (.agg aT rfl rfl rfl rfl) .nil) ⟨rfl,rfl⟩)
def di (F:Nat) (s0:bg) (at0:Int):Option sA :=
 Option.bind ((bA (decide (at0 < (s0.length:Int))) (bB s0 at0)).bind fun x_2=>bD ((decide (at0 < (s0.length:Int))) && (decide ((x_2.toNat:Int) = 45))) fun x_3=>if x_3 = true then (some (IntKind.i64.wrap (at0 + 1))) else (some at0)) (fun from_1=>Option.bind (iter F (b7 fun to_6 n_7=>(bA (decide (to_6 < (s0.length:Int))) (bB s0 to_6)).bind fun x_10=>bD ((decide (to_6 < (s0.length:Int))) && (decide (48 ≤ (x_10.toNat:Int)))) fun x_11=>(bA x_11 (bB s0 to_6)).bind fun x_12=>if (x_11 && (decide ((x_12.toNat:Int) ≤ 57))) = true then ((bB s0 to_6).bind fun x_13=>bD (IntKind.u8.wrap ((x_13.toNat:Int) - 48)) fun x_14=>bD (IntKind.i64.wrap ((IntKind.i64.wrap (n_7 * 10)) + (IntKind.i64.wrap x_14))) fun x_15=>some (.inl (IntKind.i64.wrap (to_6 + 1),min x_15 1000))) else (some (.inr (to_6,n_7)))) (from_1,0)) (b7 fun to_4 n_5=>(bA ((!((decide (to_4 = from_1)) || (decide (16 < n_5)))) && (decide (1 < (IntKind.i64.wrap (to_4 - from_1))))) (bB s0 from_1)).bind fun x_16=>bD (((decide (to_4 = from_1)) || (decide (16 < n_5))) || ((decide (1 < (IntKind.i64.wrap (to_4 - from_1)))) && (decide ((x_16.toNat:Int) = 48)))) fun x_17=>if (x_17 || ((decide (at0 < from_1)) && (decide (n_5 = 0)))) = true then (some (⟨0,0⟩:sA)) else (Option.bind (if (decide (at0 < from_1)) = true then (some (IntKind.i64.wrap (-n_5))) else (some n_5)) (fun n_18=>some (⟨n_18,to_4⟩:sA)))))
theorem kQ {F:Nat} {s0:bg} {at0:Int} {r:sA} (h:di F s0 at0 = some r):az Tryz.prog (bj mx) 112 [] [.one (.str s0),.one (.i at0)] (Is [] (.b (.agg (C8 r)))):=by
 unfold di at h
 refine az.intro 86 Tryz.func112 Tryz.ntmps112 rfl (by simp) fun E=>?_
 show ab _ E ⟨86,[],[]⟩ _ ⟨[(0,.b (.one (.str s0))),(1,I at0)],[]⟩ _
 refine ab.seq (ab.aa ?_)
 refine Oc (aA (k:=101) vm rfl) (ad.aj ⟨[(0,.b (.one (.str s0))),(1,I at0),(4,Pt 101 0)],[(101,.box 124 [.i 0,.i 0])]⟩ rfl (ab.seq (ab.aa ?_)))
 refine Oc om (Oc oa ?_)
 refine ad.aj ⟨[(0,_),(1,_),(4,_),(5,I at0)],[(101,_)]⟩ rfl ?_
 obtain ⟨v1,h2,h⟩:=aE h
 refine ab.cB (v:=v1) (fun (from_1:Int)=>⟨[(0,.b (.one (.str s0))),(1,I at0),(4,Pt 101 0),(5,I from_1)],[(101,.box 124 [.i 0,.i 0])]⟩) (fun z=>z) ?_ ?_
 ·refine ab.seq (ab.aa ?_)
  refine Oc om (Oc om (Oc (b6 eg rfl) (Oc (bK rfl rfl) (Oc om ?_))))
  refine bU (decide (at0 < (s0.length:Int))) [] (fun g3=>trivial) (fun g3=>om) (ad.ah ⟨[(0,_),(1,_),(4,_),(5,_),(13,B (decide (at0 < (s0.length:Int)))),(14,.dA (decide (at0 < (s0.length:Int))) (.one (.str s0)))],[(101,_)]⟩ rfl (bU (decide (at0 < (s0.length:Int))) [] (fun g4=>by exact trivial) (fun g4=>om) ?_))
  obtain ⟨x_2,e6,h2⟩:=aE h2
  refine bU (decide (at0 < (s0.length:Int))) [14,15] (fun g5=>⟨g5,g5,trivial⟩) (fun g5=>cf eg rfl rfl (bp (gc e6 g5)) (gf (gc e6 g5))) (bU (decide (at0 < (s0.length:Int))) [16] (fun g7=>⟨g7,trivial⟩) (fun g7=>cy rfl rfl) (ad.iJ h2 rfl (aD (fun e=>e) rfl rfl rfl rfl) (fun x_3 h2=>?_)))
  refine ad.aj ⟨[(0,_),(1,_),(4,_),(5,_),(18,B x_3)],[(101,_)]⟩ rfl (ab.ite h2 rfl (fun _ h2=>?_) (fun _ h2=>?_))
  ·refine ab.aa (Oc om (Oc (bb rfl rfl) (Oc oa ?_)))
   refine ad.nil ?_
   exact Fin.join [0,1,4,5] [101] (IntKind.i64.wrap (at0 + 1)) (Option.some.inj h2) rfl
  ·refine ab.skip ?_
   exact Fin.join [0,1,4,5] [101] at0 (Option.some.inj h2) rfl
 ·rintro from_1 hv
  subst v1
  refine ab.seq (ab.aa ?_)
  refine Oc om (Oc oa ?_)
  refine ad.aj ⟨[(0,_),(1,_),(4,_),(5,_),(6,I from_1)],[(101,_)]⟩ rfl (ab.seq (ab.aa ?_))
  refine Oc oa (ad.aj ⟨[(0,_),(1,_),(4,_),(5,_),(6,_),(7,I 0)],[(101,_)]⟩ rfl ?_)
  obtain ⟨v8,h9,h⟩:=aE h
  refine ab.cB (v:=v8) (b7 fun (to_4:Int) (n_5:Int)=>⟨[(0,.b (.one (.str s0))),(1,I at0),(4,Pt 101 0),(5,I from_1),(6,I to_4),(7,I n_5)],[(101,.box 124 [.i 0,.i 0])]⟩) (fun z=>z) ?_ ?_
  ·refine ab.block (ab.cS h9 (b7 fun (to_6:Int) (n_7:Int)=>⟨[(0,.b (.one (.str s0))),(1,I at0),(4,Pt 101 0),(5,I from_1),(6,I to_6),(7,I n_7)],[(101,.box 124 [.i 0,.i 0])]⟩) [0,1,4,5,6,7] [101] rfl ?_)
   rintro ⟨to_6,n_7⟩ o10 h11 hy12
   refine ab.seq (ab.seq (ab.aa ?_))
   refine Oc om (Oc om (Oc (b6 eg rfl) (Oc (bK rfl rfl) (Oc om ?_))))
   refine bU (decide (to_6 < (s0.length:Int))) [] (fun g13=>trivial) (fun g13=>om) (ad.ah ⟨[(0,_),(1,_),(4,_),(5,_),(6,_),(7,_),(26,B (decide (to_6 < (s0.length:Int)))),(27,.dA (decide (to_6 < (s0.length:Int))) (.one (.str s0)))],[(101,_)]⟩ rfl (bU (decide (to_6 < (s0.length:Int))) [] (fun g14=>by exact trivial) (fun g14=>om) ?_))
   obtain ⟨x_10,e16,h11⟩:=aE h11
   refine bU (decide (to_6 < (s0.length:Int))) [27,28] (fun g15=>⟨g15,g15,trivial⟩) (fun g15=>cf eg rfl rfl (bp (gc e16 g15)) (gf (gc e16 g15))) (bU (decide (to_6 < (s0.length:Int))) [29] (fun g17=>⟨g17,trivial⟩) (fun g17=>fy rfl rfl) (ad.iJ h11 rfl (aD (fun e=>e) rfl rfl rfl rfl) (fun x_11 h11=>?_)))
   refine Oc om (bU x_11 [] (fun g18=>by exact trivial) (fun g18=>om) (bU x_11 [] (fun g19=>by exact trivial) (fun g19=>om) ?_))
   obtain ⟨x_12,e21,h11⟩:=aE h11
   refine bU x_11 [33,34] (fun g20=>⟨g20,g20,trivial⟩) (fun g20=>cf eg rfl rfl (bp (gc e21 g20)) (gf (gc e21 g20))) (bU x_11 [35] (fun g22=>⟨g22,trivial⟩) (fun g22=>lh rfl rfl) (Oc (aD (fun e=>e) rfl rfl rfl rfl) (ad.aj ⟨[(0,_),(1,_),(4,_),(5,_),(6,_),(7,_),(37,B (x_11 && (decide ((x_12.toNat:Int) ≤ 57))))],[(101,_)]⟩ rfl (ab.ite h11 rfl (fun _ h11=>?_) (fun _ h11=>?_)))))
   ·refine ab.skip (Fin.ah ⟨[(0,_),(1,_),(4,_),(5,_),(6,_),(7,_)],[(101,_)]⟩ rfl (Fin.then (ab.block (ab.seq (ab.aa ?_)))))
    refine Oc om (Oc (fN rfl rfl) (Oc om (Oc om ?_)))
    obtain ⟨x_13,e23,h11⟩:=aE h11
    refine Oc (cf eg rfl rfl (bp e23) (gf e23)) (ad.cp .u8 h11 rfl (bX rfl rfl) (fun x_14 h11=>?_))
    refine Oc (aF u4 lc rfl) (ad.ah ⟨[(0,_),(1,_),(4,_),(5,_),(6,_),(7,_),(39,I (IntKind.i64.wrap (n_7 * 10))),(44,I (IntKind.i64.wrap x_14))],[(101,_)]⟩ rfl (ad.cp .i64 h11 rfl (bb rfl rfl) (fun x_15 h11=>?_)))
    refine Oc (yM rfl rfl) (Oc oa ?_)
    refine ad.aj ⟨[(0,_),(1,_),(4,_),(5,_),(6,_),(7,I (min x_15 1000))],[(101,_)]⟩ rfl (ab.aa (Oc om (Oc (bb rfl rfl) (Oc oa ?_))))
    refine ad.nil (Fin.aH ?_)
    exact Fin.bR [0,1,4,5,6,7] [101] (IntKind.i64.wrap (to_6 + 1),min x_15 1000) (Option.some.inj h11) rfl
   ·refine ab.exit (Fin.aG ?_)
    obtain rfl:=hy12 _ (Option.some.inj h11).symm
    refine Fin.aG (Fin.aY ?_)
    exact Fin.join [0,1,4,5,6,7] [101] (to_6,n_7) rfl rfl
  ·rintro ⟨to_4,n_5⟩ hv
   subst v8
   refine ab.seq (ab.seq (ab.aa ?_))
   refine Oc om (Oc om (Oc (cy rfl rfl) (Oc om ?_)))
   refine cN (!(decide (to_4 = from_1))) [] (fun g24=>trivial) (fun g24=>om) (cN (!(decide (to_4 = from_1))) [53] (fun g25=>by exact ⟨g25,trivial⟩) (fun g25=>dB rfl rfl) (Oc (aU (fun e=>by rw [e]; rfl) rfl rfl rfl rfl) (ad.ah ⟨[(0,_),(1,_),(4,_),(5,_),(6,_),(7,_),(55,B ((decide (to_4 = from_1)) || (decide (16 < n_5))))],[(101,_)]⟩ rfl (Oc om (cN (!((decide (to_4 = from_1)) || (decide (16 < n_5)))) [] (fun g26=>by exact trivial) (fun g26=>om) ?_)))))
   refine cN (!((decide (to_4 = from_1)) || (decide (16 < n_5)))) [] (fun g27=>trivial) (fun g27=>om) (cN (!((decide (to_4 = from_1)) || (decide (16 < n_5)))) [57,58] (fun g28=>by exact ⟨g28,g28,trivial⟩) (fun g28=>bX rfl rfl) (cN (!((decide (to_4 = from_1)) || (decide (16 < n_5)))) [59] (fun g29=>by exact ⟨g29,trivial⟩) (fun g29=>dB rfl rfl) (cN (!((decide (to_4 = from_1)) || (decide (16 < n_5)))) [60] (fun g30=>by exact ⟨g30,trivial⟩) (fun g30=>om) (ad.dy ((!((decide (to_4 = from_1)) || (decide (16 < n_5)))) && (decide (1 < (IntKind.i64.wrap (to_4 - from_1))))) 99 [] (.under rfl) (gu _ _) rfl rfl (fun g31=>by exact trivial) (fun g31=>om) (ad.dy ((!((decide (to_4 = from_1)) || (decide (16 < n_5)))) && (decide (1 < (IntKind.i64.wrap (to_4 - from_1))))) 99 [] (.under rfl) (gu _ _) rfl rfl (fun g32=>by exact trivial) (fun g32=>om) ?_)))))
   refine ad.ah ⟨[(1,_),(4,_),(5,_),(6,_),(7,_),(56,B ((decide (to_4 = from_1)) || (decide (16 < n_5)))),(61,.dA (!((decide (to_4 = from_1)) || (decide (16 < n_5)))) (.one (.bool (decide (1 < (IntKind.i64.wrap (to_4 - from_1))))))),(62,.dA ((!((decide (to_4 = from_1)) || (decide (16 < n_5)))) && (decide (1 < (IntKind.i64.wrap (to_4 - from_1))))) (.one (.str s0))),(63,.dA ((!((decide (to_4 = from_1)) || (decide (16 < n_5)))) && (decide (1 < (IntKind.i64.wrap (to_4 - from_1))))) (.one (.i from_1)))],[(101,_)]⟩ rfl ?_
   obtain ⟨x_16,e34,h⟩:=aE h
   refine ad.dy ((!((decide (to_4 = from_1)) || (decide (16 < n_5)))) && (decide (1 < (IntKind.i64.wrap (to_4 - from_1))))) 99 [62,63] (.under rfl) (gu _ _) rfl rfl (fun g33=>⟨g33,g33,trivial⟩) (fun g33=>cf eg rfl rfl (bp (gc e34 g33)) (gf (gc e34 g33))) (ad.dy ((!((decide (to_4 = from_1)) || (decide (16 < n_5)))) && (decide (1 < (IntKind.i64.wrap (to_4 - from_1))))) 99 [64] (.under rfl) (gu _ _) rfl rfl (fun g35=>⟨g35,trivial⟩) (fun g35=>cy rfl rfl) (cN (!((decide (to_4 = from_1)) || (decide (16 < n_5)))) [61] (fun g36=>⟨g36,trivial⟩) (fun g36=>aD (fun e=>by rw [g36,e]; rfl) rfl rfl rfl rfl) (ad.iJ h rfl (aU (fun e=>by rw [e]; rfl) rfl rfl rfl rfl) (fun x_17 h=>?_))))
   refine Oc om (cN (!x_17) [] (fun g37=>by exact trivial) (fun g37=>om) (cN (!x_17) [] (fun g38=>by exact trivial) (fun g38=>om) (cN (!x_17) [69,70] (fun g39=>by exact ⟨g39,g39,trivial⟩) (fun g39=>dB rfl rfl) (ad.ah ⟨[(1,_),(4,_),(5,_),(6,_),(7,_),(68,B x_17),(71,.dA (!x_17) (.one (.bool (decide (at0 < from_1)))))],[(101,_)]⟩ rfl (cN (!x_17) [71] (fun g40=>by exact ⟨g40,trivial⟩) (fun g40=>om) ?_)))))
   refine ad.dy ((!x_17) && (decide (at0 < from_1))) 99 [] (.under rfl) (gu _ _) rfl rfl (fun g41=>trivial) (fun g41=>om) (ad.dy ((!x_17) && (decide (at0 < from_1))) 99 [73] (.under rfl) (gu _ _) rfl rfl (fun g42=>by exact ⟨g42,trivial⟩) (fun g42=>cy rfl rfl) (cN (!x_17) [72] (fun g43=>by exact ⟨g43,trivial⟩) (fun g43=>aD (fun e=>by rw [g43,e]; rfl) rfl rfl rfl rfl) (Oc (aU (fun e=>by rw [e]; rfl) rfl rfl rfl rfl) (ad.aj ⟨[(1,_),(4,_),(5,_),(6,_),(7,_),(76,B (x_17 || ((decide (at0 < from_1)) && (decide (n_5 = 0)))))],[(101,_)]⟩ rfl (ab.ite h rfl (fun _ h=>?_) (fun _ h=>?_))))))
   ·refine ab.seq (ab.aa ?_)
    refine Oc (aV ur rfl rfl) (Oc (ag oD rfl rfl rfl rfl (Nat.le_of_ble_eq_true rfl) rfl) ?_)
    refine ad.aj ⟨[(4,_)],[(101,_)]⟩ rfl (ab.ret (Fin.ar ?_))
    obtain rfl:=Option.some.inj h
    refine Fin.ah ⟨[(4,_)],[(101,_)]⟩ rfl (Fin.aq [.agg [.i 0,.i 0]] (.inl rfl) rfl (.cons (.agg oD rfl rfl rfl rfl) .nil) ⟨rfl,rfl⟩)
   ·refine ab.skip (Fin.ah ⟨[(1,_),(4,_),(5,_),(6,_),(7,_)],[(101,_)]⟩ rfl (Fin.then ?_))
    obtain ⟨v44,h45,h⟩:=aE h
    refine ab.cB (v:=v44) (fun (n_18:Int)=>⟨[(4,Pt 101 0),(6,I to_4),(7,I n_18)],[(101,.box 124 [.i 0,.i 0])]⟩) (fun z=>z) ?_ ?_
    ·refine ab.seq (ab.aa ?_)
     refine Oc om (Oc om (Oc (dB rfl rfl) ?_))
     refine ad.aj ⟨[(4,_),(6,_),(7,_),(80,B (decide (at0 < from_1)))],[(101,_)]⟩ rfl (ab.ite h45 rfl (fun _ h45=>?_) (fun _ h45=>?_))
     ·refine ab.aa (Oc om (Oc (mn rfl) (Oc oa ?_)))
      refine ad.nil ?_
      exact Fin.join [4,6,7] [101] (IntKind.i64.wrap (-n_5)) (Option.some.inj h45) rfl
     ·refine ab.skip ?_
      exact Fin.join [4,6,7] [101] n_5 (Option.some.inj h45) rfl
    ·rintro n_18 hv
     subst v44
     refine ab.seq (ab.aa ?_)
     refine Oc om (Oc om (Oc (aV ur rfl rfl) (Oc (ag oD rfl rfl rfl rfl (Nat.le_of_ble_eq_true rfl) rfl) ?_)))
     refine ad.aj ⟨[(4,_)],[(101,.box 124 [.i n_18,.i to_4])]⟩ rfl (ab.ret ?_)
     obtain rfl:=Option.some.inj h
     refine Fin.ah ⟨[(4,_)],[(101,_)]⟩ rfl (Fin.aq [.agg [.i n_18,.i to_4]] (.inl rfl) rfl (.cons (.agg oD rfl rfl rfl rfl) .nil) ⟨rfl,rfl⟩)
def mP (F:Nat) (n0:Int):Option Bool :=
 some ((decide (n0 < 2147483648)) && (decide ((-2147483648) < n0)))
theorem rK {F:Nat} {n0:Int} {r:Bool} (h:mP F n0 = some r):az Tryz.prog (bj mx) 184 [] [.one (.i n0)] (Is [] (.b (.one (.bool r)))):=by
 unfold mP at h
 refine az.intro 9 Tryz.func184 Tryz.ntmps184 rfl (by simp) fun E=>?_
 show ab _ E ⟨9,[],[]⟩ _ ⟨[(0,I n0)],[]⟩ _
 refine ab.seq (ab.aa ?_)
 refine Oc oa (ad.aj ⟨[(0,I n0)],[]⟩ rfl (ab.seq (ab.aa ?_)))
 refine Oc om (Oc (bK rfl rfl) (Oc om ?_))
 refine bU (decide (n0 < 2147483648)) [] (fun g1=>trivial) (fun g1=>om) (bU (decide (n0 < 2147483648)) [6] (fun g2=>by exact ⟨g2,trivial⟩) (fun g2=>dB rfl rfl) (Oc (aD (fun e=>e) rfl rfl rfl rfl) (Oc oa ?_)))
 refine ad.aj ⟨[(2,B ((decide (n0 < 2147483648)) && (decide ((-2147483648) < n0))))],[]⟩ rfl (ab.ret ?_)
 obtain rfl:=Option.some.inj h
 refine Fin.ah ⟨[(2,_)],[]⟩ rfl (Fin.aq [.one (.bool ((decide (n0 < 2147483648)) && (decide ((-2147483648) < n0))))] (.inl rfl) rfl (.cons (.tmp rfl) .nil) ⟨rfl,rfl⟩)
def lA (F:Nat) (a0:bt) (b0:bt):Option bt :=
 Option.bind (gi F a0) (b7 fun x_1 x_2=>Option.bind (gi F b0) (b7 fun x_3 x_4=>(bA (x_2 && x_4) (mP F x_1)).bind fun x_5=>(bA ((x_2 && x_4) && x_5) (mP F x_3)).bind fun x_6=>if (((x_2 && x_4) && x_5) && x_6) = true then ((iV F (IntKind.i64.wrap (x_1 * x_3))).bind fun x_7=>some x_7) else ((da F a0).bind fun x_8=>(bA (!(!x_8)) (da F b0)).bind fun x_9=>if ((!x_8) || (!x_9)) = true then ((iR F).bind fun x_10=>some x_10) else ((cU F a0).bind fun x_11=>(cU F b0).bind fun x_12=>(jN F x_11 x_12).bind fun x_13=>(dO F (a0.Neg != b0.Neg) x_13).bind fun x_14=>some x_14))))
theorem sG {F:Nat} {a0:bt} {b0:bt} {r:bt} (h:lA F a0 b0 = some r):az Tryz.prog (bj mx) 148 [] [.agg (au a0),.agg (au b0)] (Is [] (.b (.agg (au r)))):=by
 unfold lA at h
 refine az.intro 55 Tryz.func148 Tryz.ntmps148 rfl (by simp) fun E=>?_
 show ab _ E ⟨55,[],[]⟩ _ ⟨[(0,.b (.agg (au a0))),(1,.b (.agg (au b0)))],[]⟩ _
 refine ab.seq (ab.aa ?_)
 refine Oc (aS (k:=101) rfl rfl) (Oc (aS (k:=102) rfl rfl) (Oc (aA (k:=103) bx rfl) ?_))
 refine ad.aj ⟨[(2,Pt 101 0),(3,Pt 102 0),(4,Pt 103 0)],[(101,.box 25 (au a0)),(102,.box 25 (au b0)),(103,.box 25 cO)]⟩ rfl (ab.seq (ab.aa ?_))
 refine Oc (lp ao) ?_
 obtain ⟨⟨x_1,x_2⟩,e1,h⟩:=aE h
 refine Oc (ae (iE e1) pF rfl rfl) (Oc om (Oc (ay rfl rfl) (Oc (ay rfl rfl) (Oc oa (Oc oa ?_)))))
 refine ad.aj ⟨[(2,_),(3,_),(4,_),(5,I x_1),(6,B x_2)],[(101,_),(102,_),(103,_)]⟩ rfl (ab.seq (ab.aa ?_))
 refine Oc (lp ao) ?_
 obtain ⟨⟨x_3,x_4⟩,e2,h⟩:=aE h
 refine Oc (ae (iE e2) pF rfl rfl) (Oc om (Oc (ay rfl rfl) (Oc (ay rfl rfl) (Oc oa (Oc oa ?_)))))
 refine ad.aj ⟨[(2,_),(3,_),(4,_),(5,_),(6,_),(7,I x_3),(8,B x_4)],[(101,_),(102,_),(103,_)]⟩ rfl (ab.seq (ab.seq (ab.aa ?_)))
 refine Oc om (Oc om ?_)
 refine bU x_2 [] (fun g3=>trivial) (fun g3=>om) (Oc (aD (fun e=>e) rfl rfl rfl rfl) (Oc om ?_))
 refine bU (x_2 && x_4) [] (fun g4=>trivial) (fun g4=>om) (ad.ah ⟨[(2,_),(3,_),(4,_),(5,_),(7,_),(23,B (x_2 && x_4)),(24,.dA (x_2 && x_4) (.one (.i x_1)))],[(101,_),(102,_),(103,_)]⟩ rfl ?_)
 obtain ⟨x_5,e6,h⟩:=aE h
 refine bU (x_2 && x_4) [24] (fun g5=>⟨g5,trivial⟩) (fun g5=>ae (rK (gc e6 g5)) AO rfl rfl) (Oc (aD (fun e=>e) rfl rfl rfl rfl) (Oc om ?_))
 refine bU ((x_2 && x_4) && x_5) [] (fun g7=>trivial) (fun g7=>om) ?_
 obtain ⟨x_6,e9,h⟩:=aE h
 refine bU ((x_2 && x_4) && x_5) [28] (fun g8=>⟨g8,trivial⟩) (fun g8=>ae (rK (gc e9 g8)) AO rfl rfl) (Oc (aD (fun e=>e) rfl rfl rfl rfl) (ad.aj ⟨[(2,_),(3,_),(4,_),(5,_),(7,_),(30,B (((x_2 && x_4) && x_5) && x_6))],[(101,_),(102,_),(103,_)]⟩ rfl (ab.ite h rfl (fun _ h=>?_) (fun _ h=>?_))))
 ·refine ab.seq (ab.aa ?_)
  refine Oc om (Oc om (Oc (fN rfl rfl) ?_))
  obtain ⟨x_7,e10,h⟩:=aE h
  refine Oc (ae (je e10) nE rfl rfl) (Oc (ag ao rfl rfl rfl rfl (Nat.le_of_ble_eq_true rfl) rfl) ?_)
  refine ad.aj ⟨[(4,_)],[(103,.box 25 (au x_7))]⟩ rfl (ab.ret (Fin.ar ?_))
  obtain rfl:=Option.some.inj h
  refine Fin.ah ⟨[(4,_)],[(103,_)]⟩ rfl (Fin.aq [.agg (au x_7)] (.inl rfl) rfl (.cons (.agg ao rfl rfl rfl rfl) .nil) ⟨rfl,rfl⟩)
 ·refine ab.skip (Fin.ah ⟨[(2,_),(3,_),(4,_)],[(101,_),(102,_),(103,_)]⟩ rfl (Fin.then (ab.seq (ab.seq (ab.aa ?_)))))
  refine Oc (lp ao) ?_
  obtain ⟨x_8,e11,h⟩:=aE h
  refine Oc (ae (cM e11) jq rfl rfl) (Oc (bq rfl) (Oc om ?_))
  refine cN (!(!x_8)) [] (fun g12=>trivial) (fun g12=>lp ao) (ad.ah ⟨[(2,_),(3,_),(4,_),(38,B (!x_8)),(39,.dA (!(!x_8)) (.agg (au b0)))],[(101,_),(102,_),(103,_)]⟩ rfl ?_)
  obtain ⟨x_9,e14,h⟩:=aE h
  refine cN (!(!x_8)) [39] (fun g13=>⟨g13,trivial⟩) (fun g13=>ae (cM (gc e14 g13)) jq rfl rfl) (cN (!(!x_8)) [40] (fun g15=>⟨g15,trivial⟩) (fun g15=>bq rfl) (Oc (aU (fun e=>by rw [e]; rfl) rfl rfl rfl rfl) (ad.aj ⟨[(2,_),(3,_),(4,_),(42,B ((!x_8) || (!x_9)))],[(101,_),(102,_),(103,_)]⟩ rfl (ab.ite h rfl (fun _ h=>?_) (fun _ h=>?_)))))
  ·refine ab.seq (ab.aa ?_)
   obtain ⟨x_10,e16,h⟩:=aE h
   refine Oc (ae (ij e16) nB rfl rfl) (Oc (ag ao rfl rfl rfl rfl (Nat.le_of_ble_eq_true rfl) rfl) ?_)
   refine ad.aj ⟨[(4,_)],[(103,.box 25 (au x_10))]⟩ rfl (ab.ret (Fin.ar ?_))
   obtain rfl:=Option.some.inj h
   refine Fin.ah ⟨[(4,_)],[(103,_)]⟩ rfl (Fin.aq [.agg (au x_10)] (.inl rfl) rfl (.cons (.agg ao rfl rfl rfl rfl) .nil) ⟨rfl,rfl⟩)
  ·refine ab.skip (Fin.ah ⟨[(2,_),(3,_),(4,_)],[(101,_),(102,_),(103,_)]⟩ rfl (Fin.then (ab.seq ?_)))
   refine ab.ah ⟨[(2,_),(3,_),(4,_)],[(101,_),(102,_),(103,_)]⟩ rfl ?_
   obtain ⟨x_11,e17,h⟩:=aE h
   obtain ⟨x_12,e18,h⟩:=aE h
   obtain ⟨x_13,e19,h⟩:=aE h
   obtain ⟨x_14,e20,h⟩:=aE h
   refine ab.bP mixed 11 [Pt 101 1,B a0.Neg,Pt 102 1,B b0.Neg,B (a0.Neg != b0.Neg),.b (.agg (au a0)),.b (.one (.sl 1 (x_11.map eI))),.b (.agg (au b0)),.b (.one (.sl 1 (x_12.map eI))),.b (.one (.sl 1 (x_13.map eI))),.b (.agg (au x_14))] [4] [103] (s':=⟨[(4,_)],[(103,.box 25 (au x_14))]⟩) rfl ⟨fun _=>.p (af bM rfl rfl),fun _=>.p (ax cC rfl rfl rfl),fun _=>.p (af bM rfl rfl),fun _=>.p (ax cC rfl rfl rfl),fun _=>.p (gw uQ rfl rfl),fun _=>.p (lp ao),fun _=>.p (ae (df e17) mr rfl rfl),fun _=>.p (lp ao),fun _=>.p (ae (df e18) mr rfl rfl),fun _=>.p (ae (qa e19) AN rfl rfl),fun _=>.p (ae (fo e20) nA rfl rfl),trivial⟩ ⟨_,by exact .p (ag ao rfl rfl rfl rfl (Nat.le_of_ble_eq_true rfl) rfl),rfl⟩ rfl (ab.ret ?_)
   obtain rfl:=Option.some.inj h
   refine Fin.ah ⟨[(4,_)],[(103,_)]⟩ rfl (Fin.aq [.agg (au x_14)] (.inl rfl) rfl (.cons (.agg ao rfl rfl rfl rfl) .nil) ⟨rfl,rfl⟩)
def lu (F:Nat) (x0:bN) (y0:bN):Option bN :=
 (gR F x0).bind fun x_1=>(bA (!(!x_1)) (gR F y0)).bind fun x_2=>if ((!x_1) || (!x_2)) = true then ((ly F).bind fun x_3=>some x_3) else ((gQ F x0.N y0.D).bind fun x_4=>(gQ F y0.N x0.D).bind fun x_5=>(lA F x_4.N x_5.N).bind fun x_6=>(lA F x_4.D x_5.D).bind fun x_7=>(gQ F x_6 x_7).bind fun x_8=>some x_8)
theorem sD {F:Nat} {x0:bN} {y0:bN} {r:bN} (h:lu F x0 y0 = some r):az Tryz.prog (bj mx) 96 [] [.agg (aI x0),.agg (aI y0)] (Is [] (.b (.agg (aI r)))):=by
 unfold lu at h
 refine az.intro 41 Tryz.func96 Tryz.ntmps96 rfl (by simp) fun E=>?_
 show ab _ E ⟨41,[],[]⟩ _ ⟨[(0,.b (.agg (aI x0))),(1,.b (.agg (aI y0)))],[]⟩ _
 refine ab.seq (ab.aa ?_)
 refine Oc (aS (k:=101) rfl rfl) (Oc (aS (k:=102) rfl rfl) (Oc (aA (k:=103) bO rfl) ?_))
 refine ad.aj ⟨[(2,Pt 101 0),(3,Pt 102 0),(4,Pt 103 0)],[(101,.box 27 (aI x0)),(102,.box 27 (aI y0)),(103,.box 27 eh)]⟩ rfl (ab.seq (ab.seq (ab.aa ?_)))
 refine Oc (lp aC) ?_
 obtain ⟨x_1,e1,h⟩:=aE h
 refine Oc (ae (iD e1) r7 rfl rfl) (Oc (bq rfl) (Oc om ?_))
 refine cN (!(!x_1)) [] (fun g2=>trivial) (fun g2=>lp aC) (ad.ah ⟨[(2,_),(3,_),(4,_),(12,B (!x_1)),(13,.dA (!(!x_1)) (.agg (aI y0)))],[(101,_),(102,_),(103,_)]⟩ rfl ?_)
 obtain ⟨x_2,e4,h⟩:=aE h
 refine cN (!(!x_1)) [13] (fun g3=>⟨g3,trivial⟩) (fun g3=>ae (iD (gc e4 g3)) r7 rfl rfl) (cN (!(!x_1)) [14] (fun g5=>⟨g5,trivial⟩) (fun g5=>bq rfl) (Oc (aU (fun e=>by rw [e]; rfl) rfl rfl rfl rfl) (ad.aj ⟨[(2,_),(3,_),(4,_),(16,B ((!x_1) || (!x_2)))],[(101,_),(102,_),(103,_)]⟩ rfl (ab.ite h rfl (fun _ h=>?_) (fun _ h=>?_)))))
 ·refine ab.seq (ab.aa ?_)
  obtain ⟨x_3,e6,h⟩:=aE h
  refine Oc (ae (oW e6) wC rfl rfl) (Oc (ag aC rfl rfl rfl rfl (Nat.le_of_ble_eq_true rfl) rfl) ?_)
  refine ad.aj ⟨[(4,_)],[(103,.box 27 (aI x_3))]⟩ rfl (ab.ret (Fin.ar ?_))
  obtain rfl:=Option.some.inj h
  refine Fin.ah ⟨[(4,_)],[(103,_)]⟩ rfl (Fin.aq [.agg (aI x_3)] (.inl rfl) rfl (.cons (.agg aC rfl rfl rfl rfl) .nil) ⟨rfl,rfl⟩)
 ·refine ab.skip (Fin.ah ⟨[(2,_),(3,_),(4,_)],[(101,_),(102,_),(103,_)]⟩ rfl (Fin.then (ab.seq (ab.aa ?_))))
  refine Oc (af bF rfl rfl) (Oc (lp ao) (Oc (af bm rfl rfl) (Oc (lp ao) ?_)))
  obtain ⟨x_4,e7,h⟩:=aE h
  refine Oc (ae (iC e7) pG rfl rfl) (Oc (aA (k:=104) bO rfl) (Oc (ag aC rfl rfl rfl rfl (Nat.le_of_ble_eq_true rfl) rfl) ?_))
  refine ad.aj ⟨[(2,_),(3,_),(4,_),(5,Pt 104 0)],[(101,_),(102,_),(103,_),(104,.box 27 (aI x_4))]⟩ rfl (ab.seq (ab.aa ?_))
  refine Oc (af bF rfl rfl) (Oc (lp ao) (Oc (af bm rfl rfl) (Oc (lp ao) ?_)))
  obtain ⟨x_5,e8,h⟩:=aE h
  refine Oc (ae (iC e8) pG rfl rfl) (Oc (aA (k:=105) bO rfl) (Oc (ag aC rfl rfl rfl rfl (Nat.le_of_ble_eq_true rfl) rfl) ?_))
  refine ad.aj ⟨[(4,_),(5,_),(6,Pt 105 0)],[(103,_),(104,_),(105,.box 27 (aI x_5))]⟩ rfl (ab.seq (ab.aa ?_))
  refine Oc (af bF rfl rfl) (Oc (lp ao) (Oc (af bF rfl rfl) (Oc (lp ao) ?_)))
  obtain ⟨x_6,e9,h⟩:=aE h
  refine Oc (ae (sG e9) AW rfl rfl) (Oc (aA (k:=106) bx rfl) (Oc (ag ao rfl rfl rfl rfl (Nat.le_of_ble_eq_true rfl) rfl) ?_))
  refine ad.aj ⟨[(4,_),(5,_),(6,_),(7,Pt 106 0)],[(103,_),(104,_),(105,_),(106,.box 25 (au x_6))]⟩ rfl (ab.seq (ab.aa ?_))
  refine Oc (af bm rfl rfl) (Oc (lp ao) (Oc (af bm rfl rfl) (Oc (lp ao) ?_)))
  obtain ⟨x_7,e10,h⟩:=aE h
  refine Oc (ae (sG e10) AW rfl rfl) (Oc (aA (k:=107) bx rfl) (Oc (ag ao rfl rfl rfl rfl (Nat.le_of_ble_eq_true rfl) rfl) ?_))
  refine ad.aj ⟨[(4,_),(7,_),(8,Pt 107 0)],[(103,_),(106,_),(107,.box 25 (au x_7))]⟩ rfl (ab.seq (ab.aa ?_))
  refine Oc (lp ao) (Oc (lp ao) ?_)
  obtain ⟨x_8,e11,h⟩:=aE h
  refine Oc (ae (iC e11) pG rfl rfl) (Oc (ag aC rfl rfl rfl rfl (Nat.le_of_ble_eq_true rfl) rfl) ?_)
  refine ad.aj ⟨[(4,_)],[(103,.box 27 (aI x_8))]⟩ rfl (ab.ret ?_)
  obtain rfl:=Option.some.inj h
  refine Fin.ah ⟨[(4,_)],[(103,_)]⟩ rfl (Fin.aq [.agg (aI x_8)] (.inl rfl) rfl (.cons (.agg aC rfl rfl rfl rfl) .nil) ⟨rfl,rfl⟩)
def lx (F:Nat) (x0:bN) (y0:bN):Option bN :=
 (gR F y0).bind fun x_1=>if (!x_1) = true then ((ly F).bind fun x_2=>some x_2) else ((gQ F y0.D y0.N).bind fun x_3=>(lu F x0 x_3).bind fun x_4=>some x_4)
theorem sE {F:Nat} {x0:bN} {y0:bN} {r:bN} (h:lx F x0 y0 = some r):az Tryz.prog (bj mx) 57 [] [.agg (aI x0),.agg (aI y0)] (Is [] (.b (.agg (aI r)))):=by
 unfold lx at h
 refine az.intro 16 Tryz.func57 Tryz.ntmps57 rfl (by simp) fun E=>?_
 show ab _ E ⟨16,[],[]⟩ _ ⟨[(0,.b (.agg (aI x0))),(1,.b (.agg (aI y0)))],[]⟩ _
 refine ab.seq (ab.aa ?_)
 refine Oc (aS (k:=101) rfl rfl) (Oc (aS (k:=102) rfl rfl) (Oc (aA (k:=103) bO rfl) ?_))
 refine ad.aj ⟨[(2,Pt 101 0),(3,Pt 102 0),(4,Pt 103 0)],[(101,.box 27 (aI x0)),(102,.box 27 (aI y0)),(103,.box 27 eh)]⟩ rfl (ab.seq (ab.seq (ab.aa ?_)))
 refine Oc (lp aC) ?_
 obtain ⟨x_1,e1,h⟩:=aE h
 refine Oc (ae (iD e1) r7 rfl rfl) (Oc (bq rfl) ?_)
 refine ad.aj ⟨[(2,_),(3,_),(4,_),(7,B (!x_1))],[(101,_),(102,_),(103,_)]⟩ rfl (ab.ite h rfl (fun _ h=>?_) (fun _ h=>?_))
 ·refine ab.seq (ab.aa ?_)
  obtain ⟨x_2,e2,h⟩:=aE h
  refine Oc (ae (oW e2) wC rfl rfl) (Oc (ag aC rfl rfl rfl rfl (Nat.le_of_ble_eq_true rfl) rfl) ?_)
  refine ad.aj ⟨[(4,_)],[(103,.box 27 (aI x_2))]⟩ rfl (ab.ret (Fin.ar ?_))
  obtain rfl:=Option.some.inj h
  refine Fin.ah ⟨[(4,_)],[(103,_)]⟩ rfl (Fin.aq [.agg (aI x_2)] (.inl rfl) rfl (.cons (.agg aC rfl rfl rfl rfl) .nil) ⟨rfl,rfl⟩)
 ·refine ab.skip (Fin.ah ⟨[(2,_),(3,_),(4,_)],[(101,_),(102,_),(103,_)]⟩ rfl (Fin.then (ab.seq ?_)))
  refine ab.ah ⟨[(2,_),(3,_),(4,_)],[(101,_),(102,_),(103,_)]⟩ rfl ?_
  obtain ⟨x_3,e3,h⟩:=aE h
  obtain ⟨x_4,e4,h⟩:=aE h
  refine ab.bP mixed 7 [.b (.agg (aI x0)),Pt 102 18,.b (.agg (au y0.D)),Pt 102 0,.b (.agg (au y0.N)),.b (.agg (aI x_3)),.b (.agg (aI x_4))] [4] [103] (s':=⟨[(4,_)],[(103,.box 27 (aI x_4))]⟩) rfl ⟨fun _=>.p (lp aC),fun _=>.p (af bm rfl rfl),fun _=>.p (lp ao),fun _=>.p (af bF rfl rfl),fun _=>.p (lp ao),fun _=>.p (ae (iC e3) pG rfl rfl),fun _=>.p (ae (sD e4) CU rfl rfl),trivial⟩ ⟨_,by exact .p (ag aC rfl rfl rfl rfl (Nat.le_of_ble_eq_true rfl) rfl),rfl⟩ rfl (ab.ret ?_)
  obtain rfl:=Option.some.inj h
  refine Fin.ah ⟨[(4,_)],[(103,_)]⟩ rfl (Fin.aq [.agg (aI x_4)] (.inl rfl) rfl (.cons (.agg aC rfl rfl rfl rfl) .nil) ⟨rfl,rfl⟩)
def dh (F:Nat) (v0:bN) (u0:aX):Option qm :=
 (gR F v0).bind fun x_1=>if (!x_1) = true then (bD (⟨(⟨(⟨(⟨false,false,aP.zero⟩:bt),(⟨false,false,aP.zero⟩:bt)⟩:bN),(⟨0,0,0⟩:aX)⟩:aw),30⟩:qm) fun x_2=>some x_2) else (some (⟨(⟨v0,u0⟩:aw),0⟩:qm))
theorem kP {F:Nat} {v0:bN} {u0:aX} {r:qm} (h:dh F v0 u0 = some r):az Tryz.prog (bj mx) 92 [] [.agg (aI v0),.agg (aZ u0)] (Is [] (.b (.agg (cg r)))):=by
 unfold dh at h
 refine az.intro 13 Tryz.func92 Tryz.ntmps92 rfl (by simp) fun E=>?_
 show ab _ E ⟨13,[],[]⟩ _ ⟨[(0,.b (.agg (aI v0))),(1,.b (.agg (aZ u0)))],[]⟩ _
 refine ab.seq (ab.aa ?_)
 refine Oc (aS (k:=101) rfl rfl) (Oc (aS (k:=102) rfl rfl) (Oc (aA (k:=103) j7 rfl) ?_))
 refine ad.aj ⟨[(2,Pt 101 0),(3,Pt 102 0),(4,Pt 103 0)],[(101,.box 27 (aI v0)),(102,.box 29 (aZ u0)),(103,.box 69 (.bool false :: .bool false :: (eW aP.zero ++ (.bool false :: .bool false :: (eW aP.zero ++ ([.i 0,.i 0,.i 0,.i 0]))))))]⟩ rfl (ab.seq (ab.seq (ab.aa ?_)))
 refine Oc (lp aC) ?_
 obtain ⟨x_1,e1,h⟩:=aE h
 refine Oc (ae (iD e1) r7 rfl rfl) (Oc (bq rfl) ?_)
 refine ad.aj ⟨[(2,_),(3,_),(4,_),(7,B (!x_1))],[(101,_),(102,_),(103,_)]⟩ rfl (ab.ite h rfl (fun _ h=>?_) (fun _ h=>?_))
 ·refine ab.seq (ab.aa ?_)
  refine ad.ek cg h rfl (aV iy rfl rfl) (fun x_2 h=>?_)
  refine Oc (ag aT rfl rfl rfl rfl (Nat.le_of_ble_eq_true rfl) rfl) (ad.aj ⟨[(4,_)],[(103,.box 69 (cg x_2))]⟩ rfl (ab.ret (Fin.ar ?_)))
  obtain rfl:=Option.some.inj h
  refine Fin.ah ⟨[(4,_)],[(103,_)]⟩ rfl (Fin.aq [.agg (cg x_2)] (.inl rfl) rfl (.cons (.agg aT rfl rfl rfl rfl) .nil) ⟨rfl,rfl⟩)
 ·refine ab.skip (Fin.ah ⟨[(2,_),(3,_),(4,_)],[(101,_),(102,_),(103,_)]⟩ rfl (Fin.then (ab.seq (ab.aa ?_))))
  refine Oc (lp aC) (Oc (lp bz) (Oc (aV dI rfl rfl) (Oc (aV iy rfl rfl) (Oc (ag aT rfl rfl rfl rfl (Nat.le_of_ble_eq_true rfl) rfl) ?_))))
  refine ad.aj ⟨[(4,_)],[(103,.box 69 (aI v0 ++ (aZ u0 ++ ([.i 0]))))]⟩ rfl (ab.ret ?_)
  obtain rfl:=Option.some.inj h
  refine Fin.ah ⟨[(4,_)],[(103,_)]⟩ rfl (Fin.aq [.agg (aI v0 ++ (aZ u0 ++ ([.i 0])))] (.inl rfl) rfl (.cons (.agg aT rfl rfl rfl rfl) .nil) ⟨rfl,rfl⟩)
def dS (F:Nat) (a0:aw) (b0:aw) (n0:Int) (over0:Bool):Option qm :=
 Option.bind (if over0 = true then (some (IntKind.i64.wrap (-n0))) else (some n0)) (fun n_1=>bD (IntKind.i64.wrap (a0.U.M + (IntKind.i64.wrap (n_1 * b0.U.M)))) fun x_2=>bD (IntKind.i64.wrap (a0.U.Kg + (IntKind.i64.wrap (n_1 * b0.U.Kg)))) fun x_3=>bD (IntKind.i64.wrap (a0.U.S + (IntKind.i64.wrap (n_1 * b0.U.S)))) fun x_4=>(dc F (⟨x_2,x_3,x_4⟩:aX)).bind fun x_5=>if (!x_5) = true then (bD (⟨(⟨(⟨(⟨false,false,aP.zero⟩:bt),(⟨false,false,aP.zero⟩:bt)⟩:bN),(⟨0,0,0⟩:aX)⟩:aw),2⟩:qm) fun x_6=>some x_6) else (Option.bind (iter F (b7 fun v_8 i_9=>if (decide (i_9 < (max n_1 (IntKind.i64.wrap (-n_1))))) = true then (Option.bind (if (decide (0 < n_1)) = true then ((lu F v_8 b0.V).bind fun x_12=>some x_12) else ((lx F v_8 b0.V).bind fun x_13=>some x_13)) (fun v_11=>some (.inl (v_11,IntKind.i64.wrap (i_9 + 1))))) else (some (.inr v_8))) (a0.V,0)) (fun v_7=>(dh F v_7 (⟨x_2,x_3,x_4⟩:aX)).bind fun x_14=>some x_14)))
theorem mw {F:Nat} {a0:aw} {b0:aw} {n0:Int} {over0:Bool} {r:qm} (h:dS F a0 b0 n0 over0 = some r):az Tryz.prog (bj mx) 113 [] [.agg (ap a0),.agg (ap b0),.one (.i n0),.one (.bool over0)] (Is [] (.b (.agg (cg r)))):=by
 unfold dS at h
 refine az.intro 70 Tryz.func113 Tryz.ntmps113 rfl (by simp) fun E=>?_
 show ab _ E ⟨70,[],[]⟩ _ ⟨[(0,.b (.agg (ap a0))),(1,.b (.agg (ap b0))),(2,I n0),(3,B over0)],[]⟩ _
 refine ab.seq (ab.aa ?_)
 refine Oc (aS (k:=101) rfl rfl) (Oc (aS (k:=102) rfl rfl) (Oc (aA (k:=103) j7 rfl) ?_))
 refine ad.aj ⟨[(2,I n0),(3,B over0),(4,Pt 101 0),(5,Pt 102 0),(8,Pt 103 0)],[(101,.box 31 (ap a0)),(102,.box 31 (ap b0)),(103,.box 69 (.bool false :: .bool false :: (eW aP.zero ++ (.bool false :: .bool false :: (eW aP.zero ++ ([.i 0,.i 0,.i 0,.i 0]))))))]⟩ rfl ?_
 obtain ⟨v1,h2,h⟩:=aE h
 refine ab.cB (v:=v1) (fun (n_1:Int)=>⟨[(2,I n_1),(4,Pt 101 0),(5,Pt 102 0),(8,Pt 103 0)],[(101,.box 31 (ap a0)),(102,.box 31 (ap b0)),(103,.box 69 (.bool false :: .bool false :: (eW aP.zero ++ (.bool false :: .bool false :: (eW aP.zero ++ ([.i 0,.i 0,.i 0,.i 0]))))))]⟩) (fun z=>z) ?_ ?_
 ·refine ab.seq (ab.aa ?_)
  refine Oc om (ad.aj ⟨[(2,_),(4,_),(5,_),(8,_),(12,B over0)],[(101,_),(102,_),(103,_)]⟩ rfl (ab.ite h2 rfl (fun _ h2=>?_) (fun _ h2=>?_)))
  ·refine ab.aa (Oc om (Oc (mn rfl) (Oc oa ?_)))
   refine ad.nil ?_
   exact Fin.join [2,4,5,8] [101,102,103] (IntKind.i64.wrap (-n0)) (Option.some.inj h2) rfl
  ·refine ab.skip ?_
   exact Fin.join [2,4,5,8] [101,102,103] n0 (Option.some.inj h2) rfl
 ·rintro n_1 hv
  subst v1
  refine ab.seq (ab.aa ?_)
  refine Oc (af c8 rfl rfl) (Oc (af kZ rfl rfl) (Oc (ax bW rfl rfl rfl) (Oc om (Oc (af c8 rfl rfl) (Oc (af kZ rfl rfl) ?_)))))
  refine Oc (ax bW rfl rfl rfl) (ad.ah ⟨[(2,_),(4,_),(5,_),(8,_),(17,I a0.U.M),(18,I n_1),(21,I b0.U.M)],[(101,_),(102,_),(103,_)]⟩ rfl (Oc (fN rfl rfl) (ad.cp .i64 h rfl (bb rfl rfl) (fun x_2 h=>?_))))
  refine Oc (af c8 rfl rfl) (Oc (af kY rfl rfl) (Oc (ax bW rfl rfl rfl) (Oc om (Oc (af c8 rfl rfl) (Oc (af kY rfl rfl) ?_)))))
  refine ad.ah ⟨[(2,_),(4,_),(5,_),(8,_),(23,I x_2),(26,I a0.U.Kg),(27,I n_1),(29,Pt 102 37)],[(101,_),(102,_),(103,_)]⟩ rfl (Oc (ax bW rfl rfl rfl) (Oc (fN rfl rfl) ?_))
  refine ad.cp .i64 h rfl (bb rfl rfl) (fun x_3 h=>?_)
  refine Oc (af c8 rfl rfl) (Oc (af kX rfl rfl) (Oc (ax bW rfl rfl rfl) (Oc om (Oc (af c8 rfl rfl) ?_))))
  refine ad.ah ⟨[(2,_),(4,_),(5,_),(8,_),(23,_),(32,I x_3),(35,I a0.U.S),(36,I n_1),(37,Pt 102 36)],[(101,_),(102,_),(103,_)]⟩ rfl (Oc (af kX rfl rfl) (Oc (ax bW rfl rfl rfl) (Oc (fN rfl rfl) ?_)))
  refine ad.cp .i64 h rfl (bb rfl rfl) (fun x_4 h=>?_)
  refine Oc (aV ff rfl rfl) (Oc (aA (k:=104) lr rfl) (Oc (ag bz rfl rfl rfl rfl (Nat.le_of_ble_eq_true rfl) rfl) ?_))
  refine ad.aj ⟨[(2,_),(4,_),(5,_),(8,_),(9,Pt 104 0)],[(101,_),(102,_),(103,_),(104,.box 29 [.i x_2,.i x_3,.i x_4])]⟩ rfl (ab.seq (ab.seq (ab.aa ?_)))
  refine Oc (lp bz) ?_
  obtain ⟨x_5,e3,h⟩:=aE h
  refine Oc (ae (iU e3) C1 rfl rfl) (Oc (bq rfl) ?_)
  refine ad.aj ⟨[(2,_),(4,_),(5,_),(8,_),(9,_),(45,B (!x_5))],[(101,_),(102,_),(103,_),(104,_)]⟩ rfl (ab.ite h rfl (fun _ h=>?_) (fun _ h=>?_))
  ·refine ab.seq (ab.aa ?_)
   refine ad.ek cg h rfl (aV iy rfl rfl) (fun x_6 h=>?_)
   refine Oc (ag aT rfl rfl rfl rfl (Nat.le_of_ble_eq_true rfl) rfl) (ad.aj ⟨[(8,_)],[(103,.box 69 (cg x_6))]⟩ rfl (ab.ret (Fin.ar ?_)))
   obtain rfl:=Option.some.inj h
   refine Fin.ah ⟨[(8,_)],[(103,_)]⟩ rfl (Fin.aq [.agg (cg x_6)] (.inl rfl) rfl (.cons (.agg aT rfl rfl rfl rfl) .nil) ⟨rfl,rfl⟩)
  ·refine ab.skip (Fin.ah ⟨[(2,_),(4,_),(5,_),(8,_),(9,_)],[(101,_),(102,_),(103,_),(104,_)]⟩ rfl (Fin.then (ab.seq (ab.aa ?_))))
   refine Oc (af c9 rfl rfl) (Oc (lp aC) (Oc (aA (k:=105) bO rfl) (Oc (ag aC rfl rfl rfl rfl (Nat.le_of_ble_eq_true rfl) rfl) ?_)))
   refine ad.aj ⟨[(2,_),(5,_),(8,_),(9,_),(10,Pt 105 0)],[(102,_),(103,_),(104,_),(105,.box 27 (aI a0.V))]⟩ rfl ?_
   obtain ⟨v4,h5,h⟩:=aE h
   refine ab.cB (v:=v4) (fun (v_7:bN)=>⟨[(8,Pt 103 0),(9,Pt 104 0),(10,Pt 105 0)],[(103,.box 69 (.bool false :: .bool false :: (eW aP.zero ++ (.bool false :: .bool false :: (eW aP.zero ++ ([.i 0,.i 0,.i 0,.i 0])))))),(104,.box 29 [.i x_2,.i x_3,.i x_4]),(105,.box 27 (aI v_7))]⟩) (fun z=>z) ?_ ?_
   ·refine ab.seq (ab.aa ?_)
    refine Oc oa (ad.aj ⟨[(2,_),(5,_),(8,_),(9,_),(10,_),(11,I 0)],[(102,_),(103,_),(104,_),(105,_)]⟩ rfl (ab.block (ab.cS h5 (b7 fun (v_8:bN) (i_9:Int)=>⟨[(2,I n_1),(5,Pt 102 0),(8,Pt 103 0),(9,Pt 104 0),(10,Pt 105 0),(11,I i_9)],[(102,.box 31 (ap b0)),(103,.box 69 (.bool false :: .bool false :: (eW aP.zero ++ (.bool false :: .bool false :: (eW aP.zero ++ ([.i 0,.i 0,.i 0,.i 0])))))),(104,.box 29 [.i x_2,.i x_3,.i x_4]),(105,.box 27 (aI v_8))]⟩) [2,5,8,9,10,11] [102,103,104,105] rfl ?_)))
    rintro ⟨v_8,i_9⟩ o6 h7 hy8
    refine ab.seq (ab.seq (ab.aa ?_))
    refine Oc om (Oc om (Oc om (Oc (mn rfl) (Oc (tM rfl rfl) (Oc (bK rfl rfl) ?_)))))
    refine ad.aj ⟨[(2,_),(5,_),(8,_),(9,_),(10,_),(11,_),(54,B (decide (i_9 < (max n_1 (IntKind.i64.wrap (-n_1))))))],[(102,_),(103,_),(104,_),(105,_)]⟩ rfl (ab.ite h7 rfl (fun _ h7=>?_) (fun _ h7=>?_))
    ·refine ab.skip (Fin.ah ⟨[(2,_),(5,_),(8,_),(9,_),(10,_),(11,_)],[(102,_),(103,_),(104,_),(105,_)]⟩ rfl (Fin.then ?_))
     obtain ⟨v9,h10,h7⟩:=aE h7
     refine ab.cB (v:=v9) (fun (v_11:bN)=>⟨[(2,I n_1),(5,Pt 102 0),(8,Pt 103 0),(9,Pt 104 0),(10,Pt 105 0),(11,I i_9)],[(102,.box 31 (ap b0)),(103,.box 69 (.bool false :: .bool false :: (eW aP.zero ++ (.bool false :: .bool false :: (eW aP.zero ++ ([.i 0,.i 0,.i 0,.i 0])))))),(104,.box 29 [.i x_2,.i x_3,.i x_4]),(105,.box 27 (aI v_11))]⟩) (fun z=>z) ?_ ?_
     ·refine ab.block (ab.seq (ab.aa ?_))
      refine Oc om (Oc (dB rfl rfl) ?_)
      refine ad.aj ⟨[(2,_),(5,_),(8,_),(9,_),(10,_),(11,_),(58,B (decide (0 < n_1)))],[(102,_),(103,_),(104,_),(105,_)]⟩ rfl (ab.ite h10 rfl (fun _ h10=>?_) (fun _ h10=>?_))
      ·refine ab.aa (Oc (lp aC) (Oc (af c9 rfl rfl) (Oc (lp aC) ?_)))
       obtain ⟨x_12,e11,h10⟩:=aE h10
       refine Oc (ae (sD e11) CU rfl rfl) (Oc (ag aC rfl rfl rfl rfl (Nat.le_of_ble_eq_true rfl) rfl) ?_)
       refine ad.nil (Fin.aH ?_)
       exact Fin.join [2,5,8,9,10,11] [102,103,104,105] x_12 (Option.some.inj h10) rfl
      ·refine ab.aa (Oc (lp aC) (Oc (af c9 rfl rfl) (Oc (lp aC) ?_)))
       obtain ⟨x_13,e12,h10⟩:=aE h10
       refine Oc (ae (sE e12) CZ rfl rfl) (Oc (ag aC rfl rfl rfl rfl (Nat.le_of_ble_eq_true rfl) rfl) ?_)
       refine ad.nil (Fin.aH ?_)
       exact Fin.join [2,5,8,9,10,11] [102,103,104,105] x_13 (Option.some.inj h10) rfl
     ·rintro v_11 hv
      subst v9
      refine ab.aa (Oc om (Oc (bb rfl rfl) (Oc oa ?_)))
      refine ad.nil ?_
      exact Fin.bR [2,5,8,9,10,11] [102,103,104,105] (v_11,IntKind.i64.wrap (i_9 + 1)) (Option.some.inj h7) rfl
    ·refine ab.exit (Fin.aG ?_)
     obtain rfl:=hy8 _ (Option.some.inj h7).symm
     refine Fin.aG (Fin.aY ?_)
     exact Fin.join [8,9,10] [103,104,105] v_8 rfl rfl
   ·rintro v_7 hv
    subst v4
    refine ab.seq (ab.aa ?_)
    refine Oc (lp aC) (Oc (lp bz) ?_)
    obtain ⟨x_14,e13,h⟩:=aE h
    refine Oc (ae (kP e13) goes92 rfl rfl) (Oc (ag aT rfl rfl rfl rfl (Nat.le_of_ble_eq_true rfl) rfl) ?_)
    refine ad.aj ⟨[(8,_)],[(103,.box 69 (cg x_14))]⟩ rfl (ab.ret ?_)
    obtain rfl:=Option.some.inj h
    refine Fin.ah ⟨[(8,_)],[(103,_)]⟩ rfl (Fin.aq [.agg (cg x_14)] (.inl rfl) rfl (.cons (.agg aT rfl rfl rfl rfl) .nil) ⟨rfl,rfl⟩)
def dU (F:Nat) (s0:bg):Option qm :=
 if (decide (100 < (s0.length:Int))) = true then (bD (⟨(⟨(⟨(⟨false,false,aP.zero⟩:bt),(⟨false,false,aP.zero⟩:bt)⟩:bN),(⟨0,0,0⟩:aX)⟩:aw),2⟩:qm) fun x_1=>some x_1) else ((aM F 1 1 0 0 0).bind fun x_2=>Option.bind (iter F (kA fun out_3 at_4 over_5=>(ew F s0 at_4).bind fun x_6=>if (decide (x_6 = at_4)) = true then (bD (⟨(⟨(⟨(⟨false,false,aP.zero⟩:bt),(⟨false,false,aP.zero⟩:bt)⟩:bN),(⟨0,0,0⟩:aX)⟩:aw),280⟩:qm) fun x_7=>some (.inr x_7)) else (Option.bind (Br s0 at_4 x_6) (fun x_8=>(ey F x_8).bind fun x_9=>if (decide (x_9.E ≠ 0)) = true then (some (.inr x_9)) else (Option.bind ((bA (decide (x_6 < (s0.length:Int))) (bB s0 x_6)).bind fun x_12=>bD ((decide (x_6 < (s0.length:Int))) && (decide ((x_12.toNat:Int) = 94))) fun x_13=>if x_13 = true then ((di F s0 (IntKind.i64.wrap (x_6 + 1))).bind fun x_14=>if (decide (x_14.To = 0)) = true then (bD (⟨(⟨(⟨(⟨false,false,aP.zero⟩:bt),(⟨false,false,aP.zero⟩:bt)⟩:bN),(⟨0,0,0⟩:aX)⟩:aw),280⟩:qm) fun x_15=>some (.inr x_15)) else (some (.inl (x_14.To,x_14.N)))) else (some (.inl (x_6,1)))) (j4 (b7 fun at_10 n_11=>(dS F out_3.Q x_9.Q n_11 over_5).bind fun x_16=>if (decide (x_16.E ≠ 0)) = true then (some (.inr x_16)) else (if (decide (at_10 = (s0.length:Int))) = true then (some (.inr x_16)) else ((bB s0 at_10).bind fun x_17=>(bA (decide ((x_17.toNat:Int) ≠ 42)) (bB s0 at_10)).bind fun x_18=>bD ((decide ((x_17.toNat:Int) ≠ 42)) && (decide ((x_18.toNat:Int) ≠ 47))) fun x_19=>if x_19 = true then (bD (⟨(⟨(⟨(⟨false,false,aP.zero⟩:bt),(⟨false,false,aP.zero⟩:bt)⟩:bN),(⟨0,0,0⟩:aX)⟩:aw),280⟩:qm) fun x_20=>some (.inr x_20)) else ((bB s0 at_10).bind fun x_21=>some (.inl (x_16,IntKind.i64.wrap (at_10 + 1),decide ((x_21.toNat:Int) = 47))))))) (fun y=>some (.inr y))))))) (x_2,0,false)) (fun y=>some y))
theorem mA {F:Nat} {s0:bg} {r:qm} (h:dU F s0 = some r):az Tryz.prog (bj mx) 56 [] [.one (.str s0)] (Is [] (.b (.agg (cg r)))):=by
 unfold dU at h
 refine az.intro 87 Tryz.func56 Tryz.ntmps56 rfl (by simp) fun E=>?_
 show ab _ E ⟨87,[],[]⟩ _ ⟨[(0,.b (.one (.str s0)))],[]⟩ _
 refine ab.seq (ab.aa ?_)
 refine Oc (aA (k:=101) j7 rfl) (ad.aj ⟨[(0,.b (.one (.str s0))),(2,Pt 101 0)],[(101,.box 69 (.bool false :: .bool false :: (eW aP.zero ++ (.bool false :: .bool false :: (eW aP.zero ++ ([.i 0,.i 0,.i 0,.i 0]))))))]⟩ rfl (ab.seq (ab.seq (ab.aa ?_))))
 refine Oc om (Oc (b6 eg rfl) (Oc (dB rfl rfl) ?_))
 refine ad.aj ⟨[(0,_),(2,_),(12,B (decide (100 < (s0.length:Int))))],[(101,_)]⟩ rfl (ab.ite h rfl (fun _ h=>?_) (fun _ h=>?_))
 ·refine ab.seq (ab.aa ?_)
  refine ad.ek cg h rfl (aV iy rfl rfl) (fun x_1 h=>?_)
  refine Oc (ag aT rfl rfl rfl rfl (Nat.le_of_ble_eq_true rfl) rfl) (ad.aj ⟨[(2,_)],[(101,.box 69 (cg x_1))]⟩ rfl (ab.ret (Fin.ar ?_)))
  obtain rfl:=Option.some.inj h
  refine Fin.ah ⟨[(2,_)],[(101,_)]⟩ rfl (Fin.aq [.agg (cg x_1)] (.inl rfl) rfl (.cons (.agg aT rfl rfl rfl rfl) .nil) ⟨rfl,rfl⟩)
 ·refine ab.skip (Fin.ah ⟨[(0,_),(2,_)],[(101,_)]⟩ rfl (Fin.then (ab.seq (ab.aa ?_))))
  obtain ⟨x_2,e1,h⟩:=aE h
  refine Oc (ae (aO e1) dt rfl rfl) (Oc (aA (k:=102) j7 rfl) (Oc (ag aT rfl rfl rfl rfl (Nat.le_of_ble_eq_true rfl) rfl) ?_))
  refine ad.aj ⟨[(0,_),(2,_),(3,Pt 102 0)],[(101,_),(102,.box 69 (cg x_2))]⟩ rfl (ab.seq (ab.aa ?_))
  refine Oc oa (ad.aj ⟨[(0,_),(2,_),(3,_),(4,I 0)],[(101,_),(102,_)]⟩ rfl (ab.seq (ab.aa ?_)))
  refine Oc oa (ad.aj ⟨[(0,_),(2,_),(3,_),(4,_),(5,B false)],[(101,_),(102,_)]⟩ rfl (ab.block ?_))
  obtain ⟨v2,h3,h⟩:=aE h
  refine ab.cS h3 (kA fun (out_3:qm) (at_4:Int) (over_5:Bool)=>⟨[(0,.b (.one (.str s0))),(2,Pt 101 0),(3,Pt 102 0),(4,I at_4),(5,B over_5)],[(101,.box 69 (.bool false :: .bool false :: (eW aP.zero ++ (.bool false :: .bool false :: (eW aP.zero ++ ([.i 0,.i 0,.i 0,.i 0])))))),(102,.box 69 (cg out_3))]⟩) [0,2,3,4,5] [101,102] rfl ?_
  rintro ⟨out_3,at_4,over_5⟩ o4 h5 hy6
  refine ab.block (ab.seq (ab.aa ?_))
  refine Oc om (Oc om ?_)
  obtain ⟨x_6,e7,h5⟩:=aE h5
  refine Oc (ae (mY e7) goes110 rfl rfl) (Oc oa ?_)
  refine ad.aj ⟨[(0,_),(2,_),(3,_),(4,_),(5,_),(6,I x_6)],[(101,_),(102,_)]⟩ rfl (ab.seq (ab.seq (ab.aa ?_)))
  refine Oc om (Oc om (Oc (cy rfl rfl) ?_))
  refine ad.aj ⟨[(0,_),(2,_),(3,_),(4,_),(5,_),(6,_),(20,B (decide (x_6 = at_4)))],[(101,_),(102,_)]⟩ rfl (ab.ite h5 rfl (fun _ h5=>?_) (fun _ h5=>?_))
  ·refine ab.seq (ab.aa ?_)
   refine ad.ek cg h5 rfl (aV iy rfl rfl) (fun x_7 h5=>?_)
   refine Oc (ag aT rfl rfl rfl rfl (Nat.le_of_ble_eq_true rfl) rfl) (ad.aj ⟨[(2,_)],[(101,.box 69 (cg x_7))]⟩ rfl (ab.ret (Fin.ar (Fin.aL ?_))))
   obtain rfl:=hy6 _ (Option.some.inj h5).symm
   refine Fin.ar (Fin.aL ?_)
   obtain rfl:=Option.some.inj h
   refine Fin.ah ⟨[(2,_)],[(101,_)]⟩ rfl (Fin.aq [.agg (cg x_7)] (.inl rfl) rfl (.cons (.agg aT rfl rfl rfl rfl) .nil) ⟨rfl,rfl⟩)
  ·refine ab.skip (Fin.ah ⟨[(0,_),(2,_),(3,_),(4,_),(5,_),(6,_)],[(101,_),(102,_)]⟩ rfl (Fin.then (ab.seq (ab.aa ?_))))
   refine Oc om (Oc om (Oc om ?_))
   obtain ⟨x_8,e8,h5⟩:=aE h5
   refine Oc (wX eg e8 rfl rfl rfl) ?_
   obtain ⟨x_9,e9,h5⟩:=aE h5
   refine Oc (ae (mZ e9) goes111 rfl rfl) (Oc (aA (k:=103) j7 rfl) (Oc (ag aT rfl rfl rfl rfl (Nat.le_of_ble_eq_true rfl) rfl) ?_))
   refine ad.aj ⟨[(0,_),(2,_),(3,_),(5,_),(6,_),(7,Pt 103 0)],[(101,_),(102,_),(103,.box 69 (cg x_9))]⟩ rfl (ab.seq (ab.seq (ab.aa ?_)))
   refine Oc (af pO rfl rfl) (Oc (ax qW rfl rfl rfl) (Oc (dY rfl rfl) ?_))
   refine ad.aj ⟨[(0,_),(2,_),(3,_),(5,_),(6,_),(7,_),(29,B (decide (x_9.E ≠ 0)))],[(101,_),(102,_),(103,_)]⟩ rfl (ab.ite h5 rfl (fun _ h5=>?_) (fun _ h5=>?_))
   ·refine ab.seq (ab.aa ?_)
    refine Oc (lp aT) (Oc (ag aT rfl rfl rfl rfl (Nat.le_of_ble_eq_true rfl) rfl) ?_)
    refine ad.aj ⟨[(2,_)],[(101,.box 69 (cg x_9))]⟩ rfl (ab.ret (Fin.ar (Fin.aL ?_)))
    obtain rfl:=hy6 _ (Option.some.inj h5).symm
    refine Fin.ar (Fin.aL ?_)
    obtain rfl:=Option.some.inj h
    refine Fin.ah ⟨[(2,_)],[(101,_)]⟩ rfl (Fin.aq [.agg (cg x_9)] (.inl rfl) rfl (.cons (.agg aT rfl rfl rfl rfl) .nil) ⟨rfl,rfl⟩)
   ·refine ab.skip (Fin.ah ⟨[(0,_),(2,_),(3,_),(5,_),(6,_),(7,_)],[(101,_),(102,_),(103,_)]⟩ rfl (Fin.then (ab.seq (ab.aa ?_))))
    refine Oc om (Oc oa ?_)
    refine ad.aj ⟨[(0,_),(2,_),(3,_),(4,I x_6),(5,_),(7,_)],[(101,_),(102,_),(103,_)]⟩ rfl (ab.seq (ab.aa ?_))
    refine Oc oa (ad.aj ⟨[(0,_),(2,_),(3,_),(4,_),(5,_),(7,_),(8,I 1)],[(101,_),(102,_),(103,_)]⟩ rfl ?_)
    obtain ⟨v10,h11,h5⟩:=aE h5
    refine ab.cB (v:=v10) (b7 fun (at_10:Int) (n_11:Int)=>⟨[(0,.b (.one (.str s0))),(2,Pt 101 0),(3,Pt 102 0),(4,I at_10),(5,B over_5),(7,Pt 103 0),(8,I n_11)],[(101,.box 69 (.bool false :: .bool false :: (eW aP.zero ++ (.bool false :: .bool false :: (eW aP.zero ++ ([.i 0,.i 0,.i 0,.i 0])))))),(102,.box 69 (cg out_3)),(103,.box 69 (cg x_9))]⟩) (fun z=>.inl z) ?_ ?_
    ·refine ab.seq (ab.aa ?_)
     refine Oc om (Oc om (Oc (b6 eg rfl) (Oc (bK rfl rfl) (Oc om ?_))))
     refine bU (decide (x_6 < (s0.length:Int))) [] (fun g12=>trivial) (fun g12=>om) (ad.ah ⟨[(0,_),(2,_),(3,_),(4,_),(5,_),(7,_),(8,_),(36,B (decide (x_6 < (s0.length:Int)))),(37,.dA (decide (x_6 < (s0.length:Int))) (.one (.str s0)))],[(101,_),(102,_),(103,_)]⟩ rfl (bU (decide (x_6 < (s0.length:Int))) [] (fun g13=>by exact trivial) (fun g13=>om) ?_))
     obtain ⟨x_12,e15,h11⟩:=aE h11
     refine bU (decide (x_6 < (s0.length:Int))) [37,38] (fun g14=>⟨g14,g14,trivial⟩) (fun g14=>cf eg rfl rfl (bp (gc e15 g14)) (gf (gc e15 g14))) (bU (decide (x_6 < (s0.length:Int))) [39] (fun g16=>⟨g16,trivial⟩) (fun g16=>cy rfl rfl) (ad.iJ h11 rfl (aD (fun e=>e) rfl rfl rfl rfl) (fun x_13 h11=>?_)))
     refine ad.aj ⟨[(0,_),(2,_),(3,_),(4,_),(5,_),(7,_),(8,_),(41,B x_13)],[(101,_),(102,_),(103,_)]⟩ rfl (ab.ite h11 rfl (fun _ h11=>?_) (fun _ h11=>?_))
     ·refine ab.seq (ab.aa ?_)
      refine Oc om (Oc om (Oc (bb rfl rfl) ?_))
      obtain ⟨x_14,e17,h11⟩:=aE h11
      refine Oc (ae (kQ e17) goes112 rfl rfl) (Oc (aA (k:=104) vm rfl) (Oc (ag oD rfl rfl rfl rfl (Nat.le_of_ble_eq_true rfl) rfl) ?_))
      refine ad.aj ⟨[(0,_),(2,_),(3,_),(5,_),(7,_),(9,Pt 104 0)],[(101,_),(102,_),(103,_),(104,.box 124 (C8 x_14))]⟩ rfl (ab.seq (ab.seq (ab.aa ?_)))
      refine Oc (af uq rfl rfl) (Oc (ax bW rfl rfl rfl) (Oc (cy rfl rfl) ?_))
      refine ad.aj ⟨[(0,_),(2,_),(3,_),(5,_),(7,_),(9,_),(48,B (decide (x_14.To = 0)))],[(101,_),(102,_),(103,_),(104,_)]⟩ rfl (ab.ite h11 rfl (fun _ h11=>?_) (fun _ h11=>?_))
      ·refine ab.seq (ab.aa ?_)
       refine ad.ek cg h11 rfl (aV iy rfl rfl) (fun x_15 h11=>?_)
       refine Oc (ag aT rfl rfl rfl rfl (Nat.le_of_ble_eq_true rfl) rfl) (ad.aj ⟨[(2,_)],[(101,.box 69 (cg x_15))]⟩ rfl (ab.ret (Fin.ar ?_)))
       obtain rfl:=Option.some.inj h11
       refine Fin.ar (Fin.aL ?_)
       obtain rfl:=hy6 _ (Option.some.inj h5).symm
       refine Fin.ar (Fin.aL ?_)
       obtain rfl:=Option.some.inj h
       refine Fin.ah ⟨[(2,_)],[(101,_)]⟩ rfl (Fin.aq [.agg (cg x_15)] (.inl rfl) rfl (.cons (.agg aT rfl rfl rfl rfl) .nil) ⟨rfl,rfl⟩)
      ·refine ab.skip (Fin.ah ⟨[(0,_),(2,_),(3,_),(5,_),(7,_),(9,_)],[(101,_),(102,_),(103,_),(104,_)]⟩ rfl (Fin.then (ab.seq (ab.aa ?_))))
       refine Oc (af zv rfl rfl) (Oc (ax bW rfl rfl rfl) (Oc oa ?_))
       refine ad.aj ⟨[(0,_),(2,_),(3,_),(5,_),(7,_),(8,I x_14.N),(9,_)],[(101,_),(102,_),(103,_),(104,_)]⟩ rfl (ab.aa (Oc (af uq rfl rfl) (Oc (ax bW rfl rfl rfl) (Oc oa ?_))))
       refine ad.nil ?_
       exact Fin.join [0,2,3,4,5,7,8] [101,102,103] (x_14.To,x_14.N) (Option.some.inj h11) rfl
     ·refine ab.skip ?_
      exact Fin.join [0,2,3,4,5,7,8] [101,102,103] (x_6,1) (Option.some.inj h11) rfl
    ·rintro ⟨at_10,n_11⟩ hv
     subst v10
     refine ab.seq (ab.aa ?_)
     refine Oc (af pP rfl rfl) (Oc (lp aW) (Oc (af pP rfl rfl) (Oc (lp aW) (Oc om (Oc om ?_)))))
     obtain ⟨x_16,e18,h5⟩:=aE h5
     refine Oc (ae (mw e18) goes113 rfl rfl) (Oc (ag aT rfl rfl rfl rfl (Nat.le_of_ble_eq_true rfl) rfl) ?_)
     refine ad.aj ⟨[(0,_),(2,_),(3,_),(4,_)],[(101,_),(102,.box 69 (cg x_16))]⟩ rfl (ab.seq (ab.seq (ab.aa ?_)))
     refine Oc (af pO rfl rfl) (Oc (ax qW rfl rfl rfl) (Oc (dY rfl rfl) ?_))
     refine ad.aj ⟨[(0,_),(2,_),(3,_),(4,_),(63,B (decide (x_16.E ≠ 0)))],[(101,_),(102,_)]⟩ rfl (ab.ite h5 rfl (fun _ h5=>?_) (fun _ h5=>?_))
     ·refine ab.seq (ab.aa ?_)
      refine Oc (lp aT) (Oc (ag aT rfl rfl rfl rfl (Nat.le_of_ble_eq_true rfl) rfl) ?_)
      refine ad.aj ⟨[(2,_)],[(101,.box 69 (cg x_16))]⟩ rfl (ab.ret (Fin.ar (Fin.aL ?_)))
      obtain rfl:=hy6 _ (Option.some.inj h5).symm
      refine Fin.ar (Fin.aL ?_)
      obtain rfl:=Option.some.inj h
      refine Fin.ah ⟨[(2,_)],[(101,_)]⟩ rfl (Fin.aq [.agg (cg x_16)] (.inl rfl) rfl (.cons (.agg aT rfl rfl rfl rfl) .nil) ⟨rfl,rfl⟩)
     ·refine ab.skip (Fin.ah ⟨[(0,_),(2,_),(3,_),(4,_)],[(101,_),(102,_)]⟩ rfl (Fin.then (ab.seq (ab.seq (ab.aa ?_)))))
      refine Oc om (Oc om (Oc (b6 eg rfl) (Oc (cy rfl rfl) ?_)))
      refine ad.aj ⟨[(0,_),(2,_),(3,_),(4,_),(68,B (decide (at_10 = (s0.length:Int))))],[(101,_),(102,_)]⟩ rfl (ab.ite h5 rfl (fun _ h5=>?_) (fun _ h5=>?_))
      ·refine ab.seq (ab.aa ?_)
       refine Oc (lp aT) (Oc (ag aT rfl rfl rfl rfl (Nat.le_of_ble_eq_true rfl) rfl) ?_)
       refine ad.aj ⟨[(2,_)],[(101,.box 69 (cg x_16))]⟩ rfl (ab.ret (Fin.ar (Fin.aL ?_)))
       obtain rfl:=hy6 _ (Option.some.inj h5).symm
       refine Fin.ar (Fin.aL ?_)
       obtain rfl:=Option.some.inj h
       refine Fin.ah ⟨[(2,_)],[(101,_)]⟩ rfl (Fin.aq [.agg (cg x_16)] (.inl rfl) rfl (.cons (.agg aT rfl rfl rfl rfl) .nil) ⟨rfl,rfl⟩)
      ·refine ab.skip (Fin.ah ⟨[(0,_),(2,_),(3,_),(4,_)],[(101,_),(102,_)]⟩ rfl (Fin.then (ab.seq (ab.seq (ab.aa ?_)))))
       refine Oc om (Oc om ?_)
       obtain ⟨x_17,e19,h5⟩:=aE h5
       refine Oc (cf eg rfl rfl (bp e19) (gf e19)) (Oc (dY rfl rfl) (Oc om ?_))
       refine bU (decide ((x_17.toNat:Int) ≠ 42)) [] (fun g20=>trivial) (fun g20=>om) (bU (decide ((x_17.toNat:Int) ≠ 42)) [] (fun g21=>by exact trivial) (fun g21=>om) (ad.ah ⟨[(0,_),(2,_),(3,_),(4,_),(74,B (decide ((x_17.toNat:Int) ≠ 42))),(75,.dA (decide ((x_17.toNat:Int) ≠ 42)) (.one (.str s0))),(76,.dA (decide ((x_17.toNat:Int) ≠ 42)) (.one (.i at_10)))],[(101,_),(102,_)]⟩ rfl ?_))
       obtain ⟨x_18,e23,h5⟩:=aE h5
       refine bU (decide ((x_17.toNat:Int) ≠ 42)) [75,76] (fun g22=>⟨g22,g22,trivial⟩) (fun g22=>cf eg rfl rfl (bp (gc e23 g22)) (gf (gc e23 g22))) (bU (decide ((x_17.toNat:Int) ≠ 42)) [77] (fun g24=>⟨g24,trivial⟩) (fun g24=>dY rfl rfl) (ad.iJ h5 rfl (aD (fun e=>e) rfl rfl rfl rfl) (fun x_19 h5=>?_)))
       refine ad.aj ⟨[(0,_),(2,_),(3,_),(4,_),(79,B x_19)],[(101,_),(102,_)]⟩ rfl (ab.ite h5 rfl (fun _ h5=>?_) (fun _ h5=>?_))
       ·refine ab.seq (ab.aa ?_)
        refine ad.ek cg h5 rfl (aV iy rfl rfl) (fun x_20 h5=>?_)
        refine Oc (ag aT rfl rfl rfl rfl (Nat.le_of_ble_eq_true rfl) rfl) (ad.aj ⟨[(2,_)],[(101,.box 69 (cg x_20))]⟩ rfl (ab.ret (Fin.ar (Fin.aL ?_))))
        obtain rfl:=hy6 _ (Option.some.inj h5).symm
        refine Fin.ar (Fin.aL ?_)
        obtain rfl:=Option.some.inj h
        refine Fin.ah ⟨[(2,_)],[(101,_)]⟩ rfl (Fin.aq [.agg (cg x_20)] (.inl rfl) rfl (.cons (.agg aT rfl rfl rfl rfl) .nil) ⟨rfl,rfl⟩)
       ·refine ab.skip (Fin.ah ⟨[(0,_),(2,_),(3,_),(4,_)],[(101,_),(102,_)]⟩ rfl (Fin.then (ab.seq (ab.aa ?_))))
        refine Oc om (Oc om ?_)
        obtain ⟨x_21,e25,h5⟩:=aE h5
        refine Oc (cf eg rfl rfl (bp e25) (gf e25)) (Oc (cy rfl rfl) (Oc oa ?_))
        refine ad.aj ⟨[(0,_),(2,_),(3,_),(4,_),(5,B (decide ((x_21.toNat:Int) = 47)))],[(101,_),(102,_)]⟩ rfl (ab.aa (Oc om (Oc (bb rfl rfl) (Oc oa ?_))))
        refine ad.nil (Fin.aH ?_)
        exact Fin.bR [0,2,3,4,5] [101,102] (x_16,IntKind.i64.wrap (at_10 + 1),decide ((x_21.toNat:Int) = 47)) (Option.some.inj h5) rfl
def fu (F:Nat) (a0:aw) (s0:bg):Option Number :=
 (dT F a0).bind fun x_1=>if (!x_1) = true then (bD (⟨(⟨(⟨false,false,aP.zero⟩:bt),(⟨false,false,aP.zero⟩:bt)⟩:bN),1⟩:Number) fun x_2=>some x_2) else ((dU F s0).bind fun x_3=>if (decide (x_3.E ≠ 0)) = true then (bD (⟨(⟨(⟨false,false,aP.zero⟩:bt),(⟨false,false,aP.zero⟩:bt)⟩:bN),x_3.E⟩:Number) fun x_4=>some x_4) else (if (decide (x_3.Q.U ≠ a0.U)) = true then (bD (⟨(⟨(⟨false,false,aP.zero⟩:bt),(⟨false,false,aP.zero⟩:bt)⟩:bN),110⟩:Number) fun x_5=>some x_5) else ((lx F a0.V x_3.Q.V).bind fun x_6=>(gR F x_6).bind fun x_7=>if (!x_7) = true then (bD (⟨(⟨(⟨false,false,aP.zero⟩:bt),(⟨false,false,aP.zero⟩:bt)⟩:bN),30⟩:Number) fun x_8=>some x_8) else (some (⟨x_6,0⟩:Number)))))
theorem oe {F:Nat} {a0:aw} {s0:bg} {r:Number} (h:fu F a0 s0 = some r):az Tryz.prog (bj mx) 12 [] [.agg (ap a0),.one (.str s0)] (Is [] (.b (.agg (gV r)))):=by
 unfold fu at h
 refine az.intro 40 Tryz.func12 Tryz.ntmps12 rfl (by simp) fun E=>?_
 show ab _ E ⟨40,[],[]⟩ _ ⟨[(0,.b (.agg (ap a0))),(1,.b (.one (.str s0)))],[]⟩ _
 refine ab.seq (ab.aa ?_)
 refine Oc (aS (k:=101) rfl rfl) (Oc (aA (k:=102) xm rfl) ?_)
 refine ad.aj ⟨[(1,.b (.one (.str s0))),(2,Pt 101 0),(4,Pt 102 0)],[(101,.box 31 (ap a0)),(102,.box 37 (.bool false :: .bool false :: (eW aP.zero ++ (.bool false :: .bool false :: (eW aP.zero ++ ([.i 0]))))))]⟩ rfl (ab.seq (ab.aa ?_))
 refine Oc (lp aW) ?_
 obtain ⟨x_1,e1,h⟩:=aE h
 refine Oc (ae (my e1) goes15 rfl rfl) (Oc oa ?_)
 refine ad.aj ⟨[(1,_),(2,_),(4,_),(5,B x_1)],[(101,_),(102,_)]⟩ rfl (ab.seq (ab.seq (ab.aa ?_)))
 refine Oc om (Oc (bq rfl) ?_)
 refine ad.aj ⟨[(1,_),(2,_),(4,_),(11,B (!x_1))],[(101,_),(102,_)]⟩ rfl (ab.ite h rfl (fun _ h=>?_) (fun _ h=>?_))
 ·refine ab.seq (ab.aa ?_)
  refine ad.ek gV h rfl (aV mM rfl rfl) (fun x_2 h=>?_)
  refine Oc (ag jv rfl rfl rfl rfl (Nat.le_of_ble_eq_true rfl) rfl) (ad.aj ⟨[(4,_)],[(102,.box 37 (gV x_2))]⟩ rfl (ab.ret (Fin.ar ?_)))
  obtain rfl:=Option.some.inj h
  refine Fin.ah ⟨[(4,_)],[(102,_)]⟩ rfl (Fin.aq [.agg (gV x_2)] (.inl rfl) rfl (.cons (.agg jv rfl rfl rfl rfl) .nil) ⟨rfl,rfl⟩)
 ·refine ab.skip (Fin.ah ⟨[(1,_),(2,_),(4,_)],[(101,_),(102,_)]⟩ rfl (Fin.then (ab.seq (ab.aa ?_))))
  refine Oc om ?_
  obtain ⟨x_3,e2,h⟩:=aE h
  refine Oc (ae (mA e2) goes56 rfl rfl) (Oc (aA (k:=103) j7 rfl) (Oc (ag aT rfl rfl rfl rfl (Nat.le_of_ble_eq_true rfl) rfl) ?_))
  refine ad.aj ⟨[(2,_),(4,_),(6,Pt 103 0)],[(101,_),(102,_),(103,.box 69 (cg x_3))]⟩ rfl (ab.seq (ab.seq (ab.aa ?_)))
  refine Oc (af pO rfl rfl) (Oc (ax qW rfl rfl rfl) (Oc (dY rfl rfl) ?_))
  refine ad.aj ⟨[(2,_),(4,_),(6,_),(17,B (decide (x_3.E ≠ 0)))],[(101,_),(102,_),(103,_)]⟩ rfl (ab.ite h rfl (fun _ h=>?_) (fun _ h=>?_))
  ·refine ab.seq (ab.aa ?_)
   refine Oc (af pO rfl rfl) (Oc (ax qW rfl rfl rfl) ?_)
   refine ad.ek gV h rfl (aV mM rfl rfl) (fun x_4 h=>?_)
   refine Oc (ag jv rfl rfl rfl rfl (Nat.le_of_ble_eq_true rfl) rfl) (ad.aj ⟨[(4,_)],[(102,.box 37 (gV x_4))]⟩ rfl (ab.ret (Fin.ar ?_)))
   obtain rfl:=Option.some.inj h
   refine Fin.ah ⟨[(4,_)],[(102,_)]⟩ rfl (Fin.aq [.agg (gV x_4)] (.inl rfl) rfl (.cons (.agg jv rfl rfl rfl rfl) .nil) ⟨rfl,rfl⟩)
  ·refine ab.skip (Fin.ah ⟨[(2,_),(4,_),(6,_)],[(101,_),(102,_),(103,_)]⟩ rfl (Fin.then (ab.seq (ab.seq (ab.aa ?_)))))
   refine Oc (af pP rfl rfl) (Oc (af c8 rfl rfl) (Oc (lp bz) (Oc (af c8 rfl rfl) (Oc (lp bz) (Oc (hZ (tv x_3.Q.U a0.U) rfl rfl l5) ?_)))))
   refine ad.aj ⟨[(2,_),(4,_),(6,_),(26,B (decide (x_3.Q.U ≠ a0.U)))],[(101,_),(102,_),(103,_)]⟩ rfl (ab.ite h rfl (fun _ h=>?_) (fun _ h=>?_))
   ·refine ab.seq (ab.aa ?_)
    refine ad.ek gV h rfl (aV mM rfl rfl) (fun x_5 h=>?_)
    refine Oc (ag jv rfl rfl rfl rfl (Nat.le_of_ble_eq_true rfl) rfl) (ad.aj ⟨[(4,_)],[(102,.box 37 (gV x_5))]⟩ rfl (ab.ret (Fin.ar ?_)))
    obtain rfl:=Option.some.inj h
    refine Fin.ah ⟨[(4,_)],[(102,_)]⟩ rfl (Fin.aq [.agg (gV x_5)] (.inl rfl) rfl (.cons (.agg jv rfl rfl rfl rfl) .nil) ⟨rfl,rfl⟩)
   ·refine ab.skip (Fin.ah ⟨[(2,_),(4,_),(6,_)],[(101,_),(102,_),(103,_)]⟩ rfl (Fin.then (ab.seq (ab.aa ?_))))
    refine Oc (af c9 rfl rfl) (Oc (lp aC) (Oc (af pP rfl rfl) (Oc (af c9 rfl rfl) (Oc (lp aC) ?_))))
    refine ad.ah ⟨[(4,_),(29,.b (.agg (aI a0.V))),(32,.b (.agg (aI x_3.Q.V)))],[(102,_)]⟩ rfl ?_
    obtain ⟨x_6,e3,h⟩:=aE h
    refine Oc (ae (sE e3) CZ rfl rfl) (Oc (aA (k:=104) bO rfl) (Oc (ag aC rfl rfl rfl rfl (Nat.le_of_ble_eq_true rfl) rfl) ?_))
    refine ad.aj ⟨[(4,_),(7,Pt 104 0)],[(102,_),(104,.box 27 (aI x_6))]⟩ rfl (ab.seq (ab.seq (ab.aa ?_)))
    refine Oc (lp aC) ?_
    obtain ⟨x_7,e4,h⟩:=aE h
    refine Oc (ae (iD e4) r7 rfl rfl) (Oc (bq rfl) ?_)
    refine ad.aj ⟨[(4,_),(7,_),(36,B (!x_7))],[(102,_),(104,_)]⟩ rfl (ab.ite h rfl (fun _ h=>?_) (fun _ h=>?_))
    ·refine ab.seq (ab.aa ?_)
     refine ad.ek gV h rfl (aV mM rfl rfl) (fun x_8 h=>?_)
     refine Oc (ag jv rfl rfl rfl rfl (Nat.le_of_ble_eq_true rfl) rfl) (ad.aj ⟨[(4,_)],[(102,.box 37 (gV x_8))]⟩ rfl (ab.ret (Fin.ar ?_)))
     obtain rfl:=Option.some.inj h
     refine Fin.ah ⟨[(4,_)],[(102,_)]⟩ rfl (Fin.aq [.agg (gV x_8)] (.inl rfl) rfl (.cons (.agg jv rfl rfl rfl rfl) .nil) ⟨rfl,rfl⟩)
    ·refine ab.skip (Fin.ah ⟨[(4,_),(7,_)],[(102,_),(104,_)]⟩ rfl (Fin.then (ab.seq (ab.aa ?_))))
     refine Oc (lp aC) (Oc (aV mM rfl rfl) (Oc (ag jv rfl rfl rfl rfl (Nat.le_of_ble_eq_true rfl) rfl) ?_))
     refine ad.aj ⟨[(4,_)],[(102,.box 37 (aI x_6 ++ ([.i 0])))]⟩ rfl (ab.ret ?_)
     obtain rfl:=Option.some.inj h
     refine Fin.ah ⟨[(4,_)],[(102,_)]⟩ rfl (Fin.aq [.agg (aI x_6 ++ ([.i 0]))] (.inl rfl) rfl (.cons (.agg jv rfl rfl rfl rfl) .nil) ⟨rfl,rfl⟩)
def bZ (F:Nat) (a0:aw) (s0:bg):Option Bool :=
 if (decide (120 < (s0.length:Int))) = true then ((cH F).bind fun x_1=>some x_1) else (Option.bind (jM F a0 s0) (b7 fun x_2 x_3=>(fu F a0 s0).bind fun x_4=>if ((decide (x_2 ≠ x_4.X)) || (decide (x_3 ≠ x_4.E))) = true then (some false) else (if (decide (x_3 ≠ 0)) = true then ((cH F).bind fun x_5=>some x_5) else ((j9 F x_2).bind fun x_6=>(il x_6 [32]).bind fun x_7=>(il x_7 s0).bind fun x_8=>Option.bind (jl F x_8) (b7 fun x_9 x_10=>(cH F).bind fun x_11=>bD (x_11 && ((decide (x_10 = 30)) || ((decide (x_10 = 0)) && (decide (x_9 = a0))))) fun x_12=>some x_12)))))
theorem gI {F:Nat} {a0:aw} {s0:bg} {r:Bool} (h:bZ F a0 s0 = some r):az Tryz.prog (bj mx) 3 [] [.agg (ap a0),.one (.str s0)] (Is [] (.b (.one (.bool r)))):=by
 unfold bZ at h
 refine az.intro 59 Tryz.func3 Tryz.ntmps3 rfl (by simp) fun E=>?_
 show ab _ E ⟨59,[],[]⟩ _ ⟨[(0,.b (.agg (ap a0))),(1,.b (.one (.str s0)))],[]⟩ _
 refine ab.seq (ab.aa ?_)
 refine Oc (aS (k:=101) rfl rfl) (Oc oa ?_)
 refine ad.aj ⟨[(1,.b (.one (.str s0))),(2,Pt 101 0)],[(101,.box 31 (ap a0))]⟩ rfl (ab.seq (ab.seq (ab.aa ?_)))
 refine Oc om (Oc (b6 eg rfl) (Oc (dB rfl rfl) ?_))
 refine ad.aj ⟨[(1,_),(2,_),(12,B (decide (120 < (s0.length:Int))))],[(101,_)]⟩ rfl (ab.ite h rfl (fun _ h=>?_) (fun _ h=>?_))
 ·refine ab.seq (ab.aa ?_)
  obtain ⟨x_1,e1,h⟩:=aE h
  refine Oc (ae (fA e1) zb rfl rfl) (Oc oa ?_)
  refine ad.aj ⟨[(4,B x_1)],[]⟩ rfl (ab.ret (Fin.ar ?_))
  obtain rfl:=Option.some.inj h
  refine Fin.ah ⟨[(4,_)],[]⟩ rfl (Fin.aq [.one (.bool x_1)] (.inl rfl) rfl (.cons (.tmp rfl) .nil) ⟨rfl,rfl⟩)
 ·refine ab.skip (Fin.ah ⟨[(1,_),(2,_)],[(101,_)]⟩ rfl (Fin.then (ab.seq (ab.aa ?_))))
  refine Oc (lp aW) (Oc om ?_)
  obtain ⟨⟨x_2,x_3⟩,e2,h⟩:=aE h
  refine Oc (ae (nR e2) za rfl rfl) (Oc om (Oc (ay rfl rfl) ?_))
  refine ad.ah ⟨[(1,_),(2,_),(14,.fE [.agg (aI x_2),.one (.i x_3)]),(18,.b (.agg (aI x_2)))],[(101,_)]⟩ rfl (Oc (ay rfl rfl) (Oc (aA (k:=102) bO rfl) (Oc (ag aC rfl rfl rfl rfl (Nat.le_of_ble_eq_true rfl) rfl) (Oc oa ?_))))
  refine ad.aj ⟨[(1,_),(2,_),(5,Pt 102 0),(6,I x_3)],[(101,_),(102,.box 27 (aI x_2))]⟩ rfl (ab.seq (ab.aa ?_))
  refine Oc (lp aW) (Oc om ?_)
  obtain ⟨x_4,e3,h⟩:=aE h
  refine Oc (ae (oe e3) goes12 rfl rfl) (Oc (aA (k:=103) xm rfl) (Oc (ag jv rfl rfl rfl rfl (Nat.le_of_ble_eq_true rfl) rfl) ?_))
  refine ad.aj ⟨[(1,_),(2,_),(5,_),(6,_),(7,Pt 103 0)],[(101,_),(102,_),(103,.box 37 (gV x_4))]⟩ rfl (ab.seq (ab.seq (ab.aa ?_)))
  refine Oc (lp aC) (Oc (af BA rfl rfl) (Oc (lp aC) (Oc (hZ (Bc x_2 x_4.X) rfl rfl l5) (Oc om ?_))))
  refine cN (!(decide (x_2 ≠ x_4.X))) [] (fun g4=>trivial) (fun g4=>om) (cN (!(decide (x_2 ≠ x_4.X))) [] (fun g5=>by exact trivial) (fun g5=>af Bz rfl rfl) (ad.ah ⟨[(1,_),(2,_),(5,_),(6,_),(27,B (decide (x_2 ≠ x_4.X))),(28,.dA (!(decide (x_2 ≠ x_4.X))) (.one (.i x_3))),(29,.dA (!(decide (x_2 ≠ x_4.X))) (.ptr 103 36))],[(101,_),(102,_),(103,_)]⟩ rfl (cN (!(decide (x_2 ≠ x_4.X))) [29] (fun g6=>by exact ⟨g6,trivial⟩) (fun g6=>ax qW rfl rfl rfl) (cN (!(decide (x_2 ≠ x_4.X))) [28,30] (fun g7=>by exact ⟨g7,g7,trivial⟩) (fun g7=>dY rfl rfl) (Oc (aU (fun e=>by rw [e]; rfl) rfl rfl rfl rfl) ?_)))))
  refine ad.aj ⟨[(1,_),(2,_),(5,_),(6,_),(32,B ((decide (x_2 ≠ x_4.X)) || (decide (x_3 ≠ x_4.E))))],[(101,_),(102,_)]⟩ rfl (ab.ite h rfl (fun _ h=>?_) (fun _ h=>?_))
  ·refine ab.seq (ab.aa ?_)
   refine Oc oa (ad.aj ⟨[(4,B false)],[]⟩ rfl (ab.ret (Fin.ar ?_)))
   obtain rfl:=Option.some.inj h
   refine Fin.ah ⟨[(4,_)],[]⟩ rfl (Fin.aq [.one (.bool false)] (.inl rfl) rfl (.cons (.tmp rfl) .nil) ⟨rfl,rfl⟩)
  ·refine ab.skip (Fin.ah ⟨[(1,_),(2,_),(5,_),(6,_)],[(101,_),(102,_)]⟩ rfl (Fin.then (ab.seq (ab.seq (ab.aa ?_)))))
   refine Oc om (Oc (dY rfl rfl) ?_)
   refine ad.aj ⟨[(1,_),(2,_),(5,_),(34,B (decide (x_3 ≠ 0)))],[(101,_),(102,_)]⟩ rfl (ab.ite h rfl (fun _ h=>?_) (fun _ h=>?_))
   ·refine ab.seq (ab.aa ?_)
    obtain ⟨x_5,e8,h⟩:=aE h
    refine Oc (ae (fA e8) zb rfl rfl) (Oc oa ?_)
    refine ad.aj ⟨[(4,B x_5)],[]⟩ rfl (ab.ret (Fin.ar ?_))
    obtain rfl:=Option.some.inj h
    refine Fin.ah ⟨[(4,_)],[]⟩ rfl (Fin.aq [.one (.bool x_5)] (.inl rfl) rfl (.cons (.tmp rfl) .nil) ⟨rfl,rfl⟩)
   ·refine ab.skip (Fin.ah ⟨[(1,_),(2,_),(5,_)],[(101,_),(102,_)]⟩ rfl (Fin.then (ab.seq (ab.aa ?_))))
    refine Oc (lp aC) ?_
    obtain ⟨x_6,e9,h⟩:=aE h
    refine Oc (ae (oX e9) y9 rfl rfl) ?_
    obtain ⟨x_7,e10,h⟩:=aE h
    refine Oc (cK e10 rfl rfl) (Oc om ?_)
    obtain ⟨x_8,e11,h⟩:=aE h
    refine Oc (cK e11 rfl rfl) (ad.ah ⟨[(2,_),(41,.b (.one (.str x_8)))],[(101,_)]⟩ rfl ?_)
    obtain ⟨⟨x_9,x_10⟩,e12,h⟩:=aE h
    refine Oc (ae (pj e12) C3 rfl rfl) (Oc om (Oc (ay rfl rfl) (Oc (ay rfl rfl) (Oc (aA (k:=104) dD rfl) (Oc (ag aW rfl rfl rfl rfl (Nat.le_of_ble_eq_true rfl) rfl) ?_)))))
    refine Oc oa (ad.aj ⟨[(2,_),(8,Pt 104 0),(9,I x_10)],[(101,_),(104,.box 31 (ap x_9))]⟩ rfl (ab.seq (ab.aa ?_)))
    obtain ⟨x_11,e13,h⟩:=aE h
    refine Oc (ae (fA e13) zb rfl rfl) (Oc om ?_)
    refine bU x_11 [] (fun g14=>trivial) (fun g14=>om) (bU x_11 [47] (fun g15=>by exact ⟨g15,trivial⟩) (fun g15=>cy rfl rfl) (bU x_11 [48] (fun g16=>by exact ⟨g16,trivial⟩) (fun g16=>om) (ad.ah ⟨[(2,_),(8,_),(9,_),(46,B x_11),(49,.dA x_11 (.one (.bool (decide (x_10 = 30)))))],[(101,_),(104,_)]⟩ rfl (ad.dy (x_11 && !(decide (x_10 = 30))) 99 [] (.under rfl) (eZ _ _) rfl rfl (fun g17=>by exact trivial) (fun g17=>om) (ad.dy (x_11 && !(decide (x_10 = 30))) 99 [50] (.under rfl) (eZ _ _) rfl rfl (fun g18=>by exact ⟨g18,trivial⟩) (fun g18=>cy rfl rfl) ?_)))))
    refine ad.dy (x_11 && !(decide (x_10 = 30))) 99 [51] (.under rfl) (eZ _ _) rfl rfl (fun g19=>⟨g19,trivial⟩) (fun g19=>om) (ad.dy ((x_11 && !(decide (x_10 = 30))) && (decide (x_10 = 0))) 99 [] (.under rfl) (gu _ _) rfl rfl (fun g20=>by exact trivial) (fun g20=>lp aW) (ad.dy ((x_11 && !(decide (x_10 = 30))) && (decide (x_10 = 0))) 99 [] (.under rfl) (gu _ _) rfl rfl (fun g21=>by exact trivial) (fun g21=>lp aW) (ad.dy ((x_11 && !(decide (x_10 = 30))) && (decide (x_10 = 0))) 99 [53,54] (.under rfl) (gu _ _) rfl rfl (fun g22=>by exact ⟨g22,g22,trivial⟩) (fun g22=>eH (tu x_9 a0) rfl rfl) (ad.dy (x_11 && !(decide (x_10 = 30))) 99 [52] (.under rfl) (eZ _ _) rfl rfl (fun g23=>by exact ⟨g23,trivial⟩) (fun g23=>aD (fun e=>by rw [g23,e]; rfl) rfl rfl rfl rfl) (bU x_11 [49] (fun g24=>by exact ⟨g24,trivial⟩) (fun g24=>aU (fun e=>by rw [g24,e]; rfl) rfl rfl rfl rfl) ?_)))))
    refine ad.iJ h rfl (aD (fun e=>e) rfl rfl rfl rfl) (fun x_12 h=>?_)
    refine Oc oa (ad.aj ⟨[(4,B x_12)],[]⟩ rfl (ab.ret ?_))
    obtain rfl:=Option.some.inj h
    refine Fin.ah ⟨[(4,_)],[]⟩ rfl (Fin.aq [.one (.bool x_12)] (.inl rfl) rfl (.cons (.tmp rfl) .nil) ⟨rfl,rfl⟩)
end Go.Proofs.YtcbbilehdaaffaaGreatDoor

