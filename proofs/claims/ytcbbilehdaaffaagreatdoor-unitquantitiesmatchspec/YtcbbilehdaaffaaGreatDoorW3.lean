/- printed walks -/
import Derived.Test.YtcbbilehdaaffaaGreatDoorW2
namespace Go.Proofs.YtcbbilehdaaffaaGreatDoor
open Go.Sk
set_option maxHeartbeats 1000000
set_option maxRecDepth 4000
set_option linter.unusedSimpArgs false
set_option linter.unusedVariables false
variable {mx : Int}
def ey (F:Nat) (a0:az) (n0:Int):Option ug :=
 (bu F a0).bind fun x_1=>if (!x_1) = true then (bN (⟨(⟨(⟨(⟨false,false,aU.zero⟩:br),(⟨false,false,aU.zero⟩:br)⟩:bz),(⟨0,0,0⟩:aO)⟩:az),1⟩:ug) fun x_2=>some x_2) else ((fD F a0.U n0).bind fun x_3=>if (decide (x_3.E ≠ 0)) = true then (bN (⟨(⟨(⟨(⟨false,false,aU.zero⟩:br),(⟨false,false,aU.zero⟩:br)⟩:bz),(⟨0,0,0⟩:aO)⟩:az),x_3.E⟩:ug) fun x_4=>some x_4) else ((bE (decide (n0 < 0)) (l6 F a0.V)).bind fun x_5=>if ((decide (n0 < 0)) && (decide (x_5 = 0))) = true then (bN (⟨(⟨(⟨(⟨false,false,aU.zero⟩:br),(⟨false,false,aU.zero⟩:br)⟩:bz),(⟨0,0,0⟩:aO)⟩:az),31⟩:ug) fun x_6=>some x_6) else ((kT F 1).bind fun x_7=>Option.bind (iter F (b9 fun v_9 i_10=>if (decide (i_10 < (max n0 (IntKind.i64.wrap (-n0))))) = true then ((lc F v_9 a0.V).bind fun x_12=>some (.inl (x_12,IntKind.i64.wrap (i_10 + 1)))) else (some (.inr v_9))) (x_7,0)) (fun v_8=>Option.bind (if (decide (n0 < 0)) = true then ((kT F 1).bind fun x_14=>(mn F x_14 v_8).bind fun x_15=>some x_15) else (some v_8)) (fun v_13=>(bL F v_13 x_3.U).bind fun x_16=>some x_16)))))
theorem nP {F:Nat} {a0:az} {n0:Int} {r:ug} (h:ey F a0 n0 = some r):aA Tryz.prog (bd mx) 47 [] [.agg (ao a0),.one (.i n0)] (Is [] (.b (.agg (dZ r)))):=by
 unfold ey at h
 refine aA.intro 55 Tryz.func47 Tryz.ntmps47 rfl (by simp) fun E=>?_
 show ab _ E ⟨55,[],[]⟩ _ ⟨[(0,.b (.agg (ao a0))),(1,I n0)],[]⟩ _
 refine ab.seq (ab.aa ?_)
 refine Oc (aL (k:=101) rfl rfl) (Oc (aB (k:=102) mj rfl) ?_)
 refine ae.an ⟨[(1,I n0),(2,Pt 101 0),(4,Pt 102 0)],[(101,.box 31 (ao a0)),(102,.box 69 (.bool false :: .bool false :: (eW aU.zero ++ (.bool false :: .bool false :: (eW aU.zero ++ ([.i 0,.i 0,.i 0,.i 0]))))))]⟩ rfl (ab.seq (ab.aa ?_))
 refine Oc (lp aJ) ?_
 obtain ⟨x_1,e1,h⟩:=aD h
 refine Oc (ad (bM e1) nK rfl rfl) (Oc oa ?_)
 refine ae.an ⟨[(1,_),(2,_),(4,_),(5,B x_1)],[(101,_),(102,_)]⟩ rfl (ab.seq (ab.seq (ab.aa ?_)))
 refine Oc om (Oc (aT rfl) ?_)
 refine ae.an ⟨[(1,_),(2,_),(4,_),(12,B (!x_1))],[(101,_),(102,_)]⟩ rfl (ab.ite h rfl (fun _ h=>?_) (fun _ h=>?_))
 ·refine ab.seq (ab.aa ?_)
  refine ae.dO dZ h rfl (aS fV rfl rfl) (fun x_2 h=>?_)
  refine Oc (ah cf rfl rfl rfl rfl (Nat.le_of_ble_eq_true rfl) rfl) (ae.an ⟨[(4,_)],[(102,.box 69 (dZ x_2))]⟩ rfl (ab.ret (Fin.aw ?_)))
  obtain rfl:=Option.some.inj h
  refine Fin.ag ⟨[(4,_)],[(102,_)]⟩ rfl (Fin.aq [.agg (dZ x_2)] (.inl rfl) rfl (.cons (.agg cf rfl rfl rfl rfl) .nil) ⟨rfl,rfl⟩)
 ·refine ab.skip (Fin.ag ⟨[(1,_),(2,_),(4,_)],[(101,_),(102,_)]⟩ rfl (Fin.then (ab.seq (ab.aa ?_))))
  refine Oc (af cy rfl rfl) (Oc (lp aY) (Oc om ?_))
  obtain ⟨x_3,e2,h⟩:=aD h
  refine Oc (ad (pA e2) goes31 rfl rfl) (Oc (aB (k:=103) ml rfl) (Oc (ah fJ rfl rfl rfl rfl (Nat.le_of_ble_eq_true rfl) rfl) ?_))
  refine ae.an ⟨[(1,_),(2,_),(4,_),(6,Pt 103 0)],[(101,_),(102,_),(103,.box 57 (lI x_3))]⟩ rfl (ab.seq (ab.seq (ab.aa ?_)))
  refine Oc (af l4 rfl rfl) (Oc (au j9 rfl rfl rfl) (Oc (di rfl rfl) ?_))
  refine ae.an ⟨[(1,_),(2,_),(4,_),(6,_),(20,B (decide (x_3.E ≠ 0)))],[(101,_),(102,_),(103,_)]⟩ rfl (ab.ite h rfl (fun _ h=>?_) (fun _ h=>?_))
  ·refine ab.seq (ab.aa ?_)
   refine Oc (af l4 rfl rfl) (Oc (au j9 rfl rfl rfl) ?_)
   refine ae.dO dZ h rfl (aS fV rfl rfl) (fun x_4 h=>?_)
   refine Oc (ah cf rfl rfl rfl rfl (Nat.le_of_ble_eq_true rfl) rfl) (ae.an ⟨[(4,_)],[(102,.box 69 (dZ x_4))]⟩ rfl (ab.ret (Fin.aw ?_)))
   obtain rfl:=Option.some.inj h
   refine Fin.ag ⟨[(4,_)],[(102,_)]⟩ rfl (Fin.aq [.agg (dZ x_4)] (.inl rfl) rfl (.cons (.agg cf rfl rfl rfl rfl) .nil) ⟨rfl,rfl⟩)
  ·refine ab.skip (Fin.ag ⟨[(1,_),(2,_),(4,_),(6,_)],[(101,_),(102,_),(103,_)]⟩ rfl (Fin.then (ab.seq (ab.seq (ab.aa ?_)))))
   refine Oc om (Oc (bP rfl rfl) (Oc om ?_))
   refine cG (decide (n0 < 0)) [] (fun g3=>trivial) (fun g3=>af bU rfl rfl) (cG (decide (n0 < 0)) [27] (fun g4=>⟨g4,trivial⟩) (fun g4=>lp aC) (ae.ag ⟨[(1,_),(2,_),(4,_),(6,_),(26,B (decide (n0 < 0))),(28,.dh (decide (n0 < 0)) (.agg (aE a0.V)))],[(101,_),(102,_),(103,_)]⟩ rfl ?_))
   obtain ⟨x_5,e6,h⟩:=aD h
   refine cG (decide (n0 < 0)) [28] (fun g5=>⟨g5,trivial⟩) (fun g5=>ad (tk (gc e6 g5)) DU rfl rfl) (cG (decide (n0 < 0)) [29] (fun g7=>⟨g7,trivial⟩) (fun g7=>cR rfl rfl) (Oc (aG (fun e=>e) rfl rfl rfl rfl) (ae.an ⟨[(1,_),(2,_),(4,_),(6,_),(31,B ((decide (n0 < 0)) && (decide (x_5 = 0))))],[(101,_),(102,_),(103,_)]⟩ rfl (ab.ite h rfl (fun _ h=>?_) (fun _ h=>?_)))))
   ·refine ab.seq (ab.aa ?_)
    refine ae.dO dZ h rfl (aS fV rfl rfl) (fun x_6 h=>?_)
    refine Oc (ah cf rfl rfl rfl rfl (Nat.le_of_ble_eq_true rfl) rfl) (ae.an ⟨[(4,_)],[(102,.box 69 (dZ x_6))]⟩ rfl (ab.ret (Fin.aw ?_)))
    obtain rfl:=Option.some.inj h
    refine Fin.ag ⟨[(4,_)],[(102,_)]⟩ rfl (Fin.aq [.agg (dZ x_6)] (.inl rfl) rfl (.cons (.agg cf rfl rfl rfl rfl) .nil) ⟨rfl,rfl⟩)
   ·refine ab.skip (Fin.ag ⟨[(1,_),(2,_),(4,_),(6,_)],[(101,_),(102,_),(103,_)]⟩ rfl (Fin.then (ab.seq (ab.aa ?_))))
    obtain ⟨x_7,e8,h⟩:=aD h
    refine Oc (ad (so e8) Ay rfl rfl) (Oc (aB (k:=104) bQ rfl) (Oc (ah aC rfl rfl rfl rfl (Nat.le_of_ble_eq_true rfl) rfl) ?_))
    refine ae.an ⟨[(1,_),(2,_),(4,_),(6,_),(7,Pt 104 0)],[(101,_),(102,_),(103,_),(104,.box 27 (aE x_7))]⟩ rfl ?_
    obtain ⟨v9,h10,h⟩:=aD h
    refine ab.cB (v:=v9) (fun (v_8:bz)=>⟨[(1,I n0),(4,Pt 102 0),(6,Pt 103 0),(7,Pt 104 0)],[(102,.box 69 (.bool false :: .bool false :: (eW aU.zero ++ (.bool false :: .bool false :: (eW aU.zero ++ ([.i 0,.i 0,.i 0,.i 0])))))),(103,.box 57 (lI x_3)),(104,.box 27 (aE v_8))]⟩) (fun z=>z) ?_ ?_
    ·refine ab.seq (ab.aa ?_)
     refine Oc oa (ae.an ⟨[(1,_),(2,_),(4,_),(6,_),(7,_),(8,I 0)],[(101,_),(102,_),(103,_),(104,_)]⟩ rfl (ab.block (ab.cW h10 (b9 fun (v_9:bz) (i_10:Int)=>⟨[(1,I n0),(2,Pt 101 0),(4,Pt 102 0),(6,Pt 103 0),(7,Pt 104 0),(8,I i_10)],[(101,.box 31 (ao a0)),(102,.box 69 (.bool false :: .bool false :: (eW aU.zero ++ (.bool false :: .bool false :: (eW aU.zero ++ ([.i 0,.i 0,.i 0,.i 0])))))),(103,.box 57 (lI x_3)),(104,.box 27 (aE v_9))]⟩) [1,2,4,6,7,8] [101,102,103,104] rfl ?_)))
     rintro ⟨v_9,i_10⟩ o11 h12 hy13
     refine ab.seq (ab.seq (ab.aa ?_))
     refine Oc om (Oc om (Oc om (Oc (lz rfl) (Oc (tG rfl rfl) (Oc (bP rfl rfl) ?_)))))
     refine ae.an ⟨[(1,_),(2,_),(4,_),(6,_),(7,_),(8,_),(39,B (decide (i_10 < (max n0 (IntKind.i64.wrap (-n0))))))],[(101,_),(102,_),(103,_),(104,_)]⟩ rfl (ab.ite h12 rfl (fun _ h12=>?_) (fun _ h12=>?_))
     ·refine ab.skip (Fin.ag ⟨[(1,_),(2,_),(4,_),(6,_),(7,_),(8,_)],[(101,_),(102,_),(103,_),(104,_)]⟩ rfl (Fin.then (ab.seq (ab.block (ab.aa ?_)))))
      refine Oc (lp aC) (Oc (af bU rfl rfl) (Oc (lp aC) ?_))
      obtain ⟨x_12,e14,h12⟩:=aD h12
      refine Oc (ad (qD e14) Ar rfl rfl) (Oc (ah aC rfl rfl rfl rfl (Nat.le_of_ble_eq_true rfl) rfl) ?_)
      refine ae.nil (Fin.aI (Fin.ag ⟨[(1,_),(2,_),(4,_),(6,_),(7,_),(8,_)],[(101,_),(102,_),(103,_),(104,.box 27 (aE x_12))]⟩ rfl (Fin.then (ab.aa ?_))))
      refine Oc om (Oc (bg rfl rfl) (Oc oa ?_))
      refine ae.nil ?_
      exact Fin.b6 [1,2,4,6,7,8] [101,102,103,104] (x_12,IntKind.i64.wrap (i_10 + 1)) (Option.some.inj h12) rfl
     ·refine ab.exit (Fin.aF ?_)
      obtain rfl:=hy13 _ (Option.some.inj h12).symm
      refine Fin.aF (Fin.aX ?_)
      exact Fin.join [1,4,6,7] [102,103,104] v_9 rfl rfl
    ·rintro v_8 hv
     subst v9
     obtain ⟨v15,h16,h⟩:=aD h
     refine ab.cB (v:=v15) (fun (v_13:bz)=>⟨[(4,Pt 102 0),(6,Pt 103 0),(7,Pt 104 0)],[(102,.box 69 (.bool false :: .bool false :: (eW aU.zero ++ (.bool false :: .bool false :: (eW aU.zero ++ ([.i 0,.i 0,.i 0,.i 0])))))),(103,.box 57 (lI x_3)),(104,.box 27 (aE v_13))]⟩) (fun z=>z) ?_ ?_
     ·refine ab.seq (ab.aa ?_)
      refine Oc om (Oc (bP rfl rfl) ?_)
      refine ae.an ⟨[(4,_),(6,_),(7,_),(47,B (decide (n0 < 0)))],[(102,_),(103,_),(104,_)]⟩ rfl (ab.ite h16 rfl (fun _ h16=>?_) (fun _ h16=>?_))
      ·refine ab.ag ⟨[(4,_),(6,_),(7,_)],[(102,_),(103,_),(104,_)]⟩ rfl ?_
       obtain ⟨x_14,e17,h16⟩:=aD h16
       obtain ⟨x_15,e18,h16⟩:=aD h16
       refine ab.hS mixed 3 [.b (.agg (aE x_14)),.b (.agg (aE v_8)),.b (.agg (aE x_15))] [4,6,7] [102,103,104] (s':=⟨[(4,_),(6,_),(7,_)],[(102,_),(103,_),(104,.box 27 (aE x_15))]⟩) rfl ⟨fun _=>.p (ad (so e17) Ay rfl rfl),fun _=>.p (lp aC),fun _=>.p (ad (uq e18) D3 rfl rfl),trivial⟩ ⟨_,by exact .p (ah aC rfl rfl rfl rfl (Nat.le_of_ble_eq_true rfl) rfl),rfl⟩ rfl ?_
       exact Fin.join [4,6,7] [102,103,104] x_15 (Option.some.inj h16) rfl
      ·refine ab.skip ?_
       exact Fin.join [4,6,7] [102,103,104] v_8 (Option.some.inj h16) rfl
     ·rintro v_13 hv
      subst v15
      refine ab.seq (ab.aa ?_)
      refine Oc (lp aC) (Oc (af tQ rfl rfl) (Oc (lp aY) ?_))
      obtain ⟨x_16,e19,h⟩:=aD h
      refine Oc (ad (c9 e19) vG rfl rfl) (Oc (ah cf rfl rfl rfl rfl (Nat.le_of_ble_eq_true rfl) rfl) ?_)
      refine ae.an ⟨[(4,_)],[(102,.box 69 (dZ x_16))]⟩ rfl (ab.ret ?_)
      obtain rfl:=Option.some.inj h
      refine Fin.ag ⟨[(4,_)],[(102,_)]⟩ rfl (Fin.aq [.agg (dZ x_16)] (.inl rfl) rfl (.cons (.agg cf rfl rfl rfl rfl) .nil) ⟨rfl,rfl⟩)
def qW (F:Nat) (a0:br) (b0:br):Option Int :=
 (ek F [a0]).bind fun x_1=>(ek F [b0]).bind fun x_2=>if ((!x_1) && (!x_2)) = true then (some 0) else (if (!x_1) = true then (some (-1)) else (if (!x_2) = true then (some 1) else (if (a0.Neg != b0.Neg) = true then (if a0.Neg = true then (some (-1)) else (some 1)) else (if a0.Neg = true then ((jJ F b0.W a0.W).bind fun x_3=>some x_3) else ((jJ F a0.W b0.W).bind fun x_4=>some x_4)))))
theorem AM {F:Nat} {a0:br} {b0:br} {r:Int} (h:qW F a0 b0 = some r):aA Tryz.prog (bd mx) 145 [] [.agg (ar a0),.agg (ar b0)] (Is [] (.b (.one (.i r)))):=by
 unfold qW at h
 refine aA.intro 47 Tryz.func145 Tryz.ntmps145 rfl (by simp) fun E=>?_
 show ab _ E ⟨47,[],[]⟩ _ ⟨[(0,.b (.agg (ar a0))),(1,.b (.agg (ar b0)))],[]⟩ _
 refine ab.seq (ab.aa ?_)
 refine Oc (aL (k:=101) rfl rfl) (Oc (aL (k:=102) rfl rfl) (Oc oa ?_))
 refine ae.an ⟨[(2,Pt 101 0),(3,Pt 102 0)],[(101,.box 25 (ar a0)),(102,.box 25 (ar b0))]⟩ rfl (ab.seq ?_)
 obtain ⟨x_1,e1,h⟩:=aD h
 obtain ⟨x_2,e2,h⟩:=aD h
 refine ab.bm mixed 8 [.b (.agg (ar a0)),.b (.one (.sl 18 ([a0].map ar))),B x_1,.b (.agg (ar b0)),.b (.one (.sl 18 ([b0].map ar))),B x_2,B x_1,B x_2] [2,3,5,6] [101,102] (s':=⟨[(2,_),(3,_),(5,B x_1),(6,B x_2)],[(101,_),(102,_)]⟩) rfl ⟨fun _=>.p (lp aj),fun _=>.p (mL (es:=[a0].map ar) iR rfl rfl (cE fun _=>rfl) rfl (by decide) (by decide)),fun _=>.p (ad (ef e1) jv rfl rfl),fun _=>.p (lp aj),fun _=>.p (mL (es:=[b0].map ar) iR rfl rfl (cE fun _=>rfl) rfl (by decide) (by decide)),fun _=>.p (ad (ef e2) jv rfl rfl),fun _=>.p oa,fun _=>.p oa,trivial⟩ rfl rfl (ab.seq (ab.block (ab.seq (ab.aa ?_))))
 refine Oc om (Oc (aT rfl) (Oc om ?_))
 refine cG (!x_1) [] (fun g3=>trivial) (fun g3=>om) (cG (!x_1) [17] (fun g4=>by exact ⟨g4,trivial⟩) (fun g4=>aT rfl) (Oc (aG (fun e=>e) rfl rfl rfl rfl) (Oc oa ?_)))
 refine ae.an ⟨[(2,_),(3,_),(5,_),(6,_),(13,B ((!x_1) && (!x_2)))],[(101,_),(102,_)]⟩ rfl (ab.ite h rfl (fun _ h=>?_) (fun _ h=>?_))
 ·refine ab.seq (ab.aa ?_)
  refine Oc oa (ae.an ⟨[(4,I 0)],[]⟩ rfl (ab.ret (Fin.bb (Fin.aw ?_))))
  obtain rfl:=Option.some.inj h
  refine Fin.ag ⟨[(4,_)],[]⟩ rfl (Fin.aq [.one (.i 0)] (.inl rfl) rfl (.cons (.tmp rfl) .nil) ⟨rfl,rfl⟩)
 ·refine ab.seq (ab.aa ?_)
  refine Oc om (Oc (aT rfl) (Oc oa ?_))
  refine ae.an ⟨[(2,_),(3,_),(6,_),(20,B (!x_1))],[(101,_),(102,_)]⟩ rfl (ab.ite h rfl (fun _ h=>?_) (fun _ h=>?_))
  ·refine ab.seq (ab.aa ?_)
   refine Oc oa (ae.an ⟨[(4,I (-1))],[]⟩ rfl (ab.ret (Fin.bb (Fin.aw ?_))))
   obtain rfl:=Option.some.inj h
   refine Fin.ag ⟨[(4,_)],[]⟩ rfl (Fin.aq [.one (.i (-1))] (.inl rfl) rfl (.cons (.tmp rfl) .nil) ⟨rfl,rfl⟩)
  ·refine ab.seq (ab.aa ?_)
   refine Oc om (Oc (aT rfl) (Oc oa ?_))
   refine ae.an ⟨[(2,_),(3,_),(23,B (!x_2))],[(101,_),(102,_)]⟩ rfl (ab.ite h rfl (fun _ h=>?_) (fun _ h=>?_))
   ·refine ab.seq (ab.aa ?_)
    refine Oc oa (ae.an ⟨[(4,I 1)],[]⟩ rfl (ab.ret (Fin.bb (Fin.aw ?_))))
    obtain rfl:=Option.some.inj h
    refine Fin.ag ⟨[(4,_)],[]⟩ rfl (Fin.aq [.one (.i 1)] (.inl rfl) rfl (.cons (.tmp rfl) .nil) ⟨rfl,rfl⟩)
   ·refine ab.seq (ab.aa ?_)
    refine Oc (af bj rfl rfl) (Oc (au bS rfl rfl rfl) (Oc (af bj rfl rfl) (Oc (au bS rfl rfl rfl) (Oc (eT sC rfl rfl) (Oc oa ?_)))))
    refine ae.an ⟨[(2,_),(3,_),(26,B (a0.Neg != b0.Neg))],[(101,_),(102,_)]⟩ rfl (ab.ite h rfl (fun _ h=>?_) (fun _ h=>?_))
    ·refine ab.seq (ab.seq (ab.aa ?_))
     refine Oc (af bj rfl rfl) (Oc (au bS rfl rfl rfl) ?_)
     refine ae.an ⟨[(33,B a0.Neg)],[]⟩ rfl (ab.ite h rfl (fun _ h=>?_) (fun _ h=>?_))
     ·refine ab.seq (ab.aa ?_)
      refine Oc oa (ae.an ⟨[(4,I (-1))],[]⟩ rfl (ab.ret (Fin.aw (Fin.bb (Fin.aw ?_)))))
      obtain rfl:=Option.some.inj h
      refine Fin.ag ⟨[(4,_)],[]⟩ rfl (Fin.aq [.one (.i (-1))] (.inl rfl) rfl (.cons (.tmp rfl) .nil) ⟨rfl,rfl⟩)
     ·refine ab.skip (Fin.ag ⟨[],[]⟩ rfl (Fin.then (ab.seq (ab.aa ?_))))
      refine Oc oa (ae.an ⟨[(4,I 1)],[]⟩ rfl (ab.ret (Fin.bb (Fin.aw ?_))))
      obtain rfl:=Option.some.inj h
      refine Fin.ag ⟨[(4,_)],[]⟩ rfl (Fin.aq [.one (.i 1)] (.inl rfl) rfl (.cons (.tmp rfl) .nil) ⟨rfl,rfl⟩)
    ·refine ab.seq (ab.aa ?_)
     refine Oc (af bj rfl rfl) (Oc (au bS rfl rfl rfl) (Oc oa ?_))
     refine ae.an ⟨[(2,_),(3,_),(34,B a0.Neg)],[(101,_),(102,_)]⟩ rfl (ab.ite h rfl (fun _ h=>?_) (fun _ h=>?_))
     ·refine ab.seq (ab.aa ?_)
      refine Oc (af aZ rfl rfl) (Oc (lp aN) (Oc (af aZ rfl rfl) (Oc (lp aN) ?_)))
      obtain ⟨x_3,e5,h⟩:=aD h
      refine Oc (ad (lR e5) vc rfl rfl) (Oc oa ?_)
      refine ae.an ⟨[(4,I x_3)],[]⟩ rfl (ab.ret (Fin.bb (Fin.aw ?_)))
      obtain rfl:=Option.some.inj h
      refine Fin.ag ⟨[(4,_)],[]⟩ rfl (Fin.aq [.one (.i x_3)] (.inl rfl) rfl (.cons (.tmp rfl) .nil) ⟨rfl,rfl⟩)
     ·refine ab.skip (Fin.aI (Fin.ag ⟨[(2,_),(3,_)],[(101,_),(102,_)]⟩ rfl (Fin.then (ab.seq (ab.aa ?_)))))
      refine Oc (af aZ rfl rfl) (Oc (lp aN) (Oc (af aZ rfl rfl) (Oc (lp aN) ?_)))
      obtain ⟨x_4,e6,h⟩:=aD h
      refine Oc (ad (lR e6) vc rfl rfl) (Oc oa ?_)
      refine ae.an ⟨[(4,I x_4)],[]⟩ rfl (ab.ret ?_)
      obtain rfl:=Option.some.inj h
      refine Fin.ag ⟨[(4,_)],[]⟩ rfl (Fin.aq [.one (.i x_4)] (.inl rfl) rfl (.cons (.tmp rfl) .nil) ⟨rfl,rfl⟩)
def ox (F:Nat) (a0:br) (b0:br):Option br :=
 Option.bind (jQ F a0 b0) (b9 fun x_1 x_2=>some x_2)
theorem wv {F:Nat} {a0:br} {b0:br} {r:br} (h:ox F a0 b0 = some r):aA Tryz.prog (bd mx) 146 [] [.agg (ar a0),.agg (ar b0)] (Is [] (.b (.agg (ar r)))):=by
 unfold ox at h
 refine aA.intro 14 Tryz.func146 Tryz.ntmps146 rfl (by simp) fun E=>?_
 show ab _ E ⟨14,[],[]⟩ _ ⟨[(0,.b (.agg (ar a0))),(1,.b (.agg (ar b0)))],[]⟩ _
 refine ab.seq (ab.aa ?_)
 refine Oc (aL (k:=101) rfl rfl) (Oc (aL (k:=102) rfl rfl) (Oc (aB (k:=103) bn rfl) ?_))
 refine ae.an ⟨[(2,Pt 101 0),(3,Pt 102 0),(4,Pt 103 0)],[(101,.box 25 (ar a0)),(102,.box 25 (ar b0)),(103,.box 25 cU)]⟩ rfl (ab.seq (ab.aa ?_))
 refine Oc (lp aj) (Oc (lp aj) ?_)
 obtain ⟨⟨x_1,x_2⟩,e1,h⟩:=aD h
 refine Oc (ad (qO e1) B8 rfl rfl) (Oc om (Oc (ay rfl rfl) ?_))
 refine ae.ag ⟨[(4,_),(7,.eY [.agg (ar x_1),.agg (ar x_2)]),(11,.b (.agg (ar x_1)))],[(103,_)]⟩ rfl (Oc (ay rfl rfl) (Oc (aB (k:=104) bn rfl) (Oc (aB (k:=105) bn rfl) (Oc (ah aj rfl rfl rfl rfl (Nat.le_of_ble_eq_true rfl) rfl) (Oc (ah aj rfl rfl rfl rfl (Nat.le_of_ble_eq_true rfl) rfl) ?_)))))
 refine ae.an ⟨[(4,_),(6,Pt 105 0)],[(103,_),(105,.box 25 (ar x_2))]⟩ rfl (ab.seq (ab.aa ?_))
 refine Oc (lp aj) (Oc (ah aj rfl rfl rfl rfl (Nat.le_of_ble_eq_true rfl) rfl) ?_)
 refine ae.an ⟨[(4,_)],[(103,.box 25 (ar x_2))]⟩ rfl (ab.ret ?_)
 obtain rfl:=Option.some.inj h
 refine Fin.ag ⟨[(4,_)],[(103,_)]⟩ rfl (Fin.aq [.agg (ar x_2)] (.inl rfl) rfl (.cons (.agg aj rfl rfl rfl rfl) .nil) ⟨rfl,rfl⟩)
def sM (F:Nat) (x0:bz) (y0:bz):Option Int :=
 (dx F x0).bind fun x_1=>(dx F y0).bind fun x_2=>if ((!x_1) && (!x_2)) = true then (some 0) else (if (!x_1) = true then (some (-1)) else (if (!x_2) = true then (some 1) else (Option.bind (iter F (ky fun x_4 y_5 out_6=>(j7 F x_4.N x_4.D).bind fun x_8=>(j7 F y_5.N y_5.D).bind fun x_9=>(qW F x_8 x_9).bind fun x_10=>if (decide (x_10 ≠ 0)) = true then (some (.inr (IntKind.i64.wrap (out_6 * x_10)))) else ((ox F x_4.N x_4.D).bind fun x_11=>(ox F y_5.N y_5.D).bind fun x_12=>(gD F x_11).bind fun x_13=>(gD F x_12).bind fun x_14=>if ((decide (x_13 = 0)) || (decide (x_14 = 0))) = true then (bN (IntKind.i64.wrap (out_6 * (IntKind.i64.wrap (x_13 - x_14)))) fun x_15=>some (.inr x_15)) else (some (.inl ((⟨x_4.D,x_11⟩:bz),(⟨y_5.D,x_12⟩:bz),IntKind.i64.wrap (-out_6)))))) (x0,y0,1)) (fun out_3=>some out_3))))
theorem AZ {F:Nat} {x0:bz} {y0:bz} {r:Int} (h:sM F x0 y0 = some r):aA Tryz.prog (bd mx) 89 [] [.agg (aE x0),.agg (aE y0)] (Is [] (.b (.one (.i r)))):=by
 unfold sM at h
 refine aA.intro 80 Tryz.func89 Tryz.ntmps89 rfl (by simp) fun E=>?_
 show ab _ E ⟨80,[],[]⟩ _ ⟨[(0,.b (.agg (aE x0))),(1,.b (.agg (aE y0)))],[]⟩ _
 refine ab.seq (ab.aa ?_)
 refine Oc (aL (k:=101) rfl rfl) (Oc (aL (k:=102) rfl rfl) (Oc oa ?_))
 refine ae.an ⟨[(2,Pt 101 0),(3,Pt 102 0)],[(101,.box 27 (aE x0)),(102,.box 27 (aE y0))]⟩ rfl (ab.scope (ab.seq ?_))
 obtain ⟨x_1,e1,h⟩:=aD h
 obtain ⟨x_2,e2,h⟩:=aD h
 refine ab.bm mixed 6 [.b (.agg (aE x0)),B x_1,.b (.agg (aE y0)),B x_2,B x_1,B x_2] [2,3,5,6] [101,102] (s':=⟨[(2,_),(3,_),(5,B x_1),(6,B x_2)],[(101,_),(102,_)]⟩) rfl ⟨fun _=>.p (lp aC),fun _=>.p (ad (dp e1) j3 rfl rfl),fun _=>.p (lp aC),fun _=>.p (ad (dp e2) j3 rfl rfl),fun _=>.p oa,fun _=>.p oa,trivial⟩ rfl rfl (ab.seq (ab.block (ab.seq (ab.aa ?_))))
 refine Oc om (Oc (aT rfl) (Oc om ?_))
 refine cG (!x_1) [] (fun g3=>trivial) (fun g3=>om) (cG (!x_1) [19] (fun g4=>by exact ⟨g4,trivial⟩) (fun g4=>aT rfl) (Oc (aG (fun e=>e) rfl rfl rfl rfl) (Oc oa ?_)))
 refine ae.an ⟨[(2,_),(3,_),(5,_),(6,_),(15,B ((!x_1) && (!x_2)))],[(101,_),(102,_)]⟩ rfl (ab.ite h rfl (fun _ h=>?_) (fun _ h=>?_))
 ·refine ab.seq (ab.aa ?_)
  refine Oc oa (ae.an ⟨[(4,I 0)],[]⟩ rfl (ab.ret (Fin.bb (Fin.aw (Fin.ry ?_)))))
  obtain rfl:=Option.some.inj h
  refine Fin.ag ⟨[(4,_)],[]⟩ rfl (Fin.aq [.one (.i 0)] (.inl rfl) rfl (.cons (.tmp rfl) .nil) ⟨rfl,rfl⟩)
 ·refine ab.seq (ab.aa ?_)
  refine Oc om (Oc (aT rfl) (Oc oa ?_))
  refine ae.an ⟨[(2,_),(3,_),(6,_),(22,B (!x_1))],[(101,_),(102,_)]⟩ rfl (ab.ite h rfl (fun _ h=>?_) (fun _ h=>?_))
  ·refine ab.seq (ab.aa ?_)
   refine Oc oa (ae.an ⟨[(4,I (-1))],[]⟩ rfl (ab.ret (Fin.bb (Fin.aw (Fin.ry ?_)))))
   obtain rfl:=Option.some.inj h
   refine Fin.ag ⟨[(4,_)],[]⟩ rfl (Fin.aq [.one (.i (-1))] (.inl rfl) rfl (.cons (.tmp rfl) .nil) ⟨rfl,rfl⟩)
  ·refine ab.seq (ab.aa ?_)
   refine Oc om (Oc (aT rfl) (Oc oa ?_))
   refine ae.an ⟨[(2,_),(3,_),(25,B (!x_2))],[(101,_),(102,_)]⟩ rfl (ab.ite h rfl (fun _ h=>?_) (fun _ h=>?_))
   ·refine ab.seq (ab.aa ?_)
    refine Oc oa (ae.an ⟨[(4,I 1)],[]⟩ rfl (ab.ret (Fin.bb (Fin.aw (Fin.ry ?_)))))
    obtain rfl:=Option.some.inj h
    refine Fin.ag ⟨[(4,_)],[]⟩ rfl (Fin.aq [.one (.i 1)] (.inl rfl) rfl (.cons (.tmp rfl) .nil) ⟨rfl,rfl⟩)
   ·refine ab.skip (Fin.aI (Fin.ag ⟨[(2,_),(3,_)],[(101,_),(102,_)]⟩ rfl (Fin.then (ab.seq (ab.aa ?_)))))
    refine Oc oa (ae.an ⟨[(2,_),(3,_),(7,I 1)],[(101,_),(102,_)]⟩ rfl (ab.seq (ab.label (Fin.then ?_))))
    obtain ⟨v5,h6,h⟩:=aD h
    refine ab.cB (v:=v5) (fun (out_3:Int)=>⟨[(7,I out_3)],[]⟩) (fun z=>z) ?_ ?_
    ·refine ab.block (ab.cW h6 (ky fun (x_4:bz) (y_5:bz) (out_6:Int)=>⟨[(2,Pt 101 0),(3,Pt 102 0),(7,I out_6)],[(101,.box 27 (aE x_4)),(102,.box 27 (aE y_5))]⟩) [2,3,7] [101,102] rfl ?_)
     rintro ⟨x_4,y_5,out_6⟩ o7 h8 hy9
     refine ab.block (ab.seq (ab.seq ?_))
     refine ab.ag ⟨[(2,_),(3,_),(7,_)],[(101,_),(102,_)]⟩ rfl ?_
     obtain ⟨x_8,e10,h8⟩:=aD h8
     obtain ⟨x_9,e11,h8⟩:=aD h8
     obtain ⟨x_10,e12,h8⟩:=aD h8
     refine ab.bm mixed 12 [Pt 101 0,.b (.agg (ar x_4.N)),Pt 101 18,.b (.agg (ar x_4.D)),.b (.agg (ar x_8)),Pt 102 0,.b (.agg (ar y_5.N)),Pt 102 18,.b (.agg (ar y_5.D)),.b (.agg (ar x_9)),I x_10,I x_10] [2,3,7,8] [101,102] (s':=⟨[(2,_),(3,_),(7,_),(8,I x_10)],[(101,_),(102,_)]⟩) rfl ⟨fun _=>.p (af bq rfl rfl),fun _=>.p (lp aj),fun _=>.p (af aV rfl rfl),fun _=>.p (lp aj),fun _=>.p (ad (fk e10) lD rfl rfl),fun _=>.p (af bq rfl rfl),fun _=>.p (lp aj),fun _=>.p (af aV rfl rfl),fun _=>.p (lp aj),fun _=>.p (ad (fk e11) lD rfl rfl),fun _=>.p (ad (AM e12) goes145 rfl rfl),fun _=>.p oa,trivial⟩ rfl rfl (ab.seq (ab.aa ?_))
     refine Oc om (Oc (di rfl rfl) ?_)
     refine ae.an ⟨[(2,_),(3,_),(7,_),(8,_),(40,B (decide (x_10 ≠ 0)))],[(101,_),(102,_)]⟩ rfl (ab.ite h8 rfl (fun _ h8=>?_) (fun _ h8=>?_))
     ·refine ab.seq (ab.aa ?_)
      refine Oc om (Oc om (Oc (eP rfl rfl) (Oc oa ?_)))
      refine ae.an ⟨[(7,I (IntKind.i64.wrap (out_6 * x_10)))],[]⟩ rfl (ab.exit (Fin.aF (Fin.kN (by decide) ?_)))
      obtain rfl:=hy9 _ (Option.some.inj h8).symm
      refine Fin.aF (Fin.aX ?_)
      exact Fin.join [7] [] (IntKind.i64.wrap (out_6 * x_10)) rfl rfl
     ·refine ab.skip (Fin.ag ⟨[(2,_),(3,_),(7,_)],[(101,_),(102,_)]⟩ rfl (Fin.then (ab.seq ?_)))
      refine ab.ag ⟨[(2,_),(3,_),(7,_)],[(101,_),(102,_)]⟩ rfl ?_
      obtain ⟨x_11,e13,h8⟩:=aD h8
      obtain ⟨x_12,e14,h8⟩:=aD h8
      refine ab.oE mixed [false,false,false,false,false,false,false,false,false,false,false,false,false,false,false,false,true,true] [Pt 101 18,.b (.agg (ar x_4.D)),Pt 101 0,.b (.agg (ar x_4.N)),Pt 101 18,.b (.agg (ar x_4.D)),.b (.agg (ar x_11)),.b (.agg (ar x_4.D ++ (ar x_11))),Pt 102 18,.b (.agg (ar y_5.D)),Pt 102 0,.b (.agg (ar y_5.N)),Pt 102 18,.b (.agg (ar y_5.D)),.b (.agg (ar x_12)),.b (.agg (ar y_5.D ++ (ar x_12))),B true,B true] [⟨[false,false,false,false,false,false,false,false,false,false,false,false,false,false,false,false,false,false],[(2,Pt 101 0),(3,Pt 102 0),(7,I out_6)],[(101,.box 27 (aE x_4)),(102,.box 27 (aE y_5))],[true,true,true,true,true,true,true,true,true,true,true,true,true,true,true,true,true,true],[]⟩,⟨[false,false,false,false,false,false,false,false,false,false,false,false,false,false,false,false,true,false],[(2,Pt 101 0),(3,Pt 102 0),(7,I out_6)],[(101,.box 27 (ar x_4.D ++ (ar x_11))),(102,.box 27 (aE y_5))],[true,true,true,true,true,true,true,true,true,true,true,true,true,true,true,true,true,true],[0,1,2,3,4,5,6,7,10,11,12,13,14,16]⟩,⟨[false,false,false,false,false,false,false,false,false,false,false,false,false,false,false,false,true,true],[(2,Pt 101 0),(3,Pt 102 0),(7,I out_6)],[(101,.box 27 (ar x_4.D ++ (ar x_11))),(102,.box 27 (ar y_5.D ++ (ar x_12)))],[true,true,true,true,true,true,true,true,true,true,true,true,true,true,true,true,true,true],[0,1,2,3,4,5,6,7,8,9,10,11,12,13,14,15,16,17]⟩] rfl (⟨by kernel_rfl,⟨⟨Pt 101 18,fun _=>rfl,fun _=>.p (by exact af aV rfl rfl)⟩,⟨.b (.agg (ar x_4.D)),fun _=>rfl,fun _=>.p (by exact aR aj rfl rfl rfl rfl)⟩,⟨Pt 101 0,fun _=>rfl,fun _=>.p (by exact af bq rfl rfl)⟩,⟨.b (.agg (ar x_4.N)),fun _=>rfl,fun _=>.p (by exact aR aj rfl rfl rfl rfl)⟩,⟨Pt 101 18,fun _=>rfl,fun _=>.p (by exact af aV rfl rfl)⟩,⟨.b (.agg (ar x_4.D)),fun _=>rfl,fun _=>.p (by exact aR aj rfl rfl rfl rfl)⟩,⟨.b (.agg (ar x_11)),fun _=>rfl,fun _=>.p (by exact ad (wv e13) B7 rfl rfl)⟩,⟨.b (.agg (ar x_4.D ++ (ar x_11))),fun _=>rfl,fun _=>.p (by exact aS dW rfl rfl)⟩,⟨Pt 102 18,fun _=>rfl,fun _=>.p (by exact af aV rfl rfl)⟩,⟨.b (.agg (ar y_5.D)),fun _=>rfl,fun _=>.p (by exact aR aj rfl rfl rfl rfl)⟩,⟨Pt 102 0,fun _=>rfl,fun _=>.p (by exact af bq rfl rfl)⟩,⟨.b (.agg (ar y_5.N)),fun _=>rfl,fun _=>.p (by exact aR aj rfl rfl rfl rfl)⟩,⟨Pt 102 18,fun _=>rfl,fun _=>.p (by exact af aV rfl rfl)⟩,⟨.b (.agg (ar y_5.D)),fun _=>rfl,fun _=>.p (by exact aR aj rfl rfl rfl rfl)⟩,⟨.b (.agg (ar x_12)),fun _=>rfl,fun _=>.p (by exact ad (wv e14) B7 rfl rfl)⟩,⟨.b (.agg (ar y_5.D ++ (ar x_12))),fun _=>rfl,fun _=>.p (by exact aS dW rfl rfl)⟩,⟨_,none,.b (.one .any),rfl,(fun e=>by simp at e),rfl,rfl,fun _=>.rY [101,102] (by exact .p (by exact ah aC rfl rfl rfl rfl (Nat.le_of_ble_eq_true rfl) rfl)) (by exact rfl)⟩,trivial,trivial⟩,⟨by kernel_rfl,⟨trivial,trivial,trivial,trivial,trivial,trivial,trivial,trivial,⟨Pt 102 18,fun _=>rfl,fun _=>.p (by exact af aV rfl rfl)⟩,⟨.b (.agg (ar y_5.D)),fun _=>rfl,fun _=>.p (by exact aR aj rfl rfl rfl rfl)⟩,trivial,trivial,trivial,trivial,trivial,⟨.b (.agg (ar y_5.D ++ (ar x_12))),fun _=>rfl,fun _=>.p (by exact aS dW rfl rfl)⟩,trivial,⟨_,none,.b (.one .any),rfl,(fun e=>by simp at e),rfl,rfl,fun _=>.rY [101,102] (by exact .p (by exact ah aC rfl rfl rfl rfl (Nat.le_of_ble_eq_true rfl) rfl)) (by exact rfl)⟩,trivial⟩,⟨by kernel_rfl,⟨trivial,trivial,trivial,trivial,trivial,trivial,trivial,trivial,trivial,trivial,trivial,trivial,trivial,trivial,trivial,trivial,trivial,trivial,trivial⟩,trivial⟩⟩⟩) rfl rfl rfl [2,3,7] [101,102] (s':=⟨[(2,_),(3,_),(7,_)],[(101,.box 27 (ar x_4.D ++ (ar x_11))),(102,.box 27 (ar y_5.D ++ (ar x_12)))]⟩) rfl ?_
      refine ab.seq (ab.ag ⟨[(2,_),(3,_),(7,_)],[(101,_),(102,_)]⟩ rfl ?_)
      obtain ⟨x_13,e15,h8⟩:=aD h8
      obtain ⟨x_14,e16,h8⟩:=aD h8
      refine ab.bm mixed 8 [Pt 101 18,.b (.agg (ar x_11)),I x_13,Pt 102 18,.b (.agg (ar x_12)),I x_14,I x_13,I x_14] [2,3,7,9,10] [101,102] (s':=⟨[(2,_),(3,_),(7,_),(9,I x_13),(10,I x_14)],[(101,_),(102,_)]⟩) rfl ⟨fun _=>.p (af aV rfl rfl),fun _=>.p (lp aj),fun _=>.p (ad (iN e15) sd rfl rfl),fun _=>.p (af aV rfl rfl),fun _=>.p (lp aj),fun _=>.p (ad (iN e16) sd rfl rfl),fun _=>.p oa,fun _=>.p oa,trivial⟩ rfl rfl (ab.seq (ab.seq (ab.aa ?_)))
      refine Oc om (Oc (cR rfl rfl) (Oc om ?_))
      refine cx (!(decide (x_13 = 0))) [] (fun g17=>trivial) (fun g17=>om) (cx (!(decide (x_13 = 0))) [69] (fun g18=>by exact ⟨g18,trivial⟩) (fun g18=>cR rfl rfl) (Oc (aQ (fun e=>by rw [e]; rfl) rfl rfl rfl rfl) (ae.an ⟨[(2,_),(3,_),(7,_),(9,_),(10,_),(71,B ((decide (x_13 = 0)) || (decide (x_14 = 0))))],[(101,_),(102,_)]⟩ rfl (ab.ite h8 rfl (fun _ h8=>?_) (fun _ h8=>?_)))))
      ·refine ab.seq (ab.aa ?_)
       refine Oc om (Oc om (Oc om (Oc (b7 rfl rfl) ?_)))
       refine ae.cD .i64 h8 rfl (eP rfl rfl) (fun x_15 h8=>?_)
       refine Oc oa (ae.an ⟨[(7,I x_15)],[]⟩ rfl (ab.exit (Fin.aF (Fin.kN (by decide) ?_))))
       obtain rfl:=hy9 _ (Option.some.inj h8).symm
       refine Fin.aF (Fin.aX ?_)
       exact Fin.join [7] [] x_15 rfl rfl
      ·refine ab.skip (Fin.ag ⟨[(2,_),(3,_),(7,_)],[(101,_),(102,_)]⟩ rfl (Fin.then (ab.aa ?_)))
       refine Oc om (Oc (lz rfl) (Oc oa ?_))
       refine ae.nil (Fin.aI ?_)
       exact Fin.b6 [2,3,7] [101,102] ((⟨x_4.D,x_11⟩:bz),(⟨y_5.D,x_12⟩:bz),IntKind.i64.wrap (-out_6)) (Option.some.inj h8) rfl
    ·rintro out_3 hv
     subst v5
     refine ab.seq (ab.aa ?_)
     refine Oc om (Oc oa ?_)
     refine ae.an ⟨[(4,I out_3)],[]⟩ rfl (ab.ret (Fin.ry ?_))
     obtain rfl:=Option.some.inj h
     refine Fin.ag ⟨[(4,_)],[]⟩ rfl (Fin.aq [.one (.i out_3)] (.inl rfl) rfl (.cons (.tmp rfl) .nil) ⟨rfl,rfl⟩)
def mE (F:Nat) (a0:az) (b0:az):Option (Int × Int) :=
 (cY F [a0,b0]).bind fun x_1=>if (!x_1) = true then (some (0,1)) else (if (decide (a0.U ≠ b0.U)) = true then (some (0,110)) else ((sM F a0.V b0.V).bind fun x_2=>some (x_2,0)))
theorem wY {F:Nat} {a0:az} {b0:az} {r:Int × Int} (h:mE F a0 b0 = some r):aA Tryz.prog (bd mx) 37 [] [.agg (ao a0),.agg (ao b0)] (Is [] (.eY [.one (.i r.1),.one (.i r.2)])):=by
 unfold mE at h
 refine aA.intro 21 Tryz.func37 Tryz.ntmps37 rfl (by simp) fun E=>?_
 show ab _ E ⟨21,[],[]⟩ _ ⟨[(0,.b (.agg (ao a0))),(1,.b (.agg (ao b0)))],[]⟩ _
 refine ab.seq (ab.aa ?_)
 refine Oc (aL (k:=101) rfl rfl) (Oc (aL (k:=102) rfl rfl) (Oc oa (Oc oa ?_)))
 refine ae.an ⟨[(2,Pt 101 0),(3,Pt 102 0)],[(101,.box 31 (ao a0)),(102,.box 31 (ao b0))]⟩ rfl (ab.seq (ab.seq (ab.aa ?_)))
 refine Oc (lp aJ) (Oc (lp aJ) (Oc (bc (k:=103) (es:=[a0,b0].map ao) oC rfl rfl (cE fun _=>rfl) rfl (by decide) (by decide) rfl) ?_))
 obtain ⟨x_1,e1,h⟩:=aD h
 refine Oc (ep (fh e1) tL rfl CP.du) (Oc (aT rfl) ?_)
 refine ae.an ⟨[(2,_),(3,_),(10,B (!x_1))],[(101,_),(102,_)]⟩ rfl (ab.ite h rfl (fun _ h=>?_) (fun _ h=>?_))
 ·refine ab.seq (ab.aa ?_)
  refine Oc oa (Oc oa ?_)
  refine ae.an ⟨[(4,I 0),(5,I 1)],[]⟩ rfl (ab.ret (Fin.aw ?_))
  obtain rfl:=Option.some.inj h
  refine Fin.ag ⟨[(4,_),(5,_)],[]⟩ rfl (Fin.aq [.one (.i 0),.one (.i 1)] (.inl rfl) rfl (.cons (.tmp rfl) (.cons (.tmp rfl) .nil)) ⟨rfl,rfl⟩)
 ·refine ab.skip (Fin.ag ⟨[(2,_),(3,_)],[(101,_),(102,_)]⟩ rfl (Fin.then (ab.seq (ab.seq (ab.aa ?_)))))
  refine Oc (af cy rfl rfl) (Oc (lp aY) (Oc (af cy rfl rfl) (Oc (lp aY) (Oc (dG (oM a0.U b0.U) rfl rfl gR) ?_))))
  refine ae.an ⟨[(2,_),(3,_),(15,B (decide (a0.U ≠ b0.U)))],[(101,_),(102,_)]⟩ rfl (ab.ite h rfl (fun _ h=>?_) (fun _ h=>?_))
  ·refine ab.seq (ab.aa ?_)
   refine Oc oa (Oc oa ?_)
   refine ae.an ⟨[(4,I 0),(5,I 110)],[]⟩ rfl (ab.ret (Fin.aw ?_))
   obtain rfl:=Option.some.inj h
   refine Fin.ag ⟨[(4,_),(5,_)],[]⟩ rfl (Fin.aq [.one (.i 0),.one (.i 110)] (.inl rfl) rfl (.cons (.tmp rfl) (.cons (.tmp rfl) .nil)) ⟨rfl,rfl⟩)
  ·refine ab.skip (Fin.ag ⟨[(2,_),(3,_)],[(101,_),(102,_)]⟩ rfl (Fin.then (ab.seq (ab.aa ?_))))
   refine Oc (af bU rfl rfl) (Oc (lp aC) (Oc (af bU rfl rfl) (Oc (lp aC) ?_)))
   obtain ⟨x_2,e2,h⟩:=aD h
   refine Oc (ad (AZ e2) goes89 rfl rfl) (Oc oa (Oc oa ?_))
   refine ae.an ⟨[(4,I x_2),(5,I 0)],[]⟩ rfl (ab.ret ?_)
   obtain rfl:=Option.some.inj h
   refine Fin.ag ⟨[(4,_),(5,_)],[]⟩ rfl (Fin.aq [.one (.i x_2),.one (.i 0)] (.inl rfl) rfl (.cons (.tmp rfl) (.cons (.tmp rfl) .nil)) ⟨rfl,rfl⟩)
def l5 (F:Nat) (x0:bz) (good0:Bool):Option br :=
 if good0 = true then ((gQ F 0).bind fun x_1=>some x_1) else ((gE F).bind fun x_2=>some x_2)
theorem tj {F:Nat} {x0:bz} {good0:Bool} {r:br} (h:l5 F x0 good0 = some r):aA Tryz.prog (bd mx) 100 [] [.agg (aE x0),.one (.bool good0)] (Is [] (.b (.agg (ar r)))):=by
 unfold l5 at h
 refine aA.intro 8 Tryz.func100 Tryz.ntmps100 rfl (by simp) fun E=>?_
 show ab _ E ⟨8,[],[]⟩ _ ⟨[(0,.b (.agg (aE x0))),(1,B good0)],[]⟩ _
 refine ab.seq (ab.aa ?_)
 refine Oc (aL (k:=101) rfl rfl) (Oc (aB (k:=102) bn rfl) ?_)
 refine ae.an ⟨[(1,B good0),(4,Pt 102 0)],[(102,.box 25 cU)]⟩ rfl (ab.seq (ab.seq (ab.aa ?_)))
 refine Oc om (ae.an ⟨[(4,_),(5,B good0)],[(102,_)]⟩ rfl (ab.ite h rfl (fun _ h=>?_) (fun _ h=>?_)))
 ·refine ab.seq (ab.aa ?_)
  obtain ⟨x_1,e1,h⟩:=aD h
  refine Oc (ad (gp e1) kX rfl rfl) (Oc (ah aj rfl rfl rfl rfl (Nat.le_of_ble_eq_true rfl) rfl) ?_)
  refine ae.an ⟨[(4,_)],[(102,.box 25 (ar x_1))]⟩ rfl (ab.ret (Fin.aw ?_))
  obtain rfl:=Option.some.inj h
  refine Fin.ag ⟨[(4,_)],[(102,_)]⟩ rfl (Fin.aq [.agg (ar x_1)] (.inl rfl) rfl (.cons (.agg aj rfl rfl rfl rfl) .nil) ⟨rfl,rfl⟩)
 ·refine ab.skip (Fin.ag ⟨[(4,_)],[(102,_)]⟩ rfl (Fin.then (ab.seq (ab.aa ?_))))
  obtain ⟨x_2,e2,h⟩:=aD h
  refine Oc (ad (fM e2) kW rfl rfl) (Oc (ah aj rfl rfl rfl rfl (Nat.le_of_ble_eq_true rfl) rfl) ?_)
  refine ae.an ⟨[(4,_)],[(102,.box 25 (ar x_2))]⟩ rfl (ab.ret ?_)
  obtain rfl:=Option.some.inj h
  refine Fin.ag ⟨[(4,_)],[(102,_)]⟩ rfl (Fin.aq [.agg (ar x_2)] (.inl rfl) rfl (.cons (.agg aj rfl rfl rfl rfl) .nil) ⟨rfl,rfl⟩)
def mr (F:Nat) (a0:br) (b0:br):Option Int :=
 (cj F a0).bind fun x_1=>(bE (!x_1) (cj F b0)).bind fun x_2=>if ((!x_1) && (!x_2)) = true then (some 0) else ((cj F a0).bind fun x_3=>if (!x_3) = true then (some (-1)) else ((cj F b0).bind fun x_4=>if (!x_4) = true then (some 1) else (if (a0.Neg != b0.Neg) = true then (if a0.Neg = true then (some (-1)) else (some 1)) else ((bJ F a0).bind fun x_5=>(bJ F b0).bind fun x_6=>Option.bind (if a0.Neg = true then ((bJ F b0).bind fun x_9=>(bJ F a0).bind fun x_10=>some (x_9,x_10)) else (some (x_5,x_6))) (b9 fun x_7 y_8=>(jN F x_7 y_8).bind fun x_11=>(jN F y_8 x_7).bind fun x_12=>if x_11 = true then (some (-1)) else (if x_12 = true then (some 1) else (some 0)))))))
theorem uw {F:Nat} {a0:br} {b0:br} {r:Int} (h:mr F a0 b0 = some r):aA Tryz.prog (bd mx) 99 [] [.agg (ar a0),.agg (ar b0)] (Is [] (.b (.one (.i r)))):=by
 unfold mr at h
 refine aA.intro 48 Tryz.func99 Tryz.ntmps99 rfl (by simp) fun E=>?_
 show ab _ E ⟨48,[],[]⟩ _ ⟨[(0,.b (.agg (ar a0))),(1,.b (.agg (ar b0)))],[]⟩ _
 refine ab.seq (ab.aa ?_)
 refine Oc (aL (k:=101) rfl rfl) (Oc (aL (k:=102) rfl rfl) (Oc oa ?_))
 refine ae.an ⟨[(2,Pt 101 0),(3,Pt 102 0)],[(101,.box 25 (ar a0)),(102,.box 25 (ar b0))]⟩ rfl (ab.seq (ab.seq (ab.aa ?_)))
 refine Oc (lp aj) ?_
 obtain ⟨x_1,e1,h⟩:=aD h
 refine Oc (ad (bO e1) fR rfl rfl) (Oc (aT rfl) (Oc om ?_))
 refine cG (!x_1) [] (fun g2=>trivial) (fun g2=>lp aj) (ae.ag ⟨[(2,_),(3,_),(12,B (!x_1)),(13,.dh (!x_1) (.agg (ar b0)))],[(101,_),(102,_)]⟩ rfl ?_)
 obtain ⟨x_2,e4,h⟩:=aD h
 refine cG (!x_1) [13] (fun g3=>⟨g3,trivial⟩) (fun g3=>ad (bO (gc e4 g3)) fR rfl rfl) (cG (!x_1) [14] (fun g5=>⟨g5,trivial⟩) (fun g5=>aT rfl) (Oc (aG (fun e=>e) rfl rfl rfl rfl) (ae.an ⟨[(2,_),(3,_),(16,B ((!x_1) && (!x_2)))],[(101,_),(102,_)]⟩ rfl (ab.ite h rfl (fun _ h=>?_) (fun _ h=>?_)))))
 ·refine ab.seq (ab.aa ?_)
  refine Oc oa (ae.an ⟨[(4,I 0)],[]⟩ rfl (ab.ret (Fin.aw ?_)))
  obtain rfl:=Option.some.inj h
  refine Fin.ag ⟨[(4,_)],[]⟩ rfl (Fin.aq [.one (.i 0)] (.inl rfl) rfl (.cons (.tmp rfl) .nil) ⟨rfl,rfl⟩)
 ·refine ab.skip (Fin.ag ⟨[(2,_),(3,_)],[(101,_),(102,_)]⟩ rfl (Fin.then (ab.seq (ab.seq (ab.aa ?_)))))
  refine Oc (lp aj) ?_
  obtain ⟨x_3,e6,h⟩:=aD h
  refine Oc (ad (bO e6) fR rfl rfl) (Oc (aT rfl) ?_)
  refine ae.an ⟨[(2,_),(3,_),(19,B (!x_3))],[(101,_),(102,_)]⟩ rfl (ab.ite h rfl (fun _ h=>?_) (fun _ h=>?_))
  ·refine ab.seq (ab.aa ?_)
   refine Oc oa (ae.an ⟨[(4,I (-1))],[]⟩ rfl (ab.ret (Fin.aw ?_)))
   obtain rfl:=Option.some.inj h
   refine Fin.ag ⟨[(4,_)],[]⟩ rfl (Fin.aq [.one (.i (-1))] (.inl rfl) rfl (.cons (.tmp rfl) .nil) ⟨rfl,rfl⟩)
  ·refine ab.skip (Fin.ag ⟨[(2,_),(3,_)],[(101,_),(102,_)]⟩ rfl (Fin.then (ab.seq (ab.seq (ab.aa ?_)))))
   refine Oc (lp aj) ?_
   obtain ⟨x_4,e7,h⟩:=aD h
   refine Oc (ad (bO e7) fR rfl rfl) (Oc (aT rfl) ?_)
   refine ae.an ⟨[(2,_),(3,_),(22,B (!x_4))],[(101,_),(102,_)]⟩ rfl (ab.ite h rfl (fun _ h=>?_) (fun _ h=>?_))
   ·refine ab.seq (ab.aa ?_)
    refine Oc oa (ae.an ⟨[(4,I 1)],[]⟩ rfl (ab.ret (Fin.aw ?_)))
    obtain rfl:=Option.some.inj h
    refine Fin.ag ⟨[(4,_)],[]⟩ rfl (Fin.aq [.one (.i 1)] (.inl rfl) rfl (.cons (.tmp rfl) .nil) ⟨rfl,rfl⟩)
   ·refine ab.skip (Fin.ag ⟨[(2,_),(3,_)],[(101,_),(102,_)]⟩ rfl (Fin.then (ab.seq (ab.seq (ab.aa ?_)))))
    refine Oc (af bj rfl rfl) (Oc (au bS rfl rfl rfl) (Oc (af bj rfl rfl) (Oc (au bS rfl rfl rfl) (Oc (eT sC rfl rfl) ?_))))
    refine ae.an ⟨[(2,_),(3,_),(27,B (a0.Neg != b0.Neg))],[(101,_),(102,_)]⟩ rfl (ab.ite h rfl (fun _ h=>?_) (fun _ h=>?_))
    ·refine ab.seq (ab.seq (ab.aa ?_))
     refine Oc (af bj rfl rfl) (Oc (au bS rfl rfl rfl) ?_)
     refine ae.an ⟨[(29,B a0.Neg)],[]⟩ rfl (ab.ite h rfl (fun _ h=>?_) (fun _ h=>?_))
     ·refine ab.seq (ab.aa ?_)
      refine Oc oa (ae.an ⟨[(4,I (-1))],[]⟩ rfl (ab.ret (Fin.aw (Fin.aw ?_))))
      obtain rfl:=Option.some.inj h
      refine Fin.ag ⟨[(4,_)],[]⟩ rfl (Fin.aq [.one (.i (-1))] (.inl rfl) rfl (.cons (.tmp rfl) .nil) ⟨rfl,rfl⟩)
     ·refine ab.skip (Fin.ag ⟨[],[]⟩ rfl (Fin.then (ab.seq (ab.aa ?_))))
      refine Oc oa (ae.an ⟨[(4,I 1)],[]⟩ rfl (ab.ret (Fin.aw ?_)))
      obtain rfl:=Option.some.inj h
      refine Fin.ag ⟨[(4,_)],[]⟩ rfl (Fin.aq [.one (.i 1)] (.inl rfl) rfl (.cons (.tmp rfl) .nil) ⟨rfl,rfl⟩)
    ·refine ab.skip (Fin.ag ⟨[(2,_),(3,_)],[(101,_),(102,_)]⟩ rfl (Fin.then (ab.seq (ab.aa ?_))))
     refine Oc (lp aj) ?_
     obtain ⟨x_5,e8,h⟩:=aD h
     refine Oc (ad (bC e8) gl rfl rfl) (Oc oa ?_)
     refine ae.an ⟨[(2,_),(3,_),(5,.b (.one (.sl 1 (x_5.map eI))))],[(101,_),(102,_)]⟩ rfl (ab.seq (ab.aa ?_))
     refine Oc (lp aj) ?_
     obtain ⟨x_6,e9,h⟩:=aD h
     refine Oc (ad (bC e9) gl rfl rfl) (Oc oa ?_)
     refine ae.an ⟨[(2,_),(3,_),(5,_),(6,.b (.one (.sl 1 (x_6.map eI))))],[(101,_),(102,_)]⟩ rfl ?_
     obtain ⟨v10,h11,h⟩:=aD h
     refine ab.cB (v:=v10) (b9 fun (x_7:List Int) (y_8:List Int)=>⟨[(5,.b (.one (.sl 1 (x_7.map eI)))),(6,.b (.one (.sl 1 (y_8.map eI))))],[]⟩) (fun z=>z) ?_ ?_
     ·refine ab.seq (ab.aa ?_)
      refine Oc (af bj rfl rfl) (Oc (au bS rfl rfl rfl) ?_)
      refine ae.an ⟨[(2,_),(3,_),(5,_),(6,_),(35,B a0.Neg)],[(101,_),(102,_)]⟩ rfl (ab.ite h11 rfl (fun _ h11=>?_) (fun _ h11=>?_))
      ·refine ab.seq (ab.aa ?_)
       refine Oc (lp aj) ?_
       obtain ⟨x_9,e12,h11⟩:=aD h11
       refine Oc (ad (bC e12) gl rfl rfl) (Oc oa ?_)
       refine ae.an ⟨[(2,_),(5,.b (.one (.sl 1 (x_9.map eI))))],[(101,_)]⟩ rfl (ab.aa (Oc (lp aj) ?_))
       obtain ⟨x_10,e13,h11⟩:=aD h11
       refine Oc (ad (bC e13) gl rfl rfl) (Oc oa ?_)
       refine ae.nil ?_
       exact Fin.join [5,6] [] (x_9,x_10) (Option.some.inj h11) rfl
      ·refine ab.skip ?_
       exact Fin.join [5,6] [] (x_5,x_6) (Option.some.inj h11) rfl
     ·rintro ⟨x_7,y_8⟩ hv
      subst v10
      refine ab.seq (ab.aa ?_)
      refine Oc om (Oc om ?_)
      obtain ⟨x_11,e14,h⟩:=aD h
      refine Oc (ad (lV e14) u9 rfl rfl) (Oc oa ?_)
      refine ae.an ⟨[(5,_),(6,_),(7,B x_11)],[]⟩ rfl (ab.seq (ab.aa ?_))
      refine Oc om (Oc om ?_)
      obtain ⟨x_12,e15,h⟩:=aD h
      refine Oc (ad (lV e15) u9 rfl rfl) (Oc oa ?_)
      refine ae.an ⟨[(7,_),(8,B x_12)],[]⟩ rfl (ab.seq (ab.seq (ab.aa ?_)))
      refine Oc om (ae.an ⟨[(8,_),(46,B x_11)],[]⟩ rfl (ab.ite h rfl (fun _ h=>?_) (fun _ h=>?_)))
      ·refine ab.seq (ab.aa ?_)
       refine Oc oa (ae.an ⟨[(4,I (-1))],[]⟩ rfl (ab.ret (Fin.aw ?_)))
       obtain rfl:=Option.some.inj h
       refine Fin.ag ⟨[(4,_)],[]⟩ rfl (Fin.aq [.one (.i (-1))] (.inl rfl) rfl (.cons (.tmp rfl) .nil) ⟨rfl,rfl⟩)
      ·refine ab.skip (Fin.ag ⟨[(8,_)],[]⟩ rfl (Fin.then (ab.seq (ab.seq (ab.aa ?_)))))
       refine Oc om (ae.an ⟨[(47,B x_12)],[]⟩ rfl (ab.ite h rfl (fun _ h=>?_) (fun _ h=>?_)))
       ·refine ab.seq (ab.aa ?_)
        refine Oc oa (ae.an ⟨[(4,I 1)],[]⟩ rfl (ab.ret (Fin.aw ?_)))
        obtain rfl:=Option.some.inj h
        refine Fin.ag ⟨[(4,_)],[]⟩ rfl (Fin.aq [.one (.i 1)] (.inl rfl) rfl (.cons (.tmp rfl) .nil) ⟨rfl,rfl⟩)
       ·refine ab.skip (Fin.ag ⟨[],[]⟩ rfl (Fin.then (ab.seq (ab.aa ?_))))
        refine Oc oa (ae.an ⟨[(4,I 0)],[]⟩ rfl (ab.ret ?_))
        obtain rfl:=Option.some.inj h
        refine Fin.ag ⟨[(4,_)],[]⟩ rfl (Fin.aq [.one (.i 0)] (.inl rfl) rfl (.cons (.tmp rfl) .nil) ⟨rfl,rfl⟩)
def mo (F:Nat) (a0:br) (b0:br):Option br :=
 Option.bind (eF F a0) (b9 fun x_1 x_2=>Option.bind (eF F b0) (b9 fun x_3 x_4=>if ((x_2 && x_4) && (decide (x_3 ≠ 0))) = true then ((kJ F x_1 x_3).bind fun x_5=>bN (IntKind.i64.wrap (x_1 - (IntKind.i64.wrap (x_3 * x_5)))) fun x_6=>(gQ F x_6).bind fun x_7=>some x_7) else ((cj F a0).bind fun x_8=>(bE (!(!x_8)) (cj F b0)).bind fun x_9=>(bE (!((!x_8) || (!x_9))) (bJ F b0)).bind fun x_10=>if (((!x_8) || (!x_9)) || (decide ((x_10.length:Int) = 0))) = true then ((gE F).bind fun x_11=>some x_11) else ((bJ F a0).bind fun x_12=>(bJ F b0).bind fun x_13=>Option.bind (iO F x_12 x_13) (b9 fun x_14 x_15=>Option.bind (if ((a0.Neg != b0.Neg) && (decide (0 < (x_15.length:Int)))) = true then ((bJ F b0).bind fun x_17=>(gU F x_17 x_15).bind fun x_18=>some x_18) else (some x_15)) (fun r_16=>(c5 F b0.Neg r_16).bind fun x_19=>some x_19))))))
theorem uu {F:Nat} {a0:br} {b0:br} {r:br} (h:mo F a0 b0 = some r):aA Tryz.prog (bd mx) 102 [] [.agg (ar a0),.agg (ar b0)] (Is [] (.b (.agg (ar r)))):=by
 unfold mo at h
 refine aA.intro 78 Tryz.func102 Tryz.ntmps102 rfl (by simp) fun E=>?_
 show ab _ E ⟨78,[],[]⟩ _ ⟨[(0,.b (.agg (ar a0))),(1,.b (.agg (ar b0)))],[]⟩ _
 refine ab.seq (ab.aa ?_)
 refine Oc (aL (k:=101) rfl rfl) (Oc (aL (k:=102) rfl rfl) (Oc (aB (k:=103) bn rfl) ?_))
 refine ae.an ⟨[(2,Pt 101 0),(3,Pt 102 0),(4,Pt 103 0)],[(101,.box 25 (ar a0)),(102,.box 25 (ar b0)),(103,.box 25 cU)]⟩ rfl (ab.seq (ab.aa ?_))
 refine Oc (lp aj) ?_
 obtain ⟨⟨x_1,x_2⟩,e1,h⟩:=aD h
 refine Oc (ad (eN e1) kV rfl rfl) (Oc om (Oc (ay rfl rfl) (Oc (ay rfl rfl) (Oc oa (Oc oa ?_)))))
 refine ae.an ⟨[(2,_),(3,_),(4,_),(5,I x_1),(6,B x_2)],[(101,_),(102,_),(103,_)]⟩ rfl (ab.seq (ab.aa ?_))
 refine Oc (lp aj) ?_
 obtain ⟨⟨x_3,x_4⟩,e2,h⟩:=aD h
 refine Oc (ad (eN e2) kV rfl rfl) (Oc om (Oc (ay rfl rfl) (Oc (ay rfl rfl) (Oc oa (Oc oa ?_)))))
 refine ae.an ⟨[(2,_),(3,_),(4,_),(5,_),(6,_),(7,I x_3),(8,B x_4)],[(101,_),(102,_),(103,_)]⟩ rfl (ab.seq (ab.seq (ab.aa ?_)))
 refine Oc om (Oc om ?_)
 refine cG x_2 [] (fun g3=>trivial) (fun g3=>om) (Oc (aG (fun e=>e) rfl rfl rfl rfl) (Oc om ?_))
 refine cG (x_2 && x_4) [] (fun g4=>trivial) (fun g4=>om) (cG (x_2 && x_4) [26] (fun g5=>by exact ⟨g5,trivial⟩) (fun g5=>di rfl rfl) (Oc (aG (fun e=>e) rfl rfl rfl rfl) (ae.an ⟨[(2,_),(3,_),(4,_),(5,_),(7,_),(28,B ((x_2 && x_4) && (decide (x_3 ≠ 0))))],[(101,_),(102,_),(103,_)]⟩ rfl (ab.ite h rfl (fun _ h=>?_) (fun _ h=>?_)))))
 ·refine ab.seq (ab.aa ?_)
  refine Oc om (Oc om (Oc om (Oc om ?_)))
  obtain ⟨x_5,e6,h⟩:=aD h
  refine Oc (ad (rR e6) B6 rfl rfl) (ae.ag ⟨[(4,_),(29,I x_1),(30,I x_3),(33,I x_5)],[(103,_)]⟩ rfl (Oc (eP rfl rfl) (ae.cD .i64 h rfl (b7 rfl rfl) (fun x_6 h=>?_))))
  obtain ⟨x_7,e7,h⟩:=aD h
  refine Oc (ad (gp e7) kX rfl rfl) (Oc (ah aj rfl rfl rfl rfl (Nat.le_of_ble_eq_true rfl) rfl) ?_)
  refine ae.an ⟨[(4,_)],[(103,.box 25 (ar x_7))]⟩ rfl (ab.ret (Fin.aw ?_))
  obtain rfl:=Option.some.inj h
  refine Fin.ag ⟨[(4,_)],[(103,_)]⟩ rfl (Fin.aq [.agg (ar x_7)] (.inl rfl) rfl (.cons (.agg aj rfl rfl rfl rfl) .nil) ⟨rfl,rfl⟩)
 ·refine ab.skip (Fin.ag ⟨[(2,_),(3,_),(4,_)],[(101,_),(102,_),(103,_)]⟩ rfl (Fin.then (ab.seq (ab.seq (ab.aa ?_)))))
  refine Oc (lp aj) ?_
  obtain ⟨x_8,e8,h⟩:=aD h
  refine Oc (ad (bO e8) fR rfl rfl) (Oc (aT rfl) (Oc om ?_))
  refine cx (!(!x_8)) [] (fun g9=>trivial) (fun g9=>lp aj) (ae.ag ⟨[(2,_),(3,_),(4,_),(40,B (!x_8)),(41,.dh (!(!x_8)) (.agg (ar b0)))],[(101,_),(102,_),(103,_)]⟩ rfl ?_)
  obtain ⟨x_9,e11,h⟩:=aD h
  refine cx (!(!x_8)) [41] (fun g10=>⟨g10,trivial⟩) (fun g10=>ad (bO (gc e11 g10)) fR rfl rfl) (cx (!(!x_8)) [42] (fun g12=>⟨g12,trivial⟩) (fun g12=>aT rfl) (Oc (aQ (fun e=>by rw [e]; rfl) rfl rfl rfl rfl) (Oc om ?_)))
  refine cx (!((!x_8) || (!x_9))) [] (fun g13=>trivial) (fun g13=>lp aj) ?_
  obtain ⟨x_10,e15,h⟩:=aD h
  refine cx (!((!x_8) || (!x_9))) [46] (fun g14=>⟨g14,trivial⟩) (fun g14=>ad (bC (gc e15 g14)) gl rfl rfl) (ae.ag ⟨[(2,_),(3,_),(4,_),(45,B ((!x_8) || (!x_9))),(47,.dh (!((!x_8) || (!x_9))) (.one (.sl 1 (x_10.map eI))))],[(101,_),(102,_),(103,_)]⟩ rfl (cx (!((!x_8) || (!x_9))) [47] (fun g16=>⟨g16,trivial⟩) (fun g16=>bV gw rfl (List.length_map _)) (cx (!((!x_8) || (!x_9))) [48] (fun g17=>⟨g17,trivial⟩) (fun g17=>cR rfl rfl) (Oc (aQ (fun e=>by rw [e]; rfl) rfl rfl rfl rfl) (ae.an ⟨[(2,_),(3,_),(4,_),(50,B (((!x_8) || (!x_9)) || (decide ((x_10.length:Int) = 0))))],[(101,_),(102,_),(103,_)]⟩ rfl ?_)))))
  refine ab.ite h rfl (fun _ h=>?_) (fun _ h=>?_)
  ·refine ab.seq (ab.aa ?_)
   obtain ⟨x_11,e18,h⟩:=aD h
   refine Oc (ad (fM e18) kW rfl rfl) (Oc (ah aj rfl rfl rfl rfl (Nat.le_of_ble_eq_true rfl) rfl) ?_)
   refine ae.an ⟨[(4,_)],[(103,.box 25 (ar x_11))]⟩ rfl (ab.ret (Fin.aw ?_))
   obtain rfl:=Option.some.inj h
   refine Fin.ag ⟨[(4,_)],[(103,_)]⟩ rfl (Fin.aq [.agg (ar x_11)] (.inl rfl) rfl (.cons (.agg aj rfl rfl rfl rfl) .nil) ⟨rfl,rfl⟩)
  ·refine ab.skip (Fin.ag ⟨[(2,_),(3,_),(4,_)],[(101,_),(102,_),(103,_)]⟩ rfl (Fin.then (ab.seq ?_)))
   refine ab.ag ⟨[(2,_),(3,_),(4,_)],[(101,_),(102,_),(103,_)]⟩ rfl ?_
   obtain ⟨x_12,e19,h⟩:=aD h
   obtain ⟨x_13,e20,h⟩:=aD h
   obtain ⟨⟨x_14,x_15⟩,e21,h⟩:=aD h
   refine ab.bm mixed 10 [.b (.agg (ar a0)),.b (.one (.sl 1 (x_12.map eI))),.b (.agg (ar b0)),.b (.one (.sl 1 (x_13.map eI))),.eY [.one (.sl 1 (x_14.map eI)),.one (.sl 1 (x_15.map eI))],.eY [.one (.sl 1 (x_14.map eI)),.one (.sl 1 (x_15.map eI))],.b (.one (.sl 1 (x_14.map eI))),.b (.one (.sl 1 (x_15.map eI))),.b (.one (.sl 1 (x_14.map eI))),.b (.one (.sl 1 (x_15.map eI)))] [2,3,4,10] [101,102,103] (s':=⟨[(2,_),(3,_),(4,_),(10,.b (.one (.sl 1 (x_15.map eI))))],[(101,_),(102,_),(103,_)]⟩) rfl ⟨fun _=>.p (lp aj),fun _=>.p (ad (bC e19) gl rfl rfl),fun _=>.p (lp aj),fun _=>.p (ad (bC e20) gl rfl rfl),fun _=>.p (ad (mJ e21) yp rfl rfl),fun _=>.p om,fun _=>.p (ay rfl rfl),fun _=>.p (ay rfl rfl),fun _=>.p oa,fun _=>.p oa,trivial⟩ rfl rfl ?_
   obtain ⟨v22,h23,h⟩:=aD h
   refine ab.cB (v:=v22) (fun (r_16:List Int)=>⟨[(3,Pt 102 0),(4,Pt 103 0),(10,.b (.one (.sl 1 (r_16.map eI))))],[(102,.box 25 (ar b0)),(103,.box 25 cU)]⟩) (fun z=>z) ?_ ?_
   ·refine ab.seq (ab.aa ?_)
    refine Oc (af bj rfl rfl) (Oc (au bS rfl rfl rfl) (Oc (af bj rfl rfl) (Oc (au bS rfl rfl rfl) (Oc (eT sC rfl rfl) (Oc om ?_)))))
    refine cG (a0.Neg != b0.Neg) [] (fun g24=>trivial) (fun g24=>om) (ae.ag ⟨[(3,_),(4,_),(10,_),(65,B (a0.Neg != b0.Neg)),(66,.dh (a0.Neg != b0.Neg) (.one (.sl 1 (x_15.map eI))))],[(102,_),(103,_)]⟩ rfl (cG (a0.Neg != b0.Neg) [66] (fun g25=>by exact ⟨g25,trivial⟩) (fun g25=>bV gw rfl (List.length_map _)) (cG (a0.Neg != b0.Neg) [67] (fun g26=>by exact ⟨g26,trivial⟩) (fun g26=>fj rfl rfl) (Oc (aG (fun e=>e) rfl rfl rfl rfl) (ae.an ⟨[(3,_),(4,_),(10,_),(69,B ((a0.Neg != b0.Neg) && (decide (0 < (x_15.length:Int)))))],[(102,_),(103,_)]⟩ rfl ?_)))))
    refine ab.ite h23 rfl (fun _ h23=>?_) (fun _ h23=>?_)
    ·refine ab.aa (Oc (lp aj) ?_)
     obtain ⟨x_17,e27,h23⟩:=aD h23
     refine Oc (ad (bC e27) gl rfl rfl) (Oc om ?_)
     obtain ⟨x_18,e28,h23⟩:=aD h23
     refine Oc (ad (jo e28) sS rfl rfl) (Oc oa ?_)
     refine ae.nil ?_
     exact Fin.join [3,4,10] [102,103] x_18 (Option.some.inj h23) rfl
    ·refine ab.skip ?_
     exact Fin.join [3,4,10] [102,103] x_15 (Option.some.inj h23) rfl
   ·rintro r_16 hv
    subst v22
    refine ab.seq (ab.aa ?_)
    refine Oc (af bj rfl rfl) (Oc (au bS rfl rfl rfl) (Oc om ?_))
    obtain ⟨x_19,e29,h⟩:=aD h
    refine Oc (ad (dd e29) ka rfl rfl) (Oc (ah aj rfl rfl rfl rfl (Nat.le_of_ble_eq_true rfl) rfl) ?_)
    refine ae.an ⟨[(4,_)],[(103,.box 25 (ar x_19))]⟩ rfl (ab.ret ?_)
    obtain rfl:=Option.some.inj h
    refine Fin.ag ⟨[(4,_)],[(103,_)]⟩ rfl (Fin.aq [.agg (ar x_19)] (.inl rfl) rfl (.cons (.agg aj rfl rfl rfl rfl) .nil) ⟨rfl,rfl⟩)
def qk (F:Nat) (x0:bz) (y0:bz):Option Int :=
 (dX F x0).bind fun x_1=>(dX F y0).bind fun x_2=>if ((!x_1) || (!x_2)) = true then ((l5 F x0 x_1).bind fun x_3=>(l5 F y0 x_2).bind fun x_4=>(mr F x_3 x_4).bind fun x_5=>some x_5) else (Option.bind (iter F (ky fun sign_6 p_7 q_8=>(iJ F p_7.a0 p_7.a1).bind fun x_9=>(iJ F q_8.a0 q_8.a1).bind fun x_10=>(mr F x_9 x_10).bind fun x_11=>if (decide (x_11 ≠ 0)) = true then (some (.inr (IntKind.i64.wrap (sign_6 * x_11)))) else ((mo F p_7.a0 p_7.a1).bind fun x_12=>(mo F q_8.a0 q_8.a1).bind fun x_13=>(fO F x_12).bind fun x_14=>(bE (!(decide (x_14 = 0))) (fO F x_13)).bind fun x_15=>if ((decide (x_14 = 0)) || (decide (x_15 = 0))) = true then ((fO F x_12).bind fun x_16=>(fO F x_13).bind fun x_17=>some (.inr (IntKind.i64.wrap (sign_6 * (IntKind.i64.wrap (x_16 - x_17)))))) else (some (.inl (IntKind.i64.wrap (-sign_6),(⟨p_7.a1,x_12⟩:kb),(⟨q_8.a1,x_13⟩:kb)))))) (1,(⟨x0.N,x0.D⟩:kb),(⟨y0.N,y0.D⟩:kb))) (fun y=>some y))
theorem zL {F:Nat} {x0:bz} {y0:bz} {r:Int} (h:qk F x0 y0 = some r):aA Tryz.prog (bd mx) 48 [] [.agg (aE x0),.agg (aE y0)] (Is [] (.b (.one (.i r)))):=by
 unfold qk at h
 refine aA.intro 95 Tryz.func48 Tryz.ntmps48 rfl (by simp) fun E=>?_
 show ab _ E ⟨95,[],[]⟩ _ ⟨[(0,.b (.agg (aE x0))),(1,.b (.agg (aE y0)))],[]⟩ _
 refine ab.seq (ab.aa ?_)
 refine Oc (aL (k:=101) rfl rfl) (Oc (aL (k:=102) rfl rfl) (Oc oa ?_))
 refine ae.an ⟨[(2,Pt 101 0),(3,Pt 102 0)],[(101,.box 27 (aE x0)),(102,.box 27 (aE y0))]⟩ rfl (ab.seq (ab.aa ?_))
 refine Oc (lp aC) ?_
 obtain ⟨x_1,e1,h⟩:=aD h
 refine Oc (ad (dD e1) lF rfl rfl) (Oc oa ?_)
 refine ae.an ⟨[(2,_),(3,_),(5,B x_1)],[(101,_),(102,_)]⟩ rfl (ab.seq (ab.aa ?_))
 refine Oc (lp aC) ?_
 obtain ⟨x_2,e2,h⟩:=aD h
 refine Oc (ad (dD e2) lF rfl rfl) (Oc oa ?_)
 refine ae.an ⟨[(2,_),(3,_),(5,_),(6,B x_2)],[(101,_),(102,_)]⟩ rfl (ab.seq (ab.seq (ab.aa ?_)))
 refine Oc om (Oc (aT rfl) (Oc om ?_))
 refine cx (!(!x_1)) [] (fun g3=>trivial) (fun g3=>om) (cx (!(!x_1)) [20] (fun g4=>by exact ⟨g4,trivial⟩) (fun g4=>aT rfl) (Oc (aQ (fun e=>by rw [e]; rfl) rfl rfl rfl rfl) (ae.an ⟨[(2,_),(3,_),(5,_),(6,_),(22,B ((!x_1) || (!x_2)))],[(101,_),(102,_)]⟩ rfl (ab.ite h rfl (fun _ h=>?_) (fun _ h=>?_)))))
 ·refine ab.seq (ab.ag ⟨[(2,_),(3,_),(5,_),(6,_)],[(101,_),(102,_)]⟩ rfl ?_)
  obtain ⟨x_3,e5,h⟩:=aD h
  obtain ⟨x_4,e6,h⟩:=aD h
  obtain ⟨x_5,e7,h⟩:=aD h
  refine ab.bm mixed 8 [.b (.agg (aE x0)),B x_1,.b (.agg (ar x_3)),.b (.agg (aE y0)),B x_2,.b (.agg (ar x_4)),I x_5,I x_5] [4] [] (s':=⟨[(4,I x_5)],[]⟩) rfl ⟨fun _=>.p (lp aC),fun _=>.p om,fun _=>.p (ad (tj e5) Cd rfl rfl),fun _=>.p (lp aC),fun _=>.p om,fun _=>.p (ad (tj e6) Cd rfl rfl),fun _=>.p (ad (uw e7) DT rfl rfl),fun _=>.p oa,trivial⟩ rfl rfl (ab.ret (Fin.aw ?_))
  obtain rfl:=Option.some.inj h
  refine Fin.ag ⟨[(4,_)],[]⟩ rfl (Fin.aq [.one (.i x_5)] (.inl rfl) rfl (.cons (.tmp rfl) .nil) ⟨rfl,rfl⟩)
 ·refine ab.skip (Fin.ag ⟨[(2,_),(3,_)],[(101,_),(102,_)]⟩ rfl (Fin.then (ab.seq (ab.aa ?_))))
  refine Oc oa (ae.an ⟨[(2,_),(3,_),(7,I 1)],[(101,_),(102,_)]⟩ rfl (ab.seq (ab.aa ?_)))
  refine Oc (af bq rfl rfl) (Oc (lp aj) (Oc (af aV rfl rfl) (Oc (lp aj) (Oc (dI oW rfl rfl) (Oc (aB (k:=103) xi rfl) ?_)))))
  refine Oc (ah s3 rfl rfl rfl rfl (Nat.le_of_ble_eq_true rfl) rfl) (ae.an ⟨[(3,_),(7,_),(8,Pt 103 0)],[(102,_),(103,.box 119 (aE x0))]⟩ rfl (ab.seq (ab.aa ?_)))
  refine Oc (af bq rfl rfl) (Oc (lp aj) (Oc (af aV rfl rfl) (Oc (lp aj) (Oc (dI oW rfl rfl) (Oc (aB (k:=104) xi rfl) ?_)))))
  refine Oc (ah s3 rfl rfl rfl rfl (Nat.le_of_ble_eq_true rfl) rfl) (ae.an ⟨[(7,_),(8,_),(9,Pt 104 0)],[(103,_),(104,.box 119 (aE y0))]⟩ rfl (ab.block ?_))
  obtain ⟨v8,h9,h⟩:=aD h
  refine ab.cW h9 (ky fun (sign_6:Int) (p_7:kb) (q_8:kb)=>⟨[(7,I sign_6),(8,Pt 103 0),(9,Pt 104 0)],[(103,.box 119 (zn p_7)),(104,.box 119 (zn q_8))]⟩) [7,8,9] [103,104] rfl ?_
  rintro ⟨sign_6,p_7,q_8⟩ o10 h11 hy12
  refine ab.block (ab.seq (ab.aa ?_))
  refine Oc (aM gf (by decide) (by decide) rfl rfl rfl) (Oc (lp aj) (Oc (aM gf (by decide) (by decide) rfl rfl rfl) (Oc (lp aj) ?_)))
  obtain ⟨x_9,e13,h11⟩:=aD h11
  refine Oc (ad (jS e13) re rfl rfl) (Oc (aB (k:=105) bn rfl) (Oc (ah aj rfl rfl rfl rfl (Nat.le_of_ble_eq_true rfl) rfl) ?_))
  refine ae.an ⟨[(7,_),(8,_),(9,_),(10,Pt 105 0)],[(103,_),(104,_),(105,.box 25 (ar x_9))]⟩ rfl (ab.seq (ab.aa ?_))
  refine Oc (aM gf (by decide) (by decide) rfl rfl rfl) (Oc (lp aj) (Oc (aM gf (by decide) (by decide) rfl rfl rfl) (Oc (lp aj) ?_)))
  obtain ⟨x_10,e14,h11⟩:=aD h11
  refine Oc (ad (jS e14) re rfl rfl) (Oc (aB (k:=106) bn rfl) (Oc (ah aj rfl rfl rfl rfl (Nat.le_of_ble_eq_true rfl) rfl) ?_))
  refine ae.an ⟨[(7,_),(8,_),(9,_),(10,_),(11,Pt 106 0)],[(103,_),(104,_),(105,_),(106,.box 25 (ar x_10))]⟩ rfl (ab.seq (ab.aa ?_))
  refine Oc (lp aj) (Oc (lp aj) ?_)
  obtain ⟨x_11,e15,h11⟩:=aD h11
  refine Oc (ad (uw e15) DT rfl rfl) (Oc oa ?_)
  refine ae.an ⟨[(7,_),(8,_),(9,_),(12,I x_11)],[(103,_),(104,_)]⟩ rfl (ab.seq (ab.seq (ab.aa ?_)))
  refine Oc om (Oc (di rfl rfl) ?_)
  refine ae.an ⟨[(7,_),(8,_),(9,_),(12,_),(54,B (decide (x_11 ≠ 0)))],[(103,_),(104,_)]⟩ rfl (ab.ite h11 rfl (fun _ h11=>?_) (fun _ h11=>?_))
  ·refine ab.seq (ab.aa ?_)
   refine Oc om (Oc om (Oc (eP rfl rfl) (Oc oa ?_)))
   refine ae.an ⟨[(4,I (IntKind.i64.wrap (sign_6 * x_11)))],[]⟩ rfl (ab.ret (Fin.aw (Fin.bb ?_)))
   obtain rfl:=hy12 _ (Option.some.inj h11).symm
   refine Fin.aw (Fin.bb ?_)
   obtain rfl:=Option.some.inj h
   refine Fin.ag ⟨[(4,_)],[]⟩ rfl (Fin.aq [.one (.i (IntKind.i64.wrap (sign_6 * x_11)))] (.inl rfl) rfl (.cons (.tmp rfl) .nil) ⟨rfl,rfl⟩)
  ·refine ab.skip (Fin.ag ⟨[(7,_),(8,_),(9,_)],[(103,_),(104,_)]⟩ rfl (Fin.then (ab.seq ?_)))
   refine ab.ag ⟨[(7,_),(8,_),(9,_)],[(103,_),(104,_)]⟩ rfl ?_
   obtain ⟨x_12,e16,h11⟩:=aD h11
   refine ab.bm mixed 8 [Pt 103 18,.b (.agg (ar p_7.a1)),Pt 103 0,.b (.agg (ar p_7.a0)),Pt 103 18,.b (.agg (ar p_7.a1)),.b (.agg (ar x_12)),.b (.agg (ar p_7.a1 ++ (ar x_12)))] [7,8,9] [103,104] (s':=⟨[(7,_),(8,_),(9,_)],[(103,.box 119 (ar p_7.a1 ++ (ar x_12))),(104,_)]⟩) rfl ⟨fun _=>.p (aM gf (by decide) (by decide) rfl rfl rfl),fun _=>.p (lp aj),fun _=>.p (aM gf (by decide) (by decide) rfl rfl rfl),fun _=>.p (lp aj),fun _=>.p (aM gf (by decide) (by decide) rfl rfl rfl),fun _=>.p (lp aj),fun _=>.p (ad (uu e16) Cc rfl rfl),fun _=>.p (dI oW rfl rfl),trivial⟩ ⟨_,by exact .p (ah s3 rfl rfl rfl rfl (Nat.le_of_ble_eq_true rfl) rfl),rfl⟩ rfl (ab.seq (ab.ag ⟨[(7,_),(8,_),(9,_)],[(103,_),(104,_)]⟩ rfl ?_))
   obtain ⟨x_13,e17,h11⟩:=aD h11
   refine ab.bm mixed 8 [Pt 104 18,.b (.agg (ar q_8.a1)),Pt 104 0,.b (.agg (ar q_8.a0)),Pt 104 18,.b (.agg (ar q_8.a1)),.b (.agg (ar x_13)),.b (.agg (ar q_8.a1 ++ (ar x_13)))] [7,8,9] [103,104] (s':=⟨[(7,_),(8,_),(9,_)],[(103,_),(104,.box 119 (ar q_8.a1 ++ (ar x_13)))]⟩) rfl ⟨fun _=>.p (aM gf (by decide) (by decide) rfl rfl rfl),fun _=>.p (lp aj),fun _=>.p (aM gf (by decide) (by decide) rfl rfl rfl),fun _=>.p (lp aj),fun _=>.p (aM gf (by decide) (by decide) rfl rfl rfl),fun _=>.p (lp aj),fun _=>.p (ad (uu e17) Cc rfl rfl),fun _=>.p (dI oW rfl rfl),trivial⟩ ⟨_,by exact .p (ah s3 rfl rfl rfl rfl (Nat.le_of_ble_eq_true rfl) rfl),rfl⟩ rfl (ab.seq (ab.seq (ab.aa ?_)))
   refine Oc (aM gf (by decide) (by decide) rfl rfl rfl) (Oc (lp aj) ?_)
   obtain ⟨x_14,e18,h11⟩:=aD h11
   refine Oc (ad (gk e18) nj rfl rfl) (Oc (cR rfl rfl) (Oc om ?_))
   refine ae.ag ⟨[(7,_),(8,_),(9,_),(78,B (decide (x_14 = 0)))],[(103,_),(104,_)]⟩ rfl (cx (!(decide (x_14 = 0))) [] (fun g19=>trivial) (fun g19=>aM gf (by decide) (by decide) rfl rfl rfl) (cx (!(decide (x_14 = 0))) [79] (fun g20=>⟨g20,trivial⟩) (fun g20=>lp aj) ?_))
   obtain ⟨x_15,e22,h11⟩:=aD h11
   refine cx (!(decide (x_14 = 0))) [80] (fun g21=>⟨g21,trivial⟩) (fun g21=>ad (gk (gc e22 g21)) nj rfl rfl) (cx (!(decide (x_14 = 0))) [81] (fun g23=>⟨g23,trivial⟩) (fun g23=>cR rfl rfl) (Oc (aQ (fun e=>by rw [e]; rfl) rfl rfl rfl rfl) (ae.an ⟨[(7,_),(8,_),(9,_),(83,B ((decide (x_14 = 0)) || (decide (x_15 = 0))))],[(103,_),(104,_)]⟩ rfl (ab.ite h11 rfl (fun _ h11=>?_) (fun _ h11=>?_)))))
   ·refine ab.seq (ab.ag ⟨[(7,_),(8,_),(9,_)],[(103,_),(104,_)]⟩ rfl ?_)
    obtain ⟨x_16,e24,h11⟩:=aD h11
    obtain ⟨x_17,e25,h11⟩:=aD h11
    refine ab.bm mixed 10 [I sign_6,Pt 103 18,.b (.agg (ar x_12)),I x_16,Pt 104 18,.b (.agg (ar x_13)),I x_17,I (IntKind.i64.wrap (x_16 - x_17)),I (IntKind.i64.wrap (sign_6 * (IntKind.i64.wrap (x_16 - x_17)))),I (IntKind.i64.wrap (sign_6 * (IntKind.i64.wrap (x_16 - x_17))))] [4] [] (s':=⟨[(4,I (IntKind.i64.wrap (sign_6 * (IntKind.i64.wrap (x_16 - x_17)))))],[]⟩) rfl ⟨fun _=>.p om,fun _=>.p (aM gf (by decide) (by decide) rfl rfl rfl),fun _=>.p (lp aj),fun _=>.p (ad (gk e24) nj rfl rfl),fun _=>.p (aM gf (by decide) (by decide) rfl rfl rfl),fun _=>.p (lp aj),fun _=>.p (ad (gk e25) nj rfl rfl),fun _=>.p (b7 rfl rfl),fun _=>.p (eP rfl rfl),fun _=>.p oa,trivial⟩ rfl rfl (ab.ret (Fin.aw (Fin.bb ?_)))
    obtain rfl:=hy12 _ (Option.some.inj h11).symm
    refine Fin.aw (Fin.bb ?_)
    obtain rfl:=Option.some.inj h
    refine Fin.ag ⟨[(4,_)],[]⟩ rfl (Fin.aq [.one (.i (IntKind.i64.wrap (sign_6 * (IntKind.i64.wrap (x_16 - x_17)))))] (.inl rfl) rfl (.cons (.tmp rfl) .nil) ⟨rfl,rfl⟩)
   ·refine ab.skip (Fin.ag ⟨[(7,_),(8,_),(9,_)],[(103,_),(104,_)]⟩ rfl (Fin.then (ab.aa ?_)))
    refine Oc om (Oc (lz rfl) (Oc oa ?_))
    refine ae.nil (Fin.aI ?_)
    exact Fin.b6 [7,8,9] [103,104] (IntKind.i64.wrap (-sign_6),(⟨p_7.a1,x_12⟩:kb),(⟨q_8.a1,x_13⟩:kb)) (Option.some.inj h11) rfl
def jf (F:Nat) (r0s:bA) (r0q:az) (r0sign:Int):Option Int :=
 some 1
theorem px {F:Nat} {r0s:bA} {r0q:az} {r0sign:Int} {r:Int} (h:jf F r0s r0q r0sign = some r):aA Tryz.prog (bd mx) 68 [(1,.box 94 (.str r0s :: (ao r0q ++ ([.i r0sign]))))] [.ptr 1 0] (Is [(1,.box 94 (.str r0s :: (ao r0q ++ ([.i r]))))] (.eY [])):=by
 unfold jf at h
 refine aA.intro 5 Tryz.func68 Tryz.ntmps68 rfl (by simp) fun E=>?_
 show ab _ E ⟨5,[1],[1]⟩ _ ⟨[(0,Pt 1 0)],[(1,.box 94 (.str r0s :: (ao r0q ++ ([.i r0sign]))))]⟩ _
 refine ab.aa (Oc om (Oc (aW rfl) (Oc (af rq rfl rfl) (Oc (cc bG rfl rfl rfl (Nat.le_of_ble_eq_true rfl) rfl) ?_))))
 refine ae.nil ?_
 obtain rfl:=Option.some.inj h
 refine Fin.ag ⟨[],[(1,.box 94 (.str r0s :: (ao r0q ++ ([.i 1]))))]⟩ rfl ?_
 exact Fin.result [] (.inr rfl) rfl (.nil) ⟨rfl,rfl⟩
def jG (F:Nat) (r0s:bA) (r0q:az) (r0sign:Int):Option Int :=
 some (-1)
theorem pP {F:Nat} {r0s:bA} {r0q:az} {r0sign:Int} {r:Int} (h:jG F r0s r0q r0sign = some r):aA Tryz.prog (bd mx) 69 [(1,.box 94 (.str r0s :: (ao r0q ++ ([.i r0sign]))))] [.ptr 1 0] (Is [(1,.box 94 (.str r0s :: (ao r0q ++ ([.i r]))))] (.eY [])):=by
 unfold jG at h
 refine aA.intro 5 Tryz.func69 Tryz.ntmps69 rfl (by simp) fun E=>?_
 show ab _ E ⟨5,[1],[1]⟩ _ ⟨[(0,Pt 1 0)],[(1,.box 94 (.str r0s :: (ao r0q ++ ([.i r0sign]))))]⟩ _
 refine ab.aa (Oc om (Oc (aW rfl) (Oc (af rq rfl rfl) (Oc (cc bG rfl rfl rfl (Nat.le_of_ble_eq_true rfl) rfl) ?_))))
 refine ae.nil ?_
 obtain rfl:=Option.some.inj h
 refine Fin.ag ⟨[],[(1,.box 94 (.str r0s :: (ao r0q ++ ([.i (-1)]))))]⟩ rfl ?_
 exact Fin.result [] (.inr rfl) rfl (.nil) ⟨rfl,rfl⟩
def gz (F:Nat) (s0:bA) (f0:Nat) (truth0:Bool):Option Int :=
 Option.bind (iter F (fun xp_1=>if decide (xp_1 < s0.length) = true then ((qe F f0 (kB s0 xp_1)).bind fun x_2=>if (x_2 == truth0) = true then (some (.inr (.inr (xp_1:Nat)))) else (some (.inl (iH s0 xp_1)))) else (some (.inr (.inl ())))) 0) (ls (fun _=>some (-1)) (fun y=>some y))
theorem kw {F:Nat} {s0:bA} {f0:Nat} {truth0:Bool} {r:Int} (h:gz F s0 f0 truth0 = some r):aA Tryz.prog (bd mx) 191 [] [.one (.str s0),.one (.raw (.func (.func f0) #[] #[])),.one (.bool truth0)] (Is [] (.b (.one (.i r)))):=by
 unfold gz at h
 refine aA.intro 21 Tryz.func191 Tryz.ntmps191 rfl (by simp) fun E=>?_
 show ab _ E ⟨21,[],[]⟩ _ ⟨[(0,.b (.one (.str s0))),(1,.b (.one (.raw (.func (.func f0) #[] #[])))),(2,B truth0)],[]⟩ _
 refine ab.seq (ab.aa ?_)
 refine Oc oa (ae.an ⟨[(0,.b (.one (.str s0))),(1,.b (.one (.raw (.func (.func f0) #[] #[])))),(2,B truth0)],[]⟩ rfl ?_)
 obtain ⟨v1,h2,h⟩:=aD h
 refine ab.cB (v:=v1) (fun (_:Unit)=>⟨[],[]⟩) (fun z=>.inl z) ?_ ?_
 ·refine ab.seq (ab.aa ?_)
  refine Oc om (Oc (pq (k:=101) iF rfl rfl) ?_)
  refine ae.an ⟨[(1,_),(2,_),(10,Pt 101 0)],[(101,.uS s0 0)]⟩ rfl (ab.block (ab.cW h2 (fun (xp_1:Nat)=>⟨[(1,.b (.one (.raw (.func (.func f0) #[] #[])))),(2,B truth0),(10,Pt 101 0)],[(101,.uS s0 xp_1)]⟩) [1,2,10] [101] rfl ?_))
  rintro xp_1 o3 h4 hy5
  refine ab.seq (ab.aa ?_)
  refine ae.ite h4 (fun hc6 h4=>?_) (fun hc6 h4=>?_)
  ·refine Oc (qH rfl rfl (of_decide_eq_true hc6)) (Oc (ay rfl rfl) ?_)
   refine ae.an ⟨[(1,_),(2,_),(10,_),(11,.eY [.one (.bool true),.one (.i (xp_1:Nat)),.one (.int .i32 (kB s0 xp_1))]),(12,B true)],[(101,.uS s0 (iH s0 xp_1))]⟩ rfl (ab.seq (ab.Bp rfl (ab.skip (Fin.ag ⟨[(1,_),(2,_),(10,_),(11,_)],[(101,_)]⟩ rfl (Fin.then (ab.block (ab.seq (ab.aa ?_))))))))
   refine Oc (ay rfl rfl) (Oc (ay rfl rfl) (Oc oa (Oc oa ?_)))
   refine ae.an ⟨[(1,_),(2,_),(7,I (xp_1:Nat)),(8,.b (.one (.int .i32 (kB s0 xp_1)))),(10,_)],[(101,_)]⟩ rfl (ab.seq (ab.aa ?_))
   refine Oc om (Oc om ?_)
   obtain ⟨x_2,e7,h4⟩:=aD h4
   refine Oc (rz (zE e7) (zF e7) rfl rfl rfl) (Oc om (Oc (qJ sC rfl rfl) ?_))
   refine ae.an ⟨[(1,_),(2,_),(7,_),(10,_),(19,B (x_2 == truth0))],[(101,_)]⟩ rfl (ab.ite h4 rfl (fun _ h4=>?_) (fun _ h4=>?_))
   ·refine ab.seq (ab.aa ?_)
    refine Oc om (Oc oa ?_)
    refine ae.an ⟨[(6,I (xp_1:Nat))],[]⟩ rfl (ab.ret (Fin.bb ?_))
    obtain rfl:=hy5 _ (Option.some.inj h4).symm
    refine Fin.aw (Fin.bb (Fin.aw ?_))
    obtain rfl:=Option.some.inj h
    refine Fin.ag ⟨[(6,_)],[]⟩ rfl (Fin.aq [.one (.i (xp_1:Nat))] (.inl rfl) rfl (.cons (.tmp rfl) .nil) ⟨rfl,rfl⟩)
   ·refine ab.skip (Fin.aI ?_)
    exact Fin.b6 [1,2,10] [101] (iH s0 xp_1) (Option.some.inj h4) rfl
  ·refine Oc (qG rfl rfl (Nat.not_lt.1 (of_decide_eq_false hc6))) (Oc (ay rfl rfl) ?_)
   refine ae.an ⟨[(1,_),(2,_),(10,_),(11,.eY [.one (.bool false)]),(12,B false)],[(101,_)]⟩ rfl (ab.seq (ab.yU rfl (ab.exit (Fin.aF ?_))))
   obtain rfl:=hy5 _ (Option.some.inj h4).symm
   refine Fin.aF (Fin.aX ?_)
   exact Fin.join [] [] () rfl rfl
 ·rintro _ hv
  subst v1
  refine ab.seq (ab.aa ?_)
  refine Oc oa (ae.an ⟨[(6,I (-1))],[]⟩ rfl (ab.ret ?_))
  obtain rfl:=Option.some.inj h
  refine Fin.ag ⟨[(6,_)],[]⟩ rfl (Fin.aq [.one (.i (-1))] (.inl rfl) rfl (.cons (.tmp rfl) .nil) ⟨rfl,rfl⟩)
def hC (F:Nat) (s0:bA) (f0:Nat):Option bA :=
 (gz F s0 f0 false).bind fun x_1=>if (decide (x_1 = (-1))) = true then (some []) else ((pT s0 x_1).bind fun x_2=>some x_2)
theorem mP {F:Nat} {s0:bA} {f0:Nat} {r:bA} (h:hC F s0 f0 = some r):aA Tryz.prog (bd mx) 196 [] [.one (.str s0),.one (.raw (.func (.func f0) #[] #[]))] (Is [] (.b (.one (.str r)))):=by
 unfold hC at h
 refine aA.intro 14 Tryz.func196 Tryz.ntmps196 rfl (by simp) fun E=>?_
 show ab _ E ⟨14,[],[]⟩ _ ⟨[(0,.b (.one (.str s0))),(1,.b (.one (.raw (.func (.func f0) #[] #[]))))],[]⟩ _
 refine ab.seq (ab.aa ?_)
 refine Oc oa (ae.an ⟨[(0,.b (.one (.str s0))),(1,.b (.one (.raw (.func (.func f0) #[] #[]))))],[]⟩ rfl (ab.seq (ab.aa ?_)))
 refine Oc om (Oc om ?_)
 obtain ⟨x_1,e1,h⟩:=aD h
 refine Oc (ad (kw e1) BY rfl rfl) (Oc oa ?_)
 refine ae.an ⟨[(0,_),(5,I x_1)],[]⟩ rfl (ab.seq (ab.seq (ab.aa ?_)))
 refine Oc om (Oc (cR rfl rfl) ?_)
 refine ae.an ⟨[(0,_),(5,_),(10,B (decide (x_1 = (-1))))],[]⟩ rfl (ab.ite h rfl (fun _ h=>?_) (fun _ h=>?_))
 ·refine ab.seq (ab.aa ?_)
  refine Oc oa (ae.an ⟨[(4,.b (.one (.str [])))],[]⟩ rfl (ab.ret (Fin.aw ?_)))
  obtain rfl:=Option.some.inj h
  refine Fin.ag ⟨[(4,_)],[]⟩ rfl (Fin.aq [.one (.str [])] (.inl rfl) rfl (.cons (.tmp rfl) .nil) ⟨rfl,rfl⟩)
 ·refine ab.skip (Fin.ag ⟨[(0,_),(5,_)],[]⟩ rfl (Fin.then (ab.seq (ab.aa ?_))))
  refine Oc om (Oc om ?_)
  obtain ⟨x_2,e2,h⟩:=aD h
  refine Oc (gI iF e2 rfl rfl) (Oc oa ?_)
  refine ae.an ⟨[(4,.b (.one (.str x_2)))],[]⟩ rfl (ab.ret ?_)
  obtain rfl:=Option.some.inj h
  refine Fin.ag ⟨[(4,_)],[]⟩ rfl (Fin.aq [.one (.str x_2)] (.inl rfl) rfl (.cons (.tmp rfl) .nil) ⟨rfl,rfl⟩)
def gY (F:Nat) (is0:Nat) (r0s:bA) (r0q:az) (r0sign:Int):Option (bA × bA) :=
 (hC F r0s is0).bind fun x_1=>(rJ r0s (IntKind.i64.wrap ((r0s.length:Int) - (x_1.length:Int)))).bind fun x_2=>some (x_2,x_1)
theorem kA {F:Nat} {is0:Nat} {r0s:bA} {r0q:az} {r0sign:Int} {r:bA × bA} (h:gY F is0 r0s r0q r0sign = some r):aA Tryz.prog (bd mx) 172 [(1,.box 94 (.str r0s :: (ao r0q ++ ([.i r0sign]))))] [.ptr 1 0,.one (.raw (.func (.func is0) #[] #[]))] (Is [(1,.box 94 (.str r.2 :: (ao r0q ++ ([.i r0sign]))))] (.b (.one (.str r.1)))):=by
 unfold gY at h
 refine aA.intro 31 Tryz.func172 Tryz.ntmps172 rfl (by simp) fun E=>?_
 show ab _ E ⟨31,[1],[1]⟩ _ ⟨[(0,Pt 1 0),(1,.b (.one (.raw (.func (.func is0) #[] #[]))))],[(1,.box 94 (.str r0s :: (ao r0q ++ ([.i r0sign]))))]⟩ _
 refine ab.seq (ab.aa ?_)
 refine Oc oa (ae.an ⟨[(0,Pt 1 0),(1,.b (.one (.raw (.func (.func is0) #[] #[]))))],[(1,.box 94 (.str r0s :: (ao r0q ++ ([.i r0sign]))))]⟩ rfl (ab.seq (ab.aa ?_)))
 refine Oc om (Oc (aW rfl) (Oc (af dH rfl rfl) (Oc (au fi rfl rfl rfl) (Oc om ?_))))
 obtain ⟨x_1,e1,h⟩:=aD h
 refine Oc (ad (mP e1) goes196 rfl rfl) (Oc oa ?_)
 refine ae.an ⟨[(0,_),(5,.b (.one (.str x_1)))],[(1,_)]⟩ rfl (ab.seq ?_)
 obtain ⟨x_2,e2,h⟩:=aD h
 refine ab.bm mixed 14 [Pt 1 0,Pt 1 0,Pt 1 0,.b (.one (.str r0s)),Pt 1 0,Pt 1 0,Pt 1 0,.b (.one (.str r0s)),I (r0s.length:Int),.b (.one (.str x_1)),I (x_1.length:Int),I (IntKind.i64.wrap ((r0s.length:Int) - (x_1.length:Int))),.b (.one (.str x_2)),.b (.one (.str x_2))] [0,5,6] [1] (s':=⟨[(0,_),(5,_),(6,.b (.one (.str x_2)))],[(1,_)]⟩) rfl ⟨fun _=>.p om,fun _=>.p (aW rfl),fun _=>.p (af dH rfl rfl),fun _=>.p (au fi rfl rfl rfl),fun _=>.p om,fun _=>.p (aW rfl),fun _=>.p (af dH rfl rfl),fun _=>.p (au fi rfl rfl rfl),fun _=>.p (dR iF rfl),fun _=>.p om,fun _=>.p (dR iF rfl),fun _=>.p (b7 rfl rfl),fun _=>.p (mK iF e2 rfl rfl),fun _=>.p oa,trivial⟩ rfl rfl (ab.seq (ab.aa ?_))
 refine Oc om (Oc om (Oc (aW rfl) (Oc (af dH rfl rfl) (Oc (cc fi rfl rfl rfl (Nat.le_of_ble_eq_true rfl) rfl) ?_))))
 refine ae.an ⟨[(6,_)],[(1,.box 94 (.str x_1 :: (ao r0q ++ ([.i r0sign]))))]⟩ rfl (ab.seq (ab.aa ?_))
 refine Oc om (Oc oa ?_)
 refine ae.an ⟨[(4,.b (.one (.str x_2)))],[(1,_)]⟩ rfl (ab.ret ?_)
 obtain rfl:=Option.some.inj h
 refine Fin.ag ⟨[(4,_)],[(1,_)]⟩ rfl ?_
 exact Fin.result [.one (.str x_2)] (.inl rfl) rfl (.cons (.tmp rfl) .nil) ⟨rfl,rfl⟩
def jH (F:Nat) (r0s:bA) (r0q:az) (r0sign:Int):Option (bA × bA) :=
 (gA F r0s [49]).bind fun x_1=>(bE (!x_1) (gA F r0s [37])).bind fun x_2=>if (x_1 || x_2) = true then ((rJ r0s 1).bind fun x_3=>(pT r0s 1).bind fun x_4=>some (x_3,x_4)) else (Option.bind (gY F 173 r0s r0q r0sign) (b9 fun x_5 x_6=>some (x_5,x_6)))
theorem pQ {F:Nat} {r0s:bA} {r0q:az} {r0sign:Int} {r:bA × bA} (h:jH F r0s r0q r0sign = some r):aA Tryz.prog (bd mx) 132 [(1,.box 94 (.str r0s :: (ao r0q ++ ([.i r0sign]))))] [.ptr 1 0] (Is [(1,.box 94 (.str r.2 :: (ao r0q ++ ([.i r0sign]))))] (.b (.one (.str r.1)))):=by
 unfold jH at h
 refine aA.intro 32 Tryz.func132 Tryz.ntmps132 rfl (by simp) fun E=>?_
 show ab _ E ⟨32,[1],[1]⟩ _ ⟨[(0,Pt 1 0)],[(1,.box 94 (.str r0s :: (ao r0q ++ ([.i r0sign]))))]⟩ _
 refine ab.seq (ab.aa ?_)
 refine Oc oa (ae.an ⟨[(0,Pt 1 0)],[(1,.box 94 (.str r0s :: (ao r0q ++ ([.i r0sign]))))]⟩ rfl (ab.seq (ab.seq (ab.aa ?_))))
 refine Oc om (Oc (aW rfl) (Oc (af dH rfl rfl) (Oc (au fi rfl rfl rfl) ?_)))
 obtain ⟨x_1,e1,h⟩:=aD h
 refine Oc (ad (hD e1) yr rfl rfl) (ae.ag ⟨[(0,_),(8,B x_1)],[(1,_)]⟩ rfl (Oc om (cx (!x_1) [] (fun g2=>by exact trivial) (fun g2=>om) (cx (!x_1) [10] (fun g3=>by exact ⟨g3,trivial⟩) (fun g3=>aW rfl) (cx (!x_1) [11] (fun g4=>by exact ⟨g4,trivial⟩) (fun g4=>af dH rfl rfl) ?_)))))
 refine cx (!x_1) [12] (fun g5=>⟨g5,trivial⟩) (fun g5=>au fi rfl rfl rfl) ?_
 obtain ⟨x_2,e7,h⟩:=aD h
 refine cx (!x_1) [13] (fun g6=>⟨g6,trivial⟩) (fun g6=>ad (hD (gc e7 g6)) yr rfl rfl) (Oc (aQ (fun e=>by rw [e]; rfl) rfl rfl rfl rfl) (ae.an ⟨[(0,_),(15,B (x_1 || x_2))],[(1,_)]⟩ rfl (ab.ite h rfl (fun _ h=>?_) (fun _ h=>?_))))
 ·refine ab.seq (ab.aa ?_)
  refine Oc om (Oc (aW rfl) (Oc (af dH rfl rfl) (Oc (au fi rfl rfl rfl) ?_)))
  obtain ⟨x_3,e8,h⟩:=aD h
  refine Oc (mK iF e8 rfl rfl) (Oc oa ?_)
  refine ae.an ⟨[(0,_),(3,.b (.one (.str x_3)))],[(1,_)]⟩ rfl (ab.seq (ab.aa ?_))
  refine Oc om (Oc om (Oc (aW rfl) (Oc (af dH rfl rfl) (Oc (au fi rfl rfl rfl) ?_))))
  obtain ⟨x_4,e9,h⟩:=aD h
  refine Oc (gI iF e9 rfl rfl) (Oc (aW rfl) (Oc (af dH rfl rfl) (Oc (cc fi rfl rfl rfl (Nat.le_of_ble_eq_true rfl) rfl) ?_)))
  refine ae.an ⟨[(3,_)],[(1,.box 94 (.str x_4 :: (ao r0q ++ ([.i r0sign]))))]⟩ rfl (ab.seq (ab.aa ?_))
  refine Oc om (Oc oa ?_)
  refine ae.an ⟨[(2,.b (.one (.str x_3)))],[(1,_)]⟩ rfl (ab.ret (Fin.aw ?_))
  obtain rfl:=Option.some.inj h
  refine Fin.ag ⟨[(2,_)],[(1,_)]⟩ rfl ?_
  exact Fin.result [.one (.str x_3)] (.inl rfl) rfl (.cons (.tmp rfl) .nil) ⟨rfl,rfl⟩
 ·refine ab.skip (Fin.ag ⟨[(0,_)],[(1,_)]⟩ rfl (Fin.then (ab.seq (ab.aa ?_))))
  refine Oc om ?_
  obtain ⟨⟨x_5,x_6⟩,e10,h⟩:=aD h
  refine Oc (kU (own_a:=[(1,_)]) (kA e10) B3 rfl ⟨rfl,trivial⟩ rfl rfl) (Oc oa ?_)
  refine ae.an ⟨[(2,.b (.one (.str x_5)))],[(1,.box 94 (.str x_6 :: (ao r0q ++ ([.i r0sign]))))]⟩ rfl (ab.ret ?_)
  obtain rfl:=Option.some.inj h
  refine Fin.ag ⟨[(2,_)],[(1,_)]⟩ rfl ?_
  exact Fin.result [.one (.str x_5)] (.inl rfl) rfl (.cons (.tmp rfl) .nil) ⟨rfl,rfl⟩
def gL (F:Nat) (s0:bA) (prefix0:bA):Option Bool :=
 (bE (decide ((prefix0.length:Int) ≤ (s0.length:Int))) (rJ s0 (prefix0.length:Int))).bind fun x_1=>bN ((decide ((prefix0.length:Int) ≤ (s0.length:Int))) && (decide (x_1 = prefix0))) fun x_2=>some x_2
theorem mM {F:Nat} {s0:bA} {prefix0:bA} {r:Bool} (h:gL F s0 prefix0 = some r):aA Tryz.prog (bd mx) 165 [] [.one (.str s0),.one (.str prefix0)] (Is [] (.b (.one (.bool r)))):=by
 unfold gL at h
 refine aA.intro 18 Tryz.func165 Tryz.ntmps165 rfl (by simp) fun E=>?_
 show ab _ E ⟨18,[],[]⟩ _ ⟨[(0,.b (.one (.str s0))),(1,.b (.one (.str prefix0)))],[]⟩ _
 refine ab.seq (ab.aa ?_)
 refine Oc oa (ae.an ⟨[(0,.b (.one (.str s0))),(1,.b (.one (.str prefix0)))],[]⟩ rfl (ab.seq (ab.aa ?_)))
 refine Oc om (Oc (dR iF rfl) (Oc om (Oc (dR iF rfl) (Oc (gC rfl rfl) ?_))))
 refine ae.ag ⟨[(0,_),(1,_),(9,B (decide ((prefix0.length:Int) ≤ (s0.length:Int))))],[]⟩ rfl (Oc om (cG (decide ((prefix0.length:Int) ≤ (s0.length:Int))) [] (fun g1=>by exact trivial) (fun g1=>om) (cG (decide ((prefix0.length:Int) ≤ (s0.length:Int))) [] (fun g2=>by exact trivial) (fun g2=>om) (cG (decide ((prefix0.length:Int) ≤ (s0.length:Int))) [12] (fun g3=>by exact ⟨g3,trivial⟩) (fun g3=>dR iF rfl) ?_))))
 obtain ⟨x_1,e5,h⟩:=aD h
 refine cG (decide ((prefix0.length:Int) ≤ (s0.length:Int))) [11,13] (fun g4=>⟨g4,g4,trivial⟩) (fun g4=>mK iF (gc e5 g4) rfl rfl) (cG (decide ((prefix0.length:Int) ≤ (s0.length:Int))) [] (fun g6=>trivial) (fun g6=>om) (cG (decide ((prefix0.length:Int) ≤ (s0.length:Int))) [14,15] (fun g7=>by exact ⟨g7,g7,trivial⟩) (fun g7=>c7 rfl rfl) (ae.mX h rfl (aG (fun e=>e) rfl rfl rfl rfl) (fun x_2 h=>?_))))
 refine Oc oa (ae.an ⟨[(4,B x_2)],[]⟩ rfl (ab.ret ?_))
 obtain rfl:=Option.some.inj h
 refine Fin.ag ⟨[(4,_)],[]⟩ rfl (Fin.aq [.one (.bool x_2)] (.inl rfl) rfl (.cons (.tmp rfl) .nil) ⟨rfl,rfl⟩)
def gM (F:Nat) (s0:bA) (prefix0:bA):Option (bA × Bool) :=
 (gL F s0 prefix0).bind fun x_1=>if (!x_1) = true then (some (s0,false)) else ((pT s0 (prefix0.length:Int)).bind fun x_2=>some (x_2,true))
theorem mN {F:Nat} {s0:bA} {prefix0:bA} {r:bA × Bool} (h:gM F s0 prefix0 = some r):aA Tryz.prog (bd mx) 163 [] [.one (.str s0),.one (.str prefix0)] (Is [] (.eY [.one (.str r.1),.one (.bool r.2)])):=by
 unfold gM at h
 refine aA.intro 15 Tryz.func163 Tryz.ntmps163 rfl (by simp) fun E=>?_
 show ab _ E ⟨15,[],[]⟩ _ ⟨[(0,.b (.one (.str s0))),(1,.b (.one (.str prefix0)))],[]⟩ _
 refine ab.seq (ab.aa ?_)
 refine Oc oa (Oc oa ?_)
 refine ae.an ⟨[(0,.b (.one (.str s0))),(1,.b (.one (.str prefix0)))],[]⟩ rfl (ab.seq (ab.seq (ab.aa ?_)))
 refine Oc om (Oc om ?_)
 obtain ⟨x_1,e1,h⟩:=aD h
 refine Oc (ad (mM e1) goes165 rfl rfl) (Oc (aT rfl) ?_)
 refine ae.an ⟨[(0,_),(1,_),(9,B (!x_1))],[]⟩ rfl (ab.ite h rfl (fun _ h=>?_) (fun _ h=>?_))
 ·refine ab.seq (ab.aa ?_)
  refine Oc om (Oc oa (Oc oa ?_))
  refine ae.an ⟨[(4,.b (.one (.str s0))),(5,B false)],[]⟩ rfl (ab.ret (Fin.aw ?_))
  obtain rfl:=Option.some.inj h
  refine Fin.ag ⟨[(4,_),(5,_)],[]⟩ rfl (Fin.aq [.one (.str s0),.one (.bool false)] (.inl rfl) rfl (.cons (.tmp rfl) (.cons (.tmp rfl) .nil)) ⟨rfl,rfl⟩)
 ·refine ab.skip (Fin.ag ⟨[(0,_),(1,_)],[]⟩ rfl (Fin.then (ab.seq (ab.aa ?_))))
  refine Oc om (Oc om (Oc (dR iF rfl) ?_))
  obtain ⟨x_2,e2,h⟩:=aD h
  refine Oc (gI iF e2 rfl rfl) (Oc oa (Oc oa ?_))
  refine ae.an ⟨[(4,.b (.one (.str x_2))),(5,B true)],[]⟩ rfl (ab.ret ?_)
  obtain rfl:=Option.some.inj h
  refine Fin.ag ⟨[(4,_),(5,_)],[]⟩ rfl (Fin.aq [.one (.str x_2),.one (.bool true)] (.inl rfl) rfl (.cons (.tmp rfl) (.cons (.tmp rfl) .nil)) ⟨rfl,rfl⟩)
def fB (F:Nat) (s0:bA) (prefix0:bA):Option (bA × Bool) :=
 Option.bind (gM F s0 prefix0) (b9 fun x_1 x_2=>some (x_1,x_2))
theorem hE {F:Nat} {s0:bA} {prefix0:bA} {r:bA × Bool} (h:fB F s0 prefix0 = some r):aA Tryz.prog (bd mx) 117 [] [.one (.str s0),.one (.str prefix0)] (Is [] (.eY [.one (.str r.1),.one (.bool r.2)])):=by
 unfold fB at h
 refine aA.intro 11 Tryz.func117 Tryz.ntmps117 rfl (by simp) fun E=>?_
 show ab _ E ⟨11,[],[]⟩ _ ⟨[(0,.b (.one (.str s0))),(1,.b (.one (.str prefix0)))],[]⟩ _
 refine ab.seq (ab.aa ?_)
 refine Oc oa (Oc oa ?_)
 refine ae.an ⟨[(0,.b (.one (.str s0))),(1,.b (.one (.str prefix0)))],[]⟩ rfl (ab.seq (ab.aa ?_))
 refine Oc om (Oc om ?_)
 obtain ⟨⟨x_1,x_2⟩,e1,h⟩:=aD h
 refine Oc (ad (mN e1) goes163 rfl rfl) (Oc (ay rfl rfl) (Oc (ay rfl rfl) (Oc oa (Oc oa ?_))))
 refine ae.an ⟨[(4,.b (.one (.str x_1))),(5,B x_2)],[]⟩ rfl (ab.ret ?_)
 obtain rfl:=Option.some.inj h
 refine Fin.ag ⟨[(4,_),(5,_)],[]⟩ rfl (Fin.aq [.one (.str x_1),.one (.bool x_2)] (.inl rfl) rfl (.cons (.tmp rfl) (.cons (.tmp rfl) .nil)) ⟨rfl,rfl⟩)
def gZ (F:Nat) (r0s:bA) (r0q:az) (r0sign:Int):Option (Int × Int × bA) :=
 Option.bind (fB F r0s [94]) (b9 fun x_1 x_2=>if (!x_2) = true then (some (1,0,r0s)) else (Option.bind (fB F x_1 [45]) (b9 fun x_3 x_4=>Option.bind (gY F 120 x_3 r0q r0sign) (b9 fun x_5 x_6=>Option.bind (iter F (b9 fun n_8 xp_9=>if decide (xp_9 < x_5.length) = true then (bN (IntKind.i32.wrap ((kB x_5 xp_9) - 48)) fun x_11=>bN (IntKind.i64.wrap ((IntKind.i64.wrap (n_8 * 10)) + (IntKind.i64.wrap x_11))) fun x_12=>some (.inl (min x_12 17,iH x_5 xp_9))) else (some (.inr n_8))) (0,0)) (fun n_7=>(bE ((!((decide (x_5 = [])) || (decide (16 < n_7)))) && (decide (1 < (x_5.length:Int)))) (bI x_5 0)).bind fun x_13=>bN (((decide (x_5 = [])) || (decide (16 < n_7))) || ((decide (1 < (x_5.length:Int))) && (decide ((x_13.toNat:Int) = 48)))) fun x_14=>if (x_14 || (x_4 && (decide (n_7 = 0)))) = true then (some (0,280,x_6)) else (Option.bind (if x_4 = true then (some (IntKind.i64.wrap (-n_7))) else (some n_7)) (fun n_15=>some (n_15,0,x_6))))))))
theorem mO {F:Nat} {r0s:bA} {r0q:az} {r0sign:Int} {r:Int × Int × bA} (h:gZ F r0s r0q r0sign = some r):aA Tryz.prog (bd mx) 133 [(1,.box 94 (.str r0s :: (ao r0q ++ ([.i r0sign]))))] [.ptr 1 0] (Is [(1,.box 94 (.str r.2.2 :: (ao r0q ++ ([.i r0sign]))))] (.eY [.one (.i r.1),.one (.i r.2.1)])):=by
 unfold gZ at h
 refine aA.intro 69 Tryz.func133 Tryz.ntmps133 rfl (by simp) fun E=>?_
 show ab _ E ⟨69,[1],[1]⟩ _ ⟨[(0,Pt 1 0)],[(1,.box 94 (.str r0s :: (ao r0q ++ ([.i r0sign]))))]⟩ _
 refine ab.seq (ab.aa ?_)
 refine Oc oa (Oc oa ?_)
 refine ae.an ⟨[(0,Pt 1 0)],[(1,.box 94 (.str r0s :: (ao r0q ++ ([.i r0sign]))))]⟩ rfl (ab.seq (ab.aa ?_))
 refine Oc om (Oc (aW rfl) (Oc (af dH rfl rfl) (Oc (au fi rfl rfl rfl) ?_)))
 obtain ⟨⟨x_1,x_2⟩,e1,h⟩:=aD h
 refine Oc (ad (hE e1) yu rfl rfl) (ae.ag ⟨[(0,_),(15,.eY [.one (.str x_1),.one (.bool x_2)])],[(1,_)]⟩ rfl (Oc om (Oc (ay rfl rfl) (Oc (ay rfl rfl) (Oc oa (Oc oa ?_))))))
 refine ae.an ⟨[(0,_),(4,.b (.one (.str x_1))),(5,B x_2)],[(1,_)]⟩ rfl (ab.seq (ab.seq (ab.aa ?_)))
 refine Oc om (Oc (aT rfl) ?_)
 refine ae.an ⟨[(0,_),(4,_),(19,B (!x_2))],[(1,_)]⟩ rfl (ab.ite h rfl (fun _ h=>?_) (fun _ h=>?_))
 ·refine ab.seq (ab.aa ?_)
  refine Oc oa (Oc oa ?_)
  refine ae.an ⟨[(2,I 1),(3,I 0)],[(1,_)]⟩ rfl (ab.ret (Fin.aw ?_))
  obtain rfl:=Option.some.inj h
  refine Fin.ag ⟨[(2,_),(3,_)],[(1,_)]⟩ rfl ?_
  exact Fin.result [.one (.i 1),.one (.i 0)] (.inl rfl) rfl (.cons (.tmp rfl) (.cons (.tmp rfl) .nil)) ⟨rfl,rfl⟩
 ·refine ab.skip (Fin.ag ⟨[(0,_),(4,_)],[(1,_)]⟩ rfl (Fin.then (ab.seq (ab.aa ?_))))
  refine Oc om (Oc om ?_)
  obtain ⟨⟨x_3,x_4⟩,e2,h⟩:=aD h
  refine Oc (ad (hE e2) yu rfl rfl) (Oc om (Oc (ay rfl rfl) ?_))
  refine ae.ag ⟨[(0,_),(20,.eY [.one (.str x_3),.one (.bool x_4)]),(21,Pt 1 0),(24,.b (.one (.str x_3)))],[(1,_)]⟩ rfl (Oc (ay rfl rfl) (Oc (aW rfl) (Oc (af dH rfl rfl) (Oc (cc fi rfl rfl rfl (Nat.le_of_ble_eq_true rfl) rfl) (Oc oa ?_)))))
  refine ae.an ⟨[(0,_),(5,B x_4)],[(1,.box 94 (.str x_3 :: (ao r0q ++ ([.i r0sign]))))]⟩ rfl (ab.seq (ab.aa ?_))
  refine Oc om ?_
  obtain ⟨⟨x_5,x_6⟩,e3,h⟩:=aD h
  refine Oc (kU (own_a:=[(1,_)]) (kA e3) B3 rfl ⟨rfl,trivial⟩ rfl rfl) (Oc oa ?_)
  refine ae.an ⟨[(5,_),(6,.b (.one (.str x_5)))],[(1,.box 94 (.str x_6 :: (ao r0q ++ ([.i r0sign]))))]⟩ rfl (ab.seq (ab.aa ?_))
  refine Oc oa (ae.an ⟨[(5,_),(6,_),(7,I 0)],[(1,_)]⟩ rfl ?_)
  obtain ⟨v4,h5,h⟩:=aD h
  refine ab.cB (v:=v4) (fun (n_7:Int)=>⟨[(5,B x_4),(6,.b (.one (.str x_5))),(7,I n_7)],[(1,.box 94 (.str x_6 :: (ao r0q ++ ([.i r0sign]))))]⟩) (fun z=>z) ?_ ?_
  ·refine ab.seq (ab.aa ?_)
   refine Oc om (Oc (pq (k:=101) iF rfl rfl) ?_)
   refine ae.an ⟨[(5,_),(6,_),(7,_),(31,Pt 101 0)],[(1,_),(101,.uS x_5 0)]⟩ rfl (ab.block (ab.cW h5 (b9 fun (n_8:Int) (xp_9:Nat)=>⟨[(5,B x_4),(6,.b (.one (.str x_5))),(7,I n_8),(31,Pt 101 0)],[(1,.box 94 (.str x_6 :: (ao r0q ++ ([.i r0sign])))),(101,.uS x_5 xp_9)]⟩) [5,6,7,31] [1,101] rfl ?_))
   rintro ⟨n_8,xp_9⟩ o6 h7 hy8
   refine ab.seq (ab.aa ?_)
   refine ae.ite h7 (fun hc9 h7=>?_) (fun hc9 h7=>?_)
   ·refine Oc (qH rfl rfl (of_decide_eq_true hc9)) (Oc (ay rfl rfl) ?_)
    refine ae.an ⟨[(5,_),(6,_),(7,_),(31,_),(32,.eY [.one (.bool true),.one (.i (xp_9:Nat)),.one (.int .i32 (kB x_5 xp_9))]),(33,B true)],[(1,_),(101,.uS x_5 (iH x_5 xp_9))]⟩ rfl (ab.seq (ab.Bp rfl (ab.skip (Fin.ag ⟨[(5,_),(6,_),(7,_),(31,_),(32,_)],[(1,_),(101,_)]⟩ rfl (Fin.then (ab.block (ab.seq (ab.aa ?_))))))))
    refine Oc (ay rfl rfl) (Oc oa ?_)
    refine ae.an ⟨[(5,_),(6,_),(7,_),(9,.b (.one (.int .i32 (kB x_5 xp_9)))),(31,_)],[(1,_),(101,_)]⟩ rfl (ab.aa (Oc om (Oc (eP rfl rfl) (Oc om ?_))))
    refine ae.cD .i32 h7 rfl (b7 rfl rfl) (fun x_11 h7=>?_)
    refine Oc (aH Du kz rfl) (ae.cD .i64 h7 rfl (bg rfl rfl) (fun x_12 h7=>?_))
    refine Oc (DJ rfl rfl) (Oc oa ?_)
    refine ae.nil (Fin.aI ?_)
    exact Fin.b6 [5,6,7,31] [1,101] (min x_12 17,iH x_5 xp_9) (Option.some.inj h7) rfl
   ·refine Oc (qG rfl rfl (Nat.not_lt.1 (of_decide_eq_false hc9))) (Oc (ay rfl rfl) ?_)
    refine ae.an ⟨[(5,_),(6,_),(7,_),(31,_),(32,.eY [.one (.bool false)]),(33,B false)],[(1,_),(101,_)]⟩ rfl (ab.seq (ab.yU rfl (ab.exit (Fin.aF ?_))))
    obtain rfl:=hy8 _ (Option.some.inj h7).symm
    refine Fin.aF (Fin.aX ?_)
    exact Fin.join [5,6,7] [1] n_8 rfl rfl
  ·rintro n_7 hv
   subst v4
   refine ab.seq (ab.seq (ab.aa ?_))
   refine Oc om (Oc (c7 rfl rfl) (Oc om ?_))
   refine cx (!(decide (x_5 = []))) [] (fun g10=>trivial) (fun g10=>om) (cx (!(decide (x_5 = []))) [45] (fun g11=>by exact ⟨g11,trivial⟩) (fun g11=>fj rfl rfl) (Oc (aQ (fun e=>by rw [e]; rfl) rfl rfl rfl rfl) (Oc om ?_)))
   refine ae.ag ⟨[(5,_),(6,_),(7,_),(48,B ((decide (x_5 = [])) || (decide (16 < n_7))))],[(1,_)]⟩ rfl (cx (!((decide (x_5 = [])) || (decide (16 < n_7)))) [] (fun g12=>trivial) (fun g12=>om) (cx (!((decide (x_5 = [])) || (decide (16 < n_7)))) [49] (fun g13=>by exact ⟨g13,trivial⟩) (fun g13=>dR iF rfl) (cx (!((decide (x_5 = [])) || (decide (16 < n_7)))) [50] (fun g14=>by exact ⟨g14,trivial⟩) (fun g14=>fj rfl rfl) (cx (!((decide (x_5 = [])) || (decide (16 < n_7)))) [51] (fun g15=>by exact ⟨g15,trivial⟩) (fun g15=>om) (ae.jj ((!((decide (x_5 = [])) || (decide (16 < n_7)))) && (decide (1 < (x_5.length:Int)))) 99 [] (.under rfl) (ma _ _) rfl rfl (fun g16=>by exact trivial) (fun g16=>om) ?_)))))
   obtain ⟨x_13,e18,h⟩:=aD h
   refine ae.jj ((!((decide (x_5 = [])) || (decide (16 < n_7)))) && (decide (1 < (x_5.length:Int)))) 99 [53] (.under rfl) (ma _ _) rfl rfl (fun g17=>⟨g17,trivial⟩) (fun g17=>kr iF rfl rfl (bx (gc e18 g17)) (p5 (gc e18 g17))) (ae.jj ((!((decide (x_5 = [])) || (decide (16 < n_7)))) && (decide (1 < (x_5.length:Int)))) 99 [54] (.under rfl) (ma _ _) rfl rfl (fun g19=>⟨g19,trivial⟩) (fun g19=>cR rfl rfl) (ae.ag ⟨[(5,_),(7,_),(48,_),(52,.dh (!((decide (x_5 = [])) || (decide (16 < n_7)))) (.one (.bool (decide (1 < (x_5.length:Int)))))),(55,.dh ((!((decide (x_5 = [])) || (decide (16 < n_7)))) && (decide (1 < (x_5.length:Int)))) (.one (.bool (decide ((x_13.toNat:Int) = 48)))))],[(1,_)]⟩ rfl (cx (!((decide (x_5 = [])) || (decide (16 < n_7)))) [52] (fun g20=>⟨g20,trivial⟩) (fun g20=>aG (fun e=>by rw [g20,e]; rfl) rfl rfl rfl rfl) (ae.mX h rfl (aQ (fun e=>by rw [e]; rfl) rfl rfl rfl rfl) (fun x_14 h=>?_)))))
   refine Oc om (cx (!x_14) [] (fun g21=>by exact trivial) (fun g21=>om) (cx (!x_14) [59] (fun g22=>by exact ⟨g22,trivial⟩) (fun g22=>om) (ae.jj ((!x_14) && x_4) 99 [] (.under rfl) (ma _ _) rfl rfl (fun g23=>by exact trivial) (fun g23=>om) (ae.jj ((!x_14) && x_4) 99 [61] (.under rfl) (ma _ _) rfl rfl (fun g24=>by exact ⟨g24,trivial⟩) (fun g24=>cR rfl rfl) (cx (!x_14) [60] (fun g25=>by exact ⟨g25,trivial⟩) (fun g25=>aG (fun e=>by rw [g25,e]; rfl) rfl rfl rfl rfl) ?_)))))
   refine Oc (aQ (fun e=>by rw [e]; rfl) rfl rfl rfl rfl) (ae.an ⟨[(5,_),(7,_),(64,B (x_14 || (x_4 && (decide (n_7 = 0)))))],[(1,_)]⟩ rfl (ab.ite h rfl (fun _ h=>?_) (fun _ h=>?_)))
   ·refine ab.seq (ab.aa ?_)
    refine Oc oa (Oc oa ?_)
    refine ae.an ⟨[(2,I 0),(3,I 280)],[(1,_)]⟩ rfl (ab.ret (Fin.aw ?_))
    obtain rfl:=Option.some.inj h
    refine Fin.ag ⟨[(2,_),(3,_)],[(1,_)]⟩ rfl ?_
    exact Fin.result [.one (.i 0),.one (.i 280)] (.inl rfl) rfl (.cons (.tmp rfl) (.cons (.tmp rfl) .nil)) ⟨rfl,rfl⟩
   ·refine ab.skip (Fin.ag ⟨[(5,_),(7,_)],[(1,_)]⟩ rfl (Fin.then ?_))
    obtain ⟨v26,h27,h⟩:=aD h
    refine ab.cB (v:=v26) (fun (n_15:Int)=>⟨[(7,I n_15)],[(1,.box 94 (.str x_6 :: (ao r0q ++ ([.i r0sign]))))]⟩) (fun z=>z) ?_ ?_
    ·refine ab.seq (ab.aa ?_)
     refine Oc om (ae.an ⟨[(7,_),(65,B x_4)],[(1,_)]⟩ rfl (ab.ite h27 rfl (fun _ h27=>?_) (fun _ h27=>?_)))
     ·refine ab.aa (Oc om (Oc (lz rfl) (Oc oa ?_)))
      refine ae.nil ?_
      exact Fin.join [7] [1] (IntKind.i64.wrap (-n_7)) (Option.some.inj h27) rfl
     ·refine ab.skip ?_
      exact Fin.join [7] [1] n_7 (Option.some.inj h27) rfl
    ·rintro n_15 hv
     subst v26
     refine ab.seq (ab.aa ?_)
     refine Oc om (Oc oa (Oc oa ?_))
     refine ae.an ⟨[(2,I n_15),(3,I 0)],[(1,_)]⟩ rfl (ab.ret ?_)
     obtain rfl:=Option.some.inj h
     refine Fin.ag ⟨[(2,_),(3,_)],[(1,_)]⟩ rfl ?_
     exact Fin.result [.one (.i n_15),.one (.i 0)] (.inl rfl) rfl (.cons (.tmp rfl) (.cons (.tmp rfl) .nil)) ⟨rfl,rfl⟩
def vX (F:Nat) (a0:Int) (b0:Int):Option bz :=
 (jA F a0).bind fun x_1=>(jA F b0).bind fun x_2=>(jn F x_1 x_2).bind fun x_3=>some x_3
theorem zO {F:Nat} {a0:Int} {b0:Int} {r:bz} (h:vX F a0 b0 = some r):aA Tryz.prog (bd mx) 23 [] [.one (.i a0),.one (.i b0)] (Is [] (.b (.agg (aE r)))):=by
 unfold vX at h
 refine aA.intro 10 Tryz.func23 Tryz.ntmps23 rfl (by simp) fun E=>?_
 show ab _ E ⟨10,[],[]⟩ _ ⟨[(0,I a0),(1,I b0)],[]⟩ _
 refine ab.seq (ab.aa ?_)
 refine Oc (aB (k:=101) bQ rfl) (ae.an ⟨[(0,I a0),(1,I b0),(4,Pt 101 0)],[(101,.box 27 dM)]⟩ rfl (ab.seq (ab.aa ?_)))
 refine Oc om ?_
 obtain ⟨x_1,e1,h⟩:=aD h
 refine Oc (ad (il e1) nJ rfl rfl) (Oc om ?_)
 refine ae.ag ⟨[(4,_),(6,.b (.agg (ar x_1))),(7,I b0)],[(101,_)]⟩ rfl ?_
 obtain ⟨x_2,e2,h⟩:=aD h
 refine Oc (ad (il e2) nJ rfl rfl) ?_
 obtain ⟨x_3,e3,h⟩:=aD h
 refine Oc (ad (eg e3) lE rfl rfl) (Oc (ah aC rfl rfl rfl rfl (Nat.le_of_ble_eq_true rfl) rfl) ?_)
 refine ae.an ⟨[(4,_)],[(101,.box 27 (aE x_3))]⟩ rfl (ab.ret ?_)
 obtain rfl:=Option.some.inj h
 refine Fin.ag ⟨[(4,_)],[(101,_)]⟩ rfl (Fin.aq [.agg (aE x_3)] (.inl rfl) rfl (.cons (.agg aC rfl rfl rfl rfl) .nil) ⟨rfl,rfl⟩)
def iP (F:Nat) (r0s:bA) (r0q:az) (r0sign:Int):Option (Int × bA × az × Int) :=
 Option.bind (jH F r0s r0q r0sign) (b9 fun x_1 x_2=>if (decide (x_1 = [])) = true then (some (280,x_2,r0q,r0sign)) else (Option.bind (iter F (fun x_3=>if (decide (x_3 < 23)) = true then (Option.bind ((bI iu x_3).bind fun x_4=>if (decide (x_4.name ≠ x_1)) = true then (some (.inl ())) else (Option.bind (gZ F x_2 r0q r0sign) (ky fun x_5 x_6 x_7=>if (decide (x_6 ≠ 0)) = true then (some (.inr (x_6,x_7,r0q,r0sign))) else (Option.bind (eU F r0q.U x_4.unit (IntKind.i64.wrap (r0sign * x_5))) (b9 fun x_8 x_9=>if (decide (x_9 ≠ 0)) = true then (some (.inr (x_9,x_7,(⟨r0q.V,x_8⟩:az),r0sign))) else (Option.bind (if (decide ((IntKind.i64.wrap (r0sign * x_5)) < 0)) = true then (some 21) else (some 25)) (fun combineNumbers_10=>Option.bind (iter F (b9 fun r_12 x_13=>if (decide (x_13 < (max x_5 (IntKind.i64.wrap (-x_5))))) = true then ((vX F x_4.n x_4.d).bind fun x_15=>(jF F combineNumbers_10 r_12.q.V x_15).bind fun x_16=>some (.inl ((⟨r_12.s,(⟨x_16,r_12.q.U⟩:az),r_12.sign⟩:Reader),IntKind.i64.wrap (x_13 + 1)))) else (some (.inr r_12))) ((⟨x_7,(⟨r0q.V,x_8⟩:az),r0sign⟩:Reader),0)) (fun r_11=>(dx F r_11.q.V).bind fun x_17=>if (!x_17) = true then (some (.inr (30,r_11.s,r_11.q,r_11.sign))) else (some (.inr (0,r_11.s,r_11.q,r_11.sign))))))))))) (ls (fun _=>some (.inl (IntKind.i64.wrap (x_3 + 1)))) (fun y=>some (.inr (.inr y))))) else (some (.inr (.inl ())))) 0) (ls (fun _=>some (5,x_2,r0q,r0sign)) (fun y=>some y))))
theorem oi {F:Nat} {r0s:bA} {r0q:az} {r0sign:Int} {r:Int × bA × az × Int} (h:iP F r0s r0q r0sign = some r):aA Tryz.prog (bd mx) 70 [(1,.box 94 (.str r0s :: (ao r0q ++ ([.i r0sign]))))] [.ptr 1 0] (Is [(1,.box 94 (.str r.2.1 :: (ao r.2.2.1 ++ ([.i r.2.2.2]))))] (.b (.one (.i r.1)))):=by
 unfold iP at h
 refine aA.intro 91 Tryz.func70 Tryz.ntmps70 rfl (by simp) fun E=>?_
 show ab _ E ⟨91,[1],[1]⟩ _ ⟨[(0,Pt 1 0)],[(1,.box 94 (.str r0s :: (ao r0q ++ ([.i r0sign]))))]⟩ _
 refine ab.seq (ab.aa ?_)
 refine Oc oa (ae.an ⟨[(0,Pt 1 0)],[(1,.box 94 (.str r0s :: (ao r0q ++ ([.i r0sign]))))]⟩ rfl (ab.seq (ab.aa ?_)))
 refine Oc om ?_
 obtain ⟨⟨x_1,x_2⟩,e1,h⟩:=aD h
 refine Oc (kU (own_a:=[(1,_)]) (pQ e1) goes132 rfl ⟨rfl,trivial⟩ rfl rfl) (Oc oa ?_)
 refine ae.an ⟨[(0,_),(3,.b (.one (.str x_1)))],[(1,.box 94 (.str x_2 :: (ao r0q ++ ([.i r0sign]))))]⟩ rfl (ab.seq (ab.seq (ab.aa ?_)))
 refine Oc om (Oc (c7 rfl rfl) ?_)
 refine ae.an ⟨[(0,_),(3,_),(12,B (decide (x_1 = [])))],[(1,_)]⟩ rfl (ab.ite h rfl (fun _ h=>?_) (fun _ h=>?_))
 ·refine ab.seq (ab.aa ?_)
  refine Oc oa (ae.an ⟨[(2,I 280)],[(1,_)]⟩ rfl (ab.ret (Fin.aw ?_)))
  obtain rfl:=Option.some.inj h
  refine Fin.ag ⟨[(2,_)],[(1,_)]⟩ rfl ?_
  exact Fin.result [.one (.i 280)] (.inl rfl) rfl (.cons (.tmp rfl) .nil) ⟨rfl,rfl⟩
 ·refine ab.skip (Fin.ag ⟨[(0,_),(3,_)],[(1,_)]⟩ rfl (Fin.then ?_))
  obtain ⟨v2,h3,h⟩:=aD h
  refine ab.cB (v:=v2) (fun (_:Unit)=>⟨[],[(1,.box 94 (.str x_2 :: (ao r0q ++ ([.i r0sign]))))]⟩) (fun z=>.inl z) ?_ ?_
  ·refine ab.seq (ab.aa ?_)
   refine Oc (A1 Et CF CE rfl) (Oc om ?_)
   refine ae.an ⟨[(0,_),(3,_),(13,.b (.agg (iu.map lG).flatten)),(14,I 0)],[(1,_)]⟩ rfl (ab.block (ab.cW h3 (fun (x_3:Int)=>⟨[(0,Pt 1 0),(3,.b (.one (.str x_1))),(13,.b (.agg (iu.map lG).flatten)),(14,I x_3)],[(1,.box 94 (.str x_2 :: (ao r0q ++ ([.i r0sign]))))]⟩) [0,3,13,14] [1] rfl ?_))
   rintro x_3 o4 h5 hy6
   refine ab.seq (ab.aa ?_)
   refine Oc (bP rfl rfl) (ae.an ⟨[(0,_),(3,_),(13,_),(14,_),(15,B (decide (x_3 < 23)))],[(1,_)]⟩ rfl (ab.seq (ab.ite h5 rfl (fun _ h5=>?_) (fun _ h5=>?_))))
   ·refine ab.skip (Fin.ag ⟨[(0,_),(3,_),(13,_),(14,_)],[(1,_)]⟩ rfl (Fin.then ?_))
    obtain ⟨v7,h8,h5⟩:=aD h5
    refine ab.cB (v:=v7) (fun (_:Unit)=>⟨[(0,Pt 1 0),(3,.b (.one (.str x_1))),(13,.b (.agg (iu.map lG).flatten)),(14,I x_3)],[(1,.box 94 (.str x_2 :: (ao r0q ++ ([.i r0sign]))))]⟩) (fun z=>.inl z) ?_ ?_
    ·refine ab.block (ab.seq (ab.aa ?_))
     obtain ⟨x_4,e9,h8⟩:=aD h8
     refine Oc (zT (m:=23) Es yX rfl rfl (bx e9) (cC e9) (ix_flat (e:=lG) (sz:=6) (fun _=>rfl) e9)) (Oc (aB (k:=101) Cy rfl) (Oc (ah yX rfl rfl rfl rfl (Nat.le_of_ble_eq_true rfl) rfl) ?_))
     refine ae.an ⟨[(0,_),(3,_),(5,Pt 101 0),(13,_),(14,_)],[(1,_),(101,.box 142 (lG x_4))]⟩ rfl (ab.seq (ab.seq (ab.aa ?_)))
     refine Oc (af AR rfl rfl) (Oc (au fi rfl rfl rfl) (Oc om (Oc (o9 rfl rfl) ?_)))
     refine ae.an ⟨[(0,_),(3,_),(5,_),(13,_),(14,_),(20,B (decide (x_4.name ≠ x_1)))],[(1,_),(101,_)]⟩ rfl (ab.ite h8 rfl (fun _ h8=>?_) (fun _ h8=>?_))
     ·refine ab.exit (Fin.aF (Fin.aX ?_))
      exact Fin.join [0,3,13,14] [1] () (Option.some.inj h8) rfl
     ·refine ab.skip (Fin.ag ⟨[(0,_),(5,_)],[(1,_),(101,_)]⟩ rfl (Fin.then (ab.seq (ab.aa ?_))))
      refine Oc om ?_
      obtain ⟨⟨x_5,x_6,x_7⟩,e10,h8⟩:=aD h8
      refine Oc (kU (own_a:=[(1,_)]) (mO e10) goes133 rfl ⟨rfl,trivial⟩ rfl rfl) (Oc om (Oc (ay rfl rfl) (Oc (ay rfl rfl) (Oc oa (Oc oa ?_)))))
      refine ae.an ⟨[(0,_),(5,_),(6,I x_5),(7,I x_6)],[(1,.box 94 (.str x_7 :: (ao r0q ++ ([.i r0sign])))),(101,_)]⟩ rfl (ab.seq (ab.seq (ab.aa ?_)))
      refine Oc om (Oc (di rfl rfl) ?_)
      refine ae.an ⟨[(0,_),(5,_),(6,_),(7,_),(27,B (decide (x_6 ≠ 0)))],[(1,_),(101,_)]⟩ rfl (ab.ite h8 rfl (fun _ h8=>?_) (fun _ h8=>?_))
      ·refine ab.seq (ab.aa ?_)
       refine Oc om (Oc oa ?_)
       refine ae.an ⟨[(2,I x_6)],[(1,_)]⟩ rfl (ab.ret (Fin.aw (Fin.bb ?_)))
       obtain rfl:=Option.some.inj h8
       refine Fin.aw ?_
       obtain rfl:=hy6 _ (Option.some.inj h5).symm
       refine Fin.aw (Fin.bb (Fin.aw ?_))
       obtain rfl:=Option.some.inj h
       refine Fin.ag ⟨[(2,_)],[(1,_)]⟩ rfl ?_
       exact Fin.result [.one (.i x_6)] (.inl rfl) rfl (.cons (.tmp rfl) .nil) ⟨rfl,rfl⟩
      ·refine ab.skip (Fin.ag ⟨[(0,_),(5,_),(6,_)],[(1,_),(101,_)]⟩ rfl (Fin.then (ab.seq ?_)))
       refine ab.ag ⟨[(0,_),(5,_),(6,_)],[(1,_),(101,_)]⟩ rfl ?_
       obtain ⟨⟨x_8,x_9⟩,e11,h8⟩:=aD h8
       refine ab.oE mixed [false,false,false,false,false,false,false,false,false,false,false,false,false,false,false,false,false,false,false,false,false,true,false] [Pt 1 0,Pt 1 0,Pt 1 0,Pt 1 1,Pt 1 37,.b (.agg (aP r0q.U)),Pt 101 3,.b (.agg (aP x_4.unit)),Pt 1 0,Pt 1 0,Pt 1 40,I r0sign,I x_5,I (IntKind.i64.wrap (r0sign * x_5)),.eY [.agg (aP x_8),.one (.i x_9)],.eY [.agg (aP x_8),.one (.i x_9)],.b (.agg (aP x_8)),I x_9,Pt 1 0,Pt 1 1,Pt 1 37,B true,I x_9] [⟨[false,false,false,false,false,false,false,false,false,false,false,false,false,false,false,false,false,false,false,false,false,false,false],[(0,Pt 1 0),(5,Pt 101 0),(6,I x_5)],[(1,.box 94 (.str x_7 :: (ao r0q ++ ([.i r0sign])))),(101,.box 142 (lG x_4))],[true,true,true,true,true,true,true,true,true,true,true,true,true,true,true,true,true,true,true,true,true,true,true],[]⟩,⟨[false,false,false,false,false,false,false,false,false,false,false,false,false,false,false,false,false,false,false,false,false,true,false],[(0,Pt 1 0),(5,Pt 101 0),(6,I x_5)],[(1,.box 94 (.str x_7 :: (aE r0q.V ++ (aP x_8 ++ ([.i r0sign]))))),(101,.box 142 (lG x_4))],[true,true,true,true,true,true,true,true,true,true,true,true,true,true,true,true,true,true,true,true,true,true,true],[0,1,2,3,4,5,6,7,8,9,10,11,12,13,14,15,16,18,19,20,21]⟩] rfl (⟨by kernel_rfl,⟨⟨Pt 1 0,fun _=>rfl,fun _=>.p (by exact gy rfl)⟩,⟨Pt 1 0,fun _=>rfl,fun _=>.p (by exact gy rfl)⟩,⟨Pt 1 0,fun _=>rfl,fun _=>.p (by exact aW rfl)⟩,⟨Pt 1 1,fun _=>rfl,fun _=>.p (by exact af lZ rfl rfl)⟩,⟨Pt 1 37,fun _=>rfl,fun _=>.p (by exact af cy rfl rfl)⟩,⟨.b (.agg (aP r0q.U)),fun _=>rfl,fun _=>.p (by exact aR aY rfl rfl rfl rfl)⟩,⟨Pt 101 3,fun _=>rfl,fun _=>.p (by exact af AO rfl rfl)⟩,⟨.b (.agg (aP x_4.unit)),fun _=>rfl,fun _=>.p (by exact aR aY rfl rfl rfl rfl)⟩,⟨Pt 1 0,fun _=>rfl,fun _=>.p (by exact gy rfl)⟩,⟨Pt 1 0,fun _=>rfl,fun _=>.p (by exact aW rfl)⟩,⟨Pt 1 40,fun _=>rfl,fun _=>.p (by exact af rq rfl rfl)⟩,⟨I r0sign,fun _=>rfl,fun _=>.p (by exact au bG rfl rfl rfl)⟩,⟨I x_5,fun _=>rfl,fun _=>.p (by exact gy rfl)⟩,⟨I (IntKind.i64.wrap (r0sign * x_5)),fun _=>rfl,fun _=>.p (by exact eP rfl rfl)⟩,⟨.eY [.agg (aP x_8),.one (.i x_9)],fun _=>rfl,fun _=>.p (by exact ad (iE e11) xV rfl rfl)⟩,⟨.eY [.agg (aP x_8),.one (.i x_9)],fun _=>rfl,fun _=>.p (by exact gy rfl)⟩,⟨.b (.agg (aP x_8)),fun _=>rfl,fun _=>.p (by exact ay rfl rfl)⟩,⟨I x_9,fun _=>rfl,fun _=>.p (by exact ay rfl rfl)⟩,⟨Pt 1 0,fun _=>rfl,fun _=>.p (by exact aW rfl)⟩,⟨Pt 1 1,fun _=>rfl,fun _=>.p (by exact af lZ rfl rfl)⟩,⟨Pt 1 37,fun _=>rfl,fun _=>.p (by exact af cy rfl rfl)⟩,⟨_,none,.b (.one .any),rfl,(fun e=>by simp at e),rfl,rfl,fun _=>.rY [1,101] (by exact .p (by exact ah aY rfl rfl rfl rfl (Nat.le_of_ble_eq_true rfl) rfl)) (by exact rfl)⟩,trivial,trivial⟩,⟨by kernel_rfl,⟨trivial,trivial,trivial,trivial,trivial,trivial,trivial,trivial,trivial,trivial,trivial,trivial,trivial,trivial,trivial,trivial,trivial,⟨I x_9,fun _=>rfl,fun _=>.p (by exact ay rfl rfl)⟩,trivial,trivial,trivial,trivial,⟨I x_9,fun _=>rfl,fun _=>.p (by exact xo rfl)⟩,trivial⟩,trivial⟩⟩) rfl rfl rfl [0,5,6,7] [1,101] (s':=⟨[(0,_),(5,_),(6,_),(7,I x_9)],[(1,.box 94 (.str x_7 :: (aE r0q.V ++ (aP x_8 ++ ([.i r0sign]))))),(101,_)]⟩) rfl ?_
       refine ab.seq (ab.seq (ab.aa ?_))
       refine Oc om (Oc (di rfl rfl) ?_)
       refine ae.an ⟨[(0,_),(5,_),(6,_),(7,_),(51,B (decide (x_9 ≠ 0)))],[(1,_),(101,_)]⟩ rfl (ab.ite h8 rfl (fun _ h8=>?_) (fun _ h8=>?_))
       ·refine ab.seq (ab.aa ?_)
        refine Oc om (Oc oa ?_)
        refine ae.an ⟨[(2,I x_9)],[(1,_)]⟩ rfl (ab.ret (Fin.aw (Fin.bb ?_)))
        obtain rfl:=Option.some.inj h8
        refine Fin.aw ?_
        obtain rfl:=hy6 _ (Option.some.inj h5).symm
        refine Fin.aw (Fin.bb (Fin.aw ?_))
        obtain rfl:=Option.some.inj h
        refine Fin.ag ⟨[(2,_)],[(1,_)]⟩ rfl ?_
        exact Fin.result [.one (.i x_9)] (.inl rfl) rfl (.cons (.tmp rfl) .nil) ⟨rfl,rfl⟩
       ·refine ab.skip (Fin.ag ⟨[(0,_),(5,_),(6,_)],[(1,_),(101,_)]⟩ rfl (Fin.then (ab.seq (ab.aa ?_))))
        refine Oc oa (ae.an ⟨[(0,_),(5,_),(6,_),(8,.b (.one (.raw (.func (.func 25) #[] #[]))))],[(1,_),(101,_)]⟩ rfl ?_)
        obtain ⟨v12,h13,h8⟩:=aD h8
        refine ab.cB (v:=v12) (fun (combineNumbers_10:Nat)=>⟨[(0,Pt 1 0),(5,Pt 101 0),(6,I x_5),(8,.b (.one (.raw (.func (.func combineNumbers_10) #[] #[]))))],[(1,.box 94 (.str x_7 :: (aE r0q.V ++ (aP x_8 ++ ([.i r0sign]))))),(101,.box 142 (lG x_4))]⟩) (fun z=>z) ?_ ?_
        ·refine ab.seq (ab.aa ?_)
         refine Oc om (Oc (aW rfl) (Oc (af rq rfl rfl) (Oc (au bG rfl rfl rfl) (Oc om (Oc (eP rfl rfl) ?_)))))
         refine Oc (bP rfl rfl) (ae.an ⟨[(0,_),(5,_),(6,_),(8,_),(59,B (decide ((IntKind.i64.wrap (r0sign * x_5)) < 0)))],[(1,_),(101,_)]⟩ rfl (ab.ite h13 rfl (fun _ h13=>?_) (fun _ h13=>?_)))
         ·refine ab.aa (Oc oa (ae.nil ?_))
          exact Fin.join [0,5,6,8] [1,101] 21 (Option.some.inj h13) rfl
         ·refine ab.skip ?_
          exact Fin.join [0,5,6,8] [1,101] 25 (Option.some.inj h13) rfl
        ·rintro combineNumbers_10 hv
         subst v12
         obtain ⟨v14,h15,h8⟩:=aD h8
         refine ab.cB (v:=v14) (fun (r_11:Reader)=>⟨[(0,Pt 1 0)],[(1,.box 94 (sV r_11))]⟩) (fun z=>z) ?_ ?_
         ·refine ab.seq (ab.aa ?_)
          refine Oc om (Oc om (Oc (lz rfl) (Oc (tG rfl rfl) (Oc om ?_))))
          refine ae.an ⟨[(0,_),(5,_),(8,_),(63,I (max x_5 (IntKind.i64.wrap (-x_5)))),(64,I 0)],[(1,_),(101,_)]⟩ rfl (ab.block (ab.cW h15 (b9 fun (r_12:Reader) (x_13:Int)=>⟨[(0,Pt 1 0),(5,Pt 101 0),(8,.b (.one (.raw (.func (.func combineNumbers_10) #[] #[])))),(63,I (max x_5 (IntKind.i64.wrap (-x_5)))),(64,I x_13)],[(1,.box 94 (sV r_12)),(101,.box 142 (lG x_4))]⟩) [0,5,8,63,64] [1,101] rfl ?_))
          rintro ⟨r_12,x_13⟩ o16 h17 hy18
          refine ab.seq (ab.aa ?_)
          refine Oc (bP rfl rfl) (ae.an ⟨[(0,_),(5,_),(8,_),(63,_),(64,_),(65,B (decide (x_13 < (max x_5 (IntKind.i64.wrap (-x_5))))))],[(1,_),(101,_)]⟩ rfl (ab.seq (ab.ite h17 rfl (fun _ h17=>?_) (fun _ h17=>?_))))
          ·refine ab.skip (Fin.ag ⟨[(0,_),(5,_),(8,_),(63,_),(64,_)],[(1,_),(101,_)]⟩ rfl (Fin.then (ab.seq (ab.block ?_))))
           refine ab.ag ⟨[(0,_),(5,_),(8,_),(63,_),(64,_)],[(1,_),(101,_)]⟩ rfl ?_
           obtain ⟨x_15,e19,h17⟩:=aD h17
           obtain ⟨x_16,e20,h17⟩:=aD h17
           refine ab.hS mixed 16 [Pt 1 0,.b (.one (.raw (.func (.func combineNumbers_10) #[] #[]))),Pt 1 0,Pt 1 0,Pt 1 1,Pt 1 1,.b (.agg (aE r_12.q.V)),Pt 101 1,I x_4.n,Pt 101 2,I x_4.d,.b (.agg (aE x_15)),.b (.agg (aE x_16)),Pt 1 0,Pt 1 1,Pt 1 1] [0,5,8,63,64] [1,101] (s':=⟨[(0,_),(5,_),(8,_),(63,_),(64,_)],[(1,.box 94 (.str r_12.s :: (aE x_16 ++ (aP r_12.q.U ++ ([.i r_12.sign]))))),(101,_)]⟩) rfl ⟨fun _=>.p om,fun _=>.p om,fun _=>.p om,fun _=>.p (aW rfl),fun _=>.p (af lZ rfl rfl),fun _=>.p (af bU rfl rfl),fun _=>.p (lp aC),fun _=>.p (af AQ rfl rfl),fun _=>.p (au bG rfl rfl rfl),fun _=>.p (af AP rfl rfl),fun _=>.p (au bG rfl rfl rfl),fun _=>.p (ad (zO e19) goes23 rfl rfl),fun _=>.p (rz (rT e20) (rU e20) rfl rfl rfl),fun _=>.p (aW rfl),fun _=>.p (af lZ rfl rfl),fun _=>.p (af bU rfl rfl),trivial⟩ ⟨_,by exact .p (ah aC rfl rfl rfl rfl (Nat.le_of_ble_eq_true rfl) rfl),rfl⟩ rfl (Fin.aI (Fin.ag ⟨[(0,_),(5,_),(8,_),(63,_),(64,_)],[(1,_),(101,_)]⟩ rfl (Fin.then (ab.aa ?_))))
           refine Oc (bg rfl rfl) (Oc om ?_)
           refine ae.nil ?_
           exact Fin.b6 [0,5,8,63,64] [1,101] ((⟨r_12.s,(⟨x_16,r_12.q.U⟩:az),r_12.sign⟩:Reader),IntKind.i64.wrap (x_13 + 1)) (Option.some.inj h17) rfl
          ·refine ab.exit (Fin.aF ?_)
           obtain rfl:=hy18 _ (Option.some.inj h17).symm
           refine Fin.aF (Fin.aX ?_)
           exact Fin.join [0] [1] r_12 rfl rfl
         ·rintro r_11 hv
          subst v14
          refine ab.seq (ab.seq (ab.aa ?_))
          refine Oc om (Oc (aW rfl) (Oc (af lZ rfl rfl) (Oc (af bU rfl rfl) (Oc (lp aC) ?_))))
          obtain ⟨x_17,e21,h8⟩:=aD h8
          refine Oc (ad (dp e21) j3 rfl rfl) (Oc (aT rfl) ?_)
          refine ae.an ⟨[(89,B (!x_17))],[(1,_)]⟩ rfl (ab.ite h8 rfl (fun _ h8=>?_) (fun _ h8=>?_))
          ·refine ab.seq (ab.aa ?_)
           refine Oc oa (ae.an ⟨[(2,I 30)],[(1,_)]⟩ rfl (ab.ret (Fin.aw (Fin.bb ?_))))
           obtain rfl:=Option.some.inj h8
           refine Fin.aw ?_
           obtain rfl:=hy6 _ (Option.some.inj h5).symm
           refine Fin.aw (Fin.bb (Fin.aw ?_))
           obtain rfl:=Option.some.inj h
           refine Fin.ag ⟨[(2,_)],[(1,_)]⟩ rfl ?_
           exact Fin.result [.one (.i 30)] (.inl rfl) rfl (.cons (.tmp rfl) .nil) ⟨rfl,rfl⟩
          ·refine ab.skip (Fin.ag ⟨[],[(1,_)]⟩ rfl (Fin.then (ab.seq (ab.aa ?_))))
           refine Oc oa (ae.an ⟨[(2,I 0)],[(1,_)]⟩ rfl (ab.ret (Fin.bb ?_)))
           obtain rfl:=Option.some.inj h8
           refine Fin.aw ?_
           obtain rfl:=hy6 _ (Option.some.inj h5).symm
           refine Fin.aw (Fin.bb (Fin.aw ?_))
           obtain rfl:=Option.some.inj h
           refine Fin.ag ⟨[(2,_)],[(1,_)]⟩ rfl ?_
           exact Fin.result [.one (.i 0)] (.inl rfl) rfl (.cons (.tmp rfl) .nil) ⟨rfl,rfl⟩
    ·rintro _ hv
     subst v7
     refine ab.aa (Oc (bg rfl rfl) (Oc om ?_))
     refine ae.nil ?_
     exact Fin.b6 [0,3,13,14] [1] (IntKind.i64.wrap (x_3 + 1)) (Option.some.inj h5) rfl
   ·refine ab.exit (Fin.aF ?_)
    obtain rfl:=hy6 _ (Option.some.inj h5).symm
    refine Fin.aF (Fin.aX ?_)
    exact Fin.join [] [1] () rfl rfl
  ·rintro _ hv
   subst v2
   refine ab.seq (ab.aa ?_)
   refine Oc oa (ae.an ⟨[(2,I 5)],[(1,_)]⟩ rfl (ab.ret ?_))
   obtain rfl:=Option.some.inj h
   refine Fin.ag ⟨[(2,_)],[(1,_)]⟩ rfl ?_
   exact Fin.result [.one (.i 5)] (.inl rfl) rfl (.cons (.tmp rfl) .nil) ⟨rfl,rfl⟩
def iZ (F:Nat) (s0:bA):Option (az × Int) :=
 if (decide (100 < (s0.length:Int))) = true then (bN (⟨(⟨(⟨false,false,aU.zero⟩:br),(⟨false,false,aU.zero⟩:br)⟩:bz),(⟨0,0,0⟩:aO)⟩:az) fun x_1=>some (x_1,2)) else ((ly F 1).bind fun x_2=>bN (⟨s0,(⟨x_2,(⟨0,0,0⟩:aO)⟩:az),1⟩:Reader) fun x_3=>Option.bind (iter F (fun r_4=>Option.bind (iP F r_4.s r_4.q r_4.sign) (un4 fun x_5 x_6 x_7 x_8=>if (decide (x_5 ≠ 0)) = true then (bN (⟨(⟨(⟨false,false,aU.zero⟩:br),(⟨false,false,aU.zero⟩:br)⟩:bz),(⟨0,0,0⟩:aO)⟩:az) fun x_9=>some (.inr (x_9,x_5))) else (if (decide (x_6 = [])) = true then (some (.inr (x_7,0))) else ((bI x_6 0).bind fun x_10=>if decide ((x_10.toNat:Int) = 42) = true then ((jf F x_6 x_7 x_8).bind fun x_11=>(pT x_6 1).bind fun x_12=>some (.inl (⟨x_12,x_7,x_11⟩:Reader))) else (if decide ((x_10.toNat:Int) = 47) = true then ((jG F x_6 x_7 x_8).bind fun x_13=>(pT x_6 1).bind fun x_14=>some (.inl (⟨x_14,x_7,x_13⟩:Reader))) else (bN (⟨(⟨(⟨false,false,aU.zero⟩:br),(⟨false,false,aU.zero⟩:br)⟩:bz),(⟨0,0,0⟩:aO)⟩:az) fun x_15=>some (.inr (x_15,280)))))))) x_3) (fun y=>some y))
theorem jy {F:Nat} {s0:bA} {r:az × Int} (h:iZ F s0 = some r):aA Tryz.prog (bd mx) 17 [] [.one (.str s0)] (Is [] (.eY [.agg (ao r.1),.one (.i r.2)])):=by
 unfold iZ at h
 refine aA.intro 58 Tryz.func17 Tryz.ntmps17 rfl (by simp) fun E=>?_
 show ab _ E ⟨58,[],[]⟩ _ ⟨[(0,.b (.one (.str s0)))],[]⟩ _
 refine ab.seq (ab.aa ?_)
 refine Oc (aB (k:=101) dw rfl) (Oc oa ?_)
 refine ae.an ⟨[(0,.b (.one (.str s0))),(2,Pt 101 0)],[(101,.box 31 (.bool false :: .bool false :: (eW aU.zero ++ (.bool false :: .bool false :: (eW aU.zero ++ ([.i 0,.i 0,.i 0]))))))]⟩ rfl (ab.seq (ab.seq (ab.aa ?_)))
 refine Oc om (Oc (dR iF rfl) (Oc (fj rfl rfl) ?_))
 refine ae.an ⟨[(0,_),(2,_),(10,B (decide (100 < (s0.length:Int))))],[(101,_)]⟩ rfl (ab.ite h rfl (fun _ h=>?_) (fun _ h=>?_))
 ·refine ab.seq (ab.aa ?_)
  refine ae.dO ao h rfl (aS dr rfl rfl) (fun x_1 h=>?_)
  refine Oc (ah aJ rfl rfl rfl rfl (Nat.le_of_ble_eq_true rfl) rfl) (Oc oa ?_)
  refine ae.an ⟨[(2,_),(3,I 2)],[(101,.box 31 (ao x_1))]⟩ rfl (ab.ret (Fin.aw ?_))
  obtain rfl:=Option.some.inj h
  refine Fin.ag ⟨[(2,_),(3,_)],[(101,_)]⟩ rfl (Fin.aq [.agg (ao x_1),.one (.i 2)] (.inl rfl) rfl (.cons (.agg aJ rfl rfl rfl rfl) (.cons (.tmp rfl) .nil)) ⟨rfl,rfl⟩)
 ·refine ab.skip (Fin.ag ⟨[(0,_),(2,_)],[(101,_)]⟩ rfl (Fin.then (ab.seq (ab.aa ?_))))
  refine Oc om ?_
  obtain ⟨x_2,e1,h⟩:=aD h
  refine Oc (ad (kF e1) se rfl rfl) (Oc (aS dr rfl rfl) ?_)
  refine ae.dO sV h rfl (aS CB rfl rfl) (fun x_3 h=>?_)
  refine Oc (aL (k:=102) rfl rfl) (Oc oa ?_)
  refine ae.an ⟨[(2,_),(4,Pt 102 0)],[(101,_),(102,.box 94 (sV x_3))]⟩ rfl (ab.seq (ab.aa ?_))
  refine Oc (A0 (k:=103) undm95 rfl) (Oc om (Oc (uB rfl rfl) (Oc (BJ (l:=[]) sK rfl rfl rfl rfl) (Oc om (Oc (uB rfl rfl) ?_)))))
  refine Oc (BJ (l:=[(42,.rI 68 [.ptr 102 0] [])]) sK rfl rfl rfl rfl) (Oc om (Oc oa ?_))
  refine ae.an ⟨[(2,_),(4,_),(5,.b (.row 103))],[(101,_),(102,_),(103,.mp (eM .u8 [(42,.rI 68 [.ptr 102 0] []),(47,.rI 69 [.ptr 102 0] [])]))]⟩ rfl (ab.block ?_)
  obtain ⟨v2,h3,h⟩:=aD h
  refine ab.cW h3 (fun (r_4:Reader)=>⟨[(2,Pt 101 0),(4,Pt 102 0),(5,.b (.row 103))],[(101,.box 31 (.bool false :: .bool false :: (eW aU.zero ++ (.bool false :: .bool false :: (eW aU.zero ++ ([.i 0,.i 0,.i 0])))))),(102,.box 94 (sV r_4)),(103,.mp (eM .u8 [(42,.rI 68 [.ptr 102 0] []),(47,.rI 69 [.ptr 102 0] [])]))]⟩) [2,4,5] [101,102,103] rfl ?_
  rintro r_4 o4 h5 hy6
  refine ab.block (ab.seq (ab.seq (ab.aa ?_)))
  refine Oc om ?_
  obtain ⟨⟨x_5,x_6,x_7,x_8⟩,e7,h5⟩:=aD h5
  refine Oc (kU (own_a:=[(102,_)]) ((oi e7).sw 1 102) goes70 rfl ⟨rfl,trivial⟩ rfl rfl) (Oc oa ?_)
  refine ae.an ⟨[(2,_),(4,_),(5,_),(6,I x_5)],[(101,_),(102,.box 94 (.str x_6 :: (ao x_7 ++ ([.i x_8])))),(103,_)]⟩ rfl (ab.seq (ab.aa ?_))
  refine Oc om (Oc (di rfl rfl) ?_)
  refine ae.an ⟨[(2,_),(4,_),(5,_),(6,_),(26,B (decide (x_5 ≠ 0)))],[(101,_),(102,_),(103,_)]⟩ rfl (ab.ite h5 rfl (fun _ h5=>?_) (fun _ h5=>?_))
  ·refine ab.seq (ab.aa ?_)
   refine ae.dO ao h5 rfl (aS dr rfl rfl) (fun x_9 h5=>?_)
   refine Oc om (Oc (ah aJ rfl rfl rfl rfl (Nat.le_of_ble_eq_true rfl) rfl) (Oc oa ?_))
   refine ae.an ⟨[(2,_),(3,I x_5)],[(101,.box 31 (ao x_9))]⟩ rfl (ab.ret (Fin.aw (Fin.bb ?_)))
   obtain rfl:=hy6 _ (Option.some.inj h5).symm
   refine Fin.aw (Fin.bb ?_)
   obtain rfl:=Option.some.inj h
   refine Fin.ag ⟨[(2,_),(3,_)],[(101,_)]⟩ rfl (Fin.aq [.agg (ao x_9),.one (.i x_5)] (.inl rfl) rfl (.cons (.agg aJ rfl rfl rfl rfl) (.cons (.tmp rfl) .nil)) ⟨rfl,rfl⟩)
  ·refine ab.skip (Fin.ag ⟨[(2,_),(4,_),(5,_)],[(101,_),(102,_),(103,_)]⟩ rfl (Fin.then (ab.seq (ab.seq (ab.aa ?_)))))
   refine Oc om (Oc (aW rfl) (Oc (af dH rfl rfl) (Oc (au fi rfl rfl rfl) (Oc (c7 rfl rfl) ?_))))
   refine ae.an ⟨[(2,_),(4,_),(5,_),(33,B (decide (x_6 = [])))],[(101,_),(102,_),(103,_)]⟩ rfl (ab.ite h5 rfl (fun _ h5=>?_) (fun _ h5=>?_))
   ·refine ab.seq (ab.aa ?_)
    refine Oc om (Oc (aW rfl) (Oc (af lZ rfl rfl) (Oc (lp aJ) (Oc (ah aJ rfl rfl rfl rfl (Nat.le_of_ble_eq_true rfl) rfl) (Oc oa ?_)))))
    refine ae.an ⟨[(2,_),(3,I 0)],[(101,.box 31 (ao x_7))]⟩ rfl (ab.ret (Fin.aw (Fin.bb ?_)))
    obtain rfl:=hy6 _ (Option.some.inj h5).symm
    refine Fin.aw (Fin.bb ?_)
    obtain rfl:=Option.some.inj h
    refine Fin.ag ⟨[(2,_),(3,_)],[(101,_)]⟩ rfl (Fin.aq [.agg (ao x_7),.one (.i 0)] (.inl rfl) rfl (.cons (.agg aJ rfl rfl rfl rfl) (.cons (.tmp rfl) .nil)) ⟨rfl,rfl⟩)
   ·refine ab.skip (Fin.ag ⟨[(2,_),(4,_),(5,_)],[(101,_),(102,_),(103,_)]⟩ rfl (Fin.then (ab.seq (ab.aa ?_))))
    refine Oc om (Oc om (Oc (aW rfl) (Oc (af dH rfl rfl) (Oc (au fi rfl rfl rfl) ?_))))
    obtain ⟨x_10,e8,h5⟩:=aD h5
    refine Oc (kr iF rfl rfl (bx e8) (p5 e8)) (ae.ite h5 (fun hc9 h5=>?_) (fun hc9 h5=>?_))
    ·refine Oc (vZ (l:=[(42,.rI 68 [.ptr 102 0] []),(47,.rI 69 [.ptr 102 0] [])]) sK rfl rfl rfl (za hc9)) (Oc oa ?_)
     refine ae.an ⟨[(2,_),(4,_),(5,_),(7,.b (.rI 68 [.ptr 102 0] []))],[(101,_),(102,_),(103,_)]⟩ rfl (ab.seq (ab.seq (ab.aa ?_)))
     refine Oc om (Oc (xn und1 rfl) ?_)
     refine ae.an ⟨[(2,_),(4,_),(5,_),(7,_),(46,B false)],[(101,_),(102,_),(103,_)]⟩ rfl (ab.yU rfl (ab.skip (Fin.ag ⟨[(2,_),(4,_),(5,_),(7,_)],[(101,_),(102,_),(103,_)]⟩ rfl (Fin.then (ab.seq (ab.aa ?_))))))
     refine Oc om ?_
     obtain ⟨x_11,e10,h5⟩:=aD h5
     refine Oc (y7 (own_a:=[(102,_)]) ((px e10).sw 1 102) goes68 rfl rfl rfl ⟨rfl,trivial⟩ rfl rfl) (ae.an ⟨[(2,_),(4,_),(5,_)],[(101,_),(102,.box 94 (.str x_6 :: (ao x_7 ++ ([.i x_11])))),(103,_)]⟩ rfl (ab.aa (Oc om (Oc om (Oc (aW rfl) (Oc (af dH rfl rfl) (Oc (au fi rfl rfl rfl) ?_)))))))
     obtain ⟨x_12,e11,h5⟩:=aD h5
     refine Oc (gI iF e11 rfl rfl) (Oc (aW rfl) (Oc (af dH rfl rfl) (Oc (cc fi rfl rfl rfl (Nat.le_of_ble_eq_true rfl) rfl) ?_)))
     refine ae.nil (Fin.aI ?_)
     exact Fin.b6 [2,4,5] [101,102,103] (⟨x_12,x_7,x_11⟩:Reader) (Option.some.inj h5) rfl
    ·refine ae.ite h5 (fun hc12 h5=>?_) (fun hc12 h5=>?_)
     ·refine Oc (vZ (l:=[(42,.rI 68 [.ptr 102 0] []),(47,.rI 69 [.ptr 102 0] [])]) sK rfl rfl rfl (tU hc9 (za hc12))) (Oc oa ?_)
      refine ae.an ⟨[(2,_),(4,_),(5,_),(7,.b (.rI 69 [.ptr 102 0] []))],[(101,_),(102,_),(103,_)]⟩ rfl (ab.seq (ab.seq (ab.aa ?_)))
      refine Oc om (Oc (xn und1 rfl) ?_)
      refine ae.an ⟨[(2,_),(4,_),(5,_),(7,_),(46,B false)],[(101,_),(102,_),(103,_)]⟩ rfl (ab.yU rfl (ab.skip (Fin.ag ⟨[(2,_),(4,_),(5,_),(7,_)],[(101,_),(102,_),(103,_)]⟩ rfl (Fin.then (ab.seq (ab.aa ?_))))))
      refine Oc om ?_
      obtain ⟨x_13,e13,h5⟩:=aD h5
      refine Oc (y7 (own_a:=[(102,_)]) ((pP e13).sw 1 102) goes69 rfl rfl rfl ⟨rfl,trivial⟩ rfl rfl) (ae.an ⟨[(2,_),(4,_),(5,_)],[(101,_),(102,.box 94 (.str x_6 :: (ao x_7 ++ ([.i x_13])))),(103,_)]⟩ rfl (ab.aa (Oc om (Oc om (Oc (aW rfl) (Oc (af dH rfl rfl) (Oc (au fi rfl rfl rfl) ?_)))))))
      obtain ⟨x_14,e14,h5⟩:=aD h5
      refine Oc (gI iF e14 rfl rfl) (Oc (aW rfl) (Oc (af dH rfl rfl) (Oc (cc fi rfl rfl rfl (Nat.le_of_ble_eq_true rfl) rfl) ?_)))
      refine ae.nil (Fin.aI ?_)
      exact Fin.b6 [2,4,5] [101,102,103] (⟨x_14,x_7,x_13⟩:Reader) (Option.some.inj h5) rfl
     ·refine Oc (vZ (l:=[(42,.rI 68 [.ptr 102 0] []),(47,.rI 69 [.ptr 102 0] [])]) sK rfl rfl rfl (tU hc9 (tU hc12 rfl))) (Oc oa ?_)
      refine ae.an ⟨[(2,_),(4,_),(5,_),(7,.b (.one (.raw .nilFunc)))],[(101,_),(102,_),(103,_)]⟩ rfl (ab.seq (ab.seq (ab.aa ?_)))
      refine Oc om (Oc (zV und1 rfl) ?_)
      refine ae.an ⟨[(2,_),(4,_),(5,_),(7,_),(46,B true)],[(101,_),(102,_),(103,_)]⟩ rfl (ab.Bp rfl (ab.seq (ab.aa ?_)))
      refine ae.dO ao h5 rfl (aS dr rfl rfl) (fun x_15 h5=>?_)
      refine Oc (ah aJ rfl rfl rfl rfl (Nat.le_of_ble_eq_true rfl) rfl) (Oc oa ?_)
      refine ae.an ⟨[(2,_),(3,I 280)],[(101,.box 31 (ao x_15))]⟩ rfl (ab.ret (Fin.aw (Fin.bb ?_)))
      obtain rfl:=hy6 _ (Option.some.inj h5).symm
      refine Fin.aw (Fin.bb ?_)
      obtain rfl:=Option.some.inj h
      refine Fin.ag ⟨[(2,_),(3,_)],[(101,_)]⟩ rfl (Fin.aq [.agg (ao x_15),.one (.i 280)] (.inl rfl) rfl (.cons (.agg aJ rfl rfl rfl rfl) (.cons (.tmp rfl) .nil)) ⟨rfl,rfl⟩)
def tS (F:Nat) (a0:Int) (b0:Int):Option bz :=
 (gQ F a0).bind fun x_1=>(gQ F b0).bind fun x_2=>(gH F x_1 x_2).bind fun x_3=>some x_3
theorem yF {F:Nat} {a0:Int} {b0:Int} {r:bz} (h:tS F a0 b0 = some r):aA Tryz.prog (bd mx) 105 [] [.one (.i a0),.one (.i b0)] (Is [] (.b (.agg (aE r)))):=by
 unfold tS at h
 refine aA.intro 10 Tryz.func105 Tryz.ntmps105 rfl (by simp) fun E=>?_
 show ab _ E ⟨10,[],[]⟩ _ ⟨[(0,I a0),(1,I b0)],[]⟩ _
 refine ab.seq (ab.aa ?_)
 refine Oc (aB (k:=101) bQ rfl) (ae.an ⟨[(0,I a0),(1,I b0),(4,Pt 101 0)],[(101,.box 27 dM)]⟩ rfl (ab.seq (ab.aa ?_)))
 refine Oc om ?_
 obtain ⟨x_1,e1,h⟩:=aD h
 refine Oc (ad (gp e1) kX rfl rfl) (Oc om ?_)
 refine ae.ag ⟨[(4,_),(6,.b (.agg (ar x_1))),(7,I b0)],[(101,_)]⟩ rfl ?_
 obtain ⟨x_2,e2,h⟩:=aD h
 refine Oc (ad (gp e2) kX rfl rfl) ?_
 obtain ⟨x_3,e3,h⟩:=aD h
 refine Oc (ad (gX e3) oL rfl rfl) (Oc (ah aC rfl rfl rfl rfl (Nat.le_of_ble_eq_true rfl) rfl) ?_)
 refine ae.an ⟨[(4,_)],[(101,.box 27 (aE x_3))]⟩ rfl (ab.ret ?_)
 obtain rfl:=Option.some.inj h
 refine Fin.ag ⟨[(4,_)],[(101,_)]⟩ rfl (Fin.aq [.agg (aE x_3)] (.inl rfl) rfl (.cons (.agg aC rfl rfl rfl rfl) .nil) ⟨rfl,rfl⟩)
def bX (F:Nat) (n0:Int) (d0:Int) (m0:Int) (kg0:Int) (s0:Int):Option az :=
 (tS F n0 d0).bind fun x_1=>bN (⟨x_1,(⟨m0,kg0,s0⟩:aO)⟩:az) fun x_2=>some x_2
theorem bT {F:Nat} {n0:Int} {d0:Int} {m0:Int} {kg0:Int} {s0:Int} {r:az} (h:bX F n0 d0 m0 kg0 s0 = some r):aA Tryz.prog (bd mx) 50 [] [.one (.i n0),.one (.i d0),.one (.i m0),.one (.i kg0),.one (.i s0)] (Is [] (.b (.agg (ao r)))):=by
 unfold bX at h
 refine aA.intro 19 Tryz.func50 Tryz.ntmps50 rfl (by simp) fun E=>?_
 show ab _ E ⟨19,[],[]⟩ _ ⟨[(0,I n0),(1,I d0),(2,I m0),(3,I kg0),(4,I s0)],[]⟩ _
 refine ab.seq (ab.aa ?_)
 refine Oc (aB (k:=101) dw rfl) (ae.an ⟨[(0,I n0),(1,I d0),(2,I m0),(3,I kg0),(4,I s0),(10,Pt 101 0)],[(101,.box 31 (.bool false :: .bool false :: (eW aU.zero ++ (.bool false :: .bool false :: (eW aU.zero ++ ([.i 0,.i 0,.i 0]))))))]⟩ rfl (ab.seq (ab.aa ?_)))
 refine Oc om (Oc om ?_)
 obtain ⟨x_1,e1,h⟩:=aD h
 refine Oc (ad (yF e1) goes105 rfl rfl) (Oc om (Oc om ?_))
 refine ae.ag ⟨[(4,_),(10,_),(13,.b (.agg (aE x_1))),(14,I m0),(15,I kg0)],[(101,_)]⟩ rfl (Oc om (Oc (aS dV rfl rfl) ?_))
 refine ae.dO ao h rfl (aS dr rfl rfl) (fun x_2 h=>?_)
 refine Oc (ah aJ rfl rfl rfl rfl (Nat.le_of_ble_eq_true rfl) rfl) (ae.an ⟨[(10,_)],[(101,.box 31 (ao x_2))]⟩ rfl (ab.ret ?_))
 obtain rfl:=Option.some.inj h
 refine Fin.ag ⟨[(10,_)],[(101,_)]⟩ rfl (Fin.aq [.agg (ao x_2)] (.inl rfl) rfl (.cons (.agg aJ rfl rfl rfl rfl) .nil) ⟨rfl,rfl⟩)
def eL (F:Nat) (u0:aO):Option bA :=
 (dC F u0).bind fun x_1=>if (!x_1) = true then (some []) else (Option.bind ((fP F u0).bind fun x_4=>iter F (ky fun above_5 below_6 x_7=>if (decide (x_7 < 3)) = true then (Option.bind ((bI x_4.l x_7).bind fun x_12=>(bI ([[109],[107,103],[115]]:List bA) x_7).bind fun x_13=>Option.bind (if ((decide (1 < x_12)) || (decide (x_12 < (-1)))) = true then ((dA F (max x_12 (IntKind.i64.wrap (-x_12)))).bind fun x_15=>(eJ [94] x_15).bind fun x_16=>(eJ x_13 x_16).bind fun x_17=>some x_17) else (some x_13)) (fun p_14=>if ((decide (0 < x_12)) && (decide (above_5 = []))) = true then (some (p_14,below_6)) else (if (decide (0 < x_12)) = true then ((eJ [42] p_14).bind fun x_18=>(eJ above_5 x_18).bind fun x_19=>some (x_19,below_6)) else (if (decide (x_12 < 0)) = true then ((eJ [47] p_14).bind fun x_20=>(eJ below_6 x_20).bind fun x_21=>some (above_5,x_21)) else (some (above_5,below_6)))))) (b9 fun above_10 below_11=>some (.inl (above_10,below_11,IntKind.i64.wrap (x_7 + 1))))) else (some (.inr (above_5,below_6)))) ([],[],0)) (b9 fun above_2 below_3=>Option.bind (if (decide (above_2 = [])) = true then (some [49]) else (some above_2)) (fun above_22=>(eJ above_22 below_3).bind fun x_23=>some x_23)))
theorem ik {F:Nat} {u0:aO} {r:bA} (h:eL F u0 = some r):aA Tryz.prog (bd mx) 18 [] [.agg (aP u0)] (Is [] (.b (.one (.str r)))):=by
 unfold eL at h
 refine aA.intro 62 Tryz.func18 Tryz.ntmps18 rfl (by simp) fun E=>?_
 show ab _ E ⟨62,[],[]⟩ _ ⟨[(0,.b (.agg (aP u0)))],[]⟩ _
 refine ab.seq (ab.aa ?_)
 refine Oc (aL (k:=101) rfl rfl) (Oc oa ?_)
 refine ae.an ⟨[(1,Pt 101 0)],[(101,.box 29 (aP u0))]⟩ rfl (ab.seq (ab.seq (ab.aa ?_)))
 refine Oc (lp aY) ?_
 obtain ⟨x_1,e1,h⟩:=aD h
 refine Oc (ad (ij e1) vJ rfl rfl) (Oc (aT rfl) ?_)
 refine ae.an ⟨[(1,_),(10,B (!x_1))],[(101,_)]⟩ rfl (ab.ite h rfl (fun _ h=>?_) (fun _ h=>?_))
 ·refine ab.seq (ab.aa ?_)
  refine Oc oa (ae.an ⟨[(2,.b (.one (.str [])))],[]⟩ rfl (ab.ret (Fin.aw ?_)))
  obtain rfl:=Option.some.inj h
  refine Fin.ag ⟨[(2,_)],[]⟩ rfl (Fin.aq [.one (.str [])] (.inl rfl) rfl (.cons (.tmp rfl) .nil) ⟨rfl,rfl⟩)
 ·refine ab.skip (Fin.ag ⟨[(1,_)],[(101,_)]⟩ rfl (Fin.then (ab.seq (ab.aa ?_))))
  refine Oc oa (Oc oa ?_)
  refine ae.an ⟨[(1,_),(3,.b (.one (.str []))),(4,.b (.one (.str [])))],[(101,_)]⟩ rfl ?_
  obtain ⟨v2,h3,h⟩:=aD h
  refine ab.cB (v:=v2) (b9 fun (above_2:bA) (below_3:bA)=>⟨[(3,.b (.one (.str above_2))),(4,.b (.one (.str below_3)))],[]⟩) (fun z=>z) ?_ ?_
  ·refine ab.seq (ab.aa ?_)
   refine Oc (lp aY) ?_
   obtain ⟨x_4,e4,h3⟩:=aD h3
   refine Oc (ad (lK e4) D0 rfl rfl) (Oc om ?_)
   refine ae.an ⟨[(3,_),(4,_),(12,.b (.agg ((eA3 .i64) x_4))),(13,I 0)],[]⟩ rfl (ab.block (ab.cW h3 (ky fun (above_5:bA) (below_6:bA) (x_7:Int)=>⟨[(3,.b (.one (.str above_5))),(4,.b (.one (.str below_6))),(12,.b (.agg ((eA3 .i64) x_4))),(13,I x_7)],[]⟩) [3,4,12,13] [] rfl ?_))
   rintro ⟨above_5,below_6,x_7⟩ o5 h6 hy7
   refine ab.seq (ab.aa ?_)
   refine Oc (bP rfl rfl) (ae.an ⟨[(3,_),(4,_),(12,_),(13,_),(14,B (decide (x_7 < 3)))],[]⟩ rfl (ab.seq (ab.ite h6 rfl (fun _ h6=>?_) (fun _ h6=>?_))))
   ·refine ab.skip (Fin.ag ⟨[(3,_),(4,_),(12,_),(13,_)],[]⟩ rfl (Fin.then ?_))
    obtain ⟨v8,h9,h6⟩:=aD h6
    refine ab.cB (v:=v8) (b9 fun (above_10:bA) (below_11:bA)=>⟨[(3,.b (.one (.str above_10))),(4,.b (.one (.str below_11))),(12,.b (.agg ((eA3 .i64) x_4))),(13,I x_7)],[]⟩) (fun z=>z) ?_ ?_
    ·refine ab.block (ab.seq (ab.aa ?_))
     refine Oc om ?_
     obtain ⟨x_12,e10,h9⟩:=aD h9
     refine Oc (qI (m:=3) Bt bG rfl rfl (bx e10) (cC e10) (eE (e:=CP.int .i64) e10)) (Oc oa (Oc oa ?_))
     refine ae.an ⟨[(3,_),(4,_),(5,I x_7),(6,I x_12),(12,_),(13,_)],[]⟩ rfl (ab.seq (ab.aa ?_))
     refine Oc (dI Cz rfl rfl) (Oc om ?_)
     obtain ⟨x_13,e11,h9⟩:=aD h9
     refine Oc (qI (m:=3) tyArr99 fi rfl rfl (bx e11) (cC e11) (eE (e:=CP.str) e11)) (Oc oa ?_)
     refine ae.an ⟨[(3,_),(4,_),(6,_),(7,.b (.one (.str x_13))),(12,_),(13,_)],[]⟩ rfl ?_
     obtain ⟨v12,h13,h9⟩:=aD h9
     refine ab.cB (v:=v12) (fun (p_14:bA)=>⟨[(3,.b (.one (.str above_5))),(4,.b (.one (.str below_6))),(6,I x_12),(7,.b (.one (.str p_14))),(12,.b (.agg ((eA3 .i64) x_4))),(13,I x_7)],[]⟩) (fun z=>z) ?_ ?_
     ·refine ab.seq (ab.aa ?_)
      refine Oc om (Oc (fj rfl rfl) (Oc om ?_))
      refine cx (!(decide (1 < x_12))) [] (fun g14=>trivial) (fun g14=>om) (cx (!(decide (1 < x_12))) [23] (fun g15=>by exact ⟨g15,trivial⟩) (fun g15=>bP rfl rfl) (Oc (aQ (fun e=>by rw [e]; rfl) rfl rfl rfl rfl) (ae.an ⟨[(3,_),(4,_),(6,_),(7,_),(12,_),(13,_),(25,B ((decide (1 < x_12)) || (decide (x_12 < (-1)))))],[]⟩ rfl (ab.ite h13 rfl (fun _ h13=>?_) (fun _ h13=>?_)))))
      ·refine ab.aa (Oc om (Oc om (Oc om (Oc (lz rfl) (Oc (tG rfl rfl) ?_)))))
       refine ae.ag ⟨[(3,_),(4,_),(6,_),(7,_),(12,_),(13,_),(26,.b (.one (.str x_13))),(30,I (max x_12 (IntKind.i64.wrap (-x_12))))],[]⟩ rfl ?_
       obtain ⟨x_15,e16,h13⟩:=aD h13
       refine Oc (ad (nG e16) DZ rfl rfl) ?_
       obtain ⟨x_16,e17,h13⟩:=aD h13
       refine Oc (bK e17 rfl rfl) ?_
       obtain ⟨x_17,e18,h13⟩:=aD h13
       refine Oc (bK e18 rfl rfl) (Oc oa ?_)
       refine ae.nil ?_
       exact Fin.join [3,4,6,7,12,13] [] x_17 (Option.some.inj h13) rfl
      ·refine ab.skip ?_
       exact Fin.join [3,4,6,7,12,13] [] x_13 (Option.some.inj h13) rfl
     ·rintro p_14 hv
      subst v12
      refine ab.block (ab.seq (ab.aa ?_))
      refine Oc om (Oc (fj rfl rfl) (Oc om ?_))
      refine cG (decide (0 < x_12)) [] (fun g19=>trivial) (fun g19=>om) (cG (decide (0 < x_12)) [38] (fun g20=>by exact ⟨g20,trivial⟩) (fun g20=>c7 rfl rfl) (Oc (aG (fun e=>e) rfl rfl rfl rfl) (Oc oa ?_)))
      refine ae.an ⟨[(3,_),(4,_),(6,_),(7,_),(12,_),(13,_),(34,B ((decide (0 < x_12)) && (decide (above_5 = []))))],[]⟩ rfl (ab.ite h9 rfl (fun _ h9=>?_) (fun _ h9=>?_))
      ·refine ab.aa (Oc om (Oc oa ?_))
       refine ae.nil (Fin.aI (Fin.aI ?_))
       exact Fin.join [3,4,12,13] [] (p_14,below_6) (Option.some.inj h9) rfl
      ·refine ab.seq (ab.aa ?_)
       refine Oc om (Oc (fj rfl rfl) (Oc oa ?_))
       refine ae.an ⟨[(3,_),(4,_),(6,_),(7,_),(12,_),(13,_),(42,B (decide (0 < x_12)))],[]⟩ rfl (ab.ite h9 rfl (fun _ h9=>?_) (fun _ h9=>?_))
       ·refine ab.aa (Oc om (Oc om ?_))
        obtain ⟨x_18,e21,h9⟩:=aD h9
        refine Oc (bK e21 rfl rfl) ?_
        obtain ⟨x_19,e22,h9⟩:=aD h9
        refine Oc (bK e22 rfl rfl) (Oc oa ?_)
        refine ae.nil (Fin.aI (Fin.aI ?_))
        exact Fin.join [3,4,12,13] [] (x_19,below_6) (Option.some.inj h9) rfl
       ·refine ab.seq (ab.aa ?_)
        refine Oc om (Oc (bP rfl rfl) (Oc oa ?_))
        refine ae.an ⟨[(3,_),(4,_),(7,_),(12,_),(13,_),(49,B (decide (x_12 < 0)))],[]⟩ rfl (ab.ite h9 rfl (fun _ h9=>?_) (fun _ h9=>?_))
        ·refine ab.aa (Oc om (Oc om ?_))
         obtain ⟨x_20,e23,h9⟩:=aD h9
         refine Oc (bK e23 rfl rfl) ?_
         obtain ⟨x_21,e24,h9⟩:=aD h9
         refine Oc (bK e24 rfl rfl) (Oc oa ?_)
         refine ae.nil (Fin.aI (Fin.aI ?_))
         exact Fin.join [3,4,12,13] [] (above_5,x_21) (Option.some.inj h9) rfl
        ·refine ab.skip (Fin.aI (Fin.aI ?_))
         exact Fin.join [3,4,12,13] [] (above_5,below_6) (Option.some.inj h9) rfl
    ·rintro ⟨above_10,below_11⟩ hv
     subst v8
     refine ab.aa (Oc (bg rfl rfl) (Oc om ?_))
     refine ae.nil ?_
     exact Fin.b6 [3,4,12,13] [] (above_10,below_11,IntKind.i64.wrap (x_7 + 1)) (Option.some.inj h6) rfl
   ·refine ab.exit (Fin.aF ?_)
    obtain rfl:=hy7 _ (Option.some.inj h6).symm
    refine Fin.aF (Fin.aX ?_)
    exact Fin.join [3,4] [] (above_5,below_6) rfl rfl
  ·rintro ⟨above_2,below_3⟩ hv
   subst v2
   obtain ⟨v25,h26,h⟩:=aD h
   refine ab.cB (v:=v25) (fun (above_22:bA)=>⟨[(3,.b (.one (.str above_22))),(4,.b (.one (.str below_3)))],[]⟩) (fun z=>z) ?_ ?_
   ·refine ab.seq (ab.aa ?_)
    refine Oc om (Oc (c7 rfl rfl) ?_)
    refine ae.an ⟨[(3,_),(4,_),(58,B (decide (above_2 = [])))],[]⟩ rfl (ab.ite h26 rfl (fun _ h26=>?_) (fun _ h26=>?_))
    ·refine ab.aa (Oc oa (ae.nil ?_))
     exact Fin.join [3,4] [] [49] (Option.some.inj h26) rfl
    ·refine ab.skip ?_
     exact Fin.join [3,4] [] above_2 (Option.some.inj h26) rfl
   ·rintro above_22 hv
    subst v25
    refine ab.seq (ab.aa ?_)
    refine Oc om (Oc om ?_)
    obtain ⟨x_23,e27,h⟩:=aD h
    refine Oc (bK e27 rfl rfl) (Oc oa ?_)
    refine ae.an ⟨[(2,.b (.one (.str x_23)))],[]⟩ rfl (ab.ret ?_)
    obtain rfl:=Option.some.inj h
    refine Fin.ag ⟨[(2,_)],[]⟩ rfl (Fin.aq [.one (.str x_23)] (.inl rfl) rfl (.cons (.tmp rfl) .nil) ⟨rfl,rfl⟩)
def jg (F:Nat) (s0:bA) (f0:Nat):Option Int :=
 (gz F s0 f0 true).bind fun x_1=>some x_1
theorem py {F:Nat} {s0:bA} {f0:Nat} {r:Int} (h:jg F s0 f0 = some r):aA Tryz.prog (bd mx) 164 [] [.one (.str s0),.one (.raw (.func (.func f0) #[] #[]))] (Is [] (.b (.one (.i r)))):=by
 unfold jg at h
 refine aA.intro 8 Tryz.func164 Tryz.ntmps164 rfl (by simp) fun E=>?_
 show ab _ E ⟨8,[],[]⟩ _ ⟨[(0,.b (.one (.str s0))),(1,.b (.one (.raw (.func (.func f0) #[] #[]))))],[]⟩ _
 refine ab.seq (ab.aa ?_)
 refine Oc oa (ae.an ⟨[(0,.b (.one (.str s0))),(1,.b (.one (.raw (.func (.func f0) #[] #[]))))],[]⟩ rfl (ab.seq (ab.aa ?_)))
 refine Oc om (Oc om ?_)
 obtain ⟨x_1,e1,h⟩:=aD h
 refine Oc (ad (kw e1) BY rfl rfl) (Oc oa ?_)
 refine ae.an ⟨[(4,I x_1)],[]⟩ rfl (ab.ret ?_)
 obtain rfl:=Option.some.inj h
 refine Fin.ag ⟨[(4,_)],[]⟩ rfl (Fin.aq [.one (.i x_1)] (.inl rfl) rfl (.cons (.tmp rfl) .nil) ⟨rfl,rfl⟩)
def hH (F:Nat) (s0:bA) (f0:Nat):Option Bool :=
 (jg F s0 f0).bind fun x_1=>some (decide (0 ≤ x_1))
theorem mQ {F:Nat} {s0:bA} {f0:Nat} {r:Bool} (h:hH F s0 f0 = some r):aA Tryz.prog (bd mx) 118 [] [.one (.str s0),.one (.raw (.func (.func f0) #[] #[]))] (Is [] (.b (.one (.bool r)))):=by
 unfold hH at h
 refine aA.intro 9 Tryz.func118 Tryz.ntmps118 rfl (by simp) fun E=>?_
 show ab _ E ⟨9,[],[]⟩ _ ⟨[(0,.b (.one (.str s0))),(1,.b (.one (.raw (.func (.func f0) #[] #[]))))],[]⟩ _
 refine ab.seq (ab.aa ?_)
 refine Oc oa (ae.an ⟨[(0,.b (.one (.str s0))),(1,.b (.one (.raw (.func (.func f0) #[] #[]))))],[]⟩ rfl (ab.seq (ab.aa ?_)))
 refine Oc om (Oc om ?_)
 obtain ⟨x_1,e1,h⟩:=aD h
 refine Oc (ad (py e1) goes164 rfl rfl) (Oc (gC rfl rfl) (Oc oa ?_))
 refine ae.an ⟨[(4,B (decide (0 ≤ x_1)))],[]⟩ rfl (ab.ret ?_)
 obtain rfl:=Option.some.inj h
 refine Fin.ag ⟨[(4,_)],[]⟩ rfl (Fin.aq [.one (.bool (decide (0 ≤ x_1)))] (.inl rfl) rfl (.cons (.tmp rfl) .nil) ⟨rfl,rfl⟩)
def mI (F:Nat) (front0:bA) (behind0:bA):Option (bz × Int) :=
 Option.bind (fB F front0 [45]) (b9 fun x_1 x_2=>(bE (!((decide (x_1 = [])) || (decide (behind0 = [])))) (eJ x_1 behind0)).bind fun x_3=>(bE (!((decide (x_1 = [])) || (decide (behind0 = [])))) (hH F x_3 119)).bind fun x_4=>bN ((((decide (x_1 = [])) || (decide (behind0 = []))) || x_4) || (decide (40 < (IntKind.i64.wrap ((x_1.length:Int) + (behind0.length:Int)))))) fun x_5=>if x_5 = true then (bN (⟨(⟨false,false,aU.zero⟩:br),(⟨false,false,aU.zero⟩:br)⟩:bz) fun x_6=>some (x_6,281)) else ((ly F 0).bind fun x_7=>(ly F 1).bind fun x_8=>(ly F 10).bind fun x_9=>Option.bind ((eJ x_1 behind0).bind fun x_12=>iter F (ky fun x_13 scale_14 xp_15=>if decide (xp_15 < x_12.length) = true then ((lO F x_13 x_9).bind fun x_18=>bN (IntKind.i32.wrap ((kB x_12 xp_15) - 48)) fun x_19=>(ly F (IntKind.i64.wrap x_19)).bind fun x_20=>(oF F x_18 x_20).bind fun x_21=>if (decide ((x_1.length:Int) ≤ (xp_15:Nat))) = true then ((lO F scale_14 x_9).bind fun x_22=>some (.inl (x_21,x_22,iH x_12 xp_15))) else (some (.inl (x_21,scale_14,iH x_12 xp_15)))) else (some (.inr (x_13,scale_14)))) (x_7,x_8,0)) (b9 fun x_10 scale_11=>Option.bind (if x_2 = true then ((q7 F x_10).bind fun x_24=>some x_24) else (some x_10)) (fun x_23=>(ng F x_23 scale_11).bind fun x_25=>some (x_25,0)))))
theorem tw {F:Nat} {front0:bA} {behind0:bA} {r:bz × Int} (h:mI F front0 behind0 = some r):aA Tryz.prog (bd mx) 60 [] [.one (.str front0),.one (.str behind0)] (Is [] (.eY [.agg (aE r.1),.one (.i r.2)])):=by
 unfold mI at h
 refine aA.intro 70 Tryz.func60 Tryz.ntmps60 rfl (by simp) fun E=>?_
 show ab _ E ⟨70,[],[]⟩ _ ⟨[(0,.b (.one (.str front0))),(1,.b (.one (.str behind0)))],[]⟩ _
 refine ab.seq (ab.aa ?_)
 refine Oc (aB (k:=101) bQ rfl) (Oc oa ?_)
 refine ae.an ⟨[(0,.b (.one (.str front0))),(1,.b (.one (.str behind0))),(4,Pt 101 0)],[(101,.box 27 dM)]⟩ rfl (ab.seq (ab.aa ?_))
 refine Oc om ?_
 obtain ⟨⟨x_1,x_2⟩,e1,h⟩:=aD h
 refine Oc (ad (hE e1) yu rfl rfl) (Oc om (Oc (ay rfl rfl) (Oc (ay rfl rfl) (Oc oa (Oc oa ?_)))))
 refine ae.an ⟨[(0,.b (.one (.str x_1))),(1,_),(4,_),(6,B x_2)],[(101,_)]⟩ rfl (ab.seq (ab.seq (ab.aa ?_)))
 refine Oc om (Oc (c7 rfl rfl) (Oc om ?_))
 refine cx (!(decide (x_1 = []))) [] (fun g2=>trivial) (fun g2=>om) (cx (!(decide (x_1 = []))) [20] (fun g3=>by exact ⟨g3,trivial⟩) (fun g3=>c7 rfl rfl) (Oc (aQ (fun e=>by rw [e]; rfl) rfl rfl rfl rfl) (Oc om ?_)))
 refine ae.ag ⟨[(0,_),(1,_),(4,_),(6,_),(23,B ((decide (x_1 = [])) || (decide (behind0 = []))))],[(101,_)]⟩ rfl (cx (!((decide (x_1 = [])) || (decide (behind0 = [])))) [] (fun g4=>trivial) (fun g4=>om) (cx (!((decide (x_1 = [])) || (decide (behind0 = [])))) [] (fun g5=>by exact trivial) (fun g5=>om) ?_))
 obtain ⟨x_3,e7,h⟩:=aD h
 refine cx (!((decide (x_1 = [])) || (decide (behind0 = [])))) [24,25] (fun g6=>⟨g6,g6,trivial⟩) (fun g6=>bK (gc e7 g6) rfl rfl) ?_
 obtain ⟨x_4,e9,h⟩:=aD h
 refine cx (!((decide (x_1 = [])) || (decide (behind0 = [])))) [26] (fun g8=>⟨g8,trivial⟩) (fun g8=>ad (mQ (gc e9 g8)) goes118 rfl rfl) (Oc (aQ (fun e=>by rw [e]; rfl) rfl rfl rfl rfl) (Oc om ?_))
 refine ae.ag ⟨[(0,_),(1,_),(4,_),(6,_),(29,B (((decide (x_1 = [])) || (decide (behind0 = []))) || x_4))],[(101,_)]⟩ rfl (cx (!(((decide (x_1 = [])) || (decide (behind0 = []))) || x_4)) [] (fun g10=>trivial) (fun g10=>om) (cx (!(((decide (x_1 = [])) || (decide (behind0 = []))) || x_4)) [30] (fun g11=>by exact ⟨g11,trivial⟩) (fun g11=>dR iF rfl) (cx (!(((decide (x_1 = [])) || (decide (behind0 = []))) || x_4)) [] (fun g12=>by exact trivial) (fun g12=>om) (cx (!(((decide (x_1 = [])) || (decide (behind0 = []))) || x_4)) [32] (fun g13=>by exact ⟨g13,trivial⟩) (fun g13=>dR iF rfl) (cx (!(((decide (x_1 = [])) || (decide (behind0 = []))) || x_4)) [31,33] (fun g14=>by exact ⟨g14,g14,trivial⟩) (fun g14=>bg rfl rfl) ?_)))))
 refine cx (!(((decide (x_1 = [])) || (decide (behind0 = []))) || x_4)) [34] (fun g15=>⟨g15,trivial⟩) (fun g15=>fj rfl rfl) (ae.mX h rfl (aQ (fun e=>by rw [e]; rfl) rfl rfl rfl rfl) (fun x_5 h=>?_))
 refine ae.an ⟨[(0,_),(1,_),(4,_),(6,_),(36,B x_5)],[(101,_)]⟩ rfl (ab.ite h rfl (fun _ h=>?_) (fun _ h=>?_))
 ·refine ab.seq (ab.aa ?_)
  refine ae.dO aE h rfl (aS dW rfl rfl) (fun x_6 h=>?_)
  refine Oc (ah aC rfl rfl rfl rfl (Nat.le_of_ble_eq_true rfl) rfl) (Oc oa ?_)
  refine ae.an ⟨[(4,_),(5,I 281)],[(101,.box 27 (aE x_6))]⟩ rfl (ab.ret (Fin.aw ?_))
  obtain rfl:=Option.some.inj h
  refine Fin.ag ⟨[(4,_),(5,_)],[(101,_)]⟩ rfl (Fin.aq [.agg (aE x_6),.one (.i 281)] (.inl rfl) rfl (.cons (.agg aC rfl rfl rfl rfl) (.cons (.tmp rfl) .nil)) ⟨rfl,rfl⟩)
 ·refine ab.skip (Fin.ag ⟨[(0,_),(1,_),(4,_),(6,_)],[(101,_)]⟩ rfl (Fin.then (ab.seq (ab.aa ?_))))
  obtain ⟨x_7,e16,h⟩:=aD h
  refine Oc (ad (kF e16) se rfl rfl) ?_
  obtain ⟨x_8,e17,h⟩:=aD h
  refine Oc (ad (kF e17) se rfl rfl) (ae.ag ⟨[(0,_),(1,_),(4,_),(6,_),(38,.b (.agg (aE x_7))),(39,.b (.agg (aE x_8)))],[(101,_)]⟩ rfl ?_)
  obtain ⟨x_9,e18,h⟩:=aD h
  refine Oc (ad (kF e18) se rfl rfl) (Oc (aB (k:=102) bQ rfl) (Oc (aB (k:=103) bQ rfl) (Oc (aB (k:=104) bQ rfl) ?_)))
  refine ae.ag ⟨[(0,_),(1,_),(4,_),(6,_),(7,Pt 102 0),(8,Pt 103 0),(9,Pt 104 0),(38,_),(39,_),(40,.b (.agg (aE x_9)))],[(101,_),(102,.box 27 dM),(103,.box 27 dM),(104,.box 27 dM)]⟩ rfl (Oc (ah aC rfl rfl rfl rfl (Nat.le_of_ble_eq_true rfl) rfl) (Oc (ah aC rfl rfl rfl rfl (Nat.le_of_ble_eq_true rfl) rfl) (Oc (ah aC rfl rfl rfl rfl (Nat.le_of_ble_eq_true rfl) rfl) ?_)))
  refine ae.an ⟨[(0,_),(1,_),(4,_),(6,_),(7,_),(8,_),(9,_)],[(101,_),(102,.box 27 (aE x_7)),(103,.box 27 (aE x_8)),(104,.box 27 (aE x_9))]⟩ rfl ?_
  obtain ⟨v19,h20,h⟩:=aD h
  refine ab.cB (v:=v19) (b9 fun (x_10:bz) (scale_11:bz)=>⟨[(4,Pt 101 0),(6,B x_2),(7,Pt 102 0),(8,Pt 103 0)],[(101,.box 27 dM),(102,.box 27 (aE x_10)),(103,.box 27 (aE scale_11))]⟩) (fun z=>z) ?_ ?_
  ·refine ab.seq (ab.aa ?_)
   refine Oc om (Oc om ?_)
   obtain ⟨x_12,e21,h20⟩:=aD h20
   refine Oc (bK e21 rfl rfl) (Oc (pq (k:=105) iF rfl rfl) ?_)
   refine ae.an ⟨[(0,_),(4,_),(6,_),(7,_),(8,_),(9,_),(44,Pt 105 0)],[(101,_),(102,_),(103,_),(104,_),(105,.uS x_12 0)]⟩ rfl (ab.block (ab.cW h20 (ky fun (x_13:bz) (scale_14:bz) (xp_15:Nat)=>⟨[(0,.b (.one (.str x_1))),(4,Pt 101 0),(6,B x_2),(7,Pt 102 0),(8,Pt 103 0),(9,Pt 104 0),(44,Pt 105 0)],[(101,.box 27 dM),(102,.box 27 (aE x_13)),(103,.box 27 (aE scale_14)),(104,.box 27 (aE x_9)),(105,.uS x_12 xp_15)]⟩) [0,4,6,7,8,9,44] [101,102,103,104,105] rfl ?_))
   rintro ⟨x_13,scale_14,xp_15⟩ o22 h23 hy24
   refine ab.seq (ab.aa ?_)
   refine ae.ite h23 (fun hc25 h23=>?_) (fun hc25 h23=>?_)
   ·refine Oc (qH rfl rfl (of_decide_eq_true hc25)) (Oc (ay rfl rfl) ?_)
    refine ae.an ⟨[(0,_),(4,_),(6,_),(7,_),(8,_),(9,_),(44,_),(45,.eY [.one (.bool true),.one (.i (xp_15:Nat)),.one (.int .i32 (kB x_12 xp_15))]),(46,B true)],[(101,_),(102,_),(103,_),(104,_),(105,.uS x_12 (iH x_12 xp_15))]⟩ rfl (ab.seq (ab.Bp rfl (ab.skip (Fin.ag ⟨[(0,_),(4,_),(6,_),(7,_),(8,_),(9,_),(44,_),(45,_)],[(101,_),(102,_),(103,_),(104,_),(105,_)]⟩ rfl (Fin.then (ab.block (ab.seq (ab.aa ?_))))))))
    refine Oc (ay rfl rfl) (Oc (ay rfl rfl) (Oc oa (Oc oa ?_)))
    refine ae.an ⟨[(0,_),(4,_),(6,_),(7,_),(8,_),(9,_),(10,I (xp_15:Nat)),(11,.b (.one (.int .i32 (kB x_12 xp_15)))),(44,_)],[(101,_),(102,_),(103,_),(104,_),(105,_)]⟩ rfl (ab.seq (ab.aa ?_))
    refine Oc (lp aC) (Oc (lp aC) ?_)
    obtain ⟨x_18,e26,h23⟩:=aD h23
    refine Oc (ad (mH e26) vK rfl rfl) (Oc om ?_)
    refine ae.cD .i32 h23 rfl (b7 rfl rfl) (fun x_19 h23=>?_)
    refine ae.ag ⟨[(0,_),(4,_),(6,_),(7,_),(8,_),(9,_),(10,_),(44,_),(51,.b (.agg (aE x_18))),(53,.b (.one (.int .i32 x_19)))],[(101,_),(102,_),(103,_),(104,_),(105,_)]⟩ rfl (Oc (aH Du kz rfl) ?_)
    obtain ⟨x_20,e27,h23⟩:=aD h23
    refine Oc (ad (kF e27) se rfl rfl) ?_
    obtain ⟨x_21,e28,h23⟩:=aD h23
    refine Oc (ad (sr e28) AA rfl rfl) (Oc (ah aC rfl rfl rfl rfl (Nat.le_of_ble_eq_true rfl) rfl) ?_)
    refine ae.an ⟨[(0,_),(4,_),(6,_),(7,_),(8,_),(9,_),(10,_),(44,_)],[(101,_),(102,.box 27 (aE x_21)),(103,_),(104,_),(105,_)]⟩ rfl (ab.seq (ab.aa ?_))
    refine Oc om (Oc om (Oc (dR iF rfl) (Oc (gC rfl rfl) ?_)))
    refine ae.an ⟨[(0,_),(4,_),(6,_),(7,_),(8,_),(9,_),(44,_),(60,B (decide ((x_1.length:Int) ≤ (xp_15:Nat))))],[(101,_),(102,_),(103,_),(104,_),(105,_)]⟩ rfl (ab.ite h23 rfl (fun _ h23=>?_) (fun _ h23=>?_))
    ·refine ab.aa (Oc (lp aC) (Oc (lp aC) ?_))
     obtain ⟨x_22,e29,h23⟩:=aD h23
     refine Oc (ad (mH e29) vK rfl rfl) (Oc (ah aC rfl rfl rfl rfl (Nat.le_of_ble_eq_true rfl) rfl) ?_)
     refine ae.nil (Fin.aI ?_)
     exact Fin.b6 [0,4,6,7,8,9,44] [101,102,103,104,105] (x_21,x_22,iH x_12 xp_15) (Option.some.inj h23) rfl
    ·refine ab.skip (Fin.aI ?_)
     exact Fin.b6 [0,4,6,7,8,9,44] [101,102,103,104,105] (x_21,scale_14,iH x_12 xp_15) (Option.some.inj h23) rfl
   ·refine Oc (qG rfl rfl (Nat.not_lt.1 (of_decide_eq_false hc25))) (Oc (ay rfl rfl) ?_)
    refine ae.an ⟨[(0,_),(4,_),(6,_),(7,_),(8,_),(9,_),(44,_),(45,.eY [.one (.bool false)]),(46,B false)],[(101,_),(102,_),(103,_),(104,_),(105,_)]⟩ rfl (ab.seq (ab.yU rfl (ab.exit (Fin.aF ?_))))
    obtain rfl:=hy24 _ (Option.some.inj h23).symm
    refine Fin.aF (Fin.aX ?_)
    exact Fin.join [4,6,7,8] [101,102,103] (x_13,scale_14) rfl rfl
  ·rintro ⟨x_10,scale_11⟩ hv
   subst v19
   obtain ⟨v30,h31,h⟩:=aD h
   refine ab.cB (v:=v30) (fun (x_23:bz)=>⟨[(4,Pt 101 0),(7,Pt 102 0),(8,Pt 103 0)],[(101,.box 27 dM),(102,.box 27 (aE x_23)),(103,.box 27 (aE scale_11))]⟩) (fun z=>z) ?_ ?_
   ·refine ab.seq (ab.aa ?_)
    refine Oc om (ae.an ⟨[(4,_),(7,_),(8,_),(64,B x_2)],[(101,_),(102,_),(103,_)]⟩ rfl (ab.ite h31 rfl (fun _ h31=>?_) (fun _ h31=>?_)))
    ·refine ab.aa (Oc (lp aC) ?_)
     obtain ⟨x_24,e32,h31⟩:=aD h31
     refine Oc (ad (wD e32) D8 rfl rfl) (Oc (ah aC rfl rfl rfl rfl (Nat.le_of_ble_eq_true rfl) rfl) ?_)
     refine ae.nil ?_
     exact Fin.join [4,7,8] [101,102,103] x_24 (Option.some.inj h31) rfl
    ·refine ab.skip ?_
     exact Fin.join [4,7,8] [101,102,103] x_10 (Option.some.inj h31) rfl
   ·rintro x_23 hv
    subst v30
    refine ab.seq (ab.aa ?_)
    refine Oc (lp aC) (Oc (lp aC) ?_)
    obtain ⟨x_25,e33,h⟩:=aD h
    refine Oc (ad (oZ e33) xX rfl rfl) (Oc (ah aC rfl rfl rfl rfl (Nat.le_of_ble_eq_true rfl) rfl) (Oc oa ?_))
    refine ae.an ⟨[(4,_),(5,I 0)],[(101,.box 27 (aE x_25))]⟩ rfl (ab.ret ?_)
    obtain rfl:=Option.some.inj h
    refine Fin.ag ⟨[(4,_),(5,_)],[(101,_)]⟩ rfl (Fin.aq [.agg (aE x_25),.one (.i 0)] (.inl rfl) rfl (.cons (.agg aC rfl rfl rfl rfl) (.cons (.tmp rfl) .nil)) ⟨rfl,rfl⟩)
def rk (F:Nat) (s0:bA):Option (br × Int) :=
 Option.bind ((bE (decide (0 < (s0.length:Int))) (bI s0 0)).bind fun x_2=>bN ((decide (0 < (s0.length:Int))) && (decide ((x_2.toNat:Int) = 45))) fun x_3=>if x_3 = true then ((pT s0 1).bind fun x_4=>some x_4) else (some s0)) (fun digits_1=>(bE (!(decide (digits_1 = []))) (bI digits_1 0)).bind fun x_5=>bN ((decide (digits_1 = [])) || ((decide ((x_5.toNat:Int) = 48)) && (decide (s0 ≠ [48])))) fun x_6=>if x_6 = true then ((gx F).bind fun x_7=>some (x_7,281)) else (Option.bind (iter F (fun x_8=>if (decide (x_8 < ((ofStr digits_1).length:Int))) = true then ((bI (ofStr digits_1) x_8).bind fun x_9=>if ((decide (x_9 < 48)) || (decide (57 < x_9))) = true then ((gx F).bind fun x_10=>some (.inr (.inr (x_10,281)))) else (some (.inl (IntKind.i64.wrap (x_8 + 1))))) else (some (.inr (.inl ())))) 0) (ls (fun _=>if (decide (512 < (digits_1.length:Int))) = true then ((gx F).bind fun x_11=>some (x_11,30)) else ((jA F 0).bind fun x_12=>(jA F 10).bind fun x_13=>Option.bind (iter F (b9 fun x_15 x_16=>if (decide (x_16 < ((ofStr digits_1).length:Int))) = true then ((bI (ofStr digits_1) x_16).bind fun x_18=>(j8 F x_15 x_13).bind fun x_19=>bN (IntKind.i64.wrap (IntKind.u8.wrap (x_18 - 48))) fun x_20=>(jA F x_20).bind fun x_21=>(oB F x_19 x_21).bind fun x_22=>some (.inl (x_22,IntKind.i64.wrap (x_16 + 1)))) else (some (.inr x_15))) (x_12,0)) (fun x_14=>if x_14.Bad = true then (some (x_14,30)) else ((c6 F (decide (digits_1 ≠ s0)) x_14.W).bind fun x_23=>some (x_23,0))))) (fun y=>some y))))
theorem tf {F:Nat} {s0:bA} {r:br × Int} (h:rk F s0 = some r):aA Tryz.prog (bd mx) 121 [] [.one (.str s0)] (Is [] (.eY [.agg (ar r.1),.one (.i r.2)])):=by
 unfold rk at h
 refine aA.intro 80 Tryz.func121 Tryz.ntmps121 rfl (by simp) fun E=>?_
 show ab _ E ⟨80,[],[]⟩ _ ⟨[(0,.b (.one (.str s0)))],[]⟩ _
 refine ab.seq (ab.aa ?_)
 refine Oc (aB (k:=101) bn rfl) (Oc oa ?_)
 refine ae.an ⟨[(0,.b (.one (.str s0))),(2,Pt 101 0)],[(101,.box 25 cU)]⟩ rfl (ab.seq (ab.aa ?_))
 refine Oc om (Oc oa ?_)
 refine ae.an ⟨[(0,_),(2,_),(4,.b (.one (.str s0)))],[(101,_)]⟩ rfl ?_
 obtain ⟨v1,h2,h⟩:=aD h
 refine ab.cB (v:=v1) (fun (digits_1:bA)=>⟨[(0,.b (.one (.str s0))),(2,Pt 101 0),(4,.b (.one (.str digits_1)))],[(101,.box 25 cU)]⟩) (fun z=>z) ?_ ?_
 ·refine ab.seq (ab.aa ?_)
  refine Oc om (Oc (dR iF rfl) (Oc (fj rfl rfl) (Oc om ?_)))
  refine cG (decide (0 < (s0.length:Int))) [] (fun g3=>trivial) (fun g3=>om) ?_
  obtain ⟨x_2,e5,h2⟩:=aD h2
  refine cG (decide (0 < (s0.length:Int))) [16] (fun g4=>⟨g4,trivial⟩) (fun g4=>kr iF rfl rfl (bx (gc e5 g4)) (p5 (gc e5 g4))) (cG (decide (0 < (s0.length:Int))) [17] (fun g6=>⟨g6,trivial⟩) (fun g6=>cR rfl rfl) (ae.mX h2 rfl (aG (fun e=>e) rfl rfl rfl rfl) (fun x_3 h2=>?_)))
  refine ae.an ⟨[(0,_),(2,_),(4,_),(19,B x_3)],[(101,_)]⟩ rfl (ab.ite h2 rfl (fun _ h2=>?_) (fun _ h2=>?_))
  ·refine ab.aa (Oc om ?_)
   obtain ⟨x_4,e7,h2⟩:=aD h2
   refine Oc (gI iF e7 rfl rfl) (Oc oa ?_)
   refine ae.nil ?_
   exact Fin.join [0,2,4] [101] x_4 (Option.some.inj h2) rfl
  ·refine ab.skip ?_
   exact Fin.join [0,2,4] [101] s0 (Option.some.inj h2) rfl
 ·rintro digits_1 hv
  subst v1
  refine ab.seq (ab.seq (ab.aa ?_))
  refine Oc om (Oc (c7 rfl rfl) (Oc om ?_))
  refine cx (!(decide (digits_1 = []))) [] (fun g8=>trivial) (fun g8=>om) ?_
  obtain ⟨x_5,e10,h⟩:=aD h
  refine cx (!(decide (digits_1 = []))) [25] (fun g9=>⟨g9,trivial⟩) (fun g9=>kr iF rfl rfl (bx (gc e10 g9)) (p5 (gc e10 g9))) (cx (!(decide (digits_1 = []))) [26] (fun g11=>⟨g11,trivial⟩) (fun g11=>cR rfl rfl) (cx (!(decide (digits_1 = []))) [27] (fun g12=>⟨g12,trivial⟩) (fun g12=>om) (ae.ag ⟨[(0,_),(2,_),(4,_),(24,B (decide (digits_1 = []))),(28,.dh (!(decide (digits_1 = []))) (.one (.bool (decide ((x_5.toNat:Int) = 48)))))],[(101,_)]⟩ rfl (ae.jj ((!(decide (digits_1 = []))) && (decide ((x_5.toNat:Int) = 48))) 99 [] (.under rfl) (ma _ _) rfl rfl (fun g13=>by exact trivial) (fun g13=>om) (ae.jj ((!(decide (digits_1 = []))) && (decide ((x_5.toNat:Int) = 48))) 99 [29] (.under rfl) (ma _ _) rfl rfl (fun g14=>by exact ⟨g14,trivial⟩) (fun g14=>o9 rfl rfl) ?_)))))
  refine cx (!(decide (digits_1 = []))) [28] (fun g15=>⟨g15,trivial⟩) (fun g15=>aG (fun e=>by rw [g15,e]; rfl) rfl rfl rfl rfl) (ae.mX h rfl (aQ (fun e=>by rw [e]; rfl) rfl rfl rfl rfl) (fun x_6 h=>?_))
  refine ae.an ⟨[(0,_),(2,_),(4,_),(32,B x_6)],[(101,_)]⟩ rfl (ab.ite h rfl (fun _ h=>?_) (fun _ h=>?_))
  ·refine ab.seq (ab.aa ?_)
   obtain ⟨x_7,e16,h⟩:=aD h
   refine Oc (ad (eH e16) iU rfl rfl) (Oc (ah aj rfl rfl rfl rfl (Nat.le_of_ble_eq_true rfl) rfl) (Oc oa ?_))
   refine ae.an ⟨[(2,_),(3,I 281)],[(101,.box 25 (ar x_7))]⟩ rfl (ab.ret (Fin.aw ?_))
   obtain rfl:=Option.some.inj h
   refine Fin.ag ⟨[(2,_),(3,_)],[(101,_)]⟩ rfl (Fin.aq [.agg (ar x_7),.one (.i 281)] (.inl rfl) rfl (.cons (.agg aj rfl rfl rfl rfl) (.cons (.tmp rfl) .nil)) ⟨rfl,rfl⟩)
  ·refine ab.skip (Fin.ag ⟨[(0,_),(2,_),(4,_)],[(101,_)]⟩ rfl (Fin.then ?_))
   obtain ⟨v17,h18,h⟩:=aD h
   refine ab.cB (v:=v17) (fun (_:Unit)=>⟨[(0,.b (.one (.str s0))),(2,Pt 101 0),(4,.b (.one (.str digits_1)))],[(101,.box 25 cU)]⟩) (fun z=>.inl z) ?_ ?_
   ·refine ab.seq (ab.aa ?_)
    refine Oc om (Oc (uC iF vo pE rfl) (Oc (bV vo rfl (List.length_map _)) (Oc om ?_)))
    refine ae.an ⟨[(0,_),(2,_),(4,_),(35,.b (.one (.sl 1 ((ofStr digits_1).map (eK .u8))))),(36,I ((ofStr digits_1).length:Int)),(37,I 0)],[(101,_)]⟩ rfl (ab.block (ab.cW h18 (fun (x_8:Int)=>⟨[(0,.b (.one (.str s0))),(2,Pt 101 0),(4,.b (.one (.str digits_1))),(35,.b (.one (.sl 1 ((ofStr digits_1).map (eK .u8))))),(36,I ((ofStr digits_1).length:Int)),(37,I x_8)],[(101,.box 25 cU)]⟩) [0,2,4,35,36,37] [101] rfl ?_))
    rintro x_8 o19 h20 hy21
    refine ab.seq (ab.aa ?_)
    refine Oc (bP rfl rfl) (ae.an ⟨[(0,_),(2,_),(4,_),(35,_),(36,_),(37,_),(38,B (decide (x_8 < ((ofStr digits_1).length:Int))))],[(101,_)]⟩ rfl (ab.seq (ab.ite h20 rfl (fun _ h20=>?_) (fun _ h20=>?_))))
    ·refine ab.skip (Fin.ag ⟨[(0,_),(2,_),(4,_),(35,_),(36,_),(37,_)],[(101,_)]⟩ rfl (Fin.then (ab.seq (ab.block (ab.seq (ab.aa ?_))))))
     obtain ⟨x_9,e22,h20⟩:=aD h20
     refine Oc (dS vy (bx e22) (eE (e:=(eK .u8)) e22) rfl rfl) (Oc (fo Dv rfl rfl) (Oc oa ?_))
     refine ae.an ⟨[(0,_),(2,_),(4,_),(6,.b (.one (.int .u8 x_9))),(35,_),(36,_),(37,_)],[(101,_)]⟩ rfl (ab.seq (ab.aa ?_))
     refine Oc om (Oc (bP rfl rfl) (Oc om ?_))
     refine cx (!(decide (x_9 < 48))) [] (fun g23=>trivial) (fun g23=>om) (cx (!(decide (x_9 < 48))) [44] (fun g24=>by exact ⟨g24,trivial⟩) (fun g24=>fj rfl rfl) (Oc (aQ (fun e=>by rw [e]; rfl) rfl rfl rfl rfl) (ae.an ⟨[(0,_),(2,_),(4,_),(35,_),(36,_),(37,_),(46,B ((decide (x_9 < 48)) || (decide (57 < x_9))))],[(101,_)]⟩ rfl (ab.ite h20 rfl (fun _ h20=>?_) (fun _ h20=>?_)))))
     ·refine ab.seq (ab.aa ?_)
      obtain ⟨x_10,e25,h20⟩:=aD h20
      refine Oc (ad (eH e25) iU rfl rfl) (Oc (ah aj rfl rfl rfl rfl (Nat.le_of_ble_eq_true rfl) rfl) (Oc oa ?_))
      refine ae.an ⟨[(2,_),(3,I 281)],[(101,.box 25 (ar x_10))]⟩ rfl (ab.ret (Fin.bb (Fin.aw ?_)))
      obtain rfl:=hy21 _ (Option.some.inj h20).symm
      refine Fin.aw (Fin.bb (Fin.aw ?_))
      obtain rfl:=Option.some.inj h
      refine Fin.ag ⟨[(2,_),(3,_)],[(101,_)]⟩ rfl (Fin.aq [.agg (ar x_10),.one (.i 281)] (.inl rfl) rfl (.cons (.agg aj rfl rfl rfl rfl) (.cons (.tmp rfl) .nil)) ⟨rfl,rfl⟩)
     ·refine ab.skip (Fin.aI (Fin.ag ⟨[(0,_),(2,_),(4,_),(35,_),(36,_),(37,_)],[(101,_)]⟩ rfl (Fin.then (ab.aa ?_))))
      refine Oc (bg rfl rfl) (Oc om ?_)
      refine ae.nil ?_
      exact Fin.b6 [0,2,4,35,36,37] [101] (IntKind.i64.wrap (x_8 + 1)) (Option.some.inj h20) rfl
    ·refine ab.exit (Fin.aF ?_)
     obtain rfl:=hy21 _ (Option.some.inj h20).symm
     refine Fin.aF (Fin.aX ?_)
     exact Fin.join [0,2,4] [101] () rfl rfl
   ·rintro _ hv
    subst v17
    refine ab.seq (ab.seq (ab.aa ?_))
    refine Oc om (Oc (dR iF rfl) (Oc (fj rfl rfl) ?_))
    refine ae.an ⟨[(0,_),(2,_),(4,_),(51,B (decide (512 < (digits_1.length:Int))))],[(101,_)]⟩ rfl (ab.ite h rfl (fun _ h=>?_) (fun _ h=>?_))
    ·refine ab.seq (ab.aa ?_)
     obtain ⟨x_11,e26,h⟩:=aD h
     refine Oc (ad (eH e26) iU rfl rfl) (Oc (ah aj rfl rfl rfl rfl (Nat.le_of_ble_eq_true rfl) rfl) (Oc oa ?_))
     refine ae.an ⟨[(2,_),(3,I 30)],[(101,.box 25 (ar x_11))]⟩ rfl (ab.ret (Fin.aw ?_))
     obtain rfl:=Option.some.inj h
     refine Fin.ag ⟨[(2,_),(3,_)],[(101,_)]⟩ rfl (Fin.aq [.agg (ar x_11),.one (.i 30)] (.inl rfl) rfl (.cons (.agg aj rfl rfl rfl rfl) (.cons (.tmp rfl) .nil)) ⟨rfl,rfl⟩)
    ·refine ab.skip (Fin.ag ⟨[(0,_),(2,_),(4,_)],[(101,_)]⟩ rfl (Fin.then (ab.seq (ab.aa ?_))))
     obtain ⟨x_12,e27,h⟩:=aD h
     refine Oc (ad (il e27) nJ rfl rfl) ?_
     obtain ⟨x_13,e28,h⟩:=aD h
     refine Oc (ad (il e28) nJ rfl rfl) (ae.ag ⟨[(0,_),(2,_),(4,_),(53,.b (.agg (ar x_12))),(54,.b (.agg (ar x_13)))],[(101,_)]⟩ rfl (Oc (aB (k:=102) bn rfl) (Oc (aB (k:=103) bn rfl) (Oc (ah aj rfl rfl rfl rfl (Nat.le_of_ble_eq_true rfl) rfl) (Oc (ah aj rfl rfl rfl rfl (Nat.le_of_ble_eq_true rfl) rfl) ?_)))))
     refine ae.an ⟨[(0,_),(2,_),(4,_),(7,Pt 102 0),(8,Pt 103 0)],[(101,_),(102,.box 25 (ar x_12)),(103,.box 25 (ar x_13))]⟩ rfl ?_
     obtain ⟨v29,h30,h⟩:=aD h
     refine ab.cB (v:=v29) (fun (x_14:br)=>⟨[(0,.b (.one (.str s0))),(2,Pt 101 0),(4,.b (.one (.str digits_1))),(7,Pt 102 0)],[(101,.box 25 cU),(102,.box 25 (ar x_14))]⟩) (fun z=>z) ?_ ?_
     ·refine ab.seq (ab.aa ?_)
      refine Oc om (Oc (uC iF vo pE rfl) (Oc (bV vo rfl (List.length_map _)) (Oc om ?_)))
      refine ae.an ⟨[(0,_),(2,_),(4,_),(7,_),(8,_),(56,.b (.one (.sl 1 ((ofStr digits_1).map (eK .u8))))),(57,I ((ofStr digits_1).length:Int)),(58,I 0)],[(101,_),(102,_),(103,_)]⟩ rfl (ab.block (ab.cW h30 (b9 fun (x_15:br) (x_16:Int)=>⟨[(0,.b (.one (.str s0))),(2,Pt 101 0),(4,.b (.one (.str digits_1))),(7,Pt 102 0),(8,Pt 103 0),(56,.b (.one (.sl 1 ((ofStr digits_1).map (eK .u8))))),(57,I ((ofStr digits_1).length:Int)),(58,I x_16)],[(101,.box 25 cU),(102,.box 25 (ar x_15)),(103,.box 25 (ar x_13))]⟩) [0,2,4,7,8,56,57,58] [101,102,103] rfl ?_))
      rintro ⟨x_15,x_16⟩ o31 h32 hy33
      refine ab.seq (ab.aa ?_)
      refine Oc (bP rfl rfl) (ae.an ⟨[(0,_),(2,_),(4,_),(7,_),(8,_),(56,_),(57,_),(58,_),(59,B (decide (x_16 < ((ofStr digits_1).length:Int))))],[(101,_),(102,_),(103,_)]⟩ rfl (ab.seq (ab.ite h32 rfl (fun _ h32=>?_) (fun _ h32=>?_))))
      ·refine ab.skip (Fin.ag ⟨[(0,_),(2,_),(4,_),(7,_),(8,_),(56,_),(57,_),(58,_)],[(101,_),(102,_),(103,_)]⟩ rfl (Fin.then (ab.seq (ab.block (ab.seq (ab.aa ?_))))))
       obtain ⟨x_18,e34,h32⟩:=aD h32
       refine Oc (dS vy (bx e34) (eE (e:=(eK .u8)) e34) rfl rfl) (Oc (fo Dv rfl rfl) (Oc oa ?_))
       refine ae.an ⟨[(0,_),(2,_),(4,_),(7,_),(8,_),(10,.b (.one (.int .u8 x_18))),(56,_),(57,_),(58,_)],[(101,_),(102,_),(103,_)]⟩ rfl (ab.aa (Oc (lp aj) (Oc (lp aj) ?_)))
       obtain ⟨x_19,e35,h32⟩:=aD h32
       refine Oc (ad (fl e35) lC rfl rfl) (Oc om (Oc (b7 rfl rfl) ?_))
       refine ae.ag ⟨[(0,_),(2,_),(4,_),(7,_),(8,_),(56,_),(57,_),(58,_),(64,.b (.agg (ar x_19))),(66,.b (.one (.int .u8 (IntKind.u8.wrap (x_18 - 48)))))],[(101,_),(102,_),(103,_)]⟩ rfl (ae.cD .i64 h32 rfl (aH pE kz rfl) (fun x_20 h32=>?_))
       obtain ⟨x_21,e36,h32⟩:=aD h32
       refine Oc (ad (il e36) nJ rfl rfl) ?_
       obtain ⟨x_22,e37,h32⟩:=aD h32
       refine Oc (ad (sn e37) Au rfl rfl) (Oc (ah aj rfl rfl rfl rfl (Nat.le_of_ble_eq_true rfl) rfl) ?_)
       refine ae.nil (Fin.aI (Fin.ag ⟨[(0,_),(2,_),(4,_),(7,_),(8,_),(56,_),(57,_),(58,_)],[(101,_),(102,.box 25 (ar x_22)),(103,_)]⟩ rfl (Fin.then (ab.aa ?_))))
       refine Oc (bg rfl rfl) (Oc om ?_)
       refine ae.nil ?_
       exact Fin.b6 [0,2,4,7,8,56,57,58] [101,102,103] (x_22,IntKind.i64.wrap (x_16 + 1)) (Option.some.inj h32) rfl
      ·refine ab.exit (Fin.aF ?_)
       obtain rfl:=hy33 _ (Option.some.inj h32).symm
       refine Fin.aF (Fin.aX ?_)
       exact Fin.join [0,2,4,7] [101,102] x_15 rfl rfl
     ·rintro x_14 hv
      subst v29
      refine ab.seq (ab.seq (ab.aa ?_))
      refine Oc (af jM rfl rfl) (Oc (au bS rfl rfl rfl) ?_)
      refine ae.an ⟨[(0,_),(2,_),(4,_),(7,_),(72,B x_14.Bad)],[(101,_),(102,_)]⟩ rfl (ab.ite h rfl (fun _ h=>?_) (fun _ h=>?_))
      ·refine ab.seq (ab.aa ?_)
       refine Oc (lp aj) (Oc (ah aj rfl rfl rfl rfl (Nat.le_of_ble_eq_true rfl) rfl) (Oc oa ?_))
       refine ae.an ⟨[(2,_),(3,I 30)],[(101,.box 25 (ar x_14))]⟩ rfl (ab.ret (Fin.aw ?_))
       obtain rfl:=Option.some.inj h
       refine Fin.ag ⟨[(2,_),(3,_)],[(101,_)]⟩ rfl (Fin.aq [.agg (ar x_14),.one (.i 30)] (.inl rfl) rfl (.cons (.agg aj rfl rfl rfl rfl) (.cons (.tmp rfl) .nil)) ⟨rfl,rfl⟩)
      ·refine ab.skip (Fin.ag ⟨[(0,_),(2,_),(4,_),(7,_)],[(101,_),(102,_)]⟩ rfl (Fin.then (ab.seq (ab.aa ?_))))
       refine Oc om (Oc om (Oc (o9 rfl rfl) (Oc (af aZ rfl rfl) (Oc (lp aN) ?_))))
       refine ae.ag ⟨[(2,_),(76,B (decide (digits_1 ≠ s0))),(78,.b (.agg (eW x_14.W)))],[(101,_)]⟩ rfl ?_
       obtain ⟨x_23,e38,h⟩:=aD h
       refine Oc (ad (cZ e38) iV rfl rfl) (Oc (ah aj rfl rfl rfl rfl (Nat.le_of_ble_eq_true rfl) rfl) (Oc oa ?_))
       refine ae.an ⟨[(2,_),(3,I 0)],[(101,.box 25 (ar x_23))]⟩ rfl (ab.ret ?_)
       obtain rfl:=Option.some.inj h
       refine Fin.ag ⟨[(2,_),(3,_)],[(101,_)]⟩ rfl (Fin.aq [.agg (ar x_23),.one (.i 0)] (.inl rfl) rfl (.cons (.agg aj rfl rfl rfl rfl) (.cons (.tmp rfl) .nil)) ⟨rfl,rfl⟩)
def tT (F:Nat) (s0:bA):Option (bz × Int) :=
 Option.bind (k4 F s0 [47]) (ky fun x_1 x_2 x_3=>(lN F).bind fun x_4=>bN (⟨(⟨false,false,aU.zero⟩:br),x_4⟩:bz) fun x_5=>Option.bind (rk F x_1) (b9 fun x_6 x_7=>Option.bind (if x_3 = true then (Option.bind (rk F x_2) (b9 fun x_10 x_11=>some ((⟨x_6,x_10⟩:bz),x_11))) else (some ((⟨x_6,x_5.D⟩:bz),0))) (b9 fun x_8 f_9=>(bE (((!((decide (x_7 = 281)) || (decide (f_9 = 281)))) && x_3) && !((decide (x_2 = [48])) || (decide (x_2 = [49])))) (gA F x_2 [45])).bind fun x_12=>bN (((decide (x_7 = 281)) || (decide (f_9 = 281))) || (x_3 && (((decide (x_2 = [48])) || (decide (x_2 = [49]))) || x_12))) fun x_13=>if x_13 = true then ((iT F).bind fun x_14=>some (x_14,281)) else (if ((decide (x_7 ≠ 0)) || (decide (f_9 ≠ 0))) = true then ((iT F).bind fun x_15=>some (x_15,30)) else ((dx F x_8).bind fun x_16=>if (!x_16) = true then ((iT F).bind fun x_17=>some (x_17,281)) else (some (x_8,0)))))))
theorem yI {F:Nat} {s0:bA} {r:bz × Int} (h:tT F s0 = some r):aA Tryz.prog (bd mx) 61 [] [.one (.str s0)] (Is [] (.eY [.agg (aE r.1),.one (.i r.2)])):=by
 unfold tT at h
 refine aA.intro 68 Tryz.func61 Tryz.ntmps61 rfl (by simp) fun E=>?_
 show ab _ E ⟨68,[],[]⟩ _ ⟨[(0,.b (.one (.str s0)))],[]⟩ _
 refine ab.seq (ab.aa ?_)
 refine Oc (aB (k:=101) bQ rfl) (Oc oa ?_)
 refine ae.an ⟨[(0,.b (.one (.str s0))),(2,Pt 101 0)],[(101,.box 27 dM)]⟩ rfl (ab.seq (ab.aa ?_))
 refine Oc om ?_
 obtain ⟨⟨x_1,x_2,x_3⟩,e1,h⟩:=aD h
 refine Oc (ad (kM e1) Aw rfl rfl) (Oc om (Oc (ay rfl rfl) (Oc (ay rfl rfl) ?_)))
 refine ae.ag ⟨[(2,_),(10,.eY [.one (.str x_1),.one (.str x_2),.one (.bool x_3)]),(13,.b (.one (.str x_1))),(14,.b (.one (.str x_2)))],[(101,_)]⟩ rfl (Oc (ay rfl rfl) (Oc oa (Oc oa (Oc oa ?_))))
 refine ae.an ⟨[(2,_),(4,.b (.one (.str x_1))),(5,.b (.one (.str x_2))),(6,B x_3)],[(101,_)]⟩ rfl (ab.seq (ab.aa ?_))
 obtain ⟨x_4,e2,h⟩:=aD h
 refine Oc (ad (mG e2) vH rfl rfl) (ae.dO aE h rfl (aS dW rfl rfl) (fun x_5 h=>?_))
 refine Oc (aB (k:=102) bQ rfl) (Oc (ah aC rfl rfl rfl rfl (Nat.le_of_ble_eq_true rfl) rfl) ?_)
 refine ae.an ⟨[(2,_),(4,_),(5,_),(6,_),(7,Pt 102 0)],[(101,_),(102,.box 27 (aE x_5))]⟩ rfl (ab.seq (ab.aa ?_))
 refine Oc oa (Oc oa ?_)
 refine ae.an ⟨[(2,_),(4,_),(5,_),(6,_),(7,_),(9,I 0)],[(101,_),(102,_)]⟩ rfl (ab.seq (ab.aa ?_))
 refine Oc om ?_
 obtain ⟨⟨x_6,x_7⟩,e3,h⟩:=aD h
 refine Oc (ad (tf e3) Ca rfl rfl) (Oc om (Oc (ay rfl rfl) (Oc (ay rfl rfl) ?_)))
 refine ae.ag ⟨[(2,_),(5,_),(6,_),(7,_),(9,_),(21,.b (.agg (ar x_6))),(22,I x_7)],[(101,_),(102,_)]⟩ rfl (Oc (af bq rfl rfl) (Oc (ah aj rfl rfl rfl rfl (Nat.le_of_ble_eq_true rfl) rfl) (Oc oa ?_)))
 refine ae.an ⟨[(2,_),(5,_),(6,_),(7,_),(8,I x_7),(9,_)],[(101,_),(102,.box 27 (ar x_6 ++ (ar x_5.D)))]⟩ rfl ?_
 obtain ⟨v4,h5,h⟩:=aD h
 refine ab.cB (v:=v4) (b9 fun (x_8:bz) (f_9:Int)=>⟨[(2,Pt 101 0),(5,.b (.one (.str x_2))),(6,B x_3),(7,Pt 102 0),(8,I x_7),(9,I f_9)],[(101,.box 27 dM),(102,.box 27 (aE x_8))]⟩) (fun z=>z) ?_ ?_
 ·refine ab.seq (ab.aa ?_)
  refine Oc om (ae.an ⟨[(2,_),(5,_),(6,_),(7,_),(8,_),(9,_),(24,B x_3)],[(101,_),(102,_)]⟩ rfl (ab.ite h5 rfl (fun _ h5=>?_) (fun _ h5=>?_)))
  ·refine ab.aa (Oc om ?_)
   obtain ⟨⟨x_10,x_11⟩,e6,h5⟩:=aD h5
   refine Oc (ad (tf e6) Ca rfl rfl) (Oc om (Oc (ay rfl rfl) (Oc (ay rfl rfl) ?_)))
   refine ae.ag ⟨[(2,_),(5,_),(6,_),(7,_),(8,_),(9,_),(28,.b (.agg (ar x_10))),(29,I x_11)],[(101,_),(102,_)]⟩ rfl (Oc (af aV rfl rfl) (Oc (ah aj rfl rfl rfl rfl (Nat.le_of_ble_eq_true rfl) rfl) (Oc oa ?_)))
   refine ae.nil ?_
   exact Fin.join [2,5,6,7,8,9] [101,102] ((⟨x_6,x_10⟩:bz),x_11) (Option.some.inj h5) rfl
  ·refine ab.skip ?_
   exact Fin.join [2,5,6,7,8,9] [101,102] ((⟨x_6,x_5.D⟩:bz),0) (Option.some.inj h5) rfl
 ·rintro ⟨x_8,f_9⟩ hv
  subst v4
  refine ab.seq (ab.block (ab.seq (ab.aa ?_)))
  refine Oc om (Oc (cR rfl rfl) (Oc om ?_))
  refine cx (!(decide (x_7 = 281))) [] (fun g7=>trivial) (fun g7=>om) (cx (!(decide (x_7 = 281))) [35] (fun g8=>by exact ⟨g8,trivial⟩) (fun g8=>cR rfl rfl) (Oc (aQ (fun e=>by rw [e]; rfl) rfl rfl rfl rfl) (Oc om ?_)))
  refine ae.ag ⟨[(2,_),(5,_),(6,_),(7,_),(8,_),(9,_),(38,B ((decide (x_7 = 281)) || (decide (f_9 = 281))))],[(101,_),(102,_)]⟩ rfl (cx (!((decide (x_7 = 281)) || (decide (f_9 = 281)))) [] (fun g9=>trivial) (fun g9=>om) (cx (!((decide (x_7 = 281)) || (decide (f_9 = 281)))) [39] (fun g10=>by exact ⟨g10,trivial⟩) (fun g10=>om) (ae.jj ((!((decide (x_7 = 281)) || (decide (f_9 = 281)))) && x_3) 99 [] (.under rfl) (ma _ _) rfl rfl (fun g11=>by exact trivial) (fun g11=>om) (ae.jj ((!((decide (x_7 = 281)) || (decide (f_9 = 281)))) && x_3) 99 [41] (.under rfl) (ma _ _) rfl rfl (fun g12=>by exact ⟨g12,trivial⟩) (fun g12=>c7 rfl rfl) (ae.jj ((!((decide (x_7 = 281)) || (decide (f_9 = 281)))) && x_3) 99 [42] (.under rfl) (ma _ _) rfl rfl (fun g13=>by exact ⟨g13,trivial⟩) (fun g13=>om) ?_)))))
  refine ae.jj (((!((decide (x_7 = 281)) || (decide (f_9 = 281)))) && x_3) && !(decide (x_2 = [48]))) 99 [] (.under rfl) (iC _ _) rfl rfl (fun g14=>trivial) (fun g14=>om) (ae.jj (((!((decide (x_7 = 281)) || (decide (f_9 = 281)))) && x_3) && !(decide (x_2 = [48]))) 99 [44] (.under rfl) (iC _ _) rfl rfl (fun g15=>⟨g15,trivial⟩) (fun g15=>c7 rfl rfl) (ae.jj ((!((decide (x_7 = 281)) || (decide (f_9 = 281)))) && x_3) 99 [43] (.under rfl) (ma _ _) rfl rfl (fun g16=>⟨g16,trivial⟩) (fun g16=>aQ (fun e=>by rw [g16,e]; rfl) rfl rfl rfl rfl) (ae.ag ⟨[(2,_),(5,_),(7,_),(8,_),(9,_),(38,_),(40,.dh (!((decide (x_7 = 281)) || (decide (f_9 = 281)))) (.one (.bool x_3))),(46,.dh ((!((decide (x_7 = 281)) || (decide (f_9 = 281)))) && x_3) (.one (.bool ((decide (x_2 = [48])) || (decide (x_2 = [49]))))))],[(101,_),(102,_)]⟩ rfl (ae.jj ((!((decide (x_7 = 281)) || (decide (f_9 = 281)))) && x_3) 99 [46] (.under rfl) (ma _ _) rfl rfl (fun g17=>⟨g17,trivial⟩) (fun g17=>om) (ae.jj (((!((decide (x_7 = 281)) || (decide (f_9 = 281)))) && x_3) && !((decide (x_2 = [48])) || (decide (x_2 = [49])))) 99 [] (.under rfl) (iC _ _) rfl rfl (fun g18=>trivial) (fun g18=>om) ?_)))))
  obtain ⟨x_12,e20,h⟩:=aD h
  refine ae.jj (((!((decide (x_7 = 281)) || (decide (f_9 = 281)))) && x_3) && !((decide (x_2 = [48])) || (decide (x_2 = [49])))) 99 [48] (.under rfl) (iC _ _) rfl rfl (fun g19=>⟨g19,trivial⟩) (fun g19=>ad (hD (gc e20 g19)) yr rfl rfl) (ae.jj ((!((decide (x_7 = 281)) || (decide (f_9 = 281)))) && x_3) 99 [47] (.under rfl) (ma _ _) rfl rfl (fun g21=>⟨g21,trivial⟩) (fun g21=>aQ (fun e=>by rw [g21,e]; rfl) rfl rfl rfl rfl) (cx (!((decide (x_7 = 281)) || (decide (f_9 = 281)))) [40] (fun g22=>⟨g22,trivial⟩) (fun g22=>aG (fun e=>by rw [g22,e]; rfl) rfl rfl rfl rfl) (ae.mX h rfl (aQ (fun e=>by rw [e]; rfl) rfl rfl rfl rfl) (fun x_13 h=>?_))))
  refine Oc oa (ae.an ⟨[(2,_),(7,_),(8,_),(9,_),(31,B x_13)],[(101,_),(102,_)]⟩ rfl (ab.ite h rfl (fun _ h=>?_) (fun _ h=>?_)))
  ·refine ab.seq (ab.aa ?_)
   obtain ⟨x_14,e23,h⟩:=aD h
   refine Oc (ad (gV e23) ow rfl rfl) (Oc (ah aC rfl rfl rfl rfl (Nat.le_of_ble_eq_true rfl) rfl) (Oc oa ?_))
   refine ae.an ⟨[(2,_),(3,I 281)],[(101,.box 27 (aE x_14))]⟩ rfl (ab.ret (Fin.bb (Fin.aw ?_)))
   obtain rfl:=Option.some.inj h
   refine Fin.ag ⟨[(2,_),(3,_)],[(101,_)]⟩ rfl (Fin.aq [.agg (aE x_14),.one (.i 281)] (.inl rfl) rfl (.cons (.agg aC rfl rfl rfl rfl) (.cons (.tmp rfl) .nil)) ⟨rfl,rfl⟩)
  ·refine ab.seq (ab.aa ?_)
   refine Oc om (Oc (di rfl rfl) (Oc om ?_))
   refine cx (!(decide (x_7 ≠ 0))) [] (fun g24=>trivial) (fun g24=>om) (cx (!(decide (x_7 ≠ 0))) [58] (fun g25=>by exact ⟨g25,trivial⟩) (fun g25=>di rfl rfl) (Oc (aQ (fun e=>by rw [e]; rfl) rfl rfl rfl rfl) (Oc oa ?_)))
   refine ae.an ⟨[(2,_),(7,_),(54,B ((decide (x_7 ≠ 0)) || (decide (f_9 ≠ 0))))],[(101,_),(102,_)]⟩ rfl (ab.ite h rfl (fun _ h=>?_) (fun _ h=>?_))
   ·refine ab.seq (ab.aa ?_)
    obtain ⟨x_15,e26,h⟩:=aD h
    refine Oc (ad (gV e26) ow rfl rfl) (Oc (ah aC rfl rfl rfl rfl (Nat.le_of_ble_eq_true rfl) rfl) (Oc oa ?_))
    refine ae.an ⟨[(2,_),(3,I 30)],[(101,.box 27 (aE x_15))]⟩ rfl (ab.ret (Fin.bb (Fin.aw ?_)))
    obtain rfl:=Option.some.inj h
    refine Fin.ag ⟨[(2,_),(3,_)],[(101,_)]⟩ rfl (Fin.aq [.agg (aE x_15),.one (.i 30)] (.inl rfl) rfl (.cons (.agg aC rfl rfl rfl rfl) (.cons (.tmp rfl) .nil)) ⟨rfl,rfl⟩)
   ·refine ab.seq (ab.aa ?_)
    refine Oc (lp aC) ?_
    obtain ⟨x_16,e27,h⟩:=aD h
    refine Oc (ad (dp e27) j3 rfl rfl) (Oc (aT rfl) (Oc oa ?_))
    refine ae.an ⟨[(2,_),(7,_),(62,B (!x_16))],[(101,_),(102,_)]⟩ rfl (ab.ite h rfl (fun _ h=>?_) (fun _ h=>?_))
    ·refine ab.seq (ab.aa ?_)
     obtain ⟨x_17,e28,h⟩:=aD h
     refine Oc (ad (gV e28) ow rfl rfl) (Oc (ah aC rfl rfl rfl rfl (Nat.le_of_ble_eq_true rfl) rfl) (Oc oa ?_))
     refine ae.an ⟨[(2,_),(3,I 281)],[(101,.box 27 (aE x_17))]⟩ rfl (ab.ret (Fin.bb (Fin.aw ?_)))
     obtain rfl:=Option.some.inj h
     refine Fin.ag ⟨[(2,_),(3,_)],[(101,_)]⟩ rfl (Fin.aq [.agg (aE x_17),.one (.i 281)] (.inl rfl) rfl (.cons (.agg aC rfl rfl rfl rfl) (.cons (.tmp rfl) .nil)) ⟨rfl,rfl⟩)
    ·refine ab.skip (Fin.aI (Fin.ag ⟨[(2,_),(7,_)],[(101,_),(102,_)]⟩ rfl (Fin.then (ab.seq (ab.aa ?_)))))
     refine Oc (lp aC) (Oc (ah aC rfl rfl rfl rfl (Nat.le_of_ble_eq_true rfl) rfl) (Oc oa ?_))
     refine ae.an ⟨[(2,_),(3,I 0)],[(101,.box 27 (aE x_8))]⟩ rfl (ab.ret ?_)
     obtain rfl:=Option.some.inj h
     refine Fin.ag ⟨[(2,_),(3,_)],[(101,_)]⟩ rfl (Fin.aq [.agg (aE x_8),.one (.i 0)] (.inl rfl) rfl (.cons (.agg aC rfl rfl rfl rfl) (.cons (.tmp rfl) .nil)) ⟨rfl,rfl⟩)
def qC (F:Nat) (s0:bA):Option (az × Int) :=
 Option.bind (k4 F s0 [32]) (ky fun x_1 x_2 x_3=>bN (⟨(⟨false,false,aU.zero⟩:br),(⟨false,false,aU.zero⟩:br)⟩:bz) fun x_4=>Option.bind (Option.bind (k4 F x_1 [46]) (ky fun x_7 x_8 x_9=>if x_9 = true then (Option.bind (mI F x_7 x_8) (b9 fun x_10 x_11=>some (x_10,x_11))) else (Option.bind (tT F x_1) (b9 fun x_12 x_13=>some (x_12,x_13))))) (b9 fun x_5 e_6=>if (decide (e_6 ≠ 0)) = true then (bN (⟨(⟨(⟨false,false,aU.zero⟩:br),(⟨false,false,aU.zero⟩:br)⟩:bz),(⟨0,0,0⟩:aO)⟩:az) fun x_14=>some (x_14,e_6)) else (if (!x_3) = true then (some ((⟨x_5,(⟨0,0,0⟩:aO)⟩:az),0)) else (Option.bind (iZ F x_2) (b9 fun x_15 x_16=>if (decide (x_16 ≠ 0)) = true then (bN (⟨(⟨(⟨false,false,aU.zero⟩:br),(⟨false,false,aU.zero⟩:br)⟩:bz),(⟨0,0,0⟩:aO)⟩:az) fun x_17=>some (x_17,x_16)) else (Option.bind (iY F (⟨x_5,(⟨0,0,0⟩:aO)⟩:az) x_15) (b9 fun x_18 x_19=>some (x_18,x_19))))))))
theorem wL {F:Nat} {s0:bA} {r:az × Int} (h:qC F s0 = some r):aA Tryz.prog (bd mx) 13 [] [.one (.str s0)] (Is [] (.eY [.agg (ao r.1),.one (.i r.2)])):=by
 unfold qC at h
 refine aA.intro 62 Tryz.func13 Tryz.ntmps13 rfl (by simp) fun E=>?_
 show ab _ E ⟨62,[],[]⟩ _ ⟨[(0,.b (.one (.str s0)))],[]⟩ _
 refine ab.seq (ab.aa ?_)
 refine Oc (aB (k:=101) dw rfl) (Oc oa ?_)
 refine ae.an ⟨[(0,.b (.one (.str s0))),(2,Pt 101 0)],[(101,.box 31 (.bool false :: .bool false :: (eW aU.zero ++ (.bool false :: .bool false :: (eW aU.zero ++ ([.i 0,.i 0,.i 0]))))))]⟩ rfl (ab.seq (ab.aa ?_))
 refine Oc om ?_
 obtain ⟨⟨x_1,x_2,x_3⟩,e1,h⟩:=aD h
 refine Oc (ad (kM e1) Aw rfl rfl) (Oc om (Oc (ay rfl rfl) (Oc (ay rfl rfl) ?_)))
 refine ae.ag ⟨[(2,_),(14,.eY [.one (.str x_1),.one (.str x_2),.one (.bool x_3)]),(17,.b (.one (.str x_1))),(18,.b (.one (.str x_2)))],[(101,_)]⟩ rfl (Oc (ay rfl rfl) (Oc oa (Oc oa (Oc oa ?_))))
 refine ae.an ⟨[(2,_),(4,.b (.one (.str x_1))),(5,.b (.one (.str x_2))),(6,B x_3)],[(101,_)]⟩ rfl (ab.seq (ab.aa ?_))
 refine ae.dO aE h rfl (aS dW rfl rfl) (fun x_4 h=>?_)
 refine Oc (aB (k:=102) bQ rfl) (Oc (ah aC rfl rfl rfl rfl (Nat.le_of_ble_eq_true rfl) rfl) (Oc oa ?_))
 refine ae.an ⟨[(2,_),(4,_),(5,_),(6,_),(7,Pt 102 0)],[(101,_),(102,.box 27 (aE x_4))]⟩ rfl ?_
 obtain ⟨v2,h3,h⟩:=aD h
 refine ab.cB (v:=v2) (b9 fun (x_5:bz) (e_6:Int)=>⟨[(2,Pt 101 0),(5,.b (.one (.str x_2))),(6,B x_3),(7,Pt 102 0),(8,I e_6)],[(101,.box 31 (.bool false :: .bool false :: (eW aU.zero ++ (.bool false :: .bool false :: (eW aU.zero ++ ([.i 0,.i 0,.i 0])))))),(102,.box 27 (aE x_5))]⟩) (fun z=>z) ?_ ?_
 ·refine ab.seq (ab.aa ?_)
  refine Oc om ?_
  obtain ⟨⟨x_7,x_8,x_9⟩,e4,h3⟩:=aD h3
  refine Oc (ad (kM e4) Aw rfl rfl) (Oc om (Oc (ay rfl rfl) (Oc (ay rfl rfl) ?_)))
  refine ae.ag ⟨[(2,_),(4,_),(5,_),(6,_),(7,_),(21,.eY [.one (.str x_7),.one (.str x_8),.one (.bool x_9)]),(24,.b (.one (.str x_7))),(25,.b (.one (.str x_8)))],[(101,_),(102,_)]⟩ rfl (Oc (ay rfl rfl) (Oc oa (Oc oa (Oc oa ?_))))
  refine ae.an ⟨[(2,_),(4,_),(5,_),(6,_),(7,_),(9,.b (.one (.str x_7))),(10,.b (.one (.str x_8))),(11,B x_9)],[(101,_),(102,_)]⟩ rfl (ab.seq (ab.aa ?_))
  refine Oc om (ae.an ⟨[(2,_),(4,_),(5,_),(6,_),(7,_),(9,_),(10,_),(27,B x_9)],[(101,_),(102,_)]⟩ rfl (ab.ite h3 rfl (fun _ h3=>?_) (fun _ h3=>?_)))
  ·refine ab.aa (Oc om (Oc om ?_))
   obtain ⟨⟨x_10,x_11⟩,e5,h3⟩:=aD h3
   refine Oc (ad (tw e5) goes60 rfl rfl) (Oc om (Oc (ay rfl rfl) ?_))
   refine ae.ag ⟨[(2,_),(5,_),(6,_),(7,_),(28,.eY [.agg (aE x_10),.one (.i x_11)]),(32,.b (.agg (aE x_10)))],[(101,_),(102,_)]⟩ rfl (Oc (ay rfl rfl) (Oc (ah aC rfl rfl rfl rfl (Nat.le_of_ble_eq_true rfl) rfl) (Oc oa ?_)))
   refine ae.nil ?_
   exact Fin.join [2,5,6,7,8] [101,102] (x_10,x_11) (Option.some.inj h3) rfl
  ·refine ab.aa (Oc om ?_)
   obtain ⟨⟨x_12,x_13⟩,e6,h3⟩:=aD h3
   refine Oc (ad (yI e6) goes61 rfl rfl) (Oc om (Oc (ay rfl rfl) (Oc (ay rfl rfl) (Oc (ah aC rfl rfl rfl rfl (Nat.le_of_ble_eq_true rfl) rfl) (Oc oa ?_)))))
   refine ae.nil ?_
   exact Fin.join [2,5,6,7,8] [101,102] (x_12,x_13) (Option.some.inj h3) rfl
 ·rintro ⟨x_5,e_6⟩ hv
  subst v2
  refine ab.seq (ab.aa ?_)
  refine Oc (lp aC) (Oc (aS dr rfl rfl) (Oc (aB (k:=103) dw rfl) (Oc (ah aJ rfl rfl rfl rfl (Nat.le_of_ble_eq_true rfl) rfl) ?_)))
  refine ae.an ⟨[(2,_),(5,_),(6,_),(8,_),(12,Pt 103 0)],[(101,_),(103,.box 31 (aE x_5 ++ ([.i 0,.i 0,.i 0])))]⟩ rfl (ab.seq (ab.seq (ab.aa ?_)))
  refine Oc om (Oc (di rfl rfl) ?_)
  refine ae.an ⟨[(2,_),(5,_),(6,_),(8,_),(12,_),(42,B (decide (e_6 ≠ 0)))],[(101,_),(103,_)]⟩ rfl (ab.ite h rfl (fun _ h=>?_) (fun _ h=>?_))
  ·refine ab.seq (ab.aa ?_)
   refine ae.dO ao h rfl (aS dr rfl rfl) (fun x_14 h=>?_)
   refine Oc om (Oc (ah aJ rfl rfl rfl rfl (Nat.le_of_ble_eq_true rfl) rfl) (Oc oa ?_))
   refine ae.an ⟨[(2,_),(3,I e_6)],[(101,.box 31 (ao x_14))]⟩ rfl (ab.ret (Fin.aw ?_))
   obtain rfl:=Option.some.inj h
   refine Fin.ag ⟨[(2,_),(3,_)],[(101,_)]⟩ rfl (Fin.aq [.agg (ao x_14),.one (.i e_6)] (.inl rfl) rfl (.cons (.agg aJ rfl rfl rfl rfl) (.cons (.tmp rfl) .nil)) ⟨rfl,rfl⟩)
  ·refine ab.skip (Fin.ag ⟨[(2,_),(5,_),(6,_),(12,_)],[(101,_),(103,_)]⟩ rfl (Fin.then (ab.seq (ab.seq (ab.aa ?_)))))
   refine Oc om (Oc (aT rfl) ?_)
   refine ae.an ⟨[(2,_),(5,_),(12,_),(46,B (!x_3))],[(101,_),(103,_)]⟩ rfl (ab.ite h rfl (fun _ h=>?_) (fun _ h=>?_))
   ·refine ab.seq (ab.aa ?_)
    refine Oc (lp aJ) (Oc (ah aJ rfl rfl rfl rfl (Nat.le_of_ble_eq_true rfl) rfl) (Oc oa ?_))
    refine ae.an ⟨[(2,_),(3,I 0)],[(101,.box 31 (aE x_5 ++ ([.i 0,.i 0,.i 0])))]⟩ rfl (ab.ret (Fin.aw ?_))
    obtain rfl:=Option.some.inj h
    refine Fin.ag ⟨[(2,_),(3,_)],[(101,_)]⟩ rfl (Fin.aq [.agg (aE x_5 ++ ([.i 0,.i 0,.i 0])),.one (.i 0)] (.inl rfl) rfl (.cons (.agg aJ rfl rfl rfl rfl) (.cons (.tmp rfl) .nil)) ⟨rfl,rfl⟩)
   ·refine ab.skip (Fin.ag ⟨[(2,_),(5,_),(12,_)],[(101,_),(103,_)]⟩ rfl (Fin.then (ab.seq (ab.aa ?_))))
    refine Oc om ?_
    obtain ⟨⟨x_15,x_16⟩,e7,h⟩:=aD h
    refine Oc (ad (jy e7) xY rfl rfl) (Oc om (Oc (ay rfl rfl) (Oc (ay rfl rfl) ?_)))
    refine ae.ag ⟨[(2,_),(12,_),(51,.b (.agg (ao x_15))),(52,I x_16)],[(101,_),(103,_)]⟩ rfl (Oc (aB (k:=104) dw rfl) (Oc (ah aJ rfl rfl rfl rfl (Nat.le_of_ble_eq_true rfl) rfl) (Oc oa ?_)))
    refine ae.an ⟨[(2,_),(8,I x_16),(12,_),(13,Pt 104 0)],[(101,_),(103,_),(104,.box 31 (ao x_15))]⟩ rfl (ab.seq (ab.seq (ab.aa ?_)))
    refine Oc om (Oc (di rfl rfl) ?_)
    refine ae.an ⟨[(2,_),(8,_),(12,_),(13,_),(54,B (decide (x_16 ≠ 0)))],[(101,_),(103,_),(104,_)]⟩ rfl (ab.ite h rfl (fun _ h=>?_) (fun _ h=>?_))
    ·refine ab.seq (ab.aa ?_)
     refine ae.dO ao h rfl (aS dr rfl rfl) (fun x_17 h=>?_)
     refine Oc om (Oc (ah aJ rfl rfl rfl rfl (Nat.le_of_ble_eq_true rfl) rfl) (Oc oa ?_))
     refine ae.an ⟨[(2,_),(3,I x_16)],[(101,.box 31 (ao x_17))]⟩ rfl (ab.ret (Fin.aw ?_))
     obtain rfl:=Option.some.inj h
     refine Fin.ag ⟨[(2,_),(3,_)],[(101,_)]⟩ rfl (Fin.aq [.agg (ao x_17),.one (.i x_16)] (.inl rfl) rfl (.cons (.agg aJ rfl rfl rfl rfl) (.cons (.tmp rfl) .nil)) ⟨rfl,rfl⟩)
    ·refine ab.skip (Fin.ag ⟨[(2,_),(12,_),(13,_)],[(101,_),(103,_),(104,_)]⟩ rfl (Fin.then (ab.seq (ab.aa ?_))))
     refine Oc (lp aJ) (Oc (lp aJ) ?_)
     obtain ⟨⟨x_18,x_19⟩,e8,h⟩:=aD h
     refine Oc (ad (pJ e8) D6 rfl rfl) (Oc (ay rfl rfl) (Oc (ay rfl rfl) (Oc (ah aJ rfl rfl rfl rfl (Nat.le_of_ble_eq_true rfl) rfl) (Oc oa ?_))))
     refine ae.an ⟨[(2,_),(3,I x_19)],[(101,.box 31 (ao x_18))]⟩ rfl (ab.ret ?_)
     obtain rfl:=Option.some.inj h
     refine Fin.ag ⟨[(2,_),(3,_)],[(101,_)]⟩ rfl (Fin.aq [.agg (ao x_18),.one (.i x_19)] (.inl rfl) rfl (.cons (.agg aJ rfl rfl rfl rfl) (.cons (.tmp rfl) .nil)) ⟨rfl,rfl⟩)
def eC (F:Nat) (s0:bA) (want0:az):Option Bool :=
 Option.bind (qC F s0) (b9 fun x_1 x_2=>some ((decide (x_1 = want0)) && (decide (x_2 = 0))))
theorem gv {F:Nat} {s0:bA} {want0:az} {r:Bool} (h:eC F s0 want0 = some r):aA Tryz.prog (bd mx) 51 [] [.one (.str s0),.agg (ao want0)] (Is [] (.b (.one (.bool r)))):=by
 unfold eC at h
 refine aA.intro 19 Tryz.func51 Tryz.ntmps51 rfl (by simp) fun E=>?_
 show ab _ E ⟨19,[],[]⟩ _ ⟨[(0,.b (.one (.str s0))),(1,.b (.agg (ao want0)))],[]⟩ _
 refine ab.seq (ab.aa ?_)
 refine Oc (aL (k:=101) rfl rfl) (Oc oa ?_)
 refine ae.an ⟨[(0,.b (.one (.str s0))),(3,Pt 101 0)],[(101,.box 31 (ao want0))]⟩ rfl (ab.seq (ab.aa ?_))
 refine Oc om ?_
 obtain ⟨⟨x_1,x_2⟩,e1,h⟩:=aD h
 refine Oc (ad (wL e1) goes13 rfl rfl) (Oc om (Oc (ay rfl rfl) (Oc (ay rfl rfl) ?_)))
 refine ae.ag ⟨[(3,_),(10,.b (.agg (ao x_1))),(11,I x_2)],[(101,_)]⟩ rfl (Oc (aB (k:=102) dw rfl) (Oc (ah aJ rfl rfl rfl rfl (Nat.le_of_ble_eq_true rfl) rfl) (Oc oa ?_)))
 refine ae.an ⟨[(3,_),(5,Pt 102 0),(6,I x_2)],[(101,_),(102,.box 31 (ao x_1))]⟩ rfl (ab.seq (ab.aa ?_))
 refine Oc (lp aJ) (Oc (lp aJ) (Oc (fp (nn x_1 want0) rfl rfl) (Oc om ?_)))
 refine cG (decide (x_1 = want0)) [] (fun g2=>trivial) (fun g2=>om) (cG (decide (x_1 = want0)) [16] (fun g3=>by exact ⟨g3,trivial⟩) (fun g3=>cR rfl rfl) (Oc (aG (fun e=>e) rfl rfl rfl rfl) (Oc oa ?_)))
 refine ae.an ⟨[(4,B ((decide (x_1 = want0)) && (decide (x_2 = 0))))],[]⟩ rfl (ab.ret ?_)
 obtain rfl:=Option.some.inj h
 refine Fin.ag ⟨[(4,_)],[]⟩ rfl (Fin.aq [.one (.bool ((decide (x_1 = want0)) && (decide (x_2 = 0))))] (.inl rfl) rfl (.cons (.tmp rfl) .nil) ⟨rfl,rfl⟩)
def gJ (F:Nat) (s0:List bA):Option (List bA) :=
 bN (IntKind.i64.wrap ((s0.length:Int) - 1)) fun x_1=>Option.bind (iter F (ky fun s_2 i_3 j_4=>if (decide (i_3 < j_4)) = true then ((bI s_2 j_4).bind fun x_6=>(bI s_2 i_3).bind fun x_7=>(bI s_2 i_3).bind fun x_8=>(bI (s_2.set (i_3:Int).toNat x_6) j_4).bind fun x_9=>some (.inl ((s_2.set (i_3:Int).toNat x_6).set (j_4:Int).toNat x_7,IntKind.i64.wrap (i_3 + 1),IntKind.i64.wrap (j_4 - 1)))) else (some (.inr s_2))) (s0,0,x_1)) (fun y_5=>some y_5)
theorem rH {F:Nat} {s0:List bA} {r:(List bA)} (h:gJ F s0 = some r):aA Tryz.prog (bd mx) 127 [(1,.l9 9 1 (s0.map eS))] [.row 1] (Is [(1,.l9 9 1 (r.map eS))] (.eY [])):=by
 unfold gJ at h
 refine aA.intro 28 Tryz.func127 Tryz.ntmps127 rfl (by simp) fun E=>?_
 show ab _ E ⟨28,[1],[1]⟩ _ ⟨[(0,.b (.row 1))],[(1,.l9 9 1 (s0.map eS))]⟩ _
 refine ab.unF 1 rfl (ab.seq (ab.aa ?_))
 refine Oc om (Oc (xm und110 rfl rfl (List.length_map _)) ?_)
 refine ae.cD .i64 h rfl (b7 rfl rfl) (fun x_1 h=>?_)
 refine Oc oa (Oc oa ?_)
 refine ae.an ⟨[(0,.b (.row 1)),(2,I 0),(3,I x_1)],[(1,.row 9 1 (s0.map eS))]⟩ rfl (ab.block ?_)
 obtain ⟨v1,h2,h⟩:=aD h
 refine ab.cW h2 (ky fun (s_2:List bA) (i_3:Int) (j_4:Int)=>⟨[(0,.b (.row 1)),(2,I i_3),(3,I j_4)],[(1,.row 9 1 (s_2.map eS))]⟩) [0,2,3] [1] rfl ?_
 rintro ⟨s_2,i_3,j_4⟩ o3 h4 hy5
 refine ab.seq (ab.seq (ab.aa ?_))
 refine Oc om (Oc om (Oc (bP rfl rfl) ?_))
 refine ae.an ⟨[(0,_),(2,_),(3,_),(9,B (decide (i_3 < j_4)))],[(1,_)]⟩ rfl (ab.ite h4 rfl (fun _ h4=>?_) (fun _ h4=>?_))
 ·refine ab.skip (Fin.ag ⟨[(0,_),(2,_),(3,_)],[(1,_)]⟩ rfl (Fin.then (ab.seq (ab.block ?_))))
  refine ab.ag ⟨[(0,_),(2,_),(3,_)],[(1,_)]⟩ rfl ?_
  obtain ⟨x_6,e6,h4⟩:=aD h4
  obtain ⟨x_7,e7,h4⟩:=aD h4
  obtain ⟨x_8,e8,h4⟩:=aD h4
  obtain ⟨x_9,e9,h4⟩:=aD h4
  refine ab.y6 mixed [false,false,false,false,false,false,false,false,false,false,false,false,false,true,false,true] [.b (.row 1),I i_3,.b (.row 1),I j_4,.b (.row 1),I j_4,.b (.jV 1 ((j_4:Int).toNat * 1)),.b (.one (.str x_6)),.b (.row 1),I i_3,.b (.jV 1 ((i_3:Int).toNat * 1)),.b (.one (.str x_7)),.b (.jV 1 ((i_3:Int).toNat * 1)),B true,.b (.jV 1 ((j_4:Int).toNat * 1)),B true] [⟨[false,false,false,false,false,false,false,false,false,false,false,false,false,false,false,false],[(0,.b (.row 1)),(2,I i_3),(3,I j_4)],[(1,.row 9 1 (s_2.map eS))],[true,true,true,true,true,true,true,true,true,true,true,true,true,true,true,true],[]⟩,⟨[false,false,false,false,false,false,false,false,false,false,false,false,false,true,false,false],[(0,.b (.row 1)),(2,I i_3),(3,I j_4)],[(1,.row 9 1 ((s_2.set (i_3:Int).toNat x_6).map eS))],[true,true,true,true,true,true,true,true,true,true,true,true,true,true,true,true],[0,1,4,5,6,7,8,9,10,11,12,13]⟩,⟨[false,false,false,false,false,false,false,false,false,false,false,false,false,true,false,true],[(0,.b (.row 1)),(2,I i_3),(3,I j_4)],[(1,.row 9 1 (((s_2.set (i_3:Int).toNat x_6).set (j_4:Int).toNat x_7).map eS))],[true,true,true,true,true,true,true,true,true,true,true,true,true,true,true,true],[0,1,2,3,4,5,6,7,8,9,10,11,12,13,14,15]⟩] rfl (⟨by kernel_rfl,⟨⟨.b (.row 1),fun _=>rfl,fun _=>.p (by exact gy rfl)⟩,⟨I i_3,fun _=>rfl,fun _=>.p (by exact gy rfl)⟩,⟨.b (.row 1),fun _=>rfl,fun _=>.p (by exact gy rfl)⟩,⟨I j_4,fun _=>rfl,fun _=>.p (by exact gy rfl)⟩,⟨.b (.row 1),fun _=>rfl,fun _=>.p (by exact gy rfl)⟩,⟨I j_4,fun _=>rfl,fun _=>.p (by exact gy rfl)⟩,⟨.b (.jV 1 ((j_4:Int).toNat * 1)),fun _=>rfl,fun _=>.p (by exact dk iS (bx e6) (je e6) rfl rfl rfl rfl)⟩,⟨.b (.one (.str x_6)),fun _=>rfl,fun _=>.p (by exact gq (i:=(j_4:Int).toNat) (f:=0) fi rfl rfl rfl (eE (e:=eS) e6) rfl)⟩,⟨.b (.row 1),fun _=>rfl,fun _=>.p (by exact gy rfl)⟩,⟨I i_3,fun _=>rfl,fun _=>.p (by exact gy rfl)⟩,⟨.b (.jV 1 ((i_3:Int).toNat * 1)),fun _=>rfl,fun _=>.p (by exact dk iS (bx e7) (je e7) rfl rfl rfl rfl)⟩,⟨.b (.one (.str x_7)),fun _=>rfl,fun _=>.p (by exact gq (i:=(i_3:Int).toNat) (f:=0) fi rfl rfl rfl (eE (e:=eS) e7) rfl)⟩,⟨.b (.jV 1 ((i_3:Int).toNat * 1)),fun _=>rfl,fun _=>.p (by exact dk iS (bx e8) (je e8) rfl rfl rfl rfl)⟩,⟨_,none,.b (.one .any),rfl,(fun e=>by simp at e),rfl,rfl,fun _=>.rY [1] (by exact .p (by exact jT (i:=(i_3:Int).toNat) fi rfl rfl rfl rfl (w8 e8) (map_set _ _ _ _))) (by exact rfl)⟩,trivial,trivial,trivial⟩,⟨by kernel_rfl,⟨trivial,trivial,⟨.b (.row 1),fun _=>rfl,fun _=>.p (by exact gy rfl)⟩,⟨I j_4,fun _=>rfl,fun _=>.p (by exact gy rfl)⟩,trivial,trivial,trivial,trivial,trivial,trivial,trivial,trivial,trivial,trivial,⟨.b (.jV 1 ((j_4:Int).toNat * 1)),fun _=>rfl,fun _=>.p (by exact dk iS (bx e9) (je e9) rfl rfl rfl rfl)⟩,⟨_,none,.b (.one .any),rfl,(fun e=>by simp at e),rfl,rfl,fun _=>.rY [1] (by exact .p (by exact jT (i:=(j_4:Int).toNat) fi rfl rfl rfl rfl (w8 e9) (map_set _ _ _ _))) (by exact rfl)⟩,trivial⟩,⟨by kernel_rfl,⟨trivial,trivial,trivial,trivial,trivial,trivial,trivial,trivial,trivial,trivial,trivial,trivial,trivial,trivial,trivial,trivial,trivial⟩,trivial⟩⟩⟩) rfl rfl rfl [0,2,3] [1] (s':=⟨[(0,_),(2,_),(3,_)],[(1,.row 9 1 (((s_2.set (i_3:Int).toNat x_6).set (j_4:Int).toNat x_7).map eS))]⟩) rfl ?_
  refine Fin.aI (Fin.ag ⟨[(0,_),(2,_),(3,_)],[(1,_)]⟩ rfl (Fin.then (ab.aa ?_)))
  refine Oc om (Oc (bg rfl rfl) (Oc om (Oc (b7 rfl rfl) (Oc oa (Oc oa ?_)))))
  refine ae.nil ?_
  exact Fin.b6 [0,2,3] [1] ((s_2.set (i_3:Int).toNat x_6).set (j_4:Int).toNat x_7,IntKind.i64.wrap (i_3 + 1),IntKind.i64.wrap (j_4 - 1)) (Option.some.inj h4) rfl
 ·refine ab.exit (Fin.aF ?_)
  obtain rfl:=hy5 _ (Option.some.inj h4).symm
  refine Fin.aF (Fin.aX ?_)
  obtain rfl:=Option.some.inj h
  refine Fin.ag ⟨[],[(1,_)]⟩ rfl (Fin.toF 1 rfl (Fin.ag ⟨[],[(1,.l9 9 1 (s_2.map eS))]⟩ rfl ?_))
  exact Fin.result [] (.inr rfl) rfl (.nil) ⟨rfl,rfl⟩
def kf (F:Nat) (x0:br):Option bA :=
 (ek F [x0]).bind fun x_1=>if (!x_1) = true then (some []) else (Option.bind (iter F (b9 fun parts_3 w_4=>Option.bind (lW F w_4 1000000000) (b9 fun x_6 x_7=>(dA F (IntKind.i64.wrap x_7)).bind fun x_8=>if (decide (x_6 = aU.zero)) = true then ((eJ parts_3 [x_8]).bind fun x_9=>some (.inr x_9)) else (bN (IntKind.i64.wrap (9 - (x_8.length:Int))) fun x_10=>(jd F [48] x_10).bind fun x_11=>(eJ x_11 x_8).bind fun x_12=>(eJ parts_3 [x_12]).bind fun x_13=>some (.inl (x_13,x_6))))) ([],x0.W)) (fun parts_2=>Option.bind (if x0.Neg = true then ((eJ parts_2 [[45]]).bind fun x_15=>some x_15) else (some parts_2)) (fun parts_14=>(gJ F parts_14).bind fun x_16=>(kv F x_16 []).bind fun x_17=>some x_17)))
theorem qB {F:Nat} {x0:br} {r:bA} (h:kf F x0 = some r):aA Tryz.prog (bd mx) 64 [] [.agg (ar x0)] (Is [] (.b (.one (.str r)))):=by
 unfold kf at h
 refine aA.intro 49 Tryz.func64 Tryz.ntmps64 rfl (by simp) fun E=>?_
 show ab _ E ⟨49,[],[]⟩ _ ⟨[(0,.b (.agg (ar x0)))],[]⟩ _
 refine ab.seq (ab.aa ?_)
 refine Oc (aL (k:=101) rfl rfl) (Oc oa ?_)
 refine ae.an ⟨[(1,Pt 101 0)],[(101,.box 25 (ar x0))]⟩ rfl (ab.seq (ab.seq (ab.aa ?_)))
 refine Oc (lp aj) (Oc (bc (k:=102) (es:=[x0].map ar) iR rfl rfl (cE fun _=>rfl) rfl (by decide) (by decide) rfl) ?_)
 obtain ⟨x_1,e1,h⟩:=aD h
 refine Oc (ep (ef e1) jv rfl CP.du) (Oc (aT rfl) ?_)
 refine ae.an ⟨[(1,_),(11,B (!x_1))],[(101,_)]⟩ rfl (ab.ite h rfl (fun _ h=>?_) (fun _ h=>?_))
 ·refine ab.seq (ab.aa ?_)
  refine Oc oa (ae.an ⟨[(2,.b (.one (.str [])))],[]⟩ rfl (ab.ret (Fin.aw ?_)))
  obtain rfl:=Option.some.inj h
  refine Fin.ag ⟨[(2,_)],[]⟩ rfl (Fin.aq [.one (.str [])] (.inl rfl) rfl (.cons (.tmp rfl) .nil) ⟨rfl,rfl⟩)
 ·refine ab.skip (Fin.ag ⟨[(1,_)],[(101,_)]⟩ rfl (Fin.then (ab.seq (ab.aa ?_))))
  refine Oc oa (ae.an ⟨[(1,_),(3,.b (.one (.nil)))],[(101,_)]⟩ rfl ?_)
  obtain ⟨v2,h3,h⟩:=aD h
  refine ab.cB (v:=v2) (fun (parts_2:List bA)=>⟨[(1,Pt 101 0),(3,.b (.row 108))],[(101,.box 25 (ar x0)),(108,.row 9 1 (parts_2.map eS))]⟩) (fun z=>z) ?_ ?_
  ·refine ab.seq (ab.aa ?_)
   refine Oc (af aZ rfl rfl) (Oc (lp aN) (Oc (aB (k:=103) cS rfl) (Oc (ah aN rfl rfl rfl rfl (Nat.le_of_ble_eq_true rfl) rfl) ?_)))
   refine ae.an ⟨[(1,_),(3,_),(4,Pt 103 0)],[(101,_),(103,.box 23 (eW x0.W))]⟩ rfl (ab.block (ab.lB 3 108 1 9 rfl (by decide) rfl (ab.cW h3 (b9 fun (parts_3:List bA) (w_4:aU)=>⟨[(1,Pt 101 0),(3,.b (.row 108)),(4,Pt 103 0)],[(101,.box 25 (ar x0)),(103,.box 23 (eW w_4)),(108,.row 9 1 (parts_3.map eS))]⟩) [1,3,4] [101,103,108] rfl ?_)))
   rintro ⟨parts_3,w_4⟩ o4 h5 hy6
   refine ab.seq (ab.block (ab.seq (ab.aa ?_)))
   refine Oc (lp aN) ?_
   obtain ⟨⟨x_6,x_7⟩,e7,h5⟩:=aD h5
   refine Oc (ad (tc e7) B' rfl rfl) (Oc om (Oc (ay rfl rfl) (Oc (ay rfl rfl) ?_)))
   refine ae.ag ⟨[(1,_),(3,_),(4,_),(17,.b (.agg (eW x_6))),(18,.b (.one (.int .u32 x_7)))],[(101,_),(103,_),(108,_)]⟩ rfl (Oc (aB (k:=109) cS rfl) (Oc (ah aN rfl rfl rfl rfl (Nat.le_of_ble_eq_true rfl) rfl) (Oc oa ?_)))
   refine ae.an ⟨[(1,_),(3,_),(4,_),(5,Pt 109 0),(6,.b (.one (.int .u32 x_7)))],[(101,_),(103,_),(108,_),(109,.box 23 (eW x_6))]⟩ rfl (ab.seq (ab.aa ?_))
   refine Oc om (Oc (aH bR kz rfl) ?_)
   obtain ⟨x_8,e8,h5⟩:=aD h5
   refine Oc (ad (nG e8) DZ rfl rfl) (Oc oa ?_)
   refine ae.an ⟨[(1,_),(3,_),(4,_),(5,_),(7,.b (.one (.str x_8)))],[(101,_),(103,_),(108,_),(109,_)]⟩ rfl (ab.seq (ab.seq (ab.aa ?_)))
   refine Oc (lp aN) (Oc (dI gG rfl rfl) (Oc (fp (oN x_6 aU.zero) rfl rfl) ?_))
   refine ae.an ⟨[(1,_),(3,_),(4,_),(5,_),(7,_),(24,B (decide (x_6 = aU.zero)))],[(101,_),(103,_),(108,_),(109,_)]⟩ rfl (ab.ite h5 rfl (fun _ h5=>?_) (fun _ h5=>?_))
   ·refine ab.seq (ab.aa ?_)
    refine Oc om (Oc om (Oc (bc (k:=110) (es:=[x_8].map eS) iS rfl rfl (cE fun _=>rfl) rfl (by decide) (by decide) rfl) ?_))
    obtain ⟨x_9,e9,h5⟩:=aD h5
    refine Oc (lj iS (vu e9) (vt e9) rfl rfl rfl rfl (oR e9) rfl) (Oc oa ?_)
    refine ae.an ⟨[(1,_),(3,_)],[(101,_),(108,.row 9 1 (x_9.map eS))]⟩ rfl (ab.exit (Fin.aF (Fin.kN (by decide) (Fin.aF ?_))))
    obtain rfl:=hy6 _ (Option.some.inj h5).symm
    refine Fin.aF (Fin.aX ?_)
    exact Fin.join [1,3] [101,108] x_9 rfl rfl
   ·refine ab.skip (Fin.ag ⟨[(1,_),(3,_),(4,_),(5,_),(7,_)],[(101,_),(103,_),(108,_),(109,_)]⟩ rfl (Fin.then (ab.seq (ab.aa ?_))))
    refine Oc om (Oc om (Oc (dR iF rfl) ?_))
    refine ae.cD .i64 h5 rfl (b7 rfl rfl) (fun x_10 h5=>?_)
    refine ae.ag ⟨[(1,_),(3,_),(4,_),(5,_),(7,_),(29,.b (.row 108)),(32,I x_10)],[(101,_),(103,_),(108,_),(109,_)]⟩ rfl ?_
    obtain ⟨x_11,e10,h5⟩:=aD h5
    refine Oc (ad (rG e10) goes126 rfl rfl) (Oc om ?_)
    obtain ⟨x_12,e11,h5⟩:=aD h5
    refine Oc (bK e11 rfl rfl) (Oc (bc (k:=111) (es:=[x_12].map eS) iS rfl rfl (cE fun _=>rfl) rfl (by decide) (by decide) rfl) ?_)
    obtain ⟨x_13,e12,h5⟩:=aD h5
    refine Oc (lj iS (vu e12) (vt e12) rfl rfl rfl rfl (oR e12) rfl) (Oc oa ?_)
    refine ae.an ⟨[(1,_),(3,_),(4,_),(5,_)],[(101,_),(103,_),(108,.row 9 1 (x_13.map eS)),(109,_)]⟩ rfl (ab.aa (Oc (lp aN) (Oc (ah aN rfl rfl rfl rfl (Nat.le_of_ble_eq_true rfl) rfl) ?_)))
    refine ae.nil (Fin.aI (Fin.ag ⟨[(1,_),(3,_),(4,_)],[(101,_),(103,.box 23 (eW x_6)),(108,_)]⟩ rfl (Fin.then (ab.seq (ab.aa ?_)))))
    refine Oc (lp aN) (ae.an ⟨[(1,_),(3,_),(39,.b (.agg (eW x_6)))],[(101,_),(108,_)]⟩ rfl (ab.aa (Oc (aB (k:=112) cS rfl) (Oc (ah aN rfl rfl rfl rfl (Nat.le_of_ble_eq_true rfl) rfl) ?_))))
    refine ae.nil (Fin.ag ⟨[(1,Pt 101 0),(3,.b (.row 108)),(4,Pt 112 0)],[(101,.box 25 (ar x0)),(108,.row 9 1 (x_13.map eS)),(112,.box 23 (eW x_6))]⟩ rfl (Fin.rename 112 103 rfl (by decide) rfl ?_))
    exact Fin.b6 [1,3,4] [101,103,108] (x_13,x_6) (Option.some.inj h5) rfl
  ·rintro parts_2 hv
   subst v2
   obtain ⟨v13,h14,h⟩:=aD h
   refine ab.cB (v:=v13) (fun (parts_14:List bA)=>⟨[(3,.b (.row 108))],[(108,.row 9 1 (parts_14.map eS))]⟩) (fun z=>z) ?_ ?_
   ·refine ab.seq (ab.aa ?_)
    refine Oc (af bj rfl rfl) (Oc (au bS rfl rfl rfl) ?_)
    refine ae.an ⟨[(3,_),(41,B x0.Neg)],[(108,_)]⟩ rfl (ab.ite h14 rfl (fun _ h14=>?_) (fun _ h14=>?_))
    ·refine ab.aa (Oc om (Oc (bc (k:=113) (es:=[[45]].map eS) iS rfl rfl (cE fun _=>rfl) rfl (by decide) (by decide) rfl) ?_))
     obtain ⟨x_15,e15,h14⟩:=aD h14
     refine Oc (lj iS (vu e15) (vt e15) rfl rfl rfl rfl (oR e15) rfl) (Oc oa ?_)
     refine ae.nil ?_
     exact Fin.join [3] [108] x_15 (Option.some.inj h14) rfl
    ·refine ab.skip ?_
     exact Fin.join [3] [108] parts_2 (Option.some.inj h14) rfl
   ·rintro parts_14 hv
    subst v13
    refine ab.seq (ab.aa ?_)
    refine Oc om (ae.toF 108 rfl ?_)
    obtain ⟨x_16,e16,h⟩:=aD h
    refine Oc (kU (own_a:=[(108,_)]) ((rH e16).sw 1 108) goes127 rfl ⟨rfl,trivial⟩ rfl rfl) (ae.unF 108 rfl (ae.an ⟨[(3,_)],[(108,.row 9 1 (x_16.map eS))]⟩ rfl (ab.seq (ab.aa ?_))))
    refine Oc om ?_
    obtain ⟨x_17,e17,h⟩:=aD h
    refine Oc (ep (tx e17) goes128 rfl CP.E0) (Oc oa ?_)
    refine ae.an ⟨[(2,.b (.one (.str x_17)))],[]⟩ rfl (ab.ret ?_)
    obtain rfl:=Option.some.inj h
    refine Fin.ag ⟨[(2,_)],[]⟩ rfl (Fin.aq [.one (.str x_17)] (.inl rfl) rfl (.cons (.tmp rfl) .nil) ⟨rfl,rfl⟩)
def mu (F:Nat) (x0:bz):Option bA :=
 (dx F x0).bind fun x_1=>if (!x_1) = true then (some []) else ((lN F).bind fun x_2=>if (decide (x0.D = x_2)) = true then ((kf F x0.N).bind fun x_3=>some x_3) else ((kf F x0.N).bind fun x_4=>(eJ x_4 [47]).bind fun x_5=>(kf F x0.D).bind fun x_6=>(eJ x_5 x_6).bind fun x_7=>some x_7))
theorem ux {F:Nat} {x0:bz} {r:bA} (h:mu F x0 = some r):aA Tryz.prog (bd mx) 14 [] [.agg (aE x0)] (Is [] (.b (.one (.str r)))):=by
 unfold mu at h
 refine aA.intro 23 Tryz.func14 Tryz.ntmps14 rfl (by simp) fun E=>?_
 show ab _ E ⟨23,[],[]⟩ _ ⟨[(0,.b (.agg (aE x0)))],[]⟩ _
 refine ab.seq (ab.aa ?_)
 refine Oc (aL (k:=101) rfl rfl) (Oc oa ?_)
 refine ae.an ⟨[(1,Pt 101 0)],[(101,.box 27 (aE x0))]⟩ rfl (ab.seq (ab.block (ab.seq (ab.aa ?_))))
 refine Oc (lp aC) ?_
 obtain ⟨x_1,e1,h⟩:=aD h
 refine Oc (ad (dp e1) j3 rfl rfl) (Oc (aT rfl) (Oc oa ?_))
 refine ae.an ⟨[(1,_),(3,B (!x_1))],[(101,_)]⟩ rfl (ab.ite h rfl (fun _ h=>?_) (fun _ h=>?_))
 ·refine ab.seq (ab.aa ?_)
  refine Oc oa (ae.an ⟨[(2,.b (.one (.str [])))],[]⟩ rfl (ab.ret (Fin.bb (Fin.aw ?_))))
  obtain rfl:=Option.some.inj h
  refine Fin.ag ⟨[(2,_)],[]⟩ rfl (Fin.aq [.one (.str [])] (.inl rfl) rfl (.cons (.tmp rfl) .nil) ⟨rfl,rfl⟩)
 ·refine ab.seq (ab.ag ⟨[(1,_)],[(101,_)]⟩ rfl ?_)
  obtain ⟨x_2,e2,h⟩:=aD h
  refine ab.bm mixed 5 [Pt 101 18,.b (.agg (ar x0.D)),.b (.agg (ar x_2)),B (decide (x0.D = x_2)),B (decide (x0.D = x_2))] [1,7] [101] (s':=⟨[(1,_),(7,B (decide (x0.D = x_2)))],[(101,_)]⟩) rfl ⟨fun _=>.p (af aV rfl rfl),fun _=>.p (lp aj),fun _=>.p (ad (mG e2) vH rfl rfl),fun _=>.p (fp (vf x0.D x_2) rfl rfl),fun _=>.p oa,trivial⟩ rfl rfl (ab.ite h rfl (fun _ h=>?_) (fun _ h=>?_))
  ·refine ab.seq (ab.aa ?_)
   refine Oc (af bq rfl rfl) (Oc (lp aj) ?_)
   obtain ⟨x_3,e3,h⟩:=aD h
   refine Oc (ad (qB e3) Av rfl rfl) (Oc oa ?_)
   refine ae.an ⟨[(2,.b (.one (.str x_3)))],[]⟩ rfl (ab.ret (Fin.bb (Fin.aw ?_)))
   obtain rfl:=Option.some.inj h
   refine Fin.ag ⟨[(2,_)],[]⟩ rfl (Fin.aq [.one (.str x_3)] (.inl rfl) rfl (.cons (.tmp rfl) .nil) ⟨rfl,rfl⟩)
  ·refine ab.skip (Fin.aI (Fin.ag ⟨[(1,_)],[(101,_)]⟩ rfl (Fin.then (ab.seq ?_))))
   refine ab.ag ⟨[(1,_)],[(101,_)]⟩ rfl ?_
   obtain ⟨x_4,e4,h⟩:=aD h
   obtain ⟨x_5,e5,h⟩:=aD h
   obtain ⟨x_6,e6,h⟩:=aD h
   obtain ⟨x_7,e7,h⟩:=aD h
   refine ab.bm mixed 9 [Pt 101 0,.b (.agg (ar x0.N)),.b (.one (.str x_4)),.b (.one (.str x_5)),Pt 101 18,.b (.agg (ar x0.D)),.b (.one (.str x_6)),.b (.one (.str x_7)),.b (.one (.str x_7))] [2] [] (s':=⟨[(2,.b (.one (.str x_7)))],[]⟩) rfl ⟨fun _=>.p (af bq rfl rfl),fun _=>.p (lp aj),fun _=>.p (ad (qB e4) Av rfl rfl),fun _=>.p (bK e5 rfl rfl),fun _=>.p (af aV rfl rfl),fun _=>.p (lp aj),fun _=>.p (ad (qB e6) Av rfl rfl),fun _=>.p (bK e7 rfl rfl),fun _=>.p oa,trivial⟩ rfl rfl (ab.ret ?_)
   obtain rfl:=Option.some.inj h
   refine Fin.ag ⟨[(2,_)],[]⟩ rfl (Fin.aq [.one (.str x_7)] (.inl rfl) rfl (.cons (.tmp rfl) .nil) ⟨rfl,rfl⟩)
def gW (F:Nat) (a0:az):Option bA :=
 (cY F [a0]).bind fun x_1=>if (!x_1) = true then (some []) else (if (decide (a0.U = (⟨0,0,0⟩:aO))) = true then ((mu F a0.V).bind fun x_2=>some x_2) else ((mu F a0.V).bind fun x_3=>(eJ x_3 [32]).bind fun x_4=>(eL F a0.U).bind fun x_5=>(eJ x_4 x_5).bind fun x_6=>some x_6))
theorem pI {F:Nat} {a0:az} {r:bA} (h:gW F a0 = some r):aA Tryz.prog (bd mx) 19 [] [.agg (ao a0)] (Is [] (.b (.one (.str r)))):=by
 unfold gW at h
 refine aA.intro 22 Tryz.func19 Tryz.ntmps19 rfl (by simp) fun E=>?_
 show ab _ E ⟨22,[],[]⟩ _ ⟨[(0,.b (.agg (ao a0)))],[]⟩ _
 refine ab.seq (ab.aa ?_)
 refine Oc (aL (k:=101) rfl rfl) (Oc oa ?_)
 refine ae.an ⟨[(1,Pt 101 0)],[(101,.box 31 (ao a0))]⟩ rfl (ab.seq (ab.seq (ab.aa ?_)))
 refine Oc (lp aJ) (Oc (bc (k:=102) (es:=[a0].map ao) oC rfl rfl (cE fun _=>rfl) rfl (by decide) (by decide) rfl) ?_)
 obtain ⟨x_1,e1,h⟩:=aD h
 refine Oc (ep (fh e1) tL rfl CP.du) (Oc (aT rfl) ?_)
 refine ae.an ⟨[(1,_),(6,B (!x_1))],[(101,_)]⟩ rfl (ab.ite h rfl (fun _ h=>?_) (fun _ h=>?_))
 ·refine ab.seq (ab.aa ?_)
  refine Oc oa (ae.an ⟨[(2,.b (.one (.str [])))],[]⟩ rfl (ab.ret (Fin.aw ?_)))
  obtain rfl:=Option.some.inj h
  refine Fin.ag ⟨[(2,_)],[]⟩ rfl (Fin.aq [.one (.str [])] (.inl rfl) rfl (.cons (.tmp rfl) .nil) ⟨rfl,rfl⟩)
 ·refine ab.skip (Fin.ag ⟨[(1,_)],[(101,_)]⟩ rfl (Fin.then (ab.seq (ab.seq (ab.aa ?_)))))
  refine Oc (af cy rfl rfl) (Oc (lp aY) (Oc (aS dV rfl rfl) (Oc (fp (oM a0.U (⟨0,0,0⟩:aO)) rfl rfl) ?_)))
  refine ae.an ⟨[(1,_),(10,B (decide (a0.U = (⟨0,0,0⟩:aO))))],[(101,_)]⟩ rfl (ab.ite h rfl (fun _ h=>?_) (fun _ h=>?_))
  ·refine ab.seq (ab.aa ?_)
   refine Oc (af bU rfl rfl) (Oc (lp aC) ?_)
   obtain ⟨x_2,e2,h⟩:=aD h
   refine Oc (ad (ux e2) D' rfl rfl) (Oc oa ?_)
   refine ae.an ⟨[(2,.b (.one (.str x_2)))],[]⟩ rfl (ab.ret (Fin.aw ?_))
   obtain rfl:=Option.some.inj h
   refine Fin.ag ⟨[(2,_)],[]⟩ rfl (Fin.aq [.one (.str x_2)] (.inl rfl) rfl (.cons (.tmp rfl) .nil) ⟨rfl,rfl⟩)
  ·refine ab.skip (Fin.ag ⟨[(1,_)],[(101,_)]⟩ rfl (Fin.then (ab.seq ?_)))
   refine ab.ag ⟨[(1,_)],[(101,_)]⟩ rfl ?_
   obtain ⟨x_3,e3,h⟩:=aD h
   obtain ⟨x_4,e4,h⟩:=aD h
   obtain ⟨x_5,e5,h⟩:=aD h
   obtain ⟨x_6,e6,h⟩:=aD h
   refine ab.bm mixed 9 [Pt 101 0,.b (.agg (aE a0.V)),.b (.one (.str x_3)),.b (.one (.str x_4)),Pt 101 36,.b (.agg (aP a0.U)),.b (.one (.str x_5)),.b (.one (.str x_6)),.b (.one (.str x_6))] [2] [] (s':=⟨[(2,.b (.one (.str x_6)))],[]⟩) rfl ⟨fun _=>.p (af bU rfl rfl),fun _=>.p (lp aC),fun _=>.p (ad (ux e3) D' rfl rfl),fun _=>.p (bK e4 rfl rfl),fun _=>.p (af cy rfl rfl),fun _=>.p (lp aY),fun _=>.p (ad (ik e5) vL rfl rfl),fun _=>.p (bK e6 rfl rfl),fun _=>.p oa,trivial⟩ rfl rfl (ab.ret ?_)
   obtain rfl:=Option.some.inj h
   refine Fin.ag ⟨[(2,_)],[]⟩ rfl (Fin.aq [.one (.str x_6)] (.inl rfl) rfl (.cons (.tmp rfl) .nil) ⟨rfl,rfl⟩)
def rm (F:Nat) (a0:az) (s0:bA):Option (bz × Int) :=
 (cY F [a0]).bind fun x_1=>if (!x_1) = true then (bN (⟨(⟨false,false,aU.zero⟩:br),(⟨false,false,aU.zero⟩:br)⟩:bz) fun x_2=>some (x_2,1)) else (Option.bind (iZ F s0) (b9 fun x_3 x_4=>if (decide (x_4 ≠ 0)) = true then (bN (⟨(⟨false,false,aU.zero⟩:br),(⟨false,false,aU.zero⟩:br)⟩:bz) fun x_5=>some (x_5,x_4)) else (if (decide (x_3.U ≠ a0.U)) = true then (bN (⟨(⟨false,false,aU.zero⟩:br),(⟨false,false,aU.zero⟩:br)⟩:bz) fun x_6=>some (x_6,110)) else ((ng F a0.V x_3.V).bind fun x_7=>Option.bind (fu F x_7 (⟨0,0,0⟩:aO)) (b9 fun x_8 x_9=>some (x_8.V,x_9))))))
theorem th {F:Nat} {a0:az} {s0:bA} {r:bz × Int} (h:rm F a0 s0 = some r):aA Tryz.prog (bd mx) 11 [] [.agg (ao a0),.one (.str s0)] (Is [] (.eY [.agg (aE r.1),.one (.i r.2)])):=by
 unfold rm at h
 refine aA.intro 42 Tryz.func11 Tryz.ntmps11 rfl (by simp) fun E=>?_
 show ab _ E ⟨42,[],[]⟩ _ ⟨[(0,.b (.agg (ao a0))),(1,.b (.one (.str s0)))],[]⟩ _
 refine ab.seq (ab.aa ?_)
 refine Oc (aL (k:=101) rfl rfl) (Oc (aB (k:=102) bQ rfl) (Oc oa ?_))
 refine ae.an ⟨[(1,.b (.one (.str s0))),(2,Pt 101 0),(4,Pt 102 0)],[(101,.box 31 (ao a0)),(102,.box 27 dM)]⟩ rfl (ab.seq (ab.seq (ab.aa ?_)))
 refine Oc (lp aJ) (Oc (bc (k:=103) (es:=[a0].map ao) oC rfl rfl (cE fun _=>rfl) rfl (by decide) (by decide) rfl) ?_)
 obtain ⟨x_1,e1,h⟩:=aD h
 refine Oc (ep (fh e1) tL rfl CP.du) (Oc (aT rfl) ?_)
 refine ae.an ⟨[(1,_),(2,_),(4,_),(12,B (!x_1))],[(101,_),(102,_)]⟩ rfl (ab.ite h rfl (fun _ h=>?_) (fun _ h=>?_))
 ·refine ab.seq (ab.aa ?_)
  refine ae.dO aE h rfl (aS dW rfl rfl) (fun x_2 h=>?_)
  refine Oc (ah aC rfl rfl rfl rfl (Nat.le_of_ble_eq_true rfl) rfl) (Oc oa ?_)
  refine ae.an ⟨[(4,_),(5,I 1)],[(102,.box 27 (aE x_2))]⟩ rfl (ab.ret (Fin.aw ?_))
  obtain rfl:=Option.some.inj h
  refine Fin.ag ⟨[(4,_),(5,_)],[(102,_)]⟩ rfl (Fin.aq [.agg (aE x_2),.one (.i 1)] (.inl rfl) rfl (.cons (.agg aC rfl rfl rfl rfl) (.cons (.tmp rfl) .nil)) ⟨rfl,rfl⟩)
 ·refine ab.skip (Fin.ag ⟨[(1,_),(2,_),(4,_)],[(101,_),(102,_)]⟩ rfl (Fin.then (ab.seq (ab.aa ?_))))
  refine Oc om ?_
  obtain ⟨⟨x_3,x_4⟩,e2,h⟩:=aD h
  refine Oc (ad (jy e2) xY rfl rfl) (Oc om (Oc (ay rfl rfl) (Oc (ay rfl rfl) ?_)))
  refine ae.ag ⟨[(2,_),(4,_),(17,.b (.agg (ao x_3))),(18,I x_4)],[(101,_),(102,_)]⟩ rfl (Oc (aB (k:=104) dw rfl) (Oc (ah aJ rfl rfl rfl rfl (Nat.le_of_ble_eq_true rfl) rfl) (Oc oa ?_)))
  refine ae.an ⟨[(2,_),(4,_),(6,Pt 104 0),(7,I x_4)],[(101,_),(102,_),(104,.box 31 (ao x_3))]⟩ rfl (ab.seq (ab.seq (ab.aa ?_)))
  refine Oc om (Oc (di rfl rfl) ?_)
  refine ae.an ⟨[(2,_),(4,_),(6,_),(7,_),(20,B (decide (x_4 ≠ 0)))],[(101,_),(102,_),(104,_)]⟩ rfl (ab.ite h rfl (fun _ h=>?_) (fun _ h=>?_))
  ·refine ab.seq (ab.aa ?_)
   refine ae.dO aE h rfl (aS dW rfl rfl) (fun x_5 h=>?_)
   refine Oc om (Oc (ah aC rfl rfl rfl rfl (Nat.le_of_ble_eq_true rfl) rfl) (Oc oa ?_))
   refine ae.an ⟨[(4,_),(5,I x_4)],[(102,.box 27 (aE x_5))]⟩ rfl (ab.ret (Fin.aw ?_))
   obtain rfl:=Option.some.inj h
   refine Fin.ag ⟨[(4,_),(5,_)],[(102,_)]⟩ rfl (Fin.aq [.agg (aE x_5),.one (.i x_4)] (.inl rfl) rfl (.cons (.agg aC rfl rfl rfl rfl) (.cons (.tmp rfl) .nil)) ⟨rfl,rfl⟩)
  ·refine ab.skip (Fin.ag ⟨[(2,_),(4,_),(6,_)],[(101,_),(102,_),(104,_)]⟩ rfl (Fin.then (ab.seq (ab.seq (ab.aa ?_)))))
   refine Oc (af cy rfl rfl) (Oc (lp aY) (Oc (af cy rfl rfl) (Oc (lp aY) (Oc (dG (oM x_3.U a0.U) rfl rfl gR) ?_))))
   refine ae.an ⟨[(2,_),(4,_),(6,_),(27,B (decide (x_3.U ≠ a0.U)))],[(101,_),(102,_),(104,_)]⟩ rfl (ab.ite h rfl (fun _ h=>?_) (fun _ h=>?_))
   ·refine ab.seq (ab.aa ?_)
    refine ae.dO aE h rfl (aS dW rfl rfl) (fun x_6 h=>?_)
    refine Oc (ah aC rfl rfl rfl rfl (Nat.le_of_ble_eq_true rfl) rfl) (Oc oa ?_)
    refine ae.an ⟨[(4,_),(5,I 110)],[(102,.box 27 (aE x_6))]⟩ rfl (ab.ret (Fin.aw ?_))
    obtain rfl:=Option.some.inj h
    refine Fin.ag ⟨[(4,_),(5,_)],[(102,_)]⟩ rfl (Fin.aq [.agg (aE x_6),.one (.i 110)] (.inl rfl) rfl (.cons (.agg aC rfl rfl rfl rfl) (.cons (.tmp rfl) .nil)) ⟨rfl,rfl⟩)
   ·refine ab.skip (Fin.ag ⟨[(2,_),(4,_),(6,_)],[(101,_),(102,_),(104,_)]⟩ rfl (Fin.then (ab.seq (ab.aa ?_))))
    refine Oc (af bU rfl rfl) (Oc (lp aC) (Oc (af bU rfl rfl) (Oc (lp aC) ?_)))
    obtain ⟨x_7,e3,h⟩:=aD h
    refine Oc (ad (oZ e3) xX rfl rfl) (ae.ag ⟨[(4,_),(34,.b (.agg (aE x_7)))],[(102,_)]⟩ rfl (Oc (aS dV rfl rfl) ?_))
    obtain ⟨⟨x_8,x_9⟩,e4,h⟩:=aD h
    refine Oc (ad (jI e4) Ax rfl rfl) (Oc om (Oc (ay rfl rfl) (Oc (ay rfl rfl) ?_)))
    refine ae.ag ⟨[(4,_),(37,.b (.agg (ao x_8))),(38,I x_9)],[(102,_)]⟩ rfl (Oc (aB (k:=105) dw rfl) (Oc (ah aJ rfl rfl rfl rfl (Nat.le_of_ble_eq_true rfl) rfl) (Oc oa ?_)))
    refine ae.an ⟨[(4,_),(7,I x_9),(8,Pt 105 0)],[(102,_),(105,.box 31 (ao x_8))]⟩ rfl (ab.seq (ab.aa ?_))
    refine Oc (af bU rfl rfl) (Oc (lp aC) (Oc om (Oc (ah aC rfl rfl rfl rfl (Nat.le_of_ble_eq_true rfl) rfl) (Oc oa ?_))))
    refine ae.an ⟨[(4,_),(5,I x_9)],[(102,.box 27 (aE x_8.V))]⟩ rfl (ab.ret ?_)
    obtain rfl:=Option.some.inj h
    refine Fin.ag ⟨[(4,_),(5,_)],[(102,_)]⟩ rfl (Fin.aq [.agg (aE x_8.V),.one (.i x_9)] (.inl rfl) rfl (.cons (.agg aC rfl rfl rfl rfl) (.cons (.tmp rfl) .nil)) ⟨rfl,rfl⟩)
def cO (F:Nat) (s0:bA) (want0:Int):Option Bool :=
 Option.bind (iZ F s0) (b9 fun x_1 x_2=>bN (⟨(⟨(⟨false,false,aU.zero⟩:br),(⟨false,false,aU.zero⟩:br)⟩:bz),(⟨0,0,0⟩:aO)⟩:az) fun x_3=>some ((decide (x_1 = x_3)) && (decide (x_2 = want0))))
theorem df {F:Nat} {s0:bA} {want0:Int} {r:Bool} (h:cO F s0 want0 = some r):aA Tryz.prog (bd mx) 53 [] [.one (.str s0),.one (.i want0)] (Is [] (.b (.one (.bool r)))):=by
 unfold cO at h
 refine aA.intro 20 Tryz.func53 Tryz.ntmps53 rfl (by simp) fun E=>?_
 show ab _ E ⟨20,[],[]⟩ _ ⟨[(0,.b (.one (.str s0))),(1,I want0)],[]⟩ _
 refine ab.seq (ab.aa ?_)
 refine Oc oa (ae.an ⟨[(0,.b (.one (.str s0))),(1,I want0)],[]⟩ rfl (ab.seq (ab.aa ?_)))
 refine Oc om ?_
 obtain ⟨⟨x_1,x_2⟩,e1,h⟩:=aD h
 refine Oc (ad (jy e1) xY rfl rfl) (Oc om (Oc (ay rfl rfl) (Oc (ay rfl rfl) ?_)))
 refine ae.ag ⟨[(1,_),(10,.b (.agg (ao x_1))),(11,I x_2)],[]⟩ rfl (Oc (aB (k:=101) dw rfl) (Oc (ah aJ rfl rfl rfl rfl (Nat.le_of_ble_eq_true rfl) rfl) (Oc oa ?_)))
 refine ae.an ⟨[(1,_),(5,Pt 101 0),(6,I x_2)],[(101,.box 31 (ao x_1))]⟩ rfl (ab.seq (ab.aa ?_))
 refine Oc (lp aJ) (ae.dO ao h rfl (aS dr rfl rfl) (fun x_3 h=>?_))
 refine Oc (fp (nn x_1 x_3) rfl rfl) (Oc om ?_)
 refine cG (decide (x_1 = x_3)) [] (fun g2=>trivial) (fun g2=>om) (cG (decide (x_1 = x_3)) [] (fun g3=>by exact trivial) (fun g3=>om) (cG (decide (x_1 = x_3)) [16,17] (fun g4=>by exact ⟨g4,g4,trivial⟩) (fun g4=>cR rfl rfl) (Oc (aG (fun e=>e) rfl rfl rfl rfl) (Oc oa ?_))))
 refine ae.an ⟨[(4,B ((decide (x_1 = x_3)) && (decide (x_2 = want0))))],[]⟩ rfl (ab.ret ?_)
 obtain rfl:=Option.some.inj h
 refine Fin.ag ⟨[(4,_)],[]⟩ rfl (Fin.aq [.one (.bool ((decide (x_1 = x_3)) && (decide (x_2 = want0))))] (.inl rfl) rfl (.cons (.tmp rfl) .nil) ⟨rfl,rfl⟩)
def dU (F:Nat):Option Bool :=
 Option.bind (iZ F [107,78,47,109,109,94,50]) (b9 fun x_1 x_2=>(bX F 1000000000 1 (-1) 1 (-2)).bind fun x_3=>(eL F (⟨1,1,(-2)⟩:aO)).bind fun x_4=>(bE (decide (x_4 = [109,42,107,103,47,115,94,50])) (eL F (⟨(-1),1,(-2)⟩:aO))).bind fun x_5=>bN ((decide (x_4 = [109,42,107,103,47,115,94,50])) && (decide (x_5 = [107,103,47,109,47,115,94,50]))) fun x_6=>(bE x_6 (eL F (⟨0,0,0⟩:aO))).bind fun x_7=>(bE (x_6 && (decide (x_7 = [49]))) (eL F (⟨(-2),0,0⟩:aO))).bind fun x_8=>bN ((x_6 && (decide (x_7 = [49]))) && (decide (x_8 = [49,47,109,94,50]))) fun x_9=>(bX F 5 2 1 0 0).bind fun x_10=>(eC F [50,46,53,48,32,109] x_10).bind fun x_11=>(bE x_11 (bX F 2500 1 1 1 (-2))).bind fun x_12=>(bE x_11 (eC F [53,47,50,32,107,78] x_12)).bind fun x_13=>(bE (x_11 && x_13) (bX F (-3) 1 0 0 0)).bind fun x_14=>(bE (x_11 && x_13) (eC F [45,51] x_14)).bind fun x_15=>(bE ((x_11 && x_13) && x_15) (bX F 1 40 1 0 0)).bind fun x_16=>(bE ((x_11 && x_13) && x_15) (gW F x_16)).bind fun x_17=>bN (((x_11 && x_13) && x_15) && (decide (x_17 = [49,47,52,48,32,109]))) fun x_18=>(bX F 7200 1 0 0 1).bind fun x_19=>Option.bind (rm F x_19 [109,105,110]) (b9 fun x_20 x_21=>(bX F 7200 1 0 0 1).bind fun x_22=>Option.bind (rm F x_22 [109]) (b9 fun x_23 x_24=>(bX F 1 1 1 0 0).bind fun x_25=>(bX F 1 1 0 0 1).bind fun x_26=>Option.bind (kH F x_25 x_26) (b9 fun x_27 x_28=>(bX F 1 1 1 0 0).bind fun x_29=>(bX F 0 1 0 0 1).bind fun x_30=>Option.bind (jR F x_29 x_30) (b9 fun x_31 x_32=>(kT F 120).bind fun x_33=>bN ((((decide (x_1 = x_3)) && (decide (x_2 = 0))) && x_9) && x_18) fun x_34=>bN (x_34 && (((((decide (x_20 = x_33)) && (decide (x_21 = 0))) && (decide (x_24 = 110))) && (decide (x_28 = 110))) && (decide (x_32 = 31)))) fun x_35=>(bE x_35 (cO F [109,94,49,55] 280)).bind fun x_36=>(bE (x_35 && x_36) (cO F [109,94,49,54,42,109] 2)).bind fun x_37=>(bE ((x_35 && x_36) && x_37) (cO F [120] 5)).bind fun x_38=>(bE (((x_35 && x_36) && x_37) && x_38) (cO F [109,42,42,115] 280)).bind fun x_39=>(bE ((((x_35 && x_36) && x_37) && x_38) && x_39) (cO F [109,94,45,48] 280)).bind fun x_40=>some (((((x_35 && x_36) && x_37) && x_38) && x_39) && x_40))))))
theorem mS {F:Nat} {r:Bool} (h:dU F = some r):aA Tryz.prog (bd mx) 10 [] [] (Is [] (.b (.one (.bool r)))):=by
 unfold dU at h
 refine aA.intro 125 Tryz.func10 Tryz.ntmps10 rfl (by simp) fun E=>?_
 show ab _ E ⟨125,[],[]⟩ _ ⟨[],[]⟩ _
 refine ab.seq (ab.aa ?_)
 refine Oc oa (ae.an ⟨[],[]⟩ rfl (ab.seq (ab.aa ?_)))
 obtain ⟨⟨x_1,x_2⟩,e1,h⟩:=aD h
 refine Oc (ad (jy e1) xY rfl rfl) (Oc om (Oc (ay rfl rfl) (Oc (ay rfl rfl) ?_)))
 refine ae.ag ⟨[(17,.b (.agg (ao x_1))),(18,I x_2)],[]⟩ rfl (Oc (aB (k:=101) dw rfl) (Oc (ah aJ rfl rfl rfl rfl (Nat.le_of_ble_eq_true rfl) rfl) (Oc oa ?_)))
 refine ae.an ⟨[(1,Pt 101 0),(2,I x_2)],[(101,.box 31 (ao x_1))]⟩ rfl (ab.seq ?_)
 obtain ⟨x_3,e2,h⟩:=aD h
 refine ab.bm mixed 8 [.b (.agg (ao x_1)),.b (.agg (ao x_3)),B (decide (x_1 = x_3)),B (decide (x_1 = x_3)),.dh (decide (x_1 = x_3)) (.one (.i x_2)),.dh (decide (x_1 = x_3)) (.one (.bool (decide (x_2 = 0)))),B ((decide (x_1 = x_3)) && (decide (x_2 = 0))),B ((decide (x_1 = x_3)) && (decide (x_2 = 0)))] [3] [] (s':=⟨[(3,B ((decide (x_1 = x_3)) && (decide (x_2 = 0))))],[]⟩) rfl ⟨fun _=>.p (lp aJ),fun _=>.p (ad (bT e2) me rfl rfl),fun _=>.p (fp (nn x_1 x_3) rfl rfl),fun _=>.p om,fun _=>by exact .guard (decide (x_1 = x_3)) 1 [] (.plain rfl) (jY _) rfl rfl (fun g3=>trivial) (fun g3=>om),fun _=>by exact .guard (decide (x_1 = x_3)) 2 [23] (.plain rfl) (jY _) rfl rfl (fun g4=>⟨g4,trivial⟩) (fun g4=>cR rfl rfl),fun _=>.p (aG (fun e=>e) rfl rfl rfl rfl),fun _=>.p oa,trivial⟩ rfl rfl (ab.seq (ab.aa ?_))
 refine Oc (aS dV rfl rfl) ?_
 obtain ⟨x_4,e5,h⟩:=aD h
 refine Oc (ad (ik e5) vL rfl rfl) (Oc (c7 rfl rfl) (Oc om ?_))
 refine cG (decide (x_4 = [109,42,107,103,47,115,94,50])) [] (fun g6=>trivial) (fun g6=>aS dV rfl rfl) (ae.ag ⟨[(3,_),(29,B (decide (x_4 = [109,42,107,103,47,115,94,50]))),(30,.dh (decide (x_4 = [109,42,107,103,47,115,94,50])) (.agg [.i (-1),.i 1,.i (-2)]))],[]⟩ rfl ?_)
 obtain ⟨x_5,e8,h⟩:=aD h
 refine cG (decide (x_4 = [109,42,107,103,47,115,94,50])) [30] (fun g7=>⟨g7,trivial⟩) (fun g7=>ad (ik (gc e8 g7)) vL rfl rfl) (cG (decide (x_4 = [109,42,107,103,47,115,94,50])) [31] (fun g9=>⟨g9,trivial⟩) (fun g9=>c7 rfl rfl) (ae.mX h rfl (aG (fun e=>e) rfl rfl rfl rfl) (fun x_6 h=>?_)))
 refine Oc om (cG x_6 [] (fun g10=>by exact trivial) (fun g10=>aS dV rfl rfl) ?_)
 obtain ⟨x_7,e12,h⟩:=aD h
 refine cG x_6 [35] (fun g11=>⟨g11,trivial⟩) (fun g11=>ad (ik (gc e12 g11)) vL rfl rfl) (ae.ag ⟨[(3,_),(34,B x_6),(36,.dh x_6 (.one (.str x_7)))],[]⟩ rfl (cG x_6 [36] (fun g13=>⟨g13,trivial⟩) (fun g13=>c7 rfl rfl) (Oc (aG (fun e=>e) rfl rfl rfl rfl) (Oc om ?_))))
 refine cG (x_6 && (decide (x_7 = [49]))) [] (fun g14=>trivial) (fun g14=>aS dV rfl rfl) ?_
 obtain ⟨x_8,e16,h⟩:=aD h
 refine cG (x_6 && (decide (x_7 = [49]))) [40] (fun g15=>⟨g15,trivial⟩) (fun g15=>ad (ik (gc e16 g15)) vL rfl rfl) (cG (x_6 && (decide (x_7 = [49]))) [41] (fun g17=>⟨g17,trivial⟩) (fun g17=>c7 rfl rfl) (ae.mX h rfl (aG (fun e=>e) rfl rfl rfl rfl) (fun x_9 h=>?_)))
 refine Oc oa (ae.an ⟨[(3,_),(4,B x_9)],[]⟩ rfl (ab.seq (ab.aa ?_)))
 obtain ⟨x_10,e18,h⟩:=aD h
 refine Oc (ad (bT e18) me rfl rfl) ?_
 obtain ⟨x_11,e19,h⟩:=aD h
 refine Oc (ad (gv e19) Az rfl rfl) (Oc om ?_)
 refine ae.ag ⟨[(3,_),(4,_),(46,B x_11)],[]⟩ rfl ?_
 obtain ⟨x_12,e21,h⟩:=aD h
 refine cG x_11 [] (fun g20=>trivial) (fun g20=>ad (bT (gc e21 g20)) me rfl rfl) ?_
 obtain ⟨x_13,e23,h⟩:=aD h
 refine cG x_11 [47] (fun g22=>⟨g22,trivial⟩) (fun g22=>ad (gv (gc e23 g22)) Az rfl rfl) (Oc (aG (fun e=>e) rfl rfl rfl rfl) (Oc om ?_))
 refine ae.ag ⟨[(3,_),(4,_),(50,B (x_11 && x_13))],[]⟩ rfl ?_
 obtain ⟨x_14,e25,h⟩:=aD h
 refine cG (x_11 && x_13) [] (fun g24=>trivial) (fun g24=>ad (bT (gc e25 g24)) me rfl rfl) ?_
 obtain ⟨x_15,e27,h⟩:=aD h
 refine cG (x_11 && x_13) [51] (fun g26=>⟨g26,trivial⟩) (fun g26=>ad (gv (gc e27 g26)) Az rfl rfl) (Oc (aG (fun e=>e) rfl rfl rfl rfl) (Oc om ?_))
 refine ae.ag ⟨[(3,_),(4,_),(54,B ((x_11 && x_13) && x_15))],[]⟩ rfl ?_
 obtain ⟨x_16,e29,h⟩:=aD h
 refine cG ((x_11 && x_13) && x_15) [] (fun g28=>trivial) (fun g28=>ad (bT (gc e29 g28)) me rfl rfl) ?_
 obtain ⟨x_17,e31,h⟩:=aD h
 refine cG ((x_11 && x_13) && x_15) [55] (fun g30=>⟨g30,trivial⟩) (fun g30=>ad (pI (gc e31 g30)) D9 rfl rfl) (cG ((x_11 && x_13) && x_15) [56] (fun g32=>⟨g32,trivial⟩) (fun g32=>c7 rfl rfl) (ae.mX h rfl (aG (fun e=>e) rfl rfl rfl rfl) (fun x_18 h=>?_)))
 refine Oc oa (ae.an ⟨[(3,_),(4,_),(5,B x_18)],[]⟩ rfl (ab.seq (ab.aa ?_)))
 obtain ⟨x_19,e33,h⟩:=aD h
 refine Oc (ad (bT e33) me rfl rfl) ?_
 obtain ⟨⟨x_20,x_21⟩,e34,h⟩:=aD h
 refine Oc (ad (th e34) Ea rfl rfl) (Oc om ?_)
 refine ae.ag ⟨[(3,_),(4,_),(5,_),(59,.eY [.agg (aE x_20),.one (.i x_21)])],[]⟩ rfl (Oc (ay rfl rfl) (Oc (ay rfl rfl) (Oc (aB (k:=102) bQ rfl) (Oc (ah aC rfl rfl rfl rfl (Nat.le_of_ble_eq_true rfl) rfl) (Oc oa ?_)))))
 refine ae.an ⟨[(3,_),(4,_),(5,_),(6,Pt 102 0),(7,I x_21)],[(102,.box 27 (aE x_20))]⟩ rfl (ab.seq (ab.aa ?_))
 obtain ⟨x_22,e35,h⟩:=aD h
 refine Oc (ad (bT e35) me rfl rfl) ?_
 obtain ⟨⟨x_23,x_24⟩,e36,h⟩:=aD h
 refine Oc (ad (th e36) Ea rfl rfl) (Oc om ?_)
 refine ae.ag ⟨[(3,_),(4,_),(5,_),(6,_),(7,_),(64,.eY [.agg (aE x_23),.one (.i x_24)])],[(102,_)]⟩ rfl (Oc (ay rfl rfl) (Oc (ay rfl rfl) (Oc (aB (k:=103) bQ rfl) (Oc (ah aC rfl rfl rfl rfl (Nat.le_of_ble_eq_true rfl) rfl) (Oc oa ?_)))))
 refine ae.an ⟨[(3,_),(4,_),(5,_),(6,_),(7,_),(9,I x_24)],[(102,_)]⟩ rfl (ab.seq (ab.aa ?_))
 obtain ⟨x_25,e37,h⟩:=aD h
 refine Oc (ad (bT e37) me rfl rfl) ?_
 obtain ⟨x_26,e38,h⟩:=aD h
 refine Oc (ad (bT e38) me rfl rfl) (ae.ag ⟨[(3,_),(4,_),(5,_),(6,_),(7,_),(9,_),(70,.b (.agg (ao x_25))),(71,.b (.agg (ao x_26)))],[(102,_)]⟩ rfl ?_)
 obtain ⟨⟨x_27,x_28⟩,e39,h⟩:=aD h
 refine Oc (ad (rO e39) D7 rfl rfl) (Oc om (Oc (ay rfl rfl) (Oc (ay rfl rfl) (Oc (aB (k:=104) dw rfl) (Oc (ah aJ rfl rfl rfl rfl (Nat.le_of_ble_eq_true rfl) rfl) ?_)))))
 refine Oc oa (ae.an ⟨[(3,_),(4,_),(5,_),(6,_),(7,_),(9,_),(11,I x_28)],[(102,_)]⟩ rfl (ab.seq (ab.aa ?_)))
 obtain ⟨x_29,e40,h⟩:=aD h
 refine Oc (ad (bT e40) me rfl rfl) ?_
 obtain ⟨x_30,e41,h⟩:=aD h
 refine Oc (ad (bT e41) me rfl rfl) (ae.ag ⟨[(3,_),(4,_),(5,_),(6,_),(7,_),(9,_),(11,_),(76,.b (.agg (ao x_29))),(77,.b (.agg (ao x_30)))],[(102,_)]⟩ rfl ?_)
 obtain ⟨⟨x_31,x_32⟩,e42,h⟩:=aD h
 refine Oc (ad (qP e42) D4 rfl rfl) (Oc om (Oc (ay rfl rfl) (Oc (ay rfl rfl) (Oc (aB (k:=105) dw rfl) (Oc (ah aJ rfl rfl rfl rfl (Nat.le_of_ble_eq_true rfl) rfl) ?_)))))
 refine Oc oa (ae.an ⟨[(3,_),(4,_),(5,_),(6,_),(7,_),(9,_),(11,_),(13,I x_32)],[(102,_)]⟩ rfl (ab.seq ?_))
 obtain ⟨x_33,e43,h⟩:=aD h
 refine ab.bm mixed 20 [.b (.agg (aE x_20)),.b (.agg (aE x_33)),B (decide (x_20 = x_33)),B (decide (x_20 = x_33)),.dh (decide (x_20 = x_33)) (.one (.i x_21)),.dh (decide (x_20 = x_33)) (.one (.bool (decide (x_21 = 0)))),B ((decide (x_20 = x_33)) && (decide (x_21 = 0))),B ((decide (x_20 = x_33)) && (decide (x_21 = 0))),.dh ((decide (x_20 = x_33)) && (decide (x_21 = 0))) (.one (.i x_24)),.dh ((decide (x_20 = x_33)) && (decide (x_21 = 0))) (.one (.bool (decide (x_24 = 110)))),B (((decide (x_20 = x_33)) && (decide (x_21 = 0))) && (decide (x_24 = 110))),B (((decide (x_20 = x_33)) && (decide (x_21 = 0))) && (decide (x_24 = 110))),.dh (((decide (x_20 = x_33)) && (decide (x_21 = 0))) && (decide (x_24 = 110))) (.one (.i x_28)),.dh (((decide (x_20 = x_33)) && (decide (x_21 = 0))) && (decide (x_24 = 110))) (.one (.bool (decide (x_28 = 110)))),B ((((decide (x_20 = x_33)) && (decide (x_21 = 0))) && (decide (x_24 = 110))) && (decide (x_28 = 110))),B ((((decide (x_20 = x_33)) && (decide (x_21 = 0))) && (decide (x_24 = 110))) && (decide (x_28 = 110))),.dh ((((decide (x_20 = x_33)) && (decide (x_21 = 0))) && (decide (x_24 = 110))) && (decide (x_28 = 110))) (.one (.i x_32)),.dh ((((decide (x_20 = x_33)) && (decide (x_21 = 0))) && (decide (x_24 = 110))) && (decide (x_28 = 110))) (.one (.bool (decide (x_32 = 31)))),B (((((decide (x_20 = x_33)) && (decide (x_21 = 0))) && (decide (x_24 = 110))) && (decide (x_28 = 110))) && (decide (x_32 = 31))),B (((((decide (x_20 = x_33)) && (decide (x_21 = 0))) && (decide (x_24 = 110))) && (decide (x_28 = 110))) && (decide (x_32 = 31)))] [3,4,5,14] [] (s':=⟨[(3,_),(4,_),(5,_),(14,B (((((decide (x_20 = x_33)) && (decide (x_21 = 0))) && (decide (x_24 = 110))) && (decide (x_28 = 110))) && (decide (x_32 = 31))))],[]⟩) rfl ⟨fun _=>.p (lp aC),fun _=>.p (ad (so e43) Ay rfl rfl),fun _=>.p (fp (eqAgg27 x_20 x_33) rfl rfl),fun _=>.p om,fun _=>by exact .guard (decide (x_20 = x_33)) 1 [] (.plain rfl) (jY _) rfl rfl (fun g44=>trivial) (fun g44=>om),fun _=>by exact .guard (decide (x_20 = x_33)) 2 [85] (.plain rfl) (jY _) rfl rfl (fun g45=>⟨g45,trivial⟩) (fun g45=>cR rfl rfl),fun _=>.p (aG (fun e=>e) rfl rfl rfl rfl),fun _=>.p om,fun _=>by exact .guard ((decide (x_20 = x_33)) && (decide (x_21 = 0))) 1 [] (.plain rfl) (jY _) rfl rfl (fun g46=>trivial) (fun g46=>om),fun _=>by exact .guard ((decide (x_20 = x_33)) && (decide (x_21 = 0))) 2 [89] (.plain rfl) (jY _) rfl rfl (fun g47=>⟨g47,trivial⟩) (fun g47=>cR rfl rfl),fun _=>.p (aG (fun e=>e) rfl rfl rfl rfl),fun _=>.p om,fun _=>by exact .guard (((decide (x_20 = x_33)) && (decide (x_21 = 0))) && (decide (x_24 = 110))) 1 [] (.plain rfl) (jY _) rfl rfl (fun g48=>trivial) (fun g48=>om),fun _=>by exact .guard (((decide (x_20 = x_33)) && (decide (x_21 = 0))) && (decide (x_24 = 110))) 2 [93] (.plain rfl) (jY _) rfl rfl (fun g49=>⟨g49,trivial⟩) (fun g49=>cR rfl rfl),fun _=>.p (aG (fun e=>e) rfl rfl rfl rfl),fun _=>.p om,fun _=>by exact .guard ((((decide (x_20 = x_33)) && (decide (x_21 = 0))) && (decide (x_24 = 110))) && (decide (x_28 = 110))) 1 [] (.plain rfl) (jY _) rfl rfl (fun g50=>trivial) (fun g50=>om),fun _=>by exact .guard ((((decide (x_20 = x_33)) && (decide (x_21 = 0))) && (decide (x_24 = 110))) && (decide (x_28 = 110))) 2 [97] (.plain rfl) (jY _) rfl rfl (fun g51=>⟨g51,trivial⟩) (fun g51=>cR rfl rfl),fun _=>.p (aG (fun e=>e) rfl rfl rfl rfl),fun _=>.p oa,trivial⟩ rfl rfl ?_
 refine ab.seq (ab.aa ?_)
 refine Oc om (Oc om ?_)
 refine cG ((decide (x_1 = x_3)) && (decide (x_2 = 0))) [] (fun g52=>trivial) (fun g52=>om) (Oc (aG (fun e=>e) rfl rfl rfl rfl) (Oc om ?_))
 refine cG (((decide (x_1 = x_3)) && (decide (x_2 = 0))) && x_9) [] (fun g53=>trivial) (fun g53=>om) (ae.mX h rfl (aG (fun e=>e) rfl rfl rfl rfl) (fun x_34 h=>?_))
 refine ae.ag ⟨[(14,_),(106,B x_34)],[]⟩ rfl (Oc om (cG x_34 [] (fun g54=>by exact trivial) (fun g54=>om) (ae.mX h rfl (aG (fun e=>e) rfl rfl rfl rfl) (fun x_35 h=>?_))))
 refine Oc om ?_
 obtain ⟨x_36,e56,h⟩:=aD h
 refine cG x_35 [] (fun g55=>trivial) (fun g55=>ad (df (gc e56 g55)) vI rfl rfl) (Oc (aG (fun e=>e) rfl rfl rfl rfl) (ae.ag ⟨[(112,B (x_35 && x_36))],[]⟩ rfl (Oc om ?_)))
 obtain ⟨x_37,e58,h⟩:=aD h
 refine cG (x_35 && x_36) [] (fun g57=>trivial) (fun g57=>ad (df (gc e58 g57)) vI rfl rfl) (Oc (aG (fun e=>e) rfl rfl rfl rfl) (Oc om ?_))
 refine ae.ag ⟨[(116,B ((x_35 && x_36) && x_37))],[]⟩ rfl ?_
 obtain ⟨x_38,e60,h⟩:=aD h
 refine cG ((x_35 && x_36) && x_37) [] (fun g59=>trivial) (fun g59=>ad (df (gc e60 g59)) vI rfl rfl) (Oc (aG (fun e=>e) rfl rfl rfl rfl) (Oc om ?_))
 obtain ⟨x_39,e62,h⟩:=aD h
 refine cG (((x_35 && x_36) && x_37) && x_38) [] (fun g61=>trivial) (fun g61=>ad (df (gc e62 g61)) vI rfl rfl) (Oc (aG (fun e=>e) rfl rfl rfl rfl) (Oc om ?_))
 refine ae.ag ⟨[(122,B ((((x_35 && x_36) && x_37) && x_38) && x_39))],[]⟩ rfl ?_
 obtain ⟨x_40,e64,h⟩:=aD h
 refine cG ((((x_35 && x_36) && x_37) && x_38) && x_39) [] (fun g63=>trivial) (fun g63=>ad (df (gc e64 g63)) vI rfl rfl) (Oc (aG (fun e=>e) rfl rfl rfl rfl) (Oc oa ?_))
 refine ae.an ⟨[(0,B (((((x_35 && x_36) && x_37) && x_38) && x_39) && x_40))],[]⟩ rfl (ab.ret ?_)
 obtain rfl:=Option.some.inj h
 refine Fin.ag ⟨[(0,_)],[]⟩ rfl (Fin.aq [.one (.bool (((((x_35 && x_36) && x_37) && x_38) && x_39) && x_40))] (.inl rfl) rfl (.cons (.tmp rfl) .nil) ⟨rfl,rfl⟩)
def jO (F:Nat) (x0:br):Option bA :=
 (cj F x0).bind fun x_1=>if (!x_1) = true then (some []) else ((bJ F x0).bind fun x_2=>if (decide ((x_2.length:Int) = 0)) = true then (some [48]) else (Option.bind (iter F (b9 fun d_4 out_5=>if (decide (0 < (d_4.length:Int))) = true then (Option.bind (CW (0:Int) (d_4.length:Int) (d_4.length:Int)) (fun x_7=>Option.bind (bN (IntKind.i64.wrap ((d_4.length:Int) - 1)) fun x_10=>iter F (ky fun rest_11 q_12 k_13=>if (decide (0 ≤ k_13)) = true then ((bI d_4 k_13).bind fun x_16=>bN (IntKind.i64.wrap ((IntKind.i64.wrap (65536 * rest_11)) + x_16)) fun x_17=>(lq .i64 x_17 10).bind fun x_18=>(bI q_12 k_13).bind fun x_19=>some (.inl (Int.tmod x_17 10,q_12.set (k_13:Int).toNat x_18,IntKind.i64.wrap (k_13 - 1)))) else (some (.inr (rest_11,q_12)))) (0,x_7,x_10)) (b9 fun rest_8 q_9=>(fW F q_9).bind fun x_20=>bN (IntKind.u8.wrap (IntKind.i64.wrap (48 + rest_8))) fun x_21=>(eJ (mW [x_21]) out_5).bind fun x_22=>some (.inl (x_20,x_22))))) else (some (.inr out_5))) (x_2,[])) (fun out_3=>if x0.Neg = true then ((eJ [45] out_3).bind fun x_23=>some x_23) else (some out_3))))
theorem pp {F:Nat} {x0:br} {r:bA} (h:jO F x0 = some r):aA Tryz.prog (bd mx) 158 [] [.agg (ar x0)] (Is [] (.b (.one (.str r)))):=by
 unfold jO at h
 refine aA.intro 58 Tryz.func158 Tryz.ntmps158 rfl (by simp) fun E=>?_
 show ab _ E ⟨58,[],[]⟩ _ ⟨[(0,.b (.agg (ar x0)))],[]⟩ _
 refine ab.seq (ab.aa ?_)
 refine Oc (aL (k:=101) rfl rfl) (Oc oa ?_)
 refine ae.an ⟨[(1,Pt 101 0)],[(101,.box 25 (ar x0))]⟩ rfl (ab.seq (ab.seq (ab.aa ?_)))
 refine Oc (lp aj) ?_
 obtain ⟨x_1,e1,h⟩:=aD h
 refine Oc (ad (bO e1) fR rfl rfl) (Oc (aT rfl) ?_)
 refine ae.an ⟨[(1,_),(11,B (!x_1))],[(101,_)]⟩ rfl (ab.ite h rfl (fun _ h=>?_) (fun _ h=>?_))
 ·refine ab.seq (ab.aa ?_)
  refine Oc oa (ae.an ⟨[(2,.b (.one (.str [])))],[]⟩ rfl (ab.ret (Fin.aw ?_)))
  obtain rfl:=Option.some.inj h
  refine Fin.ag ⟨[(2,_)],[]⟩ rfl (Fin.aq [.one (.str [])] (.inl rfl) rfl (.cons (.tmp rfl) .nil) ⟨rfl,rfl⟩)
 ·refine ab.skip (Fin.ag ⟨[(1,_)],[(101,_)]⟩ rfl (Fin.then (ab.seq (ab.aa ?_))))
  refine Oc (lp aj) ?_
  obtain ⟨x_2,e2,h⟩:=aD h
  refine Oc (ad (bC e2) gl rfl rfl) (Oc oa ?_)
  refine ae.an ⟨[(1,_),(3,.b (.one (.sl 1 (x_2.map eI))))],[(101,_)]⟩ rfl (ab.seq (ab.seq (ab.aa ?_)))
  refine Oc om (Oc (bV gw rfl (List.length_map _)) (Oc (cR rfl rfl) ?_))
  refine ae.an ⟨[(1,_),(3,_),(16,B (decide ((x_2.length:Int) = 0)))],[(101,_)]⟩ rfl (ab.ite h rfl (fun _ h=>?_) (fun _ h=>?_))
  ·refine ab.seq (ab.aa ?_)
   refine Oc oa (ae.an ⟨[(2,.b (.one (.str [48])))],[]⟩ rfl (ab.ret (Fin.aw ?_)))
   obtain rfl:=Option.some.inj h
   refine Fin.ag ⟨[(2,_)],[]⟩ rfl (Fin.aq [.one (.str [48])] (.inl rfl) rfl (.cons (.tmp rfl) .nil) ⟨rfl,rfl⟩)
  ·refine ab.skip (Fin.ag ⟨[(1,_),(3,_)],[(101,_)]⟩ rfl (Fin.then (ab.seq (ab.aa ?_))))
   refine Oc oa (ae.an ⟨[(1,_),(3,_),(4,.b (.one (.str [])))],[(101,_)]⟩ rfl ?_)
   obtain ⟨v3,h4,h⟩:=aD h
   refine ab.cB (v:=v3) (fun (out_3:bA)=>⟨[(1,Pt 101 0),(4,.b (.one (.str out_3)))],[(101,.box 25 (ar x0))]⟩) (fun z=>z) ?_ ?_
   ·refine ab.block (ab.cW h4 (b9 fun (d_4:List Int) (out_5:bA)=>⟨[(1,Pt 101 0),(3,.b (.one (.sl 1 (d_4.map eI)))),(4,.b (.one (.str out_5)))],[(101,.box 25 (ar x0))]⟩) [1,3,4] [101] rfl ?_)
    rintro ⟨d_4,out_5⟩ o5 h6 hy7
    refine ab.seq (ab.seq (ab.aa ?_))
    refine Oc om (Oc (bV gw rfl (List.length_map _)) (Oc (fj rfl rfl) ?_))
    refine ae.an ⟨[(1,_),(3,_),(4,_),(19,B (decide (0 < (d_4.length:Int))))],[(101,_)]⟩ rfl (ab.ite h6 rfl (fun _ h6=>?_) (fun _ h6=>?_))
    ·refine ab.skip (Fin.ag ⟨[(1,_),(3,_),(4,_)],[(101,_)]⟩ rfl (Fin.then (ab.block (ab.seq (ab.aa ?_)))))
     refine Oc oa (ae.an ⟨[(1,_),(3,_),(4,_),(5,I 0)],[(101,_)]⟩ rfl (ab.seq (ab.aa ?_)))
     refine Oc om (Oc (bV gw rfl (List.length_map _)) ?_)
     obtain ⟨x_7,e8,h6⟩:=aD h6
     refine Oc (pr (k:=102) (enc:=eI) cX e8 (by decide) (.cons .refl .nil) rfl rfl rfl) (Oc oa ?_)
     refine ae.an ⟨[(1,_),(3,_),(4,_),(5,_),(6,.b (.row 102))],[(101,_),(102,.row 3 1 (x_7.map eI))]⟩ rfl ?_
     obtain ⟨v9,h10,h6⟩:=aD h6
     refine ab.cB (v:=v9) (b9 fun (rest_8:Int) (q_9:List Int)=>⟨[(1,Pt 101 0),(4,.b (.one (.str out_5))),(5,I rest_8),(6,.b (.row 102))],[(101,.box 25 (ar x0)),(102,.row 3 1 (q_9.map eI))]⟩) (fun z=>z) ?_ ?_
     ·refine ab.seq (ab.aa ?_)
      refine Oc om (Oc (bV gw rfl (List.length_map _)) ?_)
      refine ae.cD .i64 h10 rfl (b7 rfl rfl) (fun x_10 h10=>?_)
      refine Oc oa (ae.an ⟨[(1,_),(3,_),(4,_),(5,_),(6,_),(7,I x_10)],[(101,_),(102,_)]⟩ rfl (ab.block (ab.cW h10 (ky fun (rest_11:Int) (q_12:List Int) (k_13:Int)=>⟨[(1,Pt 101 0),(3,.b (.one (.sl 1 (d_4.map eI)))),(4,.b (.one (.str out_5))),(5,I rest_11),(6,.b (.row 102)),(7,I k_13)],[(101,.box 25 (ar x0)),(102,.row 3 1 (q_12.map eI))]⟩) [1,3,4,5,6,7] [101,102] rfl ?_)))
      rintro ⟨rest_11,q_12,k_13⟩ o11 h12 hy13
      refine ab.seq (ab.seq (ab.aa ?_))
      refine Oc om (Oc (gC rfl rfl) ?_)
      refine ae.an ⟨[(1,_),(3,_),(4,_),(5,_),(6,_),(7,_),(27,B (decide (0 ≤ k_13)))],[(101,_),(102,_)]⟩ rfl (ab.ite h12 rfl (fun _ h12=>?_) (fun _ h12=>?_))
      ·refine ab.skip (Fin.ag ⟨[(1,_),(3,_),(4,_),(5,_),(6,_),(7,_)],[(101,_),(102,_)]⟩ rfl (Fin.then (ab.seq (ab.block (ab.seq (ab.aa ?_))))))
       refine Oc om (Oc (eP rfl rfl) (Oc om (Oc om ?_)))
       obtain ⟨x_16,e14,h12⟩:=aD h12
       refine Oc (dS cX (bx e14) (eE (e:=eI) e14) rfl rfl) (Oc (fo bG rfl rfl) ?_)
       refine ae.cD .i64 h12 rfl (bg rfl rfl) (fun x_17 h12=>?_)
       refine Oc oa (ae.an ⟨[(1,_),(3,_),(4,_),(6,_),(7,_),(8,I x_17)],[(101,_),(102,_)]⟩ rfl (ab.seq (ab.aa ?_)))
       refine Oc om (Oc om (Oc om ?_))
       obtain ⟨x_18,e15,h12⟩:=aD h12
       refine Oc (fc e15 rfl rfl) ?_
       obtain ⟨x_19,e16,h12⟩:=aD h12
       refine Oc (dk cX (bx e16) (je e16) rfl rfl rfl rfl) (Oc (jT (i:=(k_13:Int).toNat) bG rfl rfl rfl rfl (w8 e16) (map_set _ _ _ _)) ?_)
       refine ae.an ⟨[(1,_),(3,_),(4,_),(6,_),(7,_),(8,_)],[(101,_),(102,.row 3 1 ((q_12.set (k_13:Int).toNat x_18).map eI))]⟩ rfl (ab.aa (Oc om (Oc (kC (by decide) rfl rfl) (Oc oa ?_))))
       refine ae.nil (Fin.aI (Fin.ag ⟨[(1,_),(3,_),(4,_),(5,I (Int.tmod x_17 10)),(6,_),(7,_)],[(101,_),(102,_)]⟩ rfl (Fin.then (ab.aa ?_))))
       refine Oc om (Oc (b7 rfl rfl) (Oc oa ?_))
       refine ae.nil ?_
       exact Fin.b6 [1,3,4,5,6,7] [101,102] (Int.tmod x_17 10,q_12.set (k_13:Int).toNat x_18,IntKind.i64.wrap (k_13 - 1)) (Option.some.inj h12) rfl
      ·refine ab.exit (Fin.aF ?_)
       obtain rfl:=hy13 _ (Option.some.inj h12).symm
       refine Fin.aF (Fin.aX ?_)
       exact Fin.join [1,4,5,6] [101,102] (rest_11,q_12) rfl rfl
     ·rintro ⟨rest_8,q_9⟩ hv
      subst v9
      refine ab.seq (ab.aa ?_)
      refine Oc om (ae.dQ 102 rfl ?_)
      obtain ⟨x_20,e17,h6⟩:=aD h6
      refine Oc (ad (gj e17) ni rfl rfl) (Oc oa ?_)
      refine ae.an ⟨[(1,Pt 101 0),(3,.b (.one (.sl 1 (x_20.map eI)))),(4,.b (.one (.str out_5))),(5,I rest_8)],[(101,.box 25 (ar x0))]⟩ rfl (ab.aa (Oc om (Oc (bg rfl rfl) ?_)))
      refine ae.cD .u8 h6 rfl (aH kz pE rfl) (fun x_21 h6=>?_)
      refine Oc (bc (k:=103) (es:=[x_21].map (eK .u8)) vy rfl rfl (cE fun _=>rfl) rfl (by decide) (by decide) rfl) (ae.dQ 103 rfl (ae.ag ⟨[(1,Pt 101 0),(3,.b (.one (.sl 1 (x_20.map eI)))),(4,.b (.one (.str out_5))),(49,.b (.one (.sl 1 ([x_21].map (eK .u8)))))],[(101,.box 25 (ar x0))]⟩ rfl (Oc (nM vo pE iF rfl) (Oc om ?_))))
      obtain ⟨x_22,e18,h6⟩:=aD h6
      refine Oc (bK e18 rfl rfl) (Oc oa ?_)
      refine ae.nil (Fin.aI ?_)
      exact Fin.b6 [1,3,4] [101] (x_20,x_22) (Option.some.inj h6) rfl
    ·refine ab.exit (Fin.aF ?_)
     obtain rfl:=hy7 _ (Option.some.inj h6).symm
     refine Fin.aF (Fin.aX ?_)
     exact Fin.join [1,4] [101] out_5 rfl rfl
   ·rintro out_3 hv
    subst v3
    refine ab.seq (ab.seq (ab.aa ?_))
    refine Oc (af bj rfl rfl) (Oc (au bS rfl rfl rfl) ?_)
    refine ae.an ⟨[(4,_),(54,B x0.Neg)],[]⟩ rfl (ab.ite h rfl (fun _ h=>?_) (fun _ h=>?_))
    ·refine ab.seq (ab.aa ?_)
     refine Oc om ?_
     obtain ⟨x_23,e19,h⟩:=aD h
     refine Oc (bK e19 rfl rfl) (Oc oa ?_)
     refine ae.an ⟨[(2,.b (.one (.str x_23)))],[]⟩ rfl (ab.ret (Fin.aw ?_))
     obtain rfl:=Option.some.inj h
     refine Fin.ag ⟨[(2,_)],[]⟩ rfl (Fin.aq [.one (.str x_23)] (.inl rfl) rfl (.cons (.tmp rfl) .nil) ⟨rfl,rfl⟩)
    ·refine ab.skip (Fin.ag ⟨[(4,_)],[]⟩ rfl (Fin.then (ab.seq (ab.aa ?_))))
     refine Oc om (Oc oa ?_)
     refine ae.an ⟨[(2,.b (.one (.str out_3)))],[]⟩ rfl (ab.ret ?_)
     obtain rfl:=Option.some.inj h
     refine Fin.ag ⟨[(2,_)],[]⟩ rfl (Fin.aq [.one (.str out_3)] (.inl rfl) rfl (.cons (.tmp rfl) .nil) ⟨rfl,rfl⟩)
def n9 (F:Nat) (x0:bz):Option bA :=
 (dX F x0).bind fun x_1=>if (!x_1) = true then (some []) else ((k9 F).bind fun x_2=>if (decide (x0.D = x_2)) = true then ((jO F x0.N).bind fun x_3=>some x_3) else ((jO F x0.N).bind fun x_4=>(eJ x_4 [47]).bind fun x_5=>(jO F x0.D).bind fun x_6=>(eJ x_5 x_6).bind fun x_7=>some x_7))
theorem yE {F:Nat} {x0:bz} {r:bA} (h:n9 F x0 = some r):aA Tryz.prog (bd mx) 104 [] [.agg (aE x0)] (Is [] (.b (.one (.str r)))):=by
 unfold n9 at h
 refine aA.intro 21 Tryz.func104 Tryz.ntmps104 rfl (by simp) fun E=>?_
 show ab _ E ⟨21,[],[]⟩ _ ⟨[(0,.b (.agg (aE x0)))],[]⟩ _
 refine ab.seq (ab.aa ?_)
 refine Oc (aL (k:=101) rfl rfl) (Oc oa ?_)
 refine ae.an ⟨[(1,Pt 101 0)],[(101,.box 27 (aE x0))]⟩ rfl (ab.seq (ab.seq (ab.aa ?_)))
 refine Oc (lp aC) ?_
 obtain ⟨x_1,e1,h⟩:=aD h
 refine Oc (ad (dD e1) lF rfl rfl) (Oc (aT rfl) ?_)
 refine ae.an ⟨[(1,_),(5,B (!x_1))],[(101,_)]⟩ rfl (ab.ite h rfl (fun _ h=>?_) (fun _ h=>?_))
 ·refine ab.seq (ab.aa ?_)
  refine Oc oa (ae.an ⟨[(2,.b (.one (.str [])))],[]⟩ rfl (ab.ret (Fin.aw ?_)))
  obtain rfl:=Option.some.inj h
  refine Fin.ag ⟨[(2,_)],[]⟩ rfl (Fin.aq [.one (.str [])] (.inl rfl) rfl (.cons (.tmp rfl) .nil) ⟨rfl,rfl⟩)
 ·refine ab.skip (Fin.ag ⟨[(1,_)],[(101,_)]⟩ rfl (Fin.then (ab.seq (ab.seq ?_))))
  refine ab.ag ⟨[(1,_)],[(101,_)]⟩ rfl ?_
  obtain ⟨x_2,e2,h⟩:=aD h
  refine ab.bm mixed 4 [Pt 101 18,.b (.agg (ar x0.D)),.b (.agg (ar x_2)),B (decide (x0.D = x_2))] [1,9] [101] (s':=⟨[(1,_),(9,B (decide (x0.D = x_2)))],[(101,_)]⟩) rfl ⟨fun _=>.p (af aV rfl rfl),fun _=>.p (lp aj),fun _=>.p (ad (nB e2) ve rfl rfl),fun _=>.p (fp (vf x0.D x_2) rfl rfl),trivial⟩ rfl rfl (ab.ite h rfl (fun _ h=>?_) (fun _ h=>?_))
  ·refine ab.seq (ab.aa ?_)
   refine Oc (af bq rfl rfl) (Oc (lp aj) ?_)
   obtain ⟨x_3,e3,h⟩:=aD h
   refine Oc (ad (pp e3) ym rfl rfl) (Oc oa ?_)
   refine ae.an ⟨[(2,.b (.one (.str x_3)))],[]⟩ rfl (ab.ret (Fin.aw ?_))
   obtain rfl:=Option.some.inj h
   refine Fin.ag ⟨[(2,_)],[]⟩ rfl (Fin.aq [.one (.str x_3)] (.inl rfl) rfl (.cons (.tmp rfl) .nil) ⟨rfl,rfl⟩)
  ·refine ab.skip (Fin.ag ⟨[(1,_)],[(101,_)]⟩ rfl (Fin.then (ab.seq ?_)))
   refine ab.ag ⟨[(1,_)],[(101,_)]⟩ rfl ?_
   obtain ⟨x_4,e4,h⟩:=aD h
   obtain ⟨x_5,e5,h⟩:=aD h
   obtain ⟨x_6,e6,h⟩:=aD h
   obtain ⟨x_7,e7,h⟩:=aD h
   refine ab.bm mixed 9 [Pt 101 0,.b (.agg (ar x0.N)),.b (.one (.str x_4)),.b (.one (.str x_5)),Pt 101 18,.b (.agg (ar x0.D)),.b (.one (.str x_6)),.b (.one (.str x_7)),.b (.one (.str x_7))] [2] [] (s':=⟨[(2,.b (.one (.str x_7)))],[]⟩) rfl ⟨fun _=>.p (af bq rfl rfl),fun _=>.p (lp aj),fun _=>.p (ad (pp e4) ym rfl rfl),fun _=>.p (bK e5 rfl rfl),fun _=>.p (af aV rfl rfl),fun _=>.p (lp aj),fun _=>.p (ad (pp e6) ym rfl rfl),fun _=>.p (bK e7 rfl rfl),fun _=>.p oa,trivial⟩ rfl rfl (ab.ret ?_)
   obtain rfl:=Option.some.inj h
   refine Fin.ag ⟨[(2,_)],[]⟩ rfl (Fin.aq [.one (.str x_7)] (.inl rfl) rfl (.cons (.tmp rfl) .nil) ⟨rfl,rfl⟩)
def dT (F:Nat) (n0:Int):Option bA :=
 if (decide (n0 < 10)) = true then (bN (IntKind.u8.wrap (IntKind.i64.wrap (48 + n0))) fun x_1=>some (mW [x_1])) else ((lq .i64 n0 10).bind fun x_2=>bN (IntKind.u8.wrap (IntKind.i64.wrap (48 + x_2))) fun x_3=>bN (IntKind.i64.wrap (48 + (Int.tmod n0 10))) fun x_4=>some (mW [x_3,IntKind.u8.wrap x_4]))
theorem mR {F:Nat} {n0:Int} {r:bA} (h:dT F n0 = some r):aA Tryz.prog (bd mx) 144 [] [.one (.i n0)] (Is [] (.b (.one (.str r)))):=by
 unfold dT at h
 refine aA.intro 20 Tryz.func144 Tryz.ntmps144 rfl (by simp) fun E=>?_
 show ab _ E ⟨20,[],[]⟩ _ ⟨[(0,I n0)],[]⟩ _
 refine ab.seq (ab.aa ?_)
 refine Oc oa (ae.an ⟨[(0,I n0)],[]⟩ rfl (ab.seq (ab.seq (ab.aa ?_))))
 refine Oc om (Oc (bP rfl rfl) ?_)
 refine ae.an ⟨[(0,_),(4,B (decide (n0 < 10)))],[]⟩ rfl (ab.ite h rfl (fun _ h=>?_) (fun _ h=>?_))
 ·refine ab.seq (ab.aa ?_)
  refine Oc om (Oc (bg rfl rfl) ?_)
  refine ae.cD .u8 h rfl (aH kz pE rfl) (fun x_1 h=>?_)
  refine Oc (bc (k:=101) (es:=[x_1].map (eK .u8)) vy rfl rfl (cE fun _=>rfl) rfl (by decide) (by decide) rfl) (ae.dQ 101 rfl (Oc (nM vo pE iF rfl) (Oc oa ?_)))
  refine ae.an ⟨[(2,.b (.one (.str (mW [x_1]))))],[]⟩ rfl (ab.ret (Fin.aw ?_))
  obtain rfl:=Option.some.inj h
  refine Fin.ag ⟨[(2,_)],[]⟩ rfl (Fin.aq [.one (.str (mW [x_1]))] (.inl rfl) rfl (.cons (.tmp rfl) .nil) ⟨rfl,rfl⟩)
 ·refine ab.skip (Fin.ag ⟨[(0,_)],[]⟩ rfl (Fin.then (ab.seq (ab.aa ?_))))
  refine Oc om ?_
  obtain ⟨x_2,e1,h⟩:=aD h
  refine Oc (fc e1 rfl rfl) (Oc (bg rfl rfl) ?_)
  refine ae.cD .u8 h rfl (aH kz pE rfl) (fun x_3 h=>?_)
  refine Oc om (Oc (kC (by decide) rfl rfl) ?_)
  refine ae.cD .i64 h rfl (bg rfl rfl) (fun x_4 h=>?_)
  refine ae.ag ⟨[(13,.b (.one (.int .u8 x_3))),(16,I x_4)],[]⟩ rfl (Oc (aH kz pE rfl) (Oc (bc (k:=102) (es:=[x_3,IntKind.u8.wrap x_4].map (eK .u8)) vy rfl rfl (cE fun _=>rfl) rfl (by decide) (by decide) rfl) ?_))
  refine ae.dQ 102 rfl (Oc (nM vo pE iF rfl) (Oc oa ?_))
  refine ae.an ⟨[(2,.b (.one (.str (mW [x_3,IntKind.u8.wrap x_4]))))],[]⟩ rfl (ab.ret ?_)
  obtain rfl:=Option.some.inj h
  refine Fin.ag ⟨[(2,_)],[]⟩ rfl (Fin.aq [.one (.str (mW [x_3,IntKind.u8.wrap x_4]))] (.inl rfl) rfl (.cons (.tmp rfl) .nil) ⟨rfl,rfl⟩)
def cu (F:Nat) (name0:bA) (n0:Int):Option bA :=
 if (decide (n0 = 1)) = true then (some name0) else ((eJ name0 [94]).bind fun x_1=>(dT F n0).bind fun x_2=>(eJ x_1 x_2).bind fun x_3=>some x_3)
theorem jr {F:Nat} {name0:bA} {n0:Int} {r:bA} (h:cu F name0 n0 = some r):aA Tryz.prog (bd mx) 86 [] [.one (.str name0),.one (.i n0)] (Is [] (.b (.one (.str r)))):=by
 unfold cu at h
 refine aA.intro 13 Tryz.func86 Tryz.ntmps86 rfl (by simp) fun E=>?_
 show ab _ E ⟨13,[],[]⟩ _ ⟨[(0,.b (.one (.str name0))),(1,I n0)],[]⟩ _
 refine ab.seq (ab.aa ?_)
 refine Oc oa (ae.an ⟨[(0,.b (.one (.str name0))),(1,I n0)],[]⟩ rfl (ab.seq (ab.seq (ab.aa ?_))))
 refine Oc om (Oc (cR rfl rfl) ?_)
 refine ae.an ⟨[(0,_),(1,_),(6,B (decide (n0 = 1)))],[]⟩ rfl (ab.ite h rfl (fun _ h=>?_) (fun _ h=>?_))
 ·refine ab.seq (ab.aa ?_)
  refine Oc om (Oc oa ?_)
  refine ae.an ⟨[(4,.b (.one (.str name0)))],[]⟩ rfl (ab.ret (Fin.aw ?_))
  obtain rfl:=Option.some.inj h
  refine Fin.ag ⟨[(4,_)],[]⟩ rfl (Fin.aq [.one (.str name0)] (.inl rfl) rfl (.cons (.tmp rfl) .nil) ⟨rfl,rfl⟩)
 ·refine ab.skip (Fin.ag ⟨[(0,_),(1,_)],[]⟩ rfl (Fin.then (ab.seq (ab.aa ?_))))
  refine Oc om ?_
  obtain ⟨x_1,e1,h⟩:=aD h
  refine Oc (bK e1 rfl rfl) (Oc om ?_)
  obtain ⟨x_2,e2,h⟩:=aD h
  refine Oc (ad (mR e2) goes144 rfl rfl) ?_
  obtain ⟨x_3,e3,h⟩:=aD h
  refine Oc (bK e3 rfl rfl) (Oc oa ?_)
  refine ae.an ⟨[(4,.b (.one (.str x_3)))],[]⟩ rfl (ab.ret ?_)
  obtain rfl:=Option.some.inj h
  refine Fin.ag ⟨[(4,_)],[]⟩ rfl (Fin.aq [.one (.str x_3)] (.inl rfl) rfl (.cons (.tmp rfl) .nil) ⟨rfl,rfl⟩)
end Go.Proofs.YtcbbilehdaaffaaGreatDoor

