/- printed walks -/
import Derived.Test.YtagpkeehkcopaaaGreatW1
namespace Go.Proofs.YtagpkeehkcopaaaGreat
open Go.Sk Go
set_option maxHeartbeats 4000000
set_option maxRecDepth 4000
set_option linter.unusedSimpArgs false
set_option linter.unusedVariables false
def b6 (F:Nat) (s0:cp):Option (List A2) :=
 Option.bind (ov (fun _=>some true) s0.ids.root) (fun xs_1=>Option.bind (each (fun outf0_3=>fun x_2=>(bN F s0 x_2.b).bind fun x_4=>Option.bind (iter F (dX fun outf0_5 x_6=>if (decide (x_6 < (x_4.length:Int))) = true then (Option.bind ((bd x_4 x_6).bind fun x_9=>if (decide (x_2.id < x_9)) = true then ((kZ outf0_5 [(⟨x_2.id,x_9⟩:A2)]).bind fun x_10=>some x_10) else (some outf0_5)) (fun outf0_8=>some (.inl (outf0_8,IntKind.i64.wrap (x_6 + 1))))) else (some (.inr outf0_5))) (outf0_3,0)) (fun outf0_7=>some (.inl outf0_7))) (xs_1) []) (cc (fun outf0_3=>some outf0_3) (fun (_:Unit)=>none)))
theorem dF {F:Nat} {s0:cp} {r:(List A2)} (h:b6 F s0 = some r):an Tryz.prog [] 26 [] [.agg (aA s0)] (Is [(51,.row 40 2 (r.map (cx .i64)))] (.b (.row 51))):=by
 unfold b6 at h
 refine an.tL 34 Tryz.func26 Tryz.ntmps26 rfl (by simp) fun E=>?_
 show ab _ E ⟨34,[],[],[]⟩ _ ⟨[(0,.b (.agg (aA s0)))],[]⟩ _
 refine ab.seq (ab.aa ?_)
 refine Oc (bD (k:=101) rfl rfl) (Oc oa ?_)
 refine af.ai ⟨[(1,Pt 101 0)],[(101,.box 49 (aA s0))]⟩ rfl (ab.seq (ab.aa ?_))
 refine Oc (aW (k:=102) uh rfl) (af.ai ⟨[(1,_),(3,Pt 102 0)],[(101,_),(102,.box 35 [.nil])]⟩ rfl (ab.seq (ab.seq (ab.aa ?_))))
 refine Oc (ax kz rfl rfl) (Oc (ax fH rfl rfl) (Oc (aM bp rfl rfl rfl) (Oc (aj qB tQ rfl rfl) ?_)))
 refine af.ai ⟨[(1,_),(3,_),(10,.b (.one (.fl 77 [CP.rp [.tr ae s0.ids.root],CP.rp [.raw (.func (.func 58) #[] #[])]])))],[(101,_),(102,_)]⟩ rfl ?_
 obtain ⟨xs_1,e1,h⟩:=aP h
 refine ab.ag ⟨[(1,Pt 101 0),(3,Pt 102 0),(10,.b (.one (.fl 77 [CP.rp [.tr ae s0.ids.root],CP.rp [.raw (.func (.func 58) #[] #[])]])))],[(101,.box 49 (aA s0)),(102,.box 35 [.nil])]⟩ rfl (ab.toX 102 rfl (ab.ic 102 0 106 2 40 rfl rfl (by decide) (by decide) rfl (ab.ag ⟨[(1,_),(3,_),(10,_)],[(101,_),(102,.bY 35 [.row 106]),(106,.row 40 2 ([].map (cx .i64)))]⟩ rfl (ab.tF _ tt _ _ (fun (outf0_3:List A2)=>[(101,.box 49 (aA s0)),(102,.bY 35 [.row 106]),(106,.row 40 2 (outf0_3.map (cx .i64)))]) (fun (_:Unit)=>([]:List (Nat × OC))) (fun (outf0_3:List A2)=>fun x_2=>⟨[(1,Pt 101 0),(3,Pt 102 0),(4,Pt 108 0)],[(101,.box 49 (aA s0)),(102,.bY 35 [.row 106]),(106,.row 40 2 (outf0_3.map (cx .i64))),(108,.box 87 (aq x_2))]⟩) h (qC pR e1) tN rfl rfl rfl (fun _=>rfl) (fun _=>rfl) (fun _=>rfl) (fun _ _=>rfl) (fun _ _=>rfl) rfl (fun _=>rfl) ?_ ?_ ?_ ?_))))
 ·rintro E l outf0_3 x_2 z _ h2
  refine aX.keep [1,3,10,11] [101,102,106] (s':=⟨[(1,Pt 101 0),(3,Pt 102 0),(10,.b (.one (.fl 77 [CP.rp [.tr ae s0.ids.root],CP.rp [.raw (.func (.func 58) #[] #[])]]))),(11,.b (.agg (aq x_2)))],[(101,.box 49 (aA s0)),(102,.bY 35 [.row 106]),(106,.row 40 2 (outf0_3.map (cx .i64)))]⟩) rfl (aX.aa (.inr ⟨_,rfl⟩) (Oc (aW (k:=108) gP rfl) (Oc (az bq rfl rfl rfl rfl (Nat.le_of_ble_eq_true rfl) rfl) ?_)))
  refine af.nil ?_
  exact Fin.ag ⟨[(1,_),(3,_),(4,Pt 108 0)],[(101,_),(102,_),(106,_),(108,.box 87 (aq x_2))]⟩ rfl (fun a w hr=>hr)
 ·rintro E l outf0_3 x_2 z _ h2
  refine aX.block (aX.seq (aX.aa (.inr ⟨_,rfl⟩) (Oc (lp aH) (Oc (ax gF rfl rfl) (Oc (lp aE) ?_)))))
  obtain ⟨x_4,e3,h2⟩:=aP h2
  refine Oc (cX (own_a:=[]) ((dm e3).sw 51 109) pj rfl trivial rfl rfl) (Oc (dM dU rfl rfl (List.length_map _)) (Oc om ?_))
  refine af.nil (Fin.ag ⟨[(1,Pt 101 0),(3,Pt 102 0),(4,Pt 108 0),(15,.b (.row 109)),(16,I (x_4.length:Int)),(17,I 0)],[(101,.box 49 (aA s0)),(102,.bY 35 [.row 106]),(106,.row 40 2 (outf0_3.map (cx .i64))),(108,.box 87 (aq x_2)),(109,.row 3 1 (x_4.map eI))]⟩ rfl (Fin.gq ?_ (fun ⟨_,_,hl⟩=>hl)))
  refine aX.block ?_
  obtain ⟨v4,h5,h2⟩:=aP h2
  refine aX.c9 h5 (dX fun (outf0_5:List A2) (x_6:Int)=>⟨[(1,Pt 101 0),(3,Pt 102 0),(4,Pt 108 0),(15,.b (.row 109)),(16,I (x_4.length:Int)),(17,I x_6)],[(101,.box 49 (aA s0)),(102,.bY 35 [.row 106]),(106,.row 40 2 (outf0_5.map (cx .i64))),(108,.box 87 (aq x_2)),(109,.row 3 1 (x_4.map eI))]⟩) [1,3,4,15,16,17] [101,102,106,108,109] rfl ?_
  rintro ⟨outf0_5,x_6⟩ o6 h7 hy8
  refine aX.seq (aX.aa (.inr ⟨_,rfl⟩) (Oc (bo rfl rfl) (af.nil (Fin.ag ⟨[(1,_),(3,_),(4,_),(15,_),(16,_),(17,I x_6),(18,B (decide (x_6 < (x_4.length:Int))))],[(101,_),(102,_),(106,.row 40 2 (outf0_5.map (cx .i64))),(108,_),(109,_)]⟩ rfl (Fin.gq ?_ (fun ⟨_,_,hl⟩=>hl))))))
  refine aX.seq (aX.ite h7 rfl (fun _ h7=>?_) (fun _ h7=>?_))
  ·refine aX.skip (Fin.ag ⟨[(1,_),(3,_),(4,_),(15,_),(16,_),(17,_)],[(101,_),(102,_),(106,_),(108,_),(109,_)]⟩ rfl (Fin.gq ?_ (fun ⟨_,_,hl⟩=>hl)))
   obtain ⟨v9,h10,h7⟩:=aP h7
   refine aX.dQ (v:=v9) (fun (outf0_8:List A2)=>⟨[(1,Pt 101 0),(3,Pt 102 0),(4,Pt 108 0),(15,.b (.row 109)),(16,I (x_4.length:Int)),(17,I x_6)],[(101,.box 49 (aA s0)),(102,.bY 35 [.row 106]),(106,.row 40 2 (outf0_8.map (cx .i64))),(108,.box 87 (aq x_2)),(109,.row 3 1 (x_4.map eI))]⟩) (fun z=>z) ?_ ?_
   ·refine aX.block (aX.seq (aX.aa (.inr ⟨_,rfl⟩) ?_))
    obtain ⟨x_9,e11,h10⟩:=aP h10
    refine Oc (df bK (a8 e11) (iw e11) rfl rfl rfl rfl) (Oc (fL (i:=(x_6:Int).toNat) (f:=0) aN rfl rfl rfl (bQ (e:=eI) e11) rfl) (Oc oa ?_))
    refine af.nil (Fin.ag ⟨[(1,_),(3,_),(4,_),(6,I x_9),(15,_),(16,_),(17,_)],[(101,_),(102,_),(106,_),(108,_),(109,_)]⟩ rfl (Fin.gq ?_ (fun ⟨_,_,hl⟩=>hl)))
    refine aX.seq (aX.aa (.inr ⟨_,rfl⟩) (Oc om (Oc (ax dL rfl rfl) (Oc (aM aN rfl rfl rfl) (Oc (jQ rfl rfl) ?_)))))
    refine af.nil (Fin.ag ⟨[(1,_),(3,_),(4,_),(6,_),(15,_),(16,_),(17,_),(24,B (decide (x_2.id < x_9)))],[(101,_),(102,_),(106,_),(108,_),(109,_)]⟩ rfl (Fin.gq ?_ (fun ⟨_,_,hl⟩=>hl)))
    refine aX.ite h10 rfl (fun _ h10=>?_) (fun _ h10=>?_)
    ·refine aX.aa (.inr ⟨_,rfl⟩) (Oc (gV pw rfl rfl rfl) (Oc (ax dL rfl rfl) (Oc (aM aN rfl rfl rfl) (Oc om (Oc (cP dr rfl rfl) (Oc (cD (k:=110) (es:=[(⟨x_2.id,x_9⟩:A2)].map (cx .i64)) gl rfl rfl (cG fun _=>rfl) rfl (by decide) (by decide) rfl) ?_))))))
     refine af.forget 102 0 rfl ?_
     obtain ⟨x_10,e12,h10⟩:=aP h10
     refine Oc (gg gl (p6 e12) (p5 e12) rfl rfl rfl rfl (lN e12) rfl) (Oc (mW pw rfl rfl rfl rfl (Nat.le_of_ble_eq_true rfl) rfl) ?_)
     refine af.nil (Fin.av ?_)
     exact Fin.join [1,3,4,15,16,17] [101,102,106,108,109] x_10 (Option.some.inj h10) rfl
    ·refine aX.skip (Fin.av ?_)
     exact Fin.join [1,3,4,15,16,17] [101,102,106,108,109] outf0_5 (Option.some.inj h10) rfl
   ·rintro outf0_8 hv
    subst v9
    refine aX.aa (.inr ⟨_,rfl⟩) (Oc (bu rfl rfl) (Oc om ?_))
    refine af.nil ?_
    exact Fin.cr [1,3,4,15,16,17] [101,102,106,108,109] (outf0_8,IntKind.i64.wrap (x_6 + 1)) (Option.some.inj h7) rfl
  ·refine aX.exit (Fin.aD ?_)
   obtain rfl:=hy8 _ (Option.some.inj h7).symm
   refine Fin.aD (Fin.aV (Fin.av ?_))
   obtain rfl:=Option.some.inj h2
   exact Fin.ag ⟨[],[(101,_),(102,_),(106,_)]⟩ rfl (fun a w hr=>⟨_,rfl,hr⟩)
 ·rintro E D outf0_3 h13
  refine ab.seq (ab.aa ?_)
  refine Oc (gV pw rfl rfl rfl) (Oc oa ?_)
  refine af.ai ⟨[(2,.b (.row 106))],[(106,.row 40 2 (outf0_3.map (cx .i64)))]⟩ rfl (ab.ret ?_)
  obtain rfl:=Option.some.inj h13
  refine Fin.ag ⟨[(2,.b (.row 106))],[(106,.row 40 2 (outf0_3.map (cx .i64)))]⟩ rfl (Fin.rename 106 51 rfl (by decide) rfl (Fin.ag ⟨[(2,.b (.row 51))],[(51,.row 40 2 (outf0_3.map (cx .i64)))]⟩ rfl ?_))
  exact Fin.result [.row 51] (.inl rfl) rfl (.cons (.tmp rfl) .nil) ⟨rfl,rfl⟩
 ·rintro E D ⟨⟩ h13
  cases h13
def bm (F:Nat):Option Bool :=
 (bS F 0 0 0 4 4 4).bind fun x_1=>(bS F 4 4 4 6 6 6).bind fun x_2=>(bS F 5 0 0 9 9 3).bind fun x_3=>(cC F x_1 x_2).bind fun x_4=>(bJ x_4 (cC F x_1 x_3)).bind fun x_5=>(bJ (x_4 && (!x_5)) (cC F x_2 x_3)).bind fun x_6=>(bJ ((x_4 && (!x_5)) && (!x_6)) (gD F x_1 x_3)).bind fun x_7=>(bJ ((x_4 && (!x_5)) && (!x_6)) (bS F 0 0 0 9 9 4)).bind fun x_8=>Option.bind (gE F x_1 1) (dX fun x_9 x_10=>Option.bind (gE F x_3 1) (dX fun x_11 x_12=>Option.bind (eV F [x_1,x_2,x_3]) (dX fun x_13 x_14=>Option.bind (eV F [x_1,x_11,x_2]) (dX fun x_15 x_16=>ez (((decide (x_10 = 0)) && (decide (x_12 = 0))) && (decide (x_14 = 0))) fun x_17=>(bP F x_13 [(⟨0,1⟩:A2)]).bind fun x_18=>(bJ x_18 (bP F x_15 [(⟨0,1⟩:A2),(⟨0,2⟩:A2),(⟨1,2⟩:A2)])).bind fun x_19=>(gh F).bind fun x_20=>Option.bind (bI F x_20 7 x_1) (dX fun x_21 x_22=>Option.bind (bI F x_21 3 x_2) (dX fun x_23 x_24=>Option.bind (dx F x_23 x_1) (dX fun x_25 x_26=>Option.bind (dx F x_23 x_3) (dX fun x_27 x_28=>Option.bind (bO F x_23 3 x_3) (th fun x_29 x_30 x_31 x_32=>Option.bind (bI F x_29 3 x_1) (dX fun x_33 x_34=>Option.bind (bG F x_29 5) (dX fun x_35 x_36=>ez (((decide (x_22 = 0)) && (decide (x_24 = 0))) && (decide (x_26 = 0))) fun x_37=>(bJ ((x_37 && (decide (x_28 = 0))) && (decide (x_32 = 0))) (de F x_25 [3,7])).bind fun x_38=>ez (((x_37 && (decide (x_28 = 0))) && (decide (x_32 = 0))) && x_38) fun x_39=>ez ((x_39 && (decide ((x_27.length:Int) = 0))) && (decide ((x_30.length:Int) = 0))) fun x_40=>(bJ x_40 (de F x_31 [7])).bind fun x_41=>(bJ ((((x_4 && (!x_5)) && (!x_6)) && (decide (x_7 = x_8))) && (x_17 && (decide (x_16 = 0)))) (bS F (-1) (-1) (-1) 5 5 5)).bind fun x_42=>(bJ (((((((x_4 && (!x_5)) && (!x_6)) && (decide (x_7 = x_8))) && (x_17 && (decide (x_16 = 0)))) && (decide (x_9 = x_42))) && (x_18 && x_19)) && (x_40 && x_41)) (b6 F x_29)).bind fun x_43=>(bJ ((((((((x_4 && (!x_5)) && (!x_6)) && (decide (x_7 = x_8))) && (x_17 && (decide (x_16 = 0)))) && (decide (x_9 = x_42))) && (x_18 && x_19)) && (x_40 && x_41)) && (decide ((x_43.length:Int) = 0))) (b6 F x_23)).bind fun x_44=>(bJ ((((((((x_4 && (!x_5)) && (!x_6)) && (decide (x_7 = x_8))) && (x_17 && (decide (x_16 = 0)))) && (decide (x_9 = x_42))) && (x_18 && x_19)) && (x_40 && x_41)) && (decide ((x_43.length:Int) = 0))) (bP F x_44 [(⟨3,7⟩:A2)])).bind fun x_45=>some (((((((((((x_4 && (!x_5)) && (!x_6)) && (decide (x_7 = x_8))) && (x_17 && (decide (x_16 = 0)))) && (decide (x_9 = x_42))) && (x_18 && x_19)) && (x_40 && x_41)) && (decide ((x_43.length:Int) = 0))) && x_45) && (decide (x_34 = 6))) && (decide (x_36 = 5))))))))))))))
theorem cZ {F:Nat} {r:Bool} (h:bm F = some r):an Tryz.prog [] 15 [] [] (Is [] (.b (.one (.bool r)))):=by
 unfold bm at h
 refine an.intro 225 Tryz.func15 Tryz.ntmps15 rfl (by simp) fun E=>?_
 show ab _ E ⟨225,[],[],[]⟩ _ ⟨[],[]⟩ _
 refine ab.seq (ab.aa ?_)
 refine Oc oa (af.ai ⟨[],[]⟩ rfl (ab.seq (ab.aa ?_)))
 obtain ⟨x_1,e1,h⟩:=aP h
 refine Oc (aj (cm e1) nI rfl rfl) (Oc (aW (k:=101) fy rfl) (Oc (az aE rfl rfl rfl rfl (Nat.le_of_ble_eq_true rfl) rfl) ?_))
 refine af.ai ⟨[(1,Pt 101 0)],[(101,.box 25 (ao x_1))]⟩ rfl (ab.seq (ab.aa ?_))
 obtain ⟨x_2,e2,h⟩:=aP h
 refine Oc (aj (cm e2) nI rfl rfl) (Oc (aW (k:=102) fy rfl) (Oc (az aE rfl rfl rfl rfl (Nat.le_of_ble_eq_true rfl) rfl) ?_))
 refine af.ai ⟨[(1,_),(2,Pt 102 0)],[(101,_),(102,.box 25 (ao x_2))]⟩ rfl (ab.seq (ab.aa ?_))
 obtain ⟨x_3,e3,h⟩:=aP h
 refine Oc (aj (cm e3) nI rfl rfl) (Oc (aW (k:=103) fy rfl) (Oc (az aE rfl rfl rfl rfl (Nat.le_of_ble_eq_true rfl) rfl) ?_))
 refine af.ai ⟨[(1,_),(2,_),(3,Pt 103 0)],[(101,_),(102,_),(103,.box 25 (ao x_3))]⟩ rfl (ab.seq (ab.aa ?_))
 refine Oc (lp aE) (Oc (lp aE) ?_)
 obtain ⟨x_4,e4,h⟩:=aP h
 refine Oc (aj (c8 e4) mc rfl rfl) (Oc om ?_)
 refine ew x_4 [] (fun g5=>trivial) (fun g5=>lp aE) (af.ag ⟨[(1,_),(2,_),(3,_),(37,B x_4),(38,.opt x_4 (.agg (ao x_1)))],[(101,_),(102,_),(103,_)]⟩ rfl (ew x_4 [] (fun g6=>by exact trivial) (fun g6=>lp aE) ?_))
 obtain ⟨x_5,e8,h⟩:=aP h
 refine ew x_4 [38,39] (fun g7=>⟨g7,g7,trivial⟩) (fun g7=>aj (c8 (gc e8 g7)) mc rfl rfl) (ew x_4 [40] (fun g9=>⟨g9,trivial⟩) (fun g9=>ee rfl) (Oc (aI (fun e=>e) rfl rfl rfl rfl) (Oc om ?_)))
 refine ew (x_4 && (!x_5)) [] (fun g10=>trivial) (fun g10=>lp aE) (af.ag ⟨[(1,_),(2,_),(3,_),(43,B (x_4 && (!x_5))),(44,.opt (x_4 && (!x_5)) (.agg (ao x_2)))],[(101,_),(102,_),(103,_)]⟩ rfl (ew (x_4 && (!x_5)) [] (fun g11=>by exact trivial) (fun g11=>lp aE) ?_))
 obtain ⟨x_6,e13,h⟩:=aP h
 refine ew (x_4 && (!x_5)) [44,45] (fun g12=>⟨g12,g12,trivial⟩) (fun g12=>aj (c8 (gc e13 g12)) mc rfl rfl) (ew (x_4 && (!x_5)) [46] (fun g14=>⟨g14,trivial⟩) (fun g14=>ee rfl) (Oc (aI (fun e=>e) rfl rfl rfl rfl) (Oc om ?_)))
 refine ew ((x_4 && (!x_5)) && (!x_6)) [] (fun g15=>trivial) (fun g15=>lp aE) (af.ag ⟨[(1,_),(2,_),(3,_),(49,B ((x_4 && (!x_5)) && (!x_6))),(50,.opt ((x_4 && (!x_5)) && (!x_6)) (.agg (ao x_1)))],[(101,_),(102,_),(103,_)]⟩ rfl (ew ((x_4 && (!x_5)) && (!x_6)) [] (fun g16=>by exact trivial) (fun g16=>lp aE) ?_))
 obtain ⟨x_7,e18,h⟩:=aP h
 refine ew ((x_4 && (!x_5)) && (!x_6)) [50,51] (fun g17=>⟨g17,g17,trivial⟩) (fun g17=>aj (jv (gc e18 g17)) tW rfl rfl) ?_
 obtain ⟨x_8,e20,h⟩:=aP h
 refine ew ((x_4 && (!x_5)) && (!x_6)) [] (fun g19=>trivial) (fun g19=>aj (cm (gc e20 g19)) nI rfl rfl) (ew ((x_4 && (!x_5)) && (!x_6)) [52,53] (fun g21=>⟨g21,g21,trivial⟩) (fun g21=>jg (sC x_7 x_8) rfl rfl) (Oc (aI (fun e=>e) rfl rfl rfl rfl) (Oc oa ?_)))
 refine af.ai ⟨[(1,_),(2,_),(3,_),(4,B (((x_4 && (!x_5)) && (!x_6)) && (decide (x_7 = x_8))))],[(101,_),(102,_),(103,_)]⟩ rfl (ab.seq (ab.aa ?_))
 refine Oc (lp aE) ?_
 obtain ⟨⟨x_9,x_10⟩,e22,h⟩:=aP h
 refine Oc (aj (jw e22) tX rfl rfl) (Oc om (Oc (ak rfl rfl) (Oc (ak rfl rfl) ?_)))
 refine af.ag ⟨[(1,_),(2,_),(3,_),(4,_),(59,.b (.agg (ao x_9))),(60,I x_10)],[(101,_),(102,_),(103,_)]⟩ rfl (Oc (aW (k:=104) fy rfl) (Oc (az aE rfl rfl rfl rfl (Nat.le_of_ble_eq_true rfl) rfl) (Oc oa ?_)))
 refine af.ai ⟨[(1,_),(2,_),(3,_),(4,_),(5,Pt 104 0),(6,I x_10)],[(101,_),(102,_),(103,_),(104,.box 25 (ao x_9))]⟩ rfl (ab.seq (ab.aa ?_))
 refine Oc (lp aE) ?_
 obtain ⟨⟨x_11,x_12⟩,e23,h⟩:=aP h
 refine Oc (aj (jw e23) tX rfl rfl) (Oc om (Oc (ak rfl rfl) (Oc (ak rfl rfl) ?_)))
 refine af.ag ⟨[(1,_),(2,_),(3,_),(4,_),(5,_),(6,_),(64,.b (.agg (ao x_11))),(65,I x_12)],[(101,_),(102,_),(103,_),(104,_)]⟩ rfl (Oc (aW (k:=105) fy rfl) (Oc (az aE rfl rfl rfl rfl (Nat.le_of_ble_eq_true rfl) rfl) (Oc oa ?_)))
 refine af.ai ⟨[(1,_),(2,_),(3,_),(4,_),(5,_),(6,_),(7,Pt 105 0),(8,I x_12)],[(101,_),(102,_),(103,_),(104,_),(105,.box 25 (ao x_11))]⟩ rfl (ab.seq (ab.aa ?_))
 refine Oc (lp aE) (Oc (lp aE) (Oc (lp aE) (Oc (cD (k:=106) (es:=[x_1,x_2,x_3].map ao) k6 rfl rfl (cG fun _=>rfl) rfl (by decide) (by decide) rfl) ?_)))
 refine af.di 106 rfl (af.ag ⟨[(1,Pt 101 0),(2,Pt 102 0),(3,Pt 103 0),(4,B (((x_4 && (!x_5)) && (!x_6)) && (decide (x_7 = x_8)))),(5,Pt 104 0),(6,I x_10),(7,Pt 105 0),(8,I x_12),(70,.b (.one (.sl 6 ([x_1,x_2,x_3].map ao))))],[(101,.box 25 (ao x_1)),(102,.box 25 (ao x_2)),(103,.box 25 (ao x_3)),(104,.box 25 (ao x_9)),(105,.box 25 (ao x_11))]⟩ rfl ?_)
 obtain ⟨⟨x_13,x_14⟩,e24,h⟩:=aP h
 refine Oc (cX (iP 107 e24) tV rfl trivial rfl rfl) (Oc om (Oc (ak rfl rfl) (Oc (ak rfl rfl) (Oc oa (Oc oa ?_)))))
 refine af.ai ⟨[(1,_),(2,_),(3,_),(4,_),(5,_),(6,_),(7,_),(8,_),(9,.b (.row 107)),(10,I x_14)],[(101,_),(102,_),(103,_),(104,_),(105,_),(107,.row 40 2 (x_13.map (cx .i64)))]⟩ rfl (ab.seq (ab.aa ?_))
 refine Oc (lp aE) (Oc (lp aE) (Oc (lp aE) (Oc (cD (k:=108) (es:=[x_1,x_11,x_2].map ao) k6 rfl rfl (cG fun _=>rfl) rfl (by decide) (by decide) rfl) ?_)))
 refine af.di 108 rfl (af.ag ⟨[(1,Pt 101 0),(2,Pt 102 0),(3,Pt 103 0),(4,B (((x_4 && (!x_5)) && (!x_6)) && (decide (x_7 = x_8)))),(5,Pt 104 0),(6,I x_10),(8,I x_12),(9,.b (.row 107)),(10,I x_14),(78,.b (.one (.sl 6 ([x_1,x_11,x_2].map ao))))],[(101,.box 25 (ao x_1)),(102,.box 25 (ao x_2)),(103,.box 25 (ao x_3)),(104,.box 25 (ao x_9)),(107,.row 40 2 (x_13.map (cx .i64)))]⟩ rfl ?_)
 obtain ⟨⟨x_15,x_16⟩,e25,h⟩:=aP h
 refine Oc (cX (iP 109 e25) tV rfl trivial rfl rfl) (Oc om (Oc (ak rfl rfl) (Oc (ak rfl rfl) (Oc oa (Oc oa ?_)))))
 refine af.ai ⟨[(1,_),(2,_),(3,_),(4,_),(5,_),(6,_),(8,_),(9,_),(10,_),(11,.b (.row 109)),(12,I x_16)],[(101,_),(102,_),(103,_),(104,_),(107,_),(109,.row 40 2 (x_15.map (cx .i64)))]⟩ rfl (ab.seq (ab.aa ?_))
 refine Oc om (Oc (cR rfl rfl) (Oc om ?_))
 refine ew (decide (x_10 = 0)) [] (fun g26=>trivial) (fun g26=>om) (ew (decide (x_10 = 0)) [85] (fun g27=>by exact ⟨g27,trivial⟩) (fun g27=>cR rfl rfl) (Oc (aI (fun e=>e) rfl rfl rfl rfl) (Oc om ?_)))
 refine af.ag ⟨[(1,_),(2,_),(3,_),(4,_),(5,_),(9,_),(10,_),(11,_),(12,_),(88,B ((decide (x_10 = 0)) && (decide (x_12 = 0))))],[(101,_),(102,_),(103,_),(104,_),(107,_),(109,_)]⟩ rfl (ew ((decide (x_10 = 0)) && (decide (x_12 = 0))) [] (fun g28=>trivial) (fun g28=>om) (ew ((decide (x_10 = 0)) && (decide (x_12 = 0))) [89] (fun g29=>by exact ⟨g29,trivial⟩) (fun g29=>cR rfl rfl) (af.mO h rfl (aI (fun e=>e) rfl rfl rfl rfl) (fun x_17 h=>?_))))
 refine Oc om (ew x_17 [] (fun g30=>by exact trivial) (fun g30=>om) (ew x_17 [93] (fun g31=>by exact ⟨g31,trivial⟩) (fun g31=>cR rfl rfl) (Oc (aI (fun e=>e) rfl rfl rfl rfl) (Oc oa ?_))))
 refine af.ai ⟨[(1,_),(2,_),(3,_),(4,_),(5,_),(9,_),(11,_),(13,B (x_17 && (decide (x_16 = 0))))],[(101,_),(102,_),(103,_),(104,_),(107,_),(109,_)]⟩ rfl (ab.seq (ab.aa ?_))
 refine Oc om (Oc (cP dr rfl rfl) (Oc (cD (k:=110) (es:=[(⟨0,1⟩:A2)].map (cx .i64)) gl rfl rfl (cG fun _=>rfl) rfl (by decide) (by decide) rfl) ?_))
 obtain ⟨x_18,e32,h⟩:=aP h
 refine Oc (fY (cI e32) ry rfl CP.gJ) (af.ag ⟨[(1,_),(2,_),(3,_),(4,_),(5,_),(11,_),(13,_),(99,B x_18)],[(101,_),(102,_),(103,_),(104,_),(109,_)]⟩ rfl (Oc om (ew x_18 [] (fun g33=>by exact trivial) (fun g33=>om) (ew x_18 [] (fun g34=>by exact trivial) (fun g34=>cP dr rfl rfl) (ew x_18 [] (fun g35=>by exact trivial) (fun g35=>cP dr rfl rfl) ?_)))))
 refine ew x_18 [] (fun g36=>trivial) (fun g36=>cP dr rfl rfl) (ew x_18 [102,103,104] (fun g37=>⟨g37,g37,g37,trivial⟩) (fun g37=>dv (es:=[(⟨0,1⟩:A2),(⟨0,2⟩:A2),(⟨1,2⟩:A2)].map (cx .i64)) gl rfl rfl (cG fun _=>rfl) rfl (by decide) (by decide)) (af.ag ⟨[(1,_),(2,_),(3,_),(4,_),(5,_),(13,_),(100,B x_18),(101,.opt x_18 (.row 109)),(105,.opt x_18 (.one (.sl 2 ([(⟨0,1⟩:A2),(⟨0,2⟩:A2),(⟨1,2⟩:A2)].map (cx .i64)))))],[(101,_),(102,_),(103,_),(104,_),(109,_)]⟩ rfl ?_))
 obtain ⟨x_19,e39,h⟩:=aP h
 refine ew x_18 [101,105] (fun g38=>⟨g38,g38,trivial⟩) (fun g38=>fY (cI (gc e39 g38)) ry rfl CP.gJ) (Oc (aI (fun e=>e) rfl rfl rfl rfl) (Oc oa ?_))
 refine af.ai ⟨[(1,_),(2,_),(3,_),(4,_),(5,_),(13,_),(14,B (x_18 && x_19))],[(101,_),(102,_),(103,_),(104,_)]⟩ rfl (ab.seq ?_)
 obtain ⟨x_20,e40,h⟩:=aP h
 obtain ⟨⟨x_21,x_22⟩,e41,h⟩:=aP h
 refine ab.kn mixed [false,false,false,false,false,false,true,true,false] [.b (.agg (aA x_20)),.b (.agg (ao x_1)),.dY [.agg (aA x_21),.one (.i x_22)],.dY [.agg (aA x_21),.one (.i x_22)],.b (.agg (aA x_21)),I x_22,Pt 112 0,B true,I x_22] [⟨[false,false,false,false,false,false,false,false,false],[(1,Pt 101 0),(2,Pt 102 0),(3,Pt 103 0),(4,B (((x_4 && (!x_5)) && (!x_6)) && (decide (x_7 = x_8)))),(5,Pt 104 0),(13,B (x_17 && (decide (x_16 = 0)))),(14,B (x_18 && x_19))],[(101,.box 25 (ao x_1)),(102,.box 25 (ao x_2)),(103,.box 25 (ao x_3)),(104,.box 25 (ao x_9))],[true,true,true,true,true,true,true,true,true],[],[7,8]⟩,⟨[false,false,false,false,false,false,true,false,false],[(1,Pt 101 0),(2,Pt 102 0),(3,Pt 103 0),(4,B (((x_4 && (!x_5)) && (!x_6)) && (decide (x_7 = x_8)))),(5,Pt 104 0),(13,B (x_17 && (decide (x_16 = 0)))),(14,B (x_18 && x_19))],[(101,.box 25 (ao x_1)),(102,.box 25 (ao x_2)),(103,.box 25 (ao x_3)),(104,.box 25 (ao x_9)),(112,.box 49 [.tr ae (.leaf),.cF 0,.cF 0,.cF 0,.tr ae (.leaf),.cF 0,.cF 0,.cF 0])],[true,true,true,true,true,true,true,true,true],[6],[8]⟩,⟨[false,false,false,false,false,false,true,true,false],[(1,Pt 101 0),(2,Pt 102 0),(3,Pt 103 0),(4,B (((x_4 && (!x_5)) && (!x_6)) && (decide (x_7 = x_8)))),(5,Pt 104 0),(13,B (x_17 && (decide (x_16 = 0)))),(14,B (x_18 && x_19))],[(101,.box 25 (ao x_1)),(102,.box 25 (ao x_2)),(103,.box 25 (ao x_3)),(104,.box 25 (ao x_9)),(112,.box 49 (aA x_21))],[true,true,true,true,true,true,true,true,true],[0,1,2,3,4,6,7],[]⟩] rfl (⟨by kernel_rfl,⟨⟨.b (.agg (aA x_20)),fun _=>rfl,fun _=>.p (by exact aj (gY e40) ru rfl rfl)⟩,⟨.b (.agg (ao x_1)),fun _=>rfl,fun _=>.p (by exact cy aE rfl rfl rfl rfl)⟩,⟨.dY [.agg (aA x_21),.one (.i x_22)],fun _=>rfl,fun _=>.p (by exact aj (cz e41) mb rfl rfl)⟩,⟨.dY [.agg (aA x_21),.one (.i x_22)],fun _=>rfl,fun _=>.p (by exact aJ rfl)⟩,⟨.b (.agg (aA x_21)),fun _=>rfl,fun _=>.p (by exact ak rfl rfl)⟩,⟨I x_22,fun _=>rfl,fun _=>.p (by exact ak rfl rfl)⟩,⟨_,[112],Pt 112 0,rfl,fun _=>rfl,rfl,rfl,fun _=>.qX [101,102,103,104,112] (by exact .p (by exact aW (k:=112) dn rfl)) (by exact rfl)⟩,trivial,trivial,trivial⟩,⟨by kernel_rfl,⟨⟨.b (.agg (aA x_20)),fun _=>rfl,fun _=>.p (by exact aj (gY e40) ru rfl rfl)⟩,⟨.b (.agg (ao x_1)),fun _=>rfl,fun _=>.p (by exact cy aE rfl rfl rfl rfl)⟩,⟨.dY [.agg (aA x_21),.one (.i x_22)],fun _=>rfl,fun _=>.p (by exact aj (cz e41) mb rfl rfl)⟩,⟨.dY [.agg (aA x_21),.one (.i x_22)],fun _=>rfl,fun _=>.p (by exact aJ rfl)⟩,⟨.b (.agg (aA x_21)),fun _=>rfl,fun _=>.p (by exact ak rfl rfl)⟩,⟨I x_22,fun _=>rfl,fun _=>.p (by exact ak rfl rfl)⟩,trivial,⟨_,[],.b (.one .any),rfl,(fun e=>by simp at e),rfl,rfl,fun _=>.qX [101,102,103,104,112] (by exact .p (by exact az aH rfl rfl rfl rfl (Nat.le_of_ble_eq_true rfl) rfl)) (by exact rfl)⟩,trivial,trivial⟩,⟨by kernel_rfl,⟨trivial,trivial,trivial,trivial,trivial,⟨I x_22,fun _=>rfl,fun _=>.p (by exact ak rfl rfl)⟩,trivial,trivial,⟨I x_22,fun _=>rfl,fun _=>.p (by exact bX rfl)⟩,trivial⟩,trivial⟩⟩⟩) rfl rfl rfl [1,2,3,4,5,13,14,15,16] [101,102,103,104,112] (s':=⟨[(1,_),(2,_),(3,_),(4,_),(5,_),(13,_),(14,_),(15,Pt 112 0),(16,I x_22)],[(101,_),(102,_),(103,_),(104,_),(112,.box 49 (aA x_21))]⟩) rfl ?_
 refine ab.seq (ab.aa ?_)
 refine Oc (lp aH) (Oc (lp aE) ?_)
 obtain ⟨⟨x_23,x_24⟩,e42,h⟩:=aP h
 refine Oc (aj (cz e42) mb rfl rfl) (Oc om (Oc (ak rfl rfl) ?_))
 refine af.ag ⟨[(1,_),(3,_),(4,_),(5,_),(13,_),(14,_),(15,_),(16,_),(114,.dY [.agg (aA x_23),.one (.i x_24)]),(118,.b (.agg (aA x_23)))],[(101,_),(103,_),(104,_),(112,_)]⟩ rfl (Oc (ak rfl rfl) (Oc (az aH rfl rfl rfl rfl (Nat.le_of_ble_eq_true rfl) rfl) (Oc oa ?_)))
 refine af.ai ⟨[(1,_),(3,_),(4,_),(5,_),(13,_),(14,_),(15,_),(16,_),(17,I x_24)],[(101,_),(103,_),(104,_),(112,.box 49 (aA x_23))]⟩ rfl (ab.seq (ab.aa ?_))
 refine Oc (lp aH) (Oc (lp aE) ?_)
 obtain ⟨⟨x_25,x_26⟩,e43,h⟩:=aP h
 refine Oc (cX (gv 113 e43) tU rfl trivial rfl rfl) (Oc om (Oc (ak rfl rfl) ?_))
 refine af.ag ⟨[(1,_),(3,_),(4,_),(5,_),(13,_),(14,_),(15,_),(16,_),(17,_),(120,.dY [.row 113,.one (.i x_26)]),(124,.b (.row 113))],[(101,_),(103,_),(104,_),(112,_),(113,.row 3 1 (x_25.map eI))]⟩ rfl (Oc (ak rfl rfl) (Oc oa (Oc oa ?_)))
 refine af.ai ⟨[(1,_),(3,_),(4,_),(5,_),(13,_),(14,_),(15,_),(16,_),(17,_),(18,.b (.row 113)),(19,I x_26)],[(101,_),(103,_),(104,_),(112,_),(113,_)]⟩ rfl (ab.seq (ab.aa ?_))
 refine Oc (lp aH) (Oc (lp aE) ?_)
 obtain ⟨⟨x_27,x_28⟩,e44,h⟩:=aP h
 refine Oc (cX (gv 114 e44) tU rfl trivial rfl rfl) (Oc om (Oc (ak rfl rfl) ?_))
 refine af.ag ⟨[(1,_),(3,_),(4,_),(5,_),(13,_),(14,_),(15,_),(16,_),(17,_),(18,_),(19,_),(126,.dY [.row 114,.one (.i x_28)]),(130,.b (.row 114))],[(101,_),(103,_),(104,_),(112,_),(113,_),(114,.row 3 1 (x_27.map eI))]⟩ rfl (Oc (ak rfl rfl) (Oc oa (Oc oa ?_)))
 refine af.ai ⟨[(1,_),(3,_),(4,_),(5,_),(13,_),(14,_),(15,_),(16,_),(17,_),(18,_),(19,_),(20,.b (.row 114)),(21,I x_28)],[(101,_),(103,_),(104,_),(112,_),(113,_),(114,_)]⟩ rfl (ab.seq (ab.aa ?_))
 refine Oc (lp aH) (Oc (lp aE) ?_)
 obtain ⟨⟨x_29,x_30,x_31,x_32⟩,e45,h⟩:=aP h
 refine Oc (aj (eJ e45) rq rfl rfl) (Oc om (Oc (ak rfl rfl) ?_))
 refine af.ag ⟨[(1,_),(4,_),(5,_),(13,_),(14,_),(15,_),(16,_),(17,_),(18,_),(19,_),(20,_),(21,_),(132,.dY [.agg (aA x_29),.one (.sl 1 (x_30.map eI)),.one (.sl 1 (x_31.map eI)),.one (.i x_32)]),(136,.b (.agg (aA x_29)))],[(101,_),(104,_),(112,_),(113,_),(114,_)]⟩ rfl (Oc (ak rfl rfl) (Oc (ak rfl rfl) (Oc (ak rfl rfl) (Oc (aW (k:=115) dn rfl) (Oc (az aH rfl rfl rfl rfl (Nat.le_of_ble_eq_true rfl) rfl) (Oc oa ?_))))))
 refine Oc oa (Oc oa ?_)
 refine af.ai ⟨[(1,_),(4,_),(5,_),(13,_),(14,_),(15,_),(16,_),(17,_),(18,_),(19,_),(20,_),(21,_),(22,Pt 115 0),(23,.b (.one (.sl 1 (x_30.map eI)))),(24,.b (.one (.sl 1 (x_31.map eI)))),(25,I x_32)],[(101,_),(104,_),(112,_),(113,_),(114,_),(115,.box 49 (aA x_29))]⟩ rfl (ab.seq (ab.aa ?_))
 refine Oc (lp aH) (Oc (lp aE) ?_)
 obtain ⟨⟨x_33,x_34⟩,e46,h⟩:=aP h
 refine Oc (aj (cz e46) mb rfl rfl) (Oc om (Oc (ak rfl rfl) ?_))
 refine af.ag ⟨[(4,_),(5,_),(13,_),(14,_),(15,_),(16,_),(17,_),(18,_),(19,_),(20,_),(21,_),(22,_),(23,_),(24,_),(25,_),(140,.dY [.agg (aA x_33),.one (.i x_34)]),(144,.b (.agg (aA x_33)))],[(104,_),(112,_),(113,_),(114,_),(115,_)]⟩ rfl (Oc (ak rfl rfl) (Oc (aW (k:=116) dn rfl) (Oc (az aH rfl rfl rfl rfl (Nat.le_of_ble_eq_true rfl) rfl) (Oc oa ?_))))
 refine af.ai ⟨[(4,_),(5,_),(13,_),(14,_),(15,_),(16,_),(17,_),(18,_),(19,_),(20,_),(21,_),(22,_),(23,_),(24,_),(25,_),(27,I x_34)],[(104,_),(112,_),(113,_),(114,_),(115,_)]⟩ rfl (ab.seq (ab.aa ?_))
 refine Oc (lp aH) ?_
 obtain ⟨⟨x_35,x_36⟩,e47,h⟩:=aP h
 refine Oc (aj (dT e47) rm rfl rfl) (Oc om (Oc (ak rfl rfl) (Oc (ak rfl rfl) ?_)))
 refine af.ag ⟨[(4,_),(5,_),(13,_),(14,_),(15,_),(16,_),(17,_),(18,_),(19,_),(20,_),(21,_),(22,_),(23,_),(24,_),(25,_),(27,_),(149,.b (.agg (aA x_35))),(150,I x_36)],[(104,_),(112,_),(113,_),(114,_),(115,_)]⟩ rfl (Oc (aW (k:=117) dn rfl) (Oc (az aH rfl rfl rfl rfl (Nat.le_of_ble_eq_true rfl) rfl) (Oc oa ?_)))
 refine af.ai ⟨[(4,_),(5,_),(13,_),(14,_),(15,_),(16,_),(17,_),(18,_),(19,_),(20,_),(21,_),(22,_),(23,_),(24,_),(25,_),(27,_),(29,I x_36)],[(104,_),(112,_),(113,_),(114,_),(115,_)]⟩ rfl (ab.seq (ab.aa ?_))
 refine Oc om (Oc (cR rfl rfl) (Oc om ?_))
 refine ew (decide (x_22 = 0)) [] (fun g48=>trivial) (fun g48=>om) (ew (decide (x_22 = 0)) [154] (fun g49=>by exact ⟨g49,trivial⟩) (fun g49=>cR rfl rfl) (Oc (aI (fun e=>e) rfl rfl rfl rfl) (Oc om ?_)))
 refine af.ag ⟨[(4,_),(5,_),(13,_),(14,_),(15,_),(18,_),(19,_),(20,_),(21,_),(22,_),(23,_),(24,_),(25,_),(27,_),(29,_),(157,B ((decide (x_22 = 0)) && (decide (x_24 = 0))))],[(104,_),(112,_),(113,_),(114,_),(115,_)]⟩ rfl (ew ((decide (x_22 = 0)) && (decide (x_24 = 0))) [] (fun g50=>trivial) (fun g50=>om) (ew ((decide (x_22 = 0)) && (decide (x_24 = 0))) [158] (fun g51=>by exact ⟨g51,trivial⟩) (fun g51=>cR rfl rfl) (af.mO h rfl (aI (fun e=>e) rfl rfl rfl rfl) (fun x_37 h=>?_))))
 refine Oc om (ew x_37 [] (fun g52=>by exact trivial) (fun g52=>om) (ew x_37 [162] (fun g53=>by exact ⟨g53,trivial⟩) (fun g53=>cR rfl rfl) (Oc (aI (fun e=>e) rfl rfl rfl rfl) (Oc om ?_))))
 refine af.ag ⟨[(4,_),(5,_),(13,_),(14,_),(15,_),(18,_),(20,_),(22,_),(23,_),(24,_),(25,_),(27,_),(29,_),(165,B (x_37 && (decide (x_28 = 0))))],[(104,_),(112,_),(113,_),(114,_),(115,_)]⟩ rfl (ew (x_37 && (decide (x_28 = 0))) [] (fun g54=>trivial) (fun g54=>om) (ew (x_37 && (decide (x_28 = 0))) [166] (fun g55=>by exact ⟨g55,trivial⟩) (fun g55=>cR rfl rfl) (Oc (aI (fun e=>e) rfl rfl rfl rfl) (Oc om ?_))))
 refine ew ((x_37 && (decide (x_28 = 0))) && (decide (x_32 = 0))) [] (fun g56=>trivial) (fun g56=>om) (ew ((x_37 && (decide (x_28 = 0))) && (decide (x_32 = 0))) [] (fun g57=>by exact trivial) (fun g57=>dv (es:=[3,7].map eI) bK rfl rfl (cG fun _=>rfl) rfl (by decide) (by decide)) (af.ag ⟨[(4,_),(5,_),(13,_),(14,_),(15,_),(20,_),(22,_),(23,_),(24,_),(27,_),(29,_),(169,B ((x_37 && (decide (x_28 = 0))) && (decide (x_32 = 0)))),(170,.opt ((x_37 && (decide (x_28 = 0))) && (decide (x_32 = 0))) (.row 113)),(171,.opt ((x_37 && (decide (x_28 = 0))) && (decide (x_32 = 0))) (.one (.sl 1 ([3,7].map eI))))],[(104,_),(112,_),(113,_),(114,_),(115,_)]⟩ rfl ?_))
 obtain ⟨x_38,e59,h⟩:=aP h
 refine ew ((x_37 && (decide (x_28 = 0))) && (decide (x_32 = 0))) [170,171] (fun g58=>⟨g58,g58,trivial⟩) (fun g58=>fY (fj (gc e59 g58)) tT rfl CP.gJ) (af.mO h rfl (aI (fun e=>e) rfl rfl rfl rfl) (fun x_39 h=>?_))
 refine Oc om (ew x_39 [] (fun g60=>by exact trivial) (fun g60=>om) (ew x_39 [175] (fun g61=>by exact ⟨g61,trivial⟩) (fun g61=>dM dU rfl rfl (List.length_map _)) (ew x_39 [176] (fun g62=>by exact ⟨g62,trivial⟩) (fun g62=>cR rfl rfl) (Oc (aI (fun e=>e) rfl rfl rfl rfl) (af.ag ⟨[(4,_),(5,_),(13,_),(14,_),(15,_),(22,_),(23,_),(24,_),(27,_),(29,_),(178,B (x_39 && (decide ((x_27.length:Int) = 0))))],[(104,_),(112,_),(115,_)]⟩ rfl ?_)))))
 refine Oc om (ew (x_39 && (decide ((x_27.length:Int) = 0))) [] (fun g63=>by exact trivial) (fun g63=>om) (ew (x_39 && (decide ((x_27.length:Int) = 0))) [180] (fun g64=>by exact ⟨g64,trivial⟩) (fun g64=>a7 dU rfl (List.length_map _)) (ew (x_39 && (decide ((x_27.length:Int) = 0))) [181] (fun g65=>by exact ⟨g65,trivial⟩) (fun g65=>cR rfl rfl) (af.mO h rfl (aI (fun e=>e) rfl rfl rfl rfl) (fun x_40 h=>?_)))))
 refine Oc om (ew x_40 [] (fun g66=>by exact trivial) (fun g66=>om) (af.ag ⟨[(4,_),(5,_),(13,_),(14,_),(15,_),(22,_),(27,_),(29,_),(184,B x_40),(185,.opt x_40 (.one (.sl 1 (x_31.map eI))))],[(104,_),(112,_),(115,_)]⟩ rfl (ew x_40 [] (fun g67=>by exact trivial) (fun g67=>dv (es:=[7].map eI) bK rfl rfl (cG fun _=>rfl) rfl (by decide) (by decide)) ?_)))
 obtain ⟨x_41,e69,h⟩:=aP h
 refine ew x_40 [185,186] (fun g68=>⟨g68,g68,trivial⟩) (fun g68=>aj (fj (gc e69 g68)) tT rfl rfl) (Oc (aI (fun e=>e) rfl rfl rfl rfl) (Oc oa ?_))
 refine af.ai ⟨[(4,_),(5,_),(13,_),(14,_),(15,_),(22,_),(27,_),(29,_),(30,B (x_40 && x_41))],[(104,_),(112,_),(115,_)]⟩ rfl (ab.seq ?_)
 obtain ⟨x_42,e70,h⟩:=aP h
 obtain ⟨x_43,e71,h⟩:=aP h
 obtain ⟨x_44,e72,h⟩:=aP h
 obtain ⟨x_45,e73,h⟩:=aP h
 refine ab.kn mixed [false,false,false,false,false,false,false,false,false,false,false,false,false,false,false,false,false,true,false,false,false,false,false,true,false,false,false,false,false,false,false,false,false,false,false,false,false] [B (((x_4 && (!x_5)) && (!x_6)) && (decide (x_7 = x_8))),B (((x_4 && (!x_5)) && (!x_6)) && (decide (x_7 = x_8))),.opt (((x_4 && (!x_5)) && (!x_6)) && (decide (x_7 = x_8))) (.one (.bool (x_17 && (decide (x_16 = 0))))),B ((((x_4 && (!x_5)) && (!x_6)) && (decide (x_7 = x_8))) && (x_17 && (decide (x_16 = 0)))),B ((((x_4 && (!x_5)) && (!x_6)) && (decide (x_7 = x_8))) && (x_17 && (decide (x_16 = 0)))),.opt ((((x_4 && (!x_5)) && (!x_6)) && (decide (x_7 = x_8))) && (x_17 && (decide (x_16 = 0)))) (.agg (ao x_9)),.opt ((((x_4 && (!x_5)) && (!x_6)) && (decide (x_7 = x_8))) && (x_17 && (decide (x_16 = 0)))) (.agg (ao x_42)),.opt ((((x_4 && (!x_5)) && (!x_6)) && (decide (x_7 = x_8))) && (x_17 && (decide (x_16 = 0)))) (.one (.bool (decide (x_9 = x_42)))),B (((((x_4 && (!x_5)) && (!x_6)) && (decide (x_7 = x_8))) && (x_17 && (decide (x_16 = 0)))) && (decide (x_9 = x_42))),B (((((x_4 && (!x_5)) && (!x_6)) && (decide (x_7 = x_8))) && (x_17 && (decide (x_16 = 0)))) && (decide (x_9 = x_42))),.opt (((((x_4 && (!x_5)) && (!x_6)) && (decide (x_7 = x_8))) && (x_17 && (decide (x_16 = 0)))) && (decide (x_9 = x_42))) (.one (.bool (x_18 && x_19))),B ((((((x_4 && (!x_5)) && (!x_6)) && (decide (x_7 = x_8))) && (x_17 && (decide (x_16 = 0)))) && (decide (x_9 = x_42))) && (x_18 && x_19)),B ((((((x_4 && (!x_5)) && (!x_6)) && (decide (x_7 = x_8))) && (x_17 && (decide (x_16 = 0)))) && (decide (x_9 = x_42))) && (x_18 && x_19)),.opt ((((((x_4 && (!x_5)) && (!x_6)) && (decide (x_7 = x_8))) && (x_17 && (decide (x_16 = 0)))) && (decide (x_9 = x_42))) && (x_18 && x_19)) (.one (.bool (x_40 && x_41))),B (((((((x_4 && (!x_5)) && (!x_6)) && (decide (x_7 = x_8))) && (x_17 && (decide (x_16 = 0)))) && (decide (x_9 = x_42))) && (x_18 && x_19)) && (x_40 && x_41)),B (((((((x_4 && (!x_5)) && (!x_6)) && (decide (x_7 = x_8))) && (x_17 && (decide (x_16 = 0)))) && (decide (x_9 = x_42))) && (x_18 && x_19)) && (x_40 && x_41)),.opt (((((((x_4 && (!x_5)) && (!x_6)) && (decide (x_7 = x_8))) && (x_17 && (decide (x_16 = 0)))) && (decide (x_9 = x_42))) && (x_18 && x_19)) && (x_40 && x_41)) (.agg (aA x_29)),.opt (((((((x_4 && (!x_5)) && (!x_6)) && (decide (x_7 = x_8))) && (x_17 && (decide (x_16 = 0)))) && (decide (x_9 = x_42))) && (x_18 && x_19)) && (x_40 && x_41)) (.one (.sl 2 (x_43.map (cx .i64)))),.opt (((((((x_4 && (!x_5)) && (!x_6)) && (decide (x_7 = x_8))) && (x_17 && (decide (x_16 = 0)))) && (decide (x_9 = x_42))) && (x_18 && x_19)) && (x_40 && x_41)) (.one (.i (x_43.length:Int))),.opt (((((((x_4 && (!x_5)) && (!x_6)) && (decide (x_7 = x_8))) && (x_17 && (decide (x_16 = 0)))) && (decide (x_9 = x_42))) && (x_18 && x_19)) && (x_40 && x_41)) (.one (.bool (decide ((x_43.length:Int) = 0)))),B ((((((((x_4 && (!x_5)) && (!x_6)) && (decide (x_7 = x_8))) && (x_17 && (decide (x_16 = 0)))) && (decide (x_9 = x_42))) && (x_18 && x_19)) && (x_40 && x_41)) && (decide ((x_43.length:Int) = 0))),B ((((((((x_4 && (!x_5)) && (!x_6)) && (decide (x_7 = x_8))) && (x_17 && (decide (x_16 = 0)))) && (decide (x_9 = x_42))) && (x_18 && x_19)) && (x_40 && x_41)) && (decide ((x_43.length:Int) = 0))),.opt ((((((((x_4 && (!x_5)) && (!x_6)) && (decide (x_7 = x_8))) && (x_17 && (decide (x_16 = 0)))) && (decide (x_9 = x_42))) && (x_18 && x_19)) && (x_40 && x_41)) && (decide ((x_43.length:Int) = 0))) (.agg (aA x_23)),.opt ((((((((x_4 && (!x_5)) && (!x_6)) && (decide (x_7 = x_8))) && (x_17 && (decide (x_16 = 0)))) && (decide (x_9 = x_42))) && (x_18 && x_19)) && (x_40 && x_41)) && (decide ((x_43.length:Int) = 0))) (.one (.sl 2 (x_44.map (cx .i64)))),.opt ((((((((x_4 && (!x_5)) && (!x_6)) && (decide (x_7 = x_8))) && (x_17 && (decide (x_16 = 0)))) && (decide (x_9 = x_42))) && (x_18 && x_19)) && (x_40 && x_41)) && (decide ((x_43.length:Int) = 0))) (.agg [.i 3,.i 7]),.opt ((((((((x_4 && (!x_5)) && (!x_6)) && (decide (x_7 = x_8))) && (x_17 && (decide (x_16 = 0)))) && (decide (x_9 = x_42))) && (x_18 && x_19)) && (x_40 && x_41)) && (decide ((x_43.length:Int) = 0))) (.one (.sl 2 ([(⟨3,7⟩:A2)].map (cx .i64)))),.opt ((((((((x_4 && (!x_5)) && (!x_6)) && (decide (x_7 = x_8))) && (x_17 && (decide (x_16 = 0)))) && (decide (x_9 = x_42))) && (x_18 && x_19)) && (x_40 && x_41)) && (decide ((x_43.length:Int) = 0))) (.one (.bool x_45)),B (((((((((x_4 && (!x_5)) && (!x_6)) && (decide (x_7 = x_8))) && (x_17 && (decide (x_16 = 0)))) && (decide (x_9 = x_42))) && (x_18 && x_19)) && (x_40 && x_41)) && (decide ((x_43.length:Int) = 0))) && x_45),B (((((((((x_4 && (!x_5)) && (!x_6)) && (decide (x_7 = x_8))) && (x_17 && (decide (x_16 = 0)))) && (decide (x_9 = x_42))) && (x_18 && x_19)) && (x_40 && x_41)) && (decide ((x_43.length:Int) = 0))) && x_45),.opt (((((((((x_4 && (!x_5)) && (!x_6)) && (decide (x_7 = x_8))) && (x_17 && (decide (x_16 = 0)))) && (decide (x_9 = x_42))) && (x_18 && x_19)) && (x_40 && x_41)) && (decide ((x_43.length:Int) = 0))) && x_45) (.one (.i x_34)),.opt (((((((((x_4 && (!x_5)) && (!x_6)) && (decide (x_7 = x_8))) && (x_17 && (decide (x_16 = 0)))) && (decide (x_9 = x_42))) && (x_18 && x_19)) && (x_40 && x_41)) && (decide ((x_43.length:Int) = 0))) && x_45) (.one (.bool (decide (x_34 = 6)))),B ((((((((((x_4 && (!x_5)) && (!x_6)) && (decide (x_7 = x_8))) && (x_17 && (decide (x_16 = 0)))) && (decide (x_9 = x_42))) && (x_18 && x_19)) && (x_40 && x_41)) && (decide ((x_43.length:Int) = 0))) && x_45) && (decide (x_34 = 6))),B ((((((((((x_4 && (!x_5)) && (!x_6)) && (decide (x_7 = x_8))) && (x_17 && (decide (x_16 = 0)))) && (decide (x_9 = x_42))) && (x_18 && x_19)) && (x_40 && x_41)) && (decide ((x_43.length:Int) = 0))) && x_45) && (decide (x_34 = 6))),.opt ((((((((((x_4 && (!x_5)) && (!x_6)) && (decide (x_7 = x_8))) && (x_17 && (decide (x_16 = 0)))) && (decide (x_9 = x_42))) && (x_18 && x_19)) && (x_40 && x_41)) && (decide ((x_43.length:Int) = 0))) && x_45) && (decide (x_34 = 6))) (.one (.i x_36)),.opt ((((((((((x_4 && (!x_5)) && (!x_6)) && (decide (x_7 = x_8))) && (x_17 && (decide (x_16 = 0)))) && (decide (x_9 = x_42))) && (x_18 && x_19)) && (x_40 && x_41)) && (decide ((x_43.length:Int) = 0))) && x_45) && (decide (x_34 = 6))) (.one (.bool (decide (x_36 = 5)))),B (((((((((((x_4 && (!x_5)) && (!x_6)) && (decide (x_7 = x_8))) && (x_17 && (decide (x_16 = 0)))) && (decide (x_9 = x_42))) && (x_18 && x_19)) && (x_40 && x_41)) && (decide ((x_43.length:Int) = 0))) && x_45) && (decide (x_34 = 6))) && (decide (x_36 = 5))),B (((((((((((x_4 && (!x_5)) && (!x_6)) && (decide (x_7 = x_8))) && (x_17 && (decide (x_16 = 0)))) && (decide (x_9 = x_42))) && (x_18 && x_19)) && (x_40 && x_41)) && (decide ((x_43.length:Int) = 0))) && x_45) && (decide (x_34 = 6))) && (decide (x_36 = 5)))] [⟨[false,false,false,false,false,false,false,false,false,false,false,false,false,false,false,false,false,false,false,false,false,false,false,false,false,false,false,false,false,false,false,false,false,false,false,false,false],[(4,B (((x_4 && (!x_5)) && (!x_6)) && (decide (x_7 = x_8)))),(5,Pt 104 0),(13,B (x_17 && (decide (x_16 = 0)))),(14,B (x_18 && x_19)),(15,Pt 112 0),(22,Pt 115 0),(27,I x_34),(29,I x_36),(30,B (x_40 && x_41))],[(104,.box 25 (ao x_9)),(112,.box 49 (aA x_23)),(115,.box 49 (aA x_29))],[true,true,true,true,true,true,true,true,true,true,true,true,true,true,true,true,true,true,true,true,true,true,true,true,true,true,true,true,true,true,true,true,true,true,true,true,true],[],[18,19,20,21,22,23,24,25,26,27,28,29,30,31,32,33,34,35,36]⟩,⟨[false,false,false,false,false,false,false,false,false,false,false,false,false,false,false,false,false,true,false,false,false,false,false,false,false,false,false,false,false,false,false,false,false,false,false,false,false],[(4,B (((x_4 && (!x_5)) && (!x_6)) && (decide (x_7 = x_8)))),(5,Pt 104 0),(13,B (x_17 && (decide (x_16 = 0)))),(14,B (x_18 && x_19)),(15,Pt 112 0),(22,Pt 115 0),(27,I x_34),(29,I x_36),(30,B (x_40 && x_41))],[(104,.box 25 (ao x_9)),(112,.box 49 (aA x_23)),(115,.box 49 (aA x_29))],[true,true,true,true,true,true,true,true,true,true,true,true,true,true,true,true,true,true,true,true,true,true,true,true,true,true,true,true,true,true,true,true,true,true,true,true,true],[0,1,2,3,4,5,6,7,8,9,10,11,12,13,14,15,16,17],[26,27,28,29,30,31,32,33,34,35,36]⟩,⟨[false,false,false,false,false,false,false,false,false,false,false,false,false,false,false,false,false,true,false,false,false,false,false,true,false,false,false,false,false,false,false,false,false,false,false,false,false],[(4,B (((x_4 && (!x_5)) && (!x_6)) && (decide (x_7 = x_8)))),(5,Pt 104 0),(13,B (x_17 && (decide (x_16 = 0)))),(14,B (x_18 && x_19)),(15,Pt 112 0),(22,Pt 115 0),(27,I x_34),(29,I x_36),(30,B (x_40 && x_41))],[(104,.box 25 (ao x_9)),(112,.box 49 (aA x_23)),(115,.box 49 (aA x_29))],[true,true,true,true,true,true,true,true,true,true,true,true,true,true,true,true,true,true,true,true,true,true,true,true,true,true,true,true,true,true,true,true,true,true,true,true,true],[0,1,2,3,4,5,6,7,8,9,10,11,12,13,14,15,16,17,18,19,20,21,22,23],[]⟩] rfl (⟨by kernel_rfl,⟨⟨B (((x_4 && (!x_5)) && (!x_6)) && (decide (x_7 = x_8))),fun _=>rfl,fun _=>.p (by exact aJ rfl)⟩,⟨B (((x_4 && (!x_5)) && (!x_6)) && (decide (x_7 = x_8))),fun _=>rfl,fun _=>.p (by exact aJ rfl)⟩,⟨.opt (((x_4 && (!x_5)) && (!x_6)) && (decide (x_7 = x_8))) (.one (.bool (x_17 && (decide (x_16 = 0))))),fun _=>rfl,fun _=>by exact .guard (((x_4 && (!x_5)) && (!x_6)) && (decide (x_7 = x_8))) 1 [] (.plain rfl) (hU _) rfl rfl (fun gg2=>trivial) (fun gg2=>om)⟩,⟨B ((((x_4 && (!x_5)) && (!x_6)) && (decide (x_7 = x_8))) && (x_17 && (decide (x_16 = 0)))),fun _=>rfl,fun _=>.p (by exact aI (fun e=>e) rfl rfl rfl rfl)⟩,⟨B ((((x_4 && (!x_5)) && (!x_6)) && (decide (x_7 = x_8))) && (x_17 && (decide (x_16 = 0)))),fun _=>rfl,fun _=>.p (by exact aJ rfl)⟩,⟨.opt ((((x_4 && (!x_5)) && (!x_6)) && (decide (x_7 = x_8))) && (x_17 && (decide (x_16 = 0)))) (.agg (ao x_9)),fun _=>rfl,fun _=>by exact .guard ((((x_4 && (!x_5)) && (!x_6)) && (decide (x_7 = x_8))) && (x_17 && (decide (x_16 = 0)))) 1 [] (.plain rfl) (hU _) rfl rfl (fun gg5=>trivial) (fun gg5=>lp aE)⟩,⟨.opt ((((x_4 && (!x_5)) && (!x_6)) && (decide (x_7 = x_8))) && (x_17 && (decide (x_16 = 0)))) (.agg (ao x_42)),fun _=>rfl,fun _=>by exact .guard ((((x_4 && (!x_5)) && (!x_6)) && (decide (x_7 = x_8))) && (x_17 && (decide (x_16 = 0)))) 2 [] (.plain rfl) (hU _) rfl rfl (fun gg6=>trivial) (fun gg6=>aj (cm (gc e70 gg6)) nI rfl rfl)⟩,⟨.opt ((((x_4 && (!x_5)) && (!x_6)) && (decide (x_7 = x_8))) && (x_17 && (decide (x_16 = 0)))) (.one (.bool (decide (x_9 = x_42)))),fun _=>rfl,fun _=>by exact .guard ((((x_4 && (!x_5)) && (!x_6)) && (decide (x_7 = x_8))) && (x_17 && (decide (x_16 = 0)))) 3 [194,195] (.plain rfl) (hU _) rfl rfl (fun gg7=>⟨gg7,gg7,trivial⟩) (fun gg7=>jg (sC x_9 x_42) rfl rfl)⟩,⟨B (((((x_4 && (!x_5)) && (!x_6)) && (decide (x_7 = x_8))) && (x_17 && (decide (x_16 = 0)))) && (decide (x_9 = x_42))),fun _=>rfl,fun _=>.p (by exact aI (fun e=>e) rfl rfl rfl rfl)⟩,⟨B (((((x_4 && (!x_5)) && (!x_6)) && (decide (x_7 = x_8))) && (x_17 && (decide (x_16 = 0)))) && (decide (x_9 = x_42))),fun _=>rfl,fun _=>.p (by exact aJ rfl)⟩,⟨.opt (((((x_4 && (!x_5)) && (!x_6)) && (decide (x_7 = x_8))) && (x_17 && (decide (x_16 = 0)))) && (decide (x_9 = x_42))) (.one (.bool (x_18 && x_19))),fun _=>rfl,fun _=>by exact .guard (((((x_4 && (!x_5)) && (!x_6)) && (decide (x_7 = x_8))) && (x_17 && (decide (x_16 = 0)))) && (decide (x_9 = x_42))) 1 [] (.plain rfl) (hU _) rfl rfl (fun gg10=>trivial) (fun gg10=>om)⟩,⟨B ((((((x_4 && (!x_5)) && (!x_6)) && (decide (x_7 = x_8))) && (x_17 && (decide (x_16 = 0)))) && (decide (x_9 = x_42))) && (x_18 && x_19)),fun _=>rfl,fun _=>.p (by exact aI (fun e=>e) rfl rfl rfl rfl)⟩,⟨B ((((((x_4 && (!x_5)) && (!x_6)) && (decide (x_7 = x_8))) && (x_17 && (decide (x_16 = 0)))) && (decide (x_9 = x_42))) && (x_18 && x_19)),fun _=>rfl,fun _=>.p (by exact aJ rfl)⟩,⟨.opt ((((((x_4 && (!x_5)) && (!x_6)) && (decide (x_7 = x_8))) && (x_17 && (decide (x_16 = 0)))) && (decide (x_9 = x_42))) && (x_18 && x_19)) (.one (.bool (x_40 && x_41))),fun _=>rfl,fun _=>by exact .guard ((((((x_4 && (!x_5)) && (!x_6)) && (decide (x_7 = x_8))) && (x_17 && (decide (x_16 = 0)))) && (decide (x_9 = x_42))) && (x_18 && x_19)) 1 [] (.plain rfl) (hU _) rfl rfl (fun gg13=>trivial) (fun gg13=>om)⟩,⟨B (((((((x_4 && (!x_5)) && (!x_6)) && (decide (x_7 = x_8))) && (x_17 && (decide (x_16 = 0)))) && (decide (x_9 = x_42))) && (x_18 && x_19)) && (x_40 && x_41)),fun _=>rfl,fun _=>.p (by exact aI (fun e=>e) rfl rfl rfl rfl)⟩,⟨B (((((((x_4 && (!x_5)) && (!x_6)) && (decide (x_7 = x_8))) && (x_17 && (decide (x_16 = 0)))) && (decide (x_9 = x_42))) && (x_18 && x_19)) && (x_40 && x_41)),fun _=>rfl,fun _=>.p (by exact aJ rfl)⟩,⟨.opt (((((((x_4 && (!x_5)) && (!x_6)) && (decide (x_7 = x_8))) && (x_17 && (decide (x_16 = 0)))) && (decide (x_9 = x_42))) && (x_18 && x_19)) && (x_40 && x_41)) (.agg (aA x_29)),fun _=>rfl,fun _=>by exact .guard (((((((x_4 && (!x_5)) && (!x_6)) && (decide (x_7 = x_8))) && (x_17 && (decide (x_16 = 0)))) && (decide (x_9 = x_42))) && (x_18 && x_19)) && (x_40 && x_41)) 1 [] (.plain rfl) (hU _) rfl rfl (fun gg16=>trivial) (fun gg16=>lp aH)⟩,⟨_,[],.opt (((((((x_4 && (!x_5)) && (!x_6)) && (decide (x_7 = x_8))) && (x_17 && (decide (x_16 = 0)))) && (decide (x_9 = x_42))) && (x_18 && x_19)) && (x_40 && x_41)) (.one (.sl 2 (x_43.map (cx .i64)))),rfl,fun _=>rfl,rfl,rfl,fun _=>.qX [104,112,115] (by exact by exact .guard (((((((x_4 && (!x_5)) && (!x_6)) && (decide (x_7 = x_8))) && (x_17 && (decide (x_16 = 0)))) && (decide (x_9 = x_42))) && (x_18 && x_19)) && (x_40 && x_41)) 3 [205] (.plain rfl) (hU _) rfl rfl (fun gg17=>⟨gg17,trivial⟩) (fun gg17=>aj (((dF (gc e71 gg17)).sw 51 0).r7) pk rfl rfl)) (by exact rfl)⟩,trivial,trivial,trivial,trivial,trivial,trivial,trivial,trivial,trivial,trivial,trivial,trivial,trivial,trivial,trivial,trivial,trivial,trivial,trivial,trivial⟩,⟨by kernel_rfl,⟨trivial,trivial,trivial,trivial,trivial,trivial,trivial,trivial,trivial,trivial,trivial,trivial,trivial,trivial,trivial,trivial,trivial,trivial,⟨.opt (((((((x_4 && (!x_5)) && (!x_6)) && (decide (x_7 = x_8))) && (x_17 && (decide (x_16 = 0)))) && (decide (x_9 = x_42))) && (x_18 && x_19)) && (x_40 && x_41)) (.one (.i (x_43.length:Int))),fun _=>rfl,fun _=>by exact .guard (((((((x_4 && (!x_5)) && (!x_6)) && (decide (x_7 = x_8))) && (x_17 && (decide (x_16 = 0)))) && (decide (x_9 = x_42))) && (x_18 && x_19)) && (x_40 && x_41)) 2 [206] (.plain rfl) (hU _) rfl rfl (fun gg18=>⟨gg18,trivial⟩) (fun gg18=>a7 nz rfl (List.length_map _))⟩,⟨.opt (((((((x_4 && (!x_5)) && (!x_6)) && (decide (x_7 = x_8))) && (x_17 && (decide (x_16 = 0)))) && (decide (x_9 = x_42))) && (x_18 && x_19)) && (x_40 && x_41)) (.one (.bool (decide ((x_43.length:Int) = 0)))),fun _=>rfl,fun _=>by exact .guard (((((((x_4 && (!x_5)) && (!x_6)) && (decide (x_7 = x_8))) && (x_17 && (decide (x_16 = 0)))) && (decide (x_9 = x_42))) && (x_18 && x_19)) && (x_40 && x_41)) 2 [207] (.plain rfl) (hU _) rfl rfl (fun gg19=>⟨gg19,trivial⟩) (fun gg19=>cR rfl rfl)⟩,⟨B ((((((((x_4 && (!x_5)) && (!x_6)) && (decide (x_7 = x_8))) && (x_17 && (decide (x_16 = 0)))) && (decide (x_9 = x_42))) && (x_18 && x_19)) && (x_40 && x_41)) && (decide ((x_43.length:Int) = 0))),fun _=>rfl,fun _=>.p (by exact aI (fun e=>e) rfl rfl rfl rfl)⟩,⟨B ((((((((x_4 && (!x_5)) && (!x_6)) && (decide (x_7 = x_8))) && (x_17 && (decide (x_16 = 0)))) && (decide (x_9 = x_42))) && (x_18 && x_19)) && (x_40 && x_41)) && (decide ((x_43.length:Int) = 0))),fun _=>rfl,fun _=>.p (by exact aJ rfl)⟩,⟨.opt ((((((((x_4 && (!x_5)) && (!x_6)) && (decide (x_7 = x_8))) && (x_17 && (decide (x_16 = 0)))) && (decide (x_9 = x_42))) && (x_18 && x_19)) && (x_40 && x_41)) && (decide ((x_43.length:Int) = 0))) (.agg (aA x_23)),fun _=>rfl,fun _=>by exact .guard ((((((((x_4 && (!x_5)) && (!x_6)) && (decide (x_7 = x_8))) && (x_17 && (decide (x_16 = 0)))) && (decide (x_9 = x_42))) && (x_18 && x_19)) && (x_40 && x_41)) && (decide ((x_43.length:Int) = 0))) 1 [] (.plain rfl) (hU _) rfl rfl (fun gg22=>trivial) (fun gg22=>lp aH)⟩,⟨_,[],.opt ((((((((x_4 && (!x_5)) && (!x_6)) && (decide (x_7 = x_8))) && (x_17 && (decide (x_16 = 0)))) && (decide (x_9 = x_42))) && (x_18 && x_19)) && (x_40 && x_41)) && (decide ((x_43.length:Int) = 0))) (.one (.sl 2 (x_44.map (cx .i64)))),rfl,fun _=>rfl,rfl,rfl,fun _=>.qX [104,112,115] (by exact by exact .guard ((((((((x_4 && (!x_5)) && (!x_6)) && (decide (x_7 = x_8))) && (x_17 && (decide (x_16 = 0)))) && (decide (x_9 = x_42))) && (x_18 && x_19)) && (x_40 && x_41)) && (decide ((x_43.length:Int) = 0))) 3 [211] (.plain rfl) (hU _) rfl rfl (fun gg23=>⟨gg23,trivial⟩) (fun gg23=>aj (((dF (gc e72 gg23)).sw 51 0).r7) pk rfl rfl)) (by exact rfl)⟩,⟨.opt ((((((((x_4 && (!x_5)) && (!x_6)) && (decide (x_7 = x_8))) && (x_17 && (decide (x_16 = 0)))) && (decide (x_9 = x_42))) && (x_18 && x_19)) && (x_40 && x_41)) && (decide ((x_43.length:Int) = 0))) (.agg [.i 3,.i 7]),fun _=>rfl,fun _=>by exact .guard ((((((((x_4 && (!x_5)) && (!x_6)) && (decide (x_7 = x_8))) && (x_17 && (decide (x_16 = 0)))) && (decide (x_9 = x_42))) && (x_18 && x_19)) && (x_40 && x_41)) && (decide ((x_43.length:Int) = 0))) 1 [] (.plain rfl) (hU _) rfl rfl (fun gg24=>trivial) (fun gg24=>cP dr rfl rfl)⟩,⟨.opt ((((((((x_4 && (!x_5)) && (!x_6)) && (decide (x_7 = x_8))) && (x_17 && (decide (x_16 = 0)))) && (decide (x_9 = x_42))) && (x_18 && x_19)) && (x_40 && x_41)) && (decide ((x_43.length:Int) = 0))) (.one (.sl 2 ([(⟨3,7⟩:A2)].map (cx .i64)))),fun _=>rfl,fun _=>by exact .guard ((((((((x_4 && (!x_5)) && (!x_6)) && (decide (x_7 = x_8))) && (x_17 && (decide (x_16 = 0)))) && (decide (x_9 = x_42))) && (x_18 && x_19)) && (x_40 && x_41)) && (decide ((x_43.length:Int) = 0))) 2 [213] (.plain rfl) (hU _) rfl rfl (fun gg25=>⟨gg25,trivial⟩) (fun gg25=>dv (es:=[(⟨3,7⟩:A2)].map (cx .i64)) gl rfl rfl (cG fun _=>rfl) rfl (by decide) (by decide))⟩,trivial,trivial,trivial,trivial,trivial,trivial,trivial,trivial,trivial,trivial,trivial,trivial⟩,⟨by kernel_rfl,⟨trivial,trivial,trivial,trivial,trivial,trivial,trivial,trivial,trivial,trivial,trivial,trivial,trivial,trivial,trivial,trivial,trivial,trivial,trivial,trivial,trivial,trivial,trivial,trivial,⟨.opt ((((((((x_4 && (!x_5)) && (!x_6)) && (decide (x_7 = x_8))) && (x_17 && (decide (x_16 = 0)))) && (decide (x_9 = x_42))) && (x_18 && x_19)) && (x_40 && x_41)) && (decide ((x_43.length:Int) = 0))) (.agg [.i 3,.i 7]),fun _=>rfl,fun _=>by exact .guard ((((((((x_4 && (!x_5)) && (!x_6)) && (decide (x_7 = x_8))) && (x_17 && (decide (x_16 = 0)))) && (decide (x_9 = x_42))) && (x_18 && x_19)) && (x_40 && x_41)) && (decide ((x_43.length:Int) = 0))) 1 [] (.plain rfl) (hU _) rfl rfl (fun gg24=>trivial) (fun gg24=>cP dr rfl rfl)⟩,⟨.opt ((((((((x_4 && (!x_5)) && (!x_6)) && (decide (x_7 = x_8))) && (x_17 && (decide (x_16 = 0)))) && (decide (x_9 = x_42))) && (x_18 && x_19)) && (x_40 && x_41)) && (decide ((x_43.length:Int) = 0))) (.one (.sl 2 ([(⟨3,7⟩:A2)].map (cx .i64)))),fun _=>rfl,fun _=>by exact .guard ((((((((x_4 && (!x_5)) && (!x_6)) && (decide (x_7 = x_8))) && (x_17 && (decide (x_16 = 0)))) && (decide (x_9 = x_42))) && (x_18 && x_19)) && (x_40 && x_41)) && (decide ((x_43.length:Int) = 0))) 2 [213] (.plain rfl) (hU _) rfl rfl (fun gg25=>⟨gg25,trivial⟩) (fun gg25=>dv (es:=[(⟨3,7⟩:A2)].map (cx .i64)) gl rfl rfl (cG fun _=>rfl) rfl (by decide) (by decide))⟩,⟨.opt ((((((((x_4 && (!x_5)) && (!x_6)) && (decide (x_7 = x_8))) && (x_17 && (decide (x_16 = 0)))) && (decide (x_9 = x_42))) && (x_18 && x_19)) && (x_40 && x_41)) && (decide ((x_43.length:Int) = 0))) (.one (.bool x_45)),fun _=>rfl,fun _=>by exact .guard ((((((((x_4 && (!x_5)) && (!x_6)) && (decide (x_7 = x_8))) && (x_17 && (decide (x_16 = 0)))) && (decide (x_9 = x_42))) && (x_18 && x_19)) && (x_40 && x_41)) && (decide ((x_43.length:Int) = 0))) 4 [212,214] (.plain rfl) (hU _) rfl rfl (fun gg26=>⟨gg26,gg26,gg26,trivial⟩) (fun gg26=>aj (cI (gc e73 gg26)) ry rfl rfl)⟩,⟨B (((((((((x_4 && (!x_5)) && (!x_6)) && (decide (x_7 = x_8))) && (x_17 && (decide (x_16 = 0)))) && (decide (x_9 = x_42))) && (x_18 && x_19)) && (x_40 && x_41)) && (decide ((x_43.length:Int) = 0))) && x_45),fun _=>rfl,fun _=>.p (by exact aI (fun e=>e) rfl rfl rfl rfl)⟩,⟨B (((((((((x_4 && (!x_5)) && (!x_6)) && (decide (x_7 = x_8))) && (x_17 && (decide (x_16 = 0)))) && (decide (x_9 = x_42))) && (x_18 && x_19)) && (x_40 && x_41)) && (decide ((x_43.length:Int) = 0))) && x_45),fun _=>rfl,fun _=>.p (by exact aJ rfl)⟩,⟨.opt (((((((((x_4 && (!x_5)) && (!x_6)) && (decide (x_7 = x_8))) && (x_17 && (decide (x_16 = 0)))) && (decide (x_9 = x_42))) && (x_18 && x_19)) && (x_40 && x_41)) && (decide ((x_43.length:Int) = 0))) && x_45) (.one (.i x_34)),fun _=>rfl,fun _=>by exact .guard (((((((((x_4 && (!x_5)) && (!x_6)) && (decide (x_7 = x_8))) && (x_17 && (decide (x_16 = 0)))) && (decide (x_9 = x_42))) && (x_18 && x_19)) && (x_40 && x_41)) && (decide ((x_43.length:Int) = 0))) && x_45) 1 [] (.plain rfl) (hU _) rfl rfl (fun gg29=>trivial) (fun gg29=>om)⟩,⟨.opt (((((((((x_4 && (!x_5)) && (!x_6)) && (decide (x_7 = x_8))) && (x_17 && (decide (x_16 = 0)))) && (decide (x_9 = x_42))) && (x_18 && x_19)) && (x_40 && x_41)) && (decide ((x_43.length:Int) = 0))) && x_45) (.one (.bool (decide (x_34 = 6)))),fun _=>rfl,fun _=>by exact .guard (((((((((x_4 && (!x_5)) && (!x_6)) && (decide (x_7 = x_8))) && (x_17 && (decide (x_16 = 0)))) && (decide (x_9 = x_42))) && (x_18 && x_19)) && (x_40 && x_41)) && (decide ((x_43.length:Int) = 0))) && x_45) 2 [218] (.plain rfl) (hU _) rfl rfl (fun gg30=>⟨gg30,trivial⟩) (fun gg30=>cR rfl rfl)⟩,⟨B ((((((((((x_4 && (!x_5)) && (!x_6)) && (decide (x_7 = x_8))) && (x_17 && (decide (x_16 = 0)))) && (decide (x_9 = x_42))) && (x_18 && x_19)) && (x_40 && x_41)) && (decide ((x_43.length:Int) = 0))) && x_45) && (decide (x_34 = 6))),fun _=>rfl,fun _=>.p (by exact aI (fun e=>e) rfl rfl rfl rfl)⟩,⟨B ((((((((((x_4 && (!x_5)) && (!x_6)) && (decide (x_7 = x_8))) && (x_17 && (decide (x_16 = 0)))) && (decide (x_9 = x_42))) && (x_18 && x_19)) && (x_40 && x_41)) && (decide ((x_43.length:Int) = 0))) && x_45) && (decide (x_34 = 6))),fun _=>rfl,fun _=>.p (by exact aJ rfl)⟩,⟨.opt ((((((((((x_4 && (!x_5)) && (!x_6)) && (decide (x_7 = x_8))) && (x_17 && (decide (x_16 = 0)))) && (decide (x_9 = x_42))) && (x_18 && x_19)) && (x_40 && x_41)) && (decide ((x_43.length:Int) = 0))) && x_45) && (decide (x_34 = 6))) (.one (.i x_36)),fun _=>rfl,fun _=>by exact .guard ((((((((((x_4 && (!x_5)) && (!x_6)) && (decide (x_7 = x_8))) && (x_17 && (decide (x_16 = 0)))) && (decide (x_9 = x_42))) && (x_18 && x_19)) && (x_40 && x_41)) && (decide ((x_43.length:Int) = 0))) && x_45) && (decide (x_34 = 6))) 1 [] (.plain rfl) (hU _) rfl rfl (fun gg33=>trivial) (fun gg33=>om)⟩,⟨.opt ((((((((((x_4 && (!x_5)) && (!x_6)) && (decide (x_7 = x_8))) && (x_17 && (decide (x_16 = 0)))) && (decide (x_9 = x_42))) && (x_18 && x_19)) && (x_40 && x_41)) && (decide ((x_43.length:Int) = 0))) && x_45) && (decide (x_34 = 6))) (.one (.bool (decide (x_36 = 5)))),fun _=>rfl,fun _=>by exact .guard ((((((((((x_4 && (!x_5)) && (!x_6)) && (decide (x_7 = x_8))) && (x_17 && (decide (x_16 = 0)))) && (decide (x_9 = x_42))) && (x_18 && x_19)) && (x_40 && x_41)) && (decide ((x_43.length:Int) = 0))) && x_45) && (decide (x_34 = 6))) 2 [222] (.plain rfl) (hU _) rfl rfl (fun gg34=>⟨gg34,trivial⟩) (fun gg34=>cR rfl rfl)⟩,⟨B (((((((((((x_4 && (!x_5)) && (!x_6)) && (decide (x_7 = x_8))) && (x_17 && (decide (x_16 = 0)))) && (decide (x_9 = x_42))) && (x_18 && x_19)) && (x_40 && x_41)) && (decide ((x_43.length:Int) = 0))) && x_45) && (decide (x_34 = 6))) && (decide (x_36 = 5))),fun _=>rfl,fun _=>.p (by exact aI (fun e=>e) rfl rfl rfl rfl)⟩,⟨B (((((((((((x_4 && (!x_5)) && (!x_6)) && (decide (x_7 = x_8))) && (x_17 && (decide (x_16 = 0)))) && (decide (x_9 = x_42))) && (x_18 && x_19)) && (x_40 && x_41)) && (decide ((x_43.length:Int) = 0))) && x_45) && (decide (x_34 = 6))) && (decide (x_36 = 5))),fun _=>rfl,fun _=>.p (by exact bX rfl)⟩,trivial⟩,trivial⟩⟩⟩) rfl rfl rfl [0] [] (s':=⟨[(0,B (((((((((((x_4 && (!x_5)) && (!x_6)) && (decide (x_7 = x_8))) && (x_17 && (decide (x_16 = 0)))) && (decide (x_9 = x_42))) && (x_18 && x_19)) && (x_40 && x_41)) && (decide ((x_43.length:Int) = 0))) && x_45) && (decide (x_34 = 6))) && (decide (x_36 = 5))))],[]⟩) rfl ?_
 refine ab.ret ?_
 obtain rfl:=Option.some.inj h
 refine Fin.ag ⟨[(0,_)],[]⟩ rfl (Fin.aw [.one (.bool (((((((((((x_4 && (!x_5)) && (!x_6)) && (decide (x_7 = x_8))) && (x_17 && (decide (x_16 = 0)))) && (decide (x_9 = x_42))) && (x_18 && x_19)) && (x_40 && x_41)) && (decide ((x_43.length:Int) = 0))) && x_45) && (decide (x_34 = 6))) && (decide (x_36 = 5))))] (.inl rfl) rfl (.cons (.tmp rfl) .nil) ⟨rfl,rfl⟩)
def b9 (F:Nat) (s0:cp) (x0:ni):Option (cp × (List Int) × (List Int) × Int) :=
 Option.bind (if (decide (x0.Kind = 0)) = true then (Option.bind (bI F s0 x0.Id x0.B) (dX fun x_5 x_6=>some (x_5,[],[],x_6))) else (if (decide (x0.Kind = 1)) = true then (Option.bind (bG F s0 x0.Id) (dX fun x_7 x_8=>some (x_7,[],[],x_8))) else (Option.bind (bO F s0 x0.Id x0.B) (th fun x_9 x_10 x_11 x_12=>some (x_9,x_10,x_11,x_12))))) (th fun next_1 gained_2 lost_3 e_4=>if (decide (e_4 ≠ 0)) = true then (some (s0,gained_2,lost_3,e_4)) else (some (next_1,gained_2,lost_3,e_4)))
theorem iS {F:Nat} {s0:cp} {x0:ni} {r:cp × (List Int) × (List Int) × Int} (h:b9 F s0 x0 = some r):an Tryz.prog [] 24 [] [.agg (aA s0),.agg (jA x0)] (Is [] (.dY [.agg (aA r.1),.one (.sl 1 (r.2.1.map eI)),.one (.sl 1 (r.2.2.1.map eI)),.one (.i r.2.2.2)])):=by
 unfold b9 at h
 refine an.intro 56 Tryz.func24 Tryz.ntmps24 rfl (by simp) fun E=>?_
 show ab _ E ⟨56,[],[],[]⟩ _ ⟨[(0,.b (.agg (aA s0))),(1,.b (.agg (jA x0)))],[]⟩ _
 refine ab.seq (ab.aa ?_)
 refine Oc (bD (k:=101) rfl rfl) (Oc (bD (k:=102) rfl rfl) (Oc (aW (k:=103) dn rfl) (Oc oa (Oc oa (Oc oa ?_)))))
 refine af.ai ⟨[(2,Pt 101 0),(3,Pt 102 0),(4,Pt 103 0)],[(101,.box 49 (aA s0)),(102,.box 55 (jA x0)),(103,.box 49 [.tr ae (.leaf),.cF 0,.cF 0,.cF 0,.tr ae (.leaf),.cF 0,.cF 0,.cF 0])]⟩ rfl (ab.seq (ab.aa ?_))
 refine Oc (lp aH) (Oc (aW (k:=104) dn rfl) (Oc (az aH rfl rfl rfl rfl (Nat.le_of_ble_eq_true rfl) rfl) ?_))
 refine af.ai ⟨[(2,_),(3,_),(4,_),(8,Pt 104 0)],[(101,_),(102,_),(103,_),(104,.box 49 (aA s0))]⟩ rfl (ab.seq (ab.aa ?_))
 refine Oc oa (Oc oa ?_)
 refine af.ai ⟨[(2,_),(3,_),(4,_),(8,_),(9,.b (.one (.nil))),(10,.b (.one (.nil)))],[(101,_),(102,_),(103,_),(104,_)]⟩ rfl (ab.seq (ab.aa ?_))
 refine Oc oa (af.ai ⟨[(2,_),(3,_),(4,_),(8,_),(9,_),(10,_)],[(101,_),(102,_),(103,_),(104,_)]⟩ rfl ?_)
 obtain ⟨v1,h2,h⟩:=aP h
 refine ab.dQ (v:=v1) (th fun (next_1:cp) (gained_2:List Int) (lost_3:List Int) (e_4:Int)=>⟨[(2,Pt 101 0),(4,Pt 103 0),(8,Pt 104 0),(9,.b (.one (.sl 1 (gained_2.map eI)))),(10,.b (.one (.sl 1 (lost_3.map eI)))),(11,I e_4)],[(101,.box 49 (aA s0)),(103,.box 49 [.tr ae (.leaf),.cF 0,.cF 0,.cF 0,.tr ae (.leaf),.cF 0,.cF 0,.cF 0]),(104,.box 49 (aA next_1))]⟩) (fun z=>z) ?_ ?_
 ·refine ab.seq (ab.aa ?_)
  refine Oc (ax sO rfl rfl) (Oc (aM aN rfl rfl rfl) ?_)
  refine af.ai ⟨[(2,_),(3,_),(4,_),(8,_),(9,_),(10,_),(14,I x0.Kind)],[(101,_),(102,_),(103,_),(104,_)]⟩ rfl (ab.block (ab.seq (ab.aa ?_)))
  refine Oc (cR rfl rfl) (Oc oa ?_)
  refine af.ai ⟨[(2,_),(3,_),(4,_),(8,_),(9,_),(10,_),(14,_),(26,B (decide (x0.Kind = 0)))],[(101,_),(102,_),(103,_),(104,_)]⟩ rfl (ab.ite h2 rfl (fun _ h2=>?_) (fun _ h2=>?_))
  ·refine ab.aa (Oc (lp aH) (Oc (ax mg rfl rfl) (Oc (aM aN rfl rfl rfl) (Oc (ax oM rfl rfl) (Oc (lp aE) ?_)))))
   refine af.ag ⟨[(2,_),(4,_),(8,_),(9,_),(10,_),(29,.b (.agg (aA s0))),(31,I x0.Id),(33,.b (.agg (ao x0.B)))],[(101,_),(103,_),(104,_)]⟩ rfl ?_
   obtain ⟨⟨x_5,x_6⟩,e3,h2⟩:=aP h2
   refine Oc (aj (cz e3) mb rfl rfl) (Oc om (Oc (ak rfl rfl) (Oc (ak rfl rfl) (Oc (az aH rfl rfl rfl rfl (Nat.le_of_ble_eq_true rfl) rfl) (Oc oa ?_)))))
   refine af.nil (Fin.av (Fin.ag ⟨[(2,_),(4,_),(8,_),(9,_),(10,_),(11,I x_6)],[(101,_),(103,_),(104,.box 49 (aA x_5))]⟩ rfl (Fin.fV 9 1 rfl (by decide) (Fin.fV 10 1 rfl (by decide) ?_))))
   exact Fin.join [2,4,8,9,10,11] [101,103,104] (x_5,[],[],x_6) (Option.some.inj h2) rfl
  ·refine ab.seq (ab.aa ?_)
   refine Oc (cR rfl rfl) (Oc oa ?_)
   refine af.ai ⟨[(2,_),(3,_),(4,_),(8,_),(9,_),(10,_),(37,B (decide (x0.Kind = 1)))],[(101,_),(102,_),(103,_),(104,_)]⟩ rfl (ab.ite h2 rfl (fun _ h2=>?_) (fun _ h2=>?_))
   ·refine ab.aa (Oc (lp aH) (Oc (ax mg rfl rfl) (Oc (aM aN rfl rfl rfl) ?_)))
    obtain ⟨⟨x_7,x_8⟩,e4,h2⟩:=aP h2
    refine Oc (aj (dT e4) rm rfl rfl) (Oc om ?_)
    refine af.ag ⟨[(2,_),(4,_),(8,_),(9,_),(10,_),(39,.dY [.agg (aA x_7),.one (.i x_8)])],[(101,_),(103,_),(104,_)]⟩ rfl (Oc (ak rfl rfl) (Oc (ak rfl rfl) (Oc (az aH rfl rfl rfl rfl (Nat.le_of_ble_eq_true rfl) rfl) (Oc oa ?_))))
    refine af.nil (Fin.av (Fin.ag ⟨[(2,_),(4,_),(8,_),(9,_),(10,_),(11,I x_8)],[(101,_),(103,_),(104,.box 49 (aA x_7))]⟩ rfl (Fin.fV 9 1 rfl (by decide) (Fin.fV 10 1 rfl (by decide) ?_))))
    exact Fin.join [2,4,8,9,10,11] [101,103,104] (x_7,[],[],x_8) (Option.some.inj h2) rfl
   ·refine ab.aa (Oc (lp aH) (Oc (ax mg rfl rfl) (Oc (aM aN rfl rfl rfl) (Oc (ax oM rfl rfl) (Oc (lp aE) ?_)))))
    refine af.ag ⟨[(2,_),(4,_),(8,_),(9,_),(10,_),(16,.b (.agg (aA s0))),(18,I x0.Id),(20,.b (.agg (ao x0.B)))],[(101,_),(103,_),(104,_)]⟩ rfl ?_
    obtain ⟨⟨x_9,x_10,x_11,x_12⟩,e5,h2⟩:=aP h2
    refine Oc (aj (eJ e5) rq rfl rfl) (Oc om (Oc (ak rfl rfl) (Oc (ak rfl rfl) (Oc (ak rfl rfl) (Oc (ak rfl rfl) ?_)))))
    refine Oc (az aH rfl rfl rfl rfl (Nat.le_of_ble_eq_true rfl) rfl) (af.ag ⟨[(2,_),(4,_),(8,_),(9,_),(10,_),(23,.b (.one (.sl 1 (x_10.map eI)))),(24,.b (.one (.sl 1 (x_11.map eI)))),(25,I x_12)],[(101,_),(103,_),(104,.box 49 (aA x_9))]⟩ rfl (Oc oa (Oc oa (Oc oa ?_))))
    refine af.nil (Fin.av ?_)
    exact Fin.join [2,4,8,9,10,11] [101,103,104] (x_9,x_10,x_11,x_12) (Option.some.inj h2) rfl
 ·rintro ⟨next_1,gained_2,lost_3,e_4⟩ hv
  subst v1
  refine ab.seq (ab.seq (ab.aa ?_))
  refine Oc om (Oc (iV rfl rfl) ?_)
  refine af.ai ⟨[(2,_),(4,_),(8,_),(9,_),(10,_),(11,_),(47,B (decide (e_4 ≠ 0)))],[(101,_),(103,_),(104,_)]⟩ rfl (ab.ite h rfl (fun _ h=>?_) (fun _ h=>?_))
  ·refine ab.seq (ab.aa ?_)
   refine Oc (lp aH) (Oc om (Oc om (Oc om (Oc (az aH rfl rfl rfl rfl (Nat.le_of_ble_eq_true rfl) rfl) (Oc oa ?_)))))
   refine Oc oa (Oc oa ?_)
   refine af.ai ⟨[(4,_),(5,.b (.one (.sl 1 (gained_2.map eI)))),(6,.b (.one (.sl 1 (lost_3.map eI)))),(7,I e_4)],[(103,.box 49 (aA s0))]⟩ rfl (ab.ret (Fin.au ?_))
   obtain rfl:=Option.some.inj h
   refine Fin.ag ⟨[(4,_),(5,_),(6,_),(7,_)],[(103,_)]⟩ rfl (Fin.aw [.agg (aA s0),.one (.sl 1 (gained_2.map eI)),.one (.sl 1 (lost_3.map eI)),.one (.i e_4)] (.inl rfl) rfl (.cons (.agg aH rfl rfl rfl rfl) (.cons (.tmp rfl) (.cons (.tmp rfl) (.cons (.tmp rfl) .nil)))) ⟨rfl,rfl⟩)
  ·refine ab.skip (Fin.ag ⟨[(4,_),(8,_),(9,_),(10,_),(11,_)],[(103,_),(104,_)]⟩ rfl (Fin.then (ab.seq (ab.aa ?_))))
   refine Oc (lp aH) (Oc om (Oc om (Oc om (Oc (az aH rfl rfl rfl rfl (Nat.le_of_ble_eq_true rfl) rfl) (Oc oa ?_)))))
   refine Oc oa (Oc oa ?_)
   refine af.ai ⟨[(4,_),(5,.b (.one (.sl 1 (gained_2.map eI)))),(6,.b (.one (.sl 1 (lost_3.map eI)))),(7,I e_4)],[(103,.box 49 (aA next_1))]⟩ rfl (ab.ret ?_)
   obtain rfl:=Option.some.inj h
   refine Fin.ag ⟨[(4,_),(5,_),(6,_),(7,_)],[(103,_)]⟩ rfl (Fin.aw [.agg (aA next_1),.one (.sl 1 (gained_2.map eI)),.one (.sl 1 (lost_3.map eI)),.one (.i e_4)] (.inl rfl) rfl (.cons (.agg aH rfl rfl rfl rfl) (.cons (.tmp rfl) (.cons (.tmp rfl) (.cons (.tmp rfl) .nil)))) ⟨rfl,rfl⟩)
def bR (F:Nat) (l0:List A2) (p0:A2):Option Bool :=
 Option.bind (iter F (fun i_1=>if (decide (i_1 < (l0.length:Int))) = true then ((bd l0 i_1).bind fun x_2=>if (decide (x_2 = p0)) = true then (some (.inr (.inr true))) else (some (.inl (IntKind.i64.wrap (i_1 + 1))))) else (some (.inr (.inl ())))) 0) (cc (fun _=>some false) (fun y=>some y))
theorem dI {F:Nat} {l0:List A2} {p0:A2} {r:Bool} (h:bR F l0 p0 = some r):an Tryz.prog [] 27 [] [.one (.sl 2 (l0.map (cx .i64))),.agg ((cx .i64) p0)] (Is [] (.b (.one (.bool r)))):=by
 unfold bR at h
 refine an.intro 18 Tryz.func27 Tryz.ntmps27 rfl (by simp) fun E=>?_
 show ab _ E ⟨18,[],[],[]⟩ _ ⟨[(0,.b (.one (.sl 2 (l0.map (cx .i64))))),(1,.b (.agg ((cx .i64) p0)))],[]⟩ _
 refine ab.seq (ab.aa ?_)
 refine Oc (bD (k:=101) rfl rfl) (Oc oa ?_)
 refine af.ai ⟨[(0,.b (.one (.sl 2 (l0.map (cx .i64))))),(3,Pt 101 0)],[(101,.box 40 ((cx .i64) p0))]⟩ rfl ?_
 obtain ⟨v1,h2,h⟩:=aP h
 refine ab.dQ (v:=v1) (fun (_:Unit)=>⟨[],[]⟩) (fun z=>.inl z) ?_ ?_
 ·refine ab.seq (ab.aa ?_)
  refine Oc oa (af.ai ⟨[(0,_),(3,_),(5,I 0)],[(101,_)]⟩ rfl (ab.block (ab.c9 h2 (fun (i_1:Int)=>⟨[(0,.b (.one (.sl 2 (l0.map (cx .i64))))),(3,Pt 101 0),(5,I i_1)],[(101,.box 40 ((cx .i64) p0))]⟩) [0,3,5] [101] rfl ?_)))
  rintro i_1 o3 h4 hy5
  refine ab.seq (ab.seq (ab.aa ?_))
  refine Oc om (Oc om (Oc (a7 nz rfl (List.length_map _)) (Oc (bo rfl rfl) ?_)))
  refine af.ai ⟨[(0,_),(3,_),(5,_),(9,B (decide (i_1 < (l0.length:Int))))],[(101,_)]⟩ rfl (ab.ite h4 rfl (fun _ h4=>?_) (fun _ h4=>?_))
  ·refine ab.skip (Fin.ag ⟨[(0,_),(3,_),(5,_)],[(101,_)]⟩ rfl (Fin.then (ab.seq (ab.block (ab.seq ?_)))))
   refine ab.ag ⟨[(0,_),(3,_),(5,_)],[(101,_)]⟩ rfl ?_
   obtain ⟨x_2,e6,h4⟩:=aP h4
   refine ab.b4 mixed 6 [.b (.one (.sl 2 (l0.map (cx .i64)))),I i_1,.b (.aL ((cx .i64) x_2)),.b (.agg ((cx .i64) x_2)),.b (.agg ((cx .i64) p0)),B (decide (x_2 = p0))] [0,3,5,17] [101] (s':=⟨[(0,_),(3,_),(5,_),(17,B (decide (x_2 = p0)))],[(101,_)]⟩) rfl ⟨fun _=>.p om,fun _=>.p om,fun _=>.p (aY gl (a8 e6) (bQ (e:=(cx .i64)) e6) rfl rfl),fun _=>.p (b8 eC rfl rfl rfl),fun _=>.p (lp eC),fun _=>.p (jg (pG x_2 p0) rfl rfl),trivial⟩ rfl rfl (ab.ite h4 rfl (fun _ h4=>?_) (fun _ h4=>?_))
   ·refine ab.seq (ab.aa ?_)
    refine Oc oa (af.ai ⟨[(4,B true)],[]⟩ rfl (ab.ret (Fin.aO (Fin.au ?_))))
    obtain rfl:=hy5 _ (Option.some.inj h4).symm
    refine Fin.au (Fin.aO (Fin.au ?_))
    obtain rfl:=Option.some.inj h
    refine Fin.ag ⟨[(4,_)],[]⟩ rfl (Fin.aw [.one (.bool true)] (.inl rfl) rfl (.cons (.tmp rfl) .nil) ⟨rfl,rfl⟩)
   ·refine ab.skip (Fin.av (Fin.ag ⟨[(0,_),(3,_),(5,_)],[(101,_)]⟩ rfl (Fin.then (ab.aa ?_))))
    refine Oc om (Oc (bu rfl rfl) (Oc oa ?_))
    refine af.nil ?_
    exact Fin.cr [0,3,5] [101] (IntKind.i64.wrap (i_1 + 1)) (Option.some.inj h4) rfl
  ·refine ab.exit (Fin.aD ?_)
   obtain rfl:=hy5 _ (Option.some.inj h4).symm
   refine Fin.aD (Fin.aV ?_)
   exact Fin.join [] [] () rfl rfl
 ·rintro _ hv
  subst v1
  refine ab.seq (ab.aa ?_)
  refine Oc oa (af.ai ⟨[(4,B false)],[]⟩ rfl (ab.ret ?_))
  obtain rfl:=Option.some.inj h
  refine Fin.ag ⟨[(4,_)],[]⟩ rfl (Fin.aw [.one (.bool false)] (.inl rfl) rfl (.cons (.tmp rfl) .nil) ⟨rfl,rfl⟩)
def br (F:Nat) (l0:List ni) (id0:Int) (b0:cn):Option Bool :=
 if (decide (40 < (l0.length:Int))) = true then ((bm F).bind fun x_1=>some x_1) else ((gh F).bind fun x_2=>Option.bind (iter F (dX fun s_4 i_5=>if (decide (i_5 < (l0.length:Int))) = true then ((bd l0 i_5).bind fun x_7=>Option.bind (b9 F s_4 x_7) (th fun x_8 x_9 x_10 x_11=>some (.inl (x_8,IntKind.i64.wrap (i_5 + 1))))) else (some (.inr s_4))) (x_2,0)) (fun s_3=>Option.bind (bO F s_3 id0 b0) (th fun x_12 x_13 x_14 x_15=>if (decide (x_15 ≠ 0)) = true then ((bm F).bind fun x_16=>ez ((x_16 && (decide ((x_13.length:Int) = 0))) && (decide ((x_14.length:Int) = 0))) fun x_17=>some x_17) else ((b6 F s_3).bind fun x_18=>(b6 F x_12).bind fun x_19=>Option.bind (iter F (dX fun count_21 i_22=>if (decide (i_22 < (x_18.length:Int))) = true then (Option.bind ((bd x_18 i_22).bind fun x_25=>Option.bind (iter F (dX fun gone_27 k_28=>if (decide (k_28 < (x_14.length:Int))) = true then ((bJ (!gone_27) (bd x_14 k_28)).bind fun x_30=>(bJ (!gone_27) (bd x_14 k_28)).bind fun x_31=>some (.inl (gone_27 || (decide (x_25 = (⟨min id0 x_30,max id0 x_31⟩:A2))),IntKind.i64.wrap (k_28 + 1)))) else (some (.inr gone_27))) (false,0)) (fun gone_26=>(bR F x_19 x_25).bind fun x_32=>if (gone_26 == x_32) = true then (some (.inr false)) else (if (!gone_26) = true then (some (.inl (IntKind.i64.wrap (count_21 + 1)))) else (some (.inl count_21))))) (cc (fun count_24=>some (.inl (count_24,IntKind.i64.wrap (i_22 + 1)))) (fun y=>some (.inr (.inr y))))) else (some (.inr (.inl count_21)))) (0,0)) (cc (fun count_20=>Option.bind (iter F (fun k_33=>if (decide (k_33 < (x_13.length:Int))) = true then ((bd x_13 k_33).bind fun x_34=>(bd x_13 k_33).bind fun x_35=>(bR F x_18 (⟨min id0 x_34,max id0 x_35⟩:A2)).bind fun x_36=>(bJ (!x_36) (bR F x_19 (⟨min id0 x_34,max id0 x_35⟩:A2))).bind fun x_37=>if (x_36 || (!x_37)) = true then (some (.inr (.inr false))) else (some (.inl (IntKind.i64.wrap (k_33 + 1))))) else (some (.inr (.inl ())))) 0) (cc (fun _=>(bm F).bind fun x_38=>ez (x_38 && (decide ((x_19.length:Int) = (IntKind.i64.wrap (count_20 + (x_13.length:Int)))))) fun x_39=>some x_39) (fun y=>some y))) (fun y=>some y))))))
theorem eK {F:Nat} {l0:List ni} {id0:Int} {b0:cn} {r:Bool} (h:br F l0 id0 b0 = some r):an Tryz.prog [] 6 [] [.one (.sl 8 (l0.map jA)),.one (.i id0),.agg (ao b0)] (Is [] (.b (.one (.bool r)))):=by
 unfold br at h
 refine an.intro 151 Tryz.func6 Tryz.ntmps6 rfl (by simp) fun E=>?_
 show ab _ E ⟨151,[],[],[]⟩ _ ⟨[(0,.b (.one (.sl 8 (l0.map jA)))),(1,I id0),(2,.b (.agg (ao b0)))],[]⟩ _
 refine ab.seq (ab.aa ?_)
 refine Oc (bD (k:=101) rfl rfl) (Oc oa ?_)
 refine af.ai ⟨[(0,.b (.one (.sl 8 (l0.map jA)))),(1,I id0),(5,Pt 101 0)],[(101,.box 25 (ao b0))]⟩ rfl (ab.seq (ab.seq (ab.aa ?_)))
 refine Oc om (Oc (a7 und41 rfl (List.length_map _)) (Oc (jQ rfl rfl) ?_))
 refine af.ai ⟨[(0,_),(1,_),(5,_),(24,B (decide (40 < (l0.length:Int))))],[(101,_)]⟩ rfl (ab.ite h rfl (fun _ h=>?_) (fun _ h=>?_))
 ·refine ab.seq (ab.aa ?_)
  obtain ⟨x_1,e1,h⟩:=aP h
  refine Oc (aj (cZ e1) rz rfl rfl) (Oc oa ?_)
  refine af.ai ⟨[(6,B x_1)],[]⟩ rfl (ab.ret (Fin.au ?_))
  obtain rfl:=Option.some.inj h
  refine Fin.ag ⟨[(6,_)],[]⟩ rfl (Fin.aw [.one (.bool x_1)] (.inl rfl) rfl (.cons (.tmp rfl) .nil) ⟨rfl,rfl⟩)
 ·refine ab.skip (Fin.ag ⟨[(0,_),(1,_),(5,_)],[(101,_)]⟩ rfl (Fin.then (ab.seq (ab.aa ?_))))
  obtain ⟨x_2,e2,h⟩:=aP h
  refine Oc (aj (gY e2) ru rfl rfl) (Oc (aW (k:=102) dn rfl) (Oc (az aH rfl rfl rfl rfl (Nat.le_of_ble_eq_true rfl) rfl) ?_))
  refine af.ai ⟨[(0,_),(1,_),(5,_),(7,Pt 102 0)],[(101,_),(102,.box 49 (aA x_2))]⟩ rfl ?_
  obtain ⟨v3,h4,h⟩:=aP h
  refine ab.dQ (v:=v3) (fun (s_3:cp)=>⟨[(1,I id0),(5,Pt 101 0),(7,Pt 102 0)],[(101,.box 25 (ao b0)),(102,.box 49 (aA s_3))]⟩) (fun z=>z) ?_ ?_
  ·refine ab.seq (ab.aa ?_)
   refine Oc oa (af.ai ⟨[(0,_),(1,_),(5,_),(7,_),(8,I 0)],[(101,_),(102,_)]⟩ rfl (ab.block (ab.c9 h4 (dX fun (s_4:cp) (i_5:Int)=>⟨[(0,.b (.one (.sl 8 (l0.map jA)))),(1,I id0),(5,Pt 101 0),(7,Pt 102 0),(8,I i_5)],[(101,.box 25 (ao b0)),(102,.box 49 (aA s_4))]⟩) [0,1,5,7,8] [101,102] rfl ?_)))
   rintro ⟨s_4,i_5⟩ o5 h6 hy7
   refine ab.seq (ab.seq (ab.aa ?_))
   refine Oc om (Oc om (Oc (a7 und41 rfl (List.length_map _)) (Oc (bo rfl rfl) ?_)))
   refine af.ai ⟨[(0,_),(1,_),(5,_),(7,_),(8,_),(30,B (decide (i_5 < (l0.length:Int))))],[(101,_),(102,_)]⟩ rfl (ab.ite h6 rfl (fun _ h6=>?_) (fun _ h6=>?_))
   ·refine ab.skip (Fin.ag ⟨[(0,_),(1,_),(5,_),(7,_),(8,_)],[(101,_),(102,_)]⟩ rfl (Fin.then (ab.seq (ab.block ?_))))
    refine ab.ag ⟨[(0,_),(1,_),(5,_),(7,_),(8,_)],[(101,_),(102,_)]⟩ rfl ?_
    obtain ⟨x_7,e8,h6⟩:=aP h6
    obtain ⟨⟨x_8,x_9,x_10,x_11⟩,e9,h6⟩:=aP h6
    refine ab.lP mixed [false,false,false,false,false,false,false,false,false,false,false,true] [.b (.agg (aA s_4)),.b (.one (.sl 8 (l0.map jA))),I i_5,.b (.aL (jA x_7)),.b (.agg (jA x_7)),.dY [.agg (aA x_8),.one (.sl 1 (x_9.map eI)),.one (.sl 1 (x_10.map eI)),.one (.i x_11)],.dY [.agg (aA x_8),.one (.sl 1 (x_9.map eI)),.one (.sl 1 (x_10.map eI)),.one (.i x_11)],.b (.agg (aA x_8)),.b (.one (.sl 1 (x_9.map eI))),.b (.one (.sl 1 (x_10.map eI))),I x_11,B true] [⟨[false,false,false,false,false,false,false,false,false,false,false,false],[(0,.b (.one (.sl 8 (l0.map jA)))),(1,I id0),(5,Pt 101 0),(7,Pt 102 0),(8,I i_5)],[(101,.box 25 (ao b0)),(102,.box 49 (aA s_4))],[true,true,true,true,true,true,true,true,true,true,true,true],[],[]⟩,⟨[false,false,false,false,false,false,false,false,false,false,false,true],[(0,.b (.one (.sl 8 (l0.map jA)))),(1,I id0),(5,Pt 101 0),(7,Pt 102 0),(8,I i_5)],[(101,.box 25 (ao b0)),(102,.box 49 (aA x_8))],[true,true,true,true,true,true,true,true,true,true,true,true],[0,1,2,3,4,5,6,7,11],[]⟩] rfl (⟨by kernel_rfl,⟨⟨.b (.agg (aA s_4)),fun _=>rfl,fun _=>.p (by exact cy aH rfl rfl rfl rfl)⟩,⟨.b (.one (.sl 8 (l0.map jA))),fun _=>rfl,fun _=>.p (by exact aJ rfl)⟩,⟨I i_5,fun _=>rfl,fun _=>.p (by exact aJ rfl)⟩,⟨.b (.aL (jA x_7)),fun _=>rfl,fun _=>.p (by exact aY tySl41 (a8 e8) (bQ (e:=jA) e8) rfl rfl)⟩,⟨.b (.agg (jA x_7)),fun _=>rfl,fun _=>.p (by exact b8 tyAgg55 rfl rfl rfl)⟩,⟨.dY [.agg (aA x_8),.one (.sl 1 (x_9.map eI)),.one (.sl 1 (x_10.map eI)),.one (.i x_11)],fun _=>rfl,fun _=>.p (by exact aj (iS e9) goes24 rfl rfl)⟩,⟨.dY [.agg (aA x_8),.one (.sl 1 (x_9.map eI)),.one (.sl 1 (x_10.map eI)),.one (.i x_11)],fun _=>rfl,fun _=>.p (by exact aJ rfl)⟩,⟨.b (.agg (aA x_8)),fun _=>rfl,fun _=>.p (by exact ak rfl rfl)⟩,⟨.b (.one (.sl 1 (x_9.map eI))),fun _=>rfl,fun _=>.p (by exact ak rfl rfl)⟩,⟨.b (.one (.sl 1 (x_10.map eI))),fun _=>rfl,fun _=>.p (by exact ak rfl rfl)⟩,⟨I x_11,fun _=>rfl,fun _=>.p (by exact ak rfl rfl)⟩,⟨_,[],.b (.one .any),rfl,(fun e=>by simp at e),rfl,rfl,fun _=>.qX [101,102] (by exact .p (by exact az aH rfl rfl rfl rfl (Nat.le_of_ble_eq_true rfl) rfl)) (by exact rfl)⟩,trivial⟩,⟨by kernel_rfl,⟨trivial,trivial,trivial,trivial,trivial,trivial,trivial,trivial,⟨.b (.one (.sl 1 (x_9.map eI))),fun _=>rfl,fun _=>.p (by exact ak rfl rfl)⟩,⟨.b (.one (.sl 1 (x_10.map eI))),fun _=>rfl,fun _=>.p (by exact ak rfl rfl)⟩,⟨I x_11,fun _=>rfl,fun _=>.p (by exact ak rfl rfl)⟩,trivial,trivial⟩,trivial⟩⟩) rfl rfl rfl [0,1,5,7,8] [101,102] (s':=⟨[(0,_),(1,_),(5,_),(7,_),(8,_)],[(101,_),(102,.box 49 (aA x_8))]⟩) rfl ?_
    refine Fin.av (Fin.ag ⟨[(0,_),(1,_),(5,_),(7,_),(8,_)],[(101,_),(102,_)]⟩ rfl (Fin.then (ab.aa ?_)))
    refine Oc om (Oc (bu rfl rfl) (Oc oa ?_))
    refine af.nil ?_
    exact Fin.cr [0,1,5,7,8] [101,102] (x_8,IntKind.i64.wrap (i_5 + 1)) (Option.some.inj h6) rfl
   ·refine ab.exit (Fin.aD ?_)
    obtain rfl:=hy7 _ (Option.some.inj h6).symm
    refine Fin.aD (Fin.aV ?_)
    exact Fin.join [1,5,7] [101,102] s_4 rfl rfl
  ·rintro s_3 hv
   subst v3
   refine ab.seq (ab.aa ?_)
   refine Oc (lp aH) (Oc om (Oc (lp aE) ?_))
   obtain ⟨⟨x_12,x_13,x_14,x_15⟩,e10,h⟩:=aP h
   refine Oc (aj (eJ e10) rq rfl rfl) (Oc om ?_)
   refine af.ag ⟨[(1,_),(7,_),(44,.dY [.agg (aA x_12),.one (.sl 1 (x_13.map eI)),.one (.sl 1 (x_14.map eI)),.one (.i x_15)])],[(102,_)]⟩ rfl (Oc (ak rfl rfl) (Oc (ak rfl rfl) (Oc (ak rfl rfl) (Oc (ak rfl rfl) (Oc (aW (k:=103) dn rfl) (Oc (az aH rfl rfl rfl rfl (Nat.le_of_ble_eq_true rfl) rfl) ?_))))))
   refine af.ag ⟨[(1,_),(7,_),(9,Pt 103 0),(50,.b (.one (.sl 1 (x_13.map eI)))),(51,.b (.one (.sl 1 (x_14.map eI)))),(52,I x_15)],[(102,_),(103,.box 49 (aA x_12))]⟩ rfl (Oc oa (Oc oa (Oc oa ?_)))
   refine af.ai ⟨[(1,_),(7,_),(9,_),(10,.b (.one (.sl 1 (x_13.map eI)))),(11,.b (.one (.sl 1 (x_14.map eI)))),(12,I x_15)],[(102,_),(103,_)]⟩ rfl (ab.seq (ab.seq (ab.aa ?_)))
   refine Oc om (Oc (iV rfl rfl) ?_)
   refine af.ai ⟨[(1,_),(7,_),(9,_),(10,_),(11,_),(54,B (decide (x_15 ≠ 0)))],[(102,_),(103,_)]⟩ rfl (ab.ite h rfl (fun _ h=>?_) (fun _ h=>?_))
   ·refine ab.seq (ab.aa ?_)
    obtain ⟨x_16,e11,h⟩:=aP h
    refine Oc (aj (cZ e11) rz rfl rfl) (Oc om ?_)
    refine ew x_16 [] (fun g12=>trivial) (fun g12=>om) (ew x_16 [57] (fun g13=>by exact ⟨g13,trivial⟩) (fun g13=>a7 dU rfl (List.length_map _)) (af.ag ⟨[(11,_),(56,B x_16),(58,.opt x_16 (.one (.i (x_13.length:Int))))],[]⟩ rfl (ew x_16 [58] (fun g14=>by exact ⟨g14,trivial⟩) (fun g14=>cR rfl rfl) (Oc (aI (fun e=>e) rfl rfl rfl rfl) (Oc om ?_)))))
    refine ew (x_16 && (decide ((x_13.length:Int) = 0))) [] (fun g15=>trivial) (fun g15=>om) (ew (x_16 && (decide ((x_13.length:Int) = 0))) [62] (fun g16=>by exact ⟨g16,trivial⟩) (fun g16=>a7 dU rfl (List.length_map _)) (ew (x_16 && (decide ((x_13.length:Int) = 0))) [63] (fun g17=>by exact ⟨g17,trivial⟩) (fun g17=>cR rfl rfl) (af.mO h rfl (aI (fun e=>e) rfl rfl rfl rfl) (fun x_17 h=>?_))))
    refine Oc oa (af.ai ⟨[(6,B x_17)],[]⟩ rfl (ab.ret (Fin.au ?_)))
    obtain rfl:=Option.some.inj h
    refine Fin.ag ⟨[(6,_)],[]⟩ rfl (Fin.aw [.one (.bool x_17)] (.inl rfl) rfl (.cons (.tmp rfl) .nil) ⟨rfl,rfl⟩)
   ·refine ab.skip (Fin.ag ⟨[(1,_),(7,_),(9,_),(10,_),(11,_)],[(102,_),(103,_)]⟩ rfl (Fin.then (ab.seq (ab.aa ?_))))
    refine Oc (lp aH) ?_
    obtain ⟨x_18,e18,h⟩:=aP h
    refine Oc (cX (own_a:=[]) ((dF e18).sw 51 104) pk rfl trivial rfl rfl) (Oc oa ?_)
    refine af.ai ⟨[(1,_),(9,_),(10,_),(11,_),(13,.b (.row 104))],[(103,_),(104,.row 40 2 (x_18.map (cx .i64)))]⟩ rfl (ab.seq (ab.aa ?_))
    refine Oc (lp aH) ?_
    obtain ⟨x_19,e19,h⟩:=aP h
    refine Oc (cX (own_a:=[]) ((dF e19).sw 51 105) pk rfl trivial rfl rfl) (Oc oa ?_)
    refine af.ai ⟨[(1,_),(10,_),(11,_),(13,_),(14,.b (.row 105))],[(104,_),(105,.row 40 2 (x_19.map (cx .i64)))]⟩ rfl (ab.seq (ab.aa ?_))
    refine Oc oa (af.ai ⟨[(1,_),(10,_),(11,_),(13,_),(14,_),(15,I 0)],[(104,_),(105,_)]⟩ rfl ?_)
    obtain ⟨v20,h21,h⟩:=aP h
    refine ab.dQ (v:=v20) (fun (count_20:Int)=>⟨[(1,I id0),(10,.b (.one (.sl 1 (x_13.map eI)))),(13,.b (.row 104)),(14,.b (.row 105)),(15,I count_20)],[(104,.row 40 2 (x_18.map (cx .i64))),(105,.row 40 2 (x_19.map (cx .i64)))]⟩) (fun z=>.inl z) ?_ ?_
    ·refine ab.seq (ab.aa ?_)
     refine Oc oa (af.ai ⟨[(1,_),(10,_),(11,_),(13,_),(14,_),(15,_),(16,I 0)],[(104,_),(105,_)]⟩ rfl (ab.block (ab.c9 h21 (dX fun (count_21:Int) (i_22:Int)=>⟨[(1,I id0),(10,.b (.one (.sl 1 (x_13.map eI)))),(11,.b (.one (.sl 1 (x_14.map eI)))),(13,.b (.row 104)),(14,.b (.row 105)),(15,I count_21),(16,I i_22)],[(104,.row 40 2 (x_18.map (cx .i64))),(105,.row 40 2 (x_19.map (cx .i64)))]⟩) [1,10,11,13,14,15,16] [104,105] rfl ?_)))
     rintro ⟨count_21,i_22⟩ o22 h23 hy24
     refine ab.seq (ab.seq (ab.aa ?_))
     refine Oc om (Oc om (Oc (dM nz rfl rfl (List.length_map _)) (Oc (bo rfl rfl) ?_)))
     refine af.ai ⟨[(1,_),(10,_),(11,_),(13,_),(14,_),(15,_),(16,_),(73,B (decide (i_22 < (x_18.length:Int))))],[(104,_),(105,_)]⟩ rfl (ab.ite h23 rfl (fun _ h23=>?_) (fun _ h23=>?_))
     ·refine ab.skip (Fin.ag ⟨[(1,_),(10,_),(11,_),(13,_),(14,_),(15,_),(16,_)],[(104,_),(105,_)]⟩ rfl (Fin.then ?_))
      obtain ⟨v25,h26,h23⟩:=aP h23
      refine ab.dQ (v:=v25) (fun (count_24:Int)=>⟨[(1,I id0),(10,.b (.one (.sl 1 (x_13.map eI)))),(11,.b (.one (.sl 1 (x_14.map eI)))),(13,.b (.row 104)),(14,.b (.row 105)),(15,I count_24),(16,I i_22)],[(104,.row 40 2 (x_18.map (cx .i64))),(105,.row 40 2 (x_19.map (cx .i64)))]⟩) (fun z=>.inl z) ?_ ?_
      ·refine ab.block (ab.seq (ab.aa ?_))
       refine Oc om (Oc om ?_)
       obtain ⟨x_25,e27,h26⟩:=aP h26
       refine Oc (df gl (a8 e27) (iw e27) rfl rfl rfl rfl) (Oc (sX (i:=(i_22:Int).toNat) (f:=0) eC rfl rfl rfl (bQ (e:=(cx .i64)) e27) rfl rfl) (Oc (aW (k:=106) p9 rfl) (Oc (az eC rfl rfl rfl rfl (Nat.le_of_ble_eq_true rfl) rfl) ?_)))
       refine af.ai ⟨[(1,_),(10,_),(11,_),(13,_),(14,_),(15,_),(16,_),(17,Pt 106 0)],[(104,_),(105,_),(106,.box 40 ((cx .i64) x_25))]⟩ rfl (ab.seq (ab.aa ?_))
       refine Oc oa (af.ai ⟨[(1,_),(10,_),(11,_),(13,_),(14,_),(15,_),(16,_),(17,_),(18,B false)],[(104,_),(105,_),(106,_)]⟩ rfl ?_)
       obtain ⟨v28,h29,h26⟩:=aP h26
       refine ab.dQ (v:=v28) (fun (gone_26:Bool)=>⟨[(1,I id0),(10,.b (.one (.sl 1 (x_13.map eI)))),(11,.b (.one (.sl 1 (x_14.map eI)))),(13,.b (.row 104)),(14,.b (.row 105)),(15,I count_21),(16,I i_22),(17,Pt 106 0),(18,B gone_26)],[(104,.row 40 2 (x_18.map (cx .i64))),(105,.row 40 2 (x_19.map (cx .i64))),(106,.box 40 ((cx .i64) x_25))]⟩) (fun z=>z) ?_ ?_
       ·refine ab.seq (ab.aa ?_)
        refine Oc oa (af.ai ⟨[(1,_),(10,_),(11,_),(13,_),(14,_),(15,_),(16,_),(17,_),(18,_),(19,I 0)],[(104,_),(105,_),(106,_)]⟩ rfl (ab.block (ab.c9 h29 (dX fun (gone_27:Bool) (k_28:Int)=>⟨[(1,I id0),(10,.b (.one (.sl 1 (x_13.map eI)))),(11,.b (.one (.sl 1 (x_14.map eI)))),(13,.b (.row 104)),(14,.b (.row 105)),(15,I count_21),(16,I i_22),(17,Pt 106 0),(18,B gone_27),(19,I k_28)],[(104,.row 40 2 (x_18.map (cx .i64))),(105,.row 40 2 (x_19.map (cx .i64))),(106,.box 40 ((cx .i64) x_25))]⟩) [1,10,11,13,14,15,16,17,18,19] [104,105,106] rfl ?_)))
        rintro ⟨gone_27,k_28⟩ o30 h31 hy32
        refine ab.seq (ab.seq (ab.aa ?_))
        refine Oc om (Oc om (Oc (a7 dU rfl (List.length_map _)) (Oc (bo rfl rfl) ?_)))
        refine af.ai ⟨[(1,_),(10,_),(11,_),(13,_),(14,_),(15,_),(16,_),(17,_),(18,_),(19,_),(83,B (decide (k_28 < (x_14.length:Int))))],[(104,_),(105,_),(106,_)]⟩ rfl (ab.ite h31 rfl (fun _ h31=>?_) (fun _ h31=>?_))
        ·refine ab.skip (Fin.ag ⟨[(1,_),(10,_),(11,_),(13,_),(14,_),(15,_),(16,_),(17,_),(18,_),(19,_)],[(104,_),(105,_),(106,_)]⟩ rfl (Fin.then (ab.seq (ab.block ?_))))
         refine ab.ag ⟨[(1,_),(10,_),(11,_),(13,_),(14,_),(15,_),(16,_),(17,_),(18,_),(19,_)],[(104,_),(105,_),(106,_)]⟩ rfl ?_
         obtain ⟨x_30,e38,h31⟩:=aP h31
         obtain ⟨x_31,e45,h31⟩:=aP h31
         refine ab.lO mixed 18 [B gone_27,B gone_27,.opt (!gone_27) (.agg ((cx .i64) x_25)),.opt (!gone_27) (.one (.i id0)),.opt (!gone_27) (.one (.sl 1 (x_14.map eI))),.opt (!gone_27) (.one (.i k_28)),.opt (!gone_27) (.aL [.i x_30]),.opt (!gone_27) (.one (.i x_30)),.opt (!gone_27) (.one (.i (min id0 x_30))),.opt (!gone_27) (.one (.i id0)),.opt (!gone_27) (.one (.sl 1 (x_14.map eI))),.opt (!gone_27) (.one (.i k_28)),.opt (!gone_27) (.aL [.i x_31]),.opt (!gone_27) (.one (.i x_31)),.opt (!gone_27) (.one (.i (max id0 x_31))),.opt (!gone_27) (.agg [.i (min id0 x_30),.i (max id0 x_31)]),.opt (!gone_27) (.one (.bool (decide (x_25 = (⟨min id0 x_30,max id0 x_31⟩:A2))))),B (gone_27 || (decide (x_25 = (⟨min id0 x_30,max id0 x_31⟩:A2))))] [1,10,11,13,14,15,16,17,18,19] [104,105,106] (s':=⟨[(1,_),(10,_),(11,_),(13,_),(14,_),(15,_),(16,_),(17,_),(18,B (gone_27 || (decide (x_25 = (⟨min id0 x_30,max id0 x_31⟩:A2))))),(19,_)],[(104,_),(105,_),(106,_)]⟩) rfl ⟨fun _=>.p om,fun _=>.p om,fun _=>by exact .guard (!gone_27) 1 [] (.plain rfl) (dZ _) rfl rfl (fun g33=>trivial) (fun g33=>lp eC),fun _=>by exact .guard (!gone_27) 1 [] (.plain rfl) (dZ _) rfl rfl (fun g34=>trivial) (fun g34=>om),fun _=>by exact .guard (!gone_27) 1 [] (.plain rfl) (dZ _) rfl rfl (fun g35=>trivial) (fun g35=>om),fun _=>by exact .guard (!gone_27) 1 [] (.plain rfl) (dZ _) rfl rfl (fun g36=>trivial) (fun g36=>om),fun _=>by exact .guard (!gone_27) 3 [90,91] (.plain rfl) (dZ _) rfl rfl (fun g37=>⟨g37,g37,trivial⟩) (fun g37=>aY bK (a8 (gc e38 g37)) (bQ (e:=eI) (gc e38 g37)) rfl rfl),fun _=>by exact .guard (!gone_27) 2 [92] (.plain rfl) (dZ _) rfl rfl (fun g39=>⟨g39,trivial⟩) (fun g39=>ar aN rfl rfl),fun _=>by exact .guard (!gone_27) 3 [89,93] (.plain rfl) (dZ _) rfl rfl (fun g40=>⟨g40,g40,trivial⟩) (fun g40=>nD rfl rfl),fun _=>by exact .guard (!gone_27) 1 [] (.plain rfl) (dZ _) rfl rfl (fun g41=>trivial) (fun g41=>om),fun _=>by exact .guard (!gone_27) 1 [] (.plain rfl) (dZ _) rfl rfl (fun g42=>trivial) (fun g42=>om),fun _=>by exact .guard (!gone_27) 1 [] (.plain rfl) (dZ _) rfl rfl (fun g43=>trivial) (fun g43=>om),fun _=>by exact .guard (!gone_27) 3 [96,97] (.plain rfl) (dZ _) rfl rfl (fun g44=>⟨g44,g44,trivial⟩) (fun g44=>aY bK (a8 (gc e45 g44)) (bQ (e:=eI) (gc e45 g44)) rfl rfl),fun _=>by exact .guard (!gone_27) 2 [98] (.plain rfl) (dZ _) rfl rfl (fun g46=>⟨g46,trivial⟩) (fun g46=>ar aN rfl rfl),fun _=>by exact .guard (!gone_27) 3 [95,99] (.plain rfl) (dZ _) rfl rfl (fun g47=>⟨g47,g47,trivial⟩) (fun g47=>l7 rfl rfl),fun _=>by exact .guard (!gone_27) 3 [94,100] (.plain rfl) (dZ _) rfl rfl (fun g48=>⟨g48,g48,trivial⟩) (fun g48=>cP dr rfl rfl),fun _=>by exact .guard (!gone_27) 3 [88,101] (.plain rfl) (dZ _) rfl rfl (fun g49=>⟨g49,g49,trivial⟩) (fun g49=>jg (pG x_25 (⟨min id0 x_30,max id0 x_31⟩:A2)) rfl rfl),fun _=>.p (cU (fun e=>by first | (rw [e]; rfl) | (simp only at e; rw [e]; rfl)) rfl rfl rfl rfl),trivial⟩ ⟨_,by exact .p oa,rfl⟩ rfl ?_
         refine Fin.av (Fin.ag ⟨[(1,_),(10,_),(11,_),(13,_),(14,_),(15,_),(16,_),(17,_),(18,_),(19,_)],[(104,_),(105,_),(106,_)]⟩ rfl (Fin.then (ab.aa ?_)))
         refine Oc om (Oc (bu rfl rfl) (Oc oa ?_))
         refine af.nil ?_
         exact Fin.cr [1,10,11,13,14,15,16,17,18,19] [104,105,106] (gone_27 || (decide (x_25 = (⟨min id0 x_30,max id0 x_31⟩:A2))),IntKind.i64.wrap (k_28 + 1)) (Option.some.inj h31) rfl
        ·refine ab.exit (Fin.aD ?_)
         obtain rfl:=hy32 _ (Option.some.inj h31).symm
         refine Fin.aD (Fin.aV ?_)
         exact Fin.join [1,10,11,13,14,15,16,17,18] [104,105,106] gone_27 rfl rfl
       ·rintro gone_26 hv
        subst v28
        refine ab.seq (ab.seq (ab.aa ?_))
        refine Oc om (Oc om (Oc (lp eC) ?_))
        obtain ⟨x_32,e50,h26⟩:=aP h26
        refine Oc (fY (dI e50) rn rfl CP.gJ) (Oc (qH und4 rfl rfl) ?_)
        refine af.ai ⟨[(1,_),(10,_),(11,_),(13,_),(14,_),(15,_),(16,_),(18,_),(108,B (gone_26 == x_32))],[(104,_),(105,_)]⟩ rfl (ab.ite h26 rfl (fun _ h26=>?_) (fun _ h26=>?_))
        ·refine ab.seq (ab.aa ?_)
         refine Oc oa (af.ai ⟨[(6,B false)],[]⟩ rfl (ab.ret (Fin.au (Fin.aO ?_))))
         obtain rfl:=Option.some.inj h26
         refine Fin.au ?_
         obtain rfl:=hy24 _ (Option.some.inj h23).symm
         refine Fin.au (Fin.aO (Fin.au ?_))
         obtain rfl:=Option.some.inj h
         refine Fin.ag ⟨[(6,_)],[]⟩ rfl (Fin.aw [.one (.bool false)] (.inl rfl) rfl (.cons (.tmp rfl) .nil) ⟨rfl,rfl⟩)
        ·refine ab.skip (Fin.ag ⟨[(1,_),(10,_),(11,_),(13,_),(14,_),(15,_),(16,_),(18,_)],[(104,_),(105,_)]⟩ rfl (Fin.then (ab.seq (ab.aa ?_))))
         refine Oc om (Oc (ee rfl) ?_)
         refine af.ai ⟨[(1,_),(10,_),(11,_),(13,_),(14,_),(15,_),(16,_),(110,B (!gone_26))],[(104,_),(105,_)]⟩ rfl (ab.ite h26 rfl (fun _ h26=>?_) (fun _ h26=>?_))
         ·refine ab.aa (Oc om (Oc (bu rfl rfl) (Oc oa ?_)))
          refine af.nil (Fin.av ?_)
          exact Fin.join [1,10,11,13,14,15,16] [104,105] (IntKind.i64.wrap (count_21 + 1)) (Option.some.inj h26) rfl
         ·refine ab.skip (Fin.av ?_)
          exact Fin.join [1,10,11,13,14,15,16] [104,105] count_21 (Option.some.inj h26) rfl
      ·rintro count_24 hv
       subst v25
       refine ab.aa (Oc om (Oc (bu rfl rfl) (Oc oa ?_)))
       refine af.nil ?_
       exact Fin.cr [1,10,11,13,14,15,16] [104,105] (count_24,IntKind.i64.wrap (i_22 + 1)) (Option.some.inj h23) rfl
     ·refine ab.exit (Fin.aD ?_)
      obtain rfl:=hy24 _ (Option.some.inj h23).symm
      refine Fin.aD (Fin.aV ?_)
      exact Fin.join [1,10,13,14,15] [104,105] count_21 rfl rfl
    ·rintro count_20 hv
     subst v20
     obtain ⟨v51,h52,h⟩:=aP h
     refine ab.dQ (v:=v51) (fun (_:Unit)=>⟨[(10,.b (.one (.sl 1 (x_13.map eI)))),(14,.b (.row 105)),(15,I count_20)],[(105,.row 40 2 (x_19.map (cx .i64)))]⟩) (fun z=>.inl z) ?_ ?_
     ·refine ab.seq (ab.aa ?_)
      refine Oc oa (af.ai ⟨[(1,_),(10,_),(13,_),(14,_),(15,_),(20,I 0)],[(104,_),(105,_)]⟩ rfl (ab.block (ab.c9 h52 (fun (k_33:Int)=>⟨[(1,I id0),(10,.b (.one (.sl 1 (x_13.map eI)))),(13,.b (.row 104)),(14,.b (.row 105)),(15,I count_20),(20,I k_33)],[(104,.row 40 2 (x_18.map (cx .i64))),(105,.row 40 2 (x_19.map (cx .i64)))]⟩) [1,10,13,14,15,20] [104,105] rfl ?_)))
      rintro k_33 o53 h54 hy55
      refine ab.seq (ab.seq (ab.aa ?_))
      refine Oc om (Oc om (Oc (a7 dU rfl (List.length_map _)) (Oc (bo rfl rfl) ?_)))
      refine af.ai ⟨[(1,_),(10,_),(13,_),(14,_),(15,_),(20,_),(116,B (decide (k_33 < (x_13.length:Int))))],[(104,_),(105,_)]⟩ rfl (ab.ite h54 rfl (fun _ h54=>?_) (fun _ h54=>?_))
      ·refine ab.skip (Fin.ag ⟨[(1,_),(10,_),(13,_),(14,_),(15,_),(20,_)],[(104,_),(105,_)]⟩ rfl (Fin.then (ab.seq (ab.block (ab.seq ?_)))))
       refine ab.ag ⟨[(1,_),(10,_),(13,_),(14,_),(15,_),(20,_)],[(104,_),(105,_)]⟩ rfl ?_
       obtain ⟨x_34,e56,h54⟩:=aP h54
       obtain ⟨x_35,e57,h54⟩:=aP h54
       refine ab.kn mixed [false,false,false,false,false,false,false,false,false,false,false,false,false,true,true] [I id0,.b (.one (.sl 1 (x_13.map eI))),I k_33,.b (.aL [.i x_34]),I x_34,I (min id0 x_34),I id0,.b (.one (.sl 1 (x_13.map eI))),I k_33,.b (.aL [.i x_35]),I x_35,I (max id0 x_35),.b (.agg [.i (min id0 x_34),.i (max id0 x_35)]),Pt 107 0,B true] [⟨[false,false,false,false,false,false,false,false,false,false,false,false,false,false,false],[(1,I id0),(10,.b (.one (.sl 1 (x_13.map eI)))),(13,.b (.row 104)),(14,.b (.row 105)),(15,I count_20),(20,I k_33)],[(104,.row 40 2 (x_18.map (cx .i64))),(105,.row 40 2 (x_19.map (cx .i64)))],[true,true,true,true,true,true,true,true,true,true,true,true,true,true,true],[],[14]⟩,⟨[false,false,false,false,false,false,false,false,false,false,false,false,false,true,false],[(1,I id0),(10,.b (.one (.sl 1 (x_13.map eI)))),(13,.b (.row 104)),(14,.b (.row 105)),(15,I count_20),(20,I k_33)],[(104,.row 40 2 (x_18.map (cx .i64))),(105,.row 40 2 (x_19.map (cx .i64))),(107,.box 40 ((cx .i64) A2.zero))],[true,true,true,true,true,true,true,true,true,true,true,true,true,true,true],[13],[]⟩,⟨[false,false,false,false,false,false,false,false,false,false,false,false,false,true,true],[(1,I id0),(10,.b (.one (.sl 1 (x_13.map eI)))),(13,.b (.row 104)),(14,.b (.row 105)),(15,I count_20),(20,I k_33)],[(104,.row 40 2 (x_18.map (cx .i64))),(105,.row 40 2 (x_19.map (cx .i64))),(107,.box 40 [.i (min id0 x_34),.i (max id0 x_35)])],[true,true,true,true,true,true,true,true,true,true,true,true,true,true,true],[0,1,2,3,4,5,6,7,8,9,10,11,12,13,14],[]⟩] rfl (⟨by kernel_rfl,⟨⟨I id0,fun _=>rfl,fun _=>.p (by exact aJ rfl)⟩,⟨.b (.one (.sl 1 (x_13.map eI))),fun _=>rfl,fun _=>.p (by exact aJ rfl)⟩,⟨I k_33,fun _=>rfl,fun _=>.p (by exact aJ rfl)⟩,⟨.b (.aL [.i x_34]),fun _=>rfl,fun _=>.p (by exact aY bK (a8 e56) (bQ (e:=eI) e56) rfl rfl)⟩,⟨I x_34,fun _=>rfl,fun _=>.p (by exact ar aN rfl rfl)⟩,⟨I (min id0 x_34),fun _=>rfl,fun _=>.p (by exact nD rfl rfl)⟩,⟨I id0,fun _=>rfl,fun _=>.p (by exact aJ rfl)⟩,⟨.b (.one (.sl 1 (x_13.map eI))),fun _=>rfl,fun _=>.p (by exact aJ rfl)⟩,⟨I k_33,fun _=>rfl,fun _=>.p (by exact aJ rfl)⟩,⟨.b (.aL [.i x_35]),fun _=>rfl,fun _=>.p (by exact aY bK (a8 e57) (bQ (e:=eI) e57) rfl rfl)⟩,⟨I x_35,fun _=>rfl,fun _=>.p (by exact ar aN rfl rfl)⟩,⟨I (max id0 x_35),fun _=>rfl,fun _=>.p (by exact l7 rfl rfl)⟩,⟨.b (.agg [.i (min id0 x_34),.i (max id0 x_35)]),fun _=>rfl,fun _=>.p (by exact cP dr rfl rfl)⟩,⟨_,[107],Pt 107 0,rfl,fun _=>rfl,rfl,rfl,fun _=>.qX [104,105,107] (by exact .p (by exact aW (k:=107) p9 rfl)) (by exact rfl)⟩,trivial,trivial⟩,⟨by kernel_rfl,⟨⟨I id0,fun _=>rfl,fun _=>.p (by exact aJ rfl)⟩,⟨.b (.one (.sl 1 (x_13.map eI))),fun _=>rfl,fun _=>.p (by exact aJ rfl)⟩,⟨I k_33,fun _=>rfl,fun _=>.p (by exact aJ rfl)⟩,⟨.b (.aL [.i x_34]),fun _=>rfl,fun _=>.p (by exact aY bK (a8 e56) (bQ (e:=eI) e56) rfl rfl)⟩,⟨I x_34,fun _=>rfl,fun _=>.p (by exact ar aN rfl rfl)⟩,⟨I (min id0 x_34),fun _=>rfl,fun _=>.p (by exact nD rfl rfl)⟩,⟨I id0,fun _=>rfl,fun _=>.p (by exact aJ rfl)⟩,⟨.b (.one (.sl 1 (x_13.map eI))),fun _=>rfl,fun _=>.p (by exact aJ rfl)⟩,⟨I k_33,fun _=>rfl,fun _=>.p (by exact aJ rfl)⟩,⟨.b (.aL [.i x_35]),fun _=>rfl,fun _=>.p (by exact aY bK (a8 e57) (bQ (e:=eI) e57) rfl rfl)⟩,⟨I x_35,fun _=>rfl,fun _=>.p (by exact ar aN rfl rfl)⟩,⟨I (max id0 x_35),fun _=>rfl,fun _=>.p (by exact l7 rfl rfl)⟩,⟨.b (.agg [.i (min id0 x_34),.i (max id0 x_35)]),fun _=>rfl,fun _=>.p (by exact cP dr rfl rfl)⟩,trivial,⟨_,[],.b (.one .any),rfl,(fun e=>by simp at e),rfl,rfl,fun _=>.qX [104,105,107] (by exact .p (by exact az eC rfl rfl rfl rfl (Nat.le_of_ble_eq_true rfl) rfl)) (by exact rfl)⟩,trivial⟩,⟨by kernel_rfl,⟨trivial,trivial,trivial,trivial,trivial,trivial,trivial,trivial,trivial,trivial,trivial,trivial,trivial,trivial,trivial,trivial⟩,trivial⟩⟩⟩) rfl rfl rfl [1,10,13,14,15,20,21] [104,105,107] (s':=⟨[(1,_),(10,_),(13,_),(14,_),(15,_),(20,_),(21,Pt 107 0)],[(104,_),(105,_),(107,.box 40 [.i (min id0 x_34),.i (max id0 x_35)])]⟩) rfl ?_
       refine ab.seq (ab.aa ?_)
       refine Oc om (Oc (lp eC) ?_)
       obtain ⟨x_36,e58,h54⟩:=aP h54
       refine Oc (fY (dI e58) rn rfl CP.gJ) (Oc om ?_)
       refine tm (!x_36) [] (fun g59=>trivial) (fun g59=>om) (af.ag ⟨[(1,_),(10,_),(13,_),(14,_),(15,_),(20,_),(21,_),(135,B x_36),(136,.opt (!x_36) (.row 105))],[(104,_),(105,_),(107,_)]⟩ rfl (tm (!x_36) [] (fun g60=>by exact trivial) (fun g60=>lp eC) ?_))
       obtain ⟨x_37,e62,h54⟩:=aP h54
       refine tm (!x_36) [136,137] (fun g61=>⟨g61,g61,trivial⟩) (fun g61=>fY (dI (gc e62 g61)) rn rfl CP.gJ) (tm (!x_36) [138] (fun g63=>⟨g63,trivial⟩) (fun g63=>ee rfl) (Oc (cU (fun e=>by first | (rw [e]; rfl) | (simp only at e; rw [e]; rfl)) rfl rfl rfl rfl) (af.ai ⟨[(1,_),(10,_),(13,_),(14,_),(15,_),(20,_),(140,B (x_36 || (!x_37)))],[(104,_),(105,_)]⟩ rfl (ab.ite h54 rfl (fun _ h54=>?_) (fun _ h54=>?_)))))
       ·refine ab.seq (ab.aa ?_)
        refine Oc oa (af.ai ⟨[(6,B false)],[]⟩ rfl (ab.ret (Fin.aO (Fin.au ?_))))
        obtain rfl:=hy55 _ (Option.some.inj h54).symm
        refine Fin.au (Fin.aO (Fin.au ?_))
        obtain rfl:=Option.some.inj h
        refine Fin.ag ⟨[(6,_)],[]⟩ rfl (Fin.aw [.one (.bool false)] (.inl rfl) rfl (.cons (.tmp rfl) .nil) ⟨rfl,rfl⟩)
       ·refine ab.skip (Fin.av (Fin.ag ⟨[(1,_),(10,_),(13,_),(14,_),(15,_),(20,_)],[(104,_),(105,_)]⟩ rfl (Fin.then (ab.aa ?_))))
        refine Oc om (Oc (bu rfl rfl) (Oc oa ?_))
        refine af.nil ?_
        exact Fin.cr [1,10,13,14,15,20] [104,105] (IntKind.i64.wrap (k_33 + 1)) (Option.some.inj h54) rfl
      ·refine ab.exit (Fin.aD ?_)
       obtain rfl:=hy55 _ (Option.some.inj h54).symm
       refine Fin.aD (Fin.aV ?_)
       exact Fin.join [10,14,15] [105] () rfl rfl
     ·rintro _ hv
      subst v51
      refine ab.seq (ab.aa ?_)
      obtain ⟨x_38,e64,h⟩:=aP h
      refine Oc (aj (cZ e64) rz rfl rfl) (Oc om ?_)
      refine ew x_38 [] (fun g65=>trivial) (fun g65=>om) (ew x_38 [143] (fun g66=>by exact ⟨g66,trivial⟩) (fun g66=>dM nz rfl rfl (List.length_map _)) (af.ag ⟨[(10,_),(15,_),(142,B x_38),(144,.opt x_38 (.one (.i (x_19.length:Int))))],[]⟩ rfl (ew x_38 [] (fun g67=>by exact trivial) (fun g67=>om) (ew x_38 [] (fun g68=>by exact trivial) (fun g68=>om) (ew x_38 [146] (fun g69=>by exact ⟨g69,trivial⟩) (fun g69=>a7 dU rfl (List.length_map _)) ?_)))))
      refine ew x_38 [145,147] (fun g70=>⟨g70,g70,trivial⟩) (fun g70=>bu rfl rfl) (ew x_38 [144,148] (fun g71=>⟨g71,g71,trivial⟩) (fun g71=>cR rfl rfl) (af.mO h rfl (aI (fun e=>e) rfl rfl rfl rfl) (fun x_39 h=>?_)))
      refine Oc oa (af.ai ⟨[(6,B x_39)],[]⟩ rfl (ab.ret ?_))
      obtain rfl:=Option.some.inj h
      refine Fin.ag ⟨[(6,_)],[]⟩ rfl (Fin.aw [.one (.bool x_39)] (.inl rfl) rfl (.cons (.tmp rfl) .nil) ⟨rfl,rfl⟩)
end Go.Proofs.YtagpkeehkcopaaaGreat

