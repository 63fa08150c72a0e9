/- printed walks -/
import Derived.Test.YtagpkeehkcopaaaGreatW1
namespace Go.Proofs.YtagpkeehkcopaaaGreat
open Go.Sk Go
set_option maxHeartbeats 4000000
set_option maxRecDepth 4000
set_option linter.unusedSimpArgs false
set_option linter.unusedVariables false
def dc (F:Nat) (a0:List Int) (b0:List Int):Option Bool :=
 if (decide ((a0.length:Int) ≠ (b0.length:Int))) = true then (some false) else (Option.bind (iter F (fun i_1=>if (decide (i_1 < (a0.length:Int))) = true then ((a8 a0 i_1).bind fun x_2=>(a8 b0 i_1).bind fun x_3=>if (decide (x_2 ≠ x_3)) = true then (some (.inr (.inr false))) else (some (.inl (IntKind.i64.wrap (i_1 + 1))))) else (some (.inr (.inl ())))) 0) (cm (fun _=>some true) (fun y=>some y)))
theorem eX {F:Nat} {a0:List Int} {b0:List Int} {r:Bool} (h:dc F a0 b0 = some r):an Tryz.prog [] 32 [] [.one (.sl 1 (a0.map eI)),.one (.sl 1 (b0.map eI))] (Is [] (.b (.one (.bool r)))):=by
 unfold dc at h
 refine an.intro 26 Tryz.func32 Tryz.ntmps32 rfl (by simp) fun E=>?_
 show ab _ E ⟨26,[],[],[]⟩ _ ⟨[(0,.b (.one (.sl 1 (a0.map eI)))),(1,.b (.one (.sl 1 (b0.map eI))))],[]⟩ _
 refine ab.seq (ab.aa ?_)
 refine Oc oa (af.ai ⟨[(0,.b (.one (.sl 1 (a0.map eI)))),(1,.b (.one (.sl 1 (b0.map eI))))],[]⟩ rfl (ab.seq (ab.seq (ab.aa ?_))))
 refine Oc om (Oc (bj fb rfl (List.length_map _)) (Oc om (Oc (bj fb rfl (List.length_map _)) (Oc (kY rfl rfl) ?_))))
 refine af.ai ⟨[(0,_),(1,_),(10,B (decide ((a0.length:Int) ≠ (b0.length:Int))))],[]⟩ rfl (ab.ite h rfl (fun _ h=>?_) (fun _ h=>?_))
 ·refine ab.seq (ab.aa ?_)
  refine Oc oa (af.ai ⟨[(4,B false)],[]⟩ rfl (ab.ret (Fin.aq ?_)))
  obtain rfl:=Option.some.inj h
  refine Fin.ag ⟨[(4,_)],[]⟩ rfl (Fin.au [.one (.bool false)] (.inl rfl) rfl (.cons (.tmp rfl) .nil) ⟨rfl,rfl⟩)
 ·refine ab.skip (Fin.ag ⟨[(0,_),(1,_)],[]⟩ rfl (Fin.then ?_))
  obtain ⟨v1,h2,h⟩:=aO h
  refine ab.dR (v:=v1) (fun (_:Unit)=>⟨[],[]⟩) (fun z=>.inl z) ?_ ?_
  ·refine ab.seq (ab.aa ?_)
   refine Oc oa (af.ai ⟨[(0,_),(1,_),(5,I 0)],[]⟩ rfl (ab.block (ab.c6 h2 (fun (i_1:Int)=>⟨[(0,.b (.one (.sl 1 (a0.map eI)))),(1,.b (.one (.sl 1 (b0.map eI)))),(5,I i_1)],[]⟩) [0,1,5] [] rfl ?_)))
   rintro i_1 o3 h4 hy5
   refine ab.seq (ab.seq (ab.aa ?_))
   refine Oc om (Oc om (Oc (bj fb rfl (List.length_map _)) (Oc (bf rfl rfl) ?_)))
   refine af.ai ⟨[(0,_),(1,_),(5,_),(14,B (decide (i_1 < (a0.length:Int))))],[]⟩ rfl (ab.ite h4 rfl (fun _ h4=>?_) (fun _ h4=>?_))
   ·refine ab.skip (Fin.ag ⟨[(0,_),(1,_),(5,_)],[]⟩ rfl (Fin.then (ab.seq (ab.block (ab.seq ?_)))))
    refine ab.ag ⟨[(0,_),(1,_),(5,_)],[]⟩ rfl ?_
    obtain ⟨x_2,e6,h4⟩:=aO h4
    obtain ⟨x_3,e7,h4⟩:=aO h4
    refine ab.bK mixed 9 [.b (.one (.sl 1 (a0.map eI))),I i_1,.b (.aK [.i x_2]),I x_2,.b (.one (.sl 1 (b0.map eI))),I i_1,.b (.aK [.i x_3]),I x_3,B (decide (x_2 ≠ x_3))] [0,1,5,25] [] (s':=⟨[(0,_),(1,_),(5,_),(25,B (decide (x_2 ≠ x_3)))],[]⟩) rfl ⟨fun _=>.p om,fun _=>.p om,fun _=>.p (bd cp (a7 e6) (cy (e:=eI) e6) rfl rfl),fun _=>.p (aw aQ rfl rfl),fun _=>.p om,fun _=>.p om,fun _=>.p (bd cp (a7 e7) (cy (e:=eI) e7) rfl rfl),fun _=>.p (aw aQ rfl rfl),fun _=>.p (kY rfl rfl),trivial⟩ rfl rfl (ab.ite h4 rfl (fun _ h4=>?_) (fun _ h4=>?_))
    ·refine ab.seq (ab.aa ?_)
     refine Oc oa (af.ai ⟨[(4,B false)],[]⟩ rfl (ab.ret (Fin.aL (Fin.aq ?_))))
     obtain rfl:=hy5 _ (Option.some.inj h4).symm
     refine Fin.aq (Fin.aL (Fin.aq ?_))
     obtain rfl:=Option.some.inj h
     refine Fin.ag ⟨[(4,_)],[]⟩ rfl (Fin.au [.one (.bool false)] (.inl rfl) rfl (.cons (.tmp rfl) .nil) ⟨rfl,rfl⟩)
    ·refine ab.skip (Fin.ax (Fin.ag ⟨[(0,_),(1,_),(5,_)],[]⟩ rfl (Fin.then (ab.aa ?_))))
     refine Oc om (Oc (bB rfl rfl) (Oc oa ?_))
     refine af.nil ?_
     exact Fin.cq [0,1,5] [] (IntKind.i64.wrap (i_1 + 1)) (Option.some.inj h4) rfl
   ·refine ab.exit (Fin.aA ?_)
    obtain rfl:=hy5 _ (Option.some.inj h4).symm
    refine Fin.aA (Fin.aW ?_)
    exact Fin.join [] [] () rfl rfl
  ·rintro _ hv
   subst v1
   refine ab.seq (ab.aa ?_)
   refine Oc oa (af.ai ⟨[(4,B true)],[]⟩ rfl (ab.ret ?_))
   obtain rfl:=Option.some.inj h
   refine Fin.ag ⟨[(4,_)],[]⟩ rfl (Fin.au [.one (.bool true)] (.inl rfl) rfl (.cons (.tmp rfl) .nil) ⟨rfl,rfl⟩)
def dJ (F:Nat) (s0:dd):Option (List A2) :=
 Option.bind (se (fun _=>some true) s0.ids.root) (fun xs_1=>Option.bind (each (fun outf0_3=>fun x_2=>(cz F s0 x_2.b).bind fun x_4=>Option.bind (iter F (dS fun outf0_5 x_6=>if (decide (x_6 < (x_4.length:Int))) = true then (Option.bind ((a8 x_4 x_6).bind fun x_9=>if (decide (x_2.id < x_9)) = true then ((jy outf0_5 [(⟨x_2.id,x_9⟩:A2)]).bind fun x_10=>some x_10) else (some outf0_5)) (fun outf0_8=>some (.inl (outf0_8,IntKind.i64.wrap (x_6 + 1))))) else (some (.inr outf0_5))) (outf0_3,0)) (fun outf0_7=>some (.inl outf0_7))) (xs_1) []) (cm (fun outf0_3=>some outf0_3) (fun (_:Unit)=>none)))
theorem gS {F:Nat} {s0:dd} {r:(List A2)} (h:dJ F s0 = some r):an Tryz.prog [] 26 [] [.agg (aI s0)] (Is [(51,.row 40 2 (r.map (dv .i64)))] (.b (.row 51))):=by
 unfold dJ at h
 refine an.tm 34 Tryz.func26 Tryz.ntmps26 rfl (by simp) fun E=>?_
 show ab _ E ⟨34,[],[],[]⟩ _ ⟨[(0,.b (.agg (aI s0)))],[]⟩ _
 refine ab.seq (ab.aa ?_)
 refine Oc (bI (k:=101) rfl rfl) (Oc oa ?_)
 refine af.ai ⟨[(1,Pt 101 0)],[(101,.box 49 (aI s0))]⟩ rfl (ab.seq (ab.aa ?_))
 refine Oc (ba (k:=102) tR rfl) (af.ai ⟨[(1,_),(3,Pt 102 0)],[(101,_),(102,.box 35 [.nil])]⟩ rfl (ab.seq (ab.seq (ab.aa ?_))))
 refine Oc (ar ko rfl rfl) (Oc (ar fA rfl rfl) (Oc (aH br rfl rfl rfl) (Oc (ak qk tu rfl rfl) ?_)))
 refine af.ai ⟨[(1,_),(3,_),(10,.b (.one (.eZ 77 [CP.rp [.tr ae s0.ids.root],CP.rp [.raw (.func (.func 58) #[] #[])]])))],[(101,_),(102,_)]⟩ rfl ?_
 obtain ⟨xs_1,e1,h⟩:=aO h
 refine ab.ag ⟨[(1,Pt 101 0),(3,Pt 102 0),(10,.b (.one (.eZ 77 [CP.rp [.tr ae s0.ids.root],CP.rp [.raw (.func (.func 58) #[] #[])]])))],[(101,.box 49 (aI s0)),(102,.box 35 [.nil])]⟩ rfl (ab.toX 102 rfl (ab.gY 102 0 106 2 40 rfl rfl (by decide) (by decide) rfl (ab.ag ⟨[(1,_),(3,_),(10,_)],[(101,_),(102,.bW 35 [.row 106]),(106,.row 40 2 ([].map (dv .i64)))]⟩ rfl (ab.tf _ sT _ _ (fun (outf0_3:List A2)=>[(101,.box 49 (aI s0)),(102,.bW 35 [.row 106]),(106,.row 40 2 (outf0_3.map (dv .i64)))]) (fun (_:Unit)=>([]:List (Nat × OC))) (fun (outf0_3:List A2)=>fun x_2=>⟨[(1,Pt 101 0),(3,Pt 102 0),(4,Pt 108 0)],[(101,.box 49 (aI s0)),(102,.bW 35 [.row 106]),(106,.row 40 2 (outf0_3.map (dv .i64))),(108,.box 87 (ao x_2))]⟩) h (ql pD e1) tp rfl rfl rfl (fun _=>rfl) (fun _=>rfl) (fun _=>rfl) (fun _ _=>rfl) (fun _ _=>rfl) rfl (fun _=>rfl) ?_ ?_ ?_ ?_))))
 ·rintro E l outf0_3 x_2 z _ h2
  refine aX.keep [1,3,10,11] [101,102,106] (s':=⟨[(1,Pt 101 0),(3,Pt 102 0),(10,.b (.one (.eZ 77 [CP.rp [.tr ae s0.ids.root],CP.rp [.raw (.func (.func 58) #[] #[])]]))),(11,.b (.agg (ao x_2)))],[(101,.box 49 (aI s0)),(102,.bW 35 [.row 106]),(106,.row 40 2 (outf0_3.map (dv .i64)))]⟩) rfl (aX.aa (.inr ⟨_,rfl⟩) (Oc (ba (k:=108) gH rfl) (Oc (aF bt rfl rfl rfl rfl (Nat.le_of_ble_eq_true rfl) rfl) ?_)))
  refine af.nil ?_
  exact Fin.ag ⟨[(1,_),(3,_),(4,Pt 108 0)],[(101,_),(102,_),(106,_),(108,.box 87 (ao x_2))]⟩ rfl (fun a w hr=>hr)
 ·rintro E l outf0_3 x_2 z _ h2
  refine aX.block (aX.seq (aX.aa (.inr ⟨_,rfl⟩) (Oc (lp aT) (Oc (ar gA rfl rfl) (Oc (lp aC) ?_)))))
  obtain ⟨x_4,e3,h2⟩:=aO h2
  refine Oc (cW (own_a:=[]) ((dg e3).sw 51 109) o7 rfl trivial rfl rfl) (Oc (eQ fb rfl rfl (List.length_map _)) (Oc om ?_))
  refine af.nil (Fin.ag ⟨[(1,Pt 101 0),(3,Pt 102 0),(4,Pt 108 0),(15,.b (.row 109)),(16,I (x_4.length:Int)),(17,I 0)],[(101,.box 49 (aI s0)),(102,.bW 35 [.row 106]),(106,.row 40 2 (outf0_3.map (dv .i64))),(108,.box 87 (ao x_2)),(109,.row 3 1 (x_4.map eI))]⟩ rfl (Fin.gg ?_ (fun ⟨_,_,hl⟩=>hl)))
  refine aX.block ?_
  obtain ⟨v4,h5,h2⟩:=aO h2
  refine aX.c6 h5 (dS fun (outf0_5:List A2) (x_6:Int)=>⟨[(1,Pt 101 0),(3,Pt 102 0),(4,Pt 108 0),(15,.b (.row 109)),(16,I (x_4.length:Int)),(17,I x_6)],[(101,.box 49 (aI s0)),(102,.bW 35 [.row 106]),(106,.row 40 2 (outf0_5.map (dv .i64))),(108,.box 87 (ao x_2)),(109,.row 3 1 (x_4.map eI))]⟩) [1,3,4,15,16,17] [101,102,106,108,109] rfl ?_
  rintro ⟨outf0_5,x_6⟩ o6 h7 hy8
  refine aX.seq (aX.aa (.inr ⟨_,rfl⟩) (Oc (bf rfl rfl) (af.nil (Fin.ag ⟨[(1,_),(3,_),(4,_),(15,_),(16,_),(17,I x_6),(18,B (decide (x_6 < (x_4.length:Int))))],[(101,_),(102,_),(106,.row 40 2 (outf0_5.map (dv .i64))),(108,_),(109,_)]⟩ rfl (Fin.gg ?_ (fun ⟨_,_,hl⟩=>hl))))))
  refine aX.seq (aX.ite h7 rfl (fun _ h7=>?_) (fun _ h7=>?_))
  ·refine aX.skip (Fin.ag ⟨[(1,_),(3,_),(4,_),(15,_),(16,_),(17,_)],[(101,_),(102,_),(106,_),(108,_),(109,_)]⟩ rfl (Fin.gg ?_ (fun ⟨_,_,hl⟩=>hl)))
   obtain ⟨v9,h10,h7⟩:=aO h7
   refine aX.dR (v:=v9) (fun (outf0_8:List A2)=>⟨[(1,Pt 101 0),(3,Pt 102 0),(4,Pt 108 0),(15,.b (.row 109)),(16,I (x_4.length:Int)),(17,I x_6)],[(101,.box 49 (aI s0)),(102,.bW 35 [.row 106]),(106,.row 40 2 (outf0_8.map (dv .i64))),(108,.box 87 (ao x_2)),(109,.row 3 1 (x_4.map eI))]⟩) (fun z=>z) ?_ ?_
   ·refine aX.block (aX.seq (aX.aa (.inr ⟨_,rfl⟩) ?_))
    obtain ⟨x_9,e11,h10⟩:=aO h10
    refine Oc (dC cp (a7 e11) (iQ e11) rfl rfl rfl rfl) (Oc (fD (i:=(x_6:Int).toNat) (f:=0) aQ rfl rfl rfl (cy (e:=eI) e11) rfl) (Oc oa ?_))
    refine af.nil (Fin.ag ⟨[(1,_),(3,_),(4,_),(6,I x_9),(15,_),(16,_),(17,_)],[(101,_),(102,_),(106,_),(108,_),(109,_)]⟩ rfl (Fin.gg ?_ (fun ⟨_,_,hl⟩=>hl)))
    refine aX.seq (aX.aa (.inr ⟨_,rfl⟩) (Oc om (Oc (ar dK rfl rfl) (Oc (aH aQ rfl rfl rfl) (Oc (ij rfl rfl) ?_)))))
    refine af.nil (Fin.ag ⟨[(1,_),(3,_),(4,_),(6,_),(15,_),(16,_),(17,_),(24,B (decide (x_2.id < x_9)))],[(101,_),(102,_),(106,_),(108,_),(109,_)]⟩ rfl (Fin.gg ?_ (fun ⟨_,_,hl⟩=>hl)))
    refine aX.ite h10 rfl (fun _ h10=>?_) (fun _ h10=>?_)
    ·refine aX.aa (.inr ⟨_,rfl⟩) (Oc (gP pf rfl rfl rfl) (Oc (ar dK rfl rfl) (Oc (aH aQ rfl rfl rfl) (Oc om (Oc (di ef rfl rfl) (Oc (b9 (k:=110) (es:=[(⟨x_2.id,x_9⟩:A2)].map (dv .i64)) fY rfl rfl (cB fun _=>rfl) rfl (by decide) (by decide) rfl) ?_))))))
     refine af.forget 102 0 rfl ?_
     obtain ⟨x_10,e12,h10⟩:=aO h10
     refine Oc (eV fY (oA e12) (oz e12) rfl rfl rfl rfl (kh e12) rfl) (Oc (mP pf rfl rfl rfl rfl (Nat.le_of_ble_eq_true rfl) rfl) ?_)
     refine af.nil (Fin.ax ?_)
     exact Fin.join [1,3,4,15,16,17] [101,102,106,108,109] x_10 (Option.some.inj h10) rfl
    ·refine aX.skip (Fin.ax ?_)
     exact Fin.join [1,3,4,15,16,17] [101,102,106,108,109] outf0_5 (Option.some.inj h10) rfl
   ·rintro outf0_8 hv
    subst v9
    refine aX.aa (.inr ⟨_,rfl⟩) (Oc (bB rfl rfl) (Oc om ?_))
    refine af.nil ?_
    exact Fin.cq [1,3,4,15,16,17] [101,102,106,108,109] (outf0_8,IntKind.i64.wrap (x_6 + 1)) (Option.some.inj h7) rfl
  ·refine aX.exit (Fin.aA ?_)
   obtain rfl:=hy8 _ (Option.some.inj h7).symm
   refine Fin.aA (Fin.aW (Fin.ax ?_))
   obtain rfl:=Option.some.inj h2
   exact Fin.ag ⟨[],[(101,_),(102,_),(106,_)]⟩ rfl (fun a w hr=>⟨_,rfl,hr⟩)
 ·rintro E D outf0_3 h13
  refine ab.seq (ab.aa ?_)
  refine Oc (gP pf rfl rfl rfl) (Oc oa ?_)
  refine af.ai ⟨[(2,.b (.row 106))],[(106,.row 40 2 (outf0_3.map (dv .i64)))]⟩ rfl (ab.ret ?_)
  obtain rfl:=Option.some.inj h13
  refine Fin.ag ⟨[(2,.b (.row 106))],[(106,.row 40 2 (outf0_3.map (dv .i64)))]⟩ rfl (Fin.rename 106 51 rfl (by decide) rfl (Fin.ag ⟨[(2,.b (.row 51))],[(51,.row 40 2 (outf0_3.map (dv .i64)))]⟩ rfl ?_))
  exact Fin.result [.row 51] (.inl rfl) rfl (.cons (.tmp rfl) .nil) ⟨rfl,rfl⟩
 ·rintro E D ⟨⟩ h13
  cases h13
def bM (F:Nat):Option Bool :=
 (bO F 0 0 0 4 4 4).bind fun x_1=>(bO F 4 4 4 6 6 6).bind fun x_2=>(bO F 5 0 0 9 9 3).bind fun x_3=>(b4 F x_1 x_2).bind fun x_4=>(bN x_4 (b4 F x_1 x_3)).bind fun x_5=>(bN (x_4 && (!x_5)) (b4 F x_2 x_3)).bind fun x_6=>(bN ((x_4 && (!x_5)) && (!x_6)) (gy F x_1 x_3)).bind fun x_7=>(bN ((x_4 && (!x_5)) && (!x_6)) (bO F 0 0 0 9 9 4)).bind fun x_8=>Option.bind (gz F x_1 1) (dS fun x_9 x_10=>Option.bind (gz F x_3 1) (dS fun x_11 x_12=>Option.bind (cP F [x_1,x_2,x_3]) (dS fun x_13 x_14=>Option.bind (cP F [x_1,x_11,x_2]) (dS fun x_15 x_16=>fy (((decide (x_10 = 0)) && (decide (x_12 = 0))) && (decide (x_14 = 0))) fun x_17=>(a6 F x_13 [(⟨0,1⟩:A2)]).bind fun x_18=>(bN x_18 (a6 F x_15 [(⟨0,1⟩:A2),(⟨0,2⟩:A2),(⟨1,2⟩:A2)])).bind fun x_19=>(jS F).bind fun x_20=>Option.bind (b5 F x_20 7 x_1) (dS fun x_21 x_22=>Option.bind (b5 F x_21 3 x_2) (dS fun x_23 x_24=>Option.bind (dr F x_23 x_1) (dS fun x_25 x_26=>Option.bind (dr F x_23 x_3) (dS fun x_27 x_28=>Option.bind (ep F x_23 3 x_3) (un4 fun x_29 x_30 x_31 x_32=>Option.bind (b5 F x_29 3 x_1) (dS fun x_33 x_34=>Option.bind (b7 F x_29 5) (dS fun x_35 x_36=>fy (((decide (x_22 = 0)) && (decide (x_24 = 0))) && (decide (x_26 = 0))) fun x_37=>(bN ((x_37 && (decide (x_28 = 0))) && (decide (x_32 = 0))) (dc F x_25 [3,7])).bind fun x_38=>fy (((x_37 && (decide (x_28 = 0))) && (decide (x_32 = 0))) && x_38) fun x_39=>fy ((x_39 && (decide ((x_27.length:Int) = 0))) && (decide ((x_30.length:Int) = 0))) fun x_40=>(bN x_40 (dc F x_31 [7])).bind fun x_41=>(bN ((((x_4 && (!x_5)) && (!x_6)) && (decide (x_7 = x_8))) && (x_17 && (decide (x_16 = 0)))) (bO F (-1) (-1) (-1) 5 5 5)).bind fun x_42=>(bN (((((((x_4 && (!x_5)) && (!x_6)) && (decide (x_7 = x_8))) && (x_17 && (decide (x_16 = 0)))) && (decide (x_9 = x_42))) && (x_18 && x_19)) && (x_40 && x_41)) (dJ F x_29)).bind fun x_43=>(bN ((((((((x_4 && (!x_5)) && (!x_6)) && (decide (x_7 = x_8))) && (x_17 && (decide (x_16 = 0)))) && (decide (x_9 = x_42))) && (x_18 && x_19)) && (x_40 && x_41)) && (decide ((x_43.length:Int) = 0))) (dJ F x_23)).bind fun x_44=>(bN ((((((((x_4 && (!x_5)) && (!x_6)) && (decide (x_7 = x_8))) && (x_17 && (decide (x_16 = 0)))) && (decide (x_9 = x_42))) && (x_18 && x_19)) && (x_40 && x_41)) && (decide ((x_43.length:Int) = 0))) (a6 F x_44 [(⟨3,7⟩:A2)])).bind fun x_45=>some (((((((((((x_4 && (!x_5)) && (!x_6)) && (decide (x_7 = x_8))) && (x_17 && (decide (x_16 = 0)))) && (decide (x_9 = x_42))) && (x_18 && x_19)) && (x_40 && x_41)) && (decide ((x_43.length:Int) = 0))) && x_45) && (decide (x_34 = 6))) && (decide (x_36 = 5))))))))))))))
theorem er {F:Nat} {r:Bool} (h:bM F = some r):an Tryz.prog [] 15 [] [] (Is [] (.b (.one (.bool r)))):=by
 unfold bM at h
 refine an.intro 225 Tryz.func15 Tryz.ntmps15 rfl (by simp) fun E=>?_
 show ab _ E ⟨225,[],[],[]⟩ _ ⟨[],[]⟩ _
 refine ab.seq (ab.aa ?_)
 refine Oc oa (af.ai ⟨[],[]⟩ rfl (ab.seq (ab.aa ?_)))
 obtain ⟨x_1,e1,h⟩:=aO h
 refine Oc (ak (cf e1) ns rfl rfl) (Oc (ba (k:=101) fm rfl) (Oc (aF aC rfl rfl rfl rfl (Nat.le_of_ble_eq_true rfl) rfl) ?_))
 refine af.ai ⟨[(1,Pt 101 0)],[(101,.box 25 (aj x_1))]⟩ rfl (ab.seq (ab.aa ?_))
 obtain ⟨x_2,e2,h⟩:=aO h
 refine Oc (ak (cf e2) ns rfl rfl) (Oc (ba (k:=102) fm rfl) (Oc (aF aC rfl rfl rfl rfl (Nat.le_of_ble_eq_true rfl) rfl) ?_))
 refine af.ai ⟨[(1,_),(2,Pt 102 0)],[(101,_),(102,.box 25 (aj x_2))]⟩ rfl (ab.seq (ab.aa ?_))
 obtain ⟨x_3,e3,h⟩:=aO h
 refine Oc (ak (cf e3) ns rfl rfl) (Oc (ba (k:=103) fm rfl) (Oc (aF aC rfl rfl rfl rfl (Nat.le_of_ble_eq_true rfl) rfl) ?_))
 refine af.ai ⟨[(1,_),(2,_),(3,Pt 103 0)],[(101,_),(102,_),(103,.box 25 (aj x_3))]⟩ rfl (ab.seq (ab.aa ?_))
 refine Oc (lp aC) (Oc (lp aC) ?_)
 obtain ⟨x_4,e4,h⟩:=aO h
 refine Oc (ak (c5 e4) lX rfl rfl) (Oc om ?_)
 refine eO x_4 [] (fun g5=>trivial) (fun g5=>lp aC) (af.ag ⟨[(1,_),(2,_),(3,_),(37,B x_4),(38,.opt x_4 (.agg (aj x_1)))],[(101,_),(102,_),(103,_)]⟩ rfl (eO x_4 [] (fun g6=>by exact trivial) (fun g6=>lp aC) ?_))
 obtain ⟨x_5,e8,h⟩:=aO h
 refine eO x_4 [38,39] (fun g7=>⟨g7,g7,trivial⟩) (fun g7=>ak (c5 (gc e8 g7)) lX rfl rfl) (eO x_4 [40] (fun g9=>⟨g9,trivial⟩) (fun g9=>dU rfl) (Oc (aG (fun e=>e) rfl rfl rfl rfl) (Oc om ?_)))
 refine eO (x_4 && (!x_5)) [] (fun g10=>trivial) (fun g10=>lp aC) (af.ag ⟨[(1,_),(2,_),(3,_),(43,B (x_4 && (!x_5))),(44,.opt (x_4 && (!x_5)) (.agg (aj x_2)))],[(101,_),(102,_),(103,_)]⟩ rfl (eO (x_4 && (!x_5)) [] (fun g11=>by exact trivial) (fun g11=>lp aC) ?_))
 obtain ⟨x_6,e13,h⟩:=aO h
 refine eO (x_4 && (!x_5)) [44,45] (fun g12=>⟨g12,g12,trivial⟩) (fun g12=>ak (c5 (gc e13 g12)) lX rfl rfl) (eO (x_4 && (!x_5)) [46] (fun g14=>⟨g14,trivial⟩) (fun g14=>dU rfl) (Oc (aG (fun e=>e) rfl rfl rfl rfl) (Oc om ?_)))
 refine eO ((x_4 && (!x_5)) && (!x_6)) [] (fun g15=>trivial) (fun g15=>lp aC) (af.ag ⟨[(1,_),(2,_),(3,_),(49,B ((x_4 && (!x_5)) && (!x_6))),(50,.opt ((x_4 && (!x_5)) && (!x_6)) (.agg (aj x_1)))],[(101,_),(102,_),(103,_)]⟩ rfl (eO ((x_4 && (!x_5)) && (!x_6)) [] (fun g16=>by exact trivial) (fun g16=>lp aC) ?_))
 obtain ⟨x_7,e18,h⟩:=aO h
 refine eO ((x_4 && (!x_5)) && (!x_6)) [50,51] (fun g17=>⟨g17,g17,trivial⟩) (fun g17=>ak (jm (gc e18 g17)) tD rfl rfl) ?_
 obtain ⟨x_8,e20,h⟩:=aO h
 refine eO ((x_4 && (!x_5)) && (!x_6)) [] (fun g19=>trivial) (fun g19=>ak (cf (gc e20 g19)) ns rfl rfl) (eO ((x_4 && (!x_5)) && (!x_6)) [52,53] (fun g21=>⟨g21,g21,trivial⟩) (fun g21=>nN (r4 x_7 x_8) rfl rfl) (Oc (aG (fun e=>e) rfl rfl rfl rfl) (Oc oa ?_)))
 refine af.ai ⟨[(1,_),(2,_),(3,_),(4,B (((x_4 && (!x_5)) && (!x_6)) && (decide (x_7 = x_8))))],[(101,_),(102,_),(103,_)]⟩ rfl (ab.seq (ab.aa ?_))
 refine Oc (lp aC) ?_
 obtain ⟨⟨x_9,x_10⟩,e22,h⟩:=aO h
 refine Oc (ak (jo e22) tF rfl rfl) (Oc om (Oc (ay rfl rfl) (Oc (ay rfl rfl) ?_)))
 refine af.ag ⟨[(1,_),(2,_),(3,_),(4,_),(59,.b (.agg (aj x_9))),(60,I x_10)],[(101,_),(102,_),(103,_)]⟩ rfl (Oc (ba (k:=104) fm rfl) (Oc (aF aC rfl rfl rfl rfl (Nat.le_of_ble_eq_true rfl) rfl) (Oc oa ?_)))
 refine af.ai ⟨[(1,_),(2,_),(3,_),(4,_),(5,Pt 104 0),(6,I x_10)],[(101,_),(102,_),(103,_),(104,.box 25 (aj x_9))]⟩ rfl (ab.seq (ab.aa ?_))
 refine Oc (lp aC) ?_
 obtain ⟨⟨x_11,x_12⟩,e23,h⟩:=aO h
 refine Oc (ak (jo e23) tF rfl rfl) (Oc om (Oc (ay rfl rfl) (Oc (ay rfl rfl) ?_)))
 refine af.ag ⟨[(1,_),(2,_),(3,_),(4,_),(5,_),(6,_),(64,.b (.agg (aj x_11))),(65,I x_12)],[(101,_),(102,_),(103,_),(104,_)]⟩ rfl (Oc (ba (k:=105) fm rfl) (Oc (aF aC rfl rfl rfl rfl (Nat.le_of_ble_eq_true rfl) rfl) (Oc oa ?_)))
 refine af.ai ⟨[(1,_),(2,_),(3,_),(4,_),(5,_),(6,_),(7,Pt 105 0),(8,I x_12)],[(101,_),(102,_),(103,_),(104,_),(105,.box 25 (aj x_11))]⟩ rfl (ab.seq (ab.aa ?_))
 refine Oc (lp aC) (Oc (lp aC) (Oc (lp aC) (Oc (b9 (k:=106) (es:=[x_1,x_2,x_3].map aj) ig rfl rfl (cB fun _=>rfl) rfl (by decide) (by decide) rfl) ?_)))
 refine af.df 106 rfl (af.ag ⟨[(1,Pt 101 0),(2,Pt 102 0),(3,Pt 103 0),(4,B (((x_4 && (!x_5)) && (!x_6)) && (decide (x_7 = x_8)))),(5,Pt 104 0),(6,I x_10),(7,Pt 105 0),(8,I x_12),(70,.b (.one (.sl 6 ([x_1,x_2,x_3].map aj))))],[(101,.box 25 (aj x_1)),(102,.box 25 (aj x_2)),(103,.box 25 (aj x_3)),(104,.box 25 (aj x_9)),(105,.box 25 (aj x_11))]⟩ rfl ?_)
 obtain ⟨⟨x_13,x_14⟩,e24,h⟩:=aO h
 refine Oc (cW (fG 107 e24) qW rfl trivial rfl rfl) (Oc om (Oc (ay rfl rfl) (Oc (ay rfl rfl) (Oc oa (Oc oa ?_)))))
 refine af.ai ⟨[(1,_),(2,_),(3,_),(4,_),(5,_),(6,_),(7,_),(8,_),(9,.b (.row 107)),(10,I x_14)],[(101,_),(102,_),(103,_),(104,_),(105,_),(107,.row 40 2 (x_13.map (dv .i64)))]⟩ rfl (ab.seq (ab.aa ?_))
 refine Oc (lp aC) (Oc (lp aC) (Oc (lp aC) (Oc (b9 (k:=108) (es:=[x_1,x_11,x_2].map aj) ig rfl rfl (cB fun _=>rfl) rfl (by decide) (by decide) rfl) ?_)))
 refine af.df 108 rfl (af.ag ⟨[(1,Pt 101 0),(2,Pt 102 0),(3,Pt 103 0),(4,B (((x_4 && (!x_5)) && (!x_6)) && (decide (x_7 = x_8)))),(5,Pt 104 0),(6,I x_10),(8,I x_12),(9,.b (.row 107)),(10,I x_14),(78,.b (.one (.sl 6 ([x_1,x_11,x_2].map aj))))],[(101,.box 25 (aj x_1)),(102,.box 25 (aj x_2)),(103,.box 25 (aj x_3)),(104,.box 25 (aj x_9)),(107,.row 40 2 (x_13.map (dv .i64)))]⟩ rfl ?_)
 obtain ⟨⟨x_15,x_16⟩,e25,h⟩:=aO h
 refine Oc (cW (fG 109 e25) qW rfl trivial rfl rfl) (Oc om (Oc (ay rfl rfl) (Oc (ay rfl rfl) (Oc oa (Oc oa ?_)))))
 refine af.ai ⟨[(1,_),(2,_),(3,_),(4,_),(5,_),(6,_),(8,_),(9,_),(10,_),(11,.b (.row 109)),(12,I x_16)],[(101,_),(102,_),(103,_),(104,_),(107,_),(109,.row 40 2 (x_15.map (dv .i64)))]⟩ rfl (ab.seq (ab.aa ?_))
 refine Oc om (Oc (dy rfl rfl) (Oc om ?_))
 refine eO (decide (x_10 = 0)) [] (fun g26=>trivial) (fun g26=>om) (eO (decide (x_10 = 0)) [85] (fun g27=>by exact ⟨g27,trivial⟩) (fun g27=>dy rfl rfl) (Oc (aG (fun e=>e) rfl rfl rfl rfl) (Oc om ?_)))
 refine af.ag ⟨[(1,_),(2,_),(3,_),(4,_),(5,_),(9,_),(10,_),(11,_),(12,_),(88,B ((decide (x_10 = 0)) && (decide (x_12 = 0))))],[(101,_),(102,_),(103,_),(104,_),(107,_),(109,_)]⟩ rfl (eO ((decide (x_10 = 0)) && (decide (x_12 = 0))) [] (fun g28=>trivial) (fun g28=>om) (eO ((decide (x_10 = 0)) && (decide (x_12 = 0))) [89] (fun g29=>by exact ⟨g29,trivial⟩) (fun g29=>dy rfl rfl) (af.ox h rfl (aG (fun e=>e) rfl rfl rfl rfl) (fun x_17 h=>?_))))
 refine Oc om (eO x_17 [] (fun g30=>by exact trivial) (fun g30=>om) (eO x_17 [93] (fun g31=>by exact ⟨g31,trivial⟩) (fun g31=>dy rfl rfl) (Oc (aG (fun e=>e) rfl rfl rfl rfl) (Oc oa ?_))))
 refine af.ai ⟨[(1,_),(2,_),(3,_),(4,_),(5,_),(9,_),(11,_),(13,B (x_17 && (decide (x_16 = 0))))],[(101,_),(102,_),(103,_),(104,_),(107,_),(109,_)]⟩ rfl (ab.seq (ab.aa ?_))
 refine Oc om (Oc (di ef rfl rfl) (Oc (b9 (k:=110) (es:=[(⟨0,1⟩:A2)].map (dv .i64)) fY rfl rfl (cB fun _=>rfl) rfl (by decide) (by decide) rfl) ?_))
 obtain ⟨x_18,e32,h⟩:=aO h
 refine Oc (iC (b6 e32) o9 rfl CP.kr) (af.ag ⟨[(1,_),(2,_),(3,_),(4,_),(5,_),(11,_),(13,_),(99,B x_18)],[(101,_),(102,_),(103,_),(104,_),(109,_)]⟩ rfl (Oc om (eO x_18 [] (fun g33=>by exact trivial) (fun g33=>om) (eO x_18 [] (fun g34=>by exact trivial) (fun g34=>di ef rfl rfl) (eO x_18 [] (fun g35=>by exact trivial) (fun g35=>di ef rfl rfl) ?_)))))
 refine eO x_18 [] (fun g36=>trivial) (fun g36=>di ef rfl rfl) (eO x_18 [102,103,104] (fun g37=>⟨g37,g37,g37,trivial⟩) (fun g37=>dp (es:=[(⟨0,1⟩:A2),(⟨0,2⟩:A2),(⟨1,2⟩:A2)].map (dv .i64)) fY rfl rfl (cB fun _=>rfl) rfl (by decide) (by decide)) (af.ag ⟨[(1,_),(2,_),(3,_),(4,_),(5,_),(13,_),(100,B x_18),(101,.opt x_18 (.row 109)),(105,.opt x_18 (.one (.sl 2 ([(⟨0,1⟩:A2),(⟨0,2⟩:A2),(⟨1,2⟩:A2)].map (dv .i64)))))],[(101,_),(102,_),(103,_),(104,_),(109,_)]⟩ rfl ?_))
 obtain ⟨x_19,e39,h⟩:=aO h
 refine eO x_18 [101,105] (fun g38=>⟨g38,g38,trivial⟩) (fun g38=>iC (b6 (gc e39 g38)) o9 rfl CP.kr) (Oc (aG (fun e=>e) rfl rfl rfl rfl) (Oc oa ?_))
 refine af.ai ⟨[(1,_),(2,_),(3,_),(4,_),(5,_),(13,_),(14,B (x_18 && x_19))],[(101,_),(102,_),(103,_),(104,_)]⟩ rfl (ab.seq ?_)
 obtain ⟨x_20,e40,h⟩:=aO h
 obtain ⟨⟨x_21,x_22⟩,e41,h⟩:=aO h
 refine ab.lD mixed [false,false,false,false,false,false,true,true,false] [.b (.agg (aI x_20)),.b (.agg (aj x_1)),.eu [.agg (aI x_21),.one (.i x_22)],.eu [.agg (aI x_21),.one (.i x_22)],.b (.agg (aI x_21)),I x_22,Pt 112 0,B true,I x_22] [⟨[false,false,false,false,false,false,false,false,false],[(1,Pt 101 0),(2,Pt 102 0),(3,Pt 103 0),(4,B (((x_4 && (!x_5)) && (!x_6)) && (decide (x_7 = x_8)))),(5,Pt 104 0),(13,B (x_17 && (decide (x_16 = 0)))),(14,B (x_18 && x_19))],[(101,.box 25 (aj x_1)),(102,.box 25 (aj x_2)),(103,.box 25 (aj x_3)),(104,.box 25 (aj x_9))],[true,true,true,true,true,true,true,true,true],[],[7,8]⟩,⟨[false,false,false,false,false,false,true,false,false],[(1,Pt 101 0),(2,Pt 102 0),(3,Pt 103 0),(4,B (((x_4 && (!x_5)) && (!x_6)) && (decide (x_7 = x_8)))),(5,Pt 104 0),(13,B (x_17 && (decide (x_16 = 0)))),(14,B (x_18 && x_19))],[(101,.box 25 (aj x_1)),(102,.box 25 (aj x_2)),(103,.box 25 (aj x_3)),(104,.box 25 (aj x_9)),(112,.box 49 [.tr ae (.leaf),.cY 0,.cY 0,.cY 0,.tr ae (.leaf),.cY 0,.cY 0,.cY 0])],[true,true,true,true,true,true,true,true,true],[6],[8]⟩,⟨[false,false,false,false,false,false,true,true,false],[(1,Pt 101 0),(2,Pt 102 0),(3,Pt 103 0),(4,B (((x_4 && (!x_5)) && (!x_6)) && (decide (x_7 = x_8)))),(5,Pt 104 0),(13,B (x_17 && (decide (x_16 = 0)))),(14,B (x_18 && x_19))],[(101,.box 25 (aj x_1)),(102,.box 25 (aj x_2)),(103,.box 25 (aj x_3)),(104,.box 25 (aj x_9)),(112,.box 49 (aI x_21))],[true,true,true,true,true,true,true,true,true],[0,1,2,3,4,6,7],[]⟩] rfl (⟨by kernel_rfl,⟨⟨.b (.agg (aI x_20)),fun _=>rfl,fun _=>.p (by exact ak (jW e40) tC rfl rfl)⟩,⟨.b (.agg (aj x_1)),fun _=>rfl,fun _=>.p (by exact cF aC rfl rfl rfl rfl)⟩,⟨.eu [.agg (aI x_21),.one (.i x_22)],fun _=>rfl,fun _=>.p (by exact ak (cV e41) nt rfl rfl)⟩,⟨.eu [.agg (aI x_21),.one (.i x_22)],fun _=>rfl,fun _=>.p (by exact aU rfl)⟩,⟨.b (.agg (aI x_21)),fun _=>rfl,fun _=>.p (by exact ay rfl rfl)⟩,⟨I x_22,fun _=>rfl,fun _=>.p (by exact ay rfl rfl)⟩,⟨_,[112],Pt 112 0,rfl,fun _=>rfl,rfl,rfl,fun _=>.sM [101,102,103,104,112] (by exact .p (by exact ba (k:=112) fl rfl)) (by exact rfl)⟩,trivial,trivial,trivial⟩,⟨by kernel_rfl,⟨⟨.b (.agg (aI x_20)),fun _=>rfl,fun _=>.p (by exact ak (jW e40) tC rfl rfl)⟩,⟨.b (.agg (aj x_1)),fun _=>rfl,fun _=>.p (by exact cF aC rfl rfl rfl rfl)⟩,⟨.eu [.agg (aI x_21),.one (.i x_22)],fun _=>rfl,fun _=>.p (by exact ak (cV e41) nt rfl rfl)⟩,⟨.eu [.agg (aI x_21),.one (.i x_22)],fun _=>rfl,fun _=>.p (by exact aU rfl)⟩,⟨.b (.agg (aI x_21)),fun _=>rfl,fun _=>.p (by exact ay rfl rfl)⟩,⟨I x_22,fun _=>rfl,fun _=>.p (by exact ay rfl rfl)⟩,trivial,⟨_,[],.b (.one .any),rfl,(fun e=>by simp at e),rfl,rfl,fun _=>.sM [101,102,103,104,112] (by exact .p (by exact aF aT rfl rfl rfl rfl (Nat.le_of_ble_eq_true rfl) rfl)) (by exact rfl)⟩,trivial,trivial⟩,⟨by kernel_rfl,⟨trivial,trivial,trivial,trivial,trivial,⟨I x_22,fun _=>rfl,fun _=>.p (by exact ay rfl rfl)⟩,trivial,trivial,⟨I x_22,fun _=>rfl,fun _=>.p (by exact bV rfl)⟩,trivial⟩,trivial⟩⟩⟩) rfl rfl rfl [1,2,3,4,5,13,14,15,16] [101,102,103,104,112] (s':=⟨[(1,_),(2,_),(3,_),(4,_),(5,_),(13,_),(14,_),(15,Pt 112 0),(16,I x_22)],[(101,_),(102,_),(103,_),(104,_),(112,.box 49 (aI x_21))]⟩) rfl ?_
 refine ab.seq (ab.aa ?_)
 refine Oc (lp aT) (Oc (lp aC) ?_)
 obtain ⟨⟨x_23,x_24⟩,e42,h⟩:=aO h
 refine Oc (ak (cV e42) nt rfl rfl) (Oc om (Oc (ay rfl rfl) ?_))
 refine af.ag ⟨[(1,_),(3,_),(4,_),(5,_),(13,_),(14,_),(15,_),(16,_),(114,.eu [.agg (aI x_23),.one (.i x_24)]),(118,.b (.agg (aI x_23)))],[(101,_),(103,_),(104,_),(112,_)]⟩ rfl (Oc (ay rfl rfl) (Oc (aF aT rfl rfl rfl rfl (Nat.le_of_ble_eq_true rfl) rfl) (Oc oa ?_)))
 refine af.ai ⟨[(1,_),(3,_),(4,_),(5,_),(13,_),(14,_),(15,_),(16,_),(17,I x_24)],[(101,_),(103,_),(104,_),(112,.box 49 (aI x_23))]⟩ rfl (ab.seq (ab.aa ?_))
 refine Oc (lp aT) (Oc (lp aC) ?_)
 obtain ⟨⟨x_25,x_26⟩,e43,h⟩:=aO h
 refine Oc (cW (gj 113 e43) tz rfl trivial rfl rfl) (Oc om (Oc (ay rfl rfl) ?_))
 refine af.ag ⟨[(1,_),(3,_),(4,_),(5,_),(13,_),(14,_),(15,_),(16,_),(17,_),(120,.eu [.row 113,.one (.i x_26)]),(124,.b (.row 113))],[(101,_),(103,_),(104,_),(112,_),(113,.row 3 1 (x_25.map eI))]⟩ rfl (Oc (ay rfl rfl) (Oc oa (Oc oa ?_)))
 refine af.ai ⟨[(1,_),(3,_),(4,_),(5,_),(13,_),(14,_),(15,_),(16,_),(17,_),(18,.b (.row 113)),(19,I x_26)],[(101,_),(103,_),(104,_),(112,_),(113,_)]⟩ rfl (ab.seq (ab.aa ?_))
 refine Oc (lp aT) (Oc (lp aC) ?_)
 obtain ⟨⟨x_27,x_28⟩,e44,h⟩:=aO h
 refine Oc (cW (gj 114 e44) tz rfl trivial rfl rfl) (Oc om (Oc (ay rfl rfl) ?_))
 refine af.ag ⟨[(1,_),(3,_),(4,_),(5,_),(13,_),(14,_),(15,_),(16,_),(17,_),(18,_),(19,_),(126,.eu [.row 114,.one (.i x_28)]),(130,.b (.row 114))],[(101,_),(103,_),(104,_),(112,_),(113,_),(114,.row 3 1 (x_27.map eI))]⟩ rfl (Oc (ay rfl rfl) (Oc oa (Oc oa ?_)))
 refine af.ai ⟨[(1,_),(3,_),(4,_),(5,_),(13,_),(14,_),(15,_),(16,_),(17,_),(18,_),(19,_),(20,.b (.row 114)),(21,I x_28)],[(101,_),(103,_),(104,_),(112,_),(113,_),(114,_)]⟩ rfl (ab.seq (ab.aa ?_))
 refine Oc (lp aT) (Oc (lp aC) ?_)
 obtain ⟨⟨x_29,x_30,x_31,x_32⟩,e45,h⟩:=aO h
 refine Oc (ak (kC e45) goes25 rfl rfl) (Oc om (Oc (ay rfl rfl) ?_))
 refine af.ag ⟨[(1,_),(4,_),(5,_),(13,_),(14,_),(15,_),(16,_),(17,_),(18,_),(19,_),(20,_),(21,_),(132,.eu [.agg (aI x_29),.one (.sl 1 (x_30.map eI)),.one (.sl 1 (x_31.map eI)),.one (.i x_32)]),(136,.b (.agg (aI x_29)))],[(101,_),(104,_),(112,_),(113,_),(114,_)]⟩ rfl (Oc (ay rfl rfl) (Oc (ay rfl rfl) (Oc (ay rfl rfl) (Oc (ba (k:=115) fl rfl) (Oc (aF aT rfl rfl rfl rfl (Nat.le_of_ble_eq_true rfl) rfl) (Oc oa ?_))))))
 refine Oc oa (Oc oa ?_)
 refine af.ai ⟨[(1,_),(4,_),(5,_),(13,_),(14,_),(15,_),(16,_),(17,_),(18,_),(19,_),(20,_),(21,_),(22,Pt 115 0),(23,.b (.one (.sl 1 (x_30.map eI)))),(24,.b (.one (.sl 1 (x_31.map eI)))),(25,I x_32)],[(101,_),(104,_),(112,_),(113,_),(114,_),(115,.box 49 (aI x_29))]⟩ rfl (ab.seq (ab.aa ?_))
 refine Oc (lp aT) (Oc (lp aC) ?_)
 obtain ⟨⟨x_33,x_34⟩,e46,h⟩:=aO h
 refine Oc (ak (cV e46) nt rfl rfl) (Oc om (Oc (ay rfl rfl) ?_))
 refine af.ag ⟨[(4,_),(5,_),(13,_),(14,_),(15,_),(16,_),(17,_),(18,_),(19,_),(20,_),(21,_),(22,_),(23,_),(24,_),(25,_),(140,.eu [.agg (aI x_33),.one (.i x_34)]),(144,.b (.agg (aI x_33)))],[(104,_),(112,_),(113,_),(114,_),(115,_)]⟩ rfl (Oc (ay rfl rfl) (Oc (ba (k:=116) fl rfl) (Oc (aF aT rfl rfl rfl rfl (Nat.le_of_ble_eq_true rfl) rfl) (Oc oa ?_))))
 refine af.ai ⟨[(4,_),(5,_),(13,_),(14,_),(15,_),(16,_),(17,_),(18,_),(19,_),(20,_),(21,_),(22,_),(23,_),(24,_),(25,_),(27,I x_34)],[(104,_),(112,_),(113,_),(114,_),(115,_)]⟩ rfl (ab.seq (ab.aa ?_))
 refine Oc (lp aT) ?_
 obtain ⟨⟨x_35,x_36⟩,e47,h⟩:=aO h
 refine Oc (ak (fw e47) tA rfl rfl) (Oc om (Oc (ay rfl rfl) (Oc (ay rfl rfl) ?_)))
 refine af.ag ⟨[(4,_),(5,_),(13,_),(14,_),(15,_),(16,_),(17,_),(18,_),(19,_),(20,_),(21,_),(22,_),(23,_),(24,_),(25,_),(27,_),(149,.b (.agg (aI x_35))),(150,I x_36)],[(104,_),(112,_),(113,_),(114,_),(115,_)]⟩ rfl (Oc (ba (k:=117) fl rfl) (Oc (aF aT rfl rfl rfl rfl (Nat.le_of_ble_eq_true rfl) rfl) (Oc oa ?_)))
 refine af.ai ⟨[(4,_),(5,_),(13,_),(14,_),(15,_),(16,_),(17,_),(18,_),(19,_),(20,_),(21,_),(22,_),(23,_),(24,_),(25,_),(27,_),(29,I x_36)],[(104,_),(112,_),(113,_),(114,_),(115,_)]⟩ rfl (ab.seq (ab.aa ?_))
 refine Oc om (Oc (dy rfl rfl) (Oc om ?_))
 refine eO (decide (x_22 = 0)) [] (fun g48=>trivial) (fun g48=>om) (eO (decide (x_22 = 0)) [154] (fun g49=>by exact ⟨g49,trivial⟩) (fun g49=>dy rfl rfl) (Oc (aG (fun e=>e) rfl rfl rfl rfl) (Oc om ?_)))
 refine af.ag ⟨[(4,_),(5,_),(13,_),(14,_),(15,_),(18,_),(19,_),(20,_),(21,_),(22,_),(23,_),(24,_),(25,_),(27,_),(29,_),(157,B ((decide (x_22 = 0)) && (decide (x_24 = 0))))],[(104,_),(112,_),(113,_),(114,_),(115,_)]⟩ rfl (eO ((decide (x_22 = 0)) && (decide (x_24 = 0))) [] (fun g50=>trivial) (fun g50=>om) (eO ((decide (x_22 = 0)) && (decide (x_24 = 0))) [158] (fun g51=>by exact ⟨g51,trivial⟩) (fun g51=>dy rfl rfl) (af.ox h rfl (aG (fun e=>e) rfl rfl rfl rfl) (fun x_37 h=>?_))))
 refine Oc om (eO x_37 [] (fun g52=>by exact trivial) (fun g52=>om) (eO x_37 [162] (fun g53=>by exact ⟨g53,trivial⟩) (fun g53=>dy rfl rfl) (Oc (aG (fun e=>e) rfl rfl rfl rfl) (Oc om ?_))))
 refine af.ag ⟨[(4,_),(5,_),(13,_),(14,_),(15,_),(18,_),(20,_),(22,_),(23,_),(24,_),(25,_),(27,_),(29,_),(165,B (x_37 && (decide (x_28 = 0))))],[(104,_),(112,_),(113,_),(114,_),(115,_)]⟩ rfl (eO (x_37 && (decide (x_28 = 0))) [] (fun g54=>trivial) (fun g54=>om) (eO (x_37 && (decide (x_28 = 0))) [166] (fun g55=>by exact ⟨g55,trivial⟩) (fun g55=>dy rfl rfl) (Oc (aG (fun e=>e) rfl rfl rfl rfl) (Oc om ?_))))
 refine eO ((x_37 && (decide (x_28 = 0))) && (decide (x_32 = 0))) [] (fun g56=>trivial) (fun g56=>om) (eO ((x_37 && (decide (x_28 = 0))) && (decide (x_32 = 0))) [] (fun g57=>by exact trivial) (fun g57=>dp (es:=[3,7].map eI) cp rfl rfl (cB fun _=>rfl) rfl (by decide) (by decide)) (af.ag ⟨[(4,_),(5,_),(13,_),(14,_),(15,_),(20,_),(22,_),(23,_),(24,_),(27,_),(29,_),(169,B ((x_37 && (decide (x_28 = 0))) && (decide (x_32 = 0)))),(170,.opt ((x_37 && (decide (x_28 = 0))) && (decide (x_32 = 0))) (.row 113)),(171,.opt ((x_37 && (decide (x_28 = 0))) && (decide (x_32 = 0))) (.one (.sl 1 ([3,7].map eI))))],[(104,_),(112,_),(113,_),(114,_),(115,_)]⟩ rfl ?_))
 obtain ⟨x_38,e59,h⟩:=aO h
 refine eO ((x_37 && (decide (x_28 = 0))) && (decide (x_32 = 0))) [170,171] (fun g58=>⟨g58,g58,trivial⟩) (fun g58=>iC (eX (gc e59 g58)) tx rfl CP.kr) (af.ox h rfl (aG (fun e=>e) rfl rfl rfl rfl) (fun x_39 h=>?_))
 refine Oc om (eO x_39 [] (fun g60=>by exact trivial) (fun g60=>om) (eO x_39 [175] (fun g61=>by exact ⟨g61,trivial⟩) (fun g61=>eQ fb rfl rfl (List.length_map _)) (eO x_39 [176] (fun g62=>by exact ⟨g62,trivial⟩) (fun g62=>dy rfl rfl) (Oc (aG (fun e=>e) rfl rfl rfl rfl) (af.ag ⟨[(4,_),(5,_),(13,_),(14,_),(15,_),(22,_),(23,_),(24,_),(27,_),(29,_),(178,B (x_39 && (decide ((x_27.length:Int) = 0))))],[(104,_),(112,_),(115,_)]⟩ rfl ?_)))))
 refine Oc om (eO (x_39 && (decide ((x_27.length:Int) = 0))) [] (fun g63=>by exact trivial) (fun g63=>om) (eO (x_39 && (decide ((x_27.length:Int) = 0))) [180] (fun g64=>by exact ⟨g64,trivial⟩) (fun g64=>bj fb rfl (List.length_map _)) (eO (x_39 && (decide ((x_27.length:Int) = 0))) [181] (fun g65=>by exact ⟨g65,trivial⟩) (fun g65=>dy rfl rfl) (af.ox h rfl (aG (fun e=>e) rfl rfl rfl rfl) (fun x_40 h=>?_)))))
 refine Oc om (eO x_40 [] (fun g66=>by exact trivial) (fun g66=>om) (af.ag ⟨[(4,_),(5,_),(13,_),(14,_),(15,_),(22,_),(27,_),(29,_),(184,B x_40),(185,.opt x_40 (.one (.sl 1 (x_31.map eI))))],[(104,_),(112,_),(115,_)]⟩ rfl (eO x_40 [] (fun g67=>by exact trivial) (fun g67=>dp (es:=[7].map eI) cp rfl rfl (cB fun _=>rfl) rfl (by decide) (by decide)) ?_)))
 obtain ⟨x_41,e69,h⟩:=aO h
 refine eO x_40 [185,186] (fun g68=>⟨g68,g68,trivial⟩) (fun g68=>ak (eX (gc e69 g68)) tx rfl rfl) (Oc (aG (fun e=>e) rfl rfl rfl rfl) (Oc oa ?_))
 refine af.ai ⟨[(4,_),(5,_),(13,_),(14,_),(15,_),(22,_),(27,_),(29,_),(30,B (x_40 && x_41))],[(104,_),(112,_),(115,_)]⟩ rfl (ab.seq ?_)
 obtain ⟨x_42,e70,h⟩:=aO h
 obtain ⟨x_43,e71,h⟩:=aO h
 obtain ⟨x_44,e72,h⟩:=aO h
 obtain ⟨x_45,e73,h⟩:=aO h
 refine ab.lD mixed [false,false,false,false,false,false,false,false,false,false,false,false,false,false,false,false,false,true,false,false,false,false,false,true,false,false,false,false,false,false,false,false,false,false,false,false,false] [B (((x_4 && (!x_5)) && (!x_6)) && (decide (x_7 = x_8))),B (((x_4 && (!x_5)) && (!x_6)) && (decide (x_7 = x_8))),.opt (((x_4 && (!x_5)) && (!x_6)) && (decide (x_7 = x_8))) (.one (.bool (x_17 && (decide (x_16 = 0))))),B ((((x_4 && (!x_5)) && (!x_6)) && (decide (x_7 = x_8))) && (x_17 && (decide (x_16 = 0)))),B ((((x_4 && (!x_5)) && (!x_6)) && (decide (x_7 = x_8))) && (x_17 && (decide (x_16 = 0)))),.opt ((((x_4 && (!x_5)) && (!x_6)) && (decide (x_7 = x_8))) && (x_17 && (decide (x_16 = 0)))) (.agg (aj x_9)),.opt ((((x_4 && (!x_5)) && (!x_6)) && (decide (x_7 = x_8))) && (x_17 && (decide (x_16 = 0)))) (.agg (aj x_42)),.opt ((((x_4 && (!x_5)) && (!x_6)) && (decide (x_7 = x_8))) && (x_17 && (decide (x_16 = 0)))) (.one (.bool (decide (x_9 = x_42)))),B (((((x_4 && (!x_5)) && (!x_6)) && (decide (x_7 = x_8))) && (x_17 && (decide (x_16 = 0)))) && (decide (x_9 = x_42))),B (((((x_4 && (!x_5)) && (!x_6)) && (decide (x_7 = x_8))) && (x_17 && (decide (x_16 = 0)))) && (decide (x_9 = x_42))),.opt (((((x_4 && (!x_5)) && (!x_6)) && (decide (x_7 = x_8))) && (x_17 && (decide (x_16 = 0)))) && (decide (x_9 = x_42))) (.one (.bool (x_18 && x_19))),B ((((((x_4 && (!x_5)) && (!x_6)) && (decide (x_7 = x_8))) && (x_17 && (decide (x_16 = 0)))) && (decide (x_9 = x_42))) && (x_18 && x_19)),B ((((((x_4 && (!x_5)) && (!x_6)) && (decide (x_7 = x_8))) && (x_17 && (decide (x_16 = 0)))) && (decide (x_9 = x_42))) && (x_18 && x_19)),.opt ((((((x_4 && (!x_5)) && (!x_6)) && (decide (x_7 = x_8))) && (x_17 && (decide (x_16 = 0)))) && (decide (x_9 = x_42))) && (x_18 && x_19)) (.one (.bool (x_40 && x_41))),B (((((((x_4 && (!x_5)) && (!x_6)) && (decide (x_7 = x_8))) && (x_17 && (decide (x_16 = 0)))) && (decide (x_9 = x_42))) && (x_18 && x_19)) && (x_40 && x_41)),B (((((((x_4 && (!x_5)) && (!x_6)) && (decide (x_7 = x_8))) && (x_17 && (decide (x_16 = 0)))) && (decide (x_9 = x_42))) && (x_18 && x_19)) && (x_40 && x_41)),.opt (((((((x_4 && (!x_5)) && (!x_6)) && (decide (x_7 = x_8))) && (x_17 && (decide (x_16 = 0)))) && (decide (x_9 = x_42))) && (x_18 && x_19)) && (x_40 && x_41)) (.agg (aI x_29)),.opt (((((((x_4 && (!x_5)) && (!x_6)) && (decide (x_7 = x_8))) && (x_17 && (decide (x_16 = 0)))) && (decide (x_9 = x_42))) && (x_18 && x_19)) && (x_40 && x_41)) (.one (.sl 2 (x_43.map (dv .i64)))),.opt (((((((x_4 && (!x_5)) && (!x_6)) && (decide (x_7 = x_8))) && (x_17 && (decide (x_16 = 0)))) && (decide (x_9 = x_42))) && (x_18 && x_19)) && (x_40 && x_41)) (.one (.i (x_43.length:Int))),.opt (((((((x_4 && (!x_5)) && (!x_6)) && (decide (x_7 = x_8))) && (x_17 && (decide (x_16 = 0)))) && (decide (x_9 = x_42))) && (x_18 && x_19)) && (x_40 && x_41)) (.one (.bool (decide ((x_43.length:Int) = 0)))),B ((((((((x_4 && (!x_5)) && (!x_6)) && (decide (x_7 = x_8))) && (x_17 && (decide (x_16 = 0)))) && (decide (x_9 = x_42))) && (x_18 && x_19)) && (x_40 && x_41)) && (decide ((x_43.length:Int) = 0))),B ((((((((x_4 && (!x_5)) && (!x_6)) && (decide (x_7 = x_8))) && (x_17 && (decide (x_16 = 0)))) && (decide (x_9 = x_42))) && (x_18 && x_19)) && (x_40 && x_41)) && (decide ((x_43.length:Int) = 0))),.opt ((((((((x_4 && (!x_5)) && (!x_6)) && (decide (x_7 = x_8))) && (x_17 && (decide (x_16 = 0)))) && (decide (x_9 = x_42))) && (x_18 && x_19)) && (x_40 && x_41)) && (decide ((x_43.length:Int) = 0))) (.agg (aI x_23)),.opt ((((((((x_4 && (!x_5)) && (!x_6)) && (decide (x_7 = x_8))) && (x_17 && (decide (x_16 = 0)))) && (decide (x_9 = x_42))) && (x_18 && x_19)) && (x_40 && x_41)) && (decide ((x_43.length:Int) = 0))) (.one (.sl 2 (x_44.map (dv .i64)))),.opt ((((((((x_4 && (!x_5)) && (!x_6)) && (decide (x_7 = x_8))) && (x_17 && (decide (x_16 = 0)))) && (decide (x_9 = x_42))) && (x_18 && x_19)) && (x_40 && x_41)) && (decide ((x_43.length:Int) = 0))) (.agg [.i 3,.i 7]),.opt ((((((((x_4 && (!x_5)) && (!x_6)) && (decide (x_7 = x_8))) && (x_17 && (decide (x_16 = 0)))) && (decide (x_9 = x_42))) && (x_18 && x_19)) && (x_40 && x_41)) && (decide ((x_43.length:Int) = 0))) (.one (.sl 2 ([(⟨3,7⟩:A2)].map (dv .i64)))),.opt ((((((((x_4 && (!x_5)) && (!x_6)) && (decide (x_7 = x_8))) && (x_17 && (decide (x_16 = 0)))) && (decide (x_9 = x_42))) && (x_18 && x_19)) && (x_40 && x_41)) && (decide ((x_43.length:Int) = 0))) (.one (.bool x_45)),B (((((((((x_4 && (!x_5)) && (!x_6)) && (decide (x_7 = x_8))) && (x_17 && (decide (x_16 = 0)))) && (decide (x_9 = x_42))) && (x_18 && x_19)) && (x_40 && x_41)) && (decide ((x_43.length:Int) = 0))) && x_45),B (((((((((x_4 && (!x_5)) && (!x_6)) && (decide (x_7 = x_8))) && (x_17 && (decide (x_16 = 0)))) && (decide (x_9 = x_42))) && (x_18 && x_19)) && (x_40 && x_41)) && (decide ((x_43.length:Int) = 0))) && x_45),.opt (((((((((x_4 && (!x_5)) && (!x_6)) && (decide (x_7 = x_8))) && (x_17 && (decide (x_16 = 0)))) && (decide (x_9 = x_42))) && (x_18 && x_19)) && (x_40 && x_41)) && (decide ((x_43.length:Int) = 0))) && x_45) (.one (.i x_34)),.opt (((((((((x_4 && (!x_5)) && (!x_6)) && (decide (x_7 = x_8))) && (x_17 && (decide (x_16 = 0)))) && (decide (x_9 = x_42))) && (x_18 && x_19)) && (x_40 && x_41)) && (decide ((x_43.length:Int) = 0))) && x_45) (.one (.bool (decide (x_34 = 6)))),B ((((((((((x_4 && (!x_5)) && (!x_6)) && (decide (x_7 = x_8))) && (x_17 && (decide (x_16 = 0)))) && (decide (x_9 = x_42))) && (x_18 && x_19)) && (x_40 && x_41)) && (decide ((x_43.length:Int) = 0))) && x_45) && (decide (x_34 = 6))),B ((((((((((x_4 && (!x_5)) && (!x_6)) && (decide (x_7 = x_8))) && (x_17 && (decide (x_16 = 0)))) && (decide (x_9 = x_42))) && (x_18 && x_19)) && (x_40 && x_41)) && (decide ((x_43.length:Int) = 0))) && x_45) && (decide (x_34 = 6))),.opt ((((((((((x_4 && (!x_5)) && (!x_6)) && (decide (x_7 = x_8))) && (x_17 && (decide (x_16 = 0)))) && (decide (x_9 = x_42))) && (x_18 && x_19)) && (x_40 && x_41)) && (decide ((x_43.length:Int) = 0))) && x_45) && (decide (x_34 = 6))) (.one (.i x_36)),.opt ((((((((((x_4 && (!x_5)) && (!x_6)) && (decide (x_7 = x_8))) && (x_17 && (decide (x_16 = 0)))) && (decide (x_9 = x_42))) && (x_18 && x_19)) && (x_40 && x_41)) && (decide ((x_43.length:Int) = 0))) && x_45) && (decide (x_34 = 6))) (.one (.bool (decide (x_36 = 5)))),B (((((((((((x_4 && (!x_5)) && (!x_6)) && (decide (x_7 = x_8))) && (x_17 && (decide (x_16 = 0)))) && (decide (x_9 = x_42))) && (x_18 && x_19)) && (x_40 && x_41)) && (decide ((x_43.length:Int) = 0))) && x_45) && (decide (x_34 = 6))) && (decide (x_36 = 5))),B (((((((((((x_4 && (!x_5)) && (!x_6)) && (decide (x_7 = x_8))) && (x_17 && (decide (x_16 = 0)))) && (decide (x_9 = x_42))) && (x_18 && x_19)) && (x_40 && x_41)) && (decide ((x_43.length:Int) = 0))) && x_45) && (decide (x_34 = 6))) && (decide (x_36 = 5)))] [⟨[false,false,false,false,false,false,false,false,false,false,false,false,false,false,false,false,false,false,false,false,false,false,false,false,false,false,false,false,false,false,false,false,false,false,false,false,false],[(4,B (((x_4 && (!x_5)) && (!x_6)) && (decide (x_7 = x_8)))),(5,Pt 104 0),(13,B (x_17 && (decide (x_16 = 0)))),(14,B (x_18 && x_19)),(15,Pt 112 0),(22,Pt 115 0),(27,I x_34),(29,I x_36),(30,B (x_40 && x_41))],[(104,.box 25 (aj x_9)),(112,.box 49 (aI x_23)),(115,.box 49 (aI x_29))],[true,true,true,true,true,true,true,true,true,true,true,true,true,true,true,true,true,true,true,true,true,true,true,true,true,true,true,true,true,true,true,true,true,true,true,true,true],[],[18,19,20,21,22,23,24,25,26,27,28,29,30,31,32,33,34,35,36]⟩,⟨[false,false,false,false,false,false,false,false,false,false,false,false,false,false,false,false,false,true,false,false,false,false,false,false,false,false,false,false,false,false,false,false,false,false,false,false,false],[(4,B (((x_4 && (!x_5)) && (!x_6)) && (decide (x_7 = x_8)))),(5,Pt 104 0),(13,B (x_17 && (decide (x_16 = 0)))),(14,B (x_18 && x_19)),(15,Pt 112 0),(22,Pt 115 0),(27,I x_34),(29,I x_36),(30,B (x_40 && x_41))],[(104,.box 25 (aj x_9)),(112,.box 49 (aI x_23)),(115,.box 49 (aI x_29))],[true,true,true,true,true,true,true,true,true,true,true,true,true,true,true,true,true,true,true,true,true,true,true,true,true,true,true,true,true,true,true,true,true,true,true,true,true],[0,1,2,3,4,5,6,7,8,9,10,11,12,13,14,15,16,17],[26,27,28,29,30,31,32,33,34,35,36]⟩,⟨[false,false,false,false,false,false,false,false,false,false,false,false,false,false,false,false,false,true,false,false,false,false,false,true,false,false,false,false,false,false,false,false,false,false,false,false,false],[(4,B (((x_4 && (!x_5)) && (!x_6)) && (decide (x_7 = x_8)))),(5,Pt 104 0),(13,B (x_17 && (decide (x_16 = 0)))),(14,B (x_18 && x_19)),(15,Pt 112 0),(22,Pt 115 0),(27,I x_34),(29,I x_36),(30,B (x_40 && x_41))],[(104,.box 25 (aj x_9)),(112,.box 49 (aI x_23)),(115,.box 49 (aI x_29))],[true,true,true,true,true,true,true,true,true,true,true,true,true,true,true,true,true,true,true,true,true,true,true,true,true,true,true,true,true,true,true,true,true,true,true,true,true],[0,1,2,3,4,5,6,7,8,9,10,11,12,13,14,15,16,17,18,19,20,21,22,23],[]⟩] rfl (⟨by kernel_rfl,⟨⟨B (((x_4 && (!x_5)) && (!x_6)) && (decide (x_7 = x_8))),fun _=>rfl,fun _=>.p (by exact aU rfl)⟩,⟨B (((x_4 && (!x_5)) && (!x_6)) && (decide (x_7 = x_8))),fun _=>rfl,fun _=>.p (by exact aU rfl)⟩,⟨.opt (((x_4 && (!x_5)) && (!x_6)) && (decide (x_7 = x_8))) (.one (.bool (x_17 && (decide (x_16 = 0))))),fun _=>rfl,fun _=>by exact .guard (((x_4 && (!x_5)) && (!x_6)) && (decide (x_7 = x_8))) 1 [] (.plain rfl) (gU _) rfl rfl (fun gg2=>trivial) (fun gg2=>om)⟩,⟨B ((((x_4 && (!x_5)) && (!x_6)) && (decide (x_7 = x_8))) && (x_17 && (decide (x_16 = 0)))),fun _=>rfl,fun _=>.p (by exact aG (fun e=>e) rfl rfl rfl rfl)⟩,⟨B ((((x_4 && (!x_5)) && (!x_6)) && (decide (x_7 = x_8))) && (x_17 && (decide (x_16 = 0)))),fun _=>rfl,fun _=>.p (by exact aU rfl)⟩,⟨.opt ((((x_4 && (!x_5)) && (!x_6)) && (decide (x_7 = x_8))) && (x_17 && (decide (x_16 = 0)))) (.agg (aj x_9)),fun _=>rfl,fun _=>by exact .guard ((((x_4 && (!x_5)) && (!x_6)) && (decide (x_7 = x_8))) && (x_17 && (decide (x_16 = 0)))) 1 [] (.plain rfl) (gU _) rfl rfl (fun gg5=>trivial) (fun gg5=>lp aC)⟩,⟨.opt ((((x_4 && (!x_5)) && (!x_6)) && (decide (x_7 = x_8))) && (x_17 && (decide (x_16 = 0)))) (.agg (aj x_42)),fun _=>rfl,fun _=>by exact .guard ((((x_4 && (!x_5)) && (!x_6)) && (decide (x_7 = x_8))) && (x_17 && (decide (x_16 = 0)))) 2 [] (.plain rfl) (gU _) rfl rfl (fun gg6=>trivial) (fun gg6=>ak (cf (gc e70 gg6)) ns rfl rfl)⟩,⟨.opt ((((x_4 && (!x_5)) && (!x_6)) && (decide (x_7 = x_8))) && (x_17 && (decide (x_16 = 0)))) (.one (.bool (decide (x_9 = x_42)))),fun _=>rfl,fun _=>by exact .guard ((((x_4 && (!x_5)) && (!x_6)) && (decide (x_7 = x_8))) && (x_17 && (decide (x_16 = 0)))) 3 [194,195] (.plain rfl) (gU _) rfl rfl (fun gg7=>⟨gg7,gg7,trivial⟩) (fun gg7=>nN (r4 x_9 x_42) rfl rfl)⟩,⟨B (((((x_4 && (!x_5)) && (!x_6)) && (decide (x_7 = x_8))) && (x_17 && (decide (x_16 = 0)))) && (decide (x_9 = x_42))),fun _=>rfl,fun _=>.p (by exact aG (fun e=>e) rfl rfl rfl rfl)⟩,⟨B (((((x_4 && (!x_5)) && (!x_6)) && (decide (x_7 = x_8))) && (x_17 && (decide (x_16 = 0)))) && (decide (x_9 = x_42))),fun _=>rfl,fun _=>.p (by exact aU rfl)⟩,⟨.opt (((((x_4 && (!x_5)) && (!x_6)) && (decide (x_7 = x_8))) && (x_17 && (decide (x_16 = 0)))) && (decide (x_9 = x_42))) (.one (.bool (x_18 && x_19))),fun _=>rfl,fun _=>by exact .guard (((((x_4 && (!x_5)) && (!x_6)) && (decide (x_7 = x_8))) && (x_17 && (decide (x_16 = 0)))) && (decide (x_9 = x_42))) 1 [] (.plain rfl) (gU _) rfl rfl (fun gg10=>trivial) (fun gg10=>om)⟩,⟨B ((((((x_4 && (!x_5)) && (!x_6)) && (decide (x_7 = x_8))) && (x_17 && (decide (x_16 = 0)))) && (decide (x_9 = x_42))) && (x_18 && x_19)),fun _=>rfl,fun _=>.p (by exact aG (fun e=>e) rfl rfl rfl rfl)⟩,⟨B ((((((x_4 && (!x_5)) && (!x_6)) && (decide (x_7 = x_8))) && (x_17 && (decide (x_16 = 0)))) && (decide (x_9 = x_42))) && (x_18 && x_19)),fun _=>rfl,fun _=>.p (by exact aU rfl)⟩,⟨.opt ((((((x_4 && (!x_5)) && (!x_6)) && (decide (x_7 = x_8))) && (x_17 && (decide (x_16 = 0)))) && (decide (x_9 = x_42))) && (x_18 && x_19)) (.one (.bool (x_40 && x_41))),fun _=>rfl,fun _=>by exact .guard ((((((x_4 && (!x_5)) && (!x_6)) && (decide (x_7 = x_8))) && (x_17 && (decide (x_16 = 0)))) && (decide (x_9 = x_42))) && (x_18 && x_19)) 1 [] (.plain rfl) (gU _) rfl rfl (fun gg13=>trivial) (fun gg13=>om)⟩,⟨B (((((((x_4 && (!x_5)) && (!x_6)) && (decide (x_7 = x_8))) && (x_17 && (decide (x_16 = 0)))) && (decide (x_9 = x_42))) && (x_18 && x_19)) && (x_40 && x_41)),fun _=>rfl,fun _=>.p (by exact aG (fun e=>e) rfl rfl rfl rfl)⟩,⟨B (((((((x_4 && (!x_5)) && (!x_6)) && (decide (x_7 = x_8))) && (x_17 && (decide (x_16 = 0)))) && (decide (x_9 = x_42))) && (x_18 && x_19)) && (x_40 && x_41)),fun _=>rfl,fun _=>.p (by exact aU rfl)⟩,⟨.opt (((((((x_4 && (!x_5)) && (!x_6)) && (decide (x_7 = x_8))) && (x_17 && (decide (x_16 = 0)))) && (decide (x_9 = x_42))) && (x_18 && x_19)) && (x_40 && x_41)) (.agg (aI x_29)),fun _=>rfl,fun _=>by exact .guard (((((((x_4 && (!x_5)) && (!x_6)) && (decide (x_7 = x_8))) && (x_17 && (decide (x_16 = 0)))) && (decide (x_9 = x_42))) && (x_18 && x_19)) && (x_40 && x_41)) 1 [] (.plain rfl) (gU _) rfl rfl (fun gg16=>trivial) (fun gg16=>lp aT)⟩,⟨_,[],.opt (((((((x_4 && (!x_5)) && (!x_6)) && (decide (x_7 = x_8))) && (x_17 && (decide (x_16 = 0)))) && (decide (x_9 = x_42))) && (x_18 && x_19)) && (x_40 && x_41)) (.one (.sl 2 (x_43.map (dv .i64)))),rfl,fun _=>rfl,rfl,rfl,fun _=>.sM [104,112,115] (by exact by exact .guard (((((((x_4 && (!x_5)) && (!x_6)) && (decide (x_7 = x_8))) && (x_17 && (decide (x_16 = 0)))) && (decide (x_9 = x_42))) && (x_18 && x_19)) && (x_40 && x_41)) 3 [205] (.plain rfl) (gU _) rfl rfl (fun gg17=>⟨gg17,trivial⟩) (fun gg17=>ak (((gS (gc e71 gg17)).sw 51 0).rC) tB rfl rfl)) (by exact rfl)⟩,trivial,trivial,trivial,trivial,trivial,trivial,trivial,trivial,trivial,trivial,trivial,trivial,trivial,trivial,trivial,trivial,trivial,trivial,trivial,trivial⟩,⟨by kernel_rfl,⟨trivial,trivial,trivial,trivial,trivial,trivial,trivial,trivial,trivial,trivial,trivial,trivial,trivial,trivial,trivial,trivial,trivial,trivial,⟨.opt (((((((x_4 && (!x_5)) && (!x_6)) && (decide (x_7 = x_8))) && (x_17 && (decide (x_16 = 0)))) && (decide (x_9 = x_42))) && (x_18 && x_19)) && (x_40 && x_41)) (.one (.i (x_43.length:Int))),fun _=>rfl,fun _=>by exact .guard (((((((x_4 && (!x_5)) && (!x_6)) && (decide (x_7 = x_8))) && (x_17 && (decide (x_16 = 0)))) && (decide (x_9 = x_42))) && (x_18 && x_19)) && (x_40 && x_41)) 2 [206] (.plain rfl) (gU _) rfl rfl (fun gg18=>⟨gg18,trivial⟩) (fun gg18=>bj rA rfl (List.length_map _))⟩,⟨.opt (((((((x_4 && (!x_5)) && (!x_6)) && (decide (x_7 = x_8))) && (x_17 && (decide (x_16 = 0)))) && (decide (x_9 = x_42))) && (x_18 && x_19)) && (x_40 && x_41)) (.one (.bool (decide ((x_43.length:Int) = 0)))),fun _=>rfl,fun _=>by exact .guard (((((((x_4 && (!x_5)) && (!x_6)) && (decide (x_7 = x_8))) && (x_17 && (decide (x_16 = 0)))) && (decide (x_9 = x_42))) && (x_18 && x_19)) && (x_40 && x_41)) 2 [207] (.plain rfl) (gU _) rfl rfl (fun gg19=>⟨gg19,trivial⟩) (fun gg19=>dy rfl rfl)⟩,⟨B ((((((((x_4 && (!x_5)) && (!x_6)) && (decide (x_7 = x_8))) && (x_17 && (decide (x_16 = 0)))) && (decide (x_9 = x_42))) && (x_18 && x_19)) && (x_40 && x_41)) && (decide ((x_43.length:Int) = 0))),fun _=>rfl,fun _=>.p (by exact aG (fun e=>e) rfl rfl rfl rfl)⟩,⟨B ((((((((x_4 && (!x_5)) && (!x_6)) && (decide (x_7 = x_8))) && (x_17 && (decide (x_16 = 0)))) && (decide (x_9 = x_42))) && (x_18 && x_19)) && (x_40 && x_41)) && (decide ((x_43.length:Int) = 0))),fun _=>rfl,fun _=>.p (by exact aU rfl)⟩,⟨.opt ((((((((x_4 && (!x_5)) && (!x_6)) && (decide (x_7 = x_8))) && (x_17 && (decide (x_16 = 0)))) && (decide (x_9 = x_42))) && (x_18 && x_19)) && (x_40 && x_41)) && (decide ((x_43.length:Int) = 0))) (.agg (aI x_23)),fun _=>rfl,fun _=>by exact .guard ((((((((x_4 && (!x_5)) && (!x_6)) && (decide (x_7 = x_8))) && (x_17 && (decide (x_16 = 0)))) && (decide (x_9 = x_42))) && (x_18 && x_19)) && (x_40 && x_41)) && (decide ((x_43.length:Int) = 0))) 1 [] (.plain rfl) (gU _) rfl rfl (fun gg22=>trivial) (fun gg22=>lp aT)⟩,⟨_,[],.opt ((((((((x_4 && (!x_5)) && (!x_6)) && (decide (x_7 = x_8))) && (x_17 && (decide (x_16 = 0)))) && (decide (x_9 = x_42))) && (x_18 && x_19)) && (x_40 && x_41)) && (decide ((x_43.length:Int) = 0))) (.one (.sl 2 (x_44.map (dv .i64)))),rfl,fun _=>rfl,rfl,rfl,fun _=>.sM [104,112,115] (by exact by exact .guard ((((((((x_4 && (!x_5)) && (!x_6)) && (decide (x_7 = x_8))) && (x_17 && (decide (x_16 = 0)))) && (decide (x_9 = x_42))) && (x_18 && x_19)) && (x_40 && x_41)) && (decide ((x_43.length:Int) = 0))) 3 [211] (.plain rfl) (gU _) rfl rfl (fun gg23=>⟨gg23,trivial⟩) (fun gg23=>ak (((gS (gc e72 gg23)).sw 51 0).rC) tB rfl rfl)) (by exact rfl)⟩,⟨.opt ((((((((x_4 && (!x_5)) && (!x_6)) && (decide (x_7 = x_8))) && (x_17 && (decide (x_16 = 0)))) && (decide (x_9 = x_42))) && (x_18 && x_19)) && (x_40 && x_41)) && (decide ((x_43.length:Int) = 0))) (.agg [.i 3,.i 7]),fun _=>rfl,fun _=>by exact .guard ((((((((x_4 && (!x_5)) && (!x_6)) && (decide (x_7 = x_8))) && (x_17 && (decide (x_16 = 0)))) && (decide (x_9 = x_42))) && (x_18 && x_19)) && (x_40 && x_41)) && (decide ((x_43.length:Int) = 0))) 1 [] (.plain rfl) (gU _) rfl rfl (fun gg24=>trivial) (fun gg24=>di ef rfl rfl)⟩,⟨.opt ((((((((x_4 && (!x_5)) && (!x_6)) && (decide (x_7 = x_8))) && (x_17 && (decide (x_16 = 0)))) && (decide (x_9 = x_42))) && (x_18 && x_19)) && (x_40 && x_41)) && (decide ((x_43.length:Int) = 0))) (.one (.sl 2 ([(⟨3,7⟩:A2)].map (dv .i64)))),fun _=>rfl,fun _=>by exact .guard ((((((((x_4 && (!x_5)) && (!x_6)) && (decide (x_7 = x_8))) && (x_17 && (decide (x_16 = 0)))) && (decide (x_9 = x_42))) && (x_18 && x_19)) && (x_40 && x_41)) && (decide ((x_43.length:Int) = 0))) 2 [213] (.plain rfl) (gU _) rfl rfl (fun gg25=>⟨gg25,trivial⟩) (fun gg25=>dp (es:=[(⟨3,7⟩:A2)].map (dv .i64)) fY rfl rfl (cB fun _=>rfl) rfl (by decide) (by decide))⟩,trivial,trivial,trivial,trivial,trivial,trivial,trivial,trivial,trivial,trivial,trivial,trivial⟩,⟨by kernel_rfl,⟨trivial,trivial,trivial,trivial,trivial,trivial,trivial,trivial,trivial,trivial,trivial,trivial,trivial,trivial,trivial,trivial,trivial,trivial,trivial,trivial,trivial,trivial,trivial,trivial,⟨.opt ((((((((x_4 && (!x_5)) && (!x_6)) && (decide (x_7 = x_8))) && (x_17 && (decide (x_16 = 0)))) && (decide (x_9 = x_42))) && (x_18 && x_19)) && (x_40 && x_41)) && (decide ((x_43.length:Int) = 0))) (.agg [.i 3,.i 7]),fun _=>rfl,fun _=>by exact .guard ((((((((x_4 && (!x_5)) && (!x_6)) && (decide (x_7 = x_8))) && (x_17 && (decide (x_16 = 0)))) && (decide (x_9 = x_42))) && (x_18 && x_19)) && (x_40 && x_41)) && (decide ((x_43.length:Int) = 0))) 1 [] (.plain rfl) (gU _) rfl rfl (fun gg24=>trivial) (fun gg24=>di ef rfl rfl)⟩,⟨.opt ((((((((x_4 && (!x_5)) && (!x_6)) && (decide (x_7 = x_8))) && (x_17 && (decide (x_16 = 0)))) && (decide (x_9 = x_42))) && (x_18 && x_19)) && (x_40 && x_41)) && (decide ((x_43.length:Int) = 0))) (.one (.sl 2 ([(⟨3,7⟩:A2)].map (dv .i64)))),fun _=>rfl,fun _=>by exact .guard ((((((((x_4 && (!x_5)) && (!x_6)) && (decide (x_7 = x_8))) && (x_17 && (decide (x_16 = 0)))) && (decide (x_9 = x_42))) && (x_18 && x_19)) && (x_40 && x_41)) && (decide ((x_43.length:Int) = 0))) 2 [213] (.plain rfl) (gU _) rfl rfl (fun gg25=>⟨gg25,trivial⟩) (fun gg25=>dp (es:=[(⟨3,7⟩:A2)].map (dv .i64)) fY rfl rfl (cB fun _=>rfl) rfl (by decide) (by decide))⟩,⟨.opt ((((((((x_4 && (!x_5)) && (!x_6)) && (decide (x_7 = x_8))) && (x_17 && (decide (x_16 = 0)))) && (decide (x_9 = x_42))) && (x_18 && x_19)) && (x_40 && x_41)) && (decide ((x_43.length:Int) = 0))) (.one (.bool x_45)),fun _=>rfl,fun _=>by exact .guard ((((((((x_4 && (!x_5)) && (!x_6)) && (decide (x_7 = x_8))) && (x_17 && (decide (x_16 = 0)))) && (decide (x_9 = x_42))) && (x_18 && x_19)) && (x_40 && x_41)) && (decide ((x_43.length:Int) = 0))) 4 [212,214] (.plain rfl) (gU _) rfl rfl (fun gg26=>⟨gg26,gg26,gg26,trivial⟩) (fun gg26=>ak (b6 (gc e73 gg26)) o9 rfl rfl)⟩,⟨B (((((((((x_4 && (!x_5)) && (!x_6)) && (decide (x_7 = x_8))) && (x_17 && (decide (x_16 = 0)))) && (decide (x_9 = x_42))) && (x_18 && x_19)) && (x_40 && x_41)) && (decide ((x_43.length:Int) = 0))) && x_45),fun _=>rfl,fun _=>.p (by exact aG (fun e=>e) rfl rfl rfl rfl)⟩,⟨B (((((((((x_4 && (!x_5)) && (!x_6)) && (decide (x_7 = x_8))) && (x_17 && (decide (x_16 = 0)))) && (decide (x_9 = x_42))) && (x_18 && x_19)) && (x_40 && x_41)) && (decide ((x_43.length:Int) = 0))) && x_45),fun _=>rfl,fun _=>.p (by exact aU rfl)⟩,⟨.opt (((((((((x_4 && (!x_5)) && (!x_6)) && (decide (x_7 = x_8))) && (x_17 && (decide (x_16 = 0)))) && (decide (x_9 = x_42))) && (x_18 && x_19)) && (x_40 && x_41)) && (decide ((x_43.length:Int) = 0))) && x_45) (.one (.i x_34)),fun _=>rfl,fun _=>by exact .guard (((((((((x_4 && (!x_5)) && (!x_6)) && (decide (x_7 = x_8))) && (x_17 && (decide (x_16 = 0)))) && (decide (x_9 = x_42))) && (x_18 && x_19)) && (x_40 && x_41)) && (decide ((x_43.length:Int) = 0))) && x_45) 1 [] (.plain rfl) (gU _) rfl rfl (fun gg29=>trivial) (fun gg29=>om)⟩,⟨.opt (((((((((x_4 && (!x_5)) && (!x_6)) && (decide (x_7 = x_8))) && (x_17 && (decide (x_16 = 0)))) && (decide (x_9 = x_42))) && (x_18 && x_19)) && (x_40 && x_41)) && (decide ((x_43.length:Int) = 0))) && x_45) (.one (.bool (decide (x_34 = 6)))),fun _=>rfl,fun _=>by exact .guard (((((((((x_4 && (!x_5)) && (!x_6)) && (decide (x_7 = x_8))) && (x_17 && (decide (x_16 = 0)))) && (decide (x_9 = x_42))) && (x_18 && x_19)) && (x_40 && x_41)) && (decide ((x_43.length:Int) = 0))) && x_45) 2 [218] (.plain rfl) (gU _) rfl rfl (fun gg30=>⟨gg30,trivial⟩) (fun gg30=>dy rfl rfl)⟩,⟨B ((((((((((x_4 && (!x_5)) && (!x_6)) && (decide (x_7 = x_8))) && (x_17 && (decide (x_16 = 0)))) && (decide (x_9 = x_42))) && (x_18 && x_19)) && (x_40 && x_41)) && (decide ((x_43.length:Int) = 0))) && x_45) && (decide (x_34 = 6))),fun _=>rfl,fun _=>.p (by exact aG (fun e=>e) rfl rfl rfl rfl)⟩,⟨B ((((((((((x_4 && (!x_5)) && (!x_6)) && (decide (x_7 = x_8))) && (x_17 && (decide (x_16 = 0)))) && (decide (x_9 = x_42))) && (x_18 && x_19)) && (x_40 && x_41)) && (decide ((x_43.length:Int) = 0))) && x_45) && (decide (x_34 = 6))),fun _=>rfl,fun _=>.p (by exact aU rfl)⟩,⟨.opt ((((((((((x_4 && (!x_5)) && (!x_6)) && (decide (x_7 = x_8))) && (x_17 && (decide (x_16 = 0)))) && (decide (x_9 = x_42))) && (x_18 && x_19)) && (x_40 && x_41)) && (decide ((x_43.length:Int) = 0))) && x_45) && (decide (x_34 = 6))) (.one (.i x_36)),fun _=>rfl,fun _=>by exact .guard ((((((((((x_4 && (!x_5)) && (!x_6)) && (decide (x_7 = x_8))) && (x_17 && (decide (x_16 = 0)))) && (decide (x_9 = x_42))) && (x_18 && x_19)) && (x_40 && x_41)) && (decide ((x_43.length:Int) = 0))) && x_45) && (decide (x_34 = 6))) 1 [] (.plain rfl) (gU _) rfl rfl (fun gg33=>trivial) (fun gg33=>om)⟩,⟨.opt ((((((((((x_4 && (!x_5)) && (!x_6)) && (decide (x_7 = x_8))) && (x_17 && (decide (x_16 = 0)))) && (decide (x_9 = x_42))) && (x_18 && x_19)) && (x_40 && x_41)) && (decide ((x_43.length:Int) = 0))) && x_45) && (decide (x_34 = 6))) (.one (.bool (decide (x_36 = 5)))),fun _=>rfl,fun _=>by exact .guard ((((((((((x_4 && (!x_5)) && (!x_6)) && (decide (x_7 = x_8))) && (x_17 && (decide (x_16 = 0)))) && (decide (x_9 = x_42))) && (x_18 && x_19)) && (x_40 && x_41)) && (decide ((x_43.length:Int) = 0))) && x_45) && (decide (x_34 = 6))) 2 [222] (.plain rfl) (gU _) rfl rfl (fun gg34=>⟨gg34,trivial⟩) (fun gg34=>dy rfl rfl)⟩,⟨B (((((((((((x_4 && (!x_5)) && (!x_6)) && (decide (x_7 = x_8))) && (x_17 && (decide (x_16 = 0)))) && (decide (x_9 = x_42))) && (x_18 && x_19)) && (x_40 && x_41)) && (decide ((x_43.length:Int) = 0))) && x_45) && (decide (x_34 = 6))) && (decide (x_36 = 5))),fun _=>rfl,fun _=>.p (by exact aG (fun e=>e) rfl rfl rfl rfl)⟩,⟨B (((((((((((x_4 && (!x_5)) && (!x_6)) && (decide (x_7 = x_8))) && (x_17 && (decide (x_16 = 0)))) && (decide (x_9 = x_42))) && (x_18 && x_19)) && (x_40 && x_41)) && (decide ((x_43.length:Int) = 0))) && x_45) && (decide (x_34 = 6))) && (decide (x_36 = 5))),fun _=>rfl,fun _=>.p (by exact bV rfl)⟩,trivial⟩,trivial⟩⟩⟩) rfl rfl rfl [0] [] (s':=⟨[(0,B (((((((((((x_4 && (!x_5)) && (!x_6)) && (decide (x_7 = x_8))) && (x_17 && (decide (x_16 = 0)))) && (decide (x_9 = x_42))) && (x_18 && x_19)) && (x_40 && x_41)) && (decide ((x_43.length:Int) = 0))) && x_45) && (decide (x_34 = 6))) && (decide (x_36 = 5))))],[]⟩) rfl ?_
 refine ab.ret ?_
 obtain rfl:=Option.some.inj h
 refine Fin.ag ⟨[(0,_)],[]⟩ rfl (Fin.au [.one (.bool (((((((((((x_4 && (!x_5)) && (!x_6)) && (decide (x_7 = x_8))) && (x_17 && (decide (x_16 = 0)))) && (decide (x_9 = x_42))) && (x_18 && x_19)) && (x_40 && x_41)) && (decide ((x_43.length:Int) = 0))) && x_45) && (decide (x_34 = 6))) && (decide (x_36 = 5))))] (.inl rfl) rfl (.cons (.tmp rfl) .nil) ⟨rfl,rfl⟩)
def cE (F:Nat) (a0:bH) (b0:bH):Option Bool :=
 Option.bind (iter F (fun i_1=>if (decide (i_1 < 3)) = true then ((a8 a0.Hi.l i_1).bind fun x_2=>(a8 b0.Lo.l i_1).bind fun x_3=>(bN (!(decide (x_2 < x_3))) (a8 b0.Hi.l i_1)).bind fun x_4=>(bN (!(decide (x_2 < x_3))) (a8 a0.Lo.l i_1)).bind fun x_5=>if ((decide (x_2 < x_3)) || (decide (x_4 < x_5))) = true then (some (.inr (.inr false))) else (some (.inl (IntKind.i64.wrap (i_1 + 1))))) else (some (.inr (.inl ())))) 0) (cm (fun _=>some true) (fun y=>some y))
theorem iN {F:Nat} {a0:bH} {b0:bH} {r:Bool} (h:cE F a0 b0 = some r):an Tryz.prog [] 17 [] [.agg (aj a0),.agg (aj b0)] (Is [] (.b (.one (.bool r)))):=by
 unfold cE at h
 refine an.intro 30 Tryz.func17 Tryz.ntmps17 rfl (by simp) fun E=>?_
 show ab _ E ⟨30,[],[],[]⟩ _ ⟨[(0,.b (.agg (aj a0))),(1,.b (.agg (aj b0)))],[]⟩ _
 refine ab.seq (ab.aa ?_)
 refine Oc (bI (k:=101) rfl rfl) (Oc (bI (k:=102) rfl rfl) (Oc oa ?_))
 refine af.ai ⟨[(2,Pt 101 0),(3,Pt 102 0)],[(101,.box 25 (aj a0)),(102,.box 25 (aj b0))]⟩ rfl ?_
 obtain ⟨v1,h2,h⟩:=aO h
 refine ab.dR (v:=v1) (fun (_:Unit)=>⟨[],[]⟩) (fun z=>.inl z) ?_ ?_
 ·refine ab.seq (ab.aa ?_)
  refine Oc oa (af.ai ⟨[(2,_),(3,_),(5,I 0)],[(101,_),(102,_)]⟩ rfl (ab.block (ab.c6 h2 (fun (i_1:Int)=>⟨[(2,Pt 101 0),(3,Pt 102 0),(5,I i_1)],[(101,.box 25 (aj a0)),(102,.box 25 (aj b0))]⟩) [2,3,5] [101,102] rfl ?_)))
  rintro i_1 o3 h4 hy5
  refine ab.seq (ab.seq (ab.aa ?_))
  refine Oc om (Oc (bf rfl rfl) ?_)
  refine af.ai ⟨[(2,_),(3,_),(5,_),(7,B (decide (i_1 < 3)))],[(101,_),(102,_)]⟩ rfl (ab.ite h4 rfl (fun _ h4=>?_) (fun _ h4=>?_))
  ·refine ab.skip (Fin.ag ⟨[(2,_),(3,_),(5,_)],[(101,_),(102,_)]⟩ rfl (Fin.then (ab.seq (ab.block (ab.seq ?_)))))
   refine ab.ag ⟨[(2,_),(3,_),(5,_)],[(101,_),(102,_)]⟩ rfl ?_
   obtain ⟨x_2,e6,h4⟩:=aO h4
   obtain ⟨x_3,e7,h4⟩:=aO h4
   obtain ⟨x_4,e11,h4⟩:=aO h4
   obtain ⟨x_5,e16,h4⟩:=aO h4
   refine ab.bK mixed 20 [I i_1,Pt 101 3,.b (.ptr 101 (3 + (i_1:Int).toNat * 1)),I x_2,I i_1,Pt 102 0,.b (.ptr 102 (0 + (i_1:Int).toNat * 1)),I x_3,B (decide (x_2 < x_3)),B (decide (x_2 < x_3)),.opt (!(decide (x_2 < x_3))) (.one (.i i_1)),.opt (!(decide (x_2 < x_3))) (.ptr 102 3),.opt (!(decide (x_2 < x_3))) (.ptr 102 (3 + (i_1:Int).toNat * 1)),.opt (!(decide (x_2 < x_3))) (.one (.i x_4)),.opt (!(decide (x_2 < x_3))) (.one (.i i_1)),.opt (!(decide (x_2 < x_3))) (.ptr 101 0),.opt (!(decide (x_2 < x_3))) (.ptr 101 (0 + (i_1:Int).toNat * 1)),.opt (!(decide (x_2 < x_3))) (.one (.i x_5)),.opt (!(decide (x_2 < x_3))) (.one (.bool (decide (x_4 < x_5)))),B ((decide (x_2 < x_3)) || (decide (x_4 < x_5)))] [2,3,5,29] [101,102] (s':=⟨[(2,_),(3,_),(5,_),(29,B ((decide (x_2 < x_3)) || (decide (x_4 < x_5))))],[(101,_),(102,_)]⟩) rfl ⟨fun _=>.p om,fun _=>.p (ar cg rfl rfl),fun _=>.p (aV bp (a7 e6) (cJ e6) rfl rfl rfl),fun _=>.p (aH aQ rfl rfl (ca (post:=[]) (k:=.i64) ((cG .i64) a0.Lo) e6 rfl rfl rfl)),fun _=>.p om,fun _=>.p (ar ck rfl rfl),fun _=>.p (aV bp (a7 e7) (cJ e7) rfl rfl rfl),fun _=>.p (aH aQ rfl rfl (ca (post:=((cG .i64) b0.Hi)) (k:=.i64) [] e7 rfl rfl rfl)),fun _=>.p (bf rfl rfl),fun _=>.p om,fun _=>by exact .guard (!(decide (x_2 < x_3))) 1 [] (.plain rfl) (dx _) rfl rfl (fun g8=>trivial) (fun g8=>om),fun _=>by exact .guard (!(decide (x_2 < x_3))) 1 [] (.plain rfl) (dx _) rfl rfl (fun g9=>trivial) (fun g9=>ar cg rfl rfl),fun _=>by exact .guard (!(decide (x_2 < x_3))) 3 [20,21] (.plain rfl) (dx _) rfl rfl (fun g10=>⟨g10,g10,trivial⟩) (fun g10=>aV bp (a7 (gc e11 g10)) (cJ (gc e11 g10)) rfl rfl rfl),fun _=>by exact .guard (!(decide (x_2 < x_3))) 2 [22] (.plain rfl) (dx _) rfl rfl (fun g12=>⟨g12,trivial⟩) (fun g12=>aH aQ rfl rfl (ca (post:=[]) (k:=.i64) ((cG .i64) b0.Lo) (gc e11 g12) rfl rfl rfl)),fun _=>by exact .guard (!(decide (x_2 < x_3))) 1 [] (.plain rfl) (dx _) rfl rfl (fun g13=>trivial) (fun g13=>om),fun _=>by exact .guard (!(decide (x_2 < x_3))) 1 [] (.plain rfl) (dx _) rfl rfl (fun g14=>trivial) (fun g14=>ar ck rfl rfl),fun _=>by exact .guard (!(decide (x_2 < x_3))) 3 [24,25] (.plain rfl) (dx _) rfl rfl (fun g15=>⟨g15,g15,trivial⟩) (fun g15=>aV bp (a7 (gc e16 g15)) (cJ (gc e16 g15)) rfl rfl rfl),fun _=>by exact .guard (!(decide (x_2 < x_3))) 2 [26] (.plain rfl) (dx _) rfl rfl (fun g17=>⟨g17,trivial⟩) (fun g17=>aH aQ rfl rfl (ca (post:=((cG .i64) a0.Hi)) (k:=.i64) [] (gc e16 g17) rfl rfl rfl)),fun _=>by exact .guard (!(decide (x_2 < x_3))) 3 [23,27] (.plain rfl) (dx _) rfl rfl (fun g18=>⟨g18,g18,trivial⟩) (fun g18=>bf rfl rfl),fun _=>.p (cI (fun e=>by first | (rw [e]; rfl) | (simp only at e; rw [e]; rfl)) rfl rfl rfl rfl),trivial⟩ rfl rfl ?_
   refine ab.ite h4 rfl (fun _ h4=>?_) (fun _ h4=>?_)
   ·refine ab.seq (ab.aa ?_)
    refine Oc oa (af.ai ⟨[(4,B false)],[]⟩ rfl (ab.ret (Fin.aL (Fin.aq ?_))))
    obtain rfl:=hy5 _ (Option.some.inj h4).symm
    refine Fin.aq (Fin.aL (Fin.aq ?_))
    obtain rfl:=Option.some.inj h
    refine Fin.ag ⟨[(4,_)],[]⟩ rfl (Fin.au [.one (.bool false)] (.inl rfl) rfl (.cons (.tmp rfl) .nil) ⟨rfl,rfl⟩)
   ·refine ab.skip (Fin.ax (Fin.ag ⟨[(2,_),(3,_),(5,_)],[(101,_),(102,_)]⟩ rfl (Fin.then (ab.aa ?_))))
    refine Oc om (Oc (bB rfl rfl) (Oc oa ?_))
    refine af.nil ?_
    exact Fin.cq [2,3,5] [101,102] (IntKind.i64.wrap (i_1 + 1)) (Option.some.inj h4) rfl
  ·refine ab.exit (Fin.aA ?_)
   obtain rfl:=hy5 _ (Option.some.inj h4).symm
   refine Fin.aA (Fin.aW ?_)
   exact Fin.join [] [] () rfl rfl
 ·rintro _ hv
  subst v1
  refine ab.seq (ab.aa ?_)
  refine Oc oa (af.ai ⟨[(4,B true)],[]⟩ rfl (ab.ret ?_))
  obtain rfl:=Option.some.inj h
  refine Fin.ag ⟨[(4,_)],[]⟩ rfl (Fin.au [.one (.bool true)] (.inl rfl) rfl (.cons (.tmp rfl) .nil) ⟨rfl,rfl⟩)
def cO (F:Nat) (l0:List bH):Option Bool :=
 Option.bind (iter F (fun i_1=>if (decide (i_1 < (l0.length:Int))) = true then ((a8 l0 i_1).bind fun x_2=>(cw F x_2).bind fun x_3=>if (!x_3) = true then (some (.inr (.inr false))) else (some (.inl (IntKind.i64.wrap (i_1 + 1))))) else (some (.inr (.inl ())))) 0) (cm (fun _=>some true) (fun y=>some y))
theorem jh {F:Nat} {l0:List bH} {r:Bool} (h:cO F l0 = some r):an Tryz.prog [] 28 [] [.one (.sl 6 (l0.map aj))] (Is [] (.b (.one (.bool r)))):=by
 unfold cO at h
 refine an.intro 18 Tryz.func28 Tryz.ntmps28 rfl (by simp) fun E=>?_
 show ab _ E ⟨18,[],[],[]⟩ _ ⟨[(0,.b (.one (.sl 6 (l0.map aj))))],[]⟩ _
 refine ab.seq (ab.aa ?_)
 refine Oc oa (af.ai ⟨[(0,.b (.one (.sl 6 (l0.map aj))))],[]⟩ rfl ?_)
 obtain ⟨v1,h2,h⟩:=aO h
 refine ab.dR (v:=v1) (fun (_:Unit)=>⟨[],[]⟩) (fun z=>.inl z) ?_ ?_
 ·refine ab.seq (ab.aa ?_)
  refine Oc oa (af.ai ⟨[(0,_),(3,I 0)],[]⟩ rfl (ab.block (ab.c6 h2 (fun (i_1:Int)=>⟨[(0,.b (.one (.sl 6 (l0.map aj)))),(3,I i_1)],[]⟩) [0,3] [] rfl ?_)))
  rintro i_1 o3 h4 hy5
  refine ab.seq (ab.seq (ab.aa ?_))
  refine Oc om (Oc om (Oc (bj ot rfl (List.length_map _)) (Oc (bf rfl rfl) ?_)))
  refine af.ai ⟨[(0,_),(3,_),(8,B (decide (i_1 < (l0.length:Int))))],[]⟩ rfl (ab.ite h4 rfl (fun _ h4=>?_) (fun _ h4=>?_))
  ·refine ab.skip (Fin.ag ⟨[(0,_),(3,_)],[]⟩ rfl (Fin.then (ab.seq (ab.block (ab.seq (ab.aa ?_))))))
   refine Oc om (Oc om ?_)
   obtain ⟨x_2,e6,h4⟩:=aO h4
   refine Oc (bd ig (a7 e6) (cy (e:=aj) e6) rfl rfl) (Oc (bU aC rfl rfl rfl) ?_)
   obtain ⟨x_3,e7,h4⟩:=aO h4
   refine Oc (ak (ix e7) goes13 rfl rfl) (Oc oa ?_)
   refine af.ai ⟨[(0,_),(3,_),(4,B x_3)],[]⟩ rfl (ab.seq (ab.aa ?_))
   refine Oc om (Oc (dU rfl) ?_)
   refine af.ai ⟨[(0,_),(3,_),(17,B (!x_3))],[]⟩ rfl (ab.ite h4 rfl (fun _ h4=>?_) (fun _ h4=>?_))
   ·refine ab.seq (ab.aa ?_)
    refine Oc oa (af.ai ⟨[(2,B false)],[]⟩ rfl (ab.ret (Fin.aL (Fin.aq ?_))))
    obtain rfl:=hy5 _ (Option.some.inj h4).symm
    refine Fin.aq (Fin.aL (Fin.aq ?_))
    obtain rfl:=Option.some.inj h
    refine Fin.ag ⟨[(2,_)],[]⟩ rfl (Fin.au [.one (.bool false)] (.inl rfl) rfl (.cons (.tmp rfl) .nil) ⟨rfl,rfl⟩)
   ·refine ab.skip (Fin.ax (Fin.ag ⟨[(0,_),(3,_)],[]⟩ rfl (Fin.then (ab.aa ?_))))
    refine Oc om (Oc (bB rfl rfl) (Oc oa ?_))
    refine af.nil ?_
    exact Fin.cq [0,3] [] (IntKind.i64.wrap (i_1 + 1)) (Option.some.inj h4) rfl
  ·refine ab.exit (Fin.aA ?_)
   obtain rfl:=hy5 _ (Option.some.inj h4).symm
   refine Fin.aA (Fin.aW ?_)
   exact Fin.join [] [] () rfl rfl
 ·rintro _ hv
  subst v1
  refine ab.seq (ab.aa ?_)
  refine Oc oa (af.ai ⟨[(2,B true)],[]⟩ rfl (ab.ret ?_))
  obtain rfl:=Option.some.inj h
  refine Fin.ag ⟨[(2,_)],[]⟩ rfl (Fin.au [.one (.bool true)] (.inl rfl) rfl (.cons (.tmp rfl) .nil) ⟨rfl,rfl⟩)
def cx (F:Nat) (l0:List bH):Option ((List A2) × Int) :=
 (cO F l0).bind fun x_1=>if (!x_1) = true then (some ([],1)) else (Option.bind (iter F (dS fun out_3 i_4=>if (decide (i_4 < (l0.length:Int))) = true then (Option.bind (Option.bind (iter F (dS fun out_7 k_8=>if (decide (k_8 < (l0.length:Int))) = true then (Option.bind ((a8 l0 i_4).bind fun x_11=>(a8 l0 k_8).bind fun x_12=>(cE F x_11 x_12).bind fun x_13=>if x_13 = true then ((jy out_7 [(⟨i_4,k_8⟩:A2)]).bind fun x_14=>some x_14) else (some out_7)) (fun out_10=>some (.inl (out_10,IntKind.i64.wrap (k_8 + 1))))) else (some (.inr out_7))) (out_3,IntKind.i64.wrap (i_4 + 1))) (fun out_9=>some out_9)) (fun out_6=>some (.inl (out_6,IntKind.i64.wrap (i_4 + 1))))) else (some (.inr out_3))) ([],0)) (fun out_2=>some (out_2,0)))
theorem iy (kr0:Nat) {F:Nat} {l0:List bH} {r:(List A2) × Int} (h:cx F l0 = some r):an Tryz.prog [] 21 [] [.one (.sl 6 (l0.map aj))] (Is [(kr0,.row 40 2 (r.1.map (dv .i64)))] (.eu [.row kr0,.one (.i r.2)])):=by
 unfold cx at h
 refine an.intro 44 Tryz.func21 Tryz.ntmps21 rfl (by simp) fun E=>?_
 show ab _ E ⟨44,[],[],[]⟩ _ ⟨[(0,.b (.one (.sl 6 (l0.map aj))))],[]⟩ _
 refine ab.seq (ab.aa ?_)
 refine Oc oa (Oc oa ?_)
 refine af.ai ⟨[(0,.b (.one (.sl 6 (l0.map aj))))],[]⟩ rfl (ab.seq (ab.aa ?_))
 refine Oc om ?_
 obtain ⟨x_1,e1,h⟩:=aO h
 refine Oc (ak (jh e1) goes28 rfl rfl) (Oc oa ?_)
 refine af.ai ⟨[(0,_),(4,B x_1)],[]⟩ rfl (ab.seq (ab.seq (ab.aa ?_)))
 refine Oc om (Oc (dU rfl) ?_)
 refine af.ai ⟨[(0,_),(12,B (!x_1))],[]⟩ rfl (ab.ite h rfl (fun _ h=>?_) (fun _ h=>?_))
 ·refine ab.seq (ab.aa ?_)
  refine Oc oa (Oc oa ?_)
  refine af.ai ⟨[(2,.b (.one (.nil))),(3,I 1)],[]⟩ rfl (ab.ret (Fin.aq ?_))
  obtain rfl:=Option.some.inj h
  refine Fin.ag ⟨[(2,_),(3,_)],[]⟩ rfl (Fin.eE 2 101 2 40 rfl (by decide) rfl (Fin.iT 101 kr0 [.row 101,.one (.i 1)] (.inl rfl) rfl (.cons (.tmp rfl) (.cons (.tmp rfl) .nil)) rfl rfl rfl rfl ⟨rfl,rfl⟩))
 ·refine ab.skip (Fin.ag ⟨[(0,_)],[]⟩ rfl (Fin.then (ab.seq (ab.aa ?_))))
  refine Oc oa (af.ai ⟨[(0,_),(5,.b (.one (.nil)))],[]⟩ rfl ?_)
  obtain ⟨v2,h3,h⟩:=aO h
  refine ab.dR (v:=v2) (fun (out_2:List A2)=>⟨[(5,.b (.row 103))],[(103,.row 40 2 (out_2.map (dv .i64)))]⟩) (fun z=>z) ?_ ?_
  ·refine ab.seq (ab.aa ?_)
   refine Oc oa (af.ai ⟨[(0,_),(5,_),(6,I 0)],[]⟩ rfl (ab.block (ab.eE 5 103 2 40 rfl (by decide) rfl (ab.c6 h3 (dS fun (out_3:List A2) (i_4:Int)=>⟨[(0,.b (.one (.sl 6 (l0.map aj)))),(5,.b (.row 103)),(6,I i_4)],[(103,.row 40 2 (out_3.map (dv .i64)))]⟩) [0,5,6] [103] rfl ?_))))
   rintro ⟨out_3,i_4⟩ o4 h5 hy6
   refine ab.seq (ab.seq (ab.aa ?_))
   refine Oc om (Oc om (Oc (bj ot rfl (List.length_map _)) (Oc (bf rfl rfl) ?_)))
   refine af.ai ⟨[(0,_),(5,_),(6,_),(16,B (decide (i_4 < (l0.length:Int))))],[(103,_)]⟩ rfl (ab.ite h5 rfl (fun _ h5=>?_) (fun _ h5=>?_))
   ·refine ab.skip (Fin.ag ⟨[(0,_),(5,_),(6,_)],[(103,_)]⟩ rfl (Fin.then ?_))
    obtain ⟨v7,h8,h5⟩:=aO h5
    refine ab.dR (v:=v7) (fun (out_6:List A2)=>⟨[(0,.b (.one (.sl 6 (l0.map aj)))),(5,.b (.row 103)),(6,I i_4)],[(103,.row 40 2 (out_6.map (dv .i64)))]⟩) (fun z=>z) ?_ ?_
    ·refine ab.block (ab.seq (ab.aa ?_))
     refine Oc om (Oc (bB rfl rfl) (Oc oa ?_))
     refine af.ai ⟨[(0,_),(5,_),(6,_),(7,I (IntKind.i64.wrap (i_4 + 1)))],[(103,_)]⟩ rfl (ab.block ?_)
     obtain ⟨v9,h10,h8⟩:=aO h8
     refine ab.c6 h10 (dS fun (out_7:List A2) (k_8:Int)=>⟨[(0,.b (.one (.sl 6 (l0.map aj)))),(5,.b (.row 103)),(6,I i_4),(7,I k_8)],[(103,.row 40 2 (out_7.map (dv .i64)))]⟩) [0,5,6,7] [103] rfl ?_
     rintro ⟨out_7,k_8⟩ o11 h12 hy13
     refine ab.seq (ab.seq (ab.aa ?_))
     refine Oc om (Oc om (Oc (bj ot rfl (List.length_map _)) (Oc (bf rfl rfl) ?_)))
     refine af.ai ⟨[(0,_),(5,_),(6,_),(7,_),(24,B (decide (k_8 < (l0.length:Int))))],[(103,_)]⟩ rfl (ab.ite h12 rfl (fun _ h12=>?_) (fun _ h12=>?_))
     ·refine ab.skip (Fin.ag ⟨[(0,_),(5,_),(6,_),(7,_)],[(103,_)]⟩ rfl (Fin.then ?_))
      obtain ⟨v14,h15,h12⟩:=aO h12
      refine ab.dR (v:=v14) (fun (out_10:List A2)=>⟨[(0,.b (.one (.sl 6 (l0.map aj)))),(5,.b (.row 103)),(6,I i_4),(7,I k_8)],[(103,.row 40 2 (out_10.map (dv .i64)))]⟩) (fun z=>z) ?_ ?_
      ·refine ab.block (ab.seq ?_)
       refine ab.ag ⟨[(0,_),(5,_),(6,_),(7,_)],[(103,_)]⟩ rfl ?_
       obtain ⟨x_11,e16,h15⟩:=aO h15
       obtain ⟨x_12,e17,h15⟩:=aO h15
       obtain ⟨x_13,e18,h15⟩:=aO h15
       refine ab.bK mixed 10 [.b (.one (.sl 6 (l0.map aj))),I i_4,.b (.aK (aj x_11)),.b (.agg (aj x_11)),.b (.one (.sl 6 (l0.map aj))),I k_8,.b (.aK (aj x_12)),.b (.agg (aj x_12)),B x_13,B x_13] [0,5,6,7,8] [103] (s':=⟨[(0,_),(5,_),(6,_),(7,_),(8,B x_13)],[(103,_)]⟩) rfl ⟨fun _=>.p om,fun _=>.p om,fun _=>.p (bd ig (a7 e16) (cy (e:=aj) e16) rfl rfl),fun _=>.p (bU aC rfl rfl rfl),fun _=>.p om,fun _=>.p om,fun _=>.p (bd ig (a7 e17) (cy (e:=aj) e17) rfl rfl),fun _=>.p (bU aC rfl rfl rfl),fun _=>.p (ak (iN e18) goes17 rfl rfl),fun _=>.p oa,trivial⟩ rfl rfl (ab.seq (ab.aa ?_))
       refine Oc om (af.ai ⟨[(0,_),(5,_),(6,_),(7,_),(36,B x_13)],[(103,_)]⟩ rfl (ab.ite h15 rfl (fun _ h15=>?_) (fun _ h15=>?_)))
       ·refine ab.aa (Oc om (Oc om (Oc om (Oc (di ef rfl rfl) (Oc (b9 (k:=104) (es:=[(⟨i_4,k_8⟩:A2)].map (dv .i64)) fY rfl rfl (cB fun _=>rfl) rfl (by decide) (by decide) rfl) ?_)))))
        obtain ⟨x_14,e19,h15⟩:=aO h15
        refine Oc (eV fY (oA e19) (oz e19) rfl rfl rfl rfl (kh e19) rfl) (Oc oa ?_)
        refine af.nil (Fin.ax ?_)
        exact Fin.join [0,5,6,7] [103] x_14 (Option.some.inj h15) rfl
       ·refine ab.skip (Fin.ax ?_)
        exact Fin.join [0,5,6,7] [103] out_7 (Option.some.inj h15) rfl
      ·rintro out_10 hv
       subst v14
       refine ab.aa (Oc om (Oc (bB rfl rfl) (Oc oa ?_)))
       refine af.nil ?_
       exact Fin.cq [0,5,6,7] [103] (out_10,IntKind.i64.wrap (k_8 + 1)) (Option.some.inj h12) rfl
     ·refine ab.exit (Fin.aA ?_)
      obtain rfl:=hy13 _ (Option.some.inj h12).symm
      refine Fin.aA (Fin.aW (Fin.ax ?_))
      exact Fin.join [0,5,6] [103] out_7 (Option.some.inj h8) rfl
    ·rintro out_6 hv
     subst v7
     refine ab.aa (Oc om (Oc (bB rfl rfl) (Oc oa ?_)))
     refine af.nil ?_
     exact Fin.cq [0,5,6] [103] (out_6,IntKind.i64.wrap (i_4 + 1)) (Option.some.inj h5) rfl
   ·refine ab.exit (Fin.aA ?_)
    obtain rfl:=hy6 _ (Option.some.inj h5).symm
    refine Fin.aA (Fin.aW ?_)
    exact Fin.join [5] [103] out_3 rfl rfl
  ·rintro out_2 hv
   subst v2
   refine ab.seq (ab.aa ?_)
   refine Oc om (Oc oa (Oc oa ?_))
   refine af.ai ⟨[(2,.b (.row 103)),(3,I 0)],[(103,_)]⟩ rfl (ab.ret ?_)
   obtain rfl:=Option.some.inj h
   refine Fin.ag ⟨[(2,_),(3,_)],[(103,_)]⟩ rfl (Fin.iT 103 kr0 [.row 103,.one (.i 0)] (.inl rfl) rfl (.cons (.tmp rfl) (.cons (.tmp rfl) .nil)) rfl rfl rfl rfl ⟨rfl,rfl⟩)
def bm (F:Nat) (l0:List bH):Option Bool :=
 if (decide (120 < (l0.length:Int))) = true then ((bM F).bind fun x_1=>some x_1) else (Option.bind (cP F l0) (dS fun x_2 x_3=>Option.bind (cx F l0) (dS fun x_4 x_5=>(bM F).bind fun x_6=>(bN x_6 (a6 F x_2 x_4)).bind fun x_7=>some ((x_6 && x_7) && (decide (x_3 = x_5))))))
theorem ed {F:Nat} {l0:List bH} {r:Bool} (h:bm F l0 = some r):an Tryz.prog [] 4 [] [.one (.sl 6 (l0.map aj))] (Is [] (.b (.one (.bool r)))):=by
 unfold bm at h
 refine an.intro 32 Tryz.func4 Tryz.ntmps4 rfl (by simp) fun E=>?_
 show ab _ E ⟨32,[],[],[]⟩ _ ⟨[(0,.b (.one (.sl 6 (l0.map aj))))],[]⟩ _
 refine ab.seq (ab.aa ?_)
 refine Oc oa (af.ai ⟨[(0,.b (.one (.sl 6 (l0.map aj))))],[]⟩ rfl (ab.seq (ab.seq (ab.aa ?_))))
 refine Oc om (Oc (bj ot rfl (List.length_map _)) (Oc (ij rfl rfl) ?_))
 refine af.ai ⟨[(0,_),(9,B (decide (120 < (l0.length:Int))))],[]⟩ rfl (ab.ite h rfl (fun _ h=>?_) (fun _ h=>?_))
 ·refine ab.seq (ab.aa ?_)
  obtain ⟨x_1,e1,h⟩:=aO h
  refine Oc (ak (er e1) tE rfl rfl) (Oc oa ?_)
  refine af.ai ⟨[(2,B x_1)],[]⟩ rfl (ab.ret (Fin.aq ?_))
  obtain rfl:=Option.some.inj h
  refine Fin.ag ⟨[(2,_)],[]⟩ rfl (Fin.au [.one (.bool x_1)] (.inl rfl) rfl (.cons (.tmp rfl) .nil) ⟨rfl,rfl⟩)
 ·refine ab.skip (Fin.ag ⟨[(0,_)],[]⟩ rfl (Fin.then (ab.seq (ab.aa ?_))))
  refine Oc om ?_
  obtain ⟨⟨x_2,x_3⟩,e2,h⟩:=aO h
  refine Oc (cW (fG 101 e2) qW rfl trivial rfl rfl) (Oc om (Oc (ay rfl rfl) (Oc (ay rfl rfl) (Oc oa (Oc oa ?_)))))
  refine af.ai ⟨[(0,_),(3,.b (.row 101)),(4,I x_3)],[(101,.row 40 2 (x_2.map (dv .i64)))]⟩ rfl (ab.seq (ab.aa ?_))
  refine Oc om ?_
  obtain ⟨⟨x_4,x_5⟩,e3,h⟩:=aO h
  refine Oc (cW (iy 102 e3) goes21 rfl trivial rfl rfl) (Oc om (Oc (ay rfl rfl) (Oc (ay rfl rfl) (Oc oa (Oc oa ?_)))))
  refine af.ai ⟨[(3,_),(4,_),(5,.b (.row 102)),(6,I x_5)],[(101,_),(102,.row 40 2 (x_4.map (dv .i64)))]⟩ rfl (ab.seq (ab.aa ?_))
  obtain ⟨x_6,e4,h⟩:=aO h
  refine Oc (ak (er e4) tE rfl rfl) (Oc om ?_)
  refine eO x_6 [] (fun g5=>trivial) (fun g5=>om) (eO x_6 [] (fun g6=>by exact trivial) (fun g6=>om) (af.ag ⟨[(4,_),(6,_),(22,B x_6),(23,.opt x_6 (.row 101)),(24,.opt x_6 (.row 102))],[(101,_),(102,_)]⟩ rfl ?_))
  obtain ⟨x_7,e8,h⟩:=aO h
  refine eO x_6 [23,24] (fun g7=>⟨g7,g7,trivial⟩) (fun g7=>iC (b6 (gc e8 g7)) o9 rfl CP.kr) (Oc (aG (fun e=>e) rfl rfl rfl rfl) (Oc om ?_))
  refine eO (x_6 && x_7) [] (fun g9=>trivial) (fun g9=>om) (eO (x_6 && x_7) [] (fun g10=>by exact trivial) (fun g10=>om) (eO (x_6 && x_7) [28,29] (fun g11=>by exact ⟨g11,g11,trivial⟩) (fun g11=>dy rfl rfl) (Oc (aG (fun e=>e) rfl rfl rfl rfl) (Oc oa ?_))))
  refine af.ai ⟨[(2,B ((x_6 && x_7) && (decide (x_3 = x_5))))],[]⟩ rfl (ab.ret ?_)
  obtain rfl:=Option.some.inj h
  refine Fin.ag ⟨[(2,_)],[]⟩ rfl (Fin.au [.one (.bool ((x_6 && x_7) && (decide (x_3 = x_5))))] (.inl rfl) rfl (.cons (.tmp rfl) .nil) ⟨rfl,rfl⟩)
end Go.Proofs.YtagpkeehkcopaaaGreat

