/- printed walks -/
import Derived.Test.YtnpddoaeoefcnaaW2
namespace Go.Proofs.Ytnpddoaeoefcnaa
open Go.Sk Go
set_option maxHeartbeats 4000000
set_option maxRecDepth 4000
set_option linter.unusedSimpArgs false
set_option linter.unusedVariables false
def bW (F:Nat) (me0:Int) (regions0:Int) (step0:Int) (home0:List Int) (sets0:List (List Int)) (states0:List de):Option Step :=
 bu (((decide (regions0 < 1)) || (decide (16 < regions0))) || (decide (me0 < 0))) fun x_1=>(aK (!((x_1 || (decide (regions0 ≤ me0))) || (decide (step0 < 0)))) (cE F home0 regions0)).bind fun x_2=>bu (((x_1 || (decide (regions0 ≤ me0))) || (decide (step0 < 0))) || (!x_2)) fun x_3=>(aK (!x_3) (bN F home0 sets0)).bind fun x_4=>bu ((x_3 || (!x_4)) || (decide ((states0.length:Int) ≠ (home0.length:Int)))) fun x_5=>if x_5 = true then (some (⟨(⟨0,0,0,[],[],[],[],[],[],[]⟩:Round),[],1⟩:Step)) else (Option.bind (iter F (fun b_6=>if (decide (b_6 < (home0.length:Int))) = true then ((aV states0 b_6).bind fun x_7=>(aV home0 b_6).bind fun x_8=>if ((decide (x_7 ≠ [])) != (decide (x_8 = me0))) = true then (some (.inr (.inr (⟨(⟨0,0,0,[],[],[],[],[],[],[]⟩:Round),[],1⟩:Step)))) else (some (.inl (IntKind.i64.wrap (b_6 + 1))))) else (some (.inr (.inl ())))) 0) (bG (fun _=>Option.bind (mk? (false:Bool) regions0 regions0) (fun x_9=>(bd F sets0).bind fun x_10=>Option.bind (mk? ([]:de) (home0.length:Int) (home0.length:Int)) (fun x_11=>(aV x_9 me0).bind fun x_12=>Option.bind (iter F (eU fun out_14 i_15=>if (decide (i_15 < regions0)) = true then (Option.bind (if (decide (i_15 ≠ me0)) = true then (bu (⟨1,step0,me0,i_15,x_10,[],[]⟩:aI) fun x_18=>(eF out_14 [x_18]).bind fun x_19=>some x_19) else (some out_14)) (fun out_17=>some (.inl (out_17,IntKind.i64.wrap (i_15 + 1))))) else (some (.inr out_14))) ([],0)) (fun out_13=>if (decide (1 < regions0)) = true then (bu (⟨me0,regions0,step0,home0,x_9.set (me0:Int).toNat true,x_10,states0,[],[],x_11⟩:Round) fun x_20=>some (⟨x_20,out_13,0⟩:Step)) else (bu (⟨me0,regions0,step0,home0,x_9.set (me0:Int).toNat true,x_10,states0,[],[],x_11⟩:Round) fun x_21=>(cC F x_21).bind fun x_22=>some x_22))))) (fun y=>some y)))
theorem ml {F:Nat} {me0:Int} {regions0:Int} {step0:Int} {home0:List Int} {sets0:List (List Int)} {states0:List de} {r:Step} (h:bW F me0 regions0 step0 home0 sets0 states0 = some r):aA Try.prog [] 12 [] [.one (.i me0),.one (.i regions0),.one (.i step0),.one (.sl 1 (home0.map eI)),.one (.sl 1 (sets0.map (eL 1 eI))),.one (.sl 1 (states0.map eS))] (Is [] (.b (.agg (gj r)))):=by
 unfold bW at h
 refine aA.intro 116 Try.func12 Try.ntmps12 rfl (by simp) fun E=>?_
 show ab _ E ⟨116,[],[],[]⟩ _ ⟨[(0,I me0),(1,I regions0),(2,I step0),(3,.b (.one (.sl 1 (home0.map eI)))),(4,.b (.one (.sl 1 (sets0.map (eL 1 eI))))),(5,.b (.one (.sl 1 (states0.map eS))))],[]⟩ _
 refine ab.seq (ab.aa ?_)
 refine Oc (cz (k:=101) mB rfl) (af.ak ⟨[(0,I me0),(1,I regions0),(2,I step0),(3,.b (.one (.sl 1 (home0.map eI)))),(4,.b (.one (.sl 1 (sets0.map (eL 1 eI))))),(5,.b (.one (.sl 1 (states0.map eS)))),(12,Pt 101 0)],[(101,.box 37 [.i 0,.i 0,.i 0,.nil,.nil,.nil,.nil,.nil,.nil,.nil,.nil,.i 0])]⟩ rfl (ab.seq (ab.seq (ab.aa ?_))))
 refine Oc om (Oc (aY rfl rfl) (Oc om ?_))
 refine bF (!(decide (regions0 < 1))) [] (fun g1=>trivial) (fun g1=>om) (bF (!(decide (regions0 < 1))) [20] (fun g2=>by exact ⟨g2,trivial⟩) (fun g2=>gZ rfl rfl) (Oc (aF (fun e=>by first | (rw [e]; rfl) | (simp only at e; rw [e]; rfl)) rfl rfl rfl rfl) (Oc om ?_)))
 refine af.ai ⟨[(0,_),(1,_),(2,_),(3,_),(4,_),(5,_),(12,_),(23,B ((decide (regions0 < 1)) || (decide (16 < regions0))))],[(101,_)]⟩ rfl (bF (!((decide (regions0 < 1)) || (decide (16 < regions0)))) [] (fun g3=>trivial) (fun g3=>om) (bF (!((decide (regions0 < 1)) || (decide (16 < regions0)))) [24] (fun g4=>by exact ⟨g4,trivial⟩) (fun g4=>aY rfl rfl) (af.fQ h rfl (aF (fun e=>by first | (rw [e]; rfl) | (simp only at e; rw [e]; rfl)) rfl rfl rfl rfl) (fun x_1 h=>?_))))
 refine Oc om (bF (!x_1) [] (fun g5=>by exact trivial) (fun g5=>om) (bF (!x_1) [] (fun g6=>by exact trivial) (fun g6=>om) (bF (!x_1) [28,29] (fun g7=>by exact ⟨g7,g7,trivial⟩) (fun g7=>gk rfl rfl) (Oc (aF (fun e=>by first | (rw [e]; rfl) | (simp only at e; rw [e]; rfl)) rfl rfl rfl rfl) (af.ai ⟨[(0,_),(1,_),(2,_),(3,_),(4,_),(5,_),(12,_),(31,B (x_1 || (decide (regions0 ≤ me0))))],[(101,_)]⟩ rfl ?_)))))
 refine Oc om (bF (!(x_1 || (decide (regions0 ≤ me0)))) [] (fun g8=>by exact trivial) (fun g8=>om) (bF (!(x_1 || (decide (regions0 ≤ me0)))) [33] (fun g9=>by exact ⟨g9,trivial⟩) (fun g9=>aY rfl rfl) (Oc (aF (fun e=>by first | (rw [e]; rfl) | (simp only at e; rw [e]; rfl)) rfl rfl rfl rfl) (Oc om ?_))))
 refine bF (!((x_1 || (decide (regions0 ≤ me0))) || (decide (step0 < 0)))) [] (fun g10=>trivial) (fun g10=>om) (bF (!((x_1 || (decide (regions0 ≤ me0))) || (decide (step0 < 0)))) [] (fun g11=>by exact trivial) (fun g11=>om) (af.ai ⟨[(0,_),(1,_),(2,_),(3,_),(4,_),(5,_),(12,_),(36,B ((x_1 || (decide (regions0 ≤ me0))) || (decide (step0 < 0)))),(37,.opt (!((x_1 || (decide (regions0 ≤ me0))) || (decide (step0 < 0)))) (.one (.sl 1 (home0.map eI)))),(38,.opt (!((x_1 || (decide (regions0 ≤ me0))) || (decide (step0 < 0)))) (.one (.i regions0)))],[(101,_)]⟩ rfl ?_))
 obtain ⟨x_2,e13,h⟩:=aP h
 refine bF (!((x_1 || (decide (regions0 ≤ me0))) || (decide (step0 < 0)))) [37,38] (fun g12=>⟨g12,g12,trivial⟩) (fun g12=>az (lD (gc e13 g12)) goes24 rfl rfl) (bF (!((x_1 || (decide (regions0 ≤ me0))) || (decide (step0 < 0)))) [39] (fun g14=>⟨g14,trivial⟩) (fun g14=>cL rfl) (af.fQ h rfl (aF (fun e=>by first | (rw [e]; rfl) | (simp only at e; rw [e]; rfl)) rfl rfl rfl rfl) (fun x_3 h=>?_)))
 refine Oc om (bF (!x_3) [] (fun g15=>by exact trivial) (fun g15=>om) (bF (!x_3) [] (fun g16=>by exact trivial) (fun g16=>om) (af.ai ⟨[(0,_),(1,_),(2,_),(3,_),(4,_),(5,_),(12,_),(42,B x_3),(43,.opt (!x_3) (.one (.sl 1 (home0.map eI)))),(44,.opt (!x_3) (.one (.sl 1 (sets0.map (eL 1 eI)))))],[(101,_)]⟩ rfl ?_)))
 obtain ⟨x_4,e18,h⟩:=aP h
 refine bF (!x_3) [43,44] (fun g17=>⟨g17,g17,trivial⟩) (fun g17=>az (iF (gc e18 g17)) yc rfl rfl) (bF (!x_3) [45] (fun g19=>⟨g19,trivial⟩) (fun g19=>cL rfl) (Oc (aF (fun e=>by first | (rw [e]; rfl) | (simp only at e; rw [e]; rfl)) rfl rfl rfl rfl) (Oc om ?_)))
 refine bF (!(x_3 || (!x_4))) [] (fun g20=>trivial) (fun g20=>om) (bF (!(x_3 || (!x_4))) [49] (fun g21=>by exact ⟨g21,trivial⟩) (fun g21=>av lM rfl (List.length_map _)) (bF (!(x_3 || (!x_4))) [] (fun g22=>by exact trivial) (fun g22=>om) (af.ai ⟨[(0,_),(1,_),(2,_),(3,_),(4,_),(5,_),(12,_),(48,B (x_3 || (!x_4))),(50,.opt (!(x_3 || (!x_4))) (.one (.i (states0.length:Int)))),(51,.opt (!(x_3 || (!x_4))) (.one (.sl 1 (home0.map eI))))],[(101,_)]⟩ rfl (bF (!(x_3 || (!x_4))) [51] (fun g23=>by exact ⟨g23,trivial⟩) (fun g23=>av bR rfl (List.length_map _)) (bF (!(x_3 || (!x_4))) [50,52] (fun g24=>by exact ⟨g24,g24,trivial⟩) (fun g24=>cY rfl rfl) ?_)))))
 refine af.fQ h rfl (aF (fun e=>by first | (rw [e]; rfl) | (simp only at e; rw [e]; rfl)) rfl rfl rfl rfl) (fun x_5 h=>?_)
 refine af.ak ⟨[(0,_),(1,_),(2,_),(3,_),(4,_),(5,_),(12,_),(54,B x_5)],[(101,_)]⟩ rfl (ab.ite h rfl (fun _ h=>?_) (fun _ h=>?_))
 ·refine ab.seq (ab.aa ?_)
  refine Oc (bD.jH (.same (.same (.same (.same (.same (.same (.same (.same (.same (.same (.sl (size:=7) (by decide) (.same (.nil))))))))))))) (cc fM rfl rfl)) (Oc (aR cP rfl rfl rfl rfl (Nat.le_of_ble_eq_true rfl) rfl) ?_)
  refine af.ak ⟨[(12,_)],[(101,.box 37 [.i 0,.i 0,.i 0,.nil,.nil,.nil,.nil,.nil,.nil,.nil,.sl 7 ([].map ah),.i 1])]⟩ rfl (ab.ret (Fin.aw ?_))
  obtain rfl:=Option.some.inj h
  refine Fin.ai ⟨[(12,_)],[(101,_)]⟩ rfl (Fin.bE 101 3 1 rfl rfl (by decide) (Fin.bE 101 4 1 rfl rfl (by decide) (Fin.bE 101 5 1 rfl rfl (by decide) (Fin.bE 101 6 1 rfl rfl (by decide) (Fin.bE 101 7 3 rfl rfl (by decide) ?_)))))
  refine Fin.bE 101 8 1 rfl rfl (by decide) (Fin.bE 101 9 1 rfl rfl (by decide) (Fin.aM [.agg [.i 0,.i 0,.i 0,.sl 1 ([].map eI),.sl 1 ([].map eB),.sl 1 ([].map (eL 1 eI)),.sl 1 ([].map eS),.sl 3 ([].map ao),.sl 1 ([].map eB),.sl 1 ([].map eS),.sl 7 ([].map ah),.i 1]] (.inl rfl) rfl (.cons (.agg cP rfl rfl rfl rfl) .nil) ⟨rfl,rfl⟩))
 ·refine ab.skip (Fin.ai ⟨[(0,_),(1,_),(2,_),(3,_),(4,_),(5,_),(12,_)],[(101,_)]⟩ rfl (Fin.then ?_))
  obtain ⟨v25,h26,h⟩:=aP h
  refine ab.ca (v:=v25) (fun (_:Unit)=>⟨[(0,I me0),(1,I regions0),(2,I step0),(3,.b (.one (.sl 1 (home0.map eI)))),(4,.b (.one (.sl 1 (sets0.map (eL 1 eI))))),(5,.b (.one (.sl 1 (states0.map eS)))),(12,Pt 101 0)],[(101,.box 37 [.i 0,.i 0,.i 0,.nil,.nil,.nil,.nil,.nil,.nil,.nil,.nil,.i 0])]⟩) (fun z=>.inl z) ?_ ?_
  ·refine ab.seq (ab.aa ?_)
   refine Oc oa (af.ak ⟨[(0,_),(1,_),(2,_),(3,_),(4,_),(5,_),(12,_),(13,I 0)],[(101,_)]⟩ rfl (ab.block (ab.bZ h26 (fun (b_6:Int)=>⟨[(0,I me0),(1,I regions0),(2,I step0),(3,.b (.one (.sl 1 (home0.map eI)))),(4,.b (.one (.sl 1 (sets0.map (eL 1 eI))))),(5,.b (.one (.sl 1 (states0.map eS)))),(12,Pt 101 0),(13,I b_6)],[(101,.box 37 [.i 0,.i 0,.i 0,.nil,.nil,.nil,.nil,.nil,.nil,.nil,.nil,.i 0])]⟩) [0,1,2,3,4,5,12,13] [101] rfl ?_)))
   rintro b_6 o27 h28 hy29
   refine ab.seq (ab.seq (ab.aa ?_))
   refine Oc om (Oc om (Oc (av bR rfl (List.length_map _)) (Oc (aY rfl rfl) ?_)))
   refine af.ak ⟨[(0,_),(1,_),(2,_),(3,_),(4,_),(5,_),(12,_),(13,_),(59,B (decide (b_6 < (home0.length:Int))))],[(101,_)]⟩ rfl (ab.ite h28 rfl (fun _ h28=>?_) (fun _ h28=>?_))
   ·refine ab.skip (Fin.ai ⟨[(0,_),(1,_),(2,_),(3,_),(4,_),(5,_),(12,_),(13,_)],[(101,_)]⟩ rfl (Fin.then (ab.seq (ab.block (ab.seq ?_)))))
    refine ab.ai ⟨[(0,_),(1,_),(2,_),(3,_),(4,_),(5,_),(12,_),(13,_)],[(101,_)]⟩ rfl ?_
    obtain ⟨x_7,e30,h28⟩:=aP h28
    obtain ⟨x_8,e31,h28⟩:=aP h28
    refine ab.eX mixed 12 [.b (.one (.sl 1 (states0.map eS))),I b_6,.b (.cx [.str x_7]),.b (.one (.str x_7)),B (decide (x_7 ≠ [])),.b (.one (.sl 1 (home0.map eI))),I b_6,.b (.cx [.i x_8]),I x_8,I me0,B (decide (x_8 = me0)),B ((decide (x_7 ≠ [])) != (decide (x_8 = me0)))] [0,1,2,3,4,5,12,13,73] [101] (s':=⟨[(0,_),(1,_),(2,_),(3,_),(4,_),(5,_),(12,_),(13,_),(73,B ((decide (x_7 ≠ [])) != (decide (x_8 = me0))))],[(101,_)]⟩) rfl ⟨fun _=>.p om,fun _=>.p om,fun _=>.p (an cw (aL e30) (aB (e:=eS) e30) rfl rfl),fun _=>.p (au fG rfl rfl),fun _=>.p (pg rfl rfl),fun _=>.p om,fun _=>.p om,fun _=>.p (an aQ (aL e31) (aB (e:=eI) e31) rfl rfl),fun _=>.p (au aD rfl rfl),fun _=>.p om,fun _=>.p (di rfl rfl),fun _=>.p (lU xr rfl rfl),trivial⟩ rfl rfl (ab.ite h28 rfl (fun _ h28=>?_) (fun _ h28=>?_))
    ·refine ab.seq (ab.aa ?_)
     refine Oc (bD.jH (.same (.same (.same (.same (.same (.same (.same (.same (.same (.same (.sl (size:=7) (by decide) (.same (.nil))))))))))))) (cc fM rfl rfl)) (Oc (aR cP rfl rfl rfl rfl (Nat.le_of_ble_eq_true rfl) rfl) ?_)
     refine af.ak ⟨[(12,_)],[(101,.box 37 [.i 0,.i 0,.i 0,.nil,.nil,.nil,.nil,.nil,.nil,.nil,.sl 7 ([].map ah),.i 1])]⟩ rfl (ab.ret (Fin.aJ (Fin.aw ?_)))
     obtain rfl:=hy29 _ (Option.some.inj h28).symm
     refine Fin.aw (Fin.aJ (Fin.aw ?_))
     obtain rfl:=Option.some.inj h
     refine Fin.ai ⟨[(12,_)],[(101,_)]⟩ rfl (Fin.bE 101 3 1 rfl rfl (by decide) (Fin.bE 101 4 1 rfl rfl (by decide) (Fin.bE 101 5 1 rfl rfl (by decide) (Fin.bE 101 6 1 rfl rfl (by decide) (Fin.bE 101 7 3 rfl rfl (by decide) ?_)))))
     refine Fin.bE 101 8 1 rfl rfl (by decide) (Fin.bE 101 9 1 rfl rfl (by decide) (Fin.aM [.agg [.i 0,.i 0,.i 0,.sl 1 ([].map eI),.sl 1 ([].map eB),.sl 1 ([].map (eL 1 eI)),.sl 1 ([].map eS),.sl 3 ([].map ao),.sl 1 ([].map eB),.sl 1 ([].map eS),.sl 7 ([].map ah),.i 1]] (.inl rfl) rfl (.cons (.agg cP rfl rfl rfl rfl) .nil) ⟨rfl,rfl⟩))
    ·refine ab.skip (Fin.ar (Fin.ai ⟨[(0,_),(1,_),(2,_),(3,_),(4,_),(5,_),(12,_),(13,_)],[(101,_)]⟩ rfl (Fin.then (ab.aa ?_))))
     refine Oc om (Oc (bh rfl rfl) (Oc oa ?_))
     refine af.nil ?_
     exact Fin.bp [0,1,2,3,4,5,12,13] [101] (IntKind.i64.wrap (b_6 + 1)) (Option.some.inj h28) rfl
   ·refine ab.exit (Fin.aq ?_)
    obtain rfl:=hy29 _ (Option.some.inj h28).symm
    refine Fin.aq (Fin.aE ?_)
    exact Fin.join [0,1,2,3,4,5,12] [101] () rfl rfl
  ·rintro _ hv
   subst v25
   refine ab.seq (ab.ai ⟨[(0,_),(1,_),(2,_),(3,_),(4,_),(5,_),(12,_)],[(101,_)]⟩ rfl ?_)
   obtain ⟨x_9,e32,h⟩:=aP h
   obtain ⟨x_10,e33,h⟩:=aP h
   obtain ⟨x_11,e34,h⟩:=aP h
   refine ab.ff mixed [false,false,false,false,false,true,false,false,false,false,false,true,false,true,true] [I me0,I regions0,I step0,.b (.one (.sl 1 (home0.map eI))),I regions0,.b (.row 102),.b (.one (.sl 1 (sets0.map (eL 1 eI)))),.b (.one (.sl 1 (x_10.map (eL 1 eI)))),.b (.one (.sl 1 (states0.map eS))),.b (.one (.sl 1 (home0.map eI))),I (home0.length:Int),.b (.one (.sl 1 (x_11.map eS))),.gw [.one (.i me0),.one (.i regions0),.one (.i step0),.one (.sl 1 (home0.map eI)),.row 102,.one (.sl 1 (x_10.map (eL 1 eI))),.one (.sl 1 (states0.map eS)),.one (.sl 3 ([].map ao)),.one (.sl 1 ([].map eB)),.one (.sl 1 (x_11.map eS))],Pt 105 0,B true] [⟨[false,false,false,false,false,false,false,false,false,false,false,false,false,false,false],[(0,I me0),(1,I regions0),(2,I step0),(3,.b (.one (.sl 1 (home0.map eI)))),(4,.b (.one (.sl 1 (sets0.map (eL 1 eI))))),(5,.b (.one (.sl 1 (states0.map eS)))),(12,Pt 101 0)],[(101,.box 37 [.i 0,.i 0,.i 0,.nil,.nil,.nil,.nil,.nil,.nil,.nil,.nil,.i 0])],[true,true,true,true,true,true,true,true,true,true,true,true,true,true,true],[],[12,14]⟩,⟨[false,false,false,false,false,true,false,false,false,false,false,false,false,false,false],[(0,I me0),(1,I regions0),(2,I step0),(3,.b (.one (.sl 1 (home0.map eI)))),(4,.b (.one (.sl 1 (sets0.map (eL 1 eI))))),(5,.b (.one (.sl 1 (states0.map eS)))),(12,Pt 101 0)],[(101,.box 37 [.i 0,.i 0,.i 0,.nil,.nil,.nil,.nil,.nil,.nil,.nil,.nil,.i 0]),(102,.row 4 1 (x_9.map eB))],[true,true,true,true,true,true,true,true,true,true,true,true,true,true,true],[4,5],[12,14]⟩,⟨[false,false,false,false,false,false,false,false,false,false,false,true,false,false,false],[(0,I me0),(1,I regions0),(2,I step0),(3,.b (.one (.sl 1 (home0.map eI)))),(4,.b (.one (.sl 1 (sets0.map (eL 1 eI))))),(5,.b (.one (.sl 1 (states0.map eS)))),(12,Pt 101 0)],[(101,.box 37 [.i 0,.i 0,.i 0,.nil,.nil,.nil,.nil,.nil,.nil,.nil,.nil,.i 0])],[true,true,true,true,true,true,true,true,true,true,true,true,true,true,true],[9,10,11],[12,14]⟩,⟨[false,false,false,false,false,false,false,false,false,false,false,false,false,true,false],[(0,I me0),(1,I regions0),(2,I step0),(3,.b (.one (.sl 1 (home0.map eI)))),(4,.b (.one (.sl 1 (sets0.map (eL 1 eI))))),(5,.b (.one (.sl 1 (states0.map eS)))),(12,Pt 101 0)],[(101,.box 37 [.i 0,.i 0,.i 0,.nil,.nil,.nil,.nil,.nil,.nil,.nil,.nil,.i 0]),(105,.box 31 [.i 0,.i 0,.i 0,.nil,.nil,.nil,.nil,.nil,.nil,.nil])],[true,true,true,true,true,true,true,true,true,true,true,true,true,true,true],[13],[12,14]⟩,⟨[false,false,false,false,false,true,false,false,false,false,false,true,false,false,false],[(0,I me0),(1,I regions0),(2,I step0),(3,.b (.one (.sl 1 (home0.map eI)))),(4,.b (.one (.sl 1 (sets0.map (eL 1 eI))))),(5,.b (.one (.sl 1 (states0.map eS)))),(12,Pt 101 0)],[(101,.box 37 [.i 0,.i 0,.i 0,.nil,.nil,.nil,.nil,.nil,.nil,.nil,.nil,.i 0]),(102,.row 4 1 (x_9.map eB))],[true,true,true,true,true,true,true,true,true,true,true,true,true,true,true],[4,5,9,10,11],[14]⟩,⟨[false,false,false,false,false,true,false,false,false,false,false,false,false,true,false],[(0,I me0),(1,I regions0),(2,I step0),(3,.b (.one (.sl 1 (home0.map eI)))),(4,.b (.one (.sl 1 (sets0.map (eL 1 eI))))),(5,.b (.one (.sl 1 (states0.map eS)))),(12,Pt 101 0)],[(101,.box 37 [.i 0,.i 0,.i 0,.nil,.nil,.nil,.nil,.nil,.nil,.nil,.nil,.i 0]),(102,.row 4 1 (x_9.map eB)),(105,.box 31 [.i 0,.i 0,.i 0,.nil,.nil,.nil,.nil,.nil,.nil,.nil])],[true,true,true,true,true,true,true,true,true,true,true,true,true,true,true],[4,5,13],[12,14]⟩,⟨[false,false,false,false,false,false,false,false,false,false,false,true,false,true,false],[(0,I me0),(1,I regions0),(2,I step0),(3,.b (.one (.sl 1 (home0.map eI)))),(4,.b (.one (.sl 1 (sets0.map (eL 1 eI))))),(5,.b (.one (.sl 1 (states0.map eS)))),(12,Pt 101 0)],[(101,.box 37 [.i 0,.i 0,.i 0,.nil,.nil,.nil,.nil,.nil,.nil,.nil,.nil,.i 0]),(105,.box 31 [.i 0,.i 0,.i 0,.nil,.nil,.nil,.nil,.nil,.nil,.nil])],[true,true,true,true,true,true,true,true,true,true,true,true,true,true,true],[9,10,11,13],[12,14]⟩,⟨[false,false,false,false,false,true,false,false,false,false,false,true,false,true,false],[(0,I me0),(1,I regions0),(2,I step0),(3,.b (.one (.sl 1 (home0.map eI)))),(4,.b (.one (.sl 1 (sets0.map (eL 1 eI))))),(5,.b (.one (.sl 1 (states0.map eS)))),(12,Pt 101 0)],[(101,.box 37 [.i 0,.i 0,.i 0,.nil,.nil,.nil,.nil,.nil,.nil,.nil,.nil,.i 0]),(102,.row 4 1 (x_9.map eB)),(105,.box 31 [.i 0,.i 0,.i 0,.nil,.nil,.nil,.nil,.nil,.nil,.nil])],[true,true,true,true,true,true,true,true,true,true,true,true,true,true,true],[4,5,9,10,11,13],[]⟩,⟨[false,false,false,false,false,true,false,false,false,false,false,true,false,true,true],[(0,I me0),(1,I regions0),(2,I step0),(3,.b (.one (.sl 1 (home0.map eI)))),(4,.b (.one (.sl 1 (sets0.map (eL 1 eI))))),(5,.b (.one (.sl 1 (states0.map eS)))),(12,Pt 101 0)],[(101,.box 37 [.i 0,.i 0,.i 0,.nil,.nil,.nil,.nil,.nil,.nil,.nil,.nil,.i 0]),(102,.row 4 1 (x_9.map eB)),(105,.aW 31 [.one (.i me0),.one (.i regions0),.one (.i step0),.one (.sl 1 (home0.map eI)),.row 102,.one (.sl 1 (x_10.map (eL 1 eI))),.one (.sl 1 (states0.map eS)),.one (.sl 3 ([].map ao)),.one (.sl 1 ([].map eB)),.one (.sl 1 (x_11.map eS))])],[true,true,true,true,true,true,true,true,true,true,true,true,true,true,true],[0,1,2,3,4,5,6,7,8,9,10,11,12,13,14],[]⟩] rfl (⟨by kernel_rfl,⟨⟨I me0,fun _=>rfl,fun _=>.p (by exact ax rfl)⟩,⟨I regions0,fun _=>rfl,fun _=>.p (by exact ax rfl)⟩,⟨I step0,fun _=>rfl,fun _=>.p (by exact ax rfl)⟩,⟨.b (.one (.sl 1 (home0.map eI))),fun _=>rfl,fun _=>.p (by exact ax rfl)⟩,⟨I regions0,fun _=>rfl,fun _=>.p (by exact ax rfl)⟩,⟨_,[102],.b (.row 102),rfl,fun _=>rfl,rfl,rfl,fun _=>.jG [101,102] (by exact .p (by exact cA (k:=102) (enc:=eB) dK e32 (by decide) (.cons .refl .nil) rfl rfl rfl)) (by exact rfl)⟩,⟨.b (.one (.sl 1 (sets0.map (eL 1 eI)))),fun _=>rfl,fun _=>.p (by exact ax rfl)⟩,⟨.b (.one (.sl 1 (x_10.map (eL 1 eI)))),fun _=>rfl,fun _=>.p (by exact az (br 0 e33).fp k4 rfl rfl)⟩,⟨.b (.one (.sl 1 (states0.map eS))),fun _=>rfl,fun _=>.p (by exact ax rfl)⟩,⟨.b (.one (.sl 1 (home0.map eI))),fun _=>rfl,fun _=>.p (by exact ax rfl)⟩,⟨I (home0.length:Int),fun _=>rfl,fun _=>.p (by exact av bR rfl (List.length_map _))⟩,⟨_,[104],.b (.one (.sl 1 (x_11.map eS))),rfl,fun _=>rfl,rfl,rfl,fun _=>.jG [101] (by exact .p (by exact bD.qG 104 (cA (k:=104) (enc:=eS) cw e34 (by decide) (.cons .refl .nil) rfl rfl rfl) rfl)) (by exact rfl)⟩,trivial,⟨_,[105],Pt 105 0,rfl,fun _=>rfl,rfl,rfl,fun _=>.jG [101,105] (by exact .p (by exact cz (k:=105) hC rfl)) (by exact rfl)⟩,trivial,trivial⟩,⟨by kernel_rfl,⟨⟨I me0,fun _=>rfl,fun _=>.p (by exact ax rfl)⟩,⟨I regions0,fun _=>rfl,fun _=>.p (by exact ax rfl)⟩,⟨I step0,fun _=>rfl,fun _=>.p (by exact ax rfl)⟩,⟨.b (.one (.sl 1 (home0.map eI))),fun _=>rfl,fun _=>.p (by exact ax rfl)⟩,trivial,trivial,⟨.b (.one (.sl 1 (sets0.map (eL 1 eI)))),fun _=>rfl,fun _=>.p (by exact ax rfl)⟩,⟨.b (.one (.sl 1 (x_10.map (eL 1 eI)))),fun _=>rfl,fun _=>.p (by exact az (br 0 e33).fp k4 rfl rfl)⟩,⟨.b (.one (.sl 1 (states0.map eS))),fun _=>rfl,fun _=>.p (by exact ax rfl)⟩,⟨.b (.one (.sl 1 (home0.map eI))),fun _=>rfl,fun _=>.p (by exact ax rfl)⟩,⟨I (home0.length:Int),fun _=>rfl,fun _=>.p (by exact av bR rfl (List.length_map _))⟩,⟨_,[104],.b (.one (.sl 1 (x_11.map eS))),rfl,fun _=>rfl,rfl,rfl,fun _=>.jG [101,102] (by exact .p (by exact bD.qG 104 (cA (k:=104) (enc:=eS) cw e34 (by decide) (.cons .refl .nil) rfl rfl rfl) rfl)) (by exact rfl)⟩,trivial,⟨_,[105],Pt 105 0,rfl,fun _=>rfl,rfl,rfl,fun _=>.jG [101,102,105] (by exact .p (by exact cz (k:=105) hC rfl)) (by exact rfl)⟩,trivial,trivial⟩,⟨by kernel_rfl,⟨⟨I me0,fun _=>rfl,fun _=>.p (by exact ax rfl)⟩,⟨I regions0,fun _=>rfl,fun _=>.p (by exact ax rfl)⟩,⟨I step0,fun _=>rfl,fun _=>.p (by exact ax rfl)⟩,⟨.b (.one (.sl 1 (home0.map eI))),fun _=>rfl,fun _=>.p (by exact ax rfl)⟩,⟨I regions0,fun _=>rfl,fun _=>.p (by exact ax rfl)⟩,⟨_,[102],.b (.row 102),rfl,fun _=>rfl,rfl,rfl,fun _=>.jG [101,102] (by exact .p (by exact cA (k:=102) (enc:=eB) dK e32 (by decide) (.cons .refl .nil) rfl rfl rfl)) (by exact rfl)⟩,⟨.b (.one (.sl 1 (sets0.map (eL 1 eI)))),fun _=>rfl,fun _=>.p (by exact ax rfl)⟩,⟨.b (.one (.sl 1 (x_10.map (eL 1 eI)))),fun _=>rfl,fun _=>.p (by exact az (br 0 e33).fp k4 rfl rfl)⟩,⟨.b (.one (.sl 1 (states0.map eS))),fun _=>rfl,fun _=>.p (by exact ax rfl)⟩,trivial,trivial,trivial,trivial,⟨_,[105],Pt 105 0,rfl,fun _=>rfl,rfl,rfl,fun _=>.jG [101,105] (by exact .p (by exact cz (k:=105) hC rfl)) (by exact rfl)⟩,trivial,trivial⟩,⟨by kernel_rfl,⟨⟨I me0,fun _=>rfl,fun _=>.p (by exact ax rfl)⟩,⟨I regions0,fun _=>rfl,fun _=>.p (by exact ax rfl)⟩,⟨I step0,fun _=>rfl,fun _=>.p (by exact ax rfl)⟩,⟨.b (.one (.sl 1 (home0.map eI))),fun _=>rfl,fun _=>.p (by exact ax rfl)⟩,⟨I regions0,fun _=>rfl,fun _=>.p (by exact ax rfl)⟩,⟨_,[102],.b (.row 102),rfl,fun _=>rfl,rfl,rfl,fun _=>.jG [101,102,105] (by exact .p (by exact cA (k:=102) (enc:=eB) dK e32 (by decide) (.cons .refl .nil) rfl rfl rfl)) (by exact rfl)⟩,⟨.b (.one (.sl 1 (sets0.map (eL 1 eI)))),fun _=>rfl,fun _=>.p (by exact ax rfl)⟩,⟨.b (.one (.sl 1 (x_10.map (eL 1 eI)))),fun _=>rfl,fun _=>.p (by exact az (br 0 e33).fp k4 rfl rfl)⟩,⟨.b (.one (.sl 1 (states0.map eS))),fun _=>rfl,fun _=>.p (by exact ax rfl)⟩,⟨.b (.one (.sl 1 (home0.map eI))),fun _=>rfl,fun _=>.p (by exact ax rfl)⟩,⟨I (home0.length:Int),fun _=>rfl,fun _=>.p (by exact av bR rfl (List.length_map _))⟩,⟨_,[104],.b (.one (.sl 1 (x_11.map eS))),rfl,fun _=>rfl,rfl,rfl,fun _=>.jG [101,105] (by exact .p (by exact bD.qG 104 (cA (k:=104) (enc:=eS) cw e34 (by decide) (.cons .refl .nil) rfl rfl rfl) rfl)) (by exact rfl)⟩,trivial,trivial,trivial,trivial⟩,⟨by kernel_rfl,⟨⟨I me0,fun _=>rfl,fun _=>.p (by exact ax rfl)⟩,⟨I regions0,fun _=>rfl,fun _=>.p (by exact ax rfl)⟩,⟨I step0,fun _=>rfl,fun _=>.p (by exact ax rfl)⟩,⟨.b (.one (.sl 1 (home0.map eI))),fun _=>rfl,fun _=>.p (by exact ax rfl)⟩,trivial,trivial,⟨.b (.one (.sl 1 (sets0.map (eL 1 eI)))),fun _=>rfl,fun _=>.p (by exact ax rfl)⟩,⟨.b (.one (.sl 1 (x_10.map (eL 1 eI)))),fun _=>rfl,fun _=>.p (by exact az (br 0 e33).fp k4 rfl rfl)⟩,⟨.b (.one (.sl 1 (states0.map eS))),fun _=>rfl,fun _=>.p (by exact ax rfl)⟩,trivial,trivial,trivial,⟨.gw [.one (.i me0),.one (.i regions0),.one (.i step0),.one (.sl 1 (home0.map eI)),.row 102,.one (.sl 1 (x_10.map (eL 1 eI))),.one (.sl 1 (states0.map eS)),.one (.sl 3 ([].map ao)),.one (.sl 1 ([].map eB)),.one (.sl 1 (x_11.map eS))],fun _=>rfl,fun _=>.p (by exact bD.nilX (.same (.same (.same (.same (.same (.same (.same (.sl (size:=3) (by decide) (.sl (size:=1) (by decide) (.same (.nil))))))))))) (lf iz rfl rfl))⟩,⟨_,[105],Pt 105 0,rfl,fun _=>rfl,rfl,rfl,fun _=>.jG [101,102,105] (by exact .p (by exact cz (k:=105) hC rfl)) (by exact rfl)⟩,trivial,trivial⟩,⟨by kernel_rfl,⟨⟨I me0,fun _=>rfl,fun _=>.p (by exact ax rfl)⟩,⟨I regions0,fun _=>rfl,fun _=>.p (by exact ax rfl)⟩,⟨I step0,fun _=>rfl,fun _=>.p (by exact ax rfl)⟩,⟨.b (.one (.sl 1 (home0.map eI))),fun _=>rfl,fun _=>.p (by exact ax rfl)⟩,trivial,trivial,⟨.b (.one (.sl 1 (sets0.map (eL 1 eI)))),fun _=>rfl,fun _=>.p (by exact ax rfl)⟩,⟨.b (.one (.sl 1 (x_10.map (eL 1 eI)))),fun _=>rfl,fun _=>.p (by exact az (br 0 e33).fp k4 rfl rfl)⟩,⟨.b (.one (.sl 1 (states0.map eS))),fun _=>rfl,fun _=>.p (by exact ax rfl)⟩,⟨.b (.one (.sl 1 (home0.map eI))),fun _=>rfl,fun _=>.p (by exact ax rfl)⟩,⟨I (home0.length:Int),fun _=>rfl,fun _=>.p (by exact av bR rfl (List.length_map _))⟩,⟨_,[104],.b (.one (.sl 1 (x_11.map eS))),rfl,fun _=>rfl,rfl,rfl,fun _=>.jG [101,102,105] (by exact .p (by exact bD.qG 104 (cA (k:=104) (enc:=eS) cw e34 (by decide) (.cons .refl .nil) rfl rfl rfl) rfl)) (by exact rfl)⟩,trivial,trivial,trivial,trivial⟩,⟨by kernel_rfl,⟨⟨I me0,fun _=>rfl,fun _=>.p (by exact ax rfl)⟩,⟨I regions0,fun _=>rfl,fun _=>.p (by exact ax rfl)⟩,⟨I step0,fun _=>rfl,fun _=>.p (by exact ax rfl)⟩,⟨.b (.one (.sl 1 (home0.map eI))),fun _=>rfl,fun _=>.p (by exact ax rfl)⟩,⟨I regions0,fun _=>rfl,fun _=>.p (by exact ax rfl)⟩,⟨_,[102],.b (.row 102),rfl,fun _=>rfl,rfl,rfl,fun _=>.jG [101,102,105] (by exact .p (by exact cA (k:=102) (enc:=eB) dK e32 (by decide) (.cons .refl .nil) rfl rfl rfl)) (by exact rfl)⟩,⟨.b (.one (.sl 1 (sets0.map (eL 1 eI)))),fun _=>rfl,fun _=>.p (by exact ax rfl)⟩,⟨.b (.one (.sl 1 (x_10.map (eL 1 eI)))),fun _=>rfl,fun _=>.p (by exact az (br 0 e33).fp k4 rfl rfl)⟩,⟨.b (.one (.sl 1 (states0.map eS))),fun _=>rfl,fun _=>.p (by exact ax rfl)⟩,trivial,trivial,trivial,trivial,trivial,trivial,trivial⟩,⟨by kernel_rfl,⟨⟨I me0,fun _=>rfl,fun _=>.p (by exact ax rfl)⟩,⟨I regions0,fun _=>rfl,fun _=>.p (by exact ax rfl)⟩,⟨I step0,fun _=>rfl,fun _=>.p (by exact ax rfl)⟩,⟨.b (.one (.sl 1 (home0.map eI))),fun _=>rfl,fun _=>.p (by exact ax rfl)⟩,trivial,trivial,⟨.b (.one (.sl 1 (sets0.map (eL 1 eI)))),fun _=>rfl,fun _=>.p (by exact ax rfl)⟩,⟨.b (.one (.sl 1 (x_10.map (eL 1 eI)))),fun _=>rfl,fun _=>.p (by exact az (br 0 e33).fp k4 rfl rfl)⟩,⟨.b (.one (.sl 1 (states0.map eS))),fun _=>rfl,fun _=>.p (by exact ax rfl)⟩,trivial,trivial,trivial,⟨.gw [.one (.i me0),.one (.i regions0),.one (.i step0),.one (.sl 1 (home0.map eI)),.row 102,.one (.sl 1 (x_10.map (eL 1 eI))),.one (.sl 1 (states0.map eS)),.one (.sl 3 ([].map ao)),.one (.sl 1 ([].map eB)),.one (.sl 1 (x_11.map eS))],fun _=>rfl,fun _=>.p (by exact bD.nilX (.same (.same (.same (.same (.same (.same (.same (.sl (size:=3) (by decide) (.sl (size:=1) (by decide) (.same (.nil))))))))))) (lf iz rfl rfl))⟩,trivial,⟨_,[],.b (.one .any),rfl,(fun e=>by simp at e),rfl,rfl,fun _=>.jG [101,102,105] (by exact .uF 105 rfl (.plain rfl (qK aU rfl rfl rfl rfl rfl (Nat.le_of_ble_eq_true rfl) rfl))) (by exact rfl)⟩,trivial⟩,⟨by kernel_rfl,⟨trivial,trivial,trivial,trivial,trivial,trivial,trivial,trivial,trivial,trivial,trivial,trivial,trivial,trivial,trivial,trivial⟩,trivial⟩⟩⟩⟩⟩⟩⟩⟩⟩) rfl rfl rfl [0,1,2,12,14] [101,102,105] (s':=⟨[(0,I me0),(1,I regions0),(2,I step0),(12,Pt 101 0),(14,Pt 105 0)],[(101,.box 37 [.i 0,.i 0,.i 0,.nil,.nil,.nil,.nil,.nil,.nil,.nil,.nil,.i 0]),(102,.row 4 1 (x_9.map eB)),(105,.aW 31 [.one (.i me0),.one (.i regions0),.one (.i step0),.one (.sl 1 (home0.map eI)),.row 102,.one (.sl 1 (x_10.map (eL 1 eI))),.one (.sl 1 (states0.map eS)),.one (.sl 3 ([].map ao)),.one (.sl 1 ([].map eB)),.one (.sl 1 (x_11.map eS))])]⟩) rfl ?_
   refine ab.seq (ab.aa ?_)
   refine Oc (ae er rfl rfl) (Oc (aX dd rfl rfl rfl) (Oc om ?_))
   obtain ⟨x_12,e35,h⟩:=aP h
   refine Oc (bq dK (aL e35) (dy e35) rfl rfl rfl rfl) (Oc (fi (i:=(me0:Int).toNat) gx rfl rfl rfl rfl (nD e35) (map_set _ _ _ _)) ?_)
   refine af.ak ⟨[(0,_),(1,_),(2,_),(12,_),(14,_)],[(101,_),(102,.row 4 1 ((x_9.set (me0:Int).toNat true).map eB)),(105,_)]⟩ rfl (ab.seq (ab.aa ?_))
   refine Oc oa (af.ak ⟨[(0,_),(1,_),(2,_),(12,_),(14,_),(15,.b (.one (.nil)))],[(101,_),(102,_),(105,_)]⟩ rfl ?_)
   obtain ⟨v36,h37,h⟩:=aP h
   refine ab.ca (v:=v36) (fun (out_13:List aI)=>⟨[(1,I regions0),(12,Pt 101 0),(14,Pt 105 0),(15,.b (.row 107))],[(101,.box 37 [.i 0,.i 0,.i 0,.nil,.nil,.nil,.nil,.nil,.nil,.nil,.nil,.i 0]),(102,.row 4 1 ((x_9.set (me0:Int).toNat true).map eB)),(105,.aW 31 [.one (.i me0),.one (.i regions0),.one (.i step0),.one (.sl 1 (home0.map eI)),.row 102,.one (.sl 1 (x_10.map (eL 1 eI))),.one (.sl 1 (states0.map eS)),.one (.sl 3 ([].map ao)),.one (.sl 1 ([].map eB)),.one (.sl 1 (x_11.map eS))]),(107,.row 42 7 (out_13.map ah))]⟩) (fun z=>z) ?_ ?_
   ·refine ab.seq (ab.aa ?_)
    refine Oc oa (af.ak ⟨[(0,_),(1,_),(2,_),(12,_),(14,_),(15,_),(16,I 0)],[(101,_),(102,_),(105,_)]⟩ rfl (ab.block (ab.dc 15 107 7 42 rfl (by decide) rfl (ab.bZ h37 (eU fun (out_14:List aI) (i_15:Int)=>⟨[(0,I me0),(1,I regions0),(2,I step0),(12,Pt 101 0),(14,Pt 105 0),(15,.b (.row 107)),(16,I i_15)],[(101,.box 37 [.i 0,.i 0,.i 0,.nil,.nil,.nil,.nil,.nil,.nil,.nil,.nil,.i 0]),(102,.row 4 1 ((x_9.set (me0:Int).toNat true).map eB)),(105,.aW 31 [.one (.i me0),.one (.i regions0),.one (.i step0),.one (.sl 1 (home0.map eI)),.row 102,.one (.sl 1 (x_10.map (eL 1 eI))),.one (.sl 1 (states0.map eS)),.one (.sl 3 ([].map ao)),.one (.sl 1 ([].map eB)),.one (.sl 1 (x_11.map eS))]),(107,.row 42 7 (out_14.map ah))]⟩) [0,1,2,12,14,15,16] [101,102,105,107] rfl ?_))))
    rintro ⟨out_14,i_15⟩ o38 h39 hy40
    refine ab.seq (ab.seq (ab.aa ?_))
    refine Oc om (Oc om (Oc (aY rfl rfl) ?_))
    refine af.ak ⟨[(0,_),(1,_),(2,_),(12,_),(14,_),(15,_),(16,_),(94,B (decide (i_15 < regions0)))],[(101,_),(102,_),(105,_),(107,_)]⟩ rfl (ab.ite h39 rfl (fun _ h39=>?_) (fun _ h39=>?_))
    ·refine ab.skip (Fin.ai ⟨[(0,_),(1,_),(2,_),(12,_),(14,_),(15,_),(16,_)],[(101,_),(102,_),(105,_),(107,_)]⟩ rfl (Fin.then ?_))
     obtain ⟨v41,h42,h39⟩:=aP h39
     refine ab.ca (v:=v41) (fun (out_17:List aI)=>⟨[(0,I me0),(1,I regions0),(2,I step0),(12,Pt 101 0),(14,Pt 105 0),(15,.b (.row 107)),(16,I i_15)],[(101,.box 37 [.i 0,.i 0,.i 0,.nil,.nil,.nil,.nil,.nil,.nil,.nil,.nil,.i 0]),(102,.row 4 1 ((x_9.set (me0:Int).toNat true).map eB)),(105,.aW 31 [.one (.i me0),.one (.i regions0),.one (.i step0),.one (.sl 1 (home0.map eI)),.row 102,.one (.sl 1 (x_10.map (eL 1 eI))),.one (.sl 1 (states0.map eS)),.one (.sl 3 ([].map ao)),.one (.sl 1 ([].map eB)),.one (.sl 1 (x_11.map eS))]),(107,.row 42 7 (out_17.map ah))]⟩) (fun z=>z) ?_ ?_
     ·refine ab.block (ab.seq (ab.aa ?_))
      refine Oc om (Oc om (Oc (cY rfl rfl) ?_))
      refine af.ak ⟨[(0,_),(1,_),(2,_),(12,_),(14,_),(15,_),(16,_),(99,B (decide (i_15 ≠ me0)))],[(101,_),(102,_),(105,_),(107,_)]⟩ rfl (ab.ite h42 rfl (fun _ h42=>?_) (fun _ h42=>?_))
      ·refine ab.aa (Oc om (Oc om (Oc om (Oc om (Oc (ae gp rfl rfl) (Oc (aX dT rfl rfl rfl) ?_))))))
       refine af.rm ah h42 rfl (bD.jH (.same (.same (.same (.same (.same (.sl (size:=1) (by decide) (.sl (size:=1) (by decide) (.nil)))))))) (cc kP rfl rfl)) (fun x_18 h42=>?_)
       refine af.ai ⟨[(0,_),(1,_),(2,_),(12,_),(14,_),(15,_),(16,_),(100,.b (.row 107)),(106,.b (.agg (ah x_18)))],[(101,_),(102,_),(105,_),(107,_)]⟩ rfl (Oc (aO (k:=108) (es:=[x_18].map ah) iL rfl rfl (bc fun _=>rfl) rfl (by decide) (by decide) rfl) ?_)
       obtain ⟨x_19,e43,h42⟩:=aP h42
       refine Oc (b4 iL (ec e43) (dZ e43) rfl rfl rfl rfl (cf e43) rfl) (Oc oa ?_)
       refine af.nil (Fin.ar ?_)
       exact Fin.join [0,1,2,12,14,15,16] [101,102,105,107] x_19 (Option.some.inj h42) rfl
      ·refine ab.skip (Fin.ar ?_)
       exact Fin.join [0,1,2,12,14,15,16] [101,102,105,107] out_14 (Option.some.inj h42) rfl
     ·rintro out_17 hv
      subst v41
      refine ab.aa (Oc om (Oc (bh rfl rfl) (Oc oa ?_)))
      refine af.nil ?_
      exact Fin.bp [0,1,2,12,14,15,16] [101,102,105,107] (out_17,IntKind.i64.wrap (i_15 + 1)) (Option.some.inj h39) rfl
    ·refine ab.exit (Fin.aq ?_)
     obtain rfl:=hy40 _ (Option.some.inj h39).symm
     refine Fin.aq (Fin.aE ?_)
     exact Fin.join [1,12,14,15] [101,102,105,107] out_14 rfl rfl
   ·rintro out_13 hv
    subst v36
    refine ab.seq (ab.seq (ab.aa ?_))
    refine Oc om (Oc (gZ rfl rfl) ?_)
    refine af.ak ⟨[(12,_),(14,_),(15,_),(110,B (decide (1 < regions0)))],[(101,_),(102,_),(105,_),(107,_)]⟩ rfl (ab.ite h rfl (fun _ h=>?_) (fun _ h=>?_))
    ·refine ab.seq (ab.aa ?_)
     refine af.bg 102 rfl (af.rm ay h rfl (ld aU rfl rfl rfl rfl) (fun x_20 h=>?_))
     refine Oc om (af.bg 107 rfl (Oc (cc fM rfl rfl) (Oc (aR cP rfl rfl rfl rfl (Nat.le_of_ble_eq_true rfl) rfl) ?_)))
     refine af.ak ⟨[(12,Pt 101 0)],[(101,.box 37 (ay x_20 ++ ([.sl 7 (out_13.map ah),.i 0])))]⟩ rfl (ab.ret (Fin.aw ?_))
     obtain rfl:=Option.some.inj h
     refine Fin.ai ⟨[(12,_)],[(101,_)]⟩ rfl (Fin.aM [.agg (ay x_20 ++ ([.sl 7 (out_13.map ah),.i 0]))] (.inl rfl) rfl (.cons (.agg cP rfl rfl rfl rfl) .nil) ⟨rfl,rfl⟩)
    ·refine ab.skip (Fin.ai ⟨[(12,_),(14,_)],[(101,_),(102,_),(105,_)]⟩ rfl (Fin.then (ab.seq (ab.aa ?_))))
     refine af.bg 102 rfl (af.rm ay h rfl (ld aU rfl rfl rfl rfl) (fun x_21 h=>?_))
     obtain ⟨x_22,e44,h⟩:=aP h
     refine Oc (az (jm e44) x9 rfl rfl) (Oc (aR cP rfl rfl rfl rfl (Nat.le_of_ble_eq_true rfl) rfl) ?_)
     refine af.ak ⟨[(12,Pt 101 0)],[(101,.box 37 (gj x_22))]⟩ rfl (ab.ret ?_)
     obtain rfl:=Option.some.inj h
     refine Fin.ai ⟨[(12,_)],[(101,_)]⟩ rfl (Fin.aM [.agg (gj x_22)] (.inl rfl) rfl (.cons (.agg cP rfl rfl rfl rfl) .nil) ⟨rfl,rfl⟩)
def bI (F:Nat) (a0:List Bool) (b0:List Bool):Option Bool :=
 if (decide ((a0.length:Int) ≠ (b0.length:Int))) = true then (some false) else (Option.bind (iter F (fun i_1=>if (decide (i_1 < (a0.length:Int))) = true then ((aV a0 i_1).bind fun x_2=>(aV b0 i_1).bind fun x_3=>if (x_2 != x_3) = true then (some (.inr (.inr false))) else (some (.inl (IntKind.i64.wrap (i_1 + 1))))) else (some (.inr (.inl ())))) 0) (bG (fun _=>some true) (fun y=>some y)))
theorem gI {F:Nat} {a0:List Bool} {b0:List Bool} {r:Bool} (h:bI F a0 b0 = some r):aA Try.prog [] 47 [] [.one (.sl 1 (a0.map eB)),.one (.sl 1 (b0.map eB))] (Is [] (.b (.one (.bool r)))):=by
 unfold bI at h
 refine aA.intro 26 Try.func47 Try.ntmps47 rfl (by simp) fun E=>?_
 show ab _ E ⟨26,[],[],[]⟩ _ ⟨[(0,.b (.one (.sl 1 (a0.map eB)))),(1,.b (.one (.sl 1 (b0.map eB))))],[]⟩ _
 refine ab.seq (ab.aa ?_)
 refine Oc oa (af.ak ⟨[(0,.b (.one (.sl 1 (a0.map eB)))),(1,.b (.one (.sl 1 (b0.map eB))))],[]⟩ rfl (ab.seq (ab.seq (ab.aa ?_))))
 refine Oc om (Oc (av sj rfl (List.length_map _)) (Oc om (Oc (av sj rfl (List.length_map _)) (Oc (cY rfl rfl) ?_))))
 refine af.ak ⟨[(0,_),(1,_),(10,B (decide ((a0.length:Int) ≠ (b0.length:Int))))],[]⟩ rfl (ab.ite h rfl (fun _ h=>?_) (fun _ h=>?_))
 ·refine ab.seq (ab.aa ?_)
  refine Oc oa (af.ak ⟨[(4,B false)],[]⟩ rfl (ab.ret (Fin.aw ?_)))
  obtain rfl:=Option.some.inj h
  refine Fin.ai ⟨[(4,_)],[]⟩ rfl (Fin.aM [.one (.bool false)] (.inl rfl) rfl (.cons (.tmp rfl) .nil) ⟨rfl,rfl⟩)
 ·refine ab.skip (Fin.ai ⟨[(0,_),(1,_)],[]⟩ rfl (Fin.then ?_))
  obtain ⟨v1,h2,h⟩:=aP h
  refine ab.ca (v:=v1) (fun (_:Unit)=>⟨[],[]⟩) (fun z=>.inl z) ?_ ?_
  ·refine ab.seq (ab.aa ?_)
   refine Oc oa (af.ak ⟨[(0,_),(1,_),(5,I 0)],[]⟩ rfl (ab.block (ab.bZ h2 (fun (i_1:Int)=>⟨[(0,.b (.one (.sl 1 (a0.map eB)))),(1,.b (.one (.sl 1 (b0.map eB)))),(5,I i_1)],[]⟩) [0,1,5] [] rfl ?_)))
   rintro i_1 o3 h4 hy5
   refine ab.seq (ab.seq (ab.aa ?_))
   refine Oc om (Oc om (Oc (av sj rfl (List.length_map _)) (Oc (aY rfl rfl) ?_)))
   refine af.ak ⟨[(0,_),(1,_),(5,_),(14,B (decide (i_1 < (a0.length:Int))))],[]⟩ rfl (ab.ite h4 rfl (fun _ h4=>?_) (fun _ h4=>?_))
   ·refine ab.skip (Fin.ai ⟨[(0,_),(1,_),(5,_)],[]⟩ rfl (Fin.then (ab.seq (ab.block (ab.seq ?_)))))
    refine ab.ai ⟨[(0,_),(1,_),(5,_)],[]⟩ rfl ?_
    obtain ⟨x_2,e6,h4⟩:=aP h4
    obtain ⟨x_3,e7,h4⟩:=aP h4
    refine ab.eX mixed 9 [.b (.one (.sl 1 (a0.map eB))),I i_1,.b (.cx [.bool x_2]),B x_2,.b (.one (.sl 1 (b0.map eB))),I i_1,.b (.cx [.bool x_3]),B x_3,B (x_2 != x_3)] [0,1,5,25] [] (s':=⟨[(0,_),(1,_),(5,_),(25,B (x_2 != x_3))],[]⟩) rfl ⟨fun _=>.p om,fun _=>.p om,fun _=>.p (an dK (aL e6) (aB (e:=eB) e6) rfl rfl),fun _=>.p (au gx rfl rfl),fun _=>.p om,fun _=>.p om,fun _=>.p (an dK (aL e7) (aB (e:=eB) e7) rfl rfl),fun _=>.p (au gx rfl rfl),fun _=>.p (lU xr rfl rfl),trivial⟩ rfl rfl (ab.ite h4 rfl (fun _ h4=>?_) (fun _ h4=>?_))
    ·refine ab.seq (ab.aa ?_)
     refine Oc oa (af.ak ⟨[(4,B false)],[]⟩ rfl (ab.ret (Fin.aJ (Fin.aw ?_))))
     obtain rfl:=hy5 _ (Option.some.inj h4).symm
     refine Fin.aw (Fin.aJ (Fin.aw ?_))
     obtain rfl:=Option.some.inj h
     refine Fin.ai ⟨[(4,_)],[]⟩ rfl (Fin.aM [.one (.bool false)] (.inl rfl) rfl (.cons (.tmp rfl) .nil) ⟨rfl,rfl⟩)
    ·refine ab.skip (Fin.ar (Fin.ai ⟨[(0,_),(1,_),(5,_)],[]⟩ rfl (Fin.then (ab.aa ?_))))
     refine Oc om (Oc (bh rfl rfl) (Oc oa ?_))
     refine af.nil ?_
     exact Fin.bp [0,1,5] [] (IntKind.i64.wrap (i_1 + 1)) (Option.some.inj h4) rfl
   ·refine ab.exit (Fin.aq ?_)
    obtain rfl:=hy5 _ (Option.some.inj h4).symm
    refine Fin.aq (Fin.aE ?_)
    exact Fin.join [] [] () rfl rfl
  ·rintro _ hv
   subst v1
   refine ab.seq (ab.aa ?_)
   refine Oc oa (af.ak ⟨[(4,B true)],[]⟩ rfl (ab.ret ?_))
   obtain rfl:=Option.some.inj h
   refine Fin.ai ⟨[(4,_)],[]⟩ rfl (Fin.aM [.one (.bool true)] (.inl rfl) rfl (.cons (.tmp rfl) .nil) ⟨rfl,rfl⟩)
def bQ (F:Nat) (a0:List (List Int)) (b0:List (List Int)):Option Bool :=
 if (decide ((a0.length:Int) ≠ (b0.length:Int))) = true then (some false) else (Option.bind (iter F (fun i_1=>if (decide (i_1 < (a0.length:Int))) = true then ((aV a0 i_1).bind fun x_2=>(aV b0 i_1).bind fun x_3=>(bA F x_2 x_3).bind fun x_4=>if (!x_4) = true then (some (.inr (.inr false))) else (some (.inl (IntKind.i64.wrap (i_1 + 1))))) else (some (.inr (.inl ())))) 0) (bG (fun _=>some true) (fun y=>some y)))
theorem gW {F:Nat} {a0:List (List Int)} {b0:List (List Int)} {r:Bool} (h:bQ F a0 b0 = some r):aA Try.prog [] 48 [] [.one (.sl 1 (a0.map (eL 1 eI))),.one (.sl 1 (b0.map (eL 1 eI)))] (Is [] (.b (.one (.bool r)))):=by
 unfold bQ at h
 refine aA.intro 27 Try.func48 Try.ntmps48 rfl (by simp) fun E=>?_
 show ab _ E ⟨27,[],[],[]⟩ _ ⟨[(0,.b (.one (.sl 1 (a0.map (eL 1 eI))))),(1,.b (.one (.sl 1 (b0.map (eL 1 eI)))))],[]⟩ _
 refine ab.seq (ab.aa ?_)
 refine Oc oa (af.ak ⟨[(0,.b (.one (.sl 1 (a0.map (eL 1 eI))))),(1,.b (.one (.sl 1 (b0.map (eL 1 eI)))))],[]⟩ rfl (ab.seq (ab.seq (ab.aa ?_))))
 refine Oc om (Oc (av jr rfl (List.length_map _)) (Oc om (Oc (av jr rfl (List.length_map _)) (Oc (cY rfl rfl) ?_))))
 refine af.ak ⟨[(0,_),(1,_),(10,B (decide ((a0.length:Int) ≠ (b0.length:Int))))],[]⟩ rfl (ab.ite h rfl (fun _ h=>?_) (fun _ h=>?_))
 ·refine ab.seq (ab.aa ?_)
  refine Oc oa (af.ak ⟨[(4,B false)],[]⟩ rfl (ab.ret (Fin.aw ?_)))
  obtain rfl:=Option.some.inj h
  refine Fin.ai ⟨[(4,_)],[]⟩ rfl (Fin.aM [.one (.bool false)] (.inl rfl) rfl (.cons (.tmp rfl) .nil) ⟨rfl,rfl⟩)
 ·refine ab.skip (Fin.ai ⟨[(0,_),(1,_)],[]⟩ rfl (Fin.then ?_))
  obtain ⟨v1,h2,h⟩:=aP h
  refine ab.ca (v:=v1) (fun (_:Unit)=>⟨[],[]⟩) (fun z=>.inl z) ?_ ?_
  ·refine ab.seq (ab.aa ?_)
   refine Oc oa (af.ak ⟨[(0,_),(1,_),(5,I 0)],[]⟩ rfl (ab.block (ab.bZ h2 (fun (i_1:Int)=>⟨[(0,.b (.one (.sl 1 (a0.map (eL 1 eI))))),(1,.b (.one (.sl 1 (b0.map (eL 1 eI))))),(5,I i_1)],[]⟩) [0,1,5] [] rfl ?_)))
   rintro i_1 o3 h4 hy5
   refine ab.seq (ab.seq (ab.aa ?_))
   refine Oc om (Oc om (Oc (av jr rfl (List.length_map _)) (Oc (aY rfl rfl) ?_)))
   refine af.ak ⟨[(0,_),(1,_),(5,_),(14,B (decide (i_1 < (a0.length:Int))))],[]⟩ rfl (ab.ite h4 rfl (fun _ h4=>?_) (fun _ h4=>?_))
   ·refine ab.skip (Fin.ai ⟨[(0,_),(1,_),(5,_)],[]⟩ rfl (Fin.then (ab.seq (ab.block (ab.seq ?_)))))
    refine ab.ai ⟨[(0,_),(1,_),(5,_)],[]⟩ rfl ?_
    obtain ⟨x_2,e6,h4⟩:=aP h4
    obtain ⟨x_3,e7,h4⟩:=aP h4
    obtain ⟨x_4,e8,h4⟩:=aP h4
    refine ab.eX mixed 10 [.b (.one (.sl 1 (a0.map (eL 1 eI)))),I i_1,.b (.cx [.sl 1 (x_2.map eI)]),.b (.one (.sl 1 (x_2.map eI))),.b (.one (.sl 1 (b0.map (eL 1 eI)))),I i_1,.b (.cx [.sl 1 (x_3.map eI)]),.b (.one (.sl 1 (x_3.map eI))),B x_4,B (!x_4)] [0,1,5,26] [] (s':=⟨[(0,_),(1,_),(5,_),(26,B (!x_4))],[]⟩) rfl ⟨fun _=>.p om,fun _=>.p om,fun _=>.p (an bY (aL e6) (aB (e:=(eL 1 eI)) e6) rfl rfl),fun _=>.p (au aN rfl rfl),fun _=>.p om,fun _=>.p om,fun _=>.p (an bY (aL e7) (aB (e:=(eL 1 eI)) e7) rfl rfl),fun _=>.p (au aN rfl rfl),fun _=>.p (az (dw e8) qe rfl rfl),fun _=>.p (cL rfl),trivial⟩ rfl rfl (ab.ite h4 rfl (fun _ h4=>?_) (fun _ h4=>?_))
    ·refine ab.seq (ab.aa ?_)
     refine Oc oa (af.ak ⟨[(4,B false)],[]⟩ rfl (ab.ret (Fin.aJ (Fin.aw ?_))))
     obtain rfl:=hy5 _ (Option.some.inj h4).symm
     refine Fin.aw (Fin.aJ (Fin.aw ?_))
     obtain rfl:=Option.some.inj h
     refine Fin.ai ⟨[(4,_)],[]⟩ rfl (Fin.aM [.one (.bool false)] (.inl rfl) rfl (.cons (.tmp rfl) .nil) ⟨rfl,rfl⟩)
    ·refine ab.skip (Fin.ar (Fin.ai ⟨[(0,_),(1,_),(5,_)],[]⟩ rfl (Fin.then (ab.aa ?_))))
     refine Oc om (Oc (bh rfl rfl) (Oc oa ?_))
     refine af.nil ?_
     exact Fin.bp [0,1,5] [] (IntKind.i64.wrap (i_1 + 1)) (Option.some.inj h4) rfl
   ·refine ab.exit (Fin.aq ?_)
    obtain rfl:=hy5 _ (Option.some.inj h4).symm
    refine Fin.aq (Fin.aE ?_)
    exact Fin.join [] [] () rfl rfl
  ·rintro _ hv
   subst v1
   refine ab.seq (ab.aa ?_)
   refine Oc oa (af.ak ⟨[(4,B true)],[]⟩ rfl (ab.ret ?_))
   obtain rfl:=Option.some.inj h
   refine Fin.ai ⟨[(4,_)],[]⟩ rfl (Fin.aM [.one (.bool true)] (.inl rfl) rfl (.cons (.tmp rfl) .nil) ⟨rfl,rfl⟩)
def bw (F:Nat) (a0:List de) (b0:List de):Option Bool :=
 if (decide ((a0.length:Int) ≠ (b0.length:Int))) = true then (some false) else (Option.bind (iter F (fun i_1=>if (decide (i_1 < (a0.length:Int))) = true then ((aV a0 i_1).bind fun x_2=>(aV b0 i_1).bind fun x_3=>if (decide (x_2 ≠ x_3)) = true then (some (.inr (.inr false))) else (some (.inl (IntKind.i64.wrap (i_1 + 1))))) else (some (.inr (.inl ())))) 0) (bG (fun _=>some true) (fun y=>some y)))
theorem fc {F:Nat} {a0:List de} {b0:List de} {r:Bool} (h:bw F a0 b0 = some r):aA Try.prog [] 49 [] [.one (.sl 1 (a0.map eS)),.one (.sl 1 (b0.map eS))] (Is [] (.b (.one (.bool r)))):=by
 unfold bw at h
 refine aA.intro 26 Try.func49 Try.ntmps49 rfl (by simp) fun E=>?_
 show ab _ E ⟨26,[],[],[]⟩ _ ⟨[(0,.b (.one (.sl 1 (a0.map eS)))),(1,.b (.one (.sl 1 (b0.map eS))))],[]⟩ _
 refine ab.seq (ab.aa ?_)
 refine Oc oa (af.ak ⟨[(0,.b (.one (.sl 1 (a0.map eS)))),(1,.b (.one (.sl 1 (b0.map eS))))],[]⟩ rfl (ab.seq (ab.seq (ab.aa ?_))))
 refine Oc om (Oc (av lM rfl (List.length_map _)) (Oc om (Oc (av lM rfl (List.length_map _)) (Oc (cY rfl rfl) ?_))))
 refine af.ak ⟨[(0,_),(1,_),(10,B (decide ((a0.length:Int) ≠ (b0.length:Int))))],[]⟩ rfl (ab.ite h rfl (fun _ h=>?_) (fun _ h=>?_))
 ·refine ab.seq (ab.aa ?_)
  refine Oc oa (af.ak ⟨[(4,B false)],[]⟩ rfl (ab.ret (Fin.aw ?_)))
  obtain rfl:=Option.some.inj h
  refine Fin.ai ⟨[(4,_)],[]⟩ rfl (Fin.aM [.one (.bool false)] (.inl rfl) rfl (.cons (.tmp rfl) .nil) ⟨rfl,rfl⟩)
 ·refine ab.skip (Fin.ai ⟨[(0,_),(1,_)],[]⟩ rfl (Fin.then ?_))
  obtain ⟨v1,h2,h⟩:=aP h
  refine ab.ca (v:=v1) (fun (_:Unit)=>⟨[],[]⟩) (fun z=>.inl z) ?_ ?_
  ·refine ab.seq (ab.aa ?_)
   refine Oc oa (af.ak ⟨[(0,_),(1,_),(5,I 0)],[]⟩ rfl (ab.block (ab.bZ h2 (fun (i_1:Int)=>⟨[(0,.b (.one (.sl 1 (a0.map eS)))),(1,.b (.one (.sl 1 (b0.map eS)))),(5,I i_1)],[]⟩) [0,1,5] [] rfl ?_)))
   rintro i_1 o3 h4 hy5
   refine ab.seq (ab.seq (ab.aa ?_))
   refine Oc om (Oc om (Oc (av lM rfl (List.length_map _)) (Oc (aY rfl rfl) ?_)))
   refine af.ak ⟨[(0,_),(1,_),(5,_),(14,B (decide (i_1 < (a0.length:Int))))],[]⟩ rfl (ab.ite h4 rfl (fun _ h4=>?_) (fun _ h4=>?_))
   ·refine ab.skip (Fin.ai ⟨[(0,_),(1,_),(5,_)],[]⟩ rfl (Fin.then (ab.seq (ab.block (ab.seq ?_)))))
    refine ab.ai ⟨[(0,_),(1,_),(5,_)],[]⟩ rfl ?_
    obtain ⟨x_2,e6,h4⟩:=aP h4
    obtain ⟨x_3,e7,h4⟩:=aP h4
    refine ab.eX mixed 9 [.b (.one (.sl 1 (a0.map eS))),I i_1,.b (.cx [.str x_2]),.b (.one (.str x_2)),.b (.one (.sl 1 (b0.map eS))),I i_1,.b (.cx [.str x_3]),.b (.one (.str x_3)),B (decide (x_2 ≠ x_3))] [0,1,5,25] [] (s':=⟨[(0,_),(1,_),(5,_),(25,B (decide (x_2 ≠ x_3)))],[]⟩) rfl ⟨fun _=>.p om,fun _=>.p om,fun _=>.p (an cw (aL e6) (aB (e:=eS) e6) rfl rfl),fun _=>.p (au fG rfl rfl),fun _=>.p om,fun _=>.p om,fun _=>.p (an cw (aL e7) (aB (e:=eS) e7) rfl rfl),fun _=>.p (au fG rfl rfl),fun _=>.p (pg rfl rfl),trivial⟩ rfl rfl (ab.ite h4 rfl (fun _ h4=>?_) (fun _ h4=>?_))
    ·refine ab.seq (ab.aa ?_)
     refine Oc oa (af.ak ⟨[(4,B false)],[]⟩ rfl (ab.ret (Fin.aJ (Fin.aw ?_))))
     obtain rfl:=hy5 _ (Option.some.inj h4).symm
     refine Fin.aw (Fin.aJ (Fin.aw ?_))
     obtain rfl:=Option.some.inj h
     refine Fin.ai ⟨[(4,_)],[]⟩ rfl (Fin.aM [.one (.bool false)] (.inl rfl) rfl (.cons (.tmp rfl) .nil) ⟨rfl,rfl⟩)
    ·refine ab.skip (Fin.ar (Fin.ai ⟨[(0,_),(1,_),(5,_)],[]⟩ rfl (Fin.then (ab.aa ?_))))
     refine Oc om (Oc (bh rfl rfl) (Oc oa ?_))
     refine af.nil ?_
     exact Fin.bp [0,1,5] [] (IntKind.i64.wrap (i_1 + 1)) (Option.some.inj h4) rfl
   ·refine ab.exit (Fin.aq ?_)
    obtain rfl:=hy5 _ (Option.some.inj h4).symm
    refine Fin.aq (Fin.aE ?_)
    exact Fin.join [] [] () rfl rfl
  ·rintro _ hv
   subst v1
   refine ab.seq (ab.aa ?_)
   refine Oc oa (af.ak ⟨[(4,B true)],[]⟩ rfl (ab.ret ?_))
   obtain rfl:=Option.some.inj h
   refine Fin.ai ⟨[(4,_)],[]⟩ rfl (Fin.aM [.one (.bool true)] (.inl rfl) rfl (.cons (.tmp rfl) .nil) ⟨rfl,rfl⟩)
def bo (F:Nat) (a0:Round) (b0:Round):Option Bool :=
 bu ((decide (a0.Me = b0.Me)) && (decide (a0.Regions = b0.Regions))) fun x_1=>(aK (x_1 && (decide (a0.Step = b0.Step))) (bA F a0.Home b0.Home)).bind fun x_2=>(bI F a0.Heard b0.Heard).bind fun x_3=>(aK x_3 (bQ F a0.Sets b0.Sets)).bind fun x_4=>(aK (x_3 && x_4) (bw F a0.States b0.States)).bind fun x_5=>bu (((x_1 && (decide (a0.Step = b0.Step))) && x_2) && ((x_3 && x_4) && x_5)) fun x_6=>(aK x_6 (bJ F a0.Tasks b0.Tasks)).bind fun x_7=>(aK (x_6 && x_7) (bI F a0.Done b0.Done)).bind fun x_8=>(aK ((x_6 && x_7) && x_8) (bw F a0.Results b0.Results)).bind fun x_9=>some (((x_6 && x_7) && x_8) && x_9)
theorem gL {F:Nat} {a0:Round} {b0:Round} {r:Bool} (h:bo F a0 b0 = some r):aA Try.prog [] 13 [] [.agg (ay a0),.agg (ay b0)] (Is [] (.b (.one (.bool r)))):=by
 unfold bo at h
 refine aA.intro 77 Try.func13 Try.ntmps13 rfl (by simp) fun E=>?_
 show ab _ E ⟨77,[],[],[]⟩ _ ⟨[(0,.b (.agg (ay a0))),(1,.b (.agg (ay b0)))],[]⟩ _
 refine ab.seq (ab.aa ?_)
 refine Oc (fv (k:=101) rfl rfl) (Oc (fv (k:=102) rfl rfl) (Oc oa ?_))
 refine af.ak ⟨[(2,Pt 101 0),(3,Pt 102 0)],[(101,.box 31 (ay a0)),(102,.box 31 (ay b0))]⟩ rfl (ab.seq (ab.aa ?_))
 refine Oc (ae cJ rfl rfl) (Oc (ag aD rfl rfl rfl) (Oc (ae cJ rfl rfl) (Oc (ag aD rfl rfl rfl) (Oc (di rfl rfl) (Oc om ?_)))))
 refine dt (decide (a0.Me = b0.Me)) [] (fun g1=>trivial) (fun g1=>ae ot rfl rfl) (af.ai ⟨[(2,_),(3,_),(12,B (decide (a0.Me = b0.Me))),(13,.opt (decide (a0.Me = b0.Me)) (.ptr 101 1))],[(101,_),(102,_)]⟩ rfl (dt (decide (a0.Me = b0.Me)) [13] (fun g2=>⟨g2,trivial⟩) (fun g2=>ag aD rfl rfl rfl) (dt (decide (a0.Me = b0.Me)) [] (fun g3=>trivial) (fun g3=>ae ot rfl rfl) (dt (decide (a0.Me = b0.Me)) [15] (fun g4=>⟨g4,trivial⟩) (fun g4=>ag aD rfl rfl rfl) (dt (decide (a0.Me = b0.Me)) [14,16] (fun g5=>⟨g5,g5,trivial⟩) (fun g5=>di rfl rfl) ?_)))))
 refine af.fQ h rfl (aT (fun e=>e) rfl rfl rfl rfl) (fun x_1 h=>?_)
 refine Oc om (dt x_1 [] (fun g6=>by exact trivial) (fun g6=>ae jL rfl rfl) (dt x_1 [20] (fun g7=>by exact ⟨g7,trivial⟩) (fun g7=>ag aD rfl rfl rfl) (af.ai ⟨[(2,_),(3,_),(19,B x_1),(21,.opt x_1 (.one (.i a0.Step)))],[(101,_),(102,_)]⟩ rfl (dt x_1 [] (fun g8=>by exact trivial) (fun g8=>ae jL rfl rfl) (dt x_1 [22] (fun g9=>by exact ⟨g9,trivial⟩) (fun g9=>ag aD rfl rfl rfl) ?_)))))
 refine dt x_1 [21,23] (fun g10=>⟨g10,g10,trivial⟩) (fun g10=>di rfl rfl) (Oc (aT (fun e=>e) rfl rfl rfl rfl) (Oc om ?_))
 refine dt (x_1 && (decide (a0.Step = b0.Step))) [] (fun g11=>trivial) (fun g11=>ae dF rfl rfl) (dt (x_1 && (decide (a0.Step = b0.Step))) [27] (fun g12=>⟨g12,trivial⟩) (fun g12=>ag aN rfl rfl rfl) (dt (x_1 && (decide (a0.Step = b0.Step))) [] (fun g13=>trivial) (fun g13=>ae dF rfl rfl) (af.ai ⟨[(2,_),(3,_),(26,B (x_1 && (decide (a0.Step = b0.Step)))),(28,.opt (x_1 && (decide (a0.Step = b0.Step))) (.one (.sl 1 (a0.Home.map eI)))),(29,.opt (x_1 && (decide (a0.Step = b0.Step))) (.ptr 102 3))],[(101,_),(102,_)]⟩ rfl (dt (x_1 && (decide (a0.Step = b0.Step))) [29] (fun g14=>⟨g14,trivial⟩) (fun g14=>ag aN rfl rfl rfl) ?_))))
 obtain ⟨x_2,e16,h⟩:=aP h
 refine dt (x_1 && (decide (a0.Step = b0.Step))) [28,30] (fun g15=>⟨g15,g15,trivial⟩) (fun g15=>az (dw (gc e16 g15)) qe rfl rfl) (Oc (aT (fun e=>e) rfl rfl rfl rfl) (Oc oa ?_))
 refine af.ak ⟨[(2,_),(3,_),(5,B ((x_1 && (decide (a0.Step = b0.Step))) && x_2))],[(101,_),(102,_)]⟩ rfl (ab.seq (ab.aa ?_))
 refine Oc (ae er rfl rfl) (Oc (ag dd rfl rfl rfl) (Oc (ae er rfl rfl) (Oc (ag dd rfl rfl rfl) ?_)))
 obtain ⟨x_3,e17,h⟩:=aP h
 refine Oc (az (gI e17) x8 rfl rfl) (af.ai ⟨[(2,_),(3,_),(5,_),(37,B x_3)],[(101,_),(102,_)]⟩ rfl (Oc om (dt x_3 [] (fun g18=>by exact trivial) (fun g18=>ae gp rfl rfl) (dt x_3 [39] (fun g19=>by exact ⟨g19,trivial⟩) (fun g19=>ag dT rfl rfl rfl) (dt x_3 [] (fun g20=>by exact trivial) (fun g20=>ae gp rfl rfl) ?_)))))
 refine dt x_3 [41] (fun g21=>⟨g21,trivial⟩) (fun g21=>ag dT rfl rfl rfl) ?_
 obtain ⟨x_4,e23,h⟩:=aP h
 refine dt x_3 [40,42] (fun g22=>⟨g22,g22,trivial⟩) (fun g22=>az (gW (gc e23 g22)) x7 rfl rfl) (af.ai ⟨[(2,_),(3,_),(5,_),(38,B x_3),(43,.opt x_3 (.one (.bool x_4)))],[(101,_),(102,_)]⟩ rfl (Oc (aT (fun e=>e) rfl rfl rfl rfl) (Oc om ?_)))
 refine dt (x_3 && x_4) [] (fun g24=>trivial) (fun g24=>ae gO rfl rfl) (dt (x_3 && x_4) [46] (fun g25=>⟨g25,trivial⟩) (fun g25=>ag b6 rfl rfl rfl) (dt (x_3 && x_4) [] (fun g26=>trivial) (fun g26=>ae gO rfl rfl) (dt (x_3 && x_4) [48] (fun g27=>⟨g27,trivial⟩) (fun g27=>ag b6 rfl rfl rfl) (af.ai ⟨[(2,_),(3,_),(5,_),(45,B (x_3 && x_4)),(47,.opt (x_3 && x_4) (.one (.sl 1 (a0.States.map eS)))),(49,.opt (x_3 && x_4) (.one (.sl 1 (b0.States.map eS))))],[(101,_),(102,_)]⟩ rfl ?_))))
 obtain ⟨x_5,e29,h⟩:=aP h
 refine dt (x_3 && x_4) [47,49] (fun g28=>⟨g28,g28,trivial⟩) (fun g28=>az (fc (gc e29 g28)) u7 rfl rfl) (Oc (aT (fun e=>e) rfl rfl rfl rfl) (Oc oa ?_))
 refine af.ak ⟨[(2,_),(3,_),(5,_),(6,B ((x_3 && x_4) && x_5))],[(101,_),(102,_)]⟩ rfl (ab.seq (ab.aa ?_))
 refine Oc om (Oc om ?_)
 refine dt ((x_1 && (decide (a0.Step = b0.Step))) && x_2) [] (fun g30=>trivial) (fun g30=>om) (af.fQ h rfl (aT (fun e=>e) rfl rfl rfl rfl) (fun x_6 h=>?_))
 refine Oc om (dt x_6 [] (fun g31=>by exact trivial) (fun g31=>ae c9 rfl rfl) (dt x_6 [57] (fun g32=>by exact ⟨g32,trivial⟩) (fun g32=>ag ey rfl rfl rfl) (af.ai ⟨[(2,_),(3,_),(56,B x_6),(58,.opt x_6 (.one (.sl 3 (a0.Tasks.map ao))))],[(101,_),(102,_)]⟩ rfl (dt x_6 [] (fun g33=>by exact trivial) (fun g33=>ae c9 rfl rfl) (dt x_6 [59] (fun g34=>by exact ⟨g34,trivial⟩) (fun g34=>ag ey rfl rfl rfl) ?_)))))
 obtain ⟨x_7,e36,h⟩:=aP h
 refine dt x_6 [58,60] (fun g35=>⟨g35,g35,trivial⟩) (fun g35=>az (gJ (gc e36 g35)) yb rfl rfl) (Oc (aT (fun e=>e) rfl rfl rfl rfl) (Oc om ?_))
 refine dt (x_6 && x_7) [] (fun g37=>trivial) (fun g37=>ae eG rfl rfl) (af.ai ⟨[(2,_),(3,_),(63,B (x_6 && x_7)),(64,.opt (x_6 && x_7) (.ptr 101 8))],[(101,_),(102,_)]⟩ rfl (dt (x_6 && x_7) [64] (fun g38=>⟨g38,trivial⟩) (fun g38=>ag dd rfl rfl rfl) (dt (x_6 && x_7) [] (fun g39=>trivial) (fun g39=>ae eG rfl rfl) (dt (x_6 && x_7) [66] (fun g40=>⟨g40,trivial⟩) (fun g40=>ag dd rfl rfl rfl) ?_))))
 obtain ⟨x_8,e42,h⟩:=aP h
 refine dt (x_6 && x_7) [65,67] (fun g41=>⟨g41,g41,trivial⟩) (fun g41=>az (gI (gc e42 g41)) x8 rfl rfl) (Oc (aT (fun e=>e) rfl rfl rfl rfl) (Oc om ?_))
 refine af.ai ⟨[(2,_),(3,_),(70,B ((x_6 && x_7) && x_8))],[(101,_),(102,_)]⟩ rfl (dt ((x_6 && x_7) && x_8) [] (fun g43=>trivial) (fun g43=>ae ep rfl rfl) (dt ((x_6 && x_7) && x_8) [71] (fun g44=>⟨g44,trivial⟩) (fun g44=>ag b6 rfl rfl rfl) (dt ((x_6 && x_7) && x_8) [] (fun g45=>trivial) (fun g45=>ae ep rfl rfl) (dt ((x_6 && x_7) && x_8) [73] (fun g46=>⟨g46,trivial⟩) (fun g46=>ag b6 rfl rfl rfl) ?_))))
 obtain ⟨x_9,e48,h⟩:=aP h
 refine dt ((x_6 && x_7) && x_8) [72,74] (fun g47=>⟨g47,g47,trivial⟩) (fun g47=>az (fc (gc e48 g47)) u7 rfl rfl) (Oc (aT (fun e=>e) rfl rfl rfl rfl) (Oc oa ?_))
 refine af.ak ⟨[(4,B (((x_6 && x_7) && x_8) && x_9))],[]⟩ rfl (ab.ret ?_)
 obtain rfl:=Option.some.inj h
 refine Fin.ai ⟨[(4,_)],[]⟩ rfl (Fin.aM [.one (.bool (((x_6 && x_7) && x_8) && x_9))] (.inl rfl) rfl (.cons (.tmp rfl) .nil) ⟨rfl,rfl⟩)
def bB (F:Nat) (a0:List aI) (b0:List aI):Option Bool :=
 if (decide ((a0.length:Int) ≠ (b0.length:Int))) = true then (some false) else (Option.bind (iter F (fun i_1=>if (decide (i_1 < (a0.length:Int))) = true then ((aV a0 i_1).bind fun x_2=>(aV b0 i_1).bind fun x_3=>bu ((decide (x_2.Kind ≠ x_3.Kind)) || (decide (x_2.Step ≠ x_3.Step))) fun x_4=>bu ((x_4 || (decide (x_2.From ≠ x_3.From))) || (decide (x_2.To ≠ x_3.To))) fun x_5=>(aK (!x_5) (bQ F x_2.Sets x_3.Sets)).bind fun x_6=>(aK (!(x_5 || (!x_6))) (bA F x_2.Bodies x_3.Bodies)).bind fun x_7=>(aK (!((x_5 || (!x_6)) || (!x_7))) (bw F x_2.States x_3.States)).bind fun x_8=>if (((x_5 || (!x_6)) || (!x_7)) || (!x_8)) = true then (some (.inr (.inr false))) else (some (.inl (IntKind.i64.wrap (i_1 + 1))))) else (some (.inr (.inl ())))) 0) (bG (fun _=>some true) (fun y=>some y)))
theorem gu {F:Nat} {a0:List aI} {b0:List aI} {r:Bool} (h:bB F a0 b0 = some r):aA Try.prog [] 14 [] [.one (.sl 7 (a0.map ah)),.one (.sl 7 (b0.map ah))] (Is [] (.b (.one (.bool r)))):=by
 unfold bB at h
 refine aA.intro 77 Try.func14 Try.ntmps14 rfl (by simp) fun E=>?_
 show ab _ E ⟨77,[],[],[]⟩ _ ⟨[(0,.b (.one (.sl 7 (a0.map ah)))),(1,.b (.one (.sl 7 (b0.map ah))))],[]⟩ _
 refine ab.seq (ab.aa ?_)
 refine Oc oa (af.ak ⟨[(0,.b (.one (.sl 7 (a0.map ah)))),(1,.b (.one (.sl 7 (b0.map ah))))],[]⟩ rfl (ab.seq (ab.seq (ab.aa ?_))))
 refine Oc om (Oc (av pt rfl (List.length_map _)) (Oc om (Oc (av pt rfl (List.length_map _)) (Oc (cY rfl rfl) ?_))))
 refine af.ak ⟨[(0,_),(1,_),(12,B (decide ((a0.length:Int) ≠ (b0.length:Int))))],[]⟩ rfl (ab.ite h rfl (fun _ h=>?_) (fun _ h=>?_))
 ·refine ab.seq (ab.aa ?_)
  refine Oc oa (af.ak ⟨[(4,B false)],[]⟩ rfl (ab.ret (Fin.aw ?_)))
  obtain rfl:=Option.some.inj h
  refine Fin.ai ⟨[(4,_)],[]⟩ rfl (Fin.aM [.one (.bool false)] (.inl rfl) rfl (.cons (.tmp rfl) .nil) ⟨rfl,rfl⟩)
 ·refine ab.skip (Fin.ai ⟨[(0,_),(1,_)],[]⟩ rfl (Fin.then ?_))
  obtain ⟨v1,h2,h⟩:=aP h
  refine ab.ca (v:=v1) (fun (_:Unit)=>⟨[],[]⟩) (fun z=>.inl z) ?_ ?_
  ·refine ab.seq (ab.aa ?_)
   refine Oc oa (af.ak ⟨[(0,_),(1,_),(5,I 0)],[]⟩ rfl (ab.block (ab.bZ h2 (fun (i_1:Int)=>⟨[(0,.b (.one (.sl 7 (a0.map ah)))),(1,.b (.one (.sl 7 (b0.map ah)))),(5,I i_1)],[]⟩) [0,1,5] [] rfl ?_)))
   rintro i_1 o3 h4 hy5
   refine ab.seq (ab.seq (ab.aa ?_))
   refine Oc om (Oc om (Oc (av pt rfl (List.length_map _)) (Oc (aY rfl rfl) ?_)))
   refine af.ak ⟨[(0,_),(1,_),(5,_),(16,B (decide (i_1 < (a0.length:Int))))],[]⟩ rfl (ab.ite h4 rfl (fun _ h4=>?_) (fun _ h4=>?_))
   ·refine ab.skip (Fin.ai ⟨[(0,_),(1,_),(5,_)],[]⟩ rfl (Fin.then (ab.seq (ab.block (ab.seq (ab.aa ?_))))))
    refine Oc om (Oc om ?_)
    obtain ⟨x_2,e6,h4⟩:=aP h4
    refine Oc (an iL (aL e6) (aB (e:=ah) e6) rfl rfl) (Oc (fl gb rfl rfl rfl) (Oc (cz (k:=101) tO rfl) (Oc (aR gb rfl rfl rfl rfl (Nat.le_of_ble_eq_true rfl) rfl) ?_)))
    refine af.ak ⟨[(0,_),(1,_),(5,_),(6,Pt 101 0)],[(101,.box 42 (ah x_2))]⟩ rfl (ab.seq (ab.aa ?_))
    refine Oc om (Oc om ?_)
    obtain ⟨x_3,e7,h4⟩:=aP h4
    refine Oc (an iL (aL e7) (aB (e:=ah) e7) rfl rfl) (Oc (fl gb rfl rfl rfl) (Oc (cz (k:=102) tO rfl) (Oc (aR gb rfl rfl rfl rfl (Nat.le_of_ble_eq_true rfl) rfl) ?_)))
    refine af.ak ⟨[(0,_),(1,_),(5,_),(6,_),(7,Pt 102 0)],[(101,_),(102,.box 42 (ah x_3))]⟩ rfl (ab.seq (ab.aa ?_))
    refine Oc (ae kN rfl rfl) (Oc (ag aD rfl rfl rfl) (Oc (ae kN rfl rfl) (Oc (ag aD rfl rfl rfl) (Oc (cY rfl rfl) (Oc om ?_)))))
    refine bF (!(decide (x_2.Kind ≠ x_3.Kind))) [] (fun g8=>trivial) (fun g8=>ae mE rfl rfl) (af.ai ⟨[(0,_),(1,_),(5,_),(6,_),(7,_),(32,B (decide (x_2.Kind ≠ x_3.Kind))),(33,.opt (!(decide (x_2.Kind ≠ x_3.Kind))) (.ptr 101 1))],[(101,_),(102,_)]⟩ rfl (bF (!(decide (x_2.Kind ≠ x_3.Kind))) [33] (fun g9=>⟨g9,trivial⟩) (fun g9=>ag aD rfl rfl rfl) (bF (!(decide (x_2.Kind ≠ x_3.Kind))) [] (fun g10=>trivial) (fun g10=>ae mE rfl rfl) (bF (!(decide (x_2.Kind ≠ x_3.Kind))) [35] (fun g11=>⟨g11,trivial⟩) (fun g11=>ag aD rfl rfl rfl) (bF (!(decide (x_2.Kind ≠ x_3.Kind))) [34,36] (fun g12=>⟨g12,g12,trivial⟩) (fun g12=>cY rfl rfl) ?_)))))
    refine af.fQ h4 rfl (aF (fun e=>by first | (rw [e]; rfl) | (simp only at e; rw [e]; rfl)) rfl rfl rfl rfl) (fun x_4 h4=>?_)
    refine Oc om (bF (!x_4) [] (fun g13=>by exact trivial) (fun g13=>ae dR rfl rfl) (bF (!x_4) [40] (fun g14=>by exact ⟨g14,trivial⟩) (fun g14=>ag aD rfl rfl rfl) (af.ai ⟨[(0,_),(1,_),(5,_),(6,_),(7,_),(39,B x_4),(41,.opt (!x_4) (.one (.i x_2.From)))],[(101,_),(102,_)]⟩ rfl (bF (!x_4) [] (fun g15=>by exact trivial) (fun g15=>ae dR rfl rfl) (bF (!x_4) [42] (fun g16=>by exact ⟨g16,trivial⟩) (fun g16=>ag aD rfl rfl rfl) ?_)))))
    refine bF (!x_4) [41,43] (fun g17=>⟨g17,g17,trivial⟩) (fun g17=>cY rfl rfl) (Oc (aF (fun e=>by first | (rw [e]; rfl) | (simp only at e; rw [e]; rfl)) rfl rfl rfl rfl) (Oc om ?_))
    refine bF (!(x_4 || (decide (x_2.From ≠ x_3.From)))) [] (fun g18=>trivial) (fun g18=>ae oq rfl rfl) (bF (!(x_4 || (decide (x_2.From ≠ x_3.From)))) [47] (fun g19=>⟨g19,trivial⟩) (fun g19=>ag aD rfl rfl rfl) (bF (!(x_4 || (decide (x_2.From ≠ x_3.From)))) [] (fun g20=>trivial) (fun g20=>ae oq rfl rfl) (af.ai ⟨[(0,_),(1,_),(5,_),(6,_),(7,_),(46,B (x_4 || (decide (x_2.From ≠ x_3.From)))),(48,.opt (!(x_4 || (decide (x_2.From ≠ x_3.From)))) (.one (.i x_2.To))),(49,.opt (!(x_4 || (decide (x_2.From ≠ x_3.From)))) (.ptr 102 3))],[(101,_),(102,_)]⟩ rfl (bF (!(x_4 || (decide (x_2.From ≠ x_3.From)))) [49] (fun g21=>⟨g21,trivial⟩) (fun g21=>ag aD rfl rfl rfl) (bF (!(x_4 || (decide (x_2.From ≠ x_3.From)))) [48,50] (fun g22=>⟨g22,g22,trivial⟩) (fun g22=>cY rfl rfl) ?_)))))
    refine af.fQ h4 rfl (aF (fun e=>by first | (rw [e]; rfl) | (simp only at e; rw [e]; rfl)) rfl rfl rfl rfl) (fun x_5 h4=>?_)
    refine Oc om (bF (!x_5) [] (fun g23=>by exact trivial) (fun g23=>ae fL rfl rfl) (bF (!x_5) [54] (fun g24=>by exact ⟨g24,trivial⟩) (fun g24=>ag dT rfl rfl rfl) (bF (!x_5) [] (fun g25=>by exact trivial) (fun g25=>ae fL rfl rfl) (bF (!x_5) [56] (fun g26=>by exact ⟨g26,trivial⟩) (fun g26=>ag dT rfl rfl rfl) (af.ai ⟨[(0,_),(1,_),(5,_),(6,_),(7,_),(53,B x_5),(55,.opt (!x_5) (.one (.sl 1 (x_2.Sets.map (eL 1 eI))))),(57,.opt (!x_5) (.one (.sl 1 (x_3.Sets.map (eL 1 eI)))))],[(101,_),(102,_)]⟩ rfl ?_)))))
    obtain ⟨x_6,e28,h4⟩:=aP h4
    refine bF (!x_5) [55,57] (fun g27=>⟨g27,g27,trivial⟩) (fun g27=>az (gW (gc e28 g27)) x7 rfl rfl) (bF (!x_5) [58] (fun g29=>⟨g29,trivial⟩) (fun g29=>cL rfl) (Oc (aF (fun e=>by first | (rw [e]; rfl) | (simp only at e; rw [e]; rfl)) rfl rfl rfl rfl) (Oc om ?_)))
    refine bF (!(x_5 || (!x_6))) [] (fun g30=>trivial) (fun g30=>ae du rfl rfl) (bF (!(x_5 || (!x_6))) [62] (fun g31=>⟨g31,trivial⟩) (fun g31=>ag aN rfl rfl rfl) (bF (!(x_5 || (!x_6))) [] (fun g32=>trivial) (fun g32=>ae du rfl rfl) (bF (!(x_5 || (!x_6))) [64] (fun g33=>⟨g33,trivial⟩) (fun g33=>ag aN rfl rfl rfl) (af.ai ⟨[(0,_),(1,_),(5,_),(6,_),(7,_),(61,B (x_5 || (!x_6))),(63,.opt (!(x_5 || (!x_6))) (.one (.sl 1 (x_2.Bodies.map eI)))),(65,.opt (!(x_5 || (!x_6))) (.one (.sl 1 (x_3.Bodies.map eI))))],[(101,_),(102,_)]⟩ rfl ?_))))
    obtain ⟨x_7,e35,h4⟩:=aP h4
    refine bF (!(x_5 || (!x_6))) [63,65] (fun g34=>⟨g34,g34,trivial⟩) (fun g34=>az (dw (gc e35 g34)) qe rfl rfl) (bF (!(x_5 || (!x_6))) [66] (fun g36=>⟨g36,trivial⟩) (fun g36=>cL rfl) (Oc (aF (fun e=>by first | (rw [e]; rfl) | (simp only at e; rw [e]; rfl)) rfl rfl rfl rfl) (Oc om ?_)))
    refine bF (!((x_5 || (!x_6)) || (!x_7))) [] (fun g37=>trivial) (fun g37=>ae fK rfl rfl) (bF (!((x_5 || (!x_6)) || (!x_7))) [70] (fun g38=>⟨g38,trivial⟩) (fun g38=>ag b6 rfl rfl rfl) (bF (!((x_5 || (!x_6)) || (!x_7))) [] (fun g39=>trivial) (fun g39=>ae fK rfl rfl) (bF (!((x_5 || (!x_6)) || (!x_7))) [72] (fun g40=>⟨g40,trivial⟩) (fun g40=>ag b6 rfl rfl rfl) (af.ai ⟨[(0,_),(1,_),(5,_),(69,B ((x_5 || (!x_6)) || (!x_7))),(71,.opt (!((x_5 || (!x_6)) || (!x_7))) (.one (.sl 1 (x_2.States.map eS)))),(73,.opt (!((x_5 || (!x_6)) || (!x_7))) (.one (.sl 1 (x_3.States.map eS))))],[]⟩ rfl ?_))))
    obtain ⟨x_8,e42,h4⟩:=aP h4
    refine bF (!((x_5 || (!x_6)) || (!x_7))) [71,73] (fun g41=>⟨g41,g41,trivial⟩) (fun g41=>az (fc (gc e42 g41)) u7 rfl rfl) (bF (!((x_5 || (!x_6)) || (!x_7))) [74] (fun g43=>⟨g43,trivial⟩) (fun g43=>cL rfl) (Oc (aF (fun e=>by first | (rw [e]; rfl) | (simp only at e; rw [e]; rfl)) rfl rfl rfl rfl) (af.ak ⟨[(0,_),(1,_),(5,_),(76,B (((x_5 || (!x_6)) || (!x_7)) || (!x_8)))],[]⟩ rfl (ab.ite h4 rfl (fun _ h4=>?_) (fun _ h4=>?_)))))
    ·refine ab.seq (ab.aa ?_)
     refine Oc oa (af.ak ⟨[(4,B false)],[]⟩ rfl (ab.ret (Fin.aJ (Fin.aw ?_))))
     obtain rfl:=hy5 _ (Option.some.inj h4).symm
     refine Fin.aw (Fin.aJ (Fin.aw ?_))
     obtain rfl:=Option.some.inj h
     refine Fin.ai ⟨[(4,_)],[]⟩ rfl (Fin.aM [.one (.bool false)] (.inl rfl) rfl (.cons (.tmp rfl) .nil) ⟨rfl,rfl⟩)
    ·refine ab.skip (Fin.ar (Fin.ai ⟨[(0,_),(1,_),(5,_)],[]⟩ rfl (Fin.then (ab.aa ?_))))
     refine Oc om (Oc (bh rfl rfl) (Oc oa ?_))
     refine af.nil ?_
     exact Fin.bp [0,1,5] [] (IntKind.i64.wrap (i_1 + 1)) (Option.some.inj h4) rfl
   ·refine ab.exit (Fin.aq ?_)
    obtain rfl:=hy5 _ (Option.some.inj h4).symm
    refine Fin.aq (Fin.aE ?_)
    exact Fin.join [] [] () rfl rfl
  ·rintro _ hv
   subst v1
   refine ab.seq (ab.aa ?_)
   refine Oc oa (af.ak ⟨[(4,B true)],[]⟩ rfl (ab.ret ?_))
   obtain rfl:=Option.some.inj h
   refine Fin.ai ⟨[(4,_)],[]⟩ rfl (Fin.aM [.one (.bool true)] (.inl rfl) rfl (.cons (.tmp rfl) .nil) ⟨rfl,rfl⟩)
def bS (F:Nat) (l0:List de) (n0:Int):Option Bool :=
 if (decide ((l0.length:Int) ≠ n0)) = true then (some false) else (Option.bind (iter F (fun i_1=>if (decide (i_1 < n0)) = true then ((aV l0 i_1).bind fun x_2=>if (decide (x_2 = [])) = true then (some (.inr (.inr false))) else (some (.inl (IntKind.i64.wrap (i_1 + 1))))) else (some (.inr (.inl ())))) 0) (bG (fun _=>some true) (fun y=>some y)))
theorem fa {F:Nat} {l0:List de} {n0:Int} {r:Bool} (h:bS F l0 n0 = some r):aA Try.prog [] 58 [] [.one (.sl 1 (l0.map eS)),.one (.i n0)] (Is [] (.b (.one (.bool r)))):=by
 unfold bS at h
 refine aA.intro 20 Try.func58 Try.ntmps58 rfl (by simp) fun E=>?_
 show ab _ E ⟨20,[],[],[]⟩ _ ⟨[(0,.b (.one (.sl 1 (l0.map eS)))),(1,I n0)],[]⟩ _
 refine ab.seq (ab.aa ?_)
 refine Oc oa (af.ak ⟨[(0,.b (.one (.sl 1 (l0.map eS)))),(1,I n0)],[]⟩ rfl (ab.seq (ab.seq (ab.aa ?_))))
 refine Oc om (Oc (av lM rfl (List.length_map _)) (Oc om (Oc (cY rfl rfl) ?_)))
 refine af.ak ⟨[(0,_),(1,_),(9,B (decide ((l0.length:Int) ≠ n0)))],[]⟩ rfl (ab.ite h rfl (fun _ h=>?_) (fun _ h=>?_))
 ·refine ab.seq (ab.aa ?_)
  refine Oc oa (af.ak ⟨[(4,B false)],[]⟩ rfl (ab.ret (Fin.aw ?_)))
  obtain rfl:=Option.some.inj h
  refine Fin.ai ⟨[(4,_)],[]⟩ rfl (Fin.aM [.one (.bool false)] (.inl rfl) rfl (.cons (.tmp rfl) .nil) ⟨rfl,rfl⟩)
 ·refine ab.skip (Fin.ai ⟨[(0,_),(1,_)],[]⟩ rfl (Fin.then ?_))
  obtain ⟨v1,h2,h⟩:=aP h
  refine ab.ca (v:=v1) (fun (_:Unit)=>⟨[],[]⟩) (fun z=>.inl z) ?_ ?_
  ·refine ab.seq (ab.aa ?_)
   refine Oc oa (af.ak ⟨[(0,_),(1,_),(5,I 0)],[]⟩ rfl (ab.block (ab.bZ h2 (fun (i_1:Int)=>⟨[(0,.b (.one (.sl 1 (l0.map eS)))),(1,I n0),(5,I i_1)],[]⟩) [0,1,5] [] rfl ?_)))
   rintro i_1 o3 h4 hy5
   refine ab.seq (ab.seq (ab.aa ?_))
   refine Oc om (Oc om (Oc (aY rfl rfl) ?_))
   refine af.ak ⟨[(0,_),(1,_),(5,_),(12,B (decide (i_1 < n0)))],[]⟩ rfl (ab.ite h4 rfl (fun _ h4=>?_) (fun _ h4=>?_))
   ·refine ab.skip (Fin.ai ⟨[(0,_),(1,_),(5,_)],[]⟩ rfl (Fin.then (ab.seq (ab.block (ab.seq (ab.aa ?_))))))
    refine Oc om (Oc om ?_)
    obtain ⟨x_2,e6,h4⟩:=aP h4
    refine Oc (an cw (aL e6) (aB (e:=eS) e6) rfl rfl) (Oc (au fG rfl rfl) (Oc (hX rfl rfl) ?_))
    refine af.ak ⟨[(0,_),(1,_),(5,_),(19,B (decide (x_2 = [])))],[]⟩ rfl (ab.ite h4 rfl (fun _ h4=>?_) (fun _ h4=>?_))
    ·refine ab.seq (ab.aa ?_)
     refine Oc oa (af.ak ⟨[(4,B false)],[]⟩ rfl (ab.ret (Fin.aJ (Fin.aw ?_))))
     obtain rfl:=hy5 _ (Option.some.inj h4).symm
     refine Fin.aw (Fin.aJ (Fin.aw ?_))
     obtain rfl:=Option.some.inj h
     refine Fin.ai ⟨[(4,_)],[]⟩ rfl (Fin.aM [.one (.bool false)] (.inl rfl) rfl (.cons (.tmp rfl) .nil) ⟨rfl,rfl⟩)
    ·refine ab.skip (Fin.ar (Fin.ai ⟨[(0,_),(1,_),(5,_)],[]⟩ rfl (Fin.then (ab.aa ?_))))
     refine Oc om (Oc (bh rfl rfl) (Oc oa ?_))
     refine af.nil ?_
     exact Fin.bp [0,1,5] [] (IntKind.i64.wrap (i_1 + 1)) (Option.some.inj h4) rfl
   ·refine ab.exit (Fin.aq ?_)
    obtain rfl:=hy5 _ (Option.some.inj h4).symm
    refine Fin.aq (Fin.aE ?_)
    exact Fin.join [] [] () rfl rfl
  ·rintro _ hv
   subst v1
   refine ab.seq (ab.aa ?_)
   refine Oc oa (af.ak ⟨[(4,B true)],[]⟩ rfl (ab.ret ?_))
   obtain rfl:=Option.some.inj h
   refine Fin.ai ⟨[(4,_)],[]⟩ rfl (Fin.aM [.one (.bool true)] (.inl rfl) rfl (.cons (.tmp rfl) .nil) ⟨rfl,rfl⟩)
def bV (F:Nat) (r0:Round) (k0:Int):Option Bool :=
 (aV r0.Tasks k0).bind fun x_1=>(aK (decide (x_1.Owner = r0.Me)) (aV r0.Done k0)).bind fun x_2=>(aK ((decide (x_1.Owner = r0.Me)) && (!x_2)) (cb F r0.States x_1.Bodies)).bind fun x_3=>(aK ((decide (x_1.Owner = r0.Me)) && (!x_2)) (bS F x_3 (x_1.Bodies.length:Int))).bind fun x_4=>some (((decide (x_1.Owner = r0.Me)) && (!x_2)) && x_4)
theorem iq {F:Nat} {r0:Round} {k0:Int} {r:Bool} (h:bV F r0 k0 = some r):aA Try.prog [] 57 [] [.agg (ay r0),.one (.i k0)] (Is [] (.b (.one (.bool r)))):=by
 unfold bV at h
 refine aA.intro 35 Try.func57 Try.ntmps57 rfl (by simp) fun E=>?_
 show ab _ E ⟨35,[],[],[]⟩ _ ⟨[(0,.b (.agg (ay r0))),(1,I k0)],[]⟩ _
 refine ab.seq (ab.aa ?_)
 refine Oc (fv (k:=101) rfl rfl) (Oc oa ?_)
 refine af.ak ⟨[(1,I k0),(2,Pt 101 0)],[(101,.box 31 (ay r0))]⟩ rfl (ab.seq (ab.aa ?_))
 refine Oc (ae c9 rfl rfl) (Oc (ag ey rfl rfl rfl) (Oc om ?_))
 obtain ⟨x_1,e1,h⟩:=aP h
 refine Oc (an fF (aL e1) (aB (e:=ao) e1) rfl rfl) (Oc (fl fR rfl rfl rfl) (Oc (cz (k:=102) ke rfl) (Oc (aR fR rfl rfl rfl rfl (Nat.le_of_ble_eq_true rfl) rfl) ?_)))
 refine af.ak ⟨[(1,_),(2,_),(5,Pt 102 0)],[(101,_),(102,.box 59 (ao x_1))]⟩ rfl (ab.seq ?_)
 obtain ⟨x_2,e6,h⟩:=aP h
 obtain ⟨x_3,e14,h⟩:=aP h
 obtain ⟨x_4,e19,h⟩:=aP h
 refine ab.eX mixed 25 [Pt 102 0,I x_1.Owner,Pt 101 0,I r0.Me,B (decide (x_1.Owner = r0.Me)),B (decide (x_1.Owner = r0.Me)),.opt (decide (x_1.Owner = r0.Me)) (.ptr 101 8),.opt (decide (x_1.Owner = r0.Me)) (.one (.sl 1 (r0.Done.map eB))),.opt (decide (x_1.Owner = r0.Me)) (.one (.i k0)),.opt (decide (x_1.Owner = r0.Me)) (.cx [.bool x_2]),.opt (decide (x_1.Owner = r0.Me)) (.one (.bool x_2)),.opt (decide (x_1.Owner = r0.Me)) (.one (.bool (!x_2))),B ((decide (x_1.Owner = r0.Me)) && (!x_2)),B ((decide (x_1.Owner = r0.Me)) && (!x_2)),.opt ((decide (x_1.Owner = r0.Me)) && (!x_2)) (.ptr 101 6),.opt ((decide (x_1.Owner = r0.Me)) && (!x_2)) (.one (.sl 1 (r0.States.map eS))),.opt ((decide (x_1.Owner = r0.Me)) && (!x_2)) (.ptr 102 1),.opt ((decide (x_1.Owner = r0.Me)) && (!x_2)) (.one (.sl 1 (x_1.Bodies.map eI))),.opt ((decide (x_1.Owner = r0.Me)) && (!x_2)) (.one (.sl 1 (x_3.map eS))),.opt ((decide (x_1.Owner = r0.Me)) && (!x_2)) (.ptr 102 1),.opt ((decide (x_1.Owner = r0.Me)) && (!x_2)) (.one (.sl 1 (x_1.Bodies.map eI))),.opt ((decide (x_1.Owner = r0.Me)) && (!x_2)) (.one (.i (x_1.Bodies.length:Int))),.opt ((decide (x_1.Owner = r0.Me)) && (!x_2)) (.one (.bool x_4)),B (((decide (x_1.Owner = r0.Me)) && (!x_2)) && x_4),B (((decide (x_1.Owner = r0.Me)) && (!x_2)) && x_4)] [4] [] (s':=⟨[(4,B (((decide (x_1.Owner = r0.Me)) && (!x_2)) && x_4))],[]⟩) rfl ⟨fun _=>.p (ae fJ rfl rfl),fun _=>.p (ag aD rfl rfl rfl),fun _=>.p (ae cJ rfl rfl),fun _=>.p (ag aD rfl rfl rfl),fun _=>.p (di rfl rfl),fun _=>.p om,fun _=>by exact .guard (decide (x_1.Owner = r0.Me)) 1 [] (.plain rfl) (dq _) rfl rfl (fun g2=>trivial) (fun g2=>ae eG rfl rfl),fun _=>by exact .guard (decide (x_1.Owner = r0.Me)) 2 [17] (.plain rfl) (dq _) rfl rfl (fun g3=>⟨g3,trivial⟩) (fun g3=>ag dd rfl rfl rfl),fun _=>by exact .guard (decide (x_1.Owner = r0.Me)) 1 [] (.plain rfl) (dq _) rfl rfl (fun g4=>trivial) (fun g4=>om),fun _=>by exact .guard (decide (x_1.Owner = r0.Me)) 3 [18,19] (.plain rfl) (dq _) rfl rfl (fun g5=>⟨g5,g5,trivial⟩) (fun g5=>an dK (aL (gc e6 g5)) (aB (e:=eB) (gc e6 g5)) rfl rfl),fun _=>by exact .guard (decide (x_1.Owner = r0.Me)) 2 [20] (.plain rfl) (dq _) rfl rfl (fun g7=>⟨g7,trivial⟩) (fun g7=>au gx rfl rfl),fun _=>by exact .guard (decide (x_1.Owner = r0.Me)) 2 [21] (.plain rfl) (dq _) rfl rfl (fun g8=>⟨g8,trivial⟩) (fun g8=>cL rfl),fun _=>.p (aT (fun e=>e) rfl rfl rfl rfl),fun _=>.p om,fun _=>by exact .guard ((decide (x_1.Owner = r0.Me)) && (!x_2)) 1 [] (.plain rfl) (dq _) rfl rfl (fun g9=>trivial) (fun g9=>ae gO rfl rfl),fun _=>by exact .guard ((decide (x_1.Owner = r0.Me)) && (!x_2)) 2 [25] (.plain rfl) (dq _) rfl rfl (fun g10=>⟨g10,trivial⟩) (fun g10=>ag b6 rfl rfl rfl),fun _=>by exact .guard ((decide (x_1.Owner = r0.Me)) && (!x_2)) 1 [] (.plain rfl) (dq _) rfl rfl (fun g11=>trivial) (fun g11=>ae dE rfl rfl),fun _=>by exact .guard ((decide (x_1.Owner = r0.Me)) && (!x_2)) 2 [27] (.plain rfl) (dq _) rfl rfl (fun g12=>⟨g12,trivial⟩) (fun g12=>ag aN rfl rfl rfl),fun _=>by exact .guard ((decide (x_1.Owner = r0.Me)) && (!x_2)) 4 [26,28] (.plain rfl) (dq _) rfl rfl (fun g13=>⟨g13,g13,trivial⟩) (fun g13=>az (fH 0 (gc e14 g13)).fp uZ rfl rfl),fun _=>by exact .guard ((decide (x_1.Owner = r0.Me)) && (!x_2)) 1 [] (.plain rfl) (dq _) rfl rfl (fun g15=>trivial) (fun g15=>ae dE rfl rfl),fun _=>by exact .guard ((decide (x_1.Owner = r0.Me)) && (!x_2)) 2 [30] (.plain rfl) (dq _) rfl rfl (fun g16=>⟨g16,trivial⟩) (fun g16=>ag aN rfl rfl rfl),fun _=>by exact .guard ((decide (x_1.Owner = r0.Me)) && (!x_2)) 2 [31] (.plain rfl) (dq _) rfl rfl (fun g17=>⟨g17,trivial⟩) (fun g17=>av bR rfl (List.length_map _)),fun _=>by exact .guard ((decide (x_1.Owner = r0.Me)) && (!x_2)) 4 [29,32] (.plain rfl) (dq _) rfl rfl (fun g18=>⟨g18,g18,g18,trivial⟩) (fun g18=>az (fa (gc e19 g18)) td rfl rfl),fun _=>.p (aT (fun e=>e) rfl rfl rfl rfl),fun _=>.p oa,trivial⟩ rfl rfl ?_
 refine ab.ret ?_
 obtain rfl:=Option.some.inj h
 refine Fin.ai ⟨[(4,_)],[]⟩ rfl (Fin.aM [.one (.bool (((decide (x_1.Owner = r0.Me)) && (!x_2)) && x_4))] (.inl rfl) rfl (.cons (.tmp rfl) .nil) ⟨rfl,rfl⟩)
def bH (F:Nat) (old0:List de) (bodies0:List Int) (states0:List de):Option (List de) :=
 (eF [] old0).bind fun x_1=>Option.bind (iter F (eU fun out_3 i_4=>if (decide (i_4 < (bodies0.length:Int))) = true then (Option.bind ((aV bodies0 i_4).bind fun x_7=>(aV out_3 x_7).bind fun x_8=>if (decide (x_8 = [])) = true then ((aV bodies0 i_4).bind fun x_9=>(aV states0 i_4).bind fun x_10=>(aV out_3 x_9).bind fun x_11=>some (out_3.set (x_9:Int).toNat x_10)) else (some out_3)) (fun out_6=>some (.inl (out_6,IntKind.i64.wrap (i_4 + 1))))) else (some (.inr out_3))) (x_1,0)) (fun out_2=>some out_2)
theorem fC (kr0:Nat) {F:Nat} {old0:List de} {bodies0:List Int} {states0:List de} {r:(List de)} (h:bH F old0 bodies0 states0 = some r):aA Try.prog [] 59 [] [.one (.sl 1 (old0.map eS)),.one (.sl 1 (bodies0.map eI)),.one (.sl 1 (states0.map eS))] (Is [(kr0,.row 9 1 (r.map eS))] (.b (.row kr0))):=by
 unfold bH at h
 refine aA.intro 37 Try.func59 Try.ntmps59 rfl (by simp) fun E=>?_
 show ab _ E ⟨37,[],[],[]⟩ _ ⟨[(0,.b (.one (.sl 1 (old0.map eS)))),(1,.b (.one (.sl 1 (bodies0.map eI)))),(2,.b (.one (.sl 1 (states0.map eS))))],[]⟩ _
 refine ab.seq (ab.aa ?_)
 refine Oc oa (af.ak ⟨[(0,.b (.one (.sl 1 (old0.map eS)))),(1,.b (.one (.sl 1 (bodies0.map eI)))),(2,.b (.one (.sl 1 (states0.map eS))))],[]⟩ rfl (ab.seq (ab.aa ?_)))
 refine Oc (iB (k:=101) cw rfl) (Oc om ?_)
 obtain ⟨x_1,e1,h⟩:=aP h
 refine Oc (gq cw (ec e1) (dZ e1) rfl rfl rfl (cf e1) rfl) (Oc oa ?_)
 refine af.ak ⟨[(1,_),(2,_),(7,.b (.row 101))],[(101,.row 9 1 (x_1.map eS))]⟩ rfl ?_
 obtain ⟨v2,h3,h⟩:=aP h
 refine ab.ca (v:=v2) (fun (out_2:List de)=>⟨[(7,.b (.row 101))],[(101,.row 9 1 (out_2.map eS))]⟩) (fun z=>z) ?_ ?_
 ·refine ab.seq (ab.aa ?_)
  refine Oc oa (af.ak ⟨[(1,_),(2,_),(7,_),(8,I 0)],[(101,_)]⟩ rfl (ab.block (ab.bZ h3 (eU fun (out_3:List de) (i_4:Int)=>⟨[(1,.b (.one (.sl 1 (bodies0.map eI)))),(2,.b (.one (.sl 1 (states0.map eS)))),(7,.b (.row 101)),(8,I i_4)],[(101,.row 9 1 (out_3.map eS))]⟩) [1,2,7,8] [101] rfl ?_)))
  rintro ⟨out_3,i_4⟩ o4 h5 hy6
  refine ab.seq (ab.seq (ab.aa ?_))
  refine Oc om (Oc om (Oc (av bR rfl (List.length_map _)) (Oc (aY rfl rfl) ?_)))
  refine af.ak ⟨[(1,_),(2,_),(7,_),(8,_),(15,B (decide (i_4 < (bodies0.length:Int))))],[(101,_)]⟩ rfl (ab.ite h5 rfl (fun _ h5=>?_) (fun _ h5=>?_))
  ·refine ab.skip (Fin.ai ⟨[(1,_),(2,_),(7,_),(8,_)],[(101,_)]⟩ rfl (Fin.then ?_))
   obtain ⟨v7,h8,h5⟩:=aP h5
   refine ab.ca (v:=v7) (fun (out_6:List de)=>⟨[(1,.b (.one (.sl 1 (bodies0.map eI)))),(2,.b (.one (.sl 1 (states0.map eS)))),(7,.b (.row 101)),(8,I i_4)],[(101,.row 9 1 (out_6.map eS))]⟩) (fun z=>z) ?_ ?_
   ·refine ab.block (ab.seq (ab.aa ?_))
    refine Oc om (Oc om (Oc om ?_))
    obtain ⟨x_7,e9,h8⟩:=aP h8
    refine Oc (an aQ (aL e9) (aB (e:=eI) e9) rfl rfl) (Oc (au aD rfl rfl) ?_)
    obtain ⟨x_8,e10,h8⟩:=aP h8
    refine Oc (bq cw (aL e10) (dy e10) rfl rfl rfl rfl) (Oc (cS (i:=(x_7:Int).toNat) (f:=0) fG rfl rfl rfl (aB (e:=eS) e10) rfl) (Oc (hX rfl rfl) ?_))
    refine af.ak ⟨[(1,_),(2,_),(7,_),(8,_),(25,B (decide (x_8 = [])))],[(101,_)]⟩ rfl (ab.ite h8 rfl (fun _ h8=>?_) (fun _ h8=>?_))
    ·refine ab.ai ⟨[(1,_),(2,_),(7,_),(8,_)],[(101,_)]⟩ rfl ?_
     obtain ⟨x_9,e11,h8⟩:=aP h8
     obtain ⟨x_10,e12,h8⟩:=aP h8
     obtain ⟨x_11,e13,h8⟩:=aP h8
     refine ab.fy mixed 10 [.b (.row 101),.b (.one (.sl 1 (bodies0.map eI))),I i_4,.b (.cx [.i x_9]),I x_9,.b (.one (.sl 1 (states0.map eS))),I i_4,.b (.cx [.str x_10]),.b (.one (.str x_10)),.b (.eQ 101 ((x_9:Int).toNat * 1))] [1,2,7,8] [101] (s':=⟨[(1,_),(2,_),(7,_),(8,_)],[(101,.row 9 1 ((out_3.set (x_9:Int).toNat x_10).map eS))]⟩) rfl ⟨fun _=>.p om,fun _=>.p om,fun _=>.p om,fun _=>.p (an aQ (aL e11) (aB (e:=eI) e11) rfl rfl),fun _=>.p (au aD rfl rfl),fun _=>.p om,fun _=>.p om,fun _=>.p (an cw (aL e12) (aB (e:=eS) e12) rfl rfl),fun _=>.p (au fG rfl rfl),fun _=>.p (bq cw (aL e13) (dy e13) rfl rfl rfl rfl),trivial⟩ ⟨_,by exact .p (fi (i:=(x_9:Int).toNat) fG rfl rfl rfl rfl (nD e13) (map_set _ _ _ _)),rfl⟩ rfl (Fin.ar ?_)
     exact Fin.join [1,2,7,8] [101] (out_3.set (x_9:Int).toNat x_10) (Option.some.inj h8) rfl
    ·refine ab.skip (Fin.ar ?_)
     exact Fin.join [1,2,7,8] [101] out_3 (Option.some.inj h8) rfl
   ·rintro out_6 hv
    subst v7
    refine ab.aa (Oc om (Oc (bh rfl rfl) (Oc oa ?_)))
    refine af.nil ?_
    exact Fin.bp [1,2,7,8] [101] (out_6,IntKind.i64.wrap (i_4 + 1)) (Option.some.inj h5) rfl
  ·refine ab.exit (Fin.aq ?_)
   obtain rfl:=hy6 _ (Option.some.inj h5).symm
   refine Fin.aq (Fin.aE ?_)
   exact Fin.join [7] [101] out_3 rfl rfl
 ·rintro out_2 hv
  subst v2
  refine ab.seq (ab.aa ?_)
  refine Oc om (Oc oa ?_)
  refine af.ak ⟨[(6,.b (.row 101))],[(101,_)]⟩ rfl (ab.ret ?_)
  obtain rfl:=Option.some.inj h
  refine Fin.ai ⟨[(6,_)],[(101,_)]⟩ rfl (Fin.dD 101 kr0 [.row 101] (.inl rfl) rfl (.cons (.tmp rfl) .nil) rfl rfl rfl rfl ⟨rfl,rfl⟩)
def cF (F:Nat) (r0:Round) (task0:Int) (states0:List de):Option Step :=
 bu ((decide (task0 < 0)) || (decide ((r0.Tasks.length:Int) ≤ task0))) fun x_1=>if x_1 = true then (some (⟨(⟨0,0,0,[],[],[],[],[],[],[]⟩:Round),[],5⟩:Step)) else ((aV r0.Tasks task0).bind fun x_2=>(aV r0.Done task0).bind fun x_3=>if x_3 = true then (some (⟨(⟨0,0,0,[],[],[],[],[],[],[]⟩:Round),[],6⟩:Step)) else ((bV F r0 task0).bind fun x_4=>if (!x_4) = true then (some (⟨(⟨0,0,0,[],[],[],[],[],[],[]⟩:Round),[],4⟩:Step)) else ((bS F states0 (x_2.Bodies.length:Int)).bind fun x_5=>if (!x_5) = true then (some (⟨(⟨0,0,0,[],[],[],[],[],[],[]⟩:Round),[],1⟩:Step)) else (Option.bind (mk? ([]:de) (r0.Home.length:Int) (r0.Home.length:Int)) (fun x_6=>(bH F x_6 x_2.Bodies states0).bind fun x_7=>(eF [] r0.Done).bind fun x_8=>(aV x_8 task0).bind fun x_9=>(cj F r0.Home x_2.Bodies r0.Me).bind fun x_10=>(eF [] r0.Results).bind fun x_11=>Option.bind (iter F (eU fun results_13 i_14=>if (decide (i_14 < (x_10.length:Int))) = true then ((aV x_10 i_14).bind fun x_16=>(aV x_10 i_14).bind fun x_17=>(aV x_7 x_17).bind fun x_18=>(aV results_13 x_16).bind fun x_19=>some (.inl (results_13.set (x_16:Int).toNat x_18,IntKind.i64.wrap (i_14 + 1)))) else (some (.inr results_13))) (x_11,0)) (fun results_12=>Option.bind (iter F (eU fun out_21 i_22=>if (decide (i_22 < (x_2.Helpers.length:Int))) = true then ((aV x_2.Helpers i_22).bind fun x_24=>(cj F r0.Home x_2.Bodies x_24).bind fun x_25=>(aV x_2.Helpers i_22).bind fun x_26=>(cb F x_7 x_25).bind fun x_27=>(eF out_21 [(⟨3,r0.Step,r0.Me,x_26,[],x_25,x_27⟩:aI)]).bind fun x_28=>some (.inl (x_28,IntKind.i64.wrap (i_22 + 1)))) else (some (.inr out_21))) ([],0)) (fun out_20=>bu (⟨r0.Me,r0.Regions,r0.Step,r0.Home,r0.Heard,r0.Sets,r0.States,r0.Tasks,x_8.set (task0:Int).toNat true,results_12⟩:Round) fun x_29=>some (⟨x_29,out_20,0⟩:Step))))))))
theorem lF {F:Nat} {r0:Round} {task0:Int} {states0:List de} {r:Step} (h:cF F r0 task0 states0 = some r):aA Try.prog [] 16 [] [.agg (ay r0),.one (.i task0),.one (.sl 1 (states0.map eS))] (Is [] (.b (.agg (gj r)))):=by
 unfold cF at h
 refine aA.intro 135 Try.func16 Try.ntmps16 rfl (by simp) fun E=>?_
 show ab _ E ⟨135,[],[],[]⟩ _ ⟨[(0,.b (.agg (ay r0))),(1,I task0),(2,.b (.one (.sl 1 (states0.map eS))))],[]⟩ _
 refine ab.seq (ab.aa ?_)
 refine Oc (fv (k:=101) rfl rfl) (Oc (cz (k:=102) mB rfl) ?_)
 refine af.ak ⟨[(1,I task0),(2,.b (.one (.sl 1 (states0.map eS)))),(3,Pt 101 0),(6,Pt 102 0)],[(101,.box 31 (ay r0)),(102,.box 37 [.i 0,.i 0,.i 0,.nil,.nil,.nil,.nil,.nil,.nil,.nil,.nil,.i 0])]⟩ rfl (ab.seq (ab.seq (ab.aa ?_)))
 refine Oc om (Oc (aY rfl rfl) (Oc om ?_))
 refine bF (!(decide (task0 < 0))) [] (fun g1=>trivial) (fun g1=>om) (bF (!(decide (task0 < 0))) [] (fun g2=>by exact trivial) (fun g2=>ae c9 rfl rfl) (bF (!(decide (task0 < 0))) [20] (fun g3=>by exact ⟨g3,trivial⟩) (fun g3=>ag ey rfl rfl rfl) (af.ai ⟨[(1,_),(2,_),(3,_),(6,_),(18,B (decide (task0 < 0))),(19,.opt (!(decide (task0 < 0))) (.one (.i task0))),(21,.opt (!(decide (task0 < 0))) (.one (.sl 3 (r0.Tasks.map ao))))],[(101,_),(102,_)]⟩ rfl (bF (!(decide (task0 < 0))) [21] (fun g4=>by exact ⟨g4,trivial⟩) (fun g4=>av kW rfl (List.length_map _)) (bF (!(decide (task0 < 0))) [19,22] (fun g5=>by exact ⟨g5,g5,trivial⟩) (fun g5=>gk rfl rfl) ?_)))))
 refine af.fQ h rfl (aF (fun e=>by first | (rw [e]; rfl) | (simp only at e; rw [e]; rfl)) rfl rfl rfl rfl) (fun x_1 h=>?_)
 refine af.ak ⟨[(1,_),(2,_),(3,_),(6,_),(24,B x_1)],[(101,_),(102,_)]⟩ rfl (ab.ite h rfl (fun _ h=>?_) (fun _ h=>?_))
 ·refine ab.seq (ab.aa ?_)
  refine Oc (bD.jH (.same (.same (.same (.same (.same (.same (.same (.same (.same (.same (.sl (size:=7) (by decide) (.same (.nil))))))))))))) (cc fM rfl rfl)) (Oc (aR cP rfl rfl rfl rfl (Nat.le_of_ble_eq_true rfl) rfl) ?_)
  refine af.ak ⟨[(6,_)],[(102,.box 37 [.i 0,.i 0,.i 0,.nil,.nil,.nil,.nil,.nil,.nil,.nil,.sl 7 ([].map ah),.i 5])]⟩ rfl (ab.ret (Fin.aw ?_))
  obtain rfl:=Option.some.inj h
  refine Fin.ai ⟨[(6,_)],[(102,_)]⟩ rfl (Fin.bE 102 3 1 rfl rfl (by decide) (Fin.bE 102 4 1 rfl rfl (by decide) (Fin.bE 102 5 1 rfl rfl (by decide) (Fin.bE 102 6 1 rfl rfl (by decide) (Fin.bE 102 7 3 rfl rfl (by decide) ?_)))))
  refine Fin.bE 102 8 1 rfl rfl (by decide) (Fin.bE 102 9 1 rfl rfl (by decide) (Fin.aM [.agg [.i 0,.i 0,.i 0,.sl 1 ([].map eI),.sl 1 ([].map eB),.sl 1 ([].map (eL 1 eI)),.sl 1 ([].map eS),.sl 3 ([].map ao),.sl 1 ([].map eB),.sl 1 ([].map eS),.sl 7 ([].map ah),.i 5]] (.inl rfl) rfl (.cons (.agg cP rfl rfl rfl rfl) .nil) ⟨rfl,rfl⟩))
 ·refine ab.skip (Fin.ai ⟨[(1,_),(2,_),(3,_),(6,_)],[(101,_),(102,_)]⟩ rfl (Fin.then (ab.seq (ab.aa ?_))))
  refine Oc (ae c9 rfl rfl) (Oc (ag ey rfl rfl rfl) (Oc om ?_))
  obtain ⟨x_2,e6,h⟩:=aP h
  refine Oc (an fF (aL e6) (aB (e:=ao) e6) rfl rfl) (Oc (fl fR rfl rfl rfl) (Oc (cz (k:=103) ke rfl) (Oc (aR fR rfl rfl rfl rfl (Nat.le_of_ble_eq_true rfl) rfl) ?_)))
  refine af.ak ⟨[(1,_),(2,_),(3,_),(6,_),(7,Pt 103 0)],[(101,_),(102,_),(103,.box 59 (ao x_2))]⟩ rfl (ab.seq (ab.seq (ab.aa ?_)))
  refine Oc (ae eG rfl rfl) (Oc (ag dd rfl rfl rfl) (Oc om ?_))
  obtain ⟨x_3,e7,h⟩:=aP h
  refine Oc (an dK (aL e7) (aB (e:=eB) e7) rfl rfl) (Oc (au gx rfl rfl) ?_)
  refine af.ak ⟨[(1,_),(2,_),(3,_),(6,_),(7,_),(35,B x_3)],[(101,_),(102,_),(103,_)]⟩ rfl (ab.ite h rfl (fun _ h=>?_) (fun _ h=>?_))
  ·refine ab.seq (ab.aa ?_)
   refine Oc (bD.jH (.same (.same (.same (.same (.same (.same (.same (.same (.same (.same (.sl (size:=7) (by decide) (.same (.nil))))))))))))) (cc fM rfl rfl)) (Oc (aR cP rfl rfl rfl rfl (Nat.le_of_ble_eq_true rfl) rfl) ?_)
   refine af.ak ⟨[(6,_)],[(102,.box 37 [.i 0,.i 0,.i 0,.nil,.nil,.nil,.nil,.nil,.nil,.nil,.sl 7 ([].map ah),.i 6])]⟩ rfl (ab.ret (Fin.aw ?_))
   obtain rfl:=Option.some.inj h
   refine Fin.ai ⟨[(6,_)],[(102,_)]⟩ rfl (Fin.bE 102 3 1 rfl rfl (by decide) (Fin.bE 102 4 1 rfl rfl (by decide) (Fin.bE 102 5 1 rfl rfl (by decide) (Fin.bE 102 6 1 rfl rfl (by decide) (Fin.bE 102 7 3 rfl rfl (by decide) ?_)))))
   refine Fin.bE 102 8 1 rfl rfl (by decide) (Fin.bE 102 9 1 rfl rfl (by decide) (Fin.aM [.agg [.i 0,.i 0,.i 0,.sl 1 ([].map eI),.sl 1 ([].map eB),.sl 1 ([].map (eL 1 eI)),.sl 1 ([].map eS),.sl 3 ([].map ao),.sl 1 ([].map eB),.sl 1 ([].map eS),.sl 7 ([].map ah),.i 6]] (.inl rfl) rfl (.cons (.agg cP rfl rfl rfl rfl) .nil) ⟨rfl,rfl⟩))
  ·refine ab.skip (Fin.ai ⟨[(1,_),(2,_),(3,_),(6,_),(7,_)],[(101,_),(102,_),(103,_)]⟩ rfl (Fin.then (ab.seq (ab.seq (ab.aa ?_)))))
   refine Oc (lp aU) (Oc om ?_)
   obtain ⟨x_4,e8,h⟩:=aP h
   refine Oc (az (iq e8) xX rfl rfl) (Oc (cL rfl) ?_)
   refine af.ak ⟨[(1,_),(2,_),(3,_),(6,_),(7,_),(40,B (!x_4))],[(101,_),(102,_),(103,_)]⟩ rfl (ab.ite h rfl (fun _ h=>?_) (fun _ h=>?_))
   ·refine ab.seq (ab.aa ?_)
    refine Oc (bD.jH (.same (.same (.same (.same (.same (.same (.same (.same (.same (.same (.sl (size:=7) (by decide) (.same (.nil))))))))))))) (cc fM rfl rfl)) (Oc (aR cP rfl rfl rfl rfl (Nat.le_of_ble_eq_true rfl) rfl) ?_)
    refine af.ak ⟨[(6,_)],[(102,.box 37 [.i 0,.i 0,.i 0,.nil,.nil,.nil,.nil,.nil,.nil,.nil,.sl 7 ([].map ah),.i 4])]⟩ rfl (ab.ret (Fin.aw ?_))
    obtain rfl:=Option.some.inj h
    refine Fin.ai ⟨[(6,_)],[(102,_)]⟩ rfl (Fin.bE 102 3 1 rfl rfl (by decide) (Fin.bE 102 4 1 rfl rfl (by decide) (Fin.bE 102 5 1 rfl rfl (by decide) (Fin.bE 102 6 1 rfl rfl (by decide) (Fin.bE 102 7 3 rfl rfl (by decide) ?_)))))
    refine Fin.bE 102 8 1 rfl rfl (by decide) (Fin.bE 102 9 1 rfl rfl (by decide) (Fin.aM [.agg [.i 0,.i 0,.i 0,.sl 1 ([].map eI),.sl 1 ([].map eB),.sl 1 ([].map (eL 1 eI)),.sl 1 ([].map eS),.sl 3 ([].map ao),.sl 1 ([].map eB),.sl 1 ([].map eS),.sl 7 ([].map ah),.i 4]] (.inl rfl) rfl (.cons (.agg cP rfl rfl rfl rfl) .nil) ⟨rfl,rfl⟩))
   ·refine ab.skip (Fin.ai ⟨[(1,_),(2,_),(3,_),(6,_),(7,_)],[(101,_),(102,_),(103,_)]⟩ rfl (Fin.then (ab.seq (ab.seq (ab.aa ?_)))))
    refine Oc om (Oc (ae dE rfl rfl) (Oc (ag aN rfl rfl rfl) (Oc (av bR rfl (List.length_map _)) ?_)))
    obtain ⟨x_5,e9,h⟩:=aP h
    refine Oc (az (fa e9) td rfl rfl) (Oc (cL rfl) ?_)
    refine af.ak ⟨[(1,_),(2,_),(3,_),(6,_),(7,_),(47,B (!x_5))],[(101,_),(102,_),(103,_)]⟩ rfl (ab.ite h rfl (fun _ h=>?_) (fun _ h=>?_))
    ·refine ab.seq (ab.aa ?_)
     refine Oc (bD.jH (.same (.same (.same (.same (.same (.same (.same (.same (.same (.same (.sl (size:=7) (by decide) (.same (.nil))))))))))))) (cc fM rfl rfl)) (Oc (aR cP rfl rfl rfl rfl (Nat.le_of_ble_eq_true rfl) rfl) ?_)
     refine af.ak ⟨[(6,_)],[(102,.box 37 [.i 0,.i 0,.i 0,.nil,.nil,.nil,.nil,.nil,.nil,.nil,.sl 7 ([].map ah),.i 1])]⟩ rfl (ab.ret (Fin.aw ?_))
     obtain rfl:=Option.some.inj h
     refine Fin.ai ⟨[(6,_)],[(102,_)]⟩ rfl (Fin.bE 102 3 1 rfl rfl (by decide) (Fin.bE 102 4 1 rfl rfl (by decide) (Fin.bE 102 5 1 rfl rfl (by decide) (Fin.bE 102 6 1 rfl rfl (by decide) (Fin.bE 102 7 3 rfl rfl (by decide) ?_)))))
     refine Fin.bE 102 8 1 rfl rfl (by decide) (Fin.bE 102 9 1 rfl rfl (by decide) (Fin.aM [.agg [.i 0,.i 0,.i 0,.sl 1 ([].map eI),.sl 1 ([].map eB),.sl 1 ([].map (eL 1 eI)),.sl 1 ([].map eS),.sl 3 ([].map ao),.sl 1 ([].map eB),.sl 1 ([].map eS),.sl 7 ([].map ah),.i 1]] (.inl rfl) rfl (.cons (.agg cP rfl rfl rfl rfl) .nil) ⟨rfl,rfl⟩))
    ·refine ab.skip (Fin.ai ⟨[(1,_),(2,_),(3,_),(6,_),(7,_)],[(101,_),(102,_),(103,_)]⟩ rfl (Fin.then (ab.seq ?_)))
     refine ab.ai ⟨[(1,_),(2,_),(3,_),(6,_),(7,_)],[(101,_),(102,_),(103,_)]⟩ rfl ?_
     obtain ⟨x_6,e10,h⟩:=aP h
     obtain ⟨x_7,e11,h⟩:=aP h
     refine ab.ff mixed [false,false,false,true,false,false,false,false,false] [Pt 101 3,.b (.one (.sl 1 (r0.Home.map eI))),I (r0.Home.length:Int),.b (.one (.sl 1 (x_6.map eS))),Pt 103 1,.b (.one (.sl 1 (x_2.Bodies.map eI))),.b (.one (.sl 1 (states0.map eS))),.b (.one (.sl 1 (x_7.map eS))),.b (.one (.sl 1 (x_7.map eS)))] [⟨[false,false,false,false,false,false,false,false,false],[(1,I task0),(2,.b (.one (.sl 1 (states0.map eS)))),(3,Pt 101 0),(6,Pt 102 0),(7,Pt 103 0)],[(101,.box 31 (ay r0)),(102,.box 37 [.i 0,.i 0,.i 0,.nil,.nil,.nil,.nil,.nil,.nil,.nil,.nil,.i 0]),(103,.box 59 (ao x_2))],[true,true,true,true,true,true,true,true,true],[],[7,8]⟩,⟨[false,false,false,true,false,false,false,false,false],[(1,I task0),(2,.b (.one (.sl 1 (states0.map eS)))),(3,Pt 101 0),(6,Pt 102 0),(7,Pt 103 0)],[(101,.box 31 (ay r0)),(102,.box 37 [.i 0,.i 0,.i 0,.nil,.nil,.nil,.nil,.nil,.nil,.nil,.nil,.i 0]),(103,.box 59 (ao x_2))],[true,true,true,true,true,true,true,true,true],[0,1,2,3],[]⟩] rfl (⟨by kernel_rfl,⟨⟨Pt 101 3,fun _=>rfl,fun _=>.p (by exact ae dF rfl rfl)⟩,⟨.b (.one (.sl 1 (r0.Home.map eI))),fun _=>rfl,fun _=>.p (by exact ag aN rfl rfl rfl)⟩,⟨I (r0.Home.length:Int),fun _=>rfl,fun _=>.p (by exact av bR rfl (List.length_map _))⟩,⟨_,[104],.b (.one (.sl 1 (x_6.map eS))),rfl,fun _=>rfl,rfl,rfl,fun _=>.jG [101,102,103] (by exact .p (by exact bD.qG 104 (cA (k:=104) (enc:=eS) cw e10 (by decide) (.cons .refl .nil) rfl rfl rfl) rfl)) (by exact rfl)⟩,⟨Pt 103 1,fun _=>rfl,fun _=>.p (by exact ae dE rfl rfl)⟩,⟨.b (.one (.sl 1 (x_2.Bodies.map eI))),fun _=>rfl,fun _=>.p (by exact ag aN rfl rfl rfl)⟩,⟨.b (.one (.sl 1 (states0.map eS))),fun _=>rfl,fun _=>.p (by exact ax rfl)⟩,trivial,trivial,trivial⟩,⟨by kernel_rfl,⟨trivial,trivial,trivial,trivial,⟨Pt 103 1,fun _=>rfl,fun _=>.p (by exact ae dE rfl rfl)⟩,⟨.b (.one (.sl 1 (x_2.Bodies.map eI))),fun _=>rfl,fun _=>.p (by exact ag aN rfl rfl rfl)⟩,⟨.b (.one (.sl 1 (states0.map eS))),fun _=>rfl,fun _=>.p (by exact ax rfl)⟩,⟨.b (.one (.sl 1 (x_7.map eS))),fun _=>rfl,fun _=>.p (by exact az (fC 0 e11).fp u3 rfl rfl)⟩,⟨.b (.one (.sl 1 (x_7.map eS))),fun _=>rfl,fun _=>.p (by exact dH rfl)⟩,trivial⟩,trivial⟩⟩) rfl rfl rfl [1,3,6,7,8] [101,102,103] (s':=⟨[(1,_),(3,_),(6,_),(7,_),(8,.b (.one (.sl 1 (x_7.map eS))))],[(101,_),(102,_),(103,_)]⟩) rfl (ab.seq (ab.aa ?_))
     refine Oc (iB (k:=106) dK rfl) (Oc (ae eG rfl rfl) (Oc (ag dd rfl rfl rfl) ?_))
     obtain ⟨x_8,e12,h⟩:=aP h
     refine Oc (gq dK (ec e12) (dZ e12) rfl rfl rfl (cf e12) rfl) (Oc oa ?_)
     refine af.ak ⟨[(1,_),(3,_),(6,_),(7,_),(8,_),(9,.b (.row 106))],[(101,_),(102,_),(103,_),(106,.row 4 1 (x_8.map eB))]⟩ rfl (ab.seq (ab.aa ?_))
     refine Oc om (Oc om ?_)
     obtain ⟨x_9,e13,h⟩:=aP h
     refine Oc (bq dK (aL e13) (dy e13) rfl rfl rfl rfl) (Oc (fi (i:=(task0:Int).toNat) gx rfl rfl rfl rfl (nD e13) (map_set _ _ _ _)) ?_)
     refine af.ak ⟨[(3,_),(6,_),(7,_),(8,_),(9,_)],[(101,_),(102,_),(103,_),(106,.row 4 1 ((x_8.set (task0:Int).toNat true).map eB))]⟩ rfl (ab.seq (ab.aa ?_))
     refine Oc om (Oc (ae eG rfl rfl) ?_)
     refine af.bg 106 rfl (Oc (ew dd rfl rfl rfl (Nat.le_of_ble_eq_true rfl) rfl) (af.ak ⟨[(3,Pt 101 0),(6,Pt 102 0),(7,Pt 103 0),(8,.b (.one (.sl 1 (x_7.map eS))))],[(101,.box 31 [.i r0.Me,.i r0.Regions,.i r0.Step,.sl 1 (r0.Home.map eI),.sl 1 (r0.Heard.map eB),.sl 1 (r0.Sets.map (eL 1 eI)),.sl 1 (r0.States.map eS),.sl 3 (r0.Tasks.map ao),.sl 1 ((x_8.set (task0:Int).toNat true).map eB),.sl 1 (r0.Results.map eS)]),(102,.box 37 [.i 0,.i 0,.i 0,.nil,.nil,.nil,.nil,.nil,.nil,.nil,.nil,.i 0]),(103,.box 59 (ao x_2))]⟩ rfl (ab.seq (ab.aa ?_))))
     refine Oc (ae dF rfl rfl) (Oc (ag aN rfl rfl rfl) (Oc (ae dE rfl rfl) (Oc (ag aN rfl rfl rfl) (Oc (ae cJ rfl rfl) (Oc (ag aD rfl rfl rfl) ?_)))))
     obtain ⟨x_10,e14,h⟩:=aP h
     refine Oc (bL (fD 107 e14) tc rfl trivial rfl rfl) (Oc oa ?_)
     refine af.ak ⟨[(3,_),(6,_),(7,_),(8,_),(10,.b (.row 107))],[(101,_),(102,_),(103,_),(107,.row 3 1 (x_10.map eI))]⟩ rfl (ab.seq (ab.aa ?_))
     refine Oc (iB (k:=108) cw rfl) (Oc (ae ep rfl rfl) (Oc (ag b6 rfl rfl rfl) ?_))
     obtain ⟨x_11,e15,h⟩:=aP h
     refine Oc (gq cw (ec e15) (dZ e15) rfl rfl rfl (cf e15) rfl) (Oc oa ?_)
     refine af.ak ⟨[(3,_),(6,_),(7,_),(8,_),(10,_),(11,.b (.row 108))],[(101,_),(102,_),(103,_),(107,_),(108,.row 9 1 (x_11.map eS))]⟩ rfl ?_
     obtain ⟨v16,h17,h⟩:=aP h
     refine ab.ca (v:=v16) (fun (results_12:List de)=>⟨[(3,Pt 101 0),(6,Pt 102 0),(7,Pt 103 0),(8,.b (.one (.sl 1 (x_7.map eS)))),(11,.b (.row 108))],[(101,.box 31 [.i r0.Me,.i r0.Regions,.i r0.Step,.sl 1 (r0.Home.map eI),.sl 1 (r0.Heard.map eB),.sl 1 (r0.Sets.map (eL 1 eI)),.sl 1 (r0.States.map eS),.sl 3 (r0.Tasks.map ao),.sl 1 ((x_8.set (task0:Int).toNat true).map eB),.sl 1 (r0.Results.map eS)]),(102,.box 37 [.i 0,.i 0,.i 0,.nil,.nil,.nil,.nil,.nil,.nil,.nil,.nil,.i 0]),(103,.box 59 (ao x_2)),(108,.row 9 1 (results_12.map eS))]⟩) (fun z=>z) ?_ ?_
     ·refine ab.seq (ab.aa ?_)
      refine Oc oa (af.ak ⟨[(3,_),(6,_),(7,_),(8,_),(10,_),(11,_),(12,I 0)],[(101,_),(102,_),(103,_),(107,_),(108,_)]⟩ rfl (ab.block (ab.bZ h17 (eU fun (results_13:List de) (i_14:Int)=>⟨[(3,Pt 101 0),(6,Pt 102 0),(7,Pt 103 0),(8,.b (.one (.sl 1 (x_7.map eS)))),(10,.b (.row 107)),(11,.b (.row 108)),(12,I i_14)],[(101,.box 31 [.i r0.Me,.i r0.Regions,.i r0.Step,.sl 1 (r0.Home.map eI),.sl 1 (r0.Heard.map eB),.sl 1 (r0.Sets.map (eL 1 eI)),.sl 1 (r0.States.map eS),.sl 3 (r0.Tasks.map ao),.sl 1 ((x_8.set (task0:Int).toNat true).map eB),.sl 1 (r0.Results.map eS)]),(102,.box 37 [.i 0,.i 0,.i 0,.nil,.nil,.nil,.nil,.nil,.nil,.nil,.nil,.i 0]),(103,.box 59 (ao x_2)),(107,.row 3 1 (x_10.map eI)),(108,.row 9 1 (results_13.map eS))]⟩) [3,6,7,8,10,11,12] [101,102,103,107,108] rfl ?_)))
      rintro ⟨results_13,i_14⟩ o18 h19 hy20
      refine ab.seq (ab.seq (ab.aa ?_))
      refine Oc om (Oc om (Oc (fN bR rfl rfl (List.length_map _)) (Oc (aY rfl rfl) ?_)))
      refine af.ak ⟨[(3,_),(6,_),(7,_),(8,_),(10,_),(11,_),(12,_),(80,B (decide (i_14 < (x_10.length:Int))))],[(101,_),(102,_),(103,_),(107,_),(108,_)]⟩ rfl (ab.ite h19 rfl (fun _ h19=>?_) (fun _ h19=>?_))
      ·refine ab.skip (Fin.ai ⟨[(3,_),(6,_),(7,_),(8,_),(10,_),(11,_),(12,_)],[(101,_),(102,_),(103,_),(107,_),(108,_)]⟩ rfl (Fin.then (ab.seq (ab.block ?_))))
       refine ab.ai ⟨[(3,_),(6,_),(7,_),(8,_),(10,_),(11,_),(12,_)],[(101,_),(102,_),(103,_),(107,_),(108,_)]⟩ rfl ?_
       obtain ⟨x_16,e21,h19⟩:=aP h19
       obtain ⟨x_17,e22,h19⟩:=aP h19
       obtain ⟨x_18,e23,h19⟩:=aP h19
       obtain ⟨x_19,e24,h19⟩:=aP h19
       refine ab.fy mixed 13 [.b (.row 108),.b (.row 107),I i_14,.b (.eQ 107 ((i_14:Int).toNat * 1)),I x_16,.b (.one (.sl 1 (x_7.map eS))),.b (.row 107),I i_14,.b (.eQ 107 ((i_14:Int).toNat * 1)),I x_17,.b (.cx [.str x_18]),.b (.one (.str x_18)),.b (.eQ 108 ((x_16:Int).toNat * 1))] [3,6,7,8,10,11,12] [101,102,103,107,108] (s':=⟨[(3,_),(6,_),(7,_),(8,_),(10,_),(11,_),(12,_)],[(101,_),(102,_),(103,_),(107,_),(108,.row 9 1 ((results_13.set (x_16:Int).toNat x_18).map eS))]⟩) rfl ⟨fun _=>.p om,fun _=>.p om,fun _=>.p om,fun _=>.p (bq aQ (aL e21) (dy e21) rfl rfl rfl rfl),fun _=>.p (cS (i:=(i_14:Int).toNat) (f:=0) aD rfl rfl rfl (aB (e:=eI) e21) rfl),fun _=>.p om,fun _=>.p om,fun _=>.p om,fun _=>.p (bq aQ (aL e22) (dy e22) rfl rfl rfl rfl),fun _=>.p (cS (i:=(i_14:Int).toNat) (f:=0) aD rfl rfl rfl (aB (e:=eI) e22) rfl),fun _=>.p (an cw (aL e23) (aB (e:=eS) e23) rfl rfl),fun _=>.p (au fG rfl rfl),fun _=>.p (bq cw (aL e24) (dy e24) rfl rfl rfl rfl),trivial⟩ ⟨_,by exact .p (fi (i:=(x_16:Int).toNat) fG rfl rfl rfl rfl (nD e24) (map_set _ _ _ _)),rfl⟩ rfl (Fin.ar (Fin.ai ⟨[(3,_),(6,_),(7,_),(8,_),(10,_),(11,_),(12,_)],[(101,_),(102,_),(103,_),(107,_),(108,_)]⟩ rfl (Fin.then (ab.aa ?_))))
       refine Oc om (Oc (bh rfl rfl) (Oc oa ?_))
       refine af.nil ?_
       exact Fin.bp [3,6,7,8,10,11,12] [101,102,103,107,108] (results_13.set (x_16:Int).toNat x_18,IntKind.i64.wrap (i_14 + 1)) (Option.some.inj h19) rfl
      ·refine ab.exit (Fin.aq ?_)
       obtain rfl:=hy20 _ (Option.some.inj h19).symm
       refine Fin.aq (Fin.aE ?_)
       exact Fin.join [3,6,7,8,11] [101,102,103,108] results_13 rfl rfl
     ·rintro results_12 hv
      subst v16
      refine ab.seq (ab.aa ?_)
      refine Oc om (Oc (ae ep rfl rfl) ?_)
      refine af.bg 108 rfl (Oc (ew b6 rfl rfl rfl (Nat.le_of_ble_eq_true rfl) rfl) (af.ak ⟨[(3,Pt 101 0),(6,Pt 102 0),(7,Pt 103 0),(8,.b (.one (.sl 1 (x_7.map eS))))],[(101,.box 31 [.i r0.Me,.i r0.Regions,.i r0.Step,.sl 1 (r0.Home.map eI),.sl 1 (r0.Heard.map eB),.sl 1 (r0.Sets.map (eL 1 eI)),.sl 1 (r0.States.map eS),.sl 3 (r0.Tasks.map ao),.sl 1 ((x_8.set (task0:Int).toNat true).map eB),.sl 1 (results_12.map eS)]),(102,.box 37 [.i 0,.i 0,.i 0,.nil,.nil,.nil,.nil,.nil,.nil,.nil,.nil,.i 0]),(103,.box 59 (ao x_2))]⟩ rfl (ab.seq (ab.aa ?_))))
      refine Oc oa (af.ak ⟨[(3,_),(6,_),(7,_),(8,_),(13,.b (.one (.nil)))],[(101,_),(102,_),(103,_)]⟩ rfl ?_)
      obtain ⟨v25,h26,h⟩:=aP h
      refine ab.ca (v:=v25) (fun (out_20:List aI)=>⟨[(3,Pt 101 0),(6,Pt 102 0),(13,.b (.row 112))],[(101,.box 31 [.i r0.Me,.i r0.Regions,.i r0.Step,.sl 1 (r0.Home.map eI),.sl 1 (r0.Heard.map eB),.sl 1 (r0.Sets.map (eL 1 eI)),.sl 1 (r0.States.map eS),.sl 3 (r0.Tasks.map ao),.sl 1 ((x_8.set (task0:Int).toNat true).map eB),.sl 1 (results_12.map eS)]),(102,.box 37 [.i 0,.i 0,.i 0,.nil,.nil,.nil,.nil,.nil,.nil,.nil,.nil,.i 0]),(112,.row 42 7 (out_20.map ah))]⟩) (fun z=>z) ?_ ?_
      ·refine ab.seq (ab.aa ?_)
       refine Oc oa (af.ak ⟨[(3,_),(6,_),(7,_),(8,_),(13,_),(14,I 0)],[(101,_),(102,_),(103,_)]⟩ rfl (ab.block (ab.dc 13 112 7 42 rfl (by decide) rfl (ab.bZ h26 (eU fun (out_21:List aI) (i_22:Int)=>⟨[(3,Pt 101 0),(6,Pt 102 0),(7,Pt 103 0),(8,.b (.one (.sl 1 (x_7.map eS)))),(13,.b (.row 112)),(14,I i_22)],[(101,.box 31 [.i r0.Me,.i r0.Regions,.i r0.Step,.sl 1 (r0.Home.map eI),.sl 1 (r0.Heard.map eB),.sl 1 (r0.Sets.map (eL 1 eI)),.sl 1 (r0.States.map eS),.sl 3 (r0.Tasks.map ao),.sl 1 ((x_8.set (task0:Int).toNat true).map eB),.sl 1 (results_12.map eS)]),(102,.box 37 [.i 0,.i 0,.i 0,.nil,.nil,.nil,.nil,.nil,.nil,.nil,.nil,.i 0]),(103,.box 59 (ao x_2)),(112,.row 42 7 (out_21.map ah))]⟩) [3,6,7,8,13,14] [101,102,103,112] rfl ?_))))
       rintro ⟨out_21,i_22⟩ o27 h28 hy29
       refine ab.seq (ab.seq (ab.aa ?_))
       refine Oc om (Oc (ae iy rfl rfl) (Oc (ag aN rfl rfl rfl) (Oc (av bR rfl (List.length_map _)) (Oc (aY rfl rfl) ?_))))
       refine af.ak ⟨[(3,_),(6,_),(7,_),(8,_),(13,_),(14,_),(102,B (decide (i_22 < (x_2.Helpers.length:Int))))],[(101,_),(102,_),(103,_),(112,_)]⟩ rfl (ab.ite h28 rfl (fun _ h28=>?_) (fun _ h28=>?_))
       ·refine ab.skip (Fin.ai ⟨[(3,_),(6,_),(7,_),(8,_),(13,_),(14,_)],[(101,_),(102,_),(103,_),(112,_)]⟩ rfl (Fin.then (ab.seq (ab.block (ab.seq ?_)))))
        refine ab.ai ⟨[(3,_),(6,_),(7,_),(8,_),(13,_),(14,_)],[(101,_),(102,_),(103,_),(112,_)]⟩ rfl ?_
        obtain ⟨x_24,e30,h28⟩:=aP h28
        obtain ⟨x_25,e31,h28⟩:=aP h28
        refine ab.eX mixed 11 [Pt 101 3,.b (.one (.sl 1 (r0.Home.map eI))),Pt 103 1,.b (.one (.sl 1 (x_2.Bodies.map eI))),Pt 103 2,.b (.one (.sl 1 (x_2.Helpers.map eI))),I i_22,.b (.cx [.i x_24]),I x_24,.b (.one (.sl 1 (x_25.map eI))),.b (.one (.sl 1 (x_25.map eI)))] [3,6,7,8,13,14,15] [101,102,103,112] (s':=⟨[(3,_),(6,_),(7,_),(8,_),(13,_),(14,_),(15,.b (.one (.sl 1 (x_25.map eI))))],[(101,_),(102,_),(103,_),(112,_)]⟩) rfl ⟨fun _=>.p (ae dF rfl rfl),fun _=>.p (ag aN rfl rfl rfl),fun _=>.p (ae dE rfl rfl),fun _=>.p (ag aN rfl rfl rfl),fun _=>.p (ae iy rfl rfl),fun _=>.p (ag aN rfl rfl rfl),fun _=>.p om,fun _=>.p (an aQ (aL e30) (aB (e:=eI) e30) rfl rfl),fun _=>.p (au aD rfl rfl),fun _=>.p (az (fD 0 e31).fp tc rfl rfl),fun _=>.p oa,trivial⟩ rfl rfl (ab.ai ⟨[(3,_),(6,_),(7,_),(8,_),(13,_),(14,_),(15,_)],[(101,_),(102,_),(103,_),(112,_)]⟩ rfl ?_)
        obtain ⟨x_26,e32,h28⟩:=aP h28
        obtain ⟨x_27,e33,h28⟩:=aP h28
        obtain ⟨x_28,e34,h28⟩:=aP h28
        refine ab.fy mixed 16 [.b (.row 112),Pt 101 2,I r0.Step,Pt 101 0,I r0.Me,Pt 103 2,.b (.one (.sl 1 (x_2.Helpers.map eI))),I i_22,.b (.cx [.i x_26]),I x_26,.b (.one (.sl 1 (x_25.map eI))),.b (.one (.sl 1 (x_7.map eS))),.b (.one (.sl 1 (x_25.map eI))),.b (.one (.sl 1 (x_27.map eS))),.b (.agg [.i 3,.i r0.Step,.i r0.Me,.i x_26,.sl 1 ([].map (eL 1 eI)),.sl 1 (x_25.map eI),.sl 1 (x_27.map eS)]),.b (.one (.sl 7 ([(⟨3,r0.Step,r0.Me,x_26,[],x_25,x_27⟩:aI)].map ah)))] [3,6,7,8,13,14] [101,102,103,112] (s':=⟨[(3,_),(6,_),(7,_),(8,_),(13,_),(14,_)],[(101,_),(102,_),(103,_),(112,.row 42 7 (x_28.map ah))]⟩) rfl ⟨fun _=>.p om,fun _=>.p (ae jL rfl rfl),fun _=>.p (ag aD rfl rfl rfl),fun _=>.p (ae cJ rfl rfl),fun _=>.p (ag aD rfl rfl rfl),fun _=>.p (ae iy rfl rfl),fun _=>.p (ag aN rfl rfl rfl),fun _=>.p om,fun _=>.p (an aQ (aL e32) (aB (e:=eI) e32) rfl rfl),fun _=>.p (au aD rfl rfl),fun _=>.p om,fun _=>.p om,fun _=>.p om,fun _=>.p (az (fH 0 e33).fp uZ rfl rfl),fun _=>.p (bD.jH (.same (.same (.same (.same (.sl (size:=1) (by decide) (.same (.same (.nil)))))))) (cc kP rfl rfl)),fun _=>.p (cg (es:=[(⟨3,r0.Step,r0.Me,x_26,[],x_25,x_27⟩:aI)].map ah) iL rfl rfl (bc fun _=>rfl) rfl (by decide) (by decide)),trivial⟩ ⟨_,by exact .p (gq iL (ec e34) (dZ e34) rfl rfl rfl (cf e34) rfl),⟨_,by exact .p oa,rfl⟩⟩ rfl (Fin.ar (Fin.ai ⟨[(3,_),(6,_),(7,_),(8,_),(13,_),(14,_)],[(101,_),(102,_),(103,_),(112,_)]⟩ rfl (Fin.then (ab.aa ?_))))
        refine Oc om (Oc (bh rfl rfl) (Oc oa ?_))
        refine af.nil ?_
        exact Fin.bp [3,6,7,8,13,14] [101,102,103,112] (x_28,IntKind.i64.wrap (i_22 + 1)) (Option.some.inj h28) rfl
       ·refine ab.exit (Fin.aq ?_)
        obtain rfl:=hy29 _ (Option.some.inj h28).symm
        refine Fin.aq (Fin.aE ?_)
        exact Fin.join [3,6,13] [101,102,112] out_21 rfl rfl
      ·rintro out_20 hv
       subst v25
       refine ab.seq (ab.aa ?_)
       refine af.rm ay h rfl (lp aU) (fun x_29 h=>?_)
       refine Oc om (af.bg 112 rfl (Oc (cc fM rfl rfl) (Oc (aR cP rfl rfl rfl rfl (Nat.le_of_ble_eq_true rfl) rfl) ?_)))
       refine af.ak ⟨[(6,Pt 102 0)],[(102,.box 37 (ay x_29 ++ ([.sl 7 (out_20.map ah),.i 0])))]⟩ rfl (ab.ret ?_)
       obtain rfl:=Option.some.inj h
       refine Fin.ai ⟨[(6,_)],[(102,_)]⟩ rfl (Fin.aM [.agg (ay x_29 ++ ([.sl 7 (out_20.map ah),.i 0]))] (.inl rfl) rfl (.cons (.agg cP rfl rfl rfl rfl) .nil) ⟨rfl,rfl⟩)
def bK (F:Nat) (heard0:List Bool):Option Bool :=
 Option.bind (iter F (fun i_1=>if (decide (i_1 < (heard0.length:Int))) = true then ((aV heard0 i_1).bind fun x_2=>if (!x_2) = true then (some (.inr (.inr false))) else (some (.inl (IntKind.i64.wrap (i_1 + 1))))) else (some (.inr (.inl ())))) 0) (bG (fun _=>some true) (fun y=>some y))
theorem fY {F:Nat} {heard0:List Bool} {r:Bool} (h:bK F heard0 = some r):aA Try.prog [] 65 [] [.one (.sl 1 (heard0.map eB))] (Is [] (.b (.one (.bool r)))):=by
 unfold bK at h
 refine aA.intro 15 Try.func65 Try.ntmps65 rfl (by simp) fun E=>?_
 show ab _ E ⟨15,[],[],[]⟩ _ ⟨[(0,.b (.one (.sl 1 (heard0.map eB))))],[]⟩ _
 refine ab.seq (ab.aa ?_)
 refine Oc oa (af.ak ⟨[(0,.b (.one (.sl 1 (heard0.map eB))))],[]⟩ rfl ?_)
 obtain ⟨v1,h2,h⟩:=aP h
 refine ab.ca (v:=v1) (fun (_:Unit)=>⟨[],[]⟩) (fun z=>.inl z) ?_ ?_
 ·refine ab.seq (ab.aa ?_)
  refine Oc oa (af.ak ⟨[(0,_),(3,I 0)],[]⟩ rfl (ab.block (ab.bZ h2 (fun (i_1:Int)=>⟨[(0,.b (.one (.sl 1 (heard0.map eB)))),(3,I i_1)],[]⟩) [0,3] [] rfl ?_)))
  rintro i_1 o3 h4 hy5
  refine ab.seq (ab.seq (ab.aa ?_))
  refine Oc om (Oc om (Oc (av sj rfl (List.length_map _)) (Oc (aY rfl rfl) ?_)))
  refine af.ak ⟨[(0,_),(3,_),(7,B (decide (i_1 < (heard0.length:Int))))],[]⟩ rfl (ab.ite h4 rfl (fun _ h4=>?_) (fun _ h4=>?_))
  ·refine ab.skip (Fin.ai ⟨[(0,_),(3,_)],[]⟩ rfl (Fin.then (ab.seq (ab.block (ab.seq (ab.aa ?_))))))
   refine Oc om (Oc om ?_)
   obtain ⟨x_2,e6,h4⟩:=aP h4
   refine Oc (an dK (aL e6) (aB (e:=eB) e6) rfl rfl) (Oc (au gx rfl rfl) (Oc (cL rfl) ?_))
   refine af.ak ⟨[(0,_),(3,_),(14,B (!x_2))],[]⟩ rfl (ab.ite h4 rfl (fun _ h4=>?_) (fun _ h4=>?_))
   ·refine ab.seq (ab.aa ?_)
    refine Oc oa (af.ak ⟨[(2,B false)],[]⟩ rfl (ab.ret (Fin.aJ (Fin.aw ?_))))
    obtain rfl:=hy5 _ (Option.some.inj h4).symm
    refine Fin.aw (Fin.aJ (Fin.aw ?_))
    obtain rfl:=Option.some.inj h
    refine Fin.ai ⟨[(2,_)],[]⟩ rfl (Fin.aM [.one (.bool false)] (.inl rfl) rfl (.cons (.tmp rfl) .nil) ⟨rfl,rfl⟩)
   ·refine ab.skip (Fin.ar (Fin.ai ⟨[(0,_),(3,_)],[]⟩ rfl (Fin.then (ab.aa ?_))))
    refine Oc om (Oc (bh rfl rfl) (Oc oa ?_))
    refine af.nil ?_
    exact Fin.bp [0,3] [] (IntKind.i64.wrap (i_1 + 1)) (Option.some.inj h4) rfl
  ·refine ab.exit (Fin.aq ?_)
   obtain rfl:=hy5 _ (Option.some.inj h4).symm
   refine Fin.aq (Fin.aE ?_)
   exact Fin.join [] [] () rfl rfl
 ·rintro _ hv
  subst v1
  refine ab.seq (ab.aa ?_)
  refine Oc oa (af.ak ⟨[(2,B true)],[]⟩ rfl (ab.ret ?_))
  obtain rfl:=Option.some.inj h
  refine Fin.ai ⟨[(2,_)],[]⟩ rfl (Fin.aM [.one (.bool true)] (.inl rfl) rfl (.cons (.tmp rfl) .nil) ⟨rfl,rfl⟩)
def ck (F:Nat) (home0:List Int) (l0:List Int) (region0:Int):Option Bool :=
 (bO F home0 l0).bind fun x_1=>(aK x_1 (cj F home0 l0 region0)).bind fun x_2=>some (x_1 && (decide ((x_2.length:Int) = (l0.length:Int))))
theorem iS {F:Nat} {home0:List Int} {l0:List Int} {region0:Int} {r:Bool} (h:ck F home0 l0 region0 = some r):aA Try.prog [] 66 [] [.one (.sl 1 (home0.map eI)),.one (.sl 1 (l0.map eI)),.one (.i region0)] (Is [] (.b (.one (.bool r)))):=by
 unfold ck at h
 refine aA.intro 20 Try.func66 Try.ntmps66 rfl (by simp) fun E=>?_
 show ab _ E ⟨20,[],[],[]⟩ _ ⟨[(0,.b (.one (.sl 1 (home0.map eI)))),(1,.b (.one (.sl 1 (l0.map eI)))),(2,I region0)],[]⟩ _
 refine ab.seq (ab.aa ?_)
 refine Oc oa (af.ak ⟨[(0,.b (.one (.sl 1 (home0.map eI)))),(1,.b (.one (.sl 1 (l0.map eI)))),(2,I region0)],[]⟩ rfl (ab.seq (ab.aa ?_)))
 refine Oc om (Oc om ?_)
 obtain ⟨x_1,e1,h⟩:=aP h
 refine Oc (az (iH e1) xV rfl rfl) (Oc om ?_)
 refine dt x_1 [] (fun g2=>trivial) (fun g2=>om) (af.ai ⟨[(1,_),(2,_),(10,B x_1),(11,.opt x_1 (.one (.sl 1 (home0.map eI))))],[]⟩ rfl (dt x_1 [] (fun g3=>by exact trivial) (fun g3=>om) (dt x_1 [] (fun g4=>by exact trivial) (fun g4=>om) ?_)))
 obtain ⟨x_2,e6,h⟩:=aP h
 refine dt x_1 [11,12,13] (fun g5=>⟨g5,g5,g5,trivial⟩) (fun g5=>az (fD 0 (gc e6 g5)).fp tc rfl rfl) (dt x_1 [14] (fun g7=>⟨g7,trivial⟩) (fun g7=>av bR rfl (List.length_map _)) (dt x_1 [] (fun g8=>trivial) (fun g8=>om) (af.ai ⟨[(10,_),(15,.opt x_1 (.one (.i (x_2.length:Int)))),(16,.opt x_1 (.one (.sl 1 (l0.map eI))))],[]⟩ rfl (dt x_1 [16] (fun g9=>by exact ⟨g9,trivial⟩) (fun g9=>av bR rfl (List.length_map _)) (dt x_1 [15,17] (fun g10=>by exact ⟨g10,g10,trivial⟩) (fun g10=>di rfl rfl) ?_)))))
 refine Oc (aT (fun e=>e) rfl rfl rfl rfl) (Oc oa ?_)
 refine af.ak ⟨[(6,B (x_1 && (decide ((x_2.length:Int) = (l0.length:Int)))))],[]⟩ rfl (ab.ret ?_)
 obtain rfl:=Option.some.inj h
 refine Fin.ai ⟨[(6,_)],[]⟩ rfl (Fin.aM [.one (.bool (x_1 && (decide ((x_2.length:Int) = (l0.length:Int)))))] (.inl rfl) rfl (.cons (.tmp rfl) .nil) ⟨rfl,rfl⟩)
def cD (F:Nat) (l0:List Task) (bodies0:List Int) (region0:Int):Option Bool :=
 Option.bind (iter F (fun i_1=>if (decide (i_1 < (bodies0.length:Int))) = true then (Option.bind (Option.bind (iter F (eU fun is_3 k_4=>if (decide (k_4 < (l0.length:Int))) = true then ((aK (!is_3) (aV l0 k_4)).bind fun x_6=>(aK ((!is_3) && (decide (x_6.Owner = region0))) (aV l0 k_4)).bind fun x_7=>(aK ((!is_3) && (decide (x_6.Owner = region0))) (aV bodies0 i_1)).bind fun x_8=>(aK ((!is_3) && (decide (x_6.Owner = region0))) (ct F x_7.Bodies x_8)).bind fun x_9=>some (.inl (is_3 || ((decide (x_6.Owner = region0)) && x_9),IntKind.i64.wrap (k_4 + 1)))) else (some (.inr is_3))) (false,0)) (fun is_2=>if (!is_2) = true then (some (.inr false)) else (some (.inl ())))) (bG (fun _=>some (.inl (IntKind.i64.wrap (i_1 + 1)))) (fun y=>some (.inr (.inr y))))) else (some (.inr (.inl ())))) 0) (bG (fun _=>some true) (fun y=>some y))
theorem lB {F:Nat} {l0:List Task} {bodies0:List Int} {region0:Int} {r:Bool} (h:cD F l0 bodies0 region0 = some r):aA Try.prog [] 67 [] [.one (.sl 3 (l0.map ao)),.one (.sl 1 (bodies0.map eI)),.one (.i region0)] (Is [] (.b (.one (.bool r)))):=by
 unfold cD at h
 refine aA.intro 46 Try.func67 Try.ntmps67 rfl (by simp) fun E=>?_
 show ab _ E ⟨46,[],[],[]⟩ _ ⟨[(0,.b (.one (.sl 3 (l0.map ao)))),(1,.b (.one (.sl 1 (bodies0.map eI)))),(2,I region0)],[]⟩ _
 refine ab.seq (ab.aa ?_)
 refine Oc oa (af.ak ⟨[(0,.b (.one (.sl 3 (l0.map ao)))),(1,.b (.one (.sl 1 (bodies0.map eI)))),(2,I region0)],[]⟩ rfl ?_)
 obtain ⟨v1,h2,h⟩:=aP h
 refine ab.ca (v:=v1) (fun (_:Unit)=>⟨[],[]⟩) (fun z=>.inl z) ?_ ?_
 ·refine ab.seq (ab.aa ?_)
  refine Oc oa (af.ak ⟨[(0,_),(1,_),(2,_),(7,I 0)],[]⟩ rfl (ab.block (ab.bZ h2 (fun (i_1:Int)=>⟨[(0,.b (.one (.sl 3 (l0.map ao)))),(1,.b (.one (.sl 1 (bodies0.map eI)))),(2,I region0),(7,I i_1)],[]⟩) [0,1,2,7] [] rfl ?_)))
  rintro i_1 o3 h4 hy5
  refine ab.seq (ab.seq (ab.aa ?_))
  refine Oc om (Oc om (Oc (av bR rfl (List.length_map _)) (Oc (aY rfl rfl) ?_)))
  refine af.ak ⟨[(0,_),(1,_),(2,_),(7,_),(13,B (decide (i_1 < (bodies0.length:Int))))],[]⟩ rfl (ab.ite h4 rfl (fun _ h4=>?_) (fun _ h4=>?_))
  ·refine ab.skip (Fin.ai ⟨[(0,_),(1,_),(2,_),(7,_)],[]⟩ rfl (Fin.then ?_))
   obtain ⟨v6,h7,h4⟩:=aP h4
   refine ab.ca (v:=v6) (fun (_:Unit)=>⟨[(0,.b (.one (.sl 3 (l0.map ao)))),(1,.b (.one (.sl 1 (bodies0.map eI)))),(2,I region0),(7,I i_1)],[]⟩) (fun z=>.inl z) ?_ ?_
   ·refine ab.block (ab.seq (ab.aa ?_))
    refine Oc oa (af.ak ⟨[(0,_),(1,_),(2,_),(7,_),(8,B false)],[]⟩ rfl ?_)
    obtain ⟨v8,h9,h7⟩:=aP h7
    refine ab.ca (v:=v8) (fun (is_2:Bool)=>⟨[(0,.b (.one (.sl 3 (l0.map ao)))),(1,.b (.one (.sl 1 (bodies0.map eI)))),(2,I region0),(7,I i_1),(8,B is_2)],[]⟩) (fun z=>z) ?_ ?_
    ·refine ab.seq (ab.aa ?_)
     refine Oc oa (af.ak ⟨[(0,_),(1,_),(2,_),(7,_),(8,_),(9,I 0)],[]⟩ rfl (ab.block (ab.bZ h9 (eU fun (is_3:Bool) (k_4:Int)=>⟨[(0,.b (.one (.sl 3 (l0.map ao)))),(1,.b (.one (.sl 1 (bodies0.map eI)))),(2,I region0),(7,I i_1),(8,B is_3),(9,I k_4)],[]⟩) [0,1,2,7,8,9] [] rfl ?_)))
     rintro ⟨is_3,k_4⟩ o10 h11 hy12
     refine ab.seq (ab.seq (ab.aa ?_))
     refine Oc om (Oc om (Oc (av kW rfl (List.length_map _)) (Oc (aY rfl rfl) ?_)))
     refine af.ak ⟨[(0,_),(1,_),(2,_),(7,_),(8,_),(9,_),(19,B (decide (k_4 < (l0.length:Int))))],[]⟩ rfl (ab.ite h11 rfl (fun _ h11=>?_) (fun _ h11=>?_))
     ·refine ab.skip (Fin.ai ⟨[(0,_),(1,_),(2,_),(7,_),(8,_),(9,_)],[]⟩ rfl (Fin.then (ab.seq (ab.block ?_))))
      refine ab.ai ⟨[(0,_),(1,_),(2,_),(7,_),(8,_),(9,_)],[]⟩ rfl ?_
      obtain ⟨x_6,e16,h11⟩:=aP h11
      obtain ⟨x_7,e25,h11⟩:=aP h11
      obtain ⟨x_8,e31,h11⟩:=aP h11
      obtain ⟨x_9,e34,h11⟩:=aP h11
      refine ab.fy mixed 22 [B is_3,B is_3,.opt (!is_3) (.one (.sl 3 (l0.map ao))),.opt (!is_3) (.one (.i k_4)),.opt (!is_3) (.cx (ao x_6)),.opt (!is_3) (.cx (ao x_6)),.opt (!is_3) (.one (.i x_6.Owner)),.opt (!is_3) (.one (.i region0)),.opt (!is_3) (.one (.bool (decide (x_6.Owner = region0)))),.opt (!is_3) (.one (.bool (decide (x_6.Owner = region0)))),.opt ((!is_3) && (decide (x_6.Owner = region0))) (.one (.sl 3 (l0.map ao))),.opt ((!is_3) && (decide (x_6.Owner = region0))) (.one (.i k_4)),.opt ((!is_3) && (decide (x_6.Owner = region0))) (.cx (ao x_7)),.opt ((!is_3) && (decide (x_6.Owner = region0))) (.cx [.sl 1 (x_7.Bodies.map eI),.sl 1 (x_7.Helpers.map eI)]),.opt ((!is_3) && (decide (x_6.Owner = region0))) (.one (.sl 1 (x_7.Bodies.map eI))),.opt ((!is_3) && (decide (x_6.Owner = region0))) (.one (.sl 1 (bodies0.map eI))),.opt ((!is_3) && (decide (x_6.Owner = region0))) (.one (.i i_1)),.opt ((!is_3) && (decide (x_6.Owner = region0))) (.cx [.i x_8]),.opt ((!is_3) && (decide (x_6.Owner = region0))) (.one (.i x_8)),.opt ((!is_3) && (decide (x_6.Owner = region0))) (.one (.bool x_9)),.opt (!is_3) (.one (.bool ((decide (x_6.Owner = region0)) && x_9))),B (is_3 || ((decide (x_6.Owner = region0)) && x_9))] [0,1,2,7,8,9] [] (s':=⟨[(0,_),(1,_),(2,_),(7,_),(8,B (is_3 || ((decide (x_6.Owner = region0)) && x_9))),(9,_)],[]⟩) rfl ⟨fun _=>.p om,fun _=>.p om,fun _=>by exact .guard (!is_3) 1 [] (.plain rfl) (dQ _) rfl rfl (fun g13=>trivial) (fun g13=>om),fun _=>by exact .guard (!is_3) 1 [] (.plain rfl) (dQ _) rfl rfl (fun g14=>trivial) (fun g14=>om),fun _=>by exact .guard (!is_3) 3 [24,25] (.plain rfl) (dQ _) rfl rfl (fun g15=>⟨g15,g15,trivial⟩) (fun g15=>an fF (aL (gc e16 g15)) (aB (e:=ao) (gc e16 g15)) rfl rfl),fun _=>by exact .guard (!is_3) 2 [26] (.plain rfl) (dQ _) rfl rfl (fun g17=>⟨g17,trivial⟩) (fun g17=>cH fJ rfl rfl),fun _=>by exact .guard (!is_3) 2 [27] (.plain rfl) (dQ _) rfl rfl (fun g18=>⟨g18,trivial⟩) (fun g18=>au aD rfl rfl),fun _=>by exact .guard (!is_3) 1 [] (.plain rfl) (dQ _) rfl rfl (fun g19=>trivial) (fun g19=>om),fun _=>by exact .guard (!is_3) 3 [28,29] (.plain rfl) (dQ _) rfl rfl (fun g20=>⟨g20,g20,trivial⟩) (fun g20=>di rfl rfl),fun _=>by exact .guard (!is_3) 3 [30] (.plain rfl) (dQ _) rfl rfl (fun g21=>⟨g21,trivial⟩) (fun g21=>om),fun _=>by exact .guard ((!is_3) && (decide (x_6.Owner = region0))) 1 [] (.under rfl) (oN _ _) rfl rfl (fun g22=>trivial) (fun g22=>om),fun _=>by exact .guard ((!is_3) && (decide (x_6.Owner = region0))) 1 [] (.under rfl) (oN _ _) rfl rfl (fun g23=>trivial) (fun g23=>om),fun _=>by exact .guard ((!is_3) && (decide (x_6.Owner = region0))) 3 [32,33] (.under rfl) (oN _ _) rfl rfl (fun g24=>⟨g24,g24,trivial⟩) (fun g24=>an fF (aL (gc e25 g24)) (aB (e:=ao) (gc e25 g24)) rfl rfl),fun _=>by exact .guard ((!is_3) && (decide (x_6.Owner = region0))) 2 [34] (.under rfl) (oN _ _) rfl rfl (fun g26=>⟨g26,trivial⟩) (fun g26=>cH dE rfl rfl),fun _=>by exact .guard ((!is_3) && (decide (x_6.Owner = region0))) 2 [35] (.under rfl) (oN _ _) rfl rfl (fun g27=>⟨g27,trivial⟩) (fun g27=>au aN rfl rfl),fun _=>by exact .guard ((!is_3) && (decide (x_6.Owner = region0))) 1 [] (.under rfl) (oN _ _) rfl rfl (fun g28=>trivial) (fun g28=>om),fun _=>by exact .guard ((!is_3) && (decide (x_6.Owner = region0))) 1 [] (.under rfl) (oN _ _) rfl rfl (fun g29=>trivial) (fun g29=>om),fun _=>by exact .guard ((!is_3) && (decide (x_6.Owner = region0))) 3 [37,38] (.under rfl) (oN _ _) rfl rfl (fun g30=>⟨g30,g30,trivial⟩) (fun g30=>an aQ (aL (gc e31 g30)) (aB (e:=eI) (gc e31 g30)) rfl rfl),fun _=>by exact .guard ((!is_3) && (decide (x_6.Owner = region0))) 2 [39] (.under rfl) (oN _ _) rfl rfl (fun g32=>⟨g32,trivial⟩) (fun g32=>au aD rfl rfl),fun _=>by exact .guard ((!is_3) && (decide (x_6.Owner = region0))) 4 [36,40] (.under rfl) (oN _ _) rfl rfl (fun g33=>⟨g33,g33,trivial⟩) (fun g33=>az (gC (gc e34 g33)) vc rfl rfl),fun _=>by exact .guard (!is_3) 3 [31] (.plain rfl) (dQ _) rfl rfl (fun g35=>⟨g35,trivial⟩) (fun g35=>aT (fun e=>by rw [g35,e]; rfl) rfl rfl rfl rfl),fun _=>.p (aF (fun e=>by first | (rw [e]; rfl) | (simp only at e; rw [e]; rfl)) rfl rfl rfl rfl),trivial⟩ ⟨_,by exact .p oa,rfl⟩ rfl ?_
      refine Fin.ar (Fin.ai ⟨[(0,_),(1,_),(2,_),(7,_),(8,_),(9,_)],[]⟩ rfl (Fin.then (ab.aa ?_)))
      refine Oc om (Oc (bh rfl rfl) (Oc oa ?_))
      refine af.nil ?_
      exact Fin.bp [0,1,2,7,8,9] [] (is_3 || ((decide (x_6.Owner = region0)) && x_9),IntKind.i64.wrap (k_4 + 1)) (Option.some.inj h11) rfl
     ·refine ab.exit (Fin.aq ?_)
      obtain rfl:=hy12 _ (Option.some.inj h11).symm
      refine Fin.aq (Fin.aE ?_)
      exact Fin.join [0,1,2,7,8] [] is_3 rfl rfl
    ·rintro is_2 hv
     subst v8
     refine ab.seq (ab.aa ?_)
     refine Oc om (Oc (cL rfl) ?_)
     refine af.ak ⟨[(0,_),(1,_),(2,_),(7,_),(45,B (!is_2))],[]⟩ rfl (ab.ite h7 rfl (fun _ h7=>?_) (fun _ h7=>?_))
     ·refine ab.seq (ab.aa ?_)
      refine Oc oa (af.ak ⟨[(6,B false)],[]⟩ rfl (ab.ret (Fin.aJ ?_)))
      obtain rfl:=Option.some.inj h7
      refine Fin.aw ?_
      obtain rfl:=hy5 _ (Option.some.inj h4).symm
      refine Fin.aw (Fin.aJ (Fin.aw ?_))
      obtain rfl:=Option.some.inj h
      refine Fin.ai ⟨[(6,_)],[]⟩ rfl (Fin.aM [.one (.bool false)] (.inl rfl) rfl (.cons (.tmp rfl) .nil) ⟨rfl,rfl⟩)
     ·refine ab.skip (Fin.ar ?_)
      exact Fin.join [0,1,2,7] [] () (Option.some.inj h7) rfl
   ·rintro _ hv
    subst v6
    refine ab.aa (Oc om (Oc (bh rfl rfl) (Oc oa ?_)))
    refine af.nil ?_
    exact Fin.bp [0,1,2,7] [] (IntKind.i64.wrap (i_1 + 1)) (Option.some.inj h4) rfl
  ·refine ab.exit (Fin.aq ?_)
   obtain rfl:=hy5 _ (Option.some.inj h4).symm
   refine Fin.aq (Fin.aE ?_)
   exact Fin.join [] [] () rfl rfl
 ·rintro _ hv
  subst v1
  refine ab.seq (ab.aa ?_)
  refine Oc oa (af.ak ⟨[(6,B true)],[]⟩ rfl (ab.ret ?_))
  obtain rfl:=Option.some.inj h
  refine Fin.ai ⟨[(6,_)],[]⟩ rfl (Fin.aM [.one (.bool true)] (.inl rfl) rfl (.cons (.tmp rfl) .nil) ⟨rfl,rfl⟩)
def c6 (F:Nat) (r0:Round) (l0:aI):Option Step :=
 bu (((decide (l0.To ≠ r0.Me)) || (decide (l0.Step ≠ r0.Step))) || (decide (l0.From = r0.Me))) fun x_1=>bu ((x_1 || (decide (l0.From < 0))) || (decide (r0.Regions ≤ l0.From))) fun x_2=>if x_2 = true then (some (⟨r0,[],0⟩:Step)) else (Option.bind (if (decide (l0.Kind = 1)) = true then ((aV r0.Heard l0.From).bind fun x_4=>bu ((x_4 || (decide (0 < (l0.Bodies.length:Int)))) || (decide (0 < (l0.States.length:Int)))) fun x_5=>(aK (!x_5) (bN F r0.Home l0.Sets)).bind fun x_6=>if (x_5 || (!x_6)) = true then (some (.inr (⟨r0,[],0⟩:Step))) else ((eF [] r0.Heard).bind fun x_7=>(aV x_7 l0.From).bind fun x_8=>(eF [] r0.Sets).bind fun x_9=>(eF x_9 l0.Sets).bind fun x_10=>(bd F x_10).bind fun x_11=>(bK F (x_7.set (l0.From:Int).toNat true)).bind fun x_12=>if x_12 = true then (bu (⟨r0.Me,r0.Regions,r0.Step,r0.Home,x_7.set (l0.From:Int).toNat true,x_11,r0.States,r0.Tasks,r0.Done,r0.Results⟩:Round) fun x_13=>(cC F x_13).bind fun x_14=>some (.inr x_14)) else (some (.inl (⟨r0.Me,r0.Regions,r0.Step,r0.Home,x_7.set (l0.From:Int).toNat true,x_11,r0.States,r0.Tasks,r0.Done,r0.Results⟩:Round))))) else (if (decide (l0.Kind = 2)) = true then ((aK (decide ((l0.Sets.length:Int) = 0)) (bS F l0.States (l0.Bodies.length:Int))).bind fun x_15=>(aK ((decide ((l0.Sets.length:Int) = 0)) && x_15) (ck F r0.Home l0.Bodies l0.From)).bind fun x_16=>if (((decide ((l0.Sets.length:Int) = 0)) && x_15) && x_16) = true then ((bH F r0.States l0.Bodies l0.States).bind fun x_17=>some (.inl (⟨r0.Me,r0.Regions,r0.Step,r0.Home,r0.Heard,r0.Sets,x_17,r0.Tasks,r0.Done,r0.Results⟩:Round))) else (some (.inl r0))) else (if (decide (l0.Kind = 3)) = true then ((aK (decide ((l0.Sets.length:Int) = 0)) (bS F l0.States (l0.Bodies.length:Int))).bind fun x_18=>(aK ((decide ((l0.Sets.length:Int) = 0)) && x_18) (ck F r0.Home l0.Bodies r0.Me)).bind fun x_19=>(aK (((decide ((l0.Sets.length:Int) = 0)) && x_18) && x_19) (bK F r0.Heard)).bind fun x_20=>bu ((((decide ((l0.Sets.length:Int) = 0)) && x_18) && x_19) && x_20) fun x_21=>(aK x_21 (cD F r0.Tasks l0.Bodies l0.From)).bind fun x_22=>if (x_21 && x_22) = true then ((bH F r0.Results l0.Bodies l0.States).bind fun x_23=>some (.inl (⟨r0.Me,r0.Regions,r0.Step,r0.Home,r0.Heard,r0.Sets,r0.States,r0.Tasks,r0.Done,x_23⟩:Round))) else (some (.inl r0))) else (some (.inl r0))))) (bG (fun r_3=>some (⟨r_3,[],0⟩:Step)) (fun y=>some y)))
theorem mT {F:Nat} {r0:Round} {l0:aI} {r:Step} (h:c6 F r0 l0 = some r):aA Try.prog [] 18 [] [.agg (ay r0),.agg (ah l0)] (Is [] (.b (.agg (gj r)))):=by
 unfold c6 at h
 refine aA.intro 172 Try.func18 Try.ntmps18 rfl (by simp) fun E=>?_
 show ab _ E ⟨172,[],[],[]⟩ _ ⟨[(0,.b (.agg (ay r0))),(1,.b (.agg (ah l0)))],[]⟩ _
 refine ab.seq (ab.aa ?_)
 refine Oc (fv (k:=101) rfl rfl) (Oc (fv (k:=102) rfl rfl) (Oc (cz (k:=103) mB rfl) ?_))
 refine af.ak ⟨[(2,Pt 101 0),(3,Pt 102 0),(4,Pt 103 0)],[(101,.box 31 (ay r0)),(102,.box 42 (ah l0)),(103,.box 37 [.i 0,.i 0,.i 0,.nil,.nil,.nil,.nil,.nil,.nil,.nil,.nil,.i 0])]⟩ rfl (ab.seq (ab.seq (ab.aa ?_)))
 refine Oc (ae oq rfl rfl) (Oc (ag aD rfl rfl rfl) (Oc (ae cJ rfl rfl) (Oc (ag aD rfl rfl rfl) (Oc (cY rfl rfl) (Oc om ?_)))))
 refine bF (!(decide (l0.To ≠ r0.Me))) [] (fun g1=>trivial) (fun g1=>ae mE rfl rfl) (af.ai ⟨[(2,_),(3,_),(4,_),(11,B (decide (l0.To ≠ r0.Me))),(12,.opt (!(decide (l0.To ≠ r0.Me))) (.ptr 102 1))],[(101,_),(102,_),(103,_)]⟩ rfl (bF (!(decide (l0.To ≠ r0.Me))) [12] (fun g2=>⟨g2,trivial⟩) (fun g2=>ag aD rfl rfl rfl) (bF (!(decide (l0.To ≠ r0.Me))) [] (fun g3=>trivial) (fun g3=>ae jL rfl rfl) (bF (!(decide (l0.To ≠ r0.Me))) [14] (fun g4=>⟨g4,trivial⟩) (fun g4=>ag aD rfl rfl rfl) (bF (!(decide (l0.To ≠ r0.Me))) [13,15] (fun g5=>⟨g5,g5,trivial⟩) (fun g5=>cY rfl rfl) ?_)))))
 refine Oc (aF (fun e=>by first | (rw [e]; rfl) | (simp only at e; rw [e]; rfl)) rfl rfl rfl rfl) (Oc om ?_)
 refine bF (!((decide (l0.To ≠ r0.Me)) || (decide (l0.Step ≠ r0.Step)))) [] (fun g6=>trivial) (fun g6=>ae dR rfl rfl) (bF (!((decide (l0.To ≠ r0.Me)) || (decide (l0.Step ≠ r0.Step)))) [19] (fun g7=>⟨g7,trivial⟩) (fun g7=>ag aD rfl rfl rfl) (af.ai ⟨[(2,_),(3,_),(4,_),(18,B ((decide (l0.To ≠ r0.Me)) || (decide (l0.Step ≠ r0.Step)))),(20,.opt (!((decide (l0.To ≠ r0.Me)) || (decide (l0.Step ≠ r0.Step)))) (.one (.i l0.From)))],[(101,_),(102,_),(103,_)]⟩ rfl (bF (!((decide (l0.To ≠ r0.Me)) || (decide (l0.Step ≠ r0.Step)))) [] (fun g8=>trivial) (fun g8=>ae cJ rfl rfl) (bF (!((decide (l0.To ≠ r0.Me)) || (decide (l0.Step ≠ r0.Step)))) [21] (fun g9=>⟨g9,trivial⟩) (fun g9=>ag aD rfl rfl rfl) (bF (!((decide (l0.To ≠ r0.Me)) || (decide (l0.Step ≠ r0.Step)))) [20,22] (fun g10=>⟨g10,g10,trivial⟩) (fun g10=>di rfl rfl) ?_)))))
 refine af.fQ h rfl (aF (fun e=>by first | (rw [e]; rfl) | (simp only at e; rw [e]; rfl)) rfl rfl rfl rfl) (fun x_1 h=>?_)
 refine Oc om (bF (!x_1) [] (fun g11=>by exact trivial) (fun g11=>ae dR rfl rfl) (bF (!x_1) [26] (fun g12=>by exact ⟨g12,trivial⟩) (fun g12=>ag aD rfl rfl rfl) (bF (!x_1) [27] (fun g13=>by exact ⟨g13,trivial⟩) (fun g13=>aY rfl rfl) (af.ai ⟨[(2,_),(3,_),(4,_),(25,B x_1),(28,.opt (!x_1) (.one (.bool (decide (l0.From < 0)))))],[(101,_),(102,_),(103,_)]⟩ rfl (Oc (aF (fun e=>by first | (rw [e]; rfl) | (simp only at e; rw [e]; rfl)) rfl rfl rfl rfl) (Oc om ?_))))))
 refine bF (!(x_1 || (decide (l0.From < 0)))) [] (fun g14=>trivial) (fun g14=>ae dR rfl rfl) (bF (!(x_1 || (decide (l0.From < 0)))) [31] (fun g15=>⟨g15,trivial⟩) (fun g15=>ag aD rfl rfl rfl) (bF (!(x_1 || (decide (l0.From < 0)))) [] (fun g16=>trivial) (fun g16=>ae ot rfl rfl) (bF (!(x_1 || (decide (l0.From < 0)))) [33] (fun g17=>⟨g17,trivial⟩) (fun g17=>ag aD rfl rfl rfl) (bF (!(x_1 || (decide (l0.From < 0)))) [32,34] (fun g18=>⟨g18,g18,trivial⟩) (fun g18=>gk rfl rfl) (af.fQ h rfl (aF (fun e=>by first | (rw [e]; rfl) | (simp only at e; rw [e]; rfl)) rfl rfl rfl rfl) (fun x_2 h=>?_))))))
 refine af.ak ⟨[(2,_),(3,_),(4,_),(36,B x_2)],[(101,_),(102,_),(103,_)]⟩ rfl (ab.ite h rfl (fun _ h=>?_) (fun _ h=>?_))
 ·refine ab.seq (ab.aa ?_)
  refine Oc (lp aU) (Oc (bD.jH (.same (.same (.same (.same (.same (.same (.same (.same (.same (.same (.sl (size:=7) (by decide) (.same (.nil))))))))))))) (cc fM rfl rfl)) (Oc (aR cP rfl rfl rfl rfl (Nat.le_of_ble_eq_true rfl) rfl) ?_))
  refine af.ak ⟨[(4,_)],[(103,.box 37 (ay r0 ++ ([.sl 7 ([].map ah),.i 0])))]⟩ rfl (ab.ret (Fin.aw ?_))
  obtain rfl:=Option.some.inj h
  refine Fin.ai ⟨[(4,_)],[(103,_)]⟩ rfl (Fin.aM [.agg (ay r0 ++ ([.sl 7 ([].map ah),.i 0]))] (.inl rfl) rfl (.cons (.agg cP rfl rfl rfl rfl) .nil) ⟨rfl,rfl⟩)
 ·refine ab.skip (Fin.ai ⟨[(2,_),(3,_),(4,_)],[(101,_),(102,_),(103,_)]⟩ rfl (Fin.then ?_))
  obtain ⟨v19,h20,h⟩:=aP h
  refine ab.ca (v:=v19) (fun (r_3:Round)=>⟨[(2,Pt 101 0),(4,Pt 103 0)],[(101,.box 31 (ay r_3)),(103,.box 37 [.i 0,.i 0,.i 0,.nil,.nil,.nil,.nil,.nil,.nil,.nil,.nil,.i 0])]⟩) (fun z=>.inl z) ?_ ?_
  ·refine ab.seq (ab.aa ?_)
   refine Oc (ae kN rfl rfl) (Oc (ag aD rfl rfl rfl) ?_)
   refine af.ak ⟨[(2,_),(3,_),(4,_),(40,I l0.Kind)],[(101,_),(102,_),(103,_)]⟩ rfl (ab.block (ab.seq (ab.aa ?_)))
   refine Oc (di rfl rfl) (Oc oa ?_)
   refine af.ak ⟨[(2,_),(3,_),(4,_),(40,_),(41,B (decide (l0.Kind = 1)))],[(101,_),(102,_),(103,_)]⟩ rfl (ab.ite h20 rfl (fun _ h20=>?_) (fun _ h20=>?_))
   ·refine ab.seq (ab.seq (ab.aa ?_))
    refine Oc (ae er rfl rfl) (Oc (ag dd rfl rfl rfl) (Oc (ae dR rfl rfl) (Oc (ag aD rfl rfl rfl) ?_)))
    obtain ⟨x_4,e21,h20⟩:=aP h20
    refine Oc (an dK (aL e21) (aB (e:=eB) e21) rfl rfl) (Oc (au gx rfl rfl) (Oc om ?_))
    refine af.ai ⟨[(2,_),(3,_),(4,_),(49,B x_4)],[(101,_),(102,_),(103,_)]⟩ rfl (bF (!x_4) [] (fun g22=>trivial) (fun g22=>ae du rfl rfl) (bF (!x_4) [50] (fun g23=>⟨g23,trivial⟩) (fun g23=>ag aN rfl rfl rfl) (bF (!x_4) [51] (fun g24=>⟨g24,trivial⟩) (fun g24=>av bR rfl (List.length_map _)) (bF (!x_4) [52] (fun g25=>⟨g25,trivial⟩) (fun g25=>gZ rfl rfl) (Oc (aF (fun e=>by first | (rw [e]; rfl) | (simp only at e; rw [e]; rfl)) rfl rfl rfl rfl) (Oc om ?_))))))
    refine bF (!(x_4 || (decide (0 < (l0.Bodies.length:Int))))) [] (fun g26=>trivial) (fun g26=>ae fK rfl rfl) (af.ai ⟨[(2,_),(3,_),(4,_),(55,B (x_4 || (decide (0 < (l0.Bodies.length:Int))))),(56,.opt (!(x_4 || (decide (0 < (l0.Bodies.length:Int))))) (.ptr 102 6))],[(101,_),(102,_),(103,_)]⟩ rfl (bF (!(x_4 || (decide (0 < (l0.Bodies.length:Int))))) [56] (fun g27=>⟨g27,trivial⟩) (fun g27=>ag b6 rfl rfl rfl) (bF (!(x_4 || (decide (0 < (l0.Bodies.length:Int))))) [57] (fun g28=>⟨g28,trivial⟩) (fun g28=>av lM rfl (List.length_map _)) (bF (!(x_4 || (decide (0 < (l0.Bodies.length:Int))))) [58] (fun g29=>⟨g29,trivial⟩) (fun g29=>gZ rfl rfl) (af.fQ h20 rfl (aF (fun e=>by first | (rw [e]; rfl) | (simp only at e; rw [e]; rfl)) rfl rfl rfl rfl) (fun x_5 h20=>?_))))))
    refine Oc om (bF (!x_5) [] (fun g30=>by exact trivial) (fun g30=>ae dF rfl rfl) (bF (!x_5) [62] (fun g31=>by exact ⟨g31,trivial⟩) (fun g31=>ag aN rfl rfl rfl) (af.ai ⟨[(2,_),(3,_),(4,_),(61,B x_5),(63,.opt (!x_5) (.one (.sl 1 (r0.Home.map eI))))],[(101,_),(102,_),(103,_)]⟩ rfl (bF (!x_5) [] (fun g32=>by exact trivial) (fun g32=>ae fL rfl rfl) (bF (!x_5) [64] (fun g33=>by exact ⟨g33,trivial⟩) (fun g33=>ag dT rfl rfl rfl) ?_)))))
    obtain ⟨x_6,e35,h20⟩:=aP h20
    refine bF (!x_5) [63,65] (fun g34=>⟨g34,g34,trivial⟩) (fun g34=>az (iF (gc e35 g34)) yc rfl rfl) (bF (!x_5) [66] (fun g36=>⟨g36,trivial⟩) (fun g36=>cL rfl) (Oc (aF (fun e=>by first | (rw [e]; rfl) | (simp only at e; rw [e]; rfl)) rfl rfl rfl rfl) (af.ak ⟨[(2,_),(3,_),(4,_),(68,B (x_5 || (!x_6)))],[(101,_),(102,_),(103,_)]⟩ rfl (ab.ite h20 rfl (fun _ h20=>?_) (fun _ h20=>?_)))))
    ·refine ab.seq (ab.aa ?_)
     refine Oc (lp aU) (Oc (bD.jH (.same (.same (.same (.same (.same (.same (.same (.same (.same (.same (.sl (size:=7) (by decide) (.same (.nil))))))))))))) (cc fM rfl rfl)) (Oc (aR cP rfl rfl rfl rfl (Nat.le_of_ble_eq_true rfl) rfl) ?_))
     refine af.ak ⟨[(4,_)],[(103,.box 37 (ay r0 ++ ([.sl 7 ([].map ah),.i 0])))]⟩ rfl (ab.ret (Fin.aw (Fin.aJ ?_)))
     obtain rfl:=Option.some.inj h20
     refine Fin.aw ?_
     obtain rfl:=Option.some.inj h
     refine Fin.ai ⟨[(4,_)],[(103,_)]⟩ rfl (Fin.aM [.agg (ay r0 ++ ([.sl 7 ([].map ah),.i 0]))] (.inl rfl) rfl (.cons (.agg cP rfl rfl rfl rfl) .nil) ⟨rfl,rfl⟩)
    ·refine ab.skip (Fin.ai ⟨[(2,_),(3,_),(4,_)],[(101,_),(102,_),(103,_)]⟩ rfl (Fin.then (ab.seq (ab.aa ?_))))
     refine Oc (iB (k:=104) dK rfl) (Oc (ae er rfl rfl) (Oc (ag dd rfl rfl rfl) ?_))
     obtain ⟨x_7,e37,h20⟩:=aP h20
     refine Oc (gq dK (ec e37) (dZ e37) rfl rfl rfl (cf e37) rfl) (Oc oa ?_)
     refine af.ak ⟨[(2,_),(3,_),(4,_),(5,.b (.row 104))],[(101,_),(102,_),(103,_),(104,.row 4 1 (x_7.map eB))]⟩ rfl (ab.seq (ab.aa ?_))
     refine Oc om (Oc (ae dR rfl rfl) (Oc (ag aD rfl rfl rfl) ?_))
     obtain ⟨x_8,e38,h20⟩:=aP h20
     refine Oc (bq dK (aL e38) (dy e38) rfl rfl rfl rfl) (Oc (fi (i:=(l0.From:Int).toNat) gx rfl rfl rfl rfl (nD e38) (map_set _ _ _ _)) ?_)
     refine af.ak ⟨[(2,_),(3,_),(4,_),(5,_)],[(101,_),(102,_),(103,_),(104,.row 4 1 ((x_7.set (l0.From:Int).toNat true).map eB))]⟩ rfl (ab.seq (ab.aa ?_))
     refine Oc om (Oc (ae er rfl rfl) ?_)
     refine af.bg 104 rfl (Oc (ew dd rfl rfl rfl (Nat.le_of_ble_eq_true rfl) rfl) (af.ak ⟨[(2,Pt 101 0),(3,Pt 102 0),(4,Pt 103 0),(5,.b (.one (.sl 1 ((x_7.set (l0.From:Int).toNat true).map eB))))],[(101,.box 31 [.i r0.Me,.i r0.Regions,.i r0.Step,.sl 1 (r0.Home.map eI),.sl 1 ((x_7.set (l0.From:Int).toNat true).map eB),.sl 1 (r0.Sets.map (eL 1 eI)),.sl 1 (r0.States.map eS),.sl 3 (r0.Tasks.map ao),.sl 1 (r0.Done.map eB),.sl 1 (r0.Results.map eS)]),(102,.box 42 (ah l0)),(103,.box 37 [.i 0,.i 0,.i 0,.nil,.nil,.nil,.nil,.nil,.nil,.nil,.nil,.i 0])]⟩ rfl (ab.seq ?_)))
     obtain ⟨x_9,e39,h20⟩:=aP h20
     obtain ⟨x_10,e40,h20⟩:=aP h20
     obtain ⟨x_11,e41,h20⟩:=aP h20
     refine ab.ff mixed [true,false,false,true,false,false,true,false,false,true] [.b (.row 105),Pt 101 5,.b (.one (.sl 1 (r0.Sets.map (eL 1 eI)))),.b (.row 106),Pt 102 4,.b (.one (.sl 1 (l0.Sets.map (eL 1 eI)))),.b (.one (.sl 1 (x_10.map (eL 1 eI)))),.b (.one (.sl 1 (x_11.map (eL 1 eI)))),Pt 101 5,B true] [⟨[false,false,false,false,false,false,false,false,false,false],[(2,Pt 101 0),(3,Pt 102 0),(4,Pt 103 0),(5,.b (.one (.sl 1 ((x_7.set (l0.From:Int).toNat true).map eB))))],[(101,.box 31 [.i r0.Me,.i r0.Regions,.i r0.Step,.sl 1 (r0.Home.map eI),.sl 1 ((x_7.set (l0.From:Int).toNat true).map eB),.sl 1 (r0.Sets.map (eL 1 eI)),.sl 1 (r0.States.map eS),.sl 3 (r0.Tasks.map ao),.sl 1 (r0.Done.map eB),.sl 1 (r0.Results.map eS)]),(102,.box 42 (ah l0)),(103,.box 37 [.i 0,.i 0,.i 0,.nil,.nil,.nil,.nil,.nil,.nil,.nil,.nil,.i 0])],[true,true,true,true,true,true,true,true,true,true],[],[3,6,7,8,9]⟩,⟨[true,false,false,false,false,false,false,false,false,false],[(2,Pt 101 0),(3,Pt 102 0),(4,Pt 103 0),(5,.b (.one (.sl 1 ((x_7.set (l0.From:Int).toNat true).map eB))))],[(101,.box 31 [.i r0.Me,.i r0.Regions,.i r0.Step,.sl 1 (r0.Home.map eI),.sl 1 ((x_7.set (l0.From:Int).toNat true).map eB),.sl 1 (r0.Sets.map (eL 1 eI)),.sl 1 (r0.States.map eS),.sl 3 (r0.Tasks.map ao),.sl 1 (r0.Done.map eB),.sl 1 (r0.Results.map eS)]),(102,.box 42 (ah l0)),(103,.box 37 [.i 0,.i 0,.i 0,.nil,.nil,.nil,.nil,.nil,.nil,.nil,.nil,.i 0]),(105,.row 22 1 ([].map (eL 1 eI)))],[true,true,true,true,true,true,true,true,true,true],[0],[6,7,8,9]⟩,⟨[true,false,false,true,false,false,false,false,false,false],[(2,Pt 101 0),(3,Pt 102 0),(4,Pt 103 0),(5,.b (.one (.sl 1 ((x_7.set (l0.From:Int).toNat true).map eB))))],[(101,.box 31 [.i r0.Me,.i r0.Regions,.i r0.Step,.sl 1 (r0.Home.map eI),.sl 1 ((x_7.set (l0.From:Int).toNat true).map eB),.sl 1 (r0.Sets.map (eL 1 eI)),.sl 1 (r0.States.map eS),.sl 3 (r0.Tasks.map ao),.sl 1 (r0.Done.map eB),.sl 1 (r0.Results.map eS)]),(102,.box 42 (ah l0)),(103,.box 37 [.i 0,.i 0,.i 0,.nil,.nil,.nil,.nil,.nil,.nil,.nil,.nil,.i 0]),(106,.row 22 1 (x_9.map (eL 1 eI)))],[true,true,true,true,true,true,true,true,true,true],[0,1,2,3],[7,8,9]⟩,⟨[true,false,false,true,false,false,true,false,false,false],[(2,Pt 101 0),(3,Pt 102 0),(4,Pt 103 0),(5,.b (.one (.sl 1 ((x_7.set (l0.From:Int).toNat true).map eB))))],[(101,.box 31 [.i r0.Me,.i r0.Regions,.i r0.Step,.sl 1 (r0.Home.map eI),.sl 1 ((x_7.set (l0.From:Int).toNat true).map eB),.sl 1 (r0.Sets.map (eL 1 eI)),.sl 1 (r0.States.map eS),.sl 3 (r0.Tasks.map ao),.sl 1 (r0.Done.map eB),.sl 1 (r0.Results.map eS)]),(102,.box 42 (ah l0)),(103,.box 37 [.i 0,.i 0,.i 0,.nil,.nil,.nil,.nil,.nil,.nil,.nil,.nil,.i 0])],[true,true,true,true,true,true,true,true,true,true],[0,1,2,3,4,5,6],[]⟩,⟨[true,false,false,true,false,false,true,false,false,true],[(2,Pt 101 0),(3,Pt 102 0),(4,Pt 103 0),(5,.b (.one (.sl 1 ((x_7.set (l0.From:Int).toNat true).map eB))))],[(101,.box 31 [.i r0.Me,.i r0.Regions,.i r0.Step,.sl 1 (r0.Home.map eI),.sl 1 ((x_7.set (l0.From:Int).toNat true).map eB),.sl 1 (x_11.map (eL 1 eI)),.sl 1 (r0.States.map eS),.sl 3 (r0.Tasks.map ao),.sl 1 (r0.Done.map eB),.sl 1 (r0.Results.map eS)]),(102,.box 42 (ah l0)),(103,.box 37 [.i 0,.i 0,.i 0,.nil,.nil,.nil,.nil,.nil,.nil,.nil,.nil,.i 0])],[true,true,true,true,true,true,true,true,true,true],[0,1,2,3,4,5,6,7,8,9],[]⟩] rfl (⟨by kernel_rfl,⟨⟨_,[105],.b (.row 105),rfl,fun _=>rfl,rfl,rfl,fun _=>.jG [101,102,103,105] (by exact .p (by exact iB (k:=105) bY rfl)) (by exact rfl)⟩,⟨Pt 101 5,fun _=>rfl,fun _=>.p (by exact ae gp rfl rfl)⟩,⟨.b (.one (.sl 1 (r0.Sets.map (eL 1 eI)))),fun _=>rfl,fun _=>.p (by exact ag dT rfl rfl rfl)⟩,trivial,⟨Pt 102 4,fun _=>rfl,fun _=>.p (by exact ae fL rfl rfl)⟩,⟨.b (.one (.sl 1 (l0.Sets.map (eL 1 eI)))),fun _=>rfl,fun _=>.p (by exact ag dT rfl rfl rfl)⟩,trivial,trivial,trivial,trivial,trivial⟩,⟨by kernel_rfl,⟨trivial,⟨Pt 101 5,fun _=>rfl,fun _=>.p (by exact ae gp rfl rfl)⟩,⟨.b (.one (.sl 1 (r0.Sets.map (eL 1 eI)))),fun _=>rfl,fun _=>.p (by exact ag dT rfl rfl rfl)⟩,⟨_,[106],.b (.row 106),rfl,fun _=>rfl,rfl,rfl,fun _=>.jG [101,102,103,106] (by exact .p (by exact jz (k2:=106) bY (ec e39) (dZ e39) rfl rfl rfl (cf e39) rfl rfl rfl rfl rfl)) (by exact rfl)⟩,⟨Pt 102 4,fun _=>rfl,fun _=>.p (by exact ae fL rfl rfl)⟩,⟨.b (.one (.sl 1 (l0.Sets.map (eL 1 eI)))),fun _=>rfl,fun _=>.p (by exact ag dT rfl rfl rfl)⟩,trivial,trivial,trivial,trivial,trivial⟩,⟨by kernel_rfl,⟨trivial,trivial,trivial,trivial,⟨Pt 102 4,fun _=>rfl,fun _=>.p (by exact ae fL rfl rfl)⟩,⟨.b (.one (.sl 1 (l0.Sets.map (eL 1 eI)))),fun _=>rfl,fun _=>.p (by exact ag dT rfl rfl rfl)⟩,⟨_,[107],.b (.one (.sl 1 (x_10.map (eL 1 eI)))),rfl,fun _=>rfl,rfl,rfl,fun _=>.jG [101,102,103] (by exact .p (by exact bD.qG 107 (jz (k2:=107) bY (ec e40) (dZ e40) rfl rfl rfl (cf e40) rfl rfl rfl rfl rfl) rfl)) (by exact rfl)⟩,trivial,trivial,trivial,trivial⟩,⟨by kernel_rfl,⟨trivial,trivial,trivial,trivial,trivial,trivial,trivial,⟨.b (.one (.sl 1 (x_11.map (eL 1 eI)))),fun _=>rfl,fun _=>.p (by exact az (br 0 e41).fp k4 rfl rfl)⟩,⟨Pt 101 5,fun _=>rfl,fun _=>.p (by exact ae gp rfl rfl)⟩,⟨_,[],.b (.one .any),rfl,(fun e=>by simp at e),rfl,rfl,fun _=>.jG [101,102,103] (by exact .p (by exact ew dT rfl rfl rfl (Nat.le_of_ble_eq_true rfl) rfl)) (by exact rfl)⟩,trivial⟩,⟨by kernel_rfl,⟨trivial,trivial,trivial,trivial,trivial,trivial,trivial,trivial,trivial,trivial,trivial⟩,trivial⟩⟩⟩⟩⟩) rfl rfl rfl [2,4,5] [101,103] (s':=⟨[(2,_),(4,_),(5,_)],[(101,.box 31 [.i r0.Me,.i r0.Regions,.i r0.Step,.sl 1 (r0.Home.map eI),.sl 1 ((x_7.set (l0.From:Int).toNat true).map eB),.sl 1 (x_11.map (eL 1 eI)),.sl 1 (r0.States.map eS),.sl 3 (r0.Tasks.map ao),.sl 1 (r0.Done.map eB),.sl 1 (r0.Results.map eS)]),(103,_)]⟩) rfl ?_
     refine ab.seq (ab.aa ?_)
     refine Oc om ?_
     obtain ⟨x_12,e42,h20⟩:=aP h20
     refine Oc (az (fY e42) uY rfl rfl) (af.ak ⟨[(2,_),(4,_),(91,B x_12)],[(101,_),(103,_)]⟩ rfl (ab.ite h20 rfl (fun _ h20=>?_) (fun _ h20=>?_)))
     ·refine ab.seq (ab.aa ?_)
      refine af.rm ay h20 rfl (lp aU) (fun x_13 h20=>?_)
      obtain ⟨x_14,e43,h20⟩:=aP h20
      refine Oc (az (jm e43) x9 rfl rfl) (Oc (aR cP rfl rfl rfl rfl (Nat.le_of_ble_eq_true rfl) rfl) ?_)
      refine af.ak ⟨[(4,_)],[(103,.box 37 (gj x_14))]⟩ rfl (ab.ret (Fin.aJ ?_))
      obtain rfl:=Option.some.inj h20
      refine Fin.aw ?_
      obtain rfl:=Option.some.inj h
      refine Fin.ai ⟨[(4,_)],[(103,_)]⟩ rfl (Fin.aM [.agg (gj x_14)] (.inl rfl) rfl (.cons (.agg cP rfl rfl rfl rfl) .nil) ⟨rfl,rfl⟩)
     ·refine ab.skip (Fin.ar ?_)
      exact Fin.join [2,4] [101,103] (⟨r0.Me,r0.Regions,r0.Step,r0.Home,x_7.set (l0.From:Int).toNat true,x_11,r0.States,r0.Tasks,r0.Done,r0.Results⟩:Round) (Option.some.inj h20) rfl
   ·refine ab.seq (ab.aa ?_)
    refine Oc (di rfl rfl) (Oc oa ?_)
    refine af.ak ⟨[(2,_),(3,_),(4,_),(40,_),(94,B (decide (l0.Kind = 2)))],[(101,_),(102,_),(103,_)]⟩ rfl (ab.ite h20 rfl (fun _ h20=>?_) (fun _ h20=>?_))
    ·refine ab.seq (ab.aa ?_)
     refine Oc (ae fL rfl rfl) (Oc (ag dT rfl rfl rfl) (Oc (av jr rfl (List.length_map _)) (Oc (di rfl rfl) (Oc om ?_))))
     refine dt (decide ((l0.Sets.length:Int) = 0)) [] (fun g44=>trivial) (fun g44=>ae fK rfl rfl) (af.ai ⟨[(2,_),(3,_),(4,_),(100,B (decide ((l0.Sets.length:Int) = 0))),(101,.opt (decide ((l0.Sets.length:Int) = 0)) (.ptr 102 6))],[(101,_),(102,_),(103,_)]⟩ rfl (dt (decide ((l0.Sets.length:Int) = 0)) [101] (fun g45=>⟨g45,trivial⟩) (fun g45=>ag b6 rfl rfl rfl) (dt (decide ((l0.Sets.length:Int) = 0)) [] (fun g46=>trivial) (fun g46=>ae du rfl rfl) (dt (decide ((l0.Sets.length:Int) = 0)) [103] (fun g47=>⟨g47,trivial⟩) (fun g47=>ag aN rfl rfl rfl) (dt (decide ((l0.Sets.length:Int) = 0)) [104] (fun g48=>⟨g48,trivial⟩) (fun g48=>av bR rfl (List.length_map _)) ?_)))))
     obtain ⟨x_15,e50,h20⟩:=aP h20
     refine dt (decide ((l0.Sets.length:Int) = 0)) [102,105] (fun g49=>⟨g49,g49,trivial⟩) (fun g49=>az (fa (gc e50 g49)) td rfl rfl) (af.ai ⟨[(2,_),(3,_),(4,_),(100,_),(106,.opt (decide ((l0.Sets.length:Int) = 0)) (.one (.bool x_15)))],[(101,_),(102,_),(103,_)]⟩ rfl (Oc (aT (fun e=>e) rfl rfl rfl rfl) (Oc om ?_)))
     refine dt ((decide ((l0.Sets.length:Int) = 0)) && x_15) [] (fun g51=>trivial) (fun g51=>ae dF rfl rfl) (dt ((decide ((l0.Sets.length:Int) = 0)) && x_15) [109] (fun g52=>⟨g52,trivial⟩) (fun g52=>ag aN rfl rfl rfl) (dt ((decide ((l0.Sets.length:Int) = 0)) && x_15) [] (fun g53=>trivial) (fun g53=>ae du rfl rfl) (dt ((decide ((l0.Sets.length:Int) = 0)) && x_15) [111] (fun g54=>⟨g54,trivial⟩) (fun g54=>ag aN rfl rfl rfl) (dt ((decide ((l0.Sets.length:Int) = 0)) && x_15) [] (fun g55=>trivial) (fun g55=>ae dR rfl rfl) (dt ((decide ((l0.Sets.length:Int) = 0)) && x_15) [113] (fun g56=>⟨g56,trivial⟩) (fun g56=>ag aD rfl rfl rfl) ?_)))))
     obtain ⟨x_16,e58,h20⟩:=aP h20
     refine dt ((decide ((l0.Sets.length:Int) = 0)) && x_15) [110,112,114] (fun g57=>⟨g57,g57,g57,trivial⟩) (fun g57=>az (iS (gc e58 g57)) xW rfl rfl) (Oc (aT (fun e=>e) rfl rfl rfl rfl) (af.ak ⟨[(2,_),(3,_),(4,_),(116,B (((decide ((l0.Sets.length:Int) = 0)) && x_15) && x_16))],[(101,_),(102,_),(103,_)]⟩ rfl (ab.ite h20 rfl (fun _ h20=>?_) (fun _ h20=>?_))))
     ·refine ab.aa (Oc (ae gO rfl rfl) (Oc (ag b6 rfl rfl rfl) (Oc (ae du rfl rfl) (Oc (ag aN rfl rfl rfl) (Oc (ae fK rfl rfl) (Oc (ag b6 rfl rfl rfl) ?_))))))
      refine af.ai ⟨[(2,_),(4,_),(118,.b (.one (.sl 1 (r0.States.map eS)))),(120,.b (.one (.sl 1 (l0.Bodies.map eI)))),(122,.b (.one (.sl 1 (l0.States.map eS))))],[(101,_),(103,_)]⟩ rfl ?_
      obtain ⟨x_17,e59,h20⟩:=aP h20
      refine Oc (bL (fC 109 e59) u3 rfl trivial rfl rfl) (Oc (ae gO rfl rfl) ?_)
      refine af.bg 109 rfl (Oc (ew b6 rfl rfl rfl (Nat.le_of_ble_eq_true rfl) rfl) (af.nil (Fin.ar ?_)))
      exact Fin.join [2,4] [101,103] (⟨r0.Me,r0.Regions,r0.Step,r0.Home,r0.Heard,r0.Sets,x_17,r0.Tasks,r0.Done,r0.Results⟩:Round) (Option.some.inj h20) rfl
     ·refine ab.skip (Fin.ar ?_)
      exact Fin.join [2,4] [101,103] r0 (Option.some.inj h20) rfl
    ·refine ab.seq (ab.aa ?_)
     refine Oc (di rfl rfl) (Oc oa ?_)
     refine af.ak ⟨[(2,_),(3,_),(4,_),(125,B (decide (l0.Kind = 3)))],[(101,_),(102,_),(103,_)]⟩ rfl (ab.ite h20 rfl (fun _ h20=>?_) (fun _ h20=>?_))
     ·refine ab.seq (ab.aa ?_)
      refine Oc (ae fL rfl rfl) (Oc (ag dT rfl rfl rfl) (Oc (av jr rfl (List.length_map _)) (Oc (di rfl rfl) (Oc om ?_))))
      refine dt (decide ((l0.Sets.length:Int) = 0)) [] (fun g60=>trivial) (fun g60=>ae fK rfl rfl) (af.ai ⟨[(2,_),(3,_),(4,_),(131,B (decide ((l0.Sets.length:Int) = 0))),(132,.opt (decide ((l0.Sets.length:Int) = 0)) (.ptr 102 6))],[(101,_),(102,_),(103,_)]⟩ rfl (dt (decide ((l0.Sets.length:Int) = 0)) [132] (fun g61=>⟨g61,trivial⟩) (fun g61=>ag b6 rfl rfl rfl) (dt (decide ((l0.Sets.length:Int) = 0)) [] (fun g62=>trivial) (fun g62=>ae du rfl rfl) (dt (decide ((l0.Sets.length:Int) = 0)) [134] (fun g63=>⟨g63,trivial⟩) (fun g63=>ag aN rfl rfl rfl) (dt (decide ((l0.Sets.length:Int) = 0)) [135] (fun g64=>⟨g64,trivial⟩) (fun g64=>av bR rfl (List.length_map _)) ?_)))))
      obtain ⟨x_18,e66,h20⟩:=aP h20
      refine dt (decide ((l0.Sets.length:Int) = 0)) [133,136] (fun g65=>⟨g65,g65,trivial⟩) (fun g65=>az (fa (gc e66 g65)) td rfl rfl) (af.ai ⟨[(2,_),(3,_),(4,_),(131,_),(137,.opt (decide ((l0.Sets.length:Int) = 0)) (.one (.bool x_18)))],[(101,_),(102,_),(103,_)]⟩ rfl (Oc (aT (fun e=>e) rfl rfl rfl rfl) (Oc om ?_)))
      refine dt ((decide ((l0.Sets.length:Int) = 0)) && x_18) [] (fun g67=>trivial) (fun g67=>ae dF rfl rfl) (dt ((decide ((l0.Sets.length:Int) = 0)) && x_18) [140] (fun g68=>⟨g68,trivial⟩) (fun g68=>ag aN rfl rfl rfl) (dt ((decide ((l0.Sets.length:Int) = 0)) && x_18) [] (fun g69=>trivial) (fun g69=>ae du rfl rfl) (dt ((decide ((l0.Sets.length:Int) = 0)) && x_18) [142] (fun g70=>⟨g70,trivial⟩) (fun g70=>ag aN rfl rfl rfl) (dt ((decide ((l0.Sets.length:Int) = 0)) && x_18) [] (fun g71=>trivial) (fun g71=>ae cJ rfl rfl) (dt ((decide ((l0.Sets.length:Int) = 0)) && x_18) [144] (fun g72=>⟨g72,trivial⟩) (fun g72=>ag aD rfl rfl rfl) ?_)))))
      refine af.ai ⟨[(2,_),(3,_),(4,_),(139,B ((decide ((l0.Sets.length:Int) = 0)) && x_18)),(141,.opt ((decide ((l0.Sets.length:Int) = 0)) && x_18) (.one (.sl 1 (r0.Home.map eI)))),(143,.opt ((decide ((l0.Sets.length:Int) = 0)) && x_18) (.one (.sl 1 (l0.Bodies.map eI)))),(145,.opt ((decide ((l0.Sets.length:Int) = 0)) && x_18) (.one (.i r0.Me)))],[(101,_),(102,_),(103,_)]⟩ rfl ?_
      obtain ⟨x_19,e74,h20⟩:=aP h20
      refine dt ((decide ((l0.Sets.length:Int) = 0)) && x_18) [141,143,145] (fun g73=>⟨g73,g73,g73,trivial⟩) (fun g73=>az (iS (gc e74 g73)) xW rfl rfl) (Oc (aT (fun e=>e) rfl rfl rfl rfl) (Oc om ?_))
      refine dt (((decide ((l0.Sets.length:Int) = 0)) && x_18) && x_19) [] (fun g75=>trivial) (fun g75=>ae er rfl rfl) (dt (((decide ((l0.Sets.length:Int) = 0)) && x_18) && x_19) [149] (fun g76=>⟨g76,trivial⟩) (fun g76=>ag dd rfl rfl rfl) ?_)
      obtain ⟨x_20,e78,h20⟩:=aP h20
      refine dt (((decide ((l0.Sets.length:Int) = 0)) && x_18) && x_19) [150] (fun g77=>⟨g77,trivial⟩) (fun g77=>az (fY (gc e78 g77)) uY rfl rfl) (af.ai ⟨[(2,_),(3,_),(4,_),(148,B (((decide ((l0.Sets.length:Int) = 0)) && x_18) && x_19)),(151,.opt (((decide ((l0.Sets.length:Int) = 0)) && x_18) && x_19) (.one (.bool x_20)))],[(101,_),(102,_),(103,_)]⟩ rfl (af.fQ h20 rfl (aT (fun e=>e) rfl rfl rfl rfl) (fun x_21 h20=>?_)))
      refine Oc om (dt x_21 [] (fun g79=>by exact trivial) (fun g79=>ae c9 rfl rfl) (dt x_21 [154] (fun g80=>by exact ⟨g80,trivial⟩) (fun g80=>ag ey rfl rfl rfl) (dt x_21 [] (fun g81=>by exact trivial) (fun g81=>ae du rfl rfl) (dt x_21 [156] (fun g82=>by exact ⟨g82,trivial⟩) (fun g82=>ag aN rfl rfl rfl) (dt x_21 [] (fun g83=>by exact trivial) (fun g83=>ae dR rfl rfl) ?_)))))
      refine dt x_21 [158] (fun g84=>⟨g84,trivial⟩) (fun g84=>ag aD rfl rfl rfl) ?_
      obtain ⟨x_22,e86,h20⟩:=aP h20
      refine dt x_21 [155,157,159] (fun g85=>⟨g85,g85,g85,trivial⟩) (fun g85=>az (lB (gc e86 g85)) goes67 rfl rfl) (Oc (aT (fun e=>e) rfl rfl rfl rfl) (af.ak ⟨[(2,_),(3,_),(4,_),(161,B (x_21 && x_22))],[(101,_),(102,_),(103,_)]⟩ rfl (ab.ite h20 rfl (fun _ h20=>?_) (fun _ h20=>?_))))
      ·refine ab.aa (Oc (ae ep rfl rfl) (Oc (ag b6 rfl rfl rfl) (Oc (ae du rfl rfl) (Oc (ag aN rfl rfl rfl) (Oc (ae fK rfl rfl) (Oc (ag b6 rfl rfl rfl) ?_))))))
       refine af.ai ⟨[(2,_),(4,_),(163,.b (.one (.sl 1 (r0.Results.map eS)))),(165,.b (.one (.sl 1 (l0.Bodies.map eI)))),(167,.b (.one (.sl 1 (l0.States.map eS))))],[(101,_),(103,_)]⟩ rfl ?_
       obtain ⟨x_23,e87,h20⟩:=aP h20
       refine Oc (bL (fC 110 e87) u3 rfl trivial rfl rfl) (Oc (ae ep rfl rfl) ?_)
       refine af.bg 110 rfl (Oc (ew b6 rfl rfl rfl (Nat.le_of_ble_eq_true rfl) rfl) (af.nil (Fin.ar ?_)))
       exact Fin.join [2,4] [101,103] (⟨r0.Me,r0.Regions,r0.Step,r0.Home,r0.Heard,r0.Sets,r0.States,r0.Tasks,r0.Done,x_23⟩:Round) (Option.some.inj h20) rfl
      ·refine ab.skip (Fin.ar ?_)
       exact Fin.join [2,4] [101,103] r0 (Option.some.inj h20) rfl
     ·refine ab.skip (Fin.ar ?_)
      exact Fin.join [2,4] [101,103] r0 (Option.some.inj h20) rfl
  ·rintro r_3 hv
   subst v19
   refine ab.seq (ab.aa ?_)
   refine Oc (lp aU) (Oc (bD.jH (.same (.same (.same (.same (.same (.same (.same (.same (.same (.same (.sl (size:=7) (by decide) (.same (.nil))))))))))))) (cc fM rfl rfl)) (Oc (aR cP rfl rfl rfl rfl (Nat.le_of_ble_eq_true rfl) rfl) ?_))
   refine af.ak ⟨[(4,_)],[(103,.box 37 (ay r_3 ++ ([.sl 7 ([].map ah),.i 0])))]⟩ rfl (ab.ret ?_)
   obtain rfl:=Option.some.inj h
   refine Fin.ai ⟨[(4,_)],[(103,_)]⟩ rfl (Fin.aM [.agg (ay r_3 ++ ([.sl 7 ([].map ah),.i 0]))] (.inl rfl) rfl (.cons (.agg cP rfl rfl rfl rfl) .nil) ⟨rfl,rfl⟩)
def cN (F:Nat) (r0:Round):Option (List Int) :=
 Option.bind (iter F (eU fun out_2 k_3=>if (decide (k_3 < (r0.Tasks.length:Int))) = true then (Option.bind ((bV F r0 k_3).bind fun x_6=>if x_6 = true then ((eF out_2 [k_3]).bind fun x_7=>some x_7) else (some out_2)) (fun out_5=>some (.inl (out_5,IntKind.i64.wrap (k_3 + 1))))) else (some (.inr out_2))) ([],0)) (fun out_1=>some out_1)
theorem mi (kr0:Nat) {F:Nat} {r0:Round} {r:(List Int)} (h:cN F r0 = some r):aA Try.prog [] 21 [] [.agg (ay r0)] (Is [(kr0,.row 3 1 (r.map eI))] (.b (.row kr0))):=by
 unfold cN at h
 refine aA.intro 20 Try.func21 Try.ntmps21 rfl (by simp) fun E=>?_
 show ab _ E ⟨20,[],[],[]⟩ _ ⟨[(0,.b (.agg (ay r0)))],[]⟩ _
 refine ab.seq (ab.aa ?_)
 refine Oc (fv (k:=101) rfl rfl) (Oc oa ?_)
 refine af.ak ⟨[(1,Pt 101 0)],[(101,.box 31 (ay r0))]⟩ rfl (ab.seq (ab.aa ?_))
 refine Oc oa (af.ak ⟨[(1,_),(3,.b (.one (.nil)))],[(101,_)]⟩ rfl ?_)
 obtain ⟨v1,h2,h⟩:=aP h
 refine ab.ca (v:=v1) (fun (out_1:List Int)=>⟨[(3,.b (.row 103))],[(103,.row 3 1 (out_1.map eI))]⟩) (fun z=>z) ?_ ?_
 ·refine ab.seq (ab.aa ?_)
  refine Oc oa (af.ak ⟨[(1,_),(3,_),(4,I 0)],[(101,_)]⟩ rfl (ab.block (ab.dc 3 103 1 3 rfl (by decide) rfl (ab.bZ h2 (eU fun (out_2:List Int) (k_3:Int)=>⟨[(1,Pt 101 0),(3,.b (.row 103)),(4,I k_3)],[(101,.box 31 (ay r0)),(103,.row 3 1 (out_2.map eI))]⟩) [1,3,4] [101,103] rfl ?_))))
  rintro ⟨out_2,k_3⟩ o3 h4 hy5
  refine ab.seq (ab.seq (ab.aa ?_))
  refine Oc om (Oc (ae c9 rfl rfl) (Oc (ag ey rfl rfl rfl) (Oc (av kW rfl (List.length_map _)) (Oc (aY rfl rfl) ?_))))
  refine af.ak ⟨[(1,_),(3,_),(4,_),(9,B (decide (k_3 < (r0.Tasks.length:Int))))],[(101,_),(103,_)]⟩ rfl (ab.ite h4 rfl (fun _ h4=>?_) (fun _ h4=>?_))
  ·refine ab.skip (Fin.ai ⟨[(1,_),(3,_),(4,_)],[(101,_),(103,_)]⟩ rfl (Fin.then ?_))
   obtain ⟨v6,h7,h4⟩:=aP h4
   refine ab.ca (v:=v6) (fun (out_5:List Int)=>⟨[(1,Pt 101 0),(3,.b (.row 103)),(4,I k_3)],[(101,.box 31 (ay r0)),(103,.row 3 1 (out_5.map eI))]⟩) (fun z=>z) ?_ ?_
   ·refine ab.block (ab.seq (ab.aa ?_))
    refine Oc (lp aU) (Oc om ?_)
    obtain ⟨x_6,e8,h7⟩:=aP h7
    refine Oc (az (iq e8) xX rfl rfl) (af.ak ⟨[(1,_),(3,_),(4,_),(14,B x_6)],[(101,_),(103,_)]⟩ rfl (ab.ite h7 rfl (fun _ h7=>?_) (fun _ h7=>?_)))
    ·refine ab.aa (Oc om (Oc om (Oc (aO (k:=104) (es:=[k_3].map eI) aQ rfl rfl (bc fun _=>rfl) rfl (by decide) (by decide) rfl) ?_)))
     obtain ⟨x_7,e9,h7⟩:=aP h7
     refine Oc (b4 aQ (ec e9) (dZ e9) rfl rfl rfl rfl (cf e9) rfl) (Oc oa ?_)
     refine af.nil (Fin.ar ?_)
     exact Fin.join [1,3,4] [101,103] x_7 (Option.some.inj h7) rfl
    ·refine ab.skip (Fin.ar ?_)
     exact Fin.join [1,3,4] [101,103] out_2 (Option.some.inj h7) rfl
   ·rintro out_5 hv
    subst v6
    refine ab.aa (Oc om (Oc (bh rfl rfl) (Oc oa ?_)))
    refine af.nil ?_
    exact Fin.bp [1,3,4] [101,103] (out_5,IntKind.i64.wrap (k_3 + 1)) (Option.some.inj h4) rfl
  ·refine ab.exit (Fin.aq ?_)
   obtain rfl:=hy5 _ (Option.some.inj h4).symm
   refine Fin.aq (Fin.aE ?_)
   exact Fin.join [3] [103] out_2 rfl rfl
 ·rintro out_1 hv
  subst v1
  refine ab.seq (ab.aa ?_)
  refine Oc om (Oc oa ?_)
  refine af.ak ⟨[(2,.b (.row 103))],[(103,_)]⟩ rfl (ab.ret ?_)
  obtain rfl:=Option.some.inj h
  refine Fin.ai ⟨[(2,_)],[(103,_)]⟩ rfl (Fin.dD 103 kr0 [.row 103] (.inl rfl) rfl (.cons (.tmp rfl) .nil) rfl rfl rfl rfl ⟨rfl,rfl⟩)
def bP (F:Nat) (r0:Round):Option Bool :=
 Option.bind (iter F (fun k_1=>if (decide (k_1 < (r0.Tasks.length:Int))) = true then ((aV r0.Tasks k_1).bind fun x_2=>(aK (decide (x_2.Owner = r0.Me)) (aV r0.Done k_1)).bind fun x_3=>if ((decide (x_2.Owner = r0.Me)) && (!x_3)) = true then (some (.inr (.inr false))) else (some (.inl (IntKind.i64.wrap (k_1 + 1))))) else (some (.inr (.inl ())))) 0) (bG (fun _=>Option.bind (iter F (fun b_4=>if (decide (b_4 < (r0.Home.length:Int))) = true then ((aV r0.Home b_4).bind fun x_5=>(aK (decide (x_5 = r0.Me)) (aV r0.Results b_4)).bind fun x_6=>if ((decide (x_5 = r0.Me)) && (decide (x_6 = []))) = true then (some (.inr (.inr false))) else (some (.inl (IntKind.i64.wrap (b_4 + 1))))) else (some (.inr (.inl ())))) 0) (bG (fun _=>(bK F r0.Heard).bind fun x_7=>some x_7) (fun y=>some y))) (fun y=>some y))
theorem kK {F:Nat} {r0:Round} {r:Bool} (h:bP F r0 = some r):aA Try.prog [] 23 [] [.agg (ay r0)] (Is [] (.b (.one (.bool r)))):=by
 unfold bP at h
 refine aA.intro 55 Try.func23 Try.ntmps23 rfl (by simp) fun E=>?_
 show ab _ E ⟨55,[],[],[]⟩ _ ⟨[(0,.b (.agg (ay r0)))],[]⟩ _
 refine ab.seq (ab.aa ?_)
 refine Oc (fv (k:=101) rfl rfl) (Oc oa ?_)
 refine af.ak ⟨[(1,Pt 101 0)],[(101,.box 31 (ay r0))]⟩ rfl ?_
 obtain ⟨v1,h2,h⟩:=aP h
 refine ab.ca (v:=v1) (fun (_:Unit)=>⟨[(1,Pt 101 0)],[(101,.box 31 (ay r0))]⟩) (fun z=>.inl z) ?_ ?_
 ·refine ab.seq (ab.aa ?_)
  refine Oc oa (af.ak ⟨[(1,_),(3,I 0)],[(101,_)]⟩ rfl (ab.block (ab.bZ h2 (fun (k_1:Int)=>⟨[(1,Pt 101 0),(3,I k_1)],[(101,.box 31 (ay r0))]⟩) [1,3] [101] rfl ?_)))
  rintro k_1 o3 h4 hy5
  refine ab.seq (ab.seq (ab.aa ?_))
  refine Oc om (Oc (ae c9 rfl rfl) (Oc (ag ey rfl rfl rfl) (Oc (av kW rfl (List.length_map _)) (Oc (aY rfl rfl) ?_))))
  refine af.ak ⟨[(1,_),(3,_),(9,B (decide (k_1 < (r0.Tasks.length:Int))))],[(101,_)]⟩ rfl (ab.ite h4 rfl (fun _ h4=>?_) (fun _ h4=>?_))
  ·refine ab.skip (Fin.ai ⟨[(1,_),(3,_)],[(101,_)]⟩ rfl (Fin.then (ab.seq (ab.block (ab.seq ?_)))))
   refine ab.ai ⟨[(1,_),(3,_)],[(101,_)]⟩ rfl ?_
   obtain ⟨x_2,e6,h4⟩:=aP h4
   obtain ⟨x_3,e11,h4⟩:=aP h4
   refine ab.eX mixed 17 [Pt 101 7,.b (.one (.sl 3 (r0.Tasks.map ao))),I k_1,.b (.cx (ao x_2)),.b (.cx (ao x_2)),I x_2.Owner,Pt 101 0,I r0.Me,B (decide (x_2.Owner = r0.Me)),B (decide (x_2.Owner = r0.Me)),.opt (decide (x_2.Owner = r0.Me)) (.ptr 101 8),.opt (decide (x_2.Owner = r0.Me)) (.one (.sl 1 (r0.Done.map eB))),.opt (decide (x_2.Owner = r0.Me)) (.one (.i k_1)),.opt (decide (x_2.Owner = r0.Me)) (.cx [.bool x_3]),.opt (decide (x_2.Owner = r0.Me)) (.one (.bool x_3)),.opt (decide (x_2.Owner = r0.Me)) (.one (.bool (!x_3))),B ((decide (x_2.Owner = r0.Me)) && (!x_3))] [1,3,28] [101] (s':=⟨[(1,_),(3,_),(28,B ((decide (x_2.Owner = r0.Me)) && (!x_3)))],[(101,_)]⟩) rfl ⟨fun _=>.p (ae c9 rfl rfl),fun _=>.p (ag ey rfl rfl rfl),fun _=>.p om,fun _=>.p (an fF (aL e6) (aB (e:=ao) e6) rfl rfl),fun _=>by exact .p (cH fJ rfl rfl),fun _=>.p (au aD rfl rfl),fun _=>.p (ae cJ rfl rfl),fun _=>.p (ag aD rfl rfl rfl),fun _=>.p (di rfl rfl),fun _=>.p om,fun _=>by exact .guard (decide (x_2.Owner = r0.Me)) 1 [] (.plain rfl) (dq _) rfl rfl (fun g7=>trivial) (fun g7=>ae eG rfl rfl),fun _=>by exact .guard (decide (x_2.Owner = r0.Me)) 2 [22] (.plain rfl) (dq _) rfl rfl (fun g8=>⟨g8,trivial⟩) (fun g8=>ag dd rfl rfl rfl),fun _=>by exact .guard (decide (x_2.Owner = r0.Me)) 1 [] (.plain rfl) (dq _) rfl rfl (fun g9=>trivial) (fun g9=>om),fun _=>by exact .guard (decide (x_2.Owner = r0.Me)) 3 [23,24] (.plain rfl) (dq _) rfl rfl (fun g10=>⟨g10,g10,trivial⟩) (fun g10=>an dK (aL (gc e11 g10)) (aB (e:=eB) (gc e11 g10)) rfl rfl),fun _=>by exact .guard (decide (x_2.Owner = r0.Me)) 2 [25] (.plain rfl) (dq _) rfl rfl (fun g12=>⟨g12,trivial⟩) (fun g12=>au gx rfl rfl),fun _=>by exact .guard (decide (x_2.Owner = r0.Me)) 2 [26] (.plain rfl) (dq _) rfl rfl (fun g13=>⟨g13,trivial⟩) (fun g13=>cL rfl),fun _=>.p (aT (fun e=>e) rfl rfl rfl rfl),trivial⟩ rfl rfl (ab.ite h4 rfl (fun _ h4=>?_) (fun _ h4=>?_))
   ·refine ab.seq (ab.aa ?_)
    refine Oc oa (af.ak ⟨[(2,B false)],[]⟩ rfl (ab.ret (Fin.aJ (Fin.aw ?_))))
    obtain rfl:=hy5 _ (Option.some.inj h4).symm
    refine Fin.aw (Fin.aJ (Fin.aw ?_))
    obtain rfl:=Option.some.inj h
    refine Fin.ai ⟨[(2,_)],[]⟩ rfl (Fin.aM [.one (.bool false)] (.inl rfl) rfl (.cons (.tmp rfl) .nil) ⟨rfl,rfl⟩)
   ·refine ab.skip (Fin.ar (Fin.ai ⟨[(1,_),(3,_)],[(101,_)]⟩ rfl (Fin.then (ab.aa ?_))))
    refine Oc om (Oc (bh rfl rfl) (Oc oa ?_))
    refine af.nil ?_
    exact Fin.bp [1,3] [101] (IntKind.i64.wrap (k_1 + 1)) (Option.some.inj h4) rfl
  ·refine ab.exit (Fin.aq ?_)
   obtain rfl:=hy5 _ (Option.some.inj h4).symm
   refine Fin.aq (Fin.aE ?_)
   exact Fin.join [1] [101] () rfl rfl
 ·rintro _ hv
  subst v1
  obtain ⟨v14,h15,h⟩:=aP h
  refine ab.ca (v:=v14) (fun (_:Unit)=>⟨[(1,Pt 101 0)],[(101,.box 31 (ay r0))]⟩) (fun z=>.inl z) ?_ ?_
  ·refine ab.seq (ab.aa ?_)
   refine Oc oa (af.ak ⟨[(1,_),(4,I 0)],[(101,_)]⟩ rfl (ab.block (ab.bZ h15 (fun (b_4:Int)=>⟨[(1,Pt 101 0),(4,I b_4)],[(101,.box 31 (ay r0))]⟩) [1,4] [101] rfl ?_)))
   rintro b_4 o16 h17 hy18
   refine ab.seq (ab.seq (ab.aa ?_))
   refine Oc om (Oc (ae dF rfl rfl) (Oc (ag aN rfl rfl rfl) (Oc (av bR rfl (List.length_map _)) (Oc (aY rfl rfl) ?_))))
   refine af.ak ⟨[(1,_),(4,_),(33,B (decide (b_4 < (r0.Home.length:Int))))],[(101,_)]⟩ rfl (ab.ite h17 rfl (fun _ h17=>?_) (fun _ h17=>?_))
   ·refine ab.skip (Fin.ai ⟨[(1,_),(4,_)],[(101,_)]⟩ rfl (Fin.then (ab.seq (ab.block (ab.seq ?_)))))
    refine ab.ai ⟨[(1,_),(4,_)],[(101,_)]⟩ rfl ?_
    obtain ⟨x_5,e19,h17⟩:=aP h17
    obtain ⟨x_6,e24,h17⟩:=aP h17
    refine ab.eX mixed 16 [Pt 101 3,.b (.one (.sl 1 (r0.Home.map eI))),I b_4,.b (.cx [.i x_5]),I x_5,Pt 101 0,I r0.Me,B (decide (x_5 = r0.Me)),B (decide (x_5 = r0.Me)),.opt (decide (x_5 = r0.Me)) (.ptr 101 9),.opt (decide (x_5 = r0.Me)) (.one (.sl 1 (r0.Results.map eS))),.opt (decide (x_5 = r0.Me)) (.one (.i b_4)),.opt (decide (x_5 = r0.Me)) (.cx [.str x_6]),.opt (decide (x_5 = r0.Me)) (.one (.str x_6)),.opt (decide (x_5 = r0.Me)) (.one (.bool (decide (x_6 = [])))),B ((decide (x_5 = r0.Me)) && (decide (x_6 = [])))] [1,4,51] [101] (s':=⟨[(1,_),(4,_),(51,B ((decide (x_5 = r0.Me)) && (decide (x_6 = []))))],[(101,_)]⟩) rfl ⟨fun _=>.p (ae dF rfl rfl),fun _=>.p (ag aN rfl rfl rfl),fun _=>.p om,fun _=>.p (an aQ (aL e19) (aB (e:=eI) e19) rfl rfl),fun _=>.p (au aD rfl rfl),fun _=>.p (ae cJ rfl rfl),fun _=>.p (ag aD rfl rfl rfl),fun _=>.p (di rfl rfl),fun _=>.p om,fun _=>by exact .guard (decide (x_5 = r0.Me)) 1 [] (.plain rfl) (dq _) rfl rfl (fun g20=>trivial) (fun g20=>ae ep rfl rfl),fun _=>by exact .guard (decide (x_5 = r0.Me)) 2 [45] (.plain rfl) (dq _) rfl rfl (fun g21=>⟨g21,trivial⟩) (fun g21=>ag b6 rfl rfl rfl),fun _=>by exact .guard (decide (x_5 = r0.Me)) 1 [] (.plain rfl) (dq _) rfl rfl (fun g22=>trivial) (fun g22=>om),fun _=>by exact .guard (decide (x_5 = r0.Me)) 3 [46,47] (.plain rfl) (dq _) rfl rfl (fun g23=>⟨g23,g23,trivial⟩) (fun g23=>an cw (aL (gc e24 g23)) (aB (e:=eS) (gc e24 g23)) rfl rfl),fun _=>by exact .guard (decide (x_5 = r0.Me)) 2 [48] (.plain rfl) (dq _) rfl rfl (fun g25=>⟨g25,trivial⟩) (fun g25=>au fG rfl rfl),fun _=>by exact .guard (decide (x_5 = r0.Me)) 2 [49] (.plain rfl) (dq _) rfl rfl (fun g26=>⟨g26,trivial⟩) (fun g26=>hX rfl rfl),fun _=>.p (aT (fun e=>e) rfl rfl rfl rfl),trivial⟩ rfl rfl (ab.ite h17 rfl (fun _ h17=>?_) (fun _ h17=>?_))
    ·refine ab.seq (ab.aa ?_)
     refine Oc oa (af.ak ⟨[(2,B false)],[]⟩ rfl (ab.ret (Fin.aJ (Fin.aw ?_))))
     obtain rfl:=hy18 _ (Option.some.inj h17).symm
     refine Fin.aw (Fin.aJ (Fin.aw ?_))
     obtain rfl:=Option.some.inj h
     refine Fin.ai ⟨[(2,_)],[]⟩ rfl (Fin.aM [.one (.bool false)] (.inl rfl) rfl (.cons (.tmp rfl) .nil) ⟨rfl,rfl⟩)
    ·refine ab.skip (Fin.ar (Fin.ai ⟨[(1,_),(4,_)],[(101,_)]⟩ rfl (Fin.then (ab.aa ?_))))
     refine Oc om (Oc (bh rfl rfl) (Oc oa ?_))
     refine af.nil ?_
     exact Fin.bp [1,4] [101] (IntKind.i64.wrap (b_4 + 1)) (Option.some.inj h17) rfl
   ·refine ab.exit (Fin.aq ?_)
    obtain rfl:=hy18 _ (Option.some.inj h17).symm
    refine Fin.aq (Fin.aE ?_)
    exact Fin.join [1] [101] () rfl rfl
  ·rintro _ hv
   subst v14
   refine ab.seq (ab.aa ?_)
   refine Oc (ae er rfl rfl) (Oc (ag dd rfl rfl rfl) ?_)
   obtain ⟨x_7,e27,h⟩:=aP h
   refine Oc (az (fY e27) uY rfl rfl) (Oc oa ?_)
   refine af.ak ⟨[(2,B x_7)],[]⟩ rfl (ab.ret ?_)
   obtain rfl:=Option.some.inj h
   refine Fin.ai ⟨[(2,_)],[]⟩ rfl (Fin.aM [.one (.bool x_7)] (.inl rfl) rfl (.cons (.tmp rfl) .nil) ⟨rfl,rfl⟩)
def b9 (F:Nat) (me0:Int) (regions0:Int) (step0:Int) (home0:List Int) (sets0:List (List Int)) (states0:List de) (l0:List r9):Option Bool :=
 (aK (!(decide (20 < (home0.length:Int)))) (eu F sets0)).bind fun x_1=>bu (((decide (20 < (home0.length:Int))) || (!x_1)) || (decide (22 < (states0.length:Int)))) fun x_2=>if (x_2 || (decide (20 < (l0.length:Int)))) = true then ((bt F).bind fun x_3=>some x_3) else (Option.bind (dL F me0 regions0 step0 home0 sets0 states0) (rf fun x_4 x_5 x_6=>(bW F me0 regions0 step0 home0 sets0 states0).bind fun x_7=>(bo F x_4 x_7.R).bind fun x_8=>(aK (!(!x_8)) (bB F x_5 x_7.L)).bind fun x_9=>if (((!x_8) || (!x_9)) || (decide (x_6 ≠ x_7.E))) = true then (some false) else (if (decide (x_6 ≠ 0)) = true then ((bt F).bind fun x_10=>some x_10) else (Option.bind (iter F (eU fun r_11 i_12=>if (decide (i_12 < (l0.length:Int))) = true then (Option.bind ((aV l0 i_12).bind fun x_14=>(aK (!(decide (20 < (x_14.L.Bodies.length:Int)))) (aV l0 i_12)).bind fun x_15=>(aK (!(decide (20 < (x_14.L.Bodies.length:Int)))) (eu F x_15.L.Sets)).bind fun x_16=>if ((decide (20 < (x_14.L.Bodies.length:Int))) || (!x_16)) = true then ((bt F).bind fun x_17=>some (.inr x_17)) else (Option.bind ((aV l0 i_12).bind fun x_22=>if x_22.Answer = true then ((aV l0 i_12).bind fun x_23=>(aV l0 i_12).bind fun x_24=>Option.bind (eh F r_11 x_23.Task x_24.States) (rf fun x_25 x_26 x_27=>(aV l0 i_12).bind fun x_28=>(aV l0 i_12).bind fun x_29=>(cF F r_11 x_28.Task x_29.States).bind fun x_30=>some (x_26,x_27,x_25,x_30))) else ((aV l0 i_12).bind fun x_31=>Option.bind (dG F r_11 x_31.L) (eU fun x_32 x_33=>(aV l0 i_12).bind fun x_34=>(c6 F r_11 x_34.L).bind fun x_35=>some (x_33,0,x_32,x_35)))) (wJ fun out_18 e_19 next_20 x_21=>(bo F next_20 x_21.R).bind fun x_36=>(aK (!(!x_36)) (bB F out_18 x_21.L)).bind fun x_37=>if (((!x_36) || (!x_37)) || (decide (e_19 ≠ x_21.E))) = true then (some (.inr false)) else (Option.bind (if (decide (e_19 = 0)) = true then (some next_20) else (some r_11)) (fun r_38=>(dY F r_38).bind fun x_39=>(cN F r_38).bind fun x_40=>(bA F x_39 x_40).bind fun x_41=>(aK (!(!x_41)) (cy F r_38)).bind fun x_42=>(aK (!(!x_41)) (bP F r_38)).bind fun x_43=>if ((!x_41) || (x_42 != x_43)) = true then (some (.inr false)) else (some (.inl r_38))))))) (bG (fun r_13=>some (.inl (r_13,IntKind.i64.wrap (i_12 + 1)))) (fun y=>some (.inr (.inr y))))) else (some (.inr (.inl ())))) (x_4,0)) (bG (fun _=>(bt F).bind fun x_44=>some x_44) (fun y=>some y))))))
theorem gY {F:Nat} {me0:Int} {regions0:Int} {step0:Int} {home0:List Int} {sets0:List (List Int)} {states0:List de} {l0:List r9} {r:Bool} (h:b9 F me0 regions0 step0 home0 sets0 states0 l0 = some r):aA Try.prog [] 3 [] [.one (.i me0),.one (.i regions0),.one (.i step0),.one (.sl 1 (home0.map eI)),.one (.sl 1 (sets0.map (eL 1 eI))),.one (.sl 1 (states0.map eS)),.one (.sl 10 (l0.map dC))] (Is [] (.b (.one (.bool r)))):=by
 unfold b9 at h
 refine aA.intro 192 Try.func3 Try.ntmps3 rfl (by simp) fun E=>?_
 show ab _ E ⟨192,[],[],[]⟩ _ ⟨[(0,I me0),(1,I regions0),(2,I step0),(3,.b (.one (.sl 1 (home0.map eI)))),(4,.b (.one (.sl 1 (sets0.map (eL 1 eI))))),(5,.b (.one (.sl 1 (states0.map eS)))),(6,.b (.one (.sl 10 (l0.map dC))))],[]⟩ _
 refine ab.seq (ab.aa ?_)
 refine Oc oa (af.ak ⟨[(0,I me0),(1,I regions0),(2,I step0),(3,.b (.one (.sl 1 (home0.map eI)))),(4,.b (.one (.sl 1 (sets0.map (eL 1 eI))))),(5,.b (.one (.sl 1 (states0.map eS)))),(6,.b (.one (.sl 10 (l0.map dC))))],[]⟩ rfl (ab.seq (ab.seq (ab.aa ?_))))
 refine Oc om (Oc (av bR rfl (List.length_map _)) (Oc (gZ rfl rfl) (Oc om ?_)))
 refine bF (!(decide (20 < (home0.length:Int)))) [] (fun g1=>trivial) (fun g1=>om) (af.ai ⟨[(0,_),(1,_),(2,_),(3,_),(4,_),(5,_),(6,_),(25,B (decide (20 < (home0.length:Int)))),(26,.opt (!(decide (20 < (home0.length:Int)))) (.one (.sl 1 (sets0.map (eL 1 eI)))))],[]⟩ rfl ?_)
 obtain ⟨x_1,e3,h⟩:=aP h
 refine bF (!(decide (20 < (home0.length:Int)))) [26] (fun g2=>⟨g2,trivial⟩) (fun g2=>az (jD (gc e3 g2)) goes9 rfl rfl) (bF (!(decide (20 < (home0.length:Int)))) [27] (fun g4=>⟨g4,trivial⟩) (fun g4=>cL rfl) (Oc (aF (fun e=>by first | (rw [e]; rfl) | (simp only at e; rw [e]; rfl)) rfl rfl rfl rfl) (Oc om ?_)))
 refine bF (!((decide (20 < (home0.length:Int))) || (!x_1))) [] (fun g5=>trivial) (fun g5=>om) (bF (!((decide (20 < (home0.length:Int))) || (!x_1))) [31] (fun g6=>by exact ⟨g6,trivial⟩) (fun g6=>av lM rfl (List.length_map _)) (bF (!((decide (20 < (home0.length:Int))) || (!x_1))) [32] (fun g7=>by exact ⟨g7,trivial⟩) (fun g7=>gZ rfl rfl) (af.ai ⟨[(0,_),(1,_),(2,_),(3,_),(4,_),(5,_),(6,_),(30,B ((decide (20 < (home0.length:Int))) || (!x_1))),(33,.opt (!((decide (20 < (home0.length:Int))) || (!x_1))) (.one (.bool (decide (22 < (states0.length:Int))))))],[]⟩ rfl (af.fQ h rfl (aF (fun e=>by first | (rw [e]; rfl) | (simp only at e; rw [e]; rfl)) rfl rfl rfl rfl) (fun x_2 h=>?_)))))
 refine Oc om (bF (!x_2) [] (fun g8=>by exact trivial) (fun g8=>om) (bF (!x_2) [36] (fun g9=>by exact ⟨g9,trivial⟩) (fun g9=>av und25 rfl (List.length_map _)) (bF (!x_2) [37] (fun g10=>by exact ⟨g10,trivial⟩) (fun g10=>gZ rfl rfl) (Oc (aF (fun e=>by first | (rw [e]; rfl) | (simp only at e; rw [e]; rfl)) rfl rfl rfl rfl) (af.ak ⟨[(0,_),(1,_),(2,_),(3,_),(4,_),(5,_),(6,_),(39,B (x_2 || (decide (20 < (l0.length:Int)))))],[]⟩ rfl ?_)))))
 refine ab.ite h rfl (fun _ h=>?_) (fun _ h=>?_)
 ·refine ab.seq (ab.aa ?_)
  obtain ⟨x_3,e11,h⟩:=aP h
  refine Oc (az (eD e11) tg rfl rfl) (Oc oa ?_)
  refine af.ak ⟨[(14,B x_3)],[]⟩ rfl (ab.ret (Fin.aw ?_))
  obtain rfl:=Option.some.inj h
  refine Fin.ai ⟨[(14,_)],[]⟩ rfl (Fin.aM [.one (.bool x_3)] (.inl rfl) rfl (.cons (.tmp rfl) .nil) ⟨rfl,rfl⟩)
 ·refine ab.skip (Fin.ai ⟨[(0,_),(1,_),(2,_),(3,_),(4,_),(5,_),(6,_)],[]⟩ rfl (Fin.then (ab.seq (ab.aa ?_))))
  refine Oc om (Oc om (Oc om (Oc om (Oc om (Oc om ?_)))))
  refine af.ai ⟨[(0,_),(1,_),(2,_),(3,_),(4,_),(5,_),(6,_),(42,I me0),(43,I regions0),(44,I step0),(45,.b (.one (.sl 1 (home0.map eI)))),(46,.b (.one (.sl 1 (sets0.map (eL 1 eI))))),(47,.b (.one (.sl 1 (states0.map eS))))],[]⟩ rfl ?_
  obtain ⟨⟨x_4,x_5,x_6⟩,e12,h⟩:=aP h
  refine Oc (bL (jW 101 e12) vf rfl trivial rfl rfl) (Oc om (Oc (aZ rfl rfl) (Oc (aZ rfl rfl) (Oc (aZ rfl rfl) (Oc (cz (k:=102) hC rfl) ?_)))))
  refine af.ai ⟨[(0,_),(1,_),(2,_),(3,_),(4,_),(5,_),(6,_),(15,Pt 102 0),(49,.b (.agg (ay x_4))),(50,.b (.row 101)),(51,I x_6)],[(101,.row 42 7 (x_5.map ah)),(102,.box 31 [.i 0,.i 0,.i 0,.nil,.nil,.nil,.nil,.nil,.nil,.nil])]⟩ rfl (Oc (aR aU rfl rfl rfl rfl (Nat.le_of_ble_eq_true rfl) rfl) (Oc oa (Oc oa ?_)))
  refine af.ak ⟨[(0,_),(1,_),(2,_),(3,_),(4,_),(5,_),(6,_),(15,_),(16,.b (.row 101)),(17,I x_6)],[(101,_),(102,.box 31 (ay x_4))]⟩ rfl (ab.seq (ab.aa ?_))
  refine Oc om (Oc om (Oc om (Oc om (Oc om (Oc om ?_)))))
  refine af.ai ⟨[(6,_),(15,_),(16,_),(17,_),(52,I me0),(53,I regions0),(54,I step0),(55,.b (.one (.sl 1 (home0.map eI)))),(56,.b (.one (.sl 1 (sets0.map (eL 1 eI))))),(57,.b (.one (.sl 1 (states0.map eS))))],[(101,_),(102,_)]⟩ rfl ?_
  obtain ⟨x_7,e13,h⟩:=aP h
  refine Oc (az (ml e13) goes12 rfl rfl) (Oc (cz (k:=103) mB rfl) (Oc (aR cP rfl rfl rfl rfl (Nat.le_of_ble_eq_true rfl) rfl) ?_))
  refine af.ak ⟨[(6,_),(15,_),(16,_),(17,_),(18,Pt 103 0)],[(101,_),(102,_),(103,.box 37 (gj x_7))]⟩ rfl (ab.seq (ab.seq (ab.aa ?_)))
  refine Oc (lp aU) (Oc (ae sE rfl rfl) (Oc (lp aU) ?_))
  obtain ⟨x_8,e14,h⟩:=aP h
  refine Oc (az (gL e14) yf rfl rfl) (Oc (cL rfl) ?_)
  refine af.ai ⟨[(6,_),(15,_),(16,_),(17,_),(18,_),(63,B (!x_8))],[(101,_),(102,_),(103,_)]⟩ rfl (Oc om (bF (!(!x_8)) [] (fun g15=>by exact trivial) (fun g15=>om) (bF (!(!x_8)) [] (fun g16=>by exact trivial) (fun g16=>ae sD rfl rfl) (bF (!(!x_8)) [66] (fun g17=>by exact ⟨g17,trivial⟩) (fun g17=>ag jX rfl rfl rfl) ?_))))
  obtain ⟨x_9,e19,h⟩:=aP h
  refine bF (!(!x_8)) [65,67] (fun g18=>⟨g18,g18,trivial⟩) (fun g18=>rA (gu (gc e19 g18)) ye rfl CP.sP) (bF (!(!x_8)) [68] (fun g20=>⟨g20,trivial⟩) (fun g20=>cL rfl) (af.ai ⟨[(6,_),(15,_),(17,_),(18,_),(64,B (!x_8)),(69,.opt (!(!x_8)) (.one (.bool (!x_9))))],[(102,_),(103,_)]⟩ rfl (Oc (aF (fun e=>by first | (rw [e]; rfl) | (simp only at e; rw [e]; rfl)) rfl rfl rfl rfl) (Oc om ?_))))
  refine bF (!((!x_8) || (!x_9))) [] (fun g21=>trivial) (fun g21=>om) (bF (!((!x_8) || (!x_9))) [] (fun g22=>by exact trivial) (fun g22=>ae sC rfl rfl) (bF (!((!x_8) || (!x_9))) [73] (fun g23=>by exact ⟨g23,trivial⟩) (fun g23=>ag wb rfl rfl rfl) (bF (!((!x_8) || (!x_9))) [72,74] (fun g24=>by exact ⟨g24,g24,trivial⟩) (fun g24=>cY rfl rfl) (Oc (aF (fun e=>by first | (rw [e]; rfl) | (simp only at e; rw [e]; rfl)) rfl rfl rfl rfl) (af.ak ⟨[(6,_),(15,_),(17,_),(18,_),(76,B (((!x_8) || (!x_9)) || (decide (x_6 ≠ x_7.E))))],[(102,_),(103,_)]⟩ rfl ?_)))))
  refine ab.ite h rfl (fun _ h=>?_) (fun _ h=>?_)
  ·refine ab.seq (ab.aa ?_)
   refine Oc oa (af.ak ⟨[(14,B false)],[]⟩ rfl (ab.ret (Fin.aw ?_)))
   obtain rfl:=Option.some.inj h
   refine Fin.ai ⟨[(14,_)],[]⟩ rfl (Fin.aM [.one (.bool false)] (.inl rfl) rfl (.cons (.tmp rfl) .nil) ⟨rfl,rfl⟩)
  ·refine ab.skip (Fin.ai ⟨[(6,_),(15,_),(17,_),(18,_)],[(102,_),(103,_)]⟩ rfl (Fin.then (ab.seq (ab.seq (ab.aa ?_)))))
   refine Oc om (Oc (cY rfl rfl) ?_)
   refine af.ak ⟨[(6,_),(15,_),(18,_),(78,B (decide (x_6 ≠ 0)))],[(102,_),(103,_)]⟩ rfl (ab.ite h rfl (fun _ h=>?_) (fun _ h=>?_))
   ·refine ab.seq (ab.aa ?_)
    obtain ⟨x_10,e25,h⟩:=aP h
    refine Oc (az (eD e25) tg rfl rfl) (Oc oa ?_)
    refine af.ak ⟨[(14,B x_10)],[]⟩ rfl (ab.ret (Fin.aw ?_))
    obtain rfl:=Option.some.inj h
    refine Fin.ai ⟨[(14,_)],[]⟩ rfl (Fin.aM [.one (.bool x_10)] (.inl rfl) rfl (.cons (.tmp rfl) .nil) ⟨rfl,rfl⟩)
   ·refine ab.skip (Fin.ai ⟨[(6,_),(15,_),(18,_)],[(102,_),(103,_)]⟩ rfl (Fin.then ?_))
    obtain ⟨v26,h27,h⟩:=aP h
    refine ab.ca (v:=v26) (fun (_:Unit)=>⟨[],[]⟩) (fun z=>.inl z) ?_ ?_
    ·refine ab.seq (ab.aa ?_)
     refine Oc oa (af.ak ⟨[(6,_),(15,_),(18,_),(19,I 0)],[(102,_),(103,_)]⟩ rfl (ab.block (ab.bZ h27 (eU fun (r_11:Round) (i_12:Int)=>⟨[(6,.b (.one (.sl 10 (l0.map dC)))),(15,Pt 102 0),(18,Pt 103 0),(19,I i_12)],[(102,.box 31 (ay r_11)),(103,.box 37 (gj x_7))]⟩) [6,15,18,19] [102,103] rfl ?_)))
     rintro ⟨r_11,i_12⟩ o28 h29 hy30
     refine ab.seq (ab.seq (ab.aa ?_))
     refine Oc om (Oc om (Oc (av und25 rfl (List.length_map _)) (Oc (aY rfl rfl) ?_)))
     refine af.ak ⟨[(6,_),(15,_),(18,_),(19,_),(83,B (decide (i_12 < (l0.length:Int))))],[(102,_),(103,_)]⟩ rfl (ab.ite h29 rfl (fun _ h29=>?_) (fun _ h29=>?_))
     ·refine ab.skip (Fin.ai ⟨[(6,_),(15,_),(18,_),(19,_)],[(102,_),(103,_)]⟩ rfl (Fin.then ?_))
      obtain ⟨v31,h32,h29⟩:=aP h29
      refine ab.ca (v:=v31) (fun (r_13:Round)=>⟨[(6,.b (.one (.sl 10 (l0.map dC)))),(15,Pt 102 0),(18,Pt 103 0),(19,I i_12)],[(102,.box 31 (ay r_13)),(103,.box 37 (gj x_7))]⟩) (fun z=>.inl z) ?_ ?_
      ·refine ab.block (ab.seq (ab.seq (ab.aa ?_)))
       refine Oc om (Oc om ?_)
       obtain ⟨x_14,e33,h32⟩:=aP h32
       refine Oc (an mZ (aL e33) (aB (e:=dC) e33) rfl rfl) (Oc (cH oo rfl rfl) (Oc (cH du rfl rfl) (Oc (au aN rfl rfl) ?_)))
       refine af.ai ⟨[(6,_),(15,_),(18,_),(19,_),(91,.b (.one (.sl 1 (x_14.L.Bodies.map eI))))],[(102,_),(103,_)]⟩ rfl (Oc (av bR rfl (List.length_map _)) (Oc (gZ rfl rfl) (Oc om ?_)))
       refine bF (!(decide (20 < (x_14.L.Bodies.length:Int)))) [] (fun g34=>trivial) (fun g34=>om) (bF (!(decide (20 < (x_14.L.Bodies.length:Int)))) [] (fun g35=>by exact trivial) (fun g35=>om) ?_)
       obtain ⟨x_15,e37,h32⟩:=aP h32
       refine bF (!(decide (20 < (x_14.L.Bodies.length:Int)))) [95,96] (fun g36=>⟨g36,g36,trivial⟩) (fun g36=>an mZ (aL (gc e37 g36)) (aB (e:=dC) (gc e37 g36)) rfl rfl) (bF (!(decide (20 < (x_14.L.Bodies.length:Int)))) [97] (fun g38=>⟨g38,trivial⟩) (fun g38=>cH oo rfl rfl) (bF (!(decide (20 < (x_14.L.Bodies.length:Int)))) [98] (fun g39=>⟨g39,trivial⟩) (fun g39=>cH fL rfl rfl) (af.ai ⟨[(6,_),(15,_),(18,_),(19,_),(94,B (decide (20 < (x_14.L.Bodies.length:Int)))),(99,.opt (!(decide (20 < (x_14.L.Bodies.length:Int)))) (.cx [.sl 1 (x_15.L.Sets.map (eL 1 eI)),.sl 1 (x_15.L.Bodies.map eI),.sl 1 (x_15.L.States.map eS),.bool x_15.Answer,.i x_15.Task,.sl 1 (x_15.States.map eS)]))],[(102,_),(103,_)]⟩ rfl (bF (!(decide (20 < (x_14.L.Bodies.length:Int)))) [99] (fun g40=>⟨g40,trivial⟩) (fun g40=>au dT rfl rfl) ?_))))
       obtain ⟨x_16,e42,h32⟩:=aP h32
       refine bF (!(decide (20 < (x_14.L.Bodies.length:Int)))) [100] (fun g41=>⟨g41,trivial⟩) (fun g41=>az (jD (gc e42 g41)) goes9 rfl rfl) (bF (!(decide (20 < (x_14.L.Bodies.length:Int)))) [101] (fun g43=>⟨g43,trivial⟩) (fun g43=>cL rfl) (Oc (aF (fun e=>by first | (rw [e]; rfl) | (simp only at e; rw [e]; rfl)) rfl rfl rfl rfl) (af.ak ⟨[(6,_),(15,_),(18,_),(19,_),(103,B ((decide (20 < (x_14.L.Bodies.length:Int))) || (!x_16)))],[(102,_),(103,_)]⟩ rfl (ab.ite h32 rfl (fun _ h32=>?_) (fun _ h32=>?_)))))
       ·refine ab.seq (ab.aa ?_)
        obtain ⟨x_17,e44,h32⟩:=aP h32
        refine Oc (az (eD e44) tg rfl rfl) (Oc oa ?_)
        refine af.ak ⟨[(14,B x_17)],[]⟩ rfl (ab.ret (Fin.aw (Fin.aJ ?_)))
        obtain rfl:=Option.some.inj h32
        refine Fin.aw ?_
        obtain rfl:=hy30 _ (Option.some.inj h29).symm
        refine Fin.aw (Fin.aJ (Fin.aw ?_))
        obtain rfl:=Option.some.inj h
        refine Fin.ai ⟨[(14,_)],[]⟩ rfl (Fin.aM [.one (.bool x_17)] (.inl rfl) rfl (.cons (.tmp rfl) .nil) ⟨rfl,rfl⟩)
       ·refine ab.skip (Fin.ai ⟨[(6,_),(15,_),(18,_),(19,_)],[(102,_),(103,_)]⟩ rfl (Fin.then (ab.seq (ab.aa ?_))))
        refine Oc (lp aU) (Oc (cz (k:=104) hC rfl) (Oc (aR aU rfl rfl rfl rfl (Nat.le_of_ble_eq_true rfl) rfl) ?_))
        refine af.ak ⟨[(6,_),(15,_),(18,_),(19,_),(20,Pt 104 0)],[(102,_),(103,_),(104,.box 31 (ay r_11))]⟩ rfl (ab.seq (ab.aa ?_))
        refine Oc (lp cP) (Oc (cz (k:=105) mB rfl) (Oc (aR cP rfl rfl rfl rfl (Nat.le_of_ble_eq_true rfl) rfl) ?_))
        refine af.ak ⟨[(6,_),(15,_),(18,_),(19,_),(20,_),(21,Pt 105 0)],[(102,_),(103,_),(104,_),(105,.box 37 (gj x_7))]⟩ rfl ?_
        obtain ⟨v45,h46,h32⟩:=aP h32
        refine ab.ca (v:=v45) (wJ fun (out_18:List aI) (e_19:Int) (next_20:Round) (x_21:Step)=>⟨[(6,.b (.one (.sl 10 (l0.map dC)))),(15,Pt 102 0),(16,.b (.one (.sl 7 (out_18.map ah)))),(17,I e_19),(18,Pt 103 0),(19,I i_12),(20,Pt 104 0),(21,Pt 105 0)],[(102,.box 31 (ay r_11)),(103,.box 37 (gj x_7)),(104,.box 31 (ay next_20)),(105,.box 37 (gj x_21))]⟩) (fun z=>z) ?_ ?_
        ·refine ab.seq (ab.aa ?_)
         refine Oc om (Oc om ?_)
         obtain ⟨x_22,e47,h46⟩:=aP h46
         refine Oc (an mZ (aL e47) (aB (e:=dC) e47) rfl rfl) (Oc (cH wQ rfl rfl) (Oc (au gx rfl rfl) ?_))
         refine af.ak ⟨[(6,_),(15,_),(18,_),(19,_),(20,_),(21,_),(111,B x_22.Answer)],[(102,_),(103,_),(104,_),(105,_)]⟩ rfl (ab.ite h46 rfl (fun _ h46=>?_) (fun _ h46=>?_))
         ·refine ab.seq (ab.ai ⟨[(6,_),(15,_),(18,_),(19,_),(20,_),(21,_)],[(102,_),(103,_),(104,_),(105,_)]⟩ rfl ?_)
          obtain ⟨x_23,e48,h46⟩:=aP h46
          obtain ⟨x_24,e49,h46⟩:=aP h46
          obtain ⟨⟨x_25,x_26,x_27⟩,e50,h46⟩:=aP h46
          refine ab.ff mixed [false,false,false,false,false,false,false,false,false,false,false,false,false,false,false,false,true,false,false] [.b (.agg (ay r_11)),.b (.one (.sl 10 (l0.map dC))),I i_12,.b (.cx (dC x_23)),.b (.cx [.i x_23.Task,.sl 1 (x_23.States.map eS)]),I x_23.Task,.b (.one (.sl 10 (l0.map dC))),I i_12,.b (.cx (dC x_24)),.b (.cx [.sl 1 (x_24.States.map eS)]),.b (.one (.sl 1 (x_24.States.map eS))),.gR [.agg (ay x_25),.one (.sl 7 (x_26.map ah)),.one (.i x_27)],.gR [.agg (ay x_25),.one (.sl 7 (x_26.map ah)),.one (.i x_27)],.b (.agg (ay x_25)),.b (.one (.sl 7 (x_26.map ah))),I x_27,B true,.b (.one (.sl 7 (x_26.map ah))),I x_27] [⟨[false,false,false,false,false,false,false,false,false,false,false,false,false,false,false,false,false,false,false],[(6,.b (.one (.sl 10 (l0.map dC)))),(15,Pt 102 0),(18,Pt 103 0),(19,I i_12),(20,Pt 104 0),(21,Pt 105 0)],[(102,.box 31 (ay r_11)),(103,.box 37 (gj x_7)),(104,.box 31 (ay r_11)),(105,.box 37 (gj x_7))],[true,true,true,true,true,true,true,true,true,true,true,true,true,true,true,true,true,true,true],[],[17,18]⟩,⟨[false,false,false,false,false,false,false,false,false,false,false,false,false,false,false,false,true,false,false],[(6,.b (.one (.sl 10 (l0.map dC)))),(15,Pt 102 0),(18,Pt 103 0),(19,I i_12),(20,Pt 104 0),(21,Pt 105 0)],[(102,.box 31 (ay r_11)),(103,.box 37 (gj x_7)),(104,.box 31 (ay x_25)),(105,.box 37 (gj x_7))],[true,true,true,true,true,true,true,true,true,true,true,true,true,true,true,true,true,true,true],[0,1,2,3,4,5,6,7,8,9,10,11,12,13,16],[]⟩] rfl (⟨by kernel_rfl,⟨⟨.b (.agg (ay r_11)),fun _=>rfl,fun _=>.p (by exact ji aU rfl rfl rfl rfl)⟩,⟨.b (.one (.sl 10 (l0.map dC))),fun _=>rfl,fun _=>.p (by exact ax rfl)⟩,⟨I i_12,fun _=>rfl,fun _=>.p (by exact ax rfl)⟩,⟨.b (.cx (dC x_23)),fun _=>rfl,fun _=>.p (by exact an mZ (aL e48) (aB (e:=dC) e48) rfl rfl)⟩,⟨.b (.cx [.i x_23.Task,.sl 1 (x_23.States.map eS)]),fun _=>rfl,fun _=>.p (by exact cH sB rfl rfl)⟩,⟨I x_23.Task,fun _=>rfl,fun _=>.p (by exact au aD rfl rfl)⟩,⟨.b (.one (.sl 10 (l0.map dC))),fun _=>rfl,fun _=>.p (by exact ax rfl)⟩,⟨I i_12,fun _=>rfl,fun _=>.p (by exact ax rfl)⟩,⟨.b (.cx (dC x_24)),fun _=>rfl,fun _=>.p (by exact an mZ (aL e49) (aB (e:=dC) e49) rfl rfl)⟩,⟨.b (.cx [.sl 1 (x_24.States.map eS)]),fun _=>rfl,fun _=>.p (by exact cH sA rfl rfl)⟩,⟨.b (.one (.sl 1 (x_24.States.map eS))),fun _=>rfl,fun _=>.p (by exact au b6 rfl rfl)⟩,⟨.gR [.agg (ay x_25),.one (.sl 7 (x_26.map ah)),.one (.i x_27)],fun _=>rfl,fun _=>.p (by exact az (lY 0 e50).fp yd rfl rfl)⟩,⟨.gR [.agg (ay x_25),.one (.sl 7 (x_26.map ah)),.one (.i x_27)],fun _=>rfl,fun _=>.p (by exact ax rfl)⟩,⟨.b (.agg (ay x_25)),fun _=>rfl,fun _=>.p (by exact aZ rfl rfl)⟩,⟨.b (.one (.sl 7 (x_26.map ah))),fun _=>rfl,fun _=>.p (by exact aZ rfl rfl)⟩,⟨I x_27,fun _=>rfl,fun _=>.p (by exact aZ rfl rfl)⟩,⟨_,[],.b (.one .any),rfl,(fun e=>by simp at e),rfl,rfl,fun _=>.jG [102,103,104,105] (by exact .p (by exact aR aU rfl rfl rfl rfl (Nat.le_of_ble_eq_true rfl) rfl)) (by exact rfl)⟩,trivial,trivial,trivial⟩,⟨by kernel_rfl,⟨trivial,trivial,trivial,trivial,trivial,trivial,trivial,trivial,trivial,trivial,trivial,trivial,trivial,trivial,⟨.b (.one (.sl 7 (x_26.map ah))),fun _=>rfl,fun _=>.p (by exact aZ rfl rfl)⟩,⟨I x_27,fun _=>rfl,fun _=>.p (by exact aZ rfl rfl)⟩,trivial,⟨.b (.one (.sl 7 (x_26.map ah))),fun _=>rfl,fun _=>.p (by exact dH rfl)⟩,⟨I x_27,fun _=>rfl,fun _=>.p (by exact dH rfl)⟩,trivial⟩,trivial⟩⟩) rfl rfl rfl [6,15,16,17,18,19,20,21] [102,103,104,105] (s':=⟨[(6,_),(15,_),(16,.b (.one (.sl 7 (x_26.map ah)))),(17,I x_27),(18,_),(19,_),(20,_),(21,_)],[(102,_),(103,_),(104,.box 31 (ay x_25)),(105,_)]⟩) rfl ?_
          refine ab.ai ⟨[(6,_),(15,_),(16,_),(17,_),(18,_),(19,_),(20,_),(21,_)],[(102,_),(103,_),(104,_),(105,_)]⟩ rfl ?_
          obtain ⟨x_28,e51,h46⟩:=aP h46
          obtain ⟨x_29,e52,h46⟩:=aP h46
          obtain ⟨x_30,e53,h46⟩:=aP h46
          refine ab.fy mixed 12 [.b (.agg (ay r_11)),.b (.one (.sl 10 (l0.map dC))),I i_12,.b (.cx (dC x_28)),.b (.cx [.i x_28.Task,.sl 1 (x_28.States.map eS)]),I x_28.Task,.b (.one (.sl 10 (l0.map dC))),I i_12,.b (.cx (dC x_29)),.b (.cx [.sl 1 (x_29.States.map eS)]),.b (.one (.sl 1 (x_29.States.map eS))),.b (.agg (gj x_30))] [6,15,16,17,18,19,20,21] [102,103,104,105] (s':=⟨[(6,_),(15,_),(16,_),(17,_),(18,_),(19,_),(20,_),(21,_)],[(102,_),(103,_),(104,_),(105,.box 37 (gj x_30))]⟩) rfl ⟨fun _=>.p (lp aU),fun _=>.p om,fun _=>.p om,fun _=>.p (an mZ (aL e51) (aB (e:=dC) e51) rfl rfl),fun _=>by exact .p (cH sB rfl rfl),fun _=>.p (au aD rfl rfl),fun _=>.p om,fun _=>.p om,fun _=>.p (an mZ (aL e52) (aB (e:=dC) e52) rfl rfl),fun _=>by exact .p (cH sA rfl rfl),fun _=>.p (au b6 rfl rfl),fun _=>.p (az (lF e53) goes16 rfl rfl),trivial⟩ ⟨_,by exact .p (aR cP rfl rfl rfl rfl (Nat.le_of_ble_eq_true rfl) rfl),rfl⟩ rfl ?_
          exact Fin.join [6,15,16,17,18,19,20,21] [102,103,104,105] (x_26,x_27,x_25,x_30) (Option.some.inj h46) rfl
         ·refine ab.seq (ab.ai ⟨[(6,_),(15,_),(18,_),(19,_),(20,_),(21,_)],[(102,_),(103,_),(104,_),(105,_)]⟩ rfl ?_)
          obtain ⟨x_31,e54,h46⟩:=aP h46
          obtain ⟨⟨x_32,x_33⟩,e55,h46⟩:=aP h46
          refine ab.ff mixed [false,false,false,false,false,false,false,false,false,false,true,false] [.b (.agg (ay r_11)),.b (.one (.sl 10 (l0.map dC))),I i_12,.b (.cx (dC x_31)),.b (.cx (dC x_31)),.b (.agg (ah x_31.L)),.gR [.agg (ay x_32),.one (.sl 7 (x_33.map ah))],.gR [.agg (ay x_32),.one (.sl 7 (x_33.map ah))],.b (.agg (ay x_32)),.b (.one (.sl 7 (x_33.map ah))),B true,.b (.one (.sl 7 (x_33.map ah)))] [⟨[false,false,false,false,false,false,false,false,false,false,false,false],[(6,.b (.one (.sl 10 (l0.map dC)))),(15,Pt 102 0),(18,Pt 103 0),(19,I i_12),(20,Pt 104 0),(21,Pt 105 0)],[(102,.box 31 (ay r_11)),(103,.box 37 (gj x_7)),(104,.box 31 (ay r_11)),(105,.box 37 (gj x_7))],[true,true,true,true,true,true,true,true,true,true,true,true],[],[11]⟩,⟨[false,false,false,false,false,false,false,false,false,false,true,false],[(6,.b (.one (.sl 10 (l0.map dC)))),(15,Pt 102 0),(18,Pt 103 0),(19,I i_12),(20,Pt 104 0),(21,Pt 105 0)],[(102,.box 31 (ay r_11)),(103,.box 37 (gj x_7)),(104,.box 31 (ay x_32)),(105,.box 37 (gj x_7))],[true,true,true,true,true,true,true,true,true,true,true,true],[0,1,2,3,4,5,6,7,8,10],[]⟩] rfl (⟨by kernel_rfl,⟨⟨.b (.agg (ay r_11)),fun _=>rfl,fun _=>.p (by exact ji aU rfl rfl rfl rfl)⟩,⟨.b (.one (.sl 10 (l0.map dC))),fun _=>rfl,fun _=>.p (by exact ax rfl)⟩,⟨I i_12,fun _=>rfl,fun _=>.p (by exact ax rfl)⟩,⟨.b (.cx (dC x_31)),fun _=>rfl,fun _=>.p (by exact an mZ (aL e54) (aB (e:=dC) e54) rfl rfl)⟩,⟨.b (.cx (dC x_31)),fun _=>rfl,fun _=>.p (by exact cH oo rfl rfl)⟩,⟨.b (.agg (ah x_31.L)),fun _=>rfl,fun _=>.p (by exact fl gb rfl rfl rfl)⟩,⟨.gR [.agg (ay x_32),.one (.sl 7 (x_33.map ah))],fun _=>rfl,fun _=>.p (by exact az (gG 0 e55).fp rp rfl rfl)⟩,⟨.gR [.agg (ay x_32),.one (.sl 7 (x_33.map ah))],fun _=>rfl,fun _=>.p (by exact ax rfl)⟩,⟨.b (.agg (ay x_32)),fun _=>rfl,fun _=>.p (by exact aZ rfl rfl)⟩,⟨.b (.one (.sl 7 (x_33.map ah))),fun _=>rfl,fun _=>.p (by exact aZ rfl rfl)⟩,⟨_,[],.b (.one .any),rfl,(fun e=>by simp at e),rfl,rfl,fun _=>.jG [102,103,104,105] (by exact .p (by exact aR aU rfl rfl rfl rfl (Nat.le_of_ble_eq_true rfl) rfl)) (by exact rfl)⟩,trivial,trivial⟩,⟨by kernel_rfl,⟨trivial,trivial,trivial,trivial,trivial,trivial,trivial,trivial,trivial,⟨.b (.one (.sl 7 (x_33.map ah))),fun _=>rfl,fun _=>.p (by exact aZ rfl rfl)⟩,trivial,⟨.b (.one (.sl 7 (x_33.map ah))),fun _=>rfl,fun _=>.p (by exact dH rfl)⟩,trivial⟩,trivial⟩⟩) rfl rfl rfl [6,15,16,18,19,20,21] [102,103,104,105] (s':=⟨[(6,_),(15,_),(16,.b (.one (.sl 7 (x_33.map ah)))),(18,_),(19,_),(20,_),(21,_)],[(102,_),(103,_),(104,.box 31 (ay x_32)),(105,_)]⟩) rfl ?_
          refine ab.seq (ab.aa ?_)
          refine Oc oa (af.ak ⟨[(6,_),(15,_),(16,_),(17,I 0),(18,_),(19,_),(20,_),(21,_)],[(102,_),(103,_),(104,_),(105,_)]⟩ rfl ?_)
          obtain ⟨x_34,e56,h46⟩:=aP h46
          obtain ⟨x_35,e57,h46⟩:=aP h46
          refine ab.fy mixed 7 [.b (.agg (ay r_11)),.b (.one (.sl 10 (l0.map dC))),I i_12,.b (.cx (dC x_34)),.b (.cx (dC x_34)),.b (.agg (ah x_34.L)),.b (.agg (gj x_35))] [6,15,16,17,18,19,20,21] [102,103,104,105] (s':=⟨[(6,_),(15,_),(16,_),(17,_),(18,_),(19,_),(20,_),(21,_)],[(102,_),(103,_),(104,_),(105,.box 37 (gj x_35))]⟩) rfl ⟨fun _=>.p (lp aU),fun _=>.p om,fun _=>.p om,fun _=>.p (an mZ (aL e56) (aB (e:=dC) e56) rfl rfl),fun _=>by exact .p (cH oo rfl rfl),fun _=>.p (fl gb rfl rfl rfl),fun _=>.p (az (mT e57) goes18 rfl rfl),trivial⟩ ⟨_,by exact .p (aR cP rfl rfl rfl rfl (Nat.le_of_ble_eq_true rfl) rfl),rfl⟩ rfl ?_
          exact Fin.join [6,15,16,17,18,19,20,21] [102,103,104,105] (x_33,0,x_32,x_35) (Option.some.inj h46) rfl
        ·rintro ⟨out_18,e_19,next_20,x_21⟩ hv
         subst v45
         refine ab.seq (ab.seq (ab.aa ?_))
         refine Oc (lp aU) (Oc (ae sE rfl rfl) (Oc (lp aU) ?_))
         obtain ⟨x_36,e58,h32⟩:=aP h32
         refine Oc (az (gL e58) yf rfl rfl) (Oc (cL rfl) ?_)
         refine af.ai ⟨[(6,_),(15,_),(16,_),(17,_),(18,_),(19,_),(20,_),(21,_),(161,B (!x_36))],[(102,_),(103,_),(104,_),(105,_)]⟩ rfl (Oc om (bF (!(!x_36)) [] (fun g59=>by exact trivial) (fun g59=>om) (bF (!(!x_36)) [] (fun g60=>by exact trivial) (fun g60=>ae sD rfl rfl) (bF (!(!x_36)) [164] (fun g61=>by exact ⟨g61,trivial⟩) (fun g61=>ag jX rfl rfl rfl) ?_))))
         obtain ⟨x_37,e63,h32⟩:=aP h32
         refine bF (!(!x_36)) [163,165] (fun g62=>⟨g62,g62,trivial⟩) (fun g62=>az (gu (gc e63 g62)) ye rfl rfl) (bF (!(!x_36)) [166] (fun g64=>⟨g64,trivial⟩) (fun g64=>cL rfl) (af.ai ⟨[(6,_),(15,_),(17,_),(18,_),(19,_),(20,_),(21,_),(162,B (!x_36)),(167,.opt (!(!x_36)) (.one (.bool (!x_37))))],[(102,_),(103,_),(104,_),(105,_)]⟩ rfl (Oc (aF (fun e=>by first | (rw [e]; rfl) | (simp only at e; rw [e]; rfl)) rfl rfl rfl rfl) (Oc om ?_))))
         refine bF (!((!x_36) || (!x_37))) [] (fun g65=>trivial) (fun g65=>om) (bF (!((!x_36) || (!x_37))) [] (fun g66=>by exact trivial) (fun g66=>ae sC rfl rfl) (bF (!((!x_36) || (!x_37))) [171] (fun g67=>by exact ⟨g67,trivial⟩) (fun g67=>ag wb rfl rfl rfl) (bF (!((!x_36) || (!x_37))) [170,172] (fun g68=>by exact ⟨g68,g68,trivial⟩) (fun g68=>cY rfl rfl) (Oc (aF (fun e=>by first | (rw [e]; rfl) | (simp only at e; rw [e]; rfl)) rfl rfl rfl rfl) (af.ak ⟨[(6,_),(15,_),(17,_),(18,_),(19,_),(20,_),(174,B (((!x_36) || (!x_37)) || (decide (e_19 ≠ x_21.E))))],[(102,_),(103,_),(104,_)]⟩ rfl ?_)))))
         refine ab.ite h32 rfl (fun _ h32=>?_) (fun _ h32=>?_)
         ·refine ab.seq (ab.aa ?_)
          refine Oc oa (af.ak ⟨[(14,B false)],[]⟩ rfl (ab.ret (Fin.aw (Fin.aJ ?_))))
          obtain rfl:=Option.some.inj h32
          refine Fin.aw ?_
          obtain rfl:=hy30 _ (Option.some.inj h29).symm
          refine Fin.aw (Fin.aJ (Fin.aw ?_))
          obtain rfl:=Option.some.inj h
          refine Fin.ai ⟨[(14,_)],[]⟩ rfl (Fin.aM [.one (.bool false)] (.inl rfl) rfl (.cons (.tmp rfl) .nil) ⟨rfl,rfl⟩)
         ·refine ab.skip (Fin.ai ⟨[(6,_),(15,_),(17,_),(18,_),(19,_),(20,_)],[(102,_),(103,_),(104,_)]⟩ rfl (Fin.then ?_))
          obtain ⟨v69,h70,h32⟩:=aP h32
          refine ab.ca (v:=v69) (fun (r_38:Round)=>⟨[(6,.b (.one (.sl 10 (l0.map dC)))),(15,Pt 102 0),(18,Pt 103 0),(19,I i_12)],[(102,.box 31 (ay r_38)),(103,.box 37 (gj x_7))]⟩) (fun z=>z) ?_ ?_
          ·refine ab.seq (ab.aa ?_)
           refine Oc om (Oc (di rfl rfl) ?_)
           refine af.ak ⟨[(6,_),(15,_),(18,_),(19,_),(20,_),(176,B (decide (e_19 = 0)))],[(102,_),(103,_),(104,_)]⟩ rfl (ab.ite h70 rfl (fun _ h70=>?_) (fun _ h70=>?_))
           ·refine ab.aa (Oc (lp aU) (Oc (aR aU rfl rfl rfl rfl (Nat.le_of_ble_eq_true rfl) rfl) ?_))
            refine af.nil ?_
            exact Fin.join [6,15,18,19] [102,103] next_20 (Option.some.inj h70) rfl
           ·refine ab.skip ?_
            exact Fin.join [6,15,18,19] [102,103] r_11 (Option.some.inj h70) rfl
          ·rintro r_38 hv
           subst v69
           refine ab.seq (ab.ai ⟨[(6,_),(15,_),(18,_),(19,_)],[(102,_),(103,_)]⟩ rfl ?_)
           obtain ⟨x_39,e71,h32⟩:=aP h32
           obtain ⟨x_40,e72,h32⟩:=aP h32
           obtain ⟨x_41,e73,h32⟩:=aP h32
           obtain ⟨x_42,e76,h32⟩:=aP h32
           obtain ⟨x_43,e79,h32⟩:=aP h32
           refine ab.eX mixed 13 [.b (.agg (ay r_38)),.b (.one (.sl 1 (x_39.map eI))),.b (.agg (ay r_38)),.b (.one (.sl 1 (x_40.map eI))),B x_41,B (!x_41),B (!x_41),.opt (!(!x_41)) (.agg (ay r_38)),.opt (!(!x_41)) (.one (.bool x_42)),.opt (!(!x_41)) (.agg (ay r_38)),.opt (!(!x_41)) (.one (.bool x_43)),.opt (!(!x_41)) (.one (.bool (x_42 != x_43))),B ((!x_41) || (x_42 != x_43))] [6,15,18,19,190] [102,103] (s':=⟨[(6,_),(15,_),(18,_),(19,_),(190,B ((!x_41) || (x_42 != x_43)))],[(102,_),(103,_)]⟩) rfl ⟨fun _=>.p (lp aU),fun _=>.p (az (jV 0 e71).fp ve rfl rfl),fun _=>.p (lp aU),fun _=>.p (az (mi 0 e72).fp goes21 rfl rfl),fun _=>.p (az (dw e73) qe rfl rfl),fun _=>.p (cL rfl),fun _=>.p om,fun _=>by exact .guard (!(!x_41)) 1 [] (.plain rfl) (dQ _) rfl rfl (fun g74=>trivial) (fun g74=>lp aU),fun _=>by exact .guard (!(!x_41)) 3 [185] (.plain rfl) (dQ _) rfl rfl (fun g75=>⟨g75,trivial⟩) (fun g75=>az (iN (gc e76 g75)) vd rfl rfl),fun _=>by exact .guard (!(!x_41)) 1 [] (.plain rfl) (dQ _) rfl rfl (fun g77=>trivial) (fun g77=>lp aU),fun _=>by exact .guard (!(!x_41)) 3 [187] (.plain rfl) (dQ _) rfl rfl (fun g78=>⟨g78,trivial⟩) (fun g78=>az (kK (gc e79 g78)) goes23 rfl rfl),fun _=>by exact .guard (!(!x_41)) 3 [186,188] (.plain rfl) (dQ _) rfl rfl (fun g80=>⟨g80,g80,trivial⟩) (fun g80=>lU xr rfl rfl),fun _=>.p (aF (fun e=>by first | (rw [e]; rfl) | (simp only at e; rw [e]; rfl)) rfl rfl rfl rfl),trivial⟩ rfl rfl (ab.ite h32 rfl (fun _ h32=>?_) (fun _ h32=>?_))
           ·refine ab.seq (ab.aa ?_)
            refine Oc oa (af.ak ⟨[(14,B false)],[]⟩ rfl (ab.ret (Fin.aJ ?_)))
            obtain rfl:=Option.some.inj h32
            refine Fin.aw ?_
            obtain rfl:=hy30 _ (Option.some.inj h29).symm
            refine Fin.aw (Fin.aJ (Fin.aw ?_))
            obtain rfl:=Option.some.inj h
            refine Fin.ai ⟨[(14,_)],[]⟩ rfl (Fin.aM [.one (.bool false)] (.inl rfl) rfl (.cons (.tmp rfl) .nil) ⟨rfl,rfl⟩)
           ·refine ab.skip (Fin.ar ?_)
            exact Fin.join [6,15,18,19] [102,103] r_38 (Option.some.inj h32) rfl
      ·rintro r_13 hv
       subst v31
       refine ab.aa (Oc om (Oc (bh rfl rfl) (Oc oa ?_)))
       refine af.nil ?_
       exact Fin.bp [6,15,18,19] [102,103] (r_13,IntKind.i64.wrap (i_12 + 1)) (Option.some.inj h29) rfl
     ·refine ab.exit (Fin.aq ?_)
      obtain rfl:=hy30 _ (Option.some.inj h29).symm
      refine Fin.aq (Fin.aE ?_)
      exact Fin.join [] [] () rfl rfl
    ·rintro _ hv
     subst v26
     refine ab.seq (ab.aa ?_)
     obtain ⟨x_44,e81,h⟩:=aP h
     refine Oc (az (eD e81) tg rfl rfl) (Oc oa ?_)
     refine af.ak ⟨[(14,B x_44)],[]⟩ rfl (ab.ret ?_)
     obtain rfl:=Option.some.inj h
     refine Fin.ai ⟨[(14,_)],[]⟩ rfl (Fin.aM [.one (.bool x_44)] (.inl rfl) rfl (.cons (.tmp rfl) .nil) ⟨rfl,rfl⟩)
end Go.Proofs.Ytnpddoaeoefcnaa

