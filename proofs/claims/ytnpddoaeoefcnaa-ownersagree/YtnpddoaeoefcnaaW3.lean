/- printed walks -/
import Derived.Test.YtnpddoaeoefcnaaW2
namespace Go.Proofs.Ytnpddoaeoefcnaa
open Go.Sk Go
set_option maxHeartbeats 4000000
set_option maxRecDepth 4000
set_option linter.unusedSimpArgs false
set_option linter.unusedVariables false
def cq (F:Nat) (regions0:Int) (home0:List Int) (found0:List (List (List Int))) (l0:List Int):Option Bool :=
 bR (((decide (regions0 < 1)) || (decide (4 < regions0))) || (decide (12 < (home0.length:Int)))) fun x_1=>bR ((x_1 || (decide ((found0.length:Int) ≠ regions0))) || (decide (60 < (l0.length:Int)))) fun x_2=>(aM (!x_2) (bW F home0 regions0)).bind fun x_3=>if (x_2 || (!x_3)) = true then ((bn F).bind fun x_4=>some x_4) else (Option.bind (iter F (vX fun rounds_8 way_9 all_10 me_11=>if (decide (me_11 < regions0)) = true then (Option.bind ((aT found0 me_11).bind fun x_18=>(dG F x_18).bind fun x_19=>(aM (!(!x_19)) (aT found0 me_11)).bind fun x_20=>(aM (!(!x_19)) (bU F home0 x_20)).bind fun x_21=>if ((!x_19) || (!x_21)) = true then ((bn F).bind fun x_22=>some (.inr x_22)) else ((aT found0 me_11).bind fun x_23=>(dF all_10 x_23).bind fun x_24=>Option.bind (mk? ([]:Str) (home0.length:Int) (home0.length:Int)) (fun x_25=>Option.bind (iter F (eD fun states_27 b_28=>if (decide (b_28 < (home0.length:Int))) = true then (Option.bind ((aT home0 b_28).bind fun x_31=>if (decide (x_31 = me_11)) = true then ((bu F b_28).bind fun x_32=>(aT states_27 b_28).bind fun x_33=>some (states_27.set (b_28:Int).toNat x_32)) else (some states_27)) (fun states_30=>some (.inl (states_30,IntKind.i64.wrap (b_28 + 1))))) else (some (.inr states_27))) (x_25,0)) (fun states_26=>(aT found0 me_11).bind fun x_34=>Option.bind (cL F me_11 regions0 3 home0 x_34 states_26) (ml fun x_35 x_36 x_37=>if (decide (x_37 ≠ 0)) = true then (some (.inr false)) else ((dF rounds_8 [x_35]).bind fun x_38=>(dF way_9 x_36).bind fun x_39=>some (.inl (x_38,x_39,x_24)))))))) (bH (ml fun rounds_15 way_16 all_17=>some (.inl (rounds_15,way_16,all_17,IntKind.i64.wrap (me_11 + 1)))) (fun y=>some (.inr (.inr y))))) else (some (.inr (.inl (rounds_8,way_9,all_10))))) ([],[],[],0)) (bH (ml fun rounds_5 way_6 all_7=>Option.bind (iter F (ml fun rounds_41 way_42 i_43=>bR ((decide (i_43 ≤ (l0.length:Int))) || (decide (0 < (way_42.length:Int)))) fun x_45=>if x_45 = true then (Option.bind (Option.bind (if (decide (i_43 < (l0.length:Int))) = true then ((aT l0 i_43).bind fun x_50=>some (IntKind.i64.wrap x_50,decide ((Int.tmod (IntKind.i64.wrap x_50) 5) = 0))) else (some (0,false))) (eD fun n_48 keep_49=>Option.bind (if (decide (0 < (way_42.length:Int))) = true then ((te .i64 n_48 5).bind fun x_53=>(vZ x_53 (way_42.length:Int)).bind fun x_54=>(aT way_42 x_54).bind fun x_55=>(aT rounds_41 x_55.To).bind fun x_56=>Option.bind (cD F x_56 x_55) (eD fun x_57 x_58=>(aT rounds_41 x_55.To).bind fun x_59=>Option.bind (if (!keep_49) = true then ((rG way_42 x_54).bind fun x_61=>(dF [] x_61).bind fun x_62=>(qv way_42 (IntKind.i64.wrap (x_54 + 1))).bind fun x_63=>(dF x_62 x_63).bind fun x_64=>some x_64) else (some way_42)) (fun way_60=>(dF way_60 x_58).bind fun x_65=>some (rounds_41.set (x_55.To:Int).toNat x_57,x_65)))) else (some (rounds_41,way_42))) (eD fun rounds_51 way_52=>if (decide ((Int.tmod n_48 3) = 0)) = true then (Option.bind (iter F (ml fun rounds_66 way_67 me_68=>if (decide (me_68 < regions0)) = true then (Option.bind ((aT rounds_66 me_68).bind fun x_73=>(cY F x_73).bind fun x_74=>Option.bind (iter F (ml fun rounds_75 way_76 k_77=>if (decide (k_77 < (x_74.length:Int))) = true then ((aT rounds_75 me_68).bind fun x_80=>(aT x_74 k_77).bind fun x_81=>(aT x_80.Tasks x_81).bind fun x_82=>(aT rounds_75 me_68).bind fun x_83=>(aT x_74 k_77).bind fun x_84=>(bG F x_82.Bodies).bind fun x_85=>Option.bind (c8 F x_83 x_84 x_85) (ml fun x_86 x_87 x_88=>(aM (!(decide (x_88 ≠ 0))) (aT rounds_75 me_68)).bind fun x_89=>(aM (!(decide (x_88 ≠ 0))) (bL F x_89 x_82.Bodies)).bind fun x_90=>if ((decide (x_88 ≠ 0)) || (!x_90)) = true then (some (.inr (.inr false))) else ((aT rounds_75 me_68).bind fun x_91=>(dF way_76 x_87).bind fun x_92=>some (.inl (rounds_75.set (me_68:Int).toNat x_86,x_92,IntKind.i64.wrap (k_77 + 1)))))) else (some (.inr (.inl (rounds_75,way_76))))) (rounds_66,way_67,0)) (bH (eD fun rounds_78 way_79=>some (.inl (rounds_78,way_79))) (fun y=>some (.inr y)))) (bH (eD fun rounds_71 way_72=>some (.inl (rounds_71,way_72,IntKind.i64.wrap (me_68 + 1)))) (fun y=>some (.inr (.inr y))))) else (some (.inr (.inl (rounds_66,way_67))))) (rounds_51,way_52,0)) (bH (eD fun rounds_69 way_70=>some (.inl (rounds_69,way_70))) (fun y=>some (.inr y)))) else (some (.inl (rounds_51,way_52)))))) (bH (eD fun rounds_46 way_47=>some (.inl (rounds_46,way_47,IntKind.i64.wrap (i_43 + 1)))) (fun y=>some (.inr (.inr y))))) else (some (.inr (.inl rounds_41)))) (rounds_5,way_6,0)) (bH (fun rounds_40=>Option.bind (iter F (eD fun all_94 b_95=>if (decide (b_95 < (home0.length:Int))) = true then (Option.bind ((aT home0 b_95).bind fun x_98=>if (decide (0 ≤ x_98)) = true then ((dF all_94 [[b_95]]).bind fun x_99=>some x_99) else (some all_94)) (fun all_97=>some (.inl (all_97,IntKind.i64.wrap (b_95 + 1))))) else (some (.inr all_94))) (all_7,0)) (fun all_93=>(bT F [all_93]).bind fun x_100=>Option.bind (iter F (fun me_101=>if (decide (me_101 < regions0)) = true then (Option.bind ((aT rounds_40 me_101).bind fun x_102=>(cb F x_102).bind fun x_103=>(aM (!(!x_103)) (aT rounds_40 me_101)).bind fun x_104=>(aM (!(!x_103)) (aT rounds_40 0)).bind fun x_105=>(aM (!(!x_103)) (bt F x_104.Tasks x_105.Tasks)).bind fun x_106=>(aM (!((!x_103) || (!x_106))) (aT rounds_40 me_101)).bind fun x_107=>if (((!x_103) || (!x_106)) || (decide ((x_107.Tasks.length:Int) ≠ (x_100.length:Int)))) = true then (some (.inr false)) else (Option.bind (iter F (fun i_108=>if (decide (i_108 < (x_100.length:Int))) = true then (Option.bind ((aT x_100 i_108).bind fun x_109=>(bG F x_109).bind fun x_110=>(aT rounds_40 me_101).bind fun x_111=>(aT x_111.Tasks i_108).bind fun x_112=>(aT x_100 i_108).bind fun x_113=>(bI F x_112.Bodies x_113).bind fun x_114=>if (!x_114) = true then (some (.inr false)) else (Option.bind (iter F (fun k_115=>(aT x_100 i_108).bind fun x_116=>if (decide (k_115 < (x_116.length:Int))) = true then ((aT x_100 i_108).bind fun x_117=>(aT x_117 k_115).bind fun x_118=>(aT home0 x_118).bind fun x_119=>(aM (decide (x_119 = me_101)) (aT rounds_40 me_101)).bind fun x_120=>(aM (decide (x_119 = me_101)) (aT x_120.Results x_118)).bind fun x_121=>(aM (decide (x_119 = me_101)) (aT x_110 k_115)).bind fun x_122=>if ((decide (x_119 = me_101)) && (decide (x_121 ≠ x_122))) = true then (some (.inr (.inr false))) else (some (.inl (IntKind.i64.wrap (k_115 + 1))))) else (some (.inr (.inl ())))) 0) (bH (fun _=>some (.inl ())) (fun y=>some (.inr y))))) (bH (fun _=>some (.inl (IntKind.i64.wrap (i_108 + 1)))) (fun y=>some (.inr (.inr y))))) else (some (.inr (.inl ())))) 0) (bH (fun _=>some (.inl ())) (fun y=>some (.inr y))))) (bH (fun _=>some (.inl (IntKind.i64.wrap (me_101 + 1)))) (fun y=>some (.inr (.inr y))))) else (some (.inr (.inl ())))) 0) (bH (fun _=>(bn F).bind fun x_123=>some x_123) (fun y=>some y)))) (fun y=>some y))) (fun y=>some y)))
theorem iU {F:Nat} {regions0:Int} {home0:List Int} {found0:List (List (List Int))} {l0:List Int} {r:Bool} (h:cq F regions0 home0 found0 l0 = some r):aC Try.prog [] 5 [] [.one (.i regions0),.one (.sl 1 (home0.map eI)),.one (.sl 1 (found0.map (eL 1 (eL 1 eI)))),.one (.sl 1 (l0.map (eK .u8)))] (Is [] (.b (.one (.bool r)))):=by
 unfold cq at h
 refine aC.intro 384 Try.func5 Try.ntmps5 rfl (by simp) fun E=>?_
 show ab _ E ⟨384,[],[],[]⟩ _ ⟨[(0,I regions0),(1,.b (.one (.sl 1 (home0.map eI)))),(2,.b (.one (.sl 1 (found0.map (eL 1 (eL 1 eI)))))),(3,.b (.one (.sl 1 (l0.map (eK .u8)))))],[]⟩ _
 refine ab.seq (ab.aa ?_)
 refine Oc oa (ae.ak ⟨[(0,I regions0),(1,.b (.one (.sl 1 (home0.map eI)))),(2,.b (.one (.sl 1 (found0.map (eL 1 (eL 1 eI)))))),(3,.b (.one (.sl 1 (l0.map (eK .u8)))))],[]⟩ rfl (ab.seq (ab.seq (ab.aa ?_))))
 refine Oc om (Oc (bm rfl rfl) (Oc om ?_))
 refine cr (!(decide (regions0 < 1))) [] (fun g1=>trivial) (fun g1=>om) (cr (!(decide (regions0 < 1))) [42] (fun g2=>by exact ⟨g2,trivial⟩) (fun g2=>jO rfl rfl) (Oc (aL (fun e=>by first | (rw [e]; rfl) | (simp only at e; rw [e]; rfl)) rfl rfl rfl rfl) (Oc om ?_)))
 refine ae.ah ⟨[(0,_),(1,_),(2,_),(3,_),(45,B ((decide (regions0 < 1)) || (decide (4 < regions0))))],[]⟩ rfl (cr (!((decide (regions0 < 1)) || (decide (4 < regions0)))) [] (fun g3=>trivial) (fun g3=>om) (cr (!((decide (regions0 < 1)) || (decide (4 < regions0)))) [46] (fun g4=>by exact ⟨g4,trivial⟩) (fun g4=>ay cc rfl (List.length_map _)) (cr (!((decide (regions0 < 1)) || (decide (4 < regions0)))) [47] (fun g5=>by exact ⟨g5,trivial⟩) (fun g5=>jO rfl rfl) (ae.iC h rfl (aL (fun e=>by first | (rw [e]; rfl) | (simp only at e; rw [e]; rfl)) rfl rfl rfl rfl) (fun x_1 h=>?_)))))
 refine Oc om (cr (!x_1) [] (fun g6=>by exact trivial) (fun g6=>om) (ae.ah ⟨[(0,_),(1,_),(2,_),(3,_),(50,B x_1),(51,.opt (!x_1) (.one (.sl 1 (found0.map (eL 1 (eL 1 eI))))))],[]⟩ rfl (cr (!x_1) [51] (fun g7=>by exact ⟨g7,trivial⟩) (fun g7=>ay und60 rfl (List.length_map _)) (cr (!x_1) [] (fun g8=>by exact trivial) (fun g8=>om) (cr (!x_1) [52,53] (fun g9=>by exact ⟨g9,g9,trivial⟩) (fun g9=>dg rfl rfl) ?_)))))
 refine Oc (aL (fun e=>by first | (rw [e]; rfl) | (simp only at e; rw [e]; rfl)) rfl rfl rfl rfl) (Oc om ?_)
 refine cr (!(x_1 || (decide ((found0.length:Int) ≠ regions0)))) [] (fun g10=>trivial) (fun g10=>om) (cr (!(x_1 || (decide ((found0.length:Int) ≠ regions0)))) [57] (fun g11=>by exact ⟨g11,trivial⟩) (fun g11=>ay vt rfl (List.length_map _)) (ae.ah ⟨[(0,_),(1,_),(2,_),(3,_),(56,B (x_1 || (decide ((found0.length:Int) ≠ regions0)))),(58,.opt (!(x_1 || (decide ((found0.length:Int) ≠ regions0)))) (.one (.i (l0.length:Int))))],[]⟩ rfl (cr (!(x_1 || (decide ((found0.length:Int) ≠ regions0)))) [58] (fun g12=>by exact ⟨g12,trivial⟩) (fun g12=>jO rfl rfl) (ae.iC h rfl (aL (fun e=>by first | (rw [e]; rfl) | (simp only at e; rw [e]; rfl)) rfl rfl rfl rfl) (fun x_2 h=>?_)))))
 refine Oc om (cr (!x_2) [] (fun g13=>by exact trivial) (fun g13=>om) (cr (!x_2) [] (fun g14=>by exact trivial) (fun g14=>om) ?_))
 obtain ⟨x_3,e16,h⟩:=aR h
 refine cr (!x_2) [62,63] (fun g15=>⟨g15,g15,trivial⟩) (fun g15=>aH (kv (gc e16 g15)) goes24 rfl rfl) (cr (!x_2) [64] (fun g17=>⟨g17,trivial⟩) (fun g17=>dv rfl) (Oc (aL (fun e=>by first | (rw [e]; rfl) | (simp only at e; rw [e]; rfl)) rfl rfl rfl rfl) (ae.ak ⟨[(0,_),(1,_),(2,_),(3,_),(66,B (x_2 || (!x_3)))],[]⟩ rfl (ab.ite h rfl (fun _ h=>?_) (fun _ h=>?_)))))
 ·refine ab.seq (ab.aa ?_)
  obtain ⟨x_4,e18,h⟩:=aR h
  refine Oc (aH (dV e18) uI rfl rfl) (Oc oa ?_)
  refine ae.ak ⟨[(8,B x_4)],[]⟩ rfl (ab.ret (Fin.aq ?_))
  obtain rfl:=Option.some.inj h
  refine Fin.ah ⟨[(8,_)],[]⟩ rfl (Fin.bd [.one (.bool x_4)] (.inl rfl) rfl (.cons (.tmp rfl) .nil) ⟨rfl,rfl⟩)
 ·refine ab.skip (Fin.ah ⟨[(0,_),(1,_),(2,_),(3,_)],[]⟩ rfl (Fin.then (ab.seq (ab.aa ?_))))
  refine Oc oa (ae.ak ⟨[(0,_),(1,_),(2,_),(3,_),(9,.b (.one (.nil)))],[]⟩ rfl (ab.seq (ab.aa ?_)))
  refine Oc oa (ae.ak ⟨[(0,_),(1,_),(2,_),(3,_),(9,_),(10,.b (.one (.nil)))],[]⟩ rfl (ab.seq (ab.aa ?_)))
  refine Oc oa (ae.ak ⟨[(0,_),(1,_),(2,_),(3,_),(9,_),(10,_),(11,.b (.one (.nil)))],[]⟩ rfl ?_)
  obtain ⟨v19,h20,h⟩:=aR h
  refine ab.cJ (v:=v19) (ml fun (rounds_5:List Round) (way_6:List au) (all_7:List (List Int))=>⟨[(0,I regions0),(1,.b (.one (.sl 1 (home0.map eI)))),(3,.b (.one (.sl 1 (l0.map (eK .u8))))),(9,.b (.row 106)),(10,.b (.row 107)),(11,.b (.row 101))],[(101,.row 22 1 (all_7.map (eL 1 eI))),(106,.row 31 10 (rounds_5.map aj)),(107,.row 42 7 (way_6.map af))]⟩) (fun z=>.inl z) ?_ ?_
  ·refine ab.seq (ab.aa ?_)
   refine Oc oa (ae.ak ⟨[(0,_),(1,_),(2,_),(3,_),(9,_),(10,_),(11,_),(12,I 0)],[]⟩ rfl (ab.block (ab.cT 9 106 10 31 rfl (by decide) rfl (ab.cT 10 107 7 42 rfl (by decide) rfl (ab.cT 11 101 1 22 rfl (by decide) rfl ?_)))))
   refine ab.ct h20 (vX fun (rounds_8:List Round) (way_9:List au) (all_10:List (List Int)) (me_11:Int)=>⟨[(0,I regions0),(1,.b (.one (.sl 1 (home0.map eI)))),(2,.b (.one (.sl 1 (found0.map (eL 1 (eL 1 eI)))))),(3,.b (.one (.sl 1 (l0.map (eK .u8))))),(9,.b (.row 106)),(10,.b (.row 107)),(11,.b (.row 101)),(12,I me_11)],[(101,.row 22 1 (all_10.map (eL 1 eI))),(106,.row 31 10 (rounds_8.map aj)),(107,.row 42 7 (way_9.map af))]⟩) [0,1,2,3,9,10,11,12] [101,106,107] rfl ?_
   rintro ⟨rounds_8,way_9,all_10,me_11⟩ o21 h22 hy23
   refine ab.seq (ab.seq (ab.aa ?_))
   refine Oc om (Oc om (Oc (bm rfl rfl) ?_))
   refine ae.ak ⟨[(0,_),(1,_),(2,_),(3,_),(9,_),(10,_),(11,_),(12,_),(70,B (decide (me_11 < regions0)))],[(101,_),(106,_),(107,_)]⟩ rfl (ab.ite h22 rfl (fun _ h22=>?_) (fun _ h22=>?_))
   ·refine ab.skip (Fin.ah ⟨[(0,_),(1,_),(2,_),(3,_),(9,_),(10,_),(11,_),(12,_)],[(101,_),(106,_),(107,_)]⟩ rfl (Fin.then ?_))
    obtain ⟨v24,h25,h22⟩:=aR h22
    refine ab.cJ (v:=v24) (ml fun (rounds_15:List Round) (way_16:List au) (all_17:List (List Int))=>⟨[(0,I regions0),(1,.b (.one (.sl 1 (home0.map eI)))),(2,.b (.one (.sl 1 (found0.map (eL 1 (eL 1 eI)))))),(3,.b (.one (.sl 1 (l0.map (eK .u8))))),(9,.b (.row 106)),(10,.b (.row 107)),(11,.b (.row 101)),(12,I me_11)],[(101,.row 22 1 (all_17.map (eL 1 eI))),(106,.row 31 10 (rounds_15.map aj)),(107,.row 42 7 (way_16.map af))]⟩) (fun z=>.inl z) ?_ ?_
    ·refine ab.block (ab.seq (ab.seq (ab.aa ?_)))
     refine Oc om (Oc om ?_)
     obtain ⟨x_18,e26,h25⟩:=aR h25
     refine Oc (ar jt (aK e26) (aE (e:=(eL 1 (eL 1 eI))) e26) rfl rfl) (Oc (aw gF rfl rfl) ?_)
     obtain ⟨x_19,e27,h25⟩:=aR h25
     refine Oc (aH (l7 e27) goes9 rfl rfl) (ae.ah ⟨[(0,_),(1,_),(2,_),(3,_),(9,_),(10,_),(11,_),(12,_),(77,B x_19)],[(101,_),(106,_),(107,_)]⟩ rfl (Oc (dv rfl) (Oc om ?_)))
     refine cr (!(!x_19)) [] (fun g28=>trivial) (fun g28=>om) (cr (!(!x_19)) [] (fun g29=>by exact trivial) (fun g29=>om) (cr (!(!x_19)) [] (fun g30=>by exact trivial) (fun g30=>om) ?_))
     obtain ⟨x_20,e32,h25⟩:=aR h25
     refine cr (!(!x_19)) [81,82] (fun g31=>⟨g31,g31,trivial⟩) (fun g31=>ar jt (aK (gc e32 g31)) (aE (e:=(eL 1 (eL 1 eI))) (gc e32 g31)) rfl rfl) (cr (!(!x_19)) [83] (fun g33=>⟨g33,trivial⟩) (fun g33=>aw gF rfl rfl) (ae.ah ⟨[(0,_),(1,_),(2,_),(3,_),(9,_),(10,_),(11,_),(12,_),(79,B (!x_19)),(80,.opt (!(!x_19)) (.one (.sl 1 (home0.map eI)))),(84,.opt (!(!x_19)) (.one (.sl 1 (x_20.map (eL 1 eI)))))],[(101,_),(106,_),(107,_)]⟩ rfl ?_))
     obtain ⟨x_21,e35,h25⟩:=aR h25
     refine cr (!(!x_19)) [80,84] (fun g34=>⟨g34,g34,trivial⟩) (fun g34=>aH (ko (gc e35 g34)) goes25 rfl rfl) (cr (!(!x_19)) [85] (fun g36=>⟨g36,trivial⟩) (fun g36=>dv rfl) (Oc (aL (fun e=>by first | (rw [e]; rfl) | (simp only at e; rw [e]; rfl)) rfl rfl rfl rfl) (ae.ak ⟨[(0,_),(1,_),(2,_),(3,_),(9,_),(10,_),(11,_),(12,_),(87,B ((!x_19) || (!x_21)))],[(101,_),(106,_),(107,_)]⟩ rfl (ab.ite h25 rfl (fun _ h25=>?_) (fun _ h25=>?_)))))
     ·refine ab.seq (ab.aa ?_)
      obtain ⟨x_22,e37,h25⟩:=aR h25
      refine Oc (aH (dV e37) uI rfl rfl) (Oc oa ?_)
      refine ae.ak ⟨[(8,B x_22)],[]⟩ rfl (ab.ret (Fin.aq (Fin.aD ?_)))
      obtain rfl:=Option.some.inj h25
      refine Fin.aq ?_
      obtain rfl:=hy23 _ (Option.some.inj h22).symm
      refine Fin.aq (Fin.aD (Fin.aq ?_))
      obtain rfl:=Option.some.inj h
      refine Fin.ah ⟨[(8,_)],[]⟩ rfl (Fin.bd [.one (.bool x_22)] (.inl rfl) rfl (.cons (.tmp rfl) .nil) ⟨rfl,rfl⟩)
     ·refine ab.skip (Fin.ah ⟨[(0,_),(1,_),(2,_),(3,_),(9,_),(10,_),(11,_),(12,_)],[(101,_),(106,_),(107,_)]⟩ rfl (Fin.then (ab.seq (ab.aa ?_))))
      refine Oc om (Oc om (Oc om ?_))
      obtain ⟨x_23,e38,h25⟩:=aR h25
      refine Oc (ar jt (aK e38) (aE (e:=(eL 1 (eL 1 eI))) e38) rfl rfl) (Oc (aw gF rfl rfl) ?_)
      obtain ⟨x_24,e39,h25⟩:=aR h25
      refine Oc (iJ er (gn e39) (gm e39) rfl rfl rfl (dt e39) rfl) (Oc oa ?_)
      refine ae.ak ⟨[(0,_),(1,_),(2,_),(3,_),(9,_),(10,_),(11,_),(12,_)],[(101,.row 22 1 (x_24.map (eL 1 eI))),(106,_),(107,_)]⟩ rfl (ab.seq (ab.aa ?_))
      refine Oc om (Oc (ay cc rfl (List.length_map _)) ?_)
      obtain ⟨x_25,e40,h25⟩:=aR h25
      refine Oc (ee (k:=108) (enc:=eS) cS e40 (by decide) (.cons .refl .nil) rfl rfl rfl) (Oc oa ?_)
      refine ae.ak ⟨[(0,_),(1,_),(2,_),(3,_),(9,_),(10,_),(11,_),(12,_),(13,.b (.row 108))],[(101,_),(106,_),(107,_),(108,.row 9 1 (x_25.map eS))]⟩ rfl ?_
      obtain ⟨v41,h42,h25⟩:=aR h25
      refine ab.cJ (v:=v41) (fun (states_26:List Str)=>⟨[(0,I regions0),(1,.b (.one (.sl 1 (home0.map eI)))),(2,.b (.one (.sl 1 (found0.map (eL 1 (eL 1 eI)))))),(3,.b (.one (.sl 1 (l0.map (eK .u8))))),(9,.b (.row 106)),(10,.b (.row 107)),(11,.b (.row 101)),(12,I me_11),(13,.b (.row 108))],[(101,.row 22 1 (x_24.map (eL 1 eI))),(106,.row 31 10 (rounds_8.map aj)),(107,.row 42 7 (way_9.map af)),(108,.row 9 1 (states_26.map eS))]⟩) (fun z=>z) ?_ ?_
      ·refine ab.seq (ab.aa ?_)
       refine Oc oa (ae.ak ⟨[(0,_),(1,_),(2,_),(3,_),(9,_),(10,_),(11,_),(12,_),(13,_),(14,I 0)],[(101,_),(106,_),(107,_),(108,_)]⟩ rfl (ab.block (ab.ct h42 (eD fun (states_27:List Str) (b_28:Int)=>⟨[(0,I regions0),(1,.b (.one (.sl 1 (home0.map eI)))),(2,.b (.one (.sl 1 (found0.map (eL 1 (eL 1 eI)))))),(3,.b (.one (.sl 1 (l0.map (eK .u8))))),(9,.b (.row 106)),(10,.b (.row 107)),(11,.b (.row 101)),(12,I me_11),(13,.b (.row 108)),(14,I b_28)],[(101,.row 22 1 (x_24.map (eL 1 eI))),(106,.row 31 10 (rounds_8.map aj)),(107,.row 42 7 (way_9.map af)),(108,.row 9 1 (states_27.map eS))]⟩) [0,1,2,3,9,10,11,12,13,14] [101,106,107,108] rfl ?_)))
       rintro ⟨states_27,b_28⟩ o43 h44 hy45
       refine ab.seq (ab.seq (ab.aa ?_))
       refine Oc om (Oc om (Oc (ay cc rfl (List.length_map _)) (Oc (bm rfl rfl) ?_)))
       refine ae.ak ⟨[(0,_),(1,_),(2,_),(3,_),(9,_),(10,_),(11,_),(12,_),(13,_),(14,_),(101,B (decide (b_28 < (home0.length:Int))))],[(101,_),(106,_),(107,_),(108,_)]⟩ rfl (ab.ite h44 rfl (fun _ h44=>?_) (fun _ h44=>?_))
       ·refine ab.skip (Fin.ah ⟨[(0,_),(1,_),(2,_),(3,_),(9,_),(10,_),(11,_),(12,_),(13,_),(14,_)],[(101,_),(106,_),(107,_),(108,_)]⟩ rfl (Fin.then ?_))
        obtain ⟨v46,h47,h44⟩:=aR h44
        refine ab.cJ (v:=v46) (fun (states_30:List Str)=>⟨[(0,I regions0),(1,.b (.one (.sl 1 (home0.map eI)))),(2,.b (.one (.sl 1 (found0.map (eL 1 (eL 1 eI)))))),(3,.b (.one (.sl 1 (l0.map (eK .u8))))),(9,.b (.row 106)),(10,.b (.row 107)),(11,.b (.row 101)),(12,I me_11),(13,.b (.row 108)),(14,I b_28)],[(101,.row 22 1 (x_24.map (eL 1 eI))),(106,.row 31 10 (rounds_8.map aj)),(107,.row 42 7 (way_9.map af)),(108,.row 9 1 (states_30.map eS))]⟩) (fun z=>z) ?_ ?_
        ·refine ab.block (ab.seq (ab.aa ?_))
         refine Oc om (Oc om ?_)
         obtain ⟨x_31,e48,h47⟩:=aR h47
         refine Oc (ar ba (aK e48) (aE (e:=eI) e48) rfl rfl) (Oc (aw aP rfl rfl) (Oc om (Oc (dT rfl rfl) ?_)))
         refine ae.ak ⟨[(0,_),(1,_),(2,_),(3,_),(9,_),(10,_),(11,_),(12,_),(13,_),(14,_),(109,B (decide (x_31 = me_11)))],[(101,_),(106,_),(107,_),(108,_)]⟩ rfl (ab.ite h47 rfl (fun _ h47=>?_) (fun _ h47=>?_))
         ·refine ab.aa (Oc om (Oc om (Oc om ?_)))
          obtain ⟨x_32,e49,h47⟩:=aR h47
          refine Oc (aH (du e49) sx rfl rfl) ?_
          obtain ⟨x_33,e50,h47⟩:=aR h47
          refine Oc (bc cS (aK e50) (cx e50) rfl rfl rfl rfl) (Oc (hU (i:=(b_28:Int).toNat) gI rfl rfl rfl rfl (ow e50) (map_set _ _ _ _)) ?_)
          refine ae.nil (Fin.ax ?_)
          exact Fin.join [0,1,2,3,9,10,11,12,13,14] [101,106,107,108] (states_27.set (b_28:Int).toNat x_32) (Option.some.inj h47) rfl
         ·refine ab.skip (Fin.ax ?_)
          exact Fin.join [0,1,2,3,9,10,11,12,13,14] [101,106,107,108] states_27 (Option.some.inj h47) rfl
        ·rintro states_30 hv
         subst v46
         refine ab.aa (Oc om (Oc (bq rfl rfl) (Oc oa ?_)))
         refine ae.nil ?_
         exact Fin.bK [0,1,2,3,9,10,11,12,13,14] [101,106,107,108] (states_30,IntKind.i64.wrap (b_28 + 1)) (Option.some.inj h44) rfl
       ·refine ab.exit (Fin.ao ?_)
        obtain rfl:=hy45 _ (Option.some.inj h44).symm
        refine Fin.ao (Fin.aI ?_)
        exact Fin.join [0,1,2,3,9,10,11,12,13] [101,106,107,108] states_27 rfl rfl
      ·rintro states_26 hv
       subst v41
       refine ab.seq (ab.aa ?_)
       refine Oc om (Oc om (Oc om (Oc om (Oc om ?_))))
       obtain ⟨x_34,e51,h25⟩:=aR h25
       refine Oc (ar jt (aK e51) (aE (e:=(eL 1 (eL 1 eI))) e51) rfl rfl) (Oc (aw gF rfl rfl) ?_)
       refine ae.ah ⟨[(0,I regions0),(1,.b (.one (.sl 1 (home0.map eI)))),(2,.b (.one (.sl 1 (found0.map (eL 1 (eL 1 eI)))))),(3,.b (.one (.sl 1 (l0.map (eK .u8))))),(9,.b (.row 106)),(10,.b (.row 107)),(11,.b (.row 101)),(12,I me_11),(13,.b (.row 108)),(116,I me_11),(117,I regions0),(118,.b (.one (.sl 1 (home0.map eI)))),(122,.b (.one (.sl 1 (x_34.map (eL 1 eI)))))],[(101,.row 22 1 (x_24.map (eL 1 eI))),(106,.row 31 10 (rounds_8.map aj)),(107,.row 42 7 (way_9.map af)),(108,.row 9 1 (states_26.map eS))]⟩ rfl (Oc om (ae.br 108 rfl ?_))
       obtain ⟨⟨x_35,x_36,x_37⟩,e52,h25⟩:=aR h25
       refine Oc (bJ (iT 109 e52) uH rfl trivial rfl rfl) (Oc om (Oc (aJ rfl rfl) ?_))
       refine ae.ah ⟨[(0,_),(1,_),(2,_),(3,_),(9,_),(10,_),(11,_),(12,_),(115,.fa [.agg (aj x_35),.row 109,.one (.i x_37)]),(125,.b (.agg (aj x_35)))],[(101,_),(106,_),(107,_),(109,.row 42 7 (x_36.map af))]⟩ rfl (Oc (aJ rfl rfl) (Oc (aJ rfl rfl) (Oc (dN (k:=110) ji rfl) (Oc (bD aV rfl rfl rfl rfl (Nat.le_of_ble_eq_true rfl) rfl) (Oc oa (Oc oa ?_))))))
       refine ae.ak ⟨[(0,_),(1,_),(2,_),(3,_),(9,_),(10,_),(11,_),(12,_),(15,Pt 110 0),(16,.b (.row 109)),(17,I x_37)],[(101,_),(106,_),(107,_),(109,_),(110,.box 31 (aj x_35))]⟩ rfl (ab.seq (ab.seq (ab.aa ?_)))
       refine Oc om (Oc (dg rfl rfl) ?_)
       refine ae.ak ⟨[(0,_),(1,_),(2,_),(3,_),(9,_),(10,_),(11,_),(12,_),(15,_),(16,_),(129,B (decide (x_37 ≠ 0)))],[(101,_),(106,_),(107,_),(109,_),(110,_)]⟩ rfl (ab.ite h25 rfl (fun _ h25=>?_) (fun _ h25=>?_))
       ·refine ab.seq (ab.aa ?_)
        refine Oc oa (ae.ak ⟨[(8,B false)],[]⟩ rfl (ab.ret (Fin.aq (Fin.aD ?_))))
        obtain rfl:=Option.some.inj h25
        refine Fin.aq ?_
        obtain rfl:=hy23 _ (Option.some.inj h22).symm
        refine Fin.aq (Fin.aD (Fin.aq ?_))
        obtain rfl:=Option.some.inj h
        refine Fin.ah ⟨[(8,_)],[]⟩ rfl (Fin.bd [.one (.bool false)] (.inl rfl) rfl (.cons (.tmp rfl) .nil) ⟨rfl,rfl⟩)
       ·refine ab.skip (Fin.ah ⟨[(0,_),(1,_),(2,_),(3,_),(9,_),(10,_),(11,_),(12,_),(15,_),(16,_)],[(101,_),(106,_),(107,_),(109,_),(110,_)]⟩ rfl (Fin.then (ab.seq (ab.aa ?_))))
        refine Oc om (Oc (lp aV) (Oc (aN (k:=111) (es:=[x_35].map aj) fL rfl rfl (bw fun _=>rfl) rfl (by decide) (by decide) rfl) ?_))
        obtain ⟨x_38,e53,h25⟩:=aR h25
        refine Oc (dx fL (gn e53) (gm e53) rfl rfl rfl rfl (dt e53) rfl) (Oc oa ?_)
        refine ae.ak ⟨[(0,_),(1,_),(2,_),(3,_),(9,_),(10,_),(11,_),(12,_),(16,_)],[(101,_),(106,.row 31 10 (x_38.map aj)),(107,_),(109,_)]⟩ rfl (ab.aa (Oc om (Oc om ?_)))
        obtain ⟨x_39,e54,h25⟩:=aR h25
        refine Oc (dx eP (gn e54) (gm e54) rfl rfl rfl rfl (dt e54) rfl) (Oc oa ?_)
        refine ae.nil (Fin.ax ?_)
        exact Fin.join [0,1,2,3,9,10,11,12] [101,106,107] (x_38,x_39,x_24) (Option.some.inj h25) rfl
    ·rintro ⟨rounds_15,way_16,all_17⟩ hv
     subst v24
     refine ab.aa (Oc om (Oc (bq rfl rfl) (Oc oa ?_)))
     refine ae.nil ?_
     exact Fin.bK [0,1,2,3,9,10,11,12] [101,106,107] (rounds_15,way_16,all_17,IntKind.i64.wrap (me_11 + 1)) (Option.some.inj h22) rfl
   ·refine ab.exit (Fin.ao ?_)
    obtain rfl:=hy23 _ (Option.some.inj h22).symm
    refine Fin.ao (Fin.aI ?_)
    exact Fin.join [0,1,3,9,10,11] [101,106,107] (rounds_8,way_9,all_10) rfl rfl
  ·rintro ⟨rounds_5,way_6,all_7⟩ hv
   subst v19
   obtain ⟨v55,h56,h⟩:=aR h
   refine ab.cJ (v:=v55) (fun (rounds_40:List Round)=>⟨[(0,I regions0),(1,.b (.one (.sl 1 (home0.map eI)))),(9,.b (.row 106)),(11,.b (.row 101))],[(101,.row 22 1 (all_7.map (eL 1 eI))),(106,.row 31 10 (rounds_40.map aj))]⟩) (fun z=>.inl z) ?_ ?_
   ·refine ab.seq (ab.aa ?_)
    refine Oc oa (ae.ak ⟨[(0,_),(1,_),(3,_),(9,_),(10,_),(11,_),(18,I 0)],[(101,_),(106,_),(107,_)]⟩ rfl (ab.block (ab.ct h56 (ml fun (rounds_41:List Round) (way_42:List au) (i_43:Int)=>⟨[(0,I regions0),(1,.b (.one (.sl 1 (home0.map eI)))),(3,.b (.one (.sl 1 (l0.map (eK .u8))))),(9,.b (.row 106)),(10,.b (.row 107)),(11,.b (.row 101)),(18,I i_43)],[(101,.row 22 1 (all_7.map (eL 1 eI))),(106,.row 31 10 (rounds_41.map aj)),(107,.row 42 7 (way_42.map af))]⟩) [0,1,3,9,10,11,18] [101,106,107] rfl ?_)))
    rintro ⟨rounds_41,way_42,i_43⟩ o57 h58 hy59
    refine ab.seq (ab.seq (ab.aa ?_))
    refine Oc om (Oc om (Oc (ay vt rfl (List.length_map _)) (Oc (sd rfl rfl) (Oc om ?_))))
    refine cr (!(decide (i_43 ≤ (l0.length:Int)))) [] (fun g60=>trivial) (fun g60=>om) (ae.ah ⟨[(0,_),(1,_),(3,_),(9,_),(10,_),(11,_),(18,_),(141,B (decide (i_43 ≤ (l0.length:Int)))),(142,.opt (!(decide (i_43 ≤ (l0.length:Int)))) (.row 107))],[(101,_),(106,_),(107,_)]⟩ rfl (cr (!(decide (i_43 ≤ (l0.length:Int)))) [142] (fun g61=>by exact ⟨g61,trivial⟩) (fun g61=>fA oi rfl rfl (List.length_map _)) (cr (!(decide (i_43 ≤ (l0.length:Int)))) [143] (fun g62=>by exact ⟨g62,trivial⟩) (fun g62=>jO rfl rfl) (ae.iC h58 rfl (aL (fun e=>by first | (rw [e]; rfl) | (simp only at e; rw [e]; rfl)) rfl rfl rfl rfl) (fun x_45 h58=>?_)))))
    refine ae.ak ⟨[(0,_),(1,_),(3,_),(9,_),(10,_),(11,_),(18,_),(145,B x_45)],[(101,_),(106,_),(107,_)]⟩ rfl (ab.ite h58 rfl (fun _ h58=>?_) (fun _ h58=>?_))
    ·refine ab.skip (Fin.ah ⟨[(0,_),(1,_),(3,_),(9,_),(10,_),(11,_),(18,_)],[(101,_),(106,_),(107,_)]⟩ rfl (Fin.then ?_))
     obtain ⟨v63,h64,h58⟩:=aR h58
     refine ab.cJ (v:=v63) (eD fun (rounds_46:List Round) (way_47:List au)=>⟨[(0,I regions0),(1,.b (.one (.sl 1 (home0.map eI)))),(3,.b (.one (.sl 1 (l0.map (eK .u8))))),(9,.b (.row 106)),(10,.b (.row 117)),(11,.b (.row 101)),(18,I i_43)],[(101,.row 22 1 (all_7.map (eL 1 eI))),(106,.row 31 10 (rounds_46.map aj)),(117,.row 42 7 (way_47.map af))]⟩) (fun z=>.inl z) ?_ ?_
     ·refine ab.block (ab.seq (ab.aa ?_))
      refine Oc oa (ae.ak ⟨[(0,_),(1,_),(3,_),(9,_),(10,_),(11,_),(18,_),(19,I 0)],[(101,_),(106,_),(107,_)]⟩ rfl (ab.seq (ab.aa ?_)))
      refine Oc oa (ae.ak ⟨[(0,_),(1,_),(3,_),(9,_),(10,_),(11,_),(18,_),(19,_),(20,B false)],[(101,_),(106,_),(107,_)]⟩ rfl ?_)
      obtain ⟨v65,h66,h64⟩:=aR h64
      refine ab.cJ (v:=v65) (eD fun (n_48:Int) (keep_49:Bool)=>⟨[(0,I regions0),(1,.b (.one (.sl 1 (home0.map eI)))),(3,.b (.one (.sl 1 (l0.map (eK .u8))))),(9,.b (.row 106)),(10,.b (.row 107)),(11,.b (.row 101)),(18,I i_43),(19,I n_48),(20,B keep_49)],[(101,.row 22 1 (all_7.map (eL 1 eI))),(106,.row 31 10 (rounds_41.map aj)),(107,.row 42 7 (way_42.map af))]⟩) (fun z=>z) ?_ ?_
      ·refine ab.seq (ab.aa ?_)
       refine Oc om (Oc om (Oc (ay vt rfl (List.length_map _)) (Oc (bm rfl rfl) ?_)))
       refine ae.ak ⟨[(0,_),(1,_),(3,_),(9,_),(10,_),(11,_),(18,_),(19,_),(20,_),(151,B (decide (i_43 < (l0.length:Int))))],[(101,_),(106,_),(107,_)]⟩ rfl (ab.ite h66 rfl (fun _ h66=>?_) (fun _ h66=>?_))
       ·refine ab.seq (ab.aa ?_)
        refine Oc om (Oc om ?_)
        obtain ⟨x_50,e67,h66⟩:=aR h66
        refine Oc (ar xt (aK e67) (aE (e:=(eK .u8)) e67) rfl rfl) (Oc (aw tyOne5 rfl rfl) (Oc (eo rF qo rfl) (Oc oa ?_)))
        refine ae.ak ⟨[(0,_),(1,_),(3,_),(9,_),(10,_),(11,_),(18,_),(19,I (IntKind.i64.wrap x_50))],[(101,_),(106,_),(107,_)]⟩ rfl (ab.aa (Oc om (Oc (sa (by decide) rfl rfl) (Oc (dT rfl rfl) (Oc oa ?_)))))
        refine ae.nil ?_
        exact Fin.join [0,1,3,9,10,11,18,19,20] [101,106,107] (IntKind.i64.wrap x_50,decide ((Int.tmod (IntKind.i64.wrap x_50) 5) = 0)) (Option.some.inj h66) rfl
       ·refine ab.skip ?_
        exact Fin.join [0,1,3,9,10,11,18,19,20] [101,106,107] (0,false) (Option.some.inj h66) rfl
      ·rintro ⟨n_48,keep_49⟩ hv
       subst v65
       obtain ⟨v68,h69,h64⟩:=aR h64
       refine ab.cJ (v:=v68) (eD fun (rounds_51:List Round) (way_52:List au)=>⟨[(0,I regions0),(1,.b (.one (.sl 1 (home0.map eI)))),(3,.b (.one (.sl 1 (l0.map (eK .u8))))),(9,.b (.row 106)),(10,.b (.row 117)),(11,.b (.row 101)),(18,I i_43),(19,I n_48)],[(101,.row 22 1 (all_7.map (eL 1 eI))),(106,.row 31 10 (rounds_51.map aj)),(117,.row 42 7 (way_52.map af))]⟩) (fun z=>z) ?_ ?_
       ·refine ab.seq (ab.aa ?_)
        refine Oc om (Oc (fA oi rfl rfl (List.length_map _)) (Oc (jO rfl rfl) ?_))
        refine ae.ak ⟨[(0,_),(1,_),(3,_),(9,_),(10,_),(11,_),(18,_),(19,_),(20,_),(162,B (decide (0 < (way_42.length:Int))))],[(101,_),(106,_),(107,_)]⟩ rfl (ab.ite h69 rfl (fun _ h69=>?_) (fun _ h69=>?_))
        ·refine ab.seq (ab.aa ?_)
         refine Oc om ?_
         obtain ⟨x_53,e70,h69⟩:=aR h69
         refine Oc (vJ e70 rfl rfl) (Oc om (Oc (fA oi rfl rfl (List.length_map _)) ?_))
         obtain ⟨x_54,e71,h69⟩:=aR h69
         refine Oc (op_rem2 e71 rfl rfl) (Oc oa ?_)
         refine ae.ak ⟨[(0,_),(1,_),(3,_),(9,_),(10,_),(11,_),(18,_),(19,_),(20,_),(21,I x_54)],[(101,_),(106,_),(107,_)]⟩ rfl (ab.seq (ab.aa ?_))
         refine Oc om (Oc om ?_)
         obtain ⟨x_55,e72,h69⟩:=aR h69
         refine Oc (bc eP (aK e72) (cx e72) rfl rfl rfl rfl) (Oc (eW (i:=(x_54:Int).toNat) (f:=0) fH rfl rfl rfl (aE (e:=af) e72) rfl rfl) (Oc (dN (k:=112) xY rfl) (Oc (bD fH rfl rfl rfl rfl (Nat.le_of_ble_eq_true rfl) rfl) ?_)))
         refine ae.ak ⟨[(0,_),(1,_),(3,_),(9,_),(10,_),(11,_),(18,_),(19,_),(20,_),(21,_),(22,Pt 112 0)],[(101,_),(106,_),(107,_),(112,.box 42 (af x_55))]⟩ rfl (ab.seq ?_)
         obtain ⟨x_56,e73,h69⟩:=aR h69
         obtain ⟨⟨x_57,x_58⟩,e74,h69⟩:=aR h69
         refine ab.ff mixed [false,false,false,false,false,false,false,false,false,false,true,true,false] [.b (.row 106),Pt 112 3,I x_55.To,.b (.cG 106 ((x_55.To:Int).toNat * 10)),.b (.agg (aj x_56)),.b (.agg (af x_55)),.fa [.agg (aj x_57),.one (.sl 7 (x_58.map af))],.fa [.agg (aj x_57),.one (.sl 7 (x_58.map af))],.b (.agg (aj x_57)),.b (.one (.sl 7 (x_58.map af))),Pt 114 0,B true,.b (.one (.sl 7 (x_58.map af)))] [⟨[false,false,false,false,false,false,false,false,false,false,false,false,false],[(0,I regions0),(1,.b (.one (.sl 1 (home0.map eI)))),(3,.b (.one (.sl 1 (l0.map (eK .u8))))),(9,.b (.row 106)),(10,.b (.row 107)),(11,.b (.row 101)),(18,I i_43),(19,I n_48),(20,B keep_49),(21,I x_54),(22,Pt 112 0)],[(101,.row 22 1 (all_7.map (eL 1 eI))),(106,.row 31 10 (rounds_41.map aj)),(107,.row 42 7 (way_42.map af)),(112,.box 42 (af x_55))],[true,true,true,true,true,true,true,true,true,true,true,true,true],[],[11,12]⟩,⟨[false,false,false,false,false,false,false,false,false,false,true,false,false],[(0,I regions0),(1,.b (.one (.sl 1 (home0.map eI)))),(3,.b (.one (.sl 1 (l0.map (eK .u8))))),(9,.b (.row 106)),(10,.b (.row 107)),(11,.b (.row 101)),(18,I i_43),(19,I n_48),(20,B keep_49),(21,I x_54),(22,Pt 112 0)],[(101,.row 22 1 (all_7.map (eL 1 eI))),(106,.row 31 10 (rounds_41.map aj)),(107,.row 42 7 (way_42.map af)),(112,.box 42 (af x_55)),(114,.box 31 [.i 0,.i 0,.i 0,.nil,.nil,.nil,.nil,.nil,.nil,.nil])],[true,true,true,true,true,true,true,true,true,true,true,true,true],[10],[12]⟩,⟨[false,false,false,false,false,false,false,false,false,false,true,true,false],[(0,I regions0),(1,.b (.one (.sl 1 (home0.map eI)))),(3,.b (.one (.sl 1 (l0.map (eK .u8))))),(9,.b (.row 106)),(10,.b (.row 107)),(11,.b (.row 101)),(18,I i_43),(19,I n_48),(20,B keep_49),(21,I x_54),(22,Pt 112 0)],[(101,.row 22 1 (all_7.map (eL 1 eI))),(106,.row 31 10 (rounds_41.map aj)),(107,.row 42 7 (way_42.map af)),(112,.box 42 (af x_55)),(114,.box 31 (aj x_57))],[true,true,true,true,true,true,true,true,true,true,true,true,true],[0,1,2,3,4,5,6,7,8,10,11],[]⟩] rfl (⟨by kernel_rfl,⟨⟨.b (.row 106),fun _=>rfl,fun _=>.p (by exact az rfl)⟩,⟨Pt 112 3,fun _=>rfl,fun _=>.p (by exact ag na rfl rfl)⟩,⟨I x_55.To,fun _=>rfl,fun _=>.p (by exact av aP rfl rfl rfl)⟩,⟨.b (.cG 106 ((x_55.To:Int).toNat * 10)),fun _=>rfl,fun _=>.p (by exact bc fL (aK e73) (cx e73) rfl rfl rfl rfl)⟩,⟨.b (.agg (aj x_56)),fun _=>rfl,fun _=>.p (by exact eW (i:=(x_55.To:Int).toNat) (f:=0) aV rfl rfl rfl (aE (e:=aj) e73) rfl rfl)⟩,⟨.b (.agg (af x_55)),fun _=>rfl,fun _=>.p (by exact gY fH rfl rfl rfl rfl)⟩,⟨.fa [.agg (aj x_57),.one (.sl 7 (x_58.map af))],fun _=>rfl,fun _=>.p (by exact aH (dY 0 e74).iB pg rfl rfl)⟩,⟨.fa [.agg (aj x_57),.one (.sl 7 (x_58.map af))],fun _=>rfl,fun _=>.p (by exact az rfl)⟩,⟨.b (.agg (aj x_57)),fun _=>rfl,fun _=>.p (by exact aJ rfl rfl)⟩,⟨.b (.one (.sl 7 (x_58.map af))),fun _=>rfl,fun _=>.p (by exact aJ rfl rfl)⟩,⟨_,[114],Pt 114 0,rfl,fun _=>rfl,rfl,rfl,fun _=>.mc [101,106,107,112,114] (by exact .p (by exact dN (k:=114) ji rfl)) (by exact rfl)⟩,trivial,trivial,trivial⟩,⟨by kernel_rfl,⟨⟨.b (.row 106),fun _=>rfl,fun _=>.p (by exact az rfl)⟩,⟨Pt 112 3,fun _=>rfl,fun _=>.p (by exact ag na rfl rfl)⟩,⟨I x_55.To,fun _=>rfl,fun _=>.p (by exact av aP rfl rfl rfl)⟩,⟨.b (.cG 106 ((x_55.To:Int).toNat * 10)),fun _=>rfl,fun _=>.p (by exact bc fL (aK e73) (cx e73) rfl rfl rfl rfl)⟩,⟨.b (.agg (aj x_56)),fun _=>rfl,fun _=>.p (by exact eW (i:=(x_55.To:Int).toNat) (f:=0) aV rfl rfl rfl (aE (e:=aj) e73) rfl rfl)⟩,⟨.b (.agg (af x_55)),fun _=>rfl,fun _=>.p (by exact gY fH rfl rfl rfl rfl)⟩,⟨.fa [.agg (aj x_57),.one (.sl 7 (x_58.map af))],fun _=>rfl,fun _=>.p (by exact aH (dY 0 e74).iB pg rfl rfl)⟩,⟨.fa [.agg (aj x_57),.one (.sl 7 (x_58.map af))],fun _=>rfl,fun _=>.p (by exact az rfl)⟩,⟨.b (.agg (aj x_57)),fun _=>rfl,fun _=>.p (by exact aJ rfl rfl)⟩,⟨.b (.one (.sl 7 (x_58.map af))),fun _=>rfl,fun _=>.p (by exact aJ rfl rfl)⟩,trivial,⟨_,[],.b (.one .any),rfl,(fun e=>by simp at e),rfl,rfl,fun _=>.mc [101,106,107,112,114] (by exact .p (by exact bD aV rfl rfl rfl rfl (Nat.le_of_ble_eq_true rfl) rfl)) (by exact rfl)⟩,trivial,trivial⟩,⟨by kernel_rfl,⟨trivial,trivial,trivial,trivial,trivial,trivial,trivial,trivial,trivial,⟨.b (.one (.sl 7 (x_58.map af))),fun _=>rfl,fun _=>.p (by exact aJ rfl rfl)⟩,trivial,trivial,⟨.b (.one (.sl 7 (x_58.map af))),fun _=>rfl,fun _=>.p (by exact cH rfl)⟩,trivial⟩,trivial⟩⟩⟩) rfl rfl rfl [0,1,3,9,10,11,18,19,20,21,22,23,24] [101,106,107,112,114] (s':=⟨[(0,_),(1,_),(3,_),(9,_),(10,_),(11,_),(18,_),(19,_),(20,_),(21,_),(22,_),(23,Pt 114 0),(24,.b (.one (.sl 7 (x_58.map af))))],[(101,_),(106,_),(107,_),(112,_),(114,.box 31 (aj x_57))]⟩) rfl ?_
         refine ab.seq (ab.aa ?_)
         refine Oc om (Oc (ag na rfl rfl) (Oc (av aP rfl rfl rfl) (Oc (lp aV) ?_)))
         obtain ⟨x_59,e75,h69⟩:=aR h69
         refine Oc (bc fL (aK e75) (cx e75) rfl rfl rfl rfl) (Oc (qP (i:=(x_55.To:Int).toNat) aV rfl rfl rfl rfl (ow e75) (map_set _ _ _ _)) ?_)
         refine ae.ak ⟨[(0,_),(1,_),(3,_),(9,_),(10,_),(11,_),(18,_),(19,_),(20,_),(21,_),(24,_)],[(101,_),(106,.row 31 10 ((rounds_41.set (x_55.To:Int).toNat x_57).map aj)),(107,_)]⟩ rfl ?_
         obtain ⟨v76,h77,h69⟩:=aR h69
         refine ab.cJ (v:=v76) (fun (way_60:List au)=>⟨[(0,I regions0),(1,.b (.one (.sl 1 (home0.map eI)))),(3,.b (.one (.sl 1 (l0.map (eK .u8))))),(9,.b (.row 106)),(10,.b (.row 117)),(11,.b (.row 101)),(18,I i_43),(19,I n_48),(24,.b (.one (.sl 7 (x_58.map af))))],[(101,.row 22 1 (all_7.map (eL 1 eI))),(106,.row 31 10 ((rounds_41.set (x_55.To:Int).toNat x_57).map aj)),(117,.row 42 7 (way_60.map af))]⟩) (fun z=>z) ?_ ?_
         ·refine ab.seq (ab.aa ?_)
          refine Oc om (Oc (dv rfl) ?_)
          refine ae.ak ⟨[(0,_),(1,_),(3,_),(9,_),(10,_),(11,_),(18,_),(19,_),(21,_),(24,_),(188,B (!keep_49))],[(101,_),(106,_),(107,_)]⟩ rfl (ab.ite h77 rfl (fun _ h77=>?_) (fun _ h77=>?_))
          ·refine ab.br 107 rfl (ab.ah ⟨[(0,I regions0),(1,.b (.one (.sl 1 (home0.map eI)))),(3,.b (.one (.sl 1 (l0.map (eK .u8))))),(9,.b (.row 106)),(10,.b (.one (.sl 7 (way_42.map af)))),(11,.b (.row 101)),(18,I i_43),(19,I n_48),(21,I x_54),(24,.b (.one (.sl 7 (x_58.map af))))],[(101,.row 22 1 (all_7.map (eL 1 eI))),(106,.row 31 10 ((rounds_41.set (x_55.To:Int).toNat x_57).map aj))]⟩ rfl ?_)
           obtain ⟨x_61,e78,h77⟩:=aR h77
           obtain ⟨x_62,e79,h77⟩:=aR h77
           obtain ⟨x_63,e80,h77⟩:=aR h77
           obtain ⟨x_64,e81,h77⟩:=aR h77
           refine ab.mC mixed [true,false,false,false,true,false,false,false,false,true,true] [.b (.row 115),.b (.one (.sl 7 (way_42.map af))),I x_54,.b (.one (.sl 7 (x_61.map af))),.b (.row 116),.b (.one (.sl 7 (way_42.map af))),I x_54,I (IntKind.i64.wrap (x_54 + 1)),.b (.one (.sl 7 (x_63.map af))),.b (.row 117),.b (.row 117)] [⟨[false,false,false,false,false,false,false,false,false,false,false],[(0,I regions0),(1,.b (.one (.sl 1 (home0.map eI)))),(3,.b (.one (.sl 1 (l0.map (eK .u8))))),(9,.b (.row 106)),(10,.b (.one (.sl 7 (way_42.map af)))),(11,.b (.row 101)),(18,I i_43),(19,I n_48),(21,I x_54),(24,.b (.one (.sl 7 (x_58.map af))))],[(101,.row 22 1 (all_7.map (eL 1 eI))),(106,.row 31 10 ((rounds_41.set (x_55.To:Int).toNat x_57).map aj))],[true,true,true,true,true,true,true,true,true,true,true],[],[4,9,10]⟩,⟨[true,false,false,false,false,false,false,false,false,false,false],[(0,I regions0),(1,.b (.one (.sl 1 (home0.map eI)))),(3,.b (.one (.sl 1 (l0.map (eK .u8))))),(9,.b (.row 106)),(10,.b (.one (.sl 7 (way_42.map af)))),(11,.b (.row 101)),(18,I i_43),(19,I n_48),(21,I x_54),(24,.b (.one (.sl 7 (x_58.map af))))],[(101,.row 22 1 (all_7.map (eL 1 eI))),(106,.row 31 10 ((rounds_41.set (x_55.To:Int).toNat x_57).map aj)),(115,.row 42 7 ([].map af))],[true,true,true,true,true,true,true,true,true,true,true],[0],[9,10]⟩,⟨[true,false,false,false,true,false,false,false,false,false,false],[(0,I regions0),(1,.b (.one (.sl 1 (home0.map eI)))),(3,.b (.one (.sl 1 (l0.map (eK .u8))))),(9,.b (.row 106)),(10,.b (.one (.sl 7 (way_42.map af)))),(11,.b (.row 101)),(18,I i_43),(19,I n_48),(21,I x_54),(24,.b (.one (.sl 7 (x_58.map af))))],[(101,.row 22 1 (all_7.map (eL 1 eI))),(106,.row 31 10 ((rounds_41.set (x_55.To:Int).toNat x_57).map aj)),(116,.row 42 7 (x_62.map af))],[true,true,true,true,true,true,true,true,true,true,true],[0,1,2,3,4],[10]⟩,⟨[true,false,false,false,true,false,false,false,false,true,false],[(0,I regions0),(1,.b (.one (.sl 1 (home0.map eI)))),(3,.b (.one (.sl 1 (l0.map (eK .u8))))),(9,.b (.row 106)),(10,.b (.one (.sl 7 (way_42.map af)))),(11,.b (.row 101)),(18,I i_43),(19,I n_48),(21,I x_54),(24,.b (.one (.sl 7 (x_58.map af))))],[(101,.row 22 1 (all_7.map (eL 1 eI))),(106,.row 31 10 ((rounds_41.set (x_55.To:Int).toNat x_57).map aj)),(117,.row 42 7 (x_64.map af))],[true,true,true,true,true,true,true,true,true,true,true],[0,1,2,3,4,5,6,7,8,9],[]⟩,⟨[true,false,false,false,true,false,false,false,false,true,true],[(0,I regions0),(1,.b (.one (.sl 1 (home0.map eI)))),(3,.b (.one (.sl 1 (l0.map (eK .u8))))),(9,.b (.row 106)),(11,.b (.row 101)),(18,I i_43),(19,I n_48),(21,I x_54),(24,.b (.one (.sl 7 (x_58.map af))))],[(101,.row 22 1 (all_7.map (eL 1 eI))),(106,.row 31 10 ((rounds_41.set (x_55.To:Int).toNat x_57).map aj)),(117,.row 42 7 (x_64.map af))],[true,true,true,true,true,true,true,true,true,true,true],[0,1,2,3,4,5,6,7,8,9,10],[]⟩] rfl (⟨by kernel_rfl,⟨⟨_,[115],.b (.row 115),rfl,fun _=>rfl,rfl,rfl,fun _=>.mc [101,106,115] (by exact .p (by exact pE (k:=115) eP rfl)) (by exact rfl)⟩,⟨.b (.one (.sl 7 (way_42.map af))),fun _=>rfl,fun _=>.p (by exact az rfl)⟩,⟨I x_54,fun _=>rfl,fun _=>.p (by exact az rfl)⟩,⟨.b (.one (.sl 7 (x_61.map af))),fun _=>rfl,fun _=>.p (by exact pZ eP e78 rfl rfl)⟩,trivial,⟨.b (.one (.sl 7 (way_42.map af))),fun _=>rfl,fun _=>.p (by exact az rfl)⟩,⟨I x_54,fun _=>rfl,fun _=>.p (by exact az rfl)⟩,⟨I (IntKind.i64.wrap (x_54 + 1)),fun _=>rfl,fun _=>.p (by exact bq rfl rfl)⟩,⟨.b (.one (.sl 7 (x_63.map af))),fun _=>rfl,fun _=>.p (by exact kI eP e80 rfl rfl)⟩,trivial,trivial,trivial⟩,⟨by kernel_rfl,⟨trivial,⟨.b (.one (.sl 7 (way_42.map af))),fun _=>rfl,fun _=>.p (by exact az rfl)⟩,⟨I x_54,fun _=>rfl,fun _=>.p (by exact az rfl)⟩,⟨.b (.one (.sl 7 (x_61.map af))),fun _=>rfl,fun _=>.p (by exact pZ eP e78 rfl rfl)⟩,⟨_,[116],.b (.row 116),rfl,fun _=>rfl,rfl,rfl,fun _=>.mc [101,106,116] (by exact .p (by exact lT (k2:=116) eP (gn e79) (gm e79) rfl rfl rfl (dt e79) rfl rfl rfl rfl rfl)) (by exact rfl)⟩,⟨.b (.one (.sl 7 (way_42.map af))),fun _=>rfl,fun _=>.p (by exact az rfl)⟩,⟨I x_54,fun _=>rfl,fun _=>.p (by exact az rfl)⟩,⟨I (IntKind.i64.wrap (x_54 + 1)),fun _=>rfl,fun _=>.p (by exact bq rfl rfl)⟩,⟨.b (.one (.sl 7 (x_63.map af))),fun _=>rfl,fun _=>.p (by exact kI eP e80 rfl rfl)⟩,trivial,trivial,trivial⟩,⟨by kernel_rfl,⟨trivial,trivial,trivial,trivial,trivial,⟨.b (.one (.sl 7 (way_42.map af))),fun _=>rfl,fun _=>.p (by exact az rfl)⟩,⟨I x_54,fun _=>rfl,fun _=>.p (by exact az rfl)⟩,⟨I (IntKind.i64.wrap (x_54 + 1)),fun _=>rfl,fun _=>.p (by exact bq rfl rfl)⟩,⟨.b (.one (.sl 7 (x_63.map af))),fun _=>rfl,fun _=>.p (by exact kI eP e80 rfl rfl)⟩,⟨_,[117],.b (.row 117),rfl,fun _=>rfl,rfl,rfl,fun _=>.mc [101,106,117] (by exact .p (by exact lT (k2:=117) eP (gn e81) (gm e81) rfl rfl rfl (dt e81) rfl rfl rfl rfl rfl)) (by exact rfl)⟩,trivial,trivial⟩,⟨by kernel_rfl,⟨trivial,trivial,trivial,trivial,trivial,trivial,trivial,trivial,trivial,trivial,⟨_,[],.b (.row 117),rfl,fun _=>rfl,rfl,rfl,fun _=>.mc [101,106,117] (by exact .p (by exact cH rfl)) (by exact rfl)⟩,trivial⟩,⟨by kernel_rfl,⟨trivial,trivial,trivial,trivial,trivial,trivial,trivial,trivial,trivial,trivial,trivial,trivial⟩,trivial⟩⟩⟩⟩⟩) rfl rfl rfl [0,1,3,9,10,11,18,19,24] [101,106,117] (s':=⟨[(0,_),(1,_),(3,_),(9,_),(10,.b (.row 117)),(11,_),(18,_),(19,_),(24,_)],[(101,_),(106,_),(117,.row 42 7 (x_64.map af))]⟩) rfl ?_
           exact Fin.join [0,1,3,9,10,11,18,19,24] [101,106,117] x_64 (Option.some.inj h77) rfl
          ·refine ab.skip (Fin.ah ⟨[(0,I regions0),(1,.b (.one (.sl 1 (home0.map eI)))),(3,.b (.one (.sl 1 (l0.map (eK .u8))))),(9,.b (.row 106)),(10,.b (.row 107)),(11,.b (.row 101)),(18,I i_43),(19,I n_48),(24,.b (.one (.sl 7 (x_58.map af))))],[(101,.row 22 1 (all_7.map (eL 1 eI))),(106,.row 31 10 ((rounds_41.set (x_55.To:Int).toNat x_57).map aj)),(107,.row 42 7 (way_42.map af))]⟩ rfl (Fin.rename 107 117 rfl (by decide) rfl ?_))
           exact Fin.join [0,1,3,9,10,11,18,19,24] [101,106,117] way_42 (Option.some.inj h77) rfl
         ·rintro way_60 hv
          subst v76
          refine ab.aa (Oc om (Oc om ?_))
          obtain ⟨x_65,e82,h69⟩:=aR h69
          refine Oc (iJ eP (gn e82) (gm e82) rfl rfl rfl (dt e82) rfl) (Oc oa ?_)
          refine ae.nil ?_
          exact Fin.join [0,1,3,9,10,11,18,19] [101,106,117] (rounds_41.set (x_55.To:Int).toNat x_57,x_65) (Option.some.inj h69) rfl
        ·refine ab.skip (Fin.ah ⟨[(0,I regions0),(1,.b (.one (.sl 1 (home0.map eI)))),(3,.b (.one (.sl 1 (l0.map (eK .u8))))),(9,.b (.row 106)),(10,.b (.row 107)),(11,.b (.row 101)),(18,I i_43),(19,I n_48)],[(101,.row 22 1 (all_7.map (eL 1 eI))),(106,.row 31 10 (rounds_41.map aj)),(107,.row 42 7 (way_42.map af))]⟩ rfl (Fin.rename 107 117 rfl (by decide) rfl ?_))
         exact Fin.join [0,1,3,9,10,11,18,19] [101,106,117] (rounds_41,way_42) (Option.some.inj h69) rfl
       ·rintro ⟨rounds_51,way_52⟩ hv
        subst v68
        refine ab.seq (ab.aa ?_)
        refine Oc om (Oc (sa (by decide) rfl rfl) (Oc (dT rfl rfl) ?_))
        refine ae.ak ⟨[(0,_),(1,_),(3,_),(9,_),(10,_),(11,_),(18,_),(204,B (decide ((Int.tmod n_48 3) = 0)))],[(101,_),(106,_),(117,_)]⟩ rfl (ab.ite h64 rfl (fun _ h64=>?_) (fun _ h64=>?_))
        ·refine ab.seq (ab.aa ?_)
         refine Oc oa (ae.ak ⟨[(0,_),(1,_),(3,_),(9,_),(10,_),(11,_),(18,_),(25,I 0)],[(101,_),(106,_),(117,_)]⟩ rfl (ab.block ?_))
         obtain ⟨v83,h84,h64⟩:=aR h64
         refine ab.ct h84 (ml fun (rounds_66:List Round) (way_67:List au) (me_68:Int)=>⟨[(0,I regions0),(1,.b (.one (.sl 1 (home0.map eI)))),(3,.b (.one (.sl 1 (l0.map (eK .u8))))),(9,.b (.row 106)),(10,.b (.row 117)),(11,.b (.row 101)),(18,I i_43),(25,I me_68)],[(101,.row 22 1 (all_7.map (eL 1 eI))),(106,.row 31 10 (rounds_66.map aj)),(117,.row 42 7 (way_67.map af))]⟩) [0,1,3,9,10,11,18,25] [101,106,117] rfl ?_
         rintro ⟨rounds_66,way_67,me_68⟩ o85 h86 hy87
         refine ab.seq (ab.seq (ab.aa ?_))
         refine Oc om (Oc om (Oc (bm rfl rfl) ?_))
         refine ae.ak ⟨[(0,_),(1,_),(3,_),(9,_),(10,_),(11,_),(18,_),(25,_),(207,B (decide (me_68 < regions0)))],[(101,_),(106,_),(117,_)]⟩ rfl (ab.ite h86 rfl (fun _ h86=>?_) (fun _ h86=>?_))
         ·refine ab.skip (Fin.ah ⟨[(0,_),(1,_),(3,_),(9,_),(10,_),(11,_),(18,_),(25,_)],[(101,_),(106,_),(117,_)]⟩ rfl (Fin.then ?_))
          obtain ⟨v88,h89,h86⟩:=aR h86
          refine ab.cJ (v:=v88) (eD fun (rounds_71:List Round) (way_72:List au)=>⟨[(0,I regions0),(1,.b (.one (.sl 1 (home0.map eI)))),(3,.b (.one (.sl 1 (l0.map (eK .u8))))),(9,.b (.row 106)),(10,.b (.row 117)),(11,.b (.row 101)),(18,I i_43),(25,I me_68)],[(101,.row 22 1 (all_7.map (eL 1 eI))),(106,.row 31 10 (rounds_71.map aj)),(117,.row 42 7 (way_72.map af))]⟩) (fun z=>.inl z) ?_ ?_
          ·refine ab.block (ab.seq (ab.aa ?_))
           refine Oc om (Oc om ?_)
           obtain ⟨x_73,e90,h89⟩:=aR h89
           refine Oc (bc fL (aK e90) (cx e90) rfl rfl rfl rfl) (Oc (eW (i:=(me_68:Int).toNat) (f:=0) aV rfl rfl rfl (aE (e:=aj) e90) rfl rfl) ?_)
           obtain ⟨x_74,e91,h89⟩:=aR h89
           refine Oc (bJ (iS 118 e91) uE rfl trivial rfl rfl) (Oc oa ?_)
           refine ae.ak ⟨[(0,_),(1,_),(3,_),(9,_),(10,_),(11,_),(18,_),(25,_),(26,.b (.row 118))],[(101,_),(106,_),(117,_),(118,.row 3 1 (x_74.map eI))]⟩ rfl (ab.seq (ab.aa ?_))
           refine Oc oa (ae.ak ⟨[(0,_),(1,_),(3,_),(9,_),(10,_),(11,_),(18,_),(25,_),(26,_),(27,I 0)],[(101,_),(106,_),(117,_),(118,_)]⟩ rfl (ab.block ?_))
           obtain ⟨v92,h93,h89⟩:=aR h89
           refine ab.ct h93 (ml fun (rounds_75:List Round) (way_76:List au) (k_77:Int)=>⟨[(0,I regions0),(1,.b (.one (.sl 1 (home0.map eI)))),(3,.b (.one (.sl 1 (l0.map (eK .u8))))),(9,.b (.row 106)),(10,.b (.row 117)),(11,.b (.row 101)),(18,I i_43),(25,I me_68),(26,.b (.row 118)),(27,I k_77)],[(101,.row 22 1 (all_7.map (eL 1 eI))),(106,.row 31 10 (rounds_75.map aj)),(117,.row 42 7 (way_76.map af)),(118,.row 3 1 (x_74.map eI))]⟩) [0,1,3,9,10,11,18,25,26,27] [101,106,117,118] rfl ?_
           rintro ⟨rounds_75,way_76,k_77⟩ o94 h95 hy96
           refine ab.seq (ab.seq (ab.aa ?_))
           refine Oc om (Oc om (Oc (fA cc rfl rfl (List.length_map _)) (Oc (bm rfl rfl) ?_)))
           refine ae.ak ⟨[(0,_),(1,_),(3,_),(9,_),(10,_),(11,_),(18,_),(25,_),(26,_),(27,_),(218,B (decide (k_77 < (x_74.length:Int))))],[(101,_),(106,_),(117,_),(118,_)]⟩ rfl (ab.ite h95 rfl (fun _ h95=>?_) (fun _ h95=>?_))
           ·refine ab.skip (Fin.ah ⟨[(0,_),(1,_),(3,_),(9,_),(10,_),(11,_),(18,_),(25,_),(26,_),(27,_)],[(101,_),(106,_),(117,_),(118,_)]⟩ rfl (Fin.then (ab.seq (ab.block (ab.seq ?_)))))
            refine ab.ah ⟨[(0,_),(1,_),(3,_),(9,_),(10,_),(11,_),(18,_),(25,_),(26,_),(27,_)],[(101,_),(106,_),(117,_),(118,_)]⟩ rfl ?_
            obtain ⟨x_80,e97,h95⟩:=aR h95
            obtain ⟨x_81,e98,h95⟩:=aR h95
            obtain ⟨x_82,e99,h95⟩:=aR h95
            refine ab.fe mixed 13 [.b (.row 106),I me_68,.b (.cG 106 ((me_68:Int).toNat * 10)),.b (.cG 106 ((me_68:Int).toNat * 10 + 7)),.b (.one (.sl 3 (x_80.Tasks.map an))),.b (.row 118),I k_77,.b (.cG 118 ((k_77:Int).toNat * 1)),I x_81,.b (.dS (an x_82)),.b (.dS [.sl 1 (x_82.Bodies.map eI),.sl 1 (x_82.Helpers.map eI)]),.b (.one (.sl 1 (x_82.Bodies.map eI))),.b (.one (.sl 1 (x_82.Bodies.map eI)))] [0,1,3,9,10,11,18,25,26,27,28] [101,106,117,118] (s':=⟨[(0,_),(1,_),(3,_),(9,_),(10,_),(11,_),(18,_),(25,_),(26,_),(27,_),(28,.b (.one (.sl 1 (x_82.Bodies.map eI))))],[(101,_),(106,_),(117,_),(118,_)]⟩) rfl ⟨fun _=>.p om,fun _=>.p om,fun _=>.p (bc fL (aK e97) (cx e97) rfl rfl rfl rfl),fun _=>.p (gO dB rfl rfl),fun _=>.p (c6 (i:=(me_68:Int).toNat) (f:=7) fG rfl rfl rfl (aE (e:=aj) e97) rfl),fun _=>.p om,fun _=>.p om,fun _=>.p (bc ba (aK e98) (cx e98) rfl rfl rfl rfl),fun _=>.p (c6 (i:=(k_77:Int).toNat) (f:=0) aP rfl rfl rfl (aE (e:=eI) e98) rfl),fun _=>.p (ar gu (aK e99) (aE (e:=an) e99) rfl rfl),fun _=>by exact .p (fg dW rfl rfl),fun _=>.p (aw bx rfl rfl),fun _=>.p oa,trivial⟩ rfl rfl (ab.seq (ab.ah ⟨[(0,_),(1,_),(3,_),(9,_),(10,_),(11,_),(18,_),(25,_),(26,_),(27,_),(28,_)],[(101,_),(106,_),(117,_),(118,_)]⟩ rfl ?_))
            obtain ⟨x_83,e100,h95⟩:=aR h95
            obtain ⟨x_84,e101,h95⟩:=aR h95
            obtain ⟨x_85,e102,h95⟩:=aR h95
            obtain ⟨⟨x_86,x_87,x_88⟩,e103,h95⟩:=aR h95
            refine ab.ff mixed [false,false,false,false,false,false,false,false,false,false,false,false,false,false,false,true,true,false,false] [.b (.row 106),I me_68,.b (.cG 106 ((me_68:Int).toNat * 10)),.b (.agg (aj x_83)),.b (.row 118),I k_77,.b (.cG 118 ((k_77:Int).toNat * 1)),I x_84,.b (.one (.sl 1 (x_82.Bodies.map eI))),.b (.one (.sl 1 (x_85.map eS))),.fa [.agg (aj x_86),.one (.sl 7 (x_87.map af)),.one (.i x_88)],.fa [.agg (aj x_86),.one (.sl 7 (x_87.map af)),.one (.i x_88)],.b (.agg (aj x_86)),.b (.one (.sl 7 (x_87.map af))),I x_88,Pt 121 0,B true,.b (.one (.sl 7 (x_87.map af))),I x_88] [⟨[false,false,false,false,false,false,false,false,false,false,false,false,false,false,false,false,false,false,false],[(0,I regions0),(1,.b (.one (.sl 1 (home0.map eI)))),(3,.b (.one (.sl 1 (l0.map (eK .u8))))),(9,.b (.row 106)),(10,.b (.row 117)),(11,.b (.row 101)),(18,I i_43),(25,I me_68),(26,.b (.row 118)),(27,I k_77),(28,.b (.one (.sl 1 (x_82.Bodies.map eI))))],[(101,.row 22 1 (all_7.map (eL 1 eI))),(106,.row 31 10 (rounds_75.map aj)),(117,.row 42 7 (way_76.map af)),(118,.row 3 1 (x_74.map eI))],[true,true,true,true,true,true,true,true,true,true,true,true,true,true,true,true,true,true,true],[],[16,17,18]⟩,⟨[false,false,false,false,false,false,false,false,false,false,false,false,false,false,false,true,false,false,false],[(0,I regions0),(1,.b (.one (.sl 1 (home0.map eI)))),(3,.b (.one (.sl 1 (l0.map (eK .u8))))),(9,.b (.row 106)),(10,.b (.row 117)),(11,.b (.row 101)),(18,I i_43),(25,I me_68),(26,.b (.row 118)),(27,I k_77),(28,.b (.one (.sl 1 (x_82.Bodies.map eI))))],[(101,.row 22 1 (all_7.map (eL 1 eI))),(106,.row 31 10 (rounds_75.map aj)),(117,.row 42 7 (way_76.map af)),(118,.row 3 1 (x_74.map eI)),(121,.box 31 [.i 0,.i 0,.i 0,.nil,.nil,.nil,.nil,.nil,.nil,.nil])],[true,true,true,true,true,true,true,true,true,true,true,true,true,true,true,true,true,true,true],[15],[17,18]⟩,⟨[false,false,false,false,false,false,false,false,false,false,false,false,false,false,false,true,true,false,false],[(0,I regions0),(1,.b (.one (.sl 1 (home0.map eI)))),(3,.b (.one (.sl 1 (l0.map (eK .u8))))),(9,.b (.row 106)),(10,.b (.row 117)),(11,.b (.row 101)),(18,I i_43),(25,I me_68),(26,.b (.row 118)),(27,I k_77),(28,.b (.one (.sl 1 (x_82.Bodies.map eI))))],[(101,.row 22 1 (all_7.map (eL 1 eI))),(106,.row 31 10 (rounds_75.map aj)),(117,.row 42 7 (way_76.map af)),(118,.row 3 1 (x_74.map eI)),(121,.box 31 (aj x_86))],[true,true,true,true,true,true,true,true,true,true,true,true,true,true,true,true,true,true,true],[0,1,2,3,4,5,6,7,8,9,10,11,12,15,16],[]⟩] rfl (⟨by kernel_rfl,⟨⟨.b (.row 106),fun _=>rfl,fun _=>.p (by exact az rfl)⟩,⟨I me_68,fun _=>rfl,fun _=>.p (by exact az rfl)⟩,⟨.b (.cG 106 ((me_68:Int).toNat * 10)),fun _=>rfl,fun _=>.p (by exact bc fL (aK e100) (cx e100) rfl rfl rfl rfl)⟩,⟨.b (.agg (aj x_83)),fun _=>rfl,fun _=>.p (by exact eW (i:=(me_68:Int).toNat) (f:=0) aV rfl rfl rfl (aE (e:=aj) e100) rfl rfl)⟩,⟨.b (.row 118),fun _=>rfl,fun _=>.p (by exact az rfl)⟩,⟨I k_77,fun _=>rfl,fun _=>.p (by exact az rfl)⟩,⟨.b (.cG 118 ((k_77:Int).toNat * 1)),fun _=>rfl,fun _=>.p (by exact bc ba (aK e101) (cx e101) rfl rfl rfl rfl)⟩,⟨I x_84,fun _=>rfl,fun _=>.p (by exact c6 (i:=(k_77:Int).toNat) (f:=0) aP rfl rfl rfl (aE (e:=eI) e101) rfl)⟩,⟨.b (.one (.sl 1 (x_82.Bodies.map eI))),fun _=>rfl,fun _=>.p (by exact az rfl)⟩,⟨.b (.one (.sl 1 (x_85.map eS))),fun _=>rfl,fun _=>.p (by exact aH (dU 0 e102).iB uC rfl rfl)⟩,⟨.fa [.agg (aj x_86),.one (.sl 7 (x_87.map af)),.one (.i x_88)],fun _=>rfl,fun _=>.p (by exact aH (iy 0 e103).iB uG rfl rfl)⟩,⟨.fa [.agg (aj x_86),.one (.sl 7 (x_87.map af)),.one (.i x_88)],fun _=>rfl,fun _=>.p (by exact az rfl)⟩,⟨.b (.agg (aj x_86)),fun _=>rfl,fun _=>.p (by exact aJ rfl rfl)⟩,⟨.b (.one (.sl 7 (x_87.map af))),fun _=>rfl,fun _=>.p (by exact aJ rfl rfl)⟩,⟨I x_88,fun _=>rfl,fun _=>.p (by exact aJ rfl rfl)⟩,⟨_,[121],Pt 121 0,rfl,fun _=>rfl,rfl,rfl,fun _=>.mc [101,106,117,118,121] (by exact .p (by exact dN (k:=121) ji rfl)) (by exact rfl)⟩,trivial,trivial,trivial,trivial⟩,⟨by kernel_rfl,⟨⟨.b (.row 106),fun _=>rfl,fun _=>.p (by exact az rfl)⟩,⟨I me_68,fun _=>rfl,fun _=>.p (by exact az rfl)⟩,⟨.b (.cG 106 ((me_68:Int).toNat * 10)),fun _=>rfl,fun _=>.p (by exact bc fL (aK e100) (cx e100) rfl rfl rfl rfl)⟩,⟨.b (.agg (aj x_83)),fun _=>rfl,fun _=>.p (by exact eW (i:=(me_68:Int).toNat) (f:=0) aV rfl rfl rfl (aE (e:=aj) e100) rfl rfl)⟩,⟨.b (.row 118),fun _=>rfl,fun _=>.p (by exact az rfl)⟩,⟨I k_77,fun _=>rfl,fun _=>.p (by exact az rfl)⟩,⟨.b (.cG 118 ((k_77:Int).toNat * 1)),fun _=>rfl,fun _=>.p (by exact bc ba (aK e101) (cx e101) rfl rfl rfl rfl)⟩,⟨I x_84,fun _=>rfl,fun _=>.p (by exact c6 (i:=(k_77:Int).toNat) (f:=0) aP rfl rfl rfl (aE (e:=eI) e101) rfl)⟩,⟨.b (.one (.sl 1 (x_82.Bodies.map eI))),fun _=>rfl,fun _=>.p (by exact az rfl)⟩,⟨.b (.one (.sl 1 (x_85.map eS))),fun _=>rfl,fun _=>.p (by exact aH (dU 0 e102).iB uC rfl rfl)⟩,⟨.fa [.agg (aj x_86),.one (.sl 7 (x_87.map af)),.one (.i x_88)],fun _=>rfl,fun _=>.p (by exact aH (iy 0 e103).iB uG rfl rfl)⟩,⟨.fa [.agg (aj x_86),.one (.sl 7 (x_87.map af)),.one (.i x_88)],fun _=>rfl,fun _=>.p (by exact az rfl)⟩,⟨.b (.agg (aj x_86)),fun _=>rfl,fun _=>.p (by exact aJ rfl rfl)⟩,⟨.b (.one (.sl 7 (x_87.map af))),fun _=>rfl,fun _=>.p (by exact aJ rfl rfl)⟩,⟨I x_88,fun _=>rfl,fun _=>.p (by exact aJ rfl rfl)⟩,trivial,⟨_,[],.b (.one .any),rfl,(fun e=>by simp at e),rfl,rfl,fun _=>.mc [101,106,117,118,121] (by exact .p (by exact bD aV rfl rfl rfl rfl (Nat.le_of_ble_eq_true rfl) rfl)) (by exact rfl)⟩,trivial,trivial,trivial⟩,⟨by kernel_rfl,⟨trivial,trivial,trivial,trivial,trivial,trivial,trivial,trivial,trivial,trivial,trivial,trivial,trivial,⟨.b (.one (.sl 7 (x_87.map af))),fun _=>rfl,fun _=>.p (by exact aJ rfl rfl)⟩,⟨I x_88,fun _=>rfl,fun _=>.p (by exact aJ rfl rfl)⟩,trivial,trivial,⟨.b (.one (.sl 7 (x_87.map af))),fun _=>rfl,fun _=>.p (by exact cH rfl)⟩,⟨I x_88,fun _=>rfl,fun _=>.p (by exact cH rfl)⟩,trivial⟩,trivial⟩⟩⟩) rfl rfl rfl [0,1,3,9,10,11,18,25,26,27,28,29,30,31] [101,106,117,118,121] (s':=⟨[(0,_),(1,_),(3,_),(9,_),(10,_),(11,_),(18,_),(25,_),(26,_),(27,_),(28,_),(29,Pt 121 0),(30,.b (.one (.sl 7 (x_87.map af)))),(31,I x_88)],[(101,_),(106,_),(117,_),(118,_),(121,.box 31 (aj x_86))]⟩) rfl ?_
            refine ab.seq (ab.seq (ab.aa ?_))
            refine Oc om (Oc (dg rfl rfl) (Oc om ?_))
            refine cr (!(decide (x_88 ≠ 0))) [] (fun g104=>trivial) (fun g104=>om) (cr (!(decide (x_88 ≠ 0))) [] (fun g105=>by exact trivial) (fun g105=>om) ?_)
            obtain ⟨x_89,e107,h95⟩:=aR h95
            refine cr (!(decide (x_88 ≠ 0))) [251,252] (fun g106=>⟨g106,g106,trivial⟩) (fun g106=>bc fL (aK (gc e107 g106)) (cx (gc e107 g106)) rfl rfl rfl rfl) (cr (!(decide (x_88 ≠ 0))) [253] (fun g108=>⟨g108,trivial⟩) (fun g108=>eW (i:=(me_68:Int).toNat) (f:=0) aV rfl rfl rfl (aE (e:=aj) (gc e107 g108)) rfl rfl) (ae.ah ⟨[(0,_),(1,_),(3,_),(9,_),(10,_),(11,_),(18,_),(25,_),(26,_),(27,_),(28,_),(29,_),(30,_),(250,B (decide (x_88 ≠ 0))),(254,.opt (!(decide (x_88 ≠ 0))) (.agg (aj x_89)))],[(101,_),(106,_),(117,_),(118,_),(121,_)]⟩ rfl (cr (!(decide (x_88 ≠ 0))) [] (fun g109=>trivial) (fun g109=>om) ?_)))
            obtain ⟨x_90,e111,h95⟩:=aR h95
            refine cr (!(decide (x_88 ≠ 0))) [254,255] (fun g110=>⟨g110,g110,trivial⟩) (fun g110=>aH (kY (gc e111 g110)) goes30 rfl rfl) (cr (!(decide (x_88 ≠ 0))) [256] (fun g112=>⟨g112,trivial⟩) (fun g112=>dv rfl) (Oc (aL (fun e=>by first | (rw [e]; rfl) | (simp only at e; rw [e]; rfl)) rfl rfl rfl rfl) (ae.ak ⟨[(0,_),(1,_),(3,_),(9,_),(10,_),(11,_),(18,_),(25,_),(26,_),(27,_),(29,_),(30,_),(258,B ((decide (x_88 ≠ 0)) || (!x_90)))],[(101,_),(106,_),(117,_),(118,_),(121,_)]⟩ rfl (ab.ite h95 rfl (fun _ h95=>?_) (fun _ h95=>?_)))))
            ·refine ab.seq (ab.aa ?_)
             refine Oc oa (ae.ak ⟨[(8,B false)],[]⟩ rfl (ab.ret (Fin.aq (Fin.aD (Fin.aq ?_)))))
             obtain rfl:=hy96 _ (Option.some.inj h95).symm
             refine Fin.aq (Fin.aD (Fin.aD ?_))
             obtain rfl:=Option.some.inj h89
             refine Fin.aq ?_
             obtain rfl:=hy87 _ (Option.some.inj h86).symm
             refine Fin.aq (Fin.aD (Fin.aD ?_))
             obtain rfl:=Option.some.inj h64
             refine Fin.aq ?_
             obtain rfl:=hy59 _ (Option.some.inj h58).symm
             refine Fin.aq (Fin.aD (Fin.aq ?_))
             obtain rfl:=Option.some.inj h
             refine Fin.ah ⟨[(8,_)],[]⟩ rfl (Fin.bd [.one (.bool false)] (.inl rfl) rfl (.cons (.tmp rfl) .nil) ⟨rfl,rfl⟩)
            ·refine ab.skip (Fin.ah ⟨[(0,_),(1,_),(3,_),(9,_),(10,_),(11,_),(18,_),(25,_),(26,_),(27,_),(29,_),(30,_)],[(101,_),(106,_),(117,_),(118,_),(121,_)]⟩ rfl (Fin.then (ab.seq (ab.aa ?_))))
             refine Oc om (Oc om (Oc (lp aV) ?_))
             obtain ⟨x_91,e113,h95⟩:=aR h95
             refine Oc (bc fL (aK e113) (cx e113) rfl rfl rfl rfl) (Oc (qP (i:=(me_68:Int).toNat) aV rfl rfl rfl rfl (ow e113) (map_set _ _ _ _)) ?_)
             refine ae.ak ⟨[(0,_),(1,_),(3,_),(9,_),(10,_),(11,_),(18,_),(25,_),(26,_),(27,_),(30,_)],[(101,_),(106,.row 31 10 ((rounds_75.set (me_68:Int).toNat x_86).map aj)),(117,_),(118,_)]⟩ rfl (ab.aa (Oc om (Oc om ?_)))
             obtain ⟨x_92,e114,h95⟩:=aR h95
             refine Oc (iJ eP (gn e114) (gm e114) rfl rfl rfl (dt e114) rfl) (Oc oa ?_)
             refine ae.nil (Fin.ax (Fin.ah ⟨[(0,_),(1,_),(3,_),(9,_),(10,_),(11,_),(18,_),(25,_),(26,_),(27,_)],[(101,_),(106,_),(117,.row 42 7 (x_92.map af)),(118,_)]⟩ rfl (Fin.then (ab.aa ?_))))
             refine Oc om (Oc (bq rfl rfl) (Oc oa ?_))
             refine ae.nil ?_
             exact Fin.bK [0,1,3,9,10,11,18,25,26,27] [101,106,117,118] (rounds_75.set (me_68:Int).toNat x_86,x_92,IntKind.i64.wrap (k_77 + 1)) (Option.some.inj h95) rfl
           ·refine ab.exit (Fin.ao ?_)
            obtain rfl:=hy96 _ (Option.some.inj h95).symm
            refine Fin.ao (Fin.aI (Fin.ax ?_))
            exact Fin.join [0,1,3,9,10,11,18,25] [101,106,117] (rounds_75,way_76) (Option.some.inj h89) rfl
          ·rintro ⟨rounds_71,way_72⟩ hv
           subst v88
           refine ab.aa (Oc om (Oc (bq rfl rfl) (Oc oa ?_)))
           refine ae.nil ?_
           exact Fin.bK [0,1,3,9,10,11,18,25] [101,106,117] (rounds_71,way_72,IntKind.i64.wrap (me_68 + 1)) (Option.some.inj h86) rfl
         ·refine ab.exit (Fin.ao ?_)
          obtain rfl:=hy87 _ (Option.some.inj h86).symm
          refine Fin.ao (Fin.aI (Fin.ax ?_))
          exact Fin.join [0,1,3,9,10,11,18] [101,106,117] (rounds_66,way_67) (Option.some.inj h64) rfl
        ·refine ab.skip (Fin.ax ?_)
         exact Fin.join [0,1,3,9,10,11,18] [101,106,117] (rounds_51,way_52) (Option.some.inj h64) rfl
     ·rintro ⟨rounds_46,way_47⟩ hv
      subst v63
      refine ab.aa (Oc om (Oc (bq rfl rfl) (Oc oa ?_)))
      refine ae.nil (Fin.ah ⟨[(0,I regions0),(1,.b (.one (.sl 1 (home0.map eI)))),(3,.b (.one (.sl 1 (l0.map (eK .u8))))),(9,.b (.row 106)),(10,.b (.row 117)),(11,.b (.row 101)),(18,I (IntKind.i64.wrap (i_43 + 1)))],[(101,.row 22 1 (all_7.map (eL 1 eI))),(106,.row 31 10 (rounds_46.map aj)),(117,.row 42 7 (way_47.map af))]⟩ rfl (Fin.rename 117 107 rfl (by decide) rfl ?_))
      exact Fin.bK [0,1,3,9,10,11,18] [101,106,107] (rounds_46,way_47,IntKind.i64.wrap (i_43 + 1)) (Option.some.inj h58) rfl
    ·refine ab.exit (Fin.ao ?_)
     obtain rfl:=hy59 _ (Option.some.inj h58).symm
     refine Fin.ao (Fin.aI ?_)
     exact Fin.join [0,1,9,11] [101,106] rounds_41 rfl rfl
   ·rintro rounds_40 hv
    subst v55
    obtain ⟨v115,h116,h⟩:=aR h
    refine ab.cJ (v:=v115) (fun (all_93:List (List Int))=>⟨[(0,I regions0),(1,.b (.one (.sl 1 (home0.map eI)))),(9,.b (.row 106)),(11,.b (.row 101))],[(101,.row 22 1 (all_93.map (eL 1 eI))),(106,.row 31 10 (rounds_40.map aj))]⟩) (fun z=>z) ?_ ?_
    ·refine ab.seq (ab.aa ?_)
     refine Oc oa (ae.ak ⟨[(0,_),(1,_),(9,_),(11,_),(32,I 0)],[(101,_),(106,_)]⟩ rfl (ab.block (ab.ct h116 (eD fun (all_94:List (List Int)) (b_95:Int)=>⟨[(0,I regions0),(1,.b (.one (.sl 1 (home0.map eI)))),(9,.b (.row 106)),(11,.b (.row 101)),(32,I b_95)],[(101,.row 22 1 (all_94.map (eL 1 eI))),(106,.row 31 10 (rounds_40.map aj))]⟩) [0,1,9,11,32] [101,106] rfl ?_)))
     rintro ⟨all_94,b_95⟩ o117 h118 hy119
     refine ab.seq (ab.seq (ab.aa ?_))
     refine Oc om (Oc om (Oc (ay cc rfl (List.length_map _)) (Oc (bm rfl rfl) ?_)))
     refine ae.ak ⟨[(0,_),(1,_),(9,_),(11,_),(32,_),(269,B (decide (b_95 < (home0.length:Int))))],[(101,_),(106,_)]⟩ rfl (ab.ite h118 rfl (fun _ h118=>?_) (fun _ h118=>?_))
     ·refine ab.skip (Fin.ah ⟨[(0,_),(1,_),(9,_),(11,_),(32,_)],[(101,_),(106,_)]⟩ rfl (Fin.then ?_))
      obtain ⟨v120,h121,h118⟩:=aR h118
      refine ab.cJ (v:=v120) (fun (all_97:List (List Int))=>⟨[(0,I regions0),(1,.b (.one (.sl 1 (home0.map eI)))),(9,.b (.row 106)),(11,.b (.row 101)),(32,I b_95)],[(101,.row 22 1 (all_97.map (eL 1 eI))),(106,.row 31 10 (rounds_40.map aj))]⟩) (fun z=>z) ?_ ?_
      ·refine ab.block (ab.seq (ab.aa ?_))
       refine Oc om (Oc om ?_)
       obtain ⟨x_98,e122,h121⟩:=aR h121
       refine Oc (ar ba (aK e122) (aE (e:=eI) e122) rfl rfl) (Oc (aw aP rfl rfl) (Oc (fN rfl rfl) ?_))
       refine ae.ak ⟨[(0,_),(1,_),(9,_),(11,_),(32,_),(276,B (decide (0 ≤ x_98)))],[(101,_),(106,_)]⟩ rfl (ab.ite h121 rfl (fun _ h121=>?_) (fun _ h121=>?_))
       ·refine ab.aa (Oc om (Oc om (Oc (aN (k:=122) (es:=[b_95].map eI) ba rfl rfl (bw fun _=>rfl) rfl (by decide) (by decide) rfl) ?_)))
        refine ae.br 122 rfl (ae.ah ⟨[(0,I regions0),(1,.b (.one (.sl 1 (home0.map eI)))),(9,.b (.row 106)),(11,.b (.row 101)),(32,I b_95),(277,.b (.row 101)),(279,.b (.one (.sl 1 ([b_95].map eI))))],[(101,.row 22 1 (all_94.map (eL 1 eI))),(106,.row 31 10 (rounds_40.map aj))]⟩ rfl (Oc (aN (k:=123) (es:=[[b_95]].map (eL 1 eI)) er rfl rfl (bw fun _=>rfl) rfl (by decide) (by decide) rfl) ?_))
        obtain ⟨x_99,e123,h121⟩:=aR h121
        refine Oc (dx er (gn e123) (gm e123) rfl rfl rfl rfl (dt e123) rfl) (Oc oa ?_)
        refine ae.nil (Fin.ax ?_)
        exact Fin.join [0,1,9,11,32] [101,106] x_99 (Option.some.inj h121) rfl
       ·refine ab.skip (Fin.ax ?_)
        exact Fin.join [0,1,9,11,32] [101,106] all_94 (Option.some.inj h121) rfl
      ·rintro all_97 hv
       subst v120
       refine ab.aa (Oc om (Oc (bq rfl rfl) (Oc oa ?_)))
       refine ae.nil ?_
       exact Fin.bK [0,1,9,11,32] [101,106] (all_97,IntKind.i64.wrap (b_95 + 1)) (Option.some.inj h118) rfl
     ·refine ab.exit (Fin.ao ?_)
      obtain rfl:=hy119 _ (Option.some.inj h118).symm
      refine Fin.ao (Fin.aI ?_)
      exact Fin.join [0,1,9,11] [101,106] all_94 rfl rfl
    ·rintro all_93 hv
     subst v115
     refine ab.seq (ab.aa ?_)
     refine Oc om (ae.br 101 rfl (Oc (aN (k:=124) (es:=[all_93].map (eL 1 (eL 1 eI))) jt rfl rfl (bw fun _=>rfl) rfl (by decide) (by decide) rfl) (ae.br 124 rfl ?_)))
     obtain ⟨x_100,e124,h⟩:=aR h
     refine Oc (aH (dc e124) nU rfl rfl) (Oc oa ?_)
     refine ae.ak ⟨[(0,I regions0),(1,.b (.one (.sl 1 (home0.map eI)))),(9,.b (.row 106)),(33,.b (.one (.sl 1 (x_100.map (eL 1 eI)))))],[(106,.row 31 10 (rounds_40.map aj))]⟩ rfl ?_
     obtain ⟨v125,h126,h⟩:=aR h
     refine ab.cJ (v:=v125) (fun (_:Unit)=>⟨[],[]⟩) (fun z=>.inl z) ?_ ?_
     ·refine ab.seq (ab.aa ?_)
      refine Oc oa (ae.ak ⟨[(0,_),(1,_),(9,_),(33,_),(34,I 0)],[(106,_)]⟩ rfl (ab.block (ab.ct h126 (fun (me_101:Int)=>⟨[(0,I regions0),(1,.b (.one (.sl 1 (home0.map eI)))),(9,.b (.row 106)),(33,.b (.one (.sl 1 (x_100.map (eL 1 eI))))),(34,I me_101)],[(106,.row 31 10 (rounds_40.map aj))]⟩) [0,1,9,33,34] [106] rfl ?_)))
      rintro me_101 o127 h128 hy129
      refine ab.seq (ab.seq (ab.aa ?_))
      refine Oc om (Oc om (Oc (bm rfl rfl) ?_))
      refine ae.ak ⟨[(0,_),(1,_),(9,_),(33,_),(34,_),(287,B (decide (me_101 < regions0)))],[(106,_)]⟩ rfl (ab.ite h128 rfl (fun _ h128=>?_) (fun _ h128=>?_))
      ·refine ab.skip (Fin.ah ⟨[(0,_),(1,_),(9,_),(33,_),(34,_)],[(106,_)]⟩ rfl (Fin.then ?_))
       obtain ⟨v130,h131,h128⟩:=aR h128
       refine ab.cJ (v:=v130) (fun (_:Unit)=>⟨[(0,I regions0),(1,.b (.one (.sl 1 (home0.map eI)))),(9,.b (.row 106)),(33,.b (.one (.sl 1 (x_100.map (eL 1 eI))))),(34,I me_101)],[(106,.row 31 10 (rounds_40.map aj))]⟩) (fun z=>.inl z) ?_ ?_
       ·refine ab.block (ab.seq (ab.seq ?_))
        refine ab.ah ⟨[(0,_),(1,_),(9,_),(33,_),(34,_)],[(106,_)]⟩ rfl ?_
        obtain ⟨x_102,e132,h131⟩:=aR h131
        obtain ⟨x_103,e133,h131⟩:=aR h131
        obtain ⟨x_104,e137,h131⟩:=aR h131
        obtain ⟨x_105,e142,h131⟩:=aR h131
        obtain ⟨x_106,e146,h131⟩:=aR h131
        obtain ⟨x_107,e151,h131⟩:=aR h131
        refine ab.fe mixed 30 [.b (.row 106),I me_101,.b (.cG 106 ((me_101:Int).toNat * 10)),.b (.agg (aj x_102)),B x_103,B (!x_103),B (!x_103),.opt (!(!x_103)) (.row 106),.opt (!(!x_103)) (.one (.i me_101)),.opt (!(!x_103)) (.cG 106 ((me_101:Int).toNat * 10)),.opt (!(!x_103)) (.cG 106 ((me_101:Int).toNat * 10 + 7)),.opt (!(!x_103)) (.one (.sl 3 (x_104.Tasks.map an))),.opt (!(!x_103)) (.row 106),.opt (!(!x_103)) (.cG 106 ((0:Int).toNat * 10)),.opt (!(!x_103)) (.cG 106 ((0:Int).toNat * 10 + 7)),.opt (!(!x_103)) (.one (.sl 3 (x_105.Tasks.map an))),.opt (!(!x_103)) (.one (.bool x_106)),.opt (!(!x_103)) (.one (.bool (!x_106))),B ((!x_103) || (!x_106)),B ((!x_103) || (!x_106)),.opt (!((!x_103) || (!x_106))) (.row 106),.opt (!((!x_103) || (!x_106))) (.one (.i me_101)),.opt (!((!x_103) || (!x_106))) (.cG 106 ((me_101:Int).toNat * 10)),.opt (!((!x_103) || (!x_106))) (.cG 106 ((me_101:Int).toNat * 10 + 7)),.opt (!((!x_103) || (!x_106))) (.one (.sl 3 (x_107.Tasks.map an))),.opt (!((!x_103) || (!x_106))) (.one (.i (x_107.Tasks.length:Int))),.opt (!((!x_103) || (!x_106))) (.one (.sl 1 (x_100.map (eL 1 eI)))),.opt (!((!x_103) || (!x_106))) (.one (.i (x_100.length:Int))),.opt (!((!x_103) || (!x_106))) (.one (.bool (decide ((x_107.Tasks.length:Int) ≠ (x_100.length:Int))))),B (((!x_103) || (!x_106)) || (decide ((x_107.Tasks.length:Int) ≠ (x_100.length:Int))))] [0,1,9,33,34,319] [106] (s':=⟨[(0,_),(1,_),(9,_),(33,_),(34,_),(319,B (((!x_103) || (!x_106)) || (decide ((x_107.Tasks.length:Int) ≠ (x_100.length:Int)))))],[(106,_)]⟩) rfl ⟨fun _=>.p om,fun _=>.p om,fun _=>.p (bc fL (aK e132) (cx e132) rfl rfl rfl rfl),fun _=>.p (eW (i:=(me_101:Int).toNat) (f:=0) aV rfl rfl rfl (aE (e:=aj) e132) rfl rfl),fun _=>.p (aH (gx e133) uD rfl rfl),fun _=>.p (dv rfl),fun _=>.p om,fun _=>by exact .guard (!(!x_103)) 1 [] (.plain rfl) (cE _) rfl rfl (fun g134=>trivial) (fun g134=>om),fun _=>by exact .guard (!(!x_103)) 1 [] (.plain rfl) (cE _) rfl rfl (fun g135=>trivial) (fun g135=>om),fun _=>by exact .guard (!(!x_103)) 3 [297,298] (.plain rfl) (cE _) rfl rfl (fun g136=>⟨g136,g136,trivial⟩) (fun g136=>bc fL (aK (gc e137 g136)) (cx (gc e137 g136)) rfl rfl rfl rfl),fun _=>by exact .guard (!(!x_103)) 2 [299] (.plain rfl) (cE _) rfl rfl (fun g138=>⟨g138,trivial⟩) (fun g138=>gO dB rfl rfl),fun _=>by exact .guard (!(!x_103)) 2 [300] (.plain rfl) (cE _) rfl rfl (fun g139=>⟨g139,trivial⟩) (fun g139=>c6 (i:=(me_101:Int).toNat) (f:=7) fG rfl rfl rfl (aE (e:=aj) (gc e137 g139)) rfl),fun _=>by exact .guard (!(!x_103)) 1 [] (.plain rfl) (cE _) rfl rfl (fun g140=>trivial) (fun g140=>om),fun _=>by exact .guard (!(!x_103)) 2 [302] (.plain rfl) (cE _) rfl rfl (fun g141=>⟨g141,trivial⟩) (fun g141=>bc fL (aK (gc e142 g141)) (cx (gc e142 g141)) rfl rfl rfl rfl),fun _=>by exact .guard (!(!x_103)) 2 [303] (.plain rfl) (cE _) rfl rfl (fun g143=>⟨g143,trivial⟩) (fun g143=>gO dB rfl rfl),fun _=>by exact .guard (!(!x_103)) 2 [304] (.plain rfl) (cE _) rfl rfl (fun g144=>⟨g144,trivial⟩) (fun g144=>c6 (i:=(0:Int).toNat) (f:=7) fG rfl rfl rfl (aE (e:=aj) (gc e142 g144)) rfl),fun _=>by exact .guard (!(!x_103)) 4 [301,305] (.plain rfl) (cE _) rfl rfl (fun g145=>⟨g145,g145,trivial⟩) (fun g145=>aH (fq (gc e146 g145)) xQ rfl rfl),fun _=>by exact .guard (!(!x_103)) 2 [306] (.plain rfl) (cE _) rfl rfl (fun g147=>⟨g147,trivial⟩) (fun g147=>dv rfl),fun _=>.p (aL (fun e=>by first | (rw [e]; rfl) | (simp only at e; rw [e]; rfl)) rfl rfl rfl rfl),fun _=>.p om,fun _=>by exact .guard (!((!x_103) || (!x_106))) 1 [] (.plain rfl) (cE _) rfl rfl (fun g148=>trivial) (fun g148=>om),fun _=>by exact .guard (!((!x_103) || (!x_106))) 1 [] (.plain rfl) (cE _) rfl rfl (fun g149=>trivial) (fun g149=>om),fun _=>by exact .guard (!((!x_103) || (!x_106))) 3 [310,311] (.plain rfl) (cE _) rfl rfl (fun g150=>⟨g150,g150,trivial⟩) (fun g150=>bc fL (aK (gc e151 g150)) (cx (gc e151 g150)) rfl rfl rfl rfl),fun _=>by exact .guard (!((!x_103) || (!x_106))) 2 [312] (.plain rfl) (cE _) rfl rfl (fun g152=>⟨g152,trivial⟩) (fun g152=>gO dB rfl rfl),fun _=>by exact .guard (!((!x_103) || (!x_106))) 2 [313] (.plain rfl) (cE _) rfl rfl (fun g153=>⟨g153,trivial⟩) (fun g153=>c6 (i:=(me_101:Int).toNat) (f:=7) fG rfl rfl rfl (aE (e:=aj) (gc e151 g153)) rfl),fun _=>by exact .guard (!((!x_103) || (!x_106))) 2 [314] (.plain rfl) (cE _) rfl rfl (fun g154=>⟨g154,trivial⟩) (fun g154=>ay nE rfl (List.length_map _)),fun _=>by exact .guard (!((!x_103) || (!x_106))) 1 [] (.plain rfl) (cE _) rfl rfl (fun g155=>trivial) (fun g155=>om),fun _=>by exact .guard (!((!x_103) || (!x_106))) 2 [316] (.plain rfl) (cE _) rfl rfl (fun g156=>⟨g156,trivial⟩) (fun g156=>ay nF rfl (List.length_map _)),fun _=>by exact .guard (!((!x_103) || (!x_106))) 3 [315,317] (.plain rfl) (cE _) rfl rfl (fun g157=>⟨g157,g157,trivial⟩) (fun g157=>dg rfl rfl),fun _=>.p (aL (fun e=>by first | (rw [e]; rfl) | (simp only at e; rw [e]; rfl)) rfl rfl rfl rfl),trivial⟩ rfl rfl ?_
        refine ab.ite h131 rfl (fun _ h131=>?_) (fun _ h131=>?_)
        ·refine ab.seq (ab.aa ?_)
         refine Oc oa (ae.ak ⟨[(8,B false)],[]⟩ rfl (ab.ret (Fin.aq (Fin.aD ?_))))
         obtain rfl:=Option.some.inj h131
         refine Fin.aq ?_
         obtain rfl:=hy129 _ (Option.some.inj h128).symm
         refine Fin.aq (Fin.aD (Fin.aq ?_))
         obtain rfl:=Option.some.inj h
         refine Fin.ah ⟨[(8,_)],[]⟩ rfl (Fin.bd [.one (.bool false)] (.inl rfl) rfl (.cons (.tmp rfl) .nil) ⟨rfl,rfl⟩)
        ·refine ab.skip (Fin.ah ⟨[(0,_),(1,_),(9,_),(33,_),(34,_)],[(106,_)]⟩ rfl (Fin.then (ab.seq (ab.aa ?_))))
         refine Oc oa (ae.ak ⟨[(0,_),(1,_),(9,_),(33,_),(34,_),(35,I 0)],[(106,_)]⟩ rfl (ab.block ?_))
         obtain ⟨v158,h159,h131⟩:=aR h131
         refine ab.ct h159 (fun (i_108:Int)=>⟨[(0,I regions0),(1,.b (.one (.sl 1 (home0.map eI)))),(9,.b (.row 106)),(33,.b (.one (.sl 1 (x_100.map (eL 1 eI))))),(34,I me_101),(35,I i_108)],[(106,.row 31 10 (rounds_40.map aj))]⟩) [0,1,9,33,34,35] [106] rfl ?_
         rintro i_108 o160 h161 hy162
         refine ab.seq (ab.seq (ab.aa ?_))
         refine Oc om (Oc om (Oc (ay nF rfl (List.length_map _)) (Oc (bm rfl rfl) ?_)))
         refine ae.ak ⟨[(0,_),(1,_),(9,_),(33,_),(34,_),(35,_),(323,B (decide (i_108 < (x_100.length:Int))))],[(106,_)]⟩ rfl (ab.ite h161 rfl (fun _ h161=>?_) (fun _ h161=>?_))
         ·refine ab.skip (Fin.ah ⟨[(0,_),(1,_),(9,_),(33,_),(34,_),(35,_)],[(106,_)]⟩ rfl (Fin.then ?_))
          obtain ⟨v163,h164,h161⟩:=aR h161
          refine ab.cJ (v:=v163) (fun (_:Unit)=>⟨[(0,I regions0),(1,.b (.one (.sl 1 (home0.map eI)))),(9,.b (.row 106)),(33,.b (.one (.sl 1 (x_100.map (eL 1 eI))))),(34,I me_101),(35,I i_108)],[(106,.row 31 10 (rounds_40.map aj))]⟩) (fun z=>.inl z) ?_ ?_
          ·refine ab.block (ab.seq (ab.aa ?_))
           refine Oc om (Oc om ?_)
           obtain ⟨x_109,e165,h164⟩:=aR h164
           refine Oc (ar er (aK e165) (aE (e:=(eL 1 eI)) e165) rfl rfl) (Oc (aw bx rfl rfl) ?_)
           obtain ⟨x_110,e166,h164⟩:=aR h164
           refine Oc (bJ (dU 125 e166) uC rfl trivial rfl rfl) (Oc oa ?_)
           refine ae.ak ⟨[(0,_),(1,_),(9,_),(33,_),(34,_),(35,_),(36,.b (.row 125))],[(106,_),(125,.row 9 1 (x_110.map eS))]⟩ rfl (ab.seq (ab.seq ?_))
           refine ab.ah ⟨[(0,_),(1,_),(9,_),(33,_),(34,_),(35,_),(36,_)],[(106,_),(125,_)]⟩ rfl ?_
           obtain ⟨x_111,e167,h164⟩:=aR h164
           obtain ⟨x_112,e168,h164⟩:=aR h164
           obtain ⟨x_113,e169,h164⟩:=aR h164
           obtain ⟨x_114,e170,h164⟩:=aR h164
           refine ab.fe mixed 15 [.b (.row 106),I me_101,.b (.cG 106 ((me_101:Int).toNat * 10)),.b (.cG 106 ((me_101:Int).toNat * 10 + 7)),.b (.one (.sl 3 (x_111.Tasks.map an))),I i_108,.b (.dS (an x_112)),.b (.dS [.sl 1 (x_112.Bodies.map eI),.sl 1 (x_112.Helpers.map eI)]),.b (.one (.sl 1 (x_112.Bodies.map eI))),.b (.one (.sl 1 (x_100.map (eL 1 eI)))),I i_108,.b (.dS [.sl 1 (x_113.map eI)]),.b (.one (.sl 1 (x_113.map eI))),B x_114,B (!x_114)] [0,1,9,33,34,35,36,345] [106,125] (s':=⟨[(0,_),(1,_),(9,_),(33,_),(34,_),(35,_),(36,_),(345,B (!x_114))],[(106,_),(125,_)]⟩) rfl ⟨fun _=>.p om,fun _=>.p om,fun _=>.p (bc fL (aK e167) (cx e167) rfl rfl rfl rfl),fun _=>.p (gO dB rfl rfl),fun _=>.p (c6 (i:=(me_101:Int).toNat) (f:=7) fG rfl rfl rfl (aE (e:=aj) e167) rfl),fun _=>.p om,fun _=>.p (ar gu (aK e168) (aE (e:=an) e168) rfl rfl),fun _=>by exact .p (fg dW rfl rfl),fun _=>.p (aw bx rfl rfl),fun _=>.p om,fun _=>.p om,fun _=>.p (ar er (aK e169) (aE (e:=(eL 1 eI)) e169) rfl rfl),fun _=>.p (aw bx rfl rfl),fun _=>.p (aH (eX e170) uF rfl rfl),fun _=>.p (dv rfl),trivial⟩ rfl rfl (ab.ite h164 rfl (fun _ h164=>?_) (fun _ h164=>?_))
           ·refine ab.seq (ab.aa ?_)
            refine Oc oa (ae.ak ⟨[(8,B false)],[]⟩ rfl (ab.ret (Fin.aq (Fin.aD ?_))))
            obtain rfl:=Option.some.inj h164
            refine Fin.aq ?_
            obtain rfl:=hy162 _ (Option.some.inj h161).symm
            refine Fin.aq (Fin.aD (Fin.aD ?_))
            obtain rfl:=Option.some.inj h131
            refine Fin.aq ?_
            obtain rfl:=hy129 _ (Option.some.inj h128).symm
            refine Fin.aq (Fin.aD (Fin.aq ?_))
            obtain rfl:=Option.some.inj h
            refine Fin.ah ⟨[(8,_)],[]⟩ rfl (Fin.bd [.one (.bool false)] (.inl rfl) rfl (.cons (.tmp rfl) .nil) ⟨rfl,rfl⟩)
           ·refine ab.skip (Fin.ah ⟨[(0,_),(1,_),(9,_),(33,_),(34,_),(35,_),(36,_)],[(106,_),(125,_)]⟩ rfl (Fin.then (ab.seq (ab.aa ?_))))
            refine Oc oa (ae.ak ⟨[(0,_),(1,_),(9,_),(33,_),(34,_),(35,_),(36,_),(37,I 0)],[(106,_),(125,_)]⟩ rfl (ab.block ?_))
            obtain ⟨v171,h172,h164⟩:=aR h164
            refine ab.ct h172 (fun (k_115:Int)=>⟨[(0,I regions0),(1,.b (.one (.sl 1 (home0.map eI)))),(9,.b (.row 106)),(33,.b (.one (.sl 1 (x_100.map (eL 1 eI))))),(34,I me_101),(35,I i_108),(36,.b (.row 125)),(37,I k_115)],[(106,.row 31 10 (rounds_40.map aj)),(125,.row 9 1 (x_110.map eS))]⟩) [0,1,9,33,34,35,36,37] [106,125] rfl ?_
            rintro k_115 o173 h174 hy175
            refine ab.seq (ab.seq (ab.aa ?_))
            refine Oc om (Oc om (Oc om ?_))
            obtain ⟨x_116,e176,h174⟩:=aR h174
            refine Oc (ar er (aK e176) (aE (e:=(eL 1 eI)) e176) rfl rfl) (Oc (aw bx rfl rfl) (Oc (ay cc rfl (List.length_map _)) (Oc (bm rfl rfl) ?_)))
            refine ae.ak ⟨[(0,_),(1,_),(9,_),(33,_),(34,_),(35,_),(36,_),(37,_),(352,B (decide (k_115 < (x_116.length:Int))))],[(106,_),(125,_)]⟩ rfl (ab.ite h174 rfl (fun _ h174=>?_) (fun _ h174=>?_))
            ·refine ab.skip (Fin.ah ⟨[(0,_),(1,_),(9,_),(33,_),(34,_),(35,_),(36,_),(37,_)],[(106,_),(125,_)]⟩ rfl (Fin.then (ab.seq (ab.block (ab.seq (ab.aa ?_))))))
             refine Oc om (Oc om ?_)
             obtain ⟨x_117,e177,h174⟩:=aR h174
             refine Oc (ar er (aK e177) (aE (e:=(eL 1 eI)) e177) rfl rfl) (Oc (aw bx rfl rfl) (Oc om ?_))
             obtain ⟨x_118,e178,h174⟩:=aR h174
             refine Oc (ar ba (aK e178) (aE (e:=eI) e178) rfl rfl) (Oc (aw aP rfl rfl) (Oc oa ?_))
             refine ae.ak ⟨[(0,_),(1,_),(9,_),(33,_),(34,_),(35,_),(36,_),(37,_),(38,I x_118)],[(106,_),(125,_)]⟩ rfl (ab.seq ?_)
             obtain ⟨x_119,e179,h174⟩:=aR h174
             obtain ⟨x_120,e183,h174⟩:=aR h174
             obtain ⟨x_121,e188,h174⟩:=aR h174
             obtain ⟨x_122,e193,h174⟩:=aR h174
             refine ab.fe mixed 21 [.b (.one (.sl 1 (home0.map eI))),I x_118,.b (.dS [.i x_119]),I x_119,I me_101,B (decide (x_119 = me_101)),B (decide (x_119 = me_101)),.opt (decide (x_119 = me_101)) (.row 106),.opt (decide (x_119 = me_101)) (.one (.i me_101)),.opt (decide (x_119 = me_101)) (.cG 106 ((me_101:Int).toNat * 10)),.opt (decide (x_119 = me_101)) (.cG 106 ((me_101:Int).toNat * 10 + 9)),.opt (decide (x_119 = me_101)) (.one (.sl 1 (x_120.Results.map eS))),.opt (decide (x_119 = me_101)) (.one (.i x_118)),.opt (decide (x_119 = me_101)) (.dS [.str x_121]),.opt (decide (x_119 = me_101)) (.one (.str x_121)),.opt (decide (x_119 = me_101)) (.row 125),.opt (decide (x_119 = me_101)) (.one (.i k_115)),.opt (decide (x_119 = me_101)) (.cG 125 ((k_115:Int).toNat * 1)),.opt (decide (x_119 = me_101)) (.one (.str x_122)),.opt (decide (x_119 = me_101)) (.one (.bool (decide (x_121 ≠ x_122)))),B ((decide (x_119 = me_101)) && (decide (x_121 ≠ x_122)))] [0,1,9,33,34,35,36,37,382] [106,125] (s':=⟨[(0,_),(1,_),(9,_),(33,_),(34,_),(35,_),(36,_),(37,_),(382,B ((decide (x_119 = me_101)) && (decide (x_121 ≠ x_122))))],[(106,_),(125,_)]⟩) rfl ⟨fun _=>.p om,fun _=>.p om,fun _=>.p (ar ba (aK e179) (aE (e:=eI) e179) rfl rfl),fun _=>.p (aw aP rfl rfl),fun _=>.p om,fun _=>.p (dT rfl rfl),fun _=>.p om,fun _=>by exact .guard (decide (x_119 = me_101)) 1 [] (.plain rfl) (dE _) rfl rfl (fun g180=>trivial) (fun g180=>om),fun _=>by exact .guard (decide (x_119 = me_101)) 1 [] (.plain rfl) (dE _) rfl rfl (fun g181=>trivial) (fun g181=>om),fun _=>by exact .guard (decide (x_119 = me_101)) 3 [369,370] (.plain rfl) (dE _) rfl rfl (fun g182=>⟨g182,g182,trivial⟩) (fun g182=>bc fL (aK (gc e183 g182)) (cx (gc e183 g182)) rfl rfl rfl rfl),fun _=>by exact .guard (decide (x_119 = me_101)) 2 [371] (.plain rfl) (dE _) rfl rfl (fun g184=>⟨g184,trivial⟩) (fun g184=>gO fy rfl rfl),fun _=>by exact .guard (decide (x_119 = me_101)) 2 [372] (.plain rfl) (dE _) rfl rfl (fun g185=>⟨g185,trivial⟩) (fun g185=>c6 (i:=(me_101:Int).toNat) (f:=9) dz rfl rfl rfl (aE (e:=aj) (gc e183 g185)) rfl),fun _=>by exact .guard (decide (x_119 = me_101)) 1 [] (.plain rfl) (dE _) rfl rfl (fun g186=>trivial) (fun g186=>om),fun _=>by exact .guard (decide (x_119 = me_101)) 3 [373,374] (.plain rfl) (dE _) rfl rfl (fun g187=>⟨g187,g187,trivial⟩) (fun g187=>ar cS (aK (gc e188 g187)) (aE (e:=eS) (gc e188 g187)) rfl rfl),fun _=>by exact .guard (decide (x_119 = me_101)) 2 [375] (.plain rfl) (dE _) rfl rfl (fun g189=>⟨g189,trivial⟩) (fun g189=>aw gI rfl rfl),fun _=>by exact .guard (decide (x_119 = me_101)) 1 [] (.plain rfl) (dE _) rfl rfl (fun g190=>trivial) (fun g190=>om),fun _=>by exact .guard (decide (x_119 = me_101)) 1 [] (.plain rfl) (dE _) rfl rfl (fun g191=>trivial) (fun g191=>om),fun _=>by exact .guard (decide (x_119 = me_101)) 3 [377,378] (.plain rfl) (dE _) rfl rfl (fun g192=>⟨g192,g192,trivial⟩) (fun g192=>bc cS (aK (gc e193 g192)) (cx (gc e193 g192)) rfl rfl rfl rfl),fun _=>by exact .guard (decide (x_119 = me_101)) 2 [379] (.plain rfl) (dE _) rfl rfl (fun g194=>⟨g194,trivial⟩) (fun g194=>c6 (i:=(k_115:Int).toNat) (f:=0) gI rfl rfl rfl (aE (e:=eS) (gc e193 g194)) rfl),fun _=>by exact .guard (decide (x_119 = me_101)) 3 [376,380] (.plain rfl) (dE _) rfl rfl (fun g195=>⟨g195,g195,trivial⟩) (fun g195=>n5 rfl rfl),fun _=>.p (bS (fun e=>e) rfl rfl rfl rfl),trivial⟩ rfl rfl ?_
             refine ab.ite h174 rfl (fun _ h174=>?_) (fun _ h174=>?_)
             ·refine ab.seq (ab.aa ?_)
              refine Oc oa (ae.ak ⟨[(8,B false)],[]⟩ rfl (ab.ret (Fin.aD (Fin.aq ?_))))
              obtain rfl:=hy175 _ (Option.some.inj h174).symm
              refine Fin.aq (Fin.aD (Fin.aD ?_))
              obtain rfl:=Option.some.inj h164
              refine Fin.aq ?_
              obtain rfl:=hy162 _ (Option.some.inj h161).symm
              refine Fin.aq (Fin.aD (Fin.aD ?_))
              obtain rfl:=Option.some.inj h131
              refine Fin.aq ?_
              obtain rfl:=hy129 _ (Option.some.inj h128).symm
              refine Fin.aq (Fin.aD (Fin.aq ?_))
              obtain rfl:=Option.some.inj h
              refine Fin.ah ⟨[(8,_)],[]⟩ rfl (Fin.bd [.one (.bool false)] (.inl rfl) rfl (.cons (.tmp rfl) .nil) ⟨rfl,rfl⟩)
             ·refine ab.skip (Fin.ax (Fin.ah ⟨[(0,_),(1,_),(9,_),(33,_),(34,_),(35,_),(36,_),(37,_)],[(106,_),(125,_)]⟩ rfl (Fin.then (ab.aa ?_))))
              refine Oc om (Oc (bq rfl rfl) (Oc oa ?_))
              refine ae.nil ?_
              exact Fin.bK [0,1,9,33,34,35,36,37] [106,125] (IntKind.i64.wrap (k_115 + 1)) (Option.some.inj h174) rfl
            ·refine ab.exit (Fin.ao ?_)
             obtain rfl:=hy175 _ (Option.some.inj h174).symm
             refine Fin.ao (Fin.aI (Fin.ax ?_))
             exact Fin.join [0,1,9,33,34,35] [106] () (Option.some.inj h164) rfl
          ·rintro _ hv
           subst v163
           refine ab.aa (Oc om (Oc (bq rfl rfl) (Oc oa ?_)))
           refine ae.nil ?_
           exact Fin.bK [0,1,9,33,34,35] [106] (IntKind.i64.wrap (i_108 + 1)) (Option.some.inj h161) rfl
         ·refine ab.exit (Fin.ao ?_)
          obtain rfl:=hy162 _ (Option.some.inj h161).symm
          refine Fin.ao (Fin.aI (Fin.ax ?_))
          exact Fin.join [0,1,9,33,34] [106] () (Option.some.inj h131) rfl
       ·rintro _ hv
        subst v130
        refine ab.aa (Oc om (Oc (bq rfl rfl) (Oc oa ?_)))
        refine ae.nil ?_
        exact Fin.bK [0,1,9,33,34] [106] (IntKind.i64.wrap (me_101 + 1)) (Option.some.inj h128) rfl
      ·refine ab.exit (Fin.ao ?_)
       obtain rfl:=hy129 _ (Option.some.inj h128).symm
       refine Fin.ao (Fin.aI ?_)
       exact Fin.join [] [] () rfl rfl
     ·rintro _ hv
      subst v125
      refine ab.seq (ab.aa ?_)
      obtain ⟨x_123,e196,h⟩:=aR h
      refine Oc (aH (dV e196) uI rfl rfl) (Oc oa ?_)
      refine ae.ak ⟨[(8,B x_123)],[]⟩ rfl (ab.ret ?_)
      obtain rfl:=Option.some.inj h
      refine Fin.ah ⟨[(8,_)],[]⟩ rfl (Fin.bd [.one (.bool x_123)] (.inl rfl) rfl (.cons (.tmp rfl) .nil) ⟨rfl,rfl⟩)
end Go.Proofs.Ytnpddoaeoefcnaa

