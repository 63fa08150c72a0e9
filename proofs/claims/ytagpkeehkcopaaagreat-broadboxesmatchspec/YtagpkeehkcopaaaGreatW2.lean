/- printed walks -/
import Derived.Test.YtagpkeehkcopaaaGreatW1
namespace Go.Proofs.YtagpkeehkcopaaaGreat
open Go.Sk Go
set_option maxHeartbeats 4000000
set_option maxRecDepth 4000
set_option linter.unusedSimpArgs false
set_option linter.unusedVariables false
def ef (F:Nat) (s0:c7) (id0:Int) (b0:bz):Option (c7 × (List Int) × (List Int) × Int) :=
 (bP F b0).bind fun x_1=>if (!x_1) = true then (er (⟨(⟨.leaf,0,0,0⟩:ir),(⟨.leaf,0,0,0⟩:ir)⟩:c7) fun x_2=>some (x_2,[],[],1)) else (Option.bind (cn F s0 id0) (eW fun x_3 x_4=>if (!x_4) = true then (er (⟨(⟨.leaf,0,0,0⟩:ir),(⟨.leaf,0,0,0⟩:ir)⟩:c7) fun x_5=>some (x_5,[],[],5)) else (Option.bind (cc F s0 id0) (eW fun x_6 x_7=>(cy F x_6 x_3.b).bind fun x_8=>(cy F x_6 b0).bind fun x_9=>Option.bind (ca F x_6 id0 b0) (eW fun x_10 x_11=>(fI F x_9 x_8).bind fun x_12=>(fI F x_8 x_9).bind fun x_13=>some (x_10,x_12,x_13,x_11))))))
theorem kq {F:Nat} {s0:c7} {id0:Int} {b0:bz} {r:c7 × (List Int) × (List Int) × Int} (h:ef F s0 id0 b0 = some r):aq Tryz.prog [] 25 [] [.agg (aJ s0),.one (.i id0),.agg (ak b0)] (Is [] (.ek [.agg (aJ r.1),.one (.sl 1 (r.2.1.map eI)),.one (.sl 1 (r.2.2.1.map eI)),.one (.i r.2.2.2)])):=by
 unfold ef at h
 refine aq.intro 57 Tryz.func25 Tryz.ntmps25 rfl (by simp) fun E=>?_
 show ab _ E ⟨57,[],[],[]⟩ _ ⟨[(0,.b (.agg (aJ s0))),(1,I id0),(2,.b (.agg (ak b0)))],[]⟩ _
 refine ab.seq (ab.aa ?_)
 refine Oc (bp (k:=101) rfl rfl) (Oc (bp (k:=102) rfl rfl) (Oc (aW (k:=103) fh rfl) (Oc oa (Oc oa (Oc oa ?_)))))
 refine af.ai ⟨[(1,I id0),(3,Pt 101 0),(5,Pt 102 0),(6,Pt 103 0)],[(101,.box 49 (aJ s0)),(102,.box 25 (ak b0)),(103,.box 49 [.tr ae (.leaf),.cV 0,.cV 0,.cV 0,.tr ae (.leaf),.cV 0,.cV 0,.cV 0])]⟩ rfl (ab.seq (ab.seq (ab.aa ?_)))
 refine Oc (lp ao) ?_
 obtain ⟨x_1,e1,h⟩:=aM h
 refine Oc (aj (cx e1) kW rfl rfl) (Oc (dp rfl) ?_)
 refine af.ai ⟨[(1,_),(3,_),(5,_),(6,_),(18,B (!x_1))],[(101,_),(102,_),(103,_)]⟩ rfl (ab.ite h rfl (fun _ h=>?_) (fun _ h=>?_))
 ·refine ab.seq (ab.aa ?_)
  refine af.ly aJ h rfl (cg eH rfl rfl) (fun x_2 h=>?_)
  refine Oc (aD aU rfl rfl rfl rfl (Nat.le_of_ble_eq_true rfl) rfl) (Oc oa (Oc oa (Oc oa ?_)))
  refine af.ai ⟨[(6,_),(7,.b (.one (.nil))),(8,.b (.one (.nil))),(9,I 1)],[(103,.box 49 (aJ x_2))]⟩ rfl (ab.ret (Fin.av ?_))
  obtain rfl:=Option.some.inj h
  refine Fin.ag ⟨[(6,_),(7,_),(8,_),(9,_)],[(103,_)]⟩ rfl (Fin.iu 7 1 rfl (by decide) (Fin.iu 8 1 rfl (by decide) (Fin.au [.agg (aJ x_2),.one (.sl 1 ([].map eI)),.one (.sl 1 ([].map eI)),.one (.i 1)] (.inl rfl) rfl (.cons (.agg aU rfl rfl rfl rfl) (.cons (.tmp rfl) (.cons (.tmp rfl) (.cons (.tmp rfl) .nil)))) ⟨rfl,rfl⟩)))
 ·refine ab.skip (Fin.ag ⟨[(1,_),(3,_),(5,_),(6,_)],[(101,_),(102,_),(103,_)]⟩ rfl (Fin.then (ab.seq (ab.aa ?_))))
  refine Oc (lp aU) (Oc om ?_)
  obtain ⟨⟨x_3,x_4⟩,e2,h⟩:=aM h
  refine Oc (aj (eG e2) qB rfl rfl) (Oc om (Oc (ay rfl rfl) ?_))
  refine af.ag ⟨[(1,_),(3,_),(5,_),(6,_),(20,.ek [.agg (ar x_3),.one (.bool x_4)]),(24,.b (.agg (ar x_3)))],[(101,_),(102,_),(103,_)]⟩ rfl (Oc (ay rfl rfl) (Oc (aW (k:=104) gF rfl) (Oc (aD br rfl rfl rfl rfl (Nat.le_of_ble_eq_true rfl) rfl) (Oc oa ?_))))
  refine af.ai ⟨[(1,_),(3,_),(5,_),(6,_),(10,Pt 104 0),(11,B x_4)],[(101,_),(102,_),(103,_),(104,.box 87 (ar x_3))]⟩ rfl (ab.seq (ab.seq (ab.aa ?_)))
  refine Oc om (Oc (dp rfl) ?_)
  refine af.ai ⟨[(1,_),(3,_),(5,_),(6,_),(10,_),(27,B (!x_4))],[(101,_),(102,_),(103,_),(104,_)]⟩ rfl (ab.ite h rfl (fun _ h=>?_) (fun _ h=>?_))
  ·refine ab.seq (ab.aa ?_)
   refine af.ly aJ h rfl (cg eH rfl rfl) (fun x_5 h=>?_)
   refine Oc (aD aU rfl rfl rfl rfl (Nat.le_of_ble_eq_true rfl) rfl) (Oc oa (Oc oa (Oc oa ?_)))
   refine af.ai ⟨[(6,_),(7,.b (.one (.nil))),(8,.b (.one (.nil))),(9,I 5)],[(103,.box 49 (aJ x_5))]⟩ rfl (ab.ret (Fin.av ?_))
   obtain rfl:=Option.some.inj h
   refine Fin.ag ⟨[(6,_),(7,_),(8,_),(9,_)],[(103,_)]⟩ rfl (Fin.iu 7 1 rfl (by decide) (Fin.iu 8 1 rfl (by decide) (Fin.au [.agg (aJ x_5),.one (.sl 1 ([].map eI)),.one (.sl 1 ([].map eI)),.one (.i 5)] (.inl rfl) rfl (.cons (.agg aU rfl rfl rfl rfl) (.cons (.tmp rfl) (.cons (.tmp rfl) (.cons (.tmp rfl) .nil)))) ⟨rfl,rfl⟩)))
  ·refine ab.skip (Fin.ag ⟨[(1,_),(3,_),(5,_),(6,_),(10,_)],[(101,_),(102,_),(103,_),(104,_)]⟩ rfl (Fin.then (ab.seq (ab.aa ?_))))
   refine Oc (lp aU) (Oc om ?_)
   obtain ⟨⟨x_6,x_7⟩,e3,h⟩:=aM h
   refine Oc (aj (fp e3) sY rfl rfl) (Oc om (Oc (ay rfl rfl) ?_))
   refine af.ag ⟨[(1,_),(5,_),(6,_),(10,_),(29,.ek [.agg (aJ x_6),.one (.i x_7)]),(33,.b (.agg (aJ x_6)))],[(102,_),(103,_),(104,_)]⟩ rfl (Oc (ay rfl rfl) (Oc (aW (k:=105) fh rfl) (Oc (aD aU rfl rfl rfl rfl (Nat.le_of_ble_eq_true rfl) rfl) (Oc oa ?_))))
   refine af.ai ⟨[(1,_),(5,_),(6,_),(10,_),(12,Pt 105 0)],[(102,_),(103,_),(104,_),(105,.box 49 (aJ x_6))]⟩ rfl (ab.seq ?_)
   obtain ⟨x_8,e4,h⟩:=aM h
   obtain ⟨x_9,e5,h⟩:=aM h
   refine ab.lB mixed [false,false,false,true,false,false,true,false,false] [.b (.agg (aJ x_6)),Pt 104 1,.b (.agg (ak x_3.b)),.b (.row 106),.b (.agg (aJ x_6)),.b (.agg (ak b0)),.b (.row 107),.b (.row 106),.b (.row 107)] [⟨[false,false,false,false,false,false,false,false,false],[(1,I id0),(5,Pt 102 0),(6,Pt 103 0),(10,Pt 104 0),(12,Pt 105 0)],[(102,.box 25 (ak b0)),(103,.box 49 [.tr ae (.leaf),.cV 0,.cV 0,.cV 0,.tr ae (.leaf),.cV 0,.cV 0,.cV 0]),(104,.box 87 (ar x_3)),(105,.box 49 (aJ x_6))],[true,true,true,true,true,true,true,true,true],[],[6,7,8]⟩,⟨[false,false,false,true,false,false,false,false,false],[(1,I id0),(5,Pt 102 0),(6,Pt 103 0),(10,Pt 104 0),(12,Pt 105 0)],[(102,.box 25 (ak b0)),(103,.box 49 [.tr ae (.leaf),.cV 0,.cV 0,.cV 0,.tr ae (.leaf),.cV 0,.cV 0,.cV 0]),(104,.box 87 (ar x_3)),(105,.box 49 (aJ x_6)),(106,.row 3 1 (x_8.map eI))],[true,true,true,true,true,true,true,true,true],[0,1,2,3],[7,8]⟩,⟨[false,false,false,true,false,false,true,false,false],[(1,I id0),(5,Pt 102 0),(6,Pt 103 0),(10,Pt 104 0),(12,Pt 105 0)],[(102,.box 25 (ak b0)),(103,.box 49 [.tr ae (.leaf),.cV 0,.cV 0,.cV 0,.tr ae (.leaf),.cV 0,.cV 0,.cV 0]),(104,.box 87 (ar x_3)),(105,.box 49 (aJ x_6)),(106,.row 3 1 (x_8.map eI)),(107,.row 3 1 (x_9.map eI))],[true,true,true,true,true,true,true,true,true],[0,1,2,3,4,5,6],[]⟩] rfl (⟨by kernel_rfl,⟨⟨.b (.agg (aJ x_6)),fun _=>rfl,fun _=>.p (by exact cF aU rfl rfl rfl rfl)⟩,⟨Pt 104 1,fun _=>rfl,fun _=>.p (by exact an gy rfl rfl)⟩,⟨.b (.agg (ak x_3.b)),fun _=>rfl,fun _=>.p (by exact cF ao rfl rfl rfl rfl)⟩,⟨_,[106],.b (.row 106),rfl,fun _=>rfl,rfl,rfl,fun _=>.sm [102,103,104,105,106] (by exact .p (by exact c9 (own_a:=[]) ((dc e4).sw 51 106) oO rfl trivial rfl rfl)) (by exact rfl)⟩,⟨.b (.agg (aJ x_6)),fun _=>rfl,fun _=>.p (by exact cF aU rfl rfl rfl rfl)⟩,⟨.b (.agg (ak b0)),fun _=>rfl,fun _=>.p (by exact cF ao rfl rfl rfl rfl)⟩,trivial,trivial,trivial,trivial⟩,⟨by kernel_rfl,⟨trivial,trivial,trivial,trivial,⟨.b (.agg (aJ x_6)),fun _=>rfl,fun _=>.p (by exact cF aU rfl rfl rfl rfl)⟩,⟨.b (.agg (ak b0)),fun _=>rfl,fun _=>.p (by exact cF ao rfl rfl rfl rfl)⟩,⟨_,[107],.b (.row 107),rfl,fun _=>rfl,rfl,rfl,fun _=>.sm [102,103,104,105,106,107] (by exact .p (by exact c9 (own_a:=[]) ((dc e5).sw 51 107) oO rfl trivial rfl rfl)) (by exact rfl)⟩,trivial,trivial,trivial⟩,⟨by kernel_rfl,⟨trivial,trivial,trivial,trivial,trivial,trivial,trivial,⟨.b (.row 106),fun _=>rfl,fun _=>.p (by exact b4 rfl)⟩,⟨.b (.row 107),fun _=>rfl,fun _=>.p (by exact b4 rfl)⟩,trivial⟩,trivial⟩⟩⟩) rfl rfl rfl [1,5,6,12,14,15] [102,103,105,106,107] (s':=⟨[(1,_),(5,_),(6,_),(12,_),(14,.b (.row 106)),(15,.b (.row 107))],[(102,_),(103,_),(105,_),(106,.row 3 1 (x_8.map eI)),(107,.row 3 1 (x_9.map eI))]⟩) rfl ?_
   refine ab.seq (ab.aa ?_)
   refine Oc (lp aU) (Oc om (Oc (lp ao) ?_))
   obtain ⟨⟨x_10,x_11⟩,e6,h⟩:=aM h
   refine Oc (aj (cT e6) nj rfl rfl) (Oc om ?_)
   refine af.ag ⟨[(6,_),(14,_),(15,_),(42,.ek [.agg (aJ x_10),.one (.i x_11)])],[(103,_),(106,_),(107,_)]⟩ rfl (Oc (ay rfl rfl) (Oc (ay rfl rfl) (Oc (aD aU rfl rfl rfl rfl (Nat.le_of_ble_eq_true rfl) rfl) (Oc oa ?_))))
   refine af.ai ⟨[(6,Pt 103 0),(9,I x_11),(14,.b (.row 106)),(15,.b (.row 107))],[(103,.box 49 (aJ x_10)),(106,.row 3 1 (x_8.map eI)),(107,.row 3 1 (x_9.map eI))]⟩ rfl (ab.seq (ab.c8 107 rfl (ab.c8 106 rfl (ab.ag ⟨[(6,_),(9,_),(14,.b (.one (.sl 1 (x_8.map eI)))),(15,.b (.one (.sl 1 (x_9.map eI))))],[(103,_)]⟩ rfl ?_))))
   obtain ⟨x_12,e7,h⟩:=aM h
   obtain ⟨x_13,e8,h⟩:=aM h
   refine ab.lB mixed [false,false,false,false,false,false,false,false,true,false,false,true] [.b (.agg (aJ x_10)),.b (.one (.sl 1 (x_9.map eI))),.b (.one (.sl 1 (x_8.map eI))),.b (.one (.sl 1 (x_12.map eI))),.b (.one (.sl 1 (x_8.map eI))),.b (.one (.sl 1 (x_9.map eI))),.b (.one (.sl 1 (x_13.map eI))),I x_11,B true,.b (.one (.sl 1 (x_12.map eI))),.b (.one (.sl 1 (x_13.map eI))),I x_11] [⟨[false,false,false,false,false,false,false,false,false,false,false,false],[(6,Pt 103 0),(9,I x_11),(14,.b (.one (.sl 1 (x_8.map eI)))),(15,.b (.one (.sl 1 (x_9.map eI))))],[(103,.box 49 (aJ x_10))],[true,true,true,true,true,true,true,true,true,true,true,true],[],[9,10,11]⟩,⟨[false,false,false,false,false,false,false,false,true,false,false,false],[(6,Pt 103 0),(9,I x_11),(14,.b (.one (.sl 1 (x_8.map eI)))),(15,.b (.one (.sl 1 (x_9.map eI))))],[(103,.box 49 (aJ x_10))],[true,true,true,true,true,true,true,true,true,true,true,true],[0,1,2,3,4,5,6,8],[]⟩,⟨[false,false,false,false,false,false,false,false,true,false,false,true],[(6,Pt 103 0),(14,.b (.one (.sl 1 (x_8.map eI)))),(15,.b (.one (.sl 1 (x_9.map eI))))],[(103,.box 49 (aJ x_10))],[true,true,true,true,true,true,true,true,true,true,true,true],[0,1,2,3,4,5,6,7,8,9,10,11],[]⟩] rfl (⟨by kernel_rfl,⟨⟨.b (.agg (aJ x_10)),fun _=>rfl,fun _=>.p (by exact cF aU rfl rfl rfl rfl)⟩,⟨.b (.one (.sl 1 (x_9.map eI))),fun _=>rfl,fun _=>.p (by exact aV rfl)⟩,⟨.b (.one (.sl 1 (x_8.map eI))),fun _=>rfl,fun _=>.p (by exact aV rfl)⟩,⟨.b (.one (.sl 1 (x_12.map eI))),fun _=>rfl,fun _=>.p (by exact aj (iD 0 e7).q8 sU rfl rfl)⟩,⟨.b (.one (.sl 1 (x_8.map eI))),fun _=>rfl,fun _=>.p (by exact aV rfl)⟩,⟨.b (.one (.sl 1 (x_9.map eI))),fun _=>rfl,fun _=>.p (by exact aV rfl)⟩,⟨.b (.one (.sl 1 (x_13.map eI))),fun _=>rfl,fun _=>.p (by exact aj (iD 0 e8).q8 sU rfl rfl)⟩,⟨I x_11,fun _=>rfl,fun _=>.p (by exact aV rfl)⟩,⟨_,[],.b (.one .any),rfl,(fun e=>by simp at e),rfl,rfl,fun _=>.sm [103] (by exact .p (by exact aD aU rfl rfl rfl rfl (Nat.le_of_ble_eq_true rfl) rfl)) (by exact rfl)⟩,trivial,trivial,trivial,trivial⟩,⟨by kernel_rfl,⟨trivial,trivial,trivial,trivial,trivial,trivial,trivial,⟨I x_11,fun _=>rfl,fun _=>.p (by exact aV rfl)⟩,trivial,⟨.b (.one (.sl 1 (x_12.map eI))),fun _=>rfl,fun _=>.p (by exact b4 rfl)⟩,⟨.b (.one (.sl 1 (x_13.map eI))),fun _=>rfl,fun _=>.p (by exact b4 rfl)⟩,⟨_,[],I x_11,rfl,fun _=>rfl,rfl,rfl,fun _=>.sm [103] (by exact .p (by exact b4 rfl)) (by exact rfl)⟩,trivial⟩,⟨by kernel_rfl,⟨trivial,trivial,trivial,trivial,trivial,trivial,trivial,trivial,trivial,trivial,trivial,trivial,trivial⟩,trivial⟩⟩⟩) rfl rfl rfl [6,7,8,9] [103] (s':=⟨[(6,_),(7,.b (.one (.sl 1 (x_12.map eI)))),(8,.b (.one (.sl 1 (x_13.map eI)))),(9,_)],[(103,_)]⟩) rfl ?_
   refine ab.ret ?_
   obtain rfl:=Option.some.inj h
   refine Fin.ag ⟨[(6,_),(7,_),(8,_),(9,_)],[(103,_)]⟩ rfl (Fin.au [.agg (aJ x_10),.one (.sl 1 (x_12.map eI)),.one (.sl 1 (x_13.map eI)),.one (.i x_11)] (.inl rfl) rfl (.cons (.agg aU rfl rfl rfl rfl) (.cons (.tmp rfl) (.cons (.tmp rfl) (.cons (.tmp rfl) .nil)))) ⟨rfl,rfl⟩)
def c3 (F:Nat) (a0:List Int) (b0:List Int):Option Bool :=
 if (decide ((a0.length:Int) ≠ (b0.length:Int))) = true then (some false) else (Option.bind (iter F (fun i_1=>if (decide (i_1 < (a0.length:Int))) = true then ((bb a0 i_1).bind fun x_2=>(bb b0 i_1).bind fun x_3=>if (decide (x_2 ≠ x_3)) = true then (some (.inr (.inr false))) else (some (.inl (IntKind.i64.wrap (i_1 + 1))))) else (some (.inr (.inl ())))) 0) (ct (fun _=>some true) (fun y=>some y)))
theorem eU {F:Nat} {a0:List Int} {b0:List Int} {r:Bool} (h:c3 F a0 b0 = some r):aq Tryz.prog [] 32 [] [.one (.sl 1 (a0.map eI)),.one (.sl 1 (b0.map eI))] (Is [] (.b (.one (.bool r)))):=by
 unfold c3 at h
 refine aq.intro 26 Tryz.func32 Tryz.ntmps32 rfl (by simp) fun E=>?_
 show ab _ E ⟨26,[],[],[]⟩ _ ⟨[(0,.b (.one (.sl 1 (a0.map eI)))),(1,.b (.one (.sl 1 (b0.map eI))))],[]⟩ _
 refine ab.seq (ab.aa ?_)
 refine Oc oa (af.ai ⟨[(0,.b (.one (.sl 1 (a0.map eI)))),(1,.b (.one (.sl 1 (b0.map eI))))],[]⟩ rfl (ab.seq (ab.seq (ab.aa ?_))))
 refine Oc om (Oc (bR eZ rfl (List.length_map _)) (Oc om (Oc (bR eZ rfl (List.length_map _)) (Oc (jz rfl rfl) ?_))))
 refine af.ai ⟨[(0,_),(1,_),(10,B (decide ((a0.length:Int) ≠ (b0.length:Int))))],[]⟩ rfl (ab.ite h rfl (fun _ h=>?_) (fun _ h=>?_))
 ·refine ab.seq (ab.aa ?_)
  refine Oc oa (af.ai ⟨[(4,B false)],[]⟩ rfl (ab.ret (Fin.av ?_)))
  obtain rfl:=Option.some.inj h
  refine Fin.ag ⟨[(4,_)],[]⟩ rfl (Fin.au [.one (.bool false)] (.inl rfl) rfl (.cons (.tmp rfl) .nil) ⟨rfl,rfl⟩)
 ·refine ab.skip (Fin.ag ⟨[(0,_),(1,_)],[]⟩ rfl (Fin.then ?_))
  obtain ⟨v1,h2,h⟩:=aM h
  refine ab.dX (v:=v1) (fun (_:Unit)=>⟨[],[]⟩) (fun z=>.inl z) ?_ ?_
  ·refine ab.seq (ab.aa ?_)
   refine Oc oa (af.ai ⟨[(0,_),(1,_),(5,I 0)],[]⟩ rfl (ab.block (ab.c6 h2 (fun (i_1:Int)=>⟨[(0,.b (.one (.sl 1 (a0.map eI)))),(1,.b (.one (.sl 1 (b0.map eI)))),(5,I i_1)],[]⟩) [0,1,5] [] rfl ?_)))
   rintro i_1 o3 h4 hy5
   refine ab.seq (ab.seq (ab.aa ?_))
   refine Oc om (Oc om (Oc (bR eZ rfl (List.length_map _)) (Oc (bf rfl rfl) ?_)))
   refine af.ai ⟨[(0,_),(1,_),(5,_),(14,B (decide (i_1 < (a0.length:Int))))],[]⟩ rfl (ab.ite h4 rfl (fun _ h4=>?_) (fun _ h4=>?_))
   ·refine ab.skip (Fin.ag ⟨[(0,_),(1,_),(5,_)],[]⟩ rfl (Fin.then (ab.seq (ab.block (ab.seq ?_)))))
    refine ab.ag ⟨[(0,_),(1,_),(5,_)],[]⟩ rfl ?_
    obtain ⟨x_2,e6,h4⟩:=aM h4
    obtain ⟨x_3,e7,h4⟩:=aM h4
    refine ab.bH mixed 9 [.b (.one (.sl 1 (a0.map eI))),I i_1,.b (.aN [.i x_2]),I x_2,.b (.one (.sl 1 (b0.map eI))),I i_1,.b (.aN [.i x_3]),I x_3,B (decide (x_2 ≠ x_3))] [0,1,5,25] [] (s':=⟨[(0,_),(1,_),(5,_),(25,B (decide (x_2 ≠ x_3)))],[]⟩) rfl ⟨fun _=>.p om,fun _=>.p om,fun _=>.p (bA cp (a6 e6) (cM (e:=eI) e6) rfl rfl),fun _=>.p (ax aK rfl rfl),fun _=>.p om,fun _=>.p om,fun _=>.p (bA cp (a6 e7) (cM (e:=eI) e7) rfl rfl),fun _=>.p (ax aK rfl rfl),fun _=>.p (jz rfl rfl),trivial⟩ rfl rfl (ab.ite h4 rfl (fun _ h4=>?_) (fun _ h4=>?_))
    ·refine ab.seq (ab.aa ?_)
     refine Oc oa (af.ai ⟨[(4,B false)],[]⟩ rfl (ab.ret (Fin.aS (Fin.av ?_))))
     obtain rfl:=hy5 _ (Option.some.inj h4).symm
     refine Fin.av (Fin.aS (Fin.av ?_))
     obtain rfl:=Option.some.inj h
     refine Fin.ag ⟨[(4,_)],[]⟩ rfl (Fin.au [.one (.bool false)] (.inl rfl) rfl (.cons (.tmp rfl) .nil) ⟨rfl,rfl⟩)
    ·refine ab.skip (Fin.az (Fin.ag ⟨[(0,_),(1,_),(5,_)],[]⟩ rfl (Fin.then (ab.aa ?_))))
     refine Oc om (Oc (bK rfl rfl) (Oc oa ?_))
     refine af.nil ?_
     exact Fin.cu [0,1,5] [] (IntKind.i64.wrap (i_1 + 1)) (Option.some.inj h4) rfl
   ·refine ab.exit (Fin.aC ?_)
    obtain rfl:=hy5 _ (Option.some.inj h4).symm
    refine Fin.aC (Fin.aY ?_)
    exact Fin.join [] [] () rfl rfl
  ·rintro _ hv
   subst v1
   refine ab.seq (ab.aa ?_)
   refine Oc oa (af.ai ⟨[(4,B true)],[]⟩ rfl (ab.ret ?_))
   obtain rfl:=Option.some.inj h
   refine Fin.ag ⟨[(4,_)],[]⟩ rfl (Fin.au [.one (.bool true)] (.inl rfl) rfl (.cons (.tmp rfl) .nil) ⟨rfl,rfl⟩)
def dB (F:Nat) (s0:c7):Option (List A2) :=
 Option.bind (rP (fun _=>some true) s0.ids.root) (fun xs_1=>Option.bind (each (fun outf0_3=>fun x_2=>(cy F s0 x_2.b).bind fun x_4=>Option.bind (iter F (eW fun outf0_5 x_6=>if (decide (x_6 < (x_4.length:Int))) = true then (Option.bind ((bb x_4 x_6).bind fun x_9=>if (decide (x_2.id < x_9)) = true then ((mP outf0_5 [(⟨x_2.id,x_9⟩:A2)]).bind fun x_10=>some x_10) else (some outf0_5)) (fun outf0_8=>some (.inl (outf0_8,IntKind.i64.wrap (x_6 + 1))))) else (some (.inr outf0_5))) (outf0_3,0)) (fun outf0_7=>some (.inl outf0_7))) (xs_1) []) (ct (fun outf0_3=>some outf0_3) (fun (_:Unit)=>none)))
theorem gO {F:Nat} {s0:c7} {r:(List A2)} (h:dB F s0 = some r):aq Tryz.prog [] 26 [] [.agg (aJ s0)] (Is [(51,.row 40 2 (r.map (dW .i64)))] (.b (.row 51))):=by
 unfold dB at h
 refine aq.sO 34 Tryz.func26 Tryz.ntmps26 rfl (by simp) fun E=>?_
 show ab _ E ⟨34,[],[],[]⟩ _ ⟨[(0,.b (.agg (aJ s0)))],[]⟩ _
 refine ab.seq (ab.aa ?_)
 refine Oc (bp (k:=101) rfl rfl) (Oc oa ?_)
 refine af.ai ⟨[(1,Pt 101 0)],[(101,.box 49 (aJ s0))]⟩ rfl (ab.seq (ab.aa ?_))
 refine Oc (aW (k:=102) tj rfl) (af.ai ⟨[(1,_),(3,Pt 102 0)],[(101,_),(102,.box 35 [.nil])]⟩ rfl (ab.seq (ab.seq (ab.aa ?_))))
 refine Oc (an ka rfl rfl) (Oc (an fu rfl rfl) (Oc (aE bq rfl rfl rfl) (Oc (aj pZ sT rfl rfl) ?_)))
 refine af.ai ⟨[(1,_),(3,_),(10,.b (.one (.eX 77 [CP.rp [.tr ae s0.ids.root],CP.rp [.raw (.func (.func 58) #[] #[])]])))],[(101,_),(102,_)]⟩ rfl ?_
 obtain ⟨xs_1,e1,h⟩:=aM h
 refine ab.ag ⟨[(1,Pt 101 0),(3,Pt 102 0),(10,.b (.one (.eX 77 [CP.rp [.tr ae s0.ids.root],CP.rp [.raw (.func (.func 58) #[] #[])]])))],[(101,.box 49 (aJ s0)),(102,.box 35 [.nil])]⟩ rfl (ab.toX 102 rfl (ab.gT 102 0 106 2 40 rfl rfl (by decide) (by decide) rfl (ab.ag ⟨[(1,_),(3,_),(10,_)],[(101,_),(102,.b5 35 [.row 106]),(106,.row 40 2 ([].map (dW .i64)))]⟩ rfl (ab.sJ _ sv _ _ (fun (outf0_3:List A2)=>[(101,.box 49 (aJ s0)),(102,.b5 35 [.row 106]),(106,.row 40 2 (outf0_3.map (dW .i64)))]) (fun (_:Unit)=>([]:List (Nat × OC))) (fun (outf0_3:List A2)=>fun x_2=>⟨[(1,Pt 101 0),(3,Pt 102 0),(4,Pt 108 0)],[(101,.box 49 (aJ s0)),(102,.b5 35 [.row 106]),(106,.row 40 2 (outf0_3.map (dW .i64))),(108,.box 87 (ar x_2))]⟩) h (p4 pj e1) sQ rfl rfl rfl (fun _=>rfl) (fun _=>rfl) (fun _=>rfl) (fun _ _=>rfl) (fun _ _=>rfl) rfl (fun _=>rfl) ?_ ?_ ?_ ?_))))
 ·rintro E l outf0_3 x_2 z _ h2
  refine aX.keep [1,3,10,11] [101,102,106] (s':=⟨[(1,Pt 101 0),(3,Pt 102 0),(10,.b (.one (.eX 77 [CP.rp [.tr ae s0.ids.root],CP.rp [.raw (.func (.func 58) #[] #[])]]))),(11,.b (.agg (ar x_2)))],[(101,.box 49 (aJ s0)),(102,.b5 35 [.row 106]),(106,.row 40 2 (outf0_3.map (dW .i64)))]⟩) rfl (aX.aa (.inr ⟨_,rfl⟩) (Oc (aW (k:=108) gF rfl) (Oc (aD br rfl rfl rfl rfl (Nat.le_of_ble_eq_true rfl) rfl) ?_)))
  refine af.nil ?_
  exact Fin.ag ⟨[(1,_),(3,_),(4,Pt 108 0)],[(101,_),(102,_),(106,_),(108,.box 87 (ar x_2))]⟩ rfl (fun a w hr=>hr)
 ·rintro E l outf0_3 x_2 z _ h2
  refine aX.block (aX.seq (aX.aa (.inr ⟨_,rfl⟩) (Oc (lp aU) (Oc (an gy rfl rfl) (Oc (lp ao) ?_)))))
  obtain ⟨x_4,e3,h2⟩:=aM h2
  refine Oc (c9 (own_a:=[]) ((dc e3).sw 51 109) oO rfl trivial rfl rfl) (Oc (eK eZ rfl rfl (List.length_map _)) (Oc om ?_))
  refine af.nil (Fin.ag ⟨[(1,Pt 101 0),(3,Pt 102 0),(4,Pt 108 0),(15,.b (.row 109)),(16,I (x_4.length:Int)),(17,I 0)],[(101,.box 49 (aJ s0)),(102,.b5 35 [.row 106]),(106,.row 40 2 (outf0_3.map (dW .i64))),(108,.box 87 (ar x_2)),(109,.row 3 1 (x_4.map eI))]⟩ rfl (Fin.gb ?_ (fun ⟨_,_,hl⟩=>hl)))
  refine aX.block ?_
  obtain ⟨v4,h5,h2⟩:=aM h2
  refine aX.c6 h5 (eW fun (outf0_5:List A2) (x_6:Int)=>⟨[(1,Pt 101 0),(3,Pt 102 0),(4,Pt 108 0),(15,.b (.row 109)),(16,I (x_4.length:Int)),(17,I x_6)],[(101,.box 49 (aJ s0)),(102,.b5 35 [.row 106]),(106,.row 40 2 (outf0_5.map (dW .i64))),(108,.box 87 (ar x_2)),(109,.row 3 1 (x_4.map eI))]⟩) [1,3,4,15,16,17] [101,102,106,108,109] rfl ?_
  rintro ⟨outf0_5,x_6⟩ o6 h7 hy8
  refine aX.seq (aX.aa (.inr ⟨_,rfl⟩) (Oc (bf rfl rfl) (af.nil (Fin.ag ⟨[(1,_),(3,_),(4,_),(15,_),(16,_),(17,I x_6),(18,B (decide (x_6 < (x_4.length:Int))))],[(101,_),(102,_),(106,.row 40 2 (outf0_5.map (dW .i64))),(108,_),(109,_)]⟩ rfl (Fin.gb ?_ (fun ⟨_,_,hl⟩=>hl))))))
  refine aX.seq (aX.ite h7 rfl (fun _ h7=>?_) (fun _ h7=>?_))
  ·refine aX.skip (Fin.ag ⟨[(1,_),(3,_),(4,_),(15,_),(16,_),(17,_)],[(101,_),(102,_),(106,_),(108,_),(109,_)]⟩ rfl (Fin.gb ?_ (fun ⟨_,_,hl⟩=>hl)))
   obtain ⟨v9,h10,h7⟩:=aM h7
   refine aX.dX (v:=v9) (fun (outf0_8:List A2)=>⟨[(1,Pt 101 0),(3,Pt 102 0),(4,Pt 108 0),(15,.b (.row 109)),(16,I (x_4.length:Int)),(17,I x_6)],[(101,.box 49 (aJ s0)),(102,.b5 35 [.row 106]),(106,.row 40 2 (outf0_8.map (dW .i64))),(108,.box 87 (ar x_2)),(109,.row 3 1 (x_4.map eI))]⟩) (fun z=>z) ?_ ?_
   ·refine aX.block (aX.seq (aX.aa (.inr ⟨_,rfl⟩) ?_))
    obtain ⟨x_9,e11,h10⟩:=aM h10
    refine Oc (du cp (a6 e11) (iM e11) rfl rfl rfl rfl) (Oc (fy (i:=(x_6:Int).toNat) (f:=0) aK rfl rfl rfl (cM (e:=eI) e11) rfl) (Oc oa ?_))
    refine af.nil (Fin.ag ⟨[(1,_),(3,_),(4,_),(6,I x_9),(15,_),(16,_),(17,_)],[(101,_),(102,_),(106,_),(108,_),(109,_)]⟩ rfl (Fin.gb ?_ (fun ⟨_,_,hl⟩=>hl)))
    refine aX.seq (aX.aa (.inr ⟨_,rfl⟩) (Oc om (Oc (an dC rfl rfl) (Oc (aE aK rfl rfl rfl) (Oc (hY rfl rfl) ?_)))))
    refine af.nil (Fin.ag ⟨[(1,_),(3,_),(4,_),(6,_),(15,_),(16,_),(17,_),(24,B (decide (x_2.id < x_9)))],[(101,_),(102,_),(106,_),(108,_),(109,_)]⟩ rfl (Fin.gb ?_ (fun ⟨_,_,hl⟩=>hl)))
    refine aX.ite h10 rfl (fun _ h10=>?_) (fun _ h10=>?_)
    ·refine aX.aa (.inr ⟨_,rfl⟩) (Oc (gK oT rfl rfl rfl) (Oc (an dC rfl rfl) (Oc (aE aK rfl rfl rfl) (Oc om (Oc (dD eJ rfl rfl) (Oc (cA (k:=110) (es:=[(⟨x_2.id,x_9⟩:A2)].map (dW .i64)) hX rfl rfl (cN fun _=>rfl) rfl (by decide) (by decide) rfl) ?_))))))
     refine af.forget 102 0 rfl ?_
     obtain ⟨x_10,e12,h10⟩:=aM h10
     refine Oc (fS hX (pz e12) (py e12) rfl rfl rfl rfl (lF e12) rfl) (Oc (mI oT rfl rfl rfl rfl (Nat.le_of_ble_eq_true rfl) rfl) ?_)
     refine af.nil (Fin.az ?_)
     exact Fin.join [1,3,4,15,16,17] [101,102,106,108,109] x_10 (Option.some.inj h10) rfl
    ·refine aX.skip (Fin.az ?_)
     exact Fin.join [1,3,4,15,16,17] [101,102,106,108,109] outf0_5 (Option.some.inj h10) rfl
   ·rintro outf0_8 hv
    subst v9
    refine aX.aa (.inr ⟨_,rfl⟩) (Oc (bK rfl rfl) (Oc om ?_))
    refine af.nil ?_
    exact Fin.cu [1,3,4,15,16,17] [101,102,106,108,109] (outf0_8,IntKind.i64.wrap (x_6 + 1)) (Option.some.inj h7) rfl
  ·refine aX.exit (Fin.aC ?_)
   obtain rfl:=hy8 _ (Option.some.inj h7).symm
   refine Fin.aC (Fin.aY (Fin.az ?_))
   obtain rfl:=Option.some.inj h2
   exact Fin.ag ⟨[],[(101,_),(102,_),(106,_)]⟩ rfl (fun a w hr=>⟨_,rfl,hr⟩)
 ·rintro E D outf0_3 h13
  refine ab.seq (ab.aa ?_)
  refine Oc (gK oT rfl rfl rfl) (Oc oa ?_)
  refine af.ai ⟨[(2,.b (.row 106))],[(106,.row 40 2 (outf0_3.map (dW .i64)))]⟩ rfl (ab.ret ?_)
  obtain rfl:=Option.some.inj h13
  refine Fin.ag ⟨[(2,.b (.row 106))],[(106,.row 40 2 (outf0_3.map (dW .i64)))]⟩ rfl (Fin.rename 106 51 rfl (by decide) rfl (Fin.ag ⟨[(2,.b (.row 51))],[(51,.row 40 2 (outf0_3.map (dW .i64)))]⟩ rfl ?_))
  exact Fin.result [.row 51] (.inl rfl) rfl (.cons (.tmp rfl) .nil) ⟨rfl,rfl⟩
 ·rintro E D ⟨⟩ h13
  cases h13
def bS (F:Nat):Option Bool :=
 (bU F 0 0 0 4 4 4).bind fun x_1=>(bU F 4 4 4 6 6 6).bind fun x_2=>(bU F 5 0 0 9 9 3).bind fun x_3=>(b9 F x_1 x_2).bind fun x_4=>(bF x_4 (b9 F x_1 x_3)).bind fun x_5=>(bF (x_4 && (!x_5)) (b9 F x_2 x_3)).bind fun x_6=>(bF ((x_4 && (!x_5)) && (!x_6)) (ee F x_1 x_3)).bind fun x_7=>(bF ((x_4 && (!x_5)) && (!x_6)) (bU F 0 0 0 9 9 4)).bind fun x_8=>Option.bind (dv F x_1 1) (eW fun x_9 x_10=>Option.bind (dv F x_3 1) (eW fun x_11 x_12=>Option.bind (ew F [x_1,x_2,x_3]) (eW fun x_13 x_14=>Option.bind (ew F [x_1,x_11,x_2]) (eW fun x_15 x_16=>er (((decide (x_10 = 0)) && (decide (x_12 = 0))) && (decide (x_14 = 0))) fun x_17=>(bT F x_13 [(⟨0,1⟩:A2)]).bind fun x_18=>(bF x_18 (bT F x_15 [(⟨0,1⟩:A2),(⟨0,2⟩:A2),(⟨1,2⟩:A2)])).bind fun x_19=>(jO F).bind fun x_20=>Option.bind (ca F x_20 7 x_1) (eW fun x_21 x_22=>Option.bind (ca F x_21 3 x_2) (eW fun x_23 x_24=>Option.bind (dh F x_23 x_1) (eW fun x_25 x_26=>Option.bind (dh F x_23 x_3) (eW fun x_27 x_28=>Option.bind (ef F x_23 3 x_3) (un4 fun x_29 x_30 x_31 x_32=>Option.bind (ca F x_29 3 x_1) (eW fun x_33 x_34=>Option.bind (cc F x_29 5) (eW fun x_35 x_36=>er (((decide (x_22 = 0)) && (decide (x_24 = 0))) && (decide (x_26 = 0))) fun x_37=>(bF ((x_37 && (decide (x_28 = 0))) && (decide (x_32 = 0))) (c3 F x_25 [3,7])).bind fun x_38=>er (((x_37 && (decide (x_28 = 0))) && (decide (x_32 = 0))) && x_38) fun x_39=>er ((x_39 && (decide ((x_27.length:Int) = 0))) && (decide ((x_30.length:Int) = 0))) fun x_40=>(bF x_40 (c3 F x_31 [7])).bind fun x_41=>(bF ((((x_4 && (!x_5)) && (!x_6)) && (decide (x_7 = x_8))) && (x_17 && (decide (x_16 = 0)))) (bU F (-1) (-1) (-1) 5 5 5)).bind fun x_42=>(bF (((((((x_4 && (!x_5)) && (!x_6)) && (decide (x_7 = x_8))) && (x_17 && (decide (x_16 = 0)))) && (decide (x_9 = x_42))) && (x_18 && x_19)) && (x_40 && x_41)) (dB F x_29)).bind fun x_43=>(bF ((((((((x_4 && (!x_5)) && (!x_6)) && (decide (x_7 = x_8))) && (x_17 && (decide (x_16 = 0)))) && (decide (x_9 = x_42))) && (x_18 && x_19)) && (x_40 && x_41)) && (decide ((x_43.length:Int) = 0))) (dB F x_23)).bind fun x_44=>(bF ((((((((x_4 && (!x_5)) && (!x_6)) && (decide (x_7 = x_8))) && (x_17 && (decide (x_16 = 0)))) && (decide (x_9 = x_42))) && (x_18 && x_19)) && (x_40 && x_41)) && (decide ((x_43.length:Int) = 0))) (bT F x_44 [(⟨3,7⟩:A2)])).bind fun x_45=>some (((((((((((x_4 && (!x_5)) && (!x_6)) && (decide (x_7 = x_8))) && (x_17 && (decide (x_16 = 0)))) && (decide (x_9 = x_42))) && (x_18 && x_19)) && (x_40 && x_41)) && (decide ((x_43.length:Int) = 0))) && x_45) && (decide (x_34 = 6))) && (decide (x_36 = 5))))))))))))))
theorem eh {F:Nat} {r:Bool} (h:bS F = some r):aq Tryz.prog [] 15 [] [] (Is [] (.b (.one (.bool r)))):=by
 unfold bS at h
 refine aq.intro 225 Tryz.func15 Tryz.ntmps15 rfl (by simp) fun E=>?_
 show ab _ E ⟨225,[],[],[]⟩ _ ⟨[],[]⟩ _
 refine ab.seq (ab.aa ?_)
 refine Oc oa (af.ai ⟨[],[]⟩ rfl (ab.seq (ab.aa ?_)))
 obtain ⟨x_1,e1,h⟩:=aM h
 refine Oc (aj (cm e1) ni rfl rfl) (Oc (aW (k:=101) cQ rfl) (Oc (aD ao rfl rfl rfl rfl (Nat.le_of_ble_eq_true rfl) rfl) ?_))
 refine af.ai ⟨[(1,Pt 101 0)],[(101,.box 25 (ak x_1))]⟩ rfl (ab.seq (ab.aa ?_))
 obtain ⟨x_2,e2,h⟩:=aM h
 refine Oc (aj (cm e2) ni rfl rfl) (Oc (aW (k:=102) cQ rfl) (Oc (aD ao rfl rfl rfl rfl (Nat.le_of_ble_eq_true rfl) rfl) ?_))
 refine af.ai ⟨[(1,_),(2,Pt 102 0)],[(101,_),(102,.box 25 (ak x_2))]⟩ rfl (ab.seq (ab.aa ?_))
 obtain ⟨x_3,e3,h⟩:=aM h
 refine Oc (aj (cm e3) ni rfl rfl) (Oc (aW (k:=103) cQ rfl) (Oc (aD ao rfl rfl rfl rfl (Nat.le_of_ble_eq_true rfl) rfl) ?_))
 refine af.ai ⟨[(1,_),(2,_),(3,Pt 103 0)],[(101,_),(102,_),(103,.box 25 (ak x_3))]⟩ rfl (ab.seq (ab.aa ?_))
 refine Oc (lp ao) (Oc (lp ao) ?_)
 obtain ⟨x_4,e4,h⟩:=aM h
 refine Oc (aj (cH e4) kV rfl rfl) (Oc om ?_)
 refine fo x_4 [] (fun g5=>trivial) (fun g5=>lp ao) (af.ag ⟨[(1,_),(2,_),(3,_),(37,B x_4),(38,.opt x_4 (.agg (ak x_1)))],[(101,_),(102,_),(103,_)]⟩ rfl (fo x_4 [] (fun g6=>by exact trivial) (fun g6=>lp ao) ?_))
 obtain ⟨x_5,e8,h⟩:=aM h
 refine fo x_4 [38,39] (fun g7=>⟨g7,g7,trivial⟩) (fun g7=>aj (cH (gc e8 g7)) kV rfl rfl) (fo x_4 [40] (fun g9=>⟨g9,trivial⟩) (fun g9=>dp rfl) (Oc (aH (fun e=>e) rfl rfl rfl rfl) (Oc om ?_)))
 refine fo (x_4 && (!x_5)) [] (fun g10=>trivial) (fun g10=>lp ao) (af.ag ⟨[(1,_),(2,_),(3,_),(43,B (x_4 && (!x_5))),(44,.opt (x_4 && (!x_5)) (.agg (ak x_2)))],[(101,_),(102,_),(103,_)]⟩ rfl (fo (x_4 && (!x_5)) [] (fun g11=>by exact trivial) (fun g11=>lp ao) ?_))
 obtain ⟨x_6,e13,h⟩:=aM h
 refine fo (x_4 && (!x_5)) [44,45] (fun g12=>⟨g12,g12,trivial⟩) (fun g12=>aj (cH (gc e13 g12)) kV rfl rfl) (fo (x_4 && (!x_5)) [46] (fun g14=>⟨g14,trivial⟩) (fun g14=>dp rfl) (Oc (aH (fun e=>e) rfl rfl rfl rfl) (Oc om ?_)))
 refine fo ((x_4 && (!x_5)) && (!x_6)) [] (fun g15=>trivial) (fun g15=>lp ao) (af.ag ⟨[(1,_),(2,_),(3,_),(49,B ((x_4 && (!x_5)) && (!x_6))),(50,.opt ((x_4 && (!x_5)) && (!x_6)) (.agg (ak x_1)))],[(101,_),(102,_),(103,_)]⟩ rfl (fo ((x_4 && (!x_5)) && (!x_6)) [] (fun g16=>by exact trivial) (fun g16=>lp ao) ?_))
 obtain ⟨x_7,e18,h⟩:=aM h
 refine fo ((x_4 && (!x_5)) && (!x_6)) [50,51] (fun g17=>⟨g17,g17,trivial⟩) (fun g17=>aj (fZ (gc e18 g17)) qE rfl rfl) ?_
 obtain ⟨x_8,e20,h⟩:=aM h
 refine fo ((x_4 && (!x_5)) && (!x_6)) [] (fun g19=>trivial) (fun g19=>aj (cm (gc e20 g19)) ni rfl rfl) (fo ((x_4 && (!x_5)) && (!x_6)) [52,53] (fun g21=>⟨g21,g21,trivial⟩) (fun g21=>k5 (mX x_7 x_8) rfl rfl) (Oc (aH (fun e=>e) rfl rfl rfl rfl) (Oc oa ?_)))
 refine af.ai ⟨[(1,_),(2,_),(3,_),(4,B (((x_4 && (!x_5)) && (!x_6)) && (decide (x_7 = x_8))))],[(101,_),(102,_),(103,_)]⟩ rfl (ab.seq (ab.aa ?_))
 refine Oc (lp ao) ?_
 obtain ⟨⟨x_9,x_10⟩,e22,h⟩:=aM h
 refine Oc (aj (ga e22) qF rfl rfl) (Oc om (Oc (ay rfl rfl) (Oc (ay rfl rfl) ?_)))
 refine af.ag ⟨[(1,_),(2,_),(3,_),(4,_),(59,.b (.agg (ak x_9))),(60,I x_10)],[(101,_),(102,_),(103,_)]⟩ rfl (Oc (aW (k:=104) cQ rfl) (Oc (aD ao rfl rfl rfl rfl (Nat.le_of_ble_eq_true rfl) rfl) (Oc oa ?_)))
 refine af.ai ⟨[(1,_),(2,_),(3,_),(4,_),(5,Pt 104 0),(6,I x_10)],[(101,_),(102,_),(103,_),(104,.box 25 (ak x_9))]⟩ rfl (ab.seq (ab.aa ?_))
 refine Oc (lp ao) ?_
 obtain ⟨⟨x_11,x_12⟩,e23,h⟩:=aM h
 refine Oc (aj (ga e23) qF rfl rfl) (Oc om (Oc (ay rfl rfl) (Oc (ay rfl rfl) ?_)))
 refine af.ag ⟨[(1,_),(2,_),(3,_),(4,_),(5,_),(6,_),(64,.b (.agg (ak x_11))),(65,I x_12)],[(101,_),(102,_),(103,_),(104,_)]⟩ rfl (Oc (aW (k:=105) cQ rfl) (Oc (aD ao rfl rfl rfl rfl (Nat.le_of_ble_eq_true rfl) rfl) (Oc oa ?_)))
 refine af.ai ⟨[(1,_),(2,_),(3,_),(4,_),(5,_),(6,_),(7,Pt 105 0),(8,I x_12)],[(101,_),(102,_),(103,_),(104,_),(105,.box 25 (ak x_11))]⟩ rfl (ab.seq (ab.aa ?_))
 refine Oc (lp ao) (Oc (lp ao) (Oc (lp ao) (Oc (cA (k:=106) (es:=[x_1,x_2,x_3].map ak) kR rfl rfl (cN fun _=>rfl) rfl (by decide) (by decide) rfl) ?_)))
 refine af.c8 106 rfl (af.ag ⟨[(1,Pt 101 0),(2,Pt 102 0),(3,Pt 103 0),(4,B (((x_4 && (!x_5)) && (!x_6)) && (decide (x_7 = x_8)))),(5,Pt 104 0),(6,I x_10),(7,Pt 105 0),(8,I x_12),(70,.b (.one (.sl 6 ([x_1,x_2,x_3].map ak))))],[(101,.box 25 (ak x_1)),(102,.box 25 (ak x_2)),(103,.box 25 (ak x_3)),(104,.box 25 (ak x_9)),(105,.box 25 (ak x_11))]⟩ rfl ?_)
 obtain ⟨⟨x_13,x_14⟩,e24,h⟩:=aM h
 refine Oc (c9 (iE 107 e24) s6 rfl trivial rfl rfl) (Oc om (Oc (ay rfl rfl) (Oc (ay rfl rfl) (Oc oa (Oc oa ?_)))))
 refine af.ai ⟨[(1,_),(2,_),(3,_),(4,_),(5,_),(6,_),(7,_),(8,_),(9,.b (.row 107)),(10,I x_14)],[(101,_),(102,_),(103,_),(104,_),(105,_),(107,.row 40 2 (x_13.map (dW .i64)))]⟩ rfl (ab.seq (ab.aa ?_))
 refine Oc (lp ao) (Oc (lp ao) (Oc (lp ao) (Oc (cA (k:=108) (es:=[x_1,x_11,x_2].map ak) kR rfl rfl (cN fun _=>rfl) rfl (by decide) (by decide) rfl) ?_)))
 refine af.c8 108 rfl (af.ag ⟨[(1,Pt 101 0),(2,Pt 102 0),(3,Pt 103 0),(4,B (((x_4 && (!x_5)) && (!x_6)) && (decide (x_7 = x_8)))),(5,Pt 104 0),(6,I x_10),(8,I x_12),(9,.b (.row 107)),(10,I x_14),(78,.b (.one (.sl 6 ([x_1,x_11,x_2].map ak))))],[(101,.box 25 (ak x_1)),(102,.box 25 (ak x_2)),(103,.box 25 (ak x_3)),(104,.box 25 (ak x_9)),(107,.row 40 2 (x_13.map (dW .i64)))]⟩ rfl ?_)
 obtain ⟨⟨x_15,x_16⟩,e25,h⟩:=aM h
 refine Oc (c9 (iE 109 e25) s6 rfl trivial rfl rfl) (Oc om (Oc (ay rfl rfl) (Oc (ay rfl rfl) (Oc oa (Oc oa ?_)))))
 refine af.ai ⟨[(1,_),(2,_),(3,_),(4,_),(5,_),(6,_),(8,_),(9,_),(10,_),(11,.b (.row 109)),(12,I x_16)],[(101,_),(102,_),(103,_),(104,_),(107,_),(109,.row 40 2 (x_15.map (dW .i64)))]⟩ rfl (ab.seq (ab.aa ?_))
 refine Oc om (Oc (dG rfl rfl) (Oc om ?_))
 refine fo (decide (x_10 = 0)) [] (fun g26=>trivial) (fun g26=>om) (fo (decide (x_10 = 0)) [85] (fun g27=>by exact ⟨g27,trivial⟩) (fun g27=>dG rfl rfl) (Oc (aH (fun e=>e) rfl rfl rfl rfl) (Oc om ?_)))
 refine af.ag ⟨[(1,_),(2,_),(3,_),(4,_),(5,_),(9,_),(10,_),(11,_),(12,_),(88,B ((decide (x_10 = 0)) && (decide (x_12 = 0))))],[(101,_),(102,_),(103,_),(104,_),(107,_),(109,_)]⟩ rfl (fo ((decide (x_10 = 0)) && (decide (x_12 = 0))) [] (fun g28=>trivial) (fun g28=>om) (fo ((decide (x_10 = 0)) && (decide (x_12 = 0))) [89] (fun g29=>by exact ⟨g29,trivial⟩) (fun g29=>dG rfl rfl) (af.mz h rfl (aH (fun e=>e) rfl rfl rfl rfl) (fun x_17 h=>?_))))
 refine Oc om (fo x_17 [] (fun g30=>by exact trivial) (fun g30=>om) (fo x_17 [93] (fun g31=>by exact ⟨g31,trivial⟩) (fun g31=>dG rfl rfl) (Oc (aH (fun e=>e) rfl rfl rfl rfl) (Oc oa ?_))))
 refine af.ai ⟨[(1,_),(2,_),(3,_),(4,_),(5,_),(9,_),(11,_),(13,B (x_17 && (decide (x_16 = 0))))],[(101,_),(102,_),(103,_),(104,_),(107,_),(109,_)]⟩ rfl (ab.seq (ab.aa ?_))
 refine Oc om (Oc (dD eJ rfl rfl) (Oc (cA (k:=110) (es:=[(⟨0,1⟩:A2)].map (dW .i64)) hX rfl rfl (cN fun _=>rfl) rfl (by decide) (by decide) rfl) ?_))
 obtain ⟨x_18,e32,h⟩:=aM h
 refine Oc (jE (cI e32) qD rfl CP.mg) (af.ag ⟨[(1,_),(2,_),(3,_),(4,_),(5,_),(11,_),(13,_),(99,B x_18)],[(101,_),(102,_),(103,_),(104,_),(109,_)]⟩ rfl (Oc om (fo x_18 [] (fun g33=>by exact trivial) (fun g33=>om) (fo x_18 [] (fun g34=>by exact trivial) (fun g34=>dD eJ rfl rfl) (fo x_18 [] (fun g35=>by exact trivial) (fun g35=>dD eJ rfl rfl) ?_)))))
 refine fo x_18 [] (fun g36=>trivial) (fun g36=>dD eJ rfl rfl) (fo x_18 [102,103,104] (fun g37=>⟨g37,g37,g37,trivial⟩) (fun g37=>df (es:=[(⟨0,1⟩:A2),(⟨0,2⟩:A2),(⟨1,2⟩:A2)].map (dW .i64)) hX rfl rfl (cN fun _=>rfl) rfl (by decide) (by decide)) (af.ag ⟨[(1,_),(2,_),(3,_),(4,_),(5,_),(13,_),(100,B x_18),(101,.opt x_18 (.row 109)),(105,.opt x_18 (.one (.sl 2 ([(⟨0,1⟩:A2),(⟨0,2⟩:A2),(⟨1,2⟩:A2)].map (dW .i64)))))],[(101,_),(102,_),(103,_),(104,_),(109,_)]⟩ rfl ?_))
 obtain ⟨x_19,e39,h⟩:=aM h
 refine fo x_18 [101,105] (fun g38=>⟨g38,g38,trivial⟩) (fun g38=>jE (cI (gc e39 g38)) qD rfl CP.mg) (Oc (aH (fun e=>e) rfl rfl rfl rfl) (Oc oa ?_))
 refine af.ai ⟨[(1,_),(2,_),(3,_),(4,_),(5,_),(13,_),(14,B (x_18 && x_19))],[(101,_),(102,_),(103,_),(104,_)]⟩ rfl (ab.seq ?_)
 obtain ⟨x_20,e40,h⟩:=aM h
 obtain ⟨⟨x_21,x_22⟩,e41,h⟩:=aM h
 refine ab.lB mixed [false,false,false,false,false,false,true,true,false] [.b (.agg (aJ x_20)),.b (.agg (ak x_1)),.ek [.agg (aJ x_21),.one (.i x_22)],.ek [.agg (aJ x_21),.one (.i x_22)],.b (.agg (aJ x_21)),I x_22,Pt 112 0,B true,I x_22] [⟨[false,false,false,false,false,false,false,false,false],[(1,Pt 101 0),(2,Pt 102 0),(3,Pt 103 0),(4,B (((x_4 && (!x_5)) && (!x_6)) && (decide (x_7 = x_8)))),(5,Pt 104 0),(13,B (x_17 && (decide (x_16 = 0)))),(14,B (x_18 && x_19))],[(101,.box 25 (ak x_1)),(102,.box 25 (ak x_2)),(103,.box 25 (ak x_3)),(104,.box 25 (ak x_9))],[true,true,true,true,true,true,true,true,true],[],[7,8]⟩,⟨[false,false,false,false,false,false,true,false,false],[(1,Pt 101 0),(2,Pt 102 0),(3,Pt 103 0),(4,B (((x_4 && (!x_5)) && (!x_6)) && (decide (x_7 = x_8)))),(5,Pt 104 0),(13,B (x_17 && (decide (x_16 = 0)))),(14,B (x_18 && x_19))],[(101,.box 25 (ak x_1)),(102,.box 25 (ak x_2)),(103,.box 25 (ak x_3)),(104,.box 25 (ak x_9)),(112,.box 49 [.tr ae (.leaf),.cV 0,.cV 0,.cV 0,.tr ae (.leaf),.cV 0,.cV 0,.cV 0])],[true,true,true,true,true,true,true,true,true],[6],[8]⟩,⟨[false,false,false,false,false,false,true,true,false],[(1,Pt 101 0),(2,Pt 102 0),(3,Pt 103 0),(4,B (((x_4 && (!x_5)) && (!x_6)) && (decide (x_7 = x_8)))),(5,Pt 104 0),(13,B (x_17 && (decide (x_16 = 0)))),(14,B (x_18 && x_19))],[(101,.box 25 (ak x_1)),(102,.box 25 (ak x_2)),(103,.box 25 (ak x_3)),(104,.box 25 (ak x_9)),(112,.box 49 (aJ x_21))],[true,true,true,true,true,true,true,true,true],[0,1,2,3,4,6,7],[]⟩] rfl (⟨by kernel_rfl,⟨⟨.b (.agg (aJ x_20)),fun _=>rfl,fun _=>.p (by exact aj (jS e40) s5 rfl rfl)⟩,⟨.b (.agg (ak x_1)),fun _=>rfl,fun _=>.p (by exact cF ao rfl rfl rfl rfl)⟩,⟨.ek [.agg (aJ x_21),.one (.i x_22)],fun _=>rfl,fun _=>.p (by exact aj (cT e41) nj rfl rfl)⟩,⟨.ek [.agg (aJ x_21),.one (.i x_22)],fun _=>rfl,fun _=>.p (by exact aV rfl)⟩,⟨.b (.agg (aJ x_21)),fun _=>rfl,fun _=>.p (by exact ay rfl rfl)⟩,⟨I x_22,fun _=>rfl,fun _=>.p (by exact ay rfl rfl)⟩,⟨_,[112],Pt 112 0,rfl,fun _=>rfl,rfl,rfl,fun _=>.sm [101,102,103,104,112] (by exact .p (by exact aW (k:=112) fh rfl)) (by exact rfl)⟩,trivial,trivial,trivial⟩,⟨by kernel_rfl,⟨⟨.b (.agg (aJ x_20)),fun _=>rfl,fun _=>.p (by exact aj (jS e40) s5 rfl rfl)⟩,⟨.b (.agg (ak x_1)),fun _=>rfl,fun _=>.p (by exact cF ao rfl rfl rfl rfl)⟩,⟨.ek [.agg (aJ x_21),.one (.i x_22)],fun _=>rfl,fun _=>.p (by exact aj (cT e41) nj rfl rfl)⟩,⟨.ek [.agg (aJ x_21),.one (.i x_22)],fun _=>rfl,fun _=>.p (by exact aV rfl)⟩,⟨.b (.agg (aJ x_21)),fun _=>rfl,fun _=>.p (by exact ay rfl rfl)⟩,⟨I x_22,fun _=>rfl,fun _=>.p (by exact ay rfl rfl)⟩,trivial,⟨_,[],.b (.one .any),rfl,(fun e=>by simp at e),rfl,rfl,fun _=>.sm [101,102,103,104,112] (by exact .p (by exact aD aU rfl rfl rfl rfl (Nat.le_of_ble_eq_true rfl) rfl)) (by exact rfl)⟩,trivial,trivial⟩,⟨by kernel_rfl,⟨trivial,trivial,trivial,trivial,trivial,⟨I x_22,fun _=>rfl,fun _=>.p (by exact ay rfl rfl)⟩,trivial,trivial,⟨I x_22,fun _=>rfl,fun _=>.p (by exact b4 rfl)⟩,trivial⟩,trivial⟩⟩⟩) rfl rfl rfl [1,2,3,4,5,13,14,15,16] [101,102,103,104,112] (s':=⟨[(1,_),(2,_),(3,_),(4,_),(5,_),(13,_),(14,_),(15,Pt 112 0),(16,I x_22)],[(101,_),(102,_),(103,_),(104,_),(112,.box 49 (aJ x_21))]⟩) rfl ?_
 refine ab.seq (ab.aa ?_)
 refine Oc (lp aU) (Oc (lp ao) ?_)
 obtain ⟨⟨x_23,x_24⟩,e42,h⟩:=aM h
 refine Oc (aj (cT e42) nj rfl rfl) (Oc om (Oc (ay rfl rfl) ?_))
 refine af.ag ⟨[(1,_),(3,_),(4,_),(5,_),(13,_),(14,_),(15,_),(16,_),(114,.ek [.agg (aJ x_23),.one (.i x_24)]),(118,.b (.agg (aJ x_23)))],[(101,_),(103,_),(104,_),(112,_)]⟩ rfl (Oc (ay rfl rfl) (Oc (aD aU rfl rfl rfl rfl (Nat.le_of_ble_eq_true rfl) rfl) (Oc oa ?_)))
 refine af.ai ⟨[(1,_),(3,_),(4,_),(5,_),(13,_),(14,_),(15,_),(16,_),(17,I x_24)],[(101,_),(103,_),(104,_),(112,.box 49 (aJ x_23))]⟩ rfl (ab.seq (ab.aa ?_))
 refine Oc (lp aU) (Oc (lp ao) ?_)
 obtain ⟨⟨x_25,x_26⟩,e43,h⟩:=aM h
 refine Oc (c9 (gi 113 e43) sX rfl trivial rfl rfl) (Oc om (Oc (ay rfl rfl) ?_))
 refine af.ag ⟨[(1,_),(3,_),(4,_),(5,_),(13,_),(14,_),(15,_),(16,_),(17,_),(120,.ek [.row 113,.one (.i x_26)]),(124,.b (.row 113))],[(101,_),(103,_),(104,_),(112,_),(113,.row 3 1 (x_25.map eI))]⟩ rfl (Oc (ay rfl rfl) (Oc oa (Oc oa ?_)))
 refine af.ai ⟨[(1,_),(3,_),(4,_),(5,_),(13,_),(14,_),(15,_),(16,_),(17,_),(18,.b (.row 113)),(19,I x_26)],[(101,_),(103,_),(104,_),(112,_),(113,_)]⟩ rfl (ab.seq (ab.aa ?_))
 refine Oc (lp aU) (Oc (lp ao) ?_)
 obtain ⟨⟨x_27,x_28⟩,e44,h⟩:=aM h
 refine Oc (c9 (gi 114 e44) sX rfl trivial rfl rfl) (Oc om (Oc (ay rfl rfl) ?_))
 refine af.ag ⟨[(1,_),(3,_),(4,_),(5,_),(13,_),(14,_),(15,_),(16,_),(17,_),(18,_),(19,_),(126,.ek [.row 114,.one (.i x_28)]),(130,.b (.row 114))],[(101,_),(103,_),(104,_),(112,_),(113,_),(114,.row 3 1 (x_27.map eI))]⟩ rfl (Oc (ay rfl rfl) (Oc oa (Oc oa ?_)))
 refine af.ai ⟨[(1,_),(3,_),(4,_),(5,_),(13,_),(14,_),(15,_),(16,_),(17,_),(18,_),(19,_),(20,.b (.row 114)),(21,I x_28)],[(101,_),(103,_),(104,_),(112,_),(113,_),(114,_)]⟩ rfl (ab.seq (ab.aa ?_))
 refine Oc (lp aU) (Oc (lp ao) ?_)
 obtain ⟨⟨x_29,x_30,x_31,x_32⟩,e45,h⟩:=aM h
 refine Oc (aj (kq e45) goes25 rfl rfl) (Oc om (Oc (ay rfl rfl) ?_))
 refine af.ag ⟨[(1,_),(4,_),(5,_),(13,_),(14,_),(15,_),(16,_),(17,_),(18,_),(19,_),(20,_),(21,_),(132,.ek [.agg (aJ x_29),.one (.sl 1 (x_30.map eI)),.one (.sl 1 (x_31.map eI)),.one (.i x_32)]),(136,.b (.agg (aJ x_29)))],[(101,_),(104,_),(112,_),(113,_),(114,_)]⟩ rfl (Oc (ay rfl rfl) (Oc (ay rfl rfl) (Oc (ay rfl rfl) (Oc (aW (k:=115) fh rfl) (Oc (aD aU rfl rfl rfl rfl (Nat.le_of_ble_eq_true rfl) rfl) (Oc oa ?_))))))
 refine Oc oa (Oc oa ?_)
 refine af.ai ⟨[(1,_),(4,_),(5,_),(13,_),(14,_),(15,_),(16,_),(17,_),(18,_),(19,_),(20,_),(21,_),(22,Pt 115 0),(23,.b (.one (.sl 1 (x_30.map eI)))),(24,.b (.one (.sl 1 (x_31.map eI)))),(25,I x_32)],[(101,_),(104,_),(112,_),(113,_),(114,_),(115,.box 49 (aJ x_29))]⟩ rfl (ab.seq (ab.aa ?_))
 refine Oc (lp aU) (Oc (lp ao) ?_)
 obtain ⟨⟨x_33,x_34⟩,e46,h⟩:=aM h
 refine Oc (aj (cT e46) nj rfl rfl) (Oc om (Oc (ay rfl rfl) ?_))
 refine af.ag ⟨[(4,_),(5,_),(13,_),(14,_),(15,_),(16,_),(17,_),(18,_),(19,_),(20,_),(21,_),(22,_),(23,_),(24,_),(25,_),(140,.ek [.agg (aJ x_33),.one (.i x_34)]),(144,.b (.agg (aJ x_33)))],[(104,_),(112,_),(113,_),(114,_),(115,_)]⟩ rfl (Oc (ay rfl rfl) (Oc (aW (k:=116) fh rfl) (Oc (aD aU rfl rfl rfl rfl (Nat.le_of_ble_eq_true rfl) rfl) (Oc oa ?_))))
 refine af.ai ⟨[(4,_),(5,_),(13,_),(14,_),(15,_),(16,_),(17,_),(18,_),(19,_),(20,_),(21,_),(22,_),(23,_),(24,_),(25,_),(27,I x_34)],[(104,_),(112,_),(113,_),(114,_),(115,_)]⟩ rfl (ab.seq (ab.aa ?_))
 refine Oc (lp aU) ?_
 obtain ⟨⟨x_35,x_36⟩,e47,h⟩:=aM h
 refine Oc (aj (fp e47) sY rfl rfl) (Oc om (Oc (ay rfl rfl) (Oc (ay rfl rfl) ?_)))
 refine af.ag ⟨[(4,_),(5,_),(13,_),(14,_),(15,_),(16,_),(17,_),(18,_),(19,_),(20,_),(21,_),(22,_),(23,_),(24,_),(25,_),(27,_),(149,.b (.agg (aJ x_35))),(150,I x_36)],[(104,_),(112,_),(113,_),(114,_),(115,_)]⟩ rfl (Oc (aW (k:=117) fh rfl) (Oc (aD aU rfl rfl rfl rfl (Nat.le_of_ble_eq_true rfl) rfl) (Oc oa ?_)))
 refine af.ai ⟨[(4,_),(5,_),(13,_),(14,_),(15,_),(16,_),(17,_),(18,_),(19,_),(20,_),(21,_),(22,_),(23,_),(24,_),(25,_),(27,_),(29,I x_36)],[(104,_),(112,_),(113,_),(114,_),(115,_)]⟩ rfl (ab.seq (ab.aa ?_))
 refine Oc om (Oc (dG rfl rfl) (Oc om ?_))
 refine fo (decide (x_22 = 0)) [] (fun g48=>trivial) (fun g48=>om) (fo (decide (x_22 = 0)) [154] (fun g49=>by exact ⟨g49,trivial⟩) (fun g49=>dG rfl rfl) (Oc (aH (fun e=>e) rfl rfl rfl rfl) (Oc om ?_)))
 refine af.ag ⟨[(4,_),(5,_),(13,_),(14,_),(15,_),(18,_),(19,_),(20,_),(21,_),(22,_),(23,_),(24,_),(25,_),(27,_),(29,_),(157,B ((decide (x_22 = 0)) && (decide (x_24 = 0))))],[(104,_),(112,_),(113,_),(114,_),(115,_)]⟩ rfl (fo ((decide (x_22 = 0)) && (decide (x_24 = 0))) [] (fun g50=>trivial) (fun g50=>om) (fo ((decide (x_22 = 0)) && (decide (x_24 = 0))) [158] (fun g51=>by exact ⟨g51,trivial⟩) (fun g51=>dG rfl rfl) (af.mz h rfl (aH (fun e=>e) rfl rfl rfl rfl) (fun x_37 h=>?_))))
 refine Oc om (fo x_37 [] (fun g52=>by exact trivial) (fun g52=>om) (fo x_37 [162] (fun g53=>by exact ⟨g53,trivial⟩) (fun g53=>dG rfl rfl) (Oc (aH (fun e=>e) rfl rfl rfl rfl) (Oc om ?_))))
 refine af.ag ⟨[(4,_),(5,_),(13,_),(14,_),(15,_),(18,_),(20,_),(22,_),(23,_),(24,_),(25,_),(27,_),(29,_),(165,B (x_37 && (decide (x_28 = 0))))],[(104,_),(112,_),(113,_),(114,_),(115,_)]⟩ rfl (fo (x_37 && (decide (x_28 = 0))) [] (fun g54=>trivial) (fun g54=>om) (fo (x_37 && (decide (x_28 = 0))) [166] (fun g55=>by exact ⟨g55,trivial⟩) (fun g55=>dG rfl rfl) (Oc (aH (fun e=>e) rfl rfl rfl rfl) (Oc om ?_))))
 refine fo ((x_37 && (decide (x_28 = 0))) && (decide (x_32 = 0))) [] (fun g56=>trivial) (fun g56=>om) (fo ((x_37 && (decide (x_28 = 0))) && (decide (x_32 = 0))) [] (fun g57=>by exact trivial) (fun g57=>df (es:=[3,7].map eI) cp rfl rfl (cN fun _=>rfl) rfl (by decide) (by decide)) (af.ag ⟨[(4,_),(5,_),(13,_),(14,_),(15,_),(20,_),(22,_),(23,_),(24,_),(27,_),(29,_),(169,B ((x_37 && (decide (x_28 = 0))) && (decide (x_32 = 0)))),(170,.opt ((x_37 && (decide (x_28 = 0))) && (decide (x_32 = 0))) (.row 113)),(171,.opt ((x_37 && (decide (x_28 = 0))) && (decide (x_32 = 0))) (.one (.sl 1 ([3,7].map eI))))],[(104,_),(112,_),(113,_),(114,_),(115,_)]⟩ rfl ?_))
 obtain ⟨x_38,e59,h⟩:=aM h
 refine fo ((x_37 && (decide (x_28 = 0))) && (decide (x_32 = 0))) [170,171] (fun g58=>⟨g58,g58,trivial⟩) (fun g58=>jE (eU (gc e59 g58)) sW rfl CP.mg) (af.mz h rfl (aH (fun e=>e) rfl rfl rfl rfl) (fun x_39 h=>?_))
 refine Oc om (fo x_39 [] (fun g60=>by exact trivial) (fun g60=>om) (fo x_39 [175] (fun g61=>by exact ⟨g61,trivial⟩) (fun g61=>eK eZ rfl rfl (List.length_map _)) (fo x_39 [176] (fun g62=>by exact ⟨g62,trivial⟩) (fun g62=>dG rfl rfl) (Oc (aH (fun e=>e) rfl rfl rfl rfl) (af.ag ⟨[(4,_),(5,_),(13,_),(14,_),(15,_),(22,_),(23,_),(24,_),(27,_),(29,_),(178,B (x_39 && (decide ((x_27.length:Int) = 0))))],[(104,_),(112,_),(115,_)]⟩ rfl ?_)))))
 refine Oc om (fo (x_39 && (decide ((x_27.length:Int) = 0))) [] (fun g63=>by exact trivial) (fun g63=>om) (fo (x_39 && (decide ((x_27.length:Int) = 0))) [180] (fun g64=>by exact ⟨g64,trivial⟩) (fun g64=>bR eZ rfl (List.length_map _)) (fo (x_39 && (decide ((x_27.length:Int) = 0))) [181] (fun g65=>by exact ⟨g65,trivial⟩) (fun g65=>dG rfl rfl) (af.mz h rfl (aH (fun e=>e) rfl rfl rfl rfl) (fun x_40 h=>?_)))))
 refine Oc om (fo x_40 [] (fun g66=>by exact trivial) (fun g66=>om) (af.ag ⟨[(4,_),(5,_),(13,_),(14,_),(15,_),(22,_),(27,_),(29,_),(184,B x_40),(185,.opt x_40 (.one (.sl 1 (x_31.map eI))))],[(104,_),(112,_),(115,_)]⟩ rfl (fo x_40 [] (fun g67=>by exact trivial) (fun g67=>df (es:=[7].map eI) cp rfl rfl (cN fun _=>rfl) rfl (by decide) (by decide)) ?_)))
 obtain ⟨x_41,e69,h⟩:=aM h
 refine fo x_40 [185,186] (fun g68=>⟨g68,g68,trivial⟩) (fun g68=>aj (eU (gc e69 g68)) sW rfl rfl) (Oc (aH (fun e=>e) rfl rfl rfl rfl) (Oc oa ?_))
 refine af.ai ⟨[(4,_),(5,_),(13,_),(14,_),(15,_),(22,_),(27,_),(29,_),(30,B (x_40 && x_41))],[(104,_),(112,_),(115,_)]⟩ rfl (ab.seq ?_)
 obtain ⟨x_42,e70,h⟩:=aM h
 obtain ⟨x_43,e71,h⟩:=aM h
 obtain ⟨x_44,e72,h⟩:=aM h
 obtain ⟨x_45,e73,h⟩:=aM h
 refine ab.lB mixed [false,false,false,false,false,false,false,false,false,false,false,false,false,false,false,false,false,true,false,false,false,false,false,true,false,false,false,false,false,false,false,false,false,false,false,false,false] [B (((x_4 && (!x_5)) && (!x_6)) && (decide (x_7 = x_8))),B (((x_4 && (!x_5)) && (!x_6)) && (decide (x_7 = x_8))),.opt (((x_4 && (!x_5)) && (!x_6)) && (decide (x_7 = x_8))) (.one (.bool (x_17 && (decide (x_16 = 0))))),B ((((x_4 && (!x_5)) && (!x_6)) && (decide (x_7 = x_8))) && (x_17 && (decide (x_16 = 0)))),B ((((x_4 && (!x_5)) && (!x_6)) && (decide (x_7 = x_8))) && (x_17 && (decide (x_16 = 0)))),.opt ((((x_4 && (!x_5)) && (!x_6)) && (decide (x_7 = x_8))) && (x_17 && (decide (x_16 = 0)))) (.agg (ak x_9)),.opt ((((x_4 && (!x_5)) && (!x_6)) && (decide (x_7 = x_8))) && (x_17 && (decide (x_16 = 0)))) (.agg (ak x_42)),.opt ((((x_4 && (!x_5)) && (!x_6)) && (decide (x_7 = x_8))) && (x_17 && (decide (x_16 = 0)))) (.one (.bool (decide (x_9 = x_42)))),B (((((x_4 && (!x_5)) && (!x_6)) && (decide (x_7 = x_8))) && (x_17 && (decide (x_16 = 0)))) && (decide (x_9 = x_42))),B (((((x_4 && (!x_5)) && (!x_6)) && (decide (x_7 = x_8))) && (x_17 && (decide (x_16 = 0)))) && (decide (x_9 = x_42))),.opt (((((x_4 && (!x_5)) && (!x_6)) && (decide (x_7 = x_8))) && (x_17 && (decide (x_16 = 0)))) && (decide (x_9 = x_42))) (.one (.bool (x_18 && x_19))),B ((((((x_4 && (!x_5)) && (!x_6)) && (decide (x_7 = x_8))) && (x_17 && (decide (x_16 = 0)))) && (decide (x_9 = x_42))) && (x_18 && x_19)),B ((((((x_4 && (!x_5)) && (!x_6)) && (decide (x_7 = x_8))) && (x_17 && (decide (x_16 = 0)))) && (decide (x_9 = x_42))) && (x_18 && x_19)),.opt ((((((x_4 && (!x_5)) && (!x_6)) && (decide (x_7 = x_8))) && (x_17 && (decide (x_16 = 0)))) && (decide (x_9 = x_42))) && (x_18 && x_19)) (.one (.bool (x_40 && x_41))),B (((((((x_4 && (!x_5)) && (!x_6)) && (decide (x_7 = x_8))) && (x_17 && (decide (x_16 = 0)))) && (decide (x_9 = x_42))) && (x_18 && x_19)) && (x_40 && x_41)),B (((((((x_4 && (!x_5)) && (!x_6)) && (decide (x_7 = x_8))) && (x_17 && (decide (x_16 = 0)))) && (decide (x_9 = x_42))) && (x_18 && x_19)) && (x_40 && x_41)),.opt (((((((x_4 && (!x_5)) && (!x_6)) && (decide (x_7 = x_8))) && (x_17 && (decide (x_16 = 0)))) && (decide (x_9 = x_42))) && (x_18 && x_19)) && (x_40 && x_41)) (.agg (aJ x_29)),.opt (((((((x_4 && (!x_5)) && (!x_6)) && (decide (x_7 = x_8))) && (x_17 && (decide (x_16 = 0)))) && (decide (x_9 = x_42))) && (x_18 && x_19)) && (x_40 && x_41)) (.one (.sl 2 (x_43.map (dW .i64)))),.opt (((((((x_4 && (!x_5)) && (!x_6)) && (decide (x_7 = x_8))) && (x_17 && (decide (x_16 = 0)))) && (decide (x_9 = x_42))) && (x_18 && x_19)) && (x_40 && x_41)) (.one (.i (x_43.length:Int))),.opt (((((((x_4 && (!x_5)) && (!x_6)) && (decide (x_7 = x_8))) && (x_17 && (decide (x_16 = 0)))) && (decide (x_9 = x_42))) && (x_18 && x_19)) && (x_40 && x_41)) (.one (.bool (decide ((x_43.length:Int) = 0)))),B ((((((((x_4 && (!x_5)) && (!x_6)) && (decide (x_7 = x_8))) && (x_17 && (decide (x_16 = 0)))) && (decide (x_9 = x_42))) && (x_18 && x_19)) && (x_40 && x_41)) && (decide ((x_43.length:Int) = 0))),B ((((((((x_4 && (!x_5)) && (!x_6)) && (decide (x_7 = x_8))) && (x_17 && (decide (x_16 = 0)))) && (decide (x_9 = x_42))) && (x_18 && x_19)) && (x_40 && x_41)) && (decide ((x_43.length:Int) = 0))),.opt ((((((((x_4 && (!x_5)) && (!x_6)) && (decide (x_7 = x_8))) && (x_17 && (decide (x_16 = 0)))) && (decide (x_9 = x_42))) && (x_18 && x_19)) && (x_40 && x_41)) && (decide ((x_43.length:Int) = 0))) (.agg (aJ x_23)),.opt ((((((((x_4 && (!x_5)) && (!x_6)) && (decide (x_7 = x_8))) && (x_17 && (decide (x_16 = 0)))) && (decide (x_9 = x_42))) && (x_18 && x_19)) && (x_40 && x_41)) && (decide ((x_43.length:Int) = 0))) (.one (.sl 2 (x_44.map (dW .i64)))),.opt ((((((((x_4 && (!x_5)) && (!x_6)) && (decide (x_7 = x_8))) && (x_17 && (decide (x_16 = 0)))) && (decide (x_9 = x_42))) && (x_18 && x_19)) && (x_40 && x_41)) && (decide ((x_43.length:Int) = 0))) (.agg [.i 3,.i 7]),.opt ((((((((x_4 && (!x_5)) && (!x_6)) && (decide (x_7 = x_8))) && (x_17 && (decide (x_16 = 0)))) && (decide (x_9 = x_42))) && (x_18 && x_19)) && (x_40 && x_41)) && (decide ((x_43.length:Int) = 0))) (.one (.sl 2 ([(⟨3,7⟩:A2)].map (dW .i64)))),.opt ((((((((x_4 && (!x_5)) && (!x_6)) && (decide (x_7 = x_8))) && (x_17 && (decide (x_16 = 0)))) && (decide (x_9 = x_42))) && (x_18 && x_19)) && (x_40 && x_41)) && (decide ((x_43.length:Int) = 0))) (.one (.bool x_45)),B (((((((((x_4 && (!x_5)) && (!x_6)) && (decide (x_7 = x_8))) && (x_17 && (decide (x_16 = 0)))) && (decide (x_9 = x_42))) && (x_18 && x_19)) && (x_40 && x_41)) && (decide ((x_43.length:Int) = 0))) && x_45),B (((((((((x_4 && (!x_5)) && (!x_6)) && (decide (x_7 = x_8))) && (x_17 && (decide (x_16 = 0)))) && (decide (x_9 = x_42))) && (x_18 && x_19)) && (x_40 && x_41)) && (decide ((x_43.length:Int) = 0))) && x_45),.opt (((((((((x_4 && (!x_5)) && (!x_6)) && (decide (x_7 = x_8))) && (x_17 && (decide (x_16 = 0)))) && (decide (x_9 = x_42))) && (x_18 && x_19)) && (x_40 && x_41)) && (decide ((x_43.length:Int) = 0))) && x_45) (.one (.i x_34)),.opt (((((((((x_4 && (!x_5)) && (!x_6)) && (decide (x_7 = x_8))) && (x_17 && (decide (x_16 = 0)))) && (decide (x_9 = x_42))) && (x_18 && x_19)) && (x_40 && x_41)) && (decide ((x_43.length:Int) = 0))) && x_45) (.one (.bool (decide (x_34 = 6)))),B ((((((((((x_4 && (!x_5)) && (!x_6)) && (decide (x_7 = x_8))) && (x_17 && (decide (x_16 = 0)))) && (decide (x_9 = x_42))) && (x_18 && x_19)) && (x_40 && x_41)) && (decide ((x_43.length:Int) = 0))) && x_45) && (decide (x_34 = 6))),B ((((((((((x_4 && (!x_5)) && (!x_6)) && (decide (x_7 = x_8))) && (x_17 && (decide (x_16 = 0)))) && (decide (x_9 = x_42))) && (x_18 && x_19)) && (x_40 && x_41)) && (decide ((x_43.length:Int) = 0))) && x_45) && (decide (x_34 = 6))),.opt ((((((((((x_4 && (!x_5)) && (!x_6)) && (decide (x_7 = x_8))) && (x_17 && (decide (x_16 = 0)))) && (decide (x_9 = x_42))) && (x_18 && x_19)) && (x_40 && x_41)) && (decide ((x_43.length:Int) = 0))) && x_45) && (decide (x_34 = 6))) (.one (.i x_36)),.opt ((((((((((x_4 && (!x_5)) && (!x_6)) && (decide (x_7 = x_8))) && (x_17 && (decide (x_16 = 0)))) && (decide (x_9 = x_42))) && (x_18 && x_19)) && (x_40 && x_41)) && (decide ((x_43.length:Int) = 0))) && x_45) && (decide (x_34 = 6))) (.one (.bool (decide (x_36 = 5)))),B (((((((((((x_4 && (!x_5)) && (!x_6)) && (decide (x_7 = x_8))) && (x_17 && (decide (x_16 = 0)))) && (decide (x_9 = x_42))) && (x_18 && x_19)) && (x_40 && x_41)) && (decide ((x_43.length:Int) = 0))) && x_45) && (decide (x_34 = 6))) && (decide (x_36 = 5))),B (((((((((((x_4 && (!x_5)) && (!x_6)) && (decide (x_7 = x_8))) && (x_17 && (decide (x_16 = 0)))) && (decide (x_9 = x_42))) && (x_18 && x_19)) && (x_40 && x_41)) && (decide ((x_43.length:Int) = 0))) && x_45) && (decide (x_34 = 6))) && (decide (x_36 = 5)))] [⟨[false,false,false,false,false,false,false,false,false,false,false,false,false,false,false,false,false,false,false,false,false,false,false,false,false,false,false,false,false,false,false,false,false,false,false,false,false],[(4,B (((x_4 && (!x_5)) && (!x_6)) && (decide (x_7 = x_8)))),(5,Pt 104 0),(13,B (x_17 && (decide (x_16 = 0)))),(14,B (x_18 && x_19)),(15,Pt 112 0),(22,Pt 115 0),(27,I x_34),(29,I x_36),(30,B (x_40 && x_41))],[(104,.box 25 (ak x_9)),(112,.box 49 (aJ x_23)),(115,.box 49 (aJ x_29))],[true,true,true,true,true,true,true,true,true,true,true,true,true,true,true,true,true,true,true,true,true,true,true,true,true,true,true,true,true,true,true,true,true,true,true,true,true],[],[18,19,20,21,22,23,24,25,26,27,28,29,30,31,32,33,34,35,36]⟩,⟨[false,false,false,false,false,false,false,false,false,false,false,false,false,false,false,false,false,true,false,false,false,false,false,false,false,false,false,false,false,false,false,false,false,false,false,false,false],[(4,B (((x_4 && (!x_5)) && (!x_6)) && (decide (x_7 = x_8)))),(5,Pt 104 0),(13,B (x_17 && (decide (x_16 = 0)))),(14,B (x_18 && x_19)),(15,Pt 112 0),(22,Pt 115 0),(27,I x_34),(29,I x_36),(30,B (x_40 && x_41))],[(104,.box 25 (ak x_9)),(112,.box 49 (aJ x_23)),(115,.box 49 (aJ x_29))],[true,true,true,true,true,true,true,true,true,true,true,true,true,true,true,true,true,true,true,true,true,true,true,true,true,true,true,true,true,true,true,true,true,true,true,true,true],[0,1,2,3,4,5,6,7,8,9,10,11,12,13,14,15,16,17],[26,27,28,29,30,31,32,33,34,35,36]⟩,⟨[false,false,false,false,false,false,false,false,false,false,false,false,false,false,false,false,false,true,false,false,false,false,false,true,false,false,false,false,false,false,false,false,false,false,false,false,false],[(4,B (((x_4 && (!x_5)) && (!x_6)) && (decide (x_7 = x_8)))),(5,Pt 104 0),(13,B (x_17 && (decide (x_16 = 0)))),(14,B (x_18 && x_19)),(15,Pt 112 0),(22,Pt 115 0),(27,I x_34),(29,I x_36),(30,B (x_40 && x_41))],[(104,.box 25 (ak x_9)),(112,.box 49 (aJ x_23)),(115,.box 49 (aJ x_29))],[true,true,true,true,true,true,true,true,true,true,true,true,true,true,true,true,true,true,true,true,true,true,true,true,true,true,true,true,true,true,true,true,true,true,true,true,true],[0,1,2,3,4,5,6,7,8,9,10,11,12,13,14,15,16,17,18,19,20,21,22,23],[]⟩] rfl (⟨by kernel_rfl,⟨⟨B (((x_4 && (!x_5)) && (!x_6)) && (decide (x_7 = x_8))),fun _=>rfl,fun _=>.p (by exact aV rfl)⟩,⟨B (((x_4 && (!x_5)) && (!x_6)) && (decide (x_7 = x_8))),fun _=>rfl,fun _=>.p (by exact aV rfl)⟩,⟨.opt (((x_4 && (!x_5)) && (!x_6)) && (decide (x_7 = x_8))) (.one (.bool (x_17 && (decide (x_16 = 0))))),fun _=>rfl,fun _=>by exact .guard (((x_4 && (!x_5)) && (!x_6)) && (decide (x_7 = x_8))) 1 [] (.plain rfl) (dM _) rfl rfl (fun gg2=>trivial) (fun gg2=>om)⟩,⟨B ((((x_4 && (!x_5)) && (!x_6)) && (decide (x_7 = x_8))) && (x_17 && (decide (x_16 = 0)))),fun _=>rfl,fun _=>.p (by exact aH (fun e=>e) rfl rfl rfl rfl)⟩,⟨B ((((x_4 && (!x_5)) && (!x_6)) && (decide (x_7 = x_8))) && (x_17 && (decide (x_16 = 0)))),fun _=>rfl,fun _=>.p (by exact aV rfl)⟩,⟨.opt ((((x_4 && (!x_5)) && (!x_6)) && (decide (x_7 = x_8))) && (x_17 && (decide (x_16 = 0)))) (.agg (ak x_9)),fun _=>rfl,fun _=>by exact .guard ((((x_4 && (!x_5)) && (!x_6)) && (decide (x_7 = x_8))) && (x_17 && (decide (x_16 = 0)))) 1 [] (.plain rfl) (dM _) rfl rfl (fun gg5=>trivial) (fun gg5=>lp ao)⟩,⟨.opt ((((x_4 && (!x_5)) && (!x_6)) && (decide (x_7 = x_8))) && (x_17 && (decide (x_16 = 0)))) (.agg (ak x_42)),fun _=>rfl,fun _=>by exact .guard ((((x_4 && (!x_5)) && (!x_6)) && (decide (x_7 = x_8))) && (x_17 && (decide (x_16 = 0)))) 2 [] (.plain rfl) (dM _) rfl rfl (fun gg6=>trivial) (fun gg6=>aj (cm (gc e70 gg6)) ni rfl rfl)⟩,⟨.opt ((((x_4 && (!x_5)) && (!x_6)) && (decide (x_7 = x_8))) && (x_17 && (decide (x_16 = 0)))) (.one (.bool (decide (x_9 = x_42)))),fun _=>rfl,fun _=>by exact .guard ((((x_4 && (!x_5)) && (!x_6)) && (decide (x_7 = x_8))) && (x_17 && (decide (x_16 = 0)))) 3 [194,195] (.plain rfl) (dM _) rfl rfl (fun gg7=>⟨gg7,gg7,trivial⟩) (fun gg7=>k5 (mX x_9 x_42) rfl rfl)⟩,⟨B (((((x_4 && (!x_5)) && (!x_6)) && (decide (x_7 = x_8))) && (x_17 && (decide (x_16 = 0)))) && (decide (x_9 = x_42))),fun _=>rfl,fun _=>.p (by exact aH (fun e=>e) rfl rfl rfl rfl)⟩,⟨B (((((x_4 && (!x_5)) && (!x_6)) && (decide (x_7 = x_8))) && (x_17 && (decide (x_16 = 0)))) && (decide (x_9 = x_42))),fun _=>rfl,fun _=>.p (by exact aV rfl)⟩,⟨.opt (((((x_4 && (!x_5)) && (!x_6)) && (decide (x_7 = x_8))) && (x_17 && (decide (x_16 = 0)))) && (decide (x_9 = x_42))) (.one (.bool (x_18 && x_19))),fun _=>rfl,fun _=>by exact .guard (((((x_4 && (!x_5)) && (!x_6)) && (decide (x_7 = x_8))) && (x_17 && (decide (x_16 = 0)))) && (decide (x_9 = x_42))) 1 [] (.plain rfl) (dM _) rfl rfl (fun gg10=>trivial) (fun gg10=>om)⟩,⟨B ((((((x_4 && (!x_5)) && (!x_6)) && (decide (x_7 = x_8))) && (x_17 && (decide (x_16 = 0)))) && (decide (x_9 = x_42))) && (x_18 && x_19)),fun _=>rfl,fun _=>.p (by exact aH (fun e=>e) rfl rfl rfl rfl)⟩,⟨B ((((((x_4 && (!x_5)) && (!x_6)) && (decide (x_7 = x_8))) && (x_17 && (decide (x_16 = 0)))) && (decide (x_9 = x_42))) && (x_18 && x_19)),fun _=>rfl,fun _=>.p (by exact aV rfl)⟩,⟨.opt ((((((x_4 && (!x_5)) && (!x_6)) && (decide (x_7 = x_8))) && (x_17 && (decide (x_16 = 0)))) && (decide (x_9 = x_42))) && (x_18 && x_19)) (.one (.bool (x_40 && x_41))),fun _=>rfl,fun _=>by exact .guard ((((((x_4 && (!x_5)) && (!x_6)) && (decide (x_7 = x_8))) && (x_17 && (decide (x_16 = 0)))) && (decide (x_9 = x_42))) && (x_18 && x_19)) 1 [] (.plain rfl) (dM _) rfl rfl (fun gg13=>trivial) (fun gg13=>om)⟩,⟨B (((((((x_4 && (!x_5)) && (!x_6)) && (decide (x_7 = x_8))) && (x_17 && (decide (x_16 = 0)))) && (decide (x_9 = x_42))) && (x_18 && x_19)) && (x_40 && x_41)),fun _=>rfl,fun _=>.p (by exact aH (fun e=>e) rfl rfl rfl rfl)⟩,⟨B (((((((x_4 && (!x_5)) && (!x_6)) && (decide (x_7 = x_8))) && (x_17 && (decide (x_16 = 0)))) && (decide (x_9 = x_42))) && (x_18 && x_19)) && (x_40 && x_41)),fun _=>rfl,fun _=>.p (by exact aV rfl)⟩,⟨.opt (((((((x_4 && (!x_5)) && (!x_6)) && (decide (x_7 = x_8))) && (x_17 && (decide (x_16 = 0)))) && (decide (x_9 = x_42))) && (x_18 && x_19)) && (x_40 && x_41)) (.agg (aJ x_29)),fun _=>rfl,fun _=>by exact .guard (((((((x_4 && (!x_5)) && (!x_6)) && (decide (x_7 = x_8))) && (x_17 && (decide (x_16 = 0)))) && (decide (x_9 = x_42))) && (x_18 && x_19)) && (x_40 && x_41)) 1 [] (.plain rfl) (dM _) rfl rfl (fun gg16=>trivial) (fun gg16=>lp aU)⟩,⟨_,[],.opt (((((((x_4 && (!x_5)) && (!x_6)) && (decide (x_7 = x_8))) && (x_17 && (decide (x_16 = 0)))) && (decide (x_9 = x_42))) && (x_18 && x_19)) && (x_40 && x_41)) (.one (.sl 2 (x_43.map (dW .i64)))),rfl,fun _=>rfl,rfl,rfl,fun _=>.sm [104,112,115] (by exact by exact .guard (((((((x_4 && (!x_5)) && (!x_6)) && (decide (x_7 = x_8))) && (x_17 && (decide (x_16 = 0)))) && (decide (x_9 = x_42))) && (x_18 && x_19)) && (x_40 && x_41)) 3 [205] (.plain rfl) (dM _) rfl rfl (fun gg17=>⟨gg17,trivial⟩) (fun gg17=>aj (((gO (gc e71 gg17)).sw 51 0).q8) sZ rfl rfl)) (by exact rfl)⟩,trivial,trivial,trivial,trivial,trivial,trivial,trivial,trivial,trivial,trivial,trivial,trivial,trivial,trivial,trivial,trivial,trivial,trivial,trivial,trivial⟩,⟨by kernel_rfl,⟨trivial,trivial,trivial,trivial,trivial,trivial,trivial,trivial,trivial,trivial,trivial,trivial,trivial,trivial,trivial,trivial,trivial,trivial,⟨.opt (((((((x_4 && (!x_5)) && (!x_6)) && (decide (x_7 = x_8))) && (x_17 && (decide (x_16 = 0)))) && (decide (x_9 = x_42))) && (x_18 && x_19)) && (x_40 && x_41)) (.one (.i (x_43.length:Int))),fun _=>rfl,fun _=>by exact .guard (((((((x_4 && (!x_5)) && (!x_6)) && (decide (x_7 = x_8))) && (x_17 && (decide (x_16 = 0)))) && (decide (x_9 = x_42))) && (x_18 && x_19)) && (x_40 && x_41)) 2 [206] (.plain rfl) (dM _) rfl rfl (fun gg18=>⟨gg18,trivial⟩) (fun gg18=>bR q6 rfl (List.length_map _))⟩,⟨.opt (((((((x_4 && (!x_5)) && (!x_6)) && (decide (x_7 = x_8))) && (x_17 && (decide (x_16 = 0)))) && (decide (x_9 = x_42))) && (x_18 && x_19)) && (x_40 && x_41)) (.one (.bool (decide ((x_43.length:Int) = 0)))),fun _=>rfl,fun _=>by exact .guard (((((((x_4 && (!x_5)) && (!x_6)) && (decide (x_7 = x_8))) && (x_17 && (decide (x_16 = 0)))) && (decide (x_9 = x_42))) && (x_18 && x_19)) && (x_40 && x_41)) 2 [207] (.plain rfl) (dM _) rfl rfl (fun gg19=>⟨gg19,trivial⟩) (fun gg19=>dG rfl rfl)⟩,⟨B ((((((((x_4 && (!x_5)) && (!x_6)) && (decide (x_7 = x_8))) && (x_17 && (decide (x_16 = 0)))) && (decide (x_9 = x_42))) && (x_18 && x_19)) && (x_40 && x_41)) && (decide ((x_43.length:Int) = 0))),fun _=>rfl,fun _=>.p (by exact aH (fun e=>e) rfl rfl rfl rfl)⟩,⟨B ((((((((x_4 && (!x_5)) && (!x_6)) && (decide (x_7 = x_8))) && (x_17 && (decide (x_16 = 0)))) && (decide (x_9 = x_42))) && (x_18 && x_19)) && (x_40 && x_41)) && (decide ((x_43.length:Int) = 0))),fun _=>rfl,fun _=>.p (by exact aV rfl)⟩,⟨.opt ((((((((x_4 && (!x_5)) && (!x_6)) && (decide (x_7 = x_8))) && (x_17 && (decide (x_16 = 0)))) && (decide (x_9 = x_42))) && (x_18 && x_19)) && (x_40 && x_41)) && (decide ((x_43.length:Int) = 0))) (.agg (aJ x_23)),fun _=>rfl,fun _=>by exact .guard ((((((((x_4 && (!x_5)) && (!x_6)) && (decide (x_7 = x_8))) && (x_17 && (decide (x_16 = 0)))) && (decide (x_9 = x_42))) && (x_18 && x_19)) && (x_40 && x_41)) && (decide ((x_43.length:Int) = 0))) 1 [] (.plain rfl) (dM _) rfl rfl (fun gg22=>trivial) (fun gg22=>lp aU)⟩,⟨_,[],.opt ((((((((x_4 && (!x_5)) && (!x_6)) && (decide (x_7 = x_8))) && (x_17 && (decide (x_16 = 0)))) && (decide (x_9 = x_42))) && (x_18 && x_19)) && (x_40 && x_41)) && (decide ((x_43.length:Int) = 0))) (.one (.sl 2 (x_44.map (dW .i64)))),rfl,fun _=>rfl,rfl,rfl,fun _=>.sm [104,112,115] (by exact by exact .guard ((((((((x_4 && (!x_5)) && (!x_6)) && (decide (x_7 = x_8))) && (x_17 && (decide (x_16 = 0)))) && (decide (x_9 = x_42))) && (x_18 && x_19)) && (x_40 && x_41)) && (decide ((x_43.length:Int) = 0))) 3 [211] (.plain rfl) (dM _) rfl rfl (fun gg23=>⟨gg23,trivial⟩) (fun gg23=>aj (((gO (gc e72 gg23)).sw 51 0).q8) sZ rfl rfl)) (by exact rfl)⟩,⟨.opt ((((((((x_4 && (!x_5)) && (!x_6)) && (decide (x_7 = x_8))) && (x_17 && (decide (x_16 = 0)))) && (decide (x_9 = x_42))) && (x_18 && x_19)) && (x_40 && x_41)) && (decide ((x_43.length:Int) = 0))) (.agg [.i 3,.i 7]),fun _=>rfl,fun _=>by exact .guard ((((((((x_4 && (!x_5)) && (!x_6)) && (decide (x_7 = x_8))) && (x_17 && (decide (x_16 = 0)))) && (decide (x_9 = x_42))) && (x_18 && x_19)) && (x_40 && x_41)) && (decide ((x_43.length:Int) = 0))) 1 [] (.plain rfl) (dM _) rfl rfl (fun gg24=>trivial) (fun gg24=>dD eJ rfl rfl)⟩,⟨.opt ((((((((x_4 && (!x_5)) && (!x_6)) && (decide (x_7 = x_8))) && (x_17 && (decide (x_16 = 0)))) && (decide (x_9 = x_42))) && (x_18 && x_19)) && (x_40 && x_41)) && (decide ((x_43.length:Int) = 0))) (.one (.sl 2 ([(⟨3,7⟩:A2)].map (dW .i64)))),fun _=>rfl,fun _=>by exact .guard ((((((((x_4 && (!x_5)) && (!x_6)) && (decide (x_7 = x_8))) && (x_17 && (decide (x_16 = 0)))) && (decide (x_9 = x_42))) && (x_18 && x_19)) && (x_40 && x_41)) && (decide ((x_43.length:Int) = 0))) 2 [213] (.plain rfl) (dM _) rfl rfl (fun gg25=>⟨gg25,trivial⟩) (fun gg25=>df (es:=[(⟨3,7⟩:A2)].map (dW .i64)) hX rfl rfl (cN fun _=>rfl) rfl (by decide) (by decide))⟩,trivial,trivial,trivial,trivial,trivial,trivial,trivial,trivial,trivial,trivial,trivial,trivial⟩,⟨by kernel_rfl,⟨trivial,trivial,trivial,trivial,trivial,trivial,trivial,trivial,trivial,trivial,trivial,trivial,trivial,trivial,trivial,trivial,trivial,trivial,trivial,trivial,trivial,trivial,trivial,trivial,⟨.opt ((((((((x_4 && (!x_5)) && (!x_6)) && (decide (x_7 = x_8))) && (x_17 && (decide (x_16 = 0)))) && (decide (x_9 = x_42))) && (x_18 && x_19)) && (x_40 && x_41)) && (decide ((x_43.length:Int) = 0))) (.agg [.i 3,.i 7]),fun _=>rfl,fun _=>by exact .guard ((((((((x_4 && (!x_5)) && (!x_6)) && (decide (x_7 = x_8))) && (x_17 && (decide (x_16 = 0)))) && (decide (x_9 = x_42))) && (x_18 && x_19)) && (x_40 && x_41)) && (decide ((x_43.length:Int) = 0))) 1 [] (.plain rfl) (dM _) rfl rfl (fun gg24=>trivial) (fun gg24=>dD eJ rfl rfl)⟩,⟨.opt ((((((((x_4 && (!x_5)) && (!x_6)) && (decide (x_7 = x_8))) && (x_17 && (decide (x_16 = 0)))) && (decide (x_9 = x_42))) && (x_18 && x_19)) && (x_40 && x_41)) && (decide ((x_43.length:Int) = 0))) (.one (.sl 2 ([(⟨3,7⟩:A2)].map (dW .i64)))),fun _=>rfl,fun _=>by exact .guard ((((((((x_4 && (!x_5)) && (!x_6)) && (decide (x_7 = x_8))) && (x_17 && (decide (x_16 = 0)))) && (decide (x_9 = x_42))) && (x_18 && x_19)) && (x_40 && x_41)) && (decide ((x_43.length:Int) = 0))) 2 [213] (.plain rfl) (dM _) rfl rfl (fun gg25=>⟨gg25,trivial⟩) (fun gg25=>df (es:=[(⟨3,7⟩:A2)].map (dW .i64)) hX rfl rfl (cN fun _=>rfl) rfl (by decide) (by decide))⟩,⟨.opt ((((((((x_4 && (!x_5)) && (!x_6)) && (decide (x_7 = x_8))) && (x_17 && (decide (x_16 = 0)))) && (decide (x_9 = x_42))) && (x_18 && x_19)) && (x_40 && x_41)) && (decide ((x_43.length:Int) = 0))) (.one (.bool x_45)),fun _=>rfl,fun _=>by exact .guard ((((((((x_4 && (!x_5)) && (!x_6)) && (decide (x_7 = x_8))) && (x_17 && (decide (x_16 = 0)))) && (decide (x_9 = x_42))) && (x_18 && x_19)) && (x_40 && x_41)) && (decide ((x_43.length:Int) = 0))) 4 [212,214] (.plain rfl) (dM _) rfl rfl (fun gg26=>⟨gg26,gg26,gg26,trivial⟩) (fun gg26=>aj (cI (gc e73 gg26)) qD rfl rfl)⟩,⟨B (((((((((x_4 && (!x_5)) && (!x_6)) && (decide (x_7 = x_8))) && (x_17 && (decide (x_16 = 0)))) && (decide (x_9 = x_42))) && (x_18 && x_19)) && (x_40 && x_41)) && (decide ((x_43.length:Int) = 0))) && x_45),fun _=>rfl,fun _=>.p (by exact aH (fun e=>e) rfl rfl rfl rfl)⟩,⟨B (((((((((x_4 && (!x_5)) && (!x_6)) && (decide (x_7 = x_8))) && (x_17 && (decide (x_16 = 0)))) && (decide (x_9 = x_42))) && (x_18 && x_19)) && (x_40 && x_41)) && (decide ((x_43.length:Int) = 0))) && x_45),fun _=>rfl,fun _=>.p (by exact aV rfl)⟩,⟨.opt (((((((((x_4 && (!x_5)) && (!x_6)) && (decide (x_7 = x_8))) && (x_17 && (decide (x_16 = 0)))) && (decide (x_9 = x_42))) && (x_18 && x_19)) && (x_40 && x_41)) && (decide ((x_43.length:Int) = 0))) && x_45) (.one (.i x_34)),fun _=>rfl,fun _=>by exact .guard (((((((((x_4 && (!x_5)) && (!x_6)) && (decide (x_7 = x_8))) && (x_17 && (decide (x_16 = 0)))) && (decide (x_9 = x_42))) && (x_18 && x_19)) && (x_40 && x_41)) && (decide ((x_43.length:Int) = 0))) && x_45) 1 [] (.plain rfl) (dM _) rfl rfl (fun gg29=>trivial) (fun gg29=>om)⟩,⟨.opt (((((((((x_4 && (!x_5)) && (!x_6)) && (decide (x_7 = x_8))) && (x_17 && (decide (x_16 = 0)))) && (decide (x_9 = x_42))) && (x_18 && x_19)) && (x_40 && x_41)) && (decide ((x_43.length:Int) = 0))) && x_45) (.one (.bool (decide (x_34 = 6)))),fun _=>rfl,fun _=>by exact .guard (((((((((x_4 && (!x_5)) && (!x_6)) && (decide (x_7 = x_8))) && (x_17 && (decide (x_16 = 0)))) && (decide (x_9 = x_42))) && (x_18 && x_19)) && (x_40 && x_41)) && (decide ((x_43.length:Int) = 0))) && x_45) 2 [218] (.plain rfl) (dM _) rfl rfl (fun gg30=>⟨gg30,trivial⟩) (fun gg30=>dG rfl rfl)⟩,⟨B ((((((((((x_4 && (!x_5)) && (!x_6)) && (decide (x_7 = x_8))) && (x_17 && (decide (x_16 = 0)))) && (decide (x_9 = x_42))) && (x_18 && x_19)) && (x_40 && x_41)) && (decide ((x_43.length:Int) = 0))) && x_45) && (decide (x_34 = 6))),fun _=>rfl,fun _=>.p (by exact aH (fun e=>e) rfl rfl rfl rfl)⟩,⟨B ((((((((((x_4 && (!x_5)) && (!x_6)) && (decide (x_7 = x_8))) && (x_17 && (decide (x_16 = 0)))) && (decide (x_9 = x_42))) && (x_18 && x_19)) && (x_40 && x_41)) && (decide ((x_43.length:Int) = 0))) && x_45) && (decide (x_34 = 6))),fun _=>rfl,fun _=>.p (by exact aV rfl)⟩,⟨.opt ((((((((((x_4 && (!x_5)) && (!x_6)) && (decide (x_7 = x_8))) && (x_17 && (decide (x_16 = 0)))) && (decide (x_9 = x_42))) && (x_18 && x_19)) && (x_40 && x_41)) && (decide ((x_43.length:Int) = 0))) && x_45) && (decide (x_34 = 6))) (.one (.i x_36)),fun _=>rfl,fun _=>by exact .guard ((((((((((x_4 && (!x_5)) && (!x_6)) && (decide (x_7 = x_8))) && (x_17 && (decide (x_16 = 0)))) && (decide (x_9 = x_42))) && (x_18 && x_19)) && (x_40 && x_41)) && (decide ((x_43.length:Int) = 0))) && x_45) && (decide (x_34 = 6))) 1 [] (.plain rfl) (dM _) rfl rfl (fun gg33=>trivial) (fun gg33=>om)⟩,⟨.opt ((((((((((x_4 && (!x_5)) && (!x_6)) && (decide (x_7 = x_8))) && (x_17 && (decide (x_16 = 0)))) && (decide (x_9 = x_42))) && (x_18 && x_19)) && (x_40 && x_41)) && (decide ((x_43.length:Int) = 0))) && x_45) && (decide (x_34 = 6))) (.one (.bool (decide (x_36 = 5)))),fun _=>rfl,fun _=>by exact .guard ((((((((((x_4 && (!x_5)) && (!x_6)) && (decide (x_7 = x_8))) && (x_17 && (decide (x_16 = 0)))) && (decide (x_9 = x_42))) && (x_18 && x_19)) && (x_40 && x_41)) && (decide ((x_43.length:Int) = 0))) && x_45) && (decide (x_34 = 6))) 2 [222] (.plain rfl) (dM _) rfl rfl (fun gg34=>⟨gg34,trivial⟩) (fun gg34=>dG rfl rfl)⟩,⟨B (((((((((((x_4 && (!x_5)) && (!x_6)) && (decide (x_7 = x_8))) && (x_17 && (decide (x_16 = 0)))) && (decide (x_9 = x_42))) && (x_18 && x_19)) && (x_40 && x_41)) && (decide ((x_43.length:Int) = 0))) && x_45) && (decide (x_34 = 6))) && (decide (x_36 = 5))),fun _=>rfl,fun _=>.p (by exact aH (fun e=>e) rfl rfl rfl rfl)⟩,⟨B (((((((((((x_4 && (!x_5)) && (!x_6)) && (decide (x_7 = x_8))) && (x_17 && (decide (x_16 = 0)))) && (decide (x_9 = x_42))) && (x_18 && x_19)) && (x_40 && x_41)) && (decide ((x_43.length:Int) = 0))) && x_45) && (decide (x_34 = 6))) && (decide (x_36 = 5))),fun _=>rfl,fun _=>.p (by exact b4 rfl)⟩,trivial⟩,trivial⟩⟩⟩) rfl rfl rfl [0] [] (s':=⟨[(0,B (((((((((((x_4 && (!x_5)) && (!x_6)) && (decide (x_7 = x_8))) && (x_17 && (decide (x_16 = 0)))) && (decide (x_9 = x_42))) && (x_18 && x_19)) && (x_40 && x_41)) && (decide ((x_43.length:Int) = 0))) && x_45) && (decide (x_34 = 6))) && (decide (x_36 = 5))))],[]⟩) rfl ?_
 refine ab.ret ?_
 obtain rfl:=Option.some.inj h
 refine Fin.ag ⟨[(0,_)],[]⟩ rfl (Fin.au [.one (.bool (((((((((((x_4 && (!x_5)) && (!x_6)) && (decide (x_7 = x_8))) && (x_17 && (decide (x_16 = 0)))) && (decide (x_9 = x_42))) && (x_18 && x_19)) && (x_40 && x_41)) && (decide ((x_43.length:Int) = 0))) && x_45) && (decide (x_34 = 6))) && (decide (x_36 = 5))))] (.inl rfl) rfl (.cons (.tmp rfl) .nil) ⟨rfl,rfl⟩)
def cD (F:Nat) (a0:bz) (b0:bz):Option Bool :=
 Option.bind (iter F (fun i_1=>if (decide (i_1 < 3)) = true then ((bb a0.Hi.l i_1).bind fun x_2=>(bb b0.Lo.l i_1).bind fun x_3=>(bF (!(decide (x_2 < x_3))) (bb b0.Hi.l i_1)).bind fun x_4=>(bF (!(decide (x_2 < x_3))) (bb a0.Lo.l i_1)).bind fun x_5=>if ((decide (x_2 < x_3)) || (decide (x_4 < x_5))) = true then (some (.inr (.inr false))) else (some (.inl (IntKind.i64.wrap (i_1 + 1))))) else (some (.inr (.inl ())))) 0) (ct (fun _=>some true) (fun y=>some y))
theorem iH {F:Nat} {a0:bz} {b0:bz} {r:Bool} (h:cD F a0 b0 = some r):aq Tryz.prog [] 17 [] [.agg (ak a0),.agg (ak b0)] (Is [] (.b (.one (.bool r)))):=by
 unfold cD at h
 refine aq.intro 30 Tryz.func17 Tryz.ntmps17 rfl (by simp) fun E=>?_
 show ab _ E ⟨30,[],[],[]⟩ _ ⟨[(0,.b (.agg (ak a0))),(1,.b (.agg (ak b0)))],[]⟩ _
 refine ab.seq (ab.aa ?_)
 refine Oc (bp (k:=101) rfl rfl) (Oc (bp (k:=102) rfl rfl) (Oc oa ?_))
 refine af.ai ⟨[(2,Pt 101 0),(3,Pt 102 0)],[(101,.box 25 (ak a0)),(102,.box 25 (ak b0))]⟩ rfl ?_
 obtain ⟨v1,h2,h⟩:=aM h
 refine ab.dX (v:=v1) (fun (_:Unit)=>⟨[],[]⟩) (fun z=>.inl z) ?_ ?_
 ·refine ab.seq (ab.aa ?_)
  refine Oc oa (af.ai ⟨[(2,_),(3,_),(5,I 0)],[(101,_),(102,_)]⟩ rfl (ab.block (ab.c6 h2 (fun (i_1:Int)=>⟨[(2,Pt 101 0),(3,Pt 102 0),(5,I i_1)],[(101,.box 25 (ak a0)),(102,.box 25 (ak b0))]⟩) [2,3,5] [101,102] rfl ?_)))
  rintro i_1 o3 h4 hy5
  refine ab.seq (ab.seq (ab.aa ?_))
  refine Oc om (Oc (bf rfl rfl) ?_)
  refine af.ai ⟨[(2,_),(3,_),(5,_),(7,B (decide (i_1 < 3)))],[(101,_),(102,_)]⟩ rfl (ab.ite h4 rfl (fun _ h4=>?_) (fun _ h4=>?_))
  ·refine ab.skip (Fin.ag ⟨[(2,_),(3,_),(5,_)],[(101,_),(102,_)]⟩ rfl (Fin.then (ab.seq (ab.block (ab.seq ?_)))))
   refine ab.ag ⟨[(2,_),(3,_),(5,_)],[(101,_),(102,_)]⟩ rfl ?_
   obtain ⟨x_2,e6,h4⟩:=aM h4
   obtain ⟨x_3,e7,h4⟩:=aM h4
   obtain ⟨x_4,e11,h4⟩:=aM h4
   obtain ⟨x_5,e16,h4⟩:=aM h4
   refine ab.bH mixed 20 [I i_1,Pt 101 3,.b (.ptr 101 (3 + (i_1:Int).toNat * 1)),I x_2,I i_1,Pt 102 0,.b (.ptr 102 (0 + (i_1:Int).toNat * 1)),I x_3,B (decide (x_2 < x_3)),B (decide (x_2 < x_3)),.opt (!(decide (x_2 < x_3))) (.one (.i i_1)),.opt (!(decide (x_2 < x_3))) (.ptr 102 3),.opt (!(decide (x_2 < x_3))) (.ptr 102 (3 + (i_1:Int).toNat * 1)),.opt (!(decide (x_2 < x_3))) (.one (.i x_4)),.opt (!(decide (x_2 < x_3))) (.one (.i i_1)),.opt (!(decide (x_2 < x_3))) (.ptr 101 0),.opt (!(decide (x_2 < x_3))) (.ptr 101 (0 + (i_1:Int).toNat * 1)),.opt (!(decide (x_2 < x_3))) (.one (.i x_5)),.opt (!(decide (x_2 < x_3))) (.one (.bool (decide (x_4 < x_5)))),B ((decide (x_2 < x_3)) || (decide (x_4 < x_5)))] [2,3,5,29] [101,102] (s':=⟨[(2,_),(3,_),(5,_),(29,B ((decide (x_2 < x_3)) || (decide (x_4 < x_5))))],[(101,_),(102,_)]⟩) rfl ⟨fun _=>.p om,fun _=>.p (an bt rfl rfl),fun _=>.p (aI a7 (a6 e6) (b6 e6) rfl rfl rfl),fun _=>.p (aE aK rfl rfl (bC (post:=[]) (k:=.i64) ((bI .i64) a0.Lo) e6 rfl rfl rfl)),fun _=>.p om,fun _=>.p (an bu rfl rfl),fun _=>.p (aI a7 (a6 e7) (b6 e7) rfl rfl rfl),fun _=>.p (aE aK rfl rfl (bC (post:=((bI .i64) b0.Hi)) (k:=.i64) [] e7 rfl rfl rfl)),fun _=>.p (bf rfl rfl),fun _=>.p om,fun _=>by exact .guard (!(decide (x_2 < x_3))) 1 [] (.plain rfl) (dn _) rfl rfl (fun g8=>trivial) (fun g8=>om),fun _=>by exact .guard (!(decide (x_2 < x_3))) 1 [] (.plain rfl) (dn _) rfl rfl (fun g9=>trivial) (fun g9=>an bt rfl rfl),fun _=>by exact .guard (!(decide (x_2 < x_3))) 3 [20,21] (.plain rfl) (dn _) rfl rfl (fun g10=>⟨g10,g10,trivial⟩) (fun g10=>aI a7 (a6 (gc e11 g10)) (b6 (gc e11 g10)) rfl rfl rfl),fun _=>by exact .guard (!(decide (x_2 < x_3))) 2 [22] (.plain rfl) (dn _) rfl rfl (fun g12=>⟨g12,trivial⟩) (fun g12=>aE aK rfl rfl (bC (post:=[]) (k:=.i64) ((bI .i64) b0.Lo) (gc e11 g12) rfl rfl rfl)),fun _=>by exact .guard (!(decide (x_2 < x_3))) 1 [] (.plain rfl) (dn _) rfl rfl (fun g13=>trivial) (fun g13=>om),fun _=>by exact .guard (!(decide (x_2 < x_3))) 1 [] (.plain rfl) (dn _) rfl rfl (fun g14=>trivial) (fun g14=>an bu rfl rfl),fun _=>by exact .guard (!(decide (x_2 < x_3))) 3 [24,25] (.plain rfl) (dn _) rfl rfl (fun g15=>⟨g15,g15,trivial⟩) (fun g15=>aI a7 (a6 (gc e16 g15)) (b6 (gc e16 g15)) rfl rfl rfl),fun _=>by exact .guard (!(decide (x_2 < x_3))) 2 [26] (.plain rfl) (dn _) rfl rfl (fun g17=>⟨g17,trivial⟩) (fun g17=>aE aK rfl rfl (bC (post:=((bI .i64) a0.Hi)) (k:=.i64) [] (gc e16 g17) rfl rfl rfl)),fun _=>by exact .guard (!(decide (x_2 < x_3))) 3 [23,27] (.plain rfl) (dn _) rfl rfl (fun g18=>⟨g18,g18,trivial⟩) (fun g18=>bf rfl rfl),fun _=>.p (bM (fun e=>by first | (rw [e]; rfl) | (simp only at e; rw [e]; rfl)) rfl rfl rfl rfl),trivial⟩ rfl rfl ?_
   refine ab.ite h4 rfl (fun _ h4=>?_) (fun _ h4=>?_)
   ·refine ab.seq (ab.aa ?_)
    refine Oc oa (af.ai ⟨[(4,B false)],[]⟩ rfl (ab.ret (Fin.aS (Fin.av ?_))))
    obtain rfl:=hy5 _ (Option.some.inj h4).symm
    refine Fin.av (Fin.aS (Fin.av ?_))
    obtain rfl:=Option.some.inj h
    refine Fin.ag ⟨[(4,_)],[]⟩ rfl (Fin.au [.one (.bool false)] (.inl rfl) rfl (.cons (.tmp rfl) .nil) ⟨rfl,rfl⟩)
   ·refine ab.skip (Fin.az (Fin.ag ⟨[(2,_),(3,_),(5,_)],[(101,_),(102,_)]⟩ rfl (Fin.then (ab.aa ?_))))
    refine Oc om (Oc (bK rfl rfl) (Oc oa ?_))
    refine af.nil ?_
    exact Fin.cu [2,3,5] [101,102] (IntKind.i64.wrap (i_1 + 1)) (Option.some.inj h4) rfl
  ·refine ab.exit (Fin.aC ?_)
   obtain rfl:=hy5 _ (Option.some.inj h4).symm
   refine Fin.aC (Fin.aY ?_)
   exact Fin.join [] [] () rfl rfl
 ·rintro _ hv
  subst v1
  refine ab.seq (ab.aa ?_)
  refine Oc oa (af.ai ⟨[(4,B true)],[]⟩ rfl (ab.ret ?_))
  obtain rfl:=Option.some.inj h
  refine Fin.ag ⟨[(4,_)],[]⟩ rfl (Fin.au [.one (.bool true)] (.inl rfl) rfl (.cons (.tmp rfl) .nil) ⟨rfl,rfl⟩)
def c4 (F:Nat) (a0:bz) (b0:bz):Option bz :=
 Option.bind (iter F (eW fun out_2 i_3=>if (decide (i_3 < 3)) = true then ((bb a0.Lo.l i_3).bind fun x_5=>(bb b0.Lo.l i_3).bind fun x_6=>(bb out_2.Lo.l i_3).bind fun x_7=>(bb a0.Hi.l i_3).bind fun x_8=>(bb b0.Hi.l i_3).bind fun x_9=>(bb out_2.Hi.l i_3).bind fun x_10=>some (.inl ((⟨out_2.Lo.set i_3 (min x_5 x_6),out_2.Hi.set i_3 (max x_8 x_9)⟩:bz),IntKind.i64.wrap (i_3 + 1)))) else (some (.inr out_2))) ((⟨A3.zero,A3.zero⟩:bz),0)) (fun out_1=>some out_1)
theorem iI {F:Nat} {a0:bz} {b0:bz} {r:bz} (h:c4 F a0 b0 = some r):aq Tryz.prog [] 19 [] [.agg (ak a0),.agg (ak b0)] (Is [] (.b (.agg (ak r)))):=by
 unfold c4 at h
 refine aq.intro 36 Tryz.func19 Tryz.ntmps19 rfl (by simp) fun E=>?_
 show ab _ E ⟨36,[],[],[]⟩ _ ⟨[(0,.b (.agg (ak a0))),(1,.b (.agg (ak b0)))],[]⟩ _
 refine ab.seq (ab.aa ?_)
 refine Oc (bp (k:=101) rfl rfl) (Oc (bp (k:=102) rfl rfl) (Oc (aW (k:=103) cQ rfl) ?_))
 refine af.ai ⟨[(2,Pt 101 0),(3,Pt 102 0),(4,Pt 103 0)],[(101,.box 25 (ak a0)),(102,.box 25 (ak b0)),(103,.box 25 ((bI .i64) A3.zero ++ ((bI .i64) A3.zero)))]⟩ rfl (ab.seq (ab.aa ?_))
 refine Oc (aW (k:=104) cQ rfl) (af.ai ⟨[(2,_),(3,_),(4,_),(5,Pt 104 0)],[(101,_),(102,_),(103,_),(104,.box 25 ((bI .i64) A3.zero ++ ((bI .i64) A3.zero)))]⟩ rfl ?_)
 obtain ⟨v1,h2,h⟩:=aM h
 refine ab.dX (v:=v1) (fun (out_1:bz)=>⟨[(4,Pt 103 0),(5,Pt 104 0)],[(103,.box 25 ((bI .i64) A3.zero ++ ((bI .i64) A3.zero))),(104,.box 25 (ak out_1))]⟩) (fun z=>z) ?_ ?_
 ·refine ab.seq (ab.aa ?_)
  refine Oc oa (af.ai ⟨[(2,_),(3,_),(4,_),(5,_),(6,I 0)],[(101,_),(102,_),(103,_),(104,_)]⟩ rfl (ab.block (ab.c6 h2 (eW fun (out_2:bz) (i_3:Int)=>⟨[(2,Pt 101 0),(3,Pt 102 0),(4,Pt 103 0),(5,Pt 104 0),(6,I i_3)],[(101,.box 25 (ak a0)),(102,.box 25 (ak b0)),(103,.box 25 ((bI .i64) A3.zero ++ ((bI .i64) A3.zero))),(104,.box 25 (ak out_2))]⟩) [2,3,4,5,6] [101,102,103,104] rfl ?_)))
  rintro ⟨out_2,i_3⟩ o3 h4 hy5
  refine ab.seq (ab.seq (ab.aa ?_))
  refine Oc om (Oc (bf rfl rfl) ?_)
  refine af.ai ⟨[(2,_),(3,_),(4,_),(5,_),(6,_),(8,B (decide (i_3 < 3)))],[(101,_),(102,_),(103,_),(104,_)]⟩ rfl (ab.ite h4 rfl (fun _ h4=>?_) (fun _ h4=>?_))
  ·refine ab.skip (Fin.ag ⟨[(2,_),(3,_),(4,_),(5,_),(6,_)],[(101,_),(102,_),(103,_),(104,_)]⟩ rfl (Fin.then (ab.seq (ab.block (ab.seq ?_)))))
   refine ab.ag ⟨[(2,_),(3,_),(4,_),(5,_),(6,_)],[(101,_),(102,_),(103,_),(104,_)]⟩ rfl ?_
   obtain ⟨x_5,e6,h4⟩:=aM h4
   obtain ⟨x_6,e7,h4⟩:=aM h4
   obtain ⟨x_7,e8,h4⟩:=aM h4
   refine ab.bH mixed 12 [I i_3,I i_3,Pt 101 0,.b (.ptr 101 (0 + (i_3:Int).toNat * 1)),I x_5,I i_3,Pt 102 0,.b (.ptr 102 (0 + (i_3:Int).toNat * 1)),I x_6,I (min x_5 x_6),Pt 104 0,.b (.ptr 104 (0 + (i_3:Int).toNat * 1))] [2,3,4,5,6] [101,102,103,104] (s':=⟨[(2,_),(3,_),(4,_),(5,_),(6,_)],[(101,_),(102,_),(103,_),(104,.box 25 ((bI .i64) (out_2.Lo.set i_3 (min x_5 x_6)) ++ ((bI .i64) out_2.Hi)))]⟩) rfl ⟨fun _=>.p om,fun _=>.p om,fun _=>.p (an bu rfl rfl),fun _=>.p (aI a7 (a6 e6) (b6 e6) rfl rfl rfl),fun _=>.p (aE aK rfl rfl (bC (post:=((bI .i64) a0.Hi)) (k:=.i64) [] e6 rfl rfl rfl)),fun _=>.p om,fun _=>.p (an bu rfl rfl),fun _=>.p (aI a7 (a6 e7) (b6 e7) rfl rfl rfl),fun _=>.p (aE aK rfl rfl (bC (post:=((bI .i64) b0.Hi)) (k:=.i64) [] e7 rfl rfl rfl)),fun _=>.p (qw rfl rfl),fun _=>.p (an bu rfl rfl),fun _=>.p (aI a7 (a6 e8) (b6 e8) rfl rfl rfl),trivial⟩ ⟨_,by exact .p (cC aK rfl rfl rfl (jA (post:=((bI .i64) out_2.Hi)) (k:=.i64) [] e8 rfl rfl rfl) (gX (post:=((bI .i64) out_2.Hi)) (k:=.i64) [] e8 rfl rfl (A3.lv out_2.Lo i_3 (min x_5 x_6)) rfl rfl)),rfl⟩ rfl (ab.ag ⟨[(2,_),(3,_),(4,_),(5,_),(6,_)],[(101,_),(102,_),(103,_),(104,_)]⟩ rfl ?_)
   obtain ⟨x_8,e9,h4⟩:=aM h4
   obtain ⟨x_9,e10,h4⟩:=aM h4
   obtain ⟨x_10,e11,h4⟩:=aM h4
   refine ab.lH mixed 12 [I i_3,I i_3,Pt 101 3,.b (.ptr 101 (3 + (i_3:Int).toNat * 1)),I x_8,I i_3,Pt 102 3,.b (.ptr 102 (3 + (i_3:Int).toNat * 1)),I x_9,I (max x_8 x_9),Pt 104 3,.b (.ptr 104 (3 + (i_3:Int).toNat * 1))] [2,3,4,5,6] [101,102,103,104] (s':=⟨[(2,_),(3,_),(4,_),(5,_),(6,_)],[(101,_),(102,_),(103,_),(104,.box 25 ((bI .i64) (out_2.Lo.set i_3 (min x_5 x_6)) ++ ((bI .i64) (out_2.Hi.set i_3 (max x_8 x_9)))))]⟩) rfl ⟨fun _=>.p om,fun _=>.p om,fun _=>.p (an bt rfl rfl),fun _=>.p (aI a7 (a6 e9) (b6 e9) rfl rfl rfl),fun _=>.p (aE aK rfl rfl (bC (post:=[]) (k:=.i64) ((bI .i64) a0.Lo) e9 rfl rfl rfl)),fun _=>.p om,fun _=>.p (an bt rfl rfl),fun _=>.p (aI a7 (a6 e10) (b6 e10) rfl rfl rfl),fun _=>.p (aE aK rfl rfl (bC (post:=[]) (k:=.i64) ((bI .i64) b0.Lo) e10 rfl rfl rfl)),fun _=>.p (oL rfl rfl),fun _=>.p (an bt rfl rfl),fun _=>.p (aI a7 (a6 e11) (b6 e11) rfl rfl rfl),trivial⟩ ⟨_,by exact .p (cC aK rfl rfl rfl (jA (post:=[]) (k:=.i64) ((bI .i64) (out_2.Lo.set i_3 (min x_5 x_6))) e11 rfl rfl rfl) (gX (post:=[]) (k:=.i64) ((bI .i64) (out_2.Lo.set i_3 (min x_5 x_6))) e11 rfl rfl (A3.lv out_2.Hi i_3 (max x_8 x_9)) rfl rfl)),rfl⟩ rfl (Fin.az (Fin.ag ⟨[(2,_),(3,_),(4,_),(5,_),(6,_)],[(101,_),(102,_),(103,_),(104,_)]⟩ rfl (Fin.then (ab.aa ?_))))
   refine Oc om (Oc (bK rfl rfl) (Oc oa ?_))
   refine af.nil ?_
   exact Fin.cu [2,3,4,5,6] [101,102,103,104] ((⟨out_2.Lo.set i_3 (min x_5 x_6),out_2.Hi.set i_3 (max x_8 x_9)⟩:bz),IntKind.i64.wrap (i_3 + 1)) (Option.some.inj h4) rfl
  ·refine ab.exit (Fin.aC ?_)
   obtain rfl:=hy5 _ (Option.some.inj h4).symm
   refine Fin.aC (Fin.aY ?_)
   exact Fin.join [4,5] [103,104] out_2 rfl rfl
 ·rintro out_1 hv
  subst v1
  refine ab.seq (ab.aa ?_)
  refine Oc (lp ao) (Oc (aD ao rfl rfl rfl rfl (Nat.le_of_ble_eq_true rfl) rfl) ?_)
  refine af.ai ⟨[(4,_)],[(103,.box 25 (ak out_1))]⟩ rfl (ab.ret ?_)
  obtain rfl:=Option.some.inj h
  refine Fin.ag ⟨[(4,_)],[(103,_)]⟩ rfl (Fin.au [.agg (ak out_1)] (.inl rfl) rfl (.cons (.agg ao rfl rfl rfl rfl) .nil) ⟨rfl,rfl⟩)
def bj (F:Nat) (a0:bz) (b0:bz) (n0:Int):Option Bool :=
 Option.bind (dv F a0 n0) (eW fun x_1 x_2=>Option.bind (cE F a0 n0) (eW fun x_3 x_4=>(bd F a0).bind fun x_5=>(bF (!((decide (x_1 ≠ x_3)) || (decide (x_2 ≠ x_4)))) (bP F a0)).bind fun x_6=>er (((decide (x_1 ≠ x_3)) || (decide (x_2 ≠ x_4))) || (x_6 != x_5)) fun x_7=>if x_7 = true then (some false) else ((bd F b0).bind fun x_8=>if ((!x_5) || (!x_8)) = true then ((bS F).bind fun x_9=>some x_9) else ((bS F).bind fun x_10=>(bF x_10 (b9 F a0 b0)).bind fun x_11=>(bF x_10 (cD F a0 b0)).bind fun x_12=>(bF (x_10 && (x_11 == x_12)) (ee F a0 b0)).bind fun x_13=>(bF (x_10 && (x_11 == x_12)) (c4 F a0 b0)).bind fun x_14=>some ((x_10 && (x_11 == x_12)) && (decide (x_13 = x_14)))))))
theorem dV {F:Nat} {a0:bz} {b0:bz} {n0:Int} {r:Bool} (h:bj F a0 b0 n0 = some r):aq Tryz.prog [] 3 [] [.agg (ak a0),.agg (ak b0),.one (.i n0)] (Is [] (.b (.one (.bool r)))):=by
 unfold bj at h
 refine aq.intro 69 Tryz.func3 Tryz.ntmps3 rfl (by simp) fun E=>?_
 show ab _ E ⟨69,[],[],[]⟩ _ ⟨[(0,.b (.agg (ak a0))),(1,.b (.agg (ak b0))),(2,I n0)],[]⟩ _
 refine ab.seq (ab.aa ?_)
 refine Oc (bp (k:=101) rfl rfl) (Oc (bp (k:=102) rfl rfl) (Oc oa ?_))
 refine af.ai ⟨[(2,I n0),(3,Pt 101 0),(4,Pt 102 0)],[(101,.box 25 (ak a0)),(102,.box 25 (ak b0))]⟩ rfl (ab.seq (ab.aa ?_))
 refine Oc (lp ao) (Oc om ?_)
 obtain ⟨⟨x_1,x_2⟩,e1,h⟩:=aM h
 refine Oc (aj (ga e1) qF rfl rfl) (Oc om (Oc (ay rfl rfl) ?_))
 refine af.ag ⟨[(2,_),(3,_),(4,_),(13,.ek [.agg (ak x_1),.one (.i x_2)]),(17,.b (.agg (ak x_1)))],[(101,_),(102,_)]⟩ rfl (Oc (ay rfl rfl) (Oc (aW (k:=103) cQ rfl) (Oc (aD ao rfl rfl rfl rfl (Nat.le_of_ble_eq_true rfl) rfl) (Oc oa ?_))))
 refine af.ai ⟨[(2,_),(3,_),(4,_),(7,Pt 103 0),(8,I x_2)],[(101,_),(102,_),(103,.box 25 (ak x_1))]⟩ rfl (ab.seq (ab.aa ?_))
 refine Oc (lp ao) (Oc om ?_)
 obtain ⟨⟨x_3,x_4⟩,e2,h⟩:=aM h
 refine Oc (aj (iJ e2) goes12 rfl rfl) (Oc om (Oc (ay rfl rfl) ?_))
 refine af.ag ⟨[(3,_),(4,_),(7,_),(8,_),(19,.ek [.agg (ak x_3),.one (.i x_4)]),(23,.b (.agg (ak x_3)))],[(101,_),(102,_),(103,_)]⟩ rfl (Oc (ay rfl rfl) (Oc (aW (k:=104) cQ rfl) (Oc (aD ao rfl rfl rfl rfl (Nat.le_of_ble_eq_true rfl) rfl) (Oc oa ?_))))
 refine af.ai ⟨[(3,_),(4,_),(7,_),(8,_),(9,Pt 104 0),(10,I x_4)],[(101,_),(102,_),(103,_),(104,.box 25 (ak x_3))]⟩ rfl (ab.seq (ab.aa ?_))
 refine Oc (lp ao) ?_
 obtain ⟨x_5,e3,h⟩:=aM h
 refine Oc (aj (cB e3) oP rfl rfl) (Oc oa ?_)
 refine af.ai ⟨[(3,_),(4,_),(7,_),(8,_),(9,_),(10,_),(11,B x_5)],[(101,_),(102,_),(103,_),(104,_)]⟩ rfl (ab.seq (ab.seq (ab.aa ?_)))
 refine Oc (lp ao) (Oc (lp ao) (Oc (nC (mX x_1 x_3) rfl rfl ry) (Oc om ?_)))
 refine n3 (!(decide (x_1 ≠ x_3))) [] (fun g4=>trivial) (fun g4=>om) (n3 (!(decide (x_1 ≠ x_3))) [] (fun g5=>by exact trivial) (fun g5=>om) (n3 (!(decide (x_1 ≠ x_3))) [31,32] (fun g6=>by exact ⟨g6,g6,trivial⟩) (fun g6=>jz rfl rfl) (af.ag ⟨[(3,_),(4,_),(11,_),(30,B (decide (x_1 ≠ x_3))),(33,.opt (!(decide (x_1 ≠ x_3))) (.one (.bool (decide (x_2 ≠ x_4)))))],[(101,_),(102,_)]⟩ rfl (Oc (bM (fun e=>by first | (rw [e]; rfl) | (simp only at e; rw [e]; rfl)) rfl rfl rfl rfl) (Oc om ?_)))))
 refine n3 (!((decide (x_1 ≠ x_3)) || (decide (x_2 ≠ x_4)))) [] (fun g7=>trivial) (fun g7=>lp ao) ?_
 obtain ⟨x_6,e9,h⟩:=aM h
 refine n3 (!((decide (x_1 ≠ x_3)) || (decide (x_2 ≠ x_4)))) [36] (fun g8=>⟨g8,trivial⟩) (fun g8=>aj (cx (gc e9 g8)) kW rfl rfl) (n3 (!((decide (x_1 ≠ x_3)) || (decide (x_2 ≠ x_4)))) [] (fun g10=>trivial) (fun g10=>om) (n3 (!((decide (x_1 ≠ x_3)) || (decide (x_2 ≠ x_4)))) [37,38] (fun g11=>by exact ⟨g11,g11,trivial⟩) (fun g11=>p9 und4 rfl rfl) (af.mz h rfl (bM (fun e=>by first | (rw [e]; rfl) | (simp only at e; rw [e]; rfl)) rfl rfl rfl rfl) (fun x_7 h=>?_))))
 refine af.ai ⟨[(3,_),(4,_),(11,_),(40,B x_7)],[(101,_),(102,_)]⟩ rfl (ab.ite h rfl (fun _ h=>?_) (fun _ h=>?_))
 ·refine ab.seq (ab.aa ?_)
  refine Oc oa (af.ai ⟨[(6,B false)],[]⟩ rfl (ab.ret (Fin.av ?_)))
  obtain rfl:=Option.some.inj h
  refine Fin.ag ⟨[(6,_)],[]⟩ rfl (Fin.au [.one (.bool false)] (.inl rfl) rfl (.cons (.tmp rfl) .nil) ⟨rfl,rfl⟩)
 ·refine ab.skip (Fin.ag ⟨[(3,_),(4,_),(11,_)],[(101,_),(102,_)]⟩ rfl (Fin.then (ab.seq (ab.aa ?_))))
  refine Oc (lp ao) ?_
  obtain ⟨x_8,e12,h⟩:=aM h
  refine Oc (aj (cB e12) oP rfl rfl) (Oc oa ?_)
  refine af.ai ⟨[(3,_),(4,_),(11,_),(12,B x_8)],[(101,_),(102,_)]⟩ rfl (ab.seq (ab.seq (ab.aa ?_)))
  refine Oc om (Oc (dp rfl) (Oc om ?_))
  refine n3 (!(!x_5)) [] (fun g13=>trivial) (fun g13=>om) (n3 (!(!x_5)) [46] (fun g14=>by exact ⟨g14,trivial⟩) (fun g14=>dp rfl) (Oc (bM (fun e=>by first | (rw [e]; rfl) | (simp only at e; rw [e]; rfl)) rfl rfl rfl rfl) (af.ai ⟨[(3,_),(4,_),(48,B ((!x_5) || (!x_8)))],[(101,_),(102,_)]⟩ rfl (ab.ite h rfl (fun _ h=>?_) (fun _ h=>?_)))))
  ·refine ab.seq (ab.aa ?_)
   obtain ⟨x_9,e15,h⟩:=aM h
   refine Oc (aj (eh e15) s7 rfl rfl) (Oc oa ?_)
   refine af.ai ⟨[(6,B x_9)],[]⟩ rfl (ab.ret (Fin.av ?_))
   obtain rfl:=Option.some.inj h
   refine Fin.ag ⟨[(6,_)],[]⟩ rfl (Fin.au [.one (.bool x_9)] (.inl rfl) rfl (.cons (.tmp rfl) .nil) ⟨rfl,rfl⟩)
  ·refine ab.skip (Fin.ag ⟨[(3,_),(4,_)],[(101,_),(102,_)]⟩ rfl (Fin.then (ab.seq ?_)))
   refine ab.ag ⟨[(3,_),(4,_)],[(101,_),(102,_)]⟩ rfl ?_
   obtain ⟨x_10,e16,h⟩:=aM h
   obtain ⟨x_11,e20,h⟩:=aM h
   obtain ⟨x_12,e24,h⟩:=aM h
   obtain ⟨x_13,e29,h⟩:=aM h
   obtain ⟨x_14,e33,h⟩:=aM h
   refine ab.bH mixed 20 [B x_10,B x_10,.opt x_10 (.agg (ak a0)),.opt x_10 (.agg (ak b0)),.opt x_10 (.one (.bool x_11)),.opt x_10 (.agg (ak a0)),.opt x_10 (.agg (ak b0)),.opt x_10 (.one (.bool x_12)),.opt x_10 (.one (.bool (x_11 == x_12))),B (x_10 && (x_11 == x_12)),B (x_10 && (x_11 == x_12)),.opt (x_10 && (x_11 == x_12)) (.agg (ak a0)),.opt (x_10 && (x_11 == x_12)) (.agg (ak b0)),.opt (x_10 && (x_11 == x_12)) (.agg (ak x_13)),.opt (x_10 && (x_11 == x_12)) (.agg (ak a0)),.opt (x_10 && (x_11 == x_12)) (.agg (ak b0)),.opt (x_10 && (x_11 == x_12)) (.agg (ak x_14)),.opt (x_10 && (x_11 == x_12)) (.one (.bool (decide (x_13 = x_14)))),B ((x_10 && (x_11 == x_12)) && (decide (x_13 = x_14))),B ((x_10 && (x_11 == x_12)) && (decide (x_13 = x_14)))] [6] [] (s':=⟨[(6,B ((x_10 && (x_11 == x_12)) && (decide (x_13 = x_14))))],[]⟩) rfl ⟨fun _=>.p (aj (eh e16) s7 rfl rfl),fun _=>.p om,fun _=>by exact .guard x_10 1 [] (.plain rfl) (dM _) rfl rfl (fun g17=>trivial) (fun g17=>lp ao),fun _=>by exact .guard x_10 1 [] (.plain rfl) (dM _) rfl rfl (fun g18=>trivial) (fun g18=>lp ao),fun _=>by exact .guard x_10 4 [52,53] (.plain rfl) (dM _) rfl rfl (fun g19=>⟨g19,g19,trivial⟩) (fun g19=>aj (cH (gc e20 g19)) kV rfl rfl),fun _=>by exact .guard x_10 1 [] (.plain rfl) (dM _) rfl rfl (fun g21=>trivial) (fun g21=>lp ao),fun _=>by exact .guard x_10 1 [] (.plain rfl) (dM _) rfl rfl (fun g22=>trivial) (fun g22=>lp ao),fun _=>by exact .guard x_10 4 [55,56] (.plain rfl) (dM _) rfl rfl (fun g23=>⟨g23,g23,trivial⟩) (fun g23=>aj (iH (gc e24 g23)) goes17 rfl rfl),fun _=>by exact .guard x_10 3 [54,57] (.plain rfl) (dM _) rfl rfl (fun g25=>⟨g25,g25,trivial⟩) (fun g25=>qa und4 rfl rfl),fun _=>.p (aH (fun e=>e) rfl rfl rfl rfl),fun _=>.p om,fun _=>by exact .guard (x_10 && (x_11 == x_12)) 1 [] (.plain rfl) (dM _) rfl rfl (fun g26=>trivial) (fun g26=>lp ao),fun _=>by exact .guard (x_10 && (x_11 == x_12)) 1 [] (.plain rfl) (dM _) rfl rfl (fun g27=>trivial) (fun g27=>lp ao),fun _=>by exact .guard (x_10 && (x_11 == x_12)) 4 [61,62] (.plain rfl) (dM _) rfl rfl (fun g28=>⟨g28,g28,trivial⟩) (fun g28=>aj (fZ (gc e29 g28)) qE rfl rfl),fun _=>by exact .guard (x_10 && (x_11 == x_12)) 1 [] (.plain rfl) (dM _) rfl rfl (fun g30=>trivial) (fun g30=>lp ao),fun _=>by exact .guard (x_10 && (x_11 == x_12)) 1 [] (.plain rfl) (dM _) rfl rfl (fun g31=>trivial) (fun g31=>lp ao),fun _=>by exact .guard (x_10 && (x_11 == x_12)) 4 [64,65] (.plain rfl) (dM _) rfl rfl (fun g32=>⟨g32,g32,trivial⟩) (fun g32=>aj (iI (gc e33 g32)) goes19 rfl rfl),fun _=>by exact .guard (x_10 && (x_11 == x_12)) 3 [63,66] (.plain rfl) (dM _) rfl rfl (fun g34=>⟨g34,g34,trivial⟩) (fun g34=>k5 (mX x_13 x_14) rfl rfl),fun _=>.p (aH (fun e=>e) rfl rfl rfl rfl),fun _=>.p oa,trivial⟩ rfl rfl ?_
   refine ab.ret ?_
   obtain rfl:=Option.some.inj h
   refine Fin.ag ⟨[(6,_)],[]⟩ rfl (Fin.au [.one (.bool ((x_10 && (x_11 == x_12)) && (decide (x_13 = x_14))))] (.inl rfl) rfl (.cons (.tmp rfl) .nil) ⟨rfl,rfl⟩)
end Go.Proofs.YtagpkeehkcopaaaGreat

