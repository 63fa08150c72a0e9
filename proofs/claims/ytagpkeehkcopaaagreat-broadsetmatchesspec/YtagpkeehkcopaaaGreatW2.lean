/- printed walks -/
import Derived.Test.YtagpkeehkcopaaaGreatW1
namespace Go.Proofs.YtagpkeehkcopaaaGreat
open Go.Sk Go
set_option maxHeartbeats 4000000
set_option maxRecDepth 4000
set_option linter.unusedSimpArgs false
set_option linter.unusedVariables false
def cE (F:Nat) (s0:b9) (id0:Int) (b0:b8):Option (b9 × (List Int) × (List Int) × Int) :=
 (cx F b0).bind fun x_1=>if (!x_1) = true then (fE (⟨(⟨.leaf,0,0,0⟩:jr),(⟨.leaf,0,0,0⟩:jr)⟩:b9) fun x_2=>some (x_2,[],[],1)) else (Option.bind (cB F s0 id0) (dg fun x_3 x_4=>if (!x_4) = true then (fE (⟨(⟨.leaf,0,0,0⟩:jr),(⟨.leaf,0,0,0⟩:jr)⟩:b9) fun x_5=>some (x_5,[],[],5)) else (Option.bind (b5 F s0 id0) (dg fun x_6 x_7=>(cg F x_6 x_3.b).bind fun x_8=>(cg F x_6 b0).bind fun x_9=>Option.bind (b7 F x_6 id0 b0) (dg fun x_10 x_11=>(eH F x_9 x_8).bind fun x_12=>(eH F x_8 x_9).bind fun x_13=>some (x_10,x_12,x_13,x_11))))))
theorem hX {F:Nat} {s0:b9} {id0:Int} {b0:b8} {r:b9 × (List Int) × (List Int) × Int} (h:cE F s0 id0 b0 = some r):ar Tryz.prog [] 25 [] [.agg (aD s0),.one (.i id0),.agg (ao b0)] (Is [] (.dL [.agg (aD r.1),.one (.sl 1 (r.2.1.map eI)),.one (.sl 1 (r.2.2.1.map eI)),.one (.i r.2.2.2)])):=by
 unfold cE at h
 refine ar.intro 57 Tryz.func25 Tryz.ntmps25 rfl (by simp) fun E=>?_
 show ab _ E ⟨57,[],[],[]⟩ _ ⟨[(0,.b (.agg (aD s0))),(1,I id0),(2,.b (.agg (ao b0)))],[]⟩ _
 refine ab.seq (ab.aa ?_)
 refine Oc (bo (k:=101) rfl rfl) (Oc (bo (k:=102) rfl rfl) (Oc (aT (k:=103) dO rfl) (Oc oa (Oc oa (Oc oa ?_)))))
 refine ae.ai ⟨[(1,I id0),(3,Pt 101 0),(5,Pt 102 0),(6,Pt 103 0)],[(101,.box 49 (aD s0)),(102,.box 25 (ao b0)),(103,.box 49 [.tr af (.leaf),.cZ 0,.cZ 0,.cZ 0,.tr af (.leaf),.cZ 0,.cZ 0,.cZ 0])]⟩ rfl (ab.seq (ab.seq (ab.aa ?_)))
 refine Oc (lp aB) ?_
 obtain ⟨x_1,e1,h⟩:=aN h
 refine Oc (ak (dv e1) nf rfl rfl) (Oc (cS rfl) ?_)
 refine ae.ai ⟨[(1,_),(3,_),(5,_),(6,_),(18,B (!x_1))],[(101,_),(102,_),(103,_)]⟩ rfl (ab.ite h rfl (fun _ h=>?_) (fun _ h=>?_))
 ·refine ab.seq (ab.aa ?_)
  refine ae.mx aD h rfl (bR fR rfl rfl) (fun x_2 h=>?_)
  refine Oc (aA aI rfl rfl rfl rfl (Nat.le_of_ble_eq_true rfl) rfl) (Oc oa (Oc oa (Oc oa ?_)))
  refine ae.ai ⟨[(6,_),(7,.b (.one (.nil))),(8,.b (.one (.nil))),(9,I 1)],[(103,.box 49 (aD x_2))]⟩ rfl (ab.ret (Fin.au ?_))
  obtain rfl:=Option.some.inj h
  refine Fin.ag ⟨[(6,_),(7,_),(8,_),(9,_)],[(103,_)]⟩ rfl (Fin.gv 7 1 rfl (by decide) (Fin.gv 8 1 rfl (by decide) (Fin.aw [.agg (aD x_2),.one (.sl 1 ([].map eI)),.one (.sl 1 ([].map eI)),.one (.i 1)] (.inl rfl) rfl (.cons (.agg aI rfl rfl rfl rfl) (.cons (.tmp rfl) (.cons (.tmp rfl) (.cons (.tmp rfl) .nil)))) ⟨rfl,rfl⟩)))
 ·refine ab.skip (Fin.ag ⟨[(1,_),(3,_),(5,_),(6,_)],[(101,_),(102,_),(103,_)]⟩ rfl (Fin.then (ab.seq (ab.aa ?_))))
  refine Oc (lp aI) (Oc om ?_)
  obtain ⟨⟨x_3,x_4⟩,e2,h⟩:=aN h
  refine Oc (ak (ew e2) qv rfl rfl) (Oc om (Oc (aq rfl rfl) ?_))
  refine ae.ag ⟨[(1,_),(3,_),(5,_),(6,_),(20,.dL [.agg (ax x_3),.one (.bool x_4)]),(24,.b (.agg (ax x_3)))],[(101,_),(102,_),(103,_)]⟩ rfl (Oc (aq rfl rfl) (Oc (aT (k:=104) gl rfl) (Oc (aA bC rfl rfl rfl rfl (Nat.le_of_ble_eq_true rfl) rfl) (Oc oa ?_))))
  refine ae.ai ⟨[(1,_),(3,_),(5,_),(6,_),(10,Pt 104 0),(11,B x_4)],[(101,_),(102,_),(103,_),(104,.box 87 (ax x_3))]⟩ rfl (ab.seq (ab.seq (ab.aa ?_)))
  refine Oc om (Oc (cS rfl) ?_)
  refine ae.ai ⟨[(1,_),(3,_),(5,_),(6,_),(10,_),(27,B (!x_4))],[(101,_),(102,_),(103,_),(104,_)]⟩ rfl (ab.ite h rfl (fun _ h=>?_) (fun _ h=>?_))
  ·refine ab.seq (ab.aa ?_)
   refine ae.mx aD h rfl (bR fR rfl rfl) (fun x_5 h=>?_)
   refine Oc (aA aI rfl rfl rfl rfl (Nat.le_of_ble_eq_true rfl) rfl) (Oc oa (Oc oa (Oc oa ?_)))
   refine ae.ai ⟨[(6,_),(7,.b (.one (.nil))),(8,.b (.one (.nil))),(9,I 5)],[(103,.box 49 (aD x_5))]⟩ rfl (ab.ret (Fin.au ?_))
   obtain rfl:=Option.some.inj h
   refine Fin.ag ⟨[(6,_),(7,_),(8,_),(9,_)],[(103,_)]⟩ rfl (Fin.gv 7 1 rfl (by decide) (Fin.gv 8 1 rfl (by decide) (Fin.aw [.agg (aD x_5),.one (.sl 1 ([].map eI)),.one (.sl 1 ([].map eI)),.one (.i 5)] (.inl rfl) rfl (.cons (.agg aI rfl rfl rfl rfl) (.cons (.tmp rfl) (.cons (.tmp rfl) (.cons (.tmp rfl) .nil)))) ⟨rfl,rfl⟩)))
  ·refine ab.skip (Fin.ag ⟨[(1,_),(3,_),(5,_),(6,_),(10,_)],[(101,_),(102,_),(103,_),(104,_)]⟩ rfl (Fin.then (ab.seq (ab.aa ?_))))
   refine Oc (lp aI) (Oc om ?_)
   obtain ⟨⟨x_6,x_7⟩,e3,h⟩:=aN h
   refine Oc (ak (eO e3) sN rfl rfl) (Oc om (Oc (aq rfl rfl) ?_))
   refine ae.ag ⟨[(1,_),(5,_),(6,_),(10,_),(29,.dL [.agg (aD x_6),.one (.i x_7)]),(33,.b (.agg (aD x_6)))],[(102,_),(103,_),(104,_)]⟩ rfl (Oc (aq rfl rfl) (Oc (aT (k:=105) dO rfl) (Oc (aA aI rfl rfl rfl rfl (Nat.le_of_ble_eq_true rfl) rfl) (Oc oa ?_))))
   refine ae.ai ⟨[(1,_),(5,_),(6,_),(10,_),(12,Pt 105 0)],[(102,_),(103,_),(104,_),(105,.box 49 (aD x_6))]⟩ rfl (ab.seq ?_)
   obtain ⟨x_8,e4,h⟩:=aN h
   obtain ⟨x_9,e5,h⟩:=aN h
   refine ab.jP mixed [false,false,false,true,false,false,true,false,false] [.b (.agg (aD x_6)),Pt 104 1,.b (.agg (ao x_3.b)),.b (.row 106),.b (.agg (aD x_6)),.b (.agg (ao b0)),.b (.row 107),.b (.row 106),.b (.row 107)] [⟨[false,false,false,false,false,false,false,false,false],[(1,I id0),(5,Pt 102 0),(6,Pt 103 0),(10,Pt 104 0),(12,Pt 105 0)],[(102,.box 25 (ao b0)),(103,.box 49 [.tr af (.leaf),.cZ 0,.cZ 0,.cZ 0,.tr af (.leaf),.cZ 0,.cZ 0,.cZ 0]),(104,.box 87 (ax x_3)),(105,.box 49 (aD x_6))],[true,true,true,true,true,true,true,true,true],[],[6,7,8]⟩,⟨[false,false,false,true,false,false,false,false,false],[(1,I id0),(5,Pt 102 0),(6,Pt 103 0),(10,Pt 104 0),(12,Pt 105 0)],[(102,.box 25 (ao b0)),(103,.box 49 [.tr af (.leaf),.cZ 0,.cZ 0,.cZ 0,.tr af (.leaf),.cZ 0,.cZ 0,.cZ 0]),(104,.box 87 (ax x_3)),(105,.box 49 (aD x_6)),(106,.row 3 1 (x_8.map eI))],[true,true,true,true,true,true,true,true,true],[0,1,2,3],[7,8]⟩,⟨[false,false,false,true,false,false,true,false,false],[(1,I id0),(5,Pt 102 0),(6,Pt 103 0),(10,Pt 104 0),(12,Pt 105 0)],[(102,.box 25 (ao b0)),(103,.box 49 [.tr af (.leaf),.cZ 0,.cZ 0,.cZ 0,.tr af (.leaf),.cZ 0,.cZ 0,.cZ 0]),(104,.box 87 (ax x_3)),(105,.box 49 (aD x_6)),(106,.row 3 1 (x_8.map eI)),(107,.row 3 1 (x_9.map eI))],[true,true,true,true,true,true,true,true,true],[0,1,2,3,4,5,6],[]⟩] rfl (⟨by kernel_rfl,⟨⟨.b (.agg (aD x_6)),fun _=>rfl,fun _=>.p (by exact cu aI rfl rfl rfl rfl)⟩,⟨Pt 104 1,fun _=>rfl,fun _=>.p (by exact an gw rfl rfl)⟩,⟨.b (.agg (ao x_3.b)),fun _=>rfl,fun _=>.p (by exact cu aB rfl rfl rfl rfl)⟩,⟨_,[106],.b (.row 106),rfl,fun _=>rfl,rfl,rfl,fun _=>.sf [102,103,104,105,106] (by exact .p (by exact cz (own_a:=[]) ((dN e4).sw 51 106) qu rfl trivial rfl rfl)) (by exact rfl)⟩,⟨.b (.agg (aD x_6)),fun _=>rfl,fun _=>.p (by exact cu aI rfl rfl rfl rfl)⟩,⟨.b (.agg (ao b0)),fun _=>rfl,fun _=>.p (by exact cu aB rfl rfl rfl rfl)⟩,trivial,trivial,trivial,trivial⟩,⟨by kernel_rfl,⟨trivial,trivial,trivial,trivial,⟨.b (.agg (aD x_6)),fun _=>rfl,fun _=>.p (by exact cu aI rfl rfl rfl rfl)⟩,⟨.b (.agg (ao b0)),fun _=>rfl,fun _=>.p (by exact cu aB rfl rfl rfl rfl)⟩,⟨_,[107],.b (.row 107),rfl,fun _=>rfl,rfl,rfl,fun _=>.sf [102,103,104,105,106,107] (by exact .p (by exact cz (own_a:=[]) ((dN e5).sw 51 107) qu rfl trivial rfl rfl)) (by exact rfl)⟩,trivial,trivial,trivial⟩,⟨by kernel_rfl,⟨trivial,trivial,trivial,trivial,trivial,trivial,trivial,⟨.b (.row 106),fun _=>rfl,fun _=>.p (by exact bH rfl)⟩,⟨.b (.row 107),fun _=>rfl,fun _=>.p (by exact bH rfl)⟩,trivial⟩,trivial⟩⟩⟩) rfl rfl rfl [1,5,6,12,14,15] [102,103,105,106,107] (s':=⟨[(1,_),(5,_),(6,_),(12,_),(14,.b (.row 106)),(15,.b (.row 107))],[(102,_),(103,_),(105,_),(106,.row 3 1 (x_8.map eI)),(107,.row 3 1 (x_9.map eI))]⟩) rfl ?_
   refine ab.seq (ab.aa ?_)
   refine Oc (lp aI) (Oc om (Oc (lp aB) ?_))
   obtain ⟨⟨x_10,x_11⟩,e6,h⟩:=aN h
   refine Oc (ak (c4 e6) na rfl rfl) (Oc om ?_)
   refine ae.ag ⟨[(6,_),(14,_),(15,_),(42,.dL [.agg (aD x_10),.one (.i x_11)])],[(103,_),(106,_),(107,_)]⟩ rfl (Oc (aq rfl rfl) (Oc (aq rfl rfl) (Oc (aA aI rfl rfl rfl rfl (Nat.le_of_ble_eq_true rfl) rfl) (Oc oa ?_))))
   refine ae.ai ⟨[(6,Pt 103 0),(9,I x_11),(14,.b (.row 106)),(15,.b (.row 107))],[(103,.box 49 (aD x_10)),(106,.row 3 1 (x_8.map eI)),(107,.row 3 1 (x_9.map eI))]⟩ rfl (ab.seq (ab.cU 107 rfl (ab.cU 106 rfl (ab.ag ⟨[(6,_),(9,_),(14,.b (.one (.sl 1 (x_8.map eI)))),(15,.b (.one (.sl 1 (x_9.map eI))))],[(103,_)]⟩ rfl ?_))))
   obtain ⟨x_12,e7,h⟩:=aN h
   obtain ⟨x_13,e8,h⟩:=aN h
   refine ab.jP mixed [false,false,false,false,false,false,false,false,true,false,false,true] [.b (.agg (aD x_10)),.b (.one (.sl 1 (x_9.map eI))),.b (.one (.sl 1 (x_8.map eI))),.b (.one (.sl 1 (x_12.map eI))),.b (.one (.sl 1 (x_8.map eI))),.b (.one (.sl 1 (x_9.map eI))),.b (.one (.sl 1 (x_13.map eI))),I x_11,B true,.b (.one (.sl 1 (x_12.map eI))),.b (.one (.sl 1 (x_13.map eI))),I x_11] [⟨[false,false,false,false,false,false,false,false,false,false,false,false],[(6,Pt 103 0),(9,I x_11),(14,.b (.one (.sl 1 (x_8.map eI)))),(15,.b (.one (.sl 1 (x_9.map eI))))],[(103,.box 49 (aD x_10))],[true,true,true,true,true,true,true,true,true,true,true,true],[],[9,10,11]⟩,⟨[false,false,false,false,false,false,false,false,true,false,false,false],[(6,Pt 103 0),(9,I x_11),(14,.b (.one (.sl 1 (x_8.map eI)))),(15,.b (.one (.sl 1 (x_9.map eI))))],[(103,.box 49 (aD x_10))],[true,true,true,true,true,true,true,true,true,true,true,true],[0,1,2,3,4,5,6,8],[]⟩,⟨[false,false,false,false,false,false,false,false,true,false,false,true],[(6,Pt 103 0),(14,.b (.one (.sl 1 (x_8.map eI)))),(15,.b (.one (.sl 1 (x_9.map eI))))],[(103,.box 49 (aD x_10))],[true,true,true,true,true,true,true,true,true,true,true,true],[0,1,2,3,4,5,6,7,8,9,10,11],[]⟩] rfl (⟨by kernel_rfl,⟨⟨.b (.agg (aD x_10)),fun _=>rfl,fun _=>.p (by exact cu aI rfl rfl rfl rfl)⟩,⟨.b (.one (.sl 1 (x_9.map eI))),fun _=>rfl,fun _=>.p (by exact aR rfl)⟩,⟨.b (.one (.sl 1 (x_8.map eI))),fun _=>rfl,fun _=>.p (by exact aR rfl)⟩,⟨.b (.one (.sl 1 (x_12.map eI))),fun _=>rfl,fun _=>.p (by exact ak (jC 0 e7).oH vd rfl rfl)⟩,⟨.b (.one (.sl 1 (x_8.map eI))),fun _=>rfl,fun _=>.p (by exact aR rfl)⟩,⟨.b (.one (.sl 1 (x_9.map eI))),fun _=>rfl,fun _=>.p (by exact aR rfl)⟩,⟨.b (.one (.sl 1 (x_13.map eI))),fun _=>rfl,fun _=>.p (by exact ak (jC 0 e8).oH vd rfl rfl)⟩,⟨I x_11,fun _=>rfl,fun _=>.p (by exact aR rfl)⟩,⟨_,[],.b (.one .any),rfl,(fun e=>by simp at e),rfl,rfl,fun _=>.sf [103] (by exact .p (by exact aA aI rfl rfl rfl rfl (Nat.le_of_ble_eq_true rfl) rfl)) (by exact rfl)⟩,trivial,trivial,trivial,trivial⟩,⟨by kernel_rfl,⟨trivial,trivial,trivial,trivial,trivial,trivial,trivial,⟨I x_11,fun _=>rfl,fun _=>.p (by exact aR rfl)⟩,trivial,⟨.b (.one (.sl 1 (x_12.map eI))),fun _=>rfl,fun _=>.p (by exact bH rfl)⟩,⟨.b (.one (.sl 1 (x_13.map eI))),fun _=>rfl,fun _=>.p (by exact bH rfl)⟩,⟨_,[],I x_11,rfl,fun _=>rfl,rfl,rfl,fun _=>.sf [103] (by exact .p (by exact bH rfl)) (by exact rfl)⟩,trivial⟩,⟨by kernel_rfl,⟨trivial,trivial,trivial,trivial,trivial,trivial,trivial,trivial,trivial,trivial,trivial,trivial,trivial⟩,trivial⟩⟩⟩) rfl rfl rfl [6,7,8,9] [103] (s':=⟨[(6,_),(7,.b (.one (.sl 1 (x_12.map eI)))),(8,.b (.one (.sl 1 (x_13.map eI)))),(9,_)],[(103,_)]⟩) rfl ?_
   refine ab.ret ?_
   obtain rfl:=Option.some.inj h
   refine Fin.ag ⟨[(6,_),(7,_),(8,_),(9,_)],[(103,_)]⟩ rfl (Fin.aw [.agg (aD x_10),.one (.sl 1 (x_12.map eI)),.one (.sl 1 (x_13.map eI)),.one (.i x_11)] (.inl rfl) rfl (.cons (.agg aI rfl rfl rfl rfl) (.cons (.tmp rfl) (.cons (.tmp rfl) (.cons (.tmp rfl) .nil)))) ⟨rfl,rfl⟩)
def bg (F:Nat) (a0:List Int) (b0:List Int):Option Bool :=
 if (decide ((a0.length:Int) ≠ (b0.length:Int))) = true then (some false) else (Option.bind (iter F (fun i_1=>if (decide (i_1 < (a0.length:Int))) = true then ((a8 a0 i_1).bind fun x_2=>(a8 b0 i_1).bind fun x_3=>if (decide (x_2 ≠ x_3)) = true then (some (.inr (.inr false))) else (some (.inl (IntKind.i64.wrap (i_1 + 1))))) else (some (.inr (.inl ())))) 0) (cy (fun _=>some true) (fun y=>some y)))
theorem bW {F:Nat} {a0:List Int} {b0:List Int} {r:Bool} (h:bg F a0 b0 = some r):ar Tryz.prog [] 32 [] [.one (.sl 1 (a0.map eI)),.one (.sl 1 (b0.map eI))] (Is [] (.b (.one (.bool r)))):=by
 unfold bg at h
 refine ar.intro 26 Tryz.func32 Tryz.ntmps32 rfl (by simp) fun E=>?_
 show ab _ E ⟨26,[],[],[]⟩ _ ⟨[(0,.b (.one (.sl 1 (a0.map eI)))),(1,.b (.one (.sl 1 (b0.map eI))))],[]⟩ _
 refine ab.seq (ab.aa ?_)
 refine Oc oa (ae.ai ⟨[(0,.b (.one (.sl 1 (a0.map eI)))),(1,.b (.one (.sl 1 (b0.map eI))))],[]⟩ rfl (ab.seq (ab.seq (ab.aa ?_))))
 refine Oc om (Oc (ba fO rfl (List.length_map _)) (Oc om (Oc (ba fO rfl (List.length_map _)) (Oc (jf rfl rfl) ?_))))
 refine ae.ai ⟨[(0,_),(1,_),(10,B (decide ((a0.length:Int) ≠ (b0.length:Int))))],[]⟩ rfl (ab.ite h rfl (fun _ h=>?_) (fun _ h=>?_))
 ·refine ab.seq (ab.aa ?_)
  refine Oc oa (ae.ai ⟨[(4,B false)],[]⟩ rfl (ab.ret (Fin.au ?_)))
  obtain rfl:=Option.some.inj h
  refine Fin.ag ⟨[(4,_)],[]⟩ rfl (Fin.aw [.one (.bool false)] (.inl rfl) rfl (.cons (.tmp rfl) .nil) ⟨rfl,rfl⟩)
 ·refine ab.skip (Fin.ag ⟨[(0,_),(1,_)],[]⟩ rfl (Fin.then ?_))
  obtain ⟨v1,h2,h⟩:=aN h
  refine ab.c6 (v:=v1) (fun (_:Unit)=>⟨[],[]⟩) (fun z=>.inl z) ?_ ?_
  ·refine ab.seq (ab.aa ?_)
   refine Oc oa (ae.ai ⟨[(0,_),(1,_),(5,I 0)],[]⟩ rfl (ab.block (ab.c5 h2 (fun (i_1:Int)=>⟨[(0,.b (.one (.sl 1 (a0.map eI)))),(1,.b (.one (.sl 1 (b0.map eI)))),(5,I i_1)],[]⟩) [0,1,5] [] rfl ?_)))
   rintro i_1 o3 h4 hy5
   refine ab.seq (ab.seq (ab.aa ?_))
   refine Oc om (Oc om (Oc (ba fO rfl (List.length_map _)) (Oc (bf rfl rfl) ?_)))
   refine ae.ai ⟨[(0,_),(1,_),(5,_),(14,B (decide (i_1 < (a0.length:Int))))],[]⟩ rfl (ab.ite h4 rfl (fun _ h4=>?_) (fun _ h4=>?_))
   ·refine ab.skip (Fin.ag ⟨[(0,_),(1,_),(5,_)],[]⟩ rfl (Fin.then (ab.seq (ab.block (ab.seq ?_)))))
    refine ab.ag ⟨[(0,_),(1,_),(5,_)],[]⟩ rfl ?_
    obtain ⟨x_2,e6,h4⟩:=aN h4
    obtain ⟨x_3,e7,h4⟩:=aN h4
    refine ab.bD mixed 9 [.b (.one (.sl 1 (a0.map eI))),I i_1,.b (.aO [.i x_2]),I x_2,.b (.one (.sl 1 (b0.map eI))),I i_1,.b (.aO [.i x_3]),I x_3,B (decide (x_2 ≠ x_3))] [0,1,5,25] [] (s':=⟨[(0,_),(1,_),(5,_),(25,B (decide (x_2 ≠ x_3)))],[]⟩) rfl ⟨fun _=>.p om,fun _=>.p om,fun _=>.p (aM bL (aX e6) (bn (e:=eI) e6) rfl rfl),fun _=>.p (ay aK rfl rfl),fun _=>.p om,fun _=>.p om,fun _=>.p (aM bL (aX e7) (bn (e:=eI) e7) rfl rfl),fun _=>.p (ay aK rfl rfl),fun _=>.p (jf rfl rfl),trivial⟩ rfl rfl (ab.ite h4 rfl (fun _ h4=>?_) (fun _ h4=>?_))
    ·refine ab.seq (ab.aa ?_)
     refine Oc oa (ae.ai ⟨[(4,B false)],[]⟩ rfl (ab.ret (Fin.aP (Fin.au ?_))))
     obtain rfl:=hy5 _ (Option.some.inj h4).symm
     refine Fin.au (Fin.aP (Fin.au ?_))
     obtain rfl:=Option.some.inj h
     refine Fin.ag ⟨[(4,_)],[]⟩ rfl (Fin.aw [.one (.bool false)] (.inl rfl) rfl (.cons (.tmp rfl) .nil) ⟨rfl,rfl⟩)
    ·refine ab.skip (Fin.av (Fin.ag ⟨[(0,_),(1,_),(5,_)],[]⟩ rfl (Fin.then (ab.aa ?_))))
     refine Oc om (Oc (bA rfl rfl) (Oc oa ?_))
     refine ae.nil ?_
     exact Fin.bZ [0,1,5] [] (IntKind.i64.wrap (i_1 + 1)) (Option.some.inj h4) rfl
   ·refine ab.exit (Fin.aC ?_)
    obtain rfl:=hy5 _ (Option.some.inj h4).symm
    refine Fin.aC (Fin.aS ?_)
    exact Fin.join [] [] () rfl rfl
  ·rintro _ hv
   subst v1
   refine ab.seq (ab.aa ?_)
   refine Oc oa (ae.ai ⟨[(4,B true)],[]⟩ rfl (ab.ret ?_))
   obtain rfl:=Option.some.inj h
   refine Fin.ag ⟨[(4,_)],[]⟩ rfl (Fin.aw [.one (.bool true)] (.inl rfl) rfl (.cons (.tmp rfl) .nil) ⟨rfl,rfl⟩)
def cQ (F:Nat) (s0:b9):Option (List A2) :=
 Option.bind (oD (fun _=>some true) s0.ids.root) (fun xs_1=>Option.bind (each (fun outf0_3=>fun x_2=>(cg F s0 x_2.b).bind fun x_4=>Option.bind (iter F (dg fun outf0_5 x_6=>if (decide (x_6 < (x_4.length:Int))) = true then (Option.bind ((a8 x_4 x_6).bind fun x_9=>if (decide (x_2.id < x_9)) = true then ((ee outf0_5 [(⟨x_2.id,x_9⟩:A2)]).bind fun x_10=>some x_10) else (some outf0_5)) (fun outf0_8=>some (.inl (outf0_8,IntKind.i64.wrap (x_6 + 1))))) else (some (.inr outf0_5))) (outf0_3,0)) (fun outf0_7=>some (.inl outf0_7))) (xs_1) []) (cy (fun outf0_3=>some outf0_3) (fun (_:Unit)=>none)))
theorem fN {F:Nat} {s0:b9} {r:(List A2)} (h:cQ F s0 = some r):ar Tryz.prog [] 26 [] [.agg (aD s0)] (Is [(51,.row 40 2 (r.map (ec .i64)))] (.b (.row 51))):=by
 unfold cQ at h
 refine ar.sF 34 Tryz.func26 Tryz.ntmps26 rfl (by simp) fun E=>?_
 show ab _ E ⟨34,[],[],[]⟩ _ ⟨[(0,.b (.agg (aD s0)))],[]⟩ _
 refine ab.seq (ab.aa ?_)
 refine Oc (bo (k:=101) rfl rfl) (Oc oa ?_)
 refine ae.ai ⟨[(1,Pt 101 0)],[(101,.box 49 (aD s0))]⟩ rfl (ab.seq (ab.aa ?_))
 refine Oc (aT (k:=102) vH rfl) (ae.ai ⟨[(1,_),(3,Pt 102 0)],[(101,_),(102,.box 35 [.nil])]⟩ rfl (ab.seq (ab.seq (ab.aa ?_))))
 refine Oc (an jw rfl rfl) (Oc (an fQ rfl rfl) (Oc (aF bI rfl rfl rfl) (Oc (ak pb sJ rfl rfl) ?_)))
 refine ae.ai ⟨[(1,_),(3,_),(10,.b (.one (.fq 77 [CP.rp [.tr af s0.ids.root],CP.rp [.raw (.func (.func 58) #[] #[])]])))],[(101,_),(102,_)]⟩ rfl ?_
 obtain ⟨xs_1,e1,h⟩:=aN h
 refine ab.ag ⟨[(1,Pt 101 0),(3,Pt 102 0),(10,.b (.one (.fq 77 [CP.rp [.tr af s0.ids.root],CP.rp [.raw (.func (.func 58) #[] #[])]])))],[(101,.box 49 (aD s0)),(102,.box 35 [.nil])]⟩ rfl (ab.uD 102 rfl (ab.gi 102 0 106 2 40 rfl rfl (by decide) (by decide) rfl (ab.ag ⟨[(1,_),(3,_),(10,_)],[(101,_),(102,.bK 35 [.row 106]),(106,.row 40 2 ([].map (ec .i64)))]⟩ rfl (ab.sv _ uc _ _ (fun (outf0_3:List A2)=>[(101,.box 49 (aD s0)),(102,.bK 35 [.row 106]),(106,.row 40 2 (outf0_3.map (ec .i64)))]) (fun (_:Unit)=>([]:List (Nat × OC))) (fun (outf0_3:List A2)=>fun x_2=>⟨[(1,Pt 101 0),(3,Pt 102 0),(4,Pt 108 0)],[(101,.box 49 (aD s0)),(102,.bK 35 [.row 106]),(106,.row 40 2 (outf0_3.map (ec .i64))),(108,.box 87 (ax x_2))]⟩) h (pc mR e1) sI rfl rfl rfl (fun _=>rfl) (fun _=>rfl) (fun _=>rfl) (fun _ _=>rfl) (fun _ _=>rfl) rfl (fun _=>rfl) ?_ ?_ ?_ ?_))))
 ·rintro E l outf0_3 x_2 z _ h2
  refine a6.keep [1,3,10,11] [101,102,106] (s':=⟨[(1,Pt 101 0),(3,Pt 102 0),(10,.b (.one (.fq 77 [CP.rp [.tr af s0.ids.root],CP.rp [.raw (.func (.func 58) #[] #[])]]))),(11,.b (.agg (ax x_2)))],[(101,.box 49 (aD s0)),(102,.bK 35 [.row 106]),(106,.row 40 2 (outf0_3.map (ec .i64)))]⟩) rfl (a6.aa (.inr ⟨_,rfl⟩) (Oc (aT (k:=108) gl rfl) (Oc (aA bC rfl rfl rfl rfl (Nat.le_of_ble_eq_true rfl) rfl) ?_)))
  refine ae.nil ?_
  exact Fin.ag ⟨[(1,_),(3,_),(4,Pt 108 0)],[(101,_),(102,_),(106,_),(108,.box 87 (ax x_2))]⟩ rfl (fun a w hr=>hr)
 ·rintro E l outf0_3 x_2 z _ h2
  refine a6.block (a6.seq (a6.aa (.inr ⟨_,rfl⟩) (Oc (lp aI) (Oc (an gw rfl rfl) (Oc (lp aB) ?_)))))
  obtain ⟨x_4,e3,h2⟩:=aN h2
  refine Oc (cz (own_a:=[]) ((dN e3).sw 51 109) qu rfl trivial rfl rfl) (Oc (fi fO rfl rfl (List.length_map _)) (Oc om ?_))
  refine ae.nil (Fin.ag ⟨[(1,Pt 101 0),(3,Pt 102 0),(4,Pt 108 0),(15,.b (.row 109)),(16,I (x_4.length:Int)),(17,I 0)],[(101,.box 49 (aD s0)),(102,.bK 35 [.row 106]),(106,.row 40 2 (outf0_3.map (ec .i64))),(108,.box 87 (ax x_2)),(109,.row 3 1 (x_4.map eI))]⟩ rfl (Fin.gZ ?_ (fun ⟨_,_,hl⟩=>hl)))
  refine a6.block ?_
  obtain ⟨v4,h5,h2⟩:=aN h2
  refine a6.c5 h5 (dg fun (outf0_5:List A2) (x_6:Int)=>⟨[(1,Pt 101 0),(3,Pt 102 0),(4,Pt 108 0),(15,.b (.row 109)),(16,I (x_4.length:Int)),(17,I x_6)],[(101,.box 49 (aD s0)),(102,.bK 35 [.row 106]),(106,.row 40 2 (outf0_5.map (ec .i64))),(108,.box 87 (ax x_2)),(109,.row 3 1 (x_4.map eI))]⟩) [1,3,4,15,16,17] [101,102,106,108,109] rfl ?_
  rintro ⟨outf0_5,x_6⟩ o6 h7 hy8
  refine a6.seq (a6.aa (.inr ⟨_,rfl⟩) (Oc (bf rfl rfl) (ae.nil (Fin.ag ⟨[(1,_),(3,_),(4,_),(15,_),(16,_),(17,I x_6),(18,B (decide (x_6 < (x_4.length:Int))))],[(101,_),(102,_),(106,.row 40 2 (outf0_5.map (ec .i64))),(108,_),(109,_)]⟩ rfl (Fin.gZ ?_ (fun ⟨_,_,hl⟩=>hl))))))
  refine a6.seq (a6.ite h7 rfl (fun _ h7=>?_) (fun _ h7=>?_))
  ·refine a6.skip (Fin.ag ⟨[(1,_),(3,_),(4,_),(15,_),(16,_),(17,_)],[(101,_),(102,_),(106,_),(108,_),(109,_)]⟩ rfl (Fin.gZ ?_ (fun ⟨_,_,hl⟩=>hl)))
   obtain ⟨v9,h10,h7⟩:=aN h7
   refine a6.c6 (v:=v9) (fun (outf0_8:List A2)=>⟨[(1,Pt 101 0),(3,Pt 102 0),(4,Pt 108 0),(15,.b (.row 109)),(16,I (x_4.length:Int)),(17,I x_6)],[(101,.box 49 (aD s0)),(102,.bK 35 [.row 106]),(106,.row 40 2 (outf0_8.map (ec .i64))),(108,.box 87 (ax x_2)),(109,.row 3 1 (x_4.map eI))]⟩) (fun z=>z) ?_ ?_
   ·refine a6.block (a6.seq (a6.aa (.inr ⟨_,rfl⟩) ?_))
    obtain ⟨x_9,e11,h10⟩:=aN h10
    refine Oc (eu bL (aX e11) (jL e11) rfl rfl rfl rfl) (Oc (gy (i:=(x_6:Int).toNat) (f:=0) aK rfl rfl rfl (bn (e:=eI) e11) rfl) (Oc oa ?_))
    refine ae.nil (Fin.ag ⟨[(1,_),(3,_),(4,_),(6,I x_9),(15,_),(16,_),(17,_)],[(101,_),(102,_),(106,_),(108,_),(109,_)]⟩ rfl (Fin.gZ ?_ (fun ⟨_,_,hl⟩=>hl)))
    refine a6.seq (a6.aa (.inr ⟨_,rfl⟩) (Oc om (Oc (an dR rfl rfl) (Oc (aF aK rfl rfl rfl) (Oc (iD rfl rfl) ?_)))))
    refine ae.nil (Fin.ag ⟨[(1,_),(3,_),(4,_),(6,_),(15,_),(16,_),(17,_),(24,B (decide (x_2.id < x_9)))],[(101,_),(102,_),(106,_),(108,_),(109,_)]⟩ rfl (Fin.gZ ?_ (fun ⟨_,_,hl⟩=>hl)))
    refine a6.ite h10 rfl (fun _ h10=>?_) (fun _ h10=>?_)
    ·refine a6.aa (.inr ⟨_,rfl⟩) (Oc (er qE rfl rfl rfl) (Oc (an dR rfl rfl) (Oc (aF aK rfl rfl rfl) (Oc om (Oc (dS fh rfl rfl) (Oc (bp (k:=110) (es:=[(⟨x_2.id,x_9⟩:A2)].map (ec .i64)) gV rfl rfl (bM fun _=>rfl) rfl (by decide) (by decide) rfl) ?_))))))
     refine ae.forget 102 0 rfl ?_
     obtain ⟨x_10,e12,h10⟩:=aN h10
     refine Oc (cP gV (iC e12) (iB e12) rfl rfl rfl rfl (ek e12) rfl) (Oc (gQ qE rfl rfl rfl rfl (Nat.le_of_ble_eq_true rfl) rfl) ?_)
     refine ae.nil (Fin.av ?_)
     exact Fin.join [1,3,4,15,16,17] [101,102,106,108,109] x_10 (Option.some.inj h10) rfl
    ·refine a6.skip (Fin.av ?_)
     exact Fin.join [1,3,4,15,16,17] [101,102,106,108,109] outf0_5 (Option.some.inj h10) rfl
   ·rintro outf0_8 hv
    subst v9
    refine a6.aa (.inr ⟨_,rfl⟩) (Oc (bA rfl rfl) (Oc om ?_))
    refine ae.nil ?_
    exact Fin.bZ [1,3,4,15,16,17] [101,102,106,108,109] (outf0_8,IntKind.i64.wrap (x_6 + 1)) (Option.some.inj h7) rfl
  ·refine a6.exit (Fin.aC ?_)
   obtain rfl:=hy8 _ (Option.some.inj h7).symm
   refine Fin.aC (Fin.aS (Fin.av ?_))
   obtain rfl:=Option.some.inj h2
   exact Fin.ag ⟨[],[(101,_),(102,_),(106,_)]⟩ rfl (fun a w hr=>⟨_,rfl,hr⟩)
 ·rintro E D outf0_3 h13
  refine ab.seq (ab.aa ?_)
  refine Oc (er qE rfl rfl rfl) (Oc oa ?_)
  refine ae.ai ⟨[(2,.b (.row 106))],[(106,.row 40 2 (outf0_3.map (ec .i64)))]⟩ rfl (ab.ret ?_)
  obtain rfl:=Option.some.inj h13
  refine Fin.ag ⟨[(2,.b (.row 106))],[(106,.row 40 2 (outf0_3.map (ec .i64)))]⟩ rfl (Fin.rename 106 51 rfl (by decide) rfl (Fin.ag ⟨[(2,.b (.row 51))],[(51,.row 40 2 (outf0_3.map (ec .i64)))]⟩ rfl ?_))
  exact Fin.result [.row 51] (.inl rfl) rfl (.cons (.tmp rfl) .nil) ⟨rfl,rfl⟩
 ·rintro E D ⟨⟩ h13
  cases h13
def ck (F:Nat):Option Bool :=
 (cp F 0 0 0 4 4 4).bind fun x_1=>(cp F 4 4 4 6 6 6).bind fun x_2=>(cp F 5 0 0 9 9 3).bind fun x_3=>(cJ F x_1 x_2).bind fun x_4=>(br x_4 (cJ F x_1 x_3)).bind fun x_5=>(br (x_4 && (!x_5)) (cJ F x_2 x_3)).bind fun x_6=>(br ((x_4 && (!x_5)) && (!x_6)) (iq F x_1 x_3)).bind fun x_7=>(br ((x_4 && (!x_5)) && (!x_6)) (cp F 0 0 0 9 9 4)).bind fun x_8=>Option.bind (ir F x_1 1) (dg fun x_9 x_10=>Option.bind (ir F x_3 1) (dg fun x_11 x_12=>Option.bind (fC F [x_1,x_2,x_3]) (dg fun x_13 x_14=>Option.bind (fC F [x_1,x_11,x_2]) (dg fun x_15 x_16=>fE (((decide (x_10 = 0)) && (decide (x_12 = 0))) && (decide (x_14 = 0))) fun x_17=>(bd F x_13 [(⟨0,1⟩:A2)]).bind fun x_18=>(br x_18 (bd F x_15 [(⟨0,1⟩:A2),(⟨0,2⟩:A2),(⟨1,2⟩:A2)])).bind fun x_19=>(gR F).bind fun x_20=>Option.bind (b7 F x_20 7 x_1) (dg fun x_21 x_22=>Option.bind (b7 F x_21 3 x_2) (dg fun x_23 x_24=>Option.bind (cF F x_23 x_1) (dg fun x_25 x_26=>Option.bind (cF F x_23 x_3) (dg fun x_27 x_28=>Option.bind (cE F x_23 3 x_3) (un4 fun x_29 x_30 x_31 x_32=>Option.bind (b7 F x_29 3 x_1) (dg fun x_33 x_34=>Option.bind (b5 F x_29 5) (dg fun x_35 x_36=>fE (((decide (x_22 = 0)) && (decide (x_24 = 0))) && (decide (x_26 = 0))) fun x_37=>(br ((x_37 && (decide (x_28 = 0))) && (decide (x_32 = 0))) (bg F x_25 [3,7])).bind fun x_38=>fE (((x_37 && (decide (x_28 = 0))) && (decide (x_32 = 0))) && x_38) fun x_39=>fE ((x_39 && (decide ((x_27.length:Int) = 0))) && (decide ((x_30.length:Int) = 0))) fun x_40=>(br x_40 (bg F x_31 [7])).bind fun x_41=>(br ((((x_4 && (!x_5)) && (!x_6)) && (decide (x_7 = x_8))) && (x_17 && (decide (x_16 = 0)))) (cp F (-1) (-1) (-1) 5 5 5)).bind fun x_42=>(br (((((((x_4 && (!x_5)) && (!x_6)) && (decide (x_7 = x_8))) && (x_17 && (decide (x_16 = 0)))) && (decide (x_9 = x_42))) && (x_18 && x_19)) && (x_40 && x_41)) (cQ F x_29)).bind fun x_43=>(br ((((((((x_4 && (!x_5)) && (!x_6)) && (decide (x_7 = x_8))) && (x_17 && (decide (x_16 = 0)))) && (decide (x_9 = x_42))) && (x_18 && x_19)) && (x_40 && x_41)) && (decide ((x_43.length:Int) = 0))) (cQ F x_23)).bind fun x_44=>(br ((((((((x_4 && (!x_5)) && (!x_6)) && (decide (x_7 = x_8))) && (x_17 && (decide (x_16 = 0)))) && (decide (x_9 = x_42))) && (x_18 && x_19)) && (x_40 && x_41)) && (decide ((x_43.length:Int) = 0))) (bd F x_44 [(⟨3,7⟩:A2)])).bind fun x_45=>some (((((((((((x_4 && (!x_5)) && (!x_6)) && (decide (x_7 = x_8))) && (x_17 && (decide (x_16 = 0)))) && (decide (x_9 = x_42))) && (x_18 && x_19)) && (x_40 && x_41)) && (decide ((x_43.length:Int) = 0))) && x_45) && (decide (x_34 = 6))) && (decide (x_36 = 5))))))))))))))
theorem fo {F:Nat} {r:Bool} (h:ck F = some r):ar Tryz.prog [] 15 [] [] (Is [] (.b (.one (.bool r)))):=by
 unfold ck at h
 refine ar.intro 225 Tryz.func15 Tryz.ntmps15 rfl (by simp) fun E=>?_
 show ab _ E ⟨225,[],[],[]⟩ _ ⟨[],[]⟩ _
 refine ab.seq (ab.aa ?_)
 refine Oc oa (ae.ai ⟨[],[]⟩ rfl (ab.seq (ab.aa ?_)))
 obtain ⟨x_1,e1,h⟩:=aN h
 refine Oc (ak (cM e1) oM rfl rfl) (Oc (aT (k:=101) eC rfl) (Oc (aA aB rfl rfl rfl rfl (Nat.le_of_ble_eq_true rfl) rfl) ?_))
 refine ae.ai ⟨[(1,Pt 101 0)],[(101,.box 25 (ao x_1))]⟩ rfl (ab.seq (ab.aa ?_))
 obtain ⟨x_2,e2,h⟩:=aN h
 refine Oc (ak (cM e2) oM rfl rfl) (Oc (aT (k:=102) eC rfl) (Oc (aA aB rfl rfl rfl rfl (Nat.le_of_ble_eq_true rfl) rfl) ?_))
 refine ae.ai ⟨[(1,_),(2,Pt 102 0)],[(101,_),(102,.box 25 (ao x_2))]⟩ rfl (ab.seq (ab.aa ?_))
 obtain ⟨x_3,e3,h⟩:=aN h
 refine Oc (ak (cM e3) oM rfl rfl) (Oc (aT (k:=103) eC rfl) (Oc (aA aB rfl rfl rfl rfl (Nat.le_of_ble_eq_true rfl) rfl) ?_))
 refine ae.ai ⟨[(1,_),(2,_),(3,Pt 103 0)],[(101,_),(102,_),(103,.box 25 (ao x_3))]⟩ rfl (ab.seq (ab.aa ?_))
 refine Oc (lp aB) (Oc (lp aB) ?_)
 obtain ⟨x_4,e4,h⟩:=aN h
 refine Oc (ak (dE e4) nc rfl rfl) (Oc om ?_)
 refine eU x_4 [] (fun g5=>trivial) (fun g5=>lp aB) (ae.ag ⟨[(1,_),(2,_),(3,_),(37,B x_4),(38,.opt x_4 (.agg (ao x_1)))],[(101,_),(102,_),(103,_)]⟩ rfl (eU x_4 [] (fun g6=>by exact trivial) (fun g6=>lp aB) ?_))
 obtain ⟨x_5,e8,h⟩:=aN h
 refine eU x_4 [38,39] (fun g7=>⟨g7,g7,trivial⟩) (fun g7=>ak (dE (gc e8 g7)) nc rfl rfl) (eU x_4 [40] (fun g9=>⟨g9,trivial⟩) (fun g9=>cS rfl) (Oc (aL (fun e=>e) rfl rfl rfl rfl) (Oc om ?_)))
 refine eU (x_4 && (!x_5)) [] (fun g10=>trivial) (fun g10=>lp aB) (ae.ag ⟨[(1,_),(2,_),(3,_),(43,B (x_4 && (!x_5))),(44,.opt (x_4 && (!x_5)) (.agg (ao x_2)))],[(101,_),(102,_),(103,_)]⟩ rfl (eU (x_4 && (!x_5)) [] (fun g11=>by exact trivial) (fun g11=>lp aB) ?_))
 obtain ⟨x_6,e13,h⟩:=aN h
 refine eU (x_4 && (!x_5)) [44,45] (fun g12=>⟨g12,g12,trivial⟩) (fun g12=>ak (dE (gc e13 g12)) nc rfl rfl) (eU (x_4 && (!x_5)) [46] (fun g14=>⟨g14,trivial⟩) (fun g14=>cS rfl) (Oc (aL (fun e=>e) rfl rfl rfl rfl) (Oc om ?_)))
 refine eU ((x_4 && (!x_5)) && (!x_6)) [] (fun g15=>trivial) (fun g15=>lp aB) (ae.ag ⟨[(1,_),(2,_),(3,_),(49,B ((x_4 && (!x_5)) && (!x_6))),(50,.opt ((x_4 && (!x_5)) && (!x_6)) (.agg (ao x_1)))],[(101,_),(102,_),(103,_)]⟩ rfl (eU ((x_4 && (!x_5)) && (!x_6)) [] (fun g16=>by exact trivial) (fun g16=>lp aB) ?_))
 obtain ⟨x_7,e18,h⟩:=aN h
 refine eU ((x_4 && (!x_5)) && (!x_6)) [50,51] (fun g17=>⟨g17,g17,trivial⟩) (fun g17=>ak (kq (gc e18 g17)) vi rfl rfl) ?_
 obtain ⟨x_8,e20,h⟩:=aN h
 refine eU ((x_4 && (!x_5)) && (!x_6)) [] (fun g19=>trivial) (fun g19=>ak (cM (gc e20 g19)) oM rfl rfl) (eU ((x_4 && (!x_5)) && (!x_6)) [52,53] (fun g21=>⟨g21,g21,trivial⟩) (fun g21=>pq (qP x_7 x_8) rfl rfl) (Oc (aL (fun e=>e) rfl rfl rfl rfl) (Oc oa ?_)))
 refine ae.ai ⟨[(1,_),(2,_),(3,_),(4,B (((x_4 && (!x_5)) && (!x_6)) && (decide (x_7 = x_8))))],[(101,_),(102,_),(103,_)]⟩ rfl (ab.seq (ab.aa ?_))
 refine Oc (lp aB) ?_
 obtain ⟨⟨x_9,x_10⟩,e22,h⟩:=aN h
 refine Oc (ak (kr e22) vm rfl rfl) (Oc om (Oc (aq rfl rfl) (Oc (aq rfl rfl) ?_)))
 refine ae.ag ⟨[(1,_),(2,_),(3,_),(4,_),(59,.b (.agg (ao x_9))),(60,I x_10)],[(101,_),(102,_),(103,_)]⟩ rfl (Oc (aT (k:=104) eC rfl) (Oc (aA aB rfl rfl rfl rfl (Nat.le_of_ble_eq_true rfl) rfl) (Oc oa ?_)))
 refine ae.ai ⟨[(1,_),(2,_),(3,_),(4,_),(5,Pt 104 0),(6,I x_10)],[(101,_),(102,_),(103,_),(104,.box 25 (ao x_9))]⟩ rfl (ab.seq (ab.aa ?_))
 refine Oc (lp aB) ?_
 obtain ⟨⟨x_11,x_12⟩,e23,h⟩:=aN h
 refine Oc (ak (kr e23) vm rfl rfl) (Oc om (Oc (aq rfl rfl) (Oc (aq rfl rfl) ?_)))
 refine ae.ag ⟨[(1,_),(2,_),(3,_),(4,_),(5,_),(6,_),(64,.b (.agg (ao x_11))),(65,I x_12)],[(101,_),(102,_),(103,_),(104,_)]⟩ rfl (Oc (aT (k:=105) eC rfl) (Oc (aA aB rfl rfl rfl rfl (Nat.le_of_ble_eq_true rfl) rfl) (Oc oa ?_)))
 refine ae.ai ⟨[(1,_),(2,_),(3,_),(4,_),(5,_),(6,_),(7,Pt 105 0),(8,I x_12)],[(101,_),(102,_),(103,_),(104,_),(105,.box 25 (ao x_11))]⟩ rfl (ab.seq (ab.aa ?_))
 refine Oc (lp aB) (Oc (lp aB) (Oc (lp aB) (Oc (bp (k:=106) (es:=[x_1,x_2,x_3].map ao) lV rfl rfl (bM fun _=>rfl) rfl (by decide) (by decide) rfl) ?_)))
 refine ae.cU 106 rfl (ae.ag ⟨[(1,Pt 101 0),(2,Pt 102 0),(3,Pt 103 0),(4,B (((x_4 && (!x_5)) && (!x_6)) && (decide (x_7 = x_8)))),(5,Pt 104 0),(6,I x_10),(7,Pt 105 0),(8,I x_12),(70,.b (.one (.sl 6 ([x_1,x_2,x_3].map ao))))],[(101,.box 25 (ao x_1)),(102,.box 25 (ao x_2)),(103,.box 25 (ao x_3)),(104,.box 25 (ao x_9)),(105,.box 25 (ao x_11))]⟩ rfl ?_)
 obtain ⟨⟨x_13,x_14⟩,e24,h⟩:=aN h
 refine Oc (cz (jD 107 e24) vh rfl trivial rfl rfl) (Oc om (Oc (aq rfl rfl) (Oc (aq rfl rfl) (Oc oa (Oc oa ?_)))))
 refine ae.ai ⟨[(1,_),(2,_),(3,_),(4,_),(5,_),(6,_),(7,_),(8,_),(9,.b (.row 107)),(10,I x_14)],[(101,_),(102,_),(103,_),(104,_),(105,_),(107,.row 40 2 (x_13.map (ec .i64)))]⟩ rfl (ab.seq (ab.aa ?_))
 refine Oc (lp aB) (Oc (lp aB) (Oc (lp aB) (Oc (bp (k:=108) (es:=[x_1,x_11,x_2].map ao) lV rfl rfl (bM fun _=>rfl) rfl (by decide) (by decide) rfl) ?_)))
 refine ae.cU 108 rfl (ae.ag ⟨[(1,Pt 101 0),(2,Pt 102 0),(3,Pt 103 0),(4,B (((x_4 && (!x_5)) && (!x_6)) && (decide (x_7 = x_8)))),(5,Pt 104 0),(6,I x_10),(8,I x_12),(9,.b (.row 107)),(10,I x_14),(78,.b (.one (.sl 6 ([x_1,x_11,x_2].map ao))))],[(101,.box 25 (ao x_1)),(102,.box 25 (ao x_2)),(103,.box 25 (ao x_3)),(104,.box 25 (ao x_9)),(107,.row 40 2 (x_13.map (ec .i64)))]⟩ rfl ?_)
 obtain ⟨⟨x_15,x_16⟩,e25,h⟩:=aN h
 refine Oc (cz (jD 109 e25) vh rfl trivial rfl rfl) (Oc om (Oc (aq rfl rfl) (Oc (aq rfl rfl) (Oc oa (Oc oa ?_)))))
 refine ae.ai ⟨[(1,_),(2,_),(3,_),(4,_),(5,_),(6,_),(8,_),(9,_),(10,_),(11,.b (.row 109)),(12,I x_16)],[(101,_),(102,_),(103,_),(104,_),(107,_),(109,.row 40 2 (x_15.map (ec .i64)))]⟩ rfl (ab.seq (ab.aa ?_))
 refine Oc om (Oc (c3 rfl rfl) (Oc om ?_))
 refine eU (decide (x_10 = 0)) [] (fun g26=>trivial) (fun g26=>om) (eU (decide (x_10 = 0)) [85] (fun g27=>by exact ⟨g27,trivial⟩) (fun g27=>c3 rfl rfl) (Oc (aL (fun e=>e) rfl rfl rfl rfl) (Oc om ?_)))
 refine ae.ag ⟨[(1,_),(2,_),(3,_),(4,_),(5,_),(9,_),(10,_),(11,_),(12,_),(88,B ((decide (x_10 = 0)) && (decide (x_12 = 0))))],[(101,_),(102,_),(103,_),(104,_),(107,_),(109,_)]⟩ rfl (eU ((decide (x_10 = 0)) && (decide (x_12 = 0))) [] (fun g28=>trivial) (fun g28=>om) (eU ((decide (x_10 = 0)) && (decide (x_12 = 0))) [89] (fun g29=>by exact ⟨g29,trivial⟩) (fun g29=>c3 rfl rfl) (ae.pX h rfl (aL (fun e=>e) rfl rfl rfl rfl) (fun x_17 h=>?_))))
 refine Oc om (eU x_17 [] (fun g30=>by exact trivial) (fun g30=>om) (eU x_17 [93] (fun g31=>by exact ⟨g31,trivial⟩) (fun g31=>c3 rfl rfl) (Oc (aL (fun e=>e) rfl rfl rfl rfl) (Oc oa ?_))))
 refine ae.ai ⟨[(1,_),(2,_),(3,_),(4,_),(5,_),(9,_),(11,_),(13,B (x_17 && (decide (x_16 = 0))))],[(101,_),(102,_),(103,_),(104,_),(107,_),(109,_)]⟩ rfl (ab.seq (ab.aa ?_))
 refine Oc om (Oc (dS fh rfl rfl) (Oc (bp (k:=110) (es:=[(⟨0,1⟩:A2)].map (ec .i64)) gV rfl rfl (bM fun _=>rfl) rfl (by decide) (by decide) rfl) ?_))
 obtain ⟨x_18,e32,h⟩:=aN h
 refine Oc (iG (cC e32) qx rfl CP.jB) (ae.ag ⟨[(1,_),(2,_),(3,_),(4,_),(5,_),(11,_),(13,_),(99,B x_18)],[(101,_),(102,_),(103,_),(104,_),(109,_)]⟩ rfl (Oc om (eU x_18 [] (fun g33=>by exact trivial) (fun g33=>om) (eU x_18 [] (fun g34=>by exact trivial) (fun g34=>dS fh rfl rfl) (eU x_18 [] (fun g35=>by exact trivial) (fun g35=>dS fh rfl rfl) ?_)))))
 refine eU x_18 [] (fun g36=>trivial) (fun g36=>dS fh rfl rfl) (eU x_18 [102,103,104] (fun g37=>⟨g37,g37,g37,trivial⟩) (fun g37=>cK (es:=[(⟨0,1⟩:A2),(⟨0,2⟩:A2),(⟨1,2⟩:A2)].map (ec .i64)) gV rfl rfl (bM fun _=>rfl) rfl (by decide) (by decide)) (ae.ag ⟨[(1,_),(2,_),(3,_),(4,_),(5,_),(13,_),(100,B x_18),(101,.opt x_18 (.row 109)),(105,.opt x_18 (.one (.sl 2 ([(⟨0,1⟩:A2),(⟨0,2⟩:A2),(⟨1,2⟩:A2)].map (ec .i64)))))],[(101,_),(102,_),(103,_),(104,_),(109,_)]⟩ rfl ?_))
 obtain ⟨x_19,e39,h⟩:=aN h
 refine eU x_18 [101,105] (fun g38=>⟨g38,g38,trivial⟩) (fun g38=>iG (cC (gc e39 g38)) qx rfl CP.jB) (Oc (aL (fun e=>e) rfl rfl rfl rfl) (Oc oa ?_))
 refine ae.ai ⟨[(1,_),(2,_),(3,_),(4,_),(5,_),(13,_),(14,B (x_18 && x_19))],[(101,_),(102,_),(103,_),(104,_)]⟩ rfl (ab.seq ?_)
 obtain ⟨x_20,e40,h⟩:=aN h
 obtain ⟨⟨x_21,x_22⟩,e41,h⟩:=aN h
 refine ab.jP mixed [false,false,false,false,false,false,true,true,false] [.b (.agg (aD x_20)),.b (.agg (ao x_1)),.dL [.agg (aD x_21),.one (.i x_22)],.dL [.agg (aD x_21),.one (.i x_22)],.b (.agg (aD x_21)),I x_22,Pt 112 0,B true,I x_22] [⟨[false,false,false,false,false,false,false,false,false],[(1,Pt 101 0),(2,Pt 102 0),(3,Pt 103 0),(4,B (((x_4 && (!x_5)) && (!x_6)) && (decide (x_7 = x_8)))),(5,Pt 104 0),(13,B (x_17 && (decide (x_16 = 0)))),(14,B (x_18 && x_19))],[(101,.box 25 (ao x_1)),(102,.box 25 (ao x_2)),(103,.box 25 (ao x_3)),(104,.box 25 (ao x_9))],[true,true,true,true,true,true,true,true,true],[],[7,8]⟩,⟨[false,false,false,false,false,false,true,false,false],[(1,Pt 101 0),(2,Pt 102 0),(3,Pt 103 0),(4,B (((x_4 && (!x_5)) && (!x_6)) && (decide (x_7 = x_8)))),(5,Pt 104 0),(13,B (x_17 && (decide (x_16 = 0)))),(14,B (x_18 && x_19))],[(101,.box 25 (ao x_1)),(102,.box 25 (ao x_2)),(103,.box 25 (ao x_3)),(104,.box 25 (ao x_9)),(112,.box 49 [.tr af (.leaf),.cZ 0,.cZ 0,.cZ 0,.tr af (.leaf),.cZ 0,.cZ 0,.cZ 0])],[true,true,true,true,true,true,true,true,true],[6],[8]⟩,⟨[false,false,false,false,false,false,true,true,false],[(1,Pt 101 0),(2,Pt 102 0),(3,Pt 103 0),(4,B (((x_4 && (!x_5)) && (!x_6)) && (decide (x_7 = x_8)))),(5,Pt 104 0),(13,B (x_17 && (decide (x_16 = 0)))),(14,B (x_18 && x_19))],[(101,.box 25 (ao x_1)),(102,.box 25 (ao x_2)),(103,.box 25 (ao x_3)),(104,.box 25 (ao x_9)),(112,.box 49 (aD x_21))],[true,true,true,true,true,true,true,true,true],[0,1,2,3,4,6,7],[]⟩] rfl (⟨by kernel_rfl,⟨⟨.b (.agg (aD x_20)),fun _=>rfl,fun _=>.p (by exact ak (iN e40) sP rfl rfl)⟩,⟨.b (.agg (ao x_1)),fun _=>rfl,fun _=>.p (by exact cu aB rfl rfl rfl rfl)⟩,⟨.dL [.agg (aD x_21),.one (.i x_22)],fun _=>rfl,fun _=>.p (by exact ak (c4 e41) na rfl rfl)⟩,⟨.dL [.agg (aD x_21),.one (.i x_22)],fun _=>rfl,fun _=>.p (by exact aR rfl)⟩,⟨.b (.agg (aD x_21)),fun _=>rfl,fun _=>.p (by exact aq rfl rfl)⟩,⟨I x_22,fun _=>rfl,fun _=>.p (by exact aq rfl rfl)⟩,⟨_,[112],Pt 112 0,rfl,fun _=>rfl,rfl,rfl,fun _=>.sf [101,102,103,104,112] (by exact .p (by exact aT (k:=112) dO rfl)) (by exact rfl)⟩,trivial,trivial,trivial⟩,⟨by kernel_rfl,⟨⟨.b (.agg (aD x_20)),fun _=>rfl,fun _=>.p (by exact ak (iN e40) sP rfl rfl)⟩,⟨.b (.agg (ao x_1)),fun _=>rfl,fun _=>.p (by exact cu aB rfl rfl rfl rfl)⟩,⟨.dL [.agg (aD x_21),.one (.i x_22)],fun _=>rfl,fun _=>.p (by exact ak (c4 e41) na rfl rfl)⟩,⟨.dL [.agg (aD x_21),.one (.i x_22)],fun _=>rfl,fun _=>.p (by exact aR rfl)⟩,⟨.b (.agg (aD x_21)),fun _=>rfl,fun _=>.p (by exact aq rfl rfl)⟩,⟨I x_22,fun _=>rfl,fun _=>.p (by exact aq rfl rfl)⟩,trivial,⟨_,[],.b (.one .any),rfl,(fun e=>by simp at e),rfl,rfl,fun _=>.sf [101,102,103,104,112] (by exact .p (by exact aA aI rfl rfl rfl rfl (Nat.le_of_ble_eq_true rfl) rfl)) (by exact rfl)⟩,trivial,trivial⟩,⟨by kernel_rfl,⟨trivial,trivial,trivial,trivial,trivial,⟨I x_22,fun _=>rfl,fun _=>.p (by exact aq rfl rfl)⟩,trivial,trivial,⟨I x_22,fun _=>rfl,fun _=>.p (by exact bH rfl)⟩,trivial⟩,trivial⟩⟩⟩) rfl rfl rfl [1,2,3,4,5,13,14,15,16] [101,102,103,104,112] (s':=⟨[(1,_),(2,_),(3,_),(4,_),(5,_),(13,_),(14,_),(15,Pt 112 0),(16,I x_22)],[(101,_),(102,_),(103,_),(104,_),(112,.box 49 (aD x_21))]⟩) rfl ?_
 refine ab.seq (ab.aa ?_)
 refine Oc (lp aI) (Oc (lp aB) ?_)
 obtain ⟨⟨x_23,x_24⟩,e42,h⟩:=aN h
 refine Oc (ak (c4 e42) na rfl rfl) (Oc om (Oc (aq rfl rfl) ?_))
 refine ae.ag ⟨[(1,_),(3,_),(4,_),(5,_),(13,_),(14,_),(15,_),(16,_),(114,.dL [.agg (aD x_23),.one (.i x_24)]),(118,.b (.agg (aD x_23)))],[(101,_),(103,_),(104,_),(112,_)]⟩ rfl (Oc (aq rfl rfl) (Oc (aA aI rfl rfl rfl rfl (Nat.le_of_ble_eq_true rfl) rfl) (Oc oa ?_)))
 refine ae.ai ⟨[(1,_),(3,_),(4,_),(5,_),(13,_),(14,_),(15,_),(16,_),(17,I x_24)],[(101,_),(103,_),(104,_),(112,.box 49 (aD x_23))]⟩ rfl (ab.seq (ab.aa ?_))
 refine Oc (lp aI) (Oc (lp aB) ?_)
 obtain ⟨⟨x_25,x_26⟩,e43,h⟩:=aN h
 refine Oc (cz (fv 113 e43) sM rfl trivial rfl rfl) (Oc om (Oc (aq rfl rfl) ?_))
 refine ae.ag ⟨[(1,_),(3,_),(4,_),(5,_),(13,_),(14,_),(15,_),(16,_),(17,_),(120,.dL [.row 113,.one (.i x_26)]),(124,.b (.row 113))],[(101,_),(103,_),(104,_),(112,_),(113,.row 3 1 (x_25.map eI))]⟩ rfl (Oc (aq rfl rfl) (Oc oa (Oc oa ?_)))
 refine ae.ai ⟨[(1,_),(3,_),(4,_),(5,_),(13,_),(14,_),(15,_),(16,_),(17,_),(18,.b (.row 113)),(19,I x_26)],[(101,_),(103,_),(104,_),(112,_),(113,_)]⟩ rfl (ab.seq (ab.aa ?_))
 refine Oc (lp aI) (Oc (lp aB) ?_)
 obtain ⟨⟨x_27,x_28⟩,e44,h⟩:=aN h
 refine Oc (cz (fv 114 e44) sM rfl trivial rfl rfl) (Oc om (Oc (aq rfl rfl) ?_))
 refine ae.ag ⟨[(1,_),(3,_),(4,_),(5,_),(13,_),(14,_),(15,_),(16,_),(17,_),(18,_),(19,_),(126,.dL [.row 114,.one (.i x_28)]),(130,.b (.row 114))],[(101,_),(103,_),(104,_),(112,_),(113,_),(114,.row 3 1 (x_27.map eI))]⟩ rfl (Oc (aq rfl rfl) (Oc oa (Oc oa ?_)))
 refine ae.ai ⟨[(1,_),(3,_),(4,_),(5,_),(13,_),(14,_),(15,_),(16,_),(17,_),(18,_),(19,_),(20,.b (.row 114)),(21,I x_28)],[(101,_),(103,_),(104,_),(112,_),(113,_),(114,_)]⟩ rfl (ab.seq (ab.aa ?_))
 refine Oc (lp aI) (Oc (lp aB) ?_)
 obtain ⟨⟨x_29,x_30,x_31,x_32⟩,e45,h⟩:=aN h
 refine Oc (ak (hX e45) vf rfl rfl) (Oc om (Oc (aq rfl rfl) ?_))
 refine ae.ag ⟨[(1,_),(4,_),(5,_),(13,_),(14,_),(15,_),(16,_),(17,_),(18,_),(19,_),(20,_),(21,_),(132,.dL [.agg (aD x_29),.one (.sl 1 (x_30.map eI)),.one (.sl 1 (x_31.map eI)),.one (.i x_32)]),(136,.b (.agg (aD x_29)))],[(101,_),(104,_),(112,_),(113,_),(114,_)]⟩ rfl (Oc (aq rfl rfl) (Oc (aq rfl rfl) (Oc (aq rfl rfl) (Oc (aT (k:=115) dO rfl) (Oc (aA aI rfl rfl rfl rfl (Nat.le_of_ble_eq_true rfl) rfl) (Oc oa ?_))))))
 refine Oc oa (Oc oa ?_)
 refine ae.ai ⟨[(1,_),(4,_),(5,_),(13,_),(14,_),(15,_),(16,_),(17,_),(18,_),(19,_),(20,_),(21,_),(22,Pt 115 0),(23,.b (.one (.sl 1 (x_30.map eI)))),(24,.b (.one (.sl 1 (x_31.map eI)))),(25,I x_32)],[(101,_),(104,_),(112,_),(113,_),(114,_),(115,.box 49 (aD x_29))]⟩ rfl (ab.seq (ab.aa ?_))
 refine Oc (lp aI) (Oc (lp aB) ?_)
 obtain ⟨⟨x_33,x_34⟩,e46,h⟩:=aN h
 refine Oc (ak (c4 e46) na rfl rfl) (Oc om (Oc (aq rfl rfl) ?_))
 refine ae.ag ⟨[(4,_),(5,_),(13,_),(14,_),(15,_),(16,_),(17,_),(18,_),(19,_),(20,_),(21,_),(22,_),(23,_),(24,_),(25,_),(140,.dL [.agg (aD x_33),.one (.i x_34)]),(144,.b (.agg (aD x_33)))],[(104,_),(112,_),(113,_),(114,_),(115,_)]⟩ rfl (Oc (aq rfl rfl) (Oc (aT (k:=116) dO rfl) (Oc (aA aI rfl rfl rfl rfl (Nat.le_of_ble_eq_true rfl) rfl) (Oc oa ?_))))
 refine ae.ai ⟨[(4,_),(5,_),(13,_),(14,_),(15,_),(16,_),(17,_),(18,_),(19,_),(20,_),(21,_),(22,_),(23,_),(24,_),(25,_),(27,I x_34)],[(104,_),(112,_),(113,_),(114,_),(115,_)]⟩ rfl (ab.seq (ab.aa ?_))
 refine Oc (lp aI) ?_
 obtain ⟨⟨x_35,x_36⟩,e47,h⟩:=aN h
 refine Oc (ak (eO e47) sN rfl rfl) (Oc om (Oc (aq rfl rfl) (Oc (aq rfl rfl) ?_)))
 refine ae.ag ⟨[(4,_),(5,_),(13,_),(14,_),(15,_),(16,_),(17,_),(18,_),(19,_),(20,_),(21,_),(22,_),(23,_),(24,_),(25,_),(27,_),(149,.b (.agg (aD x_35))),(150,I x_36)],[(104,_),(112,_),(113,_),(114,_),(115,_)]⟩ rfl (Oc (aT (k:=117) dO rfl) (Oc (aA aI rfl rfl rfl rfl (Nat.le_of_ble_eq_true rfl) rfl) (Oc oa ?_)))
 refine ae.ai ⟨[(4,_),(5,_),(13,_),(14,_),(15,_),(16,_),(17,_),(18,_),(19,_),(20,_),(21,_),(22,_),(23,_),(24,_),(25,_),(27,_),(29,I x_36)],[(104,_),(112,_),(113,_),(114,_),(115,_)]⟩ rfl (ab.seq (ab.aa ?_))
 refine Oc om (Oc (c3 rfl rfl) (Oc om ?_))
 refine eU (decide (x_22 = 0)) [] (fun g48=>trivial) (fun g48=>om) (eU (decide (x_22 = 0)) [154] (fun g49=>by exact ⟨g49,trivial⟩) (fun g49=>c3 rfl rfl) (Oc (aL (fun e=>e) rfl rfl rfl rfl) (Oc om ?_)))
 refine ae.ag ⟨[(4,_),(5,_),(13,_),(14,_),(15,_),(18,_),(19,_),(20,_),(21,_),(22,_),(23,_),(24,_),(25,_),(27,_),(29,_),(157,B ((decide (x_22 = 0)) && (decide (x_24 = 0))))],[(104,_),(112,_),(113,_),(114,_),(115,_)]⟩ rfl (eU ((decide (x_22 = 0)) && (decide (x_24 = 0))) [] (fun g50=>trivial) (fun g50=>om) (eU ((decide (x_22 = 0)) && (decide (x_24 = 0))) [158] (fun g51=>by exact ⟨g51,trivial⟩) (fun g51=>c3 rfl rfl) (ae.pX h rfl (aL (fun e=>e) rfl rfl rfl rfl) (fun x_37 h=>?_))))
 refine Oc om (eU x_37 [] (fun g52=>by exact trivial) (fun g52=>om) (eU x_37 [162] (fun g53=>by exact ⟨g53,trivial⟩) (fun g53=>c3 rfl rfl) (Oc (aL (fun e=>e) rfl rfl rfl rfl) (Oc om ?_))))
 refine ae.ag ⟨[(4,_),(5,_),(13,_),(14,_),(15,_),(18,_),(20,_),(22,_),(23,_),(24,_),(25,_),(27,_),(29,_),(165,B (x_37 && (decide (x_28 = 0))))],[(104,_),(112,_),(113,_),(114,_),(115,_)]⟩ rfl (eU (x_37 && (decide (x_28 = 0))) [] (fun g54=>trivial) (fun g54=>om) (eU (x_37 && (decide (x_28 = 0))) [166] (fun g55=>by exact ⟨g55,trivial⟩) (fun g55=>c3 rfl rfl) (Oc (aL (fun e=>e) rfl rfl rfl rfl) (Oc om ?_))))
 refine eU ((x_37 && (decide (x_28 = 0))) && (decide (x_32 = 0))) [] (fun g56=>trivial) (fun g56=>om) (eU ((x_37 && (decide (x_28 = 0))) && (decide (x_32 = 0))) [] (fun g57=>by exact trivial) (fun g57=>cK (es:=[3,7].map eI) bL rfl rfl (bM fun _=>rfl) rfl (by decide) (by decide)) (ae.ag ⟨[(4,_),(5,_),(13,_),(14,_),(15,_),(20,_),(22,_),(23,_),(24,_),(27,_),(29,_),(169,B ((x_37 && (decide (x_28 = 0))) && (decide (x_32 = 0)))),(170,.opt ((x_37 && (decide (x_28 = 0))) && (decide (x_32 = 0))) (.row 113)),(171,.opt ((x_37 && (decide (x_28 = 0))) && (decide (x_32 = 0))) (.one (.sl 1 ([3,7].map eI))))],[(104,_),(112,_),(113,_),(114,_),(115,_)]⟩ rfl ?_))
 obtain ⟨x_38,e59,h⟩:=aN h
 refine eU ((x_37 && (decide (x_28 = 0))) && (decide (x_32 = 0))) [170,171] (fun g58=>⟨g58,g58,trivial⟩) (fun g58=>iG (bW (gc e59 g58)) m' rfl CP.jB) (ae.pX h rfl (aL (fun e=>e) rfl rfl rfl rfl) (fun x_39 h=>?_))
 refine Oc om (eU x_39 [] (fun g60=>by exact trivial) (fun g60=>om) (eU x_39 [175] (fun g61=>by exact ⟨g61,trivial⟩) (fun g61=>fi fO rfl rfl (List.length_map _)) (eU x_39 [176] (fun g62=>by exact ⟨g62,trivial⟩) (fun g62=>c3 rfl rfl) (Oc (aL (fun e=>e) rfl rfl rfl rfl) (ae.ag ⟨[(4,_),(5,_),(13,_),(14,_),(15,_),(22,_),(23,_),(24,_),(27,_),(29,_),(178,B (x_39 && (decide ((x_27.length:Int) = 0))))],[(104,_),(112,_),(115,_)]⟩ rfl ?_)))))
 refine Oc om (eU (x_39 && (decide ((x_27.length:Int) = 0))) [] (fun g63=>by exact trivial) (fun g63=>om) (eU (x_39 && (decide ((x_27.length:Int) = 0))) [180] (fun g64=>by exact ⟨g64,trivial⟩) (fun g64=>ba fO rfl (List.length_map _)) (eU (x_39 && (decide ((x_27.length:Int) = 0))) [181] (fun g65=>by exact ⟨g65,trivial⟩) (fun g65=>c3 rfl rfl) (ae.pX h rfl (aL (fun e=>e) rfl rfl rfl rfl) (fun x_40 h=>?_)))))
 refine Oc om (eU x_40 [] (fun g66=>by exact trivial) (fun g66=>om) (ae.ag ⟨[(4,_),(5,_),(13,_),(14,_),(15,_),(22,_),(27,_),(29,_),(184,B x_40),(185,.opt x_40 (.one (.sl 1 (x_31.map eI))))],[(104,_),(112,_),(115,_)]⟩ rfl (eU x_40 [] (fun g67=>by exact trivial) (fun g67=>cK (es:=[7].map eI) bL rfl rfl (bM fun _=>rfl) rfl (by decide) (by decide)) ?_)))
 obtain ⟨x_41,e69,h⟩:=aN h
 refine eU x_40 [185,186] (fun g68=>⟨g68,g68,trivial⟩) (fun g68=>ak (bW (gc e69 g68)) m' rfl rfl) (Oc (aL (fun e=>e) rfl rfl rfl rfl) (Oc oa ?_))
 refine ae.ai ⟨[(4,_),(5,_),(13,_),(14,_),(15,_),(22,_),(27,_),(29,_),(30,B (x_40 && x_41))],[(104,_),(112,_),(115,_)]⟩ rfl (ab.seq ?_)
 obtain ⟨x_42,e70,h⟩:=aN h
 obtain ⟨x_43,e71,h⟩:=aN h
 obtain ⟨x_44,e72,h⟩:=aN h
 obtain ⟨x_45,e73,h⟩:=aN h
 refine ab.jP mixed [false,false,false,false,false,false,false,false,false,false,false,false,false,false,false,false,false,true,false,false,false,false,false,true,false,false,false,false,false,false,false,false,false,false,false,false,false] [B (((x_4 && (!x_5)) && (!x_6)) && (decide (x_7 = x_8))),B (((x_4 && (!x_5)) && (!x_6)) && (decide (x_7 = x_8))),.opt (((x_4 && (!x_5)) && (!x_6)) && (decide (x_7 = x_8))) (.one (.bool (x_17 && (decide (x_16 = 0))))),B ((((x_4 && (!x_5)) && (!x_6)) && (decide (x_7 = x_8))) && (x_17 && (decide (x_16 = 0)))),B ((((x_4 && (!x_5)) && (!x_6)) && (decide (x_7 = x_8))) && (x_17 && (decide (x_16 = 0)))),.opt ((((x_4 && (!x_5)) && (!x_6)) && (decide (x_7 = x_8))) && (x_17 && (decide (x_16 = 0)))) (.agg (ao x_9)),.opt ((((x_4 && (!x_5)) && (!x_6)) && (decide (x_7 = x_8))) && (x_17 && (decide (x_16 = 0)))) (.agg (ao x_42)),.opt ((((x_4 && (!x_5)) && (!x_6)) && (decide (x_7 = x_8))) && (x_17 && (decide (x_16 = 0)))) (.one (.bool (decide (x_9 = x_42)))),B (((((x_4 && (!x_5)) && (!x_6)) && (decide (x_7 = x_8))) && (x_17 && (decide (x_16 = 0)))) && (decide (x_9 = x_42))),B (((((x_4 && (!x_5)) && (!x_6)) && (decide (x_7 = x_8))) && (x_17 && (decide (x_16 = 0)))) && (decide (x_9 = x_42))),.opt (((((x_4 && (!x_5)) && (!x_6)) && (decide (x_7 = x_8))) && (x_17 && (decide (x_16 = 0)))) && (decide (x_9 = x_42))) (.one (.bool (x_18 && x_19))),B ((((((x_4 && (!x_5)) && (!x_6)) && (decide (x_7 = x_8))) && (x_17 && (decide (x_16 = 0)))) && (decide (x_9 = x_42))) && (x_18 && x_19)),B ((((((x_4 && (!x_5)) && (!x_6)) && (decide (x_7 = x_8))) && (x_17 && (decide (x_16 = 0)))) && (decide (x_9 = x_42))) && (x_18 && x_19)),.opt ((((((x_4 && (!x_5)) && (!x_6)) && (decide (x_7 = x_8))) && (x_17 && (decide (x_16 = 0)))) && (decide (x_9 = x_42))) && (x_18 && x_19)) (.one (.bool (x_40 && x_41))),B (((((((x_4 && (!x_5)) && (!x_6)) && (decide (x_7 = x_8))) && (x_17 && (decide (x_16 = 0)))) && (decide (x_9 = x_42))) && (x_18 && x_19)) && (x_40 && x_41)),B (((((((x_4 && (!x_5)) && (!x_6)) && (decide (x_7 = x_8))) && (x_17 && (decide (x_16 = 0)))) && (decide (x_9 = x_42))) && (x_18 && x_19)) && (x_40 && x_41)),.opt (((((((x_4 && (!x_5)) && (!x_6)) && (decide (x_7 = x_8))) && (x_17 && (decide (x_16 = 0)))) && (decide (x_9 = x_42))) && (x_18 && x_19)) && (x_40 && x_41)) (.agg (aD x_29)),.opt (((((((x_4 && (!x_5)) && (!x_6)) && (decide (x_7 = x_8))) && (x_17 && (decide (x_16 = 0)))) && (decide (x_9 = x_42))) && (x_18 && x_19)) && (x_40 && x_41)) (.one (.sl 2 (x_43.map (ec .i64)))),.opt (((((((x_4 && (!x_5)) && (!x_6)) && (decide (x_7 = x_8))) && (x_17 && (decide (x_16 = 0)))) && (decide (x_9 = x_42))) && (x_18 && x_19)) && (x_40 && x_41)) (.one (.i (x_43.length:Int))),.opt (((((((x_4 && (!x_5)) && (!x_6)) && (decide (x_7 = x_8))) && (x_17 && (decide (x_16 = 0)))) && (decide (x_9 = x_42))) && (x_18 && x_19)) && (x_40 && x_41)) (.one (.bool (decide ((x_43.length:Int) = 0)))),B ((((((((x_4 && (!x_5)) && (!x_6)) && (decide (x_7 = x_8))) && (x_17 && (decide (x_16 = 0)))) && (decide (x_9 = x_42))) && (x_18 && x_19)) && (x_40 && x_41)) && (decide ((x_43.length:Int) = 0))),B ((((((((x_4 && (!x_5)) && (!x_6)) && (decide (x_7 = x_8))) && (x_17 && (decide (x_16 = 0)))) && (decide (x_9 = x_42))) && (x_18 && x_19)) && (x_40 && x_41)) && (decide ((x_43.length:Int) = 0))),.opt ((((((((x_4 && (!x_5)) && (!x_6)) && (decide (x_7 = x_8))) && (x_17 && (decide (x_16 = 0)))) && (decide (x_9 = x_42))) && (x_18 && x_19)) && (x_40 && x_41)) && (decide ((x_43.length:Int) = 0))) (.agg (aD x_23)),.opt ((((((((x_4 && (!x_5)) && (!x_6)) && (decide (x_7 = x_8))) && (x_17 && (decide (x_16 = 0)))) && (decide (x_9 = x_42))) && (x_18 && x_19)) && (x_40 && x_41)) && (decide ((x_43.length:Int) = 0))) (.one (.sl 2 (x_44.map (ec .i64)))),.opt ((((((((x_4 && (!x_5)) && (!x_6)) && (decide (x_7 = x_8))) && (x_17 && (decide (x_16 = 0)))) && (decide (x_9 = x_42))) && (x_18 && x_19)) && (x_40 && x_41)) && (decide ((x_43.length:Int) = 0))) (.agg [.i 3,.i 7]),.opt ((((((((x_4 && (!x_5)) && (!x_6)) && (decide (x_7 = x_8))) && (x_17 && (decide (x_16 = 0)))) && (decide (x_9 = x_42))) && (x_18 && x_19)) && (x_40 && x_41)) && (decide ((x_43.length:Int) = 0))) (.one (.sl 2 ([(⟨3,7⟩:A2)].map (ec .i64)))),.opt ((((((((x_4 && (!x_5)) && (!x_6)) && (decide (x_7 = x_8))) && (x_17 && (decide (x_16 = 0)))) && (decide (x_9 = x_42))) && (x_18 && x_19)) && (x_40 && x_41)) && (decide ((x_43.length:Int) = 0))) (.one (.bool x_45)),B (((((((((x_4 && (!x_5)) && (!x_6)) && (decide (x_7 = x_8))) && (x_17 && (decide (x_16 = 0)))) && (decide (x_9 = x_42))) && (x_18 && x_19)) && (x_40 && x_41)) && (decide ((x_43.length:Int) = 0))) && x_45),B (((((((((x_4 && (!x_5)) && (!x_6)) && (decide (x_7 = x_8))) && (x_17 && (decide (x_16 = 0)))) && (decide (x_9 = x_42))) && (x_18 && x_19)) && (x_40 && x_41)) && (decide ((x_43.length:Int) = 0))) && x_45),.opt (((((((((x_4 && (!x_5)) && (!x_6)) && (decide (x_7 = x_8))) && (x_17 && (decide (x_16 = 0)))) && (decide (x_9 = x_42))) && (x_18 && x_19)) && (x_40 && x_41)) && (decide ((x_43.length:Int) = 0))) && x_45) (.one (.i x_34)),.opt (((((((((x_4 && (!x_5)) && (!x_6)) && (decide (x_7 = x_8))) && (x_17 && (decide (x_16 = 0)))) && (decide (x_9 = x_42))) && (x_18 && x_19)) && (x_40 && x_41)) && (decide ((x_43.length:Int) = 0))) && x_45) (.one (.bool (decide (x_34 = 6)))),B ((((((((((x_4 && (!x_5)) && (!x_6)) && (decide (x_7 = x_8))) && (x_17 && (decide (x_16 = 0)))) && (decide (x_9 = x_42))) && (x_18 && x_19)) && (x_40 && x_41)) && (decide ((x_43.length:Int) = 0))) && x_45) && (decide (x_34 = 6))),B ((((((((((x_4 && (!x_5)) && (!x_6)) && (decide (x_7 = x_8))) && (x_17 && (decide (x_16 = 0)))) && (decide (x_9 = x_42))) && (x_18 && x_19)) && (x_40 && x_41)) && (decide ((x_43.length:Int) = 0))) && x_45) && (decide (x_34 = 6))),.opt ((((((((((x_4 && (!x_5)) && (!x_6)) && (decide (x_7 = x_8))) && (x_17 && (decide (x_16 = 0)))) && (decide (x_9 = x_42))) && (x_18 && x_19)) && (x_40 && x_41)) && (decide ((x_43.length:Int) = 0))) && x_45) && (decide (x_34 = 6))) (.one (.i x_36)),.opt ((((((((((x_4 && (!x_5)) && (!x_6)) && (decide (x_7 = x_8))) && (x_17 && (decide (x_16 = 0)))) && (decide (x_9 = x_42))) && (x_18 && x_19)) && (x_40 && x_41)) && (decide ((x_43.length:Int) = 0))) && x_45) && (decide (x_34 = 6))) (.one (.bool (decide (x_36 = 5)))),B (((((((((((x_4 && (!x_5)) && (!x_6)) && (decide (x_7 = x_8))) && (x_17 && (decide (x_16 = 0)))) && (decide (x_9 = x_42))) && (x_18 && x_19)) && (x_40 && x_41)) && (decide ((x_43.length:Int) = 0))) && x_45) && (decide (x_34 = 6))) && (decide (x_36 = 5))),B (((((((((((x_4 && (!x_5)) && (!x_6)) && (decide (x_7 = x_8))) && (x_17 && (decide (x_16 = 0)))) && (decide (x_9 = x_42))) && (x_18 && x_19)) && (x_40 && x_41)) && (decide ((x_43.length:Int) = 0))) && x_45) && (decide (x_34 = 6))) && (decide (x_36 = 5)))] [⟨[false,false,false,false,false,false,false,false,false,false,false,false,false,false,false,false,false,false,false,false,false,false,false,false,false,false,false,false,false,false,false,false,false,false,false,false,false],[(4,B (((x_4 && (!x_5)) && (!x_6)) && (decide (x_7 = x_8)))),(5,Pt 104 0),(13,B (x_17 && (decide (x_16 = 0)))),(14,B (x_18 && x_19)),(15,Pt 112 0),(22,Pt 115 0),(27,I x_34),(29,I x_36),(30,B (x_40 && x_41))],[(104,.box 25 (ao x_9)),(112,.box 49 (aD x_23)),(115,.box 49 (aD x_29))],[true,true,true,true,true,true,true,true,true,true,true,true,true,true,true,true,true,true,true,true,true,true,true,true,true,true,true,true,true,true,true,true,true,true,true,true,true],[],[18,19,20,21,22,23,24,25,26,27,28,29,30,31,32,33,34,35,36]⟩,⟨[false,false,false,false,false,false,false,false,false,false,false,false,false,false,false,false,false,true,false,false,false,false,false,false,false,false,false,false,false,false,false,false,false,false,false,false,false],[(4,B (((x_4 && (!x_5)) && (!x_6)) && (decide (x_7 = x_8)))),(5,Pt 104 0),(13,B (x_17 && (decide (x_16 = 0)))),(14,B (x_18 && x_19)),(15,Pt 112 0),(22,Pt 115 0),(27,I x_34),(29,I x_36),(30,B (x_40 && x_41))],[(104,.box 25 (ao x_9)),(112,.box 49 (aD x_23)),(115,.box 49 (aD x_29))],[true,true,true,true,true,true,true,true,true,true,true,true,true,true,true,true,true,true,true,true,true,true,true,true,true,true,true,true,true,true,true,true,true,true,true,true,true],[0,1,2,3,4,5,6,7,8,9,10,11,12,13,14,15,16,17],[26,27,28,29,30,31,32,33,34,35,36]⟩,⟨[false,false,false,false,false,false,false,false,false,false,false,false,false,false,false,false,false,true,false,false,false,false,false,true,false,false,false,false,false,false,false,false,false,false,false,false,false],[(4,B (((x_4 && (!x_5)) && (!x_6)) && (decide (x_7 = x_8)))),(5,Pt 104 0),(13,B (x_17 && (decide (x_16 = 0)))),(14,B (x_18 && x_19)),(15,Pt 112 0),(22,Pt 115 0),(27,I x_34),(29,I x_36),(30,B (x_40 && x_41))],[(104,.box 25 (ao x_9)),(112,.box 49 (aD x_23)),(115,.box 49 (aD x_29))],[true,true,true,true,true,true,true,true,true,true,true,true,true,true,true,true,true,true,true,true,true,true,true,true,true,true,true,true,true,true,true,true,true,true,true,true,true],[0,1,2,3,4,5,6,7,8,9,10,11,12,13,14,15,16,17,18,19,20,21,22,23],[]⟩] rfl (⟨by kernel_rfl,⟨⟨B (((x_4 && (!x_5)) && (!x_6)) && (decide (x_7 = x_8))),fun _=>rfl,fun _=>.p (by exact aR rfl)⟩,⟨B (((x_4 && (!x_5)) && (!x_6)) && (decide (x_7 = x_8))),fun _=>rfl,fun _=>.p (by exact aR rfl)⟩,⟨.opt (((x_4 && (!x_5)) && (!x_6)) && (decide (x_7 = x_8))) (.one (.bool (x_17 && (decide (x_16 = 0))))),fun _=>rfl,fun _=>by exact .guard (((x_4 && (!x_5)) && (!x_6)) && (decide (x_7 = x_8))) 1 [] (.plain rfl) (fY _) rfl rfl (fun gg2=>trivial) (fun gg2=>om)⟩,⟨B ((((x_4 && (!x_5)) && (!x_6)) && (decide (x_7 = x_8))) && (x_17 && (decide (x_16 = 0)))),fun _=>rfl,fun _=>.p (by exact aL (fun e=>e) rfl rfl rfl rfl)⟩,⟨B ((((x_4 && (!x_5)) && (!x_6)) && (decide (x_7 = x_8))) && (x_17 && (decide (x_16 = 0)))),fun _=>rfl,fun _=>.p (by exact aR rfl)⟩,⟨.opt ((((x_4 && (!x_5)) && (!x_6)) && (decide (x_7 = x_8))) && (x_17 && (decide (x_16 = 0)))) (.agg (ao x_9)),fun _=>rfl,fun _=>by exact .guard ((((x_4 && (!x_5)) && (!x_6)) && (decide (x_7 = x_8))) && (x_17 && (decide (x_16 = 0)))) 1 [] (.plain rfl) (fY _) rfl rfl (fun gg5=>trivial) (fun gg5=>lp aB)⟩,⟨.opt ((((x_4 && (!x_5)) && (!x_6)) && (decide (x_7 = x_8))) && (x_17 && (decide (x_16 = 0)))) (.agg (ao x_42)),fun _=>rfl,fun _=>by exact .guard ((((x_4 && (!x_5)) && (!x_6)) && (decide (x_7 = x_8))) && (x_17 && (decide (x_16 = 0)))) 2 [] (.plain rfl) (fY _) rfl rfl (fun gg6=>trivial) (fun gg6=>ak (cM (gc e70 gg6)) oM rfl rfl)⟩,⟨.opt ((((x_4 && (!x_5)) && (!x_6)) && (decide (x_7 = x_8))) && (x_17 && (decide (x_16 = 0)))) (.one (.bool (decide (x_9 = x_42)))),fun _=>rfl,fun _=>by exact .guard ((((x_4 && (!x_5)) && (!x_6)) && (decide (x_7 = x_8))) && (x_17 && (decide (x_16 = 0)))) 3 [194,195] (.plain rfl) (fY _) rfl rfl (fun gg7=>⟨gg7,gg7,trivial⟩) (fun gg7=>pq (qP x_9 x_42) rfl rfl)⟩,⟨B (((((x_4 && (!x_5)) && (!x_6)) && (decide (x_7 = x_8))) && (x_17 && (decide (x_16 = 0)))) && (decide (x_9 = x_42))),fun _=>rfl,fun _=>.p (by exact aL (fun e=>e) rfl rfl rfl rfl)⟩,⟨B (((((x_4 && (!x_5)) && (!x_6)) && (decide (x_7 = x_8))) && (x_17 && (decide (x_16 = 0)))) && (decide (x_9 = x_42))),fun _=>rfl,fun _=>.p (by exact aR rfl)⟩,⟨.opt (((((x_4 && (!x_5)) && (!x_6)) && (decide (x_7 = x_8))) && (x_17 && (decide (x_16 = 0)))) && (decide (x_9 = x_42))) (.one (.bool (x_18 && x_19))),fun _=>rfl,fun _=>by exact .guard (((((x_4 && (!x_5)) && (!x_6)) && (decide (x_7 = x_8))) && (x_17 && (decide (x_16 = 0)))) && (decide (x_9 = x_42))) 1 [] (.plain rfl) (fY _) rfl rfl (fun gg10=>trivial) (fun gg10=>om)⟩,⟨B ((((((x_4 && (!x_5)) && (!x_6)) && (decide (x_7 = x_8))) && (x_17 && (decide (x_16 = 0)))) && (decide (x_9 = x_42))) && (x_18 && x_19)),fun _=>rfl,fun _=>.p (by exact aL (fun e=>e) rfl rfl rfl rfl)⟩,⟨B ((((((x_4 && (!x_5)) && (!x_6)) && (decide (x_7 = x_8))) && (x_17 && (decide (x_16 = 0)))) && (decide (x_9 = x_42))) && (x_18 && x_19)),fun _=>rfl,fun _=>.p (by exact aR rfl)⟩,⟨.opt ((((((x_4 && (!x_5)) && (!x_6)) && (decide (x_7 = x_8))) && (x_17 && (decide (x_16 = 0)))) && (decide (x_9 = x_42))) && (x_18 && x_19)) (.one (.bool (x_40 && x_41))),fun _=>rfl,fun _=>by exact .guard ((((((x_4 && (!x_5)) && (!x_6)) && (decide (x_7 = x_8))) && (x_17 && (decide (x_16 = 0)))) && (decide (x_9 = x_42))) && (x_18 && x_19)) 1 [] (.plain rfl) (fY _) rfl rfl (fun gg13=>trivial) (fun gg13=>om)⟩,⟨B (((((((x_4 && (!x_5)) && (!x_6)) && (decide (x_7 = x_8))) && (x_17 && (decide (x_16 = 0)))) && (decide (x_9 = x_42))) && (x_18 && x_19)) && (x_40 && x_41)),fun _=>rfl,fun _=>.p (by exact aL (fun e=>e) rfl rfl rfl rfl)⟩,⟨B (((((((x_4 && (!x_5)) && (!x_6)) && (decide (x_7 = x_8))) && (x_17 && (decide (x_16 = 0)))) && (decide (x_9 = x_42))) && (x_18 && x_19)) && (x_40 && x_41)),fun _=>rfl,fun _=>.p (by exact aR rfl)⟩,⟨.opt (((((((x_4 && (!x_5)) && (!x_6)) && (decide (x_7 = x_8))) && (x_17 && (decide (x_16 = 0)))) && (decide (x_9 = x_42))) && (x_18 && x_19)) && (x_40 && x_41)) (.agg (aD x_29)),fun _=>rfl,fun _=>by exact .guard (((((((x_4 && (!x_5)) && (!x_6)) && (decide (x_7 = x_8))) && (x_17 && (decide (x_16 = 0)))) && (decide (x_9 = x_42))) && (x_18 && x_19)) && (x_40 && x_41)) 1 [] (.plain rfl) (fY _) rfl rfl (fun gg16=>trivial) (fun gg16=>lp aI)⟩,⟨_,[],.opt (((((((x_4 && (!x_5)) && (!x_6)) && (decide (x_7 = x_8))) && (x_17 && (decide (x_16 = 0)))) && (decide (x_9 = x_42))) && (x_18 && x_19)) && (x_40 && x_41)) (.one (.sl 2 (x_43.map (ec .i64)))),rfl,fun _=>rfl,rfl,rfl,fun _=>.sf [104,112,115] (by exact by exact .guard (((((((x_4 && (!x_5)) && (!x_6)) && (decide (x_7 = x_8))) && (x_17 && (decide (x_16 = 0)))) && (decide (x_9 = x_42))) && (x_18 && x_19)) && (x_40 && x_41)) 3 [205] (.plain rfl) (fY _) rfl rfl (fun gg17=>⟨gg17,trivial⟩) (fun gg17=>ak (((fN (gc e71 gg17)).sw 51 0).oH) sO rfl rfl)) (by exact rfl)⟩,trivial,trivial,trivial,trivial,trivial,trivial,trivial,trivial,trivial,trivial,trivial,trivial,trivial,trivial,trivial,trivial,trivial,trivial,trivial,trivial⟩,⟨by kernel_rfl,⟨trivial,trivial,trivial,trivial,trivial,trivial,trivial,trivial,trivial,trivial,trivial,trivial,trivial,trivial,trivial,trivial,trivial,trivial,⟨.opt (((((((x_4 && (!x_5)) && (!x_6)) && (decide (x_7 = x_8))) && (x_17 && (decide (x_16 = 0)))) && (decide (x_9 = x_42))) && (x_18 && x_19)) && (x_40 && x_41)) (.one (.i (x_43.length:Int))),fun _=>rfl,fun _=>by exact .guard (((((((x_4 && (!x_5)) && (!x_6)) && (decide (x_7 = x_8))) && (x_17 && (decide (x_16 = 0)))) && (decide (x_9 = x_42))) && (x_18 && x_19)) && (x_40 && x_41)) 2 [206] (.plain rfl) (fY _) rfl rfl (fun gg18=>⟨gg18,trivial⟩) (fun gg18=>ba tp rfl (List.length_map _))⟩,⟨.opt (((((((x_4 && (!x_5)) && (!x_6)) && (decide (x_7 = x_8))) && (x_17 && (decide (x_16 = 0)))) && (decide (x_9 = x_42))) && (x_18 && x_19)) && (x_40 && x_41)) (.one (.bool (decide ((x_43.length:Int) = 0)))),fun _=>rfl,fun _=>by exact .guard (((((((x_4 && (!x_5)) && (!x_6)) && (decide (x_7 = x_8))) && (x_17 && (decide (x_16 = 0)))) && (decide (x_9 = x_42))) && (x_18 && x_19)) && (x_40 && x_41)) 2 [207] (.plain rfl) (fY _) rfl rfl (fun gg19=>⟨gg19,trivial⟩) (fun gg19=>c3 rfl rfl)⟩,⟨B ((((((((x_4 && (!x_5)) && (!x_6)) && (decide (x_7 = x_8))) && (x_17 && (decide (x_16 = 0)))) && (decide (x_9 = x_42))) && (x_18 && x_19)) && (x_40 && x_41)) && (decide ((x_43.length:Int) = 0))),fun _=>rfl,fun _=>.p (by exact aL (fun e=>e) rfl rfl rfl rfl)⟩,⟨B ((((((((x_4 && (!x_5)) && (!x_6)) && (decide (x_7 = x_8))) && (x_17 && (decide (x_16 = 0)))) && (decide (x_9 = x_42))) && (x_18 && x_19)) && (x_40 && x_41)) && (decide ((x_43.length:Int) = 0))),fun _=>rfl,fun _=>.p (by exact aR rfl)⟩,⟨.opt ((((((((x_4 && (!x_5)) && (!x_6)) && (decide (x_7 = x_8))) && (x_17 && (decide (x_16 = 0)))) && (decide (x_9 = x_42))) && (x_18 && x_19)) && (x_40 && x_41)) && (decide ((x_43.length:Int) = 0))) (.agg (aD x_23)),fun _=>rfl,fun _=>by exact .guard ((((((((x_4 && (!x_5)) && (!x_6)) && (decide (x_7 = x_8))) && (x_17 && (decide (x_16 = 0)))) && (decide (x_9 = x_42))) && (x_18 && x_19)) && (x_40 && x_41)) && (decide ((x_43.length:Int) = 0))) 1 [] (.plain rfl) (fY _) rfl rfl (fun gg22=>trivial) (fun gg22=>lp aI)⟩,⟨_,[],.opt ((((((((x_4 && (!x_5)) && (!x_6)) && (decide (x_7 = x_8))) && (x_17 && (decide (x_16 = 0)))) && (decide (x_9 = x_42))) && (x_18 && x_19)) && (x_40 && x_41)) && (decide ((x_43.length:Int) = 0))) (.one (.sl 2 (x_44.map (ec .i64)))),rfl,fun _=>rfl,rfl,rfl,fun _=>.sf [104,112,115] (by exact by exact .guard ((((((((x_4 && (!x_5)) && (!x_6)) && (decide (x_7 = x_8))) && (x_17 && (decide (x_16 = 0)))) && (decide (x_9 = x_42))) && (x_18 && x_19)) && (x_40 && x_41)) && (decide ((x_43.length:Int) = 0))) 3 [211] (.plain rfl) (fY _) rfl rfl (fun gg23=>⟨gg23,trivial⟩) (fun gg23=>ak (((fN (gc e72 gg23)).sw 51 0).oH) sO rfl rfl)) (by exact rfl)⟩,⟨.opt ((((((((x_4 && (!x_5)) && (!x_6)) && (decide (x_7 = x_8))) && (x_17 && (decide (x_16 = 0)))) && (decide (x_9 = x_42))) && (x_18 && x_19)) && (x_40 && x_41)) && (decide ((x_43.length:Int) = 0))) (.agg [.i 3,.i 7]),fun _=>rfl,fun _=>by exact .guard ((((((((x_4 && (!x_5)) && (!x_6)) && (decide (x_7 = x_8))) && (x_17 && (decide (x_16 = 0)))) && (decide (x_9 = x_42))) && (x_18 && x_19)) && (x_40 && x_41)) && (decide ((x_43.length:Int) = 0))) 1 [] (.plain rfl) (fY _) rfl rfl (fun gg24=>trivial) (fun gg24=>dS fh rfl rfl)⟩,⟨.opt ((((((((x_4 && (!x_5)) && (!x_6)) && (decide (x_7 = x_8))) && (x_17 && (decide (x_16 = 0)))) && (decide (x_9 = x_42))) && (x_18 && x_19)) && (x_40 && x_41)) && (decide ((x_43.length:Int) = 0))) (.one (.sl 2 ([(⟨3,7⟩:A2)].map (ec .i64)))),fun _=>rfl,fun _=>by exact .guard ((((((((x_4 && (!x_5)) && (!x_6)) && (decide (x_7 = x_8))) && (x_17 && (decide (x_16 = 0)))) && (decide (x_9 = x_42))) && (x_18 && x_19)) && (x_40 && x_41)) && (decide ((x_43.length:Int) = 0))) 2 [213] (.plain rfl) (fY _) rfl rfl (fun gg25=>⟨gg25,trivial⟩) (fun gg25=>cK (es:=[(⟨3,7⟩:A2)].map (ec .i64)) gV rfl rfl (bM fun _=>rfl) rfl (by decide) (by decide))⟩,trivial,trivial,trivial,trivial,trivial,trivial,trivial,trivial,trivial,trivial,trivial,trivial⟩,⟨by kernel_rfl,⟨trivial,trivial,trivial,trivial,trivial,trivial,trivial,trivial,trivial,trivial,trivial,trivial,trivial,trivial,trivial,trivial,trivial,trivial,trivial,trivial,trivial,trivial,trivial,trivial,⟨.opt ((((((((x_4 && (!x_5)) && (!x_6)) && (decide (x_7 = x_8))) && (x_17 && (decide (x_16 = 0)))) && (decide (x_9 = x_42))) && (x_18 && x_19)) && (x_40 && x_41)) && (decide ((x_43.length:Int) = 0))) (.agg [.i 3,.i 7]),fun _=>rfl,fun _=>by exact .guard ((((((((x_4 && (!x_5)) && (!x_6)) && (decide (x_7 = x_8))) && (x_17 && (decide (x_16 = 0)))) && (decide (x_9 = x_42))) && (x_18 && x_19)) && (x_40 && x_41)) && (decide ((x_43.length:Int) = 0))) 1 [] (.plain rfl) (fY _) rfl rfl (fun gg24=>trivial) (fun gg24=>dS fh rfl rfl)⟩,⟨.opt ((((((((x_4 && (!x_5)) && (!x_6)) && (decide (x_7 = x_8))) && (x_17 && (decide (x_16 = 0)))) && (decide (x_9 = x_42))) && (x_18 && x_19)) && (x_40 && x_41)) && (decide ((x_43.length:Int) = 0))) (.one (.sl 2 ([(⟨3,7⟩:A2)].map (ec .i64)))),fun _=>rfl,fun _=>by exact .guard ((((((((x_4 && (!x_5)) && (!x_6)) && (decide (x_7 = x_8))) && (x_17 && (decide (x_16 = 0)))) && (decide (x_9 = x_42))) && (x_18 && x_19)) && (x_40 && x_41)) && (decide ((x_43.length:Int) = 0))) 2 [213] (.plain rfl) (fY _) rfl rfl (fun gg25=>⟨gg25,trivial⟩) (fun gg25=>cK (es:=[(⟨3,7⟩:A2)].map (ec .i64)) gV rfl rfl (bM fun _=>rfl) rfl (by decide) (by decide))⟩,⟨.opt ((((((((x_4 && (!x_5)) && (!x_6)) && (decide (x_7 = x_8))) && (x_17 && (decide (x_16 = 0)))) && (decide (x_9 = x_42))) && (x_18 && x_19)) && (x_40 && x_41)) && (decide ((x_43.length:Int) = 0))) (.one (.bool x_45)),fun _=>rfl,fun _=>by exact .guard ((((((((x_4 && (!x_5)) && (!x_6)) && (decide (x_7 = x_8))) && (x_17 && (decide (x_16 = 0)))) && (decide (x_9 = x_42))) && (x_18 && x_19)) && (x_40 && x_41)) && (decide ((x_43.length:Int) = 0))) 4 [212,214] (.plain rfl) (fY _) rfl rfl (fun gg26=>⟨gg26,gg26,gg26,trivial⟩) (fun gg26=>ak (cC (gc e73 gg26)) qx rfl rfl)⟩,⟨B (((((((((x_4 && (!x_5)) && (!x_6)) && (decide (x_7 = x_8))) && (x_17 && (decide (x_16 = 0)))) && (decide (x_9 = x_42))) && (x_18 && x_19)) && (x_40 && x_41)) && (decide ((x_43.length:Int) = 0))) && x_45),fun _=>rfl,fun _=>.p (by exact aL (fun e=>e) rfl rfl rfl rfl)⟩,⟨B (((((((((x_4 && (!x_5)) && (!x_6)) && (decide (x_7 = x_8))) && (x_17 && (decide (x_16 = 0)))) && (decide (x_9 = x_42))) && (x_18 && x_19)) && (x_40 && x_41)) && (decide ((x_43.length:Int) = 0))) && x_45),fun _=>rfl,fun _=>.p (by exact aR rfl)⟩,⟨.opt (((((((((x_4 && (!x_5)) && (!x_6)) && (decide (x_7 = x_8))) && (x_17 && (decide (x_16 = 0)))) && (decide (x_9 = x_42))) && (x_18 && x_19)) && (x_40 && x_41)) && (decide ((x_43.length:Int) = 0))) && x_45) (.one (.i x_34)),fun _=>rfl,fun _=>by exact .guard (((((((((x_4 && (!x_5)) && (!x_6)) && (decide (x_7 = x_8))) && (x_17 && (decide (x_16 = 0)))) && (decide (x_9 = x_42))) && (x_18 && x_19)) && (x_40 && x_41)) && (decide ((x_43.length:Int) = 0))) && x_45) 1 [] (.plain rfl) (fY _) rfl rfl (fun gg29=>trivial) (fun gg29=>om)⟩,⟨.opt (((((((((x_4 && (!x_5)) && (!x_6)) && (decide (x_7 = x_8))) && (x_17 && (decide (x_16 = 0)))) && (decide (x_9 = x_42))) && (x_18 && x_19)) && (x_40 && x_41)) && (decide ((x_43.length:Int) = 0))) && x_45) (.one (.bool (decide (x_34 = 6)))),fun _=>rfl,fun _=>by exact .guard (((((((((x_4 && (!x_5)) && (!x_6)) && (decide (x_7 = x_8))) && (x_17 && (decide (x_16 = 0)))) && (decide (x_9 = x_42))) && (x_18 && x_19)) && (x_40 && x_41)) && (decide ((x_43.length:Int) = 0))) && x_45) 2 [218] (.plain rfl) (fY _) rfl rfl (fun gg30=>⟨gg30,trivial⟩) (fun gg30=>c3 rfl rfl)⟩,⟨B ((((((((((x_4 && (!x_5)) && (!x_6)) && (decide (x_7 = x_8))) && (x_17 && (decide (x_16 = 0)))) && (decide (x_9 = x_42))) && (x_18 && x_19)) && (x_40 && x_41)) && (decide ((x_43.length:Int) = 0))) && x_45) && (decide (x_34 = 6))),fun _=>rfl,fun _=>.p (by exact aL (fun e=>e) rfl rfl rfl rfl)⟩,⟨B ((((((((((x_4 && (!x_5)) && (!x_6)) && (decide (x_7 = x_8))) && (x_17 && (decide (x_16 = 0)))) && (decide (x_9 = x_42))) && (x_18 && x_19)) && (x_40 && x_41)) && (decide ((x_43.length:Int) = 0))) && x_45) && (decide (x_34 = 6))),fun _=>rfl,fun _=>.p (by exact aR rfl)⟩,⟨.opt ((((((((((x_4 && (!x_5)) && (!x_6)) && (decide (x_7 = x_8))) && (x_17 && (decide (x_16 = 0)))) && (decide (x_9 = x_42))) && (x_18 && x_19)) && (x_40 && x_41)) && (decide ((x_43.length:Int) = 0))) && x_45) && (decide (x_34 = 6))) (.one (.i x_36)),fun _=>rfl,fun _=>by exact .guard ((((((((((x_4 && (!x_5)) && (!x_6)) && (decide (x_7 = x_8))) && (x_17 && (decide (x_16 = 0)))) && (decide (x_9 = x_42))) && (x_18 && x_19)) && (x_40 && x_41)) && (decide ((x_43.length:Int) = 0))) && x_45) && (decide (x_34 = 6))) 1 [] (.plain rfl) (fY _) rfl rfl (fun gg33=>trivial) (fun gg33=>om)⟩,⟨.opt ((((((((((x_4 && (!x_5)) && (!x_6)) && (decide (x_7 = x_8))) && (x_17 && (decide (x_16 = 0)))) && (decide (x_9 = x_42))) && (x_18 && x_19)) && (x_40 && x_41)) && (decide ((x_43.length:Int) = 0))) && x_45) && (decide (x_34 = 6))) (.one (.bool (decide (x_36 = 5)))),fun _=>rfl,fun _=>by exact .guard ((((((((((x_4 && (!x_5)) && (!x_6)) && (decide (x_7 = x_8))) && (x_17 && (decide (x_16 = 0)))) && (decide (x_9 = x_42))) && (x_18 && x_19)) && (x_40 && x_41)) && (decide ((x_43.length:Int) = 0))) && x_45) && (decide (x_34 = 6))) 2 [222] (.plain rfl) (fY _) rfl rfl (fun gg34=>⟨gg34,trivial⟩) (fun gg34=>c3 rfl rfl)⟩,⟨B (((((((((((x_4 && (!x_5)) && (!x_6)) && (decide (x_7 = x_8))) && (x_17 && (decide (x_16 = 0)))) && (decide (x_9 = x_42))) && (x_18 && x_19)) && (x_40 && x_41)) && (decide ((x_43.length:Int) = 0))) && x_45) && (decide (x_34 = 6))) && (decide (x_36 = 5))),fun _=>rfl,fun _=>.p (by exact aL (fun e=>e) rfl rfl rfl rfl)⟩,⟨B (((((((((((x_4 && (!x_5)) && (!x_6)) && (decide (x_7 = x_8))) && (x_17 && (decide (x_16 = 0)))) && (decide (x_9 = x_42))) && (x_18 && x_19)) && (x_40 && x_41)) && (decide ((x_43.length:Int) = 0))) && x_45) && (decide (x_34 = 6))) && (decide (x_36 = 5))),fun _=>rfl,fun _=>.p (by exact bH rfl)⟩,trivial⟩,trivial⟩⟩⟩) rfl rfl rfl [0] [] (s':=⟨[(0,B (((((((((((x_4 && (!x_5)) && (!x_6)) && (decide (x_7 = x_8))) && (x_17 && (decide (x_16 = 0)))) && (decide (x_9 = x_42))) && (x_18 && x_19)) && (x_40 && x_41)) && (decide ((x_43.length:Int) = 0))) && x_45) && (decide (x_34 = 6))) && (decide (x_36 = 5))))],[]⟩) rfl ?_
 refine ab.ret ?_
 obtain rfl:=Option.some.inj h
 refine Fin.ag ⟨[(0,_)],[]⟩ rfl (Fin.aw [.one (.bool (((((((((((x_4 && (!x_5)) && (!x_6)) && (decide (x_7 = x_8))) && (x_17 && (decide (x_16 = 0)))) && (decide (x_9 = x_42))) && (x_18 && x_19)) && (x_40 && x_41)) && (decide ((x_43.length:Int) = 0))) && x_45) && (decide (x_34 = 6))) && (decide (x_36 = 5))))] (.inl rfl) rfl (.cons (.tmp rfl) .nil) ⟨rfl,rfl⟩)
def bF (F:Nat) (a0:b8) (b0:b8):Option Bool :=
 Option.bind (iter F (fun i_1=>if (decide (i_1 < 3)) = true then ((a8 a0.Hi.l i_1).bind fun x_2=>(a8 b0.Lo.l i_1).bind fun x_3=>(br (!(decide (x_2 < x_3))) (a8 b0.Hi.l i_1)).bind fun x_4=>(br (!(decide (x_2 < x_3))) (a8 a0.Lo.l i_1)).bind fun x_5=>if ((decide (x_2 < x_3)) || (decide (x_4 < x_5))) = true then (some (.inr (.inr false))) else (some (.inl (IntKind.i64.wrap (i_1 + 1))))) else (some (.inr (.inl ())))) 0) (cy (fun _=>some true) (fun y=>some y))
theorem de {F:Nat} {a0:b8} {b0:b8} {r:Bool} (h:bF F a0 b0 = some r):ar Tryz.prog [] 17 [] [.agg (ao a0),.agg (ao b0)] (Is [] (.b (.one (.bool r)))):=by
 unfold bF at h
 refine ar.intro 30 Tryz.func17 Tryz.ntmps17 rfl (by simp) fun E=>?_
 show ab _ E ⟨30,[],[],[]⟩ _ ⟨[(0,.b (.agg (ao a0))),(1,.b (.agg (ao b0)))],[]⟩ _
 refine ab.seq (ab.aa ?_)
 refine Oc (bo (k:=101) rfl rfl) (Oc (bo (k:=102) rfl rfl) (Oc oa ?_))
 refine ae.ai ⟨[(2,Pt 101 0),(3,Pt 102 0)],[(101,.box 25 (ao a0)),(102,.box 25 (ao b0))]⟩ rfl ?_
 obtain ⟨v1,h2,h⟩:=aN h
 refine ab.c6 (v:=v1) (fun (_:Unit)=>⟨[],[]⟩) (fun z=>.inl z) ?_ ?_
 ·refine ab.seq (ab.aa ?_)
  refine Oc oa (ae.ai ⟨[(2,_),(3,_),(5,I 0)],[(101,_),(102,_)]⟩ rfl (ab.block (ab.c5 h2 (fun (i_1:Int)=>⟨[(2,Pt 101 0),(3,Pt 102 0),(5,I i_1)],[(101,.box 25 (ao a0)),(102,.box 25 (ao b0))]⟩) [2,3,5] [101,102] rfl ?_)))
  rintro i_1 o3 h4 hy5
  refine ab.seq (ab.seq (ab.aa ?_))
  refine Oc om (Oc (bf rfl rfl) ?_)
  refine ae.ai ⟨[(2,_),(3,_),(5,_),(7,B (decide (i_1 < 3)))],[(101,_),(102,_)]⟩ rfl (ab.ite h4 rfl (fun _ h4=>?_) (fun _ h4=>?_))
  ·refine ab.skip (Fin.ag ⟨[(2,_),(3,_),(5,_)],[(101,_),(102,_)]⟩ rfl (Fin.then (ab.seq (ab.block (ab.seq ?_)))))
   refine ab.ag ⟨[(2,_),(3,_),(5,_)],[(101,_),(102,_)]⟩ rfl ?_
   obtain ⟨x_2,e6,h4⟩:=aN h4
   obtain ⟨x_3,e7,h4⟩:=aN h4
   obtain ⟨x_4,e11,h4⟩:=aN h4
   obtain ⟨x_5,e16,h4⟩:=aN h4
   refine ab.bD mixed 20 [I i_1,Pt 101 3,.b (.ptr 101 (3 + (i_1:Int).toNat * 1)),I x_2,I i_1,Pt 102 0,.b (.ptr 102 (0 + (i_1:Int).toNat * 1)),I x_3,B (decide (x_2 < x_3)),B (decide (x_2 < x_3)),.opt (!(decide (x_2 < x_3))) (.one (.i i_1)),.opt (!(decide (x_2 < x_3))) (.ptr 102 3),.opt (!(decide (x_2 < x_3))) (.ptr 102 (3 + (i_1:Int).toNat * 1)),.opt (!(decide (x_2 < x_3))) (.one (.i x_4)),.opt (!(decide (x_2 < x_3))) (.one (.i i_1)),.opt (!(decide (x_2 < x_3))) (.ptr 101 0),.opt (!(decide (x_2 < x_3))) (.ptr 101 (0 + (i_1:Int).toNat * 1)),.opt (!(decide (x_2 < x_3))) (.one (.i x_5)),.opt (!(decide (x_2 < x_3))) (.one (.bool (decide (x_4 < x_5)))),B ((decide (x_2 < x_3)) || (decide (x_4 < x_5)))] [2,3,5,29] [101,102] (s':=⟨[(2,_),(3,_),(5,_),(29,B ((decide (x_2 < x_3)) || (decide (x_4 < x_5))))],[(101,_),(102,_)]⟩) rfl ⟨fun _=>.p om,fun _=>.p (an cN rfl rfl),fun _=>.p (a7 bJ (aX e6) (dn e6) rfl rfl rfl),fun _=>.p (aF aK rfl rfl (cI (post:=[]) (k:=.i64) ((cW .i64) a0.Lo) e6 rfl rfl rfl)),fun _=>.p om,fun _=>.p (an cO rfl rfl),fun _=>.p (a7 bJ (aX e7) (dn e7) rfl rfl rfl),fun _=>.p (aF aK rfl rfl (cI (post:=((cW .i64) b0.Hi)) (k:=.i64) [] e7 rfl rfl rfl)),fun _=>.p (bf rfl rfl),fun _=>.p om,fun _=>by exact .guard (!(decide (x_2 < x_3))) 1 [] (.plain rfl) (dB _) rfl rfl (fun g8=>trivial) (fun g8=>om),fun _=>by exact .guard (!(decide (x_2 < x_3))) 1 [] (.plain rfl) (dB _) rfl rfl (fun g9=>trivial) (fun g9=>an cN rfl rfl),fun _=>by exact .guard (!(decide (x_2 < x_3))) 3 [20,21] (.plain rfl) (dB _) rfl rfl (fun g10=>⟨g10,g10,trivial⟩) (fun g10=>a7 bJ (aX (gc e11 g10)) (dn (gc e11 g10)) rfl rfl rfl),fun _=>by exact .guard (!(decide (x_2 < x_3))) 2 [22] (.plain rfl) (dB _) rfl rfl (fun g12=>⟨g12,trivial⟩) (fun g12=>aF aK rfl rfl (cI (post:=[]) (k:=.i64) ((cW .i64) b0.Lo) (gc e11 g12) rfl rfl rfl)),fun _=>by exact .guard (!(decide (x_2 < x_3))) 1 [] (.plain rfl) (dB _) rfl rfl (fun g13=>trivial) (fun g13=>om),fun _=>by exact .guard (!(decide (x_2 < x_3))) 1 [] (.plain rfl) (dB _) rfl rfl (fun g14=>trivial) (fun g14=>an cO rfl rfl),fun _=>by exact .guard (!(decide (x_2 < x_3))) 3 [24,25] (.plain rfl) (dB _) rfl rfl (fun g15=>⟨g15,g15,trivial⟩) (fun g15=>a7 bJ (aX (gc e16 g15)) (dn (gc e16 g15)) rfl rfl rfl),fun _=>by exact .guard (!(decide (x_2 < x_3))) 2 [26] (.plain rfl) (dB _) rfl rfl (fun g17=>⟨g17,trivial⟩) (fun g17=>aF aK rfl rfl (cI (post:=((cW .i64) a0.Hi)) (k:=.i64) [] (gc e16 g17) rfl rfl rfl)),fun _=>by exact .guard (!(decide (x_2 < x_3))) 3 [23,27] (.plain rfl) (dB _) rfl rfl (fun g18=>⟨g18,g18,trivial⟩) (fun g18=>bf rfl rfl),fun _=>.p (cn (fun e=>by first | (rw [e]; rfl) | (simp only at e; rw [e]; rfl)) rfl rfl rfl rfl),trivial⟩ rfl rfl ?_
   refine ab.ite h4 rfl (fun _ h4=>?_) (fun _ h4=>?_)
   ·refine ab.seq (ab.aa ?_)
    refine Oc oa (ae.ai ⟨[(4,B false)],[]⟩ rfl (ab.ret (Fin.aP (Fin.au ?_))))
    obtain rfl:=hy5 _ (Option.some.inj h4).symm
    refine Fin.au (Fin.aP (Fin.au ?_))
    obtain rfl:=Option.some.inj h
    refine Fin.ag ⟨[(4,_)],[]⟩ rfl (Fin.aw [.one (.bool false)] (.inl rfl) rfl (.cons (.tmp rfl) .nil) ⟨rfl,rfl⟩)
   ·refine ab.skip (Fin.av (Fin.ag ⟨[(2,_),(3,_),(5,_)],[(101,_),(102,_)]⟩ rfl (Fin.then (ab.aa ?_))))
    refine Oc om (Oc (bA rfl rfl) (Oc oa ?_))
    refine ae.nil ?_
    exact Fin.bZ [2,3,5] [101,102] (IntKind.i64.wrap (i_1 + 1)) (Option.some.inj h4) rfl
  ·refine ab.exit (Fin.aC ?_)
   obtain rfl:=hy5 _ (Option.some.inj h4).symm
   refine Fin.aC (Fin.aS ?_)
   exact Fin.join [] [] () rfl rfl
 ·rintro _ hv
  subst v1
  refine ab.seq (ab.aa ?_)
  refine Oc oa (ae.ai ⟨[(4,B true)],[]⟩ rfl (ab.ret ?_))
  obtain rfl:=Option.some.inj h
  refine Fin.ag ⟨[(4,_)],[]⟩ rfl (Fin.aw [.one (.bool true)] (.inl rfl) rfl (.cons (.tmp rfl) .nil) ⟨rfl,rfl⟩)
def dd (F:Nat) (s0:b9) (x0:oh):Option (b9 × (List Int) × (List Int) × Int) :=
 Option.bind (if (decide (x0.Kind = 0)) = true then (Option.bind (b7 F s0 x0.Id x0.B) (dg fun x_5 x_6=>some (x_5,[],[],x_6))) else (if (decide (x0.Kind = 1)) = true then (Option.bind (b5 F s0 x0.Id) (dg fun x_7 x_8=>some (x_7,[],[],x_8))) else (Option.bind (cE F s0 x0.Id x0.B) (un4 fun x_9 x_10 x_11 x_12=>some (x_9,x_10,x_11,x_12))))) (un4 fun next_1 gained_2 lost_3 e_4=>if (decide (e_4 ≠ 0)) = true then (some (s0,gained_2,lost_3,e_4)) else (some (next_1,gained_2,lost_3,e_4)))
theorem fW {F:Nat} {s0:b9} {x0:oh} {r:b9 × (List Int) × (List Int) × Int} (h:dd F s0 x0 = some r):ar Tryz.prog [] 24 [] [.agg (aD s0),.agg (fZ x0)] (Is [] (.dL [.agg (aD r.1),.one (.sl 1 (r.2.1.map eI)),.one (.sl 1 (r.2.2.1.map eI)),.one (.i r.2.2.2)])):=by
 unfold dd at h
 refine ar.intro 56 Tryz.func24 Tryz.ntmps24 rfl (by simp) fun E=>?_
 show ab _ E ⟨56,[],[],[]⟩ _ ⟨[(0,.b (.agg (aD s0))),(1,.b (.agg (fZ x0)))],[]⟩ _
 refine ab.seq (ab.aa ?_)
 refine Oc (bo (k:=101) rfl rfl) (Oc (bo (k:=102) rfl rfl) (Oc (aT (k:=103) dO rfl) (Oc oa (Oc oa (Oc oa ?_)))))
 refine ae.ai ⟨[(2,Pt 101 0),(3,Pt 102 0),(4,Pt 103 0)],[(101,.box 49 (aD s0)),(102,.box 55 (fZ x0)),(103,.box 49 [.tr af (.leaf),.cZ 0,.cZ 0,.cZ 0,.tr af (.leaf),.cZ 0,.cZ 0,.cZ 0])]⟩ rfl (ab.seq (ab.aa ?_))
 refine Oc (lp aI) (Oc (aT (k:=104) dO rfl) (Oc (aA aI rfl rfl rfl rfl (Nat.le_of_ble_eq_true rfl) rfl) ?_))
 refine ae.ai ⟨[(2,_),(3,_),(4,_),(8,Pt 104 0)],[(101,_),(102,_),(103,_),(104,.box 49 (aD s0))]⟩ rfl (ab.seq (ab.aa ?_))
 refine Oc oa (Oc oa ?_)
 refine ae.ai ⟨[(2,_),(3,_),(4,_),(8,_),(9,.b (.one (.nil))),(10,.b (.one (.nil)))],[(101,_),(102,_),(103,_),(104,_)]⟩ rfl (ab.seq (ab.aa ?_))
 refine Oc oa (ae.ai ⟨[(2,_),(3,_),(4,_),(8,_),(9,_),(10,_)],[(101,_),(102,_),(103,_),(104,_)]⟩ rfl ?_)
 obtain ⟨v1,h2,h⟩:=aN h
 refine ab.c6 (v:=v1) (un4 fun (next_1:b9) (gained_2:List Int) (lost_3:List Int) (e_4:Int)=>⟨[(2,Pt 101 0),(4,Pt 103 0),(8,Pt 104 0),(9,.b (.one (.sl 1 (gained_2.map eI)))),(10,.b (.one (.sl 1 (lost_3.map eI)))),(11,I e_4)],[(101,.box 49 (aD s0)),(103,.box 49 [.tr af (.leaf),.cZ 0,.cZ 0,.cZ 0,.tr af (.leaf),.cZ 0,.cZ 0,.cZ 0]),(104,.box 49 (aD next_1))]⟩) (fun z=>z) ?_ ?_
 ·refine ab.seq (ab.aa ?_)
  refine Oc (an nj rfl rfl) (Oc (aF aK rfl rfl rfl) ?_)
  refine ae.ai ⟨[(2,_),(3,_),(4,_),(8,_),(9,_),(10,_),(14,I x0.Kind)],[(101,_),(102,_),(103,_),(104,_)]⟩ rfl (ab.block (ab.seq (ab.aa ?_)))
  refine Oc (c3 rfl rfl) (Oc oa ?_)
  refine ae.ai ⟨[(2,_),(3,_),(4,_),(8,_),(9,_),(10,_),(14,_),(26,B (decide (x0.Kind = 0)))],[(101,_),(102,_),(103,_),(104,_)]⟩ rfl (ab.ite h2 rfl (fun _ h2=>?_) (fun _ h2=>?_))
  ·refine ab.aa (Oc (lp aI) (Oc (an iu rfl rfl) (Oc (aF aK rfl rfl rfl) (Oc (an ln rfl rfl) (Oc (lp aB) ?_)))))
   refine ae.ag ⟨[(2,_),(4,_),(8,_),(9,_),(10,_),(29,.b (.agg (aD s0))),(31,I x0.Id),(33,.b (.agg (ao x0.B)))],[(101,_),(103,_),(104,_)]⟩ rfl ?_
   obtain ⟨⟨x_5,x_6⟩,e3,h2⟩:=aN h2
   refine Oc (ak (c4 e3) na rfl rfl) (Oc om (Oc (aq rfl rfl) (Oc (aq rfl rfl) (Oc (aA aI rfl rfl rfl rfl (Nat.le_of_ble_eq_true rfl) rfl) (Oc oa ?_)))))
   refine ae.nil (Fin.av (Fin.ag ⟨[(2,_),(4,_),(8,_),(9,_),(10,_),(11,I x_6)],[(101,_),(103,_),(104,.box 49 (aD x_5))]⟩ rfl (Fin.gv 9 1 rfl (by decide) (Fin.gv 10 1 rfl (by decide) ?_))))
   exact Fin.join [2,4,8,9,10,11] [101,103,104] (x_5,[],[],x_6) (Option.some.inj h2) rfl
  ·refine ab.seq (ab.aa ?_)
   refine Oc (c3 rfl rfl) (Oc oa ?_)
   refine ae.ai ⟨[(2,_),(3,_),(4,_),(8,_),(9,_),(10,_),(37,B (decide (x0.Kind = 1)))],[(101,_),(102,_),(103,_),(104,_)]⟩ rfl (ab.ite h2 rfl (fun _ h2=>?_) (fun _ h2=>?_))
   ·refine ab.aa (Oc (lp aI) (Oc (an iu rfl rfl) (Oc (aF aK rfl rfl rfl) ?_)))
    obtain ⟨⟨x_7,x_8⟩,e4,h2⟩:=aN h2
    refine Oc (ak (eO e4) sN rfl rfl) (Oc om ?_)
    refine ae.ag ⟨[(2,_),(4,_),(8,_),(9,_),(10,_),(39,.dL [.agg (aD x_7),.one (.i x_8)])],[(101,_),(103,_),(104,_)]⟩ rfl (Oc (aq rfl rfl) (Oc (aq rfl rfl) (Oc (aA aI rfl rfl rfl rfl (Nat.le_of_ble_eq_true rfl) rfl) (Oc oa ?_))))
    refine ae.nil (Fin.av (Fin.ag ⟨[(2,_),(4,_),(8,_),(9,_),(10,_),(11,I x_8)],[(101,_),(103,_),(104,.box 49 (aD x_7))]⟩ rfl (Fin.gv 9 1 rfl (by decide) (Fin.gv 10 1 rfl (by decide) ?_))))
    exact Fin.join [2,4,8,9,10,11] [101,103,104] (x_7,[],[],x_8) (Option.some.inj h2) rfl
   ·refine ab.aa (Oc (lp aI) (Oc (an iu rfl rfl) (Oc (aF aK rfl rfl rfl) (Oc (an ln rfl rfl) (Oc (lp aB) ?_)))))
    refine ae.ag ⟨[(2,_),(4,_),(8,_),(9,_),(10,_),(16,.b (.agg (aD s0))),(18,I x0.Id),(20,.b (.agg (ao x0.B)))],[(101,_),(103,_),(104,_)]⟩ rfl ?_
    obtain ⟨⟨x_9,x_10,x_11,x_12⟩,e5,h2⟩:=aN h2
    refine Oc (ak (hX e5) vf rfl rfl) (Oc om (Oc (aq rfl rfl) (Oc (aq rfl rfl) (Oc (aq rfl rfl) (Oc (aq rfl rfl) ?_)))))
    refine Oc (aA aI rfl rfl rfl rfl (Nat.le_of_ble_eq_true rfl) rfl) (ae.ag ⟨[(2,_),(4,_),(8,_),(9,_),(10,_),(23,.b (.one (.sl 1 (x_10.map eI)))),(24,.b (.one (.sl 1 (x_11.map eI)))),(25,I x_12)],[(101,_),(103,_),(104,.box 49 (aD x_9))]⟩ rfl (Oc oa (Oc oa (Oc oa ?_))))
    refine ae.nil (Fin.av ?_)
    exact Fin.join [2,4,8,9,10,11] [101,103,104] (x_9,x_10,x_11,x_12) (Option.some.inj h2) rfl
 ·rintro ⟨next_1,gained_2,lost_3,e_4⟩ hv
  subst v1
  refine ab.seq (ab.seq (ab.aa ?_))
  refine Oc om (Oc (jf rfl rfl) ?_)
  refine ae.ai ⟨[(2,_),(4,_),(8,_),(9,_),(10,_),(11,_),(47,B (decide (e_4 ≠ 0)))],[(101,_),(103,_),(104,_)]⟩ rfl (ab.ite h rfl (fun _ h=>?_) (fun _ h=>?_))
  ·refine ab.seq (ab.aa ?_)
   refine Oc (lp aI) (Oc om (Oc om (Oc om (Oc (aA aI rfl rfl rfl rfl (Nat.le_of_ble_eq_true rfl) rfl) (Oc oa ?_)))))
   refine Oc oa (Oc oa ?_)
   refine ae.ai ⟨[(4,_),(5,.b (.one (.sl 1 (gained_2.map eI)))),(6,.b (.one (.sl 1 (lost_3.map eI)))),(7,I e_4)],[(103,.box 49 (aD s0))]⟩ rfl (ab.ret (Fin.au ?_))
   obtain rfl:=Option.some.inj h
   refine Fin.ag ⟨[(4,_),(5,_),(6,_),(7,_)],[(103,_)]⟩ rfl (Fin.aw [.agg (aD s0),.one (.sl 1 (gained_2.map eI)),.one (.sl 1 (lost_3.map eI)),.one (.i e_4)] (.inl rfl) rfl (.cons (.agg aI rfl rfl rfl rfl) (.cons (.tmp rfl) (.cons (.tmp rfl) (.cons (.tmp rfl) .nil)))) ⟨rfl,rfl⟩)
  ·refine ab.skip (Fin.ag ⟨[(4,_),(8,_),(9,_),(10,_),(11,_)],[(103,_),(104,_)]⟩ rfl (Fin.then (ab.seq (ab.aa ?_))))
   refine Oc (lp aI) (Oc om (Oc om (Oc om (Oc (aA aI rfl rfl rfl rfl (Nat.le_of_ble_eq_true rfl) rfl) (Oc oa ?_)))))
   refine Oc oa (Oc oa ?_)
   refine ae.ai ⟨[(4,_),(5,.b (.one (.sl 1 (gained_2.map eI)))),(6,.b (.one (.sl 1 (lost_3.map eI)))),(7,I e_4)],[(103,.box 49 (aD next_1))]⟩ rfl (ab.ret ?_)
   obtain rfl:=Option.some.inj h
   refine Fin.ag ⟨[(4,_),(5,_),(6,_),(7,_)],[(103,_)]⟩ rfl (Fin.aw [.agg (aD next_1),.one (.sl 1 (gained_2.map eI)),.one (.sl 1 (lost_3.map eI)),.one (.i e_4)] (.inl rfl) rfl (.cons (.agg aI rfl rfl rfl rfl) (.cons (.tmp rfl) (.cons (.tmp rfl) (.cons (.tmp rfl) .nil)))) ⟨rfl,rfl⟩)
def eE (F:Nat) (s0:b9):Option (List Int) :=
 Option.bind (oD (fun _=>some true) s0.ids.root) (fun xs_1=>Option.bind (each (fun outf0_3=>fun x_2=>(ee outf0_3 [x_2.id]).bind fun x_4=>some (.inl x_4)) (xs_1) []) (cy (fun outf0_3=>some outf0_3) (fun (_:Unit)=>none)))
theorem mg {F:Nat} {s0:b9} {r:(List Int)} (h:eE F s0 = some r):ar Tryz.prog [] 33 [] [.agg (aD s0)] (Is [(51,.row 3 1 (r.map eI))] (.b (.row 51))):=by
 unfold eE at h
 refine ar.sF 16 Tryz.func33 Tryz.ntmps33 rfl (by simp) fun E=>?_
 show ab _ E ⟨16,[],[],[]⟩ _ ⟨[(0,.b (.agg (aD s0)))],[]⟩ _
 refine ab.seq (ab.aa ?_)
 refine Oc (bo (k:=101) rfl rfl) (Oc oa ?_)
 refine ae.ai ⟨[(1,Pt 101 0)],[(101,.box 49 (aD s0))]⟩ rfl (ab.seq (ab.aa ?_))
 refine Oc (aT (k:=102) rh rfl) (ae.ai ⟨[(1,_),(3,Pt 102 0)],[(101,_),(102,.box 51 [.nil])]⟩ rfl (ab.seq (ab.seq (ab.aa ?_))))
 refine Oc (an jw rfl rfl) (Oc (an fQ rfl rfl) (Oc (aF bI rfl rfl rfl) (Oc (ak pb sJ rfl rfl) ?_)))
 refine ae.ai ⟨[(3,_),(8,.b (.one (.fq 77 [CP.rp [.tr af s0.ids.root],CP.rp [.raw (.func (.func 58) #[] #[])]])))],[(102,_)]⟩ rfl ?_
 obtain ⟨xs_1,e1,h⟩:=aN h
 refine ab.ag ⟨[(3,Pt 102 0),(8,.b (.one (.fq 77 [CP.rp [.tr af s0.ids.root],CP.rp [.raw (.func (.func 58) #[] #[])]])))],[(102,.box 51 [.nil])]⟩ rfl (ab.uD 102 rfl (ab.gi 102 0 105 1 3 rfl rfl (by decide) (by decide) rfl (ab.ag ⟨[(3,_),(8,_)],[(102,.bK 51 [.row 105]),(105,.row 3 1 ([].map eI))]⟩ rfl (ab.sv _ uc _ _ (fun (outf0_3:List Int)=>[(102,.bK 51 [.row 105]),(105,.row 3 1 (outf0_3.map eI))]) (fun (_:Unit)=>([]:List (Nat × OC))) (fun (outf0_3:List Int)=>fun x_2=>⟨[(3,Pt 102 0),(4,Pt 107 0)],[(102,.bK 51 [.row 105]),(105,.row 3 1 (outf0_3.map eI)),(107,.box 87 (ax x_2))]⟩) h (pc mR e1) sI rfl rfl rfl (fun _=>rfl) (fun _=>rfl) (fun _=>rfl) (fun _ _=>rfl) (fun _ _=>rfl) rfl (fun _=>rfl) ?_ ?_ ?_ ?_))))
 ·rintro E l outf0_3 x_2 z _ h2
  refine a6.keep [3,8,9] [102,105] (s':=⟨[(3,Pt 102 0),(8,.b (.one (.fq 77 [CP.rp [.tr af s0.ids.root],CP.rp [.raw (.func (.func 58) #[] #[])]]))),(9,.b (.agg (ax x_2)))],[(102,.bK 51 [.row 105]),(105,.row 3 1 (outf0_3.map eI))]⟩) rfl (a6.aa (.inr ⟨_,rfl⟩) (Oc (aT (k:=107) gl rfl) (Oc (aA bC rfl rfl rfl rfl (Nat.le_of_ble_eq_true rfl) rfl) ?_)))
  refine ae.nil ?_
  exact Fin.ag ⟨[(3,_),(4,Pt 107 0)],[(102,_),(105,_),(107,.box 87 (ax x_2))]⟩ rfl (fun a w hr=>hr)
 ·rintro E l outf0_3 x_2 z _ h2
  refine a6.block (a6.aa (.inr ⟨_,rfl⟩) (Oc (er fg rfl rfl rfl) (Oc (an dR rfl rfl) (Oc (aF aK rfl rfl rfl) (Oc (bp (k:=108) (es:=[x_2.id].map eI) bL rfl rfl (bM fun _=>rfl) rfl (by decide) (by decide) rfl) ?_)))))
  refine ae.forget 102 0 rfl ?_
  obtain ⟨x_4,e3,h2⟩:=aN h2
  refine Oc (cP bL (iC e3) (iB e3) rfl rfl rfl rfl (ek e3) rfl) (Oc (gQ fg rfl rfl rfl rfl (Nat.le_of_ble_eq_true rfl) rfl) ?_)
  refine ae.nil (Fin.av ?_)
  obtain rfl:=Option.some.inj h2
  exact Fin.ag ⟨[],[(102,.bK 51 [.row 105]),(105,.row 3 1 (x_4.map eI))]⟩ rfl (fun a w hr=>⟨_,rfl,hr⟩)
 ·rintro E D outf0_3 h4
  refine ab.seq (ab.aa ?_)
  refine Oc (er fg rfl rfl rfl) (Oc oa ?_)
  refine ae.ai ⟨[(2,.b (.row 105))],[(105,.row 3 1 (outf0_3.map eI))]⟩ rfl (ab.ret ?_)
  obtain rfl:=Option.some.inj h4
  refine Fin.ag ⟨[(2,.b (.row 105))],[(105,.row 3 1 (outf0_3.map eI))]⟩ rfl (Fin.rename 105 51 rfl (by decide) rfl (Fin.ag ⟨[(2,.b (.row 51))],[(51,.row 3 1 (outf0_3.map eI))]⟩ rfl ?_))
  exact Fin.result [.row 51] (.inl rfl) rfl (.cons (.tmp rfl) .nil) ⟨rfl,rfl⟩
 ·rintro E D ⟨⟩ h4
  cases h4
def bj (F:Nat) (s0:List bz) (id0:Int):Option Int :=
 Option.bind (iter F (fun i_1=>if (decide (i_1 < (s0.length:Int))) = true then ((a8 s0 i_1).bind fun x_2=>if (decide (x_2.Id = id0)) = true then (some (.inr (.inr i_1))) else (some (.inl (IntKind.i64.wrap (i_1 + 1))))) else (some (.inr (.inl ())))) 0) (cy (fun _=>some (-1)) (fun y=>some y))
theorem df {F:Nat} {s0:List bz} {id0:Int} {r:Int} (h:bj F s0 id0 = some r):ar Tryz.prog [] 37 [] [.one (.sl 7 (s0.map aj)),.one (.i id0)] (Is [] (.b (.one (.i r)))):=by
 unfold bj at h
 refine ar.intro 20 Tryz.func37 Tryz.ntmps37 rfl (by simp) fun E=>?_
 show ab _ E ⟨20,[],[],[]⟩ _ ⟨[(0,.b (.one (.sl 7 (s0.map aj)))),(1,I id0)],[]⟩ _
 refine ab.seq (ab.aa ?_)
 refine Oc oa (ae.ai ⟨[(0,.b (.one (.sl 7 (s0.map aj)))),(1,I id0)],[]⟩ rfl ?_)
 obtain ⟨v1,h2,h⟩:=aN h
 refine ab.c6 (v:=v1) (fun (_:Unit)=>⟨[],[]⟩) (fun z=>.inl z) ?_ ?_
 ·refine ab.seq (ab.aa ?_)
  refine Oc oa (ae.ai ⟨[(0,_),(1,_),(5,I 0)],[]⟩ rfl (ab.block (ab.c5 h2 (fun (i_1:Int)=>⟨[(0,.b (.one (.sl 7 (s0.map aj)))),(1,I id0),(5,I i_1)],[]⟩) [0,1,5] [] rfl ?_)))
  rintro i_1 o3 h4 hy5
  refine ab.seq (ab.seq (ab.aa ?_))
  refine Oc om (Oc om (Oc (ba mv rfl (List.length_map _)) (Oc (bf rfl rfl) ?_)))
  refine ae.ai ⟨[(0,_),(1,_),(5,_),(9,B (decide (i_1 < (s0.length:Int))))],[]⟩ rfl (ab.ite h4 rfl (fun _ h4=>?_) (fun _ h4=>?_))
  ·refine ab.skip (Fin.ag ⟨[(0,_),(1,_),(5,_)],[]⟩ rfl (Fin.then (ab.seq (ab.block (ab.seq (ab.aa ?_))))))
   refine Oc om (Oc om ?_)
   obtain ⟨x_2,e6,h4⟩:=aN h4
   refine Oc (aM cR (aX e6) (bn (e:=aj) e6) rfl rfl) (Oc (az di rfl rfl) (Oc (ay aK rfl rfl) (Oc om (Oc (c3 rfl rfl) ?_))))
   refine ae.ai ⟨[(0,_),(1,_),(5,_),(18,B (decide (x_2.Id = id0)))],[]⟩ rfl (ab.ite h4 rfl (fun _ h4=>?_) (fun _ h4=>?_))
   ·refine ab.seq (ab.aa ?_)
    refine Oc om (Oc oa ?_)
    refine ae.ai ⟨[(4,I i_1)],[]⟩ rfl (ab.ret (Fin.aP (Fin.au ?_)))
    obtain rfl:=hy5 _ (Option.some.inj h4).symm
    refine Fin.au (Fin.aP (Fin.au ?_))
    obtain rfl:=Option.some.inj h
    refine Fin.ag ⟨[(4,_)],[]⟩ rfl (Fin.aw [.one (.i i_1)] (.inl rfl) rfl (.cons (.tmp rfl) .nil) ⟨rfl,rfl⟩)
   ·refine ab.skip (Fin.av (Fin.ag ⟨[(0,_),(1,_),(5,_)],[]⟩ rfl (Fin.then (ab.aa ?_))))
    refine Oc om (Oc (bA rfl rfl) (Oc oa ?_))
    refine ae.nil ?_
    exact Fin.bZ [0,1,5] [] (IntKind.i64.wrap (i_1 + 1)) (Option.some.inj h4) rfl
  ·refine ab.exit (Fin.aC ?_)
   obtain rfl:=hy5 _ (Option.some.inj h4).symm
   refine Fin.aC (Fin.aS ?_)
   exact Fin.join [] [] () rfl rfl
 ·rintro _ hv
  subst v1
  refine ab.seq (ab.aa ?_)
  refine Oc oa (ae.ai ⟨[(4,I (-1))],[]⟩ rfl (ab.ret ?_))
  obtain rfl:=Option.some.inj h
  refine Fin.ag ⟨[(4,_)],[]⟩ rfl (Fin.aw [.one (.i (-1))] (.inl rfl) rfl (.cons (.tmp rfl) .nil) ⟨rfl,rfl⟩)
def cG (F:Nat) (s0:List bz) (x0:bz):Option (List bz) :=
 Option.bind (iter F (qZ fun out_3 placed_4 i_5=>if (decide (i_5 < (s0.length:Int))) = true then (Option.bind (Option.bind ((br (!placed_4) (a8 s0 i_5)).bind fun x_12=>if ((!placed_4) && (decide (x0.Id < x_12.Id))) = true then ((ee out_3 [x0]).bind fun x_13=>some (x_13,true)) else (some (out_3,placed_4))) (dg fun out_10 placed_11=>(a8 s0 i_5).bind fun x_14=>(ee out_10 [x_14]).bind fun x_15=>some (x_15,placed_11))) (dg fun out_8 placed_9=>some (.inl (out_8,placed_9,IntKind.i64.wrap (i_5 + 1))))) else (some (.inr (out_3,placed_4)))) ([],false,0)) (dg fun out_1 placed_2=>Option.bind (if (!placed_2) = true then ((ee out_1 [x0]).bind fun x_17=>some x_17) else (some out_1)) (fun out_16=>some out_16))
theorem fV (kr0:Nat) {F:Nat} {s0:List bz} {x0:bz} {r:(List bz)} (h:cG F s0 x0 = some r):ar Tryz.prog [] 84 [] [.one (.sl 7 (s0.map aj)),.agg (aj x0)] (Is [(kr0,.row 105 7 (r.map aj))] (.b (.row kr0))):=by
 unfold cG at h
 refine ar.intro 44 Tryz.func84 Tryz.ntmps84 rfl (by simp) fun E=>?_
 show ab _ E ⟨44,[],[],[]⟩ _ ⟨[(0,.b (.one (.sl 7 (s0.map aj)))),(1,.b (.agg (aj x0)))],[]⟩ _
 refine ab.seq (ab.aa ?_)
 refine Oc (bo (k:=101) rfl rfl) (Oc oa ?_)
 refine ae.ai ⟨[(0,.b (.one (.sl 7 (s0.map aj)))),(3,Pt 101 0)],[(101,.box 105 (aj x0))]⟩ rfl (ab.seq (ab.aa ?_))
 refine Oc oa (ae.ai ⟨[(0,_),(3,_),(5,.b (.one (.nil)))],[(101,_)]⟩ rfl (ab.seq (ab.aa ?_)))
 refine Oc oa (ae.ai ⟨[(0,_),(3,_),(5,_),(6,B false)],[(101,_)]⟩ rfl ?_)
 obtain ⟨v1,h2,h⟩:=aN h
 refine ab.c6 (v:=v1) (dg fun (out_1:List bz) (placed_2:Bool)=>⟨[(3,Pt 101 0),(5,.b (.row 103)),(6,B placed_2)],[(101,.box 105 (aj x0)),(103,.row 105 7 (out_1.map aj))]⟩) (fun z=>z) ?_ ?_
 ·refine ab.seq (ab.aa ?_)
  refine Oc oa (ae.ai ⟨[(0,_),(3,_),(5,_),(6,_),(7,I 0)],[(101,_)]⟩ rfl (ab.block (ab.dI 5 103 7 105 rfl (by decide) rfl (ab.c5 h2 (qZ fun (out_3:List bz) (placed_4:Bool) (i_5:Int)=>⟨[(0,.b (.one (.sl 7 (s0.map aj)))),(3,Pt 101 0),(5,.b (.row 103)),(6,B placed_4),(7,I i_5)],[(101,.box 105 (aj x0)),(103,.row 105 7 (out_3.map aj))]⟩) [0,3,5,6,7] [101,103] rfl ?_))))
  rintro ⟨out_3,placed_4,i_5⟩ o3 h4 hy5
  refine ab.seq (ab.seq (ab.aa ?_))
  refine Oc om (Oc om (Oc (ba mv rfl (List.length_map _)) (Oc (bf rfl rfl) ?_)))
  refine ae.ai ⟨[(0,_),(3,_),(5,_),(6,_),(7,_),(11,B (decide (i_5 < (s0.length:Int))))],[(101,_),(103,_)]⟩ rfl (ab.ite h4 rfl (fun _ h4=>?_) (fun _ h4=>?_))
  ·refine ab.skip (Fin.ag ⟨[(0,_),(3,_),(5,_),(6,_),(7,_)],[(101,_),(103,_)]⟩ rfl (Fin.then ?_))
   obtain ⟨v6,h7,h4⟩:=aN h4
   refine ab.c6 (v:=v6) (dg fun (out_8:List bz) (placed_9:Bool)=>⟨[(0,.b (.one (.sl 7 (s0.map aj)))),(3,Pt 101 0),(5,.b (.row 103)),(6,B placed_9),(7,I i_5)],[(101,.box 105 (aj x0)),(103,.row 105 7 (out_8.map aj))]⟩) (fun z=>z) ?_ ?_
   ·refine ab.block ?_
    obtain ⟨v8,h9,h7⟩:=aN h7
    refine ab.c6 (v:=v8) (dg fun (out_10:List bz) (placed_11:Bool)=>⟨[(0,.b (.one (.sl 7 (s0.map aj)))),(3,Pt 101 0),(5,.b (.row 103)),(6,B placed_11),(7,I i_5)],[(101,.box 105 (aj x0)),(103,.row 105 7 (out_10.map aj))]⟩) (fun z=>z) ?_ ?_
    ·refine ab.seq (ab.ag ⟨[(0,_),(3,_),(5,_),(6,_),(7,_)],[(101,_),(103,_)]⟩ rfl ?_)
     obtain ⟨x_12,e13,h9⟩:=aN h9
     refine ab.bD mixed 12 [B placed_4,B (!placed_4),B (!placed_4),.opt (!placed_4) (.one (.sl 7 (s0.map aj))),.opt (!placed_4) (.one (.i i_5)),.opt (!placed_4) (.aO (aj x_12)),.opt (!placed_4) (.aO (aj x_12)),.opt (!placed_4) (.one (.i x_12.Id)),.opt (!placed_4) (.ptr 101 0),.opt (!placed_4) (.one (.i x0.Id)),.opt (!placed_4) (.one (.bool (decide (x0.Id < x_12.Id)))),B ((!placed_4) && (decide (x0.Id < x_12.Id)))] [0,3,5,6,7,25] [101,103] (s':=⟨[(0,_),(3,_),(5,_),(6,_),(7,_),(25,B ((!placed_4) && (decide (x0.Id < x_12.Id))))],[(101,_),(103,_)]⟩) rfl ⟨fun _=>.p om,fun _=>.p (cS rfl),fun _=>.p om,fun _=>by exact .guard (!placed_4) 1 [] (.plain rfl) (fY _) rfl rfl (fun g10=>trivial) (fun g10=>om),fun _=>by exact .guard (!placed_4) 1 [] (.plain rfl) (fY _) rfl rfl (fun g11=>trivial) (fun g11=>om),fun _=>by exact .guard (!placed_4) 3 [17,18] (.plain rfl) (fY _) rfl rfl (fun g12=>⟨g12,g12,trivial⟩) (fun g12=>aM cR (aX (gc e13 g12)) (bn (e:=aj) (gc e13 g12)) rfl rfl),fun _=>by exact .guard (!placed_4) 2 [19] (.plain rfl) (fY _) rfl rfl (fun g14=>⟨g14,trivial⟩) (fun g14=>az di rfl rfl),fun _=>by exact .guard (!placed_4) 2 [20] (.plain rfl) (fY _) rfl rfl (fun g15=>⟨g15,trivial⟩) (fun g15=>ay aK rfl rfl),fun _=>by exact .guard (!placed_4) 1 [] (.plain rfl) (fY _) rfl rfl (fun g16=>trivial) (fun g16=>an di rfl rfl),fun _=>by exact .guard (!placed_4) 2 [22] (.plain rfl) (fY _) rfl rfl (fun g17=>⟨g17,trivial⟩) (fun g17=>aF aK rfl rfl rfl),fun _=>by exact .guard (!placed_4) 3 [21,23] (.plain rfl) (fY _) rfl rfl (fun g18=>⟨g18,g18,trivial⟩) (fun g18=>iD rfl rfl),fun _=>.p (aL (fun e=>e) rfl rfl rfl rfl),trivial⟩ rfl rfl (ab.ite h9 rfl (fun _ h9=>?_) (fun _ h9=>?_))
     ·refine ab.seq (ab.aa ?_)
      refine Oc om (Oc (lp mG) (Oc (bp (k:=104) (es:=[x0].map aj) cR rfl rfl (bM fun _=>rfl) rfl (by decide) (by decide) rfl) ?_))
      obtain ⟨x_13,e19,h9⟩:=aN h9
      refine Oc (cP cR (iC e19) (iB e19) rfl rfl rfl rfl (ek e19) rfl) (Oc oa ?_)
      refine ae.ai ⟨[(0,_),(3,_),(5,_),(7,_)],[(101,_),(103,.row 105 7 (x_13.map aj))]⟩ rfl (ab.aa (Oc oa (ae.nil ?_)))
      exact Fin.join [0,3,5,6,7] [101,103] (x_13,true) (Option.some.inj h9) rfl
     ·refine ab.skip ?_
      exact Fin.join [0,3,5,6,7] [101,103] (out_3,placed_4) (Option.some.inj h9) rfl
    ·rintro ⟨out_10,placed_11⟩ hv
     subst v8
     refine ab.aa (Oc om (Oc om (Oc om ?_)))
     obtain ⟨x_14,e20,h7⟩:=aN h7
     refine Oc (aM cR (aX e20) (bn (e:=aj) e20) rfl rfl) (Oc (bm mG rfl rfl rfl) (Oc (bp (k:=105) (es:=[x_14].map aj) cR rfl rfl (bM fun _=>rfl) rfl (by decide) (by decide) rfl) ?_))
     obtain ⟨x_15,e21,h7⟩:=aN h7
     refine Oc (cP cR (iC e21) (iB e21) rfl rfl rfl rfl (ek e21) rfl) (Oc oa ?_)
     refine ae.nil (Fin.av ?_)
     exact Fin.join [0,3,5,6,7] [101,103] (x_15,placed_11) (Option.some.inj h7) rfl
   ·rintro ⟨out_8,placed_9⟩ hv
    subst v6
    refine ab.aa (Oc om (Oc (bA rfl rfl) (Oc oa ?_)))
    refine ae.nil ?_
    exact Fin.bZ [0,3,5,6,7] [101,103] (out_8,placed_9,IntKind.i64.wrap (i_5 + 1)) (Option.some.inj h4) rfl
  ·refine ab.exit (Fin.aC ?_)
   obtain rfl:=hy5 _ (Option.some.inj h4).symm
   refine Fin.aC (Fin.aS ?_)
   exact Fin.join [3,5,6] [101,103] (out_3,placed_4) rfl rfl
 ·rintro ⟨out_1,placed_2⟩ hv
  subst v1
  obtain ⟨v22,h23,h⟩:=aN h
  refine ab.c6 (v:=v22) (fun (out_16:List bz)=>⟨[(5,.b (.row 103))],[(103,.row 105 7 (out_16.map aj))]⟩) (fun z=>z) ?_ ?_
  ·refine ab.seq (ab.aa ?_)
   refine Oc om (Oc (cS rfl) ?_)
   refine ae.ai ⟨[(3,_),(5,_),(38,B (!placed_2))],[(101,_),(103,_)]⟩ rfl (ab.ite h23 rfl (fun _ h23=>?_) (fun _ h23=>?_))
   ·refine ab.aa (Oc om (Oc (lp mG) (Oc (bp (k:=106) (es:=[x0].map aj) cR rfl rfl (bM fun _=>rfl) rfl (by decide) (by decide) rfl) ?_)))
    obtain ⟨x_17,e24,h23⟩:=aN h23
    refine Oc (cP cR (iC e24) (iB e24) rfl rfl rfl rfl (ek e24) rfl) (Oc oa ?_)
    refine ae.nil ?_
    exact Fin.join [5] [103] x_17 (Option.some.inj h23) rfl
   ·refine ab.skip ?_
    exact Fin.join [5] [103] out_1 (Option.some.inj h23) rfl
  ·rintro out_16 hv
   subst v22
   refine ab.seq (ab.aa ?_)
   refine Oc om (Oc oa ?_)
   refine ae.ai ⟨[(4,.b (.row 103))],[(103,_)]⟩ rfl (ab.ret ?_)
   obtain rfl:=Option.some.inj h
   refine Fin.ag ⟨[(4,_)],[(103,_)]⟩ rfl (Fin.eh 103 kr0 [.row 103] (.inl rfl) rfl (.cons (.tmp rfl) .nil) rfl rfl rfl rfl ⟨rfl,rfl⟩)
def dM (F:Nat) (s0:List bz) (id0:Int) (b0:b8):Option ((List bz) × Int) :=
 (bO F b0).bind fun x_1=>if (!x_1) = true then (some ([],1)) else ((bj F s0 id0).bind fun x_2=>if (decide (0 ≤ x_2)) = true then (some ([],6)) else ((cG F s0 (⟨id0,b0⟩:bz)).bind fun x_3=>some (x_3,0)))
theorem ka (kr0:Nat) {F:Nat} {s0:List bz} {id0:Int} {b0:b8} {r:(List bz) × Int} (h:dM F s0 id0 b0 = some r):ar Tryz.prog [] 61 [] [.one (.sl 7 (s0.map aj)),.one (.i id0),.agg (ao b0)] (Is [(kr0,.row 105 7 (r.1.map aj))] (.dL [.row kr0,.one (.i r.2)])):=by
 unfold dM at h
 refine ar.intro 22 Tryz.func61 Tryz.ntmps61 rfl (by simp) fun E=>?_
 show ab _ E ⟨22,[],[],[]⟩ _ ⟨[(0,.b (.one (.sl 7 (s0.map aj)))),(1,I id0),(2,.b (.agg (ao b0)))],[]⟩ _
 refine ab.seq (ab.aa ?_)
 refine Oc (bo (k:=101) rfl rfl) (Oc oa (Oc oa ?_))
 refine ae.ai ⟨[(0,.b (.one (.sl 7 (s0.map aj)))),(1,I id0),(5,Pt 101 0)],[(101,.box 25 (ao b0))]⟩ rfl (ab.seq (ab.aa ?_))
 refine Oc (lp aB) ?_
 obtain ⟨x_1,e1,h⟩:=aN h
 refine Oc (ak (dK e1) sQ rfl rfl) (Oc oa ?_)
 refine ae.ai ⟨[(0,_),(1,_),(5,_),(8,B x_1)],[(101,_)]⟩ rfl (ab.seq (ab.seq (ab.aa ?_)))
 refine Oc om (Oc (cS rfl) ?_)
 refine ae.ai ⟨[(0,_),(1,_),(5,_),(12,B (!x_1))],[(101,_)]⟩ rfl (ab.ite h rfl (fun _ h=>?_) (fun _ h=>?_))
 ·refine ab.seq (ab.aa ?_)
  refine Oc oa (Oc oa ?_)
  refine ae.ai ⟨[(6,.b (.one (.nil))),(7,I 1)],[]⟩ rfl (ab.ret (Fin.au ?_))
  obtain rfl:=Option.some.inj h
  refine Fin.ag ⟨[(6,_),(7,_)],[]⟩ rfl (Fin.dI 6 102 7 105 rfl (by decide) rfl (Fin.eh 102 kr0 [.row 102,.one (.i 1)] (.inl rfl) rfl (.cons (.tmp rfl) (.cons (.tmp rfl) .nil)) rfl rfl rfl rfl ⟨rfl,rfl⟩))
 ·refine ab.skip (Fin.ag ⟨[(0,_),(1,_),(5,_)],[(101,_)]⟩ rfl (Fin.then (ab.seq (ab.seq (ab.aa ?_)))))
  refine Oc om (Oc om ?_)
  obtain ⟨x_2,e2,h⟩:=aN h
  refine Oc (ak (df e2) qw rfl rfl) (Oc (lY rfl rfl) ?_)
  refine ae.ai ⟨[(0,_),(1,_),(5,_),(16,B (decide (0 ≤ x_2)))],[(101,_)]⟩ rfl (ab.ite h rfl (fun _ h=>?_) (fun _ h=>?_))
  ·refine ab.seq (ab.aa ?_)
   refine Oc oa (Oc oa ?_)
   refine ae.ai ⟨[(6,.b (.one (.nil))),(7,I 6)],[]⟩ rfl (ab.ret (Fin.au ?_))
   obtain rfl:=Option.some.inj h
   refine Fin.ag ⟨[(6,_),(7,_)],[]⟩ rfl (Fin.dI 6 103 7 105 rfl (by decide) rfl (Fin.eh 103 kr0 [.row 103,.one (.i 6)] (.inl rfl) rfl (.cons (.tmp rfl) (.cons (.tmp rfl) .nil)) rfl rfl rfl rfl ⟨rfl,rfl⟩))
  ·refine ab.skip (Fin.ag ⟨[(0,_),(1,_),(5,_)],[(101,_)]⟩ rfl (Fin.then (ab.seq (ab.aa ?_))))
   refine Oc om (Oc om (Oc (lp aB) (Oc (bR ph rfl rfl) ?_)))
   obtain ⟨x_3,e3,h⟩:=aN h
   refine Oc (cz (fV 104 e3) u9 rfl trivial rfl rfl) (Oc oa (Oc oa ?_))
   refine ae.ai ⟨[(6,.b (.row 104)),(7,I 0)],[(104,.row 105 7 (x_3.map aj))]⟩ rfl (ab.ret ?_)
   obtain rfl:=Option.some.inj h
   refine Fin.ag ⟨[(6,_),(7,_)],[(104,_)]⟩ rfl (Fin.eh 104 kr0 [.row 104,.one (.i 0)] (.inl rfl) rfl (.cons (.tmp rfl) (.cons (.tmp rfl) .nil)) rfl rfl rfl rfl ⟨rfl,rfl⟩)
def bV (F:Nat) (s0:List bz) (id0:Int):Option (List bz) :=
 Option.bind (iter F (dg fun out_2 i_3=>if (decide (i_3 < (s0.length:Int))) = true then (Option.bind ((a8 s0 i_3).bind fun x_6=>if (decide (x_6.Id ≠ id0)) = true then ((a8 s0 i_3).bind fun x_7=>(ee out_2 [x_7]).bind fun x_8=>some x_8) else (some out_2)) (fun out_5=>some (.inl (out_5,IntKind.i64.wrap (i_3 + 1))))) else (some (.inr out_2))) ([],0)) (fun out_1=>some out_1)
theorem fc (kr0:Nat) {F:Nat} {s0:List bz} {id0:Int} {r:(List bz)} (h:bV F s0 id0 = some r):ar Tryz.prog [] 85 [] [.one (.sl 7 (s0.map aj)),.one (.i id0)] (Is [(kr0,.row 105 7 (r.map aj))] (.b (.row kr0))):=by
 unfold bV at h
 refine ar.intro 28 Tryz.func85 Tryz.ntmps85 rfl (by simp) fun E=>?_
 show ab _ E ⟨28,[],[],[]⟩ _ ⟨[(0,.b (.one (.sl 7 (s0.map aj)))),(1,I id0)],[]⟩ _
 refine ab.seq (ab.aa ?_)
 refine Oc oa (ae.ai ⟨[(0,.b (.one (.sl 7 (s0.map aj)))),(1,I id0)],[]⟩ rfl (ab.seq (ab.aa ?_)))
 refine Oc oa (ae.ai ⟨[(0,_),(1,_),(5,.b (.one (.nil)))],[]⟩ rfl ?_)
 obtain ⟨v1,h2,h⟩:=aN h
 refine ab.c6 (v:=v1) (fun (out_1:List bz)=>⟨[(5,.b (.row 102))],[(102,.row 105 7 (out_1.map aj))]⟩) (fun z=>z) ?_ ?_
 ·refine ab.seq (ab.aa ?_)
  refine Oc oa (ae.ai ⟨[(0,_),(1,_),(5,_),(6,I 0)],[]⟩ rfl (ab.block (ab.dI 5 102 7 105 rfl (by decide) rfl (ab.c5 h2 (dg fun (out_2:List bz) (i_3:Int)=>⟨[(0,.b (.one (.sl 7 (s0.map aj)))),(1,I id0),(5,.b (.row 102)),(6,I i_3)],[(102,.row 105 7 (out_2.map aj))]⟩) [0,1,5,6] [102] rfl ?_))))
  rintro ⟨out_2,i_3⟩ o3 h4 hy5
  refine ab.seq (ab.seq (ab.aa ?_))
  refine Oc om (Oc om (Oc (ba mv rfl (List.length_map _)) (Oc (bf rfl rfl) ?_)))
  refine ae.ai ⟨[(0,_),(1,_),(5,_),(6,_),(10,B (decide (i_3 < (s0.length:Int))))],[(102,_)]⟩ rfl (ab.ite h4 rfl (fun _ h4=>?_) (fun _ h4=>?_))
  ·refine ab.skip (Fin.ag ⟨[(0,_),(1,_),(5,_),(6,_)],[(102,_)]⟩ rfl (Fin.then ?_))
   obtain ⟨v6,h7,h4⟩:=aN h4
   refine ab.c6 (v:=v6) (fun (out_5:List bz)=>⟨[(0,.b (.one (.sl 7 (s0.map aj)))),(1,I id0),(5,.b (.row 102)),(6,I i_3)],[(102,.row 105 7 (out_5.map aj))]⟩) (fun z=>z) ?_ ?_
   ·refine ab.block (ab.seq (ab.aa ?_))
    refine Oc om (Oc om ?_)
    obtain ⟨x_6,e8,h7⟩:=aN h7
    refine Oc (aM cR (aX e8) (bn (e:=aj) e8) rfl rfl) (Oc (az di rfl rfl) (Oc (ay aK rfl rfl) (Oc om (Oc (jf rfl rfl) ?_))))
    refine ae.ai ⟨[(0,_),(1,_),(5,_),(6,_),(19,B (decide (x_6.Id ≠ id0)))],[(102,_)]⟩ rfl (ab.ite h7 rfl (fun _ h7=>?_) (fun _ h7=>?_))
    ·refine ab.aa (Oc om (Oc om (Oc om ?_)))
     obtain ⟨x_7,e9,h7⟩:=aN h7
     refine Oc (aM cR (aX e9) (bn (e:=aj) e9) rfl rfl) (Oc (bm mG rfl rfl rfl) (Oc (bp (k:=103) (es:=[x_7].map aj) cR rfl rfl (bM fun _=>rfl) rfl (by decide) (by decide) rfl) ?_))
     obtain ⟨x_8,e10,h7⟩:=aN h7
     refine Oc (cP cR (iC e10) (iB e10) rfl rfl rfl rfl (ek e10) rfl) (Oc oa ?_)
     refine ae.nil (Fin.av ?_)
     exact Fin.join [0,1,5,6] [102] x_8 (Option.some.inj h7) rfl
    ·refine ab.skip (Fin.av ?_)
     exact Fin.join [0,1,5,6] [102] out_2 (Option.some.inj h7) rfl
   ·rintro out_5 hv
    subst v6
    refine ab.aa (Oc om (Oc (bA rfl rfl) (Oc oa ?_)))
    refine ae.nil ?_
    exact Fin.bZ [0,1,5,6] [102] (out_5,IntKind.i64.wrap (i_3 + 1)) (Option.some.inj h4) rfl
  ·refine ab.exit (Fin.aC ?_)
   obtain rfl:=hy5 _ (Option.some.inj h4).symm
   refine Fin.aC (Fin.aS ?_)
   exact Fin.join [5] [102] out_2 rfl rfl
 ·rintro out_1 hv
  subst v1
  refine ab.seq (ab.aa ?_)
  refine Oc om (Oc oa ?_)
  refine ae.ai ⟨[(4,.b (.row 102))],[(102,_)]⟩ rfl (ab.ret ?_)
  obtain rfl:=Option.some.inj h
  refine Fin.ag ⟨[(4,_)],[(102,_)]⟩ rfl (Fin.eh 102 kr0 [.row 102] (.inl rfl) rfl (.cons (.tmp rfl) .nil) rfl rfl rfl rfl ⟨rfl,rfl⟩)
def du (F:Nat) (s0:List bz) (id0:Int):Option ((List bz) × Int) :=
 (bj F s0 id0).bind fun x_1=>if (decide (x_1 < 0)) = true then (some ([],5)) else ((bV F s0 id0).bind fun x_2=>some (x_2,0))
theorem iS (kr0:Nat) {F:Nat} {s0:List bz} {id0:Int} {r:(List bz) × Int} (h:du F s0 id0 = some r):ar Tryz.prog [] 62 [] [.one (.sl 7 (s0.map aj)),.one (.i id0)] (Is [(kr0,.row 105 7 (r.1.map aj))] (.dL [.row kr0,.one (.i r.2)])):=by
 unfold du at h
 refine ar.intro 13 Tryz.func62 Tryz.ntmps62 rfl (by simp) fun E=>?_
 show ab _ E ⟨13,[],[],[]⟩ _ ⟨[(0,.b (.one (.sl 7 (s0.map aj)))),(1,I id0)],[]⟩ _
 refine ab.seq (ab.aa ?_)
 refine Oc oa (Oc oa ?_)
 refine ae.ai ⟨[(0,.b (.one (.sl 7 (s0.map aj)))),(1,I id0)],[]⟩ rfl (ab.seq (ab.seq (ab.aa ?_)))
 refine Oc om (Oc om ?_)
 obtain ⟨x_1,e1,h⟩:=aN h
 refine Oc (ak (df e1) qw rfl rfl) (Oc (bf rfl rfl) ?_)
 refine ae.ai ⟨[(0,_),(1,_),(9,B (decide (x_1 < 0)))],[]⟩ rfl (ab.ite h rfl (fun _ h=>?_) (fun _ h=>?_))
 ·refine ab.seq (ab.aa ?_)
  refine Oc oa (Oc oa ?_)
  refine ae.ai ⟨[(4,.b (.one (.nil))),(5,I 5)],[]⟩ rfl (ab.ret (Fin.au ?_))
  obtain rfl:=Option.some.inj h
  refine Fin.ag ⟨[(4,_),(5,_)],[]⟩ rfl (Fin.dI 4 101 7 105 rfl (by decide) rfl (Fin.eh 101 kr0 [.row 101,.one (.i 5)] (.inl rfl) rfl (.cons (.tmp rfl) (.cons (.tmp rfl) .nil)) rfl rfl rfl rfl ⟨rfl,rfl⟩))
 ·refine ab.skip (Fin.ag ⟨[(0,_),(1,_)],[]⟩ rfl (Fin.then (ab.seq (ab.aa ?_))))
  refine Oc om (Oc om ?_)
  obtain ⟨x_2,e2,h⟩:=aN h
  refine Oc (cz (fc 102 e2) u7 rfl trivial rfl rfl) (Oc oa (Oc oa ?_))
  refine ae.ai ⟨[(4,.b (.row 102)),(5,I 0)],[(102,.row 105 7 (x_2.map aj))]⟩ rfl (ab.ret ?_)
  obtain rfl:=Option.some.inj h
  refine Fin.ag ⟨[(4,_),(5,_)],[(102,_)]⟩ rfl (Fin.eh 102 kr0 [.row 102,.one (.i 0)] (.inl rfl) rfl (.cons (.tmp rfl) (.cons (.tmp rfl) .nil)) rfl rfl rfl rfl ⟨rfl,rfl⟩)
def dH (F:Nat) (s0:List bz) (id0:Int) (b0:b8):Option lG :=
 (bO F b0).bind fun x_1=>if (!x_1) = true then (some (⟨[],[],[],1⟩:lG)) else ((bj F s0 id0).bind fun x_2=>if (decide (x_2 < 0)) = true then (some (⟨[],[],[],5⟩:lG)) else ((bV F s0 id0).bind fun x_3=>(cG F x_3 (⟨id0,b0⟩:bz)).bind fun x_4=>Option.bind (iter F (qZ fun Gained_7 Lost_8 i_9=>if (decide (i_9 < (x_3.length:Int))) = true then (Option.bind ((a8 x_3 i_9).bind fun x_14=>(a8 s0 x_2).bind fun x_15=>(bF F x_14.B x_15.B).bind fun x_16=>(a8 x_3 i_9).bind fun x_17=>(bF F x_17.B b0).bind fun x_18=>Option.bind (if (x_18 && (!x_16)) = true then ((a8 x_3 i_9).bind fun x_20=>(ee Gained_7 [x_20.Id]).bind fun x_21=>some x_21) else (some Gained_7)) (fun Gained_19=>if (x_16 && (!x_18)) = true then ((a8 x_3 i_9).bind fun x_22=>(ee Lost_8 [x_22.Id]).bind fun x_23=>some (Gained_19,x_23)) else (some (Gained_19,Lost_8)))) (dg fun Gained_12 Lost_13=>some (.inl (Gained_12,Lost_13,IntKind.i64.wrap (i_9 + 1))))) else (some (.inr (Gained_7,Lost_8)))) ([],[],0)) (dg fun Gained_5 Lost_6=>some (⟨x_4,Gained_5,Lost_6,0⟩:lG))))
theorem jG {F:Nat} {s0:List bz} {id0:Int} {b0:b8} {r:lG} (h:dH F s0 id0 b0 = some r):ar Tryz.prog [] 63 [] [.one (.sl 7 (s0.map aj)),.one (.i id0),.agg (ao b0)] (Is [] (.b (.agg (oN r)))):=by
 unfold dH at h
 refine ar.intro 89 Tryz.func63 Tryz.ntmps63 rfl (by simp) fun E=>?_
 show ab _ E ⟨89,[],[],[]⟩ _ ⟨[(0,.b (.one (.sl 7 (s0.map aj)))),(1,I id0),(2,.b (.agg (ao b0)))],[]⟩ _
 refine ab.seq (ab.aa ?_)
 refine Oc (bo (k:=101) rfl rfl) (Oc (aT (k:=102) mF rfl) ?_)
 refine ae.ai ⟨[(0,.b (.one (.sl 7 (s0.map aj)))),(1,I id0),(5,Pt 101 0),(6,Pt 102 0)],[(101,.box 25 (ao b0)),(102,.box 70 [.nil,.nil,.nil,.i 0])]⟩ rfl (ab.seq (ab.aa ?_))
 refine Oc (lp aB) ?_
 obtain ⟨x_1,e1,h⟩:=aN h
 refine Oc (ak (dK e1) sQ rfl rfl) (Oc oa ?_)
 refine ae.ai ⟨[(0,_),(1,_),(5,_),(6,_),(7,B x_1)],[(101,_),(102,_)]⟩ rfl (ab.seq (ab.seq (ab.aa ?_)))
 refine Oc om (Oc (cS rfl) ?_)
 refine ae.ai ⟨[(0,_),(1,_),(5,_),(6,_),(17,B (!x_1))],[(101,_),(102,_)]⟩ rfl (ab.ite h rfl (fun _ h=>?_) (fun _ h=>?_))
 ·refine ab.seq (ab.aa ?_)
  refine Oc (bB.nilA (.sl (size:=7) (by decide) (.same (.same (.same (.nil))))) (bR jx rfl rfl)) (Oc (aA ef rfl rfl rfl rfl (Nat.le_of_ble_eq_true rfl) rfl) ?_)
  refine ae.ai ⟨[(6,_)],[(102,.box 70 [.sl 7 ([].map aj),.nil,.nil,.i 1])]⟩ rfl (ab.ret (Fin.au ?_))
  obtain rfl:=Option.some.inj h
  refine Fin.ag ⟨[(6,_)],[(102,_)]⟩ rfl (Fin.gb 102 1 1 rfl rfl (by decide) (Fin.gb 102 2 1 rfl rfl (by decide) (Fin.aw [.agg [.sl 7 ([].map aj),.sl 1 ([].map eI),.sl 1 ([].map eI),.i 1]] (.inl rfl) rfl (.cons (.agg ef rfl rfl rfl rfl) .nil) ⟨rfl,rfl⟩)))
 ·refine ab.skip (Fin.ag ⟨[(0,_),(1,_),(5,_),(6,_)],[(101,_),(102,_)]⟩ rfl (Fin.then (ab.seq (ab.aa ?_))))
  refine Oc om (Oc om ?_)
  obtain ⟨x_2,e2,h⟩:=aN h
  refine Oc (ak (df e2) qw rfl rfl) (Oc oa ?_)
  refine ae.ai ⟨[(0,_),(1,_),(5,_),(6,_),(8,I x_2)],[(101,_),(102,_)]⟩ rfl (ab.seq (ab.seq (ab.aa ?_)))
  refine Oc om (Oc (bf rfl rfl) ?_)
  refine ae.ai ⟨[(0,_),(1,_),(5,_),(6,_),(8,_),(23,B (decide (x_2 < 0)))],[(101,_),(102,_)]⟩ rfl (ab.ite h rfl (fun _ h=>?_) (fun _ h=>?_))
  ·refine ab.seq (ab.aa ?_)
   refine Oc (bB.nilA (.sl (size:=7) (by decide) (.same (.same (.same (.nil))))) (bR jx rfl rfl)) (Oc (aA ef rfl rfl rfl rfl (Nat.le_of_ble_eq_true rfl) rfl) ?_)
   refine ae.ai ⟨[(6,_)],[(102,.box 70 [.sl 7 ([].map aj),.nil,.nil,.i 5])]⟩ rfl (ab.ret (Fin.au ?_))
   obtain rfl:=Option.some.inj h
   refine Fin.ag ⟨[(6,_)],[(102,_)]⟩ rfl (Fin.gb 102 1 1 rfl rfl (by decide) (Fin.gb 102 2 1 rfl rfl (by decide) (Fin.aw [.agg [.sl 7 ([].map aj),.sl 1 ([].map eI),.sl 1 ([].map eI),.i 5]] (.inl rfl) rfl (.cons (.agg ef rfl rfl rfl rfl) .nil) ⟨rfl,rfl⟩)))
  ·refine ab.skip (Fin.ag ⟨[(0,_),(1,_),(5,_),(6,_),(8,_)],[(101,_),(102,_)]⟩ rfl (Fin.then (ab.seq (ab.aa ?_))))
   refine Oc om (Oc om ?_)
   obtain ⟨x_3,e3,h⟩:=aN h
   refine Oc (cz (fc 103 e3) u7 rfl trivial rfl rfl) (Oc oa ?_)
   refine ae.ai ⟨[(0,_),(1,_),(5,_),(6,_),(8,_),(9,.b (.row 103))],[(101,_),(102,_),(103,.row 105 7 (x_3.map aj))]⟩ rfl (ab.seq (ab.aa ?_))
   refine Oc om (Oc om (Oc (lp aB) (Oc (bR ph rfl rfl) ?_)))
   refine ae.cU 103 rfl (ae.ag ⟨[(0,.b (.one (.sl 7 (s0.map aj)))),(5,Pt 101 0),(6,Pt 102 0),(8,I x_2),(9,.b (.one (.sl 7 (x_3.map aj)))),(28,.b (.one (.sl 7 (x_3.map aj)))),(31,.b (.agg (.i id0 :: (ao b0))))],[(101,.box 25 (ao b0)),(102,.box 70 [.nil,.nil,.nil,.i 0])]⟩ rfl ?_)
   obtain ⟨x_4,e4,h⟩:=aN h
   refine Oc (cz (fV 104 e4) u9 rfl trivial rfl rfl) (ae.cU 104 rfl (Oc (bR jx rfl rfl) (Oc (aT (k:=105) mF rfl) (Oc (aA ef rfl rfl rfl rfl (Nat.le_of_ble_eq_true rfl) rfl) ?_))))
   refine ae.ai ⟨[(0,.b (.one (.sl 7 (s0.map aj)))),(5,Pt 101 0),(6,Pt 102 0),(8,I x_2),(9,.b (.one (.sl 7 (x_3.map aj)))),(10,Pt 105 0)],[(101,.box 25 (ao b0)),(102,.box 70 [.nil,.nil,.nil,.i 0]),(105,.box 70 [.sl 7 (x_4.map aj),.nil,.nil,.i 0])]⟩ rfl ?_
   obtain ⟨v5,h6,h⟩:=aN h
   refine ab.c6 (v:=v5) (dg fun (Gained_5:List Int) (Lost_6:List Int)=>⟨[(6,Pt 102 0),(10,Pt 105 0)],[(102,.box 70 [.nil,.nil,.nil,.i 0]),(105,.bK 70 [.one (.sl 7 (x_4.map aj)),.row 107,.row 109,.one (.i 0)]),(107,.row 3 1 (Gained_5.map eI)),(109,.row 3 1 (Lost_6.map eI))]⟩) (fun z=>z) ?_ ?_
   ·refine ab.seq (ab.aa ?_)
    refine Oc oa (ae.ai ⟨[(0,.b (.one (.sl 7 (s0.map aj)))),(5,Pt 101 0),(6,Pt 102 0),(8,I x_2),(9,.b (.one (.sl 7 (x_3.map aj)))),(10,Pt 105 0),(11,I 0)],[(101,.box 25 (ao b0)),(102,.box 70 [.nil,.nil,.nil,.i 0]),(105,.box 70 [.sl 7 (x_4.map aj),.nil,.nil,.i 0])]⟩ rfl (ab.block (ab.uD 105 rfl (ab.gi 105 1 107 1 3 rfl rfl (by decide) (by decide) rfl (ab.gi 105 2 109 1 3 rfl rfl (by decide) (by decide) rfl ?_)))))
    refine ab.c5 h6 (qZ fun (Gained_7:List Int) (Lost_8:List Int) (i_9:Int)=>⟨[(0,.b (.one (.sl 7 (s0.map aj)))),(5,Pt 101 0),(6,Pt 102 0),(8,I x_2),(9,.b (.one (.sl 7 (x_3.map aj)))),(10,Pt 105 0),(11,I i_9)],[(101,.box 25 (ao b0)),(102,.box 70 [.nil,.nil,.nil,.i 0]),(105,.bK 70 [.one (.sl 7 (x_4.map aj)),.row 107,.row 109,.one (.i 0)]),(107,.row 3 1 (Gained_7.map eI)),(109,.row 3 1 (Lost_8.map eI))]⟩) [0,5,6,8,9,10,11] [101,102,105,107,109] rfl ?_
    rintro ⟨Gained_7,Lost_8,i_9⟩ o7 h8 hy9
    refine ab.seq (ab.seq (ab.aa ?_))
    refine Oc om (Oc om (Oc (ba mv rfl (List.length_map _)) (Oc (bf rfl rfl) ?_)))
    refine ae.ai ⟨[(0,_),(5,_),(6,_),(8,_),(9,_),(10,_),(11,_),(37,B (decide (i_9 < (x_3.length:Int))))],[(101,_),(102,_),(105,_),(107,_),(109,_)]⟩ rfl (ab.ite h8 rfl (fun _ h8=>?_) (fun _ h8=>?_))
    ·refine ab.skip (Fin.ag ⟨[(0,_),(5,_),(6,_),(8,_),(9,_),(10,_),(11,_)],[(101,_),(102,_),(105,_),(107,_),(109,_)]⟩ rfl (Fin.then ?_))
     obtain ⟨v10,h11,h8⟩:=aN h8
     refine ab.c6 (v:=v10) (dg fun (Gained_12:List Int) (Lost_13:List Int)=>⟨[(0,.b (.one (.sl 7 (s0.map aj)))),(5,Pt 101 0),(6,Pt 102 0),(8,I x_2),(9,.b (.one (.sl 7 (x_3.map aj)))),(10,Pt 105 0),(11,I i_9)],[(101,.box 25 (ao b0)),(102,.box 70 [.nil,.nil,.nil,.i 0]),(105,.bK 70 [.one (.sl 7 (x_4.map aj)),.row 107,.row 109,.one (.i 0)]),(107,.row 3 1 (Gained_12.map eI)),(109,.row 3 1 (Lost_13.map eI))]⟩) (fun z=>z) ?_ ?_
     ·refine ab.block (ab.seq ?_)
      refine ab.ag ⟨[(0,_),(5,_),(6,_),(8,_),(9,_),(10,_),(11,_)],[(101,_),(102,_),(105,_),(107,_),(109,_)]⟩ rfl ?_
      obtain ⟨x_14,e12,h11⟩:=aN h11
      obtain ⟨x_15,e13,h11⟩:=aN h11
      obtain ⟨x_16,e14,h11⟩:=aN h11
      refine ab.bD mixed 12 [.b (.one (.sl 7 (x_3.map aj))),I i_9,.b (.aO (aj x_14)),.b (.aO (ao x_14.B)),.b (.agg (ao x_14.B)),.b (.one (.sl 7 (s0.map aj))),I x_2,.b (.aO (aj x_15)),.b (.aO (ao x_15.B)),.b (.agg (ao x_15.B)),B x_16,B x_16] [0,5,6,8,9,10,11,12] [101,102,105,107,109] (s':=⟨[(0,_),(5,_),(6,_),(8,_),(9,_),(10,_),(11,_),(12,B x_16)],[(101,_),(102,_),(105,_),(107,_),(109,_)]⟩) rfl ⟨fun _=>.p om,fun _=>.p om,fun _=>.p (aM cR (aX e12) (bn (e:=aj) e12) rfl rfl),fun _=>by exact .p (az fG rfl rfl),fun _=>.p (bm aB rfl rfl rfl),fun _=>.p om,fun _=>.p om,fun _=>.p (aM cR (aX e13) (bn (e:=aj) e13) rfl rfl),fun _=>by exact .p (az fG rfl rfl),fun _=>.p (bm aB rfl rfl rfl),fun _=>.p (ak (de e14) qy rfl rfl),fun _=>.p oa,trivial⟩ rfl rfl (ab.seq (ab.ag ⟨[(0,_),(5,_),(6,_),(8,_),(9,_),(10,_),(11,_),(12,_)],[(101,_),(102,_),(105,_),(107,_),(109,_)]⟩ rfl ?_))
      obtain ⟨x_17,e15,h11⟩:=aN h11
      obtain ⟨x_18,e16,h11⟩:=aN h11
      refine ab.bD mixed 8 [.b (.one (.sl 7 (x_3.map aj))),I i_9,.b (.aO (aj x_17)),.b (.aO (ao x_17.B)),.b (.agg (ao x_17.B)),.b (.agg (ao b0)),B x_18,B x_18] [0,5,6,8,9,10,11,12,13] [101,102,105,107,109] (s':=⟨[(0,_),(5,_),(6,_),(8,_),(9,_),(10,_),(11,_),(12,_),(13,B x_18)],[(101,_),(102,_),(105,_),(107,_),(109,_)]⟩) rfl ⟨fun _=>.p om,fun _=>.p om,fun _=>.p (aM cR (aX e15) (bn (e:=aj) e15) rfl rfl),fun _=>by exact .p (az fG rfl rfl),fun _=>.p (bm aB rfl rfl rfl),fun _=>.p (lp aB),fun _=>.p (ak (de e16) qy rfl rfl),fun _=>.p oa,trivial⟩ rfl rfl ?_
      obtain ⟨v17,h18,h11⟩:=aN h11
      refine ab.c6 (v:=v17) (fun (Gained_19:List Int)=>⟨[(0,.b (.one (.sl 7 (s0.map aj)))),(5,Pt 101 0),(6,Pt 102 0),(8,I x_2),(9,.b (.one (.sl 7 (x_3.map aj)))),(10,Pt 105 0),(11,I i_9),(12,B x_16),(13,B x_18)],[(101,.box 25 (ao b0)),(102,.box 70 [.nil,.nil,.nil,.i 0]),(105,.bK 70 [.one (.sl 7 (x_4.map aj)),.row 107,.row 109,.one (.i 0)]),(107,.row 3 1 (Gained_19.map eI)),(109,.row 3 1 (Lost_8.map eI))]⟩) (fun z=>z) ?_ ?_
      ·refine ab.seq (ab.aa ?_)
       refine Oc om (Oc om ?_)
       refine eU x_18 [] (fun g19=>trivial) (fun g19=>om) (eU x_18 [60] (fun g20=>by exact ⟨g20,trivial⟩) (fun g20=>cS rfl) (Oc (aL (fun e=>e) rfl rfl rfl rfl) (ae.ai ⟨[(0,_),(5,_),(6,_),(8,_),(9,_),(10,_),(11,_),(12,_),(13,_),(62,B (x_18 && (!x_16)))],[(101,_),(102,_),(105,_),(107,_),(109,_)]⟩ rfl (ab.ite h18 rfl (fun _ h18=>?_) (fun _ h18=>?_)))))
       ·refine ab.ag ⟨[(0,_),(5,_),(6,_),(8,_),(9,_),(10,_),(11,_),(12,_),(13,_)],[(101,_),(102,_),(105,_),(107,_),(109,_)]⟩ rfl ?_
        obtain ⟨x_20,e21,h18⟩:=aN h18
        obtain ⟨x_21,e22,h18⟩:=aN h18
        refine ab.jt mixed 8 [Pt 105 1,.b (.row 107),.b (.one (.sl 7 (x_3.map aj))),I i_9,.b (.aO (aj x_20)),.b (.aO (aj x_20)),I x_20.Id,.b (.one (.sl 1 ([x_20.Id].map eI)))] [0,5,6,8,9,10,11,12,13] [101,102,105,107,109] (s':=⟨[(0,.b (.one (.sl 7 (s0.map aj)))),(5,Pt 101 0),(6,Pt 102 0),(8,I x_2),(9,.b (.one (.sl 7 (x_3.map aj)))),(10,Pt 105 0),(11,I i_9),(12,B x_16),(13,B x_18)],[(101,.box 25 (ao b0)),(102,.box 70 [.nil,.nil,.nil,.i 0]),(105,.bK 70 [.one (.sl 7 (x_4.map aj)),.row 107,.row 109,.one (.i 0)]),(107,.row 3 1 (x_21.map eI)),(109,.row 3 1 (Lost_8.map eI))]⟩) rfl ⟨fun _=>.p (an ni rfl rfl),fun _=>.p (er fg rfl rfl rfl),fun _=>.p om,fun _=>.p om,fun _=>.p (aM cR (aX e21) (bn (e:=aj) e21) rfl rfl),fun _=>by exact .p (az di rfl rfl),fun _=>.p (ay aK rfl rfl),fun _=>.p (cK (es:=[x_20.Id].map eI) bL rfl rfl (bM fun _=>rfl) rfl (by decide) (by decide)),trivial⟩ ⟨_,by exact .forget 105 1 rfl (.plain rfl (nt bL (iC e22) (iB e22) rfl rfl rfl (ek e22) rfl)),⟨_,by exact .p (an ni rfl rfl),⟨_,by exact .p (gQ fg rfl rfl rfl rfl (Nat.le_of_ble_eq_true rfl) rfl),rfl⟩⟩⟩ rfl ?_
        exact Fin.join [0,5,6,8,9,10,11,12,13] [101,102,105,107,109] x_21 (Option.some.inj h18) rfl
       ·refine ab.skip ?_
        exact Fin.join [0,5,6,8,9,10,11,12,13] [101,102,105,107,109] Gained_7 (Option.some.inj h18) rfl
      ·rintro Gained_19 hv
       subst v17
       refine ab.seq (ab.aa ?_)
       refine Oc om (Oc om ?_)
       refine eU x_16 [] (fun g23=>trivial) (fun g23=>om) (eU x_16 [75] (fun g24=>by exact ⟨g24,trivial⟩) (fun g24=>cS rfl) (Oc (aL (fun e=>e) rfl rfl rfl rfl) (ae.ai ⟨[(0,_),(5,_),(6,_),(8,_),(9,_),(10,_),(11,_),(77,B (x_16 && (!x_18)))],[(101,_),(102,_),(105,_),(107,_),(109,_)]⟩ rfl (ab.ite h11 rfl (fun _ h11=>?_) (fun _ h11=>?_)))))
       ·refine ab.ag ⟨[(0,_),(5,_),(6,_),(8,_),(9,_),(10,_),(11,_)],[(101,_),(102,_),(105,_),(107,_),(109,_)]⟩ rfl ?_
        obtain ⟨x_22,e25,h11⟩:=aN h11
        obtain ⟨x_23,e26,h11⟩:=aN h11
        refine ab.jt mixed 8 [Pt 105 2,.b (.row 109),.b (.one (.sl 7 (x_3.map aj))),I i_9,.b (.aO (aj x_22)),.b (.aO (aj x_22)),I x_22.Id,.b (.one (.sl 1 ([x_22.Id].map eI)))] [0,5,6,8,9,10,11] [101,102,105,107,109] (s':=⟨[(0,.b (.one (.sl 7 (s0.map aj)))),(5,Pt 101 0),(6,Pt 102 0),(8,I x_2),(9,.b (.one (.sl 7 (x_3.map aj)))),(10,Pt 105 0),(11,I i_9)],[(101,.box 25 (ao b0)),(102,.box 70 [.nil,.nil,.nil,.i 0]),(105,.bK 70 [.one (.sl 7 (x_4.map aj)),.row 107,.row 109,.one (.i 0)]),(107,.row 3 1 (Gained_19.map eI)),(109,.row 3 1 (x_23.map eI))]⟩) rfl ⟨fun _=>.p (an nh rfl rfl),fun _=>.p (er fg rfl rfl rfl),fun _=>.p om,fun _=>.p om,fun _=>.p (aM cR (aX e25) (bn (e:=aj) e25) rfl rfl),fun _=>by exact .p (az di rfl rfl),fun _=>.p (ay aK rfl rfl),fun _=>.p (cK (es:=[x_22.Id].map eI) bL rfl rfl (bM fun _=>rfl) rfl (by decide) (by decide)),trivial⟩ ⟨_,by exact .forget 105 2 rfl (.plain rfl (nt bL (iC e26) (iB e26) rfl rfl rfl (ek e26) rfl)),⟨_,by exact .p (an nh rfl rfl),⟨_,by exact .p (gQ fg rfl rfl rfl rfl (Nat.le_of_ble_eq_true rfl) rfl),rfl⟩⟩⟩ rfl (Fin.av ?_)
        exact Fin.join [0,5,6,8,9,10,11] [101,102,105,107,109] (Gained_19,x_23) (Option.some.inj h11) rfl
       ·refine ab.skip (Fin.av ?_)
        exact Fin.join [0,5,6,8,9,10,11] [101,102,105,107,109] (Gained_19,Lost_8) (Option.some.inj h11) rfl
     ·rintro ⟨Gained_12,Lost_13⟩ hv
      subst v10
      refine ab.aa (Oc om (Oc (bA rfl rfl) (Oc oa ?_)))
      refine ae.nil ?_
      exact Fin.bZ [0,5,6,8,9,10,11] [101,102,105,107,109] (Gained_12,Lost_13,IntKind.i64.wrap (i_9 + 1)) (Option.some.inj h8) rfl
    ·refine ab.exit (Fin.aC ?_)
     obtain rfl:=hy9 _ (Option.some.inj h8).symm
     refine Fin.aC (Fin.aS ?_)
     exact Fin.join [6,10] [102,105,107,109] (Gained_7,Lost_8) rfl rfl
   ·rintro ⟨Gained_5,Lost_6⟩ hv
    subst v5
    refine ab.seq (ab.aa ?_)
    refine ae.cU 107 rfl (ae.cU 109 rfl (Oc (s8 ef rfl rfl rfl rfl) (Oc (aA ef rfl rfl rfl rfl (Nat.le_of_ble_eq_true rfl) rfl) ?_)))
    refine ae.ai ⟨[(6,Pt 102 0)],[(102,.box 70 [.sl 7 (x_4.map aj),.sl 1 (Gained_5.map eI),.sl 1 (Lost_6.map eI),.i 0])]⟩ rfl (ab.ret ?_)
    obtain rfl:=Option.some.inj h
    refine Fin.ag ⟨[(6,_)],[(102,_)]⟩ rfl (Fin.aw [.agg [.sl 7 (x_4.map aj),.sl 1 (Gained_5.map eI),.sl 1 (Lost_6.map eI),.i 0]] (.inl rfl) rfl (.cons (.agg ef rfl rfl rfl rfl) .nil) ⟨rfl,rfl⟩)
def dA (F:Nat) (s0:List bz) (x0:oh):Option lG :=
 if (decide (x0.Kind = 0)) = true then (Option.bind (dM F s0 x0.Id x0.B) (dg fun x_1 x_2=>some (⟨x_1,[],[],x_2⟩:lG))) else (if (decide (x0.Kind = 1)) = true then (Option.bind (du F s0 x0.Id) (dg fun x_3 x_4=>some (⟨x_3,[],[],x_4⟩:lG))) else ((dH F s0 x0.Id x0.B).bind fun x_5=>some x_5))
theorem kC {F:Nat} {s0:List bz} {x0:oh} {r:lG} (h:dA F s0 x0 = some r):ar Tryz.prog [] 34 [] [.one (.sl 7 (s0.map aj)),.agg (fZ x0)] (Is [] (.b (.agg (oN r)))):=by
 unfold dA at h
 refine ar.intro 43 Tryz.func34 Tryz.ntmps34 rfl (by simp) fun E=>?_
 show ab _ E ⟨43,[],[],[]⟩ _ ⟨[(0,.b (.one (.sl 7 (s0.map aj)))),(1,.b (.agg (fZ x0)))],[]⟩ _
 refine ab.seq (ab.aa ?_)
 refine Oc (bo (k:=101) rfl rfl) (Oc (aT (k:=102) mF rfl) ?_)
 refine ae.ai ⟨[(0,.b (.one (.sl 7 (s0.map aj)))),(3,Pt 101 0),(4,Pt 102 0)],[(101,.box 55 (fZ x0)),(102,.box 70 [.nil,.nil,.nil,.i 0])]⟩ rfl (ab.seq (ab.seq (ab.aa ?_)))
 refine Oc (an nj rfl rfl) (Oc (aF aK rfl rfl rfl) (Oc (c3 rfl rfl) ?_))
 refine ae.ai ⟨[(0,_),(3,_),(4,_),(11,B (decide (x0.Kind = 0)))],[(101,_),(102,_)]⟩ rfl (ab.ite h rfl (fun _ h=>?_) (fun _ h=>?_))
 ·refine ab.seq (ab.aa ?_)
  refine Oc om (Oc (an iu rfl rfl) (Oc (aF aK rfl rfl rfl) (Oc (an ln rfl rfl) (Oc (lp aB) ?_))))
  refine ae.ag ⟨[(4,_),(13,.b (.one (.sl 7 (s0.map aj)))),(15,I x0.Id),(17,.b (.agg (ao x0.B)))],[(102,_)]⟩ rfl ?_
  obtain ⟨⟨x_1,x_2⟩,e1,h⟩:=aN h
  refine Oc (cz (ka 103 e1) goes61 rfl trivial rfl rfl) (Oc om (Oc (aq rfl rfl) (Oc (aq rfl rfl) (Oc oa (Oc oa ?_)))))
  refine ae.ai ⟨[(4,_),(5,.b (.row 103)),(6,I x_2)],[(102,_),(103,.row 105 7 (x_1.map aj))]⟩ rfl (ab.seq (ab.aa ?_))
  refine Oc om (Oc om ?_)
  refine ae.cU 103 rfl (Oc (bR jx rfl rfl) (Oc (aA ef rfl rfl rfl rfl (Nat.le_of_ble_eq_true rfl) rfl) ?_))
  refine ae.ai ⟨[(4,Pt 102 0)],[(102,.box 70 [.sl 7 (x_1.map aj),.nil,.nil,.i x_2])]⟩ rfl (ab.ret (Fin.au ?_))
  obtain rfl:=Option.some.inj h
  refine Fin.ag ⟨[(4,_)],[(102,_)]⟩ rfl (Fin.gb 102 1 1 rfl rfl (by decide) (Fin.gb 102 2 1 rfl rfl (by decide) (Fin.aw [.agg [.sl 7 (x_1.map aj),.sl 1 ([].map eI),.sl 1 ([].map eI),.i x_2]] (.inl rfl) rfl (.cons (.agg ef rfl rfl rfl rfl) .nil) ⟨rfl,rfl⟩)))
 ·refine ab.skip (Fin.ag ⟨[(0,_),(3,_),(4,_)],[(101,_),(102,_)]⟩ rfl (Fin.then (ab.seq (ab.seq (ab.aa ?_)))))
  refine Oc (an nj rfl rfl) (Oc (aF aK rfl rfl rfl) (Oc (c3 rfl rfl) ?_))
  refine ae.ai ⟨[(0,_),(3,_),(4,_),(26,B (decide (x0.Kind = 1)))],[(101,_),(102,_)]⟩ rfl (ab.ite h rfl (fun _ h=>?_) (fun _ h=>?_))
  ·refine ab.seq (ab.aa ?_)
   refine Oc om (Oc (an iu rfl rfl) (Oc (aF aK rfl rfl rfl) ?_))
   obtain ⟨⟨x_3,x_4⟩,e2,h⟩:=aN h
   refine Oc (cz (iS 104 e2) goes62 rfl trivial rfl rfl) (Oc om ?_)
   refine ae.ag ⟨[(4,_),(27,.dL [.row 104,.one (.i x_4)])],[(102,_),(104,.row 105 7 (x_3.map aj))]⟩ rfl (Oc (aq rfl rfl) (Oc (aq rfl rfl) (Oc oa (Oc oa ?_))))
   refine ae.ai ⟨[(4,_),(7,.b (.row 104)),(8,I x_4)],[(102,_),(104,_)]⟩ rfl (ab.seq (ab.aa ?_))
   refine Oc om (Oc om ?_)
   refine ae.cU 104 rfl (Oc (bR jx rfl rfl) (Oc (aA ef rfl rfl rfl rfl (Nat.le_of_ble_eq_true rfl) rfl) ?_))
   refine ae.ai ⟨[(4,Pt 102 0)],[(102,.box 70 [.sl 7 (x_3.map aj),.nil,.nil,.i x_4])]⟩ rfl (ab.ret (Fin.au ?_))
   obtain rfl:=Option.some.inj h
   refine Fin.ag ⟨[(4,_)],[(102,_)]⟩ rfl (Fin.gb 102 1 1 rfl rfl (by decide) (Fin.gb 102 2 1 rfl rfl (by decide) (Fin.aw [.agg [.sl 7 (x_3.map aj),.sl 1 ([].map eI),.sl 1 ([].map eI),.i x_4]] (.inl rfl) rfl (.cons (.agg ef rfl rfl rfl rfl) .nil) ⟨rfl,rfl⟩)))
  ·refine ab.skip (Fin.ag ⟨[(0,_),(3,_),(4,_)],[(101,_),(102,_)]⟩ rfl (Fin.then (ab.seq (ab.aa ?_))))
   refine Oc om (Oc (an iu rfl rfl) (Oc (aF aK rfl rfl rfl) (Oc (an ln rfl rfl) (Oc (lp aB) ?_))))
   obtain ⟨x_5,e3,h⟩:=aN h
   refine Oc (ak (jG e3) goes63 rfl rfl) (Oc (aA ef rfl rfl rfl rfl (Nat.le_of_ble_eq_true rfl) rfl) ?_)
   refine ae.ai ⟨[(4,_)],[(102,.box 70 (oN x_5))]⟩ rfl (ab.ret ?_)
   obtain rfl:=Option.some.inj h
   refine Fin.ag ⟨[(4,_)],[(102,_)]⟩ rfl (Fin.aw [.agg (oN x_5)] (.inl rfl) rfl (.cons (.agg ef rfl rfl rfl rfl) .nil) ⟨rfl,rfl⟩)
def dm (F:Nat) (s0:b9) (id0:Int):Option (b8 × Bool) :=
 Option.bind (cB F s0 id0) (dg fun x_1 x_2=>some (x_1.b,x_2))
theorem fM {F:Nat} {s0:b9} {id0:Int} {r:b8 × Bool} (h:dm F s0 id0 = some r):ar Tryz.prog [] 36 [] [.agg (aD s0),.one (.i id0)] (Is [] (.dL [.agg (ao r.1),.one (.bool r.2)])):=by
 unfold dm at h
 refine ar.intro 17 Tryz.func36 Tryz.ntmps36 rfl (by simp) fun E=>?_
 show ab _ E ⟨17,[],[],[]⟩ _ ⟨[(0,.b (.agg (aD s0))),(1,I id0)],[]⟩ _
 refine ab.seq (ab.aa ?_)
 refine Oc (bo (k:=101) rfl rfl) (Oc (aT (k:=102) eC rfl) (Oc oa ?_))
 refine ae.ai ⟨[(1,I id0),(2,Pt 101 0),(4,Pt 102 0)],[(101,.box 49 (aD s0)),(102,.box 25 ((cW .i64) A3.zero ++ ((cW .i64) A3.zero)))]⟩ rfl (ab.seq (ab.aa ?_))
 refine Oc (lp aI) (Oc om ?_)
 obtain ⟨⟨x_1,x_2⟩,e1,h⟩:=aN h
 refine Oc (ak (ew e1) qv rfl rfl) (Oc om (Oc (aq rfl rfl) ?_))
 refine ae.ag ⟨[(4,_),(8,.dL [.agg (ax x_1),.one (.bool x_2)]),(12,.b (.agg (ax x_1)))],[(102,_)]⟩ rfl (Oc (aq rfl rfl) (Oc (aT (k:=103) gl rfl) (Oc (aA bC rfl rfl rfl rfl (Nat.le_of_ble_eq_true rfl) rfl) (Oc oa ?_))))
 refine ae.ai ⟨[(4,_),(6,Pt 103 0),(7,B x_2)],[(102,_),(103,.box 87 (ax x_1))]⟩ rfl (ab.seq (ab.aa ?_))
 refine Oc (an gw rfl rfl) (Oc (lp aB) (Oc om (Oc (aA aB rfl rfl rfl rfl (Nat.le_of_ble_eq_true rfl) rfl) (Oc oa ?_))))
 refine ae.ai ⟨[(4,_),(5,B x_2)],[(102,.box 25 (ao x_1.b))]⟩ rfl (ab.ret ?_)
 obtain rfl:=Option.some.inj h
 refine Fin.ag ⟨[(4,_),(5,_)],[(102,_)]⟩ rfl (Fin.aw [.agg (ao x_1.b),.one (.bool x_2)] (.inl rfl) rfl (.cons (.agg aB rfl rfl rfl rfl) (.cons (.tmp rfl) .nil)) ⟨rfl,rfl⟩)
def dr (F:Nat) (s0:List bz):Option (List Int) :=
 Option.bind (iter F (dg fun out_2 i_3=>if (decide (i_3 < (s0.length:Int))) = true then ((a8 s0 i_3).bind fun x_5=>(ee out_2 [x_5.Id]).bind fun x_6=>some (.inl (x_6,IntKind.i64.wrap (i_3 + 1)))) else (some (.inr out_2))) ([],0)) (fun out_1=>some out_1)
theorem kh (kr0:Nat) {F:Nat} {s0:List bz} {r:(List Int)} (h:dr F s0 = some r):ar Tryz.prog [] 64 [] [.one (.sl 7 (s0.map aj))] (Is [(kr0,.row 3 1 (r.map eI))] (.b (.row kr0))):=by
 unfold dr at h
 refine ar.intro 20 Tryz.func64 Tryz.ntmps64 rfl (by simp) fun E=>?_
 show ab _ E ⟨20,[],[],[]⟩ _ ⟨[(0,.b (.one (.sl 7 (s0.map aj))))],[]⟩ _
 refine ab.seq (ab.aa ?_)
 refine Oc oa (ae.ai ⟨[(0,.b (.one (.sl 7 (s0.map aj))))],[]⟩ rfl (ab.seq (ab.aa ?_)))
 refine Oc oa (ae.ai ⟨[(0,_),(3,.b (.one (.nil)))],[]⟩ rfl ?_)
 obtain ⟨v1,h2,h⟩:=aN h
 refine ab.c6 (v:=v1) (fun (out_1:List Int)=>⟨[(3,.b (.row 102))],[(102,.row 3 1 (out_1.map eI))]⟩) (fun z=>z) ?_ ?_
 ·refine ab.seq (ab.aa ?_)
  refine Oc oa (ae.ai ⟨[(0,_),(3,_),(4,I 0)],[]⟩ rfl (ab.block (ab.dI 3 102 1 3 rfl (by decide) rfl (ab.c5 h2 (dg fun (out_2:List Int) (i_3:Int)=>⟨[(0,.b (.one (.sl 7 (s0.map aj)))),(3,.b (.row 102)),(4,I i_3)],[(102,.row 3 1 (out_2.map eI))]⟩) [0,3,4] [102] rfl ?_))))
  rintro ⟨out_2,i_3⟩ o3 h4 hy5
  refine ab.seq (ab.seq (ab.aa ?_))
  refine Oc om (Oc om (Oc (ba mv rfl (List.length_map _)) (Oc (bf rfl rfl) ?_)))
  refine ae.ai ⟨[(0,_),(3,_),(4,_),(8,B (decide (i_3 < (s0.length:Int))))],[(102,_)]⟩ rfl (ab.ite h4 rfl (fun _ h4=>?_) (fun _ h4=>?_))
  ·refine ab.skip (Fin.ag ⟨[(0,_),(3,_),(4,_)],[(102,_)]⟩ rfl (Fin.then (ab.seq (ab.block (ab.aa ?_)))))
   refine Oc om (Oc om (Oc om ?_))
   obtain ⟨x_5,e6,h4⟩:=aN h4
   refine Oc (aM cR (aX e6) (bn (e:=aj) e6) rfl rfl) (Oc (az di rfl rfl) (Oc (ay aK rfl rfl) ?_))
   refine ae.ag ⟨[(0,_),(3,_),(4,_),(11,.b (.row 102)),(16,I x_5.Id)],[(102,_)]⟩ rfl (Oc (bp (k:=103) (es:=[x_5.Id].map eI) bL rfl rfl (bM fun _=>rfl) rfl (by decide) (by decide) rfl) ?_)
   obtain ⟨x_6,e7,h4⟩:=aN h4
   refine Oc (cP bL (iC e7) (iB e7) rfl rfl rfl rfl (ek e7) rfl) (Oc oa ?_)
   refine ae.nil (Fin.av (Fin.ag ⟨[(0,_),(3,_),(4,_)],[(102,.row 3 1 (x_6.map eI))]⟩ rfl (Fin.then (ab.aa ?_))))
   refine Oc om (Oc (bA rfl rfl) (Oc oa ?_))
   refine ae.nil ?_
   exact Fin.bZ [0,3,4] [102] (x_6,IntKind.i64.wrap (i_3 + 1)) (Option.some.inj h4) rfl
  ·refine ab.exit (Fin.aC ?_)
   obtain rfl:=hy5 _ (Option.some.inj h4).symm
   refine Fin.aC (Fin.aS ?_)
   exact Fin.join [3] [102] out_2 rfl rfl
 ·rintro out_1 hv
  subst v1
  refine ab.seq (ab.aa ?_)
  refine Oc om (Oc oa ?_)
  refine ae.ai ⟨[(2,.b (.row 102))],[(102,_)]⟩ rfl (ab.ret ?_)
  obtain rfl:=Option.some.inj h
  refine Fin.ag ⟨[(2,_)],[(102,_)]⟩ rfl (Fin.eh 102 kr0 [.row 102] (.inl rfl) rfl (.cons (.tmp rfl) .nil) rfl rfl rfl rfl ⟨rfl,rfl⟩)
def c9 (F:Nat) (s0:List bz):Option (List A2) :=
 Option.bind (iter F (dg fun out_2 i_3=>if (decide (i_3 < (s0.length:Int))) = true then (Option.bind (Option.bind (iter F (dg fun out_6 k_7=>if (decide (k_7 < (s0.length:Int))) = true then (Option.bind ((a8 s0 i_3).bind fun x_10=>(a8 s0 k_7).bind fun x_11=>(bF F x_10.B x_11.B).bind fun x_12=>if x_12 = true then ((a8 s0 i_3).bind fun x_13=>(a8 s0 k_7).bind fun x_14=>(ee out_6 [(⟨x_13.Id,x_14.Id⟩:A2)]).bind fun x_15=>some x_15) else (some out_6)) (fun out_9=>some (.inl (out_9,IntKind.i64.wrap (k_7 + 1))))) else (some (.inr out_6))) (out_2,IntKind.i64.wrap (i_3 + 1))) (fun out_8=>some out_8)) (fun out_5=>some (.inl (out_5,IntKind.i64.wrap (i_3 + 1))))) else (some (.inr out_2))) ([],0)) (fun out_1=>some out_1)
theorem jH (kr0:Nat) {F:Nat} {s0:List bz} {r:(List A2)} (h:c9 F s0 = some r):ar Tryz.prog [] 65 [] [.one (.sl 7 (s0.map aj))] (Is [(kr0,.row 40 2 (r.map (ec .i64)))] (.b (.row kr0))):=by
 unfold c9 at h
 refine ar.intro 48 Tryz.func65 Tryz.ntmps65 rfl (by simp) fun E=>?_
 show ab _ E ⟨48,[],[],[]⟩ _ ⟨[(0,.b (.one (.sl 7 (s0.map aj))))],[]⟩ _
 refine ab.seq (ab.aa ?_)
 refine Oc oa (ae.ai ⟨[(0,.b (.one (.sl 7 (s0.map aj))))],[]⟩ rfl (ab.seq (ab.aa ?_)))
 refine Oc oa (ae.ai ⟨[(0,_),(3,.b (.one (.nil)))],[]⟩ rfl ?_)
 obtain ⟨v1,h2,h⟩:=aN h
 refine ab.c6 (v:=v1) (fun (out_1:List A2)=>⟨[(3,.b (.row 102))],[(102,.row 40 2 (out_1.map (ec .i64)))]⟩) (fun z=>z) ?_ ?_
 ·refine ab.seq (ab.aa ?_)
  refine Oc oa (ae.ai ⟨[(0,_),(3,_),(4,I 0)],[]⟩ rfl (ab.block (ab.dI 3 102 2 40 rfl (by decide) rfl (ab.c5 h2 (dg fun (out_2:List A2) (i_3:Int)=>⟨[(0,.b (.one (.sl 7 (s0.map aj)))),(3,.b (.row 102)),(4,I i_3)],[(102,.row 40 2 (out_2.map (ec .i64)))]⟩) [0,3,4] [102] rfl ?_))))
  rintro ⟨out_2,i_3⟩ o3 h4 hy5
  refine ab.seq (ab.seq (ab.aa ?_))
  refine Oc om (Oc om (Oc (ba mv rfl (List.length_map _)) (Oc (bf rfl rfl) ?_)))
  refine ae.ai ⟨[(0,_),(3,_),(4,_),(10,B (decide (i_3 < (s0.length:Int))))],[(102,_)]⟩ rfl (ab.ite h4 rfl (fun _ h4=>?_) (fun _ h4=>?_))
  ·refine ab.skip (Fin.ag ⟨[(0,_),(3,_),(4,_)],[(102,_)]⟩ rfl (Fin.then ?_))
   obtain ⟨v6,h7,h4⟩:=aN h4
   refine ab.c6 (v:=v6) (fun (out_5:List A2)=>⟨[(0,.b (.one (.sl 7 (s0.map aj)))),(3,.b (.row 102)),(4,I i_3)],[(102,.row 40 2 (out_5.map (ec .i64)))]⟩) (fun z=>z) ?_ ?_
   ·refine ab.block (ab.seq (ab.aa ?_))
    refine Oc om (Oc (bA rfl rfl) (Oc oa ?_))
    refine ae.ai ⟨[(0,_),(3,_),(4,_),(5,I (IntKind.i64.wrap (i_3 + 1)))],[(102,_)]⟩ rfl (ab.block ?_)
    obtain ⟨v8,h9,h7⟩:=aN h7
    refine ab.c5 h9 (dg fun (out_6:List A2) (k_7:Int)=>⟨[(0,.b (.one (.sl 7 (s0.map aj)))),(3,.b (.row 102)),(4,I i_3),(5,I k_7)],[(102,.row 40 2 (out_6.map (ec .i64)))]⟩) [0,3,4,5] [102] rfl ?_
    rintro ⟨out_6,k_7⟩ o10 h11 hy12
    refine ab.seq (ab.seq (ab.aa ?_))
    refine Oc om (Oc om (Oc (ba mv rfl (List.length_map _)) (Oc (bf rfl rfl) ?_)))
    refine ae.ai ⟨[(0,_),(3,_),(4,_),(5,_),(18,B (decide (k_7 < (s0.length:Int))))],[(102,_)]⟩ rfl (ab.ite h11 rfl (fun _ h11=>?_) (fun _ h11=>?_))
    ·refine ab.skip (Fin.ag ⟨[(0,_),(3,_),(4,_),(5,_)],[(102,_)]⟩ rfl (Fin.then ?_))
     obtain ⟨v13,h14,h11⟩:=aN h11
     refine ab.c6 (v:=v13) (fun (out_9:List A2)=>⟨[(0,.b (.one (.sl 7 (s0.map aj)))),(3,.b (.row 102)),(4,I i_3),(5,I k_7)],[(102,.row 40 2 (out_9.map (ec .i64)))]⟩) (fun z=>z) ?_ ?_
     ·refine ab.block (ab.seq ?_)
      refine ab.ag ⟨[(0,_),(3,_),(4,_),(5,_)],[(102,_)]⟩ rfl ?_
      obtain ⟨x_10,e15,h14⟩:=aN h14
      obtain ⟨x_11,e16,h14⟩:=aN h14
      obtain ⟨x_12,e17,h14⟩:=aN h14
      refine ab.bD mixed 12 [.b (.one (.sl 7 (s0.map aj))),I i_3,.b (.aO (aj x_10)),.b (.aO (ao x_10.B)),.b (.agg (ao x_10.B)),.b (.one (.sl 7 (s0.map aj))),I k_7,.b (.aO (aj x_11)),.b (.aO (ao x_11.B)),.b (.agg (ao x_11.B)),B x_12,B x_12] [0,3,4,5,6] [102] (s':=⟨[(0,_),(3,_),(4,_),(5,_),(6,B x_12)],[(102,_)]⟩) rfl ⟨fun _=>.p om,fun _=>.p om,fun _=>.p (aM cR (aX e15) (bn (e:=aj) e15) rfl rfl),fun _=>by exact .p (az fG rfl rfl),fun _=>.p (bm aB rfl rfl rfl),fun _=>.p om,fun _=>.p om,fun _=>.p (aM cR (aX e16) (bn (e:=aj) e16) rfl rfl),fun _=>by exact .p (az fG rfl rfl),fun _=>.p (bm aB rfl rfl rfl),fun _=>.p (ak (de e17) qy rfl rfl),fun _=>.p oa,trivial⟩ rfl rfl (ab.seq (ab.aa ?_))
      refine Oc om (ae.ai ⟨[(0,_),(3,_),(4,_),(5,_),(32,B x_12)],[(102,_)]⟩ rfl (ab.ite h14 rfl (fun _ h14=>?_) (fun _ h14=>?_)))
      ·refine ab.ag ⟨[(0,_),(3,_),(4,_),(5,_)],[(102,_)]⟩ rfl ?_
       obtain ⟨x_13,e18,h14⟩:=aN h14
       obtain ⟨x_14,e19,h14⟩:=aN h14
       obtain ⟨x_15,e20,h14⟩:=aN h14
       refine ab.jt mixed 13 [.b (.row 102),.b (.one (.sl 7 (s0.map aj))),I i_3,.b (.aO (aj x_13)),.b (.aO (aj x_13)),I x_13.Id,.b (.one (.sl 7 (s0.map aj))),I k_7,.b (.aO (aj x_14)),.b (.aO (aj x_14)),I x_14.Id,.b (.agg [.i x_13.Id,.i x_14.Id]),.b (.one (.sl 2 ([(⟨x_13.Id,x_14.Id⟩:A2)].map (ec .i64))))] [0,3,4,5] [102] (s':=⟨[(0,_),(3,_),(4,_),(5,_)],[(102,.row 40 2 (x_15.map (ec .i64)))]⟩) rfl ⟨fun _=>.p om,fun _=>.p om,fun _=>.p om,fun _=>.p (aM cR (aX e18) (bn (e:=aj) e18) rfl rfl),fun _=>by exact .p (az di rfl rfl),fun _=>.p (ay aK rfl rfl),fun _=>.p om,fun _=>.p om,fun _=>.p (aM cR (aX e19) (bn (e:=aj) e19) rfl rfl),fun _=>by exact .p (az di rfl rfl),fun _=>.p (ay aK rfl rfl),fun _=>.p (dS fh rfl rfl),fun _=>.p (cK (es:=[(⟨x_13.Id,x_14.Id⟩:A2)].map (ec .i64)) gV rfl rfl (bM fun _=>rfl) rfl (by decide) (by decide)),trivial⟩ ⟨_,by exact .p (nt gV (iC e20) (iB e20) rfl rfl rfl (ek e20) rfl),⟨_,by exact .p oa,rfl⟩⟩ rfl (Fin.av ?_)
       exact Fin.join [0,3,4,5] [102] x_15 (Option.some.inj h14) rfl
      ·refine ab.skip (Fin.av ?_)
       exact Fin.join [0,3,4,5] [102] out_6 (Option.some.inj h14) rfl
     ·rintro out_9 hv
      subst v13
      refine ab.aa (Oc om (Oc (bA rfl rfl) (Oc oa ?_)))
      refine ae.nil ?_
      exact Fin.bZ [0,3,4,5] [102] (out_9,IntKind.i64.wrap (k_7 + 1)) (Option.some.inj h11) rfl
    ·refine ab.exit (Fin.aC ?_)
     obtain rfl:=hy12 _ (Option.some.inj h11).symm
     refine Fin.aC (Fin.aS (Fin.av ?_))
     exact Fin.join [0,3,4] [102] out_6 (Option.some.inj h7) rfl
   ·rintro out_5 hv
    subst v6
    refine ab.aa (Oc om (Oc (bA rfl rfl) (Oc oa ?_)))
    refine ae.nil ?_
    exact Fin.bZ [0,3,4] [102] (out_5,IntKind.i64.wrap (i_3 + 1)) (Option.some.inj h4) rfl
  ·refine ab.exit (Fin.aC ?_)
   obtain rfl:=hy5 _ (Option.some.inj h4).symm
   refine Fin.aC (Fin.aS ?_)
   exact Fin.join [3] [102] out_2 rfl rfl
 ·rintro out_1 hv
  subst v1
  refine ab.seq (ab.aa ?_)
  refine Oc om (Oc oa ?_)
  refine ae.ai ⟨[(2,.b (.row 102))],[(102,_)]⟩ rfl (ab.ret ?_)
  obtain rfl:=Option.some.inj h
  refine Fin.ag ⟨[(2,_)],[(102,_)]⟩ rfl (Fin.eh 102 kr0 [.row 102] (.inl rfl) rfl (.cons (.tmp rfl) .nil) rfl rfl rfl rfl ⟨rfl,rfl⟩)
def dq (F:Nat) (s0:List bz) (b0:b8):Option (List Int) :=
 Option.bind (iter F (dg fun out_2 i_3=>if (decide (i_3 < (s0.length:Int))) = true then (Option.bind ((a8 s0 i_3).bind fun x_6=>(bF F x_6.B b0).bind fun x_7=>if x_7 = true then ((a8 s0 i_3).bind fun x_8=>(ee out_2 [x_8.Id]).bind fun x_9=>some x_9) else (some out_2)) (fun out_5=>some (.inl (out_5,IntKind.i64.wrap (i_3 + 1))))) else (some (.inr out_2))) ([],0)) (fun out_1=>some out_1)
theorem kg (kr0:Nat) {F:Nat} {s0:List bz} {b0:b8} {r:(List Int)} (h:dq F s0 b0 = some r):ar Tryz.prog [] 66 [] [.one (.sl 7 (s0.map aj)),.agg (ao b0)] (Is [(kr0,.row 3 1 (r.map eI))] (.b (.row kr0))):=by
 unfold dq at h
 refine ar.intro 31 Tryz.func66 Tryz.ntmps66 rfl (by simp) fun E=>?_
 show ab _ E ⟨31,[],[],[]⟩ _ ⟨[(0,.b (.one (.sl 7 (s0.map aj)))),(1,.b (.agg (ao b0)))],[]⟩ _
 refine ab.seq (ab.aa ?_)
 refine Oc (bo (k:=101) rfl rfl) (Oc oa ?_)
 refine ae.ai ⟨[(0,.b (.one (.sl 7 (s0.map aj)))),(3,Pt 101 0)],[(101,.box 25 (ao b0))]⟩ rfl (ab.seq (ab.aa ?_))
 refine Oc oa (ae.ai ⟨[(0,_),(3,_),(5,.b (.one (.nil)))],[(101,_)]⟩ rfl ?_)
 obtain ⟨v1,h2,h⟩:=aN h
 refine ab.c6 (v:=v1) (fun (out_1:List Int)=>⟨[(5,.b (.row 103))],[(103,.row 3 1 (out_1.map eI))]⟩) (fun z=>z) ?_ ?_
 ·refine ab.seq (ab.aa ?_)
  refine Oc oa (ae.ai ⟨[(0,_),(3,_),(5,_),(6,I 0)],[(101,_)]⟩ rfl (ab.block (ab.dI 5 103 1 3 rfl (by decide) rfl (ab.c5 h2 (dg fun (out_2:List Int) (i_3:Int)=>⟨[(0,.b (.one (.sl 7 (s0.map aj)))),(3,Pt 101 0),(5,.b (.row 103)),(6,I i_3)],[(101,.box 25 (ao b0)),(103,.row 3 1 (out_2.map eI))]⟩) [0,3,5,6] [101,103] rfl ?_))))
  rintro ⟨out_2,i_3⟩ o3 h4 hy5
  refine ab.seq (ab.seq (ab.aa ?_))
  refine Oc om (Oc om (Oc (ba mv rfl (List.length_map _)) (Oc (bf rfl rfl) ?_)))
  refine ae.ai ⟨[(0,_),(3,_),(5,_),(6,_),(11,B (decide (i_3 < (s0.length:Int))))],[(101,_),(103,_)]⟩ rfl (ab.ite h4 rfl (fun _ h4=>?_) (fun _ h4=>?_))
  ·refine ab.skip (Fin.ag ⟨[(0,_),(3,_),(5,_),(6,_)],[(101,_),(103,_)]⟩ rfl (Fin.then ?_))
   obtain ⟨v6,h7,h4⟩:=aN h4
   refine ab.c6 (v:=v6) (fun (out_5:List Int)=>⟨[(0,.b (.one (.sl 7 (s0.map aj)))),(3,Pt 101 0),(5,.b (.row 103)),(6,I i_3)],[(101,.box 25 (ao b0)),(103,.row 3 1 (out_5.map eI))]⟩) (fun z=>z) ?_ ?_
   ·refine ab.block (ab.seq ?_)
    refine ab.ag ⟨[(0,_),(3,_),(5,_),(6,_)],[(101,_),(103,_)]⟩ rfl ?_
    obtain ⟨x_6,e8,h7⟩:=aN h7
    obtain ⟨x_7,e9,h7⟩:=aN h7
    refine ab.bD mixed 8 [.b (.one (.sl 7 (s0.map aj))),I i_3,.b (.aO (aj x_6)),.b (.aO (ao x_6.B)),.b (.agg (ao x_6.B)),.b (.agg (ao b0)),B x_7,B x_7] [0,3,5,6,7] [101,103] (s':=⟨[(0,_),(3,_),(5,_),(6,_),(7,B x_7)],[(101,_),(103,_)]⟩) rfl ⟨fun _=>.p om,fun _=>.p om,fun _=>.p (aM cR (aX e8) (bn (e:=aj) e8) rfl rfl),fun _=>by exact .p (az fG rfl rfl),fun _=>.p (bm aB rfl rfl rfl),fun _=>.p (lp aB),fun _=>.p (ak (de e9) qy rfl rfl),fun _=>.p oa,trivial⟩ rfl rfl (ab.seq (ab.aa ?_))
    refine Oc om (ae.ai ⟨[(0,_),(3,_),(5,_),(6,_),(21,B x_7)],[(101,_),(103,_)]⟩ rfl (ab.ite h7 rfl (fun _ h7=>?_) (fun _ h7=>?_)))
    ·refine ab.aa (Oc om (Oc om (Oc om ?_)))
     obtain ⟨x_8,e10,h7⟩:=aN h7
     refine Oc (aM cR (aX e10) (bn (e:=aj) e10) rfl rfl) (Oc (az di rfl rfl) (Oc (ay aK rfl rfl) ?_))
     refine ae.ag ⟨[(0,_),(3,_),(5,_),(6,_),(22,.b (.row 103)),(27,I x_8.Id)],[(101,_),(103,_)]⟩ rfl (Oc (bp (k:=104) (es:=[x_8.Id].map eI) bL rfl rfl (bM fun _=>rfl) rfl (by decide) (by decide) rfl) ?_)
     obtain ⟨x_9,e11,h7⟩:=aN h7
     refine Oc (cP bL (iC e11) (iB e11) rfl rfl rfl rfl (ek e11) rfl) (Oc oa ?_)
     refine ae.nil (Fin.av ?_)
     exact Fin.join [0,3,5,6] [101,103] x_9 (Option.some.inj h7) rfl
    ·refine ab.skip (Fin.av ?_)
     exact Fin.join [0,3,5,6] [101,103] out_2 (Option.some.inj h7) rfl
   ·rintro out_5 hv
    subst v6
    refine ab.aa (Oc om (Oc (bA rfl rfl) (Oc oa ?_)))
    refine ae.nil ?_
    exact Fin.bZ [0,3,5,6] [101,103] (out_5,IntKind.i64.wrap (i_3 + 1)) (Option.some.inj h4) rfl
  ·refine ab.exit (Fin.aC ?_)
   obtain rfl:=hy5 _ (Option.some.inj h4).symm
   refine Fin.aC (Fin.aS ?_)
   exact Fin.join [5] [103] out_2 rfl rfl
 ·rintro out_1 hv
  subst v1
  refine ab.seq (ab.aa ?_)
  refine Oc om (Oc oa ?_)
  refine ae.ai ⟨[(4,.b (.row 103))],[(103,_)]⟩ rfl (ab.ret ?_)
  obtain rfl:=Option.some.inj h
  refine Fin.ag ⟨[(4,_)],[(103,_)]⟩ rfl (Fin.eh 103 kr0 [.row 103] (.inl rfl) rfl (.cons (.tmp rfl) .nil) rfl rfl rfl rfl ⟨rfl,rfl⟩)
def dc (F:Nat) (s0:b9) (t0:List bz) (b0:b8):Option Bool :=
 Option.bind (iter F (fun i_1=>if (decide (i_1 < (t0.length:Int))) = true then ((a8 t0 i_1).bind fun x_2=>Option.bind (dm F s0 x_2.Id) (dg fun x_3 x_4=>(br (!(!x_4)) (a8 t0 i_1)).bind fun x_5=>if ((!x_4) || (decide (x_3 ≠ x_5.B))) = true then (some (.inr (.inr false))) else (some (.inl (IntKind.i64.wrap (i_1 + 1)))))) else (some (.inr (.inl ())))) 0) (cy (fun _=>(eE F s0).bind fun x_6=>(dr F t0).bind fun x_7=>(bg F x_6 x_7).bind fun x_8=>(br (!(!x_8)) (cQ F s0)).bind fun x_9=>(br (!(!x_8)) (c9 F t0)).bind fun x_10=>(br (!(!x_8)) (bd F x_9 x_10)).bind fun x_11=>if ((!x_8) || (!x_11)) = true then (some false) else (Option.bind (cF F s0 b0) (dg fun x_12 x_13=>(bO F b0).bind fun x_14=>if (!x_14) = true then (some ((decide (x_13 = 1)) && (decide ((x_12.length:Int) = 0)))) else ((br (decide (x_13 = 0)) (dq F t0 b0)).bind fun x_15=>(br (decide (x_13 = 0)) (bg F x_12 x_15)).bind fun x_16=>some ((decide (x_13 = 0)) && x_16))))) (fun y=>some y))
theorem jI {F:Nat} {s0:b9} {t0:List bz} {b0:b8} {r:Bool} (h:dc F s0 t0 b0 = some r):ar Tryz.prog [] 35 [] [.agg (aD s0),.one (.sl 7 (t0.map aj)),.agg (ao b0)] (Is [] (.b (.one (.bool r)))):=by
 unfold dc at h
 refine ar.intro 80 Tryz.func35 Tryz.ntmps35 rfl (by simp) fun E=>?_
 show ab _ E ⟨80,[],[],[]⟩ _ ⟨[(0,.b (.agg (aD s0))),(1,.b (.one (.sl 7 (t0.map aj)))),(2,.b (.agg (ao b0)))],[]⟩ _
 refine ab.seq (ab.aa ?_)
 refine Oc (bo (k:=101) rfl rfl) (Oc (bo (k:=102) rfl rfl) (Oc oa ?_))
 refine ae.ai ⟨[(1,.b (.one (.sl 7 (t0.map aj)))),(3,Pt 101 0),(5,Pt 102 0)],[(101,.box 49 (aD s0)),(102,.box 25 (ao b0))]⟩ rfl ?_
 obtain ⟨v1,h2,h⟩:=aN h
 refine ab.c6 (v:=v1) (fun (_:Unit)=>⟨[(1,.b (.one (.sl 7 (t0.map aj)))),(3,Pt 101 0),(5,Pt 102 0)],[(101,.box 49 (aD s0)),(102,.box 25 (ao b0))]⟩) (fun z=>.inl z) ?_ ?_
 ·refine ab.seq (ab.aa ?_)
  refine Oc oa (ae.ai ⟨[(1,_),(3,_),(5,_),(7,I 0)],[(101,_),(102,_)]⟩ rfl (ab.block (ab.c5 h2 (fun (i_1:Int)=>⟨[(1,.b (.one (.sl 7 (t0.map aj)))),(3,Pt 101 0),(5,Pt 102 0),(7,I i_1)],[(101,.box 49 (aD s0)),(102,.box 25 (ao b0))]⟩) [1,3,5,7] [101,102] rfl ?_)))
  rintro i_1 o3 h4 hy5
  refine ab.seq (ab.seq (ab.aa ?_))
  refine Oc om (Oc om (Oc (ba mv rfl (List.length_map _)) (Oc (bf rfl rfl) ?_)))
  refine ae.ai ⟨[(1,_),(3,_),(5,_),(7,_),(16,B (decide (i_1 < (t0.length:Int))))],[(101,_),(102,_)]⟩ rfl (ab.ite h4 rfl (fun _ h4=>?_) (fun _ h4=>?_))
  ·refine ab.skip (Fin.ag ⟨[(1,_),(3,_),(5,_),(7,_)],[(101,_),(102,_)]⟩ rfl (Fin.then (ab.seq (ab.block (ab.seq ?_)))))
   refine ab.ag ⟨[(1,_),(3,_),(5,_),(7,_)],[(101,_),(102,_)]⟩ rfl ?_
   obtain ⟨x_2,e6,h4⟩:=aN h4
   obtain ⟨⟨x_3,x_4⟩,e7,h4⟩:=aN h4
   refine ab.jP mixed [false,false,false,false,false,false,false,false,false,false,true,true,false] [.b (.agg (aD s0)),.b (.one (.sl 7 (t0.map aj))),I i_1,.b (.aO (aj x_2)),.b (.aO (aj x_2)),I x_2.Id,.dL [.agg (ao x_3),.one (.bool x_4)],.dL [.agg (ao x_3),.one (.bool x_4)],.b (.agg (ao x_3)),B x_4,Pt 103 0,B true,B x_4] [⟨[false,false,false,false,false,false,false,false,false,false,false,false,false],[(1,.b (.one (.sl 7 (t0.map aj)))),(3,Pt 101 0),(5,Pt 102 0),(7,I i_1)],[(101,.box 49 (aD s0)),(102,.box 25 (ao b0))],[true,true,true,true,true,true,true,true,true,true,true,true,true],[],[11,12]⟩,⟨[false,false,false,false,false,false,false,false,false,false,true,false,false],[(1,.b (.one (.sl 7 (t0.map aj)))),(3,Pt 101 0),(5,Pt 102 0),(7,I i_1)],[(101,.box 49 (aD s0)),(102,.box 25 (ao b0)),(103,.box 25 ((cW .i64) A3.zero ++ ((cW .i64) A3.zero)))],[true,true,true,true,true,true,true,true,true,true,true,true,true],[10],[12]⟩,⟨[false,false,false,false,false,false,false,false,false,false,true,true,false],[(1,.b (.one (.sl 7 (t0.map aj)))),(3,Pt 101 0),(5,Pt 102 0),(7,I i_1)],[(101,.box 49 (aD s0)),(102,.box 25 (ao b0)),(103,.box 25 (ao x_3))],[true,true,true,true,true,true,true,true,true,true,true,true,true],[0,1,2,3,4,5,6,7,8,10,11],[]⟩] rfl (⟨by kernel_rfl,⟨⟨.b (.agg (aD s0)),fun _=>rfl,fun _=>.p (by exact cu aI rfl rfl rfl rfl)⟩,⟨.b (.one (.sl 7 (t0.map aj))),fun _=>rfl,fun _=>.p (by exact aR rfl)⟩,⟨I i_1,fun _=>rfl,fun _=>.p (by exact aR rfl)⟩,⟨.b (.aO (aj x_2)),fun _=>rfl,fun _=>.p (by exact aM cR (aX e6) (bn (e:=aj) e6) rfl rfl)⟩,⟨.b (.aO (aj x_2)),fun _=>rfl,fun _=>.p (by exact az di rfl rfl)⟩,⟨I x_2.Id,fun _=>rfl,fun _=>.p (by exact ay aK rfl rfl)⟩,⟨.dL [.agg (ao x_3),.one (.bool x_4)],fun _=>rfl,fun _=>.p (by exact ak (fM e7) sL rfl rfl)⟩,⟨.dL [.agg (ao x_3),.one (.bool x_4)],fun _=>rfl,fun _=>.p (by exact aR rfl)⟩,⟨.b (.agg (ao x_3)),fun _=>rfl,fun _=>.p (by exact aq rfl rfl)⟩,⟨B x_4,fun _=>rfl,fun _=>.p (by exact aq rfl rfl)⟩,⟨_,[103],Pt 103 0,rfl,fun _=>rfl,rfl,rfl,fun _=>.sf [101,102,103] (by exact .p (by exact aT (k:=103) eC rfl)) (by exact rfl)⟩,trivial,trivial,trivial⟩,⟨by kernel_rfl,⟨⟨.b (.agg (aD s0)),fun _=>rfl,fun _=>.p (by exact cu aI rfl rfl rfl rfl)⟩,⟨.b (.one (.sl 7 (t0.map aj))),fun _=>rfl,fun _=>.p (by exact aR rfl)⟩,⟨I i_1,fun _=>rfl,fun _=>.p (by exact aR rfl)⟩,⟨.b (.aO (aj x_2)),fun _=>rfl,fun _=>.p (by exact aM cR (aX e6) (bn (e:=aj) e6) rfl rfl)⟩,⟨.b (.aO (aj x_2)),fun _=>rfl,fun _=>.p (by exact az di rfl rfl)⟩,⟨I x_2.Id,fun _=>rfl,fun _=>.p (by exact ay aK rfl rfl)⟩,⟨.dL [.agg (ao x_3),.one (.bool x_4)],fun _=>rfl,fun _=>.p (by exact ak (fM e7) sL rfl rfl)⟩,⟨.dL [.agg (ao x_3),.one (.bool x_4)],fun _=>rfl,fun _=>.p (by exact aR rfl)⟩,⟨.b (.agg (ao x_3)),fun _=>rfl,fun _=>.p (by exact aq rfl rfl)⟩,⟨B x_4,fun _=>rfl,fun _=>.p (by exact aq rfl rfl)⟩,trivial,⟨_,[],.b (.one .any),rfl,(fun e=>by simp at e),rfl,rfl,fun _=>.sf [101,102,103] (by exact .p (by exact aA aB rfl rfl rfl rfl (Nat.le_of_ble_eq_true rfl) rfl)) (by exact rfl)⟩,trivial,trivial⟩,⟨by kernel_rfl,⟨trivial,trivial,trivial,trivial,trivial,trivial,trivial,trivial,trivial,⟨B x_4,fun _=>rfl,fun _=>.p (by exact aq rfl rfl)⟩,trivial,trivial,⟨B x_4,fun _=>rfl,fun _=>.p (by exact bH rfl)⟩,trivial⟩,trivial⟩⟩⟩) rfl rfl rfl [1,3,5,7,8,9] [101,102,103] (s':=⟨[(1,_),(3,_),(5,_),(7,_),(8,Pt 103 0),(9,B x_4)],[(101,_),(102,_),(103,.box 25 (ao x_3))]⟩) rfl ?_
   refine ab.seq (ab.ag ⟨[(1,_),(3,_),(5,_),(7,_),(8,_),(9,_)],[(101,_),(102,_),(103,_)]⟩ rfl ?_)
   obtain ⟨x_5,e12,h4⟩:=aN h4
   refine ab.bD mixed 11 [B x_4,B (!x_4),B (!x_4),.opt (!(!x_4)) (.agg (ao x_3)),.opt (!(!x_4)) (.one (.sl 7 (t0.map aj))),.opt (!(!x_4)) (.one (.i i_1)),.opt (!(!x_4)) (.aO (aj x_5)),.opt (!(!x_4)) (.aO (ao x_5.B)),.opt (!(!x_4)) (.agg (ao x_5.B)),.opt (!(!x_4)) (.one (.bool (decide (x_3 ≠ x_5.B)))),B ((!x_4) || (decide (x_3 ≠ x_5.B)))] [1,3,5,7,39] [101,102] (s':=⟨[(1,_),(3,_),(5,_),(7,_),(39,B ((!x_4) || (decide (x_3 ≠ x_5.B))))],[(101,_),(102,_)]⟩) rfl ⟨fun _=>.p om,fun _=>.p (cS rfl),fun _=>.p om,fun _=>by exact .guard (!(!x_4)) 1 [] (.plain rfl) (dB _) rfl rfl (fun g8=>trivial) (fun g8=>lp aB),fun _=>by exact .guard (!(!x_4)) 1 [] (.plain rfl) (dB _) rfl rfl (fun g9=>trivial) (fun g9=>om),fun _=>by exact .guard (!(!x_4)) 1 [] (.plain rfl) (dB _) rfl rfl (fun g10=>trivial) (fun g10=>om),fun _=>by exact .guard (!(!x_4)) 3 [33,34] (.plain rfl) (dB _) rfl rfl (fun g11=>⟨g11,g11,trivial⟩) (fun g11=>aM cR (aX (gc e12 g11)) (bn (e:=aj) (gc e12 g11)) rfl rfl),fun _=>by exact .guard (!(!x_4)) 2 [35] (.plain rfl) (dB _) rfl rfl (fun g13=>⟨g13,trivial⟩) (fun g13=>az fG rfl rfl),fun _=>by exact .guard (!(!x_4)) 2 [36] (.plain rfl) (dB _) rfl rfl (fun g14=>⟨g14,trivial⟩) (fun g14=>bm aB rfl rfl rfl),fun _=>by exact .guard (!(!x_4)) 3 [32,37] (.plain rfl) (dB _) rfl rfl (fun g15=>⟨g15,g15,trivial⟩) (fun g15=>pn (qP x_3 x_5.B) rfl rfl tK),fun _=>.p (cn (fun e=>by first | (rw [e]; rfl) | (simp only at e; rw [e]; rfl)) rfl rfl rfl rfl),trivial⟩ rfl rfl (ab.ite h4 rfl (fun _ h4=>?_) (fun _ h4=>?_))
   ·refine ab.seq (ab.aa ?_)
    refine Oc oa (ae.ai ⟨[(6,B false)],[]⟩ rfl (ab.ret (Fin.aP (Fin.au ?_))))
    obtain rfl:=hy5 _ (Option.some.inj h4).symm
    refine Fin.au (Fin.aP (Fin.au ?_))
    obtain rfl:=Option.some.inj h
    refine Fin.ag ⟨[(6,_)],[]⟩ rfl (Fin.aw [.one (.bool false)] (.inl rfl) rfl (.cons (.tmp rfl) .nil) ⟨rfl,rfl⟩)
   ·refine ab.skip (Fin.av (Fin.ag ⟨[(1,_),(3,_),(5,_),(7,_)],[(101,_),(102,_)]⟩ rfl (Fin.then (ab.aa ?_))))
    refine Oc om (Oc (bA rfl rfl) (Oc oa ?_))
    refine ae.nil ?_
    exact Fin.bZ [1,3,5,7] [101,102] (IntKind.i64.wrap (i_1 + 1)) (Option.some.inj h4) rfl
  ·refine ab.exit (Fin.aC ?_)
   obtain rfl:=hy5 _ (Option.some.inj h4).symm
   refine Fin.aC (Fin.aS ?_)
   exact Fin.join [1,3,5] [101,102] () rfl rfl
 ·rintro _ hv
  subst v1
  refine ab.seq (ab.seq (ab.aa ?_))
  refine Oc (lp aI) ?_
  obtain ⟨x_6,e16,h⟩:=aN h
  refine Oc (cz (own_a:=[]) ((mg e16).sw 51 104) goes33 rfl trivial rfl rfl) (Oc om ?_)
  refine ae.ag ⟨[(1,_),(3,_),(5,_),(41,.b (.row 104)),(42,.b (.one (.sl 7 (t0.map aj))))],[(101,_),(102,_),(104,.row 3 1 (x_6.map eI))]⟩ rfl ?_
  obtain ⟨x_7,e17,h⟩:=aN h
  refine Oc (cz (kh 105 e17) goes64 rfl trivial rfl rfl) ?_
  obtain ⟨x_8,e18,h⟩:=aN h
  refine Oc (iG (bW e18) m' rfl CP.jB) (Oc (cS rfl) (Oc om ?_))
  refine oC (!(!x_8)) [] (fun g19=>trivial) (fun g19=>lp aI) (ae.ag ⟨[(1,_),(3,_),(5,_),(46,B (!x_8)),(47,.opt (!(!x_8)) (.agg (aD s0)))],[(101,_),(102,_)]⟩ rfl ?_)
  obtain ⟨x_9,e21,h⟩:=aN h
  refine oC (!(!x_8)) [47] (fun g20=>⟨g20,trivial⟩) (fun g20=>ak (((fN (gc e21 g20)).sw 51 0).oH) sO rfl rfl) (oC (!(!x_8)) [] (fun g22=>trivial) (fun g22=>om) ?_)
  obtain ⟨x_10,e24,h⟩:=aN h
  refine oC (!(!x_8)) [49] (fun g23=>⟨g23,trivial⟩) (fun g23=>ak (jH 0 (gc e24 g23)).oH goes65 rfl rfl) ?_
  obtain ⟨x_11,e26,h⟩:=aN h
  refine oC (!(!x_8)) [48,50] (fun g25=>⟨g25,g25,trivial⟩) (fun g25=>ak (cC (gc e26 g25)) qx rfl rfl) (oC (!(!x_8)) [51] (fun g27=>⟨g27,trivial⟩) (fun g27=>cS rfl) (Oc (cn (fun e=>by first | (rw [e]; rfl) | (simp only at e; rw [e]; rfl)) rfl rfl rfl rfl) (ae.ai ⟨[(1,_),(3,_),(5,_),(53,B ((!x_8) || (!x_11)))],[(101,_),(102,_)]⟩ rfl (ab.ite h rfl (fun _ h=>?_) (fun _ h=>?_)))))
  ·refine ab.seq (ab.aa ?_)
   refine Oc oa (ae.ai ⟨[(6,B false)],[]⟩ rfl (ab.ret (Fin.au ?_)))
   obtain rfl:=Option.some.inj h
   refine Fin.ag ⟨[(6,_)],[]⟩ rfl (Fin.aw [.one (.bool false)] (.inl rfl) rfl (.cons (.tmp rfl) .nil) ⟨rfl,rfl⟩)
  ·refine ab.skip (Fin.ag ⟨[(1,_),(3,_),(5,_)],[(101,_),(102,_)]⟩ rfl (Fin.then (ab.seq (ab.aa ?_))))
   refine Oc (lp aI) (Oc (lp aB) ?_)
   obtain ⟨⟨x_12,x_13⟩,e28,h⟩:=aN h
   refine Oc (cz (fv 108 e28) sM rfl trivial rfl rfl) (Oc om (Oc (aq rfl rfl) ?_))
   refine ae.ag ⟨[(1,_),(5,_),(54,.dL [.row 108,.one (.i x_13)]),(58,.b (.row 108))],[(102,_),(108,.row 3 1 (x_12.map eI))]⟩ rfl (Oc (aq rfl rfl) (Oc oa (Oc oa ?_)))
   refine ae.ai ⟨[(1,_),(5,_),(10,.b (.row 108)),(11,I x_13)],[(102,_),(108,_)]⟩ rfl (ab.seq (ab.aa ?_))
   refine Oc (lp aB) ?_
   obtain ⟨x_14,e29,h⟩:=aN h
   refine Oc (ak (dK e29) sQ rfl rfl) (Oc oa ?_)
   refine ae.ai ⟨[(1,_),(5,_),(10,_),(11,_),(12,B x_14)],[(102,_),(108,_)]⟩ rfl (ab.seq (ab.seq (ab.aa ?_)))
   refine Oc om (Oc (cS rfl) ?_)
   refine ae.ai ⟨[(1,_),(5,_),(10,_),(11,_),(63,B (!x_14))],[(102,_),(108,_)]⟩ rfl (ab.ite h rfl (fun _ h=>?_) (fun _ h=>?_))
   ·refine ab.seq (ab.aa ?_)
    refine Oc om (Oc (c3 rfl rfl) (Oc om ?_))
    refine eU (decide (x_13 = 1)) [] (fun g30=>trivial) (fun g30=>om) (eU (decide (x_13 = 1)) [67] (fun g31=>by exact ⟨g31,trivial⟩) (fun g31=>fi fO rfl rfl (List.length_map _)) (eU (decide (x_13 = 1)) [68] (fun g32=>by exact ⟨g32,trivial⟩) (fun g32=>c3 rfl rfl) (Oc (aL (fun e=>e) rfl rfl rfl rfl) (Oc oa ?_))))
    refine ae.ai ⟨[(6,B ((decide (x_13 = 1)) && (decide ((x_12.length:Int) = 0))))],[]⟩ rfl (ab.ret (Fin.au ?_))
    obtain rfl:=Option.some.inj h
    refine Fin.ag ⟨[(6,_)],[]⟩ rfl (Fin.aw [.one (.bool ((decide (x_13 = 1)) && (decide ((x_12.length:Int) = 0))))] (.inl rfl) rfl (.cons (.tmp rfl) .nil) ⟨rfl,rfl⟩)
   ·refine ab.skip (Fin.ag ⟨[(1,_),(5,_),(10,_),(11,_)],[(102,_),(108,_)]⟩ rfl (Fin.then (ab.seq (ab.aa ?_))))
    refine Oc om (Oc (c3 rfl rfl) (Oc om ?_))
    refine eU (decide (x_13 = 0)) [] (fun g33=>trivial) (fun g33=>om) (eU (decide (x_13 = 0)) [] (fun g34=>by exact trivial) (fun g34=>om) (eU (decide (x_13 = 0)) [] (fun g35=>by exact trivial) (fun g35=>lp aB) (ae.ag ⟨[(73,B (decide (x_13 = 0))),(74,.opt (decide (x_13 = 0)) (.row 108)),(75,.opt (decide (x_13 = 0)) (.one (.sl 7 (t0.map aj)))),(76,.opt (decide (x_13 = 0)) (.agg (ao b0)))],[(108,_)]⟩ rfl ?_)))
    obtain ⟨x_15,e37,h⟩:=aN h
    refine eU (decide (x_13 = 0)) [75,76] (fun g36=>⟨g36,g36,trivial⟩) (fun g36=>ak (kg 0 (gc e37 g36)).oH goes66 rfl rfl) ?_
    obtain ⟨x_16,e39,h⟩:=aN h
    refine eU (decide (x_13 = 0)) [74,77] (fun g38=>⟨g38,g38,trivial⟩) (fun g38=>iG (bW (gc e39 g38)) m' rfl CP.jB) (Oc (aL (fun e=>e) rfl rfl rfl rfl) (Oc oa ?_))
    refine ae.ai ⟨[(6,B ((decide (x_13 = 0)) && x_16))],[]⟩ rfl (ab.ret ?_)
    obtain rfl:=Option.some.inj h
    refine Fin.ag ⟨[(6,_)],[]⟩ rfl (Fin.aw [.one (.bool ((decide (x_13 = 0)) && x_16))] (.inl rfl) rfl (.cons (.tmp rfl) .nil) ⟨rfl,rfl⟩)
def bE (F:Nat) (l0:List oh) (b0:b8):Option Bool :=
 if (decide (60 < (l0.length:Int))) = true then ((ck F).bind fun x_1=>some x_1) else ((gR F).bind fun x_2=>Option.bind (iter F (qZ fun s_5 t_6 i_7=>if (decide (i_7 < (l0.length:Int))) = true then (Option.bind ((a8 l0 i_7).bind fun x_12=>Option.bind (dd F s_5 x_12) (un4 fun x_13 x_14 x_15 x_16=>(a8 l0 i_7).bind fun x_17=>(dA F t_6 x_17).bind fun x_18=>(br (!(decide (x_16 ≠ x_18.E))) (bg F x_14 x_18.Gained)).bind fun x_19=>(br (!((decide (x_16 ≠ x_18.E)) || (!x_19))) (bg F x_15 x_18.Lost)).bind fun x_20=>if (((decide (x_16 ≠ x_18.E)) || (!x_19)) || (!x_20)) = true then (some (.inr false)) else (Option.bind (if (decide (x_16 = 0)) = true then (some x_18.S) else (some t_6)) (fun t_21=>(dc F x_13 t_21 b0).bind fun x_22=>if (!x_22) = true then (some (.inr false)) else (some (.inl (x_13,t_21))))))) (cy (dg fun s_10 t_11=>some (.inl (s_10,t_11,IntKind.i64.wrap (i_7 + 1)))) (fun y=>some (.inr (.inr y))))) else (some (.inr (.inl (s_5,t_6))))) (x_2,[],0)) (cy (dg fun s_3 t_4=>Option.bind (dm F s_3 1152921504606846976) (dg fun x_23 x_24=>(ck F).bind fun x_25=>(br x_25 (bj F t_4 1152921504606846976)).bind fun x_26=>some (x_25 && (x_24 == (decide (0 ≤ x_26)))))) (fun y=>some y)))
theorem fe {F:Nat} {l0:List oh} {b0:b8} {r:Bool} (h:bE F l0 b0 = some r):ar Tryz.prog [] 9 [] [.one (.sl 8 (l0.map fZ)),.agg (ao b0)] (Is [] (.b (.one (.bool r)))):=by
 unfold bE at h
 refine ar.intro 84 Tryz.func9 Tryz.ntmps9 rfl (by simp) fun E=>?_
 show ab _ E ⟨84,[],[],[]⟩ _ ⟨[(0,.b (.one (.sl 8 (l0.map fZ)))),(1,.b (.agg (ao b0)))],[]⟩ _
 refine ab.seq (ab.aa ?_)
 refine Oc (bo (k:=101) rfl rfl) (Oc oa ?_)
 refine ae.ai ⟨[(0,.b (.one (.sl 8 (l0.map fZ)))),(3,Pt 101 0)],[(101,.box 25 (ao b0))]⟩ rfl (ab.seq (ab.seq (ab.aa ?_)))
 refine Oc om (Oc (ba und41 rfl (List.length_map _)) (Oc (iD rfl rfl) ?_))
 refine ae.ai ⟨[(0,_),(3,_),(17,B (decide (60 < (l0.length:Int))))],[(101,_)]⟩ rfl (ab.ite h rfl (fun _ h=>?_) (fun _ h=>?_))
 ·refine ab.seq (ab.aa ?_)
  obtain ⟨x_1,e1,h⟩:=aN h
  refine Oc (ak (fo e1) vj rfl rfl) (Oc oa ?_)
  refine ae.ai ⟨[(4,B x_1)],[]⟩ rfl (ab.ret (Fin.au ?_))
  obtain rfl:=Option.some.inj h
  refine Fin.ag ⟨[(4,_)],[]⟩ rfl (Fin.aw [.one (.bool x_1)] (.inl rfl) rfl (.cons (.tmp rfl) .nil) ⟨rfl,rfl⟩)
 ·refine ab.skip (Fin.ag ⟨[(0,_),(3,_)],[(101,_)]⟩ rfl (Fin.then (ab.seq (ab.aa ?_))))
  obtain ⟨x_2,e2,h⟩:=aN h
  refine Oc (ak (iN e2) sP rfl rfl) (Oc (aT (k:=102) dO rfl) (Oc (aA aI rfl rfl rfl rfl (Nat.le_of_ble_eq_true rfl) rfl) ?_))
  refine ae.ai ⟨[(0,_),(3,_),(5,Pt 102 0)],[(101,_),(102,.box 49 (aD x_2))]⟩ rfl (ab.seq (ab.aa ?_))
  refine Oc oa (ae.ai ⟨[(0,_),(3,_),(5,_),(6,.b (.one (.nil)))],[(101,_),(102,_)]⟩ rfl ?_)
  obtain ⟨v3,h4,h⟩:=aN h
  refine ab.c6 (v:=v3) (dg fun (s_3:b9) (t_4:List bz)=>⟨[(5,Pt 102 0),(6,.b (.one (.sl 7 (t_4.map aj))))],[(102,.box 49 (aD s_3))]⟩) (fun z=>.inl z) ?_ ?_
  ·refine ab.seq (ab.aa ?_)
   refine Oc oa (ae.ai ⟨[(0,_),(3,_),(5,_),(6,_),(7,I 0)],[(101,_),(102,_)]⟩ rfl (ab.block (ab.gv 6 7 rfl (by decide) (ab.c5 h4 (qZ fun (s_5:b9) (t_6:List bz) (i_7:Int)=>⟨[(0,.b (.one (.sl 8 (l0.map fZ)))),(3,Pt 101 0),(5,Pt 102 0),(6,.b (.one (.sl 7 (t_6.map aj)))),(7,I i_7)],[(101,.box 25 (ao b0)),(102,.box 49 (aD s_5))]⟩) [0,3,5,6,7] [101,102] rfl ?_))))
   rintro ⟨s_5,t_6,i_7⟩ o5 h6 hy7
   refine ab.seq (ab.seq (ab.aa ?_))
   refine Oc om (Oc om (Oc (ba und41 rfl (List.length_map _)) (Oc (bf rfl rfl) ?_)))
   refine ae.ai ⟨[(0,_),(3,_),(5,_),(6,_),(7,_),(23,B (decide (i_7 < (l0.length:Int))))],[(101,_),(102,_)]⟩ rfl (ab.ite h6 rfl (fun _ h6=>?_) (fun _ h6=>?_))
   ·refine ab.skip (Fin.ag ⟨[(0,_),(3,_),(5,_),(6,_),(7,_)],[(101,_),(102,_)]⟩ rfl (Fin.then ?_))
    obtain ⟨v8,h9,h6⟩:=aN h6
    refine ab.c6 (v:=v8) (dg fun (s_10:b9) (t_11:List bz)=>⟨[(0,.b (.one (.sl 8 (l0.map fZ)))),(3,Pt 101 0),(5,Pt 102 0),(6,.b (.one (.sl 7 (t_11.map aj)))),(7,I i_7)],[(101,.box 25 (ao b0)),(102,.box 49 (aD s_10))]⟩) (fun z=>.inl z) ?_ ?_
    ·refine ab.block (ab.seq ?_)
     refine ab.ag ⟨[(0,_),(3,_),(5,_),(6,_),(7,_)],[(101,_),(102,_)]⟩ rfl ?_
     obtain ⟨x_12,e10,h9⟩:=aN h9
     obtain ⟨⟨x_13,x_14,x_15,x_16⟩,e11,h9⟩:=aN h9
     refine ab.jP mixed [false,false,false,false,false,false,false,false,false,false,false,true,true,false,false,false] [.b (.agg (aD s_5)),.b (.one (.sl 8 (l0.map fZ))),I i_7,.b (.aO (fZ x_12)),.b (.agg (fZ x_12)),.dL [.agg (aD x_13),.one (.sl 1 (x_14.map eI)),.one (.sl 1 (x_15.map eI)),.one (.i x_16)],.dL [.agg (aD x_13),.one (.sl 1 (x_14.map eI)),.one (.sl 1 (x_15.map eI)),.one (.i x_16)],.b (.agg (aD x_13)),.b (.one (.sl 1 (x_14.map eI))),.b (.one (.sl 1 (x_15.map eI))),I x_16,Pt 103 0,B true,.b (.one (.sl 1 (x_14.map eI))),.b (.one (.sl 1 (x_15.map eI))),I x_16] [⟨[false,false,false,false,false,false,false,false,false,false,false,false,false,false,false,false],[(0,.b (.one (.sl 8 (l0.map fZ)))),(3,Pt 101 0),(5,Pt 102 0),(6,.b (.one (.sl 7 (t_6.map aj)))),(7,I i_7)],[(101,.box 25 (ao b0)),(102,.box 49 (aD s_5))],[true,true,true,true,true,true,true,true,true,true,true,true,true,true,true,true],[],[12,13,14,15]⟩,⟨[false,false,false,false,false,false,false,false,false,false,false,true,false,false,false,false],[(0,.b (.one (.sl 8 (l0.map fZ)))),(3,Pt 101 0),(5,Pt 102 0),(6,.b (.one (.sl 7 (t_6.map aj)))),(7,I i_7)],[(101,.box 25 (ao b0)),(102,.box 49 (aD s_5)),(103,.box 49 [.tr af (.leaf),.cZ 0,.cZ 0,.cZ 0,.tr af (.leaf),.cZ 0,.cZ 0,.cZ 0])],[true,true,true,true,true,true,true,true,true,true,true,true,true,true,true,true],[11],[13,14,15]⟩,⟨[false,false,false,false,false,false,false,false,false,false,false,true,true,false,false,false],[(0,.b (.one (.sl 8 (l0.map fZ)))),(3,Pt 101 0),(5,Pt 102 0),(6,.b (.one (.sl 7 (t_6.map aj)))),(7,I i_7)],[(101,.box 25 (ao b0)),(102,.box 49 (aD s_5)),(103,.box 49 (aD x_13))],[true,true,true,true,true,true,true,true,true,true,true,true,true,true,true,true],[0,1,2,3,4,5,6,7,11,12],[]⟩] rfl (⟨by kernel_rfl,⟨⟨.b (.agg (aD s_5)),fun _=>rfl,fun _=>.p (by exact cu aI rfl rfl rfl rfl)⟩,⟨.b (.one (.sl 8 (l0.map fZ))),fun _=>rfl,fun _=>.p (by exact aR rfl)⟩,⟨I i_7,fun _=>rfl,fun _=>.p (by exact aR rfl)⟩,⟨.b (.aO (fZ x_12)),fun _=>rfl,fun _=>.p (by exact aM sr (aX e10) (bn (e:=fZ) e10) rfl rfl)⟩,⟨.b (.agg (fZ x_12)),fun _=>rfl,fun _=>.p (by exact bm qF rfl rfl rfl)⟩,⟨.dL [.agg (aD x_13),.one (.sl 1 (x_14.map eI)),.one (.sl 1 (x_15.map eI)),.one (.i x_16)],fun _=>rfl,fun _=>.p (by exact ak (fW e11) vg rfl rfl)⟩,⟨.dL [.agg (aD x_13),.one (.sl 1 (x_14.map eI)),.one (.sl 1 (x_15.map eI)),.one (.i x_16)],fun _=>rfl,fun _=>.p (by exact aR rfl)⟩,⟨.b (.agg (aD x_13)),fun _=>rfl,fun _=>.p (by exact aq rfl rfl)⟩,⟨.b (.one (.sl 1 (x_14.map eI))),fun _=>rfl,fun _=>.p (by exact aq rfl rfl)⟩,⟨.b (.one (.sl 1 (x_15.map eI))),fun _=>rfl,fun _=>.p (by exact aq rfl rfl)⟩,⟨I x_16,fun _=>rfl,fun _=>.p (by exact aq rfl rfl)⟩,⟨_,[103],Pt 103 0,rfl,fun _=>rfl,rfl,rfl,fun _=>.sf [101,102,103] (by exact .p (by exact aT (k:=103) dO rfl)) (by exact rfl)⟩,trivial,trivial,trivial,trivial,trivial⟩,⟨by kernel_rfl,⟨⟨.b (.agg (aD s_5)),fun _=>rfl,fun _=>.p (by exact cu aI rfl rfl rfl rfl)⟩,⟨.b (.one (.sl 8 (l0.map fZ))),fun _=>rfl,fun _=>.p (by exact aR rfl)⟩,⟨I i_7,fun _=>rfl,fun _=>.p (by exact aR rfl)⟩,⟨.b (.aO (fZ x_12)),fun _=>rfl,fun _=>.p (by exact aM sr (aX e10) (bn (e:=fZ) e10) rfl rfl)⟩,⟨.b (.agg (fZ x_12)),fun _=>rfl,fun _=>.p (by exact bm qF rfl rfl rfl)⟩,⟨.dL [.agg (aD x_13),.one (.sl 1 (x_14.map eI)),.one (.sl 1 (x_15.map eI)),.one (.i x_16)],fun _=>rfl,fun _=>.p (by exact ak (fW e11) vg rfl rfl)⟩,⟨.dL [.agg (aD x_13),.one (.sl 1 (x_14.map eI)),.one (.sl 1 (x_15.map eI)),.one (.i x_16)],fun _=>rfl,fun _=>.p (by exact aR rfl)⟩,⟨.b (.agg (aD x_13)),fun _=>rfl,fun _=>.p (by exact aq rfl rfl)⟩,⟨.b (.one (.sl 1 (x_14.map eI))),fun _=>rfl,fun _=>.p (by exact aq rfl rfl)⟩,⟨.b (.one (.sl 1 (x_15.map eI))),fun _=>rfl,fun _=>.p (by exact aq rfl rfl)⟩,⟨I x_16,fun _=>rfl,fun _=>.p (by exact aq rfl rfl)⟩,trivial,⟨_,[],.b (.one .any),rfl,(fun e=>by simp at e),rfl,rfl,fun _=>.sf [101,102,103] (by exact .p (by exact aA aI rfl rfl rfl rfl (Nat.le_of_ble_eq_true rfl) rfl)) (by exact rfl)⟩,trivial,trivial,trivial,trivial⟩,⟨by kernel_rfl,⟨trivial,trivial,trivial,trivial,trivial,trivial,trivial,trivial,⟨.b (.one (.sl 1 (x_14.map eI))),fun _=>rfl,fun _=>.p (by exact aq rfl rfl)⟩,⟨.b (.one (.sl 1 (x_15.map eI))),fun _=>rfl,fun _=>.p (by exact aq rfl rfl)⟩,⟨I x_16,fun _=>rfl,fun _=>.p (by exact aq rfl rfl)⟩,trivial,trivial,⟨.b (.one (.sl 1 (x_14.map eI))),fun _=>rfl,fun _=>.p (by exact bH rfl)⟩,⟨.b (.one (.sl 1 (x_15.map eI))),fun _=>rfl,fun _=>.p (by exact bH rfl)⟩,⟨I x_16,fun _=>rfl,fun _=>.p (by exact bH rfl)⟩,trivial⟩,trivial⟩⟩⟩) rfl rfl rfl [0,3,5,6,7,8,9,10,11] [101,102,103] (s':=⟨[(0,_),(3,_),(5,_),(6,_),(7,_),(8,Pt 103 0),(9,.b (.one (.sl 1 (x_14.map eI)))),(10,.b (.one (.sl 1 (x_15.map eI)))),(11,I x_16)],[(101,_),(102,_),(103,.box 49 (aD x_13))]⟩) rfl ?_
     refine ab.seq (ab.aa ?_)
     refine Oc om (Oc om (Oc om ?_))
     obtain ⟨x_17,e12,h9⟩:=aN h9
     refine Oc (aM sr (aX e12) (bn (e:=fZ) e12) rfl rfl) (Oc (bm qF rfl rfl rfl) ?_)
     refine ae.ag ⟨[(0,_),(3,_),(5,_),(6,_),(7,_),(8,_),(9,_),(10,_),(11,_),(37,.b (.one (.sl 7 (t_6.map aj)))),(41,.b (.agg (fZ x_17)))],[(101,_),(102,_),(103,_)]⟩ rfl ?_
     obtain ⟨x_18,e13,h9⟩:=aN h9
     refine Oc (ak (kC e13) goes34 rfl rfl) (Oc (aT (k:=104) mF rfl) (Oc (aA ef rfl rfl rfl rfl (Nat.le_of_ble_eq_true rfl) rfl) ?_))
     refine ae.ai ⟨[(0,_),(3,_),(5,_),(6,_),(7,_),(8,_),(9,_),(10,_),(11,_),(12,Pt 104 0)],[(101,_),(102,_),(103,_),(104,.box 70 (oN x_18))]⟩ rfl (ab.seq (ab.seq (ab.aa ?_)))
     refine Oc om (Oc (an ue rfl rfl) (Oc (aF tyOne26 rfl rfl rfl) (Oc (jf rfl rfl) (Oc om ?_))))
     refine oC (!(decide (x_16 ≠ x_18.E))) [] (fun g14=>trivial) (fun g14=>om) (oC (!(decide (x_16 ≠ x_18.E))) [] (fun g15=>by exact trivial) (fun g15=>an ni rfl rfl) (ae.ag ⟨[(0,_),(3,_),(5,_),(6,_),(7,_),(8,_),(10,_),(11,_),(12,_),(47,B (decide (x_16 ≠ x_18.E))),(48,.opt (!(decide (x_16 ≠ x_18.E))) (.one (.sl 1 (x_14.map eI)))),(49,.opt (!(decide (x_16 ≠ x_18.E))) (.ptr 104 1))],[(101,_),(102,_),(103,_),(104,_)]⟩ rfl (oC (!(decide (x_16 ≠ x_18.E))) [49] (fun g16=>by exact ⟨g16,trivial⟩) (fun g16=>aF fg rfl rfl rfl) ?_)))
     obtain ⟨x_19,e18,h9⟩:=aN h9
     refine oC (!(decide (x_16 ≠ x_18.E))) [48,50] (fun g17=>⟨g17,g17,trivial⟩) (fun g17=>ak (bW (gc e18 g17)) m' rfl rfl) (oC (!(decide (x_16 ≠ x_18.E))) [51] (fun g19=>⟨g19,trivial⟩) (fun g19=>cS rfl) (Oc (cn (fun e=>by first | (rw [e]; rfl) | (simp only at e; rw [e]; rfl)) rfl rfl rfl rfl) (Oc om ?_)))
     refine oC (!((decide (x_16 ≠ x_18.E)) || (!x_19))) [] (fun g20=>trivial) (fun g20=>om) (ae.ag ⟨[(0,_),(3,_),(5,_),(6,_),(7,_),(8,_),(11,_),(12,_),(54,B ((decide (x_16 ≠ x_18.E)) || (!x_19))),(55,.opt (!((decide (x_16 ≠ x_18.E)) || (!x_19))) (.one (.sl 1 (x_15.map eI))))],[(101,_),(102,_),(103,_),(104,_)]⟩ rfl (oC (!((decide (x_16 ≠ x_18.E)) || (!x_19))) [] (fun g21=>by exact trivial) (fun g21=>an nh rfl rfl) (oC (!((decide (x_16 ≠ x_18.E)) || (!x_19))) [56] (fun g22=>by exact ⟨g22,trivial⟩) (fun g22=>aF fg rfl rfl rfl) ?_)))
     obtain ⟨x_20,e24,h9⟩:=aN h9
     refine oC (!((decide (x_16 ≠ x_18.E)) || (!x_19))) [55,57] (fun g23=>⟨g23,g23,trivial⟩) (fun g23=>ak (bW (gc e24 g23)) m' rfl rfl) (oC (!((decide (x_16 ≠ x_18.E)) || (!x_19))) [58] (fun g25=>⟨g25,trivial⟩) (fun g25=>cS rfl) (Oc (cn (fun e=>by first | (rw [e]; rfl) | (simp only at e; rw [e]; rfl)) rfl rfl rfl rfl) (ae.ai ⟨[(0,_),(3,_),(5,_),(6,_),(7,_),(8,_),(11,_),(12,_),(60,B (((decide (x_16 ≠ x_18.E)) || (!x_19)) || (!x_20)))],[(101,_),(102,_),(103,_),(104,_)]⟩ rfl (ab.ite h9 rfl (fun _ h9=>?_) (fun _ h9=>?_)))))
     ·refine ab.seq (ab.aa ?_)
      refine Oc oa (ae.ai ⟨[(4,B false)],[]⟩ rfl (ab.ret (Fin.au (Fin.aP ?_))))
      obtain rfl:=Option.some.inj h9
      refine Fin.au ?_
      obtain rfl:=hy7 _ (Option.some.inj h6).symm
      refine Fin.au (Fin.aP (Fin.au ?_))
      obtain rfl:=Option.some.inj h
      refine Fin.ag ⟨[(4,_)],[]⟩ rfl (Fin.aw [.one (.bool false)] (.inl rfl) rfl (.cons (.tmp rfl) .nil) ⟨rfl,rfl⟩)
     ·refine ab.skip (Fin.ag ⟨[(0,_),(3,_),(5,_),(6,_),(7,_),(8,_),(11,_),(12,_)],[(101,_),(102,_),(103,_),(104,_)]⟩ rfl (Fin.then ?_))
      obtain ⟨v26,h27,h9⟩:=aN h9
      refine ab.c6 (v:=v26) (fun (t_21:List bz)=>⟨[(0,.b (.one (.sl 8 (l0.map fZ)))),(3,Pt 101 0),(5,Pt 102 0),(6,.b (.one (.sl 7 (t_21.map aj)))),(7,I i_7),(8,Pt 103 0)],[(101,.box 25 (ao b0)),(102,.box 49 (aD s_5)),(103,.box 49 (aD x_13))]⟩) (fun z=>z) ?_ ?_
      ·refine ab.seq (ab.aa ?_)
       refine Oc om (Oc (c3 rfl rfl) ?_)
       refine ae.ai ⟨[(0,_),(3,_),(5,_),(6,_),(7,_),(8,_),(12,_),(62,B (decide (x_16 = 0)))],[(101,_),(102,_),(103,_),(104,_)]⟩ rfl (ab.ite h27 rfl (fun _ h27=>?_) (fun _ h27=>?_))
       ·refine ab.aa (Oc (an uf rfl rfl) (Oc (aF tyOne68 rfl rfl rfl) (Oc oa ?_)))
        refine ae.nil ?_
        exact Fin.join [0,3,5,6,7,8] [101,102,103] x_18.S (Option.some.inj h27) rfl
       ·refine ab.skip ?_
        exact Fin.join [0,3,5,6,7,8] [101,102,103] t_6 (Option.some.inj h27) rfl
      ·rintro t_21 hv
       subst v26
       refine ab.seq (ab.aa ?_)
       refine Oc (lp aI) (Oc (aA aI rfl rfl rfl rfl (Nat.le_of_ble_eq_true rfl) rfl) ?_)
       refine ae.ai ⟨[(0,_),(3,_),(5,_),(6,_),(7,_)],[(101,_),(102,.box 49 (aD x_13))]⟩ rfl (ab.seq (ab.aa ?_))
       refine Oc (lp aI) (Oc om (Oc (lp aB) ?_))
       obtain ⟨x_22,e28,h9⟩:=aN h9
       refine Oc (ak (jI e28) goes35 rfl rfl) (Oc (cS rfl) ?_)
       refine ae.ai ⟨[(0,_),(3,_),(5,_),(6,_),(7,_),(70,B (!x_22))],[(101,_),(102,_)]⟩ rfl (ab.ite h9 rfl (fun _ h9=>?_) (fun _ h9=>?_))
       ·refine ab.seq (ab.aa ?_)
        refine Oc oa (ae.ai ⟨[(4,B false)],[]⟩ rfl (ab.ret (Fin.aP ?_)))
        obtain rfl:=Option.some.inj h9
        refine Fin.au ?_
        obtain rfl:=hy7 _ (Option.some.inj h6).symm
        refine Fin.au (Fin.aP (Fin.au ?_))
        obtain rfl:=Option.some.inj h
        refine Fin.ag ⟨[(4,_)],[]⟩ rfl (Fin.aw [.one (.bool false)] (.inl rfl) rfl (.cons (.tmp rfl) .nil) ⟨rfl,rfl⟩)
       ·refine ab.skip (Fin.av ?_)
        exact Fin.join [0,3,5,6,7] [101,102] (x_13,t_21) (Option.some.inj h9) rfl
    ·rintro ⟨s_10,t_11⟩ hv
     subst v8
     refine ab.aa (Oc om (Oc (bA rfl rfl) (Oc oa ?_)))
     refine ae.nil ?_
     exact Fin.bZ [0,3,5,6,7] [101,102] (s_10,t_11,IntKind.i64.wrap (i_7 + 1)) (Option.some.inj h6) rfl
   ·refine ab.exit (Fin.aC ?_)
    obtain rfl:=hy7 _ (Option.some.inj h6).symm
    refine Fin.aC (Fin.aS ?_)
    exact Fin.join [5,6] [102] (s_5,t_6) rfl rfl
  ·rintro ⟨s_3,t_4⟩ hv
   subst v3
   refine ab.seq (ab.aa ?_)
   refine Oc (lp aI) ?_
   obtain ⟨⟨x_23,x_24⟩,e29,h⟩:=aN h
   refine Oc (ak (fM e29) sL rfl rfl) (Oc om (Oc (aq rfl rfl) (Oc (aq rfl rfl) ?_)))
   refine ae.ag ⟨[(6,_),(74,.b (.agg (ao x_23))),(75,B x_24)],[]⟩ rfl (Oc (aT (k:=105) eC rfl) (Oc (aA aB rfl rfl rfl rfl (Nat.le_of_ble_eq_true rfl) rfl) (Oc oa ?_)))
   refine ae.ai ⟨[(6,_),(14,B x_24)],[]⟩ rfl (ab.seq (ab.aa ?_))
   obtain ⟨x_25,e30,h⟩:=aN h
   refine Oc (ak (fo e30) vj rfl rfl) (Oc om ?_)
   refine eU x_25 [] (fun g31=>trivial) (fun g31=>om) (eU x_25 [] (fun g32=>by exact trivial) (fun g32=>om) (ae.ag ⟨[(77,B x_25),(78,.opt x_25 (.one (.bool x_24))),(79,.opt x_25 (.one (.sl 7 (t_4.map aj))))],[]⟩ rfl ?_))
   obtain ⟨x_26,e34,h⟩:=aN h
   refine eU x_25 [79] (fun g33=>⟨g33,trivial⟩) (fun g33=>ak (df (gc e34 g33)) qw rfl rfl) (eU x_25 [80] (fun g35=>⟨g35,trivial⟩) (fun g35=>lY rfl rfl) (eU x_25 [78,81] (fun g36=>⟨g36,g36,trivial⟩) (fun g36=>r4 und4 rfl rfl) (Oc (aL (fun e=>e) rfl rfl rfl rfl) (Oc oa ?_))))
   refine ae.ai ⟨[(4,B (x_25 && (x_24 == (decide (0 ≤ x_26)))))],[]⟩ rfl (ab.ret ?_)
   obtain rfl:=Option.some.inj h
   refine Fin.ag ⟨[(4,_)],[]⟩ rfl (Fin.aw [.one (.bool (x_25 && (x_24 == (decide (0 ≤ x_26)))))] (.inl rfl) rfl (.cons (.tmp rfl) .nil) ⟨rfl,rfl⟩)
end Go.Proofs.YtagpkeehkcopaaaGreat

