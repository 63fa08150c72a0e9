/- printed walks -/
import Derived.Test.YtagpkeehkcopaaaGreatW1
namespace Go.Proofs.YtagpkeehkcopaaaGreat
open Go.Sk Go
set_option maxHeartbeats 4000000
set_option maxRecDepth 4000
set_option linter.unusedSimpArgs false
set_option linter.unusedVariables false
def cH (F:Nat) (s0:b4) (id0:Int) (b0:cg):Option (b4 × (List Int) × (List Int) × Int) :=
 (cB F b0).bind fun x_1=>if (!x_1) = true then (fv (⟨(⟨.leaf,0,0,0⟩:jA),(⟨.leaf,0,0,0⟩:jA)⟩:b4) fun x_2=>some (x_2,[],[],1)) else (Option.bind (cE F s0 id0) (dd fun x_3 x_4=>if (!x_4) = true then (fv (⟨(⟨.leaf,0,0,0⟩:jA),(⟨.leaf,0,0,0⟩:jA)⟩:b4) fun x_5=>some (x_5,[],[],5)) else (Option.bind (b8 F s0 id0) (dd fun x_6 x_7=>(cp F x_6 x_3.b).bind fun x_8=>(cp F x_6 b0).bind fun x_9=>Option.bind (cf F x_6 id0 b0) (dd fun x_10 x_11=>(eR F x_9 x_8).bind fun x_12=>(eR F x_8 x_9).bind fun x_13=>some (x_10,x_12,x_13,x_11))))))
theorem il {F:Nat} {s0:b4} {id0:Int} {b0:cg} {r:b4 × (List Int) × (List Int) × Int} (h:cH F s0 id0 b0 = some r):av Tryz.prog [] 25 [] [.agg (ar s0),.one (.i id0),.agg (ao b0)] (Is [] (.dF [.agg (ar r.1),.one (.sl 1 (r.2.1.map eI)),.one (.sl 1 (r.2.2.1.map eI)),.one (.i r.2.2.2)])):=by
 unfold cH at h
 refine av.intro 57 Tryz.func25 Tryz.ntmps25 rfl (by simp) fun E=>?_
 show ab _ E ⟨57,[],[],[]⟩ _ ⟨[(0,.b (.agg (ar s0))),(1,I id0),(2,.b (.agg (ao b0)))],[]⟩ _
 refine ab.seq (ab.aa ?_)
 refine Oc (bq (k:=101) rfl rfl) (Oc (bq (k:=102) rfl rfl) (Oc (aT (k:=103) dK rfl) (Oc oa (Oc oa (Oc oa ?_)))))
 refine ae.ai ⟨[(1,I id0),(3,Pt 101 0),(5,Pt 102 0),(6,Pt 103 0)],[(101,.box 49 (ar s0)),(102,.box 25 (ao b0)),(103,.box 49 [.tr af (.leaf),.de 0,.de 0,.de 0,.tr af (.leaf),.de 0,.de 0,.de 0])]⟩ rfl (ab.seq (ab.seq (ab.aa ?_)))
 refine Oc (lp aC) ?_
 obtain ⟨x_1,e1,h⟩:=aL h
 refine Oc (ak (dw e1) nw rfl rfl) (Oc (di rfl) ?_)
 refine ae.ai ⟨[(1,_),(3,_),(5,_),(6,_),(18,B (!x_1))],[(101,_),(102,_),(103,_)]⟩ rfl (ab.ite h rfl (fun _ h=>?_) (fun _ h=>?_))
 ·refine ab.seq (ab.aa ?_)
  refine ae.mN ar h rfl (bV fU rfl rfl) (fun x_2 h=>?_)
  refine Oc (aB aH rfl rfl rfl rfl (Nat.le_of_ble_eq_true rfl) rfl) (Oc oa (Oc oa (Oc oa ?_)))
  refine ae.ai ⟨[(6,_),(7,.b (.one (.nil))),(8,.b (.one (.nil))),(9,I 1)],[(103,.box 49 (ar x_2))]⟩ rfl (ab.ret (Fin.aw ?_))
  obtain rfl:=Option.some.inj h
  refine Fin.ag ⟨[(6,_),(7,_),(8,_),(9,_)],[(103,_)]⟩ rfl (Fin.gz 7 1 rfl (by decide) (Fin.gz 8 1 rfl (by decide) (Fin.aA [.agg (ar x_2),.one (.sl 1 ([].map eI)),.one (.sl 1 ([].map eI)),.one (.i 1)] (.inl rfl) rfl (.cons (.agg aH rfl rfl rfl rfl) (.cons (.tmp rfl) (.cons (.tmp rfl) (.cons (.tmp rfl) .nil)))) ⟨rfl,rfl⟩)))
 ·refine ab.skip (Fin.ag ⟨[(1,_),(3,_),(5,_),(6,_)],[(101,_),(102,_),(103,_)]⟩ rfl (Fin.then (ab.seq (ab.aa ?_))))
  refine Oc (lp aH) (Oc om ?_)
  obtain ⟨⟨x_3,x_4⟩,e2,h⟩:=aL h
  refine Oc (ak (eG e2) qL rfl rfl) (Oc om (Oc (an rfl rfl) ?_))
  refine ae.ag ⟨[(1,_),(3,_),(5,_),(6,_),(20,.dF [.agg (ay x_3),.one (.bool x_4)]),(24,.b (.agg (ay x_3)))],[(101,_),(102,_),(103,_)]⟩ rfl (Oc (an rfl rfl) (Oc (aT (k:=104) gq rfl) (Oc (aB bF rfl rfl rfl rfl (Nat.le_of_ble_eq_true rfl) rfl) (Oc oa ?_))))
  refine ae.ai ⟨[(1,_),(3,_),(5,_),(6,_),(10,Pt 104 0),(11,B x_4)],[(101,_),(102,_),(103,_),(104,.box 87 (ay x_3))]⟩ rfl (ab.seq (ab.seq (ab.aa ?_)))
  refine Oc om (Oc (di rfl) ?_)
  refine ae.ai ⟨[(1,_),(3,_),(5,_),(6,_),(10,_),(27,B (!x_4))],[(101,_),(102,_),(103,_),(104,_)]⟩ rfl (ab.ite h rfl (fun _ h=>?_) (fun _ h=>?_))
  ·refine ab.seq (ab.aa ?_)
   refine ae.mN ar h rfl (bV fU rfl rfl) (fun x_5 h=>?_)
   refine Oc (aB aH rfl rfl rfl rfl (Nat.le_of_ble_eq_true rfl) rfl) (Oc oa (Oc oa (Oc oa ?_)))
   refine ae.ai ⟨[(6,_),(7,.b (.one (.nil))),(8,.b (.one (.nil))),(9,I 5)],[(103,.box 49 (ar x_5))]⟩ rfl (ab.ret (Fin.aw ?_))
   obtain rfl:=Option.some.inj h
   refine Fin.ag ⟨[(6,_),(7,_),(8,_),(9,_)],[(103,_)]⟩ rfl (Fin.gz 7 1 rfl (by decide) (Fin.gz 8 1 rfl (by decide) (Fin.aA [.agg (ar x_5),.one (.sl 1 ([].map eI)),.one (.sl 1 ([].map eI)),.one (.i 5)] (.inl rfl) rfl (.cons (.agg aH rfl rfl rfl rfl) (.cons (.tmp rfl) (.cons (.tmp rfl) (.cons (.tmp rfl) .nil)))) ⟨rfl,rfl⟩)))
  ·refine ab.skip (Fin.ag ⟨[(1,_),(3,_),(5,_),(6,_),(10,_)],[(101,_),(102,_),(103,_),(104,_)]⟩ rfl (Fin.then (ab.seq (ab.aa ?_))))
   refine Oc (lp aH) (Oc om ?_)
   obtain ⟨⟨x_6,x_7⟩,e3,h⟩:=aL h
   refine Oc (ak (eV e3) s9 rfl rfl) (Oc om (Oc (an rfl rfl) ?_))
   refine ae.ag ⟨[(1,_),(5,_),(6,_),(10,_),(29,.dF [.agg (ar x_6),.one (.i x_7)]),(33,.b (.agg (ar x_6)))],[(102,_),(103,_),(104,_)]⟩ rfl (Oc (an rfl rfl) (Oc (aT (k:=105) dK rfl) (Oc (aB aH rfl rfl rfl rfl (Nat.le_of_ble_eq_true rfl) rfl) (Oc oa ?_))))
   refine ae.ai ⟨[(1,_),(5,_),(6,_),(10,_),(12,Pt 105 0)],[(102,_),(103,_),(104,_),(105,.box 49 (ar x_6))]⟩ rfl (ab.seq ?_)
   obtain ⟨x_8,e4,h⟩:=aL h
   obtain ⟨x_9,e5,h⟩:=aL h
   refine ab.jb mixed [false,false,false,true,false,false,true,false,false] [.b (.agg (ar x_6)),Pt 104 1,.b (.agg (ao x_3.b)),.b (.row 106),.b (.agg (ar x_6)),.b (.agg (ao b0)),.b (.row 107),.b (.row 106),.b (.row 107)] [⟨[false,false,false,false,false,false,false,false,false],[(1,I id0),(5,Pt 102 0),(6,Pt 103 0),(10,Pt 104 0),(12,Pt 105 0)],[(102,.box 25 (ao b0)),(103,.box 49 [.tr af (.leaf),.de 0,.de 0,.de 0,.tr af (.leaf),.de 0,.de 0,.de 0]),(104,.box 87 (ay x_3)),(105,.box 49 (ar x_6))],[true,true,true,true,true,true,true,true,true],[],[6,7,8]⟩,⟨[false,false,false,true,false,false,false,false,false],[(1,I id0),(5,Pt 102 0),(6,Pt 103 0),(10,Pt 104 0),(12,Pt 105 0)],[(102,.box 25 (ao b0)),(103,.box 49 [.tr af (.leaf),.de 0,.de 0,.de 0,.tr af (.leaf),.de 0,.de 0,.de 0]),(104,.box 87 (ay x_3)),(105,.box 49 (ar x_6)),(106,.row 3 1 (x_8.map eI))],[true,true,true,true,true,true,true,true,true],[0,1,2,3],[7,8]⟩,⟨[false,false,false,true,false,false,true,false,false],[(1,I id0),(5,Pt 102 0),(6,Pt 103 0),(10,Pt 104 0),(12,Pt 105 0)],[(102,.box 25 (ao b0)),(103,.box 49 [.tr af (.leaf),.de 0,.de 0,.de 0,.tr af (.leaf),.de 0,.de 0,.de 0]),(104,.box 87 (ay x_3)),(105,.box 49 (ar x_6)),(106,.row 3 1 (x_8.map eI)),(107,.row 3 1 (x_9.map eI))],[true,true,true,true,true,true,true,true,true],[0,1,2,3,4,5,6],[]⟩] rfl (⟨by kernel_rfl,⟨⟨.b (.agg (ar x_6)),fun _=>rfl,fun _=>.p (by exact bo aH rfl rfl rfl rfl)⟩,⟨Pt 104 1,fun _=>rfl,fun _=>.p (by exact aq gB rfl rfl)⟩,⟨.b (.agg (ao x_3.b)),fun _=>rfl,fun _=>.p (by exact bo aC rfl rfl rfl rfl)⟩,⟨_,[106],.b (.row 106),rfl,fun _=>rfl,rfl,rfl,fun _=>.qE [102,103,104,105,106] (by exact .p (by exact cC (own_a:=[]) ((dS e4).sw 51 106) qK rfl trivial rfl rfl)) (by exact rfl)⟩,⟨.b (.agg (ar x_6)),fun _=>rfl,fun _=>.p (by exact bo aH rfl rfl rfl rfl)⟩,⟨.b (.agg (ao b0)),fun _=>rfl,fun _=>.p (by exact bo aC rfl rfl rfl rfl)⟩,trivial,trivial,trivial,trivial⟩,⟨by kernel_rfl,⟨trivial,trivial,trivial,trivial,⟨.b (.agg (ar x_6)),fun _=>rfl,fun _=>.p (by exact bo aH rfl rfl rfl rfl)⟩,⟨.b (.agg (ao b0)),fun _=>rfl,fun _=>.p (by exact bo aC rfl rfl rfl rfl)⟩,⟨_,[107],.b (.row 107),rfl,fun _=>rfl,rfl,rfl,fun _=>.qE [102,103,104,105,106,107] (by exact .p (by exact cC (own_a:=[]) ((dS e5).sw 51 107) qK rfl trivial rfl rfl)) (by exact rfl)⟩,trivial,trivial,trivial⟩,⟨by kernel_rfl,⟨trivial,trivial,trivial,trivial,trivial,trivial,trivial,⟨.b (.row 106),fun _=>rfl,fun _=>.p (by exact bR rfl)⟩,⟨.b (.row 107),fun _=>rfl,fun _=>.p (by exact bR rfl)⟩,trivial⟩,trivial⟩⟩⟩) rfl rfl rfl [1,5,6,12,14,15] [102,103,105,106,107] (s':=⟨[(1,_),(5,_),(6,_),(12,_),(14,.b (.row 106)),(15,.b (.row 107))],[(102,_),(103,_),(105,_),(106,.row 3 1 (x_8.map eI)),(107,.row 3 1 (x_9.map eI))]⟩) rfl ?_
   refine ab.seq (ab.aa ?_)
   refine Oc (lp aH) (Oc om (Oc (lp aC) ?_))
   obtain ⟨⟨x_10,x_11⟩,e6,h⟩:=aL h
   refine Oc (ak (c8 e6) nu rfl rfl) (Oc om ?_)
   refine ae.ag ⟨[(6,_),(14,_),(15,_),(42,.dF [.agg (ar x_10),.one (.i x_11)])],[(103,_),(106,_),(107,_)]⟩ rfl (Oc (an rfl rfl) (Oc (an rfl rfl) (Oc (aB aH rfl rfl rfl rfl (Nat.le_of_ble_eq_true rfl) rfl) (Oc oa ?_))))
   refine ae.ai ⟨[(6,Pt 103 0),(9,I x_11),(14,.b (.row 106)),(15,.b (.row 107))],[(103,.box 49 (ar x_10)),(106,.row 3 1 (x_8.map eI)),(107,.row 3 1 (x_9.map eI))]⟩ rfl (ab.seq (ab.cO 107 rfl (ab.cO 106 rfl (ab.ag ⟨[(6,_),(9,_),(14,.b (.one (.sl 1 (x_8.map eI)))),(15,.b (.one (.sl 1 (x_9.map eI))))],[(103,_)]⟩ rfl ?_))))
   obtain ⟨x_12,e7,h⟩:=aL h
   obtain ⟨x_13,e8,h⟩:=aL h
   refine ab.jb mixed [false,false,false,false,false,false,false,false,true,false,false,true] [.b (.agg (ar x_10)),.b (.one (.sl 1 (x_9.map eI))),.b (.one (.sl 1 (x_8.map eI))),.b (.one (.sl 1 (x_12.map eI))),.b (.one (.sl 1 (x_8.map eI))),.b (.one (.sl 1 (x_9.map eI))),.b (.one (.sl 1 (x_13.map eI))),I x_11,B true,.b (.one (.sl 1 (x_12.map eI))),.b (.one (.sl 1 (x_13.map eI))),I x_11] [⟨[false,false,false,false,false,false,false,false,false,false,false,false],[(6,Pt 103 0),(9,I x_11),(14,.b (.one (.sl 1 (x_8.map eI)))),(15,.b (.one (.sl 1 (x_9.map eI))))],[(103,.box 49 (ar x_10))],[true,true,true,true,true,true,true,true,true,true,true,true],[],[9,10,11]⟩,⟨[false,false,false,false,false,false,false,false,true,false,false,false],[(6,Pt 103 0),(9,I x_11),(14,.b (.one (.sl 1 (x_8.map eI)))),(15,.b (.one (.sl 1 (x_9.map eI))))],[(103,.box 49 (ar x_10))],[true,true,true,true,true,true,true,true,true,true,true,true],[0,1,2,3,4,5,6,8],[]⟩,⟨[false,false,false,false,false,false,false,false,true,false,false,true],[(6,Pt 103 0),(14,.b (.one (.sl 1 (x_8.map eI)))),(15,.b (.one (.sl 1 (x_9.map eI))))],[(103,.box 49 (ar x_10))],[true,true,true,true,true,true,true,true,true,true,true,true],[0,1,2,3,4,5,6,7,8,9,10,11],[]⟩] rfl (⟨by kernel_rfl,⟨⟨.b (.agg (ar x_10)),fun _=>rfl,fun _=>.p (by exact bo aH rfl rfl rfl rfl)⟩,⟨.b (.one (.sl 1 (x_9.map eI))),fun _=>rfl,fun _=>.p (by exact aP rfl)⟩,⟨.b (.one (.sl 1 (x_8.map eI))),fun _=>rfl,fun _=>.p (by exact aP rfl)⟩,⟨.b (.one (.sl 1 (x_12.map eI))),fun _=>rfl,fun _=>.p (by exact ak (jP 0 e7).oR vC rfl rfl)⟩,⟨.b (.one (.sl 1 (x_8.map eI))),fun _=>rfl,fun _=>.p (by exact aP rfl)⟩,⟨.b (.one (.sl 1 (x_9.map eI))),fun _=>rfl,fun _=>.p (by exact aP rfl)⟩,⟨.b (.one (.sl 1 (x_13.map eI))),fun _=>rfl,fun _=>.p (by exact ak (jP 0 e8).oR vC rfl rfl)⟩,⟨I x_11,fun _=>rfl,fun _=>.p (by exact aP rfl)⟩,⟨_,[],.b (.one .any),rfl,(fun e=>by simp at e),rfl,rfl,fun _=>.qE [103] (by exact .p (by exact aB aH rfl rfl rfl rfl (Nat.le_of_ble_eq_true rfl) rfl)) (by exact rfl)⟩,trivial,trivial,trivial,trivial⟩,⟨by kernel_rfl,⟨trivial,trivial,trivial,trivial,trivial,trivial,trivial,⟨I x_11,fun _=>rfl,fun _=>.p (by exact aP rfl)⟩,trivial,⟨.b (.one (.sl 1 (x_12.map eI))),fun _=>rfl,fun _=>.p (by exact bR rfl)⟩,⟨.b (.one (.sl 1 (x_13.map eI))),fun _=>rfl,fun _=>.p (by exact bR rfl)⟩,⟨_,[],I x_11,rfl,fun _=>rfl,rfl,rfl,fun _=>.qE [103] (by exact .p (by exact bR rfl)) (by exact rfl)⟩,trivial⟩,⟨by kernel_rfl,⟨trivial,trivial,trivial,trivial,trivial,trivial,trivial,trivial,trivial,trivial,trivial,trivial,trivial⟩,trivial⟩⟩⟩) rfl rfl rfl [6,7,8,9] [103] (s':=⟨[(6,_),(7,.b (.one (.sl 1 (x_12.map eI)))),(8,.b (.one (.sl 1 (x_13.map eI)))),(9,_)],[(103,_)]⟩) rfl ?_
   refine ab.ret ?_
   obtain rfl:=Option.some.inj h
   refine Fin.ag ⟨[(6,_),(7,_),(8,_),(9,_)],[(103,_)]⟩ rfl (Fin.aA [.agg (ar x_10),.one (.sl 1 (x_12.map eI)),.one (.sl 1 (x_13.map eI)),.one (.i x_11)] (.inl rfl) rfl (.cons (.agg aH rfl rfl rfl rfl) (.cons (.tmp rfl) (.cons (.tmp rfl) (.cons (.tmp rfl) .nil)))) ⟨rfl,rfl⟩)
def bG (F:Nat) (a0:List Int) (b0:List Int):Option Bool :=
 if (decide ((a0.length:Int) ≠ (b0.length:Int))) = true then (some false) else (Option.bind (iter F (fun i_1=>if (decide (i_1 < (a0.length:Int))) = true then ((a8 a0 i_1).bind fun x_2=>(a8 b0 i_1).bind fun x_3=>if (decide (x_2 ≠ x_3)) = true then (some (.inr (.inr false))) else (some (.inl (IntKind.i64.wrap (i_1 + 1))))) else (some (.inr (.inl ())))) 0) (cL (fun _=>some true) (fun y=>some y)))
theorem df {F:Nat} {a0:List Int} {b0:List Int} {r:Bool} (h:bG F a0 b0 = some r):av Tryz.prog [] 32 [] [.one (.sl 1 (a0.map eI)),.one (.sl 1 (b0.map eI))] (Is [] (.b (.one (.bool r)))):=by
 unfold bG at h
 refine av.intro 26 Tryz.func32 Tryz.ntmps32 rfl (by simp) fun E=>?_
 show ab _ E ⟨26,[],[],[]⟩ _ ⟨[(0,.b (.one (.sl 1 (a0.map eI)))),(1,.b (.one (.sl 1 (b0.map eI))))],[]⟩ _
 refine ab.seq (ab.aa ?_)
 refine Oc oa (ae.ai ⟨[(0,.b (.one (.sl 1 (a0.map eI)))),(1,.b (.one (.sl 1 (b0.map eI))))],[]⟩ rfl (ab.seq (ab.seq (ab.aa ?_))))
 refine Oc om (Oc (aY fR rfl (List.length_map _)) (Oc om (Oc (aY fR rfl (List.length_map _)) (Oc (jY rfl rfl) ?_))))
 refine ae.ai ⟨[(0,_),(1,_),(10,B (decide ((a0.length:Int) ≠ (b0.length:Int))))],[]⟩ rfl (ab.ite h rfl (fun _ h=>?_) (fun _ h=>?_))
 ·refine ab.seq (ab.aa ?_)
  refine Oc oa (ae.ai ⟨[(4,B false)],[]⟩ rfl (ab.ret (Fin.aw ?_)))
  obtain rfl:=Option.some.inj h
  refine Fin.ag ⟨[(4,_)],[]⟩ rfl (Fin.aA [.one (.bool false)] (.inl rfl) rfl (.cons (.tmp rfl) .nil) ⟨rfl,rfl⟩)
 ·refine ab.skip (Fin.ag ⟨[(0,_),(1,_)],[]⟩ rfl (Fin.then ?_))
  obtain ⟨v1,h2,h⟩:=aL h
  refine ab.c6 (v:=v1) (fun (_:Unit)=>⟨[],[]⟩) (fun z=>.inl z) ?_ ?_
  ·refine ab.seq (ab.aa ?_)
   refine Oc oa (ae.ai ⟨[(0,_),(1,_),(5,I 0)],[]⟩ rfl (ab.block (ab.cN h2 (fun (i_1:Int)=>⟨[(0,.b (.one (.sl 1 (a0.map eI)))),(1,.b (.one (.sl 1 (b0.map eI)))),(5,I i_1)],[]⟩) [0,1,5] [] rfl ?_)))
   rintro i_1 o3 h4 hy5
   refine ab.seq (ab.seq (ab.aa ?_))
   refine Oc om (Oc om (Oc (aY fR rfl (List.length_map _)) (Oc (bb rfl rfl) ?_)))
   refine ae.ai ⟨[(0,_),(1,_),(5,_),(14,B (decide (i_1 < (a0.length:Int))))],[]⟩ rfl (ab.ite h4 rfl (fun _ h4=>?_) (fun _ h4=>?_))
   ·refine ab.skip (Fin.ag ⟨[(0,_),(1,_),(5,_)],[]⟩ rfl (Fin.then (ab.seq (ab.block (ab.seq ?_)))))
    refine ab.ag ⟨[(0,_),(1,_),(5,_)],[]⟩ rfl ?_
    obtain ⟨x_2,e6,h4⟩:=aL h4
    obtain ⟨x_3,e7,h4⟩:=aL h4
    refine ab.bE mixed 9 [.b (.one (.sl 1 (a0.map eI))),I i_1,.b (.aO [.i x_2]),I x_2,.b (.one (.sl 1 (b0.map eI))),I i_1,.b (.aO [.i x_3]),I x_3,B (decide (x_2 ≠ x_3))] [0,1,5,25] [] (s':=⟨[(0,_),(1,_),(5,_),(25,B (decide (x_2 ≠ x_3)))],[]⟩) rfl ⟨fun _=>.p om,fun _=>.p om,fun _=>.p (aN bN (aX e6) (bn (e:=eI) e6) rfl rfl),fun _=>.p (az aM rfl rfl),fun _=>.p om,fun _=>.p om,fun _=>.p (aN bN (aX e7) (bn (e:=eI) e7) rfl rfl),fun _=>.p (az aM rfl rfl),fun _=>.p (jY rfl rfl),trivial⟩ rfl rfl (ab.ite h4 rfl (fun _ h4=>?_) (fun _ h4=>?_))
    ·refine ab.seq (ab.aa ?_)
     refine Oc oa (ae.ai ⟨[(4,B false)],[]⟩ rfl (ab.ret (Fin.aS (Fin.aw ?_))))
     obtain rfl:=hy5 _ (Option.some.inj h4).symm
     refine Fin.aw (Fin.aS (Fin.aw ?_))
     obtain rfl:=Option.some.inj h
     refine Fin.ag ⟨[(4,_)],[]⟩ rfl (Fin.aA [.one (.bool false)] (.inl rfl) rfl (.cons (.tmp rfl) .nil) ⟨rfl,rfl⟩)
    ·refine ab.skip (Fin.au (Fin.ag ⟨[(0,_),(1,_),(5,_)],[]⟩ rfl (Fin.then (ab.aa ?_))))
     refine Oc om (Oc (br rfl rfl) (Oc oa ?_))
     refine ae.nil ?_
     exact Fin.bO [0,1,5] [] (IntKind.i64.wrap (i_1 + 1)) (Option.some.inj h4) rfl
   ·refine ab.exit (Fin.ax ?_)
    obtain rfl:=hy5 _ (Option.some.inj h4).symm
    refine Fin.ax (Fin.aQ ?_)
    exact Fin.join [] [] () rfl rfl
  ·rintro _ hv
   subst v1
   refine ab.seq (ab.aa ?_)
   refine Oc oa (ae.ai ⟨[(4,B true)],[]⟩ rfl (ab.ret ?_))
   obtain rfl:=Option.some.inj h
   refine Fin.ag ⟨[(4,_)],[]⟩ rfl (Fin.aA [.one (.bool true)] (.inl rfl) rfl (.cons (.tmp rfl) .nil) ⟨rfl,rfl⟩)
def cX (F:Nat) (s0:b4):Option (List A2) :=
 Option.bind (oM (fun _=>some true) s0.ids.root) (fun xs_1=>Option.bind (each (fun outf0_3=>fun x_2=>(cp F s0 x_2.b).bind fun x_4=>Option.bind (iter F (dd fun outf0_5 x_6=>if (decide (x_6 < (x_4.length:Int))) = true then (Option.bind ((a8 x_4 x_6).bind fun x_9=>if (decide (x_2.id < x_9)) = true then ((dE outf0_5 [(⟨x_2.id,x_9⟩:A2)]).bind fun x_10=>some x_10) else (some outf0_5)) (fun outf0_8=>some (.inl (outf0_8,IntKind.i64.wrap (x_6 + 1))))) else (some (.inr outf0_5))) (outf0_3,0)) (fun outf0_7=>some (.inl outf0_7))) (xs_1) []) (cL (fun outf0_3=>some outf0_3) (fun (_:Unit)=>none)))
theorem fQ {F:Nat} {s0:b4} {r:(List A2)} (h:cX F s0 = some r):av Tryz.prog [] 26 [] [.agg (ar s0)] (Is [(51,.row 40 2 (r.map (eu .i64)))] (.b (.row 51))):=by
 unfold cX at h
 refine av.sU 34 Tryz.func26 Tryz.ntmps26 rfl (by simp) fun E=>?_
 show ab _ E ⟨34,[],[],[]⟩ _ ⟨[(0,.b (.agg (ar s0)))],[]⟩ _
 refine ab.seq (ab.aa ?_)
 refine Oc (bq (k:=101) rfl rfl) (Oc oa ?_)
 refine ae.ai ⟨[(1,Pt 101 0)],[(101,.box 49 (ar s0))]⟩ rfl (ab.seq (ab.aa ?_))
 refine Oc (aT (k:=102) wa rfl) (ae.ai ⟨[(1,_),(3,Pt 102 0)],[(101,_),(102,.box 35 [.nil])]⟩ rfl (ab.seq (ab.seq (ab.aa ?_))))
 refine Oc (aq jH rfl rfl) (Oc (aq fT rfl rfl) (Oc (aF bK rfl rfl rfl) (Oc (ak pv sY rfl rfl) ?_)))
 refine ae.ai ⟨[(1,_),(3,_),(10,.b (.one (.fw 77 [CP.rp [.tr af s0.ids.root],CP.rp [.raw (.func (.func 58) #[] #[])]])))],[(101,_),(102,_)]⟩ rfl ?_
 obtain ⟨xs_1,e1,h⟩:=aL h
 refine ab.ag ⟨[(1,Pt 101 0),(3,Pt 102 0),(10,.b (.one (.fw 77 [CP.rp [.tr af s0.ids.root],CP.rp [.raw (.func (.func 58) #[] #[])]])))],[(101,.box 49 (ar s0)),(102,.box 35 [.nil])]⟩ rfl (ab.uY 102 rfl (ab.gm 102 0 106 2 40 rfl rfl (by decide) (by decide) rfl (ab.ag ⟨[(1,_),(3,_),(10,_)],[(101,_),(102,.bM 35 [.row 106]),(106,.row 40 2 ([].map (eu .i64)))]⟩ rfl (ab.sM _ uA _ _ (fun (outf0_3:List A2)=>[(101,.box 49 (ar s0)),(102,.bM 35 [.row 106]),(106,.row 40 2 (outf0_3.map (eu .i64)))]) (fun (_:Unit)=>([]:List (Nat × OC))) (fun (outf0_3:List A2)=>fun x_2=>⟨[(1,Pt 101 0),(3,Pt 102 0),(4,Pt 108 0)],[(101,.box 49 (ar s0)),(102,.bM 35 [.row 106]),(106,.row 40 2 (outf0_3.map (eu .i64))),(108,.box 87 (ay x_2))]⟩) h (pw ni e1) sX rfl rfl rfl (fun _=>rfl) (fun _=>rfl) (fun _=>rfl) (fun _ _=>rfl) (fun _ _=>rfl) rfl (fun _=>rfl) ?_ ?_ ?_ ?_))))
 ·rintro E l outf0_3 x_2 z _ h2
  refine a7.keep [1,3,10,11] [101,102,106] (s':=⟨[(1,Pt 101 0),(3,Pt 102 0),(10,.b (.one (.fw 77 [CP.rp [.tr af s0.ids.root],CP.rp [.raw (.func (.func 58) #[] #[])]]))),(11,.b (.agg (ay x_2)))],[(101,.box 49 (ar s0)),(102,.bM 35 [.row 106]),(106,.row 40 2 (outf0_3.map (eu .i64)))]⟩) rfl (a7.aa (.inr ⟨_,rfl⟩) (Oc (aT (k:=108) gq rfl) (Oc (aB bF rfl rfl rfl rfl (Nat.le_of_ble_eq_true rfl) rfl) ?_)))
  refine ae.nil ?_
  exact Fin.ag ⟨[(1,_),(3,_),(4,Pt 108 0)],[(101,_),(102,_),(106,_),(108,.box 87 (ay x_2))]⟩ rfl (fun a w hr=>hr)
 ·rintro E l outf0_3 x_2 z _ h2
  refine a7.block (a7.seq (a7.aa (.inr ⟨_,rfl⟩) (Oc (lp aH) (Oc (aq gB rfl rfl) (Oc (lp aC) ?_)))))
  obtain ⟨x_4,e3,h2⟩:=aL h2
  refine Oc (cC (own_a:=[]) ((dS e3).sw 51 109) qK rfl trivial rfl rfl) (Oc (fl fR rfl rfl (List.length_map _)) (Oc om ?_))
  refine ae.nil (Fin.ag ⟨[(1,Pt 101 0),(3,Pt 102 0),(4,Pt 108 0),(15,.b (.row 109)),(16,I (x_4.length:Int)),(17,I 0)],[(101,.box 49 (ar s0)),(102,.bM 35 [.row 106]),(106,.row 40 2 (outf0_3.map (eu .i64))),(108,.box 87 (ay x_2)),(109,.row 3 1 (x_4.map eI))]⟩ rfl (Fin.ic ?_ (fun ⟨_,_,hl⟩=>hl)))
  refine a7.block ?_
  obtain ⟨v4,h5,h2⟩:=aL h2
  refine a7.cN h5 (dd fun (outf0_5:List A2) (x_6:Int)=>⟨[(1,Pt 101 0),(3,Pt 102 0),(4,Pt 108 0),(15,.b (.row 109)),(16,I (x_4.length:Int)),(17,I x_6)],[(101,.box 49 (ar s0)),(102,.bM 35 [.row 106]),(106,.row 40 2 (outf0_5.map (eu .i64))),(108,.box 87 (ay x_2)),(109,.row 3 1 (x_4.map eI))]⟩) [1,3,4,15,16,17] [101,102,106,108,109] rfl ?_
  rintro ⟨outf0_5,x_6⟩ o6 h7 hy8
  refine a7.seq (a7.aa (.inr ⟨_,rfl⟩) (Oc (bb rfl rfl) (ae.nil (Fin.ag ⟨[(1,_),(3,_),(4,_),(15,_),(16,_),(17,I x_6),(18,B (decide (x_6 < (x_4.length:Int))))],[(101,_),(102,_),(106,.row 40 2 (outf0_5.map (eu .i64))),(108,_),(109,_)]⟩ rfl (Fin.ic ?_ (fun ⟨_,_,hl⟩=>hl))))))
  refine a7.seq (a7.ite h7 rfl (fun _ h7=>?_) (fun _ h7=>?_))
  ·refine a7.skip (Fin.ag ⟨[(1,_),(3,_),(4,_),(15,_),(16,_),(17,_)],[(101,_),(102,_),(106,_),(108,_),(109,_)]⟩ rfl (Fin.ic ?_ (fun ⟨_,_,hl⟩=>hl)))
   obtain ⟨v9,h10,h7⟩:=aL h7
   refine a7.c6 (v:=v9) (fun (outf0_8:List A2)=>⟨[(1,Pt 101 0),(3,Pt 102 0),(4,Pt 108 0),(15,.b (.row 109)),(16,I (x_4.length:Int)),(17,I x_6)],[(101,.box 49 (ar s0)),(102,.bM 35 [.row 106]),(106,.row 40 2 (outf0_8.map (eu .i64))),(108,.box 87 (ay x_2)),(109,.row 3 1 (x_4.map eI))]⟩) (fun z=>z) ?_ ?_
   ·refine a7.block (a7.seq (a7.aa (.inr ⟨_,rfl⟩) ?_))
    obtain ⟨x_9,e11,h10⟩:=aL h10
    refine Oc (eF bN (aX e11) (j6 e11) rfl rfl rfl rfl) (Oc (gE (i:=(x_6:Int).toNat) (f:=0) aM rfl rfl rfl (bn (e:=eI) e11) rfl) (Oc oa ?_))
    refine ae.nil (Fin.ag ⟨[(1,_),(3,_),(4,_),(6,I x_9),(15,_),(16,_),(17,_)],[(101,_),(102,_),(106,_),(108,_),(109,_)]⟩ rfl (Fin.ic ?_ (fun ⟨_,_,hl⟩=>hl)))
    refine a7.seq (a7.aa (.inr ⟨_,rfl⟩) (Oc om (Oc (aq dW rfl rfl) (Oc (aF aM rfl rfl rfl) (Oc (gA rfl rfl) ?_)))))
    refine ae.nil (Fin.ag ⟨[(1,_),(3,_),(4,_),(6,_),(15,_),(16,_),(17,_),(24,B (decide (x_2.id < x_9)))],[(101,_),(102,_),(106,_),(108,_),(109,_)]⟩ rfl (Fin.ic ?_ (fun ⟨_,_,hl⟩=>hl)))
    refine a7.ite h10 rfl (fun _ h10=>?_) (fun _ h10=>?_)
    ·refine a7.aa (.inr ⟨_,rfl⟩) (Oc (eE qU rfl rfl rfl) (Oc (aq dW rfl rfl) (Oc (aF aM rfl rfl rfl) (Oc om (Oc (dX fk rfl rfl) (Oc (bt (k:=110) (es:=[(⟨x_2.id,x_9⟩:A2)].map (eu .i64)) hU rfl rfl (bP fun _=>rfl) rfl (by decide) (by decide) rfl) ?_))))))
     refine ae.forget 102 0 rfl ?_
     obtain ⟨x_10,e12,h10⟩:=aL h10
     refine Oc (cW hU (gh e12) (gg e12) rfl rfl rfl rfl (du e12) rfl) (Oc (gX qU rfl rfl rfl rfl (Nat.le_of_ble_eq_true rfl) rfl) ?_)
     refine ae.nil (Fin.au ?_)
     exact Fin.join [1,3,4,15,16,17] [101,102,106,108,109] x_10 (Option.some.inj h10) rfl
    ·refine a7.skip (Fin.au ?_)
     exact Fin.join [1,3,4,15,16,17] [101,102,106,108,109] outf0_5 (Option.some.inj h10) rfl
   ·rintro outf0_8 hv
    subst v9
    refine a7.aa (.inr ⟨_,rfl⟩) (Oc (br rfl rfl) (Oc om ?_))
    refine ae.nil ?_
    exact Fin.bO [1,3,4,15,16,17] [101,102,106,108,109] (outf0_8,IntKind.i64.wrap (x_6 + 1)) (Option.some.inj h7) rfl
  ·refine a7.exit (Fin.ax ?_)
   obtain rfl:=hy8 _ (Option.some.inj h7).symm
   refine Fin.ax (Fin.aQ (Fin.au ?_))
   obtain rfl:=Option.some.inj h2
   exact Fin.ag ⟨[],[(101,_),(102,_),(106,_)]⟩ rfl (fun a w hr=>⟨_,rfl,hr⟩)
 ·rintro E D outf0_3 h13
  refine ab.seq (ab.aa ?_)
  refine Oc (eE qU rfl rfl rfl) (Oc oa ?_)
  refine ae.ai ⟨[(2,.b (.row 106))],[(106,.row 40 2 (outf0_3.map (eu .i64)))]⟩ rfl (ab.ret ?_)
  obtain rfl:=Option.some.inj h13
  refine Fin.ag ⟨[(2,.b (.row 106))],[(106,.row 40 2 (outf0_3.map (eu .i64)))]⟩ rfl (Fin.rename 106 51 rfl (by decide) rfl (Fin.ag ⟨[(2,.b (.row 51))],[(51,.row 40 2 (outf0_3.map (eu .i64)))]⟩ rfl ?_))
  exact Fin.result [.row 51] (.inl rfl) rfl (.cons (.tmp rfl) .nil) ⟨rfl,rfl⟩
 ·rintro E D ⟨⟩ h13
  cases h13
def cq (F:Nat):Option Bool :=
 (cu F 0 0 0 4 4 4).bind fun x_1=>(cu F 4 4 4 6 6 6).bind fun x_2=>(cu F 5 0 0 9 9 3).bind fun x_3=>(cQ F x_1 x_2).bind fun x_4=>(bD x_4 (cQ F x_1 x_3)).bind fun x_5=>(bD (x_4 && (!x_5)) (cQ F x_2 x_3)).bind fun x_6=>(bD ((x_4 && (!x_5)) && (!x_6)) (iz F x_1 x_3)).bind fun x_7=>(bD ((x_4 && (!x_5)) && (!x_6)) (cu F 0 0 0 9 9 4)).bind fun x_8=>Option.bind (iA F x_1 1) (dd fun x_9 x_10=>Option.bind (iA F x_3 1) (dd fun x_11 x_12=>Option.bind (fH F [x_1,x_2,x_3]) (dd fun x_13 x_14=>Option.bind (fH F [x_1,x_11,x_2]) (dd fun x_15 x_16=>fv (((decide (x_10 = 0)) && (decide (x_12 = 0))) && (decide (x_14 = 0))) fun x_17=>(bg F x_13 [(⟨0,1⟩:A2)]).bind fun x_18=>(bD x_18 (bg F x_15 [(⟨0,1⟩:A2),(⟨0,2⟩:A2),(⟨1,2⟩:A2)])).bind fun x_19=>(gY F).bind fun x_20=>Option.bind (cf F x_20 7 x_1) (dd fun x_21 x_22=>Option.bind (cf F x_21 3 x_2) (dd fun x_23 x_24=>Option.bind (cI F x_23 x_1) (dd fun x_25 x_26=>Option.bind (cI F x_23 x_3) (dd fun x_27 x_28=>Option.bind (cH F x_23 3 x_3) (uX fun x_29 x_30 x_31 x_32=>Option.bind (cf F x_29 3 x_1) (dd fun x_33 x_34=>Option.bind (b8 F x_29 5) (dd fun x_35 x_36=>fv (((decide (x_22 = 0)) && (decide (x_24 = 0))) && (decide (x_26 = 0))) fun x_37=>(bD ((x_37 && (decide (x_28 = 0))) && (decide (x_32 = 0))) (bG F x_25 [3,7])).bind fun x_38=>fv (((x_37 && (decide (x_28 = 0))) && (decide (x_32 = 0))) && x_38) fun x_39=>fv ((x_39 && (decide ((x_27.length:Int) = 0))) && (decide ((x_30.length:Int) = 0))) fun x_40=>(bD x_40 (bG F x_31 [7])).bind fun x_41=>(bD ((((x_4 && (!x_5)) && (!x_6)) && (decide (x_7 = x_8))) && (x_17 && (decide (x_16 = 0)))) (cu F (-1) (-1) (-1) 5 5 5)).bind fun x_42=>(bD (((((((x_4 && (!x_5)) && (!x_6)) && (decide (x_7 = x_8))) && (x_17 && (decide (x_16 = 0)))) && (decide (x_9 = x_42))) && (x_18 && x_19)) && (x_40 && x_41)) (cX F x_29)).bind fun x_43=>(bD ((((((((x_4 && (!x_5)) && (!x_6)) && (decide (x_7 = x_8))) && (x_17 && (decide (x_16 = 0)))) && (decide (x_9 = x_42))) && (x_18 && x_19)) && (x_40 && x_41)) && (decide ((x_43.length:Int) = 0))) (cX F x_23)).bind fun x_44=>(bD ((((((((x_4 && (!x_5)) && (!x_6)) && (decide (x_7 = x_8))) && (x_17 && (decide (x_16 = 0)))) && (decide (x_9 = x_42))) && (x_18 && x_19)) && (x_40 && x_41)) && (decide ((x_43.length:Int) = 0))) (bg F x_44 [(⟨3,7⟩:A2)])).bind fun x_45=>some (((((((((((x_4 && (!x_5)) && (!x_6)) && (decide (x_7 = x_8))) && (x_17 && (decide (x_16 = 0)))) && (decide (x_9 = x_42))) && (x_18 && x_19)) && (x_40 && x_41)) && (decide ((x_43.length:Int) = 0))) && x_45) && (decide (x_34 = 6))) && (decide (x_36 = 5))))))))))))))
theorem fu {F:Nat} {r:Bool} (h:cq F = some r):av Tryz.prog [] 15 [] [] (Is [] (.b (.one (.bool r)))):=by
 unfold cq at h
 refine av.intro 225 Tryz.func15 Tryz.ntmps15 rfl (by simp) fun E=>?_
 show ab _ E ⟨225,[],[],[]⟩ _ ⟨[],[]⟩ _
 refine ab.seq (ab.aa ?_)
 refine Oc oa (ae.ai ⟨[],[]⟩ rfl (ab.seq (ab.aa ?_)))
 obtain ⟨x_1,e1,h⟩:=aL h
 refine Oc (ak (cT e1) oX rfl rfl) (Oc (aT (k:=101) fa rfl) (Oc (aB aC rfl rfl rfl rfl (Nat.le_of_ble_eq_true rfl) rfl) ?_))
 refine ae.ai ⟨[(1,Pt 101 0)],[(101,.box 25 (ao x_1))]⟩ rfl (ab.seq (ab.aa ?_))
 obtain ⟨x_2,e2,h⟩:=aL h
 refine Oc (ak (cT e2) oX rfl rfl) (Oc (aT (k:=102) fa rfl) (Oc (aB aC rfl rfl rfl rfl (Nat.le_of_ble_eq_true rfl) rfl) ?_))
 refine ae.ai ⟨[(1,_),(2,Pt 102 0)],[(101,_),(102,.box 25 (ao x_2))]⟩ rfl (ab.seq (ab.aa ?_))
 obtain ⟨x_3,e3,h⟩:=aL h
 refine Oc (ak (cT e3) oX rfl rfl) (Oc (aT (k:=103) fa rfl) (Oc (aB aC rfl rfl rfl rfl (Nat.le_of_ble_eq_true rfl) rfl) ?_))
 refine ae.ai ⟨[(1,_),(2,_),(3,Pt 103 0)],[(101,_),(102,_),(103,.box 25 (ao x_3))]⟩ rfl (ab.seq (ab.aa ?_))
 refine Oc (lp aC) (Oc (lp aC) ?_)
 obtain ⟨x_4,e4,h⟩:=aL h
 refine Oc (ak (dJ e4) nv rfl rfl) (Oc om ?_)
 refine eZ x_4 [] (fun g5=>trivial) (fun g5=>lp aC) (ae.ag ⟨[(1,_),(2,_),(3,_),(37,B x_4),(38,.opt x_4 (.agg (ao x_1)))],[(101,_),(102,_),(103,_)]⟩ rfl (eZ x_4 [] (fun g6=>by exact trivial) (fun g6=>lp aC) ?_))
 obtain ⟨x_5,e8,h⟩:=aL h
 refine eZ x_4 [38,39] (fun g7=>⟨g7,g7,trivial⟩) (fun g7=>ak (dJ (gc e8 g7)) nv rfl rfl) (eZ x_4 [40] (fun g9=>⟨g9,trivial⟩) (fun g9=>di rfl) (Oc (aJ (fun e=>e) rfl rfl rfl rfl) (Oc om ?_)))
 refine eZ (x_4 && (!x_5)) [] (fun g10=>trivial) (fun g10=>lp aC) (ae.ag ⟨[(1,_),(2,_),(3,_),(43,B (x_4 && (!x_5))),(44,.opt (x_4 && (!x_5)) (.agg (ao x_2)))],[(101,_),(102,_),(103,_)]⟩ rfl (eZ (x_4 && (!x_5)) [] (fun g11=>by exact trivial) (fun g11=>lp aC) ?_))
 obtain ⟨x_6,e13,h⟩:=aL h
 refine eZ (x_4 && (!x_5)) [44,45] (fun g12=>⟨g12,g12,trivial⟩) (fun g12=>ak (dJ (gc e13 g12)) nv rfl rfl) (eZ (x_4 && (!x_5)) [46] (fun g14=>⟨g14,trivial⟩) (fun g14=>di rfl) (Oc (aJ (fun e=>e) rfl rfl rfl rfl) (Oc om ?_)))
 refine eZ ((x_4 && (!x_5)) && (!x_6)) [] (fun g15=>trivial) (fun g15=>lp aC) (ae.ag ⟨[(1,_),(2,_),(3,_),(49,B ((x_4 && (!x_5)) && (!x_6))),(50,.opt ((x_4 && (!x_5)) && (!x_6)) (.agg (ao x_1)))],[(101,_),(102,_),(103,_)]⟩ rfl (eZ ((x_4 && (!x_5)) && (!x_6)) [] (fun g16=>by exact trivial) (fun g16=>lp aC) ?_))
 obtain ⟨x_7,e18,h⟩:=aL h
 refine eZ ((x_4 && (!x_5)) && (!x_6)) [50,51] (fun g17=>⟨g17,g17,trivial⟩) (fun g17=>ak (kI (gc e18 g17)) vH rfl rfl) ?_
 obtain ⟨x_8,e20,h⟩:=aL h
 refine eZ ((x_4 && (!x_5)) && (!x_6)) [] (fun g19=>trivial) (fun g19=>ak (cT (gc e20 g19)) oX rfl rfl) (eZ ((x_4 && (!x_5)) && (!x_6)) [52,53] (fun g21=>⟨g21,g21,trivial⟩) (fun g21=>pE (q9 x_7 x_8) rfl rfl) (Oc (aJ (fun e=>e) rfl rfl rfl rfl) (Oc oa ?_)))
 refine ae.ai ⟨[(1,_),(2,_),(3,_),(4,B (((x_4 && (!x_5)) && (!x_6)) && (decide (x_7 = x_8))))],[(101,_),(102,_),(103,_)]⟩ rfl (ab.seq (ab.aa ?_))
 refine Oc (lp aC) ?_
 obtain ⟨⟨x_9,x_10⟩,e22,h⟩:=aL h
 refine Oc (ak (kJ e22) vJ rfl rfl) (Oc om (Oc (an rfl rfl) (Oc (an rfl rfl) ?_)))
 refine ae.ag ⟨[(1,_),(2,_),(3,_),(4,_),(59,.b (.agg (ao x_9))),(60,I x_10)],[(101,_),(102,_),(103,_)]⟩ rfl (Oc (aT (k:=104) fa rfl) (Oc (aB aC rfl rfl rfl rfl (Nat.le_of_ble_eq_true rfl) rfl) (Oc oa ?_)))
 refine ae.ai ⟨[(1,_),(2,_),(3,_),(4,_),(5,Pt 104 0),(6,I x_10)],[(101,_),(102,_),(103,_),(104,.box 25 (ao x_9))]⟩ rfl (ab.seq (ab.aa ?_))
 refine Oc (lp aC) ?_
 obtain ⟨⟨x_11,x_12⟩,e23,h⟩:=aL h
 refine Oc (ak (kJ e23) vJ rfl rfl) (Oc om (Oc (an rfl rfl) (Oc (an rfl rfl) ?_)))
 refine ae.ag ⟨[(1,_),(2,_),(3,_),(4,_),(5,_),(6,_),(64,.b (.agg (ao x_11))),(65,I x_12)],[(101,_),(102,_),(103,_),(104,_)]⟩ rfl (Oc (aT (k:=105) fa rfl) (Oc (aB aC rfl rfl rfl rfl (Nat.le_of_ble_eq_true rfl) rfl) (Oc oa ?_)))
 refine ae.ai ⟨[(1,_),(2,_),(3,_),(4,_),(5,_),(6,_),(7,Pt 105 0),(8,I x_12)],[(101,_),(102,_),(103,_),(104,_),(105,.box 25 (ao x_11))]⟩ rfl (ab.seq (ab.aa ?_))
 refine Oc (lp aC) (Oc (lp aC) (Oc (lp aC) (Oc (bt (k:=106) (es:=[x_1,x_2,x_3].map ao) mf rfl rfl (bP fun _=>rfl) rfl (by decide) (by decide) rfl) ?_)))
 refine ae.cO 106 rfl (ae.ag ⟨[(1,Pt 101 0),(2,Pt 102 0),(3,Pt 103 0),(4,B (((x_4 && (!x_5)) && (!x_6)) && (decide (x_7 = x_8)))),(5,Pt 104 0),(6,I x_10),(7,Pt 105 0),(8,I x_12),(70,.b (.one (.sl 6 ([x_1,x_2,x_3].map ao))))],[(101,.box 25 (ao x_1)),(102,.box 25 (ao x_2)),(103,.box 25 (ao x_3)),(104,.box 25 (ao x_9)),(105,.box 25 (ao x_11))]⟩ rfl ?_)
 obtain ⟨⟨x_13,x_14⟩,e24,h⟩:=aL h
 refine Oc (cC (jQ 107 e24) vG rfl trivial rfl rfl) (Oc om (Oc (an rfl rfl) (Oc (an rfl rfl) (Oc oa (Oc oa ?_)))))
 refine ae.ai ⟨[(1,_),(2,_),(3,_),(4,_),(5,_),(6,_),(7,_),(8,_),(9,.b (.row 107)),(10,I x_14)],[(101,_),(102,_),(103,_),(104,_),(105,_),(107,.row 40 2 (x_13.map (eu .i64)))]⟩ rfl (ab.seq (ab.aa ?_))
 refine Oc (lp aC) (Oc (lp aC) (Oc (lp aC) (Oc (bt (k:=108) (es:=[x_1,x_11,x_2].map ao) mf rfl rfl (bP fun _=>rfl) rfl (by decide) (by decide) rfl) ?_)))
 refine ae.cO 108 rfl (ae.ag ⟨[(1,Pt 101 0),(2,Pt 102 0),(3,Pt 103 0),(4,B (((x_4 && (!x_5)) && (!x_6)) && (decide (x_7 = x_8)))),(5,Pt 104 0),(6,I x_10),(8,I x_12),(9,.b (.row 107)),(10,I x_14),(78,.b (.one (.sl 6 ([x_1,x_11,x_2].map ao))))],[(101,.box 25 (ao x_1)),(102,.box 25 (ao x_2)),(103,.box 25 (ao x_3)),(104,.box 25 (ao x_9)),(107,.row 40 2 (x_13.map (eu .i64)))]⟩ rfl ?_)
 obtain ⟨⟨x_15,x_16⟩,e25,h⟩:=aL h
 refine Oc (cC (jQ 109 e25) vG rfl trivial rfl rfl) (Oc om (Oc (an rfl rfl) (Oc (an rfl rfl) (Oc oa (Oc oa ?_)))))
 refine ae.ai ⟨[(1,_),(2,_),(3,_),(4,_),(5,_),(6,_),(8,_),(9,_),(10,_),(11,.b (.row 109)),(12,I x_16)],[(101,_),(102,_),(103,_),(104,_),(107,_),(109,.row 40 2 (x_15.map (eu .i64)))]⟩ rfl (ab.seq (ab.aa ?_))
 refine Oc om (Oc (c7 rfl rfl) (Oc om ?_))
 refine eZ (decide (x_10 = 0)) [] (fun g26=>trivial) (fun g26=>om) (eZ (decide (x_10 = 0)) [85] (fun g27=>by exact ⟨g27,trivial⟩) (fun g27=>c7 rfl rfl) (Oc (aJ (fun e=>e) rfl rfl rfl rfl) (Oc om ?_)))
 refine ae.ag ⟨[(1,_),(2,_),(3,_),(4,_),(5,_),(9,_),(10,_),(11,_),(12,_),(88,B ((decide (x_10 = 0)) && (decide (x_12 = 0))))],[(101,_),(102,_),(103,_),(104,_),(107,_),(109,_)]⟩ rfl (eZ ((decide (x_10 = 0)) && (decide (x_12 = 0))) [] (fun g28=>trivial) (fun g28=>om) (eZ ((decide (x_10 = 0)) && (decide (x_12 = 0))) [89] (fun g29=>by exact ⟨g29,trivial⟩) (fun g29=>c7 rfl rfl) (ae.oS h rfl (aJ (fun e=>e) rfl rfl rfl rfl) (fun x_17 h=>?_))))
 refine Oc om (eZ x_17 [] (fun g30=>by exact trivial) (fun g30=>om) (eZ x_17 [93] (fun g31=>by exact ⟨g31,trivial⟩) (fun g31=>c7 rfl rfl) (Oc (aJ (fun e=>e) rfl rfl rfl rfl) (Oc oa ?_))))
 refine ae.ai ⟨[(1,_),(2,_),(3,_),(4,_),(5,_),(9,_),(11,_),(13,B (x_17 && (decide (x_16 = 0))))],[(101,_),(102,_),(103,_),(104,_),(107,_),(109,_)]⟩ rfl (ab.seq (ab.aa ?_))
 refine Oc om (Oc (dX fk rfl rfl) (Oc (bt (k:=110) (es:=[(⟨0,1⟩:A2)].map (eu .i64)) hU rfl rfl (bP fun _=>rfl) rfl (by decide) (by decide) rfl) ?_))
 obtain ⟨x_18,e32,h⟩:=aL h
 refine Oc (iL (cF e32) qN rfl CP.jO) (ae.ag ⟨[(1,_),(2,_),(3,_),(4,_),(5,_),(11,_),(13,_),(99,B x_18)],[(101,_),(102,_),(103,_),(104,_),(109,_)]⟩ rfl (Oc om (eZ x_18 [] (fun g33=>by exact trivial) (fun g33=>om) (eZ x_18 [] (fun g34=>by exact trivial) (fun g34=>dX fk rfl rfl) (eZ x_18 [] (fun g35=>by exact trivial) (fun g35=>dX fk rfl rfl) ?_)))))
 refine eZ x_18 [] (fun g36=>trivial) (fun g36=>dX fk rfl rfl) (eZ x_18 [102,103,104] (fun g37=>⟨g37,g37,g37,trivial⟩) (fun g37=>cR (es:=[(⟨0,1⟩:A2),(⟨0,2⟩:A2),(⟨1,2⟩:A2)].map (eu .i64)) hU rfl rfl (bP fun _=>rfl) rfl (by decide) (by decide)) (ae.ag ⟨[(1,_),(2,_),(3,_),(4,_),(5,_),(13,_),(100,B x_18),(101,.opt x_18 (.row 109)),(105,.opt x_18 (.one (.sl 2 ([(⟨0,1⟩:A2),(⟨0,2⟩:A2),(⟨1,2⟩:A2)].map (eu .i64)))))],[(101,_),(102,_),(103,_),(104,_),(109,_)]⟩ rfl ?_))
 obtain ⟨x_19,e39,h⟩:=aL h
 refine eZ x_18 [101,105] (fun g38=>⟨g38,g38,trivial⟩) (fun g38=>iL (cF (gc e39 g38)) qN rfl CP.jO) (Oc (aJ (fun e=>e) rfl rfl rfl rfl) (Oc oa ?_))
 refine ae.ai ⟨[(1,_),(2,_),(3,_),(4,_),(5,_),(13,_),(14,B (x_18 && x_19))],[(101,_),(102,_),(103,_),(104,_)]⟩ rfl (ab.seq ?_)
 obtain ⟨x_20,e40,h⟩:=aL h
 obtain ⟨⟨x_21,x_22⟩,e41,h⟩:=aL h
 refine ab.jb mixed [false,false,false,false,false,false,true,true,false] [.b (.agg (ar x_20)),.b (.agg (ao x_1)),.dF [.agg (ar x_21),.one (.i x_22)],.dF [.agg (ar x_21),.one (.i x_22)],.b (.agg (ar x_21)),I x_22,Pt 112 0,B true,I x_22] [⟨[false,false,false,false,false,false,false,false,false],[(1,Pt 101 0),(2,Pt 102 0),(3,Pt 103 0),(4,B (((x_4 && (!x_5)) && (!x_6)) && (decide (x_7 = x_8)))),(5,Pt 104 0),(13,B (x_17 && (decide (x_16 = 0)))),(14,B (x_18 && x_19))],[(101,.box 25 (ao x_1)),(102,.box 25 (ao x_2)),(103,.box 25 (ao x_3)),(104,.box 25 (ao x_9))],[true,true,true,true,true,true,true,true,true],[],[7,8]⟩,⟨[false,false,false,false,false,false,true,false,false],[(1,Pt 101 0),(2,Pt 102 0),(3,Pt 103 0),(4,B (((x_4 && (!x_5)) && (!x_6)) && (decide (x_7 = x_8)))),(5,Pt 104 0),(13,B (x_17 && (decide (x_16 = 0)))),(14,B (x_18 && x_19))],[(101,.box 25 (ao x_1)),(102,.box 25 (ao x_2)),(103,.box 25 (ao x_3)),(104,.box 25 (ao x_9)),(112,.box 49 [.tr af (.leaf),.de 0,.de 0,.de 0,.tr af (.leaf),.de 0,.de 0,.de 0])],[true,true,true,true,true,true,true,true,true],[6],[8]⟩,⟨[false,false,false,false,false,false,true,true,false],[(1,Pt 101 0),(2,Pt 102 0),(3,Pt 103 0),(4,B (((x_4 && (!x_5)) && (!x_6)) && (decide (x_7 = x_8)))),(5,Pt 104 0),(13,B (x_17 && (decide (x_16 = 0)))),(14,B (x_18 && x_19))],[(101,.box 25 (ao x_1)),(102,.box 25 (ao x_2)),(103,.box 25 (ao x_3)),(104,.box 25 (ao x_9)),(112,.box 49 (ar x_21))],[true,true,true,true,true,true,true,true,true],[0,1,2,3,4,6,7],[]⟩] rfl (⟨by kernel_rfl,⟨⟨.b (.agg (ar x_20)),fun _=>rfl,fun _=>.p (by exact ak (iS e40) te rfl rfl)⟩,⟨.b (.agg (ao x_1)),fun _=>rfl,fun _=>.p (by exact bo aC rfl rfl rfl rfl)⟩,⟨.dF [.agg (ar x_21),.one (.i x_22)],fun _=>rfl,fun _=>.p (by exact ak (c8 e41) nu rfl rfl)⟩,⟨.dF [.agg (ar x_21),.one (.i x_22)],fun _=>rfl,fun _=>.p (by exact aP rfl)⟩,⟨.b (.agg (ar x_21)),fun _=>rfl,fun _=>.p (by exact an rfl rfl)⟩,⟨I x_22,fun _=>rfl,fun _=>.p (by exact an rfl rfl)⟩,⟨_,[112],Pt 112 0,rfl,fun _=>rfl,rfl,rfl,fun _=>.qE [101,102,103,104,112] (by exact .p (by exact aT (k:=112) dK rfl)) (by exact rfl)⟩,trivial,trivial,trivial⟩,⟨by kernel_rfl,⟨⟨.b (.agg (ar x_20)),fun _=>rfl,fun _=>.p (by exact ak (iS e40) te rfl rfl)⟩,⟨.b (.agg (ao x_1)),fun _=>rfl,fun _=>.p (by exact bo aC rfl rfl rfl rfl)⟩,⟨.dF [.agg (ar x_21),.one (.i x_22)],fun _=>rfl,fun _=>.p (by exact ak (c8 e41) nu rfl rfl)⟩,⟨.dF [.agg (ar x_21),.one (.i x_22)],fun _=>rfl,fun _=>.p (by exact aP rfl)⟩,⟨.b (.agg (ar x_21)),fun _=>rfl,fun _=>.p (by exact an rfl rfl)⟩,⟨I x_22,fun _=>rfl,fun _=>.p (by exact an rfl rfl)⟩,trivial,⟨_,[],.b (.one .any),rfl,(fun e=>by simp at e),rfl,rfl,fun _=>.qE [101,102,103,104,112] (by exact .p (by exact aB aH rfl rfl rfl rfl (Nat.le_of_ble_eq_true rfl) rfl)) (by exact rfl)⟩,trivial,trivial⟩,⟨by kernel_rfl,⟨trivial,trivial,trivial,trivial,trivial,⟨I x_22,fun _=>rfl,fun _=>.p (by exact an rfl rfl)⟩,trivial,trivial,⟨I x_22,fun _=>rfl,fun _=>.p (by exact bR rfl)⟩,trivial⟩,trivial⟩⟩⟩) rfl rfl rfl [1,2,3,4,5,13,14,15,16] [101,102,103,104,112] (s':=⟨[(1,_),(2,_),(3,_),(4,_),(5,_),(13,_),(14,_),(15,Pt 112 0),(16,I x_22)],[(101,_),(102,_),(103,_),(104,_),(112,.box 49 (ar x_21))]⟩) rfl ?_
 refine ab.seq (ab.aa ?_)
 refine Oc (lp aH) (Oc (lp aC) ?_)
 obtain ⟨⟨x_23,x_24⟩,e42,h⟩:=aL h
 refine Oc (ak (c8 e42) nu rfl rfl) (Oc om (Oc (an rfl rfl) ?_))
 refine ae.ag ⟨[(1,_),(3,_),(4,_),(5,_),(13,_),(14,_),(15,_),(16,_),(114,.dF [.agg (ar x_23),.one (.i x_24)]),(118,.b (.agg (ar x_23)))],[(101,_),(103,_),(104,_),(112,_)]⟩ rfl (Oc (an rfl rfl) (Oc (aB aH rfl rfl rfl rfl (Nat.le_of_ble_eq_true rfl) rfl) (Oc oa ?_)))
 refine ae.ai ⟨[(1,_),(3,_),(4,_),(5,_),(13,_),(14,_),(15,_),(16,_),(17,I x_24)],[(101,_),(103,_),(104,_),(112,.box 49 (ar x_23))]⟩ rfl (ab.seq (ab.aa ?_))
 refine Oc (lp aH) (Oc (lp aC) ?_)
 obtain ⟨⟨x_25,x_26⟩,e43,h⟩:=aL h
 refine Oc (cC (fA 113 e43) s8 rfl trivial rfl rfl) (Oc om (Oc (an rfl rfl) ?_))
 refine ae.ag ⟨[(1,_),(3,_),(4,_),(5,_),(13,_),(14,_),(15,_),(16,_),(17,_),(120,.dF [.row 113,.one (.i x_26)]),(124,.b (.row 113))],[(101,_),(103,_),(104,_),(112,_),(113,.row 3 1 (x_25.map eI))]⟩ rfl (Oc (an rfl rfl) (Oc oa (Oc oa ?_)))
 refine ae.ai ⟨[(1,_),(3,_),(4,_),(5,_),(13,_),(14,_),(15,_),(16,_),(17,_),(18,.b (.row 113)),(19,I x_26)],[(101,_),(103,_),(104,_),(112,_),(113,_)]⟩ rfl (ab.seq (ab.aa ?_))
 refine Oc (lp aH) (Oc (lp aC) ?_)
 obtain ⟨⟨x_27,x_28⟩,e44,h⟩:=aL h
 refine Oc (cC (fA 114 e44) s8 rfl trivial rfl rfl) (Oc om (Oc (an rfl rfl) ?_))
 refine ae.ag ⟨[(1,_),(3,_),(4,_),(5,_),(13,_),(14,_),(15,_),(16,_),(17,_),(18,_),(19,_),(126,.dF [.row 114,.one (.i x_28)]),(130,.b (.row 114))],[(101,_),(103,_),(104,_),(112,_),(113,_),(114,.row 3 1 (x_27.map eI))]⟩ rfl (Oc (an rfl rfl) (Oc oa (Oc oa ?_)))
 refine ae.ai ⟨[(1,_),(3,_),(4,_),(5,_),(13,_),(14,_),(15,_),(16,_),(17,_),(18,_),(19,_),(20,.b (.row 114)),(21,I x_28)],[(101,_),(103,_),(104,_),(112,_),(113,_),(114,_)]⟩ rfl (ab.seq (ab.aa ?_))
 refine Oc (lp aH) (Oc (lp aC) ?_)
 obtain ⟨⟨x_29,x_30,x_31,x_32⟩,e45,h⟩:=aL h
 refine Oc (ak (il e45) vF rfl rfl) (Oc om (Oc (an rfl rfl) ?_))
 refine ae.ag ⟨[(1,_),(4,_),(5,_),(13,_),(14,_),(15,_),(16,_),(17,_),(18,_),(19,_),(20,_),(21,_),(132,.dF [.agg (ar x_29),.one (.sl 1 (x_30.map eI)),.one (.sl 1 (x_31.map eI)),.one (.i x_32)]),(136,.b (.agg (ar x_29)))],[(101,_),(104,_),(112,_),(113,_),(114,_)]⟩ rfl (Oc (an rfl rfl) (Oc (an rfl rfl) (Oc (an rfl rfl) (Oc (aT (k:=115) dK rfl) (Oc (aB aH rfl rfl rfl rfl (Nat.le_of_ble_eq_true rfl) rfl) (Oc oa ?_))))))
 refine Oc oa (Oc oa ?_)
 refine ae.ai ⟨[(1,_),(4,_),(5,_),(13,_),(14,_),(15,_),(16,_),(17,_),(18,_),(19,_),(20,_),(21,_),(22,Pt 115 0),(23,.b (.one (.sl 1 (x_30.map eI)))),(24,.b (.one (.sl 1 (x_31.map eI)))),(25,I x_32)],[(101,_),(104,_),(112,_),(113,_),(114,_),(115,.box 49 (ar x_29))]⟩ rfl (ab.seq (ab.aa ?_))
 refine Oc (lp aH) (Oc (lp aC) ?_)
 obtain ⟨⟨x_33,x_34⟩,e46,h⟩:=aL h
 refine Oc (ak (c8 e46) nu rfl rfl) (Oc om (Oc (an rfl rfl) ?_))
 refine ae.ag ⟨[(4,_),(5,_),(13,_),(14,_),(15,_),(16,_),(17,_),(18,_),(19,_),(20,_),(21,_),(22,_),(23,_),(24,_),(25,_),(140,.dF [.agg (ar x_33),.one (.i x_34)]),(144,.b (.agg (ar x_33)))],[(104,_),(112,_),(113,_),(114,_),(115,_)]⟩ rfl (Oc (an rfl rfl) (Oc (aT (k:=116) dK rfl) (Oc (aB aH rfl rfl rfl rfl (Nat.le_of_ble_eq_true rfl) rfl) (Oc oa ?_))))
 refine ae.ai ⟨[(4,_),(5,_),(13,_),(14,_),(15,_),(16,_),(17,_),(18,_),(19,_),(20,_),(21,_),(22,_),(23,_),(24,_),(25,_),(27,I x_34)],[(104,_),(112,_),(113,_),(114,_),(115,_)]⟩ rfl (ab.seq (ab.aa ?_))
 refine Oc (lp aH) ?_
 obtain ⟨⟨x_35,x_36⟩,e47,h⟩:=aL h
 refine Oc (ak (eV e47) s9 rfl rfl) (Oc om (Oc (an rfl rfl) (Oc (an rfl rfl) ?_)))
 refine ae.ag ⟨[(4,_),(5,_),(13,_),(14,_),(15,_),(16,_),(17,_),(18,_),(19,_),(20,_),(21,_),(22,_),(23,_),(24,_),(25,_),(27,_),(149,.b (.agg (ar x_35))),(150,I x_36)],[(104,_),(112,_),(113,_),(114,_),(115,_)]⟩ rfl (Oc (aT (k:=117) dK rfl) (Oc (aB aH rfl rfl rfl rfl (Nat.le_of_ble_eq_true rfl) rfl) (Oc oa ?_)))
 refine ae.ai ⟨[(4,_),(5,_),(13,_),(14,_),(15,_),(16,_),(17,_),(18,_),(19,_),(20,_),(21,_),(22,_),(23,_),(24,_),(25,_),(27,_),(29,I x_36)],[(104,_),(112,_),(113,_),(114,_),(115,_)]⟩ rfl (ab.seq (ab.aa ?_))
 refine Oc om (Oc (c7 rfl rfl) (Oc om ?_))
 refine eZ (decide (x_22 = 0)) [] (fun g48=>trivial) (fun g48=>om) (eZ (decide (x_22 = 0)) [154] (fun g49=>by exact ⟨g49,trivial⟩) (fun g49=>c7 rfl rfl) (Oc (aJ (fun e=>e) rfl rfl rfl rfl) (Oc om ?_)))
 refine ae.ag ⟨[(4,_),(5,_),(13,_),(14,_),(15,_),(18,_),(19,_),(20,_),(21,_),(22,_),(23,_),(24,_),(25,_),(27,_),(29,_),(157,B ((decide (x_22 = 0)) && (decide (x_24 = 0))))],[(104,_),(112,_),(113,_),(114,_),(115,_)]⟩ rfl (eZ ((decide (x_22 = 0)) && (decide (x_24 = 0))) [] (fun g50=>trivial) (fun g50=>om) (eZ ((decide (x_22 = 0)) && (decide (x_24 = 0))) [158] (fun g51=>by exact ⟨g51,trivial⟩) (fun g51=>c7 rfl rfl) (ae.oS h rfl (aJ (fun e=>e) rfl rfl rfl rfl) (fun x_37 h=>?_))))
 refine Oc om (eZ x_37 [] (fun g52=>by exact trivial) (fun g52=>om) (eZ x_37 [162] (fun g53=>by exact ⟨g53,trivial⟩) (fun g53=>c7 rfl rfl) (Oc (aJ (fun e=>e) rfl rfl rfl rfl) (Oc om ?_))))
 refine ae.ag ⟨[(4,_),(5,_),(13,_),(14,_),(15,_),(18,_),(20,_),(22,_),(23,_),(24,_),(25,_),(27,_),(29,_),(165,B (x_37 && (decide (x_28 = 0))))],[(104,_),(112,_),(113,_),(114,_),(115,_)]⟩ rfl (eZ (x_37 && (decide (x_28 = 0))) [] (fun g54=>trivial) (fun g54=>om) (eZ (x_37 && (decide (x_28 = 0))) [166] (fun g55=>by exact ⟨g55,trivial⟩) (fun g55=>c7 rfl rfl) (Oc (aJ (fun e=>e) rfl rfl rfl rfl) (Oc om ?_))))
 refine eZ ((x_37 && (decide (x_28 = 0))) && (decide (x_32 = 0))) [] (fun g56=>trivial) (fun g56=>om) (eZ ((x_37 && (decide (x_28 = 0))) && (decide (x_32 = 0))) [] (fun g57=>by exact trivial) (fun g57=>cR (es:=[3,7].map eI) bN rfl rfl (bP fun _=>rfl) rfl (by decide) (by decide)) (ae.ag ⟨[(4,_),(5,_),(13,_),(14,_),(15,_),(20,_),(22,_),(23,_),(24,_),(27,_),(29,_),(169,B ((x_37 && (decide (x_28 = 0))) && (decide (x_32 = 0)))),(170,.opt ((x_37 && (decide (x_28 = 0))) && (decide (x_32 = 0))) (.row 113)),(171,.opt ((x_37 && (decide (x_28 = 0))) && (decide (x_32 = 0))) (.one (.sl 1 ([3,7].map eI))))],[(104,_),(112,_),(113,_),(114,_),(115,_)]⟩ rfl ?_))
 obtain ⟨x_38,e59,h⟩:=aL h
 refine eZ ((x_37 && (decide (x_28 = 0))) && (decide (x_32 = 0))) [170,171] (fun g58=>⟨g58,g58,trivial⟩) (fun g58=>iL (df (gc e59 g58)) qM rfl CP.jO) (ae.oS h rfl (aJ (fun e=>e) rfl rfl rfl rfl) (fun x_39 h=>?_))
 refine Oc om (eZ x_39 [] (fun g60=>by exact trivial) (fun g60=>om) (eZ x_39 [175] (fun g61=>by exact ⟨g61,trivial⟩) (fun g61=>fl fR rfl rfl (List.length_map _)) (eZ x_39 [176] (fun g62=>by exact ⟨g62,trivial⟩) (fun g62=>c7 rfl rfl) (Oc (aJ (fun e=>e) rfl rfl rfl rfl) (ae.ag ⟨[(4,_),(5,_),(13,_),(14,_),(15,_),(22,_),(23,_),(24,_),(27,_),(29,_),(178,B (x_39 && (decide ((x_27.length:Int) = 0))))],[(104,_),(112,_),(115,_)]⟩ rfl ?_)))))
 refine Oc om (eZ (x_39 && (decide ((x_27.length:Int) = 0))) [] (fun g63=>by exact trivial) (fun g63=>om) (eZ (x_39 && (decide ((x_27.length:Int) = 0))) [180] (fun g64=>by exact ⟨g64,trivial⟩) (fun g64=>aY fR rfl (List.length_map _)) (eZ (x_39 && (decide ((x_27.length:Int) = 0))) [181] (fun g65=>by exact ⟨g65,trivial⟩) (fun g65=>c7 rfl rfl) (ae.oS h rfl (aJ (fun e=>e) rfl rfl rfl rfl) (fun x_40 h=>?_)))))
 refine Oc om (eZ x_40 [] (fun g66=>by exact trivial) (fun g66=>om) (ae.ag ⟨[(4,_),(5,_),(13,_),(14,_),(15,_),(22,_),(27,_),(29,_),(184,B x_40),(185,.opt x_40 (.one (.sl 1 (x_31.map eI))))],[(104,_),(112,_),(115,_)]⟩ rfl (eZ x_40 [] (fun g67=>by exact trivial) (fun g67=>cR (es:=[7].map eI) bN rfl rfl (bP fun _=>rfl) rfl (by decide) (by decide)) ?_)))
 obtain ⟨x_41,e69,h⟩:=aL h
 refine eZ x_40 [185,186] (fun g68=>⟨g68,g68,trivial⟩) (fun g68=>ak (df (gc e69 g68)) qM rfl rfl) (Oc (aJ (fun e=>e) rfl rfl rfl rfl) (Oc oa ?_))
 refine ae.ai ⟨[(4,_),(5,_),(13,_),(14,_),(15,_),(22,_),(27,_),(29,_),(30,B (x_40 && x_41))],[(104,_),(112,_),(115,_)]⟩ rfl (ab.seq ?_)
 obtain ⟨x_42,e70,h⟩:=aL h
 obtain ⟨x_43,e71,h⟩:=aL h
 obtain ⟨x_44,e72,h⟩:=aL h
 obtain ⟨x_45,e73,h⟩:=aL h
 refine ab.jb mixed [false,false,false,false,false,false,false,false,false,false,false,false,false,false,false,false,false,true,false,false,false,false,false,true,false,false,false,false,false,false,false,false,false,false,false,false,false] [B (((x_4 && (!x_5)) && (!x_6)) && (decide (x_7 = x_8))),B (((x_4 && (!x_5)) && (!x_6)) && (decide (x_7 = x_8))),.opt (((x_4 && (!x_5)) && (!x_6)) && (decide (x_7 = x_8))) (.one (.bool (x_17 && (decide (x_16 = 0))))),B ((((x_4 && (!x_5)) && (!x_6)) && (decide (x_7 = x_8))) && (x_17 && (decide (x_16 = 0)))),B ((((x_4 && (!x_5)) && (!x_6)) && (decide (x_7 = x_8))) && (x_17 && (decide (x_16 = 0)))),.opt ((((x_4 && (!x_5)) && (!x_6)) && (decide (x_7 = x_8))) && (x_17 && (decide (x_16 = 0)))) (.agg (ao x_9)),.opt ((((x_4 && (!x_5)) && (!x_6)) && (decide (x_7 = x_8))) && (x_17 && (decide (x_16 = 0)))) (.agg (ao x_42)),.opt ((((x_4 && (!x_5)) && (!x_6)) && (decide (x_7 = x_8))) && (x_17 && (decide (x_16 = 0)))) (.one (.bool (decide (x_9 = x_42)))),B (((((x_4 && (!x_5)) && (!x_6)) && (decide (x_7 = x_8))) && (x_17 && (decide (x_16 = 0)))) && (decide (x_9 = x_42))),B (((((x_4 && (!x_5)) && (!x_6)) && (decide (x_7 = x_8))) && (x_17 && (decide (x_16 = 0)))) && (decide (x_9 = x_42))),.opt (((((x_4 && (!x_5)) && (!x_6)) && (decide (x_7 = x_8))) && (x_17 && (decide (x_16 = 0)))) && (decide (x_9 = x_42))) (.one (.bool (x_18 && x_19))),B ((((((x_4 && (!x_5)) && (!x_6)) && (decide (x_7 = x_8))) && (x_17 && (decide (x_16 = 0)))) && (decide (x_9 = x_42))) && (x_18 && x_19)),B ((((((x_4 && (!x_5)) && (!x_6)) && (decide (x_7 = x_8))) && (x_17 && (decide (x_16 = 0)))) && (decide (x_9 = x_42))) && (x_18 && x_19)),.opt ((((((x_4 && (!x_5)) && (!x_6)) && (decide (x_7 = x_8))) && (x_17 && (decide (x_16 = 0)))) && (decide (x_9 = x_42))) && (x_18 && x_19)) (.one (.bool (x_40 && x_41))),B (((((((x_4 && (!x_5)) && (!x_6)) && (decide (x_7 = x_8))) && (x_17 && (decide (x_16 = 0)))) && (decide (x_9 = x_42))) && (x_18 && x_19)) && (x_40 && x_41)),B (((((((x_4 && (!x_5)) && (!x_6)) && (decide (x_7 = x_8))) && (x_17 && (decide (x_16 = 0)))) && (decide (x_9 = x_42))) && (x_18 && x_19)) && (x_40 && x_41)),.opt (((((((x_4 && (!x_5)) && (!x_6)) && (decide (x_7 = x_8))) && (x_17 && (decide (x_16 = 0)))) && (decide (x_9 = x_42))) && (x_18 && x_19)) && (x_40 && x_41)) (.agg (ar x_29)),.opt (((((((x_4 && (!x_5)) && (!x_6)) && (decide (x_7 = x_8))) && (x_17 && (decide (x_16 = 0)))) && (decide (x_9 = x_42))) && (x_18 && x_19)) && (x_40 && x_41)) (.one (.sl 2 (x_43.map (eu .i64)))),.opt (((((((x_4 && (!x_5)) && (!x_6)) && (decide (x_7 = x_8))) && (x_17 && (decide (x_16 = 0)))) && (decide (x_9 = x_42))) && (x_18 && x_19)) && (x_40 && x_41)) (.one (.i (x_43.length:Int))),.opt (((((((x_4 && (!x_5)) && (!x_6)) && (decide (x_7 = x_8))) && (x_17 && (decide (x_16 = 0)))) && (decide (x_9 = x_42))) && (x_18 && x_19)) && (x_40 && x_41)) (.one (.bool (decide ((x_43.length:Int) = 0)))),B ((((((((x_4 && (!x_5)) && (!x_6)) && (decide (x_7 = x_8))) && (x_17 && (decide (x_16 = 0)))) && (decide (x_9 = x_42))) && (x_18 && x_19)) && (x_40 && x_41)) && (decide ((x_43.length:Int) = 0))),B ((((((((x_4 && (!x_5)) && (!x_6)) && (decide (x_7 = x_8))) && (x_17 && (decide (x_16 = 0)))) && (decide (x_9 = x_42))) && (x_18 && x_19)) && (x_40 && x_41)) && (decide ((x_43.length:Int) = 0))),.opt ((((((((x_4 && (!x_5)) && (!x_6)) && (decide (x_7 = x_8))) && (x_17 && (decide (x_16 = 0)))) && (decide (x_9 = x_42))) && (x_18 && x_19)) && (x_40 && x_41)) && (decide ((x_43.length:Int) = 0))) (.agg (ar x_23)),.opt ((((((((x_4 && (!x_5)) && (!x_6)) && (decide (x_7 = x_8))) && (x_17 && (decide (x_16 = 0)))) && (decide (x_9 = x_42))) && (x_18 && x_19)) && (x_40 && x_41)) && (decide ((x_43.length:Int) = 0))) (.one (.sl 2 (x_44.map (eu .i64)))),.opt ((((((((x_4 && (!x_5)) && (!x_6)) && (decide (x_7 = x_8))) && (x_17 && (decide (x_16 = 0)))) && (decide (x_9 = x_42))) && (x_18 && x_19)) && (x_40 && x_41)) && (decide ((x_43.length:Int) = 0))) (.agg [.i 3,.i 7]),.opt ((((((((x_4 && (!x_5)) && (!x_6)) && (decide (x_7 = x_8))) && (x_17 && (decide (x_16 = 0)))) && (decide (x_9 = x_42))) && (x_18 && x_19)) && (x_40 && x_41)) && (decide ((x_43.length:Int) = 0))) (.one (.sl 2 ([(⟨3,7⟩:A2)].map (eu .i64)))),.opt ((((((((x_4 && (!x_5)) && (!x_6)) && (decide (x_7 = x_8))) && (x_17 && (decide (x_16 = 0)))) && (decide (x_9 = x_42))) && (x_18 && x_19)) && (x_40 && x_41)) && (decide ((x_43.length:Int) = 0))) (.one (.bool x_45)),B (((((((((x_4 && (!x_5)) && (!x_6)) && (decide (x_7 = x_8))) && (x_17 && (decide (x_16 = 0)))) && (decide (x_9 = x_42))) && (x_18 && x_19)) && (x_40 && x_41)) && (decide ((x_43.length:Int) = 0))) && x_45),B (((((((((x_4 && (!x_5)) && (!x_6)) && (decide (x_7 = x_8))) && (x_17 && (decide (x_16 = 0)))) && (decide (x_9 = x_42))) && (x_18 && x_19)) && (x_40 && x_41)) && (decide ((x_43.length:Int) = 0))) && x_45),.opt (((((((((x_4 && (!x_5)) && (!x_6)) && (decide (x_7 = x_8))) && (x_17 && (decide (x_16 = 0)))) && (decide (x_9 = x_42))) && (x_18 && x_19)) && (x_40 && x_41)) && (decide ((x_43.length:Int) = 0))) && x_45) (.one (.i x_34)),.opt (((((((((x_4 && (!x_5)) && (!x_6)) && (decide (x_7 = x_8))) && (x_17 && (decide (x_16 = 0)))) && (decide (x_9 = x_42))) && (x_18 && x_19)) && (x_40 && x_41)) && (decide ((x_43.length:Int) = 0))) && x_45) (.one (.bool (decide (x_34 = 6)))),B ((((((((((x_4 && (!x_5)) && (!x_6)) && (decide (x_7 = x_8))) && (x_17 && (decide (x_16 = 0)))) && (decide (x_9 = x_42))) && (x_18 && x_19)) && (x_40 && x_41)) && (decide ((x_43.length:Int) = 0))) && x_45) && (decide (x_34 = 6))),B ((((((((((x_4 && (!x_5)) && (!x_6)) && (decide (x_7 = x_8))) && (x_17 && (decide (x_16 = 0)))) && (decide (x_9 = x_42))) && (x_18 && x_19)) && (x_40 && x_41)) && (decide ((x_43.length:Int) = 0))) && x_45) && (decide (x_34 = 6))),.opt ((((((((((x_4 && (!x_5)) && (!x_6)) && (decide (x_7 = x_8))) && (x_17 && (decide (x_16 = 0)))) && (decide (x_9 = x_42))) && (x_18 && x_19)) && (x_40 && x_41)) && (decide ((x_43.length:Int) = 0))) && x_45) && (decide (x_34 = 6))) (.one (.i x_36)),.opt ((((((((((x_4 && (!x_5)) && (!x_6)) && (decide (x_7 = x_8))) && (x_17 && (decide (x_16 = 0)))) && (decide (x_9 = x_42))) && (x_18 && x_19)) && (x_40 && x_41)) && (decide ((x_43.length:Int) = 0))) && x_45) && (decide (x_34 = 6))) (.one (.bool (decide (x_36 = 5)))),B (((((((((((x_4 && (!x_5)) && (!x_6)) && (decide (x_7 = x_8))) && (x_17 && (decide (x_16 = 0)))) && (decide (x_9 = x_42))) && (x_18 && x_19)) && (x_40 && x_41)) && (decide ((x_43.length:Int) = 0))) && x_45) && (decide (x_34 = 6))) && (decide (x_36 = 5))),B (((((((((((x_4 && (!x_5)) && (!x_6)) && (decide (x_7 = x_8))) && (x_17 && (decide (x_16 = 0)))) && (decide (x_9 = x_42))) && (x_18 && x_19)) && (x_40 && x_41)) && (decide ((x_43.length:Int) = 0))) && x_45) && (decide (x_34 = 6))) && (decide (x_36 = 5)))] [⟨[false,false,false,false,false,false,false,false,false,false,false,false,false,false,false,false,false,false,false,false,false,false,false,false,false,false,false,false,false,false,false,false,false,false,false,false,false],[(4,B (((x_4 && (!x_5)) && (!x_6)) && (decide (x_7 = x_8)))),(5,Pt 104 0),(13,B (x_17 && (decide (x_16 = 0)))),(14,B (x_18 && x_19)),(15,Pt 112 0),(22,Pt 115 0),(27,I x_34),(29,I x_36),(30,B (x_40 && x_41))],[(104,.box 25 (ao x_9)),(112,.box 49 (ar x_23)),(115,.box 49 (ar x_29))],[true,true,true,true,true,true,true,true,true,true,true,true,true,true,true,true,true,true,true,true,true,true,true,true,true,true,true,true,true,true,true,true,true,true,true,true,true],[],[18,19,20,21,22,23,24,25,26,27,28,29,30,31,32,33,34,35,36]⟩,⟨[false,false,false,false,false,false,false,false,false,false,false,false,false,false,false,false,false,true,false,false,false,false,false,false,false,false,false,false,false,false,false,false,false,false,false,false,false],[(4,B (((x_4 && (!x_5)) && (!x_6)) && (decide (x_7 = x_8)))),(5,Pt 104 0),(13,B (x_17 && (decide (x_16 = 0)))),(14,B (x_18 && x_19)),(15,Pt 112 0),(22,Pt 115 0),(27,I x_34),(29,I x_36),(30,B (x_40 && x_41))],[(104,.box 25 (ao x_9)),(112,.box 49 (ar x_23)),(115,.box 49 (ar x_29))],[true,true,true,true,true,true,true,true,true,true,true,true,true,true,true,true,true,true,true,true,true,true,true,true,true,true,true,true,true,true,true,true,true,true,true,true,true],[0,1,2,3,4,5,6,7,8,9,10,11,12,13,14,15,16,17],[26,27,28,29,30,31,32,33,34,35,36]⟩,⟨[false,false,false,false,false,false,false,false,false,false,false,false,false,false,false,false,false,true,false,false,false,false,false,true,false,false,false,false,false,false,false,false,false,false,false,false,false],[(4,B (((x_4 && (!x_5)) && (!x_6)) && (decide (x_7 = x_8)))),(5,Pt 104 0),(13,B (x_17 && (decide (x_16 = 0)))),(14,B (x_18 && x_19)),(15,Pt 112 0),(22,Pt 115 0),(27,I x_34),(29,I x_36),(30,B (x_40 && x_41))],[(104,.box 25 (ao x_9)),(112,.box 49 (ar x_23)),(115,.box 49 (ar x_29))],[true,true,true,true,true,true,true,true,true,true,true,true,true,true,true,true,true,true,true,true,true,true,true,true,true,true,true,true,true,true,true,true,true,true,true,true,true],[0,1,2,3,4,5,6,7,8,9,10,11,12,13,14,15,16,17,18,19,20,21,22,23],[]⟩] rfl (⟨by kernel_rfl,⟨⟨B (((x_4 && (!x_5)) && (!x_6)) && (decide (x_7 = x_8))),fun _=>rfl,fun _=>.p (by exact aP rfl)⟩,⟨B (((x_4 && (!x_5)) && (!x_6)) && (decide (x_7 = x_8))),fun _=>rfl,fun _=>.p (by exact aP rfl)⟩,⟨.opt (((x_4 && (!x_5)) && (!x_6)) && (decide (x_7 = x_8))) (.one (.bool (x_17 && (decide (x_16 = 0))))),fun _=>rfl,fun _=>by exact .guard (((x_4 && (!x_5)) && (!x_6)) && (decide (x_7 = x_8))) 1 [] (.plain rfl) (ga _) rfl rfl (fun gg2=>trivial) (fun gg2=>om)⟩,⟨B ((((x_4 && (!x_5)) && (!x_6)) && (decide (x_7 = x_8))) && (x_17 && (decide (x_16 = 0)))),fun _=>rfl,fun _=>.p (by exact aJ (fun e=>e) rfl rfl rfl rfl)⟩,⟨B ((((x_4 && (!x_5)) && (!x_6)) && (decide (x_7 = x_8))) && (x_17 && (decide (x_16 = 0)))),fun _=>rfl,fun _=>.p (by exact aP rfl)⟩,⟨.opt ((((x_4 && (!x_5)) && (!x_6)) && (decide (x_7 = x_8))) && (x_17 && (decide (x_16 = 0)))) (.agg (ao x_9)),fun _=>rfl,fun _=>by exact .guard ((((x_4 && (!x_5)) && (!x_6)) && (decide (x_7 = x_8))) && (x_17 && (decide (x_16 = 0)))) 1 [] (.plain rfl) (ga _) rfl rfl (fun gg5=>trivial) (fun gg5=>lp aC)⟩,⟨.opt ((((x_4 && (!x_5)) && (!x_6)) && (decide (x_7 = x_8))) && (x_17 && (decide (x_16 = 0)))) (.agg (ao x_42)),fun _=>rfl,fun _=>by exact .guard ((((x_4 && (!x_5)) && (!x_6)) && (decide (x_7 = x_8))) && (x_17 && (decide (x_16 = 0)))) 2 [] (.plain rfl) (ga _) rfl rfl (fun gg6=>trivial) (fun gg6=>ak (cT (gc e70 gg6)) oX rfl rfl)⟩,⟨.opt ((((x_4 && (!x_5)) && (!x_6)) && (decide (x_7 = x_8))) && (x_17 && (decide (x_16 = 0)))) (.one (.bool (decide (x_9 = x_42)))),fun _=>rfl,fun _=>by exact .guard ((((x_4 && (!x_5)) && (!x_6)) && (decide (x_7 = x_8))) && (x_17 && (decide (x_16 = 0)))) 3 [194,195] (.plain rfl) (ga _) rfl rfl (fun gg7=>⟨gg7,gg7,trivial⟩) (fun gg7=>pE (q9 x_9 x_42) rfl rfl)⟩,⟨B (((((x_4 && (!x_5)) && (!x_6)) && (decide (x_7 = x_8))) && (x_17 && (decide (x_16 = 0)))) && (decide (x_9 = x_42))),fun _=>rfl,fun _=>.p (by exact aJ (fun e=>e) rfl rfl rfl rfl)⟩,⟨B (((((x_4 && (!x_5)) && (!x_6)) && (decide (x_7 = x_8))) && (x_17 && (decide (x_16 = 0)))) && (decide (x_9 = x_42))),fun _=>rfl,fun _=>.p (by exact aP rfl)⟩,⟨.opt (((((x_4 && (!x_5)) && (!x_6)) && (decide (x_7 = x_8))) && (x_17 && (decide (x_16 = 0)))) && (decide (x_9 = x_42))) (.one (.bool (x_18 && x_19))),fun _=>rfl,fun _=>by exact .guard (((((x_4 && (!x_5)) && (!x_6)) && (decide (x_7 = x_8))) && (x_17 && (decide (x_16 = 0)))) && (decide (x_9 = x_42))) 1 [] (.plain rfl) (ga _) rfl rfl (fun gg10=>trivial) (fun gg10=>om)⟩,⟨B ((((((x_4 && (!x_5)) && (!x_6)) && (decide (x_7 = x_8))) && (x_17 && (decide (x_16 = 0)))) && (decide (x_9 = x_42))) && (x_18 && x_19)),fun _=>rfl,fun _=>.p (by exact aJ (fun e=>e) rfl rfl rfl rfl)⟩,⟨B ((((((x_4 && (!x_5)) && (!x_6)) && (decide (x_7 = x_8))) && (x_17 && (decide (x_16 = 0)))) && (decide (x_9 = x_42))) && (x_18 && x_19)),fun _=>rfl,fun _=>.p (by exact aP rfl)⟩,⟨.opt ((((((x_4 && (!x_5)) && (!x_6)) && (decide (x_7 = x_8))) && (x_17 && (decide (x_16 = 0)))) && (decide (x_9 = x_42))) && (x_18 && x_19)) (.one (.bool (x_40 && x_41))),fun _=>rfl,fun _=>by exact .guard ((((((x_4 && (!x_5)) && (!x_6)) && (decide (x_7 = x_8))) && (x_17 && (decide (x_16 = 0)))) && (decide (x_9 = x_42))) && (x_18 && x_19)) 1 [] (.plain rfl) (ga _) rfl rfl (fun gg13=>trivial) (fun gg13=>om)⟩,⟨B (((((((x_4 && (!x_5)) && (!x_6)) && (decide (x_7 = x_8))) && (x_17 && (decide (x_16 = 0)))) && (decide (x_9 = x_42))) && (x_18 && x_19)) && (x_40 && x_41)),fun _=>rfl,fun _=>.p (by exact aJ (fun e=>e) rfl rfl rfl rfl)⟩,⟨B (((((((x_4 && (!x_5)) && (!x_6)) && (decide (x_7 = x_8))) && (x_17 && (decide (x_16 = 0)))) && (decide (x_9 = x_42))) && (x_18 && x_19)) && (x_40 && x_41)),fun _=>rfl,fun _=>.p (by exact aP rfl)⟩,⟨.opt (((((((x_4 && (!x_5)) && (!x_6)) && (decide (x_7 = x_8))) && (x_17 && (decide (x_16 = 0)))) && (decide (x_9 = x_42))) && (x_18 && x_19)) && (x_40 && x_41)) (.agg (ar x_29)),fun _=>rfl,fun _=>by exact .guard (((((((x_4 && (!x_5)) && (!x_6)) && (decide (x_7 = x_8))) && (x_17 && (decide (x_16 = 0)))) && (decide (x_9 = x_42))) && (x_18 && x_19)) && (x_40 && x_41)) 1 [] (.plain rfl) (ga _) rfl rfl (fun gg16=>trivial) (fun gg16=>lp aH)⟩,⟨_,[],.opt (((((((x_4 && (!x_5)) && (!x_6)) && (decide (x_7 = x_8))) && (x_17 && (decide (x_16 = 0)))) && (decide (x_9 = x_42))) && (x_18 && x_19)) && (x_40 && x_41)) (.one (.sl 2 (x_43.map (eu .i64)))),rfl,fun _=>rfl,rfl,rfl,fun _=>.qE [104,112,115] (by exact by exact .guard (((((((x_4 && (!x_5)) && (!x_6)) && (decide (x_7 = x_8))) && (x_17 && (decide (x_16 = 0)))) && (decide (x_9 = x_42))) && (x_18 && x_19)) && (x_40 && x_41)) 3 [205] (.plain rfl) (ga _) rfl rfl (fun gg17=>⟨gg17,trivial⟩) (fun gg17=>ak (((fQ (gc e71 gg17)).sw 51 0).oR) tc rfl rfl)) (by exact rfl)⟩,trivial,trivial,trivial,trivial,trivial,trivial,trivial,trivial,trivial,trivial,trivial,trivial,trivial,trivial,trivial,trivial,trivial,trivial,trivial,trivial⟩,⟨by kernel_rfl,⟨trivial,trivial,trivial,trivial,trivial,trivial,trivial,trivial,trivial,trivial,trivial,trivial,trivial,trivial,trivial,trivial,trivial,trivial,⟨.opt (((((((x_4 && (!x_5)) && (!x_6)) && (decide (x_7 = x_8))) && (x_17 && (decide (x_16 = 0)))) && (decide (x_9 = x_42))) && (x_18 && x_19)) && (x_40 && x_41)) (.one (.i (x_43.length:Int))),fun _=>rfl,fun _=>by exact .guard (((((((x_4 && (!x_5)) && (!x_6)) && (decide (x_7 = x_8))) && (x_17 && (decide (x_16 = 0)))) && (decide (x_9 = x_42))) && (x_18 && x_19)) && (x_40 && x_41)) 2 [206] (.plain rfl) (ga _) rfl rfl (fun gg18=>⟨gg18,trivial⟩) (fun gg18=>aY tL rfl (List.length_map _))⟩,⟨.opt (((((((x_4 && (!x_5)) && (!x_6)) && (decide (x_7 = x_8))) && (x_17 && (decide (x_16 = 0)))) && (decide (x_9 = x_42))) && (x_18 && x_19)) && (x_40 && x_41)) (.one (.bool (decide ((x_43.length:Int) = 0)))),fun _=>rfl,fun _=>by exact .guard (((((((x_4 && (!x_5)) && (!x_6)) && (decide (x_7 = x_8))) && (x_17 && (decide (x_16 = 0)))) && (decide (x_9 = x_42))) && (x_18 && x_19)) && (x_40 && x_41)) 2 [207] (.plain rfl) (ga _) rfl rfl (fun gg19=>⟨gg19,trivial⟩) (fun gg19=>c7 rfl rfl)⟩,⟨B ((((((((x_4 && (!x_5)) && (!x_6)) && (decide (x_7 = x_8))) && (x_17 && (decide (x_16 = 0)))) && (decide (x_9 = x_42))) && (x_18 && x_19)) && (x_40 && x_41)) && (decide ((x_43.length:Int) = 0))),fun _=>rfl,fun _=>.p (by exact aJ (fun e=>e) rfl rfl rfl rfl)⟩,⟨B ((((((((x_4 && (!x_5)) && (!x_6)) && (decide (x_7 = x_8))) && (x_17 && (decide (x_16 = 0)))) && (decide (x_9 = x_42))) && (x_18 && x_19)) && (x_40 && x_41)) && (decide ((x_43.length:Int) = 0))),fun _=>rfl,fun _=>.p (by exact aP rfl)⟩,⟨.opt ((((((((x_4 && (!x_5)) && (!x_6)) && (decide (x_7 = x_8))) && (x_17 && (decide (x_16 = 0)))) && (decide (x_9 = x_42))) && (x_18 && x_19)) && (x_40 && x_41)) && (decide ((x_43.length:Int) = 0))) (.agg (ar x_23)),fun _=>rfl,fun _=>by exact .guard ((((((((x_4 && (!x_5)) && (!x_6)) && (decide (x_7 = x_8))) && (x_17 && (decide (x_16 = 0)))) && (decide (x_9 = x_42))) && (x_18 && x_19)) && (x_40 && x_41)) && (decide ((x_43.length:Int) = 0))) 1 [] (.plain rfl) (ga _) rfl rfl (fun gg22=>trivial) (fun gg22=>lp aH)⟩,⟨_,[],.opt ((((((((x_4 && (!x_5)) && (!x_6)) && (decide (x_7 = x_8))) && (x_17 && (decide (x_16 = 0)))) && (decide (x_9 = x_42))) && (x_18 && x_19)) && (x_40 && x_41)) && (decide ((x_43.length:Int) = 0))) (.one (.sl 2 (x_44.map (eu .i64)))),rfl,fun _=>rfl,rfl,rfl,fun _=>.qE [104,112,115] (by exact by exact .guard ((((((((x_4 && (!x_5)) && (!x_6)) && (decide (x_7 = x_8))) && (x_17 && (decide (x_16 = 0)))) && (decide (x_9 = x_42))) && (x_18 && x_19)) && (x_40 && x_41)) && (decide ((x_43.length:Int) = 0))) 3 [211] (.plain rfl) (ga _) rfl rfl (fun gg23=>⟨gg23,trivial⟩) (fun gg23=>ak (((fQ (gc e72 gg23)).sw 51 0).oR) tc rfl rfl)) (by exact rfl)⟩,⟨.opt ((((((((x_4 && (!x_5)) && (!x_6)) && (decide (x_7 = x_8))) && (x_17 && (decide (x_16 = 0)))) && (decide (x_9 = x_42))) && (x_18 && x_19)) && (x_40 && x_41)) && (decide ((x_43.length:Int) = 0))) (.agg [.i 3,.i 7]),fun _=>rfl,fun _=>by exact .guard ((((((((x_4 && (!x_5)) && (!x_6)) && (decide (x_7 = x_8))) && (x_17 && (decide (x_16 = 0)))) && (decide (x_9 = x_42))) && (x_18 && x_19)) && (x_40 && x_41)) && (decide ((x_43.length:Int) = 0))) 1 [] (.plain rfl) (ga _) rfl rfl (fun gg24=>trivial) (fun gg24=>dX fk rfl rfl)⟩,⟨.opt ((((((((x_4 && (!x_5)) && (!x_6)) && (decide (x_7 = x_8))) && (x_17 && (decide (x_16 = 0)))) && (decide (x_9 = x_42))) && (x_18 && x_19)) && (x_40 && x_41)) && (decide ((x_43.length:Int) = 0))) (.one (.sl 2 ([(⟨3,7⟩:A2)].map (eu .i64)))),fun _=>rfl,fun _=>by exact .guard ((((((((x_4 && (!x_5)) && (!x_6)) && (decide (x_7 = x_8))) && (x_17 && (decide (x_16 = 0)))) && (decide (x_9 = x_42))) && (x_18 && x_19)) && (x_40 && x_41)) && (decide ((x_43.length:Int) = 0))) 2 [213] (.plain rfl) (ga _) rfl rfl (fun gg25=>⟨gg25,trivial⟩) (fun gg25=>cR (es:=[(⟨3,7⟩:A2)].map (eu .i64)) hU rfl rfl (bP fun _=>rfl) rfl (by decide) (by decide))⟩,trivial,trivial,trivial,trivial,trivial,trivial,trivial,trivial,trivial,trivial,trivial,trivial⟩,⟨by kernel_rfl,⟨trivial,trivial,trivial,trivial,trivial,trivial,trivial,trivial,trivial,trivial,trivial,trivial,trivial,trivial,trivial,trivial,trivial,trivial,trivial,trivial,trivial,trivial,trivial,trivial,⟨.opt ((((((((x_4 && (!x_5)) && (!x_6)) && (decide (x_7 = x_8))) && (x_17 && (decide (x_16 = 0)))) && (decide (x_9 = x_42))) && (x_18 && x_19)) && (x_40 && x_41)) && (decide ((x_43.length:Int) = 0))) (.agg [.i 3,.i 7]),fun _=>rfl,fun _=>by exact .guard ((((((((x_4 && (!x_5)) && (!x_6)) && (decide (x_7 = x_8))) && (x_17 && (decide (x_16 = 0)))) && (decide (x_9 = x_42))) && (x_18 && x_19)) && (x_40 && x_41)) && (decide ((x_43.length:Int) = 0))) 1 [] (.plain rfl) (ga _) rfl rfl (fun gg24=>trivial) (fun gg24=>dX fk rfl rfl)⟩,⟨.opt ((((((((x_4 && (!x_5)) && (!x_6)) && (decide (x_7 = x_8))) && (x_17 && (decide (x_16 = 0)))) && (decide (x_9 = x_42))) && (x_18 && x_19)) && (x_40 && x_41)) && (decide ((x_43.length:Int) = 0))) (.one (.sl 2 ([(⟨3,7⟩:A2)].map (eu .i64)))),fun _=>rfl,fun _=>by exact .guard ((((((((x_4 && (!x_5)) && (!x_6)) && (decide (x_7 = x_8))) && (x_17 && (decide (x_16 = 0)))) && (decide (x_9 = x_42))) && (x_18 && x_19)) && (x_40 && x_41)) && (decide ((x_43.length:Int) = 0))) 2 [213] (.plain rfl) (ga _) rfl rfl (fun gg25=>⟨gg25,trivial⟩) (fun gg25=>cR (es:=[(⟨3,7⟩:A2)].map (eu .i64)) hU rfl rfl (bP fun _=>rfl) rfl (by decide) (by decide))⟩,⟨.opt ((((((((x_4 && (!x_5)) && (!x_6)) && (decide (x_7 = x_8))) && (x_17 && (decide (x_16 = 0)))) && (decide (x_9 = x_42))) && (x_18 && x_19)) && (x_40 && x_41)) && (decide ((x_43.length:Int) = 0))) (.one (.bool x_45)),fun _=>rfl,fun _=>by exact .guard ((((((((x_4 && (!x_5)) && (!x_6)) && (decide (x_7 = x_8))) && (x_17 && (decide (x_16 = 0)))) && (decide (x_9 = x_42))) && (x_18 && x_19)) && (x_40 && x_41)) && (decide ((x_43.length:Int) = 0))) 4 [212,214] (.plain rfl) (ga _) rfl rfl (fun gg26=>⟨gg26,gg26,gg26,trivial⟩) (fun gg26=>ak (cF (gc e73 gg26)) qN rfl rfl)⟩,⟨B (((((((((x_4 && (!x_5)) && (!x_6)) && (decide (x_7 = x_8))) && (x_17 && (decide (x_16 = 0)))) && (decide (x_9 = x_42))) && (x_18 && x_19)) && (x_40 && x_41)) && (decide ((x_43.length:Int) = 0))) && x_45),fun _=>rfl,fun _=>.p (by exact aJ (fun e=>e) rfl rfl rfl rfl)⟩,⟨B (((((((((x_4 && (!x_5)) && (!x_6)) && (decide (x_7 = x_8))) && (x_17 && (decide (x_16 = 0)))) && (decide (x_9 = x_42))) && (x_18 && x_19)) && (x_40 && x_41)) && (decide ((x_43.length:Int) = 0))) && x_45),fun _=>rfl,fun _=>.p (by exact aP rfl)⟩,⟨.opt (((((((((x_4 && (!x_5)) && (!x_6)) && (decide (x_7 = x_8))) && (x_17 && (decide (x_16 = 0)))) && (decide (x_9 = x_42))) && (x_18 && x_19)) && (x_40 && x_41)) && (decide ((x_43.length:Int) = 0))) && x_45) (.one (.i x_34)),fun _=>rfl,fun _=>by exact .guard (((((((((x_4 && (!x_5)) && (!x_6)) && (decide (x_7 = x_8))) && (x_17 && (decide (x_16 = 0)))) && (decide (x_9 = x_42))) && (x_18 && x_19)) && (x_40 && x_41)) && (decide ((x_43.length:Int) = 0))) && x_45) 1 [] (.plain rfl) (ga _) rfl rfl (fun gg29=>trivial) (fun gg29=>om)⟩,⟨.opt (((((((((x_4 && (!x_5)) && (!x_6)) && (decide (x_7 = x_8))) && (x_17 && (decide (x_16 = 0)))) && (decide (x_9 = x_42))) && (x_18 && x_19)) && (x_40 && x_41)) && (decide ((x_43.length:Int) = 0))) && x_45) (.one (.bool (decide (x_34 = 6)))),fun _=>rfl,fun _=>by exact .guard (((((((((x_4 && (!x_5)) && (!x_6)) && (decide (x_7 = x_8))) && (x_17 && (decide (x_16 = 0)))) && (decide (x_9 = x_42))) && (x_18 && x_19)) && (x_40 && x_41)) && (decide ((x_43.length:Int) = 0))) && x_45) 2 [218] (.plain rfl) (ga _) rfl rfl (fun gg30=>⟨gg30,trivial⟩) (fun gg30=>c7 rfl rfl)⟩,⟨B ((((((((((x_4 && (!x_5)) && (!x_6)) && (decide (x_7 = x_8))) && (x_17 && (decide (x_16 = 0)))) && (decide (x_9 = x_42))) && (x_18 && x_19)) && (x_40 && x_41)) && (decide ((x_43.length:Int) = 0))) && x_45) && (decide (x_34 = 6))),fun _=>rfl,fun _=>.p (by exact aJ (fun e=>e) rfl rfl rfl rfl)⟩,⟨B ((((((((((x_4 && (!x_5)) && (!x_6)) && (decide (x_7 = x_8))) && (x_17 && (decide (x_16 = 0)))) && (decide (x_9 = x_42))) && (x_18 && x_19)) && (x_40 && x_41)) && (decide ((x_43.length:Int) = 0))) && x_45) && (decide (x_34 = 6))),fun _=>rfl,fun _=>.p (by exact aP rfl)⟩,⟨.opt ((((((((((x_4 && (!x_5)) && (!x_6)) && (decide (x_7 = x_8))) && (x_17 && (decide (x_16 = 0)))) && (decide (x_9 = x_42))) && (x_18 && x_19)) && (x_40 && x_41)) && (decide ((x_43.length:Int) = 0))) && x_45) && (decide (x_34 = 6))) (.one (.i x_36)),fun _=>rfl,fun _=>by exact .guard ((((((((((x_4 && (!x_5)) && (!x_6)) && (decide (x_7 = x_8))) && (x_17 && (decide (x_16 = 0)))) && (decide (x_9 = x_42))) && (x_18 && x_19)) && (x_40 && x_41)) && (decide ((x_43.length:Int) = 0))) && x_45) && (decide (x_34 = 6))) 1 [] (.plain rfl) (ga _) rfl rfl (fun gg33=>trivial) (fun gg33=>om)⟩,⟨.opt ((((((((((x_4 && (!x_5)) && (!x_6)) && (decide (x_7 = x_8))) && (x_17 && (decide (x_16 = 0)))) && (decide (x_9 = x_42))) && (x_18 && x_19)) && (x_40 && x_41)) && (decide ((x_43.length:Int) = 0))) && x_45) && (decide (x_34 = 6))) (.one (.bool (decide (x_36 = 5)))),fun _=>rfl,fun _=>by exact .guard ((((((((((x_4 && (!x_5)) && (!x_6)) && (decide (x_7 = x_8))) && (x_17 && (decide (x_16 = 0)))) && (decide (x_9 = x_42))) && (x_18 && x_19)) && (x_40 && x_41)) && (decide ((x_43.length:Int) = 0))) && x_45) && (decide (x_34 = 6))) 2 [222] (.plain rfl) (ga _) rfl rfl (fun gg34=>⟨gg34,trivial⟩) (fun gg34=>c7 rfl rfl)⟩,⟨B (((((((((((x_4 && (!x_5)) && (!x_6)) && (decide (x_7 = x_8))) && (x_17 && (decide (x_16 = 0)))) && (decide (x_9 = x_42))) && (x_18 && x_19)) && (x_40 && x_41)) && (decide ((x_43.length:Int) = 0))) && x_45) && (decide (x_34 = 6))) && (decide (x_36 = 5))),fun _=>rfl,fun _=>.p (by exact aJ (fun e=>e) rfl rfl rfl rfl)⟩,⟨B (((((((((((x_4 && (!x_5)) && (!x_6)) && (decide (x_7 = x_8))) && (x_17 && (decide (x_16 = 0)))) && (decide (x_9 = x_42))) && (x_18 && x_19)) && (x_40 && x_41)) && (decide ((x_43.length:Int) = 0))) && x_45) && (decide (x_34 = 6))) && (decide (x_36 = 5))),fun _=>rfl,fun _=>.p (by exact bR rfl)⟩,trivial⟩,trivial⟩⟩⟩) rfl rfl rfl [0] [] (s':=⟨[(0,B (((((((((((x_4 && (!x_5)) && (!x_6)) && (decide (x_7 = x_8))) && (x_17 && (decide (x_16 = 0)))) && (decide (x_9 = x_42))) && (x_18 && x_19)) && (x_40 && x_41)) && (decide ((x_43.length:Int) = 0))) && x_45) && (decide (x_34 = 6))) && (decide (x_36 = 5))))],[]⟩) rfl ?_
 refine ab.ret ?_
 obtain rfl:=Option.some.inj h
 refine Fin.ag ⟨[(0,_)],[]⟩ rfl (Fin.aA [.one (.bool (((((((((((x_4 && (!x_5)) && (!x_6)) && (decide (x_7 = x_8))) && (x_17 && (decide (x_16 = 0)))) && (decide (x_9 = x_42))) && (x_18 && x_19)) && (x_40 && x_41)) && (decide ((x_43.length:Int) = 0))) && x_45) && (decide (x_34 = 6))) && (decide (x_36 = 5))))] (.inl rfl) rfl (.cons (.tmp rfl) .nil) ⟨rfl,rfl⟩)
def bH (F:Nat) (a0:cg) (b0:cg):Option Bool :=
 Option.bind (iter F (fun i_1=>if (decide (i_1 < 3)) = true then ((a8 a0.Hi.l i_1).bind fun x_2=>(a8 b0.Lo.l i_1).bind fun x_3=>(bD (!(decide (x_2 < x_3))) (a8 b0.Hi.l i_1)).bind fun x_4=>(bD (!(decide (x_2 < x_3))) (a8 a0.Lo.l i_1)).bind fun x_5=>if ((decide (x_2 < x_3)) || (decide (x_4 < x_5))) = true then (some (.inr (.inr false))) else (some (.inl (IntKind.i64.wrap (i_1 + 1))))) else (some (.inr (.inl ())))) 0) (cL (fun _=>some true) (fun y=>some y))
theorem dg {F:Nat} {a0:cg} {b0:cg} {r:Bool} (h:bH F a0 b0 = some r):av Tryz.prog [] 17 [] [.agg (ao a0),.agg (ao b0)] (Is [] (.b (.one (.bool r)))):=by
 unfold bH at h
 refine av.intro 30 Tryz.func17 Tryz.ntmps17 rfl (by simp) fun E=>?_
 show ab _ E ⟨30,[],[],[]⟩ _ ⟨[(0,.b (.agg (ao a0))),(1,.b (.agg (ao b0)))],[]⟩ _
 refine ab.seq (ab.aa ?_)
 refine Oc (bq (k:=101) rfl rfl) (Oc (bq (k:=102) rfl rfl) (Oc oa ?_))
 refine ae.ai ⟨[(2,Pt 101 0),(3,Pt 102 0)],[(101,.box 25 (ao a0)),(102,.box 25 (ao b0))]⟩ rfl ?_
 obtain ⟨v1,h2,h⟩:=aL h
 refine ab.c6 (v:=v1) (fun (_:Unit)=>⟨[],[]⟩) (fun z=>.inl z) ?_ ?_
 ·refine ab.seq (ab.aa ?_)
  refine Oc oa (ae.ai ⟨[(2,_),(3,_),(5,I 0)],[(101,_),(102,_)]⟩ rfl (ab.block (ab.cN h2 (fun (i_1:Int)=>⟨[(2,Pt 101 0),(3,Pt 102 0),(5,I i_1)],[(101,.box 25 (ao a0)),(102,.box 25 (ao b0))]⟩) [2,3,5] [101,102] rfl ?_)))
  rintro i_1 o3 h4 hy5
  refine ab.seq (ab.seq (ab.aa ?_))
  refine Oc om (Oc (bb rfl rfl) ?_)
  refine ae.ai ⟨[(2,_),(3,_),(5,_),(7,B (decide (i_1 < 3)))],[(101,_),(102,_)]⟩ rfl (ab.ite h4 rfl (fun _ h4=>?_) (fun _ h4=>?_))
  ·refine ab.skip (Fin.ag ⟨[(2,_),(3,_),(5,_)],[(101,_),(102,_)]⟩ rfl (Fin.then (ab.seq (ab.block (ab.seq ?_)))))
   refine ab.ag ⟨[(2,_),(3,_),(5,_)],[(101,_),(102,_)]⟩ rfl ?_
   obtain ⟨x_2,e6,h4⟩:=aL h4
   obtain ⟨x_3,e7,h4⟩:=aL h4
   obtain ⟨x_4,e11,h4⟩:=aL h4
   obtain ⟨x_5,e16,h4⟩:=aL h4
   refine ab.bE mixed 20 [I i_1,Pt 101 3,.b (.ptr 101 (3 + (i_1:Int).toNat * 1)),I x_2,I i_1,Pt 102 0,.b (.ptr 102 (0 + (i_1:Int).toNat * 1)),I x_3,B (decide (x_2 < x_3)),B (decide (x_2 < x_3)),.opt (!(decide (x_2 < x_3))) (.one (.i i_1)),.opt (!(decide (x_2 < x_3))) (.ptr 102 3),.opt (!(decide (x_2 < x_3))) (.ptr 102 (3 + (i_1:Int).toNat * 1)),.opt (!(decide (x_2 < x_3))) (.one (.i x_4)),.opt (!(decide (x_2 < x_3))) (.one (.i i_1)),.opt (!(decide (x_2 < x_3))) (.ptr 101 0),.opt (!(decide (x_2 < x_3))) (.ptr 101 (0 + (i_1:Int).toNat * 1)),.opt (!(decide (x_2 < x_3))) (.one (.i x_5)),.opt (!(decide (x_2 < x_3))) (.one (.bool (decide (x_4 < x_5)))),B ((decide (x_2 < x_3)) || (decide (x_4 < x_5)))] [2,3,5,29] [101,102] (s':=⟨[(2,_),(3,_),(5,_),(29,B ((decide (x_2 < x_3)) || (decide (x_4 < x_5))))],[(101,_),(102,_)]⟩) rfl ⟨fun _=>.p om,fun _=>.p (aq cU rfl rfl),fun _=>.p (ba bL (aX e6) (dn e6) rfl rfl rfl),fun _=>.p (aF aM rfl rfl (cP (post:=[]) (k:=.i64) ((c3 .i64) a0.Lo) e6 rfl rfl rfl)),fun _=>.p om,fun _=>.p (aq cV rfl rfl),fun _=>.p (ba bL (aX e7) (dn e7) rfl rfl rfl),fun _=>.p (aF aM rfl rfl (cP (post:=((c3 .i64) b0.Hi)) (k:=.i64) [] e7 rfl rfl rfl)),fun _=>.p (bb rfl rfl),fun _=>.p om,fun _=>by exact .guard (!(decide (x_2 < x_3))) 1 [] (.plain rfl) (dD _) rfl rfl (fun g8=>trivial) (fun g8=>om),fun _=>by exact .guard (!(decide (x_2 < x_3))) 1 [] (.plain rfl) (dD _) rfl rfl (fun g9=>trivial) (fun g9=>aq cU rfl rfl),fun _=>by exact .guard (!(decide (x_2 < x_3))) 3 [20,21] (.plain rfl) (dD _) rfl rfl (fun g10=>⟨g10,g10,trivial⟩) (fun g10=>ba bL (aX (gc e11 g10)) (dn (gc e11 g10)) rfl rfl rfl),fun _=>by exact .guard (!(decide (x_2 < x_3))) 2 [22] (.plain rfl) (dD _) rfl rfl (fun g12=>⟨g12,trivial⟩) (fun g12=>aF aM rfl rfl (cP (post:=[]) (k:=.i64) ((c3 .i64) b0.Lo) (gc e11 g12) rfl rfl rfl)),fun _=>by exact .guard (!(decide (x_2 < x_3))) 1 [] (.plain rfl) (dD _) rfl rfl (fun g13=>trivial) (fun g13=>om),fun _=>by exact .guard (!(decide (x_2 < x_3))) 1 [] (.plain rfl) (dD _) rfl rfl (fun g14=>trivial) (fun g14=>aq cV rfl rfl),fun _=>by exact .guard (!(decide (x_2 < x_3))) 3 [24,25] (.plain rfl) (dD _) rfl rfl (fun g15=>⟨g15,g15,trivial⟩) (fun g15=>ba bL (aX (gc e16 g15)) (dn (gc e16 g15)) rfl rfl rfl),fun _=>by exact .guard (!(decide (x_2 < x_3))) 2 [26] (.plain rfl) (dD _) rfl rfl (fun g17=>⟨g17,trivial⟩) (fun g17=>aF aM rfl rfl (cP (post:=((c3 .i64) a0.Hi)) (k:=.i64) [] (gc e16 g17) rfl rfl rfl)),fun _=>by exact .guard (!(decide (x_2 < x_3))) 3 [23,27] (.plain rfl) (dD _) rfl rfl (fun g18=>⟨g18,g18,trivial⟩) (fun g18=>bb rfl rfl),fun _=>.p (ct (fun e=>by first | (rw [e]; rfl) | (simp only at e; rw [e]; rfl)) rfl rfl rfl rfl),trivial⟩ rfl rfl ?_
   refine ab.ite h4 rfl (fun _ h4=>?_) (fun _ h4=>?_)
   ·refine ab.seq (ab.aa ?_)
    refine Oc oa (ae.ai ⟨[(4,B false)],[]⟩ rfl (ab.ret (Fin.aS (Fin.aw ?_))))
    obtain rfl:=hy5 _ (Option.some.inj h4).symm
    refine Fin.aw (Fin.aS (Fin.aw ?_))
    obtain rfl:=Option.some.inj h
    refine Fin.ag ⟨[(4,_)],[]⟩ rfl (Fin.aA [.one (.bool false)] (.inl rfl) rfl (.cons (.tmp rfl) .nil) ⟨rfl,rfl⟩)
   ·refine ab.skip (Fin.au (Fin.ag ⟨[(2,_),(3,_),(5,_)],[(101,_),(102,_)]⟩ rfl (Fin.then (ab.aa ?_))))
    refine Oc om (Oc (br rfl rfl) (Oc oa ?_))
    refine ae.nil ?_
    exact Fin.bO [2,3,5] [101,102] (IntKind.i64.wrap (i_1 + 1)) (Option.some.inj h4) rfl
  ·refine ab.exit (Fin.ax ?_)
   obtain rfl:=hy5 _ (Option.some.inj h4).symm
   refine Fin.ax (Fin.aQ ?_)
   exact Fin.join [] [] () rfl rfl
 ·rintro _ hv
  subst v1
  refine ab.seq (ab.aa ?_)
  refine Oc oa (ae.ai ⟨[(4,B true)],[]⟩ rfl (ab.ret ?_))
  obtain rfl:=Option.some.inj h
  refine Fin.ag ⟨[(4,_)],[]⟩ rfl (Fin.aA [.one (.bool true)] (.inl rfl) rfl (.cons (.tmp rfl) .nil) ⟨rfl,rfl⟩)
def bI (F:Nat) (s0:b4) (x0:kE):Option (b4 × (List Int) × (List Int) × Int) :=
 Option.bind (if (decide (x0.Kind = 0)) = true then (Option.bind (cf F s0 x0.Id x0.B) (dd fun x_5 x_6=>some (x_5,[],[],x_6))) else (if (decide (x0.Kind = 1)) = true then (Option.bind (b8 F s0 x0.Id) (dd fun x_7 x_8=>some (x_7,[],[],x_8))) else (Option.bind (cH F s0 x0.Id x0.B) (uX fun x_9 x_10 x_11 x_12=>some (x_9,x_10,x_11,x_12))))) (uX fun next_1 gained_2 lost_3 e_4=>if (decide (e_4 ≠ 0)) = true then (some (s0,gained_2,lost_3,e_4)) else (some (next_1,gained_2,lost_3,e_4)))
theorem ek {F:Nat} {s0:b4} {x0:kE} {r:b4 × (List Int) × (List Int) × Int} (h:bI F s0 x0 = some r):av Tryz.prog [] 24 [] [.agg (ar s0),.agg (bd x0)] (Is [] (.dF [.agg (ar r.1),.one (.sl 1 (r.2.1.map eI)),.one (.sl 1 (r.2.2.1.map eI)),.one (.i r.2.2.2)])):=by
 unfold bI at h
 refine av.intro 56 Tryz.func24 Tryz.ntmps24 rfl (by simp) fun E=>?_
 show ab _ E ⟨56,[],[],[]⟩ _ ⟨[(0,.b (.agg (ar s0))),(1,.b (.agg (bd x0)))],[]⟩ _
 refine ab.seq (ab.aa ?_)
 refine Oc (bq (k:=101) rfl rfl) (Oc (bq (k:=102) rfl rfl) (Oc (aT (k:=103) dK rfl) (Oc oa (Oc oa (Oc oa ?_)))))
 refine ae.ai ⟨[(2,Pt 101 0),(3,Pt 102 0),(4,Pt 103 0)],[(101,.box 49 (ar s0)),(102,.box 55 (bd x0)),(103,.box 49 [.tr af (.leaf),.de 0,.de 0,.de 0,.tr af (.leaf),.de 0,.de 0,.de 0])]⟩ rfl (ab.seq (ab.aa ?_))
 refine Oc (lp aH) (Oc (aT (k:=104) dK rfl) (Oc (aB aH rfl rfl rfl rfl (Nat.le_of_ble_eq_true rfl) rfl) ?_))
 refine ae.ai ⟨[(2,_),(3,_),(4,_),(8,Pt 104 0)],[(101,_),(102,_),(103,_),(104,.box 49 (ar s0))]⟩ rfl (ab.seq (ab.aa ?_))
 refine Oc oa (Oc oa ?_)
 refine ae.ai ⟨[(2,_),(3,_),(4,_),(8,_),(9,.b (.one (.nil))),(10,.b (.one (.nil)))],[(101,_),(102,_),(103,_),(104,_)]⟩ rfl (ab.seq (ab.aa ?_))
 refine Oc oa (ae.ai ⟨[(2,_),(3,_),(4,_),(8,_),(9,_),(10,_)],[(101,_),(102,_),(103,_),(104,_)]⟩ rfl ?_)
 obtain ⟨v1,h2,h⟩:=aL h
 refine ab.c6 (v:=v1) (uX fun (next_1:b4) (gained_2:List Int) (lost_3:List Int) (e_4:Int)=>⟨[(2,Pt 101 0),(4,Pt 103 0),(8,Pt 104 0),(9,.b (.one (.sl 1 (gained_2.map eI)))),(10,.b (.one (.sl 1 (lost_3.map eI)))),(11,I e_4)],[(101,.box 49 (ar s0)),(103,.box 49 [.tr af (.leaf),.de 0,.de 0,.de 0,.tr af (.leaf),.de 0,.de 0,.de 0]),(104,.box 49 (ar next_1))]⟩) (fun z=>z) ?_ ?_
 ·refine ab.seq (ab.aa ?_)
  refine Oc (aq nz rfl rfl) (Oc (aF aM rfl rfl rfl) ?_)
  refine ae.ai ⟨[(2,_),(3,_),(4,_),(8,_),(9,_),(10,_),(14,I x0.Kind)],[(101,_),(102,_),(103,_),(104,_)]⟩ rfl (ab.block (ab.seq (ab.aa ?_)))
  refine Oc (c7 rfl rfl) (Oc oa ?_)
  refine ae.ai ⟨[(2,_),(3,_),(4,_),(8,_),(9,_),(10,_),(14,_),(26,B (decide (x0.Kind = 0)))],[(101,_),(102,_),(103,_),(104,_)]⟩ rfl (ab.ite h2 rfl (fun _ h2=>?_) (fun _ h2=>?_))
  ·refine ab.aa (Oc (lp aH) (Oc (aq iB rfl rfl) (Oc (aF aM rfl rfl rfl) (Oc (aq lF rfl rfl) (Oc (lp aC) ?_)))))
   refine ae.ag ⟨[(2,_),(4,_),(8,_),(9,_),(10,_),(29,.b (.agg (ar s0))),(31,I x0.Id),(33,.b (.agg (ao x0.B)))],[(101,_),(103,_),(104,_)]⟩ rfl ?_
   obtain ⟨⟨x_5,x_6⟩,e3,h2⟩:=aL h2
   refine Oc (ak (c8 e3) nu rfl rfl) (Oc om (Oc (an rfl rfl) (Oc (an rfl rfl) (Oc (aB aH rfl rfl rfl rfl (Nat.le_of_ble_eq_true rfl) rfl) (Oc oa ?_)))))
   refine ae.nil (Fin.au (Fin.ag ⟨[(2,_),(4,_),(8,_),(9,_),(10,_),(11,I x_6)],[(101,_),(103,_),(104,.box 49 (ar x_5))]⟩ rfl (Fin.gz 9 1 rfl (by decide) (Fin.gz 10 1 rfl (by decide) ?_))))
   exact Fin.join [2,4,8,9,10,11] [101,103,104] (x_5,[],[],x_6) (Option.some.inj h2) rfl
  ·refine ab.seq (ab.aa ?_)
   refine Oc (c7 rfl rfl) (Oc oa ?_)
   refine ae.ai ⟨[(2,_),(3,_),(4,_),(8,_),(9,_),(10,_),(37,B (decide (x0.Kind = 1)))],[(101,_),(102,_),(103,_),(104,_)]⟩ rfl (ab.ite h2 rfl (fun _ h2=>?_) (fun _ h2=>?_))
   ·refine ab.aa (Oc (lp aH) (Oc (aq iB rfl rfl) (Oc (aF aM rfl rfl rfl) ?_)))
    obtain ⟨⟨x_7,x_8⟩,e4,h2⟩:=aL h2
    refine Oc (ak (eV e4) s9 rfl rfl) (Oc om ?_)
    refine ae.ag ⟨[(2,_),(4,_),(8,_),(9,_),(10,_),(39,.dF [.agg (ar x_7),.one (.i x_8)])],[(101,_),(103,_),(104,_)]⟩ rfl (Oc (an rfl rfl) (Oc (an rfl rfl) (Oc (aB aH rfl rfl rfl rfl (Nat.le_of_ble_eq_true rfl) rfl) (Oc oa ?_))))
    refine ae.nil (Fin.au (Fin.ag ⟨[(2,_),(4,_),(8,_),(9,_),(10,_),(11,I x_8)],[(101,_),(103,_),(104,.box 49 (ar x_7))]⟩ rfl (Fin.gz 9 1 rfl (by decide) (Fin.gz 10 1 rfl (by decide) ?_))))
    exact Fin.join [2,4,8,9,10,11] [101,103,104] (x_7,[],[],x_8) (Option.some.inj h2) rfl
   ·refine ab.aa (Oc (lp aH) (Oc (aq iB rfl rfl) (Oc (aF aM rfl rfl rfl) (Oc (aq lF rfl rfl) (Oc (lp aC) ?_)))))
    refine ae.ag ⟨[(2,_),(4,_),(8,_),(9,_),(10,_),(16,.b (.agg (ar s0))),(18,I x0.Id),(20,.b (.agg (ao x0.B)))],[(101,_),(103,_),(104,_)]⟩ rfl ?_
    obtain ⟨⟨x_9,x_10,x_11,x_12⟩,e5,h2⟩:=aL h2
    refine Oc (ak (il e5) vF rfl rfl) (Oc om (Oc (an rfl rfl) (Oc (an rfl rfl) (Oc (an rfl rfl) (Oc (an rfl rfl) ?_)))))
    refine Oc (aB aH rfl rfl rfl rfl (Nat.le_of_ble_eq_true rfl) rfl) (ae.ag ⟨[(2,_),(4,_),(8,_),(9,_),(10,_),(23,.b (.one (.sl 1 (x_10.map eI)))),(24,.b (.one (.sl 1 (x_11.map eI)))),(25,I x_12)],[(101,_),(103,_),(104,.box 49 (ar x_9))]⟩ rfl (Oc oa (Oc oa (Oc oa ?_))))
    refine ae.nil (Fin.au ?_)
    exact Fin.join [2,4,8,9,10,11] [101,103,104] (x_9,x_10,x_11,x_12) (Option.some.inj h2) rfl
 ·rintro ⟨next_1,gained_2,lost_3,e_4⟩ hv
  subst v1
  refine ab.seq (ab.seq (ab.aa ?_))
  refine Oc om (Oc (jY rfl rfl) ?_)
  refine ae.ai ⟨[(2,_),(4,_),(8,_),(9,_),(10,_),(11,_),(47,B (decide (e_4 ≠ 0)))],[(101,_),(103,_),(104,_)]⟩ rfl (ab.ite h rfl (fun _ h=>?_) (fun _ h=>?_))
  ·refine ab.seq (ab.aa ?_)
   refine Oc (lp aH) (Oc om (Oc om (Oc om (Oc (aB aH rfl rfl rfl rfl (Nat.le_of_ble_eq_true rfl) rfl) (Oc oa ?_)))))
   refine Oc oa (Oc oa ?_)
   refine ae.ai ⟨[(4,_),(5,.b (.one (.sl 1 (gained_2.map eI)))),(6,.b (.one (.sl 1 (lost_3.map eI)))),(7,I e_4)],[(103,.box 49 (ar s0))]⟩ rfl (ab.ret (Fin.aw ?_))
   obtain rfl:=Option.some.inj h
   refine Fin.ag ⟨[(4,_),(5,_),(6,_),(7,_)],[(103,_)]⟩ rfl (Fin.aA [.agg (ar s0),.one (.sl 1 (gained_2.map eI)),.one (.sl 1 (lost_3.map eI)),.one (.i e_4)] (.inl rfl) rfl (.cons (.agg aH rfl rfl rfl rfl) (.cons (.tmp rfl) (.cons (.tmp rfl) (.cons (.tmp rfl) .nil)))) ⟨rfl,rfl⟩)
  ·refine ab.skip (Fin.ag ⟨[(4,_),(8,_),(9,_),(10,_),(11,_)],[(103,_),(104,_)]⟩ rfl (Fin.then (ab.seq (ab.aa ?_))))
   refine Oc (lp aH) (Oc om (Oc om (Oc om (Oc (aB aH rfl rfl rfl rfl (Nat.le_of_ble_eq_true rfl) rfl) (Oc oa ?_)))))
   refine Oc oa (Oc oa ?_)
   refine ae.ai ⟨[(4,_),(5,.b (.one (.sl 1 (gained_2.map eI)))),(6,.b (.one (.sl 1 (lost_3.map eI)))),(7,I e_4)],[(103,.box 49 (ar next_1))]⟩ rfl (ab.ret ?_)
   obtain rfl:=Option.some.inj h
   refine Fin.ag ⟨[(4,_),(5,_),(6,_),(7,_)],[(103,_)]⟩ rfl (Fin.aA [.agg (ar next_1),.one (.sl 1 (gained_2.map eI)),.one (.sl 1 (lost_3.map eI)),.one (.i e_4)] (.inl rfl) rfl (.cons (.agg aH rfl rfl rfl rfl) (.cons (.tmp rfl) (.cons (.tmp rfl) (.cons (.tmp rfl) .nil)))) ⟨rfl,rfl⟩)
def eP (F:Nat) (s0:b4):Option (List Int) :=
 Option.bind (oM (fun _=>some true) s0.ids.root) (fun xs_1=>Option.bind (each (fun outf0_3=>fun x_2=>(dE outf0_3 [x_2.id]).bind fun x_4=>some (.inl x_4)) (xs_1) []) (cL (fun outf0_3=>some outf0_3) (fun (_:Unit)=>none)))
theorem mC {F:Nat} {s0:b4} {r:(List Int)} (h:eP F s0 = some r):av Tryz.prog [] 33 [] [.agg (ar s0)] (Is [(51,.row 3 1 (r.map eI))] (.b (.row 51))):=by
 unfold eP at h
 refine av.sU 16 Tryz.func33 Tryz.ntmps33 rfl (by simp) fun E=>?_
 show ab _ E ⟨16,[],[],[]⟩ _ ⟨[(0,.b (.agg (ar s0)))],[]⟩ _
 refine ab.seq (ab.aa ?_)
 refine Oc (bq (k:=101) rfl rfl) (Oc oa ?_)
 refine ae.ai ⟨[(1,Pt 101 0)],[(101,.box 49 (ar s0))]⟩ rfl (ab.seq (ab.aa ?_))
 refine Oc (aT (k:=102) rG rfl) (ae.ai ⟨[(1,_),(3,Pt 102 0)],[(101,_),(102,.box 51 [.nil])]⟩ rfl (ab.seq (ab.seq (ab.aa ?_))))
 refine Oc (aq jH rfl rfl) (Oc (aq fT rfl rfl) (Oc (aF bK rfl rfl rfl) (Oc (ak pv sY rfl rfl) ?_)))
 refine ae.ai ⟨[(3,_),(8,.b (.one (.fw 77 [CP.rp [.tr af s0.ids.root],CP.rp [.raw (.func (.func 58) #[] #[])]])))],[(102,_)]⟩ rfl ?_
 obtain ⟨xs_1,e1,h⟩:=aL h
 refine ab.ag ⟨[(3,Pt 102 0),(8,.b (.one (.fw 77 [CP.rp [.tr af s0.ids.root],CP.rp [.raw (.func (.func 58) #[] #[])]])))],[(102,.box 51 [.nil])]⟩ rfl (ab.uY 102 rfl (ab.gm 102 0 105 1 3 rfl rfl (by decide) (by decide) rfl (ab.ag ⟨[(3,_),(8,_)],[(102,.bM 51 [.row 105]),(105,.row 3 1 ([].map eI))]⟩ rfl (ab.sM _ uA _ _ (fun (outf0_3:List Int)=>[(102,.bM 51 [.row 105]),(105,.row 3 1 (outf0_3.map eI))]) (fun (_:Unit)=>([]:List (Nat × OC))) (fun (outf0_3:List Int)=>fun x_2=>⟨[(3,Pt 102 0),(4,Pt 107 0)],[(102,.bM 51 [.row 105]),(105,.row 3 1 (outf0_3.map eI)),(107,.box 87 (ay x_2))]⟩) h (pw ni e1) sX rfl rfl rfl (fun _=>rfl) (fun _=>rfl) (fun _=>rfl) (fun _ _=>rfl) (fun _ _=>rfl) rfl (fun _=>rfl) ?_ ?_ ?_ ?_))))
 ·rintro E l outf0_3 x_2 z _ h2
  refine a7.keep [3,8,9] [102,105] (s':=⟨[(3,Pt 102 0),(8,.b (.one (.fw 77 [CP.rp [.tr af s0.ids.root],CP.rp [.raw (.func (.func 58) #[] #[])]]))),(9,.b (.agg (ay x_2)))],[(102,.bM 51 [.row 105]),(105,.row 3 1 (outf0_3.map eI))]⟩) rfl (a7.aa (.inr ⟨_,rfl⟩) (Oc (aT (k:=107) gq rfl) (Oc (aB bF rfl rfl rfl rfl (Nat.le_of_ble_eq_true rfl) rfl) ?_)))
  refine ae.nil ?_
  exact Fin.ag ⟨[(3,_),(4,Pt 107 0)],[(102,_),(105,_),(107,.box 87 (ay x_2))]⟩ rfl (fun a w hr=>hr)
 ·rintro E l outf0_3 x_2 z _ h2
  refine a7.block (a7.aa (.inr ⟨_,rfl⟩) (Oc (eE gk rfl rfl rfl) (Oc (aq dW rfl rfl) (Oc (aF aM rfl rfl rfl) (Oc (bt (k:=108) (es:=[x_2.id].map eI) bN rfl rfl (bP fun _=>rfl) rfl (by decide) (by decide) rfl) ?_)))))
  refine ae.forget 102 0 rfl ?_
  obtain ⟨x_4,e3,h2⟩:=aL h2
  refine Oc (cW bN (gh e3) (gg e3) rfl rfl rfl rfl (du e3) rfl) (Oc (gX gk rfl rfl rfl rfl (Nat.le_of_ble_eq_true rfl) rfl) ?_)
  refine ae.nil (Fin.au ?_)
  obtain rfl:=Option.some.inj h2
  exact Fin.ag ⟨[],[(102,.bM 51 [.row 105]),(105,.row 3 1 (x_4.map eI))]⟩ rfl (fun a w hr=>⟨_,rfl,hr⟩)
 ·rintro E D outf0_3 h4
  refine ab.seq (ab.aa ?_)
  refine Oc (eE gk rfl rfl rfl) (Oc oa ?_)
  refine ae.ai ⟨[(2,.b (.row 105))],[(105,.row 3 1 (outf0_3.map eI))]⟩ rfl (ab.ret ?_)
  obtain rfl:=Option.some.inj h4
  refine Fin.ag ⟨[(2,.b (.row 105))],[(105,.row 3 1 (outf0_3.map eI))]⟩ rfl (Fin.rename 105 51 rfl (by decide) rfl (Fin.ag ⟨[(2,.b (.row 51))],[(51,.row 3 1 (outf0_3.map eI))]⟩ rfl ?_))
  exact Fin.result [.row 51] (.inl rfl) rfl (.cons (.tmp rfl) .nil) ⟨rfl,rfl⟩
 ·rintro E D ⟨⟩ h4
  cases h4
def bz (F:Nat) (s0:List bB) (id0:Int):Option Int :=
 Option.bind (iter F (fun i_1=>if (decide (i_1 < (s0.length:Int))) = true then ((a8 s0 i_1).bind fun x_2=>if (decide (x_2.Id = id0)) = true then (some (.inr (.inr i_1))) else (some (.inl (IntKind.i64.wrap (i_1 + 1))))) else (some (.inr (.inl ())))) 0) (cL (fun _=>some (-1)) (fun y=>some y))
theorem ef {F:Nat} {s0:List bB} {id0:Int} {r:Int} (h:bz F s0 id0 = some r):av Tryz.prog [] 37 [] [.one (.sl 7 (s0.map aj)),.one (.i id0)] (Is [] (.b (.one (.i r)))):=by
 unfold bz at h
 refine av.intro 20 Tryz.func37 Tryz.ntmps37 rfl (by simp) fun E=>?_
 show ab _ E ⟨20,[],[],[]⟩ _ ⟨[(0,.b (.one (.sl 7 (s0.map aj)))),(1,I id0)],[]⟩ _
 refine ab.seq (ab.aa ?_)
 refine Oc oa (ae.ai ⟨[(0,.b (.one (.sl 7 (s0.map aj)))),(1,I id0)],[]⟩ rfl ?_)
 obtain ⟨v1,h2,h⟩:=aL h
 refine ab.c6 (v:=v1) (fun (_:Unit)=>⟨[],[]⟩) (fun z=>.inl z) ?_ ?_
 ·refine ab.seq (ab.aa ?_)
  refine Oc oa (ae.ai ⟨[(0,_),(1,_),(5,I 0)],[]⟩ rfl (ab.block (ab.cN h2 (fun (i_1:Int)=>⟨[(0,.b (.one (.sl 7 (s0.map aj)))),(1,I id0),(5,I i_1)],[]⟩) [0,1,5] [] rfl ?_)))
  rintro i_1 o3 h4 hy5
  refine ab.seq (ab.seq (ab.aa ?_))
  refine Oc om (Oc om (Oc (aY mL rfl (List.length_map _)) (Oc (bb rfl rfl) ?_)))
  refine ae.ai ⟨[(0,_),(1,_),(5,_),(9,B (decide (i_1 < (s0.length:Int))))],[]⟩ rfl (ab.ite h4 rfl (fun _ h4=>?_) (fun _ h4=>?_))
  ·refine ab.skip (Fin.ag ⟨[(0,_),(1,_),(5,_)],[]⟩ rfl (Fin.then (ab.seq (ab.block (ab.seq (ab.aa ?_))))))
   refine Oc om (Oc om ?_)
   obtain ⟨x_2,e6,h4⟩:=aL h4
   refine Oc (aN cY (aX e6) (bn (e:=aj) e6) rfl rfl) (Oc (aD dm rfl rfl) (Oc (az aM rfl rfl) (Oc om (Oc (c7 rfl rfl) ?_))))
   refine ae.ai ⟨[(0,_),(1,_),(5,_),(18,B (decide (x_2.Id = id0)))],[]⟩ rfl (ab.ite h4 rfl (fun _ h4=>?_) (fun _ h4=>?_))
   ·refine ab.seq (ab.aa ?_)
    refine Oc om (Oc oa ?_)
    refine ae.ai ⟨[(4,I i_1)],[]⟩ rfl (ab.ret (Fin.aS (Fin.aw ?_)))
    obtain rfl:=hy5 _ (Option.some.inj h4).symm
    refine Fin.aw (Fin.aS (Fin.aw ?_))
    obtain rfl:=Option.some.inj h
    refine Fin.ag ⟨[(4,_)],[]⟩ rfl (Fin.aA [.one (.i i_1)] (.inl rfl) rfl (.cons (.tmp rfl) .nil) ⟨rfl,rfl⟩)
   ·refine ab.skip (Fin.au (Fin.ag ⟨[(0,_),(1,_),(5,_)],[]⟩ rfl (Fin.then (ab.aa ?_))))
    refine Oc om (Oc (br rfl rfl) (Oc oa ?_))
    refine ae.nil ?_
    exact Fin.bO [0,1,5] [] (IntKind.i64.wrap (i_1 + 1)) (Option.some.inj h4) rfl
  ·refine ab.exit (Fin.ax ?_)
   obtain rfl:=hy5 _ (Option.some.inj h4).symm
   refine Fin.ax (Fin.aQ ?_)
   exact Fin.join [] [] () rfl rfl
 ·rintro _ hv
  subst v1
  refine ab.seq (ab.aa ?_)
  refine Oc oa (ae.ai ⟨[(4,I (-1))],[]⟩ rfl (ab.ret ?_))
  obtain rfl:=Option.some.inj h
  refine Fin.ag ⟨[(4,_)],[]⟩ rfl (Fin.aA [.one (.i (-1))] (.inl rfl) rfl (.cons (.tmp rfl) .nil) ⟨rfl,rfl⟩)
def cJ (F:Nat) (s0:List bB) (x0:bB):Option (List bB) :=
 Option.bind (iter F (sF fun out_3 placed_4 i_5=>if (decide (i_5 < (s0.length:Int))) = true then (Option.bind (Option.bind ((bD (!placed_4) (a8 s0 i_5)).bind fun x_12=>if ((!placed_4) && (decide (x0.Id < x_12.Id))) = true then ((dE out_3 [x0]).bind fun x_13=>some (x_13,true)) else (some (out_3,placed_4))) (dd fun out_10 placed_11=>(a8 s0 i_5).bind fun x_14=>(dE out_10 [x_14]).bind fun x_15=>some (x_15,placed_11))) (dd fun out_8 placed_9=>some (.inl (out_8,placed_9,IntKind.i64.wrap (i_5 + 1))))) else (some (.inr (out_3,placed_4)))) ([],false,0)) (dd fun out_1 placed_2=>Option.bind (if (!placed_2) = true then ((dE out_1 [x0]).bind fun x_17=>some x_17) else (some out_1)) (fun out_16=>some out_16))
theorem fY (kr0:Nat) {F:Nat} {s0:List bB} {x0:bB} {r:(List bB)} (h:cJ F s0 x0 = some r):av Tryz.prog [] 84 [] [.one (.sl 7 (s0.map aj)),.agg (aj x0)] (Is [(kr0,.row 105 7 (r.map aj))] (.b (.row kr0))):=by
 unfold cJ at h
 refine av.intro 44 Tryz.func84 Tryz.ntmps84 rfl (by simp) fun E=>?_
 show ab _ E ⟨44,[],[],[]⟩ _ ⟨[(0,.b (.one (.sl 7 (s0.map aj)))),(1,.b (.agg (aj x0)))],[]⟩ _
 refine ab.seq (ab.aa ?_)
 refine Oc (bq (k:=101) rfl rfl) (Oc oa ?_)
 refine ae.ai ⟨[(0,.b (.one (.sl 7 (s0.map aj)))),(3,Pt 101 0)],[(101,.box 105 (aj x0))]⟩ rfl (ab.seq (ab.aa ?_))
 refine Oc oa (ae.ai ⟨[(0,_),(3,_),(5,.b (.one (.nil)))],[(101,_)]⟩ rfl (ab.seq (ab.aa ?_)))
 refine Oc oa (ae.ai ⟨[(0,_),(3,_),(5,_),(6,B false)],[(101,_)]⟩ rfl ?_)
 obtain ⟨v1,h2,h⟩:=aL h
 refine ab.c6 (v:=v1) (dd fun (out_1:List bB) (placed_2:Bool)=>⟨[(3,Pt 101 0),(5,.b (.row 103)),(6,B placed_2)],[(101,.box 105 (aj x0)),(103,.row 105 7 (out_1.map aj))]⟩) (fun z=>z) ?_ ?_
 ·refine ab.seq (ab.aa ?_)
  refine Oc oa (ae.ai ⟨[(0,_),(3,_),(5,_),(6,_),(7,I 0)],[(101,_)]⟩ rfl (ab.block (ab.dO 5 103 7 105 rfl (by decide) rfl (ab.cN h2 (sF fun (out_3:List bB) (placed_4:Bool) (i_5:Int)=>⟨[(0,.b (.one (.sl 7 (s0.map aj)))),(3,Pt 101 0),(5,.b (.row 103)),(6,B placed_4),(7,I i_5)],[(101,.box 105 (aj x0)),(103,.row 105 7 (out_3.map aj))]⟩) [0,3,5,6,7] [101,103] rfl ?_))))
  rintro ⟨out_3,placed_4,i_5⟩ o3 h4 hy5
  refine ab.seq (ab.seq (ab.aa ?_))
  refine Oc om (Oc om (Oc (aY mL rfl (List.length_map _)) (Oc (bb rfl rfl) ?_)))
  refine ae.ai ⟨[(0,_),(3,_),(5,_),(6,_),(7,_),(11,B (decide (i_5 < (s0.length:Int))))],[(101,_),(103,_)]⟩ rfl (ab.ite h4 rfl (fun _ h4=>?_) (fun _ h4=>?_))
  ·refine ab.skip (Fin.ag ⟨[(0,_),(3,_),(5,_),(6,_),(7,_)],[(101,_),(103,_)]⟩ rfl (Fin.then ?_))
   obtain ⟨v6,h7,h4⟩:=aL h4
   refine ab.c6 (v:=v6) (dd fun (out_8:List bB) (placed_9:Bool)=>⟨[(0,.b (.one (.sl 7 (s0.map aj)))),(3,Pt 101 0),(5,.b (.row 103)),(6,B placed_9),(7,I i_5)],[(101,.box 105 (aj x0)),(103,.row 105 7 (out_8.map aj))]⟩) (fun z=>z) ?_ ?_
   ·refine ab.block ?_
    obtain ⟨v8,h9,h7⟩:=aL h7
    refine ab.c6 (v:=v8) (dd fun (out_10:List bB) (placed_11:Bool)=>⟨[(0,.b (.one (.sl 7 (s0.map aj)))),(3,Pt 101 0),(5,.b (.row 103)),(6,B placed_11),(7,I i_5)],[(101,.box 105 (aj x0)),(103,.row 105 7 (out_10.map aj))]⟩) (fun z=>z) ?_ ?_
    ·refine ab.seq (ab.ag ⟨[(0,_),(3,_),(5,_),(6,_),(7,_)],[(101,_),(103,_)]⟩ rfl ?_)
     obtain ⟨x_12,e13,h9⟩:=aL h9
     refine ab.bE mixed 12 [B placed_4,B (!placed_4),B (!placed_4),.opt (!placed_4) (.one (.sl 7 (s0.map aj))),.opt (!placed_4) (.one (.i i_5)),.opt (!placed_4) (.aO (aj x_12)),.opt (!placed_4) (.aO (aj x_12)),.opt (!placed_4) (.one (.i x_12.Id)),.opt (!placed_4) (.ptr 101 0),.opt (!placed_4) (.one (.i x0.Id)),.opt (!placed_4) (.one (.bool (decide (x0.Id < x_12.Id)))),B ((!placed_4) && (decide (x0.Id < x_12.Id)))] [0,3,5,6,7,25] [101,103] (s':=⟨[(0,_),(3,_),(5,_),(6,_),(7,_),(25,B ((!placed_4) && (decide (x0.Id < x_12.Id))))],[(101,_),(103,_)]⟩) rfl ⟨fun _=>.p om,fun _=>.p (di rfl),fun _=>.p om,fun _=>by exact .guard (!placed_4) 1 [] (.plain rfl) (ga _) rfl rfl (fun g10=>trivial) (fun g10=>om),fun _=>by exact .guard (!placed_4) 1 [] (.plain rfl) (ga _) rfl rfl (fun g11=>trivial) (fun g11=>om),fun _=>by exact .guard (!placed_4) 3 [17,18] (.plain rfl) (ga _) rfl rfl (fun g12=>⟨g12,g12,trivial⟩) (fun g12=>aN cY (aX (gc e13 g12)) (bn (e:=aj) (gc e13 g12)) rfl rfl),fun _=>by exact .guard (!placed_4) 2 [19] (.plain rfl) (ga _) rfl rfl (fun g14=>⟨g14,trivial⟩) (fun g14=>aD dm rfl rfl),fun _=>by exact .guard (!placed_4) 2 [20] (.plain rfl) (ga _) rfl rfl (fun g15=>⟨g15,trivial⟩) (fun g15=>az aM rfl rfl),fun _=>by exact .guard (!placed_4) 1 [] (.plain rfl) (ga _) rfl rfl (fun g16=>trivial) (fun g16=>aq dm rfl rfl),fun _=>by exact .guard (!placed_4) 2 [22] (.plain rfl) (ga _) rfl rfl (fun g17=>⟨g17,trivial⟩) (fun g17=>aF aM rfl rfl rfl),fun _=>by exact .guard (!placed_4) 3 [21,23] (.plain rfl) (ga _) rfl rfl (fun g18=>⟨g18,g18,trivial⟩) (fun g18=>gA rfl rfl),fun _=>.p (aJ (fun e=>e) rfl rfl rfl rfl),trivial⟩ rfl rfl (ab.ite h9 rfl (fun _ h9=>?_) (fun _ h9=>?_))
     ·refine ab.seq (ab.aa ?_)
      refine Oc om (Oc (lp mW) (Oc (bt (k:=104) (es:=[x0].map aj) cY rfl rfl (bP fun _=>rfl) rfl (by decide) (by decide) rfl) ?_))
      obtain ⟨x_13,e19,h9⟩:=aL h9
      refine Oc (cW cY (gh e19) (gg e19) rfl rfl rfl rfl (du e19) rfl) (Oc oa ?_)
      refine ae.ai ⟨[(0,_),(3,_),(5,_),(7,_)],[(101,_),(103,.row 105 7 (x_13.map aj))]⟩ rfl (ab.aa (Oc oa (ae.nil ?_)))
      exact Fin.join [0,3,5,6,7] [101,103] (x_13,true) (Option.some.inj h9) rfl
     ·refine ab.skip ?_
      exact Fin.join [0,3,5,6,7] [101,103] (out_3,placed_4) (Option.some.inj h9) rfl
    ·rintro ⟨out_10,placed_11⟩ hv
     subst v8
     refine ab.aa (Oc om (Oc om (Oc om ?_)))
     obtain ⟨x_14,e20,h7⟩:=aL h7
     refine Oc (aN cY (aX e20) (bn (e:=aj) e20) rfl rfl) (Oc (bj mW rfl rfl rfl) (Oc (bt (k:=105) (es:=[x_14].map aj) cY rfl rfl (bP fun _=>rfl) rfl (by decide) (by decide) rfl) ?_))
     obtain ⟨x_15,e21,h7⟩:=aL h7
     refine Oc (cW cY (gh e21) (gg e21) rfl rfl rfl rfl (du e21) rfl) (Oc oa ?_)
     refine ae.nil (Fin.au ?_)
     exact Fin.join [0,3,5,6,7] [101,103] (x_15,placed_11) (Option.some.inj h7) rfl
   ·rintro ⟨out_8,placed_9⟩ hv
    subst v6
    refine ab.aa (Oc om (Oc (br rfl rfl) (Oc oa ?_)))
    refine ae.nil ?_
    exact Fin.bO [0,3,5,6,7] [101,103] (out_8,placed_9,IntKind.i64.wrap (i_5 + 1)) (Option.some.inj h4) rfl
  ·refine ab.exit (Fin.ax ?_)
   obtain rfl:=hy5 _ (Option.some.inj h4).symm
   refine Fin.ax (Fin.aQ ?_)
   exact Fin.join [3,5,6] [101,103] (out_3,placed_4) rfl rfl
 ·rintro ⟨out_1,placed_2⟩ hv
  subst v1
  obtain ⟨v22,h23,h⟩:=aL h
  refine ab.c6 (v:=v22) (fun (out_16:List bB)=>⟨[(5,.b (.row 103))],[(103,.row 105 7 (out_16.map aj))]⟩) (fun z=>z) ?_ ?_
  ·refine ab.seq (ab.aa ?_)
   refine Oc om (Oc (di rfl) ?_)
   refine ae.ai ⟨[(3,_),(5,_),(38,B (!placed_2))],[(101,_),(103,_)]⟩ rfl (ab.ite h23 rfl (fun _ h23=>?_) (fun _ h23=>?_))
   ·refine ab.aa (Oc om (Oc (lp mW) (Oc (bt (k:=106) (es:=[x0].map aj) cY rfl rfl (bP fun _=>rfl) rfl (by decide) (by decide) rfl) ?_)))
    obtain ⟨x_17,e24,h23⟩:=aL h23
    refine Oc (cW cY (gh e24) (gg e24) rfl rfl rfl rfl (du e24) rfl) (Oc oa ?_)
    refine ae.nil ?_
    exact Fin.join [5] [103] x_17 (Option.some.inj h23) rfl
   ·refine ab.skip ?_
    exact Fin.join [5] [103] out_1 (Option.some.inj h23) rfl
  ·rintro out_16 hv
   subst v22
   refine ab.seq (ab.aa ?_)
   refine Oc om (Oc oa ?_)
   refine ae.ai ⟨[(4,.b (.row 103))],[(103,_)]⟩ rfl (ab.ret ?_)
   obtain rfl:=Option.some.inj h
   refine Fin.ag ⟨[(4,_)],[(103,_)]⟩ rfl (Fin.ez 103 kr0 [.row 103] (.inl rfl) rfl (.cons (.tmp rfl) .nil) rfl rfl rfl rfl ⟨rfl,rfl⟩)
def dR (F:Nat) (s0:List bB) (id0:Int) (b0:cg):Option ((List bB) × Int) :=
 (bT F b0).bind fun x_1=>if (!x_1) = true then (some ([],1)) else ((bz F s0 id0).bind fun x_2=>if (decide (0 ≤ x_2)) = true then (some ([],6)) else ((cJ F s0 (⟨id0,b0⟩:bB)).bind fun x_3=>some (x_3,0)))
theorem kA (kr0:Nat) {F:Nat} {s0:List bB} {id0:Int} {b0:cg} {r:(List bB) × Int} (h:dR F s0 id0 b0 = some r):av Tryz.prog [] 61 [] [.one (.sl 7 (s0.map aj)),.one (.i id0),.agg (ao b0)] (Is [(kr0,.row 105 7 (r.1.map aj))] (.dF [.row kr0,.one (.i r.2)])):=by
 unfold dR at h
 refine av.intro 22 Tryz.func61 Tryz.ntmps61 rfl (by simp) fun E=>?_
 show ab _ E ⟨22,[],[],[]⟩ _ ⟨[(0,.b (.one (.sl 7 (s0.map aj)))),(1,I id0),(2,.b (.agg (ao b0)))],[]⟩ _
 refine ab.seq (ab.aa ?_)
 refine Oc (bq (k:=101) rfl rfl) (Oc oa (Oc oa ?_))
 refine ae.ai ⟨[(0,.b (.one (.sl 7 (s0.map aj)))),(1,I id0),(5,Pt 101 0)],[(101,.box 25 (ao b0))]⟩ rfl (ab.seq (ab.aa ?_))
 refine Oc (lp aC) ?_
 obtain ⟨x_1,e1,h⟩:=aL h
 refine Oc (ak (dQ e1) tf rfl rfl) (Oc oa ?_)
 refine ae.ai ⟨[(0,_),(1,_),(5,_),(8,B x_1)],[(101,_)]⟩ rfl (ab.seq (ab.seq (ab.aa ?_)))
 refine Oc om (Oc (di rfl) ?_)
 refine ae.ai ⟨[(0,_),(1,_),(5,_),(12,B (!x_1))],[(101,_)]⟩ rfl (ab.ite h rfl (fun _ h=>?_) (fun _ h=>?_))
 ·refine ab.seq (ab.aa ?_)
  refine Oc oa (Oc oa ?_)
  refine ae.ai ⟨[(6,.b (.one (.nil))),(7,I 1)],[]⟩ rfl (ab.ret (Fin.aw ?_))
  obtain rfl:=Option.some.inj h
  refine Fin.ag ⟨[(6,_),(7,_)],[]⟩ rfl (Fin.dO 6 102 7 105 rfl (by decide) rfl (Fin.ez 102 kr0 [.row 102,.one (.i 1)] (.inl rfl) rfl (.cons (.tmp rfl) (.cons (.tmp rfl) .nil)) rfl rfl rfl rfl ⟨rfl,rfl⟩))
 ·refine ab.skip (Fin.ag ⟨[(0,_),(1,_),(5,_)],[(101,_)]⟩ rfl (Fin.then (ab.seq (ab.seq (ab.aa ?_)))))
  refine Oc om (Oc om ?_)
  obtain ⟨x_2,e2,h⟩:=aL h
  refine Oc (ak (ef e2) s6 rfl rfl) (Oc (nm rfl rfl) ?_)
  refine ae.ai ⟨[(0,_),(1,_),(5,_),(16,B (decide (0 ≤ x_2)))],[(101,_)]⟩ rfl (ab.ite h rfl (fun _ h=>?_) (fun _ h=>?_))
  ·refine ab.seq (ab.aa ?_)
   refine Oc oa (Oc oa ?_)
   refine ae.ai ⟨[(6,.b (.one (.nil))),(7,I 6)],[]⟩ rfl (ab.ret (Fin.aw ?_))
   obtain rfl:=Option.some.inj h
   refine Fin.ag ⟨[(6,_),(7,_)],[]⟩ rfl (Fin.dO 6 103 7 105 rfl (by decide) rfl (Fin.ez 103 kr0 [.row 103,.one (.i 6)] (.inl rfl) rfl (.cons (.tmp rfl) (.cons (.tmp rfl) .nil)) rfl rfl rfl rfl ⟨rfl,rfl⟩))
  ·refine ab.skip (Fin.ag ⟨[(0,_),(1,_),(5,_)],[(101,_)]⟩ rfl (Fin.then (ab.seq (ab.aa ?_))))
   refine Oc om (Oc om (Oc (lp aC) (Oc (bV pA rfl rfl) ?_)))
   obtain ⟨x_3,e3,h⟩:=aL h
   refine Oc (cC (fY 104 e3) vy rfl trivial rfl rfl) (Oc oa (Oc oa ?_))
   refine ae.ai ⟨[(6,.b (.row 104)),(7,I 0)],[(104,.row 105 7 (x_3.map aj))]⟩ rfl (ab.ret ?_)
   obtain rfl:=Option.some.inj h
   refine Fin.ag ⟨[(6,_),(7,_)],[(104,_)]⟩ rfl (Fin.ez 104 kr0 [.row 104,.one (.i 0)] (.inl rfl) rfl (.cons (.tmp rfl) (.cons (.tmp rfl) .nil)) rfl rfl rfl rfl ⟨rfl,rfl⟩)
def bZ (F:Nat) (s0:List bB) (id0:Int):Option (List bB) :=
 Option.bind (iter F (dd fun out_2 i_3=>if (decide (i_3 < (s0.length:Int))) = true then (Option.bind ((a8 s0 i_3).bind fun x_6=>if (decide (x_6.Id ≠ id0)) = true then ((a8 s0 i_3).bind fun x_7=>(dE out_2 [x_7]).bind fun x_8=>some x_8) else (some out_2)) (fun out_5=>some (.inl (out_5,IntKind.i64.wrap (i_3 + 1))))) else (some (.inr out_2))) ([],0)) (fun out_1=>some out_1)
theorem fj (kr0:Nat) {F:Nat} {s0:List bB} {id0:Int} {r:(List bB)} (h:bZ F s0 id0 = some r):av Tryz.prog [] 85 [] [.one (.sl 7 (s0.map aj)),.one (.i id0)] (Is [(kr0,.row 105 7 (r.map aj))] (.b (.row kr0))):=by
 unfold bZ at h
 refine av.intro 28 Tryz.func85 Tryz.ntmps85 rfl (by simp) fun E=>?_
 show ab _ E ⟨28,[],[],[]⟩ _ ⟨[(0,.b (.one (.sl 7 (s0.map aj)))),(1,I id0)],[]⟩ _
 refine ab.seq (ab.aa ?_)
 refine Oc oa (ae.ai ⟨[(0,.b (.one (.sl 7 (s0.map aj)))),(1,I id0)],[]⟩ rfl (ab.seq (ab.aa ?_)))
 refine Oc oa (ae.ai ⟨[(0,_),(1,_),(5,.b (.one (.nil)))],[]⟩ rfl ?_)
 obtain ⟨v1,h2,h⟩:=aL h
 refine ab.c6 (v:=v1) (fun (out_1:List bB)=>⟨[(5,.b (.row 102))],[(102,.row 105 7 (out_1.map aj))]⟩) (fun z=>z) ?_ ?_
 ·refine ab.seq (ab.aa ?_)
  refine Oc oa (ae.ai ⟨[(0,_),(1,_),(5,_),(6,I 0)],[]⟩ rfl (ab.block (ab.dO 5 102 7 105 rfl (by decide) rfl (ab.cN h2 (dd fun (out_2:List bB) (i_3:Int)=>⟨[(0,.b (.one (.sl 7 (s0.map aj)))),(1,I id0),(5,.b (.row 102)),(6,I i_3)],[(102,.row 105 7 (out_2.map aj))]⟩) [0,1,5,6] [102] rfl ?_))))
  rintro ⟨out_2,i_3⟩ o3 h4 hy5
  refine ab.seq (ab.seq (ab.aa ?_))
  refine Oc om (Oc om (Oc (aY mL rfl (List.length_map _)) (Oc (bb rfl rfl) ?_)))
  refine ae.ai ⟨[(0,_),(1,_),(5,_),(6,_),(10,B (decide (i_3 < (s0.length:Int))))],[(102,_)]⟩ rfl (ab.ite h4 rfl (fun _ h4=>?_) (fun _ h4=>?_))
  ·refine ab.skip (Fin.ag ⟨[(0,_),(1,_),(5,_),(6,_)],[(102,_)]⟩ rfl (Fin.then ?_))
   obtain ⟨v6,h7,h4⟩:=aL h4
   refine ab.c6 (v:=v6) (fun (out_5:List bB)=>⟨[(0,.b (.one (.sl 7 (s0.map aj)))),(1,I id0),(5,.b (.row 102)),(6,I i_3)],[(102,.row 105 7 (out_5.map aj))]⟩) (fun z=>z) ?_ ?_
   ·refine ab.block (ab.seq (ab.aa ?_))
    refine Oc om (Oc om ?_)
    obtain ⟨x_6,e8,h7⟩:=aL h7
    refine Oc (aN cY (aX e8) (bn (e:=aj) e8) rfl rfl) (Oc (aD dm rfl rfl) (Oc (az aM rfl rfl) (Oc om (Oc (jY rfl rfl) ?_))))
    refine ae.ai ⟨[(0,_),(1,_),(5,_),(6,_),(19,B (decide (x_6.Id ≠ id0)))],[(102,_)]⟩ rfl (ab.ite h7 rfl (fun _ h7=>?_) (fun _ h7=>?_))
    ·refine ab.aa (Oc om (Oc om (Oc om ?_)))
     obtain ⟨x_7,e9,h7⟩:=aL h7
     refine Oc (aN cY (aX e9) (bn (e:=aj) e9) rfl rfl) (Oc (bj mW rfl rfl rfl) (Oc (bt (k:=103) (es:=[x_7].map aj) cY rfl rfl (bP fun _=>rfl) rfl (by decide) (by decide) rfl) ?_))
     obtain ⟨x_8,e10,h7⟩:=aL h7
     refine Oc (cW cY (gh e10) (gg e10) rfl rfl rfl rfl (du e10) rfl) (Oc oa ?_)
     refine ae.nil (Fin.au ?_)
     exact Fin.join [0,1,5,6] [102] x_8 (Option.some.inj h7) rfl
    ·refine ab.skip (Fin.au ?_)
     exact Fin.join [0,1,5,6] [102] out_2 (Option.some.inj h7) rfl
   ·rintro out_5 hv
    subst v6
    refine ab.aa (Oc om (Oc (br rfl rfl) (Oc oa ?_)))
    refine ae.nil ?_
    exact Fin.bO [0,1,5,6] [102] (out_5,IntKind.i64.wrap (i_3 + 1)) (Option.some.inj h4) rfl
  ·refine ab.exit (Fin.ax ?_)
   obtain rfl:=hy5 _ (Option.some.inj h4).symm
   refine Fin.ax (Fin.aQ ?_)
   exact Fin.join [5] [102] out_2 rfl rfl
 ·rintro out_1 hv
  subst v1
  refine ab.seq (ab.aa ?_)
  refine Oc om (Oc oa ?_)
  refine ae.ai ⟨[(4,.b (.row 102))],[(102,_)]⟩ rfl (ab.ret ?_)
  obtain rfl:=Option.some.inj h
  refine Fin.ag ⟨[(4,_)],[(102,_)]⟩ rfl (Fin.ez 102 kr0 [.row 102] (.inl rfl) rfl (.cons (.tmp rfl) .nil) rfl rfl rfl rfl ⟨rfl,rfl⟩)
def dv (F:Nat) (s0:List bB) (id0:Int):Option ((List bB) × Int) :=
 (bz F s0 id0).bind fun x_1=>if (decide (x_1 < 0)) = true then (some ([],5)) else ((bZ F s0 id0).bind fun x_2=>some (x_2,0))
theorem iY (kr0:Nat) {F:Nat} {s0:List bB} {id0:Int} {r:(List bB) × Int} (h:dv F s0 id0 = some r):av Tryz.prog [] 62 [] [.one (.sl 7 (s0.map aj)),.one (.i id0)] (Is [(kr0,.row 105 7 (r.1.map aj))] (.dF [.row kr0,.one (.i r.2)])):=by
 unfold dv at h
 refine av.intro 13 Tryz.func62 Tryz.ntmps62 rfl (by simp) fun E=>?_
 show ab _ E ⟨13,[],[],[]⟩ _ ⟨[(0,.b (.one (.sl 7 (s0.map aj)))),(1,I id0)],[]⟩ _
 refine ab.seq (ab.aa ?_)
 refine Oc oa (Oc oa ?_)
 refine ae.ai ⟨[(0,.b (.one (.sl 7 (s0.map aj)))),(1,I id0)],[]⟩ rfl (ab.seq (ab.seq (ab.aa ?_)))
 refine Oc om (Oc om ?_)
 obtain ⟨x_1,e1,h⟩:=aL h
 refine Oc (ak (ef e1) s6 rfl rfl) (Oc (bb rfl rfl) ?_)
 refine ae.ai ⟨[(0,_),(1,_),(9,B (decide (x_1 < 0)))],[]⟩ rfl (ab.ite h rfl (fun _ h=>?_) (fun _ h=>?_))
 ·refine ab.seq (ab.aa ?_)
  refine Oc oa (Oc oa ?_)
  refine ae.ai ⟨[(4,.b (.one (.nil))),(5,I 5)],[]⟩ rfl (ab.ret (Fin.aw ?_))
  obtain rfl:=Option.some.inj h
  refine Fin.ag ⟨[(4,_),(5,_)],[]⟩ rfl (Fin.dO 4 101 7 105 rfl (by decide) rfl (Fin.ez 101 kr0 [.row 101,.one (.i 5)] (.inl rfl) rfl (.cons (.tmp rfl) (.cons (.tmp rfl) .nil)) rfl rfl rfl rfl ⟨rfl,rfl⟩))
 ·refine ab.skip (Fin.ag ⟨[(0,_),(1,_)],[]⟩ rfl (Fin.then (ab.seq (ab.aa ?_))))
  refine Oc om (Oc om ?_)
  obtain ⟨x_2,e2,h⟩:=aL h
  refine Oc (cC (fj 102 e2) vx rfl trivial rfl rfl) (Oc oa (Oc oa ?_))
  refine ae.ai ⟨[(4,.b (.row 102)),(5,I 0)],[(102,.row 105 7 (x_2.map aj))]⟩ rfl (ab.ret ?_)
  obtain rfl:=Option.some.inj h
  refine Fin.ag ⟨[(4,_),(5,_)],[(102,_)]⟩ rfl (Fin.ez 102 kr0 [.row 102,.one (.i 0)] (.inl rfl) rfl (.cons (.tmp rfl) (.cons (.tmp rfl) .nil)) rfl rfl rfl rfl ⟨rfl,rfl⟩)
def dN (F:Nat) (s0:List bB) (id0:Int) (b0:cg):Option lT :=
 (bT F b0).bind fun x_1=>if (!x_1) = true then (some (⟨[],[],[],1⟩:lT)) else ((bz F s0 id0).bind fun x_2=>if (decide (x_2 < 0)) = true then (some (⟨[],[],[],5⟩:lT)) else ((bZ F s0 id0).bind fun x_3=>(cJ F x_3 (⟨id0,b0⟩:bB)).bind fun x_4=>Option.bind (iter F (sF fun Gained_7 Lost_8 i_9=>if (decide (i_9 < (x_3.length:Int))) = true then (Option.bind ((a8 x_3 i_9).bind fun x_14=>(a8 s0 x_2).bind fun x_15=>(bH F x_14.B x_15.B).bind fun x_16=>(a8 x_3 i_9).bind fun x_17=>(bH F x_17.B b0).bind fun x_18=>Option.bind (if (x_18 && (!x_16)) = true then ((a8 x_3 i_9).bind fun x_20=>(dE Gained_7 [x_20.Id]).bind fun x_21=>some x_21) else (some Gained_7)) (fun Gained_19=>if (x_16 && (!x_18)) = true then ((a8 x_3 i_9).bind fun x_22=>(dE Lost_8 [x_22.Id]).bind fun x_23=>some (Gained_19,x_23)) else (some (Gained_19,Lost_8)))) (dd fun Gained_12 Lost_13=>some (.inl (Gained_12,Lost_13,IntKind.i64.wrap (i_9 + 1))))) else (some (.inr (Gained_7,Lost_8)))) ([],[],0)) (dd fun Gained_5 Lost_6=>some (⟨x_4,Gained_5,Lost_6,0⟩:lT))))
theorem jT {F:Nat} {s0:List bB} {id0:Int} {b0:cg} {r:lT} (h:dN F s0 id0 b0 = some r):av Tryz.prog [] 63 [] [.one (.sl 7 (s0.map aj)),.one (.i id0),.agg (ao b0)] (Is [] (.b (.agg (oY r)))):=by
 unfold dN at h
 refine av.intro 89 Tryz.func63 Tryz.ntmps63 rfl (by simp) fun E=>?_
 show ab _ E ⟨89,[],[],[]⟩ _ ⟨[(0,.b (.one (.sl 7 (s0.map aj)))),(1,I id0),(2,.b (.agg (ao b0)))],[]⟩ _
 refine ab.seq (ab.aa ?_)
 refine Oc (bq (k:=101) rfl rfl) (Oc (aT (k:=102) mV rfl) ?_)
 refine ae.ai ⟨[(0,.b (.one (.sl 7 (s0.map aj)))),(1,I id0),(5,Pt 101 0),(6,Pt 102 0)],[(101,.box 25 (ao b0)),(102,.box 70 [.nil,.nil,.nil,.i 0])]⟩ rfl (ab.seq (ab.aa ?_))
 refine Oc (lp aC) ?_
 obtain ⟨x_1,e1,h⟩:=aL h
 refine Oc (ak (dQ e1) tf rfl rfl) (Oc oa ?_)
 refine ae.ai ⟨[(0,_),(1,_),(5,_),(6,_),(7,B x_1)],[(101,_),(102,_)]⟩ rfl (ab.seq (ab.seq (ab.aa ?_)))
 refine Oc om (Oc (di rfl) ?_)
 refine ae.ai ⟨[(0,_),(1,_),(5,_),(6,_),(17,B (!x_1))],[(101,_),(102,_)]⟩ rfl (ab.ite h rfl (fun _ h=>?_) (fun _ h=>?_))
 ·refine ab.seq (ab.aa ?_)
  refine Oc (bA.nilA (.sl (size:=7) (by decide) (.same (.same (.same (.nil))))) (bV jI rfl rfl)) (Oc (aB ey rfl rfl rfl rfl (Nat.le_of_ble_eq_true rfl) rfl) ?_)
  refine ae.ai ⟨[(6,_)],[(102,.box 70 [.sl 7 ([].map aj),.nil,.nil,.i 1])]⟩ rfl (ab.ret (Fin.aw ?_))
  obtain rfl:=Option.some.inj h
  refine Fin.ag ⟨[(6,_)],[(102,_)]⟩ rfl (Fin.gi 102 1 1 rfl rfl (by decide) (Fin.gi 102 2 1 rfl rfl (by decide) (Fin.aA [.agg [.sl 7 ([].map aj),.sl 1 ([].map eI),.sl 1 ([].map eI),.i 1]] (.inl rfl) rfl (.cons (.agg ey rfl rfl rfl rfl) .nil) ⟨rfl,rfl⟩)))
 ·refine ab.skip (Fin.ag ⟨[(0,_),(1,_),(5,_),(6,_)],[(101,_),(102,_)]⟩ rfl (Fin.then (ab.seq (ab.aa ?_))))
  refine Oc om (Oc om ?_)
  obtain ⟨x_2,e2,h⟩:=aL h
  refine Oc (ak (ef e2) s6 rfl rfl) (Oc oa ?_)
  refine ae.ai ⟨[(0,_),(1,_),(5,_),(6,_),(8,I x_2)],[(101,_),(102,_)]⟩ rfl (ab.seq (ab.seq (ab.aa ?_)))
  refine Oc om (Oc (bb rfl rfl) ?_)
  refine ae.ai ⟨[(0,_),(1,_),(5,_),(6,_),(8,_),(23,B (decide (x_2 < 0)))],[(101,_),(102,_)]⟩ rfl (ab.ite h rfl (fun _ h=>?_) (fun _ h=>?_))
  ·refine ab.seq (ab.aa ?_)
   refine Oc (bA.nilA (.sl (size:=7) (by decide) (.same (.same (.same (.nil))))) (bV jI rfl rfl)) (Oc (aB ey rfl rfl rfl rfl (Nat.le_of_ble_eq_true rfl) rfl) ?_)
   refine ae.ai ⟨[(6,_)],[(102,.box 70 [.sl 7 ([].map aj),.nil,.nil,.i 5])]⟩ rfl (ab.ret (Fin.aw ?_))
   obtain rfl:=Option.some.inj h
   refine Fin.ag ⟨[(6,_)],[(102,_)]⟩ rfl (Fin.gi 102 1 1 rfl rfl (by decide) (Fin.gi 102 2 1 rfl rfl (by decide) (Fin.aA [.agg [.sl 7 ([].map aj),.sl 1 ([].map eI),.sl 1 ([].map eI),.i 5]] (.inl rfl) rfl (.cons (.agg ey rfl rfl rfl rfl) .nil) ⟨rfl,rfl⟩)))
  ·refine ab.skip (Fin.ag ⟨[(0,_),(1,_),(5,_),(6,_),(8,_)],[(101,_),(102,_)]⟩ rfl (Fin.then (ab.seq (ab.aa ?_))))
   refine Oc om (Oc om ?_)
   obtain ⟨x_3,e3,h⟩:=aL h
   refine Oc (cC (fj 103 e3) vx rfl trivial rfl rfl) (Oc oa ?_)
   refine ae.ai ⟨[(0,_),(1,_),(5,_),(6,_),(8,_),(9,.b (.row 103))],[(101,_),(102,_),(103,.row 105 7 (x_3.map aj))]⟩ rfl (ab.seq (ab.aa ?_))
   refine Oc om (Oc om (Oc (lp aC) (Oc (bV pA rfl rfl) ?_)))
   refine ae.cO 103 rfl (ae.ag ⟨[(0,.b (.one (.sl 7 (s0.map aj)))),(5,Pt 101 0),(6,Pt 102 0),(8,I x_2),(9,.b (.one (.sl 7 (x_3.map aj)))),(28,.b (.one (.sl 7 (x_3.map aj)))),(31,.b (.agg (.i id0 :: (ao b0))))],[(101,.box 25 (ao b0)),(102,.box 70 [.nil,.nil,.nil,.i 0])]⟩ rfl ?_)
   obtain ⟨x_4,e4,h⟩:=aL h
   refine Oc (cC (fY 104 e4) vy rfl trivial rfl rfl) (ae.cO 104 rfl (Oc (bV jI rfl rfl) (Oc (aT (k:=105) mV rfl) (Oc (aB ey rfl rfl rfl rfl (Nat.le_of_ble_eq_true rfl) rfl) ?_))))
   refine ae.ai ⟨[(0,.b (.one (.sl 7 (s0.map aj)))),(5,Pt 101 0),(6,Pt 102 0),(8,I x_2),(9,.b (.one (.sl 7 (x_3.map aj)))),(10,Pt 105 0)],[(101,.box 25 (ao b0)),(102,.box 70 [.nil,.nil,.nil,.i 0]),(105,.box 70 [.sl 7 (x_4.map aj),.nil,.nil,.i 0])]⟩ rfl ?_
   obtain ⟨v5,h6,h⟩:=aL h
   refine ab.c6 (v:=v5) (dd fun (Gained_5:List Int) (Lost_6:List Int)=>⟨[(6,Pt 102 0),(10,Pt 105 0)],[(102,.box 70 [.nil,.nil,.nil,.i 0]),(105,.bM 70 [.one (.sl 7 (x_4.map aj)),.row 107,.row 109,.one (.i 0)]),(107,.row 3 1 (Gained_5.map eI)),(109,.row 3 1 (Lost_6.map eI))]⟩) (fun z=>z) ?_ ?_
   ·refine ab.seq (ab.aa ?_)
    refine Oc oa (ae.ai ⟨[(0,.b (.one (.sl 7 (s0.map aj)))),(5,Pt 101 0),(6,Pt 102 0),(8,I x_2),(9,.b (.one (.sl 7 (x_3.map aj)))),(10,Pt 105 0),(11,I 0)],[(101,.box 25 (ao b0)),(102,.box 70 [.nil,.nil,.nil,.i 0]),(105,.box 70 [.sl 7 (x_4.map aj),.nil,.nil,.i 0])]⟩ rfl (ab.block (ab.uY 105 rfl (ab.gm 105 1 107 1 3 rfl rfl (by decide) (by decide) rfl (ab.gm 105 2 109 1 3 rfl rfl (by decide) (by decide) rfl ?_)))))
    refine ab.cN h6 (sF fun (Gained_7:List Int) (Lost_8:List Int) (i_9:Int)=>⟨[(0,.b (.one (.sl 7 (s0.map aj)))),(5,Pt 101 0),(6,Pt 102 0),(8,I x_2),(9,.b (.one (.sl 7 (x_3.map aj)))),(10,Pt 105 0),(11,I i_9)],[(101,.box 25 (ao b0)),(102,.box 70 [.nil,.nil,.nil,.i 0]),(105,.bM 70 [.one (.sl 7 (x_4.map aj)),.row 107,.row 109,.one (.i 0)]),(107,.row 3 1 (Gained_7.map eI)),(109,.row 3 1 (Lost_8.map eI))]⟩) [0,5,6,8,9,10,11] [101,102,105,107,109] rfl ?_
    rintro ⟨Gained_7,Lost_8,i_9⟩ o7 h8 hy9
    refine ab.seq (ab.seq (ab.aa ?_))
    refine Oc om (Oc om (Oc (aY mL rfl (List.length_map _)) (Oc (bb rfl rfl) ?_)))
    refine ae.ai ⟨[(0,_),(5,_),(6,_),(8,_),(9,_),(10,_),(11,_),(37,B (decide (i_9 < (x_3.length:Int))))],[(101,_),(102,_),(105,_),(107,_),(109,_)]⟩ rfl (ab.ite h8 rfl (fun _ h8=>?_) (fun _ h8=>?_))
    ·refine ab.skip (Fin.ag ⟨[(0,_),(5,_),(6,_),(8,_),(9,_),(10,_),(11,_)],[(101,_),(102,_),(105,_),(107,_),(109,_)]⟩ rfl (Fin.then ?_))
     obtain ⟨v10,h11,h8⟩:=aL h8
     refine ab.c6 (v:=v10) (dd fun (Gained_12:List Int) (Lost_13:List Int)=>⟨[(0,.b (.one (.sl 7 (s0.map aj)))),(5,Pt 101 0),(6,Pt 102 0),(8,I x_2),(9,.b (.one (.sl 7 (x_3.map aj)))),(10,Pt 105 0),(11,I i_9)],[(101,.box 25 (ao b0)),(102,.box 70 [.nil,.nil,.nil,.i 0]),(105,.bM 70 [.one (.sl 7 (x_4.map aj)),.row 107,.row 109,.one (.i 0)]),(107,.row 3 1 (Gained_12.map eI)),(109,.row 3 1 (Lost_13.map eI))]⟩) (fun z=>z) ?_ ?_
     ·refine ab.block (ab.seq ?_)
      refine ab.ag ⟨[(0,_),(5,_),(6,_),(8,_),(9,_),(10,_),(11,_)],[(101,_),(102,_),(105,_),(107,_),(109,_)]⟩ rfl ?_
      obtain ⟨x_14,e12,h11⟩:=aL h11
      obtain ⟨x_15,e13,h11⟩:=aL h11
      obtain ⟨x_16,e14,h11⟩:=aL h11
      refine ab.bE mixed 12 [.b (.one (.sl 7 (x_3.map aj))),I i_9,.b (.aO (aj x_14)),.b (.aO (ao x_14.B)),.b (.agg (ao x_14.B)),.b (.one (.sl 7 (s0.map aj))),I x_2,.b (.aO (aj x_15)),.b (.aO (ao x_15.B)),.b (.agg (ao x_15.B)),B x_16,B x_16] [0,5,6,8,9,10,11,12] [101,102,105,107,109] (s':=⟨[(0,_),(5,_),(6,_),(8,_),(9,_),(10,_),(11,_),(12,B x_16)],[(101,_),(102,_),(105,_),(107,_),(109,_)]⟩) rfl ⟨fun _=>.p om,fun _=>.p om,fun _=>.p (aN cY (aX e12) (bn (e:=aj) e12) rfl rfl),fun _=>by exact .p (aD fK rfl rfl),fun _=>.p (bj aC rfl rfl rfl),fun _=>.p om,fun _=>.p om,fun _=>.p (aN cY (aX e13) (bn (e:=aj) e13) rfl rfl),fun _=>by exact .p (aD fK rfl rfl),fun _=>.p (bj aC rfl rfl rfl),fun _=>.p (ak (dg e14) qO rfl rfl),fun _=>.p oa,trivial⟩ rfl rfl (ab.seq (ab.ag ⟨[(0,_),(5,_),(6,_),(8,_),(9,_),(10,_),(11,_),(12,_)],[(101,_),(102,_),(105,_),(107,_),(109,_)]⟩ rfl ?_))
      obtain ⟨x_17,e15,h11⟩:=aL h11
      obtain ⟨x_18,e16,h11⟩:=aL h11
      refine ab.bE mixed 8 [.b (.one (.sl 7 (x_3.map aj))),I i_9,.b (.aO (aj x_17)),.b (.aO (ao x_17.B)),.b (.agg (ao x_17.B)),.b (.agg (ao b0)),B x_18,B x_18] [0,5,6,8,9,10,11,12,13] [101,102,105,107,109] (s':=⟨[(0,_),(5,_),(6,_),(8,_),(9,_),(10,_),(11,_),(12,_),(13,B x_18)],[(101,_),(102,_),(105,_),(107,_),(109,_)]⟩) rfl ⟨fun _=>.p om,fun _=>.p om,fun _=>.p (aN cY (aX e15) (bn (e:=aj) e15) rfl rfl),fun _=>by exact .p (aD fK rfl rfl),fun _=>.p (bj aC rfl rfl rfl),fun _=>.p (lp aC),fun _=>.p (ak (dg e16) qO rfl rfl),fun _=>.p oa,trivial⟩ rfl rfl ?_
      obtain ⟨v17,h18,h11⟩:=aL h11
      refine ab.c6 (v:=v17) (fun (Gained_19:List Int)=>⟨[(0,.b (.one (.sl 7 (s0.map aj)))),(5,Pt 101 0),(6,Pt 102 0),(8,I x_2),(9,.b (.one (.sl 7 (x_3.map aj)))),(10,Pt 105 0),(11,I i_9),(12,B x_16),(13,B x_18)],[(101,.box 25 (ao b0)),(102,.box 70 [.nil,.nil,.nil,.i 0]),(105,.bM 70 [.one (.sl 7 (x_4.map aj)),.row 107,.row 109,.one (.i 0)]),(107,.row 3 1 (Gained_19.map eI)),(109,.row 3 1 (Lost_8.map eI))]⟩) (fun z=>z) ?_ ?_
      ·refine ab.seq (ab.aa ?_)
       refine Oc om (Oc om ?_)
       refine eZ x_18 [] (fun g19=>trivial) (fun g19=>om) (eZ x_18 [60] (fun g20=>by exact ⟨g20,trivial⟩) (fun g20=>di rfl) (Oc (aJ (fun e=>e) rfl rfl rfl rfl) (ae.ai ⟨[(0,_),(5,_),(6,_),(8,_),(9,_),(10,_),(11,_),(12,_),(13,_),(62,B (x_18 && (!x_16)))],[(101,_),(102,_),(105,_),(107,_),(109,_)]⟩ rfl (ab.ite h18 rfl (fun _ h18=>?_) (fun _ h18=>?_)))))
       ·refine ab.ag ⟨[(0,_),(5,_),(6,_),(8,_),(9,_),(10,_),(11,_),(12,_),(13,_)],[(101,_),(102,_),(105,_),(107,_),(109,_)]⟩ rfl ?_
        obtain ⟨x_20,e21,h18⟩:=aL h18
        obtain ⟨x_21,e22,h18⟩:=aL h18
        refine ab.jD mixed 8 [Pt 105 1,.b (.row 107),.b (.one (.sl 7 (x_3.map aj))),I i_9,.b (.aO (aj x_20)),.b (.aO (aj x_20)),I x_20.Id,.b (.one (.sl 1 ([x_20.Id].map eI)))] [0,5,6,8,9,10,11,12,13] [101,102,105,107,109] (s':=⟨[(0,.b (.one (.sl 7 (s0.map aj)))),(5,Pt 101 0),(6,Pt 102 0),(8,I x_2),(9,.b (.one (.sl 7 (x_3.map aj)))),(10,Pt 105 0),(11,I i_9),(12,B x_16),(13,B x_18)],[(101,.box 25 (ao b0)),(102,.box 70 [.nil,.nil,.nil,.i 0]),(105,.bM 70 [.one (.sl 7 (x_4.map aj)),.row 107,.row 109,.one (.i 0)]),(107,.row 3 1 (x_21.map eI)),(109,.row 3 1 (Lost_8.map eI))]⟩) rfl ⟨fun _=>.p (aq qh rfl rfl),fun _=>.p (eE gk rfl rfl rfl),fun _=>.p om,fun _=>.p om,fun _=>.p (aN cY (aX e21) (bn (e:=aj) e21) rfl rfl),fun _=>by exact .p (aD dm rfl rfl),fun _=>.p (az aM rfl rfl),fun _=>.p (cR (es:=[x_20.Id].map eI) bN rfl rfl (bP fun _=>rfl) rfl (by decide) (by decide)),trivial⟩ ⟨_,by exact .forget 105 1 rfl (.plain rfl (gC bN (gh e22) (gg e22) rfl rfl rfl (du e22) rfl)),⟨_,by exact .p (aq qh rfl rfl),⟨_,by exact .p (gX gk rfl rfl rfl rfl (Nat.le_of_ble_eq_true rfl) rfl),rfl⟩⟩⟩ rfl ?_
        exact Fin.join [0,5,6,8,9,10,11,12,13] [101,102,105,107,109] x_21 (Option.some.inj h18) rfl
       ·refine ab.skip ?_
        exact Fin.join [0,5,6,8,9,10,11,12,13] [101,102,105,107,109] Gained_7 (Option.some.inj h18) rfl
      ·rintro Gained_19 hv
       subst v17
       refine ab.seq (ab.aa ?_)
       refine Oc om (Oc om ?_)
       refine eZ x_16 [] (fun g23=>trivial) (fun g23=>om) (eZ x_16 [75] (fun g24=>by exact ⟨g24,trivial⟩) (fun g24=>di rfl) (Oc (aJ (fun e=>e) rfl rfl rfl rfl) (ae.ai ⟨[(0,_),(5,_),(6,_),(8,_),(9,_),(10,_),(11,_),(77,B (x_16 && (!x_18)))],[(101,_),(102,_),(105,_),(107,_),(109,_)]⟩ rfl (ab.ite h11 rfl (fun _ h11=>?_) (fun _ h11=>?_)))))
       ·refine ab.ag ⟨[(0,_),(5,_),(6,_),(8,_),(9,_),(10,_),(11,_)],[(101,_),(102,_),(105,_),(107,_),(109,_)]⟩ rfl ?_
        obtain ⟨x_22,e25,h11⟩:=aL h11
        obtain ⟨x_23,e26,h11⟩:=aL h11
        refine ab.jD mixed 8 [Pt 105 2,.b (.row 109),.b (.one (.sl 7 (x_3.map aj))),I i_9,.b (.aO (aj x_22)),.b (.aO (aj x_22)),I x_22.Id,.b (.one (.sl 1 ([x_22.Id].map eI)))] [0,5,6,8,9,10,11] [101,102,105,107,109] (s':=⟨[(0,.b (.one (.sl 7 (s0.map aj)))),(5,Pt 101 0),(6,Pt 102 0),(8,I x_2),(9,.b (.one (.sl 7 (x_3.map aj)))),(10,Pt 105 0),(11,I i_9)],[(101,.box 25 (ao b0)),(102,.box 70 [.nil,.nil,.nil,.i 0]),(105,.bM 70 [.one (.sl 7 (x_4.map aj)),.row 107,.row 109,.one (.i 0)]),(107,.row 3 1 (Gained_19.map eI)),(109,.row 3 1 (x_23.map eI))]⟩) rfl ⟨fun _=>.p (aq qg rfl rfl),fun _=>.p (eE gk rfl rfl rfl),fun _=>.p om,fun _=>.p om,fun _=>.p (aN cY (aX e25) (bn (e:=aj) e25) rfl rfl),fun _=>by exact .p (aD dm rfl rfl),fun _=>.p (az aM rfl rfl),fun _=>.p (cR (es:=[x_22.Id].map eI) bN rfl rfl (bP fun _=>rfl) rfl (by decide) (by decide)),trivial⟩ ⟨_,by exact .forget 105 2 rfl (.plain rfl (gC bN (gh e26) (gg e26) rfl rfl rfl (du e26) rfl)),⟨_,by exact .p (aq qg rfl rfl),⟨_,by exact .p (gX gk rfl rfl rfl rfl (Nat.le_of_ble_eq_true rfl) rfl),rfl⟩⟩⟩ rfl (Fin.au ?_)
        exact Fin.join [0,5,6,8,9,10,11] [101,102,105,107,109] (Gained_19,x_23) (Option.some.inj h11) rfl
       ·refine ab.skip (Fin.au ?_)
        exact Fin.join [0,5,6,8,9,10,11] [101,102,105,107,109] (Gained_19,Lost_8) (Option.some.inj h11) rfl
     ·rintro ⟨Gained_12,Lost_13⟩ hv
      subst v10
      refine ab.aa (Oc om (Oc (br rfl rfl) (Oc oa ?_)))
      refine ae.nil ?_
      exact Fin.bO [0,5,6,8,9,10,11] [101,102,105,107,109] (Gained_12,Lost_13,IntKind.i64.wrap (i_9 + 1)) (Option.some.inj h8) rfl
    ·refine ab.exit (Fin.ax ?_)
     obtain rfl:=hy9 _ (Option.some.inj h8).symm
     refine Fin.ax (Fin.aQ ?_)
     exact Fin.join [6,10] [102,105,107,109] (Gained_7,Lost_8) rfl rfl
   ·rintro ⟨Gained_5,Lost_6⟩ hv
    subst v5
    refine ab.seq (ab.aa ?_)
    refine ae.cO 107 rfl (ae.cO 109 rfl (Oc (tw ey rfl rfl rfl rfl) (Oc (aB ey rfl rfl rfl rfl (Nat.le_of_ble_eq_true rfl) rfl) ?_)))
    refine ae.ai ⟨[(6,Pt 102 0)],[(102,.box 70 [.sl 7 (x_4.map aj),.sl 1 (Gained_5.map eI),.sl 1 (Lost_6.map eI),.i 0])]⟩ rfl (ab.ret ?_)
    obtain rfl:=Option.some.inj h
    refine Fin.ag ⟨[(6,_)],[(102,_)]⟩ rfl (Fin.aA [.agg [.sl 7 (x_4.map aj),.sl 1 (Gained_5.map eI),.sl 1 (Lost_6.map eI),.i 0]] (.inl rfl) rfl (.cons (.agg ey rfl rfl rfl rfl) .nil) ⟨rfl,rfl⟩)
def dB (F:Nat) (s0:List bB) (x0:kE):Option lT :=
 if (decide (x0.Kind = 0)) = true then (Option.bind (dR F s0 x0.Id x0.B) (dd fun x_1 x_2=>some (⟨x_1,[],[],x_2⟩:lT))) else (if (decide (x0.Kind = 1)) = true then (Option.bind (dv F s0 x0.Id) (dd fun x_3 x_4=>some (⟨x_3,[],[],x_4⟩:lT))) else ((dN F s0 x0.Id x0.B).bind fun x_5=>some x_5))
theorem kN {F:Nat} {s0:List bB} {x0:kE} {r:lT} (h:dB F s0 x0 = some r):av Tryz.prog [] 34 [] [.one (.sl 7 (s0.map aj)),.agg (bd x0)] (Is [] (.b (.agg (oY r)))):=by
 unfold dB at h
 refine av.intro 43 Tryz.func34 Tryz.ntmps34 rfl (by simp) fun E=>?_
 show ab _ E ⟨43,[],[],[]⟩ _ ⟨[(0,.b (.one (.sl 7 (s0.map aj)))),(1,.b (.agg (bd x0)))],[]⟩ _
 refine ab.seq (ab.aa ?_)
 refine Oc (bq (k:=101) rfl rfl) (Oc (aT (k:=102) mV rfl) ?_)
 refine ae.ai ⟨[(0,.b (.one (.sl 7 (s0.map aj)))),(3,Pt 101 0),(4,Pt 102 0)],[(101,.box 55 (bd x0)),(102,.box 70 [.nil,.nil,.nil,.i 0])]⟩ rfl (ab.seq (ab.seq (ab.aa ?_)))
 refine Oc (aq nz rfl rfl) (Oc (aF aM rfl rfl rfl) (Oc (c7 rfl rfl) ?_))
 refine ae.ai ⟨[(0,_),(3,_),(4,_),(11,B (decide (x0.Kind = 0)))],[(101,_),(102,_)]⟩ rfl (ab.ite h rfl (fun _ h=>?_) (fun _ h=>?_))
 ·refine ab.seq (ab.aa ?_)
  refine Oc om (Oc (aq iB rfl rfl) (Oc (aF aM rfl rfl rfl) (Oc (aq lF rfl rfl) (Oc (lp aC) ?_))))
  refine ae.ag ⟨[(4,_),(13,.b (.one (.sl 7 (s0.map aj)))),(15,I x0.Id),(17,.b (.agg (ao x0.B)))],[(102,_)]⟩ rfl ?_
  obtain ⟨⟨x_1,x_2⟩,e1,h⟩:=aL h
  refine Oc (cC (kA 103 e1) goes61 rfl trivial rfl rfl) (Oc om (Oc (an rfl rfl) (Oc (an rfl rfl) (Oc oa (Oc oa ?_)))))
  refine ae.ai ⟨[(4,_),(5,.b (.row 103)),(6,I x_2)],[(102,_),(103,.row 105 7 (x_1.map aj))]⟩ rfl (ab.seq (ab.aa ?_))
  refine Oc om (Oc om ?_)
  refine ae.cO 103 rfl (Oc (bV jI rfl rfl) (Oc (aB ey rfl rfl rfl rfl (Nat.le_of_ble_eq_true rfl) rfl) ?_))
  refine ae.ai ⟨[(4,Pt 102 0)],[(102,.box 70 [.sl 7 (x_1.map aj),.nil,.nil,.i x_2])]⟩ rfl (ab.ret (Fin.aw ?_))
  obtain rfl:=Option.some.inj h
  refine Fin.ag ⟨[(4,_)],[(102,_)]⟩ rfl (Fin.gi 102 1 1 rfl rfl (by decide) (Fin.gi 102 2 1 rfl rfl (by decide) (Fin.aA [.agg [.sl 7 (x_1.map aj),.sl 1 ([].map eI),.sl 1 ([].map eI),.i x_2]] (.inl rfl) rfl (.cons (.agg ey rfl rfl rfl rfl) .nil) ⟨rfl,rfl⟩)))
 ·refine ab.skip (Fin.ag ⟨[(0,_),(3,_),(4,_)],[(101,_),(102,_)]⟩ rfl (Fin.then (ab.seq (ab.seq (ab.aa ?_)))))
  refine Oc (aq nz rfl rfl) (Oc (aF aM rfl rfl rfl) (Oc (c7 rfl rfl) ?_))
  refine ae.ai ⟨[(0,_),(3,_),(4,_),(26,B (decide (x0.Kind = 1)))],[(101,_),(102,_)]⟩ rfl (ab.ite h rfl (fun _ h=>?_) (fun _ h=>?_))
  ·refine ab.seq (ab.aa ?_)
   refine Oc om (Oc (aq iB rfl rfl) (Oc (aF aM rfl rfl rfl) ?_))
   obtain ⟨⟨x_3,x_4⟩,e2,h⟩:=aL h
   refine Oc (cC (iY 104 e2) goes62 rfl trivial rfl rfl) (Oc om ?_)
   refine ae.ag ⟨[(4,_),(27,.dF [.row 104,.one (.i x_4)])],[(102,_),(104,.row 105 7 (x_3.map aj))]⟩ rfl (Oc (an rfl rfl) (Oc (an rfl rfl) (Oc oa (Oc oa ?_))))
   refine ae.ai ⟨[(4,_),(7,.b (.row 104)),(8,I x_4)],[(102,_),(104,_)]⟩ rfl (ab.seq (ab.aa ?_))
   refine Oc om (Oc om ?_)
   refine ae.cO 104 rfl (Oc (bV jI rfl rfl) (Oc (aB ey rfl rfl rfl rfl (Nat.le_of_ble_eq_true rfl) rfl) ?_))
   refine ae.ai ⟨[(4,Pt 102 0)],[(102,.box 70 [.sl 7 (x_3.map aj),.nil,.nil,.i x_4])]⟩ rfl (ab.ret (Fin.aw ?_))
   obtain rfl:=Option.some.inj h
   refine Fin.ag ⟨[(4,_)],[(102,_)]⟩ rfl (Fin.gi 102 1 1 rfl rfl (by decide) (Fin.gi 102 2 1 rfl rfl (by decide) (Fin.aA [.agg [.sl 7 (x_3.map aj),.sl 1 ([].map eI),.sl 1 ([].map eI),.i x_4]] (.inl rfl) rfl (.cons (.agg ey rfl rfl rfl rfl) .nil) ⟨rfl,rfl⟩)))
  ·refine ab.skip (Fin.ag ⟨[(0,_),(3,_),(4,_)],[(101,_),(102,_)]⟩ rfl (Fin.then (ab.seq (ab.aa ?_))))
   refine Oc om (Oc (aq iB rfl rfl) (Oc (aF aM rfl rfl rfl) (Oc (aq lF rfl rfl) (Oc (lp aC) ?_))))
   obtain ⟨x_5,e3,h⟩:=aL h
   refine Oc (ak (jT e3) goes63 rfl rfl) (Oc (aB ey rfl rfl rfl rfl (Nat.le_of_ble_eq_true rfl) rfl) ?_)
   refine ae.ai ⟨[(4,_)],[(102,.box 70 (oY x_5))]⟩ rfl (ab.ret ?_)
   obtain rfl:=Option.some.inj h
   refine Fin.ag ⟨[(4,_)],[(102,_)]⟩ rfl (Fin.aA [.agg (oY x_5)] (.inl rfl) rfl (.cons (.agg ey rfl rfl rfl rfl) .nil) ⟨rfl,rfl⟩)
def dI (F:Nat) (s0:b4) (id0:Int):Option (cg × Bool) :=
 Option.bind (cE F s0 id0) (dd fun x_1 x_2=>some (x_1.b,x_2))
theorem iU {F:Nat} {s0:b4} {id0:Int} {r:cg × Bool} (h:dI F s0 id0 = some r):av Tryz.prog [] 36 [] [.agg (ar s0),.one (.i id0)] (Is [] (.dF [.agg (ao r.1),.one (.bool r.2)])):=by
 unfold dI at h
 refine av.intro 17 Tryz.func36 Tryz.ntmps36 rfl (by simp) fun E=>?_
 show ab _ E ⟨17,[],[],[]⟩ _ ⟨[(0,.b (.agg (ar s0))),(1,I id0)],[]⟩ _
 refine ab.seq (ab.aa ?_)
 refine Oc (bq (k:=101) rfl rfl) (Oc (aT (k:=102) fa rfl) (Oc oa ?_))
 refine ae.ai ⟨[(1,I id0),(2,Pt 101 0),(4,Pt 102 0)],[(101,.box 49 (ar s0)),(102,.box 25 ((c3 .i64) A3.zero ++ ((c3 .i64) A3.zero)))]⟩ rfl (ab.seq (ab.aa ?_))
 refine Oc (lp aH) (Oc om ?_)
 obtain ⟨⟨x_1,x_2⟩,e1,h⟩:=aL h
 refine Oc (ak (eG e1) qL rfl rfl) (Oc om (Oc (an rfl rfl) ?_))
 refine ae.ag ⟨[(4,_),(8,.dF [.agg (ay x_1),.one (.bool x_2)]),(12,.b (.agg (ay x_1)))],[(102,_)]⟩ rfl (Oc (an rfl rfl) (Oc (aT (k:=103) gq rfl) (Oc (aB bF rfl rfl rfl rfl (Nat.le_of_ble_eq_true rfl) rfl) (Oc oa ?_))))
 refine ae.ai ⟨[(4,_),(6,Pt 103 0),(7,B x_2)],[(102,_),(103,.box 87 (ay x_1))]⟩ rfl (ab.seq (ab.aa ?_))
 refine Oc (aq gB rfl rfl) (Oc (lp aC) (Oc om (Oc (aB aC rfl rfl rfl rfl (Nat.le_of_ble_eq_true rfl) rfl) (Oc oa ?_))))
 refine ae.ai ⟨[(4,_),(5,B x_2)],[(102,.box 25 (ao x_1.b))]⟩ rfl (ab.ret ?_)
 obtain rfl:=Option.some.inj h
 refine Fin.ag ⟨[(4,_),(5,_)],[(102,_)]⟩ rfl (Fin.aA [.agg (ao x_1.b),.one (.bool x_2)] (.inl rfl) rfl (.cons (.agg aC rfl rfl rfl rfl) (.cons (.tmp rfl) .nil)) ⟨rfl,rfl⟩)
def dr (F:Nat) (s0:List bB):Option (List Int) :=
 Option.bind (iter F (dd fun out_2 i_3=>if (decide (i_3 < (s0.length:Int))) = true then ((a8 s0 i_3).bind fun x_5=>(dE out_2 [x_5.Id]).bind fun x_6=>some (.inl (x_6,IntKind.i64.wrap (i_3 + 1)))) else (some (.inr out_2))) ([],0)) (fun out_1=>some out_1)
theorem kC (kr0:Nat) {F:Nat} {s0:List bB} {r:(List Int)} (h:dr F s0 = some r):av Tryz.prog [] 64 [] [.one (.sl 7 (s0.map aj))] (Is [(kr0,.row 3 1 (r.map eI))] (.b (.row kr0))):=by
 unfold dr at h
 refine av.intro 20 Tryz.func64 Tryz.ntmps64 rfl (by simp) fun E=>?_
 show ab _ E ⟨20,[],[],[]⟩ _ ⟨[(0,.b (.one (.sl 7 (s0.map aj))))],[]⟩ _
 refine ab.seq (ab.aa ?_)
 refine Oc oa (ae.ai ⟨[(0,.b (.one (.sl 7 (s0.map aj))))],[]⟩ rfl (ab.seq (ab.aa ?_)))
 refine Oc oa (ae.ai ⟨[(0,_),(3,.b (.one (.nil)))],[]⟩ rfl ?_)
 obtain ⟨v1,h2,h⟩:=aL h
 refine ab.c6 (v:=v1) (fun (out_1:List Int)=>⟨[(3,.b (.row 102))],[(102,.row 3 1 (out_1.map eI))]⟩) (fun z=>z) ?_ ?_
 ·refine ab.seq (ab.aa ?_)
  refine Oc oa (ae.ai ⟨[(0,_),(3,_),(4,I 0)],[]⟩ rfl (ab.block (ab.dO 3 102 1 3 rfl (by decide) rfl (ab.cN h2 (dd fun (out_2:List Int) (i_3:Int)=>⟨[(0,.b (.one (.sl 7 (s0.map aj)))),(3,.b (.row 102)),(4,I i_3)],[(102,.row 3 1 (out_2.map eI))]⟩) [0,3,4] [102] rfl ?_))))
  rintro ⟨out_2,i_3⟩ o3 h4 hy5
  refine ab.seq (ab.seq (ab.aa ?_))
  refine Oc om (Oc om (Oc (aY mL rfl (List.length_map _)) (Oc (bb rfl rfl) ?_)))
  refine ae.ai ⟨[(0,_),(3,_),(4,_),(8,B (decide (i_3 < (s0.length:Int))))],[(102,_)]⟩ rfl (ab.ite h4 rfl (fun _ h4=>?_) (fun _ h4=>?_))
  ·refine ab.skip (Fin.ag ⟨[(0,_),(3,_),(4,_)],[(102,_)]⟩ rfl (Fin.then (ab.seq (ab.block (ab.aa ?_)))))
   refine Oc om (Oc om (Oc om ?_))
   obtain ⟨x_5,e6,h4⟩:=aL h4
   refine Oc (aN cY (aX e6) (bn (e:=aj) e6) rfl rfl) (Oc (aD dm rfl rfl) (Oc (az aM rfl rfl) ?_))
   refine ae.ag ⟨[(0,_),(3,_),(4,_),(11,.b (.row 102)),(16,I x_5.Id)],[(102,_)]⟩ rfl (Oc (bt (k:=103) (es:=[x_5.Id].map eI) bN rfl rfl (bP fun _=>rfl) rfl (by decide) (by decide) rfl) ?_)
   obtain ⟨x_6,e7,h4⟩:=aL h4
   refine Oc (cW bN (gh e7) (gg e7) rfl rfl rfl rfl (du e7) rfl) (Oc oa ?_)
   refine ae.nil (Fin.au (Fin.ag ⟨[(0,_),(3,_),(4,_)],[(102,.row 3 1 (x_6.map eI))]⟩ rfl (Fin.then (ab.aa ?_))))
   refine Oc om (Oc (br rfl rfl) (Oc oa ?_))
   refine ae.nil ?_
   exact Fin.bO [0,3,4] [102] (x_6,IntKind.i64.wrap (i_3 + 1)) (Option.some.inj h4) rfl
  ·refine ab.exit (Fin.ax ?_)
   obtain rfl:=hy5 _ (Option.some.inj h4).symm
   refine Fin.ax (Fin.aQ ?_)
   exact Fin.join [3] [102] out_2 rfl rfl
 ·rintro out_1 hv
  subst v1
  refine ab.seq (ab.aa ?_)
  refine Oc om (Oc oa ?_)
  refine ae.ai ⟨[(2,.b (.row 102))],[(102,_)]⟩ rfl (ab.ret ?_)
  obtain rfl:=Option.some.inj h
  refine Fin.ag ⟨[(2,_)],[(102,_)]⟩ rfl (Fin.ez 102 kr0 [.row 102] (.inl rfl) rfl (.cons (.tmp rfl) .nil) rfl rfl rfl rfl ⟨rfl,rfl⟩)
def dc (F:Nat) (s0:List bB):Option (List A2) :=
 Option.bind (iter F (dd fun out_2 i_3=>if (decide (i_3 < (s0.length:Int))) = true then (Option.bind (Option.bind (iter F (dd fun out_6 k_7=>if (decide (k_7 < (s0.length:Int))) = true then (Option.bind ((a8 s0 i_3).bind fun x_10=>(a8 s0 k_7).bind fun x_11=>(bH F x_10.B x_11.B).bind fun x_12=>if x_12 = true then ((a8 s0 i_3).bind fun x_13=>(a8 s0 k_7).bind fun x_14=>(dE out_6 [(⟨x_13.Id,x_14.Id⟩:A2)]).bind fun x_15=>some x_15) else (some out_6)) (fun out_9=>some (.inl (out_9,IntKind.i64.wrap (k_7 + 1))))) else (some (.inr out_6))) (out_2,IntKind.i64.wrap (i_3 + 1))) (fun out_8=>some out_8)) (fun out_5=>some (.inl (out_5,IntKind.i64.wrap (i_3 + 1))))) else (some (.inr out_2))) ([],0)) (fun out_1=>some out_1)
theorem jU (kr0:Nat) {F:Nat} {s0:List bB} {r:(List A2)} (h:dc F s0 = some r):av Tryz.prog [] 65 [] [.one (.sl 7 (s0.map aj))] (Is [(kr0,.row 40 2 (r.map (eu .i64)))] (.b (.row kr0))):=by
 unfold dc at h
 refine av.intro 48 Tryz.func65 Tryz.ntmps65 rfl (by simp) fun E=>?_
 show ab _ E ⟨48,[],[],[]⟩ _ ⟨[(0,.b (.one (.sl 7 (s0.map aj))))],[]⟩ _
 refine ab.seq (ab.aa ?_)
 refine Oc oa (ae.ai ⟨[(0,.b (.one (.sl 7 (s0.map aj))))],[]⟩ rfl (ab.seq (ab.aa ?_)))
 refine Oc oa (ae.ai ⟨[(0,_),(3,.b (.one (.nil)))],[]⟩ rfl ?_)
 obtain ⟨v1,h2,h⟩:=aL h
 refine ab.c6 (v:=v1) (fun (out_1:List A2)=>⟨[(3,.b (.row 102))],[(102,.row 40 2 (out_1.map (eu .i64)))]⟩) (fun z=>z) ?_ ?_
 ·refine ab.seq (ab.aa ?_)
  refine Oc oa (ae.ai ⟨[(0,_),(3,_),(4,I 0)],[]⟩ rfl (ab.block (ab.dO 3 102 2 40 rfl (by decide) rfl (ab.cN h2 (dd fun (out_2:List A2) (i_3:Int)=>⟨[(0,.b (.one (.sl 7 (s0.map aj)))),(3,.b (.row 102)),(4,I i_3)],[(102,.row 40 2 (out_2.map (eu .i64)))]⟩) [0,3,4] [102] rfl ?_))))
  rintro ⟨out_2,i_3⟩ o3 h4 hy5
  refine ab.seq (ab.seq (ab.aa ?_))
  refine Oc om (Oc om (Oc (aY mL rfl (List.length_map _)) (Oc (bb rfl rfl) ?_)))
  refine ae.ai ⟨[(0,_),(3,_),(4,_),(10,B (decide (i_3 < (s0.length:Int))))],[(102,_)]⟩ rfl (ab.ite h4 rfl (fun _ h4=>?_) (fun _ h4=>?_))
  ·refine ab.skip (Fin.ag ⟨[(0,_),(3,_),(4,_)],[(102,_)]⟩ rfl (Fin.then ?_))
   obtain ⟨v6,h7,h4⟩:=aL h4
   refine ab.c6 (v:=v6) (fun (out_5:List A2)=>⟨[(0,.b (.one (.sl 7 (s0.map aj)))),(3,.b (.row 102)),(4,I i_3)],[(102,.row 40 2 (out_5.map (eu .i64)))]⟩) (fun z=>z) ?_ ?_
   ·refine ab.block (ab.seq (ab.aa ?_))
    refine Oc om (Oc (br rfl rfl) (Oc oa ?_))
    refine ae.ai ⟨[(0,_),(3,_),(4,_),(5,I (IntKind.i64.wrap (i_3 + 1)))],[(102,_)]⟩ rfl (ab.block ?_)
    obtain ⟨v8,h9,h7⟩:=aL h7
    refine ab.cN h9 (dd fun (out_6:List A2) (k_7:Int)=>⟨[(0,.b (.one (.sl 7 (s0.map aj)))),(3,.b (.row 102)),(4,I i_3),(5,I k_7)],[(102,.row 40 2 (out_6.map (eu .i64)))]⟩) [0,3,4,5] [102] rfl ?_
    rintro ⟨out_6,k_7⟩ o10 h11 hy12
    refine ab.seq (ab.seq (ab.aa ?_))
    refine Oc om (Oc om (Oc (aY mL rfl (List.length_map _)) (Oc (bb rfl rfl) ?_)))
    refine ae.ai ⟨[(0,_),(3,_),(4,_),(5,_),(18,B (decide (k_7 < (s0.length:Int))))],[(102,_)]⟩ rfl (ab.ite h11 rfl (fun _ h11=>?_) (fun _ h11=>?_))
    ·refine ab.skip (Fin.ag ⟨[(0,_),(3,_),(4,_),(5,_)],[(102,_)]⟩ rfl (Fin.then ?_))
     obtain ⟨v13,h14,h11⟩:=aL h11
     refine ab.c6 (v:=v13) (fun (out_9:List A2)=>⟨[(0,.b (.one (.sl 7 (s0.map aj)))),(3,.b (.row 102)),(4,I i_3),(5,I k_7)],[(102,.row 40 2 (out_9.map (eu .i64)))]⟩) (fun z=>z) ?_ ?_
     ·refine ab.block (ab.seq ?_)
      refine ab.ag ⟨[(0,_),(3,_),(4,_),(5,_)],[(102,_)]⟩ rfl ?_
      obtain ⟨x_10,e15,h14⟩:=aL h14
      obtain ⟨x_11,e16,h14⟩:=aL h14
      obtain ⟨x_12,e17,h14⟩:=aL h14
      refine ab.bE mixed 12 [.b (.one (.sl 7 (s0.map aj))),I i_3,.b (.aO (aj x_10)),.b (.aO (ao x_10.B)),.b (.agg (ao x_10.B)),.b (.one (.sl 7 (s0.map aj))),I k_7,.b (.aO (aj x_11)),.b (.aO (ao x_11.B)),.b (.agg (ao x_11.B)),B x_12,B x_12] [0,3,4,5,6] [102] (s':=⟨[(0,_),(3,_),(4,_),(5,_),(6,B x_12)],[(102,_)]⟩) rfl ⟨fun _=>.p om,fun _=>.p om,fun _=>.p (aN cY (aX e15) (bn (e:=aj) e15) rfl rfl),fun _=>by exact .p (aD fK rfl rfl),fun _=>.p (bj aC rfl rfl rfl),fun _=>.p om,fun _=>.p om,fun _=>.p (aN cY (aX e16) (bn (e:=aj) e16) rfl rfl),fun _=>by exact .p (aD fK rfl rfl),fun _=>.p (bj aC rfl rfl rfl),fun _=>.p (ak (dg e17) qO rfl rfl),fun _=>.p oa,trivial⟩ rfl rfl (ab.seq (ab.aa ?_))
      refine Oc om (ae.ai ⟨[(0,_),(3,_),(4,_),(5,_),(32,B x_12)],[(102,_)]⟩ rfl (ab.ite h14 rfl (fun _ h14=>?_) (fun _ h14=>?_)))
      ·refine ab.ag ⟨[(0,_),(3,_),(4,_),(5,_)],[(102,_)]⟩ rfl ?_
       obtain ⟨x_13,e18,h14⟩:=aL h14
       obtain ⟨x_14,e19,h14⟩:=aL h14
       obtain ⟨x_15,e20,h14⟩:=aL h14
       refine ab.jD mixed 13 [.b (.row 102),.b (.one (.sl 7 (s0.map aj))),I i_3,.b (.aO (aj x_13)),.b (.aO (aj x_13)),I x_13.Id,.b (.one (.sl 7 (s0.map aj))),I k_7,.b (.aO (aj x_14)),.b (.aO (aj x_14)),I x_14.Id,.b (.agg [.i x_13.Id,.i x_14.Id]),.b (.one (.sl 2 ([(⟨x_13.Id,x_14.Id⟩:A2)].map (eu .i64))))] [0,3,4,5] [102] (s':=⟨[(0,_),(3,_),(4,_),(5,_)],[(102,.row 40 2 (x_15.map (eu .i64)))]⟩) rfl ⟨fun _=>.p om,fun _=>.p om,fun _=>.p om,fun _=>.p (aN cY (aX e18) (bn (e:=aj) e18) rfl rfl),fun _=>by exact .p (aD dm rfl rfl),fun _=>.p (az aM rfl rfl),fun _=>.p om,fun _=>.p om,fun _=>.p (aN cY (aX e19) (bn (e:=aj) e19) rfl rfl),fun _=>by exact .p (aD dm rfl rfl),fun _=>.p (az aM rfl rfl),fun _=>.p (dX fk rfl rfl),fun _=>.p (cR (es:=[(⟨x_13.Id,x_14.Id⟩:A2)].map (eu .i64)) hU rfl rfl (bP fun _=>rfl) rfl (by decide) (by decide)),trivial⟩ ⟨_,by exact .p (gC hU (gh e20) (gg e20) rfl rfl rfl (du e20) rfl),⟨_,by exact .p oa,rfl⟩⟩ rfl (Fin.au ?_)
       exact Fin.join [0,3,4,5] [102] x_15 (Option.some.inj h14) rfl
      ·refine ab.skip (Fin.au ?_)
       exact Fin.join [0,3,4,5] [102] out_6 (Option.some.inj h14) rfl
     ·rintro out_9 hv
      subst v13
      refine ab.aa (Oc om (Oc (br rfl rfl) (Oc oa ?_)))
      refine ae.nil ?_
      exact Fin.bO [0,3,4,5] [102] (out_9,IntKind.i64.wrap (k_7 + 1)) (Option.some.inj h11) rfl
    ·refine ab.exit (Fin.ax ?_)
     obtain rfl:=hy12 _ (Option.some.inj h11).symm
     refine Fin.ax (Fin.aQ (Fin.au ?_))
     exact Fin.join [0,3,4] [102] out_6 (Option.some.inj h7) rfl
   ·rintro out_5 hv
    subst v6
    refine ab.aa (Oc om (Oc (br rfl rfl) (Oc oa ?_)))
    refine ae.nil ?_
    exact Fin.bO [0,3,4] [102] (out_5,IntKind.i64.wrap (i_3 + 1)) (Option.some.inj h4) rfl
  ·refine ab.exit (Fin.ax ?_)
   obtain rfl:=hy5 _ (Option.some.inj h4).symm
   refine Fin.ax (Fin.aQ ?_)
   exact Fin.join [3] [102] out_2 rfl rfl
 ·rintro out_1 hv
  subst v1
  refine ab.seq (ab.aa ?_)
  refine Oc om (Oc oa ?_)
  refine ae.ai ⟨[(2,.b (.row 102))],[(102,_)]⟩ rfl (ab.ret ?_)
  obtain rfl:=Option.some.inj h
  refine Fin.ag ⟨[(2,_)],[(102,_)]⟩ rfl (Fin.ez 102 kr0 [.row 102] (.inl rfl) rfl (.cons (.tmp rfl) .nil) rfl rfl rfl rfl ⟨rfl,rfl⟩)
def dq (F:Nat) (s0:List bB) (b0:cg):Option (List Int) :=
 Option.bind (iter F (dd fun out_2 i_3=>if (decide (i_3 < (s0.length:Int))) = true then (Option.bind ((a8 s0 i_3).bind fun x_6=>(bH F x_6.B b0).bind fun x_7=>if x_7 = true then ((a8 s0 i_3).bind fun x_8=>(dE out_2 [x_8.Id]).bind fun x_9=>some x_9) else (some out_2)) (fun out_5=>some (.inl (out_5,IntKind.i64.wrap (i_3 + 1))))) else (some (.inr out_2))) ([],0)) (fun out_1=>some out_1)
theorem kB (kr0:Nat) {F:Nat} {s0:List bB} {b0:cg} {r:(List Int)} (h:dq F s0 b0 = some r):av Tryz.prog [] 66 [] [.one (.sl 7 (s0.map aj)),.agg (ao b0)] (Is [(kr0,.row 3 1 (r.map eI))] (.b (.row kr0))):=by
 unfold dq at h
 refine av.intro 31 Tryz.func66 Tryz.ntmps66 rfl (by simp) fun E=>?_
 show ab _ E ⟨31,[],[],[]⟩ _ ⟨[(0,.b (.one (.sl 7 (s0.map aj)))),(1,.b (.agg (ao b0)))],[]⟩ _
 refine ab.seq (ab.aa ?_)
 refine Oc (bq (k:=101) rfl rfl) (Oc oa ?_)
 refine ae.ai ⟨[(0,.b (.one (.sl 7 (s0.map aj)))),(3,Pt 101 0)],[(101,.box 25 (ao b0))]⟩ rfl (ab.seq (ab.aa ?_))
 refine Oc oa (ae.ai ⟨[(0,_),(3,_),(5,.b (.one (.nil)))],[(101,_)]⟩ rfl ?_)
 obtain ⟨v1,h2,h⟩:=aL h
 refine ab.c6 (v:=v1) (fun (out_1:List Int)=>⟨[(5,.b (.row 103))],[(103,.row 3 1 (out_1.map eI))]⟩) (fun z=>z) ?_ ?_
 ·refine ab.seq (ab.aa ?_)
  refine Oc oa (ae.ai ⟨[(0,_),(3,_),(5,_),(6,I 0)],[(101,_)]⟩ rfl (ab.block (ab.dO 5 103 1 3 rfl (by decide) rfl (ab.cN h2 (dd fun (out_2:List Int) (i_3:Int)=>⟨[(0,.b (.one (.sl 7 (s0.map aj)))),(3,Pt 101 0),(5,.b (.row 103)),(6,I i_3)],[(101,.box 25 (ao b0)),(103,.row 3 1 (out_2.map eI))]⟩) [0,3,5,6] [101,103] rfl ?_))))
  rintro ⟨out_2,i_3⟩ o3 h4 hy5
  refine ab.seq (ab.seq (ab.aa ?_))
  refine Oc om (Oc om (Oc (aY mL rfl (List.length_map _)) (Oc (bb rfl rfl) ?_)))
  refine ae.ai ⟨[(0,_),(3,_),(5,_),(6,_),(11,B (decide (i_3 < (s0.length:Int))))],[(101,_),(103,_)]⟩ rfl (ab.ite h4 rfl (fun _ h4=>?_) (fun _ h4=>?_))
  ·refine ab.skip (Fin.ag ⟨[(0,_),(3,_),(5,_),(6,_)],[(101,_),(103,_)]⟩ rfl (Fin.then ?_))
   obtain ⟨v6,h7,h4⟩:=aL h4
   refine ab.c6 (v:=v6) (fun (out_5:List Int)=>⟨[(0,.b (.one (.sl 7 (s0.map aj)))),(3,Pt 101 0),(5,.b (.row 103)),(6,I i_3)],[(101,.box 25 (ao b0)),(103,.row 3 1 (out_5.map eI))]⟩) (fun z=>z) ?_ ?_
   ·refine ab.block (ab.seq ?_)
    refine ab.ag ⟨[(0,_),(3,_),(5,_),(6,_)],[(101,_),(103,_)]⟩ rfl ?_
    obtain ⟨x_6,e8,h7⟩:=aL h7
    obtain ⟨x_7,e9,h7⟩:=aL h7
    refine ab.bE mixed 8 [.b (.one (.sl 7 (s0.map aj))),I i_3,.b (.aO (aj x_6)),.b (.aO (ao x_6.B)),.b (.agg (ao x_6.B)),.b (.agg (ao b0)),B x_7,B x_7] [0,3,5,6,7] [101,103] (s':=⟨[(0,_),(3,_),(5,_),(6,_),(7,B x_7)],[(101,_),(103,_)]⟩) rfl ⟨fun _=>.p om,fun _=>.p om,fun _=>.p (aN cY (aX e8) (bn (e:=aj) e8) rfl rfl),fun _=>by exact .p (aD fK rfl rfl),fun _=>.p (bj aC rfl rfl rfl),fun _=>.p (lp aC),fun _=>.p (ak (dg e9) qO rfl rfl),fun _=>.p oa,trivial⟩ rfl rfl (ab.seq (ab.aa ?_))
    refine Oc om (ae.ai ⟨[(0,_),(3,_),(5,_),(6,_),(21,B x_7)],[(101,_),(103,_)]⟩ rfl (ab.ite h7 rfl (fun _ h7=>?_) (fun _ h7=>?_)))
    ·refine ab.aa (Oc om (Oc om (Oc om ?_)))
     obtain ⟨x_8,e10,h7⟩:=aL h7
     refine Oc (aN cY (aX e10) (bn (e:=aj) e10) rfl rfl) (Oc (aD dm rfl rfl) (Oc (az aM rfl rfl) ?_))
     refine ae.ag ⟨[(0,_),(3,_),(5,_),(6,_),(22,.b (.row 103)),(27,I x_8.Id)],[(101,_),(103,_)]⟩ rfl (Oc (bt (k:=104) (es:=[x_8.Id].map eI) bN rfl rfl (bP fun _=>rfl) rfl (by decide) (by decide) rfl) ?_)
     obtain ⟨x_9,e11,h7⟩:=aL h7
     refine Oc (cW bN (gh e11) (gg e11) rfl rfl rfl rfl (du e11) rfl) (Oc oa ?_)
     refine ae.nil (Fin.au ?_)
     exact Fin.join [0,3,5,6] [101,103] x_9 (Option.some.inj h7) rfl
    ·refine ab.skip (Fin.au ?_)
     exact Fin.join [0,3,5,6] [101,103] out_2 (Option.some.inj h7) rfl
   ·rintro out_5 hv
    subst v6
    refine ab.aa (Oc om (Oc (br rfl rfl) (Oc oa ?_)))
    refine ae.nil ?_
    exact Fin.bO [0,3,5,6] [101,103] (out_5,IntKind.i64.wrap (i_3 + 1)) (Option.some.inj h4) rfl
  ·refine ab.exit (Fin.ax ?_)
   obtain rfl:=hy5 _ (Option.some.inj h4).symm
   refine Fin.ax (Fin.aQ ?_)
   exact Fin.join [5] [103] out_2 rfl rfl
 ·rintro out_1 hv
  subst v1
  refine ab.seq (ab.aa ?_)
  refine Oc om (Oc oa ?_)
  refine ae.ai ⟨[(4,.b (.row 103))],[(103,_)]⟩ rfl (ab.ret ?_)
  obtain rfl:=Option.some.inj h
  refine Fin.ag ⟨[(4,_)],[(103,_)]⟩ rfl (Fin.ez 103 kr0 [.row 103] (.inl rfl) rfl (.cons (.tmp rfl) .nil) rfl rfl rfl rfl ⟨rfl,rfl⟩)
def ca (F:Nat) (s0:b4) (t0:List bB) (b0:cg):Option Bool :=
 Option.bind (iter F (fun i_1=>if (decide (i_1 < (t0.length:Int))) = true then ((a8 t0 i_1).bind fun x_2=>Option.bind (dI F s0 x_2.Id) (dd fun x_3 x_4=>(bD (!(!x_4)) (a8 t0 i_1)).bind fun x_5=>if ((!x_4) || (decide (x_3 ≠ x_5.B))) = true then (some (.inr (.inr false))) else (some (.inl (IntKind.i64.wrap (i_1 + 1)))))) else (some (.inr (.inl ())))) 0) (cL (fun _=>(eP F s0).bind fun x_6=>(dr F t0).bind fun x_7=>(bG F x_6 x_7).bind fun x_8=>(bD (!(!x_8)) (cX F s0)).bind fun x_9=>(bD (!(!x_8)) (dc F t0)).bind fun x_10=>(bD (!(!x_8)) (bg F x_9 x_10)).bind fun x_11=>if ((!x_8) || (!x_11)) = true then (some false) else (Option.bind (cI F s0 b0) (dd fun x_12 x_13=>(bT F b0).bind fun x_14=>if (!x_14) = true then (some ((decide (x_13 = 1)) && (decide ((x_12.length:Int) = 0)))) else ((bD (decide (x_13 = 0)) (dq F t0 b0)).bind fun x_15=>(bD (decide (x_13 = 0)) (bG F x_12 x_15)).bind fun x_16=>some ((decide (x_13 = 0)) && x_16))))) (fun y=>some y))
theorem eh {F:Nat} {s0:b4} {t0:List bB} {b0:cg} {r:Bool} (h:ca F s0 t0 b0 = some r):av Tryz.prog [] 35 [] [.agg (ar s0),.one (.sl 7 (t0.map aj)),.agg (ao b0)] (Is [] (.b (.one (.bool r)))):=by
 unfold ca at h
 refine av.intro 80 Tryz.func35 Tryz.ntmps35 rfl (by simp) fun E=>?_
 show ab _ E ⟨80,[],[],[]⟩ _ ⟨[(0,.b (.agg (ar s0))),(1,.b (.one (.sl 7 (t0.map aj)))),(2,.b (.agg (ao b0)))],[]⟩ _
 refine ab.seq (ab.aa ?_)
 refine Oc (bq (k:=101) rfl rfl) (Oc (bq (k:=102) rfl rfl) (Oc oa ?_))
 refine ae.ai ⟨[(1,.b (.one (.sl 7 (t0.map aj)))),(3,Pt 101 0),(5,Pt 102 0)],[(101,.box 49 (ar s0)),(102,.box 25 (ao b0))]⟩ rfl ?_
 obtain ⟨v1,h2,h⟩:=aL h
 refine ab.c6 (v:=v1) (fun (_:Unit)=>⟨[(1,.b (.one (.sl 7 (t0.map aj)))),(3,Pt 101 0),(5,Pt 102 0)],[(101,.box 49 (ar s0)),(102,.box 25 (ao b0))]⟩) (fun z=>.inl z) ?_ ?_
 ·refine ab.seq (ab.aa ?_)
  refine Oc oa (ae.ai ⟨[(1,_),(3,_),(5,_),(7,I 0)],[(101,_),(102,_)]⟩ rfl (ab.block (ab.cN h2 (fun (i_1:Int)=>⟨[(1,.b (.one (.sl 7 (t0.map aj)))),(3,Pt 101 0),(5,Pt 102 0),(7,I i_1)],[(101,.box 49 (ar s0)),(102,.box 25 (ao b0))]⟩) [1,3,5,7] [101,102] rfl ?_)))
  rintro i_1 o3 h4 hy5
  refine ab.seq (ab.seq (ab.aa ?_))
  refine Oc om (Oc om (Oc (aY mL rfl (List.length_map _)) (Oc (bb rfl rfl) ?_)))
  refine ae.ai ⟨[(1,_),(3,_),(5,_),(7,_),(16,B (decide (i_1 < (t0.length:Int))))],[(101,_),(102,_)]⟩ rfl (ab.ite h4 rfl (fun _ h4=>?_) (fun _ h4=>?_))
  ·refine ab.skip (Fin.ag ⟨[(1,_),(3,_),(5,_),(7,_)],[(101,_),(102,_)]⟩ rfl (Fin.then (ab.seq (ab.block (ab.seq ?_)))))
   refine ab.ag ⟨[(1,_),(3,_),(5,_),(7,_)],[(101,_),(102,_)]⟩ rfl ?_
   obtain ⟨x_2,e6,h4⟩:=aL h4
   obtain ⟨⟨x_3,x_4⟩,e7,h4⟩:=aL h4
   refine ab.jb mixed [false,false,false,false,false,false,false,false,false,false,true,true,false] [.b (.agg (ar s0)),.b (.one (.sl 7 (t0.map aj))),I i_1,.b (.aO (aj x_2)),.b (.aO (aj x_2)),I x_2.Id,.dF [.agg (ao x_3),.one (.bool x_4)],.dF [.agg (ao x_3),.one (.bool x_4)],.b (.agg (ao x_3)),B x_4,Pt 103 0,B true,B x_4] [⟨[false,false,false,false,false,false,false,false,false,false,false,false,false],[(1,.b (.one (.sl 7 (t0.map aj)))),(3,Pt 101 0),(5,Pt 102 0),(7,I i_1)],[(101,.box 49 (ar s0)),(102,.box 25 (ao b0))],[true,true,true,true,true,true,true,true,true,true,true,true,true],[],[11,12]⟩,⟨[false,false,false,false,false,false,false,false,false,false,true,false,false],[(1,.b (.one (.sl 7 (t0.map aj)))),(3,Pt 101 0),(5,Pt 102 0),(7,I i_1)],[(101,.box 49 (ar s0)),(102,.box 25 (ao b0)),(103,.box 25 ((c3 .i64) A3.zero ++ ((c3 .i64) A3.zero)))],[true,true,true,true,true,true,true,true,true,true,true,true,true],[10],[12]⟩,⟨[false,false,false,false,false,false,false,false,false,false,true,true,false],[(1,.b (.one (.sl 7 (t0.map aj)))),(3,Pt 101 0),(5,Pt 102 0),(7,I i_1)],[(101,.box 49 (ar s0)),(102,.box 25 (ao b0)),(103,.box 25 (ao x_3))],[true,true,true,true,true,true,true,true,true,true,true,true,true],[0,1,2,3,4,5,6,7,8,10,11],[]⟩] rfl (⟨by kernel_rfl,⟨⟨.b (.agg (ar s0)),fun _=>rfl,fun _=>.p (by exact bo aH rfl rfl rfl rfl)⟩,⟨.b (.one (.sl 7 (t0.map aj))),fun _=>rfl,fun _=>.p (by exact aP rfl)⟩,⟨I i_1,fun _=>rfl,fun _=>.p (by exact aP rfl)⟩,⟨.b (.aO (aj x_2)),fun _=>rfl,fun _=>.p (by exact aN cY (aX e6) (bn (e:=aj) e6) rfl rfl)⟩,⟨.b (.aO (aj x_2)),fun _=>rfl,fun _=>.p (by exact aD dm rfl rfl)⟩,⟨I x_2.Id,fun _=>rfl,fun _=>.p (by exact az aM rfl rfl)⟩,⟨.dF [.agg (ao x_3),.one (.bool x_4)],fun _=>rfl,fun _=>.p (by exact ak (iU e7) vE rfl rfl)⟩,⟨.dF [.agg (ao x_3),.one (.bool x_4)],fun _=>rfl,fun _=>.p (by exact aP rfl)⟩,⟨.b (.agg (ao x_3)),fun _=>rfl,fun _=>.p (by exact an rfl rfl)⟩,⟨B x_4,fun _=>rfl,fun _=>.p (by exact an rfl rfl)⟩,⟨_,[103],Pt 103 0,rfl,fun _=>rfl,rfl,rfl,fun _=>.qE [101,102,103] (by exact .p (by exact aT (k:=103) fa rfl)) (by exact rfl)⟩,trivial,trivial,trivial⟩,⟨by kernel_rfl,⟨⟨.b (.agg (ar s0)),fun _=>rfl,fun _=>.p (by exact bo aH rfl rfl rfl rfl)⟩,⟨.b (.one (.sl 7 (t0.map aj))),fun _=>rfl,fun _=>.p (by exact aP rfl)⟩,⟨I i_1,fun _=>rfl,fun _=>.p (by exact aP rfl)⟩,⟨.b (.aO (aj x_2)),fun _=>rfl,fun _=>.p (by exact aN cY (aX e6) (bn (e:=aj) e6) rfl rfl)⟩,⟨.b (.aO (aj x_2)),fun _=>rfl,fun _=>.p (by exact aD dm rfl rfl)⟩,⟨I x_2.Id,fun _=>rfl,fun _=>.p (by exact az aM rfl rfl)⟩,⟨.dF [.agg (ao x_3),.one (.bool x_4)],fun _=>rfl,fun _=>.p (by exact ak (iU e7) vE rfl rfl)⟩,⟨.dF [.agg (ao x_3),.one (.bool x_4)],fun _=>rfl,fun _=>.p (by exact aP rfl)⟩,⟨.b (.agg (ao x_3)),fun _=>rfl,fun _=>.p (by exact an rfl rfl)⟩,⟨B x_4,fun _=>rfl,fun _=>.p (by exact an rfl rfl)⟩,trivial,⟨_,[],.b (.one .any),rfl,(fun e=>by simp at e),rfl,rfl,fun _=>.qE [101,102,103] (by exact .p (by exact aB aC rfl rfl rfl rfl (Nat.le_of_ble_eq_true rfl) rfl)) (by exact rfl)⟩,trivial,trivial⟩,⟨by kernel_rfl,⟨trivial,trivial,trivial,trivial,trivial,trivial,trivial,trivial,trivial,⟨B x_4,fun _=>rfl,fun _=>.p (by exact an rfl rfl)⟩,trivial,trivial,⟨B x_4,fun _=>rfl,fun _=>.p (by exact bR rfl)⟩,trivial⟩,trivial⟩⟩⟩) rfl rfl rfl [1,3,5,7,8,9] [101,102,103] (s':=⟨[(1,_),(3,_),(5,_),(7,_),(8,Pt 103 0),(9,B x_4)],[(101,_),(102,_),(103,.box 25 (ao x_3))]⟩) rfl ?_
   refine ab.seq (ab.ag ⟨[(1,_),(3,_),(5,_),(7,_),(8,_),(9,_)],[(101,_),(102,_),(103,_)]⟩ rfl ?_)
   obtain ⟨x_5,e12,h4⟩:=aL h4
   refine ab.bE mixed 11 [B x_4,B (!x_4),B (!x_4),.opt (!(!x_4)) (.agg (ao x_3)),.opt (!(!x_4)) (.one (.sl 7 (t0.map aj))),.opt (!(!x_4)) (.one (.i i_1)),.opt (!(!x_4)) (.aO (aj x_5)),.opt (!(!x_4)) (.aO (ao x_5.B)),.opt (!(!x_4)) (.agg (ao x_5.B)),.opt (!(!x_4)) (.one (.bool (decide (x_3 ≠ x_5.B)))),B ((!x_4) || (decide (x_3 ≠ x_5.B)))] [1,3,5,7,39] [101,102] (s':=⟨[(1,_),(3,_),(5,_),(7,_),(39,B ((!x_4) || (decide (x_3 ≠ x_5.B))))],[(101,_),(102,_)]⟩) rfl ⟨fun _=>.p om,fun _=>.p (di rfl),fun _=>.p om,fun _=>by exact .guard (!(!x_4)) 1 [] (.plain rfl) (dD _) rfl rfl (fun g8=>trivial) (fun g8=>lp aC),fun _=>by exact .guard (!(!x_4)) 1 [] (.plain rfl) (dD _) rfl rfl (fun g9=>trivial) (fun g9=>om),fun _=>by exact .guard (!(!x_4)) 1 [] (.plain rfl) (dD _) rfl rfl (fun g10=>trivial) (fun g10=>om),fun _=>by exact .guard (!(!x_4)) 3 [33,34] (.plain rfl) (dD _) rfl rfl (fun g11=>⟨g11,g11,trivial⟩) (fun g11=>aN cY (aX (gc e12 g11)) (bn (e:=aj) (gc e12 g11)) rfl rfl),fun _=>by exact .guard (!(!x_4)) 2 [35] (.plain rfl) (dD _) rfl rfl (fun g13=>⟨g13,trivial⟩) (fun g13=>aD fK rfl rfl),fun _=>by exact .guard (!(!x_4)) 2 [36] (.plain rfl) (dD _) rfl rfl (fun g14=>⟨g14,trivial⟩) (fun g14=>bj aC rfl rfl rfl),fun _=>by exact .guard (!(!x_4)) 3 [32,37] (.plain rfl) (dD _) rfl rfl (fun g15=>⟨g15,g15,trivial⟩) (fun g15=>pD (q9 x_3 x_5.B) rfl rfl ud),fun _=>.p (ct (fun e=>by first | (rw [e]; rfl) | (simp only at e; rw [e]; rfl)) rfl rfl rfl rfl),trivial⟩ rfl rfl (ab.ite h4 rfl (fun _ h4=>?_) (fun _ h4=>?_))
   ·refine ab.seq (ab.aa ?_)
    refine Oc oa (ae.ai ⟨[(6,B false)],[]⟩ rfl (ab.ret (Fin.aS (Fin.aw ?_))))
    obtain rfl:=hy5 _ (Option.some.inj h4).symm
    refine Fin.aw (Fin.aS (Fin.aw ?_))
    obtain rfl:=Option.some.inj h
    refine Fin.ag ⟨[(6,_)],[]⟩ rfl (Fin.aA [.one (.bool false)] (.inl rfl) rfl (.cons (.tmp rfl) .nil) ⟨rfl,rfl⟩)
   ·refine ab.skip (Fin.au (Fin.ag ⟨[(1,_),(3,_),(5,_),(7,_)],[(101,_),(102,_)]⟩ rfl (Fin.then (ab.aa ?_))))
    refine Oc om (Oc (br rfl rfl) (Oc oa ?_))
    refine ae.nil ?_
    exact Fin.bO [1,3,5,7] [101,102] (IntKind.i64.wrap (i_1 + 1)) (Option.some.inj h4) rfl
  ·refine ab.exit (Fin.ax ?_)
   obtain rfl:=hy5 _ (Option.some.inj h4).symm
   refine Fin.ax (Fin.aQ ?_)
   exact Fin.join [1,3,5] [101,102] () rfl rfl
 ·rintro _ hv
  subst v1
  refine ab.seq (ab.seq (ab.aa ?_))
  refine Oc (lp aH) ?_
  obtain ⟨x_6,e16,h⟩:=aL h
  refine Oc (cC (own_a:=[]) ((mC e16).sw 51 104) goes33 rfl trivial rfl rfl) (Oc om ?_)
  refine ae.ag ⟨[(1,_),(3,_),(5,_),(41,.b (.row 104)),(42,.b (.one (.sl 7 (t0.map aj))))],[(101,_),(102,_),(104,.row 3 1 (x_6.map eI))]⟩ rfl ?_
  obtain ⟨x_7,e17,h⟩:=aL h
  refine Oc (cC (kC 105 e17) goes64 rfl trivial rfl rfl) ?_
  obtain ⟨x_8,e18,h⟩:=aL h
  refine Oc (iL (df e18) qM rfl CP.jO) (Oc (di rfl) (Oc om ?_))
  refine qF (!(!x_8)) [] (fun g19=>trivial) (fun g19=>lp aH) (ae.ag ⟨[(1,_),(3,_),(5,_),(46,B (!x_8)),(47,.opt (!(!x_8)) (.agg (ar s0)))],[(101,_),(102,_)]⟩ rfl ?_)
  obtain ⟨x_9,e21,h⟩:=aL h
  refine qF (!(!x_8)) [47] (fun g20=>⟨g20,trivial⟩) (fun g20=>ak (((fQ (gc e21 g20)).sw 51 0).oR) tc rfl rfl) (qF (!(!x_8)) [] (fun g22=>trivial) (fun g22=>om) ?_)
  obtain ⟨x_10,e24,h⟩:=aL h
  refine qF (!(!x_8)) [49] (fun g23=>⟨g23,trivial⟩) (fun g23=>ak (jU 0 (gc e24 g23)).oR goes65 rfl rfl) ?_
  obtain ⟨x_11,e26,h⟩:=aL h
  refine qF (!(!x_8)) [48,50] (fun g25=>⟨g25,g25,trivial⟩) (fun g25=>ak (cF (gc e26 g25)) qN rfl rfl) (qF (!(!x_8)) [51] (fun g27=>⟨g27,trivial⟩) (fun g27=>di rfl) (Oc (ct (fun e=>by first | (rw [e]; rfl) | (simp only at e; rw [e]; rfl)) rfl rfl rfl rfl) (ae.ai ⟨[(1,_),(3,_),(5,_),(53,B ((!x_8) || (!x_11)))],[(101,_),(102,_)]⟩ rfl (ab.ite h rfl (fun _ h=>?_) (fun _ h=>?_)))))
  ·refine ab.seq (ab.aa ?_)
   refine Oc oa (ae.ai ⟨[(6,B false)],[]⟩ rfl (ab.ret (Fin.aw ?_)))
   obtain rfl:=Option.some.inj h
   refine Fin.ag ⟨[(6,_)],[]⟩ rfl (Fin.aA [.one (.bool false)] (.inl rfl) rfl (.cons (.tmp rfl) .nil) ⟨rfl,rfl⟩)
  ·refine ab.skip (Fin.ag ⟨[(1,_),(3,_),(5,_)],[(101,_),(102,_)]⟩ rfl (Fin.then (ab.seq (ab.aa ?_))))
   refine Oc (lp aH) (Oc (lp aC) ?_)
   obtain ⟨⟨x_12,x_13⟩,e28,h⟩:=aL h
   refine Oc (cC (fA 108 e28) s8 rfl trivial rfl rfl) (Oc om (Oc (an rfl rfl) ?_))
   refine ae.ag ⟨[(1,_),(5,_),(54,.dF [.row 108,.one (.i x_13)]),(58,.b (.row 108))],[(102,_),(108,.row 3 1 (x_12.map eI))]⟩ rfl (Oc (an rfl rfl) (Oc oa (Oc oa ?_)))
   refine ae.ai ⟨[(1,_),(5,_),(10,.b (.row 108)),(11,I x_13)],[(102,_),(108,_)]⟩ rfl (ab.seq (ab.aa ?_))
   refine Oc (lp aC) ?_
   obtain ⟨x_14,e29,h⟩:=aL h
   refine Oc (ak (dQ e29) tf rfl rfl) (Oc oa ?_)
   refine ae.ai ⟨[(1,_),(5,_),(10,_),(11,_),(12,B x_14)],[(102,_),(108,_)]⟩ rfl (ab.seq (ab.seq (ab.aa ?_)))
   refine Oc om (Oc (di rfl) ?_)
   refine ae.ai ⟨[(1,_),(5,_),(10,_),(11,_),(63,B (!x_14))],[(102,_),(108,_)]⟩ rfl (ab.ite h rfl (fun _ h=>?_) (fun _ h=>?_))
   ·refine ab.seq (ab.aa ?_)
    refine Oc om (Oc (c7 rfl rfl) (Oc om ?_))
    refine eZ (decide (x_13 = 1)) [] (fun g30=>trivial) (fun g30=>om) (eZ (decide (x_13 = 1)) [67] (fun g31=>by exact ⟨g31,trivial⟩) (fun g31=>fl fR rfl rfl (List.length_map _)) (eZ (decide (x_13 = 1)) [68] (fun g32=>by exact ⟨g32,trivial⟩) (fun g32=>c7 rfl rfl) (Oc (aJ (fun e=>e) rfl rfl rfl rfl) (Oc oa ?_))))
    refine ae.ai ⟨[(6,B ((decide (x_13 = 1)) && (decide ((x_12.length:Int) = 0))))],[]⟩ rfl (ab.ret (Fin.aw ?_))
    obtain rfl:=Option.some.inj h
    refine Fin.ag ⟨[(6,_)],[]⟩ rfl (Fin.aA [.one (.bool ((decide (x_13 = 1)) && (decide ((x_12.length:Int) = 0))))] (.inl rfl) rfl (.cons (.tmp rfl) .nil) ⟨rfl,rfl⟩)
   ·refine ab.skip (Fin.ag ⟨[(1,_),(5,_),(10,_),(11,_)],[(102,_),(108,_)]⟩ rfl (Fin.then (ab.seq (ab.aa ?_))))
    refine Oc om (Oc (c7 rfl rfl) (Oc om ?_))
    refine eZ (decide (x_13 = 0)) [] (fun g33=>trivial) (fun g33=>om) (eZ (decide (x_13 = 0)) [] (fun g34=>by exact trivial) (fun g34=>om) (eZ (decide (x_13 = 0)) [] (fun g35=>by exact trivial) (fun g35=>lp aC) (ae.ag ⟨[(73,B (decide (x_13 = 0))),(74,.opt (decide (x_13 = 0)) (.row 108)),(75,.opt (decide (x_13 = 0)) (.one (.sl 7 (t0.map aj)))),(76,.opt (decide (x_13 = 0)) (.agg (ao b0)))],[(108,_)]⟩ rfl ?_)))
    obtain ⟨x_15,e37,h⟩:=aL h
    refine eZ (decide (x_13 = 0)) [75,76] (fun g36=>⟨g36,g36,trivial⟩) (fun g36=>ak (kB 0 (gc e37 g36)).oR goes66 rfl rfl) ?_
    obtain ⟨x_16,e39,h⟩:=aL h
    refine eZ (decide (x_13 = 0)) [74,77] (fun g38=>⟨g38,g38,trivial⟩) (fun g38=>iL (df (gc e39 g38)) qM rfl CP.jO) (Oc (aJ (fun e=>e) rfl rfl rfl rfl) (Oc oa ?_))
    refine ae.ai ⟨[(6,B ((decide (x_13 = 0)) && x_16))],[]⟩ rfl (ab.ret ?_)
    obtain rfl:=Option.some.inj h
    refine Fin.ag ⟨[(6,_)],[]⟩ rfl (Fin.aA [.one (.bool ((decide (x_13 = 0)) && x_16))] (.inl rfl) rfl (.cons (.tmp rfl) .nil) ⟨rfl,rfl⟩)
def b9 (F:Nat) (l0:List kE):Option (List bB) :=
 Option.bind (iter F (dd fun s_2 i_3=>if (decide (i_3 < (l0.length:Int))) = true then (Option.bind ((a8 l0 i_3).bind fun x_6=>(dB F s_2 x_6).bind fun x_7=>if (decide (x_7.E = 0)) = true then (some x_7.S) else (some s_2)) (fun s_5=>some (.inl (s_5,IntKind.i64.wrap (i_3 + 1))))) else (some (.inr s_2))) ([],0)) (fun s_1=>some s_1)
theorem ee {F:Nat} {l0:List kE} {r:(List bB)} (h:b9 F l0 = some r):av Tryz.prog [] 38 [] [.one (.sl 8 (l0.map bd))] (Is [] (.b (.one (.sl 7 (r.map aj))))):=by
 unfold b9 at h
 refine av.intro 24 Tryz.func38 Tryz.ntmps38 rfl (by simp) fun E=>?_
 show ab _ E ⟨24,[],[],[]⟩ _ ⟨[(0,.b (.one (.sl 8 (l0.map bd))))],[]⟩ _
 refine ab.seq (ab.aa ?_)
 refine Oc oa (ae.ai ⟨[(0,.b (.one (.sl 8 (l0.map bd))))],[]⟩ rfl (ab.seq (ab.aa ?_)))
 refine Oc oa (ae.ai ⟨[(0,_),(3,.b (.one (.nil)))],[]⟩ rfl ?_)
 obtain ⟨v1,h2,h⟩:=aL h
 refine ab.c6 (v:=v1) (fun (s_1:List bB)=>⟨[(3,.b (.one (.sl 7 (s_1.map aj))))],[]⟩) (fun z=>z) ?_ ?_
 ·refine ab.seq (ab.aa ?_)
  refine Oc oa (ae.ai ⟨[(0,_),(3,_),(4,I 0)],[]⟩ rfl (ab.block (ab.gz 3 7 rfl (by decide) (ab.cN h2 (dd fun (s_2:List bB) (i_3:Int)=>⟨[(0,.b (.one (.sl 8 (l0.map bd)))),(3,.b (.one (.sl 7 (s_2.map aj)))),(4,I i_3)],[]⟩) [0,3,4] [] rfl ?_))))
  rintro ⟨s_2,i_3⟩ o3 h4 hy5
  refine ab.seq (ab.seq (ab.aa ?_))
  refine Oc om (Oc om (Oc (aY oP rfl (List.length_map _)) (Oc (bb rfl rfl) ?_)))
  refine ae.ai ⟨[(0,_),(3,_),(4,_),(9,B (decide (i_3 < (l0.length:Int))))],[]⟩ rfl (ab.ite h4 rfl (fun _ h4=>?_) (fun _ h4=>?_))
  ·refine ab.skip (Fin.ag ⟨[(0,_),(3,_),(4,_)],[]⟩ rfl (Fin.then ?_))
   obtain ⟨v6,h7,h4⟩:=aL h4
   refine ab.c6 (v:=v6) (fun (s_5:List bB)=>⟨[(0,.b (.one (.sl 8 (l0.map bd)))),(3,.b (.one (.sl 7 (s_5.map aj)))),(4,I i_3)],[]⟩) (fun z=>z) ?_ ?_
   ·refine ab.block (ab.seq (ab.aa ?_))
    refine Oc om (Oc om (Oc om ?_))
    obtain ⟨x_6,e8,h7⟩:=aL h7
    refine Oc (aN jo (aX e8) (bn (e:=bd) e8) rfl rfl) (Oc (bj oB rfl rfl rfl) ?_)
    refine ae.ag ⟨[(0,_),(3,_),(4,_),(12,.b (.one (.sl 7 (s_2.map aj)))),(16,.b (.agg (bd x_6)))],[]⟩ rfl ?_
    obtain ⟨x_7,e9,h7⟩:=aL h7
    refine Oc (ak (kN e9) goes34 rfl rfl) (Oc (aT (k:=101) mV rfl) (Oc (aB ey rfl rfl rfl rfl (Nat.le_of_ble_eq_true rfl) rfl) ?_))
    refine ae.ai ⟨[(0,_),(3,_),(4,_),(5,Pt 101 0)],[(101,.box 70 (oY x_7))]⟩ rfl (ab.seq (ab.aa ?_))
    refine Oc (aq uC rfl rfl) (Oc (aF tyOne26 rfl rfl rfl) (Oc (c7 rfl rfl) ?_))
    refine ae.ai ⟨[(0,_),(3,_),(4,_),(5,_),(20,B (decide (x_7.E = 0)))],[(101,_)]⟩ rfl (ab.ite h7 rfl (fun _ h7=>?_) (fun _ h7=>?_))
    ·refine ab.aa (Oc (aq uD rfl rfl) (Oc (aF tyOne68 rfl rfl rfl) (Oc oa ?_)))
     refine ae.nil (Fin.au ?_)
     exact Fin.join [0,3,4] [] x_7.S (Option.some.inj h7) rfl
    ·refine ab.skip (Fin.au ?_)
     exact Fin.join [0,3,4] [] s_2 (Option.some.inj h7) rfl
   ·rintro s_5 hv
    subst v6
    refine ab.aa (Oc om (Oc (br rfl rfl) (Oc oa ?_)))
    refine ae.nil ?_
    exact Fin.bO [0,3,4] [] (s_5,IntKind.i64.wrap (i_3 + 1)) (Option.some.inj h4) rfl
  ·refine ab.exit (Fin.ax ?_)
   obtain rfl:=hy5 _ (Option.some.inj h4).symm
   refine Fin.ax (Fin.aQ ?_)
   exact Fin.join [3] [] s_2 rfl rfl
 ·rintro s_1 hv
  subst v1
  refine ab.seq (ab.aa ?_)
  refine Oc om (Oc oa ?_)
  refine ae.ai ⟨[(2,.b (.one (.sl 7 (s_1.map aj))))],[]⟩ rfl (ab.ret ?_)
  obtain rfl:=Option.some.inj h
  refine Fin.ag ⟨[(2,_)],[]⟩ rfl (Fin.aA [.one (.sl 7 (s_1.map aj))] (.inl rfl) rfl (.cons (.tmp rfl) .nil) ⟨rfl,rfl⟩)
def bQ (F:Nat) (l0:List kE) (one0:List kE) (two0:List kE) (b0:cg):Option Bool :=
 fv ((decide (40 < (l0.length:Int))) || (decide (40 < (one0.length:Int)))) fun x_1=>if (x_1 || (decide (40 < (two0.length:Int)))) = true then ((cq F).bind fun x_2=>some x_2) else ((gY F).bind fun x_3=>Option.bind (iter F (dd fun s_5 i_6=>if (decide (i_6 < (l0.length:Int))) = true then ((a8 l0 i_6).bind fun x_8=>Option.bind (bI F s_5 x_8) (uX fun x_9 x_10 x_11 x_12=>some (.inl (x_9,IntKind.i64.wrap (i_6 + 1))))) else (some (.inr s_5))) (x_3,0)) (fun s_4=>Option.bind (iter F (dd fun x_14 i_15=>if (decide (i_15 < (one0.length:Int))) = true then ((a8 one0 i_15).bind fun x_17=>Option.bind (bI F x_14 x_17) (uX fun x_18 x_19 x_20 x_21=>some (.inl (x_18,IntKind.i64.wrap (i_15 + 1))))) else (some (.inr x_14))) (s_4,0)) (fun x_13=>Option.bind (iter F (dd fun y_23 i_24=>if (decide (i_24 < (two0.length:Int))) = true then ((a8 two0 i_24).bind fun x_26=>Option.bind (bI F y_23 x_26) (uX fun x_27 x_28 x_29 x_30=>some (.inl (x_27,IntKind.i64.wrap (i_24 + 1))))) else (some (.inr y_23))) (s_4,0)) (fun y_22=>(dE [] l0).bind fun x_31=>(b9 F l0).bind fun x_32=>(ca F s_4 x_32 b0).bind fun x_33=>(dE x_31 one0).bind fun x_34=>(b9 F x_34).bind fun x_35=>(ca F x_13 x_35 b0).bind fun x_36=>(dE [] l0).bind fun x_37=>(dE x_37 two0).bind fun x_38=>(b9 F x_38).bind fun x_39=>(ca F y_22 x_39 b0).bind fun x_40=>(cq F).bind fun x_41=>some (((x_41 && x_33) && x_36) && x_40)))))
theorem fB {F:Nat} {l0:List kE} {one0:List kE} {two0:List kE} {b0:cg} {r:Bool} (h:bQ F l0 one0 two0 b0 = some r):av Tryz.prog [] 10 [] [.one (.sl 8 (l0.map bd)),.one (.sl 8 (one0.map bd)),.one (.sl 8 (two0.map bd)),.agg (ao b0)] (Is [] (.b (.one (.bool r)))):=by
 unfold bQ at h
 refine av.intro 122 Tryz.func10 Tryz.ntmps10 rfl (by simp) fun E=>?_
 show ab _ E ⟨122,[],[],[]⟩ _ ⟨[(0,.b (.one (.sl 8 (l0.map bd)))),(1,.b (.one (.sl 8 (one0.map bd)))),(2,.b (.one (.sl 8 (two0.map bd)))),(3,.b (.agg (ao b0)))],[]⟩ _
 refine ab.seq (ab.aa ?_)
 refine Oc (bq (k:=101) rfl rfl) (Oc oa ?_)
 refine ae.ai ⟨[(0,.b (.one (.sl 8 (l0.map bd)))),(1,.b (.one (.sl 8 (one0.map bd)))),(2,.b (.one (.sl 8 (two0.map bd)))),(7,Pt 101 0)],[(101,.box 25 (ao b0))]⟩ rfl (ab.seq (ab.seq (ab.aa ?_)))
 refine Oc om (Oc (aY oP rfl (List.length_map _)) (Oc (gA rfl rfl) (Oc om ?_)))
 refine qF (!(decide (40 < (l0.length:Int)))) [] (fun g1=>trivial) (fun g1=>om) (ae.ag ⟨[(0,_),(1,_),(2,_),(7,_),(22,B (decide (40 < (l0.length:Int)))),(23,.opt (!(decide (40 < (l0.length:Int)))) (.one (.sl 8 (one0.map bd))))],[(101,_)]⟩ rfl (qF (!(decide (40 < (l0.length:Int)))) [23] (fun g2=>by exact ⟨g2,trivial⟩) (fun g2=>aY oP rfl (List.length_map _)) (qF (!(decide (40 < (l0.length:Int)))) [24] (fun g3=>by exact ⟨g3,trivial⟩) (fun g3=>gA rfl rfl) (ae.oS h rfl (ct (fun e=>by first | (rw [e]; rfl) | (simp only at e; rw [e]; rfl)) rfl rfl rfl rfl) (fun x_1 h=>?_)))))
 refine Oc om (qF (!x_1) [] (fun g4=>by exact trivial) (fun g4=>om) (qF (!x_1) [28] (fun g5=>by exact ⟨g5,trivial⟩) (fun g5=>aY oP rfl (List.length_map _)) (qF (!x_1) [29] (fun g6=>by exact ⟨g6,trivial⟩) (fun g6=>gA rfl rfl) (Oc (ct (fun e=>by first | (rw [e]; rfl) | (simp only at e; rw [e]; rfl)) rfl rfl rfl rfl) (ae.ai ⟨[(0,_),(1,_),(2,_),(7,_),(31,B (x_1 || (decide (40 < (two0.length:Int)))))],[(101,_)]⟩ rfl ?_)))))
 refine ab.ite h rfl (fun _ h=>?_) (fun _ h=>?_)
 ·refine ab.seq (ab.aa ?_)
  obtain ⟨x_2,e7,h⟩:=aL h
  refine Oc (ak (fu e7) vI rfl rfl) (Oc oa ?_)
  refine ae.ai ⟨[(8,B x_2)],[]⟩ rfl (ab.ret (Fin.aw ?_))
  obtain rfl:=Option.some.inj h
  refine Fin.ag ⟨[(8,_)],[]⟩ rfl (Fin.aA [.one (.bool x_2)] (.inl rfl) rfl (.cons (.tmp rfl) .nil) ⟨rfl,rfl⟩)
 ·refine ab.skip (Fin.ag ⟨[(0,_),(1,_),(2,_),(7,_)],[(101,_)]⟩ rfl (Fin.then (ab.seq (ab.aa ?_))))
  obtain ⟨x_3,e8,h⟩:=aL h
  refine Oc (ak (iS e8) te rfl rfl) (Oc (aT (k:=102) dK rfl) (Oc (aB aH rfl rfl rfl rfl (Nat.le_of_ble_eq_true rfl) rfl) ?_))
  refine ae.ai ⟨[(0,_),(1,_),(2,_),(7,_),(9,Pt 102 0)],[(101,_),(102,.box 49 (ar x_3))]⟩ rfl ?_
  obtain ⟨v9,h10,h⟩:=aL h
  refine ab.c6 (v:=v9) (fun (s_4:b4)=>⟨[(0,.b (.one (.sl 8 (l0.map bd)))),(1,.b (.one (.sl 8 (one0.map bd)))),(2,.b (.one (.sl 8 (two0.map bd)))),(7,Pt 101 0),(9,Pt 102 0)],[(101,.box 25 (ao b0)),(102,.box 49 (ar s_4))]⟩) (fun z=>z) ?_ ?_
  ·refine ab.seq (ab.aa ?_)
   refine Oc oa (ae.ai ⟨[(0,_),(1,_),(2,_),(7,_),(9,_),(10,I 0)],[(101,_),(102,_)]⟩ rfl (ab.block (ab.cN h10 (dd fun (s_5:b4) (i_6:Int)=>⟨[(0,.b (.one (.sl 8 (l0.map bd)))),(1,.b (.one (.sl 8 (one0.map bd)))),(2,.b (.one (.sl 8 (two0.map bd)))),(7,Pt 101 0),(9,Pt 102 0),(10,I i_6)],[(101,.box 25 (ao b0)),(102,.box 49 (ar s_5))]⟩) [0,1,2,7,9,10] [101,102] rfl ?_)))
   rintro ⟨s_5,i_6⟩ o11 h12 hy13
   refine ab.seq (ab.seq (ab.aa ?_))
   refine Oc om (Oc om (Oc (aY oP rfl (List.length_map _)) (Oc (bb rfl rfl) ?_)))
   refine ae.ai ⟨[(0,_),(1,_),(2,_),(7,_),(9,_),(10,_),(37,B (decide (i_6 < (l0.length:Int))))],[(101,_),(102,_)]⟩ rfl (ab.ite h12 rfl (fun _ h12=>?_) (fun _ h12=>?_))
   ·refine ab.skip (Fin.ag ⟨[(0,_),(1,_),(2,_),(7,_),(9,_),(10,_)],[(101,_),(102,_)]⟩ rfl (Fin.then (ab.seq (ab.block ?_))))
    refine ab.ag ⟨[(0,_),(1,_),(2,_),(7,_),(9,_),(10,_)],[(101,_),(102,_)]⟩ rfl ?_
    obtain ⟨x_8,e14,h12⟩:=aL h12
    obtain ⟨⟨x_9,x_10,x_11,x_12⟩,e15,h12⟩:=aL h12
    refine ab.jE mixed [false,false,false,false,false,false,false,false,false,false,false,true] [.b (.agg (ar s_5)),.b (.one (.sl 8 (l0.map bd))),I i_6,.b (.aO (bd x_8)),.b (.agg (bd x_8)),.dF [.agg (ar x_9),.one (.sl 1 (x_10.map eI)),.one (.sl 1 (x_11.map eI)),.one (.i x_12)],.dF [.agg (ar x_9),.one (.sl 1 (x_10.map eI)),.one (.sl 1 (x_11.map eI)),.one (.i x_12)],.b (.agg (ar x_9)),.b (.one (.sl 1 (x_10.map eI))),.b (.one (.sl 1 (x_11.map eI))),I x_12,B true] [⟨[false,false,false,false,false,false,false,false,false,false,false,false],[(0,.b (.one (.sl 8 (l0.map bd)))),(1,.b (.one (.sl 8 (one0.map bd)))),(2,.b (.one (.sl 8 (two0.map bd)))),(7,Pt 101 0),(9,Pt 102 0),(10,I i_6)],[(101,.box 25 (ao b0)),(102,.box 49 (ar s_5))],[true,true,true,true,true,true,true,true,true,true,true,true],[],[]⟩,⟨[false,false,false,false,false,false,false,false,false,false,false,true],[(0,.b (.one (.sl 8 (l0.map bd)))),(1,.b (.one (.sl 8 (one0.map bd)))),(2,.b (.one (.sl 8 (two0.map bd)))),(7,Pt 101 0),(9,Pt 102 0),(10,I i_6)],[(101,.box 25 (ao b0)),(102,.box 49 (ar x_9))],[true,true,true,true,true,true,true,true,true,true,true,true],[0,1,2,3,4,5,6,7,11],[]⟩] rfl (⟨by kernel_rfl,⟨⟨.b (.agg (ar s_5)),fun _=>rfl,fun _=>.p (by exact bo aH rfl rfl rfl rfl)⟩,⟨.b (.one (.sl 8 (l0.map bd))),fun _=>rfl,fun _=>.p (by exact aP rfl)⟩,⟨I i_6,fun _=>rfl,fun _=>.p (by exact aP rfl)⟩,⟨.b (.aO (bd x_8)),fun _=>rfl,fun _=>.p (by exact aN jo (aX e14) (bn (e:=bd) e14) rfl rfl)⟩,⟨.b (.agg (bd x_8)),fun _=>rfl,fun _=>.p (by exact bj oB rfl rfl rfl)⟩,⟨.dF [.agg (ar x_9),.one (.sl 1 (x_10.map eI)),.one (.sl 1 (x_11.map eI)),.one (.i x_12)],fun _=>rfl,fun _=>.p (by exact ak (ek e15) td rfl rfl)⟩,⟨.dF [.agg (ar x_9),.one (.sl 1 (x_10.map eI)),.one (.sl 1 (x_11.map eI)),.one (.i x_12)],fun _=>rfl,fun _=>.p (by exact aP rfl)⟩,⟨.b (.agg (ar x_9)),fun _=>rfl,fun _=>.p (by exact an rfl rfl)⟩,⟨.b (.one (.sl 1 (x_10.map eI))),fun _=>rfl,fun _=>.p (by exact an rfl rfl)⟩,⟨.b (.one (.sl 1 (x_11.map eI))),fun _=>rfl,fun _=>.p (by exact an rfl rfl)⟩,⟨I x_12,fun _=>rfl,fun _=>.p (by exact an rfl rfl)⟩,⟨_,[],.b (.one .any),rfl,(fun e=>by simp at e),rfl,rfl,fun _=>.qE [101,102] (by exact .p (by exact aB aH rfl rfl rfl rfl (Nat.le_of_ble_eq_true rfl) rfl)) (by exact rfl)⟩,trivial⟩,⟨by kernel_rfl,⟨trivial,trivial,trivial,trivial,trivial,trivial,trivial,trivial,⟨.b (.one (.sl 1 (x_10.map eI))),fun _=>rfl,fun _=>.p (by exact an rfl rfl)⟩,⟨.b (.one (.sl 1 (x_11.map eI))),fun _=>rfl,fun _=>.p (by exact an rfl rfl)⟩,⟨I x_12,fun _=>rfl,fun _=>.p (by exact an rfl rfl)⟩,trivial,trivial⟩,trivial⟩⟩) rfl rfl rfl [0,1,2,7,9,10] [101,102] (s':=⟨[(0,_),(1,_),(2,_),(7,_),(9,_),(10,_)],[(101,_),(102,.box 49 (ar x_9))]⟩) rfl ?_
    refine Fin.au (Fin.ag ⟨[(0,_),(1,_),(2,_),(7,_),(9,_),(10,_)],[(101,_),(102,_)]⟩ rfl (Fin.then (ab.aa ?_)))
    refine Oc om (Oc (br rfl rfl) (Oc oa ?_))
    refine ae.nil ?_
    exact Fin.bO [0,1,2,7,9,10] [101,102] (x_9,IntKind.i64.wrap (i_6 + 1)) (Option.some.inj h12) rfl
   ·refine ab.exit (Fin.ax ?_)
    obtain rfl:=hy13 _ (Option.some.inj h12).symm
    refine Fin.ax (Fin.aQ ?_)
    exact Fin.join [0,1,2,7,9] [101,102] s_5 rfl rfl
  ·rintro s_4 hv
   subst v9
   refine ab.seq (ab.aa ?_)
   refine Oc (lp aH) (Oc (aT (k:=103) dK rfl) (Oc (aB aH rfl rfl rfl rfl (Nat.le_of_ble_eq_true rfl) rfl) ?_))
   refine ae.ai ⟨[(0,_),(1,_),(2,_),(7,_),(9,_),(11,Pt 103 0)],[(101,_),(102,_),(103,.box 49 (ar s_4))]⟩ rfl (ab.seq (ab.aa ?_))
   refine Oc (lp aH) (Oc (aT (k:=104) dK rfl) (Oc (aB aH rfl rfl rfl rfl (Nat.le_of_ble_eq_true rfl) rfl) ?_))
   refine ae.ai ⟨[(0,_),(1,_),(2,_),(7,_),(9,_),(11,_),(12,Pt 104 0)],[(101,_),(102,_),(103,_),(104,.box 49 (ar s_4))]⟩ rfl ?_
   obtain ⟨v16,h17,h⟩:=aL h
   refine ab.c6 (v:=v16) (fun (x_13:b4)=>⟨[(0,.b (.one (.sl 8 (l0.map bd)))),(1,.b (.one (.sl 8 (one0.map bd)))),(2,.b (.one (.sl 8 (two0.map bd)))),(7,Pt 101 0),(9,Pt 102 0),(11,Pt 103 0),(12,Pt 104 0)],[(101,.box 25 (ao b0)),(102,.box 49 (ar s_4)),(103,.box 49 (ar x_13)),(104,.box 49 (ar s_4))]⟩) (fun z=>z) ?_ ?_
   ·refine ab.seq (ab.aa ?_)
    refine Oc oa (ae.ai ⟨[(0,_),(1,_),(2,_),(7,_),(9,_),(11,_),(12,_),(13,I 0)],[(101,_),(102,_),(103,_),(104,_)]⟩ rfl (ab.block (ab.cN h17 (dd fun (x_14:b4) (i_15:Int)=>⟨[(0,.b (.one (.sl 8 (l0.map bd)))),(1,.b (.one (.sl 8 (one0.map bd)))),(2,.b (.one (.sl 8 (two0.map bd)))),(7,Pt 101 0),(9,Pt 102 0),(11,Pt 103 0),(12,Pt 104 0),(13,I i_15)],[(101,.box 25 (ao b0)),(102,.box 49 (ar s_4)),(103,.box 49 (ar x_14)),(104,.box 49 (ar s_4))]⟩) [0,1,2,7,9,11,12,13] [101,102,103,104] rfl ?_)))
    rintro ⟨x_14,i_15⟩ o18 h19 hy20
    refine ab.seq (ab.seq (ab.aa ?_))
    refine Oc om (Oc om (Oc (aY oP rfl (List.length_map _)) (Oc (bb rfl rfl) ?_)))
    refine ae.ai ⟨[(0,_),(1,_),(2,_),(7,_),(9,_),(11,_),(12,_),(13,_),(56,B (decide (i_15 < (one0.length:Int))))],[(101,_),(102,_),(103,_),(104,_)]⟩ rfl (ab.ite h19 rfl (fun _ h19=>?_) (fun _ h19=>?_))
    ·refine ab.skip (Fin.ag ⟨[(0,_),(1,_),(2,_),(7,_),(9,_),(11,_),(12,_),(13,_)],[(101,_),(102,_),(103,_),(104,_)]⟩ rfl (Fin.then (ab.seq (ab.block ?_))))
     refine ab.ag ⟨[(0,_),(1,_),(2,_),(7,_),(9,_),(11,_),(12,_),(13,_)],[(101,_),(102,_),(103,_),(104,_)]⟩ rfl ?_
     obtain ⟨x_17,e21,h19⟩:=aL h19
     obtain ⟨⟨x_18,x_19,x_20,x_21⟩,e22,h19⟩:=aL h19
     refine ab.jE mixed [false,false,false,false,false,false,false,false,false,false,false,true] [.b (.agg (ar x_14)),.b (.one (.sl 8 (one0.map bd))),I i_15,.b (.aO (bd x_17)),.b (.agg (bd x_17)),.dF [.agg (ar x_18),.one (.sl 1 (x_19.map eI)),.one (.sl 1 (x_20.map eI)),.one (.i x_21)],.dF [.agg (ar x_18),.one (.sl 1 (x_19.map eI)),.one (.sl 1 (x_20.map eI)),.one (.i x_21)],.b (.agg (ar x_18)),.b (.one (.sl 1 (x_19.map eI))),.b (.one (.sl 1 (x_20.map eI))),I x_21,B true] [⟨[false,false,false,false,false,false,false,false,false,false,false,false],[(0,.b (.one (.sl 8 (l0.map bd)))),(1,.b (.one (.sl 8 (one0.map bd)))),(2,.b (.one (.sl 8 (two0.map bd)))),(7,Pt 101 0),(9,Pt 102 0),(11,Pt 103 0),(12,Pt 104 0),(13,I i_15)],[(101,.box 25 (ao b0)),(102,.box 49 (ar s_4)),(103,.box 49 (ar x_14)),(104,.box 49 (ar s_4))],[true,true,true,true,true,true,true,true,true,true,true,true],[],[]⟩,⟨[false,false,false,false,false,false,false,false,false,false,false,true],[(0,.b (.one (.sl 8 (l0.map bd)))),(1,.b (.one (.sl 8 (one0.map bd)))),(2,.b (.one (.sl 8 (two0.map bd)))),(7,Pt 101 0),(9,Pt 102 0),(11,Pt 103 0),(12,Pt 104 0),(13,I i_15)],[(101,.box 25 (ao b0)),(102,.box 49 (ar s_4)),(103,.box 49 (ar x_18)),(104,.box 49 (ar s_4))],[true,true,true,true,true,true,true,true,true,true,true,true],[0,1,2,3,4,5,6,7,11],[]⟩] rfl (⟨by kernel_rfl,⟨⟨.b (.agg (ar x_14)),fun _=>rfl,fun _=>.p (by exact bo aH rfl rfl rfl rfl)⟩,⟨.b (.one (.sl 8 (one0.map bd))),fun _=>rfl,fun _=>.p (by exact aP rfl)⟩,⟨I i_15,fun _=>rfl,fun _=>.p (by exact aP rfl)⟩,⟨.b (.aO (bd x_17)),fun _=>rfl,fun _=>.p (by exact aN jo (aX e21) (bn (e:=bd) e21) rfl rfl)⟩,⟨.b (.agg (bd x_17)),fun _=>rfl,fun _=>.p (by exact bj oB rfl rfl rfl)⟩,⟨.dF [.agg (ar x_18),.one (.sl 1 (x_19.map eI)),.one (.sl 1 (x_20.map eI)),.one (.i x_21)],fun _=>rfl,fun _=>.p (by exact ak (ek e22) td rfl rfl)⟩,⟨.dF [.agg (ar x_18),.one (.sl 1 (x_19.map eI)),.one (.sl 1 (x_20.map eI)),.one (.i x_21)],fun _=>rfl,fun _=>.p (by exact aP rfl)⟩,⟨.b (.agg (ar x_18)),fun _=>rfl,fun _=>.p (by exact an rfl rfl)⟩,⟨.b (.one (.sl 1 (x_19.map eI))),fun _=>rfl,fun _=>.p (by exact an rfl rfl)⟩,⟨.b (.one (.sl 1 (x_20.map eI))),fun _=>rfl,fun _=>.p (by exact an rfl rfl)⟩,⟨I x_21,fun _=>rfl,fun _=>.p (by exact an rfl rfl)⟩,⟨_,[],.b (.one .any),rfl,(fun e=>by simp at e),rfl,rfl,fun _=>.qE [101,102,103,104] (by exact .p (by exact aB aH rfl rfl rfl rfl (Nat.le_of_ble_eq_true rfl) rfl)) (by exact rfl)⟩,trivial⟩,⟨by kernel_rfl,⟨trivial,trivial,trivial,trivial,trivial,trivial,trivial,trivial,⟨.b (.one (.sl 1 (x_19.map eI))),fun _=>rfl,fun _=>.p (by exact an rfl rfl)⟩,⟨.b (.one (.sl 1 (x_20.map eI))),fun _=>rfl,fun _=>.p (by exact an rfl rfl)⟩,⟨I x_21,fun _=>rfl,fun _=>.p (by exact an rfl rfl)⟩,trivial,trivial⟩,trivial⟩⟩) rfl rfl rfl [0,1,2,7,9,11,12,13] [101,102,103,104] (s':=⟨[(0,_),(1,_),(2,_),(7,_),(9,_),(11,_),(12,_),(13,_)],[(101,_),(102,_),(103,.box 49 (ar x_18)),(104,_)]⟩) rfl ?_
     refine Fin.au (Fin.ag ⟨[(0,_),(1,_),(2,_),(7,_),(9,_),(11,_),(12,_),(13,_)],[(101,_),(102,_),(103,_),(104,_)]⟩ rfl (Fin.then (ab.aa ?_)))
     refine Oc om (Oc (br rfl rfl) (Oc oa ?_))
     refine ae.nil ?_
     exact Fin.bO [0,1,2,7,9,11,12,13] [101,102,103,104] (x_18,IntKind.i64.wrap (i_15 + 1)) (Option.some.inj h19) rfl
    ·refine ab.exit (Fin.ax ?_)
     obtain rfl:=hy20 _ (Option.some.inj h19).symm
     refine Fin.ax (Fin.aQ ?_)
     exact Fin.join [0,1,2,7,9,11,12] [101,102,103,104] x_14 rfl rfl
   ·rintro x_13 hv
    subst v16
    obtain ⟨v23,h24,h⟩:=aL h
    refine ab.c6 (v:=v23) (fun (y_22:b4)=>⟨[(0,.b (.one (.sl 8 (l0.map bd)))),(1,.b (.one (.sl 8 (one0.map bd)))),(2,.b (.one (.sl 8 (two0.map bd)))),(7,Pt 101 0),(9,Pt 102 0),(11,Pt 103 0),(12,Pt 104 0)],[(101,.box 25 (ao b0)),(102,.box 49 (ar s_4)),(103,.box 49 (ar x_13)),(104,.box 49 (ar y_22))]⟩) (fun z=>z) ?_ ?_
    ·refine ab.seq (ab.aa ?_)
     refine Oc oa (ae.ai ⟨[(0,_),(1,_),(2,_),(7,_),(9,_),(11,_),(12,_),(14,I 0)],[(101,_),(102,_),(103,_),(104,_)]⟩ rfl (ab.block (ab.cN h24 (dd fun (y_23:b4) (i_24:Int)=>⟨[(0,.b (.one (.sl 8 (l0.map bd)))),(1,.b (.one (.sl 8 (one0.map bd)))),(2,.b (.one (.sl 8 (two0.map bd)))),(7,Pt 101 0),(9,Pt 102 0),(11,Pt 103 0),(12,Pt 104 0),(14,I i_24)],[(101,.box 25 (ao b0)),(102,.box 49 (ar s_4)),(103,.box 49 (ar x_13)),(104,.box 49 (ar y_23))]⟩) [0,1,2,7,9,11,12,14] [101,102,103,104] rfl ?_)))
     rintro ⟨y_23,i_24⟩ o25 h26 hy27
     refine ab.seq (ab.seq (ab.aa ?_))
     refine Oc om (Oc om (Oc (aY oP rfl (List.length_map _)) (Oc (bb rfl rfl) ?_)))
     refine ae.ai ⟨[(0,_),(1,_),(2,_),(7,_),(9,_),(11,_),(12,_),(14,_),(73,B (decide (i_24 < (two0.length:Int))))],[(101,_),(102,_),(103,_),(104,_)]⟩ rfl (ab.ite h26 rfl (fun _ h26=>?_) (fun _ h26=>?_))
     ·refine ab.skip (Fin.ag ⟨[(0,_),(1,_),(2,_),(7,_),(9,_),(11,_),(12,_),(14,_)],[(101,_),(102,_),(103,_),(104,_)]⟩ rfl (Fin.then (ab.seq (ab.block ?_))))
      refine ab.ag ⟨[(0,_),(1,_),(2,_),(7,_),(9,_),(11,_),(12,_),(14,_)],[(101,_),(102,_),(103,_),(104,_)]⟩ rfl ?_
      obtain ⟨x_26,e28,h26⟩:=aL h26
      obtain ⟨⟨x_27,x_28,x_29,x_30⟩,e29,h26⟩:=aL h26
      refine ab.jE mixed [false,false,false,false,false,false,false,false,false,false,false,true] [.b (.agg (ar y_23)),.b (.one (.sl 8 (two0.map bd))),I i_24,.b (.aO (bd x_26)),.b (.agg (bd x_26)),.dF [.agg (ar x_27),.one (.sl 1 (x_28.map eI)),.one (.sl 1 (x_29.map eI)),.one (.i x_30)],.dF [.agg (ar x_27),.one (.sl 1 (x_28.map eI)),.one (.sl 1 (x_29.map eI)),.one (.i x_30)],.b (.agg (ar x_27)),.b (.one (.sl 1 (x_28.map eI))),.b (.one (.sl 1 (x_29.map eI))),I x_30,B true] [⟨[false,false,false,false,false,false,false,false,false,false,false,false],[(0,.b (.one (.sl 8 (l0.map bd)))),(1,.b (.one (.sl 8 (one0.map bd)))),(2,.b (.one (.sl 8 (two0.map bd)))),(7,Pt 101 0),(9,Pt 102 0),(11,Pt 103 0),(12,Pt 104 0),(14,I i_24)],[(101,.box 25 (ao b0)),(102,.box 49 (ar s_4)),(103,.box 49 (ar x_13)),(104,.box 49 (ar y_23))],[true,true,true,true,true,true,true,true,true,true,true,true],[],[]⟩,⟨[false,false,false,false,false,false,false,false,false,false,false,true],[(0,.b (.one (.sl 8 (l0.map bd)))),(1,.b (.one (.sl 8 (one0.map bd)))),(2,.b (.one (.sl 8 (two0.map bd)))),(7,Pt 101 0),(9,Pt 102 0),(11,Pt 103 0),(12,Pt 104 0),(14,I i_24)],[(101,.box 25 (ao b0)),(102,.box 49 (ar s_4)),(103,.box 49 (ar x_13)),(104,.box 49 (ar x_27))],[true,true,true,true,true,true,true,true,true,true,true,true],[0,1,2,3,4,5,6,7,11],[]⟩] rfl (⟨by kernel_rfl,⟨⟨.b (.agg (ar y_23)),fun _=>rfl,fun _=>.p (by exact bo aH rfl rfl rfl rfl)⟩,⟨.b (.one (.sl 8 (two0.map bd))),fun _=>rfl,fun _=>.p (by exact aP rfl)⟩,⟨I i_24,fun _=>rfl,fun _=>.p (by exact aP rfl)⟩,⟨.b (.aO (bd x_26)),fun _=>rfl,fun _=>.p (by exact aN jo (aX e28) (bn (e:=bd) e28) rfl rfl)⟩,⟨.b (.agg (bd x_26)),fun _=>rfl,fun _=>.p (by exact bj oB rfl rfl rfl)⟩,⟨.dF [.agg (ar x_27),.one (.sl 1 (x_28.map eI)),.one (.sl 1 (x_29.map eI)),.one (.i x_30)],fun _=>rfl,fun _=>.p (by exact ak (ek e29) td rfl rfl)⟩,⟨.dF [.agg (ar x_27),.one (.sl 1 (x_28.map eI)),.one (.sl 1 (x_29.map eI)),.one (.i x_30)],fun _=>rfl,fun _=>.p (by exact aP rfl)⟩,⟨.b (.agg (ar x_27)),fun _=>rfl,fun _=>.p (by exact an rfl rfl)⟩,⟨.b (.one (.sl 1 (x_28.map eI))),fun _=>rfl,fun _=>.p (by exact an rfl rfl)⟩,⟨.b (.one (.sl 1 (x_29.map eI))),fun _=>rfl,fun _=>.p (by exact an rfl rfl)⟩,⟨I x_30,fun _=>rfl,fun _=>.p (by exact an rfl rfl)⟩,⟨_,[],.b (.one .any),rfl,(fun e=>by simp at e),rfl,rfl,fun _=>.qE [101,102,103,104] (by exact .p (by exact aB aH rfl rfl rfl rfl (Nat.le_of_ble_eq_true rfl) rfl)) (by exact rfl)⟩,trivial⟩,⟨by kernel_rfl,⟨trivial,trivial,trivial,trivial,trivial,trivial,trivial,trivial,⟨.b (.one (.sl 1 (x_28.map eI))),fun _=>rfl,fun _=>.p (by exact an rfl rfl)⟩,⟨.b (.one (.sl 1 (x_29.map eI))),fun _=>rfl,fun _=>.p (by exact an rfl rfl)⟩,⟨I x_30,fun _=>rfl,fun _=>.p (by exact an rfl rfl)⟩,trivial,trivial⟩,trivial⟩⟩) rfl rfl rfl [0,1,2,7,9,11,12,14] [101,102,103,104] (s':=⟨[(0,_),(1,_),(2,_),(7,_),(9,_),(11,_),(12,_),(14,_)],[(101,_),(102,_),(103,_),(104,.box 49 (ar x_27))]⟩) rfl ?_
      refine Fin.au (Fin.ag ⟨[(0,_),(1,_),(2,_),(7,_),(9,_),(11,_),(12,_),(14,_)],[(101,_),(102,_),(103,_),(104,_)]⟩ rfl (Fin.then (ab.aa ?_)))
      refine Oc om (Oc (br rfl rfl) (Oc oa ?_))
      refine ae.nil ?_
      exact Fin.bO [0,1,2,7,9,11,12,14] [101,102,103,104] (x_27,IntKind.i64.wrap (i_24 + 1)) (Option.some.inj h26) rfl
     ·refine ab.exit (Fin.ax ?_)
      obtain rfl:=hy27 _ (Option.some.inj h26).symm
      refine Fin.ax (Fin.aQ ?_)
      exact Fin.join [0,1,2,7,9,11,12] [101,102,103,104] y_23 rfl rfl
    ·rintro y_22 hv
     subst v23
     refine ab.seq (ab.aa ?_)
     refine Oc (qq (k:=105) jo rfl) (Oc om ?_)
     obtain ⟨x_31,e30,h⟩:=aL h
     refine Oc (gC jo (gh e30) (gg e30) rfl rfl rfl (du e30) rfl) (Oc oa ?_)
     refine ae.ai ⟨[(0,_),(1,_),(2,_),(7,_),(9,_),(11,_),(12,_),(15,.b (.row 105))],[(101,_),(102,_),(103,_),(104,_),(105,.row 55 8 (x_31.map bd))]⟩ rfl (ab.seq ?_)
     obtain ⟨x_32,e31,h⟩:=aL h
     obtain ⟨x_33,e32,h⟩:=aL h
     refine ab.bE mixed 6 [.b (.agg (ar s_4)),.b (.one (.sl 8 (l0.map bd))),.b (.one (.sl 7 (x_32.map aj))),.b (.agg (ao b0)),B x_33,B x_33] [0,1,2,7,11,12,15,16] [101,103,104,105] (s':=⟨[(0,_),(1,_),(2,_),(7,_),(11,_),(12,_),(15,_),(16,B x_33)],[(101,_),(103,_),(104,_),(105,_)]⟩) rfl ⟨fun _=>.p (lp aH),fun _=>.p om,fun _=>.p (ak (ee e31) s5 rfl rfl),fun _=>.p (lp aC),fun _=>.p (ak (eh e32) s7 rfl rfl),fun _=>.p oa,trivial⟩ rfl rfl (ab.seq (ab.ag ⟨[(0,_),(1,_),(2,_),(7,_),(11,_),(12,_),(15,_),(16,_)],[(101,_),(103,_),(104,_),(105,_)]⟩ rfl ?_))
     obtain ⟨x_34,e33,h⟩:=aL h
     obtain ⟨x_35,e34,h⟩:=aL h
     obtain ⟨x_36,e35,h⟩:=aL h
     refine ab.jb mixed [false,false,false,true,false,false,false,false] [.b (.agg (ar x_13)),.b (.row 105),.b (.one (.sl 8 (one0.map bd))),.b (.one (.sl 8 (x_34.map bd))),.b (.one (.sl 7 (x_35.map aj))),.b (.agg (ao b0)),B x_36,B x_36] [⟨[false,false,false,false,false,false,false,false],[(0,.b (.one (.sl 8 (l0.map bd)))),(1,.b (.one (.sl 8 (one0.map bd)))),(2,.b (.one (.sl 8 (two0.map bd)))),(7,Pt 101 0),(11,Pt 103 0),(12,Pt 104 0),(15,.b (.row 105)),(16,B x_33)],[(101,.box 25 (ao b0)),(103,.box 49 (ar x_13)),(104,.box 49 (ar y_22)),(105,.row 55 8 (x_31.map bd))],[true,true,true,true,true,true,true,true],[],[4,6,7]⟩,⟨[false,false,false,true,false,false,false,false],[(0,.b (.one (.sl 8 (l0.map bd)))),(1,.b (.one (.sl 8 (one0.map bd)))),(2,.b (.one (.sl 8 (two0.map bd)))),(7,Pt 101 0),(11,Pt 103 0),(12,Pt 104 0),(16,B x_33)],[(101,.box 25 (ao b0)),(103,.box 49 (ar x_13)),(104,.box 49 (ar y_22))],[true,false,true,true,true,true,true,true],[1,2,3],[]⟩] rfl (⟨by kernel_rfl,⟨⟨.b (.agg (ar x_13)),fun _=>rfl,fun _=>.p (by exact bo aH rfl rfl rfl rfl)⟩,⟨.b (.row 105),fun _=>rfl,fun _=>.p (by exact aP rfl)⟩,⟨.b (.one (.sl 8 (one0.map bd))),fun _=>rfl,fun _=>.p (by exact aP rfl)⟩,⟨_,[105],.b (.one (.sl 8 (x_34.map bd))),rfl,fun _=>rfl,rfl,rfl,fun _=>.qE [101,103,104] (by exact .p (by exact bA.persD 105 (gC jo (gh e33) (gg e33) rfl rfl rfl (du e33) rfl) rfl)) (by exact rfl)⟩,trivial,⟨.b (.agg (ao b0)),fun _=>rfl,fun _=>.p (by exact bo aC rfl rfl rfl rfl)⟩,trivial,trivial,trivial⟩,⟨by kernel_rfl,⟨⟨.b (.agg (ar x_13)),fun _=>rfl,fun _=>.p (by exact bo aH rfl rfl rfl rfl)⟩,trivial,trivial,trivial,⟨.b (.one (.sl 7 (x_35.map aj))),fun _=>rfl,fun _=>.p (by exact ak (ee e34) s5 rfl rfl)⟩,⟨.b (.agg (ao b0)),fun _=>rfl,fun _=>.p (by exact bo aC rfl rfl rfl rfl)⟩,⟨B x_36,fun _=>rfl,fun _=>.p (by exact ak (eh e35) s7 rfl rfl)⟩,⟨B x_36,fun _=>rfl,fun _=>.p (by exact bR rfl)⟩,trivial⟩,trivial⟩⟩) rfl rfl rfl [0,2,7,12,16,17] [101,104] (s':=⟨[(0,_),(2,_),(7,_),(12,_),(16,_),(17,B x_36)],[(101,_),(104,_)]⟩) rfl (ab.seq (ab.aa ?_))
     refine Oc (qq (k:=106) jo rfl) (Oc om ?_)
     obtain ⟨x_37,e36,h⟩:=aL h
     refine Oc (gC jo (gh e36) (gg e36) rfl rfl rfl (du e36) rfl) (Oc oa ?_)
     refine ae.ai ⟨[(2,_),(7,_),(12,_),(15,.b (.row 106)),(16,_),(17,_)],[(101,_),(104,_),(106,.row 55 8 (x_37.map bd))]⟩ rfl (ab.seq ?_)
     obtain ⟨x_38,e37,h⟩:=aL h
     obtain ⟨x_39,e38,h⟩:=aL h
     obtain ⟨x_40,e39,h⟩:=aL h
     refine ab.jb mixed [false,false,false,true,false,false,false,false] [.b (.agg (ar y_22)),.b (.row 106),.b (.one (.sl 8 (two0.map bd))),.b (.one (.sl 8 (x_38.map bd))),.b (.one (.sl 7 (x_39.map aj))),.b (.agg (ao b0)),B x_40,B x_40] [⟨[false,false,false,false,false,false,false,false],[(2,.b (.one (.sl 8 (two0.map bd)))),(7,Pt 101 0),(12,Pt 104 0),(15,.b (.row 106)),(16,B x_33),(17,B x_36)],[(101,.box 25 (ao b0)),(104,.box 49 (ar y_22)),(106,.row 55 8 (x_37.map bd))],[true,true,true,true,true,true,true,true],[],[4,6,7]⟩,⟨[false,false,false,true,false,false,false,false],[(2,.b (.one (.sl 8 (two0.map bd)))),(7,Pt 101 0),(12,Pt 104 0),(16,B x_33),(17,B x_36)],[(101,.box 25 (ao b0)),(104,.box 49 (ar y_22))],[true,false,true,true,true,true,true,true],[1,2,3],[]⟩] rfl (⟨by kernel_rfl,⟨⟨.b (.agg (ar y_22)),fun _=>rfl,fun _=>.p (by exact bo aH rfl rfl rfl rfl)⟩,⟨.b (.row 106),fun _=>rfl,fun _=>.p (by exact aP rfl)⟩,⟨.b (.one (.sl 8 (two0.map bd))),fun _=>rfl,fun _=>.p (by exact aP rfl)⟩,⟨_,[106],.b (.one (.sl 8 (x_38.map bd))),rfl,fun _=>rfl,rfl,rfl,fun _=>.qE [101,104] (by exact .p (by exact bA.persD 106 (gC jo (gh e37) (gg e37) rfl rfl rfl (du e37) rfl) rfl)) (by exact rfl)⟩,trivial,⟨.b (.agg (ao b0)),fun _=>rfl,fun _=>.p (by exact bo aC rfl rfl rfl rfl)⟩,trivial,trivial,trivial⟩,⟨by kernel_rfl,⟨⟨.b (.agg (ar y_22)),fun _=>rfl,fun _=>.p (by exact bo aH rfl rfl rfl rfl)⟩,trivial,trivial,trivial,⟨.b (.one (.sl 7 (x_39.map aj))),fun _=>rfl,fun _=>.p (by exact ak (ee e38) s5 rfl rfl)⟩,⟨.b (.agg (ao b0)),fun _=>rfl,fun _=>.p (by exact bo aC rfl rfl rfl rfl)⟩,⟨B x_40,fun _=>rfl,fun _=>.p (by exact ak (eh e39) s7 rfl rfl)⟩,⟨B x_40,fun _=>rfl,fun _=>.p (by exact bR rfl)⟩,trivial⟩,trivial⟩⟩) rfl rfl rfl [16,17,18] [] (s':=⟨[(16,_),(17,_),(18,B x_40)],[]⟩) rfl (ab.seq (ab.aa ?_))
     obtain ⟨x_41,e40,h⟩:=aL h
     refine Oc (ak (fu e40) vI rfl rfl) (Oc om ?_)
     refine eZ x_41 [] (fun g41=>trivial) (fun g41=>om) (Oc (aJ (fun e=>e) rfl rfl rfl rfl) (Oc om ?_))
     refine ae.ag ⟨[(17,_),(18,_),(116,B (x_41 && x_33))],[]⟩ rfl (eZ (x_41 && x_33) [] (fun g42=>trivial) (fun g42=>om) (Oc (aJ (fun e=>e) rfl rfl rfl rfl) (Oc om ?_)))
     refine eZ ((x_41 && x_33) && x_36) [] (fun g43=>trivial) (fun g43=>om) (Oc (aJ (fun e=>e) rfl rfl rfl rfl) (Oc oa ?_))
     refine ae.ai ⟨[(8,B (((x_41 && x_33) && x_36) && x_40))],[]⟩ rfl (ab.ret ?_)
     obtain rfl:=Option.some.inj h
     refine Fin.ag ⟨[(8,_)],[]⟩ rfl (Fin.aA [.one (.bool (((x_41 && x_33) && x_36) && x_40))] (.inl rfl) rfl (.cons (.tmp rfl) .nil) ⟨rfl,rfl⟩)
end Go.Proofs.YtagpkeehkcopaaaGreat

