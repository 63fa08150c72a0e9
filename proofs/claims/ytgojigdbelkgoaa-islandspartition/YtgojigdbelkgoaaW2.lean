/- printed walks -/
import Derived.Test.YtgojigdbelkgoaaW1
namespace Go.Proofs.Ytgojigdbelkgoaa
open Go.Sk Go
set_option maxHeartbeats 4000000
set_option maxRecDepth 4000
set_option linter.unusedSimpArgs false
set_option linter.unusedVariables false
def dO (F:Nat) (fixed0:List Bool) (links0:List A2):Option ((List Int) × (List Int)) :=
 (cL F fixed0 links0).bind fun x_1=>(cX F (fixed0.length:Int) links0 x_1).bind fun x_2=>Option.bind (mk? (0:Int) (fixed0.length:Int) (fixed0.length:Int)) (fun x_3=>Option.bind (mk? (0:Int) (fixed0.length:Int) (fixed0.length:Int)) (fun x_4=>Option.bind (iter F (un6 fun keysf0_7 bridgesf0_8 seenf0_9 visitf0_10 visitf0f0_11 x_12=>if (decide (x_12 < (fixed0.length:Int))) = true then (Option.bind ((aM fixed0 x_12).bind fun x_20=>(ca (!x_20) (aM seenf0_9 x_12)).bind fun x_21=>if ((!x_20) && (decide (x_21 = 0))) = true then (Option.bind (iE F x_12 (-1) visitf0_10 seenf0_9 visitf0f0_11 x_2 bridgesf0_8 keysf0_7) (un5 fun x_22 x_23 x_24 x_25 x_26=>some (x_26,x_25,x_23,x_22,x_24))) else (some (keysf0_7,bridgesf0_8,seenf0_9,visitf0_10,visitf0f0_11))) (un5 fun keysf0_15 bridgesf0_16 seenf0_17 visitf0_18 visitf0f0_19=>some (.inl (keysf0_15,bridgesf0_16,seenf0_17,visitf0_18,visitf0f0_19,IntKind.i64.wrap (x_12 + 1))))) else (some (.inr (keysf0_7,bridgesf0_8)))) ([],[],x_3,0,x_4,0)) (cq fun keysf0_5 bridgesf0_6=>(cz F keysf0_5).bind fun x_27=>(cz F bridgesf0_6).bind fun x_28=>some (x_27,x_28))))
theorem hH {F:Nat} {fixed0:List Bool} {links0:List A2} {r:(List Int) × (List Int)} (h:dO F fixed0 links0 = some r):ax Try.prog [] 39 [] [.one (.sl 1 (fixed0.map eB)),.one (.sl 2 (links0.map (cm .i64)))] (Is [] (.dW [.one (.sl 1 (r.1.map eI)),.one (.sl 1 (r.2.map eI))])):=by
 unfold dO at h
 refine ax.intro 53 Try.func39 Try.ntmps39 rfl (by simp) fun E=>?_
 show ab _ E ⟨53,[],[],[]⟩ _ ⟨[(0,.b (.one (.sl 1 (fixed0.map eB)))),(1,.b (.one (.sl 2 (links0.map (cm .i64)))))],[]⟩ _
 refine ab.seq (ab.aa ?_)
 refine Oc (bd (k:=101) bZ rfl) (Oc (bd (k:=102) bZ rfl) ?_)
 refine ae.ag ⟨[(0,.b (.one (.sl 1 (fixed0.map eB)))),(1,.b (.one (.sl 2 (links0.map (cm .i64))))),(4,Pt 101 0),(5,Pt 102 0)],[(101,.box 30 [.nil]),(102,.box 30 [.nil])]⟩ rfl (ab.seq (ab.aa ?_))
 refine Oc om (Oc (av cH rfl (List.length_map _)) (Oc om (Oc om (Oc om ?_))))
 refine ae.af ⟨[(0,_),(4,_),(5,_),(14,I (fixed0.length:Int)),(15,.b (.one (.sl 2 (links0.map (cm .i64))))),(16,.b (.one (.sl 1 (fixed0.map eB)))),(17,.b (.one (.sl 2 (links0.map (cm .i64)))))],[(101,_),(102,_)]⟩ rfl ?_
 obtain ⟨x_1,e1,h⟩:=aL h
 refine Oc (bh (gj 103 e1) qg rfl trivial rfl rfl) (ae.bH 103 rfl ?_)
 obtain ⟨x_2,e2,h⟩:=aL h
 refine Oc (ba (eJ e2) qk rfl rfl) (Oc (bd (k:=104) qC rfl) (Oc (fp oW rfl rfl rfl (Nat.le_of_ble_eq_true rfl) rfl) ?_))
 refine ae.ag ⟨[(0,.b (.one (.sl 1 (fixed0.map eB)))),(4,Pt 101 0),(5,Pt 102 0),(6,Pt 104 0)],[(101,.box 30 [.nil]),(102,.box 30 [.nil]),(104,.box 56 [.sl 1 (x_2.map (eL 2 aQ))])]⟩ rfl (ab.seq ?_)
 obtain ⟨x_3,e3,h⟩:=aL h
 obtain ⟨x_4,e4,h⟩:=aL h
 refine ab.lK mixed [false,false,true,false,false,true,true,true,true,true] [.b (.one (.sl 1 (fixed0.map eB))),I (fixed0.length:Int),.b (.row 105),.b (.one (.sl 1 (fixed0.map eB))),I (fixed0.length:Int),.b (.row 106),Pt 107 0,Pt 108 0,B true,B true] [⟨[false,false,false,false,false,false,false,false,false,false],[(0,.b (.one (.sl 1 (fixed0.map eB)))),(4,Pt 101 0),(5,Pt 102 0),(6,Pt 104 0)],[(101,.box 30 [.nil]),(102,.box 30 [.nil]),(104,.box 56 [.sl 1 (x_2.map (eL 2 aQ))])],[true,true,true,true,true,true,true,true,true,true],[],[8,9]⟩,⟨[false,false,true,false,false,false,false,false,false,false],[(0,.b (.one (.sl 1 (fixed0.map eB)))),(4,Pt 101 0),(5,Pt 102 0),(6,Pt 104 0)],[(101,.box 30 [.nil]),(102,.box 30 [.nil]),(104,.box 56 [.sl 1 (x_2.map (eL 2 aQ))]),(105,.row 3 1 (x_3.map eI))],[true,true,true,true,true,true,true,true,true,true],[0,1,2],[8,9]⟩,⟨[false,false,false,false,false,true,false,false,false,false],[(0,.b (.one (.sl 1 (fixed0.map eB)))),(4,Pt 101 0),(5,Pt 102 0),(6,Pt 104 0)],[(101,.box 30 [.nil]),(102,.box 30 [.nil]),(104,.box 56 [.sl 1 (x_2.map (eL 2 aQ))]),(106,.row 3 1 (x_4.map eI))],[true,true,true,true,true,true,true,true,true,true],[3,4,5],[8,9]⟩,⟨[false,false,false,false,false,false,true,false,false,false],[(0,.b (.one (.sl 1 (fixed0.map eB)))),(4,Pt 101 0),(5,Pt 102 0),(6,Pt 104 0)],[(101,.box 30 [.nil]),(102,.box 30 [.nil]),(104,.box 56 [.sl 1 (x_2.map (eL 2 aQ))]),(107,.box 30 [.nil])],[true,true,true,true,true,true,true,true,true,true],[6],[8,9]⟩,⟨[false,false,false,false,false,false,false,true,false,false],[(0,.b (.one (.sl 1 (fixed0.map eB)))),(4,Pt 101 0),(5,Pt 102 0),(6,Pt 104 0)],[(101,.box 30 [.nil]),(102,.box 30 [.nil]),(104,.box 56 [.sl 1 (x_2.map (eL 2 aQ))]),(108,.box 30 [.nil])],[true,true,true,true,true,true,true,true,true,true],[7],[8,9]⟩,⟨[false,false,true,false,false,true,false,false,false,false],[(0,.b (.one (.sl 1 (fixed0.map eB)))),(4,Pt 101 0),(5,Pt 102 0),(6,Pt 104 0)],[(101,.box 30 [.nil]),(102,.box 30 [.nil]),(104,.box 56 [.sl 1 (x_2.map (eL 2 aQ))]),(105,.row 3 1 (x_3.map eI)),(106,.row 3 1 (x_4.map eI))],[true,true,true,true,true,true,true,true,true,true],[0,1,2,3,4,5],[8,9]⟩,⟨[false,false,true,false,false,false,true,false,false,false],[(0,.b (.one (.sl 1 (fixed0.map eB)))),(4,Pt 101 0),(5,Pt 102 0),(6,Pt 104 0)],[(101,.box 30 [.nil]),(102,.box 30 [.nil]),(104,.box 56 [.sl 1 (x_2.map (eL 2 aQ))]),(105,.row 3 1 (x_3.map eI)),(107,.box 30 [.nil])],[true,true,true,true,true,true,true,true,true,true],[0,1,2,6],[8,9]⟩,⟨[false,false,true,false,false,false,false,true,false,false],[(0,.b (.one (.sl 1 (fixed0.map eB)))),(4,Pt 101 0),(5,Pt 102 0),(6,Pt 104 0)],[(101,.box 30 [.nil]),(102,.box 30 [.nil]),(104,.box 56 [.sl 1 (x_2.map (eL 2 aQ))]),(105,.row 3 1 (x_3.map eI)),(108,.box 30 [.nil])],[true,true,true,true,true,true,true,true,true,true],[0,1,2,7],[8,9]⟩,⟨[false,false,false,false,false,true,true,false,false,false],[(0,.b (.one (.sl 1 (fixed0.map eB)))),(4,Pt 101 0),(5,Pt 102 0),(6,Pt 104 0)],[(101,.box 30 [.nil]),(102,.box 30 [.nil]),(104,.box 56 [.sl 1 (x_2.map (eL 2 aQ))]),(106,.row 3 1 (x_4.map eI)),(107,.box 30 [.nil])],[true,true,true,true,true,true,true,true,true,true],[3,4,5,6],[8,9]⟩,⟨[false,false,false,false,false,true,false,true,false,false],[(0,.b (.one (.sl 1 (fixed0.map eB)))),(4,Pt 101 0),(5,Pt 102 0),(6,Pt 104 0)],[(101,.box 30 [.nil]),(102,.box 30 [.nil]),(104,.box 56 [.sl 1 (x_2.map (eL 2 aQ))]),(106,.row 3 1 (x_4.map eI)),(108,.box 30 [.nil])],[true,true,true,true,true,true,true,true,true,true],[3,4,5,7],[8,9]⟩,⟨[false,false,false,false,false,false,true,true,false,false],[(0,.b (.one (.sl 1 (fixed0.map eB)))),(4,Pt 101 0),(5,Pt 102 0),(6,Pt 104 0)],[(101,.box 30 [.nil]),(102,.box 30 [.nil]),(104,.box 56 [.sl 1 (x_2.map (eL 2 aQ))]),(107,.box 30 [.nil]),(108,.box 30 [.nil])],[true,true,true,true,true,true,true,true,true,true],[6,7],[8,9]⟩,⟨[false,false,true,false,false,true,true,false,false,false],[(0,.b (.one (.sl 1 (fixed0.map eB)))),(4,Pt 101 0),(5,Pt 102 0),(6,Pt 104 0)],[(101,.box 30 [.nil]),(102,.box 30 [.nil]),(104,.box 56 [.sl 1 (x_2.map (eL 2 aQ))]),(105,.row 3 1 (x_3.map eI)),(106,.row 3 1 (x_4.map eI)),(107,.box 30 [.nil])],[true,true,true,true,true,true,true,true,true,true],[0,1,2,3,4,5,6],[8,9]⟩,⟨[false,false,true,false,false,true,false,true,false,false],[(0,.b (.one (.sl 1 (fixed0.map eB)))),(4,Pt 101 0),(5,Pt 102 0),(6,Pt 104 0)],[(101,.box 30 [.nil]),(102,.box 30 [.nil]),(104,.box 56 [.sl 1 (x_2.map (eL 2 aQ))]),(105,.row 3 1 (x_3.map eI)),(106,.row 3 1 (x_4.map eI)),(108,.box 30 [.nil])],[true,true,true,true,true,true,true,true,true,true],[0,1,2,3,4,5,7],[8,9]⟩,⟨[false,false,true,false,false,false,true,true,false,false],[(0,.b (.one (.sl 1 (fixed0.map eB)))),(4,Pt 101 0),(5,Pt 102 0),(6,Pt 104 0)],[(101,.box 30 [.nil]),(102,.box 30 [.nil]),(104,.box 56 [.sl 1 (x_2.map (eL 2 aQ))]),(105,.row 3 1 (x_3.map eI)),(107,.box 30 [.nil]),(108,.box 30 [.nil])],[true,true,true,true,true,true,true,true,true,true],[0,1,2,6,7],[9]⟩,⟨[false,false,false,false,false,true,true,true,false,false],[(0,.b (.one (.sl 1 (fixed0.map eB)))),(4,Pt 101 0),(5,Pt 102 0),(6,Pt 104 0)],[(101,.box 30 [.nil]),(102,.box 30 [.nil]),(104,.box 56 [.sl 1 (x_2.map (eL 2 aQ))]),(106,.row 3 1 (x_4.map eI)),(107,.box 30 [.nil]),(108,.box 30 [.nil])],[true,true,true,true,true,true,true,true,true,true],[3,4,5,6,7],[8,9]⟩,⟨[false,false,true,false,false,true,true,true,false,false],[(0,.b (.one (.sl 1 (fixed0.map eB)))),(4,Pt 101 0),(5,Pt 102 0),(6,Pt 104 0)],[(101,.box 30 [.nil]),(102,.box 30 [.nil]),(104,.box 56 [.sl 1 (x_2.map (eL 2 aQ))]),(105,.row 3 1 (x_3.map eI)),(106,.row 3 1 (x_4.map eI)),(107,.box 30 [.nil]),(108,.box 30 [.nil])],[true,true,true,true,true,true,true,true,true,true],[0,1,2,3,4,5,6,7],[9]⟩,⟨[false,false,true,false,false,false,true,true,true,false],[(0,.b (.one (.sl 1 (fixed0.map eB)))),(4,Pt 101 0),(5,Pt 102 0),(6,Pt 104 0)],[(101,.box 30 [.nil]),(102,.box 30 [.nil]),(104,.box 56 [.sl 1 (x_2.map (eL 2 aQ))]),(105,.row 3 1 (x_3.map eI)),(107,.ao 30 [.row 105]),(108,.box 30 [.nil])],[true,true,true,true,true,true,true,true,true,true],[0,1,2,6,7,8],[9]⟩,⟨[false,false,true,false,false,true,true,true,true,false],[(0,.b (.one (.sl 1 (fixed0.map eB)))),(4,Pt 101 0),(5,Pt 102 0),(6,Pt 104 0)],[(101,.box 30 [.nil]),(102,.box 30 [.nil]),(104,.box 56 [.sl 1 (x_2.map (eL 2 aQ))]),(105,.row 3 1 (x_3.map eI)),(106,.row 3 1 (x_4.map eI)),(107,.ao 30 [.row 105]),(108,.box 30 [.nil])],[true,true,true,true,true,true,true,true,true,true],[0,1,2,3,4,5,6,7,8],[]⟩,⟨[false,false,true,false,false,true,true,true,true,true],[(0,.b (.one (.sl 1 (fixed0.map eB)))),(4,Pt 101 0),(5,Pt 102 0),(6,Pt 104 0)],[(101,.box 30 [.nil]),(102,.box 30 [.nil]),(104,.box 56 [.sl 1 (x_2.map (eL 2 aQ))]),(105,.row 3 1 (x_3.map eI)),(106,.row 3 1 (x_4.map eI)),(107,.ao 30 [.row 105]),(108,.ao 30 [.row 106])],[true,true,true,true,true,true,true,true,true,true],[0,1,2,3,4,5,6,7,8,9],[]⟩] rfl (⟨by kernel_rfl,⟨⟨.b (.one (.sl 1 (fixed0.map eB))),fun _=>rfl,fun _=>.p (by exact ak rfl)⟩,⟨I (fixed0.length:Int),fun _=>rfl,fun _=>.p (by exact av cH rfl (List.length_map _))⟩,⟨_,[105],.b (.row 105),rfl,fun _=>rfl,rfl,rfl,fun _=>.eK [101,102,104,105] (by exact .p (by exact a7 (k:=105) (enc:=eI) an e3 (by decide) (.cons .refl .nil) rfl rfl rfl)) (by exact rfl)⟩,⟨.b (.one (.sl 1 (fixed0.map eB))),fun _=>rfl,fun _=>.p (by exact ak rfl)⟩,⟨I (fixed0.length:Int),fun _=>rfl,fun _=>.p (by exact av cH rfl (List.length_map _))⟩,⟨_,[106],.b (.row 106),rfl,fun _=>rfl,rfl,rfl,fun _=>.eK [101,102,104,106] (by exact .p (by exact a7 (k:=106) (enc:=eI) an e4 (by decide) (.cons .refl .nil) rfl rfl rfl)) (by exact rfl)⟩,⟨_,[107],Pt 107 0,rfl,fun _=>rfl,rfl,rfl,fun _=>.eK [101,102,104,107] (by exact .p (by exact bd (k:=107) bZ rfl)) (by exact rfl)⟩,⟨_,[108],Pt 108 0,rfl,fun _=>rfl,rfl,rfl,fun _=>.eK [101,102,104,108] (by exact .p (by exact bd (k:=108) bZ rfl)) (by exact rfl)⟩,trivial,trivial,trivial⟩,⟨by kernel_rfl,⟨trivial,trivial,trivial,⟨.b (.one (.sl 1 (fixed0.map eB))),fun _=>rfl,fun _=>.p (by exact ak rfl)⟩,⟨I (fixed0.length:Int),fun _=>rfl,fun _=>.p (by exact av cH rfl (List.length_map _))⟩,⟨_,[106],.b (.row 106),rfl,fun _=>rfl,rfl,rfl,fun _=>.eK [101,102,104,105,106] (by exact .p (by exact a7 (k:=106) (enc:=eI) an e4 (by decide) (.cons .refl .nil) rfl rfl rfl)) (by exact rfl)⟩,⟨_,[107],Pt 107 0,rfl,fun _=>rfl,rfl,rfl,fun _=>.eK [101,102,104,105,107] (by exact .p (by exact bd (k:=107) bZ rfl)) (by exact rfl)⟩,⟨_,[108],Pt 108 0,rfl,fun _=>rfl,rfl,rfl,fun _=>.eK [101,102,104,105,108] (by exact .p (by exact bd (k:=108) bZ rfl)) (by exact rfl)⟩,trivial,trivial,trivial⟩,⟨by kernel_rfl,⟨⟨.b (.one (.sl 1 (fixed0.map eB))),fun _=>rfl,fun _=>.p (by exact ak rfl)⟩,⟨I (fixed0.length:Int),fun _=>rfl,fun _=>.p (by exact av cH rfl (List.length_map _))⟩,⟨_,[105],.b (.row 105),rfl,fun _=>rfl,rfl,rfl,fun _=>.eK [101,102,104,105,106] (by exact .p (by exact a7 (k:=105) (enc:=eI) an e3 (by decide) (.cons .refl .nil) rfl rfl rfl)) (by exact rfl)⟩,trivial,trivial,trivial,⟨_,[107],Pt 107 0,rfl,fun _=>rfl,rfl,rfl,fun _=>.eK [101,102,104,106,107] (by exact .p (by exact bd (k:=107) bZ rfl)) (by exact rfl)⟩,⟨_,[108],Pt 108 0,rfl,fun _=>rfl,rfl,rfl,fun _=>.eK [101,102,104,106,108] (by exact .p (by exact bd (k:=108) bZ rfl)) (by exact rfl)⟩,trivial,trivial,trivial⟩,⟨by kernel_rfl,⟨⟨.b (.one (.sl 1 (fixed0.map eB))),fun _=>rfl,fun _=>.p (by exact ak rfl)⟩,⟨I (fixed0.length:Int),fun _=>rfl,fun _=>.p (by exact av cH rfl (List.length_map _))⟩,⟨_,[105],.b (.row 105),rfl,fun _=>rfl,rfl,rfl,fun _=>.eK [101,102,104,105,107] (by exact .p (by exact a7 (k:=105) (enc:=eI) an e3 (by decide) (.cons .refl .nil) rfl rfl rfl)) (by exact rfl)⟩,⟨.b (.one (.sl 1 (fixed0.map eB))),fun _=>rfl,fun _=>.p (by exact ak rfl)⟩,⟨I (fixed0.length:Int),fun _=>rfl,fun _=>.p (by exact av cH rfl (List.length_map _))⟩,⟨_,[106],.b (.row 106),rfl,fun _=>rfl,rfl,rfl,fun _=>.eK [101,102,104,106,107] (by exact .p (by exact a7 (k:=106) (enc:=eI) an e4 (by decide) (.cons .refl .nil) rfl rfl rfl)) (by exact rfl)⟩,trivial,⟨_,[108],Pt 108 0,rfl,fun _=>rfl,rfl,rfl,fun _=>.eK [101,102,104,107,108] (by exact .p (by exact bd (k:=108) bZ rfl)) (by exact rfl)⟩,trivial,trivial,trivial⟩,⟨by kernel_rfl,⟨⟨.b (.one (.sl 1 (fixed0.map eB))),fun _=>rfl,fun _=>.p (by exact ak rfl)⟩,⟨I (fixed0.length:Int),fun _=>rfl,fun _=>.p (by exact av cH rfl (List.length_map _))⟩,⟨_,[105],.b (.row 105),rfl,fun _=>rfl,rfl,rfl,fun _=>.eK [101,102,104,105,108] (by exact .p (by exact a7 (k:=105) (enc:=eI) an e3 (by decide) (.cons .refl .nil) rfl rfl rfl)) (by exact rfl)⟩,⟨.b (.one (.sl 1 (fixed0.map eB))),fun _=>rfl,fun _=>.p (by exact ak rfl)⟩,⟨I (fixed0.length:Int),fun _=>rfl,fun _=>.p (by exact av cH rfl (List.length_map _))⟩,⟨_,[106],.b (.row 106),rfl,fun _=>rfl,rfl,rfl,fun _=>.eK [101,102,104,106,108] (by exact .p (by exact a7 (k:=106) (enc:=eI) an e4 (by decide) (.cons .refl .nil) rfl rfl rfl)) (by exact rfl)⟩,⟨_,[107],Pt 107 0,rfl,fun _=>rfl,rfl,rfl,fun _=>.eK [101,102,104,107,108] (by exact .p (by exact bd (k:=107) bZ rfl)) (by exact rfl)⟩,trivial,trivial,trivial,trivial⟩,⟨by kernel_rfl,⟨trivial,trivial,trivial,trivial,trivial,trivial,⟨_,[107],Pt 107 0,rfl,fun _=>rfl,rfl,rfl,fun _=>.eK [101,102,104,105,106,107] (by exact .p (by exact bd (k:=107) bZ rfl)) (by exact rfl)⟩,⟨_,[108],Pt 108 0,rfl,fun _=>rfl,rfl,rfl,fun _=>.eK [101,102,104,105,106,108] (by exact .p (by exact bd (k:=108) bZ rfl)) (by exact rfl)⟩,trivial,trivial,trivial⟩,⟨by kernel_rfl,⟨trivial,trivial,trivial,⟨.b (.one (.sl 1 (fixed0.map eB))),fun _=>rfl,fun _=>.p (by exact ak rfl)⟩,⟨I (fixed0.length:Int),fun _=>rfl,fun _=>.p (by exact av cH rfl (List.length_map _))⟩,⟨_,[106],.b (.row 106),rfl,fun _=>rfl,rfl,rfl,fun _=>.eK [101,102,104,105,106,107] (by exact .p (by exact a7 (k:=106) (enc:=eI) an e4 (by decide) (.cons .refl .nil) rfl rfl rfl)) (by exact rfl)⟩,trivial,⟨_,[108],Pt 108 0,rfl,fun _=>rfl,rfl,rfl,fun _=>.eK [101,102,104,105,107,108] (by exact .p (by exact bd (k:=108) bZ rfl)) (by exact rfl)⟩,trivial,trivial,trivial⟩,⟨by kernel_rfl,⟨trivial,trivial,trivial,⟨.b (.one (.sl 1 (fixed0.map eB))),fun _=>rfl,fun _=>.p (by exact ak rfl)⟩,⟨I (fixed0.length:Int),fun _=>rfl,fun _=>.p (by exact av cH rfl (List.length_map _))⟩,⟨_,[106],.b (.row 106),rfl,fun _=>rfl,rfl,rfl,fun _=>.eK [101,102,104,105,106,108] (by exact .p (by exact a7 (k:=106) (enc:=eI) an e4 (by decide) (.cons .refl .nil) rfl rfl rfl)) (by exact rfl)⟩,⟨_,[107],Pt 107 0,rfl,fun _=>rfl,rfl,rfl,fun _=>.eK [101,102,104,105,107,108] (by exact .p (by exact bd (k:=107) bZ rfl)) (by exact rfl)⟩,trivial,trivial,trivial,trivial⟩,⟨by kernel_rfl,⟨⟨.b (.one (.sl 1 (fixed0.map eB))),fun _=>rfl,fun _=>.p (by exact ak rfl)⟩,⟨I (fixed0.length:Int),fun _=>rfl,fun _=>.p (by exact av cH rfl (List.length_map _))⟩,⟨_,[105],.b (.row 105),rfl,fun _=>rfl,rfl,rfl,fun _=>.eK [101,102,104,105,106,107] (by exact .p (by exact a7 (k:=105) (enc:=eI) an e3 (by decide) (.cons .refl .nil) rfl rfl rfl)) (by exact rfl)⟩,trivial,trivial,trivial,trivial,⟨_,[108],Pt 108 0,rfl,fun _=>rfl,rfl,rfl,fun _=>.eK [101,102,104,106,107,108] (by exact .p (by exact bd (k:=108) bZ rfl)) (by exact rfl)⟩,trivial,trivial,trivial⟩,⟨by kernel_rfl,⟨⟨.b (.one (.sl 1 (fixed0.map eB))),fun _=>rfl,fun _=>.p (by exact ak rfl)⟩,⟨I (fixed0.length:Int),fun _=>rfl,fun _=>.p (by exact av cH rfl (List.length_map _))⟩,⟨_,[105],.b (.row 105),rfl,fun _=>rfl,rfl,rfl,fun _=>.eK [101,102,104,105,106,108] (by exact .p (by exact a7 (k:=105) (enc:=eI) an e3 (by decide) (.cons .refl .nil) rfl rfl rfl)) (by exact rfl)⟩,trivial,trivial,trivial,⟨_,[107],Pt 107 0,rfl,fun _=>rfl,rfl,rfl,fun _=>.eK [101,102,104,106,107,108] (by exact .p (by exact bd (k:=107) bZ rfl)) (by exact rfl)⟩,trivial,trivial,trivial,trivial⟩,⟨by kernel_rfl,⟨⟨.b (.one (.sl 1 (fixed0.map eB))),fun _=>rfl,fun _=>.p (by exact ak rfl)⟩,⟨I (fixed0.length:Int),fun _=>rfl,fun _=>.p (by exact av cH rfl (List.length_map _))⟩,⟨_,[105],.b (.row 105),rfl,fun _=>rfl,rfl,rfl,fun _=>.eK [101,102,104,105,107,108] (by exact .p (by exact a7 (k:=105) (enc:=eI) an e3 (by decide) (.cons .refl .nil) rfl rfl rfl)) (by exact rfl)⟩,⟨.b (.one (.sl 1 (fixed0.map eB))),fun _=>rfl,fun _=>.p (by exact ak rfl)⟩,⟨I (fixed0.length:Int),fun _=>rfl,fun _=>.p (by exact av cH rfl (List.length_map _))⟩,⟨_,[106],.b (.row 106),rfl,fun _=>rfl,rfl,rfl,fun _=>.eK [101,102,104,106,107,108] (by exact .p (by exact a7 (k:=106) (enc:=eI) an e4 (by decide) (.cons .refl .nil) rfl rfl rfl)) (by exact rfl)⟩,trivial,trivial,trivial,trivial,trivial⟩,⟨by kernel_rfl,⟨trivial,trivial,trivial,trivial,trivial,trivial,trivial,⟨_,[108],Pt 108 0,rfl,fun _=>rfl,rfl,rfl,fun _=>.eK [101,102,104,105,106,107,108] (by exact .p (by exact bd (k:=108) bZ rfl)) (by exact rfl)⟩,trivial,trivial,trivial⟩,⟨by kernel_rfl,⟨trivial,trivial,trivial,trivial,trivial,trivial,⟨_,[107],Pt 107 0,rfl,fun _=>rfl,rfl,rfl,fun _=>.eK [101,102,104,105,106,107,108] (by exact .p (by exact bd (k:=107) bZ rfl)) (by exact rfl)⟩,trivial,trivial,trivial,trivial⟩,⟨by kernel_rfl,⟨trivial,trivial,trivial,⟨.b (.one (.sl 1 (fixed0.map eB))),fun _=>rfl,fun _=>.p (by exact ak rfl)⟩,⟨I (fixed0.length:Int),fun _=>rfl,fun _=>.p (by exact av cH rfl (List.length_map _))⟩,⟨_,[106],.b (.row 106),rfl,fun _=>rfl,rfl,rfl,fun _=>.eK [101,102,104,105,106,107,108] (by exact .p (by exact a7 (k:=106) (enc:=eI) an e4 (by decide) (.cons .refl .nil) rfl rfl rfl)) (by exact rfl)⟩,trivial,trivial,⟨_,[],.b (.one .any),rfl,(fun e=>by simp at e),rfl,rfl,fun _=>.eK [101,102,104,105,107,108] (by exact .mC 107 rfl (.plain rfl (c7 aT rfl rfl rfl rfl (Nat.le_of_ble_eq_true rfl) rfl))) (by exact rfl)⟩,trivial,trivial⟩,⟨by kernel_rfl,⟨⟨.b (.one (.sl 1 (fixed0.map eB))),fun _=>rfl,fun _=>.p (by exact ak rfl)⟩,⟨I (fixed0.length:Int),fun _=>rfl,fun _=>.p (by exact av cH rfl (List.length_map _))⟩,⟨_,[105],.b (.row 105),rfl,fun _=>rfl,rfl,rfl,fun _=>.eK [101,102,104,105,106,107,108] (by exact .p (by exact a7 (k:=105) (enc:=eI) an e3 (by decide) (.cons .refl .nil) rfl rfl rfl)) (by exact rfl)⟩,trivial,trivial,trivial,trivial,trivial,trivial,trivial,trivial⟩,⟨by kernel_rfl,⟨trivial,trivial,trivial,trivial,trivial,trivial,trivial,trivial,⟨_,[],.b (.one .any),rfl,(fun e=>by simp at e),rfl,rfl,fun _=>.eK [101,102,104,105,106,107,108] (by exact .mC 107 rfl (.plain rfl (c7 aT rfl rfl rfl rfl (Nat.le_of_ble_eq_true rfl) rfl))) (by exact rfl)⟩,trivial,trivial⟩,⟨by kernel_rfl,⟨trivial,trivial,trivial,⟨.b (.one (.sl 1 (fixed0.map eB))),fun _=>rfl,fun _=>.p (by exact ak rfl)⟩,⟨I (fixed0.length:Int),fun _=>rfl,fun _=>.p (by exact av cH rfl (List.length_map _))⟩,⟨_,[106],.b (.row 106),rfl,fun _=>rfl,rfl,rfl,fun _=>.eK [101,102,104,105,106,107,108] (by exact .p (by exact a7 (k:=106) (enc:=eI) an e4 (by decide) (.cons .refl .nil) rfl rfl rfl)) (by exact rfl)⟩,trivial,trivial,trivial,trivial,trivial⟩,⟨by kernel_rfl,⟨trivial,trivial,trivial,trivial,trivial,trivial,trivial,trivial,trivial,⟨_,[],.b (.one .any),rfl,(fun e=>by simp at e),rfl,rfl,fun _=>.eK [101,102,104,105,106,107,108] (by exact .mC 108 rfl (.plain rfl (c7 aT rfl rfl rfl rfl (Nat.le_of_ble_eq_true rfl) rfl))) (by exact rfl)⟩,trivial⟩,⟨by kernel_rfl,⟨trivial,trivial,trivial,trivial,trivial,trivial,trivial,trivial,trivial,trivial,trivial⟩,trivial⟩⟩⟩⟩⟩⟩⟩⟩⟩⟩⟩⟩⟩⟩⟩⟩⟩⟩⟩) rfl rfl rfl [0,4,5,6,7,8] [101,102,104,105,106,107,108] (s':=⟨[(0,.b (.one (.sl 1 (fixed0.map eB)))),(4,Pt 101 0),(5,Pt 102 0),(6,Pt 104 0),(7,Pt 107 0),(8,Pt 108 0)],[(101,.box 30 [.nil]),(102,.box 30 [.nil]),(104,.box 56 [.sl 1 (x_2.map (eL 2 aQ))]),(105,.row 3 1 (x_3.map eI)),(106,.row 3 1 (x_4.map eI)),(107,.ao 30 [.row 105]),(108,.ao 30 [.row 106])]⟩) rfl ?_
 refine ab.seq (ab.aa ?_)
 refine Oc (bd (k:=109) tyZero3 rfl) (Oc (fp au rfl rfl rfl (Nat.le_of_ble_eq_true rfl) rfl) ?_)
 refine ae.ag ⟨[(0,_),(4,_),(5,_),(6,_),(7,_),(8,_),(9,Pt 109 0)],[(101,_),(102,_),(104,_),(105,_),(106,_),(107,_),(108,_),(109,.box 3 [.i 0])]⟩ rfl (ab.seq (ab.aa ?_))
 refine Oc (bd (k:=110) qA rfl) (ae.ag ⟨[(0,_),(4,_),(5,_),(6,_),(7,_),(8,_),(9,_),(10,Pt 110 0)],[(101,_),(102,_),(104,_),(105,_),(106,_),(107,_),(108,_),(109,_),(110,.box 80 [.raw .nilFunc])]⟩ rfl (ab.seq (ab.aa ?_)))
 refine Oc (n6 rfl rfl) (ae.mC 110 rfl (Oc (c7 nc rfl rfl rfl rfl (Nat.le_of_ble_eq_true rfl) rfl) (ae.ag ⟨[(0,.b (.one (.sl 1 (fixed0.map eB)))),(4,Pt 101 0),(5,Pt 102 0),(7,Pt 107 0),(10,Pt 110 0)],[(101,.box 30 [.nil]),(102,.box 30 [.nil]),(104,.box 56 [.sl 1 (x_2.map (eL 2 aQ))]),(105,.row 3 1 (x_3.map eI)),(106,.row 3 1 (x_4.map eI)),(107,.ao 30 [.row 105]),(108,.ao 30 [.row 106]),(109,.box 3 [.i 0]),(110,.ao 80 [.fN 53 [] [.ptr 109 0,.ptr 107 0,.ptr 108 0,.ptr 104 0,.ptr 110 0,.ptr 102 0,.ptr 101 0]])]⟩ rfl ?_)))
 obtain ⟨v5,h6,h⟩:=aL h
 refine ab.cn (v:=v5) (cq fun (keysf0_5:List Int) (bridgesf0_6:List Int)=>⟨[(4,Pt 101 0),(5,Pt 102 0)],[(101,.ao 30 [.row 112]),(102,.ao 30 [.row 111]),(111,.row 3 1 (bridgesf0_6.map eI)),(112,.row 3 1 (keysf0_5.map eI))]⟩) (fun z=>z) ?_ ?_
 ·refine ab.seq (ab.aa ?_)
  refine Oc om (Oc (av cH rfl (List.length_map _)) (Oc om ?_))
  refine ae.ag ⟨[(4,Pt 101 0),(5,Pt 102 0),(7,Pt 107 0),(10,Pt 110 0),(27,.b (.one (.sl 1 (fixed0.map eB)))),(28,I (fixed0.length:Int)),(29,I 0)],[(101,.box 30 [.nil]),(102,.box 30 [.nil]),(104,.box 56 [.sl 1 (x_2.map (eL 2 aQ))]),(105,.row 3 1 (x_3.map eI)),(106,.row 3 1 (x_4.map eI)),(107,.ao 30 [.row 105]),(108,.ao 30 [.row 106]),(109,.box 3 [.i 0]),(110,.ao 80 [.fN 53 [] [.ptr 109 0,.ptr 107 0,.ptr 108 0,.ptr 104 0,.ptr 110 0,.ptr 102 0,.ptr 101 0]])]⟩ rfl (ab.block (ab.mC 101 rfl (ab.gv 101 0 112 1 3 rfl rfl (by decide) (by decide) rfl (ab.mC 102 rfl (ab.gv 102 0 111 1 3 rfl rfl (by decide) (by decide) rfl ?_)))))
  refine ab.b9 h6 (un6 fun (keysf0_7:List Int) (bridgesf0_8:List Int) (seenf0_9:List Int) (visitf0_10:Int) (visitf0f0_11:List Int) (x_12:Int)=>⟨[(4,Pt 101 0),(5,Pt 102 0),(7,Pt 107 0),(10,Pt 110 0),(27,.b (.one (.sl 1 (fixed0.map eB)))),(28,I (fixed0.length:Int)),(29,I x_12)],[(101,.ao 30 [.row 112]),(102,.ao 30 [.row 111]),(104,.box 56 [.sl 1 (x_2.map (eL 2 aQ))]),(105,.row 3 1 (seenf0_9.map eI)),(106,.row 3 1 (visitf0f0_11.map eI)),(107,.ao 30 [.row 105]),(108,.ao 30 [.row 106]),(109,.box 3 [.i visitf0_10]),(110,.ao 80 [.fN 53 [] [.ptr 109 0,.ptr 107 0,.ptr 108 0,.ptr 104 0,.ptr 110 0,.ptr 102 0,.ptr 101 0]]),(111,.row 3 1 (bridgesf0_8.map eI)),(112,.row 3 1 (keysf0_7.map eI))]⟩) [4,5,7,10,27,28,29] [101,102,104,105,106,107,108,109,110,111,112] rfl ?_
  rintro ⟨keysf0_7,bridgesf0_8,seenf0_9,visitf0_10,visitf0f0_11,x_12⟩ o7 h8 hy9
  refine ab.seq (ab.aa ?_)
  refine Oc (bl rfl rfl) (ae.ag ⟨[(4,_),(5,_),(7,_),(10,_),(27,_),(28,_),(29,_),(30,B (decide (x_12 < (fixed0.length:Int))))],[(101,_),(102,_),(104,_),(105,_),(106,_),(107,_),(108,_),(109,_),(110,_),(111,_),(112,_)]⟩ rfl (ab.seq (ab.ite h8 rfl (fun _ h8=>?_) (fun _ h8=>?_))))
  ·refine ab.skip (Fin.af ⟨[(4,_),(5,_),(7,_),(10,_),(27,_),(28,_),(29,_)],[(101,_),(102,_),(104,_),(105,_),(106,_),(107,_),(108,_),(109,_),(110,_),(111,_),(112,_)]⟩ rfl (Fin.then ?_))
   obtain ⟨v10,h11,h8⟩:=aL h8
   refine ab.cn (v:=v10) (un5 fun (keysf0_15:List Int) (bridgesf0_16:List Int) (seenf0_17:List Int) (visitf0_18:Int) (visitf0f0_19:List Int)=>⟨[(4,Pt 101 0),(5,Pt 102 0),(7,Pt 107 0),(10,Pt 110 0),(27,.b (.one (.sl 1 (fixed0.map eB)))),(28,I (fixed0.length:Int)),(29,I x_12)],[(101,.ao 30 [.row 112]),(102,.ao 30 [.row 111]),(104,.box 56 [.sl 1 (x_2.map (eL 2 aQ))]),(105,.row 3 1 (seenf0_17.map eI)),(106,.row 3 1 (visitf0f0_19.map eI)),(107,.ao 30 [.row 105]),(108,.ao 30 [.row 106]),(109,.box 3 [.i visitf0_18]),(110,.ao 80 [.fN 53 [] [.ptr 109 0,.ptr 107 0,.ptr 108 0,.ptr 104 0,.ptr 110 0,.ptr 102 0,.ptr 101 0]]),(111,.row 3 1 (bridgesf0_16.map eI)),(112,.row 3 1 (keysf0_15.map eI))]⟩) (fun z=>z) ?_ ?_
   ·refine ab.block (ab.seq (ab.aa ?_))
    refine Oc om ?_
    obtain ⟨x_20,e12,h11⟩:=aL h11
    refine Oc (az hS (aB e12) (aA (e:=eB) e12) rfl rfl) (Oc (ay iM rfl rfl) (Oc oa (Oc oa ?_)))
    refine ae.ag ⟨[(4,_),(5,_),(7,_),(10,_),(11,I x_12),(12,B x_20),(27,_),(28,_),(29,_)],[(101,_),(102,_),(104,_),(105,_),(106,_),(107,_),(108,_),(109,_),(110,_),(111,_),(112,_)]⟩ rfl (ab.seq (ab.aa ?_))
    refine Oc om (Oc (dm rfl) (Oc om ?_))
    refine er (!x_20) [] (fun g13=>trivial) (fun g13=>aS aT rfl rfl rfl) (er (!x_20) [] (fun g14=>trivial) (fun g14=>om) ?_)
    obtain ⟨x_21,e16,h11⟩:=aL h11
    refine er (!x_20) [37,38] (fun g15=>⟨g15,g15,trivial⟩) (fun g15=>aq an (aB (gc e16 g15)) (aU (gc e16 g15)) rfl rfl rfl rfl) (er (!x_20) [39] (fun g17=>⟨g17,trivial⟩) (fun g17=>aJ (i:=(x_12:Int).toNat) (f:=0) au rfl rfl rfl (aA (e:=eI) (gc e16 g17)) rfl) (er (!x_20) [40] (fun g18=>⟨g18,trivial⟩) (fun g18=>dn rfl rfl) (Oc (aV (fun e=>e) rfl rfl rfl rfl) (ae.ag ⟨[(4,_),(5,_),(7,_),(10,_),(11,_),(27,_),(28,_),(29,_),(42,B ((!x_20) && (decide (x_21 = 0))))],[(101,_),(102,_),(104,_),(105,_),(106,_),(107,_),(108,_),(109,_),(110,_),(111,_),(112,_)]⟩ rfl (ab.ite h11 rfl (fun _ h11=>?_) (fun _ h11=>?_))))))
    ·refine ab.aa (Oc (aS nc rfl rfl rfl) (Oc om ?_))
     obtain ⟨⟨x_22,x_23,x_24,x_25,x_26⟩,e19,h11⟩:=aL h11
     refine Oc (nN (own_a:=[(109,_),(107,_),(105,_),(108,_),(106,_),(104,_),(110,_),(102,_),(111,_),(101,_),(112,_)]) (ax.cast (own2:=[(109,.box 3 [.i visitf0_10]),(107,.ao 30 [.row 105]),(105,.row 3 1 (seenf0_9.map eI)),(108,.ao 30 [.row 106]),(106,.row 3 1 (visitf0f0_11.map eI)),(104,.box 56 [.sl 1 (x_2.map (eL 2 aQ))]),(110,.ao 80 [.fN 53 [] [.ptr 109 0,.ptr 107 0,.ptr 108 0,.ptr 104 0,.ptr 110 0,.ptr 102 0,.ptr 101 0]]),(102,.ao 30 [.row 111]),(111,.row 3 1 (bridgesf0_8.map eI)),(101,.ao 30 [.row 112]),(112,.row 3 1 (keysf0_7.map eI))]) (args2:=[.one (.i x_12),.one (.i (-1)),.ptr 109 0,.ptr 107 0,.ptr 108 0,.ptr 104 0,.ptr 110 0,.ptr 102 0,.ptr 101 0]) (own2':=[(109,.box 3 [.i x_22]),(107,.ao 30 [.row 105]),(105,.row 3 1 (x_23.map eI)),(108,.ao 30 [.row 106]),(106,.row 3 1 (x_24.map eI)),(104,.box 56 [.sl 1 (x_2.map (eL 2 aQ))]),(110,.ao 80 [.fN 53 [] [.ptr 109 0,.ptr 107 0,.ptr 108 0,.ptr 104 0,.ptr 110 0,.ptr 102 0,.ptr 101 0]]),(102,.ao 30 [.row 111]),(111,.row 3 1 (x_25.map eI)),(101,.ao 30 [.row 112]),(112,.row 3 1 (x_26.map eI))]) (res2:=.dW []) ((((((((((((j4 e19).sw 1 109).sw 2 107).sw 3 105).sw 4 108).sw 5 106).sw 6 104).sw 7 110).sw 8 102).sw 9 111).sw 10 101).sw 11 112) (by kernel_rfl) (by kernel_rfl) (by kernel_rfl) (by kernel_rfl)) qe rfl rfl rfl ⟨rfl,rfl,rfl,rfl,rfl,rfl,rfl,rfl,rfl,rfl,rfl,trivial⟩ rfl rfl) (ae.af ⟨[(4,Pt 101 0),(5,Pt 102 0),(7,Pt 107 0),(10,Pt 110 0),(11,I x_12),(27,.b (.one (.sl 1 (fixed0.map eB)))),(28,I (fixed0.length:Int)),(29,I x_12),(42,B ((!x_20) && (decide (x_21 = 0)))),(43,.b (.fN 53 [] [.ptr 109 0,.ptr 107 0,.ptr 108 0,.ptr 104 0,.ptr 110 0,.ptr 102 0,.ptr 101 0])),(44,I x_12),(45,.dW [])],[(101,.ao 30 [.row 112]),(102,.ao 30 [.row 111]),(104,.box 56 [.sl 1 (x_2.map (eL 2 aQ))]),(105,.row 3 1 (x_23.map eI)),(106,.row 3 1 (x_24.map eI)),(107,.ao 30 [.row 105]),(108,.ao 30 [.row 106]),(109,.box 3 [.i x_22]),(110,.ao 80 [.fN 53 [] [.ptr 109 0,.ptr 107 0,.ptr 108 0,.ptr 104 0,.ptr 110 0,.ptr 102 0,.ptr 101 0]]),(111,.row 3 1 (x_25.map eI)),(112,.row 3 1 (x_26.map eI))]⟩ (by kernel_rfl) (ae.nil (Fin.ah ?_)))
     exact Fin.join [4,5,7,10,27,28,29] [101,102,104,105,106,107,108,109,110,111,112] (x_26,x_25,x_23,x_22,x_24) (Option.some.inj h11) rfl
    ·refine ab.skip (Fin.ah ?_)
     exact Fin.join [4,5,7,10,27,28,29] [101,102,104,105,106,107,108,109,110,111,112] (keysf0_7,bridgesf0_8,seenf0_9,visitf0_10,visitf0f0_11) (Option.some.inj h11) rfl
   ·rintro ⟨keysf0_15,bridgesf0_16,seenf0_17,visitf0_18,visitf0f0_19⟩ hv
    subst v10
    refine ab.aa (Oc (aY rfl rfl) (Oc om ?_))
    refine ae.nil ?_
    exact Fin.bu [4,5,7,10,27,28,29] [101,102,104,105,106,107,108,109,110,111,112] (keysf0_15,bridgesf0_16,seenf0_17,visitf0_18,visitf0f0_19,IntKind.i64.wrap (x_12 + 1)) (Option.some.inj h8) rfl
  ·refine ab.exit (Fin.ai ?_)
   obtain rfl:=hy9 _ (Option.some.inj h8).symm
   refine Fin.ai (Fin.aD ?_)
   exact Fin.join [4,5] [101,102,111,112] (keysf0_7,bridgesf0_8) rfl rfl
 ·rintro ⟨keysf0_5,bridgesf0_6⟩ hv
  subst v5
  refine ab.seq (ab.aa ?_)
  refine Oc (aS aT rfl rfl rfl) (ae.jw 112 rfl ?_)
  obtain ⟨x_27,e20,h⟩:=aL h
  refine Oc (bh (own_a:=[(112,_)]) ((dI e20).sw 1 112) m8 rfl ⟨rfl,trivial⟩ rfl rfl) (ae.j6 112 rfl (ae.ag ⟨[(4,_),(5,_)],[(101,_),(102,_),(111,_),(112,.row 3 1 (x_27.map eI))]⟩ rfl (ab.seq (ab.aa ?_))))
  refine Oc (aS aT rfl rfl rfl) (ae.jw 111 rfl ?_)
  obtain ⟨x_28,e21,h⟩:=aL h
  refine Oc (bh (own_a:=[(111,_)]) ((dI e21).sw 1 111) m8 rfl ⟨rfl,trivial⟩ rfl rfl) (ae.j6 111 rfl (ae.ag ⟨[(4,_),(5,_)],[(101,_),(102,_),(111,.row 3 1 (x_28.map eI)),(112,_)]⟩ rfl (ab.seq (ab.lK mixed [false,false,true,true] [.b (.row 112),.b (.row 111),B true,B true] [⟨[false,false,false,false],[(4,Pt 101 0),(5,Pt 102 0)],[(101,.ao 30 [.row 112]),(102,.ao 30 [.row 111]),(111,.row 3 1 (x_28.map eI)),(112,.row 3 1 (x_27.map eI))],[true,true,true,true],[],[3]⟩,⟨[false,false,true,false],[(4,Pt 101 0),(5,Pt 102 0)],[(101,.ao 30 [.row 112]),(102,.ao 30 [.row 111]),(111,.row 3 1 (x_28.map eI)),(112,.row 3 1 (x_27.map eI))],[true,true,true,true],[0,2],[]⟩,⟨[false,false,true,true],[(4,Pt 101 0),(5,Pt 102 0)],[(101,.ao 30 [.row 112]),(102,.ao 30 [.row 111]),(111,.row 3 1 (x_28.map eI)),(112,.row 3 1 (x_27.map eI))],[true,true,true,true],[0,1,2,3],[]⟩] rfl (⟨by kernel_rfl,⟨⟨.b (.row 112),fun _=>rfl,fun _=>.p (by exact aS aT rfl rfl rfl)⟩,⟨.b (.row 111),fun _=>rfl,fun _=>.p (by exact aS aT rfl rfl rfl)⟩,⟨_,[],.b (.one .any),rfl,(fun e=>by simp at e),rfl,rfl,fun _=>.eK [101,102,111,112] (by exact .p (by exact c7 aT rfl rfl rfl rfl (Nat.le_of_ble_eq_true rfl) rfl)) (by exact rfl)⟩,trivial,trivial⟩,⟨by kernel_rfl,⟨trivial,⟨.b (.row 111),fun _=>rfl,fun _=>.p (by exact aS aT rfl rfl rfl)⟩,trivial,⟨_,[],.b (.one .any),rfl,(fun e=>by simp at e),rfl,rfl,fun _=>.eK [101,102,111,112] (by exact .p (by exact c7 aT rfl rfl rfl rfl (Nat.le_of_ble_eq_true rfl) rfl)) (by exact rfl)⟩,trivial⟩,⟨by kernel_rfl,⟨trivial,trivial,trivial,trivial,trivial⟩,trivial⟩⟩⟩) rfl rfl rfl [4,5] [101,102,111,112] (s':=⟨[(4,_),(5,_)],[(101,_),(102,_),(111,_),(112,_)]⟩) rfl (ab.ret ?_)))))
  obtain rfl:=Option.some.inj h
  refine Fin.af ⟨[(4,Pt 101 0),(5,Pt 102 0)],[(101,.ao 30 [.row 112]),(102,.ao 30 [.row 111]),(111,.row 3 1 (x_28.map eI)),(112,.row 3 1 (x_27.map eI))]⟩ rfl (Fin.bH 112 rfl (Fin.unX 101 rfl rfl (Fin.bH 111 rfl (Fin.unX 102 rfl rfl (Fin.aW [.one (.sl 1 (x_27.map eI)),.one (.sl 1 (x_28.map eI))] (.inl rfl) rfl (.cons (.one aT rfl rfl rfl) (.cons (.one aT rfl rfl rfl) .nil)) ⟨rfl,rfl⟩)))))
def dK (F:Nat) (fixed0:List Bool) (links0:List A2):Option ((List Int) × Int) :=
 (bx F fixed0 links0).bind fun x_1=>if (!x_1) = true then (some ([],1)) else (Option.bind (dO F fixed0 links0) (cq fun x_2 x_3=>some (x_3,0)))
theorem jA {F:Nat} {fixed0:List Bool} {links0:List A2} {r:(List Int) × Int} (h:dK F fixed0 links0 = some r):ax Try.prog [] 22 [] [.one (.sl 1 (fixed0.map eB)),.one (.sl 2 (links0.map (cm .i64)))] (Is [] (.dW [.one (.sl 1 (r.1.map eI)),.one (.i r.2)])):=by
 unfold dK at h
 refine ax.intro 19 Try.func22 Try.ntmps22 rfl (by simp) fun E=>?_
 show ab _ E ⟨19,[],[],[]⟩ _ ⟨[(0,.b (.one (.sl 1 (fixed0.map eB)))),(1,.b (.one (.sl 2 (links0.map (cm .i64)))))],[]⟩ _
 refine ab.seq (ab.aa ?_)
 refine Oc oa (Oc oa ?_)
 refine ae.ag ⟨[(0,.b (.one (.sl 1 (fixed0.map eB)))),(1,.b (.one (.sl 2 (links0.map (cm .i64)))))],[]⟩ rfl (ab.seq (ab.seq (ab.aa ?_)))
 refine Oc om (Oc om ?_)
 obtain ⟨x_1,e1,h⟩:=aL h
 refine Oc (ba (b5 e1) kU rfl rfl) (Oc (dm rfl) ?_)
 refine ae.ag ⟨[(0,_),(1,_),(11,B (!x_1))],[]⟩ rfl (ab.ite h rfl (fun _ h=>?_) (fun _ h=>?_))
 ·refine ab.seq (ab.aa ?_)
  refine Oc oa (Oc oa ?_)
  refine ae.ag ⟨[(4,.b (.one (.nil))),(5,I 1)],[]⟩ rfl (ab.ret (Fin.aG ?_))
  obtain rfl:=Option.some.inj h
  refine Fin.af ⟨[(4,_),(5,_)],[]⟩ rfl (Fin.gP 4 1 rfl (by decide) (Fin.aW [.one (.sl 1 ([].map eI)),.one (.i 1)] (.inl rfl) rfl (.cons (.tmp rfl) (.cons (.tmp rfl) .nil)) ⟨rfl,rfl⟩))
 ·refine ab.skip (Fin.af ⟨[(0,_),(1,_)],[]⟩ rfl (Fin.then (ab.seq (ab.aa ?_))))
  refine Oc om (Oc om ?_)
  obtain ⟨⟨x_2,x_3⟩,e2,h⟩:=aL h
  refine Oc (ba (hH e2) qj rfl rfl) (Oc om (Oc (aH rfl rfl) ?_))
  refine ae.af ⟨[(12,.dW [.one (.sl 1 (x_2.map eI)),.one (.sl 1 (x_3.map eI))]),(16,.b (.one (.sl 1 (x_2.map eI))))],[]⟩ rfl (Oc (aH rfl rfl) (Oc oa (Oc oa ?_)))
  refine ae.ag ⟨[(7,.b (.one (.sl 1 (x_3.map eI))))],[]⟩ rfl (ab.seq (ab.aa ?_))
  refine Oc om (Oc oa (Oc oa ?_))
  refine ae.ag ⟨[(4,.b (.one (.sl 1 (x_3.map eI)))),(5,I 0)],[]⟩ rfl (ab.ret ?_)
  obtain rfl:=Option.some.inj h
  refine Fin.af ⟨[(4,_),(5,_)],[]⟩ rfl (Fin.aW [.one (.sl 1 (x_3.map eI)),.one (.i 0)] (.inl rfl) rfl (.cons (.tmp rfl) (.cons (.tmp rfl) .nil)) ⟨rfl,rfl⟩)
def fi (F:Nat) (fixed0:List Bool) (links0:List A2):Option ((List Int) × Int) :=
 (bx F fixed0 links0).bind fun x_1=>if (!x_1) = true then (some ([],1)) else (Option.bind (dO F fixed0 links0) (cq fun x_2 x_3=>some (x_2,0)))
theorem lp {F:Nat} {fixed0:List Bool} {links0:List A2} {r:(List Int) × Int} (h:fi F fixed0 links0 = some r):ax Try.prog [] 21 [] [.one (.sl 1 (fixed0.map eB)),.one (.sl 2 (links0.map (cm .i64)))] (Is [] (.dW [.one (.sl 1 (r.1.map eI)),.one (.i r.2)])):=by
 unfold fi at h
 refine ax.intro 19 Try.func21 Try.ntmps21 rfl (by simp) fun E=>?_
 show ab _ E ⟨19,[],[],[]⟩ _ ⟨[(0,.b (.one (.sl 1 (fixed0.map eB)))),(1,.b (.one (.sl 2 (links0.map (cm .i64)))))],[]⟩ _
 refine ab.seq (ab.aa ?_)
 refine Oc oa (Oc oa ?_)
 refine ae.ag ⟨[(0,.b (.one (.sl 1 (fixed0.map eB)))),(1,.b (.one (.sl 2 (links0.map (cm .i64)))))],[]⟩ rfl (ab.seq (ab.seq (ab.aa ?_)))
 refine Oc om (Oc om ?_)
 obtain ⟨x_1,e1,h⟩:=aL h
 refine Oc (ba (b5 e1) kU rfl rfl) (Oc (dm rfl) ?_)
 refine ae.ag ⟨[(0,_),(1,_),(11,B (!x_1))],[]⟩ rfl (ab.ite h rfl (fun _ h=>?_) (fun _ h=>?_))
 ·refine ab.seq (ab.aa ?_)
  refine Oc oa (Oc oa ?_)
  refine ae.ag ⟨[(4,.b (.one (.nil))),(5,I 1)],[]⟩ rfl (ab.ret (Fin.aG ?_))
  obtain rfl:=Option.some.inj h
  refine Fin.af ⟨[(4,_),(5,_)],[]⟩ rfl (Fin.gP 4 1 rfl (by decide) (Fin.aW [.one (.sl 1 ([].map eI)),.one (.i 1)] (.inl rfl) rfl (.cons (.tmp rfl) (.cons (.tmp rfl) .nil)) ⟨rfl,rfl⟩))
 ·refine ab.skip (Fin.af ⟨[(0,_),(1,_)],[]⟩ rfl (Fin.then (ab.seq (ab.aa ?_))))
  refine Oc om (Oc om ?_)
  obtain ⟨⟨x_2,x_3⟩,e2,h⟩:=aL h
  refine Oc (ba (hH e2) qj rfl rfl) (Oc om (Oc (aH rfl rfl) ?_))
  refine ae.af ⟨[(12,.dW [.one (.sl 1 (x_2.map eI)),.one (.sl 1 (x_3.map eI))]),(16,.b (.one (.sl 1 (x_2.map eI))))],[]⟩ rfl (Oc (aH rfl rfl) (Oc oa (Oc oa ?_)))
  refine ae.ag ⟨[(6,.b (.one (.sl 1 (x_2.map eI))))],[]⟩ rfl (ab.seq (ab.aa ?_))
  refine Oc om (Oc oa (Oc oa ?_))
  refine ae.ag ⟨[(4,.b (.one (.sl 1 (x_2.map eI)))),(5,I 0)],[]⟩ rfl (ab.ret ?_)
  obtain rfl:=Option.some.inj h
  refine Fin.af ⟨[(4,_),(5,_)],[]⟩ rfl (Fin.aW [.one (.sl 1 (x_2.map eI)),.one (.i 0)] (.inl rfl) rfl (.cons (.tmp rfl) (.cons (.tmp rfl) .nil)) ⟨rfl,rfl⟩)
def eH (F:Nat) (lists0:List (List (List Int))):Option (List (List Int)) :=
 Option.bind (iter F (cq fun up_2 x_3=>if (decide (x_3 < (lists0.length:Int))) = true then (Option.bind ((aM lists0 x_3).bind fun x_6=>Option.bind (iter F (cq fun up_7 x_8=>if (decide (x_8 < (x_6.length:Int))) = true then (Option.bind ((aM x_6 x_8).bind fun x_11=>Option.bind (iter F (cq fun up_12 x_13=>if (decide (x_13 < (x_11.length:Int))) = true then ((aM x_11 x_13).bind fun x_15=>(aM x_11 0).bind fun x_16=>Option.bind (bC F x_16 x_15 up_12) (cq fun x_17 x_18=>some (.inl (x_18,IntKind.i64.wrap (x_13 + 1))))) else (some (.inr up_12))) (up_7,0)) (fun up_14=>some up_14)) (fun up_10=>some (.inl (up_10,IntKind.i64.wrap (x_8 + 1))))) else (some (.inr up_7))) (up_2,0)) (fun up_9=>some up_9)) (fun up_5=>some (.inl (up_5,IntKind.i64.wrap (x_3 + 1))))) else (some (.inr up_2))) (([]:a6),0)) (fun up_1=>Option.bind (bo F up_1) (cq fun x_19 x_20=>some x_19))
theorem kM {F:Nat} {lists0:List (List (List Int))} {r:(List (List Int))} (h:eH F lists0 = some r):ax Try.prog [] 27 [] [.one (.sl 1 (lists0.map (eL 1 (eL 1 eI))))] (Is [] (.b (.one (.sl 1 (r.map (eL 1 eI)))))):=by
 unfold eH at h
 refine ax.intro 41 Try.func27 Try.ntmps27 rfl (by simp) fun E=>?_
 show ab _ E ⟨41,[],[],[]⟩ _ ⟨[(0,.b (.one (.sl 1 (lists0.map (eL 1 (eL 1 eI))))))],[]⟩ _
 refine ab.seq (ab.aa ?_)
 refine Oc oa (ae.ag ⟨[(0,.b (.one (.sl 1 (lists0.map (eL 1 (eL 1 eI))))))],[]⟩ rfl (ab.seq (ab.aa ?_)))
 refine Oc (gA (k:=101) kP rfl) (Oc ((l6 mM rfl rfl).jM rfl) (Oc (bd (k:=102) gR rfl) ?_))
 refine ae.mC 102 rfl (Oc (eo cr rfl rfl rfl rfl rfl (Nat.le_of_ble_eq_true rfl) rfl) (ae.ag ⟨[(0,.b (.one (.sl 1 (lists0.map (eL 1 (eL 1 eI)))))),(3,Pt 102 0)],[(101,.mq ([]:a6)),(102,.ao 52 [.row 101])]⟩ rfl ?_))
 obtain ⟨v1,h2,h⟩:=aL h
 refine ab.cn (v:=v1) (fun (up_1:a6)=>⟨[(3,Pt 102 0)],[(101,.mq up_1),(102,.ao 52 [.row 101])]⟩) (fun z=>z) ?_ ?_
 ·refine ab.seq (ab.aa ?_)
  refine Oc om (Oc (av und41 rfl (List.length_map _)) (Oc om ?_))
  refine ae.ag ⟨[(3,_),(12,.b (.one (.sl 1 (lists0.map (eL 1 (eL 1 eI)))))),(13,I (lists0.length:Int)),(14,I 0)],[(101,_),(102,_)]⟩ rfl (ab.block (ab.b9 h2 (cq fun (up_2:a6) (x_3:Int)=>⟨[(3,Pt 102 0),(12,.b (.one (.sl 1 (lists0.map (eL 1 (eL 1 eI)))))),(13,I (lists0.length:Int)),(14,I x_3)],[(101,.mq up_2),(102,.ao 52 [.row 101])]⟩) [3,12,13,14] [101,102] rfl ?_))
  rintro ⟨up_2,x_3⟩ o3 h4 hy5
  refine ab.seq (ab.aa ?_)
  refine Oc (bl rfl rfl) (ae.ag ⟨[(3,_),(12,_),(13,_),(14,_),(15,B (decide (x_3 < (lists0.length:Int))))],[(101,_),(102,_)]⟩ rfl (ab.seq (ab.ite h4 rfl (fun _ h4=>?_) (fun _ h4=>?_))))
  ·refine ab.skip (Fin.af ⟨[(3,_),(12,_),(13,_),(14,_)],[(101,_),(102,_)]⟩ rfl (Fin.then ?_))
   obtain ⟨v6,h7,h4⟩:=aL h4
   refine ab.cn (v:=v6) (fun (up_5:a6)=>⟨[(3,Pt 102 0),(12,.b (.one (.sl 1 (lists0.map (eL 1 (eL 1 eI)))))),(13,I (lists0.length:Int)),(14,I x_3)],[(101,.mq up_5),(102,.ao 52 [.row 101])]⟩) (fun z=>z) ?_ ?_
   ·refine ab.block (ab.seq (ab.aa ?_))
    obtain ⟨x_6,e8,h7⟩:=aL h7
    refine Oc (az p8 (aB e8) (aA (e:=(eL 1 (eL 1 eI))) e8) rfl rfl) (Oc (ay tyOne26 rfl rfl) (Oc oa ?_))
    refine ae.ag ⟨[(3,_),(5,.b (.one (.sl 1 (x_6.map (eL 1 eI))))),(12,_),(13,_),(14,_)],[(101,_),(102,_)]⟩ rfl (ab.seq (ab.aa ?_))
    refine Oc om (Oc (av ka rfl (List.length_map _)) (Oc om ?_))
    refine ae.ag ⟨[(3,_),(12,_),(13,_),(14,_),(18,.b (.one (.sl 1 (x_6.map (eL 1 eI))))),(19,I (x_6.length:Int)),(20,I 0)],[(101,_),(102,_)]⟩ rfl (ab.block ?_)
    obtain ⟨v9,h10,h7⟩:=aL h7
    refine ab.b9 h10 (cq fun (up_7:a6) (x_8:Int)=>⟨[(3,Pt 102 0),(12,.b (.one (.sl 1 (lists0.map (eL 1 (eL 1 eI)))))),(13,I (lists0.length:Int)),(14,I x_3),(18,.b (.one (.sl 1 (x_6.map (eL 1 eI))))),(19,I (x_6.length:Int)),(20,I x_8)],[(101,.mq up_7),(102,.ao 52 [.row 101])]⟩) [3,12,13,14,18,19,20] [101,102] rfl ?_
    rintro ⟨up_7,x_8⟩ o11 h12 hy13
    refine ab.seq (ab.aa ?_)
    refine Oc (bl rfl rfl) (ae.ag ⟨[(3,_),(12,_),(13,_),(14,_),(18,_),(19,_),(20,_),(21,B (decide (x_8 < (x_6.length:Int))))],[(101,_),(102,_)]⟩ rfl (ab.seq (ab.ite h12 rfl (fun _ h12=>?_) (fun _ h12=>?_))))
    ·refine ab.skip (Fin.af ⟨[(3,_),(12,_),(13,_),(14,_),(18,_),(19,_),(20,_)],[(101,_),(102,_)]⟩ rfl (Fin.then ?_))
     obtain ⟨v14,h15,h12⟩:=aL h12
     refine ab.cn (v:=v14) (fun (up_10:a6)=>⟨[(3,Pt 102 0),(12,.b (.one (.sl 1 (lists0.map (eL 1 (eL 1 eI)))))),(13,I (lists0.length:Int)),(14,I x_3),(18,.b (.one (.sl 1 (x_6.map (eL 1 eI))))),(19,I (x_6.length:Int)),(20,I x_8)],[(101,.mq up_10),(102,.ao 52 [.row 101])]⟩) (fun z=>z) ?_ ?_
     ·refine ab.block (ab.seq (ab.aa ?_))
      obtain ⟨x_11,e16,h15⟩:=aL h15
      refine Oc (az cQ (aB e16) (aA (e:=(eL 1 eI)) e16) rfl rfl) (Oc (ay aT rfl rfl) (Oc oa ?_))
      refine ae.ag ⟨[(3,_),(7,.b (.one (.sl 1 (x_11.map eI)))),(12,_),(13,_),(14,_),(18,_),(19,_),(20,_)],[(101,_),(102,_)]⟩ rfl (ab.seq (ab.aa ?_))
      refine Oc om (Oc (av gu rfl (List.length_map _)) (Oc om ?_))
      refine ae.ag ⟨[(3,_),(7,_),(12,_),(13,_),(14,_),(18,_),(19,_),(20,_),(24,.b (.one (.sl 1 (x_11.map eI)))),(25,I (x_11.length:Int)),(26,I 0)],[(101,_),(102,_)]⟩ rfl (ab.block ?_)
      obtain ⟨v17,h18,h15⟩:=aL h15
      refine ab.b9 h18 (cq fun (up_12:a6) (x_13:Int)=>⟨[(3,Pt 102 0),(7,.b (.one (.sl 1 (x_11.map eI)))),(12,.b (.one (.sl 1 (lists0.map (eL 1 (eL 1 eI)))))),(13,I (lists0.length:Int)),(14,I x_3),(18,.b (.one (.sl 1 (x_6.map (eL 1 eI))))),(19,I (x_6.length:Int)),(20,I x_8),(24,.b (.one (.sl 1 (x_11.map eI)))),(25,I (x_11.length:Int)),(26,I x_13)],[(101,.mq up_12),(102,.ao 52 [.row 101])]⟩) [3,7,12,13,14,18,19,20,24,25,26] [101,102] rfl ?_
      rintro ⟨up_12,x_13⟩ o19 h20 hy21
      refine ab.seq (ab.aa ?_)
      refine Oc (bl rfl rfl) (ae.ag ⟨[(3,_),(7,_),(12,_),(13,_),(14,_),(18,_),(19,_),(20,_),(24,_),(25,_),(26,_),(27,B (decide (x_13 < (x_11.length:Int))))],[(101,_),(102,_)]⟩ rfl (ab.seq (ab.ite h20 rfl (fun _ h20=>?_) (fun _ h20=>?_))))
      ·refine ab.skip (Fin.af ⟨[(3,_),(7,_),(12,_),(13,_),(14,_),(18,_),(19,_),(20,_),(24,_),(25,_),(26,_)],[(101,_),(102,_)]⟩ rfl (Fin.then (ab.seq (ab.block (ab.seq (ab.aa ?_))))))
       obtain ⟨x_15,e22,h20⟩:=aL h20
       refine Oc (az an (aB e22) (aA (e:=eI) e22) rfl rfl) (Oc (ay au rfl rfl) (Oc oa ?_))
       refine ae.ag ⟨[(3,_),(7,_),(9,I x_15),(12,_),(13,_),(14,_),(18,_),(19,_),(20,_),(24,_),(25,_),(26,_)],[(101,_),(102,_)]⟩ rfl ?_
       obtain ⟨x_16,e23,h20⟩:=aL h20
       obtain ⟨⟨x_17,x_18⟩,e24,h20⟩:=aL h20
       refine ab.kz mixed 5 [.b (.xa [.row 101]),.b (.one (.sl 1 (x_11.map eI))),.b (.b7 [.i x_16]),I x_16,I x_15] [3,7,12,13,14,18,19,20,24,25,26] [101,102] (s':=⟨[(3,_),(7,_),(12,_),(13,_),(14,_),(18,_),(19,_),(20,_),(24,_),(25,_),(26,_)],[(101,.mq x_18),(102,_)]⟩) rfl ⟨fun _=>.p ((cf cr rfl rfl rfl rfl).jM rfl),fun _=>.p om,fun _=>.p (az an (aB e23) (aA (e:=eI) e23) rfl rfl),fun _=>.p (ay au rfl rfl),fun _=>.p om,trivial⟩ ⟨_,by exact .p (bh (own_a:=[(101,_)]) ((dR e24).sw 1 101) qi rfl ⟨rfl,trivial⟩ rfl rfl),rfl⟩ rfl (Fin.ah (Fin.af ⟨[(3,_),(7,_),(12,_),(13,_),(14,_),(18,_),(19,_),(20,_),(24,_),(25,_),(26,_)],[(101,_),(102,_)]⟩ rfl (Fin.then (ab.aa ?_))))
       refine Oc (aY rfl rfl) (Oc om ?_)
       refine ae.nil ?_
       exact Fin.bu [3,7,12,13,14,18,19,20,24,25,26] [101,102] (x_18,IntKind.i64.wrap (x_13 + 1)) (Option.some.inj h20) rfl
      ·refine ab.exit (Fin.ai ?_)
       obtain rfl:=hy21 _ (Option.some.inj h20).symm
       refine Fin.ai (Fin.aD (Fin.ah ?_))
       exact Fin.join [3,12,13,14,18,19,20] [101,102] up_12 (Option.some.inj h15) rfl
     ·rintro up_10 hv
      subst v14
      refine ab.aa (Oc (aY rfl rfl) (Oc om ?_))
      refine ae.nil ?_
      exact Fin.bu [3,12,13,14,18,19,20] [101,102] (up_10,IntKind.i64.wrap (x_8 + 1)) (Option.some.inj h12) rfl
    ·refine ab.exit (Fin.ai ?_)
     obtain rfl:=hy13 _ (Option.some.inj h12).symm
     refine Fin.ai (Fin.aD (Fin.ah ?_))
     exact Fin.join [3,12,13,14] [101,102] up_7 (Option.some.inj h7) rfl
   ·rintro up_5 hv
    subst v6
    refine ab.aa (Oc (aY rfl rfl) (Oc om ?_))
    refine ae.nil ?_
    exact Fin.bu [3,12,13,14] [101,102] (up_5,IntKind.i64.wrap (x_3 + 1)) (Option.some.inj h4) rfl
  ·refine ab.exit (Fin.ai ?_)
   obtain rfl:=hy5 _ (Option.some.inj h4).symm
   refine Fin.ai (Fin.aD ?_)
   exact Fin.join [3] [101,102] up_2 rfl rfl
 ·rintro up_1 hv
  subst v1
  refine ab.seq (ab.aa ?_)
  refine Oc ((cf cr rfl rfl rfl rfl).jM rfl) ?_
  obtain ⟨⟨x_19,x_20⟩,e25,h⟩:=aL h
  refine Oc (bh (own_a:=[(101,_)]) ((dQ e25).sw 1 101) oy rfl ⟨rfl,trivial⟩ rfl rfl) (Oc oa ?_)
  refine ae.ag ⟨[(2,.b (.one (.sl 1 (x_19.map (eL 1 eI)))))],[]⟩ rfl (ab.ret ?_)
  obtain rfl:=Option.some.inj h
  refine Fin.af ⟨[(2,_)],[]⟩ rfl (Fin.aW [.one (.sl 1 (x_19.map (eL 1 eI)))] (.inl rfl) rfl (.cons (.tmp rfl) .nil) ⟨rfl,rfl⟩)
def br (F:Nat) (a0:List Int) (b0:List Int):Option Bool :=
 if (decide ((a0.length:Int) ≠ (b0.length:Int))) = true then (some false) else (Option.bind (iter F (fun i_1=>if (decide (i_1 < (a0.length:Int))) = true then ((aM a0 i_1).bind fun x_2=>(aM b0 i_1).bind fun x_3=>if (decide (x_2 ≠ x_3)) = true then (some (.inr (.inr false))) else (some (.inl (IntKind.i64.wrap (i_1 + 1))))) else (some (.inr (.inl ())))) 0) (gF (fun _=>some true) (fun y=>some y)))
theorem bG {F:Nat} {a0:List Int} {b0:List Int} {r:Bool} (h:br F a0 b0 = some r):ax Try.prog [] 19 [] [.one (.sl 1 (a0.map eI)),.one (.sl 1 (b0.map eI))] (Is [] (.b (.one (.bool r)))):=by
 unfold br at h
 refine ax.intro 26 Try.func19 Try.ntmps19 rfl (by simp) fun E=>?_
 show ab _ E ⟨26,[],[],[]⟩ _ ⟨[(0,.b (.one (.sl 1 (a0.map eI)))),(1,.b (.one (.sl 1 (b0.map eI))))],[]⟩ _
 refine ab.seq (ab.aa ?_)
 refine Oc oa (ae.ag ⟨[(0,.b (.one (.sl 1 (a0.map eI)))),(1,.b (.one (.sl 1 (b0.map eI))))],[]⟩ rfl (ab.seq (ab.seq (ab.aa ?_))))
 refine Oc om (Oc (av gu rfl (List.length_map _)) (Oc om (Oc (av gu rfl (List.length_map _)) (Oc (hU rfl rfl) ?_))))
 refine ae.ag ⟨[(0,_),(1,_),(10,B (decide ((a0.length:Int) ≠ (b0.length:Int))))],[]⟩ rfl (ab.ite h rfl (fun _ h=>?_) (fun _ h=>?_))
 ·refine ab.seq (ab.aa ?_)
  refine Oc oa (ae.ag ⟨[(4,B false)],[]⟩ rfl (ab.ret (Fin.aG ?_)))
  obtain rfl:=Option.some.inj h
  refine Fin.af ⟨[(4,_)],[]⟩ rfl (Fin.aW [.one (.bool false)] (.inl rfl) rfl (.cons (.tmp rfl) .nil) ⟨rfl,rfl⟩)
 ·refine ab.skip (Fin.af ⟨[(0,_),(1,_)],[]⟩ rfl (Fin.then ?_))
  obtain ⟨v1,h2,h⟩:=aL h
  refine ab.cn (v:=v1) (fun (_:Unit)=>⟨[],[]⟩) (fun z=>.inl z) ?_ ?_
  ·refine ab.seq (ab.aa ?_)
   refine Oc oa (ae.ag ⟨[(0,_),(1,_),(5,I 0)],[]⟩ rfl (ab.block (ab.b9 h2 (fun (i_1:Int)=>⟨[(0,.b (.one (.sl 1 (a0.map eI)))),(1,.b (.one (.sl 1 (b0.map eI)))),(5,I i_1)],[]⟩) [0,1,5] [] rfl ?_)))
   rintro i_1 o3 h4 hy5
   refine ab.seq (ab.seq (ab.aa ?_))
   refine Oc om (Oc om (Oc (av gu rfl (List.length_map _)) (Oc (bl rfl rfl) ?_)))
   refine ae.ag ⟨[(0,_),(1,_),(5,_),(14,B (decide (i_1 < (a0.length:Int))))],[]⟩ rfl (ab.ite h4 rfl (fun _ h4=>?_) (fun _ h4=>?_))
   ·refine ab.skip (Fin.af ⟨[(0,_),(1,_),(5,_)],[]⟩ rfl (Fin.then (ab.seq (ab.block (ab.seq ?_)))))
    refine ab.af ⟨[(0,_),(1,_),(5,_)],[]⟩ rfl ?_
    obtain ⟨x_2,e6,h4⟩:=aL h4
    obtain ⟨x_3,e7,h4⟩:=aL h4
    refine ab.cU mixed 9 [.b (.one (.sl 1 (a0.map eI))),I i_1,.b (.b7 [.i x_2]),I x_2,.b (.one (.sl 1 (b0.map eI))),I i_1,.b (.b7 [.i x_3]),I x_3,B (decide (x_2 ≠ x_3))] [0,1,5,25] [] (s':=⟨[(0,_),(1,_),(5,_),(25,B (decide (x_2 ≠ x_3)))],[]⟩) rfl ⟨fun _=>.p om,fun _=>.p om,fun _=>.p (az an (aB e6) (aA (e:=eI) e6) rfl rfl),fun _=>.p (ay au rfl rfl),fun _=>.p om,fun _=>.p om,fun _=>.p (az an (aB e7) (aA (e:=eI) e7) rfl rfl),fun _=>.p (ay au rfl rfl),fun _=>.p (hU rfl rfl),trivial⟩ rfl rfl (ab.ite h4 rfl (fun _ h4=>?_) (fun _ h4=>?_))
    ·refine ab.seq (ab.aa ?_)
     refine Oc oa (ae.ag ⟨[(4,B false)],[]⟩ rfl (ab.ret (Fin.bT (Fin.aG ?_))))
     obtain rfl:=hy5 _ (Option.some.inj h4).symm
     refine Fin.aG (Fin.bT (Fin.aG ?_))
     obtain rfl:=Option.some.inj h
     refine Fin.af ⟨[(4,_)],[]⟩ rfl (Fin.aW [.one (.bool false)] (.inl rfl) rfl (.cons (.tmp rfl) .nil) ⟨rfl,rfl⟩)
    ·refine ab.skip (Fin.ah (Fin.af ⟨[(0,_),(1,_),(5,_)],[]⟩ rfl (Fin.then (ab.aa ?_))))
     refine Oc om (Oc (aY rfl rfl) (Oc oa ?_))
     refine ae.nil ?_
     exact Fin.bu [0,1,5] [] (IntKind.i64.wrap (i_1 + 1)) (Option.some.inj h4) rfl
   ·refine ab.exit (Fin.ai ?_)
    obtain rfl:=hy5 _ (Option.some.inj h4).symm
    refine Fin.ai (Fin.aD ?_)
    exact Fin.join [] [] () rfl rfl
  ·rintro _ hv
   subst v1
   refine ab.seq (ab.aa ?_)
   refine Oc oa (ae.ag ⟨[(4,B true)],[]⟩ rfl (ab.ret ?_))
   obtain rfl:=Option.some.inj h
   refine Fin.af ⟨[(4,_)],[]⟩ rfl (Fin.aW [.one (.bool true)] (.inl rfl) rfl (.cons (.tmp rfl) .nil) ⟨rfl,rfl⟩)
def cj (F:Nat) (a0:List (List Int)) (b0:List (List Int)):Option Bool :=
 if (decide ((a0.length:Int) ≠ (b0.length:Int))) = true then (some false) else (Option.bind (iter F (fun i_1=>if (decide (i_1 < (a0.length:Int))) = true then ((aM a0 i_1).bind fun x_2=>(aM b0 i_1).bind fun x_3=>(br F x_2 x_3).bind fun x_4=>if (!x_4) = true then (some (.inr (.inr false))) else (some (.inl (IntKind.i64.wrap (i_1 + 1))))) else (some (.inr (.inl ())))) 0) (gF (fun _=>some true) (fun y=>some y)))
theorem dt {F:Nat} {a0:List (List Int)} {b0:List (List Int)} {r:Bool} (h:cj F a0 b0 = some r):ax Try.prog [] 18 [] [.one (.sl 1 (a0.map (eL 1 eI))),.one (.sl 1 (b0.map (eL 1 eI)))] (Is [] (.b (.one (.bool r)))):=by
 unfold cj at h
 refine ax.intro 27 Try.func18 Try.ntmps18 rfl (by simp) fun E=>?_
 show ab _ E ⟨27,[],[],[]⟩ _ ⟨[(0,.b (.one (.sl 1 (a0.map (eL 1 eI))))),(1,.b (.one (.sl 1 (b0.map (eL 1 eI)))))],[]⟩ _
 refine ab.seq (ab.aa ?_)
 refine Oc oa (ae.ag ⟨[(0,.b (.one (.sl 1 (a0.map (eL 1 eI))))),(1,.b (.one (.sl 1 (b0.map (eL 1 eI)))))],[]⟩ rfl (ab.seq (ab.seq (ab.aa ?_))))
 refine Oc om (Oc (av ka rfl (List.length_map _)) (Oc om (Oc (av ka rfl (List.length_map _)) (Oc (hU rfl rfl) ?_))))
 refine ae.ag ⟨[(0,_),(1,_),(10,B (decide ((a0.length:Int) ≠ (b0.length:Int))))],[]⟩ rfl (ab.ite h rfl (fun _ h=>?_) (fun _ h=>?_))
 ·refine ab.seq (ab.aa ?_)
  refine Oc oa (ae.ag ⟨[(4,B false)],[]⟩ rfl (ab.ret (Fin.aG ?_)))
  obtain rfl:=Option.some.inj h
  refine Fin.af ⟨[(4,_)],[]⟩ rfl (Fin.aW [.one (.bool false)] (.inl rfl) rfl (.cons (.tmp rfl) .nil) ⟨rfl,rfl⟩)
 ·refine ab.skip (Fin.af ⟨[(0,_),(1,_)],[]⟩ rfl (Fin.then ?_))
  obtain ⟨v1,h2,h⟩:=aL h
  refine ab.cn (v:=v1) (fun (_:Unit)=>⟨[],[]⟩) (fun z=>.inl z) ?_ ?_
  ·refine ab.seq (ab.aa ?_)
   refine Oc oa (ae.ag ⟨[(0,_),(1,_),(5,I 0)],[]⟩ rfl (ab.block (ab.b9 h2 (fun (i_1:Int)=>⟨[(0,.b (.one (.sl 1 (a0.map (eL 1 eI))))),(1,.b (.one (.sl 1 (b0.map (eL 1 eI))))),(5,I i_1)],[]⟩) [0,1,5] [] rfl ?_)))
   rintro i_1 o3 h4 hy5
   refine ab.seq (ab.seq (ab.aa ?_))
   refine Oc om (Oc om (Oc (av ka rfl (List.length_map _)) (Oc (bl rfl rfl) ?_)))
   refine ae.ag ⟨[(0,_),(1,_),(5,_),(14,B (decide (i_1 < (a0.length:Int))))],[]⟩ rfl (ab.ite h4 rfl (fun _ h4=>?_) (fun _ h4=>?_))
   ·refine ab.skip (Fin.af ⟨[(0,_),(1,_),(5,_)],[]⟩ rfl (Fin.then (ab.seq (ab.block (ab.seq ?_)))))
    refine ab.af ⟨[(0,_),(1,_),(5,_)],[]⟩ rfl ?_
    obtain ⟨x_2,e6,h4⟩:=aL h4
    obtain ⟨x_3,e7,h4⟩:=aL h4
    obtain ⟨x_4,e8,h4⟩:=aL h4
    refine ab.cU mixed 10 [.b (.one (.sl 1 (a0.map (eL 1 eI)))),I i_1,.b (.b7 [.sl 1 (x_2.map eI)]),.b (.one (.sl 1 (x_2.map eI))),.b (.one (.sl 1 (b0.map (eL 1 eI)))),I i_1,.b (.b7 [.sl 1 (x_3.map eI)]),.b (.one (.sl 1 (x_3.map eI))),B x_4,B (!x_4)] [0,1,5,26] [] (s':=⟨[(0,_),(1,_),(5,_),(26,B (!x_4))],[]⟩) rfl ⟨fun _=>.p om,fun _=>.p om,fun _=>.p (az cQ (aB e6) (aA (e:=(eL 1 eI)) e6) rfl rfl),fun _=>.p (ay aT rfl rfl),fun _=>.p om,fun _=>.p om,fun _=>.p (az cQ (aB e7) (aA (e:=(eL 1 eI)) e7) rfl rfl),fun _=>.p (ay aT rfl rfl),fun _=>.p (ba (bG e8) kV rfl rfl),fun _=>.p (dm rfl),trivial⟩ rfl rfl (ab.ite h4 rfl (fun _ h4=>?_) (fun _ h4=>?_))
    ·refine ab.seq (ab.aa ?_)
     refine Oc oa (ae.ag ⟨[(4,B false)],[]⟩ rfl (ab.ret (Fin.bT (Fin.aG ?_))))
     obtain rfl:=hy5 _ (Option.some.inj h4).symm
     refine Fin.aG (Fin.bT (Fin.aG ?_))
     obtain rfl:=Option.some.inj h
     refine Fin.af ⟨[(4,_)],[]⟩ rfl (Fin.aW [.one (.bool false)] (.inl rfl) rfl (.cons (.tmp rfl) .nil) ⟨rfl,rfl⟩)
    ·refine ab.skip (Fin.ah (Fin.af ⟨[(0,_),(1,_),(5,_)],[]⟩ rfl (Fin.then (ab.aa ?_))))
     refine Oc om (Oc (aY rfl rfl) (Oc oa ?_))
     refine ae.nil ?_
     exact Fin.bu [0,1,5] [] (IntKind.i64.wrap (i_1 + 1)) (Option.some.inj h4) rfl
   ·refine ab.exit (Fin.ai ?_)
    obtain rfl:=hy5 _ (Option.some.inj h4).symm
    refine Fin.ai (Fin.aD ?_)
    exact Fin.join [] [] () rfl rfl
  ·rintro _ hv
   subst v1
   refine ab.seq (ab.aa ?_)
   refine Oc oa (ae.ag ⟨[(4,B true)],[]⟩ rfl (ab.ret ?_))
   obtain rfl:=Option.some.inj h
   refine Fin.af ⟨[(4,_)],[]⟩ rfl (Fin.aW [.one (.bool true)] (.inl rfl) rfl (.cons (.tmp rfl) .nil) ⟨rfl,rfl⟩)
def bw (F:Nat):Option Bool :=
 Option.bind (cR F [true,false,false,false,false,false,false] [(⟨0,1⟩:A2),(⟨1,2⟩:A2),(⟨2,3⟩:A2),(⟨1,3⟩:A2),(⟨4,5⟩:A2),(⟨0,4⟩:A2)]) (cq fun x_1 x_2=>Option.bind (dV F [true,false,false,false,false,false,false] [(⟨0,1⟩:A2),(⟨1,2⟩:A2),(⟨2,3⟩:A2),(⟨1,3⟩:A2),(⟨4,5⟩:A2),(⟨0,4⟩:A2)]) (cq fun x_3 x_4=>Option.bind (eG F [true,false,false,false,false,false,false] [(⟨0,1⟩:A2),(⟨1,2⟩:A2),(⟨2,3⟩:A2),(⟨1,3⟩:A2),(⟨4,5⟩:A2),(⟨0,4⟩:A2)]) (cq fun x_5 x_6=>Option.bind (fy F [true,false,false,false,false,false,false] [(⟨0,1⟩:A2),(⟨1,2⟩:A2),(⟨2,3⟩:A2),(⟨1,3⟩:A2),(⟨4,5⟩:A2),(⟨0,4⟩:A2)]) (cq fun x_7 x_8=>Option.bind (dK F [true,false,false,false,false,false,false] [(⟨0,1⟩:A2),(⟨1,2⟩:A2),(⟨2,3⟩:A2),(⟨1,3⟩:A2),(⟨4,5⟩:A2),(⟨0,4⟩:A2)]) (cq fun x_9 x_10=>(eO [(⟨0,1⟩:A2),(⟨1,2⟩:A2),(⟨2,3⟩:A2),(⟨1,3⟩:A2),(⟨4,5⟩:A2),(⟨0,4⟩:A2)] [(⟨3,6⟩:A2)]).bind fun x_11=>Option.bind (fi F [true,false,false,false,false,false,false] x_11) (cq fun x_12 x_13=>(eH F [[[1,2],[4,5]],[[2,3],[6]]]).bind fun x_14=>eu (((decide (x_2 = 0)) && (decide (x_4 = 0))) && (decide (x_6 = 0))) fun x_15=>eu (((x_15 && (decide (x_8 = 0))) && (decide (x_10 = 0))) && (decide (x_13 = 0))) fun x_16=>(ca x_16 (cj F x_1 [[1,2,3],[4,5],[6]])).bind fun x_17=>(ca (x_16 && x_17) (br F x_3 [0,1,2,2,1,2,(-1)])).bind fun x_18=>(ca ((x_16 && x_17) && x_18) (br F x_5 [1,2,3,4,5,6])).bind fun x_19=>(ca (((x_16 && x_17) && x_18) && x_19) (br F x_7 [1,2,4])).bind fun x_20=>(ca ((((x_16 && x_17) && x_18) && x_19) && x_20) (br F x_9 [4])).bind fun x_21=>(ca (((((x_16 && x_17) && x_18) && x_19) && x_20) && x_21) (br F x_12 [3])).bind fun x_22=>eu ((((((x_16 && x_17) && x_18) && x_19) && x_20) && x_21) && x_22) fun x_23=>(ca x_23 (cj F x_14 [[1,2,3],[4,5],[6]])).bind fun x_24=>some (x_23 && x_24)))))))
theorem cJ {F:Nat} {r:Bool} (h:bw F = some r):ax Try.prog [] 11 [] [] (Is [] (.b (.one (.bool r)))):=by
 unfold bw at h
 refine ax.intro 135 Try.func11 Try.ntmps11 rfl (by simp) fun E=>?_
 show ab _ E ⟨135,[],[],[]⟩ _ ⟨[],[]⟩ _
 refine ab.seq (ab.aa ?_)
 refine Oc oa (ae.ag ⟨[],[]⟩ rfl (ab.seq (ab.aa ?_)))
 refine Oc (je (es:=[true,false,false,false,false,false,false].map eB) hS rfl rfl (bf fun _=>rfl) rfl (by decide) (by decide)) (Oc oa ?_)
 refine ae.ag ⟨[(1,.b (.one (.slf 1 ([true,false,false,false,false,false,false].map eB))))],[]⟩ rfl (ab.seq (ab.aa ?_))
 refine Oc (eX eW rfl rfl) (Oc (eX eW rfl rfl) (Oc (eX eW rfl rfl) (Oc (eX eW rfl rfl) (Oc (eX eW rfl rfl) (Oc (eX eW rfl rfl) ?_)))))
 refine Oc (je (es:=[(⟨0,1⟩:A2),(⟨1,2⟩:A2),(⟨2,3⟩:A2),(⟨1,3⟩:A2),(⟨4,5⟩:A2),(⟨0,4⟩:A2)].map (cm .i64)) fX rfl rfl (bf fun _=>rfl) rfl (by decide) (by decide)) (Oc oa ?_)
 refine ae.ag ⟨[(1,_),(2,.b (.one (.slf 2 ([(⟨0,1⟩:A2),(⟨1,2⟩:A2),(⟨2,3⟩:A2),(⟨1,3⟩:A2),(⟨4,5⟩:A2),(⟨0,4⟩:A2)].map (cm .i64)))))],[]⟩ rfl (ab.seq (ab.aa ?_))
 refine Oc om (Oc om ?_)
 refine ae.fT 27 rfl (ae.fT 28 rfl (ae.af ⟨[(1,_),(2,_),(27,.b (.one (.sl 1 ([true,false,false,false,false,false,false].map eB)))),(28,.b (.one (.sl 2 ([(⟨0,1⟩:A2),(⟨1,2⟩:A2),(⟨2,3⟩:A2),(⟨1,3⟩:A2),(⟨4,5⟩:A2),(⟨0,4⟩:A2)].map (cm .i64)))))],[]⟩ rfl ?_))
 obtain ⟨⟨x_1,x_2⟩,e1,h⟩:=aL h
 refine Oc (ba (hJ e1) oA rfl rfl) (Oc om (Oc (aH rfl rfl) (Oc (aH rfl rfl) (Oc oa (Oc oa ?_)))))
 refine ae.ag ⟨[(1,_),(2,_),(3,.b (.one (.sl 1 (x_1.map (eL 1 eI))))),(4,I x_2)],[]⟩ rfl (ab.seq (ab.aa ?_))
 refine Oc om (Oc om ?_)
 refine ae.fT 33 rfl (ae.fT 34 rfl (ae.af ⟨[(1,_),(2,_),(3,_),(4,_),(33,.b (.one (.sl 1 ([true,false,false,false,false,false,false].map eB)))),(34,.b (.one (.sl 2 ([(⟨0,1⟩:A2),(⟨1,2⟩:A2),(⟨2,3⟩:A2),(⟨1,3⟩:A2),(⟨4,5⟩:A2),(⟨0,4⟩:A2)].map (cm .i64)))))],[]⟩ rfl ?_))
 obtain ⟨⟨x_3,x_4⟩,e2,h⟩:=aL h
 refine Oc (bh (gk 103 e2) qm rfl trivial rfl rfl) (Oc om (Oc (aH rfl rfl) (Oc (aH rfl rfl) (Oc oa (Oc oa ?_)))))
 refine ae.ag ⟨[(1,_),(2,_),(3,_),(4,_),(5,.b (.row 103)),(6,I x_4)],[(103,.row 3 1 (x_3.map eI))]⟩ rfl (ab.seq (ab.aa ?_))
 refine Oc om (Oc om ?_)
 refine ae.fT 39 rfl (ae.fT 40 rfl (ae.af ⟨[(1,_),(2,_),(3,_),(4,_),(5,_),(6,_),(39,.b (.one (.sl 1 ([true,false,false,false,false,false,false].map eB)))),(40,.b (.one (.sl 2 ([(⟨0,1⟩:A2),(⟨1,2⟩:A2),(⟨2,3⟩:A2),(⟨1,3⟩:A2),(⟨4,5⟩:A2),(⟨0,4⟩:A2)].map (cm .i64)))))],[(103,_)]⟩ rfl ?_))
 obtain ⟨⟨x_5,x_6⟩,e3,h⟩:=aL h
 refine Oc (ba (kL e3) goes14 rfl rfl) (Oc om (Oc (aH rfl rfl) (Oc (aH rfl rfl) (Oc oa (Oc oa ?_)))))
 refine ae.ag ⟨[(1,_),(2,_),(3,_),(4,_),(5,_),(6,_),(7,.b (.one (.sl 1 (x_5.map eI)))),(8,I x_6)],[(103,_)]⟩ rfl (ab.seq (ab.aa ?_))
 refine Oc om (Oc om ?_)
 refine ae.fT 45 rfl (ae.fT 46 rfl (ae.af ⟨[(1,_),(2,_),(3,_),(4,_),(5,_),(6,_),(7,_),(8,_),(45,.b (.one (.sl 1 ([true,false,false,false,false,false,false].map eB)))),(46,.b (.one (.sl 2 ([(⟨0,1⟩:A2),(⟨1,2⟩:A2),(⟨2,3⟩:A2),(⟨1,3⟩:A2),(⟨4,5⟩:A2),(⟨0,4⟩:A2)].map (cm .i64)))))],[(103,_)]⟩ rfl ?_))
 obtain ⟨⟨x_7,x_8⟩,e4,h⟩:=aL h
 refine Oc (bh (j5 104 e4) goes20 rfl trivial rfl rfl) (Oc om (Oc (aH rfl rfl) (Oc (aH rfl rfl) (Oc oa (Oc oa ?_)))))
 refine ae.ag ⟨[(1,_),(2,_),(3,_),(4,_),(5,_),(6,_),(7,_),(8,_),(9,.b (.row 104)),(10,I x_8)],[(103,_),(104,.row 3 1 (x_7.map eI))]⟩ rfl (ab.seq (ab.aa ?_))
 refine Oc om (Oc om ?_)
 refine ae.fT 51 rfl (ae.fT 52 rfl (ae.af ⟨[(1,_),(2,_),(3,_),(4,_),(5,_),(6,_),(7,_),(8,_),(9,_),(10,_),(51,.b (.one (.sl 1 ([true,false,false,false,false,false,false].map eB)))),(52,.b (.one (.sl 2 ([(⟨0,1⟩:A2),(⟨1,2⟩:A2),(⟨2,3⟩:A2),(⟨1,3⟩:A2),(⟨4,5⟩:A2),(⟨0,4⟩:A2)].map (cm .i64)))))],[(103,_),(104,_)]⟩ rfl ?_))
 obtain ⟨⟨x_9,x_10⟩,e5,h⟩:=aL h
 refine Oc (ba (jA e5) goes22 rfl rfl) (Oc om (Oc (aH rfl rfl) (Oc (aH rfl rfl) (Oc oa (Oc oa ?_)))))
 refine ae.ag ⟨[(1,_),(2,_),(3,_),(4,_),(5,_),(6,_),(7,_),(8,_),(9,_),(10,_),(11,.b (.one (.sl 1 (x_9.map eI)))),(12,I x_10)],[(103,_),(104,_)]⟩ rfl (ab.seq (ab.aa ?_))
 refine Oc om (Oc om (Oc (eX eW rfl rfl) (Oc (aK (k:=105) (es:=[(⟨3,6⟩:A2)].map (cm .i64)) fX rfl rfl (bf fun _=>rfl) rfl (by decide) (by decide) rfl) ?_)))
 obtain ⟨x_11,e6,h⟩:=aL h
 refine Oc (n7 (k:=106) fX (fD e6) (fC e6) (Nat.le_of_ble_eq_true rfl) rfl rfl rfl (dc e6) rfl) (ae.fT 57 rfl (ae.bH 106 rfl (ae.af ⟨[(3,.b (.one (.sl 1 (x_1.map (eL 1 eI))))),(4,I x_2),(5,.b (.row 103)),(6,I x_4),(7,.b (.one (.sl 1 (x_5.map eI)))),(8,I x_6),(9,.b (.row 104)),(10,I x_8),(11,.b (.one (.sl 1 (x_9.map eI)))),(12,I x_10),(57,.b (.one (.sl 1 ([true,false,false,false,false,false,false].map eB)))),(60,.b (.row 105)),(61,.b (.one (.sl 2 (x_11.map (cm .i64)))))],[(103,.row 3 1 (x_3.map eI)),(104,.row 3 1 (x_7.map eI)),(105,.row 44 2 ([(⟨3,6⟩:A2)].map (cm .i64)))]⟩ rfl ?_)))
 obtain ⟨⟨x_12,x_13⟩,e7,h⟩:=aL h
 refine Oc (ba (lp e7) goes21 rfl rfl) (Oc om (Oc (aH rfl rfl) (Oc (aH rfl rfl) (Oc oa (Oc oa ?_)))))
 refine ae.ag ⟨[(3,_),(4,_),(5,_),(6,_),(7,_),(8,_),(9,_),(10,_),(11,_),(12,_),(13,.b (.one (.sl 1 (x_12.map eI)))),(14,I x_13)],[(103,_),(104,_)]⟩ rfl (ab.seq (ab.aa ?_))
 refine Oc (aK (k:=107) (es:=[1,2].map eI) an rfl rfl (bf fun _=>rfl) rfl (by decide) (by decide) rfl) (Oc (aK (k:=108) (es:=[4,5].map eI) an rfl rfl (bf fun _=>rfl) rfl (by decide) (by decide) rfl) ?_)
 refine ae.bH 107 rfl (ae.bH 108 rfl (ae.af ⟨[(3,.b (.one (.sl 1 (x_1.map (eL 1 eI))))),(4,I x_2),(5,.b (.row 103)),(6,I x_4),(7,.b (.one (.sl 1 (x_5.map eI)))),(8,I x_6),(9,.b (.row 104)),(10,I x_8),(11,.b (.one (.sl 1 (x_9.map eI)))),(12,I x_10),(13,.b (.one (.sl 1 (x_12.map eI)))),(14,I x_13),(65,.b (.one (.sl 1 ([1,2].map eI)))),(66,.b (.one (.sl 1 ([4,5].map eI))))],[(103,.row 3 1 (x_3.map eI)),(104,.row 3 1 (x_7.map eI))]⟩ rfl (Oc (aK (k:=109) (es:=[[1,2],[4,5]].map (eL 1 eI)) cQ rfl rfl (bf fun _=>rfl) rfl (by decide) (by decide) rfl) (Oc (aK (k:=110) (es:=[2,3].map eI) an rfl rfl (bf fun _=>rfl) rfl (by decide) (by decide) rfl) (Oc (aK (k:=111) (es:=[6].map eI) an rfl rfl (bf fun _=>rfl) rfl (by decide) (by decide) rfl) ?_)))))
 refine ae.bH 110 rfl (ae.bH 111 rfl (ae.af ⟨[(3,.b (.one (.sl 1 (x_1.map (eL 1 eI))))),(4,I x_2),(5,.b (.row 103)),(6,I x_4),(7,.b (.one (.sl 1 (x_5.map eI)))),(8,I x_6),(9,.b (.row 104)),(10,I x_8),(11,.b (.one (.sl 1 (x_9.map eI)))),(12,I x_10),(13,.b (.one (.sl 1 (x_12.map eI)))),(14,I x_13),(67,.b (.row 109)),(68,.b (.one (.sl 1 ([2,3].map eI)))),(69,.b (.one (.sl 1 ([6].map eI))))],[(103,.row 3 1 (x_3.map eI)),(104,.row 3 1 (x_7.map eI)),(109,.row 30 1 ([[1,2],[4,5]].map (eL 1 eI)))]⟩ rfl (Oc (aK (k:=112) (es:=[[2,3],[6]].map (eL 1 eI)) cQ rfl rfl (bf fun _=>rfl) rfl (by decide) (by decide) rfl) (ae.bH 109 rfl (ae.bH 112 rfl ?_)))))
 refine Oc (aK (k:=113) (es:=[[[1,2],[4,5]],[[2,3],[6]]].map (eL 1 (eL 1 eI))) p8 rfl rfl (bf fun _=>rfl) rfl (by decide) (by decide) rfl) (ae.bH 113 rfl ?_)
 obtain ⟨x_14,e8,h⟩:=aL h
 refine Oc (ba (kM e8) goes27 rfl rfl) (Oc oa ?_)
 refine ae.ag ⟨[(3,.b (.one (.sl 1 (x_1.map (eL 1 eI))))),(4,I x_2),(5,.b (.row 103)),(6,I x_4),(7,.b (.one (.sl 1 (x_5.map eI)))),(8,I x_6),(9,.b (.row 104)),(10,I x_8),(11,.b (.one (.sl 1 (x_9.map eI)))),(12,I x_10),(13,.b (.one (.sl 1 (x_12.map eI)))),(14,I x_13),(15,.b (.one (.sl 1 (x_14.map (eL 1 eI)))))],[(103,.row 3 1 (x_3.map eI)),(104,.row 3 1 (x_7.map eI))]⟩ rfl (ab.seq (ab.aa ?_))
 refine Oc (aK (k:=114) (es:=[1,2,3].map eI) an rfl rfl (bf fun _=>rfl) rfl (by decide) (by decide) rfl) (Oc (aK (k:=115) (es:=[4,5].map eI) an rfl rfl (bf fun _=>rfl) rfl (by decide) (by decide) rfl) (Oc (aK (k:=116) (es:=[6].map eI) an rfl rfl (bf fun _=>rfl) rfl (by decide) (by decide) rfl) ?_))
 refine ae.bH 114 rfl (ae.bH 115 rfl (ae.bH 116 rfl (Oc (aK (k:=117) (es:=[[1,2,3],[4,5],[6]].map (eL 1 eI)) cQ rfl rfl (bf fun _=>rfl) rfl (by decide) (by decide) rfl) (Oc oa ?_))))
 refine ae.ag ⟨[(3,.b (.one (.sl 1 (x_1.map (eL 1 eI))))),(4,I x_2),(5,.b (.row 103)),(6,I x_4),(7,.b (.one (.sl 1 (x_5.map eI)))),(8,I x_6),(9,.b (.row 104)),(10,I x_8),(11,.b (.one (.sl 1 (x_9.map eI)))),(12,I x_10),(13,.b (.one (.sl 1 (x_12.map eI)))),(14,I x_13),(15,.b (.one (.sl 1 (x_14.map (eL 1 eI))))),(16,.b (.row 117))],[(103,.row 3 1 (x_3.map eI)),(104,.row 3 1 (x_7.map eI)),(117,.row 30 1 ([[1,2,3],[4,5],[6]].map (eL 1 eI)))]⟩ rfl (ab.seq (ab.aa ?_))
 refine Oc om (Oc (dn rfl rfl) (Oc om ?_))
 refine er (decide (x_2 = 0)) [] (fun g9=>trivial) (fun g9=>om) (er (decide (x_2 = 0)) [80] (fun g10=>by exact ⟨g10,trivial⟩) (fun g10=>dn rfl rfl) (Oc (aV (fun e=>e) rfl rfl rfl rfl) (Oc om ?_)))
 refine ae.af ⟨[(3,_),(5,_),(7,_),(8,_),(9,_),(10,_),(11,_),(12,_),(13,_),(14,_),(15,_),(16,_),(83,B ((decide (x_2 = 0)) && (decide (x_4 = 0))))],[(103,_),(104,_),(117,_)]⟩ rfl (er ((decide (x_2 = 0)) && (decide (x_4 = 0))) [] (fun g11=>trivial) (fun g11=>om) (er ((decide (x_2 = 0)) && (decide (x_4 = 0))) [84] (fun g12=>by exact ⟨g12,trivial⟩) (fun g12=>dn rfl rfl) (ae.kj h rfl (aV (fun e=>e) rfl rfl rfl rfl) (fun x_15 h=>?_))))
 refine Oc om (er x_15 [] (fun g13=>by exact trivial) (fun g13=>om) (er x_15 [88] (fun g14=>by exact ⟨g14,trivial⟩) (fun g14=>dn rfl rfl) (Oc (aV (fun e=>e) rfl rfl rfl rfl) (Oc om ?_))))
 refine ae.af ⟨[(3,_),(5,_),(7,_),(9,_),(11,_),(12,_),(13,_),(14,_),(15,_),(16,_),(91,B (x_15 && (decide (x_8 = 0))))],[(103,_),(104,_),(117,_)]⟩ rfl (er (x_15 && (decide (x_8 = 0))) [] (fun g15=>trivial) (fun g15=>om) (er (x_15 && (decide (x_8 = 0))) [92] (fun g16=>by exact ⟨g16,trivial⟩) (fun g16=>dn rfl rfl) (Oc (aV (fun e=>e) rfl rfl rfl rfl) (Oc om ?_))))
 refine er ((x_15 && (decide (x_8 = 0))) && (decide (x_10 = 0))) [] (fun g17=>trivial) (fun g17=>om) (er ((x_15 && (decide (x_8 = 0))) && (decide (x_10 = 0))) [96] (fun g18=>by exact ⟨g18,trivial⟩) (fun g18=>dn rfl rfl) (ae.kj h rfl (aV (fun e=>e) rfl rfl rfl rfl) (fun x_16 h=>?_)))
 refine Oc oa (ae.ag ⟨[(3,_),(5,_),(7,_),(9,_),(11,_),(13,_),(15,_),(16,_),(17,B x_16)],[(103,_),(104,_),(117,_)]⟩ rfl (ab.seq (ab.aa ?_)))
 refine Oc om (Oc om ?_)
 refine er x_16 [] (fun g19=>trivial) (fun g19=>om) (er x_16 [] (fun g20=>by exact trivial) (fun g20=>om) ?_)
 obtain ⟨x_17,e22,h⟩:=aL h
 refine er x_16 [101,102] (fun g21=>⟨g21,g21,trivial⟩) (fun g21=>kA (dt (gc e22 g21)) ql rfl CP.jv) (ae.af ⟨[(5,_),(7,_),(9,_),(11,_),(13,_),(15,_),(16,_),(100,B x_16),(103,.opt x_16 (.one (.bool x_17)))],[(103,_),(104,_),(117,_)]⟩ rfl (Oc (aV (fun e=>e) rfl rfl rfl rfl) (Oc om ?_)))
 refine er (x_16 && x_17) [] (fun g23=>trivial) (fun g23=>om) (er (x_16 && x_17) [] (fun g24=>by exact trivial) (fun g24=>b4 (es:=[0,1,2,2,1,2,(-1)].map eI) an rfl rfl (bf fun _=>rfl) rfl (by decide) (by decide)) ?_)
 obtain ⟨x_18,e26,h⟩:=aL h
 refine er (x_16 && x_17) [106,107] (fun g25=>⟨g25,g25,trivial⟩) (fun g25=>kA (bG (gc e26 g25)) kV rfl CP.jv) (ae.af ⟨[(7,_),(9,_),(11,_),(13,_),(15,_),(16,_),(105,B (x_16 && x_17)),(108,.opt (x_16 && x_17) (.one (.bool x_18)))],[(104,_),(117,_)]⟩ rfl (Oc (aV (fun e=>e) rfl rfl rfl rfl) (Oc om ?_)))
 refine er ((x_16 && x_17) && x_18) [] (fun g27=>trivial) (fun g27=>om) (er ((x_16 && x_17) && x_18) [] (fun g28=>by exact trivial) (fun g28=>b4 (es:=[1,2,3,4,5,6].map eI) an rfl rfl (bf fun _=>rfl) rfl (by decide) (by decide)) ?_)
 obtain ⟨x_19,e30,h⟩:=aL h
 refine er ((x_16 && x_17) && x_18) [111,112] (fun g29=>⟨g29,g29,trivial⟩) (fun g29=>ba (bG (gc e30 g29)) kV rfl rfl) (ae.af ⟨[(9,_),(11,_),(13,_),(15,_),(16,_),(110,B ((x_16 && x_17) && x_18)),(113,.opt ((x_16 && x_17) && x_18) (.one (.bool x_19)))],[(104,_),(117,_)]⟩ rfl (Oc (aV (fun e=>e) rfl rfl rfl rfl) (Oc om ?_)))
 refine er (((x_16 && x_17) && x_18) && x_19) [] (fun g31=>trivial) (fun g31=>om) (er (((x_16 && x_17) && x_18) && x_19) [] (fun g32=>by exact trivial) (fun g32=>b4 (es:=[1,2,4].map eI) an rfl rfl (bf fun _=>rfl) rfl (by decide) (by decide)) ?_)
 obtain ⟨x_20,e34,h⟩:=aL h
 refine er (((x_16 && x_17) && x_18) && x_19) [116,117] (fun g33=>⟨g33,g33,trivial⟩) (fun g33=>kA (bG (gc e34 g33)) kV rfl CP.jv) (ae.af ⟨[(11,_),(13,_),(15,_),(16,_),(115,B (((x_16 && x_17) && x_18) && x_19)),(118,.opt (((x_16 && x_17) && x_18) && x_19) (.one (.bool x_20)))],[(117,_)]⟩ rfl (Oc (aV (fun e=>e) rfl rfl rfl rfl) (Oc om ?_)))
 refine er ((((x_16 && x_17) && x_18) && x_19) && x_20) [] (fun g35=>trivial) (fun g35=>om) (er ((((x_16 && x_17) && x_18) && x_19) && x_20) [] (fun g36=>by exact trivial) (fun g36=>b4 (es:=[4].map eI) an rfl rfl (bf fun _=>rfl) rfl (by decide) (by decide)) ?_)
 obtain ⟨x_21,e38,h⟩:=aL h
 refine er ((((x_16 && x_17) && x_18) && x_19) && x_20) [121,122] (fun g37=>⟨g37,g37,trivial⟩) (fun g37=>ba (bG (gc e38 g37)) kV rfl rfl) (ae.af ⟨[(13,_),(15,_),(16,_),(120,B ((((x_16 && x_17) && x_18) && x_19) && x_20)),(123,.opt ((((x_16 && x_17) && x_18) && x_19) && x_20) (.one (.bool x_21)))],[(117,_)]⟩ rfl (Oc (aV (fun e=>e) rfl rfl rfl rfl) (Oc om ?_)))
 refine er (((((x_16 && x_17) && x_18) && x_19) && x_20) && x_21) [] (fun g39=>trivial) (fun g39=>om) (er (((((x_16 && x_17) && x_18) && x_19) && x_20) && x_21) [] (fun g40=>by exact trivial) (fun g40=>b4 (es:=[3].map eI) an rfl rfl (bf fun _=>rfl) rfl (by decide) (by decide)) ?_)
 obtain ⟨x_22,e42,h⟩:=aL h
 refine er (((((x_16 && x_17) && x_18) && x_19) && x_20) && x_21) [126,127] (fun g41=>⟨g41,g41,trivial⟩) (fun g41=>ba (bG (gc e42 g41)) kV rfl rfl) (ae.af ⟨[(15,_),(16,_),(125,B (((((x_16 && x_17) && x_18) && x_19) && x_20) && x_21)),(128,.opt (((((x_16 && x_17) && x_18) && x_19) && x_20) && x_21) (.one (.bool x_22)))],[(117,_)]⟩ rfl (ae.kj h rfl (aV (fun e=>e) rfl rfl rfl rfl) (fun x_23 h=>?_)))
 refine Oc om (er x_23 [] (fun g43=>by exact trivial) (fun g43=>om) (er x_23 [] (fun g44=>by exact trivial) (fun g44=>om) ?_))
 obtain ⟨x_24,e46,h⟩:=aL h
 refine er x_23 [131,132] (fun g45=>⟨g45,g45,trivial⟩) (fun g45=>kA (dt (gc e46 g45)) ql rfl CP.jv) (Oc (aV (fun e=>e) rfl rfl rfl rfl) (Oc oa ?_))
 refine ae.ag ⟨[(0,B (x_23 && x_24))],[]⟩ rfl (ab.ret ?_)
 obtain rfl:=Option.some.inj h
 refine Fin.af ⟨[(0,_)],[]⟩ rfl (Fin.aW [.one (.bool (x_23 && x_24))] (.inl rfl) rfl (.cons (.tmp rfl) .nil) ⟨rfl,rfl⟩)
def bE (F:Nat) (fixed0:List Bool) (links0:List A2):Option Bool :=
 (cW F fixed0 links0).bind fun x_1=>if (!x_1) = true then ((bw F).bind fun x_2=>some x_2) else (Option.bind (cR F fixed0 links0) (cq fun x_3 x_4=>if (decide (x_4 ≠ 0)) = true then ((bw F).bind fun x_5=>some (x_5 && (decide ((x_3.length:Int) = 0)))) else (Option.bind (mk? (0:Int) (fixed0.length:Int) (fixed0.length:Int)) (fun x_6=>Option.bind (iter F (cq fun where_8 i_9=>if (decide (i_9 < (x_3.length:Int))) = true then (Option.bind ((aM x_3 i_9).bind fun x_12=>(ca ((!(decide ((x_12.length:Int) = 0))) && (decide (0 < i_9))) (aM x_3 i_9)).bind fun x_13=>(ca ((!(decide ((x_12.length:Int) = 0))) && (decide (0 < i_9))) (aM x_13 0)).bind fun x_14=>(ca ((!(decide ((x_12.length:Int) = 0))) && (decide (0 < i_9))) (aM x_3 (IntKind.i64.wrap (i_9 - 1)))).bind fun x_15=>(ca ((!(decide ((x_12.length:Int) = 0))) && (decide (0 < i_9))) (aM x_15 0)).bind fun x_16=>if ((decide ((x_12.length:Int) = 0)) || ((decide (0 < i_9)) && (decide (x_14 ≤ x_16)))) = true then (some (.inr false)) else (Option.bind (iter F (cq fun where_17 k_18=>(aM x_3 i_9).bind fun x_20=>if (decide (k_18 < (x_20.length:Int))) = true then ((aM x_3 i_9).bind fun x_21=>(aM x_21 k_18).bind fun x_22=>eu ((decide (x_22 < 0)) || (decide ((fixed0.length:Int) ≤ x_22))) fun x_23=>(ca (!x_23) (aM where_17 x_22)).bind fun x_24=>(ca ((!(x_23 || (decide (x_24 ≠ 0)))) && (decide (0 < k_18))) (aM x_3 i_9)).bind fun x_25=>(ca ((!(x_23 || (decide (x_24 ≠ 0)))) && (decide (0 < k_18))) (aM x_25 (IntKind.i64.wrap (k_18 - 1)))).bind fun x_26=>eu ((x_23 || (decide (x_24 ≠ 0))) || ((decide (0 < k_18)) && (decide (x_22 ≤ x_26)))) fun x_27=>if x_27 = true then (some (.inr (.inr false))) else ((aM where_17 x_22).bind fun x_28=>some (.inl (where_17.set (x_22:Int).toNat (IntKind.i64.wrap (i_9 + 1)),IntKind.i64.wrap (k_18 + 1))))) else (some (.inr (.inl where_17)))) (where_8,0)) (gF (fun where_19=>some (.inl where_19)) (fun y=>some (.inr y))))) (gF (fun where_11=>some (.inl (where_11,IntKind.i64.wrap (i_9 + 1)))) (fun y=>some (.inr (.inr y))))) else (some (.inr (.inl where_8)))) (x_6,0)) (gF (fun where_7=>Option.bind (iter F (fun n_29=>if (decide (n_29 < (fixed0.length:Int))) = true then ((aM fixed0 n_29).bind fun x_30=>(aM where_7 n_29).bind fun x_31=>if (x_30 != (decide (x_31 = 0))) = true then (some (.inr (.inr false))) else (some (.inl (IntKind.i64.wrap (n_29 + 1))))) else (some (.inr (.inl ())))) 0) (gF (fun _=>Option.bind (iter F (fun i_32=>if (decide (i_32 < (links0.length:Int))) = true then ((aM links0 i_32).bind fun x_33=>(aM links0 i_32).bind fun x_34=>(aM fixed0 x_33.a0).bind fun x_35=>(ca (!x_35) (aM fixed0 x_34.a1)).bind fun x_36=>(ca ((!x_35) && (!x_36)) (aM where_7 x_33.a0)).bind fun x_37=>(ca ((!x_35) && (!x_36)) (aM where_7 x_34.a1)).bind fun x_38=>if (((!x_35) && (!x_36)) && (decide (x_37 ≠ x_38))) = true then (some (.inr (.inr false))) else (some (.inl (IntKind.i64.wrap (i_32 + 1))))) else (some (.inr (.inl ())))) 0) (gF (fun _=>(bw F).bind fun x_39=>some x_39) (fun y=>some y))) (fun y=>some y))) (fun y=>some y))))))
theorem dS {F:Nat} {fixed0:List Bool} {links0:List A2} {r:Bool} (h:bE F fixed0 links0 = some r):ax Try.prog [] 6 [] [.one (.sl 1 (fixed0.map eB)),.one (.sl 2 (links0.map (cm .i64)))] (Is [] (.b (.one (.bool r)))):=by
 unfold bE at h
 refine ax.intro 177 Try.func6 Try.ntmps6 rfl (by simp) fun E=>?_
 show ab _ E ⟨177,[],[],[]⟩ _ ⟨[(0,.b (.one (.sl 1 (fixed0.map eB)))),(1,.b (.one (.sl 2 (links0.map (cm .i64)))))],[]⟩ _
 refine ab.seq (ab.aa ?_)
 refine Oc oa (ae.ag ⟨[(0,.b (.one (.sl 1 (fixed0.map eB)))),(1,.b (.one (.sl 2 (links0.map (cm .i64)))))],[]⟩ rfl (ab.seq (ab.seq (ab.aa ?_))))
 refine Oc om (Oc om ?_)
 obtain ⟨x_1,e1,h⟩:=aL h
 refine Oc (ba (iA e1) goes10 rfl rfl) (Oc (dm rfl) ?_)
 refine ae.ag ⟨[(0,_),(1,_),(18,B (!x_1))],[]⟩ rfl (ab.ite h rfl (fun _ h=>?_) (fun _ h=>?_))
 ·refine ab.seq (ab.aa ?_)
  obtain ⟨x_2,e2,h⟩:=aL h
  refine Oc (ba (cJ e2) oB rfl rfl) (Oc oa ?_)
  refine ae.ag ⟨[(4,B x_2)],[]⟩ rfl (ab.ret (Fin.aG ?_))
  obtain rfl:=Option.some.inj h
  refine Fin.af ⟨[(4,_)],[]⟩ rfl (Fin.aW [.one (.bool x_2)] (.inl rfl) rfl (.cons (.tmp rfl) .nil) ⟨rfl,rfl⟩)
 ·refine ab.skip (Fin.af ⟨[(0,_),(1,_)],[]⟩ rfl (Fin.then (ab.seq (ab.aa ?_))))
  refine Oc om (Oc om ?_)
  obtain ⟨⟨x_3,x_4⟩,e3,h⟩:=aL h
  refine Oc (ba (hJ e3) oA rfl rfl) (Oc om (Oc (aH rfl rfl) ?_))
  refine ae.af ⟨[(0,_),(1,_),(20,.dW [.one (.sl 1 (x_3.map (eL 1 eI))),.one (.i x_4)]),(24,.b (.one (.sl 1 (x_3.map (eL 1 eI)))))],[]⟩ rfl (Oc (aH rfl rfl) (Oc oa (Oc oa ?_)))
  refine ae.ag ⟨[(0,_),(1,_),(5,.b (.one (.sl 1 (x_3.map (eL 1 eI))))),(6,I x_4)],[]⟩ rfl (ab.seq (ab.seq (ab.aa ?_)))
  refine Oc om (Oc (hU rfl rfl) ?_)
  refine ae.ag ⟨[(0,_),(1,_),(5,_),(27,B (decide (x_4 ≠ 0)))],[]⟩ rfl (ab.ite h rfl (fun _ h=>?_) (fun _ h=>?_))
  ·refine ab.seq (ab.aa ?_)
   obtain ⟨x_5,e4,h⟩:=aL h
   refine Oc (ba (cJ e4) oB rfl rfl) (Oc om ?_)
   refine er x_5 [] (fun g5=>trivial) (fun g5=>om) (er x_5 [30] (fun g6=>by exact ⟨g6,trivial⟩) (fun g6=>av ka rfl (List.length_map _)) (ae.af ⟨[(29,B x_5),(31,.opt x_5 (.one (.i (x_3.length:Int))))],[]⟩ rfl (er x_5 [31] (fun g7=>by exact ⟨g7,trivial⟩) (fun g7=>dn rfl rfl) (Oc (aV (fun e=>e) rfl rfl rfl rfl) (Oc oa ?_)))))
   refine ae.ag ⟨[(4,B (x_5 && (decide ((x_3.length:Int) = 0))))],[]⟩ rfl (ab.ret (Fin.aG ?_))
   obtain rfl:=Option.some.inj h
   refine Fin.af ⟨[(4,_)],[]⟩ rfl (Fin.aW [.one (.bool (x_5 && (decide ((x_3.length:Int) = 0))))] (.inl rfl) rfl (.cons (.tmp rfl) .nil) ⟨rfl,rfl⟩)
  ·refine ab.skip (Fin.af ⟨[(0,_),(1,_),(5,_)],[]⟩ rfl (Fin.then (ab.seq (ab.aa ?_))))
   refine Oc om (Oc (av cH rfl (List.length_map _)) ?_)
   obtain ⟨x_6,e8,h⟩:=aL h
   refine Oc (a7 (k:=101) (enc:=eI) an e8 (by decide) (.cons .refl .nil) rfl rfl rfl) (Oc oa ?_)
   refine ae.ag ⟨[(0,_),(1,_),(5,_),(7,.b (.row 101))],[(101,.row 3 1 (x_6.map eI))]⟩ rfl ?_
   obtain ⟨v9,h10,h⟩:=aL h
   refine ab.cn (v:=v9) (fun (where_7:List Int)=>⟨[(0,.b (.one (.sl 1 (fixed0.map eB)))),(1,.b (.one (.sl 2 (links0.map (cm .i64))))),(7,.b (.row 101))],[(101,.row 3 1 (where_7.map eI))]⟩) (fun z=>.inl z) ?_ ?_
   ·refine ab.seq (ab.aa ?_)
    refine Oc oa (ae.ag ⟨[(0,_),(1,_),(5,_),(7,_),(8,I 0)],[(101,_)]⟩ rfl (ab.block (ab.b9 h10 (cq fun (where_8:List Int) (i_9:Int)=>⟨[(0,.b (.one (.sl 1 (fixed0.map eB)))),(1,.b (.one (.sl 2 (links0.map (cm .i64))))),(5,.b (.one (.sl 1 (x_3.map (eL 1 eI))))),(7,.b (.row 101)),(8,I i_9)],[(101,.row 3 1 (where_8.map eI))]⟩) [0,1,5,7,8] [101] rfl ?_)))
    rintro ⟨where_8,i_9⟩ o11 h12 hy13
    refine ab.seq (ab.seq (ab.aa ?_))
    refine Oc om (Oc om (Oc (av ka rfl (List.length_map _)) (Oc (bl rfl rfl) ?_)))
    refine ae.ag ⟨[(0,_),(1,_),(5,_),(7,_),(8,_),(40,B (decide (i_9 < (x_3.length:Int))))],[(101,_)]⟩ rfl (ab.ite h12 rfl (fun _ h12=>?_) (fun _ h12=>?_))
    ·refine ab.skip (Fin.af ⟨[(0,_),(1,_),(5,_),(7,_),(8,_)],[(101,_)]⟩ rfl (Fin.then ?_))
     obtain ⟨v14,h15,h12⟩:=aL h12
     refine ab.cn (v:=v14) (fun (where_11:List Int)=>⟨[(0,.b (.one (.sl 1 (fixed0.map eB)))),(1,.b (.one (.sl 2 (links0.map (cm .i64))))),(5,.b (.one (.sl 1 (x_3.map (eL 1 eI))))),(7,.b (.row 101)),(8,I i_9)],[(101,.row 3 1 (where_11.map eI))]⟩) (fun z=>.inl z) ?_ ?_
     ·refine ab.block (ab.seq (ab.seq ?_))
      refine ab.af ⟨[(0,_),(1,_),(5,_),(7,_),(8,_)],[(101,_)]⟩ rfl ?_
      obtain ⟨x_12,e16,h15⟩:=aL h15
      obtain ⟨x_13,e23,h15⟩:=aL h15
      obtain ⟨x_14,e26,h15⟩:=aL h15
      obtain ⟨x_15,e32,h15⟩:=aL h15
      obtain ⟨x_16,e35,h15⟩:=aL h15
      refine ab.cU mixed 26 [.b (.one (.sl 1 (x_3.map (eL 1 eI)))),I i_9,.b (.b7 [.sl 1 (x_12.map eI)]),.b (.one (.sl 1 (x_12.map eI))),I (x_12.length:Int),B (decide ((x_12.length:Int) = 0)),B (decide ((x_12.length:Int) = 0)),.opt (!(decide ((x_12.length:Int) = 0))) (.one (.i i_9)),.opt (!(decide ((x_12.length:Int) = 0))) (.one (.bool (decide (0 < i_9)))),.opt (!(decide ((x_12.length:Int) = 0))) (.one (.bool (decide (0 < i_9)))),.opt ((!(decide ((x_12.length:Int) = 0))) && (decide (0 < i_9))) (.one (.sl 1 (x_3.map (eL 1 eI)))),.opt ((!(decide ((x_12.length:Int) = 0))) && (decide (0 < i_9))) (.one (.i i_9)),.opt ((!(decide ((x_12.length:Int) = 0))) && (decide (0 < i_9))) (.b7 [.sl 1 (x_13.map eI)]),.opt ((!(decide ((x_12.length:Int) = 0))) && (decide (0 < i_9))) (.one (.sl 1 (x_13.map eI))),.opt ((!(decide ((x_12.length:Int) = 0))) && (decide (0 < i_9))) (.b7 [.i x_14]),.opt ((!(decide ((x_12.length:Int) = 0))) && (decide (0 < i_9))) (.one (.i x_14)),.opt ((!(decide ((x_12.length:Int) = 0))) && (decide (0 < i_9))) (.one (.sl 1 (x_3.map (eL 1 eI)))),.opt ((!(decide ((x_12.length:Int) = 0))) && (decide (0 < i_9))) (.one (.i i_9)),.opt ((!(decide ((x_12.length:Int) = 0))) && (decide (0 < i_9))) (.one (.i (IntKind.i64.wrap (i_9 - 1)))),.opt ((!(decide ((x_12.length:Int) = 0))) && (decide (0 < i_9))) (.b7 [.sl 1 (x_15.map eI)]),.opt ((!(decide ((x_12.length:Int) = 0))) && (decide (0 < i_9))) (.one (.sl 1 (x_15.map eI))),.opt ((!(decide ((x_12.length:Int) = 0))) && (decide (0 < i_9))) (.b7 [.i x_16]),.opt ((!(decide ((x_12.length:Int) = 0))) && (decide (0 < i_9))) (.one (.i x_16)),.opt ((!(decide ((x_12.length:Int) = 0))) && (decide (0 < i_9))) (.one (.bool (decide (x_14 ≤ x_16)))),.opt (!(decide ((x_12.length:Int) = 0))) (.one (.bool ((decide (0 < i_9)) && (decide (x_14 ≤ x_16))))),B ((decide ((x_12.length:Int) = 0)) || ((decide (0 < i_9)) && (decide (x_14 ≤ x_16))))] [0,1,5,7,8,68] [101] (s':=⟨[(0,_),(1,_),(5,_),(7,_),(8,_),(68,B ((decide ((x_12.length:Int) = 0)) || ((decide (0 < i_9)) && (decide (x_14 ≤ x_16)))))],[(101,_)]⟩) rfl ⟨fun _=>.p om,fun _=>.p om,fun _=>.p (az cQ (aB e16) (aA (e:=(eL 1 eI)) e16) rfl rfl),fun _=>.p (ay aT rfl rfl),fun _=>.p (av gu rfl (List.length_map _)),fun _=>.p (dn rfl rfl),fun _=>.p om,fun _=>by exact .guard (!(decide ((x_12.length:Int) = 0))) 1 [] (.plain rfl) (pS _) rfl rfl (fun g17=>trivial) (fun g17=>om),fun _=>by exact .guard (!(decide ((x_12.length:Int) = 0))) 2 [50] (.plain rfl) (pS _) rfl rfl (fun g18=>⟨g18,trivial⟩) (fun g18=>fw rfl rfl),fun _=>by exact .guard (!(decide ((x_12.length:Int) = 0))) 3 [51] (.plain rfl) (pS _) rfl rfl (fun g19=>⟨g19,trivial⟩) (fun g19=>om),fun _=>by exact .guard ((!(decide ((x_12.length:Int) = 0))) && (decide (0 < i_9))) 1 [] (.under rfl) (cZ _ _) rfl rfl (fun g20=>trivial) (fun g20=>om),fun _=>by exact .guard ((!(decide ((x_12.length:Int) = 0))) && (decide (0 < i_9))) 1 [] (.under rfl) (cZ _ _) rfl rfl (fun g21=>trivial) (fun g21=>om),fun _=>by exact .guard ((!(decide ((x_12.length:Int) = 0))) && (decide (0 < i_9))) 3 [53,54] (.under rfl) (cZ _ _) rfl rfl (fun g22=>⟨g22,g22,trivial⟩) (fun g22=>az cQ (aB (gc e23 g22)) (aA (e:=(eL 1 eI)) (gc e23 g22)) rfl rfl),fun _=>by exact .guard ((!(decide ((x_12.length:Int) = 0))) && (decide (0 < i_9))) 2 [55] (.under rfl) (cZ _ _) rfl rfl (fun g24=>⟨g24,trivial⟩) (fun g24=>ay aT rfl rfl),fun _=>by exact .guard ((!(decide ((x_12.length:Int) = 0))) && (decide (0 < i_9))) 2 [56] (.under rfl) (cZ _ _) rfl rfl (fun g25=>⟨g25,trivial⟩) (fun g25=>az an (aB (gc e26 g25)) (aA (e:=eI) (gc e26 g25)) rfl rfl),fun _=>by exact .guard ((!(decide ((x_12.length:Int) = 0))) && (decide (0 < i_9))) 2 [57] (.under rfl) (cZ _ _) rfl rfl (fun g27=>⟨g27,trivial⟩) (fun g27=>ay au rfl rfl),fun _=>by exact .guard ((!(decide ((x_12.length:Int) = 0))) && (decide (0 < i_9))) 1 [] (.under rfl) (cZ _ _) rfl rfl (fun g28=>trivial) (fun g28=>om),fun _=>by exact .guard ((!(decide ((x_12.length:Int) = 0))) && (decide (0 < i_9))) 1 [] (.under rfl) (cZ _ _) rfl rfl (fun g29=>trivial) (fun g29=>om),fun _=>by exact .guard ((!(decide ((x_12.length:Int) = 0))) && (decide (0 < i_9))) 2 [60] (.under rfl) (cZ _ _) rfl rfl (fun g30=>⟨g30,trivial⟩) (fun g30=>cc rfl rfl),fun _=>by exact .guard ((!(decide ((x_12.length:Int) = 0))) && (decide (0 < i_9))) 3 [59,61] (.under rfl) (cZ _ _) rfl rfl (fun g31=>⟨g31,g31,trivial⟩) (fun g31=>az cQ (aB (gc e32 g31)) (aA (e:=(eL 1 eI)) (gc e32 g31)) rfl rfl),fun _=>by exact .guard ((!(decide ((x_12.length:Int) = 0))) && (decide (0 < i_9))) 2 [62] (.under rfl) (cZ _ _) rfl rfl (fun g33=>⟨g33,trivial⟩) (fun g33=>ay aT rfl rfl),fun _=>by exact .guard ((!(decide ((x_12.length:Int) = 0))) && (decide (0 < i_9))) 2 [63] (.under rfl) (cZ _ _) rfl rfl (fun g34=>⟨g34,trivial⟩) (fun g34=>az an (aB (gc e35 g34)) (aA (e:=eI) (gc e35 g34)) rfl rfl),fun _=>by exact .guard ((!(decide ((x_12.length:Int) = 0))) && (decide (0 < i_9))) 2 [64] (.under rfl) (cZ _ _) rfl rfl (fun g36=>⟨g36,trivial⟩) (fun g36=>ay au rfl rfl),fun _=>by exact .guard ((!(decide ((x_12.length:Int) = 0))) && (decide (0 < i_9))) 3 [58,65] (.under rfl) (cZ _ _) rfl rfl (fun g37=>⟨g37,g37,trivial⟩) (fun g37=>iO rfl rfl),fun _=>by exact .guard (!(decide ((x_12.length:Int) = 0))) 3 [52] (.plain rfl) (pS _) rfl rfl (fun g38=>⟨g38,trivial⟩) (fun g38=>aV (fun e=>by rw [g38,e]; rfl) rfl rfl rfl rfl),fun _=>.p (dy (fun e=>by first | (rw [e]; rfl) | (simp only at e; rw [e]; rfl)) rfl rfl rfl rfl),trivial⟩ rfl rfl ?_
      refine ab.ite h15 rfl (fun _ h15=>?_) (fun _ h15=>?_)
      ·refine ab.seq (ab.aa ?_)
       refine Oc oa (ae.ag ⟨[(4,B false)],[]⟩ rfl (ab.ret (Fin.aG (Fin.bT ?_))))
       obtain rfl:=Option.some.inj h15
       refine Fin.aG ?_
       obtain rfl:=hy13 _ (Option.some.inj h12).symm
       refine Fin.aG (Fin.bT (Fin.aG ?_))
       obtain rfl:=Option.some.inj h
       refine Fin.af ⟨[(4,_)],[]⟩ rfl (Fin.aW [.one (.bool false)] (.inl rfl) rfl (.cons (.tmp rfl) .nil) ⟨rfl,rfl⟩)
      ·refine ab.skip (Fin.af ⟨[(0,_),(1,_),(5,_),(7,_),(8,_)],[(101,_)]⟩ rfl (Fin.then (ab.seq (ab.aa ?_))))
       refine Oc oa (ae.ag ⟨[(0,_),(1,_),(5,_),(7,_),(8,_),(9,I 0)],[(101,_)]⟩ rfl (ab.block ?_))
       obtain ⟨v39,h40,h15⟩:=aL h15
       refine ab.b9 h40 (cq fun (where_17:List Int) (k_18:Int)=>⟨[(0,.b (.one (.sl 1 (fixed0.map eB)))),(1,.b (.one (.sl 2 (links0.map (cm .i64))))),(5,.b (.one (.sl 1 (x_3.map (eL 1 eI))))),(7,.b (.row 101)),(8,I i_9),(9,I k_18)],[(101,.row 3 1 (where_17.map eI))]⟩) [0,1,5,7,8,9] [101] rfl ?_
       rintro ⟨where_17,k_18⟩ o41 h42 hy43
       refine ab.seq (ab.seq (ab.aa ?_))
       refine Oc om (Oc om (Oc om ?_))
       obtain ⟨x_20,e44,h42⟩:=aL h42
       refine Oc (az cQ (aB e44) (aA (e:=(eL 1 eI)) e44) rfl rfl) (Oc (ay aT rfl rfl) (Oc (av gu rfl (List.length_map _)) (Oc (bl rfl rfl) ?_)))
       refine ae.ag ⟨[(0,_),(1,_),(5,_),(7,_),(8,_),(9,_),(75,B (decide (k_18 < (x_20.length:Int))))],[(101,_)]⟩ rfl (ab.ite h42 rfl (fun _ h42=>?_) (fun _ h42=>?_))
       ·refine ab.skip (Fin.af ⟨[(0,_),(1,_),(5,_),(7,_),(8,_),(9,_)],[(101,_)]⟩ rfl (Fin.then (ab.seq (ab.block (ab.seq (ab.aa ?_))))))
        refine Oc om (Oc om ?_)
        obtain ⟨x_21,e45,h42⟩:=aL h42
        refine Oc (az cQ (aB e45) (aA (e:=(eL 1 eI)) e45) rfl rfl) (Oc (ay aT rfl rfl) (Oc om ?_))
        obtain ⟨x_22,e46,h42⟩:=aL h42
        refine Oc (az an (aB e46) (aA (e:=eI) e46) rfl rfl) (Oc (ay au rfl rfl) (Oc oa ?_))
        refine ae.ag ⟨[(0,_),(1,_),(5,_),(7,_),(8,_),(9,_),(10,I x_22)],[(101,_)]⟩ rfl (ab.seq (ab.seq (ab.aa ?_)))
        refine Oc om (Oc (bl rfl rfl) (Oc om ?_))
        refine jL (!(decide (x_22 < 0))) [] (fun g47=>trivial) (fun g47=>om) (jL (!(decide (x_22 < 0))) [] (fun g48=>by exact trivial) (fun g48=>om) (jL (!(decide (x_22 < 0))) [89] (fun g49=>by exact ⟨g49,trivial⟩) (fun g49=>av cH rfl (List.length_map _)) (ae.af ⟨[(0,_),(1,_),(5,_),(7,_),(8,_),(9,_),(10,_),(87,B (decide (x_22 < 0))),(88,.opt (!(decide (x_22 < 0))) (.one (.i x_22))),(90,.opt (!(decide (x_22 < 0))) (.one (.i (fixed0.length:Int))))],[(101,_)]⟩ rfl (jL (!(decide (x_22 < 0))) [88,90] (fun g50=>by exact ⟨g50,g50,trivial⟩) (fun g50=>iP rfl rfl) (ae.kj h42 rfl (dy (fun e=>by first | (rw [e]; rfl) | (simp only at e; rw [e]; rfl)) rfl rfl rfl rfl) (fun x_23 h42=>?_))))))
        refine Oc om (jL (!x_23) [] (fun g51=>by exact trivial) (fun g51=>om) (jL (!x_23) [] (fun g52=>by exact trivial) (fun g52=>om) ?_))
        obtain ⟨x_24,e54,h42⟩:=aL h42
        refine jL (!x_23) [94,95] (fun g53=>⟨g53,g53,trivial⟩) (fun g53=>aq an (aB (gc e54 g53)) (aU (gc e54 g53)) rfl rfl rfl rfl) (jL (!x_23) [96] (fun g55=>⟨g55,trivial⟩) (fun g55=>aJ (i:=(x_22:Int).toNat) (f:=0) au rfl rfl rfl (aA (e:=eI) (gc e54 g55)) rfl) (jL (!x_23) [97] (fun g56=>⟨g56,trivial⟩) (fun g56=>hU rfl rfl) (ae.af ⟨[(0,_),(1,_),(5,_),(7,_),(8,_),(9,_),(10,_),(93,B x_23),(98,.opt (!x_23) (.one (.bool (decide (x_24 ≠ 0)))))],[(101,_)]⟩ rfl (Oc (dy (fun e=>by first | (rw [e]; rfl) | (simp only at e; rw [e]; rfl)) rfl rfl rfl rfl) (Oc om ?_)))))
        refine jL (!(x_23 || (decide (x_24 ≠ 0)))) [] (fun g57=>trivial) (fun g57=>om) (jL (!(x_23 || (decide (x_24 ≠ 0)))) [101] (fun g58=>by exact ⟨g58,trivial⟩) (fun g58=>fw rfl rfl) (jL (!(x_23 || (decide (x_24 ≠ 0)))) [102] (fun g59=>by exact ⟨g59,trivial⟩) (fun g59=>om) (ae.fU ((!(x_23 || (decide (x_24 ≠ 0)))) && (decide (0 < k_18))) 99 [] (.under rfl) (cZ _ _) rfl rfl (fun g60=>by exact trivial) (fun g60=>om) (ae.fU ((!(x_23 || (decide (x_24 ≠ 0)))) && (decide (0 < k_18))) 99 [] (.under rfl) (cZ _ _) rfl rfl (fun g61=>by exact trivial) (fun g61=>om) (ae.fU ((!(x_23 || (decide (x_24 ≠ 0)))) && (decide (0 < k_18))) 99 [] (.under rfl) (cZ _ _) rfl rfl (fun g62=>by exact trivial) (fun g62=>om) ?_)))))
        refine ae.af ⟨[(0,_),(1,_),(5,_),(7,_),(8,_),(9,_),(10,_),(100,B (x_23 || (decide (x_24 ≠ 0)))),(103,.opt (!(x_23 || (decide (x_24 ≠ 0)))) (.one (.bool (decide (0 < k_18))))),(104,.opt ((!(x_23 || (decide (x_24 ≠ 0)))) && (decide (0 < k_18))) (.one (.i x_22))),(105,.opt ((!(x_23 || (decide (x_24 ≠ 0)))) && (decide (0 < k_18))) (.one (.sl 1 (x_3.map (eL 1 eI))))),(106,.opt ((!(x_23 || (decide (x_24 ≠ 0)))) && (decide (0 < k_18))) (.one (.i i_9)))],[(101,_)]⟩ rfl ?_
        obtain ⟨x_25,e64,h42⟩:=aL h42
        refine ae.fU ((!(x_23 || (decide (x_24 ≠ 0)))) && (decide (0 < k_18))) 99 [105,106] (.under rfl) (cZ _ _) rfl rfl (fun g63=>⟨g63,g63,trivial⟩) (fun g63=>az cQ (aB (gc e64 g63)) (aA (e:=(eL 1 eI)) (gc e64 g63)) rfl rfl) (ae.fU ((!(x_23 || (decide (x_24 ≠ 0)))) && (decide (0 < k_18))) 99 [107] (.under rfl) (cZ _ _) rfl rfl (fun g65=>⟨g65,trivial⟩) (fun g65=>ay aT rfl rfl) (ae.fU ((!(x_23 || (decide (x_24 ≠ 0)))) && (decide (0 < k_18))) 99 [] (.under rfl) (cZ _ _) rfl rfl (fun g66=>trivial) (fun g66=>om) (ae.fU ((!(x_23 || (decide (x_24 ≠ 0)))) && (decide (0 < k_18))) 99 [109] (.under rfl) (cZ _ _) rfl rfl (fun g67=>⟨g67,trivial⟩) (fun g67=>cc rfl rfl) ?_)))
        obtain ⟨x_26,e69,h42⟩:=aL h42
        refine ae.fU ((!(x_23 || (decide (x_24 ≠ 0)))) && (decide (0 < k_18))) 99 [108,110] (.under rfl) (cZ _ _) rfl rfl (fun g68=>⟨g68,g68,trivial⟩) (fun g68=>az an (aB (gc e69 g68)) (aA (e:=eI) (gc e69 g68)) rfl rfl) (ae.fU ((!(x_23 || (decide (x_24 ≠ 0)))) && (decide (0 < k_18))) 99 [111] (.under rfl) (cZ _ _) rfl rfl (fun g70=>⟨g70,trivial⟩) (fun g70=>ay au rfl rfl) (ae.fU ((!(x_23 || (decide (x_24 ≠ 0)))) && (decide (0 < k_18))) 99 [104,112] (.under rfl) (cZ _ _) rfl rfl (fun g71=>⟨g71,g71,trivial⟩) (fun g71=>iO rfl rfl) (jL (!(x_23 || (decide (x_24 ≠ 0)))) [103] (fun g72=>⟨g72,trivial⟩) (fun g72=>aV (fun e=>by rw [g72,e]; rfl) rfl rfl rfl rfl) (ae.kj h42 rfl (dy (fun e=>by first | (rw [e]; rfl) | (simp only at e; rw [e]; rfl)) rfl rfl rfl rfl) (fun x_27 h42=>?_)))))
        refine ae.ag ⟨[(0,_),(1,_),(5,_),(7,_),(8,_),(9,_),(10,_),(115,B x_27)],[(101,_)]⟩ rfl (ab.ite h42 rfl (fun _ h42=>?_) (fun _ h42=>?_))
        ·refine ab.seq (ab.aa ?_)
         refine Oc oa (ae.ag ⟨[(4,B false)],[]⟩ rfl (ab.ret (Fin.aG (Fin.bT (Fin.aG ?_)))))
         obtain rfl:=hy43 _ (Option.some.inj h42).symm
         refine Fin.aG (Fin.bT (Fin.bT ?_))
         obtain rfl:=Option.some.inj h15
         refine Fin.aG ?_
         obtain rfl:=hy13 _ (Option.some.inj h12).symm
         refine Fin.aG (Fin.bT (Fin.aG ?_))
         obtain rfl:=Option.some.inj h
         refine Fin.af ⟨[(4,_)],[]⟩ rfl (Fin.aW [.one (.bool false)] (.inl rfl) rfl (.cons (.tmp rfl) .nil) ⟨rfl,rfl⟩)
        ·refine ab.skip (Fin.af ⟨[(0,_),(1,_),(5,_),(7,_),(8,_),(9,_),(10,_)],[(101,_)]⟩ rfl (Fin.then (ab.aa ?_)))
         refine Oc om (Oc om (Oc om (Oc (aY rfl rfl) ?_)))
         obtain ⟨x_28,e73,h42⟩:=aL h42
         refine Oc (aq an (aB e73) (aU e73) rfl rfl rfl rfl) (Oc (bA (i:=(x_22:Int).toNat) au rfl rfl rfl rfl (ed e73) (map_set _ _ _ _)) ?_)
         refine ae.nil (Fin.ah (Fin.af ⟨[(0,_),(1,_),(5,_),(7,_),(8,_),(9,_)],[(101,.row 3 1 ((where_17.set (x_22:Int).toNat (IntKind.i64.wrap (i_9 + 1))).map eI))]⟩ rfl (Fin.then (ab.aa ?_))))
         refine Oc om (Oc (aY rfl rfl) (Oc oa ?_))
         refine ae.nil ?_
         exact Fin.bu [0,1,5,7,8,9] [101] (where_17.set (x_22:Int).toNat (IntKind.i64.wrap (i_9 + 1)),IntKind.i64.wrap (k_18 + 1)) (Option.some.inj h42) rfl
       ·refine ab.exit (Fin.ai ?_)
        obtain rfl:=hy43 _ (Option.some.inj h42).symm
        refine Fin.ai (Fin.aD (Fin.ah ?_))
        exact Fin.join [0,1,5,7,8] [101] where_17 (Option.some.inj h15) rfl
     ·rintro where_11 hv
      subst v14
      refine ab.aa (Oc om (Oc (aY rfl rfl) (Oc oa ?_)))
      refine ae.nil ?_
      exact Fin.bu [0,1,5,7,8] [101] (where_11,IntKind.i64.wrap (i_9 + 1)) (Option.some.inj h12) rfl
    ·refine ab.exit (Fin.ai ?_)
     obtain rfl:=hy13 _ (Option.some.inj h12).symm
     refine Fin.ai (Fin.aD ?_)
     exact Fin.join [0,1,7] [101] where_8 rfl rfl
   ·rintro where_7 hv
    subst v9
    obtain ⟨v74,h75,h⟩:=aL h
    refine ab.cn (v:=v74) (fun (_:Unit)=>⟨[(0,.b (.one (.sl 1 (fixed0.map eB)))),(1,.b (.one (.sl 2 (links0.map (cm .i64))))),(7,.b (.row 101))],[(101,.row 3 1 (where_7.map eI))]⟩) (fun z=>.inl z) ?_ ?_
    ·refine ab.seq (ab.aa ?_)
     refine Oc oa (ae.ag ⟨[(0,_),(1,_),(7,_),(11,I 0)],[(101,_)]⟩ rfl (ab.block (ab.b9 h75 (fun (n_29:Int)=>⟨[(0,.b (.one (.sl 1 (fixed0.map eB)))),(1,.b (.one (.sl 2 (links0.map (cm .i64))))),(7,.b (.row 101)),(11,I n_29)],[(101,.row 3 1 (where_7.map eI))]⟩) [0,1,7,11] [101] rfl ?_)))
     rintro n_29 o76 h77 hy78
     refine ab.seq (ab.seq (ab.aa ?_))
     refine Oc om (Oc om (Oc (av cH rfl (List.length_map _)) (Oc (bl rfl rfl) ?_)))
     refine ae.ag ⟨[(0,_),(1,_),(7,_),(11,_),(124,B (decide (n_29 < (fixed0.length:Int))))],[(101,_)]⟩ rfl (ab.ite h77 rfl (fun _ h77=>?_) (fun _ h77=>?_))
     ·refine ab.skip (Fin.af ⟨[(0,_),(1,_),(7,_),(11,_)],[(101,_)]⟩ rfl (Fin.then (ab.seq (ab.block (ab.seq ?_)))))
      refine ab.af ⟨[(0,_),(1,_),(7,_),(11,_)],[(101,_)]⟩ rfl ?_
      obtain ⟨x_30,e79,h77⟩:=aL h77
      obtain ⟨x_31,e80,h77⟩:=aL h77
      refine ab.cU mixed 10 [.b (.one (.sl 1 (fixed0.map eB))),I n_29,.b (.b7 [.bool x_30]),B x_30,.b (.row 101),I n_29,.b (.bm 101 ((n_29:Int).toNat * 1)),I x_31,B (decide (x_31 = 0)),B (x_30 != (decide (x_31 = 0)))] [0,1,7,11,136] [101] (s':=⟨[(0,_),(1,_),(7,_),(11,_),(136,B (x_30 != (decide (x_31 = 0))))],[(101,_)]⟩) rfl ⟨fun _=>.p om,fun _=>.p om,fun _=>.p (az hS (aB e79) (aA (e:=eB) e79) rfl rfl),fun _=>.p (ay iM rfl rfl),fun _=>.p om,fun _=>.p om,fun _=>.p (aq an (aB e80) (aU e80) rfl rfl rfl rfl),fun _=>.p (aJ (i:=(n_29:Int).toNat) (f:=0) au rfl rfl rfl (aA (e:=eI) e80) rfl),fun _=>.p (dn rfl rfl),fun _=>.p (n5 und4 rfl rfl),trivial⟩ rfl rfl (ab.ite h77 rfl (fun _ h77=>?_) (fun _ h77=>?_))
      ·refine ab.seq (ab.aa ?_)
       refine Oc oa (ae.ag ⟨[(4,B false)],[]⟩ rfl (ab.ret (Fin.bT (Fin.aG ?_))))
       obtain rfl:=hy78 _ (Option.some.inj h77).symm
       refine Fin.aG (Fin.bT (Fin.aG ?_))
       obtain rfl:=Option.some.inj h
       refine Fin.af ⟨[(4,_)],[]⟩ rfl (Fin.aW [.one (.bool false)] (.inl rfl) rfl (.cons (.tmp rfl) .nil) ⟨rfl,rfl⟩)
      ·refine ab.skip (Fin.ah (Fin.af ⟨[(0,_),(1,_),(7,_),(11,_)],[(101,_)]⟩ rfl (Fin.then (ab.aa ?_))))
       refine Oc om (Oc (aY rfl rfl) (Oc oa ?_))
       refine ae.nil ?_
       exact Fin.bu [0,1,7,11] [101] (IntKind.i64.wrap (n_29 + 1)) (Option.some.inj h77) rfl
     ·refine ab.exit (Fin.ai ?_)
      obtain rfl:=hy78 _ (Option.some.inj h77).symm
      refine Fin.ai (Fin.aD ?_)
      exact Fin.join [0,1,7] [101] () rfl rfl
    ·rintro _ hv
     subst v74
     obtain ⟨v81,h82,h⟩:=aL h
     refine ab.cn (v:=v81) (fun (_:Unit)=>⟨[],[]⟩) (fun z=>.inl z) ?_ ?_
     ·refine ab.seq (ab.aa ?_)
      refine Oc oa (ae.ag ⟨[(0,_),(1,_),(7,_),(12,I 0)],[(101,_)]⟩ rfl (ab.block (ab.b9 h82 (fun (i_32:Int)=>⟨[(0,.b (.one (.sl 1 (fixed0.map eB)))),(1,.b (.one (.sl 2 (links0.map (cm .i64))))),(7,.b (.row 101)),(12,I i_32)],[(101,.row 3 1 (where_7.map eI))]⟩) [0,1,7,12] [101] rfl ?_)))
      rintro i_32 o83 h84 hy85
      refine ab.seq (ab.seq (ab.aa ?_))
      refine Oc om (Oc om (Oc (av nF rfl (List.length_map _)) (Oc (bl rfl rfl) ?_)))
      refine ae.ag ⟨[(0,_),(1,_),(7,_),(12,_),(140,B (decide (i_32 < (links0.length:Int))))],[(101,_)]⟩ rfl (ab.ite h84 rfl (fun _ h84=>?_) (fun _ h84=>?_))
      ·refine ab.skip (Fin.af ⟨[(0,_),(1,_),(7,_),(12,_)],[(101,_)]⟩ rfl (Fin.then (ab.seq (ab.block (ab.seq (ab.aa ?_))))))
       refine Oc om (Oc om ?_)
       obtain ⟨x_33,e86,h84⟩:=aL h84
       refine Oc (az fX (aB e86) (aA (e:=(cm .i64)) e86) rfl rfl) (Oc (ep dT (by decide) (by decide) rfl rfl rfl) (Oc (ay au rfl rfl) (Oc oa ?_)))
       refine ae.ag ⟨[(0,_),(1,_),(7,_),(12,_),(13,I x_33.a0)],[(101,_)]⟩ rfl (ab.seq (ab.aa ?_))
       refine Oc om (Oc om ?_)
       obtain ⟨x_34,e87,h84⟩:=aL h84
       refine Oc (az fX (aB e87) (aA (e:=(cm .i64)) e87) rfl rfl) (Oc (ep dT (by decide) (by decide) rfl rfl rfl) (Oc (ay au rfl rfl) (Oc oa ?_)))
       refine ae.ag ⟨[(0,_),(1,_),(7,_),(12,_),(13,_),(14,I x_34.a1)],[(101,_)]⟩ rfl (ab.seq ?_)
       obtain ⟨x_35,e88,h84⟩:=aL h84
       obtain ⟨x_36,e92,h84⟩:=aL h84
       obtain ⟨x_37,e98,h84⟩:=aL h84
       obtain ⟨x_38,e103,h84⟩:=aL h84
       refine ab.cU mixed 23 [.b (.one (.sl 1 (fixed0.map eB))),I x_33.a0,.b (.b7 [.bool x_35]),B x_35,B (!x_35),B (!x_35),.opt (!x_35) (.one (.sl 1 (fixed0.map eB))),.opt (!x_35) (.one (.i x_34.a1)),.opt (!x_35) (.b7 [.bool x_36]),.opt (!x_35) (.one (.bool x_36)),.opt (!x_35) (.one (.bool (!x_36))),B ((!x_35) && (!x_36)),B ((!x_35) && (!x_36)),.opt ((!x_35) && (!x_36)) (.row 101),.opt ((!x_35) && (!x_36)) (.one (.i x_33.a0)),.opt ((!x_35) && (!x_36)) (.bm 101 ((x_33.a0:Int).toNat * 1)),.opt ((!x_35) && (!x_36)) (.one (.i x_37)),.opt ((!x_35) && (!x_36)) (.row 101),.opt ((!x_35) && (!x_36)) (.one (.i x_34.a1)),.opt ((!x_35) && (!x_36)) (.bm 101 ((x_34.a1:Int).toNat * 1)),.opt ((!x_35) && (!x_36)) (.one (.i x_38)),.opt ((!x_35) && (!x_36)) (.one (.bool (decide (x_37 ≠ x_38)))),B (((!x_35) && (!x_36)) && (decide (x_37 ≠ x_38)))] [0,1,7,12,175] [101] (s':=⟨[(0,_),(1,_),(7,_),(12,_),(175,B (((!x_35) && (!x_36)) && (decide (x_37 ≠ x_38))))],[(101,_)]⟩) rfl ⟨fun _=>.p om,fun _=>.p om,fun _=>.p (az hS (aB e88) (aA (e:=eB) e88) rfl rfl),fun _=>.p (ay iM rfl rfl),fun _=>.p (dm rfl),fun _=>.p om,fun _=>by exact .guard (!x_35) 1 [] (.plain rfl) (eV _) rfl rfl (fun g89=>trivial) (fun g89=>om),fun _=>by exact .guard (!x_35) 1 [] (.plain rfl) (eV _) rfl rfl (fun g90=>trivial) (fun g90=>om),fun _=>by exact .guard (!x_35) 3 [159,160] (.plain rfl) (eV _) rfl rfl (fun g91=>⟨g91,g91,trivial⟩) (fun g91=>az hS (aB (gc e92 g91)) (aA (e:=eB) (gc e92 g91)) rfl rfl),fun _=>by exact .guard (!x_35) 2 [161] (.plain rfl) (eV _) rfl rfl (fun g93=>⟨g93,trivial⟩) (fun g93=>ay iM rfl rfl),fun _=>by exact .guard (!x_35) 2 [162] (.plain rfl) (eV _) rfl rfl (fun g94=>⟨g94,trivial⟩) (fun g94=>dm rfl),fun _=>.p (aV (fun e=>e) rfl rfl rfl rfl),fun _=>.p om,fun _=>by exact .guard ((!x_35) && (!x_36)) 1 [] (.plain rfl) (eV _) rfl rfl (fun g95=>trivial) (fun g95=>om),fun _=>by exact .guard ((!x_35) && (!x_36)) 1 [] (.plain rfl) (eV _) rfl rfl (fun g96=>trivial) (fun g96=>om),fun _=>by exact .guard ((!x_35) && (!x_36)) 3 [166,167] (.plain rfl) (eV _) rfl rfl (fun g97=>⟨g97,g97,trivial⟩) (fun g97=>aq an (aB (gc e98 g97)) (aU (gc e98 g97)) rfl rfl rfl rfl),fun _=>by exact .guard ((!x_35) && (!x_36)) 2 [168] (.plain rfl) (eV _) rfl rfl (fun g99=>⟨g99,trivial⟩) (fun g99=>aJ (i:=(x_33.a0:Int).toNat) (f:=0) au rfl rfl rfl (aA (e:=eI) (gc e98 g99)) rfl),fun _=>by exact .guard ((!x_35) && (!x_36)) 1 [] (.plain rfl) (eV _) rfl rfl (fun g100=>trivial) (fun g100=>om),fun _=>by exact .guard ((!x_35) && (!x_36)) 1 [] (.plain rfl) (eV _) rfl rfl (fun g101=>trivial) (fun g101=>om),fun _=>by exact .guard ((!x_35) && (!x_36)) 3 [170,171] (.plain rfl) (eV _) rfl rfl (fun g102=>⟨g102,g102,trivial⟩) (fun g102=>aq an (aB (gc e103 g102)) (aU (gc e103 g102)) rfl rfl rfl rfl),fun _=>by exact .guard ((!x_35) && (!x_36)) 2 [172] (.plain rfl) (eV _) rfl rfl (fun g104=>⟨g104,trivial⟩) (fun g104=>aJ (i:=(x_34.a1:Int).toNat) (f:=0) au rfl rfl rfl (aA (e:=eI) (gc e103 g104)) rfl),fun _=>by exact .guard ((!x_35) && (!x_36)) 3 [169,173] (.plain rfl) (eV _) rfl rfl (fun g105=>⟨g105,g105,trivial⟩) (fun g105=>hU rfl rfl),fun _=>.p (aV (fun e=>e) rfl rfl rfl rfl),trivial⟩ rfl rfl ?_
       refine ab.ite h84 rfl (fun _ h84=>?_) (fun _ h84=>?_)
       ·refine ab.seq (ab.aa ?_)
        refine Oc oa (ae.ag ⟨[(4,B false)],[]⟩ rfl (ab.ret (Fin.bT (Fin.aG ?_))))
        obtain rfl:=hy85 _ (Option.some.inj h84).symm
        refine Fin.aG (Fin.bT (Fin.aG ?_))
        obtain rfl:=Option.some.inj h
        refine Fin.af ⟨[(4,_)],[]⟩ rfl (Fin.aW [.one (.bool false)] (.inl rfl) rfl (.cons (.tmp rfl) .nil) ⟨rfl,rfl⟩)
       ·refine ab.skip (Fin.ah (Fin.af ⟨[(0,_),(1,_),(7,_),(12,_)],[(101,_)]⟩ rfl (Fin.then (ab.aa ?_))))
        refine Oc om (Oc (aY rfl rfl) (Oc oa ?_))
        refine ae.nil ?_
        exact Fin.bu [0,1,7,12] [101] (IntKind.i64.wrap (i_32 + 1)) (Option.some.inj h84) rfl
      ·refine ab.exit (Fin.ai ?_)
       obtain rfl:=hy85 _ (Option.some.inj h84).symm
       refine Fin.ai (Fin.aD ?_)
       exact Fin.join [] [] () rfl rfl
     ·rintro _ hv
      subst v81
      refine ab.seq (ab.aa ?_)
      obtain ⟨x_39,e106,h⟩:=aL h
      refine Oc (ba (cJ e106) oB rfl rfl) (Oc oa ?_)
      refine ae.ag ⟨[(4,B x_39)],[]⟩ rfl (ab.ret ?_)
      obtain rfl:=Option.some.inj h
      refine Fin.af ⟨[(4,_)],[]⟩ rfl (Fin.aW [.one (.bool x_39)] (.inl rfl) rfl (.cons (.tmp rfl) .nil) ⟨rfl,rfl⟩)
end Go.Proofs.Ytgojigdbelkgoaa

