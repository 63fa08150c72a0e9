/- printed walks -/
import Derived.Test.YtgojigdbelkgoaaW1
namespace Go.Proofs.Ytgojigdbelkgoaa
open Go.Sk Go
set_option maxHeartbeats 4000000
set_option maxRecDepth 4000
set_option linter.unusedSimpArgs false
set_option linter.unusedVariables false
def dR (F:Nat) (fixed0:List Bool) (links0:List A2):Option ((List Int) × (List Int)) :=
 (dX F fixed0 links0).bind fun x_1=>(c4 F (fixed0.length:Int) links0 x_1).bind fun x_2=>Option.bind (mk? (0:Int) (fixed0.length:Int) (fixed0.length:Int)) (fun x_3=>Option.bind (mk? (0:Int) (fixed0.length:Int) (fixed0.length:Int)) (fun x_4=>Option.bind (iter F (un6 fun keysf0_7 bridgesf0_8 seenf0_9 visitf0_10 visitf0f0_11 x_12=>if (decide (x_12 < (fixed0.length:Int))) = true then (Option.bind ((aV fixed0 x_12).bind fun x_20=>(cw (!x_20) (aV seenf0_9 x_12)).bind fun x_21=>if ((!x_20) && (decide (x_21 = 0))) = true then (Option.bind (iF F x_12 (-1) visitf0_10 seenf0_9 visitf0f0_11 x_2 bridgesf0_8 keysf0_7) (un5 fun x_22 x_23 x_24 x_25 x_26=>some (x_26,x_25,x_23,x_22,x_24))) else (some (keysf0_7,bridgesf0_8,seenf0_9,visitf0_10,visitf0f0_11))) (un5 fun keysf0_15 bridgesf0_16 seenf0_17 visitf0_18 visitf0f0_19=>some (.inl (keysf0_15,bridgesf0_16,seenf0_17,visitf0_18,visitf0f0_19,IntKind.i64.wrap (x_12 + 1))))) else (some (.inr (keysf0_7,bridgesf0_8)))) ([],[],x_3,0,x_4,0)) (cg fun keysf0_5 bridgesf0_6=>(cL F keysf0_5).bind fun x_27=>(cL F bridgesf0_6).bind fun x_28=>some (x_27,x_28))))
theorem hJ {F:Nat} {fixed0:List Bool} {links0:List A2} {r:(List Int) × (List Int)} (h:dR F fixed0 links0 = some r):ar Try.prog [] 39 [] [.one (.sl 1 (fixed0.map eB)),.one (.sl 2 (links0.map (cR .i64)))] (Is [] (.eo [.one (.sl 1 (r.1.map eI)),.one (.sl 1 (r.2.map eI))])):=by
 unfold dR at h
 refine ar.intro 53 Try.func39 Try.ntmps39 rfl (by simp) fun E=>?_
 show ab _ E ⟨53,[],[],[]⟩ _ ⟨[(0,.b (.one (.sl 1 (fixed0.map eB)))),(1,.b (.one (.sl 2 (links0.map (cR .i64)))))],[]⟩ _
 refine ab.seq (ab.aa ?_)
 refine Oc (bn (k:=101) cj rfl) (Oc (bn (k:=102) cj rfl) ?_)
 refine ae.ag ⟨[(0,.b (.one (.sl 1 (fixed0.map eB)))),(1,.b (.one (.sl 2 (links0.map (cR .i64))))),(4,Pt 101 0),(5,Pt 102 0)],[(101,.box 30 [.nil]),(102,.box 30 [.nil])]⟩ rfl (ab.seq (ab.aa ?_))
 refine Oc om (Oc (az dx rfl (List.length_map _)) (Oc om (Oc om (Oc om ?_))))
 refine ae.af ⟨[(0,_),(4,_),(5,_),(14,I (fixed0.length:Int)),(15,.b (.one (.sl 2 (links0.map (cR .i64))))),(16,.b (.one (.sl 1 (fixed0.map eB)))),(17,.b (.one (.sl 2 (links0.map (cR .i64)))))],[(101,_),(102,_)]⟩ rfl ?_
 obtain ⟨x_1,e1,h⟩:=aF h
 refine Oc (bj (gm 103 e1) qJ rfl trivial rfl rfl) (ae.bA 103 rfl ?_)
 obtain ⟨x_2,e2,h⟩:=aF h
 refine Oc (aP (eU e2) qO rfl rfl) (Oc (bn (k:=104) q9 rfl) (Oc (fF pv rfl rfl rfl (Nat.le_of_ble_eq_true rfl) rfl) ?_))
 refine ae.ag ⟨[(0,.b (.one (.sl 1 (fixed0.map eB)))),(4,Pt 101 0),(5,Pt 102 0),(6,Pt 104 0)],[(101,.box 30 [.nil]),(102,.box 30 [.nil]),(104,.box 56 [.sl 1 (x_2.map (eL 2 aR))])]⟩ rfl (ab.seq ?_)
 obtain ⟨x_3,e3,h⟩:=aF h
 obtain ⟨x_4,e4,h⟩:=aF h
 refine ab.lR mixed [false,false,true,false,false,true,true,true,true,true] [.b (.one (.sl 1 (fixed0.map eB))),I (fixed0.length:Int),.b (.row 105),.b (.one (.sl 1 (fixed0.map eB))),I (fixed0.length:Int),.b (.row 106),Pt 107 0,Pt 108 0,B true,B true] [⟨[false,false,false,false,false,false,false,false,false,false],[(0,.b (.one (.sl 1 (fixed0.map eB)))),(4,Pt 101 0),(5,Pt 102 0),(6,Pt 104 0)],[(101,.box 30 [.nil]),(102,.box 30 [.nil]),(104,.box 56 [.sl 1 (x_2.map (eL 2 aR))])],[true,true,true,true,true,true,true,true,true,true],[],[8,9]⟩,⟨[false,false,true,false,false,false,false,false,false,false],[(0,.b (.one (.sl 1 (fixed0.map eB)))),(4,Pt 101 0),(5,Pt 102 0),(6,Pt 104 0)],[(101,.box 30 [.nil]),(102,.box 30 [.nil]),(104,.box 56 [.sl 1 (x_2.map (eL 2 aR))]),(105,.row 3 1 (x_3.map eI))],[true,true,true,true,true,true,true,true,true,true],[0,1,2],[8,9]⟩,⟨[false,false,false,false,false,true,false,false,false,false],[(0,.b (.one (.sl 1 (fixed0.map eB)))),(4,Pt 101 0),(5,Pt 102 0),(6,Pt 104 0)],[(101,.box 30 [.nil]),(102,.box 30 [.nil]),(104,.box 56 [.sl 1 (x_2.map (eL 2 aR))]),(106,.row 3 1 (x_4.map eI))],[true,true,true,true,true,true,true,true,true,true],[3,4,5],[8,9]⟩,⟨[false,false,false,false,false,false,true,false,false,false],[(0,.b (.one (.sl 1 (fixed0.map eB)))),(4,Pt 101 0),(5,Pt 102 0),(6,Pt 104 0)],[(101,.box 30 [.nil]),(102,.box 30 [.nil]),(104,.box 56 [.sl 1 (x_2.map (eL 2 aR))]),(107,.box 30 [.nil])],[true,true,true,true,true,true,true,true,true,true],[6],[8,9]⟩,⟨[false,false,false,false,false,false,false,true,false,false],[(0,.b (.one (.sl 1 (fixed0.map eB)))),(4,Pt 101 0),(5,Pt 102 0),(6,Pt 104 0)],[(101,.box 30 [.nil]),(102,.box 30 [.nil]),(104,.box 56 [.sl 1 (x_2.map (eL 2 aR))]),(108,.box 30 [.nil])],[true,true,true,true,true,true,true,true,true,true],[7],[8,9]⟩,⟨[false,false,true,false,false,true,false,false,false,false],[(0,.b (.one (.sl 1 (fixed0.map eB)))),(4,Pt 101 0),(5,Pt 102 0),(6,Pt 104 0)],[(101,.box 30 [.nil]),(102,.box 30 [.nil]),(104,.box 56 [.sl 1 (x_2.map (eL 2 aR))]),(105,.row 3 1 (x_3.map eI)),(106,.row 3 1 (x_4.map eI))],[true,true,true,true,true,true,true,true,true,true],[0,1,2,3,4,5],[8,9]⟩,⟨[false,false,true,false,false,false,true,false,false,false],[(0,.b (.one (.sl 1 (fixed0.map eB)))),(4,Pt 101 0),(5,Pt 102 0),(6,Pt 104 0)],[(101,.box 30 [.nil]),(102,.box 30 [.nil]),(104,.box 56 [.sl 1 (x_2.map (eL 2 aR))]),(105,.row 3 1 (x_3.map eI)),(107,.box 30 [.nil])],[true,true,true,true,true,true,true,true,true,true],[0,1,2,6],[8,9]⟩,⟨[false,false,true,false,false,false,false,true,false,false],[(0,.b (.one (.sl 1 (fixed0.map eB)))),(4,Pt 101 0),(5,Pt 102 0),(6,Pt 104 0)],[(101,.box 30 [.nil]),(102,.box 30 [.nil]),(104,.box 56 [.sl 1 (x_2.map (eL 2 aR))]),(105,.row 3 1 (x_3.map eI)),(108,.box 30 [.nil])],[true,true,true,true,true,true,true,true,true,true],[0,1,2,7],[8,9]⟩,⟨[false,false,false,false,false,true,true,false,false,false],[(0,.b (.one (.sl 1 (fixed0.map eB)))),(4,Pt 101 0),(5,Pt 102 0),(6,Pt 104 0)],[(101,.box 30 [.nil]),(102,.box 30 [.nil]),(104,.box 56 [.sl 1 (x_2.map (eL 2 aR))]),(106,.row 3 1 (x_4.map eI)),(107,.box 30 [.nil])],[true,true,true,true,true,true,true,true,true,true],[3,4,5,6],[8,9]⟩,⟨[false,false,false,false,false,true,false,true,false,false],[(0,.b (.one (.sl 1 (fixed0.map eB)))),(4,Pt 101 0),(5,Pt 102 0),(6,Pt 104 0)],[(101,.box 30 [.nil]),(102,.box 30 [.nil]),(104,.box 56 [.sl 1 (x_2.map (eL 2 aR))]),(106,.row 3 1 (x_4.map eI)),(108,.box 30 [.nil])],[true,true,true,true,true,true,true,true,true,true],[3,4,5,7],[8,9]⟩,⟨[false,false,false,false,false,false,true,true,false,false],[(0,.b (.one (.sl 1 (fixed0.map eB)))),(4,Pt 101 0),(5,Pt 102 0),(6,Pt 104 0)],[(101,.box 30 [.nil]),(102,.box 30 [.nil]),(104,.box 56 [.sl 1 (x_2.map (eL 2 aR))]),(107,.box 30 [.nil]),(108,.box 30 [.nil])],[true,true,true,true,true,true,true,true,true,true],[6,7],[8,9]⟩,⟨[false,false,true,false,false,true,true,false,false,false],[(0,.b (.one (.sl 1 (fixed0.map eB)))),(4,Pt 101 0),(5,Pt 102 0),(6,Pt 104 0)],[(101,.box 30 [.nil]),(102,.box 30 [.nil]),(104,.box 56 [.sl 1 (x_2.map (eL 2 aR))]),(105,.row 3 1 (x_3.map eI)),(106,.row 3 1 (x_4.map eI)),(107,.box 30 [.nil])],[true,true,true,true,true,true,true,true,true,true],[0,1,2,3,4,5,6],[8,9]⟩,⟨[false,false,true,false,false,true,false,true,false,false],[(0,.b (.one (.sl 1 (fixed0.map eB)))),(4,Pt 101 0),(5,Pt 102 0),(6,Pt 104 0)],[(101,.box 30 [.nil]),(102,.box 30 [.nil]),(104,.box 56 [.sl 1 (x_2.map (eL 2 aR))]),(105,.row 3 1 (x_3.map eI)),(106,.row 3 1 (x_4.map eI)),(108,.box 30 [.nil])],[true,true,true,true,true,true,true,true,true,true],[0,1,2,3,4,5,7],[8,9]⟩,⟨[false,false,true,false,false,false,true,true,false,false],[(0,.b (.one (.sl 1 (fixed0.map eB)))),(4,Pt 101 0),(5,Pt 102 0),(6,Pt 104 0)],[(101,.box 30 [.nil]),(102,.box 30 [.nil]),(104,.box 56 [.sl 1 (x_2.map (eL 2 aR))]),(105,.row 3 1 (x_3.map eI)),(107,.box 30 [.nil]),(108,.box 30 [.nil])],[true,true,true,true,true,true,true,true,true,true],[0,1,2,6,7],[9]⟩,⟨[false,false,false,false,false,true,true,true,false,false],[(0,.b (.one (.sl 1 (fixed0.map eB)))),(4,Pt 101 0),(5,Pt 102 0),(6,Pt 104 0)],[(101,.box 30 [.nil]),(102,.box 30 [.nil]),(104,.box 56 [.sl 1 (x_2.map (eL 2 aR))]),(106,.row 3 1 (x_4.map eI)),(107,.box 30 [.nil]),(108,.box 30 [.nil])],[true,true,true,true,true,true,true,true,true,true],[3,4,5,6,7],[8,9]⟩,⟨[false,false,true,false,false,true,true,true,false,false],[(0,.b (.one (.sl 1 (fixed0.map eB)))),(4,Pt 101 0),(5,Pt 102 0),(6,Pt 104 0)],[(101,.box 30 [.nil]),(102,.box 30 [.nil]),(104,.box 56 [.sl 1 (x_2.map (eL 2 aR))]),(105,.row 3 1 (x_3.map eI)),(106,.row 3 1 (x_4.map eI)),(107,.box 30 [.nil]),(108,.box 30 [.nil])],[true,true,true,true,true,true,true,true,true,true],[0,1,2,3,4,5,6,7],[9]⟩,⟨[false,false,true,false,false,false,true,true,true,false],[(0,.b (.one (.sl 1 (fixed0.map eB)))),(4,Pt 101 0),(5,Pt 102 0),(6,Pt 104 0)],[(101,.box 30 [.nil]),(102,.box 30 [.nil]),(104,.box 56 [.sl 1 (x_2.map (eL 2 aR))]),(105,.row 3 1 (x_3.map eI)),(107,.ao 30 [.row 105]),(108,.box 30 [.nil])],[true,true,true,true,true,true,true,true,true,true],[0,1,2,6,7,8],[9]⟩,⟨[false,false,true,false,false,true,true,true,true,false],[(0,.b (.one (.sl 1 (fixed0.map eB)))),(4,Pt 101 0),(5,Pt 102 0),(6,Pt 104 0)],[(101,.box 30 [.nil]),(102,.box 30 [.nil]),(104,.box 56 [.sl 1 (x_2.map (eL 2 aR))]),(105,.row 3 1 (x_3.map eI)),(106,.row 3 1 (x_4.map eI)),(107,.ao 30 [.row 105]),(108,.box 30 [.nil])],[true,true,true,true,true,true,true,true,true,true],[0,1,2,3,4,5,6,7,8],[]⟩,⟨[false,false,true,false,false,true,true,true,true,true],[(0,.b (.one (.sl 1 (fixed0.map eB)))),(4,Pt 101 0),(5,Pt 102 0),(6,Pt 104 0)],[(101,.box 30 [.nil]),(102,.box 30 [.nil]),(104,.box 56 [.sl 1 (x_2.map (eL 2 aR))]),(105,.row 3 1 (x_3.map eI)),(106,.row 3 1 (x_4.map eI)),(107,.ao 30 [.row 105]),(108,.ao 30 [.row 106])],[true,true,true,true,true,true,true,true,true,true],[0,1,2,3,4,5,6,7,8,9],[]⟩] rfl (⟨by kernel_rfl,⟨⟨.b (.one (.sl 1 (fixed0.map eB))),fun _=>rfl,fun _=>.p (by exact an rfl)⟩,⟨I (fixed0.length:Int),fun _=>rfl,fun _=>.p (by exact az dx rfl (List.length_map _))⟩,⟨_,[105],.b (.row 105),rfl,fun _=>rfl,rfl,rfl,fun _=>.eV [101,102,104,105] (by exact .p (by exact bl (k:=105) (enc:=eI) ak e3 (by decide) (.cons .refl .nil) rfl rfl rfl)) (by exact rfl)⟩,⟨.b (.one (.sl 1 (fixed0.map eB))),fun _=>rfl,fun _=>.p (by exact an rfl)⟩,⟨I (fixed0.length:Int),fun _=>rfl,fun _=>.p (by exact az dx rfl (List.length_map _))⟩,⟨_,[106],.b (.row 106),rfl,fun _=>rfl,rfl,rfl,fun _=>.eV [101,102,104,106] (by exact .p (by exact bl (k:=106) (enc:=eI) ak e4 (by decide) (.cons .refl .nil) rfl rfl rfl)) (by exact rfl)⟩,⟨_,[107],Pt 107 0,rfl,fun _=>rfl,rfl,rfl,fun _=>.eV [101,102,104,107] (by exact .p (by exact bn (k:=107) cj rfl)) (by exact rfl)⟩,⟨_,[108],Pt 108 0,rfl,fun _=>rfl,rfl,rfl,fun _=>.eV [101,102,104,108] (by exact .p (by exact bn (k:=108) cj rfl)) (by exact rfl)⟩,trivial,trivial,trivial⟩,⟨by kernel_rfl,⟨trivial,trivial,trivial,⟨.b (.one (.sl 1 (fixed0.map eB))),fun _=>rfl,fun _=>.p (by exact an rfl)⟩,⟨I (fixed0.length:Int),fun _=>rfl,fun _=>.p (by exact az dx rfl (List.length_map _))⟩,⟨_,[106],.b (.row 106),rfl,fun _=>rfl,rfl,rfl,fun _=>.eV [101,102,104,105,106] (by exact .p (by exact bl (k:=106) (enc:=eI) ak e4 (by decide) (.cons .refl .nil) rfl rfl rfl)) (by exact rfl)⟩,⟨_,[107],Pt 107 0,rfl,fun _=>rfl,rfl,rfl,fun _=>.eV [101,102,104,105,107] (by exact .p (by exact bn (k:=107) cj rfl)) (by exact rfl)⟩,⟨_,[108],Pt 108 0,rfl,fun _=>rfl,rfl,rfl,fun _=>.eV [101,102,104,105,108] (by exact .p (by exact bn (k:=108) cj rfl)) (by exact rfl)⟩,trivial,trivial,trivial⟩,⟨by kernel_rfl,⟨⟨.b (.one (.sl 1 (fixed0.map eB))),fun _=>rfl,fun _=>.p (by exact an rfl)⟩,⟨I (fixed0.length:Int),fun _=>rfl,fun _=>.p (by exact az dx rfl (List.length_map _))⟩,⟨_,[105],.b (.row 105),rfl,fun _=>rfl,rfl,rfl,fun _=>.eV [101,102,104,105,106] (by exact .p (by exact bl (k:=105) (enc:=eI) ak e3 (by decide) (.cons .refl .nil) rfl rfl rfl)) (by exact rfl)⟩,trivial,trivial,trivial,⟨_,[107],Pt 107 0,rfl,fun _=>rfl,rfl,rfl,fun _=>.eV [101,102,104,106,107] (by exact .p (by exact bn (k:=107) cj rfl)) (by exact rfl)⟩,⟨_,[108],Pt 108 0,rfl,fun _=>rfl,rfl,rfl,fun _=>.eV [101,102,104,106,108] (by exact .p (by exact bn (k:=108) cj rfl)) (by exact rfl)⟩,trivial,trivial,trivial⟩,⟨by kernel_rfl,⟨⟨.b (.one (.sl 1 (fixed0.map eB))),fun _=>rfl,fun _=>.p (by exact an rfl)⟩,⟨I (fixed0.length:Int),fun _=>rfl,fun _=>.p (by exact az dx rfl (List.length_map _))⟩,⟨_,[105],.b (.row 105),rfl,fun _=>rfl,rfl,rfl,fun _=>.eV [101,102,104,105,107] (by exact .p (by exact bl (k:=105) (enc:=eI) ak e3 (by decide) (.cons .refl .nil) rfl rfl rfl)) (by exact rfl)⟩,⟨.b (.one (.sl 1 (fixed0.map eB))),fun _=>rfl,fun _=>.p (by exact an rfl)⟩,⟨I (fixed0.length:Int),fun _=>rfl,fun _=>.p (by exact az dx rfl (List.length_map _))⟩,⟨_,[106],.b (.row 106),rfl,fun _=>rfl,rfl,rfl,fun _=>.eV [101,102,104,106,107] (by exact .p (by exact bl (k:=106) (enc:=eI) ak e4 (by decide) (.cons .refl .nil) rfl rfl rfl)) (by exact rfl)⟩,trivial,⟨_,[108],Pt 108 0,rfl,fun _=>rfl,rfl,rfl,fun _=>.eV [101,102,104,107,108] (by exact .p (by exact bn (k:=108) cj rfl)) (by exact rfl)⟩,trivial,trivial,trivial⟩,⟨by kernel_rfl,⟨⟨.b (.one (.sl 1 (fixed0.map eB))),fun _=>rfl,fun _=>.p (by exact an rfl)⟩,⟨I (fixed0.length:Int),fun _=>rfl,fun _=>.p (by exact az dx rfl (List.length_map _))⟩,⟨_,[105],.b (.row 105),rfl,fun _=>rfl,rfl,rfl,fun _=>.eV [101,102,104,105,108] (by exact .p (by exact bl (k:=105) (enc:=eI) ak e3 (by decide) (.cons .refl .nil) rfl rfl rfl)) (by exact rfl)⟩,⟨.b (.one (.sl 1 (fixed0.map eB))),fun _=>rfl,fun _=>.p (by exact an rfl)⟩,⟨I (fixed0.length:Int),fun _=>rfl,fun _=>.p (by exact az dx rfl (List.length_map _))⟩,⟨_,[106],.b (.row 106),rfl,fun _=>rfl,rfl,rfl,fun _=>.eV [101,102,104,106,108] (by exact .p (by exact bl (k:=106) (enc:=eI) ak e4 (by decide) (.cons .refl .nil) rfl rfl rfl)) (by exact rfl)⟩,⟨_,[107],Pt 107 0,rfl,fun _=>rfl,rfl,rfl,fun _=>.eV [101,102,104,107,108] (by exact .p (by exact bn (k:=107) cj rfl)) (by exact rfl)⟩,trivial,trivial,trivial,trivial⟩,⟨by kernel_rfl,⟨trivial,trivial,trivial,trivial,trivial,trivial,⟨_,[107],Pt 107 0,rfl,fun _=>rfl,rfl,rfl,fun _=>.eV [101,102,104,105,106,107] (by exact .p (by exact bn (k:=107) cj rfl)) (by exact rfl)⟩,⟨_,[108],Pt 108 0,rfl,fun _=>rfl,rfl,rfl,fun _=>.eV [101,102,104,105,106,108] (by exact .p (by exact bn (k:=108) cj rfl)) (by exact rfl)⟩,trivial,trivial,trivial⟩,⟨by kernel_rfl,⟨trivial,trivial,trivial,⟨.b (.one (.sl 1 (fixed0.map eB))),fun _=>rfl,fun _=>.p (by exact an rfl)⟩,⟨I (fixed0.length:Int),fun _=>rfl,fun _=>.p (by exact az dx rfl (List.length_map _))⟩,⟨_,[106],.b (.row 106),rfl,fun _=>rfl,rfl,rfl,fun _=>.eV [101,102,104,105,106,107] (by exact .p (by exact bl (k:=106) (enc:=eI) ak e4 (by decide) (.cons .refl .nil) rfl rfl rfl)) (by exact rfl)⟩,trivial,⟨_,[108],Pt 108 0,rfl,fun _=>rfl,rfl,rfl,fun _=>.eV [101,102,104,105,107,108] (by exact .p (by exact bn (k:=108) cj rfl)) (by exact rfl)⟩,trivial,trivial,trivial⟩,⟨by kernel_rfl,⟨trivial,trivial,trivial,⟨.b (.one (.sl 1 (fixed0.map eB))),fun _=>rfl,fun _=>.p (by exact an rfl)⟩,⟨I (fixed0.length:Int),fun _=>rfl,fun _=>.p (by exact az dx rfl (List.length_map _))⟩,⟨_,[106],.b (.row 106),rfl,fun _=>rfl,rfl,rfl,fun _=>.eV [101,102,104,105,106,108] (by exact .p (by exact bl (k:=106) (enc:=eI) ak e4 (by decide) (.cons .refl .nil) rfl rfl rfl)) (by exact rfl)⟩,⟨_,[107],Pt 107 0,rfl,fun _=>rfl,rfl,rfl,fun _=>.eV [101,102,104,105,107,108] (by exact .p (by exact bn (k:=107) cj rfl)) (by exact rfl)⟩,trivial,trivial,trivial,trivial⟩,⟨by kernel_rfl,⟨⟨.b (.one (.sl 1 (fixed0.map eB))),fun _=>rfl,fun _=>.p (by exact an rfl)⟩,⟨I (fixed0.length:Int),fun _=>rfl,fun _=>.p (by exact az dx rfl (List.length_map _))⟩,⟨_,[105],.b (.row 105),rfl,fun _=>rfl,rfl,rfl,fun _=>.eV [101,102,104,105,106,107] (by exact .p (by exact bl (k:=105) (enc:=eI) ak e3 (by decide) (.cons .refl .nil) rfl rfl rfl)) (by exact rfl)⟩,trivial,trivial,trivial,trivial,⟨_,[108],Pt 108 0,rfl,fun _=>rfl,rfl,rfl,fun _=>.eV [101,102,104,106,107,108] (by exact .p (by exact bn (k:=108) cj rfl)) (by exact rfl)⟩,trivial,trivial,trivial⟩,⟨by kernel_rfl,⟨⟨.b (.one (.sl 1 (fixed0.map eB))),fun _=>rfl,fun _=>.p (by exact an rfl)⟩,⟨I (fixed0.length:Int),fun _=>rfl,fun _=>.p (by exact az dx rfl (List.length_map _))⟩,⟨_,[105],.b (.row 105),rfl,fun _=>rfl,rfl,rfl,fun _=>.eV [101,102,104,105,106,108] (by exact .p (by exact bl (k:=105) (enc:=eI) ak e3 (by decide) (.cons .refl .nil) rfl rfl rfl)) (by exact rfl)⟩,trivial,trivial,trivial,⟨_,[107],Pt 107 0,rfl,fun _=>rfl,rfl,rfl,fun _=>.eV [101,102,104,106,107,108] (by exact .p (by exact bn (k:=107) cj rfl)) (by exact rfl)⟩,trivial,trivial,trivial,trivial⟩,⟨by kernel_rfl,⟨⟨.b (.one (.sl 1 (fixed0.map eB))),fun _=>rfl,fun _=>.p (by exact an rfl)⟩,⟨I (fixed0.length:Int),fun _=>rfl,fun _=>.p (by exact az dx rfl (List.length_map _))⟩,⟨_,[105],.b (.row 105),rfl,fun _=>rfl,rfl,rfl,fun _=>.eV [101,102,104,105,107,108] (by exact .p (by exact bl (k:=105) (enc:=eI) ak e3 (by decide) (.cons .refl .nil) rfl rfl rfl)) (by exact rfl)⟩,⟨.b (.one (.sl 1 (fixed0.map eB))),fun _=>rfl,fun _=>.p (by exact an rfl)⟩,⟨I (fixed0.length:Int),fun _=>rfl,fun _=>.p (by exact az dx rfl (List.length_map _))⟩,⟨_,[106],.b (.row 106),rfl,fun _=>rfl,rfl,rfl,fun _=>.eV [101,102,104,106,107,108] (by exact .p (by exact bl (k:=106) (enc:=eI) ak e4 (by decide) (.cons .refl .nil) rfl rfl rfl)) (by exact rfl)⟩,trivial,trivial,trivial,trivial,trivial⟩,⟨by kernel_rfl,⟨trivial,trivial,trivial,trivial,trivial,trivial,trivial,⟨_,[108],Pt 108 0,rfl,fun _=>rfl,rfl,rfl,fun _=>.eV [101,102,104,105,106,107,108] (by exact .p (by exact bn (k:=108) cj rfl)) (by exact rfl)⟩,trivial,trivial,trivial⟩,⟨by kernel_rfl,⟨trivial,trivial,trivial,trivial,trivial,trivial,⟨_,[107],Pt 107 0,rfl,fun _=>rfl,rfl,rfl,fun _=>.eV [101,102,104,105,106,107,108] (by exact .p (by exact bn (k:=107) cj rfl)) (by exact rfl)⟩,trivial,trivial,trivial,trivial⟩,⟨by kernel_rfl,⟨trivial,trivial,trivial,⟨.b (.one (.sl 1 (fixed0.map eB))),fun _=>rfl,fun _=>.p (by exact an rfl)⟩,⟨I (fixed0.length:Int),fun _=>rfl,fun _=>.p (by exact az dx rfl (List.length_map _))⟩,⟨_,[106],.b (.row 106),rfl,fun _=>rfl,rfl,rfl,fun _=>.eV [101,102,104,105,106,107,108] (by exact .p (by exact bl (k:=106) (enc:=eI) ak e4 (by decide) (.cons .refl .nil) rfl rfl rfl)) (by exact rfl)⟩,trivial,trivial,⟨_,[],.b (.one .any),rfl,(fun e=>by simp at e),rfl,rfl,fun _=>.eV [101,102,104,105,107,108] (by exact .mK 107 rfl (.plain rfl (de aT rfl rfl rfl rfl (Nat.le_of_ble_eq_true rfl) rfl))) (by exact rfl)⟩,trivial,trivial⟩,⟨by kernel_rfl,⟨⟨.b (.one (.sl 1 (fixed0.map eB))),fun _=>rfl,fun _=>.p (by exact an rfl)⟩,⟨I (fixed0.length:Int),fun _=>rfl,fun _=>.p (by exact az dx rfl (List.length_map _))⟩,⟨_,[105],.b (.row 105),rfl,fun _=>rfl,rfl,rfl,fun _=>.eV [101,102,104,105,106,107,108] (by exact .p (by exact bl (k:=105) (enc:=eI) ak e3 (by decide) (.cons .refl .nil) rfl rfl rfl)) (by exact rfl)⟩,trivial,trivial,trivial,trivial,trivial,trivial,trivial,trivial⟩,⟨by kernel_rfl,⟨trivial,trivial,trivial,trivial,trivial,trivial,trivial,trivial,⟨_,[],.b (.one .any),rfl,(fun e=>by simp at e),rfl,rfl,fun _=>.eV [101,102,104,105,106,107,108] (by exact .mK 107 rfl (.plain rfl (de aT rfl rfl rfl rfl (Nat.le_of_ble_eq_true rfl) rfl))) (by exact rfl)⟩,trivial,trivial⟩,⟨by kernel_rfl,⟨trivial,trivial,trivial,⟨.b (.one (.sl 1 (fixed0.map eB))),fun _=>rfl,fun _=>.p (by exact an rfl)⟩,⟨I (fixed0.length:Int),fun _=>rfl,fun _=>.p (by exact az dx rfl (List.length_map _))⟩,⟨_,[106],.b (.row 106),rfl,fun _=>rfl,rfl,rfl,fun _=>.eV [101,102,104,105,106,107,108] (by exact .p (by exact bl (k:=106) (enc:=eI) ak e4 (by decide) (.cons .refl .nil) rfl rfl rfl)) (by exact rfl)⟩,trivial,trivial,trivial,trivial,trivial⟩,⟨by kernel_rfl,⟨trivial,trivial,trivial,trivial,trivial,trivial,trivial,trivial,trivial,⟨_,[],.b (.one .any),rfl,(fun e=>by simp at e),rfl,rfl,fun _=>.eV [101,102,104,105,106,107,108] (by exact .mK 108 rfl (.plain rfl (de aT rfl rfl rfl rfl (Nat.le_of_ble_eq_true rfl) rfl))) (by exact rfl)⟩,trivial⟩,⟨by kernel_rfl,⟨trivial,trivial,trivial,trivial,trivial,trivial,trivial,trivial,trivial,trivial,trivial⟩,trivial⟩⟩⟩⟩⟩⟩⟩⟩⟩⟩⟩⟩⟩⟩⟩⟩⟩⟩⟩) rfl rfl rfl [0,4,5,6,7,8] [101,102,104,105,106,107,108] (s':=⟨[(0,.b (.one (.sl 1 (fixed0.map eB)))),(4,Pt 101 0),(5,Pt 102 0),(6,Pt 104 0),(7,Pt 107 0),(8,Pt 108 0)],[(101,.box 30 [.nil]),(102,.box 30 [.nil]),(104,.box 56 [.sl 1 (x_2.map (eL 2 aR))]),(105,.row 3 1 (x_3.map eI)),(106,.row 3 1 (x_4.map eI)),(107,.ao 30 [.row 105]),(108,.ao 30 [.row 106])]⟩) rfl ?_
 refine ab.seq (ab.aa ?_)
 refine Oc (bn (k:=109) tyZero3 rfl) (Oc (fF ax rfl rfl rfl (Nat.le_of_ble_eq_true rfl) rfl) ?_)
 refine ae.ag ⟨[(0,_),(4,_),(5,_),(6,_),(7,_),(8,_),(9,Pt 109 0)],[(101,_),(102,_),(104,_),(105,_),(106,_),(107,_),(108,_),(109,.box 3 [.i 0])]⟩ rfl (ab.seq (ab.aa ?_))
 refine Oc (bn (k:=110) q7 rfl) (ae.ag ⟨[(0,_),(4,_),(5,_),(6,_),(7,_),(8,_),(9,_),(10,Pt 110 0)],[(101,_),(102,_),(104,_),(105,_),(106,_),(107,_),(108,_),(109,_),(110,.box 80 [.raw .nilFunc])]⟩ rfl (ab.seq (ab.aa ?_)))
 refine Oc (oq rfl rfl) (ae.mK 110 rfl (Oc (de nv rfl rfl rfl rfl (Nat.le_of_ble_eq_true rfl) rfl) (ae.ag ⟨[(0,.b (.one (.sl 1 (fixed0.map eB)))),(4,Pt 101 0),(5,Pt 102 0),(7,Pt 107 0),(10,Pt 110 0)],[(101,.box 30 [.nil]),(102,.box 30 [.nil]),(104,.box 56 [.sl 1 (x_2.map (eL 2 aR))]),(105,.row 3 1 (x_3.map eI)),(106,.row 3 1 (x_4.map eI)),(107,.ao 30 [.row 105]),(108,.ao 30 [.row 106]),(109,.box 3 [.i 0]),(110,.ao 80 [.fT 53 [] [.ptr 109 0,.ptr 107 0,.ptr 108 0,.ptr 104 0,.ptr 110 0,.ptr 102 0,.ptr 101 0]])]⟩ rfl ?_)))
 obtain ⟨v5,h6,h⟩:=aF h
 refine ab.bZ (v:=v5) (cg fun (keysf0_5:List Int) (bridgesf0_6:List Int)=>⟨[(4,Pt 101 0),(5,Pt 102 0)],[(101,.ao 30 [.row 112]),(102,.ao 30 [.row 111]),(111,.row 3 1 (bridgesf0_6.map eI)),(112,.row 3 1 (keysf0_5.map eI))]⟩) (fun z=>z) ?_ ?_
 ·refine ab.seq (ab.aa ?_)
  refine Oc om (Oc (az dx rfl (List.length_map _)) (Oc om ?_))
  refine ae.ag ⟨[(4,Pt 101 0),(5,Pt 102 0),(7,Pt 107 0),(10,Pt 110 0),(27,.b (.one (.sl 1 (fixed0.map eB)))),(28,I (fixed0.length:Int)),(29,I 0)],[(101,.box 30 [.nil]),(102,.box 30 [.nil]),(104,.box 56 [.sl 1 (x_2.map (eL 2 aR))]),(105,.row 3 1 (x_3.map eI)),(106,.row 3 1 (x_4.map eI)),(107,.ao 30 [.row 105]),(108,.ao 30 [.row 106]),(109,.box 3 [.i 0]),(110,.ao 80 [.fT 53 [] [.ptr 109 0,.ptr 107 0,.ptr 108 0,.ptr 104 0,.ptr 110 0,.ptr 102 0,.ptr 101 0]])]⟩ rfl (ab.block (ab.mK 101 rfl (ab.gy 101 0 112 1 3 rfl rfl (by decide) (by decide) rfl (ab.mK 102 rfl (ab.gy 102 0 111 1 3 rfl rfl (by decide) (by decide) rfl ?_)))))
  refine ab.b9 h6 (un6 fun (keysf0_7:List Int) (bridgesf0_8:List Int) (seenf0_9:List Int) (visitf0_10:Int) (visitf0f0_11:List Int) (x_12:Int)=>⟨[(4,Pt 101 0),(5,Pt 102 0),(7,Pt 107 0),(10,Pt 110 0),(27,.b (.one (.sl 1 (fixed0.map eB)))),(28,I (fixed0.length:Int)),(29,I x_12)],[(101,.ao 30 [.row 112]),(102,.ao 30 [.row 111]),(104,.box 56 [.sl 1 (x_2.map (eL 2 aR))]),(105,.row 3 1 (seenf0_9.map eI)),(106,.row 3 1 (visitf0f0_11.map eI)),(107,.ao 30 [.row 105]),(108,.ao 30 [.row 106]),(109,.box 3 [.i visitf0_10]),(110,.ao 80 [.fT 53 [] [.ptr 109 0,.ptr 107 0,.ptr 108 0,.ptr 104 0,.ptr 110 0,.ptr 102 0,.ptr 101 0]]),(111,.row 3 1 (bridgesf0_8.map eI)),(112,.row 3 1 (keysf0_7.map eI))]⟩) [4,5,7,10,27,28,29] [101,102,104,105,106,107,108,109,110,111,112] rfl ?_
  rintro ⟨keysf0_7,bridgesf0_8,seenf0_9,visitf0_10,visitf0f0_11,x_12⟩ o7 h8 hy9
  refine ab.seq (ab.aa ?_)
  refine Oc (bh rfl rfl) (ae.ag ⟨[(4,_),(5,_),(7,_),(10,_),(27,_),(28,_),(29,_),(30,B (decide (x_12 < (fixed0.length:Int))))],[(101,_),(102,_),(104,_),(105,_),(106,_),(107,_),(108,_),(109,_),(110,_),(111,_),(112,_)]⟩ rfl (ab.seq (ab.ite h8 rfl (fun _ h8=>?_) (fun _ h8=>?_))))
  ·refine ab.skip (Fin.af ⟨[(4,_),(5,_),(7,_),(10,_),(27,_),(28,_),(29,_)],[(101,_),(102,_),(104,_),(105,_),(106,_),(107,_),(108,_),(109,_),(110,_),(111,_),(112,_)]⟩ rfl (Fin.then ?_))
   obtain ⟨v10,h11,h8⟩:=aF h8
   refine ab.bZ (v:=v10) (un5 fun (keysf0_15:List Int) (bridgesf0_16:List Int) (seenf0_17:List Int) (visitf0_18:Int) (visitf0f0_19:List Int)=>⟨[(4,Pt 101 0),(5,Pt 102 0),(7,Pt 107 0),(10,Pt 110 0),(27,.b (.one (.sl 1 (fixed0.map eB)))),(28,I (fixed0.length:Int)),(29,I x_12)],[(101,.ao 30 [.row 112]),(102,.ao 30 [.row 111]),(104,.box 56 [.sl 1 (x_2.map (eL 2 aR))]),(105,.row 3 1 (seenf0_17.map eI)),(106,.row 3 1 (visitf0f0_19.map eI)),(107,.ao 30 [.row 105]),(108,.ao 30 [.row 106]),(109,.box 3 [.i visitf0_18]),(110,.ao 80 [.fT 53 [] [.ptr 109 0,.ptr 107 0,.ptr 108 0,.ptr 104 0,.ptr 110 0,.ptr 102 0,.ptr 101 0]]),(111,.row 3 1 (bridgesf0_16.map eI)),(112,.row 3 1 (keysf0_15.map eI))]⟩) (fun z=>z) ?_ ?_
   ·refine ab.block (ab.seq (ab.aa ?_))
    refine Oc om ?_
    obtain ⟨x_20,e12,h11⟩:=aF h11
    refine Oc (aH kX (aG e12) (aD (e:=eB) e12) rfl rfl) (Oc (aB lZ rfl rfl) (Oc oa (Oc oa ?_)))
    refine ae.ag ⟨[(4,_),(5,_),(7,_),(10,_),(11,I x_12),(12,B x_20),(27,_),(28,_),(29,_)],[(101,_),(102,_),(104,_),(105,_),(106,_),(107,_),(108,_),(109,_),(110,_),(111,_),(112,_)]⟩ rfl (ab.seq (ab.aa ?_))
    refine Oc om (Oc (dg rfl) (Oc om ?_))
    refine cX (!x_20) [] (fun g13=>trivial) (fun g13=>aW aT rfl rfl rfl) (cX (!x_20) [] (fun g14=>trivial) (fun g14=>om) ?_)
    obtain ⟨x_21,e16,h11⟩:=aF h11
    refine cX (!x_20) [37,38] (fun g15=>⟨g15,g15,trivial⟩) (fun g15=>aq ak (aG (gc e16 g15)) (aZ (gc e16 g15)) rfl rfl rfl rfl) (cX (!x_20) [39] (fun g17=>⟨g17,trivial⟩) (fun g17=>aK (i:=(x_12:Int).toNat) (f:=0) ax rfl rfl rfl (aD (e:=eI) (gc e16 g17)) rfl) (cX (!x_20) [40] (fun g18=>⟨g18,trivial⟩) (fun g18=>dB rfl rfl) (Oc (aY (fun e=>e) rfl rfl rfl rfl) (ae.ag ⟨[(4,_),(5,_),(7,_),(10,_),(11,_),(27,_),(28,_),(29,_),(42,B ((!x_20) && (decide (x_21 = 0))))],[(101,_),(102,_),(104,_),(105,_),(106,_),(107,_),(108,_),(109,_),(110,_),(111,_),(112,_)]⟩ rfl (ab.ite h11 rfl (fun _ h11=>?_) (fun _ h11=>?_))))))
    ·refine ab.aa (Oc (aW nv rfl rfl rfl) (Oc om ?_))
     obtain ⟨⟨x_22,x_23,x_24,x_25,x_26⟩,e19,h11⟩:=aF h11
     refine Oc (nZ (own_a:=[(109,_),(107,_),(105,_),(108,_),(106,_),(104,_),(110,_),(102,_),(111,_),(101,_),(112,_)]) (ar.cast (own2:=[(109,.box 3 [.i visitf0_10]),(107,.ao 30 [.row 105]),(105,.row 3 1 (seenf0_9.map eI)),(108,.ao 30 [.row 106]),(106,.row 3 1 (visitf0f0_11.map eI)),(104,.box 56 [.sl 1 (x_2.map (eL 2 aR))]),(110,.ao 80 [.fT 53 [] [.ptr 109 0,.ptr 107 0,.ptr 108 0,.ptr 104 0,.ptr 110 0,.ptr 102 0,.ptr 101 0]]),(102,.ao 30 [.row 111]),(111,.row 3 1 (bridgesf0_8.map eI)),(101,.ao 30 [.row 112]),(112,.row 3 1 (keysf0_7.map eI))]) (args2:=[.one (.i x_12),.one (.i (-1)),.ptr 109 0,.ptr 107 0,.ptr 108 0,.ptr 104 0,.ptr 110 0,.ptr 102 0,.ptr 101 0]) (own2':=[(109,.box 3 [.i x_22]),(107,.ao 30 [.row 105]),(105,.row 3 1 (x_23.map eI)),(108,.ao 30 [.row 106]),(106,.row 3 1 (x_24.map eI)),(104,.box 56 [.sl 1 (x_2.map (eL 2 aR))]),(110,.ao 80 [.fT 53 [] [.ptr 109 0,.ptr 107 0,.ptr 108 0,.ptr 104 0,.ptr 110 0,.ptr 102 0,.ptr 101 0]]),(102,.ao 30 [.row 111]),(111,.row 3 1 (x_25.map eI)),(101,.ao 30 [.row 112]),(112,.row 3 1 (x_26.map eI))]) (res2:=.eo []) ((((((((((((ke e19).sw 1 109).sw 2 107).sw 3 105).sw 4 108).sw 5 106).sw 6 104).sw 7 110).sw 8 102).sw 9 111).sw 10 101).sw 11 112) (by kernel_rfl) (by kernel_rfl) (by kernel_rfl) (by kernel_rfl)) qH rfl rfl rfl ⟨rfl,rfl,rfl,rfl,rfl,rfl,rfl,rfl,rfl,rfl,rfl,trivial⟩ rfl rfl) (ae.af ⟨[(4,Pt 101 0),(5,Pt 102 0),(7,Pt 107 0),(10,Pt 110 0),(11,I x_12),(27,.b (.one (.sl 1 (fixed0.map eB)))),(28,I (fixed0.length:Int)),(29,I x_12),(42,B ((!x_20) && (decide (x_21 = 0)))),(43,.b (.fT 53 [] [.ptr 109 0,.ptr 107 0,.ptr 108 0,.ptr 104 0,.ptr 110 0,.ptr 102 0,.ptr 101 0])),(44,I x_12),(45,.eo [])],[(101,.ao 30 [.row 112]),(102,.ao 30 [.row 111]),(104,.box 56 [.sl 1 (x_2.map (eL 2 aR))]),(105,.row 3 1 (x_23.map eI)),(106,.row 3 1 (x_24.map eI)),(107,.ao 30 [.row 105]),(108,.ao 30 [.row 106]),(109,.box 3 [.i x_22]),(110,.ao 80 [.fT 53 [] [.ptr 109 0,.ptr 107 0,.ptr 108 0,.ptr 104 0,.ptr 110 0,.ptr 102 0,.ptr 101 0]]),(111,.row 3 1 (x_25.map eI)),(112,.row 3 1 (x_26.map eI))]⟩ (by kernel_rfl) (ae.nil (Fin.ai ?_)))
     exact Fin.join [4,5,7,10,27,28,29] [101,102,104,105,106,107,108,109,110,111,112] (x_26,x_25,x_23,x_22,x_24) (Option.some.inj h11) rfl
    ·refine ab.skip (Fin.ai ?_)
     exact Fin.join [4,5,7,10,27,28,29] [101,102,104,105,106,107,108,109,110,111,112] (keysf0_7,bridgesf0_8,seenf0_9,visitf0_10,visitf0f0_11) (Option.some.inj h11) rfl
   ·rintro ⟨keysf0_15,bridgesf0_16,seenf0_17,visitf0_18,visitf0f0_19⟩ hv
    subst v10
    refine ab.aa (Oc (aX rfl rfl) (Oc om ?_))
    refine ae.nil ?_
    exact Fin.bw [4,5,7,10,27,28,29] [101,102,104,105,106,107,108,109,110,111,112] (keysf0_15,bridgesf0_16,seenf0_17,visitf0_18,visitf0f0_19,IntKind.i64.wrap (x_12 + 1)) (Option.some.inj h8) rfl
  ·refine ab.exit (Fin.ah ?_)
   obtain rfl:=hy9 _ (Option.some.inj h8).symm
   refine Fin.ah (Fin.ay ?_)
   exact Fin.join [4,5] [101,102,111,112] (keysf0_7,bridgesf0_8) rfl rfl
 ·rintro ⟨keysf0_5,bridgesf0_6⟩ hv
  subst v5
  refine ab.seq (ab.aa ?_)
  refine Oc (aW aT rfl rfl rfl) (ae.jz 112 rfl ?_)
  obtain ⟨x_27,e20,h⟩:=aF h
  refine Oc (bj (own_a:=[(112,_)]) ((dM e20).sw 1 112) ns rfl ⟨rfl,trivial⟩ rfl rfl) (ae.kg 112 rfl (ae.ag ⟨[(4,_),(5,_)],[(101,_),(102,_),(111,_),(112,.row 3 1 (x_27.map eI))]⟩ rfl (ab.seq (ab.aa ?_))))
  refine Oc (aW aT rfl rfl rfl) (ae.jz 111 rfl ?_)
  obtain ⟨x_28,e21,h⟩:=aF h
  refine Oc (bj (own_a:=[(111,_)]) ((dM e21).sw 1 111) ns rfl ⟨rfl,trivial⟩ rfl rfl) (ae.kg 111 rfl (ae.ag ⟨[(4,_),(5,_)],[(101,_),(102,_),(111,.row 3 1 (x_28.map eI)),(112,_)]⟩ rfl (ab.seq (ab.lR mixed [false,false,true,true] [.b (.row 112),.b (.row 111),B true,B true] [⟨[false,false,false,false],[(4,Pt 101 0),(5,Pt 102 0)],[(101,.ao 30 [.row 112]),(102,.ao 30 [.row 111]),(111,.row 3 1 (x_28.map eI)),(112,.row 3 1 (x_27.map eI))],[true,true,true,true],[],[3]⟩,⟨[false,false,true,false],[(4,Pt 101 0),(5,Pt 102 0)],[(101,.ao 30 [.row 112]),(102,.ao 30 [.row 111]),(111,.row 3 1 (x_28.map eI)),(112,.row 3 1 (x_27.map eI))],[true,true,true,true],[0,2],[]⟩,⟨[false,false,true,true],[(4,Pt 101 0),(5,Pt 102 0)],[(101,.ao 30 [.row 112]),(102,.ao 30 [.row 111]),(111,.row 3 1 (x_28.map eI)),(112,.row 3 1 (x_27.map eI))],[true,true,true,true],[0,1,2,3],[]⟩] rfl (⟨by kernel_rfl,⟨⟨.b (.row 112),fun _=>rfl,fun _=>.p (by exact aW aT rfl rfl rfl)⟩,⟨.b (.row 111),fun _=>rfl,fun _=>.p (by exact aW aT rfl rfl rfl)⟩,⟨_,[],.b (.one .any),rfl,(fun e=>by simp at e),rfl,rfl,fun _=>.eV [101,102,111,112] (by exact .p (by exact de aT rfl rfl rfl rfl (Nat.le_of_ble_eq_true rfl) rfl)) (by exact rfl)⟩,trivial,trivial⟩,⟨by kernel_rfl,⟨trivial,⟨.b (.row 111),fun _=>rfl,fun _=>.p (by exact aW aT rfl rfl rfl)⟩,trivial,⟨_,[],.b (.one .any),rfl,(fun e=>by simp at e),rfl,rfl,fun _=>.eV [101,102,111,112] (by exact .p (by exact de aT rfl rfl rfl rfl (Nat.le_of_ble_eq_true rfl) rfl)) (by exact rfl)⟩,trivial⟩,⟨by kernel_rfl,⟨trivial,trivial,trivial,trivial,trivial⟩,trivial⟩⟩⟩) rfl rfl rfl [4,5] [101,102,111,112] (s':=⟨[(4,_),(5,_)],[(101,_),(102,_),(111,_),(112,_)]⟩) rfl (ab.ret ?_)))))
  obtain rfl:=Option.some.inj h
  refine Fin.af ⟨[(4,Pt 101 0),(5,Pt 102 0)],[(101,.ao 30 [.row 112]),(102,.ao 30 [.row 111]),(111,.row 3 1 (x_28.map eI)),(112,.row 3 1 (x_27.map eI))]⟩ rfl (Fin.bA 112 rfl (Fin.unX 101 rfl rfl (Fin.bA 111 rfl (Fin.unX 102 rfl rfl (Fin.a6 [.one (.sl 1 (x_27.map eI)),.one (.sl 1 (x_28.map eI))] (.inl rfl) rfl (.cons (.one aT rfl rfl rfl) (.cons (.one aT rfl rfl rfl) .nil)) ⟨rfl,rfl⟩)))))
def dO (F:Nat) (fixed0:List Bool) (links0:List A2):Option ((List Int) × Int) :=
 (cc F fixed0 links0).bind fun x_1=>if (!x_1) = true then (some ([],1)) else (Option.bind (dR F fixed0 links0) (cg fun x_2 x_3=>some (x_3,0)))
theorem jD {F:Nat} {fixed0:List Bool} {links0:List A2} {r:(List Int) × Int} (h:dO F fixed0 links0 = some r):ar Try.prog [] 22 [] [.one (.sl 1 (fixed0.map eB)),.one (.sl 2 (links0.map (cR .i64)))] (Is [] (.eo [.one (.sl 1 (r.1.map eI)),.one (.i r.2)])):=by
 unfold dO at h
 refine ar.intro 19 Try.func22 Try.ntmps22 rfl (by simp) fun E=>?_
 show ab _ E ⟨19,[],[],[]⟩ _ ⟨[(0,.b (.one (.sl 1 (fixed0.map eB)))),(1,.b (.one (.sl 2 (links0.map (cR .i64)))))],[]⟩ _
 refine ab.seq (ab.aa ?_)
 refine Oc oa (Oc oa ?_)
 refine ae.ag ⟨[(0,.b (.one (.sl 1 (fixed0.map eB)))),(1,.b (.one (.sl 2 (links0.map (cR .i64)))))],[]⟩ rfl (ab.seq (ab.seq (ab.aa ?_)))
 refine Oc om (Oc om ?_)
 obtain ⟨x_1,e1,h⟩:=aF h
 refine Oc (aP (cm e1) k5 rfl rfl) (Oc (dg rfl) ?_)
 refine ae.ag ⟨[(0,_),(1,_),(11,B (!x_1))],[]⟩ rfl (ab.ite h rfl (fun _ h=>?_) (fun _ h=>?_))
 ·refine ab.seq (ab.aa ?_)
  refine Oc oa (Oc oa ?_)
  refine ae.ag ⟨[(4,.b (.one (.nil))),(5,I 1)],[]⟩ rfl (ab.ret (Fin.aO ?_))
  obtain rfl:=Option.some.inj h
  refine Fin.af ⟨[(4,_),(5,_)],[]⟩ rfl (Fin.gT 4 1 rfl (by decide) (Fin.a6 [.one (.sl 1 ([].map eI)),.one (.i 1)] (.inl rfl) rfl (.cons (.tmp rfl) (.cons (.tmp rfl) .nil)) ⟨rfl,rfl⟩))
 ·refine ab.skip (Fin.af ⟨[(0,_),(1,_)],[]⟩ rfl (Fin.then (ab.seq (ab.aa ?_))))
  refine Oc om (Oc om ?_)
  obtain ⟨⟨x_2,x_3⟩,e2,h⟩:=aF h
  refine Oc (aP (hJ e2) qN rfl rfl) (Oc om (Oc (aM rfl rfl) ?_))
  refine ae.af ⟨[(12,.eo [.one (.sl 1 (x_2.map eI)),.one (.sl 1 (x_3.map eI))]),(16,.b (.one (.sl 1 (x_2.map eI))))],[]⟩ rfl (Oc (aM rfl rfl) (Oc oa (Oc oa ?_)))
  refine ae.ag ⟨[(7,.b (.one (.sl 1 (x_3.map eI))))],[]⟩ rfl (ab.seq (ab.aa ?_))
  refine Oc om (Oc oa (Oc oa ?_))
  refine ae.ag ⟨[(4,.b (.one (.sl 1 (x_3.map eI)))),(5,I 0)],[]⟩ rfl (ab.ret ?_)
  obtain rfl:=Option.some.inj h
  refine Fin.af ⟨[(4,_),(5,_)],[]⟩ rfl (Fin.a6 [.one (.sl 1 (x_3.map eI)),.one (.i 0)] (.inl rfl) rfl (.cons (.tmp rfl) (.cons (.tmp rfl) .nil)) ⟨rfl,rfl⟩)
def fw (F:Nat) (fixed0:List Bool) (links0:List A2):Option ((List Int) × Int) :=
 (cc F fixed0 links0).bind fun x_1=>if (!x_1) = true then (some ([],1)) else (Option.bind (dR F fixed0 links0) (cg fun x_2 x_3=>some (x_2,0)))
theorem lB {F:Nat} {fixed0:List Bool} {links0:List A2} {r:(List Int) × Int} (h:fw F fixed0 links0 = some r):ar Try.prog [] 21 [] [.one (.sl 1 (fixed0.map eB)),.one (.sl 2 (links0.map (cR .i64)))] (Is [] (.eo [.one (.sl 1 (r.1.map eI)),.one (.i r.2)])):=by
 unfold fw at h
 refine ar.intro 19 Try.func21 Try.ntmps21 rfl (by simp) fun E=>?_
 show ab _ E ⟨19,[],[],[]⟩ _ ⟨[(0,.b (.one (.sl 1 (fixed0.map eB)))),(1,.b (.one (.sl 2 (links0.map (cR .i64)))))],[]⟩ _
 refine ab.seq (ab.aa ?_)
 refine Oc oa (Oc oa ?_)
 refine ae.ag ⟨[(0,.b (.one (.sl 1 (fixed0.map eB)))),(1,.b (.one (.sl 2 (links0.map (cR .i64)))))],[]⟩ rfl (ab.seq (ab.seq (ab.aa ?_)))
 refine Oc om (Oc om ?_)
 obtain ⟨x_1,e1,h⟩:=aF h
 refine Oc (aP (cm e1) k5 rfl rfl) (Oc (dg rfl) ?_)
 refine ae.ag ⟨[(0,_),(1,_),(11,B (!x_1))],[]⟩ rfl (ab.ite h rfl (fun _ h=>?_) (fun _ h=>?_))
 ·refine ab.seq (ab.aa ?_)
  refine Oc oa (Oc oa ?_)
  refine ae.ag ⟨[(4,.b (.one (.nil))),(5,I 1)],[]⟩ rfl (ab.ret (Fin.aO ?_))
  obtain rfl:=Option.some.inj h
  refine Fin.af ⟨[(4,_),(5,_)],[]⟩ rfl (Fin.gT 4 1 rfl (by decide) (Fin.a6 [.one (.sl 1 ([].map eI)),.one (.i 1)] (.inl rfl) rfl (.cons (.tmp rfl) (.cons (.tmp rfl) .nil)) ⟨rfl,rfl⟩))
 ·refine ab.skip (Fin.af ⟨[(0,_),(1,_)],[]⟩ rfl (Fin.then (ab.seq (ab.aa ?_))))
  refine Oc om (Oc om ?_)
  obtain ⟨⟨x_2,x_3⟩,e2,h⟩:=aF h
  refine Oc (aP (hJ e2) qN rfl rfl) (Oc om (Oc (aM rfl rfl) ?_))
  refine ae.af ⟨[(12,.eo [.one (.sl 1 (x_2.map eI)),.one (.sl 1 (x_3.map eI))]),(16,.b (.one (.sl 1 (x_2.map eI))))],[]⟩ rfl (Oc (aM rfl rfl) (Oc oa (Oc oa ?_)))
  refine ae.ag ⟨[(6,.b (.one (.sl 1 (x_2.map eI))))],[]⟩ rfl (ab.seq (ab.aa ?_))
  refine Oc om (Oc oa (Oc oa ?_))
  refine ae.ag ⟨[(4,.b (.one (.sl 1 (x_2.map eI)))),(5,I 0)],[]⟩ rfl (ab.ret ?_)
  obtain rfl:=Option.some.inj h
  refine Fin.af ⟨[(4,_),(5,_)],[]⟩ rfl (Fin.a6 [.one (.sl 1 (x_2.map eI)),.one (.i 0)] (.inl rfl) rfl (.cons (.tmp rfl) (.cons (.tmp rfl) .nil)) ⟨rfl,rfl⟩)
def a8 (F:Nat) (lists0:List (List (List Int))):Option (List (List Int)) :=
 Option.bind (iter F (cg fun up_2 x_3=>if (decide (x_3 < (lists0.length:Int))) = true then (Option.bind ((aV lists0 x_3).bind fun x_6=>Option.bind (iter F (cg fun up_7 x_8=>if (decide (x_8 < (x_6.length:Int))) = true then (Option.bind ((aV x_6 x_8).bind fun x_11=>Option.bind (iter F (cg fun up_12 x_13=>if (decide (x_13 < (x_11.length:Int))) = true then ((aV x_11 x_13).bind fun x_15=>(aV x_11 0).bind fun x_16=>Option.bind (bK F x_16 x_15 up_12) (cg fun x_17 x_18=>some (.inl (x_18,IntKind.i64.wrap (x_13 + 1))))) else (some (.inr up_12))) (up_7,0)) (fun up_14=>some up_14)) (fun up_10=>some (.inl (up_10,IntKind.i64.wrap (x_8 + 1))))) else (some (.inr up_7))) (up_2,0)) (fun up_9=>some up_9)) (fun up_5=>some (.inl (up_5,IntKind.i64.wrap (x_3 + 1))))) else (some (.inr up_2))) (([]:bf),0)) (fun up_1=>Option.bind (bz F up_1) (cg fun x_19 x_20=>some x_19))
theorem cD {F:Nat} {lists0:List (List (List Int))} {r:(List (List Int))} (h:a8 F lists0 = some r):ar Try.prog [] 27 [] [.one (.sl 1 (lists0.map (eL 1 (eL 1 eI))))] (Is [] (.b (.one (.sl 1 (r.map (eL 1 eI)))))):=by
 unfold a8 at h
 refine ar.intro 41 Try.func27 Try.ntmps27 rfl (by simp) fun E=>?_
 show ab _ E ⟨41,[],[],[]⟩ _ ⟨[(0,.b (.one (.sl 1 (lists0.map (eL 1 (eL 1 eI))))))],[]⟩ _
 refine ab.seq (ab.aa ?_)
 refine Oc oa (ae.ag ⟨[(0,.b (.one (.sl 1 (lists0.map (eL 1 (eL 1 eI))))))],[]⟩ rfl (ab.seq (ab.aa ?_)))
 refine Oc (gD (k:=101) kV rfl) (Oc ((mf mS rfl rfl).jP rfl) (Oc (bn (k:=102) gV rfl) ?_))
 refine ae.mK 102 rfl (Oc (ez cA rfl rfl rfl rfl rfl (Nat.le_of_ble_eq_true rfl) rfl) (ae.ag ⟨[(0,.b (.one (.sl 1 (lists0.map (eL 1 (eL 1 eI)))))),(3,Pt 102 0)],[(101,.mq ([]:bf)),(102,.ao 52 [.row 101])]⟩ rfl ?_))
 obtain ⟨v1,h2,h⟩:=aF h
 refine ab.bZ (v:=v1) (fun (up_1:bf)=>⟨[(3,Pt 102 0)],[(101,.mq up_1),(102,.ao 52 [.row 101])]⟩) (fun z=>z) ?_ ?_
 ·refine ab.seq (ab.aa ?_)
  refine Oc om (Oc (az und41 rfl (List.length_map _)) (Oc om ?_))
  refine ae.ag ⟨[(3,_),(12,.b (.one (.sl 1 (lists0.map (eL 1 (eL 1 eI)))))),(13,I (lists0.length:Int)),(14,I 0)],[(101,_),(102,_)]⟩ rfl (ab.block (ab.b9 h2 (cg fun (up_2:bf) (x_3:Int)=>⟨[(3,Pt 102 0),(12,.b (.one (.sl 1 (lists0.map (eL 1 (eL 1 eI)))))),(13,I (lists0.length:Int)),(14,I x_3)],[(101,.mq up_2),(102,.ao 52 [.row 101])]⟩) [3,12,13,14] [101,102] rfl ?_))
  rintro ⟨up_2,x_3⟩ o3 h4 hy5
  refine ab.seq (ab.aa ?_)
  refine Oc (bh rfl rfl) (ae.ag ⟨[(3,_),(12,_),(13,_),(14,_),(15,B (decide (x_3 < (lists0.length:Int))))],[(101,_),(102,_)]⟩ rfl (ab.seq (ab.ite h4 rfl (fun _ h4=>?_) (fun _ h4=>?_))))
  ·refine ab.skip (Fin.af ⟨[(3,_),(12,_),(13,_),(14,_)],[(101,_),(102,_)]⟩ rfl (Fin.then ?_))
   obtain ⟨v6,h7,h4⟩:=aF h4
   refine ab.bZ (v:=v6) (fun (up_5:bf)=>⟨[(3,Pt 102 0),(12,.b (.one (.sl 1 (lists0.map (eL 1 (eL 1 eI)))))),(13,I (lists0.length:Int)),(14,I x_3)],[(101,.mq up_5),(102,.ao 52 [.row 101])]⟩) (fun z=>z) ?_ ?_
   ·refine ab.block (ab.seq (ab.aa ?_))
    obtain ⟨x_6,e8,h7⟩:=aF h7
    refine Oc (aH iP (aG e8) (aD (e:=(eL 1 (eL 1 eI))) e8) rfl rfl) (Oc (aB tyOne26 rfl rfl) (Oc oa ?_))
    refine ae.ag ⟨[(3,_),(5,.b (.one (.sl 1 (x_6.map (eL 1 eI))))),(12,_),(13,_),(14,_)],[(101,_),(102,_)]⟩ rfl (ab.seq (ab.aa ?_))
    refine Oc om (Oc (az gx rfl (List.length_map _)) (Oc om ?_))
    refine ae.ag ⟨[(3,_),(12,_),(13,_),(14,_),(18,.b (.one (.sl 1 (x_6.map (eL 1 eI))))),(19,I (x_6.length:Int)),(20,I 0)],[(101,_),(102,_)]⟩ rfl (ab.block ?_)
    obtain ⟨v9,h10,h7⟩:=aF h7
    refine ab.b9 h10 (cg fun (up_7:bf) (x_8:Int)=>⟨[(3,Pt 102 0),(12,.b (.one (.sl 1 (lists0.map (eL 1 (eL 1 eI)))))),(13,I (lists0.length:Int)),(14,I x_3),(18,.b (.one (.sl 1 (x_6.map (eL 1 eI))))),(19,I (x_6.length:Int)),(20,I x_8)],[(101,.mq up_7),(102,.ao 52 [.row 101])]⟩) [3,12,13,14,18,19,20] [101,102] rfl ?_
    rintro ⟨up_7,x_8⟩ o11 h12 hy13
    refine ab.seq (ab.aa ?_)
    refine Oc (bh rfl rfl) (ae.ag ⟨[(3,_),(12,_),(13,_),(14,_),(18,_),(19,_),(20,_),(21,B (decide (x_8 < (x_6.length:Int))))],[(101,_),(102,_)]⟩ rfl (ab.seq (ab.ite h12 rfl (fun _ h12=>?_) (fun _ h12=>?_))))
    ·refine ab.skip (Fin.af ⟨[(3,_),(12,_),(13,_),(14,_),(18,_),(19,_),(20,_)],[(101,_),(102,_)]⟩ rfl (Fin.then ?_))
     obtain ⟨v14,h15,h12⟩:=aF h12
     refine ab.bZ (v:=v14) (fun (up_10:bf)=>⟨[(3,Pt 102 0),(12,.b (.one (.sl 1 (lists0.map (eL 1 (eL 1 eI)))))),(13,I (lists0.length:Int)),(14,I x_3),(18,.b (.one (.sl 1 (x_6.map (eL 1 eI))))),(19,I (x_6.length:Int)),(20,I x_8)],[(101,.mq up_10),(102,.ao 52 [.row 101])]⟩) (fun z=>z) ?_ ?_
     ·refine ab.block (ab.seq (ab.aa ?_))
      obtain ⟨x_11,e16,h15⟩:=aF h15
      refine Oc (aH bH (aG e16) (aD (e:=(eL 1 eI)) e16) rfl rfl) (Oc (aB aT rfl rfl) (Oc oa ?_))
      refine ae.ag ⟨[(3,_),(7,.b (.one (.sl 1 (x_11.map eI)))),(12,_),(13,_),(14,_),(18,_),(19,_),(20,_)],[(101,_),(102,_)]⟩ rfl (ab.seq (ab.aa ?_))
      refine Oc om (Oc (az eW rfl (List.length_map _)) (Oc om ?_))
      refine ae.ag ⟨[(3,_),(7,_),(12,_),(13,_),(14,_),(18,_),(19,_),(20,_),(24,.b (.one (.sl 1 (x_11.map eI)))),(25,I (x_11.length:Int)),(26,I 0)],[(101,_),(102,_)]⟩ rfl (ab.block ?_)
      obtain ⟨v17,h18,h15⟩:=aF h15
      refine ab.b9 h18 (cg fun (up_12:bf) (x_13:Int)=>⟨[(3,Pt 102 0),(7,.b (.one (.sl 1 (x_11.map eI)))),(12,.b (.one (.sl 1 (lists0.map (eL 1 (eL 1 eI)))))),(13,I (lists0.length:Int)),(14,I x_3),(18,.b (.one (.sl 1 (x_6.map (eL 1 eI))))),(19,I (x_6.length:Int)),(20,I x_8),(24,.b (.one (.sl 1 (x_11.map eI)))),(25,I (x_11.length:Int)),(26,I x_13)],[(101,.mq up_12),(102,.ao 52 [.row 101])]⟩) [3,7,12,13,14,18,19,20,24,25,26] [101,102] rfl ?_
      rintro ⟨up_12,x_13⟩ o19 h20 hy21
      refine ab.seq (ab.aa ?_)
      refine Oc (bh rfl rfl) (ae.ag ⟨[(3,_),(7,_),(12,_),(13,_),(14,_),(18,_),(19,_),(20,_),(24,_),(25,_),(26,_),(27,B (decide (x_13 < (x_11.length:Int))))],[(101,_),(102,_)]⟩ rfl (ab.seq (ab.ite h20 rfl (fun _ h20=>?_) (fun _ h20=>?_))))
      ·refine ab.skip (Fin.af ⟨[(3,_),(7,_),(12,_),(13,_),(14,_),(18,_),(19,_),(20,_),(24,_),(25,_),(26,_)],[(101,_),(102,_)]⟩ rfl (Fin.then (ab.seq (ab.block (ab.seq (ab.aa ?_))))))
       obtain ⟨x_15,e22,h20⟩:=aF h20
       refine Oc (aH ak (aG e22) (aD (e:=eI) e22) rfl rfl) (Oc (aB ax rfl rfl) (Oc oa ?_))
       refine ae.ag ⟨[(3,_),(7,_),(9,I x_15),(12,_),(13,_),(14,_),(18,_),(19,_),(20,_),(24,_),(25,_),(26,_)],[(101,_),(102,_)]⟩ rfl ?_
       obtain ⟨x_16,e23,h20⟩:=aF h20
       obtain ⟨⟨x_17,x_18⟩,e24,h20⟩:=aF h20
       refine ab.kC mixed 5 [.b (.xa [.row 101]),.b (.one (.sl 1 (x_11.map eI))),.b (.cz [.i x_16]),I x_16,I x_15] [3,7,12,13,14,18,19,20,24,25,26] [101,102] (s':=⟨[(3,_),(7,_),(12,_),(13,_),(14,_),(18,_),(19,_),(20,_),(24,_),(25,_),(26,_)],[(101,.mq x_18),(102,_)]⟩) rfl ⟨fun _=>.p ((cr cA rfl rfl rfl rfl).jP rfl),fun _=>.p om,fun _=>.p (aH ak (aG e23) (aD (e:=eI) e23) rfl rfl),fun _=>.p (aB ax rfl rfl),fun _=>.p om,trivial⟩ ⟨_,by exact .p (bj (own_a:=[(101,_)]) ((dU e24).sw 1 101) qL rfl ⟨rfl,trivial⟩ rfl rfl),rfl⟩ rfl (Fin.ai (Fin.af ⟨[(3,_),(7,_),(12,_),(13,_),(14,_),(18,_),(19,_),(20,_),(24,_),(25,_),(26,_)],[(101,_),(102,_)]⟩ rfl (Fin.then (ab.aa ?_))))
       refine Oc (aX rfl rfl) (Oc om ?_)
       refine ae.nil ?_
       exact Fin.bw [3,7,12,13,14,18,19,20,24,25,26] [101,102] (x_18,IntKind.i64.wrap (x_13 + 1)) (Option.some.inj h20) rfl
      ·refine ab.exit (Fin.ah ?_)
       obtain rfl:=hy21 _ (Option.some.inj h20).symm
       refine Fin.ah (Fin.ay (Fin.ai ?_))
       exact Fin.join [3,12,13,14,18,19,20] [101,102] up_12 (Option.some.inj h15) rfl
     ·rintro up_10 hv
      subst v14
      refine ab.aa (Oc (aX rfl rfl) (Oc om ?_))
      refine ae.nil ?_
      exact Fin.bw [3,12,13,14,18,19,20] [101,102] (up_10,IntKind.i64.wrap (x_8 + 1)) (Option.some.inj h12) rfl
    ·refine ab.exit (Fin.ah ?_)
     obtain rfl:=hy13 _ (Option.some.inj h12).symm
     refine Fin.ah (Fin.ay (Fin.ai ?_))
     exact Fin.join [3,12,13,14] [101,102] up_7 (Option.some.inj h7) rfl
   ·rintro up_5 hv
    subst v6
    refine ab.aa (Oc (aX rfl rfl) (Oc om ?_))
    refine ae.nil ?_
    exact Fin.bw [3,12,13,14] [101,102] (up_5,IntKind.i64.wrap (x_3 + 1)) (Option.some.inj h4) rfl
  ·refine ab.exit (Fin.ah ?_)
   obtain rfl:=hy5 _ (Option.some.inj h4).symm
   refine Fin.ah (Fin.ay ?_)
   exact Fin.join [3] [101,102] up_2 rfl rfl
 ·rintro up_1 hv
  subst v1
  refine ab.seq (ab.aa ?_)
  refine Oc ((cr cA rfl rfl rfl rfl).jP rfl) ?_
  obtain ⟨⟨x_19,x_20⟩,e25,h⟩:=aF h
  refine Oc (bj (own_a:=[(101,_)]) ((dT e25).sw 1 101) oM rfl ⟨rfl,trivial⟩ rfl rfl) (Oc oa ?_)
  refine ae.ag ⟨[(2,.b (.one (.sl 1 (x_19.map (eL 1 eI)))))],[]⟩ rfl (ab.ret ?_)
  obtain rfl:=Option.some.inj h
  refine Fin.af ⟨[(2,_)],[]⟩ rfl (Fin.a6 [.one (.sl 1 (x_19.map (eL 1 eI)))] (.inl rfl) rfl (.cons (.tmp rfl) .nil) ⟨rfl,rfl⟩)
def bo (F:Nat) (a0:List Int) (b0:List Int):Option Bool :=
 if (decide ((a0.length:Int) ≠ (b0.length:Int))) = true then (some false) else (Option.bind (iter F (fun i_1=>if (decide (i_1 < (a0.length:Int))) = true then ((aV a0 i_1).bind fun x_2=>(aV b0 i_1).bind fun x_3=>if (decide (x_2 ≠ x_3)) = true then (some (.inr (.inr false))) else (some (.inl (IntKind.i64.wrap (i_1 + 1))))) else (some (.inr (.inl ())))) 0) (iH (fun _=>some true) (fun y=>some y)))
theorem bN {F:Nat} {a0:List Int} {b0:List Int} {r:Bool} (h:bo F a0 b0 = some r):ar Try.prog [] 19 [] [.one (.sl 1 (a0.map eI)),.one (.sl 1 (b0.map eI))] (Is [] (.b (.one (.bool r)))):=by
 unfold bo at h
 refine ar.intro 26 Try.func19 Try.ntmps19 rfl (by simp) fun E=>?_
 show ab _ E ⟨26,[],[],[]⟩ _ ⟨[(0,.b (.one (.sl 1 (a0.map eI)))),(1,.b (.one (.sl 1 (b0.map eI))))],[]⟩ _
 refine ab.seq (ab.aa ?_)
 refine Oc oa (ae.ag ⟨[(0,.b (.one (.sl 1 (a0.map eI)))),(1,.b (.one (.sl 1 (b0.map eI))))],[]⟩ rfl (ab.seq (ab.seq (ab.aa ?_))))
 refine Oc om (Oc (az eW rfl (List.length_map _)) (Oc om (Oc (az eW rfl (List.length_map _)) (Oc (kY rfl rfl) ?_))))
 refine ae.ag ⟨[(0,_),(1,_),(10,B (decide ((a0.length:Int) ≠ (b0.length:Int))))],[]⟩ rfl (ab.ite h rfl (fun _ h=>?_) (fun _ h=>?_))
 ·refine ab.seq (ab.aa ?_)
  refine Oc oa (ae.ag ⟨[(4,B false)],[]⟩ rfl (ab.ret (Fin.aO ?_)))
  obtain rfl:=Option.some.inj h
  refine Fin.af ⟨[(4,_)],[]⟩ rfl (Fin.a6 [.one (.bool false)] (.inl rfl) rfl (.cons (.tmp rfl) .nil) ⟨rfl,rfl⟩)
 ·refine ab.skip (Fin.af ⟨[(0,_),(1,_)],[]⟩ rfl (Fin.then ?_))
  obtain ⟨v1,h2,h⟩:=aF h
  refine ab.bZ (v:=v1) (fun (_:Unit)=>⟨[],[]⟩) (fun z=>.inl z) ?_ ?_
  ·refine ab.seq (ab.aa ?_)
   refine Oc oa (ae.ag ⟨[(0,_),(1,_),(5,I 0)],[]⟩ rfl (ab.block (ab.b9 h2 (fun (i_1:Int)=>⟨[(0,.b (.one (.sl 1 (a0.map eI)))),(1,.b (.one (.sl 1 (b0.map eI)))),(5,I i_1)],[]⟩) [0,1,5] [] rfl ?_)))
   rintro i_1 o3 h4 hy5
   refine ab.seq (ab.seq (ab.aa ?_))
   refine Oc om (Oc om (Oc (az eW rfl (List.length_map _)) (Oc (bh rfl rfl) ?_)))
   refine ae.ag ⟨[(0,_),(1,_),(5,_),(14,B (decide (i_1 < (a0.length:Int))))],[]⟩ rfl (ab.ite h4 rfl (fun _ h4=>?_) (fun _ h4=>?_))
   ·refine ab.skip (Fin.af ⟨[(0,_),(1,_),(5,_)],[]⟩ rfl (Fin.then (ab.seq (ab.block (ab.seq ?_)))))
    refine ab.af ⟨[(0,_),(1,_),(5,_)],[]⟩ rfl ?_
    obtain ⟨x_2,e6,h4⟩:=aF h4
    obtain ⟨x_3,e7,h4⟩:=aF h4
    refine ab.dz mixed 9 [.b (.one (.sl 1 (a0.map eI))),I i_1,.b (.cz [.i x_2]),I x_2,.b (.one (.sl 1 (b0.map eI))),I i_1,.b (.cz [.i x_3]),I x_3,B (decide (x_2 ≠ x_3))] [0,1,5,25] [] (s':=⟨[(0,_),(1,_),(5,_),(25,B (decide (x_2 ≠ x_3)))],[]⟩) rfl ⟨fun _=>.p om,fun _=>.p om,fun _=>.p (aH ak (aG e6) (aD (e:=eI) e6) rfl rfl),fun _=>.p (aB ax rfl rfl),fun _=>.p om,fun _=>.p om,fun _=>.p (aH ak (aG e7) (aD (e:=eI) e7) rfl rfl),fun _=>.p (aB ax rfl rfl),fun _=>.p (kY rfl rfl),trivial⟩ rfl rfl (ab.ite h4 rfl (fun _ h4=>?_) (fun _ h4=>?_))
    ·refine ab.seq (ab.aa ?_)
     refine Oc oa (ae.ag ⟨[(4,B false)],[]⟩ rfl (ab.ret (Fin.cC (Fin.aO ?_))))
     obtain rfl:=hy5 _ (Option.some.inj h4).symm
     refine Fin.aO (Fin.cC (Fin.aO ?_))
     obtain rfl:=Option.some.inj h
     refine Fin.af ⟨[(4,_)],[]⟩ rfl (Fin.a6 [.one (.bool false)] (.inl rfl) rfl (.cons (.tmp rfl) .nil) ⟨rfl,rfl⟩)
    ·refine ab.skip (Fin.ai (Fin.af ⟨[(0,_),(1,_),(5,_)],[]⟩ rfl (Fin.then (ab.aa ?_))))
     refine Oc om (Oc (aX rfl rfl) (Oc oa ?_))
     refine ae.nil ?_
     exact Fin.bw [0,1,5] [] (IntKind.i64.wrap (i_1 + 1)) (Option.some.inj h4) rfl
   ·refine ab.exit (Fin.ah ?_)
    obtain rfl:=hy5 _ (Option.some.inj h4).symm
    refine Fin.ah (Fin.ay ?_)
    exact Fin.join [] [] () rfl rfl
  ·rintro _ hv
   subst v1
   refine ab.seq (ab.aa ?_)
   refine Oc oa (ae.ag ⟨[(4,B true)],[]⟩ rfl (ab.ret ?_))
   obtain rfl:=Option.some.inj h
   refine Fin.af ⟨[(4,_)],[]⟩ rfl (Fin.a6 [.one (.bool true)] (.inl rfl) rfl (.cons (.tmp rfl) .nil) ⟨rfl,rfl⟩)
def aL (F:Nat) (a0:List (List Int)) (b0:List (List Int)):Option Bool :=
 if (decide ((a0.length:Int) ≠ (b0.length:Int))) = true then (some false) else (Option.bind (iter F (fun i_1=>if (decide (i_1 < (a0.length:Int))) = true then ((aV a0 i_1).bind fun x_2=>(aV b0 i_1).bind fun x_3=>(bo F x_2 x_3).bind fun x_4=>if (!x_4) = true then (some (.inr (.inr false))) else (some (.inl (IntKind.i64.wrap (i_1 + 1))))) else (some (.inr (.inl ())))) 0) (iH (fun _=>some true) (fun y=>some y)))
theorem bm {F:Nat} {a0:List (List Int)} {b0:List (List Int)} {r:Bool} (h:aL F a0 b0 = some r):ar Try.prog [] 18 [] [.one (.sl 1 (a0.map (eL 1 eI))),.one (.sl 1 (b0.map (eL 1 eI)))] (Is [] (.b (.one (.bool r)))):=by
 unfold aL at h
 refine ar.intro 27 Try.func18 Try.ntmps18 rfl (by simp) fun E=>?_
 show ab _ E ⟨27,[],[],[]⟩ _ ⟨[(0,.b (.one (.sl 1 (a0.map (eL 1 eI))))),(1,.b (.one (.sl 1 (b0.map (eL 1 eI)))))],[]⟩ _
 refine ab.seq (ab.aa ?_)
 refine Oc oa (ae.ag ⟨[(0,.b (.one (.sl 1 (a0.map (eL 1 eI))))),(1,.b (.one (.sl 1 (b0.map (eL 1 eI)))))],[]⟩ rfl (ab.seq (ab.seq (ab.aa ?_))))
 refine Oc om (Oc (az gx rfl (List.length_map _)) (Oc om (Oc (az gx rfl (List.length_map _)) (Oc (kY rfl rfl) ?_))))
 refine ae.ag ⟨[(0,_),(1,_),(10,B (decide ((a0.length:Int) ≠ (b0.length:Int))))],[]⟩ rfl (ab.ite h rfl (fun _ h=>?_) (fun _ h=>?_))
 ·refine ab.seq (ab.aa ?_)
  refine Oc oa (ae.ag ⟨[(4,B false)],[]⟩ rfl (ab.ret (Fin.aO ?_)))
  obtain rfl:=Option.some.inj h
  refine Fin.af ⟨[(4,_)],[]⟩ rfl (Fin.a6 [.one (.bool false)] (.inl rfl) rfl (.cons (.tmp rfl) .nil) ⟨rfl,rfl⟩)
 ·refine ab.skip (Fin.af ⟨[(0,_),(1,_)],[]⟩ rfl (Fin.then ?_))
  obtain ⟨v1,h2,h⟩:=aF h
  refine ab.bZ (v:=v1) (fun (_:Unit)=>⟨[],[]⟩) (fun z=>.inl z) ?_ ?_
  ·refine ab.seq (ab.aa ?_)
   refine Oc oa (ae.ag ⟨[(0,_),(1,_),(5,I 0)],[]⟩ rfl (ab.block (ab.b9 h2 (fun (i_1:Int)=>⟨[(0,.b (.one (.sl 1 (a0.map (eL 1 eI))))),(1,.b (.one (.sl 1 (b0.map (eL 1 eI))))),(5,I i_1)],[]⟩) [0,1,5] [] rfl ?_)))
   rintro i_1 o3 h4 hy5
   refine ab.seq (ab.seq (ab.aa ?_))
   refine Oc om (Oc om (Oc (az gx rfl (List.length_map _)) (Oc (bh rfl rfl) ?_)))
   refine ae.ag ⟨[(0,_),(1,_),(5,_),(14,B (decide (i_1 < (a0.length:Int))))],[]⟩ rfl (ab.ite h4 rfl (fun _ h4=>?_) (fun _ h4=>?_))
   ·refine ab.skip (Fin.af ⟨[(0,_),(1,_),(5,_)],[]⟩ rfl (Fin.then (ab.seq (ab.block (ab.seq ?_)))))
    refine ab.af ⟨[(0,_),(1,_),(5,_)],[]⟩ rfl ?_
    obtain ⟨x_2,e6,h4⟩:=aF h4
    obtain ⟨x_3,e7,h4⟩:=aF h4
    obtain ⟨x_4,e8,h4⟩:=aF h4
    refine ab.dz mixed 10 [.b (.one (.sl 1 (a0.map (eL 1 eI)))),I i_1,.b (.cz [.sl 1 (x_2.map eI)]),.b (.one (.sl 1 (x_2.map eI))),.b (.one (.sl 1 (b0.map (eL 1 eI)))),I i_1,.b (.cz [.sl 1 (x_3.map eI)]),.b (.one (.sl 1 (x_3.map eI))),B x_4,B (!x_4)] [0,1,5,26] [] (s':=⟨[(0,_),(1,_),(5,_),(26,B (!x_4))],[]⟩) rfl ⟨fun _=>.p om,fun _=>.p om,fun _=>.p (aH bH (aG e6) (aD (e:=(eL 1 eI)) e6) rfl rfl),fun _=>.p (aB aT rfl rfl),fun _=>.p om,fun _=>.p om,fun _=>.p (aH bH (aG e7) (aD (e:=(eL 1 eI)) e7) rfl rfl),fun _=>.p (aB aT rfl rfl),fun _=>.p (aP (bN e8) k7 rfl rfl),fun _=>.p (dg rfl),trivial⟩ rfl rfl (ab.ite h4 rfl (fun _ h4=>?_) (fun _ h4=>?_))
    ·refine ab.seq (ab.aa ?_)
     refine Oc oa (ae.ag ⟨[(4,B false)],[]⟩ rfl (ab.ret (Fin.cC (Fin.aO ?_))))
     obtain rfl:=hy5 _ (Option.some.inj h4).symm
     refine Fin.aO (Fin.cC (Fin.aO ?_))
     obtain rfl:=Option.some.inj h
     refine Fin.af ⟨[(4,_)],[]⟩ rfl (Fin.a6 [.one (.bool false)] (.inl rfl) rfl (.cons (.tmp rfl) .nil) ⟨rfl,rfl⟩)
    ·refine ab.skip (Fin.ai (Fin.af ⟨[(0,_),(1,_),(5,_)],[]⟩ rfl (Fin.then (ab.aa ?_))))
     refine Oc om (Oc (aX rfl rfl) (Oc oa ?_))
     refine ae.nil ?_
     exact Fin.bw [0,1,5] [] (IntKind.i64.wrap (i_1 + 1)) (Option.some.inj h4) rfl
   ·refine ab.exit (Fin.ah ?_)
    obtain rfl:=hy5 _ (Option.some.inj h4).symm
    refine Fin.ah (Fin.ay ?_)
    exact Fin.join [] [] () rfl rfl
  ·rintro _ hv
   subst v1
   refine ab.seq (ab.aa ?_)
   refine Oc oa (ae.ag ⟨[(4,B true)],[]⟩ rfl (ab.ret ?_))
   obtain rfl:=Option.some.inj h
   refine Fin.af ⟨[(4,_)],[]⟩ rfl (Fin.a6 [.one (.bool true)] (.inl rfl) rfl (.cons (.tmp rfl) .nil) ⟨rfl,rfl⟩)
def bF (F:Nat):Option Bool :=
 Option.bind (fy F [true,false,false,false,false,false,false] [(⟨0,1⟩:A2),(⟨1,2⟩:A2),(⟨2,3⟩:A2),(⟨1,3⟩:A2),(⟨4,5⟩:A2),(⟨0,4⟩:A2)]) (cg fun x_1 x_2=>Option.bind (dY F [true,false,false,false,false,false,false] [(⟨0,1⟩:A2),(⟨1,2⟩:A2),(⟨2,3⟩:A2),(⟨1,3⟩:A2),(⟨4,5⟩:A2),(⟨0,4⟩:A2)]) (cg fun x_3 x_4=>Option.bind (eQ F [true,false,false,false,false,false,false] [(⟨0,1⟩:A2),(⟨1,2⟩:A2),(⟨2,3⟩:A2),(⟨1,3⟩:A2),(⟨4,5⟩:A2),(⟨0,4⟩:A2)]) (cg fun x_5 x_6=>Option.bind (fI F [true,false,false,false,false,false,false] [(⟨0,1⟩:A2),(⟨1,2⟩:A2),(⟨2,3⟩:A2),(⟨1,3⟩:A2),(⟨4,5⟩:A2),(⟨0,4⟩:A2)]) (cg fun x_7 x_8=>Option.bind (dO F [true,false,false,false,false,false,false] [(⟨0,1⟩:A2),(⟨1,2⟩:A2),(⟨2,3⟩:A2),(⟨1,3⟩:A2),(⟨4,5⟩:A2),(⟨0,4⟩:A2)]) (cg fun x_9 x_10=>(df [(⟨0,1⟩:A2),(⟨1,2⟩:A2),(⟨2,3⟩:A2),(⟨1,3⟩:A2),(⟨4,5⟩:A2),(⟨0,4⟩:A2)] [(⟨3,6⟩:A2)]).bind fun x_11=>Option.bind (fw F [true,false,false,false,false,false,false] x_11) (cg fun x_12 x_13=>(a8 F [[[1,2],[4,5]],[[2,3],[6]]]).bind fun x_14=>fB (((decide (x_2 = 0)) && (decide (x_4 = 0))) && (decide (x_6 = 0))) fun x_15=>fB (((x_15 && (decide (x_8 = 0))) && (decide (x_10 = 0))) && (decide (x_13 = 0))) fun x_16=>(cw x_16 (aL F x_1 [[1,2,3],[4,5],[6]])).bind fun x_17=>(cw (x_16 && x_17) (bo F x_3 [0,1,2,2,1,2,(-1)])).bind fun x_18=>(cw ((x_16 && x_17) && x_18) (bo F x_5 [1,2,3,4,5,6])).bind fun x_19=>(cw (((x_16 && x_17) && x_18) && x_19) (bo F x_7 [1,2,4])).bind fun x_20=>(cw ((((x_16 && x_17) && x_18) && x_19) && x_20) (bo F x_9 [4])).bind fun x_21=>(cw (((((x_16 && x_17) && x_18) && x_19) && x_20) && x_21) (bo F x_12 [3])).bind fun x_22=>fB ((((((x_16 && x_17) && x_18) && x_19) && x_20) && x_21) && x_22) fun x_23=>(cw x_23 (aL F x_14 [[1,2,3],[4,5],[6]])).bind fun x_24=>some (x_23 && x_24)))))))
theorem cQ {F:Nat} {r:Bool} (h:bF F = some r):ar Try.prog [] 11 [] [] (Is [] (.b (.one (.bool r)))):=by
 unfold bF at h
 refine ar.intro 135 Try.func11 Try.ntmps11 rfl (by simp) fun E=>?_
 show ab _ E ⟨135,[],[],[]⟩ _ ⟨[],[]⟩ _
 refine ab.seq (ab.aa ?_)
 refine Oc oa (ae.ag ⟨[],[]⟩ rfl (ab.seq (ab.aa ?_)))
 refine Oc (jh (es:=[true,false,false,false,false,false,false].map eB) kX rfl rfl (aS fun _=>rfl) rfl (by decide) (by decide)) (Oc oa ?_)
 refine ae.ag ⟨[(1,.b (.one (.slf 1 ([true,false,false,false,false,false,false].map eB))))],[]⟩ rfl (ab.seq (ab.aa ?_))
 refine Oc (fe fb rfl rfl) (Oc (fe fb rfl rfl) (Oc (fe fb rfl rfl) (Oc (fe fb rfl rfl) (Oc (fe fb rfl rfl) (Oc (fe fb rfl rfl) ?_)))))
 refine Oc (jh (es:=[(⟨0,1⟩:A2),(⟨1,2⟩:A2),(⟨2,3⟩:A2),(⟨1,3⟩:A2),(⟨4,5⟩:A2),(⟨0,4⟩:A2)].map (cR .i64)) hU rfl rfl (aS fun _=>rfl) rfl (by decide) (by decide)) (Oc oa ?_)
 refine ae.ag ⟨[(1,_),(2,.b (.one (.slf 2 ([(⟨0,1⟩:A2),(⟨1,2⟩:A2),(⟨2,3⟩:A2),(⟨1,3⟩:A2),(⟨4,5⟩:A2),(⟨0,4⟩:A2)].map (cR .i64)))))],[]⟩ rfl (ab.seq (ab.aa ?_))
 refine Oc om (Oc om ?_)
 refine ae.ga 27 rfl (ae.ga 28 rfl (ae.af ⟨[(1,_),(2,_),(27,.b (.one (.sl 1 ([true,false,false,false,false,false,false].map eB)))),(28,.b (.one (.sl 2 ([(⟨0,1⟩:A2),(⟨1,2⟩:A2),(⟨2,3⟩:A2),(⟨1,3⟩:A2),(⟨4,5⟩:A2),(⟨0,4⟩:A2)].map (cR .i64)))))],[]⟩ rfl ?_))
 obtain ⟨⟨x_1,x_2⟩,e1,h⟩:=aF h
 refine Oc (aP (lC e1) qR rfl rfl) (Oc om (Oc (aM rfl rfl) (Oc (aM rfl rfl) (Oc oa (Oc oa ?_)))))
 refine ae.ag ⟨[(1,_),(2,_),(3,.b (.one (.sl 1 (x_1.map (eL 1 eI))))),(4,I x_2)],[]⟩ rfl (ab.seq (ab.aa ?_))
 refine Oc om (Oc om ?_)
 refine ae.ga 33 rfl (ae.ga 34 rfl (ae.af ⟨[(1,_),(2,_),(3,_),(4,_),(33,.b (.one (.sl 1 ([true,false,false,false,false,false,false].map eB)))),(34,.b (.one (.sl 2 ([(⟨0,1⟩:A2),(⟨1,2⟩:A2),(⟨2,3⟩:A2),(⟨1,3⟩:A2),(⟨4,5⟩:A2),(⟨0,4⟩:A2)].map (cR .i64)))))],[]⟩ rfl ?_))
 obtain ⟨⟨x_3,x_4⟩,e2,h⟩:=aF h
 refine Oc (bj (gn 103 e2) qQ rfl trivial rfl rfl) (Oc om (Oc (aM rfl rfl) (Oc (aM rfl rfl) (Oc oa (Oc oa ?_)))))
 refine ae.ag ⟨[(1,_),(2,_),(3,_),(4,_),(5,.b (.row 103)),(6,I x_4)],[(103,.row 3 1 (x_3.map eI))]⟩ rfl (ab.seq (ab.aa ?_))
 refine Oc om (Oc om ?_)
 refine ae.ga 39 rfl (ae.ga 40 rfl (ae.af ⟨[(1,_),(2,_),(3,_),(4,_),(5,_),(6,_),(39,.b (.one (.sl 1 ([true,false,false,false,false,false,false].map eB)))),(40,.b (.one (.sl 2 ([(⟨0,1⟩:A2),(⟨1,2⟩:A2),(⟨2,3⟩:A2),(⟨1,3⟩:A2),(⟨4,5⟩:A2),(⟨0,4⟩:A2)].map (cR .i64)))))],[(103,_)]⟩ rfl ?_))
 obtain ⟨⟨x_5,x_6⟩,e3,h⟩:=aF h
 refine Oc (aP (kS e3) goes14 rfl rfl) (Oc om (Oc (aM rfl rfl) (Oc (aM rfl rfl) (Oc oa (Oc oa ?_)))))
 refine ae.ag ⟨[(1,_),(2,_),(3,_),(4,_),(5,_),(6,_),(7,.b (.one (.sl 1 (x_5.map eI)))),(8,I x_6)],[(103,_)]⟩ rfl (ab.seq (ab.aa ?_))
 refine Oc om (Oc om ?_)
 refine ae.ga 45 rfl (ae.ga 46 rfl (ae.af ⟨[(1,_),(2,_),(3,_),(4,_),(5,_),(6,_),(7,_),(8,_),(45,.b (.one (.sl 1 ([true,false,false,false,false,false,false].map eB)))),(46,.b (.one (.sl 2 ([(⟨0,1⟩:A2),(⟨1,2⟩:A2),(⟨2,3⟩:A2),(⟨1,3⟩:A2),(⟨4,5⟩:A2),(⟨0,4⟩:A2)].map (cR .i64)))))],[(103,_)]⟩ rfl ?_))
 obtain ⟨⟨x_7,x_8⟩,e4,h⟩:=aF h
 refine Oc (bj (kf 104 e4) goes20 rfl trivial rfl rfl) (Oc om (Oc (aM rfl rfl) (Oc (aM rfl rfl) (Oc oa (Oc oa ?_)))))
 refine ae.ag ⟨[(1,_),(2,_),(3,_),(4,_),(5,_),(6,_),(7,_),(8,_),(9,.b (.row 104)),(10,I x_8)],[(103,_),(104,.row 3 1 (x_7.map eI))]⟩ rfl (ab.seq (ab.aa ?_))
 refine Oc om (Oc om ?_)
 refine ae.ga 51 rfl (ae.ga 52 rfl (ae.af ⟨[(1,_),(2,_),(3,_),(4,_),(5,_),(6,_),(7,_),(8,_),(9,_),(10,_),(51,.b (.one (.sl 1 ([true,false,false,false,false,false,false].map eB)))),(52,.b (.one (.sl 2 ([(⟨0,1⟩:A2),(⟨1,2⟩:A2),(⟨2,3⟩:A2),(⟨1,3⟩:A2),(⟨4,5⟩:A2),(⟨0,4⟩:A2)].map (cR .i64)))))],[(103,_),(104,_)]⟩ rfl ?_))
 obtain ⟨⟨x_9,x_10⟩,e5,h⟩:=aF h
 refine Oc (aP (jD e5) goes22 rfl rfl) (Oc om (Oc (aM rfl rfl) (Oc (aM rfl rfl) (Oc oa (Oc oa ?_)))))
 refine ae.ag ⟨[(1,_),(2,_),(3,_),(4,_),(5,_),(6,_),(7,_),(8,_),(9,_),(10,_),(11,.b (.one (.sl 1 (x_9.map eI)))),(12,I x_10)],[(103,_),(104,_)]⟩ rfl (ab.seq (ab.aa ?_))
 refine Oc om (Oc om (Oc (fe fb rfl rfl) (Oc (au (k:=105) (es:=[(⟨3,6⟩:A2)].map (cR .i64)) hU rfl rfl (aS fun _=>rfl) rfl (by decide) (by decide) rfl) ?_)))
 obtain ⟨x_11,e6,h⟩:=aF h
 refine Oc (ot (k:=106) hU (c7 e6) (c6 e6) (Nat.le_of_ble_eq_true rfl) rfl rfl rfl (bW e6) rfl) (ae.ga 57 rfl (ae.bA 106 rfl (ae.af ⟨[(3,.b (.one (.sl 1 (x_1.map (eL 1 eI))))),(4,I x_2),(5,.b (.row 103)),(6,I x_4),(7,.b (.one (.sl 1 (x_5.map eI)))),(8,I x_6),(9,.b (.row 104)),(10,I x_8),(11,.b (.one (.sl 1 (x_9.map eI)))),(12,I x_10),(57,.b (.one (.sl 1 ([true,false,false,false,false,false,false].map eB)))),(60,.b (.row 105)),(61,.b (.one (.sl 2 (x_11.map (cR .i64)))))],[(103,.row 3 1 (x_3.map eI)),(104,.row 3 1 (x_7.map eI)),(105,.row 44 2 ([(⟨3,6⟩:A2)].map (cR .i64)))]⟩ rfl ?_)))
 obtain ⟨⟨x_12,x_13⟩,e7,h⟩:=aF h
 refine Oc (aP (lB e7) goes21 rfl rfl) (Oc om (Oc (aM rfl rfl) (Oc (aM rfl rfl) (Oc oa (Oc oa ?_)))))
 refine ae.ag ⟨[(3,_),(4,_),(5,_),(6,_),(7,_),(8,_),(9,_),(10,_),(11,_),(12,_),(13,.b (.one (.sl 1 (x_12.map eI)))),(14,I x_13)],[(103,_),(104,_)]⟩ rfl (ab.seq (ab.aa ?_))
 refine Oc (au (k:=107) (es:=[1,2].map eI) ak rfl rfl (aS fun _=>rfl) rfl (by decide) (by decide) rfl) (Oc (au (k:=108) (es:=[4,5].map eI) ak rfl rfl (aS fun _=>rfl) rfl (by decide) (by decide) rfl) ?_)
 refine ae.bA 107 rfl (ae.bA 108 rfl (ae.af ⟨[(3,.b (.one (.sl 1 (x_1.map (eL 1 eI))))),(4,I x_2),(5,.b (.row 103)),(6,I x_4),(7,.b (.one (.sl 1 (x_5.map eI)))),(8,I x_6),(9,.b (.row 104)),(10,I x_8),(11,.b (.one (.sl 1 (x_9.map eI)))),(12,I x_10),(13,.b (.one (.sl 1 (x_12.map eI)))),(14,I x_13),(65,.b (.one (.sl 1 ([1,2].map eI)))),(66,.b (.one (.sl 1 ([4,5].map eI))))],[(103,.row 3 1 (x_3.map eI)),(104,.row 3 1 (x_7.map eI))]⟩ rfl (Oc (au (k:=109) (es:=[[1,2],[4,5]].map (eL 1 eI)) bH rfl rfl (aS fun _=>rfl) rfl (by decide) (by decide) rfl) (Oc (au (k:=110) (es:=[2,3].map eI) ak rfl rfl (aS fun _=>rfl) rfl (by decide) (by decide) rfl) (Oc (au (k:=111) (es:=[6].map eI) ak rfl rfl (aS fun _=>rfl) rfl (by decide) (by decide) rfl) ?_)))))
 refine ae.bA 110 rfl (ae.bA 111 rfl (ae.af ⟨[(3,.b (.one (.sl 1 (x_1.map (eL 1 eI))))),(4,I x_2),(5,.b (.row 103)),(6,I x_4),(7,.b (.one (.sl 1 (x_5.map eI)))),(8,I x_6),(9,.b (.row 104)),(10,I x_8),(11,.b (.one (.sl 1 (x_9.map eI)))),(12,I x_10),(13,.b (.one (.sl 1 (x_12.map eI)))),(14,I x_13),(67,.b (.row 109)),(68,.b (.one (.sl 1 ([2,3].map eI)))),(69,.b (.one (.sl 1 ([6].map eI))))],[(103,.row 3 1 (x_3.map eI)),(104,.row 3 1 (x_7.map eI)),(109,.row 30 1 ([[1,2],[4,5]].map (eL 1 eI)))]⟩ rfl (Oc (au (k:=112) (es:=[[2,3],[6]].map (eL 1 eI)) bH rfl rfl (aS fun _=>rfl) rfl (by decide) (by decide) rfl) (ae.bA 109 rfl (ae.bA 112 rfl ?_)))))
 refine Oc (au (k:=113) (es:=[[[1,2],[4,5]],[[2,3],[6]]].map (eL 1 (eL 1 eI))) iP rfl rfl (aS fun _=>rfl) rfl (by decide) (by decide) rfl) (ae.bA 113 rfl ?_)
 obtain ⟨x_14,e8,h⟩:=aF h
 refine Oc (aP (cD e8) k6 rfl rfl) (Oc oa ?_)
 refine ae.ag ⟨[(3,.b (.one (.sl 1 (x_1.map (eL 1 eI))))),(4,I x_2),(5,.b (.row 103)),(6,I x_4),(7,.b (.one (.sl 1 (x_5.map eI)))),(8,I x_6),(9,.b (.row 104)),(10,I x_8),(11,.b (.one (.sl 1 (x_9.map eI)))),(12,I x_10),(13,.b (.one (.sl 1 (x_12.map eI)))),(14,I x_13),(15,.b (.one (.sl 1 (x_14.map (eL 1 eI)))))],[(103,.row 3 1 (x_3.map eI)),(104,.row 3 1 (x_7.map eI))]⟩ rfl (ab.seq (ab.aa ?_))
 refine Oc (au (k:=114) (es:=[1,2,3].map eI) ak rfl rfl (aS fun _=>rfl) rfl (by decide) (by decide) rfl) (Oc (au (k:=115) (es:=[4,5].map eI) ak rfl rfl (aS fun _=>rfl) rfl (by decide) (by decide) rfl) (Oc (au (k:=116) (es:=[6].map eI) ak rfl rfl (aS fun _=>rfl) rfl (by decide) (by decide) rfl) ?_))
 refine ae.bA 114 rfl (ae.bA 115 rfl (ae.bA 116 rfl (Oc (au (k:=117) (es:=[[1,2,3],[4,5],[6]].map (eL 1 eI)) bH rfl rfl (aS fun _=>rfl) rfl (by decide) (by decide) rfl) (Oc oa ?_))))
 refine ae.ag ⟨[(3,.b (.one (.sl 1 (x_1.map (eL 1 eI))))),(4,I x_2),(5,.b (.row 103)),(6,I x_4),(7,.b (.one (.sl 1 (x_5.map eI)))),(8,I x_6),(9,.b (.row 104)),(10,I x_8),(11,.b (.one (.sl 1 (x_9.map eI)))),(12,I x_10),(13,.b (.one (.sl 1 (x_12.map eI)))),(14,I x_13),(15,.b (.one (.sl 1 (x_14.map (eL 1 eI))))),(16,.b (.row 117))],[(103,.row 3 1 (x_3.map eI)),(104,.row 3 1 (x_7.map eI)),(117,.row 30 1 ([[1,2,3],[4,5],[6]].map (eL 1 eI)))]⟩ rfl (ab.seq (ab.aa ?_))
 refine Oc om (Oc (dB rfl rfl) (Oc om ?_))
 refine cX (decide (x_2 = 0)) [] (fun g9=>trivial) (fun g9=>om) (cX (decide (x_2 = 0)) [80] (fun g10=>by exact ⟨g10,trivial⟩) (fun g10=>dB rfl rfl) (Oc (aY (fun e=>e) rfl rfl rfl rfl) (Oc om ?_)))
 refine ae.af ⟨[(3,_),(5,_),(7,_),(8,_),(9,_),(10,_),(11,_),(12,_),(13,_),(14,_),(15,_),(16,_),(83,B ((decide (x_2 = 0)) && (decide (x_4 = 0))))],[(103,_),(104,_),(117,_)]⟩ rfl (cX ((decide (x_2 = 0)) && (decide (x_4 = 0))) [] (fun g11=>trivial) (fun g11=>om) (cX ((decide (x_2 = 0)) && (decide (x_4 = 0))) [84] (fun g12=>by exact ⟨g12,trivial⟩) (fun g12=>dB rfl rfl) (ae.lY h rfl (aY (fun e=>e) rfl rfl rfl rfl) (fun x_15 h=>?_))))
 refine Oc om (cX x_15 [] (fun g13=>by exact trivial) (fun g13=>om) (cX x_15 [88] (fun g14=>by exact ⟨g14,trivial⟩) (fun g14=>dB rfl rfl) (Oc (aY (fun e=>e) rfl rfl rfl rfl) (Oc om ?_))))
 refine ae.af ⟨[(3,_),(5,_),(7,_),(9,_),(11,_),(12,_),(13,_),(14,_),(15,_),(16,_),(91,B (x_15 && (decide (x_8 = 0))))],[(103,_),(104,_),(117,_)]⟩ rfl (cX (x_15 && (decide (x_8 = 0))) [] (fun g15=>trivial) (fun g15=>om) (cX (x_15 && (decide (x_8 = 0))) [92] (fun g16=>by exact ⟨g16,trivial⟩) (fun g16=>dB rfl rfl) (Oc (aY (fun e=>e) rfl rfl rfl rfl) (Oc om ?_))))
 refine cX ((x_15 && (decide (x_8 = 0))) && (decide (x_10 = 0))) [] (fun g17=>trivial) (fun g17=>om) (cX ((x_15 && (decide (x_8 = 0))) && (decide (x_10 = 0))) [96] (fun g18=>by exact ⟨g18,trivial⟩) (fun g18=>dB rfl rfl) (ae.lY h rfl (aY (fun e=>e) rfl rfl rfl rfl) (fun x_16 h=>?_)))
 refine Oc oa (ae.ag ⟨[(3,_),(5,_),(7,_),(9,_),(11,_),(13,_),(15,_),(16,_),(17,B x_16)],[(103,_),(104,_),(117,_)]⟩ rfl (ab.seq (ab.aa ?_)))
 refine Oc om (Oc om ?_)
 refine cX x_16 [] (fun g19=>trivial) (fun g19=>om) (cX x_16 [] (fun g20=>by exact trivial) (fun g20=>om) ?_)
 obtain ⟨x_17,e22,h⟩:=aF h
 refine cX x_16 [101,102] (fun g21=>⟨g21,g21,trivial⟩) (fun g21=>fE (bm (gc e22 g21)) jX rfl CP.ey) (ae.af ⟨[(5,_),(7,_),(9,_),(11,_),(13,_),(15,_),(16,_),(100,B x_16),(103,.opt x_16 (.one (.bool x_17)))],[(103,_),(104,_),(117,_)]⟩ rfl (Oc (aY (fun e=>e) rfl rfl rfl rfl) (Oc om ?_)))
 refine cX (x_16 && x_17) [] (fun g23=>trivial) (fun g23=>om) (cX (x_16 && x_17) [] (fun g24=>by exact trivial) (fun g24=>bC (es:=[0,1,2,2,1,2,(-1)].map eI) ak rfl rfl (aS fun _=>rfl) rfl (by decide) (by decide)) ?_)
 obtain ⟨x_18,e26,h⟩:=aF h
 refine cX (x_16 && x_17) [106,107] (fun g25=>⟨g25,g25,trivial⟩) (fun g25=>fE (bN (gc e26 g25)) k7 rfl CP.ey) (ae.af ⟨[(7,_),(9,_),(11,_),(13,_),(15,_),(16,_),(105,B (x_16 && x_17)),(108,.opt (x_16 && x_17) (.one (.bool x_18)))],[(104,_),(117,_)]⟩ rfl (Oc (aY (fun e=>e) rfl rfl rfl rfl) (Oc om ?_)))
 refine cX ((x_16 && x_17) && x_18) [] (fun g27=>trivial) (fun g27=>om) (cX ((x_16 && x_17) && x_18) [] (fun g28=>by exact trivial) (fun g28=>bC (es:=[1,2,3,4,5,6].map eI) ak rfl rfl (aS fun _=>rfl) rfl (by decide) (by decide)) ?_)
 obtain ⟨x_19,e30,h⟩:=aF h
 refine cX ((x_16 && x_17) && x_18) [111,112] (fun g29=>⟨g29,g29,trivial⟩) (fun g29=>aP (bN (gc e30 g29)) k7 rfl rfl) (ae.af ⟨[(9,_),(11,_),(13,_),(15,_),(16,_),(110,B ((x_16 && x_17) && x_18)),(113,.opt ((x_16 && x_17) && x_18) (.one (.bool x_19)))],[(104,_),(117,_)]⟩ rfl (Oc (aY (fun e=>e) rfl rfl rfl rfl) (Oc om ?_)))
 refine cX (((x_16 && x_17) && x_18) && x_19) [] (fun g31=>trivial) (fun g31=>om) (cX (((x_16 && x_17) && x_18) && x_19) [] (fun g32=>by exact trivial) (fun g32=>bC (es:=[1,2,4].map eI) ak rfl rfl (aS fun _=>rfl) rfl (by decide) (by decide)) ?_)
 obtain ⟨x_20,e34,h⟩:=aF h
 refine cX (((x_16 && x_17) && x_18) && x_19) [116,117] (fun g33=>⟨g33,g33,trivial⟩) (fun g33=>fE (bN (gc e34 g33)) k7 rfl CP.ey) (ae.af ⟨[(11,_),(13,_),(15,_),(16,_),(115,B (((x_16 && x_17) && x_18) && x_19)),(118,.opt (((x_16 && x_17) && x_18) && x_19) (.one (.bool x_20)))],[(117,_)]⟩ rfl (Oc (aY (fun e=>e) rfl rfl rfl rfl) (Oc om ?_)))
 refine cX ((((x_16 && x_17) && x_18) && x_19) && x_20) [] (fun g35=>trivial) (fun g35=>om) (cX ((((x_16 && x_17) && x_18) && x_19) && x_20) [] (fun g36=>by exact trivial) (fun g36=>bC (es:=[4].map eI) ak rfl rfl (aS fun _=>rfl) rfl (by decide) (by decide)) ?_)
 obtain ⟨x_21,e38,h⟩:=aF h
 refine cX ((((x_16 && x_17) && x_18) && x_19) && x_20) [121,122] (fun g37=>⟨g37,g37,trivial⟩) (fun g37=>aP (bN (gc e38 g37)) k7 rfl rfl) (ae.af ⟨[(13,_),(15,_),(16,_),(120,B ((((x_16 && x_17) && x_18) && x_19) && x_20)),(123,.opt ((((x_16 && x_17) && x_18) && x_19) && x_20) (.one (.bool x_21)))],[(117,_)]⟩ rfl (Oc (aY (fun e=>e) rfl rfl rfl rfl) (Oc om ?_)))
 refine cX (((((x_16 && x_17) && x_18) && x_19) && x_20) && x_21) [] (fun g39=>trivial) (fun g39=>om) (cX (((((x_16 && x_17) && x_18) && x_19) && x_20) && x_21) [] (fun g40=>by exact trivial) (fun g40=>bC (es:=[3].map eI) ak rfl rfl (aS fun _=>rfl) rfl (by decide) (by decide)) ?_)
 obtain ⟨x_22,e42,h⟩:=aF h
 refine cX (((((x_16 && x_17) && x_18) && x_19) && x_20) && x_21) [126,127] (fun g41=>⟨g41,g41,trivial⟩) (fun g41=>aP (bN (gc e42 g41)) k7 rfl rfl) (ae.af ⟨[(15,_),(16,_),(125,B (((((x_16 && x_17) && x_18) && x_19) && x_20) && x_21)),(128,.opt (((((x_16 && x_17) && x_18) && x_19) && x_20) && x_21) (.one (.bool x_22)))],[(117,_)]⟩ rfl (ae.lY h rfl (aY (fun e=>e) rfl rfl rfl rfl) (fun x_23 h=>?_)))
 refine Oc om (cX x_23 [] (fun g43=>by exact trivial) (fun g43=>om) (cX x_23 [] (fun g44=>by exact trivial) (fun g44=>om) ?_))
 obtain ⟨x_24,e46,h⟩:=aF h
 refine cX x_23 [131,132] (fun g45=>⟨g45,g45,trivial⟩) (fun g45=>fE (bm (gc e46 g45)) jX rfl CP.ey) (Oc (aY (fun e=>e) rfl rfl rfl rfl) (Oc oa ?_))
 refine ae.ag ⟨[(0,B (x_23 && x_24))],[]⟩ rfl (ab.ret ?_)
 obtain rfl:=Option.some.inj h
 refine Fin.af ⟨[(0,_)],[]⟩ rfl (Fin.a6 [.one (.bool (x_23 && x_24))] (.inl rfl) rfl (.cons (.tmp rfl) .nil) ⟨rfl,rfl⟩)
def ck (F:Nat) (l0:List Int) (n0:Int):Option Bool :=
 Option.bind (iter F (fun i_1=>if (decide (i_1 < (l0.length:Int))) = true then ((aV l0 i_1).bind fun x_2=>if (decide (x_2 = n0)) = true then (some (.inr (.inr true))) else (some (.inl (IntKind.i64.wrap (i_1 + 1))))) else (some (.inr (.inl ())))) 0) (iH (fun _=>some false) (fun y=>some y))
theorem eT {F:Nat} {l0:List Int} {n0:Int} {r:Bool} (h:ck F l0 n0 = some r):ar Try.prog [] 28 [] [.one (.sl 1 (l0.map eI)),.one (.i n0)] (Is [] (.b (.one (.bool r)))):=by
 unfold ck at h
 refine ar.intro 18 Try.func28 Try.ntmps28 rfl (by simp) fun E=>?_
 show ab _ E ⟨18,[],[],[]⟩ _ ⟨[(0,.b (.one (.sl 1 (l0.map eI)))),(1,I n0)],[]⟩ _
 refine ab.seq (ab.aa ?_)
 refine Oc oa (ae.ag ⟨[(0,.b (.one (.sl 1 (l0.map eI)))),(1,I n0)],[]⟩ rfl ?_)
 obtain ⟨v1,h2,h⟩:=aF h
 refine ab.bZ (v:=v1) (fun (_:Unit)=>⟨[],[]⟩) (fun z=>.inl z) ?_ ?_
 ·refine ab.seq (ab.aa ?_)
  refine Oc oa (ae.ag ⟨[(0,_),(1,_),(5,I 0)],[]⟩ rfl (ab.block (ab.b9 h2 (fun (i_1:Int)=>⟨[(0,.b (.one (.sl 1 (l0.map eI)))),(1,I n0),(5,I i_1)],[]⟩) [0,1,5] [] rfl ?_)))
  rintro i_1 o3 h4 hy5
  refine ab.seq (ab.seq (ab.aa ?_))
  refine Oc om (Oc om (Oc (az eW rfl (List.length_map _)) (Oc (bh rfl rfl) ?_)))
  refine ae.ag ⟨[(0,_),(1,_),(5,_),(9,B (decide (i_1 < (l0.length:Int))))],[]⟩ rfl (ab.ite h4 rfl (fun _ h4=>?_) (fun _ h4=>?_))
  ·refine ab.skip (Fin.af ⟨[(0,_),(1,_),(5,_)],[]⟩ rfl (Fin.then (ab.seq (ab.block (ab.seq (ab.aa ?_))))))
   refine Oc om (Oc om ?_)
   obtain ⟨x_2,e6,h4⟩:=aF h4
   refine Oc (aH ak (aG e6) (aD (e:=eI) e6) rfl rfl) (Oc (aB ax rfl rfl) (Oc om (Oc (dB rfl rfl) ?_)))
   refine ae.ag ⟨[(0,_),(1,_),(5,_),(17,B (decide (x_2 = n0)))],[]⟩ rfl (ab.ite h4 rfl (fun _ h4=>?_) (fun _ h4=>?_))
   ·refine ab.seq (ab.aa ?_)
    refine Oc oa (ae.ag ⟨[(4,B true)],[]⟩ rfl (ab.ret (Fin.cC (Fin.aO ?_))))
    obtain rfl:=hy5 _ (Option.some.inj h4).symm
    refine Fin.aO (Fin.cC (Fin.aO ?_))
    obtain rfl:=Option.some.inj h
    refine Fin.af ⟨[(4,_)],[]⟩ rfl (Fin.a6 [.one (.bool true)] (.inl rfl) rfl (.cons (.tmp rfl) .nil) ⟨rfl,rfl⟩)
   ·refine ab.skip (Fin.ai (Fin.af ⟨[(0,_),(1,_),(5,_)],[]⟩ rfl (Fin.then (ab.aa ?_))))
    refine Oc om (Oc (aX rfl rfl) (Oc oa ?_))
    refine ae.nil ?_
    exact Fin.bw [0,1,5] [] (IntKind.i64.wrap (i_1 + 1)) (Option.some.inj h4) rfl
  ·refine ab.exit (Fin.ah ?_)
   obtain rfl:=hy5 _ (Option.some.inj h4).symm
   refine Fin.ah (Fin.ay ?_)
   exact Fin.join [] [] () rfl rfl
 ·rintro _ hv
  subst v1
  refine ab.seq (ab.aa ?_)
  refine Oc oa (ae.ag ⟨[(4,B false)],[]⟩ rfl (ab.ret ?_))
  obtain rfl:=Option.some.inj h
  refine Fin.af ⟨[(4,_)],[]⟩ rfl (Fin.a6 [.one (.bool false)] (.inl rfl) rfl (.cons (.tmp rfl) .nil) ⟨rfl,rfl⟩)
def cy (F:Nat) (l0:List Int) (n0:Int):Option (List Int) :=
 (ck F l0 n0).bind fun x_1=>if x_1 = true then (some l0) else (Option.bind (iter F (kj fun out_4 placed_5 i_6=>if (decide (i_6 < (l0.length:Int))) = true then (Option.bind (Option.bind ((cw (!placed_5) (aV l0 i_6)).bind fun x_13=>if ((!placed_5) && (decide (n0 < x_13))) = true then ((df out_4 [n0]).bind fun x_14=>some (x_14,true)) else (some (out_4,placed_5))) (cg fun out_11 placed_12=>(aV l0 i_6).bind fun x_15=>(df out_11 [x_15]).bind fun x_16=>some (x_16,placed_12))) (cg fun out_9 placed_10=>some (.inl (out_9,placed_10,IntKind.i64.wrap (i_6 + 1))))) else (some (.inr (out_4,placed_5)))) ([],false,0)) (cg fun out_2 placed_3=>Option.bind (if (!placed_3) = true then ((df out_2 [n0]).bind fun x_18=>some x_18) else (some out_2)) (fun out_17=>some out_17)))
theorem hS {F:Nat} {l0:List Int} {n0:Int} {r:(List Int)} (h:cy F l0 n0 = some r):ar Try.prog [] 40 [] [.one (.sl 1 (l0.map eI)),.one (.i n0)] (Is [] (.b (.one (.sl 1 (r.map eI))))):=by
 unfold cy at h
 refine ar.intro 46 Try.func40 Try.ntmps40 rfl (by simp) fun E=>?_
 show ab _ E ⟨46,[],[],[]⟩ _ ⟨[(0,.b (.one (.sl 1 (l0.map eI)))),(1,I n0)],[]⟩ _
 refine ab.seq (ab.aa ?_)
 refine Oc oa (ae.ag ⟨[(0,.b (.one (.sl 1 (l0.map eI)))),(1,I n0)],[]⟩ rfl (ab.seq (ab.seq (ab.aa ?_))))
 refine Oc om (Oc om ?_)
 obtain ⟨x_1,e1,h⟩:=aF h
 refine Oc (aP (eT e1) qP rfl rfl) (ae.ag ⟨[(0,_),(1,_),(10,B x_1)],[]⟩ rfl (ab.ite h rfl (fun _ h=>?_) (fun _ h=>?_)))
 ·refine ab.seq (ab.aa ?_)
  refine Oc om (Oc oa ?_)
  refine ae.ag ⟨[(4,.b (.one (.sl 1 (l0.map eI))))],[]⟩ rfl (ab.ret (Fin.aO ?_))
  obtain rfl:=Option.some.inj h
  refine Fin.af ⟨[(4,_)],[]⟩ rfl (Fin.a6 [.one (.sl 1 (l0.map eI))] (.inl rfl) rfl (.cons (.tmp rfl) .nil) ⟨rfl,rfl⟩)
 ·refine ab.skip (Fin.af ⟨[(0,_),(1,_)],[]⟩ rfl (Fin.then (ab.seq (ab.aa ?_))))
  refine Oc oa (ae.ag ⟨[(0,_),(1,_),(5,.b (.one (.nil)))],[]⟩ rfl (ab.seq (ab.aa ?_)))
  refine Oc oa (ae.ag ⟨[(0,_),(1,_),(5,_),(6,B false)],[]⟩ rfl ?_)
  obtain ⟨v2,h3,h⟩:=aF h
  refine ab.bZ (v:=v2) (cg fun (out_2:List Int) (placed_3:Bool)=>⟨[(1,I n0),(5,.b (.row 102)),(6,B placed_3)],[(102,.row 3 1 (out_2.map eI))]⟩) (fun z=>z) ?_ ?_
  ·refine ab.seq (ab.aa ?_)
   refine Oc oa (ae.ag ⟨[(0,_),(1,_),(5,_),(6,_),(7,I 0)],[]⟩ rfl (ab.block (ab.cN 5 102 1 3 rfl (by decide) rfl (ab.b9 h3 (kj fun (out_4:List Int) (placed_5:Bool) (i_6:Int)=>⟨[(0,.b (.one (.sl 1 (l0.map eI)))),(1,I n0),(5,.b (.row 102)),(6,B placed_5),(7,I i_6)],[(102,.row 3 1 (out_4.map eI))]⟩) [0,1,5,6,7] [102] rfl ?_))))
   rintro ⟨out_4,placed_5,i_6⟩ o4 h5 hy6
   refine ab.seq (ab.seq (ab.aa ?_))
   refine Oc om (Oc om (Oc (az eW rfl (List.length_map _)) (Oc (bh rfl rfl) ?_)))
   refine ae.ag ⟨[(0,_),(1,_),(5,_),(6,_),(7,_),(15,B (decide (i_6 < (l0.length:Int))))],[(102,_)]⟩ rfl (ab.ite h5 rfl (fun _ h5=>?_) (fun _ h5=>?_))
   ·refine ab.skip (Fin.af ⟨[(0,_),(1,_),(5,_),(6,_),(7,_)],[(102,_)]⟩ rfl (Fin.then ?_))
    obtain ⟨v7,h8,h5⟩:=aF h5
    refine ab.bZ (v:=v7) (cg fun (out_9:List Int) (placed_10:Bool)=>⟨[(0,.b (.one (.sl 1 (l0.map eI)))),(1,I n0),(5,.b (.row 102)),(6,B placed_10),(7,I i_6)],[(102,.row 3 1 (out_9.map eI))]⟩) (fun z=>z) ?_ ?_
    ·refine ab.block ?_
     obtain ⟨v9,h10,h8⟩:=aF h8
     refine ab.bZ (v:=v9) (cg fun (out_11:List Int) (placed_12:Bool)=>⟨[(0,.b (.one (.sl 1 (l0.map eI)))),(1,I n0),(5,.b (.row 102)),(6,B placed_12),(7,I i_6)],[(102,.row 3 1 (out_11.map eI))]⟩) (fun z=>z) ?_ ?_
     ·refine ab.seq (ab.aa ?_)
      refine Oc om (Oc (dg rfl) (Oc om ?_))
      refine cX (!placed_5) [] (fun g11=>trivial) (fun g11=>om) (cX (!placed_5) [] (fun g12=>by exact trivial) (fun g12=>om) ?_)
      obtain ⟨x_13,e14,h10⟩:=aF h10
      refine cX (!placed_5) [21,22] (fun g13=>⟨g13,g13,trivial⟩) (fun g13=>aH ak (aG (gc e14 g13)) (aD (e:=eI) (gc e14 g13)) rfl rfl) (cX (!placed_5) [23] (fun g15=>⟨g15,trivial⟩) (fun g15=>aB ax rfl rfl) (ae.af ⟨[(0,_),(1,_),(5,_),(6,_),(7,_),(20,B (!placed_5)),(24,.opt (!placed_5) (.one (.i x_13)))],[(102,_)]⟩ rfl (cX (!placed_5) [] (fun g16=>trivial) (fun g16=>om) (cX (!placed_5) [24,25] (fun g17=>by exact ⟨g17,g17,trivial⟩) (fun g17=>eH rfl rfl) (Oc (aY (fun e=>e) rfl rfl rfl rfl) ?_)))))
      refine ae.ag ⟨[(0,_),(1,_),(5,_),(6,_),(7,_),(27,B ((!placed_5) && (decide (n0 < x_13))))],[(102,_)]⟩ rfl (ab.ite h10 rfl (fun _ h10=>?_) (fun _ h10=>?_))
      ·refine ab.seq (ab.aa ?_)
       refine Oc om (Oc om (Oc (au (k:=103) (es:=[n0].map eI) ak rfl rfl (aS fun _=>rfl) rfl (by decide) (by decide) rfl) ?_))
       obtain ⟨x_14,e18,h10⟩:=aF h10
       refine Oc (bq ak (c7 e18) (c6 e18) rfl rfl rfl rfl (bW e18) rfl) (Oc oa ?_)
       refine ae.ag ⟨[(0,_),(1,_),(5,_),(7,_)],[(102,.row 3 1 (x_14.map eI))]⟩ rfl (ab.aa (Oc oa (ae.nil ?_)))
       exact Fin.join [0,1,5,6,7] [102] (x_14,true) (Option.some.inj h10) rfl
      ·refine ab.skip ?_
       exact Fin.join [0,1,5,6,7] [102] (out_4,placed_5) (Option.some.inj h10) rfl
     ·rintro ⟨out_11,placed_12⟩ hv
      subst v9
      refine ab.aa (Oc om (Oc om (Oc om ?_)))
      obtain ⟨x_15,e19,h8⟩:=aF h8
      refine Oc (aH ak (aG e19) (aD (e:=eI) e19) rfl rfl) (Oc (aB ax rfl rfl) (Oc (au (k:=104) (es:=[x_15].map eI) ak rfl rfl (aS fun _=>rfl) rfl (by decide) (by decide) rfl) ?_))
      obtain ⟨x_16,e20,h8⟩:=aF h8
      refine Oc (bq ak (c7 e20) (c6 e20) rfl rfl rfl rfl (bW e20) rfl) (Oc oa ?_)
      refine ae.nil (Fin.ai ?_)
      exact Fin.join [0,1,5,6,7] [102] (x_16,placed_12) (Option.some.inj h8) rfl
    ·rintro ⟨out_9,placed_10⟩ hv
     subst v7
     refine ab.aa (Oc om (Oc (aX rfl rfl) (Oc oa ?_)))
     refine ae.nil ?_
     exact Fin.bw [0,1,5,6,7] [102] (out_9,placed_10,IntKind.i64.wrap (i_6 + 1)) (Option.some.inj h5) rfl
   ·refine ab.exit (Fin.ah ?_)
    obtain rfl:=hy6 _ (Option.some.inj h5).symm
    refine Fin.ah (Fin.ay ?_)
    exact Fin.join [1,5,6] [102] (out_4,placed_5) rfl rfl
  ·rintro ⟨out_2,placed_3⟩ hv
   subst v2
   obtain ⟨v21,h22,h⟩:=aF h
   refine ab.bZ (v:=v21) (fun (out_17:List Int)=>⟨[(5,.b (.row 102))],[(102,.row 3 1 (out_17.map eI))]⟩) (fun z=>z) ?_ ?_
   ·refine ab.seq (ab.aa ?_)
    refine Oc om (Oc (dg rfl) ?_)
    refine ae.ag ⟨[(1,_),(5,_),(40,B (!placed_3))],[(102,_)]⟩ rfl (ab.ite h22 rfl (fun _ h22=>?_) (fun _ h22=>?_))
    ·refine ab.aa (Oc om (Oc om (Oc (au (k:=105) (es:=[n0].map eI) ak rfl rfl (aS fun _=>rfl) rfl (by decide) (by decide) rfl) ?_)))
     obtain ⟨x_18,e23,h22⟩:=aF h22
     refine Oc (bq ak (c7 e23) (c6 e23) rfl rfl rfl rfl (bW e23) rfl) (Oc oa ?_)
     refine ae.nil ?_
     exact Fin.join [5] [102] x_18 (Option.some.inj h22) rfl
    ·refine ab.skip ?_
     exact Fin.join [5] [102] out_2 (Option.some.inj h22) rfl
   ·rintro out_17 hv
    subst v21
    refine ab.seq (ab.aa ?_)
    refine Oc om (Oc oa ?_)
    refine ae.ag ⟨[(4,.b (.row 102))],[(102,_)]⟩ rfl (ab.ret ?_)
    obtain rfl:=Option.some.inj h
    refine Fin.af ⟨[(4,.b (.row 102))],[(102,.row 3 1 (out_17.map eI))]⟩ rfl (Fin.bA 102 rfl (Fin.a6 [.one (.sl 1 (out_17.map eI))] (.inl rfl) rfl (.cons (.tmp rfl) .nil) ⟨rfl,rfl⟩))
def b5 (F:Nat) (a0:List Int) (b0:List Int):Option (List Int) :=
 Option.bind (iter F (cg fun out_2 i_3=>if (decide (i_3 < (b0.length:Int))) = true then ((aV b0 i_3).bind fun x_5=>(cy F out_2 x_5).bind fun x_6=>some (.inl (x_6,IntKind.i64.wrap (i_3 + 1)))) else (some (.inr out_2))) (a0,0)) (fun out_1=>some out_1)
theorem dS {F:Nat} {a0:List Int} {b0:List Int} {r:(List Int)} (h:b5 F a0 b0 = some r):ar Try.prog [] 41 [] [.one (.sl 1 (a0.map eI)),.one (.sl 1 (b0.map eI))] (Is [] (.b (.one (.sl 1 (r.map eI))))):=by
 unfold b5 at h
 refine ar.intro 21 Try.func41 Try.ntmps41 rfl (by simp) fun E=>?_
 show ab _ E ⟨21,[],[],[]⟩ _ ⟨[(0,.b (.one (.sl 1 (a0.map eI)))),(1,.b (.one (.sl 1 (b0.map eI))))],[]⟩ _
 refine ab.seq (ab.aa ?_)
 refine Oc oa (ae.ag ⟨[(0,.b (.one (.sl 1 (a0.map eI)))),(1,.b (.one (.sl 1 (b0.map eI))))],[]⟩ rfl (ab.seq (ab.aa ?_)))
 refine Oc om (Oc oa ?_)
 refine ae.ag ⟨[(1,_),(5,.b (.one (.sl 1 (a0.map eI))))],[]⟩ rfl ?_
 obtain ⟨v1,h2,h⟩:=aF h
 refine ab.bZ (v:=v1) (fun (out_1:List Int)=>⟨[(5,.b (.one (.sl 1 (out_1.map eI))))],[]⟩) (fun z=>z) ?_ ?_
 ·refine ab.seq (ab.aa ?_)
  refine Oc oa (ae.ag ⟨[(1,_),(5,_),(6,I 0)],[]⟩ rfl (ab.block (ab.b9 h2 (cg fun (out_2:List Int) (i_3:Int)=>⟨[(1,.b (.one (.sl 1 (b0.map eI)))),(5,.b (.one (.sl 1 (out_2.map eI)))),(6,I i_3)],[]⟩) [1,5,6] [] rfl ?_)))
  rintro ⟨out_2,i_3⟩ o3 h4 hy5
  refine ab.seq (ab.seq (ab.aa ?_))
  refine Oc om (Oc om (Oc (az eW rfl (List.length_map _)) (Oc (bh rfl rfl) ?_)))
  refine ae.ag ⟨[(1,_),(5,_),(6,_),(11,B (decide (i_3 < (b0.length:Int))))],[]⟩ rfl (ab.ite h4 rfl (fun _ h4=>?_) (fun _ h4=>?_))
  ·refine ab.skip (Fin.af ⟨[(1,_),(5,_),(6,_)],[]⟩ rfl (Fin.then (ab.seq (ab.block (ab.aa ?_)))))
   refine Oc om (Oc om (Oc om ?_))
   obtain ⟨x_5,e6,h4⟩:=aF h4
   refine Oc (aH ak (aG e6) (aD (e:=eI) e6) rfl rfl) (Oc (aB ax rfl rfl) ?_)
   obtain ⟨x_6,e7,h4⟩:=aF h4
   refine Oc (aP (hS e7) goes40 rfl rfl) (Oc oa ?_)
   refine ae.nil (Fin.ai (Fin.af ⟨[(1,_),(5,.b (.one (.sl 1 (x_6.map eI)))),(6,_)],[]⟩ rfl (Fin.then (ab.aa ?_))))
   refine Oc om (Oc (aX rfl rfl) (Oc oa ?_))
   refine ae.nil ?_
   exact Fin.bw [1,5,6] [] (x_6,IntKind.i64.wrap (i_3 + 1)) (Option.some.inj h4) rfl
  ·refine ab.exit (Fin.ah ?_)
   obtain rfl:=hy5 _ (Option.some.inj h4).symm
   refine Fin.ah (Fin.ay ?_)
   exact Fin.join [5] [] out_2 rfl rfl
 ·rintro out_1 hv
  subst v1
  refine ab.seq (ab.aa ?_)
  refine Oc om (Oc oa ?_)
  refine ae.ag ⟨[(4,.b (.one (.sl 1 (out_1.map eI))))],[]⟩ rfl (ab.ret ?_)
  obtain rfl:=Option.some.inj h
  refine Fin.af ⟨[(4,_)],[]⟩ rfl (Fin.a6 [.one (.sl 1 (out_1.map eI))] (.inl rfl) rfl (.cons (.tmp rfl) .nil) ⟨rfl,rfl⟩)
def cq (F:Nat) (a0:List Int) (b0:List Int):Option Bool :=
 Option.bind (iter F (fun i_1=>if (decide (i_1 < (a0.length:Int))) = true then ((aV a0 i_1).bind fun x_2=>(ck F b0 x_2).bind fun x_3=>if x_3 = true then (some (.inr (.inr true))) else (some (.inl (IntKind.i64.wrap (i_1 + 1))))) else (some (.inr (.inl ())))) 0) (iH (fun _=>some false) (fun y=>some y))
theorem gQ {F:Nat} {a0:List Int} {b0:List Int} {r:Bool} (h:cq F a0 b0 = some r):ar Try.prog [] 42 [] [.one (.sl 1 (a0.map eI)),.one (.sl 1 (b0.map eI))] (Is [] (.b (.one (.bool r)))):=by
 unfold cq at h
 refine ar.intro 18 Try.func42 Try.ntmps42 rfl (by simp) fun E=>?_
 show ab _ E ⟨18,[],[],[]⟩ _ ⟨[(0,.b (.one (.sl 1 (a0.map eI)))),(1,.b (.one (.sl 1 (b0.map eI))))],[]⟩ _
 refine ab.seq (ab.aa ?_)
 refine Oc oa (ae.ag ⟨[(0,.b (.one (.sl 1 (a0.map eI)))),(1,.b (.one (.sl 1 (b0.map eI))))],[]⟩ rfl ?_)
 obtain ⟨v1,h2,h⟩:=aF h
 refine ab.bZ (v:=v1) (fun (_:Unit)=>⟨[],[]⟩) (fun z=>.inl z) ?_ ?_
 ·refine ab.seq (ab.aa ?_)
  refine Oc oa (ae.ag ⟨[(0,_),(1,_),(5,I 0)],[]⟩ rfl (ab.block (ab.b9 h2 (fun (i_1:Int)=>⟨[(0,.b (.one (.sl 1 (a0.map eI)))),(1,.b (.one (.sl 1 (b0.map eI)))),(5,I i_1)],[]⟩) [0,1,5] [] rfl ?_)))
  rintro i_1 o3 h4 hy5
  refine ab.seq (ab.seq (ab.aa ?_))
  refine Oc om (Oc om (Oc (az eW rfl (List.length_map _)) (Oc (bh rfl rfl) ?_)))
  refine ae.ag ⟨[(0,_),(1,_),(5,_),(9,B (decide (i_1 < (a0.length:Int))))],[]⟩ rfl (ab.ite h4 rfl (fun _ h4=>?_) (fun _ h4=>?_))
  ·refine ab.skip (Fin.af ⟨[(0,_),(1,_),(5,_)],[]⟩ rfl (Fin.then (ab.seq (ab.block (ab.seq (ab.aa ?_))))))
   refine Oc om (Oc om (Oc om ?_))
   obtain ⟨x_2,e6,h4⟩:=aF h4
   refine Oc (aH ak (aG e6) (aD (e:=eI) e6) rfl rfl) (Oc (aB ax rfl rfl) ?_)
   obtain ⟨x_3,e7,h4⟩:=aF h4
   refine Oc (aP (eT e7) qP rfl rfl) (ae.ag ⟨[(0,_),(1,_),(5,_),(17,B x_3)],[]⟩ rfl (ab.ite h4 rfl (fun _ h4=>?_) (fun _ h4=>?_)))
   ·refine ab.seq (ab.aa ?_)
    refine Oc oa (ae.ag ⟨[(4,B true)],[]⟩ rfl (ab.ret (Fin.cC (Fin.aO ?_))))
    obtain rfl:=hy5 _ (Option.some.inj h4).symm
    refine Fin.aO (Fin.cC (Fin.aO ?_))
    obtain rfl:=Option.some.inj h
    refine Fin.af ⟨[(4,_)],[]⟩ rfl (Fin.a6 [.one (.bool true)] (.inl rfl) rfl (.cons (.tmp rfl) .nil) ⟨rfl,rfl⟩)
   ·refine ab.skip (Fin.ai (Fin.af ⟨[(0,_),(1,_),(5,_)],[]⟩ rfl (Fin.then (ab.aa ?_))))
    refine Oc om (Oc (aX rfl rfl) (Oc oa ?_))
    refine ae.nil ?_
    exact Fin.bw [0,1,5] [] (IntKind.i64.wrap (i_1 + 1)) (Option.some.inj h4) rfl
  ·refine ab.exit (Fin.ah ?_)
   obtain rfl:=hy5 _ (Option.some.inj h4).symm
   refine Fin.ah (Fin.ay ?_)
   exact Fin.join [] [] () rfl rfl
 ·rintro _ hv
  subst v1
  refine ab.seq (ab.aa ?_)
  refine Oc oa (ae.ag ⟨[(4,B false)],[]⟩ rfl (ab.ret ?_))
  obtain rfl:=Option.some.inj h
  refine Fin.af ⟨[(4,_)],[]⟩ rfl (Fin.a6 [.one (.bool false)] (.inl rfl) rfl (.cons (.tmp rfl) .nil) ⟨rfl,rfl⟩)
def cJ (F:Nat) (l0:List (List Int)) (x0:List Int):Option (List (List Int)) :=
 Option.bind (iter F (kj fun out_3 placed_4 i_5=>if (decide (i_5 < (l0.length:Int))) = true then (Option.bind (Option.bind ((cw (!placed_4) (aV l0 i_5)).bind fun x_12=>(cw (!placed_4) (aV x_12 0)).bind fun x_13=>(cw (!placed_4) (aV x0 0)).bind fun x_14=>if ((!placed_4) && (decide (x_14 < x_13))) = true then ((df out_3 [x0]).bind fun x_15=>some (x_15,true)) else (some (out_3,placed_4))) (cg fun out_10 placed_11=>(aV l0 i_5).bind fun x_16=>(df out_10 [x_16]).bind fun x_17=>some (x_17,placed_11))) (cg fun out_8 placed_9=>some (.inl (out_8,placed_9,IntKind.i64.wrap (i_5 + 1))))) else (some (.inr (out_3,placed_4)))) ([],false,0)) (cg fun out_1 placed_2=>Option.bind (if (!placed_2) = true then ((df out_1 [x0]).bind fun x_19=>some x_19) else (some out_1)) (fun out_18=>some out_18))
theorem iA (kr0:Nat) {F:Nat} {l0:List (List Int)} {x0:List Int} {r:(List (List Int))} (h:cJ F l0 x0 = some r):ar Try.prog [] 43 [] [.one (.sl 1 (l0.map (eL 1 eI))),.one (.sl 1 (x0.map eI))] (Is [(kr0,.row 30 1 (r.map (eL 1 eI)))] (.b (.row kr0))):=by
 unfold cJ at h
 refine ar.intro 46 Try.func43 Try.ntmps43 rfl (by simp) fun E=>?_
 show ab _ E ⟨46,[],[],[]⟩ _ ⟨[(0,.b (.one (.sl 1 (l0.map (eL 1 eI))))),(1,.b (.one (.sl 1 (x0.map eI))))],[]⟩ _
 refine ab.seq (ab.aa ?_)
 refine Oc oa (ae.ag ⟨[(0,.b (.one (.sl 1 (l0.map (eL 1 eI))))),(1,.b (.one (.sl 1 (x0.map eI))))],[]⟩ rfl (ab.seq (ab.aa ?_)))
 refine Oc oa (ae.ag ⟨[(0,_),(1,_),(5,.b (.one (.nil)))],[]⟩ rfl (ab.seq (ab.aa ?_)))
 refine Oc oa (ae.ag ⟨[(0,_),(1,_),(5,_),(6,B false)],[]⟩ rfl ?_)
 obtain ⟨v1,h2,h⟩:=aF h
 refine ab.bZ (v:=v1) (cg fun (out_1:List (List Int)) (placed_2:Bool)=>⟨[(1,.b (.one (.sl 1 (x0.map eI)))),(5,.b (.row 102)),(6,B placed_2)],[(102,.row 30 1 (out_1.map (eL 1 eI)))]⟩) (fun z=>z) ?_ ?_
 ·refine ab.seq (ab.aa ?_)
  refine Oc oa (ae.ag ⟨[(0,_),(1,_),(5,_),(6,_),(7,I 0)],[]⟩ rfl (ab.block (ab.cN 5 102 1 30 rfl (by decide) rfl (ab.b9 h2 (kj fun (out_3:List (List Int)) (placed_4:Bool) (i_5:Int)=>⟨[(0,.b (.one (.sl 1 (l0.map (eL 1 eI))))),(1,.b (.one (.sl 1 (x0.map eI)))),(5,.b (.row 102)),(6,B placed_4),(7,I i_5)],[(102,.row 30 1 (out_3.map (eL 1 eI)))]⟩) [0,1,5,6,7] [102] rfl ?_))))
  rintro ⟨out_3,placed_4,i_5⟩ o3 h4 hy5
  refine ab.seq (ab.seq (ab.aa ?_))
  refine Oc om (Oc om (Oc (az gx rfl (List.length_map _)) (Oc (bh rfl rfl) ?_)))
  refine ae.ag ⟨[(0,_),(1,_),(5,_),(6,_),(7,_),(11,B (decide (i_5 < (l0.length:Int))))],[(102,_)]⟩ rfl (ab.ite h4 rfl (fun _ h4=>?_) (fun _ h4=>?_))
  ·refine ab.skip (Fin.af ⟨[(0,_),(1,_),(5,_),(6,_),(7,_)],[(102,_)]⟩ rfl (Fin.then ?_))
   obtain ⟨v6,h7,h4⟩:=aF h4
   refine ab.bZ (v:=v6) (cg fun (out_8:List (List Int)) (placed_9:Bool)=>⟨[(0,.b (.one (.sl 1 (l0.map (eL 1 eI))))),(1,.b (.one (.sl 1 (x0.map eI)))),(5,.b (.row 102)),(6,B placed_9),(7,I i_5)],[(102,.row 30 1 (out_8.map (eL 1 eI)))]⟩) (fun z=>z) ?_ ?_
   ·refine ab.block ?_
    obtain ⟨v8,h9,h7⟩:=aF h7
    refine ab.bZ (v:=v8) (cg fun (out_10:List (List Int)) (placed_11:Bool)=>⟨[(0,.b (.one (.sl 1 (l0.map (eL 1 eI))))),(1,.b (.one (.sl 1 (x0.map eI)))),(5,.b (.row 102)),(6,B placed_11),(7,I i_5)],[(102,.row 30 1 (out_10.map (eL 1 eI)))]⟩) (fun z=>z) ?_ ?_
    ·refine ab.seq (ab.af ⟨[(0,_),(1,_),(5,_),(6,_),(7,_)],[(102,_)]⟩ rfl ?_)
     obtain ⟨x_12,e13,h9⟩:=aF h9
     obtain ⟨x_13,e16,h9⟩:=aF h9
     obtain ⟨x_14,e20,h9⟩:=aF h9
     refine ab.dz mixed 14 [B placed_4,B (!placed_4),B (!placed_4),.opt (!placed_4) (.one (.sl 1 (l0.map (eL 1 eI)))),.opt (!placed_4) (.one (.i i_5)),.opt (!placed_4) (.cz [.sl 1 (x_12.map eI)]),.opt (!placed_4) (.one (.sl 1 (x_12.map eI))),.opt (!placed_4) (.cz [.i x_13]),.opt (!placed_4) (.one (.i x_13)),.opt (!placed_4) (.one (.sl 1 (x0.map eI))),.opt (!placed_4) (.cz [.i x_14]),.opt (!placed_4) (.one (.i x_14)),.opt (!placed_4) (.one (.bool (decide (x_14 < x_13)))),B ((!placed_4) && (decide (x_14 < x_13)))] [0,1,5,6,7,27] [102] (s':=⟨[(0,_),(1,_),(5,_),(6,_),(7,_),(27,B ((!placed_4) && (decide (x_14 < x_13))))],[(102,_)]⟩) rfl ⟨fun _=>.p om,fun _=>.p (dg rfl),fun _=>.p om,fun _=>by exact .guard (!placed_4) 1 [] (.plain rfl) (fZ _) rfl rfl (fun g10=>trivial) (fun g10=>om),fun _=>by exact .guard (!placed_4) 1 [] (.plain rfl) (fZ _) rfl rfl (fun g11=>trivial) (fun g11=>om),fun _=>by exact .guard (!placed_4) 3 [17,18] (.plain rfl) (fZ _) rfl rfl (fun g12=>⟨g12,g12,trivial⟩) (fun g12=>aH bH (aG (gc e13 g12)) (aD (e:=(eL 1 eI)) (gc e13 g12)) rfl rfl),fun _=>by exact .guard (!placed_4) 2 [19] (.plain rfl) (fZ _) rfl rfl (fun g14=>⟨g14,trivial⟩) (fun g14=>aB aT rfl rfl),fun _=>by exact .guard (!placed_4) 2 [20] (.plain rfl) (fZ _) rfl rfl (fun g15=>⟨g15,trivial⟩) (fun g15=>aH ak (aG (gc e16 g15)) (aD (e:=eI) (gc e16 g15)) rfl rfl),fun _=>by exact .guard (!placed_4) 2 [21] (.plain rfl) (fZ _) rfl rfl (fun g17=>⟨g17,trivial⟩) (fun g17=>aB ax rfl rfl),fun _=>by exact .guard (!placed_4) 1 [] (.plain rfl) (fZ _) rfl rfl (fun g18=>trivial) (fun g18=>om),fun _=>by exact .guard (!placed_4) 2 [23] (.plain rfl) (fZ _) rfl rfl (fun g19=>⟨g19,trivial⟩) (fun g19=>aH ak (aG (gc e20 g19)) (aD (e:=eI) (gc e20 g19)) rfl rfl),fun _=>by exact .guard (!placed_4) 2 [24] (.plain rfl) (fZ _) rfl rfl (fun g21=>⟨g21,trivial⟩) (fun g21=>aB ax rfl rfl),fun _=>by exact .guard (!placed_4) 3 [22,25] (.plain rfl) (fZ _) rfl rfl (fun g22=>⟨g22,g22,trivial⟩) (fun g22=>eH rfl rfl),fun _=>.p (aY (fun e=>e) rfl rfl rfl rfl),trivial⟩ rfl rfl (ab.ite h9 rfl (fun _ h9=>?_) (fun _ h9=>?_))
     ·refine ab.seq (ab.aa ?_)
      refine Oc om (Oc om (Oc (au (k:=103) (es:=[x0].map (eL 1 eI)) bH rfl rfl (aS fun _=>rfl) rfl (by decide) (by decide) rfl) ?_))
      obtain ⟨x_15,e23,h9⟩:=aF h9
      refine Oc (bq bH (c7 e23) (c6 e23) rfl rfl rfl rfl (bW e23) rfl) (Oc oa ?_)
      refine ae.ag ⟨[(0,_),(1,_),(5,_),(7,_)],[(102,.row 30 1 (x_15.map (eL 1 eI)))]⟩ rfl (ab.aa (Oc oa (ae.nil ?_)))
      exact Fin.join [0,1,5,6,7] [102] (x_15,true) (Option.some.inj h9) rfl
     ·refine ab.skip ?_
      exact Fin.join [0,1,5,6,7] [102] (out_3,placed_4) (Option.some.inj h9) rfl
    ·rintro ⟨out_10,placed_11⟩ hv
     subst v8
     refine ab.aa (Oc om (Oc om (Oc om ?_)))
     obtain ⟨x_16,e24,h7⟩:=aF h7
     refine Oc (aH bH (aG e24) (aD (e:=(eL 1 eI)) e24) rfl rfl) (Oc (aB aT rfl rfl) (Oc (au (k:=104) (es:=[x_16].map (eL 1 eI)) bH rfl rfl (aS fun _=>rfl) rfl (by decide) (by decide) rfl) ?_))
     obtain ⟨x_17,e25,h7⟩:=aF h7
     refine Oc (bq bH (c7 e25) (c6 e25) rfl rfl rfl rfl (bW e25) rfl) (Oc oa ?_)
     refine ae.nil (Fin.ai ?_)
     exact Fin.join [0,1,5,6,7] [102] (x_17,placed_11) (Option.some.inj h7) rfl
   ·rintro ⟨out_8,placed_9⟩ hv
    subst v6
    refine ab.aa (Oc om (Oc (aX rfl rfl) (Oc oa ?_)))
    refine ae.nil ?_
    exact Fin.bw [0,1,5,6,7] [102] (out_8,placed_9,IntKind.i64.wrap (i_5 + 1)) (Option.some.inj h4) rfl
  ·refine ab.exit (Fin.ah ?_)
   obtain rfl:=hy5 _ (Option.some.inj h4).symm
   refine Fin.ah (Fin.ay ?_)
   exact Fin.join [1,5,6] [102] (out_3,placed_4) rfl rfl
 ·rintro ⟨out_1,placed_2⟩ hv
  subst v1
  obtain ⟨v26,h27,h⟩:=aF h
  refine ab.bZ (v:=v26) (fun (out_18:List (List Int))=>⟨[(5,.b (.row 102))],[(102,.row 30 1 (out_18.map (eL 1 eI)))]⟩) (fun z=>z) ?_ ?_
  ·refine ab.seq (ab.aa ?_)
   refine Oc om (Oc (dg rfl) ?_)
   refine ae.ag ⟨[(1,_),(5,_),(40,B (!placed_2))],[(102,_)]⟩ rfl (ab.ite h27 rfl (fun _ h27=>?_) (fun _ h27=>?_))
   ·refine ab.aa (Oc om (Oc om (Oc (au (k:=105) (es:=[x0].map (eL 1 eI)) bH rfl rfl (aS fun _=>rfl) rfl (by decide) (by decide) rfl) ?_)))
    obtain ⟨x_19,e28,h27⟩:=aF h27
    refine Oc (bq bH (c7 e28) (c6 e28) rfl rfl rfl rfl (bW e28) rfl) (Oc oa ?_)
    refine ae.nil ?_
    exact Fin.join [5] [102] x_19 (Option.some.inj h27) rfl
   ·refine ab.skip ?_
    exact Fin.join [5] [102] out_1 (Option.some.inj h27) rfl
  ·rintro out_18 hv
   subst v26
   refine ab.seq (ab.aa ?_)
   refine Oc om (Oc oa ?_)
   refine ae.ag ⟨[(4,.b (.row 102))],[(102,_)]⟩ rfl (ab.ret ?_)
   obtain rfl:=Option.some.inj h
   refine Fin.af ⟨[(4,_)],[(102,_)]⟩ rfl (Fin.ic 102 kr0 [.row 102] (.inl rfl) rfl (.cons (.tmp rfl) .nil) rfl rfl rfl rfl ⟨rfl,rfl⟩)
def bx (F:Nat) (l0:List (List Int)):Option (List (List Int)) :=
 Option.bind (iter F (cg fun sets_2 i_3=>if (decide (i_3 < (l0.length:Int))) = true then (Option.bind ((aV l0 i_3).bind fun x_6=>(b5 F [] x_6).bind fun x_7=>if (decide ((x_7.length:Int) = 0)) = true then (some sets_2) else (Option.bind (iter F (kj fun x_10 rest_11 k_12=>if (decide (k_12 < (sets_2.length:Int))) = true then (Option.bind ((aV sets_2 k_12).bind fun x_17=>(cq F x_17 x_10).bind fun x_18=>if x_18 = true then ((aV sets_2 k_12).bind fun x_19=>(b5 F x_10 x_19).bind fun x_20=>some (x_20,rest_11)) else ((aV sets_2 k_12).bind fun x_21=>(df rest_11 [x_21]).bind fun x_22=>some (x_10,x_22))) (cg fun x_15 rest_16=>some (.inl (x_15,rest_16,IntKind.i64.wrap (k_12 + 1))))) else (some (.inr (x_10,rest_11)))) (x_7,[],0)) (cg fun x_8 rest_9=>(df rest_9 [x_8]).bind fun x_23=>some x_23))) (fun sets_5=>some (.inl (sets_5,IntKind.i64.wrap (i_3 + 1))))) else (some (.inr sets_2))) ([],0)) (fun sets_1=>Option.bind (iter F (cg fun out_25 i_26=>if (decide (i_26 < (sets_1.length:Int))) = true then ((aV sets_1 i_26).bind fun x_28=>(cJ F out_25 x_28).bind fun x_29=>some (.inl (x_29,IntKind.i64.wrap (i_26 + 1)))) else (some (.inr out_25))) ([],0)) (fun out_24=>some out_24))
theorem gR (kr0:Nat) {F:Nat} {l0:List (List Int)} {r:(List (List Int))} (h:bx F l0 = some r):ar Try.prog [] 26 [] [.one (.sl 1 (l0.map (eL 1 eI)))] (Is [(kr0,.row 30 1 (r.map (eL 1 eI)))] (.b (.row kr0))):=by
 unfold bx at h
 refine ar.intro 66 Try.func26 Try.ntmps26 rfl (by simp) fun E=>?_
 show ab _ E ⟨66,[],[],[]⟩ _ ⟨[(0,.b (.one (.sl 1 (l0.map (eL 1 eI)))))],[]⟩ _
 refine ab.seq (ab.aa ?_)
 refine Oc oa (ae.ag ⟨[(0,.b (.one (.sl 1 (l0.map (eL 1 eI)))))],[]⟩ rfl (ab.seq (ab.aa ?_)))
 refine Oc oa (ae.ag ⟨[(0,_),(3,.b (.one (.nil)))],[]⟩ rfl ?_)
 obtain ⟨v1,h2,h⟩:=aF h
 refine ab.bZ (v:=v1) (fun (sets_1:List (List Int))=>⟨[(3,.b (.row 102))],[(102,.row 30 1 (sets_1.map (eL 1 eI)))]⟩) (fun z=>z) ?_ ?_
 ·refine ab.seq (ab.aa ?_)
  refine Oc oa (ae.ag ⟨[(0,_),(3,_),(4,I 0)],[]⟩ rfl (ab.block (ab.cN 3 102 1 30 rfl (by decide) rfl (ab.b9 h2 (cg fun (sets_2:List (List Int)) (i_3:Int)=>⟨[(0,.b (.one (.sl 1 (l0.map (eL 1 eI))))),(3,.b (.row 102)),(4,I i_3)],[(102,.row 30 1 (sets_2.map (eL 1 eI)))]⟩) [0,3,4] [102] rfl ?_))))
  rintro ⟨sets_2,i_3⟩ o3 h4 hy5
  refine ab.seq (ab.seq (ab.aa ?_))
  refine Oc om (Oc om (Oc (az gx rfl (List.length_map _)) (Oc (bh rfl rfl) ?_)))
  refine ae.ag ⟨[(0,_),(3,_),(4,_),(13,B (decide (i_3 < (l0.length:Int))))],[(102,_)]⟩ rfl (ab.ite h4 rfl (fun _ h4=>?_) (fun _ h4=>?_))
  ·refine ab.skip (Fin.af ⟨[(0,_),(3,_),(4,_)],[(102,_)]⟩ rfl (Fin.then ?_))
   obtain ⟨v6,h7,h4⟩:=aF h4
   refine ab.bZ (v:=v6) (fun (sets_5:List (List Int))=>⟨[(0,.b (.one (.sl 1 (l0.map (eL 1 eI))))),(3,.b (.row 102)),(4,I i_3)],[(102,.row 30 1 (sets_5.map (eL 1 eI)))]⟩) (fun z=>z) ?_ ?_
   ·refine ab.block (ab.seq (ab.aa ?_))
    refine Oc om (Oc om ?_)
    obtain ⟨x_6,e8,h7⟩:=aF h7
    refine Oc (aH bH (aG e8) (aD (e:=(eL 1 eI)) e8) rfl rfl) (Oc (aB aT rfl rfl) ?_)
    obtain ⟨x_7,e9,h7⟩:=aF h7
    refine Oc (aP (ar.nilA 0 (by decide) (dS e9) rfl) qM rfl rfl) (Oc oa ?_)
    refine ae.ag ⟨[(0,_),(3,_),(4,_),(5,.b (.one (.sl 1 (x_7.map eI))))],[(102,_)]⟩ rfl (ab.seq (ab.seq (ab.aa ?_)))
    refine Oc om (Oc (az eW rfl (List.length_map _)) (Oc (dB rfl rfl) ?_))
    refine ae.ag ⟨[(0,_),(3,_),(4,_),(5,_),(23,B (decide ((x_7.length:Int) = 0)))],[(102,_)]⟩ rfl (ab.ite h7 rfl (fun _ h7=>?_) (fun _ h7=>?_))
    ·refine ab.exit (Fin.ah (Fin.ay ?_))
     exact Fin.join [0,3,4] [102] sets_2 (Option.some.inj h7) rfl
    ·refine ab.skip (Fin.af ⟨[(0,_),(3,_),(4,_),(5,_)],[(102,_)]⟩ rfl (Fin.then (ab.seq (ab.aa ?_))))
     refine Oc oa (ae.ag ⟨[(0,_),(3,_),(4,_),(5,_),(6,.b (.one (.nil)))],[(102,_)]⟩ rfl ?_)
     obtain ⟨v10,h11,h7⟩:=aF h7
     refine ab.bZ (v:=v10) (cg fun (x_8:List Int) (rest_9:List (List Int))=>⟨[(0,.b (.one (.sl 1 (l0.map (eL 1 eI))))),(4,I i_3),(5,.b (.one (.sl 1 (x_8.map eI)))),(6,.b (.row 104))],[(104,.row 30 1 (rest_9.map (eL 1 eI)))]⟩) (fun z=>z) ?_ ?_
     ·refine ab.seq (ab.aa ?_)
      refine Oc oa (ae.ag ⟨[(0,_),(3,_),(4,_),(5,_),(6,_),(7,I 0)],[(102,_)]⟩ rfl (ab.block (ab.cN 6 104 1 30 rfl (by decide) rfl (ab.b9 h11 (kj fun (x_10:List Int) (rest_11:List (List Int)) (k_12:Int)=>⟨[(0,.b (.one (.sl 1 (l0.map (eL 1 eI))))),(3,.b (.row 102)),(4,I i_3),(5,.b (.one (.sl 1 (x_10.map eI)))),(6,.b (.row 104)),(7,I k_12)],[(102,.row 30 1 (sets_2.map (eL 1 eI))),(104,.row 30 1 (rest_11.map (eL 1 eI)))]⟩) [0,3,4,5,6,7] [102,104] rfl ?_))))
      rintro ⟨x_10,rest_11,k_12⟩ o12 h13 hy14
      refine ab.seq (ab.seq (ab.aa ?_))
      refine Oc om (Oc om (Oc (fc gx rfl rfl (List.length_map _)) (Oc (bh rfl rfl) ?_)))
      refine ae.ag ⟨[(0,_),(3,_),(4,_),(5,_),(6,_),(7,_),(27,B (decide (k_12 < (sets_2.length:Int))))],[(102,_),(104,_)]⟩ rfl (ab.ite h13 rfl (fun _ h13=>?_) (fun _ h13=>?_))
      ·refine ab.skip (Fin.af ⟨[(0,_),(3,_),(4,_),(5,_),(6,_),(7,_)],[(102,_),(104,_)]⟩ rfl (Fin.then ?_))
       obtain ⟨v15,h16,h13⟩:=aF h13
       refine ab.bZ (v:=v15) (cg fun (x_15:List Int) (rest_16:List (List Int))=>⟨[(0,.b (.one (.sl 1 (l0.map (eL 1 eI))))),(3,.b (.row 102)),(4,I i_3),(5,.b (.one (.sl 1 (x_15.map eI)))),(6,.b (.row 104)),(7,I k_12)],[(102,.row 30 1 (sets_2.map (eL 1 eI))),(104,.row 30 1 (rest_16.map (eL 1 eI)))]⟩) (fun z=>z) ?_ ?_
       ·refine ab.block (ab.seq (ab.aa ?_))
        refine Oc om (Oc om ?_)
        obtain ⟨x_17,e17,h16⟩:=aF h16
        refine Oc (aq bH (aG e17) (aZ e17) rfl rfl rfl rfl) (Oc (aK (i:=(k_12:Int).toNat) (f:=0) aT rfl rfl rfl (aD (e:=(eL 1 eI)) e17) rfl) (Oc om ?_))
        obtain ⟨x_18,e18,h16⟩:=aF h16
        refine Oc (aP (gQ e18) goes42 rfl rfl) (ae.ag ⟨[(0,_),(3,_),(4,_),(5,_),(6,_),(7,_),(35,B x_18)],[(102,_),(104,_)]⟩ rfl (ab.ite h16 rfl (fun _ h16=>?_) (fun _ h16=>?_)))
        ·refine ab.aa (Oc om (Oc om (Oc om ?_)))
         obtain ⟨x_19,e19,h16⟩:=aF h16
         refine Oc (aq bH (aG e19) (aZ e19) rfl rfl rfl rfl) (Oc (aK (i:=(k_12:Int).toNat) (f:=0) aT rfl rfl rfl (aD (e:=(eL 1 eI)) e19) rfl) ?_)
         obtain ⟨x_20,e20,h16⟩:=aF h16
         refine Oc (aP (dS e20) qM rfl rfl) (Oc oa ?_)
         refine ae.nil (Fin.ai ?_)
         exact Fin.join [0,3,4,5,6,7] [102,104] (x_20,rest_11) (Option.some.inj h16) rfl
        ·refine ab.aa (Oc om (Oc om (Oc om ?_)))
         obtain ⟨x_21,e21,h16⟩:=aF h16
         refine Oc (aq bH (aG e21) (aZ e21) rfl rfl rfl rfl) (Oc (aK (i:=(k_12:Int).toNat) (f:=0) aT rfl rfl rfl (aD (e:=(eL 1 eI)) e21) rfl) (Oc (au (k:=105) (es:=[x_21].map (eL 1 eI)) bH rfl rfl (aS fun _=>rfl) rfl (by decide) (by decide) rfl) ?_))
         obtain ⟨x_22,e22,h16⟩:=aF h16
         refine Oc (bq bH (c7 e22) (c6 e22) rfl rfl rfl rfl (bW e22) rfl) (Oc oa ?_)
         refine ae.nil (Fin.ai ?_)
         exact Fin.join [0,3,4,5,6,7] [102,104] (x_10,x_22) (Option.some.inj h16) rfl
       ·rintro ⟨x_15,rest_16⟩ hv
        subst v15
        refine ab.aa (Oc om (Oc (aX rfl rfl) (Oc oa ?_)))
        refine ae.nil ?_
        exact Fin.bw [0,3,4,5,6,7] [102,104] (x_15,rest_16,IntKind.i64.wrap (k_12 + 1)) (Option.some.inj h13) rfl
      ·refine ab.exit (Fin.ah ?_)
       obtain rfl:=hy14 _ (Option.some.inj h13).symm
       refine Fin.ah (Fin.ay ?_)
       exact Fin.join [0,4,5,6] [104] (x_10,rest_11) rfl rfl
     ·rintro ⟨x_8,rest_9⟩ hv
      subst v10
      refine ab.aa (Oc om (Oc om (Oc (au (k:=106) (es:=[x_8].map (eL 1 eI)) bH rfl rfl (aS fun _=>rfl) rfl (by decide) (by decide) rfl) ?_)))
      obtain ⟨x_23,e23,h7⟩:=aF h7
      refine Oc (bq bH (c7 e23) (c6 e23) rfl rfl rfl rfl (bW e23) rfl) (Oc oa ?_)
      refine ae.nil (Fin.ai (Fin.af ⟨[(0,.b (.one (.sl 1 (l0.map (eL 1 eI))))),(3,.b (.row 104)),(4,I i_3)],[(104,.row 30 1 (x_23.map (eL 1 eI)))]⟩ rfl (Fin.rename 104 102 rfl (by decide) rfl ?_)))
      exact Fin.join [0,3,4] [102] x_23 (Option.some.inj h7) rfl
   ·rintro sets_5 hv
    subst v6
    refine ab.aa (Oc om (Oc (aX rfl rfl) (Oc oa ?_)))
    refine ae.nil ?_
    exact Fin.bw [0,3,4] [102] (sets_5,IntKind.i64.wrap (i_3 + 1)) (Option.some.inj h4) rfl
  ·refine ab.exit (Fin.ah ?_)
   obtain rfl:=hy5 _ (Option.some.inj h4).symm
   refine Fin.ah (Fin.ay ?_)
   exact Fin.join [3] [102] sets_2 rfl rfl
 ·rintro sets_1 hv
  subst v1
  refine ab.seq (ab.aa ?_)
  refine Oc oa (ae.ag ⟨[(3,_),(8,.b (.one (.nil)))],[(102,_)]⟩ rfl ?_)
  obtain ⟨v24,h25,h⟩:=aF h
  refine ab.bZ (v:=v24) (fun (out_24:List (List Int))=>⟨[(8,.b (.row 107))],[(107,.row 30 1 (out_24.map (eL 1 eI)))]⟩) (fun z=>z) ?_ ?_
  ·refine ab.seq (ab.aa ?_)
   refine Oc oa (ae.ag ⟨[(3,_),(8,_),(9,I 0)],[(102,_)]⟩ rfl (ab.block (ab.cN 8 107 1 30 rfl (by decide) rfl (ab.b9 h25 (cg fun (out_25:List (List Int)) (i_26:Int)=>⟨[(3,.b (.row 102)),(8,.b (.row 107)),(9,I i_26)],[(102,.row 30 1 (sets_1.map (eL 1 eI))),(107,.row 30 1 (out_25.map (eL 1 eI)))]⟩) [3,8,9] [102,107] rfl ?_))))
   rintro ⟨out_25,i_26⟩ o26 h27 hy28
   refine ab.seq (ab.seq (ab.aa ?_))
   refine Oc om (Oc om (Oc (fc gx rfl rfl (List.length_map _)) (Oc (bh rfl rfl) ?_)))
   refine ae.ag ⟨[(3,_),(8,_),(9,_),(56,B (decide (i_26 < (sets_1.length:Int))))],[(102,_),(107,_)]⟩ rfl (ab.ite h27 rfl (fun _ h27=>?_) (fun _ h27=>?_))
   ·refine ab.skip (Fin.af ⟨[(3,_),(8,_),(9,_)],[(102,_),(107,_)]⟩ rfl (Fin.then (ab.seq (ab.block (ab.aa ?_)))))
    refine Oc om (Oc om (Oc om ?_))
    obtain ⟨x_28,e29,h27⟩:=aF h27
    refine Oc (aq bH (aG e29) (aZ e29) rfl rfl rfl rfl) (Oc (aK (i:=(i_26:Int).toNat) (f:=0) aT rfl rfl rfl (aD (e:=(eL 1 eI)) e29) rfl) ?_)
    refine ae.bA 107 rfl ?_
    obtain ⟨x_29,e30,h27⟩:=aF h27
    refine Oc (bj (iA 108 e30) goes43 rfl trivial rfl rfl) (Oc oa ?_)
    refine ae.nil (Fin.ai (Fin.af ⟨[(3,.b (.row 102)),(8,.b (.row 108)),(9,I i_26)],[(102,.row 30 1 (sets_1.map (eL 1 eI))),(108,.row 30 1 (x_29.map (eL 1 eI)))]⟩ rfl (Fin.then (ab.aa ?_))))
    refine Oc om (Oc (aX rfl rfl) (Oc oa ?_))
    refine ae.nil (Fin.af ⟨[(3,.b (.row 102)),(8,.b (.row 108)),(9,I (IntKind.i64.wrap (i_26 + 1)))],[(102,.row 30 1 (sets_1.map (eL 1 eI))),(108,.row 30 1 (x_29.map (eL 1 eI)))]⟩ rfl (Fin.rename 108 107 rfl (by decide) rfl ?_))
    exact Fin.bw [3,8,9] [102,107] (x_29,IntKind.i64.wrap (i_26 + 1)) (Option.some.inj h27) rfl
   ·refine ab.exit (Fin.ah ?_)
    obtain rfl:=hy28 _ (Option.some.inj h27).symm
    refine Fin.ah (Fin.ay ?_)
    exact Fin.join [8] [107] out_25 rfl rfl
  ·rintro out_24 hv
   subst v24
   refine ab.seq (ab.aa ?_)
   refine Oc om (Oc oa ?_)
   refine ae.ag ⟨[(2,.b (.row 107))],[(107,_)]⟩ rfl (ab.ret ?_)
   obtain rfl:=Option.some.inj h
   refine Fin.af ⟨[(2,_)],[(107,_)]⟩ rfl (Fin.ic 107 kr0 [.row 107] (.inl rfl) rfl (.cons (.tmp rfl) .nil) rfl rfl rfl rfl ⟨rfl,rfl⟩)
def ba (F:Nat) (a0:List (List Int)) (b0:List (List Int)):Option Bool :=
 (df [] a0).bind fun x_1=>(df x_1 b0).bind fun x_2=>fB ((decide (20 < (a0.length:Int))) || (decide (20 < (b0.length:Int)))) fun x_3=>if x_3 = true then ((bF F).bind fun x_4=>some x_4) else (Option.bind (iter F (kj fun all_7 ones_8 i_9=>if (decide (i_9 < (all_7.length:Int))) = true then ((aV all_7 i_9).bind fun x_12=>if (decide (8 < (x_12.length:Int))) = true then ((bF F).bind fun x_13=>some (.inr (.inr x_13))) else (Option.bind (pV all_7 i_9 (IntKind.i64.wrap (i_9 + 1))) (fun x_14=>(df ones_8 [x_14]).bind fun x_15=>some (.inl (all_7,x_15,IntKind.i64.wrap (i_9 + 1)))))) else (some (.inr (.inl (all_7,ones_8))))) (x_2,[],0)) (iH (cg fun all_5 ones_6=>(bx F all_5).bind fun x_16=>(bF F).bind fun x_17=>(cw x_17 (a8 F [a0,b0])).bind fun x_18=>(cw x_17 (aL F x_18 x_16)).bind fun x_19=>(cw (x_17 && x_19) (a8 F [b0,a0])).bind fun x_20=>(cw (x_17 && x_19) (aL F x_20 x_16)).bind fun x_21=>(cw ((x_17 && x_19) && x_21) (a8 F [all_5])).bind fun x_22=>(cw ((x_17 && x_19) && x_21) (aL F x_22 x_16)).bind fun x_23=>(cw (((x_17 && x_19) && x_21) && x_23) (a8 F ones_6)).bind fun x_24=>(cw (((x_17 && x_19) && x_21) && x_23) (aL F x_24 x_16)).bind fun x_25=>(cw ((((x_17 && x_19) && x_21) && x_23) && x_25) (a8 F [x_16])).bind fun x_26=>(cw ((((x_17 && x_19) && x_21) && x_23) && x_25) (aL F x_26 x_16)).bind fun x_27=>some (((((x_17 && x_19) && x_21) && x_23) && x_25) && x_27)) (fun y=>some y)))
theorem dr {F:Nat} {a0:List (List Int)} {b0:List (List Int)} {r:Bool} (h:ba F a0 b0 = some r):ar Try.prog [] 5 [] [.one (.sl 1 (a0.map (eL 1 eI))),.one (.sl 1 (b0.map (eL 1 eI)))] (Is [] (.b (.one (.bool r)))):=by
 unfold ba at h
 refine ar.intro 83 Try.func5 Try.ntmps5 rfl (by simp) fun E=>?_
 show ab _ E ⟨83,[],[],[]⟩ _ ⟨[(0,.b (.one (.sl 1 (a0.map (eL 1 eI))))),(1,.b (.one (.sl 1 (b0.map (eL 1 eI)))))],[]⟩ _
 refine ab.seq (ab.aa ?_)
 refine Oc oa (ae.ag ⟨[(0,.b (.one (.sl 1 (a0.map (eL 1 eI))))),(1,.b (.one (.sl 1 (b0.map (eL 1 eI)))))],[]⟩ rfl (ab.seq (ab.aa ?_)))
 refine Oc (p8 (k:=101) bH rfl) (Oc om ?_)
 obtain ⟨x_1,e1,h⟩:=aF h
 refine Oc (mV bH (c7 e1) (c6 e1) rfl rfl rfl (bW e1) rfl) (Oc om ?_)
 obtain ⟨x_2,e2,h⟩:=aF h
 refine Oc (mV bH (c7 e2) (c6 e2) rfl rfl rfl (bW e2) rfl) (Oc oa ?_)
 refine ae.ag ⟨[(0,_),(1,_),(5,.b (.row 101))],[(101,.row 30 1 (x_2.map (eL 1 eI)))]⟩ rfl (ab.seq (ab.seq (ab.aa ?_)))
 refine Oc om (Oc (az gx rfl (List.length_map _)) (Oc (eH rfl rfl) (Oc om ?_)))
 refine oz (!(decide (20 < (a0.length:Int)))) [] (fun g3=>trivial) (fun g3=>om) (ae.af ⟨[(0,_),(1,_),(5,_),(17,B (decide (20 < (a0.length:Int)))),(18,.opt (!(decide (20 < (a0.length:Int)))) (.one (.sl 1 (b0.map (eL 1 eI)))))],[(101,_)]⟩ rfl (oz (!(decide (20 < (a0.length:Int)))) [18] (fun g4=>by exact ⟨g4,trivial⟩) (fun g4=>az gx rfl (List.length_map _)) (oz (!(decide (20 < (a0.length:Int)))) [19] (fun g5=>by exact ⟨g5,trivial⟩) (fun g5=>eH rfl rfl) (ae.lY h rfl (il (fun e=>by first | (rw [e]; rfl) | (simp only at e; rw [e]; rfl)) rfl rfl rfl rfl) (fun x_3 h=>?_)))))
 refine ae.ag ⟨[(0,_),(1,_),(5,_),(21,B x_3)],[(101,_)]⟩ rfl (ab.ite h rfl (fun _ h=>?_) (fun _ h=>?_))
 ·refine ab.seq (ab.aa ?_)
  obtain ⟨x_4,e6,h⟩:=aF h
  refine Oc (aP (cQ e6) oO rfl rfl) (Oc oa ?_)
  refine ae.ag ⟨[(4,B x_4)],[]⟩ rfl (ab.ret (Fin.aO ?_))
  obtain rfl:=Option.some.inj h
  refine Fin.af ⟨[(4,_)],[]⟩ rfl (Fin.a6 [.one (.bool x_4)] (.inl rfl) rfl (.cons (.tmp rfl) .nil) ⟨rfl,rfl⟩)
 ·refine ab.skip (Fin.af ⟨[(0,_),(1,_),(5,_)],[(101,_)]⟩ rfl (Fin.then (ab.seq (ab.aa ?_))))
  refine Oc oa (ae.ag ⟨[(0,_),(1,_),(5,_),(6,.b (.one (.nil)))],[(101,_)]⟩ rfl ?_)
  obtain ⟨v7,h8,h⟩:=aF h
  refine ab.bZ (v:=v7) (cg fun (all_5:List (List Int)) (ones_6:List (List (List Int)))=>⟨[(0,.b (.one (.sl 1 (a0.map (eL 1 eI))))),(1,.b (.one (.sl 1 (b0.map (eL 1 eI))))),(5,.b (.one (.sl 1 (all_5.map (eL 1 eI))))),(6,.b (.row 103))],[(103,.row 26 1 (ones_6.map (eL 1 (eL 1 eI))))]⟩) (fun z=>.inl z) ?_ ?_
  ·refine ab.seq (ab.aa ?_)
   refine Oc oa (ae.ag ⟨[(0,.b (.one (.sl 1 (a0.map (eL 1 eI))))),(1,.b (.one (.sl 1 (b0.map (eL 1 eI))))),(5,.b (.row 101)),(6,.b (.one (.nil))),(7,I 0)],[(101,.row 30 1 (x_2.map (eL 1 eI)))]⟩ rfl (ab.block (ab.bA 101 rfl (ab.cN 6 103 1 26 rfl (by decide) rfl (ab.b9 h8 (kj fun (all_7:List (List Int)) (ones_8:List (List (List Int))) (i_9:Int)=>⟨[(0,.b (.one (.sl 1 (a0.map (eL 1 eI))))),(1,.b (.one (.sl 1 (b0.map (eL 1 eI))))),(5,.b (.one (.sl 1 (all_7.map (eL 1 eI))))),(6,.b (.row 103)),(7,I i_9)],[(103,.row 26 1 (ones_8.map (eL 1 (eL 1 eI))))]⟩) [0,1,5,6,7] [103] rfl ?_)))))
   rintro ⟨all_7,ones_8,i_9⟩ o9 h10 hy11
   refine ab.seq (ab.seq (ab.aa ?_))
   refine Oc om (Oc om (Oc (az gx rfl (List.length_map _)) (Oc (bh rfl rfl) ?_)))
   refine ae.ag ⟨[(0,_),(1,_),(5,_),(6,_),(7,_),(26,B (decide (i_9 < (all_7.length:Int))))],[(103,_)]⟩ rfl (ab.ite h10 rfl (fun _ h10=>?_) (fun _ h10=>?_))
   ·refine ab.skip (Fin.af ⟨[(0,_),(1,_),(5,_),(6,_),(7,_)],[(103,_)]⟩ rfl (Fin.then (ab.seq (ab.block (ab.seq (ab.seq (ab.aa ?_)))))))
    refine Oc om (Oc om ?_)
    obtain ⟨x_12,e12,h10⟩:=aF h10
    refine Oc (aH bH (aG e12) (aD (e:=(eL 1 eI)) e12) rfl rfl) (Oc (aB aT rfl rfl) (Oc (az eW rfl (List.length_map _)) (Oc (eH rfl rfl) ?_)))
    refine ae.ag ⟨[(0,_),(1,_),(5,_),(6,_),(7,_),(34,B (decide (8 < (x_12.length:Int))))],[(103,_)]⟩ rfl (ab.ite h10 rfl (fun _ h10=>?_) (fun _ h10=>?_))
    ·refine ab.seq (ab.aa ?_)
     obtain ⟨x_13,e13,h10⟩:=aF h10
     refine Oc (aP (cQ e13) oO rfl rfl) (Oc oa ?_)
     refine ae.ag ⟨[(4,B x_13)],[]⟩ rfl (ab.ret (Fin.aO (Fin.cC (Fin.aO ?_))))
     obtain rfl:=hy11 _ (Option.some.inj h10).symm
     refine Fin.aO (Fin.cC (Fin.aO ?_))
     obtain rfl:=Option.some.inj h
     refine Fin.af ⟨[(4,_)],[]⟩ rfl (Fin.a6 [.one (.bool x_13)] (.inl rfl) rfl (.cons (.tmp rfl) .nil) ⟨rfl,rfl⟩)
    ·refine ab.skip (Fin.af ⟨[(0,_),(1,_),(5,_),(6,_),(7,_)],[(103,_)]⟩ rfl (Fin.then (ab.aa ?_)))
     refine Oc om (Oc om (Oc om (Oc om (Oc (aX rfl rfl) ?_))))
     obtain ⟨x_14,e14,h10⟩:=aF h10
     refine Oc (oX bH e14 rfl rfl rfl) (ae.af ⟨[(0,_),(1,_),(5,_),(6,_),(7,_),(36,.b (.row 103)),(41,.b (.one (.sl 1 (x_14.map (eL 1 eI)))))],[(103,_)]⟩ rfl (Oc (au (k:=104) (es:=[x_14].map (eL 1 (eL 1 eI))) iP rfl rfl (aS fun _=>rfl) rfl (by decide) (by decide) rfl) ?_))
     obtain ⟨x_15,e15,h10⟩:=aF h10
     refine Oc (bq iP (c7 e15) (c6 e15) rfl rfl rfl rfl (bW e15) rfl) (Oc oa ?_)
     refine ae.nil (Fin.ai (Fin.af ⟨[(0,_),(1,_),(5,_),(6,_),(7,_)],[(103,.row 26 1 (x_15.map (eL 1 (eL 1 eI))))]⟩ rfl (Fin.then (ab.aa ?_))))
     refine Oc om (Oc (aX rfl rfl) (Oc oa ?_))
     refine ae.nil ?_
     exact Fin.bw [0,1,5,6,7] [103] (all_7,x_15,IntKind.i64.wrap (i_9 + 1)) (Option.some.inj h10) rfl
   ·refine ab.exit (Fin.ah ?_)
    obtain rfl:=hy11 _ (Option.some.inj h10).symm
    refine Fin.ah (Fin.ay ?_)
    exact Fin.join [0,1,5,6] [103] (all_7,ones_8) rfl rfl
  ·rintro ⟨all_5,ones_6⟩ hv
   subst v7
   refine ab.seq (ab.aa ?_)
   refine Oc om ?_
   obtain ⟨x_16,e16,h⟩:=aF h
   refine Oc (bj (gR 105 e16) goes26 rfl trivial rfl rfl) (Oc oa ?_)
   refine ae.ag ⟨[(0,_),(1,_),(5,_),(6,_),(8,.b (.row 105))],[(103,_),(105,.row 30 1 (x_16.map (eL 1 eI)))]⟩ rfl (ab.seq (ab.aa ?_))
   refine ae.bA 103 rfl ?_
   obtain ⟨x_17,e17,h⟩:=aF h
   refine Oc (aP (cQ e17) oO rfl rfl) (Oc om ?_)
   refine cX x_17 [] (fun g18=>trivial) (fun g18=>om) (cX x_17 [] (fun g19=>by exact trivial) (fun g19=>om) (ae.af ⟨[(0,.b (.one (.sl 1 (a0.map (eL 1 eI))))),(1,.b (.one (.sl 1 (b0.map (eL 1 eI))))),(5,.b (.one (.sl 1 (all_5.map (eL 1 eI))))),(6,.b (.one (.sl 1 (ones_6.map (eL 1 (eL 1 eI)))))),(8,.b (.row 105)),(47,B x_17),(48,.opt x_17 (.one (.sl 1 (a0.map (eL 1 eI))))),(49,.opt x_17 (.one (.sl 1 (b0.map (eL 1 eI)))))],[(105,.row 30 1 (x_16.map (eL 1 eI)))]⟩ rfl (cX x_17 [48,49] (fun g20=>by exact ⟨g20,g20,trivial⟩) (fun g20=>bC (es:=[a0,b0].map (eL 1 (eL 1 eI))) iP rfl rfl (aS fun _=>rfl) rfl (by decide) (by decide)) ?_)))
   obtain ⟨x_18,e22,h⟩:=aF h
   refine cX x_17 [50] (fun g21=>⟨g21,trivial⟩) (fun g21=>aP (cD (gc e22 g21)) k6 rfl rfl) (cX x_17 [] (fun g23=>trivial) (fun g23=>om) ?_)
   obtain ⟨x_19,e25,h⟩:=aF h
   refine cX x_17 [51,52] (fun g24=>⟨g24,g24,trivial⟩) (fun g24=>fE (bm (gc e25 g24)) jX rfl CP.ey) (ae.af ⟨[(0,_),(1,_),(5,_),(6,_),(8,_),(47,_),(53,.opt x_17 (.one (.bool x_19)))],[(105,_)]⟩ rfl (Oc (aY (fun e=>e) rfl rfl rfl rfl) (Oc om ?_)))
   refine cX (x_17 && x_19) [] (fun g26=>trivial) (fun g26=>om) (cX (x_17 && x_19) [] (fun g27=>by exact trivial) (fun g27=>om) (cX (x_17 && x_19) [56,57] (fun g28=>by exact ⟨g28,g28,trivial⟩) (fun g28=>bC (es:=[b0,a0].map (eL 1 (eL 1 eI))) iP rfl rfl (aS fun _=>rfl) rfl (by decide) (by decide)) (ae.af ⟨[(5,_),(6,_),(8,_),(55,B (x_17 && x_19)),(58,.opt (x_17 && x_19) (.one (.sl 1 ([b0,a0].map (eL 1 (eL 1 eI))))))],[(105,_)]⟩ rfl ?_)))
   obtain ⟨x_20,e30,h⟩:=aF h
   refine cX (x_17 && x_19) [58] (fun g29=>⟨g29,trivial⟩) (fun g29=>aP (cD (gc e30 g29)) k6 rfl rfl) (cX (x_17 && x_19) [] (fun g31=>trivial) (fun g31=>om) ?_)
   obtain ⟨x_21,e33,h⟩:=aF h
   refine cX (x_17 && x_19) [59,60] (fun g32=>⟨g32,g32,trivial⟩) (fun g32=>fE (bm (gc e33 g32)) jX rfl CP.ey) (Oc (aY (fun e=>e) rfl rfl rfl rfl) (Oc om ?_))
   refine cX ((x_17 && x_19) && x_21) [] (fun g34=>trivial) (fun g34=>om) (ae.af ⟨[(6,_),(8,_),(63,B ((x_17 && x_19) && x_21)),(64,.opt ((x_17 && x_19) && x_21) (.one (.sl 1 (all_5.map (eL 1 eI)))))],[(105,_)]⟩ rfl (cX ((x_17 && x_19) && x_21) [64] (fun g35=>by exact ⟨g35,trivial⟩) (fun g35=>bC (es:=[all_5].map (eL 1 (eL 1 eI))) iP rfl rfl (aS fun _=>rfl) rfl (by decide) (by decide)) ?_))
   obtain ⟨x_22,e37,h⟩:=aF h
   refine cX ((x_17 && x_19) && x_21) [65] (fun g36=>⟨g36,trivial⟩) (fun g36=>aP (cD (gc e37 g36)) k6 rfl rfl) (cX ((x_17 && x_19) && x_21) [] (fun g38=>trivial) (fun g38=>om) ?_)
   obtain ⟨x_23,e40,h⟩:=aF h
   refine cX ((x_17 && x_19) && x_21) [66,67] (fun g39=>⟨g39,g39,trivial⟩) (fun g39=>fE (bm (gc e40 g39)) jX rfl CP.ey) (ae.af ⟨[(6,_),(8,_),(63,_),(68,.opt ((x_17 && x_19) && x_21) (.one (.bool x_23)))],[(105,_)]⟩ rfl (Oc (aY (fun e=>e) rfl rfl rfl rfl) (Oc om ?_)))
   refine cX (((x_17 && x_19) && x_21) && x_23) [] (fun g41=>trivial) (fun g41=>om) ?_
   obtain ⟨x_24,e43,h⟩:=aF h
   refine cX (((x_17 && x_19) && x_21) && x_23) [71] (fun g42=>⟨g42,trivial⟩) (fun g42=>aP (cD (gc e43 g42)) k6 rfl rfl) (cX (((x_17 && x_19) && x_21) && x_23) [] (fun g44=>trivial) (fun g44=>om) (ae.af ⟨[(8,_),(70,B (((x_17 && x_19) && x_21) && x_23)),(72,.opt (((x_17 && x_19) && x_21) && x_23) (.one (.sl 1 (x_24.map (eL 1 eI))))),(73,.opt (((x_17 && x_19) && x_21) && x_23) (.row 105))],[(105,_)]⟩ rfl ?_))
   obtain ⟨x_25,e46,h⟩:=aF h
   refine cX (((x_17 && x_19) && x_21) && x_23) [72,73] (fun g45=>⟨g45,g45,trivial⟩) (fun g45=>fE (bm (gc e46 g45)) jX rfl CP.ey) (Oc (aY (fun e=>e) rfl rfl rfl rfl) (Oc om ?_))
   refine cX ((((x_17 && x_19) && x_21) && x_23) && x_25) [] (fun g47=>trivial) (fun g47=>om) (ae.bA 105 rfl (cX ((((x_17 && x_19) && x_21) && x_23) && x_25) [77] (fun g48=>by exact ⟨g48,trivial⟩) (fun g48=>bC (es:=[x_16].map (eL 1 (eL 1 eI))) iP rfl rfl (aS fun _=>rfl) rfl (by decide) (by decide)) (ae.af ⟨[(8,.b (.one (.sl 1 (x_16.map (eL 1 eI))))),(76,B ((((x_17 && x_19) && x_21) && x_23) && x_25)),(78,.opt ((((x_17 && x_19) && x_21) && x_23) && x_25) (.one (.sl 1 ([x_16].map (eL 1 (eL 1 eI))))))],[]⟩ rfl ?_)))
   obtain ⟨x_26,e50,h⟩:=aF h
   refine cX ((((x_17 && x_19) && x_21) && x_23) && x_25) [78] (fun g49=>⟨g49,trivial⟩) (fun g49=>aP (cD (gc e50 g49)) k6 rfl rfl) (cX ((((x_17 && x_19) && x_21) && x_23) && x_25) [] (fun g51=>trivial) (fun g51=>om) ?_)
   obtain ⟨x_27,e53,h⟩:=aF h
   refine cX ((((x_17 && x_19) && x_21) && x_23) && x_25) [79,80] (fun g52=>⟨g52,g52,trivial⟩) (fun g52=>aP (bm (gc e53 g52)) jX rfl rfl) (Oc (aY (fun e=>e) rfl rfl rfl rfl) (Oc oa ?_))
   refine ae.ag ⟨[(4,B (((((x_17 && x_19) && x_21) && x_23) && x_25) && x_27))],[]⟩ rfl (ab.ret ?_)
   obtain rfl:=Option.some.inj h
   refine Fin.af ⟨[(4,_)],[]⟩ rfl (Fin.a6 [.one (.bool (((((x_17 && x_19) && x_21) && x_23) && x_25) && x_27))] (.inl rfl) rfl (.cons (.tmp rfl) .nil) ⟨rfl,rfl⟩)
end Go.Proofs.Ytgojigdbelkgoaa

