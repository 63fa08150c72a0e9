/- printed walks -/
import Derived.Test.YtgojigdbelkgoaaW1
namespace Go.Proofs.Ytgojigdbelkgoaa
open Go.Sk Go
set_option maxHeartbeats 4000000
set_option maxRecDepth 4000
set_option linter.unusedSimpArgs false
set_option linter.unusedVariables false
def eW (F:Nat) (fixed0:List Bool) (links0:List A2):Option ((List Int) × (List Int)) :=
 (du F fixed0 links0).bind fun x_1=>(cE F (fixed0.length:Int) links0 x_1).bind fun x_2=>Option.bind (mk? (0:Int) (fixed0.length:Int) (fixed0.length:Int)) (fun x_3=>Option.bind (mk? (0:Int) (fixed0.length:Int) (fixed0.length:Int)) (fun x_4=>Option.bind (iter F (un6 fun keysf0_7 bridgesf0_8 seenf0_9 visitf0_10 visitf0f0_11 x_12=>if (decide (x_12 < (fixed0.length:Int))) = true then (Option.bind ((aE fixed0 x_12).bind fun x_20=>(cy (!x_20) (aE seenf0_9 x_12)).bind fun x_21=>if ((!x_20) && (decide (x_21 = 0))) = true then (Option.bind (jD F x_12 (-1) visitf0_10 seenf0_9 visitf0f0_11 x_2 bridgesf0_8 keysf0_7) (un5 fun x_22 x_23 x_24 x_25 x_26=>some (x_26,x_25,x_23,x_22,x_24))) else (some (keysf0_7,bridgesf0_8,seenf0_9,visitf0_10,visitf0f0_11))) (un5 fun keysf0_15 bridgesf0_16 seenf0_17 visitf0_18 visitf0f0_19=>some (.inl (keysf0_15,bridgesf0_16,seenf0_17,visitf0_18,visitf0f0_19,IntKind.i64.wrap (x_12 + 1))))) else (some (.inr (keysf0_7,bridgesf0_8)))) ([],[],x_3,0,x_4,0)) (bK fun keysf0_5 bridgesf0_6=>(dh F keysf0_5).bind fun x_27=>(dh F bridgesf0_6).bind fun x_28=>some (x_27,x_28))))
theorem iZ {F:Nat} {fixed0:List Bool} {links0:List A2} {r:(List Int) × (List Int)} (h:eW F fixed0 links0 = some r):av Try.prog [] 39 [] [.one (.sl 1 (fixed0.map eB)),.one (.sl 2 (links0.map (bW .i64)))] (Is [] (.eT [.one (.sl 1 (r.1.map eI)),.one (.sl 1 (r.2.map eI))])):=by
 unfold eW at h
 refine av.intro 53 Try.func39 Try.ntmps39 rfl (by simp) fun E=>?_
 show ab _ E ⟨53,[],[],[]⟩ _ ⟨[(0,.b (.one (.sl 1 (fixed0.map eB)))),(1,.b (.one (.sl 2 (links0.map (bW .i64)))))],[]⟩ _
 refine ab.seq (ab.aa ?_)
 refine Oc (bc (k:=101) cA rfl) (Oc (bc (k:=102) cA rfl) ?_)
 refine ae.af ⟨[(0,.b (.one (.sl 1 (fixed0.map eB)))),(1,.b (.one (.sl 2 (links0.map (bW .i64))))),(4,Pt 101 0),(5,Pt 102 0)],[(101,.box 30 [.nil]),(102,.box 30 [.nil])]⟩ rfl (ab.seq (ab.aa ?_))
 refine Oc om (Oc (au cT rfl (List.length_map _)) (Oc om (Oc om (Oc om ?_))))
 refine ae.ag ⟨[(0,_),(4,_),(5,_),(14,I (fixed0.length:Int)),(15,.b (.one (.sl 2 (links0.map (bW .i64))))),(16,.b (.one (.sl 1 (fixed0.map eB)))),(17,.b (.one (.sl 2 (links0.map (bW .i64)))))],[(101,_),(102,_)]⟩ rfl ?_
 obtain ⟨x_1,e1,h⟩:=aG h
 refine Oc (bg (hU 103 e1) sY rfl trivial rfl rfl) (ae.bB 103 rfl ?_)
 obtain ⟨x_2,e2,h⟩:=aG h
 refine Oc (aO (fK e2) s9 rfl rfl) (Oc (bc (k:=104) tv rfl) (Oc (gn q7 rfl rfl rfl (Nat.le_of_ble_eq_true rfl) rfl) ?_))
 refine ae.af ⟨[(0,.b (.one (.sl 1 (fixed0.map eB)))),(4,Pt 101 0),(5,Pt 102 0),(6,Pt 104 0)],[(101,.box 30 [.nil]),(102,.box 30 [.nil]),(104,.box 56 [.sl 1 (x_2.map (eL 2 aY))])]⟩ rfl (ab.seq ?_)
 obtain ⟨x_3,e3,h⟩:=aG h
 obtain ⟨x_4,e4,h⟩:=aG h
 refine ab.nf mixed [false,false,true,false,false,true,true,true,true,true] [.b (.one (.sl 1 (fixed0.map eB))),I (fixed0.length:Int),.b (.row 105),.b (.one (.sl 1 (fixed0.map eB))),I (fixed0.length:Int),.b (.row 106),Pt 107 0,Pt 108 0,B true,B true] [⟨[false,false,false,false,false,false,false,false,false,false],[(0,.b (.one (.sl 1 (fixed0.map eB)))),(4,Pt 101 0),(5,Pt 102 0),(6,Pt 104 0)],[(101,.box 30 [.nil]),(102,.box 30 [.nil]),(104,.box 56 [.sl 1 (x_2.map (eL 2 aY))])],[true,true,true,true,true,true,true,true,true,true],[],[8,9]⟩,⟨[false,false,true,false,false,false,false,false,false,false],[(0,.b (.one (.sl 1 (fixed0.map eB)))),(4,Pt 101 0),(5,Pt 102 0),(6,Pt 104 0)],[(101,.box 30 [.nil]),(102,.box 30 [.nil]),(104,.box 56 [.sl 1 (x_2.map (eL 2 aY))]),(105,.row 3 1 (x_3.map eI))],[true,true,true,true,true,true,true,true,true,true],[0,1,2],[8,9]⟩,⟨[false,false,false,false,false,true,false,false,false,false],[(0,.b (.one (.sl 1 (fixed0.map eB)))),(4,Pt 101 0),(5,Pt 102 0),(6,Pt 104 0)],[(101,.box 30 [.nil]),(102,.box 30 [.nil]),(104,.box 56 [.sl 1 (x_2.map (eL 2 aY))]),(106,.row 3 1 (x_4.map eI))],[true,true,true,true,true,true,true,true,true,true],[3,4,5],[8,9]⟩,⟨[false,false,false,false,false,false,true,false,false,false],[(0,.b (.one (.sl 1 (fixed0.map eB)))),(4,Pt 101 0),(5,Pt 102 0),(6,Pt 104 0)],[(101,.box 30 [.nil]),(102,.box 30 [.nil]),(104,.box 56 [.sl 1 (x_2.map (eL 2 aY))]),(107,.box 30 [.nil])],[true,true,true,true,true,true,true,true,true,true],[6],[8,9]⟩,⟨[false,false,false,false,false,false,false,true,false,false],[(0,.b (.one (.sl 1 (fixed0.map eB)))),(4,Pt 101 0),(5,Pt 102 0),(6,Pt 104 0)],[(101,.box 30 [.nil]),(102,.box 30 [.nil]),(104,.box 56 [.sl 1 (x_2.map (eL 2 aY))]),(108,.box 30 [.nil])],[true,true,true,true,true,true,true,true,true,true],[7],[8,9]⟩,⟨[false,false,true,false,false,true,false,false,false,false],[(0,.b (.one (.sl 1 (fixed0.map eB)))),(4,Pt 101 0),(5,Pt 102 0),(6,Pt 104 0)],[(101,.box 30 [.nil]),(102,.box 30 [.nil]),(104,.box 56 [.sl 1 (x_2.map (eL 2 aY))]),(105,.row 3 1 (x_3.map eI)),(106,.row 3 1 (x_4.map eI))],[true,true,true,true,true,true,true,true,true,true],[0,1,2,3,4,5],[8,9]⟩,⟨[false,false,true,false,false,false,true,false,false,false],[(0,.b (.one (.sl 1 (fixed0.map eB)))),(4,Pt 101 0),(5,Pt 102 0),(6,Pt 104 0)],[(101,.box 30 [.nil]),(102,.box 30 [.nil]),(104,.box 56 [.sl 1 (x_2.map (eL 2 aY))]),(105,.row 3 1 (x_3.map eI)),(107,.box 30 [.nil])],[true,true,true,true,true,true,true,true,true,true],[0,1,2,6],[8,9]⟩,⟨[false,false,true,false,false,false,false,true,false,false],[(0,.b (.one (.sl 1 (fixed0.map eB)))),(4,Pt 101 0),(5,Pt 102 0),(6,Pt 104 0)],[(101,.box 30 [.nil]),(102,.box 30 [.nil]),(104,.box 56 [.sl 1 (x_2.map (eL 2 aY))]),(105,.row 3 1 (x_3.map eI)),(108,.box 30 [.nil])],[true,true,true,true,true,true,true,true,true,true],[0,1,2,7],[8,9]⟩,⟨[false,false,false,false,false,true,true,false,false,false],[(0,.b (.one (.sl 1 (fixed0.map eB)))),(4,Pt 101 0),(5,Pt 102 0),(6,Pt 104 0)],[(101,.box 30 [.nil]),(102,.box 30 [.nil]),(104,.box 56 [.sl 1 (x_2.map (eL 2 aY))]),(106,.row 3 1 (x_4.map eI)),(107,.box 30 [.nil])],[true,true,true,true,true,true,true,true,true,true],[3,4,5,6],[8,9]⟩,⟨[false,false,false,false,false,true,false,true,false,false],[(0,.b (.one (.sl 1 (fixed0.map eB)))),(4,Pt 101 0),(5,Pt 102 0),(6,Pt 104 0)],[(101,.box 30 [.nil]),(102,.box 30 [.nil]),(104,.box 56 [.sl 1 (x_2.map (eL 2 aY))]),(106,.row 3 1 (x_4.map eI)),(108,.box 30 [.nil])],[true,true,true,true,true,true,true,true,true,true],[3,4,5,7],[8,9]⟩,⟨[false,false,false,false,false,false,true,true,false,false],[(0,.b (.one (.sl 1 (fixed0.map eB)))),(4,Pt 101 0),(5,Pt 102 0),(6,Pt 104 0)],[(101,.box 30 [.nil]),(102,.box 30 [.nil]),(104,.box 56 [.sl 1 (x_2.map (eL 2 aY))]),(107,.box 30 [.nil]),(108,.box 30 [.nil])],[true,true,true,true,true,true,true,true,true,true],[6,7],[8,9]⟩,⟨[false,false,true,false,false,true,true,false,false,false],[(0,.b (.one (.sl 1 (fixed0.map eB)))),(4,Pt 101 0),(5,Pt 102 0),(6,Pt 104 0)],[(101,.box 30 [.nil]),(102,.box 30 [.nil]),(104,.box 56 [.sl 1 (x_2.map (eL 2 aY))]),(105,.row 3 1 (x_3.map eI)),(106,.row 3 1 (x_4.map eI)),(107,.box 30 [.nil])],[true,true,true,true,true,true,true,true,true,true],[0,1,2,3,4,5,6],[8,9]⟩,⟨[false,false,true,false,false,true,false,true,false,false],[(0,.b (.one (.sl 1 (fixed0.map eB)))),(4,Pt 101 0),(5,Pt 102 0),(6,Pt 104 0)],[(101,.box 30 [.nil]),(102,.box 30 [.nil]),(104,.box 56 [.sl 1 (x_2.map (eL 2 aY))]),(105,.row 3 1 (x_3.map eI)),(106,.row 3 1 (x_4.map eI)),(108,.box 30 [.nil])],[true,true,true,true,true,true,true,true,true,true],[0,1,2,3,4,5,7],[8,9]⟩,⟨[false,false,true,false,false,false,true,true,false,false],[(0,.b (.one (.sl 1 (fixed0.map eB)))),(4,Pt 101 0),(5,Pt 102 0),(6,Pt 104 0)],[(101,.box 30 [.nil]),(102,.box 30 [.nil]),(104,.box 56 [.sl 1 (x_2.map (eL 2 aY))]),(105,.row 3 1 (x_3.map eI)),(107,.box 30 [.nil]),(108,.box 30 [.nil])],[true,true,true,true,true,true,true,true,true,true],[0,1,2,6,7],[9]⟩,⟨[false,false,false,false,false,true,true,true,false,false],[(0,.b (.one (.sl 1 (fixed0.map eB)))),(4,Pt 101 0),(5,Pt 102 0),(6,Pt 104 0)],[(101,.box 30 [.nil]),(102,.box 30 [.nil]),(104,.box 56 [.sl 1 (x_2.map (eL 2 aY))]),(106,.row 3 1 (x_4.map eI)),(107,.box 30 [.nil]),(108,.box 30 [.nil])],[true,true,true,true,true,true,true,true,true,true],[3,4,5,6,7],[8,9]⟩,⟨[false,false,true,false,false,true,true,true,false,false],[(0,.b (.one (.sl 1 (fixed0.map eB)))),(4,Pt 101 0),(5,Pt 102 0),(6,Pt 104 0)],[(101,.box 30 [.nil]),(102,.box 30 [.nil]),(104,.box 56 [.sl 1 (x_2.map (eL 2 aY))]),(105,.row 3 1 (x_3.map eI)),(106,.row 3 1 (x_4.map eI)),(107,.box 30 [.nil]),(108,.box 30 [.nil])],[true,true,true,true,true,true,true,true,true,true],[0,1,2,3,4,5,6,7],[9]⟩,⟨[false,false,true,false,false,false,true,true,true,false],[(0,.b (.one (.sl 1 (fixed0.map eB)))),(4,Pt 101 0),(5,Pt 102 0),(6,Pt 104 0)],[(101,.box 30 [.nil]),(102,.box 30 [.nil]),(104,.box 56 [.sl 1 (x_2.map (eL 2 aY))]),(105,.row 3 1 (x_3.map eI)),(107,.ar 30 [.row 105]),(108,.box 30 [.nil])],[true,true,true,true,true,true,true,true,true,true],[0,1,2,6,7,8],[9]⟩,⟨[false,false,true,false,false,true,true,true,true,false],[(0,.b (.one (.sl 1 (fixed0.map eB)))),(4,Pt 101 0),(5,Pt 102 0),(6,Pt 104 0)],[(101,.box 30 [.nil]),(102,.box 30 [.nil]),(104,.box 56 [.sl 1 (x_2.map (eL 2 aY))]),(105,.row 3 1 (x_3.map eI)),(106,.row 3 1 (x_4.map eI)),(107,.ar 30 [.row 105]),(108,.box 30 [.nil])],[true,true,true,true,true,true,true,true,true,true],[0,1,2,3,4,5,6,7,8],[]⟩,⟨[false,false,true,false,false,true,true,true,true,true],[(0,.b (.one (.sl 1 (fixed0.map eB)))),(4,Pt 101 0),(5,Pt 102 0),(6,Pt 104 0)],[(101,.box 30 [.nil]),(102,.box 30 [.nil]),(104,.box 56 [.sl 1 (x_2.map (eL 2 aY))]),(105,.row 3 1 (x_3.map eI)),(106,.row 3 1 (x_4.map eI)),(107,.ar 30 [.row 105]),(108,.ar 30 [.row 106])],[true,true,true,true,true,true,true,true,true,true],[0,1,2,3,4,5,6,7,8,9],[]⟩] rfl (⟨by kernel_rfl,⟨⟨.b (.one (.sl 1 (fixed0.map eB))),fun _=>rfl,fun _=>.p (by exact aq rfl)⟩,⟨I (fixed0.length:Int),fun _=>rfl,fun _=>.p (by exact au cT rfl (List.length_map _))⟩,⟨_,[105],.b (.row 105),rfl,fun _=>rfl,rfl,rfl,fun _=>.fM [101,102,104,105] (by exact .p (by exact br (k:=105) (enc:=eI) ak e3 (by decide) (.cons .refl .nil) rfl rfl rfl)) (by exact rfl)⟩,⟨.b (.one (.sl 1 (fixed0.map eB))),fun _=>rfl,fun _=>.p (by exact aq rfl)⟩,⟨I (fixed0.length:Int),fun _=>rfl,fun _=>.p (by exact au cT rfl (List.length_map _))⟩,⟨_,[106],.b (.row 106),rfl,fun _=>rfl,rfl,rfl,fun _=>.fM [101,102,104,106] (by exact .p (by exact br (k:=106) (enc:=eI) ak e4 (by decide) (.cons .refl .nil) rfl rfl rfl)) (by exact rfl)⟩,⟨_,[107],Pt 107 0,rfl,fun _=>rfl,rfl,rfl,fun _=>.fM [101,102,104,107] (by exact .p (by exact bc (k:=107) cA rfl)) (by exact rfl)⟩,⟨_,[108],Pt 108 0,rfl,fun _=>rfl,rfl,rfl,fun _=>.fM [101,102,104,108] (by exact .p (by exact bc (k:=108) cA rfl)) (by exact rfl)⟩,trivial,trivial,trivial⟩,⟨by kernel_rfl,⟨trivial,trivial,trivial,⟨.b (.one (.sl 1 (fixed0.map eB))),fun _=>rfl,fun _=>.p (by exact aq rfl)⟩,⟨I (fixed0.length:Int),fun _=>rfl,fun _=>.p (by exact au cT rfl (List.length_map _))⟩,⟨_,[106],.b (.row 106),rfl,fun _=>rfl,rfl,rfl,fun _=>.fM [101,102,104,105,106] (by exact .p (by exact br (k:=106) (enc:=eI) ak e4 (by decide) (.cons .refl .nil) rfl rfl rfl)) (by exact rfl)⟩,⟨_,[107],Pt 107 0,rfl,fun _=>rfl,rfl,rfl,fun _=>.fM [101,102,104,105,107] (by exact .p (by exact bc (k:=107) cA rfl)) (by exact rfl)⟩,⟨_,[108],Pt 108 0,rfl,fun _=>rfl,rfl,rfl,fun _=>.fM [101,102,104,105,108] (by exact .p (by exact bc (k:=108) cA rfl)) (by exact rfl)⟩,trivial,trivial,trivial⟩,⟨by kernel_rfl,⟨⟨.b (.one (.sl 1 (fixed0.map eB))),fun _=>rfl,fun _=>.p (by exact aq rfl)⟩,⟨I (fixed0.length:Int),fun _=>rfl,fun _=>.p (by exact au cT rfl (List.length_map _))⟩,⟨_,[105],.b (.row 105),rfl,fun _=>rfl,rfl,rfl,fun _=>.fM [101,102,104,105,106] (by exact .p (by exact br (k:=105) (enc:=eI) ak e3 (by decide) (.cons .refl .nil) rfl rfl rfl)) (by exact rfl)⟩,trivial,trivial,trivial,⟨_,[107],Pt 107 0,rfl,fun _=>rfl,rfl,rfl,fun _=>.fM [101,102,104,106,107] (by exact .p (by exact bc (k:=107) cA rfl)) (by exact rfl)⟩,⟨_,[108],Pt 108 0,rfl,fun _=>rfl,rfl,rfl,fun _=>.fM [101,102,104,106,108] (by exact .p (by exact bc (k:=108) cA rfl)) (by exact rfl)⟩,trivial,trivial,trivial⟩,⟨by kernel_rfl,⟨⟨.b (.one (.sl 1 (fixed0.map eB))),fun _=>rfl,fun _=>.p (by exact aq rfl)⟩,⟨I (fixed0.length:Int),fun _=>rfl,fun _=>.p (by exact au cT rfl (List.length_map _))⟩,⟨_,[105],.b (.row 105),rfl,fun _=>rfl,rfl,rfl,fun _=>.fM [101,102,104,105,107] (by exact .p (by exact br (k:=105) (enc:=eI) ak e3 (by decide) (.cons .refl .nil) rfl rfl rfl)) (by exact rfl)⟩,⟨.b (.one (.sl 1 (fixed0.map eB))),fun _=>rfl,fun _=>.p (by exact aq rfl)⟩,⟨I (fixed0.length:Int),fun _=>rfl,fun _=>.p (by exact au cT rfl (List.length_map _))⟩,⟨_,[106],.b (.row 106),rfl,fun _=>rfl,rfl,rfl,fun _=>.fM [101,102,104,106,107] (by exact .p (by exact br (k:=106) (enc:=eI) ak e4 (by decide) (.cons .refl .nil) rfl rfl rfl)) (by exact rfl)⟩,trivial,⟨_,[108],Pt 108 0,rfl,fun _=>rfl,rfl,rfl,fun _=>.fM [101,102,104,107,108] (by exact .p (by exact bc (k:=108) cA rfl)) (by exact rfl)⟩,trivial,trivial,trivial⟩,⟨by kernel_rfl,⟨⟨.b (.one (.sl 1 (fixed0.map eB))),fun _=>rfl,fun _=>.p (by exact aq rfl)⟩,⟨I (fixed0.length:Int),fun _=>rfl,fun _=>.p (by exact au cT rfl (List.length_map _))⟩,⟨_,[105],.b (.row 105),rfl,fun _=>rfl,rfl,rfl,fun _=>.fM [101,102,104,105,108] (by exact .p (by exact br (k:=105) (enc:=eI) ak e3 (by decide) (.cons .refl .nil) rfl rfl rfl)) (by exact rfl)⟩,⟨.b (.one (.sl 1 (fixed0.map eB))),fun _=>rfl,fun _=>.p (by exact aq rfl)⟩,⟨I (fixed0.length:Int),fun _=>rfl,fun _=>.p (by exact au cT rfl (List.length_map _))⟩,⟨_,[106],.b (.row 106),rfl,fun _=>rfl,rfl,rfl,fun _=>.fM [101,102,104,106,108] (by exact .p (by exact br (k:=106) (enc:=eI) ak e4 (by decide) (.cons .refl .nil) rfl rfl rfl)) (by exact rfl)⟩,⟨_,[107],Pt 107 0,rfl,fun _=>rfl,rfl,rfl,fun _=>.fM [101,102,104,107,108] (by exact .p (by exact bc (k:=107) cA rfl)) (by exact rfl)⟩,trivial,trivial,trivial,trivial⟩,⟨by kernel_rfl,⟨trivial,trivial,trivial,trivial,trivial,trivial,⟨_,[107],Pt 107 0,rfl,fun _=>rfl,rfl,rfl,fun _=>.fM [101,102,104,105,106,107] (by exact .p (by exact bc (k:=107) cA rfl)) (by exact rfl)⟩,⟨_,[108],Pt 108 0,rfl,fun _=>rfl,rfl,rfl,fun _=>.fM [101,102,104,105,106,108] (by exact .p (by exact bc (k:=108) cA rfl)) (by exact rfl)⟩,trivial,trivial,trivial⟩,⟨by kernel_rfl,⟨trivial,trivial,trivial,⟨.b (.one (.sl 1 (fixed0.map eB))),fun _=>rfl,fun _=>.p (by exact aq rfl)⟩,⟨I (fixed0.length:Int),fun _=>rfl,fun _=>.p (by exact au cT rfl (List.length_map _))⟩,⟨_,[106],.b (.row 106),rfl,fun _=>rfl,rfl,rfl,fun _=>.fM [101,102,104,105,106,107] (by exact .p (by exact br (k:=106) (enc:=eI) ak e4 (by decide) (.cons .refl .nil) rfl rfl rfl)) (by exact rfl)⟩,trivial,⟨_,[108],Pt 108 0,rfl,fun _=>rfl,rfl,rfl,fun _=>.fM [101,102,104,105,107,108] (by exact .p (by exact bc (k:=108) cA rfl)) (by exact rfl)⟩,trivial,trivial,trivial⟩,⟨by kernel_rfl,⟨trivial,trivial,trivial,⟨.b (.one (.sl 1 (fixed0.map eB))),fun _=>rfl,fun _=>.p (by exact aq rfl)⟩,⟨I (fixed0.length:Int),fun _=>rfl,fun _=>.p (by exact au cT rfl (List.length_map _))⟩,⟨_,[106],.b (.row 106),rfl,fun _=>rfl,rfl,rfl,fun _=>.fM [101,102,104,105,106,108] (by exact .p (by exact br (k:=106) (enc:=eI) ak e4 (by decide) (.cons .refl .nil) rfl rfl rfl)) (by exact rfl)⟩,⟨_,[107],Pt 107 0,rfl,fun _=>rfl,rfl,rfl,fun _=>.fM [101,102,104,105,107,108] (by exact .p (by exact bc (k:=107) cA rfl)) (by exact rfl)⟩,trivial,trivial,trivial,trivial⟩,⟨by kernel_rfl,⟨⟨.b (.one (.sl 1 (fixed0.map eB))),fun _=>rfl,fun _=>.p (by exact aq rfl)⟩,⟨I (fixed0.length:Int),fun _=>rfl,fun _=>.p (by exact au cT rfl (List.length_map _))⟩,⟨_,[105],.b (.row 105),rfl,fun _=>rfl,rfl,rfl,fun _=>.fM [101,102,104,105,106,107] (by exact .p (by exact br (k:=105) (enc:=eI) ak e3 (by decide) (.cons .refl .nil) rfl rfl rfl)) (by exact rfl)⟩,trivial,trivial,trivial,trivial,⟨_,[108],Pt 108 0,rfl,fun _=>rfl,rfl,rfl,fun _=>.fM [101,102,104,106,107,108] (by exact .p (by exact bc (k:=108) cA rfl)) (by exact rfl)⟩,trivial,trivial,trivial⟩,⟨by kernel_rfl,⟨⟨.b (.one (.sl 1 (fixed0.map eB))),fun _=>rfl,fun _=>.p (by exact aq rfl)⟩,⟨I (fixed0.length:Int),fun _=>rfl,fun _=>.p (by exact au cT rfl (List.length_map _))⟩,⟨_,[105],.b (.row 105),rfl,fun _=>rfl,rfl,rfl,fun _=>.fM [101,102,104,105,106,108] (by exact .p (by exact br (k:=105) (enc:=eI) ak e3 (by decide) (.cons .refl .nil) rfl rfl rfl)) (by exact rfl)⟩,trivial,trivial,trivial,⟨_,[107],Pt 107 0,rfl,fun _=>rfl,rfl,rfl,fun _=>.fM [101,102,104,106,107,108] (by exact .p (by exact bc (k:=107) cA rfl)) (by exact rfl)⟩,trivial,trivial,trivial,trivial⟩,⟨by kernel_rfl,⟨⟨.b (.one (.sl 1 (fixed0.map eB))),fun _=>rfl,fun _=>.p (by exact aq rfl)⟩,⟨I (fixed0.length:Int),fun _=>rfl,fun _=>.p (by exact au cT rfl (List.length_map _))⟩,⟨_,[105],.b (.row 105),rfl,fun _=>rfl,rfl,rfl,fun _=>.fM [101,102,104,105,107,108] (by exact .p (by exact br (k:=105) (enc:=eI) ak e3 (by decide) (.cons .refl .nil) rfl rfl rfl)) (by exact rfl)⟩,⟨.b (.one (.sl 1 (fixed0.map eB))),fun _=>rfl,fun _=>.p (by exact aq rfl)⟩,⟨I (fixed0.length:Int),fun _=>rfl,fun _=>.p (by exact au cT rfl (List.length_map _))⟩,⟨_,[106],.b (.row 106),rfl,fun _=>rfl,rfl,rfl,fun _=>.fM [101,102,104,106,107,108] (by exact .p (by exact br (k:=106) (enc:=eI) ak e4 (by decide) (.cons .refl .nil) rfl rfl rfl)) (by exact rfl)⟩,trivial,trivial,trivial,trivial,trivial⟩,⟨by kernel_rfl,⟨trivial,trivial,trivial,trivial,trivial,trivial,trivial,⟨_,[108],Pt 108 0,rfl,fun _=>rfl,rfl,rfl,fun _=>.fM [101,102,104,105,106,107,108] (by exact .p (by exact bc (k:=108) cA rfl)) (by exact rfl)⟩,trivial,trivial,trivial⟩,⟨by kernel_rfl,⟨trivial,trivial,trivial,trivial,trivial,trivial,⟨_,[107],Pt 107 0,rfl,fun _=>rfl,rfl,rfl,fun _=>.fM [101,102,104,105,106,107,108] (by exact .p (by exact bc (k:=107) cA rfl)) (by exact rfl)⟩,trivial,trivial,trivial,trivial⟩,⟨by kernel_rfl,⟨trivial,trivial,trivial,⟨.b (.one (.sl 1 (fixed0.map eB))),fun _=>rfl,fun _=>.p (by exact aq rfl)⟩,⟨I (fixed0.length:Int),fun _=>rfl,fun _=>.p (by exact au cT rfl (List.length_map _))⟩,⟨_,[106],.b (.row 106),rfl,fun _=>rfl,rfl,rfl,fun _=>.fM [101,102,104,105,106,107,108] (by exact .p (by exact br (k:=106) (enc:=eI) ak e4 (by decide) (.cons .refl .nil) rfl rfl rfl)) (by exact rfl)⟩,trivial,trivial,⟨_,[],.b (.one .any),rfl,(fun e=>by simp at e),rfl,rfl,fun _=>.fM [101,102,104,105,107,108] (by exact .n4 107 rfl (.plain rfl (dN aU rfl rfl rfl rfl (Nat.le_of_ble_eq_true rfl) rfl))) (by exact rfl)⟩,trivial,trivial⟩,⟨by kernel_rfl,⟨⟨.b (.one (.sl 1 (fixed0.map eB))),fun _=>rfl,fun _=>.p (by exact aq rfl)⟩,⟨I (fixed0.length:Int),fun _=>rfl,fun _=>.p (by exact au cT rfl (List.length_map _))⟩,⟨_,[105],.b (.row 105),rfl,fun _=>rfl,rfl,rfl,fun _=>.fM [101,102,104,105,106,107,108] (by exact .p (by exact br (k:=105) (enc:=eI) ak e3 (by decide) (.cons .refl .nil) rfl rfl rfl)) (by exact rfl)⟩,trivial,trivial,trivial,trivial,trivial,trivial,trivial,trivial⟩,⟨by kernel_rfl,⟨trivial,trivial,trivial,trivial,trivial,trivial,trivial,trivial,⟨_,[],.b (.one .any),rfl,(fun e=>by simp at e),rfl,rfl,fun _=>.fM [101,102,104,105,106,107,108] (by exact .n4 107 rfl (.plain rfl (dN aU rfl rfl rfl rfl (Nat.le_of_ble_eq_true rfl) rfl))) (by exact rfl)⟩,trivial,trivial⟩,⟨by kernel_rfl,⟨trivial,trivial,trivial,⟨.b (.one (.sl 1 (fixed0.map eB))),fun _=>rfl,fun _=>.p (by exact aq rfl)⟩,⟨I (fixed0.length:Int),fun _=>rfl,fun _=>.p (by exact au cT rfl (List.length_map _))⟩,⟨_,[106],.b (.row 106),rfl,fun _=>rfl,rfl,rfl,fun _=>.fM [101,102,104,105,106,107,108] (by exact .p (by exact br (k:=106) (enc:=eI) ak e4 (by decide) (.cons .refl .nil) rfl rfl rfl)) (by exact rfl)⟩,trivial,trivial,trivial,trivial,trivial⟩,⟨by kernel_rfl,⟨trivial,trivial,trivial,trivial,trivial,trivial,trivial,trivial,trivial,⟨_,[],.b (.one .any),rfl,(fun e=>by simp at e),rfl,rfl,fun _=>.fM [101,102,104,105,106,107,108] (by exact .n4 108 rfl (.plain rfl (dN aU rfl rfl rfl rfl (Nat.le_of_ble_eq_true rfl) rfl))) (by exact rfl)⟩,trivial⟩,⟨by kernel_rfl,⟨trivial,trivial,trivial,trivial,trivial,trivial,trivial,trivial,trivial,trivial,trivial⟩,trivial⟩⟩⟩⟩⟩⟩⟩⟩⟩⟩⟩⟩⟩⟩⟩⟩⟩⟩⟩) rfl rfl rfl [0,4,5,6,7,8] [101,102,104,105,106,107,108] (s':=⟨[(0,.b (.one (.sl 1 (fixed0.map eB)))),(4,Pt 101 0),(5,Pt 102 0),(6,Pt 104 0),(7,Pt 107 0),(8,Pt 108 0)],[(101,.box 30 [.nil]),(102,.box 30 [.nil]),(104,.box 56 [.sl 1 (x_2.map (eL 2 aY))]),(105,.row 3 1 (x_3.map eI)),(106,.row 3 1 (x_4.map eI)),(107,.ar 30 [.row 105]),(108,.ar 30 [.row 106])]⟩) rfl ?_
 refine ab.seq (ab.aa ?_)
 refine Oc (bc (k:=109) tyZero3 rfl) (Oc (gn aw rfl rfl rfl (Nat.le_of_ble_eq_true rfl) rfl) ?_)
 refine ae.af ⟨[(0,_),(4,_),(5,_),(6,_),(7,_),(8,_),(9,Pt 109 0)],[(101,_),(102,_),(104,_),(105,_),(106,_),(107,_),(108,_),(109,.box 3 [.i 0])]⟩ rfl (ab.seq (ab.aa ?_))
 refine Oc (bc (k:=110) tt rfl) (ae.af ⟨[(0,_),(4,_),(5,_),(6,_),(7,_),(8,_),(9,_),(10,Pt 110 0)],[(101,_),(102,_),(104,_),(105,_),(106,_),(107,_),(108,_),(109,_),(110,.box 80 [.raw .nilFunc])]⟩ rfl (ab.seq (ab.aa ?_)))
 refine Oc (qc rfl rfl) (ae.n4 110 rfl (Oc (dN oT rfl rfl rfl rfl (Nat.le_of_ble_eq_true rfl) rfl) (ae.af ⟨[(0,.b (.one (.sl 1 (fixed0.map eB)))),(4,Pt 101 0),(5,Pt 102 0),(7,Pt 107 0),(10,Pt 110 0)],[(101,.box 30 [.nil]),(102,.box 30 [.nil]),(104,.box 56 [.sl 1 (x_2.map (eL 2 aY))]),(105,.row 3 1 (x_3.map eI)),(106,.row 3 1 (x_4.map eI)),(107,.ar 30 [.row 105]),(108,.ar 30 [.row 106]),(109,.box 3 [.i 0]),(110,.ar 80 [.gJ 53 [] [.ptr 109 0,.ptr 107 0,.ptr 108 0,.ptr 104 0,.ptr 110 0,.ptr 102 0,.ptr 101 0]])]⟩ rfl ?_)))
 obtain ⟨v5,h6,h⟩:=aG h
 refine ab.bM (v:=v5) (bK fun (keysf0_5:List Int) (bridgesf0_6:List Int)=>⟨[(4,Pt 101 0),(5,Pt 102 0)],[(101,.ar 30 [.row 112]),(102,.ar 30 [.row 111]),(111,.row 3 1 (bridgesf0_6.map eI)),(112,.row 3 1 (keysf0_5.map eI))]⟩) (fun z=>z) ?_ ?_
 ·refine ab.seq (ab.aa ?_)
  refine Oc om (Oc (au cT rfl (List.length_map _)) (Oc om ?_))
  refine ae.af ⟨[(4,Pt 101 0),(5,Pt 102 0),(7,Pt 107 0),(10,Pt 110 0),(27,.b (.one (.sl 1 (fixed0.map eB)))),(28,I (fixed0.length:Int)),(29,I 0)],[(101,.box 30 [.nil]),(102,.box 30 [.nil]),(104,.box 56 [.sl 1 (x_2.map (eL 2 aY))]),(105,.row 3 1 (x_3.map eI)),(106,.row 3 1 (x_4.map eI)),(107,.ar 30 [.row 105]),(108,.ar 30 [.row 106]),(109,.box 3 [.i 0]),(110,.ar 80 [.gJ 53 [] [.ptr 109 0,.ptr 107 0,.ptr 108 0,.ptr 104 0,.ptr 110 0,.ptr 102 0,.ptr 101 0]])]⟩ rfl (ab.block (ab.n4 101 rfl (ab.ir 101 0 112 1 3 rfl rfl (by decide) (by decide) rfl (ab.n4 102 rfl (ab.ir 102 0 111 1 3 rfl rfl (by decide) (by decide) rfl ?_)))))
  refine ab.bS h6 (un6 fun (keysf0_7:List Int) (bridgesf0_8:List Int) (seenf0_9:List Int) (visitf0_10:Int) (visitf0f0_11:List Int) (x_12:Int)=>⟨[(4,Pt 101 0),(5,Pt 102 0),(7,Pt 107 0),(10,Pt 110 0),(27,.b (.one (.sl 1 (fixed0.map eB)))),(28,I (fixed0.length:Int)),(29,I x_12)],[(101,.ar 30 [.row 112]),(102,.ar 30 [.row 111]),(104,.box 56 [.sl 1 (x_2.map (eL 2 aY))]),(105,.row 3 1 (seenf0_9.map eI)),(106,.row 3 1 (visitf0f0_11.map eI)),(107,.ar 30 [.row 105]),(108,.ar 30 [.row 106]),(109,.box 3 [.i visitf0_10]),(110,.ar 80 [.gJ 53 [] [.ptr 109 0,.ptr 107 0,.ptr 108 0,.ptr 104 0,.ptr 110 0,.ptr 102 0,.ptr 101 0]]),(111,.row 3 1 (bridgesf0_8.map eI)),(112,.row 3 1 (keysf0_7.map eI))]⟩) [4,5,7,10,27,28,29] [101,102,104,105,106,107,108,109,110,111,112] rfl ?_
  rintro ⟨keysf0_7,bridgesf0_8,seenf0_9,visitf0_10,visitf0f0_11,x_12⟩ o7 h8 hy9
  refine ab.seq (ab.aa ?_)
  refine Oc (a7 rfl rfl) (ae.af ⟨[(4,_),(5,_),(7,_),(10,_),(27,_),(28,_),(29,_),(30,B (decide (x_12 < (fixed0.length:Int))))],[(101,_),(102,_),(104,_),(105,_),(106,_),(107,_),(108,_),(109,_),(110,_),(111,_),(112,_)]⟩ rfl (ab.seq (ab.ite h8 rfl (fun _ h8=>?_) (fun _ h8=>?_))))
  ·refine ab.skip (Fin.ag ⟨[(4,_),(5,_),(7,_),(10,_),(27,_),(28,_),(29,_)],[(101,_),(102,_),(104,_),(105,_),(106,_),(107,_),(108,_),(109,_),(110,_),(111,_),(112,_)]⟩ rfl (Fin.then ?_))
   obtain ⟨v10,h11,h8⟩:=aG h8
   refine ab.bM (v:=v10) (un5 fun (keysf0_15:List Int) (bridgesf0_16:List Int) (seenf0_17:List Int) (visitf0_18:Int) (visitf0f0_19:List Int)=>⟨[(4,Pt 101 0),(5,Pt 102 0),(7,Pt 107 0),(10,Pt 110 0),(27,.b (.one (.sl 1 (fixed0.map eB)))),(28,I (fixed0.length:Int)),(29,I x_12)],[(101,.ar 30 [.row 112]),(102,.ar 30 [.row 111]),(104,.box 56 [.sl 1 (x_2.map (eL 2 aY))]),(105,.row 3 1 (seenf0_17.map eI)),(106,.row 3 1 (visitf0f0_19.map eI)),(107,.ar 30 [.row 105]),(108,.ar 30 [.row 106]),(109,.box 3 [.i visitf0_18]),(110,.ar 80 [.gJ 53 [] [.ptr 109 0,.ptr 107 0,.ptr 108 0,.ptr 104 0,.ptr 110 0,.ptr 102 0,.ptr 101 0]]),(111,.row 3 1 (bridgesf0_16.map eI)),(112,.row 3 1 (keysf0_15.map eI))]⟩) (fun z=>z) ?_ ?_
   ·refine ab.block (ab.seq (ab.aa ?_))
    refine Oc om ?_
    obtain ⟨x_20,e12,h11⟩:=aG h11
    refine Oc (aA iC (aD e12) (aB (e:=eB) e12) rfl rfl) (Oc (ax je rfl rfl) (Oc oa (Oc oa ?_)))
    refine ae.af ⟨[(4,_),(5,_),(7,_),(10,_),(11,I x_12),(12,B x_20),(27,_),(28,_),(29,_)],[(101,_),(102,_),(104,_),(105,_),(106,_),(107,_),(108,_),(109,_),(110,_),(111,_),(112,_)]⟩ rfl (ab.seq (ab.aa ?_))
    refine Oc om (Oc (cU rfl) (Oc om ?_))
    refine cS (!x_20) [] (fun g13=>trivial) (fun g13=>a6 aU rfl rfl rfl) (cS (!x_20) [] (fun g14=>trivial) (fun g14=>om) ?_)
    obtain ⟨x_21,e16,h11⟩:=aG h11
    refine cS (!x_20) [37,38] (fun g15=>⟨g15,g15,trivial⟩) (fun g15=>ao ak (aD (gc e16 g15)) (aQ (gc e16 g15)) rfl rfl rfl rfl) (cS (!x_20) [39] (fun g17=>⟨g17,trivial⟩) (fun g17=>aH (i:=(x_12:Int).toNat) (f:=0) aw rfl rfl rfl (aB (e:=eI) (gc e16 g17)) rfl) (cS (!x_20) [40] (fun g18=>⟨g18,trivial⟩) (fun g18=>dd rfl rfl) (Oc (aM (fun e=>e) rfl rfl rfl rfl) (ae.af ⟨[(4,_),(5,_),(7,_),(10,_),(11,_),(27,_),(28,_),(29,_),(42,B ((!x_20) && (decide (x_21 = 0))))],[(101,_),(102,_),(104,_),(105,_),(106,_),(107,_),(108,_),(109,_),(110,_),(111,_),(112,_)]⟩ rfl (ab.ite h11 rfl (fun _ h11=>?_) (fun _ h11=>?_))))))
    ·refine ab.aa (Oc (a6 oT rfl rfl rfl) (Oc om ?_))
     obtain ⟨⟨x_22,x_23,x_24,x_25,x_26⟩,e19,h11⟩:=aG h11
     refine Oc (pN (own_a:=[(109,_),(107,_),(105,_),(108,_),(106,_),(104,_),(110,_),(102,_),(111,_),(101,_),(112,_)]) (av.cast (own2:=[(109,.box 3 [.i visitf0_10]),(107,.ar 30 [.row 105]),(105,.row 3 1 (seenf0_9.map eI)),(108,.ar 30 [.row 106]),(106,.row 3 1 (visitf0f0_11.map eI)),(104,.box 56 [.sl 1 (x_2.map (eL 2 aY))]),(110,.ar 80 [.gJ 53 [] [.ptr 109 0,.ptr 107 0,.ptr 108 0,.ptr 104 0,.ptr 110 0,.ptr 102 0,.ptr 101 0]]),(102,.ar 30 [.row 111]),(111,.row 3 1 (bridgesf0_8.map eI)),(101,.ar 30 [.row 112]),(112,.row 3 1 (keysf0_7.map eI))]) (args2:=[.one (.i x_12),.one (.i (-1)),.ptr 109 0,.ptr 107 0,.ptr 108 0,.ptr 104 0,.ptr 110 0,.ptr 102 0,.ptr 101 0]) (own2':=[(109,.box 3 [.i x_22]),(107,.ar 30 [.row 105]),(105,.row 3 1 (x_23.map eI)),(108,.ar 30 [.row 106]),(106,.row 3 1 (x_24.map eI)),(104,.box 56 [.sl 1 (x_2.map (eL 2 aY))]),(110,.ar 80 [.gJ 53 [] [.ptr 109 0,.ptr 107 0,.ptr 108 0,.ptr 104 0,.ptr 110 0,.ptr 102 0,.ptr 101 0]]),(102,.ar 30 [.row 111]),(111,.row 3 1 (x_25.map eI)),(101,.ar 30 [.row 112]),(112,.row 3 1 (x_26.map eI))]) (res2:=.eT []) ((((((((((((lp e19).sw 1 109).sw 2 107).sw 3 105).sw 4 108).sw 5 106).sw 6 104).sw 7 110).sw 8 102).sw 9 111).sw 10 101).sw 11 112) (by kernel_rfl) (by kernel_rfl) (by kernel_rfl) (by kernel_rfl)) sW rfl rfl rfl ⟨rfl,rfl,rfl,rfl,rfl,rfl,rfl,rfl,rfl,rfl,rfl,trivial⟩ rfl rfl) (ae.ag ⟨[(4,Pt 101 0),(5,Pt 102 0),(7,Pt 107 0),(10,Pt 110 0),(11,I x_12),(27,.b (.one (.sl 1 (fixed0.map eB)))),(28,I (fixed0.length:Int)),(29,I x_12),(42,B ((!x_20) && (decide (x_21 = 0)))),(43,.b (.gJ 53 [] [.ptr 109 0,.ptr 107 0,.ptr 108 0,.ptr 104 0,.ptr 110 0,.ptr 102 0,.ptr 101 0])),(44,I x_12),(45,.eT [])],[(101,.ar 30 [.row 112]),(102,.ar 30 [.row 111]),(104,.box 56 [.sl 1 (x_2.map (eL 2 aY))]),(105,.row 3 1 (x_23.map eI)),(106,.row 3 1 (x_24.map eI)),(107,.ar 30 [.row 105]),(108,.ar 30 [.row 106]),(109,.box 3 [.i x_22]),(110,.ar 80 [.gJ 53 [] [.ptr 109 0,.ptr 107 0,.ptr 108 0,.ptr 104 0,.ptr 110 0,.ptr 102 0,.ptr 101 0]]),(111,.row 3 1 (x_25.map eI)),(112,.row 3 1 (x_26.map eI))]⟩ (by kernel_rfl) (ae.nil (Fin.ai ?_)))
     exact Fin.join [4,5,7,10,27,28,29] [101,102,104,105,106,107,108,109,110,111,112] (x_26,x_25,x_23,x_22,x_24) (Option.some.inj h11) rfl
    ·refine ab.skip (Fin.ai ?_)
     exact Fin.join [4,5,7,10,27,28,29] [101,102,104,105,106,107,108,109,110,111,112] (keysf0_7,bridgesf0_8,seenf0_9,visitf0_10,visitf0f0_11) (Option.some.inj h11) rfl
   ·rintro ⟨keysf0_15,bridgesf0_16,seenf0_17,visitf0_18,visitf0f0_19⟩ hv
    subst v10
    refine ab.aa (Oc (aS rfl rfl) (Oc om ?_))
    refine ae.nil ?_
    exact Fin.bl [4,5,7,10,27,28,29] [101,102,104,105,106,107,108,109,110,111,112] (keysf0_15,bridgesf0_16,seenf0_17,visitf0_18,visitf0f0_19,IntKind.i64.wrap (x_12 + 1)) (Option.some.inj h8) rfl
  ·refine ab.exit (Fin.aj ?_)
   obtain rfl:=hy9 _ (Option.some.inj h8).symm
   refine Fin.aj (Fin.ay ?_)
   exact Fin.join [4,5] [101,102,111,112] (keysf0_7,bridgesf0_8) rfl rfl
 ·rintro ⟨keysf0_5,bridgesf0_6⟩ hv
  subst v5
  refine ab.seq (ab.aa ?_)
  refine Oc (a6 aU rfl rfl rfl) (ae.kH 112 rfl ?_)
  obtain ⟨x_27,e20,h⟩:=aG h
  refine Oc (bg (own_a:=[(112,_)]) ((eG e20).sw 1 112) oP rfl ⟨rfl,trivial⟩ rfl rfl) (ae.lr 112 rfl (ae.af ⟨[(4,_),(5,_)],[(101,_),(102,_),(111,_),(112,.row 3 1 (x_27.map eI))]⟩ rfl (ab.seq (ab.aa ?_))))
  refine Oc (a6 aU rfl rfl rfl) (ae.kH 111 rfl ?_)
  obtain ⟨x_28,e21,h⟩:=aG h
  refine Oc (bg (own_a:=[(111,_)]) ((eG e21).sw 1 111) oP rfl ⟨rfl,trivial⟩ rfl rfl) (ae.lr 111 rfl (ae.af ⟨[(4,_),(5,_)],[(101,_),(102,_),(111,.row 3 1 (x_28.map eI)),(112,_)]⟩ rfl (ab.seq (ab.nf mixed [false,false,true,true] [.b (.row 112),.b (.row 111),B true,B true] [⟨[false,false,false,false],[(4,Pt 101 0),(5,Pt 102 0)],[(101,.ar 30 [.row 112]),(102,.ar 30 [.row 111]),(111,.row 3 1 (x_28.map eI)),(112,.row 3 1 (x_27.map eI))],[true,true,true,true],[],[3]⟩,⟨[false,false,true,false],[(4,Pt 101 0),(5,Pt 102 0)],[(101,.ar 30 [.row 112]),(102,.ar 30 [.row 111]),(111,.row 3 1 (x_28.map eI)),(112,.row 3 1 (x_27.map eI))],[true,true,true,true],[0,2],[]⟩,⟨[false,false,true,true],[(4,Pt 101 0),(5,Pt 102 0)],[(101,.ar 30 [.row 112]),(102,.ar 30 [.row 111]),(111,.row 3 1 (x_28.map eI)),(112,.row 3 1 (x_27.map eI))],[true,true,true,true],[0,1,2,3],[]⟩] rfl (⟨by kernel_rfl,⟨⟨.b (.row 112),fun _=>rfl,fun _=>.p (by exact a6 aU rfl rfl rfl)⟩,⟨.b (.row 111),fun _=>rfl,fun _=>.p (by exact a6 aU rfl rfl rfl)⟩,⟨_,[],.b (.one .any),rfl,(fun e=>by simp at e),rfl,rfl,fun _=>.fM [101,102,111,112] (by exact .p (by exact dN aU rfl rfl rfl rfl (Nat.le_of_ble_eq_true rfl) rfl)) (by exact rfl)⟩,trivial,trivial⟩,⟨by kernel_rfl,⟨trivial,⟨.b (.row 111),fun _=>rfl,fun _=>.p (by exact a6 aU rfl rfl rfl)⟩,trivial,⟨_,[],.b (.one .any),rfl,(fun e=>by simp at e),rfl,rfl,fun _=>.fM [101,102,111,112] (by exact .p (by exact dN aU rfl rfl rfl rfl (Nat.le_of_ble_eq_true rfl) rfl)) (by exact rfl)⟩,trivial⟩,⟨by kernel_rfl,⟨trivial,trivial,trivial,trivial,trivial⟩,trivial⟩⟩⟩) rfl rfl rfl [4,5] [101,102,111,112] (s':=⟨[(4,_),(5,_)],[(101,_),(102,_),(111,_),(112,_)]⟩) rfl (ab.ret ?_)))))
  obtain rfl:=Option.some.inj h
  refine Fin.ag ⟨[(4,Pt 101 0),(5,Pt 102 0)],[(101,.ar 30 [.row 112]),(102,.ar 30 [.row 111]),(111,.row 3 1 (x_28.map eI)),(112,.row 3 1 (x_27.map eI))]⟩ rfl (Fin.bB 112 rfl (Fin.unX 101 rfl rfl (Fin.bB 111 rfl (Fin.unX 102 rfl rfl (Fin.aP [.one (.sl 1 (x_27.map eI)),.one (.sl 1 (x_28.map eI))] (.inl rfl) rfl (.cons (.one aU rfl rfl rfl) (.cons (.one aU rfl rfl rfl) .nil)) ⟨rfl,rfl⟩)))))
def eH (F:Nat) (fixed0:List Bool) (links0:List A2):Option ((List Int) × Int) :=
 (bR F fixed0 links0).bind fun x_1=>if (!x_1) = true then (some ([],1)) else (Option.bind (eW F fixed0 links0) (bK fun x_2 x_3=>some (x_3,0)))
theorem kM {F:Nat} {fixed0:List Bool} {links0:List A2} {r:(List Int) × Int} (h:eH F fixed0 links0 = some r):av Try.prog [] 22 [] [.one (.sl 1 (fixed0.map eB)),.one (.sl 2 (links0.map (bW .i64)))] (Is [] (.eT [.one (.sl 1 (r.1.map eI)),.one (.i r.2)])):=by
 unfold eH at h
 refine av.intro 19 Try.func22 Try.ntmps22 rfl (by simp) fun E=>?_
 show ab _ E ⟨19,[],[],[]⟩ _ ⟨[(0,.b (.one (.sl 1 (fixed0.map eB)))),(1,.b (.one (.sl 2 (links0.map (bW .i64)))))],[]⟩ _
 refine ab.seq (ab.aa ?_)
 refine Oc oa (Oc oa ?_)
 refine ae.af ⟨[(0,.b (.one (.sl 1 (fixed0.map eB)))),(1,.b (.one (.sl 2 (links0.map (bW .i64)))))],[]⟩ rfl (ab.seq (ab.seq (ab.aa ?_)))
 refine Oc om (Oc om ?_)
 obtain ⟨x_1,e1,h⟩:=aG h
 refine Oc (aO (cF e1) mo rfl rfl) (Oc (cU rfl) ?_)
 refine ae.af ⟨[(0,_),(1,_),(11,B (!x_1))],[]⟩ rfl (ab.ite h rfl (fun _ h=>?_) (fun _ h=>?_))
 ·refine ab.seq (ab.aa ?_)
  refine Oc oa (Oc oa ?_)
  refine ae.af ⟨[(4,.b (.one (.nil))),(5,I 1)],[]⟩ rfl (ab.ret (Fin.aR ?_))
  obtain rfl:=Option.some.inj h
  refine Fin.ag ⟨[(4,_),(5,_)],[]⟩ rfl (Fin.iO 4 1 rfl (by decide) (Fin.aP [.one (.sl 1 ([].map eI)),.one (.i 1)] (.inl rfl) rfl (.cons (.tmp rfl) (.cons (.tmp rfl) .nil)) ⟨rfl,rfl⟩))
 ·refine ab.skip (Fin.ag ⟨[(0,_),(1,_)],[]⟩ rfl (Fin.then (ab.seq (ab.aa ?_))))
  refine Oc om (Oc om ?_)
  obtain ⟨⟨x_2,x_3⟩,e2,h⟩:=aG h
  refine Oc (aO (iZ e2) s6 rfl rfl) (Oc om (Oc (aI rfl rfl) ?_))
  refine ae.ag ⟨[(12,.eT [.one (.sl 1 (x_2.map eI)),.one (.sl 1 (x_3.map eI))]),(16,.b (.one (.sl 1 (x_2.map eI))))],[]⟩ rfl (Oc (aI rfl rfl) (Oc oa (Oc oa ?_)))
  refine ae.af ⟨[(7,.b (.one (.sl 1 (x_3.map eI))))],[]⟩ rfl (ab.seq (ab.aa ?_))
  refine Oc om (Oc oa (Oc oa ?_))
  refine ae.af ⟨[(4,.b (.one (.sl 1 (x_3.map eI)))),(5,I 0)],[]⟩ rfl (ab.ret ?_)
  obtain rfl:=Option.some.inj h
  refine Fin.ag ⟨[(4,_),(5,_)],[]⟩ rfl (Fin.aP [.one (.sl 1 (x_3.map eI)),.one (.i 0)] (.inl rfl) rfl (.cons (.tmp rfl) (.cons (.tmp rfl) .nil)) ⟨rfl,rfl⟩)
def gg (F:Nat) (fixed0:List Bool) (links0:List A2):Option ((List Int) × Int) :=
 (bR F fixed0 links0).bind fun x_1=>if (!x_1) = true then (some ([],1)) else (Option.bind (eW F fixed0 links0) (bK fun x_2 x_3=>some (x_2,0)))
theorem mP {F:Nat} {fixed0:List Bool} {links0:List A2} {r:(List Int) × Int} (h:gg F fixed0 links0 = some r):av Try.prog [] 21 [] [.one (.sl 1 (fixed0.map eB)),.one (.sl 2 (links0.map (bW .i64)))] (Is [] (.eT [.one (.sl 1 (r.1.map eI)),.one (.i r.2)])):=by
 unfold gg at h
 refine av.intro 19 Try.func21 Try.ntmps21 rfl (by simp) fun E=>?_
 show ab _ E ⟨19,[],[],[]⟩ _ ⟨[(0,.b (.one (.sl 1 (fixed0.map eB)))),(1,.b (.one (.sl 2 (links0.map (bW .i64)))))],[]⟩ _
 refine ab.seq (ab.aa ?_)
 refine Oc oa (Oc oa ?_)
 refine ae.af ⟨[(0,.b (.one (.sl 1 (fixed0.map eB)))),(1,.b (.one (.sl 2 (links0.map (bW .i64)))))],[]⟩ rfl (ab.seq (ab.seq (ab.aa ?_)))
 refine Oc om (Oc om ?_)
 obtain ⟨x_1,e1,h⟩:=aG h
 refine Oc (aO (cF e1) mo rfl rfl) (Oc (cU rfl) ?_)
 refine ae.af ⟨[(0,_),(1,_),(11,B (!x_1))],[]⟩ rfl (ab.ite h rfl (fun _ h=>?_) (fun _ h=>?_))
 ·refine ab.seq (ab.aa ?_)
  refine Oc oa (Oc oa ?_)
  refine ae.af ⟨[(4,.b (.one (.nil))),(5,I 1)],[]⟩ rfl (ab.ret (Fin.aR ?_))
  obtain rfl:=Option.some.inj h
  refine Fin.ag ⟨[(4,_),(5,_)],[]⟩ rfl (Fin.iO 4 1 rfl (by decide) (Fin.aP [.one (.sl 1 ([].map eI)),.one (.i 1)] (.inl rfl) rfl (.cons (.tmp rfl) (.cons (.tmp rfl) .nil)) ⟨rfl,rfl⟩))
 ·refine ab.skip (Fin.ag ⟨[(0,_),(1,_)],[]⟩ rfl (Fin.then (ab.seq (ab.aa ?_))))
  refine Oc om (Oc om ?_)
  obtain ⟨⟨x_2,x_3⟩,e2,h⟩:=aG h
  refine Oc (aO (iZ e2) s6 rfl rfl) (Oc om (Oc (aI rfl rfl) ?_))
  refine ae.ag ⟨[(12,.eT [.one (.sl 1 (x_2.map eI)),.one (.sl 1 (x_3.map eI))]),(16,.b (.one (.sl 1 (x_2.map eI))))],[]⟩ rfl (Oc (aI rfl rfl) (Oc oa (Oc oa ?_)))
  refine ae.af ⟨[(6,.b (.one (.sl 1 (x_2.map eI))))],[]⟩ rfl (ab.seq (ab.aa ?_))
  refine Oc om (Oc oa (Oc oa ?_))
  refine ae.af ⟨[(4,.b (.one (.sl 1 (x_2.map eI)))),(5,I 0)],[]⟩ rfl (ab.ret ?_)
  obtain rfl:=Option.some.inj h
  refine Fin.ag ⟨[(4,_),(5,_)],[]⟩ rfl (Fin.aP [.one (.sl 1 (x_2.map eI)),.one (.i 0)] (.inl rfl) rfl (.cons (.tmp rfl) (.cons (.tmp rfl) .nil)) ⟨rfl,rfl⟩)
def fH (F:Nat) (lists0:List (List (List Int))):Option (List (List Int)) :=
 Option.bind (iter F (bK fun up_2 x_3=>if (decide (x_3 < (lists0.length:Int))) = true then (Option.bind ((aE lists0 x_3).bind fun x_6=>Option.bind (iter F (bK fun up_7 x_8=>if (decide (x_8 < (x_6.length:Int))) = true then (Option.bind ((aE x_6 x_8).bind fun x_11=>Option.bind (iter F (bK fun up_12 x_13=>if (decide (x_13 < (x_11.length:Int))) = true then ((aE x_11 x_13).bind fun x_15=>(aE x_11 0).bind fun x_16=>Option.bind (bU F x_16 x_15 up_12) (bK fun x_17 x_18=>some (.inl (x_18,IntKind.i64.wrap (x_13 + 1))))) else (some (.inr up_12))) (up_7,0)) (fun up_14=>some up_14)) (fun up_10=>some (.inl (up_10,IntKind.i64.wrap (x_8 + 1))))) else (some (.inr up_7))) (up_2,0)) (fun up_9=>some up_9)) (fun up_5=>some (.inl (up_5,IntKind.i64.wrap (x_3 + 1))))) else (some (.inr up_2))) (([]:bm),0)) (fun up_1=>Option.bind (bH F up_1) (bK fun x_19 x_20=>some x_19))
theorem l7 {F:Nat} {lists0:List (List (List Int))} {r:(List (List Int))} (h:fH F lists0 = some r):av Try.prog [] 27 [] [.one (.sl 1 (lists0.map (eL 1 (eL 1 eI))))] (Is [] (.b (.one (.sl 1 (r.map (eL 1 eI)))))):=by
 unfold fH at h
 refine av.intro 41 Try.func27 Try.ntmps27 rfl (by simp) fun E=>?_
 show ab _ E ⟨41,[],[],[]⟩ _ ⟨[(0,.b (.one (.sl 1 (lists0.map (eL 1 (eL 1 eI))))))],[]⟩ _
 refine ab.seq (ab.aa ?_)
 refine Oc oa (ae.af ⟨[(0,.b (.one (.sl 1 (lists0.map (eL 1 (eL 1 eI))))))],[]⟩ rfl (ab.seq (ab.aa ?_)))
 refine Oc (iz (k:=101) mb rfl) (Oc ((nG oo rfl rfl).k4 rfl) (Oc (bc (k:=102) iP rfl) ?_))
 refine ae.n4 102 rfl (Oc (fv cX rfl rfl rfl rfl rfl (Nat.le_of_ble_eq_true rfl) rfl) (ae.af ⟨[(0,.b (.one (.sl 1 (lists0.map (eL 1 (eL 1 eI)))))),(3,Pt 102 0)],[(101,.mq ([]:bm)),(102,.ar 52 [.row 101])]⟩ rfl ?_))
 obtain ⟨v1,h2,h⟩:=aG h
 refine ab.bM (v:=v1) (fun (up_1:bm)=>⟨[(3,Pt 102 0)],[(101,.mq up_1),(102,.ar 52 [.row 101])]⟩) (fun z=>z) ?_ ?_
 ·refine ab.seq (ab.aa ?_)
  refine Oc om (Oc (au und41 rfl (List.length_map _)) (Oc om ?_))
  refine ae.af ⟨[(3,_),(12,.b (.one (.sl 1 (lists0.map (eL 1 (eL 1 eI)))))),(13,I (lists0.length:Int)),(14,I 0)],[(101,_),(102,_)]⟩ rfl (ab.block (ab.bS h2 (bK fun (up_2:bm) (x_3:Int)=>⟨[(3,Pt 102 0),(12,.b (.one (.sl 1 (lists0.map (eL 1 (eL 1 eI)))))),(13,I (lists0.length:Int)),(14,I x_3)],[(101,.mq up_2),(102,.ar 52 [.row 101])]⟩) [3,12,13,14] [101,102] rfl ?_))
  rintro ⟨up_2,x_3⟩ o3 h4 hy5
  refine ab.seq (ab.aa ?_)
  refine Oc (a7 rfl rfl) (ae.af ⟨[(3,_),(12,_),(13,_),(14,_),(15,B (decide (x_3 < (lists0.length:Int))))],[(101,_),(102,_)]⟩ rfl (ab.seq (ab.ite h4 rfl (fun _ h4=>?_) (fun _ h4=>?_))))
  ·refine ab.skip (Fin.ag ⟨[(3,_),(12,_),(13,_),(14,_)],[(101,_),(102,_)]⟩ rfl (Fin.then ?_))
   obtain ⟨v6,h7,h4⟩:=aG h4
   refine ab.bM (v:=v6) (fun (up_5:bm)=>⟨[(3,Pt 102 0),(12,.b (.one (.sl 1 (lists0.map (eL 1 (eL 1 eI)))))),(13,I (lists0.length:Int)),(14,I x_3)],[(101,.mq up_5),(102,.ar 52 [.row 101])]⟩) (fun z=>z) ?_ ?_
   ·refine ab.block (ab.seq (ab.aa ?_))
    obtain ⟨x_6,e8,h7⟩:=aG h7
    refine Oc (aA sM (aD e8) (aB (e:=(eL 1 (eL 1 eI))) e8) rfl rfl) (Oc (ax q8 rfl rfl) (Oc oa ?_))
    refine ae.af ⟨[(3,_),(5,.b (.one (.sl 1 (x_6.map (eL 1 eI))))),(12,_),(13,_),(14,_)],[(101,_),(102,_)]⟩ rfl (ab.seq (ab.aa ?_))
    refine Oc om (Oc (au jz rfl (List.length_map _)) (Oc om ?_))
    refine ae.af ⟨[(3,_),(12,_),(13,_),(14,_),(18,.b (.one (.sl 1 (x_6.map (eL 1 eI))))),(19,I (x_6.length:Int)),(20,I 0)],[(101,_),(102,_)]⟩ rfl (ab.block ?_)
    obtain ⟨v9,h10,h7⟩:=aG h7
    refine ab.bS h10 (bK fun (up_7:bm) (x_8:Int)=>⟨[(3,Pt 102 0),(12,.b (.one (.sl 1 (lists0.map (eL 1 (eL 1 eI)))))),(13,I (lists0.length:Int)),(14,I x_3),(18,.b (.one (.sl 1 (x_6.map (eL 1 eI))))),(19,I (x_6.length:Int)),(20,I x_8)],[(101,.mq up_7),(102,.ar 52 [.row 101])]⟩) [3,12,13,14,18,19,20] [101,102] rfl ?_
    rintro ⟨up_7,x_8⟩ o11 h12 hy13
    refine ab.seq (ab.aa ?_)
    refine Oc (a7 rfl rfl) (ae.af ⟨[(3,_),(12,_),(13,_),(14,_),(18,_),(19,_),(20,_),(21,B (decide (x_8 < (x_6.length:Int))))],[(101,_),(102,_)]⟩ rfl (ab.seq (ab.ite h12 rfl (fun _ h12=>?_) (fun _ h12=>?_))))
    ·refine ab.skip (Fin.ag ⟨[(3,_),(12,_),(13,_),(14,_),(18,_),(19,_),(20,_)],[(101,_),(102,_)]⟩ rfl (Fin.then ?_))
     obtain ⟨v14,h15,h12⟩:=aG h12
     refine ab.bM (v:=v14) (fun (up_10:bm)=>⟨[(3,Pt 102 0),(12,.b (.one (.sl 1 (lists0.map (eL 1 (eL 1 eI)))))),(13,I (lists0.length:Int)),(14,I x_3),(18,.b (.one (.sl 1 (x_6.map (eL 1 eI))))),(19,I (x_6.length:Int)),(20,I x_8)],[(101,.mq up_10),(102,.ar 52 [.row 101])]⟩) (fun z=>z) ?_ ?_
     ·refine ab.block (ab.seq (ab.aa ?_))
      obtain ⟨x_11,e16,h15⟩:=aG h15
      refine Oc (aA bN (aD e16) (aB (e:=(eL 1 eI)) e16) rfl rfl) (Oc (ax aU rfl rfl) (Oc oa ?_))
      refine ae.af ⟨[(3,_),(7,.b (.one (.sl 1 (x_11.map eI)))),(12,_),(13,_),(14,_),(18,_),(19,_),(20,_)],[(101,_),(102,_)]⟩ rfl (ab.seq (ab.aa ?_))
      refine Oc om (Oc (au fN rfl (List.length_map _)) (Oc om ?_))
      refine ae.af ⟨[(3,_),(7,_),(12,_),(13,_),(14,_),(18,_),(19,_),(20,_),(24,.b (.one (.sl 1 (x_11.map eI)))),(25,I (x_11.length:Int)),(26,I 0)],[(101,_),(102,_)]⟩ rfl (ab.block ?_)
      obtain ⟨v17,h18,h15⟩:=aG h15
      refine ab.bS h18 (bK fun (up_12:bm) (x_13:Int)=>⟨[(3,Pt 102 0),(7,.b (.one (.sl 1 (x_11.map eI)))),(12,.b (.one (.sl 1 (lists0.map (eL 1 (eL 1 eI)))))),(13,I (lists0.length:Int)),(14,I x_3),(18,.b (.one (.sl 1 (x_6.map (eL 1 eI))))),(19,I (x_6.length:Int)),(20,I x_8),(24,.b (.one (.sl 1 (x_11.map eI)))),(25,I (x_11.length:Int)),(26,I x_13)],[(101,.mq up_12),(102,.ar 52 [.row 101])]⟩) [3,7,12,13,14,18,19,20,24,25,26] [101,102] rfl ?_
      rintro ⟨up_12,x_13⟩ o19 h20 hy21
      refine ab.seq (ab.aa ?_)
      refine Oc (a7 rfl rfl) (ae.af ⟨[(3,_),(7,_),(12,_),(13,_),(14,_),(18,_),(19,_),(20,_),(24,_),(25,_),(26,_),(27,B (decide (x_13 < (x_11.length:Int))))],[(101,_),(102,_)]⟩ rfl (ab.seq (ab.ite h20 rfl (fun _ h20=>?_) (fun _ h20=>?_))))
      ·refine ab.skip (Fin.ag ⟨[(3,_),(7,_),(12,_),(13,_),(14,_),(18,_),(19,_),(20,_),(24,_),(25,_),(26,_)],[(101,_),(102,_)]⟩ rfl (Fin.then (ab.seq (ab.block (ab.seq (ab.aa ?_))))))
       obtain ⟨x_15,e22,h20⟩:=aG h20
       refine Oc (aA ak (aD e22) (aB (e:=eI) e22) rfl rfl) (Oc (ax aw rfl rfl) (Oc oa ?_))
       refine ae.af ⟨[(3,_),(7,_),(9,I x_15),(12,_),(13,_),(14,_),(18,_),(19,_),(20,_),(24,_),(25,_),(26,_)],[(101,_),(102,_)]⟩ rfl ?_
       obtain ⟨x_16,e23,h20⟩:=aG h20
       obtain ⟨⟨x_17,x_18⟩,e24,h20⟩:=aG h20
       refine ab.jV mixed 5 [.b (.xa [.row 101]),.b (.one (.sl 1 (x_11.map eI))),.b (.cz [.i x_16]),I x_16,I x_15] [3,7,12,13,14,18,19,20,24,25,26] [101,102] (s':=⟨[(3,_),(7,_),(12,_),(13,_),(14,_),(18,_),(19,_),(20,_),(24,_),(25,_),(26,_)],[(101,.mq x_18),(102,_)]⟩) rfl ⟨fun _=>.p ((cN cX rfl rfl rfl rfl).k4 rfl),fun _=>.p om,fun _=>.p (aA ak (aD e23) (aB (e:=eI) e23) rfl rfl),fun _=>.p (ax aw rfl rfl),fun _=>.p om,trivial⟩ ⟨_,by exact .p (bg (own_a:=[(101,_)]) ((fc e24).sw 1 101) s4 rfl ⟨rfl,trivial⟩ rfl rfl),rfl⟩ rfl (Fin.ai (Fin.ag ⟨[(3,_),(7,_),(12,_),(13,_),(14,_),(18,_),(19,_),(20,_),(24,_),(25,_),(26,_)],[(101,_),(102,_)]⟩ rfl (Fin.then (ab.aa ?_))))
       refine Oc (aS rfl rfl) (Oc om ?_)
       refine ae.nil ?_
       exact Fin.bl [3,7,12,13,14,18,19,20,24,25,26] [101,102] (x_18,IntKind.i64.wrap (x_13 + 1)) (Option.some.inj h20) rfl
      ·refine ab.exit (Fin.aj ?_)
       obtain rfl:=hy21 _ (Option.some.inj h20).symm
       refine Fin.aj (Fin.ay (Fin.ai ?_))
       exact Fin.join [3,12,13,14,18,19,20] [101,102] up_12 (Option.some.inj h15) rfl
     ·rintro up_10 hv
      subst v14
      refine ab.aa (Oc (aS rfl rfl) (Oc om ?_))
      refine ae.nil ?_
      exact Fin.bl [3,12,13,14,18,19,20] [101,102] (up_10,IntKind.i64.wrap (x_8 + 1)) (Option.some.inj h12) rfl
    ·refine ab.exit (Fin.aj ?_)
     obtain rfl:=hy13 _ (Option.some.inj h12).symm
     refine Fin.aj (Fin.ay (Fin.ai ?_))
     exact Fin.join [3,12,13,14] [101,102] up_7 (Option.some.inj h7) rfl
   ·rintro up_5 hv
    subst v6
    refine ab.aa (Oc (aS rfl rfl) (Oc om ?_))
    refine ae.nil ?_
    exact Fin.bl [3,12,13,14] [101,102] (up_5,IntKind.i64.wrap (x_3 + 1)) (Option.some.inj h4) rfl
  ·refine ab.exit (Fin.aj ?_)
   obtain rfl:=hy5 _ (Option.some.inj h4).symm
   refine Fin.aj (Fin.ay ?_)
   exact Fin.join [3] [101,102] up_2 rfl rfl
 ·rintro up_1 hv
  subst v1
  refine ab.seq (ab.aa ?_)
  refine Oc ((cN cX rfl rfl rfl rfl).k4 rfl) ?_
  obtain ⟨⟨x_19,x_20⟩,e25,h⟩:=aG h
  refine Oc (bg (own_a:=[(101,_)]) ((fb e25).sw 1 101) qz rfl ⟨rfl,trivial⟩ rfl rfl) (Oc oa ?_)
  refine ae.af ⟨[(2,.b (.one (.sl 1 (x_19.map (eL 1 eI)))))],[]⟩ rfl (ab.ret ?_)
  obtain rfl:=Option.some.inj h
  refine Fin.ag ⟨[(2,_)],[]⟩ rfl (Fin.aP [.one (.sl 1 (x_19.map (eL 1 eI)))] (.inl rfl) rfl (.cons (.tmp rfl) .nil) ⟨rfl,rfl⟩)
def bd (F:Nat) (a0:List Int) (b0:List Int):Option Bool :=
 if (decide ((a0.length:Int) ≠ (b0.length:Int))) = true then (some false) else (Option.bind (iter F (fun i_1=>if (decide (i_1 < (a0.length:Int))) = true then ((aE a0 i_1).bind fun x_2=>(aE b0 i_1).bind fun x_3=>if (decide (x_2 ≠ x_3)) = true then (some (.inr (.inr false))) else (some (.inl (IntKind.i64.wrap (i_1 + 1))))) else (some (.inr (.inl ())))) 0) (iM (fun _=>some true) (fun y=>some y)))
theorem bw {F:Nat} {a0:List Int} {b0:List Int} {r:Bool} (h:bd F a0 b0 = some r):av Try.prog [] 19 [] [.one (.sl 1 (a0.map eI)),.one (.sl 1 (b0.map eI))] (Is [] (.b (.one (.bool r)))):=by
 unfold bd at h
 refine av.intro 26 Try.func19 Try.ntmps19 rfl (by simp) fun E=>?_
 show ab _ E ⟨26,[],[],[]⟩ _ ⟨[(0,.b (.one (.sl 1 (a0.map eI)))),(1,.b (.one (.sl 1 (b0.map eI))))],[]⟩ _
 refine ab.seq (ab.aa ?_)
 refine Oc oa (ae.af ⟨[(0,.b (.one (.sl 1 (a0.map eI)))),(1,.b (.one (.sl 1 (b0.map eI))))],[]⟩ rfl (ab.seq (ab.seq (ab.aa ?_))))
 refine Oc om (Oc (au fN rfl (List.length_map _)) (Oc om (Oc (au fN rfl (List.length_map _)) (Oc (mf rfl rfl) ?_))))
 refine ae.af ⟨[(0,_),(1,_),(10,B (decide ((a0.length:Int) ≠ (b0.length:Int))))],[]⟩ rfl (ab.ite h rfl (fun _ h=>?_) (fun _ h=>?_))
 ·refine ab.seq (ab.aa ?_)
  refine Oc oa (ae.af ⟨[(4,B false)],[]⟩ rfl (ab.ret (Fin.aR ?_)))
  obtain rfl:=Option.some.inj h
  refine Fin.ag ⟨[(4,_)],[]⟩ rfl (Fin.aP [.one (.bool false)] (.inl rfl) rfl (.cons (.tmp rfl) .nil) ⟨rfl,rfl⟩)
 ·refine ab.skip (Fin.ag ⟨[(0,_),(1,_)],[]⟩ rfl (Fin.then ?_))
  obtain ⟨v1,h2,h⟩:=aG h
  refine ab.bM (v:=v1) (fun (_:Unit)=>⟨[],[]⟩) (fun z=>.inl z) ?_ ?_
  ·refine ab.seq (ab.aa ?_)
   refine Oc oa (ae.af ⟨[(0,_),(1,_),(5,I 0)],[]⟩ rfl (ab.block (ab.bS h2 (fun (i_1:Int)=>⟨[(0,.b (.one (.sl 1 (a0.map eI)))),(1,.b (.one (.sl 1 (b0.map eI)))),(5,I i_1)],[]⟩) [0,1,5] [] rfl ?_)))
   rintro i_1 o3 h4 hy5
   refine ab.seq (ab.seq (ab.aa ?_))
   refine Oc om (Oc om (Oc (au fN rfl (List.length_map _)) (Oc (a7 rfl rfl) ?_)))
   refine ae.af ⟨[(0,_),(1,_),(5,_),(14,B (decide (i_1 < (a0.length:Int))))],[]⟩ rfl (ab.ite h4 rfl (fun _ h4=>?_) (fun _ h4=>?_))
   ·refine ab.skip (Fin.ag ⟨[(0,_),(1,_),(5,_)],[]⟩ rfl (Fin.then (ab.seq (ab.block (ab.seq ?_)))))
    refine ab.ag ⟨[(0,_),(1,_),(5,_)],[]⟩ rfl ?_
    obtain ⟨x_2,e6,h4⟩:=aG h4
    obtain ⟨x_3,e7,h4⟩:=aG h4
    refine ab.dX mixed 9 [.b (.one (.sl 1 (a0.map eI))),I i_1,.b (.cz [.i x_2]),I x_2,.b (.one (.sl 1 (b0.map eI))),I i_1,.b (.cz [.i x_3]),I x_3,B (decide (x_2 ≠ x_3))] [0,1,5,25] [] (s':=⟨[(0,_),(1,_),(5,_),(25,B (decide (x_2 ≠ x_3)))],[]⟩) rfl ⟨fun _=>.p om,fun _=>.p om,fun _=>.p (aA ak (aD e6) (aB (e:=eI) e6) rfl rfl),fun _=>.p (ax aw rfl rfl),fun _=>.p om,fun _=>.p om,fun _=>.p (aA ak (aD e7) (aB (e:=eI) e7) rfl rfl),fun _=>.p (ax aw rfl rfl),fun _=>.p (mf rfl rfl),trivial⟩ rfl rfl (ab.ite h4 rfl (fun _ h4=>?_) (fun _ h4=>?_))
    ·refine ab.seq (ab.aa ?_)
     refine Oc oa (ae.af ⟨[(4,B false)],[]⟩ rfl (ab.ret (Fin.cZ (Fin.aR ?_))))
     obtain rfl:=hy5 _ (Option.some.inj h4).symm
     refine Fin.aR (Fin.cZ (Fin.aR ?_))
     obtain rfl:=Option.some.inj h
     refine Fin.ag ⟨[(4,_)],[]⟩ rfl (Fin.aP [.one (.bool false)] (.inl rfl) rfl (.cons (.tmp rfl) .nil) ⟨rfl,rfl⟩)
    ·refine ab.skip (Fin.ai (Fin.ag ⟨[(0,_),(1,_),(5,_)],[]⟩ rfl (Fin.then (ab.aa ?_))))
     refine Oc om (Oc (aS rfl rfl) (Oc oa ?_))
     refine ae.nil ?_
     exact Fin.bl [0,1,5] [] (IntKind.i64.wrap (i_1 + 1)) (Option.some.inj h4) rfl
   ·refine ab.exit (Fin.aj ?_)
    obtain rfl:=hy5 _ (Option.some.inj h4).symm
    refine Fin.aj (Fin.ay ?_)
    exact Fin.join [] [] () rfl rfl
  ·rintro _ hv
   subst v1
   refine ab.seq (ab.aa ?_)
   refine Oc oa (ae.af ⟨[(4,B true)],[]⟩ rfl (ab.ret ?_))
   obtain rfl:=Option.some.inj h
   refine Fin.ag ⟨[(4,_)],[]⟩ rfl (Fin.aP [.one (.bool true)] (.inl rfl) rfl (.cons (.tmp rfl) .nil) ⟨rfl,rfl⟩)
def bE (F:Nat) (a0:List (List Int)) (b0:List (List Int)):Option Bool :=
 if (decide ((a0.length:Int) ≠ (b0.length:Int))) = true then (some false) else (Option.bind (iter F (fun i_1=>if (decide (i_1 < (a0.length:Int))) = true then ((aE a0 i_1).bind fun x_2=>(aE b0 i_1).bind fun x_3=>(bd F x_2 x_3).bind fun x_4=>if (!x_4) = true then (some (.inr (.inr false))) else (some (.inl (IntKind.i64.wrap (i_1 + 1))))) else (some (.inr (.inl ())))) 0) (iM (fun _=>some true) (fun y=>some y)))
theorem dg {F:Nat} {a0:List (List Int)} {b0:List (List Int)} {r:Bool} (h:bE F a0 b0 = some r):av Try.prog [] 18 [] [.one (.sl 1 (a0.map (eL 1 eI))),.one (.sl 1 (b0.map (eL 1 eI)))] (Is [] (.b (.one (.bool r)))):=by
 unfold bE at h
 refine av.intro 27 Try.func18 Try.ntmps18 rfl (by simp) fun E=>?_
 show ab _ E ⟨27,[],[],[]⟩ _ ⟨[(0,.b (.one (.sl 1 (a0.map (eL 1 eI))))),(1,.b (.one (.sl 1 (b0.map (eL 1 eI)))))],[]⟩ _
 refine ab.seq (ab.aa ?_)
 refine Oc oa (ae.af ⟨[(0,.b (.one (.sl 1 (a0.map (eL 1 eI))))),(1,.b (.one (.sl 1 (b0.map (eL 1 eI)))))],[]⟩ rfl (ab.seq (ab.seq (ab.aa ?_))))
 refine Oc om (Oc (au jz rfl (List.length_map _)) (Oc om (Oc (au jz rfl (List.length_map _)) (Oc (mf rfl rfl) ?_))))
 refine ae.af ⟨[(0,_),(1,_),(10,B (decide ((a0.length:Int) ≠ (b0.length:Int))))],[]⟩ rfl (ab.ite h rfl (fun _ h=>?_) (fun _ h=>?_))
 ·refine ab.seq (ab.aa ?_)
  refine Oc oa (ae.af ⟨[(4,B false)],[]⟩ rfl (ab.ret (Fin.aR ?_)))
  obtain rfl:=Option.some.inj h
  refine Fin.ag ⟨[(4,_)],[]⟩ rfl (Fin.aP [.one (.bool false)] (.inl rfl) rfl (.cons (.tmp rfl) .nil) ⟨rfl,rfl⟩)
 ·refine ab.skip (Fin.ag ⟨[(0,_),(1,_)],[]⟩ rfl (Fin.then ?_))
  obtain ⟨v1,h2,h⟩:=aG h
  refine ab.bM (v:=v1) (fun (_:Unit)=>⟨[],[]⟩) (fun z=>.inl z) ?_ ?_
  ·refine ab.seq (ab.aa ?_)
   refine Oc oa (ae.af ⟨[(0,_),(1,_),(5,I 0)],[]⟩ rfl (ab.block (ab.bS h2 (fun (i_1:Int)=>⟨[(0,.b (.one (.sl 1 (a0.map (eL 1 eI))))),(1,.b (.one (.sl 1 (b0.map (eL 1 eI))))),(5,I i_1)],[]⟩) [0,1,5] [] rfl ?_)))
   rintro i_1 o3 h4 hy5
   refine ab.seq (ab.seq (ab.aa ?_))
   refine Oc om (Oc om (Oc (au jz rfl (List.length_map _)) (Oc (a7 rfl rfl) ?_)))
   refine ae.af ⟨[(0,_),(1,_),(5,_),(14,B (decide (i_1 < (a0.length:Int))))],[]⟩ rfl (ab.ite h4 rfl (fun _ h4=>?_) (fun _ h4=>?_))
   ·refine ab.skip (Fin.ag ⟨[(0,_),(1,_),(5,_)],[]⟩ rfl (Fin.then (ab.seq (ab.block (ab.seq ?_)))))
    refine ab.ag ⟨[(0,_),(1,_),(5,_)],[]⟩ rfl ?_
    obtain ⟨x_2,e6,h4⟩:=aG h4
    obtain ⟨x_3,e7,h4⟩:=aG h4
    obtain ⟨x_4,e8,h4⟩:=aG h4
    refine ab.dX mixed 10 [.b (.one (.sl 1 (a0.map (eL 1 eI)))),I i_1,.b (.cz [.sl 1 (x_2.map eI)]),.b (.one (.sl 1 (x_2.map eI))),.b (.one (.sl 1 (b0.map (eL 1 eI)))),I i_1,.b (.cz [.sl 1 (x_3.map eI)]),.b (.one (.sl 1 (x_3.map eI))),B x_4,B (!x_4)] [0,1,5,26] [] (s':=⟨[(0,_),(1,_),(5,_),(26,B (!x_4))],[]⟩) rfl ⟨fun _=>.p om,fun _=>.p om,fun _=>.p (aA bN (aD e6) (aB (e:=(eL 1 eI)) e6) rfl rfl),fun _=>.p (ax aU rfl rfl),fun _=>.p om,fun _=>.p om,fun _=>.p (aA bN (aD e7) (aB (e:=(eL 1 eI)) e7) rfl rfl),fun _=>.p (ax aU rfl rfl),fun _=>.p (aO (bw e8) jP rfl rfl),fun _=>.p (cU rfl),trivial⟩ rfl rfl (ab.ite h4 rfl (fun _ h4=>?_) (fun _ h4=>?_))
    ·refine ab.seq (ab.aa ?_)
     refine Oc oa (ae.af ⟨[(4,B false)],[]⟩ rfl (ab.ret (Fin.cZ (Fin.aR ?_))))
     obtain rfl:=hy5 _ (Option.some.inj h4).symm
     refine Fin.aR (Fin.cZ (Fin.aR ?_))
     obtain rfl:=Option.some.inj h
     refine Fin.ag ⟨[(4,_)],[]⟩ rfl (Fin.aP [.one (.bool false)] (.inl rfl) rfl (.cons (.tmp rfl) .nil) ⟨rfl,rfl⟩)
    ·refine ab.skip (Fin.ai (Fin.ag ⟨[(0,_),(1,_),(5,_)],[]⟩ rfl (Fin.then (ab.aa ?_))))
     refine Oc om (Oc (aS rfl rfl) (Oc oa ?_))
     refine ae.nil ?_
     exact Fin.bl [0,1,5] [] (IntKind.i64.wrap (i_1 + 1)) (Option.some.inj h4) rfl
   ·refine ab.exit (Fin.aj ?_)
    obtain rfl:=hy5 _ (Option.some.inj h4).symm
    refine Fin.aj (Fin.ay ?_)
    exact Fin.join [] [] () rfl rfl
  ·rintro _ hv
   subst v1
   refine ab.seq (ab.aa ?_)
   refine Oc oa (ae.af ⟨[(4,B true)],[]⟩ rfl (ab.ret ?_))
   obtain rfl:=Option.some.inj h
   refine Fin.ag ⟨[(4,_)],[]⟩ rfl (Fin.aP [.one (.bool true)] (.inl rfl) rfl (.cons (.tmp rfl) .nil) ⟨rfl,rfl⟩)
def ca (F:Nat):Option Bool :=
 Option.bind (cP F [true,false,false,false,false,false,false] [(⟨0,1⟩:A2),(⟨1,2⟩:A2),(⟨2,3⟩:A2),(⟨1,3⟩:A2),(⟨4,5⟩:A2),(⟨0,4⟩:A2)]) (bK fun x_1 x_2=>Option.bind (bQ F [true,false,false,false,false,false,false] [(⟨0,1⟩:A2),(⟨1,2⟩:A2),(⟨2,3⟩:A2),(⟨1,3⟩:A2),(⟨4,5⟩:A2),(⟨0,4⟩:A2)]) (bK fun x_3 x_4=>Option.bind (cB F [true,false,false,false,false,false,false] [(⟨0,1⟩:A2),(⟨1,2⟩:A2),(⟨2,3⟩:A2),(⟨1,3⟩:A2),(⟨4,5⟩:A2),(⟨0,4⟩:A2)]) (bK fun x_5 x_6=>Option.bind (gu F [true,false,false,false,false,false,false] [(⟨0,1⟩:A2),(⟨1,2⟩:A2),(⟨2,3⟩:A2),(⟨1,3⟩:A2),(⟨4,5⟩:A2),(⟨0,4⟩:A2)]) (bK fun x_7 x_8=>Option.bind (eH F [true,false,false,false,false,false,false] [(⟨0,1⟩:A2),(⟨1,2⟩:A2),(⟨2,3⟩:A2),(⟨1,3⟩:A2),(⟨4,5⟩:A2),(⟨0,4⟩:A2)]) (bK fun x_9 x_10=>(dv [(⟨0,1⟩:A2),(⟨1,2⟩:A2),(⟨2,3⟩:A2),(⟨1,3⟩:A2),(⟨4,5⟩:A2),(⟨0,4⟩:A2)] [(⟨3,6⟩:A2)]).bind fun x_11=>Option.bind (gg F [true,false,false,false,false,false,false] x_11) (bK fun x_12 x_13=>(fH F [[[1,2],[4,5]],[[2,3],[6]]]).bind fun x_14=>dI (((decide (x_2 = 0)) && (decide (x_4 = 0))) && (decide (x_6 = 0))) fun x_15=>dI (((x_15 && (decide (x_8 = 0))) && (decide (x_10 = 0))) && (decide (x_13 = 0))) fun x_16=>(cy x_16 (bE F x_1 [[1,2,3],[4,5],[6]])).bind fun x_17=>(cy (x_16 && x_17) (bd F x_3 [0,1,2,2,1,2,(-1)])).bind fun x_18=>(cy ((x_16 && x_17) && x_18) (bd F x_5 [1,2,3,4,5,6])).bind fun x_19=>(cy (((x_16 && x_17) && x_18) && x_19) (bd F x_7 [1,2,4])).bind fun x_20=>(cy ((((x_16 && x_17) && x_18) && x_19) && x_20) (bd F x_9 [4])).bind fun x_21=>(cy (((((x_16 && x_17) && x_18) && x_19) && x_20) && x_21) (bd F x_12 [3])).bind fun x_22=>dI ((((((x_16 && x_17) && x_18) && x_19) && x_20) && x_21) && x_22) fun x_23=>(cy x_23 (bE F x_14 [[1,2,3],[4,5],[6]])).bind fun x_24=>some (x_23 && x_24)))))))
theorem eO {F:Nat} {r:Bool} (h:ca F = some r):av Try.prog [] 11 [] [] (Is [] (.b (.one (.bool r)))):=by
 unfold ca at h
 refine av.intro 135 Try.func11 Try.ntmps11 rfl (by simp) fun E=>?_
 show ab _ E ⟨135,[],[],[]⟩ _ ⟨[],[]⟩ _
 refine ab.seq (ab.aa ?_)
 refine Oc oa (ae.af ⟨[],[]⟩ rfl (ab.seq (ab.aa ?_)))
 refine Oc (kf (es:=[true,false,false,false,false,false,false].map eB) iC rfl rfl (aW fun _=>rfl) rfl (by decide) (by decide)) (Oc oa ?_)
 refine ae.af ⟨[(1,.b (.one (.slf 1 ([true,false,false,false,false,false,false].map eB))))],[]⟩ rfl (ab.seq (ab.aa ?_))
 refine Oc (fS fR rfl rfl) (Oc (fS fR rfl rfl) (Oc (fS fR rfl rfl) (Oc (fS fR rfl rfl) (Oc (fS fR rfl rfl) (Oc (fS fR rfl rfl) ?_)))))
 refine Oc (kf (es:=[(⟨0,1⟩:A2),(⟨1,2⟩:A2),(⟨2,3⟩:A2),(⟨1,3⟩:A2),(⟨4,5⟩:A2),(⟨0,4⟩:A2)].map (bW .i64)) ed rfl rfl (aW fun _=>rfl) rfl (by decide) (by decide)) (Oc oa ?_)
 refine ae.af ⟨[(1,_),(2,.b (.one (.slf 2 ([(⟨0,1⟩:A2),(⟨1,2⟩:A2),(⟨2,3⟩:A2),(⟨1,3⟩:A2),(⟨4,5⟩:A2),(⟨0,4⟩:A2)].map (bW .i64)))))],[]⟩ rfl (ab.seq (ab.aa ?_))
 refine Oc om (Oc om ?_)
 refine ae.gS 27 rfl (ae.gS 28 rfl (ae.ag ⟨[(1,_),(2,_),(27,.b (.one (.sl 1 ([true,false,false,false,false,false,false].map eB)))),(28,.b (.one (.sl 2 ([(⟨0,1⟩:A2),(⟨1,2⟩:A2),(⟨2,3⟩:A2),(⟨1,3⟩:A2),(⟨4,5⟩:A2),(⟨0,4⟩:A2)].map (bW .i64)))))],[]⟩ rfl ?_))
 obtain ⟨⟨x_1,x_2⟩,e1,h⟩:=aG h
 refine Oc (aO (ja e1) qD rfl rfl) (Oc om (Oc (aI rfl rfl) (Oc (aI rfl rfl) (Oc oa (Oc oa ?_)))))
 refine ae.af ⟨[(1,_),(2,_),(3,.b (.one (.sl 1 (x_1.map (eL 1 eI))))),(4,I x_2)],[]⟩ rfl (ab.seq (ab.aa ?_))
 refine Oc om (Oc om ?_)
 refine ae.gS 33 rfl (ae.gS 34 rfl (ae.ag ⟨[(1,_),(2,_),(3,_),(4,_),(33,.b (.one (.sl 1 ([true,false,false,false,false,false,false].map eB)))),(34,.b (.one (.sl 2 ([(⟨0,1⟩:A2),(⟨1,2⟩:A2),(⟨2,3⟩:A2),(⟨1,3⟩:A2),(⟨4,5⟩:A2),(⟨0,4⟩:A2)].map (bW .i64)))))],[]⟩ rfl ?_))
 obtain ⟨⟨x_3,x_4⟩,e2,h⟩:=aG h
 refine Oc (bg (fj 103 e2) qC rfl trivial rfl rfl) (Oc om (Oc (aI rfl rfl) (Oc (aI rfl rfl) (Oc oa (Oc oa ?_)))))
 refine ae.af ⟨[(1,_),(2,_),(3,_),(4,_),(5,.b (.row 103)),(6,I x_4)],[(103,.row 3 1 (x_3.map eI))]⟩ rfl (ab.seq (ab.aa ?_))
 refine Oc om (Oc om ?_)
 refine ae.gS 39 rfl (ae.gS 40 rfl (ae.ag ⟨[(1,_),(2,_),(3,_),(4,_),(5,_),(6,_),(39,.b (.one (.sl 1 ([true,false,false,false,false,false,false].map eB)))),(40,.b (.one (.sl 2 ([(⟨0,1⟩:A2),(⟨1,2⟩:A2),(⟨2,3⟩:A2),(⟨1,3⟩:A2),(⟨4,5⟩:A2),(⟨0,4⟩:A2)].map (bW .i64)))))],[(103,_)]⟩ rfl ?_))
 obtain ⟨⟨x_5,x_6⟩,e3,h⟩:=aG h
 refine Oc (aO (iB e3) td rfl rfl) (Oc om (Oc (aI rfl rfl) (Oc (aI rfl rfl) (Oc oa (Oc oa ?_)))))
 refine ae.af ⟨[(1,_),(2,_),(3,_),(4,_),(5,_),(6,_),(7,.b (.one (.sl 1 (x_5.map eI)))),(8,I x_6)],[(103,_)]⟩ rfl (ab.seq (ab.aa ?_))
 refine Oc om (Oc om ?_)
 refine ae.gS 45 rfl (ae.gS 46 rfl (ae.ag ⟨[(1,_),(2,_),(3,_),(4,_),(5,_),(6,_),(7,_),(8,_),(45,.b (.one (.sl 1 ([true,false,false,false,false,false,false].map eB)))),(46,.b (.one (.sl 2 ([(⟨0,1⟩:A2),(⟨1,2⟩:A2),(⟨2,3⟩:A2),(⟨1,3⟩:A2),(⟨4,5⟩:A2),(⟨0,4⟩:A2)].map (bW .i64)))))],[(103,_)]⟩ rfl ?_))
 obtain ⟨⟨x_7,x_8⟩,e4,h⟩:=aG h
 refine Oc (bg (lq 104 e4) goes20 rfl trivial rfl rfl) (Oc om (Oc (aI rfl rfl) (Oc (aI rfl rfl) (Oc oa (Oc oa ?_)))))
 refine ae.af ⟨[(1,_),(2,_),(3,_),(4,_),(5,_),(6,_),(7,_),(8,_),(9,.b (.row 104)),(10,I x_8)],[(103,_),(104,.row 3 1 (x_7.map eI))]⟩ rfl (ab.seq (ab.aa ?_))
 refine Oc om (Oc om ?_)
 refine ae.gS 51 rfl (ae.gS 52 rfl (ae.ag ⟨[(1,_),(2,_),(3,_),(4,_),(5,_),(6,_),(7,_),(8,_),(9,_),(10,_),(51,.b (.one (.sl 1 ([true,false,false,false,false,false,false].map eB)))),(52,.b (.one (.sl 2 ([(⟨0,1⟩:A2),(⟨1,2⟩:A2),(⟨2,3⟩:A2),(⟨1,3⟩:A2),(⟨4,5⟩:A2),(⟨0,4⟩:A2)].map (bW .i64)))))],[(103,_),(104,_)]⟩ rfl ?_))
 obtain ⟨⟨x_9,x_10⟩,e5,h⟩:=aG h
 refine Oc (aO (kM e5) goes22 rfl rfl) (Oc om (Oc (aI rfl rfl) (Oc (aI rfl rfl) (Oc oa (Oc oa ?_)))))
 refine ae.af ⟨[(1,_),(2,_),(3,_),(4,_),(5,_),(6,_),(7,_),(8,_),(9,_),(10,_),(11,.b (.one (.sl 1 (x_9.map eI)))),(12,I x_10)],[(103,_),(104,_)]⟩ rfl (ab.seq (ab.aa ?_))
 refine Oc om (Oc om (Oc (fS fR rfl rfl) (Oc (az (k:=105) (es:=[(⟨3,6⟩:A2)].map (bW .i64)) ed rfl rfl (aW fun _=>rfl) rfl (by decide) (by decide) rfl) ?_)))
 obtain ⟨x_11,e6,h⟩:=aG h
 refine Oc (qd (k:=106) ed (dy e6) (dw e6) (Nat.le_of_ble_eq_true rfl) rfl rfl rfl (bZ e6) rfl) (ae.gS 57 rfl (ae.bB 106 rfl (ae.ag ⟨[(3,.b (.one (.sl 1 (x_1.map (eL 1 eI))))),(4,I x_2),(5,.b (.row 103)),(6,I x_4),(7,.b (.one (.sl 1 (x_5.map eI)))),(8,I x_6),(9,.b (.row 104)),(10,I x_8),(11,.b (.one (.sl 1 (x_9.map eI)))),(12,I x_10),(57,.b (.one (.sl 1 ([true,false,false,false,false,false,false].map eB)))),(60,.b (.row 105)),(61,.b (.one (.sl 2 (x_11.map (bW .i64)))))],[(103,.row 3 1 (x_3.map eI)),(104,.row 3 1 (x_7.map eI)),(105,.row 44 2 ([(⟨3,6⟩:A2)].map (bW .i64)))]⟩ rfl ?_)))
 obtain ⟨⟨x_12,x_13⟩,e7,h⟩:=aG h
 refine Oc (aO (mP e7) goes21 rfl rfl) (Oc om (Oc (aI rfl rfl) (Oc (aI rfl rfl) (Oc oa (Oc oa ?_)))))
 refine ae.af ⟨[(3,_),(4,_),(5,_),(6,_),(7,_),(8,_),(9,_),(10,_),(11,_),(12,_),(13,.b (.one (.sl 1 (x_12.map eI)))),(14,I x_13)],[(103,_),(104,_)]⟩ rfl (ab.seq (ab.aa ?_))
 refine Oc (az (k:=107) (es:=[1,2].map eI) ak rfl rfl (aW fun _=>rfl) rfl (by decide) (by decide) rfl) (Oc (az (k:=108) (es:=[4,5].map eI) ak rfl rfl (aW fun _=>rfl) rfl (by decide) (by decide) rfl) ?_)
 refine ae.bB 107 rfl (ae.bB 108 rfl (ae.ag ⟨[(3,.b (.one (.sl 1 (x_1.map (eL 1 eI))))),(4,I x_2),(5,.b (.row 103)),(6,I x_4),(7,.b (.one (.sl 1 (x_5.map eI)))),(8,I x_6),(9,.b (.row 104)),(10,I x_8),(11,.b (.one (.sl 1 (x_9.map eI)))),(12,I x_10),(13,.b (.one (.sl 1 (x_12.map eI)))),(14,I x_13),(65,.b (.one (.sl 1 ([1,2].map eI)))),(66,.b (.one (.sl 1 ([4,5].map eI))))],[(103,.row 3 1 (x_3.map eI)),(104,.row 3 1 (x_7.map eI))]⟩ rfl (Oc (az (k:=109) (es:=[[1,2],[4,5]].map (eL 1 eI)) bN rfl rfl (aW fun _=>rfl) rfl (by decide) (by decide) rfl) (Oc (az (k:=110) (es:=[2,3].map eI) ak rfl rfl (aW fun _=>rfl) rfl (by decide) (by decide) rfl) (Oc (az (k:=111) (es:=[6].map eI) ak rfl rfl (aW fun _=>rfl) rfl (by decide) (by decide) rfl) ?_)))))
 refine ae.bB 110 rfl (ae.bB 111 rfl (ae.ag ⟨[(3,.b (.one (.sl 1 (x_1.map (eL 1 eI))))),(4,I x_2),(5,.b (.row 103)),(6,I x_4),(7,.b (.one (.sl 1 (x_5.map eI)))),(8,I x_6),(9,.b (.row 104)),(10,I x_8),(11,.b (.one (.sl 1 (x_9.map eI)))),(12,I x_10),(13,.b (.one (.sl 1 (x_12.map eI)))),(14,I x_13),(67,.b (.row 109)),(68,.b (.one (.sl 1 ([2,3].map eI)))),(69,.b (.one (.sl 1 ([6].map eI))))],[(103,.row 3 1 (x_3.map eI)),(104,.row 3 1 (x_7.map eI)),(109,.row 30 1 ([[1,2],[4,5]].map (eL 1 eI)))]⟩ rfl (Oc (az (k:=112) (es:=[[2,3],[6]].map (eL 1 eI)) bN rfl rfl (aW fun _=>rfl) rfl (by decide) (by decide) rfl) (ae.bB 109 rfl (ae.bB 112 rfl ?_)))))
 refine Oc (az (k:=113) (es:=[[[1,2],[4,5]],[[2,3],[6]]].map (eL 1 (eL 1 eI))) sM rfl rfl (aW fun _=>rfl) rfl (by decide) (by decide) rfl) (ae.bB 113 rfl ?_)
 obtain ⟨x_14,e8,h⟩:=aG h
 refine Oc (aO (l7 e8) goes27 rfl rfl) (Oc oa ?_)
 refine ae.af ⟨[(3,.b (.one (.sl 1 (x_1.map (eL 1 eI))))),(4,I x_2),(5,.b (.row 103)),(6,I x_4),(7,.b (.one (.sl 1 (x_5.map eI)))),(8,I x_6),(9,.b (.row 104)),(10,I x_8),(11,.b (.one (.sl 1 (x_9.map eI)))),(12,I x_10),(13,.b (.one (.sl 1 (x_12.map eI)))),(14,I x_13),(15,.b (.one (.sl 1 (x_14.map (eL 1 eI)))))],[(103,.row 3 1 (x_3.map eI)),(104,.row 3 1 (x_7.map eI))]⟩ rfl (ab.seq (ab.aa ?_))
 refine Oc (az (k:=114) (es:=[1,2,3].map eI) ak rfl rfl (aW fun _=>rfl) rfl (by decide) (by decide) rfl) (Oc (az (k:=115) (es:=[4,5].map eI) ak rfl rfl (aW fun _=>rfl) rfl (by decide) (by decide) rfl) (Oc (az (k:=116) (es:=[6].map eI) ak rfl rfl (aW fun _=>rfl) rfl (by decide) (by decide) rfl) ?_))
 refine ae.bB 114 rfl (ae.bB 115 rfl (ae.bB 116 rfl (Oc (az (k:=117) (es:=[[1,2,3],[4,5],[6]].map (eL 1 eI)) bN rfl rfl (aW fun _=>rfl) rfl (by decide) (by decide) rfl) (Oc oa ?_))))
 refine ae.af ⟨[(3,.b (.one (.sl 1 (x_1.map (eL 1 eI))))),(4,I x_2),(5,.b (.row 103)),(6,I x_4),(7,.b (.one (.sl 1 (x_5.map eI)))),(8,I x_6),(9,.b (.row 104)),(10,I x_8),(11,.b (.one (.sl 1 (x_9.map eI)))),(12,I x_10),(13,.b (.one (.sl 1 (x_12.map eI)))),(14,I x_13),(15,.b (.one (.sl 1 (x_14.map (eL 1 eI))))),(16,.b (.row 117))],[(103,.row 3 1 (x_3.map eI)),(104,.row 3 1 (x_7.map eI)),(117,.row 30 1 ([[1,2,3],[4,5],[6]].map (eL 1 eI)))]⟩ rfl (ab.seq (ab.aa ?_))
 refine Oc om (Oc (dd rfl rfl) (Oc om ?_))
 refine cS (decide (x_2 = 0)) [] (fun g9=>trivial) (fun g9=>om) (cS (decide (x_2 = 0)) [80] (fun g10=>by exact ⟨g10,trivial⟩) (fun g10=>dd rfl rfl) (Oc (aM (fun e=>e) rfl rfl rfl rfl) (Oc om ?_)))
 refine ae.ag ⟨[(3,_),(5,_),(7,_),(8,_),(9,_),(10,_),(11,_),(12,_),(13,_),(14,_),(15,_),(16,_),(83,B ((decide (x_2 = 0)) && (decide (x_4 = 0))))],[(103,_),(104,_),(117,_)]⟩ rfl (cS ((decide (x_2 = 0)) && (decide (x_4 = 0))) [] (fun g11=>trivial) (fun g11=>om) (cS ((decide (x_2 = 0)) && (decide (x_4 = 0))) [84] (fun g12=>by exact ⟨g12,trivial⟩) (fun g12=>dd rfl rfl) (ae.jA h rfl (aM (fun e=>e) rfl rfl rfl rfl) (fun x_15 h=>?_))))
 refine Oc om (cS x_15 [] (fun g13=>by exact trivial) (fun g13=>om) (cS x_15 [88] (fun g14=>by exact ⟨g14,trivial⟩) (fun g14=>dd rfl rfl) (Oc (aM (fun e=>e) rfl rfl rfl rfl) (Oc om ?_))))
 refine ae.ag ⟨[(3,_),(5,_),(7,_),(9,_),(11,_),(12,_),(13,_),(14,_),(15,_),(16,_),(91,B (x_15 && (decide (x_8 = 0))))],[(103,_),(104,_),(117,_)]⟩ rfl (cS (x_15 && (decide (x_8 = 0))) [] (fun g15=>trivial) (fun g15=>om) (cS (x_15 && (decide (x_8 = 0))) [92] (fun g16=>by exact ⟨g16,trivial⟩) (fun g16=>dd rfl rfl) (Oc (aM (fun e=>e) rfl rfl rfl rfl) (Oc om ?_))))
 refine cS ((x_15 && (decide (x_8 = 0))) && (decide (x_10 = 0))) [] (fun g17=>trivial) (fun g17=>om) (cS ((x_15 && (decide (x_8 = 0))) && (decide (x_10 = 0))) [96] (fun g18=>by exact ⟨g18,trivial⟩) (fun g18=>dd rfl rfl) (ae.jA h rfl (aM (fun e=>e) rfl rfl rfl rfl) (fun x_16 h=>?_)))
 refine Oc oa (ae.af ⟨[(3,_),(5,_),(7,_),(9,_),(11,_),(13,_),(15,_),(16,_),(17,B x_16)],[(103,_),(104,_),(117,_)]⟩ rfl (ab.seq (ab.aa ?_)))
 refine Oc om (Oc om ?_)
 refine cS x_16 [] (fun g19=>trivial) (fun g19=>om) (cS x_16 [] (fun g20=>by exact trivial) (fun g20=>om) ?_)
 obtain ⟨x_17,e22,h⟩:=aG h
 refine cS x_16 [101,102] (fun g21=>⟨g21,g21,trivial⟩) (fun g21=>jX (dg (gc e22 g21)) qB rfl CP.iX) (ae.ag ⟨[(5,_),(7,_),(9,_),(11,_),(13,_),(15,_),(16,_),(100,B x_16),(103,.opt x_16 (.one (.bool x_17)))],[(103,_),(104,_),(117,_)]⟩ rfl (Oc (aM (fun e=>e) rfl rfl rfl rfl) (Oc om ?_)))
 refine cS (x_16 && x_17) [] (fun g23=>trivial) (fun g23=>om) (cS (x_16 && x_17) [] (fun g24=>by exact trivial) (fun g24=>b7 (es:=[0,1,2,2,1,2,(-1)].map eI) ak rfl rfl (aW fun _=>rfl) rfl (by decide) (by decide)) ?_)
 obtain ⟨x_18,e26,h⟩:=aG h
 refine cS (x_16 && x_17) [106,107] (fun g25=>⟨g25,g25,trivial⟩) (fun g25=>jX (bw (gc e26 g25)) jP rfl CP.iX) (ae.ag ⟨[(7,_),(9,_),(11,_),(13,_),(15,_),(16,_),(105,B (x_16 && x_17)),(108,.opt (x_16 && x_17) (.one (.bool x_18)))],[(104,_),(117,_)]⟩ rfl (Oc (aM (fun e=>e) rfl rfl rfl rfl) (Oc om ?_)))
 refine cS ((x_16 && x_17) && x_18) [] (fun g27=>trivial) (fun g27=>om) (cS ((x_16 && x_17) && x_18) [] (fun g28=>by exact trivial) (fun g28=>b7 (es:=[1,2,3,4,5,6].map eI) ak rfl rfl (aW fun _=>rfl) rfl (by decide) (by decide)) ?_)
 obtain ⟨x_19,e30,h⟩:=aG h
 refine cS ((x_16 && x_17) && x_18) [111,112] (fun g29=>⟨g29,g29,trivial⟩) (fun g29=>aO (bw (gc e30 g29)) jP rfl rfl) (ae.ag ⟨[(9,_),(11,_),(13,_),(15,_),(16,_),(110,B ((x_16 && x_17) && x_18)),(113,.opt ((x_16 && x_17) && x_18) (.one (.bool x_19)))],[(104,_),(117,_)]⟩ rfl (Oc (aM (fun e=>e) rfl rfl rfl rfl) (Oc om ?_)))
 refine cS (((x_16 && x_17) && x_18) && x_19) [] (fun g31=>trivial) (fun g31=>om) (cS (((x_16 && x_17) && x_18) && x_19) [] (fun g32=>by exact trivial) (fun g32=>b7 (es:=[1,2,4].map eI) ak rfl rfl (aW fun _=>rfl) rfl (by decide) (by decide)) ?_)
 obtain ⟨x_20,e34,h⟩:=aG h
 refine cS (((x_16 && x_17) && x_18) && x_19) [116,117] (fun g33=>⟨g33,g33,trivial⟩) (fun g33=>jX (bw (gc e34 g33)) jP rfl CP.iX) (ae.ag ⟨[(11,_),(13,_),(15,_),(16,_),(115,B (((x_16 && x_17) && x_18) && x_19)),(118,.opt (((x_16 && x_17) && x_18) && x_19) (.one (.bool x_20)))],[(117,_)]⟩ rfl (Oc (aM (fun e=>e) rfl rfl rfl rfl) (Oc om ?_)))
 refine cS ((((x_16 && x_17) && x_18) && x_19) && x_20) [] (fun g35=>trivial) (fun g35=>om) (cS ((((x_16 && x_17) && x_18) && x_19) && x_20) [] (fun g36=>by exact trivial) (fun g36=>b7 (es:=[4].map eI) ak rfl rfl (aW fun _=>rfl) rfl (by decide) (by decide)) ?_)
 obtain ⟨x_21,e38,h⟩:=aG h
 refine cS ((((x_16 && x_17) && x_18) && x_19) && x_20) [121,122] (fun g37=>⟨g37,g37,trivial⟩) (fun g37=>aO (bw (gc e38 g37)) jP rfl rfl) (ae.ag ⟨[(13,_),(15,_),(16,_),(120,B ((((x_16 && x_17) && x_18) && x_19) && x_20)),(123,.opt ((((x_16 && x_17) && x_18) && x_19) && x_20) (.one (.bool x_21)))],[(117,_)]⟩ rfl (Oc (aM (fun e=>e) rfl rfl rfl rfl) (Oc om ?_)))
 refine cS (((((x_16 && x_17) && x_18) && x_19) && x_20) && x_21) [] (fun g39=>trivial) (fun g39=>om) (cS (((((x_16 && x_17) && x_18) && x_19) && x_20) && x_21) [] (fun g40=>by exact trivial) (fun g40=>b7 (es:=[3].map eI) ak rfl rfl (aW fun _=>rfl) rfl (by decide) (by decide)) ?_)
 obtain ⟨x_22,e42,h⟩:=aG h
 refine cS (((((x_16 && x_17) && x_18) && x_19) && x_20) && x_21) [126,127] (fun g41=>⟨g41,g41,trivial⟩) (fun g41=>aO (bw (gc e42 g41)) jP rfl rfl) (ae.ag ⟨[(15,_),(16,_),(125,B (((((x_16 && x_17) && x_18) && x_19) && x_20) && x_21)),(128,.opt (((((x_16 && x_17) && x_18) && x_19) && x_20) && x_21) (.one (.bool x_22)))],[(117,_)]⟩ rfl (ae.jA h rfl (aM (fun e=>e) rfl rfl rfl rfl) (fun x_23 h=>?_)))
 refine Oc om (cS x_23 [] (fun g43=>by exact trivial) (fun g43=>om) (cS x_23 [] (fun g44=>by exact trivial) (fun g44=>om) ?_))
 obtain ⟨x_24,e46,h⟩:=aG h
 refine cS x_23 [131,132] (fun g45=>⟨g45,g45,trivial⟩) (fun g45=>jX (dg (gc e46 g45)) qB rfl CP.iX) (Oc (aM (fun e=>e) rfl rfl rfl rfl) (Oc oa ?_))
 refine ae.af ⟨[(0,B (x_23 && x_24))],[]⟩ rfl (ab.ret ?_)
 obtain rfl:=Option.some.inj h
 refine Fin.ag ⟨[(0,_)],[]⟩ rfl (Fin.aP [.one (.bool (x_23 && x_24))] (.inl rfl) rfl (.cons (.tmp rfl) .nil) ⟨rfl,rfl⟩)
def bG (F:Nat) (fixed0:List Bool) (links0:List A2):Option Bool :=
 if (decide (401 < (fixed0.length:Int))) = true then (some false) else (Option.bind (iter F (fun i_1=>if (decide (i_1 < (links0.length:Int))) = true then ((aE links0 i_1).bind fun x_2=>(aE links0 i_1).bind fun x_3=>dI (((decide (x_2.a0 < 0)) || (decide (x_3.a1 < 0))) || (decide ((fixed0.length:Int) ≤ x_2.a0))) fun x_4=>dI ((x_4 || (decide ((fixed0.length:Int) ≤ x_3.a1))) || (decide (x_2.a0 = x_3.a1))) fun x_5=>if x_5 = true then (some (.inr (.inr false))) else (some (.inl (IntKind.i64.wrap (i_1 + 1))))) else (some (.inr (.inl ())))) 0) (iM (fun _=>some true) (fun y=>some y)))
theorem dD {F:Nat} {fixed0:List Bool} {links0:List A2} {r:Bool} (h:bG F fixed0 links0 = some r):av Try.prog [] 36 [] [.one (.sl 1 (fixed0.map eB)),.one (.sl 2 (links0.map (bW .i64)))] (Is [] (.b (.one (.bool r)))):=by
 unfold bG at h
 refine av.intro 50 Try.func36 Try.ntmps36 rfl (by simp) fun E=>?_
 show ab _ E ⟨50,[],[],[]⟩ _ ⟨[(0,.b (.one (.sl 1 (fixed0.map eB)))),(1,.b (.one (.sl 2 (links0.map (bW .i64)))))],[]⟩ _
 refine ab.seq (ab.aa ?_)
 refine Oc oa (ae.af ⟨[(0,.b (.one (.sl 1 (fixed0.map eB)))),(1,.b (.one (.sl 2 (links0.map (bW .i64)))))],[]⟩ rfl (ab.seq (ab.seq (ab.aa ?_))))
 refine Oc om (Oc (au cT rfl (List.length_map _)) (Oc (fB rfl rfl) ?_))
 refine ae.af ⟨[(0,_),(1,_),(10,B (decide (401 < (fixed0.length:Int))))],[]⟩ rfl (ab.ite h rfl (fun _ h=>?_) (fun _ h=>?_))
 ·refine ab.seq (ab.aa ?_)
  refine Oc oa (ae.af ⟨[(4,B false)],[]⟩ rfl (ab.ret (Fin.aR ?_)))
  obtain rfl:=Option.some.inj h
  refine Fin.ag ⟨[(4,_)],[]⟩ rfl (Fin.aP [.one (.bool false)] (.inl rfl) rfl (.cons (.tmp rfl) .nil) ⟨rfl,rfl⟩)
 ·refine ab.skip (Fin.ag ⟨[(0,_),(1,_)],[]⟩ rfl (Fin.then ?_))
  obtain ⟨v1,h2,h⟩:=aG h
  refine ab.bM (v:=v1) (fun (_:Unit)=>⟨[],[]⟩) (fun z=>.inl z) ?_ ?_
  ·refine ab.seq (ab.aa ?_)
   refine Oc oa (ae.af ⟨[(0,_),(1,_),(5,I 0)],[]⟩ rfl (ab.block (ab.bS h2 (fun (i_1:Int)=>⟨[(0,.b (.one (.sl 1 (fixed0.map eB)))),(1,.b (.one (.sl 2 (links0.map (bW .i64))))),(5,I i_1)],[]⟩) [0,1,5] [] rfl ?_)))
   rintro i_1 o3 h4 hy5
   refine ab.seq (ab.seq (ab.aa ?_))
   refine Oc om (Oc om (Oc (au nm rfl (List.length_map _)) (Oc (a7 rfl rfl) ?_)))
   refine ae.af ⟨[(0,_),(1,_),(5,_),(14,B (decide (i_1 < (links0.length:Int))))],[]⟩ rfl (ab.ite h4 rfl (fun _ h4=>?_) (fun _ h4=>?_))
   ·refine ab.skip (Fin.ag ⟨[(0,_),(1,_),(5,_)],[]⟩ rfl (Fin.then (ab.seq (ab.block (ab.seq (ab.aa ?_))))))
    refine Oc om (Oc om ?_)
    obtain ⟨x_2,e6,h4⟩:=aG h4
    refine Oc (aA ed (aD e6) (aB (e:=(bW .i64)) e6) rfl rfl) (Oc (cH dq (by decide) (by decide) rfl rfl rfl) (Oc (ax aw rfl rfl) (Oc oa ?_)))
    refine ae.af ⟨[(0,_),(1,_),(5,_),(6,I x_2.a0)],[]⟩ rfl (ab.seq (ab.aa ?_))
    refine Oc om (Oc om ?_)
    obtain ⟨x_3,e7,h4⟩:=aG h4
    refine Oc (aA ed (aD e7) (aB (e:=(bW .i64)) e7) rfl rfl) (Oc (cH dq (by decide) (by decide) rfl rfl rfl) (Oc (ax aw rfl rfl) (Oc oa ?_)))
    refine ae.af ⟨[(0,_),(1,_),(5,_),(6,_),(7,I x_3.a1)],[]⟩ rfl (ab.seq (ab.aa ?_))
    refine Oc om (Oc (a7 rfl rfl) (Oc om ?_))
    refine k3 (!(decide (x_2.a0 < 0))) [] (fun g8=>trivial) (fun g8=>om) (k3 (!(decide (x_2.a0 < 0))) [30] (fun g9=>by exact ⟨g9,trivial⟩) (fun g9=>a7 rfl rfl) (Oc (en (fun e=>by first | (rw [e]; rfl) | (simp only at e; rw [e]; rfl)) rfl rfl rfl rfl) (Oc om ?_)))
    refine ae.ag ⟨[(0,_),(1,_),(5,_),(6,_),(7,_),(33,B ((decide (x_2.a0 < 0)) || (decide (x_3.a1 < 0))))],[]⟩ rfl (k3 (!((decide (x_2.a0 < 0)) || (decide (x_3.a1 < 0)))) [] (fun g10=>trivial) (fun g10=>om) (k3 (!((decide (x_2.a0 < 0)) || (decide (x_3.a1 < 0)))) [] (fun g11=>by exact trivial) (fun g11=>om) (k3 (!((decide (x_2.a0 < 0)) || (decide (x_3.a1 < 0)))) [35] (fun g12=>by exact ⟨g12,trivial⟩) (fun g12=>au cT rfl (List.length_map _)) (k3 (!((decide (x_2.a0 < 0)) || (decide (x_3.a1 < 0)))) [34,36] (fun g13=>by exact ⟨g13,g13,trivial⟩) (fun g13=>jf rfl rfl) (ae.jA h4 rfl (en (fun e=>by first | (rw [e]; rfl) | (simp only at e; rw [e]; rfl)) rfl rfl rfl rfl) (fun x_4 h4=>?_))))))
    refine Oc om (k3 (!x_4) [] (fun g14=>by exact trivial) (fun g14=>om) (ae.ag ⟨[(0,_),(1,_),(5,_),(6,_),(7,_),(39,B x_4),(40,.opt (!x_4) (.one (.i x_3.a1)))],[]⟩ rfl (k3 (!x_4) [] (fun g15=>by exact trivial) (fun g15=>om) (k3 (!x_4) [41] (fun g16=>by exact ⟨g16,trivial⟩) (fun g16=>au cT rfl (List.length_map _)) (k3 (!x_4) [40,42] (fun g17=>by exact ⟨g17,g17,trivial⟩) (fun g17=>jf rfl rfl) ?_)))))
    refine Oc (en (fun e=>by first | (rw [e]; rfl) | (simp only at e; rw [e]; rfl)) rfl rfl rfl rfl) (Oc om ?_)
    refine k3 (!(x_4 || (decide ((fixed0.length:Int) ≤ x_3.a1)))) [] (fun g18=>trivial) (fun g18=>om) (k3 (!(x_4 || (decide ((fixed0.length:Int) ≤ x_3.a1)))) [] (fun g19=>by exact trivial) (fun g19=>om) (k3 (!(x_4 || (decide ((fixed0.length:Int) ≤ x_3.a1)))) [46,47] (fun g20=>by exact ⟨g20,g20,trivial⟩) (fun g20=>dd rfl rfl) (ae.jA h4 rfl (en (fun e=>by first | (rw [e]; rfl) | (simp only at e; rw [e]; rfl)) rfl rfl rfl rfl) (fun x_5 h4=>?_))))
    refine ae.af ⟨[(0,_),(1,_),(5,_),(49,B x_5)],[]⟩ rfl (ab.ite h4 rfl (fun _ h4=>?_) (fun _ h4=>?_))
    ·refine ab.seq (ab.aa ?_)
     refine Oc oa (ae.af ⟨[(4,B false)],[]⟩ rfl (ab.ret (Fin.cZ (Fin.aR ?_))))
     obtain rfl:=hy5 _ (Option.some.inj h4).symm
     refine Fin.aR (Fin.cZ (Fin.aR ?_))
     obtain rfl:=Option.some.inj h
     refine Fin.ag ⟨[(4,_)],[]⟩ rfl (Fin.aP [.one (.bool false)] (.inl rfl) rfl (.cons (.tmp rfl) .nil) ⟨rfl,rfl⟩)
    ·refine ab.skip (Fin.ai (Fin.ag ⟨[(0,_),(1,_),(5,_)],[]⟩ rfl (Fin.then (ab.aa ?_))))
     refine Oc om (Oc (aS rfl rfl) (Oc oa ?_))
     refine ae.nil ?_
     exact Fin.bl [0,1,5] [] (IntKind.i64.wrap (i_1 + 1)) (Option.some.inj h4) rfl
   ·refine ab.exit (Fin.aj ?_)
    obtain rfl:=hy5 _ (Option.some.inj h4).symm
    refine Fin.aj (Fin.ay ?_)
    exact Fin.join [] [] () rfl rfl
  ·rintro _ hv
   subst v1
   refine ab.seq (ab.aa ?_)
   refine Oc oa (ae.af ⟨[(4,B true)],[]⟩ rfl (ab.ret ?_))
   obtain rfl:=Option.some.inj h
   refine Fin.ag ⟨[(4,_)],[]⟩ rfl (Fin.aP [.one (.bool true)] (.inl rfl) rfl (.cons (.tmp rfl) .nil) ⟨rfl,rfl⟩)
def cD (F:Nat) (l0:List Int) (n0:Int):Option Bool :=
 Option.bind (iter F (fun i_1=>if (decide (i_1 < (l0.length:Int))) = true then ((aE l0 i_1).bind fun x_2=>if (decide (x_2 = n0)) = true then (some (.inr (.inr true))) else (some (.inl (IntKind.i64.wrap (i_1 + 1))))) else (some (.inr (.inl ())))) 0) (iM (fun _=>some false) (fun y=>some y))
theorem fJ {F:Nat} {l0:List Int} {n0:Int} {r:Bool} (h:cD F l0 n0 = some r):av Try.prog [] 28 [] [.one (.sl 1 (l0.map eI)),.one (.i n0)] (Is [] (.b (.one (.bool r)))):=by
 unfold cD at h
 refine av.intro 18 Try.func28 Try.ntmps28 rfl (by simp) fun E=>?_
 show ab _ E ⟨18,[],[],[]⟩ _ ⟨[(0,.b (.one (.sl 1 (l0.map eI)))),(1,I n0)],[]⟩ _
 refine ab.seq (ab.aa ?_)
 refine Oc oa (ae.af ⟨[(0,.b (.one (.sl 1 (l0.map eI)))),(1,I n0)],[]⟩ rfl ?_)
 obtain ⟨v1,h2,h⟩:=aG h
 refine ab.bM (v:=v1) (fun (_:Unit)=>⟨[],[]⟩) (fun z=>.inl z) ?_ ?_
 ·refine ab.seq (ab.aa ?_)
  refine Oc oa (ae.af ⟨[(0,_),(1,_),(5,I 0)],[]⟩ rfl (ab.block (ab.bS h2 (fun (i_1:Int)=>⟨[(0,.b (.one (.sl 1 (l0.map eI)))),(1,I n0),(5,I i_1)],[]⟩) [0,1,5] [] rfl ?_)))
  rintro i_1 o3 h4 hy5
  refine ab.seq (ab.seq (ab.aa ?_))
  refine Oc om (Oc om (Oc (au fN rfl (List.length_map _)) (Oc (a7 rfl rfl) ?_)))
  refine ae.af ⟨[(0,_),(1,_),(5,_),(9,B (decide (i_1 < (l0.length:Int))))],[]⟩ rfl (ab.ite h4 rfl (fun _ h4=>?_) (fun _ h4=>?_))
  ·refine ab.skip (Fin.ag ⟨[(0,_),(1,_),(5,_)],[]⟩ rfl (Fin.then (ab.seq (ab.block (ab.seq (ab.aa ?_))))))
   refine Oc om (Oc om ?_)
   obtain ⟨x_2,e6,h4⟩:=aG h4
   refine Oc (aA ak (aD e6) (aB (e:=eI) e6) rfl rfl) (Oc (ax aw rfl rfl) (Oc om (Oc (dd rfl rfl) ?_)))
   refine ae.af ⟨[(0,_),(1,_),(5,_),(17,B (decide (x_2 = n0)))],[]⟩ rfl (ab.ite h4 rfl (fun _ h4=>?_) (fun _ h4=>?_))
   ·refine ab.seq (ab.aa ?_)
    refine Oc oa (ae.af ⟨[(4,B true)],[]⟩ rfl (ab.ret (Fin.cZ (Fin.aR ?_))))
    obtain rfl:=hy5 _ (Option.some.inj h4).symm
    refine Fin.aR (Fin.cZ (Fin.aR ?_))
    obtain rfl:=Option.some.inj h
    refine Fin.ag ⟨[(4,_)],[]⟩ rfl (Fin.aP [.one (.bool true)] (.inl rfl) rfl (.cons (.tmp rfl) .nil) ⟨rfl,rfl⟩)
   ·refine ab.skip (Fin.ai (Fin.ag ⟨[(0,_),(1,_),(5,_)],[]⟩ rfl (Fin.then (ab.aa ?_))))
    refine Oc om (Oc (aS rfl rfl) (Oc oa ?_))
    refine ae.nil ?_
    exact Fin.bl [0,1,5] [] (IntKind.i64.wrap (i_1 + 1)) (Option.some.inj h4) rfl
  ·refine ab.exit (Fin.aj ?_)
   obtain rfl:=hy5 _ (Option.some.inj h4).symm
   refine Fin.aj (Fin.ay ?_)
   exact Fin.join [] [] () rfl rfl
 ·rintro _ hv
  subst v1
  refine ab.seq (ab.aa ?_)
  refine Oc oa (ae.af ⟨[(4,B false)],[]⟩ rfl (ab.ret ?_))
  obtain rfl:=Option.some.inj h
  refine Fin.ag ⟨[(4,_)],[]⟩ rfl (Fin.aP [.one (.bool false)] (.inl rfl) rfl (.cons (.tmp rfl) .nil) ⟨rfl,rfl⟩)
def cV (F:Nat) (l0:List Int) (n0:Int):Option (List Int) :=
 (cD F l0 n0).bind fun x_1=>if x_1 = true then (some l0) else (Option.bind (iter F (kO fun out_4 placed_5 i_6=>if (decide (i_6 < (l0.length:Int))) = true then (Option.bind (Option.bind ((cy (!placed_5) (aE l0 i_6)).bind fun x_13=>if ((!placed_5) && (decide (n0 < x_13))) = true then ((dv out_4 [n0]).bind fun x_14=>some (x_14,true)) else (some (out_4,placed_5))) (bK fun out_11 placed_12=>(aE l0 i_6).bind fun x_15=>(dv out_11 [x_15]).bind fun x_16=>some (x_16,placed_12))) (bK fun out_9 placed_10=>some (.inl (out_9,placed_10,IntKind.i64.wrap (i_6 + 1))))) else (some (.inr (out_4,placed_5)))) ([],false,0)) (bK fun out_2 placed_3=>Option.bind (if (!placed_3) = true then ((dv out_2 [n0]).bind fun x_18=>some x_18) else (some out_2)) (fun out_17=>some out_17)))
theorem jc {F:Nat} {l0:List Int} {n0:Int} {r:(List Int)} (h:cV F l0 n0 = some r):av Try.prog [] 40 [] [.one (.sl 1 (l0.map eI)),.one (.i n0)] (Is [] (.b (.one (.sl 1 (r.map eI))))):=by
 unfold cV at h
 refine av.intro 46 Try.func40 Try.ntmps40 rfl (by simp) fun E=>?_
 show ab _ E ⟨46,[],[],[]⟩ _ ⟨[(0,.b (.one (.sl 1 (l0.map eI)))),(1,I n0)],[]⟩ _
 refine ab.seq (ab.aa ?_)
 refine Oc oa (ae.af ⟨[(0,.b (.one (.sl 1 (l0.map eI)))),(1,I n0)],[]⟩ rfl (ab.seq (ab.seq (ab.aa ?_))))
 refine Oc om (Oc om ?_)
 obtain ⟨x_1,e1,h⟩:=aG h
 refine Oc (aO (fJ e1) tc rfl rfl) (ae.af ⟨[(0,_),(1,_),(10,B x_1)],[]⟩ rfl (ab.ite h rfl (fun _ h=>?_) (fun _ h=>?_)))
 ·refine ab.seq (ab.aa ?_)
  refine Oc om (Oc oa ?_)
  refine ae.af ⟨[(4,.b (.one (.sl 1 (l0.map eI))))],[]⟩ rfl (ab.ret (Fin.aR ?_))
  obtain rfl:=Option.some.inj h
  refine Fin.ag ⟨[(4,_)],[]⟩ rfl (Fin.aP [.one (.sl 1 (l0.map eI))] (.inl rfl) rfl (.cons (.tmp rfl) .nil) ⟨rfl,rfl⟩)
 ·refine ab.skip (Fin.ag ⟨[(0,_),(1,_)],[]⟩ rfl (Fin.then (ab.seq (ab.aa ?_))))
  refine Oc oa (ae.af ⟨[(0,_),(1,_),(5,.b (.one (.nil)))],[]⟩ rfl (ab.seq (ab.aa ?_)))
  refine Oc oa (ae.af ⟨[(0,_),(1,_),(5,_),(6,B false)],[]⟩ rfl ?_)
  obtain ⟨v2,h3,h⟩:=aG h
  refine ab.bM (v:=v2) (bK fun (out_2:List Int) (placed_3:Bool)=>⟨[(1,I n0),(5,.b (.row 102)),(6,B placed_3)],[(102,.row 3 1 (out_2.map eI))]⟩) (fun z=>z) ?_ ?_
  ·refine ab.seq (ab.aa ?_)
   refine Oc oa (ae.af ⟨[(0,_),(1,_),(5,_),(6,_),(7,I 0)],[]⟩ rfl (ab.block (ab.c4 5 102 1 3 rfl (by decide) rfl (ab.bS h3 (kO fun (out_4:List Int) (placed_5:Bool) (i_6:Int)=>⟨[(0,.b (.one (.sl 1 (l0.map eI)))),(1,I n0),(5,.b (.row 102)),(6,B placed_5),(7,I i_6)],[(102,.row 3 1 (out_4.map eI))]⟩) [0,1,5,6,7] [102] rfl ?_))))
   rintro ⟨out_4,placed_5,i_6⟩ o4 h5 hy6
   refine ab.seq (ab.seq (ab.aa ?_))
   refine Oc om (Oc om (Oc (au fN rfl (List.length_map _)) (Oc (a7 rfl rfl) ?_)))
   refine ae.af ⟨[(0,_),(1,_),(5,_),(6,_),(7,_),(15,B (decide (i_6 < (l0.length:Int))))],[(102,_)]⟩ rfl (ab.ite h5 rfl (fun _ h5=>?_) (fun _ h5=>?_))
   ·refine ab.skip (Fin.ag ⟨[(0,_),(1,_),(5,_),(6,_),(7,_)],[(102,_)]⟩ rfl (Fin.then ?_))
    obtain ⟨v7,h8,h5⟩:=aG h5
    refine ab.bM (v:=v7) (bK fun (out_9:List Int) (placed_10:Bool)=>⟨[(0,.b (.one (.sl 1 (l0.map eI)))),(1,I n0),(5,.b (.row 102)),(6,B placed_10),(7,I i_6)],[(102,.row 3 1 (out_9.map eI))]⟩) (fun z=>z) ?_ ?_
    ·refine ab.block ?_
     obtain ⟨v9,h10,h8⟩:=aG h8
     refine ab.bM (v:=v9) (bK fun (out_11:List Int) (placed_12:Bool)=>⟨[(0,.b (.one (.sl 1 (l0.map eI)))),(1,I n0),(5,.b (.row 102)),(6,B placed_12),(7,I i_6)],[(102,.row 3 1 (out_11.map eI))]⟩) (fun z=>z) ?_ ?_
     ·refine ab.seq (ab.aa ?_)
      refine Oc om (Oc (cU rfl) (Oc om ?_))
      refine cS (!placed_5) [] (fun g11=>trivial) (fun g11=>om) (cS (!placed_5) [] (fun g12=>by exact trivial) (fun g12=>om) ?_)
      obtain ⟨x_13,e14,h10⟩:=aG h10
      refine cS (!placed_5) [21,22] (fun g13=>⟨g13,g13,trivial⟩) (fun g13=>aA ak (aD (gc e14 g13)) (aB (e:=eI) (gc e14 g13)) rfl rfl) (cS (!placed_5) [23] (fun g15=>⟨g15,trivial⟩) (fun g15=>ax aw rfl rfl) (ae.ag ⟨[(0,_),(1,_),(5,_),(6,_),(7,_),(20,B (!placed_5)),(24,.opt (!placed_5) (.one (.i x_13)))],[(102,_)]⟩ rfl (cS (!placed_5) [] (fun g16=>trivial) (fun g16=>om) (cS (!placed_5) [24,25] (fun g17=>by exact ⟨g17,g17,trivial⟩) (fun g17=>fB rfl rfl) (Oc (aM (fun e=>e) rfl rfl rfl rfl) ?_)))))
      refine ae.af ⟨[(0,_),(1,_),(5,_),(6,_),(7,_),(27,B ((!placed_5) && (decide (n0 < x_13))))],[(102,_)]⟩ rfl (ab.ite h10 rfl (fun _ h10=>?_) (fun _ h10=>?_))
      ·refine ab.seq (ab.aa ?_)
       refine Oc om (Oc om (Oc (az (k:=103) (es:=[n0].map eI) ak rfl rfl (aW fun _=>rfl) rfl (by decide) (by decide) rfl) ?_))
       obtain ⟨x_14,e18,h10⟩:=aG h10
       refine Oc (bh ak (dy e18) (dw e18) rfl rfl rfl rfl (bZ e18) rfl) (Oc oa ?_)
       refine ae.af ⟨[(0,_),(1,_),(5,_),(7,_)],[(102,.row 3 1 (x_14.map eI))]⟩ rfl (ab.aa (Oc oa (ae.nil ?_)))
       exact Fin.join [0,1,5,6,7] [102] (x_14,true) (Option.some.inj h10) rfl
      ·refine ab.skip ?_
       exact Fin.join [0,1,5,6,7] [102] (out_4,placed_5) (Option.some.inj h10) rfl
     ·rintro ⟨out_11,placed_12⟩ hv
      subst v9
      refine ab.aa (Oc om (Oc om (Oc om ?_)))
      obtain ⟨x_15,e19,h8⟩:=aG h8
      refine Oc (aA ak (aD e19) (aB (e:=eI) e19) rfl rfl) (Oc (ax aw rfl rfl) (Oc (az (k:=104) (es:=[x_15].map eI) ak rfl rfl (aW fun _=>rfl) rfl (by decide) (by decide) rfl) ?_))
      obtain ⟨x_16,e20,h8⟩:=aG h8
      refine Oc (bh ak (dy e20) (dw e20) rfl rfl rfl rfl (bZ e20) rfl) (Oc oa ?_)
      refine ae.nil (Fin.ai ?_)
      exact Fin.join [0,1,5,6,7] [102] (x_16,placed_12) (Option.some.inj h8) rfl
    ·rintro ⟨out_9,placed_10⟩ hv
     subst v7
     refine ab.aa (Oc om (Oc (aS rfl rfl) (Oc oa ?_)))
     refine ae.nil ?_
     exact Fin.bl [0,1,5,6,7] [102] (out_9,placed_10,IntKind.i64.wrap (i_6 + 1)) (Option.some.inj h5) rfl
   ·refine ab.exit (Fin.aj ?_)
    obtain rfl:=hy6 _ (Option.some.inj h5).symm
    refine Fin.aj (Fin.ay ?_)
    exact Fin.join [1,5,6] [102] (out_4,placed_5) rfl rfl
  ·rintro ⟨out_2,placed_3⟩ hv
   subst v2
   obtain ⟨v21,h22,h⟩:=aG h
   refine ab.bM (v:=v21) (fun (out_17:List Int)=>⟨[(5,.b (.row 102))],[(102,.row 3 1 (out_17.map eI))]⟩) (fun z=>z) ?_ ?_
   ·refine ab.seq (ab.aa ?_)
    refine Oc om (Oc (cU rfl) ?_)
    refine ae.af ⟨[(1,_),(5,_),(40,B (!placed_3))],[(102,_)]⟩ rfl (ab.ite h22 rfl (fun _ h22=>?_) (fun _ h22=>?_))
    ·refine ab.aa (Oc om (Oc om (Oc (az (k:=105) (es:=[n0].map eI) ak rfl rfl (aW fun _=>rfl) rfl (by decide) (by decide) rfl) ?_)))
     obtain ⟨x_18,e23,h22⟩:=aG h22
     refine Oc (bh ak (dy e23) (dw e23) rfl rfl rfl rfl (bZ e23) rfl) (Oc oa ?_)
     refine ae.nil ?_
     exact Fin.join [5] [102] x_18 (Option.some.inj h22) rfl
    ·refine ab.skip ?_
     exact Fin.join [5] [102] out_2 (Option.some.inj h22) rfl
   ·rintro out_17 hv
    subst v21
    refine ab.seq (ab.aa ?_)
    refine Oc om (Oc oa ?_)
    refine ae.af ⟨[(4,.b (.row 102))],[(102,_)]⟩ rfl (ab.ret ?_)
    obtain rfl:=Option.some.inj h
    refine Fin.ag ⟨[(4,.b (.row 102))],[(102,.row 3 1 (out_17.map eI))]⟩ rfl (Fin.bB 102 rfl (Fin.aP [.one (.sl 1 (out_17.map eI))] (.inl rfl) rfl (.cons (.tmp rfl) .nil) ⟨rfl,rfl⟩))
def cm (F:Nat) (a0:List Int) (b0:List Int):Option (List Int) :=
 Option.bind (iter F (bK fun out_2 i_3=>if (decide (i_3 < (b0.length:Int))) = true then ((aE b0 i_3).bind fun x_5=>(cV F out_2 x_5).bind fun x_6=>some (.inl (x_6,IntKind.i64.wrap (i_3 + 1)))) else (some (.inr out_2))) (a0,0)) (fun out_1=>some out_1)
theorem fa {F:Nat} {a0:List Int} {b0:List Int} {r:(List Int)} (h:cm F a0 b0 = some r):av Try.prog [] 41 [] [.one (.sl 1 (a0.map eI)),.one (.sl 1 (b0.map eI))] (Is [] (.b (.one (.sl 1 (r.map eI))))):=by
 unfold cm at h
 refine av.intro 21 Try.func41 Try.ntmps41 rfl (by simp) fun E=>?_
 show ab _ E ⟨21,[],[],[]⟩ _ ⟨[(0,.b (.one (.sl 1 (a0.map eI)))),(1,.b (.one (.sl 1 (b0.map eI))))],[]⟩ _
 refine ab.seq (ab.aa ?_)
 refine Oc oa (ae.af ⟨[(0,.b (.one (.sl 1 (a0.map eI)))),(1,.b (.one (.sl 1 (b0.map eI))))],[]⟩ rfl (ab.seq (ab.aa ?_)))
 refine Oc om (Oc oa ?_)
 refine ae.af ⟨[(1,_),(5,.b (.one (.sl 1 (a0.map eI))))],[]⟩ rfl ?_
 obtain ⟨v1,h2,h⟩:=aG h
 refine ab.bM (v:=v1) (fun (out_1:List Int)=>⟨[(5,.b (.one (.sl 1 (out_1.map eI))))],[]⟩) (fun z=>z) ?_ ?_
 ·refine ab.seq (ab.aa ?_)
  refine Oc oa (ae.af ⟨[(1,_),(5,_),(6,I 0)],[]⟩ rfl (ab.block (ab.bS h2 (bK fun (out_2:List Int) (i_3:Int)=>⟨[(1,.b (.one (.sl 1 (b0.map eI)))),(5,.b (.one (.sl 1 (out_2.map eI)))),(6,I i_3)],[]⟩) [1,5,6] [] rfl ?_)))
  rintro ⟨out_2,i_3⟩ o3 h4 hy5
  refine ab.seq (ab.seq (ab.aa ?_))
  refine Oc om (Oc om (Oc (au fN rfl (List.length_map _)) (Oc (a7 rfl rfl) ?_)))
  refine ae.af ⟨[(1,_),(5,_),(6,_),(11,B (decide (i_3 < (b0.length:Int))))],[]⟩ rfl (ab.ite h4 rfl (fun _ h4=>?_) (fun _ h4=>?_))
  ·refine ab.skip (Fin.ag ⟨[(1,_),(5,_),(6,_)],[]⟩ rfl (Fin.then (ab.seq (ab.block (ab.aa ?_)))))
   refine Oc om (Oc om (Oc om ?_))
   obtain ⟨x_5,e6,h4⟩:=aG h4
   refine Oc (aA ak (aD e6) (aB (e:=eI) e6) rfl rfl) (Oc (ax aw rfl rfl) ?_)
   obtain ⟨x_6,e7,h4⟩:=aG h4
   refine Oc (aO (jc e7) goes40 rfl rfl) (Oc oa ?_)
   refine ae.nil (Fin.ai (Fin.ag ⟨[(1,_),(5,.b (.one (.sl 1 (x_6.map eI)))),(6,_)],[]⟩ rfl (Fin.then (ab.aa ?_))))
   refine Oc om (Oc (aS rfl rfl) (Oc oa ?_))
   refine ae.nil ?_
   exact Fin.bl [1,5,6] [] (x_6,IntKind.i64.wrap (i_3 + 1)) (Option.some.inj h4) rfl
  ·refine ab.exit (Fin.aj ?_)
   obtain rfl:=hy5 _ (Option.some.inj h4).symm
   refine Fin.aj (Fin.ay ?_)
   exact Fin.join [5] [] out_2 rfl rfl
 ·rintro out_1 hv
  subst v1
  refine ab.seq (ab.aa ?_)
  refine Oc om (Oc oa ?_)
  refine ae.af ⟨[(4,.b (.one (.sl 1 (out_1.map eI))))],[]⟩ rfl (ab.ret ?_)
  obtain rfl:=Option.some.inj h
  refine Fin.ag ⟨[(4,_)],[]⟩ rfl (Fin.aP [.one (.sl 1 (out_1.map eI))] (.inl rfl) rfl (.cons (.tmp rfl) .nil) ⟨rfl,rfl⟩)
def cL (F:Nat) (a0:List Int) (b0:List Int):Option Bool :=
 Option.bind (iter F (fun i_1=>if (decide (i_1 < (a0.length:Int))) = true then ((aE a0 i_1).bind fun x_2=>(cD F b0 x_2).bind fun x_3=>if x_3 = true then (some (.inr (.inr true))) else (some (.inl (IntKind.i64.wrap (i_1 + 1))))) else (some (.inr (.inl ())))) 0) (iM (fun _=>some false) (fun y=>some y))
theorem iJ {F:Nat} {a0:List Int} {b0:List Int} {r:Bool} (h:cL F a0 b0 = some r):av Try.prog [] 42 [] [.one (.sl 1 (a0.map eI)),.one (.sl 1 (b0.map eI))] (Is [] (.b (.one (.bool r)))):=by
 unfold cL at h
 refine av.intro 18 Try.func42 Try.ntmps42 rfl (by simp) fun E=>?_
 show ab _ E ⟨18,[],[],[]⟩ _ ⟨[(0,.b (.one (.sl 1 (a0.map eI)))),(1,.b (.one (.sl 1 (b0.map eI))))],[]⟩ _
 refine ab.seq (ab.aa ?_)
 refine Oc oa (ae.af ⟨[(0,.b (.one (.sl 1 (a0.map eI)))),(1,.b (.one (.sl 1 (b0.map eI))))],[]⟩ rfl ?_)
 obtain ⟨v1,h2,h⟩:=aG h
 refine ab.bM (v:=v1) (fun (_:Unit)=>⟨[],[]⟩) (fun z=>.inl z) ?_ ?_
 ·refine ab.seq (ab.aa ?_)
  refine Oc oa (ae.af ⟨[(0,_),(1,_),(5,I 0)],[]⟩ rfl (ab.block (ab.bS h2 (fun (i_1:Int)=>⟨[(0,.b (.one (.sl 1 (a0.map eI)))),(1,.b (.one (.sl 1 (b0.map eI)))),(5,I i_1)],[]⟩) [0,1,5] [] rfl ?_)))
  rintro i_1 o3 h4 hy5
  refine ab.seq (ab.seq (ab.aa ?_))
  refine Oc om (Oc om (Oc (au fN rfl (List.length_map _)) (Oc (a7 rfl rfl) ?_)))
  refine ae.af ⟨[(0,_),(1,_),(5,_),(9,B (decide (i_1 < (a0.length:Int))))],[]⟩ rfl (ab.ite h4 rfl (fun _ h4=>?_) (fun _ h4=>?_))
  ·refine ab.skip (Fin.ag ⟨[(0,_),(1,_),(5,_)],[]⟩ rfl (Fin.then (ab.seq (ab.block (ab.seq (ab.aa ?_))))))
   refine Oc om (Oc om (Oc om ?_))
   obtain ⟨x_2,e6,h4⟩:=aG h4
   refine Oc (aA ak (aD e6) (aB (e:=eI) e6) rfl rfl) (Oc (ax aw rfl rfl) ?_)
   obtain ⟨x_3,e7,h4⟩:=aG h4
   refine Oc (aO (fJ e7) tc rfl rfl) (ae.af ⟨[(0,_),(1,_),(5,_),(17,B x_3)],[]⟩ rfl (ab.ite h4 rfl (fun _ h4=>?_) (fun _ h4=>?_)))
   ·refine ab.seq (ab.aa ?_)
    refine Oc oa (ae.af ⟨[(4,B true)],[]⟩ rfl (ab.ret (Fin.cZ (Fin.aR ?_))))
    obtain rfl:=hy5 _ (Option.some.inj h4).symm
    refine Fin.aR (Fin.cZ (Fin.aR ?_))
    obtain rfl:=Option.some.inj h
    refine Fin.ag ⟨[(4,_)],[]⟩ rfl (Fin.aP [.one (.bool true)] (.inl rfl) rfl (.cons (.tmp rfl) .nil) ⟨rfl,rfl⟩)
   ·refine ab.skip (Fin.ai (Fin.ag ⟨[(0,_),(1,_),(5,_)],[]⟩ rfl (Fin.then (ab.aa ?_))))
    refine Oc om (Oc (aS rfl rfl) (Oc oa ?_))
    refine ae.nil ?_
    exact Fin.bl [0,1,5] [] (IntKind.i64.wrap (i_1 + 1)) (Option.some.inj h4) rfl
  ·refine ab.exit (Fin.aj ?_)
   obtain rfl:=hy5 _ (Option.some.inj h4).symm
   refine Fin.aj (Fin.ay ?_)
   exact Fin.join [] [] () rfl rfl
 ·rintro _ hv
  subst v1
  refine ab.seq (ab.aa ?_)
  refine Oc oa (ae.af ⟨[(4,B false)],[]⟩ rfl (ab.ret ?_))
  obtain rfl:=Option.some.inj h
  refine Fin.ag ⟨[(4,_)],[]⟩ rfl (Fin.aP [.one (.bool false)] (.inl rfl) rfl (.cons (.tmp rfl) .nil) ⟨rfl,rfl⟩)
def dc (F:Nat) (l0:List (List Int)) (x0:List Int):Option (List (List Int)) :=
 Option.bind (iter F (kO fun out_3 placed_4 i_5=>if (decide (i_5 < (l0.length:Int))) = true then (Option.bind (Option.bind ((cy (!placed_4) (aE l0 i_5)).bind fun x_12=>(cy (!placed_4) (aE x_12 0)).bind fun x_13=>(cy (!placed_4) (aE x0 0)).bind fun x_14=>if ((!placed_4) && (decide (x_14 < x_13))) = true then ((dv out_3 [x0]).bind fun x_15=>some (x_15,true)) else (some (out_3,placed_4))) (bK fun out_10 placed_11=>(aE l0 i_5).bind fun x_16=>(dv out_10 [x_16]).bind fun x_17=>some (x_17,placed_11))) (bK fun out_8 placed_9=>some (.inl (out_8,placed_9,IntKind.i64.wrap (i_5 + 1))))) else (some (.inr (out_3,placed_4)))) ([],false,0)) (bK fun out_1 placed_2=>Option.bind (if (!placed_2) = true then ((dv out_1 [x0]).bind fun x_19=>some x_19) else (some out_1)) (fun out_18=>some out_18))
theorem jw (kr0:Nat) {F:Nat} {l0:List (List Int)} {x0:List Int} {r:(List (List Int))} (h:dc F l0 x0 = some r):av Try.prog [] 43 [] [.one (.sl 1 (l0.map (eL 1 eI))),.one (.sl 1 (x0.map eI))] (Is [(kr0,.row 30 1 (r.map (eL 1 eI)))] (.b (.row kr0))):=by
 unfold dc at h
 refine av.intro 46 Try.func43 Try.ntmps43 rfl (by simp) fun E=>?_
 show ab _ E ⟨46,[],[],[]⟩ _ ⟨[(0,.b (.one (.sl 1 (l0.map (eL 1 eI))))),(1,.b (.one (.sl 1 (x0.map eI))))],[]⟩ _
 refine ab.seq (ab.aa ?_)
 refine Oc oa (ae.af ⟨[(0,.b (.one (.sl 1 (l0.map (eL 1 eI))))),(1,.b (.one (.sl 1 (x0.map eI))))],[]⟩ rfl (ab.seq (ab.aa ?_)))
 refine Oc oa (ae.af ⟨[(0,_),(1,_),(5,.b (.one (.nil)))],[]⟩ rfl (ab.seq (ab.aa ?_)))
 refine Oc oa (ae.af ⟨[(0,_),(1,_),(5,_),(6,B false)],[]⟩ rfl ?_)
 obtain ⟨v1,h2,h⟩:=aG h
 refine ab.bM (v:=v1) (bK fun (out_1:List (List Int)) (placed_2:Bool)=>⟨[(1,.b (.one (.sl 1 (x0.map eI)))),(5,.b (.row 102)),(6,B placed_2)],[(102,.row 30 1 (out_1.map (eL 1 eI)))]⟩) (fun z=>z) ?_ ?_
 ·refine ab.seq (ab.aa ?_)
  refine Oc oa (ae.af ⟨[(0,_),(1,_),(5,_),(6,_),(7,I 0)],[]⟩ rfl (ab.block (ab.c4 5 102 1 30 rfl (by decide) rfl (ab.bS h2 (kO fun (out_3:List (List Int)) (placed_4:Bool) (i_5:Int)=>⟨[(0,.b (.one (.sl 1 (l0.map (eL 1 eI))))),(1,.b (.one (.sl 1 (x0.map eI)))),(5,.b (.row 102)),(6,B placed_4),(7,I i_5)],[(102,.row 30 1 (out_3.map (eL 1 eI)))]⟩) [0,1,5,6,7] [102] rfl ?_))))
  rintro ⟨out_3,placed_4,i_5⟩ o3 h4 hy5
  refine ab.seq (ab.seq (ab.aa ?_))
  refine Oc om (Oc om (Oc (au jz rfl (List.length_map _)) (Oc (a7 rfl rfl) ?_)))
  refine ae.af ⟨[(0,_),(1,_),(5,_),(6,_),(7,_),(11,B (decide (i_5 < (l0.length:Int))))],[(102,_)]⟩ rfl (ab.ite h4 rfl (fun _ h4=>?_) (fun _ h4=>?_))
  ·refine ab.skip (Fin.ag ⟨[(0,_),(1,_),(5,_),(6,_),(7,_)],[(102,_)]⟩ rfl (Fin.then ?_))
   obtain ⟨v6,h7,h4⟩:=aG h4
   refine ab.bM (v:=v6) (bK fun (out_8:List (List Int)) (placed_9:Bool)=>⟨[(0,.b (.one (.sl 1 (l0.map (eL 1 eI))))),(1,.b (.one (.sl 1 (x0.map eI)))),(5,.b (.row 102)),(6,B placed_9),(7,I i_5)],[(102,.row 30 1 (out_8.map (eL 1 eI)))]⟩) (fun z=>z) ?_ ?_
   ·refine ab.block ?_
    obtain ⟨v8,h9,h7⟩:=aG h7
    refine ab.bM (v:=v8) (bK fun (out_10:List (List Int)) (placed_11:Bool)=>⟨[(0,.b (.one (.sl 1 (l0.map (eL 1 eI))))),(1,.b (.one (.sl 1 (x0.map eI)))),(5,.b (.row 102)),(6,B placed_11),(7,I i_5)],[(102,.row 30 1 (out_10.map (eL 1 eI)))]⟩) (fun z=>z) ?_ ?_
    ·refine ab.seq (ab.ag ⟨[(0,_),(1,_),(5,_),(6,_),(7,_)],[(102,_)]⟩ rfl ?_)
     obtain ⟨x_12,e13,h9⟩:=aG h9
     obtain ⟨x_13,e16,h9⟩:=aG h9
     obtain ⟨x_14,e20,h9⟩:=aG h9
     refine ab.dX mixed 14 [B placed_4,B (!placed_4),B (!placed_4),.opt (!placed_4) (.one (.sl 1 (l0.map (eL 1 eI)))),.opt (!placed_4) (.one (.i i_5)),.opt (!placed_4) (.cz [.sl 1 (x_12.map eI)]),.opt (!placed_4) (.one (.sl 1 (x_12.map eI))),.opt (!placed_4) (.cz [.i x_13]),.opt (!placed_4) (.one (.i x_13)),.opt (!placed_4) (.one (.sl 1 (x0.map eI))),.opt (!placed_4) (.cz [.i x_14]),.opt (!placed_4) (.one (.i x_14)),.opt (!placed_4) (.one (.bool (decide (x_14 < x_13)))),B ((!placed_4) && (decide (x_14 < x_13)))] [0,1,5,6,7,27] [102] (s':=⟨[(0,_),(1,_),(5,_),(6,_),(7,_),(27,B ((!placed_4) && (decide (x_14 < x_13))))],[(102,_)]⟩) rfl ⟨fun _=>.p om,fun _=>.p (cU rfl),fun _=>.p om,fun _=>by exact .guard (!placed_4) 1 [] (.plain rfl) (gR _) rfl rfl (fun g10=>trivial) (fun g10=>om),fun _=>by exact .guard (!placed_4) 1 [] (.plain rfl) (gR _) rfl rfl (fun g11=>trivial) (fun g11=>om),fun _=>by exact .guard (!placed_4) 3 [17,18] (.plain rfl) (gR _) rfl rfl (fun g12=>⟨g12,g12,trivial⟩) (fun g12=>aA bN (aD (gc e13 g12)) (aB (e:=(eL 1 eI)) (gc e13 g12)) rfl rfl),fun _=>by exact .guard (!placed_4) 2 [19] (.plain rfl) (gR _) rfl rfl (fun g14=>⟨g14,trivial⟩) (fun g14=>ax aU rfl rfl),fun _=>by exact .guard (!placed_4) 2 [20] (.plain rfl) (gR _) rfl rfl (fun g15=>⟨g15,trivial⟩) (fun g15=>aA ak (aD (gc e16 g15)) (aB (e:=eI) (gc e16 g15)) rfl rfl),fun _=>by exact .guard (!placed_4) 2 [21] (.plain rfl) (gR _) rfl rfl (fun g17=>⟨g17,trivial⟩) (fun g17=>ax aw rfl rfl),fun _=>by exact .guard (!placed_4) 1 [] (.plain rfl) (gR _) rfl rfl (fun g18=>trivial) (fun g18=>om),fun _=>by exact .guard (!placed_4) 2 [23] (.plain rfl) (gR _) rfl rfl (fun g19=>⟨g19,trivial⟩) (fun g19=>aA ak (aD (gc e20 g19)) (aB (e:=eI) (gc e20 g19)) rfl rfl),fun _=>by exact .guard (!placed_4) 2 [24] (.plain rfl) (gR _) rfl rfl (fun g21=>⟨g21,trivial⟩) (fun g21=>ax aw rfl rfl),fun _=>by exact .guard (!placed_4) 3 [22,25] (.plain rfl) (gR _) rfl rfl (fun g22=>⟨g22,g22,trivial⟩) (fun g22=>fB rfl rfl),fun _=>.p (aM (fun e=>e) rfl rfl rfl rfl),trivial⟩ rfl rfl (ab.ite h9 rfl (fun _ h9=>?_) (fun _ h9=>?_))
     ·refine ab.seq (ab.aa ?_)
      refine Oc om (Oc om (Oc (az (k:=103) (es:=[x0].map (eL 1 eI)) bN rfl rfl (aW fun _=>rfl) rfl (by decide) (by decide) rfl) ?_))
      obtain ⟨x_15,e23,h9⟩:=aG h9
      refine Oc (bh bN (dy e23) (dw e23) rfl rfl rfl rfl (bZ e23) rfl) (Oc oa ?_)
      refine ae.af ⟨[(0,_),(1,_),(5,_),(7,_)],[(102,.row 30 1 (x_15.map (eL 1 eI)))]⟩ rfl (ab.aa (Oc oa (ae.nil ?_)))
      exact Fin.join [0,1,5,6,7] [102] (x_15,true) (Option.some.inj h9) rfl
     ·refine ab.skip ?_
      exact Fin.join [0,1,5,6,7] [102] (out_3,placed_4) (Option.some.inj h9) rfl
    ·rintro ⟨out_10,placed_11⟩ hv
     subst v8
     refine ab.aa (Oc om (Oc om (Oc om ?_)))
     obtain ⟨x_16,e24,h7⟩:=aG h7
     refine Oc (aA bN (aD e24) (aB (e:=(eL 1 eI)) e24) rfl rfl) (Oc (ax aU rfl rfl) (Oc (az (k:=104) (es:=[x_16].map (eL 1 eI)) bN rfl rfl (aW fun _=>rfl) rfl (by decide) (by decide) rfl) ?_))
     obtain ⟨x_17,e25,h7⟩:=aG h7
     refine Oc (bh bN (dy e25) (dw e25) rfl rfl rfl rfl (bZ e25) rfl) (Oc oa ?_)
     refine ae.nil (Fin.ai ?_)
     exact Fin.join [0,1,5,6,7] [102] (x_17,placed_11) (Option.some.inj h7) rfl
   ·rintro ⟨out_8,placed_9⟩ hv
    subst v6
    refine ab.aa (Oc om (Oc (aS rfl rfl) (Oc oa ?_)))
    refine ae.nil ?_
    exact Fin.bl [0,1,5,6,7] [102] (out_8,placed_9,IntKind.i64.wrap (i_5 + 1)) (Option.some.inj h4) rfl
  ·refine ab.exit (Fin.aj ?_)
   obtain rfl:=hy5 _ (Option.some.inj h4).symm
   refine Fin.aj (Fin.ay ?_)
   exact Fin.join [1,5,6] [102] (out_3,placed_4) rfl rfl
 ·rintro ⟨out_1,placed_2⟩ hv
  subst v1
  obtain ⟨v26,h27,h⟩:=aG h
  refine ab.bM (v:=v26) (fun (out_18:List (List Int))=>⟨[(5,.b (.row 102))],[(102,.row 30 1 (out_18.map (eL 1 eI)))]⟩) (fun z=>z) ?_ ?_
  ·refine ab.seq (ab.aa ?_)
   refine Oc om (Oc (cU rfl) ?_)
   refine ae.af ⟨[(1,_),(5,_),(40,B (!placed_2))],[(102,_)]⟩ rfl (ab.ite h27 rfl (fun _ h27=>?_) (fun _ h27=>?_))
   ·refine ab.aa (Oc om (Oc om (Oc (az (k:=105) (es:=[x0].map (eL 1 eI)) bN rfl rfl (aW fun _=>rfl) rfl (by decide) (by decide) rfl) ?_)))
    obtain ⟨x_19,e28,h27⟩:=aG h27
    refine Oc (bh bN (dy e28) (dw e28) rfl rfl rfl rfl (bZ e28) rfl) (Oc oa ?_)
    refine ae.nil ?_
    exact Fin.join [5] [102] x_19 (Option.some.inj h27) rfl
   ·refine ab.skip ?_
    exact Fin.join [5] [102] out_1 (Option.some.inj h27) rfl
  ·rintro out_18 hv
   subst v26
   refine ab.seq (ab.aa ?_)
   refine Oc om (Oc oa ?_)
   refine ae.af ⟨[(4,.b (.row 102))],[(102,_)]⟩ rfl (ab.ret ?_)
   obtain rfl:=Option.some.inj h
   refine Fin.ag ⟨[(4,_)],[(102,_)]⟩ rfl (Fin.gA 102 kr0 [.row 102] (.inl rfl) rfl (.cons (.tmp rfl) .nil) rfl rfl rfl rfl ⟨rfl,rfl⟩)
def bn (F:Nat) (l0:List (List Int)):Option (List (List Int)) :=
 Option.bind (iter F (bK fun sets_2 i_3=>if (decide (i_3 < (l0.length:Int))) = true then (Option.bind ((aE l0 i_3).bind fun x_6=>(cm F [] x_6).bind fun x_7=>if (decide ((x_7.length:Int) = 0)) = true then (some sets_2) else (Option.bind (iter F (kO fun x_10 rest_11 k_12=>if (decide (k_12 < (sets_2.length:Int))) = true then (Option.bind ((aE sets_2 k_12).bind fun x_17=>(cL F x_17 x_10).bind fun x_18=>if x_18 = true then ((aE sets_2 k_12).bind fun x_19=>(cm F x_10 x_19).bind fun x_20=>some (x_20,rest_11)) else ((aE sets_2 k_12).bind fun x_21=>(dv rest_11 [x_21]).bind fun x_22=>some (x_10,x_22))) (bK fun x_15 rest_16=>some (.inl (x_15,rest_16,IntKind.i64.wrap (k_12 + 1))))) else (some (.inr (x_10,rest_11)))) (x_7,[],0)) (bK fun x_8 rest_9=>(dv rest_9 [x_8]).bind fun x_23=>some x_23))) (fun sets_5=>some (.inl (sets_5,IntKind.i64.wrap (i_3 + 1))))) else (some (.inr sets_2))) ([],0)) (fun sets_1=>Option.bind (iter F (bK fun out_25 i_26=>if (decide (i_26 < (sets_1.length:Int))) = true then ((aE sets_1 i_26).bind fun x_28=>(dc F out_25 x_28).bind fun x_29=>some (.inl (x_29,IntKind.i64.wrap (i_26 + 1)))) else (some (.inr out_25))) ([],0)) (fun out_24=>some out_24))
theorem iL (kr0:Nat) {F:Nat} {l0:List (List Int)} {r:(List (List Int))} (h:bn F l0 = some r):av Try.prog [] 26 [] [.one (.sl 1 (l0.map (eL 1 eI)))] (Is [(kr0,.row 30 1 (r.map (eL 1 eI)))] (.b (.row kr0))):=by
 unfold bn at h
 refine av.intro 66 Try.func26 Try.ntmps26 rfl (by simp) fun E=>?_
 show ab _ E ⟨66,[],[],[]⟩ _ ⟨[(0,.b (.one (.sl 1 (l0.map (eL 1 eI)))))],[]⟩ _
 refine ab.seq (ab.aa ?_)
 refine Oc oa (ae.af ⟨[(0,.b (.one (.sl 1 (l0.map (eL 1 eI)))))],[]⟩ rfl (ab.seq (ab.aa ?_)))
 refine Oc oa (ae.af ⟨[(0,_),(3,.b (.one (.nil)))],[]⟩ rfl ?_)
 obtain ⟨v1,h2,h⟩:=aG h
 refine ab.bM (v:=v1) (fun (sets_1:List (List Int))=>⟨[(3,.b (.row 102))],[(102,.row 30 1 (sets_1.map (eL 1 eI)))]⟩) (fun z=>z) ?_ ?_
 ·refine ab.seq (ab.aa ?_)
  refine Oc oa (ae.af ⟨[(0,_),(3,_),(4,I 0)],[]⟩ rfl (ab.block (ab.c4 3 102 1 30 rfl (by decide) rfl (ab.bS h2 (bK fun (sets_2:List (List Int)) (i_3:Int)=>⟨[(0,.b (.one (.sl 1 (l0.map (eL 1 eI))))),(3,.b (.row 102)),(4,I i_3)],[(102,.row 30 1 (sets_2.map (eL 1 eI)))]⟩) [0,3,4] [102] rfl ?_))))
  rintro ⟨sets_2,i_3⟩ o3 h4 hy5
  refine ab.seq (ab.seq (ab.aa ?_))
  refine Oc om (Oc om (Oc (au jz rfl (List.length_map _)) (Oc (a7 rfl rfl) ?_)))
  refine ae.af ⟨[(0,_),(3,_),(4,_),(13,B (decide (i_3 < (l0.length:Int))))],[(102,_)]⟩ rfl (ab.ite h4 rfl (fun _ h4=>?_) (fun _ h4=>?_))
  ·refine ab.skip (Fin.ag ⟨[(0,_),(3,_),(4,_)],[(102,_)]⟩ rfl (Fin.then ?_))
   obtain ⟨v6,h7,h4⟩:=aG h4
   refine ab.bM (v:=v6) (fun (sets_5:List (List Int))=>⟨[(0,.b (.one (.sl 1 (l0.map (eL 1 eI))))),(3,.b (.row 102)),(4,I i_3)],[(102,.row 30 1 (sets_5.map (eL 1 eI)))]⟩) (fun z=>z) ?_ ?_
   ·refine ab.block (ab.seq (ab.aa ?_))
    refine Oc om (Oc om ?_)
    obtain ⟨x_6,e8,h7⟩:=aG h7
    refine Oc (aA bN (aD e8) (aB (e:=(eL 1 eI)) e8) rfl rfl) (Oc (ax aU rfl rfl) ?_)
    obtain ⟨x_7,e9,h7⟩:=aG h7
    refine Oc (aO (av.sq 0 (by decide) (fa e9) rfl) s5 rfl rfl) (Oc oa ?_)
    refine ae.af ⟨[(0,_),(3,_),(4,_),(5,.b (.one (.sl 1 (x_7.map eI))))],[(102,_)]⟩ rfl (ab.seq (ab.seq (ab.aa ?_)))
    refine Oc om (Oc (au fN rfl (List.length_map _)) (Oc (dd rfl rfl) ?_))
    refine ae.af ⟨[(0,_),(3,_),(4,_),(5,_),(23,B (decide ((x_7.length:Int) = 0)))],[(102,_)]⟩ rfl (ab.ite h7 rfl (fun _ h7=>?_) (fun _ h7=>?_))
    ·refine ab.exit (Fin.aj (Fin.ay ?_))
     exact Fin.join [0,3,4] [102] sets_2 (Option.some.inj h7) rfl
    ·refine ab.skip (Fin.ag ⟨[(0,_),(3,_),(4,_),(5,_)],[(102,_)]⟩ rfl (Fin.then (ab.seq (ab.aa ?_))))
     refine Oc oa (ae.af ⟨[(0,_),(3,_),(4,_),(5,_),(6,.b (.one (.nil)))],[(102,_)]⟩ rfl ?_)
     obtain ⟨v10,h11,h7⟩:=aG h7
     refine ab.bM (v:=v10) (bK fun (x_8:List Int) (rest_9:List (List Int))=>⟨[(0,.b (.one (.sl 1 (l0.map (eL 1 eI))))),(4,I i_3),(5,.b (.one (.sl 1 (x_8.map eI)))),(6,.b (.row 104))],[(104,.row 30 1 (rest_9.map (eL 1 eI)))]⟩) (fun z=>z) ?_ ?_
     ·refine ab.seq (ab.aa ?_)
      refine Oc oa (ae.af ⟨[(0,_),(3,_),(4,_),(5,_),(6,_),(7,I 0)],[(102,_)]⟩ rfl (ab.block (ab.c4 6 104 1 30 rfl (by decide) rfl (ab.bS h11 (kO fun (x_10:List Int) (rest_11:List (List Int)) (k_12:Int)=>⟨[(0,.b (.one (.sl 1 (l0.map (eL 1 eI))))),(3,.b (.row 102)),(4,I i_3),(5,.b (.one (.sl 1 (x_10.map eI)))),(6,.b (.row 104)),(7,I k_12)],[(102,.row 30 1 (sets_2.map (eL 1 eI))),(104,.row 30 1 (rest_11.map (eL 1 eI)))]⟩) [0,3,4,5,6,7] [102,104] rfl ?_))))
      rintro ⟨x_10,rest_11,k_12⟩ o12 h13 hy14
      refine ab.seq (ab.seq (ab.aa ?_))
      refine Oc om (Oc om (Oc (fm jz rfl rfl (List.length_map _)) (Oc (a7 rfl rfl) ?_)))
      refine ae.af ⟨[(0,_),(3,_),(4,_),(5,_),(6,_),(7,_),(27,B (decide (k_12 < (sets_2.length:Int))))],[(102,_),(104,_)]⟩ rfl (ab.ite h13 rfl (fun _ h13=>?_) (fun _ h13=>?_))
      ·refine ab.skip (Fin.ag ⟨[(0,_),(3,_),(4,_),(5,_),(6,_),(7,_)],[(102,_),(104,_)]⟩ rfl (Fin.then ?_))
       obtain ⟨v15,h16,h13⟩:=aG h13
       refine ab.bM (v:=v15) (bK fun (x_15:List Int) (rest_16:List (List Int))=>⟨[(0,.b (.one (.sl 1 (l0.map (eL 1 eI))))),(3,.b (.row 102)),(4,I i_3),(5,.b (.one (.sl 1 (x_15.map eI)))),(6,.b (.row 104)),(7,I k_12)],[(102,.row 30 1 (sets_2.map (eL 1 eI))),(104,.row 30 1 (rest_16.map (eL 1 eI)))]⟩) (fun z=>z) ?_ ?_
       ·refine ab.block (ab.seq (ab.aa ?_))
        refine Oc om (Oc om ?_)
        obtain ⟨x_17,e17,h16⟩:=aG h16
        refine Oc (ao bN (aD e17) (aQ e17) rfl rfl rfl rfl) (Oc (aH (i:=(k_12:Int).toNat) (f:=0) aU rfl rfl rfl (aB (e:=(eL 1 eI)) e17) rfl) (Oc om ?_))
        obtain ⟨x_18,e18,h16⟩:=aG h16
        refine Oc (aO (iJ e18) goes42 rfl rfl) (ae.af ⟨[(0,_),(3,_),(4,_),(5,_),(6,_),(7,_),(35,B x_18)],[(102,_),(104,_)]⟩ rfl (ab.ite h16 rfl (fun _ h16=>?_) (fun _ h16=>?_)))
        ·refine ab.aa (Oc om (Oc om (Oc om ?_)))
         obtain ⟨x_19,e19,h16⟩:=aG h16
         refine Oc (ao bN (aD e19) (aQ e19) rfl rfl rfl rfl) (Oc (aH (i:=(k_12:Int).toNat) (f:=0) aU rfl rfl rfl (aB (e:=(eL 1 eI)) e19) rfl) ?_)
         obtain ⟨x_20,e20,h16⟩:=aG h16
         refine Oc (aO (fa e20) s5 rfl rfl) (Oc oa ?_)
         refine ae.nil (Fin.ai ?_)
         exact Fin.join [0,3,4,5,6,7] [102,104] (x_20,rest_11) (Option.some.inj h16) rfl
        ·refine ab.aa (Oc om (Oc om (Oc om ?_)))
         obtain ⟨x_21,e21,h16⟩:=aG h16
         refine Oc (ao bN (aD e21) (aQ e21) rfl rfl rfl rfl) (Oc (aH (i:=(k_12:Int).toNat) (f:=0) aU rfl rfl rfl (aB (e:=(eL 1 eI)) e21) rfl) (Oc (az (k:=105) (es:=[x_21].map (eL 1 eI)) bN rfl rfl (aW fun _=>rfl) rfl (by decide) (by decide) rfl) ?_))
         obtain ⟨x_22,e22,h16⟩:=aG h16
         refine Oc (bh bN (dy e22) (dw e22) rfl rfl rfl rfl (bZ e22) rfl) (Oc oa ?_)
         refine ae.nil (Fin.ai ?_)
         exact Fin.join [0,3,4,5,6,7] [102,104] (x_10,x_22) (Option.some.inj h16) rfl
       ·rintro ⟨x_15,rest_16⟩ hv
        subst v15
        refine ab.aa (Oc om (Oc (aS rfl rfl) (Oc oa ?_)))
        refine ae.nil ?_
        exact Fin.bl [0,3,4,5,6,7] [102,104] (x_15,rest_16,IntKind.i64.wrap (k_12 + 1)) (Option.some.inj h13) rfl
      ·refine ab.exit (Fin.aj ?_)
       obtain rfl:=hy14 _ (Option.some.inj h13).symm
       refine Fin.aj (Fin.ay ?_)
       exact Fin.join [0,4,5,6] [104] (x_10,rest_11) rfl rfl
     ·rintro ⟨x_8,rest_9⟩ hv
      subst v10
      refine ab.aa (Oc om (Oc om (Oc (az (k:=106) (es:=[x_8].map (eL 1 eI)) bN rfl rfl (aW fun _=>rfl) rfl (by decide) (by decide) rfl) ?_)))
      obtain ⟨x_23,e23,h7⟩:=aG h7
      refine Oc (bh bN (dy e23) (dw e23) rfl rfl rfl rfl (bZ e23) rfl) (Oc oa ?_)
      refine ae.nil (Fin.ai (Fin.ag ⟨[(0,.b (.one (.sl 1 (l0.map (eL 1 eI))))),(3,.b (.row 104)),(4,I i_3)],[(104,.row 30 1 (x_23.map (eL 1 eI)))]⟩ rfl (Fin.rename 104 102 rfl (by decide) rfl ?_)))
      exact Fin.join [0,3,4] [102] x_23 (Option.some.inj h7) rfl
   ·rintro sets_5 hv
    subst v6
    refine ab.aa (Oc om (Oc (aS rfl rfl) (Oc oa ?_)))
    refine ae.nil ?_
    exact Fin.bl [0,3,4] [102] (sets_5,IntKind.i64.wrap (i_3 + 1)) (Option.some.inj h4) rfl
  ·refine ab.exit (Fin.aj ?_)
   obtain rfl:=hy5 _ (Option.some.inj h4).symm
   refine Fin.aj (Fin.ay ?_)
   exact Fin.join [3] [102] sets_2 rfl rfl
 ·rintro sets_1 hv
  subst v1
  refine ab.seq (ab.aa ?_)
  refine Oc oa (ae.af ⟨[(3,_),(8,.b (.one (.nil)))],[(102,_)]⟩ rfl ?_)
  obtain ⟨v24,h25,h⟩:=aG h
  refine ab.bM (v:=v24) (fun (out_24:List (List Int))=>⟨[(8,.b (.row 107))],[(107,.row 30 1 (out_24.map (eL 1 eI)))]⟩) (fun z=>z) ?_ ?_
  ·refine ab.seq (ab.aa ?_)
   refine Oc oa (ae.af ⟨[(3,_),(8,_),(9,I 0)],[(102,_)]⟩ rfl (ab.block (ab.c4 8 107 1 30 rfl (by decide) rfl (ab.bS h25 (bK fun (out_25:List (List Int)) (i_26:Int)=>⟨[(3,.b (.row 102)),(8,.b (.row 107)),(9,I i_26)],[(102,.row 30 1 (sets_1.map (eL 1 eI))),(107,.row 30 1 (out_25.map (eL 1 eI)))]⟩) [3,8,9] [102,107] rfl ?_))))
   rintro ⟨out_25,i_26⟩ o26 h27 hy28
   refine ab.seq (ab.seq (ab.aa ?_))
   refine Oc om (Oc om (Oc (fm jz rfl rfl (List.length_map _)) (Oc (a7 rfl rfl) ?_)))
   refine ae.af ⟨[(3,_),(8,_),(9,_),(56,B (decide (i_26 < (sets_1.length:Int))))],[(102,_),(107,_)]⟩ rfl (ab.ite h27 rfl (fun _ h27=>?_) (fun _ h27=>?_))
   ·refine ab.skip (Fin.ag ⟨[(3,_),(8,_),(9,_)],[(102,_),(107,_)]⟩ rfl (Fin.then (ab.seq (ab.block (ab.aa ?_)))))
    refine Oc om (Oc om (Oc om ?_))
    obtain ⟨x_28,e29,h27⟩:=aG h27
    refine Oc (ao bN (aD e29) (aQ e29) rfl rfl rfl rfl) (Oc (aH (i:=(i_26:Int).toNat) (f:=0) aU rfl rfl rfl (aB (e:=(eL 1 eI)) e29) rfl) ?_)
    refine ae.bB 107 rfl ?_
    obtain ⟨x_29,e30,h27⟩:=aG h27
    refine Oc (bg (jw 108 e30) goes43 rfl trivial rfl rfl) (Oc oa ?_)
    refine ae.nil (Fin.ai (Fin.ag ⟨[(3,.b (.row 102)),(8,.b (.row 108)),(9,I i_26)],[(102,.row 30 1 (sets_1.map (eL 1 eI))),(108,.row 30 1 (x_29.map (eL 1 eI)))]⟩ rfl (Fin.then (ab.aa ?_))))
    refine Oc om (Oc (aS rfl rfl) (Oc oa ?_))
    refine ae.nil (Fin.ag ⟨[(3,.b (.row 102)),(8,.b (.row 108)),(9,I (IntKind.i64.wrap (i_26 + 1)))],[(102,.row 30 1 (sets_1.map (eL 1 eI))),(108,.row 30 1 (x_29.map (eL 1 eI)))]⟩ rfl (Fin.rename 108 107 rfl (by decide) rfl ?_))
    exact Fin.bl [3,8,9] [102,107] (x_29,IntKind.i64.wrap (i_26 + 1)) (Option.some.inj h27) rfl
   ·refine ab.exit (Fin.aj ?_)
    obtain rfl:=hy28 _ (Option.some.inj h27).symm
    refine Fin.aj (Fin.ay ?_)
    exact Fin.join [8] [107] out_25 rfl rfl
  ·rintro out_24 hv
   subst v24
   refine ab.seq (ab.aa ?_)
   refine Oc om (Oc oa ?_)
   refine ae.af ⟨[(2,.b (.row 107))],[(107,_)]⟩ rfl (ab.ret ?_)
   obtain rfl:=Option.some.inj h
   refine Fin.ag ⟨[(2,_)],[(107,_)]⟩ rfl (Fin.gA 107 kr0 [.row 107] (.inl rfl) rfl (.cons (.tmp rfl) .nil) rfl rfl rfl rfl ⟨rfl,rfl⟩)
def bL (F:Nat) (fixed0:List Bool) (links0:List A2):Option (List (List Int)) :=
 Option.bind (iter F (bK fun l_2 i_3=>if (decide (i_3 < (fixed0.length:Int))) = true then (Option.bind ((aE fixed0 i_3).bind fun x_6=>if (!x_6) = true then ((dv l_2 [[i_3]]).bind fun x_7=>some x_7) else (some l_2)) (fun l_5=>some (.inl (l_5,IntKind.i64.wrap (i_3 + 1))))) else (some (.inr l_2))) ([],0)) (fun l_1=>Option.bind (iter F (bK fun l_9 i_10=>if (decide (i_10 < (links0.length:Int))) = true then (Option.bind ((aE links0 i_10).bind fun x_13=>(aE fixed0 x_13.a0).bind fun x_14=>(cy (!x_14) (aE links0 i_10)).bind fun x_15=>(cy (!x_14) (aE fixed0 x_15.a1)).bind fun x_16=>if ((!x_14) && (!x_16)) = true then ((aE links0 i_10).bind fun x_17=>(aE links0 i_10).bind fun x_18=>(dv l_9 [[x_17.a0,x_18.a1]]).bind fun x_19=>some x_19) else (some l_9)) (fun l_12=>some (.inl (l_12,IntKind.i64.wrap (i_10 + 1))))) else (some (.inr l_9))) (l_1,0)) (fun l_8=>(bn F l_8).bind fun x_20=>some x_20))
theorem eu (kr0:Nat) {F:Nat} {fixed0:List Bool} {links0:List A2} {r:(List (List Int))} (h:bL F fixed0 links0 = some r):av Try.prog [] 37 [] [.one (.sl 1 (fixed0.map eB)),.one (.sl 2 (links0.map (bW .i64)))] (Is [(kr0,.row 30 1 (r.map (eL 1 eI)))] (.b (.row kr0))):=by
 unfold bL at h
 refine av.intro 66 Try.func37 Try.ntmps37 rfl (by simp) fun E=>?_
 show ab _ E ⟨66,[],[],[]⟩ _ ⟨[(0,.b (.one (.sl 1 (fixed0.map eB)))),(1,.b (.one (.sl 2 (links0.map (bW .i64)))))],[]⟩ _
 refine ab.seq (ab.aa ?_)
 refine Oc oa (ae.af ⟨[(0,.b (.one (.sl 1 (fixed0.map eB)))),(1,.b (.one (.sl 2 (links0.map (bW .i64)))))],[]⟩ rfl (ab.seq (ab.aa ?_)))
 refine Oc oa (ae.af ⟨[(0,_),(1,_),(5,.b (.one (.nil)))],[]⟩ rfl ?_)
 obtain ⟨v1,h2,h⟩:=aG h
 refine ab.bM (v:=v1) (fun (l_1:List (List Int))=>⟨[(0,.b (.one (.sl 1 (fixed0.map eB)))),(1,.b (.one (.sl 2 (links0.map (bW .i64))))),(5,.b (.row 103))],[(103,.row 30 1 (l_1.map (eL 1 eI)))]⟩) (fun z=>z) ?_ ?_
 ·refine ab.seq (ab.aa ?_)
  refine Oc oa (ae.af ⟨[(0,_),(1,_),(5,_),(6,I 0)],[]⟩ rfl (ab.block (ab.c4 5 103 1 30 rfl (by decide) rfl (ab.bS h2 (bK fun (l_2:List (List Int)) (i_3:Int)=>⟨[(0,.b (.one (.sl 1 (fixed0.map eB)))),(1,.b (.one (.sl 2 (links0.map (bW .i64))))),(5,.b (.row 103)),(6,I i_3)],[(103,.row 30 1 (l_2.map (eL 1 eI)))]⟩) [0,1,5,6] [103] rfl ?_))))
  rintro ⟨l_2,i_3⟩ o3 h4 hy5
  refine ab.seq (ab.seq (ab.aa ?_))
  refine Oc om (Oc om (Oc (au cT rfl (List.length_map _)) (Oc (a7 rfl rfl) ?_)))
  refine ae.af ⟨[(0,_),(1,_),(5,_),(6,_),(11,B (decide (i_3 < (fixed0.length:Int))))],[(103,_)]⟩ rfl (ab.ite h4 rfl (fun _ h4=>?_) (fun _ h4=>?_))
  ·refine ab.skip (Fin.ag ⟨[(0,_),(1,_),(5,_),(6,_)],[(103,_)]⟩ rfl (Fin.then ?_))
   obtain ⟨v6,h7,h4⟩:=aG h4
   refine ab.bM (v:=v6) (fun (l_5:List (List Int))=>⟨[(0,.b (.one (.sl 1 (fixed0.map eB)))),(1,.b (.one (.sl 2 (links0.map (bW .i64))))),(5,.b (.row 103)),(6,I i_3)],[(103,.row 30 1 (l_5.map (eL 1 eI)))]⟩) (fun z=>z) ?_ ?_
   ·refine ab.block (ab.seq (ab.aa ?_))
    refine Oc om (Oc om ?_)
    obtain ⟨x_6,e8,h7⟩:=aG h7
    refine Oc (aA iC (aD e8) (aB (e:=eB) e8) rfl rfl) (Oc (ax je rfl rfl) (Oc (cU rfl) ?_))
    refine ae.af ⟨[(0,_),(1,_),(5,_),(6,_),(18,B (!x_6))],[(103,_)]⟩ rfl (ab.ite h7 rfl (fun _ h7=>?_) (fun _ h7=>?_))
    ·refine ab.aa (Oc om (Oc om (Oc (az (k:=104) (es:=[i_3].map eI) ak rfl rfl (aW fun _=>rfl) rfl (by decide) (by decide) rfl) ?_)))
     refine ae.bB 104 rfl (ae.ag ⟨[(0,.b (.one (.sl 1 (fixed0.map eB)))),(1,.b (.one (.sl 2 (links0.map (bW .i64))))),(5,.b (.row 103)),(6,I i_3),(19,.b (.row 103)),(21,.b (.one (.sl 1 ([i_3].map eI))))],[(103,.row 30 1 (l_2.map (eL 1 eI)))]⟩ rfl (Oc (az (k:=105) (es:=[[i_3]].map (eL 1 eI)) bN rfl rfl (aW fun _=>rfl) rfl (by decide) (by decide) rfl) ?_))
     obtain ⟨x_7,e9,h7⟩:=aG h7
     refine Oc (bh bN (dy e9) (dw e9) rfl rfl rfl rfl (bZ e9) rfl) (Oc oa ?_)
     refine ae.nil (Fin.ai ?_)
     exact Fin.join [0,1,5,6] [103] x_7 (Option.some.inj h7) rfl
    ·refine ab.skip (Fin.ai ?_)
     exact Fin.join [0,1,5,6] [103] l_2 (Option.some.inj h7) rfl
   ·rintro l_5 hv
    subst v6
    refine ab.aa (Oc om (Oc (aS rfl rfl) (Oc oa ?_)))
    refine ae.nil ?_
    exact Fin.bl [0,1,5,6] [103] (l_5,IntKind.i64.wrap (i_3 + 1)) (Option.some.inj h4) rfl
  ·refine ab.exit (Fin.aj ?_)
   obtain rfl:=hy5 _ (Option.some.inj h4).symm
   refine Fin.aj (Fin.ay ?_)
   exact Fin.join [0,1,5] [103] l_2 rfl rfl
 ·rintro l_1 hv
  subst v1
  obtain ⟨v10,h11,h⟩:=aG h
  refine ab.bM (v:=v10) (fun (l_8:List (List Int))=>⟨[(5,.b (.row 103))],[(103,.row 30 1 (l_8.map (eL 1 eI)))]⟩) (fun z=>z) ?_ ?_
  ·refine ab.seq (ab.aa ?_)
   refine Oc oa (ae.af ⟨[(0,_),(1,_),(5,_),(7,I 0)],[(103,_)]⟩ rfl (ab.block (ab.bS h11 (bK fun (l_9:List (List Int)) (i_10:Int)=>⟨[(0,.b (.one (.sl 1 (fixed0.map eB)))),(1,.b (.one (.sl 2 (links0.map (bW .i64))))),(5,.b (.row 103)),(7,I i_10)],[(103,.row 30 1 (l_9.map (eL 1 eI)))]⟩) [0,1,5,7] [103] rfl ?_)))
   rintro ⟨l_9,i_10⟩ o12 h13 hy14
   refine ab.seq (ab.seq (ab.aa ?_))
   refine Oc om (Oc om (Oc (au nm rfl (List.length_map _)) (Oc (a7 rfl rfl) ?_)))
   refine ae.af ⟨[(0,_),(1,_),(5,_),(7,_),(27,B (decide (i_10 < (links0.length:Int))))],[(103,_)]⟩ rfl (ab.ite h13 rfl (fun _ h13=>?_) (fun _ h13=>?_))
   ·refine ab.skip (Fin.ag ⟨[(0,_),(1,_),(5,_),(7,_)],[(103,_)]⟩ rfl (Fin.then ?_))
    obtain ⟨v15,h16,h13⟩:=aG h13
    refine ab.bM (v:=v15) (fun (l_12:List (List Int))=>⟨[(0,.b (.one (.sl 1 (fixed0.map eB)))),(1,.b (.one (.sl 2 (links0.map (bW .i64))))),(5,.b (.row 103)),(7,I i_10)],[(103,.row 30 1 (l_12.map (eL 1 eI)))]⟩) (fun z=>z) ?_ ?_
    ·refine ab.block (ab.seq (ab.aa ?_))
     refine Oc om (Oc om (Oc om ?_))
     obtain ⟨x_13,e17,h16⟩:=aG h16
     refine Oc (aA ed (aD e17) (aB (e:=(bW .i64)) e17) rfl rfl) (Oc (cH dq (by decide) (by decide) rfl rfl rfl) (Oc (ax aw rfl rfl) ?_))
     obtain ⟨x_14,e18,h16⟩:=aG h16
     refine Oc (aA iC (aD e18) (aB (e:=eB) e18) rfl rfl) (ae.ag ⟨[(0,_),(1,_),(5,_),(7,_),(36,.b (.cz [.bool x_14]))],[(103,_)]⟩ rfl (Oc (ax je rfl rfl) (Oc (cU rfl) (Oc om ?_))))
     refine cS (!x_14) [] (fun g19=>trivial) (fun g19=>om) (cS (!x_14) [] (fun g20=>by exact trivial) (fun g20=>om) (cS (!x_14) [] (fun g21=>by exact trivial) (fun g21=>om) ?_))
     obtain ⟨x_15,e23,h16⟩:=aG h16
     refine cS (!x_14) [41,42] (fun g22=>⟨g22,g22,trivial⟩) (fun g22=>aA ed (aD (gc e23 g22)) (aB (e:=(bW .i64)) (gc e23 g22)) rfl rfl) (cS (!x_14) [43] (fun g24=>⟨g24,trivial⟩) (fun g24=>cH dq (by decide) (by decide) rfl rfl rfl) (ae.ag ⟨[(0,_),(1,_),(5,_),(7,_),(39,B (!x_14)),(40,.opt (!x_14) (.one (.sl 1 (fixed0.map eB)))),(44,.opt (!x_14) (.cz [.i x_15.a1]))],[(103,_)]⟩ rfl (cS (!x_14) [44] (fun g25=>⟨g25,trivial⟩) (fun g25=>ax aw rfl rfl) ?_)))
     obtain ⟨x_16,e27,h16⟩:=aG h16
     refine cS (!x_14) [40,45] (fun g26=>⟨g26,g26,trivial⟩) (fun g26=>aA iC (aD (gc e27 g26)) (aB (e:=eB) (gc e27 g26)) rfl rfl) (cS (!x_14) [46] (fun g28=>⟨g28,trivial⟩) (fun g28=>ax je rfl rfl) (cS (!x_14) [47] (fun g29=>⟨g29,trivial⟩) (fun g29=>cU rfl) (Oc (aM (fun e=>e) rfl rfl rfl rfl) (ae.af ⟨[(0,_),(1,_),(5,_),(7,_),(49,B ((!x_14) && (!x_16)))],[(103,_)]⟩ rfl (ab.ite h16 rfl (fun _ h16=>?_) (fun _ h16=>?_))))))
     ·refine ab.ag ⟨[(0,_),(1,_),(5,_),(7,_)],[(103,_)]⟩ rfl ?_
      obtain ⟨x_17,e30,h16⟩:=aG h16
      obtain ⟨x_18,e31,h16⟩:=aG h16
      obtain ⟨x_19,e32,h16⟩:=aG h16
      refine ab.jV mixed 13 [.b (.row 103),.b (.one (.sl 2 (links0.map (bW .i64)))),I i_10,.b (.cz ((bW .i64) x_17)),.b (.cz [.i x_17.a0]),I x_17.a0,.b (.one (.sl 2 (links0.map (bW .i64)))),I i_10,.b (.cz ((bW .i64) x_18)),.b (.cz [.i x_18.a1]),I x_18.a1,.b (.one (.sl 1 ([x_17.a0,x_18.a1].map eI))),.b (.one (.sl 1 ([[x_17.a0,x_18.a1]].map (eL 1 eI))))] [0,1,5,7] [103] (s':=⟨[(0,_),(1,_),(5,_),(7,_)],[(103,.row 30 1 (x_19.map (eL 1 eI)))]⟩) rfl ⟨fun _=>.p om,fun _=>.p om,fun _=>.p om,fun _=>.p (aA ed (aD e30) (aB (e:=(bW .i64)) e30) rfl rfl),fun _=>.p (cH dq (by decide) (by decide) rfl rfl rfl),fun _=>.p (ax aw rfl rfl),fun _=>.p om,fun _=>.p om,fun _=>.p (aA ed (aD e31) (aB (e:=(bW .i64)) e31) rfl rfl),fun _=>.p (cH dq (by decide) (by decide) rfl rfl rfl),fun _=>.p (ax aw rfl rfl),fun _=>.p (b7 (es:=[x_17.a0,x_18.a1].map eI) ak rfl rfl (aW fun _=>rfl) rfl (by decide) (by decide)),fun _=>.p (b7 (es:=[[x_17.a0,x_18.a1]].map (eL 1 eI)) bN rfl rfl (aW fun _=>rfl) rfl (by decide) (by decide)),trivial⟩ ⟨_,by exact .p (rX bN (dy e32) (dw e32) rfl rfl rfl (bZ e32) rfl),⟨_,by exact .p oa,rfl⟩⟩ rfl (Fin.ai ?_)
      exact Fin.join [0,1,5,7] [103] x_19 (Option.some.inj h16) rfl
     ·refine ab.skip (Fin.ai ?_)
      exact Fin.join [0,1,5,7] [103] l_9 (Option.some.inj h16) rfl
    ·rintro l_12 hv
     subst v15
     refine ab.aa (Oc om (Oc (aS rfl rfl) (Oc oa ?_)))
     refine ae.nil ?_
     exact Fin.bl [0,1,5,7] [103] (l_12,IntKind.i64.wrap (i_10 + 1)) (Option.some.inj h13) rfl
   ·refine ab.exit (Fin.aj ?_)
    obtain rfl:=hy14 _ (Option.some.inj h13).symm
    refine Fin.aj (Fin.ay ?_)
    exact Fin.join [5] [103] l_9 rfl rfl
  ·rintro l_8 hv
   subst v10
   refine ab.seq (ab.aa ?_)
   refine Oc om (ae.bB 103 rfl ?_)
   obtain ⟨x_20,e33,h⟩:=aG h
   refine Oc (bg (iL 108 e33) goes26 rfl trivial rfl rfl) (Oc oa ?_)
   refine ae.af ⟨[(4,.b (.row 108))],[(108,.row 30 1 (x_20.map (eL 1 eI)))]⟩ rfl (ab.ret ?_)
   obtain rfl:=Option.some.inj h
   refine Fin.ag ⟨[(4,_)],[(108,_)]⟩ rfl (Fin.gA 108 kr0 [.row 108] (.inl rfl) rfl (.cons (.tmp rfl) .nil) rfl rfl rfl rfl ⟨rfl,rfl⟩)
def cW (F:Nat) (fixed0:List Bool) (links0:List A2):Option Sets :=
 (bG F fixed0 links0).bind fun x_1=>if (!x_1) = true then (some (⟨[],1⟩:Sets)) else ((bL F fixed0 links0).bind fun x_2=>some (⟨x_2,0⟩:Sets))
theorem jd {F:Nat} {fixed0:List Bool} {links0:List A2} {r:Sets} (h:cW F fixed0 links0 = some r):av Try.prog [] 15 [] [.one (.sl 1 (fixed0.map eB)),.one (.sl 2 (links0.map (bW .i64)))] (Is [] (.b (.agg (eSets r)))):=by
 unfold cW at h
 refine av.intro 16 Try.func15 Try.ntmps15 rfl (by simp) fun E=>?_
 show ab _ E ⟨16,[],[],[]⟩ _ ⟨[(0,.b (.one (.sl 1 (fixed0.map eB)))),(1,.b (.one (.sl 2 (links0.map (bW .i64)))))],[]⟩ _
 refine ab.seq (ab.aa ?_)
 refine Oc (bc (k:=101) pI rfl) (ae.af ⟨[(0,.b (.one (.sl 1 (fixed0.map eB)))),(1,.b (.one (.sl 2 (links0.map (bW .i64))))),(4,Pt 101 0)],[(101,.box 34 [.nil,.i 0])]⟩ rfl (ab.seq (ab.aa ?_)))
 refine Oc om (Oc om ?_)
 obtain ⟨x_1,e1,h⟩:=aG h
 refine Oc (aO (dD e1) qy rfl rfl) (Oc oa ?_)
 refine ae.af ⟨[(0,_),(1,_),(4,_),(5,B x_1)],[(101,_)]⟩ rfl (ab.seq (ab.seq (ab.aa ?_)))
 refine Oc om (Oc (cU rfl) ?_)
 refine ae.af ⟨[(0,_),(1,_),(4,_),(10,B (!x_1))],[(101,_)]⟩ rfl (ab.ite h rfl (fun _ h=>?_) (fun _ h=>?_))
 ·refine ab.seq (ab.aa ?_)
  refine Oc (bu.sq (.sl (size:=1) (by decide) (.same (.nil))) (gm oq rfl rfl)) (Oc (c6 lD rfl rfl rfl rfl (Nat.le_of_ble_eq_true rfl) rfl) ?_)
  refine ae.af ⟨[(4,_)],[(101,.box 34 [.sl 1 ([].map (eL 1 eI)),.i 1])]⟩ rfl (ab.ret (Fin.aR ?_))
  obtain rfl:=Option.some.inj h
  refine Fin.ag ⟨[(4,_)],[(101,_)]⟩ rfl (Fin.aP [.agg [.sl 1 ([].map (eL 1 eI)),.i 1]] (.inl rfl) rfl (.cons (.agg lD rfl rfl rfl rfl) .nil) ⟨rfl,rfl⟩)
 ·refine ab.skip (Fin.ag ⟨[(0,_),(1,_),(4,_)],[(101,_)]⟩ rfl (Fin.then (ab.seq (ab.aa ?_))))
  refine Oc om (Oc om ?_)
  obtain ⟨x_2,e2,h⟩:=aG h
  refine Oc (bg (eu 102 e2) s8 rfl trivial rfl rfl) (ae.bB 102 rfl (Oc (gm oq rfl rfl) (Oc (c6 lD rfl rfl rfl rfl (Nat.le_of_ble_eq_true rfl) rfl) ?_)))
  refine ae.af ⟨[(4,Pt 101 0)],[(101,.box 34 [.sl 1 (x_2.map (eL 1 eI)),.i 0])]⟩ rfl (ab.ret ?_)
  obtain rfl:=Option.some.inj h
  refine Fin.ag ⟨[(4,_)],[(101,_)]⟩ rfl (Fin.aP [.agg [.sl 1 (x_2.map (eL 1 eI)),.i 0]] (.inl rfl) rfl (.cons (.agg lD rfl rfl rfl rfl) .nil) ⟨rfl,rfl⟩)
def bC (F:Nat) (fixed0:List Bool) (links0:List A2):Option (List Int) :=
 Option.bind (iter F (bK fun out_2 i_3=>if (decide (i_3 < (fixed0.length:Int))) = true then (Option.bind ((dv out_2 [(-1)]).bind fun x_6=>(aE fixed0 i_3).bind fun x_7=>if x_7 = true then ((aE x_6 i_3).bind fun x_8=>some (x_6.set (i_3:Int).toNat 0)) else (some x_6)) (fun out_5=>some (.inl (out_5,IntKind.i64.wrap (i_3 + 1))))) else (some (.inr out_2))) ([],0)) (fun out_1=>Option.bind (iter F (bK fun out_10 k_11=>if (decide (k_11 ≤ (fixed0.length:Int))) = true then (Option.bind ((dv [] out_10).bind fun x_14=>Option.bind (iter F (bK fun next_16 i_17=>if (decide (i_17 < (links0.length:Int))) = true then (Option.bind ((aE links0 i_17).bind fun x_20=>(aE links0 i_17).bind fun x_21=>Option.bind ((aE out_10 x_20.a0).bind fun x_23=>(cy (decide (x_23 = (IntKind.i64.wrap (k_11 - 1)))) (aE out_10 x_21.a1)).bind fun x_24=>dI ((decide (x_23 = (IntKind.i64.wrap (k_11 - 1)))) && (decide (x_24 < 0))) fun x_25=>if x_25 = true then ((aE next_16 x_21.a1).bind fun x_26=>some (next_16.set (x_21.a1:Int).toNat k_11)) else (some next_16)) (fun next_22=>(aE out_10 x_21.a1).bind fun x_27=>(cy (decide (x_27 = (IntKind.i64.wrap (k_11 - 1)))) (aE out_10 x_20.a0)).bind fun x_28=>dI ((decide (x_27 = (IntKind.i64.wrap (k_11 - 1)))) && (decide (x_28 < 0))) fun x_29=>if x_29 = true then ((aE next_22 x_20.a0).bind fun x_30=>some (next_22.set (x_20.a0:Int).toNat k_11)) else (some next_22))) (fun next_19=>some (.inl (next_19,IntKind.i64.wrap (i_17 + 1))))) else (some (.inr next_16))) (x_14,0)) (fun next_15=>some next_15)) (fun out_13=>some (.inl (out_13,IntKind.i64.wrap (k_11 + 1))))) else (some (.inr out_10))) (out_1,1)) (fun out_9=>some out_9))
theorem eK (kr0:Nat) {F:Nat} {fixed0:List Bool} {links0:List A2} {r:(List Int)} (h:bC F fixed0 links0 = some r):av Try.prog [] 38 [] [.one (.sl 1 (fixed0.map eB)),.one (.sl 2 (links0.map (bW .i64)))] (Is [(kr0,.row 3 1 (r.map eI))] (.b (.row kr0))):=by
 unfold bC at h
 refine av.intro 91 Try.func38 Try.ntmps38 rfl (by simp) fun E=>?_
 show ab _ E ⟨91,[],[],[]⟩ _ ⟨[(0,.b (.one (.sl 1 (fixed0.map eB)))),(1,.b (.one (.sl 2 (links0.map (bW .i64)))))],[]⟩ _
 refine ab.seq (ab.aa ?_)
 refine Oc oa (ae.af ⟨[(0,.b (.one (.sl 1 (fixed0.map eB)))),(1,.b (.one (.sl 2 (links0.map (bW .i64)))))],[]⟩ rfl (ab.seq (ab.aa ?_)))
 refine Oc oa (ae.af ⟨[(0,_),(1,_),(5,.b (.one (.nil)))],[]⟩ rfl ?_)
 obtain ⟨v1,h2,h⟩:=aG h
 refine ab.bM (v:=v1) (fun (out_1:List Int)=>⟨[(0,.b (.one (.sl 1 (fixed0.map eB)))),(1,.b (.one (.sl 2 (links0.map (bW .i64))))),(5,.b (.row 102))],[(102,.row 3 1 (out_1.map eI))]⟩) (fun z=>z) ?_ ?_
 ·refine ab.seq (ab.aa ?_)
  refine Oc oa (ae.af ⟨[(0,_),(1,_),(5,_),(6,I 0)],[]⟩ rfl (ab.block (ab.c4 5 102 1 3 rfl (by decide) rfl (ab.bS h2 (bK fun (out_2:List Int) (i_3:Int)=>⟨[(0,.b (.one (.sl 1 (fixed0.map eB)))),(1,.b (.one (.sl 2 (links0.map (bW .i64))))),(5,.b (.row 102)),(6,I i_3)],[(102,.row 3 1 (out_2.map eI))]⟩) [0,1,5,6] [102] rfl ?_))))
  rintro ⟨out_2,i_3⟩ o3 h4 hy5
  refine ab.seq (ab.seq (ab.aa ?_))
  refine Oc om (Oc om (Oc (au cT rfl (List.length_map _)) (Oc (a7 rfl rfl) ?_)))
  refine ae.af ⟨[(0,_),(1,_),(5,_),(6,_),(15,B (decide (i_3 < (fixed0.length:Int))))],[(102,_)]⟩ rfl (ab.ite h4 rfl (fun _ h4=>?_) (fun _ h4=>?_))
  ·refine ab.skip (Fin.ag ⟨[(0,_),(1,_),(5,_),(6,_)],[(102,_)]⟩ rfl (Fin.then ?_))
   obtain ⟨v6,h7,h4⟩:=aG h4
   refine ab.bM (v:=v6) (fun (out_5:List Int)=>⟨[(0,.b (.one (.sl 1 (fixed0.map eB)))),(1,.b (.one (.sl 2 (links0.map (bW .i64))))),(5,.b (.row 102)),(6,I i_3)],[(102,.row 3 1 (out_5.map eI))]⟩) (fun z=>z) ?_ ?_
   ·refine ab.block (ab.seq (ab.aa ?_))
    refine Oc om (Oc (az (k:=103) (es:=[(-1)].map eI) ak rfl rfl (aW fun _=>rfl) rfl (by decide) (by decide) rfl) ?_)
    obtain ⟨x_6,e8,h7⟩:=aG h7
    refine Oc (bh ak (dy e8) (dw e8) rfl rfl rfl rfl (bZ e8) rfl) (Oc oa ?_)
    refine ae.af ⟨[(0,_),(1,_),(5,_),(6,_)],[(102,.row 3 1 (x_6.map eI))]⟩ rfl (ab.seq (ab.aa ?_))
    refine Oc om (Oc om ?_)
    obtain ⟨x_7,e9,h7⟩:=aG h7
    refine Oc (aA iC (aD e9) (aB (e:=eB) e9) rfl rfl) (Oc (ax je rfl rfl) ?_)
    refine ae.af ⟨[(0,_),(1,_),(5,_),(6,_),(24,B x_7)],[(102,_)]⟩ rfl (ab.ite h7 rfl (fun _ h7=>?_) (fun _ h7=>?_))
    ·refine ab.aa (Oc om (Oc om ?_))
     obtain ⟨x_8,e10,h7⟩:=aG h7
     refine Oc (ao ak (aD e10) (aQ e10) rfl rfl rfl rfl) (Oc (bF (i:=(i_3:Int).toNat) aw rfl rfl rfl rfl (eJ e10) (map_set _ _ _ _)) ?_)
     refine ae.nil (Fin.ai ?_)
     exact Fin.join [0,1,5,6] [102] (x_6.set (i_3:Int).toNat 0) (Option.some.inj h7) rfl
    ·refine ab.skip (Fin.ai ?_)
     exact Fin.join [0,1,5,6] [102] x_6 (Option.some.inj h7) rfl
   ·rintro out_5 hv
    subst v6
    refine ab.aa (Oc om (Oc (aS rfl rfl) (Oc oa ?_)))
    refine ae.nil ?_
    exact Fin.bl [0,1,5,6] [102] (out_5,IntKind.i64.wrap (i_3 + 1)) (Option.some.inj h4) rfl
  ·refine ab.exit (Fin.aj ?_)
   obtain rfl:=hy5 _ (Option.some.inj h4).symm
   refine Fin.aj (Fin.ay ?_)
   exact Fin.join [0,1,5] [102] out_2 rfl rfl
 ·rintro out_1 hv
  subst v1
  obtain ⟨v11,h12,h⟩:=aG h
  refine ab.bM (v:=v11) (fun (out_9:List Int)=>⟨[(5,.b (.row 102))],[(102,.row 3 1 (out_9.map eI))]⟩) (fun z=>z) ?_ ?_
  ·refine ab.seq (ab.aa ?_)
   refine Oc oa (ae.af ⟨[(0,_),(1,_),(5,_),(7,I 1)],[(102,_)]⟩ rfl (ab.block (ab.bS h12 (bK fun (out_10:List Int) (k_11:Int)=>⟨[(0,.b (.one (.sl 1 (fixed0.map eB)))),(1,.b (.one (.sl 2 (links0.map (bW .i64))))),(5,.b (.row 102)),(7,I k_11)],[(102,.row 3 1 (out_10.map eI))]⟩) [0,1,5,7] [102] rfl ?_)))
   rintro ⟨out_10,k_11⟩ o13 h14 hy15
   refine ab.seq (ab.seq (ab.aa ?_))
   refine Oc om (Oc om (Oc (au cT rfl (List.length_map _)) (Oc (jO rfl rfl) ?_)))
   refine ae.af ⟨[(0,_),(1,_),(5,_),(7,_),(31,B (decide (k_11 ≤ (fixed0.length:Int))))],[(102,_)]⟩ rfl (ab.ite h14 rfl (fun _ h14=>?_) (fun _ h14=>?_))
   ·refine ab.skip (Fin.ag ⟨[(0,_),(1,_),(5,_),(7,_)],[(102,_)]⟩ rfl (Fin.then ?_))
    obtain ⟨v16,h17,h14⟩:=aG h14
    refine ab.bM (v:=v16) (fun (out_13:List Int)=>⟨[(0,.b (.one (.sl 1 (fixed0.map eB)))),(1,.b (.one (.sl 2 (links0.map (bW .i64))))),(5,.b (.row 104)),(7,I k_11)],[(104,.row 3 1 (out_13.map eI))]⟩) (fun z=>z) ?_ ?_
    ·refine ab.block (ab.seq (ab.aa ?_))
     refine Oc (rW (k:=104) ak rfl) (Oc om ?_)
     obtain ⟨x_14,e18,h17⟩:=aG h17
     refine Oc (bh ak (dy e18) (dw e18) rfl rfl rfl rfl (bZ e18) rfl) (Oc oa ?_)
     refine ae.af ⟨[(0,_),(1,_),(5,_),(7,_),(8,.b (.row 104))],[(102,_),(104,.row 3 1 (x_14.map eI))]⟩ rfl ?_
     obtain ⟨v19,h20,h17⟩:=aG h17
     refine ab.bM (v:=v19) (fun (next_15:List Int)=>⟨[(0,.b (.one (.sl 1 (fixed0.map eB)))),(1,.b (.one (.sl 2 (links0.map (bW .i64))))),(7,I k_11),(8,.b (.row 104))],[(104,.row 3 1 (next_15.map eI))]⟩) (fun z=>z) ?_ ?_
     ·refine ab.seq (ab.aa ?_)
      refine Oc oa (ae.af ⟨[(0,_),(1,_),(5,_),(7,_),(8,_),(9,I 0)],[(102,_),(104,_)]⟩ rfl (ab.block (ab.bS h20 (bK fun (next_16:List Int) (i_17:Int)=>⟨[(0,.b (.one (.sl 1 (fixed0.map eB)))),(1,.b (.one (.sl 2 (links0.map (bW .i64))))),(5,.b (.row 102)),(7,I k_11),(8,.b (.row 104)),(9,I i_17)],[(102,.row 3 1 (out_10.map eI)),(104,.row 3 1 (next_16.map eI))]⟩) [0,1,5,7,8,9] [102,104] rfl ?_)))
      rintro ⟨next_16,i_17⟩ o21 h22 hy23
      refine ab.seq (ab.seq (ab.aa ?_))
      refine Oc om (Oc om (Oc (au nm rfl (List.length_map _)) (Oc (a7 rfl rfl) ?_)))
      refine ae.af ⟨[(0,_),(1,_),(5,_),(7,_),(8,_),(9,_),(40,B (decide (i_17 < (links0.length:Int))))],[(102,_),(104,_)]⟩ rfl (ab.ite h22 rfl (fun _ h22=>?_) (fun _ h22=>?_))
      ·refine ab.skip (Fin.ag ⟨[(0,_),(1,_),(5,_),(7,_),(8,_),(9,_)],[(102,_),(104,_)]⟩ rfl (Fin.then ?_))
       obtain ⟨v24,h25,h22⟩:=aG h22
       refine ab.bM (v:=v24) (fun (next_19:List Int)=>⟨[(0,.b (.one (.sl 1 (fixed0.map eB)))),(1,.b (.one (.sl 2 (links0.map (bW .i64))))),(5,.b (.row 102)),(7,I k_11),(8,.b (.row 104)),(9,I i_17)],[(102,.row 3 1 (out_10.map eI)),(104,.row 3 1 (next_19.map eI))]⟩) (fun z=>z) ?_ ?_
       ·refine ab.block (ab.seq (ab.aa ?_))
        refine Oc om (Oc om ?_)
        obtain ⟨x_20,e26,h25⟩:=aG h25
        refine Oc (aA ed (aD e26) (aB (e:=(bW .i64)) e26) rfl rfl) (Oc (cH dq (by decide) (by decide) rfl rfl rfl) (Oc (ax aw rfl rfl) (Oc oa ?_)))
        refine ae.af ⟨[(0,_),(1,_),(5,_),(7,_),(8,_),(9,_),(10,I x_20.a0)],[(102,_),(104,_)]⟩ rfl (ab.seq (ab.aa ?_))
        refine Oc om (Oc om ?_)
        obtain ⟨x_21,e27,h25⟩:=aG h25
        refine Oc (aA ed (aD e27) (aB (e:=(bW .i64)) e27) rfl rfl) (Oc (cH dq (by decide) (by decide) rfl rfl rfl) (Oc (ax aw rfl rfl) (Oc oa ?_)))
        refine ae.af ⟨[(0,_),(1,_),(5,_),(7,_),(8,_),(9,_),(10,_),(11,I x_21.a1)],[(102,_),(104,_)]⟩ rfl ?_
        obtain ⟨v28,h29,h25⟩:=aG h25
        refine ab.bM (v:=v28) (fun (next_22:List Int)=>⟨[(0,.b (.one (.sl 1 (fixed0.map eB)))),(1,.b (.one (.sl 2 (links0.map (bW .i64))))),(5,.b (.row 102)),(7,I k_11),(8,.b (.row 104)),(9,I i_17),(10,I x_20.a0),(11,I x_21.a1)],[(102,.row 3 1 (out_10.map eI)),(104,.row 3 1 (next_22.map eI))]⟩) (fun z=>z) ?_ ?_
        ·refine ab.seq (ab.aa ?_)
         refine Oc om (Oc om ?_)
         obtain ⟨x_23,e30,h29⟩:=aG h29
         refine Oc (ao ak (aD e30) (aQ e30) rfl rfl rfl rfl) (Oc (aH (i:=(x_20.a0:Int).toNat) (f:=0) aw rfl rfl rfl (aB (e:=eI) e30) rfl) (Oc om (Oc (cM rfl rfl) (Oc (dd rfl rfl) ?_))))
         refine ae.ag ⟨[(0,_),(1,_),(5,_),(7,_),(8,_),(9,_),(10,_),(11,_),(59,B (decide (x_23 = (IntKind.i64.wrap (k_11 - 1)))))],[(102,_),(104,_)]⟩ rfl (Oc om (cS (decide (x_23 = (IntKind.i64.wrap (k_11 - 1)))) [] (fun g31=>by exact trivial) (fun g31=>om) (cS (decide (x_23 = (IntKind.i64.wrap (k_11 - 1)))) [] (fun g32=>by exact trivial) (fun g32=>om) ?_)))
         obtain ⟨x_24,e34,h29⟩:=aG h29
         refine cS (decide (x_23 = (IntKind.i64.wrap (k_11 - 1)))) [61,62] (fun g33=>⟨g33,g33,trivial⟩) (fun g33=>ao ak (aD (gc e34 g33)) (aQ (gc e34 g33)) rfl rfl rfl rfl) (cS (decide (x_23 = (IntKind.i64.wrap (k_11 - 1)))) [63] (fun g35=>⟨g35,trivial⟩) (fun g35=>aH (i:=(x_21.a1:Int).toNat) (f:=0) aw rfl rfl rfl (aB (e:=eI) (gc e34 g35)) rfl) (cS (decide (x_23 = (IntKind.i64.wrap (k_11 - 1)))) [64] (fun g36=>⟨g36,trivial⟩) (fun g36=>a7 rfl rfl) (ae.jA h29 rfl (aM (fun e=>e) rfl rfl rfl rfl) (fun x_25 h29=>?_))))
         refine ae.af ⟨[(0,_),(1,_),(5,_),(7,_),(8,_),(9,_),(10,_),(11,_),(66,B x_25)],[(102,_),(104,_)]⟩ rfl (ab.ite h29 rfl (fun _ h29=>?_) (fun _ h29=>?_))
         ·refine ab.aa (Oc om (Oc om (Oc om ?_)))
          obtain ⟨x_26,e37,h29⟩:=aG h29
          refine Oc (ao ak (aD e37) (aQ e37) rfl rfl rfl rfl) (Oc (bF (i:=(x_21.a1:Int).toNat) aw rfl rfl rfl rfl (eJ e37) (map_set _ _ _ _)) ?_)
          refine ae.nil ?_
          exact Fin.join [0,1,5,7,8,9,10,11] [102,104] (next_16.set (x_21.a1:Int).toNat k_11) (Option.some.inj h29) rfl
         ·refine ab.skip ?_
          exact Fin.join [0,1,5,7,8,9,10,11] [102,104] next_16 (Option.some.inj h29) rfl
        ·rintro next_22 hv
         subst v28
         refine ab.seq (ab.aa ?_)
         refine Oc om (Oc om ?_)
         obtain ⟨x_27,e38,h25⟩:=aG h25
         refine Oc (ao ak (aD e38) (aQ e38) rfl rfl rfl rfl) (Oc (aH (i:=(x_21.a1:Int).toNat) (f:=0) aw rfl rfl rfl (aB (e:=eI) e38) rfl) (Oc om (Oc (cM rfl rfl) (Oc (dd rfl rfl) ?_))))
         refine ae.ag ⟨[(0,_),(1,_),(5,_),(7,_),(8,_),(9,_),(10,_),(77,B (decide (x_27 = (IntKind.i64.wrap (k_11 - 1)))))],[(102,_),(104,_)]⟩ rfl (Oc om (cS (decide (x_27 = (IntKind.i64.wrap (k_11 - 1)))) [] (fun g39=>by exact trivial) (fun g39=>om) (cS (decide (x_27 = (IntKind.i64.wrap (k_11 - 1)))) [] (fun g40=>by exact trivial) (fun g40=>om) ?_)))
         obtain ⟨x_28,e42,h25⟩:=aG h25
         refine cS (decide (x_27 = (IntKind.i64.wrap (k_11 - 1)))) [79,80] (fun g41=>⟨g41,g41,trivial⟩) (fun g41=>ao ak (aD (gc e42 g41)) (aQ (gc e42 g41)) rfl rfl rfl rfl) (cS (decide (x_27 = (IntKind.i64.wrap (k_11 - 1)))) [81] (fun g43=>⟨g43,trivial⟩) (fun g43=>aH (i:=(x_20.a0:Int).toNat) (f:=0) aw rfl rfl rfl (aB (e:=eI) (gc e42 g43)) rfl) (cS (decide (x_27 = (IntKind.i64.wrap (k_11 - 1)))) [82] (fun g44=>⟨g44,trivial⟩) (fun g44=>a7 rfl rfl) (ae.jA h25 rfl (aM (fun e=>e) rfl rfl rfl rfl) (fun x_29 h25=>?_))))
         refine ae.af ⟨[(0,_),(1,_),(5,_),(7,_),(8,_),(9,_),(10,_),(84,B x_29)],[(102,_),(104,_)]⟩ rfl (ab.ite h25 rfl (fun _ h25=>?_) (fun _ h25=>?_))
         ·refine ab.aa (Oc om (Oc om (Oc om ?_)))
          obtain ⟨x_30,e45,h25⟩:=aG h25
          refine Oc (ao ak (aD e45) (aQ e45) rfl rfl rfl rfl) (Oc (bF (i:=(x_20.a0:Int).toNat) aw rfl rfl rfl rfl (eJ e45) (map_set _ _ _ _)) ?_)
          refine ae.nil (Fin.ai ?_)
          exact Fin.join [0,1,5,7,8,9] [102,104] (next_22.set (x_20.a0:Int).toNat k_11) (Option.some.inj h25) rfl
         ·refine ab.skip (Fin.ai ?_)
          exact Fin.join [0,1,5,7,8,9] [102,104] next_22 (Option.some.inj h25) rfl
       ·rintro next_19 hv
        subst v24
        refine ab.aa (Oc om (Oc (aS rfl rfl) (Oc oa ?_)))
        refine ae.nil ?_
        exact Fin.bl [0,1,5,7,8,9] [102,104] (next_19,IntKind.i64.wrap (i_17 + 1)) (Option.some.inj h22) rfl
      ·refine ab.exit (Fin.aj ?_)
       obtain rfl:=hy23 _ (Option.some.inj h22).symm
       refine Fin.aj (Fin.ay ?_)
       exact Fin.join [0,1,7,8] [104] next_16 rfl rfl
     ·rintro next_15 hv
      subst v19
      refine ab.aa (Oc om (Oc oa ?_))
      refine ae.nil (Fin.ai ?_)
      exact Fin.join [0,1,5,7] [104] next_15 (Option.some.inj h17) rfl
    ·rintro out_13 hv
     subst v16
     refine ab.aa (Oc om (Oc (aS rfl rfl) (Oc oa ?_)))
     refine ae.nil (Fin.ag ⟨[(0,.b (.one (.sl 1 (fixed0.map eB)))),(1,.b (.one (.sl 2 (links0.map (bW .i64))))),(5,.b (.row 104)),(7,I (IntKind.i64.wrap (k_11 + 1)))],[(104,.row 3 1 (out_13.map eI))]⟩ rfl (Fin.rename 104 102 rfl (by decide) rfl ?_))
     exact Fin.bl [0,1,5,7] [102] (out_13,IntKind.i64.wrap (k_11 + 1)) (Option.some.inj h14) rfl
   ·refine ab.exit (Fin.aj ?_)
    obtain rfl:=hy15 _ (Option.some.inj h14).symm
    refine Fin.aj (Fin.ay ?_)
    exact Fin.join [5] [102] out_10 rfl rfl
  ·rintro out_9 hv
   subst v11
   refine ab.seq (ab.aa ?_)
   refine Oc om (Oc oa ?_)
   refine ae.af ⟨[(4,.b (.row 102))],[(102,_)]⟩ rfl (ab.ret ?_)
   obtain rfl:=Option.some.inj h
   refine Fin.ag ⟨[(4,_)],[(102,_)]⟩ rfl (Fin.gA 102 kr0 [.row 102] (.inl rfl) rfl (.cons (.tmp rfl) .nil) rfl rfl rfl rfl ⟨rfl,rfl⟩)
def bP (F:Nat) (fixed0:List Bool) (links0:List A2):Option lB :=
 (bG F fixed0 links0).bind fun x_1=>if (!x_1) = true then (some (⟨[],1⟩:lB)) else ((bC F fixed0 links0).bind fun x_2=>some (⟨x_2,0⟩:lB))
theorem ik {F:Nat} {fixed0:List Bool} {links0:List A2} {r:lB} (h:bP F fixed0 links0 = some r):av Try.prog [] 16 [] [.one (.sl 1 (fixed0.map eB)),.one (.sl 2 (links0.map (bW .i64)))] (Is [] (.b (.agg (oR r)))):=by
 unfold bP at h
 refine av.intro 16 Try.func16 Try.ntmps16 rfl (by simp) fun E=>?_
 show ab _ E ⟨16,[],[],[]⟩ _ ⟨[(0,.b (.one (.sl 1 (fixed0.map eB)))),(1,.b (.one (.sl 2 (links0.map (bW .i64)))))],[]⟩ _
 refine ab.seq (ab.aa ?_)
 refine Oc (bc (k:=101) lQ rfl) (ae.af ⟨[(0,.b (.one (.sl 1 (fixed0.map eB)))),(1,.b (.one (.sl 2 (links0.map (bW .i64))))),(4,Pt 101 0)],[(101,.box 37 [.nil,.i 0])]⟩ rfl (ab.seq (ab.aa ?_)))
 refine Oc om (Oc om ?_)
 obtain ⟨x_1,e1,h⟩:=aG h
 refine Oc (aO (dD e1) qy rfl rfl) (Oc oa ?_)
 refine ae.af ⟨[(0,_),(1,_),(4,_),(5,B x_1)],[(101,_)]⟩ rfl (ab.seq (ab.seq (ab.aa ?_)))
 refine Oc om (Oc (cU rfl) ?_)
 refine ae.af ⟨[(0,_),(1,_),(4,_),(10,B (!x_1))],[(101,_)]⟩ rfl (ab.ite h rfl (fun _ h=>?_) (fun _ h=>?_))
 ·refine ab.seq (ab.aa ?_)
  refine Oc (bu.sq (.sl (size:=1) (by decide) (.same (.nil))) (gm kB rfl rfl)) (Oc (c6 fY rfl rfl rfl rfl (Nat.le_of_ble_eq_true rfl) rfl) ?_)
  refine ae.af ⟨[(4,_)],[(101,.box 37 [.sl 1 ([].map eI),.i 1])]⟩ rfl (ab.ret (Fin.aR ?_))
  obtain rfl:=Option.some.inj h
  refine Fin.ag ⟨[(4,_)],[(101,_)]⟩ rfl (Fin.aP [.agg [.sl 1 ([].map eI),.i 1]] (.inl rfl) rfl (.cons (.agg fY rfl rfl rfl rfl) .nil) ⟨rfl,rfl⟩)
 ·refine ab.skip (Fin.ag ⟨[(0,_),(1,_),(4,_)],[(101,_)]⟩ rfl (Fin.then (ab.seq (ab.aa ?_))))
  refine Oc om (Oc om ?_)
  obtain ⟨x_2,e2,h⟩:=aG h
  refine Oc (bg (eK 102 e2) s7 rfl trivial rfl rfl) (ae.bB 102 rfl (Oc (gm kB rfl rfl) (Oc (c6 fY rfl rfl rfl rfl (Nat.le_of_ble_eq_true rfl) rfl) ?_)))
  refine ae.af ⟨[(4,Pt 101 0)],[(101,.box 37 [.sl 1 (x_2.map eI),.i 0])]⟩ rfl (ab.ret ?_)
  obtain rfl:=Option.some.inj h
  refine Fin.ag ⟨[(4,_)],[(101,_)]⟩ rfl (Fin.aP [.agg [.sl 1 (x_2.map eI),.i 0]] (.inl rfl) rfl (.cons (.agg fY rfl rfl rfl rfl) .nil) ⟨rfl,rfl⟩)
def bT (F:Nat) (fixed0:List Bool) (links0:List A2):Option lB :=
 (bG F fixed0 links0).bind fun x_1=>if (!x_1) = true then (some (⟨[],1⟩:lB)) else ((bL F fixed0 links0).bind fun x_2=>(bC F fixed0 links0).bind fun x_3=>Option.bind (iter F (bK fun out_5 i_6=>if (decide (i_6 < (x_2.length:Int))) = true then (Option.bind (Option.bind (iter F (bK fun out_9 k_10=>dI (IntKind.i64.wrap ((fixed0.length:Int) + 1)) fun x_12=>if (decide (k_10 ≤ x_12)) = true then (Option.bind (Option.bind (if (decide ((fixed0.length:Int) < k_10)) = true then (some (-1)) else (some k_10)) (fun want_14=>Option.bind (iter F (bK fun out_15 n_16=>(aE x_2 i_6).bind fun x_18=>if (decide (n_16 < (x_18.length:Int))) = true then (Option.bind ((aE x_2 i_6).bind fun x_20=>(aE x_20 n_16).bind fun x_21=>(aE x_3 x_21).bind fun x_22=>if (decide (x_22 = want_14)) = true then ((aE x_2 i_6).bind fun x_23=>(aE x_23 n_16).bind fun x_24=>(dv out_15 [x_24]).bind fun x_25=>some x_25) else (some out_15)) (fun out_19=>some (.inl (out_19,IntKind.i64.wrap (n_16 + 1))))) else (some (.inr out_15))) (out_9,0)) (fun out_17=>some out_17))) (fun out_13=>some (.inl (out_13,IntKind.i64.wrap (k_10 + 1))))) else (some (.inr out_9))) (out_5,1)) (fun out_11=>some out_11)) (fun out_8=>some (.inl (out_8,IntKind.i64.wrap (i_6 + 1))))) else (some (.inr out_5))) ([],0)) (fun out_4=>some (⟨out_4,0⟩:lB)))
theorem iK {F:Nat} {fixed0:List Bool} {links0:List A2} {r:lB} (h:bT F fixed0 links0 = some r):av Try.prog [] 17 [] [.one (.sl 1 (fixed0.map eB)),.one (.sl 2 (links0.map (bW .i64)))] (Is [] (.b (.agg (oR r)))):=by
 unfold bT at h
 refine av.intro 76 Try.func17 Try.ntmps17 rfl (by simp) fun E=>?_
 show ab _ E ⟨76,[],[],[]⟩ _ ⟨[(0,.b (.one (.sl 1 (fixed0.map eB)))),(1,.b (.one (.sl 2 (links0.map (bW .i64)))))],[]⟩ _
 refine ab.seq (ab.aa ?_)
 refine Oc (bc (k:=101) lQ rfl) (ae.af ⟨[(0,.b (.one (.sl 1 (fixed0.map eB)))),(1,.b (.one (.sl 2 (links0.map (bW .i64))))),(4,Pt 101 0)],[(101,.box 37 [.nil,.i 0])]⟩ rfl (ab.seq (ab.aa ?_)))
 refine Oc om (Oc om ?_)
 obtain ⟨x_1,e1,h⟩:=aG h
 refine Oc (aO (dD e1) qy rfl rfl) (Oc oa ?_)
 refine ae.af ⟨[(0,_),(1,_),(4,_),(5,B x_1)],[(101,_)]⟩ rfl (ab.seq (ab.seq (ab.aa ?_)))
 refine Oc om (Oc (cU rfl) ?_)
 refine ae.af ⟨[(0,_),(1,_),(4,_),(17,B (!x_1))],[(101,_)]⟩ rfl (ab.ite h rfl (fun _ h=>?_) (fun _ h=>?_))
 ·refine ab.seq (ab.aa ?_)
  refine Oc (bu.sq (.sl (size:=1) (by decide) (.same (.nil))) (gm kB rfl rfl)) (Oc (c6 fY rfl rfl rfl rfl (Nat.le_of_ble_eq_true rfl) rfl) ?_)
  refine ae.af ⟨[(4,_)],[(101,.box 37 [.sl 1 ([].map eI),.i 1])]⟩ rfl (ab.ret (Fin.aR ?_))
  obtain rfl:=Option.some.inj h
  refine Fin.ag ⟨[(4,_)],[(101,_)]⟩ rfl (Fin.aP [.agg [.sl 1 ([].map eI),.i 1]] (.inl rfl) rfl (.cons (.agg fY rfl rfl rfl rfl) .nil) ⟨rfl,rfl⟩)
 ·refine ab.skip (Fin.ag ⟨[(0,_),(1,_),(4,_)],[(101,_)]⟩ rfl (Fin.then (ab.seq (ab.aa ?_))))
  refine Oc om (Oc om ?_)
  obtain ⟨x_2,e2,h⟩:=aG h
  refine Oc (bg (eu 102 e2) s8 rfl trivial rfl rfl) (Oc oa ?_)
  refine ae.af ⟨[(0,_),(1,_),(4,_),(6,.b (.row 102))],[(101,_),(102,.row 30 1 (x_2.map (eL 1 eI)))]⟩ rfl (ab.seq (ab.aa ?_))
  refine Oc om (Oc om ?_)
  obtain ⟨x_3,e3,h⟩:=aG h
  refine Oc (bg (eK 103 e3) s7 rfl trivial rfl rfl) (Oc oa ?_)
  refine ae.af ⟨[(0,_),(4,_),(6,_),(7,.b (.row 103))],[(101,_),(102,_),(103,.row 3 1 (x_3.map eI))]⟩ rfl (ab.seq (ab.aa ?_))
  refine Oc oa (ae.af ⟨[(0,_),(4,_),(6,_),(7,_),(8,.b (.one (.nil)))],[(101,_),(102,_),(103,_)]⟩ rfl ?_)
  obtain ⟨v4,h5,h⟩:=aG h
  refine ab.bM (v:=v4) (fun (out_4:List Int)=>⟨[(4,Pt 101 0),(8,.b (.row 105))],[(101,.box 37 [.nil,.i 0]),(105,.row 3 1 (out_4.map eI))]⟩) (fun z=>z) ?_ ?_
  ·refine ab.seq (ab.aa ?_)
   refine Oc oa (ae.af ⟨[(0,_),(4,_),(6,_),(7,_),(8,_),(9,I 0)],[(101,_),(102,_),(103,_)]⟩ rfl (ab.block (ab.c4 8 105 1 3 rfl (by decide) rfl (ab.bS h5 (bK fun (out_5:List Int) (i_6:Int)=>⟨[(0,.b (.one (.sl 1 (fixed0.map eB)))),(4,Pt 101 0),(6,.b (.row 102)),(7,.b (.row 103)),(8,.b (.row 105)),(9,I i_6)],[(101,.box 37 [.nil,.i 0]),(102,.row 30 1 (x_2.map (eL 1 eI))),(103,.row 3 1 (x_3.map eI)),(105,.row 3 1 (out_5.map eI))]⟩) [0,4,6,7,8,9] [101,102,103,105] rfl ?_))))
   rintro ⟨out_5,i_6⟩ o6 h7 hy8
   refine ab.seq (ab.seq (ab.aa ?_))
   refine Oc om (Oc om (Oc (fm jz rfl rfl (List.length_map _)) (Oc (a7 rfl rfl) ?_)))
   refine ae.af ⟨[(0,_),(4,_),(6,_),(7,_),(8,_),(9,_),(28,B (decide (i_6 < (x_2.length:Int))))],[(101,_),(102,_),(103,_),(105,_)]⟩ rfl (ab.ite h7 rfl (fun _ h7=>?_) (fun _ h7=>?_))
   ·refine ab.skip (Fin.ag ⟨[(0,_),(4,_),(6,_),(7,_),(8,_),(9,_)],[(101,_),(102,_),(103,_),(105,_)]⟩ rfl (Fin.then ?_))
    obtain ⟨v9,h10,h7⟩:=aG h7
    refine ab.bM (v:=v9) (fun (out_8:List Int)=>⟨[(0,.b (.one (.sl 1 (fixed0.map eB)))),(4,Pt 101 0),(6,.b (.row 102)),(7,.b (.row 103)),(8,.b (.row 105)),(9,I i_6)],[(101,.box 37 [.nil,.i 0]),(102,.row 30 1 (x_2.map (eL 1 eI))),(103,.row 3 1 (x_3.map eI)),(105,.row 3 1 (out_8.map eI))]⟩) (fun z=>z) ?_ ?_
    ·refine ab.block (ab.seq (ab.aa ?_))
     refine Oc oa (ae.af ⟨[(0,_),(4,_),(6,_),(7,_),(8,_),(9,_),(10,I 1)],[(101,_),(102,_),(103,_),(105,_)]⟩ rfl (ab.block ?_))
     obtain ⟨v11,h12,h10⟩:=aG h10
     refine ab.bS h12 (bK fun (out_9:List Int) (k_10:Int)=>⟨[(0,.b (.one (.sl 1 (fixed0.map eB)))),(4,Pt 101 0),(6,.b (.row 102)),(7,.b (.row 103)),(8,.b (.row 105)),(9,I i_6),(10,I k_10)],[(101,.box 37 [.nil,.i 0]),(102,.row 30 1 (x_2.map (eL 1 eI))),(103,.row 3 1 (x_3.map eI)),(105,.row 3 1 (out_9.map eI))]⟩) [0,4,6,7,8,9,10] [101,102,103,105] rfl ?_
     rintro ⟨out_9,k_10⟩ o13 h14 hy15
     refine ab.seq (ab.seq (ab.aa ?_))
     refine Oc om (Oc om (Oc (au cT rfl (List.length_map _)) ?_))
     refine ae.iq .i64 h14 rfl (aS rfl rfl) (fun x_12 h14=>?_)
     refine Oc (jO rfl rfl) (ae.af ⟨[(0,_),(4,_),(6,_),(7,_),(8,_),(9,_),(10,_),(35,B (decide (k_10 ≤ x_12)))],[(101,_),(102,_),(103,_),(105,_)]⟩ rfl (ab.ite h14 rfl (fun _ h14=>?_) (fun _ h14=>?_)))
     ·refine ab.skip (Fin.ag ⟨[(0,_),(4,_),(6,_),(7,_),(8,_),(9,_),(10,_)],[(101,_),(102,_),(103,_),(105,_)]⟩ rfl (Fin.then ?_))
      obtain ⟨v16,h17,h14⟩:=aG h14
      refine ab.bM (v:=v16) (fun (out_13:List Int)=>⟨[(0,.b (.one (.sl 1 (fixed0.map eB)))),(4,Pt 101 0),(6,.b (.row 102)),(7,.b (.row 103)),(8,.b (.row 105)),(9,I i_6),(10,I k_10)],[(101,.box 37 [.nil,.i 0]),(102,.row 30 1 (x_2.map (eL 1 eI))),(103,.row 3 1 (x_3.map eI)),(105,.row 3 1 (out_13.map eI))]⟩) (fun z=>z) ?_ ?_
      ·refine ab.block (ab.seq (ab.aa ?_))
       refine Oc om (Oc oa ?_)
       refine ae.af ⟨[(0,_),(4,_),(6,_),(7,_),(8,_),(9,_),(10,_),(11,I k_10)],[(101,_),(102,_),(103,_),(105,_)]⟩ rfl ?_
       obtain ⟨v18,h19,h17⟩:=aG h17
       refine ab.bM (v:=v18) (fun (want_14:Int)=>⟨[(0,.b (.one (.sl 1 (fixed0.map eB)))),(4,Pt 101 0),(6,.b (.row 102)),(7,.b (.row 103)),(8,.b (.row 105)),(9,I i_6),(10,I k_10),(11,I want_14)],[(101,.box 37 [.nil,.i 0]),(102,.row 30 1 (x_2.map (eL 1 eI))),(103,.row 3 1 (x_3.map eI)),(105,.row 3 1 (out_9.map eI))]⟩) (fun z=>z) ?_ ?_
       ·refine ab.seq (ab.aa ?_)
        refine Oc om (Oc om (Oc (au cT rfl (List.length_map _)) (Oc (fB rfl rfl) ?_)))
        refine ae.af ⟨[(0,_),(4,_),(6,_),(7,_),(8,_),(9,_),(10,_),(11,_),(42,B (decide ((fixed0.length:Int) < k_10)))],[(101,_),(102,_),(103,_),(105,_)]⟩ rfl (ab.ite h19 rfl (fun _ h19=>?_) (fun _ h19=>?_))
        ·refine ab.aa (Oc oa (ae.nil ?_))
         exact Fin.join [0,4,6,7,8,9,10,11] [101,102,103,105] (-1) (Option.some.inj h19) rfl
        ·refine ab.skip ?_
         exact Fin.join [0,4,6,7,8,9,10,11] [101,102,103,105] k_10 (Option.some.inj h19) rfl
       ·rintro want_14 hv
        subst v18
        refine ab.seq (ab.aa ?_)
        refine Oc oa (ae.af ⟨[(0,_),(4,_),(6,_),(7,_),(8,_),(9,_),(10,_),(11,_),(12,I 0)],[(101,_),(102,_),(103,_),(105,_)]⟩ rfl (ab.block ?_))
        obtain ⟨v20,h21,h17⟩:=aG h17
        refine ab.bS h21 (bK fun (out_15:List Int) (n_16:Int)=>⟨[(0,.b (.one (.sl 1 (fixed0.map eB)))),(4,Pt 101 0),(6,.b (.row 102)),(7,.b (.row 103)),(8,.b (.row 105)),(9,I i_6),(10,I k_10),(11,I want_14),(12,I n_16)],[(101,.box 37 [.nil,.i 0]),(102,.row 30 1 (x_2.map (eL 1 eI))),(103,.row 3 1 (x_3.map eI)),(105,.row 3 1 (out_15.map eI))]⟩) [0,4,6,7,8,9,10,11,12] [101,102,103,105] rfl ?_
        rintro ⟨out_15,n_16⟩ o22 h23 hy24
        refine ab.seq (ab.seq (ab.aa ?_))
        refine Oc om (Oc om (Oc om ?_))
        obtain ⟨x_18,e25,h23⟩:=aG h23
        refine Oc (ao bN (aD e25) (aQ e25) rfl rfl rfl rfl) (Oc (aH (i:=(i_6:Int).toNat) (f:=0) aU rfl rfl rfl (aB (e:=(eL 1 eI)) e25) rfl) (Oc (au fN rfl (List.length_map _)) (Oc (a7 rfl rfl) ?_)))
        refine ae.af ⟨[(0,_),(4,_),(6,_),(7,_),(8,_),(9,_),(10,_),(11,_),(12,_),(49,B (decide (n_16 < (x_18.length:Int))))],[(101,_),(102,_),(103,_),(105,_)]⟩ rfl (ab.ite h23 rfl (fun _ h23=>?_) (fun _ h23=>?_))
        ·refine ab.skip (Fin.ag ⟨[(0,_),(4,_),(6,_),(7,_),(8,_),(9,_),(10,_),(11,_),(12,_)],[(101,_),(102,_),(103,_),(105,_)]⟩ rfl (Fin.then ?_))
         obtain ⟨v26,h27,h23⟩:=aG h23
         refine ab.bM (v:=v26) (fun (out_19:List Int)=>⟨[(0,.b (.one (.sl 1 (fixed0.map eB)))),(4,Pt 101 0),(6,.b (.row 102)),(7,.b (.row 103)),(8,.b (.row 105)),(9,I i_6),(10,I k_10),(11,I want_14),(12,I n_16)],[(101,.box 37 [.nil,.i 0]),(102,.row 30 1 (x_2.map (eL 1 eI))),(103,.row 3 1 (x_3.map eI)),(105,.row 3 1 (out_19.map eI))]⟩) (fun z=>z) ?_ ?_
         ·refine ab.block (ab.seq (ab.aa ?_))
          refine Oc om (Oc om (Oc om ?_))
          obtain ⟨x_20,e28,h27⟩:=aG h27
          refine Oc (ao bN (aD e28) (aQ e28) rfl rfl rfl rfl) (Oc (aH (i:=(i_6:Int).toNat) (f:=0) aU rfl rfl rfl (aB (e:=(eL 1 eI)) e28) rfl) (Oc om ?_))
          obtain ⟨x_21,e29,h27⟩:=aG h27
          refine Oc (aA ak (aD e29) (aB (e:=eI) e29) rfl rfl) (ae.ag ⟨[(0,_),(4,_),(6,_),(7,_),(8,_),(9,_),(10,_),(11,_),(12,_),(52,.b (.row 103)),(58,.b (.cz [.i x_21]))],[(101,_),(102,_),(103,_),(105,_)]⟩ rfl (Oc (ax aw rfl rfl) ?_))
          obtain ⟨x_22,e30,h27⟩:=aG h27
          refine Oc (ao ak (aD e30) (aQ e30) rfl rfl rfl rfl) (Oc (aH (i:=(x_21:Int).toNat) (f:=0) aw rfl rfl rfl (aB (e:=eI) e30) rfl) (Oc om (Oc (dd rfl rfl) ?_)))
          refine ae.af ⟨[(0,_),(4,_),(6,_),(7,_),(8,_),(9,_),(10,_),(11,_),(12,_),(63,B (decide (x_22 = want_14)))],[(101,_),(102,_),(103,_),(105,_)]⟩ rfl (ab.ite h27 rfl (fun _ h27=>?_) (fun _ h27=>?_))
          ·refine ab.aa (Oc om (Oc om (Oc om ?_)))
           obtain ⟨x_23,e31,h27⟩:=aG h27
           refine Oc (ao bN (aD e31) (aQ e31) rfl rfl rfl rfl) (Oc (aH (i:=(i_6:Int).toNat) (f:=0) aU rfl rfl rfl (aB (e:=(eL 1 eI)) e31) rfl) (Oc om ?_))
           obtain ⟨x_24,e32,h27⟩:=aG h27
           refine Oc (aA ak (aD e32) (aB (e:=eI) e32) rfl rfl) (ae.ag ⟨[(0,_),(4,_),(6,_),(7,_),(8,_),(9,_),(10,_),(11,_),(12,_),(64,.b (.row 105)),(70,.b (.cz [.i x_24]))],[(101,_),(102,_),(103,_),(105,_)]⟩ rfl (Oc (ax aw rfl rfl) (Oc (az (k:=106) (es:=[x_24].map eI) ak rfl rfl (aW fun _=>rfl) rfl (by decide) (by decide) rfl) ?_)))
           obtain ⟨x_25,e33,h27⟩:=aG h27
           refine Oc (bh ak (dy e33) (dw e33) rfl rfl rfl rfl (bZ e33) rfl) (Oc oa ?_)
           refine ae.nil (Fin.ai ?_)
           exact Fin.join [0,4,6,7,8,9,10,11,12] [101,102,103,105] x_25 (Option.some.inj h27) rfl
          ·refine ab.skip (Fin.ai ?_)
           exact Fin.join [0,4,6,7,8,9,10,11,12] [101,102,103,105] out_15 (Option.some.inj h27) rfl
         ·rintro out_19 hv
          subst v26
          refine ab.aa (Oc om (Oc (aS rfl rfl) (Oc oa ?_)))
          refine ae.nil ?_
          exact Fin.bl [0,4,6,7,8,9,10,11,12] [101,102,103,105] (out_19,IntKind.i64.wrap (n_16 + 1)) (Option.some.inj h23) rfl
        ·refine ab.exit (Fin.aj ?_)
         obtain rfl:=hy24 _ (Option.some.inj h23).symm
         refine Fin.aj (Fin.ay (Fin.ai ?_))
         exact Fin.join [0,4,6,7,8,9,10] [101,102,103,105] out_15 (Option.some.inj h17) rfl
      ·rintro out_13 hv
       subst v16
       refine ab.aa (Oc om (Oc (aS rfl rfl) (Oc oa ?_)))
       refine ae.nil ?_
       exact Fin.bl [0,4,6,7,8,9,10] [101,102,103,105] (out_13,IntKind.i64.wrap (k_10 + 1)) (Option.some.inj h14) rfl
     ·refine ab.exit (Fin.aj ?_)
      obtain rfl:=hy15 _ (Option.some.inj h14).symm
      refine Fin.aj (Fin.ay (Fin.ai ?_))
      exact Fin.join [0,4,6,7,8,9] [101,102,103,105] out_9 (Option.some.inj h10) rfl
    ·rintro out_8 hv
     subst v9
     refine ab.aa (Oc om (Oc (aS rfl rfl) (Oc oa ?_)))
     refine ae.nil ?_
     exact Fin.bl [0,4,6,7,8,9] [101,102,103,105] (out_8,IntKind.i64.wrap (i_6 + 1)) (Option.some.inj h7) rfl
   ·refine ab.exit (Fin.aj ?_)
    obtain rfl:=hy8 _ (Option.some.inj h7).symm
    refine Fin.aj (Fin.ay ?_)
    exact Fin.join [4,8] [101,105] out_5 rfl rfl
  ·rintro out_4 hv
   subst v4
   refine ab.seq (ab.aa ?_)
   refine Oc om (ae.bB 105 rfl (Oc (gm kB rfl rfl) (Oc (c6 fY rfl rfl rfl rfl (Nat.le_of_ble_eq_true rfl) rfl) ?_)))
   refine ae.af ⟨[(4,Pt 101 0)],[(101,.box 37 [.sl 1 (out_4.map eI),.i 0])]⟩ rfl (ab.ret ?_)
   obtain rfl:=Option.some.inj h
   refine Fin.ag ⟨[(4,_)],[(101,_)]⟩ rfl (Fin.aP [.agg [.sl 1 (out_4.map eI),.i 0]] (.inl rfl) rfl (.cons (.agg fY rfl rfl rfl rfl) .nil) ⟨rfl,rfl⟩)
def bD (F:Nat) (fixed0:List Bool) (links0:List A2):Option Bool :=
 (dG F fixed0 links0).bind fun x_1=>if (!x_1) = true then ((ca F).bind fun x_2=>some x_2) else (Option.bind (cP F fixed0 links0) (bK fun x_3 x_4=>Option.bind (bQ F fixed0 links0) (bK fun x_5 x_6=>Option.bind (cB F fixed0 links0) (bK fun x_7 x_8=>(cW F fixed0 links0).bind fun x_9=>(bP F fixed0 links0).bind fun x_10=>(bT F fixed0 links0).bind fun x_11=>(ca F).bind fun x_12=>(cy x_12 (bE F x_3 x_9.L)).bind fun x_13=>(cy ((x_12 && x_13) && (decide (x_4 = x_9.E))) (bd F x_5 x_10.L)).bind fun x_14=>dI ((((x_12 && x_13) && (decide (x_4 = x_9.E))) && x_14) && (decide (x_6 = x_10.E))) fun x_15=>(cy x_15 (bd F x_7 x_11.L)).bind fun x_16=>some ((x_15 && x_16) && (decide (x_8 = x_11.E)))))))
theorem dV {F:Nat} {fixed0:List Bool} {links0:List A2} {r:Bool} (h:bD F fixed0 links0 = some r):av Try.prog [] 3 [] [.one (.sl 1 (fixed0.map eB)),.one (.sl 2 (links0.map (bW .i64)))] (Is [] (.b (.one (.bool r)))):=by
 unfold bD at h
 refine av.intro 83 Try.func3 Try.ntmps3 rfl (by simp) fun E=>?_
 show ab _ E ⟨83,[],[],[]⟩ _ ⟨[(0,.b (.one (.sl 1 (fixed0.map eB)))),(1,.b (.one (.sl 2 (links0.map (bW .i64)))))],[]⟩ _
 refine ab.seq (ab.aa ?_)
 refine Oc oa (ae.af ⟨[(0,.b (.one (.sl 1 (fixed0.map eB)))),(1,.b (.one (.sl 2 (links0.map (bW .i64)))))],[]⟩ rfl (ab.seq (ab.seq (ab.aa ?_))))
 refine Oc om (Oc om ?_)
 obtain ⟨x_1,e1,h⟩:=aG h
 refine Oc (aO (jx e1) goes10 rfl rfl) (Oc (cU rfl) ?_)
 refine ae.af ⟨[(0,_),(1,_),(17,B (!x_1))],[]⟩ rfl (ab.ite h rfl (fun _ h=>?_) (fun _ h=>?_))
 ·refine ab.seq (ab.aa ?_)
  obtain ⟨x_2,e2,h⟩:=aG h
  refine Oc (aO (eO e2) te rfl rfl) (Oc oa ?_)
  refine ae.af ⟨[(4,B x_2)],[]⟩ rfl (ab.ret (Fin.aR ?_))
  obtain rfl:=Option.some.inj h
  refine Fin.ag ⟨[(4,_)],[]⟩ rfl (Fin.aP [.one (.bool x_2)] (.inl rfl) rfl (.cons (.tmp rfl) .nil) ⟨rfl,rfl⟩)
 ·refine ab.skip (Fin.ag ⟨[(0,_),(1,_)],[]⟩ rfl (Fin.then (ab.seq (ab.aa ?_))))
  refine Oc om (Oc om ?_)
  obtain ⟨⟨x_3,x_4⟩,e3,h⟩:=aG h
  refine Oc (aO (ja e3) qD rfl rfl) (Oc om (Oc (aI rfl rfl) ?_))
  refine ae.ag ⟨[(0,_),(1,_),(19,.eT [.one (.sl 1 (x_3.map (eL 1 eI))),.one (.i x_4)]),(23,.b (.one (.sl 1 (x_3.map (eL 1 eI)))))],[]⟩ rfl (Oc (aI rfl rfl) (Oc oa (Oc oa ?_)))
  refine ae.af ⟨[(0,_),(1,_),(5,.b (.one (.sl 1 (x_3.map (eL 1 eI))))),(6,I x_4)],[]⟩ rfl (ab.seq (ab.aa ?_))
  refine Oc om (Oc om ?_)
  obtain ⟨⟨x_5,x_6⟩,e4,h⟩:=aG h
  refine Oc (bg (fj 101 e4) qC rfl trivial rfl rfl) (Oc om (Oc (aI rfl rfl) ?_))
  refine ae.ag ⟨[(0,_),(1,_),(5,_),(6,_),(25,.eT [.row 101,.one (.i x_6)]),(29,.b (.row 101))],[(101,.row 3 1 (x_5.map eI))]⟩ rfl (Oc (aI rfl rfl) (Oc oa (Oc oa ?_)))
  refine ae.af ⟨[(0,_),(1,_),(5,_),(6,_),(7,.b (.row 101)),(8,I x_6)],[(101,_)]⟩ rfl (ab.seq (ab.aa ?_))
  refine Oc om (Oc om ?_)
  obtain ⟨⟨x_7,x_8⟩,e5,h⟩:=aG h
  refine Oc (aO (iB e5) td rfl rfl) (Oc om (Oc (aI rfl rfl) ?_))
  refine ae.ag ⟨[(0,_),(1,_),(5,_),(6,_),(7,_),(8,_),(31,.eT [.one (.sl 1 (x_7.map eI)),.one (.i x_8)]),(35,.b (.one (.sl 1 (x_7.map eI))))],[(101,_)]⟩ rfl (Oc (aI rfl rfl) (Oc oa (Oc oa ?_)))
  refine ae.af ⟨[(0,_),(1,_),(5,_),(6,_),(7,_),(8,_),(9,.b (.one (.sl 1 (x_7.map eI)))),(10,I x_8)],[(101,_)]⟩ rfl (ab.seq (ab.aa ?_))
  refine Oc om (Oc om ?_)
  obtain ⟨x_9,e6,h⟩:=aG h
  refine Oc (aO (jd e6) goes15 rfl rfl) (Oc (bc (k:=102) pI rfl) (Oc (c6 lD rfl rfl rfl rfl (Nat.le_of_ble_eq_true rfl) rfl) ?_))
  refine ae.af ⟨[(0,_),(1,_),(5,_),(6,_),(7,_),(8,_),(9,_),(10,_),(11,Pt 102 0)],[(101,_),(102,.box 34 (eSets x_9))]⟩ rfl (ab.seq (ab.aa ?_))
  refine Oc om (Oc om ?_)
  obtain ⟨x_10,e7,h⟩:=aG h
  refine Oc (aO (ik e7) goes16 rfl rfl) (Oc (bc (k:=103) lQ rfl) (Oc (c6 fY rfl rfl rfl rfl (Nat.le_of_ble_eq_true rfl) rfl) ?_))
  refine ae.af ⟨[(0,_),(1,_),(5,_),(6,_),(7,_),(8,_),(9,_),(10,_),(11,_),(12,Pt 103 0)],[(101,_),(102,_),(103,.box 37 (oR x_10))]⟩ rfl (ab.seq (ab.aa ?_))
  refine Oc om (Oc om ?_)
  obtain ⟨x_11,e8,h⟩:=aG h
  refine Oc (aO (iK e8) goes17 rfl rfl) (Oc (bc (k:=104) lQ rfl) (Oc (c6 fY rfl rfl rfl rfl (Nat.le_of_ble_eq_true rfl) rfl) ?_))
  refine ae.af ⟨[(5,_),(6,_),(7,_),(8,_),(9,_),(10,_),(11,_),(12,_),(13,Pt 104 0)],[(101,_),(102,_),(103,_),(104,.box 37 (oR x_11))]⟩ rfl (ab.seq (ab.aa ?_))
  obtain ⟨x_12,e9,h⟩:=aG h
  refine Oc (aO (eO e9) te rfl rfl) (Oc om ?_)
  refine cS x_12 [] (fun g10=>trivial) (fun g10=>om) (cS x_12 [] (fun g11=>by exact trivial) (fun g11=>bq rJ rfl rfl) (cS x_12 [49] (fun g12=>by exact ⟨g12,trivial⟩) (fun g12=>ba q8 rfl rfl rfl) (ae.ag ⟨[(6,_),(7,_),(8,_),(9,_),(10,_),(11,_),(12,_),(13,_),(47,B x_12),(48,.opt x_12 (.one (.sl 1 (x_3.map (eL 1 eI))))),(50,.opt x_12 (.one (.sl 1 (x_9.L.map (eL 1 eI)))))],[(101,_),(102,_),(103,_),(104,_)]⟩ rfl ?_)))
  obtain ⟨x_13,e14,h⟩:=aG h
  refine cS x_12 [48,50] (fun g13=>⟨g13,g13,trivial⟩) (fun g13=>aO (dg (gc e14 g13)) qB rfl rfl) (Oc (aM (fun e=>e) rfl rfl rfl rfl) (Oc om ?_))
  refine cS (x_12 && x_13) [] (fun g15=>trivial) (fun g15=>om) (cS (x_12 && x_13) [] (fun g16=>by exact trivial) (fun g16=>bq rI rfl rfl) (cS (x_12 && x_13) [55] (fun g17=>by exact ⟨g17,trivial⟩) (fun g17=>ba oV rfl rfl rfl) (cS (x_12 && x_13) [54,56] (fun g18=>by exact ⟨g18,g18,trivial⟩) (fun g18=>dd rfl rfl) (Oc (aM (fun e=>e) rfl rfl rfl rfl) (ae.ag ⟨[(7,_),(8,_),(9,_),(10,_),(12,_),(13,_),(58,B ((x_12 && x_13) && (decide (x_4 = x_9.E))))],[(101,_),(103,_),(104,_)]⟩ rfl ?_)))))
  refine Oc om (cS ((x_12 && x_13) && (decide (x_4 = x_9.E))) [] (fun g19=>by exact trivial) (fun g19=>om) (cS ((x_12 && x_13) && (decide (x_4 = x_9.E))) [] (fun g20=>by exact trivial) (fun g20=>bq oh rfl rfl) (cS ((x_12 && x_13) && (decide (x_4 = x_9.E))) [61] (fun g21=>by exact ⟨g21,trivial⟩) (fun g21=>ba aU rfl rfl rfl) ?_)))
  obtain ⟨x_14,e23,h⟩:=aG h
  refine cS ((x_12 && x_13) && (decide (x_4 = x_9.E))) [60,62] (fun g22=>⟨g22,g22,trivial⟩) (fun g22=>jX (bw (gc e23 g22)) jP rfl CP.iX) (Oc (aM (fun e=>e) rfl rfl rfl rfl) (ae.ag ⟨[(8,_),(9,_),(10,_),(12,_),(13,_),(64,B (((x_12 && x_13) && (decide (x_4 = x_9.E))) && x_14))],[(103,_),(104,_)]⟩ rfl (Oc om (cS (((x_12 && x_13) && (decide (x_4 = x_9.E))) && x_14) [] (fun g24=>by exact trivial) (fun g24=>om) (cS (((x_12 && x_13) && (decide (x_4 = x_9.E))) && x_14) [] (fun g25=>by exact trivial) (fun g25=>bq og rfl rfl) ?_)))))
  refine cS (((x_12 && x_13) && (decide (x_4 = x_9.E))) && x_14) [67] (fun g26=>⟨g26,trivial⟩) (fun g26=>ba oV rfl rfl rfl) (cS (((x_12 && x_13) && (decide (x_4 = x_9.E))) && x_14) [66,68] (fun g27=>⟨g27,g27,trivial⟩) (fun g27=>dd rfl rfl) (ae.jA h rfl (aM (fun e=>e) rfl rfl rfl rfl) (fun x_15 h=>?_)))
  refine Oc om (cS x_15 [] (fun g28=>by exact trivial) (fun g28=>om) (ae.ag ⟨[(10,_),(13,_),(71,B x_15),(72,.opt x_15 (.one (.sl 1 (x_7.map eI))))],[(104,_)]⟩ rfl (cS x_15 [] (fun g29=>by exact trivial) (fun g29=>bq oh rfl rfl) (cS x_15 [73] (fun g30=>by exact ⟨g30,trivial⟩) (fun g30=>ba aU rfl rfl rfl) ?_))))
  obtain ⟨x_16,e32,h⟩:=aG h
  refine cS x_15 [72,74] (fun g31=>⟨g31,g31,trivial⟩) (fun g31=>aO (bw (gc e32 g31)) jP rfl rfl) (Oc (aM (fun e=>e) rfl rfl rfl rfl) (Oc om ?_))
  refine cS (x_15 && x_16) [] (fun g33=>trivial) (fun g33=>om) (ae.ag ⟨[(13,_),(77,B (x_15 && x_16)),(78,.opt (x_15 && x_16) (.one (.i x_8)))],[(104,_)]⟩ rfl (cS (x_15 && x_16) [] (fun g34=>by exact trivial) (fun g34=>bq og rfl rfl) (cS (x_15 && x_16) [79] (fun g35=>by exact ⟨g35,trivial⟩) (fun g35=>ba oV rfl rfl rfl) (cS (x_15 && x_16) [78,80] (fun g36=>by exact ⟨g36,g36,trivial⟩) (fun g36=>dd rfl rfl) (Oc (aM (fun e=>e) rfl rfl rfl rfl) (Oc oa ?_))))))
  refine ae.af ⟨[(4,B ((x_15 && x_16) && (decide (x_8 = x_11.E))))],[]⟩ rfl (ab.ret ?_)
  obtain rfl:=Option.some.inj h
  refine Fin.ag ⟨[(4,_)],[]⟩ rfl (Fin.aP [.one (.bool ((x_15 && x_16) && (decide (x_8 = x_11.E))))] (.inl rfl) rfl (.cons (.tmp rfl) .nil) ⟨rfl,rfl⟩)
end Go.Proofs.Ytgojigdbelkgoaa

